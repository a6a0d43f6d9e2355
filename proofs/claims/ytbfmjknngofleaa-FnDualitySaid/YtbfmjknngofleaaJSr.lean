/- Distributive lattices: irreducible elements are prime; point maps of lattice maps, lattice maps of point maps. No program here. -/
import Derived.Test.YtbfmjknngofleaaJSq
namespace Go.Proofs.Ytbfmjknngofleaa

def distB (rows : List (List Int)) : Bool := goodL rows && !(uneven3 rows).isSome
structure Dst (rows : List (List Int)) : Prop where
  good : goodL rows = true
  lat : Lat rows
  dist : ∀ x y z, inR rows x → inR rows y → inR rows z → meetL rows x (joinL rows y z) = joinL rows (meetL rows x y) (meetL rows x z)
theorem inR_nat {rows : List (List Int)} {x : Int} (h : inR rows x) : ((x.toNat : Nat) : Int) = x ∧ x.toNat < rows.length := by unfold inR at h; omega
theorem dst_of {rows : List (List Int)} (h : distB rows = true) : Dst rows := by
  unfold distB at h
  rw [Bool.and_eq_true] at h
  refine ⟨h.1, goodL_lat h.1, fun x y z hx hy hz => ?_⟩
  have hn : uneven3 rows = none := by
    cases hu : uneven3 rows with
    | none => rfl
    | some t => rw [hu] at h; exact absurd h.2 (by simp)
  obtain ⟨ex, lx⟩ := inR_nat hx
  obtain ⟨ey, ly⟩ := inR_nat hy
  obtain ⟨ez, lz⟩ := inR_nat hz
  unfold uneven3 first3 triples at hn
  have := List.find?_eq_none.1 hn (x.toNat, y.toNat, z.toNat) (List.mem_flatMap.2 ⟨x.toNat, List.mem_range.2 lx, List.mem_flatMap.2 ⟨y.toNat, List.mem_range.2 ly, List.mem_map.2 ⟨z.toNat, List.mem_range.2 lz, rfl⟩⟩⟩)
  unfold unevenP at this
  rw [ex, ey, ez] at this
  simpa using this

theorem less_iff {rows : List (List Int)} {x y : Int} : lessB rows x y = true ↔ x ≠ y ∧ leqB rows x y = true := by unfold lessB; simp
theorem cov_iff {rows : List (List Int)} {x y : Int} : coversB rows x y = true ↔ lessB rows x y = true ∧ ∀ z, inR rows z → lessB rows x z = true → lessB rows z y = true → False := by
  unfold coversB
  rw [Bool.and_eq_true, allN_iff]
  refine and_congr_right fun _ => ⟨fun h z hz h1 h2 => ?_, fun h k hk => ?_⟩
  · obtain ⟨e, l⟩ := inR_nat hz
    have := h z.toNat l
    unfold covP at this
    rw [e, h1, h2] at this
    exact absurd this (by decide)
  · unfold covP
    cases h1 : lessB rows x (k : Int) with
    | false => rfl
    | true =>
      cases h2 : lessB rows (k : Int) y with
      | false => rfl
      | true => exact (h (k : Int) ⟨by omega, by omega⟩ h1 h2).elim
theorem below_cover {rows : List (List Int)} (L : Lat rows) {x : Int} (hx : inR rows x) : ∀ (n : Nat) (y : Int), inR rows y → hN rows y ≤ n → lessB rows y x = true → ∃ c, inR rows c ∧ coversB rows c x = true ∧ leqB rows y c = true
  | n, y, hy, hn, h => by
    by_cases hc : coversB rows y x = true
    · exact ⟨y, hy, hc, L.refl y hy⟩
    · have : ∃ z, inR rows z ∧ lessB rows y z = true ∧ lessB rows z x = true := by
        rcases Classical.em (∃ z, inR rows z ∧ lessB rows y z = true ∧ lessB rows z x = true) with h' | h'
        · exact h'
        · exact absurd (cov_iff.2 ⟨h, fun z hz h1 h2 => h' ⟨z, hz, h1, h2⟩⟩) hc
      obtain ⟨z, hz, h1, h2⟩ := this
      have hl := hN_lt L hy hz h1
      match n, hn with
      | 0, hn => omega
      | n + 1, hn =>
        obtain ⟨c, hc1, hc2, hc3⟩ := below_cover L hx n z hz (by omega) h2
        exact ⟨c, hc1, hc2, L.trans _ _ _ hy hz hc1 (less_iff.1 h1).2 hc3⟩
theorem irr_cov {rows : List (List Int)} {x : Int} (hx : inR rows x) : irrB rows x.toNat = true ↔ ∃ c, inR rows c ∧ coversB rows c x = true ∧ ∀ c', inR rows c' → coversB rows c' x = true → c' = c := by
  unfold irrB
  rw [(inR_nat hx).1, decide_eq_true_eq]
  have hm : ∀ c, c ∈ upTo rows.length (fun y => coversB rows (y : Int) x) ↔ inR rows c ∧ coversB rows c x = true := fun c => by
    rw [upTo_mem]
    refine ⟨fun ⟨h1, h2, h3⟩ => ⟨⟨h1, h2⟩, ?_⟩, fun ⟨h, h3⟩ => ⟨h.1, h.2, ?_⟩⟩
    · rwa [show ((c.toNat : Nat) : Int) = c by omega] at h3
    · rwa [show ((c.toNat : Nat) : Int) = c by have := h.1; omega]
  constructor
  · intro h
    obtain ⟨c, hc⟩ := List.length_eq_one_iff.1 (show (upTo rows.length fun y => coversB rows (y : Int) x).length = 1 by omega)
    obtain ⟨h1, h2⟩ := (hm c).1 (by rw [hc]; simp)
    refine ⟨c, h1, h2, fun c' h1' h2' => ?_⟩
    have := (hm c').2 ⟨h1', h2'⟩
    rw [hc] at this
    simpa using this
  · rintro ⟨c, h1, h2, h3⟩
    have : (upTo rows.length fun y => coversB rows (y : Int) x) = [c] := sorted_ext _ _ (upTo_sorted _ _) (by simp) fun d => by
      rw [hm d]
      refine ⟨fun ⟨a, b⟩ => by rw [h3 d a b]; simp, fun h => ?_⟩
      have : d = c := by simpa using h
      subst this
      exact ⟨h1, h2⟩
    rw [this]; rfl
theorem irr_ne_bot {rows : List (List Int)} (hg : goodL rows = true) {j : Int} (hj : inR rows j) (h : irrB rows j.toNat = true) : j ≠ botL rows := fun e => by
  obtain ⟨c, h1, h2, -⟩ := (irr_cov hj).1 h
  have hl := less_iff.1 (cov_less h2)
  have L := goodL_lat hg
  exact hl.1 (L.anti _ _ h1 hj hl.2 (e ▸ bot_le hg h1))
/-- In a distributive lattice an irreducible element is prime. -/
theorem irr_prime {rows : List (List Int)} (D : Dst rows) {j x y : Int} (hj : inR rows j) (hx : inR rows x) (hy : inR rows y) (hi : irrB rows j.toNat = true) (h : leqB rows j (joinL rows x y) = true) : leqB rows j x = true ∨ leqB rows j y = true := by
  have L := D.lat
  obtain ⟨c, c1, c2, c3⟩ := (irr_cov hj).1 hi
  have hc := less_iff.1 (cov_less c2)
  have key : ∀ {u}, inR rows u → ¬ leqB rows j u = true → leqB rows (meetL rows j u) c = true := fun {u} hu hn => by
    have hm := L.meetR j u hj hu
    have hl : lessB rows (meetL rows j u) j = true := less_iff.2 ⟨fun e => hn (e ▸ L.meet2 j u hj hu), L.meet1 j u hj hu⟩
    obtain ⟨d, d1, d2, d3⟩ := below_cover L hj _ _ hm (Nat.le_refl _) hl
    rw [c3 d d1 d2] at d3
    exact d3
  rcases Classical.em (leqB rows j x = true) with h1 | h1
  · exact .inl h1
  · rcases Classical.em (leqB rows j y = true) with h2 | h2
    · exact .inr h2
    · exfalso
      have e1 := L.meet_le hj (L.joinR x y hx hy) h
      rw [D.dist j x y hj hx hy] at e1
      have e2 := L.joinG _ _ _ (L.meetR j x hj hx) (L.meetR j y hj hy) c1 (key hx h1) (key hy h2)
      rw [e1] at e2
      exact hc.1 (L.anti _ _ c1 hj hc.2 e2)
/-- A prime element is irreducible. -/
theorem prime_irr {rows : List (List Int)} (hg : goodL rows = true) {m : Int} (hm : inR rows m) (h0 : m ≠ botL rows) (hp : ∀ a b, inR rows a → inR rows b → leqB rows m (joinL rows a b) = true → leqB rows m a = true ∨ leqB rows m b = true) : irrB rows m.toNat = true := by
  have L := goodL_lat hg
  have hb := bot_in hg
  obtain ⟨c, c1, c2, -⟩ := below_cover L hm _ _ hb (Nat.le_refl _) (less_iff.2 ⟨fun e => h0 e.symm, bot_le hg hm⟩)
  refine (irr_cov hm).2 ⟨c, c1, c2, fun d d1 d2 => ?_⟩
  have hj := L.joinR c d c1 d1
  have lc := less_iff.1 (cov_less c2)
  have ld := less_iff.1 (cov_less d2)
  have hle := L.joinG c d m c1 d1 hm lc.2 ld.2
  have hne : joinL rows c d ≠ m := fun e => by
    rcases hp c d c1 d1 (by rw [e]; exact L.refl m hm) with h | h
    · exact lc.1 (L.anti _ _ c1 hm lc.2 h)
    · exact ld.1 (L.anti _ _ d1 hm ld.2 h)
  have hlj : lessB rows (joinL rows c d) m = true := less_iff.2 ⟨hne, hle⟩
  have same : ∀ u, inR rows u → coversB rows u m = true → leqB rows u (joinL rows c d) = true → u = joinL rows c d := fun u hu hc hl => by
    rcases Classical.em (u = joinL rows c d) with e | e
    · exact e
    · exact ((cov_iff.1 hc).2 _ hj (less_iff.2 ⟨e, hl⟩) hlj).elim
  rw [same d d1 d2 (L.join2 c d c1 d1)]
  exact (same c c1 c2 (L.join1 c d c1 d1)).symm
/-- The greatest lower bound of a list, told by what it is. -/
theorem bound_eq {rows : List (List Int)} (L : Lat rows) {l : List Int} {m : Int} (hm : inR rows m) (h1 : ∀ s ∈ l, leqB rows m s = true) (h2 : ∀ z, inR rows z → (∀ s ∈ l, leqB rows z s = true) → leqB rows z m = true) : boundL rows l = m := by
  have hlow : m ∈ lowsB rows l rows.length := upTo_mem.2 ⟨hm.1, hm.2, by rw [(inR_nat hm).1]; exact List.all_eq_true.2 h1⟩
  have hw : withinB (lowsB rows l rows.length) (rows.getD m.toNat []) = true := List.all_eq_true.2 fun z hz => by
    obtain ⟨z0, z1, z2⟩ := upTo_mem.1 hz
    rw [show ((z.toNat : Nat) : Int) = z by omega] at z2
    exact h2 z ⟨z0, z1⟩ (List.all_eq_true.1 z2)
  have h0 : 0 ≤ boundL rows l := by
    rcases boundL_range rows l with h | h
    · exfalso
      unfold boundL at h
      cases hf : (lowsB rows l rows.length).find? fun l' => withinB (lowsB rows l rows.length) (rows.getD l'.toNat []) with
      | none => exact List.find?_eq_none.1 hf m hlow hw
      | some u =>
        rw [hf] at h
        have := (upTo_mem.1 (List.mem_of_find?_eq_some hf)).1
        simp at h; omega
    · exact h.1
  obtain ⟨b0, b1, b2⟩ := bound_spec h0
  exact L.anti _ _ b0 hm (h2 _ b0 b1) (b2 m hm h1)
theorem fold_meet {rows : List (List Int)} (L : Lat rows) : ∀ (l : List Int) (t : Int), inR rows t → (∀ x ∈ l, inR rows x) →
    inR rows (l.foldl (meetL rows) t) ∧ leqB rows (l.foldl (meetL rows) t) t = true ∧ (∀ s ∈ l, leqB rows (l.foldl (meetL rows) t) s = true) ∧ ∀ z, inR rows z → leqB rows z t = true → (∀ s ∈ l, leqB rows z s = true) → leqB rows z (l.foldl (meetL rows) t) = true
  | [], t, ht, _ => ⟨ht, L.refl t ht, fun s hs => absurd hs (by simp), fun z _ h _ => h⟩
  | a :: l, t, ht, hl => by
    have ha := hl a (List.mem_cons_self ..)
    have hm := L.meetR t a ht ha
    obtain ⟨i1, i2, i3, i4⟩ := fold_meet L l (meetL rows t a) hm fun x hx => hl x (List.mem_cons_of_mem _ hx)
    rw [List.foldl_cons]
    refine ⟨i1, L.trans _ _ _ i1 hm ht i2 (L.meet1 t a ht ha), fun s hs => ?_, fun z hz h1 h2 => i4 z hz (L.meetG _ _ _ ht ha hz h1 (h2 a (List.mem_cons_self ..))) fun s hs => h2 s (List.mem_cons_of_mem _ hs)⟩
    rcases List.mem_cons.1 hs with rfl | hs
    · exact L.trans _ _ _ i1 hm ha i2 (L.meet2 t s ht ha)
    · exact i3 s hs
theorem bound_fold {rows : List (List Int)} (hg : goodL rows = true) {l : List Int} (hl : ∀ x ∈ l, inR rows x) : boundL rows l = l.foldl (meetL rows) (topL rows) := by
  have L := goodL_lat hg
  obtain ⟨i1, -, i3, i4⟩ := fold_meet L l (topL rows) (top_in hg) hl
  exact bound_eq L i1 i3 fun z hz h => i4 z hz (le_top hg hz) h

/-- What a lattice map is. -/
structure LMap (p q : List (List Int)) (f : List Int) : Prop where
  len : f.length = p.length
  mem : ∀ x, inR p x → inR q (im f x)
  bot : im f (botL p) = botL q
  top : im f (topL p) = topL q
  meet : ∀ x y, inR p x → inR p y → im f (meetL p x y) = meetL q (im f x) (im f y)
  join : ∀ x y, inR p x → inR p y → im f (joinL p x y) = joinL q (im f x) (im f y)
theorem lmap_of {p q : List (List Int)} {f : List Int} (h : lmB p q f = true) : LMap p q f := by
  unfold lmB lmH at h
  simp only [Bool.and_eq_true, decide_eq_true_eq] at h
  obtain ⟨⟨⟨h1, h2⟩, h3, h4⟩, h5⟩ := h
  have hl : f.length = p.length := by omega
  have hP : ∀ x y, inR p x → inR p y → lmP p q f x.toNat y.toNat = true := fun x y hx hy => by
    have hx' := (inR_nat hx).2
    have hy' := (inR_nat hy).2
    exact allN_iff.1 (allN_iff.1 h5 x.toNat (by omega)) y.toNat (by omega)
  refine ⟨hl, fun x hx => inSize_at h2 (by have := (inR_nat hx).2; omega), h3, h4, fun x y hx hy => ?_, fun x y hx hy => ?_⟩
  · have := hP x y hx hy
    unfold lmP at this
    rw [(inR_nat hx).1, (inR_nat hy).1, Bool.and_eq_true, decide_eq_true_eq] at this
    exact this.1
  · have := hP x y hx hy
    unfold lmP at this
    rw [(inR_nat hx).1, (inR_nat hy).1, Bool.and_eq_true, decide_eq_true_eq, decide_eq_true_eq] at this
    exact this.2
theorem LMap.mono {p q : List (List Int)} {f : List Int} (F : LMap p q f) (Lp : Lat p) (Lq : Lat q) {x y : Int} (hx : inR p x) (hy : inR p y) (h : leqB p x y = true) : leqB q (im f x) (im f y) = true := by
  have e := F.meet x y hx hy
  rw [Lp.meet_le hx hy h] at e
  rw [e]
  exact Lq.meet2 _ _ (F.mem x hx) (F.mem y hy)
def abvL (q : List (List Int)) (f : List Int) (j : Int) : List Int := upTo f.length fun x => leqB q j (f.getD x 0)
theorem abv_mem {p q : List (List Int)} {f : List Int} (F : LMap p q f) {j x : Int} : x ∈ abvL q f j ↔ inR p x ∧ leqB q j (im f x) = true := by
  unfold abvL
  rw [upTo_mem, F.len]
  exact ⟨fun ⟨a, b, c⟩ => ⟨⟨a, b⟩, c⟩, fun ⟨h, c⟩ => ⟨h.1, h.2, c⟩⟩
theorem fold_keep {p q : List (List Int)} {f : List Int} (F : LMap p q f) (Lp : Lat p) (Lq : Lat q) {j : Int} (hj : inR q j) : ∀ (l : List Int) (t : Int), inR p t → leqB q j (im f t) = true → (∀ x ∈ l, inR p x ∧ leqB q j (im f x) = true) → leqB q j (im f (l.foldl (meetL p) t)) = true
  | [], t, _, h, _ => h
  | a :: l, t, ht, h, hl => by
    obtain ⟨ha, hja⟩ := hl a (List.mem_cons_self ..)
    rw [List.foldl_cons]
    refine fold_keep F Lp Lq hj l _ (Lp.meetR t a ht ha) ?_ fun x hx => hl x (List.mem_cons_of_mem _ hx)
    rw [F.meet t a ht ha]
    exact Lq.meetG _ _ _ (F.mem t ht) (F.mem a ha) hj h hja
/-- The least element whose image is above an irreducible one is irreducible. -/
theorem abv_irr {p q : List (List Int)} {f : List Int} (hp : goodL p = true) (D : Dst q) (F : LMap p q f) {j : Int} (hj : inR q j) (hi : irrB q j.toNat = true) : inR p (boundL p (abvL q f j)) ∧ irrB p (boundL p (abvL q f j)).toNat = true ∧ leqB q j (im f (boundL p (abvL q f j))) = true := by
  have Lp := goodL_lat hp
  have Lq := D.lat
  have hin : ∀ x ∈ abvL q f j, inR p x := fun x hx => ((abv_mem F).1 hx).1
  rw [bound_fold hp hin]
  obtain ⟨i1, i2, i3, i4⟩ := fold_meet Lp (abvL q f j) (topL p) (top_in hp) hin
  have hk := fold_keep F Lp Lq hj (abvL q f j) (topL p) (top_in hp) (by rw [F.top]; exact le_top D.good hj) fun x hx => (abv_mem F).1 hx
  generalize hm : (abvL q f j).foldl (meetL p) (topL p) = m at *
  refine ⟨i1, prime_irr hp i1 (fun e => ?_) fun a b ha hb hl => ?_, hk⟩
  · rw [e, F.bot] at hk
    exact irr_ne_bot D.good hj hi (Lq.anti _ _ hj (bot_in D.good) hk (bot_le D.good hj))
  · have h1 := Lq.trans _ _ _ hj (F.mem m i1) (F.mem _ (Lp.joinR a b ha hb)) hk (F.mono Lp Lq i1 (Lp.joinR a b ha hb) hl)
    rw [F.join a b ha hb] at h1
    rcases irr_prime D hj (F.mem a ha) (F.mem b hb) hi h1 with h | h
    · exact .inl (i3 a ((abv_mem F).2 ⟨ha, h⟩))
    · exact .inr (i3 b ((abv_mem F).2 ⟨hb, h⟩))

/-- The place of a number in a list, as the reference tells it. -/
def placeL (l : List Int) (x : Int) : Int := if x ∈ l then (l.idxOf x : Int) else -1
def pmoL (p q : List (List Int)) (f : List Int) (n : Nat) : List Int := (List.range n).map fun i => placeL (irrL p) (boundL p (abvL q f (own q i)))
def pmoB (p q : List (List Int)) (f : List Int) : Bool := distB p && distB q && lmB p q f
def pmoV (p q : List (List Int)) (f : List Int) : List Int := bif pmoB p q f then pmoL p q f (irrL q).length else []
theorem pmoL_len (p q : List (List Int)) (f : List Int) (n : Nat) : (pmoL p q f n).length = n := by simp [pmoL]
theorem pmoL_succ (p q : List (List Int)) (f : List Int) (n : Nat) : pmoL p q f (n + 1) = pmoL p q f n ++ [placeL (irrL p) (boundL p (abvL q f (own q n)))] := by unfold pmoL; rw [List.range_succ, List.map_append]; rfl
theorem pmoV_len {p q : List (List Int)} (hq : okP q) (f : List Int) : (pmoV p q f).length ≤ 1048576 := by
  unfold pmoV
  have := irrL_len q
  have := hq.1
  cases pmoB p q f
  · exact Nat.zero_le _
  · rw [cond_true, pmoL_len]; omega
theorem own_irr {rows : List (List Int)} {i : Nat} (h : i < (irrL rows).length) : irrB rows (own rows i).toNat = true := (upTo_getD h).2.2

/-- The lattice map of a point map. -/
def lmoS (p : List (List Int)) (q : List (List Int)) (g : List Int) (x : Int) (n : Nat) : List Int := ((List.range n).filter fun i => leqB p (own p (g.getD i 0).toNat) x).map (own q)
def lmoX (p : List (List Int)) (q : List (List Int)) (g : List Int) (x : Int) (n : Nat) : Int := (lmoS p q g x n).foldl (joinL q) (botL q)
theorem lmoS_succ (p q : List (List Int)) (g : List Int) (x : Int) (n : Nat) : lmoS p q g x (n + 1) = lmoS p q g x n ++ (if leqB p (own p (g.getD n 0).toNat) x = true then [own q n] else []) := by
  unfold lmoS
  rw [List.range_succ, filter_snoc, List.map_append]
  congr 1
  split <;> rfl
theorem lmoX_succ (p q : List (List Int)) (g : List Int) (x : Int) (n : Nat) : lmoX p q g x (n + 1) = if leqB p (own p (g.getD n 0).toNat) x = true then joinL q (lmoX p q g x n) (own q n) else lmoX p q g x n := by
  unfold lmoX
  rw [lmoS_succ]
  split <;> simp
theorem lmoS_len (p q : List (List Int)) (g : List Int) (x : Int) (n : Nat) : (lmoS p q g x n).length ≤ n := by
  unfold lmoS
  have := List.length_filter_le (fun i => leqB p (own p (g.getD i 0).toNat) x) (List.range n)
  simpa using this
theorem lmoS_in {p q : List (List Int)} {g : List Int} {x : Int} {n : Nat} (hn : n ≤ (irrL q).length) : ∀ y ∈ lmoS p q g x n, inR q y := fun y hy => by
  unfold lmoS at hy
  obtain ⟨i, hi, rfl⟩ := List.mem_map.1 hy
  have := List.mem_range.1 (List.mem_filter.1 hi).1
  exact own_in (by omega)
theorem fold_join_in {rows : List (List Int)} (L : Lat rows) : ∀ (l : List Int) (b : Int), inR rows b → (∀ x ∈ l, inR rows x) → inR rows (l.foldl (joinL rows) b)
  | [], _, hb, _ => hb
  | a :: l, b, hb, h => fold_join_in L l _ (L.joinR b a hb (h a (List.mem_cons_self ..))) fun x hx => h x (List.mem_cons_of_mem _ hx)
theorem lmoX_in {p q : List (List Int)} (hq : goodL q = true) {g : List Int} {x : Int} {n : Nat} (hn : n ≤ (irrL q).length) : inR q (lmoX p q g x n) := fold_join_in (goodL_lat hq) _ _ (bot_in hq) (lmoS_in hn)
def lmoL (p q : List (List Int)) (g : List Int) (n : Nat) : List Int := (List.range n).map fun x : Nat => lmoX p q g (x : Int) g.length
def lmoB (p q : List (List Int)) (g : List Int) : Bool := distB p && distB q && pmB q p g
def lmoV (p q : List (List Int)) (g : List Int) : List Int := bif lmoB p q g then lmoL p q g p.length else []
theorem lmoL_len (p q : List (List Int)) (g : List Int) (n : Nat) : (lmoL p q g n).length = n := by simp [lmoL]
theorem lmoL_succ (p q : List (List Int)) (g : List Int) (n : Nat) : lmoL p q g (n + 1) = lmoL p q g n ++ [lmoX p q g (n : Int) g.length] := by unfold lmoL; rw [List.range_succ, List.map_append]; rfl
theorem lmoV_len {p q : List (List Int)} (hp : okP p) (g : List Int) : (lmoV p q g).length ≤ 1048576 := by
  unfold lmoV
  have := hp.1
  cases lmoB p q g
  · exact Nat.zero_le _
  · rw [cond_true, lmoL_len]; omega
theorem pm_at {p q : List (List Int)} {g : List Int} (h : pmB q p g = true) : g.length = (irrL q).length ∧ ∀ i, i < g.length → 0 ≤ g.getD i 0 ∧ g.getD i 0 < ((irrL p).length : Int) := by
  unfold pmB pmH at h
  simp only [Bool.and_eq_true, decide_eq_true_eq] at h
  exact ⟨by omega, fun i hi => inSize_at h.1.2 hi⟩
end Go.Proofs.Ytbfmjknngofleaa
