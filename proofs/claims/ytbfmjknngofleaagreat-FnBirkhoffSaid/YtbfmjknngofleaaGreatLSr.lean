/- Distributive lattices: irreducible elements are prime; point maps of lattice maps, lattice maps of point maps. No program here. -/
import Derived.Test.YtbfmjknngofleaaGreatLSq
namespace Go.Proofs.YtbfmjknngofleaaGreat

def distB (rows : List (List Int)) : Bool := goodL rows && !(uneven3 rows).isSome
structure Dst (rows : List (List Int)) : Prop where
  good : goodL rows = true
  lat : Lat rows
  dist : ∀ x y z, inR rows x → inR rows y → inR rows z → meetL rows x (joinL rows y z) = joinL rows (meetL rows x y) (meetL rows x z)
theorem inR_nat {rows : List (List Int)} {x : Int} (h : inR rows x) : ((x.toNat : Nat) : Int) = x ∧ x.toNat < rows.length := by unfold inR at h; omega
theorem dst_of {rows : List (List Int)} (h : distB rows = true) : Dst rows := by
  unfold distB at h
  rw [Bool.and_eq_true] at h
  refine ⟨h.1, goodL_lat h.1, fun x y z hx hy hz => ?_⟩
  have hn : uneven3 rows = none := by
    cases hu : uneven3 rows with
    | none => rfl
    | some t => rw [hu] at h; exact absurd h.2 (by simp)
  obtain ⟨ex, lx⟩ := inR_nat hx
  obtain ⟨ey, ly⟩ := inR_nat hy
  obtain ⟨ez, lz⟩ := inR_nat hz
  unfold uneven3 first3 triples at hn
  have := List.find?_eq_none.1 hn (x.toNat, y.toNat, z.toNat) (List.mem_flatMap.2 ⟨x.toNat, List.mem_range.2 lx, List.mem_flatMap.2 ⟨y.toNat, List.mem_range.2 ly, List.mem_map.2 ⟨z.toNat, List.mem_range.2 lz, rfl⟩⟩⟩)
  unfold unevenP at this
  rw [ex, ey, ez] at this
  simpa using this

theorem less_iff {rows : List (List Int)} {x y : Int} : lessB rows x y = true ↔ x ≠ y ∧ leqB rows x y = true := by unfold lessB; simp
theorem cov_iff {rows : List (List Int)} {x y : Int} : coversB rows x y = true ↔ lessB rows x y = true ∧ ∀ z, inR rows z → lessB rows x z = true → lessB rows z y = true → False := by
  unfold coversB
  rw [Bool.and_eq_true, allN_iff]
  refine and_congr_right fun _ => ⟨fun h z hz h1 h2 => ?_, fun h k hk => ?_⟩
  · obtain ⟨e, l⟩ := inR_nat hz
    have := h z.toNat l
    unfold covP at this
    rw [e, h1, h2] at this
    exact absurd this (by decide)
  · unfold covP
    cases h1 : lessB rows x (k : Int) with
    | false => rfl
    | true =>
      cases h2 : lessB rows (k : Int) y with
      | false => rfl
      | true => exact (h (k : Int) ⟨by omega, by omega⟩ h1 h2).elim
theorem below_cover {rows : List (List Int)} (L : Lat rows) {x : Int} (hx : inR rows x) : ∀ (n : Nat) (y : Int), inR rows y → hN rows y ≤ n → lessB rows y x = true → ∃ c, inR rows c ∧ coversB rows c x = true ∧ leqB rows y c = true
  | n, y, hy, hn, h => by
    by_cases hc : coversB rows y x = true
    · exact ⟨y, hy, hc, L.refl y hy⟩
    · have : ∃ z, inR rows z ∧ lessB rows y z = true ∧ lessB rows z x = true := by
        rcases Classical.em (∃ z, inR rows z ∧ lessB rows y z = true ∧ lessB rows z x = true) with h' | h'
        · exact h'
        · exact absurd (cov_iff.2 ⟨h, fun z hz h1 h2 => h' ⟨z, hz, h1, h2⟩⟩) hc
      obtain ⟨z, hz, h1, h2⟩ := this
      have hl := hN_lt L hy hz h1
      match n, hn with
      | 0, hn => omega
      | n + 1, hn =>
        obtain ⟨c, hc1, hc2, hc3⟩ := below_cover L hx n z hz (by omega) h2
        exact ⟨c, hc1, hc2, L.trans _ _ _ hy hz hc1 (less_iff.1 h1).2 hc3⟩
theorem irr_cov {rows : List (List Int)} {x : Int} (hx : inR rows x) : irrB rows x.toNat = true ↔ ∃ c, inR rows c ∧ coversB rows c x = true ∧ ∀ c', inR rows c' → coversB rows c' x = true → c' = c := by
  unfold irrB
  rw [(inR_nat hx).1, decide_eq_true_eq]
  have hm : ∀ c, c ∈ upTo rows.length (fun y => coversB rows (y : Int) x) ↔ inR rows c ∧ coversB rows c x = true := fun c => by
    rw [upTo_mem]
    refine ⟨fun ⟨h1, h2, h3⟩ => ⟨⟨h1, h2⟩, ?_⟩, fun ⟨h, h3⟩ => ⟨h.1, h.2, ?_⟩⟩
    · rwa [show ((c.toNat : Nat) : Int) = c by omega] at h3
    · rwa [show ((c.toNat : Nat) : Int) = c by have := h.1; omega]
  constructor
  · intro h
    obtain ⟨c, hc⟩ := List.length_eq_one_iff.1 (show (upTo rows.length fun y => coversB rows (y : Int) x).length = 1 by omega)
    obtain ⟨h1, h2⟩ := (hm c).1 (by rw [hc]; simp)
    refine ⟨c, h1, h2, fun c' h1' h2' => ?_⟩
    have := (hm c').2 ⟨h1', h2'⟩
    rw [hc] at this
    simpa using this
  · rintro ⟨c, h1, h2, h3⟩
    have : (upTo rows.length fun y => coversB rows (y : Int) x) = [c] := sorted_ext _ _ (upTo_sorted _ _) (by simp) fun d => by
      rw [hm d]
      refine ⟨fun ⟨a, b⟩ => by rw [h3 d a b]; simp, fun h => ?_⟩
      have : d = c := by simpa using h
      subst this
      exact ⟨h1, h2⟩
    rw [this]; rfl
theorem irr_ne_bot {rows : List (List Int)} (hg : goodL rows = true) {j : Int} (hj : inR rows j) (h : irrB rows j.toNat = true) : j ≠ botL rows := fun e => by
  obtain ⟨c, h1, h2, -⟩ := (irr_cov hj).1 h
  have hl := less_iff.1 (cov_less h2)
  have L := goodL_lat hg
  exact hl.1 (L.anti _ _ h1 hj hl.2 (e ▸ bot_le hg h1))
/-- In a distributive lattice an irreducible element is prime. -/
theorem irr_prime {rows : List (List Int)} (D : Dst rows) {j x y : Int} (hj : inR rows j) (hx : inR rows x) (hy : inR rows y) (hi : irrB rows j.toNat = true) (h : leqB rows j (joinL rows x y) = true) : leqB rows j x = true ∨ leqB rows j y = true := by
  have L := D.lat
  obtain ⟨c, c1, c2, c3⟩ := (irr_cov hj).1 hi
  have hc := less_iff.1 (cov_less c2)
  have key : ∀ {u}, inR rows u → ¬ leqB rows j u = true → leqB rows (meetL rows j u) c = true := fun {u} hu hn => by
    have hm := L.meetR j u hj hu
    have hl : lessB rows (meetL rows j u) j = true := less_iff.2 ⟨fun e => hn (e ▸ L.meet2 j u hj hu), L.meet1 j u hj hu⟩
    obtain ⟨d, d1, d2, d3⟩ := below_cover L hj _ _ hm (Nat.le_refl _) hl
    rw [c3 d d1 d2] at d3
    exact d3
  rcases Classical.em (leqB rows j x = true) with h1 | h1
  · exact .inl h1
  · rcases Classical.em (leqB rows j y = true) with h2 | h2
    · exact .inr h2
    · exfalso
      have e1 := L.meet_le hj (L.joinR x y hx hy) h
      rw [D.dist j x y hj hx hy] at e1
      have e2 := L.joinG _ _ _ (L.meetR j x hj hx) (L.meetR j y hj hy) c1 (key hx h1) (key hy h2)
      rw [e1] at e2
      exact hc.1 (L.anti _ _ c1 hj hc.2 e2)
/-- A prime element is irreducible. -/
theorem prime_irr {rows : List (List Int)} (hg : goodL rows = true) {m : Int} (hm : inR rows m) (h0 : m ≠ botL rows) (hp : ∀ a b, inR rows a → inR rows b → leqB rows m (joinL rows a b) = true → leqB rows m a = true ∨ leqB rows m b = true) : irrB rows m.toNat = true := by
  have L := goodL_lat hg
  have hb := bot_in hg
  obtain ⟨c, c1, c2, -⟩ := below_cover L hm _ _ hb (Nat.le_refl _) (less_iff.2 ⟨fun e => h0 e.symm, bot_le hg hm⟩)
  refine (irr_cov hm).2 ⟨c, c1, c2, fun d d1 d2 => ?_⟩
  have hj := L.joinR c d c1 d1
  have lc := less_iff.1 (cov_less c2)
  have ld := less_iff.1 (cov_less d2)
  have hle := L.joinG c d m c1 d1 hm lc.2 ld.2
  have hne : joinL rows c d ≠ m := fun e => by
    rcases hp c d c1 d1 (by rw [e]; exact L.refl m hm) with h | h
    · exact lc.1 (L.anti _ _ c1 hm lc.2 h)
    · exact ld.1 (L.anti _ _ d1 hm ld.2 h)
  have hlj : lessB rows (joinL rows c d) m = true := less_iff.2 ⟨hne, hle⟩
  have same : ∀ u, inR rows u → coversB rows u m = true → leqB rows u (joinL rows c d) = true → u = joinL rows c d := fun u hu hc hl => by
    rcases Classical.em (u = joinL rows c d) with e | e
    · exact e
    · exact ((cov_iff.1 hc).2 _ hj (less_iff.2 ⟨e, hl⟩) hlj).elim
  rw [same d d1 d2 (L.join2 c d c1 d1)]
  exact (same c c1 c2 (L.join1 c d c1 d1)).symm
/-- What a lattice map is. -/
structure LMap (p q : List (List Int)) (f : List Int) : Prop where
  len : f.length = p.length
  mem : ∀ x, inR p x → inR q (im f x)
  bot : im f (botL p) = botL q
  top : im f (topL p) = topL q
  meet : ∀ x y, inR p x → inR p y → im f (meetL p x y) = meetL q (im f x) (im f y)
  join : ∀ x y, inR p x → inR p y → im f (joinL p x y) = joinL q (im f x) (im f y)
theorem LMap.mono {p q : List (List Int)} {f : List Int} (F : LMap p q f) (Lp : Lat p) (Lq : Lat q) {x y : Int} (hx : inR p x) (hy : inR p y) (h : leqB p x y = true) : leqB q (im f x) (im f y) = true := by
  have e := F.meet x y hx hy
  rw [Lp.meet_le hx hy h] at e
  rw [e]
  exact Lq.meet2 _ _ (F.mem x hx) (F.mem y hy)
theorem own_irr {rows : List (List Int)} {i : Nat} (h : i < (irrL rows).length) : irrB rows (own rows i).toNat = true := (upTo_getD h).2.2

end Go.Proofs.YtbfmjknngofleaaGreat
