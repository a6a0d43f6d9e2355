/- Downsets: their lists in order; in a distributive lattice those of the points are as many as the elements. No program here. -/
import Derived.Test.YtbfmjknngofleaaGreatLSf
namespace Go.Proofs.YtbfmjknngofleaaGreat

/-- The downset of a list. -/
def dnL (rows : List (List Int)) (l : List Int) : List Int := upTo rows.length fun y => l.any fun x => leqB rows (y : Int) x
def dnB (rows : List (List Int)) (l : List Int) : Bool := decide (dnL rows l = l)
/-- What the program asks. -/
def dnI (rows : List (List Int)) (l : List Int) : Bool := l.all fun x => allN rows.length fun y => !(leqB rows (y : Int) x && !l.contains (y : Int))
def dsS (rows : List (List Int)) (k : Nat) : List (List Int) := ((List.range k).map fun b => bitL b rows.length).filter (dnB rows)
def dsO (rows : List (List Int)) : List (List Int) := ordL (dsS rows (2 ^ rows.length))
/-- Each below itself, all that is below within. -/
structure Rfl (rows : List (List Int)) : Prop where
  n : rows.length ≤ 10
  refl : ∀ x, inR rows x → leqB rows x x = true
  mem : ∀ x : Nat, x < rows.length → ∀ y ∈ rows.getD x [], inR rows y
theorem bitL_in {b n : Nat} {x : Int} (h : x ∈ bitL b n) : 0 ≤ x ∧ x < (n : Int) := ⟨(upTo_mem.1 h).1, (upTo_mem.1 h).2.1⟩
theorem dnB_iff {rows : List (List Int)} (R : Rfl rows) {b : Nat} : dnB rows (bitL b rows.length) = true ↔ ∀ x y, x ∈ bitL b rows.length → inR rows y → leqB rows y x = true → y ∈ bitL b rows.length := by
  unfold dnB
  rw [decide_eq_true_eq]
  have hm : ∀ y, y ∈ dnL rows (bitL b rows.length) ↔ inR rows y ∧ ∃ x, x ∈ bitL b rows.length ∧ leqB rows y x = true := fun y => by
    unfold dnL
    rw [upTo_mem, List.any_eq_true]
    constructor
    · rintro ⟨h1, h2, x, hx, h3⟩
      rw [show ((y.toNat : Nat) : Int) = y by omega] at h3
      exact ⟨⟨h1, h2⟩, x, hx, h3⟩
    · rintro ⟨h, x, hx, h3⟩
      exact ⟨h.1, h.2, x, hx, by rw [(inR_nat h).1]; exact h3⟩
  constructor
  · intro h x y hx hy hl
    rw [← h]
    exact (hm y).2 ⟨hy, x, hx, hl⟩
  · intro h
    refine sorted_ext _ _ (upTo_sorted _ _) (upTo_sorted _ _) fun y => ?_
    rw [hm y]
    exact ⟨fun ⟨h1, x, hx, h2⟩ => h x y hx h1 h2, fun hy => ⟨bitL_in hy, y, hy, R.refl y (bitL_in hy)⟩⟩
theorem dnI_eq {rows : List (List Int)} (R : Rfl rows) (b : Nat) : dnI rows (bitL b rows.length) = dnB rows (bitL b rows.length) := by
  rw [Bool.eq_iff_iff, dnB_iff R]
  unfold dnI
  rw [List.all_eq_true]
  constructor
  · intro h x y hx hy hl
    have := allN_iff.1 (h x hx) y.toNat (inR_nat hy).2
    rw [(inR_nat hy).1, hl] at this
    simpa using this
  · intro h x hx
    refine allN_iff.2 fun y hy => ?_
    cases hl : leqB rows (y : Int) x with
    | false => rfl
    | true =>
      have := h x (y : Int) hx ⟨by omega, by omega⟩ hl
      simp [this]
theorem dsS_nodup (rows : List (List Int)) {k : Nat} (hk : k ≤ 2 ^ rows.length) : (dsS rows k).Nodup := by
  refine List.Nodup.sublist List.filter_sublist (nodup_map_on (fun a ha b hb h => ?_) List.nodup_range)
  have h1 := List.mem_range.1 ha
  have h2 := List.mem_range.1 hb
  exact bitL_inj (by omega) (by omega) h
theorem dsS_succ (rows : List (List Int)) (k : Nat) : dsS rows (k + 1) = dsS rows k ++ (if dnB rows (bitL k rows.length) = true then [bitL k rows.length] else []) := by
  unfold dsS
  rw [List.range_succ, List.map_append, List.filter_append]
  congr 1
  by_cases h : dnB rows (bitL k rows.length) = true
  · rw [if_pos h]; simp [h]
  · rw [if_neg h]; simp [h]
theorem dsS_len (rows : List (List Int)) (k : Nat) : (dsS rows k).length ≤ k := by
  unfold dsS
  exact Nat.le_trans (List.length_filter_le _ _) (by simp)
theorem dsS_mem {rows : List (List Int)} {k : Nat} {r : List Int} (h : r ∈ dsS rows k) : ∃ b, r = bitL b rows.length ∧ dnB rows r = true := by
  unfold dsS at h
  obtain ⟨h1, h2⟩ := List.mem_filter.1 h
  obtain ⟨b, -, rfl⟩ := List.mem_map.1 h1
  exact ⟨b, rfl, h2⟩
theorem dsS_row {rows : List (List Int)} {k : Nat} {r : List Int} (h : r ∈ dsS rows k) : r.length ≤ rows.length := by
  obtain ⟨b, rfl, -⟩ := dsS_mem h
  exact bitL_len _ _
theorem dsO_asc (rows : List (List Int)) : Asc (dsO rows) := ordL_asc (dsS_nodup rows (Nat.le_refl _))
theorem dsO_perm (rows : List (List Int)) : (dsS rows (2 ^ rows.length)).Perm (dsO rows) := (ordL_perm _).symm
theorem dsO_len (rows : List (List Int)) : (dsO rows).length = (dsS rows (2 ^ rows.length)).length := (ordL_perm _).length_eq
theorem dsO_mem {rows : List (List Int)} {r : List Int} : r ∈ dsO rows ↔ r ∈ dsS rows (2 ^ rows.length) := (ordL_perm _).mem_iff
theorem dsO_row {rows : List (List Int)} {r : List Int} (h : r ∈ dsO rows) : r.length ≤ rows.length := dsS_row (dsO_mem.1 h)

theorem fold_join {rows : List (List Int)} (L : Lat rows) : ∀ (l : List Int) (t : Int), inR rows t → (∀ x ∈ l, inR rows x) →
    inR rows (l.foldl (joinL rows) t) ∧ leqB rows t (l.foldl (joinL rows) t) = true ∧ (∀ s ∈ l, leqB rows s (l.foldl (joinL rows) t) = true) ∧ ∀ z, inR rows z → leqB rows t z = true → (∀ s ∈ l, leqB rows s z = true) → leqB rows (l.foldl (joinL rows) t) z = true
  | [], t, ht, _ => ⟨ht, L.refl t ht, fun s hs => absurd hs (by simp), fun z _ h _ => h⟩
  | a :: l, t, ht, hl => by
    have ha := hl a (List.mem_cons_self ..)
    have hm := L.joinR t a ht ha
    obtain ⟨i1, i2, i3, i4⟩ := fold_join L l (joinL rows t a) hm fun x hx => hl x (List.mem_cons_of_mem _ hx)
    rw [List.foldl_cons]
    refine ⟨i1, L.trans _ _ _ ht hm i1 (L.join1 t a ht ha) i2, fun s hs => ?_, fun z hz h1 h2 => i4 z hz (L.joinG _ _ _ ht ha hz h1 (h2 a (List.mem_cons_self ..))) fun s hs => h2 s (List.mem_cons_of_mem _ hs)⟩
    rcases List.mem_cons.1 hs with rfl | hs
    · exact L.trans _ _ _ ha hm i1 (L.join2 t s ht ha) i2
    · exact i3 s hs
/-- A prime element below a join of some is below one of them. -/
theorem prime_fold {rows : List (List Int)} (L : Lat rows) {j : Int} (hp : ∀ a b, inR rows a → inR rows b → leqB rows j (joinL rows a b) = true → leqB rows j a = true ∨ leqB rows j b = true) : ∀ (l : List Int) (t : Int), inR rows t → (∀ x ∈ l, inR rows x) → leqB rows j (l.foldl (joinL rows) t) = true → leqB rows j t = true ∨ ∃ x ∈ l, leqB rows j x = true
  | [], _, _, _, h => .inl h
  | a :: l, t, ht, hl, h => by
    have ha := hl a (List.mem_cons_self ..)
    rw [List.foldl_cons] at h
    rcases prime_fold L hp l _ (L.joinR t a ht ha) (fun x hx => hl x (List.mem_cons_of_mem _ hx)) h with h | ⟨x, hx, h⟩
    · rcases hp t a ht ha h with h | h
      · exact .inl h
      · exact .inr ⟨a, List.mem_cons_self .., h⟩
    · exact .inr ⟨x, List.mem_cons_of_mem _ hx, h⟩
theorem pts_rfl {rows : List (List Int)} (hg : goodL rows = true) : Rfl (ptsL rows) := by
  refine ⟨?_, fun x hx => ?_, fun x hx y hy => ?_⟩
  · rw [length_pts]; exact Nat.le_trans (irrL_len rows) (good_10L hg)
  · unfold inR at hx
    rw [length_pts] at hx
    rw [pts_leq hx hx]
    exact (goodL_lat hg).refl _ (own_in (by omega))
  · rw [length_pts] at hx
    rw [pts_getD hx] at hy
    have := upTo_mem.1 hy
    exact ⟨this.1, by rw [length_pts]; exact this.2.1⟩
theorem pb_ds {rows : List (List Int)} (hg : goodL rows = true) {x : Int} (hx : inR rows x) : pbL rows x ∈ dsO (ptsL rows) := by
  have L := goodL_lat hg
  obtain ⟨b, hb, h⟩ := bits_of (fun i => leqB rows (own rows i) x) (irrL rows).length
  have e : pbL rows x = bitL b (ptsL rows).length := by
    rw [length_pts]
    exact (upTo_congr h).symm
  rw [dsO_mem, e]
  unfold dsS
  refine List.mem_filter.2 ⟨List.mem_map.2 ⟨b, List.mem_range.2 (by rw [length_pts]; exact hb), rfl⟩, (dnB_iff (pts_rfl hg)).2 fun k i hk hi hl => ?_⟩
  rw [← e] at hk ⊢
  obtain ⟨k1, k2, k3⟩ := upTo_mem.1 hk
  unfold inR at hi
  rw [length_pts] at hi
  rw [pts_leq hi ⟨k1, k2⟩] at hl
  exact upTo_mem.2 ⟨hi.1, hi.2, L.trans _ _ _ (own_in (by omega)) (own_in (by omega)) hx hl k3⟩
theorem ds_pb {rows : List (List Int)} (D : Dst rows) {d : List Int} (hd : d ∈ dsS (ptsL rows) (2 ^ (ptsL rows).length)) : ∃ x, x < rows.length ∧ pbL rows (x : Int) = d := by
  have L := D.lat
  obtain ⟨b, e, hf⟩ := dsS_mem hd
  rw [e] at hf
  have hc := (dnB_iff (pts_rfl D.good)).1 hf
  rw [← e] at hc
  have hin : ∀ k ∈ d, 0 ≤ k ∧ k < ((irrL rows).length : Int) := fun k hk => by
    rw [e] at hk
    have := bitL_in hk
    rwa [length_pts] at this
  have hl : ∀ y ∈ d.map (fun k => own rows k.toNat), inR rows y := fun y hy => by
    obtain ⟨k, hk, rfl⟩ := List.mem_map.1 hy
    have := hin k hk
    exact own_in (by omega)
  obtain ⟨i1, -, i3, -⟩ := fold_join L _ (botL rows) (bot_in D.good) hl
  refine ⟨_, (inR_nat i1).2, ?_⟩
  rw [(inR_nat i1).1]
  refine sorted_ext _ _ (upTo_sorted _ _) (e ▸ upTo_sorted _ _) fun i => ?_
  unfold pbL
  rw [upTo_mem]
  constructor
  · rintro ⟨h1, h2, h3⟩
    have ho : inR rows (own rows i.toNat) := own_in (by omega)
    have hi := own_irr (rows := rows) (show i.toNat < (irrL rows).length by omega)
    rcases prime_fold L (fun a b ha hb h => irr_prime D ho ha hb hi h) _ _ (bot_in D.good) hl h3 with h | ⟨y, hy, h⟩
    · exact absurd (L.anti _ _ ho (bot_in D.good) h (bot_le D.good ho)) (irr_ne_bot D.good ho hi)
    · obtain ⟨k, hk, rfl⟩ := List.mem_map.1 hy
      have := hin k hk
      refine hc k i hk ⟨h1, by rw [length_pts]; exact h2⟩ ?_
      rw [pts_leq ⟨h1, h2⟩ this]
      exact h
  · intro hi
    have := hin i hi
    exact ⟨this.1, this.2, i3 _ (List.mem_map.2 ⟨i, hi, rfl⟩)⟩
theorem length_le_of_sub {α : Type} [DecidableEq α] : ∀ {l m : List α}, l.Nodup → (∀ a ∈ l, a ∈ m) → l.length ≤ m.length
  | [], _, _, _ => Nat.zero_le _
  | a :: l, m, h, hs => by
    have hm := hs a (List.mem_cons_self ..)
    rw [List.nodup_cons] at h
    have := length_le_of_sub (m := m.erase a) h.2 fun b hb => (List.mem_erase_of_ne (fun e => h.1 (by rw [← e]; exact hb))).2 (hs b (List.mem_cons_of_mem _ hb))
    rw [List.length_erase_of_mem hm] at this
    have := List.length_pos_of_mem hm
    simp; omega
theorem ds_few {rows : List (List Int)} (D : Dst rows) : (dsS (ptsL rows) (2 ^ (ptsL rows).length)).length ≤ rows.length := by
  have := length_le_of_sub (m := (List.range rows.length).map fun x : Nat => pbL rows (x : Int)) (dsS_nodup (ptsL rows) (Nat.le_refl _)) fun d hd => by
    obtain ⟨x, hx, e⟩ := ds_pb D hd
    exact List.mem_map.2 ⟨x, List.mem_range.2 hx, e⟩
  simpa using this
/-- The numbers of the downsets of points of all elements. -/
def dnumL (rows : List (List Int)) (n : Nat) : List Int := (List.range n).map fun x : Nat => ((dsO (ptsL rows)).idxOf (pbL rows (x : Int)) : Int)
def dnumV (rows : List (List Int)) : List Int := bif distB rows then dnumL rows rows.length else []
theorem dnumL_succ (rows : List (List Int)) (n : Nat) : dnumL rows (n + 1) = dnumL rows n ++ [((dsO (ptsL rows)).idxOf (pbL rows (n : Int)) : Int)] := by unfold dnumL; rw [List.range_succ, List.map_append]; rfl
theorem dnumL_len (rows : List (List Int)) (n : Nat) : (dnumL rows n).length = n := by simp [dnumL]
theorem dnumV_len {rows : List (List Int)} (hok : okP rows) : (dnumV rows).length ≤ 1048576 := by
  unfold dnumV
  cases distB rows with
  | false => exact Nat.zero_le _
  | true => rw [cond_true, dnumL_len]; exact hok.1
theorem idx_at {l : List (List Int)} {x : List Int} (h : x ∈ l) {k : Nat} (hk : k ≤ l.idxOf x) : k < l.length ∧ (l.getD k [] = x ↔ k = l.idxOf x) := by
  have hl := List.idxOf_lt_length_of_mem h
  refine ⟨by omega, fun e => ?_, fun e => ?_⟩
  · rcases Nat.lt_or_ge k (l.idxOf x) with h' | h'
    · exfalso
      have := List.not_of_lt_findIdx (p := (· == x)) h'
      rw [List.getD_eq_getElem?_getD, List.getElem?_eq_getElem (by omega)] at e
      simp at this
      exact this e
    · omega
  · subst e
    rw [List.getD_eq_getElem?_getD, List.getElem?_eq_getElem hl]
    exact List.getElem_idxOf hl
end Go.Proofs.YtbfmjknngofleaaGreat
