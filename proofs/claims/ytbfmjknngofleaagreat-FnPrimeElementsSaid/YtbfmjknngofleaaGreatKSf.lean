/- The prime filters of a lattice are the sets above its join-prime elements. No program here. -/
import Derived.Test.YtbfmjknngofleaaGreatKSr
import Derived.Test.YtbfmjknngofleaaGreatKSt
namespace Go.Proofs.YtbfmjknngofleaaGreat

def bitL (b n : Nat) : List Int := upTo n fun x => b.testBit x
def filP (rows : List (List Int)) (l : List Int) (x y : Nat) : Bool :=
  !((l.contains (x : Int) && leqB rows (x : Int) (y : Int) && !l.contains (y : Int)) || (l.contains (x : Int) && l.contains (y : Int) && !l.contains (meetL rows (x : Int) (y : Int)))) && !(!l.contains (x : Int) && !l.contains (y : Int) && l.contains (joinL rows (x : Int) (y : Int)))
def filB (rows : List (List Int)) (l : List Int) : Bool := (allN rows.length fun x => allN rows.length (filP rows l x)) && (decide (0 < (l.length : Int)) && decide ((l.length : Int) < (rows.length : Int)))
/-- The prime filters among the lists of the first bits. -/
def pfS (rows : List (List Int)) (k : Nat) : List (List Int) := ((List.range k).map fun b => bitL b rows.length).filter (filB rows)
def upS (rows : List (List Int)) (x : Int) : List Int := upTo rows.length fun y => leqB rows x (y : Int)
def pfA (rows : List (List Int)) (k : Nat) : List (List Int) := ((jpL rows).take k).map (upS rows)

theorem bits_of (p : Nat → Bool) : ∀ n, ∃ b, b < 2 ^ n ∧ ∀ x, x < n → b.testBit x = p x
  | 0 => ⟨0, by decide, fun x h => by omega⟩
  | n + 1 => by
    obtain ⟨b, hb, h⟩ := bits_of p n
    cases hp : p n with
    | false =>
      refine ⟨b, Nat.lt_of_lt_of_le hb (Nat.pow_le_pow_right (by decide) (by omega)), fun x hx => ?_⟩
      by_cases e : x = n
      · subst e; rw [hp]; exact Nat.testBit_lt_two_pow hb
      · exact h x (by omega)
    | true =>
      refine ⟨2 ^ n + b, by rw [Nat.pow_succ]; omega, fun x hx => ?_⟩
      by_cases e : x = n
      · subst e; rw [hp, Nat.testBit_two_pow_add_eq, Nat.testBit_lt_two_pow hb]; rfl
      · rw [Nat.testBit_two_pow_add_gt (by omega)]; exact h x (by omega)
theorem bitL_inj {a b n : Nat} (ha : a < 2 ^ n) (hb : b < 2 ^ n) (h : bitL a n = bitL b n) : a = b := by
  refine Nat.eq_of_testBit_eq fun i => ?_
  by_cases hi : i < n
  · have e : (i : Int) ∈ bitL a n ↔ (i : Int) ∈ bitL b n := by rw [h]
    unfold bitL at e
    rw [upTo_mem, upTo_mem] at e
    simp only [Int.toNat_natCast] at e
    rw [Bool.eq_iff_iff]
    exact ⟨fun x => (e.1 ⟨by omega, by omega, x⟩).2.2, fun x => (e.2 ⟨by omega, by omega, x⟩).2.2⟩
  · have hp := Nat.pow_le_pow_right (show 0 < 2 by decide) (show n ≤ i by omega)
    rw [Nat.testBit_lt_two_pow (Nat.lt_of_lt_of_le ha hp), Nat.testBit_lt_two_pow (Nat.lt_of_lt_of_le hb hp)]
theorem nodup_map_on {α β : Type} {f : α → β} : ∀ {l : List α}, (∀ a ∈ l, ∀ b ∈ l, f a = f b → a = b) → l.Nodup → (l.map f).Nodup
  | [], _, _ => by simp
  | a :: l, hf, h => by
    rw [List.nodup_cons] at h
    rw [List.map_cons, List.nodup_cons]
    refine ⟨fun hm => ?_, nodup_map_on (fun x hx y hy => hf x (List.mem_cons_of_mem _ hx) y (List.mem_cons_of_mem _ hy)) h.2⟩
    obtain ⟨b, hb, e⟩ := List.mem_map.1 hm
    exact h.1 (hf b (List.mem_cons_of_mem _ hb) a (List.mem_cons_self ..) e ▸ hb)
theorem pfS_nodup (rows : List (List Int)) {k : Nat} (hk : k ≤ 2 ^ rows.length) : (pfS rows k).Nodup := by
  refine List.Nodup.sublist List.filter_sublist (nodup_map_on (fun a ha b hb h => ?_) List.nodup_range)
  have h1 := List.mem_range.1 ha
  have h2 := List.mem_range.1 hb
  exact bitL_inj (by omega) (by omega) h
theorem pfS_succ (rows : List (List Int)) (k : Nat) : pfS rows (k + 1) = pfS rows k ++ (if filB rows (bitL k rows.length) = true then [bitL k rows.length] else []) := by
  unfold pfS
  rw [List.range_succ, List.map_append, List.filter_append]
  congr 1
  by_cases h : filB rows (bitL k rows.length) = true
  · rw [if_pos h]; simp [h]
  · rw [if_neg h]; simp [h]
theorem pfS_len (rows : List (List Int)) (k : Nat) : (pfS rows k).length ≤ k := by
  unfold pfS
  exact Nat.le_trans (List.length_filter_le _ _) (by simp)
theorem bitL_len (b n : Nat) : (bitL b n).length ≤ n := upTo_length _ _
theorem pfS_row {rows : List (List Int)} {k : Nat} {r : List Int} (h : r ∈ pfS rows k) : r.length ≤ rows.length := by
  unfold pfS at h
  obtain ⟨h1, -⟩ := List.mem_filter.1 h
  obtain ⟨b, -, rfl⟩ := List.mem_map.1 h1
  exact bitL_len _ _
theorem upTo_full {n : Nat} {p : Nat → Bool} (h : (upTo n p).length = n) {k : Nat} (hk : k < n) : p k = true := by
  unfold upTo at h
  rw [List.length_map] at h
  exact List.length_filter_eq_length_iff.1 (by rw [h]; simp) k (by simpa using hk)
theorem upS_mem {rows : List (List Int)} {x y : Int} : y ∈ upS rows x ↔ inR rows y ∧ leqB rows x y = true := by
  unfold upS
  rw [upTo_mem]
  constructor
  · rintro ⟨h1, h2, h3⟩
    rw [show ((y.toNat : Nat) : Int) = y by omega] at h3
    exact ⟨⟨h1, h2⟩, h3⟩
  · rintro ⟨h1, h2⟩
    exact ⟨h1.1, h1.2, by rw [(inR_nat h1).1]; exact h2⟩
theorem upS_inj {rows : List (List Int)} (L : Lat rows) {x y : Int} (hx : inR rows x) (hy : inR rows y) (h : upS rows x = upS rows y) : x = y := by
  have h1 : x ∈ upS rows y := h ▸ upS_mem.2 ⟨hx, L.refl x hx⟩
  have h2 : y ∈ upS rows x := h.symm ▸ upS_mem.2 ⟨hy, L.refl y hy⟩
  exact L.anti _ _ hx hy (upS_mem.1 h2).2 (upS_mem.1 h1).2
theorem jpL_mem {rows : List (List Int)} {x : Int} (h : x ∈ jpL rows) : inR rows x ∧ jpB rows x.toNat = true := by
  obtain ⟨h1, h2, h3⟩ := upTo_mem.1 h
  exact ⟨⟨h1, h2⟩, h3⟩
theorem sorted_nodup {l : List Int} (h : l.Pairwise (· < ·)) : l.Nodup := List.Pairwise.imp (fun {a b} h => by omega) h
theorem jp_iff {rows : List (List Int)} {x : Int} (hx : inR rows x) : jpB rows x.toNat = true ↔ x ≠ botL rows ∧ ∀ a b, inR rows a → inR rows b → leqB rows x (joinL rows a b) = true → leqB rows x a = true ∨ leqB rows x b = true := by
  unfold jpB
  rw [(inR_nat hx).1, Bool.and_eq_true, allN_iff]
  refine and_congr (by simp) ⟨fun h a b ha hb hl => ?_, fun h y hy => allN_iff.2 fun z hz => ?_⟩
  · have := allN_iff.1 (h a.toNat (inR_nat ha).2) b.toNat (inR_nat hb).2
    unfold jpP at this
    rw [(inR_nat ha).1, (inR_nat hb).1, hl] at this
    simpa using this
  · unfold jpP
    cases hl : leqB rows x (joinL rows (y : Int) (z : Int)) with
    | false => rfl
    | true => rcases h (y : Int) (z : Int) ⟨by omega, by omega⟩ ⟨by omega, by omega⟩ hl with h1 | h1 <;> rw [h1] <;> simp
theorem filB_iff {rows : List (List Int)} {l : List Int} : filB rows l = true ↔ (∀ x y, inR rows x → inR rows y → (x ∈ l → leqB rows x y = true → y ∈ l) ∧ (x ∈ l → y ∈ l → meetL rows x y ∈ l) ∧ (joinL rows x y ∈ l → x ∈ l ∨ y ∈ l)) ∧ 0 < l.length ∧ l.length < rows.length := by
  unfold filB
  rw [Bool.and_eq_true, Bool.and_eq_true, decide_eq_true_eq, decide_eq_true_eq, allN_iff]
  have key : ∀ x y : Nat, filP rows l x y = true ↔ ((x : Int) ∈ l → leqB rows (x : Int) (y : Int) = true → (y : Int) ∈ l) ∧ ((x : Int) ∈ l → (y : Int) ∈ l → meetL rows (x : Int) (y : Int) ∈ l) ∧ (joinL rows (x : Int) (y : Int) ∈ l → (x : Int) ∈ l ∨ (y : Int) ∈ l) := fun x y => by
    unfold filP
    simp only [← List.contains_iff_mem]
    generalize l.contains (x : Int) = a
    generalize l.contains (y : Int) = b
    generalize l.contains (meetL rows (x : Int) (y : Int)) = c
    generalize l.contains (joinL rows (x : Int) (y : Int)) = d
    generalize leqB rows (x : Int) (y : Int) = e
    cases a <;> cases b <;> cases c <;> cases d <;> cases e <;> simp
  refine and_congr ⟨fun h x y hx hy => ?_, fun h x hx => allN_iff.2 fun y hy => (key x y).2 (h _ _ ⟨by omega, by omega⟩ ⟨by omega, by omega⟩)⟩ (and_congr (by omega) (by omega))
  have := (key x.toNat y.toNat).1 (allN_iff.1 (h x.toNat (inR_nat hx).2) y.toNat (inR_nat hy).2)
  rwa [(inR_nat hx).1, (inR_nat hy).1] at this
theorem fold_in {rows : List (List Int)} (L : Lat rows) {s : List Int} (hs : ∀ x y, inR rows x → inR rows y → x ∈ s → y ∈ s → meetL rows x y ∈ s) : ∀ (l : List Int) (t : Int), inR rows t → t ∈ s → (∀ x ∈ l, inR rows x ∧ x ∈ s) → l.foldl (meetL rows) t ∈ s
  | [], _, _, h, _ => h
  | a :: l, t, ht, h, hl => by
    obtain ⟨h1, h2⟩ := hl a (List.mem_cons_self ..)
    rw [List.foldl_cons]
    exact fold_in L hs l _ (L.meetR t a ht h1) (hs t a ht h1 h h2) fun x hx => hl x (List.mem_cons_of_mem _ hx)
theorem pf_mem {rows : List (List Int)} (hg : goodL rows = true) (l : List Int) : l ∈ pfA rows (jpL rows).length ↔ l ∈ pfS rows (2 ^ rows.length) := by
  have L := goodL_lat hg
  unfold pfA pfS
  rw [List.take_length, List.mem_map, List.mem_filter, List.mem_map]
  constructor
  · rintro ⟨j, hj, rfl⟩
    obtain ⟨hjr, hjp⟩ := jpL_mem hj
    obtain ⟨h0, hp⟩ := (jp_iff hjr).1 hjp
    refine ⟨?_, filB_iff.2 ⟨fun x y hx hy => ⟨fun h1 h2 => ?_, fun h1 h2 => ?_, fun h => ?_⟩, ?_, ?_⟩⟩
    · obtain ⟨b, hb, h⟩ := bits_of (fun y => leqB rows j (y : Int)) rows.length
      exact ⟨b, List.mem_range.2 hb, upTo_congr h⟩
    · exact upS_mem.2 ⟨hy, L.trans _ _ _ hjr hx hy (upS_mem.1 h1).2 h2⟩
    · exact upS_mem.2 ⟨L.meetR x y hx hy, L.meetG _ _ _ hx hy hjr (upS_mem.1 h1).2 (upS_mem.1 h2).2⟩
    · rcases hp x y hx hy (upS_mem.1 h).2 with h | h
      · exact .inl (upS_mem.2 ⟨hx, h⟩)
      · exact .inr (upS_mem.2 ⟨hy, h⟩)
    · exact List.length_pos_of_mem (upS_mem.2 ⟨hjr, L.refl j hjr⟩)
    · rcases Nat.lt_or_eq_of_le (upTo_length rows.length fun y => leqB rows j (y : Int)) with h | h
      · exact h
      · have hb := bot_in hg
        have := upTo_full h (inR_nat hb).2
        rw [(inR_nat hb).1] at this
        exact absurd (L.anti _ _ hjr hb this (bot_le hg hjr)) h0
  · rintro ⟨⟨b, -, rfl⟩, hf⟩
    have hin : ∀ x ∈ bitL b rows.length, inR rows x := fun x hx => ⟨(upTo_mem.1 hx).1, (upTo_mem.1 hx).2.1⟩
    obtain ⟨h1, h2, h3⟩ := filB_iff.1 hf
    generalize hl : bitL b rows.length = l at *
    obtain ⟨x0, hx0⟩ := List.exists_mem_of_length_pos h2
    have ht := (h1 x0 _ (hin x0 hx0) (top_in hg)).1 hx0 (le_top hg (hin x0 hx0))
    obtain ⟨i1, -, i3, -⟩ := fold_meet L l (topL rows) (top_in hg) hin
    have hm := fold_in L (s := l) (fun x y hx hy => (h1 x y hx hy).2.1) l (topL rows) (top_in hg) ht fun x hx => ⟨hin x hx, hx⟩
    generalize l.foldl (meetL rows) (topL rows) = m at *
    refine ⟨m, upTo_mem.2 ⟨i1.1, i1.2, (jp_iff i1).2 ⟨fun e => ?_, fun a b ha hb hle => ?_⟩⟩, ?_⟩
    · have hall : ∀ x, inR rows x → x ∈ l := fun x hx => (h1 m x i1 hx).1 hm (e ▸ bot_le hg hx)
      have : (upTo rows.length fun _ => true) = l := by
        refine sorted_ext _ _ (upTo_sorted _ _) (hl ▸ upTo_sorted _ _) fun y => ?_
        rw [upTo_mem]
        exact ⟨fun h => hall y ⟨h.1, h.2.1⟩, fun h => ⟨(hin y h).1, (hin y h).2, rfl⟩⟩
      rw [← this] at h3
      rw [upTo, List.length_map, List.filter_eq_self.2 (fun _ _ => rfl), List.length_range] at h3
      exact Nat.lt_irrefl _ h3
    · have hj := (h1 m _ i1 (L.joinR a b ha hb)).1 hm hle
      rcases (h1 a b ha hb).2.2 hj with h | h
      · exact .inl (i3 a h)
      · exact .inr (i3 b h)
    · refine sorted_ext _ _ (upTo_sorted _ _) (hl ▸ upTo_sorted _ _) fun y => ?_
      rw [upS_mem]
      exact ⟨fun h => (h1 m y i1 h.1).1 hm h.2, fun h => ⟨hin y h, i3 y h⟩⟩
theorem pf_perm {rows : List (List Int)} (hg : goodL rows = true) : (pfA rows (jpL rows).length).Perm (pfS rows (2 ^ rows.length)) := by
  refine (List.perm_ext_iff_of_nodup ?_ (pfS_nodup rows (Nat.le_refl _))).2 fun l => pf_mem hg l
  unfold pfA
  rw [List.take_length]
  exact nodup_map_on (fun a ha b hb h => upS_inj (goodL_lat hg) (jpL_mem ha).1 (jpL_mem hb).1 h) (sorted_nodup (upTo_sorted _ _))
/-- The prime filters of a lattice, in order. -/
def pfO (rows : List (List Int)) : List (List Int) := ordL (pfS rows (2 ^ rows.length))
def pfV (rows : List (List Int)) : List (List Int) := bif goodL rows then pfO rows else []
theorem pfO_asc (rows : List (List Int)) : Asc (pfO rows) := ordL_asc (pfS_nodup rows (Nat.le_refl _))
theorem pfO_perm {rows : List (List Int)} (hg : goodL rows = true) : (pfA rows (jpL rows).length).Perm (pfO rows) := (pf_perm hg).trans (ordL_perm _).symm
theorem okP_pfV (rows : List (List Int)) : okP (pfV rows) := by
  unfold pfV
  cases hg : goodL rows with
  | false => exact ⟨Nat.zero_le _, fun r h => absurd h (by simp)⟩
  | true =>
    have h10 := good_10L hg
    refine ⟨?_, fun r h => ?_⟩
    · have := (ordL_perm (pfS rows (2 ^ rows.length))).length_eq
      have := pfS_len rows (2 ^ rows.length)
      have : 2 ^ rows.length ≤ 1024 := Nat.pow_le_pow_right (by decide) h10
      show (pfO rows).length ≤ _
      unfold pfO; omega
    · have := pfS_row ((ordL_perm _).subset h)
      omega
end Go.Proofs.YtbfmjknngofleaaGreat
