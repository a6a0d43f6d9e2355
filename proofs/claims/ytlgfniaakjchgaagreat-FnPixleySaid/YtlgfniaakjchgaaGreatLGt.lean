/- The reference's search for the shortest chain, plain. -/
import Derived.Test.YtlgfniaakjchgaaGreatLGs
import Derived.Test.YtlgfniaakjchgaaGreatLNe
namespace Go.Proofs.YtlgfniaakjchgaaGreat
open Go Go.Pv Go.Proofs

section
variable (N : Nat) (to : Nat → Bool) (may : Nat → Nat → Nat → Bool)
def fr : Nat → Nat → Nat → Int
  | 0, _, f => bif to f then 0 else -1
  | d + 1, i, f => bif decide (0 ≤ fr d i f) then fr d i f else bif (List.range N).any (fun g => may i f g && decide (fr d (1 - i) g = (d : Int))) then (d : Int) + 1 else -1
theorem fr_range : ∀ (d i f : Nat), -1 ≤ fr N to may d i f ∧ fr N to may d i f ≤ (d : Int)
  | 0, i, f => by
    unfold fr
    cases to f <;> decide
  | d + 1, i, f => by
    have h := fr_range d i f
    unfold fr
    by_cases h0 : 0 ≤ fr N to may d i f
    · rw [decide_eq_true h0, cond_true]; omega
    · rw [decide_eq_false h0, cond_false]
      cases (List.range N).any (fun g => may i f g && decide (fr N to may d (1 - i) g = (d : Int)))
      · rw [cond_false]; omega
      · rw [cond_true]; omega
theorem fr_keep {d i f : Nat} (h : 0 ≤ fr N to may d i f) : fr N to may (d + 1) i f = fr N to may d i f := by
  rw [fr, decide_eq_true h, cond_true]
theorem fr_neg {d i f : Nat} (h : fr N to may d i f < 0) : fr N to may (d + 1) i f = bif (List.range N).any (fun g => may i f g && decide (fr N to may d (1 - i) g = (d : Int))) then (d : Int) + 1 else -1 := by
  rw [fr, decide_eq_false (by omega), cond_false]
theorem fr_le {d i f : Nat} (h : 0 ≤ fr N to may d i f) : ∀ {e : Nat}, d ≤ e → fr N to may e i f = fr N to may d i f
  | 0, he => by rw [show d = 0 by omega]
  | e + 1, he => by
    rcases Nat.lt_or_ge e d with h' | h'
    · rw [show e + 1 = d by omega]
    · have h1 := fr_le h h'
      rw [fr_keep N to may (by omega), h1]
theorem fr_eqD {d i f : Nat} : fr N to may (d + 1) i f = (d : Int) ↔ fr N to may d i f = (d : Int) := by
  by_cases h0 : 0 ≤ fr N to may d i f
  · rw [fr_keep N to may h0]
  · have h := fr_neg N to may (d := d) (i := i) (f := f) (by omega)
    constructor
    · intro h1
      rw [h] at h1
      revert h1
      cases (List.range N).any (fun g => may i f g && decide (fr N to may d (1 - i) g = (d : Int)))
      · rw [cond_false]; omega
      · rw [cond_true]; omega
    · intro h1; omega
theorem fr_val : ∀ {e i f k : Nat}, fr N to may e i f = (k : Int) → fr N to may k i f = (k : Int)
  | 0, i, f, k, h => by
    have := (fr_range N to may 0 i f).2
    rw [h] at this
    rw [show k = 0 by omega] at h ⊢; exact h
  | e + 1, i, f, k, h => by
    by_cases h0 : 0 ≤ fr N to may e i f
    · rw [fr_keep N to may h0] at h; exact fr_val h
    · have h1 := fr_neg N to may (d := e) (i := i) (f := f) (by omega)
      have h2 := h
      rw [h1] at h2
      cases ha : (List.range N).any (fun g => may i f g && decide (fr N to may e (1 - i) g = (e : Int))) with
      | false => rw [ha, cond_false] at h2; omega
      | true => rw [ha, cond_true] at h2; rw [show k = e + 1 by omega] at h ⊢; exact h
theorem fr_pred {e i f k : Nat} (h : fr N to may e i f = ((k + 1 : Nat) : Int)) : ∃ g, g < N ∧ may i f g = true ∧ fr N to may e (1 - i) g = (k : Int) := by
  have hr := (fr_range N to may e i f).2
  have h1 := fr_val N to may h
  by_cases h0 : 0 ≤ fr N to may k i f
  · have := fr_keep N to may h0
    have := (fr_range N to may k i f).2
    omega
  · have h2 := fr_neg N to may (d := k) (i := i) (f := f) (by omega)
    rw [h1] at h2
    cases ha : (List.range N).any (fun g => may i f g && decide (fr N to may k (1 - i) g = (k : Int))) with
    | false => rw [ha, cond_false] at h2; omega
    | true =>
      obtain ⟨g, hg, hgp⟩ := List.any_eq_true.1 ha
      simp only [Bool.and_eq_true, decide_eq_true_eq] at hgp
      refine ⟨g, List.mem_range.1 hg, hgp.1, ?_⟩
      rw [fr_le N to may (d := k) (by omega) (by omega)]; exact hgp.2
def mxL (d i x : Nat) : List Int := (List.range N).map fun f => bif decide (f < x) then fr N to may (d + 1) i f else fr N to may d i f
theorem mxL_len (d i x : Nat) : (mxL N to may d i x).length = N := by simp [mxL]
theorem mxL_at {d i x f : Nat} (hf : f < N) : ((mxL N to may d i x).map I)[f * 1]? = some (I (bif decide (f < x) then fr N to may (d + 1) i f else fr N to may d i f)) := by
  rw [Nat.mul_one, mxL, List.map_map, List.getElem?_map, List.getElem?_range hf]; rfl
theorem mxL_eqD {d i x f : Nat} : (bif decide (f < x) then fr N to may (d + 1) i f else fr N to may d i f) = (d : Int) ↔ fr N to may d i f = (d : Int) := by
  cases decide (f < x)
  · rfl
  · exact fr_eqD N to may
theorem mxL_next {d i x : Nat} (hx : x < N) : ((mxL N to may d i x).map I).set x (I (fr N to may (d + 1) i x)) = (mxL N to may d i (x + 1)).map I := by
  refine List.ext_getElem? fun f => ?_
  rcases Nat.lt_or_ge f N with hf | hf
  · have h1 := mxL_at N to may (d := d) (i := i) (x := x + 1) hf
    have h2 := mxL_at N to may (d := d) (i := i) (x := x) hf
    rw [Nat.mul_one] at h1 h2
    rw [h1]
    by_cases e : f = x
    · subst e; rw [List.getElem?_set_self (by rw [List.length_map, mxL_len]; exact hf), decide_eq_true (by omega)]; rfl
    · rw [List.getElem?_set_ne (fun h => e h.symm), h2]
      by_cases h : f < x
      · rw [decide_eq_true h, decide_eq_true (by omega)]
      · rw [decide_eq_false h, decide_eq_false (by omega)]
  · rw [List.getElem?_eq_none (by simp [mxL_len]; exact hf), List.getElem?_eq_none (by simp [mxL_len]; exact hf)]
theorem mxL_zero (d i : Nat) : mxL N to may d i 0 = (List.range N).map (fr N to may d i) := by
  unfold mxL
  exact List.map_congr_left fun f _ => by rw [decide_eq_false (by omega)]; rfl
theorem mxL_full (d i : Nat) : mxL N to may d i N = (List.range N).map (fr N to may (d + 1) i) := by
  unfold mxL
  exact List.map_congr_left fun f hf => by rw [decide_eq_true (List.mem_range.1 hf)]; rfl
def cG (D i f : Nat) (g : Nat) : Int := bif decide (0 ≤ fr N to may D i f) then fr N to may D i f else bif (List.range g).any (fun g => may i f g && decide (fr N to may D (1 - i) g = (D : Int))) then (D : Int) + 1 else -1
theorem cG_full (D i f : Nat) : cG N to may D i f N = fr N to may (D + 1) i f := rfl
theorem cG_zero (D i f : Nat) : cG N to may D i f 0 = fr N to may D i f := by
  have := fr_range N to may D i f
  unfold cG
  by_cases h : 0 ≤ fr N to may D i f
  · rw [decide_eq_true h, cond_true]
  · rw [decide_eq_false h, cond_false]; show (-1 : Int) = _; omega
theorem cG_stop {D i f g : Nat} (hg : g ≤ N) (h : 0 ≤ cG N to may D i f g) : cG N to may D i f g = cG N to may D i f N := by
  unfold cG at h ⊢
  by_cases h0 : 0 ≤ fr N to may D i f
  · rw [decide_eq_true h0, cond_true, cond_true]
  · rw [decide_eq_false h0, cond_false] at h
    rw [decide_eq_false h0, cond_false, cond_false]
    cases ha : (List.range g).any (fun g => may i f g && decide (fr N to may D (1 - i) g = (D : Int))) with
    | false => rw [ha, cond_false] at h; omega
    | true =>
      obtain ⟨y, hy, hyq⟩ := List.any_eq_true.1 ha
      rw [List.any_eq_true.2 ⟨y, List.mem_range.2 (by have := List.mem_range.1 hy; omega), hyq⟩]
theorem cG_next {D i f g : Nat} (h : cG N to may D i f g < 0) : cG N to may D i f (g + 1) = bif may i f g && decide (fr N to may D (1 - i) g = (D : Int)) then (D : Int) + 1 else -1 := by
  unfold cG at h ⊢
  by_cases h0 : 0 ≤ fr N to may D i f
  · rw [decide_eq_true h0, cond_true] at h; omega
  · rw [decide_eq_false h0, cond_false] at h
    rw [decide_eq_false h0, cond_false]
    cases ha : (List.range g).any (fun g => may i f g && decide (fr N to may D (1 - i) g = (D : Int))) with
    | true => rw [ha, cond_true] at h; omega
    | false => rw [List.range_succ, any_snoc, ha, Bool.false_or]
theorem cG_neg {D i f g : Nat} (h : cG N to may D i f g < 0) : cG N to may D i f g = -1 := by
  unfold cG at h ⊢
  by_cases h0 : 0 ≤ fr N to may D i f
  · rw [decide_eq_true h0, cond_true] at h; omega
  · rw [decide_eq_false h0, cond_false] at h ⊢
    cases ha : (List.range g).any (fun g => may i f g && decide (fr N to may D (1 - i) g = (D : Int))) with
    | true => rw [ha, cond_true] at h; omega
    | false => rfl
def bestF (F : List Nat) (d : Nat) : Int := F.foldl (fun b x => bif decide (0 ≤ fr N to may d 0 x) && (decide (b < 0) || decide (fr N to may d 0 x < b)) then fr N to may d 0 x else b) (-1)
theorem bestF_snoc (F : List Nat) (x d : Nat) : bestF N to may (F ++ [x]) d = bif decide (0 ≤ fr N to may d 0 x) && (decide (bestF N to may F d < 0) || decide (fr N to may d 0 x < bestF N to may F d)) then fr N to may d 0 x else bestF N to may F d := by
  unfold bestF; rw [List.foldl_append]; rfl
def nxG (d i f : Nat) (g : Nat) : Bool := may (i % 2) f g && decide (fr N to may d (1 - i % 2) g = fr N to may d (i % 2) f - 1)
def pathW (d : Nat) : Nat → Nat → Nat → List Nat
  | 0, _, f => [f]
  | k + 1, i, f => f :: pathW d k (i + 1) (((List.range N).find? (nxG N to may d i f)).getD 0)
def chainW (F : List Nat) (d : Nat) : List Nat × Bool :=
  bif decide (bestF N to may F d < 0) then ([], false) else (pathW N to may d (bestF N to may F d).toNat 0 ((F.find? fun x => decide (fr N to may d 0 x = bestF N to may F d)).getD 0), true)
theorem bestF_in (F : List Nat) (d : Nat) (h : 0 ≤ bestF N to may F d) : ∃ x ∈ F, fr N to may d 0 x = bestF N to may F d := by
  have key : ∀ (F : List Nat) (b0 : Int), (F.foldl (fun b x => bif decide (0 ≤ fr N to may d 0 x) && (decide (b < 0) || decide (fr N to may d 0 x < b)) then fr N to may d 0 x else b) b0) = b0 ∨ ∃ x ∈ F, fr N to may d 0 x = (F.foldl (fun b x => bif decide (0 ≤ fr N to may d 0 x) && (decide (b < 0) || decide (fr N to may d 0 x < b)) then fr N to may d 0 x else b) b0) := by
    intro F
    induction F with
    | nil => exact fun b0 => .inl rfl
    | cons y F ih =>
      intro b0
      rw [List.foldl_cons]
      rcases ih (bif decide (0 ≤ fr N to may d 0 y) && (decide (b0 < 0) || decide (fr N to may d 0 y < b0)) then fr N to may d 0 y else b0) with h | ⟨x, hx, hxe⟩
      · rw [h]
        cases decide (0 ≤ fr N to may d 0 y) && (decide (b0 < 0) || decide (fr N to may d 0 y < b0))
        · exact .inl rfl
        · exact .inr ⟨y, by simp, rfl⟩
      · exact .inr ⟨x, by simp [hx], hxe⟩
  rcases key F (-1) with h' | h'
  · unfold bestF at h; omega
  · exact h'
theorem least_ex {p : Nat → Bool} : ∀ {N : Nat}, (∃ g, g < N ∧ p g = true) → ∃ g1, g1 < N ∧ p g1 = true ∧ ∀ g, g < g1 → p g = false
  | 0, h => by obtain ⟨g, hg, -⟩ := h; omega
  | N + 1, h => by
    by_cases h' : ∃ g, g < N ∧ p g = true
    · obtain ⟨g1, h1, h2, h3⟩ := least_ex h'
      exact ⟨g1, by omega, h2, h3⟩
    · obtain ⟨g, hg, hp⟩ := h
      have hn : ∀ g, g < N → p g = false := fun g hg => by
        cases hh : p g with
        | false => rfl
        | true => exact absurd ⟨g, hg, hh⟩ h'
      have : g = N := by
        by_cases e : g < N
        · rw [hn g e] at hp; cases hp
        · omega
      exact ⟨N, by omega, this ▸ hp, hn⟩
end
end Go.Proofs.YtlgfniaakjchgaaGreat
