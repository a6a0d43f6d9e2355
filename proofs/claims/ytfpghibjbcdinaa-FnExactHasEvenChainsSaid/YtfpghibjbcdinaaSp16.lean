/- Maximal chains of a lattice, as both sides list them. No program here. -/
import Derived.Test.YtfpghibjbcdinaaSp14
namespace Go.Proofs.Ytfpghibjbcdinaa

def upsL (rows : List (List Int)) (x : Int) (n : Nat) : List Int := upTo n fun y => coversB rows x (y : Int)
def chF (rows : List (List Int)) : Nat → Int → List (List Int)
  | 0, _ => []
  | k + 1, x => if x = topL rows then [[x]] else (upsL rows x rows.length).flatMap fun y => (chF rows k y).map (x :: ·)
def stepF (rows : List (List Int)) (k : Nat) (x : Int) (y : Int) : List (List Int) := (chF rows k y).map (x :: ·)
theorem chF_top {rows : List (List Int)} {k : Nat} {x : Int} (h : x = topL rows) : chF rows (k + 1) x = [[x]] := by simp only [chF]; rw [if_pos h]
theorem chF_step {rows : List (List Int)} {k : Nat} {x : Int} (h : ¬ x = topL rows) : chF rows (k + 1) x = (upsL rows x rows.length).flatMap (stepF rows k x) := by simp only [chF]; rw [if_neg h]; rfl
theorem flatMap_snoc {α β : Type} (l : List α) (a : α) (f : α → List β) : (l ++ [a]).flatMap f = l.flatMap f ++ f a := by simp
theorem ups_succ (rows : List (List Int)) (x : Int) (n : Nat) : upsL rows x (n + 1) = upsL rows x n ++ (if coversB rows x (n : Int) = true then [(n : Int)] else []) := upTo_succ _ _
theorem flatMap_len {α β : Type} {f : α → List β} {m : Nat} : ∀ (l : List α), (∀ a ∈ l, (f a).length ≤ m) → (l.flatMap f).length ≤ l.length * m
  | [], _ => by simp
  | a :: l, h => by
    have := flatMap_len l fun b hb => h b (by simp [hb])
    have := h a (by simp)
    simp only [List.flatMap_cons, List.length_append, List.length_cons]
    rw [Nat.add_mul]; omega
theorem chF_len {rows : List (List Int)} (h10 : rows.length ≤ 10) : ∀ (k : Nat) (x : Int), (chF rows k x).length ≤ 10 ^ k
  | 0, _ => by simp [chF]
  | k + 1, x => by
    by_cases h : x = topL rows
    · rw [chF_top h]; exact Nat.pow_pos (by decide)
    · rw [chF_step h]
      refine Nat.le_trans (flatMap_len (m := 10 ^ k) _ fun y _ => by unfold stepF; rw [List.length_map]; exact chF_len h10 k y) ?_
      rw [Nat.pow_succ, Nat.mul_comm]
      exact Nat.mul_le_mul_left _ (Nat.le_trans (upTo_length _ _) h10)
theorem chF_mem {rows : List (List Int)} : ∀ (k : Nat) (x : Int) (c : List Int), c ∈ chF rows k x → c.length ≤ k
  | 0, _, c, h => by simp [chF] at h
  | k + 1, x, c, h => by
    by_cases hx : x = topL rows
    · rw [chF_top hx] at h; simp at h; subst h; simp
    · rw [chF_step hx] at h
      obtain ⟨y, -, hc⟩ := List.mem_flatMap.1 h
      unfold stepF at hc
      obtain ⟨d, hd, rfl⟩ := List.mem_map.1 hc
      have := chF_mem k y d hd
      simp; omega

/-- How many elements are above one. -/
def hN (rows : List (List Int)) (x : Int) : Nat := (List.range rows.length).countP fun (z : Nat) => lessB rows x (z : Int)
theorem countP_lt {α : Type} {p q : α → Bool} : ∀ (l : List α), (∀ a ∈ l, p a = true → q a = true) → (∃ a ∈ l, q a = true ∧ p a = false) → l.countP p < l.countP q
  | [], _, h => by obtain ⟨a, ha, -⟩ := h; simp at ha
  | b :: l, h, ⟨a, ha, hq, hp⟩ => by
    have hle : l.countP p ≤ l.countP q := List.countP_mono_left fun x hx => h x (by simp [hx])
    rw [List.countP_cons, List.countP_cons]
    rcases List.mem_cons.1 ha with rfl | ha
    · rw [hq, hp]; simp; omega
    · have := countP_lt l (fun x hx => h x (by simp [hx])) ⟨a, ha, hq, hp⟩
      have hb := h b (by simp)
      cases hpb : p b with
      | true => rw [hb hpb]; simp; omega
      | false => cases q b <;> simp <;> omega
theorem less_trans {rows : List (List Int)} (L : Lat rows) {x y z : Int} (hx : inR rows x) (hy : inR rows y) (hz : inR rows z) (h1 : lessB rows x y = true) (h2 : lessB rows y z = true) : lessB rows x z = true := by
  unfold lessB at *
  simp only [Bool.and_eq_true, Bool.not_eq_true', decide_eq_false_iff_not] at *
  refine ⟨fun e => ?_, L.trans x y z hx hy hz h1.2 h2.2⟩
  subst e
  exact h1.1 (L.anti x y hx hy h1.2 h2.2)
theorem hN_lt {rows : List (List Int)} (L : Lat rows) {x y : Int} (hx : inR rows x) (hy : inR rows y) (h : lessB rows x y = true) : hN rows y < hN rows x := by
  refine countP_lt _ (fun z hz hyz => less_trans L hx hy ⟨by omega, by have := List.mem_range.1 hz; omega⟩ h hyz) ⟨y.toNat, List.mem_range.2 (by have := hy.2; have := hy.1; omega), ?_, ?_⟩
  · rw [show ((y.toNat : Nat) : Int) = y by have := hy.1; omega]; exact h
  · rw [show ((y.toNat : Nat) : Int) = y by have := hy.1; omega]; unfold lessB; rw [decide_eq_true rfl]; rfl
theorem hN_top {rows : List (List Int)} {x : Int} (hx : inR rows x) : hN rows x < rows.length := by
  have h1 : (List.range rows.length).countP (fun (z : Nat) => lessB rows x (z : Int)) < (List.range rows.length).countP fun _ => true := by
    refine countP_lt _ (fun _ _ _ => rfl) ⟨x.toNat, List.mem_range.2 (by have := hx.2; have := hx.1; omega), rfl, ?_⟩
    rw [show ((x.toNat : Nat) : Int) = x by have := hx.1; omega]; unfold lessB; rw [decide_eq_true rfl]; rfl
  have h2 : ((List.range rows.length).countP fun _ => true) = rows.length := by simp
  unfold hN; omega
theorem cov_less {rows : List (List Int)} {x y : Int} (h : coversB rows x y = true) : lessB rows x y = true := by
  unfold coversB at h; rw [Bool.and_eq_true] at h; exact h.1
def mcL (rows : List (List Int)) : List (List Int) := chF rows rows.length (botL rows)
def sameLens (cs : List (List Int)) : Bool := allN cs.length fun i => decide (((cs.getD i []).length : Int) = ((cs.getD 0 []).length : Int))
def evB (rows : List (List Int)) : Bool := sameLens (mcL rows)
end Go.Proofs.Ytfpghibjbcdinaa
