/- What the laws' marks leave: numbers one after another. No program here. -/
import Derived.Test.YtfpghibjbcdinaaSz
namespace Go.Proofs.Ytfpghibjbcdinaa

def marks (k : Int) (n : Nat) : List Int := (List.range n).map fun (i : Nat) => k + (i : Int)
theorem length_marks (k : Int) (n : Nat) : (marks k n).length = n := by simp [marks]
theorem marks_succ (k : Int) (n : Nat) : marks k (n + 1) = marks k n ++ [k + (n : Int)] := by simp [marks, List.range_succ]
theorem getD_marks (k : Int) {n i : Nat} (h : i < n) : (marks k n).getD i 0 = k + (i : Int) := by simp [marks, h]
/-- How many numbers lie in lists of numbers. -/
def tot (rows : List (List Int)) : Nat := (rows.map List.length).sum
theorem tot_snoc (l : List (List Int)) (r : List Int) : tot (l ++ [r]) = tot l + r.length := by simp [tot]
theorem tot_app (l m : List (List Int)) : tot (l ++ m) = tot l + tot m := by simp [tot]
theorem tot_take {rows : List (List Int)} {i : Nat} (h : i < rows.length) : tot (rows.take (i + 1)) = tot (rows.take i) + (rows.getD i []).length := by
  rw [take_snoc [] h, tot_snoc]
theorem tot_take_le (rows : List (List Int)) (i : Nat) : tot (rows.take i) ≤ tot rows := by
  have := tot_app (rows.take i) (rows.drop i)
  rw [List.take_append_drop] at this
  omega
def marksS : Int → List (List Int) → List (List Int)
  | _, [] => []
  | k, r :: rs => marks k r.length :: marksS (k + (r.length : Int)) rs
theorem length_marksS : ∀ (k : Int) (rows : List (List Int)), (marksS k rows).length = rows.length
  | _, [] => rfl
  | k, r :: rs => by simp only [marksS, List.length_cons, length_marksS]
theorem marksS_snoc : ∀ (k : Int) (l : List (List Int)) (r : List Int), marksS k (l ++ [r]) = marksS k l ++ [marks (k + (tot l : Int)) r.length]
  | k, [], r => by simp [marksS, tot]
  | k, a :: l, r => by
    have e : k + (tot (a :: l) : Int) = k + (a.length : Int) + (tot l : Int) := by simp [tot]; omega
    rw [e, List.cons_append, marksS, marksS_snoc _ l r]
    rfl
theorem set_mid {α : Type} (l m : List α) (a b : α) : (l ++ a :: m).set l.length b = l ++ b :: m := by simp
/-- One more row is marked. -/
theorem marksS_set {k : Int} {rows : List (List Int)} {i : Nat} (h : i < rows.length) :
    (marksS k (rows.take i) ++ rows.drop i).set i (marks (k + (tot (rows.take i) : Int)) (rows.getD i []).length) = marksS k (rows.take (i + 1)) ++ rows.drop (i + 1) := by
  have hl : (marksS k (rows.take i)).length = i := by rw [length_marksS]; simp; omega
  rw [take_snoc [] h, marksS_snoc, drop_cons' [] h, List.append_assoc]
  have := set_mid (marksS k (rows.take i)) (rows.drop (i + 1)) (rows.getD i []) (marks (k + (tot (rows.take i) : Int)) (rows.getD i []).length)
  rw [hl] at this
  exact this
theorem marksS_at {k : Int} {rows : List (List Int)} {i : Nat} (h : i < rows.length) : (marksS k (rows.take i) ++ rows.drop i).getD i [] = rows.getD i [] := by
  have hl : (marksS k (rows.take i)).length = i := by rw [length_marksS]; simp; omega
  rw [List.getD_eq_getElem?_getD, List.getElem?_append_right (by omega), hl, Nat.sub_self, drop_cons' [] h]; rfl
theorem marksS_get : ∀ (k : Int) (rows : List (List Int)) (i : Nat), i < rows.length → (marksS k rows).getD i [] = marks (k + (tot (rows.take i) : Int)) (rows.getD i []).length
  | k, [], i, h => by simp at h
  | k, r :: rs, 0, _ => by simp [marksS, tot]
  | k, r :: rs, i + 1, h => by
    have := marksS_get (k + (r.length : Int)) rs i (by simpa using h)
    simp only [marksS, List.getD_cons_succ, this, List.take_succ_cons]
    congr 1
    simp [tot]; omega
theorem szLL_tot : ∀ (rows : List (List Int)) (left : Int), 0 ≤ left → ¬ szLL rows left < 0 → (tot rows : Int) ≤ left
  | [], left, h, _ => by simp [tot]; exact h
  | r :: rs, left, h, h' => by
    simp only [szLL] at h'
    split at h'
    · omega
    · rename_i hs
      have h0 : 0 ≤ szL r.length left := by omega
      have := szLL_tot rs _ h0 h'
      unfold szL at this h0
      have e : tot (r :: rs) = r.length + tot rs := by simp [tot]
      split at this <;> omega
theorem sz_tot {rows : List (List Int)} (h : ¬ szSS rows 1048576 < 0) : tot rows ≤ 1048576 := by
  unfold szSS at h
  split at h
  · omega
  · have := szLL_tot rows _ (by omega) h
    omega
theorem szLL_le : ∀ (rows : List (List Int)) (left : Int), left ≤ 1048576 → szLL rows left ≤ 1048576
  | [], left, h => h
  | r :: rs, left, h => by
    simp only [szLL]
    split
    · omega
    · exact szLL_le rs _ (by unfold szL; split <;> omega)
theorem sz_left {rows : List (List Int)} {left : Int} (h0 : 0 ≤ left) (h1 : left ≤ 1048576) (h : ¬ szSS rows left < 0) : 0 ≤ szSS rows left ∧ szSS rows left ≤ 1048576 := by
  unfold szSS at *; split at h; · omega
  · rename_i h2; rw [if_neg h2]; exact ⟨by omega, szLL_le _ _ (by omega)⟩
theorem sz_okL {rows : List (List Int)} {left : Int} (h0 : 0 ≤ left) (h1 : left ≤ 1048576) (h : ¬ szSS rows left < 0) : okP rows := by
  unfold szSS at h
  split at h
  · omega
  · rename_i h2
    exact ⟨by omega, szLL_ok rows (left - rows.length) (by omega) (by omega)⟩
theorem sz_totL {rows : List (List Int)} {left : Int} (h0 : 0 ≤ left) (h1 : left ≤ 1048576) (h : ¬ szSS rows left < 0) : tot rows ≤ 1048576 := by
  unfold szSS at h
  split at h
  · omega
  · have := szLL_tot rows _ (by omega) h
    omega
end Go.Proofs.Ytfpghibjbcdinaa
