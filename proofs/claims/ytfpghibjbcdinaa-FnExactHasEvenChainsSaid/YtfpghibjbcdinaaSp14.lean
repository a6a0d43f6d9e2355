/- Rising lists are told by their members; covers; the dual of the dual. No program here. -/
import Derived.Test.YtfpghibjbcdinaaSp13
namespace Go.Proofs.Ytfpghibjbcdinaa

theorem sorted_ext : ∀ (l m : List Int), l.Pairwise (· < ·) → m.Pairwise (· < ·) → (∀ x, x ∈ l ↔ x ∈ m) → l = m
  | [], [], _, _, _ => rfl
  | [], b :: m, _, _, h => by have := (h b).2 (by simp); simp at this
  | a :: l, [], _, _, h => by have := (h a).1 (by simp); simp at this
  | a :: l, b :: m, hl, hm, h => by
    rw [List.pairwise_cons] at hl hm
    have hab : a = b := by
      have h1 := (h a).1 (by simp)
      have h2 := (h b).2 (by simp)
      rcases List.mem_cons.1 h1 with e | h1
      · exact e
      · rcases List.mem_cons.1 h2 with e | h2
        · exact e.symm
        · have := hl.1 b h2
          have := hm.1 a h1
          omega
    subst hab
    congr 1
    refine sorted_ext l m hl.2 hm.2 fun x => ⟨fun hx => ?_, fun hx => ?_⟩
    · rcases List.mem_cons.1 ((h x).1 (List.mem_cons_of_mem _ hx)) with e | h'
      · have := hl.1 x hx; omega
      · exact h'
    · rcases List.mem_cons.1 ((h x).2 (List.mem_cons_of_mem _ hx)) with e | h'
      · have := hm.1 x hx; omega
      · exact h'
theorem upTo_sorted (n : Nat) (p : Nat → Bool) : (upTo n p).Pairwise (· < ·) := by
  unfold upTo
  rw [List.pairwise_map]
  refine List.Pairwise.filter _ ?_
  exact List.pairwise_lt_range.imp fun h => by simpa using h
theorem ris_sorted {l : List Int} {lo hi : Int} (h : risB l lo hi = true) : l.Pairwise (· < ·) := by
  have step : ∀ j i, i < j → j < l.length → l.getD i 0 < l.getD j 0 := by
    intro j
    induction j with
    | zero => intro i hi; omega
    | succ j ih =>
      intro i hi hj
      have hs := allN_iff.1 h (j + 1) hj
      simp only [Bool.and_eq_true, Bool.or_eq_true, decide_eq_true_eq, Nat.add_sub_cancel] at hs
      have hs' : l.getD j 0 < l.getD (j + 1) 0 := by
        rcases hs.2 with h0 | h0
        · simp at h0
        · exact h0
      rcases Nat.lt_or_ge i j with h' | h'
      · have := ih i h' (by omega); omega
      · rw [show i = j by omega]; exact hs'
  rw [List.pairwise_iff_getElem]
  intro i j hi hj hij
  have := step j i hij hj
  simpa [hi, hj] using this
theorem rises_upTo {l : List Int} {n : Nat} (h : risB l 0 ((n : Int) - 1) = true) : upTo n (fun y => l.contains (y : Int)) = l := by
  refine sorted_ext _ _ (upTo_sorted _ _) (ris_sorted h) fun x => ?_
  rw [upTo_mem]
  constructor
  · rintro ⟨h0, -, h2⟩
    have : ((x.toNat : Nat) : Int) = x := by omega
    rw [this] at h2
    exact List.contains_iff_mem.1 h2
  · intro hx
    obtain ⟨i, hi, rfl⟩ := List.getElem_of_mem hx
    have hb := risB_mem h hi
    have e : l.getD i 0 = l[i] := by simp [hi]
    rw [e] at hb
    refine ⟨hb.1, by omega, ?_⟩
    rw [show ((l[i].toNat : Nat) : Int) = l[i] by omega]
    exact List.contains_iff_mem.2 hx
theorem dual_dual {rows : List (List Int)} (h : goodP rows = true) : dualL (dualL rows) = rows := by
  have hl : (dualL (dualL rows)).length = rows.length := by rw [length_dual, length_dual]
  refine List.ext_getElem hl fun x hx hx' => ?_
  have e1 : (dualL (dualL rows))[x] = (dualL (dualL rows)).getD x [] := by simp [hx]
  have e2 : rows[x] = rows.getD x [] := by simp [hx']
  rw [e1, e2, dual_getD (by rw [length_dual]; exact hx'), length_dual]
  have hris : risB (rows.getD x []) 0 ((rows.length : Int) - 1) = true := by
    have := goodP_1 h hx'
    unfold good1 at this
    rw [Bool.and_eq_true] at this
    exact this.1
  rw [upTo_congr (q := fun y => (rows.getD x []).contains (y : Int)) fun y hy => ?_]
  · exact rises_upTo hris
  · rw [leq_dual ⟨by omega, by omega⟩ ⟨by omega, by omega⟩]; unfold leqB; rfl
theorem join_dual {rows : List (List Int)} (h : goodP rows = true) (x y : Int) : joinL (dualL rows) x y = meetL rows x y := by
  unfold joinL meetL; rw [dual_dual h]

def lessB (rows : List (List Int)) (x y : Int) : Bool := !decide (x = y) && leqB rows x y
def covP (rows : List (List Int)) (x y : Int) (z : Nat) : Bool := !(lessB rows x (z : Int) && lessB rows (z : Int) y)
def coversB (rows : List (List Int)) (x y : Int) : Bool := lessB rows x y && allN rows.length (covP rows x y)
def usP (rows : List (List Int)) (x y : Nat) : Bool := !(coversB rows (meetL rows (x : Int) (y : Int)) (x : Int) && !coversB rows (y : Int) (joinL rows (x : Int) (y : Int)))
def usB (rows : List (List Int)) : Bool := allN rows.length fun x => allN rows.length (usP rows x)
def lsP (rows : List (List Int)) (x y : Nat) : Bool := !(coversB rows (x : Int) (joinL rows (x : Int) (y : Int)) && !coversB rows (meetL rows (x : Int) (y : Int)) (y : Int))
def lsB (rows : List (List Int)) : Bool := allN rows.length fun x => allN rows.length (lsP rows x)
theorem allN_congr {n : Nat} {p q : Nat → Bool} (h : ∀ k, k < n → p k = q k) : allN n p = allN n q := by
  rw [Bool.eq_iff_iff, allN_iff, allN_iff]
  exact ⟨fun h' k hk => (h k hk) ▸ h' k hk, fun h' k hk => (h k hk).symm ▸ h' k hk⟩
theorem less_dual {rows : List (List Int)} {x y : Int} (hx : inR rows x) (hy : inR rows y) : lessB (dualL rows) x y = lessB rows y x := by
  unfold lessB
  rw [leq_dual hx hy, show decide (x = y) = decide (y = x) by rw [Bool.eq_iff_iff]; simp [eq_comm]]
theorem covers_dual {rows : List (List Int)} {x y : Int} (hx : inR rows x) (hy : inR rows y) : coversB (dualL rows) x y = coversB rows y x := by
  unfold coversB
  rw [less_dual hx hy, length_dual]
  congr 1
  refine allN_congr fun z hz => ?_
  have hz' : inR rows (z : Int) := ⟨by omega, by omega⟩
  unfold covP
  rw [less_dual hx hz', less_dual hz' hy, Bool.and_comm]
theorem ls_eq {rows : List (List Int)} (hg : goodL rows = true) : usB (dualL rows) = lsB rows := by
  have hP := goodL_P hg
  unfold usB lsB
  rw [length_dual]
  refine allN_congr fun x hx => allN_congr fun y hy => ?_
  have hx' : inR rows (x : Int) := ⟨by omega, by omega⟩
  have hy' : inR rows (y : Int) := ⟨by omega, by omega⟩
  unfold usP lsP
  have hm : meetL (dualL rows) (x : Int) (y : Int) = joinL rows (x : Int) (y : Int) := rfl
  rw [hm, join_dual hP, covers_dual (join_in hg hx' hy') hx', covers_dual hy' (meet_in hg hx' hy')]
end Go.Proofs.Ytfpghibjbcdinaa
