/- Plain: what is reached, breadth first, over pairs of a place and a parity. -/
import Derived.Test.YtogfibhhfimbjaaRSq
namespace Go.Proofs.Ytogfibhhfimbjaa
open Go Go.Pv Go.Proofs

def orE (p : Nat → Bool) (h : List Bool) (k : Nat) : List Bool := (List.range h.length).map fun g => h.getD g false || (decide (g < k) && p g)
def nwE (p : Nat → Bool) (h : List Bool) (k : Nat) : List Nat := (List.range k).filter fun g => !h.getD g false && p g
theorem orE_len (p : Nat → Bool) (h : List Bool) (k : Nat) : (orE p h k).length = h.length := by simp [orE]
theorem orE_get {p : Nat → Bool} {h : List Bool} {k g : Nat} (hg : g < h.length) : (orE p h k).getD g false = (h.getD g false || (decide (g < k) && p g)) := by
  simp [orE, List.getD_eq_getElem?_getD, hg]
theorem orE_zero (p : Nat → Bool) (h : List Bool) : orE p h 0 = h := by
  apply List.ext_getElem (by simp [orE])
  intro i h1 h2
  simp [orE, h2]
theorem orE_cur {p : Nat → Bool} {h : List Bool} {k : Nat} (hk : k < h.length) : (orE p h k).getD k false = h.getD k false := by
  rw [orE_get hk]; simp
theorem orE_yes {p : Nat → Bool} {h : List Bool} {k : Nat} (hk : k < h.length) (h1 : h.getD k false = false) (h2 : p k = true) : (orE p h k).set k true = orE p h (k + 1) := by
  apply List.ext_getElem (by simp [orE])
  intro i a1 a2
  rw [List.getElem_set]
  have hi : i < h.length := by simpa [orE] using a2
  split
  · rename_i e; subst e
    simp [orE, h2]
  · rename_i e
    simp only [orE, List.getElem_map, List.getElem_range]
    congr 2
    exact decide_eq_decide.2 (by omega)
theorem orE_no {p : Nat → Bool} {h : List Bool} {k : Nat} (h1 : (!h.getD k false && p k) = false) : orE p h k = orE p h (k + 1) := by
  apply List.ext_getElem (by simp [orE])
  intro i a1 a2
  simp only [orE, List.getElem_map, List.getElem_range]
  by_cases e : i = k
  · subst e
    rw [decide_eq_false (by omega), decide_eq_true (by omega : i < i + 1)]
    cases hh : h.getD i false with
    | true => simp
    | false => rw [hh] at h1; simpa using h1
  · congr 2
    exact decide_eq_decide.2 (by omega)
theorem nwE_yes {p : Nat → Bool} {h : List Bool} {k : Nat} (h1 : h.getD k false = false) (h2 : p k = true) : nwE p h (k + 1) = nwE p h k ++ [k] := by
  unfold nwE
  rw [List.range_succ, List.filter_append]
  congr 1
  simp only [List.filter_cons, h1, h2, Bool.not_false, Bool.and_self, if_true, List.filter_nil]
theorem nwE_no {p : Nat → Bool} {h : List Bool} {k : Nat} (h1 : (!h.getD k false && p k) = false) : nwE p h (k + 1) = nwE p h k := by
  unfold nwE
  rw [List.range_succ, List.filter_append]
  simp only [List.filter_cons, h1, List.filter_nil, Bool.false_eq_true, if_false, List.append_nil]
theorem nwE_lt {p : Nat → Bool} {h : List Bool} {k g : Nat} (hg : g ∈ nwE p h k) : g < k := by
  have := (List.mem_filter.1 hg).1
  simpa using this
def cnt (h : List Bool) : Nat := ((List.range h.length).filter fun g => h.getD g false).length
theorem cnt_le (h : List Bool) : cnt h ≤ h.length := by
  unfold cnt
  exact Nat.le_trans (List.length_filter_le ..) (by simp)
theorem filter_or (a b : Nat → Bool) : ∀ l : List Nat, (l.filter fun g => a g || b g).length = (l.filter a).length + (l.filter fun g => !a g && b g).length
  | [] => rfl
  | x :: l => by
    have := filter_or a b l
    simp only [List.filter_cons]
    cases a x <;> cases b x <;> simp <;> omega
theorem cnt_or {p : Nat → Bool} {h : List Bool} {N : Nat} (hN : h.length = N) : cnt (orE p h N) = cnt h + (nwE p h N).length := by
  unfold cnt nwE
  rw [orE_len, hN]
  refine Eq.trans ?_ (filter_or (fun g => h.getD g false) p (List.range N))
  congr 1
  apply List.filter_congr
  intro g hg
  have hg : g < N := by simpa using hg
  rw [orE_get (by omega), decide_eq_true hg, Bool.true_and]

section
variable (N : Nat) (R : Bool → Nat → Nat → Bool)
structure RSt where
  h0 : List Bool
  h1 : List Bool
  ln : List (Nat × Bool)
def rNext (s : RSt) : Nat × Bool → RSt
  | (f, false) => ⟨s.h0, orE (R false f) s.h1 N, s.ln ++ (nwE (R false f) s.h1 N).map fun g => (g, true)⟩
  | (f, true) => ⟨orE (R true f) s.h0 N, s.h1, s.ln ++ (nwE (R true f) s.h0 N).map fun g => (g, false)⟩
def rN (z : Nat) : Nat → RSt
  | 0 => ⟨(List.replicate N false).set z true, List.replicate N false, [(z, false)]⟩
  | i + 1 => match (rN z i).ln[i]? with
    | some e => rNext N R (rN z i) e
    | none => rN z i
structure RInv (s : RSt) : Prop where
  l0 : s.h0.length = N
  l1 : s.h1.length = N
  cn : s.ln.length = cnt s.h0 + cnt s.h1
  lt : ∀ e ∈ s.ln, e.1 < N
def rV (z : Nat) : List Nat := (List.range N).filter fun f => (rN N R z (2 * N)).h0.getD f false || (rN N R z (2 * N)).h1.getD f false
variable {N R}
theorem cnt_rep (N : Nat) : cnt (List.replicate N false) = 0 := by
  unfold cnt
  rw [List.length_eq_zero_iff, List.filter_eq_nil_iff]
  intro g hg
  simp [List.getD_eq_getElem?_getD, List.getElem?_replicate]
  split <;> rfl
theorem cnt_one {z N : Nat} (hz : z < N) : cnt ((List.replicate N false).set z true) = 1 := by
  have e : (List.replicate N false).set z true = orE (fun g => decide (g = z)) (List.replicate N false) N := by
    apply List.ext_getElem (by simp [orE])
    intro i h1 h2
    have hi : i < N := by simpa [orE] using h2
    rw [List.getElem_set]
    simp only [orE, List.getElem_map, List.getElem_range, List.getD_eq_getElem?_getD, List.getElem?_replicate, hi, if_true, decide_true, Bool.true_and, Option.getD_some, Bool.false_or, List.getElem_replicate]
    by_cases e : z = i
    · subst e; simp
    · rw [if_neg e, decide_eq_false (Ne.symm e)]
  rw [e, cnt_or (by simp), cnt_rep, Nat.zero_add]
  have : nwE (fun g => decide (g = z)) (List.replicate N false) N = [z] := by
    have h1 : nwE (fun g => decide (g = z)) (List.replicate N false) N = (List.range N).filter fun g => decide (g = z) := by
      unfold nwE
      apply List.filter_congr
      intro g hg
      have hg : g < N := by simpa using hg
      simp [List.getD_eq_getElem?_getD, List.getElem?_replicate, hg]
    rw [h1]
    clear h1 e
    induction N with
    | zero => omega
    | succ n ih =>
      rw [List.range_succ, List.filter_append]
      by_cases e : z = n
      · subst e
        rw [List.filter_eq_nil_iff.2 (fun g hg => by have : g < z := by simpa using hg
                                                     simp; omega)]
        simp
      · rw [ih (by omega)]
        simp [Ne.symm e]
  rw [this]; rfl
theorem rInv {z : Nat} (hz : z < N) : ∀ i, RInv N (rN N R z i)
  | 0 => ⟨by simp [rN], by simp [rN], by simp only [rN]; rw [cnt_one hz, cnt_rep]; rfl, fun e he => by
      simp only [rN, List.mem_singleton] at he; subst he; exact hz⟩
  | i + 1 => by
    have h := rInv (z := z) hz i
    unfold rN
    cases he : (rN N R z i).ln[i]? with
    | none => exact h
    | some e =>
      obtain ⟨f, o⟩ := e
      cases o with
      | false =>
        refine ⟨h.l0, by simp only [rNext, orE_len]; exact h.l1, ?_, fun e he => ?_⟩
        · simp only [rNext, List.length_append, List.length_map]
          rw [cnt_or h.l1, h.cn]; omega
        · simp only [rNext, List.mem_append, List.mem_map] at he
          rcases he with he | ⟨g, hg, rfl⟩
          · exact h.lt e he
          · exact nwE_lt hg
      | true =>
        refine ⟨by simp only [rNext, orE_len]; exact h.l0, h.l1, ?_, fun e he => ?_⟩
        · simp only [rNext, List.length_append, List.length_map]
          rw [cnt_or h.l0, h.cn]; omega
        · simp only [rNext, List.mem_append, List.mem_map] at he
          rcases he with he | ⟨g, hg, rfl⟩
          · exact h.lt e he
          · exact nwE_lt hg
theorem rLen {z i : Nat} (hz : z < N) : (rN N R z i).ln.length ≤ 2 * N := by
  have h := rInv (R := R) hz i
  have h1 := cnt_le (rN N R z i).h0
  have h2 := cnt_le (rN N R z i).h1
  rw [h.l0] at h1
  rw [h.l1] at h2
  rw [h.cn]; omega
theorem rStay {z i : Nat} (h : (rN N R z i).ln.length ≤ i) : ∀ j, rN N R z (i + j) = rN N R z i
  | 0 => rfl
  | j + 1 => by
    have ih := rStay h j
    show (match (rN N R z (i + j)).ln[i + j]? with | some e => rNext N R (rN N R z (i + j)) e | none => rN N R z (i + j)) = _
    rw [ih, List.getElem?_eq_none (by omega)]
theorem rEnd {z i : Nat} (hz : z < N) (hi : i ≤ (rN N R z i).ln.length) (h : (rN N R z i).ln.length ≤ i) : rN N R z (2 * N) = rN N R z i := by
  have h1 := rLen (R := R) (i := i) hz
  have := rStay h (2 * N - i)
  rwa [show i + (2 * N - i) = 2 * N by omega] at this
theorem rNext_ln (s : RSt) (e : Nat × Bool) : s.ln.length ≤ (rNext N R s e).ln.length := by
  obtain ⟨f, o⟩ := e
  cases o <;> simp [rNext]
theorem rSucc {z i : Nat} {e : Nat × Bool} (h : (rN N R z i).ln[i]? = some e) : rN N R z (i + 1) = rNext N R (rN N R z i) e := by
  show (match (rN N R z i).ln[i]? with | some e => rNext N R (rN N R z i) e | none => rN N R z i) = _
  rw [h]
end
end Go.Proofs.Ytogfibhhfimbjaa
