/- Plain: the congruences in their order by fineness are a lattice. -/
import Derived.Test.YtembaiccchgllaaGreatJKg
import Derived.Test.YtembaiccchgllaaGreatJSn
set_option linter.unusedSectionVars false
namespace Go.Proofs.YtembaiccchgllaaGreat
open Go Go.Pv Go.Proofs

def fiB (n : Nat) (p q : List Int) : Bool := (List.range n).all fun x => decide (q.getD (bk p x) 0 = q.getD x 0)
theorem fiB_iff {n : Nat} {p q : List Int} (hp : Pt n p) (hq : Pt n q) : fiB n p q = true ↔ Fi n p q := by
  unfold fiB Fi
  rw [List.all_eq_true]
  constructor
  · intro h x hx
    have := h x (List.mem_range.2 hx)
    rw [decide_eq_true_eq, hq.val (hp.lt hx), hq.val hx] at this
    exact Int.ofNat.inj this
  · intro h x hx
    have hx := List.mem_range.1 hx
    rw [decide_eq_true_eq, hq.val (hp.lt hx), hq.val hx, h x hx]
structure CLat (n : Nat) (V : List (List Int)) : Prop where
  pt : ∀ i, i < V.length → Pt n (V.getD i [])
  inj : ∀ i j, i < V.length → j < V.length → V.getD i [] = V.getD j [] → i = j
  meet : ∀ i j, i < V.length → j < V.length → ∃ k, k < V.length ∧ V.getD k [] = meetP n (V.getD i []) (V.getD j [])
  join : ∀ i j, i < V.length → j < V.length → ∃ k, k < V.length ∧ V.getD k [] = joinP n (V.getD i []) (V.getD j [])
  pos : 0 < V.length
  bot : ∀ i, i < V.length → Fi n (V.getD 0 []) (V.getD i [])
def clF (n : Nat) (V : List (List Int)) (i k : Nat) : Bool := fiB n (V.getD k []) (V.getD i [])
def clK (n : Nat) (V : List (List Int)) (i k : Nat) : List Int := upTo k (clF n V i)
def clR (n : Nat) (V : List (List Int)) (k : Nat) : List (List Int) := (List.range k).map fun i => clK n V i V.length
def clP (n : Nat) (V : List (List Int)) : List (List Int) := clR n V V.length
theorem clR_succ (n : Nat) (V : List (List Int)) (k : Nat) : clR n V (k + 1) = clR n V k ++ [clK n V k V.length] := by
  unfold clR; rw [List.range_succ, List.map_append]; rfl
theorem clP_len (n : Nat) (V : List (List Int)) : (clP n V).length = V.length := by simp [clP, clR]
theorem clP_row {n : Nat} {V : List (List Int)} {i : Nat} (h : i < V.length) : (clP n V).getD i [] = upTo V.length (clF n V i) := getD_map_range _ _ _ h
theorem clP_ok {n : Nat} {V : List (List Int)} (h : V.length ≤ 1048576) : okP (clP n V) := ⟨by rw [clP_len]; exact h, fun r hr => by
  obtain ⟨i, -, rfl⟩ := List.mem_map.1 hr
  exact Nat.le_trans (upTo_length _ _) h⟩
section
variable {n : Nat} {V : List (List Int)} (C : CLat n V)
include C
theorem cl_in {i : Int} (hi : inR (clP n V) i) : ((i.toNat : Nat) : Int) = i ∧ i.toNat < V.length := by
  unfold inR at hi; rw [clP_len] at hi; omega
omit C in
theorem cl_inR {i : Nat} (hi : i < V.length) : inR (clP n V) (i : Int) := by unfold inR; rw [clP_len]; omega
theorem cl_leq {k i : Nat} (hk : k < V.length) (hi : i < V.length) : leqB (clP n V) (k : Int) (i : Int) = true ↔ Fi n (V.getD k []) (V.getD i []) := by
  unfold leqB
  rw [Int.toNat_natCast, clP_row hi, List.contains_iff_mem, upTo_mem, Int.toNat_natCast]
  unfold clF
  rw [fiB_iff (C.pt k hk) (C.pt i hi)]
  exact ⟨fun h => h.2.2, fun h => ⟨by omega, by omega, h⟩⟩
theorem cl_goodP (h10 : V.length ≤ 10) : goodP (clP n V) = true := by
  have hl := clP_len n V
  refine goodP_upTo (f := clF n V) (by omega) (fun x hx => ?_) (fun x hx => ?_) (fun x y hx hy h1 h2 => ?_) fun x y z hx hy hz h1 h2 => ?_
  · rw [hl] at hx ⊢; exact clP_row hx
  · rw [hl] at hx
    exact (fiB_iff (C.pt x hx) (C.pt x hx)).2 (fi_refl (C.pt x hx))
  · rw [hl] at hx hy
    exact C.inj x y hx hy (fi_antisymm (C.pt x hx) (C.pt y hy) ((fiB_iff (C.pt x hx) (C.pt y hy)).1 h2) ((fiB_iff (C.pt y hy) (C.pt x hx)).1 h1))
  · rw [hl] at hx hy hz
    exact (fiB_iff (C.pt z hz) (C.pt x hx)).2 (fi_trans (C.pt z hz) ((fiB_iff (C.pt z hz) (C.pt y hy)).1 h2) ((fiB_iff (C.pt y hy) (C.pt x hx)).1 h1))
theorem cl_good (h10 : V.length ≤ 10) : goodL (clP n V) = true := by
  have hl := clP_len n V
  have hp0 := C.pos
  unfold goodL
  rw [cl_goodP C h10, Bool.true_and, decide_eq_false (by omega), Bool.not_false, Bool.true_and]
  refine allN_iff.2 fun x hx => allN_iff.2 fun y hy => ?_
  have hx' : x < V.length := by omega
  have hy' : y < V.length := by omega
  unfold pairOk
  have h1 : 0 ≤ boundL (clP n V) [(x : Int), (y : Int)] := by
    obtain ⟨m, hm, e⟩ := C.meet x y hx' hy'
    refine bound_nn (cl_inR hm) (two_all.2 ⟨(cl_leq C hm hx').2 (by rw [e]; exact meet_fi1), (cl_leq C hm hy').2 (by rw [e]; exact meet_fi2)⟩) fun z hz hall => ?_
    obtain ⟨ez, hz'⟩ := cl_in C hz
    rw [← ez] at hall ⊢
    have h3 := two_all.1 hall
    refine (cl_leq C hz' hm).2 ?_
    rw [e]
    exact meet_most (C.pt _ hz') ((cl_leq C hz' hx').1 h3.1) ((cl_leq C hz' hy').1 h3.2)
  have h2 : 0 ≤ boundL (dualL (clP n V)) [(x : Int), (y : Int)] := by
    obtain ⟨m, hm, e⟩ := C.join x y hx' hy'
    have ld := length_dual (clP n V)
    have rm := cl_inR (n := n) hm
    have rx := cl_inR (n := n) hx'
    have ry := cl_inR (n := n) hy'
    refine bound_nn (m := (m : Int)) (by unfold inR at rm ⊢; rw [ld]; exact rm) (two_all.2 ⟨?_, ?_⟩) fun z hz hall => ?_
    · rw [leq_dual rm rx]; exact (cl_leq C hx' hm).2 (by rw [e]; exact join_fi1 (C.pt x hx') (C.pt y hy'))
    · rw [leq_dual rm ry]; exact (cl_leq C hy' hm).2 (by rw [e]; exact join_fi2 (C.pt x hx') (C.pt y hy'))
    · have hz2 : inR (clP n V) z := by unfold inR at hz ⊢; rwa [ld] at hz
      obtain ⟨ez, hz'⟩ := cl_in C hz2
      have h3 := two_all.1 hall
      rw [leq_dual hz2 rx, leq_dual hz2 ry] at h3
      rw [leq_dual hz2 rm]
      rw [← ez] at h3 ⊢
      refine (cl_leq C hm hz').2 ?_
      rw [e]
      exact join_least (C.pt x hx') (C.pt y hy') ((cl_leq C hx' hz').1 h3.1) ((cl_leq C hy' hz').1 h3.2)
  rw [decide_eq_false (by omega), decide_eq_false (by omega)]
  rfl
theorem cl_meet (h10 : V.length ≤ 10) {i k : Nat} (hi : i < V.length) (hk : k < V.length) : ∃ m : Nat, meetL (clP n V) (i : Int) (k : Int) = (m : Int) ∧ m < V.length ∧ V.getD m [] = meetP n (V.getD i []) (V.getD k []) := by
  have L := goodL_lat (cl_good C h10)
  have ri := cl_inR (n := n) hi
  have rk := cl_inR (n := n) hk
  obtain ⟨m, hm, e⟩ := C.meet i k hi hk
  have hmm := L.meetR _ _ ri rk
  refine ⟨m, ?_, hm, e⟩
  obtain ⟨ez, hz'⟩ := cl_in C hmm
  have m1 := L.meet1 _ _ ri rk
  have m2 := L.meet2 _ _ ri rk
  refine L.anti _ _ hmm (cl_inR hm) ?_ (L.meetG _ _ _ ri rk (cl_inR hm) ((cl_leq C hm hi).2 (by rw [e]; exact meet_fi1)) ((cl_leq C hm hk).2 (by rw [e]; exact meet_fi2)))
  rw [← ez] at m1 m2 ⊢
  refine (cl_leq C hz' hm).2 ?_
  rw [e]
  exact meet_most (C.pt _ hz') ((cl_leq C hz' hi).1 m1) ((cl_leq C hz' hk).1 m2)
theorem cl_join (h10 : V.length ≤ 10) {i k : Nat} (hi : i < V.length) (hk : k < V.length) : ∃ m : Nat, joinL (clP n V) (i : Int) (k : Int) = (m : Int) ∧ m < V.length ∧ V.getD m [] = joinP n (V.getD i []) (V.getD k []) := by
  have L := goodL_lat (cl_good C h10)
  have ri := cl_inR (n := n) hi
  have rk := cl_inR (n := n) hk
  obtain ⟨m, hm, e⟩ := C.join i k hi hk
  have hmm := L.joinR _ _ ri rk
  refine ⟨m, ?_, hm, e⟩
  obtain ⟨ez, hz'⟩ := cl_in C hmm
  have m1 := L.join1 _ _ ri rk
  have m2 := L.join2 _ _ ri rk
  refine L.anti _ _ hmm (cl_inR hm) (L.joinG _ _ _ ri rk (cl_inR hm) ((cl_leq C hi hm).2 (by rw [e]; exact join_fi1 (C.pt i hi) (C.pt k hk))) ((cl_leq C hk hm).2 (by rw [e]; exact join_fi2 (C.pt i hi) (C.pt k hk)))) ?_
  rw [← ez] at m1 m2 ⊢
  refine (cl_leq C hm hz').2 ?_
  rw [e]
  exact join_least (C.pt i hi) (C.pt k hk) ((cl_leq C hi hz').1 m1) ((cl_leq C hk hz').1 m2)
theorem cl_bot (h10 : V.length ≤ 10) : botL (clP n V) = 0 := by
  have hg := cl_good C h10
  have L := goodL_lat hg
  have r0 := cl_inR (n := n) (i := 0) C.pos
  have hb : 0 ≤ boundL (dualL (clP n V)) [] := by
    have ld := length_dual (clP n V)
    refine bound_nn (m := ((0 : Nat) : Int)) (by unfold inR at r0 ⊢; rw [ld]; exact r0) (fun s hs => by cases hs) fun z hz _ => ?_
    have hz2 : inR (clP n V) z := by unfold inR at hz ⊢; rwa [ld] at hz
    obtain ⟨ez, hz'⟩ := cl_in C hz2
    rw [leq_dual hz2 r0]
    rw [← ez]
    exact (cl_leq C C.pos hz').2 (C.bot _ hz')
  obtain ⟨b1, -, b3⟩ := bound_spec hb
  have ld := length_dual (clP n V)
  have hb2 : inR (clP n V) (botL (clP n V)) := by unfold inR at b1 ⊢; rw [ld] at b1; exact b1
  obtain ⟨ez, hz'⟩ := cl_in C hb2
  have h1 := b3 ((0 : Nat) : Int) (by unfold inR at r0 ⊢; rw [ld]; exact r0) (fun s hs => by cases hs)
  have h1 : leqB (dualL (clP n V)) ((0 : Nat) : Int) (botL (clP n V)) = true := h1
  rw [leq_dual r0 hb2] at h1
  have h2 : leqB (clP n V) ((0 : Nat) : Int) (botL (clP n V)) = true := by
    rw [← ez]; exact (cl_leq C C.pos hz').2 (C.bot _ hz')
  exact L.anti _ _ hb2 r0 h1 h2
/-! ### Covers -/
theorem cl_less {k i : Nat} (hk : k < V.length) (hi : i < V.length) : lessB (clP n V) (k : Int) (i : Int) = true ↔ k ≠ i ∧ Fi n (V.getD k []) (V.getD i []) := by
  rw [less_iff, cl_leq C hk hi]
  exact and_congr_left fun _ => ⟨fun h e => h (by rw [e]), fun h e => h (by omega)⟩
theorem cl_cov {k i : Nat} (hk : k < V.length) (hi : i < V.length) : coversB (clP n V) (k : Int) (i : Int) = true ↔ (k ≠ i ∧ Fi n (V.getD k []) (V.getD i [])) ∧ ∀ z, z < V.length → k ≠ z → Fi n (V.getD k []) (V.getD z []) → z ≠ i → Fi n (V.getD z []) (V.getD i []) → False := by
  rw [cov_iff, cl_less C hk hi]
  refine and_congr_right fun _ => ⟨fun h z hz h1 h2 h3 h4 => h (z : Int) (cl_inR hz) ((cl_less C hk hz).2 ⟨h1, h2⟩) ((cl_less C hz hi).2 ⟨h3, h4⟩), fun h z hz h1 h2 => ?_⟩
  obtain ⟨ez, hz'⟩ := cl_in C hz
  rw [← ez] at h1 h2
  obtain ⟨a1, a2⟩ := (cl_less C hk hz').1 h1
  obtain ⟨b1, b2⟩ := (cl_less C hz' hi).1 h2
  exact h _ hz' a1 a2 b1 b2
end
/-! ### Rows of a list for which no other one is beyond -/
theorem cl_at {V : List (List Int)} {p : List Int} (hp : p ∈ V) : ∃ i, i < V.length ∧ V.getD i [] = p := by
  obtain ⟨i, hi, rfl⟩ := List.getElem_of_mem hp
  exact ⟨i, hi, by rw [List.getD_eq_getElem?_getD, List.getElem?_eq_getElem hi]; rfl⟩
theorem nd_inj {α : Type} {l : List α} (h : l.Nodup) {i j : Nat} (hi : i < l.length) (hj : j < l.length) (e : l[i] = l[j]) : i = j := by
  have hp := List.pairwise_iff_getElem.1 h
  rcases Nat.lt_trichotomy i j with hl | hl | hl
  · exact absurd e (hp i j hi hj hl)
  · exact hl
  · exact absurd e.symm (hp j i hj hi hl)
theorem nd_map {α β : Type} {l : List α} {f : α → β} (h : l.Nodup) (hf : ∀ a ∈ l, ∀ b ∈ l, f a = f b → a = b) : (l.map f).Nodup :=
  List.pairwise_map.2 (List.Pairwise.imp_of_mem (fun ha hb hne e => hne (hf _ ha _ hb e)) h)
def minX (n : Nat) (W : List (List Int)) (i : Nat) : Bool := (List.range W.length).all fun k => k == i || !fiB n (W.getD k []) (W.getD i [])
def minL (n : Nat) (W : List (List Int)) : List (List Int) := ((List.range W.length).filter (minX n W)).map fun i => W.getD i []
def abvP (n : Nat) (V : List (List Int)) (p : List Int) : List (List Int) := V.filter fun q => fiB n p q && !decide (p = q)
def covP6 (n : Nat) (V : List (List Int)) (p : List Int) : List (List Int) := minL n (abvP n V p)
theorem range_getD {V : List (List Int)} : (List.range V.length).map (fun i => V.getD i []) = V := by
  refine List.ext_getElem (by simp) fun i h1 h2 => ?_
  rw [List.getElem_map, List.getElem_range, List.getD_eq_getElem?_getD, List.getElem?_eq_getElem h2]; rfl
theorem filter_idx {α : Type} (l : List Nat) (f : Nat → α) (g : α → Bool) : (l.map f).filter g = (l.filter fun i => g (f i)).map f := by rw [List.filter_map]; rfl
theorem minL_mem {n : Nat} {W : List (List Int)} (hW : W.Nodup) {p : List Int} : p ∈ minL n W ↔ p ∈ W ∧ ∀ q ∈ W, q ≠ p → fiB n q p = false := by
  unfold minL
  rw [List.mem_map]
  constructor
  · rintro ⟨i, hi, rfl⟩
    obtain ⟨hi, hm⟩ := List.mem_filter.1 hi
    have hi := List.mem_range.1 hi
    have hp : W.getD i [] = W[i] := by rw [List.getD_eq_getElem?_getD, List.getElem?_eq_getElem hi]; rfl
    refine ⟨by rw [hp]; exact List.getElem_mem _, fun q hq hne => ?_⟩
    obtain ⟨k, hk, rfl⟩ := List.getElem_of_mem hq
    have := List.all_eq_true.1 hm k (List.mem_range.2 hk)
    have hkp : W.getD k [] = W[k] := by rw [List.getD_eq_getElem?_getD, List.getElem?_eq_getElem hk]; rfl
    rw [hkp] at this
    rw [Bool.or_eq_true, beq_iff_eq, Bool.not_eq_true'] at this
    rcases this with rfl | h
    · exact absurd hp.symm hne
    · exact h
  · rintro ⟨hp, hno⟩
    obtain ⟨i, hi, rfl⟩ := List.getElem_of_mem hp
    have hpi : W.getD i [] = W[i] := by rw [List.getD_eq_getElem?_getD, List.getElem?_eq_getElem hi]; rfl
    refine ⟨i, List.mem_filter.2 ⟨List.mem_range.2 hi, List.all_eq_true.2 fun k hk => ?_⟩, hpi⟩
    have hk := List.mem_range.1 hk
    have hpk : W.getD k [] = W[k] := by rw [List.getD_eq_getElem?_getD, List.getElem?_eq_getElem hk]; rfl
    rw [Bool.or_eq_true, beq_iff_eq, Bool.not_eq_true']
    by_cases e : k = i
    · exact .inl e
    · refine .inr ?_
      rw [hpk, hpi]
      exact hno _ (List.getElem_mem _) fun he => e (nd_inj hW _ _ he)
theorem minL_sub (n : Nat) (W : List (List Int)) : (minL n W).Sublist W := by
  unfold minL
  conv => rhs; rw [← range_getD (V := W)]
  exact (List.filter_sublist).map _
theorem len_same {α : Type} [DecidableEq α] {l m : List α} (hl : l.Nodup) (hm : m.Nodup) (h : ∀ x, x ∈ l ↔ x ∈ m) : l.length = m.length := by
  have := (List.perm_ext_iff_of_nodup hl hm).2 h
  exact this.length_eq
section
variable {n : Nat} {V : List (List Int)} (C : CLat n V)
include C
theorem cl_nodup : V.Nodup := by
  rw [List.nodup_iff_pairwise_ne, List.pairwise_iff_getElem]
  intro i j hi hj hij e
  have := C.inj i j hi hj (by simp [List.getD_eq_getElem?_getD, hi, hj, e])
  omega
theorem cl_covers {i : Nat} (hi : i < V.length) : (covP6 n V (V.getD i [])).length = (upsL (clP n V) (i : Int) (clP n V).length).length := by
  have hnd := cl_nodup C
  have hA : (abvP n V (V.getD i [])).Nodup := hnd.sublist List.filter_sublist
  have hmem : ∀ p, p ∈ abvP n V (V.getD i []) ↔ ∃ j, j < V.length ∧ V.getD j [] = p ∧ i ≠ j ∧ Fi n (V.getD i []) (V.getD j []) := fun p => by
    unfold abvP
    rw [List.mem_filter, Bool.and_eq_true, Bool.not_eq_true', decide_eq_false_iff_not]
    constructor
    · rintro ⟨hp, h1, h2⟩
      obtain ⟨j, hj, rfl⟩ := cl_at hp
      exact ⟨j, hj, rfl, fun e => h2 (by rw [e]), (fiB_iff (C.pt i hi) (C.pt j hj)).1 h1⟩
    · rintro ⟨j, hj, rfl, h1, h2⟩
      refine ⟨?_, (fiB_iff (C.pt i hi) (C.pt j hj)).2 h2, fun e => h1 (C.inj i j hi hj e)⟩
      rw [List.getD_eq_getElem?_getD, List.getElem?_eq_getElem hj]; exact List.getElem_mem _
  have hB : ((upsL (clP n V) (i : Int) (clP n V).length).map fun y => V.getD y.toNat []).Nodup := by
    have h0 : (upsL (clP n V) (i : Int) (clP n V).length).Nodup := by
      unfold upsL upTo
      exact nd_map (List.nodup_range.sublist List.filter_sublist) (fun a _ b _ e => Int.ofNat.inj e)
    refine nd_map h0 fun a ha b hb e => ?_
    obtain ⟨a0, a1, -⟩ := upTo_mem.1 ha
    obtain ⟨b0, b1, -⟩ := upTo_mem.1 hb
    rw [clP_len] at a1 b1
    have := C.inj a.toNat b.toNat (by omega) (by omega) e
    omega
  rw [show (upsL (clP n V) (i : Int) (clP n V).length).length = ((upsL (clP n V) (i : Int) (clP n V).length).map fun y => V.getD y.toNat []).length from (List.length_map _).symm]
  refine len_same (hA.sublist (minL_sub _ _)) hB fun p => ?_
  unfold covP6
  rw [minL_mem hA, List.mem_map, hmem]
  constructor
  · rintro ⟨⟨j, hj, rfl, h1, h2⟩, hno⟩
    refine ⟨(j : Int), upTo_mem.2 ⟨by omega, by rw [clP_len]; omega, ?_⟩, by rw [Int.toNat_natCast]⟩
    rw [Int.toNat_natCast]
    refine (cl_cov C hi hj).2 ⟨⟨h1, h2⟩, fun z hz z1 z2 z3 z4 => ?_⟩
    have := hno _ ((hmem _).2 ⟨z, hz, rfl, z1, z2⟩) fun e => z3 (C.inj z j hz hj e)
    rw [(fiB_iff (C.pt z hz) (C.pt j hj)).2 z4] at this
    cases this
  · rintro ⟨y, hy, rfl⟩
    obtain ⟨y0, y1, y2⟩ := upTo_mem.1 hy
    rw [clP_len] at y1
    have hyl : y.toNat < V.length := by omega
    obtain ⟨⟨c1, c2⟩, c3⟩ := (cl_cov C hi hyl).1 y2
    refine ⟨⟨y.toNat, hyl, rfl, c1, c2⟩, fun q hq hne => ?_⟩
    obtain ⟨z, hz, rfl, z1, z2⟩ := (hmem q).1 hq
    cases hf : fiB n (V.getD z []) (V.getD y.toNat []) with
    | false => rfl
    | true => exact (c3 z hz z1 z2 (fun e => hne (by rw [e])) ((fiB_iff (C.pt z hz) (C.pt _ hyl)).1 hf)).elim
theorem cl_atoms : (minL n (V.drop 1)).length = (upsL (clP n V) 0 (clP n V).length).length := by
  have h0 := C.pos
  have h := cl_covers C h0
  rw [show ((0 : Nat) : Int) = 0 from rfl] at h
  rw [← h]
  unfold covP6
  congr 2
  unfold abvP
  obtain ⟨a, W, e⟩ : ∃ a W, V = a :: W := by
    cases hV : V with
    | nil => rw [hV] at h0; simp at h0
    | cons a W => exact ⟨a, W, rfl⟩
  have hnd := cl_nodup C
  have hV0 : V.getD 0 [] = a := by rw [e]; rfl
  have key : ∀ q ∈ W, (fiB n a q && !decide (a = q)) = true := fun q hq => by
    have hq' : q ∈ V := by rw [e]; exact List.mem_cons_of_mem _ hq
    obtain ⟨j, hj, rfl⟩ := cl_at hq'
    have h1 := (fiB_iff (C.pt 0 h0) (C.pt j hj)).2 (C.bot j hj)
    rw [hV0] at h1
    rw [h1, Bool.true_and, Bool.not_eq_true', decide_eq_false_iff_not]
    intro ea
    rw [e, List.nodup_cons] at hnd
    rw [← ea] at hq
    exact hnd.1 hq
  have ha : (fiB n a a && !decide (a = a)) = false := by simp
  rw [hV0]
  conv => rhs; rw [e]
  rw [e, List.filter_cons, if_neg (by rw [ha]; exact Bool.false_ne_true), List.filter_eq_self.2 key]
  rfl
end
theorem allL_clat {n : Nat} {ops : List OpD} (hn : 0 < n) (ho : opsIn n ops) : CLat n (allL n ops) := by
  have hnd := ascC_nodup (allL_all n ops).1
  have hat : ∀ i, i < (allL n ops).length → (allL n ops).getD i [] ∈ allL n ops := fun i hi => by
    rw [List.getD_eq_getElem?_getD, List.getElem?_eq_getElem hi]; exact List.getElem_mem _
  have hin := fun i hi => allL_mem.1 (hat i hi)
  have hplace : ∀ q, q ∈ allL n ops → ∃ k, k < (allL n ops).length ∧ (allL n ops).getD k [] = q := fun q hq => by
    obtain ⟨i, hi, rfl⟩ := List.getElem_of_mem hq
    exact ⟨i, hi, by rw [List.getD_eq_getElem?_getD, List.getElem?_eq_getElem hi]; rfl⟩
  have hid : idL n ∈ allL n ops := allL_mem.2 ⟨idL_pt n, idL_cong ops⟩
  have hpos := List.length_pos_of_mem hid
  refine ⟨fun i hi => (hin i hi).1, fun i j hi hj e => ?_, fun i j hi hj => hplace _ (allL_mem.2 ⟨meet_pt, meet_cong ho (hin i hi).1 (hin j hj).1 (hin i hi).2 (hin j hj).2⟩), fun i j hi hj => hplace _ (allL_mem.2 ⟨join_pt (hin i hi).1 (hin j hj).1, join_cong ho (hin i hi).1 (hin j hj).1 (hin i hi).2 (hin j hj).2⟩), hpos, ?_⟩
  · simp only [List.getD_eq_getElem?_getD, List.getElem?_eq_getElem hi, List.getElem?_eq_getElem hj, Option.getD_some] at e
    exact nd_inj hnd _ _ e
  · have h0 : (allL n ops).getD 0 [] = idL n := by
      obtain ⟨k, hk, e⟩ := hplace _ hid
      rcases Nat.eq_zero_or_pos k with rfl | hk0
      · exact e
      · have hasc := List.pairwise_iff_getElem.1 (allL_all n ops).1 0 k hpos hk hk0
        have e0 : (allL n ops)[0] = (allL n ops).getD 0 [] := by rw [List.getD_eq_getElem?_getD, List.getElem?_eq_getElem hpos]; rfl
        have ek : (allL n ops)[k] = idL n := by rw [← e, List.getD_eq_getElem?_getD, List.getElem?_eq_getElem hk]; rfl
        rw [e0, ek] at hasc
        have hp := (hin 0 hpos).1
        have hci : cnt n (idL n) = n := by
          unfold cnt
          rw [List.filter_eq_self.2 fun x hx => by rw [decide_eq_true_eq]; exact bk_idL (List.mem_range.1 hx)]; simp
        have hle := cnt_le n ((allL n ops).getD 0 [])
        unfold cmpC at hasc
        rw [hci] at hasc
        by_cases hc : n ≠ cnt n ((allL n ops).getD 0 [])
        · rw [if_pos hc] at hasc; omega
        · have hc : cnt n ((allL n ops).getD 0 []) = n := by omega
          refine pt_ext hp (idL_pt n) fun x hx => ?_
          rw [bk_idL hx]
          unfold cnt at hc
          have := List.length_filter_eq_length_iff.1 (hc.trans (by simp : n = (List.range n).length)) x (List.mem_range.2 hx)
          simpa using this
    intro i hi
    rw [h0]
    exact idL_fi _
end Go.Proofs.YtembaiccchgllaaGreat
