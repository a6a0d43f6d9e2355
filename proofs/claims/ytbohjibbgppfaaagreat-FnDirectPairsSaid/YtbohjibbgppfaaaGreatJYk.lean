/- Lemmas of the proof. No condition. -/
import Derived.Test.YtbohjibbgppfaaaGreatJYj
import Derived.Test.YtbohjibbgppfaaaGreatJKz
import Derived.Test.YtbohjibbgppfaaaGreatJSq
import Derived.Test.YtbohjibbgppfaaaGreatJKy
set_option linter.unusedSectionVars false
namespace Go.Proofs.YtbohjibbgppfaaaGreat
open Go Go.Pv Go.Proofs
set_option maxHeartbeats 32000000
set_option maxRecDepth 100000
theorem sident_R (n : Nat) (hn : n ≤ 1048576) : RCalls Tryz.prog 118 [I (n : Int)] (.arr true 1 3 ((idL n).map I)) (.hp 0) := by
 refine pcallsR1 Tryz.func118 rfl Tryz.ntmps118 rfl ?_
 refine wF ?_
 repeat' (first
| refine wO ?_
| (refine o_go rfl ?_; (first
| refine p_e rfl (e_lit0T rfl zd) ?_
| refine wS ?_); refine ⟨_, aA, ?_⟩))
 refine g_loopF (α := Nat) [5] (fun x => [(3, .hp 0), (4, I (x : Int))]) (fun x => [.arr true 1 3 (((List.range x).map fun (y : Nat) => (y : Int)).map I)]) (fun x => x ≤ n) (fun x => n - x) 0 aH (Nat.zero_le _) ⟨rfl, rfl, trivial⟩ rfl ?_
 rintro x hx
 refine wH ?_
 have hll : (((List.range x).map fun (y : Nat) => (y : Int)).map I).length = x := by simp
 by_cases hxn : x < n
 · repeat' (first
| refine wO ?_
| (refine o_go rfl ?_; (first
| refine p_e zk (e_append rfl rfl rfl rfl rfl rfl (one_one rfl) rfl zn zn) ?_
| refine wS ?_
| refine p_p (ps_lit1 rfl rfl (by rfl) (by rfl)) ?_); refine ⟨_, aA, ?_⟩)
| (refine zK rfl ?_ ?_ <;> intro hc <;> try omega)
| refine wE ?_)
   all_goals try (exfalso; omega)
   refine zT (x + 1) (by omega) (by omega) aI ⟨rfl, rfl, trivial⟩ (zB ?_ (zM _))
   rw [range_snoc, List.map_append]; rfl
 · repeat' (first
| refine wO ?_
| (refine o_go rfl ?_; (first
| refine wS ?_); refine ⟨_, aA, ?_⟩)
| (refine zK rfl ?_ ?_ <;> intro hc <;> try omega)
| refine krr 0 rfl (HandOut.arr rfl ?_ aR)
| refine wE ?_)
   all_goals try (exfalso; omega)
   rw [show x = n by omega]; rfl
theorem sun_R (p : List Int) (x y : Nat) (hp : p.length ≤ 1048576) (hx : x < p.length) (hy : y < p.length) : RCalls Tryz.prog 236 [ints p, I (x : Int), I (y : Int)] (.arr true 1 3 ((unL p x y).map I)) (.hp 0) := by
 refine pcallsR1 Tryz.func236 rfl Tryz.ntmps236 rfl ?_
 refine wF ?_
 have h1 := slst_c (p.getD x 0) (p.getD y 0)
 have h2 := smst_c (p.getD x 0) (p.getD y 0)
 have hu : unL p x y = p.map fun z => if z = (if p.getD y 0 < p.getD x 0 then p.getD x 0 else p.getD y 0) then (if p.getD x 0 < p.getD y 0 then p.getD x 0 else p.getD y 0) else z := by
  rw [unL_eq]; congr 1; funext z
  rw [show (if p.getD x 0 < p.getD y 0 then p.getD y 0 else p.getD x 0) = (if p.getD y 0 < p.getD x 0 then p.getD x 0 else p.getD y 0) by split <;> split <;> omega]
 generalize hlo : (if p.getD x 0 < p.getD y 0 then p.getD x 0 else p.getD y 0) = lo at *
 generalize hhi : (if p.getD y 0 < p.getD x 0 then p.getD x 0 else p.getD y 0) = hi at *
 rw [hu]
 repeat' (first
| refine wO ?_
| refine zP zk zk ?_
| (refine o_go rfl ?_; (first
| refine p_p (zG rfl rfl aD (h1)) ?_
| refine p_p (zG rfl rfl aD (h2)) ?_
| refine p_e rfl (e_lit0T rfl zd) ?_
| refine wS ?_
| refine p_p (zN rfl rfl rfl zz aP ze) ?_); refine ⟨_, aA, ?_⟩))
 refine g_loopF (α := Nat) [29] (fun z => [(9, .hp 0), (10, I (z : Int))]) (fun z => [.arr true 1 3 (((p.take z).map fun z => if z = hi then lo else z).map I)]) (fun z => z ≤ p.length) (fun z => p.length - z) 0 aH (Nat.zero_le _) ⟨rfl, rfl, trivial⟩ rfl ?_
 rintro z hz
 refine wH ?_
 have hll : (((p.take z).map fun z => if z = hi then lo else z).map I).length = z := by simp; omega
 by_cases hzl : z < p.length
 · have hs : (p.take (z + 1)).map (fun z => if z = hi then lo else z) = (p.take z).map (fun z => if z = hi then lo else z) ++ [if p.getD z 0 = hi then lo else p.getD z 0] := by
    rw [take_snoc 0 hzl, List.map_append]; rfl
   by_cases he : p.getD z 0 = hi
   · rw [if_pos he] at hs
     repeat' (first
| refine wO ?_
| (refine o_go rfl ?_; (first
| refine p_e zk (e_append rfl rfl rfl rfl rfl rfl (one_one rfl) rfl zn zn) ?_
| refine wS ?_
| refine p_p (zN rfl rfl rfl zz aP ze) ?_
| refine p_p (ps_lit1 rfl rfl (by rfl) (by rfl)) ?_); refine ⟨_, aA, ?_⟩)
| (refine zK rfl ?_ ?_ <;> intro hc <;> try omega)
| refine wE ?_)
     all_goals try (exfalso; omega)
     refine zT (z + 1) (by omega) (by omega) aI ⟨rfl, rfl, trivial⟩ (zB ?_ (zM _))
     rw [hs, List.map_append]; rfl
   · rw [if_neg he] at hs
     repeat' (first
| refine wO ?_
| (refine o_go rfl ?_; (first
| refine p_e zk (e_append rfl rfl rfl rfl rfl rfl (one_one rfl) rfl zn zn) ?_
| refine wS ?_
| refine p_p (zN rfl rfl rfl zz aP ze) ?_
| refine p_p (ps_lit1 rfl rfl (by rfl) (by rfl)) ?_); refine ⟨_, aA, ?_⟩)
| (refine zK rfl ?_ ?_ <;> intro hc <;> try omega)
| refine wE ?_)
     all_goals try (exfalso; omega)
     refine zT (z + 1) (by omega) (by omega) aI ⟨rfl, rfl, trivial⟩ (zB ?_ (zM _))
     rw [hs, List.map_append]; rfl
 · repeat' (first
| refine wO ?_
| (refine o_go rfl ?_; (first
| refine wS ?_); refine ⟨_, aA, ?_⟩)
| (refine zK rfl ?_ ?_ <;> intro hc <;> try omega)
| refine krr 0 rfl (HandOut.arr rfl ?_ aR)
| refine wE ?_)
   all_goals try (exfalso; omega)
   rw [List.take_of_length_le (by omega)]
abbrev pkC (c : Cu) (n : Int) (c' : Cu) (x : Int) : Prop := LCalls Tryz.prog 186 (cuB c) [.hat 0 0, I n] (cuB c') (I x)
theorem unite_seq {c : Cu} {M : Int} (h : c.ok M) (hM : M ≤ 900000) (n k : Nat) (hn : 0 < n) (hn8 : n ≤ 1000) (hk : k ≤ 1000) : ∃ F : Nat → Cu × List Int, F 0 = (c, idL n) ∧ (∀ t, t ≤ k → (F t).1.ok (M + 4 * (t : Int)) ∧ (F t).2.length = n) ∧
 ∀ t, t < k → ∃ (c1 : Cu) (x y : Nat), x < n ∧ y < n ∧ pkC (F t).1 (n : Int) c1 (x : Int) ∧ pkC c1 (n : Int) (F (t + 1)).1 (y : Int) ∧ (F (t + 1)).2 = unL (F t).2 x y := by
 refine seq_of (fun t s => s.1.ok (M + 4 * (t : Int)) ∧ s.2.length = n) (fun t s s' => ∃ (c1 : Cu) (x y : Nat), x < n ∧ y < n ∧ pkC s.1 (n : Int) c1 (x : Int) ∧ pkC c1 (n : Int) s'.1 (y : Int) ∧ s'.2 = unL s.2 x y) (c, idL n) k ⟨by simpa using h, (idL_pt n).len⟩ fun t s ht ⟨h1, h2⟩ => ?_
 obtain ⟨c1, x, k1, x0, x1, hx⟩ := pick_L h1 (by omega) (n : Int) (by omega)
 obtain ⟨c2, y, k2, y0, y1, hy⟩ := pick_L k1 (by omega) (n : Int) (by omega)
 obtain ⟨x, rfl⟩ : ∃ a : Nat, x = a := ⟨x.toNat, by omega⟩
 obtain ⟨y, rfl⟩ : ∃ a : Nat, y = a := ⟨y.toNat, by omega⟩
 refine ⟨(c2, unL s.2 x y), ⟨?_, by unfold unL; rw [List.length_map]; exact h2⟩, c1, x, y, by omega, by omega, hx, hy, rfl⟩
 rw [show M + 4 * ((t + 1 : Nat) : Int) = M + 4 * (t : Int) + 2 + 2 by omega]
 exact k2
section
variable {c c1 c2 c3 c4 : Cu} {n : Int} {N k R : Nat} {M z : Int} {F : Nat → Cu × List Int}
theorem part6_0 {w : Int} (hN : N ≤ 9) (m1 : PCalls Tryz.prog 195 [I n, I 0] (I w)) (m2 : PCalls Tryz.prog 239 [I w, I 9] (I (N : Int))) (h0 : RCalls Tryz.prog 118 [I (N : Int)] (.arr true 1 3 ((idL N).map I)) (.hp 0)) (hk0 : pkC c 4 c1 (k : Int))
 (hk3 : k ≤ 3) (hR : R = if 1 < N then k else 0) (F0 : F 0 = (c1, idL N)) (F1 : ∀ t, t ≤ R → (F t).1.ok (M + 4 * (t : Int)) ∧ (F t).2.length = N) (F2 : ∀ t, t < R → ∃ (c1 : Cu) (x y : Nat), x < N ∧ y < N ∧ pkC (F t).1 (N : Int) c1 (x : Int) ∧ pkC c1 (N : Int) (F (t + 1)).1 (y : Int) ∧ (F (t + 1)).2 = unL (F t).2 x y)
 (hz : pkC (F R).1 24 c2 z) (e : z = 0) : LCalls Tryz.prog 205 (cuB c) [.hat 0 0, I n] (cuB c2) (ints ((F R).2 ++ [0])) := by
 have hRN : (1 < N ∧ R = k) ∨ (¬ 1 < N ∧ R = 0) := by rw [hR]; split <;> omega
 clear hR
 refine pcallsL1 Tryz.func205 rfl Tryz.ntmps205 rfl rfl rfl (by simp) fun b d => ?_
 simp only [List.length_cons, List.length_nil, Nat.reduceAdd, Nat.reduceSub, List.replicate_succ, List.replicate_zero]
 repeat' (first
| refine wO ?_
| (refine o_go rfl ?_; (first
| refine p_p (zG rfl rfl aD (m1)) ?_
| refine p_p (zG rfl rfl aD (m2)) ?_
| refine p_e rfl (e_callR rfl rfl aD rfl (h0)) ?_
| refine p_e rfl (e_callL (n := 0) rfl rfl rfl aJ rfl (by rfl) aQ (hk0)) ?_
| refine wS ?_); refine ⟨_, aA, ?_⟩))
 all_goals try (exfalso; omega)
 refine g_loopF (α := Nat) [10] (fun t => [(5, .hp 1), (6, I ((k : Int) - (t : Int)))]) (fun t => [cuB (F t).1, .arr true 1 3 ((F t).2.map I)]) (fun t => t ≤ R) (fun t => R - t) 0 aH (Nat.zero_le _) ⟨rfl, vI (by omega), trivial⟩ (by rw [F0]) ?_
 rintro t ht
 refine wH ?_
 have hlt := (F1 t ht).2
 have hml : ((F t).2.map I).length = N := by rw [List.length_map, hlt]
 by_cases htR : t < R
 · obtain ⟨ca, x, y, x1, y1, p1, p2, hF⟩ := F2 t htR
   have hu := sun_R (F t).2 x y (by omega) (by omega) (by omega)
   rw [← hF] at hu
   rw [← hml] at p1 p2
   repeat' ((fail_if_success (refine at_reg0 4 ?_)); (first
| refine wO ?_
| (refine o_go rfl ?_; (first
| refine p_e rfl (e_callL (n := 0) rfl rfl rfl aJ rfl (by rfl) aQ (p1)) ?_
| refine p_e rfl (e_callL (n := 0) rfl rfl rfl aJ rfl (by rfl) aQ (p2)) ?_
| refine p_e rfl (e_callR rfl rfl aD rfl (hu)) ?_
| refine wS ?_
| refine p_p (ps_len_mut rfl rfl rfl rfl) ?_); refine ⟨_, aA, ?_⟩)
| (refine o_splitD rfl rfl rfl ?_ ?_ <;> intro hc <;> first | omega | dsimp only [List.set_cons_zero, List.set_cons_succ])
| (refine zK rfl ?_ ?_ <;> intro hc <;> try omega)
| refine zR ?_))
   all_goals try (exfalso; omega)
   refine at_reg0 4 ?_
   refine g_move 2 1 (by decide) rfl ⟨_, (by dsimp only [mvP, mvA, mv1, mvH, bitvec_to_nat, Nat.reduceAdd, Nat.reduceMul, Nat.reduceBEq, reduceCtorEq]), ?_⟩
   repeat' (first
| refine wO ?_
| (refine o_go rfl ?_; (first
| refine wS ?_); refine ⟨_, aA, ?_⟩))
   exact zT (t + 1) (by omega) (by omega) aI ⟨rfl, vI (by omega), trivial⟩ (zB rfl (zB rfl (zM _)))
 · obtain rfl : t = R := by omega
   have hlk := hml
   repeat' (first
| refine wO ?_
| (refine o_go rfl ?_; (first
| refine p_e rfl (e_callL (n := 0) rfl rfl rfl aJ rfl (by rfl) aQ (hz)) ?_
| refine wS ?_
| refine p_p (ps_len_mut rfl rfl rfl rfl) ?_
| refine p_e rfl (e_append rfl rfl rfl rfl rfl rfl (by first | exact one_one rfl | exact one_map (fun _ => rfl) _) rfl aT aT) ?_
| refine p_p (ps_lit1 rfl rfl (by rfl) (by rfl)) ?_); refine ⟨_, aA, ?_⟩)
| (refine o_s rfl ?_; refine ⟨_, aA, ?_⟩)
| (refine o_splitD rfl rfl rfl ?_ ?_ <;> intro hc <;> first | omega | dsimp only [List.set_cons_zero, List.set_cons_succ])
| (refine zK rfl ?_ ?_ <;> intro hc <;> try omega)
| refine wE ?_)
   all_goals try (exfalso; omega)
   all_goals refine krlh 0 0 rfl rfl rfl (krS rfl ?_)
   all_goals simp
theorem part6_2 {w : Int} (hN : N ≤ 9) (m1 : PCalls Tryz.prog 195 [I n, I 0] (I w)) (m2 : PCalls Tryz.prog 239 [I w, I 9] (I (N : Int))) (h0 : RCalls Tryz.prog 118 [I (N : Int)] (.arr true 1 3 ((idL N).map I)) (.hp 0)) (hk0 : pkC c 4 c1 (k : Int))
 (hk3 : k ≤ 3) (hR : R = if 1 < N then k else 0) (F0 : F 0 = (c1, idL N)) (F1 : ∀ t, t ≤ R → (F t).1.ok (M + 4 * (t : Int)) ∧ (F t).2.length = N) (F2 : ∀ t, t < R → ∃ (c1 : Cu) (x y : Nat), x < N ∧ y < N ∧ pkC (F t).1 (N : Int) c1 (x : Int) ∧ pkC c1 (N : Int) (F (t + 1)).1 (y : Int) ∧ (F (t + 1)).2 = unL (F t).2 x y)
 (hz : pkC (F R).1 24 c2 z) (e0 : z ≠ 0) (e1 : z ≠ 1 ∨ N = 0) : LCalls Tryz.prog 205 (cuB c) [.hat 0 0, I n] (cuB c2) (ints (F R).2) := by
 have hRN : (1 < N ∧ R = k) ∨ (¬ 1 < N ∧ R = 0) := by rw [hR]; split <;> omega
 clear hR
 refine pcallsL1 Tryz.func205 rfl Tryz.ntmps205 rfl rfl rfl (by simp) fun b d => ?_
 simp only [List.length_cons, List.length_nil, Nat.reduceAdd, Nat.reduceSub, List.replicate_succ, List.replicate_zero]
 repeat' (first
| refine wO ?_
| (refine o_go rfl ?_; (first
| refine p_p (zG rfl rfl aD (m1)) ?_
| refine p_p (zG rfl rfl aD (m2)) ?_
| refine p_e rfl (e_callR rfl rfl aD rfl (h0)) ?_
| refine p_e rfl (e_callL (n := 0) rfl rfl rfl aJ rfl (by rfl) aQ (hk0)) ?_
| refine wS ?_); refine ⟨_, aA, ?_⟩))
 all_goals try (exfalso; omega)
 refine g_loopF (α := Nat) [10] (fun t => [(5, .hp 1), (6, I ((k : Int) - (t : Int)))]) (fun t => [cuB (F t).1, .arr true 1 3 ((F t).2.map I)]) (fun t => t ≤ R) (fun t => R - t) 0 aH (Nat.zero_le _) ⟨rfl, vI (by omega), trivial⟩ (by rw [F0]) ?_
 rintro t ht
 refine wH ?_
 have hlt := (F1 t ht).2
 have hml : ((F t).2.map I).length = N := by rw [List.length_map, hlt]
 by_cases htR : t < R
 · obtain ⟨ca, x, y, x1, y1, p1, p2, hF⟩ := F2 t htR
   have hu := sun_R (F t).2 x y (by omega) (by omega) (by omega)
   rw [← hF] at hu
   rw [← hml] at p1 p2
   repeat' ((fail_if_success (refine at_reg0 4 ?_)); (first
| refine wO ?_
| (refine o_go rfl ?_; (first
| refine p_e rfl (e_callL (n := 0) rfl rfl rfl aJ rfl (by rfl) aQ (p1)) ?_
| refine p_e rfl (e_callL (n := 0) rfl rfl rfl aJ rfl (by rfl) aQ (p2)) ?_
| refine p_e rfl (e_callR rfl rfl aD rfl (hu)) ?_
| refine wS ?_
| refine p_p (ps_len_mut rfl rfl rfl rfl) ?_); refine ⟨_, aA, ?_⟩)
| (refine o_splitD rfl rfl rfl ?_ ?_ <;> intro hc <;> first | omega | dsimp only [List.set_cons_zero, List.set_cons_succ])
| (refine zK rfl ?_ ?_ <;> intro hc <;> try omega)
| refine zR ?_))
   all_goals try (exfalso; omega)
   refine at_reg0 4 ?_
   refine g_move 2 1 (by decide) rfl ⟨_, (by dsimp only [mvP, mvA, mv1, mvH, bitvec_to_nat, Nat.reduceAdd, Nat.reduceMul, Nat.reduceBEq, reduceCtorEq]), ?_⟩
   repeat' (first
| refine wO ?_
| (refine o_go rfl ?_; (first
| refine wS ?_); refine ⟨_, aA, ?_⟩))
   exact zT (t + 1) (by omega) (by omega) aI ⟨rfl, vI (by omega), trivial⟩ (zB rfl (zB rfl (zM _)))
 · obtain rfl : t = R := by omega
   repeat' (first
| refine wO ?_
| (refine o_go rfl ?_; (first
| refine p_e rfl (e_callL (n := 0) rfl rfl rfl aJ rfl (by rfl) aQ (hz)) ?_
| refine wS ?_
| refine p_p (ps_len_mut rfl rfl rfl rfl) ?_); refine ⟨_, aA, ?_⟩)
| (refine o_s rfl ?_; refine ⟨_, aA, ?_⟩)
| (refine o_splitD rfl rfl rfl ?_ ?_ <;> intro hc <;> first | omega | dsimp only [List.set_cons_zero, List.set_cons_succ])
| (refine zK rfl ?_ ?_ <;> intro hc <;> try omega)
| refine wE ?_)
   all_goals first | exact krlh 0 0 rfl rfl rfl (krS rfl rfl) | (exfalso; omega)
theorem part6_1 {w x v : Int} (hN : N ≤ 9) (m1 : PCalls Tryz.prog 195 [I n, I 0] (I w)) (m2 : PCalls Tryz.prog 239 [I w, I 9] (I (N : Int))) (h0 : RCalls Tryz.prog 118 [I (N : Int)] (.arr true 1 3 ((idL N).map I)) (.hp 0)) (hk0 : pkC c 4 c1 (k : Int))
 (hk3 : k ≤ 3) (hR : R = if 1 < N then k else 0) (F0 : F 0 = (c1, idL N)) (F1 : ∀ t, t ≤ R → (F t).1.ok (M + 4 * (t : Int)) ∧ (F t).2.length = N) (F2 : ∀ t, t < R → ∃ (c1 : Cu) (x y : Nat), x < N ∧ y < N ∧ pkC (F t).1 (N : Int) c1 (x : Int) ∧ pkC c1 (N : Int) (F (t + 1)).1 (y : Int) ∧ (F (t + 1)).2 = unL (F t).2 x y)
 (hz : pkC (F R).1 24 c2 z) (e1 : z = 1) (hN0 : 0 < N) (x0 : 0 ≤ x) (x1 : x < (N : Int)) (hx : pkC c2 (N : Int) c3 x) (hv : LCalls Tryz.prog 129 (cuB c3) [.hat 0 0, ints [-1, (N : Int), (N : Int) - 1, 0]] (cuB c4) (I v)) :
 LCalls Tryz.prog 205 (cuB c) [.hat 0 0, I n] (cuB c4) (ints ((F R).2.set x.toNat v)) := by
 have hRN : (1 < N ∧ R = k) ∨ (¬ 1 < N ∧ R = 0) := by rw [hR]; split <;> omega
 clear hR
 refine pcallsL1 Tryz.func205 rfl Tryz.ntmps205 rfl rfl rfl (by simp) fun b d => ?_
 simp only [List.length_cons, List.length_nil, Nat.reduceAdd, Nat.reduceSub, List.replicate_succ, List.replicate_zero]
 repeat' (first
| refine wO ?_
| (refine o_go rfl ?_; (first
| refine p_p (zG rfl rfl aD (m1)) ?_
| refine p_p (zG rfl rfl aD (m2)) ?_
| refine p_e rfl (e_callR rfl rfl aD rfl (h0)) ?_
| refine p_e rfl (e_callL (n := 0) rfl rfl rfl aJ rfl (by rfl) aQ (hk0)) ?_
| refine wS ?_); refine ⟨_, aA, ?_⟩))
 all_goals try (exfalso; omega)
 refine g_loopF (α := Nat) [10] (fun t => [(5, .hp 1), (6, I ((k : Int) - (t : Int)))]) (fun t => [cuB (F t).1, .arr true 1 3 ((F t).2.map I)]) (fun t => t ≤ R) (fun t => R - t) 0 aH (Nat.zero_le _) ⟨rfl, vI (by omega), trivial⟩ (by rw [F0]) ?_
 rintro t ht
 refine wH ?_
 have hlt := (F1 t ht).2
 have hml : ((F t).2.map I).length = N := by rw [List.length_map, hlt]
 by_cases htR : t < R
 · obtain ⟨ca, x, y, x1, y1, p1, p2, hF⟩ := F2 t htR
   have hu := sun_R (F t).2 x y (by omega) (by omega) (by omega)
   rw [← hF] at hu
   rw [← hml] at p1 p2
   repeat' ((fail_if_success (refine at_reg0 4 ?_)); (first
| refine wO ?_
| (refine o_go rfl ?_; (first
| refine p_e rfl (e_callL (n := 0) rfl rfl rfl aJ rfl (by rfl) aQ (p1)) ?_
| refine p_e rfl (e_callL (n := 0) rfl rfl rfl aJ rfl (by rfl) aQ (p2)) ?_
| refine p_e rfl (e_callR rfl rfl aD rfl (hu)) ?_
| refine wS ?_
| refine p_p (ps_len_mut rfl rfl rfl rfl) ?_); refine ⟨_, aA, ?_⟩)
| (refine o_splitD rfl rfl rfl ?_ ?_ <;> intro hc <;> first | omega | dsimp only [List.set_cons_zero, List.set_cons_succ])
| (refine zK rfl ?_ ?_ <;> intro hc <;> try omega)
| refine zR ?_))
   all_goals try (exfalso; omega)
   refine at_reg0 4 ?_
   refine g_move 2 1 (by decide) rfl ⟨_, (by dsimp only [mvP, mvA, mv1, mvH, bitvec_to_nat, Nat.reduceAdd, Nat.reduceMul, Nat.reduceBEq, reduceCtorEq]), ?_⟩
   repeat' (first
| refine wO ?_
| (refine o_go rfl ?_; (first
| refine wS ?_); refine ⟨_, aA, ?_⟩))
   exact zT (t + 1) (by omega) (by omega) aI ⟨rfl, vI (by omega), trivial⟩ (zB rfl (zB rfl (zM _)))
 · obtain rfl : t = R := by omega
   rw [← hml] at hx hv
   repeat' (first
| refine wO ?_
| (refine o_go rfl ?_; (first
| refine p_e rfl (e_callL (n := 0) rfl rfl rfl aJ rfl (by rfl) aQ (hz)) ?_
| refine p_e rfl (e_callL (n := 0) rfl rfl rfl aJ rfl (by rfl) aQ (hx)) ?_
| refine p_p (ps_lits rfl ze ze aU zd zd) ?_
| refine p_e rfl (e_callL (n := 0) rfl rfl rfl aJ rfl (by rfl) aQ (hv)) ?_
| refine wS ?_
| refine p_p (ps_len_mut rfl rfl rfl rfl) ?_
| refine p_e rfl (e_store_arr rfl rfl rfl rfl aT rfl rfl) ?_); refine ⟨_, aA, ?_⟩)
| (refine o_s rfl ?_; refine ⟨_, aA, ?_⟩)
| (refine o_splitD rfl rfl rfl ?_ ?_ <;> intro hc <;> first | omega | dsimp only [List.set_cons_zero, List.set_cons_succ])
| (refine zK rfl ?_ ?_ <;> intro hc <;> try omega)
| refine wE ?_)
   all_goals try (exfalso; omega)
   all_goals refine krlh 0 0 rfl rfl rfl (krS rfl ?_)
   all_goals rw [Nat.mul_one, List.map_set]
end
theorem part6_L {c : Cu} {M : Int} (h : c.ok M) (hM : M ≤ 800000) (n : Int) : ∃ c' p, c'.ok (M + 40) ∧ p.length ≤ 10 ∧ LCalls Tryz.prog 205 (cuB c) [.hat 0 0, I n] (cuB c') (ints p) := by
 have m1 := smst_c n 0
 have m2 := slst_c (if 0 < n then n else 0) 9
 obtain ⟨N, hN, hNe⟩ : ∃ N : Nat, N ≤ 9 ∧ (if (if 0 < n then n else 0) < 9 then (if 0 < n then n else 0) else 9) = (N : Int) :=
  ⟨(if (if 0 < n then n else 0) < 9 then (if 0 < n then n else 0) else 9).toNat, by split <;> split <;> omega, by split <;> split <;> omega⟩
 rw [hNe] at m2
 generalize (if 0 < n then n else 0) = w at *
 have h0 := sident_R N (by omega)
 obtain ⟨c1, k, k1, k0, k4, hk0⟩ := pick_L h (by omega) 4 (by decide)
 obtain ⟨k, rfl⟩ : ∃ a : Nat, k = a := ⟨k.toNat, by omega⟩
 have hseq : ∃ (R : Nat) (F : Nat → Cu × List Int), R = (if 1 < N then k else 0) ∧ F 0 = (c1, idL N) ∧ (∀ t, t ≤ R → (F t).1.ok (M + 2 + 4 * (t : Int)) ∧ (F t).2.length = N) ∧ ∀ t, t < R → ∃ (c1 : Cu) (x y : Nat), x < N ∧ y < N ∧ pkC (F t).1 (N : Int) c1 (x : Int) ∧ pkC c1 (N : Int) (F (t + 1)).1 (y : Int) ∧ (F (t + 1)).2 = unL (F t).2 x y := by
  by_cases h1 : 1 < N
  · obtain ⟨F, F0, F1, F2⟩ := unite_seq k1 (by omega) N k (by omega) (by omega) (by omega)
    exact ⟨k, F, by rw [if_pos h1], F0, F1, F2⟩
  · refine ⟨0, fun _ => (c1, idL N), by rw [if_neg h1], rfl, fun t ht => ⟨k1.up (by omega), (idL_pt N).len⟩, fun t ht => absurd ht (Nat.not_lt_zero _)⟩
 obtain ⟨R, F, hR, F0, F1, F2⟩ := hseq
 have hR3 : R ≤ 3 := by rw [hR]; split <;> omega
 obtain ⟨q1, q2⟩ := F1 R (Nat.le_refl _)
 obtain ⟨c2, z, k2, z0, -, hz⟩ := pick_L q1 (by omega) 24 (by decide)
 by_cases e0 : z = 0
 · exact ⟨c2, _, k2.up (by omega), by simp [q2]; omega, part6_0 hN m1 m2 h0 hk0 (by omega) hR F0 F1 F2 hz e0⟩
 · by_cases e1 : z ≠ 1 ∨ N = 0
   · exact ⟨c2, _, k2.up (by omega), by omega, part6_2 hN m1 m2 h0 hk0 (by omega) hR F0 F1 F2 hz e0 e1⟩
   · obtain ⟨c3, x, k3, x0, x1, hx⟩ := pick_L k2 (by omega) (N : Int) (by omega)
     obtain ⟨c4, v, k4, -, hv⟩ := among_L k3 (by omega) [-1, (N : Int), (N : Int) - 1, 0] (by simp) (by simp)
     exact ⟨c4, _, k4.up (by omega), by rw [List.length_set]; omega, part6_1 hN m1 m2 h0 hk0 (by omega) hR F0 F1 F2 hz (by omega) (by omega) x0 (by omega) hx hv⟩
theorem mostV_pos {n : Nat} {ops : List OpD} (ho : opsIn n ops) {most : Nat} : 0 < (mostV n ops most).length := by
 rcases Nat.eq_zero_or_pos (mostV n ops most).length with h | h
 · have e := (mostV_inv ho).2.2.2 (show (mostV n ops most).length ≤ most by omega)
   have hm : idL n ∈ allL n ops := allL_mem.2 ⟨idL_pt n, idL_cong ops⟩
   rw [← e] at hm
   exact List.length_pos_of_mem hm
 · exact h
theorem cong6_L {c : Cu} {M : Int} (h : c.ok M) (hM : M ≤ 700000) (n : Int) (ops : List OpD) (hs : szOk ops) : ∃ c' p, c'.ok (M + 50) ∧ p.length ≤ 10 ∧ LCalls Tryz.prog 142 (cuB c) [.hat 0 0, algP n ops] (cuB c') (ints p) := by
 have g1 := sgood_c n ops hs
 cases hg : algOk n ops with
 | false =>
  rw [hg] at g1
  obtain ⟨c2, p, k2, hp, h2⟩ := part6_L h (by omega) n
  refine ⟨c2, p, k2.up (by omega), hp, ?_⟩
  refine pcallsL1 Tryz.func142 rfl Tryz.ntmps142 rfl rfl rfl (by simp) fun b d => ?_
  simp only [List.length_cons, List.length_nil, Nat.reduceAdd, Nat.reduceSub, List.replicate_succ, List.replicate_zero]
  repeat' (first
| refine wO ?_
| (refine o_go rfl ?_; (first
| refine p_p (zG rfl rfl aD (g1)) ?_
| refine p_e rfl (e_callL (n := 0) rfl rfl rfl aJ rfl (by rfl) aQ (h2)) ?_
| refine wS ?_
| refine p_p (ps_load_agg rfl rfl aK) ?_
| refine p_p (ps_box rfl rfl) ?_); refine ⟨_, aA, ?_⟩)
| (refine o_s rfl ?_; refine ⟨_, aA, ?_⟩)
| refine wE ?_)
  all_goals first | exact krlh 0 0 rfl rfl rfl (krS rfl rfl) | (exfalso; omega)
 | true =>
  rw [hg] at g1
  obtain ⟨m, rfl, hm0, hm8, h4, ho⟩ := algOk_facts hg
  obtain ⟨c1, b, k1, h1⟩ := one_L h (by omega) 5 (by decide)
  cases b with
  | true =>
   obtain ⟨c2, p, k2, hp, h2⟩ := part6_L k1 (by omega) m
   refine ⟨c2, p, k2.up (by omega), hp, ?_⟩
   refine pcallsL1 Tryz.func142 rfl Tryz.ntmps142 rfl rfl rfl (by simp) fun b d => ?_
   simp only [List.length_cons, List.length_nil, Nat.reduceAdd, Nat.reduceSub, List.replicate_succ, List.replicate_zero]
   repeat' (first
| refine wO ?_
| (refine o_go rfl ?_; (first
| refine p_p (zG rfl rfl aD (g1)) ?_
| refine p_e rfl (e_callL (n := 0) rfl rfl rfl aJ rfl (by rfl) aQ (h1)) ?_
| refine p_e rfl (e_callL (n := 0) rfl rfl rfl aJ rfl (by rfl) aQ (h2)) ?_
| refine wS ?_
| refine p_p (ps_load_agg rfl rfl aK) ?_
| refine p_p (ps_box rfl rfl) ?_); refine ⟨_, aA, ?_⟩)
| refine wE ?_)
   all_goals first | exact krlh 0 0 rfl rfl rfl (krS rfl rfl) | (exfalso; omega)
  | false =>
   have hV := mostV_inv (most := 200) ho
   have hp0 := mostV_pos ho (most := 200)
   have h3 := smost_cg m ops 200 hm0 hm8 (by decide) hs.1 ho
   generalize mostV m ops 200 = V at *
   have hV2 := hV.2.2.1
   obtain ⟨c2, x, k2, x0, x1, h2⟩ := pick_L k1 (by omega) (V.length : Int) (by omega)
   obtain ⟨x, rfl⟩ : ∃ a : Nat, x = a := ⟨x.toNat, by omega⟩
   have hx : x < V.length := by omega
   have hrow := rows_at hx
   have hlen := (hV.2.1 _ (rows_mem hx)).1.len
   have h5 := sown_c (V.getD x []) (by omega)
   refine ⟨c2, V.getD x [], k2.up (by omega), by omega, ?_⟩
   refine pcallsL1 Tryz.func142 rfl Tryz.ntmps142 rfl rfl rfl (by simp) fun b d => ?_
   simp only [List.length_cons, List.length_nil, Nat.reduceAdd, Nat.reduceSub, List.replicate_succ, List.replicate_zero]
   have hVl : (V.map ints).length = V.length := List.length_map ..
   repeat' (first
| refine wO ?_
| (refine o_go rfl ?_; (first
| refine p_p (zG rfl rfl aD (g1)) ?_
| refine p_e rfl (e_callL (n := 0) rfl rfl rfl aJ rfl (by rfl) aQ (h1)) ?_
| refine p_p (zG rfl rfl aD (h3)) ?_
| refine p_e rfl (e_callL (n := 0) rfl rfl rfl aJ rfl (by rfl) aQ (h2)) ?_
| refine p_p (zN rfl rfl rfl zz hrow ze) ?_
| refine p_p (zG rfl rfl aD (h5)) ?_
| refine wS ?_
| refine p_p (ps_load_agg rfl rfl aK) ?_
| refine p_p (ps_box rfl rfl) ?_); refine ⟨_, aA, ?_⟩)
| refine wE ?_)
   all_goals first | exact krlh 0 0 rfl rfl rfl (krS rfl rfl) | (exfalso; omega)
end Go.Proofs.YtbohjibbgppfaaaGreat
