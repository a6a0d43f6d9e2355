/- Lemmas of the proof. No condition. -/
import Derived.Laws.Cover3
import Derived.Laws.Small
import Derived.Test.YtbohjibbgppfaaaGreatJVp
import Derived.Test.YtbohjibbgppfaaaGreatJYo
import Derived.Test.YtbohjibbgppfaaaGreatJAr
import Derived.Test.YtbohjibbgppfaaaGreatJKn
import Derived.Test.YtbohjibbgppfaaaGreatJKz
import Derived.Test.YtbohjibbgppfaaaGreatJKd
import Derived.Test.YtbohjibbgppfaaaGreatJTo
import Derived.Test.YtbohjibbgppfaaaGreatJKv
import Derived.Test.YtbohjibbgppfaaaGreatJYj
import Derived.Test.YtbohjibbgppfaaaGreatJSq
set_option linter.unusedSectionVars false
namespace Go.Proofs.YtbohjibbgppfaaaGreat
open Go Go.Pv Go.Proofs
set_option maxHeartbeats 32000000
set_option maxRecDepth 100000
theorem fc_pt {m : Nat} {ops : List OpD} : ∀ p ∈ allL m ops, Pt m p := fun p hp => (allL_mem.1 hp).1
theorem fc_most {m : Nat} {ops : List OpD} (hg : algOk m ops = true) (ho : opsIn m ops) : fcB (m : Int) ops = decide ((mostV m ops 60).length ≤ 60) := by
 have h60 := mostV_few (n := m) (most := 60) ho
 unfold fcB acV acB
 rw [hg, Int.toNat_natCast, Bool.true_and]
 by_cases h : (allL m ops).length ≤ 200
 · rw [decide_eq_true h, if_pos rfl, Bool.true_and, decide_eq_decide]
   exact h60.symm
 · rw [decide_eq_false h, if_neg Bool.false_ne_true, Bool.false_and]
   symm
   rw [decide_eq_false_iff_not, h60]; omega
theorem sfew53_c (n : Int) (ops : List OpD) (hs : szOk ops) : PCalls Tryz.prog 137 [algP n ops] (.tup [if fcB n ops then intss (acV n ops) else .any, B (fcB n ops)]) := by
 refine pcalls2 Tryz.func137 rfl Tryz.ntmps137 rfl ?_
 refine wF ?_
 have g1 := sgood_c n ops hs
 cases hg : algOk n ops with
 | false =>
  have hf : fcB n ops = false := by unfold fcB acB; rw [hg]; rfl
  rw [hf, if_neg Bool.false_ne_true]
  rw [hg] at g1
  repeat' (first
| refine wO ?_
| (refine o_go rfl ?_; (first
| refine p_p (zG rfl rfl aD (g1)) ?_
| refine p_p (ps_lits rfl ze ze aU zd zd) ?_
| refine wS ?_
| refine p_p (ps_load_agg rfl rfl aK) ?_
| refine p_p (ps_box rfl rfl) ?_); refine ⟨_, aA, ?_⟩)
| refine kr2 ?_ ?_
| exact krAny
| refine krB rfl ?_
| refine wE ?_)
  all_goals rfl
 | true =>
  obtain ⟨m, rfl, hm0, hm8, h4, ho⟩ := algOk_facts hg
  rw [hg] at g1
  have h1 := smost_cg m ops 60 hm0 hm8 (by decide) (by omega) ho
  have hml := (mostV_inv (most := 60) ho).2.2.1
  have hma := (mostV_inv (most := 60) ho).2.2.2
  have hfm := fc_most hg ho
  by_cases h6 : (mostV m ops 60).length ≤ 60
  · rw [decide_eq_true h6] at hfm
    obtain ⟨m', e, -, -, -, -, -, hV, -⟩ := fcB_facts hfm
    obtain rfl : m' = m := by omega
    rw [hfm, if_pos rfl, hV, ← hma h6]
    generalize mostV m' ops 60 = V at *
    repeat' (first
| refine wO ?_
| (refine o_go rfl ?_; (first
| refine p_p (zG rfl rfl aD (g1)) ?_
| refine p_p (zG rfl rfl aD (h1)) ?_
| refine wS ?_
| refine p_p (ps_load_agg rfl rfl aK) ?_
| refine p_p (ps_box rfl rfl) ?_); refine ⟨_, aA, ?_⟩)
| refine kr2 ?_ ?_
| refine krB rfl ?_
| refine krS rfl ?_
| refine wE ?_)
    all_goals first | rfl | (exfalso; omega) | (rw [decide_eq_true (by omega)])
  · rw [decide_eq_false h6] at hfm
    rw [hfm, if_neg Bool.false_ne_true]
    generalize mostV m ops 60 = V at *
    repeat' (first
| refine wO ?_
| (refine o_go rfl ?_; (first
| refine p_p (zG rfl rfl aD (g1)) ?_
| refine p_p (zG rfl rfl aD (h1)) ?_
| refine wS ?_
| refine p_p (ps_load_agg rfl rfl aK) ?_
| refine p_p (ps_box rfl rfl) ?_); refine ⟨_, aA, ?_⟩)
| refine kr2 ?_ ?_
| exact krAny
| refine krB rfl ?_
| refine wE ?_)
    all_goals first | rfl | (exfalso; omega) | (rw [decide_eq_false (by omega)])
end Go.Proofs.YtbohjibbgppfaaaGreat
namespace Go.Pv
open Go
attribute [local semireducible] Go.Pv.Goal Go.Pv.Ops Go.Pv.PStep Go.Pv.EStep Go.Pv.KRets Go.Pv.PCalls Go.Pv.OpsG Go.Pv.KR
section
variable {P : Program} {o : Oper} {S : St} {ev : Operand → PV} {hp : List HO}
theorem neqnil_run {t e : TypeId} {s by_ : Nat} (ht : SlT P t e s by_) {x y : Operand} (a : Option Addr) (n c : Nat) (w : World) : (do eqGuard .neq t x y (.slice a n c) (.slice none 0 0); binOp .neq t (.slice a n c) (.slice none 0 0) : Sem Value).run P w = .ok (.bool (!a.isNone)) w := by
 have h := run_neq_slice_nil (P := P) (w := w) t e a n c ht.hu
 simp [go_sem, h]
theorem ps_neqnil_v {t e : TypeId} {s by_ : Nat} [ht : SlT P t e s by_] {rt : TypeId} {x y : Operand} (ho : o.op = .binOp .neq t x y rt) (h1 : ev x = nilV) (h2 : ev y = nilV) : PStep P o ev hp (B false) :=
 ps_bin ho h1 h2 fun w => neqnil_run ht none 0 0 w
theorem ps_neqnil_ne {t e : TypeId} {s by_ : Nat} [ht : SlT P t e s by_] {rt : TypeId} {x y : Operand} {s' : Nat} {nn : Option Bool} {l : List PV} (ho : o.op = .binOp .neq t x y rt) (h1 : view hp (ev x) = .sl s' nn l) (h2 : ev y = nilV) (hl : l ≠ []) : PStep P o ev hp (B true) :=
 .of_run fun w0 g ρ w av hb hx => by
  have e1 := hb.view (hx x (by simp [ho, Op.operands]))
  have e2 := val_of (hx y (by simp [ho, Op.operands])) h2
  rw [h1] at e1
  have key : ∃ a n c, av x = .slice a n c ∧ a.isNone = false := by
   rcases VR.sl_inv e1 with ⟨ea, h', hn⟩ | ⟨a, cap, ea, h', hn⟩ | ⟨b', off, cap, cc, cs, ea, -⟩
   · exact absurd h' hl
   · exact absurd h' hl
   · exact ⟨_, _, _, ea, rfl⟩
  obtain ⟨a, n, c, ea, hab⟩ := key
  refine ⟨.bool true, ?_, .of_VR (.val _)⟩
  have h := neqnil_run (P := P) ht (x := x) (y := y) a n c w
  simp only [execOp, ho, ea, e2]
  rw [Sem.run_bind, h, hab]; rfl
end
end Go.Pv
namespace Go.Proofs.YtbohjibbgppfaaaGreat
open Go Go.Pv Go.Proofs
set_option maxHeartbeats 32000000
set_option maxRecDepth 100000
theorem sfull_c (n : Nat) (hn : n ≤ 1000000) : PCalls Tryz.prog 168 [I (n : Int)] (ints (fullL n)) := by
 refine pcalls1 Tryz.func168 rfl Tryz.ntmps168 rfl ?_
 refine wF ?_
 rw [show ints (fullL n) = .sl 1 none (List.replicate n (I 0)) by unfold fullL; show PV.sl 1 none ((List.replicate n 0).map I) = _; rw [List.map_replicate]]
 repeat' (first
| refine wO ?_
| (refine o_go rfl ?_; (first
| refine p_e rfl (e_make (zp := I 0) rfl rfl rfl zz zz zz zd (by rfl) (by rfl)) ?_
| refine wS ?_); refine ⟨_, aA, ?_⟩)
| refine kr1 ?_
| refine krS rfl ?_
| refine wE ?_)
 all_goals first | rfl | (exfalso; omega)
end Go.Proofs.YtbohjibbgppfaaaGreat
namespace Go.Proofs.YtbohjibbgppfaaaGreat
open Go Go.Pv Go.Proofs
set_option maxHeartbeats 32000000
set_option maxRecDepth 100000
theorem ibcnt_c (n : Nat) (p : List Int) (hn : n ≤ 1000000) (hp : Pt n p) : PCalls Tryz.prog 95 [ints p] (I (cnt n p : Int)) := by
 refine pcalls1 Tryz.func95 rfl Tryz.ntmps95 rfl ?_
 refine wF ?_
 have hpl := hp.len
 repeat' (first
| refine wO ?_
| (refine o_go rfl ?_; (first
| refine wS ?_); refine ⟨_, aA, ?_⟩))
 refine g_loopT (α := Nat) (fun k => [(3, I (cntK p k : Int)), (8, I (k : Int))]) (fun _ => []) (fun k => k ≤ n) (fun k => n - k) 0 aH (Nat.zero_le _) ⟨rfl, rfl, trivial⟩ rfl ?_
 rintro k hk
 refine wH ?_
 have hck := cntK_le p k
 by_cases hkn : k < n
 · have ix := row_atY (p := p) (x := k) (by omega)
   rw [hp.val hkn] at ix
   have hs := cntK_succ p k
   by_cases hb : bk p k = k
   · rw [if_pos hb] at hs
     repeat' (first
| refine wO ?_
| (refine o_go rfl ?_; (first
| refine p_p (zN rfl rfl rfl zz ix ze) ?_
| refine wS ?_); refine ⟨_, aA, ?_⟩)
| (refine zK rfl ?_ ?_ <;> intro hc <;> try omega)
| refine wE ?_)
     all_goals try (exfalso; omega)
     exact zT (k + 1) (by omega) (by omega) aI ⟨by rw [hs]; exact vI (by omega), rfl, trivial⟩ (zM _)
   · rw [if_neg hb] at hs
     repeat' (first
| refine wO ?_
| (refine o_go rfl ?_; (first
| refine p_p (zN rfl rfl rfl zz ix ze) ?_
| refine wS ?_); refine ⟨_, aA, ?_⟩)
| (refine zK rfl ?_ ?_ <;> intro hc <;> try omega)
| refine wE ?_)
     all_goals try (exfalso; omega)
     exact zT (k + 1) (by omega) (by omega) aI ⟨by rw [hs]; rfl, rfl, trivial⟩ (zM _)
 · rw [show cnt n p = cntK p k by rw [show k = n by omega]; rfl]
   repeat' (first
| refine wO ?_
| (refine o_go rfl ?_; (first
| refine wS ?_); refine ⟨_, aA, ?_⟩)
| (refine zK rfl ?_ ?_ <;> intro hc <;> try omega)
| refine kr1 ?_
| refine krI rfl ?_
| refine wE ?_)
   all_goals first | rfl | (exfalso; omega)
end Go.Proofs.YtbohjibbgppfaaaGreat
namespace Go.Proofs.YtbohjibbgppfaaaGreat
open Go Go.Pv Go.Proofs
set_option maxHeartbeats 32000000
set_option maxRecDepth 100000
attribute [local bitvec_to_nat] posI optP lendM1 lendMA lendMP killM1 killMA killMP hasI getO backM1 backMA backMP putL inpM pinM1 pinMA pinMP killK1 killKA killKP
theorem rep_fill {n j : Nat} (h : j < n) : ((List.replicate j (-1 : Int) ++ List.replicate (n - j) 0).map I).set j (I (-1)) = (List.replicate (j + 1) (-1 : Int) ++ List.replicate (n - (j + 1)) 0).map I := by
 rw [← List.map_set]
 congr 1
 refine List.ext_getElem (by simp; omega) fun i h1 h2 => ?_
 rw [List.getElem_set]
 by_cases e : j = i
 · subst e
   rw [if_pos rfl, List.getElem_append_left (by simp)]
   simp
 · rw [if_neg e]
   rcases Nat.lt_or_ge i j with h3 | h3
   · rw [List.getElem_append_left (by simpa using h3), List.getElem_append_left (by simp; omega)]
     simp
   · rw [List.getElem_append_right (by simpa using h3), List.getElem_append_right (by simp; omega)]
     simp
theorem iext_M (n m b : Nat) (A Z : List OpD) (hn0 : 0 < n) (hn : n ≤ 8) (hm0 : 0 < m) (hm : m ≤ 8) (hl : A.length ≤ 1048576) (hA : opsIn n A) (hZ : opsIn m Z) (ht : sameT A Z) : ∀ (d : Nat) (f : List Int) (t : Nat) (F : Option (List Int)), ParM n m f → opn n f ≤ d → t ≤ 5000 → (∀ g, F = some g → g.length = n) →
 MCalls Tryz.prog 216 [.box (schC n A m Z t b), .pin b [fstV F], arrI f] [.hat 0 0, .hp 2] [.box (schC n A m Z (srch n m A Z d f t F).t b), .pin b [fstV (srch n m A Z d f t F).first], arrI f] [0] (Go.Pv.B (srch n m A Z d f t F).cont)
 | 0, f, t, F, hp, ho, ht5, hF => by
  have h0 := opn_zero ho
  have := iext_S n m b A Z hn0 hn hm0 hm hl hA hZ ht (fun _ t F => ⟨t, F, true⟩) f t F hp ht5 hF (fun _ _ _ _ _ _ h => absurd h h0) (fun h => absurd h h0)
  have e : stepR n m A Z (fun _ t F => ⟨t, F, true⟩) f t F = srch n m A Z 0 f t F := by unfold stepR; rw [if_neg h0]; rfl
  rwa [e] at this
 | d + 1, f, t, F, hp, ho, ht5, hF => by
  have H := alk_of hn0 hm0 hA hZ ht
  have e : stepR n m A Z (srch n m A Z d) f t F = srch n m A Z (d + 1) f t F := rfl
  have hd := fun (h0 : firstOpen n f < n) (x : Nat) (hx : x < m) => (show ParM n m (fitE n m A Z (f.set (firstOpen n f) (x : Int))).1 ∧ opn n (fitE n m A Z (f.set (firstOpen n f) (x : Int))).1 ≤ d from by
   have h2 := fit_par H (par_set hp (v := firstOpen n f) hx)
   have h3 := opn_set (w := (x : Int)) hp.1 h0 (firstOpen_lt h0).1 (by omega)
   exact ⟨h2.1, by omega⟩)
  rw [← e]
  exact iext_S n m b A Z hn0 hn hm0 hm hl hA hZ ht (srch n m A Z d) f t F hp ht5 hF (fun x hx t' F' ht' hF' h0 => srch_P H d _ t' F' (hd h0 x hx).1 (hd h0 x hx).2 ht' hF') (fun h0 x hx t' F' ht' hF' => iext_M n m b A Z hn0 hn hm0 hm hl hA hZ ht d _ t' F' (hd h0 x hx).1 (hd h0 x hx).2 ht' hF')
theorem ish_M (n m b : Nat) (A Z : List OpD) (hn0 : 0 < n) (hn : n ≤ 8) (hm0 : 0 < m) (hm : m ≤ 8) (hl : A.length ≤ 1048576) (hA : opsIn n A) (hZ : opsIn m Z) (ht : sameT A Z) :
 MCalls Tryz.prog 162 [.pin b [nilV]] [algP n A, algP m Z, Go.Pv.B true, cloF b] [.pin b [fstV (isoS n m A Z).first]] [] (Go.Pv.B (isoK n m A Z)) := by
 have hpo := par_open n m hm0
 have hfit := ifits_M n m 0 b A Z _ hn0 hn hm0 hm hl hA hZ ht hpo
 have hfp := fit_par (alk_of hn0 hm0 hA hZ ht) hpo
 have hext := iext_M n m b A Z hn0 hn hm0 hm hl hA hZ ht n (fitE n m A Z (List.replicate n (-1))).1 0 none hfp.1 (opn_le _ _) (by omega) (fun g hg => by cases hg)
 have hS : isoS n m A Z = if (fitE n m A Z (List.replicate n (-1))).2 then srch n m A Z n (fitE n m A Z (List.replicate n (-1))).1 0 none else ⟨0, none, true⟩ := rfl
 have hK : isoK n m A Z = decide (((isoS n m A Z).t : Int) ≤ 5000) := by unfold isoK; exact decide_eq_decide.2 (by omega)
 rw [hK, hS]
 clear hK hS
 have hgl := hfp.1.1
 generalize fitE n m A Z (List.replicate n (-1)) = fe at *
 obtain ⟨g, ok⟩ := fe
 dsimp only at hfit hext hgl
 refine pcallsM1 Tryz.func162 rfl Tryz.ntmps162 rfl rfl fun bd => ?_
 simp only [List.length_cons, List.length_nil, Nat.reduceAdd, Nat.reduceSub, List.replicate_succ, List.replicate_zero, List.map_cons, List.map_nil, List.cons_append, List.nil_append]; dsimp only [pinMP, pinMA, pinM1, hasI, List.map_cons, List.map_nil, Nat.reduceBEq, n_cond_t, n_cond_f]
 repeat' ((fail_if_success (refine at_reg1 1 ?_)); (first
| refine wO ?_
| (refine o_go rfl ?_; (first
| refine wS ?_
| refine p_p (ps_box rfl rfl) ?_); refine ⟨_, aA, ?_⟩)
| refine o_nil ?_))
 repeat' (first
| refine wO ?_
| (refine o_go rfl ?_; (first
| refine p_e rfl (e_box rfl rfl) ?_
| refine wS ?_
| refine p_p (ps_load_agg rfl rfl aK) ?_
| refine p_p (ps_len_mut rfl rfl rfl rfl) ?_
| refine p_e rfl (e_make1 rfl rfl rfl zz zz zz rfl rfl) ?_
| refine p_p (ps_build rfl rfl) ?_); refine ⟨_, aA, ?_⟩))
 refine g_loopT (α := Nat) (fun j => [(23, I (j : Int))]) (fun j => [.pin b [nilV], .box (schC n A m Z 0 b), .arr true 1 3 ((List.replicate j (-1 : Int) ++ List.replicate (n - j) 0).map I)]) (fun j => j ≤ n) (fun j => n - j) 0 aH (Nat.zero_le _) ⟨rfl, trivial⟩ (by simp) ?_
 rintro j hj
 refine wH ?_
 have hml : ((List.replicate j (-1 : Int) ++ List.replicate (n - j) 0).map I).length = n := by simp; omega
 have hrl : (List.replicate n (PV.val (Value.int .i64 0))).length = n := List.length_replicate
 by_cases hjn : j < n
 · have hst := rep_fill hjn
   repeat' (first
| refine wO ?_
| (refine o_go rfl ?_; (first
| refine wS ?_
| refine p_e rfl (e_store_arr rfl rfl rfl rfl aT rfl rfl) ?_); refine ⟨_, aA, ?_⟩)
| (refine zK rfl ?_ ?_ <;> intro hc <;> try omega)
| refine wE ?_)
   all_goals try (exfalso; omega)
   exact zT (j + 1) (by omega) (by omega) aI ⟨rfl, trivial⟩ (zB rfl (zB rfl (zB (by first | rw [Nat.mul_one, hst] | rw [n_toNat, Nat.mul_one, hst] | rw [hst]) (zM _))))
 · obtain rfl : j = n := by omega
   rw [show List.replicate j (-1 : Int) ++ List.replicate (j - j) 0 = List.replicate j (-1) by simp]
   cases ok with
   | false =>
    rw [if_neg Bool.false_ne_true]
    repeat' (first
| refine wO ?_
| (refine o_go rfl ?_; (first
| refine p_e zk (e_callMF (ids := [1, 2]) [1] rfl rfl rfl rfl (by rfl) aJ rfl hfit (keep1 rfl rfl rfl (by rw [List.length_map, List.length_map, hgl, List.length_replicate]))) ?_
| refine p_p (ps_unv (ps_nilCheck_hat rfl rfl)) ?_
| refine wS ?_); refine ⟨_, aA, ?_⟩)
| (refine zK rfl ?_ ?_ <;> intro hc <;> try omega)
| refine wE ?_)
    all_goals try (exfalso; omega)
    exact krm (zB rfl (zM _)) trivial (leS_refl _)
   | true =>
    rw [if_pos rfl]
    generalize srch j m A Z j g 0 none = s2 at *
    repeat' (first
| refine wO ?_
| (refine o_go rfl ?_; (first
| refine p_e zk (e_callMF (ids := [1, 2]) [1] rfl rfl rfl rfl (by rfl) aJ rfl hfit (keep1 rfl rfl rfl (by rw [List.length_map, List.length_map, hgl, List.length_replicate]))) ?_
| refine p_e zk (e_callM (ids := [1, 0, 2]) rfl rfl rfl rfl (by rfl) aJ rfl (hext)) ?_
| refine p_p (ps_unv (ps_nilCheck_hat rfl rfl)) ?_
| refine wS ?_); refine ⟨_, aA, ?_⟩)
| (refine zK rfl ?_ ?_ <;> intro hc <;> try omega)
| refine wE ?_)
    all_goals try (exfalso; omega)
    exact krm (zB rfl (zM _)) trivial (leS_refl _)
theorem ifh_c (n m : Nat) (A Z : List OpD) (hn0 : 0 < n) (hn : n ≤ 8) (hm0 : 0 < m) (hm : m ≤ 8) (hl : A.length ≤ 1048576) (hA : opsIn n A) (hZ : opsIn m Z) (ht : sameT A Z) :
 PCalls Tryz.prog 83 [algP n A, algP m Z, Go.Pv.B true, .fn 84 [] []] (.tup [fstV (isoS n m A Z).first, Go.Pv.B (isoK n m A Z)]) := by
 refine pcalls2 Tryz.func83 rfl Tryz.ntmps83 rfl ?_
 refine wF ?_
 have h := fun b => ish_M n m b A Z hn0 hn hm0 hm hl hA hZ ht
 generalize isoS n m A Z = s at *
 generalize isoK n m A Z = k at *
 repeat' ((fail_if_success (refine at_reg1 2 ?_)); (first
| refine wO ?_
| (refine o_go rfl ?_; (first
| refine wS ?_
| refine p_e rfl (e_alloc rfl) ?_
| refine p_p (ps_box rfl rfl) ?_); refine ⟨_, aA, ?_⟩)
| refine o_nil ?_))
 refine g_pinB 10 0 rfl rfl rfl fun b => ⟨_, by dsimp only [bitvec_to_nat, Nat.reduceAdd, Nat.reduceMul, Nat.reduceBEq, reduceCtorEq, posI, optP, lendM1, lendMA, lendMP, killM1, killMA, killMP, hasI, getO, backM1, backMA, backMP, putL, inpM, pinM1, pinMA, pinMP, killK1, killKA, killKP, List.set_cons_zero, List.set_cons_succ], ?_⟩
 have h := h b
 repeat' (first
| refine wO ?_
| (refine o_go rfl ?_; (first
| refine p_e zk (e_callM (ids := [0]) rfl rfl rfl rfl (by rfl) aJ rfl (h)) ?_
| refine p_p (ps_loadP (id := 0) rfl rfl rfl rfl) ?_
| refine wS ?_
| refine p_p (ps_load_agg rfl rfl aK) ?_
| refine p_p (ps_makeFunc rfl rfl rfl) ?_); refine ⟨_, aA, ?_⟩)
| refine kr2 ?_ ?_
| refine krB rfl ?_
| refine wE ?_)
 · exact kr_le (p := fstV s.first) (by cases s.first <;> rfl) (PV.le_refl _)
 · rfl
theorem iari_c (n m : Int) (A Z : List OpD) (hA : szOk A) (hZ : szOk Z) : PCalls Tryz.prog 19 [algP n A, algP m Z] (.tup [Go.Pv.B (alkB n A m Z && (decide (n = m) && isoR n.toNat m.toNat A Z)), Go.Pv.B (alkB n A m Z && (!decide (n = m) || isoK n.toNat m.toNat A Z))]) := by
 refine pcalls2 Tryz.func19 rfl Tryz.ntmps19 rfl ?_
 refine wF ?_
 have h1 := iaa_c n m A Z hA hZ
 cases hb : alkB n A m Z with
 | false =>
  rw [hb] at h1
  repeat' (first
| refine wO ?_
| (refine o_go rfl ?_; (first
| refine p_p (zG rfl rfl aD (h1)) ?_
| refine wS ?_
| refine p_p (ps_load_agg rfl rfl aK) ?_
| refine p_p (ps_box rfl rfl) ?_); refine ⟨_, aA, ?_⟩)
| refine kr2 ?_ ?_
| refine krB rfl ?_
| refine wE ?_)
  all_goals rfl
 | true =>
  rw [hb] at h1
  obtain ⟨a, b, rfl, rfl, a0, a8, b0, b8, a4, ao, bo, hs, -, -⟩ := alkB_facts hb
  rw [Int.toNat_natCast, Int.toNat_natCast, Bool.true_and, Bool.true_and]
  by_cases hab : a = b
  · subst hab
    rw [decide_eq_true rfl, Bool.true_and, Bool.not_true, Bool.false_or]
    have h2 := ifh_c a a A Z a0 a8 a0 a8 hA.1 ao bo hs
    have hP := (isoS_P (alk_of a0 a0 ao bo hs)).len
    unfold isoR
    generalize isoS a a A Z = s at *
    cases hk : isoK a a A Z with
    | false =>
     rw [hk] at h2
     repeat' (first
| refine wO ?_
| (refine o_go rfl ?_; (first
| refine p_p (zG rfl rfl aD (h1)) ?_
| refine p_p (zG rfl rfl aD (h2)) ?_
| refine wS ?_
| refine p_p (ps_load_agg rfl rfl aK) ?_
| refine p_p (ps_box rfl rfl) ?_); refine ⟨_, aA, ?_⟩)
| (refine o_s rfl ?_; refine ⟨_, aA, ?_⟩)
| (refine g_condN rfl ?_ ?_ <;> intro hc <;> try omega)
| refine kr2 ?_ ?_
| refine krB rfl ?_
| refine wE ?_)
     all_goals first | rfl | (exfalso; omega)
    | true =>
     rw [hk] at h2
     cases hF : s.first with
     | none =>
      rw [hF] at h2
      change PCalls _ _ _ (.tup [nilV, Go.Pv.B true]) at h2
      repeat' (first
| refine wO ?_
| (refine o_go rfl ?_; (first
| refine p_p (zG rfl rfl aD (h1)) ?_
| refine p_p (zG rfl rfl aD (h2)) ?_
| refine p_p (ps_neqnil_v rfl rfl rfl) ?_
| refine wS ?_
| refine p_p (ps_load_agg rfl rfl aK) ?_
| refine p_p (ps_box rfl rfl) ?_); refine ⟨_, aA, ?_⟩)
| (refine g_condN rfl ?_ ?_ <;> intro hc <;> try omega)
| refine kr2 ?_ ?_
| refine krB rfl ?_
| refine wE ?_)
      all_goals first | rfl | (exfalso; omega)
     | some g =>
      rw [hF] at h2
      change PCalls _ _ _ (.tup [ints g, Go.Pv.B true]) at h2
      have hgl := hP g hF
      have hne : g.map I ≠ [] := fun h => by
       have := congrArg List.length h
       rw [List.length_map, hgl] at this
       simp at this; omega
      repeat' (first
| refine wO ?_
| (refine o_go rfl ?_; (first
| refine p_p (zG rfl rfl aD (h1)) ?_
| refine p_p (zG rfl rfl aD (h2)) ?_
| refine p_p (ps_neqnil_ne rfl rfl rfl hne) ?_
| refine wS ?_
| refine p_p (ps_load_agg rfl rfl aK) ?_
| refine p_p (ps_box rfl rfl) ?_); refine ⟨_, aA, ?_⟩)
| (refine g_condN rfl ?_ ?_ <;> intro hc <;> try omega)
| refine kr2 ?_ ?_
| refine krB rfl ?_
| refine wE ?_)
      all_goals first | rfl | (exfalso; omega)
  · rw [decide_eq_false (fun h : (a : Int) = (b : Int) => hab (Int.ofNat.inj h))]
    repeat' (first
| refine wO ?_
| (refine o_go rfl ?_; (first
| refine p_p (zG rfl rfl aD (h1)) ?_
| refine wS ?_
| refine p_p (ps_load_agg rfl rfl aK) ?_
| refine p_p (ps_box rfl rfl) ?_); refine ⟨_, aA, ?_⟩)
| (refine g_condN rfl ?_ ?_ <;> intro hc <;> try omega)
| refine kr2 ?_ ?_
| refine krB rfl ?_
| refine wE ?_)
    all_goals first | rfl | (exfalso; omega)
end Go.Proofs.YtbohjibbgppfaaaGreat
namespace Go.Proofs.YtbohjibbgppfaaaGreat
open Go Go.Pv Go.Proofs
set_option maxHeartbeats 32000000
set_option maxRecDepth 100000
theorem drawAP_c {l : List Int} (h : bytesOk l) : ∃ n ops, szOk ops ∧ PCalls Tryz.prog 135 [bytesP l] (algP n ops) := by
 obtain ⟨c', n, ops, -, hs, -, -, -, hL⟩ := few16_L (cu0_ok h) (by omega)
 refine ⟨n, ops, hs, ?_⟩
 refine pcallsC Tryz.func135 rfl Tryz.ntmps135 rfl ?_
 refine wF ?_
 repeat' (first
| refine wO ?_
| (refine o_go rfl ?_; (first
| refine p_e rfl (e_box rfl rfl) ?_
| refine p_e rfl (e_callL (n := 1) rfl rfl rfl aJ rfl (by rfl) aQ (hL)) ?_
| refine wS ?_
| refine p_e rfl (zO rfl rfl rfl rfl aK rfl rfl rfl) ?_
| refine p_e rfl (e_alloc rfl) ?_
| refine p_p (ps_build rfl rfl) ?_); refine ⟨_, aA, ?_⟩)
| refine krc ?_
| refine krC rfl aK ?_
| refine wE ?_)
 rfl
theorem vbig53_c (l : List Int) (_hl : l.length ≤ 9223372036854775807) : PCalls Tryz.prog 8 [bytesP l] (B (decide (65536 < (l.length : Int)))) := by
 refine pcalls1 Tryz.func8 rfl Tryz.ntmps8 rfl ?_
 refine wF ?_
 repeat' (first
| refine wO ?_
| (refine o_go rfl ?_; (first
| refine wS ?_); refine ⟨_, aA, ?_⟩)
| refine kr1 ?_
| refine krB rfl ?_
| refine wE ?_)
 all_goals first | rfl | (exfalso; omega)
theorem vints53_c (xs ys : List Int) (hl : xs.length ≤ 9223372036854775807) (_hm : ys.length ≤ 9223372036854775807) : PCalls Tryz.prog 12 [ints xs, ints ys] (B (decide (xs = ys))) := by
 refine pcalls1 Tryz.func12 rfl Tryz.ntmps12 rfl ?_
 refine wF ?_
 repeat' (first
| refine wO ?_
| (refine o_go rfl ?_; (first
| refine wS ?_); refine ⟨_, aA, ?_⟩)
| (refine g_condN rfl ?_ ?_ <;> intro hc <;> try omega)
| refine kr1 ?_
| refine krB rfl ?_
| refine wE ?_)
 · exact Eq.symm (decide_eq_false fun e => hc (by rw [e]))
 have hlen : xs.length = ys.length := by omega
 refine g_loopT (α := Nat) (fun k => [(5, I k)]) (fun _ => []) (fun k => k ≤ xs.length ∧ xs.take k = ys.take k) (fun k => xs.length - k) 0 aH ⟨Nat.zero_le _, by simp⟩ ⟨rfl, trivial⟩ rfl ?_
 clear hc
 rintro k ⟨hk, hno⟩
 refine wH ?_
 repeat' (first
| refine wO ?_
| refine zP zk zk ?_
| (refine o_go rfl ?_; (first
| refine wS ?_
| refine p_p (zN rfl rfl rfl zz aP ze) ?_); refine ⟨_, aA, ?_⟩)
| (refine g_condN rfl ?_ ?_ <;> intro hc <;> try omega)
| (refine zK rfl ?_ ?_ <;> intro hc <;> try omega)
| refine kr1 ?_
| refine krB rfl ?_
| refine wE ?_)
 · exact Eq.symm (decide_eq_false (eq_at (k := k) 0 hc))
 · refine zT (k + 1) ⟨by omega, ?_⟩ (by omega) aI ⟨rfl, trivial⟩ (zM _)
   rw [take_snoc 0 (by omega), take_snoc 0 (by omega), hno, hc]
 · rw [(take_full hk hc).1, show k = ys.length by omega, List.take_length] at hno
   exact Eq.symm (decide_eq_true hno)
theorem vtable53_c (V : List (List Int)) (hl : V.length ≤ 1048576) (hV : ∀ r ∈ V, r.length ≤ 1048576) : PCalls Tryz.prog 65 [intss V, intss V] (B true) := by
 refine pcalls1 Tryz.func65 rfl Tryz.ntmps65 rfl ?_
 refine wF ?_
 repeat' (first
| refine wO ?_
| (refine o_go rfl ?_; (first
| refine wS ?_); refine ⟨_, aA, ?_⟩)
| (refine g_condN rfl ?_ ?_ <;> intro hc <;> try omega)
| refine wE ?_)
 all_goals try (exfalso; omega)
 refine g_loopT (α := Nat) (fun k => [(5, I (k : Int))]) (fun _ => []) (fun k => k ≤ V.length) (fun k => V.length - k) 0 aH (Nat.zero_le _) ⟨rfl, trivial⟩ rfl ?_
 rintro k hk
 refine wH ?_
 by_cases hkl : k < V.length
 · have hrow := rows_at hkl
   have hm := hV _ (rows_mem hkl)
   have h1 := vints53_c (V.getD k []) (V.getD k []) (by omega) (by omega)
   rw [decide_eq_true rfl] at h1
   repeat' (first
| refine wO ?_
| refine zP zk zk ?_
| (refine o_go rfl ?_; (first
| refine p_p (zG rfl rfl aD (h1)) ?_
| refine p_p (zN rfl rfl rfl zz hrow ze) ?_
| refine wS ?_); refine ⟨_, aA, ?_⟩)
| (refine zK rfl ?_ ?_ <;> intro hc <;> try omega)
| refine wE ?_)
   all_goals try (exfalso; omega)
   exact zT (k + 1) (by omega) (by omega) aI ⟨rfl, trivial⟩ (zM _)
 · repeat' (first
| refine wO ?_
| (refine o_go rfl ?_; (first
| refine wS ?_); refine ⟨_, aA, ?_⟩)
| (refine zK rfl ?_ ?_ <;> intro hc <;> try omega)
| refine kr1 ?_
| refine krB rfl ?_
| refine wE ?_)
   all_goals first | rfl | (exfalso; omega)
end Go.Proofs.YtbohjibbgppfaaaGreat
