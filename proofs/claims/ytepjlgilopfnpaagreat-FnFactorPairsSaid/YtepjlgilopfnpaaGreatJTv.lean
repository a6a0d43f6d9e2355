/- Walks: isomorphic algebras, the program's side. -/
import Derived.Test.YtepjlgilopfnpaaGreatJTo
import Derived.Test.YtepjlgilopfnpaaGreatJVe
namespace Go.Proofs.YtepjlgilopfnpaaGreat
open Go Go.Pv Go.Proofs
set_option maxHeartbeats 32000000
set_option maxRecDepth 100000
attribute [local bitvec_to_nat] posI optP lendM1 lendMA lendMP killM1 killMA killMP hasI getO backM1 backMA backMP putL inpM pinM1 pinMA pinMP killK1 killKA killKP

theorem rep_fill {n j : Nat} (h : j < n) : ((List.replicate j (-1 : Int) ++ List.replicate (n - j) 0).map I).set j (I (-1)) = (List.replicate (j + 1) (-1 : Int) ++ List.replicate (n - (j + 1)) 0).map I := by
 rw [← List.map_set]
 congr 1
 refine List.ext_getElem (by simp; omega) fun i h1 h2 => ?_
 rw [List.getElem_set]
 by_cases e : j = i
 · subst e
   rw [if_pos rfl, List.getElem_append_left (by simp)]
   simp
 · rw [if_neg e]
   rcases Nat.lt_or_ge i j with h3 | h3
   · rw [List.getElem_append_left (by simpa using h3), List.getElem_append_left (by simp; omega)]
     simp
   · rw [List.getElem_append_right (by simpa using h3), List.getElem_append_right (by simp; omega)]
     simp
theorem iext_M (n m b : Nat) (A Z : List OpD) (hn0 : 0 < n) (hn : n ≤ 8) (hm0 : 0 < m) (hm : m ≤ 8) (hl : A.length ≤ 1048576) (hA : opsIn n A) (hZ : opsIn m Z) (ht : sameT A Z) : ∀ (d : Nat) (f : List Int) (t : Nat) (F : Option (List Int)), ParM n m f → opn n f ≤ d → t ≤ 5000 → (∀ g, F = some g → g.length = n) →
 MCalls Tryz.prog 160 [.box (schC n A m Z t b), .pin b [fstV F], arrI f] [.hat 0 0, .hp 2] [.box (schC n A m Z (srch n m A Z d f t F).t b), .pin b [fstV (srch n m A Z d f t F).first], arrI f] [0] (Go.Pv.B (srch n m A Z d f t F).cont)
 | 0, f, t, F, hp, ho, ht5, hF => by
  have h0 := opn_zero ho
  have := iext_S n m b A Z hn0 hn hm0 hm hl hA hZ ht (fun _ t F => ⟨t, F, true⟩) f t F hp ht5 hF (fun _ _ _ _ _ _ h => absurd h h0) (fun h => absurd h h0)
  have e : stepR n m A Z (fun _ t F => ⟨t, F, true⟩) f t F = srch n m A Z 0 f t F := by unfold stepR; rw [if_neg h0]; rfl
  rwa [e] at this
 | d + 1, f, t, F, hp, ho, ht5, hF => by
  have H := alk_of hn0 hm0 hA hZ ht
  have e : stepR n m A Z (srch n m A Z d) f t F = srch n m A Z (d + 1) f t F := rfl
  have hd := fun (h0 : firstOpen n f < n) (x : Nat) (hx : x < m) => (show ParM n m (fitE n m A Z (f.set (firstOpen n f) (x : Int))).1 ∧ opn n (fitE n m A Z (f.set (firstOpen n f) (x : Int))).1 ≤ d from by
   have h2 := fit_par H (par_set hp (v := firstOpen n f) hx)
   have h3 := opn_set (w := (x : Int)) hp.1 h0 (firstOpen_lt h0).1 (by omega)
   exact ⟨h2.1, by omega⟩)
  rw [← e]
  exact iext_S n m b A Z hn0 hn hm0 hm hl hA hZ ht (srch n m A Z d) f t F hp ht5 hF (fun x hx t' F' ht' hF' h0 => srch_P H d _ t' F' (hd h0 x hx).1 (hd h0 x hx).2 ht' hF') (fun h0 x hx t' F' ht' hF' => iext_M n m b A Z hn0 hn hm0 hm hl hA hZ ht d _ t' F' (hd h0 x hx).1 (hd h0 x hx).2 ht' hF')
theorem ish_M (n m b : Nat) (A Z : List OpD) (hn0 : 0 < n) (hn : n ≤ 8) (hm0 : 0 < m) (hm : m ≤ 8) (hl : A.length ≤ 1048576) (hA : opsIn n A) (hZ : opsIn m Z) (ht : sameT A Z) :
 MCalls Tryz.prog 116 [.pin b [nilV]] [algP n A, algP m Z, Go.Pv.B true, cloF b] [.pin b [fstV (isoS n m A Z).first]] [] (Go.Pv.B (isoK n m A Z)) := by
 have hpo := par_open n m hm0
 have hfit := ifits_M n m 0 b A Z _ hn0 hn hm0 hm hl hA hZ ht hpo
 have hfp := fit_par (alk_of hn0 hm0 hA hZ ht) hpo
 have hext := iext_M n m b A Z hn0 hn hm0 hm hl hA hZ ht n (fitE n m A Z (List.replicate n (-1))).1 0 none hfp.1 (opn_le _ _) (by omega) (fun g hg => by cases hg)
 have hS : isoS n m A Z = if (fitE n m A Z (List.replicate n (-1))).2 then srch n m A Z n (fitE n m A Z (List.replicate n (-1))).1 0 none else ⟨0, none, true⟩ := rfl
 have hK : isoK n m A Z = decide (((isoS n m A Z).t : Int) ≤ 5000) := by unfold isoK; exact decide_eq_decide.2 (by omega)
 rw [hK, hS]
 clear hK hS
 have hgl := hfp.1.1
 generalize fitE n m A Z (List.replicate n (-1)) = fe at *
 obtain ⟨g, ok⟩ := fe
 dsimp only at hfit hext hgl
 refine pcallsM1 Tryz.func116 rfl Tryz.ntmps116 rfl rfl fun bd => ?_
 simp only [List.length_cons, List.length_nil, Nat.reduceAdd, Nat.reduceSub, List.replicate_succ, List.replicate_zero, List.map_cons, List.map_nil, List.cons_append, List.nil_append]; dsimp only [pinMP, pinMA, pinM1, hasI, List.map_cons, List.map_nil, Nat.reduceBEq, n_cond_t, n_cond_f]
 repeat' ((fail_if_success (refine at_reg1 1 ?_)); (first
| refine wO ?_
| (refine o_go rfl ?_; (first
| refine wS ?_
| refine p_p (ps_box rfl rfl) ?_); refine ⟨_, aB, ?_⟩)
| refine o_nil ?_))
 repeat' (first
| refine wO ?_
| (refine o_go rfl ?_; (first
| refine p_e rfl (e_box rfl rfl) ?_
| refine wS ?_
| refine p_p (ps_load_agg rfl rfl aK) ?_
| refine p_p (ps_len_mut rfl rfl rfl rfl) ?_
| refine p_e rfl (e_make1 rfl rfl rfl zz zz zz rfl rfl) ?_
| refine p_p (ps_build rfl rfl) ?_); refine ⟨_, aB, ?_⟩))
 refine g_loopT (α := Nat) (fun j => [(23, I (j : Int))]) (fun j => [.pin b [nilV], .box (schC n A m Z 0 b), .arr true 1 3 ((List.replicate j (-1 : Int) ++ List.replicate (n - j) 0).map I)]) (fun j => j ≤ n) (fun j => n - j) 0 aH (Nat.zero_le _) ⟨rfl, trivial⟩ (by simp) ?_
 rintro j hj
 refine wH ?_
 have hml : ((List.replicate j (-1 : Int) ++ List.replicate (n - j) 0).map I).length = n := by simp; omega
 have hrl : (List.replicate n (PV.val (Value.int .i64 0))).length = n := List.length_replicate
 by_cases hjn : j < n
 · have hst := rep_fill hjn
   repeat' (first
| refine wO ?_
| (refine o_go rfl ?_; (first
| refine wS ?_
| refine p_e rfl (e_store_arr rfl rfl rfl rfl aR rfl rfl) ?_); refine ⟨_, aB, ?_⟩)
| (refine zK rfl ?_ ?_ <;> intro hc <;> try omega)
| refine wE ?_)
   all_goals try (exfalso; omega)
   exact zT (j + 1) (by omega) (by omega) aI ⟨rfl, trivial⟩ (zB rfl (zB rfl (zB (by first | rw [Nat.mul_one, hst] | rw [n_toNat, Nat.mul_one, hst] | rw [hst]) (zM _))))
 · obtain rfl : j = n := by omega
   rw [show List.replicate j (-1 : Int) ++ List.replicate (j - j) 0 = List.replicate j (-1) by simp]
   cases ok with
   | false =>
    rw [if_neg Bool.false_ne_true]
    repeat' (first
| refine wO ?_
| (refine o_go rfl ?_; (first
| refine p_e zk (e_callMF (ids := [1, 2]) [1] rfl rfl rfl rfl (by rfl) aL rfl hfit (keep1 rfl rfl rfl (by rw [List.length_map, List.length_map, hgl, List.length_replicate]))) ?_
| refine p_p (ps_unv (ps_nilCheck_hat rfl rfl)) ?_
| refine wS ?_); refine ⟨_, aB, ?_⟩)
| (refine zK rfl ?_ ?_ <;> intro hc <;> try omega)
| refine wE ?_)
    all_goals try (exfalso; omega)
    exact krm (zB rfl (zM _)) trivial (leS_refl _)
   | true =>
    rw [if_pos rfl]
    generalize srch j m A Z j g 0 none = s2 at *
    repeat' (first
| refine wO ?_
| (refine o_go rfl ?_; (first
| refine p_e zk (e_callMF (ids := [1, 2]) [1] rfl rfl rfl rfl (by rfl) aL rfl hfit (keep1 rfl rfl rfl (by rw [List.length_map, List.length_map, hgl, List.length_replicate]))) ?_
| refine p_e zk (e_callM (ids := [1, 0, 2]) rfl rfl rfl rfl (by rfl) aL rfl (hext)) ?_
| refine p_p (ps_unv (ps_nilCheck_hat rfl rfl)) ?_
| refine wS ?_); refine ⟨_, aB, ?_⟩)
| (refine zK rfl ?_ ?_ <;> intro hc <;> try omega)
| refine wE ?_)
    all_goals try (exfalso; omega)
    exact krm (zB rfl (zM _)) trivial (leS_refl _)
theorem ifh_c (n m : Nat) (A Z : List OpD) (hn0 : 0 < n) (hn : n ≤ 8) (hm0 : 0 < m) (hm : m ≤ 8) (hl : A.length ≤ 1048576) (hA : opsIn n A) (hZ : opsIn m Z) (ht : sameT A Z) :
 PCalls Tryz.prog 59 [algP n A, algP m Z, Go.Pv.B true, .fn 60 [] []] (.tup [fstV (isoS n m A Z).first, Go.Pv.B (isoK n m A Z)]) := by
 refine pcalls2 Tryz.func59 rfl Tryz.ntmps59 rfl ?_
 refine wF ?_
 have h := fun b => ish_M n m b A Z hn0 hn hm0 hm hl hA hZ ht
 generalize isoS n m A Z = s at *
 generalize isoK n m A Z = k at *
 repeat' ((fail_if_success (refine at_reg1 2 ?_)); (first
| refine wO ?_
| (refine o_go rfl ?_; (first
| refine wS ?_
| refine p_e rfl (e_alloc rfl) ?_
| refine p_p (ps_box rfl rfl) ?_); refine ⟨_, aB, ?_⟩)
| refine o_nil ?_))
 refine g_pinB 10 0 rfl rfl rfl fun b => ⟨_, by dsimp only [bitvec_to_nat, Nat.reduceAdd, Nat.reduceMul, Nat.reduceBEq, reduceCtorEq, posI, optP, lendM1, lendMA, lendMP, killM1, killMA, killMP, hasI, getO, backM1, backMA, backMP, putL, inpM, pinM1, pinMA, pinMP, killK1, killKA, killKP, List.set_cons_zero, List.set_cons_succ], ?_⟩
 have h := h b
 repeat' (first
| refine wO ?_
| (refine o_go rfl ?_; (first
| refine p_e zk (e_callM (ids := [0]) rfl rfl rfl rfl (by rfl) aL rfl (h)) ?_
| refine p_p (ps_loadP (id := 0) rfl rfl rfl rfl) ?_
| refine wS ?_
| refine p_p (ps_load_agg rfl rfl aK) ?_
| refine p_p (ps_makeFunc rfl rfl rfl) ?_); refine ⟨_, aB, ?_⟩)
| refine kr2 ?_ ?_
| refine krB rfl ?_
| refine wE ?_)
 · exact kr_le (p := fstV s.first) (by cases s.first <;> rfl) (PV.le_refl _)
 · rfl
theorem iari_c (n m : Int) (A Z : List OpD) (hA : szOk A) (hZ : szOk Z) : PCalls Tryz.prog 17 [algP n A, algP m Z] (.tup [Go.Pv.B (alkB n A m Z && (decide (n = m) && isoR n.toNat m.toNat A Z)), Go.Pv.B (alkB n A m Z && (!decide (n = m) || isoK n.toNat m.toNat A Z))]) := by
 refine pcalls2 Tryz.func17 rfl Tryz.ntmps17 rfl ?_
 refine wF ?_
 have h1 := iaa_c n m A Z hA hZ
 cases hb : alkB n A m Z with
 | false =>
  rw [hb] at h1
  repeat' (first
| refine wO ?_
| (refine o_go rfl ?_; (first
| refine p_p (zG rfl rfl aD (h1)) ?_
| refine wS ?_
| refine p_p (ps_load_agg rfl rfl aK) ?_
| refine p_p (ps_box rfl rfl) ?_); refine ⟨_, aB, ?_⟩)
| refine kr2 ?_ ?_
| refine krB rfl ?_
| refine wE ?_)
  all_goals rfl
 | true =>
  rw [hb] at h1
  obtain ⟨a, b, rfl, rfl, a0, a8, b0, b8, a4, ao, bo, hs, -, -⟩ := alkB_facts hb
  rw [Int.toNat_natCast, Int.toNat_natCast, Bool.true_and, Bool.true_and]
  by_cases hab : a = b
  · subst hab
    rw [decide_eq_true rfl, Bool.true_and, Bool.not_true, Bool.false_or]
    have h2 := ifh_c a a A Z a0 a8 a0 a8 hA.1 ao bo hs
    have hP := (isoS_P (alk_of a0 a0 ao bo hs)).len
    unfold isoR
    generalize isoS a a A Z = s at *
    cases hk : isoK a a A Z with
    | false =>
     rw [hk] at h2
     repeat' (first
| refine wO ?_
| (refine o_go rfl ?_; (first
| refine p_p (zG rfl rfl aD (h1)) ?_
| refine p_p (zG rfl rfl aD (h2)) ?_
| refine wS ?_
| refine p_p (ps_load_agg rfl rfl aK) ?_
| refine p_p (ps_box rfl rfl) ?_); refine ⟨_, aB, ?_⟩)
| (refine o_s rfl ?_; refine ⟨_, aB, ?_⟩)
| (refine g_condN rfl ?_ ?_ <;> intro hc <;> try omega)
| refine kr2 ?_ ?_
| refine krB rfl ?_
| refine wE ?_)
     all_goals first | rfl | (exfalso; omega)
    | true =>
     rw [hk] at h2
     cases hF : s.first with
     | none =>
      rw [hF] at h2
      change PCalls _ _ _ (.tup [nilV, Go.Pv.B true]) at h2
      repeat' (first
| refine wO ?_
| (refine o_go rfl ?_; (first
| refine p_p (zG rfl rfl aD (h1)) ?_
| refine p_p (zG rfl rfl aD (h2)) ?_
| refine p_p (ps_neqnil_v rfl rfl rfl) ?_
| refine wS ?_
| refine p_p (ps_load_agg rfl rfl aK) ?_
| refine p_p (ps_box rfl rfl) ?_); refine ⟨_, aB, ?_⟩)
| (refine g_condN rfl ?_ ?_ <;> intro hc <;> try omega)
| refine kr2 ?_ ?_
| refine krB rfl ?_
| refine wE ?_)
      all_goals first | rfl | (exfalso; omega)
     | some g =>
      rw [hF] at h2
      change PCalls _ _ _ (.tup [ints g, Go.Pv.B true]) at h2
      have hgl := hP g hF
      have hne : g.map I ≠ [] := fun h => by
       have := congrArg List.length h
       rw [List.length_map, hgl] at this
       simp at this; omega
      repeat' (first
| refine wO ?_
| (refine o_go rfl ?_; (first
| refine p_p (zG rfl rfl aD (h1)) ?_
| refine p_p (zG rfl rfl aD (h2)) ?_
| refine p_p (ps_neqnil_ne rfl rfl rfl hne) ?_
| refine wS ?_
| refine p_p (ps_load_agg rfl rfl aK) ?_
| refine p_p (ps_box rfl rfl) ?_); refine ⟨_, aB, ?_⟩)
| (refine g_condN rfl ?_ ?_ <;> intro hc <;> try omega)
| refine kr2 ?_ ?_
| refine krB rfl ?_
| refine wE ?_)
      all_goals first | rfl | (exfalso; omega)
  · rw [decide_eq_false (fun h : (a : Int) = (b : Int) => hab (Int.ofNat.inj h))]
    repeat' (first
| refine wO ?_
| (refine o_go rfl ?_; (first
| refine p_p (zG rfl rfl aD (h1)) ?_
| refine wS ?_
| refine p_p (ps_load_agg rfl rfl aK) ?_
| refine p_p (ps_box rfl rfl) ?_); refine ⟨_, aB, ?_⟩)
| (refine g_condN rfl ?_ ?_ <;> intro hc <;> try omega)
| refine kr2 ?_ ?_
| refine krB rfl ?_
| refine wE ?_)
    all_goals first | rfl | (exfalso; omega)
end Go.Proofs.YtepjlgilopfnpaaGreat
