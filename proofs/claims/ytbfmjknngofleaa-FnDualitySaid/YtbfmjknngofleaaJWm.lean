/- The law of dualities, walked. -/
import Derived.Test.YtbfmjknngofleaaJWl
import Derived.Test.YtbfmjknngofleaaJCe
import Derived.Test.YtbfmjknngofleaaJCq
import Derived.Test.YtbfmjknngofleaaJAt
namespace Go.Proofs.Ytbfmjknngofleaa
open Go Go.Pv Go.Proofs
attribute [local bitvec_to_nat] St.put St.setObj St.ev killP killA killP1 killH mapHO renP renA ren1 killG killGA killG1 krowP krowA krow1 lendP lendA lend1 unv pinP pin1 elemsM viewM viewN viewV n_set_z n_set_s n_map_c n_map_n getD_z getD_s n_toNat n_cond_t n_cond_f n_len_c n_len_n n_app_c n_app_n n_take_s n_take_z n_drop_s n_drop_z n_get_z n_get_s view viewA view1 elems Nat.zero_add Nat.add_zero Bool.not_true Bool.not_false Nat.one_ne_zero Nat.mul_one

set_option maxHeartbeats 8000000 in
set_option maxRecDepth 100000 in
theorem law_du (l : List Int) (hl : l.length ≤ maxLen) (hby : ∀ i, i < l.length → 0 ≤ l.getD i 0 ∧ l.getD i 0 ≤ 255) : PCalls Try.prog 3 [bytesP l] (B true) := by
  refine pcalls1 Try.func3 rfl Try.ntmps3 rfl ?_
  simp only [List.length_cons, List.length_nil, Nat.reduceAdd, Nat.reduceSub, List.replicate_succ, List.replicate_zero, List.cons_append, List.nil_append]
  have hv := vbig_c l (Nat.le_trans hl (by decide))
  by_cases hbig : 65536 < (l.length : Int)
  · rw [decide_eq_true hbig] at hv
    repeat' (first
| refine g_seq ?_
| refine g_region ?_
| (refine o_go rfl ?_; (first
| refine p_p (ps_call rfl rfl (by (repeat (first | refine ⟨PV.le_refl _, ?_⟩ | refine ⟨PV.le_nn _ _ _, ?_⟩ | refine ⟨PV.le_nil _, ?_⟩ | refine ⟨PV.le_any _, ?_⟩)); exact trivial) (hv)) ?_
| refine p_p (ps_move rfl) ?_
| refine p_p (ps_assign rfl) ?_); refine ⟨_, (by dsimp only [bitvec_to_nat, Nat.reduceAdd, Nat.reduceMul, Nat.reduceBEq, reduceCtorEq]), ?_⟩)
| refine o_nil ?_
| refine g_condT rfl ?_
| refine kr1 ?_
| refine krB rfl ?_
| refine g_ret ?_)
    all_goals rfl
  rw [decide_eq_false hbig] at hv
  have hB : bytesOk l := ⟨by omega, hby⟩
  obtain ⟨p, q, f, hp, hq, hf, d1⟩ := drawPmo_c hB
  obtain ⟨r, s, h, hr, hs, hh, d2⟩ := drawLmo_c hB
  obtain ⟨u, v, i, hu, hv', hi, d3⟩ := drawIlm_c hB
  obtain ⟨x, y, j, hx, hy, hj, d4⟩ := drawIpm_c hB
  have a1 : PCalls Try.prog 6 [posetP p, posetP q, ints f] (.tup [ints (pmoV p q f), B (pmoB p q f)]) := (ipmo_R p q f hp hq (by omega)).plain rfl rfl
  have a2 := spmo_c p q f hp hq (by omega)
  have hgl := pmoV_len (p := p) hq f
  have v1 := vints_c (pmoV p q f) (Nat.le_trans hgl (by decide))
  have v2 := vints_c f (by omega)
  repeat' ((fail_if_success (refine at_reg 8 ?_)); (first
| refine g_seq ?_
| refine g_region ?_
| (refine o_go rfl ?_; (first
| refine p_p (ps_call rfl rfl (by (repeat (first | refine ⟨PV.le_refl _, ?_⟩ | refine ⟨PV.le_nn _ _ _, ?_⟩ | refine ⟨PV.le_nil _, ?_⟩ | refine ⟨PV.le_any _, ?_⟩)); exact trivial) (hv)) ?_
| refine p_p (ps_call rfl rfl (by (repeat (first | refine ⟨PV.le_refl _, ?_⟩ | refine ⟨PV.le_nn _ _ _, ?_⟩ | refine ⟨PV.le_nil _, ?_⟩ | refine ⟨PV.le_any _, ?_⟩)); exact trivial) (d1)) ?_
| refine p_p (ps_call rfl rfl (by (repeat (first | refine ⟨PV.le_refl _, ?_⟩ | refine ⟨PV.le_nn _ _ _, ?_⟩ | refine ⟨PV.le_nil _, ?_⟩ | refine ⟨PV.le_any _, ?_⟩)); exact trivial) (a1)) ?_
| refine p_p (ps_call rfl rfl (by (repeat (first | refine ⟨PV.le_refl _, ?_⟩ | refine ⟨PV.le_nn _ _ _, ?_⟩ | refine ⟨PV.le_nil _, ?_⟩ | refine ⟨PV.le_any _, ?_⟩)); exact trivial) (a2)) ?_
| refine p_p (ps_call rfl rfl (by (repeat (first | refine ⟨PV.le_refl _, ?_⟩ | refine ⟨PV.le_nn _ _ _, ?_⟩ | refine ⟨PV.le_nil _, ?_⟩ | refine ⟨PV.le_any _, ?_⟩)); exact trivial) (v1)) ?_
| refine p_p (ps_neqBS rfl rfl rfl) ?_
| refine p_p (ps_move rfl) ?_
| refine p_p (ps_assign rfl) ?_
| refine p_p (ps_extract rfl rfl rfl) ?_
| refine p_p (ps_not rfl rfl) ?_
| refine p_p (ps_pick rfl rfl) ?_
| refine p_p (ps_load_boxA rfl rfl rfl (by exact Nat.le_of_ble_eq_true rfl)) ?_
| refine p_e rfl (e_store_boxA rfl rfl rfl rfl (by exact Nat.le_of_ble_eq_true rfl) rfl rfl rfl) ?_
| refine p_e rfl (e_alloc rfl) ?_); refine ⟨_, (by dsimp only [bitvec_to_nat, Nat.reduceAdd, Nat.reduceMul, Nat.reduceBEq, reduceCtorEq]), ?_⟩)
| refine o_nil ?_
| refine g_condF rfl ?_
| refine g_skip ?_))
  refine g_join [] [] [.box [intss p], .box [intss q]] (by simp only [havoc, dsts, List.filterMap_cons, List.filterMap_nil, List.foldl_cons, List.foldl_nil, List.cons_append, List.nil_append, List.append_nil, List.set_cons_succ, List.set_cons_zero]; exact rfl) ?_ ⟨_, rfl, ?_⟩
  · cases hb : pmoB p q f with
    | false =>
      repeat' (first
| refine g_seq ?_
| refine g_region ?_
| (refine o_go rfl ?_; (first
| refine p_p (ps_move rfl) ?_); refine ⟨_, (by dsimp only [bitvec_to_nat, Nat.reduceAdd, Nat.reduceMul, Nat.reduceBEq, reduceCtorEq]), ?_⟩)
| refine o_nil ?_
| refine g_condF rfl ?_
| refine g_skip ?_)
      exact k_join (by repeat (first | exact trivial | refine ⟨.inl rfl, ?_⟩ | refine ⟨.inr rfl, ?_⟩)) trivial (hpLe_cons rfl (hpLe_cons rfl (hpLe_nil _)))
    | true =>
      have hpv : pmoV p q f = pmoL p q f (irrL q).length := by unfold pmoV; rw [hb]; rfl
      obtain ⟨m1, m2⟩ := pmo_dual hb
      rw [← hpv] at m1 m2
      have hb' := hb
      unfold pmoB at hb'
      simp only [Bool.and_eq_true] at hb'
      have Dp := dst_of hb'.1.1
      have Dq := dst_of hb'.1.2
      have b1 := iipm_c q p (pmoV p q f) hq hp hgl
      rw [Dp.good, Dq.good, m1] at b1
      have b2 : PCalls Try.prog 10 [posetP p, posetP q, ints (pmoV p q f)] (.tup [ints (lmoV p q (pmoV p q f)), B (lmoB p q (pmoV p q f))]) := (ilmo_R p q (pmoV p q f) hp hq hgl).plain rfl rfl
      have hlb : lmoB p q (pmoV p q f) = true := by unfold lmoB; rw [hb'.1.1, hb'.1.2, m1]; rfl
      have hlv : lmoV p q (pmoV p q f) = f := by unfold lmoV; rw [hlb]; exact m2
      rw [hlb, hlv] at b2
      repeat' (first
| refine g_seq ?_
| refine g_region ?_
| (refine o_go rfl ?_; (first
| refine p_p (ps_call rfl rfl (by (repeat (first | refine ⟨PV.le_refl _, ?_⟩ | refine ⟨PV.le_nn _ _ _, ?_⟩ | refine ⟨PV.le_nil _, ?_⟩ | refine ⟨PV.le_any _, ?_⟩)); exact trivial) (b1)) ?_
| refine p_p (ps_call rfl rfl (by (repeat (first | refine ⟨PV.le_refl _, ?_⟩ | refine ⟨PV.le_nn _ _ _, ?_⟩ | refine ⟨PV.le_nil _, ?_⟩ | refine ⟨PV.le_any _, ?_⟩)); exact trivial) (b2)) ?_
| refine p_p (ps_call rfl rfl (by (repeat (first | refine ⟨PV.le_refl _, ?_⟩ | refine ⟨PV.le_nn _ _ _, ?_⟩ | refine ⟨PV.le_nil _, ?_⟩ | refine ⟨PV.le_any _, ?_⟩)); exact trivial) (v2)) ?_
| refine p_p (ps_move rfl) ?_
| refine p_p (ps_assign rfl) ?_
| refine p_p (ps_extract rfl rfl rfl) ?_
| refine p_p (ps_not rfl rfl) ?_
| refine p_p (ps_pick rfl rfl) ?_
| refine p_p (ps_load_boxA rfl rfl rfl (by exact Nat.le_of_ble_eq_true rfl)) ?_); refine ⟨_, (by dsimp only [bitvec_to_nat, Nat.reduceAdd, Nat.reduceMul, Nat.reduceBEq, reduceCtorEq]), ?_⟩)
| refine o_nil ?_
| refine g_condT rfl ?_
| refine g_condF rfl ?_
| refine g_skip ?_)
      exact k_join (by repeat (first | exact trivial | refine ⟨.inl rfl, ?_⟩ | refine ⟨.inr rfl, ?_⟩)) trivial (hpLe_cons rfl (hpLe_cons rfl (hpLe_nil _)))
  dsimp only [setMany, List.set_cons_zero, List.set_cons_succ]
  have a3 : PCalls Try.prog 10 [posetP r, posetP s, ints h] (.tup [ints (lmoV r s h), B (lmoB r s h)]) := (ilmo_R r s h hr hs (by omega)).plain rfl rfl
  have a4 := slmo_c r s h hr hs (by omega)
  have hkl := lmoV_len (q := s) hr h
  have v3 := vints_c (lmoV r s h) (Nat.le_trans hkl (by decide))
  have v4 := vints_c h (by omega)
  repeat' ((fail_if_success (refine at_reg 18 ?_)); (first
| refine g_seq ?_
| refine g_region ?_
| (refine o_go rfl ?_; (first
| refine p_p (ps_call rfl rfl (by (repeat (first | refine ⟨PV.le_refl _, ?_⟩ | refine ⟨PV.le_nn _ _ _, ?_⟩ | refine ⟨PV.le_nil _, ?_⟩ | refine ⟨PV.le_any _, ?_⟩)); exact trivial) (d2)) ?_
| refine p_p (ps_call rfl rfl (by (repeat (first | refine ⟨PV.le_refl _, ?_⟩ | refine ⟨PV.le_nn _ _ _, ?_⟩ | refine ⟨PV.le_nil _, ?_⟩ | refine ⟨PV.le_any _, ?_⟩)); exact trivial) (a3)) ?_
| refine p_p (ps_call rfl rfl (by (repeat (first | refine ⟨PV.le_refl _, ?_⟩ | refine ⟨PV.le_nn _ _ _, ?_⟩ | refine ⟨PV.le_nil _, ?_⟩ | refine ⟨PV.le_any _, ?_⟩)); exact trivial) (a4)) ?_
| refine p_p (ps_call rfl rfl (by (repeat (first | refine ⟨PV.le_refl _, ?_⟩ | refine ⟨PV.le_nn _ _ _, ?_⟩ | refine ⟨PV.le_nil _, ?_⟩ | refine ⟨PV.le_any _, ?_⟩)); exact trivial) (v3)) ?_
| refine p_p (ps_neqBS rfl rfl rfl) ?_
| refine p_p (ps_move rfl) ?_
| refine p_p (ps_assign rfl) ?_
| refine p_p (ps_extract rfl rfl rfl) ?_
| refine p_p (ps_not rfl rfl) ?_
| refine p_p (ps_pick rfl rfl) ?_
| refine p_p (ps_load_boxA rfl rfl rfl (by exact Nat.le_of_ble_eq_true rfl)) ?_
| refine p_e rfl (e_store_boxA rfl rfl rfl rfl (by exact Nat.le_of_ble_eq_true rfl) rfl rfl rfl) ?_
| refine p_e rfl (e_alloc rfl) ?_); refine ⟨_, (by dsimp only [bitvec_to_nat, Nat.reduceAdd, Nat.reduceMul, Nat.reduceBEq, reduceCtorEq]), ?_⟩)
| refine o_nil ?_
| refine g_condF rfl ?_
| refine g_skip ?_))
  refine g_join [] [] [.box [intss p], .box [intss q], .box [intss r], .box [intss s]] (by simp only [havoc, dsts, List.filterMap_cons, List.filterMap_nil, List.foldl_cons, List.foldl_nil, List.cons_append, List.nil_append, List.append_nil, List.set_cons_succ, List.set_cons_zero]; exact rfl) ?_ ⟨_, rfl, ?_⟩
  · cases hb : lmoB r s h with
    | false =>
      repeat' (first
| refine g_seq ?_
| refine g_region ?_
| (refine o_go rfl ?_; (first
| refine p_p (ps_move rfl) ?_); refine ⟨_, (by dsimp only [bitvec_to_nat, Nat.reduceAdd, Nat.reduceMul, Nat.reduceBEq, reduceCtorEq]), ?_⟩)
| refine o_nil ?_
| refine g_condF rfl ?_
| refine g_skip ?_)
      exact k_join (by repeat (first | exact trivial | refine ⟨.inl rfl, ?_⟩ | refine ⟨.inr rfl, ?_⟩)) trivial (hpLe_cons rfl (hpLe_cons rfl (hpLe_cons rfl (hpLe_cons rfl (hpLe_nil _)))))
    | true =>
      have hpv : lmoV r s h = lmoL r s h r.length := by unfold lmoV; rw [hb]; rfl
      obtain ⟨m1, m2⟩ := lmo_dual hb
      rw [← hpv] at m1 m2
      have hb' := hb
      unfold lmoB at hb'
      simp only [Bool.and_eq_true] at hb'
      have Dp := dst_of hb'.1.1
      have Dq := dst_of hb'.1.2
      have b1 := iilm_c r s (lmoV r s h) hr hs hkl
      rw [Dp.good, Dq.good, m1] at b1
      have b2 : PCalls Try.prog 6 [posetP r, posetP s, ints (lmoV r s h)] (.tup [ints (pmoV r s (lmoV r s h)), B (pmoB r s (lmoV r s h))]) := (ipmo_R r s (lmoV r s h) hr hs hkl).plain rfl rfl
      have hlb : pmoB r s (lmoV r s h) = true := by unfold pmoB; rw [hb'.1.1, hb'.1.2, m1]; rfl
      have hlv : pmoV r s (lmoV r s h) = h := by unfold pmoV; rw [hlb]; exact m2
      rw [hlb, hlv] at b2
      repeat' (first
| refine g_seq ?_
| refine g_region ?_
| (refine o_go rfl ?_; (first
| refine p_p (ps_call rfl rfl (by (repeat (first | refine ⟨PV.le_refl _, ?_⟩ | refine ⟨PV.le_nn _ _ _, ?_⟩ | refine ⟨PV.le_nil _, ?_⟩ | refine ⟨PV.le_any _, ?_⟩)); exact trivial) (b1)) ?_
| refine p_p (ps_call rfl rfl (by (repeat (first | refine ⟨PV.le_refl _, ?_⟩ | refine ⟨PV.le_nn _ _ _, ?_⟩ | refine ⟨PV.le_nil _, ?_⟩ | refine ⟨PV.le_any _, ?_⟩)); exact trivial) (b2)) ?_
| refine p_p (ps_call rfl rfl (by (repeat (first | refine ⟨PV.le_refl _, ?_⟩ | refine ⟨PV.le_nn _ _ _, ?_⟩ | refine ⟨PV.le_nil _, ?_⟩ | refine ⟨PV.le_any _, ?_⟩)); exact trivial) (v4)) ?_
| refine p_p (ps_move rfl) ?_
| refine p_p (ps_assign rfl) ?_
| refine p_p (ps_extract rfl rfl rfl) ?_
| refine p_p (ps_not rfl rfl) ?_
| refine p_p (ps_pick rfl rfl) ?_
| refine p_p (ps_load_boxA rfl rfl rfl (by exact Nat.le_of_ble_eq_true rfl)) ?_); refine ⟨_, (by dsimp only [bitvec_to_nat, Nat.reduceAdd, Nat.reduceMul, Nat.reduceBEq, reduceCtorEq]), ?_⟩)
| refine o_nil ?_
| refine g_condT rfl ?_
| refine g_condF rfl ?_
| refine g_skip ?_)
      exact k_join (by repeat (first | exact trivial | refine ⟨.inl rfl, ?_⟩ | refine ⟨.inr rfl, ?_⟩)) trivial (hpLe_cons rfl (hpLe_cons rfl (hpLe_cons rfl (hpLe_cons rfl (hpLe_nil _)))))
  dsimp only [setMany, List.set_cons_zero, List.set_cons_succ]
  have e1 := iilm_c u v i hu hv' (by omega)
  have e2 := silm_c u v i hu hv' (by omega)
  have e3 := iipm_c x y j hx hy (by omega)
  have e4 := sipm_c x y j hx hy (by omega)
  repeat' (first
| refine g_seq ?_
| refine g_region ?_
| (refine o_go rfl ?_; (first
| refine p_p (ps_call rfl rfl (by (repeat (first | refine ⟨PV.le_refl _, ?_⟩ | refine ⟨PV.le_nn _ _ _, ?_⟩ | refine ⟨PV.le_nil _, ?_⟩ | refine ⟨PV.le_any _, ?_⟩)); exact trivial) (d3)) ?_
| refine p_p (ps_call rfl rfl (by (repeat (first | refine ⟨PV.le_refl _, ?_⟩ | refine ⟨PV.le_nn _ _ _, ?_⟩ | refine ⟨PV.le_nil _, ?_⟩ | refine ⟨PV.le_any _, ?_⟩)); exact trivial) (e1)) ?_
| refine p_p (ps_call rfl rfl (by (repeat (first | refine ⟨PV.le_refl _, ?_⟩ | refine ⟨PV.le_nn _ _ _, ?_⟩ | refine ⟨PV.le_nil _, ?_⟩ | refine ⟨PV.le_any _, ?_⟩)); exact trivial) (e2)) ?_
| refine p_p (ps_call rfl rfl (by (repeat (first | refine ⟨PV.le_refl _, ?_⟩ | refine ⟨PV.le_nn _ _ _, ?_⟩ | refine ⟨PV.le_nil _, ?_⟩ | refine ⟨PV.le_any _, ?_⟩)); exact trivial) (d4)) ?_
| refine p_p (ps_call rfl rfl (by (repeat (first | refine ⟨PV.le_refl _, ?_⟩ | refine ⟨PV.le_nn _ _ _, ?_⟩ | refine ⟨PV.le_nil _, ?_⟩ | refine ⟨PV.le_any _, ?_⟩)); exact trivial) (e3)) ?_
| refine p_p (ps_call rfl rfl (by (repeat (first | refine ⟨PV.le_refl _, ?_⟩ | refine ⟨PV.le_nn _ _ _, ?_⟩ | refine ⟨PV.le_nil _, ?_⟩ | refine ⟨PV.le_any _, ?_⟩)); exact trivial) (e4)) ?_
| refine p_p (ps_neqBS rfl rfl rfl) ?_
| refine p_p (ps_eqlBS rfl rfl rfl) ?_
| refine p_p (ps_move rfl) ?_
| refine p_p (ps_assign rfl) ?_
| refine p_p (ps_extract rfl rfl rfl) ?_
| refine p_p (ps_pick rfl rfl) ?_
| refine p_p (ps_load_boxA rfl rfl rfl (by exact Nat.le_of_ble_eq_true rfl)) ?_
| refine p_e rfl (e_store_boxA rfl rfl rfl rfl (by exact Nat.le_of_ble_eq_true rfl) rfl rfl rfl) ?_
| refine p_e rfl (e_alloc rfl) ?_); refine ⟨_, (by dsimp only [bitvec_to_nat, Nat.reduceAdd, Nat.reduceMul, Nat.reduceBEq, reduceCtorEq]), ?_⟩)
| refine o_nil ?_
| refine g_condF rfl ?_
| refine kr1 ?_
| refine krB rfl ?_
| refine g_skip ?_
| refine g_ret ?_)
  all_goals rfl
end Go.Proofs.Ytbfmjknngofleaa
