/- The law of DownsetLattice, walked. -/
import Derived.Test.YtgecikhfkkkghaaAq
import Derived.Test.YtgecikhfkkkghaaAs
import Derived.Test.YtgecikhfkkkghaaAz
import Derived.Test.YtgecikhfkkkghaaCh
namespace Go.Proofs.Ytgecikhfkkkghaa
open Go Go.Pv Go.Proofs

set_option maxHeartbeats 4000000 in
set_option maxRecDepth 100000 in
theorem law_dl (rows : List (List Int)) (hl_rows : rows.length ≤ maxLen) (hr_rows : ∀ r ∈ rows, r.length ≤ maxLen) : PCalls Try.prog 10 [posetP rows] (B true) := by
  refine pcalls1 Try.func10 rfl Try.ntmps10 rfl ?_
  simp only [List.length_cons, List.length_nil, Nat.reduceAdd, Nat.reduceSub, List.replicate_succ, List.replicate_zero, List.cons_append, List.nil_append]
  have hl_rows' : rows.length ≤ 9223372036854775807 := Nat.le_trans hl_rows (by decide)
  have hr_rows' : ∀ r ∈ rows, r.length ≤ 9223372036854775807 := fun r h => Nat.le_trans (hr_rows r h) (by decide)
  have hz_rows := szPoset_c rows (1048576) hl_rows' hr_rows' (by omega) (by omega)
  by_cases hs_rows : szSS rows (1048576) < 0
  · rw [if_pos hs_rows] at hz_rows
    repeat' (first
| refine g_seq ?_
| refine g_region ?_
| (refine o_go rfl ?_; (first
| refine p_p (ps_callM rfl rfl (by (repeat (first | refine ⟨PV.le_refl _, ?_⟩ | refine ⟨PV.le_nn _ _ _, ?_⟩ | refine ⟨PV.le_nil _, ?_⟩ | refine ⟨PV.le_any _, ?_⟩)); exact trivial) (by rfl) (hz_rows)) ?_
| refine p_p (ps_move rfl) ?_
| refine p_p (ps_assign rfl) ?_
| refine p_p (ps_load_agg rfl rfl (by exact Nat.le_of_ble_eq_true rfl)) ?_
| refine p_p (ps_lss rfl rfl rfl) ?_
| refine p_p (ps_box rfl rfl) ?_); refine ⟨_, (by dsimp only [St.put, St.setObj, St.ev, killP, killA, killP1, killH, mapHO, renP, renA, ren1, killG, killGA, killG1, krowP, krowA, krow1, lendP, lendA, lend1, unv, pinP, pin1, elemsM, viewM, viewN, viewV, n_set_z, n_set_s, n_map_c, n_map_n, getD_z, getD_s, n_toNat, n_cond_t, n_cond_f, n_len_c, n_len_n, n_app_c, n_app_n, n_take_s, n_take_z, n_drop_s, n_drop_z, n_get_z, n_get_s, view, viewA, view1, elems, Nat.reduceAdd, Nat.reduceMul, Nat.zero_add, Nat.add_zero, Nat.reduceBEq, Bool.not_true, Bool.not_false, Nat.one_ne_zero, Nat.mul_one, reduceCtorEq]), ?_⟩)
| refine o_nil ?_
| refine g_condT rfl ?_
| refine kr1 ?_
| refine krB rfl ?_
| refine g_ret ?_)
    all_goals rfl
  rw [if_neg hs_rows] at hz_rows
  have hok_rows := sz_okL (by omega) (by omega) hs_rows
  have ht_rows := sz_totL (by omega) (by omega) hs_rows
  have hb_rows := sz_left (by omega) (by omega) hs_rows
  have hto_rows := toPoset_c rows hok_rows.1 hok_rows.2
  have heq_rows := eqPoset_c rows rows hl_rows' hl_rows' hr_rows' hr_rows'
  rw [decide_eq_true rfl] at heq_rows
  have htR_rows := toPoset_R rows hok_rows
  have hm_rows := markPoset_L rows (1) hok_rows (by omega) (by omega)
  cases hflag : dlB rows with
  | false =>
    have hei := eqPoset_c [] [] (Nat.zero_le _) (Nat.zero_le _) (fun r h => absurd h (by simp)) (fun r h => absurd h (by simp))
    rw [decide_eq_true rfl] at hei
    have hmv := markPoset_nil 1
    have hhv := heldPoset_c 1 [] ⟨Nat.zero_le _, fun r h => absurd h (by simp)⟩ (by omega) (by decide)
    repeat' (first
| refine g_seq ?_
| refine g_region ?_
| refine g_region_draw (by kernel_rfl) (by kernel_rfl) ?_
| (refine o_go rfl ?_; (first
| refine p_p (ps_callM rfl rfl (by (repeat (first | refine ⟨PV.le_refl _, ?_⟩ | refine ⟨PV.le_nn _ _ _, ?_⟩ | refine ⟨PV.le_nil _, ?_⟩ | refine ⟨PV.le_any _, ?_⟩)); exact trivial) (by rfl) (hz_rows)) ?_
| refine p_e rfl (e_at (s := "exact.go:11144") rfl (e_callR rfl rfl (by (repeat (first | refine ⟨PV.le_refl _, ?_⟩ | refine ⟨PV.le_nn _ _ _, ?_⟩ | refine ⟨PV.le_nil _, ?_⟩ | refine ⟨PV.le_any _, ?_⟩)); exact trivial) rfl htR_rows)) ?_
| refine p_p (ps_call rfl rfl (by (repeat (first | refine ⟨PV.le_refl _, ?_⟩ | refine ⟨PV.le_nn _ _ _, ?_⟩ | refine ⟨PV.le_nil _, ?_⟩ | refine ⟨PV.le_any _, ?_⟩)); exact trivial) (hto_rows)) ?_
| refine p_p (ps_callM rfl rfl (by (repeat (first | refine ⟨le_posetG _, ?_⟩ | refine ⟨le_intssG _, ?_⟩ | refine ⟨PV.le_refl _, ?_⟩ | refine ⟨PV.le_nn _ _ _, ?_⟩ | refine ⟨PV.le_nil _, ?_⟩ | refine ⟨PV.le_any _, ?_⟩)); exact trivial) (by rfl) (heq_rows)) ?_
| refine p_e rfl (e_callL (n := 1) rfl rfl rfl (by (repeat (first | refine ⟨leS_refl _, ?_⟩ | refine ⟨leS_nn _ _ _, ?_⟩ | refine ⟨leS_nil _, ?_⟩ | refine ⟨leS_any _, ?_⟩)); exact trivial) rfl rfl (by exact ⟨rfl, rfl, by simp [length_marksS]⟩) hm_rows) ?_
| refine p_p (ps_call rfl rfl (by (repeat (first | refine ⟨PV.le_refl _, ?_⟩ | refine ⟨PV.le_nn _ _ _, ?_⟩ | refine ⟨PV.le_nil _, ?_⟩ | refine ⟨PV.le_any _, ?_⟩)); exact trivial) (sdlF_c rows hok_rows hflag)) ?_
| refine p_p (ps_callM2 rfl rfl (by (repeat (first | refine ⟨le_posetG _, ?_⟩ | refine ⟨le_intssG _, ?_⟩ | refine ⟨PV.le_refl _, ?_⟩ | refine ⟨PV.le_nn _ _ _, ?_⟩ | refine ⟨PV.le_nil _, ?_⟩ | refine ⟨PV.le_any _, ?_⟩)); exact trivial) (by rfl) (idlF_c rows hok_rows hflag)) ?_
| refine p_p (ps_callM rfl rfl (by (repeat (first | refine ⟨le_posetN, ?_⟩ | refine ⟨le_posetG _, ?_⟩ | refine ⟨le_intssG _, ?_⟩ | refine ⟨PV.le_refl _, ?_⟩ | refine ⟨PV.le_nn _ _ _, ?_⟩ | refine ⟨PV.le_nil _, ?_⟩ | refine ⟨PV.le_any _, ?_⟩)); exact trivial) (by rfl) (hei)) ?_
| refine p_p (ps_callM rfl rfl (by (repeat (first | refine ⟨le_posetN, ?_⟩ | refine ⟨le_posetG _, ?_⟩ | refine ⟨le_intssG _, ?_⟩ | refine ⟨PV.le_refl _, ?_⟩ | refine ⟨PV.le_nn _ _ _, ?_⟩ | refine ⟨PV.le_nil _, ?_⟩ | refine ⟨PV.le_any _, ?_⟩)); exact trivial) (by rfl) (hmv)) ?_
| refine p_p (ps_callM rfl rfl (by (repeat (first | refine ⟨le_posetN, ?_⟩ | refine ⟨le_posetG _, ?_⟩ | refine ⟨le_intssG _, ?_⟩ | refine ⟨PV.le_refl _, ?_⟩ | refine ⟨PV.le_nn _ _ _, ?_⟩ | refine ⟨PV.le_nil _, ?_⟩ | refine ⟨PV.le_any _, ?_⟩)); exact trivial) (by rfl) (hhv)) ?_
| refine p_p (ps_neqB rfl rfl rfl) ?_
| refine p_p (ps_move rfl) ?_
| refine p_p (ps_assign rfl) ?_
| refine p_p (ps_load_agg rfl rfl (by exact Nat.le_of_ble_eq_true rfl)) ?_
| refine p_p (ps_lss rfl rfl rfl) ?_
| refine p_p (ps_extract rfl rfl rfl) ?_
| refine p_p (ps_not rfl rfl) ?_
| refine p_p (ps_pick rfl rfl) ?_
| refine p_p (ps_neq rfl rfl rfl) ?_
| refine p_p (ps_load_boxA rfl rfl rfl (by exact Nat.le_of_ble_eq_true rfl)) ?_
| refine p_e rfl (e_store_boxA rfl rfl rfl rfl (by exact Nat.le_of_ble_eq_true rfl) rfl rfl rfl) ?_
| refine p_e rfl (e_alloc rfl) ?_
| refine p_p (ps_box rfl rfl) ?_); refine ⟨_, (by dsimp only [St.put, St.setObj, St.ev, killP, killA, killP1, killH, mapHO, renP, renA, ren1, killG, killGA, killG1, krowP, krowA, krow1, lendP, lendA, lend1, unv, pinP, pin1, elemsM, viewM, viewN, viewV, n_set_z, n_set_s, n_map_c, n_map_n, getD_z, getD_s, n_toNat, n_cond_t, n_cond_f, n_len_c, n_len_n, n_app_c, n_app_n, n_take_s, n_take_z, n_drop_s, n_drop_z, n_get_z, n_get_s, view, viewA, view1, elems, Nat.reduceAdd, Nat.reduceMul, Nat.zero_add, Nat.add_zero, Nat.reduceBEq, Bool.not_true, Bool.not_false, Nat.one_ne_zero, Nat.mul_one, reduceCtorEq]), ?_⟩)
| refine o_nil ?_
| refine g_condF rfl ?_
| (refine g_condD rfl (fun hc => ?_) (fun hc => ?_) <;> try (exfalso; omega))
| refine kr1 ?_
| refine krB rfl ?_
| refine g_skip ?_
| refine g_ret ?_)
    all_goals first | rfl | (exfalso; omega) | (exfalso; simp at *; done)
  | true =>
    have hlv : okP (dlV rows) := okP_dlV hflag
    have htv : tot (dlV rows) ≤ 1048576 := tot_dlV hflag
    have hlr : ∀ r ∈ (dlV rows), r.length ≤ 9223372036854775807 := fun r h => Nat.le_trans (hlv.2 r h) (by decide)
    have hll : (dlV rows).length ≤ 9223372036854775807 := Nat.le_trans hlv.1 (by decide)
    have hei := eqPoset_c (dlV rows) (dlV rows) hll hll hlr hlr
    rw [decide_eq_true rfl] at hei
    have hmv := markPoset_L (dlV rows) 1 hlv (by omega) (by omega)
    have hhv := heldPoset_c 1 (dlV rows) hlv (by omega) (by omega)
    repeat' (first
| refine g_seq ?_
| refine g_region ?_
| refine g_region_draw (by kernel_rfl) (by kernel_rfl) ?_
| (refine o_go rfl ?_; (first
| refine p_p (ps_callM rfl rfl (by (repeat (first | refine ⟨PV.le_refl _, ?_⟩ | refine ⟨PV.le_nn _ _ _, ?_⟩ | refine ⟨PV.le_nil _, ?_⟩ | refine ⟨PV.le_any _, ?_⟩)); exact trivial) (by rfl) (hz_rows)) ?_
| refine p_e rfl (e_at (s := "exact.go:11144") rfl (e_callR rfl rfl (by (repeat (first | refine ⟨PV.le_refl _, ?_⟩ | refine ⟨PV.le_nn _ _ _, ?_⟩ | refine ⟨PV.le_nil _, ?_⟩ | refine ⟨PV.le_any _, ?_⟩)); exact trivial) rfl htR_rows)) ?_
| refine p_p (ps_call rfl rfl (by (repeat (first | refine ⟨PV.le_refl _, ?_⟩ | refine ⟨PV.le_nn _ _ _, ?_⟩ | refine ⟨PV.le_nil _, ?_⟩ | refine ⟨PV.le_any _, ?_⟩)); exact trivial) (hto_rows)) ?_
| refine p_p (ps_callM rfl rfl (by (repeat (first | refine ⟨le_posetG _, ?_⟩ | refine ⟨le_intssG _, ?_⟩ | refine ⟨PV.le_refl _, ?_⟩ | refine ⟨PV.le_nn _ _ _, ?_⟩ | refine ⟨PV.le_nil _, ?_⟩ | refine ⟨PV.le_any _, ?_⟩)); exact trivial) (by rfl) (heq_rows)) ?_
| refine p_e rfl (e_callL (n := 1) rfl rfl rfl (by (repeat (first | refine ⟨leS_refl _, ?_⟩ | refine ⟨leS_nn _ _ _, ?_⟩ | refine ⟨leS_nil _, ?_⟩ | refine ⟨leS_any _, ?_⟩)); exact trivial) rfl rfl (by exact ⟨rfl, rfl, by simp [length_marksS]⟩) hm_rows) ?_
| refine p_p (ps_call rfl rfl (by (repeat (first | refine ⟨PV.le_refl _, ?_⟩ | refine ⟨PV.le_nn _ _ _, ?_⟩ | refine ⟨PV.le_nil _, ?_⟩ | refine ⟨PV.le_any _, ?_⟩)); exact trivial) (sdlT_c rows hok_rows hflag)) ?_
| refine p_e rfl (e_callR rfl rfl (by (repeat (first | refine ⟨le_posetG _, ?_⟩ | refine ⟨le_intssG _, ?_⟩ | refine ⟨PV.le_refl _, ?_⟩ | refine ⟨PV.le_nn _ _ _, ?_⟩ | refine ⟨PV.le_nil _, ?_⟩ | refine ⟨PV.le_any _, ?_⟩)); exact trivial) rfl (idlT_c rows hok_rows hflag)) ?_
| refine p_p (ps_callM rfl rfl (by (repeat (first | refine ⟨le_posetG _, ?_⟩ | refine ⟨le_intssG _, ?_⟩ | refine ⟨PV.le_refl _, ?_⟩ | refine ⟨PV.le_nn _ _ _, ?_⟩ | refine ⟨PV.le_nil _, ?_⟩ | refine ⟨PV.le_any _, ?_⟩)); exact trivial) (by rfl) (hei)) ?_
| refine p_e rfl (e_callL (n := 3) rfl rfl rfl (by (repeat (first | refine ⟨leS_refl _, ?_⟩ | refine ⟨leS_nn _ _ _, ?_⟩ | refine ⟨leS_nil _, ?_⟩ | refine ⟨leS_any _, ?_⟩)); exact trivial) rfl rfl (by exact ⟨rfl, rfl, by simp [length_marksS]⟩) hmv) ?_
| refine p_p (ps_callM rfl rfl (by (repeat (first | refine ⟨le_posetG _, ?_⟩ | refine ⟨le_intssG _, ?_⟩ | refine ⟨PV.le_refl _, ?_⟩ | refine ⟨PV.le_nn _ _ _, ?_⟩ | refine ⟨PV.le_nil _, ?_⟩ | refine ⟨PV.le_any _, ?_⟩)); exact trivial) (by rfl) (hhv)) ?_
| refine p_p (ps_neqB rfl rfl rfl) ?_
| refine p_p (ps_move rfl) ?_
| refine p_p (ps_assign rfl) ?_
| refine p_p (ps_load_agg rfl rfl (by exact Nat.le_of_ble_eq_true rfl)) ?_
| refine p_p (ps_lss rfl rfl rfl) ?_
| refine p_p (ps_extract rfl rfl rfl) ?_
| refine p_p (ps_not rfl rfl) ?_
| refine p_p (ps_pick rfl rfl) ?_
| refine p_p (ps_neq rfl rfl rfl) ?_
| refine p_p (ps_load_boxA rfl rfl rfl (by exact Nat.le_of_ble_eq_true rfl)) ?_
| refine p_e rfl (e_store_boxA rfl rfl rfl rfl (by exact Nat.le_of_ble_eq_true rfl) rfl rfl rfl) ?_
| refine p_e rfl (e_alloc rfl) ?_
| refine p_p (ps_box rfl rfl) ?_); refine ⟨_, (by dsimp only [St.put, St.setObj, St.ev, killP, killA, killP1, killH, mapHO, renP, renA, ren1, killG, killGA, killG1, krowP, krowA, krow1, lendP, lendA, lend1, unv, pinP, pin1, elemsM, viewM, viewN, viewV, n_set_z, n_set_s, n_map_c, n_map_n, getD_z, getD_s, n_toNat, n_cond_t, n_cond_f, n_len_c, n_len_n, n_app_c, n_app_n, n_take_s, n_take_z, n_drop_s, n_drop_z, n_get_z, n_get_s, view, viewA, view1, elems, Nat.reduceAdd, Nat.reduceMul, Nat.zero_add, Nat.add_zero, Nat.reduceBEq, Bool.not_true, Bool.not_false, Nat.one_ne_zero, Nat.mul_one, reduceCtorEq]), ?_⟩)
| refine o_nil ?_
| refine g_condF rfl ?_
| (refine g_condN rfl (fun hc => ?_) (fun hc => ?_) <;> try (exfalso; omega))
| (refine g_condD rfl (fun hc => ?_) (fun hc => ?_) <;> try (exfalso; omega))
| refine kr1 ?_
| refine krB rfl ?_
| refine g_skip ?_
| refine g_ret ?_)
    all_goals first | rfl | (exfalso; omega) | (exfalso; simp at *; done)
end Go.Proofs.Ytgecikhfkkkghaa
