/- The law of ReachableTerms, walked. -/
import Derived.Test.YtogfibhhfimbjaaRHc
import Derived.Test.YtogfibhhfimbjaaRHd
namespace Go.Proofs.Ytogfibhhfimbjaa
open Go Go.Pv Go.Proofs
attribute [local bitvec_to_nat] St.put St.setObj St.ev killP killA killP1 killH mapHO renP renA ren1 killG killGA killG1 krowP krowA krow1 lendP lendA lend1 unv pinP pin1 elemsM viewM viewN viewV n_set_z n_set_s n_map_c n_map_n getD_z getD_s n_toNat n_cond_t n_cond_f n_len_c n_len_n n_app_c n_app_n n_take_s n_take_z n_drop_s n_drop_z n_get_z n_get_s view viewA view1 elems Nat.zero_add Nat.add_zero Bool.not_true Bool.not_false Nat.one_ne_zero Nat.mul_one

theorem tot_rowsO : ∀ L : List OpD, tot (rowsO L) = tot (tbsL L) + L.length
  | [] => rfl
  | f :: L => by
    have := tot_rowsO L
    simp only [tot, rowsO, tbsL, List.map_cons, List.sum_cons, List.length_cons] at this ⊢
    omega
theorem le_tot : ∀ {rows : List (List Int)} {r : List Int}, r ∈ rows → r.length ≤ tot rows
  | a :: l, r, h => by
    have e : tot (a :: l) = a.length + tot l := by simp [tot]
    rw [e]
    rcases List.mem_cons.1 h with rfl | h
    · omega
    · have := le_tot h; omega
theorem rowsO_ne (L : List OpD) : ∀ r ∈ rowsO L, r ≠ [] := fun r hr => by
  obtain ⟨f, -, rfl⟩ := List.mem_map.1 hr
  exact List.cons_ne_nil _ _
theorem sz_rowsO {L : List OpD} (hs : ¬ szSS (tbsL L) 1048576 < 0) : okP (rowsO L) ∧ tot (rowsO L) ≤ 1048576 := by
  have h1 : tot (tbsL L) + L.length ≤ 1048576 := by
    unfold szSS at hs
    split at hs
    · omega
    · have := szLL_tot (tbsL L) _ (by omega) hs
      simp only [List.length_map] at *
      omega
  rw [← tot_rowsO] at h1
  refine ⟨⟨?_, fun r hr => ?_⟩, h1⟩
  · rw [tot_rowsO] at h1; simp only [List.length_map]; omega
  · have := le_tot hr
    omega
theorem rtV_len (n : Int) (ops : List OpD) : (rtV n ops).1.length ≤ 60 := by
  unfold rtV
  cases hV : clT n ops with
  | none => simp
  | some T =>
    obtain ⟨m, -, -, -, hC⟩ := clT_some hV
    have := hC.len
    have h2 := filt_len (fun f => (rN T.length (foR n.toNat T) (placeT T (prjL n.toNat 3 0)).toNat (2 * T.length)).h0.getD f false || (rN T.length (foR n.toNat T) (placeT T (prjL n.toNat 3 0)).toNat (2 * T.length)).h1.getD f false) T.length
    exact Nat.le_trans h2 (by omega)
set_option maxHeartbeats 4000000 in
set_option maxRecDepth 100000 in
theorem law_rt (n : Int) (A : List OpD) (hlA : A.length ≤ maxLen) (hrA : ∀ f ∈ A, f.tb.length ≤ maxLen) : PCalls Try.prog 4 [algP n A] (B true) := by
  refine pcalls1 Try.func4 rfl Try.ntmps4 rfl ?_
  simp only [List.length_cons, List.length_nil, Nat.reduceAdd, Nat.reduceSub, List.replicate_succ, List.replicate_zero, List.cons_append, List.nil_append]
  have big : ∀ {k : Nat}, k ≤ maxLen → k ≤ 9223372036854775807 := fun h => Nat.le_trans h (by decide)
  have hz := szAlg_c n A 1048576 (big hlA) (fun f hf => big (hrA f hf)) (by decide) (by decide)
  by_cases hs : szSS (tbsL A) 1048576 < 0
  · rw [if_pos hs] at hz
    repeat' (first
| refine g_seq ?_
| refine g_region ?_
| (refine o_go rfl ?_; (first
| refine p_p (ps_call rfl rfl (by (repeat (first | refine ⟨PV.le_refl _, ?_⟩ | refine ⟨PV.le_nn _ _ _, ?_⟩ | refine ⟨PV.le_nil _, ?_⟩ | refine ⟨PV.le_any _, ?_⟩)); exact trivial) (hz)) ?_
| refine p_p (ps_move rfl) ?_
| refine p_p (ps_assign rfl) ?_
| refine p_p (ps_load_agg rfl rfl (by exact Nat.le_of_ble_eq_true rfl)) ?_
| refine p_p (ps_lss rfl rfl rfl) ?_
| refine p_p (ps_box rfl rfl) ?_); refine ⟨_, (by dsimp only [bitvec_to_nat, Nat.reduceAdd, Nat.reduceMul, Nat.reduceBEq, reduceCtorEq, posI, optP, lendM1, lendMA, lendMP, killM1, killMA, killMP, hasI, getO, backM1, backMA, backMP, putL, inpM, pinM1, pinMA, pinMP, killR1, killRA, killR]), ?_⟩)
| refine o_nil ?_
| refine g_condT rfl ?_
| refine kr1 ?_
| refine krB rfl ?_
| refine g_ret ?_)
    all_goals rfl
  rw [if_neg hs] at hz
  have hok := sz_okL (rows := tbsL A) (by decide) (by decide) hs
  have hokA : szOk A := ⟨by have := hok.1; rwa [List.length_map] at this, fun f hf => hok.2 _ (List.mem_map.2 ⟨f, hf, rfl⟩)⟩
  obtain ⟨hokR, htot⟩ := sz_rowsO hs
  generalize szSS (tbsL A) 1048576 = left at *
  have t1 := toAlg_c n A hokA
  have t2 := toAlg_R n A hokA
  have t3 := eqAlg_c n A hokA
  have hm := markAlg_L n (rowsO A) 1 (rowsO_ne A) hokR (by omega) (by omega)
  have h1 := irt_R n A hokA
  have h2 := srt_c n A hokA
  have hlv := rtV_len n A
  generalize (rtV n A).2 = d at *
  rw [show ((rtV n A).1.map fun (x : Nat) => I (x : Int)) = ((rtV n A).1.map fun (x : Nat) => (x : Int)).map I by rw [List.map_map]; rfl] at h1 h2
  rw [← List.length_map (f := fun (x : Nat) => (x : Int))] at hlv
  generalize ((rtV n A).1.map fun (x : Nat) => (x : Int)) = V at *
  have hei := eqIntS_c V V (by omega) (by omega)
  rw [decide_eq_true rfl] at hei
  have hmv := markIntS_L V 1 (by omega) (by omega) (by omega)
  have hhv := heldIntS_c 1 V.length (by omega) (by omega) (by omega)
  cases d
  · repeat' (first
| refine g_seq ?_
| refine g_region ?_
| refine g_region_draw (by kernel_rfl) (by kernel_rfl) ?_
| (refine o_go rfl ?_; (first
| refine p_p (ps_call rfl rfl (by (repeat (first | refine ⟨PV.le_refl _, ?_⟩ | refine ⟨PV.le_nn _ _ _, ?_⟩ | refine ⟨PV.le_nil _, ?_⟩ | refine ⟨PV.le_any _, ?_⟩)); exact trivial) (hz)) ?_
| refine p_e rfl (e_at (s := "exact.go:6528") rfl (e_callR rfl rfl (by (repeat (first | refine ⟨PV.le_refl _, ?_⟩ | refine ⟨PV.le_nn _ _ _, ?_⟩ | refine ⟨PV.le_nil _, ?_⟩ | refine ⟨PV.le_any _, ?_⟩)); exact trivial) rfl t2)) ?_
| refine p_p (ps_call rfl rfl (by (repeat (first | refine ⟨PV.le_refl _, ?_⟩ | refine ⟨PV.le_nn _ _ _, ?_⟩ | refine ⟨PV.le_nil _, ?_⟩ | refine ⟨PV.le_any _, ?_⟩)); exact trivial) (t1)) ?_
| refine p_p (ps_call rfl rfl (by (repeat (first | refine ⟨PV.le_refl _, ?_⟩ | refine ⟨PV.le_nn _ _ _, ?_⟩ | refine ⟨PV.le_nil _, ?_⟩ | refine ⟨PV.le_any _, ?_⟩)); exact trivial) (h2)) ?_
| refine p_e rfl (e_callR rfl rfl (by first | exact ⟨le_algG _ _, trivial⟩ | exact ⟨PV.le_refl _, trivial⟩) rfl h1) ?_
| refine p_p (ps_callM rfl rfl (by exact ⟨le_algG _ _, PV.le_refl _, trivial⟩) (by rfl) t3) ?_
| refine p_p (ps_callM rfl rfl (by (repeat (first | refine ⟨le_posetG _, ?_⟩ | refine ⟨le_intssG _, ?_⟩ | refine ⟨PV.le_refl _, ?_⟩ | refine ⟨PV.le_nn _ _ _, ?_⟩ | refine ⟨PV.le_nil _, ?_⟩ | refine ⟨PV.le_any _, ?_⟩)); exact trivial) (by rfl) (hei)) ?_
| refine p_e rfl (e_callL (n := 0) rfl rfl rfl (by (repeat (first | refine ⟨leS_refl _, ?_⟩ | refine ⟨leS_nn _ _ _, ?_⟩ | refine ⟨leS_nil _, ?_⟩ | refine ⟨leS_any _, ?_⟩)); exact trivial) rfl rfl (by exact ⟨rfl, rfl, rfl, by simp [length_marksS]⟩) hm) ?_
| refine p_e rfl (e_callL (n := 2) rfl rfl rfl (by (repeat (first | refine ⟨leS_refl _, ?_⟩ | refine ⟨leS_nn _ _ _, ?_⟩ | refine ⟨leS_nil _, ?_⟩ | refine ⟨leS_any _, ?_⟩)); exact trivial) rfl rfl (by exact ⟨rfl, rfl, rfl, by simp [length_marks]⟩) hmv) ?_
| refine p_p (ps_callM rfl rfl (by (repeat (first | refine ⟨le_posetG _, ?_⟩ | refine ⟨le_intssG _, ?_⟩ | refine ⟨PV.le_refl _, ?_⟩ | refine ⟨PV.le_nn _ _ _, ?_⟩ | refine ⟨PV.le_nil _, ?_⟩ | refine ⟨PV.le_any _, ?_⟩)); exact trivial) (by rfl) (hhv)) ?_
| refine p_p (ps_neqB rfl rfl rfl) ?_
| refine p_p (ps_move rfl) ?_
| refine p_p (ps_assign rfl) ?_
| refine p_p (ps_load_agg rfl rfl (by exact Nat.le_of_ble_eq_true rfl)) ?_
| refine p_p (ps_lss rfl rfl rfl) ?_
| refine p_p (ps_extract rfl rfl rfl) ?_
| refine p_p (ps_not rfl rfl) ?_
| refine p_p (ps_pick rfl rfl) ?_
| refine p_p (ps_neq rfl rfl rfl) ?_
| refine p_p (ps_load_boxA rfl rfl rfl (by exact Nat.le_of_ble_eq_true rfl)) ?_
| refine p_e rfl (e_store_boxA rfl rfl rfl rfl (by exact Nat.le_of_ble_eq_true rfl) rfl rfl rfl) ?_
| refine p_e rfl (e_alloc rfl) ?_
| refine p_p (ps_box rfl rfl) ?_); refine ⟨_, (by dsimp only [bitvec_to_nat, Nat.reduceAdd, Nat.reduceMul, Nat.reduceBEq, reduceCtorEq, posI, optP, lendM1, lendMA, lendMP, killM1, killMA, killMP, hasI, getO, backM1, backMA, backMP, putL, inpM, pinM1, pinMA, pinMP, killR1, killRA, killR]), ?_⟩)
| refine o_nil ?_
| refine g_condF rfl ?_
| (refine g_condN rfl (fun hc => ?_) (fun hc => ?_) <;> try (exfalso; omega))
| (refine g_condD rfl (fun hc => ?_) (fun hc => ?_) <;> try (exfalso; omega))
| refine kr1 ?_
| refine krB rfl ?_
| refine g_skip ?_
| refine g_ret ?_)
    all_goals first | rfl | (exfalso; omega) | (exfalso; simp at *; done)
  · repeat' (first
| refine g_seq ?_
| refine g_region ?_
| refine g_region_draw (by kernel_rfl) (by kernel_rfl) ?_
| (refine o_go rfl ?_; (first
| refine p_p (ps_call rfl rfl (by (repeat (first | refine ⟨PV.le_refl _, ?_⟩ | refine ⟨PV.le_nn _ _ _, ?_⟩ | refine ⟨PV.le_nil _, ?_⟩ | refine ⟨PV.le_any _, ?_⟩)); exact trivial) (hz)) ?_
| refine p_e rfl (e_at (s := "exact.go:6528") rfl (e_callR rfl rfl (by (repeat (first | refine ⟨PV.le_refl _, ?_⟩ | refine ⟨PV.le_nn _ _ _, ?_⟩ | refine ⟨PV.le_nil _, ?_⟩ | refine ⟨PV.le_any _, ?_⟩)); exact trivial) rfl t2)) ?_
| refine p_p (ps_call rfl rfl (by (repeat (first | refine ⟨PV.le_refl _, ?_⟩ | refine ⟨PV.le_nn _ _ _, ?_⟩ | refine ⟨PV.le_nil _, ?_⟩ | refine ⟨PV.le_any _, ?_⟩)); exact trivial) (t1)) ?_
| refine p_p (ps_call rfl rfl (by (repeat (first | refine ⟨PV.le_refl _, ?_⟩ | refine ⟨PV.le_nn _ _ _, ?_⟩ | refine ⟨PV.le_nil _, ?_⟩ | refine ⟨PV.le_any _, ?_⟩)); exact trivial) (h2)) ?_
| refine p_e rfl (e_callR rfl rfl (by first | exact ⟨le_algG _ _, trivial⟩ | exact ⟨PV.le_refl _, trivial⟩) rfl h1) ?_
| refine p_p (ps_callM rfl rfl (by exact ⟨le_algG _ _, PV.le_refl _, trivial⟩) (by rfl) t3) ?_
| refine p_p (ps_callM rfl rfl (by (repeat (first | refine ⟨le_posetG _, ?_⟩ | refine ⟨le_intssG _, ?_⟩ | refine ⟨PV.le_refl _, ?_⟩ | refine ⟨PV.le_nn _ _ _, ?_⟩ | refine ⟨PV.le_nil _, ?_⟩ | refine ⟨PV.le_any _, ?_⟩)); exact trivial) (by rfl) (hei)) ?_
| refine p_e rfl (e_callL (n := 0) rfl rfl rfl (by (repeat (first | refine ⟨leS_refl _, ?_⟩ | refine ⟨leS_nn _ _ _, ?_⟩ | refine ⟨leS_nil _, ?_⟩ | refine ⟨leS_any _, ?_⟩)); exact trivial) rfl rfl (by exact ⟨rfl, rfl, rfl, by simp [length_marksS]⟩) hm) ?_
| refine p_e rfl (e_callL (n := 2) rfl rfl rfl (by (repeat (first | refine ⟨leS_refl _, ?_⟩ | refine ⟨leS_nn _ _ _, ?_⟩ | refine ⟨leS_nil _, ?_⟩ | refine ⟨leS_any _, ?_⟩)); exact trivial) rfl rfl (by exact ⟨rfl, rfl, rfl, by simp [length_marks]⟩) hmv) ?_
| refine p_p (ps_callM rfl rfl (by (repeat (first | refine ⟨le_posetG _, ?_⟩ | refine ⟨le_intssG _, ?_⟩ | refine ⟨PV.le_refl _, ?_⟩ | refine ⟨PV.le_nn _ _ _, ?_⟩ | refine ⟨PV.le_nil _, ?_⟩ | refine ⟨PV.le_any _, ?_⟩)); exact trivial) (by rfl) (hhv)) ?_
| refine p_p (ps_neqB rfl rfl rfl) ?_
| refine p_p (ps_move rfl) ?_
| refine p_p (ps_assign rfl) ?_
| refine p_p (ps_load_agg rfl rfl (by exact Nat.le_of_ble_eq_true rfl)) ?_
| refine p_p (ps_lss rfl rfl rfl) ?_
| refine p_p (ps_extract rfl rfl rfl) ?_
| refine p_p (ps_not rfl rfl) ?_
| refine p_p (ps_pick rfl rfl) ?_
| refine p_p (ps_neq rfl rfl rfl) ?_
| refine p_p (ps_load_boxA rfl rfl rfl (by exact Nat.le_of_ble_eq_true rfl)) ?_
| refine p_e rfl (e_store_boxA rfl rfl rfl rfl (by exact Nat.le_of_ble_eq_true rfl) rfl rfl rfl) ?_
| refine p_e rfl (e_alloc rfl) ?_
| refine p_p (ps_box rfl rfl) ?_); refine ⟨_, (by dsimp only [bitvec_to_nat, Nat.reduceAdd, Nat.reduceMul, Nat.reduceBEq, reduceCtorEq, posI, optP, lendM1, lendMA, lendMP, killM1, killMA, killMP, hasI, getO, backM1, backMA, backMP, putL, inpM, pinM1, pinMA, pinMP, killR1, killRA, killR]), ?_⟩)
| refine o_nil ?_
| refine g_condF rfl ?_
| (refine g_condN rfl (fun hc => ?_) (fun hc => ?_) <;> try (exfalso; omega))
| (refine g_condD rfl (fun hc => ?_) (fun hc => ?_) <;> try (exfalso; omega))
| refine kr1 ?_
| refine krB rfl ?_
| refine g_skip ?_
| refine g_ret ?_)
    all_goals first | rfl | (exfalso; omega) | (exfalso; simp at *; done)
end Go.Proofs.Ytogfibhhfimbjaa
