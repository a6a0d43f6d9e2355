/- The law of DistributiveChain, walked. -/
import Derived.Test.YtogfibhhfimbjaaDHf
import Derived.Test.YtogfibhhfimbjaaDHe
namespace Go.Proofs.Ytogfibhhfimbjaa
open Go Go.Pv Go.Proofs
attribute [local bitvec_to_nat] St.put St.setObj St.ev killP killA killP1 killH mapHO renP renA ren1 killG killGA killG1 krowP krowA krow1 lendP lendA lend1 unv pinP pin1 elemsM viewM viewN viewV n_set_z n_set_s n_map_c n_map_n getD_z getD_s n_toNat n_cond_t n_cond_f n_len_c n_len_n n_app_c n_app_n n_take_s n_take_z n_drop_s n_drop_z n_get_z n_get_s view viewA view1 elems Nat.zero_add Nat.add_zero Bool.not_true Bool.not_false Nat.one_ne_zero Nat.mul_one

abbrev sgV (rows : List (List Int)) : PV := .sl 2 none ((rows.map fun r => r.map I).map sgP)
set_option maxHeartbeats 2000000 in
set_option maxRecDepth 100000 in
theorem heldOpS_c (k : Int) (rows : List (List Int)) (hne : ∀ r ∈ rows, r ≠ []) (hok : okP rows) (h0 : 0 ≤ k) (h1 : k + (tot rows : Int) ≤ 1099511627776) :
    PCalls Try.prog 26 [sgV (marksS k rows), I k] (I (k + (tot rows : Int))) := by
  refine pcalls1 Try.func26 rfl Try.ntmps26 rfl ?_
  simp only [List.length_cons, List.length_nil, Nat.reduceAdd, Nat.reduceSub, List.replicate_succ, List.replicate_zero, List.cons_append, List.nil_append]
  have hl := hok.1
  have hml : ((marksS k rows).map fun r => r.map I).length = rows.length := by simp [length_marksS]
  repeat' (first
| refine g_seq ?_
| refine g_block ?_
| refine g_region ?_
| (refine o_go rfl ?_; (first
| refine p_p (ps_assign rfl) ?_); refine ⟨_, (by dsimp only [bitvec_to_nat, Nat.reduceAdd, Nat.reduceMul, Nat.reduceBEq, reduceCtorEq, posI, optP, lendM1, lendMA, lendMP, killM1, killMA, killMP, hasI, getO, backM1, backMA, backMP, putL, inpM, pinM1, pinMA, pinMP, killR1, killRA, killR]), ?_⟩)
| refine o_nil ?_)
  refine g_loopT (α := Nat) (fun i => [(1, I (k + (tot (rows.take i) : Int))), (5, I (i : Int))]) (fun _ => []) (fun i => i ≤ rows.length) (fun i => rows.length - i) 0 (by simp only [havoc, dsts, List.filterMap_cons, List.filterMap_nil, List.foldl_cons, List.foldl_nil, List.cons_append, List.nil_append, List.append_nil, List.set_cons_succ, List.set_cons_zero]; exact rfl) (Nat.zero_le _) ⟨by simp [tot], rfl, trivial⟩ rfl ?_
  rintro i hi
  dsimp only [setMany, List.set_cons_zero, List.set_cons_succ]
  have htl := tot_take_le rows i
  by_cases hir : i < rows.length
  · have hrow := hok.row i
    have htt := tot_take hir
    have htl' := tot_take_le rows (i + 1)
    have hnei : rows.getD i [] ≠ [] := hne _ (by rw [List.getD_eq_getElem?_getD, List.getElem?_eq_getElem hir]; exact List.getElem_mem _)
    have hat : (((marksS k rows).map fun r => r.map I).map sgP)[((i : Nat) : Int).toNat]? = some (sgP ((marks (k + (tot (rows.take i) : Int)) (rows.getD i []).length).map I)) := by
      rw [Int.toNat_natCast, List.getElem?_map, idx_gridI (by rw [length_marksS]; exact hir), marksS_get _ _ _ hir]; rfl
    generalize rows.getD i [] = r at *
    cases r with
    | nil => exact absurd rfl hnei
    | cons a r =>
      rw [List.length_cons] at htt hrow hat
      rw [marks_cons] at hat
      have hat' : (((marksS k rows).map fun r => r.map I).map sgP)[((i : Nat) : Int).toNat]? = some (.agg [I (k + (tot (rows.take i) : Int)), ints (marks (k + (tot (rows.take i) : Int) + 1) r.length)]) := hat
      have hhd := heldIntS_c (k + (tot (rows.take i) : Int) + 1) r.length (by omega) (by omega) (by omega)
      repeat' (first
| refine g_seq ?_
| refine g_block ?_
| refine g_region ?_
| (refine o_go rfl ?_; (first
| refine p_p (ps_index rfl rfl rfl (by omega) hat' (by exact rfl)) ?_
| refine p_p (ps_call rfl rfl (by (repeat (first | refine ⟨PV.le_refl _, ?_⟩ | refine ⟨PV.le_nn _ _ _, ?_⟩ | refine ⟨PV.le_nil _, ?_⟩ | refine ⟨PV.le_any _, ?_⟩)); exact trivial) (hhd)) ?_
| refine p_p (ps_move rfl) ?_
| refine p_p (ps_assign rfl) ?_
| refine p_p (ps_load_cell rfl rfl) ?_
| refine p_p (ps_lenM rfl rfl rfl) ?_
| refine p_p (ps_lss rfl rfl rfl) ?_
| refine p_p (ps_add rfl rfl rfl (by constructor <;> omega)) ?_
| refine p_p (ps_fieldAddr rfl rfl) ?_
| refine p_p (ps_neq rfl rfl rfl) ?_); refine ⟨_, (by dsimp only [bitvec_to_nat, Nat.reduceAdd, Nat.reduceMul, Nat.reduceBEq, reduceCtorEq, posI, optP, lendM1, lendMA, lendMP, killM1, killMA, killMP, hasI, getO, backM1, backMA, backMP, putL, inpM, pinM1, pinMA, pinMP, killR1, killRA, killR]), ?_⟩)
| refine o_nil ?_
| (refine g_condN rfl (fun hc => ?_) (fun hc => ?_) <;> try (exfalso; omega))
| (refine g_condD rfl (fun hc => ?_) (fun hc => ?_) <;> try (exfalso; omega))
| refine g_skip ?_)
      all_goals try (exfalso; omega)
      exact k_round (i + 1) (by omega) (by omega) (by repeat (first | exact trivial | refine ⟨.inl rfl, ?_⟩ | refine ⟨.inr rfl, ?_⟩)) ⟨vI (by omega), rfl, trivial⟩ (hpLe_nil _)
  · repeat' (first
| refine g_seq ?_
| refine g_region ?_
| (refine o_go rfl ?_; (first
| refine p_p (ps_move rfl) ?_
| refine p_p (ps_assign rfl) ?_
| refine p_p (ps_lenM rfl rfl rfl) ?_
| refine p_p (ps_lss rfl rfl rfl) ?_); refine ⟨_, (by dsimp only [bitvec_to_nat, Nat.reduceAdd, Nat.reduceMul, Nat.reduceBEq, reduceCtorEq, posI, optP, lendM1, lendMA, lendMP, killM1, killMA, killMP, hasI, getO, backM1, backMA, backMP, putL, inpM, pinM1, pinMA, pinMP, killR1, killRA, killR]), ?_⟩)
| refine o_nil ?_
| (refine g_condD rfl (fun hc => ?_) (fun hc => ?_) <;> try (exfalso; omega))
| refine kr1 ?_
| refine krI rfl ?_
| refine g_exit ?_
| refine g_ret ?_)
    all_goals try (exfalso; omega)
    all_goals rw [show rows.take i = rows from List.take_of_length_le (by omega)]
set_option maxHeartbeats 4000000 in
set_option maxRecDepth 100000 in
theorem law_dc (n : Int) (A : List OpD) (hlA : A.length ≤ maxLen) (hrA : ∀ f ∈ A, f.tb.length ≤ maxLen) : PCalls Try.prog 6 [algP n A] (B true) := by
  refine pcalls1 Try.func6 rfl Try.ntmps6 rfl ?_
  simp only [List.length_cons, List.length_nil, Nat.reduceAdd, Nat.reduceSub, List.replicate_succ, List.replicate_zero, List.cons_append, List.nil_append]
  have big : ∀ {k : Nat}, k ≤ maxLen → k ≤ 9223372036854775807 := fun h => Nat.le_trans h (by decide)
  have hz := szAlg_c n A 1048576 (big hlA) (fun f hf => big (hrA f hf)) (by decide) (by decide)
  by_cases hs : szSS (tbsL A) 1048576 < 0
  · rw [if_pos hs] at hz
    repeat' (first
| refine g_seq ?_
| refine g_region ?_
| (refine o_go rfl ?_; (first
| refine p_p (ps_call rfl rfl (by (repeat (first | refine ⟨PV.le_refl _, ?_⟩ | refine ⟨PV.le_nn _ _ _, ?_⟩ | refine ⟨PV.le_nil _, ?_⟩ | refine ⟨PV.le_any _, ?_⟩)); exact trivial) (hz)) ?_
| refine p_p (ps_move rfl) ?_
| refine p_p (ps_assign rfl) ?_
| refine p_p (ps_load_agg rfl rfl (by exact Nat.le_of_ble_eq_true rfl)) ?_
| refine p_p (ps_lss rfl rfl rfl) ?_
| refine p_p (ps_box rfl rfl) ?_); refine ⟨_, (by dsimp only [bitvec_to_nat, Nat.reduceAdd, Nat.reduceMul, Nat.reduceBEq, reduceCtorEq, posI, optP, lendM1, lendMA, lendMP, killM1, killMA, killMP, hasI, getO, backM1, backMA, backMP, putL, inpM, pinM1, pinMA, pinMP, killR1, killRA, killR]), ?_⟩)
| refine o_nil ?_
| refine g_condT rfl ?_
| refine kr1 ?_
| refine krB rfl ?_
| refine g_ret ?_)
    all_goals rfl
  rw [if_neg hs] at hz
  have hok := sz_okL (rows := tbsL A) (by decide) (by decide) hs
  have hokA : szOk A := ⟨by have := hok.1; rwa [List.length_map] at this, fun f hf => hok.2 _ (List.mem_map.2 ⟨f, hf, rfl⟩)⟩
  obtain ⟨hokR, htot⟩ := sz_rowsO hs
  generalize szSS (tbsL A) 1048576 = left at *
  have t1 := toAlg_c n A hokA
  have t2 := toAlg_R n A hokA
  have t3 := eqAlg_c n A hokA
  have hm := markAlg_L n (rowsO A) 1 (rowsO_ne A) hokR (by omega) (by omega)
  have h1 := idc_R n A hokA
  have h2 := sdc_c n A hokA
  obtain ⟨v1, v2⟩ := dcV_ok n A
  generalize (dcV n A).2 = d at *
  generalize (dcV n A).1 = V at *
  have hei := eqOpS_c V V (by omega) (by omega) (fun f hf => by have := v2 f hf; omega) (fun f hf => by have := v2 f hf; omega)
  rw [decide_eq_true rfl] at hei
  have hokV : okP (rowsO V) := ⟨by rw [List.length_map]; omega, fun r hr => by
    obtain ⟨f, hf, rfl⟩ := List.mem_map.1 hr
    have := v2 f hf
    rw [List.length_cons]; omega⟩
  have htv : tot (rowsO V) ≤ 1048576 := by
    have := tot_le (m := 28) (rows := rowsO V) fun r hr => by
      obtain ⟨f, hf, rfl⟩ := List.mem_map.1 hr
      have := v2 f hf
      rw [List.length_cons]; omega
    rw [List.length_map] at this
    omega
  have hmv := markOpS_L (rowsO V) 1 (rowsO_ne V) hokV (by omega) (by omega)
  have hhv := heldOpS_c 1 (rowsO V) (rowsO_ne V) hokV (by omega) (by omega)
  cases d
  · repeat' (first
| refine g_seq ?_
| refine g_region ?_
| refine g_region_draw (by kernel_rfl) (by kernel_rfl) ?_
| (refine o_go rfl ?_; (first
| refine p_p (ps_call rfl rfl (by (repeat (first | refine ⟨PV.le_refl _, ?_⟩ | refine ⟨PV.le_nn _ _ _, ?_⟩ | refine ⟨PV.le_nil _, ?_⟩ | refine ⟨PV.le_any _, ?_⟩)); exact trivial) (hz)) ?_
| refine p_e rfl (e_at (s := "exact.go:6336") rfl (e_callR rfl rfl (by (repeat (first | refine ⟨PV.le_refl _, ?_⟩ | refine ⟨PV.le_nn _ _ _, ?_⟩ | refine ⟨PV.le_nil _, ?_⟩ | refine ⟨PV.le_any _, ?_⟩)); exact trivial) rfl t2)) ?_
| refine p_p (ps_call rfl rfl (by (repeat (first | refine ⟨PV.le_refl _, ?_⟩ | refine ⟨PV.le_nn _ _ _, ?_⟩ | refine ⟨PV.le_nil _, ?_⟩ | refine ⟨PV.le_any _, ?_⟩)); exact trivial) (t1)) ?_
| refine p_p (ps_call rfl rfl (by (repeat (first | refine ⟨PV.le_refl _, ?_⟩ | refine ⟨PV.le_nn _ _ _, ?_⟩ | refine ⟨PV.le_nil _, ?_⟩ | refine ⟨PV.le_any _, ?_⟩)); exact trivial) (h2)) ?_
| refine p_e rfl (e_callR rfl rfl (by first | exact ⟨le_algG _ _, trivial⟩ | exact ⟨PV.le_refl _, trivial⟩) rfl h1) ?_
| refine p_p (ps_callM rfl rfl (by exact ⟨le_algG _ _, PV.le_refl _, trivial⟩) (by rfl) t3) ?_
| refine p_p (ps_callM rfl rfl (by exact ⟨le_opsG _, PV.le_refl _, trivial⟩) (by rfl) hei) ?_
| refine p_e rfl (e_callL (n := 0) rfl rfl rfl (by (repeat (first | refine ⟨leS_refl _, ?_⟩ | refine ⟨leS_nn _ _ _, ?_⟩ | refine ⟨leS_nil _, ?_⟩ | refine ⟨leS_any _, ?_⟩)); exact trivial) rfl rfl (by exact ⟨rfl, rfl, rfl, by simp [length_marksS]⟩) hm) ?_
| refine p_e rfl (e_callL (n := 2) rfl rfl rfl (by (repeat (first | refine ⟨leS_refl _, ?_⟩ | refine ⟨leS_nn _ _ _, ?_⟩ | refine ⟨leS_nil _, ?_⟩ | refine ⟨leS_any _, ?_⟩)); exact trivial) rfl rfl (by exact ⟨rfl, rfl, rfl, by simp [length_marksS]⟩) hmv) ?_
| refine p_p (ps_callM rfl rfl (by (repeat (first | refine ⟨PV.le_refl _, ?_⟩ | refine ⟨PV.le_nn _ _ _, ?_⟩ | refine ⟨PV.le_nil _, ?_⟩ | refine ⟨PV.le_any _, ?_⟩)); exact trivial) (by rfl) (hhv)) ?_
| refine p_p (ps_neqB rfl rfl rfl) ?_
| refine p_p (ps_move rfl) ?_
| refine p_p (ps_assign rfl) ?_
| refine p_p (ps_load_agg rfl rfl (by exact Nat.le_of_ble_eq_true rfl)) ?_
| refine p_p (ps_lss rfl rfl rfl) ?_
| refine p_p (ps_extract rfl rfl rfl) ?_
| refine p_p (ps_not rfl rfl) ?_
| refine p_p (ps_pick rfl rfl) ?_
| refine p_p (ps_neq rfl rfl rfl) ?_
| refine p_p (ps_load_boxA rfl rfl rfl (by exact Nat.le_of_ble_eq_true rfl)) ?_
| refine p_e rfl (e_store_boxA rfl rfl rfl rfl (by exact Nat.le_of_ble_eq_true rfl) rfl rfl rfl) ?_
| refine p_e rfl (e_alloc rfl) ?_
| refine p_p (ps_box rfl rfl) ?_); refine ⟨_, (by dsimp only [bitvec_to_nat, Nat.reduceAdd, Nat.reduceMul, Nat.reduceBEq, reduceCtorEq, posI, optP, lendM1, lendMA, lendMP, killM1, killMA, killMP, hasI, getO, backM1, backMA, backMP, putL, inpM, pinM1, pinMA, pinMP, killR1, killRA, killR]), ?_⟩)
| refine o_nil ?_
| refine g_condF rfl ?_
| (refine g_condN rfl (fun hc => ?_) (fun hc => ?_) <;> try (exfalso; omega))
| (refine g_condD rfl (fun hc => ?_) (fun hc => ?_) <;> try (exfalso; omega))
| refine kr1 ?_
| refine krB rfl ?_
| refine g_skip ?_
| refine g_ret ?_)
    all_goals first | rfl | (exfalso; omega) | (exfalso; simp at *; done)
  · repeat' (first
| refine g_seq ?_
| refine g_region ?_
| refine g_region_draw (by kernel_rfl) (by kernel_rfl) ?_
| (refine o_go rfl ?_; (first
| refine p_p (ps_call rfl rfl (by (repeat (first | refine ⟨PV.le_refl _, ?_⟩ | refine ⟨PV.le_nn _ _ _, ?_⟩ | refine ⟨PV.le_nil _, ?_⟩ | refine ⟨PV.le_any _, ?_⟩)); exact trivial) (hz)) ?_
| refine p_e rfl (e_at (s := "exact.go:6336") rfl (e_callR rfl rfl (by (repeat (first | refine ⟨PV.le_refl _, ?_⟩ | refine ⟨PV.le_nn _ _ _, ?_⟩ | refine ⟨PV.le_nil _, ?_⟩ | refine ⟨PV.le_any _, ?_⟩)); exact trivial) rfl t2)) ?_
| refine p_p (ps_call rfl rfl (by (repeat (first | refine ⟨PV.le_refl _, ?_⟩ | refine ⟨PV.le_nn _ _ _, ?_⟩ | refine ⟨PV.le_nil _, ?_⟩ | refine ⟨PV.le_any _, ?_⟩)); exact trivial) (t1)) ?_
| refine p_p (ps_call rfl rfl (by (repeat (first | refine ⟨PV.le_refl _, ?_⟩ | refine ⟨PV.le_nn _ _ _, ?_⟩ | refine ⟨PV.le_nil _, ?_⟩ | refine ⟨PV.le_any _, ?_⟩)); exact trivial) (h2)) ?_
| refine p_e rfl (e_callR rfl rfl (by first | exact ⟨le_algG _ _, trivial⟩ | exact ⟨PV.le_refl _, trivial⟩) rfl h1) ?_
| refine p_p (ps_callM rfl rfl (by exact ⟨le_algG _ _, PV.le_refl _, trivial⟩) (by rfl) t3) ?_
| refine p_p (ps_callM rfl rfl (by exact ⟨le_opsG _, PV.le_refl _, trivial⟩) (by rfl) hei) ?_
| refine p_e rfl (e_callL (n := 0) rfl rfl rfl (by (repeat (first | refine ⟨leS_refl _, ?_⟩ | refine ⟨leS_nn _ _ _, ?_⟩ | refine ⟨leS_nil _, ?_⟩ | refine ⟨leS_any _, ?_⟩)); exact trivial) rfl rfl (by exact ⟨rfl, rfl, rfl, by simp [length_marksS]⟩) hm) ?_
| refine p_e rfl (e_callL (n := 2) rfl rfl rfl (by (repeat (first | refine ⟨leS_refl _, ?_⟩ | refine ⟨leS_nn _ _ _, ?_⟩ | refine ⟨leS_nil _, ?_⟩ | refine ⟨leS_any _, ?_⟩)); exact trivial) rfl rfl (by exact ⟨rfl, rfl, rfl, by simp [length_marksS]⟩) hmv) ?_
| refine p_p (ps_callM rfl rfl (by (repeat (first | refine ⟨PV.le_refl _, ?_⟩ | refine ⟨PV.le_nn _ _ _, ?_⟩ | refine ⟨PV.le_nil _, ?_⟩ | refine ⟨PV.le_any _, ?_⟩)); exact trivial) (by rfl) (hhv)) ?_
| refine p_p (ps_neqB rfl rfl rfl) ?_
| refine p_p (ps_move rfl) ?_
| refine p_p (ps_assign rfl) ?_
| refine p_p (ps_load_agg rfl rfl (by exact Nat.le_of_ble_eq_true rfl)) ?_
| refine p_p (ps_lss rfl rfl rfl) ?_
| refine p_p (ps_extract rfl rfl rfl) ?_
| refine p_p (ps_not rfl rfl) ?_
| refine p_p (ps_pick rfl rfl) ?_
| refine p_p (ps_neq rfl rfl rfl) ?_
| refine p_p (ps_load_boxA rfl rfl rfl (by exact Nat.le_of_ble_eq_true rfl)) ?_
| refine p_e rfl (e_store_boxA rfl rfl rfl rfl (by exact Nat.le_of_ble_eq_true rfl) rfl rfl rfl) ?_
| refine p_e rfl (e_alloc rfl) ?_
| refine p_p (ps_box rfl rfl) ?_); refine ⟨_, (by dsimp only [bitvec_to_nat, Nat.reduceAdd, Nat.reduceMul, Nat.reduceBEq, reduceCtorEq, posI, optP, lendM1, lendMA, lendMP, killM1, killMA, killMP, hasI, getO, backM1, backMA, backMP, putL, inpM, pinM1, pinMA, pinMP, killR1, killRA, killR]), ?_⟩)
| refine o_nil ?_
| refine g_condF rfl ?_
| (refine g_condN rfl (fun hc => ?_) (fun hc => ?_) <;> try (exfalso; omega))
| (refine g_condD rfl (fun hc => ?_) (fun hc => ?_) <;> try (exfalso; omega))
| refine kr1 ?_
| refine krB rfl ?_
| refine g_skip ?_
| refine g_ret ?_)
    all_goals first | rfl | (exfalso; omega) | (exfalso; simp at *; done)
end Go.Proofs.Ytogfibhhfimbjaa
