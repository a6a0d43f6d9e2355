/- Walks: operations that the law owns, with their rows: made, marked. -/
import Derived.Test.YtogfibhhfimbjaaDNi
import Derived.Test.YtogfibhhfimbjaaDGo
namespace Go.Proofs.Ytogfibhhfimbjaa
open Go Go.Pv Go.Proofs
attribute [local bitvec_to_nat] St.put St.setObj St.ev killP killA killP1 killH mapHO renP renA ren1 killG killGA killG1 krowP krowA krow1 lendP lendA lend1 unv pinP pin1 elemsM viewM viewN viewV n_set_z n_set_s n_map_c n_map_n getD_z getD_s n_toNat n_cond_t n_cond_f n_len_c n_len_n n_app_c n_app_n n_take_s n_take_z n_drop_s n_drop_z n_get_z n_get_s view viewA view1 elems Nat.zero_add Nat.add_zero Bool.not_true Bool.not_false Nat.one_ne_zero Nat.mul_one

/-- An operation's number and its table in one list. -/
abbrev rowO (f : OpD) : List Int := f.ar :: f.tb
abbrev rowsO (L : List OpD) : List (List Int) := L.map rowO
abbrev sgI (rows : List (List Int)) : HO := .sg 60 3 0 (rows.map fun r => r.map I)
theorem rowsO_view (L : List OpD) : (PV.sl 2 none (((rowsO L).map fun r => r.map I).map sgP)) = opsP L := by
  rw [List.map_map, List.map_map]; rfl
theorem le_opsG (L : List OpD) : (PV.sl 2 none (((rowsO L).map fun r => r.map I).map sgP)).le (opsP L) := by rw [rowsO_view]; exact PV.le_refl _
theorem le_algG (n : Int) (L : List OpD) : (PV.agg [I n, PV.sl 2 none (((rowsO L).map fun r => r.map I).map sgP)]).le (algP n L) := by rw [rowsO_view]; exact PV.le_refl _
theorem marks_cons (k : Int) (n : Nat) : marks k (n + 1) = k :: marks (k + 1) n := by
  unfold marks
  rw [List.range_succ_eq_map, List.map_cons, List.map_map]
  congr 1
  · simp
  · apply List.map_congr_left; intro i _; simp only [Function.comp]; omega
set_option maxHeartbeats 1000000 in
set_option maxRecDepth 100000 in
theorem toOp_R (f : OpD) (hl : f.tb.length ≤ 1048576) : RCalls Try.prog 35 [opP f] (.arr true 1 3 (f.tb.map I)) (.agg [I f.ar, .hp 0]) := by
  refine pcallsRCv Try.func35 rfl Try.ntmps35 rfl ?_
  simp only [List.length_cons, List.length_nil, Nat.reduceAdd, Nat.reduceSub, List.replicate_succ, List.replicate_zero, List.cons_append, List.nil_append]
  have h1 := toIntS_R f.tb hl
  repeat' (first
| refine g_seq ?_
| refine g_region ?_
| (refine o_go rfl ?_; (first
| refine p_e rfl (e_callR rfl rfl (by (repeat (first | refine ⟨PV.le_refl _, ?_⟩ | refine ⟨PV.le_nn _ _ _, ?_⟩ | refine ⟨PV.le_nil _, ?_⟩ | refine ⟨PV.le_any _, ?_⟩)); exact trivial) rfl (h1)) ?_
| refine p_p (ps_load_cell rfl rfl) ?_
| refine p_p (ps_fieldAddr rfl rfl) ?_
| refine p_p (ps_load_boxA rfl rfl rfl (by exact Nat.le_of_ble_eq_true rfl)) ?_
| refine p_p (ps_fieldAddr_hat rfl rfl) ?_
| refine p_e rfl (e_store_boxC rfl rfl rfl rfl (by exact Nat.le_of_ble_eq_true rfl) rfl rfl) ?_
| refine p_e rfl (e_store_boxA rfl rfl rfl rfl (by exact Nat.le_of_ble_eq_true rfl) rfl rfl rfl) ?_
| refine p_e rfl (e_alloc rfl) ?_
| refine p_p (ps_box rfl rfl) ?_); refine ⟨_, (by dsimp only [bitvec_to_nat, Nat.reduceAdd, Nat.reduceMul, Nat.reduceBEq, reduceCtorEq, posI, optP, lendM1, lendMA, lendMP, killM1, killMA, killMP, hasI, getO, backM1, backMA, backMP, putL, inpM, pinM1, pinMA, pinMP, killR1, killRA, killR]), ?_⟩)
| refine o_nil ?_
| refine g_ret ?_)
  exact krrcv 2 0 rfl rfl (HandOut.arr rfl rfl (sc_map (fun _ => rfl) _))
set_option maxHeartbeats 2000000 in
set_option maxRecDepth 100000 in
theorem toOpS_R (L : List OpD) (hl : szOk L) : RCalls Try.prog 11 [opsP L] (sgI (rowsO L)) (.hp 0) := by
  refine pcallsR1 Try.func11 rfl Try.ntmps11 rfl ?_
  simp only [List.length_cons, List.length_nil, Nat.reduceAdd, Nat.reduceSub, List.replicate_succ, List.replicate_zero, List.cons_append, List.nil_append]
  have hl1 := hl.1
  repeat' (first
| refine g_seq ?_
| refine g_block ?_
| refine g_region ?_
| (refine o_go rfl ?_; (first
| refine p_e rfl (e_makeSg 3 rfl rfl rfl (by omega) (by omega) (by omega) rfl) ?_
| refine p_p (ps_move rfl) ?_
| refine p_p (ps_assign rfl) ?_
| refine p_p (ps_lenM rfl rfl rfl) ?_); refine ⟨_, (by dsimp only [bitvec_to_nat, Nat.reduceAdd, Nat.reduceMul, Nat.reduceBEq, reduceCtorEq, posI, optP, lendM1, lendMA, lendMP, killM1, killMA, killMP, hasI, getO, backM1, backMA, backMP, putL, inpM, pinM1, pinMA, pinMP, killR1, killRA, killR]), ?_⟩)
| refine o_nil ?_)
  refine g_loopT (α := Nat) (fun k => [(4, I (k : Int))]) (fun k => [.sg 60 3 (L.length - k) (((rowsO L).take k).map fun r => r.map I)]) (fun k => k ≤ L.length) (fun k => L.length - k) 0 (by simp only [havoc, dsts, List.filterMap_cons, List.filterMap_nil, List.foldl_cons, List.foldl_nil, List.cons_append, List.nil_append, List.append_nil, List.set_cons_succ, List.set_cons_zero]; exact rfl) (Nat.zero_le _) ⟨rfl, trivial⟩ rfl ?_
  rintro k hk
  dsimp only [setMany, List.set_cons_zero, List.set_cons_succ]
  have hll : (((rowsO L).take k).map fun r => r.map I).length = k := by simp; omega
  by_cases hkl : k < L.length
  · have hq := ops_at hkl
    have h1 := toOp_R (L.getD k default) (hl.2 _ (ops_mem hkl))
    have htk : (rowsO L).take (k + 1) = (rowsO L).take k ++ [rowO (L.getD k default)] := by
      rw [take_snoc [] (by simpa using hkl)]
      congr 2
      simp [List.getD_eq_getElem?_getD, hkl]
    have hm : L.length - k = (L.length - (k + 1)) + 1 := by omega
    generalize L.getD k default = f at *
    repeat' (first
| refine g_seq ?_
| refine g_block ?_
| refine g_region ?_
| (refine o_go rfl ?_; (first
| refine p_p (ps_index rfl rfl rfl (by omega) hq (by exact rfl)) ?_
| refine p_e rfl (e_callR rfl rfl (by (repeat (first | refine ⟨PV.le_refl _, ?_⟩ | refine ⟨PV.le_nn _ _ _, ?_⟩ | refine ⟨PV.le_nil _, ?_⟩ | refine ⟨PV.le_any _, ?_⟩)); exact trivial) rfl (h1)) ?_
| refine p_p (ps_index_sg rfl rfl rfl rfl (by omega) (by rw [hll]; omega)) ?_
| refine p_e (by kernel_rfl) (e_store_sg rfl rfl rfl rfl (by rw [hll]) hm rfl rfl rfl (one_all (fun _ => rfl) _) rfl) ?_
| refine p_p (ps_move rfl) ?_
| refine p_p (ps_assign rfl) ?_
| refine p_p (ps_load_agg rfl rfl (by exact Nat.le_of_ble_eq_true rfl)) ?_
| refine p_p (ps_lenM rfl rfl rfl) ?_
| refine p_p (ps_lss rfl rfl rfl) ?_
| refine p_p (ps_add rfl rfl rfl (by constructor <;> omega)) ?_); refine ⟨_, (by dsimp only [bitvec_to_nat, Nat.reduceAdd, Nat.reduceMul, Nat.reduceBEq, reduceCtorEq, posI, optP, lendM1, lendMA, lendMP, killM1, killMA, killMP, hasI, getO, backM1, backMA, backMP, putL, inpM, pinM1, pinMA, pinMP, killR1, killRA, killR]), ?_⟩)
| refine o_nil ?_
| (refine g_condD rfl (fun hc => ?_) (fun hc => ?_) <;> try (exfalso; omega))
| refine g_skip ?_)
    all_goals try (exfalso; omega)
    refine k_round (k + 1) (by omega) (by omega) (by repeat (first | exact trivial | refine ⟨.inl rfl, ?_⟩ | refine ⟨.inr rfl, ?_⟩)) ⟨rfl, trivial⟩ (hpLe_cons ?_ (hpLe_nil _))
    rw [htk, List.map_append]; rfl
  · repeat' (first
| refine g_seq ?_
| refine g_region ?_
| (refine o_go rfl ?_; (first
| refine p_p (ps_move rfl) ?_
| refine p_p (ps_assign rfl) ?_
| refine p_p (ps_lenM rfl rfl rfl) ?_
| refine p_p (ps_lss rfl rfl rfl) ?_); refine ⟨_, (by dsimp only [bitvec_to_nat, Nat.reduceAdd, Nat.reduceMul, Nat.reduceBEq, reduceCtorEq, posI, optP, lendM1, lendMA, lendMP, killM1, killMA, killMP, hasI, getO, backM1, backMA, backMP, putL, inpM, pinM1, pinMA, pinMP, killR1, killRA, killR]), ?_⟩)
| refine o_nil ?_
| (refine g_condD rfl (fun hc => ?_) (fun hc => ?_) <;> try (exfalso; omega))
| refine g_exit ?_
| refine g_ret ?_)
    all_goals try (exfalso; omega)
    obtain rfl : k = L.length := by omega
    refine krr 0 rfl (HandOut.sg rfl ?_ (Nat.sub_self _) (sc_maps (fun _ => rfl) _))
    rw [List.take_of_length_le (by simp)]
set_option maxHeartbeats 1000000 in
set_option maxRecDepth 100000 in
theorem toAlg_R (n : Int) (L : List OpD) (hl : szOk L) : RCalls Try.prog 10 [algP n L] (sgI (rowsO L)) (.agg [I n, .hp 0]) := by
  refine pcallsRCv Try.func10 rfl Try.ntmps10 rfl ?_
  simp only [List.length_cons, List.length_nil, Nat.reduceAdd, Nat.reduceSub, List.replicate_succ, List.replicate_zero, List.cons_append, List.nil_append]
  have h1 := toOpS_R L hl
  repeat' (first
| refine g_seq ?_
| refine g_region ?_
| (refine o_go rfl ?_; (first
| refine p_e rfl (e_callR rfl rfl (by (repeat (first | refine ⟨PV.le_refl _, ?_⟩ | refine ⟨PV.le_nn _ _ _, ?_⟩ | refine ⟨PV.le_nil _, ?_⟩ | refine ⟨PV.le_any _, ?_⟩)); exact trivial) rfl (h1)) ?_
| refine p_p (ps_load_cell rfl rfl) ?_
| refine p_p (ps_fieldAddr rfl rfl) ?_
| refine p_p (ps_load_boxA rfl rfl rfl (by exact Nat.le_of_ble_eq_true rfl)) ?_
| refine p_p (ps_fieldAddr_hat rfl rfl) ?_
| refine p_e rfl (e_store_boxC rfl rfl rfl rfl (by exact Nat.le_of_ble_eq_true rfl) rfl rfl) ?_
| refine p_e rfl (e_store_boxA rfl rfl rfl rfl (by exact Nat.le_of_ble_eq_true rfl) rfl rfl rfl) ?_
| refine p_e rfl (e_alloc rfl) ?_
| refine p_p (ps_box rfl rfl) ?_); refine ⟨_, (by dsimp only [bitvec_to_nat, Nat.reduceAdd, Nat.reduceMul, Nat.reduceBEq, reduceCtorEq, posI, optP, lendM1, lendMA, lendMP, killM1, killMA, killMP, hasI, getO, backM1, backMA, backMP, putL, inpM, pinM1, pinMA, pinMP, killR1, killRA, killR]), ?_⟩)
| refine o_nil ?_
| refine g_ret ?_)
  exact krrcv 2 0 rfl rfl (HandOut.sg rfl rfl rfl (sc_maps (fun _ => rfl) _))
set_option maxHeartbeats 2000000 in
set_option maxRecDepth 100000 in
theorem markOpS_L (rows : List (List Int)) (k : Int) (hne : ∀ r ∈ rows, r ≠ []) (hok : okP rows) (h0 : 0 ≤ k) (h1 : k + (tot rows : Int) ≤ 1099511627776) :
    LCalls Try.prog 25 (sgI rows) [.hp 0, I k] (sgI (marksS k rows)) (I (k + (tot rows : Int))) := by
  refine pcallsL1 Try.func25 rfl Try.ntmps25 rfl rfl rfl (by simp) fun b d => ?_
  simp only [List.length_cons, List.length_nil, Nat.reduceAdd, Nat.reduceSub, List.replicate_succ, List.replicate_zero]
  have hl := hok.1
  repeat' (first
| refine g_seq ?_
| refine g_block ?_
| refine g_region ?_
| (refine o_go rfl ?_; (first
| refine p_p (ps_assign rfl) ?_); refine ⟨_, (by dsimp only [bitvec_to_nat, Nat.reduceAdd, Nat.reduceMul, Nat.reduceBEq, reduceCtorEq, posI, optP, lendM1, lendMA, lendMP, killM1, killMA, killMP, hasI, getO, backM1, backMA, backMP, putL, inpM, pinM1, pinMA, pinMP, killR1, killRA, killR]), ?_⟩)
| refine o_nil ?_)
  refine g_loopT (α := Nat) (fun i => [(1, I (k + (tot (rows.take i) : Int))), (5, I (i : Int))]) (fun i => [sgI (marksS k (rows.take i) ++ rows.drop i)]) (fun i => i ≤ rows.length) (fun i => rows.length - i) 0 (by simp only [havoc, dsts, List.filterMap_cons, List.filterMap_nil, List.foldl_cons, List.foldl_nil, List.cons_append, List.nil_append, List.append_nil, List.set_cons_succ, List.set_cons_zero]; exact rfl) (Nat.zero_le _) ⟨by simp [tot], rfl, trivial⟩ rfl ?_
  rintro i hi
  dsimp only [setMany, List.set_cons_zero, List.set_cons_succ]
  have hml := length_marksS k (rows.take i)
  have hll : ((marksS k (rows.take i) ++ rows.drop i).map fun r => r.map I).length = rows.length := by simp [hml]; omega
  have htl := tot_take_le rows i
  by_cases hir : i < rows.length
  · have hrow := hok.row i
    have hat : ((marksS k (rows.take i) ++ rows.drop i).map fun r => r.map I)[i]? = some ((rows.getD i []).map I) := by rw [idx_gridI (by simp [hml]; omega), marksS_at (by omega)]
    have hset := marksS_set (k := k) hir
    have htt := tot_take hir
    have htl' := tot_take_le rows (i + 1)
    have hnei : rows.getD i [] ≠ [] := hne _ (by rw [List.getD_eq_getElem?_getD, List.getElem?_eq_getElem hir]; exact List.getElem_mem _)
    generalize hr : rows.getD i [] = r at *
    cases r with
    | nil => exact absurd rfl hnei
    | cons a r =>
      rw [List.length_cons] at htt hrow hset
      have hmk := markIntS_L r (k + (tot (rows.take i) : Int) + 1) (by omega) (by omega) (by omega)
      repeat' (first
| refine g_seq ?_
| refine g_block ?_
| refine g_region ?_
| (refine o_go rfl ?_; (first
| refine p_p (ps_unv (ps_len_sg rfl rfl rfl rfl)) ?_
| refine p_p (ps_unv (ps_index_sg rfl rfl rfl rfl (by omega) (by rw [n_toNat]; omega))) ?_
| refine p_e (by kernel_rfl) (e_store_sg0 rfl rfl rfl rfl rfl (by exact hat) rfl rfl) ?_
| refine p_p (ps_unv (ps_index_sg rfl rfl rfl rfl (by omega) (by rw [List.length_set, n_toNat]; omega))) ?_
| refine p_p (ps_load_sg rfl rfl rfl rfl (by rw [List.length_set]; omega)) ?_
| refine p_e (by kernel_rfl) (e_callLsg rfl rfl rfl rfl rfl (by exact List.getElem?_set_self (by omega)) (by exact argsLe_refl _) (one_all (fun _ => rfl) _) (by simp [length_marks]) hmk (by intro p hp g ρ hp' v hv; exact .of_VR hv)) ?_
| refine p_p (ps_move rfl) ?_
| refine p_p (ps_assign rfl) ?_
| refine p_p (ps_lss rfl rfl rfl) ?_
| refine p_p (ps_add rfl rfl rfl (by constructor <;> omega)) ?_
| refine p_p (ps_fieldAddr_hat rfl rfl) ?_); refine ⟨_, (by dsimp only [bitvec_to_nat, Nat.reduceAdd, Nat.reduceMul, Nat.reduceBEq, reduceCtorEq, posI, optP, lendM1, lendMA, lendMP, killM1, killMA, killMP, hasI, getO, backM1, backMA, backMP, putL, inpM, pinM1, pinMA, pinMP, killR1, killRA, killR]), ?_⟩)
| refine o_nil ?_
| (refine g_condD rfl (fun hc => ?_) (fun hc => ?_) <;> try (exfalso; omega))
| refine g_skip ?_)
      refine k_round (i + 1) (by omega) (by omega) (by repeat (first | exact trivial | refine ⟨.inl rfl, ?_⟩ | refine ⟨.inr rfl, ?_⟩)) ⟨vI (by omega), rfl, trivial⟩ (hpLe_cons ?_ (hpLe_nil _))
      refine congrArg (HO.sg 60 3 0) ?_
      rw [← hset, marks_cons, List.map_set, List.set_set]; rfl
  · repeat' (first
| refine g_seq ?_
| refine g_region ?_
| (refine o_go rfl ?_; (first
| refine p_p (ps_unv (ps_len_sg rfl rfl rfl rfl)) ?_
| refine p_p (ps_move rfl) ?_
| refine p_p (ps_assign rfl) ?_
| refine p_p (ps_lss rfl rfl rfl) ?_); refine ⟨_, (by dsimp only [bitvec_to_nat, Nat.reduceAdd, Nat.reduceMul, Nat.reduceBEq, reduceCtorEq, posI, optP, lendM1, lendMA, lendMP, killM1, killMA, killMP, hasI, getO, backM1, backMA, backMP, putL, inpM, pinM1, pinMA, pinMP, killR1, killRA, killR]), ?_⟩)
| refine o_nil ?_
| (refine g_condD rfl (fun hc => ?_) (fun hc => ?_) <;> try (exfalso; omega))
| refine g_exit ?_
| refine g_ret ?_)
    all_goals try (exfalso; omega)
    have hin : i = rows.length := by omega
    subst hin
    refine krl 0 rfl ?_ rfl (krI rfl ?_)
    · rw [List.drop_length, List.append_nil, List.take_length]
    · rw [List.take_length]
set_option maxHeartbeats 1000000 in
set_option maxRecDepth 100000 in
theorem markAlg_L (n : Int) (rows : List (List Int)) (k : Int) (hne : ∀ r ∈ rows, r ≠ []) (hok : okP rows) (h0 : 0 ≤ k) (h1 : k + (tot rows : Int) ≤ 1099511627776) :
    LCalls Try.prog 18 (sgI rows) [.agg [I n, .hp 0], I k] (sgI (marksS k rows)) (I (k + (tot rows : Int))) := by
  refine pcallsL1 Try.func18 rfl Try.ntmps18 rfl rfl rfl (by simp) fun b d => ?_
  simp only [List.length_cons, List.length_nil, Nat.reduceAdd, Nat.reduceSub, List.replicate_succ, List.replicate_zero]
  repeat' (first
| refine g_seq ?_
| refine g_region ?_
| (refine o_go rfl ?_; (first
| refine p_e rfl (e_box rfl rfl) ?_
| refine p_e rfl (e_callL (n := 0) rfl rfl rfl (by (repeat (first | refine ⟨leS_refl _, ?_⟩ | refine ⟨leS_nn _ _ _, ?_⟩ | refine ⟨leS_nil _, ?_⟩ | refine ⟨leS_any _, ?_⟩)); exact trivial) rfl rfl (by exact ⟨rfl, rfl, rfl, by simp [length_marksS]⟩) (markOpS_L rows k hne hok h0 h1)) ?_
| refine p_p (ps_move rfl) ?_
| refine p_p (ps_assign rfl) ?_
| refine p_p (ps_load_box rfl rfl rfl rfl) ?_
| refine p_p (ps_fieldAddr_hat rfl rfl) ?_); refine ⟨_, (by dsimp only [bitvec_to_nat, Nat.reduceAdd, Nat.reduceMul, Nat.reduceBEq, reduceCtorEq, posI, optP, lendM1, lendMA, lendMP, killM1, killMA, killMP, hasI, getO, backM1, backMA, backMP, putL, inpM, pinM1, pinMA, pinMP, killR1, killRA, killR]), ?_⟩)
| refine o_nil ?_
| refine g_ret ?_)
  exact krl 6 rfl rfl rfl (krI rfl rfl)
end Go.Proofs.Ytogfibhhfimbjaa
