/- Walks: the laws' helpers for operations and algebras. -/
import Derived.Test.YtogfibhhfimbjaaDAq
import Derived.Test.YtogfibhhfimbjaaDGm
namespace Go.Proofs.Ytogfibhhfimbjaa
open Go Go.Pv Go.Proofs
attribute [local bitvec_to_nat] St.put St.setObj St.ev killP killA killP1 killH mapHO renP renA ren1 killG killGA killG1 krowP krowA krow1 lendP lendA lend1 unv pinP pin1 elemsM viewM viewN viewV n_set_z n_set_s n_map_c n_map_n getD_z getD_s n_toNat n_cond_t n_cond_f n_len_c n_len_n n_app_c n_app_n n_take_s n_take_z n_drop_s n_drop_z n_get_z n_get_s view viewA view1 elems Nat.zero_add Nat.add_zero Bool.not_true Bool.not_false Nat.one_ne_zero Nat.mul_one

theorem ops_at {L : List OpD} {i : Nat} (h : i < L.length) : (L.map opP)[((i : Nat) : Int).toNat]? = some (opP (L.getD i default)) := by
  rw [Int.toNat_natCast, List.getElem?_map, List.getElem?_eq_getElem h, List.getD_eq_getElem?_getD, List.getElem?_eq_getElem h]; rfl
theorem ops_mem {L : List OpD} {i : Nat} (h : i < L.length) : L.getD i default ∈ L := by
  rw [List.getD_eq_getElem?_getD, List.getElem?_eq_getElem h]; exact List.getElem_mem h
set_option maxHeartbeats 1000000 in
set_option maxRecDepth 100000 in
theorem szOp_c (f : OpD) (left : Int) (hl : f.tb.length ≤ 9223372036854775807) (h0 : 0 ≤ left) (h1 : left ≤ 1048576) : PCalls Try.prog 27 [opP f, I left] (I (szL f.tb.length left)) := by
  refine pcalls1 Try.func27 rfl Try.ntmps27 rfl ?_
  simp only [List.length_cons, List.length_nil, Nat.reduceAdd, Nat.reduceSub, List.replicate_succ, List.replicate_zero, List.cons_append, List.nil_append]
  have hz := szIntS_c f.tb left hl h0 h1
  repeat' (first
| refine g_seq ?_
| refine g_region ?_
| (refine o_go rfl ?_; (first
| refine p_p (ps_call rfl rfl (by (repeat (first | refine ⟨PV.le_refl _, ?_⟩ | refine ⟨PV.le_nn _ _ _, ?_⟩ | refine ⟨PV.le_nil _, ?_⟩ | refine ⟨PV.le_any _, ?_⟩)); exact trivial) (hz)) ?_
| refine p_p (ps_move rfl) ?_
| refine p_p (ps_assign rfl) ?_
| refine p_p (ps_load_cell rfl rfl) ?_
| refine p_p (ps_lss rfl rfl rfl) ?_
| refine p_p (ps_fieldAddr rfl rfl) ?_
| refine p_p (ps_box rfl rfl) ?_); refine ⟨_, (by dsimp only [bitvec_to_nat, Nat.reduceAdd, Nat.reduceMul, Nat.reduceBEq, reduceCtorEq, posI, optP, lendM1, lendMA, lendMP, killM1, killMA, killMP, hasI, getO, backM1, backMA, backMP, putL, inpM, pinM1, pinMA, pinMP]), ?_⟩)
| refine o_nil ?_
| (refine g_condD rfl (fun hc => ?_) (fun hc => ?_) <;> try (exfalso; omega))
| refine kr1 ?_
| refine krI rfl ?_
| refine g_skip ?_
| refine g_ret ?_)
  all_goals try (exfalso; omega)
  · unfold szL at hc ⊢; split at hc <;> first | omega | (rw [if_pos (by omega)]) | rfl
  · rfl
set_option maxHeartbeats 2000000 in
set_option maxRecDepth 100000 in
theorem szOpS_c (L : List OpD) (left : Int) (hl : L.length ≤ 9223372036854775807) (hr : ∀ f ∈ L, f.tb.length ≤ 9223372036854775807) (h0 : 0 ≤ left) (h1 : left ≤ 1048576) :
    PCalls Try.prog 8 [opsP L, I left] (I (szSS (tbsL L) left)) := by
  refine pcalls1 Try.func8 rfl Try.ntmps8 rfl ?_
  simp only [List.length_cons, List.length_nil, Nat.reduceAdd, Nat.reduceSub, List.replicate_succ, List.replicate_zero, List.cons_append, List.nil_append]
  have hll : (tbsL L).length = L.length := List.length_map _
  have hl0 : szSS (tbsL L) left = if left - (L.length : Int) < 0 then -1 else szLL (tbsL L) (left - L.length) := by unfold szSS; rw [hll]
  rw [hl0]
  clear hl0
  by_cases hc0 : left - (L.length : Int) < 0
  · rw [if_pos hc0]
    repeat' (first
| refine g_seq ?_
| refine g_region ?_
| (refine o_go rfl ?_; (first
| refine p_p (ps_move rfl) ?_
| refine p_p (ps_assign rfl) ?_
| refine p_p (ps_lenM rfl rfl rfl) ?_
| refine p_p (ps_lss rfl rfl rfl) ?_
| refine p_p (ps_sub rfl rfl rfl (by constructor <;> omega)) ?_); refine ⟨_, (by dsimp only [bitvec_to_nat, Nat.reduceAdd, Nat.reduceMul, Nat.reduceBEq, reduceCtorEq, posI, optP, lendM1, lendMA, lendMP, killM1, killMA, killMP, hasI, getO, backM1, backMA, backMP, putL, inpM, pinM1, pinMA, pinMP]), ?_⟩)
| refine o_nil ?_
| (refine g_condD rfl (fun hc => ?_) (fun hc => ?_) <;> try (exfalso; omega))
| refine kr1 ?_
| refine krI rfl ?_
| refine g_ret ?_)
    all_goals first | rfl | (exfalso; omega)
  rw [if_neg hc0]
  repeat' (first
| refine g_seq ?_
| refine g_block ?_
| refine g_region ?_
| (refine o_go rfl ?_; (first
| refine p_p (ps_move rfl) ?_
| refine p_p (ps_assign rfl) ?_
| refine p_p (ps_lenM rfl rfl rfl) ?_
| refine p_p (ps_lss rfl rfl rfl) ?_
| refine p_p (ps_sub rfl rfl rfl (by constructor <;> omega)) ?_); refine ⟨_, (by dsimp only [bitvec_to_nat, Nat.reduceAdd, Nat.reduceMul, Nat.reduceBEq, reduceCtorEq, posI, optP, lendM1, lendMA, lendMP, killM1, killMA, killMP, hasI, getO, backM1, backMA, backMP, putL, inpM, pinM1, pinMA, pinMP]), ?_⟩)
| refine o_nil ?_
| (refine g_condD rfl (fun hc => ?_) (fun hc => ?_) <;> try (exfalso; omega))
| refine g_skip ?_)
  all_goals try (exfalso; omega)
  refine g_loopT (α := Nat × Int) (fun x => [(1, I x.2), (5, I x.1)]) (fun _ => []) (fun x => x.1 ≤ L.length ∧ 0 ≤ x.2 ∧ x.2 ≤ 1048576 ∧ szLL ((tbsL L).drop x.1) x.2 = szLL (tbsL L) (left - L.length)) (fun x => L.length - x.1) (0, left - L.length) (by simp only [havoc, dsts, List.filterMap_cons, List.filterMap_nil, List.foldl_cons, List.foldl_nil, List.cons_append, List.nil_append, List.append_nil, List.set_cons_succ, List.set_cons_zero]; exact rfl)
    ⟨Nat.zero_le _, by dsimp only; omega, by dsimp only; omega, rfl⟩ ⟨rfl, rfl, trivial⟩ rfl ?_
  rintro ⟨k, l⟩ ⟨hk, hl0, hl1, hsz⟩
  dsimp only at hk hl0 hl1 hsz
  dsimp only [setMany, List.set_cons_zero, List.set_cons_succ]
  by_cases hkl : k < L.length
  · have hq := ops_at hkl
    have hz := szOp_c (L.getD k default) l (hr _ (ops_mem hkl)) hl0 hl1
    have hdr : (tbsL L).drop k = (L.getD k default).tb :: (tbsL L).drop (k + 1) := by
      rw [drop_cons' [] (by omega)]; congr 1
      simp [List.getD_eq_getElem?_getD, List.getElem?_map, List.getElem?_eq_getElem hkl]
    rw [hdr, szLL] at hsz
    generalize L.getD k default = f at *
    by_cases hneg : szL f.tb.length l < 0
    · rw [if_pos hneg] at hsz
      repeat' (first
| refine g_seq ?_
| refine g_block ?_
| refine g_region ?_
| (refine o_go rfl ?_; (first
| refine p_p (ps_index rfl rfl rfl (by omega) hq (by exact rfl)) ?_
| refine p_p (ps_call rfl rfl (by (repeat (first | refine ⟨PV.le_refl _, ?_⟩ | refine ⟨PV.le_nn _ _ _, ?_⟩ | refine ⟨PV.le_nil _, ?_⟩ | refine ⟨PV.le_any _, ?_⟩)); exact trivial) (hz)) ?_
| refine p_p (ps_move rfl) ?_
| refine p_p (ps_assign rfl) ?_
| refine p_p (ps_load_agg rfl rfl (by exact Nat.le_of_ble_eq_true rfl)) ?_
| refine p_p (ps_lenM rfl rfl rfl) ?_
| refine p_p (ps_lss rfl rfl rfl) ?_); refine ⟨_, (by dsimp only [bitvec_to_nat, Nat.reduceAdd, Nat.reduceMul, Nat.reduceBEq, reduceCtorEq, posI, optP, lendM1, lendMA, lendMP, killM1, killMA, killMP, hasI, getO, backM1, backMA, backMP, putL, inpM, pinM1, pinMA, pinMP]), ?_⟩)
| refine o_nil ?_
| (refine g_condD rfl (fun hc => ?_) (fun hc => ?_) <;> try (exfalso; omega))
| refine kr1 ?_
| refine krI rfl ?_
| refine g_skip ?_
| refine g_ret ?_)
      all_goals try (exfalso; omega)
      exact hsz
    · rw [if_neg hneg] at hsz
      have hb := szL_le hneg hl1
      repeat' (first
| refine g_seq ?_
| refine g_block ?_
| refine g_region ?_
| (refine o_go rfl ?_; (first
| refine p_p (ps_index rfl rfl rfl (by omega) hq (by exact rfl)) ?_
| refine p_p (ps_call rfl rfl (by (repeat (first | refine ⟨PV.le_refl _, ?_⟩ | refine ⟨PV.le_nn _ _ _, ?_⟩ | refine ⟨PV.le_nil _, ?_⟩ | refine ⟨PV.le_any _, ?_⟩)); exact trivial) (hz)) ?_
| refine p_p (ps_move rfl) ?_
| refine p_p (ps_assign rfl) ?_
| refine p_p (ps_load_agg rfl rfl (by exact Nat.le_of_ble_eq_true rfl)) ?_
| refine p_p (ps_lenM rfl rfl rfl) ?_
| refine p_p (ps_lss rfl rfl rfl) ?_
| refine p_p (ps_add rfl rfl rfl (by constructor <;> omega)) ?_); refine ⟨_, (by dsimp only [bitvec_to_nat, Nat.reduceAdd, Nat.reduceMul, Nat.reduceBEq, reduceCtorEq, posI, optP, lendM1, lendMA, lendMP, killM1, killMA, killMP, hasI, getO, backM1, backMA, backMP, putL, inpM, pinM1, pinMA, pinMP]), ?_⟩)
| refine o_nil ?_
| (refine g_condD rfl (fun hc => ?_) (fun hc => ?_) <;> try (exfalso; omega))
| refine g_skip ?_)
      all_goals try (exfalso; omega)
      exact k_round (k + 1, szL f.tb.length l) ⟨by dsimp only; omega, hb.1, hb.2, hsz⟩ (by dsimp only; omega) (by repeat (first | exact trivial | refine ⟨.inl rfl, ?_⟩ | refine ⟨.inr rfl, ?_⟩)) ⟨rfl, rfl, trivial⟩ (hpLe_nil _)
  · repeat' (first
| refine g_seq ?_
| refine g_region ?_
| (refine o_go rfl ?_; (first
| refine p_p (ps_move rfl) ?_
| refine p_p (ps_assign rfl) ?_
| refine p_p (ps_lenM rfl rfl rfl) ?_
| refine p_p (ps_lss rfl rfl rfl) ?_); refine ⟨_, (by dsimp only [bitvec_to_nat, Nat.reduceAdd, Nat.reduceMul, Nat.reduceBEq, reduceCtorEq, posI, optP, lendM1, lendMA, lendMP, killM1, killMA, killMP, hasI, getO, backM1, backMA, backMP, putL, inpM, pinM1, pinMA, pinMP]), ?_⟩)
| refine o_nil ?_
| (refine g_condD rfl (fun hc => ?_) (fun hc => ?_) <;> try (exfalso; omega))
| refine kr1 ?_
| refine krI rfl ?_
| refine g_exit ?_
| refine g_ret ?_)
    all_goals try (exfalso; omega)
    rw [List.drop_eq_nil_of_le (by omega), szLL] at hsz
    exact hsz
set_option maxHeartbeats 1000000 in
set_option maxRecDepth 100000 in
theorem szAlg_c (n : Int) (L : List OpD) (left : Int) (hl : L.length ≤ 9223372036854775807) (hr : ∀ f ∈ L, f.tb.length ≤ 9223372036854775807) (h0 : 0 ≤ left) (h1 : left ≤ 1048576) :
    PCalls Try.prog 7 [algP n L, I left] (I (if szSS (tbsL L) left < 0 then -1 else szSS (tbsL L) left)) := by
  refine pcalls1 Try.func7 rfl Try.ntmps7 rfl ?_
  simp only [List.length_cons, List.length_nil, Nat.reduceAdd, Nat.reduceSub, List.replicate_succ, List.replicate_zero, List.cons_append, List.nil_append]
  have hz := szOpS_c L left hl hr h0 h1
  repeat' (first
| refine g_seq ?_
| refine g_region ?_
| (refine o_go rfl ?_; (first
| refine p_p (ps_call rfl rfl (by (repeat (first | refine ⟨PV.le_refl _, ?_⟩ | refine ⟨PV.le_nn _ _ _, ?_⟩ | refine ⟨PV.le_nil _, ?_⟩ | refine ⟨PV.le_any _, ?_⟩)); exact trivial) (hz)) ?_
| refine p_p (ps_move rfl) ?_
| refine p_p (ps_assign rfl) ?_
| refine p_p (ps_load_cell rfl rfl) ?_
| refine p_p (ps_lss rfl rfl rfl) ?_
| refine p_p (ps_fieldAddr rfl rfl) ?_
| refine p_p (ps_box rfl rfl) ?_); refine ⟨_, (by dsimp only [bitvec_to_nat, Nat.reduceAdd, Nat.reduceMul, Nat.reduceBEq, reduceCtorEq, posI, optP, lendM1, lendMA, lendMP, killM1, killMA, killMP, hasI, getO, backM1, backMA, backMP, putL, inpM, pinM1, pinMA, pinMP]), ?_⟩)
| refine o_nil ?_
| (refine g_condD rfl (fun hc => ?_) (fun hc => ?_) <;> try (exfalso; omega))
| refine kr1 ?_
| refine krI rfl ?_
| refine g_skip ?_
| refine g_ret ?_)
  all_goals try (exfalso; omega)
  · rw [if_pos hc]
  · rw [if_neg hc]
set_option maxHeartbeats 1000000 in
set_option maxRecDepth 100000 in
theorem toOp_c (f : OpD) (hl : f.tb.length ≤ 1048576) : PCalls Try.prog 35 [opP f] (opP f) := by
  refine pcallsC Try.func35 rfl Try.ntmps35 rfl ?_
  simp only [List.length_cons, List.length_nil, Nat.reduceAdd, Nat.reduceSub, List.replicate_succ, List.replicate_zero, List.cons_append, List.nil_append]
  have h1 := toIntS_c f.tb hl
  repeat' (first
| refine g_seq ?_
| refine g_region ?_
| (refine o_go rfl ?_; (first
| refine p_p (ps_call rfl rfl (by (repeat (first | refine ⟨PV.le_refl _, ?_⟩ | refine ⟨PV.le_nn _ _ _, ?_⟩ | refine ⟨PV.le_nil _, ?_⟩ | refine ⟨PV.le_any _, ?_⟩)); exact trivial) (h1)) ?_
| refine p_p (ps_load_cell rfl rfl) ?_
| refine p_p (ps_fieldAddr rfl rfl) ?_
| refine p_p (ps_load_boxA rfl rfl rfl (by exact Nat.le_of_ble_eq_true rfl)) ?_
| refine p_p (ps_fieldAddr_hat rfl rfl) ?_
| refine p_e rfl (e_store_boxC rfl rfl rfl rfl (by exact Nat.le_of_ble_eq_true rfl) rfl rfl) ?_
| refine p_e rfl (e_store_boxA rfl rfl rfl rfl (by exact Nat.le_of_ble_eq_true rfl) rfl rfl rfl) ?_
| refine p_e rfl (e_alloc rfl) ?_
| refine p_p (ps_box rfl rfl) ?_); refine ⟨_, (by dsimp only [bitvec_to_nat, Nat.reduceAdd, Nat.reduceMul, Nat.reduceBEq, reduceCtorEq, posI, optP, lendM1, lendMA, lendMP, killM1, killMA, killMP, hasI, getO, backM1, backMA, backMP, putL, inpM, pinM1, pinMA, pinMP]), ?_⟩)
| refine o_nil ?_
| refine krc ?_
| refine krC rfl (by exact Nat.le_of_ble_eq_true rfl) ?_
| refine g_ret ?_)
  all_goals rfl
theorem ops_fill {L : List OpD} {i : Nat} (h : i < L.length) : ((L.map opP).take i ++ List.replicate (L.length - i) (PV.agg [I 0, nilV])).set i (opP (L.getD i default)) = (L.map opP).take (i + 1) ++ List.replicate (L.length - (i + 1)) (PV.agg [I 0, nilV]) := by
  have := set_fill' (l := L.map opP) (n := L.length) (k := i) (PV.agg [I 0, nilV]) (by simp) (ops_at h)
  exact this
set_option maxHeartbeats 2000000 in
set_option maxRecDepth 100000 in
theorem toOpS_c (L : List OpD) (hl : szOk L) : PCalls Try.prog 11 [opsP L] (opsP L) := by
  refine pcalls1 Try.func11 rfl Try.ntmps11 rfl ?_
  simp only [List.length_cons, List.length_nil, Nat.reduceAdd, Nat.reduceSub, List.replicate_succ, List.replicate_zero, List.cons_append, List.nil_append]
  have hl1 := hl.1
  repeat' (first
| refine g_seq ?_
| refine g_block ?_
| refine g_region ?_
| (refine o_go rfl ?_; (first
| refine p_e rfl (e_make (zp := .agg [I 0, nilV]) rfl rfl rfl (by omega) (by omega) (by omega) (by decide) (by rfl) (by rfl)) ?_
| refine p_p (ps_move rfl) ?_
| refine p_p (ps_assign rfl) ?_
| refine p_p (ps_lenM rfl rfl rfl) ?_); refine ⟨_, (by dsimp only [bitvec_to_nat, Nat.reduceAdd, Nat.reduceMul, Nat.reduceBEq, reduceCtorEq, posI, optP, lendM1, lendMA, lendMP, killM1, killMA, killMP, hasI, getO, backM1, backMA, backMP, putL, inpM, pinM1, pinMA, pinMP]), ?_⟩)
| refine o_nil ?_)
  refine g_loopT (α := Nat) (fun k => [(4, I k)]) (fun k => [.arr true 2 60 ((L.map opP).take k ++ List.replicate (L.length - k) (PV.agg [I 0, nilV]))]) (fun k => k ≤ L.length) (fun k => L.length - k) 0 (by simp only [havoc, dsts, List.filterMap_cons, List.filterMap_nil, List.foldl_cons, List.foldl_nil, List.cons_append, List.nil_append, List.append_nil, List.set_cons_succ, List.set_cons_zero]; exact rfl) (Nat.zero_le _) ⟨rfl, trivial⟩ (by simp) ?_
  rintro k hk
  dsimp only [setMany, List.set_cons_zero, List.set_cons_succ]
  have hll : ((L.map opP).take k ++ List.replicate (L.length - k) (PV.agg [I 0, nilV])).length = L.length := by simp; omega
  by_cases hkl : k < L.length
  · have hq := ops_at hkl
    have h1 := toOp_c (L.getD k default) (hl.2 _ (ops_mem hkl))
    have hf := ops_fill hkl
    generalize L.getD k default = f at *
    repeat' (first
| refine g_seq ?_
| refine g_block ?_
| refine g_region ?_
| (refine o_go rfl ?_; (first
| refine p_p (ps_index rfl rfl rfl (by omega) hq (by exact rfl)) ?_
| refine p_p (ps_call rfl rfl (by (repeat (first | refine ⟨PV.le_refl _, ?_⟩ | refine ⟨PV.le_nn _ _ _, ?_⟩ | refine ⟨PV.le_nil _, ?_⟩ | refine ⟨PV.le_any _, ?_⟩)); exact trivial) (h1)) ?_
| refine p_p (ps_index_mut rfl rfl rfl rfl (by omega) (by omega)) ?_
| refine p_e (by kernel_rfl) (e_store_arrS rfl rfl rfl rfl rfl (by omega) rfl rfl rfl rfl) ?_
| refine p_p (ps_move rfl) ?_
| refine p_p (ps_assign rfl) ?_
| refine p_p (ps_load_agg rfl rfl (by exact Nat.le_of_ble_eq_true rfl)) ?_
| refine p_p (ps_lenM rfl rfl rfl) ?_
| refine p_p (ps_lss rfl rfl rfl) ?_
| refine p_p (ps_add rfl rfl rfl (by constructor <;> omega)) ?_); refine ⟨_, (by dsimp only [bitvec_to_nat, Nat.reduceAdd, Nat.reduceMul, Nat.reduceBEq, reduceCtorEq, posI, optP, lendM1, lendMA, lendMP, killM1, killMA, killMP, hasI, getO, backM1, backMA, backMP, putL, inpM, pinM1, pinMA, pinMP]), ?_⟩)
| refine o_nil ?_
| (refine g_condD rfl (fun hc => ?_) (fun hc => ?_) <;> try (exfalso; omega))
| refine g_skip ?_)
    all_goals try (exfalso; omega)
    exact k_round (k + 1) (by omega) (by omega) (by repeat (first | exact trivial | refine ⟨.inl rfl, ?_⟩ | refine ⟨.inr rfl, ?_⟩)) ⟨rfl, trivial⟩ (hpLe_cons (by rw [hf]) (hpLe_nil _))
  · repeat' (first
| refine g_seq ?_
| refine g_region ?_
| (refine o_go rfl ?_; (first
| refine p_p (ps_move rfl) ?_
| refine p_p (ps_assign rfl) ?_
| refine p_p (ps_lenM rfl rfl rfl) ?_
| refine p_p (ps_lss rfl rfl rfl) ?_); refine ⟨_, (by dsimp only [bitvec_to_nat, Nat.reduceAdd, Nat.reduceMul, Nat.reduceBEq, reduceCtorEq, posI, optP, lendM1, lendMA, lendMP, killM1, killMA, killMP, hasI, getO, backM1, backMA, backMP, putL, inpM, pinM1, pinMA, pinMP]), ?_⟩)
| refine o_nil ?_
| (refine g_condD rfl (fun hc => ?_) (fun hc => ?_) <;> try (exfalso; omega))
| refine kr1 ?_
| refine krS rfl ?_
| refine g_exit ?_
| refine g_ret ?_)
    all_goals try (exfalso; omega)
    exact fill_full _ (by simp) hk hc
set_option maxHeartbeats 1000000 in
set_option maxRecDepth 100000 in
theorem toAlg_c (n : Int) (L : List OpD) (hl : szOk L) : PCalls Try.prog 10 [algP n L] (algP n L) := by
  refine pcallsC Try.func10 rfl Try.ntmps10 rfl ?_
  simp only [List.length_cons, List.length_nil, Nat.reduceAdd, Nat.reduceSub, List.replicate_succ, List.replicate_zero, List.cons_append, List.nil_append]
  have h1 := toOpS_c L hl
  repeat' (first
| refine g_seq ?_
| refine g_region ?_
| (refine o_go rfl ?_; (first
| refine p_p (ps_call rfl rfl (by (repeat (first | refine ⟨PV.le_refl _, ?_⟩ | refine ⟨PV.le_nn _ _ _, ?_⟩ | refine ⟨PV.le_nil _, ?_⟩ | refine ⟨PV.le_any _, ?_⟩)); exact trivial) (h1)) ?_
| refine p_p (ps_load_cell rfl rfl) ?_
| refine p_p (ps_fieldAddr rfl rfl) ?_
| refine p_p (ps_load_boxA rfl rfl rfl (by exact Nat.le_of_ble_eq_true rfl)) ?_
| refine p_p (ps_fieldAddr_hat rfl rfl) ?_
| refine p_e rfl (e_store_boxC rfl rfl rfl rfl (by exact Nat.le_of_ble_eq_true rfl) rfl rfl) ?_
| refine p_e rfl (e_store_boxA rfl rfl rfl rfl (by exact Nat.le_of_ble_eq_true rfl) rfl rfl rfl) ?_
| refine p_e rfl (e_alloc rfl) ?_
| refine p_p (ps_box rfl rfl) ?_); refine ⟨_, (by dsimp only [bitvec_to_nat, Nat.reduceAdd, Nat.reduceMul, Nat.reduceBEq, reduceCtorEq, posI, optP, lendM1, lendMA, lendMP, killM1, killMA, killMP, hasI, getO, backM1, backMA, backMP, putL, inpM, pinM1, pinMA, pinMP]), ?_⟩)
| refine o_nil ?_
| refine krc ?_
| refine krC rfl (by exact Nat.le_of_ble_eq_true rfl) ?_
| refine g_ret ?_)
  all_goals rfl
set_option maxHeartbeats 1000000 in
set_option maxRecDepth 100000 in
theorem eqOp_c (f g : OpD) (hf : f.tb.length ≤ 9223372036854775807) (hg : g.tb.length ≤ 9223372036854775807) : PCalls Try.prog 38 [opP f, opP g] (B (decide (f = g))) := by
  refine pcalls1 Try.func38 rfl Try.ntmps38 rfl ?_
  simp only [List.length_cons, List.length_nil, Nat.reduceAdd, Nat.reduceSub, List.replicate_succ, List.replicate_zero, List.cons_append, List.nil_append]
  have h1 := eqIntS_c f.tb g.tb hf hg
  obtain ⟨fa, ft⟩ := f
  obtain ⟨ga, gt⟩ := g
  dsimp only at *
  by_cases ha : fa = ga
  · by_cases ht : ft = gt
    · rw [decide_eq_true ht] at h1
      rw [decide_eq_true (by rw [ha, ht])]
      repeat' (first
| refine g_seq ?_
| refine g_region ?_
| (refine o_go rfl ?_; (first
| refine p_p (ps_call rfl rfl (by (repeat (first | refine ⟨PV.le_refl _, ?_⟩ | refine ⟨PV.le_nn _ _ _, ?_⟩ | refine ⟨PV.le_nil _, ?_⟩ | refine ⟨PV.le_any _, ?_⟩)); exact trivial) (h1)) ?_
| refine p_p (ps_assign rfl) ?_
| refine p_p (ps_load_cell rfl rfl) ?_
| refine p_p (ps_fieldAddr rfl rfl) ?_
| refine p_p (ps_not rfl rfl) ?_
| refine p_p (ps_neq rfl rfl rfl) ?_
| refine p_p (ps_box rfl rfl) ?_); refine ⟨_, (by dsimp only [bitvec_to_nat, Nat.reduceAdd, Nat.reduceMul, Nat.reduceBEq, reduceCtorEq, posI, optP, lendM1, lendMA, lendMP, killM1, killMA, killMP, hasI, getO, backM1, backMA, backMP, putL, inpM, pinM1, pinMA, pinMP]), ?_⟩)
| refine o_nil ?_
| refine g_condF rfl ?_
| (refine g_condN rfl (fun hc => ?_) (fun hc => ?_) <;> try (exfalso; omega))
| refine kr1 ?_
| refine krB rfl ?_
| refine g_skip ?_
| refine g_ret ?_)
      all_goals first | rfl | (exfalso; omega)
    · rw [decide_eq_false ht] at h1
      rw [decide_eq_false (by intro e; cases e; exact ht rfl)]
      repeat' (first
| refine g_seq ?_
| refine g_region ?_
| (refine o_go rfl ?_; (first
| refine p_p (ps_call rfl rfl (by (repeat (first | refine ⟨PV.le_refl _, ?_⟩ | refine ⟨PV.le_nn _ _ _, ?_⟩ | refine ⟨PV.le_nil _, ?_⟩ | refine ⟨PV.le_any _, ?_⟩)); exact trivial) (h1)) ?_
| refine p_p (ps_assign rfl) ?_
| refine p_p (ps_load_cell rfl rfl) ?_
| refine p_p (ps_fieldAddr rfl rfl) ?_
| refine p_p (ps_not rfl rfl) ?_
| refine p_p (ps_neq rfl rfl rfl) ?_
| refine p_p (ps_box rfl rfl) ?_); refine ⟨_, (by dsimp only [bitvec_to_nat, Nat.reduceAdd, Nat.reduceMul, Nat.reduceBEq, reduceCtorEq, posI, optP, lendM1, lendMA, lendMP, killM1, killMA, killMP, hasI, getO, backM1, backMA, backMP, putL, inpM, pinM1, pinMA, pinMP]), ?_⟩)
| refine o_nil ?_
| refine g_condT rfl ?_
| (refine g_condN rfl (fun hc => ?_) (fun hc => ?_) <;> try (exfalso; omega))
| refine kr1 ?_
| refine krB rfl ?_
| refine g_skip ?_
| refine g_ret ?_)
      all_goals first | rfl | (exfalso; omega)
  · rw [decide_eq_false (by intro e; cases e; exact ha rfl)]
    repeat' (first
| refine g_seq ?_
| refine g_region ?_
| (refine o_go rfl ?_; (first
| refine p_p (ps_assign rfl) ?_
| refine p_p (ps_load_cell rfl rfl) ?_
| refine p_p (ps_fieldAddr rfl rfl) ?_
| refine p_p (ps_neq rfl rfl rfl) ?_
| refine p_p (ps_box rfl rfl) ?_); refine ⟨_, (by dsimp only [bitvec_to_nat, Nat.reduceAdd, Nat.reduceMul, Nat.reduceBEq, reduceCtorEq, posI, optP, lendM1, lendMA, lendMP, killM1, killMA, killMP, hasI, getO, backM1, backMA, backMP, putL, inpM, pinM1, pinMA, pinMP]), ?_⟩)
| refine o_nil ?_
| (refine g_condN rfl (fun hc => ?_) (fun hc => ?_) <;> try (exfalso; omega))
| refine kr1 ?_
| refine krB rfl ?_
| refine g_ret ?_)
    all_goals first | rfl | (exfalso; omega)
set_option maxHeartbeats 2000000 in
set_option maxRecDepth 100000 in
theorem eqOpS_c (L M : List OpD) (hl : L.length ≤ 9223372036854775807) (hm : M.length ≤ 9223372036854775807) (hr : ∀ f ∈ L, f.tb.length ≤ 9223372036854775807) (hs : ∀ f ∈ M, f.tb.length ≤ 9223372036854775807) : PCalls Try.prog 14 [opsP L, opsP M] (B (decide (L = M))) := by
  refine pcalls1 Try.func14 rfl Try.ntmps14 rfl ?_
  simp only [List.length_cons, List.length_nil, Nat.reduceAdd, Nat.reduceSub, List.replicate_succ, List.replicate_zero, List.cons_append, List.nil_append]
  by_cases hlen : L.length = M.length
  rotate_left
  · rw [decide_eq_false (fun e => hlen (by rw [e]))]
    repeat' (first
| refine g_seq ?_
| refine g_region ?_
| (refine o_go rfl ?_; (first
| refine p_p (ps_move rfl) ?_
| refine p_p (ps_assign rfl) ?_
| refine p_p (ps_lenM rfl rfl rfl) ?_
| refine p_p (ps_neq rfl rfl rfl) ?_); refine ⟨_, (by dsimp only [bitvec_to_nat, Nat.reduceAdd, Nat.reduceMul, Nat.reduceBEq, reduceCtorEq, posI, optP, lendM1, lendMA, lendMP, killM1, killMA, killMP, hasI, getO, backM1, backMA, backMP, putL, inpM, pinM1, pinMA, pinMP]), ?_⟩)
| refine o_nil ?_
| (refine g_condN rfl (fun hc => ?_) (fun hc => ?_) <;> try (exfalso; omega))
| refine kr1 ?_
| refine krB rfl ?_
| refine g_ret ?_)
    all_goals first | rfl | (exfalso; omega)
  repeat' (first
| refine g_seq ?_
| refine g_block ?_
| refine g_region ?_
| (refine o_go rfl ?_; (first
| refine p_p (ps_move rfl) ?_
| refine p_p (ps_assign rfl) ?_
| refine p_p (ps_lenM rfl rfl rfl) ?_
| refine p_p (ps_neq rfl rfl rfl) ?_); refine ⟨_, (by dsimp only [bitvec_to_nat, Nat.reduceAdd, Nat.reduceMul, Nat.reduceBEq, reduceCtorEq, posI, optP, lendM1, lendMA, lendMP, killM1, killMA, killMP, hasI, getO, backM1, backMA, backMP, putL, inpM, pinM1, pinMA, pinMP]), ?_⟩)
| refine o_nil ?_
| (refine g_condN rfl (fun hc => ?_) (fun hc => ?_) <;> try (exfalso; omega))
| refine g_skip ?_)
  all_goals try (exfalso; omega)
  refine g_loopT (α := Nat) (fun k => [(5, I k)]) (fun _ => []) (fun k => k ≤ L.length ∧ L.take k = M.take k) (fun k => L.length - k) 0 (by simp only [havoc, dsts, List.filterMap_cons, List.filterMap_nil, List.foldl_cons, List.foldl_nil, List.cons_append, List.nil_append, List.append_nil, List.set_cons_succ, List.set_cons_zero]; exact rfl) ⟨Nat.zero_le _, by simp⟩ ⟨rfl, trivial⟩ rfl ?_
  rintro k ⟨hk, hno⟩
  dsimp only [setMany, List.set_cons_zero, List.set_cons_succ]
  by_cases hkl : k < L.length
  · have hq := ops_at hkl
    have hq2 := ops_at (L := M) (i := k) (by omega)
    have h1 := eqOp_c (L.getD k default) (M.getD k default) (hr _ (ops_mem hkl)) (hs _ (ops_mem (by omega)))
    by_cases he : L.getD k default = M.getD k default
    · rw [decide_eq_true he] at h1
      repeat' (first
| refine g_seq ?_
| refine g_block ?_
| refine g_region ?_
| refine g_region_draw (by kernel_rfl) (by kernel_rfl) ?_
| (refine o_go rfl ?_; (first
| refine p_p (ps_index rfl rfl rfl (by omega) hq (by exact rfl)) ?_
| refine p_p (ps_index rfl rfl rfl (by omega) hq2 (by exact rfl)) ?_
| refine p_p (ps_call rfl rfl (by (repeat (first | refine ⟨PV.le_refl _, ?_⟩ | refine ⟨PV.le_nn _ _ _, ?_⟩ | refine ⟨PV.le_nil _, ?_⟩ | refine ⟨PV.le_any _, ?_⟩)); exact trivial) (h1)) ?_
| refine p_p (ps_move rfl) ?_
| refine p_p (ps_assign rfl) ?_
| refine p_p (ps_load_agg rfl rfl (by exact Nat.le_of_ble_eq_true rfl)) ?_
| refine p_p (ps_lenM rfl rfl rfl) ?_
| refine p_p (ps_lss rfl rfl rfl) ?_
| refine p_p (ps_add rfl rfl rfl (by constructor <;> omega)) ?_
| refine p_p (ps_not rfl rfl) ?_); refine ⟨_, (by dsimp only [bitvec_to_nat, Nat.reduceAdd, Nat.reduceMul, Nat.reduceBEq, reduceCtorEq, posI, optP, lendM1, lendMA, lendMP, killM1, killMA, killMP, hasI, getO, backM1, backMA, backMP, putL, inpM, pinM1, pinMA, pinMP]), ?_⟩)
| refine o_nil ?_
| refine g_condF rfl ?_
| (refine g_condD rfl (fun hc => ?_) (fun hc => ?_) <;> try (exfalso; omega))
| refine g_skip ?_)
      all_goals try (exfalso; omega)
      exact k_round (k + 1) ⟨by omega, by rw [take_snoc default hkl, take_snoc default (show k < M.length by omega), hno, he]⟩ (by omega) (by repeat (first | exact trivial | refine ⟨.inl rfl, ?_⟩ | refine ⟨.inr rfl, ?_⟩)) ⟨rfl, trivial⟩ (hpLe_nil _)
    · rw [decide_eq_false he] at h1
      repeat' (first
| refine g_seq ?_
| refine g_block ?_
| refine g_region ?_
| refine g_region_draw (by kernel_rfl) (by kernel_rfl) ?_
| (refine o_go rfl ?_; (first
| refine p_p (ps_index rfl rfl rfl (by omega) hq (by exact rfl)) ?_
| refine p_p (ps_index rfl rfl rfl (by omega) hq2 (by exact rfl)) ?_
| refine p_p (ps_call rfl rfl (by (repeat (first | refine ⟨PV.le_refl _, ?_⟩ | refine ⟨PV.le_nn _ _ _, ?_⟩ | refine ⟨PV.le_nil _, ?_⟩ | refine ⟨PV.le_any _, ?_⟩)); exact trivial) (h1)) ?_
| refine p_p (ps_move rfl) ?_
| refine p_p (ps_assign rfl) ?_
| refine p_p (ps_load_agg rfl rfl (by exact Nat.le_of_ble_eq_true rfl)) ?_
| refine p_p (ps_lenM rfl rfl rfl) ?_
| refine p_p (ps_lss rfl rfl rfl) ?_
| refine p_p (ps_not rfl rfl) ?_); refine ⟨_, (by dsimp only [bitvec_to_nat, Nat.reduceAdd, Nat.reduceMul, Nat.reduceBEq, reduceCtorEq, posI, optP, lendM1, lendMA, lendMP, killM1, killMA, killMP, hasI, getO, backM1, backMA, backMP, putL, inpM, pinM1, pinMA, pinMP]), ?_⟩)
| refine o_nil ?_
| refine g_condT rfl ?_
| (refine g_condD rfl (fun hc => ?_) (fun hc => ?_) <;> try (exfalso; omega))
| refine kr1 ?_
| refine krB rfl ?_
| refine g_skip ?_
| refine g_ret ?_)
      all_goals try (exfalso; omega)
      exact Eq.symm (decide_eq_false fun e => he (by rw [e]))
  · rw [List.take_of_length_le (by omega), List.take_of_length_le (by omega)] at hno
    rw [decide_eq_true hno]
    repeat' (first
| refine g_seq ?_
| refine g_region ?_
| (refine o_go rfl ?_; (first
| refine p_p (ps_move rfl) ?_
| refine p_p (ps_assign rfl) ?_
| refine p_p (ps_lenM rfl rfl rfl) ?_
| refine p_p (ps_lss rfl rfl rfl) ?_); refine ⟨_, (by dsimp only [bitvec_to_nat, Nat.reduceAdd, Nat.reduceMul, Nat.reduceBEq, reduceCtorEq, posI, optP, lendM1, lendMA, lendMP, killM1, killMA, killMP, hasI, getO, backM1, backMA, backMP, putL, inpM, pinM1, pinMA, pinMP]), ?_⟩)
| refine o_nil ?_
| (refine g_condD rfl (fun hc => ?_) (fun hc => ?_) <;> try (exfalso; omega))
| refine kr1 ?_
| refine krB rfl ?_
| refine g_exit ?_
| refine g_ret ?_)
    all_goals first | rfl | (exfalso; omega)
set_option maxHeartbeats 1000000 in
set_option maxRecDepth 100000 in
theorem eqAlg_c (n : Int) (L : List OpD) (hl : szOk L) : PCalls Try.prog 13 [algP n L, algP n L] (B true) := by
  refine pcalls1 Try.func13 rfl Try.ntmps13 rfl ?_
  simp only [List.length_cons, List.length_nil, Nat.reduceAdd, Nat.reduceSub, List.replicate_succ, List.replicate_zero, List.cons_append, List.nil_append]
  have hl1 := hl.1
  have h1 := eqOpS_c L L (by omega) (by omega) (fun f hf => Nat.le_trans (hl.2 f hf) (by decide)) (fun f hf => Nat.le_trans (hl.2 f hf) (by decide))
  rw [decide_eq_true rfl] at h1
  repeat' (first
| refine g_seq ?_
| refine g_region ?_
| (refine o_go rfl ?_; (first
| refine p_p (ps_call rfl rfl (by (repeat (first | refine ⟨PV.le_refl _, ?_⟩ | refine ⟨PV.le_nn _ _ _, ?_⟩ | refine ⟨PV.le_nil _, ?_⟩ | refine ⟨PV.le_any _, ?_⟩)); exact trivial) (h1)) ?_
| refine p_p (ps_assign rfl) ?_
| refine p_p (ps_load_cell rfl rfl) ?_
| refine p_p (ps_fieldAddr rfl rfl) ?_
| refine p_p (ps_not rfl rfl) ?_
| refine p_p (ps_neq rfl rfl rfl) ?_
| refine p_p (ps_box rfl rfl) ?_); refine ⟨_, (by dsimp only [bitvec_to_nat, Nat.reduceAdd, Nat.reduceMul, Nat.reduceBEq, reduceCtorEq, posI, optP, lendM1, lendMA, lendMP, killM1, killMA, killMP, hasI, getO, backM1, backMA, backMP, putL, inpM, pinM1, pinMA, pinMP]), ?_⟩)
| refine o_nil ?_
| refine g_condF rfl ?_
| (refine g_condN rfl (fun hc => ?_) (fun hc => ?_) <;> try (exfalso; omega))
| refine kr1 ?_
| refine krB rfl ?_
| refine g_skip ?_
| refine g_ret ?_)
  all_goals first | rfl | (exfalso; simp at *; done)
end Go.Proofs.Ytogfibhhfimbjaa
