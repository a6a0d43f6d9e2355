/- Walks of the laws' own helpers: sizes, copies, comparisons. -/
import Derived.Test.YtmkhciigejodaaaA1
namespace Go.Proofs.Ytmkhciigejodaaa
open Go Go.Pv Go.Proofs

set_option maxRecDepth 100000 in
theorem szIntS_c (xs : List Int) (left : Int) (hl : xs.length ≤ 9223372036854775807) (h0 : 0 ≤ left) (h1 : left ≤ 1048576) : PCalls Try.prog 53 [ints xs, I left] (I (szL xs.length left)) := by
  refine pcalls1 Try.func53 rfl Try.ntmps53 rfl ?_
  simp only [List.length_cons, List.length_nil, Nat.reduceAdd, Nat.reduceSub, List.replicate_succ, List.replicate_zero, List.cons_append, List.nil_append]
  repeat' (first
| refine g_seq ?_
| refine g_region ?_
| (refine o_go rfl ?_; (first
| refine p_p (ps_move rfl) ?_
| refine p_p (ps_assign rfl) ?_
| refine p_p (ps_lenM rfl rfl rfl) ?_
| refine p_p (ps_lss rfl rfl rfl) ?_
| refine p_p (ps_sub rfl rfl rfl (by constructor <;> omega)) ?_); refine ⟨_, (by dsimp only [St.put, St.setObj, St.ev, killP, killA, killP1, killH, mapHO, renP, renA, ren1, killG, killGA, killG1, krowP, krowA, krow1, lendP, lendA, lend1, unv, pinP, pin1, elemsM, viewM, viewN, viewV, n_set_z, n_set_s, n_map_c, n_map_n, getD_z, getD_s, n_toNat, n_cond_t, n_cond_f, n_len_c, n_len_n, n_app_c, n_app_n, n_take_s, n_take_z, n_drop_s, n_drop_z, n_get_z, n_get_s, view, viewA, view1, elems, Nat.reduceAdd, Nat.reduceMul, Nat.zero_add, Nat.add_zero, Nat.reduceBEq, Bool.not_true, Bool.not_false, Nat.one_ne_zero, Nat.mul_one, reduceCtorEq]), ?_⟩)
| refine o_nil ?_
| (refine g_condD rfl (fun hc => ?_) (fun hc => ?_) <;> try (exfalso; omega))
| refine kr1 ?_
| refine krI rfl ?_
| refine g_skip ?_
| refine g_ret ?_)
  · unfold szL; rw [if_pos hc]
  · unfold szL; rw [if_neg hc]

theorem szL_le {n : Nat} {left : Int} (h : ¬ szL n left < 0) (h1 : left ≤ 1048576) : 0 ≤ szL n left ∧ szL n left ≤ 1048576 := by
  unfold szL at *; split at h <;> split <;> omega

set_option maxRecDepth 100000 in
theorem szIntSS_c (rows : List (List Int)) (left : Int) (hl : rows.length ≤ 9223372036854775807) (hr : ∀ r ∈ rows, r.length ≤ 9223372036854775807) (h0 : 0 ≤ left) (h1 : left ≤ 1048576) :
    PCalls Try.prog 28 [intss rows, I left] (I (szSS rows left)) := by
  refine pcalls1 Try.func28 rfl Try.ntmps28 rfl ?_
  simp only [List.length_cons, List.length_nil, Nat.reduceAdd, Nat.reduceSub, List.replicate_succ, List.replicate_zero, List.cons_append, List.nil_append]
  repeat' (first
| refine g_seq ?_
| refine g_block ?_
| refine g_region ?_
| (refine o_go rfl ?_; (first
| refine p_p (ps_move rfl) ?_
| refine p_p (ps_assign rfl) ?_
| refine p_p (ps_lenM rfl rfl rfl) ?_
| refine p_p (ps_lss rfl rfl rfl) ?_
| refine p_p (ps_sub rfl rfl rfl (by constructor <;> omega)) ?_); refine ⟨_, (by dsimp only [St.put, St.setObj, St.ev, killP, killA, killP1, killH, mapHO, renP, renA, ren1, killG, killGA, killG1, krowP, krowA, krow1, lendP, lendA, lend1, unv, pinP, pin1, elemsM, viewM, viewN, viewV, n_set_z, n_set_s, n_map_c, n_map_n, getD_z, getD_s, n_toNat, n_cond_t, n_cond_f, n_len_c, n_len_n, n_app_c, n_app_n, n_take_s, n_take_z, n_drop_s, n_drop_z, n_get_z, n_get_s, view, viewA, view1, elems, Nat.reduceAdd, Nat.reduceMul, Nat.zero_add, Nat.add_zero, Nat.reduceBEq, Bool.not_true, Bool.not_false, Nat.one_ne_zero, Nat.mul_one, reduceCtorEq]), ?_⟩)
| refine o_nil ?_
| (refine g_condD rfl (fun hc => ?_) (fun hc => ?_) <;> try (exfalso; omega))
| refine kr1 ?_
| refine krI rfl ?_
| refine g_skip ?_
| refine g_ret ?_)
  · unfold szSS; rw [if_pos hc]
  refine g_loopT (α := Nat × Int) (fun x => [(1, I x.2), (5, I x.1)]) (fun _ => []) (fun x => x.1 ≤ rows.length ∧ 0 ≤ x.2 ∧ x.2 ≤ 1048576 ∧ szLL (rows.drop x.1) x.2 = szSS rows left) (fun x => rows.length - x.1) (0, left - rows.length) (by simp only [havoc, dsts, List.filterMap_cons, List.filterMap_nil, List.foldl_cons, List.foldl_nil, List.cons_append, List.nil_append, List.append_nil, List.set_cons_succ, List.set_cons_zero]; exact rfl)
    ⟨Nat.zero_le _, by simp; omega, by simp; omega, by unfold szSS; rw [if_neg hc]; rfl⟩ ⟨rfl, rfl, trivial⟩ rfl ?_
  rintro ⟨k, l⟩ ⟨hk, hl0, hl1, hsz⟩
  dsimp only at hk hl0 hl1 hsz
  dsimp only [setMany, List.set_cons_zero, List.set_cons_succ]
  have hrow : ∀ j, j < rows.length → (rows.getD j []).length ≤ 9223372036854775807 := fun j hj => by
    rw [List.getD_eq_getElem?_getD, List.getElem?_eq_getElem hj]; exact hr _ (List.getElem_mem hj)
  repeat' (first
| refine g_seq ?_
| refine g_block ?_
| refine g_region ?_
| (refine o_go rfl ?_; (first
| refine p_p (ps_callM rfl rfl (by (repeat (first | refine ⟨PV.le_refl _, ?_⟩ | refine ⟨PV.le_nn _ _ _, ?_⟩ | refine ⟨PV.le_nil _, ?_⟩ | refine ⟨PV.le_any _, ?_⟩)); exact trivial) (by rfl) (szIntS_c _ _ (hrow _ (by omega)) (by omega) (by omega))) ?_
| refine p_p (ps_move rfl) ?_
| refine p_p (ps_assign rfl) ?_
| refine p_p (ps_load_cell rfl rfl) ?_
| refine p_p (ps_index rfl rfl rfl (by omega) (by first | exact idx_I (by omega) | exact idx_B (by omega) | exact idx_ints (by omega) | exact idx_bools (by omega) | exact idx_intss (by omega) | rfl) (by exact rfl)) ?_
| refine p_p (ps_lenM rfl rfl rfl) ?_
| refine p_p (ps_lss rfl rfl rfl) ?_
| refine p_p (ps_add rfl rfl rfl (by constructor <;> omega)) ?_); refine ⟨_, (by dsimp only [St.put, St.setObj, St.ev, killP, killA, killP1, killH, mapHO, renP, renA, ren1, killG, killGA, killG1, krowP, krowA, krow1, lendP, lendA, lend1, unv, pinP, pin1, elemsM, viewM, viewN, viewV, n_set_z, n_set_s, n_map_c, n_map_n, getD_z, getD_s, n_toNat, n_cond_t, n_cond_f, n_len_c, n_len_n, n_app_c, n_app_n, n_take_s, n_take_z, n_drop_s, n_drop_z, n_get_z, n_get_s, view, viewA, view1, elems, Nat.reduceAdd, Nat.reduceMul, Nat.zero_add, Nat.add_zero, Nat.reduceBEq, Bool.not_true, Bool.not_false, Nat.one_ne_zero, Nat.mul_one, reduceCtorEq]), ?_⟩)
| refine o_nil ?_
| (refine g_condD rfl (fun hc => ?_) (fun hc => ?_) <;> try (exfalso; omega))
| refine kr1 ?_
| refine krI rfl ?_
| refine g_skip ?_
| refine g_exit ?_
| refine g_ret ?_)
  · rw [← hsz, drop_cons' [] (by omega), szLL, if_pos hc]
  · have hb := szL_le hc hl1
    refine k_round (k + 1, szL (rows.getD k []).length l) ⟨by omega, hb.1, hb.2, ?_⟩ (by dsimp only; omega) (by repeat (first | exact trivial | refine ⟨.inl rfl, ?_⟩ | refine ⟨.inr rfl, ?_⟩)) ⟨rfl, rfl, trivial⟩ (hpLe_nil _)
    rw [drop_cons' [] (by omega), szLL, if_neg hc] at hsz
    exact hsz
  · have : k = rows.length := by omega
    subst this
    rw [List.drop_length, szLL] at hsz
    exact hsz

set_option maxRecDepth 100000 in
theorem szPoset_c (rows : List (List Int)) (left : Int) (hl : rows.length ≤ 9223372036854775807) (hr : ∀ r ∈ rows, r.length ≤ 9223372036854775807) (h0 : 0 ≤ left) (h1 : left ≤ 1048576) :
    PCalls Try.prog 12 [posetP rows, I left] (I (if szSS rows left < 0 then -1 else szSS rows left)) := by
  refine pcalls1 Try.func12 rfl Try.ntmps12 rfl ?_
  simp only [List.length_cons, List.length_nil, Nat.reduceAdd, Nat.reduceSub, List.replicate_succ, List.replicate_zero, List.cons_append, List.nil_append]
  repeat' (first
| refine g_seq ?_
| refine g_region ?_
| (refine o_go rfl ?_; (first
| refine p_p (ps_callM rfl rfl (by (repeat (first | refine ⟨PV.le_refl _, ?_⟩ | refine ⟨PV.le_nn _ _ _, ?_⟩ | refine ⟨PV.le_nil _, ?_⟩ | refine ⟨PV.le_any _, ?_⟩)); exact trivial) (by rfl) (szIntSS_c _ _ hl hr h0 h1)) ?_
| refine p_p (ps_move rfl) ?_
| refine p_p (ps_assign rfl) ?_
| refine p_p (ps_load_cell rfl rfl) ?_
| refine p_p (ps_lss rfl rfl rfl) ?_
| refine p_p (ps_fieldAddr rfl rfl) ?_
| refine p_p (ps_box rfl rfl) ?_); refine ⟨_, (by dsimp only [St.put, St.setObj, St.ev, killP, killA, killP1, killH, mapHO, renP, renA, ren1, killG, killGA, killG1, krowP, krowA, krow1, lendP, lendA, lend1, unv, pinP, pin1, elemsM, viewM, viewN, viewV, n_set_z, n_set_s, n_map_c, n_map_n, getD_z, getD_s, n_toNat, n_cond_t, n_cond_f, n_len_c, n_len_n, n_app_c, n_app_n, n_take_s, n_take_z, n_drop_s, n_drop_z, n_get_z, n_get_s, view, viewA, view1, elems, Nat.reduceAdd, Nat.reduceMul, Nat.zero_add, Nat.add_zero, Nat.reduceBEq, Bool.not_true, Bool.not_false, Nat.one_ne_zero, Nat.mul_one, reduceCtorEq]), ?_⟩)
| refine o_nil ?_
| (refine g_condD rfl (fun hc => ?_) (fun hc => ?_) <;> try (exfalso; omega))
| refine kr1 ?_
| refine krI rfl ?_
| refine g_skip ?_
| refine g_ret ?_)
  · rw [if_pos hc]
  · rw [if_neg hc]

set_option maxHeartbeats 1000000 in
set_option maxRecDepth 100000 in
theorem toIntS_c (xs : List Int) (hl : xs.length ≤ 1048576) : PCalls Try.prog 56 [ints xs] (ints xs) := by
  refine pcalls1 Try.func56 rfl Try.ntmps56 rfl ?_
  simp only [List.length_cons, List.length_nil, Nat.reduceAdd, Nat.reduceSub, List.replicate_succ, List.replicate_zero, List.cons_append, List.nil_append]
  repeat' (first
| refine g_seq ?_
| refine g_block ?_
| refine g_region ?_
| (refine o_go rfl ?_; (first
| refine p_p (ps_move rfl) ?_
| refine p_p (ps_assign rfl) ?_
| refine p_p (ps_lenM rfl rfl rfl) ?_
| refine p_e rfl (e_make1 rfl rfl rfl (by omega) (by omega) (by omega) rfl rfl) ?_); refine ⟨_, (by dsimp only [St.put, St.setObj, St.ev, killP, killA, killP1, killH, mapHO, renP, renA, ren1, killG, killGA, killG1, krowP, krowA, krow1, lendP, lendA, lend1, unv, pinP, pin1, elemsM, viewM, viewN, viewV, n_set_z, n_set_s, n_map_c, n_map_n, getD_z, getD_s, n_toNat, n_cond_t, n_cond_f, n_len_c, n_len_n, n_app_c, n_app_n, n_take_s, n_take_z, n_drop_s, n_drop_z, n_get_z, n_get_s, view, viewA, view1, elems, Nat.reduceAdd, Nat.reduceMul, Nat.zero_add, Nat.add_zero, Nat.reduceBEq, Bool.not_true, Bool.not_false, Nat.one_ne_zero, Nat.mul_one, reduceCtorEq]), ?_⟩)
| refine o_nil ?_)
  refine g_loopT (α := Nat) (fun k => [(4, I k)]) (fun k => [.arr true 1 3 ((xs.map I).take k ++ List.replicate (xs.length - k) (I 0))]) (fun k => k ≤ xs.length) (fun k => xs.length - k) 0 (by simp only [havoc, dsts, List.filterMap_cons, List.filterMap_nil, List.foldl_cons, List.foldl_nil, List.cons_append, List.nil_append, List.append_nil, List.set_cons_succ, List.set_cons_zero]; exact rfl) (Nat.zero_le _) ⟨rfl, trivial⟩ (by simp) ?_
  rintro k hk
  dsimp only [setMany, List.set_cons_zero, List.set_cons_succ]
  repeat' (first
| refine g_seq ?_
| refine g_block ?_
| refine g_region ?_
| (refine o_go rfl ?_; (first
| refine p_p (ps_move rfl) ?_
| refine p_p (ps_assign rfl) ?_
| refine p_p (ps_load_cell rfl rfl) ?_
| refine p_p (ps_index rfl rfl rfl (by omega) (by first | exact idx_I (by omega) | exact idx_B (by omega) | exact idx_ints (by omega) | exact idx_bools (by omega) | exact idx_intss (by omega) | rfl) (by exact rfl)) ?_
| refine p_p (ps_lenM rfl rfl rfl) ?_
| refine p_p (ps_lss rfl rfl rfl) ?_
| refine p_p (ps_add rfl rfl rfl (by constructor <;> omega)) ?_
| refine p_p (ps_index_mut rfl rfl rfl rfl (by omega) (by first | omega | (simp; done) | (simp; omega))) ?_
| refine p_e rfl (e_store_arr rfl rfl rfl rfl (by first | omega | (simp; done) | (simp; omega)) rfl rfl) ?_); refine ⟨_, (by dsimp only [St.put, St.setObj, St.ev, killP, killA, killP1, killH, mapHO, renP, renA, ren1, killG, killGA, killG1, krowP, krowA, krow1, lendP, lendA, lend1, unv, pinP, pin1, elemsM, viewM, viewN, viewV, n_set_z, n_set_s, n_map_c, n_map_n, getD_z, getD_s, n_toNat, n_cond_t, n_cond_f, n_len_c, n_len_n, n_app_c, n_app_n, n_take_s, n_take_z, n_drop_s, n_drop_z, n_get_z, n_get_s, view, viewA, view1, elems, Nat.reduceAdd, Nat.reduceMul, Nat.zero_add, Nat.add_zero, Nat.reduceBEq, Bool.not_true, Bool.not_false, Nat.one_ne_zero, Nat.mul_one, reduceCtorEq]), ?_⟩)
| refine o_nil ?_
| (refine g_condD rfl (fun hc => ?_) (fun hc => ?_) <;> try (exfalso; omega))
| refine kr1 ?_
| refine krS rfl ?_
| refine g_skip ?_
| refine g_exit ?_
| refine g_ret ?_)
  · refine k_round (k + 1) (by omega) (by omega) (by repeat (first | exact trivial | refine ⟨.inl rfl, ?_⟩ | refine ⟨.inr rfl, ?_⟩)) ⟨rfl, trivial⟩ (hpLe_cons ?_ (hpLe_nil _))
    rw [Nat.mul_one, set_fill' (I 0) (by simp) (idx_I (by omega))]
  · exact fill_full (I 0) (by simp) hk hc

set_option maxHeartbeats 1000000 in
set_option maxRecDepth 100000 in
theorem toIntSS_c (rows : List (List Int)) (hl : rows.length ≤ 1048576) (hr : ∀ r ∈ rows, r.length ≤ 1048576) : PCalls Try.prog 32 [intss rows] (intss rows) := by
  refine pcalls1 Try.func32 rfl Try.ntmps32 rfl ?_
  simp only [List.length_cons, List.length_nil, Nat.reduceAdd, Nat.reduceSub, List.replicate_succ, List.replicate_zero, List.cons_append, List.nil_append]
  repeat' (first
| refine g_seq ?_
| refine g_block ?_
| refine g_region ?_
| (refine o_go rfl ?_; (first
| refine p_p (ps_move rfl) ?_
| refine p_p (ps_assign rfl) ?_
| refine p_p (ps_lenM rfl rfl rfl) ?_
| refine p_e rfl (e_make1 rfl rfl rfl (by omega) (by omega) (by omega) rfl rfl) ?_); refine ⟨_, (by dsimp only [St.put, St.setObj, St.ev, killP, killA, killP1, killH, mapHO, renP, renA, ren1, killG, killGA, killG1, krowP, krowA, krow1, lendP, lendA, lend1, unv, pinP, pin1, elemsM, viewM, viewN, viewV, n_set_z, n_set_s, n_map_c, n_map_n, getD_z, getD_s, n_toNat, n_cond_t, n_cond_f, n_len_c, n_len_n, n_app_c, n_app_n, n_take_s, n_take_z, n_drop_s, n_drop_z, n_get_z, n_get_s, view, viewA, view1, elems, Nat.reduceAdd, Nat.reduceMul, Nat.zero_add, Nat.add_zero, Nat.reduceBEq, Bool.not_true, Bool.not_false, Nat.one_ne_zero, Nat.mul_one, reduceCtorEq]), ?_⟩)
| refine o_nil ?_)
  refine g_loopT (α := Nat) (fun k => [(4, I k)]) (fun k => [.arr true 1 43 ((rows.map ints).take k ++ List.replicate (rows.length - k) nilV)]) (fun k => k ≤ rows.length) (fun k => rows.length - k) 0 (by simp only [havoc, dsts, List.filterMap_cons, List.filterMap_nil, List.foldl_cons, List.foldl_nil, List.cons_append, List.nil_append, List.append_nil, List.set_cons_succ, List.set_cons_zero]; exact rfl) (Nat.zero_le _) ⟨rfl, trivial⟩ (by simp) ?_
  rintro k hk
  dsimp only [setMany, List.set_cons_zero, List.set_cons_succ]
  have hrow : ∀ j, j < rows.length → (rows.getD j []).length ≤ 1048576 := fun j hj => by
    rw [List.getD_eq_getElem?_getD, List.getElem?_eq_getElem hj]; exact hr _ (List.getElem_mem hj)
  repeat' (first
| refine g_seq ?_
| refine g_block ?_
| refine g_region ?_
| (refine o_go rfl ?_; (first
| refine p_p (ps_call rfl rfl (by (repeat (first | refine ⟨PV.le_refl _, ?_⟩ | refine ⟨PV.le_nn _ _ _, ?_⟩ | refine ⟨PV.le_nil _, ?_⟩ | refine ⟨PV.le_any _, ?_⟩)); exact trivial) (toIntS_c _ (hrow _ (by omega)))) ?_
| refine p_p (ps_move rfl) ?_
| refine p_p (ps_assign rfl) ?_
| refine p_p (ps_load_cell rfl rfl) ?_
| refine p_p (ps_index rfl rfl rfl (by omega) (by first | exact idx_I (by omega) | exact idx_B (by omega) | exact idx_ints (by omega) | exact idx_bools (by omega) | exact idx_intss (by omega) | rfl) (by exact rfl)) ?_
| refine p_p (ps_lenM rfl rfl rfl) ?_
| refine p_p (ps_lss rfl rfl rfl) ?_
| refine p_p (ps_add rfl rfl rfl (by constructor <;> omega)) ?_
| refine p_p (ps_index_mut rfl rfl rfl rfl (by omega) (by first | omega | (simp; done) | (simp; omega))) ?_
| refine p_e rfl (e_store_arr rfl rfl rfl rfl (by first | omega | (simp; done) | (simp; omega)) rfl rfl) ?_); refine ⟨_, (by dsimp only [St.put, St.setObj, St.ev, killP, killA, killP1, killH, mapHO, renP, renA, ren1, killG, killGA, killG1, krowP, krowA, krow1, lendP, lendA, lend1, unv, pinP, pin1, elemsM, viewM, viewN, viewV, n_set_z, n_set_s, n_map_c, n_map_n, getD_z, getD_s, n_toNat, n_cond_t, n_cond_f, n_len_c, n_len_n, n_app_c, n_app_n, n_take_s, n_take_z, n_drop_s, n_drop_z, n_get_z, n_get_s, view, viewA, view1, elems, Nat.reduceAdd, Nat.reduceMul, Nat.zero_add, Nat.add_zero, Nat.reduceBEq, Bool.not_true, Bool.not_false, Nat.one_ne_zero, Nat.mul_one, reduceCtorEq]), ?_⟩)
| refine o_nil ?_
| (refine g_condD rfl (fun hc => ?_) (fun hc => ?_) <;> try (exfalso; omega))
| refine kr1 ?_
| refine krS rfl ?_
| refine g_skip ?_
| refine g_exit ?_
| refine g_ret ?_)
  · refine k_round (k + 1) (by omega) (by omega) (by repeat (first | exact trivial | refine ⟨.inl rfl, ?_⟩ | refine ⟨.inr rfl, ?_⟩)) ⟨rfl, trivial⟩ (hpLe_cons ?_ (hpLe_nil _))
    rw [Nat.mul_one, set_fill' nilV (by simp) (idx_ints (by omega))]
  · exact fill_full nilV (by simp) hk hc

set_option maxRecDepth 100000 in
theorem toPoset_c (rows : List (List Int)) (hl : rows.length ≤ 1048576) (hr : ∀ r ∈ rows, r.length ≤ 1048576) : PCalls Try.prog 14 [posetP rows] (posetP rows) := by
  refine pcallsC Try.func14 rfl Try.ntmps14 rfl ?_
  simp only [List.length_cons, List.length_nil, Nat.reduceAdd, Nat.reduceSub, List.replicate_succ, List.replicate_zero, List.cons_append, List.nil_append]
  repeat' (first
| refine g_seq ?_
| refine g_region ?_
| (refine o_go rfl ?_; (first
| refine p_p (ps_call rfl rfl (by (repeat (first | refine ⟨PV.le_refl _, ?_⟩ | refine ⟨PV.le_nn _ _ _, ?_⟩ | refine ⟨PV.le_nil _, ?_⟩ | refine ⟨PV.le_any _, ?_⟩)); exact trivial) (toIntSS_c _ hl hr)) ?_
| refine p_p (ps_load_cell rfl rfl) ?_
| refine p_p (ps_fieldAddr rfl rfl) ?_
| refine p_p (ps_load_boxA rfl rfl rfl (by exact Nat.le_of_ble_eq_true rfl)) ?_
| refine p_p (ps_fieldAddr_hat rfl rfl) ?_
| refine p_e rfl (e_store_boxC rfl rfl rfl rfl (by exact Nat.le_of_ble_eq_true rfl) rfl rfl) ?_
| refine p_e rfl (e_store_boxA rfl rfl rfl rfl (by exact Nat.le_of_ble_eq_true rfl) rfl rfl rfl) ?_
| refine p_e rfl (e_alloc rfl) ?_
| refine p_p (ps_box rfl rfl) ?_); refine ⟨_, (by dsimp only [St.put, St.setObj, St.ev, killP, killA, killP1, killH, mapHO, renP, renA, ren1, killG, killGA, killG1, krowP, krowA, krow1, lendP, lendA, lend1, unv, pinP, pin1, elemsM, viewM, viewN, viewV, n_set_z, n_set_s, n_map_c, n_map_n, getD_z, getD_s, n_toNat, n_cond_t, n_cond_f, n_len_c, n_len_n, n_app_c, n_app_n, n_take_s, n_take_z, n_drop_s, n_drop_z, n_get_z, n_get_s, view, viewA, view1, elems, Nat.reduceAdd, Nat.reduceMul, Nat.zero_add, Nat.add_zero, Nat.reduceBEq, Bool.not_true, Bool.not_false, Nat.one_ne_zero, Nat.mul_one, reduceCtorEq]), ?_⟩)
| refine o_nil ?_
| refine krc ?_
| refine krC rfl (by exact Nat.le_of_ble_eq_true rfl) ?_
| refine g_ret ?_)
  rfl

set_option maxRecDepth 100000 in
theorem eqIntS_c (xs ys : List Int) (hl : xs.length ≤ 9223372036854775807) (_hm : ys.length ≤ 9223372036854775807) : PCalls Try.prog 61 [ints xs, ints ys] (B (decide (xs = ys))) := by
  refine pcalls1 Try.func61 rfl Try.ntmps61 rfl ?_
  simp only [List.length_cons, List.length_nil, Nat.reduceAdd, Nat.reduceSub, List.replicate_succ, List.replicate_zero, List.cons_append, List.nil_append]
  repeat' (first
| ((refine g_seq ?_); trace "@W47e5ea50893912d6.o0")
| ((refine g_block ?_); trace "@W47e5ea50893912d6.o1")
| ((refine g_region ?_); trace "@W47e5ea50893912d6.o2")
| ((refine g_region_draw (by kernel_rfl) (by kernel_rfl) ?_); trace "@W47e5ea50893912d6.o3")
| (refine o_go rfl ?_; (first
| (refine p_p (ps_move rfl) ?_; trace "@W47e5ea50893912d6.i0")
| (refine p_p (ps_assign rfl) ?_; trace "@W47e5ea50893912d6.i1")
| (refine p_p (ps_load_cell rfl rfl) ?_; trace "@W47e5ea50893912d6.i2")
| (refine p_p (ps_load_agg rfl rfl (by exact Nat.le_of_ble_eq_true rfl)) ?_; trace "@W47e5ea50893912d6.i3")
| (refine p_p (ps_load_agg rfl rfl (Nat.le_refl _)) ?_; trace "@W47e5ea50893912d6.i4")
| (refine p_p (ps_index rfl rfl rfl (by omega) (by first | exact idx_I (by omega) | exact idx_B (by omega) | exact idx_ints (by omega) | exact idx_bools (by omega) | exact idx_intss (by omega) | rfl) (by exact rfl)) ?_; trace "@W47e5ea50893912d6.i5")
| (refine p_p (ps_lenM rfl rfl rfl) ?_; trace "@W47e5ea50893912d6.i6")
| (refine p_p (ps_len rfl rfl rfl) ?_; trace "@W47e5ea50893912d6.i7")
| (refine p_p (ps_lss rfl rfl rfl) ?_; trace "@W47e5ea50893912d6.i8")
| (refine p_p (ps_add rfl rfl rfl (by constructor <;> omega)) ?_; trace "@W47e5ea50893912d6.i9")
| (refine p_p (ps_fieldAddr rfl rfl) ?_; trace "@W47e5ea50893912d6.i10")
| (refine p_p (ps_extract rfl rfl rfl) ?_; trace "@W47e5ea50893912d6.i11")
| (refine p_p (ps_not rfl rfl) ?_; trace "@W47e5ea50893912d6.i12")
| (refine p_p (ps_pick rfl rfl) ?_; trace "@W47e5ea50893912d6.i13")
| (refine p_p (ps_leq rfl rfl rfl) ?_; trace "@W47e5ea50893912d6.i14")
| (refine p_p (ps_gtr rfl rfl rfl) ?_; trace "@W47e5ea50893912d6.i15")
| (refine p_p (ps_geq rfl rfl rfl) ?_; trace "@W47e5ea50893912d6.i16")
| (refine p_p (ps_eql rfl rfl rfl) ?_; trace "@W47e5ea50893912d6.i17")
| (refine p_p (ps_neq rfl rfl rfl) ?_; trace "@W47e5ea50893912d6.i18")
| (refine p_p (ps_sub rfl rfl rfl (by constructor <;> omega)) ?_; trace "@W47e5ea50893912d6.i19")
| (refine p_p (ps_nilCheck rfl rfl) ?_; trace "@W47e5ea50893912d6.i20")
| (refine p_p (ps_nilCheck_fn rfl rfl) ?_; trace "@W47e5ea50893912d6.i21")
| (refine p_p (ps_field rfl rfl rfl) ?_; trace "@W47e5ea50893912d6.i22")
| (refine p_p (ps_len_mut rfl rfl rfl rfl) ?_; trace "@W47e5ea50893912d6.i23")
| (refine p_p (ps_len_grid rfl rfl rfl rfl) ?_; trace "@W47e5ea50893912d6.i24")
| (refine p_p (ps_len_pg rfl rfl rfl rfl) ?_; trace "@W47e5ea50893912d6.i25")
| (refine p_p (ps_index_pg rfl rfl rfl rfl (by omega) (by first | omega | (rw [n_toNat]; omega))) ?_; trace "@W47e5ea50893912d6.i26")
| (refine p_p (ps_index_grid rfl rfl rfl rfl (by omega) (by first | omega | (simp; done) | (simp; omega))) ?_; trace "@W47e5ea50893912d6.i27")
| (refine p_e rfl (e_store_row rfl rfl rfl rfl (by first | omega | (simp; done) | (simp; omega)) (by omega) rfl rfl rfl (by first | exact one_all (fun _ => rfl) _ | exact one_rep rfl _ | rfl)) ?_; trace "@W47e5ea50893912d6.i28")
| (refine p_p (ps_load_box rfl rfl rfl rfl) ?_; trace "@W47e5ea50893912d6.i29")
| (refine p_p (ps_load_boxA rfl rfl rfl (by exact Nat.le_of_ble_eq_true rfl)) ?_; trace "@W47e5ea50893912d6.i30")
| (refine p_p (ps_load_row rfl rfl rfl (by omega)) ?_; trace "@W47e5ea50893912d6.i31")
| (refine p_p (ps_fieldAddr_hat rfl rfl) ?_; trace "@W47e5ea50893912d6.i32")
| (refine p_p (ps_index_mut rfl rfl rfl rfl (by omega) (by first | omega | (simp; done) | (simp; omega))) ?_; trace "@W47e5ea50893912d6.i33")
| (refine p_e rfl (e_make1 rfl rfl rfl (by omega) (by omega) (by omega) rfl rfl) ?_; trace "@W47e5ea50893912d6.i34")
| (refine p_e rfl (e_store_arr rfl rfl rfl rfl (by first | omega | (simp; done) | (simp; omega)) rfl rfl) ?_; trace "@W47e5ea50893912d6.i35")
| (refine p_e rfl (e_store_boxC rfl rfl rfl rfl (by exact Nat.le_of_ble_eq_true rfl) rfl rfl) ?_; trace "@W47e5ea50893912d6.i36")
| (refine p_e rfl (e_store_boxA rfl rfl rfl rfl (by exact Nat.le_of_ble_eq_true rfl) rfl rfl rfl) ?_; trace "@W47e5ea50893912d6.i37")
| (refine p_e rfl (e_alloc rfl) ?_; trace "@W47e5ea50893912d6.i38")
| (refine p_e rfl (e_lit0 rfl (by decide)) ?_; trace "@W47e5ea50893912d6.i39")
| (refine p_e rfl (e_append rfl rfl rfl rfl rfl rfl (by first | exact one_one rfl | exact one_map (fun _ => rfl) _) rfl (by first | omega | (simp; done) | (simp; omega)) (by first | omega | (simp; done) | (simp; omega))) ?_; trace "@W47e5ea50893912d6.i40")
| (refine p_p (ps_box rfl rfl) ?_; trace "@W47e5ea50893912d6.i41")
| (refine p_p (ps_makeFunc rfl rfl rfl) ?_; trace "@W47e5ea50893912d6.i42")
| (refine p_p (ps_lit1 rfl rfl (by rfl) (by rfl)) ?_; trace "@W47e5ea50893912d6.i43")
| (refine p_p (ps_lit2 rfl rfl rfl (by rfl) (by rfl) (by rfl)) ?_; trace "@W47e5ea50893912d6.i44")
| (refine p_p (ps_lit3 rfl rfl rfl rfl (by rfl) (by rfl) (by rfl) (by rfl)) ?_; trace "@W47e5ea50893912d6.i45")
| (refine p_p (ps_build rfl rfl) ?_; trace "@W47e5ea50893912d6.i46")); refine ⟨_, (by dsimp only [St.put, St.setObj, St.ev, killP, killA, killP1, killH, mapHO, renP, renA, ren1, killG, killGA, killG1, krowP, krowA, krow1, lendP, lendA, lend1, unv, pinP, pin1, elemsM, viewM, viewN, viewV, n_set_z, n_set_s, n_map_c, n_map_n, getD_z, getD_s, n_toNat, n_cond_t, n_cond_f, n_len_c, n_len_n, n_app_c, n_app_n, n_take_s, n_take_z, n_drop_s, n_drop_z, n_get_z, n_get_s, view, viewA, view1, elems, Nat.reduceAdd, Nat.reduceMul, Nat.zero_add, Nat.add_zero, Nat.reduceBEq, Bool.not_true, Bool.not_false, Nat.one_ne_zero, Nat.mul_one, reduceCtorEq]), ?_⟩)
| ((refine o_nil ?_); trace "@W47e5ea50893912d6.o5")
| (((refine o_s rfl ?_; refine ⟨_, (by dsimp only [St.put, St.setObj, St.ev, killP, killA, killP1, killH, mapHO, renP, renA, ren1, killG, killGA, killG1, krowP, krowA, krow1, lendP, lendA, lend1, unv, pinP, pin1, elemsM, viewM, viewN, viewV, n_set_z, n_set_s, n_map_c, n_map_n, getD_z, getD_s, n_toNat, n_cond_t, n_cond_f, n_len_c, n_len_n, n_app_c, n_app_n, n_take_s, n_take_z, n_drop_s, n_drop_z, n_get_z, n_get_s, view, viewA, view1, elems, Nat.reduceAdd, Nat.reduceMul, Nat.zero_add, Nat.add_zero, Nat.reduceBEq, Bool.not_true, Bool.not_false, Nat.one_ne_zero, Nat.mul_one, reduceCtorEq]), ?_⟩)); trace "@W47e5ea50893912d6.o6")
| (((refine o_splitD rfl rfl rfl (fun hc => ?_) (fun hc => ?_) <;> first | (exfalso; omega) | dsimp only [List.set_cons_zero, List.set_cons_succ])); trace "@W47e5ea50893912d6.o7")
| (((refine o_splitN rfl rfl rfl (fun hc => ?_) (fun hc => ?_) <;> dsimp only [List.set_cons_zero, List.set_cons_succ])); trace "@W47e5ea50893912d6.o8")
| (((refine o_splitA rfl rfl rfl (fun hc => ?_) (fun hc => ?_) <;> dsimp only [List.set_cons_zero, List.set_cons_succ])); trace "@W47e5ea50893912d6.o9")
| ((refine g_condT rfl ?_); trace "@W47e5ea50893912d6.o10")
| ((refine g_condF rfl ?_); trace "@W47e5ea50893912d6.o11")
| (((refine g_condN rfl (fun hc => ?_) (fun hc => ?_) <;> try (exfalso; omega))); trace "@W47e5ea50893912d6.o12")
| (((refine g_condD rfl (fun hc => ?_) (fun hc => ?_) <;> try (exfalso; omega))); trace "@W47e5ea50893912d6.o13")
| (((refine g_condNB rfl (fun hc => ?_) (fun hc => ?_))); trace "@W47e5ea50893912d6.o14")
| (((refine g_cond rfl (fun hc => ?_) (fun hc => ?_))); trace "@W47e5ea50893912d6.o15")
| ((refine krr 0 rfl (HandOut.arr rfl ?_ (by first | exact sc_map (fun _ => rfl) _ | exact sc_maps (fun _ => rfl) _ | rfl))); trace "@W47e5ea50893912d6.o16")
| ((refine krr 1 rfl (HandOut.arr rfl ?_ (by first | exact sc_map (fun _ => rfl) _ | exact sc_maps (fun _ => rfl) _ | rfl))); trace "@W47e5ea50893912d6.o17")
| ((refine krr 2 rfl (HandOut.arr rfl ?_ (by first | exact sc_map (fun _ => rfl) _ | exact sc_maps (fun _ => rfl) _ | rfl))); trace "@W47e5ea50893912d6.o18")
| ((refine krr 3 rfl (HandOut.arr rfl ?_ (by first | exact sc_map (fun _ => rfl) _ | exact sc_maps (fun _ => rfl) _ | rfl))); trace "@W47e5ea50893912d6.o19")
| ((refine krr 4 rfl (HandOut.arr rfl ?_ (by first | exact sc_map (fun _ => rfl) _ | exact sc_maps (fun _ => rfl) _ | rfl))); trace "@W47e5ea50893912d6.o20")
| ((refine krr 5 rfl (HandOut.arr rfl ?_ (by first | exact sc_map (fun _ => rfl) _ | exact sc_maps (fun _ => rfl) _ | rfl))); trace "@W47e5ea50893912d6.o21")
| ((refine krr 6 rfl (HandOut.arr rfl ?_ (by first | exact sc_map (fun _ => rfl) _ | exact sc_maps (fun _ => rfl) _ | rfl))); trace "@W47e5ea50893912d6.o22")
| ((refine krr 7 rfl (HandOut.arr rfl ?_ (by first | exact sc_map (fun _ => rfl) _ | exact sc_maps (fun _ => rfl) _ | rfl))); trace "@W47e5ea50893912d6.o23")
| ((refine krr2 0 rfl rfl (HandOut.arr rfl ?_ (by first | exact sc_map (fun _ => rfl) _ | exact sc_maps (fun _ => rfl) _ | rfl))); trace "@W47e5ea50893912d6.o24")
| ((refine krr2 1 rfl rfl (HandOut.arr rfl ?_ (by first | exact sc_map (fun _ => rfl) _ | exact sc_maps (fun _ => rfl) _ | rfl))); trace "@W47e5ea50893912d6.o25")
| ((refine krr2 2 rfl rfl (HandOut.arr rfl ?_ (by first | exact sc_map (fun _ => rfl) _ | exact sc_maps (fun _ => rfl) _ | rfl))); trace "@W47e5ea50893912d6.o26")
| ((refine krr2 3 rfl rfl (HandOut.arr rfl ?_ (by first | exact sc_map (fun _ => rfl) _ | exact sc_maps (fun _ => rfl) _ | rfl))); trace "@W47e5ea50893912d6.o27")
| ((refine krr2 4 rfl rfl (HandOut.arr rfl ?_ (by first | exact sc_map (fun _ => rfl) _ | exact sc_maps (fun _ => rfl) _ | rfl))); trace "@W47e5ea50893912d6.o28")
| ((refine krr2 5 rfl rfl (HandOut.arr rfl ?_ (by first | exact sc_map (fun _ => rfl) _ | exact sc_maps (fun _ => rfl) _ | rfl))); trace "@W47e5ea50893912d6.o29")
| ((refine krr2 6 rfl rfl (HandOut.arr rfl ?_ (by first | exact sc_map (fun _ => rfl) _ | exact sc_maps (fun _ => rfl) _ | rfl))); trace "@W47e5ea50893912d6.o30")
| ((refine krr2 7 rfl rfl (HandOut.arr rfl ?_ (by first | exact sc_map (fun _ => rfl) _ | exact sc_maps (fun _ => rfl) _ | rfl))); trace "@W47e5ea50893912d6.o31")
| ((refine kr1 ?_); trace "@W47e5ea50893912d6.o32")
| ((refine kr2 ?_ ?_); trace "@W47e5ea50893912d6.o33")
| ((refine kr3 ?_ ?_ ?_); trace "@W47e5ea50893912d6.o34")
| ((exact krAny); trace "@W47e5ea50893912d6.o35")
| ((refine krc ?_); trace "@W47e5ea50893912d6.o36")
| ((refine krct ?_ ?_); trace "@W47e5ea50893912d6.o37")
| ((refine krC rfl (by exact Nat.le_of_ble_eq_true rfl) ?_); trace "@W47e5ea50893912d6.o38")
| ((refine krC_any rfl (by exact Nat.le_of_ble_eq_true rfl)); trace "@W47e5ea50893912d6.o39")
| ((refine krB rfl ?_); trace "@W47e5ea50893912d6.o40")
| ((refine krI rfl ?_); trace "@W47e5ea50893912d6.o41")
| ((refine krS rfl ?_); trace "@W47e5ea50893912d6.o42")
| ((refine krN rfl ?_); trace "@W47e5ea50893912d6.o43")
| ((refine krA rfl ?_); trace "@W47e5ea50893912d6.o44")
| ((refine krP rfl ?_); trace "@W47e5ea50893912d6.o45")
| ((refine g_skip ?_); trace "@W47e5ea50893912d6.o46")
| ((refine g_exit ?_); trace "@W47e5ea50893912d6.o47")
| ((refine g_ret ?_); trace "@W47e5ea50893912d6.o48"))
  · exact Eq.symm (decide_eq_false fun e => hc (by rw [e]))
  have hlen : xs.length = ys.length := by omega
  refine g_loopT (α := Nat) (fun k => [(5, I k)]) (fun _ => []) (fun k => k ≤ xs.length ∧ xs.take k = ys.take k) (fun k => xs.length - k) 0 (by simp only [havoc, dsts, List.filterMap_cons, List.filterMap_nil, List.foldl_cons, List.foldl_nil, List.cons_append, List.nil_append, List.append_nil, List.set_cons_succ, List.set_cons_zero]; exact rfl) ⟨Nat.zero_le _, by simp⟩ ⟨rfl, trivial⟩ rfl ?_
  clear hc
  rintro k ⟨hk, hno⟩
  dsimp only [setMany, List.set_cons_zero, List.set_cons_succ]
  repeat' (first
| ((refine g_seq ?_); trace "@Wafe0d1970a25a8a6.o0")
| ((refine g_block ?_); trace "@Wafe0d1970a25a8a6.o1")
| ((refine g_region ?_); trace "@Wafe0d1970a25a8a6.o2")
| ((refine g_region_draw (by kernel_rfl) (by kernel_rfl) ?_); trace "@Wafe0d1970a25a8a6.o3")
| (refine o_go rfl ?_; (first
| (refine p_p (ps_move rfl) ?_; trace "@Wafe0d1970a25a8a6.i0")
| (refine p_p (ps_assign rfl) ?_; trace "@Wafe0d1970a25a8a6.i1")
| (refine p_p (ps_load_cell rfl rfl) ?_; trace "@Wafe0d1970a25a8a6.i2")
| (refine p_p (ps_load_agg rfl rfl (by exact Nat.le_of_ble_eq_true rfl)) ?_; trace "@Wafe0d1970a25a8a6.i3")
| (refine p_p (ps_load_agg rfl rfl (Nat.le_refl _)) ?_; trace "@Wafe0d1970a25a8a6.i4")
| (refine p_p (ps_index rfl rfl rfl (by omega) (by first | exact idx_I (by omega) | exact idx_B (by omega) | exact idx_ints (by omega) | exact idx_bools (by omega) | exact idx_intss (by omega) | rfl) (by exact rfl)) ?_; trace "@Wafe0d1970a25a8a6.i5")
| (refine p_p (ps_lenM rfl rfl rfl) ?_; trace "@Wafe0d1970a25a8a6.i6")
| (refine p_p (ps_len rfl rfl rfl) ?_; trace "@Wafe0d1970a25a8a6.i7")
| (refine p_p (ps_lss rfl rfl rfl) ?_; trace "@Wafe0d1970a25a8a6.i8")
| (refine p_p (ps_add rfl rfl rfl (by constructor <;> omega)) ?_; trace "@Wafe0d1970a25a8a6.i9")
| (refine p_p (ps_fieldAddr rfl rfl) ?_; trace "@Wafe0d1970a25a8a6.i10")
| (refine p_p (ps_extract rfl rfl rfl) ?_; trace "@Wafe0d1970a25a8a6.i11")
| (refine p_p (ps_not rfl rfl) ?_; trace "@Wafe0d1970a25a8a6.i12")
| (refine p_p (ps_pick rfl rfl) ?_; trace "@Wafe0d1970a25a8a6.i13")
| (refine p_p (ps_leq rfl rfl rfl) ?_; trace "@Wafe0d1970a25a8a6.i14")
| (refine p_p (ps_gtr rfl rfl rfl) ?_; trace "@Wafe0d1970a25a8a6.i15")
| (refine p_p (ps_geq rfl rfl rfl) ?_; trace "@Wafe0d1970a25a8a6.i16")
| (refine p_p (ps_eql rfl rfl rfl) ?_; trace "@Wafe0d1970a25a8a6.i17")
| (refine p_p (ps_neq rfl rfl rfl) ?_; trace "@Wafe0d1970a25a8a6.i18")
| (refine p_p (ps_sub rfl rfl rfl (by constructor <;> omega)) ?_; trace "@Wafe0d1970a25a8a6.i19")
| (refine p_p (ps_nilCheck rfl rfl) ?_; trace "@Wafe0d1970a25a8a6.i20")
| (refine p_p (ps_nilCheck_fn rfl rfl) ?_; trace "@Wafe0d1970a25a8a6.i21")
| (refine p_p (ps_field rfl rfl rfl) ?_; trace "@Wafe0d1970a25a8a6.i22")
| (refine p_p (ps_len_mut rfl rfl rfl rfl) ?_; trace "@Wafe0d1970a25a8a6.i23")
| (refine p_p (ps_len_grid rfl rfl rfl rfl) ?_; trace "@Wafe0d1970a25a8a6.i24")
| (refine p_p (ps_len_pg rfl rfl rfl rfl) ?_; trace "@Wafe0d1970a25a8a6.i25")
| (refine p_p (ps_index_pg rfl rfl rfl rfl (by omega) (by first | omega | (rw [n_toNat]; omega))) ?_; trace "@Wafe0d1970a25a8a6.i26")
| (refine p_p (ps_index_grid rfl rfl rfl rfl (by omega) (by first | omega | (simp; done) | (simp; omega))) ?_; trace "@Wafe0d1970a25a8a6.i27")
| (refine p_e rfl (e_store_row rfl rfl rfl rfl (by first | omega | (simp; done) | (simp; omega)) (by omega) rfl rfl rfl (by first | exact one_all (fun _ => rfl) _ | exact one_rep rfl _ | rfl)) ?_; trace "@Wafe0d1970a25a8a6.i28")
| (refine p_p (ps_load_box rfl rfl rfl rfl) ?_; trace "@Wafe0d1970a25a8a6.i29")
| (refine p_p (ps_load_boxA rfl rfl rfl (by exact Nat.le_of_ble_eq_true rfl)) ?_; trace "@Wafe0d1970a25a8a6.i30")
| (refine p_p (ps_load_row rfl rfl rfl (by omega)) ?_; trace "@Wafe0d1970a25a8a6.i31")
| (refine p_p (ps_fieldAddr_hat rfl rfl) ?_; trace "@Wafe0d1970a25a8a6.i32")
| (refine p_p (ps_index_mut rfl rfl rfl rfl (by omega) (by first | omega | (simp; done) | (simp; omega))) ?_; trace "@Wafe0d1970a25a8a6.i33")
| (refine p_e rfl (e_make1 rfl rfl rfl (by omega) (by omega) (by omega) rfl rfl) ?_; trace "@Wafe0d1970a25a8a6.i34")
| (refine p_e rfl (e_store_arr rfl rfl rfl rfl (by first | omega | (simp; done) | (simp; omega)) rfl rfl) ?_; trace "@Wafe0d1970a25a8a6.i35")
| (refine p_e rfl (e_store_boxC rfl rfl rfl rfl (by exact Nat.le_of_ble_eq_true rfl) rfl rfl) ?_; trace "@Wafe0d1970a25a8a6.i36")
| (refine p_e rfl (e_store_boxA rfl rfl rfl rfl (by exact Nat.le_of_ble_eq_true rfl) rfl rfl rfl) ?_; trace "@Wafe0d1970a25a8a6.i37")
| (refine p_e rfl (e_alloc rfl) ?_; trace "@Wafe0d1970a25a8a6.i38")
| (refine p_e rfl (e_lit0 rfl (by decide)) ?_; trace "@Wafe0d1970a25a8a6.i39")
| (refine p_e rfl (e_append rfl rfl rfl rfl rfl rfl (by first | exact one_one rfl | exact one_map (fun _ => rfl) _) rfl (by first | omega | (simp; done) | (simp; omega)) (by first | omega | (simp; done) | (simp; omega))) ?_; trace "@Wafe0d1970a25a8a6.i40")
| (refine p_p (ps_box rfl rfl) ?_; trace "@Wafe0d1970a25a8a6.i41")
| (refine p_p (ps_makeFunc rfl rfl rfl) ?_; trace "@Wafe0d1970a25a8a6.i42")
| (refine p_p (ps_lit1 rfl rfl (by rfl) (by rfl)) ?_; trace "@Wafe0d1970a25a8a6.i43")
| (refine p_p (ps_lit2 rfl rfl rfl (by rfl) (by rfl) (by rfl)) ?_; trace "@Wafe0d1970a25a8a6.i44")
| (refine p_p (ps_lit3 rfl rfl rfl rfl (by rfl) (by rfl) (by rfl) (by rfl)) ?_; trace "@Wafe0d1970a25a8a6.i45")
| (refine p_p (ps_build rfl rfl) ?_; trace "@Wafe0d1970a25a8a6.i46")); refine ⟨_, (by dsimp only [St.put, St.setObj, St.ev, killP, killA, killP1, killH, mapHO, renP, renA, ren1, killG, killGA, killG1, krowP, krowA, krow1, lendP, lendA, lend1, unv, pinP, pin1, elemsM, viewM, viewN, viewV, n_set_z, n_set_s, n_map_c, n_map_n, getD_z, getD_s, n_toNat, n_cond_t, n_cond_f, n_len_c, n_len_n, n_app_c, n_app_n, n_take_s, n_take_z, n_drop_s, n_drop_z, n_get_z, n_get_s, view, viewA, view1, elems, Nat.reduceAdd, Nat.reduceMul, Nat.zero_add, Nat.add_zero, Nat.reduceBEq, Bool.not_true, Bool.not_false, Nat.one_ne_zero, Nat.mul_one, reduceCtorEq]), ?_⟩)
| ((refine o_nil ?_); trace "@Wafe0d1970a25a8a6.o5")
| (((refine o_s rfl ?_; refine ⟨_, (by dsimp only [St.put, St.setObj, St.ev, killP, killA, killP1, killH, mapHO, renP, renA, ren1, killG, killGA, killG1, krowP, krowA, krow1, lendP, lendA, lend1, unv, pinP, pin1, elemsM, viewM, viewN, viewV, n_set_z, n_set_s, n_map_c, n_map_n, getD_z, getD_s, n_toNat, n_cond_t, n_cond_f, n_len_c, n_len_n, n_app_c, n_app_n, n_take_s, n_take_z, n_drop_s, n_drop_z, n_get_z, n_get_s, view, viewA, view1, elems, Nat.reduceAdd, Nat.reduceMul, Nat.zero_add, Nat.add_zero, Nat.reduceBEq, Bool.not_true, Bool.not_false, Nat.one_ne_zero, Nat.mul_one, reduceCtorEq]), ?_⟩)); trace "@Wafe0d1970a25a8a6.o6")
| (((refine o_splitD rfl rfl rfl (fun hc => ?_) (fun hc => ?_) <;> first | (exfalso; omega) | dsimp only [List.set_cons_zero, List.set_cons_succ])); trace "@Wafe0d1970a25a8a6.o7")
| (((refine o_splitN rfl rfl rfl (fun hc => ?_) (fun hc => ?_) <;> dsimp only [List.set_cons_zero, List.set_cons_succ])); trace "@Wafe0d1970a25a8a6.o8")
| (((refine o_splitA rfl rfl rfl (fun hc => ?_) (fun hc => ?_) <;> dsimp only [List.set_cons_zero, List.set_cons_succ])); trace "@Wafe0d1970a25a8a6.o9")
| ((refine g_condT rfl ?_); trace "@Wafe0d1970a25a8a6.o10")
| ((refine g_condF rfl ?_); trace "@Wafe0d1970a25a8a6.o11")
| (((refine g_condN rfl (fun hc => ?_) (fun hc => ?_) <;> try (exfalso; omega))); trace "@Wafe0d1970a25a8a6.o12")
| (((refine g_condD rfl (fun hc => ?_) (fun hc => ?_) <;> try (exfalso; omega))); trace "@Wafe0d1970a25a8a6.o13")
| (((refine g_condNB rfl (fun hc => ?_) (fun hc => ?_))); trace "@Wafe0d1970a25a8a6.o14")
| (((refine g_cond rfl (fun hc => ?_) (fun hc => ?_))); trace "@Wafe0d1970a25a8a6.o15")
| ((refine krr 0 rfl (HandOut.arr rfl ?_ (by first | exact sc_map (fun _ => rfl) _ | exact sc_maps (fun _ => rfl) _ | rfl))); trace "@Wafe0d1970a25a8a6.o16")
| ((refine krr 1 rfl (HandOut.arr rfl ?_ (by first | exact sc_map (fun _ => rfl) _ | exact sc_maps (fun _ => rfl) _ | rfl))); trace "@Wafe0d1970a25a8a6.o17")
| ((refine krr 2 rfl (HandOut.arr rfl ?_ (by first | exact sc_map (fun _ => rfl) _ | exact sc_maps (fun _ => rfl) _ | rfl))); trace "@Wafe0d1970a25a8a6.o18")
| ((refine krr 3 rfl (HandOut.arr rfl ?_ (by first | exact sc_map (fun _ => rfl) _ | exact sc_maps (fun _ => rfl) _ | rfl))); trace "@Wafe0d1970a25a8a6.o19")
| ((refine krr 4 rfl (HandOut.arr rfl ?_ (by first | exact sc_map (fun _ => rfl) _ | exact sc_maps (fun _ => rfl) _ | rfl))); trace "@Wafe0d1970a25a8a6.o20")
| ((refine krr 5 rfl (HandOut.arr rfl ?_ (by first | exact sc_map (fun _ => rfl) _ | exact sc_maps (fun _ => rfl) _ | rfl))); trace "@Wafe0d1970a25a8a6.o21")
| ((refine krr 6 rfl (HandOut.arr rfl ?_ (by first | exact sc_map (fun _ => rfl) _ | exact sc_maps (fun _ => rfl) _ | rfl))); trace "@Wafe0d1970a25a8a6.o22")
| ((refine krr 7 rfl (HandOut.arr rfl ?_ (by first | exact sc_map (fun _ => rfl) _ | exact sc_maps (fun _ => rfl) _ | rfl))); trace "@Wafe0d1970a25a8a6.o23")
| ((refine krr2 0 rfl rfl (HandOut.arr rfl ?_ (by first | exact sc_map (fun _ => rfl) _ | exact sc_maps (fun _ => rfl) _ | rfl))); trace "@Wafe0d1970a25a8a6.o24")
| ((refine krr2 1 rfl rfl (HandOut.arr rfl ?_ (by first | exact sc_map (fun _ => rfl) _ | exact sc_maps (fun _ => rfl) _ | rfl))); trace "@Wafe0d1970a25a8a6.o25")
| ((refine krr2 2 rfl rfl (HandOut.arr rfl ?_ (by first | exact sc_map (fun _ => rfl) _ | exact sc_maps (fun _ => rfl) _ | rfl))); trace "@Wafe0d1970a25a8a6.o26")
| ((refine krr2 3 rfl rfl (HandOut.arr rfl ?_ (by first | exact sc_map (fun _ => rfl) _ | exact sc_maps (fun _ => rfl) _ | rfl))); trace "@Wafe0d1970a25a8a6.o27")
| ((refine krr2 4 rfl rfl (HandOut.arr rfl ?_ (by first | exact sc_map (fun _ => rfl) _ | exact sc_maps (fun _ => rfl) _ | rfl))); trace "@Wafe0d1970a25a8a6.o28")
| ((refine krr2 5 rfl rfl (HandOut.arr rfl ?_ (by first | exact sc_map (fun _ => rfl) _ | exact sc_maps (fun _ => rfl) _ | rfl))); trace "@Wafe0d1970a25a8a6.o29")
| ((refine krr2 6 rfl rfl (HandOut.arr rfl ?_ (by first | exact sc_map (fun _ => rfl) _ | exact sc_maps (fun _ => rfl) _ | rfl))); trace "@Wafe0d1970a25a8a6.o30")
| ((refine krr2 7 rfl rfl (HandOut.arr rfl ?_ (by first | exact sc_map (fun _ => rfl) _ | exact sc_maps (fun _ => rfl) _ | rfl))); trace "@Wafe0d1970a25a8a6.o31")
| ((refine kr1 ?_); trace "@Wafe0d1970a25a8a6.o32")
| ((refine kr2 ?_ ?_); trace "@Wafe0d1970a25a8a6.o33")
| ((refine kr3 ?_ ?_ ?_); trace "@Wafe0d1970a25a8a6.o34")
| ((exact krAny); trace "@Wafe0d1970a25a8a6.o35")
| ((refine krc ?_); trace "@Wafe0d1970a25a8a6.o36")
| ((refine krct ?_ ?_); trace "@Wafe0d1970a25a8a6.o37")
| ((refine krC rfl (by exact Nat.le_of_ble_eq_true rfl) ?_); trace "@Wafe0d1970a25a8a6.o38")
| ((refine krC_any rfl (by exact Nat.le_of_ble_eq_true rfl)); trace "@Wafe0d1970a25a8a6.o39")
| ((refine krB rfl ?_); trace "@Wafe0d1970a25a8a6.o40")
| ((refine krI rfl ?_); trace "@Wafe0d1970a25a8a6.o41")
| ((refine krS rfl ?_); trace "@Wafe0d1970a25a8a6.o42")
| ((refine krN rfl ?_); trace "@Wafe0d1970a25a8a6.o43")
| ((refine krA rfl ?_); trace "@Wafe0d1970a25a8a6.o44")
| ((refine krP rfl ?_); trace "@Wafe0d1970a25a8a6.o45")
| ((refine g_skip ?_); trace "@Wafe0d1970a25a8a6.o46")
| ((refine g_exit ?_); trace "@Wafe0d1970a25a8a6.o47")
| ((refine g_ret ?_); trace "@Wafe0d1970a25a8a6.o48"))
  · exact Eq.symm (decide_eq_false (eq_at (k := k) 0 hc))
  · refine k_round (k + 1) ⟨by omega, ?_⟩ (by omega) (by repeat (first | exact trivial | refine ⟨.inl rfl, ?_⟩ | refine ⟨.inr rfl, ?_⟩)) ⟨rfl, trivial⟩ (hpLe_nil _)
    rw [take_snoc 0 (by omega), take_snoc 0 (by omega), hno, hc]
  · rw [(take_full hk hc).1, show k = ys.length by omega, List.take_length] at hno
    exact Eq.symm (decide_eq_true hno)

set_option maxRecDepth 100000 in
theorem eqIntSS_c (xs ys : List (List Int)) (hl : xs.length ≤ 9223372036854775807) (_hm : ys.length ≤ 9223372036854775807) (hr : ∀ r ∈ xs, r.length ≤ 9223372036854775807) (hr' : ∀ r ∈ ys, r.length ≤ 9223372036854775807) :
    PCalls Try.prog 35 [intss xs, intss ys] (B (decide (xs = ys))) := by
  refine pcalls1 Try.func35 rfl Try.ntmps35 rfl ?_
  simp only [List.length_cons, List.length_nil, Nat.reduceAdd, Nat.reduceSub, List.replicate_succ, List.replicate_zero, List.cons_append, List.nil_append]
  repeat' (first
| ((refine g_seq ?_); trace "@W79d5d51c0954e799.o0")
| ((refine g_block ?_); trace "@W79d5d51c0954e799.o1")
| ((refine g_region ?_); trace "@W79d5d51c0954e799.o2")
| ((refine g_region_draw (by kernel_rfl) (by kernel_rfl) ?_); trace "@W79d5d51c0954e799.o3")
| (refine o_go rfl ?_; (first
| (refine p_p (ps_move rfl) ?_; trace "@W79d5d51c0954e799.i0")
| (refine p_p (ps_assign rfl) ?_; trace "@W79d5d51c0954e799.i1")
| (refine p_p (ps_load_cell rfl rfl) ?_; trace "@W79d5d51c0954e799.i2")
| (refine p_p (ps_load_agg rfl rfl (by exact Nat.le_of_ble_eq_true rfl)) ?_; trace "@W79d5d51c0954e799.i3")
| (refine p_p (ps_load_agg rfl rfl (Nat.le_refl _)) ?_; trace "@W79d5d51c0954e799.i4")
| (refine p_p (ps_index rfl rfl rfl (by omega) (by first | exact idx_I (by omega) | exact idx_B (by omega) | exact idx_ints (by omega) | exact idx_bools (by omega) | exact idx_intss (by omega) | rfl) (by exact rfl)) ?_; trace "@W79d5d51c0954e799.i5")
| (refine p_p (ps_lenM rfl rfl rfl) ?_; trace "@W79d5d51c0954e799.i6")
| (refine p_p (ps_len rfl rfl rfl) ?_; trace "@W79d5d51c0954e799.i7")
| (refine p_p (ps_lss rfl rfl rfl) ?_; trace "@W79d5d51c0954e799.i8")
| (refine p_p (ps_add rfl rfl rfl (by constructor <;> omega)) ?_; trace "@W79d5d51c0954e799.i9")
| (refine p_p (ps_fieldAddr rfl rfl) ?_; trace "@W79d5d51c0954e799.i10")
| (refine p_p (ps_extract rfl rfl rfl) ?_; trace "@W79d5d51c0954e799.i11")
| (refine p_p (ps_not rfl rfl) ?_; trace "@W79d5d51c0954e799.i12")
| (refine p_p (ps_pick rfl rfl) ?_; trace "@W79d5d51c0954e799.i13")
| (refine p_p (ps_leq rfl rfl rfl) ?_; trace "@W79d5d51c0954e799.i14")
| (refine p_p (ps_gtr rfl rfl rfl) ?_; trace "@W79d5d51c0954e799.i15")
| (refine p_p (ps_geq rfl rfl rfl) ?_; trace "@W79d5d51c0954e799.i16")
| (refine p_p (ps_eql rfl rfl rfl) ?_; trace "@W79d5d51c0954e799.i17")
| (refine p_p (ps_neq rfl rfl rfl) ?_; trace "@W79d5d51c0954e799.i18")
| (refine p_p (ps_sub rfl rfl rfl (by constructor <;> omega)) ?_; trace "@W79d5d51c0954e799.i19")
| (refine p_p (ps_nilCheck rfl rfl) ?_; trace "@W79d5d51c0954e799.i20")
| (refine p_p (ps_nilCheck_fn rfl rfl) ?_; trace "@W79d5d51c0954e799.i21")
| (refine p_p (ps_field rfl rfl rfl) ?_; trace "@W79d5d51c0954e799.i22")
| (refine p_p (ps_len_mut rfl rfl rfl rfl) ?_; trace "@W79d5d51c0954e799.i23")
| (refine p_p (ps_len_grid rfl rfl rfl rfl) ?_; trace "@W79d5d51c0954e799.i24")
| (refine p_p (ps_len_pg rfl rfl rfl rfl) ?_; trace "@W79d5d51c0954e799.i25")
| (refine p_p (ps_index_pg rfl rfl rfl rfl (by omega) (by first | omega | (rw [n_toNat]; omega))) ?_; trace "@W79d5d51c0954e799.i26")
| (refine p_p (ps_index_grid rfl rfl rfl rfl (by omega) (by first | omega | (simp; done) | (simp; omega))) ?_; trace "@W79d5d51c0954e799.i27")
| (refine p_e rfl (e_store_row rfl rfl rfl rfl (by first | omega | (simp; done) | (simp; omega)) (by omega) rfl rfl rfl (by first | exact one_all (fun _ => rfl) _ | exact one_rep rfl _ | rfl)) ?_; trace "@W79d5d51c0954e799.i28")
| (refine p_p (ps_load_box rfl rfl rfl rfl) ?_; trace "@W79d5d51c0954e799.i29")
| (refine p_p (ps_load_boxA rfl rfl rfl (by exact Nat.le_of_ble_eq_true rfl)) ?_; trace "@W79d5d51c0954e799.i30")
| (refine p_p (ps_load_row rfl rfl rfl (by omega)) ?_; trace "@W79d5d51c0954e799.i31")
| (refine p_p (ps_fieldAddr_hat rfl rfl) ?_; trace "@W79d5d51c0954e799.i32")
| (refine p_p (ps_index_mut rfl rfl rfl rfl (by omega) (by first | omega | (simp; done) | (simp; omega))) ?_; trace "@W79d5d51c0954e799.i33")
| (refine p_e rfl (e_make1 rfl rfl rfl (by omega) (by omega) (by omega) rfl rfl) ?_; trace "@W79d5d51c0954e799.i34")
| (refine p_e rfl (e_store_arr rfl rfl rfl rfl (by first | omega | (simp; done) | (simp; omega)) rfl rfl) ?_; trace "@W79d5d51c0954e799.i35")
| (refine p_e rfl (e_store_boxC rfl rfl rfl rfl (by exact Nat.le_of_ble_eq_true rfl) rfl rfl) ?_; trace "@W79d5d51c0954e799.i36")
| (refine p_e rfl (e_store_boxA rfl rfl rfl rfl (by exact Nat.le_of_ble_eq_true rfl) rfl rfl rfl) ?_; trace "@W79d5d51c0954e799.i37")
| (refine p_e rfl (e_alloc rfl) ?_; trace "@W79d5d51c0954e799.i38")
| (refine p_e rfl (e_lit0 rfl (by decide)) ?_; trace "@W79d5d51c0954e799.i39")
| (refine p_e rfl (e_append rfl rfl rfl rfl rfl rfl (by first | exact one_one rfl | exact one_map (fun _ => rfl) _) rfl (by first | omega | (simp; done) | (simp; omega)) (by first | omega | (simp; done) | (simp; omega))) ?_; trace "@W79d5d51c0954e799.i40")
| (refine p_p (ps_box rfl rfl) ?_; trace "@W79d5d51c0954e799.i41")
| (refine p_p (ps_makeFunc rfl rfl rfl) ?_; trace "@W79d5d51c0954e799.i42")
| (refine p_p (ps_lit1 rfl rfl (by rfl) (by rfl)) ?_; trace "@W79d5d51c0954e799.i43")
| (refine p_p (ps_lit2 rfl rfl rfl (by rfl) (by rfl) (by rfl)) ?_; trace "@W79d5d51c0954e799.i44")
| (refine p_p (ps_lit3 rfl rfl rfl rfl (by rfl) (by rfl) (by rfl) (by rfl)) ?_; trace "@W79d5d51c0954e799.i45")
| (refine p_p (ps_build rfl rfl) ?_; trace "@W79d5d51c0954e799.i46")); refine ⟨_, (by dsimp only [St.put, St.setObj, St.ev, killP, killA, killP1, killH, mapHO, renP, renA, ren1, killG, killGA, killG1, krowP, krowA, krow1, lendP, lendA, lend1, unv, pinP, pin1, elemsM, viewM, viewN, viewV, n_set_z, n_set_s, n_map_c, n_map_n, getD_z, getD_s, n_toNat, n_cond_t, n_cond_f, n_len_c, n_len_n, n_app_c, n_app_n, n_take_s, n_take_z, n_drop_s, n_drop_z, n_get_z, n_get_s, view, viewA, view1, elems, Nat.reduceAdd, Nat.reduceMul, Nat.zero_add, Nat.add_zero, Nat.reduceBEq, Bool.not_true, Bool.not_false, Nat.one_ne_zero, Nat.mul_one, reduceCtorEq]), ?_⟩)
| ((refine o_nil ?_); trace "@W79d5d51c0954e799.o5")
| (((refine o_s rfl ?_; refine ⟨_, (by dsimp only [St.put, St.setObj, St.ev, killP, killA, killP1, killH, mapHO, renP, renA, ren1, killG, killGA, killG1, krowP, krowA, krow1, lendP, lendA, lend1, unv, pinP, pin1, elemsM, viewM, viewN, viewV, n_set_z, n_set_s, n_map_c, n_map_n, getD_z, getD_s, n_toNat, n_cond_t, n_cond_f, n_len_c, n_len_n, n_app_c, n_app_n, n_take_s, n_take_z, n_drop_s, n_drop_z, n_get_z, n_get_s, view, viewA, view1, elems, Nat.reduceAdd, Nat.reduceMul, Nat.zero_add, Nat.add_zero, Nat.reduceBEq, Bool.not_true, Bool.not_false, Nat.one_ne_zero, Nat.mul_one, reduceCtorEq]), ?_⟩)); trace "@W79d5d51c0954e799.o6")
| (((refine o_splitD rfl rfl rfl (fun hc => ?_) (fun hc => ?_) <;> first | (exfalso; omega) | dsimp only [List.set_cons_zero, List.set_cons_succ])); trace "@W79d5d51c0954e799.o7")
| (((refine o_splitN rfl rfl rfl (fun hc => ?_) (fun hc => ?_) <;> dsimp only [List.set_cons_zero, List.set_cons_succ])); trace "@W79d5d51c0954e799.o8")
| (((refine o_splitA rfl rfl rfl (fun hc => ?_) (fun hc => ?_) <;> dsimp only [List.set_cons_zero, List.set_cons_succ])); trace "@W79d5d51c0954e799.o9")
| ((refine g_condT rfl ?_); trace "@W79d5d51c0954e799.o10")
| ((refine g_condF rfl ?_); trace "@W79d5d51c0954e799.o11")
| (((refine g_condN rfl (fun hc => ?_) (fun hc => ?_) <;> try (exfalso; omega))); trace "@W79d5d51c0954e799.o12")
| (((refine g_condD rfl (fun hc => ?_) (fun hc => ?_) <;> try (exfalso; omega))); trace "@W79d5d51c0954e799.o13")
| (((refine g_condNB rfl (fun hc => ?_) (fun hc => ?_))); trace "@W79d5d51c0954e799.o14")
| (((refine g_cond rfl (fun hc => ?_) (fun hc => ?_))); trace "@W79d5d51c0954e799.o15")
| ((refine krr 0 rfl (HandOut.arr rfl ?_ (by first | exact sc_map (fun _ => rfl) _ | exact sc_maps (fun _ => rfl) _ | rfl))); trace "@W79d5d51c0954e799.o16")
| ((refine krr 1 rfl (HandOut.arr rfl ?_ (by first | exact sc_map (fun _ => rfl) _ | exact sc_maps (fun _ => rfl) _ | rfl))); trace "@W79d5d51c0954e799.o17")
| ((refine krr 2 rfl (HandOut.arr rfl ?_ (by first | exact sc_map (fun _ => rfl) _ | exact sc_maps (fun _ => rfl) _ | rfl))); trace "@W79d5d51c0954e799.o18")
| ((refine krr 3 rfl (HandOut.arr rfl ?_ (by first | exact sc_map (fun _ => rfl) _ | exact sc_maps (fun _ => rfl) _ | rfl))); trace "@W79d5d51c0954e799.o19")
| ((refine krr 4 rfl (HandOut.arr rfl ?_ (by first | exact sc_map (fun _ => rfl) _ | exact sc_maps (fun _ => rfl) _ | rfl))); trace "@W79d5d51c0954e799.o20")
| ((refine krr 5 rfl (HandOut.arr rfl ?_ (by first | exact sc_map (fun _ => rfl) _ | exact sc_maps (fun _ => rfl) _ | rfl))); trace "@W79d5d51c0954e799.o21")
| ((refine krr 6 rfl (HandOut.arr rfl ?_ (by first | exact sc_map (fun _ => rfl) _ | exact sc_maps (fun _ => rfl) _ | rfl))); trace "@W79d5d51c0954e799.o22")
| ((refine krr 7 rfl (HandOut.arr rfl ?_ (by first | exact sc_map (fun _ => rfl) _ | exact sc_maps (fun _ => rfl) _ | rfl))); trace "@W79d5d51c0954e799.o23")
| ((refine krr2 0 rfl rfl (HandOut.arr rfl ?_ (by first | exact sc_map (fun _ => rfl) _ | exact sc_maps (fun _ => rfl) _ | rfl))); trace "@W79d5d51c0954e799.o24")
| ((refine krr2 1 rfl rfl (HandOut.arr rfl ?_ (by first | exact sc_map (fun _ => rfl) _ | exact sc_maps (fun _ => rfl) _ | rfl))); trace "@W79d5d51c0954e799.o25")
| ((refine krr2 2 rfl rfl (HandOut.arr rfl ?_ (by first | exact sc_map (fun _ => rfl) _ | exact sc_maps (fun _ => rfl) _ | rfl))); trace "@W79d5d51c0954e799.o26")
| ((refine krr2 3 rfl rfl (HandOut.arr rfl ?_ (by first | exact sc_map (fun _ => rfl) _ | exact sc_maps (fun _ => rfl) _ | rfl))); trace "@W79d5d51c0954e799.o27")
| ((refine krr2 4 rfl rfl (HandOut.arr rfl ?_ (by first | exact sc_map (fun _ => rfl) _ | exact sc_maps (fun _ => rfl) _ | rfl))); trace "@W79d5d51c0954e799.o28")
| ((refine krr2 5 rfl rfl (HandOut.arr rfl ?_ (by first | exact sc_map (fun _ => rfl) _ | exact sc_maps (fun _ => rfl) _ | rfl))); trace "@W79d5d51c0954e799.o29")
| ((refine krr2 6 rfl rfl (HandOut.arr rfl ?_ (by first | exact sc_map (fun _ => rfl) _ | exact sc_maps (fun _ => rfl) _ | rfl))); trace "@W79d5d51c0954e799.o30")
| ((refine krr2 7 rfl rfl (HandOut.arr rfl ?_ (by first | exact sc_map (fun _ => rfl) _ | exact sc_maps (fun _ => rfl) _ | rfl))); trace "@W79d5d51c0954e799.o31")
| ((refine kr1 ?_); trace "@W79d5d51c0954e799.o32")
| ((refine kr2 ?_ ?_); trace "@W79d5d51c0954e799.o33")
| ((refine kr3 ?_ ?_ ?_); trace "@W79d5d51c0954e799.o34")
| ((exact krAny); trace "@W79d5d51c0954e799.o35")
| ((refine krc ?_); trace "@W79d5d51c0954e799.o36")
| ((refine krct ?_ ?_); trace "@W79d5d51c0954e799.o37")
| ((refine krC rfl (by exact Nat.le_of_ble_eq_true rfl) ?_); trace "@W79d5d51c0954e799.o38")
| ((refine krC_any rfl (by exact Nat.le_of_ble_eq_true rfl)); trace "@W79d5d51c0954e799.o39")
| ((refine krB rfl ?_); trace "@W79d5d51c0954e799.o40")
| ((refine krI rfl ?_); trace "@W79d5d51c0954e799.o41")
| ((refine krS rfl ?_); trace "@W79d5d51c0954e799.o42")
| ((refine krN rfl ?_); trace "@W79d5d51c0954e799.o43")
| ((refine krA rfl ?_); trace "@W79d5d51c0954e799.o44")
| ((refine krP rfl ?_); trace "@W79d5d51c0954e799.o45")
| ((refine g_skip ?_); trace "@W79d5d51c0954e799.o46")
| ((refine g_exit ?_); trace "@W79d5d51c0954e799.o47")
| ((refine g_ret ?_); trace "@W79d5d51c0954e799.o48"))
  · exact Eq.symm (decide_eq_false fun e => hc (by rw [e]))
  have hlen : xs.length = ys.length := by omega
  refine g_loopT (α := Nat) (fun k => [(5, I k)]) (fun _ => []) (fun k => k ≤ xs.length ∧ xs.take k = ys.take k) (fun k => xs.length - k) 0 (by simp only [havoc, dsts, List.filterMap_cons, List.filterMap_nil, List.foldl_cons, List.foldl_nil, List.cons_append, List.nil_append, List.append_nil, List.set_cons_succ, List.set_cons_zero]; exact rfl) ⟨Nat.zero_le _, by simp⟩ ⟨rfl, trivial⟩ rfl ?_
  clear hc
  rintro k ⟨hk, hno⟩
  dsimp only [setMany, List.set_cons_zero, List.set_cons_succ]
  have hrow : ∀ j, j < xs.length → (xs.getD j []).length ≤ 9223372036854775807 := fun j hj => by
    rw [List.getD_eq_getElem?_getD, List.getElem?_eq_getElem hj]; exact hr _ (List.getElem_mem hj)
  have hrow' : ∀ j, j < ys.length → (ys.getD j []).length ≤ 9223372036854775807 := fun j hj => by
    rw [List.getD_eq_getElem?_getD, List.getElem?_eq_getElem hj]; exact hr' _ (List.getElem_mem hj)
  repeat' (first
| ((refine g_seq ?_); trace "@W1849f920cab118a3.o0")
| ((refine g_block ?_); trace "@W1849f920cab118a3.o1")
| ((refine g_region ?_); trace "@W1849f920cab118a3.o2")
| ((refine g_region_draw (by kernel_rfl) (by kernel_rfl) ?_); trace "@W1849f920cab118a3.o3")
| (refine o_go rfl ?_; (first
| (refine p_p (ps_callM rfl rfl (by (repeat (first | refine ⟨PV.le_refl _, ?_⟩ | refine ⟨PV.le_nn _ _ _, ?_⟩ | refine ⟨PV.le_nil _, ?_⟩ | refine ⟨PV.le_any _, ?_⟩)); exact trivial) (by rfl) (eqIntS_c _ _ (hrow _ (by omega)) (hrow' _ (by omega)))) ?_; trace "@W1849f920cab118a3.i0")
| (refine p_p (ps_move rfl) ?_; trace "@W1849f920cab118a3.i1")
| (refine p_p (ps_assign rfl) ?_; trace "@W1849f920cab118a3.i2")
| (refine p_p (ps_load_cell rfl rfl) ?_; trace "@W1849f920cab118a3.i3")
| (refine p_p (ps_load_agg rfl rfl (by exact Nat.le_of_ble_eq_true rfl)) ?_; trace "@W1849f920cab118a3.i4")
| (refine p_p (ps_load_agg rfl rfl (Nat.le_refl _)) ?_; trace "@W1849f920cab118a3.i5")
| (refine p_p (ps_index rfl rfl rfl (by omega) (by first | exact idx_I (by omega) | exact idx_B (by omega) | exact idx_ints (by omega) | exact idx_bools (by omega) | exact idx_intss (by omega) | rfl) (by exact rfl)) ?_; trace "@W1849f920cab118a3.i6")
| (refine p_p (ps_lenM rfl rfl rfl) ?_; trace "@W1849f920cab118a3.i7")
| (refine p_p (ps_len rfl rfl rfl) ?_; trace "@W1849f920cab118a3.i8")
| (refine p_p (ps_lss rfl rfl rfl) ?_; trace "@W1849f920cab118a3.i9")
| (refine p_p (ps_add rfl rfl rfl (by constructor <;> omega)) ?_; trace "@W1849f920cab118a3.i10")
| (refine p_p (ps_fieldAddr rfl rfl) ?_; trace "@W1849f920cab118a3.i11")
| (refine p_p (ps_extract rfl rfl rfl) ?_; trace "@W1849f920cab118a3.i12")
| (refine p_p (ps_not rfl rfl) ?_; trace "@W1849f920cab118a3.i13")
| (refine p_p (ps_pick rfl rfl) ?_; trace "@W1849f920cab118a3.i14")
| (refine p_p (ps_leq rfl rfl rfl) ?_; trace "@W1849f920cab118a3.i15")
| (refine p_p (ps_gtr rfl rfl rfl) ?_; trace "@W1849f920cab118a3.i16")
| (refine p_p (ps_geq rfl rfl rfl) ?_; trace "@W1849f920cab118a3.i17")
| (refine p_p (ps_eql rfl rfl rfl) ?_; trace "@W1849f920cab118a3.i18")
| (refine p_p (ps_neq rfl rfl rfl) ?_; trace "@W1849f920cab118a3.i19")
| (refine p_p (ps_sub rfl rfl rfl (by constructor <;> omega)) ?_; trace "@W1849f920cab118a3.i20")
| (refine p_p (ps_nilCheck rfl rfl) ?_; trace "@W1849f920cab118a3.i21")
| (refine p_p (ps_nilCheck_fn rfl rfl) ?_; trace "@W1849f920cab118a3.i22")
| (refine p_p (ps_field rfl rfl rfl) ?_; trace "@W1849f920cab118a3.i23")
| (refine p_p (ps_len_mut rfl rfl rfl rfl) ?_; trace "@W1849f920cab118a3.i24")
| (refine p_p (ps_len_grid rfl rfl rfl rfl) ?_; trace "@W1849f920cab118a3.i25")
| (refine p_p (ps_len_pg rfl rfl rfl rfl) ?_; trace "@W1849f920cab118a3.i26")
| (refine p_p (ps_index_pg rfl rfl rfl rfl (by omega) (by first | omega | (rw [n_toNat]; omega))) ?_; trace "@W1849f920cab118a3.i27")
| (refine p_p (ps_index_grid rfl rfl rfl rfl (by omega) (by first | omega | (simp; done) | (simp; omega))) ?_; trace "@W1849f920cab118a3.i28")
| (refine p_e rfl (e_store_row rfl rfl rfl rfl (by first | omega | (simp; done) | (simp; omega)) (by omega) rfl rfl rfl (by first | exact one_all (fun _ => rfl) _ | exact one_rep rfl _ | rfl)) ?_; trace "@W1849f920cab118a3.i29")
| (refine p_p (ps_load_box rfl rfl rfl rfl) ?_; trace "@W1849f920cab118a3.i30")
| (refine p_p (ps_load_boxA rfl rfl rfl (by exact Nat.le_of_ble_eq_true rfl)) ?_; trace "@W1849f920cab118a3.i31")
| (refine p_p (ps_load_row rfl rfl rfl (by omega)) ?_; trace "@W1849f920cab118a3.i32")
| (refine p_p (ps_fieldAddr_hat rfl rfl) ?_; trace "@W1849f920cab118a3.i33")
| (refine p_p (ps_index_mut rfl rfl rfl rfl (by omega) (by first | omega | (simp; done) | (simp; omega))) ?_; trace "@W1849f920cab118a3.i34")
| (refine p_e rfl (e_make1 rfl rfl rfl (by omega) (by omega) (by omega) rfl rfl) ?_; trace "@W1849f920cab118a3.i35")
| (refine p_e rfl (e_store_arr rfl rfl rfl rfl (by first | omega | (simp; done) | (simp; omega)) rfl rfl) ?_; trace "@W1849f920cab118a3.i36")
| (refine p_e rfl (e_store_boxC rfl rfl rfl rfl (by exact Nat.le_of_ble_eq_true rfl) rfl rfl) ?_; trace "@W1849f920cab118a3.i37")
| (refine p_e rfl (e_store_boxA rfl rfl rfl rfl (by exact Nat.le_of_ble_eq_true rfl) rfl rfl rfl) ?_; trace "@W1849f920cab118a3.i38")
| (refine p_e rfl (e_alloc rfl) ?_; trace "@W1849f920cab118a3.i39")
| (refine p_e rfl (e_lit0 rfl (by decide)) ?_; trace "@W1849f920cab118a3.i40")
| (refine p_e rfl (e_append rfl rfl rfl rfl rfl rfl (by first | exact one_one rfl | exact one_map (fun _ => rfl) _) rfl (by first | omega | (simp; done) | (simp; omega)) (by first | omega | (simp; done) | (simp; omega))) ?_; trace "@W1849f920cab118a3.i41")
| (refine p_p (ps_box rfl rfl) ?_; trace "@W1849f920cab118a3.i42")
| (refine p_p (ps_makeFunc rfl rfl rfl) ?_; trace "@W1849f920cab118a3.i43")
| (refine p_p (ps_lit1 rfl rfl (by rfl) (by rfl)) ?_; trace "@W1849f920cab118a3.i44")
| (refine p_p (ps_lit2 rfl rfl rfl (by rfl) (by rfl) (by rfl)) ?_; trace "@W1849f920cab118a3.i45")
| (refine p_p (ps_lit3 rfl rfl rfl rfl (by rfl) (by rfl) (by rfl) (by rfl)) ?_; trace "@W1849f920cab118a3.i46")
| (refine p_p (ps_build rfl rfl) ?_; trace "@W1849f920cab118a3.i47")); refine ⟨_, (by dsimp only [St.put, St.setObj, St.ev, killP, killA, killP1, killH, mapHO, renP, renA, ren1, killG, killGA, killG1, krowP, krowA, krow1, lendP, lendA, lend1, unv, pinP, pin1, elemsM, viewM, viewN, viewV, n_set_z, n_set_s, n_map_c, n_map_n, getD_z, getD_s, n_toNat, n_cond_t, n_cond_f, n_len_c, n_len_n, n_app_c, n_app_n, n_take_s, n_take_z, n_drop_s, n_drop_z, n_get_z, n_get_s, view, viewA, view1, elems, Nat.reduceAdd, Nat.reduceMul, Nat.zero_add, Nat.add_zero, Nat.reduceBEq, Bool.not_true, Bool.not_false, Nat.one_ne_zero, Nat.mul_one, reduceCtorEq]), ?_⟩)
| ((refine o_nil ?_); trace "@W1849f920cab118a3.o5")
| (((refine o_s rfl ?_; refine ⟨_, (by dsimp only [St.put, St.setObj, St.ev, killP, killA, killP1, killH, mapHO, renP, renA, ren1, killG, killGA, killG1, krowP, krowA, krow1, lendP, lendA, lend1, unv, pinP, pin1, elemsM, viewM, viewN, viewV, n_set_z, n_set_s, n_map_c, n_map_n, getD_z, getD_s, n_toNat, n_cond_t, n_cond_f, n_len_c, n_len_n, n_app_c, n_app_n, n_take_s, n_take_z, n_drop_s, n_drop_z, n_get_z, n_get_s, view, viewA, view1, elems, Nat.reduceAdd, Nat.reduceMul, Nat.zero_add, Nat.add_zero, Nat.reduceBEq, Bool.not_true, Bool.not_false, Nat.one_ne_zero, Nat.mul_one, reduceCtorEq]), ?_⟩)); trace "@W1849f920cab118a3.o6")
| (((refine o_splitD rfl rfl rfl (fun hc => ?_) (fun hc => ?_) <;> first | (exfalso; omega) | dsimp only [List.set_cons_zero, List.set_cons_succ])); trace "@W1849f920cab118a3.o7")
| (((refine o_splitN rfl rfl rfl (fun hc => ?_) (fun hc => ?_) <;> dsimp only [List.set_cons_zero, List.set_cons_succ])); trace "@W1849f920cab118a3.o8")
| (((refine o_splitA rfl rfl rfl (fun hc => ?_) (fun hc => ?_) <;> dsimp only [List.set_cons_zero, List.set_cons_succ])); trace "@W1849f920cab118a3.o9")
| ((refine g_condT rfl ?_); trace "@W1849f920cab118a3.o10")
| ((refine g_condF rfl ?_); trace "@W1849f920cab118a3.o11")
| (((refine g_condN rfl (fun hc => ?_) (fun hc => ?_) <;> try (exfalso; omega))); trace "@W1849f920cab118a3.o12")
| (((refine g_condD rfl (fun hc => ?_) (fun hc => ?_) <;> try (exfalso; omega))); trace "@W1849f920cab118a3.o13")
| (((refine g_condNB rfl (fun hc => ?_) (fun hc => ?_))); trace "@W1849f920cab118a3.o14")
| (((refine g_cond rfl (fun hc => ?_) (fun hc => ?_))); trace "@W1849f920cab118a3.o15")
| ((refine krr 0 rfl (HandOut.arr rfl ?_ (by first | exact sc_map (fun _ => rfl) _ | exact sc_maps (fun _ => rfl) _ | rfl))); trace "@W1849f920cab118a3.o16")
| ((refine krr 1 rfl (HandOut.arr rfl ?_ (by first | exact sc_map (fun _ => rfl) _ | exact sc_maps (fun _ => rfl) _ | rfl))); trace "@W1849f920cab118a3.o17")
| ((refine krr 2 rfl (HandOut.arr rfl ?_ (by first | exact sc_map (fun _ => rfl) _ | exact sc_maps (fun _ => rfl) _ | rfl))); trace "@W1849f920cab118a3.o18")
| ((refine krr 3 rfl (HandOut.arr rfl ?_ (by first | exact sc_map (fun _ => rfl) _ | exact sc_maps (fun _ => rfl) _ | rfl))); trace "@W1849f920cab118a3.o19")
| ((refine krr 4 rfl (HandOut.arr rfl ?_ (by first | exact sc_map (fun _ => rfl) _ | exact sc_maps (fun _ => rfl) _ | rfl))); trace "@W1849f920cab118a3.o20")
| ((refine krr 5 rfl (HandOut.arr rfl ?_ (by first | exact sc_map (fun _ => rfl) _ | exact sc_maps (fun _ => rfl) _ | rfl))); trace "@W1849f920cab118a3.o21")
| ((refine krr 6 rfl (HandOut.arr rfl ?_ (by first | exact sc_map (fun _ => rfl) _ | exact sc_maps (fun _ => rfl) _ | rfl))); trace "@W1849f920cab118a3.o22")
| ((refine krr 7 rfl (HandOut.arr rfl ?_ (by first | exact sc_map (fun _ => rfl) _ | exact sc_maps (fun _ => rfl) _ | rfl))); trace "@W1849f920cab118a3.o23")
| ((refine krr2 0 rfl rfl (HandOut.arr rfl ?_ (by first | exact sc_map (fun _ => rfl) _ | exact sc_maps (fun _ => rfl) _ | rfl))); trace "@W1849f920cab118a3.o24")
| ((refine krr2 1 rfl rfl (HandOut.arr rfl ?_ (by first | exact sc_map (fun _ => rfl) _ | exact sc_maps (fun _ => rfl) _ | rfl))); trace "@W1849f920cab118a3.o25")
| ((refine krr2 2 rfl rfl (HandOut.arr rfl ?_ (by first | exact sc_map (fun _ => rfl) _ | exact sc_maps (fun _ => rfl) _ | rfl))); trace "@W1849f920cab118a3.o26")
| ((refine krr2 3 rfl rfl (HandOut.arr rfl ?_ (by first | exact sc_map (fun _ => rfl) _ | exact sc_maps (fun _ => rfl) _ | rfl))); trace "@W1849f920cab118a3.o27")
| ((refine krr2 4 rfl rfl (HandOut.arr rfl ?_ (by first | exact sc_map (fun _ => rfl) _ | exact sc_maps (fun _ => rfl) _ | rfl))); trace "@W1849f920cab118a3.o28")
| ((refine krr2 5 rfl rfl (HandOut.arr rfl ?_ (by first | exact sc_map (fun _ => rfl) _ | exact sc_maps (fun _ => rfl) _ | rfl))); trace "@W1849f920cab118a3.o29")
| ((refine krr2 6 rfl rfl (HandOut.arr rfl ?_ (by first | exact sc_map (fun _ => rfl) _ | exact sc_maps (fun _ => rfl) _ | rfl))); trace "@W1849f920cab118a3.o30")
| ((refine krr2 7 rfl rfl (HandOut.arr rfl ?_ (by first | exact sc_map (fun _ => rfl) _ | exact sc_maps (fun _ => rfl) _ | rfl))); trace "@W1849f920cab118a3.o31")
| ((refine kr1 ?_); trace "@W1849f920cab118a3.o32")
| ((refine kr2 ?_ ?_); trace "@W1849f920cab118a3.o33")
| ((refine kr3 ?_ ?_ ?_); trace "@W1849f920cab118a3.o34")
| ((exact krAny); trace "@W1849f920cab118a3.o35")
| ((refine krc ?_); trace "@W1849f920cab118a3.o36")
| ((refine krct ?_ ?_); trace "@W1849f920cab118a3.o37")
| ((refine krC rfl (by exact Nat.le_of_ble_eq_true rfl) ?_); trace "@W1849f920cab118a3.o38")
| ((refine krC_any rfl (by exact Nat.le_of_ble_eq_true rfl)); trace "@W1849f920cab118a3.o39")
| ((refine krB rfl ?_); trace "@W1849f920cab118a3.o40")
| ((refine krI rfl ?_); trace "@W1849f920cab118a3.o41")
| ((refine krS rfl ?_); trace "@W1849f920cab118a3.o42")
| ((refine krN rfl ?_); trace "@W1849f920cab118a3.o43")
| ((refine krA rfl ?_); trace "@W1849f920cab118a3.o44")
| ((refine krP rfl ?_); trace "@W1849f920cab118a3.o45")
| ((refine g_skip ?_); trace "@W1849f920cab118a3.o46")
| ((refine g_exit ?_); trace "@W1849f920cab118a3.o47")
| ((refine g_ret ?_); trace "@W1849f920cab118a3.o48"))
  · exact Eq.symm (decide_eq_false (eq_at (k := k) [] hc))
  · refine k_round (k + 1) ⟨by omega, ?_⟩ (by omega) (by repeat (first | exact trivial | refine ⟨.inl rfl, ?_⟩ | refine ⟨.inr rfl, ?_⟩)) ⟨rfl, trivial⟩ (hpLe_nil _)
    rw [take_snoc [] (by omega), take_snoc [] (by omega), hno, hc]
  · rw [(take_full hk hc).1, show k = ys.length by omega, List.take_length] at hno
    exact Eq.symm (decide_eq_true hno)

set_option maxRecDepth 100000 in
theorem eqPoset_c (xs ys : List (List Int)) (hl : xs.length ≤ 9223372036854775807) (hm : ys.length ≤ 9223372036854775807) (hr : ∀ r ∈ xs, r.length ≤ 9223372036854775807) (hr' : ∀ r ∈ ys, r.length ≤ 9223372036854775807) :
    PCalls Try.prog 16 [posetP xs, posetP ys] (B (decide (xs = ys))) := by
  refine pcalls1 Try.func16 rfl Try.ntmps16 rfl ?_
  simp only [List.length_cons, List.length_nil, Nat.reduceAdd, Nat.reduceSub, List.replicate_succ, List.replicate_zero, List.cons_append, List.nil_append]
  repeat' (first
| refine g_seq ?_
| refine g_region ?_
| (refine o_go rfl ?_; (first
| refine p_p (ps_callM rfl rfl (by (repeat (first | refine ⟨PV.le_refl _, ?_⟩ | refine ⟨PV.le_nn _ _ _, ?_⟩ | refine ⟨PV.le_nil _, ?_⟩ | refine ⟨PV.le_any _, ?_⟩)); exact trivial) (by rfl) (eqIntSS_c _ _ hl hm hr hr')) ?_
| refine p_p (ps_assign rfl) ?_
| refine p_p (ps_load_cell rfl rfl) ?_
| refine p_p (ps_fieldAddr rfl rfl) ?_
| refine p_p (ps_not rfl rfl) ?_
| refine p_p (ps_box rfl rfl) ?_); refine ⟨_, (by dsimp only [St.put, St.setObj, St.ev, killP, killA, killP1, killH, mapHO, renP, renA, ren1, killG, killGA, killG1, krowP, krowA, krow1, lendP, lendA, lend1, unv, pinP, pin1, elemsM, viewM, viewN, viewV, n_set_z, n_set_s, n_map_c, n_map_n, getD_z, getD_s, n_toNat, n_cond_t, n_cond_f, n_len_c, n_len_n, n_app_c, n_app_n, n_take_s, n_take_z, n_drop_s, n_drop_z, n_get_z, n_get_s, view, viewA, view1, elems, Nat.reduceAdd, Nat.reduceMul, Nat.zero_add, Nat.add_zero, Nat.reduceBEq, Bool.not_true, Bool.not_false, Nat.one_ne_zero, Nat.mul_one, reduceCtorEq]), ?_⟩)
| refine o_nil ?_
| (refine g_condN rfl (fun hc => ?_) (fun hc => ?_) <;> try (exfalso; omega))
| refine kr1 ?_
| refine krB rfl ?_
| refine g_skip ?_
| refine g_ret ?_)
  · exact Eq.symm (decide_eq_false hc)
  · exact Eq.symm (decide_eq_true hc)
end Go.Proofs.Ytmkhciigejodaaa
