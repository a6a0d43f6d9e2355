/- Walks: the program's count of downsets and lattice of downsets. -/
import Derived.Test.YtbfmjknngofleaaGreatLCg
import Derived.Test.YtbfmjknngofleaaGreatLSh
namespace Go.Proofs.YtbfmjknngofleaaGreat
open Go Go.Pv Go.Proofs
attribute [local bitvec_to_nat] St.put St.setObj St.ev killP killA killP1 killH mapHO renP renA ren1 killG killGA killG1 krowP krowA krow1 lendP lendA lend1 unv pinP pin1 elemsM viewM viewN viewV n_set_z n_set_s n_map_c n_map_n getD_z getD_s n_toNat n_cond_t n_cond_f n_len_c n_len_n n_app_c n_app_n n_take_s n_take_z n_drop_s n_drop_z n_get_z n_get_s view viewA view1 elems Nat.zero_add Nat.add_zero Bool.not_true Bool.not_false Nat.one_ne_zero Nat.mul_one

set_option maxHeartbeats 1000000 in
set_option maxRecDepth 100000 in
theorem ihasnot_c (l : List Int) (x : Int) (hl : l.length ≤ 1048576) : PCalls Tryz.prog 129 [ints l, I x] (B (!l.contains x)) := by
  refine pcalls1 Tryz.func129 rfl Tryz.ntmps129 rfl ?_
  simp only [List.length_cons, List.length_nil, Nat.reduceAdd, Nat.reduceSub, List.replicate_succ, List.replicate_zero, List.cons_append, List.nil_append]
  repeat' (first
| refine g_seq ?_
| refine g_block ?_
| refine g_region ?_
| (refine o_go rfl ?_; (first
| refine p_p (ps_move rfl) ?_
| refine p_p (ps_assign rfl) ?_
| refine p_p (ps_lenM rfl rfl rfl) ?_); refine ⟨_, (by dsimp only [bitvec_to_nat, Nat.reduceAdd, Nat.reduceMul, Nat.reduceBEq, reduceCtorEq]), ?_⟩)
| refine o_nil ?_)
  refine g_loopT (α := Nat) (fun k => [(9, I (k : Int))]) (fun _ => []) (fun k => k ≤ l.length ∧ (l.take k).contains x = false) (fun k => l.length - k) 0 (by simp only [havoc, dsts, List.filterMap_cons, List.filterMap_nil, List.foldl_cons, List.foldl_nil, List.cons_append, List.nil_append, List.append_nil, List.set_cons_succ, List.set_cons_zero]; exact rfl) ⟨Nat.zero_le _, by simp⟩ ⟨rfl, trivial⟩ rfl ?_
  rintro k ⟨hk, hno⟩
  dsimp only [setMany, List.set_cons_zero, List.set_cons_succ]
  repeat' (first
| refine g_seq ?_
| refine g_block ?_
| refine g_region ?_
| (refine o_go rfl ?_; (first
| refine p_p (ps_move rfl) ?_
| refine p_p (ps_assign rfl) ?_
| refine p_p (ps_load_cell rfl rfl) ?_
| refine p_p (ps_index rfl rfl rfl (by omega) (by first | exact idx_I (by omega) | exact idx_B (by omega) | exact idx_ints (by omega) | exact idx_bools (by omega) | exact idx_intss (by omega) | rfl) (by exact rfl)) ?_
| refine p_p (ps_lss rfl rfl rfl) ?_
| refine p_p (ps_add rfl rfl rfl (by constructor <;> omega)) ?_
| refine p_p (ps_eql rfl rfl rfl) ?_); refine ⟨_, (by dsimp only [bitvec_to_nat, Nat.reduceAdd, Nat.reduceMul, Nat.reduceBEq, reduceCtorEq]), ?_⟩)
| refine o_nil ?_
| (refine g_condD rfl (fun hc => ?_) (fun hc => ?_) <;> try (exfalso; omega))
| refine kr1 ?_
| refine krB rfl ?_
| refine g_skip ?_
| refine g_exit ?_
| refine g_ret ?_)
  · rw [contains_at (k := k) (by omega) hc.symm]; rfl
  · refine k_round (k + 1) ⟨by omega, ?_⟩ (by omega) (by repeat (first | exact trivial | refine ⟨.inl rfl, ?_⟩ | refine ⟨.inr rfl, ?_⟩)) ⟨rfl, trivial⟩ (hpLe_nil _)
    rw [take_snoc 0 (by omega), contains_snoc, hno, decide_eq_false (fun e => hc e.symm)]; rfl
  · rw [(take_full hk hc).1] at hno
    rw [hno]; rfl
set_option maxHeartbeats 1000000 in
set_option maxRecDepth 100000 in
theorem ipart_c (xs ys : List Int) (hx : xs.length ≤ 1048576) (hy : ys.length ≤ 1048576) : PCalls Tryz.prog 90 [ints xs, ints ys] (B (withinB xs ys)) := by
  refine pcalls1 Tryz.func90 rfl Tryz.ntmps90 rfl ?_
  simp only [List.length_cons, List.length_nil, Nat.reduceAdd, Nat.reduceSub, List.replicate_succ, List.replicate_zero, List.cons_append, List.nil_append]
  repeat' (first
| refine g_seq ?_
| refine g_block ?_
| refine g_region ?_
| (refine o_go rfl ?_; (first
| refine p_p (ps_move rfl) ?_
| refine p_p (ps_assign rfl) ?_
| refine p_p (ps_lenM rfl rfl rfl) ?_); refine ⟨_, (by dsimp only [bitvec_to_nat, Nat.reduceAdd, Nat.reduceMul, Nat.reduceBEq, reduceCtorEq]), ?_⟩)
| refine o_nil ?_)
  refine g_loopT (α := Nat) (fun k => [(9, I (k : Int))]) (fun _ => []) (fun k => k ≤ xs.length ∧ withinB (xs.take k) ys = true) (fun k => xs.length - k) 0 (by simp only [havoc, dsts, List.filterMap_cons, List.filterMap_nil, List.foldl_cons, List.foldl_nil, List.cons_append, List.nil_append, List.append_nil, List.set_cons_succ, List.set_cons_zero]; exact rfl) ⟨Nat.zero_le _, by simp [withinB]⟩ ⟨rfl, trivial⟩ rfl ?_
  rintro k ⟨hk, hno⟩
  dsimp only [setMany, List.set_cons_zero, List.set_cons_succ]
  have c1 := ihasnot_c ys (xs.getD k 0) hy
  cases hm : ys.contains (xs.getD k 0) with
  | false =>
    rw [hm] at c1
    repeat' (first
| refine g_seq ?_
| refine g_block ?_
| refine g_region ?_
| (refine o_go rfl ?_; (first
| refine p_p (ps_call rfl rfl (by (repeat (first | refine ⟨PV.le_refl _, ?_⟩ | refine ⟨PV.le_nn _ _ _, ?_⟩ | refine ⟨PV.le_nil _, ?_⟩ | refine ⟨PV.le_any _, ?_⟩)); exact trivial) (c1)) ?_
| refine p_p (ps_move rfl) ?_
| refine p_p (ps_assign rfl) ?_
| refine p_p (ps_load_cell rfl rfl) ?_
| refine p_p (ps_index rfl rfl rfl (by omega) (by first | exact idx_I (by omega) | exact idx_B (by omega) | exact idx_ints (by omega) | exact idx_bools (by omega) | exact idx_intss (by omega) | rfl) (by exact rfl)) ?_
| refine p_p (ps_lss rfl rfl rfl) ?_); refine ⟨_, (by dsimp only [bitvec_to_nat, Nat.reduceAdd, Nat.reduceMul, Nat.reduceBEq, reduceCtorEq]), ?_⟩)
| refine o_nil ?_
| refine g_condT rfl ?_
| (refine g_condD rfl (fun hc => ?_) (fun hc => ?_) <;> try (exfalso; omega))
| refine kr1 ?_
| refine krB rfl ?_
| refine g_skip ?_
| refine g_exit ?_
| refine g_ret ?_)
    · exact Eq.symm (all_false_at (k := k) 0 (by omega) hm)
    · rw [(take_full hk (by assumption)).1] at hno
      exact hno.symm
  | true =>
    rw [hm] at c1
    repeat' (first
| refine g_seq ?_
| refine g_block ?_
| refine g_region ?_
| (refine o_go rfl ?_; (first
| refine p_p (ps_call rfl rfl (by (repeat (first | refine ⟨PV.le_refl _, ?_⟩ | refine ⟨PV.le_nn _ _ _, ?_⟩ | refine ⟨PV.le_nil _, ?_⟩ | refine ⟨PV.le_any _, ?_⟩)); exact trivial) (c1)) ?_
| refine p_p (ps_move rfl) ?_
| refine p_p (ps_assign rfl) ?_
| refine p_p (ps_load_cell rfl rfl) ?_
| refine p_p (ps_index rfl rfl rfl (by omega) (by first | exact idx_I (by omega) | exact idx_B (by omega) | exact idx_ints (by omega) | exact idx_bools (by omega) | exact idx_intss (by omega) | rfl) (by exact rfl)) ?_
| refine p_p (ps_lss rfl rfl rfl) ?_
| refine p_p (ps_add rfl rfl rfl (by constructor <;> omega)) ?_); refine ⟨_, (by dsimp only [bitvec_to_nat, Nat.reduceAdd, Nat.reduceMul, Nat.reduceBEq, reduceCtorEq]), ?_⟩)
| refine o_nil ?_
| refine g_condF rfl ?_
| (refine g_condD rfl (fun hc => ?_) (fun hc => ?_) <;> try (exfalso; omega))
| refine kr1 ?_
| refine krB rfl ?_
| refine g_skip ?_
| refine g_exit ?_
| refine g_ret ?_)
    · refine k_round (k + 1) ⟨by omega, ?_⟩ (by omega) (by repeat (first | exact trivial | refine ⟨.inl rfl, ?_⟩ | refine ⟨.inr rfl, ?_⟩)) ⟨rfl, trivial⟩ (hpLe_nil _)
      unfold withinB at hno ⊢
      rw [take_snoc 0 (by omega), all_snoc, hno, hm]; rfl
    · rw [(take_full hk (by assumption)).1] at hno
      exact hno.symm
set_option maxHeartbeats 1000000 in
set_option maxRecDepth 100000 in
theorem icd_c (rows : List (List Int)) (hok : okP rows) : PCalls Tryz.prog 38 [posetP rows] (.tup [I (cdV rows), B (goodP rows)]) := by
  refine pcalls2 Tryz.func38 rfl Tryz.ntmps38 rfl ?_
  simp only [List.length_cons, List.length_nil, Nat.reduceAdd, Nat.reduceSub, List.replicate_succ, List.replicate_zero, List.cons_append, List.nil_append]
  unfold cdV
  cases hg : goodP rows with
  | false =>
    have ho : okO rows = false := by rw [okO_good]; exact hg
    have h1 := orderOf_c rows hok .any ⟨fun h => (by rw [ho] at h; cases h), fun _ => rfl⟩
    rw [ho] at h1
    repeat' (first
| refine g_seq ?_
| refine g_region ?_
| (refine o_go rfl ?_; (first
| refine p_p (ps_call rfl rfl (by (repeat (first | refine ⟨PV.le_refl _, ?_⟩ | refine ⟨PV.le_nn _ _ _, ?_⟩ | refine ⟨PV.le_nil _, ?_⟩ | refine ⟨PV.le_any _, ?_⟩)); exact trivial) (h1)) ?_
| refine p_p (ps_move rfl) ?_
| refine p_p (ps_assign rfl) ?_
| refine p_p (ps_load_agg rfl rfl (by exact Nat.le_of_ble_eq_true rfl)) ?_
| refine p_p (ps_extract rfl rfl rfl) ?_
| refine p_p (ps_not rfl rfl) ?_
| refine p_p (ps_box rfl rfl) ?_); refine ⟨_, (by dsimp only [bitvec_to_nat, Nat.reduceAdd, Nat.reduceMul, Nat.reduceBEq, reduceCtorEq]), ?_⟩)
| refine o_nil ?_
| refine g_condT rfl ?_
| refine kr2 ?_ ?_
| refine krB rfl ?_
| refine krI rfl ?_
| refine g_ret ?_)
    all_goals rfl
  | true =>
    have ho : okO rows = true := by rw [okO_good]; exact hg
    have h1 := orderOf_c rows hok _ ⟨fun _ => rfl, fun h => (by rw [ho] at h; cases h)⟩
    rw [ho, tabOf_Z] at h1
    have R := rfl_of hg
    have h2 := ds_1024 R
    have c2 : PCalls Tryz.prog 79 [boolss (tabZ rows.length (leqB rows))] (intss (dsO rows)) := (ids_R rows R (by rw [← dsO_len]; omega)).plain rfl (by simp only [viewM, viewV, List.getElem?_cons_zero, List.map_map]; rfl)
    repeat' (first
| refine g_seq ?_
| refine g_region ?_
| (refine o_go rfl ?_; (first
| refine p_p (ps_call rfl rfl (by (repeat (first | refine ⟨PV.le_refl _, ?_⟩ | refine ⟨PV.le_nn _ _ _, ?_⟩ | refine ⟨PV.le_nil _, ?_⟩ | refine ⟨PV.le_any _, ?_⟩)); exact trivial) (h1)) ?_
| refine p_p (ps_call rfl rfl (by (repeat (first | refine ⟨PV.le_refl _, ?_⟩ | refine ⟨PV.le_nn _ _ _, ?_⟩ | refine ⟨PV.le_nil _, ?_⟩ | refine ⟨PV.le_any _, ?_⟩)); exact trivial) (c2)) ?_
| refine p_p (ps_move rfl) ?_
| refine p_p (ps_assign rfl) ?_
| refine p_p (ps_load_agg rfl rfl (by exact Nat.le_of_ble_eq_true rfl)) ?_
| refine p_p (ps_lenM rfl rfl rfl) ?_
| refine p_p (ps_extract rfl rfl rfl) ?_
| refine p_p (ps_not rfl rfl) ?_
| refine p_p (ps_box rfl rfl) ?_); refine ⟨_, (by dsimp only [bitvec_to_nat, Nat.reduceAdd, Nat.reduceMul, Nat.reduceBEq, reduceCtorEq]), ?_⟩)
| refine o_nil ?_
| refine g_condF rfl ?_
| refine kr2 ?_ ?_
| refine krB rfl ?_
| refine krI rfl ?_
| refine g_skip ?_
| refine g_ret ?_)
    all_goals rfl
set_option maxRecDepth 100000 in
theorem idlF_c (rows : List (List Int)) (hok : okP rows) (hf : dlB rows = false) : PCalls Tryz.prog 37 [posetP rows] (.tup [.agg [nilV], B false]) := by
  refine pcallsCT Tryz.func37 rfl Tryz.ntmps37 rfl ?_
  simp only [List.length_cons, List.length_nil, Nat.reduceAdd, Nat.reduceSub, List.replicate_succ, List.replicate_zero, List.cons_append, List.nil_append]
  unfold dlB at hf
  cases hg : goodP rows with
  | false =>
    have ho : okO rows = false := by rw [okO_good]; exact hg
    have h1 := orderOf_c rows hok .any ⟨fun h => (by rw [ho] at h; cases h), fun _ => rfl⟩
    rw [ho] at h1
    repeat' (first
| refine g_seq ?_
| refine g_region ?_
| (refine o_go rfl ?_; (first
| refine p_p (ps_call rfl rfl (by (repeat (first | refine ⟨PV.le_refl _, ?_⟩ | refine ⟨PV.le_nn _ _ _, ?_⟩ | refine ⟨PV.le_nil _, ?_⟩ | refine ⟨PV.le_any _, ?_⟩)); exact trivial) (h1)) ?_
| refine p_p (ps_move rfl) ?_
| refine p_p (ps_assign rfl) ?_
| refine p_p (ps_load_agg rfl rfl (by exact Nat.le_of_ble_eq_true rfl)) ?_
| refine p_p (ps_extract rfl rfl rfl) ?_
| refine p_p (ps_not rfl rfl) ?_
| refine p_e rfl (e_store_boxA rfl rfl rfl rfl (by exact Nat.le_of_ble_eq_true rfl) rfl rfl rfl) ?_
| refine p_e rfl (e_alloc rfl) ?_
| refine p_p (ps_box rfl rfl) ?_
| refine p_p (ps_build rfl rfl) ?_); refine ⟨_, (by dsimp only [bitvec_to_nat, Nat.reduceAdd, Nat.reduceMul, Nat.reduceBEq, reduceCtorEq]), ?_⟩)
| refine o_nil ?_
| refine g_condT rfl ?_
| refine krct ?_ ?_
| refine krC rfl (by exact Nat.le_of_ble_eq_true rfl) ?_
| refine krB rfl ?_
| refine g_ret ?_)
    all_goals rfl
  | true =>
    rw [hg, Bool.true_and, decide_eq_false_iff_not] at hf
    have ho : okO rows = true := by rw [okO_good]; exact hg
    have h1 := orderOf_c rows hok _ ⟨fun _ => rfl, fun h => (by rw [ho] at h; cases h)⟩
    rw [ho, tabOf_Z] at h1
    have R := rfl_of hg
    have h2 := ds_1024 R
    have c2 : PCalls Tryz.prog 79 [boolss (tabZ rows.length (leqB rows))] (intss (dsO rows)) := (ids_R rows R (by rw [← dsO_len]; omega)).plain rfl (by simp only [viewM, viewV, List.getElem?_cons_zero, List.map_map]; rfl)
    repeat' (first
| refine g_seq ?_
| refine g_region ?_
| (refine o_go rfl ?_; (first
| refine p_p (ps_call rfl rfl (by (repeat (first | refine ⟨PV.le_refl _, ?_⟩ | refine ⟨PV.le_nn _ _ _, ?_⟩ | refine ⟨PV.le_nil _, ?_⟩ | refine ⟨PV.le_any _, ?_⟩)); exact trivial) (h1)) ?_
| refine p_p (ps_call rfl rfl (by (repeat (first | refine ⟨PV.le_refl _, ?_⟩ | refine ⟨PV.le_nn _ _ _, ?_⟩ | refine ⟨PV.le_nil _, ?_⟩ | refine ⟨PV.le_any _, ?_⟩)); exact trivial) (c2)) ?_
| refine p_p (ps_move rfl) ?_
| refine p_p (ps_assign rfl) ?_
| refine p_p (ps_load_agg rfl rfl (by exact Nat.le_of_ble_eq_true rfl)) ?_
| refine p_p (ps_lenM rfl rfl rfl) ?_
| refine p_p (ps_extract rfl rfl rfl) ?_
| refine p_p (ps_not rfl rfl) ?_
| refine p_p (ps_gtr rfl rfl rfl) ?_
| refine p_e rfl (e_store_boxA rfl rfl rfl rfl (by exact Nat.le_of_ble_eq_true rfl) rfl rfl rfl) ?_
| refine p_e rfl (e_alloc rfl) ?_
| refine p_p (ps_box rfl rfl) ?_
| refine p_p (ps_build rfl rfl) ?_); refine ⟨_, (by dsimp only [bitvec_to_nat, Nat.reduceAdd, Nat.reduceMul, Nat.reduceBEq, reduceCtorEq]), ?_⟩)
| refine o_nil ?_
| refine g_condF rfl ?_
| (refine g_condD rfl (fun hc => ?_) (fun hc => ?_) <;> try (exfalso; omega))
| refine krct ?_ ?_
| refine krC rfl (by exact Nat.le_of_ble_eq_true rfl) ?_
| refine krB rfl ?_
| refine g_skip ?_
| refine g_ret ?_)
    all_goals rfl
def dlX (V : List (List Int)) (x i : Nat) (a b : Nat) : Bool := (decide (a < x) || decide (a = x ∧ b < i)) && withinB (V.getD a []) (V.getD b [])
set_option maxHeartbeats 1000000 in
set_option maxRecDepth 100000 in
theorem idlT_c (rows : List (List Int)) (hok : okP rows) (hf : dlB rows = true) : RCalls Tryz.prog 37 [posetP rows] (gridI (dlV rows)) (.tup [.agg [.hp 0], B true]) := by
  refine pcallsRC2 Tryz.func37 rfl Tryz.ntmps37 rfl ?_
  simp only [List.length_cons, List.length_nil, Nat.reduceAdd, Nat.reduceSub, List.replicate_succ, List.replicate_zero, List.cons_append, List.nil_append]
  unfold dlB at hf
  rw [Bool.and_eq_true, decide_eq_true_eq] at hf
  have ho : okO rows = true := by rw [okO_good]; exact hf.1
  have h1 := orderOf_c rows hok _ ⟨fun _ => rfl, fun h => (by rw [ho] at h; cases h)⟩
  rw [ho, tabOf_Z] at h1
  have R := rfl_of hf.1
  have h2 := hf.2
  have c2 : PCalls Tryz.prog 79 [boolss (tabZ rows.length (leqB rows))] (intss (dsO rows)) := (ids_R rows R (by rw [← dsO_len]; omega)).plain rfl (by simp only [viewM, viewV, List.getElem?_cons_zero, List.map_map]; rfl)
  have hrw : ∀ j, j < (dsO rows).length → ((dsO rows).getD j []).length ≤ 1048576 := fun j hj => by
    have hm : (dsO rows).getD j [] ∈ dsO rows := getD_mem hj
    have := dsO_row hm
    have := R.n
    omega
  generalize hV : dsO rows = V at *
  repeat' (first
| refine g_seq ?_
| refine g_block ?_
| refine g_region ?_
| (refine o_go rfl ?_; (first
| refine p_p (ps_call rfl rfl (by (repeat (first | refine ⟨PV.le_refl _, ?_⟩ | refine ⟨PV.le_nn _ _ _, ?_⟩ | refine ⟨PV.le_nil _, ?_⟩ | refine ⟨PV.le_any _, ?_⟩)); exact trivial) (h1)) ?_
| refine p_p (ps_call rfl rfl (by (repeat (first | refine ⟨PV.le_refl _, ?_⟩ | refine ⟨PV.le_nn _ _ _, ?_⟩ | refine ⟨PV.le_nil _, ?_⟩ | refine ⟨PV.le_any _, ?_⟩)); exact trivial) (c2)) ?_
| refine p_e rfl (e_callR rfl rfl (by (repeat (first | refine ⟨PV.le_refl _, ?_⟩ | refine ⟨PV.le_nn _ _ _, ?_⟩ | refine ⟨PV.le_nil _, ?_⟩ | refine ⟨PV.le_any _, ?_⟩)); exact trivial) rfl (newOrder_c _ (by omega))) ?_
| refine p_p (ps_move rfl) ?_
| refine p_p (ps_assign rfl) ?_
| refine p_p (ps_load_agg rfl rfl (by exact Nat.le_of_ble_eq_true rfl)) ?_
| refine p_p (ps_lenM rfl rfl rfl) ?_
| refine p_p (ps_extract rfl rfl rfl) ?_
| refine p_p (ps_not rfl rfl) ?_
| refine p_p (ps_gtr rfl rfl rfl) ?_
| refine p_e rfl (e_alloc rfl) ?_
| refine p_p (ps_box rfl rfl) ?_); refine ⟨_, (by dsimp only [bitvec_to_nat, Nat.reduceAdd, Nat.reduceMul, Nat.reduceBEq, reduceCtorEq]), ?_⟩)
| refine o_nil ?_
| refine g_condF rfl ?_
| (refine g_condD rfl (fun hc => ?_) (fun hc => ?_) <;> try (exfalso; omega))
| refine g_skip ?_)
  rw [show gridB (falses V.length) = gridB (tabF V.length (dlX V 0 0)) by
    unfold falses; rw [falses_F]; exact congrArg gridB (tabF_congr fun a b _ _ => by unfold dlX; simp)]
  refine g_loopT (α := Nat) (fun x => [(31, I (x : Int))]) (fun x => [.box [nilV], gridB (tabF V.length (dlX V x 0))]) (fun x => x ≤ V.length) (fun x => V.length - x) 0 (by simp only [havoc, dsts, List.filterMap_cons, List.filterMap_nil, List.foldl_cons, List.foldl_nil, List.cons_append, List.nil_append, List.append_nil, List.set_cons_succ, List.set_cons_zero]; exact rfl) (Nat.zero_le _) ⟨rfl, trivial⟩ rfl ?_
  rintro x hx
  dsimp only [setMany, List.set_cons_zero, List.set_cons_succ]
  by_cases hxe : x < V.length
  · have hrx := hrw x hxe
    repeat' (first
| refine g_seq ?_
| refine g_block ?_
| refine g_region ?_
| (refine o_go rfl ?_; (first
| refine p_p (ps_move rfl) ?_
| refine p_p (ps_assign rfl) ?_
| refine p_p (ps_load_cell rfl rfl) ?_
| refine p_p (ps_index rfl rfl rfl (by omega) (by first | exact idx_I (by omega) | exact idx_B (by omega) | exact idx_ints (by omega) | exact idx_bools (by omega) | exact idx_intss (by omega) | rfl) (by exact rfl)) ?_
| refine p_p (ps_lenM rfl rfl rfl) ?_
| refine p_p (ps_lss rfl rfl rfl) ?_); refine ⟨_, (by dsimp only [bitvec_to_nat, Nat.reduceAdd, Nat.reduceMul, Nat.reduceBEq, reduceCtorEq]), ?_⟩)
| refine o_nil ?_
| (refine g_condD rfl (fun hc => ?_) (fun hc => ?_) <;> try (exfalso; omega))
| refine g_skip ?_)
    refine g_loopT (α := Nat) (fun y => [(38, I (y : Int))]) (fun y => [.box [nilV], gridB (tabF V.length (dlX V x y))]) (fun y => y ≤ V.length) (fun y => V.length - y) 0 (by simp only [havoc, dsts, List.filterMap_cons, List.filterMap_nil, List.foldl_cons, List.foldl_nil, List.cons_append, List.nil_append, List.append_nil, List.set_cons_succ, List.set_cons_zero]; exact rfl) (Nat.zero_le _) ⟨rfl, trivial⟩ rfl ?_
    rintro y hy
    dsimp only [setMany, List.set_cons_zero, List.set_cons_succ]
    by_cases hye : y < V.length
    · have hry := hrw y hye
      have hlen := length_tabF V.length (dlX V x y)
      have hrl : ∀ a, a < V.length → ((tabF V.length (dlX V x y)).getD a []).length = V.length := fun a ha => by rw [getD_tabF ha]; simp
      have c3 := ipart_c (V.getD x []) (V.getD y []) hrx hry
      repeat' (first
| refine g_seq ?_
| refine g_block ?_
| refine g_region ?_
| refine g_region_draw (by kernel_rfl) (by kernel_rfl) ?_
| (refine o_go rfl ?_; (first
| refine p_p (ps_call rfl rfl (by (repeat (first | refine ⟨PV.le_refl _, ?_⟩ | refine ⟨PV.le_nn _ _ _, ?_⟩ | refine ⟨PV.le_nil _, ?_⟩ | refine ⟨PV.le_any _, ?_⟩)); exact trivial) (c3)) ?_
| refine p_p (ps_index_grid rfl rfl rfl rfl (by omega) (by rw [List.length_map, hlen, n_toNat]; omega)) ?_
| refine p_p (ps_load_row rfl rfl rfl (by rw [List.length_map, hlen]; omega)) ?_
| refine p_p (ps_index_row rfl rfl rfl (by exact idx_gridB (by rw [hlen]; omega)) rfl (by omega) (by rw [n_toNat, List.length_map, hrl _ (by omega)]; omega)) ?_
| refine p_e rfl (e_store_grid rfl rfl rfl rfl (by exact idx_gridB (by rw [hlen]; omega)) (by rw [List.length_map, hrl _ (by omega)]; omega) rfl rfl) ?_
| refine p_p (ps_move rfl) ?_
| refine p_p (ps_assign rfl) ?_
| refine p_p (ps_load_cell rfl rfl) ?_
| refine p_p (ps_index rfl rfl rfl (by omega) (by first | exact idx_I (by omega) | exact idx_B (by omega) | exact idx_ints (by omega) | exact idx_bools (by omega) | exact idx_intss (by omega) | rfl) (by exact rfl)) ?_
| refine p_p (ps_lss rfl rfl rfl) ?_
| refine p_p (ps_add rfl rfl rfl (by constructor <;> omega)) ?_); refine ⟨_, (by dsimp only [bitvec_to_nat, Nat.reduceAdd, Nat.reduceMul, Nat.reduceBEq, reduceCtorEq]), ?_⟩)
| refine o_nil ?_
| (refine g_condD rfl (fun hc => ?_) (fun hc => ?_) <;> try (exfalso; omega))
| refine g_skip ?_)
      refine k_round (y + 1) (by omega) (by omega) (by repeat (first | exact trivial | refine ⟨.inl rfl, ?_⟩ | refine ⟨.inr rfl, ?_⟩)) ⟨rfl, trivial⟩ (hpLe_cons rfl (hpLe_cons ?_ (hpLe_nil _)))
      refine congrArg (HO.grid 85 4) ?_
      rw [gridB_set (show x < V.length by omega) (show y < V.length by omega) (f' := dlX V x (y + 1)) (fun a b ha hb => ?_)]
      unfold dlX
      by_cases e : a = x ∧ b = y
      · rw [if_pos e, decide_eq_true (show a = x ∧ b < y + 1 by omega), Bool.or_true, Bool.true_and, e.1, e.2]
      · rw [if_neg e]
        have : decide (a = x ∧ b < y + 1) = decide (a = x ∧ b < y) := by rw [Bool.eq_iff_iff]; simp; omega
        rw [this]
    · repeat' (first
| refine g_seq ?_
| refine g_region ?_
| (refine o_go rfl ?_; (first
| refine p_p (ps_move rfl) ?_
| refine p_p (ps_lss rfl rfl rfl) ?_
| refine p_p (ps_add rfl rfl rfl (by constructor <;> omega)) ?_); refine ⟨_, (by dsimp only [bitvec_to_nat, Nat.reduceAdd, Nat.reduceMul, Nat.reduceBEq, reduceCtorEq]), ?_⟩)
| refine o_nil ?_
| (refine g_condD rfl (fun hc => ?_) (fun hc => ?_) <;> try (exfalso; omega))
| refine g_exit ?_)
      refine k_round (x + 1) (by omega) (by omega) (by repeat (first | exact trivial | refine ⟨.inl rfl, ?_⟩ | refine ⟨.inr rfl, ?_⟩)) ⟨rfl, trivial⟩ (hpLe_cons rfl (hpLe_cons ?_ (hpLe_nil _)))
      refine congrArg gridB (tabF_congr fun a b ha hb => ?_)
      unfold dlX
      have : (decide (a < x) || decide (a = x ∧ b < y)) = (decide (a < x + 1) || decide (a = x + 1 ∧ b < 0)) := by rw [Bool.eq_iff_iff]; simp; omega
      rw [this]
  · have e : tabF V.length (dlX V x 0) = tabZ V.length (fun a b => withinB (V.getD a.toNat []) (V.getD b.toNat [])) := by
      refine tabF_congr (g := fun a b => withinB (V.getD (a : Int).toNat []) (V.getD (b : Int).toNat [])) fun a b ha hb => ?_
      unfold dlX
      rw [decide_eq_true (show a < x by omega)]; rfl
    have hp := iposet_R V.length (fun a b => withinB (V.getD a.toNat []) (V.getD b.toNat [])) (by omega)
    have hpo : posO V.length (fun a b => withinB (V.getD a.toNat []) (V.getD b.toNat [])) V.length = dlL V V.length := rfl
    rw [hpo] at hp
    rw [e]
    have hvw : PV.sl 1 none (((tabZ V.length (fun a b => withinB (V.getD a.toNat []) (V.getD b.toNat []))).map fun r => r.map B).map fun r => .sl 1 none r) = boolss (tabZ V.length (fun a b => withinB (V.getD a.toNat []) (V.getD b.toNat []))) := viewM_gridB
    rw [← hvw] at hp
    repeat' (first
| refine g_seq ?_
| refine g_region ?_
| (refine o_go rfl ?_; (first
| refine p_e rfl (e_callR rfl rfl (by (repeat (first | refine ⟨PV.le_refl _, ?_⟩ | refine ⟨PV.le_nn _ _ _, ?_⟩ | refine ⟨PV.le_nil _, ?_⟩ | refine ⟨PV.le_any _, ?_⟩)); exact trivial) rfl (hp)) ?_
| refine p_p (ps_move rfl) ?_
| refine p_p (ps_assign rfl) ?_
| refine p_p (ps_lss rfl rfl rfl) ?_
| refine p_e rfl (e_store_boxA rfl rfl rfl rfl (by exact Nat.le_of_ble_eq_true rfl) rfl rfl rfl) ?_); refine ⟨_, (by dsimp only [bitvec_to_nat, Nat.reduceAdd, Nat.reduceMul, Nat.reduceBEq, reduceCtorEq]), ?_⟩)
| refine o_nil ?_
| (refine g_condD rfl (fun hc => ?_) (fun hc => ?_) <;> try (exfalso; omega))
| refine g_exit ?_
| refine g_ret ?_)
    refine krrc2 2 0 rfl rfl rfl (HandOut.grid rfl ?_ (sc_maps (fun _ => rfl) _))
    unfold dlV
    rw [hV]
end Go.Proofs.YtbfmjknngofleaaGreat
