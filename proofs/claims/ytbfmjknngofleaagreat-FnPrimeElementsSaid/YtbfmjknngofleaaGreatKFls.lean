/- FreeLatticeSize: the reference's count of the monotone functions, and the program's table. -/
import Derived.Test.YtbfmjknngofleaaGreatKSq
import Derived.Test.YtbfmjknngofleaaGreatKTy
namespace Go.Proofs.YtbfmjknngofleaaGreat
open Go Go.Pv Go.Proofs

def okBit (f x b : Nat) : Bool := !decide (((x &&& b : Nat) : Int) = 0) || decide (((f >>> x &&& 1 : Nat) : Int) ≤ ((f >>> (x ||| b) &&& 1 : Nat) : Int))
def okRow (n f x : Nat) : Bool := allN n fun i => okBit f x (2 ^ i)
def fineB (n f : Nat) : Bool := allN (2 ^ n) fun x => okRow n f x
def cntB (n m : Nat) : Nat := ((List.range m).filter (fineB n)).length
theorem cntB_succ (n m : Nat) : cntB n (m + 1) = cntB n m + if fineB n m = true then 1 else 0 := by
  unfold cntB
  rw [List.range_succ, List.filter_append, List.length_append]
  by_cases h : fineB n m = true
  · simp [h]
  · simp [h]
theorem cntB_le (n m : Nat) : cntB n m ≤ m := by
  unfold cntB
  exact Nat.le_trans (List.length_filter_le _ _) (by simp)

theorem allN_le_false {n k : Nat} {p : Nat → Bool} (h : allN k p = false) (hk : k ≤ n) : allN n p = false := by
  cases hn : allN n p with
  | false => rfl
  | true =>
    rw [allN_iff] at hn
    rw [← h]
    exact (allN_iff.2 fun i hi => hn i (by omega)).symm

set_option maxRecDepth 100000 in
theorem fls_no (k : Int) (h : inB k 0 4 = false) : PCalls Tryz.prog 27 [I k] (.tup [I 0, B false]) := by
  refine pcalls2 Tryz.func27 rfl Tryz.ntmps27 rfl ?_
  simp only [List.length_cons, List.length_nil, Nat.reduceAdd, Nat.reduceSub, List.replicate_succ, List.replicate_zero, List.cons_append, List.nil_append]
  have hin := in_c k 0 4
  rw [h] at hin
  repeat' (first
| refine g_seq ?_
| refine g_region ?_
| (refine o_go rfl ?_; (first
| refine p_p (ps_call rfl rfl (by (repeat (first | refine ⟨PV.le_refl _, ?_⟩ | refine ⟨PV.le_nn _ _ _, ?_⟩ | refine ⟨PV.le_nil _, ?_⟩ | refine ⟨PV.le_any _, ?_⟩)); exact trivial) (hin)) ?_
| refine p_p (ps_move rfl) ?_
| refine p_p (ps_assign rfl) ?_
| refine p_p (ps_not rfl rfl) ?_); refine ⟨_, (by dsimp only [St.put, St.setObj, St.ev, killP, killA, killP1, killH, mapHO, renP, renA, ren1, killG, killGA, killG1, krowP, krowA, krow1, lendP, lendA, lend1, unv, pinP, pin1, elemsM, viewM, viewN, viewV, n_set_z, n_set_s, n_map_c, n_map_n, getD_z, getD_s, n_toNat, n_cond_t, n_cond_f, n_len_c, n_len_n, n_app_c, n_app_n, n_take_s, n_take_z, n_drop_s, n_drop_z, n_get_z, n_get_s, view, viewA, view1, elems, Nat.reduceAdd, Nat.reduceMul, Nat.zero_add, Nat.add_zero, Nat.reduceBEq, Bool.not_true, Bool.not_false, Nat.one_ne_zero, Nat.mul_one, reduceCtorEq]), ?_⟩)
| refine o_nil ?_
| refine g_condT rfl ?_
| refine kr2 ?_ ?_
| refine krB rfl ?_
| refine krI rfl ?_
| refine g_ret ?_)
  all_goals first | rfl | (exfalso; simp_all; done)

set_option maxHeartbeats 2000000 in
set_option maxRecDepth 100000 in
theorem fls_yes (n : Nat) (hn : n ≤ 4) : PCalls Tryz.prog 27 [I (n : Int)] (.tup [I ((cntB n (2 ^ 2 ^ n) : Nat) : Int), B true]) := by
  refine pcalls2 Tryz.func27 rfl Tryz.ntmps27 rfl ?_
  simp only [List.length_cons, List.length_nil, Nat.reduceAdd, Nat.reduceSub, List.replicate_succ, List.replicate_zero, List.cons_append, List.nil_append]
  have hin := in_c n 0 4
  rw [show inB n 0 4 = true by unfold inB; rw [decide_eq_true (by omega), decide_eq_true (by omega)]; rfl] at hin
  obtain ⟨sz, hsz⟩ : ∃ sz : Nat, sz = 2 ^ n := ⟨_, rfl⟩
  obtain ⟨M, hM⟩ : ∃ M : Nat, M = 2 ^ sz := ⟨_, rfl⟩
  have hsz1 : sz ≤ 16 := by
    rw [hsz]; exact Nat.pow_le_pow_right (i := n) (j := 4) (by omega : 2 > 0) hn
  have hM1 : M ≤ 65536 := by
    rw [hM]; exact Nat.pow_le_pow_right (i := sz) (j := 16) (by omega : 2 > 0) hsz1
  have hshl := fun (o : Oper) ev hp t rt x y ho h1 h2 => by have := ps_shl1 (P := Tryz.prog) (o := o) (ev := ev) (hp := hp) (t := t) (rt := rt) (x := x) (y := y) (b := n) ho h1 h2 (by omega); rw [← hsz] at this; exact this
  have hshl2 := fun (o : Oper) ev hp t rt x y ho h1 h2 => by have := ps_shl1 (P := Tryz.prog) (o := o) (ev := ev) (hp := hp) (t := t) (rt := rt) (x := x) (y := y) (b := sz) ho h1 h2 (by omega); rw [← hM] at this; exact this
  rw [← hsz, ← hM]
  repeat' (first
| refine g_seq ?_
| refine g_block ?_
| refine g_region ?_
| (refine o_go rfl ?_; (first
| refine p_p (ps_call rfl rfl (by (repeat (first | refine ⟨PV.le_refl _, ?_⟩ | refine ⟨PV.le_nn _ _ _, ?_⟩ | refine ⟨PV.le_nil _, ?_⟩ | refine ⟨PV.le_any _, ?_⟩)); exact trivial) (hin)) ?_
| refine p_p (hshl _ _ _ _ _ _ _ rfl rfl rfl) ?_
| refine p_p (ps_move rfl) ?_
| refine p_p (ps_assign rfl) ?_
| refine p_p (ps_not rfl rfl) ?_); refine ⟨_, (by dsimp only [St.put, St.setObj, St.ev, killP, killA, killP1, killH, mapHO, renP, renA, ren1, killG, killGA, killG1, krowP, krowA, krow1, lendP, lendA, lend1, unv, pinP, pin1, elemsM, viewM, viewN, viewV, n_set_z, n_set_s, n_map_c, n_map_n, getD_z, getD_s, n_toNat, n_cond_t, n_cond_f, n_len_c, n_len_n, n_app_c, n_app_n, n_take_s, n_take_z, n_drop_s, n_drop_z, n_get_z, n_get_s, view, viewA, view1, elems, Nat.reduceAdd, Nat.reduceMul, Nat.zero_add, Nat.add_zero, Nat.reduceBEq, Bool.not_true, Bool.not_false, Nat.one_ne_zero, Nat.mul_one, reduceCtorEq]), ?_⟩)
| refine o_nil ?_
| refine g_condF rfl ?_
| refine g_skip ?_)
  refine g_loopT (α := Nat) (fun f => [(5, I ((cntB n f : Nat) : Int)), (6, I (f : Int))]) (fun _ => []) (fun f => f ≤ M) (fun f => M - f) 0 (by simp only [havoc, dsts, List.filterMap_cons, List.filterMap_nil, List.foldl_cons, List.foldl_nil, List.cons_append, List.nil_append, List.append_nil, List.set_cons_succ, List.set_cons_zero]; exact rfl) (Nat.zero_le _) ⟨rfl, rfl, trivial⟩ rfl ?_
  rintro f hf
  dsimp only [setMany, List.set_cons_zero, List.set_cons_succ]
  have hcl := cntB_le n f
  have hsh : ∀ y, f >>> y < 9223372036854775808 := fun y => Nat.lt_of_le_of_lt (Nat.shiftRight_le _ _) (by omega)
  repeat' (first
| refine g_seq ?_
| refine g_block ?_
| refine g_region ?_
| (refine o_go rfl ?_; (first
| refine p_p (hshl2 _ _ _ _ _ _ _ rfl rfl rfl) ?_
| refine p_p (ps_move rfl) ?_
| refine p_p (ps_assign rfl) ?_
| refine p_p (ps_lss rfl rfl rfl) ?_); refine ⟨_, (by dsimp only [St.put, St.setObj, St.ev, killP, killA, killP1, killH, mapHO, renP, renA, ren1, killG, killGA, killG1, krowP, krowA, krow1, lendP, lendA, lend1, unv, pinP, pin1, elemsM, viewM, viewN, viewV, n_set_z, n_set_s, n_map_c, n_map_n, getD_z, getD_s, n_toNat, n_cond_t, n_cond_f, n_len_c, n_len_n, n_app_c, n_app_n, n_take_s, n_take_z, n_drop_s, n_drop_z, n_get_z, n_get_s, view, viewA, view1, elems, Nat.reduceAdd, Nat.reduceMul, Nat.zero_add, Nat.add_zero, Nat.reduceBEq, Bool.not_true, Bool.not_false, Nat.one_ne_zero, Nat.mul_one, reduceCtorEq]), ?_⟩)
| refine o_nil ?_
| (refine g_condD rfl (fun hc => ?_) (fun hc => ?_) <;> try (exfalso; omega))
| refine kr2 ?_ ?_
| refine krB rfl ?_
| refine krI rfl ?_
| refine g_skip ?_
| refine g_exit ?_
| refine g_ret ?_)
  · refine g_loopT (α := Nat × Bool) (fun z => [(7, B z.2), (8, I (z.1 : Int))]) (fun _ => []) (fun z => z.1 ≤ sz ∧ z.2 = allN z.1 (okRow n f)) (fun z => sz - z.1) (0, true) (by simp only [havoc, dsts, List.filterMap_cons, List.filterMap_nil, List.foldl_cons, List.foldl_nil, List.cons_append, List.nil_append, List.append_nil, List.set_cons_succ, List.set_cons_zero]; exact rfl) ⟨Nat.zero_le _, rfl⟩ ⟨rfl, rfl, trivial⟩ rfl ?_
    rintro ⟨x, fine⟩ ⟨hx, hfi⟩
    dsimp only at hx hfi
    dsimp only [setMany, List.set_cons_zero, List.set_cons_succ]
    cases fine
    · have hno : fineB n f = false := by unfold fineB; rw [← hsz]; exact allN_le_false hfi.symm hx
      have hcn : cntB n (f + 1) = cntB n f := by rw [cntB_succ, hno]; rfl
      repeat' (first
| refine g_seq ?_
| refine g_region ?_
| (refine o_go rfl ?_; (first
| refine p_p (ps_move rfl) ?_
| refine p_p (ps_assign rfl) ?_
| refine p_p (ps_lss rfl rfl rfl) ?_
| refine p_p (ps_add rfl rfl rfl (by constructor <;> omega)) ?_
| refine p_p (ps_pick rfl rfl) ?_); refine ⟨_, (by dsimp only [St.put, St.setObj, St.ev, killP, killA, killP1, killH, mapHO, renP, renA, ren1, killG, killGA, killG1, krowP, krowA, krow1, lendP, lendA, lend1, unv, pinP, pin1, elemsM, viewM, viewN, viewV, n_set_z, n_set_s, n_map_c, n_map_n, getD_z, getD_s, n_toNat, n_cond_t, n_cond_f, n_len_c, n_len_n, n_app_c, n_app_n, n_take_s, n_take_z, n_drop_s, n_drop_z, n_get_z, n_get_s, view, viewA, view1, elems, Nat.reduceAdd, Nat.reduceMul, Nat.zero_add, Nat.add_zero, Nat.reduceBEq, Bool.not_true, Bool.not_false, Nat.one_ne_zero, Nat.mul_one, reduceCtorEq]), ?_⟩)
| refine o_nil ?_
| (refine o_s rfl ?_; refine ⟨_, (by dsimp only [St.put, St.setObj, St.ev, killP, killA, killP1, killH, mapHO, renP, renA, ren1, killG, killGA, killG1, krowP, krowA, krow1, lendP, lendA, lend1, unv, pinP, pin1, elemsM, viewM, viewN, viewV, n_set_z, n_set_s, n_map_c, n_map_n, getD_z, getD_s, n_toNat, n_cond_t, n_cond_f, n_len_c, n_len_n, n_app_c, n_app_n, n_take_s, n_take_z, n_drop_s, n_drop_z, n_get_z, n_get_s, view, viewA, view1, elems, Nat.reduceAdd, Nat.reduceMul, Nat.zero_add, Nat.add_zero, Nat.reduceBEq, Bool.not_true, Bool.not_false, Nat.one_ne_zero, Nat.mul_one, reduceCtorEq]), ?_⟩)
| (refine o_splitD rfl rfl rfl (fun hc => ?_) (fun hc => ?_) <;> first | (exfalso; omega) | dsimp only [List.set_cons_zero, List.set_cons_succ])
| refine g_condF rfl ?_
| refine g_skip ?_
| refine g_exit ?_)
      all_goals exact k_round (f + 1) (by omega) (by omega) (by repeat (first | exact trivial | refine ⟨.inl rfl, ?_⟩ | refine ⟨.inr rfl, ?_⟩)) ⟨by rw [hcn]; rfl, rfl, trivial⟩ (hpLe_nil _)
    · repeat' (first
| refine g_seq ?_
| refine g_block ?_
| refine g_region ?_
| (refine o_go rfl ?_; (first
| refine p_p (ps_move rfl) ?_
| refine p_p (ps_assign rfl) ?_
| refine p_p (ps_lss rfl rfl rfl) ?_
| refine p_p (ps_add rfl rfl rfl (by constructor <;> omega)) ?_
| refine p_p (ps_pick rfl rfl) ?_); refine ⟨_, (by dsimp only [St.put, St.setObj, St.ev, killP, killA, killP1, killH, mapHO, renP, renA, ren1, killG, killGA, killG1, krowP, krowA, krow1, lendP, lendA, lend1, unv, pinP, pin1, elemsM, viewM, viewN, viewV, n_set_z, n_set_s, n_map_c, n_map_n, getD_z, getD_s, n_toNat, n_cond_t, n_cond_f, n_len_c, n_len_n, n_app_c, n_app_n, n_take_s, n_take_z, n_drop_s, n_drop_z, n_get_z, n_get_s, view, viewA, view1, elems, Nat.reduceAdd, Nat.reduceMul, Nat.zero_add, Nat.add_zero, Nat.reduceBEq, Bool.not_true, Bool.not_false, Nat.one_ne_zero, Nat.mul_one, reduceCtorEq]), ?_⟩)
| refine o_nil ?_
| (refine o_s rfl ?_; refine ⟨_, (by dsimp only [St.put, St.setObj, St.ev, killP, killA, killP1, killH, mapHO, renP, renA, ren1, killG, killGA, killG1, krowP, krowA, krow1, lendP, lendA, lend1, unv, pinP, pin1, elemsM, viewM, viewN, viewV, n_set_z, n_set_s, n_map_c, n_map_n, getD_z, getD_s, n_toNat, n_cond_t, n_cond_f, n_len_c, n_len_n, n_app_c, n_app_n, n_take_s, n_take_z, n_drop_s, n_drop_z, n_get_z, n_get_s, view, viewA, view1, elems, Nat.reduceAdd, Nat.reduceMul, Nat.zero_add, Nat.add_zero, Nat.reduceBEq, Bool.not_true, Bool.not_false, Nat.one_ne_zero, Nat.mul_one, reduceCtorEq]), ?_⟩)
| (refine o_splitD rfl rfl rfl (fun hc => ?_) (fun hc => ?_) <;> first | (exfalso; omega) | dsimp only [List.set_cons_zero, List.set_cons_succ])
| refine g_condT rfl ?_
| refine g_condF rfl ?_
| refine g_skip ?_
| refine g_exit ?_)
      · refine g_loopT (α := Nat × Nat × Bool) (fun z => [(7, B z.2.2), (9, I (z.2.1 : Int))]) (fun _ => []) (fun z => z.1 ≤ n ∧ z.2.1 = 2 ^ z.1 ∧ z.2.2 = allN z.1 (fun i => okBit f x (2 ^ i))) (fun z => n - z.1) (0, 1, true) (by simp only [havoc, dsts, List.filterMap_cons, List.filterMap_nil, List.foldl_cons, List.foldl_nil, List.cons_append, List.nil_append, List.append_nil, List.set_cons_succ, List.set_cons_zero]; exact rfl) ⟨Nat.zero_le _, rfl, rfl⟩ ⟨rfl, rfl, trivial⟩ rfl ?_
        rintro ⟨j, bit, fi⟩ ⟨hj, hbit, hfj⟩
        dsimp only at hj hbit hfj
        have hbs : bit ≤ sz := by rw [hbit, hsz]; exact Nat.pow_le_pow_right (by omega) hj
        have hor : x ||| bit ≤ 63 := by
          have : x ||| bit < 2 ^ 5 := Nat.or_lt_two_pow (by omega) (by omega)
          omega
        have hjn : (bit : Int) < sz → j < n := fun h => by
          have h' : (2 : Nat) ^ j < 2 ^ n := by rw [← hbit, ← hsz]; omega
          exact (Nat.pow_lt_pow_iff_right (by omega)).1 h'
        have hend : ¬ (bit : Int) < sz → j = n := fun h => by
          rcases Nat.lt_or_ge j n with hlt | hge
          · have : (2 : Nat) ^ j < 2 ^ n := (Nat.pow_lt_pow_iff_right (by omega)).2 hlt
            rw [← hbit, ← hsz] at this; omega
          · omega
        have hstep : allN (j + 1) (fun i => okBit f x (2 ^ i)) = (fi && okBit f x bit) := by rw [allN_succ, ← hfj, hbit]
        have hbit2 : bit * 2 = 2 ^ (j + 1) := by rw [hbit, Nat.pow_succ]
        dsimp only [setMany, List.set_cons_zero, List.set_cons_succ]
        cases fi
        · repeat' (first
| refine g_seq ?_
| refine g_block ?_
| refine g_region ?_
| refine g_region_draw (by kernel_rfl) (by kernel_rfl) ?_
| (refine o_go rfl ?_; (first
| refine p_p (ps_mul rfl rfl rfl (by constructor <;> omega)) ?_
| refine p_p (ps_move rfl) ?_
| refine p_p (ps_assign rfl) ?_
| refine p_p (ps_lss rfl rfl rfl) ?_
| refine p_p (ps_add rfl rfl rfl (by constructor <;> omega)) ?_
| refine p_p (ps_pick rfl rfl) ?_); refine ⟨_, (by dsimp only [St.put, St.setObj, St.ev, killP, killA, killP1, killH, mapHO, renP, renA, ren1, killG, killGA, killG1, krowP, krowA, krow1, lendP, lendA, lend1, unv, pinP, pin1, elemsM, viewM, viewN, viewV, n_set_z, n_set_s, n_map_c, n_map_n, getD_z, getD_s, n_toNat, n_cond_t, n_cond_f, n_len_c, n_len_n, n_app_c, n_app_n, n_take_s, n_take_z, n_drop_s, n_drop_z, n_get_z, n_get_s, view, viewA, view1, elems, Nat.reduceAdd, Nat.reduceMul, Nat.zero_add, Nat.add_zero, Nat.reduceBEq, Bool.not_true, Bool.not_false, Nat.one_ne_zero, Nat.mul_one, reduceCtorEq]), ?_⟩)
| refine o_nil ?_
| (refine o_s rfl ?_; refine ⟨_, (by dsimp only [St.put, St.setObj, St.ev, killP, killA, killP1, killH, mapHO, renP, renA, ren1, killG, killGA, killG1, krowP, krowA, krow1, lendP, lendA, lend1, unv, pinP, pin1, elemsM, viewM, viewN, viewV, n_set_z, n_set_s, n_map_c, n_map_n, getD_z, getD_s, n_toNat, n_cond_t, n_cond_f, n_len_c, n_len_n, n_app_c, n_app_n, n_take_s, n_take_z, n_drop_s, n_drop_z, n_get_z, n_get_s, view, viewA, view1, elems, Nat.reduceAdd, Nat.reduceMul, Nat.zero_add, Nat.add_zero, Nat.reduceBEq, Bool.not_true, Bool.not_false, Nat.one_ne_zero, Nat.mul_one, reduceCtorEq]), ?_⟩)
| (refine g_condD rfl (fun hc => ?_) (fun hc => ?_) <;> try (exfalso; omega))
| refine g_skip ?_
| refine g_exit ?_)
          · have := hjn hc
            exact k_round (j + 1, bit * 2, false) ⟨by omega, hbit2, by rw [hstep]; rfl⟩ (by dsimp only; omega) (by repeat (first | exact trivial | refine ⟨.inl rfl, ?_⟩ | refine ⟨.inr rfl, ?_⟩)) ⟨rfl, rfl, trivial⟩ (hpLe_nil _)
          · have := hend hc
            subst this
            refine k_round (x + 1, false) ⟨by omega, ?_⟩ (by dsimp only; omega) (by repeat (first | exact trivial | refine ⟨.inl rfl, ?_⟩ | refine ⟨.inr rfl, ?_⟩)) ⟨rfl, rfl, trivial⟩ (hpLe_nil _)
            rw [allN_succ, okRow, ← hfj, Bool.and_false]
        · repeat' (first
| refine g_seq ?_
| refine g_block ?_
| refine g_region ?_
| refine g_region_draw (by kernel_rfl) (by kernel_rfl) ?_
| (refine o_go rfl ?_; (first
| refine p_p (ps_mul rfl rfl rfl (by constructor <;> omega)) ?_
| refine p_p (ps_and1 rfl rfl rfl (hsh _)) ?_
| refine p_p (ps_and rfl rfl rfl (by omega) (by omega)) ?_
| refine p_p (ps_or rfl rfl rfl (by omega) (by omega)) ?_
| refine p_p (ps_shr rfl rfl rfl (by omega)) ?_
| refine p_p (ps_move rfl) ?_
| refine p_p (ps_assign rfl) ?_
| refine p_p (ps_lss rfl rfl rfl) ?_
| refine p_p (ps_add rfl rfl rfl (by constructor <;> omega)) ?_
| refine p_p (ps_pick rfl rfl) ?_
| refine p_p (ps_leq rfl rfl rfl) ?_
| refine p_p (ps_neq rfl rfl rfl) ?_); refine ⟨_, (by dsimp only [St.put, St.setObj, St.ev, killP, killA, killP1, killH, mapHO, renP, renA, ren1, killG, killGA, killG1, krowP, krowA, krow1, lendP, lendA, lend1, unv, pinP, pin1, elemsM, viewM, viewN, viewV, n_set_z, n_set_s, n_map_c, n_map_n, getD_z, getD_s, n_toNat, n_cond_t, n_cond_f, n_len_c, n_len_n, n_app_c, n_app_n, n_take_s, n_take_z, n_drop_s, n_drop_z, n_get_z, n_get_s, view, viewA, view1, elems, Nat.reduceAdd, Nat.reduceMul, Nat.zero_add, Nat.add_zero, Nat.reduceBEq, Bool.not_true, Bool.not_false, Nat.one_ne_zero, Nat.mul_one, reduceCtorEq]), ?_⟩)
| refine o_nil ?_
| (refine o_s rfl ?_; refine ⟨_, (by dsimp only [St.put, St.setObj, St.ev, killP, killA, killP1, killH, mapHO, renP, renA, ren1, killG, killGA, killG1, krowP, krowA, krow1, lendP, lendA, lend1, unv, pinP, pin1, elemsM, viewM, viewN, viewV, n_set_z, n_set_s, n_map_c, n_map_n, getD_z, getD_s, n_toNat, n_cond_t, n_cond_f, n_len_c, n_len_n, n_app_c, n_app_n, n_take_s, n_take_z, n_drop_s, n_drop_z, n_get_z, n_get_s, view, viewA, view1, elems, Nat.reduceAdd, Nat.reduceMul, Nat.zero_add, Nat.add_zero, Nat.reduceBEq, Bool.not_true, Bool.not_false, Nat.one_ne_zero, Nat.mul_one, reduceCtorEq]), ?_⟩)
| (refine o_splitN rfl rfl rfl (fun hc => ?_) (fun hc => ?_) <;> dsimp only [List.set_cons_zero, List.set_cons_succ])
| (refine g_condD rfl (fun hc => ?_) (fun hc => ?_) <;> try (exfalso; omega))
| refine g_skip ?_
| refine g_exit ?_)
          · have := hjn ‹_›
            have hok : okBit f x bit = true := by unfold okBit; rw [hc]; rfl
            exact k_round (j + 1, bit * 2, true) ⟨by omega, hbit2, by rw [hstep, hok]; rfl⟩ (by dsimp only; omega) (by repeat (first | exact trivial | refine ⟨.inl rfl, ?_⟩ | refine ⟨.inr rfl, ?_⟩)) ⟨rfl, rfl, trivial⟩ (hpLe_nil _)
          · have := hjn ‹_›
            have hok : okBit f x bit = decide (((f >>> x &&& 1 : Nat) : Int) ≤ ((f >>> (x ||| bit) &&& 1 : Nat) : Int)) := by unfold okBit; rw [hc]; rfl
            exact k_round (j + 1, bit * 2, okBit f x bit) ⟨by omega, hbit2, by rw [hstep]; rfl⟩ (by dsimp only; omega) (by repeat (first | exact trivial | refine ⟨.inl rfl, ?_⟩ | refine ⟨.inr rfl, ?_⟩)) ⟨by rw [hok]; rfl, rfl, trivial⟩ (hpLe_nil _)
          · have := hend hc
            subst this
            refine k_round (x + 1, true) ⟨by omega, ?_⟩ (by dsimp only; omega) (by repeat (first | exact trivial | refine ⟨.inl rfl, ?_⟩ | refine ⟨.inr rfl, ?_⟩)) ⟨rfl, rfl, trivial⟩ (hpLe_nil _)
            rw [allN_succ, okRow, ← hfj, ← hfi]; rfl
      · have hxs : x = sz := by omega
        have hyes : fineB n f = true := by unfold fineB; rw [← hsz, ← hxs]; exact hfi.symm
        have hcn : cntB n (f + 1) = cntB n f + 1 := by rw [cntB_succ, hyes]; rfl
        exact k_round (f + 1) (by omega) (by omega) (by repeat (first | exact trivial | refine ⟨.inl rfl, ?_⟩ | refine ⟨.inr rfl, ?_⟩)) ⟨by rw [hcn]; rfl, rfl, trivial⟩ (hpLe_nil _)
  · have : f = M := by omega
    subst this
    rfl
  · rfl
end Go.Proofs.YtbfmjknngofleaaGreat
