/- Walks: the shortest chain of translated pairs, the program's side. -/
import Derived.Test.YtkdagmbgjddopaaJKv
import Derived.Test.YtkdagmbgjddopaaJKe
namespace Go.Pv
open Go
attribute [local semireducible] Go.Pv.PStep
section
variable {P : Program} {o : Oper} {ev : Operand → PV} {hp : List HO}
theorem ps_minV {x y : Operand} {tys : Array TypeId} {a b c : Int} (ho : o.op = .call { callee := .builtin .min, args := #[x, y], argTypes := tys }) (h1 : ev x = I a) (h2 : ev y = I b) (h : (if b < a then b else a) = c) : PStep P o ev hp (I c) :=
  .of_run fun w0 g ρ w av hb hx => by
    have e1 := val_of (hx x (by simp [ho, Op.operands, Call.operands])) h1
    have e2 := val_of (hx y (by simp [ho, Op.operands, Call.operands])) h2
    subst h
    exact ⟨.int .i64 (if b < a then b else a), by simp [execOp, ho, resolve, invoke, builtin, e1, e2, run_min_int2, go_sem], .of_VR (.val _)⟩
theorem ps_maxV {x y : Operand} {tys : Array TypeId} {a b c : Int} (ho : o.op = .call { callee := .builtin .max, args := #[x, y], argTypes := tys }) (h1 : ev x = I a) (h2 : ev y = I b) (h : (if b > a then b else a) = c) : PStep P o ev hp (I c) := by
  subst h; exact ps_max ho h1 h2
end
end Go.Pv
namespace Go.Proofs.Ytkdagmbgjddopaa
open Go Go.Pv Go.Proofs
set_option maxHeartbeats 32000000
set_option maxRecDepth 100000
attribute [local bitvec_to_nat] St.put St.setObj St.ev killP killA killP1 killH mapHO renP renA ren1 killG killGA killG1 krowP krowA krow1 lendP lendA lend1 unv pinP pin1 elemsM viewM viewN viewV n_set_z n_set_s n_map_c n_map_n getD_z getD_s n_toNat n_cond_t n_cond_f n_len_c n_len_n n_app_c n_app_n n_take_s n_take_z n_drop_s n_drop_z n_get_z n_get_s view viewA view1 elems Nat.zero_add Nat.add_zero Bool.not_true Bool.not_false Nat.one_ne_zero Nat.mul_one
attribute [local bitvec_to_nat] posI optP lendM1 lendMA lendMP killM1 killMA killMP hasI getO backM1 backMA backMP putL inpM pinM1 pinMA pinMP

theorem trH_at {n : Nat} {ops : List OpD} {x y s t : Nat} (hs : s < n) (ht : t < n) : ((trH n ops x y).map B)[((kyP n s t : Nat) : Int).toNat]? = some (B (trB n ops x y s t)) := by
  have hb := kyP_lt hs ht
  have hd := kyP_div hs ht
  rw [Int.toNat_natCast, List.getElem?_map]
  unfold trH
  rw [List.getElem?_map, List.getElem?_range hb]
  show some (B (decide (kyP n s t / n ≤ kyP n s t % n) && trB n ops x y (kyP n s t / n) (kyP n s t % n))) = _
  rw [hd.1, hd.2, decide_eq_true (by omega), Bool.true_and]
  rcases Nat.le_total s t with h | h
  · rw [show min s t = s by omega, show max s t = t by omega]
  · rw [show min s t = t by omega, show max s t = s by omega, trB_symm]
theorem lk1_c (n : Nat) (ops : List OpD) (x y s t : Nat) (hn : n ≤ 8) (hs : s < n) (ht : t < n) : PCalls Try.prog 29 [I (s : Int), I (t : Int), .ptr [.sl 1 none ((trH n ops x y).map B)], .ptr [I (n : Int)]] (B (trB n ops x y s t)) := by
  refine pcalls1 Try.func29 rfl Try.ntmps29 rfl ?_
  simp only [List.length_cons, List.length_nil, Nat.reduceAdd, Nat.reduceSub, List.replicate_succ, List.replicate_zero, List.cons_append, List.nil_append]
  have hmin : (if (t : Int) < (s : Int) then (t : Int) else (s : Int)) = ((min s t : Nat) : Int) := by split <;> omega
  have hmax : (if (t : Int) > (s : Int) then (t : Int) else (s : Int)) = ((max s t : Nat) : Int) := by split <;> omega
  have hml : min s t * n ≤ 64 := Nat.le_trans (Nat.mul_le_mul (show min s t ≤ 8 by omega) hn) (by decide)
  have hmul : ((min s t : Nat) : Int) * (n : Int) = ((min s t * n : Nat) : Int) := by push_cast; rfl
  have hadd : ((min s t * n : Nat) : Int) + ((max s t : Nat) : Int) = (kyP n s t : Int) := by unfold kyP; omega
  have hkb := kyP_lt hs ht
  have hnn : n * n ≤ 64 := Nat.le_trans (Nat.mul_le_mul hn hn) (by decide)
  have hix := trH_at (ops := ops) (x := x) (y := y) hs ht
  repeat' (first
| refine g_seq ?_
| refine g_region ?_
| (refine o_go rfl ?_; (first
| refine p_p (ps_minV rfl rfl rfl hmin) ?_
| refine p_p (ps_maxV rfl rfl rfl hmax) ?_
| refine p_p (ps_mulV rfl rfl rfl hmul (by omega)) ?_
| refine p_p (ps_addV rfl rfl rfl hadd (by omega)) ?_
| refine p_p (ps_index rfl rfl rfl (by omega) hix (by exact rfl)) ?_
| refine p_p (ps_move rfl) ?_
| refine p_p (ps_assign rfl) ?_
| refine p_p (ps_load_cell rfl rfl) ?_); refine ⟨_, aA, ?_⟩)
| refine o_nil ?_
| refine kr1 ?_
| refine krB rfl ?_
| refine g_ret ?_)
  all_goals first | rfl | (exfalso; omega)
theorem hp2 {x y : HO} {a b : List HO} (h : hpLe a b) : hpLe (x :: y :: a) (x :: y :: b) := hpLe_cons rfl (hpLe_cons rfl h)
theorem iccN_c (m : Nat) (ops : List OpD) (x y u v : Nat) (hs : szOk ops) (hm8 : m ≤ 8) (h4 : ops.length ≤ 4) (ho : opsIn m ops) (hx : x < m) (hy : y < m) (hu : u < m) (hv : v < m) (hb1 : cpB m ops x y = true) (hb2 : cpB m ops u v = true) :
    PCalls Try.prog 7 [algP m ops, I (x : Int), I (y : Int), I (u : Int), I (v : Int)] (.tup [ints (chN m ops x y u v).1, B (chN m ops x y u v).2]) := by
  refine pcalls2 Try.func7 rfl Try.ntmps7 rfl ?_
  simp only [List.length_cons, List.length_nil, Nat.reduceAdd, Nat.reduceSub, List.replicate_succ, List.replicate_zero, List.cons_append, List.nil_append]
  have h1 := ipair_c m ops x y hs
  rw [hb1] at h1
  have h2 := ipair_c m ops u v hs
  rw [hb2] at h2
  have h5 := itrans_c m ops x y hm8 (by omega) ho hx hy
  have hlk := fun s t (hs : s < m) (ht : t < m) => lk1_c m ops x y s t hm8 hs ht
  have hsym : ∀ a b, trB m ops x y a b = trB m ops x y b a := trB_symm
  repeat' (first
| refine g_seq ?_
| refine g_region ?_
| (refine o_go rfl ?_; (first
| refine p_p (ps_call rfl rfl aC (h1)) ?_
| refine p_p (ps_call rfl rfl aC (h2)) ?_
| refine p_p (ps_move rfl) ?_
| refine p_p (ps_assign rfl) ?_
| refine p_p (ps_load_agg rfl rfl aK) ?_
| refine p_p (ps_not rfl rfl) ?_
| refine p_p (ps_pick rfl rfl) ?_
| refine p_p (ps_box rfl rfl) ?_); refine ⟨_, aA, ?_⟩)
| refine o_nil ?_
| refine g_condF rfl ?_
| refine g_skip ?_)
  all_goals try (exfalso; omega)
  refine g_region_drawX [.gone, .gone] [0, 1] (by kernel_rfl) (by kernel_rfl) aL ?_
  refine ⟨_, (by dsimp only [appC, hpC, bitvec_to_nat, Nat.reduceAdd, Nat.reduceMul, Nat.reduceBEq, reduceCtorEq]), (by repeat (first | exact trivial | refine ⟨⟨rfl, rfl⟩, ?_⟩)), ?_⟩
  repeat' (first
| refine x_nil ?_
| (refine x_skip rfl ?_; refine ⟨_, (by dsimp only [appC, hpC, bitvec_to_nat, Nat.reduceAdd, Nat.reduceMul, Nat.reduceBEq, reduceCtorEq]), ?_⟩)
| ((first
| refine x_pure rfl (fun _ => ps_call rfl rfl aC (h5)) aL ?_
| refine x_eff rfl (l_alloc 0 rfl) rfl (by intro h; cases h) (by decide) (by repeat (first | exact trivial | refine ⟨.inl rfl, ?_⟩ | refine ⟨.inr ⟨rfl, rfl⟩, ?_⟩)) ?_
| refine x_eff rfl (l_alloc 1 rfl) rfl (by intro h; cases h) (by decide) (by repeat (first | exact trivial | refine ⟨.inl rfl, ?_⟩ | refine ⟨.inr ⟨rfl, rfl⟩, ?_⟩)) ?_
| refine x_bar rfl rfl (e_store_boxC rfl rfl rfl rfl (by decide) rfl rfl) ?_
| refine x_pure rfl (fun _ => ps_move rfl) aL ?_
| refine x_pure rfl (fun _ => ps_load_cell rfl rfl) aL ?_
| refine x_pure rfl (fun _ => ps_load_agg rfl rfl aK) aL ?_
| refine x_pure rfl (fun _ => ps_fieldAddr rfl rfl) aL ?_); refine ⟨_, (by dsimp only [appC, hpC, bitvec_to_nat, Nat.reduceAdd, Nat.reduceMul, Nat.reduceBEq, reduceCtorEq]), ?_⟩))
  repeat' ((fail_if_success (refine at_reg1 4 ?_)); (first
| (refine o_go rfl ?_; (first
| refine p_e rfl (e_store_boxC rfl rfl rfl rfl aK rfl rfl) ?_); refine ⟨_, aA, ?_⟩)
| refine o_nil ?_))
  refine g_settle 0 rfl (by dsimp only [setlP, setl1, setlH, bitvec_to_nat, Nat.reduceAdd, Nat.reduceMul, Nat.reduceBEq, reduceCtorEq]) ?_
  refine g_settle 1 rfl (by dsimp only [setlP, setl1, setlH, bitvec_to_nat, Nat.reduceAdd, Nat.reduceMul, Nat.reduceBEq, reduceCtorEq]) ?_
  unfold chN
  clear h1 h2 h5
  have hrep : (List.replicate m (PV.val (Value.int IntKind.i64 0))).length = m := List.length_replicate
  generalize hL : trB m ops x y = lk at *
  generalize trH m ops x y = HH at *
  repeat' (first
| refine g_seq ?_
| refine g_block ?_
| refine g_region ?_
| (refine o_go rfl ?_; (first
| refine p_p (ps_move rfl) ?_
| refine p_p (ps_assign rfl) ?_
| refine p_p (ps_load_cell rfl rfl) ?_
| refine p_p (ps_len_mut rfl rfl rfl rfl) ?_
| refine p_e rfl (e_make1 rfl rfl rfl (by omega) (by omega) (by omega) rfl rfl) ?_); refine ⟨_, aA, ?_⟩)
| refine o_nil ?_)
  refine g_loopT (α := Nat) (fun i => [(45, I (i : Int))]) (fun i => [.gone, .gone, .arr true 1 3 (List.replicate i (I (-1)) ++ List.replicate (m - i) (I 0))]) (fun i => i ≤ m) (fun i => m - i) 0 aH (Nat.zero_le _) ⟨rfl, trivial⟩ (by simp) ?_
  rintro i hi
  dsimp only [setMany, List.set_cons_zero, List.set_cons_succ]
  have hrl : (List.replicate i (I (-1)) ++ List.replicate (m - i) (I 0)).length = m := by simp; omega
  by_cases him : i < m
  · have hst := rep_step (a := I (-1)) (b := I 0) him
    repeat' (first
| refine g_seq ?_
| refine g_block ?_
| refine g_region ?_
| (refine o_go rfl ?_; (first
| refine p_e (by kernel_rfl) (e_store_arr rfl rfl rfl rfl (by omega) rfl rfl) ?_
| refine p_p (ps_move rfl) ?_
| refine p_p (ps_assign rfl) ?_
| refine p_p (ps_lss rfl rfl rfl) ?_
| refine p_p (ps_add rfl rfl rfl aM) ?_
| refine p_p (ps_index_mut rfl rfl rfl rfl (by omega) aU) ?_); refine ⟨_, aA, ?_⟩)
| refine o_nil ?_
| (refine g_condD rfl (fun hc => ?_) (fun hc => ?_) <;> try (exfalso; omega))
| refine g_skip ?_)
    all_goals try (exfalso; omega)
    exact k_round (i + 1) (by omega) (by omega) aI ⟨rfl, trivial⟩ (hp2 (hpLe_cons (congrArg (HO.arr true 1 3) hst) (hpLe_nil _)))
  have hr0 : List.replicate i (I (-1)) ++ List.replicate (m - i) (I 0) = (List.replicate m (-1 : Int)).map I := by rw [show i = m by omega, Nat.sub_self]; simp
  rw [hr0]
  have hrl2 : ((List.replicate m (-1 : Int)).map I).length = m := by simp
  have hs0 : ((List.replicate m (-1 : Int)).map I).set (v * 1) (I 0) = (bRun lk m v 0).2.map I := by rw [im_set]; rfl
  repeat' (first
| refine g_seq ?_
| refine g_block ?_
| refine g_region ?_
| (refine o_go rfl ?_; (first
| refine p_e (by kernel_rfl) (e_store_arr rfl rfl rfl rfl (by omega) rfl rfl) ?_
| refine p_e rfl (e_lit1N rfl rfl rfl) ?_
| refine p_p (ps_move rfl) ?_
| refine p_p (ps_assign rfl) ?_
| refine p_p (ps_lss rfl rfl rfl) ?_
| refine p_p (ps_index_mut rfl rfl rfl rfl (by omega) aU) ?_
| refine p_p (ps_makeFunc rfl rfl rfl) ?_); refine ⟨_, aA, ?_⟩)
| refine o_nil ?_
| (refine g_condD rfl (fun hc => ?_) (fun hc => ?_) <;> try (exfalso; omega))
| refine g_exit ?_)
  all_goals try (exfalso; omega)
  clear hr0 hrl hrl2
  refine g_loopF (α := Nat) [56] (fun i => [(16, .hp 3), (18, I (i : Int))]) (fun i => [.gone, .gone, .arr true 1 3 ((bRun lk m v i).2.map I), .arr false 1 3 (nIs (bRun lk m v i).1)]) (fun i => i ≤ (bRun lk m v i).1.length) (fun i => m - i) 0 aH (Nat.zero_le _) ⟨rfl, rfl, trivial⟩ (by rw [← hs0]; rfl) ?_
  clear hs0
  rintro j hj
  dsimp only [setMany, List.set_cons_zero, List.set_cons_succ]
  obtain ⟨hI, -⟩ := bRun_inv (lk := lk) hv j
  have hjm := nodup_lt_len hI.nd hI.lt
  have hln : (nIs (bRun lk m v j).1).length = (bRun lk m v j).1.length := List.length_map _
  by_cases hjl : j < (bRun lk m v j).1.length
  · have hnx := bRun_next hjl
    have hat := fun s (hs : s ≤ m) => bInn_at (lk := lk) hv hjl hs
    have hcm : (bRun lk m v j).1.getD j 0 < m := hI.lt _ (by rw [List.getD_eq_getElem?_getD, List.getElem?_eq_getElem hjl]; exact List.getElem_mem _)
    generalize hc : (bRun lk m v j).1.getD j 0 = c at *
    have hsc := fun s => bInn_succ (lk := lk) c (bRun lk m v j) s
    have h00 : bInn lk c (bRun lk m v j) 0 = bRun lk m v j := rfl
    repeat' (first
| refine g_seq ?_
| refine g_block ?_
| refine g_region ?_
| (refine o_go rfl ?_; (first
| refine p_p (ps_move rfl) ?_
| refine p_p (ps_assign rfl) ?_
| refine p_p (ps_lenM rfl rfl rfl) ?_
| refine p_p (ps_lss rfl rfl rfl) ?_); refine ⟨_, aA, ?_⟩)
| refine o_nil ?_
| (refine g_condD rfl (fun hc => ?_) (fun hc => ?_) <;> try (exfalso; omega))
| refine g_skip ?_)
    all_goals try (exfalso; omega)
    refine g_loopF (α := Nat) [59] (fun s => [(16, .hp 3), (19, I (s : Int))]) (fun s => [.gone, .gone, .arr true 1 3 ((bInn lk c (bRun lk m v j) s).2.map I), .arr false 1 3 (nIs (bInn lk c (bRun lk m v j) s).1)]) (fun s => s ≤ m) (fun s => m - s) 0 aH (Nat.zero_le _) ⟨rfl, rfl, trivial⟩ rfl ?_
    rintro s hsm
    dsimp only [setMany, List.set_cons_zero, List.set_cons_succ]
    obtain ⟨hB, hBc⟩ := hat s hsm
    have hss := hsc s
    by_cases hsl : s < m
    · generalize bInn lk c (bRun lk m v j) s = st at *
      have hl2 := hB.len
      have hlm := nodup_lt_len hB.nd hB.lt
      have hml : (st.2.map I).length = m := by rw [List.length_map]; exact hl2
      have hnl : (nIs st.1).length = st.1.length := List.length_map _
      have hixs := im_at (l := st.2) (z := s) (by omega)
      have hixc := im_at (l := st.2) (z := c) (by omega)
      have hline := nIs_at hBc
      have hcall := hlk s c hsl hcm
      rw [hsym] at hcall
      have hneg := hB.neg c hcm
      have hneg2 := hB.neg s hsl
      by_cases hf : st.2.getD s 0 < 0
      · cases hlv : lk c s with
        | true =>
          rw [hlv] at hcall
          have hbs : bStep lk c st s = (st.1 ++ [s], st.2.set s (st.2.getD c 0 + 1)) := if_pos ⟨hf, hlv⟩
          repeat' (first
| refine g_seq ?_
| refine g_block ?_
| refine g_region ?_
| (refine o_go rfl ?_; (first
| refine p_p (ps_index_mut rfl rfl rfl rfl (by omega) (by rw [n_toNat]; omega)) ?_
| refine p_p (ps_load_arr rfl rfl rfl hixs (by rfl)) ?_
| refine p_p (ps_load_arr rfl rfl rfl hixc (by rfl)) ?_
| refine p_p (ps_index rfl rfl rfl (by omega) hline (by exact rfl)) ?_
| refine p_p (ps_call rfl rfl aC (hcall)) ?_
| refine p_e (by kernel_rfl) (e_store_arr rfl rfl rfl rfl (by omega) rfl rfl) ?_
| refine p_e (by kernel_rfl) (e_append rfl rfl rfl rfl rfl rfl (one_one rfl) rfl aO aO) ?_
| refine p_p (ps_move rfl) ?_
| refine p_p (ps_assign rfl) ?_
| refine p_p (ps_load_cell rfl rfl) ?_
| refine p_p (ps_lss rfl rfl rfl) ?_
| refine p_p (ps_add rfl rfl rfl aM) ?_
| refine p_p (ps_pick rfl rfl) ?_
| refine p_p (ps_lit1 rfl rfl (by rfl) (by rfl)) ?_); refine ⟨_, aA, ?_⟩)
| refine o_nil ?_
| (refine o_splitD rfl rfl rfl (fun hc => ?_) (fun hc => ?_) <;> first | (exfalso; omega) | dsimp only [List.set_cons_zero, List.set_cons_succ])
| refine g_condT rfl ?_
| (refine g_condD rfl (fun hc => ?_) (fun hc => ?_) <;> try (exfalso; omega))
| refine g_skip ?_)
          all_goals try (exfalso; omega)
          refine k_round (s + 1) (by omega) (by omega) aI ⟨rfl, rfl, trivial⟩ (hp2 (hpLe_cons ?_ (hpLe_cons ?_ (hpLe_nil _))))
          · rw [hss, hbs, im_set]
          · rw [hss, hbs]
            show HO.arr false 1 _ _ = HO.arr false 1 _ ((st.1 ++ [s]).map fun (z : Nat) => I (z : Int))
            rw [List.map_append]; rfl
        | false =>
          rw [hlv] at hcall
          have hbs : bStep lk c st s = st := if_neg (fun h => by rw [hlv] at h; cases h.2)
          repeat' (first
| refine g_seq ?_
| refine g_block ?_
| refine g_region ?_
| (refine o_go rfl ?_; (first
| refine p_p (ps_index_mut rfl rfl rfl rfl (by omega) (by rw [n_toNat]; omega)) ?_
| refine p_p (ps_load_arr rfl rfl rfl hixs (by rfl)) ?_
| refine p_p (ps_index rfl rfl rfl (by omega) hline (by exact rfl)) ?_
| refine p_p (ps_call rfl rfl aC (hcall)) ?_
| refine p_p (ps_move rfl) ?_
| refine p_p (ps_assign rfl) ?_
| refine p_p (ps_load_cell rfl rfl) ?_
| refine p_p (ps_lss rfl rfl rfl) ?_
| refine p_p (ps_add rfl rfl rfl aM) ?_
| refine p_p (ps_pick rfl rfl) ?_); refine ⟨_, aA, ?_⟩)
| refine o_nil ?_
| (refine o_splitD rfl rfl rfl (fun hc => ?_) (fun hc => ?_) <;> first | (exfalso; omega) | dsimp only [List.set_cons_zero, List.set_cons_succ])
| refine g_condF rfl ?_
| (refine g_condD rfl (fun hc => ?_) (fun hc => ?_) <;> try (exfalso; omega))
| refine g_skip ?_)
          all_goals try (exfalso; omega)
          refine k_round (s + 1) (by omega) (by omega) aI ⟨rfl, rfl, trivial⟩ (hp2 (hpLe_cons ?_ (hpLe_cons ?_ (hpLe_nil _))))
          · rw [hss, hbs]
          · rw [hss, hbs]
      · have hbs : bStep lk c st s = st := if_neg (fun h => hf h.1)
        repeat' (first
| refine g_seq ?_
| refine g_block ?_
| refine g_region ?_
| (refine o_go rfl ?_; (first
| refine p_p (ps_index_mut rfl rfl rfl rfl (by omega) (by rw [n_toNat]; omega)) ?_
| refine p_p (ps_load_arr rfl rfl rfl hixs (by rfl)) ?_
| refine p_p (ps_move rfl) ?_
| refine p_p (ps_assign rfl) ?_
| refine p_p (ps_load_cell rfl rfl) ?_
| refine p_p (ps_lss rfl rfl rfl) ?_
| refine p_p (ps_add rfl rfl rfl aM) ?_
| refine p_p (ps_pick rfl rfl) ?_); refine ⟨_, aA, ?_⟩)
| refine o_nil ?_
| (refine o_s rfl ?_; refine ⟨_, aA, ?_⟩)
| (refine o_splitD rfl rfl rfl (fun hc => ?_) (fun hc => ?_) <;> first | (exfalso; omega) | dsimp only [List.set_cons_zero, List.set_cons_succ])
| refine g_condF rfl ?_
| (refine g_condD rfl (fun hc => ?_) (fun hc => ?_) <;> try (exfalso; omega))
| refine g_skip ?_)
        all_goals try (exfalso; omega)
        refine k_round (s + 1) (by omega) (by omega) aI ⟨rfl, rfl, trivial⟩ (hp2 (hpLe_cons ?_ (hpLe_cons ?_ (hpLe_nil _))))
        · rw [hss, hbs]
        · rw [hss, hbs]
    · repeat' (first
| refine g_seq ?_
| refine g_region ?_
| (refine o_go rfl ?_; (first
| refine p_p (ps_move rfl) ?_
| refine p_p (ps_assign rfl) ?_
| refine p_p (ps_load_cell rfl rfl) ?_
| refine p_p (ps_lss rfl rfl rfl) ?_
| refine p_p (ps_add rfl rfl rfl aM) ?_); refine ⟨_, aA, ?_⟩)
| refine o_nil ?_
| (refine g_condD rfl (fun hc => ?_) (fun hc => ?_) <;> try (exfalso; omega))
| refine g_exit ?_)
      all_goals try (exfalso; omega)
      refine k_round (K := fun _ _ => True) (j + 1) ?_ (by omega) aI ⟨rfl, rfl, trivial⟩ (hp2 (hpLe_cons ?_ (hpLe_cons ?_ (hpLe_nil _))))
      · rw [hnx]
        obtain ⟨hB', hBc'⟩ := hat m (Nat.le_refl _)
        have := (List.getElem?_eq_some_iff.1 hBc').1
        omega
      · rw [hnx, show s = m by omega]
      · rw [hnx, show s = m by omega]
  have hend := bRun_end (lk := lk) hv (k := j) (by omega)
  have hfar : (bRun lk m v j).2 = farL lk m v := by rw [hend]; rfl
  rw [hfar]
  obtain ⟨hF, -⟩ := far_facts (lk := lk) hv
  have hfl : (farL lk m v).length = m := hF.len
  have hml : ((farL lk m v).map I).length = m := by rw [List.length_map]; exact hfl
  have hixu := im_at (l := farL lk m v) (z := u) (by omega)
  by_cases hneg : (farL lk m v).getD u 0 < 0
  · rw [if_pos hneg]
    repeat' (first
| refine g_seq ?_
| refine g_region ?_
| (refine o_go rfl ?_; (first
| refine p_p (ps_index_mut rfl rfl rfl rfl (by omega) (by rw [n_toNat]; omega)) ?_
| refine p_p (ps_load_arr rfl rfl rfl hixu (by rfl)) ?_
| refine p_p (ps_move rfl) ?_
| refine p_p (ps_assign rfl) ?_
| refine p_p (ps_lenM rfl rfl rfl) ?_
| refine p_p (ps_lss rfl rfl rfl) ?_
| refine p_e rfl (e_lit0 rfl (by decide)) ?_); refine ⟨_, aA, ?_⟩)
| refine o_nil ?_
| (refine g_condD rfl (fun hc => ?_) (fun hc => ?_) <;> try (exfalso; omega))
| refine kr2 ?_ ?_
| refine krB rfl ?_
| refine krS rfl ?_
| refine g_exit ?_
| refine g_ret ?_)
    all_goals first | rfl | (exfalso; omega)
  rw [if_neg hneg]
  obtain ⟨d, hd⟩ : ∃ d : Nat, (farL lk m v).getD u 0 = d := ⟨((farL lk m v).getD u 0).toNat, by omega⟩
  have hfu : (farL lk m v).getD u 0 < (m : Int) := by
    have h1 := (hF.neg u hu).2
    have h2 := nodup_lt_len hF.nd hF.lt
    have h1 : (farL lk m v).getD u 0 < _ := h1
    omega
  have hW := way_next hv hsym d u hu hd
  have hWl := way_len (lk := lk) (n := m) (v := v) d u
  have hW0 : (wayE lk m v d u).getD 0 0 = u := by cases d <;> rfl
  rw [hd, Int.toNat_natCast]
  rw [hd] at hixu
  repeat' (first
| refine g_seq ?_
| refine g_block ?_
| refine g_region ?_
| (refine o_go rfl ?_; (first
| refine p_p (ps_index_mut rfl rfl rfl rfl (by omega) (by rw [n_toNat]; omega)) ?_
| refine p_p (ps_load_arr rfl rfl rfl hixu (by rfl)) ?_
| refine p_e rfl (e_lit1N rfl rfl rfl) ?_
| refine p_p (ps_move rfl) ?_
| refine p_p (ps_assign rfl) ?_
| refine p_p (ps_lenM rfl rfl rfl) ?_
| refine p_p (ps_lss rfl rfl rfl) ?_); refine ⟨_, aA, ?_⟩)
| refine o_nil ?_
| refine g_condF rfl ?_
| (refine g_condD rfl (fun hc => ?_) (fun hc => ?_) <;> try (exfalso; omega))
| refine g_skip ?_
| refine g_exit ?_)
  all_goals try (exfalso; omega)
  have hmn : ∀ k, k < d → nxtE lk m v ((wayE lk m v d u).getD k 0) < m ∧ (farL lk m v).getD (nxtE lk m v ((wayE lk m v d u).getD k 0)) 0 = (farL lk m v).getD ((wayE lk m v d u).getD k 0) 0 - 1 ∧ lk ((wayE lk m v d u).getD k 0) (nxtE lk m v ((wayE lk m v d u).getD k 0)) = true ∧ ∀ y, y < nxtE lk m v ((wayE lk m v d u).getD k 0) → (decide ((farL lk m v).getD y 0 = (farL lk m v).getD ((wayE lk m v d u).getD k 0) 0 - 1) && lk ((wayE lk m v d u).getD k 0) y) = false := fun k hk => by
    obtain ⟨w1, w2, -⟩ := hW k (by omega)
    exact nxt_spec hv hsym w1 (by omega)
  have hstart : (wayE lk m v d u).take 1 = [u] := by cases d <;> rfl
  generalize wayE lk m v d u = W at *
  generalize (bRun lk m v j).1 = ln at *
  refine g_loopF (α := Nat) [105] (fun k => [(3, I (W.getD k 0 : Int)), (20, .hp 4)]) (fun k => [.gone, .gone, .arr true 1 3 ((farL lk m v).map I), .arr false 1 3 (nIs ln), .arr false 1 3 (nIs (W.take (k + 1)))]) (fun k => k ≤ d) (fun k => d - k) 0 aH (Nat.zero_le _) ⟨by rw [hW0]; rfl, rfl, trivial⟩ (by rw [hstart]; rfl) ?_
  rintro k hk
  dsimp only [setMany, List.set_cons_zero, List.set_cons_succ]
  obtain ⟨w1, w2, w3⟩ := hW k hk
  have hv0 : (farL lk m v).getD v 0 = 0 := hF.vin.2
  have hixa := im_at (l := farL lk m v) (z := W.getD k 0) (by omega)
  rw [w2] at hixa
  by_cases hkd : k < d
  · have hav : W.getD k 0 ≠ v := fun e => by rw [e] at w2; omega
    obtain ⟨n1, n2, n3, n4⟩ := hmn k hkd
    rw [← w3 hkd] at n1 n2 n3 n4
    rw [w2] at n2 n4
    have htk : W.take (k + 1 + 1) = W.take (k + 1) ++ [W.getD (k + 1) 0] := take_snoc 0 (by omega)
    have hnl : (nIs (W.take (k + 1))).length = k + 1 := by rw [List.length_map, List.length_take]; omega
    have hnx : some (I ((W.getD (k + 1) 0 : Nat) : Int)) = some (I ((W.getD (k + 1) 0 : Nat) : Int)) := rfl
    generalize hnxe : W.getD (k + 1) 0 = nx at *
    rw [← hnxe] at hnx
    rw [hnxe] at hnx
    generalize hat : W.getD k 0 = at' at *
    repeat' (first
| refine g_seq ?_
| refine g_block ?_
| refine g_region ?_
| (refine o_go rfl ?_; (first
| refine p_p (ps_move rfl) ?_
| refine p_p (ps_assign rfl) ?_
| refine p_p (ps_neq rfl rfl rfl) ?_); refine ⟨_, aA, ?_⟩)
| refine o_nil ?_
| (refine g_condN rfl (fun hc => ?_) (fun hc => ?_) <;> try (exfalso; omega))
| refine g_skip ?_)
    all_goals try (exfalso; omega)
    refine g_loopT (α := Nat) (fun z => [(21, I (z : Int))]) (fun _ => [.gone, .gone, .arr true 1 3 ((farL lk m v).map I), .arr false 1 3 (nIs ln), .arr false 1 3 (nIs (W.take (k + 1)))]) (fun z => z ≤ nx) (fun z => nx - z) 0 aH (Nat.zero_le _) ⟨rfl, trivial⟩ rfl ?_
    rintro z hz
    dsimp only [setMany, List.set_cons_zero, List.set_cons_succ]
    have hixz := im_at (l := farL lk m v) (z := z) (by omega)
    have hcall := hlk at' z w1 (by omega)
    have hzb := hF.neg z (by omega)
    have hzb : -1 ≤ (farL lk m v).getD z 0 ∧ _ := hzb
    by_cases he : (farL lk m v).getD z 0 = ((d - k : Nat) : Int) - 1
    · cases hlv : lk at' z with
      | true =>
        have hzn : z = nx := by
          rcases Nat.lt_or_ge z nx with h | h
          · have := n4 z h
            rw [decide_eq_true he, hlv] at this; cases this
          · omega
        rw [hlv] at hcall
        repeat' (first
| refine g_seq ?_
| refine g_block ?_
| refine g_region ?_
| refine g_region_draw (by kernel_rfl) (by kernel_rfl) ?_
| (refine o_go rfl ?_; (first
| refine p_p (ps_index_mut rfl rfl rfl rfl (by omega) (by rw [n_toNat]; omega)) ?_
| refine p_p (ps_load_arr rfl rfl rfl hixz (by rfl)) ?_
| refine p_p (ps_load_arr rfl rfl rfl hixa (by rfl)) ?_
| refine p_p (ps_call rfl rfl aC (hcall)) ?_
| refine p_e (by kernel_rfl) (e_append rfl rfl rfl rfl rfl rfl (one_one rfl) rfl aO aO) ?_
| refine p_p (ps_move rfl) ?_
| refine p_p (ps_assign rfl) ?_
| refine p_p (ps_add rfl rfl rfl aM) ?_
| refine p_p (ps_not rfl rfl) ?_
| refine p_p (ps_pick rfl rfl) ?_
| refine p_p (ps_neq rfl rfl rfl) ?_
| refine p_p (ps_sub rfl rfl rfl aM) ?_
| refine p_p (ps_lit1 rfl rfl (by rfl) (by rfl)) ?_); refine ⟨_, aA, ?_⟩)
| refine o_nil ?_
| (refine o_s rfl ?_; refine ⟨_, aA, ?_⟩)
| (refine o_splitN rfl rfl rfl (fun hc => ?_) (fun hc => ?_) <;> dsimp only [List.set_cons_zero, List.set_cons_succ])
| refine g_condT rfl ?_
| refine g_condF rfl ?_
| refine g_skip ?_
| refine g_exit ?_)
        all_goals try (exfalso; first | omega | (rw [decide_eq_true he] at hc; exact Bool.noConfusion hc))
        refine k_round (k + 1) (by omega) (by omega) aI ⟨?_, rfl, trivial⟩ (hp2 (hpLe_cons rfl (hpLe_cons rfl (hpLe_cons ?_ (hpLe_nil _)))))
        · rw [hnxe, hzn]; rfl
        · rw [htk, hzn]
          show HO.arr false 1 _ _ = HO.arr false 1 _ ((W.take (k + 1) ++ [nx]).map fun (z : Nat) => I (z : Int))
          rw [List.map_append]; rfl
      | false =>
        have hzn : z < nx := by
          rcases Nat.lt_or_ge z nx with h | h
          · exact h
          · have : z = nx := by omega
            rw [this, n3] at hlv; cases hlv
        rw [hlv] at hcall
        repeat' (first
| refine g_seq ?_
| refine g_block ?_
| refine g_region ?_
| refine g_region_draw (by kernel_rfl) (by kernel_rfl) ?_
| (refine o_go rfl ?_; (first
| refine p_p (ps_index_mut rfl rfl rfl rfl (by omega) (by rw [n_toNat]; omega)) ?_
| refine p_p (ps_load_arr rfl rfl rfl hixz (by rfl)) ?_
| refine p_p (ps_load_arr rfl rfl rfl hixa (by rfl)) ?_
| refine p_p (ps_call rfl rfl aC (hcall)) ?_
| refine p_p (ps_move rfl) ?_
| refine p_p (ps_assign rfl) ?_
| refine p_p (ps_add rfl rfl rfl aM) ?_
| refine p_p (ps_not rfl rfl) ?_
| refine p_p (ps_pick rfl rfl) ?_
| refine p_p (ps_neq rfl rfl rfl) ?_
| refine p_p (ps_sub rfl rfl rfl aM) ?_); refine ⟨_, aA, ?_⟩)
| refine o_nil ?_
| (refine o_s rfl ?_; refine ⟨_, aA, ?_⟩)
| (refine o_splitN rfl rfl rfl (fun hc => ?_) (fun hc => ?_) <;> dsimp only [List.set_cons_zero, List.set_cons_succ])
| refine g_condT rfl ?_
| refine g_skip ?_)
        all_goals try (exfalso; first | omega | (rw [decide_eq_true he] at hc; exact Bool.noConfusion hc))
        exact k_round (z + 1) (by omega) (by omega) aI ⟨rfl, trivial⟩ (hpLe_refl _)
    · have hzn : z < nx := by
        rcases Nat.lt_or_ge z nx with h | h
        · exact h
        · have : z = nx := by omega
          exact absurd (by rw [this]; exact n2) he
      repeat' (first
| refine g_seq ?_
| refine g_block ?_
| refine g_region ?_
| refine g_region_draw (by kernel_rfl) (by kernel_rfl) ?_
| (refine o_go rfl ?_; (first
| refine p_p (ps_index_mut rfl rfl rfl rfl (by omega) (by rw [n_toNat]; omega)) ?_
| refine p_p (ps_load_arr rfl rfl rfl hixz (by rfl)) ?_
| refine p_p (ps_load_arr rfl rfl rfl hixa (by rfl)) ?_
| refine p_p (ps_move rfl) ?_
| refine p_p (ps_assign rfl) ?_
| refine p_p (ps_add rfl rfl rfl aM) ?_
| refine p_p (ps_pick rfl rfl) ?_
| refine p_p (ps_neq rfl rfl rfl) ?_
| refine p_p (ps_sub rfl rfl rfl aM) ?_); refine ⟨_, aA, ?_⟩)
| refine o_nil ?_
| (refine o_s rfl ?_; refine ⟨_, aA, ?_⟩)
| (refine o_splitN rfl rfl rfl (fun hc => ?_) (fun hc => ?_) <;> dsimp only [List.set_cons_zero, List.set_cons_succ])
| refine g_condT rfl ?_
| refine g_skip ?_)
      all_goals try (exfalso; first | omega | (rw [decide_eq_false he] at hc; exact Bool.noConfusion hc))
      exact k_round (z + 1) (by omega) (by omega) aI ⟨rfl, trivial⟩ (hpLe_refl _)
  · have hav : W.getD k 0 = v := far_zero hv w1 (by rw [w2]; omega)
    have hfin : nIs (W.take (k + 1)) = (W.map fun (z : Nat) => (z : Int)).map I := by rw [List.take_of_length_le (by omega)]; exact nIs_ints W
    rw [show ((d - k : Nat) : Int) = 0 by omega] at hixa
    repeat' (first
| refine g_seq ?_
| refine g_region ?_
| (refine o_go rfl ?_; (first
| refine p_p (ps_move rfl) ?_
| refine p_p (ps_assign rfl) ?_
| refine p_p (ps_neq rfl rfl rfl) ?_); refine ⟨_, aA, ?_⟩)
| refine o_nil ?_
| (refine g_condN rfl (fun hc => ?_) (fun hc => ?_) <;> try (exfalso; omega))
| refine kr2 ?_ ?_
| refine krB rfl ?_
| refine krS rfl ?_
| refine g_exit ?_
| refine g_ret ?_)
    all_goals first | rfl | (exfalso; omega) | (rw [hfin]; done) | (rw [hfin]; rfl)
end Go.Proofs.Ytkdagmbgjddopaa
