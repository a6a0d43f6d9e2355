/- Walks: the program's posets and lattices. -/
import Derived.Test.YtbfmjknngofleaaJSq
import Derived.Test.YtbfmjknngofleaaJTy
/- Walks: the program's tables of orders. -/
namespace Go.Proofs.Ytbfmjknngofleaa
open Go Go.Pv Go.Proofs
attribute [local bitvec_to_nat] St.put St.setObj St.ev killP killA killP1 killH mapHO renP renA ren1 killG killGA killG1 krowP krowA krow1 lendP lendA lend1 unv pinP pin1 elemsM viewM viewN viewV n_set_z n_set_s n_map_c n_map_n getD_z getD_s n_toNat n_cond_t n_cond_f n_len_c n_len_n n_app_c n_app_n n_take_s n_take_z n_drop_s n_drop_z n_get_z n_get_s view viewA view1 elems Nat.zero_add Nat.add_zero Bool.not_true Bool.not_false Nat.one_ne_zero Nat.mul_one

set_option maxHeartbeats 2000000 in
set_option maxRecDepth 100000 in
theorem isOrder_c (t : List (List Bool)) (hok : okT t) : PCalls Try.prog 93 [boolss t] (B (orderB t)) := by
  refine pcalls1 Try.func93 rfl Try.ntmps93 rfl ?_
  simp only [List.length_cons, List.length_nil, Nat.reduceAdd, Nat.reduceSub, List.replicate_succ, List.replicate_zero, List.cons_append, List.nil_append]
  have hl := hok.1
  have hsq := hok.2
  repeat' (first
| refine g_seq ?_
| refine g_block ?_
| refine g_region ?_
| (refine o_go rfl ?_; (first
| refine p_p (ps_move rfl) ?_
| refine p_p (ps_assign rfl) ?_
| refine p_p (ps_lenM rfl rfl rfl) ?_); refine ⟨_, (by dsimp only [bitvec_to_nat, Nat.reduceAdd, Nat.reduceMul, Nat.reduceBEq, reduceCtorEq]), ?_⟩)
| refine o_nil ?_)
  refine g_loopT (α := Nat) (fun x => [(8, I (x : Int))]) (fun _ => []) (fun x => x ≤ t.length ∧ (allN x fun x => ordX t x) = true) (fun x => t.length - x) 0 (by simp only [havoc, dsts, List.filterMap_cons, List.filterMap_nil, List.foldl_cons, List.foldl_nil, List.cons_append, List.nil_append, List.append_nil, List.set_cons_succ, List.set_cons_zero]; exact rfl) ⟨Nat.zero_le _, rfl⟩ ⟨rfl, trivial⟩ rfl ?_
  rintro x ⟨hx, hgx⟩
  dsimp only [setMany, List.set_cons_zero, List.set_cons_succ]
  repeat' (first
| refine g_seq ?_
| refine g_block ?_
| refine g_region ?_
| (refine o_go rfl ?_; (first
| refine p_p (ps_index rfl rfl rfl (by omega) (idx_B (by rw [hsq _ (by omega)]; omega)) (by exact rfl)) ?_
| refine p_p (ps_move rfl) ?_
| refine p_p (ps_assign rfl) ?_
| refine p_p (ps_load_cell rfl rfl) ?_
| refine p_p (ps_index rfl rfl rfl (by omega) (by first | exact idx_I (by omega) | exact idx_B (by omega) | exact idx_ints (by omega) | exact idx_bools (by omega) | exact idx_intss (by omega) | rfl) (by exact rfl)) ?_
| refine p_p (ps_lenM rfl rfl rfl) ?_
| refine p_p (ps_lss rfl rfl rfl) ?_
| refine p_p (ps_not rfl rfl) ?_); refine ⟨_, (by dsimp only [bitvec_to_nat, Nat.reduceAdd, Nat.reduceMul, Nat.reduceBEq, reduceCtorEq]), ?_⟩)
| refine o_nil ?_
| (refine g_condD rfl (fun hc => ?_) (fun hc => ?_) <;> try (exfalso; omega))
| (refine g_condNB rfl (fun hc => ?_) (fun hc => ?_))
| refine kr1 ?_
| refine krB rfl ?_
| refine g_skip ?_
| refine g_exit ?_
| refine g_ret ?_)
  · exact Eq.symm (allN_false (k := x) (by omega) (by unfold ordX tabB; rw [hc]; rfl))
  · rename_i hxx
    refine g_loopT (α := Nat) (fun y => [(21, I (y : Int))]) (fun _ => []) (fun y => y ≤ t.length ∧ (allN y fun y => ordY t x y) = true) (fun y => t.length - y) 0 (by simp only [havoc, dsts, List.filterMap_cons, List.filterMap_nil, List.foldl_cons, List.foldl_nil, List.cons_append, List.nil_append, List.append_nil, List.set_cons_succ, List.set_cons_zero]; exact rfl) ⟨Nat.zero_le _, rfl⟩ ⟨rfl, trivial⟩ rfl ?_
    rintro y ⟨hy, hgy⟩
    dsimp only [setMany, List.set_cons_zero, List.set_cons_succ]
    repeat' (first
| refine g_seq ?_
| refine g_block ?_
| refine g_region ?_
| (refine o_go rfl ?_; (first
| refine p_p (ps_index rfl rfl rfl (by omega) (idx_B (by rw [hsq _ (by omega)]; omega)) (by exact rfl)) ?_
| refine p_p (ps_move rfl) ?_
| refine p_p (ps_assign rfl) ?_
| refine p_p (ps_load_cell rfl rfl) ?_
| refine p_p (ps_index rfl rfl rfl (by omega) (by first | exact idx_I (by omega) | exact idx_B (by omega) | exact idx_ints (by omega) | exact idx_bools (by omega) | exact idx_intss (by omega) | rfl) (by exact rfl)) ?_
| refine p_p (ps_lenM rfl rfl rfl) ?_
| refine p_p (ps_lss rfl rfl rfl) ?_
| refine p_p (ps_add rfl rfl rfl (by constructor <;> omega)) ?_
| refine p_p (ps_pick rfl rfl) ?_
| refine p_p (ps_neq rfl rfl rfl) ?_); refine ⟨_, (by dsimp only [bitvec_to_nat, Nat.reduceAdd, Nat.reduceMul, Nat.reduceBEq, reduceCtorEq]), ?_⟩)
| refine o_nil ?_
| (refine o_s rfl ?_; refine ⟨_, (by dsimp only [bitvec_to_nat, Nat.reduceAdd, Nat.reduceMul, Nat.reduceBEq, reduceCtorEq]), ?_⟩)
| (refine o_splitN rfl rfl rfl (fun hc => ?_) (fun hc => ?_) <;> dsimp only [List.set_cons_zero, List.set_cons_succ])
| (refine o_splitA rfl rfl rfl (fun hc => ?_) (fun hc => ?_) <;> dsimp only [List.set_cons_zero, List.set_cons_succ])
| refine g_condF rfl ?_
| (refine g_condD rfl (fun hc => ?_) (fun hc => ?_) <;> try (exfalso; omega))
| (refine g_cond rfl (fun hc => ?_) (fun hc => ?_))
| refine kr1 ?_
| refine krB rfl ?_
| refine g_skip ?_
| refine g_exit ?_
| refine g_ret ?_)
    · rename_i hd h1
      refine Eq.symm (allN_false (k := x) (by omega) ?_)
      unfold ordX
      rw [allN_false (k := y) (by omega) (by unfold ordY tabB; rw [hd, h1, hc]; rfl), Bool.and_false]
    · have hq : (!(!decide ((x : Int) = (y : Int)) && tabB t x y && tabB t y x)) = true := by unfold tabB; rw [hc, Bool.and_false]; rfl
      refine g_loopT (α := Nat) (fun z => [(47, I (z : Int))]) (fun _ => []) (fun z => z ≤ t.length ∧ (allN z fun z => ordZ t x y z) = true) (fun z => t.length - z) 0 (by simp only [havoc, dsts, List.filterMap_cons, List.filterMap_nil, List.foldl_cons, List.foldl_nil, List.cons_append, List.nil_append, List.append_nil, List.set_cons_succ, List.set_cons_zero]; exact rfl) ⟨Nat.zero_le _, rfl⟩ ⟨rfl, trivial⟩ rfl ?_
      rintro z ⟨hz, hgz⟩
      dsimp only [setMany, List.set_cons_zero, List.set_cons_succ]
      repeat' (first
| refine g_seq ?_
| refine g_block ?_
| refine g_region ?_
| (refine o_go rfl ?_; (first
| refine p_p (ps_index rfl rfl rfl (by omega) (idx_B (by rw [hsq _ (by omega)]; omega)) (by exact rfl)) ?_
| refine p_p (ps_move rfl) ?_
| refine p_p (ps_assign rfl) ?_
| refine p_p (ps_load_cell rfl rfl) ?_
| refine p_p (ps_index rfl rfl rfl (by omega) (by first | exact idx_I (by omega) | exact idx_B (by omega) | exact idx_ints (by omega) | exact idx_bools (by omega) | exact idx_intss (by omega) | rfl) (by exact rfl)) ?_
| refine p_p (ps_lss rfl rfl rfl) ?_
| refine p_p (ps_add rfl rfl rfl (by constructor <;> omega)) ?_
| refine p_p (ps_not rfl rfl) ?_
| refine p_p (ps_pick rfl rfl) ?_); refine ⟨_, (by dsimp only [bitvec_to_nat, Nat.reduceAdd, Nat.reduceMul, Nat.reduceBEq, reduceCtorEq]), ?_⟩)
| refine o_nil ?_
| (refine o_s rfl ?_; refine ⟨_, (by dsimp only [bitvec_to_nat, Nat.reduceAdd, Nat.reduceMul, Nat.reduceBEq, reduceCtorEq]), ?_⟩)
| (refine o_splitA rfl rfl rfl (fun hc => ?_) (fun hc => ?_) <;> dsimp only [List.set_cons_zero, List.set_cons_succ])
| refine g_condF rfl ?_
| (refine g_condD rfl (fun hc => ?_) (fun hc => ?_) <;> try (exfalso; omega))
| (refine g_condNB rfl (fun hc => ?_) (fun hc => ?_))
| refine kr1 ?_
| refine krB rfl ?_
| refine g_skip ?_
| refine g_exit ?_
| refine g_ret ?_)
      · rename_i h1 h2
        refine Eq.symm (allN_false (k := x) (by omega) ?_)
        unfold ordX
        rw [allN_false (k := y) (by omega) (by unfold ordY; rw [allN_false (k := z) (by omega) (by unfold ordZ tabB; rw [h1, h2, hc]; rfl), Bool.and_false]), Bool.and_false]
      · exact k_round (z + 1) ⟨by omega, by rw [allN_succ, hgz]; unfold ordZ tabB; rw [hc, Bool.not_true, Bool.and_false]; rfl⟩ (by omega) (by repeat (first | exact trivial | refine ⟨.inl rfl, ?_⟩ | refine ⟨.inr rfl, ?_⟩)) ⟨rfl, trivial⟩ (hpLe_nil _)
      · exact k_round (z + 1) ⟨by omega, by rw [allN_succ, hgz]; unfold ordZ tabB; rw [hc, Bool.and_false, Bool.false_and]; rfl⟩ (by omega) (by repeat (first | exact trivial | refine ⟨.inl rfl, ?_⟩ | refine ⟨.inr rfl, ?_⟩)) ⟨rfl, trivial⟩ (hpLe_nil _)
      · exact k_round (z + 1) ⟨by omega, by rw [allN_succ, hgz]; unfold ordZ tabB; rw [hc]; rfl⟩ (by omega) (by repeat (first | exact trivial | refine ⟨.inl rfl, ?_⟩ | refine ⟨.inr rfl, ?_⟩)) ⟨rfl, trivial⟩ (hpLe_nil _)
      · have hzn : z = t.length := by omega
        subst hzn
        exact k_round (y + 1) ⟨by omega, by rw [allN_succ, hgy]; unfold ordY; rw [hq, hgz]; rfl⟩ (by omega) (by repeat (first | exact trivial | refine ⟨.inl rfl, ?_⟩ | refine ⟨.inr rfl, ?_⟩)) ⟨rfl, trivial⟩ (hpLe_nil _)
    · have hq : (!(!decide ((x : Int) = (y : Int)) && tabB t x y && tabB t y x)) = true := by unfold tabB; rw [hc, Bool.and_false, Bool.false_and]; rfl
      refine g_loopT (α := Nat) (fun z => [(47, I (z : Int))]) (fun _ => []) (fun z => z ≤ t.length ∧ (allN z fun z => ordZ t x y z) = true) (fun z => t.length - z) 0 (by simp only [havoc, dsts, List.filterMap_cons, List.filterMap_nil, List.foldl_cons, List.foldl_nil, List.cons_append, List.nil_append, List.append_nil, List.set_cons_succ, List.set_cons_zero]; exact rfl) ⟨Nat.zero_le _, rfl⟩ ⟨rfl, trivial⟩ rfl ?_
      rintro z ⟨hz, hgz⟩
      dsimp only [setMany, List.set_cons_zero, List.set_cons_succ]
      repeat' (first
| refine g_seq ?_
| refine g_block ?_
| refine g_region ?_
| (refine o_go rfl ?_; (first
| refine p_p (ps_index rfl rfl rfl (by omega) (idx_B (by rw [hsq _ (by omega)]; omega)) (by exact rfl)) ?_
| refine p_p (ps_move rfl) ?_
| refine p_p (ps_assign rfl) ?_
| refine p_p (ps_load_cell rfl rfl) ?_
| refine p_p (ps_index rfl rfl rfl (by omega) (by first | exact idx_I (by omega) | exact idx_B (by omega) | exact idx_ints (by omega) | exact idx_bools (by omega) | exact idx_intss (by omega) | rfl) (by exact rfl)) ?_
| refine p_p (ps_lss rfl rfl rfl) ?_
| refine p_p (ps_add rfl rfl rfl (by constructor <;> omega)) ?_
| refine p_p (ps_not rfl rfl) ?_
| refine p_p (ps_pick rfl rfl) ?_); refine ⟨_, (by dsimp only [bitvec_to_nat, Nat.reduceAdd, Nat.reduceMul, Nat.reduceBEq, reduceCtorEq]), ?_⟩)
| refine o_nil ?_
| (refine o_s rfl ?_; refine ⟨_, (by dsimp only [bitvec_to_nat, Nat.reduceAdd, Nat.reduceMul, Nat.reduceBEq, reduceCtorEq]), ?_⟩)
| (refine o_splitA rfl rfl rfl (fun hc => ?_) (fun hc => ?_) <;> dsimp only [List.set_cons_zero, List.set_cons_succ])
| refine g_condF rfl ?_
| (refine g_condD rfl (fun hc => ?_) (fun hc => ?_) <;> try (exfalso; omega))
| (refine g_condNB rfl (fun hc => ?_) (fun hc => ?_))
| refine kr1 ?_
| refine krB rfl ?_
| refine g_skip ?_
| refine g_exit ?_
| refine g_ret ?_)
      · rename_i h1 h2
        refine Eq.symm (allN_false (k := x) (by omega) ?_)
        unfold ordX
        rw [allN_false (k := y) (by omega) (by unfold ordY; rw [allN_false (k := z) (by omega) (by unfold ordZ tabB; rw [h1, h2, hc]; rfl), Bool.and_false]), Bool.and_false]
      · exact k_round (z + 1) ⟨by omega, by rw [allN_succ, hgz]; unfold ordZ tabB; rw [hc, Bool.not_true, Bool.and_false]; rfl⟩ (by omega) (by repeat (first | exact trivial | refine ⟨.inl rfl, ?_⟩ | refine ⟨.inr rfl, ?_⟩)) ⟨rfl, trivial⟩ (hpLe_nil _)
      · exact k_round (z + 1) ⟨by omega, by rw [allN_succ, hgz]; unfold ordZ tabB; rw [hc, Bool.and_false, Bool.false_and]; rfl⟩ (by omega) (by repeat (first | exact trivial | refine ⟨.inl rfl, ?_⟩ | refine ⟨.inr rfl, ?_⟩)) ⟨rfl, trivial⟩ (hpLe_nil _)
      · exact k_round (z + 1) ⟨by omega, by rw [allN_succ, hgz]; unfold ordZ tabB; rw [hc]; rfl⟩ (by omega) (by repeat (first | exact trivial | refine ⟨.inl rfl, ?_⟩ | refine ⟨.inr rfl, ?_⟩)) ⟨rfl, trivial⟩ (hpLe_nil _)
      · have hzn : z = t.length := by omega
        subst hzn
        exact k_round (y + 1) ⟨by omega, by rw [allN_succ, hgy]; unfold ordY; rw [hq, hgz]; rfl⟩ (by omega) (by repeat (first | exact trivial | refine ⟨.inl rfl, ?_⟩ | refine ⟨.inr rfl, ?_⟩)) ⟨rfl, trivial⟩ (hpLe_nil _)
    · have hq : (!(!decide ((x : Int) = (y : Int)) && tabB t x y && tabB t y x)) = true := by rw [hc]; rfl
      refine g_loopT (α := Nat) (fun z => [(47, I (z : Int))]) (fun _ => []) (fun z => z ≤ t.length ∧ (allN z fun z => ordZ t x y z) = true) (fun z => t.length - z) 0 (by simp only [havoc, dsts, List.filterMap_cons, List.filterMap_nil, List.foldl_cons, List.foldl_nil, List.cons_append, List.nil_append, List.append_nil, List.set_cons_succ, List.set_cons_zero]; exact rfl) ⟨Nat.zero_le _, rfl⟩ ⟨rfl, trivial⟩ rfl ?_
      rintro z ⟨hz, hgz⟩
      dsimp only [setMany, List.set_cons_zero, List.set_cons_succ]
      repeat' (first
| refine g_seq ?_
| refine g_block ?_
| refine g_region ?_
| (refine o_go rfl ?_; (first
| refine p_p (ps_index rfl rfl rfl (by omega) (idx_B (by rw [hsq _ (by omega)]; omega)) (by exact rfl)) ?_
| refine p_p (ps_move rfl) ?_
| refine p_p (ps_assign rfl) ?_
| refine p_p (ps_load_cell rfl rfl) ?_
| refine p_p (ps_index rfl rfl rfl (by omega) (by first | exact idx_I (by omega) | exact idx_B (by omega) | exact idx_ints (by omega) | exact idx_bools (by omega) | exact idx_intss (by omega) | rfl) (by exact rfl)) ?_
| refine p_p (ps_lss rfl rfl rfl) ?_
| refine p_p (ps_add rfl rfl rfl (by constructor <;> omega)) ?_
| refine p_p (ps_not rfl rfl) ?_
| refine p_p (ps_pick rfl rfl) ?_); refine ⟨_, (by dsimp only [bitvec_to_nat, Nat.reduceAdd, Nat.reduceMul, Nat.reduceBEq, reduceCtorEq]), ?_⟩)
| refine o_nil ?_
| (refine o_s rfl ?_; refine ⟨_, (by dsimp only [bitvec_to_nat, Nat.reduceAdd, Nat.reduceMul, Nat.reduceBEq, reduceCtorEq]), ?_⟩)
| (refine o_splitA rfl rfl rfl (fun hc => ?_) (fun hc => ?_) <;> dsimp only [List.set_cons_zero, List.set_cons_succ])
| refine g_condF rfl ?_
| (refine g_condD rfl (fun hc => ?_) (fun hc => ?_) <;> try (exfalso; omega))
| (refine g_condNB rfl (fun hc => ?_) (fun hc => ?_))
| refine kr1 ?_
| refine krB rfl ?_
| refine g_skip ?_
| refine g_exit ?_
| refine g_ret ?_)
      · rename_i h1 h2
        refine Eq.symm (allN_false (k := x) (by omega) ?_)
        unfold ordX
        rw [allN_false (k := y) (by omega) (by unfold ordY; rw [allN_false (k := z) (by omega) (by unfold ordZ tabB; rw [h1, h2, hc]; rfl), Bool.and_false]), Bool.and_false]
      · exact k_round (z + 1) ⟨by omega, by rw [allN_succ, hgz]; unfold ordZ tabB; rw [hc, Bool.not_true, Bool.and_false]; rfl⟩ (by omega) (by repeat (first | exact trivial | refine ⟨.inl rfl, ?_⟩ | refine ⟨.inr rfl, ?_⟩)) ⟨rfl, trivial⟩ (hpLe_nil _)
      · exact k_round (z + 1) ⟨by omega, by rw [allN_succ, hgz]; unfold ordZ tabB; rw [hc, Bool.and_false, Bool.false_and]; rfl⟩ (by omega) (by repeat (first | exact trivial | refine ⟨.inl rfl, ?_⟩ | refine ⟨.inr rfl, ?_⟩)) ⟨rfl, trivial⟩ (hpLe_nil _)
      · exact k_round (z + 1) ⟨by omega, by rw [allN_succ, hgz]; unfold ordZ tabB; rw [hc]; rfl⟩ (by omega) (by repeat (first | exact trivial | refine ⟨.inl rfl, ?_⟩ | refine ⟨.inr rfl, ?_⟩)) ⟨rfl, trivial⟩ (hpLe_nil _)
      · have hzn : z = t.length := by omega
        subst hzn
        exact k_round (y + 1) ⟨by omega, by rw [allN_succ, hgy]; unfold ordY; rw [hq, hgz]; rfl⟩ (by omega) (by repeat (first | exact trivial | refine ⟨.inl rfl, ?_⟩ | refine ⟨.inr rfl, ?_⟩)) ⟨rfl, trivial⟩ (hpLe_nil _)
    · have hyn : y = t.length := by omega
      subst hyn
      exact k_round (x + 1) ⟨by omega, by rw [allN_succ, hgx]; unfold ordX; rw [hgy]; unfold tabB; rw [‹(t.getD x []).getD x false = true›]; rfl⟩ (by omega) (by repeat (first | exact trivial | refine ⟨.inl rfl, ?_⟩ | refine ⟨.inr rfl, ?_⟩)) ⟨rfl, trivial⟩ (hpLe_nil _)
  · have hxn : x = t.length := by omega
    subst hxn
    exact hgx.symm

set_option maxRecDepth 100000 in
theorem ohas_c (t : List (List Bool)) (l : List Int) (_hok : okT t) (hl : l.length ≤ 1048576) : PCalls Try.prog 50 [boolss t, ints l] (B (inSizeB l (t.length : Int))) := by
  refine pcalls1 Try.func50 rfl Try.ntmps50 rfl ?_
  simp only [List.length_cons, List.length_nil, Nat.reduceAdd, Nat.reduceSub, List.replicate_succ, List.replicate_zero, List.cons_append, List.nil_append]
  repeat' (first
| refine g_seq ?_
| refine g_region ?_
| (refine o_go rfl ?_; (first
| refine p_p (ps_call rfl rfl (by (repeat (first | refine ⟨PV.le_refl _, ?_⟩ | refine ⟨PV.le_nn _ _ _, ?_⟩ | refine ⟨PV.le_nil _, ?_⟩ | refine ⟨PV.le_any _, ?_⟩)); exact trivial) (inSize_c _ _ hl)) ?_
| refine p_p (ps_move rfl) ?_
| refine p_p (ps_assign rfl) ?_
| refine p_p (ps_lenM rfl rfl rfl) ?_); refine ⟨_, (by dsimp only [bitvec_to_nat, Nat.reduceAdd, Nat.reduceMul, Nat.reduceBEq, reduceCtorEq]), ?_⟩)
| refine o_nil ?_
| refine kr1 ?_
| refine krB rfl ?_
| refine g_ret ?_)
  rfl

set_option maxHeartbeats 1000000 in
set_option maxRecDepth 100000 in
theorem great_c (t : List (List Bool)) (l : List Int) (hok : okT t) (hl : l.length ≤ 1048576) (hin : ∀ i, i < l.length → 0 ≤ l.getD i 0 ∧ l.getD i 0 < (t.length : Int)) : PCalls Try.prog 94 [boolss t, ints l] (I (greatL t l)) := by
  refine pcalls1 Try.func94 rfl Try.ntmps94 rfl ?_
  simp only [List.length_cons, List.length_nil, Nat.reduceAdd, Nat.reduceSub, List.replicate_succ, List.replicate_zero, List.cons_append, List.nil_append]
  have htl := hok.1
  have hsq := hok.2
  repeat' (first
| refine g_seq ?_
| refine g_block ?_
| refine g_region ?_
| (refine o_go rfl ?_; (first
| refine p_p (ps_move rfl) ?_
| refine p_p (ps_assign rfl) ?_
| refine p_p (ps_lenM rfl rfl rfl) ?_); refine ⟨_, (by dsimp only [bitvec_to_nat, Nat.reduceAdd, Nat.reduceMul, Nat.reduceBEq, reduceCtorEq]), ?_⟩)
| refine o_nil ?_)
  refine g_loopT (α := Nat) (fun i => [(12, I (i : Int))]) (fun _ => []) (fun i => i ≤ l.length ∧ (l.take i).find? (fun x => l.all fun y => tabB t y.toNat x.toNat) = none) (fun i => l.length - i) 0 (by simp only [havoc, dsts, List.filterMap_cons, List.filterMap_nil, List.foldl_cons, List.foldl_nil, List.cons_append, List.nil_append, List.append_nil, List.set_cons_succ, List.set_cons_zero]; exact rfl) ⟨Nat.zero_le _, rfl⟩ ⟨rfl, trivial⟩ rfl ?_
  rintro i ⟨hi, hno⟩
  dsimp only [setMany, List.set_cons_zero, List.set_cons_succ]
  repeat' (first
| refine g_seq ?_
| refine g_block ?_
| refine g_region ?_
| (refine o_go rfl ?_; (first
| refine p_p (ps_move rfl) ?_
| refine p_p (ps_assign rfl) ?_
| refine p_p (ps_load_cell rfl rfl) ?_
| refine p_p (ps_index rfl rfl rfl (by omega) (by first | exact idx_I (by omega) | exact idx_B (by omega) | exact idx_ints (by omega) | exact idx_bools (by omega) | exact idx_intss (by omega) | rfl) (by exact rfl)) ?_
| refine p_p (ps_lenM rfl rfl rfl) ?_
| refine p_p (ps_lss rfl rfl rfl) ?_); refine ⟨_, (by dsimp only [bitvec_to_nat, Nat.reduceAdd, Nat.reduceMul, Nat.reduceBEq, reduceCtorEq]), ?_⟩)
| refine o_nil ?_
| (refine g_condD rfl (fun hc => ?_) (fun hc => ?_) <;> try (exfalso; omega))
| refine kr1 ?_
| refine krI rfl ?_
| refine g_skip ?_
| refine g_exit ?_
| refine g_ret ?_)
  · have hxi := hin i (by omega)
    refine g_loopT (α := Nat × Bool) (fun x => [(7, B x.2), (18, I (x.1 : Int))]) (fun _ => []) (fun x => x.1 ≤ l.length ∧ x.2 = (l.take x.1).all fun y => tabB t y.toNat (l.getD i 0).toNat) (fun x => l.length - x.1) (0, true) (by simp only [havoc, dsts, List.filterMap_cons, List.filterMap_nil, List.foldl_cons, List.foldl_nil, List.cons_append, List.nil_append, List.append_nil, List.set_cons_succ, List.set_cons_zero]; exact rfl) ⟨Nat.zero_le _, rfl⟩ ⟨rfl, rfl, trivial⟩ rfl ?_
    rintro ⟨j, top⟩ ⟨hj, htop⟩
    dsimp only at hj htop
    dsimp only [setMany, List.set_cons_zero, List.set_cons_succ]
    have hnext : ∀ h : j < l.length, (l.take (j + 1)).all (fun y => tabB t y.toNat (l.getD i 0).toNat) = (top && tabB t (l.getD j 0).toNat (l.getD i 0).toNat) := fun h => by rw [take_snoc 0 h, all_snoc, ← htop]
    have hlast : ¬ (j : Int) < (l.length : Int) → top = l.all fun y => tabB t y.toNat (l.getD i 0).toNat := fun h => by rw [htop, (take_full hj h).1]
    have hrow : ∀ h : j < l.length, ((l.getD i 0).toNat) < (t.getD (l.getD j 0).toNat []).length := fun h => by
      have := hin j h
      rw [hsq _ (by omega)]; omega
    cases top
    · repeat' (first
| refine g_seq ?_
| refine g_block ?_
| refine g_region ?_
| (refine o_go rfl ?_; (first
| refine p_p (ps_move rfl) ?_
| refine p_p (ps_assign rfl) ?_
| refine p_p (ps_load_cell rfl rfl) ?_
| refine p_p (ps_index rfl rfl rfl (by omega) (by first | exact idx_I (by omega) | exact idx_B (by omega) | exact idx_ints (by omega) | exact idx_bools (by omega) | exact idx_intss (by omega) | rfl) (by exact rfl)) ?_
| refine p_p (ps_lss rfl rfl rfl) ?_
| refine p_p (ps_add rfl rfl rfl (by constructor <;> omega)) ?_
| refine p_p (ps_pick rfl rfl) ?_); refine ⟨_, (by dsimp only [bitvec_to_nat, Nat.reduceAdd, Nat.reduceMul, Nat.reduceBEq, reduceCtorEq]), ?_⟩)
| refine o_nil ?_
| (refine o_s rfl ?_; refine ⟨_, (by dsimp only [bitvec_to_nat, Nat.reduceAdd, Nat.reduceMul, Nat.reduceBEq, reduceCtorEq]), ?_⟩)
| refine g_condF rfl ?_
| (refine g_condD rfl (fun hc => ?_) (fun hc => ?_) <;> try (exfalso; omega))
| refine g_skip ?_
| refine g_exit ?_)
      · exact k_round (j + 1, false) ⟨by omega, by rw [hnext (by omega)]; rfl⟩ (by dsimp only; omega) (by repeat (first | exact trivial | refine ⟨.inl rfl, ?_⟩ | refine ⟨.inr rfl, ?_⟩)) ⟨rfl, rfl, trivial⟩ (hpLe_nil _)
      · exact k_round (i + 1) ⟨by omega, find_take_succ hno 0 (by omega) (hlast hc).symm⟩ (by omega) (by repeat (first | exact trivial | refine ⟨.inl rfl, ?_⟩ | refine ⟨.inr rfl, ?_⟩)) ⟨rfl, trivial⟩ (hpLe_nil _)
    · repeat' (first
| refine g_seq ?_
| refine g_block ?_
| refine g_region ?_
| (refine o_go rfl ?_; (first
| refine p_p (ps_index rfl rfl rfl hxi.1 (idx_B (hrow (by omega))) (by exact rfl)) ?_
| refine p_p (ps_index rfl rfl rfl (hin j (by omega)).1 (idx_bools (by have := hin j (by omega); omega)) (by exact rfl)) ?_
| refine p_p (ps_move rfl) ?_
| refine p_p (ps_assign rfl) ?_
| refine p_p (ps_load_cell rfl rfl) ?_
| refine p_p (ps_index rfl rfl rfl (by omega) (by first | exact idx_I (by omega) | exact idx_B (by omega) | exact idx_ints (by omega) | exact idx_bools (by omega) | exact idx_intss (by omega) | rfl) (by exact rfl)) ?_
| refine p_p (ps_lss rfl rfl rfl) ?_
| refine p_p (ps_add rfl rfl rfl (by constructor <;> omega)) ?_
| refine p_p (ps_pick rfl rfl) ?_); refine ⟨_, (by dsimp only [bitvec_to_nat, Nat.reduceAdd, Nat.reduceMul, Nat.reduceBEq, reduceCtorEq]), ?_⟩)
| refine o_nil ?_
| refine g_condT rfl ?_
| (refine g_condD rfl (fun hc => ?_) (fun hc => ?_) <;> try (exfalso; omega))
| refine kr1 ?_
| refine krI rfl ?_
| refine g_skip ?_
| refine g_exit ?_
| refine g_ret ?_)
      · exact k_round (j + 1, tabB t (l.getD j 0).toNat (l.getD i 0).toNat) ⟨by omega, by rw [hnext (by omega)]; rfl⟩ (by dsimp only; omega) (by repeat (first | exact trivial | refine ⟨.inl rfl, ?_⟩ | refine ⟨.inr rfl, ?_⟩)) ⟨rfl, rfl, trivial⟩ (hpLe_nil _)
      · unfold greatL
        rw [find_none_take hno 0 (by omega) (hlast hc).symm]; rfl
  · rw [(take_full hi hc).1] at hno
    unfold greatL
    rw [hno]; rfl

set_option maxHeartbeats 1000000 in
set_option maxRecDepth 100000 in
theorem thoseR_c (t : List (List Bool)) (f : FuncId) [FnT Try.prog f] (caps : List PV) (pred : Nat → Bool) (hok : okT t) (hf : ∀ x, x < t.length → PCalls Try.prog f ([] ++ [I (x : Int)] ++ caps) (B (pred x))) :
    RCalls Try.prog 24 [boolss t, .fn f [] caps] (.arr true 1 3 ((upTo t.length pred).map I)) (.hp 0) := by
  refine pcallsR1 Try.func24 rfl Try.ntmps24 rfl ?_
  simp only [List.length_cons, List.length_nil, Nat.reduceAdd, Nat.reduceSub, List.replicate_succ, List.replicate_zero, List.cons_append, List.nil_append]
  have htl := hok.1
  repeat' (first
| refine g_seq ?_
| refine g_block ?_
| refine g_region ?_
| (refine o_go rfl ?_; (first
| refine p_p (ps_move rfl) ?_
| refine p_p (ps_assign rfl) ?_
| refine p_p (ps_lenM rfl rfl rfl) ?_
| refine p_e rfl (e_lit0 rfl (by decide)) ?_); refine ⟨_, (by dsimp only [bitvec_to_nat, Nat.reduceAdd, Nat.reduceMul, Nat.reduceBEq, reduceCtorEq]), ?_⟩)
| refine o_nil ?_)
  refine g_loopF (α := Nat) [7] (fun x => [(5, .hp 0), (10, I (x : Int))]) (fun x => [.arr false 1 3 ((upTo x pred).map I)]) (fun x => x ≤ t.length) (fun x => t.length - x) 0 (by simp only [havoc, dsts, List.filterMap_cons, List.filterMap_nil, List.foldl_cons, List.foldl_nil, List.cons_append, List.nil_append, List.append_nil, List.set_cons_succ, List.set_cons_zero]; exact rfl) (Nat.zero_le _) ⟨rfl, rfl, trivial⟩ rfl ?_
  rintro x hx
  dsimp only [setMany, List.set_cons_zero, List.set_cons_succ]
  have hul := upTo_length x pred
  have hsuc := upTo_succ x pred
  repeat' (first
| refine g_seq ?_
| refine g_block ?_
| refine g_region ?_
| (refine o_go rfl ?_; (first
| refine p_p (ps_call rfl rfl (argsLe_refl _) (hf x (by omega))) ?_
| refine p_p (ps_move rfl) ?_
| refine p_p (ps_assign rfl) ?_
| refine p_p (ps_lss rfl rfl rfl) ?_
| refine p_p (ps_add rfl rfl rfl (by constructor <;> omega)) ?_
| refine p_e rfl (e_append rfl rfl rfl rfl rfl rfl (by first | exact one_one rfl | exact one_map (fun _ => rfl) _) rfl (by first | omega | (simp; done) | (simp; omega)) (by first | omega | (simp; done) | (simp; omega))) ?_
| refine p_p (ps_lit1 rfl rfl (by rfl) (by rfl)) ?_); refine ⟨_, (by dsimp only [bitvec_to_nat, Nat.reduceAdd, Nat.reduceMul, Nat.reduceBEq, reduceCtorEq]), ?_⟩)
| refine o_nil ?_
| (refine g_condD rfl (fun hc => ?_) (fun hc => ?_) <;> try (exfalso; omega))
| (refine g_cond rfl (fun hc => ?_) (fun hc => ?_))
| refine krr 0 rfl (HandOut.arr rfl ?_ (by first | exact sc_map (fun _ => rfl) _ | exact sc_maps (fun _ => rfl) _ | rfl))
| refine g_skip ?_
| refine g_exit ?_
| refine g_ret ?_)
  · rw [hc] at hsuc
    refine k_round (x + 1) (by omega) (by omega) (by repeat (first | exact trivial | refine ⟨.inl rfl, ?_⟩ | refine ⟨.inr rfl, ?_⟩)) ⟨rfl, rfl, trivial⟩ (hpLe_cons ?_ (hpLe_nil _))
    rw [hsuc]; simp
  · rw [hc] at hsuc
    refine k_round (x + 1) (by omega) (by omega) (by repeat (first | exact trivial | refine ⟨.inl rfl, ?_⟩ | refine ⟨.inr rfl, ?_⟩)) ⟨rfl, rfl, trivial⟩ (hpLe_cons ?_ (hpLe_nil _))
    rw [hsuc]; simp
  · have hxn : x = t.length := by omega
    subst hxn
    rfl

theorem those_c (t : List (List Bool)) (f : FuncId) [FnT Try.prog f] (caps : List PV) (pred : Nat → Bool) (hok : okT t) (hf : ∀ x, x < t.length → PCalls Try.prog f ([] ++ [I (x : Int)] ++ caps) (B (pred x))) :
    PCalls Try.prog 24 [boolss t, .fn f [] caps] (ints (upTo t.length pred)) := (thoseR_c t f caps pred hok hf).plain rfl rfl

set_option maxRecDepth 100000 in
theorem meet1_c (t : List (List Bool)) (x y z : Nat) (hok : okT t) (hx : x < t.length) (hy : y < t.length) (hz : z < t.length) :
    PCalls Try.prog 95 [I (z : Int), .ptr [boolss t], .ptr [I (x : Int)], .ptr [I (y : Int)]] (B (tabB t z x && tabB t z y)) := by
  refine pcalls1 Try.func95 rfl Try.ntmps95 rfl ?_
  simp only [List.length_cons, List.length_nil, Nat.reduceAdd, Nat.reduceSub, List.replicate_succ, List.replicate_zero, List.cons_append, List.nil_append]
  have htl := hok.1
  have hrow := hok.2 z hz
  repeat' (first
| refine g_seq ?_
| refine g_region ?_
| refine g_region_draw (by kernel_rfl) (by kernel_rfl) ?_
| (refine o_go rfl ?_; (first
| refine p_p (ps_index rfl rfl rfl (by omega) (idx_B (by rw [n_toNat, hrow]; omega)) (by exact rfl)) ?_
| refine p_p (ps_move rfl) ?_
| refine p_p (ps_assign rfl) ?_
| refine p_p (ps_load_cell rfl rfl) ?_
| refine p_p (ps_index rfl rfl rfl (by omega) (by first | exact idx_I (by omega) | exact idx_B (by omega) | exact idx_ints (by omega) | exact idx_bools (by omega) | exact idx_intss (by omega) | rfl) (by exact rfl)) ?_
| refine p_p (ps_pick rfl rfl) ?_); refine ⟨_, (by dsimp only [bitvec_to_nat, Nat.reduceAdd, Nat.reduceMul, Nat.reduceBEq, reduceCtorEq]), ?_⟩)
| refine o_nil ?_
| (refine o_s rfl ?_; refine ⟨_, (by dsimp only [bitvec_to_nat, Nat.reduceAdd, Nat.reduceMul, Nat.reduceBEq, reduceCtorEq]), ?_⟩)
| (refine o_splitA rfl rfl rfl (fun hc => ?_) (fun hc => ?_) <;> dsimp only [List.set_cons_zero, List.set_cons_succ])
| refine kr1 ?_
| refine krB rfl ?_
| refine g_ret ?_)
  · unfold tabB; rw [hc]; rfl
  · unfold tabB; rw [hc]; rfl

set_option maxHeartbeats 2000000 in
set_option maxRecDepth 100000 in
theorem meetTable_c (t : List (List Bool)) (hok : okT t) (q : PV) (hq : (mOk t = true → q = intss (meetsT t t.length)) ∧ (mOk t = false → q = intss [])) :
    PCalls Try.prog 82 [boolss t] (.tup [q, B (mOk t)]) := by
  refine pcalls2 Try.func82 rfl Try.ntmps82 rfl ?_
  simp only [List.length_cons, List.length_nil, Nat.reduceAdd, Nat.reduceSub, List.replicate_succ, List.replicate_zero, List.cons_append, List.nil_append]
  have htl := hok.1
  repeat' (first
| refine g_seq ?_
| refine g_block ?_
| refine g_region ?_
| (refine o_go rfl ?_; (first
| refine p_p (ps_move rfl) ?_
| refine p_p (ps_assign rfl) ?_
| refine p_p (ps_load_cell rfl rfl) ?_
| refine p_p (ps_lenM rfl rfl rfl) ?_
| refine p_e rfl (e_lit0 rfl (by decide)) ?_
| refine p_p (ps_box rfl rfl) ?_); refine ⟨_, (by dsimp only [bitvec_to_nat, Nat.reduceAdd, Nat.reduceMul, Nat.reduceBEq, reduceCtorEq]), ?_⟩)
| refine o_nil ?_)
  refine g_loopF (α := Nat) [9] (fun x => [(4, .hp 0), (12, I (x : Int))]) (fun x => [.arr false 1 27 ((meetsT t x).map ints)]) (fun x => x ≤ t.length ∧ (allN x fun x => allN t.length fun y => !decide (mT t x y < 0)) = true) (fun x => t.length - x) 0 (by simp only [havoc, dsts, List.filterMap_cons, List.filterMap_nil, List.foldl_cons, List.foldl_nil, List.cons_append, List.nil_append, List.append_nil, List.set_cons_succ, List.set_cons_zero]; exact rfl) ⟨Nat.zero_le _, rfl⟩ ⟨rfl, rfl, trivial⟩ rfl ?_
  rintro x ⟨hx, hgx⟩
  dsimp only [setMany, List.set_cons_zero, List.set_cons_succ]
  have hml := length_meetsT t x
  repeat' (first
| refine g_settle 1 rfl (by dsimp only [setlP, setl1, setlH, bitvec_to_nat, Nat.reduceAdd, Nat.reduceMul, Nat.reduceBEq, reduceCtorEq]) ?_
| refine g_seq ?_
| refine g_block ?_
| refine g_region ?_
| (refine o_go rfl ?_; (first
| refine p_p (ps_move rfl) ?_
| refine p_p (ps_assign rfl) ?_
| refine p_p (ps_load_cell rfl rfl) ?_
| refine p_p (ps_lenM rfl rfl rfl) ?_
| refine p_p (ps_lss rfl rfl rfl) ?_
| refine p_e rfl (e_store_boxC rfl rfl rfl rfl (by exact Nat.le_of_ble_eq_true rfl) rfl rfl) ?_
| refine p_e rfl (e_alloc rfl) ?_
| refine p_e rfl (e_lit0 rfl (by decide)) ?_); refine ⟨_, (by dsimp only [bitvec_to_nat, Nat.reduceAdd, Nat.reduceMul, Nat.reduceBEq, reduceCtorEq]), ?_⟩)
| refine o_nil ?_
| (refine g_condD rfl (fun hc => ?_) (fun hc => ?_) <;> try (exfalso; omega))
| refine kr2 ?_ ?_
| refine krB rfl ?_
| refine g_skip ?_
| refine g_exit ?_
| refine g_ret ?_)
  · refine g_loopF (α := Nat) [15] (fun y => [(6, .hp 2), (18, I (y : Int))]) (fun y => [.arr false 1 27 ((meetsT t x).map ints), .gone, .arr false 1 3 ((rowT t x y).map I)]) (fun y => y ≤ t.length ∧ (allN y fun y => !decide (mT t x y < 0)) = true) (fun y => t.length - y) 0 (by simp only [havoc, dsts, List.filterMap_cons, List.filterMap_nil, List.foldl_cons, List.foldl_nil, List.cons_append, List.nil_append, List.append_nil, List.set_cons_succ, List.set_cons_zero]; exact rfl) ⟨Nat.zero_le _, rfl⟩ ⟨rfl, rfl, trivial⟩ rfl ?_
    rintro y ⟨hy, hgy⟩
    dsimp only [setMany, List.set_cons_zero, List.set_cons_succ]
    have hrl := length_rowT t x y
    repeat' (first
| refine g_settle 3 rfl (by dsimp only [setlP, setl1, setlH, bitvec_to_nat, Nat.reduceAdd, Nat.reduceMul, Nat.reduceBEq, reduceCtorEq]) ?_
| refine g_seq ?_
| refine g_block ?_
| refine g_region ?_
| refine g_region_draw (by kernel_rfl) (by kernel_rfl) ?_
| (refine o_go rfl ?_; (first
| refine p_p (ps_call rfl rfl (by (repeat (first | refine ⟨PV.le_refl _, ?_⟩ | refine ⟨PV.le_nn _ _ _, ?_⟩ | refine ⟨PV.le_nil _, ?_⟩ | refine ⟨PV.le_any _, ?_⟩)); exact trivial) (those_c t 95 [.ptr [boolss t], .ptr [I (x : Int)], .ptr [I (y : Int)]] (fun z => tabB t z x && tabB t z y) hok (fun z hz => meet1_c t x y z hok (by omega) (by omega) hz))) ?_
| refine p_p (ps_call rfl rfl (by (repeat (first | refine ⟨PV.le_refl _, ?_⟩ | refine ⟨PV.le_nn _ _ _, ?_⟩ | refine ⟨PV.le_nil _, ?_⟩ | refine ⟨PV.le_any _, ?_⟩)); exact trivial) (great_c t _ hok (Nat.le_trans (upTo_length _ _) (by omega)) (fun i hi => ⟨(upTo_getD hi).1, (upTo_getD hi).2.1⟩))) ?_
| refine p_p (ps_move rfl) ?_
| refine p_p (ps_assign rfl) ?_
| refine p_p (ps_load_cell rfl rfl) ?_
| refine p_p (ps_lss rfl rfl rfl) ?_
| refine p_p (ps_add rfl rfl rfl (by constructor <;> omega)) ?_
| refine p_e rfl (e_store_boxC rfl rfl rfl rfl (by exact Nat.le_of_ble_eq_true rfl) rfl rfl) ?_
| refine p_e rfl (e_alloc rfl) ?_
| refine p_e rfl (e_append rfl rfl rfl rfl rfl rfl (by first | exact one_one rfl | exact one_map (fun _ => rfl) _) rfl (by first | omega | (simp; done) | (simp; omega)) (by first | omega | (simp; done) | (simp; omega))) ?_
| refine p_p (ps_makeFunc rfl rfl rfl) ?_
| refine p_p (ps_lit1 rfl rfl (by rfl) (by rfl)) ?_); refine ⟨_, (by dsimp only [bitvec_to_nat, Nat.reduceAdd, Nat.reduceMul, Nat.reduceBEq, reduceCtorEq]), ?_⟩)
| refine o_nil ?_
| (refine g_condD rfl (fun hc => ?_) (fun hc => ?_) <;> try (exfalso; omega))
| refine kr2 ?_ ?_
| refine krB rfl ?_
| refine g_skip ?_
| refine g_exit ?_
| refine g_ret ?_)
    · have hno : mOk t = false := allN_false (k := x) (by omega) (allN_false (k := y) (by omega) (by unfold mT; rw [decide_eq_true hc]; rfl))
      rw [hq.2 hno]
      exact krN rfl rfl
    · exact Eq.symm (allN_false (k := x) (by omega) (allN_false (k := y) (by omega) (by unfold mT; rw [decide_eq_true hc]; rfl)))
    · refine k_round (y + 1) ⟨by omega, by rw [allN_succ, hgy]; unfold mT; rw [decide_eq_false hc]; rfl⟩ (by omega) (by repeat (first | exact trivial | refine ⟨.inl rfl, ?_⟩ | refine ⟨.inr rfl, ?_⟩)) ⟨rfl, rfl, trivial⟩ (hpLe_cons rfl (hpLe_cons rfl (hpLe_cons ?_ (hpLe_nil _))))
      rw [rowT_succ, List.map_append]; rfl
    · have hyn : y = t.length := by omega
      subst hyn
      refine k_round (x + 1) ⟨by omega, by rw [allN_succ, hgx, hgy]; rfl⟩ (by omega) (by repeat (first | exact trivial | refine ⟨.inl rfl, ?_⟩ | refine ⟨.inr rfl, ?_⟩)) ⟨rfl, rfl, trivial⟩ (hpLe_cons ?_ (hpLe_nil _))
      rw [meetsT_succ, List.map_append]; rfl
  · have hxn : x = t.length := by omega
    subst hxn
    rw [hq.1 hgx]
    exact krS rfl rfl
  · have hxn : x = t.length := by omega
    subst hxn
    exact hgx.symm

def falses (n : Nat) : List (List Bool) := List.replicate n (List.replicate n false)
abbrev gridB (t : List (List Bool)) : HO := .grid 52 4 (t.map fun r => r.map B)
set_option maxHeartbeats 1000000 in
set_option maxRecDepth 100000 in
theorem newOrder_c (n : Nat) (hn : n ≤ 1024) : RCalls Try.prog 91 [I (n : Int)] (gridB (falses n)) (.hp 0) := by
  refine pcallsR1 Try.func91 rfl Try.ntmps91 rfl ?_
  simp only [List.length_cons, List.length_nil, Nat.reduceAdd, Nat.reduceSub, List.replicate_succ, List.replicate_zero, List.cons_append, List.nil_append]
  repeat' (first
| refine g_seq ?_
| refine g_block ?_
| refine g_region ?_
| (refine o_go rfl ?_; (first
| refine p_e rfl (e_makeG 4 rfl rfl rfl (by omega) (by omega) (by omega) rfl) ?_
| refine p_p (ps_move rfl) ?_
| refine p_p (ps_assign rfl) ?_
| refine p_p (ps_len_pg rfl rfl rfl rfl) ?_); refine ⟨_, (by dsimp only [bitvec_to_nat, Nat.reduceAdd, Nat.reduceMul, Nat.reduceBEq, reduceCtorEq]), ?_⟩)
| refine o_nil ?_)
  refine g_loopT (α := Nat) (fun x => [(9, I (x : Int))]) (fun x => [.pg 52 4 n (List.replicate x (List.replicate n (B false)))]) (fun x => x ≤ n) (fun x => n - x) 0 (by simp only [havoc, dsts, List.filterMap_cons, List.filterMap_nil, List.foldl_cons, List.foldl_nil, List.cons_append, List.nil_append, List.append_nil, List.set_cons_succ, List.set_cons_zero]; exact rfl) (Nat.zero_le _) ⟨rfl, trivial⟩ rfl ?_
  rintro x hx
  dsimp only [setMany, List.set_cons_zero, List.set_cons_succ]
  repeat' (first
| refine g_seq ?_
| refine g_block ?_
| refine g_region ?_
| (refine o_go rfl ?_; (first
| refine p_p (ps_move rfl) ?_
| refine p_p (ps_assign rfl) ?_
| refine p_p (ps_lss rfl rfl rfl) ?_
| refine p_p (ps_add rfl rfl rfl (by constructor <;> omega)) ?_
| refine p_p (ps_index_pg rfl rfl rfl rfl (by omega) (by first | omega | (rw [n_toNat]; omega))) ?_
| refine p_e rfl (e_store_row rfl rfl rfl rfl (by first | omega | (simp; done) | (simp; omega)) (by omega) rfl rfl rfl (by first | exact one_all (fun _ => rfl) _ | exact one_rep rfl _ | rfl)) ?_
| refine p_e rfl (e_make1 rfl rfl rfl (by omega) (by omega) (by omega) rfl rfl) ?_); refine ⟨_, (by dsimp only [bitvec_to_nat, Nat.reduceAdd, Nat.reduceMul, Nat.reduceBEq, reduceCtorEq]), ?_⟩)
| refine o_nil ?_
| (refine g_condD rfl (fun hc => ?_) (fun hc => ?_) <;> try (exfalso; omega))
| refine g_skip ?_
| refine g_exit ?_
| refine g_ret ?_)
  · refine k_round (x + 1) (by omega) (by omega) (by repeat (first | exact trivial | refine ⟨.inl rfl, ?_⟩ | refine ⟨.inr rfl, ?_⟩)) ⟨rfl, trivial⟩ (hpLe_cons ?_ (hpLe_nil _))
    rw [List.replicate_succ' (n := x)]
  · have hxn : x = n := by omega
    subst hxn
    refine krr 0 rfl (HandOut.pg rfl ?_ (by simp [falses]) (sc_maps (fun _ => rfl) _))
    simp [falses]

theorem idx_gridB {t : List (List Bool)} {i : Nat} (h : i < t.length) : (t.map fun r => r.map B)[i]? = some ((t.getD i []).map B) := by simp [h]
theorem gridB_set {n a b : Nat} {f f' : Nat → Nat → Bool} {v : Bool} (ha : a < n) (hb : b < n) (h : ∀ a' b', a' < n → b' < n → f' a' b' = if a' = a ∧ b' = b then v else f a' b') :
    ((tabF n f).map fun r => r.map B).set a ((((tabF n f).getD a []).map B).set b (B v)) = (tabF n f').map fun r => r.map B := by
  rw [← tabF_set ha hb h, List.map_set, List.map_set]
theorem viewM_gridB {t : List (List Bool)} : (PV.sl 1 none ((t.map fun r => r.map B).map fun r => .sl 1 none r)) = boolss t := by
  rw [List.map_map]; rfl

theorem getD_mem {α : Type} {l : List α} {d : α} {i : Nat} (h : i < l.length) : l.getD i d ∈ l := by
  rw [List.getD_eq_getElem?_getD, List.getElem?_eq_getElem h]; exact List.getElem_mem h
def okO (rows : List (List Int)) : Bool := decide (rows.length ≤ 10) && (allN rows.length (fun x => risesB (rows.getD x []) && inSizeB (rows.getD x []) (rows.length : Int)) && orderB (tabOf rows))
def upX (rows : List (List Int)) (x i : Nat) (a b : Nat) : Bool := (decide (b < x) && leqB rows (a : Int) (b : Int)) || (decide (b = x) && ((rows.getD x []).take i).contains (a : Int))
set_option maxHeartbeats 1000000 in
set_option maxRecDepth 100000 in
theorem orderOf_c (rows : List (List Int)) (hok : okP rows) (q : PV) (hq : (okO rows = true → q = boolss (tabOf rows)) ∧ (okO rows = false → q = .any)) : PCalls Try.prog 81 [posetP rows] (.tup [q, B (okO rows)]) := by
  refine pcalls2 Try.func81 rfl Try.ntmps81 rfl ?_
  simp only [List.length_cons, List.length_nil, Nat.reduceAdd, Nat.reduceSub, List.replicate_succ, List.replicate_zero, List.cons_append, List.nil_append]
  have hr := hok.1
  repeat' (first
| refine g_seq ?_
| refine g_block ?_
| refine g_region ?_
| (refine o_go rfl ?_; (first
| refine p_e rfl (e_callR rfl rfl (by (repeat (first | refine ⟨PV.le_refl _, ?_⟩ | refine ⟨PV.le_nn _ _ _, ?_⟩ | refine ⟨PV.le_nil _, ?_⟩ | refine ⟨PV.le_any _, ?_⟩)); exact trivial) rfl (newOrder_c _ (by omega))) ?_
| refine p_p (ps_move rfl) ?_
| refine p_p (ps_assign rfl) ?_
| refine p_p (ps_load_cell rfl rfl) ?_
| refine p_p (ps_lenM rfl rfl rfl) ?_
| refine p_p (ps_fieldAddr rfl rfl) ?_
| refine p_p (ps_gtr rfl rfl rfl) ?_
| refine p_p (ps_box rfl rfl) ?_); refine ⟨_, (by dsimp only [bitvec_to_nat, Nat.reduceAdd, Nat.reduceMul, Nat.reduceBEq, reduceCtorEq]), ?_⟩)
| refine o_nil ?_
| (refine g_condD rfl (fun hc => ?_) (fun hc => ?_) <;> try (exfalso; omega))
| refine kr2 ?_ ?_
| refine krB rfl ?_
| refine g_skip ?_
| refine g_ret ?_)
  · rw [hq.2 (by unfold okO; rw [decide_eq_false (by omega)]; rfl)]; exact krAny
  · unfold okO; rw [decide_eq_false (by omega)]; rfl
  have h10 : rows.length ≤ 10 := by omega
  rw [show gridB (falses rows.length) = gridB (tabF rows.length fun a b => decide (b < 0) && leqB rows (a : Int) (b : Int)) by
    unfold falses; rw [falses_F]; congr 2]
  refine g_loopT (α := Nat) (fun x => [(20, I (x : Int))]) (fun x => [gridB (tabF rows.length fun a b => decide (b < x) && leqB rows (a : Int) (b : Int))]) (fun x => x ≤ rows.length ∧ (allN x fun x => risesB (rows.getD x []) && inSizeB (rows.getD x []) (rows.length : Int)) = true) (fun x => rows.length - x) 0 (by simp only [havoc, dsts, List.filterMap_cons, List.filterMap_nil, List.foldl_cons, List.foldl_nil, List.cons_append, List.nil_append, List.append_nil, List.set_cons_succ, List.set_cons_zero]; exact rfl) ⟨Nat.zero_le _, rfl⟩ ⟨rfl, trivial⟩ rfl ?_
  rintro x ⟨hx, hg⟩
  dsimp only [setMany, List.set_cons_zero, List.set_cons_succ]
  have hrx := hok.row x
  have hno : ∀ h : x < rows.length, (risesB (rows.getD x []) && inSizeB (rows.getD x []) (rows.length : Int)) = false → okO rows = false := fun h h0 => by
    unfold okO; rw [allN_false (k := x) h h0, Bool.false_and, Bool.and_false]
  repeat' (first
| refine g_seq ?_
| refine g_block ?_
| refine g_region ?_
| (refine o_go rfl ?_; (first
| refine p_p (ps_callM rfl rfl (by (repeat (first | refine ⟨PV.le_refl _, ?_⟩ | refine ⟨PV.le_nn _ _ _, ?_⟩ | refine ⟨PV.le_nil _, ?_⟩ | refine ⟨PV.le_any _, ?_⟩)); exact trivial) (by rfl) (rises_c _ hrx)) ?_
| refine p_p (ps_callM rfl rfl (by (repeat (first | refine ⟨PV.le_refl _, ?_⟩ | refine ⟨PV.le_nn _ _ _, ?_⟩ | refine ⟨PV.le_nil _, ?_⟩ | refine ⟨PV.le_any _, ?_⟩)); exact trivial) (by rfl) (inSize_c _ _ hrx)) ?_
| refine p_p (ps_callM rfl rfl (by exact ⟨le_eq viewM_gridB, trivial⟩) (by rfl) (isOrder_c _ (okT_F _ h10))) ?_
| refine p_p (ps_move rfl) ?_
| refine p_p (ps_assign rfl) ?_
| refine p_p (ps_load_cell rfl rfl) ?_
| refine p_p (ps_index rfl rfl rfl (by omega) (by first | exact idx_I (by omega) | exact idx_B (by omega) | exact idx_ints (by omega) | exact idx_bools (by omega) | exact idx_intss (by omega) | rfl) (by exact rfl)) ?_
| refine p_p (ps_lenM rfl rfl rfl) ?_
| refine p_p (ps_lss rfl rfl rfl) ?_
| refine p_p (ps_not rfl rfl) ?_
| refine p_p (ps_pick rfl rfl) ?_); refine ⟨_, (by dsimp only [bitvec_to_nat, Nat.reduceAdd, Nat.reduceMul, Nat.reduceBEq, reduceCtorEq]), ?_⟩)
| refine o_nil ?_
| (refine o_s rfl ?_; refine ⟨_, (by dsimp only [bitvec_to_nat, Nat.reduceAdd, Nat.reduceMul, Nat.reduceBEq, reduceCtorEq]), ?_⟩)
| (refine o_splitN rfl rfl rfl (fun hc => ?_) (fun hc => ?_) <;> dsimp only [List.set_cons_zero, List.set_cons_succ])
| refine g_condT rfl ?_
| (refine g_condD rfl (fun hc => ?_) (fun hc => ?_) <;> try (exfalso; omega))
| (refine g_condNB rfl (fun hc => ?_) (fun hc => ?_))
| refine kr2 ?_ ?_
| refine krB rfl ?_
| refine g_skip ?_
| refine g_exit ?_
| refine g_ret ?_)
  · rw [hq.2 (hno (by omega) (by rw [hc]; rfl))]; exact krAny
  · exact (hno (by omega) (by rw [hc]; rfl)).symm
  · rw [hq.2 (hno (by omega) (by rw [hc, Bool.and_false]))]; exact krAny
  · exact (hno (by omega) (by rw [hc, Bool.and_false])).symm
  · rename_i hris
    have hy : ∀ i, i < (rows.getD x []).length → 0 ≤ (rows.getD x []).getD i 0 ∧ ((rows.getD x []).getD i 0).toNat < rows.length := fun i hi => by
      have := inSize_mem hc (getD_mem (d := 0) hi)
      omega
    rw [show gridB (tabF rows.length fun a b => decide (b < x) && leqB rows (a : Int) (b : Int)) = gridB (tabF rows.length (upX rows x 0)) by
      rw [tabF_congr (g := upX rows x 0) fun a b _ _ => by unfold upX; simp]]
    refine g_loopT (α := Nat) (fun i => [(36, I (i : Int))]) (fun i => [gridB (tabF rows.length (upX rows x i))]) (fun i => i ≤ (rows.getD x []).length) (fun i => (rows.getD x []).length - i) 0 (by simp only [havoc, dsts, List.filterMap_cons, List.filterMap_nil, List.foldl_cons, List.foldl_nil, List.cons_append, List.nil_append, List.append_nil, List.set_cons_succ, List.set_cons_zero]; exact rfl) (Nat.zero_le _) ⟨rfl, trivial⟩ rfl ?_
    rintro i hi
    dsimp only [setMany, List.set_cons_zero, List.set_cons_succ]
    have hlen := length_tabF rows.length (upX rows x i)
    have hrl : ∀ a, a < rows.length → ((tabF rows.length (upX rows x i)).getD a []).length = rows.length := fun a ha => by rw [getD_tabF ha]; simp
    repeat' (first
| refine g_seq ?_
| refine g_block ?_
| refine g_region ?_
| (refine o_go rfl ?_; (first
| refine p_p (ps_index_grid rfl rfl rfl rfl (hy _ (by omega)).1 (by rw [List.length_map, hlen]; exact (hy _ (by omega)).2)) ?_
| refine p_p (ps_load_row rfl rfl rfl (by rw [List.length_map, hlen]; exact (hy _ (by omega)).2)) ?_
| refine p_p (ps_index_row rfl rfl rfl (by exact idx_gridB (by rw [hlen]; exact (hy _ (by omega)).2)) rfl (by omega) (by rw [n_toNat, List.length_map, hrl _ (hy _ (by omega)).2]; omega)) ?_
| refine p_e rfl (e_store_grid rfl rfl rfl rfl (by exact idx_gridB (by rw [hlen]; exact (hy _ (by omega)).2)) (by rw [List.length_map, hrl _ (hy _ (by omega)).2]; omega) rfl rfl) ?_
| refine p_p (ps_move rfl) ?_
| refine p_p (ps_assign rfl) ?_
| refine p_p (ps_load_cell rfl rfl) ?_
| refine p_p (ps_index rfl rfl rfl (by omega) (by first | exact idx_I (by omega) | exact idx_B (by omega) | exact idx_ints (by omega) | exact idx_bools (by omega) | exact idx_intss (by omega) | rfl) (by exact rfl)) ?_
| refine p_p (ps_lss rfl rfl rfl) ?_
| refine p_p (ps_add rfl rfl rfl (by constructor <;> omega)) ?_); refine ⟨_, (by dsimp only [bitvec_to_nat, Nat.reduceAdd, Nat.reduceMul, Nat.reduceBEq, reduceCtorEq]), ?_⟩)
| refine o_nil ?_
| (refine g_condD rfl (fun hc => ?_) (fun hc => ?_) <;> try (exfalso; omega))
| refine g_skip ?_
| refine g_exit ?_)
    · refine k_round (i + 1) (by omega) (by omega) (by repeat (first | exact trivial | refine ⟨.inl rfl, ?_⟩ | refine ⟨.inr rfl, ?_⟩)) ⟨rfl, trivial⟩ (hpLe_cons ?_ (hpLe_nil _))
      rw [gridB_set (hy i (by omega)).2 (show x < rows.length by omega) (f' := upX rows x (i + 1)) (fun a b ha hb => ?_)]
      unfold upX
      rw [take_snoc 0 (by omega), contains_snoc]
      by_cases e : b = x
      · subst e
        by_cases e' : a = ((rows.getD b []).getD i 0).toNat
        · rw [if_pos ⟨e', rfl⟩, decide_eq_true (show (rows.getD b []).getD i 0 = (a : Int) by have := (hy i (by omega)).1; omega)]; simp
        · rw [if_neg (fun h => e' h.1), decide_eq_false (show ¬ (rows.getD b []).getD i 0 = (a : Int) by omega), Bool.or_false]
      · rw [if_neg (fun h => e h.2), decide_eq_false e]; simp
    · refine k_round (x + 1) ⟨by omega, by rw [allN_succ, hg, hris, ‹inSizeB (rows.getD x []) (rows.length : Int) = true›]; rfl⟩ (by omega) (by repeat (first | exact trivial | refine ⟨.inl rfl, ?_⟩ | refine ⟨.inr rfl, ?_⟩)) ⟨rfl, trivial⟩ (hpLe_cons ?_ (hpLe_nil _))
      refine congrArg gridB (tabF_congr fun a b _ _ => ?_)
      unfold upX
      rw [(take_full hi hc).1]
      by_cases e : b = x
      · subst e
        rw [decide_eq_true (by omega : b < b + 1), decide_eq_false (by omega : ¬ b < b), decide_eq_true rfl]
        simp [leqB]
      · rw [decide_eq_false e]
        have : decide (b < x + 1) = decide (b < x) := by rw [Bool.eq_iff_iff]; simp; omega
        rw [this]; simp
  all_goals
    have hxn : x = rows.length := by omega
    subst hxn
    have htab : (tabF rows.length fun a b => decide (b < rows.length) && leqB rows (a : Int) (b : Int)) = tabOf rows := tabF_congr fun a b _ hb => by rw [decide_eq_true hb, Bool.true_and]
    have hoo : orderB (tabOf rows) = okO rows := by unfold okO; rw [decide_eq_true h10, hg]; rfl
    rw [htab]
  · cases ho : okO rows with
    | true =>
      rw [hq.1 ho]
      exact krS rfl (by rw [List.map_map]; rfl)
    | false => rw [hq.2 ho]; exact krAny
  · exact hoo

def upD (t : List (List Bool)) (x i : Nat) (a b : Nat) : Bool := (decide (a < x) || decide (a = x ∧ b < i)) && tabB t b a
set_option maxHeartbeats 1000000 in
set_option maxRecDepth 100000 in
theorem odual_c (t : List (List Bool)) (hok : okT t) : PCalls Try.prog 83 [boolss t] (boolss (dualT t)) := by
  refine pcalls1 Try.func83 rfl Try.ntmps83 rfl ?_
  simp only [List.length_cons, List.length_nil, Nat.reduceAdd, Nat.reduceSub, List.replicate_succ, List.replicate_zero, List.cons_append, List.nil_append]
  have htl := hok.1
  have hsq := hok.2
  repeat' (first
| refine g_seq ?_
| refine g_block ?_
| refine g_region ?_
| (refine o_go rfl ?_; (first
| refine p_e rfl (e_callR rfl rfl (by (repeat (first | refine ⟨PV.le_refl _, ?_⟩ | refine ⟨PV.le_nn _ _ _, ?_⟩ | refine ⟨PV.le_nil _, ?_⟩ | refine ⟨PV.le_any _, ?_⟩)); exact trivial) rfl (newOrder_c _ (by omega))) ?_
| refine p_p (ps_move rfl) ?_
| refine p_p (ps_assign rfl) ?_
| refine p_p (ps_lenM rfl rfl rfl) ?_); refine ⟨_, (by dsimp only [bitvec_to_nat, Nat.reduceAdd, Nat.reduceMul, Nat.reduceBEq, reduceCtorEq]), ?_⟩)
| refine o_nil ?_)
  rw [show gridB (falses t.length) = gridB (tabF t.length (upD t 0 0)) by
    unfold falses; rw [falses_F]; exact congrArg gridB (tabF_congr fun a b _ _ => by unfold upD; simp)]
  refine g_loopT (α := Nat) (fun x => [(11, I (x : Int))]) (fun x => [gridB (tabF t.length (upD t x 0))]) (fun x => x ≤ t.length) (fun x => t.length - x) 0 (by simp only [havoc, dsts, List.filterMap_cons, List.filterMap_nil, List.foldl_cons, List.foldl_nil, List.cons_append, List.nil_append, List.append_nil, List.set_cons_succ, List.set_cons_zero]; exact rfl) (Nat.zero_le _) ⟨rfl, trivial⟩ rfl ?_
  rintro x hx
  dsimp only [setMany, List.set_cons_zero, List.set_cons_succ]
  repeat' (first
| refine g_seq ?_
| refine g_block ?_
| refine g_region ?_
| (refine o_go rfl ?_; (first
| refine p_p (ps_move rfl) ?_
| refine p_p (ps_assign rfl) ?_
| refine p_p (ps_lenM rfl rfl rfl) ?_
| refine p_p (ps_lss rfl rfl rfl) ?_); refine ⟨_, (by dsimp only [bitvec_to_nat, Nat.reduceAdd, Nat.reduceMul, Nat.reduceBEq, reduceCtorEq]), ?_⟩)
| refine o_nil ?_
| (refine g_condD rfl (fun hc => ?_) (fun hc => ?_) <;> try (exfalso; omega))
| refine kr1 ?_
| refine krS rfl ?_
| refine g_skip ?_
| refine g_exit ?_
| refine g_ret ?_)
  · refine g_loopT (α := Nat) (fun y => [(16, I (y : Int))]) (fun y => [gridB (tabF t.length (upD t x y))]) (fun y => y ≤ t.length) (fun y => t.length - y) 0 (by simp only [havoc, dsts, List.filterMap_cons, List.filterMap_nil, List.foldl_cons, List.foldl_nil, List.cons_append, List.nil_append, List.append_nil, List.set_cons_succ, List.set_cons_zero]; exact rfl) (Nat.zero_le _) ⟨rfl, trivial⟩ rfl ?_
    rintro y hy
    dsimp only [setMany, List.set_cons_zero, List.set_cons_succ]
    have hlen := length_tabF t.length (upD t x y)
    have hrl : ∀ a, a < t.length → ((tabF t.length (upD t x y)).getD a []).length = t.length := fun a ha => by rw [getD_tabF ha]; simp
    repeat' (first
| refine g_seq ?_
| refine g_block ?_
| refine g_region ?_
| refine g_region_draw (by kernel_rfl) (by kernel_rfl) ?_
| (refine o_go rfl ?_; (first
| refine p_p (ps_index_grid rfl rfl rfl rfl (by omega) (by rw [List.length_map, hlen, n_toNat]; omega)) ?_
| refine p_p (ps_load_row rfl rfl rfl (by rw [List.length_map, hlen]; omega)) ?_
| refine p_p (ps_index_row rfl rfl rfl (by exact idx_gridB (by rw [hlen]; omega)) rfl (by omega) (by rw [n_toNat, List.length_map, hrl _ (by omega)]; omega)) ?_
| refine p_e rfl (e_store_grid rfl rfl rfl rfl (by exact idx_gridB (by rw [hlen]; omega)) (by rw [List.length_map, hrl _ (by omega)]; omega) rfl rfl) ?_
| refine p_p (ps_index rfl rfl rfl (by omega) (idx_B (by rw [hsq _ (by omega)]; omega)) (by exact rfl)) ?_
| refine p_p (ps_move rfl) ?_
| refine p_p (ps_assign rfl) ?_
| refine p_p (ps_load_cell rfl rfl) ?_
| refine p_p (ps_index rfl rfl rfl (by omega) (by first | exact idx_I (by omega) | exact idx_B (by omega) | exact idx_ints (by omega) | exact idx_bools (by omega) | exact idx_intss (by omega) | rfl) (by exact rfl)) ?_
| refine p_p (ps_lss rfl rfl rfl) ?_
| refine p_p (ps_add rfl rfl rfl (by constructor <;> omega)) ?_); refine ⟨_, (by dsimp only [bitvec_to_nat, Nat.reduceAdd, Nat.reduceMul, Nat.reduceBEq, reduceCtorEq]), ?_⟩)
| refine o_nil ?_
| (refine g_condD rfl (fun hc => ?_) (fun hc => ?_) <;> try (exfalso; omega))
| refine g_skip ?_
| refine g_exit ?_)
    · refine k_round (y + 1) (by omega) (by omega) (by repeat (first | exact trivial | refine ⟨.inl rfl, ?_⟩ | refine ⟨.inr rfl, ?_⟩)) ⟨rfl, trivial⟩ (hpLe_cons ?_ (hpLe_nil _))
      refine congrArg (HO.grid 52 4) ?_
      rw [gridB_set (show x < t.length by omega) (show y < t.length by omega) (f' := upD t x (y + 1)) (fun a b ha hb => ?_)]
      unfold upD
      by_cases e : a = x ∧ b = y
      · rw [if_pos e, decide_eq_true (show a = x ∧ b < y + 1 by omega), Bool.or_true, Bool.true_and, e.1, e.2]; rfl
      · rw [if_neg e]
        have : decide (a = x ∧ b < y + 1) = decide (a = x ∧ b < y) := by rw [Bool.eq_iff_iff]; simp; omega
        rw [this]
    · refine k_round (x + 1) (by omega) (by omega) (by repeat (first | exact trivial | refine ⟨.inl rfl, ?_⟩ | refine ⟨.inr rfl, ?_⟩)) ⟨rfl, trivial⟩ (hpLe_cons ?_ (hpLe_nil _))
      refine congrArg gridB (tabF_congr fun a b ha hb => ?_)
      unfold upD
      have : (decide (a < x) || decide (a = x ∧ b < y)) = (decide (a < x + 1) || decide (a = x + 1 ∧ b < 0)) := by rw [Bool.eq_iff_iff]; simp; omega
      rw [this]
  · rw [List.map_map]
    refine congrArg (List.map bools) (tabF_congr fun a b ha hb => ?_)
    unfold upD
    rw [decide_eq_true (show a < x by omega)]; rfl

/-- The program's lattice: a pointer to its table, its meets and its joins. -/
abbrev latV (rows : List (List Int)) : PV := .ptr [boolss (tabOf rows), intss (meetsT (tabOf rows) rows.length), intss (meetsT (dualT (tabOf rows)) rows.length)]
theorem okO_good (rows : List (List Int)) : okO rows = goodP rows := by
  by_cases h10 : rows.length ≤ 10
  · cases hri : allN rows.length (fun x => risesB (rows.getD x []) && inSizeB (rows.getD x []) (rows.length : Int)) with
    | true =>
      rw [good_order rows h10 (fun x hx => by have := allN_iff.1 hri x hx; rwa [Bool.and_eq_true] at this)]
      unfold okO
      rw [hri, decide_eq_true h10]; rfl
    | false =>
      have h1 : okO rows = false := by unfold okO; rw [hri, Bool.false_and, Bool.and_false]
      have h2 : goodP rows = false := by
        cases hg : goodP rows with
        | false => rfl
        | true =>
          have : allN rows.length (fun x => risesB (rows.getD x []) && inSizeB (rows.getD x []) (rows.length : Int)) = true := allN_iff.2 fun x hx => by
            have := goodP_1 hg hx
            unfold good1 at this
            rw [Bool.and_eq_true, ris_split] at this
            exact this.1
          rw [hri] at this; cases this
      rw [h1, h2]
  · unfold okO goodP
    rw [decide_eq_false h10]; rfl
theorem length_dualT (t : List (List Bool)) : (dualT t).length = t.length := by simp [dualT]
theorem okT_dual {t : List (List Bool)} (h : okT t) : okT (dualT t) := by
  refine ⟨by rw [length_dualT]; exact h.1, fun x hx => ?_⟩
  rw [length_dualT] at hx
  unfold dualT
  rw [getD_map_range _ _ _ hx]; simp
set_option maxHeartbeats 1000000 in
set_option maxRecDepth 100000 in
theorem latticeOf_c (rows : List (List Int)) (hok : okP rows) : PCalls Try.prog 61 [posetP rows] (.tup [if goodL rows = true then latV rows else .any, B (goodL rows)]) := by
  refine pcalls2 Try.func61 rfl Try.ntmps61 rfl ?_
  simp only [List.length_cons, List.length_nil, Nat.reduceAdd, Nat.reduceSub, List.replicate_succ, List.replicate_zero, List.cons_append, List.nil_append]
  cases ho : okO rows with
  | false =>
    have h1 := orderOf_c rows hok .any ⟨fun h => (by rw [ho] at h; cases h), fun _ => rfl⟩
    rw [ho] at h1
    have hg : goodL rows = false := by unfold goodL; rw [← okO_good, ho]; rfl
    rw [hg]
    repeat' (first
| refine g_seq ?_
| refine g_region ?_
| (refine o_go rfl ?_; (first
| refine p_p (ps_call rfl rfl (by (repeat (first | refine ⟨PV.le_refl _, ?_⟩ | refine ⟨PV.le_nn _ _ _, ?_⟩ | refine ⟨PV.le_nil _, ?_⟩ | refine ⟨PV.le_any _, ?_⟩)); exact trivial) (h1)) ?_
| refine p_p (ps_move rfl) ?_
| refine p_p (ps_assign rfl) ?_
| refine p_p (ps_load_agg rfl rfl (by exact Nat.le_of_ble_eq_true rfl)) ?_
| refine p_p (ps_extract rfl rfl rfl) ?_
| refine p_p (ps_not rfl rfl) ?_
| refine p_p (ps_pick rfl rfl) ?_
| refine p_p (ps_box rfl rfl) ?_); refine ⟨_, (by dsimp only [bitvec_to_nat, Nat.reduceAdd, Nat.reduceMul, Nat.reduceBEq, reduceCtorEq]), ?_⟩)
| refine o_nil ?_
| (refine o_s rfl ?_; refine ⟨_, (by dsimp only [bitvec_to_nat, Nat.reduceAdd, Nat.reduceMul, Nat.reduceBEq, reduceCtorEq]), ?_⟩)
| refine g_condT rfl ?_
| refine kr2 ?_ ?_
| exact krAny
| refine krB rfl ?_
| refine g_ret ?_)
    rfl
  | true =>
    have h1 := orderOf_c rows hok _ ⟨fun _ => rfl, fun h => (by rw [ho] at h; cases h)⟩
    rw [ho] at h1
    have hl := length_tabOf rows
    have hP : goodP rows = true := by rw [← okO_good]; exact ho
    have h10 : rows.length ≤ 10 := by unfold okO at ho; simp only [Bool.and_eq_true, decide_eq_true_eq] at ho; exact ho.1
    have hot := okT_of h10
    have hm1 := meetTable_c (tabOf rows) hot (if mOk (tabOf rows) = true then intss (meetsT (tabOf rows) rows.length) else intss []) ⟨fun h => by rw [if_pos h, hl], fun h => by rw [if_neg (by rw [h]; decide)]⟩
    have hm2 := meetTable_c (dualT (tabOf rows)) (okT_dual hot) (if mOk (dualT (tabOf rows)) = true then intss (meetsT (dualT (tabOf rows)) rows.length) else intss []) ⟨fun h => by rw [if_pos h, length_dualT, hl], fun h => by rw [if_neg (by rw [h]; decide)]⟩
    have heq : rows.length ≠ 0 → goodL rows = (mOk (tabOf rows) && mOk (dualT (tabOf rows))) := fun hn => by rw [goodL_eq rows hP hn, dual_tab]
    have hz : ((tabOf rows).length : Int) = 0 → goodL rows = false := fun h => by
      unfold goodL; rw [decide_eq_true (show rows.length = 0 by omega)]; simp
    cases hb1 : mOk (tabOf rows) with
    | true =>
      rw [hb1] at hm1 heq
      cases hb2 : mOk (dualT (tabOf rows)) with
      | true =>
        rw [hb2] at hm2 heq
        simp only [if_true] at hm1 hm2
        repeat' (first
| refine g_seq ?_
| refine g_region ?_
| (refine o_go rfl ?_; (first
| refine p_p (ps_call rfl rfl (by (repeat (first | refine ⟨PV.le_refl _, ?_⟩ | refine ⟨PV.le_nn _ _ _, ?_⟩ | refine ⟨PV.le_nil _, ?_⟩ | refine ⟨PV.le_any _, ?_⟩)); exact trivial) (h1)) ?_
| refine p_p (ps_call rfl rfl (by (repeat (first | refine ⟨PV.le_refl _, ?_⟩ | refine ⟨PV.le_nn _ _ _, ?_⟩ | refine ⟨PV.le_nil _, ?_⟩ | refine ⟨PV.le_any _, ?_⟩)); exact trivial) (hm1)) ?_
| refine p_p (ps_call rfl rfl (by (repeat (first | refine ⟨PV.le_refl _, ?_⟩ | refine ⟨PV.le_nn _ _ _, ?_⟩ | refine ⟨PV.le_nil _, ?_⟩ | refine ⟨PV.le_any _, ?_⟩)); exact trivial) (odual_c _ hot)) ?_
| refine p_p (ps_call rfl rfl (by (repeat (first | refine ⟨PV.le_refl _, ?_⟩ | refine ⟨PV.le_nn _ _ _, ?_⟩ | refine ⟨PV.le_nil _, ?_⟩ | refine ⟨PV.le_any _, ?_⟩)); exact trivial) (hm2)) ?_
| refine p_p (ps_move rfl) ?_
| refine p_p (ps_assign rfl) ?_
| refine p_p (ps_load_agg rfl rfl (by exact Nat.le_of_ble_eq_true rfl)) ?_
| refine p_p (ps_lenM rfl rfl rfl) ?_
| refine p_p (ps_extract rfl rfl rfl) ?_
| refine p_p (ps_not rfl rfl) ?_
| refine p_p (ps_pick rfl rfl) ?_
| refine p_p (ps_eql rfl rfl rfl) ?_
| refine p_p (ps_box rfl rfl) ?_
| refine p_p (ps_build rfl rfl) ?_); refine ⟨_, (by dsimp only [bitvec_to_nat, Nat.reduceAdd, Nat.reduceMul, Nat.reduceBEq, reduceCtorEq]), ?_⟩)
| refine o_nil ?_
| (refine g_condD rfl (fun hc => ?_) (fun hc => ?_) <;> try (exfalso; omega))
| refine kr2 ?_ ?_
| refine krB rfl ?_
| refine g_skip ?_
| refine g_ret ?_)
        · rw [if_neg (by rw [hz hc]; decide)]; exact krAny
        · exact (hz hc).symm
        · rw [heq (by omega)]; exact krP rfl rfl
        · rw [heq (by omega)]; rfl
      | false =>
        rw [hb2] at hm2 heq
        simp only [if_true, Bool.false_eq_true, if_false] at hm1 hm2
        repeat' (first
| refine g_seq ?_
| refine g_region ?_
| (refine o_go rfl ?_; (first
| refine p_p (ps_call rfl rfl (by (repeat (first | refine ⟨PV.le_refl _, ?_⟩ | refine ⟨PV.le_nn _ _ _, ?_⟩ | refine ⟨PV.le_nil _, ?_⟩ | refine ⟨PV.le_any _, ?_⟩)); exact trivial) (h1)) ?_
| refine p_p (ps_call rfl rfl (by (repeat (first | refine ⟨PV.le_refl _, ?_⟩ | refine ⟨PV.le_nn _ _ _, ?_⟩ | refine ⟨PV.le_nil _, ?_⟩ | refine ⟨PV.le_any _, ?_⟩)); exact trivial) (hm1)) ?_
| refine p_p (ps_call rfl rfl (by (repeat (first | refine ⟨PV.le_refl _, ?_⟩ | refine ⟨PV.le_nn _ _ _, ?_⟩ | refine ⟨PV.le_nil _, ?_⟩ | refine ⟨PV.le_any _, ?_⟩)); exact trivial) (odual_c _ hot)) ?_
| refine p_p (ps_call rfl rfl (by (repeat (first | refine ⟨PV.le_refl _, ?_⟩ | refine ⟨PV.le_nn _ _ _, ?_⟩ | refine ⟨PV.le_nil _, ?_⟩ | refine ⟨PV.le_any _, ?_⟩)); exact trivial) (hm2)) ?_
| refine p_p (ps_move rfl) ?_
| refine p_p (ps_assign rfl) ?_
| refine p_p (ps_load_agg rfl rfl (by exact Nat.le_of_ble_eq_true rfl)) ?_
| refine p_p (ps_lenM rfl rfl rfl) ?_
| refine p_p (ps_extract rfl rfl rfl) ?_
| refine p_p (ps_not rfl rfl) ?_
| refine p_p (ps_pick rfl rfl) ?_
| refine p_p (ps_eql rfl rfl rfl) ?_
| refine p_p (ps_box rfl rfl) ?_
| refine p_p (ps_build rfl rfl) ?_); refine ⟨_, (by dsimp only [bitvec_to_nat, Nat.reduceAdd, Nat.reduceMul, Nat.reduceBEq, reduceCtorEq]), ?_⟩)
| refine o_nil ?_
| (refine g_condD rfl (fun hc => ?_) (fun hc => ?_) <;> try (exfalso; omega))
| refine kr2 ?_ ?_
| refine krB rfl ?_
| refine g_skip ?_
| refine g_ret ?_)
        · rw [if_neg (by rw [hz hc]; decide)]; exact krAny
        · exact (hz hc).symm
        · rw [heq (by omega)]; exact krAny
        · rw [heq (by omega)]; rfl
    | false =>
      rw [hb1] at hm1 heq
      cases hb2 : mOk (dualT (tabOf rows)) with
      | true =>
        rw [hb2] at hm2 heq
        simp only [if_true, Bool.false_eq_true, if_false] at hm1 hm2
        repeat' (first
| refine g_seq ?_
| refine g_region ?_
| (refine o_go rfl ?_; (first
| refine p_p (ps_call rfl rfl (by (repeat (first | refine ⟨PV.le_refl _, ?_⟩ | refine ⟨PV.le_nn _ _ _, ?_⟩ | refine ⟨PV.le_nil _, ?_⟩ | refine ⟨PV.le_any _, ?_⟩)); exact trivial) (h1)) ?_
| refine p_p (ps_call rfl rfl (by (repeat (first | refine ⟨PV.le_refl _, ?_⟩ | refine ⟨PV.le_nn _ _ _, ?_⟩ | refine ⟨PV.le_nil _, ?_⟩ | refine ⟨PV.le_any _, ?_⟩)); exact trivial) (hm1)) ?_
| refine p_p (ps_call rfl rfl (by (repeat (first | refine ⟨PV.le_refl _, ?_⟩ | refine ⟨PV.le_nn _ _ _, ?_⟩ | refine ⟨PV.le_nil _, ?_⟩ | refine ⟨PV.le_any _, ?_⟩)); exact trivial) (odual_c _ hot)) ?_
| refine p_p (ps_call rfl rfl (by (repeat (first | refine ⟨PV.le_refl _, ?_⟩ | refine ⟨PV.le_nn _ _ _, ?_⟩ | refine ⟨PV.le_nil _, ?_⟩ | refine ⟨PV.le_any _, ?_⟩)); exact trivial) (hm2)) ?_
| refine p_p (ps_move rfl) ?_
| refine p_p (ps_assign rfl) ?_
| refine p_p (ps_load_agg rfl rfl (by exact Nat.le_of_ble_eq_true rfl)) ?_
| refine p_p (ps_lenM rfl rfl rfl) ?_
| refine p_p (ps_extract rfl rfl rfl) ?_
| refine p_p (ps_not rfl rfl) ?_
| refine p_p (ps_pick rfl rfl) ?_
| refine p_p (ps_eql rfl rfl rfl) ?_
| refine p_p (ps_box rfl rfl) ?_
| refine p_p (ps_build rfl rfl) ?_); refine ⟨_, (by dsimp only [bitvec_to_nat, Nat.reduceAdd, Nat.reduceMul, Nat.reduceBEq, reduceCtorEq]), ?_⟩)
| refine o_nil ?_
| (refine o_s rfl ?_; refine ⟨_, (by dsimp only [bitvec_to_nat, Nat.reduceAdd, Nat.reduceMul, Nat.reduceBEq, reduceCtorEq]), ?_⟩)
| (refine g_condD rfl (fun hc => ?_) (fun hc => ?_) <;> try (exfalso; omega))
| refine kr2 ?_ ?_
| refine krB rfl ?_
| refine g_skip ?_
| refine g_ret ?_)
        · rw [if_neg (by rw [hz hc]; decide)]; exact krAny
        · exact (hz hc).symm
        · rw [heq (by omega)]; exact krAny
        · rw [heq (by omega)]; rfl
      | false =>
        rw [hb2] at hm2 heq
        simp only [Bool.false_eq_true, if_false] at hm1 hm2
        repeat' (first
| refine g_seq ?_
| refine g_region ?_
| (refine o_go rfl ?_; (first
| refine p_p (ps_call rfl rfl (by (repeat (first | refine ⟨PV.le_refl _, ?_⟩ | refine ⟨PV.le_nn _ _ _, ?_⟩ | refine ⟨PV.le_nil _, ?_⟩ | refine ⟨PV.le_any _, ?_⟩)); exact trivial) (h1)) ?_
| refine p_p (ps_call rfl rfl (by (repeat (first | refine ⟨PV.le_refl _, ?_⟩ | refine ⟨PV.le_nn _ _ _, ?_⟩ | refine ⟨PV.le_nil _, ?_⟩ | refine ⟨PV.le_any _, ?_⟩)); exact trivial) (hm1)) ?_
| refine p_p (ps_call rfl rfl (by (repeat (first | refine ⟨PV.le_refl _, ?_⟩ | refine ⟨PV.le_nn _ _ _, ?_⟩ | refine ⟨PV.le_nil _, ?_⟩ | refine ⟨PV.le_any _, ?_⟩)); exact trivial) (odual_c _ hot)) ?_
| refine p_p (ps_call rfl rfl (by (repeat (first | refine ⟨PV.le_refl _, ?_⟩ | refine ⟨PV.le_nn _ _ _, ?_⟩ | refine ⟨PV.le_nil _, ?_⟩ | refine ⟨PV.le_any _, ?_⟩)); exact trivial) (hm2)) ?_
| refine p_p (ps_move rfl) ?_
| refine p_p (ps_assign rfl) ?_
| refine p_p (ps_load_agg rfl rfl (by exact Nat.le_of_ble_eq_true rfl)) ?_
| refine p_p (ps_lenM rfl rfl rfl) ?_
| refine p_p (ps_extract rfl rfl rfl) ?_
| refine p_p (ps_not rfl rfl) ?_
| refine p_p (ps_pick rfl rfl) ?_
| refine p_p (ps_eql rfl rfl rfl) ?_
| refine p_p (ps_box rfl rfl) ?_
| refine p_p (ps_build rfl rfl) ?_); refine ⟨_, (by dsimp only [bitvec_to_nat, Nat.reduceAdd, Nat.reduceMul, Nat.reduceBEq, reduceCtorEq]), ?_⟩)
| refine o_nil ?_
| (refine o_s rfl ?_; refine ⟨_, (by dsimp only [bitvec_to_nat, Nat.reduceAdd, Nat.reduceMul, Nat.reduceBEq, reduceCtorEq]), ?_⟩)
| (refine g_condD rfl (fun hc => ?_) (fun hc => ?_) <;> try (exfalso; omega))
| refine kr2 ?_ ?_
| refine krB rfl ?_
| refine g_skip ?_
| refine g_ret ?_)
        · rw [if_neg (by rw [hz hc]; decide)]; exact krAny
        · exact (hz hc).symm
        · rw [heq (by omega)]; exact krAny
        · rw [heq (by omega)]; rfl

theorem lat_yes (rows : List (List Int)) (hok : okP rows) (hg : goodL rows = true) : PCalls Try.prog 61 [posetP rows] (.tup [latP rows, B true]) := by
  have h := latticeOf_c rows hok
  rw [if_pos hg, hg] at h
  unfold latV at h
  rwa [meets_Z, joins_Z] at h
theorem lat_no (rows : List (List Int)) (hok : okP rows) (hg : goodL rows = false) : PCalls Try.prog 61 [posetP rows] (.tup [.any, B false]) := by
  have h := latticeOf_c rows hok
  rwa [if_neg (by rw [hg]; decide), hg] at h
theorem good_10 {rows : List (List Int)} (hg : goodL rows = true) : rows.length ≤ 10 := by
  have := goodL_P hg
  unfold goodP at this
  simp only [Bool.and_eq_true, decide_eq_true_eq] at this
  exact this.1
theorem okT_Z {n : Nat} (f : Int → Int → Bool) (h : n ≤ 10) : okT (tabZ n f) := by
  refine ⟨by rw [length_tabZ]; exact h, fun x hx => ?_⟩
  rw [length_tabZ] at hx
  unfold tabZ
  rw [getD_map_range _ _ _ hx, length_rowZ]; simp
theorem lhas_c (rows : List (List Int)) (l : List Int) (hg : goodL rows = true) (hl : l.length ≤ 1048576) : PCalls Try.prog 50 [boolss (tabZ rows.length (leqB rows)), ints l] (B (inSizeB l (rows.length : Int))) := by
  have h := ohas_c (tabZ rows.length (leqB rows)) l (okT_Z _ (good_10 hg)) hl
  rwa [length_tabZ] at h

set_option maxHeartbeats 4000000 in
set_option maxRecDepth 100000 in
theorem iuneven_none (rows : List (List Int)) (hg : goodL rows = true) (hN : uneven3 rows = none) : PCalls Try.prog 75 [latP rows] nilV := by
  refine pcalls1 Try.func75 rfl Try.ntmps75 rfl ?_
  simp only [List.length_cons, List.length_nil, Nat.reduceAdd, Nat.reduceSub, List.replicate_succ, List.replicate_zero, List.cons_append, List.nil_append]
  have h10 := good_10 hg
  have hlen := length_tabZ rows.length (leqB rows)
  have hjm : ∀ y z : Int, 0 ≤ y → y < (rows.length : Int) → 0 ≤ z → z < (rows.length : Int) → (0 ≤ joinL rows y z ∧ joinL rows y z < (rows.length : Int)) ∧ (0 ≤ meetL rows y z ∧ meetL rows y z < (rows.length : Int)) := fun y z a b c d => ⟨join_in hg ⟨a, b⟩ ⟨c, d⟩, meet_in hg ⟨a, b⟩ ⟨c, d⟩⟩
  repeat' (first
| refine g_seq ?_
| refine g_block ?_
| refine g_region ?_
| (refine o_go rfl ?_; (first
| refine p_p (ps_move rfl) ?_
| refine p_p (ps_assign rfl) ?_
| refine p_p (ps_load_cell rfl rfl) ?_
| refine p_p (ps_lenM rfl rfl rfl) ?_
| refine p_p (ps_fieldAddr rfl rfl) ?_
| refine p_p (ps_nilCheck rfl rfl) ?_); refine ⟨_, (by dsimp only [bitvec_to_nat, Nat.reduceAdd, Nat.reduceMul, Nat.reduceBEq, reduceCtorEq]), ?_⟩)
| refine o_nil ?_)
  refine g_loopT (α := Nat) (fun x => [(11, I (x : Int))]) (fun _ => []) (fun x => x ≤ rows.length ∧ (allN x (no1 rows.length (unevenP rows))) = true) (fun x => rows.length - x) 0 (by simp only [havoc, dsts, List.filterMap_cons, List.filterMap_nil, List.foldl_cons, List.foldl_nil, List.cons_append, List.nil_append, List.append_nil, List.set_cons_succ, List.set_cons_zero]; exact rfl) ⟨Nat.zero_le _, rfl⟩ ⟨rfl, trivial⟩ rfl ?_
  rintro x ⟨hx, hgx⟩
  dsimp only [setMany, List.set_cons_zero, List.set_cons_succ]
  repeat' (first
| refine g_seq ?_
| refine g_block ?_
| refine g_region ?_
| (refine o_go rfl ?_; (first
| refine p_p (ps_move rfl) ?_
| refine p_p (ps_assign rfl) ?_
| refine p_p (ps_load_cell rfl rfl) ?_
| refine p_p (ps_lenM rfl rfl rfl) ?_
| refine p_p (ps_lss rfl rfl rfl) ?_
| refine p_p (ps_fieldAddr rfl rfl) ?_
| refine p_p (ps_nilCheck rfl rfl) ?_); refine ⟨_, (by dsimp only [bitvec_to_nat, Nat.reduceAdd, Nat.reduceMul, Nat.reduceBEq, reduceCtorEq]), ?_⟩)
| refine o_nil ?_
| (refine g_condD rfl (fun hc => ?_) (fun hc => ?_) <;> try (exfalso; omega))
| refine kr1 ?_
| refine g_skip ?_
| refine g_exit ?_
| refine g_ret ?_)
  · refine g_loopT (α := Nat) (fun y => [(19, I (y : Int))]) (fun _ => []) (fun y => y ≤ rows.length ∧ (allN y (fun y => allN rows.length fun z => !unevenP rows x y z)) = true) (fun y => rows.length - y) 0 (by simp only [havoc, dsts, List.filterMap_cons, List.filterMap_nil, List.foldl_cons, List.foldl_nil, List.cons_append, List.nil_append, List.append_nil, List.set_cons_succ, List.set_cons_zero]; exact rfl) ⟨Nat.zero_le _, rfl⟩ ⟨rfl, trivial⟩ rfl ?_
    rintro y ⟨hy, hgy⟩
    dsimp only [setMany, List.set_cons_zero, List.set_cons_succ]
    repeat' (first
| refine g_seq ?_
| refine g_block ?_
| refine g_region ?_
| (refine o_go rfl ?_; (first
| refine p_p (ps_move rfl) ?_
| refine p_p (ps_assign rfl) ?_
| refine p_p (ps_load_cell rfl rfl) ?_
| refine p_p (ps_lenM rfl rfl rfl) ?_
| refine p_p (ps_lss rfl rfl rfl) ?_
| refine p_p (ps_add rfl rfl rfl (by constructor <;> omega)) ?_
| refine p_p (ps_fieldAddr rfl rfl) ?_
| refine p_p (ps_nilCheck rfl rfl) ?_); refine ⟨_, (by dsimp only [bitvec_to_nat, Nat.reduceAdd, Nat.reduceMul, Nat.reduceBEq, reduceCtorEq]), ?_⟩)
| refine o_nil ?_
| (refine g_condD rfl (fun hc => ?_) (fun hc => ?_) <;> try (exfalso; omega))
| refine g_skip ?_
| refine g_exit ?_)
    · refine g_loopT (α := Nat) (fun z => [(27, I (z : Int))]) (fun _ => []) (fun z => z ≤ rows.length ∧ (allN z (fun z => !unevenP rows x y z)) = true) (fun z => rows.length - z) 0 (by simp only [havoc, dsts, List.filterMap_cons, List.filterMap_nil, List.foldl_cons, List.foldl_nil, List.cons_append, List.nil_append, List.append_nil, List.set_cons_succ, List.set_cons_zero]; exact rfl) ⟨Nat.zero_le _, rfl⟩ ⟨rfl, trivial⟩ rfl ?_
      rintro z ⟨hz, hgz⟩
      dsimp only [setMany, List.set_cons_zero, List.set_cons_succ]
      have h1 : (x : Int) < (rows.length : Int) := by omega
      have h2 : (y : Int) < (rows.length : Int) := by omega
      have hxy := hjm x y (by omega) h1 (by omega) h2
      have hyz := fun h3 : (z : Int) < (rows.length : Int) => hjm y z (by omega) h2 (by omega) h3
      have hxz := fun h3 : (z : Int) < (rows.length : Int) => hjm x z (by omega) h1 (by omega) h3
      have hno : unevenP rows x y z = false → (allN (z + 1) fun z => !unevenP rows x y z) = true := fun h => by rw [allN_succ, hgz, h]; rfl
      have hyes : z < rows.length → unevenP rows x y z = true → first3 rows.length (unevenP rows) = some (x, y, z) := fun h h' => first3_some (by omega) (by omega) h hgx hgy hgz h'
      repeat' (first
| refine g_seq ?_
| refine g_block ?_
| refine g_region ?_
| refine g_region_draw (by kernel_rfl) (by kernel_rfl) ?_
| (refine o_go rfl ?_; (first
| refine p_p (ps_index rfl rfl rfl (by omega) (by exact idx_TI (by omega) (by omega)) (by exact rfl)) ?_
| refine p_p (ps_index rfl rfl rfl (by omega) (by exact idx_RI (by omega) (by omega)) (by exact rfl)) ?_
| refine p_p (ps_move rfl) ?_
| refine p_p (ps_assign rfl) ?_
| refine p_p (ps_load_cell rfl rfl) ?_
| refine p_p (ps_lss rfl rfl rfl) ?_
| refine p_p (ps_add rfl rfl rfl (by constructor <;> omega)) ?_
| refine p_p (ps_fieldAddr rfl rfl) ?_
| refine p_p (ps_neq rfl rfl rfl) ?_
| refine p_p (ps_nilCheck rfl rfl) ?_
| refine p_p (ps_lit3 rfl rfl rfl rfl (by rfl) (by rfl) (by rfl) (by rfl)) ?_); refine ⟨_, (by dsimp only [bitvec_to_nat, Nat.reduceAdd, Nat.reduceMul, Nat.reduceBEq, reduceCtorEq]), ?_⟩)
| refine o_nil ?_
| (refine g_condN rfl (fun hc => ?_) (fun hc => ?_) <;> try (exfalso; omega))
| (refine g_condD rfl (fun hc => ?_) (fun hc => ?_) <;> try (exfalso; omega))
| refine kr1 ?_
| refine g_skip ?_
| refine g_exit ?_
| refine g_ret ?_)
      · exact absurd (hyes (by omega) (by unfold unevenP; rw [decide_eq_false hc]; rfl)) (by have h' := hN; unfold uneven3 at h'; rw [h']; simp)
      · exact k_round (z + 1) ⟨by omega, hno (by unfold unevenP; rw [decide_eq_true hc]; rfl)⟩ (by omega) (by repeat (first | exact trivial | refine ⟨.inl rfl, ?_⟩ | refine ⟨.inr rfl, ?_⟩)) ⟨rfl, trivial⟩ (by first | exact hpLe_nil _ | exact hpLe_refl _)
      · have hzn : z = rows.length := by omega
        subst hzn
        exact k_round (y + 1) ⟨by omega, by rw [allN_succ, hgy]; exact hgz⟩ (by omega) (by repeat (first | exact trivial | refine ⟨.inl rfl, ?_⟩ | refine ⟨.inr rfl, ?_⟩)) ⟨rfl, trivial⟩ (by first | exact hpLe_nil _ | exact hpLe_refl _)
    · have hyn : y = rows.length := by omega
      subst hyn
      exact k_round (x + 1) ⟨by omega, by rw [allN_succ, hgx]; exact hgy⟩ (by omega) (by repeat (first | exact trivial | refine ⟨.inl rfl, ?_⟩ | refine ⟨.inr rfl, ?_⟩)) ⟨rfl, trivial⟩ (by first | exact hpLe_nil _ | exact hpLe_refl _)
  · exact krV rfl
set_option maxHeartbeats 4000000 in
set_option maxRecDepth 100000 in
theorem iuneven_some (rows : List (List Int)) (hg : goodL rows = true) (t : Nat × Nat × Nat) (hS : uneven3 rows = some t) : RCalls Try.prog 75 [latP rows] (.arr true 1 3 ((list3 (some t)).map I)) (.hp 0) := by
  refine pcallsR1 Try.func75 rfl Try.ntmps75 rfl ?_
  simp only [List.length_cons, List.length_nil, Nat.reduceAdd, Nat.reduceSub, List.replicate_succ, List.replicate_zero, List.cons_append, List.nil_append]
  have h10 := good_10 hg
  have hlen := length_tabZ rows.length (leqB rows)
  have hjm : ∀ y z : Int, 0 ≤ y → y < (rows.length : Int) → 0 ≤ z → z < (rows.length : Int) → (0 ≤ joinL rows y z ∧ joinL rows y z < (rows.length : Int)) ∧ (0 ≤ meetL rows y z ∧ meetL rows y z < (rows.length : Int)) := fun y z a b c d => ⟨join_in hg ⟨a, b⟩ ⟨c, d⟩, meet_in hg ⟨a, b⟩ ⟨c, d⟩⟩
  repeat' (first
| refine g_seq ?_
| refine g_block ?_
| refine g_region ?_
| (refine o_go rfl ?_; (first
| refine p_p (ps_move rfl) ?_
| refine p_p (ps_assign rfl) ?_
| refine p_p (ps_load_cell rfl rfl) ?_
| refine p_p (ps_lenM rfl rfl rfl) ?_
| refine p_p (ps_fieldAddr rfl rfl) ?_
| refine p_p (ps_nilCheck rfl rfl) ?_); refine ⟨_, (by dsimp only [bitvec_to_nat, Nat.reduceAdd, Nat.reduceMul, Nat.reduceBEq, reduceCtorEq]), ?_⟩)
| refine o_nil ?_)
  refine g_loopT (α := Nat) (fun x => [(11, I (x : Int))]) (fun _ => []) (fun x => x ≤ rows.length ∧ (allN x (no1 rows.length (unevenP rows))) = true) (fun x => rows.length - x) 0 (by simp only [havoc, dsts, List.filterMap_cons, List.filterMap_nil, List.foldl_cons, List.foldl_nil, List.cons_append, List.nil_append, List.append_nil, List.set_cons_succ, List.set_cons_zero]; exact rfl) ⟨Nat.zero_le _, rfl⟩ ⟨rfl, trivial⟩ rfl ?_
  rintro x ⟨hx, hgx⟩
  dsimp only [setMany, List.set_cons_zero, List.set_cons_succ]
  repeat' (first
| refine g_seq ?_
| refine g_block ?_
| refine g_region ?_
| (refine o_go rfl ?_; (first
| refine p_p (ps_move rfl) ?_
| refine p_p (ps_assign rfl) ?_
| refine p_p (ps_load_cell rfl rfl) ?_
| refine p_p (ps_lenM rfl rfl rfl) ?_
| refine p_p (ps_lss rfl rfl rfl) ?_
| refine p_p (ps_fieldAddr rfl rfl) ?_
| refine p_p (ps_nilCheck rfl rfl) ?_); refine ⟨_, (by dsimp only [bitvec_to_nat, Nat.reduceAdd, Nat.reduceMul, Nat.reduceBEq, reduceCtorEq]), ?_⟩)
| refine o_nil ?_
| (refine g_condD rfl (fun hc => ?_) (fun hc => ?_) <;> try (exfalso; omega))
| refine g_skip ?_
| refine g_exit ?_
| refine g_ret ?_)
  · refine g_loopT (α := Nat) (fun y => [(19, I (y : Int))]) (fun _ => []) (fun y => y ≤ rows.length ∧ (allN y (fun y => allN rows.length fun z => !unevenP rows x y z)) = true) (fun y => rows.length - y) 0 (by simp only [havoc, dsts, List.filterMap_cons, List.filterMap_nil, List.foldl_cons, List.foldl_nil, List.cons_append, List.nil_append, List.append_nil, List.set_cons_succ, List.set_cons_zero]; exact rfl) ⟨Nat.zero_le _, rfl⟩ ⟨rfl, trivial⟩ rfl ?_
    rintro y ⟨hy, hgy⟩
    dsimp only [setMany, List.set_cons_zero, List.set_cons_succ]
    repeat' (first
| refine g_seq ?_
| refine g_block ?_
| refine g_region ?_
| (refine o_go rfl ?_; (first
| refine p_p (ps_move rfl) ?_
| refine p_p (ps_assign rfl) ?_
| refine p_p (ps_load_cell rfl rfl) ?_
| refine p_p (ps_lenM rfl rfl rfl) ?_
| refine p_p (ps_lss rfl rfl rfl) ?_
| refine p_p (ps_add rfl rfl rfl (by constructor <;> omega)) ?_
| refine p_p (ps_fieldAddr rfl rfl) ?_
| refine p_p (ps_nilCheck rfl rfl) ?_); refine ⟨_, (by dsimp only [bitvec_to_nat, Nat.reduceAdd, Nat.reduceMul, Nat.reduceBEq, reduceCtorEq]), ?_⟩)
| refine o_nil ?_
| (refine g_condD rfl (fun hc => ?_) (fun hc => ?_) <;> try (exfalso; omega))
| refine g_skip ?_
| refine g_exit ?_)
    · refine g_loopT (α := Nat) (fun z => [(27, I (z : Int))]) (fun _ => []) (fun z => z ≤ rows.length ∧ (allN z (fun z => !unevenP rows x y z)) = true) (fun z => rows.length - z) 0 (by simp only [havoc, dsts, List.filterMap_cons, List.filterMap_nil, List.foldl_cons, List.foldl_nil, List.cons_append, List.nil_append, List.append_nil, List.set_cons_succ, List.set_cons_zero]; exact rfl) ⟨Nat.zero_le _, rfl⟩ ⟨rfl, trivial⟩ rfl ?_
      rintro z ⟨hz, hgz⟩
      dsimp only [setMany, List.set_cons_zero, List.set_cons_succ]
      have h1 : (x : Int) < (rows.length : Int) := by omega
      have h2 : (y : Int) < (rows.length : Int) := by omega
      have hxy := hjm x y (by omega) h1 (by omega) h2
      have hyz := fun h3 : (z : Int) < (rows.length : Int) => hjm y z (by omega) h2 (by omega) h3
      have hxz := fun h3 : (z : Int) < (rows.length : Int) => hjm x z (by omega) h1 (by omega) h3
      have hno : unevenP rows x y z = false → (allN (z + 1) fun z => !unevenP rows x y z) = true := fun h => by rw [allN_succ, hgz, h]; rfl
      have hyes : z < rows.length → unevenP rows x y z = true → first3 rows.length (unevenP rows) = some (x, y, z) := fun h h' => first3_some (by omega) (by omega) h hgx hgy hgz h'
      repeat' (first
| refine g_seq ?_
| refine g_block ?_
| refine g_region ?_
| refine g_region_draw (by kernel_rfl) (by kernel_rfl) ?_
| (refine o_go rfl ?_; (first
| refine p_p (ps_index rfl rfl rfl (by omega) (by exact idx_TI (by omega) (by omega)) (by exact rfl)) ?_
| refine p_p (ps_index rfl rfl rfl (by omega) (by exact idx_RI (by omega) (by omega)) (by exact rfl)) ?_
| refine p_e rfl (e_lit3 rfl rfl rfl rfl rfl rfl rfl rfl) ?_
| refine p_p (ps_move rfl) ?_
| refine p_p (ps_assign rfl) ?_
| refine p_p (ps_load_cell rfl rfl) ?_
| refine p_p (ps_lss rfl rfl rfl) ?_
| refine p_p (ps_add rfl rfl rfl (by constructor <;> omega)) ?_
| refine p_p (ps_fieldAddr rfl rfl) ?_
| refine p_p (ps_neq rfl rfl rfl) ?_
| refine p_p (ps_nilCheck rfl rfl) ?_); refine ⟨_, (by dsimp only [bitvec_to_nat, Nat.reduceAdd, Nat.reduceMul, Nat.reduceBEq, reduceCtorEq]), ?_⟩)
| refine o_nil ?_
| (refine g_condN rfl (fun hc => ?_) (fun hc => ?_) <;> try (exfalso; omega))
| (refine g_condD rfl (fun hc => ?_) (fun hc => ?_) <;> try (exfalso; omega))
| refine krr 0 rfl (HandOut.arr rfl ?_ (by first | exact sc_map (fun _ => rfl) _ | exact sc_maps (fun _ => rfl) _ | rfl))
| refine g_skip ?_
| refine g_exit ?_
| refine g_ret ?_)
      · have h' := hS; unfold uneven3 at h'; rw [hyes (by omega) (by unfold unevenP; rw [decide_eq_false hc]; rfl)] at h'; cases h'; rfl
      · exact k_round (z + 1) ⟨by omega, hno (by unfold unevenP; rw [decide_eq_true hc]; rfl)⟩ (by omega) (by repeat (first | exact trivial | refine ⟨.inl rfl, ?_⟩ | refine ⟨.inr rfl, ?_⟩)) ⟨rfl, trivial⟩ (by first | exact hpLe_nil _ | exact hpLe_refl _)
      · have hzn : z = rows.length := by omega
        subst hzn
        exact k_round (y + 1) ⟨by omega, by rw [allN_succ, hgy]; exact hgz⟩ (by omega) (by repeat (first | exact trivial | refine ⟨.inl rfl, ?_⟩ | refine ⟨.inr rfl, ?_⟩)) ⟨rfl, trivial⟩ (by first | exact hpLe_nil _ | exact hpLe_refl _)
    · have hyn : y = rows.length := by omega
      subst hyn
      exact k_round (x + 1) ⟨by omega, by rw [allN_succ, hgx]; exact hgy⟩ (by omega) (by repeat (first | exact trivial | refine ⟨.inl rfl, ?_⟩ | refine ⟨.inr rfl, ?_⟩)) ⟨rfl, trivial⟩ (by first | exact hpLe_nil _ | exact hpLe_refl _)
  · exfalso
    have hxn : x = rows.length := by omega
    subst hxn
    have h' := hS; unfold uneven3 at h'; rw [first3_none hgx] at h'; exact absurd h' (by simp)

set_option maxHeartbeats 1000000 in
set_option maxRecDepth 100000 in
theorem latticeOf_no (rows : List (List Int)) (hok : okP rows) (hno : goodL rows = false) : ∃ q : PV, (q = .val (.pointer none) ∨ ∃ l, q = .ptr l) ∧ PCalls Try.prog 61 [posetP rows] (.tup [q, B false]) := by
  cases ho : okO rows with
  | false =>
    refine ⟨.val (.pointer none), .inl rfl, ?_⟩
    refine pcalls2 Try.func61 rfl Try.ntmps61 rfl ?_
    simp only [List.length_cons, List.length_nil, Nat.reduceAdd, Nat.reduceSub, List.replicate_succ, List.replicate_zero, List.cons_append, List.nil_append]
    have h1 := orderOf_c rows hok .any ⟨fun h => (by rw [ho] at h; cases h), fun _ => rfl⟩
    rw [ho] at h1
    repeat' (first
| refine g_seq ?_
| refine g_region ?_
| (refine o_go rfl ?_; (first
| refine p_p (ps_call rfl rfl (by (repeat (first | refine ⟨PV.le_refl _, ?_⟩ | refine ⟨PV.le_nn _ _ _, ?_⟩ | refine ⟨PV.le_nil _, ?_⟩ | refine ⟨PV.le_any _, ?_⟩)); exact trivial) (h1)) ?_
| refine p_p (ps_move rfl) ?_
| refine p_p (ps_assign rfl) ?_
| refine p_p (ps_load_agg rfl rfl (by exact Nat.le_of_ble_eq_true rfl)) ?_
| refine p_p (ps_extract rfl rfl rfl) ?_
| refine p_p (ps_not rfl rfl) ?_
| refine p_p (ps_pick rfl rfl) ?_
| refine p_p (ps_box rfl rfl) ?_); refine ⟨_, (by dsimp only [bitvec_to_nat, Nat.reduceAdd, Nat.reduceMul, Nat.reduceBEq, reduceCtorEq]), ?_⟩)
| refine o_nil ?_
| (refine o_s rfl ?_; refine ⟨_, (by dsimp only [bitvec_to_nat, Nat.reduceAdd, Nat.reduceMul, Nat.reduceBEq, reduceCtorEq]), ?_⟩)
| refine g_condT rfl ?_
| refine kr2 ?_ ?_
| refine krB rfl ?_
| refine g_ret ?_)
    · exact krV rfl
    · rfl
  | true =>
    have h1 := orderOf_c rows hok _ ⟨fun _ => rfl, fun h => (by rw [ho] at h; cases h)⟩
    rw [ho] at h1
    have hl := length_tabOf rows
    have hP : goodP rows = true := by rw [← okO_good]; exact ho
    have h10 : rows.length ≤ 10 := by unfold okO at ho; simp only [Bool.and_eq_true, decide_eq_true_eq] at ho; exact ho.1
    have hot := okT_of h10
    by_cases hn : rows.length = 0
    · refine ⟨.val (.pointer none), .inl rfl, ?_⟩
      refine pcalls2 Try.func61 rfl Try.ntmps61 rfl ?_
      simp only [List.length_cons, List.length_nil, Nat.reduceAdd, Nat.reduceSub, List.replicate_succ, List.replicate_zero, List.cons_append, List.nil_append]
      repeat' (first
| refine g_seq ?_
| refine g_region ?_
| (refine o_go rfl ?_; (first
| refine p_p (ps_call rfl rfl (by (repeat (first | refine ⟨PV.le_refl _, ?_⟩ | refine ⟨PV.le_nn _ _ _, ?_⟩ | refine ⟨PV.le_nil _, ?_⟩ | refine ⟨PV.le_any _, ?_⟩)); exact trivial) (h1)) ?_
| refine p_p (ps_move rfl) ?_
| refine p_p (ps_assign rfl) ?_
| refine p_p (ps_load_agg rfl rfl (by exact Nat.le_of_ble_eq_true rfl)) ?_
| refine p_p (ps_lenM rfl rfl rfl) ?_
| refine p_p (ps_extract rfl rfl rfl) ?_
| refine p_p (ps_not rfl rfl) ?_
| refine p_p (ps_pick rfl rfl) ?_
| refine p_p (ps_eql rfl rfl rfl) ?_
| refine p_p (ps_box rfl rfl) ?_); refine ⟨_, (by dsimp only [bitvec_to_nat, Nat.reduceAdd, Nat.reduceMul, Nat.reduceBEq, reduceCtorEq]), ?_⟩)
| refine o_nil ?_
| (refine g_condD rfl (fun hc => ?_) (fun hc => ?_) <;> try (exfalso; omega))
| refine kr2 ?_ ?_
| refine krB rfl ?_
| refine g_ret ?_)
      · exact krV rfl
      · rfl
    · have heq : (mOk (tabOf rows) && mOk (dualT (tabOf rows))) = false := by rw [dual_tab, ← goodL_eq rows hP hn]; exact hno
      have hm1 := meetTable_c (tabOf rows) hot (if mOk (tabOf rows) = true then intss (meetsT (tabOf rows) rows.length) else intss []) ⟨fun h => by rw [if_pos h, hl], fun h => by rw [if_neg (by rw [h]; decide)]⟩
      have hm2 := meetTable_c (dualT (tabOf rows)) (okT_dual hot) (if mOk (dualT (tabOf rows)) = true then intss (meetsT (dualT (tabOf rows)) rows.length) else intss []) ⟨fun h => by rw [if_pos h, length_dualT, hl], fun h => by rw [if_neg (by rw [h]; decide)]⟩
      cases hb1 : mOk (tabOf rows) with
      | true =>
        rw [hb1, Bool.true_and] at heq
        rw [hb1] at hm1
        rw [heq] at hm2
        simp only [if_true, Bool.false_eq_true, if_false] at hm1 hm2
        refine ⟨.ptr [boolss (tabOf rows), intss (meetsT (tabOf rows) rows.length), intss []], .inr ⟨_, rfl⟩, ?_⟩
        refine pcalls2 Try.func61 rfl Try.ntmps61 rfl ?_
        simp only [List.length_cons, List.length_nil, Nat.reduceAdd, Nat.reduceSub, List.replicate_succ, List.replicate_zero, List.cons_append, List.nil_append]
        repeat' (first
| refine g_seq ?_
| refine g_region ?_
| (refine o_go rfl ?_; (first
| refine p_p (ps_call rfl rfl (by (repeat (first | refine ⟨PV.le_refl _, ?_⟩ | refine ⟨PV.le_nn _ _ _, ?_⟩ | refine ⟨PV.le_nil _, ?_⟩ | refine ⟨PV.le_any _, ?_⟩)); exact trivial) (h1)) ?_
| refine p_p (ps_call rfl rfl (by (repeat (first | refine ⟨PV.le_refl _, ?_⟩ | refine ⟨PV.le_nn _ _ _, ?_⟩ | refine ⟨PV.le_nil _, ?_⟩ | refine ⟨PV.le_any _, ?_⟩)); exact trivial) (hm1)) ?_
| refine p_p (ps_call rfl rfl (by (repeat (first | refine ⟨PV.le_refl _, ?_⟩ | refine ⟨PV.le_nn _ _ _, ?_⟩ | refine ⟨PV.le_nil _, ?_⟩ | refine ⟨PV.le_any _, ?_⟩)); exact trivial) (odual_c _ hot)) ?_
| refine p_p (ps_call rfl rfl (by (repeat (first | refine ⟨PV.le_refl _, ?_⟩ | refine ⟨PV.le_nn _ _ _, ?_⟩ | refine ⟨PV.le_nil _, ?_⟩ | refine ⟨PV.le_any _, ?_⟩)); exact trivial) (hm2)) ?_
| refine p_p (ps_move rfl) ?_
| refine p_p (ps_assign rfl) ?_
| refine p_p (ps_load_agg rfl rfl (by exact Nat.le_of_ble_eq_true rfl)) ?_
| refine p_p (ps_lenM rfl rfl rfl) ?_
| refine p_p (ps_extract rfl rfl rfl) ?_
| refine p_p (ps_not rfl rfl) ?_
| refine p_p (ps_pick rfl rfl) ?_
| refine p_p (ps_eql rfl rfl rfl) ?_
| refine p_p (ps_box rfl rfl) ?_
| refine p_p (ps_build rfl rfl) ?_); refine ⟨_, (by dsimp only [bitvec_to_nat, Nat.reduceAdd, Nat.reduceMul, Nat.reduceBEq, reduceCtorEq]), ?_⟩)
| refine o_nil ?_
| (refine g_condD rfl (fun hc => ?_) (fun hc => ?_) <;> try (exfalso; omega))
| refine kr2 ?_ ?_
| refine krB rfl ?_
| refine krP rfl ?_
| refine g_skip ?_
| refine g_ret ?_)
        all_goals first | rfl | exact krP rfl rfl
      | false =>
        rw [hb1] at hm1
        cases hb2 : mOk (dualT (tabOf rows)) with
        | true =>
          rw [hb2] at hm2
          simp only [if_true, Bool.false_eq_true, if_false] at hm1 hm2
          refine ⟨.ptr [boolss (tabOf rows), intss [], intss (meetsT (dualT (tabOf rows)) rows.length)], .inr ⟨_, rfl⟩, ?_⟩
          refine pcalls2 Try.func61 rfl Try.ntmps61 rfl ?_
          simp only [List.length_cons, List.length_nil, Nat.reduceAdd, Nat.reduceSub, List.replicate_succ, List.replicate_zero, List.cons_append, List.nil_append]
          repeat' (first
| refine g_seq ?_
| refine g_region ?_
| (refine o_go rfl ?_; (first
| refine p_p (ps_call rfl rfl (by (repeat (first | refine ⟨PV.le_refl _, ?_⟩ | refine ⟨PV.le_nn _ _ _, ?_⟩ | refine ⟨PV.le_nil _, ?_⟩ | refine ⟨PV.le_any _, ?_⟩)); exact trivial) (h1)) ?_
| refine p_p (ps_call rfl rfl (by (repeat (first | refine ⟨PV.le_refl _, ?_⟩ | refine ⟨PV.le_nn _ _ _, ?_⟩ | refine ⟨PV.le_nil _, ?_⟩ | refine ⟨PV.le_any _, ?_⟩)); exact trivial) (hm1)) ?_
| refine p_p (ps_call rfl rfl (by (repeat (first | refine ⟨PV.le_refl _, ?_⟩ | refine ⟨PV.le_nn _ _ _, ?_⟩ | refine ⟨PV.le_nil _, ?_⟩ | refine ⟨PV.le_any _, ?_⟩)); exact trivial) (odual_c _ hot)) ?_
| refine p_p (ps_call rfl rfl (by (repeat (first | refine ⟨PV.le_refl _, ?_⟩ | refine ⟨PV.le_nn _ _ _, ?_⟩ | refine ⟨PV.le_nil _, ?_⟩ | refine ⟨PV.le_any _, ?_⟩)); exact trivial) (hm2)) ?_
| refine p_p (ps_move rfl) ?_
| refine p_p (ps_assign rfl) ?_
| refine p_p (ps_load_agg rfl rfl (by exact Nat.le_of_ble_eq_true rfl)) ?_
| refine p_p (ps_lenM rfl rfl rfl) ?_
| refine p_p (ps_extract rfl rfl rfl) ?_
| refine p_p (ps_not rfl rfl) ?_
| refine p_p (ps_pick rfl rfl) ?_
| refine p_p (ps_eql rfl rfl rfl) ?_
| refine p_p (ps_box rfl rfl) ?_
| refine p_p (ps_build rfl rfl) ?_); refine ⟨_, (by dsimp only [bitvec_to_nat, Nat.reduceAdd, Nat.reduceMul, Nat.reduceBEq, reduceCtorEq]), ?_⟩)
| refine o_nil ?_
| (refine o_s rfl ?_; refine ⟨_, (by dsimp only [bitvec_to_nat, Nat.reduceAdd, Nat.reduceMul, Nat.reduceBEq, reduceCtorEq]), ?_⟩)
| (refine g_condD rfl (fun hc => ?_) (fun hc => ?_) <;> try (exfalso; omega))
| refine kr2 ?_ ?_
| refine krB rfl ?_
| refine krP rfl ?_
| refine g_skip ?_
| refine g_ret ?_)
          all_goals first | rfl | exact krP rfl rfl
        | false =>
          rw [hb2] at hm2
          simp only [Bool.false_eq_true, if_false] at hm1 hm2
          refine ⟨.ptr [boolss (tabOf rows), intss [], intss []], .inr ⟨_, rfl⟩, ?_⟩
          refine pcalls2 Try.func61 rfl Try.ntmps61 rfl ?_
          simp only [List.length_cons, List.length_nil, Nat.reduceAdd, Nat.reduceSub, List.replicate_succ, List.replicate_zero, List.cons_append, List.nil_append]
          repeat' (first
| refine g_seq ?_
| refine g_region ?_
| (refine o_go rfl ?_; (first
| refine p_p (ps_call rfl rfl (by (repeat (first | refine ⟨PV.le_refl _, ?_⟩ | refine ⟨PV.le_nn _ _ _, ?_⟩ | refine ⟨PV.le_nil _, ?_⟩ | refine ⟨PV.le_any _, ?_⟩)); exact trivial) (h1)) ?_
| refine p_p (ps_call rfl rfl (by (repeat (first | refine ⟨PV.le_refl _, ?_⟩ | refine ⟨PV.le_nn _ _ _, ?_⟩ | refine ⟨PV.le_nil _, ?_⟩ | refine ⟨PV.le_any _, ?_⟩)); exact trivial) (hm1)) ?_
| refine p_p (ps_call rfl rfl (by (repeat (first | refine ⟨PV.le_refl _, ?_⟩ | refine ⟨PV.le_nn _ _ _, ?_⟩ | refine ⟨PV.le_nil _, ?_⟩ | refine ⟨PV.le_any _, ?_⟩)); exact trivial) (odual_c _ hot)) ?_
| refine p_p (ps_call rfl rfl (by (repeat (first | refine ⟨PV.le_refl _, ?_⟩ | refine ⟨PV.le_nn _ _ _, ?_⟩ | refine ⟨PV.le_nil _, ?_⟩ | refine ⟨PV.le_any _, ?_⟩)); exact trivial) (hm2)) ?_
| refine p_p (ps_move rfl) ?_
| refine p_p (ps_assign rfl) ?_
| refine p_p (ps_load_agg rfl rfl (by exact Nat.le_of_ble_eq_true rfl)) ?_
| refine p_p (ps_lenM rfl rfl rfl) ?_
| refine p_p (ps_extract rfl rfl rfl) ?_
| refine p_p (ps_not rfl rfl) ?_
| refine p_p (ps_pick rfl rfl) ?_
| refine p_p (ps_eql rfl rfl rfl) ?_
| refine p_p (ps_box rfl rfl) ?_
| refine p_p (ps_build rfl rfl) ?_); refine ⟨_, (by dsimp only [bitvec_to_nat, Nat.reduceAdd, Nat.reduceMul, Nat.reduceBEq, reduceCtorEq]), ?_⟩)
| refine o_nil ?_
| (refine o_s rfl ?_; refine ⟨_, (by dsimp only [bitvec_to_nat, Nat.reduceAdd, Nat.reduceMul, Nat.reduceBEq, reduceCtorEq]), ?_⟩)
| (refine g_condD rfl (fun hc => ?_) (fun hc => ?_) <;> try (exfalso; omega))
| refine kr2 ?_ ?_
| refine krB rfl ?_
| refine krP rfl ?_
| refine g_skip ?_
| refine g_ret ?_)
          all_goals first | rfl | exact krP rfl rfl
end Go.Proofs.Ytbfmjknngofleaa
