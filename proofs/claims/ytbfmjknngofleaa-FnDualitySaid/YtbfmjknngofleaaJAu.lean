/- Walks: the reference's sorted lists of lists, lists of bits, prime filters. -/
import Derived.Test.YtbfmjknngofleaaJPr
import Derived.Test.YtbfmjknngofleaaJSt
import Derived.Test.YtbfmjknngofleaaJAr
namespace Go.Proofs.Ytbfmjknngofleaa
open Go Go.Pv Go.Proofs
attribute [local bitvec_to_nat] St.put St.setObj St.ev killP killA killP1 killH mapHO renP renA ren1 killG killGA killG1 krowP krowA krow1 lendP lendA lend1 unv pinP pin1 elemsM viewM viewN viewV n_set_z n_set_s n_map_c n_map_n getD_z getD_s n_toNat n_cond_t n_cond_f n_len_c n_len_n n_app_c n_app_n n_take_s n_take_z n_drop_s n_drop_z n_get_z n_get_s view viewA view1 elems Nat.zero_add Nat.add_zero Bool.not_true Bool.not_false Nat.one_ne_zero Nat.mul_one

set_option maxHeartbeats 1000000 in
set_option maxRecDepth 100000 in
theorem less5_c (s t : List Int) (he : s.length = t.length) (hs : s.length ≤ 1048576) : PCalls Try.prog 97 [ints s, ints t] (B (decide (cmpL s t < 0))) := by
  refine pcalls1 Try.func97 rfl Try.ntmps97 rfl ?_
  simp only [List.length_cons, List.length_nil, Nat.reduceAdd, Nat.reduceSub, List.replicate_succ, List.replicate_zero, List.cons_append, List.nil_append]
  repeat' (first
| refine g_seq ?_
| refine g_block ?_
| refine g_region ?_
| (refine o_go rfl ?_; (first
| refine p_p (ps_assign rfl) ?_); refine ⟨_, (by dsimp only [bitvec_to_nat, Nat.reduceAdd, Nat.reduceMul, Nat.reduceBEq, reduceCtorEq]), ?_⟩)
| refine o_nil ?_)
  refine g_loopT (α := Nat) (fun i => [(5, I (i : Int))]) (fun _ => []) (fun i => i ≤ s.length ∧ cmpL (s.drop i) (t.drop i) = cmpL s t) (fun i => s.length - i) 0 (by simp only [havoc, dsts, List.filterMap_cons, List.filterMap_nil, List.foldl_cons, List.foldl_nil, List.cons_append, List.nil_append, List.append_nil, List.set_cons_succ, List.set_cons_zero]; exact rfl) ⟨Nat.zero_le _, rfl⟩ ⟨rfl, trivial⟩ rfl ?_
  rintro i ⟨hi, hcm⟩
  dsimp only [setMany, List.set_cons_zero, List.set_cons_succ]
  by_cases hin : i < s.length
  · rw [drop_cons' 0 hin, drop_cons' 0 (show i < t.length by omega)] at hcm
    simp only [cmpL] at hcm
    repeat' (first
| refine g_seq ?_
| refine g_block ?_
| refine g_region ?_
| refine g_region_draw (by kernel_rfl) (by kernel_rfl) ?_
| (refine o_go rfl ?_; (first
| refine p_p (ps_move rfl) ?_
| refine p_p (ps_assign rfl) ?_
| refine p_p (ps_load_cell rfl rfl) ?_
| refine p_p (ps_index rfl rfl rfl (by omega) (by first | exact idx_I (by omega) | exact idx_B (by omega) | exact idx_ints (by omega) | exact idx_bools (by omega) | exact idx_intss (by omega) | rfl) (by exact rfl)) ?_
| refine p_p (ps_lenM rfl rfl rfl) ?_
| refine p_p (ps_lss rfl rfl rfl) ?_
| refine p_p (ps_add rfl rfl rfl (by constructor <;> omega)) ?_
| refine p_p (ps_neq rfl rfl rfl) ?_); refine ⟨_, (by dsimp only [bitvec_to_nat, Nat.reduceAdd, Nat.reduceMul, Nat.reduceBEq, reduceCtorEq]), ?_⟩)
| refine o_nil ?_
| (refine g_condN rfl (fun hc => ?_) (fun hc => ?_) <;> try (exfalso; omega))
| (refine g_condD rfl (fun hc => ?_) (fun hc => ?_) <;> try (exfalso; omega))
| refine kr1 ?_
| refine krB rfl ?_
| refine g_skip ?_
| refine g_ret ?_)
    · rw [if_neg hc] at hcm
      rw [← hcm]
      by_cases h : s.getD i 0 < t.getD i 0
      · rw [if_pos h, decide_eq_true h]; rfl
      · rw [if_neg h, decide_eq_false h]; rfl
    · rw [if_pos hc] at hcm
      exact k_round (i + 1) ⟨by omega, hcm⟩ (by omega) (by repeat (first | exact trivial | refine ⟨.inl rfl, ?_⟩ | refine ⟨.inr rfl, ?_⟩)) ⟨rfl, trivial⟩ (hpLe_nil _)
  · rw [List.drop_of_length_le (by omega), List.drop_of_length_le (by omega)] at hcm
    repeat' (first
| refine g_seq ?_
| refine g_region ?_
| (refine o_go rfl ?_; (first
| refine p_p (ps_move rfl) ?_
| refine p_p (ps_assign rfl) ?_
| refine p_p (ps_lenM rfl rfl rfl) ?_
| refine p_p (ps_lss rfl rfl rfl) ?_); refine ⟨_, (by dsimp only [bitvec_to_nat, Nat.reduceAdd, Nat.reduceMul, Nat.reduceBEq, reduceCtorEq]), ?_⟩)
| refine o_nil ?_
| (refine g_condD rfl (fun hc => ?_) (fun hc => ?_) <;> try (exfalso; omega))
| refine kr1 ?_
| refine krB rfl ?_
| refine g_exit ?_
| refine g_ret ?_)
    rw [← hcm]; rfl
set_option maxHeartbeats 4000000 in
set_option maxRecDepth 100000 in
theorem sort5_c (l V : List (List Int)) (x : List Int) (hl : Asc l) (hx : x ∉ l) (hV : Asc V) (hp : V.Perm (x :: l)) (hln : l.length ≤ 1048576) (hxl : x.length ≤ 1048576) (hr : ∀ r ∈ l, r.length ≤ 1048576) : PCalls Try.prog 89 [intss l, ints x] (intss V) := by
  refine pcalls1 Try.func89 rfl Try.ntmps89 rfl ?_
  simp only [List.length_cons, List.length_nil, Nat.reduceAdd, Nat.reduceSub, List.replicate_succ, List.replicate_zero, List.cons_append, List.nil_append]
  repeat' (first
| refine g_seq ?_
| refine g_block ?_
| refine g_region ?_
| (refine o_go rfl ?_; (first
| refine p_p (ps_move rfl) ?_
| refine p_p (ps_assign rfl) ?_
| refine p_p (ps_lenM rfl rfl rfl) ?_); refine ⟨_, (by dsimp only [bitvec_to_nat, Nat.reduceAdd, Nat.reduceMul, Nat.reduceBEq, reduceCtorEq]), ?_⟩)
| refine o_nil ?_)
  refine g_loopT (α := Nat) (fun k => [(5, I (k : Int))]) (fun _ => []) (fun k => k ≤ l.length ∧ ∀ j, k ≤ j → j < l.length → cmpT x (l.getD j []) < 0) (fun k => k) l.length (by simp only [havoc, dsts, List.filterMap_cons, List.filterMap_nil, List.foldl_cons, List.foldl_nil, List.cons_append, List.nil_append, List.append_nil, List.set_cons_succ, List.set_cons_zero]; exact rfl) ⟨Nat.le_refl _, fun j h1 h2 => by omega⟩ ⟨rfl, trivial⟩ rfl ?_
  rintro k ⟨hk, hall⟩
  dsimp only [setMany, List.set_cons_zero, List.set_cons_succ]
  have hkr : k ≤ l.length := hk
  have hend : (k = 0 ∨ ¬ cmpT x (l.getD (k - 1) []) < 0) → V = l.take k ++ x :: l.drop k := fun h => asc_unique _ _ (asc_ins hl hx hk hall h) (asc_irrefl hV) (hp.trans (by
    have : (x :: l).Perm (x :: (l.take k ++ l.drop k)) := by rw [List.take_append_drop]
    exact this.trans List.perm_middle.symm))
  have fin : V = l.take k ++ x :: l.drop k → (l.take k).map ints ++ [PV.sl 1 none (x.map I)] ++ (l.drop k).map ints = V.map ints := fun h => by
    rw [h, List.map_append, List.map_cons, List.append_assoc]; rfl
  by_cases h0 : k = 0
  · have hV' := hend (.inl h0)
    repeat' (first
| refine g_seq ?_
| refine g_region ?_
| (refine o_go rfl ?_; (first
| refine p_p (ps_move rfl) ?_
| refine p_p (ps_pick rfl rfl) ?_
| refine p_p (ps_gtr rfl rfl rfl) ?_); refine ⟨_, (by dsimp only [bitvec_to_nat, Nat.reduceAdd, Nat.reduceMul, Nat.reduceBEq, reduceCtorEq]), ?_⟩)
| refine o_nil ?_
| (refine o_s rfl ?_; refine ⟨_, (by dsimp only [bitvec_to_nat, Nat.reduceAdd, Nat.reduceMul, Nat.reduceBEq, reduceCtorEq]), ?_⟩)
| (refine o_splitD rfl rfl rfl (fun hc => ?_) (fun hc => ?_) <;> first | (exfalso; omega) | dsimp only [List.set_cons_zero, List.set_cons_succ])
| refine g_condF rfl ?_
| refine g_exit ?_)
    refine g_region_drawY [(1, some [0]), (2, some [0]), (3, some [0]), (5, some [0]), (6, some [0]), (8, some [0]), (9, some [0]), (10, some [0]), (0, none), (4, none), (7, none), (11, none), (12, none)] [(0, 0), (4, 0), (7, 0), (11, 0)] (by kernel_rfl) rfl (by kernel_rfl) ?_
    repeat' (first
| refine y_nil ?_
| ((first
| refine y_pure rfl rfl (fun _ => ps_sliceToM rfl rfl rfl (by omega) (by omega)) (by repeat (first | exact trivial | refine ⟨rfl, ?_⟩)) (by intro y hy; simp [Op.operands] at hy; first | (subst hy; repeat (first | exact trivial | refine ⟨rfl, ?_⟩)) | (rcases hy with rfl | rfl <;> repeat (first | exact trivial | refine ⟨rfl, ?_⟩))) ?_
| refine y_pure rfl rfl (fun _ => ps_sliceFromM rfl rfl rfl (by omega) (by omega)) (by repeat (first | exact trivial | refine ⟨rfl, ?_⟩)) (by intro y hy; simp [Op.operands] at hy; first | (subst hy; repeat (first | exact trivial | refine ⟨rfl, ?_⟩)) | (rcases hy with rfl | rfl <;> repeat (first | exact trivial | refine ⟨rfl, ?_⟩))) ?_
| refine y_pure rfl rfl (fun _ => ps_move rfl) (by repeat (first | exact trivial | refine ⟨rfl, ?_⟩)) (by intro y hy; simp [Op.operands] at hy; first | (subst hy; repeat (first | exact trivial | refine ⟨rfl, ?_⟩)) | (rcases hy with rfl | rfl <;> repeat (first | exact trivial | refine ⟨rfl, ?_⟩))) ?_
| refine y_pure rfl rfl (fun _ => ps_lit1 rfl rfl (by rfl) (by rfl)) (by repeat (first | exact trivial | refine ⟨rfl, ?_⟩)) (by intro y hy; simp [Op.operands] at hy; first | (subst hy; repeat (first | exact trivial | refine ⟨rfl, ?_⟩)) | (rcases hy with rfl | rfl <;> repeat (first | exact trivial | refine ⟨rfl, ?_⟩))) ?_
| refine y_eff rfl rfl (by first | exact trivial | exact .inl ⟨rfl, rfl⟩ | exact .inr (.inl ⟨rfl, rfl⟩) | exact .inr (.inr (.inl ⟨rfl, rfl⟩)) | exact .inr (.inr (.inr (.inl ⟨rfl, rfl⟩)))) (j_lit0 rfl (by decide)) ?_
| refine y_eff rfl rfl (by first | exact trivial | exact .inl ⟨rfl, rfl⟩ | exact .inr (.inl ⟨rfl, rfl⟩) | exact .inr (.inr (.inl ⟨rfl, rfl⟩)) | exact .inr (.inr (.inr (.inl ⟨rfl, rfl⟩)))) (j_pure (ps_assign rfl)) ?_
| refine y_eff rfl rfl (by first | exact trivial | exact .inl ⟨rfl, rfl⟩ | exact .inr (.inl ⟨rfl, rfl⟩) | exact .inr (.inr (.inl ⟨rfl, rfl⟩)) | exact .inr (.inr (.inr (.inl ⟨rfl, rfl⟩)))) (j_append rfl rfl rfl rfl rfl rfl (by first | exact one_one rfl | exact one_map (fun _ => rfl) _) rfl (by first | omega | (simp; done) | (simp; omega)) (by first | omega | (simp; done) | (simp; omega))) ?_); refine ⟨_, (by dsimp only [appJ, killO, bitvec_to_nat, Nat.reduceAdd, Nat.reduceMul, Nat.reduceBEq, reduceCtorEq]), ?_⟩))
    repeat' (first
| refine kr1 ?_
| refine krS rfl ?_
| refine g_ret ?_)
    exact fin hV'
  · have e1 : ((k : Int) - 1) = ((k - 1 : Nat) : Int) := by omega
    have hkl : (l.getD (k - 1) []).length ≤ 1048576 := hr _ (by rw [List.getD_eq_getElem?_getD, List.getElem?_eq_getElem (by omega)]; exact List.getElem_mem _)
    have hkt : ((k : Int) - 1).toNat = k - 1 := by omega
    have hl5 := fun he => less5_c x (l.getD ((k : Int) - 1).toNat []) he hxl
    rw [hkt] at hl5
    have hstep : cmpT x (l.getD (k - 1) []) < 0 → k - 1 ≤ l.length ∧ ∀ j, k - 1 ≤ j → j < l.length → cmpT x (l.getD j []) < 0 := fun h => ⟨by omega, fun j h1 h2 => by
      by_cases e : j = k - 1
      · rw [e]; exact h
      · exact hall j (by omega) h2⟩
    have hcmp : cmpT x (l.getD (k - 1) []) = if x.length < (l.getD (k - 1) []).length then -1 else if (l.getD (k - 1) []).length < x.length then 1 else cmpL x (l.getD (k - 1) []) := rfl
    rw [← hkt] at hl5 hcmp hstep hend
    repeat' (first
| refine g_seq ?_
| refine g_block ?_
| refine g_region ?_
| (refine o_go rfl ?_; (first
| refine p_p (ps_call rfl rfl (by (repeat (first | refine ⟨PV.le_refl _, ?_⟩ | refine ⟨PV.le_nn _ _ _, ?_⟩ | refine ⟨PV.le_nil _, ?_⟩ | refine ⟨PV.le_any _, ?_⟩)); exact trivial) (hl5 (by omega))) ?_
| refine p_p (ps_move rfl) ?_
| refine p_p (ps_assign rfl) ?_
| refine p_p (ps_load_cell rfl rfl) ?_
| refine p_p (ps_index rfl rfl rfl (by omega) (by first | exact idx_I (by omega) | exact idx_B (by omega) | exact idx_ints (by omega) | exact idx_bools (by omega) | exact idx_intss (by omega) | rfl) (by exact rfl)) ?_
| refine p_p (ps_lenM rfl rfl rfl) ?_
| refine p_p (ps_lss rfl rfl rfl) ?_
| refine p_p (ps_pick rfl rfl) ?_
| refine p_p (ps_gtr rfl rfl rfl) ?_
| refine p_p (ps_eql rfl rfl rfl) ?_
| refine p_p (ps_sub rfl rfl rfl (by constructor <;> omega)) ?_); refine ⟨_, (by dsimp only [bitvec_to_nat, Nat.reduceAdd, Nat.reduceMul, Nat.reduceBEq, reduceCtorEq]), ?_⟩)
| refine o_nil ?_
| (refine o_s rfl ?_; refine ⟨_, (by dsimp only [bitvec_to_nat, Nat.reduceAdd, Nat.reduceMul, Nat.reduceBEq, reduceCtorEq]), ?_⟩)
| (refine o_splitD rfl rfl rfl (fun hc => ?_) (fun hc => ?_) <;> first | (exfalso; omega) | dsimp only [List.set_cons_zero, List.set_cons_succ])
| refine g_condT rfl ?_
| refine g_condF rfl ?_
| (refine g_condD rfl (fun hc => ?_) (fun hc => ?_) <;> try (exfalso; omega))
| refine g_skip ?_
| refine g_exit ?_)
    · refine k_round (k - 1) (by rw [← hkt]; exact hstep (by rw [hcmp, if_pos (by omega)]; decide)) (by omega) (by repeat (first | exact trivial | refine ⟨.inl rfl, ?_⟩ | refine ⟨.inr rfl, ?_⟩)) ⟨by rw [← e1]; rfl, trivial⟩ (hpLe_nil _)
    · refine k_round (k - 1) (by rw [← hkt]; exact hstep (by rw [hcmp, if_neg (by omega), if_neg (by omega)]; exact hc)) (by omega) (by repeat (first | exact trivial | refine ⟨.inl rfl, ?_⟩ | refine ⟨.inr rfl, ?_⟩)) ⟨by rw [← e1]; rfl, trivial⟩ (hpLe_nil _)
    · have hV' := hend (.inr (by rw [hcmp, if_neg (by omega), if_neg (by omega)]; exact hc))
      refine g_region_drawY [(1, some [0]), (2, some [0]), (3, some [0]), (5, some [0]), (6, some [0]), (8, some [0]), (9, some [0]), (10, some [0]), (0, none), (4, none), (7, none), (11, none), (12, none)] [(0, 0), (4, 0), (7, 0), (11, 0)] (by kernel_rfl) rfl (by kernel_rfl) ?_
      repeat' (first
| refine y_nil ?_
| ((first
| refine y_pure rfl rfl (fun _ => ps_sliceToM rfl rfl rfl (by omega) (by omega)) (by repeat (first | exact trivial | refine ⟨rfl, ?_⟩)) (by intro y hy; simp [Op.operands] at hy; first | (subst hy; repeat (first | exact trivial | refine ⟨rfl, ?_⟩)) | (rcases hy with rfl | rfl <;> repeat (first | exact trivial | refine ⟨rfl, ?_⟩))) ?_
| refine y_pure rfl rfl (fun _ => ps_sliceFromM rfl rfl rfl (by omega) (by omega)) (by repeat (first | exact trivial | refine ⟨rfl, ?_⟩)) (by intro y hy; simp [Op.operands] at hy; first | (subst hy; repeat (first | exact trivial | refine ⟨rfl, ?_⟩)) | (rcases hy with rfl | rfl <;> repeat (first | exact trivial | refine ⟨rfl, ?_⟩))) ?_
| refine y_pure rfl rfl (fun _ => ps_move rfl) (by repeat (first | exact trivial | refine ⟨rfl, ?_⟩)) (by intro y hy; simp [Op.operands] at hy; first | (subst hy; repeat (first | exact trivial | refine ⟨rfl, ?_⟩)) | (rcases hy with rfl | rfl <;> repeat (first | exact trivial | refine ⟨rfl, ?_⟩))) ?_
| refine y_pure rfl rfl (fun _ => ps_lit1 rfl rfl (by rfl) (by rfl)) (by repeat (first | exact trivial | refine ⟨rfl, ?_⟩)) (by intro y hy; simp [Op.operands] at hy; first | (subst hy; repeat (first | exact trivial | refine ⟨rfl, ?_⟩)) | (rcases hy with rfl | rfl <;> repeat (first | exact trivial | refine ⟨rfl, ?_⟩))) ?_
| refine y_eff rfl rfl (by first | exact trivial | exact .inl ⟨rfl, rfl⟩ | exact .inr (.inl ⟨rfl, rfl⟩) | exact .inr (.inr (.inl ⟨rfl, rfl⟩)) | exact .inr (.inr (.inr (.inl ⟨rfl, rfl⟩)))) (j_lit0 rfl (by decide)) ?_
| refine y_eff rfl rfl (by first | exact trivial | exact .inl ⟨rfl, rfl⟩ | exact .inr (.inl ⟨rfl, rfl⟩) | exact .inr (.inr (.inl ⟨rfl, rfl⟩)) | exact .inr (.inr (.inr (.inl ⟨rfl, rfl⟩)))) (j_pure (ps_assign rfl)) ?_
| refine y_eff rfl rfl (by first | exact trivial | exact .inl ⟨rfl, rfl⟩ | exact .inr (.inl ⟨rfl, rfl⟩) | exact .inr (.inr (.inl ⟨rfl, rfl⟩)) | exact .inr (.inr (.inr (.inl ⟨rfl, rfl⟩)))) (j_append rfl rfl rfl rfl rfl rfl (by first | exact one_one rfl | exact one_map (fun _ => rfl) _) rfl (by first | omega | (simp; done) | (simp; omega)) (by first | omega | (simp; done) | (simp; omega))) ?_); refine ⟨_, (by dsimp only [appJ, killO, bitvec_to_nat, Nat.reduceAdd, Nat.reduceMul, Nat.reduceBEq, reduceCtorEq]), ?_⟩))
      repeat' (first
| refine kr1 ?_
| refine krS rfl ?_
| refine g_ret ?_)
      exact fin hV'
    · have hV' := hend (.inr (by rw [hcmp, if_neg (by omega), if_pos (by omega)]; decide))
      refine g_region_drawY [(1, some [0]), (2, some [0]), (3, some [0]), (5, some [0]), (6, some [0]), (8, some [0]), (9, some [0]), (10, some [0]), (0, none), (4, none), (7, none), (11, none), (12, none)] [(0, 0), (4, 0), (7, 0), (11, 0)] (by kernel_rfl) rfl (by kernel_rfl) ?_
      repeat' (first
| refine y_nil ?_
| ((first
| refine y_pure rfl rfl (fun _ => ps_sliceToM rfl rfl rfl (by omega) (by omega)) (by repeat (first | exact trivial | refine ⟨rfl, ?_⟩)) (by intro y hy; simp [Op.operands] at hy; first | (subst hy; repeat (first | exact trivial | refine ⟨rfl, ?_⟩)) | (rcases hy with rfl | rfl <;> repeat (first | exact trivial | refine ⟨rfl, ?_⟩))) ?_
| refine y_pure rfl rfl (fun _ => ps_sliceFromM rfl rfl rfl (by omega) (by omega)) (by repeat (first | exact trivial | refine ⟨rfl, ?_⟩)) (by intro y hy; simp [Op.operands] at hy; first | (subst hy; repeat (first | exact trivial | refine ⟨rfl, ?_⟩)) | (rcases hy with rfl | rfl <;> repeat (first | exact trivial | refine ⟨rfl, ?_⟩))) ?_
| refine y_pure rfl rfl (fun _ => ps_move rfl) (by repeat (first | exact trivial | refine ⟨rfl, ?_⟩)) (by intro y hy; simp [Op.operands] at hy; first | (subst hy; repeat (first | exact trivial | refine ⟨rfl, ?_⟩)) | (rcases hy with rfl | rfl <;> repeat (first | exact trivial | refine ⟨rfl, ?_⟩))) ?_
| refine y_pure rfl rfl (fun _ => ps_lit1 rfl rfl (by rfl) (by rfl)) (by repeat (first | exact trivial | refine ⟨rfl, ?_⟩)) (by intro y hy; simp [Op.operands] at hy; first | (subst hy; repeat (first | exact trivial | refine ⟨rfl, ?_⟩)) | (rcases hy with rfl | rfl <;> repeat (first | exact trivial | refine ⟨rfl, ?_⟩))) ?_
| refine y_eff rfl rfl (by first | exact trivial | exact .inl ⟨rfl, rfl⟩ | exact .inr (.inl ⟨rfl, rfl⟩) | exact .inr (.inr (.inl ⟨rfl, rfl⟩)) | exact .inr (.inr (.inr (.inl ⟨rfl, rfl⟩)))) (j_lit0 rfl (by decide)) ?_
| refine y_eff rfl rfl (by first | exact trivial | exact .inl ⟨rfl, rfl⟩ | exact .inr (.inl ⟨rfl, rfl⟩) | exact .inr (.inr (.inl ⟨rfl, rfl⟩)) | exact .inr (.inr (.inr (.inl ⟨rfl, rfl⟩)))) (j_pure (ps_assign rfl)) ?_
| refine y_eff rfl rfl (by first | exact trivial | exact .inl ⟨rfl, rfl⟩ | exact .inr (.inl ⟨rfl, rfl⟩) | exact .inr (.inr (.inl ⟨rfl, rfl⟩)) | exact .inr (.inr (.inr (.inl ⟨rfl, rfl⟩)))) (j_append rfl rfl rfl rfl rfl rfl (by first | exact one_one rfl | exact one_map (fun _ => rfl) _) rfl (by first | omega | (simp; done) | (simp; omega)) (by first | omega | (simp; done) | (simp; omega))) ?_); refine ⟨_, (by dsimp only [appJ, killO, bitvec_to_nat, Nat.reduceAdd, Nat.reduceMul, Nat.reduceBEq, reduceCtorEq]), ?_⟩))
      repeat' (first
| refine kr1 ?_
| refine krS rfl ?_
| refine g_ret ?_)
      exact fin hV'
end Go.Proofs.Ytbfmjknngofleaa
