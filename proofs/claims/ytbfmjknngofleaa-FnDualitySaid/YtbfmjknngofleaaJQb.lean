/- Walks: drawn names. -/
import Derived.Test.YtbfmjknngofleaaJQa
import Derived.Test.YtbfmjknngofleaaJMv
namespace Go.Proofs.Ytbfmjknngofleaa
open Go Go.Pv Go.Proofs
attribute [local bitvec_to_nat] St.put St.setObj St.ev killP killA killP1 killH mapHO renP renA ren1 killG killGA killG1 krowP krowA krow1 lendP lendA lend1 unv pinP pin1 elemsM viewM viewN viewV n_set_z n_set_s n_map_c n_map_n getD_z getD_s n_toNat n_cond_t n_cond_f n_len_c n_len_n n_app_c n_app_n n_take_s n_take_z n_drop_s n_drop_z n_get_z n_get_s view viewA view1 elems Nat.zero_add Nat.add_zero Bool.not_true Bool.not_false Nat.one_ne_zero Nat.mul_one

theorem names_seq {c : Cu} {m : Int} (h : c.ok m) (n : Nat) (hn : n ≤ 1000) (hm : m ≤ 900000) : ∃ F : Nat → Cu × List Int, F 0 = (c, []) ∧ (∀ k, k ≤ n → (F k).1.ok (m + 2 * (k : Int)) ∧ (F k).2.length = k) ∧ ∀ k, k < n → ∃ x, 0 ≤ x ∧ x ≤ (k : Int) ∧ LCalls Try.prog 45 (cuB (F k).1) [.hat 0 0, I ((((F k).2.map I).length : Int) + 1)] (cuB (F (k + 1)).1) (I x) ∧ (F (k + 1)).2 = (F k).2.take x.toNat ++ [(k : Int)] ++ (F k).2.drop x.toNat := by
  refine seq_of (fun k s => s.1.ok (m + 2 * (k : Int)) ∧ s.2.length = k) (fun k s s' => ∃ x, 0 ≤ x ∧ x ≤ (k : Int) ∧ LCalls Try.prog 45 (cuB s.1) [.hat 0 0, I (((s.2.map I).length : Int) + 1)] (cuB s'.1) (I x) ∧ s'.2 = s.2.take x.toNat ++ [(k : Int)] ++ s.2.drop x.toNat) (c, []) n ⟨by simpa using h, rfl⟩ fun k s hk ⟨h1, h2⟩ => ?_
  obtain ⟨c', x, k1, x0, x1, hc⟩ := pick_L h1 (by omega) (((s.2.map I).length : Int) + 1) (by rw [List.length_map]; omega)
  rw [List.length_map] at x1
  refine ⟨(c', s.2.take x.toNat ++ [(k : Int)] ++ s.2.drop x.toNat), ⟨?_, by simp [h2]; omega⟩, x, x0, by omega, hc, rfl⟩
  rw [show m + 2 * ((k + 1 : Nat) : Int) = m + 2 * (k : Int) + 2 by omega]
  exact k1
set_option maxHeartbeats 2000000 in
set_option maxRecDepth 100000 in
theorem names2_0 {c c1 : Cu} {n : Nat} {m y : Int} {F : Nat → Cu × List Int} (hn : n ≤ 1000) (F0 : F 0 = (c, [])) (F1 : ∀ k, k ≤ n → (F k).1.ok (m + 2 * (k : Int)) ∧ (F k).2.length = k) (F2 : ∀ k, k < n → ∃ x, 0 ≤ x ∧ x ≤ (k : Int) ∧ LCalls Try.prog 45 (cuB (F k).1) [.hat 0 0, I ((((F k).2.map I).length : Int) + 1)] (cuB (F (k + 1)).1) (I x) ∧ (F (k + 1)).2 = (F k).2.take x.toNat ++ [(k : Int)] ++ (F k).2.drop x.toNat)
    (hy : LCalls Try.prog 45 (cuB (F n).1) [.hat 0 0, I 24] (cuB c1) (I y)) (e : y = 0) : LCalls Try.prog 65 (cuB c) [.hat 0 0, I (n : Int)] (cuB c1) (ints ((F n).2 ++ [(n : Int)])) := by
  refine pcallsL1 Try.func65 rfl Try.ntmps65 rfl rfl rfl (by simp) fun b d => ?_
  simp only [List.length_cons, List.length_nil, Nat.reduceAdd, Nat.reduceSub, List.replicate_succ, List.replicate_zero]
  repeat' (first
| refine g_seq ?_
| refine g_block ?_
| refine g_region ?_
| (refine o_go rfl ?_; (first
| refine p_e rfl (e_lit0T rfl (by decide)) ?_
| refine p_p (ps_assign rfl) ?_); refine ⟨_, (by dsimp only [bitvec_to_nat, Nat.reduceAdd, Nat.reduceMul, Nat.reduceBEq, reduceCtorEq]), ?_⟩)
| refine o_nil ?_)
  refine g_loopF (α := Nat) [8] (fun k => [(5, .hp 1), (6, I (k : Int))]) (fun k => [cuB (F k).1, .arr true 1 3 ((F k).2.map I)]) (fun k => k ≤ n) (fun k => n - k) 0 (by simp only [havoc, dsts, List.filterMap_cons, List.filterMap_nil, List.foldl_cons, List.foldl_nil, List.cons_append, List.nil_append, List.append_nil, List.set_cons_succ, List.set_cons_zero]; exact rfl) (Nat.zero_le _) ⟨rfl, rfl, trivial⟩ (by rw [F0]; rfl) ?_
  rintro k hk
  dsimp only [setMany, List.set_cons_zero, List.set_cons_succ]
  by_cases hkn : k < n
  · obtain ⟨x, x0, x1, hpk, hF⟩ := F2 k hkn
    have hlk := (F1 k hk).2
    have hml : ((F k).2.map I).length = k := by rw [List.length_map, hlk]
    repeat' (first
| refine g_seq ?_
| refine g_block ?_
| refine g_region ?_
| (refine o_go rfl ?_; (first
| refine p_e rfl (e_callL (n := 0) rfl rfl rfl (by (repeat (first | refine ⟨leS_refl _, ?_⟩ | refine ⟨leS_nn _ _ _, ?_⟩ | refine ⟨leS_nil _, ?_⟩ | refine ⟨leS_any _, ?_⟩)); exact trivial) rfl (by rfl) (by first | exact ⟨rfl, rfl, rfl, by simp⟩ | exact ⟨rfl, rfl, by simp⟩ | trivial) (hpk)) ?_
| refine p_p (ps_move rfl) ?_
| refine p_p (ps_assign rfl) ?_
| refine p_p (ps_lss rfl rfl rfl) ?_
| refine p_p (ps_add rfl rfl rfl (by constructor <;> omega)) ?_
| refine p_p (ps_len_mut rfl rfl rfl rfl) ?_); refine ⟨_, (by dsimp only [bitvec_to_nat, Nat.reduceAdd, Nat.reduceMul, Nat.reduceBEq, reduceCtorEq]), ?_⟩)
| refine o_nil ?_
| (refine g_condD rfl (fun hc => ?_) (fun hc => ?_) <;> try (exfalso; omega))
| refine g_skip ?_)
    refine g_freezeP 1 rfl ⟨_, (by dsimp only [bitvec_to_nat, Nat.reduceAdd, Nat.reduceMul, Nat.reduceBEq, reduceCtorEq]), ?_⟩
    refine g_view1 5 ⟨_, (by dsimp only [bitvec_to_nat, Nat.reduceAdd, Nat.reduceMul, Nat.reduceBEq, reduceCtorEq]), ?_⟩
    refine g_region_drawY [(1, some [2]), (2, some [2]), (3, some [2]), (5, some [2]), (6, some [2]), (8, some [2]), (9, some [2]), (10, some [2]), (0, none), (4, none), (7, none), (11, none), (12, none)] [(0, 2), (4, 2), (7, 2), (11, 2)] (by kernel_rfl) rfl (by kernel_rfl) ?_
    repeat' (first
| refine y_nil ?_
| ((first
| refine y_pure rfl rfl (fun _ => ps_sliceToM rfl rfl rfl (by omega) (by omega)) (by repeat (first | exact trivial | refine ⟨rfl, ?_⟩)) (by intro y hy; simp [Op.operands] at hy; first | (subst hy; repeat (first | exact trivial | refine ⟨rfl, ?_⟩)) | (rcases hy with rfl | rfl <;> repeat (first | exact trivial | refine ⟨rfl, ?_⟩))) ?_
| refine y_pure rfl rfl (fun _ => ps_sliceFromM rfl rfl rfl (by omega) (by omega)) (by repeat (first | exact trivial | refine ⟨rfl, ?_⟩)) (by intro y hy; simp [Op.operands] at hy; first | (subst hy; repeat (first | exact trivial | refine ⟨rfl, ?_⟩)) | (rcases hy with rfl | rfl <;> repeat (first | exact trivial | refine ⟨rfl, ?_⟩))) ?_
| refine y_pure rfl rfl (fun _ => ps_move rfl) (by repeat (first | exact trivial | refine ⟨rfl, ?_⟩)) (by intro y hy; simp [Op.operands] at hy; first | (subst hy; repeat (first | exact trivial | refine ⟨rfl, ?_⟩)) | (rcases hy with rfl | rfl <;> repeat (first | exact trivial | refine ⟨rfl, ?_⟩))) ?_
| refine y_pure rfl rfl (fun _ => ps_lit1 rfl rfl (by rfl) (by rfl)) (by repeat (first | exact trivial | refine ⟨rfl, ?_⟩)) (by intro y hy; simp [Op.operands] at hy; first | (subst hy; repeat (first | exact trivial | refine ⟨rfl, ?_⟩)) | (rcases hy with rfl | rfl <;> repeat (first | exact trivial | refine ⟨rfl, ?_⟩))) ?_
| refine y_eff rfl rfl (by first | exact trivial | exact .inl ⟨rfl, rfl⟩ | exact .inr (.inl ⟨rfl, rfl⟩) | exact .inr (.inr (.inl ⟨rfl, rfl⟩)) | exact .inr (.inr (.inr (.inl ⟨rfl, rfl⟩)))) (j_lit0T rfl (by decide)) ?_
| refine y_eff rfl rfl (by first | exact trivial | exact .inl ⟨rfl, rfl⟩ | exact .inr (.inl ⟨rfl, rfl⟩) | exact .inr (.inr (.inl ⟨rfl, rfl⟩)) | exact .inr (.inr (.inr (.inl ⟨rfl, rfl⟩)))) (j_pure (ps_assign rfl)) ?_
| refine y_eff rfl rfl (by first | exact trivial | exact .inl ⟨rfl, rfl⟩ | exact .inr (.inl ⟨rfl, rfl⟩) | exact .inr (.inr (.inl ⟨rfl, rfl⟩)) | exact .inr (.inr (.inr (.inl ⟨rfl, rfl⟩)))) (j_append rfl rfl rfl rfl rfl rfl (by first | exact one_one rfl | exact one_map (fun _ => rfl) _) rfl (by first | omega | (simp; done) | (simp; omega)) (by first | omega | (simp; done) | (simp; omega))) ?_); refine ⟨_, (by dsimp only [appJ, killO, bitvec_to_nat, Nat.reduceAdd, Nat.reduceMul, Nat.reduceBEq, reduceCtorEq]), ?_⟩))
    refine g_move 2 1 (by decide) rfl ⟨_, (by dsimp only [mvP, mvA, mv1, mvH, bitvec_to_nat, Nat.reduceAdd, Nat.reduceMul, Nat.reduceBEq, reduceCtorEq]), ?_⟩
    repeat' (first
| refine g_region ?_
| (refine o_go rfl ?_; (first
| refine p_p (ps_move rfl) ?_
| refine p_p (ps_assign rfl) ?_
| refine p_p (ps_add rfl rfl rfl (by constructor <;> omega)) ?_); refine ⟨_, (by dsimp only [bitvec_to_nat, Nat.reduceAdd, Nat.reduceMul, Nat.reduceBEq, reduceCtorEq]), ?_⟩)
| refine o_nil ?_)
    refine k_round (k + 1) (by omega) (by omega) (by repeat (first | exact trivial | refine ⟨.inl rfl, ?_⟩ | refine ⟨.inr rfl, ?_⟩)) ⟨rfl, rfl, trivial⟩ (hpLe_cons rfl (hpLe_cons ?_ (hpLe_nil _)))
    rw [hF, List.map_append, List.map_append]; rfl
  · have hkn' : k = n := by omega
    subst hkn'
    have hlk := (F1 k (Nat.le_refl k)).2
    have hml : ((F k).2.map I).length = k := by rw [List.length_map, hlk]
    repeat' (first
| refine g_seq ?_
| refine g_block ?_
| refine g_region ?_
| (refine o_go rfl ?_; (first
| refine p_e rfl (e_callL (n := 0) rfl rfl rfl (by (repeat (first | refine ⟨leS_refl _, ?_⟩ | refine ⟨leS_nn _ _ _, ?_⟩ | refine ⟨leS_nil _, ?_⟩ | refine ⟨leS_any _, ?_⟩)); exact trivial) rfl (by rfl) (by first | exact ⟨rfl, rfl, rfl, by simp⟩ | exact ⟨rfl, rfl, by simp⟩ | trivial) (hy)) ?_
| refine p_p (ps_move rfl) ?_
| refine p_p (ps_assign rfl) ?_
| refine p_p (ps_lss rfl rfl rfl) ?_
| refine p_p (ps_eql rfl rfl rfl) ?_
| refine p_e rfl (e_append rfl rfl rfl rfl rfl rfl (by first | exact one_one rfl | exact one_map (fun _ => rfl) _) rfl (by first | omega | (simp; done) | (simp; omega)) (by first | omega | (simp; done) | (simp; omega))) ?_
| refine p_p (ps_lit1 rfl rfl (by rfl) (by rfl)) ?_); refine ⟨_, (by dsimp only [bitvec_to_nat, Nat.reduceAdd, Nat.reduceMul, Nat.reduceBEq, reduceCtorEq]), ?_⟩)
| refine o_nil ?_
| (refine g_condD rfl (fun hc => ?_) (fun hc => ?_) <;> try (exfalso; omega))
| refine g_exit ?_
| refine g_ret ?_)
    refine krlh 0 0 rfl rfl rfl (krS rfl ?_)
    simp
set_option maxHeartbeats 2000000 in
set_option maxRecDepth 100000 in
theorem names2_2 {c c1 : Cu} {n : Nat} {m y : Int} {F : Nat → Cu × List Int} (hn : n ≤ 1000) (F0 : F 0 = (c, [])) (F1 : ∀ k, k ≤ n → (F k).1.ok (m + 2 * (k : Int)) ∧ (F k).2.length = k) (F2 : ∀ k, k < n → ∃ x, 0 ≤ x ∧ x ≤ (k : Int) ∧ LCalls Try.prog 45 (cuB (F k).1) [.hat 0 0, I ((((F k).2.map I).length : Int) + 1)] (cuB (F (k + 1)).1) (I x) ∧ (F (k + 1)).2 = (F k).2.take x.toNat ++ [(k : Int)] ++ (F k).2.drop x.toNat)
    (hy : LCalls Try.prog 45 (cuB (F n).1) [.hat 0 0, I 24] (cuB c1) (I y)) (e0 : y ≠ 0) (e1 : y ≠ 1 ∨ n = 0) : LCalls Try.prog 65 (cuB c) [.hat 0 0, I (n : Int)] (cuB c1) (ints (F n).2) := by
  refine pcallsL1 Try.func65 rfl Try.ntmps65 rfl rfl rfl (by simp) fun b d => ?_
  simp only [List.length_cons, List.length_nil, Nat.reduceAdd, Nat.reduceSub, List.replicate_succ, List.replicate_zero]
  repeat' (first
| refine g_seq ?_
| refine g_block ?_
| refine g_region ?_
| (refine o_go rfl ?_; (first
| refine p_e rfl (e_lit0T rfl (by decide)) ?_
| refine p_p (ps_assign rfl) ?_); refine ⟨_, (by dsimp only [bitvec_to_nat, Nat.reduceAdd, Nat.reduceMul, Nat.reduceBEq, reduceCtorEq]), ?_⟩)
| refine o_nil ?_)
  refine g_loopF (α := Nat) [8] (fun k => [(5, .hp 1), (6, I (k : Int))]) (fun k => [cuB (F k).1, .arr true 1 3 ((F k).2.map I)]) (fun k => k ≤ n) (fun k => n - k) 0 (by simp only [havoc, dsts, List.filterMap_cons, List.filterMap_nil, List.foldl_cons, List.foldl_nil, List.cons_append, List.nil_append, List.append_nil, List.set_cons_succ, List.set_cons_zero]; exact rfl) (Nat.zero_le _) ⟨rfl, rfl, trivial⟩ (by rw [F0]; rfl) ?_
  rintro k hk
  dsimp only [setMany, List.set_cons_zero, List.set_cons_succ]
  by_cases hkn : k < n
  · obtain ⟨x, x0, x1, hpk, hF⟩ := F2 k hkn
    have hlk := (F1 k hk).2
    have hml : ((F k).2.map I).length = k := by rw [List.length_map, hlk]
    repeat' (first
| refine g_seq ?_
| refine g_block ?_
| refine g_region ?_
| (refine o_go rfl ?_; (first
| refine p_e rfl (e_callL (n := 0) rfl rfl rfl (by (repeat (first | refine ⟨leS_refl _, ?_⟩ | refine ⟨leS_nn _ _ _, ?_⟩ | refine ⟨leS_nil _, ?_⟩ | refine ⟨leS_any _, ?_⟩)); exact trivial) rfl (by rfl) (by first | exact ⟨rfl, rfl, rfl, by simp⟩ | exact ⟨rfl, rfl, by simp⟩ | trivial) (hpk)) ?_
| refine p_p (ps_move rfl) ?_
| refine p_p (ps_assign rfl) ?_
| refine p_p (ps_lss rfl rfl rfl) ?_
| refine p_p (ps_add rfl rfl rfl (by constructor <;> omega)) ?_
| refine p_p (ps_len_mut rfl rfl rfl rfl) ?_); refine ⟨_, (by dsimp only [bitvec_to_nat, Nat.reduceAdd, Nat.reduceMul, Nat.reduceBEq, reduceCtorEq]), ?_⟩)
| refine o_nil ?_
| (refine g_condD rfl (fun hc => ?_) (fun hc => ?_) <;> try (exfalso; omega))
| refine g_skip ?_)
    refine g_freezeP 1 rfl ⟨_, (by dsimp only [bitvec_to_nat, Nat.reduceAdd, Nat.reduceMul, Nat.reduceBEq, reduceCtorEq]), ?_⟩
    refine g_view1 5 ⟨_, (by dsimp only [bitvec_to_nat, Nat.reduceAdd, Nat.reduceMul, Nat.reduceBEq, reduceCtorEq]), ?_⟩
    refine g_region_drawY [(1, some [2]), (2, some [2]), (3, some [2]), (5, some [2]), (6, some [2]), (8, some [2]), (9, some [2]), (10, some [2]), (0, none), (4, none), (7, none), (11, none), (12, none)] [(0, 2), (4, 2), (7, 2), (11, 2)] (by kernel_rfl) rfl (by kernel_rfl) ?_
    repeat' (first
| refine y_nil ?_
| ((first
| refine y_pure rfl rfl (fun _ => ps_sliceToM rfl rfl rfl (by omega) (by omega)) (by repeat (first | exact trivial | refine ⟨rfl, ?_⟩)) (by intro y hy; simp [Op.operands] at hy; first | (subst hy; repeat (first | exact trivial | refine ⟨rfl, ?_⟩)) | (rcases hy with rfl | rfl <;> repeat (first | exact trivial | refine ⟨rfl, ?_⟩))) ?_
| refine y_pure rfl rfl (fun _ => ps_sliceFromM rfl rfl rfl (by omega) (by omega)) (by repeat (first | exact trivial | refine ⟨rfl, ?_⟩)) (by intro y hy; simp [Op.operands] at hy; first | (subst hy; repeat (first | exact trivial | refine ⟨rfl, ?_⟩)) | (rcases hy with rfl | rfl <;> repeat (first | exact trivial | refine ⟨rfl, ?_⟩))) ?_
| refine y_pure rfl rfl (fun _ => ps_move rfl) (by repeat (first | exact trivial | refine ⟨rfl, ?_⟩)) (by intro y hy; simp [Op.operands] at hy; first | (subst hy; repeat (first | exact trivial | refine ⟨rfl, ?_⟩)) | (rcases hy with rfl | rfl <;> repeat (first | exact trivial | refine ⟨rfl, ?_⟩))) ?_
| refine y_pure rfl rfl (fun _ => ps_lit1 rfl rfl (by rfl) (by rfl)) (by repeat (first | exact trivial | refine ⟨rfl, ?_⟩)) (by intro y hy; simp [Op.operands] at hy; first | (subst hy; repeat (first | exact trivial | refine ⟨rfl, ?_⟩)) | (rcases hy with rfl | rfl <;> repeat (first | exact trivial | refine ⟨rfl, ?_⟩))) ?_
| refine y_eff rfl rfl (by first | exact trivial | exact .inl ⟨rfl, rfl⟩ | exact .inr (.inl ⟨rfl, rfl⟩) | exact .inr (.inr (.inl ⟨rfl, rfl⟩)) | exact .inr (.inr (.inr (.inl ⟨rfl, rfl⟩)))) (j_lit0T rfl (by decide)) ?_
| refine y_eff rfl rfl (by first | exact trivial | exact .inl ⟨rfl, rfl⟩ | exact .inr (.inl ⟨rfl, rfl⟩) | exact .inr (.inr (.inl ⟨rfl, rfl⟩)) | exact .inr (.inr (.inr (.inl ⟨rfl, rfl⟩)))) (j_pure (ps_assign rfl)) ?_
| refine y_eff rfl rfl (by first | exact trivial | exact .inl ⟨rfl, rfl⟩ | exact .inr (.inl ⟨rfl, rfl⟩) | exact .inr (.inr (.inl ⟨rfl, rfl⟩)) | exact .inr (.inr (.inr (.inl ⟨rfl, rfl⟩)))) (j_append rfl rfl rfl rfl rfl rfl (by first | exact one_one rfl | exact one_map (fun _ => rfl) _) rfl (by first | omega | (simp; done) | (simp; omega)) (by first | omega | (simp; done) | (simp; omega))) ?_); refine ⟨_, (by dsimp only [appJ, killO, bitvec_to_nat, Nat.reduceAdd, Nat.reduceMul, Nat.reduceBEq, reduceCtorEq]), ?_⟩))
    refine g_move 2 1 (by decide) rfl ⟨_, (by dsimp only [mvP, mvA, mv1, mvH, bitvec_to_nat, Nat.reduceAdd, Nat.reduceMul, Nat.reduceBEq, reduceCtorEq]), ?_⟩
    repeat' (first
| refine g_region ?_
| (refine o_go rfl ?_; (first
| refine p_p (ps_move rfl) ?_
| refine p_p (ps_assign rfl) ?_
| refine p_p (ps_add rfl rfl rfl (by constructor <;> omega)) ?_); refine ⟨_, (by dsimp only [bitvec_to_nat, Nat.reduceAdd, Nat.reduceMul, Nat.reduceBEq, reduceCtorEq]), ?_⟩)
| refine o_nil ?_)
    refine k_round (k + 1) (by omega) (by omega) (by repeat (first | exact trivial | refine ⟨.inl rfl, ?_⟩ | refine ⟨.inr rfl, ?_⟩)) ⟨rfl, rfl, trivial⟩ (hpLe_cons rfl (hpLe_cons ?_ (hpLe_nil _)))
    rw [hF, List.map_append, List.map_append]; rfl
  · have hkn' : k = n := by omega
    subst hkn'
    repeat' (first
| refine g_seq ?_
| refine g_block ?_
| refine g_region ?_
| (refine o_go rfl ?_; (first
| refine p_e rfl (e_callL (n := 0) rfl rfl rfl (by (repeat (first | refine ⟨leS_refl _, ?_⟩ | refine ⟨leS_nn _ _ _, ?_⟩ | refine ⟨leS_nil _, ?_⟩ | refine ⟨leS_any _, ?_⟩)); exact trivial) rfl (by rfl) (by first | exact ⟨rfl, rfl, rfl, by simp⟩ | exact ⟨rfl, rfl, by simp⟩ | trivial) (hy)) ?_
| refine p_p (ps_move rfl) ?_
| refine p_p (ps_assign rfl) ?_
| refine p_p (ps_lss rfl rfl rfl) ?_
| refine p_p (ps_gtr rfl rfl rfl) ?_
| refine p_p (ps_eql rfl rfl rfl) ?_); refine ⟨_, (by dsimp only [bitvec_to_nat, Nat.reduceAdd, Nat.reduceMul, Nat.reduceBEq, reduceCtorEq]), ?_⟩)
| refine o_nil ?_
| (refine g_condD rfl (fun hc => ?_) (fun hc => ?_) <;> try (exfalso; omega))
| refine g_skip ?_
| refine g_exit ?_
| refine g_ret ?_)
    all_goals first | exact krlh 0 0 rfl rfl rfl (krS rfl rfl) | (exfalso; omega)
set_option maxHeartbeats 2000000 in
set_option maxRecDepth 100000 in
theorem names2_1 {c c1 c2 c3 : Cu} {n : Nat} {m y z v : Int} {F : Nat → Cu × List Int} (hn : n ≤ 1000) (F0 : F 0 = (c, [])) (F1 : ∀ k, k ≤ n → (F k).1.ok (m + 2 * (k : Int)) ∧ (F k).2.length = k) (F2 : ∀ k, k < n → ∃ x, 0 ≤ x ∧ x ≤ (k : Int) ∧ LCalls Try.prog 45 (cuB (F k).1) [.hat 0 0, I ((((F k).2.map I).length : Int) + 1)] (cuB (F (k + 1)).1) (I x) ∧ (F (k + 1)).2 = (F k).2.take x.toNat ++ [(k : Int)] ++ (F k).2.drop x.toNat)
    (hy : LCalls Try.prog 45 (cuB (F n).1) [.hat 0 0, I 24] (cuB c1) (I y)) (e1 : y = 1) (h0 : 0 < n) (z0 : 0 ≤ z) (z1 : z < (n : Int)) (hz : LCalls Try.prog 45 (cuB c1) [.hat 0 0, I (n : Int)] (cuB c2) (I z)) (hv : LCalls Try.prog 48 (cuB c2) [.hat 0 0, ints [0, -1, (n : Int)]] (cuB c3) (I v)) :
    LCalls Try.prog 65 (cuB c) [.hat 0 0, I (n : Int)] (cuB c3) (ints ((F n).2.set z.toNat v)) := by
  refine pcallsL1 Try.func65 rfl Try.ntmps65 rfl rfl rfl (by simp) fun b d => ?_
  simp only [List.length_cons, List.length_nil, Nat.reduceAdd, Nat.reduceSub, List.replicate_succ, List.replicate_zero]
  repeat' (first
| refine g_seq ?_
| refine g_block ?_
| refine g_region ?_
| (refine o_go rfl ?_; (first
| refine p_e rfl (e_lit0T rfl (by decide)) ?_
| refine p_p (ps_assign rfl) ?_); refine ⟨_, (by dsimp only [bitvec_to_nat, Nat.reduceAdd, Nat.reduceMul, Nat.reduceBEq, reduceCtorEq]), ?_⟩)
| refine o_nil ?_)
  refine g_loopF (α := Nat) [8] (fun k => [(5, .hp 1), (6, I (k : Int))]) (fun k => [cuB (F k).1, .arr true 1 3 ((F k).2.map I)]) (fun k => k ≤ n) (fun k => n - k) 0 (by simp only [havoc, dsts, List.filterMap_cons, List.filterMap_nil, List.foldl_cons, List.foldl_nil, List.cons_append, List.nil_append, List.append_nil, List.set_cons_succ, List.set_cons_zero]; exact rfl) (Nat.zero_le _) ⟨rfl, rfl, trivial⟩ (by rw [F0]; rfl) ?_
  rintro k hk
  dsimp only [setMany, List.set_cons_zero, List.set_cons_succ]
  by_cases hkn : k < n
  · obtain ⟨x, x0, x1, hpk, hF⟩ := F2 k hkn
    have hlk := (F1 k hk).2
    have hml : ((F k).2.map I).length = k := by rw [List.length_map, hlk]
    repeat' (first
| refine g_seq ?_
| refine g_block ?_
| refine g_region ?_
| (refine o_go rfl ?_; (first
| refine p_e rfl (e_callL (n := 0) rfl rfl rfl (by (repeat (first | refine ⟨leS_refl _, ?_⟩ | refine ⟨leS_nn _ _ _, ?_⟩ | refine ⟨leS_nil _, ?_⟩ | refine ⟨leS_any _, ?_⟩)); exact trivial) rfl (by rfl) (by first | exact ⟨rfl, rfl, rfl, by simp⟩ | exact ⟨rfl, rfl, by simp⟩ | trivial) (hpk)) ?_
| refine p_p (ps_move rfl) ?_
| refine p_p (ps_assign rfl) ?_
| refine p_p (ps_lss rfl rfl rfl) ?_
| refine p_p (ps_add rfl rfl rfl (by constructor <;> omega)) ?_
| refine p_p (ps_len_mut rfl rfl rfl rfl) ?_); refine ⟨_, (by dsimp only [bitvec_to_nat, Nat.reduceAdd, Nat.reduceMul, Nat.reduceBEq, reduceCtorEq]), ?_⟩)
| refine o_nil ?_
| (refine g_condD rfl (fun hc => ?_) (fun hc => ?_) <;> try (exfalso; omega))
| refine g_skip ?_)
    refine g_freezeP 1 rfl ⟨_, (by dsimp only [bitvec_to_nat, Nat.reduceAdd, Nat.reduceMul, Nat.reduceBEq, reduceCtorEq]), ?_⟩
    refine g_view1 5 ⟨_, (by dsimp only [bitvec_to_nat, Nat.reduceAdd, Nat.reduceMul, Nat.reduceBEq, reduceCtorEq]), ?_⟩
    refine g_region_drawY [(1, some [2]), (2, some [2]), (3, some [2]), (5, some [2]), (6, some [2]), (8, some [2]), (9, some [2]), (10, some [2]), (0, none), (4, none), (7, none), (11, none), (12, none)] [(0, 2), (4, 2), (7, 2), (11, 2)] (by kernel_rfl) rfl (by kernel_rfl) ?_
    repeat' (first
| refine y_nil ?_
| ((first
| refine y_pure rfl rfl (fun _ => ps_sliceToM rfl rfl rfl (by omega) (by omega)) (by repeat (first | exact trivial | refine ⟨rfl, ?_⟩)) (by intro y hy; simp [Op.operands] at hy; first | (subst hy; repeat (first | exact trivial | refine ⟨rfl, ?_⟩)) | (rcases hy with rfl | rfl <;> repeat (first | exact trivial | refine ⟨rfl, ?_⟩))) ?_
| refine y_pure rfl rfl (fun _ => ps_sliceFromM rfl rfl rfl (by omega) (by omega)) (by repeat (first | exact trivial | refine ⟨rfl, ?_⟩)) (by intro y hy; simp [Op.operands] at hy; first | (subst hy; repeat (first | exact trivial | refine ⟨rfl, ?_⟩)) | (rcases hy with rfl | rfl <;> repeat (first | exact trivial | refine ⟨rfl, ?_⟩))) ?_
| refine y_pure rfl rfl (fun _ => ps_move rfl) (by repeat (first | exact trivial | refine ⟨rfl, ?_⟩)) (by intro y hy; simp [Op.operands] at hy; first | (subst hy; repeat (first | exact trivial | refine ⟨rfl, ?_⟩)) | (rcases hy with rfl | rfl <;> repeat (first | exact trivial | refine ⟨rfl, ?_⟩))) ?_
| refine y_pure rfl rfl (fun _ => ps_lit1 rfl rfl (by rfl) (by rfl)) (by repeat (first | exact trivial | refine ⟨rfl, ?_⟩)) (by intro y hy; simp [Op.operands] at hy; first | (subst hy; repeat (first | exact trivial | refine ⟨rfl, ?_⟩)) | (rcases hy with rfl | rfl <;> repeat (first | exact trivial | refine ⟨rfl, ?_⟩))) ?_
| refine y_eff rfl rfl (by first | exact trivial | exact .inl ⟨rfl, rfl⟩ | exact .inr (.inl ⟨rfl, rfl⟩) | exact .inr (.inr (.inl ⟨rfl, rfl⟩)) | exact .inr (.inr (.inr (.inl ⟨rfl, rfl⟩)))) (j_lit0T rfl (by decide)) ?_
| refine y_eff rfl rfl (by first | exact trivial | exact .inl ⟨rfl, rfl⟩ | exact .inr (.inl ⟨rfl, rfl⟩) | exact .inr (.inr (.inl ⟨rfl, rfl⟩)) | exact .inr (.inr (.inr (.inl ⟨rfl, rfl⟩)))) (j_pure (ps_assign rfl)) ?_
| refine y_eff rfl rfl (by first | exact trivial | exact .inl ⟨rfl, rfl⟩ | exact .inr (.inl ⟨rfl, rfl⟩) | exact .inr (.inr (.inl ⟨rfl, rfl⟩)) | exact .inr (.inr (.inr (.inl ⟨rfl, rfl⟩)))) (j_append rfl rfl rfl rfl rfl rfl (by first | exact one_one rfl | exact one_map (fun _ => rfl) _) rfl (by first | omega | (simp; done) | (simp; omega)) (by first | omega | (simp; done) | (simp; omega))) ?_); refine ⟨_, (by dsimp only [appJ, killO, bitvec_to_nat, Nat.reduceAdd, Nat.reduceMul, Nat.reduceBEq, reduceCtorEq]), ?_⟩))
    refine g_move 2 1 (by decide) rfl ⟨_, (by dsimp only [mvP, mvA, mv1, mvH, bitvec_to_nat, Nat.reduceAdd, Nat.reduceMul, Nat.reduceBEq, reduceCtorEq]), ?_⟩
    repeat' (first
| refine g_region ?_
| (refine o_go rfl ?_; (first
| refine p_p (ps_move rfl) ?_
| refine p_p (ps_assign rfl) ?_
| refine p_p (ps_add rfl rfl rfl (by constructor <;> omega)) ?_); refine ⟨_, (by dsimp only [bitvec_to_nat, Nat.reduceAdd, Nat.reduceMul, Nat.reduceBEq, reduceCtorEq]), ?_⟩)
| refine o_nil ?_)
    refine k_round (k + 1) (by omega) (by omega) (by repeat (first | exact trivial | refine ⟨.inl rfl, ?_⟩ | refine ⟨.inr rfl, ?_⟩)) ⟨rfl, rfl, trivial⟩ (hpLe_cons rfl (hpLe_cons ?_ (hpLe_nil _)))
    rw [hF, List.map_append, List.map_append]; rfl
  · have hkn' : k = n := by omega
    subst hkn'
    have hlk := (F1 k (Nat.le_refl k)).2
    have hml : ((F k).2.map I).length = k := by rw [List.length_map, hlk]
    repeat' (first
| refine g_seq ?_
| refine g_block ?_
| refine g_region ?_
| (refine o_go rfl ?_; (first
| refine p_e rfl (e_callL (n := 0) rfl rfl rfl (by (repeat (first | refine ⟨leS_refl _, ?_⟩ | refine ⟨leS_nn _ _ _, ?_⟩ | refine ⟨leS_nil _, ?_⟩ | refine ⟨leS_any _, ?_⟩)); exact trivial) rfl (by rfl) (by first | exact ⟨rfl, rfl, rfl, by simp⟩ | exact ⟨rfl, rfl, by simp⟩ | trivial) (hy)) ?_
| refine p_e rfl (e_callL (n := 0) rfl rfl rfl (by (repeat (first | refine ⟨leS_refl _, ?_⟩ | refine ⟨leS_nn _ _ _, ?_⟩ | refine ⟨leS_nil _, ?_⟩ | refine ⟨leS_any _, ?_⟩)); exact trivial) rfl (by rfl) (by first | exact ⟨rfl, rfl, rfl, by simp⟩ | exact ⟨rfl, rfl, by simp⟩ | trivial) (hz)) ?_
| refine p_e rfl (e_callL (n := 0) rfl rfl rfl (by (repeat (first | refine ⟨leS_refl _, ?_⟩ | refine ⟨leS_nn _ _ _, ?_⟩ | refine ⟨leS_nil _, ?_⟩ | refine ⟨leS_any _, ?_⟩)); exact trivial) rfl (by rfl) (by first | exact ⟨rfl, rfl, rfl, by simp⟩ | exact ⟨rfl, rfl, by simp⟩ | trivial) (hv)) ?_
| refine p_p (ps_move rfl) ?_
| refine p_p (ps_assign rfl) ?_
| refine p_p (ps_lss rfl rfl rfl) ?_
| refine p_p (ps_gtr rfl rfl rfl) ?_
| refine p_p (ps_eql rfl rfl rfl) ?_
| refine p_p (ps_index_mut rfl rfl rfl rfl (by omega) (by first | omega | (simp; done) | (simp; omega))) ?_
| refine p_e rfl (e_store_arr rfl rfl rfl rfl (by first | omega | (simp; done) | (simp; omega)) rfl rfl) ?_
| refine p_p (ps_lit3 rfl rfl rfl rfl (by rfl) (by rfl) (by rfl) (by rfl)) ?_); refine ⟨_, (by dsimp only [bitvec_to_nat, Nat.reduceAdd, Nat.reduceMul, Nat.reduceBEq, reduceCtorEq]), ?_⟩)
| refine o_nil ?_
| (refine g_condD rfl (fun hc => ?_) (fun hc => ?_) <;> try (exfalso; omega))
| refine g_exit ?_
| refine g_ret ?_)
    refine krlh 0 0 rfl rfl rfl (krS rfl ?_)
    rw [Nat.mul_one, List.map_set]
theorem Cu.ok.le {c : Cu} {m m' : Int} (h : c.ok m) (hm : m ≤ m') : c.ok m' := ⟨h.len, h.byte, h.lo, Int.le_trans h.hi hm, h.sd0⟩
theorem names2_L {c : Cu} {m : Int} (h : c.ok m) (hm : m ≤ 900000) (n : Nat) (hn : n ≤ 1000) : ∃ c' out, c'.ok (m + 2 * (n : Int) + 6) ∧ out.length ≤ n + 1 ∧ LCalls Try.prog 65 (cuB c) [.hat 0 0, I (n : Int)] (cuB c') (ints out) := by
  obtain ⟨F, F0, F1, F2⟩ := names_seq h n hn hm
  obtain ⟨c1, y, k1, y0, -, hy⟩ := pick_L (F1 n (Nat.le_refl n)).1 (by omega) 24 (by omega)
  have hlen := (F1 n (Nat.le_refl n)).2
  by_cases e0 : y = 0
  · exact ⟨c1, _, k1.le (by omega), by simp [hlen], names2_0 hn F0 F1 F2 hy e0⟩
  · by_cases e1 : y ≠ 1 ∨ n = 0
    · exact ⟨c1, _, k1.le (by omega), by omega, names2_2 hn F0 F1 F2 hy e0 e1⟩
    · obtain ⟨c2, z, k2, z0, z1, hz⟩ := pick_L k1 (by omega) (n : Int) (by omega)
      obtain ⟨c3, v, k3, -, hv⟩ := among_L k2 (by omega) [0, -1, (n : Int)] (by simp) (by simp)
      exact ⟨c3, _, k3.le (by omega), by rw [List.length_set]; omega, names2_1 hn F0 F1 F2 hy (by omega) (by omega) z0 (by omega) hz hv⟩
end Go.Proofs.Ytbfmjknngofleaa
