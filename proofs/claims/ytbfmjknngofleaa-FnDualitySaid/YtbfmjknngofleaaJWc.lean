/- Walks: drawn lattices that are mostly distributive. -/
import Derived.Test.YtbfmjknngofleaaJWb
import Derived.Test.YtbfmjknngofleaaJAz
namespace Go.Proofs.Ytbfmjknngofleaa
open Go Go.Pv Go.Proofs
attribute [local bitvec_to_nat] St.put St.setObj St.ev killP killA killP1 killH mapHO renP renA ren1 killG killGA killG1 krowP krowA krow1 lendP lendA lend1 unv pinP pin1 elemsM viewM viewN viewV n_set_z n_set_s n_map_c n_map_n getD_z getD_s n_toNat n_cond_t n_cond_f n_len_c n_len_n n_app_c n_app_n n_take_s n_take_z n_drop_s n_drop_z n_get_z n_get_s view viewA view1 elems Nat.zero_add Nat.add_zero Bool.not_true Bool.not_false Nat.one_ne_zero Nat.mul_one

def goodD (rows : List (List Int)) : Bool := goodL rows && !(uneven3 rows).isSome
set_option maxHeartbeats 2000000 in
set_option maxRecDepth 100000 in
theorem distr_w1 {c c1 c' : Cu} {rows : List (List Int)} (h1 : LCalls Try.prog 41 (cuB c) [.hat 0 0, I 6] (cuB c1) (B true)) (h2 : LCalls Try.prog 39 (cuB c1) [.hat 0 0] (cuB c') (posetP rows)) :
    LCalls Try.prog 18 (cuB c) [.hat 0 0] (cuB c') (posetP rows) := by
  refine pcallsLC Try.func18 rfl Try.ntmps18 rfl rfl rfl (by simp) fun b d => ?_
  simp only [List.length_cons, List.length_nil, Nat.reduceAdd, Nat.reduceSub, List.replicate_succ, List.replicate_zero]
  repeat' (first
| refine g_seq ?_
| refine g_region ?_
| (refine o_go rfl ?_; (first
| refine p_e rfl (e_callL (n := 0) rfl rfl rfl (by (repeat (first | refine ⟨leS_refl _, ?_⟩ | refine ⟨leS_nn _ _ _, ?_⟩ | refine ⟨leS_nil _, ?_⟩ | refine ⟨leS_any _, ?_⟩)); exact trivial) rfl (by rfl) (by first | exact ⟨rfl, rfl, rfl, by simp⟩ | exact ⟨rfl, rfl, by simp⟩ | trivial) (h1)) ?_
| refine p_e rfl (e_callL (n := 0) rfl rfl rfl (by (repeat (first | refine ⟨leS_refl _, ?_⟩ | refine ⟨leS_nn _ _ _, ?_⟩ | refine ⟨leS_nil _, ?_⟩ | refine ⟨leS_any _, ?_⟩)); exact trivial) rfl (by rfl) (by first | exact ⟨rfl, rfl, rfl, by simp⟩ | exact ⟨rfl, rfl, by simp⟩ | trivial) (h2)) ?_
| refine p_p (ps_move rfl) ?_
| refine p_e rfl (e_store_boxA rfl rfl rfl rfl (by exact Nat.le_of_ble_eq_true rfl) rfl rfl rfl) ?_
| refine p_e rfl (e_alloc rfl) ?_); refine ⟨_, (by dsimp only [bitvec_to_nat, Nat.reduceAdd, Nat.reduceMul, Nat.reduceBEq, reduceCtorEq]), ?_⟩)
| refine o_nil ?_
| refine g_condT rfl ?_
| refine g_ret ?_)
  change KRLC _ _ _ _ _ _ .ret _
  exact krlc 0 0 rfl rfl rfl (krC rfl (by exact Nat.le_of_ble_eq_true rfl) rfl)
set_option maxHeartbeats 2000000 in
set_option maxRecDepth 100000 in
theorem distr_w2 {c : Cu} {D : Nat → Cu} {R : Nat → List (List Int)} {N : Nat} (h1 : LCalls Try.prog 41 (cuB c) [.hat 0 0, I 6] (cuB (D 0)) (B false)) (hN : N < 6) (h2 : ∀ k, k < 6 → okP (R k) ∧ LCalls Try.prog 39 (cuB (D k)) [.hat 0 0] (cuB (D (k + 1))) (posetP (R k)))
    (h3 : ∀ k, k < N → goodD (R k) = false) (h4 : goodD (R N) = true) : LCalls Try.prog 18 (cuB c) [.hat 0 0] (cuB (D (N + 1))) (posetP (R N)) := by
  refine pcallsLC Try.func18 rfl Try.ntmps18 rfl rfl rfl (by simp) fun b d => ?_
  simp only [List.length_cons, List.length_nil, Nat.reduceAdd, Nat.reduceSub, List.replicate_succ, List.replicate_zero]
  repeat' (first
| refine g_seq ?_
| refine g_block ?_
| refine g_region ?_
| (refine o_go rfl ?_; (first
| refine p_e rfl (e_callL (n := 0) rfl rfl rfl (by (repeat (first | refine ⟨leS_refl _, ?_⟩ | refine ⟨leS_nn _ _ _, ?_⟩ | refine ⟨leS_nil _, ?_⟩ | refine ⟨leS_any _, ?_⟩)); exact trivial) rfl (by rfl) (by first | exact ⟨rfl, rfl, rfl, by simp⟩ | exact ⟨rfl, rfl, by simp⟩ | trivial) (h1)) ?_
| refine p_p (ps_move rfl) ?_
| refine p_p (ps_assign rfl) ?_
| refine p_e rfl (e_alloc rfl) ?_); refine ⟨_, (by dsimp only [bitvec_to_nat, Nat.reduceAdd, Nat.reduceMul, Nat.reduceBEq, reduceCtorEq]), ?_⟩)
| refine o_nil ?_
| refine g_condF rfl ?_
| refine g_skip ?_)
  refine g_loopT (α := Nat) (fun k => [(3, I (k : Int))]) (fun k => [cuB (D k), .box [nilV]]) (fun k => k ≤ N) (fun k => N - k) 0 (by simp only [havoc, dsts, List.filterMap_cons, List.filterMap_nil, List.foldl_cons, List.foldl_nil, List.cons_append, List.nil_append, List.append_nil, List.set_cons_succ, List.set_cons_zero]; exact rfl) (Nat.zero_le _) ⟨rfl, trivial⟩ rfl ?_
  rintro k hk
  dsimp only [setMany, List.set_cons_zero, List.set_cons_succ]
  obtain ⟨hok, h2k⟩ := h2 k (by omega)
  have hg := sgoodD_c (R k) hok
  by_cases hkN : k < N
  · rw [show (goodL (R k) && !(uneven3 (R k)).isSome) = false from h3 k hkN] at hg
    repeat' (first
| refine g_seq ?_
| refine g_block ?_
| refine g_region ?_
| (refine o_go rfl ?_; (first
| refine p_e rfl (e_callL (n := 0) rfl rfl rfl (by (repeat (first | refine ⟨leS_refl _, ?_⟩ | refine ⟨leS_nn _ _ _, ?_⟩ | refine ⟨leS_nil _, ?_⟩ | refine ⟨leS_any _, ?_⟩)); exact trivial) rfl (by rfl) (by first | exact ⟨rfl, rfl, rfl, by simp⟩ | exact ⟨rfl, rfl, by simp⟩ | trivial) (h2k)) ?_
| refine p_p (ps_call rfl rfl (by (repeat (first | refine ⟨PV.le_refl _, ?_⟩ | refine ⟨PV.le_nn _ _ _, ?_⟩ | refine ⟨PV.le_nil _, ?_⟩ | refine ⟨PV.le_any _, ?_⟩)); exact trivial) (hg)) ?_
| refine p_p (ps_move rfl) ?_
| refine p_p (ps_assign rfl) ?_
| refine p_p (ps_lss rfl rfl rfl) ?_
| refine p_p (ps_add rfl rfl rfl (by constructor <;> omega)) ?_
| refine p_p (ps_load_boxA rfl rfl rfl (by exact Nat.le_of_ble_eq_true rfl)) ?_
| refine p_e rfl (e_store_boxA rfl rfl rfl rfl (by exact Nat.le_of_ble_eq_true rfl) rfl rfl rfl) ?_
| refine p_e rfl (e_alloc rfl) ?_); refine ⟨_, (by dsimp only [bitvec_to_nat, Nat.reduceAdd, Nat.reduceMul, Nat.reduceBEq, reduceCtorEq]), ?_⟩)
| refine o_nil ?_
| refine g_condF rfl ?_
| (refine g_condD rfl (fun hc => ?_) (fun hc => ?_) <;> try (exfalso; omega))
| refine g_skip ?_)
    all_goals try (exfalso; omega)
    exact k_round (k + 1) (by omega) (by omega) (by repeat (first | exact trivial | refine ⟨.inl rfl, ?_⟩ | refine ⟨.inr rfl, ?_⟩)) ⟨rfl, trivial⟩ (hpLe_cons rfl (hpLe_cons rfl (hpLe_nil _)))
  · have hke : k = N := by omega
    subst hke
    rw [show (goodL (R k) && !(uneven3 (R k)).isSome) = true from h4] at hg
    repeat' (first
| refine g_seq ?_
| refine g_block ?_
| refine g_region ?_
| (refine o_go rfl ?_; (first
| refine p_e rfl (e_callL (n := 0) rfl rfl rfl (by (repeat (first | refine ⟨leS_refl _, ?_⟩ | refine ⟨leS_nn _ _ _, ?_⟩ | refine ⟨leS_nil _, ?_⟩ | refine ⟨leS_any _, ?_⟩)); exact trivial) rfl (by rfl) (by first | exact ⟨rfl, rfl, rfl, by simp⟩ | exact ⟨rfl, rfl, by simp⟩ | trivial) (h2k)) ?_
| refine p_p (ps_call rfl rfl (by (repeat (first | refine ⟨PV.le_refl _, ?_⟩ | refine ⟨PV.le_nn _ _ _, ?_⟩ | refine ⟨PV.le_nil _, ?_⟩ | refine ⟨PV.le_any _, ?_⟩)); exact trivial) (hg)) ?_
| refine p_p (ps_move rfl) ?_
| refine p_p (ps_lss rfl rfl rfl) ?_
| refine p_p (ps_load_boxA rfl rfl rfl (by exact Nat.le_of_ble_eq_true rfl)) ?_
| refine p_e rfl (e_store_boxA rfl rfl rfl rfl (by exact Nat.le_of_ble_eq_true rfl) rfl rfl rfl) ?_
| refine p_e rfl (e_alloc rfl) ?_); refine ⟨_, (by dsimp only [bitvec_to_nat, Nat.reduceAdd, Nat.reduceMul, Nat.reduceBEq, reduceCtorEq]), ?_⟩)
| refine o_nil ?_
| refine g_condT rfl ?_
| (refine g_condD rfl (fun hc => ?_) (fun hc => ?_) <;> try (exfalso; omega))
| refine g_skip ?_
| refine g_ret ?_)
    all_goals try (exfalso; omega)
    change KRLC _ _ _ _ _ _ .ret _
    exact krlc 0 0 rfl rfl rfl (krC rfl (by exact Nat.le_of_ble_eq_true rfl) rfl)
set_option maxHeartbeats 2000000 in
set_option maxRecDepth 100000 in
theorem distr_w3 {c c' : Cu} {D : Nat → Cu} {R : Nat → List (List Int)} {Q : List (List Int)} (h1 : LCalls Try.prog 41 (cuB c) [.hat 0 0, I 6] (cuB (D 0)) (B false)) (h2 : ∀ k, k < 6 → okP (R k) ∧ LCalls Try.prog 39 (cuB (D k)) [.hat 0 0] (cuB (D (k + 1))) (posetP (R k)))
    (h3 : ∀ k, k < 6 → goodD (R k) = false) (h4 : LCalls Try.prog 43 (cuB (D 6)) [.hat 0 0] (cuB c') (posetP Q)) (hQ : okP Q) : LCalls Try.prog 18 (cuB c) [.hat 0 0] (cuB c') (posetP (if dlB Q = true then dlV Q else knV 3)) := by
  cases hd : dlB Q with
  | true =>
    rw [if_pos rfl]
    have hdl := sdlT_c Q hQ hd
    refine pcallsLC Try.func18 rfl Try.ntmps18 rfl rfl rfl (by simp) fun b d => ?_
    simp only [List.length_cons, List.length_nil, Nat.reduceAdd, Nat.reduceSub, List.replicate_succ, List.replicate_zero]
    repeat' (first
| refine g_seq ?_
| refine g_block ?_
| refine g_region ?_
| (refine o_go rfl ?_; (first
| refine p_e rfl (e_callL (n := 0) rfl rfl rfl (by (repeat (first | refine ⟨leS_refl _, ?_⟩ | refine ⟨leS_nn _ _ _, ?_⟩ | refine ⟨leS_nil _, ?_⟩ | refine ⟨leS_any _, ?_⟩)); exact trivial) rfl (by rfl) (by first | exact ⟨rfl, rfl, rfl, by simp⟩ | exact ⟨rfl, rfl, by simp⟩ | trivial) (h1)) ?_
| refine p_p (ps_move rfl) ?_
| refine p_p (ps_assign rfl) ?_
| refine p_e rfl (e_alloc rfl) ?_); refine ⟨_, (by dsimp only [bitvec_to_nat, Nat.reduceAdd, Nat.reduceMul, Nat.reduceBEq, reduceCtorEq]), ?_⟩)
| refine o_nil ?_
| refine g_condF rfl ?_
| refine g_skip ?_)
    refine g_loopT (α := Nat) (fun k => [(3, I (k : Int))]) (fun k => [cuB (D k), .box [nilV]]) (fun k => k ≤ 6) (fun k => 6 - k) 0 (by simp only [havoc, dsts, List.filterMap_cons, List.filterMap_nil, List.foldl_cons, List.foldl_nil, List.cons_append, List.nil_append, List.append_nil, List.set_cons_succ, List.set_cons_zero]; exact rfl) (Nat.zero_le _) ⟨rfl, trivial⟩ rfl ?_
    rintro k hk
    dsimp only [setMany, List.set_cons_zero, List.set_cons_succ]
    by_cases hkN : k < 6
    · obtain ⟨hok, h2k⟩ := h2 k hkN
      have hg := sgoodD_c (R k) hok
      rw [show (goodL (R k) && !(uneven3 (R k)).isSome) = false from h3 k hkN] at hg
      repeat' (first
| refine g_seq ?_
| refine g_block ?_
| refine g_region ?_
| (refine o_go rfl ?_; (first
| refine p_e rfl (e_callL (n := 0) rfl rfl rfl (by (repeat (first | refine ⟨leS_refl _, ?_⟩ | refine ⟨leS_nn _ _ _, ?_⟩ | refine ⟨leS_nil _, ?_⟩ | refine ⟨leS_any _, ?_⟩)); exact trivial) rfl (by rfl) (by first | exact ⟨rfl, rfl, rfl, by simp⟩ | exact ⟨rfl, rfl, by simp⟩ | trivial) (h2k)) ?_
| refine p_p (ps_call rfl rfl (by (repeat (first | refine ⟨PV.le_refl _, ?_⟩ | refine ⟨PV.le_nn _ _ _, ?_⟩ | refine ⟨PV.le_nil _, ?_⟩ | refine ⟨PV.le_any _, ?_⟩)); exact trivial) (hg)) ?_
| refine p_p (ps_move rfl) ?_
| refine p_p (ps_assign rfl) ?_
| refine p_p (ps_lss rfl rfl rfl) ?_
| refine p_p (ps_add rfl rfl rfl (by constructor <;> omega)) ?_
| refine p_p (ps_load_boxA rfl rfl rfl (by exact Nat.le_of_ble_eq_true rfl)) ?_
| refine p_e rfl (e_store_boxA rfl rfl rfl rfl (by exact Nat.le_of_ble_eq_true rfl) rfl rfl rfl) ?_
| refine p_e rfl (e_alloc rfl) ?_); refine ⟨_, (by dsimp only [bitvec_to_nat, Nat.reduceAdd, Nat.reduceMul, Nat.reduceBEq, reduceCtorEq]), ?_⟩)
| refine o_nil ?_
| refine g_condF rfl ?_
| (refine g_condD rfl (fun hc => ?_) (fun hc => ?_) <;> try (exfalso; omega))
| refine g_skip ?_)
      all_goals try (exfalso; omega)
      exact k_round (k + 1) (by omega) (by omega) (by repeat (first | exact trivial | refine ⟨.inl rfl, ?_⟩ | refine ⟨.inr rfl, ?_⟩)) ⟨rfl, trivial⟩ (hpLe_cons rfl (hpLe_cons rfl (hpLe_nil _)))
    · have hke : k = 6 := by omega
      subst hke
      repeat' (first
| refine g_seq ?_
| refine g_region ?_
| (refine o_go rfl ?_; (first
| refine p_e rfl (e_callL (n := 0) rfl rfl rfl (by (repeat (first | refine ⟨leS_refl _, ?_⟩ | refine ⟨leS_nn _ _ _, ?_⟩ | refine ⟨leS_nil _, ?_⟩ | refine ⟨leS_any _, ?_⟩)); exact trivial) rfl (by rfl) (by first | exact ⟨rfl, rfl, rfl, by simp⟩ | exact ⟨rfl, rfl, by simp⟩ | trivial) (h4)) ?_
| refine p_p (ps_call rfl rfl (by (repeat (first | refine ⟨PV.le_refl _, ?_⟩ | refine ⟨PV.le_nn _ _ _, ?_⟩ | refine ⟨PV.le_nil _, ?_⟩ | refine ⟨PV.le_any _, ?_⟩)); exact trivial) (hdl)) ?_
| refine p_p (ps_move rfl) ?_
| refine p_p (ps_assign rfl) ?_
| refine p_p (ps_lss rfl rfl rfl) ?_
| refine p_p (ps_extract rfl rfl rfl) ?_
| refine p_p (ps_load_boxA rfl rfl rfl (by exact Nat.le_of_ble_eq_true rfl)) ?_
| refine p_e rfl (e_store_boxA rfl rfl rfl rfl (by exact Nat.le_of_ble_eq_true rfl) rfl rfl rfl) ?_
| refine p_e rfl (e_alloc rfl) ?_); refine ⟨_, (by dsimp only [bitvec_to_nat, Nat.reduceAdd, Nat.reduceMul, Nat.reduceBEq, reduceCtorEq]), ?_⟩)
| refine o_nil ?_
| refine g_condT rfl ?_
| refine g_condF rfl ?_
| refine g_exit ?_
| refine g_ret ?_)
      all_goals try (exfalso; omega)
      change KRLC _ _ _ _ _ _ .ret _
      exact krlc 0 0 rfl rfl rfl (krC rfl (by exact Nat.le_of_ble_eq_true rfl) rfl)
  | false =>
    rw [if_neg (by decide)]
    have hdl := sdlF_c Q hQ hd
    have hkn := known_c 3
    refine pcallsLC Try.func18 rfl Try.ntmps18 rfl rfl rfl (by simp) fun b d => ?_
    simp only [List.length_cons, List.length_nil, Nat.reduceAdd, Nat.reduceSub, List.replicate_succ, List.replicate_zero]
    repeat' (first
| refine g_seq ?_
| refine g_block ?_
| refine g_region ?_
| (refine o_go rfl ?_; (first
| refine p_e rfl (e_callL (n := 0) rfl rfl rfl (by (repeat (first | refine ⟨leS_refl _, ?_⟩ | refine ⟨leS_nn _ _ _, ?_⟩ | refine ⟨leS_nil _, ?_⟩ | refine ⟨leS_any _, ?_⟩)); exact trivial) rfl (by rfl) (by first | exact ⟨rfl, rfl, rfl, by simp⟩ | exact ⟨rfl, rfl, by simp⟩ | trivial) (h1)) ?_
| refine p_p (ps_move rfl) ?_
| refine p_p (ps_assign rfl) ?_
| refine p_e rfl (e_alloc rfl) ?_); refine ⟨_, (by dsimp only [bitvec_to_nat, Nat.reduceAdd, Nat.reduceMul, Nat.reduceBEq, reduceCtorEq]), ?_⟩)
| refine o_nil ?_
| refine g_condF rfl ?_
| refine g_skip ?_)
    refine g_loopT (α := Nat) (fun k => [(3, I (k : Int))]) (fun k => [cuB (D k), .box [nilV]]) (fun k => k ≤ 6) (fun k => 6 - k) 0 (by simp only [havoc, dsts, List.filterMap_cons, List.filterMap_nil, List.foldl_cons, List.foldl_nil, List.cons_append, List.nil_append, List.append_nil, List.set_cons_succ, List.set_cons_zero]; exact rfl) (Nat.zero_le _) ⟨rfl, trivial⟩ rfl ?_
    rintro k hk
    dsimp only [setMany, List.set_cons_zero, List.set_cons_succ]
    by_cases hkN : k < 6
    · obtain ⟨hok, h2k⟩ := h2 k hkN
      have hg := sgoodD_c (R k) hok
      rw [show (goodL (R k) && !(uneven3 (R k)).isSome) = false from h3 k hkN] at hg
      repeat' (first
| refine g_seq ?_
| refine g_block ?_
| refine g_region ?_
| (refine o_go rfl ?_; (first
| refine p_e rfl (e_callL (n := 0) rfl rfl rfl (by (repeat (first | refine ⟨leS_refl _, ?_⟩ | refine ⟨leS_nn _ _ _, ?_⟩ | refine ⟨leS_nil _, ?_⟩ | refine ⟨leS_any _, ?_⟩)); exact trivial) rfl (by rfl) (by first | exact ⟨rfl, rfl, rfl, by simp⟩ | exact ⟨rfl, rfl, by simp⟩ | trivial) (h2k)) ?_
| refine p_p (ps_call rfl rfl (by (repeat (first | refine ⟨PV.le_refl _, ?_⟩ | refine ⟨PV.le_nn _ _ _, ?_⟩ | refine ⟨PV.le_nil _, ?_⟩ | refine ⟨PV.le_any _, ?_⟩)); exact trivial) (hg)) ?_
| refine p_p (ps_move rfl) ?_
| refine p_p (ps_assign rfl) ?_
| refine p_p (ps_lss rfl rfl rfl) ?_
| refine p_p (ps_add rfl rfl rfl (by constructor <;> omega)) ?_
| refine p_p (ps_load_boxA rfl rfl rfl (by exact Nat.le_of_ble_eq_true rfl)) ?_
| refine p_e rfl (e_store_boxA rfl rfl rfl rfl (by exact Nat.le_of_ble_eq_true rfl) rfl rfl rfl) ?_
| refine p_e rfl (e_alloc rfl) ?_); refine ⟨_, (by dsimp only [bitvec_to_nat, Nat.reduceAdd, Nat.reduceMul, Nat.reduceBEq, reduceCtorEq]), ?_⟩)
| refine o_nil ?_
| refine g_condF rfl ?_
| (refine g_condD rfl (fun hc => ?_) (fun hc => ?_) <;> try (exfalso; omega))
| refine g_skip ?_)
      all_goals try (exfalso; omega)
      exact k_round (k + 1) (by omega) (by omega) (by repeat (first | exact trivial | refine ⟨.inl rfl, ?_⟩ | refine ⟨.inr rfl, ?_⟩)) ⟨rfl, trivial⟩ (hpLe_cons rfl (hpLe_cons rfl (hpLe_nil _)))
    · have hke : k = 6 := by omega
      subst hke
      repeat' (first
| refine g_seq ?_
| refine g_region ?_
| (refine o_go rfl ?_; (first
| refine p_e rfl (e_callL (n := 0) rfl rfl rfl (by (repeat (first | refine ⟨leS_refl _, ?_⟩ | refine ⟨leS_nn _ _ _, ?_⟩ | refine ⟨leS_nil _, ?_⟩ | refine ⟨leS_any _, ?_⟩)); exact trivial) rfl (by rfl) (by first | exact ⟨rfl, rfl, rfl, by simp⟩ | exact ⟨rfl, rfl, by simp⟩ | trivial) (h4)) ?_
| refine p_p (ps_call rfl rfl (by (repeat (first | refine ⟨PV.le_refl _, ?_⟩ | refine ⟨PV.le_nn _ _ _, ?_⟩ | refine ⟨PV.le_nil _, ?_⟩ | refine ⟨PV.le_any _, ?_⟩)); exact trivial) (hdl)) ?_
| refine p_p (ps_call rfl rfl (by (repeat (first | refine ⟨PV.le_refl _, ?_⟩ | refine ⟨PV.le_nn _ _ _, ?_⟩ | refine ⟨PV.le_nil _, ?_⟩ | refine ⟨PV.le_any _, ?_⟩)); exact trivial) (hkn)) ?_
| refine p_p (ps_move rfl) ?_
| refine p_p (ps_assign rfl) ?_
| refine p_p (ps_lss rfl rfl rfl) ?_
| refine p_p (ps_extract rfl rfl rfl) ?_
| refine p_e rfl (e_store_boxA rfl rfl rfl rfl (by exact Nat.le_of_ble_eq_true rfl) rfl rfl rfl) ?_
| refine p_e rfl (e_alloc rfl) ?_); refine ⟨_, (by dsimp only [bitvec_to_nat, Nat.reduceAdd, Nat.reduceMul, Nat.reduceBEq, reduceCtorEq]), ?_⟩)
| refine o_nil ?_
| refine g_condF rfl ?_
| refine g_skip ?_
| refine g_exit ?_
| refine g_ret ?_)
      all_goals try (exfalso; omega)
      change KRLC _ _ _ _ _ _ .ret _
      exact krlc 0 0 rfl rfl rfl (krC rfl (by exact Nat.le_of_ble_eq_true rfl) rfl)
theorem dlV_10 {Q : List (List Int)} (h : dlB Q = true) : (dlV Q).length ≤ 10 := by
  have := dlB_10 h
  unfold dlV
  rw [dlL_len]; exact this
theorem distr_L {c : Cu} {m : Int} (h : c.ok m) (hm : m ≤ 500000) : ∃ c' rows, c'.ok (m + 10000) ∧ okP rows ∧ rows.length ≤ 30 ∧ LCalls Try.prog 18 (cuB c) [.hat 0 0] (cuB c') (posetP rows) := by
  obtain ⟨c1, b1, k1, h1⟩ := one_L h (by omega) 6 (by omega)
  cases b1 with
  | true =>
    obtain ⟨c', rows, k2, hok, hl, h2⟩ := lattice_L k1 (by omega)
    exact ⟨c', rows, k2.le (by omega), hok, hl, distr_w1 h1 h2⟩
  | false =>
    obtain ⟨F, F0, F1, F2⟩ := seq_of (fun k (s : Cu × List (List Int)) => s.1.ok (m + 2 + 1100 * (k : Int))) (fun k s s' => okP s'.2 ∧ s'.2.length ≤ 30 ∧ LCalls Try.prog 39 (cuB s.1) [.hat 0 0] (cuB s'.1) (posetP s'.2)) (c1, []) 6 (by simpa using k1) fun k s hk h1 => by
      obtain ⟨c', rows, k1, hok, hl, hc⟩ := lattice_L h1 (by omega)
      exact ⟨(c', rows), by rw [show m + 2 + 1100 * ((k + 1 : Nat) : Int) = m + 2 + 1100 * (k : Int) + 1100 by omega]; exact k1, hok, hl, hc⟩
    have hD0 : (F 0).1 = c1 := by rw [F0]
    rw [← hD0] at h1
    have hcs : ∀ k, k < 6 → okP (F (k + 1)).2 ∧ LCalls Try.prog 39 (cuB (F k).1) [.hat 0 0] (cuB (F (k + 1)).1) (posetP (F (k + 1)).2) := fun k hk => ⟨(F2 k hk).1, (F2 k hk).2.2⟩
    by_cases hall : ∃ k, k < 6 ∧ goodD (F (k + 1)).2 = true
    · obtain ⟨j, hj, hg⟩ := hall
      obtain ⟨N, n1, n2, n3⟩ := first_fail (fun k => !goodD (F (k + 1)).2) 6 j (by omega) (by simp [hg])
      exact ⟨(F (N + 1)).1, (F (N + 1)).2, (F1 (N + 1) (by omega)).le (by omega), (hcs N (by omega)).1, (F2 N (by omega)).2.1, distr_w2 (D := fun k => (F k).1) (R := fun k => (F (k + 1)).2) h1 (by omega) hcs (fun k hk => by simpa using n2 k hk) (by simpa using n3)⟩
    · obtain ⟨c', Q, k2, hok, hl, h2⟩ := poset_L (F1 6 (by omega)) (by omega)
      have hall' : ∀ k, k < 6 → goodD (F (k + 1)).2 = false := fun k hk => by
        cases hb : goodD (F (k + 1)).2 with
        | false => rfl
        | true => exact absurd ⟨k, hk, hb⟩ hall
      refine ⟨c', _, k2.le (by omega), ?_, ?_, distr_w3 (D := fun k => (F k).1) (R := fun k => (F (k + 1)).2) h1 hcs hall' h2 hok⟩
      · split
        · exact okP_dlV (by assumption)
        · exact (knV_ok 3).1
      · split
        · have := dlV_10 (by assumption); omega
        · have := (knV_ok 3).2; omega
end Go.Proofs.Ytbfmjknngofleaa
