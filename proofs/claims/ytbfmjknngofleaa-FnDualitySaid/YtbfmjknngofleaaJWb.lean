/- Walks: drawn lattices and points. -/
import Derived.Test.YtbfmjknngofleaaJWa
namespace Go.Proofs.Ytbfmjknngofleaa
open Go Go.Pv Go.Proofs
attribute [local bitvec_to_nat] St.put St.setObj St.ev killP killA killP1 killH mapHO renP renA ren1 killG killGA killG1 krowP krowA krow1 lendP lendA lend1 unv pinP pin1 elemsM viewM viewN viewV n_set_z n_set_s n_map_c n_map_n getD_z getD_s n_toNat n_cond_t n_cond_f n_len_c n_len_n n_app_c n_app_n n_take_s n_take_z n_drop_s n_drop_z n_get_z n_get_s view viewA view1 elems Nat.zero_add Nat.add_zero Bool.not_true Bool.not_false Nat.one_ne_zero Nat.mul_one

set_option maxHeartbeats 2000000 in
set_option maxRecDepth 100000 in
theorem lattice_w1 {c c1 c' : Cu} {rows : List (List Int)} (h1 : LCalls Try.prog 41 (cuB c) [.hat 0 0, I 10] (cuB c1) (B true)) (h2 : LCalls Try.prog 43 (cuB c1) [.hat 0 0] (cuB c') (posetP rows)) :
    LCalls Try.prog 39 (cuB c) [.hat 0 0] (cuB c') (posetP rows) := by
  refine pcallsLC Try.func39 rfl Try.ntmps39 rfl rfl rfl (by simp) fun b d => ?_
  simp only [List.length_cons, List.length_nil, Nat.reduceAdd, Nat.reduceSub, List.replicate_succ, List.replicate_zero]
  repeat' (first
| refine g_seq ?_
| refine g_region ?_
| (refine o_go rfl ?_; (first
| refine p_e rfl (e_callL (n := 0) rfl rfl rfl (by (repeat (first | refine ⟨leS_refl _, ?_⟩ | refine ⟨leS_nn _ _ _, ?_⟩ | refine ⟨leS_nil _, ?_⟩ | refine ⟨leS_any _, ?_⟩)); exact trivial) rfl (by rfl) (by first | exact ⟨rfl, rfl, rfl, by simp⟩ | exact ⟨rfl, rfl, by simp⟩ | trivial) (h1)) ?_
| refine p_e rfl (e_callL (n := 0) rfl rfl rfl (by (repeat (first | refine ⟨leS_refl _, ?_⟩ | refine ⟨leS_nn _ _ _, ?_⟩ | refine ⟨leS_nil _, ?_⟩ | refine ⟨leS_any _, ?_⟩)); exact trivial) rfl (by rfl) (by first | exact ⟨rfl, rfl, rfl, by simp⟩ | exact ⟨rfl, rfl, by simp⟩ | trivial) (h2)) ?_
| refine p_p (ps_move rfl) ?_
| refine p_e rfl (e_store_boxA rfl rfl rfl rfl (by exact Nat.le_of_ble_eq_true rfl) rfl rfl rfl) ?_
| refine p_e rfl (e_alloc rfl) ?_); refine ⟨_, (by dsimp only [bitvec_to_nat, Nat.reduceAdd, Nat.reduceMul, Nat.reduceBEq, reduceCtorEq]), ?_⟩)
| refine o_nil ?_
| refine g_condT rfl ?_
| refine g_ret ?_)
  change KRLC _ _ _ _ _ _ .ret _
  exact krlc 0 0 rfl rfl rfl (krC rfl (by exact Nat.le_of_ble_eq_true rfl) rfl)
set_option maxHeartbeats 2000000 in
set_option maxRecDepth 100000 in
theorem lattice_w2 {c c1 c2 c3 c4 : Cu} {k : Int} {ns : List Int} {b4 : Bool} (h1 : LCalls Try.prog 41 (cuB c) [.hat 0 0, I 10] (cuB c1) (B false)) (h2 : LCalls Try.prog 45 (cuB c1) [.hat 0 0, I 12] (cuB c2) (I k))
    (h3 : LCalls Try.prog 65 (cuB c2) [.hat 0 0, I ((knV k).length : Int)] (cuB c3) (ints ns)) (hnl : ns.length ≤ 100) (h4 : permB ns (knV k).length = true → LCalls Try.prog 41 (cuB c3) [.hat 0 0, I 2] (cuB c4) (B b4)) (h4' : permB ns (knV k).length = false → c4 = c3 ∧ b4 = false) (hb : b4 = false) :
    LCalls Try.prog 39 (cuB c) [.hat 0 0] (cuB c4) (posetP (knV k)) := by
  subst hb
  refine pcallsLC Try.func39 rfl Try.ntmps39 rfl rfl rfl (by simp) fun b d => ?_
  simp only [List.length_cons, List.length_nil, Nat.reduceAdd, Nat.reduceSub, List.replicate_succ, List.replicate_zero]
  have hk := known_c k
  obtain ⟨hok, hkl⟩ := knV_ok k
  have hpm := perm_c ns (knV k).length (by omega) (by omega)
  generalize knV k = K at *
  cases hp : permB ns K.length with
  | false =>
    obtain ⟨rfl, -⟩ := h4' hp
    rw [hp] at hpm
    repeat' (first
| refine g_seq ?_
| refine g_region ?_
| (refine o_go rfl ?_; (first
| refine p_e rfl (e_callL (n := 0) rfl rfl rfl (by (repeat (first | refine ⟨leS_refl _, ?_⟩ | refine ⟨leS_nn _ _ _, ?_⟩ | refine ⟨leS_nil _, ?_⟩ | refine ⟨leS_any _, ?_⟩)); exact trivial) rfl (by rfl) (by first | exact ⟨rfl, rfl, rfl, by simp⟩ | exact ⟨rfl, rfl, by simp⟩ | trivial) (h1)) ?_
| refine p_e rfl (e_callL (n := 0) rfl rfl rfl (by (repeat (first | refine ⟨leS_refl _, ?_⟩ | refine ⟨leS_nn _ _ _, ?_⟩ | refine ⟨leS_nil _, ?_⟩ | refine ⟨leS_any _, ?_⟩)); exact trivial) rfl (by rfl) (by first | exact ⟨rfl, rfl, rfl, by simp⟩ | exact ⟨rfl, rfl, by simp⟩ | trivial) (h2)) ?_
| refine p_p (ps_call rfl rfl (by (repeat (first | refine ⟨PV.le_refl _, ?_⟩ | refine ⟨PV.le_nn _ _ _, ?_⟩ | refine ⟨PV.le_nil _, ?_⟩ | refine ⟨PV.le_any _, ?_⟩)); exact trivial) (hk)) ?_
| refine p_e rfl (e_callL (n := 0) rfl rfl rfl (by (repeat (first | refine ⟨leS_refl _, ?_⟩ | refine ⟨leS_nn _ _ _, ?_⟩ | refine ⟨leS_nil _, ?_⟩ | refine ⟨leS_any _, ?_⟩)); exact trivial) rfl (by rfl) (by first | exact ⟨rfl, rfl, rfl, by simp⟩ | exact ⟨rfl, rfl, by simp⟩ | trivial) (h3)) ?_
| refine p_p (ps_call rfl rfl (by (repeat (first | refine ⟨PV.le_refl _, ?_⟩ | refine ⟨PV.le_nn _ _ _, ?_⟩ | refine ⟨PV.le_nil _, ?_⟩ | refine ⟨PV.le_any _, ?_⟩)); exact trivial) (hpm)) ?_
| refine p_p (ps_move rfl) ?_
| refine p_p (ps_assign rfl) ?_
| refine p_p (ps_lenM rfl rfl rfl) ?_
| refine p_p (ps_pick rfl rfl) ?_
| refine p_p (ps_load_box rfl rfl rfl rfl) ?_
| refine p_p (ps_load_boxA rfl rfl rfl (by exact Nat.le_of_ble_eq_true rfl)) ?_
| refine p_p (ps_fieldAddr_hat rfl rfl) ?_
| refine p_e rfl (e_store_boxA rfl rfl rfl rfl (by exact Nat.le_of_ble_eq_true rfl) rfl rfl rfl) ?_
| refine p_e rfl (e_alloc rfl) ?_); refine ⟨_, (by dsimp only [bitvec_to_nat, Nat.reduceAdd, Nat.reduceMul, Nat.reduceBEq, reduceCtorEq]), ?_⟩)
| refine o_nil ?_
| (refine o_s rfl ?_; refine ⟨_, (by dsimp only [bitvec_to_nat, Nat.reduceAdd, Nat.reduceMul, Nat.reduceBEq, reduceCtorEq]), ?_⟩)
| refine g_condF rfl ?_
| refine g_skip ?_
| refine g_ret ?_)
    change KRLC _ _ _ _ _ _ .ret _
    exact krlc 0 0 rfl rfl rfl (krC rfl (by exact Nat.le_of_ble_eq_true rfl) rfl)
  | true =>
    have h4 := h4 hp
    rw [hp] at hpm
    repeat' (first
| refine g_seq ?_
| refine g_region ?_
| (refine o_go rfl ?_; (first
| refine p_e rfl (e_callL (n := 0) rfl rfl rfl (by (repeat (first | refine ⟨leS_refl _, ?_⟩ | refine ⟨leS_nn _ _ _, ?_⟩ | refine ⟨leS_nil _, ?_⟩ | refine ⟨leS_any _, ?_⟩)); exact trivial) rfl (by rfl) (by first | exact ⟨rfl, rfl, rfl, by simp⟩ | exact ⟨rfl, rfl, by simp⟩ | trivial) (h1)) ?_
| refine p_e rfl (e_callL (n := 0) rfl rfl rfl (by (repeat (first | refine ⟨leS_refl _, ?_⟩ | refine ⟨leS_nn _ _ _, ?_⟩ | refine ⟨leS_nil _, ?_⟩ | refine ⟨leS_any _, ?_⟩)); exact trivial) rfl (by rfl) (by first | exact ⟨rfl, rfl, rfl, by simp⟩ | exact ⟨rfl, rfl, by simp⟩ | trivial) (h2)) ?_
| refine p_p (ps_call rfl rfl (by (repeat (first | refine ⟨PV.le_refl _, ?_⟩ | refine ⟨PV.le_nn _ _ _, ?_⟩ | refine ⟨PV.le_nil _, ?_⟩ | refine ⟨PV.le_any _, ?_⟩)); exact trivial) (hk)) ?_
| refine p_e rfl (e_callL (n := 0) rfl rfl rfl (by (repeat (first | refine ⟨leS_refl _, ?_⟩ | refine ⟨leS_nn _ _ _, ?_⟩ | refine ⟨leS_nil _, ?_⟩ | refine ⟨leS_any _, ?_⟩)); exact trivial) rfl (by rfl) (by first | exact ⟨rfl, rfl, rfl, by simp⟩ | exact ⟨rfl, rfl, by simp⟩ | trivial) (h3)) ?_
| refine p_p (ps_call rfl rfl (by (repeat (first | refine ⟨PV.le_refl _, ?_⟩ | refine ⟨PV.le_nn _ _ _, ?_⟩ | refine ⟨PV.le_nil _, ?_⟩ | refine ⟨PV.le_any _, ?_⟩)); exact trivial) (hpm)) ?_
| refine p_e rfl (e_callL (n := 0) rfl rfl rfl (by (repeat (first | refine ⟨leS_refl _, ?_⟩ | refine ⟨leS_nn _ _ _, ?_⟩ | refine ⟨leS_nil _, ?_⟩ | refine ⟨leS_any _, ?_⟩)); exact trivial) rfl (by rfl) (by first | exact ⟨rfl, rfl, rfl, by simp⟩ | exact ⟨rfl, rfl, by simp⟩ | trivial) (h4)) ?_
| refine p_p (ps_move rfl) ?_
| refine p_p (ps_assign rfl) ?_
| refine p_p (ps_lenM rfl rfl rfl) ?_
| refine p_p (ps_pick rfl rfl) ?_
| refine p_p (ps_load_box rfl rfl rfl rfl) ?_
| refine p_p (ps_load_boxA rfl rfl rfl (by exact Nat.le_of_ble_eq_true rfl)) ?_
| refine p_p (ps_fieldAddr_hat rfl rfl) ?_
| refine p_e rfl (e_store_boxA rfl rfl rfl rfl (by exact Nat.le_of_ble_eq_true rfl) rfl rfl rfl) ?_
| refine p_e rfl (e_alloc rfl) ?_); refine ⟨_, (by dsimp only [bitvec_to_nat, Nat.reduceAdd, Nat.reduceMul, Nat.reduceBEq, reduceCtorEq]), ?_⟩)
| refine o_nil ?_
| refine g_condF rfl ?_
| refine g_skip ?_
| refine g_ret ?_)
    change KRLC _ _ _ _ _ _ .ret _
    exact krlc 0 0 rfl rfl rfl (krC rfl (by exact Nat.le_of_ble_eq_true rfl) rfl)
set_option maxHeartbeats 4000000 in
set_option maxRecDepth 100000 in
theorem lattice_w3 {c c1 c2 c3 c4 : Cu} {k : Int} {ns : List Int} {ps : List (Int × Int)} (h1 : LCalls Try.prog 41 (cuB c) [.hat 0 0, I 10] (cuB c1) (B false)) (h2 : LCalls Try.prog 45 (cuB c1) [.hat 0 0, I 12] (cuB c2) (I k))
    (h3 : LCalls Try.prog 65 (cuB c2) [.hat 0 0, I ((knV k).length : Int)] (cuB c3) (ints ns)) (hnl : ns.length ≤ 100) (hp : permB ns (knV k).length = true) (h4 : LCalls Try.prog 41 (cuB c3) [.hat 0 0, I 2] (cuB c4) (B true))
    (hps : pairsX (knV k).length (fun a b => coversB (knV k) (a : Int) (b : Int)) (knV k).length = ps) : LCalls Try.prog 39 (cuB c) [.hat 0 0] (cuB c4) (posetP (frV (knV k).length (ps.map (renB ns)))) := by
  have hin := pairsX_in (knV k).length (fun a b => coversB (knV k) (a : Int) (b : Int)) (knV k).length (Nat.le_refl _)
  have hlen := pairsX_len (knV k).length (fun a b => coversB (knV k) (a : Int) (b : Int)) (knV k).length
  rw [hps] at hin hlen
  refine pcallsLC Try.func39 rfl Try.ntmps39 rfl rfl rfl (by simp) fun b d => ?_
  simp only [List.length_cons, List.length_nil, Nat.reduceAdd, Nat.reduceSub, List.replicate_succ, List.replicate_zero]
  have hk := known_c k
  obtain ⟨hok, hkl⟩ := knV_ok k
  have hpm := perm_c ns (knV k).length (by omega) (by omega)
  rw [hp] at hpm
  have hpr := pairs_R (knV k) hok (by omega)
  rw [hps] at hpr
  have hfr := from_R (knV k).length (ps.map (renB ns)) (by omega) (by
    rw [List.length_map]
    have : (knV k).length * (knV k).length ≤ 9 * 9 := Nat.mul_le_mul hkl hkl
    omega) (ren_in hp hin)
  have hpl : ps.length ≤ 100 := by
    have : (knV k).length * (knV k).length ≤ 9 * 9 := Nat.mul_le_mul hkl hkl
    omega
  generalize knV k = K at *
  repeat' (first
| refine g_seq ?_
| refine g_block ?_
| refine g_region ?_
| (refine o_go rfl ?_; (first
| refine p_e rfl (e_callL (n := 0) rfl rfl rfl (by (repeat (first | refine ⟨leS_refl _, ?_⟩ | refine ⟨leS_nn _ _ _, ?_⟩ | refine ⟨leS_nil _, ?_⟩ | refine ⟨leS_any _, ?_⟩)); exact trivial) rfl (by rfl) (by first | exact ⟨rfl, rfl, rfl, by simp⟩ | exact ⟨rfl, rfl, by simp⟩ | trivial) (h1)) ?_
| refine p_e rfl (e_callL (n := 0) rfl rfl rfl (by (repeat (first | refine ⟨leS_refl _, ?_⟩ | refine ⟨leS_nn _ _ _, ?_⟩ | refine ⟨leS_nil _, ?_⟩ | refine ⟨leS_any _, ?_⟩)); exact trivial) rfl (by rfl) (by first | exact ⟨rfl, rfl, rfl, by simp⟩ | exact ⟨rfl, rfl, by simp⟩ | trivial) (h2)) ?_
| refine p_p (ps_call rfl rfl (by (repeat (first | refine ⟨PV.le_refl _, ?_⟩ | refine ⟨PV.le_nn _ _ _, ?_⟩ | refine ⟨PV.le_nil _, ?_⟩ | refine ⟨PV.le_any _, ?_⟩)); exact trivial) (hk)) ?_
| refine p_e rfl (e_callL (n := 0) rfl rfl rfl (by (repeat (first | refine ⟨leS_refl _, ?_⟩ | refine ⟨leS_nn _ _ _, ?_⟩ | refine ⟨leS_nil _, ?_⟩ | refine ⟨leS_any _, ?_⟩)); exact trivial) rfl (by rfl) (by first | exact ⟨rfl, rfl, rfl, by simp⟩ | exact ⟨rfl, rfl, by simp⟩ | trivial) (h3)) ?_
| refine p_p (ps_call rfl rfl (by (repeat (first | refine ⟨PV.le_refl _, ?_⟩ | refine ⟨PV.le_nn _ _ _, ?_⟩ | refine ⟨PV.le_nil _, ?_⟩ | refine ⟨PV.le_any _, ?_⟩)); exact trivial) (hpm)) ?_
| refine p_e rfl (e_callL (n := 0) rfl rfl rfl (by (repeat (first | refine ⟨leS_refl _, ?_⟩ | refine ⟨leS_nn _ _ _, ?_⟩ | refine ⟨leS_nil _, ?_⟩ | refine ⟨leS_any _, ?_⟩)); exact trivial) rfl (by rfl) (by first | exact ⟨rfl, rfl, rfl, by simp⟩ | exact ⟨rfl, rfl, by simp⟩ | trivial) (h4)) ?_
| refine p_e rfl (e_callR rfl rfl (by (repeat (first | refine ⟨PV.le_refl _, ?_⟩ | refine ⟨PV.le_nn _ _ _, ?_⟩ | refine ⟨PV.le_nil _, ?_⟩ | refine ⟨PV.le_any _, ?_⟩)); exact trivial) rfl (hpr)) ?_
| refine p_p (ps_move rfl) ?_
| refine p_p (ps_assign rfl) ?_
| refine p_p (ps_lenM rfl rfl rfl) ?_
| refine p_p (ps_pick rfl rfl) ?_
| refine p_p (ps_load_box rfl rfl rfl rfl) ?_
| refine p_p (ps_load_boxA rfl rfl rfl (by exact Nat.le_of_ble_eq_true rfl)) ?_
| refine p_p (ps_fieldAddr_hat rfl rfl) ?_
| refine p_e rfl (e_store_boxA rfl rfl rfl rfl (by exact Nat.le_of_ble_eq_true rfl) rfl rfl rfl) ?_
| refine p_e rfl (e_alloc rfl) ?_); refine ⟨_, (by dsimp only [bitvec_to_nat, Nat.reduceAdd, Nat.reduceMul, Nat.reduceBEq, reduceCtorEq]), ?_⟩)
| refine o_nil ?_
| refine g_condT rfl ?_
| refine g_condF rfl ?_
| refine g_skip ?_)
  refine g_loopT (α := Nat) (fun i => [(7, I (i : Int))]) (fun i => [cuB c4, .box [nilV], .box [intss K], .arr true 2 79 ((renI ns ps i).map pairP)]) (fun i => i ≤ ps.length) (fun i => ps.length - i) 0 (by simp only [havoc, dsts, List.filterMap_cons, List.filterMap_nil, List.foldl_cons, List.foldl_nil, List.cons_append, List.nil_append, List.append_nil, List.set_cons_succ, List.set_cons_zero]; exact rfl) (Nat.zero_le _) ⟨rfl, trivial⟩ rfl ?_
  rintro i hi
  dsimp only [setMany, List.set_cons_zero, List.set_cons_succ]
  have hrl : ((renI ns ps i).map pairP).length = ps.length := by rw [List.length_map, renI_len]
  by_cases hi' : i < ps.length
  · have hix : ((renI ns ps i).map pairP)[i]? = some (pairP (ps.getD i (0, 0))) := by rw [List.getElem?_map, renI_at hi']; rfl
    obtain ⟨p0, p1, p2, p3⟩ := pairsIn_at hin i hi'
    have hnl2 : ns.length = K.length := by
      have hpb' := hp
      unfold permB at hpb'
      simp only [Bool.and_eq_true, decide_eq_true_eq] at hpb'
      omega
    repeat' (first
| refine g_seq ?_
| refine g_block ?_
| refine g_region ?_
| refine g_region_draw (by kernel_rfl) (by kernel_rfl) ?_
| (refine o_go rfl ?_; (first
| refine p_p (ps_index_mut rfl rfl rfl rfl (by omega) (by omega)) ?_
| refine p_p (ps_index_hatarr rfl rfl rfl (by decide) (by decide)) ?_
| refine p_p (ps_load_arrS (i := i) (j := 0) rfl rfl rfl (by omega) hix rfl rfl) ?_
| refine p_p (ps_load_arrS (i := i) (j := 1) rfl rfl rfl (by omega) hix rfl rfl) ?_
| refine p_p (ps_buildArr rfl rfl) ?_
| refine p_e (by kernel_rfl) (e_store_arrS rfl rfl rfl rfl rfl (by omega) rfl rfl rfl rfl) ?_
| refine p_p (ps_move rfl) ?_
| refine p_p (ps_assign rfl) ?_
| refine p_p (ps_load_cell rfl rfl) ?_
| refine p_p (ps_index rfl rfl rfl (by omega) (by first | exact idx_I (by omega) | exact idx_B (by omega) | exact idx_ints (by omega) | exact idx_bools (by omega) | exact idx_intss (by omega) | rfl) (by exact rfl)) ?_
| refine p_p (ps_lss rfl rfl rfl) ?_
| refine p_p (ps_add rfl rfl rfl (by constructor <;> omega)) ?_
| refine p_p (ps_len_mut rfl rfl rfl rfl) ?_); refine ⟨_, (by dsimp only [bitvec_to_nat, Nat.reduceAdd, Nat.reduceMul, Nat.reduceBEq, reduceCtorEq]), ?_⟩)
| refine o_nil ?_
| (refine g_condD rfl (fun hc => ?_) (fun hc => ?_) <;> try (exfalso; omega))
| refine g_skip ?_)
    refine k_round (i + 1) (by omega) (by omega) (by repeat (first | exact trivial | refine ⟨.inl rfl, ?_⟩ | refine ⟨.inr rfl, ?_⟩)) ⟨rfl, trivial⟩ (hpLe_cons rfl (hpLe_cons rfl (hpLe_cons rfl (hpLe_cons ?_ (hpLe_nil _)))))
    rw [← renI_set hi', List.map_set]; rfl
  · have hil : i = ps.length := by omega
    subst hil
    rw [renI_all] at hrl ⊢
    repeat' (first
| refine g_seq ?_
| refine g_region ?_
| (refine o_go rfl ?_; (first
| refine p_e rfl (e_callR rfl rfl (by (repeat (first | refine ⟨PV.le_refl _, ?_⟩ | refine ⟨PV.le_nn _ _ _, ?_⟩ | refine ⟨PV.le_nil _, ?_⟩ | refine ⟨PV.le_any _, ?_⟩)); exact trivial) rfl (hfr)) ?_
| refine p_p (ps_move rfl) ?_
| refine p_p (ps_lss rfl rfl rfl) ?_
| refine p_p (ps_len_mut rfl rfl rfl rfl) ?_
| refine p_p (ps_load_boxA rfl rfl rfl (by exact Nat.le_of_ble_eq_true rfl)) ?_
| refine p_e rfl (e_store_boxA rfl rfl rfl rfl (by exact Nat.le_of_ble_eq_true rfl) rfl rfl rfl) ?_); refine ⟨_, (by dsimp only [bitvec_to_nat, Nat.reduceAdd, Nat.reduceMul, Nat.reduceBEq, reduceCtorEq]), ?_⟩)
| refine o_nil ?_
| (refine g_condD rfl (fun hc => ?_) (fun hc => ?_) <;> try (exfalso; omega))
| refine g_exit ?_
| refine g_ret ?_)
    all_goals try (exfalso; omega)
    change KRLC _ _ _ _ _ _ .ret _
    exact krlc 0 0 rfl rfl rfl (krC rfl (by exact Nat.le_of_ble_eq_true rfl) (by simp [viewV]))
theorem lattice_L {c : Cu} {m : Int} (h : c.ok m) (hm : m ≤ 600000) : ∃ c' rows, c'.ok (m + 1100) ∧ okP rows ∧ rows.length ≤ 30 ∧ LCalls Try.prog 39 (cuB c) [.hat 0 0] (cuB c') (posetP rows) := by
  obtain ⟨c1, b1, k1, h1⟩ := one_L h (by omega) 10 (by omega)
  cases b1 with
  | true =>
    obtain ⟨c', rows, k2, hok, hl, h2⟩ := poset_L k1 (by omega)
    exact ⟨c', rows, k2.le (by omega), hok, hl, lattice_w1 h1 h2⟩
  | false =>
    obtain ⟨c2, k, k2, -, -, h2⟩ := pick_L k1 (by omega) 12 (by omega)
    obtain ⟨hok, hkl⟩ := knV_ok k
    obtain ⟨c3, ns, k3, hnl, h3⟩ := names2_L k2 (by omega) (knV k).length (by omega)
    cases hp : permB ns (knV k).length with
    | false => exact ⟨c3, knV k, k3.le (by omega), hok, by omega, lattice_w2 (b4 := false) h1 h2 h3 (by omega) (fun h => by rw [hp] at h; cases h) (fun _ => ⟨rfl, rfl⟩) rfl⟩
    | true =>
      obtain ⟨c4, b4, k4, h4⟩ := one_L k3 (by omega) 2 (by omega)
      cases b4 with
      | false => exact ⟨c4, knV k, k4.le (by omega), hok, by omega, lattice_w2 (b4 := false) h1 h2 h3 (by omega) (fun _ => h4) (fun h => by rw [hp] at h; cases h) rfl⟩
      | true => exact ⟨c4, _, k4.le (by omega), okP_frV (by omega), by rw [frV_len]; omega, lattice_w3 h1 h2 h3 (by omega) hp h4 rfl⟩
/-! ### A point of a poset -/
end Go.Proofs.Ytbfmjknngofleaa
