/- Walks: the reference's numbers of downsets. -/
import Derived.Test.YtbfmjknngofleaaGreatLAy
namespace Go.Proofs.YtbfmjknngofleaaGreat
open Go Go.Pv Go.Proofs
attribute [local bitvec_to_nat] St.put St.setObj St.ev killP killA killP1 killH mapHO renP renA ren1 killG killGA killG1 krowP krowA krow1 lendP lendA lend1 unv pinP pin1 elemsM viewM viewN viewV n_set_z n_set_s n_map_c n_map_n getD_z getD_s n_toNat n_cond_t n_cond_f n_len_c n_len_n n_app_c n_app_n n_take_s n_take_z n_drop_s n_drop_z n_get_z n_get_s view viewA view1 elems Nat.zero_add Nat.add_zero Bool.not_true Bool.not_false Nat.one_ne_zero Nat.mul_one

set_option maxHeartbeats 1000000 in
set_option maxRecDepth 100000 in
theorem sdnum_c (rows : List (List Int)) (hok : okP rows) : PCalls Tryz.prog 30 [posetP rows] (.tup [ints (dnumV rows), B (distB rows)]) := by
  refine pcalls2 Tryz.func30 rfl Tryz.ntmps30 rfl ?_
  simp only [List.length_cons, List.length_nil, Nat.reduceAdd, Nat.reduceSub, List.replicate_succ, List.replicate_zero, List.cons_append, List.nil_append]
  have h1 : PCalls Tryz.prog 82 [posetP rows] (B (distB rows)) := sgoodD_c rows hok
  have hr := hok.1
  unfold dnumV
  cases hd : distB rows with
  | false =>
    rw [hd] at h1
    repeat' (first
| refine g_seq ?_
| refine g_region ?_
| (refine o_go rfl ?_; (first
| refine p_p (ps_call rfl rfl (by (repeat (first | refine ⟨PV.le_refl _, ?_⟩ | refine ⟨PV.le_nn _ _ _, ?_⟩ | refine ⟨PV.le_nil _, ?_⟩ | refine ⟨PV.le_any _, ?_⟩)); exact trivial) (h1)) ?_
| refine p_p (ps_move rfl) ?_
| refine p_p (ps_assign rfl) ?_
| refine p_p (ps_load_agg rfl rfl (by exact Nat.le_of_ble_eq_true rfl)) ?_
| refine p_p (ps_not rfl rfl) ?_
| refine p_e rfl (e_lit0 rfl (by decide)) ?_
| refine p_p (ps_box rfl rfl) ?_); refine ⟨_, (by dsimp only [bitvec_to_nat, Nat.reduceAdd, Nat.reduceMul, Nat.reduceBEq, reduceCtorEq]), ?_⟩)
| refine o_nil ?_
| refine g_condT rfl ?_
| refine kr2 ?_ ?_
| refine krB rfl ?_
| refine krS rfl ?_
| refine g_ret ?_)
    all_goals rfl
  | true =>
    rw [hd] at h1
    have D := dst_of hd
    have hpR := pts_rfl D.good
    have hpo := okP_pts hok
    have c2 := sds_c (ptsL rows) hpo hpR
    have hpl : (dsO (ptsL rows)).length ≤ rows.length := by rw [dsO_len]; exact ds_few D
    have hpr : ∀ j, j < (dsO (ptsL rows)).length → ((dsO (ptsL rows)).getD j []).length ≤ 1048576 := fun j hj => by
      have := dsO_row (mem_getD (d := []) hj)
      have := hpo.1
      omega
    repeat' (first
| refine g_seq ?_
| refine g_block ?_
| refine g_region ?_
| refine g_region_draw (by kernel_rfl) (by kernel_rfl) ?_
| (refine o_go rfl ?_; (first
| refine p_p (ps_call rfl rfl (by (repeat (first | refine ⟨PV.le_refl _, ?_⟩ | refine ⟨PV.le_nn _ _ _, ?_⟩ | refine ⟨PV.le_nil _, ?_⟩ | refine ⟨PV.le_any _, ?_⟩)); exact trivial) (h1)) ?_
| refine p_p (ps_call rfl rfl (by (repeat (first | refine ⟨PV.le_refl _, ?_⟩ | refine ⟨PV.le_nn _ _ _, ?_⟩ | refine ⟨PV.le_nil _, ?_⟩ | refine ⟨PV.le_any _, ?_⟩)); exact trivial) (sirr_c rows hok)) ?_
| refine p_p (ps_call rfl rfl (by (repeat (first | refine ⟨PV.le_refl _, ?_⟩ | refine ⟨PV.le_nn _ _ _, ?_⟩ | refine ⟨PV.le_nil _, ?_⟩ | refine ⟨PV.le_any _, ?_⟩)); exact trivial) (spts_c rows hok)) ?_
| refine p_p (ps_call rfl rfl (by (repeat (first | refine ⟨PV.le_refl _, ?_⟩ | refine ⟨PV.le_nn _ _ _, ?_⟩ | refine ⟨PV.le_nil _, ?_⟩ | refine ⟨PV.le_any _, ?_⟩)); exact trivial) (c2)) ?_
| refine p_p (ps_assign rfl) ?_
| refine p_p (ps_load_agg rfl rfl (by exact Nat.le_of_ble_eq_true rfl)) ?_
| refine p_p (ps_not rfl rfl) ?_
| refine p_e rfl (e_lit0 rfl (by decide)) ?_
| refine p_p (ps_box rfl rfl) ?_); refine ⟨_, (by dsimp only [bitvec_to_nat, Nat.reduceAdd, Nat.reduceMul, Nat.reduceBEq, reduceCtorEq]), ?_⟩)
| refine o_nil ?_
| refine g_condF rfl ?_
| refine g_skip ?_)
    refine g_loopF (α := Nat) [10] (fun x => [(4, .hp 0), (7, I (x : Int))]) (fun x => [.arr false 1 3 ((dnumL rows x).map I)]) (fun x => x ≤ rows.length) (fun x => rows.length - x) 0 (by simp only [havoc, dsts, List.filterMap_cons, List.filterMap_nil, List.foldl_cons, List.foldl_nil, List.cons_append, List.nil_append, List.append_nil, List.set_cons_succ, List.set_cons_zero]; exact rfl) (Nat.zero_le _) ⟨rfl, rfl, trivial⟩ rfl ?_
    rintro x hx
    dsimp only [setMany, List.set_cons_zero, List.set_cons_succ]
    have hnl := dnumL_len rows x
    by_cases hxe : x < rows.length
    · have hmem := pb_ds D.good (x := (x : Int)) ⟨by omega, by omega⟩
      have hbl : (pbL rows (x : Int)).length ≤ 1048576 := by have := pbL_len rows (x : Int); have := irrL_len rows; omega
      repeat' (first
| refine g_seq ?_
| refine g_block ?_
| refine g_region ?_
| (refine o_go rfl ?_; (first
| refine p_p (ps_call rfl rfl (by (repeat (first | refine ⟨PV.le_refl _, ?_⟩ | refine ⟨PV.le_nn _ _ _, ?_⟩ | refine ⟨PV.le_nil _, ?_⟩ | refine ⟨PV.le_any _, ?_⟩)); exact trivial) (sbelow_c rows _ hok ⟨by omega, by omega⟩)) ?_
| refine p_p (ps_move rfl) ?_
| refine p_p (ps_assign rfl) ?_
| refine p_p (ps_load_cell rfl rfl) ?_
| refine p_p (ps_load_agg rfl rfl (by exact Nat.le_of_ble_eq_true rfl)) ?_
| refine p_p (ps_lenM rfl rfl rfl) ?_
| refine p_p (ps_lss rfl rfl rfl) ?_
| refine p_p (ps_fieldAddr rfl rfl) ?_); refine ⟨_, (by dsimp only [bitvec_to_nat, Nat.reduceAdd, Nat.reduceMul, Nat.reduceBEq, reduceCtorEq]), ?_⟩)
| refine o_nil ?_
| (refine g_condD rfl (fun hc => ?_) (fun hc => ?_) <;> try (exfalso; omega))
| refine g_skip ?_)
      refine g_loopT (α := Nat) (fun k => [(9, I (k : Int))]) (fun _ => [.arr false 1 3 ((dnumL rows x).map I)]) (fun k => k ≤ (dsO (ptsL rows)).idxOf (pbL rows (x : Int))) (fun k => (dsO (ptsL rows)).length - k) 0 (by simp only [havoc, dsts, List.filterMap_cons, List.filterMap_nil, List.foldl_cons, List.foldl_nil, List.cons_append, List.nil_append, List.append_nil, List.set_cons_succ, List.set_cons_zero]; exact rfl) (Nat.zero_le _) ⟨rfl, trivial⟩ rfl ?_
      rintro k hk
      dsimp only [setMany, List.set_cons_zero, List.set_cons_succ]
      obtain ⟨hkl, hke⟩ := idx_at hmem hk
      have hprk := hpr k hkl
      have c5 := same1_c ((dsO (ptsL rows)).getD k []) (pbL rows (x : Int)) (by omega)
      by_cases he : (dsO (ptsL rows)).getD k [] = pbL rows (x : Int)
      · rw [decide_eq_true he] at c5
        have hkx := hke.1 he
        repeat' (first
| refine g_seq ?_
| refine g_region ?_
| (refine o_go rfl ?_; (first
| refine p_p (ps_call rfl rfl (by (repeat (first | refine ⟨PV.le_refl _, ?_⟩ | refine ⟨PV.le_nn _ _ _, ?_⟩ | refine ⟨PV.le_nil _, ?_⟩ | refine ⟨PV.le_any _, ?_⟩)); exact trivial) (c5)) ?_
| refine p_p (ps_move rfl) ?_
| refine p_p (ps_assign rfl) ?_
| refine p_p (ps_load_cell rfl rfl) ?_
| refine p_p (ps_index rfl rfl rfl (by omega) (by first | exact idx_I (by omega) | exact idx_B (by omega) | exact idx_ints (by omega) | exact idx_bools (by omega) | exact idx_intss (by omega) | rfl) (by exact rfl)) ?_
| refine p_p (ps_add rfl rfl rfl (by constructor <;> omega)) ?_
| refine p_p (ps_not rfl rfl) ?_
| refine p_e rfl (e_append rfl rfl rfl rfl rfl rfl (by first | exact one_one rfl | exact one_map (fun _ => rfl) _) rfl (by first | omega | (simp; done) | (simp; omega)) (by first | omega | (simp; done) | (simp; omega))) ?_
| refine p_p (ps_lit1 rfl rfl (by rfl) (by rfl)) ?_); refine ⟨_, (by dsimp only [bitvec_to_nat, Nat.reduceAdd, Nat.reduceMul, Nat.reduceBEq, reduceCtorEq]), ?_⟩)
| refine o_nil ?_
| refine g_condF rfl ?_
| refine g_exit ?_)
        refine k_round (x + 1) (by omega) (by omega) (by repeat (first | exact trivial | refine ⟨.inl rfl, ?_⟩ | refine ⟨.inr rfl, ?_⟩)) ⟨rfl, rfl, trivial⟩ (hpLe_cons ?_ (hpLe_nil _))
        rw [dnumL_succ, List.map_append, ← hkx]; rfl
      · rw [decide_eq_false he] at c5
        have hkx : k ≠ (dsO (ptsL rows)).idxOf (pbL rows (x : Int)) := fun e => he (hke.2 e)
        repeat' (first
| refine g_seq ?_
| refine g_block ?_
| refine g_region ?_
| (refine o_go rfl ?_; (first
| refine p_p (ps_call rfl rfl (by (repeat (first | refine ⟨PV.le_refl _, ?_⟩ | refine ⟨PV.le_nn _ _ _, ?_⟩ | refine ⟨PV.le_nil _, ?_⟩ | refine ⟨PV.le_any _, ?_⟩)); exact trivial) (c5)) ?_
| refine p_p (ps_move rfl) ?_
| refine p_p (ps_assign rfl) ?_
| refine p_p (ps_load_cell rfl rfl) ?_
| refine p_p (ps_index rfl rfl rfl (by omega) (by first | exact idx_I (by omega) | exact idx_B (by omega) | exact idx_ints (by omega) | exact idx_bools (by omega) | exact idx_intss (by omega) | rfl) (by exact rfl)) ?_
| refine p_p (ps_add rfl rfl rfl (by constructor <;> omega)) ?_
| refine p_p (ps_not rfl rfl) ?_); refine ⟨_, (by dsimp only [bitvec_to_nat, Nat.reduceAdd, Nat.reduceMul, Nat.reduceBEq, reduceCtorEq]), ?_⟩)
| refine o_nil ?_
| refine g_condT rfl ?_
| refine g_skip ?_)
        exact k_round (k + 1) (by omega) (by omega) (by repeat (first | exact trivial | refine ⟨.inl rfl, ?_⟩ | refine ⟨.inr rfl, ?_⟩)) ⟨rfl, trivial⟩ (hpLe_refl _)
    · repeat' (first
| refine g_seq ?_
| refine g_region ?_
| (refine o_go rfl ?_; (first
| refine p_p (ps_move rfl) ?_
| refine p_p (ps_assign rfl) ?_
| refine p_p (ps_load_cell rfl rfl) ?_
| refine p_p (ps_lenM rfl rfl rfl) ?_
| refine p_p (ps_lss rfl rfl rfl) ?_
| refine p_p (ps_fieldAddr rfl rfl) ?_); refine ⟨_, (by dsimp only [bitvec_to_nat, Nat.reduceAdd, Nat.reduceMul, Nat.reduceBEq, reduceCtorEq]), ?_⟩)
| refine o_nil ?_
| (refine g_condD rfl (fun hc => ?_) (fun hc => ?_) <;> try (exfalso; omega))
| refine kr2 ?_ ?_
| refine krB rfl ?_
| refine krS rfl ?_
| refine g_exit ?_
| refine g_ret ?_)
      · rw [show x = rows.length by omega]; rfl
      · rfl
end Go.Proofs.YtbfmjknngofleaaGreat
