/- The law of Birkhoff's theorem, walked. -/
import Derived.Test.YtbfmjknngofleaaGreatLWd
import Derived.Test.YtbfmjknngofleaaGreatLWe
import Derived.Test.YtbfmjknngofleaaGreatLWc
import Derived.Test.YtbfmjknngofleaaGreatLAr
import Derived.Test.YtbfmjknngofleaaGreatLAs
import Derived.Test.YtbfmjknngofleaaGreatLAyN
import Derived.Test.YtbfmjknngofleaaGreatLCgN
import Derived.Test.YtbfmjknngofleaaGreatLAz
import Derived.Test.YtbfmjknngofleaaGreatLCh
import Derived.Test.YtbfmjknngofleaaGreatLCc
import Derived.Test.YtbfmjknngofleaaGreatLCd
import Derived.Test.YtbfmjknngofleaaGreatLSv
import Derived.Test.YtbfmjknngofleaaGreatLWh
namespace Go.Proofs.YtbfmjknngofleaaGreat
open Go Go.Pv Go.Proofs
attribute [local bitvec_to_nat] St.put St.setObj St.ev killP killA killP1 killH mapHO renP renA ren1 killG killGA killG1 krowP krowA krow1 lendP lendA lend1 unv pinP pin1 elemsM viewM viewN viewV n_set_z n_set_s n_map_c n_map_n getD_z getD_s n_toNat n_cond_t n_cond_f n_len_c n_len_n n_app_c n_app_n n_take_s n_take_z n_drop_s n_drop_z n_get_z n_get_s view viewA view1 elems Nat.zero_add Nat.add_zero Bool.not_true Bool.not_false Nat.one_ne_zero Nat.mul_one

theorem pcalls_le {P : Program} {f : FuncId} {args : List PV} {q q' : PV} (h : PCalls P f args q) (hq : q.le q') : PCalls P f args q' := by
  unfold PCalls at h ⊢
  intro g w vs ha hv
  refine (h g w vs ha hv).mono fun e w' hh => ?_
  obtain ⟨v, g', e1, e2, e3, e4, e5, e6⟩ := hh
  exact ⟨v, g', e1, e2, e3, e4, e5, hq _ _ e6⟩
theorem le_tupN (b : Bool) : (PV.tup [.agg [nilV], B b]).le (.tup [posetP [], B b]) := fun g v h => by
  obtain ⟨vs, rfl, hl, hv⟩ := VR.tup_inv h
  refine .tup vs _ hl fun i q hq => ?_
  rcases i with _ | _ | i
  · simp at hq; subst hq; exact le_posetN g _ (hv 0 _ rfl)
  · simp at hq; subst hq; exact hv 1 _ rfl
  · simp at hq
theorem viewA_grid (rows : List (List Int)) (b : Bool) : viewM [gridI rows] (.tup [.agg [.hp 0], B b]) = .tup [posetP rows, B b] := by
  simp only [viewM, viewN, viewV, List.map_cons, List.map_nil, List.getElem?_cons_zero, gridI, List.map_map]; rfl
def ppR (rows : List (List Int)) : List (List Int) := bif goodL rows then ptsL rows else []
theorem pp_both (rows : List (List Int)) (hok : okP rows) : okP (ppR rows) ∧ PCalls Tryz.prog 31 [posetP rows] (.tup [posetP (ppR rows), B (goodL rows)]) ∧ PCalls Tryz.prog 32 [posetP rows] (.tup [posetP (ppR rows), B (goodL rows)]) := by
  unfold ppR
  cases hg : goodL rows with
  | false => exact ⟨⟨Nat.zero_le _, fun r h => by cases h⟩, pcalls_le (ippF rows hok hg) (le_tupN _), sppF rows hok hg⟩
  | true => exact ⟨okP_pts hok, (ippT rows hok hg).plain rfl (viewA_grid _ _), sppT rows hok hg⟩
def dlR (rows : List (List Int)) : List (List Int) := bif dlB rows then dlV rows else []
theorem dl_both (rows : List (List Int)) (hok : okP rows) : okP (dlR rows) ∧ PCalls Tryz.prog 37 [posetP rows] (.tup [posetP (dlR rows), B (dlB rows)]) ∧ PCalls Tryz.prog 41 [posetP rows] (.tup [posetP (dlR rows), B (dlB rows)]) := by
  unfold dlR
  cases hg : dlB rows with
  | false => exact ⟨⟨Nat.zero_le _, fun r h => by cases h⟩, pcalls_le (idlF_c rows hok hg) (le_tupN _), sdlF_c rows hok hg⟩
  | true => exact ⟨okP_dlV hg, (idlT_c rows hok hg).plain rfl (viewA_grid _ _), sdlT_c rows hok hg⟩
theorem okP_len {rows : List (List Int)} (h : okP rows) : rows.length ≤ 9223372036854775807 := Nat.le_trans h.1 (by decide)
theorem okP_rows {rows : List (List Int)} (h : okP rows) : ∀ r ∈ rows, r.length ≤ 9223372036854775807 := fun r hr => Nat.le_trans (h.2 r hr) (by decide)

set_option maxHeartbeats 1000000 in
set_option maxRecDepth 100000 in
theorem drawDn_c {l : List Int} (h : bytesOk l) : ∃ rows, okP rows ∧ PCalls Tryz.prog 28 [bytesP l] (posetP rows) := by
  obtain ⟨c', rows, -, hok, -, hL⟩ := distr_L (cu0_ok h) (by omega)
  refine ⟨rows, hok, ?_⟩
  refine pcallsC Tryz.func28 rfl Tryz.ntmps28 rfl ?_
  simp only [List.length_cons, List.length_nil, Nat.reduceAdd, Nat.reduceSub, List.replicate_succ, List.replicate_zero, List.cons_append, List.nil_append]
  repeat' (first
| refine g_seq ?_
| refine g_region ?_
| (refine o_go rfl ?_; (first
| refine p_e rfl (e_box rfl rfl) ?_
| refine p_e rfl (e_callL (n := 1) rfl rfl rfl (by (repeat (first | refine ⟨leS_refl _, ?_⟩ | refine ⟨leS_nn _ _ _, ?_⟩ | refine ⟨leS_nil _, ?_⟩ | refine ⟨leS_any _, ?_⟩)); exact trivial) rfl (by rfl) (by first | exact ⟨rfl, rfl, rfl, by simp⟩ | exact ⟨rfl, rfl, by simp⟩ | trivial) (hL)) ?_
| refine p_p (ps_move rfl) ?_
| refine p_p (ps_assign rfl) ?_
| refine p_e rfl (e_store_boxA rfl rfl rfl rfl (by exact Nat.le_of_ble_eq_true rfl) rfl rfl rfl) ?_
| refine p_e rfl (e_alloc rfl) ?_
| refine p_p (ps_build rfl rfl) ?_); refine ⟨_, (by dsimp only [bitvec_to_nat, Nat.reduceAdd, Nat.reduceMul, Nat.reduceBEq, reduceCtorEq]), ?_⟩)
| refine o_nil ?_
| refine krc ?_
| refine krC rfl (by exact Nat.le_of_ble_eq_true rfl) ?_
| refine g_ret ?_)
  rfl
set_option maxHeartbeats 1000000 in
set_option maxRecDepth 100000 in
theorem drawCd_c {l : List Int} (h : bytesOk l) : ∃ rows, okP rows ∧ PCalls Tryz.prog 93 [bytesP l] (posetP rows) := by
  obtain ⟨c', rows, -, hok, -, hL⟩ := poset_L (cu0_ok h) (by omega)
  refine ⟨rows, hok, ?_⟩
  refine pcallsC Tryz.func93 rfl Tryz.ntmps93 rfl ?_
  simp only [List.length_cons, List.length_nil, Nat.reduceAdd, Nat.reduceSub, List.replicate_succ, List.replicate_zero, List.cons_append, List.nil_append]
  repeat' (first
| refine g_seq ?_
| refine g_region ?_
| (refine o_go rfl ?_; (first
| refine p_e rfl (e_box rfl rfl) ?_
| refine p_e rfl (e_callL (n := 1) rfl rfl rfl (by (repeat (first | refine ⟨leS_refl _, ?_⟩ | refine ⟨leS_nn _ _ _, ?_⟩ | refine ⟨leS_nil _, ?_⟩ | refine ⟨leS_any _, ?_⟩)); exact trivial) rfl (by rfl) (by first | exact ⟨rfl, rfl, rfl, by simp⟩ | exact ⟨rfl, rfl, by simp⟩ | trivial) (hL)) ?_
| refine p_p (ps_move rfl) ?_
| refine p_p (ps_assign rfl) ?_
| refine p_e rfl (e_store_boxA rfl rfl rfl rfl (by exact Nat.le_of_ble_eq_true rfl) rfl rfl rfl) ?_
| refine p_e rfl (e_alloc rfl) ?_
| refine p_p (ps_build rfl rfl) ?_); refine ⟨_, (by dsimp only [bitvec_to_nat, Nat.reduceAdd, Nat.reduceMul, Nat.reduceBEq, reduceCtorEq]), ?_⟩)
| refine o_nil ?_
| refine krc ?_
| refine krC rfl (by exact Nat.le_of_ble_eq_true rfl) ?_
| refine g_ret ?_)
  rfl
set_option maxRecDepth 100000 in
theorem drawDl_c {l : List Int} (h : bytesOk l) : ∃ rows, okP rows ∧ PCalls Tryz.prog 40 [bytesP l] (posetP rows) := by
  obtain ⟨rows, hok, hc⟩ := drawCd_c h
  refine ⟨rows, hok, ?_⟩
  refine pcallsC Tryz.func40 rfl Tryz.ntmps40 rfl ?_
  simp only [List.length_cons, List.length_nil, Nat.reduceAdd, Nat.reduceSub, List.replicate_succ, List.replicate_zero, List.cons_append, List.nil_append]
  repeat' (first
| refine g_seq ?_
| refine g_region ?_
| (refine o_go rfl ?_; (first
| refine p_p (ps_call rfl rfl (by (repeat (first | refine ⟨PV.le_refl _, ?_⟩ | refine ⟨PV.le_nn _ _ _, ?_⟩ | refine ⟨PV.le_nil _, ?_⟩ | refine ⟨PV.le_any _, ?_⟩)); exact trivial) (hc)) ?_
| refine p_p (ps_move rfl) ?_
| refine p_e rfl (e_store_boxA rfl rfl rfl rfl (by exact Nat.le_of_ble_eq_true rfl) rfl rfl rfl) ?_
| refine p_e rfl (e_alloc rfl) ?_); refine ⟨_, (by dsimp only [bitvec_to_nat, Nat.reduceAdd, Nat.reduceMul, Nat.reduceBEq, reduceCtorEq]), ?_⟩)
| refine o_nil ?_
| refine krc ?_
| refine krC rfl (by exact Nat.le_of_ble_eq_true rfl) ?_
| refine g_ret ?_)
  rfl
set_option maxHeartbeats 1000000 in
set_option maxRecDepth 100000 in
theorem drawTop_c {l : List Int} (h : bytesOk l) : ∃ rows x, okP rows ∧ PCalls Tryz.prog 43 [bytesP l] (.tup [posetP rows, I x]) := by
  obtain ⟨c1, rows, k1, hok, hl, h1⟩ := lattice_L (cu0_ok h) (by omega)
  obtain ⟨c2, x, k2, h2⟩ := point23_L k1 (by omega) rows hok (by omega)
  refine ⟨rows, x, hok, ?_⟩
  refine pcallsCT Tryz.func43 rfl Tryz.ntmps43 rfl ?_
  simp only [List.length_cons, List.length_nil, Nat.reduceAdd, Nat.reduceSub, List.replicate_succ, List.replicate_zero, List.cons_append, List.nil_append]
  repeat' (first
| refine g_seq ?_
| refine g_region ?_
| (refine o_go rfl ?_; (first
| refine p_e rfl (e_box rfl rfl) ?_
| refine p_e rfl (e_callL (n := 1) rfl rfl rfl (by (repeat (first | refine ⟨leS_refl _, ?_⟩ | refine ⟨leS_nn _ _ _, ?_⟩ | refine ⟨leS_nil _, ?_⟩ | refine ⟨leS_any _, ?_⟩)); exact trivial) rfl (by rfl) (by first | exact ⟨rfl, rfl, rfl, by simp⟩ | exact ⟨rfl, rfl, by simp⟩ | trivial) (h1)) ?_
| refine p_p (ps_move rfl) ?_
| refine p_p (ps_assign rfl) ?_
| refine p_e rfl (e_store_boxA rfl rfl rfl rfl (by exact Nat.le_of_ble_eq_true rfl) rfl rfl rfl) ?_
| refine p_e rfl (e_alloc rfl) ?_
| refine p_p (ps_build rfl rfl) ?_); refine ⟨_, (by dsimp only [bitvec_to_nat, Nat.reduceAdd, Nat.reduceMul, Nat.reduceBEq, reduceCtorEq]), ?_⟩)
| refine o_nil ?_)
  refine g_region_drawZ [(0, some []), (1, some []), (2, some []), (3, none), (4, none), (5, none)] [] (fun hp => hp[2]? = some (.box [intss rows])) (by kernel_rfl) rfl (by kernel_rfl) ?_
  repeat' (first
| refine z_nil ?_
| ((first
| refine z_pure rfl rfl (fun hp hH => ps_load_boxA rfl rfl hH (by exact Nat.le_of_ble_eq_true rfl)) (by repeat (first | exact trivial | refine ⟨rfl, ?_⟩)) (by first | exact fun _ _ => trivial | exact (by intro y hy; simp [Op.operands] at hy; first | (subst hy; repeat (first | exact trivial | refine ⟨rfl, ?_⟩)) | (rcases hy with rfl | rfl <;> repeat (first | exact trivial | refine ⟨rfl, ?_⟩)))) (by decide) (by first | exact trivial | exact rfl | exact ⟨rfl, rfl⟩ | exact ⟨rfl, rfl, rfl⟩ | exact ⟨rfl, .inl ⟨_, rfl, by simp only [List.length_map]; omega⟩⟩ | exact ⟨rfl, .inr ⟨_, rfl, by simp only [List.length_map]; omega⟩⟩) ?_
| refine z_pure rfl rfl (fun _ _ => ps_move rfl) (by repeat (first | exact trivial | refine ⟨rfl, ?_⟩)) (by first | exact fun _ _ => trivial | exact (by intro y hy; simp [Op.operands] at hy; first | (subst hy; repeat (first | exact trivial | refine ⟨rfl, ?_⟩)) | (rcases hy with rfl | rfl <;> repeat (first | exact trivial | refine ⟨rfl, ?_⟩)))) (by decide) (by first | exact trivial | exact rfl | exact ⟨rfl, rfl⟩ | exact ⟨rfl, rfl, rfl⟩ | exact ⟨rfl, .inl ⟨_, rfl, by simp only [List.length_map]; omega⟩⟩ | exact ⟨rfl, .inr ⟨_, rfl, by simp only [List.length_map]; omega⟩⟩) ?_
| refine z_eff rfl rfl (by first | exact trivial | exact .inl ⟨rfl, rfl⟩ | exact .inr (.inl ⟨rfl, rfl⟩) | exact .inr (.inr (.inl ⟨rfl, rfl⟩)) | exact .inr (.inr (.inr (.inl ⟨rfl, rfl⟩)))) (j_callLB (n := 1) rfl rfl rfl (by (repeat (first | refine ⟨leS_refl _, ?_⟩ | refine ⟨leS_nn _ _ _, ?_⟩ | refine ⟨leS_nil _, ?_⟩ | refine ⟨leS_any _, ?_⟩)); exact trivial) (by rfl) (by rfl) (h2)) (by first | exact .inr (by decide) | exact .inl (by first | exact trivial | exact rfl | exact ⟨rfl, rfl⟩ | exact ⟨rfl, rfl, rfl⟩ | exact ⟨rfl, .inl ⟨_, rfl, by simp only [List.length_map]; omega⟩⟩ | exact ⟨rfl, .inr ⟨_, rfl, by simp only [List.length_map]; omega⟩⟩)) ?_
| refine z_eff rfl rfl (by first | exact trivial | exact .inl ⟨rfl, rfl⟩ | exact .inr (.inl ⟨rfl, rfl⟩) | exact .inr (.inr (.inl ⟨rfl, rfl⟩)) | exact .inr (.inr (.inr (.inl ⟨rfl, rfl⟩)))) (j_store_boxA rfl rfl rfl rfl (by exact Nat.le_of_ble_eq_true rfl) rfl rfl rfl) (by first | exact .inr (by decide) | exact .inl (by first | exact trivial | exact rfl | exact ⟨rfl, rfl⟩ | exact ⟨rfl, rfl, rfl⟩ | exact ⟨rfl, .inl ⟨_, rfl, by simp only [List.length_map]; omega⟩⟩ | exact ⟨rfl, .inr ⟨_, rfl, by simp only [List.length_map]; omega⟩⟩)) ?_
| refine z_eff rfl rfl (by first | exact trivial | exact .inl ⟨rfl, rfl⟩ | exact .inr (.inl ⟨rfl, rfl⟩) | exact .inr (.inr (.inl ⟨rfl, rfl⟩)) | exact .inr (.inr (.inr (.inl ⟨rfl, rfl⟩)))) (j_pure (ps_assign rfl)) (by first | exact .inr (by decide) | exact .inl (by first | exact trivial | exact rfl | exact ⟨rfl, rfl⟩ | exact ⟨rfl, rfl, rfl⟩ | exact ⟨rfl, .inl ⟨_, rfl, by simp only [List.length_map]; omega⟩⟩ | exact ⟨rfl, .inr ⟨_, rfl, by simp only [List.length_map]; omega⟩⟩)) ?_); refine ⟨_, (by dsimp only [appJ, killO, bitvec_to_nat, Nat.reduceAdd, Nat.reduceMul, Nat.reduceBEq, reduceCtorEq]), ?_⟩))
  repeat' (first
| refine krct ?_ ?_
| refine krC rfl (by exact Nat.le_of_ble_eq_true rfl) ?_
| refine krI rfl ?_
| refine g_ret ?_)
  all_goals rfl
theorem dst_dl {p : List (List Int)} (D : Dst p) : dlB (ptsL p) = true := by
  unfold dlB
  rw [pts_good D.good, ds_count D]
  have := good_10L D.good
  simp [this]
theorem cdV_dl {q : List (List Int)} (h : dlB q = true) : cdV q = ((dlV q).length : Int) := by
  unfold cdV dlV
  unfold dlB at h
  rw [Bool.and_eq_true] at h
  rw [h.1, dlL_len]; rfl
set_option maxHeartbeats 8000000 in
set_option maxRecDepth 100000 in
theorem law_bi (l : List Int) (hl : l.length ≤ maxLen) (hby : ∀ i, i < l.length → 0 ≤ l.getD i 0 ∧ l.getD i 0 ≤ 255) : PCalls Tryz.prog 4 [bytesP l] (B true) := by
  refine pcalls1 Tryz.func4 rfl Tryz.ntmps4 rfl ?_
  simp only [List.length_cons, List.length_nil, Nat.reduceAdd, Nat.reduceSub, List.replicate_succ, List.replicate_zero, List.cons_append, List.nil_append]
  have hv := vbig_c l (Nat.le_trans hl (by decide))
  by_cases hbig : 65536 < (l.length : Int)
  · rw [decide_eq_true hbig] at hv
    repeat' (first
| refine g_seq ?_
| refine g_region ?_
| (refine o_go rfl ?_; (first
| refine p_p (ps_call rfl rfl (by (repeat (first | refine ⟨PV.le_refl _, ?_⟩ | refine ⟨PV.le_nn _ _ _, ?_⟩ | refine ⟨PV.le_nil _, ?_⟩ | refine ⟨PV.le_any _, ?_⟩)); exact trivial) (hv)) ?_
| refine p_p (ps_move rfl) ?_
| refine p_p (ps_assign rfl) ?_); refine ⟨_, (by dsimp only [bitvec_to_nat, Nat.reduceAdd, Nat.reduceMul, Nat.reduceBEq, reduceCtorEq]), ?_⟩)
| refine o_nil ?_
| refine g_condT rfl ?_
| refine kr1 ?_
| refine krB rfl ?_
| refine g_ret ?_)
    all_goals rfl
  rw [decide_eq_false hbig] at hv
  have hB : bytesOk l := ⟨by omega, hby⟩
  obtain ⟨p, hp, d1⟩ := drawDn_c hB
  obtain ⟨q, hq, d2⟩ := drawDl_c hB
  obtain ⟨r, x, hr, d3⟩ := drawTop_c hB
  have a1 : PCalls Tryz.prog 29 [posetP p] (.tup [ints (dnumV p), B (goodL p && !(uneven3 p).isSome)]) := (idnum_R p hp).plain rfl rfl
  have a2 : PCalls Tryz.prog 30 [posetP p] (.tup [ints (dnumV p), B (goodL p && !(uneven3 p).isSome)]) := sdnum_c p hp
  have v1 := vints_c (dnumV p) (Nat.le_trans (dnumV_len hp) (by decide))
  obtain ⟨hpp, a3, a4⟩ := pp_both p hp
  have v2 := vposet_c (ppR p) (okP_len hpp) (okP_rows hpp)
  have a5 := (ipbs_R p hp).plain rfl (viewT_grid _ _)
  have a6 := spb_c p hp
  have v3 := vtable_c (pbV p) (okP_len (okP_pbV hp)) (okP_rows (okP_pbV hp))
  have a7 := idist_c p hp
  have a8 := sdist_c p hp
  repeat' ((fail_if_success (refine at_reg 17 ?_)); (first
| refine g_seq ?_
| refine g_region ?_
| (refine o_go rfl ?_; (first
| refine p_p (ps_call rfl rfl (by (repeat (first | refine ⟨PV.le_refl _, ?_⟩ | refine ⟨PV.le_nn _ _ _, ?_⟩ | refine ⟨PV.le_nil _, ?_⟩ | refine ⟨PV.le_any _, ?_⟩)); exact trivial) (hv)) ?_
| refine p_p (ps_call rfl rfl (by (repeat (first | refine ⟨PV.le_refl _, ?_⟩ | refine ⟨PV.le_nn _ _ _, ?_⟩ | refine ⟨PV.le_nil _, ?_⟩ | refine ⟨PV.le_any _, ?_⟩)); exact trivial) (d1)) ?_
| refine p_p (ps_call rfl rfl (by (repeat (first | refine ⟨PV.le_refl _, ?_⟩ | refine ⟨PV.le_nn _ _ _, ?_⟩ | refine ⟨PV.le_nil _, ?_⟩ | refine ⟨PV.le_any _, ?_⟩)); exact trivial) (a1)) ?_
| refine p_p (ps_call rfl rfl (by (repeat (first | refine ⟨PV.le_refl _, ?_⟩ | refine ⟨PV.le_nn _ _ _, ?_⟩ | refine ⟨PV.le_nil _, ?_⟩ | refine ⟨PV.le_any _, ?_⟩)); exact trivial) (a2)) ?_
| refine p_p (ps_call rfl rfl (by (repeat (first | refine ⟨PV.le_refl _, ?_⟩ | refine ⟨PV.le_nn _ _ _, ?_⟩ | refine ⟨PV.le_nil _, ?_⟩ | refine ⟨PV.le_any _, ?_⟩)); exact trivial) (v1)) ?_
| refine p_p (ps_call rfl rfl (by (repeat (first | refine ⟨PV.le_refl _, ?_⟩ | refine ⟨PV.le_nn _ _ _, ?_⟩ | refine ⟨PV.le_nil _, ?_⟩ | refine ⟨PV.le_any _, ?_⟩)); exact trivial) (a3)) ?_
| refine p_p (ps_call rfl rfl (by (repeat (first | refine ⟨PV.le_refl _, ?_⟩ | refine ⟨PV.le_nn _ _ _, ?_⟩ | refine ⟨PV.le_nil _, ?_⟩ | refine ⟨PV.le_any _, ?_⟩)); exact trivial) (a4)) ?_
| refine p_p (ps_call rfl rfl (by (repeat (first | refine ⟨PV.le_refl _, ?_⟩ | refine ⟨PV.le_nn _ _ _, ?_⟩ | refine ⟨PV.le_nil _, ?_⟩ | refine ⟨PV.le_any _, ?_⟩)); exact trivial) (v2)) ?_
| refine p_p (ps_call rfl rfl (by (repeat (first | refine ⟨PV.le_refl _, ?_⟩ | refine ⟨PV.le_nn _ _ _, ?_⟩ | refine ⟨PV.le_nil _, ?_⟩ | refine ⟨PV.le_any _, ?_⟩)); exact trivial) (a5)) ?_
| refine p_p (ps_call rfl rfl (by (repeat (first | refine ⟨PV.le_refl _, ?_⟩ | refine ⟨PV.le_nn _ _ _, ?_⟩ | refine ⟨PV.le_nil _, ?_⟩ | refine ⟨PV.le_any _, ?_⟩)); exact trivial) (a6)) ?_
| refine p_p (ps_call rfl rfl (by (repeat (first | refine ⟨PV.le_refl _, ?_⟩ | refine ⟨PV.le_nn _ _ _, ?_⟩ | refine ⟨PV.le_nil _, ?_⟩ | refine ⟨PV.le_any _, ?_⟩)); exact trivial) (v3)) ?_
| refine p_p (ps_call rfl rfl (by (repeat (first | refine ⟨PV.le_refl _, ?_⟩ | refine ⟨PV.le_nn _ _ _, ?_⟩ | refine ⟨PV.le_nil _, ?_⟩ | refine ⟨PV.le_any _, ?_⟩)); exact trivial) (a7)) ?_
| refine p_p (ps_neqBS rfl rfl rfl) ?_
| refine p_p (ps_move rfl) ?_
| refine p_p (ps_assign rfl) ?_
| refine p_p (ps_extract rfl rfl rfl) ?_
| refine p_p (ps_not rfl rfl) ?_
| refine p_p (ps_pick rfl rfl) ?_
| refine p_p (ps_load_boxA rfl rfl rfl (by exact Nat.le_of_ble_eq_true rfl)) ?_
| refine p_e rfl (e_store_boxA rfl rfl rfl rfl (by exact Nat.le_of_ble_eq_true rfl) rfl rfl rfl) ?_
| refine p_e rfl (e_alloc rfl) ?_); refine ⟨_, (by dsimp only [bitvec_to_nat, Nat.reduceAdd, Nat.reduceMul, Nat.reduceBEq, reduceCtorEq]), ?_⟩)
| refine o_nil ?_
| refine g_condF rfl ?_
| refine g_skip ?_))
  refine g_join [] [] [.box [intss p], .box [intss (ppR p)], .box [intss (ppR p)]] (by simp only [havoc, dsts, List.filterMap_cons, List.filterMap_nil, List.foldl_cons, List.foldl_nil, List.cons_append, List.nil_append, List.append_nil, List.set_cons_succ, List.set_cons_zero]; exact rfl) ?_ ⟨_, rfl, ?_⟩
  · generalize hD : (goodL p && !(uneven3 p).isSome) = D at *
    generalize hg : goodL p = g at *
    cases g with
    | false =>
      rw [Bool.false_and] at hD
      subst hD
      repeat' (first
| refine g_seq ?_
| refine g_region ?_
| (refine o_go rfl ?_; (first
| refine p_p (ps_call rfl rfl (by (repeat (first | refine ⟨PV.le_refl _, ?_⟩ | refine ⟨PV.le_nn _ _ _, ?_⟩ | refine ⟨PV.le_nil _, ?_⟩ | refine ⟨PV.le_any _, ?_⟩)); exact trivial) (a8)) ?_
| refine p_p (ps_neqBS rfl rfl rfl) ?_
| refine p_p (ps_move rfl) ?_
| refine p_p (ps_assign rfl) ?_
| refine p_p (ps_extract rfl rfl rfl) ?_
| refine p_p (ps_pick rfl rfl) ?_
| refine p_p (ps_load_boxA rfl rfl rfl (by exact Nat.le_of_ble_eq_true rfl)) ?_); refine ⟨_, (by dsimp only [bitvec_to_nat, Nat.reduceAdd, Nat.reduceMul, Nat.reduceBEq, reduceCtorEq]), ?_⟩)
| refine o_nil ?_
| (refine o_s rfl ?_; refine ⟨_, (by dsimp only [bitvec_to_nat, Nat.reduceAdd, Nat.reduceMul, Nat.reduceBEq, reduceCtorEq]), ?_⟩)
| refine g_condF rfl ?_
| refine g_skip ?_)
      exact k_join (by repeat (first | exact trivial | refine ⟨.inl rfl, ?_⟩ | refine ⟨.inr rfl, ?_⟩)) trivial (hpLe_cons rfl (hpLe_cons rfl (hpLe_cons rfl (hpLe_nil _))))
    | true =>
      repeat' (first
| refine g_seq ?_
| refine g_region ?_
| (refine o_go rfl ?_; (first
| refine p_p (ps_call rfl rfl (by (repeat (first | refine ⟨PV.le_refl _, ?_⟩ | refine ⟨PV.le_nn _ _ _, ?_⟩ | refine ⟨PV.le_nil _, ?_⟩ | refine ⟨PV.le_any _, ?_⟩)); exact trivial) (a8)) ?_
| refine p_p (ps_neqBS rfl rfl rfl) ?_
| refine p_p (ps_move rfl) ?_
| refine p_p (ps_assign rfl) ?_
| refine p_p (ps_extract rfl rfl rfl) ?_
| refine p_p (ps_pick rfl rfl) ?_
| refine p_p (ps_load_boxA rfl rfl rfl (by exact Nat.le_of_ble_eq_true rfl)) ?_); refine ⟨_, (by dsimp only [bitvec_to_nat, Nat.reduceAdd, Nat.reduceMul, Nat.reduceBEq, reduceCtorEq]), ?_⟩)
| refine o_nil ?_
| refine g_condF rfl ?_
| refine g_skip ?_)
      exact k_join (by repeat (first | exact trivial | refine ⟨.inl rfl, ?_⟩ | refine ⟨.inr rfl, ?_⟩)) trivial (hpLe_cons rfl (hpLe_cons rfl (hpLe_cons rfl (hpLe_nil _))))
  dsimp only [setMany, List.set_cons_zero, List.set_cons_succ]
  repeat' ((fail_if_success (refine at_reg 20 ?_)); (first
| ((refine g_seq ?_); trace "@W42c55161efdf20e9.o65f97fd403")
| ((refine g_block ?_); trace "@W42c55161efdf20e9.ob498b46fe7")
| ((refine g_region ?_); trace "@W42c55161efdf20e9.o244684d497")
| ((refine g_region_draw (by kernel_rfl) (by kernel_rfl) ?_); trace "@W42c55161efdf20e9.ob4d5fb2827")
| (refine o_go rfl ?_; (first
| (refine p_p (ps_move rfl) ?_; trace "@W42c55161efdf20e9.i88afafc5ed")
| (refine p_p (ps_assign rfl) ?_; trace "@W42c55161efdf20e9.i8ba5b8203b")
| (refine p_p (ps_load_cell rfl rfl) ?_; trace "@W42c55161efdf20e9.ide9392a449")
| (refine p_p (ps_load_agg rfl rfl (by exact Nat.le_of_ble_eq_true rfl)) ?_; trace "@W42c55161efdf20e9.id5e9fce031")
| (refine p_p (ps_load_agg rfl rfl (Nat.le_refl _)) ?_; trace "@W42c55161efdf20e9.i7357a97840")
| (refine p_p (ps_index rfl rfl rfl (by omega) (by first | exact idx_I (by omega) | exact idx_B (by omega) | exact idx_ints (by omega) | exact idx_bools (by omega) | exact idx_intss (by omega) | rfl) (by exact rfl)) ?_; trace "@W42c55161efdf20e9.ifd94cb0229")
| (refine p_p (ps_lenM rfl rfl rfl) ?_; trace "@W42c55161efdf20e9.i651e23b408")
| (refine p_p (ps_len rfl rfl rfl) ?_; trace "@W42c55161efdf20e9.i48953a2eae")
| (refine p_p (ps_lss rfl rfl rfl) ?_; trace "@W42c55161efdf20e9.iece3698938")
| (refine p_p (ps_add rfl rfl rfl (by constructor <;> omega)) ?_; trace "@W42c55161efdf20e9.iab4644b76d")
| (refine p_p (ps_fieldAddr rfl rfl) ?_; trace "@W42c55161efdf20e9.ia51eaa1f88")
| (refine p_p (ps_extract rfl rfl rfl) ?_; trace "@W42c55161efdf20e9.i71d836e875")
| (refine p_p (ps_not rfl rfl) ?_; trace "@W42c55161efdf20e9.i6306b71400")
| (refine p_p (ps_pick rfl rfl) ?_; trace "@W42c55161efdf20e9.i07da16aa24")
| (refine p_p (ps_leq rfl rfl rfl) ?_; trace "@W42c55161efdf20e9.id13d0d2e36")
| (refine p_p (ps_gtr rfl rfl rfl) ?_; trace "@W42c55161efdf20e9.ief6e49898e")
| (refine p_p (ps_geq rfl rfl rfl) ?_; trace "@W42c55161efdf20e9.ie4d9949433")
| (refine p_p (ps_eql rfl rfl rfl) ?_; trace "@W42c55161efdf20e9.if2e43d169a")
| (refine p_p (ps_neq rfl rfl rfl) ?_; trace "@W42c55161efdf20e9.i9d1f50cfeb")
| (refine p_p (ps_sub rfl rfl rfl (by constructor <;> omega)) ?_; trace "@W42c55161efdf20e9.i99d1030057")
| (refine p_p (ps_nilCheck rfl rfl) ?_; trace "@W42c55161efdf20e9.i922a565813")
| (refine p_p (ps_nilCheck_fn rfl rfl) ?_; trace "@W42c55161efdf20e9.i4dd2db0b95")
| (refine p_p (ps_field rfl rfl rfl) ?_; trace "@W42c55161efdf20e9.ic88f26a11b")
| (refine p_p (ps_eqnil rfl rfl rfl) ?_; trace "@W42c55161efdf20e9.i47e580ed5f")
| (refine p_p (ps_eqnil_v rfl rfl rfl) ?_; trace "@W42c55161efdf20e9.i9fbbd4fa49")
| (refine p_p (ps_eqnil_o rfl rfl rfl rfl) ?_; trace "@W42c55161efdf20e9.i1223e0e181")
| (refine p_p (ps_len_mut rfl rfl rfl rfl) ?_; trace "@W42c55161efdf20e9.i8a6735b410")
| (refine p_p (ps_len_grid rfl rfl rfl rfl) ?_; trace "@W42c55161efdf20e9.i318c95d166")
| (refine p_p (ps_len_pg rfl rfl rfl rfl) ?_; trace "@W42c55161efdf20e9.i4ef8d11fcb")
| (refine p_p (ps_index_pg rfl rfl rfl rfl (by omega) (by first | omega | (rw [n_toNat]; omega))) ?_; trace "@W42c55161efdf20e9.idf722618c6")
| (refine p_p (ps_index_grid rfl rfl rfl rfl (by omega) (by first | omega | (simp; done) | (simp; omega))) ?_; trace "@W42c55161efdf20e9.iff64d9ecd7")
| (refine p_e rfl (e_store_row rfl rfl rfl rfl (by first | omega | (simp; done) | (simp; omega)) (by omega) rfl rfl rfl (by first | exact one_all (fun _ => rfl) _ | exact one_rep rfl _ | rfl)) ?_; trace "@W42c55161efdf20e9.i711dd71843")
| (refine p_p (ps_load_box rfl rfl rfl rfl) ?_; trace "@W42c55161efdf20e9.i68f3c2d5ad")
| (refine p_p (ps_load_boxA rfl rfl rfl (by exact Nat.le_of_ble_eq_true rfl)) ?_; trace "@W42c55161efdf20e9.if8f792c19e")
| (refine p_p (ps_load_row rfl rfl rfl (by omega)) ?_; trace "@W42c55161efdf20e9.ib8c2b88593")
| (refine p_p (ps_fieldAddr_hat rfl rfl) ?_; trace "@W42c55161efdf20e9.i47032e2e0f")
| (refine p_p (ps_index_mut rfl rfl rfl rfl (by omega) (by first | omega | (simp; done) | (simp; omega))) ?_; trace "@W42c55161efdf20e9.i8f2952d551")
| (refine p_e rfl (e_make1 rfl rfl rfl (by omega) (by omega) (by omega) rfl rfl) ?_; trace "@W42c55161efdf20e9.if4afeff1b2")
| (refine p_e rfl (e_store_arr rfl rfl rfl rfl (by first | omega | (simp; done) | (simp; omega)) rfl rfl) ?_; trace "@W42c55161efdf20e9.i907d8262d4")
| (refine p_e rfl (e_store_boxC rfl rfl rfl rfl (by exact Nat.le_of_ble_eq_true rfl) rfl rfl) ?_; trace "@W42c55161efdf20e9.id7908f556e")
| (refine p_e rfl (e_store_boxA rfl rfl rfl rfl (by exact Nat.le_of_ble_eq_true rfl) rfl rfl rfl) ?_; trace "@W42c55161efdf20e9.ic728ce408c")
| (refine p_e rfl (e_alloc rfl) ?_; trace "@W42c55161efdf20e9.i5e1a309ada")
| (refine p_e rfl (e_lit0 rfl (by decide)) ?_; trace "@W42c55161efdf20e9.if2e4d4ba44")
| (refine p_e rfl (e_append rfl rfl rfl rfl rfl rfl (by first | exact one_one rfl | exact one_map (fun _ => rfl) _) rfl (by first | omega | (simp; done) | (simp; omega)) (by first | omega | (simp; done) | (simp; omega))) ?_; trace "@W42c55161efdf20e9.id7271af66f")
| (refine p_p (ps_box rfl rfl) ?_; trace "@W42c55161efdf20e9.i34a392b571")
| (refine p_p (ps_makeFunc rfl rfl rfl) ?_; trace "@W42c55161efdf20e9.ia900154b8d")
| (refine p_p (ps_lit1 rfl rfl (by rfl) (by rfl)) ?_; trace "@W42c55161efdf20e9.i8f202a48dc")
| (refine p_p (ps_lit2 rfl rfl rfl (by rfl) (by rfl) (by rfl)) ?_; trace "@W42c55161efdf20e9.i07bd212676")
| (refine p_p (ps_lit3 rfl rfl rfl rfl (by rfl) (by rfl) (by rfl) (by rfl)) ?_; trace "@W42c55161efdf20e9.i5480dac4e8")
| (refine p_p (ps_build rfl rfl) ?_; trace "@W42c55161efdf20e9.i7cef79f103")); refine ⟨_, (by dsimp only [bitvec_to_nat, Nat.reduceAdd, Nat.reduceMul, Nat.reduceBEq, reduceCtorEq]), ?_⟩)
| ((refine o_nil ?_); trace "@W42c55161efdf20e9.ocdf983927a")
| (((refine o_s rfl ?_; refine ⟨_, (by dsimp only [bitvec_to_nat, Nat.reduceAdd, Nat.reduceMul, Nat.reduceBEq, reduceCtorEq]), ?_⟩)); trace "@W42c55161efdf20e9.o7ee5af373e")
| (((refine o_splitD rfl rfl rfl (fun hc => ?_) (fun hc => ?_) <;> first | (exfalso; omega) | dsimp only [List.set_cons_zero, List.set_cons_succ])); trace "@W42c55161efdf20e9.o20c7b17272")
| (((refine o_splitN rfl rfl rfl (fun hc => ?_) (fun hc => ?_) <;> dsimp only [List.set_cons_zero, List.set_cons_succ])); trace "@W42c55161efdf20e9.o39a797b970")
| (((refine o_splitA rfl rfl rfl (fun hc => ?_) (fun hc => ?_) <;> dsimp only [List.set_cons_zero, List.set_cons_succ])); trace "@W42c55161efdf20e9.oabd4d77a95")
| ((refine g_condT rfl ?_); trace "@W42c55161efdf20e9.oc154c16280")
| ((refine g_condF rfl ?_); trace "@W42c55161efdf20e9.o3282fba877")
| (((refine g_condN rfl (fun hc => ?_) (fun hc => ?_) <;> try (exfalso; omega))); trace "@W42c55161efdf20e9.o83258699ff")
| (((refine g_condD rfl (fun hc => ?_) (fun hc => ?_) <;> try (exfalso; omega))); trace "@W42c55161efdf20e9.o1e04d83f15")
| (((refine g_condNB rfl (fun hc => ?_) (fun hc => ?_))); trace "@W42c55161efdf20e9.oee4790fb4c")
| (((refine g_cond rfl (fun hc => ?_) (fun hc => ?_))); trace "@W42c55161efdf20e9.oe00bf9e6d2")
| ((refine krr 0 rfl (HandOut.arr rfl ?_ (by first | exact sc_map (fun _ => rfl) _ | exact sc_maps (fun _ => rfl) _ | rfl))); trace "@W42c55161efdf20e9.oad12103aab")
| ((refine krr 1 rfl (HandOut.arr rfl ?_ (by first | exact sc_map (fun _ => rfl) _ | exact sc_maps (fun _ => rfl) _ | rfl))); trace "@W42c55161efdf20e9.o8cd57cde5f")
| ((refine krr 2 rfl (HandOut.arr rfl ?_ (by first | exact sc_map (fun _ => rfl) _ | exact sc_maps (fun _ => rfl) _ | rfl))); trace "@W42c55161efdf20e9.o9aece4f3a6")
| ((refine krr 3 rfl (HandOut.arr rfl ?_ (by first | exact sc_map (fun _ => rfl) _ | exact sc_maps (fun _ => rfl) _ | rfl))); trace "@W42c55161efdf20e9.o44eb9ac1ef")
| ((refine krr 4 rfl (HandOut.arr rfl ?_ (by first | exact sc_map (fun _ => rfl) _ | exact sc_maps (fun _ => rfl) _ | rfl))); trace "@W42c55161efdf20e9.o3def1745a9")
| ((refine krr 5 rfl (HandOut.arr rfl ?_ (by first | exact sc_map (fun _ => rfl) _ | exact sc_maps (fun _ => rfl) _ | rfl))); trace "@W42c55161efdf20e9.o91e959740c")
| ((refine krr 6 rfl (HandOut.arr rfl ?_ (by first | exact sc_map (fun _ => rfl) _ | exact sc_maps (fun _ => rfl) _ | rfl))); trace "@W42c55161efdf20e9.o6c86d56a3b")
| ((refine krr 7 rfl (HandOut.arr rfl ?_ (by first | exact sc_map (fun _ => rfl) _ | exact sc_maps (fun _ => rfl) _ | rfl))); trace "@W42c55161efdf20e9.o5942104d0a")
| ((refine krr2 0 rfl rfl (HandOut.arr rfl ?_ (by first | exact sc_map (fun _ => rfl) _ | exact sc_maps (fun _ => rfl) _ | rfl))); trace "@W42c55161efdf20e9.o07e09161d5")
| ((refine krr2 1 rfl rfl (HandOut.arr rfl ?_ (by first | exact sc_map (fun _ => rfl) _ | exact sc_maps (fun _ => rfl) _ | rfl))); trace "@W42c55161efdf20e9.o68c0e5d197")
| ((refine krr2 2 rfl rfl (HandOut.arr rfl ?_ (by first | exact sc_map (fun _ => rfl) _ | exact sc_maps (fun _ => rfl) _ | rfl))); trace "@W42c55161efdf20e9.o4485c85a1b")
| ((refine krr2 3 rfl rfl (HandOut.arr rfl ?_ (by first | exact sc_map (fun _ => rfl) _ | exact sc_maps (fun _ => rfl) _ | rfl))); trace "@W42c55161efdf20e9.of9329e0cd7")
| ((refine krr2 4 rfl rfl (HandOut.arr rfl ?_ (by first | exact sc_map (fun _ => rfl) _ | exact sc_maps (fun _ => rfl) _ | rfl))); trace "@W42c55161efdf20e9.o8147e01ded")
| ((refine krr2 5 rfl rfl (HandOut.arr rfl ?_ (by first | exact sc_map (fun _ => rfl) _ | exact sc_maps (fun _ => rfl) _ | rfl))); trace "@W42c55161efdf20e9.oc99a9905e6")
| ((refine krr2 6 rfl rfl (HandOut.arr rfl ?_ (by first | exact sc_map (fun _ => rfl) _ | exact sc_maps (fun _ => rfl) _ | rfl))); trace "@W42c55161efdf20e9.o09a527e8de")
| ((refine krr2 7 rfl rfl (HandOut.arr rfl ?_ (by first | exact sc_map (fun _ => rfl) _ | exact sc_maps (fun _ => rfl) _ | rfl))); trace "@W42c55161efdf20e9.o8c6c5d1db5")
| ((refine krr2e 0 rfl rfl (eB ?_) (HandOut.arr rfl ?_ (by first | exact sc_map (fun _ => rfl) _ | exact sc_maps (fun _ => rfl) _ | rfl))); trace "@W42c55161efdf20e9.o5669d76986")
| ((refine krr2e 1 rfl rfl (eB ?_) (HandOut.arr rfl ?_ (by first | exact sc_map (fun _ => rfl) _ | exact sc_maps (fun _ => rfl) _ | rfl))); trace "@W42c55161efdf20e9.ocb3ac67a4e")
| ((refine krr2e 2 rfl rfl (eB ?_) (HandOut.arr rfl ?_ (by first | exact sc_map (fun _ => rfl) _ | exact sc_maps (fun _ => rfl) _ | rfl))); trace "@W42c55161efdf20e9.o4b9fa834c1")
| ((refine krr2e 3 rfl rfl (eB ?_) (HandOut.arr rfl ?_ (by first | exact sc_map (fun _ => rfl) _ | exact sc_maps (fun _ => rfl) _ | rfl))); trace "@W42c55161efdf20e9.o1092c2ee44")
| ((refine krr2e 4 rfl rfl (eB ?_) (HandOut.arr rfl ?_ (by first | exact sc_map (fun _ => rfl) _ | exact sc_maps (fun _ => rfl) _ | rfl))); trace "@W42c55161efdf20e9.oe579cf6fc6")
| ((refine kr1 ?_); trace "@W42c55161efdf20e9.oe1eb9f8bd6")
| ((refine kr2 ?_ ?_); trace "@W42c55161efdf20e9.oaec1875011")
| ((refine kr3 ?_ ?_ ?_); trace "@W42c55161efdf20e9.o5e3ee917a2")
| ((exact krAny); trace "@W42c55161efdf20e9.oe74fd368ad")
| ((refine krc ?_); trace "@W42c55161efdf20e9.o18a8ee30ba")
| ((refine krct ?_ ?_); trace "@W42c55161efdf20e9.o685f809f50")
| ((refine krC rfl (by exact Nat.le_of_ble_eq_true rfl) ?_); trace "@W42c55161efdf20e9.o4f0533aaec")
| ((refine krC_any rfl (by exact Nat.le_of_ble_eq_true rfl)); trace "@W42c55161efdf20e9.o7c23d5e8bd")
| ((refine krB rfl ?_); trace "@W42c55161efdf20e9.o7d5857dacb")
| ((refine krI rfl ?_); trace "@W42c55161efdf20e9.o7513cb2e80")
| ((refine krS rfl ?_); trace "@W42c55161efdf20e9.o4f5aa5cfca")
| ((refine krN rfl ?_); trace "@W42c55161efdf20e9.oe3bc73c9ca")
| ((refine krA rfl ?_); trace "@W42c55161efdf20e9.o0c8896477d")
| ((refine krP rfl ?_); trace "@W42c55161efdf20e9.o23c9c87ff3")
| ((refine g_skip ?_); trace "@W42c55161efdf20e9.o0cc4b7aaff")
| ((refine g_exit ?_); trace "@W42c55161efdf20e9.o8861bbd0ca")
| ((refine g_ret ?_); trace "@W42c55161efdf20e9.o5f22f2e9d7")))
  refine g_join [] [] [.box [intss p], .box [intss (ppR p)], .box [intss (ppR p)]] (by simp only [havoc, dsts, List.filterMap_cons, List.filterMap_nil, List.foldl_cons, List.foldl_nil, List.cons_append, List.nil_append, List.append_nil, List.set_cons_succ, List.set_cons_zero]; exact rfl) ?_ ⟨_, rfl, ?_⟩
  · cases hd : goodL p && !(uneven3 p).isSome with
    | false =>
      repeat' (first
| refine g_seq ?_
| refine g_region ?_
| (refine o_go rfl ?_; (first
| refine p_p (ps_move rfl) ?_); refine ⟨_, (by dsimp only [bitvec_to_nat, Nat.reduceAdd, Nat.reduceMul, Nat.reduceBEq, reduceCtorEq]), ?_⟩)
| refine o_nil ?_
| refine g_condF rfl ?_
| refine g_skip ?_)
      exact k_join (by repeat (first | exact trivial | refine ⟨.inl rfl, ?_⟩ | refine ⟨.inr rfl, ?_⟩)) trivial (hpLe_cons rfl (hpLe_cons rfl (hpLe_cons rfl (hpLe_nil _))))
    | true =>
      have D : Dst p := dst_of hd
      have hdl := dst_dl D
      have hpe : ppR p = ptsL p := by unfold ppR; rw [D.good]; rfl
      have hpo : okP (ptsL p) := okP_pts hp
      have b1 : PCalls Tryz.prog 37 [posetP (ppR p)] (.tup [posetP (dlV (ptsL p)), B true]) := by rw [hpe]; exact (idlT_c (ptsL p) hpo hdl).plain rfl (viewA_grid _ _)
      have hlen : (dlV (ptsL p)).length = p.length := by unfold dlV; rw [dlL_len, ds_count D]
      have b2 : PCalls Tryz.prog 38 [posetP (ppR p)] (.tup [I (p.length : Int), B true]) := by
        have := icd_c (ptsL p) hpo
        rw [cdV_dl hdl, hlen, pts_good D.good] at this
        rw [hpe]; exact this
      have hR := rfl_of (pts_good D.good)
      have h10 : (dsO (ptsL p)).length ≤ 10 := by rw [ds_count D]; exact good_10L D.good
      have hdn : dnumV p = dnumL p p.length := by unfold dnumV; rw [show distB p = true from hd]; rfl
      have b3 := iilm_c p (dlV (ptsL p)) (dnumV p) hp (okP_dlV hdl) (dnumV_len hp)
      rw [D.good, dl_good hR h10, hdn, dnum_map D] at b3
      rw [← hdn] at b3
      repeat' (first
| refine g_seq ?_
| refine g_region ?_
| (refine o_go rfl ?_; (first
| refine p_p (ps_call rfl rfl (by (repeat (first | refine ⟨PV.le_refl _, ?_⟩ | refine ⟨PV.le_nn _ _ _, ?_⟩ | refine ⟨PV.le_nil _, ?_⟩ | refine ⟨PV.le_any _, ?_⟩)); exact trivial) (b1)) ?_
| refine p_p (ps_call rfl rfl (by (repeat (first | refine ⟨PV.le_refl _, ?_⟩ | refine ⟨PV.le_nn _ _ _, ?_⟩ | refine ⟨PV.le_nil _, ?_⟩ | refine ⟨PV.le_any _, ?_⟩)); exact trivial) (b2)) ?_
| refine p_p (ps_call rfl rfl (by (repeat (first | refine ⟨PV.le_refl _, ?_⟩ | refine ⟨PV.le_nn _ _ _, ?_⟩ | refine ⟨PV.le_nil _, ?_⟩ | refine ⟨PV.le_any _, ?_⟩)); exact trivial) (b3)) ?_
| refine p_p (ps_move rfl) ?_
| refine p_p (ps_assign rfl) ?_
| refine p_p (ps_lenM rfl rfl rfl) ?_
| refine p_p (ps_extract rfl rfl rfl) ?_
| refine p_p (ps_not rfl rfl) ?_
| refine p_p (ps_pick rfl rfl) ?_
| refine p_p (ps_neq rfl rfl rfl) ?_
| refine p_p (ps_load_box rfl rfl rfl rfl) ?_
| refine p_p (ps_load_boxA rfl rfl rfl (by exact Nat.le_of_ble_eq_true rfl)) ?_
| refine p_p (ps_fieldAddr_hat rfl rfl) ?_
| refine p_e rfl (e_store_boxA rfl rfl rfl rfl (by exact Nat.le_of_ble_eq_true rfl) rfl rfl rfl) ?_
| refine p_e rfl (e_alloc rfl) ?_); refine ⟨_, (by dsimp only [bitvec_to_nat, Nat.reduceAdd, Nat.reduceMul, Nat.reduceBEq, reduceCtorEq]), ?_⟩)
| refine o_nil ?_
| (refine o_s rfl ?_; refine ⟨_, (by dsimp only [bitvec_to_nat, Nat.reduceAdd, Nat.reduceMul, Nat.reduceBEq, reduceCtorEq]), ?_⟩)
| (refine o_splitN rfl rfl rfl (fun hc => ?_) (fun hc => ?_) <;> dsimp only [List.set_cons_zero, List.set_cons_succ])
| refine g_condT rfl ?_
| refine g_condF rfl ?_
| (refine g_condN rfl (fun hc => ?_) (fun hc => ?_) <;> try (exfalso; omega))
| refine kr1 ?_
| refine krB rfl ?_
| refine g_skip ?_
| refine g_ret ?_)
      all_goals try (exfalso; omega)
      all_goals try (exfalso; have hc' := of_decide_eq_false hc; omega)
      all_goals exact k_join (by repeat (first | exact trivial | refine ⟨.inl rfl, ?_⟩ | refine ⟨.inr rfl, ?_⟩)) trivial (hpLe_cons rfl (hpLe_cons rfl (hpLe_cons rfl (hpLe_nil _))))
  dsimp only [setMany, List.set_cons_zero, List.set_cons_succ]
  obtain ⟨hdo, e1, e2⟩ := dl_both q hq
  have v4 := vposet_c (dlR q) (okP_len hdo) (okP_rows hdo)
  have e3 := icd_c q hq
  have e4 := scd_c q hq
  repeat' ((fail_if_success (refine at_reg 37 ?_)); (first
| refine g_seq ?_
| refine g_region ?_
| (refine o_go rfl ?_; (first
| refine p_p (ps_call rfl rfl (by (repeat (first | refine ⟨PV.le_refl _, ?_⟩ | refine ⟨PV.le_nn _ _ _, ?_⟩ | refine ⟨PV.le_nil _, ?_⟩ | refine ⟨PV.le_any _, ?_⟩)); exact trivial) (d2)) ?_
| refine p_p (ps_call rfl rfl (by (repeat (first | refine ⟨PV.le_refl _, ?_⟩ | refine ⟨PV.le_nn _ _ _, ?_⟩ | refine ⟨PV.le_nil _, ?_⟩ | refine ⟨PV.le_any _, ?_⟩)); exact trivial) (e1)) ?_
| refine p_p (ps_call rfl rfl (by (repeat (first | refine ⟨PV.le_refl _, ?_⟩ | refine ⟨PV.le_nn _ _ _, ?_⟩ | refine ⟨PV.le_nil _, ?_⟩ | refine ⟨PV.le_any _, ?_⟩)); exact trivial) (e2)) ?_
| refine p_p (ps_call rfl rfl (by (repeat (first | refine ⟨PV.le_refl _, ?_⟩ | refine ⟨PV.le_nn _ _ _, ?_⟩ | refine ⟨PV.le_nil _, ?_⟩ | refine ⟨PV.le_any _, ?_⟩)); exact trivial) (v4)) ?_
| refine p_p (ps_call rfl rfl (by (repeat (first | refine ⟨PV.le_refl _, ?_⟩ | refine ⟨PV.le_nn _ _ _, ?_⟩ | refine ⟨PV.le_nil _, ?_⟩ | refine ⟨PV.le_any _, ?_⟩)); exact trivial) (e3)) ?_
| refine p_p (ps_call rfl rfl (by (repeat (first | refine ⟨PV.le_refl _, ?_⟩ | refine ⟨PV.le_nn _ _ _, ?_⟩ | refine ⟨PV.le_nil _, ?_⟩ | refine ⟨PV.le_any _, ?_⟩)); exact trivial) (e4)) ?_
| refine p_p (ps_neqBS rfl rfl rfl) ?_
| refine p_p (ps_neqS rfl rfl rfl) ?_
| refine p_p (ps_move rfl) ?_
| refine p_p (ps_assign rfl) ?_
| refine p_p (ps_extract rfl rfl rfl) ?_
| refine p_p (ps_not rfl rfl) ?_
| refine p_p (ps_pick rfl rfl) ?_
| refine p_p (ps_load_boxA rfl rfl rfl (by exact Nat.le_of_ble_eq_true rfl)) ?_
| refine p_e rfl (e_store_boxA rfl rfl rfl rfl (by exact Nat.le_of_ble_eq_true rfl) rfl rfl rfl) ?_
| refine p_e rfl (e_alloc rfl) ?_); refine ⟨_, (by dsimp only [bitvec_to_nat, Nat.reduceAdd, Nat.reduceMul, Nat.reduceBEq, reduceCtorEq]), ?_⟩)
| refine o_nil ?_
| refine g_condF rfl ?_
| refine g_skip ?_))
  refine g_join [] [] [.box [intss p], .box [intss (ppR p)], .box [intss (ppR p)], .box [intss q], .box [intss (dlR q)], .box [intss (dlR q)]] (by simp only [havoc, dsts, List.filterMap_cons, List.filterMap_nil, List.foldl_cons, List.foldl_nil, List.cons_append, List.nil_append, List.append_nil, List.set_cons_succ, List.set_cons_zero]; exact rfl) ?_ ⟨_, rfl, ?_⟩
  · cases hd : dlB q with
    | false =>
      repeat' (first
| refine g_seq ?_
| refine g_region ?_
| (refine o_go rfl ?_; (first
| refine p_p (ps_move rfl) ?_); refine ⟨_, (by dsimp only [bitvec_to_nat, Nat.reduceAdd, Nat.reduceMul, Nat.reduceBEq, reduceCtorEq]), ?_⟩)
| refine o_nil ?_
| refine g_condF rfl ?_
| refine g_skip ?_)
      exact k_join (by repeat (first | exact trivial | refine ⟨.inl rfl, ?_⟩ | refine ⟨.inr rfl, ?_⟩)) trivial (hpLe_cons rfl (hpLe_cons rfl (hpLe_cons rfl (hpLe_cons rfl (hpLe_cons rfl (hpLe_cons rfl (hpLe_nil _)))))))
    | true =>
      have hde : dlR q = dlV q := by unfold dlR; rw [hd]; rfl
      have hd' := hd
      unfold dlB at hd'
      simp only [Bool.and_eq_true, decide_eq_true_eq] at hd'
      have hR := rfl_of hd'.1
      have f1 := idist_c (dlV q) (okP_dlV hd)
      rw [show (goodL (dlV q) && !(uneven3 (dlV q)).isSome) = true from dl_dist hR hd'.2, dl_good hR hd'.2, ← hde] at f1
      have f2 := (pp_both (dlV q) (okP_dlV hd)).2.1
      rw [dl_good hR hd'.2, show ppR (dlV q) = ptsL (dlV q) by unfold ppR; rw [dl_good hR hd'.2]; rfl, ← hde] at f2
      have hl1 : (ptsL (dlR q)).length = q.length := by rw [hde, length_pts]; exact dl_points hd'.1 hd'.2
      have hl2 : cdV q = ((dlR q).length : Int) := by rw [hde]; exact cdV_dl hd
      repeat' (first
| refine g_seq ?_
| refine g_region ?_
| (refine o_go rfl ?_; (first
| refine p_p (ps_call rfl rfl (by (repeat (first | refine ⟨PV.le_refl _, ?_⟩ | refine ⟨PV.le_nn _ _ _, ?_⟩ | refine ⟨PV.le_nil _, ?_⟩ | refine ⟨PV.le_any _, ?_⟩)); exact trivial) (f1)) ?_
| refine p_p (ps_call rfl rfl (by (repeat (first | refine ⟨PV.le_refl _, ?_⟩ | refine ⟨PV.le_nn _ _ _, ?_⟩ | refine ⟨PV.le_nil _, ?_⟩ | refine ⟨PV.le_any _, ?_⟩)); exact trivial) (f2)) ?_
| refine p_p (ps_move rfl) ?_
| refine p_p (ps_assign rfl) ?_
| refine p_p (ps_lenM rfl rfl rfl) ?_
| refine p_p (ps_extract rfl rfl rfl) ?_
| refine p_p (ps_not rfl rfl) ?_
| refine p_p (ps_pick rfl rfl) ?_
| refine p_p (ps_neq rfl rfl rfl) ?_
| refine p_p (ps_load_box rfl rfl rfl rfl) ?_
| refine p_p (ps_load_boxA rfl rfl rfl (by exact Nat.le_of_ble_eq_true rfl)) ?_
| refine p_p (ps_fieldAddr_hat rfl rfl) ?_
| refine p_e rfl (e_store_boxA rfl rfl rfl rfl (by exact Nat.le_of_ble_eq_true rfl) rfl rfl rfl) ?_
| refine p_e rfl (e_alloc rfl) ?_); refine ⟨_, (by dsimp only [bitvec_to_nat, Nat.reduceAdd, Nat.reduceMul, Nat.reduceBEq, reduceCtorEq]), ?_⟩)
| refine o_nil ?_
| (refine o_s rfl ?_; refine ⟨_, (by dsimp only [bitvec_to_nat, Nat.reduceAdd, Nat.reduceMul, Nat.reduceBEq, reduceCtorEq]), ?_⟩)
| (refine o_splitN rfl rfl rfl (fun hc => ?_) (fun hc => ?_) <;> dsimp only [List.set_cons_zero, List.set_cons_succ])
| refine g_condT rfl ?_
| (refine g_condN rfl (fun hc => ?_) (fun hc => ?_) <;> try (exfalso; omega))
| refine kr1 ?_
| refine krB rfl ?_
| refine g_skip ?_
| refine g_ret ?_)
      all_goals try (exfalso; omega)
      all_goals try (exfalso; have hc' := of_decide_eq_false hc; omega)
      all_goals exact k_join (by repeat (first | exact trivial | refine ⟨.inl rfl, ?_⟩ | refine ⟨.inr rfl, ?_⟩)) trivial (hpLe_cons rfl (hpLe_cons rfl (hpLe_cons rfl (hpLe_cons rfl (hpLe_cons rfl (hpLe_cons rfl (hpLe_nil _)))))))
  dsimp only [setMany, List.set_cons_zero, List.set_cons_succ]
  have g1 := (itp_c r x hr).plain rfl rfl
  have g2 := stp_c r x hr
  have v5 := vints_c (tpV r x) (Nat.le_trans (tpV_len hr x) (by decide))
  repeat' ((fail_if_success (refine at_reg 47 ?_)); (first
| refine g_seq ?_
| refine g_region ?_
| (refine o_go rfl ?_; (first
| refine p_p (ps_call rfl rfl (by (repeat (first | refine ⟨PV.le_refl _, ?_⟩ | refine ⟨PV.le_nn _ _ _, ?_⟩ | refine ⟨PV.le_nil _, ?_⟩ | refine ⟨PV.le_any _, ?_⟩)); exact trivial) (d3)) ?_
| refine p_p (ps_call rfl rfl (by (repeat (first | refine ⟨PV.le_refl _, ?_⟩ | refine ⟨PV.le_nn _ _ _, ?_⟩ | refine ⟨PV.le_nil _, ?_⟩ | refine ⟨PV.le_any _, ?_⟩)); exact trivial) (g1)) ?_
| refine p_p (ps_call rfl rfl (by (repeat (first | refine ⟨PV.le_refl _, ?_⟩ | refine ⟨PV.le_nn _ _ _, ?_⟩ | refine ⟨PV.le_nil _, ?_⟩ | refine ⟨PV.le_any _, ?_⟩)); exact trivial) (g2)) ?_
| refine p_p (ps_call rfl rfl (by (repeat (first | refine ⟨PV.le_refl _, ?_⟩ | refine ⟨PV.le_nn _ _ _, ?_⟩ | refine ⟨PV.le_nil _, ?_⟩ | refine ⟨PV.le_any _, ?_⟩)); exact trivial) (v5)) ?_
| refine p_p (ps_neqBS rfl rfl rfl) ?_
| refine p_p (ps_move rfl) ?_
| refine p_p (ps_assign rfl) ?_
| refine p_p (ps_extract rfl rfl rfl) ?_
| refine p_p (ps_not rfl rfl) ?_
| refine p_p (ps_pick rfl rfl) ?_
| refine p_p (ps_load_boxA rfl rfl rfl (by exact Nat.le_of_ble_eq_true rfl)) ?_
| refine p_e rfl (e_store_boxA rfl rfl rfl rfl (by exact Nat.le_of_ble_eq_true rfl) rfl rfl rfl) ?_
| refine p_e rfl (e_alloc rfl) ?_); refine ⟨_, (by dsimp only [bitvec_to_nat, Nat.reduceAdd, Nat.reduceMul, Nat.reduceBEq, reduceCtorEq]), ?_⟩)
| refine o_nil ?_
| refine g_condF rfl ?_
| refine g_skip ?_))
  refine g_join [] [] [.box [intss p], .box [intss (ppR p)], .box [intss (ppR p)], .box [intss q], .box [intss (dlR q)], .box [intss (dlR q)], .box [intss r]] (by simp only [havoc, dsts, List.filterMap_cons, List.filterMap_nil, List.foldl_cons, List.foldl_nil, List.cons_append, List.nil_append, List.append_nil, List.set_cons_succ, List.set_cons_zero]; exact rfl) ?_ ⟨_, rfl, ?_⟩
  · cases hk : goodL r && isB r x with
    | false =>
      repeat' (first
| refine g_seq ?_
| refine g_region ?_
| (refine o_go rfl ?_; (first
| refine p_p (ps_move rfl) ?_); refine ⟨_, (by dsimp only [bitvec_to_nat, Nat.reduceAdd, Nat.reduceMul, Nat.reduceBEq, reduceCtorEq]), ?_⟩)
| refine o_nil ?_
| refine g_condF rfl ?_
| refine g_skip ?_)
      exact k_join (by repeat (first | exact trivial | refine ⟨.inl rfl, ?_⟩ | refine ⟨.inr rfl, ?_⟩)) trivial (hpLe_cons rfl (hpLe_cons rfl (hpLe_cons rfl (hpLe_cons rfl (hpLe_cons rfl (hpLe_cons rfl (hpLe_cons rfl (hpLe_nil _))))))))
    | true =>
      have htv : tpV r x = tpL r x := by unfold tpV; rw [hk]; rfl
      rw [Bool.and_eq_true] at hk
      obtain ⟨hg, hx⟩ := hk
      have hx := isB_iff.1 hx
      have j1 := ijirr_c r hr
      rw [hg] at j1
      have hti : ∀ i, i < (tpV r x).length → 0 ≤ (tpV r x).getD i 0 ∧ (tpV r x).getD i 0 < ((irrL r).length : Int) := fun i hi => by
        rw [htv] at hi ⊢
        have hm : (tpL r x).getD i 0 ∈ tpL r x := by rw [List.getD_eq_getElem?_getD, List.getElem?_eq_getElem hi]; exact List.getElem_mem _
        exact (pb_mem.1 (List.mem_filter.1 hm).1).1
      have hsl : (tpV r x).length ≤ 20 := by
        rw [htv]
        have h1 := List.length_filter_le (topP r (pbL r x)) (pbL r x)
        have h2 := pbL_len r x
        have h3 := good_10L hg
        have h4 := irrL_len r
        unfold tpL
        omega
      obtain ⟨some', hsome⟩ : ∃ s, s = (tpV r x).map fun t => own r t.toNat := ⟨_, rfl⟩
      have hsin : ∀ s ∈ some', inR r s := fun s hs => by
        rw [hsome] at hs
        obtain ⟨t, ht, rfl⟩ := List.mem_map.1 hs
        obtain ⟨i, hi, he⟩ := List.getElem_of_mem ht
        have := hti i hi
        rw [List.getD_eq_getElem?_getD, List.getElem?_eq_getElem hi] at this
        simp only [Option.getD_some, he] at this
        exact own_in (by omega)
      have hsl2 : some'.length ≤ 20 := by rw [hsome, List.length_map]; exact hsl
      have j2 := ijoinall_yes r some' hr hg hsl2 (inSize_of fun i hi => by
        have hm : some'.getD i 0 ∈ some' := by rw [List.getD_eq_getElem?_getD, List.getElem?_eq_getElem hi]; exact List.getElem_mem _
        exact hsin _ hm) hsin
      rw [show some'.foldl (joinL r) (botL r) = x by rw [hsome, htv]; exact top_join hg hx] at j2
      have hil := irrL_len r
      repeat' (first
| refine g_seq ?_
| refine g_block ?_
| refine g_region ?_
| (refine o_go rfl ?_; (first
| refine p_p (ps_call rfl rfl (by (repeat (first | refine ⟨PV.le_refl _, ?_⟩ | refine ⟨PV.le_nn _ _ _, ?_⟩ | refine ⟨PV.le_nil _, ?_⟩ | refine ⟨PV.le_any _, ?_⟩)); exact trivial) (j1)) ?_
| refine p_p (ps_move rfl) ?_
| refine p_p (ps_assign rfl) ?_
| refine p_p (ps_extract rfl rfl rfl) ?_
| refine p_p (ps_load_boxA rfl rfl rfl (by exact Nat.le_of_ble_eq_true rfl)) ?_
| refine p_e rfl (e_lit0 rfl (by decide)) ?_); refine ⟨_, (by dsimp only [bitvec_to_nat, Nat.reduceAdd, Nat.reduceMul, Nat.reduceBEq, reduceCtorEq]), ?_⟩)
| refine o_nil ?_
| refine g_condT rfl ?_)
      refine g_loopF (α := Nat) [295] (fun i => [(47, .hp 7), (48, I (i : Int))]) (fun i => [.box [intss p], .box [intss (ppR p)], .box [intss (ppR p)], .box [intss q], .box [intss (dlR q)], .box [intss (dlR q)], .box [intss r], .arr false 1 3 (((tpV r x).take i).map fun t => I (own r t.toNat))]) (fun i => i ≤ (tpV r x).length) (fun i => (tpV r x).length - i) 0 (by simp only [havoc, dsts, List.filterMap_cons, List.filterMap_nil, List.foldl_cons, List.foldl_nil, List.cons_append, List.nil_append, List.append_nil, List.set_cons_succ, List.set_cons_zero]; exact rfl) (Nat.zero_le _) ⟨rfl, rfl, trivial⟩ rfl ?_
      rintro i hi
      dsimp only [setMany, List.set_cons_zero, List.set_cons_succ]
      by_cases hin : i < (tpV r x).length
      · obtain ⟨t0, t1⟩ := hti i hin
        have hal : (((tpV r x).take i).map fun t => I (own r t.toNat)).length ≤ 20 := by rw [List.length_map, List.length_take]; omega
        have hoi : ((irrL r).map I)[((tpV r x).getD i 0).toNat]? = some (I (own r ((tpV r x).getD i 0).toNat)) := idx_I (by omega)
        have hln : ((bif true then irrL r else []) : List Int).length = (irrL r).length := rfl
        repeat' (first
| refine g_seq ?_
| refine g_block ?_
| refine g_region ?_
| (refine o_go rfl ?_; (first
| refine p_p (ps_index rfl rfl rfl (by omega) (by exact hoi) (by exact rfl)) ?_
| refine p_e (by kernel_rfl) (e_append rfl rfl rfl rfl rfl rfl (one_one rfl) rfl (by rw [n_len_c, n_len_n]; omega) (by rw [n_len_c, n_len_n]; omega)) ?_
| refine p_p (ps_move rfl) ?_
| refine p_p (ps_assign rfl) ?_
| refine p_p (ps_load_cell rfl rfl) ?_
| refine p_p (ps_index rfl rfl rfl (by omega) (by first | exact idx_I (by omega) | exact idx_B (by omega) | exact idx_ints (by omega) | exact idx_bools (by omega) | exact idx_intss (by omega) | rfl) (by exact rfl)) ?_
| refine p_p (ps_lenM rfl rfl rfl) ?_
| refine p_p (ps_lss rfl rfl rfl) ?_
| refine p_p (ps_add rfl rfl rfl (by constructor <;> omega)) ?_
| refine p_p (ps_pick rfl rfl) ?_
| refine p_p (ps_geq rfl rfl rfl) ?_
| refine p_p (ps_lit1 rfl rfl (by rfl) (by rfl)) ?_); refine ⟨_, (by dsimp only [bitvec_to_nat, Nat.reduceAdd, Nat.reduceMul, Nat.reduceBEq, reduceCtorEq]), ?_⟩)
| refine o_nil ?_
| (refine o_splitD rfl rfl rfl (fun hc => ?_) (fun hc => ?_) <;> first | (exfalso; omega) | dsimp only [List.set_cons_zero, List.set_cons_succ])
| (refine g_condD rfl (fun hc => ?_) (fun hc => ?_) <;> try (exfalso; omega))
| refine g_skip ?_)
        all_goals try (exfalso; omega)
        all_goals refine k_round (i + 1) (by omega) (by omega) (by repeat (first | exact trivial | refine ⟨.inl rfl, ?_⟩ | refine ⟨.inr rfl, ?_⟩)) ⟨rfl, rfl, trivial⟩ (hpLe_cons rfl (hpLe_cons rfl (hpLe_cons rfl (hpLe_cons rfl (hpLe_cons rfl (hpLe_cons rfl (hpLe_cons rfl (hpLe_cons ?_ (hpLe_nil _)))))))))
        all_goals (rw [take_snoc (0 : Int) hin, List.map_append]; rfl)
      · have hie : i = (tpV r x).length := by omega
        have hfin : ((tpV r x).take i).map (fun t => I (own r t.toNat)) = some'.map I := by rw [hie, List.take_length, hsome, List.map_map]; rfl
        rw [hfin]
        repeat' (first
| refine g_seq ?_
| refine g_region ?_
| (refine o_go rfl ?_; (first
| refine p_p (ps_call rfl rfl (by (repeat (first | refine ⟨PV.le_refl _, ?_⟩ | refine ⟨PV.le_nn _ _ _, ?_⟩ | refine ⟨PV.le_nil _, ?_⟩ | refine ⟨PV.le_any _, ?_⟩)); exact trivial) (j2)) ?_
| refine p_p (ps_neqS rfl rfl rfl) ?_
| refine p_p (ps_move rfl) ?_
| refine p_p (ps_assign rfl) ?_
| refine p_p (ps_lenM rfl rfl rfl) ?_
| refine p_p (ps_lss rfl rfl rfl) ?_
| refine p_p (ps_extract rfl rfl rfl) ?_
| refine p_p (ps_not rfl rfl) ?_
| refine p_p (ps_pick rfl rfl) ?_
| refine p_p (ps_load_boxA rfl rfl rfl (by exact Nat.le_of_ble_eq_true rfl)) ?_); refine ⟨_, (by dsimp only [bitvec_to_nat, Nat.reduceAdd, Nat.reduceMul, Nat.reduceBEq, reduceCtorEq]), ?_⟩)
| refine o_nil ?_
| refine g_condF rfl ?_
| (refine g_condD rfl (fun hc => ?_) (fun hc => ?_) <;> try (exfalso; omega))
| refine g_skip ?_
| refine g_exit ?_)
        all_goals try (exfalso; omega)
        all_goals first | exact k_join (by repeat (first | exact trivial | refine ⟨.inl rfl, ?_⟩ | refine ⟨.inr rfl, ?_⟩)) trivial (hpLe_cons rfl (hpLe_cons rfl (hpLe_cons rfl (hpLe_cons rfl (hpLe_cons rfl (hpLe_cons rfl (hpLe_cons rfl (hpLe_nil _)))))))) | (change St.le _ _; exact k_joinL (vals := []) (by repeat (first | exact trivial | refine ⟨.inl rfl, ?_⟩ | refine ⟨.inr rfl, ?_⟩)) trivial (hpLe_cons rfl (hpLe_cons rfl (hpLe_cons rfl (hpLe_cons rfl (hpLe_cons rfl (hpLe_cons rfl (hpLe_cons rfl (hpLe_nil _)))))))))
  dsimp only [setMany, List.set_cons_zero, List.set_cons_succ]
  repeat' (first
| refine g_seq ?_
| refine g_region ?_
| (refine o_go rfl ?_; (first
| refine p_p (ps_assign rfl) ?_); refine ⟨_, (by dsimp only [bitvec_to_nat, Nat.reduceAdd, Nat.reduceMul, Nat.reduceBEq, reduceCtorEq]), ?_⟩)
| refine o_nil ?_
| refine kr1 ?_
| refine krB rfl ?_
| refine g_ret ?_)
  all_goals rfl
end Go.Proofs.YtbfmjknngofleaaGreat
