/- Walks: the program's orders as posets, and the poset of points. -/
import Derived.Test.YtbfmjknngofleaaGreatLCq
import Derived.Test.YtbfmjknngofleaaGreatLAs
import Derived.Test.YtbfmjknngofleaaGreatLPq
import Derived.Test.YtbfmjknngofleaaGreatLAq
namespace Go.Proofs.YtbfmjknngofleaaGreat
open Go Go.Pv Go.Proofs
attribute [local bitvec_to_nat] St.put St.setObj St.ev killP killA killP1 killH mapHO renP renA ren1 killG killGA killG1 krowP krowA krow1 lendP lendA lend1 unv pinP pin1 elemsM viewM viewN viewV n_set_z n_set_s n_map_c n_map_n getD_z getD_s n_toNat n_cond_t n_cond_f n_len_c n_len_n n_app_c n_app_n n_take_s n_take_z n_drop_s n_drop_z n_get_z n_get_s view viewA view1 elems Nat.zero_add Nat.add_zero Bool.not_true Bool.not_false Nat.one_ne_zero Nat.mul_one

/-- The rows of an order's poset. -/
def posO (n : Nat) (f : Int → Int → Bool) (x : Nat) : List (List Int) := (List.range x).map fun x : Nat => upTo n fun y => f (y : Int) (x : Int)
theorem posO_succ (n : Nat) (f : Int → Int → Bool) (x : Nat) : posO n f (x + 1) = posO n f x ++ [upTo n fun y => f (y : Int) (x : Int)] := by unfold posO; rw [List.range_succ, List.map_append]; rfl
theorem posO_len (n : Nat) (f : Int → Int → Bool) (x : Nat) : (posO n f x).length = x := by simp [posO]
set_option maxHeartbeats 1000000 in
set_option maxRecDepth 100000 in
theorem iposet_R (n : Nat) (f : Int → Int → Bool) (hn : n ≤ 1000) : RCalls Tryz.prog 88 [boolss (tabZ n f)] (gridI (posO n f n)) (.agg [.hp 0]) := by
  refine pcallsRC Tryz.func88 rfl Tryz.ntmps88 rfl ?_
  simp only [List.length_cons, List.length_nil, Nat.reduceAdd, Nat.reduceSub, List.replicate_succ, List.replicate_zero, List.cons_append, List.nil_append]
  have hl := length_tabZ n f
  repeat' (first
| refine g_seq ?_
| refine g_block ?_
| refine g_region ?_
| (refine o_go rfl ?_; (first
| refine p_e rfl (e_at (s := "l23_posets.go:66") rfl (e_lit0G 3 rfl)) ?_
| refine p_p (ps_move rfl) ?_
| refine p_p (ps_lenM rfl rfl rfl) ?_
| refine p_e rfl (e_store_boxA rfl rfl rfl rfl (by exact Nat.le_of_ble_eq_true rfl) rfl rfl rfl) ?_
| refine p_e rfl (e_alloc rfl) ?_
| refine p_p (ps_build rfl rfl) ?_); refine ⟨_, (by dsimp only [bitvec_to_nat, Nat.reduceAdd, Nat.reduceMul, Nat.reduceBEq, reduceCtorEq]), ?_⟩)
| refine o_nil ?_)
  refine g_loopF (α := Nat) [7, 8] (fun x => [(11, I (x : Int))]) (fun x => [.box [nilV], gridI (posO n f x), .box [.hp 1]]) (fun x => x ≤ n) (fun x => n - x) 0 (by simp only [havoc, dsts, List.filterMap_cons, List.filterMap_nil, List.foldl_cons, List.foldl_nil, List.cons_append, List.nil_append, List.append_nil, List.set_cons_succ, List.set_cons_zero]; exact rfl) (Nat.zero_le _) ⟨rfl, trivial⟩ rfl ?_
  rintro x hx
  dsimp only [setMany, List.set_cons_zero, List.set_cons_succ]
  have hpl : ((posO n f x).map fun r => r.map I).length = x := by rw [List.length_map, posO_len]
  repeat' (first
| refine g_seq ?_
| refine g_block ?_
| refine g_region ?_
| (refine o_go rfl ?_; (first
| refine p_e rfl (e_lit0T rfl (by decide)) ?_
| refine p_p (ps_move rfl) ?_
| refine p_p (ps_assign rfl) ?_
| refine p_p (ps_lenM rfl rfl rfl) ?_
| refine p_p (ps_lss rfl rfl rfl) ?_
| refine p_p (ps_load_boxA rfl rfl rfl (by exact Nat.le_of_ble_eq_true rfl)) ?_
| refine p_e rfl (e_store_boxA rfl rfl rfl rfl (by exact Nat.le_of_ble_eq_true rfl) rfl rfl rfl) ?_); refine ⟨_, (by dsimp only [bitvec_to_nat, Nat.reduceAdd, Nat.reduceMul, Nat.reduceBEq, reduceCtorEq]), ?_⟩)
| refine o_nil ?_
| (refine g_condD rfl (fun hc => ?_) (fun hc => ?_) <;> try (exfalso; omega))
| refine g_skip ?_
| refine g_exit ?_
| refine g_ret ?_)
  · refine g_loopF (α := Nat) [14] (fun y => [(5, .hp 3), (17, I (y : Int))]) (fun y => [.box [nilV], gridI (posO n f x), .box [.hp 1], .arr true 1 3 ((upTo y fun y => f (y : Int) (x : Int)).map I)]) (fun y => y ≤ n) (fun y => n - y) 0 (by simp only [havoc, dsts, List.filterMap_cons, List.filterMap_nil, List.foldl_cons, List.foldl_nil, List.cons_append, List.nil_append, List.append_nil, List.set_cons_succ, List.set_cons_zero]; exact rfl) (Nat.zero_le _) ⟨rfl, rfl, trivial⟩ rfl ?_
    rintro y hy
    dsimp only [setMany, List.set_cons_zero, List.set_cons_succ]
    have hul := upTo_length y fun y => f (y : Int) (x : Int)
    have hsuc := upTo_succ y fun y => f (y : Int) (x : Int)
    repeat' (first
| refine g_seq ?_
| refine g_block ?_
| refine g_region ?_
| (refine o_go rfl ?_; (first
| refine p_p (ps_index rfl rfl rfl (by omega) (by exact idx_TB (by omega) (by omega)) (by exact rfl)) ?_
| refine p_p (ps_index rfl rfl rfl (by omega) (by exact idx_RB (by omega) (by omega)) (by exact rfl)) ?_
| refine p_e rfl (e_lit1G rfl rfl rfl (one_all (fun _ => rfl) _)) ?_
| refine p_e rfl (e_append_grid rfl rfl rfl rfl rfl rfl rfl (by rw [hpl, n_len_c, n_len_n]; omega) (by rw [hpl, n_len_c, n_len_n]; omega)) ?_
| refine p_p (ps_move rfl) ?_
| refine p_p (ps_assign rfl) ?_
| refine p_p (ps_load_cell rfl rfl) ?_
| refine p_p (ps_lss rfl rfl rfl) ?_
| refine p_p (ps_add rfl rfl rfl (by constructor <;> omega)) ?_
| refine p_p (ps_load_box rfl rfl rfl rfl) ?_
| refine p_p (ps_fieldAddr_hat rfl rfl) ?_
| refine p_e rfl (e_store_boxC rfl rfl rfl rfl (by exact Nat.le_of_ble_eq_true rfl) rfl rfl) ?_
| refine p_e rfl (e_append rfl rfl rfl rfl rfl rfl (by first | exact one_one rfl | exact one_map (fun _ => rfl) _) rfl (by first | omega | (simp; done) | (simp; omega)) (by first | omega | (simp; done) | (simp; omega))) ?_
| refine p_p (ps_lit1 rfl rfl (by rfl) (by rfl)) ?_); refine ⟨_, (by dsimp only [bitvec_to_nat, Nat.reduceAdd, Nat.reduceMul, Nat.reduceBEq, reduceCtorEq]), ?_⟩)
| refine o_nil ?_
| (refine g_condD rfl (fun hc => ?_) (fun hc => ?_) <;> try (exfalso; omega))
| (refine g_cond rfl (fun hc => ?_) (fun hc => ?_))
| refine g_skip ?_
| refine g_exit ?_)
    · refine k_round (y + 1) (by omega) (by omega) (by repeat (first | exact trivial | refine ⟨.inl rfl, ?_⟩ | refine ⟨.inr rfl, ?_⟩)) ⟨rfl, rfl, trivial⟩ (hpLe_cons rfl (hpLe_cons rfl (hpLe_cons rfl (hpLe_cons ?_ (hpLe_nil _)))))
      rw [hsuc, if_pos (show f (y : Int) (x : Int) = true from hc)]; simp
    · refine k_round (y + 1) (by omega) (by omega) (by repeat (first | exact trivial | refine ⟨.inl rfl, ?_⟩ | refine ⟨.inr rfl, ?_⟩)) ⟨rfl, rfl, trivial⟩ (hpLe_cons rfl (hpLe_cons rfl (hpLe_cons rfl (hpLe_cons ?_ (hpLe_nil _)))))
      rw [hsuc, if_neg (show ¬ f (y : Int) (x : Int) = true from (by rw [show f (y : Int) (x : Int) = false from hc]; decide))]; simp
    · refine k_round (x + 1) (by omega) (by omega) (by repeat (first | exact trivial | refine ⟨.inl rfl, ?_⟩ | refine ⟨.inr rfl, ?_⟩)) ⟨rfl, trivial⟩ (hpLe_cons rfl (hpLe_cons ?_ (hpLe_cons rfl (hpLe_nil _))))
      rw [posO_succ, gridI, List.map_append, show y = n by omega]; rfl
  · refine krrc 1 0 rfl rfl (HandOut.grid rfl ?_ (sc_maps (fun _ => rfl) _))
    rw [show x = n by omega]
set_option maxRecDepth 100000 in
theorem ippF (rows : List (List Int)) (hok : okP rows) (hg : goodL rows = false) : PCalls Tryz.prog 31 [posetP rows] (.tup [.agg [nilV], B false]) := by
  refine pcallsCT Tryz.func31 rfl Tryz.ntmps31 rfl ?_
  simp only [List.length_cons, List.length_nil, Nat.reduceAdd, Nat.reduceSub, List.replicate_succ, List.replicate_zero, List.cons_append, List.nil_append]
  repeat' (first
| refine g_seq ?_
| refine g_region ?_
| (refine o_go rfl ?_; (first
| refine p_p (ps_call rfl rfl (by (repeat (first | refine ⟨PV.le_refl _, ?_⟩ | refine ⟨PV.le_nn _ _ _, ?_⟩ | refine ⟨PV.le_nil _, ?_⟩ | refine ⟨PV.le_any _, ?_⟩)); exact trivial) (lat_no rows hok hg)) ?_
| refine p_p (ps_move rfl) ?_
| refine p_p (ps_assign rfl) ?_
| refine p_p (ps_load_agg rfl rfl (by exact Nat.le_of_ble_eq_true rfl)) ?_
| refine p_p (ps_extract rfl rfl rfl) ?_
| refine p_p (ps_not rfl rfl) ?_
| refine p_e rfl (e_store_boxA rfl rfl rfl rfl (by exact Nat.le_of_ble_eq_true rfl) rfl rfl rfl) ?_
| refine p_e rfl (e_alloc rfl) ?_
| refine p_p (ps_box rfl rfl) ?_
| refine p_p (ps_build rfl rfl) ?_); refine ⟨_, (by dsimp only [bitvec_to_nat, Nat.reduceAdd, Nat.reduceMul, Nat.reduceBEq, reduceCtorEq]), ?_⟩)
| refine o_nil ?_
| refine g_condT rfl ?_
| refine krct ?_ ?_
| refine krC rfl (by exact Nat.le_of_ble_eq_true rfl) ?_
| refine krB rfl ?_
| refine g_ret ?_)
  all_goals rfl
set_option maxRecDepth 100000 in
theorem ippT (rows : List (List Int)) (hok : okP rows) (hg : goodL rows = true) : RCalls Tryz.prog 31 [posetP rows] (gridI (ptsL rows)) (.tup [.agg [.hp 0], B true]) := by
  refine pcallsRC2 Tryz.func31 rfl Tryz.ntmps31 rfl ?_
  simp only [List.length_cons, List.length_nil, Nat.reduceAdd, Nat.reduceSub, List.replicate_succ, List.replicate_zero, List.cons_append, List.nil_append]
  have h10 := good_10 hg
  have hil := irrL_len rows
  have hpl := length_pts rows
  have hp := iposet_R (ptsL rows).length (leqB (ptsL rows)) (by omega)
  have hpo : posO (ptsL rows).length (leqB (ptsL rows)) (ptsL rows).length = ptsL rows := by
    rw [hpl]
    refine List.map_congr_left fun x hx => upTo_congr fun y hy => ?_
    have hx := List.mem_range.1 hx
    exact pts_leq ⟨by omega, by omega⟩ ⟨by omega, by omega⟩
  rw [hpo] at hp
  repeat' (first
| refine g_seq ?_
| refine g_region ?_
| (refine o_go rfl ?_; (first
| refine p_p (ps_call rfl rfl (by (repeat (first | refine ⟨PV.le_refl _, ?_⟩ | refine ⟨PV.le_nn _ _ _, ?_⟩ | refine ⟨PV.le_nil _, ?_⟩ | refine ⟨PV.le_any _, ?_⟩)); exact trivial) (lat_yes rows hok hg)) ?_
| refine p_p (ps_call rfl rfl (by (repeat (first | refine ⟨PV.le_refl _, ?_⟩ | refine ⟨PV.le_nn _ _ _, ?_⟩ | refine ⟨PV.le_nil _, ?_⟩ | refine ⟨PV.le_any _, ?_⟩)); exact trivial) (ipts_c rows hg)) ?_
| refine p_e rfl (e_callR rfl rfl (by (repeat (first | refine ⟨PV.le_refl _, ?_⟩ | refine ⟨PV.le_nn _ _ _, ?_⟩ | refine ⟨PV.le_nil _, ?_⟩ | refine ⟨PV.le_any _, ?_⟩)); exact trivial) rfl (hp)) ?_
| refine p_p (ps_move rfl) ?_
| refine p_p (ps_assign rfl) ?_
| refine p_p (ps_load_agg rfl rfl (by exact Nat.le_of_ble_eq_true rfl)) ?_
| refine p_p (ps_extract rfl rfl rfl) ?_
| refine p_p (ps_not rfl rfl) ?_
| refine p_e rfl (e_store_boxA rfl rfl rfl rfl (by exact Nat.le_of_ble_eq_true rfl) rfl rfl rfl) ?_
| refine p_e rfl (e_alloc rfl) ?_
| refine p_p (ps_box rfl rfl) ?_); refine ⟨_, (by dsimp only [bitvec_to_nat, Nat.reduceAdd, Nat.reduceMul, Nat.reduceBEq, reduceCtorEq]), ?_⟩)
| refine o_nil ?_
| refine g_condF rfl ?_
| refine g_skip ?_
| refine g_ret ?_)
  exact krrc2 1 0 rfl rfl rfl (HandOut.grid rfl rfl (sc_maps (fun _ => rfl) _))
end Go.Proofs.YtbfmjknngofleaaGreat
