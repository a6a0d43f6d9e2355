/- Walks: the program's tables out of posets, turned, restricted. -/
import Derived.Test.YtfpghibjbcdinaaB5
import Derived.Test.YtfpghibjbcdinaaSp7
namespace Go.Proofs.Ytfpghibjbcdinaa
open Go Go.Pv Go.Proofs

theorem idx_gridB {t : List (List Bool)} {i : Nat} (h : i < t.length) : (t.map fun r => r.map B)[i]? = some ((t.getD i []).map B) := by simp [h]
theorem gridB_set {n a b : Nat} {f f' : Nat → Nat → Bool} {v : Bool} (ha : a < n) (hb : b < n) (h : ∀ a' b', a' < n → b' < n → f' a' b' = if a' = a ∧ b' = b then v else f a' b') :
    ((tabF n f).map fun r => r.map B).set a ((((tabF n f).getD a []).map B).set b (B v)) = (tabF n f').map fun r => r.map B := by
  rw [← tabF_set ha hb h, List.map_set, List.map_set]
theorem viewM_gridB {t : List (List Bool)} : (PV.sl 1 none ((t.map fun r => r.map B).map fun r => .sl 1 none r)) = boolss t := by
  rw [List.map_map]; rfl

theorem getD_mem {α : Type} {l : List α} {d : α} {i : Nat} (h : i < l.length) : l.getD i d ∈ l := by
  rw [List.getD_eq_getElem?_getD, List.getElem?_eq_getElem h]; exact List.getElem_mem h
def okO (rows : List (List Int)) : Bool := decide (rows.length ≤ 10) && (allN rows.length (fun x => risesB (rows.getD x []) && inSizeB (rows.getD x []) (rows.length : Int)) && orderB (tabOf rows))
def upX (rows : List (List Int)) (x i : Nat) (a b : Nat) : Bool := (decide (b < x) && leqB rows (a : Int) (b : Int)) || (decide (b = x) && ((rows.getD x []).take i).contains (a : Int))
set_option maxHeartbeats 1000000 in
set_option maxRecDepth 100000 in
theorem orderOf_c (rows : List (List Int)) (hok : okP rows) (q : PV) (hq : (okO rows = true → q = boolss (tabOf rows)) ∧ (okO rows = false → q = .any)) : PCalls Try.prog 91 [posetP rows] (.tup [q, B (okO rows)]) := by
  refine pcalls2 Try.func91 rfl Try.ntmps91 rfl ?_
  simp only [List.length_cons, List.length_nil, Nat.reduceAdd, Nat.reduceSub, List.replicate_succ, List.replicate_zero, List.cons_append, List.nil_append]
  have hr := hok.1
  repeat' (first
| refine g_seq ?_
| refine g_block ?_
| refine g_region ?_
| (refine o_go rfl ?_; (first
| refine p_e rfl (e_callR rfl rfl (by (repeat (first | refine ⟨PV.le_refl _, ?_⟩ | refine ⟨PV.le_nn _ _ _, ?_⟩ | refine ⟨PV.le_nil _, ?_⟩ | refine ⟨PV.le_any _, ?_⟩)); exact trivial) rfl (newOrder_c _ (by omega))) ?_
| refine p_p (ps_move rfl) ?_
| refine p_p (ps_assign rfl) ?_
| refine p_p (ps_load_cell rfl rfl) ?_
| refine p_p (ps_lenM rfl rfl rfl) ?_
| refine p_p (ps_fieldAddr rfl rfl) ?_
| refine p_p (ps_gtr rfl rfl rfl) ?_
| refine p_p (ps_box rfl rfl) ?_); refine ⟨_, (by dsimp only [St.put, St.setObj, St.ev, killP, killA, killP1, killH, mapHO, renP, renA, ren1, killG, killGA, killG1, krowP, krowA, krow1, lendP, lendA, lend1, unv, pinP, pin1, elemsM, viewM, viewN, viewV, n_set_z, n_set_s, n_map_c, n_map_n, getD_z, getD_s, n_toNat, n_cond_t, n_cond_f, n_len_c, n_len_n, n_app_c, n_app_n, n_take_s, n_take_z, n_drop_s, n_drop_z, n_get_z, n_get_s, view, viewA, view1, elems, Nat.reduceAdd, Nat.reduceMul, Nat.zero_add, Nat.add_zero, Nat.reduceBEq, Bool.not_true, Bool.not_false, Nat.one_ne_zero, Nat.mul_one, reduceCtorEq]), ?_⟩)
| refine o_nil ?_
| (refine g_condD rfl (fun hc => ?_) (fun hc => ?_) <;> try (exfalso; omega))
| refine kr2 ?_ ?_
| refine krB rfl ?_
| refine g_skip ?_
| refine g_ret ?_)
  · rw [hq.2 (by unfold okO; rw [decide_eq_false (by omega)]; rfl)]; exact krAny
  · unfold okO; rw [decide_eq_false (by omega)]; rfl
  have h10 : rows.length ≤ 10 := by omega
  rw [show gridB (falses rows.length) = gridB (tabF rows.length fun a b => decide (b < 0) && leqB rows (a : Int) (b : Int)) by
    unfold falses; rw [falses_F]; congr 2]
  refine g_loopT (α := Nat) (fun x => [(20, I (x : Int))]) (fun x => [gridB (tabF rows.length fun a b => decide (b < x) && leqB rows (a : Int) (b : Int))]) (fun x => x ≤ rows.length ∧ (allN x fun x => risesB (rows.getD x []) && inSizeB (rows.getD x []) (rows.length : Int)) = true) (fun x => rows.length - x) 0 (by simp only [havoc, dsts, List.filterMap_cons, List.filterMap_nil, List.foldl_cons, List.foldl_nil, List.cons_append, List.nil_append, List.append_nil, List.set_cons_succ, List.set_cons_zero]; exact rfl) ⟨Nat.zero_le _, rfl⟩ ⟨rfl, trivial⟩ rfl ?_
  rintro x ⟨hx, hg⟩
  dsimp only [setMany, List.set_cons_zero, List.set_cons_succ]
  have hrx := hok.row x
  have hno : ∀ h : x < rows.length, (risesB (rows.getD x []) && inSizeB (rows.getD x []) (rows.length : Int)) = false → okO rows = false := fun h h0 => by
    unfold okO; rw [allN_false (k := x) h h0, Bool.false_and, Bool.and_false]
  repeat' (first
| refine g_seq ?_
| refine g_block ?_
| refine g_region ?_
| (refine o_go rfl ?_; (first
| refine p_p (ps_callM rfl rfl (by (repeat (first | refine ⟨PV.le_refl _, ?_⟩ | refine ⟨PV.le_nn _ _ _, ?_⟩ | refine ⟨PV.le_nil _, ?_⟩ | refine ⟨PV.le_any _, ?_⟩)); exact trivial) (by rfl) (rises_c _ hrx)) ?_
| refine p_p (ps_callM rfl rfl (by (repeat (first | refine ⟨PV.le_refl _, ?_⟩ | refine ⟨PV.le_nn _ _ _, ?_⟩ | refine ⟨PV.le_nil _, ?_⟩ | refine ⟨PV.le_any _, ?_⟩)); exact trivial) (by rfl) (inSize_c _ _ hrx)) ?_
| refine p_p (ps_callM rfl rfl (by exact ⟨le_eq viewM_gridB, trivial⟩) (by rfl) (isOrder_c _ (okT_F _ h10))) ?_
| refine p_p (ps_move rfl) ?_
| refine p_p (ps_assign rfl) ?_
| refine p_p (ps_load_cell rfl rfl) ?_
| refine p_p (ps_index rfl rfl rfl (by omega) (by first | exact idx_I (by omega) | exact idx_B (by omega) | exact idx_ints (by omega) | exact idx_bools (by omega) | exact idx_intss (by omega) | rfl) (by exact rfl)) ?_
| refine p_p (ps_lenM rfl rfl rfl) ?_
| refine p_p (ps_lss rfl rfl rfl) ?_
| refine p_p (ps_not rfl rfl) ?_
| refine p_p (ps_pick rfl rfl) ?_); refine ⟨_, (by dsimp only [St.put, St.setObj, St.ev, killP, killA, killP1, killH, mapHO, renP, renA, ren1, killG, killGA, killG1, krowP, krowA, krow1, lendP, lendA, lend1, unv, pinP, pin1, elemsM, viewM, viewN, viewV, n_set_z, n_set_s, n_map_c, n_map_n, getD_z, getD_s, n_toNat, n_cond_t, n_cond_f, n_len_c, n_len_n, n_app_c, n_app_n, n_take_s, n_take_z, n_drop_s, n_drop_z, n_get_z, n_get_s, view, viewA, view1, elems, Nat.reduceAdd, Nat.reduceMul, Nat.zero_add, Nat.add_zero, Nat.reduceBEq, Bool.not_true, Bool.not_false, Nat.one_ne_zero, Nat.mul_one, reduceCtorEq]), ?_⟩)
| refine o_nil ?_
| (refine o_s rfl ?_; refine ⟨_, (by dsimp only [St.put, St.setObj, St.ev, killP, killA, killP1, killH, mapHO, renP, renA, ren1, killG, killGA, killG1, krowP, krowA, krow1, lendP, lendA, lend1, unv, pinP, pin1, elemsM, viewM, viewN, viewV, n_set_z, n_set_s, n_map_c, n_map_n, getD_z, getD_s, n_toNat, n_cond_t, n_cond_f, n_len_c, n_len_n, n_app_c, n_app_n, n_take_s, n_take_z, n_drop_s, n_drop_z, n_get_z, n_get_s, view, viewA, view1, elems, Nat.reduceAdd, Nat.reduceMul, Nat.zero_add, Nat.add_zero, Nat.reduceBEq, Bool.not_true, Bool.not_false, Nat.one_ne_zero, Nat.mul_one, reduceCtorEq]), ?_⟩)
| (refine o_splitN rfl rfl rfl (fun hc => ?_) (fun hc => ?_) <;> dsimp only [List.set_cons_zero, List.set_cons_succ])
| refine g_condT rfl ?_
| (refine g_condD rfl (fun hc => ?_) (fun hc => ?_) <;> try (exfalso; omega))
| (refine g_condNB rfl (fun hc => ?_) (fun hc => ?_))
| refine kr2 ?_ ?_
| refine krB rfl ?_
| refine g_skip ?_
| refine g_exit ?_
| refine g_ret ?_)
  · rw [hq.2 (hno (by omega) (by rw [hc]; rfl))]; exact krAny
  · exact (hno (by omega) (by rw [hc]; rfl)).symm
  · rw [hq.2 (hno (by omega) (by rw [hc, Bool.and_false]))]; exact krAny
  · exact (hno (by omega) (by rw [hc, Bool.and_false])).symm
  · rename_i hris
    have hy : ∀ i, i < (rows.getD x []).length → 0 ≤ (rows.getD x []).getD i 0 ∧ ((rows.getD x []).getD i 0).toNat < rows.length := fun i hi => by
      have := inSize_mem hc (getD_mem (d := 0) hi)
      omega
    rw [show gridB (tabF rows.length fun a b => decide (b < x) && leqB rows (a : Int) (b : Int)) = gridB (tabF rows.length (upX rows x 0)) by
      rw [tabF_congr (g := upX rows x 0) fun a b _ _ => by unfold upX; simp]]
    refine g_loopT (α := Nat) (fun i => [(36, I (i : Int))]) (fun i => [gridB (tabF rows.length (upX rows x i))]) (fun i => i ≤ (rows.getD x []).length) (fun i => (rows.getD x []).length - i) 0 (by simp only [havoc, dsts, List.filterMap_cons, List.filterMap_nil, List.foldl_cons, List.foldl_nil, List.cons_append, List.nil_append, List.append_nil, List.set_cons_succ, List.set_cons_zero]; exact rfl) (Nat.zero_le _) ⟨rfl, trivial⟩ rfl ?_
    rintro i hi
    dsimp only [setMany, List.set_cons_zero, List.set_cons_succ]
    have hlen := length_tabF rows.length (upX rows x i)
    have hrl : ∀ a, a < rows.length → ((tabF rows.length (upX rows x i)).getD a []).length = rows.length := fun a ha => by rw [getD_tabF ha]; simp
    repeat' (first
| refine g_seq ?_
| refine g_block ?_
| refine g_region ?_
| (refine o_go rfl ?_; (first
| refine p_p (ps_index_grid rfl rfl rfl rfl (hy _ (by omega)).1 (by rw [List.length_map, hlen]; exact (hy _ (by omega)).2)) ?_
| refine p_p (ps_load_row rfl rfl rfl (by rw [List.length_map, hlen]; exact (hy _ (by omega)).2)) ?_
| refine p_p (ps_index_row rfl rfl rfl (by exact idx_gridB (by rw [hlen]; exact (hy _ (by omega)).2)) rfl (by omega) (by rw [n_toNat, List.length_map, hrl _ (hy _ (by omega)).2]; omega)) ?_
| refine p_e rfl (e_store_grid rfl rfl rfl rfl (by exact idx_gridB (by rw [hlen]; exact (hy _ (by omega)).2)) (by rw [List.length_map, hrl _ (hy _ (by omega)).2]; omega) rfl rfl) ?_
| refine p_p (ps_move rfl) ?_
| refine p_p (ps_assign rfl) ?_
| refine p_p (ps_load_cell rfl rfl) ?_
| refine p_p (ps_index rfl rfl rfl (by omega) (by first | exact idx_I (by omega) | exact idx_B (by omega) | exact idx_ints (by omega) | exact idx_bools (by omega) | exact idx_intss (by omega) | rfl) (by exact rfl)) ?_
| refine p_p (ps_lss rfl rfl rfl) ?_
| refine p_p (ps_add rfl rfl rfl (by constructor <;> omega)) ?_); refine ⟨_, (by dsimp only [St.put, St.setObj, St.ev, killP, killA, killP1, killH, mapHO, renP, renA, ren1, killG, killGA, killG1, krowP, krowA, krow1, lendP, lendA, lend1, unv, pinP, pin1, elemsM, viewM, viewN, viewV, n_set_z, n_set_s, n_map_c, n_map_n, getD_z, getD_s, n_toNat, n_cond_t, n_cond_f, n_len_c, n_len_n, n_app_c, n_app_n, n_take_s, n_take_z, n_drop_s, n_drop_z, n_get_z, n_get_s, view, viewA, view1, elems, Nat.reduceAdd, Nat.reduceMul, Nat.zero_add, Nat.add_zero, Nat.reduceBEq, Bool.not_true, Bool.not_false, Nat.one_ne_zero, Nat.mul_one, reduceCtorEq]), ?_⟩)
| refine o_nil ?_
| (refine g_condD rfl (fun hc => ?_) (fun hc => ?_) <;> try (exfalso; omega))
| refine g_skip ?_
| refine g_exit ?_)
    · refine k_round (i + 1) (by omega) (by omega) (by repeat (first | exact trivial | refine ⟨.inl rfl, ?_⟩ | refine ⟨.inr rfl, ?_⟩)) ⟨rfl, trivial⟩ (hpLe_cons ?_ (hpLe_nil _))
      rw [gridB_set (hy i (by omega)).2 (show x < rows.length by omega) (f' := upX rows x (i + 1)) (fun a b ha hb => ?_)]
      unfold upX
      rw [take_snoc 0 (by omega), contains_snoc]
      by_cases e : b = x
      · subst e
        by_cases e' : a = ((rows.getD b []).getD i 0).toNat
        · rw [if_pos ⟨e', rfl⟩, decide_eq_true (show (rows.getD b []).getD i 0 = (a : Int) by have := (hy i (by omega)).1; omega)]; simp
        · rw [if_neg (fun h => e' h.1), decide_eq_false (show ¬ (rows.getD b []).getD i 0 = (a : Int) by omega), Bool.or_false]
      · rw [if_neg (fun h => e h.2), decide_eq_false e]; simp
    · refine k_round (x + 1) ⟨by omega, by rw [allN_succ, hg, hris, ‹inSizeB (rows.getD x []) (rows.length : Int) = true›]; rfl⟩ (by omega) (by repeat (first | exact trivial | refine ⟨.inl rfl, ?_⟩ | refine ⟨.inr rfl, ?_⟩)) ⟨rfl, trivial⟩ (hpLe_cons ?_ (hpLe_nil _))
      refine congrArg gridB (tabF_congr fun a b _ _ => ?_)
      unfold upX
      rw [(take_full hi hc).1]
      by_cases e : b = x
      · subst e
        rw [decide_eq_true (by omega : b < b + 1), decide_eq_false (by omega : ¬ b < b), decide_eq_true rfl]
        simp [leqB]
      · rw [decide_eq_false e]
        have : decide (b < x + 1) = decide (b < x) := by rw [Bool.eq_iff_iff]; simp; omega
        rw [this]; simp
  all_goals
    have hxn : x = rows.length := by omega
    subst hxn
    have htab : (tabF rows.length fun a b => decide (b < rows.length) && leqB rows (a : Int) (b : Int)) = tabOf rows := tabF_congr fun a b _ hb => by rw [decide_eq_true hb, Bool.true_and]
    have hoo : orderB (tabOf rows) = okO rows := by unfold okO; rw [decide_eq_true h10, hg]; rfl
    rw [htab]
  · cases ho : okO rows with
    | true =>
      rw [hq.1 ho]
      exact krS rfl (by rw [List.map_map]; rfl)
    | false => rw [hq.2 ho]; exact krAny
  · exact hoo
end Go.Proofs.Ytfpghibjbcdinaa
