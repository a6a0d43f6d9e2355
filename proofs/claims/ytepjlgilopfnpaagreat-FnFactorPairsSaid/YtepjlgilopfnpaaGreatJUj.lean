/- Walk: the program's division into indecomposable factors. -/
import Derived.Test.YtepjlgilopfnpaaGreatJUg
namespace Go.Proofs.YtepjlgilopfnpaaGreat
open Go Go.Pv Go.Proofs
set_option maxHeartbeats 32000000
set_option maxRecDepth 100000

theorem cut_map {L : List (List Int)} {i : Nat} {a b : List Int} : (L.map ints).take i ++ ([ints a, ints b] ++ (L.drop (i + 1)).map ints) = (L.take i ++ a :: b :: L.drop (i + 1)).map ints := by
 rw [List.map_append, List.map_cons, List.map_cons, List.map_take]; rfl
theorem iidl_c (n : Int) (ops : List OpD) (hs : szOk ops) : PCalls Tryz.prog 28 [algP n ops] (.tup [intss (idcW n ops), B (acB n ops)]) := by
 refine pcalls2 Tryz.func28 rfl Tryz.ntmps28 rfl ?_
 refine wF ?_
 have h1 := icongs_c n ops hs
 unfold idcW
 cases hb : acB n ops with
 | false =>
  rw [hb, if_neg Bool.false_ne_true] at h1
  rw [if_neg Bool.false_ne_true]
  repeat' (first
| refine wO ?_
| (refine o_go rfl ?_; (first
| refine p_p (zG rfl rfl aD (h1)) ?_
| refine p_p (ps_lits rfl ze ze aU zd zd) ?_
| refine wS ?_
| refine p_p (ps_load_agg rfl rfl aK) ?_
| refine p_p (ps_box rfl rfl) ?_); refine ⟨_, aB, ?_⟩)
| refine kr2 ?_ ?_
| refine krB rfl ?_
| refine krS rfl ?_
| refine wE ?_)
  all_goals rfl
 | true =>
  obtain ⟨m, rfl, hm0, hm8, h4, ho, hg, h200⟩ := acB_facts hb
  rw [hb, if_pos rfl] at h1
  rw [if_pos rfl, Int.toNat_natCast]
  by_cases hm1 : m = 1
  · have e : idcV m ops = [] := if_pos hm1
    rw [e]
    subst hm1
    repeat' (first
| refine wO ?_
| (refine o_go rfl ?_; (first
| refine p_p (zG rfl rfl aD (h1)) ?_
| refine p_p (ps_lits rfl ze ze aU zd zd) ?_
| refine wS ?_
| refine p_p (ps_load_agg rfl rfl aK) ?_
| refine p_p (ps_box rfl rfl) ?_); refine ⟨_, aB, ?_⟩)
| refine kr2 ?_ ?_
| refine krB rfl ?_
| refine krS rfl ?_
| refine wE ?_)
    all_goals first | rfl | (exfalso; omega)
  · have h2 := ident_R m (by omega)
    generalize acV (m : Int) ops = W at *
    repeat' (first
| refine wO ?_
| (refine o_go rfl ?_; (first
| refine p_p (zG rfl rfl aD (h1)) ?_
| refine p_p (ps_callRV rfl rfl aD (h2)) ?_
| refine p_e rfl (e_lit1N rfl rfl rfl) ?_
| refine wS ?_
| refine p_p (ps_load_agg rfl rfl aK) ?_
| refine p_p (ps_box rfl rfl) ?_); refine ⟨_, aB, ?_⟩)
| (refine zK rfl ?_ ?_ <;> intro hc <;> try omega)
| refine wE ?_)
    all_goals try (exfalso; omega)
    refine g_loopF (α := List (List Int) × Nat) [31] (fun s => [(6, .hp 0), (7, I (s.2 : Int))]) (fun s => [.arr false 1 27 (s.1.map ints)]) (IdS m ops) (IdM m) ([idL m], 0) aH (IdS.start (by omega) hm8) ⟨rfl, rfl, trivial⟩ rfl ?_
    rintro ⟨L, i⟩ hS
    refine wH ?_
    have hL8 : L.length ≤ 8 := hS.len
    by_cases hil : i < L.length
    · have ri := rows_at hil
      have hp : L.getD i [] ∈ allL m ops := (hS.inv.mem _ (rows_mem hil)).1
      obtain ⟨pt, cp⟩ := allL_mem.1 hp
      have hk0 := lst_pos pt hm0
      have hk8 := lstN_le (L.getD i []) m
      have hqi := quo_in hm0 pt ho
      have hql : (quoL m (L.getD i []) ops).length = ops.length := by simp [quoL]
      have hq200 : (allL (lstN (L.getD i []) m).length (quoL m (L.getD i []) ops)).length ≤ 200 := Nat.le_trans (quo_few hm0 ho hp) h200
      have q1 := iquo_c m ops (L.getD i []) hm0 hm8 hs.1 ho pt
      have q2 := iallc_c (lstN (L.getD i []) m).length (quoL m (L.getD i []) ops) hk0 (by omega) (by omega) hqi
      rw [if_pos hq200, decide_eq_true hq200] at q2
      have q3 := ipp_c (lstN (L.getD i []) m).length (quV m ops (L.getD i [])) (by omega) (fun p hp => quV_pt hp) hq200
      unfold ppP at q3
      cases hO : ppO (lstN (L.getD i []) m).length (quV m ops (L.getD i [])) with
      | none =>
       rw [hO] at q3
       change PCalls _ _ _ (.tup [.agg [I 0, I 0], B false]) at q3
       have hnx := hS.next hil (spl_none hO)
       repeat' (first
| refine wO ?_
| refine zP zk zk ?_
| (refine o_go rfl ?_; (first
| refine p_p (zN rfl rfl rfl zz ri ze) ?_
| refine p_p (zG rfl rfl aD (q1)) ?_
| refine p_p (zG rfl rfl aD (q2)) ?_
| refine p_p (zG rfl rfl aD (q3)) ?_
| refine wS ?_
| refine p_p (ps_load_agg rfl rfl aK) ?_
| refine p_e rfl (zO rfl rfl rfl rfl aK rfl rfl rfl) ?_
| refine p_e rfl (e_alloc rfl) ?_); refine ⟨_, aB, ?_⟩)
| (refine zK rfl ?_ ?_ <;> intro hc <;> try omega)
| refine wE ?_)
       all_goals try (exfalso; omega)
       exact zT (K := fun _ _ => True) (L, i + 1) hnx.1 hnx.2 aI ⟨rfl, rfl, trivial⟩ (zB rfl (zM _))
      | some ik =>
       obtain ⟨a, b⟩ := ik
       rw [hO] at q3
       change PCalls _ _ _ (.tup [.agg [I (a : Int), I (b : Int)], B true]) at q3
       obtain ⟨hsp, ha, hb'⟩ := spl_some hO
       dsimp only at hsp ha hb'
       have hct := (hS.cut hm0 ho hil hsp).1
       have ra := rows_at ha
       have rb := rows_at hb'
       have pa := quV_pt (rows_mem ha)
       have pb := quV_pt (rows_mem hb')
       change PCalls _ _ _ (.tup [intss (quV m ops (L.getD i [])), B true]) at q2
       generalize quV m ops (L.getD i []) = V at *
       generalize V.getD a [] = va at *
       generalize V.getD b [] = vb at *
       have q4 := inat_c m (L.getD i []) (by omega) pt
       have hin : ∀ (q : List Int), Pt (lstN (L.getD i []) m).length q → ∀ x ∈ natL m (L.getD i []), 0 ≤ x ∧ x < (q.length : Int) := fun q hq x hx => by
        obtain ⟨y, hy, rfl⟩ := List.mem_map.1 hx
        have := nm_lt pt (List.mem_range.1 hy)
        have := hq.len
        omega
       have q5 := compose_c (natL m (L.getD i [])) va (by rw [nat_len]; omega) (by rw [pa.len]; omega) (hin va pa)
       have q6 := compose_c (natL m (L.getD i [])) vb (by rw [nat_len]; omega) (by rw [pb.len]; omega) (hin vb pb)
       rw [com_lft] at q5 q6
       have q7 : PCalls Tryz.prog 47 [ints (lftV m (L.getD i []) va)] (ints (liftP m (L.getD i []) va)) := rcalls_P rfl (kernel_R _ (by simp [lftV]; omega))
       have q8 : PCalls Tryz.prog 47 [ints (lftV m (L.getD i []) vb)] (ints (liftP m (L.getD i []) vb)) := rcalls_P rfl (kernel_R _ (by simp [lftV]; omega))
       generalize liftP m (L.getD i []) va = la at *
       generalize liftP m (L.getD i []) vb = lb at *
       generalize lftV m (L.getD i []) va = fa at *
       generalize lftV m (L.getD i []) vb = fb at *
       generalize natL m (L.getD i []) = nt at *
       have hlm : (L.map ints).length = L.length := List.length_map ..
       have hdr : ((L.drop ((i : Int) + 1).toNat).map ints).length = L.length - (i + 1) := by simp
       repeat' ((fail_if_success (refine at_reg0 17 ?_)); (first
| refine g_settle 1 rfl (by dsimp only [setlA, setlP, setl1, setlH, bitvec_to_nat, Nat.reduceAdd, Nat.reduceMul, Nat.reduceBEq, reduceCtorEq]) ?_
| refine wO ?_
| refine zP zk zk ?_
| (refine o_go rfl ?_; (first
| refine p_p (ps_index_parr rfl rfl rfl zz zd) ?_
| refine p_p (zN rfl rfl rfl zz ri ze) ?_
| refine p_p (zN rfl rfl rfl zz ra ze) ?_
| refine p_p (zN rfl rfl rfl zz rb ze) ?_
| refine p_p (zG rfl rfl aD (q1)) ?_
| refine p_p (zG rfl rfl aD (q2)) ?_
| refine p_p (zG rfl rfl aD (q3)) ?_
| refine p_p (zG rfl rfl aD (q4)) ?_
| refine p_p (zG rfl rfl aD (q5)) ?_
| refine p_p (zG rfl rfl aD (q6)) ?_
| refine p_p (zG rfl rfl aD (q7)) ?_
| refine p_p (zG rfl rfl aD (q8)) ?_
| refine p_e rfl (e_lit2N rfl rfl rfl (by rfl) (by rfl)) ?_
| refine p_p (ps_sliceFromM rfl rfl rfl zz zz) ?_
| refine p_e zk (e_append rfl rfl rfl rfl rfl rfl (one_map (fun _ => rfl) _) rfl (by rw [hdr, n_len_c, n_len_c, n_len_n]; omega) (by rw [hdr, n_len_c, n_len_c, n_len_n]; omega)) ?_
| refine wS ?_
| refine p_p (ps_load_agg rfl rfl aK) ?_
| refine p_e rfl (zO rfl rfl rfl rfl aK rfl rfl rfl) ?_
| refine p_e rfl (e_alloc rfl) ?_); refine ⟨_, aB, ?_⟩)
| (refine zK rfl ?_ ?_ <;> intro hc <;> try omega)
| refine zR ?_))
       all_goals try (exfalso; omega)
       refine at_reg0 17 ?_
       refine g_pinH 6 0 rfl ?_
       intro bk0 dk0
       refine ⟨_, rfl, ?_⟩
       refine wH ?_
       repeat' (first
| refine wO ?_
| (refine o_go rfl ?_; (first
| refine p_p (ps_slice3 rfl rfl rfl rfl rfl zz zz) ?_
| refine p_p (zD rfl) ?_); refine ⟨_, aB, ?_⟩))
       all_goals try (exfalso; omega)
       have hone : ∀ p ∈ (ints la :: ints lb :: (L.drop ((i : Int) + 1).toNat).map ints), ∀ c, p.flat = some c → c.all PV.one = true := one_l (by rw [List.all_cons, List.all_cons, one_all (fun _ => rfl)]; rfl)
       refine o_go rfl ?_
       refine p_e rfl (EStep.move (EStep.freeze (e_append3 (j := 6) (s := 1) (i := i) (l2 := ints la :: ints lb :: (L.drop ((i : Int) + 1).toNat).map ints) rfl rfl rfl rfl rfl rfl rfl hone Nat.one_pos rfl (by rw [hlm]; omega) (Nat.succ_pos _) (by rw [List.length_cons, List.length_cons, hdr]; omega) (by rw [List.length_cons, List.length_cons, hdr]; omega)) 3 rfl rfl) 3 0 (by decide) rfl rfl) ?_
       refine ⟨_, by dsimp only [List.map_cons, List.map_nil, mvP, mvA, mv1, mvH, mapHO, St.setObj, bitvec_to_nat, Nat.reduceAdd, Nat.reduceMul, Nat.reduceBEq, reduceCtorEq], ?_⟩
       repeat' (first
| (refine o_go rfl ?_; (first
| refine wS ?_); refine ⟨_, aB, ?_⟩)
| refine wO ?_)
       exact zT (K := fun _ _ => True) (L.take i ++ la :: lb :: L.drop (i + 1), i) hct.1 hct.2 aI ⟨rfl, rfl, trivial⟩ (zB (by rw [show ((i : Int) + 1).toNat = i + 1 by omega]; exact congrArg (HO.arr false 1 _) cut_map) (zM _))
    · have e := hS.done (by omega) hil
      rw [e]
      repeat' (first
| refine wO ?_
| (refine o_go rfl ?_; (first
| refine wS ?_); refine ⟨_, aB, ?_⟩)
| (refine zK rfl ?_ ?_ <;> intro hc <;> try omega)
| refine kr2 ?_ ?_
| refine krB rfl ?_
| refine krS rfl ?_
| refine wE ?_)
      all_goals first | rfl | (exfalso; omega)
end Go.Proofs.YtepjlgilopfnpaaGreat
/- Walk: the reference's division into indecomposable factors. -/
namespace Go.Proofs.YtepjlgilopfnpaaGreat
open Go Go.Pv Go.Proofs
set_option maxHeartbeats 32000000
set_option maxRecDepth 100000

theorem cut_map3 {L : List (List Int)} {i : Nat} {a b : List Int} : ((L.take i).map ints ++ [ints a, ints b]) ++ (L.drop (i + 1)).map ints = (L.take i ++ a :: b :: L.drop (i + 1)).map ints := by
 rw [List.map_append, List.map_cons, List.map_cons, List.append_assoc]; rfl
theorem sidl_c (n : Int) (ops : List OpD) (hs : szOk ops) : PCalls Tryz.prog 29 [algP n ops] (.tup [intss (idcW n ops), B (acB n ops)]) := by
 refine pcalls2 Tryz.func29 rfl Tryz.ntmps29 rfl ?_
 refine wF ?_
 have h1 := sfew_c n ops hs
 unfold idcW
 cases hb : acB n ops with
 | false =>
  rw [hb] at h1
  rw [if_neg Bool.false_ne_true]
  repeat' (first
| refine wO ?_
| (refine o_go rfl ?_; (first
| refine p_p (zG rfl rfl aD (h1)) ?_
| refine p_p (ps_lits rfl ze ze aU zd zd) ?_
| refine wS ?_
| refine p_p (ps_load_agg rfl rfl aK) ?_
| refine p_p (ps_box rfl rfl) ?_); refine ⟨_, aB, ?_⟩)
| refine kr2 ?_ ?_
| refine krB rfl ?_
| refine krS rfl ?_
| refine wE ?_)
  all_goals rfl
 | true =>
  obtain ⟨m, rfl, hm0, hm8, h4, ho, hg, h200⟩ := acB_facts hb
  rw [hb] at h1
  rw [if_pos rfl, Int.toNat_natCast]
  by_cases hm1 : m = 1
  · have e : idcV m ops = [] := if_pos hm1
    rw [e]
    subst hm1
    repeat' (first
| refine wO ?_
| (refine o_go rfl ?_; (first
| refine p_p (zG rfl rfl aD (h1)) ?_
| refine p_p (ps_lits rfl ze ze aU zd zd) ?_
| refine wS ?_
| refine p_p (ps_load_agg rfl rfl aK) ?_
| refine p_p (ps_box rfl rfl) ?_); refine ⟨_, aB, ?_⟩)
| refine kr2 ?_ ?_
| refine krB rfl ?_
| refine krS rfl ?_
| refine wE ?_)
    all_goals first | rfl | (exfalso; omega)
  · have h2 := sident_c m (by omega)
    repeat' (first
| refine wO ?_
| (refine o_go rfl ?_; (first
| refine p_p (zG rfl rfl aD (h1)) ?_
| refine p_p (zG rfl rfl aD (h2)) ?_
| refine p_e rfl (e_lit0 rfl zd) ?_
| refine wS ?_
| refine p_p (ps_load_agg rfl rfl aK) ?_
| refine p_e rfl (e_lit0 rfl zd) ?_
| refine p_e rfl (e_append rfl rfl rfl rfl rfl rfl (by first | exact one_one rfl | exact one_map (fun _ => rfl) _) rfl aR aR) ?_
| refine p_p (ps_box rfl rfl) ?_
| refine p_p (ps_lit1 rfl rfl (by rfl) (by rfl)) ?_); refine ⟨_, aB, ?_⟩)
| (refine zK rfl ?_ ?_ <;> intro hc <;> try omega)
| refine wE ?_)
    all_goals try (exfalso; omega)
    refine g_loopF (α := List (List Int) × Nat) [10, 19, 24] (fun s => [(4, .hp 0), (5, I (s.2 : Int))]) (fun s => [.arr false 1 27 (s.1.map ints)]) (IdS m ops) (IdM m) ([idL m], 0) aH (IdS.start (by omega) hm8) ⟨rfl, rfl, trivial⟩ rfl ?_
    rintro ⟨L, i⟩ hS
    refine wH ?_
    have hL8 : L.length ≤ 8 := hS.len
    by_cases hil : i < L.length
    · have ri := rows_at hil
      have hp : L.getD i [] ∈ allL m ops := (hS.inv.mem _ (rows_mem hil)).1
      obtain ⟨pt, cp⟩ := allL_mem.1 hp
      have hk0 := lst_pos pt hm0
      have hk8 := lstN_le (L.getD i []) m
      have hqi := quo_in hm0 pt ho
      have hql : (quoL m (L.getD i []) ops).length = ops.length := by simp [quoL]
      have hq200 : (allL (lstN (L.getD i []) m).length (quoL m (L.getD i []) ops)).length ≤ 200 := Nat.le_trans (quo_few hm0 ho hp) h200
      have q1 := squo_c m ops (L.getD i []) hm0 hm8 hs.1 ho pt
      have q2 : PCalls Tryz.prog 66 [algP ((lstN (L.getD i []) m).length : Int) (quoL m (L.getD i []) ops)] (intss (quV m ops (L.getD i []))) := sallC_c (lstN (L.getD i []) m).length (quoL m (L.getD i []) ops) hk0 (by omega) (by omega) hqi (by omega)
      have q3 := spp_c (lstN (L.getD i []) m).length (quV m ops (L.getD i [])) hk0 (by omega) (fun p hp => quV_pt hp) hq200
      unfold ppP at q3
      cases hO : ppO (lstN (L.getD i []) m).length (quV m ops (L.getD i [])) with
      | none =>
       rw [hO] at q3
       change PCalls _ _ _ (.tup [.agg [I 0, I 0], B false]) at q3
       have hnx := hS.next hil (spl_none hO)
       repeat' (first
| refine wO ?_
| refine zP zk zk ?_
| (refine o_go rfl ?_; (first
| refine p_p (zN rfl rfl rfl zz ri ze) ?_
| refine p_p (zG rfl rfl aD (q1)) ?_
| refine p_p (zG rfl rfl aD (q2)) ?_
| refine p_p (zG rfl rfl aD (q3)) ?_
| refine wS ?_
| refine p_p (ps_load_agg rfl rfl aK) ?_
| refine p_e rfl (zO rfl rfl rfl rfl aK rfl rfl rfl) ?_
| refine p_e rfl (e_alloc rfl) ?_); refine ⟨_, aB, ?_⟩)
| (refine zK rfl ?_ ?_ <;> intro hc <;> try omega)
| refine wE ?_)
       all_goals try (exfalso; omega)
       exact zT (K := fun _ _ => True) (L, i + 1) hnx.1 hnx.2 aI ⟨rfl, rfl, trivial⟩ (zB rfl (zM _))
      | some ik =>
       obtain ⟨a, b⟩ := ik
       rw [hO] at q3
       change PCalls _ _ _ (.tup [.agg [I (a : Int), I (b : Int)], B true]) at q3
       obtain ⟨hsp, ha, hb'⟩ := spl_some hO
       dsimp only at hsp ha hb'
       have hct := (hS.cut hm0 ho hil hsp).2
       have ra := rows_at ha
       have rb := rows_at hb'
       have pa := quV_pt (rows_mem ha)
       have pb := quV_pt (rows_mem hb')
       generalize quV m ops (L.getD i []) = V at *
       generalize V.getD a [] = va at *
       generalize V.getD b [] = vb at *
       have q5 := sl9lift_c m (L.getD i []) va (by omega) pt pa.len
       have q6 := sl9lift_c m (L.getD i []) vb (by omega) pt pb.len
       generalize liftP m (L.getD i []) va = la at *
       generalize liftP m (L.getD i []) vb = lb at *
       refine g_view1 4 ⟨_, aB, ?_⟩
       have hlm : ((L.take ((i : Nat) : Int).toNat).map ints).length = i := by simp; omega
       have hdl : ((L.drop (i + 1)).map ints).length = L.length - (i + 1) := by simp
       repeat' ((fail_if_success (refine at_reg1 13 ?_)); (first
| refine g_settle 1 rfl (by dsimp only [setlA, setlP, setl1, setlH, bitvec_to_nat, Nat.reduceAdd, Nat.reduceMul, Nat.reduceBEq, reduceCtorEq]) ?_
| refine wO ?_
| refine zP zk zk ?_
| (refine o_go rfl ?_; (first
| refine p_p (zN rfl rfl rfl zz ri ze) ?_
| refine p_p (zG rfl rfl aD (q1)) ?_
| refine p_p (zG rfl rfl aD (q2)) ?_
| refine p_p (zG rfl rfl aD (q3)) ?_
| refine wS ?_
| refine p_p (ps_load_agg rfl rfl aK) ?_
| refine p_e rfl (zO rfl rfl rfl rfl aK rfl rfl rfl) ?_
| refine p_e rfl (e_alloc rfl) ?_); refine ⟨_, aB, ?_⟩)
| (refine zK rfl ?_ ?_ <;> intro hc <;> try omega)
| refine zR ?_))
       all_goals try (exfalso; omega)
       refine at_reg1 13 ?_
       repeat' (first
| refine wO ?_
| (refine o_go rfl ?_; (first
| refine p_e rfl (e_lit0 rfl zd) ?_
| refine p_p (ps_sliceToM rfl rfl rfl zz zz) ?_
| refine wS ?_
| refine p_e rfl (e_lit0 rfl zd) ?_
| refine p_e rfl (e_append rfl rfl rfl rfl rfl rfl (by first | exact one_one rfl | exact one_map (fun _ => rfl) _) rfl aR aR) ?_); refine ⟨_, aB, ?_⟩))
       all_goals try (exfalso; omega)
       have hlm2 : ((L.take i).map ints).length = i := by simp; omega
       refine g_region_drawZ [(0, some []), (1, some [2]), (2, some [2]), (3, some [2]), (4, some [2]), (5, some [2]), (6, some [2]), (7, some [2]), (8, some [2]), (9, some [2]), (10, some [2]), (11, some [2]), (12, some [2]), (13, some [2]), (14, some [2]), (15, some [2]), (16, some [2]), (17, some [2]), (18, some [2]), (19, some [2]), (20, some [2]), (21, some []), (22, none), (23, none)] [(22, 2), (23, 999999)] (fun _ => True) (by kernel_rfl) rfl (by kernel_rfl) ?_
       repeat' (first
| refine z_nil ?_
| ((first
| refine zV rfl rfl (fun hp hH => zN rfl rfl rfl zz ri ze) aJ aC zd aA ?_
| refine zV rfl rfl (fun hp hH => zN rfl rfl rfl zz ra ze) aJ aC zd aA ?_
| refine zV rfl rfl (fun hp hH => zN rfl rfl rfl zz rb ze) aJ aC zd aA ?_
| refine zV rfl rfl (fun hp hH => ps_index_parr rfl rfl rfl zz zd) aJ aC zd aA ?_
| refine zV rfl rfl (fun hp hH => zG rfl rfl aD (q5)) aJ aM zd aA ?_
| refine zV rfl rfl (fun hp hH => zG rfl rfl aD (q6)) aJ aM zd aA ?_
| refine zV rfl rfl (fun hp hH => ps_lit2 rfl rfl rfl (by rfl) (by rfl) (by rfl)) aJ aC zd aA ?_
| refine zV rfl rfl (fun _ _ => zD rfl) aJ aC zd aA ?_
| refine zV rfl rfl (fun _ _ => zF rfl rfl) aJ aC zd aA ?_
| refine z_eff rfl rfl aF (j_append rfl rfl rfl rfl rfl rfl (one_l (by rfl)) rfl (by rw [hlm2, n_len_c, n_len_c, n_len_n]; omega) (by rw [hlm2, n_len_c, n_len_c, n_len_n]; omega)) aG ?_
| refine z_eff rfl rfl aF (j_pure (zA rfl)) aG ?_); refine ⟨_, aP, ?_⟩))
       have hdr : ((L.drop ((i : Int) + 1).toNat).map ints).length = L.length - (i + 1) := by simp
       repeat' ((fail_if_success (refine at_reg0 16 ?_)); (first
| refine wO ?_
| (refine o_go rfl ?_; (first
| refine p_p (ps_sliceFromM rfl rfl rfl zz zz) ?_
| refine p_e zk (e_append rfl rfl rfl rfl rfl rfl (one_map (fun _ => rfl) _) rfl (by rw [List.length_append, hlm2, hdr, n_len_c, n_len_c, n_len_n]; omega) (by rw [List.length_append, hlm2, hdr, n_len_c, n_len_c, n_len_n]; omega)) ?_
| refine wS ?_); refine ⟨_, aB, ?_⟩)
| refine o_nil ?_))
       all_goals try (exfalso; omega)
       refine at_reg0 16 ?_
       refine g_move 2 0 (by decide) rfl ⟨_, by dsimp only [List.map_cons, List.map_nil, mvP, mvA, mv1, mvH, mapHO, bitvec_to_nat, Nat.reduceAdd, Nat.reduceMul, Nat.reduceBEq, reduceCtorEq], ?_⟩
       repeat' (first
| refine wO ?_
| (refine o_go rfl ?_; (first
| refine wS ?_); refine ⟨_, aB, ?_⟩))
       exact zT (K := fun _ _ => True) (L.take i ++ la :: lb :: L.drop (i + 1), 0) hct.1 hct.2 aI ⟨rfl, rfl, trivial⟩ (zB (by rw [show ((i : Int) + 1).toNat = i + 1 by omega]; exact congrArg (HO.arr false 1 _) cut_map3) (zM _))
    · have e := hS.done (by omega) hil
      rw [e]
      repeat' (first
| refine wO ?_
| (refine o_go rfl ?_; (first
| refine wS ?_); refine ⟨_, aB, ?_⟩)
| (refine zK rfl ?_ ?_ <;> intro hc <;> try omega)
| refine kr2 ?_ ?_
| refine krB rfl ?_
| refine krS rfl ?_
| refine wE ?_)
      all_goals first | rfl | (exfalso; omega)
end Go.Proofs.YtepjlgilopfnpaaGreat
