/- Lemmas of the proof. No condition. -/
import Derived.Test.YtbohjibbgppfaaaGreatJTr
namespace Go.Proofs.YtbohjibbgppfaaaGreat
open Go Go.Pv Go.Proofs
set_option maxHeartbeats 32000000
set_option maxRecDepth 100000
abbrev issP (L : List (List (List Int))) : PV := .sl 1 none (L.map intss)
abbrev lnO3 (L : List (List (List Int))) : HO := .arr false 1 39 (L.map intss)
noncomputable def dirB (n : Nat) (p q : List Int) : Bool := cmpP n p q && prmB p q n
noncomputable def dirI (n : Nat) (p : List Int) (V : List (List Int)) : List (List (List Int)) := (V.filter (dirB n p)).map fun q => [p, q]
noncomputable def dirL (n : Nat) (V W : List (List Int)) : List (List (List Int)) := W.flatMap fun p => dirI n p V
theorem dirI_take {n : Nat} {p : List Int} {V : List (List Int)} {i : Nat} (h : i < V.length) : dirI n p (V.take (i + 1)) = dirI n p (V.take i) ++ if dirB n p (V.getD i []) then [[p, V.getD i []]] else [] := by
 unfold dirI
 rw [take_snoc [] h, List.filter_append, List.map_append]
 congr 1
 cases hc : dirB n p (V.getD i []) with
 | true => rw [List.filter_cons_of_pos hc]; rfl
 | false => rw [List.filter_cons_of_neg (by rw [hc]; exact Bool.false_ne_true)]; rfl
theorem dirI_len {n : Nat} {p : List Int} {V : List (List Int)} {i : Nat} (h : i ≤ V.length) : (dirI n p (V.take i)).length ≤ i := by
 have := List.length_filter_le (dirB n p) (V.take i)
 rw [List.length_take] at this
 unfold dirI
 rw [List.length_map]; omega
theorem dirL_take {n : Nat} {V W : List (List Int)} {i : Nat} (h : i < W.length) : dirL n V (W.take (i + 1)) = dirL n V (W.take i) ++ dirI n (W.getD i []) V := by
 unfold dirL
 rw [take_snoc [] h, List.flatMap_append]; simp
theorem dirL_len {n : Nat} {V W : List (List Int)} : ∀ i, i ≤ W.length → (dirL n V (W.take i)).length ≤ i * V.length
 | 0, _ => by simp [dirL]
 | i + 1, h => by
  have h1 := dirL_len (n := n) (V := V) (W := W) i (by omega)
  have h2 := dirI_len (n := n) (p := W.getD i []) (V := V) (i := V.length) (Nat.le_refl _)
  rw [List.take_length] at h2
  rw [dirL_take (by omega), List.length_append, Nat.add_mul]
  omega
noncomputable def dirJ (n : Nat) (V : List (List Int)) (i j : Nat) : List (List (List Int)) := dirL n V (V.take i) ++ dirI n (V.getD i []) (V.take j)
theorem dirJ_zero {n : Nat} {V : List (List Int)} {i : Nat} : dirJ n V i 0 = dirL n V (V.take i) := by unfold dirJ dirI; simp
theorem dirJ_end {n : Nat} {V : List (List Int)} {i : Nat} (h : i < V.length) : dirJ n V i V.length = dirL n V (V.take (i + 1)) := by unfold dirJ; rw [List.take_length, dirL_take h]
theorem dirJ_succ {n : Nat} {V : List (List Int)} {i j : Nat} (h : j < V.length) : dirJ n V i (j + 1) = dirJ n V i j ++ if dirB n (V.getD i []) (V.getD j []) then [[V.getD i [], V.getD j []]] else [] := by
 unfold dirJ; rw [dirI_take h, List.append_assoc]
theorem dirJ_len {n : Nat} {V : List (List Int)} {i j : Nat} (hi : i < V.length) (hj : j ≤ V.length) (h60 : V.length ≤ 60) : (dirJ n V i j).length ≤ 4000 := by
 have h1 := dirL_len (n := n) (V := V) (W := V) i (by omega)
 have h2 := dirI_len (n := n) (p := V.getD i []) (V := V) (i := j) hj
 have h3 : i * V.length ≤ 60 * 60 := Nat.mul_le_mul (by omega) h60
 unfold dirJ
 rw [List.length_append]; omega
noncomputable def dirV (n : Int) (ops : List OpD) : List (List (List Int)) := if fcB n ops then dirL n.toNat (acV n ops) (acV n ops) else []
theorem lit2_rows (p q : List Int) (h1 : p.length ≤ 1048576) (h2 : q.length ≤ 1048576) : PCalls Tryz.prog 136 [intss [p, q]] (intss [p, q]) :=
 icrows_c [p, q] (by show 2 ≤ 1048576; omega) (fun r hr => by
  simp only [List.mem_cons, List.not_mem_nil, or_false] at hr
  rcases hr with rfl | rfl <;> assumption)
theorem idir_c (n : Int) (ops : List OpD) (hs : szOk ops) : PCalls Tryz.prog 63 [algP n ops] (.tup [issP (dirV n ops), B (fcB n ops)]) := by
 refine pcalls2 Tryz.func63 rfl Tryz.ntmps63 rfl ?_
 refine wF ?_
 have h1 := ifew_c n ops hs
 unfold dirV
 cases hf : fcB n ops with
 | false =>
  rw [if_neg Bool.false_ne_true]
  rw [hf, if_neg Bool.false_ne_true] at h1
  repeat' (first
| refine wO ?_
| (refine o_go rfl ?_; (first
| refine p_p (zG rfl rfl aD (h1)) ?_
| refine wS ?_
| refine p_p (ps_load_agg rfl rfl aK) ?_
| refine p_e rfl (e_lit0 rfl zd) ?_
| refine p_p (ps_box rfl rfl) ?_); refine ⟨_, aA, ?_⟩)
| refine kr2 ?_ ?_
| refine krB rfl ?_
| refine krS rfl ?_
| refine wE ?_)
  all_goals rfl
 | true =>
  obtain ⟨m, rfl, hm0, hm8, h4, ho, hg, hV, h60⟩ := fcB_facts hf
  have hPt := fc_pt (m := m) (ops := ops)
  rw [hf, if_pos rfl, hV] at h1
  rw [if_pos rfl, hV, Int.toNat_natCast]
  generalize allL m ops = V at *
  repeat' (first
| refine wO ?_
| (refine o_go rfl ?_; (first
| refine p_p (zG rfl rfl aD (h1)) ?_
| refine wS ?_
| refine p_p (ps_load_agg rfl rfl aK) ?_
| refine p_e rfl (e_lit0 rfl zd) ?_
| refine p_p (ps_box rfl rfl) ?_); refine ⟨_, aA, ?_⟩)
| refine wE ?_)
  refine g_loopF (α := Nat) [19] (fun i => [(6, .hp 0), (22, I (i : Int))]) (fun i => [lnO3 (dirL m V (V.take i))]) (fun i => i ≤ V.length) (fun i => V.length - i) 0 aH (Nat.zero_le _) ⟨rfl, rfl, trivial⟩ rfl ?_
  rintro i hi
  refine wH ?_
  by_cases hil : i < V.length
  · have ri := rows_at hil
    have pi := hPt _ (rows_mem hil)
    have hj0 := dirJ_zero (n := m) (V := V) (i := i)
    have hje := dirJ_end (n := m) hil
    have hjs := fun {j : Nat} (h : j < V.length) => dirJ_succ (n := m) (i := i) h
    have hjl := fun {j : Nat} (h : j ≤ V.length) => dirJ_len (n := m) hil h h60
    rw [← hj0]
    generalize V.getD i [] = p at *
    repeat' (first
| refine wO ?_
| (refine o_go rfl ?_; (first
| refine p_p (zN rfl rfl rfl zz ri ze) ?_
| refine wS ?_); refine ⟨_, aA, ?_⟩)
| (refine zK rfl ?_ ?_ <;> intro hc <;> try omega)
| refine wE ?_)
    all_goals try (exfalso; omega)
    refine g_loopF (α := Nat) [] (fun j => [(6, .hp 0), (28, I (j : Int))]) (fun j => [lnO3 (dirJ m V i j)]) (fun j => j ≤ V.length) (fun j => V.length - j) 0 aH (Nat.zero_le _) ⟨rfl, rfl, trivial⟩ rfl ?_
    rintro j hj
    refine wH ?_
    have hll : ((dirJ m V i j).map intss).length ≤ 4000 := by rw [List.length_map]; exact hjl hj
    by_cases hjlt : j < V.length
    · have rj := rows_at hjlt
      have pj := hPt _ (rows_mem hjlt)
      have hst := hjs hjlt
      generalize V.getD j [] = q at *
      have c1 := iacp_c m p q hm0 (by omega) pi pj
      have c2 := iprm_c m p q (by omega) pi.len pj.len
      have c3 := lit2_rows p q (by rw [pi.len]; omega) (by rw [pj.len]; omega)
      unfold dirB at hst
      generalize dirJ m V i j = L at *
      cases hq : cmpP m p q with
      | false =>
       rw [hq] at c1
       rw [hq, Bool.false_and, if_neg Bool.false_ne_true, List.append_nil] at hst
       repeat' (first
| refine wO ?_
| (refine o_go rfl ?_; (first
| refine p_p (zN rfl rfl rfl zz rj ze) ?_
| refine p_p (zG rfl rfl aD (c1)) ?_
| refine wS ?_); refine ⟨_, aA, ?_⟩)
| (refine o_s rfl ?_; refine ⟨_, aA, ?_⟩)
| (refine zK rfl ?_ ?_ <;> intro hc <;> try omega)
| refine wE ?_)
       all_goals try (exfalso; omega)
       exact zT (j + 1) (by omega) (by omega) aI ⟨rfl, rfl, trivial⟩ (zB (by rw [hst]) (zM _))
      | true =>
       rw [hq] at c1
       rw [hq, Bool.true_and] at hst
       cases hpm : prmB p q m with
       | false =>
        rw [hpm] at c2
        rw [hpm, if_neg Bool.false_ne_true, List.append_nil] at hst
        repeat' (first
| refine wO ?_
| (refine o_go rfl ?_; (first
| refine p_p (zN rfl rfl rfl zz rj ze) ?_
| refine p_p (zG rfl rfl aD (c1)) ?_
| refine p_p (zG rfl rfl aD (c2)) ?_
| refine wS ?_); refine ⟨_, aA, ?_⟩)
| (refine zK rfl ?_ ?_ <;> intro hc <;> try omega)
| refine wE ?_)
        all_goals try (exfalso; omega)
        exact zT (j + 1) (by omega) (by omega) aI ⟨rfl, rfl, trivial⟩ (zB (by rw [hst]) (zM _))
       | true =>
        rw [hpm] at c2
        rw [hpm, if_pos rfl] at hst
        repeat' (first
| refine wO ?_
| (refine o_go rfl ?_; (first
| refine p_p (zN rfl rfl rfl zz rj ze) ?_
| refine p_p (zG rfl rfl aD (c1)) ?_
| refine p_p (zG rfl rfl aD (c2)) ?_
| refine p_p (zG rfl rfl aD (c3)) ?_
| refine p_e zk (e_append rfl rfl rfl rfl rfl rfl (one_one rfl) rfl zn zn) ?_
| refine wS ?_
| refine p_p (ps_lit1 rfl rfl (by rfl) (by rfl)) ?_
| refine p_p (ps_lit2 rfl rfl rfl (by rfl) (by rfl) (by rfl)) ?_); refine ⟨_, aA, ?_⟩)
| (refine zK rfl ?_ ?_ <;> intro hc <;> try omega)
| refine wE ?_)
        all_goals try (exfalso; omega)
        exact zT (j + 1) (by omega) (by omega) aI ⟨rfl, rfl, trivial⟩ (zB (by rw [hst]; show HO.arr false 1 _ _ = HO.arr false 1 _ ((L ++ [[p, q]]).map intss); rw [List.map_append]; rfl) (zM _))
    · rw [show j = V.length by omega, hje]
      repeat' (first
| refine wO ?_
| (refine o_go rfl ?_; (first
| refine wS ?_); refine ⟨_, aA, ?_⟩)
| (refine zK rfl ?_ ?_ <;> intro hc <;> try omega)
| refine wE ?_)
      all_goals try (exfalso; omega)
      exact zT (K := fun _ _ => True) (i + 1) (by omega) (by omega) aI ⟨rfl, rfl, trivial⟩ (hpLe_refl _)
  · rw [List.take_of_length_le (by omega)]
    repeat' (first
| refine wO ?_
| (refine o_go rfl ?_; (first
| refine wS ?_); refine ⟨_, aA, ?_⟩)
| (refine zK rfl ?_ ?_ <;> intro hc <;> try omega)
| refine kr2 ?_ ?_
| refine krB rfl ?_
| refine krS rfl ?_
| refine wE ?_)
    all_goals first | rfl | (exfalso; omega)
theorem sdir_c (n : Int) (ops : List OpD) (hs : szOk ops) : PCalls Tryz.prog 64 [algP n ops] (.tup [issP (dirV n ops), B (fcB n ops)]) := by
 refine pcalls2 Tryz.func64 rfl Tryz.ntmps64 rfl ?_
 refine wF ?_
 have h1 := sfew53_c n ops hs
 unfold dirV
 cases hf : fcB n ops with
 | false =>
  rw [if_neg Bool.false_ne_true]
  rw [hf, if_neg Bool.false_ne_true] at h1
  repeat' (first
| refine wO ?_
| (refine o_go rfl ?_; (first
| refine p_p (zG rfl rfl aD (h1)) ?_
| refine wS ?_
| refine p_p (ps_load_agg rfl rfl aK) ?_
| refine p_e rfl (e_lit0 rfl zd) ?_
| refine p_p (ps_box rfl rfl) ?_); refine ⟨_, aA, ?_⟩)
| refine kr2 ?_ ?_
| refine krB rfl ?_
| refine krS rfl ?_
| refine wE ?_)
  all_goals rfl
 | true =>
  obtain ⟨m, rfl, hm0, hm8, h4, ho, hg, hV, h60⟩ := fcB_facts hf
  have hPt := fc_pt (m := m) (ops := ops)
  rw [hf, if_pos rfl, hV] at h1
  rw [if_pos rfl, hV, Int.toNat_natCast]
  generalize allL m ops = V at *
  repeat' (first
| refine wO ?_
| (refine o_go rfl ?_; (first
| refine p_p (zG rfl rfl aD (h1)) ?_
| refine wS ?_
| refine p_p (ps_load_agg rfl rfl aK) ?_
| refine p_e rfl (e_lit0 rfl zd) ?_
| refine p_p (ps_box rfl rfl) ?_); refine ⟨_, aA, ?_⟩)
| refine wE ?_)
  refine g_loopF (α := Nat) [9] (fun i => [(4, .hp 0), (7, I (i : Int))]) (fun i => [lnO3 (dirL m V (V.take i))]) (fun i => i ≤ V.length) (fun i => V.length - i) 0 aH (Nat.zero_le _) ⟨rfl, rfl, trivial⟩ rfl ?_
  rintro i hi
  refine wH ?_
  by_cases hil : i < V.length
  · have ri := rows_at hil
    have pi := hPt _ (rows_mem hil)
    have hj0 := dirJ_zero (n := m) (V := V) (i := i)
    have hje := dirJ_end (n := m) hil
    have hjs := fun {j : Nat} (h : j < V.length) => dirJ_succ (n := m) (i := i) h
    have hjl := fun {j : Nat} (h : j ≤ V.length) => dirJ_len (n := m) hil h h60
    rw [← hj0]
    generalize V.getD i [] = p at *
    repeat' (first
| refine wO ?_
| (refine o_go rfl ?_; (first
| refine wS ?_); refine ⟨_, aA, ?_⟩)
| (refine zK rfl ?_ ?_ <;> intro hc <;> try omega)
| refine wE ?_)
    all_goals try (exfalso; omega)
    refine g_loopF (α := Nat) [] (fun j => [(4, .hp 0), (8, I (j : Int))]) (fun j => [lnO3 (dirJ m V i j)]) (fun j => j ≤ V.length) (fun j => V.length - j) 0 aH (Nat.zero_le _) ⟨rfl, rfl, trivial⟩ rfl ?_
    rintro j hj
    refine wH ?_
    have hll : ((dirJ m V i j).map intss).length ≤ 4000 := by rw [List.length_map]; exact hjl hj
    by_cases hjlt : j < V.length
    · have rj := rows_at hjlt
      have pj := hPt _ (rows_mem hjlt)
      have hst := hjs hjlt
      generalize V.getD j [] = q at *
      have c1 := sacp_c m p q (by omega) pi pj
      have c2 := sprm_c6 m p q (by omega) pi pj
      have c3 := sown_c p (by rw [pi.len]; omega)
      have c4 := sown_c q (by rw [pj.len]; omega)
      unfold dirB at hst
      generalize dirJ m V i j = L at *
      cases hq : cmpP m p q with
      | false =>
       rw [hq] at c1
       rw [hq, Bool.false_and, if_neg Bool.false_ne_true, List.append_nil] at hst
       repeat' (first
| refine wO ?_
| refine zP zk zk ?_
| (refine o_go rfl ?_; (first
| refine p_p (zN rfl rfl rfl zz ri ze) ?_
| refine p_p (zN rfl rfl rfl zz rj ze) ?_
| refine p_p (zG rfl rfl aD (c1)) ?_
| refine wS ?_); refine ⟨_, aA, ?_⟩)
| (refine o_s rfl ?_; refine ⟨_, aA, ?_⟩)
| (refine zK rfl ?_ ?_ <;> intro hc <;> try omega)
| refine wE ?_)
       all_goals try (exfalso; omega)
       exact zT (j + 1) (by omega) (by omega) aI ⟨rfl, rfl, trivial⟩ (zB (by rw [hst]) (zM _))
      | true =>
       rw [hq] at c1
       rw [hq, Bool.true_and] at hst
       cases hpm : prmB p q m with
       | false =>
        rw [hpm] at c2
        rw [hpm, if_neg Bool.false_ne_true, List.append_nil] at hst
        repeat' (first
| refine wO ?_
| refine zP zk zk ?_
| (refine o_go rfl ?_; (first
| refine p_p (zN rfl rfl rfl zz ri ze) ?_
| refine p_p (zN rfl rfl rfl zz rj ze) ?_
| refine p_p (zG rfl rfl aD (c1)) ?_
| refine p_p (zG rfl rfl aD (c2)) ?_
| refine wS ?_); refine ⟨_, aA, ?_⟩)
| (refine zK rfl ?_ ?_ <;> intro hc <;> try omega)
| refine wE ?_)
        all_goals try (exfalso; omega)
        exact zT (j + 1) (by omega) (by omega) aI ⟨rfl, rfl, trivial⟩ (zB (by rw [hst]) (zM _))
       | true =>
        rw [hpm] at c2
        rw [hpm, if_pos rfl] at hst
        repeat' (first
| refine wO ?_
| refine zP zk zk ?_
| (refine o_go rfl ?_; (first
| refine p_p (zN rfl rfl rfl zz ri ze) ?_
| refine p_p (zN rfl rfl rfl zz rj ze) ?_
| refine p_p (zG rfl rfl aD (c1)) ?_
| refine p_p (zG rfl rfl aD (c2)) ?_
| refine p_p (zG rfl rfl aD (c3)) ?_
| refine p_p (zG rfl rfl aD (c4)) ?_
| refine p_e zk (e_append rfl rfl rfl rfl rfl rfl (one_one rfl) rfl zn zn) ?_
| refine wS ?_
| refine p_p (ps_lit1 rfl rfl (by rfl) (by rfl)) ?_
| refine p_p (ps_lit2 rfl rfl rfl (by rfl) (by rfl) (by rfl)) ?_); refine ⟨_, aA, ?_⟩)
| (refine zK rfl ?_ ?_ <;> intro hc <;> try omega)
| refine wE ?_)
        all_goals try (exfalso; omega)
        exact zT (j + 1) (by omega) (by omega) aI ⟨rfl, rfl, trivial⟩ (zB (by rw [hst]; show HO.arr false 1 _ _ = HO.arr false 1 _ ((L ++ [[p, q]]).map intss); rw [List.map_append]; rfl) (zM _))
    · rw [show j = V.length by omega, hje]
      repeat' (first
| refine wO ?_
| (refine o_go rfl ?_; (first
| refine wS ?_); refine ⟨_, aA, ?_⟩)
| (refine zK rfl ?_ ?_ <;> intro hc <;> try omega)
| refine wE ?_)
      all_goals try (exfalso; omega)
      exact zT (K := fun _ _ => True) (i + 1) (by omega) (by omega) aI ⟨rfl, rfl, trivial⟩ (hpLe_refl _)
  · rw [List.take_of_length_le (by omega)]
    repeat' (first
| refine wO ?_
| (refine o_go rfl ?_; (first
| refine wS ?_); refine ⟨_, aA, ?_⟩)
| (refine zK rfl ?_ ?_ <;> intro hc <;> try omega)
| refine kr2 ?_ ?_
| refine krB rfl ?_
| refine krS rfl ?_
| refine wE ?_)
    all_goals first | rfl | (exfalso; omega)
end Go.Proofs.YtbohjibbgppfaaaGreat
