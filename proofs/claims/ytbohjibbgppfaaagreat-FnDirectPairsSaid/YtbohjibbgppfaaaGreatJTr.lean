/- Lemmas of the proof. No condition. -/
import Derived.Test.YtbohjibbgppfaaaGreatJVs
import Derived.Test.YtbohjibbgppfaaaGreatJYo
namespace Go.Proofs.YtbohjibbgppfaaaGreat
open Go Go.Pv Go.Proofs
set_option maxHeartbeats 32000000
set_option maxRecDepth 100000
noncomputable def cmpP (n : Nat) (p q : List Int) : Bool := decide (meetP n p q = idL n) && decide (joinP n p q = fullL n)
theorem cnt_idP {n : Nat} {p : List Int} (hp : Pt n p) : cnt n p = n ↔ p = idL n := by
 rw [cnt_id]
 constructor
 · intro h
   exact pt_ext hp (idL_pt n) fun x hx => by rw [h x hx, bk_idL hx]
 · intro h x hx
   rw [h, bk_idL hx]
theorem cnt_fullP {n : Nat} {p : List Int} (hn : 0 < n) (hp : Pt n p) : cnt n p = 1 ↔ p = fullL n := by
 constructor
 · intro h; exact cnt_one hn hp (by omega)
 · intro h
   have h1 := cnt_pos hp hn
   have h2 : cnt n p ≤ 1 := by
    unfold cnt
    have e : ((List.range n).filter fun x => decide (bk p x = x)) = (List.range n).filter fun x => decide (0 = x) := List.filter_congr fun x _ => by rw [h, bk_full]
    rw [e]
    have hs : ((List.range n).filter fun x => decide (0 = x)).Sublist (List.range n) := List.filter_sublist
    have hnd := List.nodup_range.sublist hs
    rcases hl : (List.range n).filter fun x => decide (0 = x) with _ | ⟨a, _ | ⟨b, l⟩⟩
    · simp
    · simp
    · rw [hl] at hnd
      have ha : a ∈ (List.range n).filter fun x => decide (0 = x) := by rw [hl]; simp
      have hb : b ∈ (List.range n).filter fun x => decide (0 = x) := by rw [hl]; simp
      have ha := of_decide_eq_true (List.mem_filter.1 ha).2
      have hb := of_decide_eq_true (List.mem_filter.1 hb).2
      subst ha hb
      simp at hnd
   omega
theorem join_symm {n : Nat} {p q : List Int} (hp : Pt n p) (hq : Pt n q) : joinP n p q = joinP n q p :=
 fi_antisymm (join_pt hp hq) (join_pt hq hp) (join_least hp hq (join_fi2 hq hp) (join_fi1 hq hp)) (join_least hq hp (join_fi2 hp hq) (join_fi1 hp hq))
theorem meet_symm {n : Nat} {p q : List Int} : meetP n p q = meetP n q p :=
 pt_R meet_pt meet_pt fun x y hx hy => by rw [meet_R hx hy, meet_R hx hy]; exact And.comm
theorem cmpP_symm {n : Nat} {p q : List Int} (hp : Pt n p) (hq : Pt n q) : cmpP n p q = cmpP n q p := by
 unfold cmpP
 rw [meet_symm, join_symm hp hq]
theorem iacp_c (n : Nat) (p q : List Int) (hn0 : 0 < n) (hn : n ≤ 1000) (hp : Pt n p) (hq : Pt n q) : PCalls Tryz.prog 124 [ints p, ints q] (B (cmpP n p q)) := by
 refine pcalls1 Tryz.func124 rfl Tryz.ntmps124 rfl ?_
 refine wF ?_
 have m1 : PCalls Tryz.prog 165 [ints p, ints q] (ints (meetP n p q)) := rcalls_P rfl (imeet_R n p q hn hp hq)
 have m2 : PCalls Tryz.prog 181 [ints p, ints q] (ints (joinP n p q)) := rcalls_P rfl (ijoin_R n p q (by omega) hp.len hq)
 have b1 := ibcnt_c n (meetP n p q) (by omega) meet_pt
 have b2 := ibcnt_c n (joinP n p q) (by omega) (join_pt hp hq)
 have e1 := cnt_idP (n := n) (p := meetP n p q) meet_pt
 have e2 := cnt_fullP hn0 (join_pt hp hq)
 have hpl : p.length = n := hp.len
 have hcm : cmpP n p q = (decide (cnt n (meetP n p q) = n) && decide (cnt n (joinP n p q) = 1)) := by
  unfold cmpP
  rw [decide_eq_decide.2 e1, decide_eq_decide.2 e2]
 rw [hcm]
 clear e1 e2 hcm
 generalize cnt n (meetP n p q) = c1 at *
 generalize cnt n (joinP n p q) = c2 at *
 by_cases h1 : c1 = n
 · rw [decide_eq_true h1, Bool.true_and]
   by_cases h2 : c2 = 1
   · rw [decide_eq_true h2]
     repeat' (first
| refine wO ?_
| (refine o_go rfl ?_; (first
| refine p_p (zG rfl rfl aD (m1)) ?_
| refine p_p (zG rfl rfl aD (m2)) ?_
| refine p_p (zG rfl rfl aD (b1)) ?_
| refine p_p (zG rfl rfl aD (b2)) ?_
| refine wS ?_); refine ⟨_, aA, ?_⟩)
| (refine o_splitD rfl rfl rfl ?_ ?_ <;> intro hc <;> first | omega | dsimp only [List.set_cons_zero, List.set_cons_succ])
| refine kr1 ?_
| refine krB rfl ?_
| refine wE ?_)
     all_goals first | rfl | (exfalso; omega) | exact decide_eq_true (by omega)
   · rw [decide_eq_false h2]
     repeat' (first
| refine wO ?_
| (refine o_go rfl ?_; (first
| refine p_p (zG rfl rfl aD (m1)) ?_
| refine p_p (zG rfl rfl aD (m2)) ?_
| refine p_p (zG rfl rfl aD (b1)) ?_
| refine p_p (zG rfl rfl aD (b2)) ?_
| refine wS ?_); refine ⟨_, aA, ?_⟩)
| (refine o_splitD rfl rfl rfl ?_ ?_ <;> intro hc <;> first | omega | dsimp only [List.set_cons_zero, List.set_cons_succ])
| refine kr1 ?_
| refine krB rfl ?_
| refine wE ?_)
     all_goals first | rfl | (exfalso; omega) | exact decide_eq_false (by omega)
 · rw [decide_eq_false h1, Bool.false_and]
   repeat' (first
| refine wO ?_
| (refine o_go rfl ?_; (first
| refine p_p (zG rfl rfl aD (m1)) ?_
| refine p_p (zG rfl rfl aD (b1)) ?_
| refine wS ?_); refine ⟨_, aA, ?_⟩)
| (refine o_s rfl ?_; refine ⟨_, aA, ?_⟩)
| (refine o_splitD rfl rfl rfl ?_ ?_ <;> intro hc <;> first | omega | dsimp only [List.set_cons_zero, List.set_cons_succ])
| refine kr1 ?_
| refine krB rfl ?_
| refine wE ?_)
   all_goals first | rfl | (exfalso; omega) | exact decide_eq_false (by omega)
theorem sacp_c (n : Nat) (p q : List Int) (hn : n ≤ 1000) (hp : Pt n p) (hq : Pt n q) : PCalls Tryz.prog 138 [ints p, ints q] (B (cmpP n p q)) := by
 refine pcalls1 Tryz.func138 rfl Tryz.ntmps138 rfl ?_
 refine wF ?_
 have m1 := smeet6_c n p q hn hp hq
 have m2 := sjoin_c n p q (by omega) hp.len hq
 have i1 := sident_c n (by omega)
 have i2 := sfull_c n (by omega)
 have hpl : p.length = n := hp.len
 have s1 := gsame_c (meetP n p q) (idL n) (by rw [meet_pt.len]; omega)
 have s2 := gsame_c (joinP n p q) (fullL n) (by rw [(join_pt hp hq).len]; omega)
 unfold cmpP
 subst hpl
 generalize meetP p.length p q = M at *
 generalize joinP p.length p q = J at *
 generalize idL p.length = D at *
 generalize fullL p.length = E at *
 generalize decide (M = D) = u at *
 generalize decide (J = E) = v at *
 cases u with
 | true =>
  repeat' (first
| refine wO ?_
| (refine o_go rfl ?_; (first
| refine p_p (zG rfl rfl aD (m1)) ?_
| refine p_p (zG rfl rfl aD (m2)) ?_
| refine p_p (zG rfl rfl aD (i1)) ?_
| refine p_p (zG rfl rfl aD (i2)) ?_
| refine p_p (zG rfl rfl aD (s1)) ?_
| refine p_p (zG rfl rfl aD (s2)) ?_
| refine wS ?_); refine ⟨_, aA, ?_⟩)
| refine kr1 ?_
| refine krB rfl ?_
| refine wE ?_)
  all_goals rfl
 | false =>
  repeat' (first
| refine wO ?_
| (refine o_go rfl ?_; (first
| refine p_p (zG rfl rfl aD (m1)) ?_
| refine p_p (zG rfl rfl aD (i1)) ?_
| refine p_p (zG rfl rfl aD (s1)) ?_
| refine wS ?_); refine ⟨_, aA, ?_⟩)
| (refine o_s rfl ?_; refine ⟨_, aA, ?_⟩)
| refine kr1 ?_
| refine krB rfl ?_
| refine wE ?_)
  all_goals rfl
noncomputable def cofL (n : Nat) (p : List Int) (V : List (List Int)) : List (List Int) := V.filter (cmpP n p)
theorem cof_take {n : Nat} {p : List Int} {V : List (List Int)} {i : Nat} (h : i < V.length) : cofL n p (V.take (i + 1)) = cofL n p (V.take i) ++ if cmpP n p (V.getD i []) then [V.getD i []] else [] := by
 unfold cofL
 rw [take_snoc [] h, List.filter_append]
 congr 1
 cases hc : cmpP n p (V.getD i []) with
 | true => rw [List.filter_cons_of_pos hc]; rfl
 | false => rw [List.filter_cons_of_neg (by rw [hc]; exact Bool.false_ne_true)]; rfl
theorem cof_len {n : Nat} {p : List Int} {V : List (List Int)} {i : Nat} (h : i ≤ V.length) : (cofL n p (V.take i)).length ≤ i := by
 have := List.length_filter_le (cmpP n p) (V.take i)
 rw [List.length_take] at this
 unfold cofL; omega
noncomputable def cofB (n : Int) (ops : List OpD) (p : List Int) : Bool := fcB n ops && cgB n.toNat ops p
noncomputable def cofV (n : Int) (ops : List OpD) (p : List Int) : List (List Int) := if cofB n ops p then cofL n.toNat p (acV n ops) else []
theorem icof_c (n : Int) (ops : List OpD) (p : List Int) (hs : szOk ops) (hpl : p.length ≤ 1048576) : PCalls Tryz.prog 53 [algP n ops, ints p] (.tup [intss (cofV n ops p), B (cofB n ops p)]) := by
 refine pcalls2 Tryz.func53 rfl Tryz.ntmps53 rfl ?_
 refine wF ?_
 have h1 := ifew_c n ops hs
 unfold cofV
 cases hf : fcB n ops with
 | false =>
  have e : cofB n ops p = false := by unfold cofB; rw [hf]; rfl
  rw [e, if_neg Bool.false_ne_true]
  rw [hf, if_neg Bool.false_ne_true] at h1
  repeat' (first
| refine wO ?_
| (refine o_go rfl ?_; (first
| refine p_p (zG rfl rfl aD (h1)) ?_
| refine wS ?_
| refine p_p (ps_load_agg rfl rfl aK) ?_
| refine p_e rfl (e_lit0 rfl zd) ?_
| refine p_p (ps_box rfl rfl) ?_); refine ⟨_, aA, ?_⟩)
| (refine o_s rfl ?_; refine ⟨_, aA, ?_⟩)
| refine kr2 ?_ ?_
| refine krB rfl ?_
| refine krS rfl ?_
| refine wE ?_)
  all_goals rfl
 | true =>
  obtain ⟨m, rfl, hm0, hm8, h4, ho, hg, hV, h60⟩ := fcB_facts hf
  have hPt := fc_pt (m := m) (ops := ops)
  rw [hf, if_pos rfl, hV] at h1
  have h2 := iisc_c m ops p hm0 hm8 (by omega) ho hpl
  have e : cofB (m : Int) ops p = cgB m ops p := by unfold cofB; rw [hf, Int.toNat_natCast, Bool.true_and]
  rw [e, hV, Int.toNat_natCast]
  generalize allL m ops = V at *
  cases hc : cgB m ops p with
  | false =>
   rw [hc] at h2
   rw [if_neg Bool.false_ne_true]
   repeat' (first
| refine wO ?_
| (refine o_go rfl ?_; (first
| refine p_p (zG rfl rfl aD (h1)) ?_
| refine p_p (zG rfl rfl aD (h2)) ?_
| refine wS ?_
| refine p_p (ps_load_agg rfl rfl aK) ?_
| refine p_e rfl (e_lit0 rfl zd) ?_
| refine p_p (ps_box rfl rfl) ?_); refine ⟨_, aA, ?_⟩)
| refine kr2 ?_ ?_
| refine krB rfl ?_
| refine krS rfl ?_
| refine wE ?_)
   all_goals rfl
  | true =>
   have hp := ((cgB_iff hm0 ho).1 hc).1
   rw [hc] at h2
   rw [if_pos rfl]
   repeat' (first
| refine wO ?_
| (refine o_go rfl ?_; (first
| refine p_p (zG rfl rfl aD (h1)) ?_
| refine p_p (zG rfl rfl aD (h2)) ?_
| refine wS ?_
| refine p_p (ps_load_agg rfl rfl aK) ?_
| refine p_e rfl (e_lit0 rfl zd) ?_
| refine p_p (ps_box rfl rfl) ?_); refine ⟨_, aA, ?_⟩)
| refine wE ?_)
   refine g_loopF (α := Nat) [25] (fun i => [(8, .hp 0), (28, I (i : Int))]) (fun i => [lnO (cofL m p (V.take i))]) (fun i => i ≤ V.length) (fun i => V.length - i) 0 aH (Nat.zero_le _) ⟨rfl, rfl, trivial⟩ rfl ?_
   rintro i hi
   refine wH ?_
   have hml : ((cofL m p (V.take i)).map ints).length ≤ i := by rw [List.length_map]; exact cof_len hi
   by_cases hil : i < V.length
   · have ri := rows_at hil
     have pi := hPt _ (rows_mem hil)
     have c1 := iacp_c m p (V.getD i []) hm0 (by omega) hp pi
     have hst := cof_take (n := m) (p := p) hil
     generalize cofL m p (V.take i) = L at *
     generalize V.getD i [] = q at *
     cases hq : cmpP m p q with
     | false =>
      rw [hq] at c1
      rw [hq, if_neg Bool.false_ne_true, List.append_nil] at hst
      repeat' (first
| refine wO ?_
| (refine o_go rfl ?_; (first
| refine p_p (zN rfl rfl rfl zz ri ze) ?_
| refine p_p (zG rfl rfl aD (c1)) ?_
| refine wS ?_); refine ⟨_, aA, ?_⟩)
| (refine zK rfl ?_ ?_ <;> intro hc <;> try omega)
| refine wE ?_)
      all_goals try (exfalso; omega)
      exact zT (i + 1) (by omega) (by omega) aI ⟨rfl, rfl, trivial⟩ (zB (by rw [hst]) (zM _))
     | true =>
      rw [hq] at c1
      rw [hq, if_pos rfl] at hst
      repeat' (first
| refine wO ?_
| (refine o_go rfl ?_; (first
| refine p_p (zN rfl rfl rfl zz ri ze) ?_
| refine p_p (zG rfl rfl aD (c1)) ?_
| refine p_e zk (e_append rfl rfl rfl rfl rfl rfl (one_one rfl) rfl zn zn) ?_
| refine wS ?_
| refine p_p (ps_lit1 rfl rfl (by rfl) (by rfl)) ?_); refine ⟨_, aA, ?_⟩)
| (refine zK rfl ?_ ?_ <;> intro hc <;> try omega)
| refine wE ?_)
      all_goals try (exfalso; omega)
      exact zT (i + 1) (by omega) (by omega) aI ⟨rfl, rfl, trivial⟩ (zB (by rw [hst]; show HO.arr false 1 _ _ = HO.arr false 1 _ ((L ++ [q]).map ints); rw [List.map_append]; rfl) (zM _))
   · rw [List.take_of_length_le (by omega)]
     repeat' (first
| refine wO ?_
| (refine o_go rfl ?_; (first
| refine wS ?_); refine ⟨_, aA, ?_⟩)
| (refine zK rfl ?_ ?_ <;> intro hc <;> try omega)
| refine kr2 ?_ ?_
| refine krB rfl ?_
| refine krS rfl ?_
| refine wE ?_)
     all_goals first | rfl | (exfalso; omega)
theorem scof_c (n : Int) (ops : List OpD) (p : List Int) (hs : szOk ops) (hpl : p.length ≤ 1048576) : PCalls Tryz.prog 68 [algP n ops, ints p] (.tup [intss (cofV n ops p), B (cofB n ops p)]) := by
 refine pcalls2 Tryz.func68 rfl Tryz.ntmps68 rfl ?_
 refine wF ?_
 have h1 := sfew53_c n ops hs
 unfold cofV
 cases hf : fcB n ops with
 | false =>
  have e : cofB n ops p = false := by unfold cofB; rw [hf]; rfl
  rw [e, if_neg Bool.false_ne_true]
  rw [hf, if_neg Bool.false_ne_true] at h1
  repeat' (first
| refine wO ?_
| (refine o_go rfl ?_; (first
| refine p_p (zG rfl rfl aD (h1)) ?_
| refine wS ?_
| refine p_p (ps_load_agg rfl rfl aK) ?_
| refine p_e rfl (e_lit0 rfl zd) ?_
| refine p_p (ps_box rfl rfl) ?_); refine ⟨_, aA, ?_⟩)
| (refine o_s rfl ?_; refine ⟨_, aA, ?_⟩)
| refine kr2 ?_ ?_
| refine krB rfl ?_
| refine krS rfl ?_
| refine wE ?_)
  all_goals rfl
 | true =>
  obtain ⟨m, rfl, hm0, hm8, h4, ho, hg, hV, h60⟩ := fcB_facts hf
  have hPt := fc_pt (m := m) (ops := ops)
  rw [hf, if_pos rfl, hV] at h1
  have h2 := sptn_c m p (by omega) hpl
  have h3 := sis_c m ops p hm0 hm8 (by omega) ho hpl
  have hcg : ptB m p = false → cgB m ops p = false := fun h => by unfold cgB; rw [h]; rfl
  have e : cofB (m : Int) ops p = cgB m ops p := by unfold cofB; rw [hf, Int.toNat_natCast, Bool.true_and]
  rw [e, hV, Int.toNat_natCast]
  generalize allL m ops = V at *
  cases hc : cgB m ops p with
  | false =>
   rw [hc] at h3
   rw [if_neg Bool.false_ne_true]
   cases hpt : ptB m p with
   | true =>
    rw [hpt] at h2
    repeat' (first
| refine wO ?_
| (refine o_go rfl ?_; (first
| refine p_p (zG rfl rfl aD (h1)) ?_
| refine p_p (zG rfl rfl aD (h2)) ?_
| refine p_p (zG rfl rfl aD (h3)) ?_
| refine wS ?_
| refine p_p (ps_load_agg rfl rfl aK) ?_
| refine p_e rfl (e_lit0 rfl zd) ?_
| refine p_p (ps_box rfl rfl) ?_); refine ⟨_, aA, ?_⟩)
| refine kr2 ?_ ?_
| refine krB rfl ?_
| refine krS rfl ?_
| refine wE ?_)
    all_goals rfl
   | false =>
    rw [hpt] at h2
    repeat' (first
| refine wO ?_
| (refine o_go rfl ?_; (first
| refine p_p (zG rfl rfl aD (h1)) ?_
| refine p_p (zG rfl rfl aD (h2)) ?_
| refine wS ?_
| refine p_p (ps_load_agg rfl rfl aK) ?_
| refine p_e rfl (e_lit0 rfl zd) ?_
| refine p_p (ps_box rfl rfl) ?_); refine ⟨_, aA, ?_⟩)
| (refine o_s rfl ?_; refine ⟨_, aA, ?_⟩)
| refine kr2 ?_ ?_
| refine krB rfl ?_
| refine krS rfl ?_
| refine wE ?_)
    all_goals rfl
  | true =>
   have hp := ((cgB_iff hm0 ho).1 hc).1
   have hpt : ptB m p = true := by
    cases h : ptB m p with
    | true => rfl
    | false => rw [hcg h] at hc; cases hc
   rw [hpt] at h2
   rw [hc] at h3
   rw [if_pos rfl]
   repeat' (first
| refine wO ?_
| (refine o_go rfl ?_; (first
| refine p_p (zG rfl rfl aD (h1)) ?_
| refine p_p (zG rfl rfl aD (h2)) ?_
| refine p_p (zG rfl rfl aD (h3)) ?_
| refine wS ?_
| refine p_p (ps_load_agg rfl rfl aK) ?_
| refine p_e rfl (e_lit0 rfl zd) ?_
| refine p_p (ps_box rfl rfl) ?_); refine ⟨_, aA, ?_⟩)
| refine wE ?_)
   refine g_loopF (α := Nat) [10] (fun i => [(6, .hp 0), (9, I (i : Int))]) (fun i => [lnO (cofL m p (V.take i))]) (fun i => i ≤ V.length) (fun i => V.length - i) 0 aH (Nat.zero_le _) ⟨rfl, rfl, trivial⟩ rfl ?_
   rintro i hi
   refine wH ?_
   have hml : ((cofL m p (V.take i)).map ints).length ≤ i := by rw [List.length_map]; exact cof_len hi
   by_cases hil : i < V.length
   · have ri := rows_at hil
     have pi := hPt _ (rows_mem hil)
     have c1 := sacp_c m p (V.getD i []) (by omega) hp pi
     have hst := cof_take (n := m) (p := p) hil
     generalize cofL m p (V.take i) = L at *
     generalize V.getD i [] = q at *
     cases hq : cmpP m p q with
     | false =>
      rw [hq] at c1
      rw [hq, if_neg Bool.false_ne_true, List.append_nil] at hst
      repeat' (first
| refine wO ?_
| (refine o_go rfl ?_; (first
| refine p_p (zN rfl rfl rfl zz ri ze) ?_
| refine p_p (zG rfl rfl aD (c1)) ?_
| refine wS ?_); refine ⟨_, aA, ?_⟩)
| (refine zK rfl ?_ ?_ <;> intro hc <;> try omega)
| refine wE ?_)
      all_goals try (exfalso; omega)
      exact zT (i + 1) (by omega) (by omega) aI ⟨rfl, rfl, trivial⟩ (zB (by rw [hst]) (zM _))
     | true =>
      rw [hq] at c1
      rw [hq, if_pos rfl] at hst
      repeat' (first
| refine wO ?_
| (refine o_go rfl ?_; (first
| refine p_p (zN rfl rfl rfl zz ri ze) ?_
| refine p_p (zG rfl rfl aD (c1)) ?_
| refine p_e zk (e_append rfl rfl rfl rfl rfl rfl (one_one rfl) rfl zn zn) ?_
| refine wS ?_
| refine p_p (ps_lit1 rfl rfl (by rfl) (by rfl)) ?_); refine ⟨_, aA, ?_⟩)
| (refine zK rfl ?_ ?_ <;> intro hc <;> try omega)
| refine wE ?_)
      all_goals try (exfalso; omega)
      exact zT (i + 1) (by omega) (by omega) aI ⟨rfl, rfl, trivial⟩ (zB (by rw [hst]; show HO.arr false 1 _ _ = HO.arr false 1 _ ((L ++ [q]).map ints); rw [List.map_append]; rfl) (zM _))
   · rw [List.take_of_length_le (by omega)]
     repeat' (first
| refine wO ?_
| (refine o_go rfl ?_; (first
| refine wS ?_); refine ⟨_, aA, ?_⟩)
| (refine zK rfl ?_ ?_ <;> intro hc <;> try omega)
| refine kr2 ?_ ?_
| refine krB rfl ?_
| refine krS rfl ?_
| refine wE ?_)
     all_goals first | rfl | (exfalso; omega)
end Go.Proofs.YtbohjibbgppfaaaGreat
