/- Walks: drawn lattice maps. -/
import Derived.Test.YtbfmjknngofleaaJWi
import Derived.Test.YtbfmjknngofleaaJWj
namespace Go.Proofs.Ytbfmjknngofleaa
open Go Go.Pv Go.Proofs
attribute [local bitvec_to_nat] St.put St.setObj St.ev killP killA killP1 killH mapHO renP renA ren1 killG killGA killG1 krowP krowA krow1 lendP lendA lend1 unv pinP pin1 elemsM viewM viewN viewV n_set_z n_set_s n_map_c n_map_n getD_z getD_s n_toNat n_cond_t n_cond_f n_len_c n_len_n n_app_c n_app_n n_take_s n_take_z n_drop_s n_drop_z n_get_z n_get_s view viewA view1 elems Nat.zero_add Nat.add_zero Bool.not_true Bool.not_false Nat.one_ne_zero Nat.mul_one

/-- The map to two values, by what lies above one element. -/
def cstW (p : List (List Int)) (j bot top : Int) (o : List Int) (k : Nat) : List Int := runW (fun x o => o.set x (if leqB p j (x : Int) = true then top else bot)) o k
theorem cstW_len (p : List (List Int)) (j bot top : Int) (o : List Int) : ∀ k, (cstW p j bot top o k).length = o.length
  | 0 => rfl
  | k + 1 => by
    show ((cstW p j bot top o k).set k _).length = _
    rw [List.length_set]; exact cstW_len p j bot top o k
/-- What the middle of map25 does: cursors and list before and behind it. -/
inductive MapMid (p q : List (List Int)) (c : Cu) (o : List Int) : Cu → List Int → Prop
  | bad (h : (goodL p && goodL q) = false) : MapMid p q c o c o
  | one (h : (goodL p && goodL q) = true) {c4 : Cu} (h4 : LCalls Try.prog 41 (cuB c) [.hat 0 0, I 4] (cuB c4) (B true)) : MapMid p q c o c4 o
  | two (h : (goodL p && goodL q) = true) {c4 c5 c6 : Cu} {z : Int} (h4 : LCalls Try.prog 41 (cuB c) [.hat 0 0, I 4] (cuB c4) (B false)) (hl : 0 < (irrL p).length)
      (h5 : LCalls Try.prog 41 (cuB c4) [.hat 0 0, I 2] (cuB c5) (B true)) (h6 : LCalls Try.prog 45 (cuB c5) [.hat 0 0, I ((irrL p).length : Int)] (cuB c6) (I z)) (z0 : 0 ≤ z) (z1 : z < ((irrL p).length : Int)) :
      MapMid p q c o c6 (cstW p (own p z.toNat) (botL q) (topL q) o o.length)
  | rest (h : (goodL p && goodL q) = true) {c4 c5 c6 : Cu} {g : List Int} (h4 : LCalls Try.prog 41 (cuB c) [.hat 0 0, I 4] (cuB c4) (B false))
      (h5 : 0 < (irrL p).length → LCalls Try.prog 41 (cuB c4) [.hat 0 0, I 2] (cuB c5) (B false)) (h5' : ¬ 0 < (irrL p).length → c5 = c4) (hd : (distB p && distB q) = true)
      (h6 : LCalls Try.prog 35 (cuB c5) [.hat 0 0, posetP q, posetP p] (cuB c6) (ints g)) (hg : g.length ≤ 1000) : MapMid p q c o c6 (bif lmoB p q g then lmoL p q g p.length else o)
  | low (h : (goodL p && goodL q) = true) {c4 c5 : Cu} (h4 : LCalls Try.prog 41 (cuB c) [.hat 0 0, I 4] (cuB c4) (B false))
      (h5 : 0 < (irrL p).length → LCalls Try.prog 41 (cuB c4) [.hat 0 0, I 2] (cuB c5) (B false)) (h5' : ¬ 0 < (irrL p).length → c5 = c4) (hd : (distB p && distB q) = false) : MapMid p q c o c5 o
set_option maxHeartbeats 4000000 in
set_option maxRecDepth 100000 in
theorem map_w {c c5 c6 c7 c' : Cu} {p q : List (List Int)} {n : Nat} {y z v : Int} {o5 o' : List Int} {F : Nat → Cu × List Int} (hp : okP p) (hq : okP q) (hn : n = p.length) (F0 : F 0 = (c, []))
    (F1 : ∀ i, i ≤ n → inLR (F i).2 i (if (q.length : Int) < 1 then 1 else (q.length : Int))) (F2 : ∀ i, i < n → ∃ x, 0 ≤ x ∧ x < (if (q.length : Int) < 1 then 1 else (q.length : Int)) ∧ LCalls Try.prog 45 (cuB (F i).1) [.hat 0 0, I (if (q.length : Int) < 1 then 1 else (q.length : Int))] (cuB (F (i + 1)).1) (I x) ∧ (F (i + 1)).2 = (F i).2 ++ [x])
    (hm : MapMid p q (F n).1 (F n).2 c5 o5)
    (h6 : LCalls Try.prog 45 (cuB c5) [.hat 0 0, I 32] (cuB c6) (I y)) (l0 : y = 0 → c' = c6 ∧ o' = o5 ++ [0]) (l1 : y ≠ 0 → (y ≠ 1 ∨ o5.length = 0) → c' = c6 ∧ o' = o5)
    (l2 : y = 1 → 0 < o5.length → 0 ≤ z ∧ z < (o5.length : Int) ∧ LCalls Try.prog 45 (cuB c6) [.hat 0 0, I (o5.length : Int)] (cuB c7) (I z) ∧ LCalls Try.prog 48 (cuB c7) [.hat 0 0, ints [-1, (q.length : Int), 0]] (cuB c') (I v) ∧ o' = o5.set z.toNat v) (hol : o5.length ≤ 1048576) :
    LCalls Try.prog 19 (cuB c) [.hat 0 0, posetP p, posetP q] (cuB c') (ints o') := by
  refine pcallsL1 Try.func19 rfl Try.ntmps19 rfl rfl rfl (by simp) fun b d => ?_
  simp only [List.length_cons, List.length_nil, Nat.reduceAdd, Nat.reduceSub, List.replicate_succ, List.replicate_zero]
  have hpl := hp.1
  have hql := hq.1
  have a5 := smost_c 1 (q.length : Int)
  repeat' (first
| refine g_seq ?_
| refine g_block ?_
| refine g_region ?_
| (refine o_go rfl ?_; (first
| refine p_e rfl (e_lit0T rfl (by decide)) ?_
| refine p_p (ps_assign rfl) ?_
| refine p_p (ps_box rfl rfl) ?_); refine ⟨_, (by dsimp only [bitvec_to_nat, Nat.reduceAdd, Nat.reduceMul, Nat.reduceBEq, reduceCtorEq]), ?_⟩)
| refine o_nil ?_)
  refine g_loopF (α := Nat) [16] (fun i => [(7, .hp 1), (8, I (i : Int))]) (fun i => [cuB (F i).1, .arr true 1 3 ((F i).2.map I)]) (fun i => i ≤ n) (fun i => n - i) 0 (by simp only [havoc, dsts, List.filterMap_cons, List.filterMap_nil, List.foldl_cons, List.foldl_nil, List.cons_append, List.nil_append, List.append_nil, List.set_cons_succ, List.set_cons_zero]; exact rfl) (Nat.zero_le _) ⟨rfl, rfl, trivial⟩ (by rw [F0]; rfl) ?_
  rintro i hi
  dsimp only [setMany, List.set_cons_zero, List.set_cons_succ]
  have hfl : ((F i).2.map I).length = i := by rw [List.length_map]; exact (F1 i hi).1
  by_cases hin : i < n
  · obtain ⟨x, x0, x1, hpk, hF⟩ := F2 i hin
    repeat' (first
| refine g_seq ?_
| refine g_block ?_
| refine g_region ?_
| (refine o_go rfl ?_; (first
| refine p_p (ps_call rfl rfl (by (repeat (first | refine ⟨PV.le_refl _, ?_⟩ | refine ⟨PV.le_nn _ _ _, ?_⟩ | refine ⟨PV.le_nil _, ?_⟩ | refine ⟨PV.le_any _, ?_⟩)); exact trivial) (a5)) ?_
| refine p_e rfl (e_callL (n := 0) rfl rfl rfl (by (repeat (first | refine ⟨leS_refl _, ?_⟩ | refine ⟨leS_nn _ _ _, ?_⟩ | refine ⟨leS_nil _, ?_⟩ | refine ⟨leS_any _, ?_⟩)); exact trivial) rfl (by rfl) (by first | exact ⟨rfl, rfl, rfl, by simp⟩ | exact ⟨rfl, rfl, by simp⟩ | trivial) (hpk)) ?_
| refine p_e rfl (e_append rfl rfl rfl rfl rfl rfl (one_one rfl) rfl (by rw [n_len_c, n_len_n]; omega) (by rw [n_len_c, n_len_n]; omega)) ?_
| refine p_p (ps_move rfl) ?_
| refine p_p (ps_assign rfl) ?_
| refine p_p (ps_load_cell rfl rfl) ?_
| refine p_p (ps_lenM rfl rfl rfl) ?_
| refine p_p (ps_lss rfl rfl rfl) ?_
| refine p_p (ps_add rfl rfl rfl (by constructor <;> omega)) ?_
| refine p_p (ps_fieldAddr rfl rfl) ?_
| refine p_p (ps_lit1 rfl rfl (by rfl) (by rfl)) ?_); refine ⟨_, (by dsimp only [bitvec_to_nat, Nat.reduceAdd, Nat.reduceMul, Nat.reduceBEq, reduceCtorEq]), ?_⟩)
| refine o_nil ?_
| (refine g_condD rfl (fun hc => ?_) (fun hc => ?_) <;> try (exfalso; omega))
| refine g_skip ?_)
    all_goals try (exfalso; omega)
    refine k_round (i + 1) (by omega) (by omega) (by repeat (first | exact trivial | refine ⟨.inl rfl, ?_⟩ | refine ⟨.inr rfl, ?_⟩)) ⟨rfl, rfl, trivial⟩ (hpLe_cons rfl (hpLe_cons ?_ (hpLe_nil _)))
    rw [hF, List.map_append]; rfl
  have hie : i = n := by omega
  subst hie
  repeat' ((fail_if_success (refine at_reg 6 ?_)); (first
| refine g_seq ?_
| refine g_region ?_
| (refine o_go rfl ?_; (first
| refine p_p (ps_move rfl) ?_
| refine p_p (ps_load_cell rfl rfl) ?_
| refine p_p (ps_lenM rfl rfl rfl) ?_
| refine p_p (ps_lss rfl rfl rfl) ?_
| refine p_p (ps_fieldAddr rfl rfl) ?_); refine ⟨_, (by dsimp only [bitvec_to_nat, Nat.reduceAdd, Nat.reduceMul, Nat.reduceBEq, reduceCtorEq]), ?_⟩)
| refine o_nil ?_
| (refine g_condD rfl (fun hc => ?_) (fun hc => ?_) <;> try (exfalso; omega))
| refine g_exit ?_))
  refine g_join [] [(7, .hp 1)] [cuB c5, .arr true 1 3 (o5.map I)] (by simp only [havoc, dsts, List.filterMap_cons, List.filterMap_nil, List.foldl_cons, List.foldl_nil, List.cons_append, List.nil_append, List.append_nil, List.set_cons_succ, List.set_cons_zero]; exact rfl) ?_ ⟨_, rfl, ?_⟩
  · have a1 := goodL_c p hp
    have a2 := goodL_c q hq
    have hFi := F1 i hi
    cases hm with
    | bad h =>
      cases h1 : goodL p with
      | false =>
        rw [h1] at a1
        repeat' (first
| refine g_seq ?_
| refine g_region ?_
| (refine o_go rfl ?_; (first
| refine p_p (ps_call rfl rfl (by (repeat (first | refine ⟨PV.le_refl _, ?_⟩ | refine ⟨PV.le_nn _ _ _, ?_⟩ | refine ⟨PV.le_nil _, ?_⟩ | refine ⟨PV.le_any _, ?_⟩)); exact trivial) (a1)) ?_
| refine p_p (ps_move rfl) ?_
| refine p_p (ps_load_agg rfl rfl (by exact Nat.le_of_ble_eq_true rfl)) ?_
| refine p_p (ps_pick rfl rfl) ?_); refine ⟨_, (by dsimp only [bitvec_to_nat, Nat.reduceAdd, Nat.reduceMul, Nat.reduceBEq, reduceCtorEq]), ?_⟩)
| refine o_nil ?_
| (refine o_s rfl ?_; refine ⟨_, (by dsimp only [bitvec_to_nat, Nat.reduceAdd, Nat.reduceMul, Nat.reduceBEq, reduceCtorEq]), ?_⟩)
| refine g_condF rfl ?_
| refine g_skip ?_)
        exact k_join (by repeat (first | exact trivial | refine ⟨.inl rfl, ?_⟩ | refine ⟨.inr rfl, ?_⟩)) ⟨rfl, trivial⟩ (hpLe_cons rfl (hpLe_cons rfl (hpLe_nil _)))
      | true =>
        rw [h1, Bool.true_and] at h
        rw [h1] at a1
        rw [h] at a2
        repeat' (first
| refine g_seq ?_
| refine g_region ?_
| (refine o_go rfl ?_; (first
| refine p_p (ps_call rfl rfl (by (repeat (first | refine ⟨PV.le_refl _, ?_⟩ | refine ⟨PV.le_nn _ _ _, ?_⟩ | refine ⟨PV.le_nil _, ?_⟩ | refine ⟨PV.le_any _, ?_⟩)); exact trivial) (a1)) ?_
| refine p_p (ps_call rfl rfl (by (repeat (first | refine ⟨PV.le_refl _, ?_⟩ | refine ⟨PV.le_nn _ _ _, ?_⟩ | refine ⟨PV.le_nil _, ?_⟩ | refine ⟨PV.le_any _, ?_⟩)); exact trivial) (a2)) ?_
| refine p_p (ps_move rfl) ?_
| refine p_p (ps_load_agg rfl rfl (by exact Nat.le_of_ble_eq_true rfl)) ?_
| refine p_p (ps_pick rfl rfl) ?_); refine ⟨_, (by dsimp only [bitvec_to_nat, Nat.reduceAdd, Nat.reduceMul, Nat.reduceBEq, reduceCtorEq]), ?_⟩)
| refine o_nil ?_
| (refine o_s rfl ?_; refine ⟨_, (by dsimp only [bitvec_to_nat, Nat.reduceAdd, Nat.reduceMul, Nat.reduceBEq, reduceCtorEq]), ?_⟩)
| refine g_condF rfl ?_
| refine g_skip ?_)
        exact k_join (by repeat (first | exact trivial | refine ⟨.inl rfl, ?_⟩ | refine ⟨.inr rfl, ?_⟩)) ⟨rfl, trivial⟩ (hpLe_cons rfl (hpLe_cons rfl (hpLe_nil _)))
    | one h h4 =>
      rw [Bool.and_eq_true] at h
      rw [h.1] at a1
      rw [h.2] at a2
      repeat' (first
| refine g_seq ?_
| refine g_region ?_
| (refine o_go rfl ?_; (first
| refine p_p (ps_call rfl rfl (by (repeat (first | refine ⟨PV.le_refl _, ?_⟩ | refine ⟨PV.le_nn _ _ _, ?_⟩ | refine ⟨PV.le_nil _, ?_⟩ | refine ⟨PV.le_any _, ?_⟩)); exact trivial) (a1)) ?_
| refine p_p (ps_call rfl rfl (by (repeat (first | refine ⟨PV.le_refl _, ?_⟩ | refine ⟨PV.le_nn _ _ _, ?_⟩ | refine ⟨PV.le_nil _, ?_⟩ | refine ⟨PV.le_any _, ?_⟩)); exact trivial) (a2)) ?_
| refine p_e rfl (e_callL (n := 0) rfl rfl rfl (by (repeat (first | refine ⟨leS_refl _, ?_⟩ | refine ⟨leS_nn _ _ _, ?_⟩ | refine ⟨leS_nil _, ?_⟩ | refine ⟨leS_any _, ?_⟩)); exact trivial) rfl (by rfl) (by first | exact ⟨rfl, rfl, rfl, by simp⟩ | exact ⟨rfl, rfl, by simp⟩ | trivial) (h4)) ?_
| refine p_p (ps_move rfl) ?_
| refine p_p (ps_load_agg rfl rfl (by exact Nat.le_of_ble_eq_true rfl)) ?_
| refine p_p (ps_not rfl rfl) ?_
| refine p_p (ps_pick rfl rfl) ?_); refine ⟨_, (by dsimp only [bitvec_to_nat, Nat.reduceAdd, Nat.reduceMul, Nat.reduceBEq, reduceCtorEq]), ?_⟩)
| refine o_nil ?_
| refine g_condF rfl ?_
| refine g_skip ?_)
      exact k_join (by repeat (first | exact trivial | refine ⟨.inl rfl, ?_⟩ | refine ⟨.inr rfl, ?_⟩)) ⟨rfl, trivial⟩ (hpLe_cons rfl (hpLe_cons rfl (hpLe_nil _)))
    | @two h d4 d5 d6 k h4 hl h5 h6' k0 k1 =>
      rw [Bool.and_eq_true] at h
      rw [h.1] at a1
      rw [h.2] at a2
      have a3 := sbot_c q hq
      have a4 := stop_c q hq
      have a6 := sirr_c p hp
      have hil := irrL_len p
      have h10 := good_10L h.1
      have hoi : ((irrL p).map I)[k.toNat]? = some (I (own p k.toNat)) := idx_I (by omega)
      have hlo : (F i).2.length ≤ 1000000000 := by rw [hFi.1]; omega
      have hlo2 := hFi.1
      generalize hf0 : (F i).2 = f0 at *
      repeat' (first
| refine g_seq ?_
| refine g_block ?_
| refine g_region ?_
| refine g_region_draw (by kernel_rfl) (by kernel_rfl) ?_
| (refine o_go rfl ?_; (first
| refine p_p (ps_call rfl rfl (by (repeat (first | refine ⟨PV.le_refl _, ?_⟩ | refine ⟨PV.le_nn _ _ _, ?_⟩ | refine ⟨PV.le_nil _, ?_⟩ | refine ⟨PV.le_any _, ?_⟩)); exact trivial) (a1)) ?_
| refine p_p (ps_call rfl rfl (by (repeat (first | refine ⟨PV.le_refl _, ?_⟩ | refine ⟨PV.le_nn _ _ _, ?_⟩ | refine ⟨PV.le_nil _, ?_⟩ | refine ⟨PV.le_any _, ?_⟩)); exact trivial) (a2)) ?_
| refine p_e rfl (e_callL (n := 0) rfl rfl rfl (by (repeat (first | refine ⟨leS_refl _, ?_⟩ | refine ⟨leS_nn _ _ _, ?_⟩ | refine ⟨leS_nil _, ?_⟩ | refine ⟨leS_any _, ?_⟩)); exact trivial) rfl (by rfl) (by first | exact ⟨rfl, rfl, rfl, by simp⟩ | exact ⟨rfl, rfl, by simp⟩ | trivial) (h4)) ?_
| refine p_p (ps_call rfl rfl (by (repeat (first | refine ⟨PV.le_refl _, ?_⟩ | refine ⟨PV.le_nn _ _ _, ?_⟩ | refine ⟨PV.le_nil _, ?_⟩ | refine ⟨PV.le_any _, ?_⟩)); exact trivial) (a3)) ?_
| refine p_p (ps_call rfl rfl (by (repeat (first | refine ⟨PV.le_refl _, ?_⟩ | refine ⟨PV.le_nn _ _ _, ?_⟩ | refine ⟨PV.le_nil _, ?_⟩ | refine ⟨PV.le_any _, ?_⟩)); exact trivial) (a4)) ?_
| refine p_p (ps_call rfl rfl (by (repeat (first | refine ⟨PV.le_refl _, ?_⟩ | refine ⟨PV.le_nn _ _ _, ?_⟩ | refine ⟨PV.le_nil _, ?_⟩ | refine ⟨PV.le_any _, ?_⟩)); exact trivial) (a6)) ?_
| refine p_e rfl (e_callL (n := 0) rfl rfl rfl (by (repeat (first | refine ⟨leS_refl _, ?_⟩ | refine ⟨leS_nn _ _ _, ?_⟩ | refine ⟨leS_nil _, ?_⟩ | refine ⟨leS_any _, ?_⟩)); exact trivial) rfl (by rfl) (by first | exact ⟨rfl, rfl, rfl, by simp⟩ | exact ⟨rfl, rfl, by simp⟩ | trivial) (h5)) ?_
| refine p_e rfl (e_callL (n := 0) rfl rfl rfl (by (repeat (first | refine ⟨leS_refl _, ?_⟩ | refine ⟨leS_nn _ _ _, ?_⟩ | refine ⟨leS_nil _, ?_⟩ | refine ⟨leS_any _, ?_⟩)); exact trivial) rfl (by rfl) (by first | exact ⟨rfl, rfl, rfl, by simp⟩ | exact ⟨rfl, rfl, by simp⟩ | trivial) (h6')) ?_
| refine p_p (ps_index rfl rfl rfl (by omega) (by exact hoi) (by exact rfl)) ?_
| refine p_p (ps_move rfl) ?_
| refine p_p (ps_assign rfl) ?_
| refine p_p (ps_load_cell rfl rfl) ?_
| refine p_p (ps_load_agg rfl rfl (by exact Nat.le_of_ble_eq_true rfl)) ?_
| refine p_p (ps_lenM rfl rfl rfl) ?_
| refine p_p (ps_not rfl rfl) ?_
| refine p_p (ps_pick rfl rfl) ?_
| refine p_p (ps_gtr rfl rfl rfl) ?_); refine ⟨_, (by dsimp only [bitvec_to_nat, Nat.reduceAdd, Nat.reduceMul, Nat.reduceBEq, reduceCtorEq]), ?_⟩)
| refine o_nil ?_
| (refine o_splitD rfl rfl rfl (fun hc => ?_) (fun hc => ?_) <;> first | (exfalso; omega) | dsimp only [List.set_cons_zero, List.set_cons_succ])
| refine g_condT rfl ?_)
      all_goals try (exfalso; omega)
      refine g_loopT (α := Nat) (fun x => [(13, I (x : Int))]) (fun x => [cuB c5, .arr true 1 3 ((cstW p (own p k.toNat) (botL q) (topL q) f0 x).map I)]) (fun x => x ≤ i) (fun x => i - x) 0 (by simp only [havoc, dsts, List.filterMap_cons, List.filterMap_nil, List.foldl_cons, List.foldl_nil, List.cons_append, List.nil_append, List.append_nil, List.set_cons_succ, List.set_cons_zero]; exact rfl) (Nat.zero_le _) ⟨rfl, trivial⟩ rfl ?_
      rintro x hx
      dsimp only [setMany, List.set_cons_zero, List.set_cons_succ]
      have hcl := cstW_len p (own p k.toNat) (botL q) (topL q) f0 x
      have hsuc : cstW p (own p k.toNat) (botL q) (topL q) f0 (x + 1) = (cstW p (own p k.toNat) (botL q) (topL q) f0 x).set x (if leqB p (own p k.toNat) (x : Int) = true then topL q else botL q) := rfl
      generalize hcx : cstW p (own p k.toNat) (botL q) (topL q) f0 x = cx at *
      have hcm : (cx.map I).length = i := by rw [List.length_map]; omega
      by_cases hx1 : x < i
      · have q1 := leq_c p (own p k.toNat) (x : Int) hp (by omega) (by omega)
        cases hb : leqB p (own p k.toNat) (x : Int) with
        | false =>
          rw [hb] at q1 hsuc
          repeat' (first
| refine g_seq ?_
| refine g_block ?_
| refine g_region ?_
| (refine o_go rfl ?_; (first
| refine p_p (ps_call rfl rfl (by (repeat (first | refine ⟨PV.le_refl _, ?_⟩ | refine ⟨PV.le_nn _ _ _, ?_⟩ | refine ⟨PV.le_nil _, ?_⟩ | refine ⟨PV.le_any _, ?_⟩)); exact trivial) (q1)) ?_
| refine p_e (by kernel_rfl) (e_store_arr rfl rfl rfl rfl (by omega) rfl rfl) ?_
| refine p_p (ps_move rfl) ?_
| refine p_p (ps_assign rfl) ?_
| refine p_p (ps_load_agg rfl rfl (by exact Nat.le_of_ble_eq_true rfl)) ?_
| refine p_p (ps_lss rfl rfl rfl) ?_
| refine p_p (ps_add rfl rfl rfl (by constructor <;> omega)) ?_
| refine p_p (ps_len_mut rfl rfl rfl rfl) ?_
| refine p_p (ps_index_mut rfl rfl rfl rfl (by omega) (by first | omega | (simp; done) | (simp; omega))) ?_); refine ⟨_, (by dsimp only [bitvec_to_nat, Nat.reduceAdd, Nat.reduceMul, Nat.reduceBEq, reduceCtorEq]), ?_⟩)
| refine o_nil ?_
| refine g_condF rfl ?_
| (refine g_condD rfl (fun hc => ?_) (fun hc => ?_) <;> try (exfalso; omega))
| refine g_skip ?_)
          all_goals try (exfalso; omega)
          refine k_round (x + 1) (by omega) (by omega) (by repeat (first | exact trivial | refine ⟨.inl rfl, ?_⟩ | refine ⟨.inr rfl, ?_⟩)) ⟨rfl, trivial⟩ (hpLe_cons rfl (hpLe_cons ?_ (hpLe_nil _)))
          rw [hsuc, Nat.mul_one, if_neg (by decide), List.map_set]
        | true =>
          rw [hb] at q1 hsuc
          repeat' (first
| refine g_seq ?_
| refine g_block ?_
| refine g_region ?_
| (refine o_go rfl ?_; (first
| refine p_p (ps_call rfl rfl (by (repeat (first | refine ⟨PV.le_refl _, ?_⟩ | refine ⟨PV.le_nn _ _ _, ?_⟩ | refine ⟨PV.le_nil _, ?_⟩ | refine ⟨PV.le_any _, ?_⟩)); exact trivial) (q1)) ?_
| refine p_e (by kernel_rfl) (e_store_arr rfl rfl rfl rfl (by omega) rfl rfl) ?_
| refine p_p (ps_move rfl) ?_
| refine p_p (ps_assign rfl) ?_
| refine p_p (ps_load_agg rfl rfl (by exact Nat.le_of_ble_eq_true rfl)) ?_
| refine p_p (ps_lss rfl rfl rfl) ?_
| refine p_p (ps_add rfl rfl rfl (by constructor <;> omega)) ?_
| refine p_p (ps_len_mut rfl rfl rfl rfl) ?_
| refine p_p (ps_index_mut rfl rfl rfl rfl (by omega) (by first | omega | (simp; done) | (simp; omega))) ?_
| refine p_e rfl (e_store_arr rfl rfl rfl rfl (by first | omega | (simp; done) | (simp; omega)) rfl rfl) ?_); refine ⟨_, (by dsimp only [bitvec_to_nat, Nat.reduceAdd, Nat.reduceMul, Nat.reduceBEq, reduceCtorEq]), ?_⟩)
| refine o_nil ?_
| refine g_condT rfl ?_
| (refine g_condD rfl (fun hc => ?_) (fun hc => ?_) <;> try (exfalso; omega))
| refine g_skip ?_)
          all_goals try (exfalso; omega)
          refine k_round (x + 1) (by omega) (by omega) (by repeat (first | exact trivial | refine ⟨.inl rfl, ?_⟩ | refine ⟨.inr rfl, ?_⟩)) ⟨rfl, trivial⟩ (hpLe_cons rfl (hpLe_cons ?_ (hpLe_nil _)))
          rw [hsuc, Nat.mul_one, if_pos rfl, List.map_set, List.set_set]
      · repeat' (first
| refine g_seq ?_
| refine g_region ?_
| (refine o_go rfl ?_; (first
| refine p_p (ps_move rfl) ?_
| refine p_p (ps_lss rfl rfl rfl) ?_
| refine p_p (ps_len_mut rfl rfl rfl rfl) ?_); refine ⟨_, (by dsimp only [bitvec_to_nat, Nat.reduceAdd, Nat.reduceMul, Nat.reduceBEq, reduceCtorEq]), ?_⟩)
| refine o_nil ?_
| (refine g_condD rfl (fun hc => ?_) (fun hc => ?_) <;> try (exfalso; omega))
| refine g_exit ?_)
        all_goals try (exfalso; omega)
        change St.le _ _
        refine k_joinL (vals := []) (by repeat (first | exact trivial | refine ⟨.inl rfl, ?_⟩ | refine ⟨.inr rfl, ?_⟩)) trivial (hpLe_cons rfl (hpLe_cons ?_ (hpLe_nil _)))
        rw [← hcx, show x = f0.length by omega]
    | low h h4 h5 h5' hd =>
      rw [Bool.and_eq_true] at h
      rw [h.1] at a1
      rw [h.2] at a2
      have a3 := sbot_c q hq
      have a4 := stop_c q hq
      have a6 := sirr_c p hp
      have hil := irrL_len p
      have h10 := good_10L h.1
      have b1 : PCalls Try.prog 26 [posetP p] (B (distB p)) := sgoodD_c p hp
      have b2 : PCalls Try.prog 26 [posetP q] (B (distB q)) := sgoodD_c q hq
      by_cases hl : 0 < (irrL p).length
      · have h5 := h5 hl
        cases hdp : distB p with
        | false =>
          rw [hdp] at b1
          repeat' (first
| refine g_seq ?_
| refine g_region ?_
| refine g_region_draw (by kernel_rfl) (by kernel_rfl) ?_
| (refine o_go rfl ?_; (first
| refine p_p (ps_call rfl rfl (by (repeat (first | refine ⟨PV.le_refl _, ?_⟩ | refine ⟨PV.le_nn _ _ _, ?_⟩ | refine ⟨PV.le_nil _, ?_⟩ | refine ⟨PV.le_any _, ?_⟩)); exact trivial) (a1)) ?_
| refine p_p (ps_call rfl rfl (by (repeat (first | refine ⟨PV.le_refl _, ?_⟩ | refine ⟨PV.le_nn _ _ _, ?_⟩ | refine ⟨PV.le_nil _, ?_⟩ | refine ⟨PV.le_any _, ?_⟩)); exact trivial) (a2)) ?_
| refine p_e rfl (e_callL (n := 0) rfl rfl rfl (by (repeat (first | refine ⟨leS_refl _, ?_⟩ | refine ⟨leS_nn _ _ _, ?_⟩ | refine ⟨leS_nil _, ?_⟩ | refine ⟨leS_any _, ?_⟩)); exact trivial) rfl (by rfl) (by first | exact ⟨rfl, rfl, rfl, by simp⟩ | exact ⟨rfl, rfl, by simp⟩ | trivial) (h4)) ?_
| refine p_p (ps_call rfl rfl (by (repeat (first | refine ⟨PV.le_refl _, ?_⟩ | refine ⟨PV.le_nn _ _ _, ?_⟩ | refine ⟨PV.le_nil _, ?_⟩ | refine ⟨PV.le_any _, ?_⟩)); exact trivial) (a3)) ?_
| refine p_p (ps_call rfl rfl (by (repeat (first | refine ⟨PV.le_refl _, ?_⟩ | refine ⟨PV.le_nn _ _ _, ?_⟩ | refine ⟨PV.le_nil _, ?_⟩ | refine ⟨PV.le_any _, ?_⟩)); exact trivial) (a4)) ?_
| refine p_p (ps_call rfl rfl (by (repeat (first | refine ⟨PV.le_refl _, ?_⟩ | refine ⟨PV.le_nn _ _ _, ?_⟩ | refine ⟨PV.le_nil _, ?_⟩ | refine ⟨PV.le_any _, ?_⟩)); exact trivial) (a6)) ?_
| refine p_e rfl (e_callL (n := 0) rfl rfl rfl (by (repeat (first | refine ⟨leS_refl _, ?_⟩ | refine ⟨leS_nn _ _ _, ?_⟩ | refine ⟨leS_nil _, ?_⟩ | refine ⟨leS_any _, ?_⟩)); exact trivial) rfl (by rfl) (by first | exact ⟨rfl, rfl, rfl, by simp⟩ | exact ⟨rfl, rfl, by simp⟩ | trivial) (h5)) ?_
| refine p_p (ps_call rfl rfl (by (repeat (first | refine ⟨PV.le_refl _, ?_⟩ | refine ⟨PV.le_nn _ _ _, ?_⟩ | refine ⟨PV.le_nil _, ?_⟩ | refine ⟨PV.le_any _, ?_⟩)); exact trivial) (b1)) ?_
| refine p_p (ps_move rfl) ?_
| refine p_p (ps_assign rfl) ?_
| refine p_p (ps_load_agg rfl rfl (by exact Nat.le_of_ble_eq_true rfl)) ?_
| refine p_p (ps_lenM rfl rfl rfl) ?_
| refine p_p (ps_not rfl rfl) ?_
| refine p_p (ps_pick rfl rfl) ?_
| refine p_p (ps_gtr rfl rfl rfl) ?_); refine ⟨_, (by dsimp only [bitvec_to_nat, Nat.reduceAdd, Nat.reduceMul, Nat.reduceBEq, reduceCtorEq]), ?_⟩)
| refine o_nil ?_
| (refine o_s rfl ?_; refine ⟨_, (by dsimp only [bitvec_to_nat, Nat.reduceAdd, Nat.reduceMul, Nat.reduceBEq, reduceCtorEq]), ?_⟩)
| (refine o_splitD rfl rfl rfl (fun hc => ?_) (fun hc => ?_) <;> first | (exfalso; omega) | dsimp only [List.set_cons_zero, List.set_cons_succ])
| refine g_condT rfl ?_
| refine g_condF rfl ?_
| refine g_skip ?_)
          all_goals try (exfalso; omega)
          exact k_join (by repeat (first | exact trivial | refine ⟨.inl rfl, ?_⟩ | refine ⟨.inr rfl, ?_⟩)) ⟨rfl, trivial⟩ (hpLe_cons rfl (hpLe_cons rfl (hpLe_nil _)))
        | true =>
          rw [hdp, Bool.true_and] at hd
          rw [hdp] at b1
          rw [hd] at b2
          repeat' (first
| refine g_seq ?_
| refine g_region ?_
| refine g_region_draw (by kernel_rfl) (by kernel_rfl) ?_
| (refine o_go rfl ?_; (first
| refine p_p (ps_call rfl rfl (by (repeat (first | refine ⟨PV.le_refl _, ?_⟩ | refine ⟨PV.le_nn _ _ _, ?_⟩ | refine ⟨PV.le_nil _, ?_⟩ | refine ⟨PV.le_any _, ?_⟩)); exact trivial) (a1)) ?_
| refine p_p (ps_call rfl rfl (by (repeat (first | refine ⟨PV.le_refl _, ?_⟩ | refine ⟨PV.le_nn _ _ _, ?_⟩ | refine ⟨PV.le_nil _, ?_⟩ | refine ⟨PV.le_any _, ?_⟩)); exact trivial) (a2)) ?_
| refine p_e rfl (e_callL (n := 0) rfl rfl rfl (by (repeat (first | refine ⟨leS_refl _, ?_⟩ | refine ⟨leS_nn _ _ _, ?_⟩ | refine ⟨leS_nil _, ?_⟩ | refine ⟨leS_any _, ?_⟩)); exact trivial) rfl (by rfl) (by first | exact ⟨rfl, rfl, rfl, by simp⟩ | exact ⟨rfl, rfl, by simp⟩ | trivial) (h4)) ?_
| refine p_p (ps_call rfl rfl (by (repeat (first | refine ⟨PV.le_refl _, ?_⟩ | refine ⟨PV.le_nn _ _ _, ?_⟩ | refine ⟨PV.le_nil _, ?_⟩ | refine ⟨PV.le_any _, ?_⟩)); exact trivial) (a3)) ?_
| refine p_p (ps_call rfl rfl (by (repeat (first | refine ⟨PV.le_refl _, ?_⟩ | refine ⟨PV.le_nn _ _ _, ?_⟩ | refine ⟨PV.le_nil _, ?_⟩ | refine ⟨PV.le_any _, ?_⟩)); exact trivial) (a4)) ?_
| refine p_p (ps_call rfl rfl (by (repeat (first | refine ⟨PV.le_refl _, ?_⟩ | refine ⟨PV.le_nn _ _ _, ?_⟩ | refine ⟨PV.le_nil _, ?_⟩ | refine ⟨PV.le_any _, ?_⟩)); exact trivial) (a6)) ?_
| refine p_e rfl (e_callL (n := 0) rfl rfl rfl (by (repeat (first | refine ⟨leS_refl _, ?_⟩ | refine ⟨leS_nn _ _ _, ?_⟩ | refine ⟨leS_nil _, ?_⟩ | refine ⟨leS_any _, ?_⟩)); exact trivial) rfl (by rfl) (by first | exact ⟨rfl, rfl, rfl, by simp⟩ | exact ⟨rfl, rfl, by simp⟩ | trivial) (h5)) ?_
| refine p_p (ps_call rfl rfl (by (repeat (first | refine ⟨PV.le_refl _, ?_⟩ | refine ⟨PV.le_nn _ _ _, ?_⟩ | refine ⟨PV.le_nil _, ?_⟩ | refine ⟨PV.le_any _, ?_⟩)); exact trivial) (b1)) ?_
| refine p_p (ps_call rfl rfl (by (repeat (first | refine ⟨PV.le_refl _, ?_⟩ | refine ⟨PV.le_nn _ _ _, ?_⟩ | refine ⟨PV.le_nil _, ?_⟩ | refine ⟨PV.le_any _, ?_⟩)); exact trivial) (b2)) ?_
| refine p_p (ps_move rfl) ?_
| refine p_p (ps_assign rfl) ?_
| refine p_p (ps_load_agg rfl rfl (by exact Nat.le_of_ble_eq_true rfl)) ?_
| refine p_p (ps_lenM rfl rfl rfl) ?_
| refine p_p (ps_not rfl rfl) ?_
| refine p_p (ps_pick rfl rfl) ?_
| refine p_p (ps_gtr rfl rfl rfl) ?_); refine ⟨_, (by dsimp only [bitvec_to_nat, Nat.reduceAdd, Nat.reduceMul, Nat.reduceBEq, reduceCtorEq]), ?_⟩)
| refine o_nil ?_
| (refine o_splitD rfl rfl rfl (fun hc => ?_) (fun hc => ?_) <;> first | (exfalso; omega) | dsimp only [List.set_cons_zero, List.set_cons_succ])
| refine g_condT rfl ?_
| refine g_condF rfl ?_
| refine g_skip ?_)
          all_goals try (exfalso; omega)
          exact k_join (by repeat (first | exact trivial | refine ⟨.inl rfl, ?_⟩ | refine ⟨.inr rfl, ?_⟩)) ⟨rfl, trivial⟩ (hpLe_cons rfl (hpLe_cons rfl (hpLe_nil _)))
      · have h5' := h5' hl
        subst h5'
        cases hdp : distB p with
        | false =>
          rw [hdp] at b1
          repeat' (first
| refine g_seq ?_
| refine g_region ?_
| refine g_region_draw (by kernel_rfl) (by kernel_rfl) ?_
| (refine o_go rfl ?_; (first
| refine p_p (ps_call rfl rfl (by (repeat (first | refine ⟨PV.le_refl _, ?_⟩ | refine ⟨PV.le_nn _ _ _, ?_⟩ | refine ⟨PV.le_nil _, ?_⟩ | refine ⟨PV.le_any _, ?_⟩)); exact trivial) (a1)) ?_
| refine p_p (ps_call rfl rfl (by (repeat (first | refine ⟨PV.le_refl _, ?_⟩ | refine ⟨PV.le_nn _ _ _, ?_⟩ | refine ⟨PV.le_nil _, ?_⟩ | refine ⟨PV.le_any _, ?_⟩)); exact trivial) (a2)) ?_
| refine p_e rfl (e_callL (n := 0) rfl rfl rfl (by (repeat (first | refine ⟨leS_refl _, ?_⟩ | refine ⟨leS_nn _ _ _, ?_⟩ | refine ⟨leS_nil _, ?_⟩ | refine ⟨leS_any _, ?_⟩)); exact trivial) rfl (by rfl) (by first | exact ⟨rfl, rfl, rfl, by simp⟩ | exact ⟨rfl, rfl, by simp⟩ | trivial) (h4)) ?_
| refine p_p (ps_call rfl rfl (by (repeat (first | refine ⟨PV.le_refl _, ?_⟩ | refine ⟨PV.le_nn _ _ _, ?_⟩ | refine ⟨PV.le_nil _, ?_⟩ | refine ⟨PV.le_any _, ?_⟩)); exact trivial) (a3)) ?_
| refine p_p (ps_call rfl rfl (by (repeat (first | refine ⟨PV.le_refl _, ?_⟩ | refine ⟨PV.le_nn _ _ _, ?_⟩ | refine ⟨PV.le_nil _, ?_⟩ | refine ⟨PV.le_any _, ?_⟩)); exact trivial) (a4)) ?_
| refine p_p (ps_call rfl rfl (by (repeat (first | refine ⟨PV.le_refl _, ?_⟩ | refine ⟨PV.le_nn _ _ _, ?_⟩ | refine ⟨PV.le_nil _, ?_⟩ | refine ⟨PV.le_any _, ?_⟩)); exact trivial) (a6)) ?_
| refine p_p (ps_call rfl rfl (by (repeat (first | refine ⟨PV.le_refl _, ?_⟩ | refine ⟨PV.le_nn _ _ _, ?_⟩ | refine ⟨PV.le_nil _, ?_⟩ | refine ⟨PV.le_any _, ?_⟩)); exact trivial) (b1)) ?_
| refine p_p (ps_move rfl) ?_
| refine p_p (ps_assign rfl) ?_
| refine p_p (ps_load_agg rfl rfl (by exact Nat.le_of_ble_eq_true rfl)) ?_
| refine p_p (ps_lenM rfl rfl rfl) ?_
| refine p_p (ps_not rfl rfl) ?_
| refine p_p (ps_pick rfl rfl) ?_
| refine p_p (ps_gtr rfl rfl rfl) ?_); refine ⟨_, (by dsimp only [bitvec_to_nat, Nat.reduceAdd, Nat.reduceMul, Nat.reduceBEq, reduceCtorEq]), ?_⟩)
| refine o_nil ?_
| (refine o_s rfl ?_; refine ⟨_, (by dsimp only [bitvec_to_nat, Nat.reduceAdd, Nat.reduceMul, Nat.reduceBEq, reduceCtorEq]), ?_⟩)
| (refine o_splitD rfl rfl rfl (fun hc => ?_) (fun hc => ?_) <;> first | (exfalso; omega) | dsimp only [List.set_cons_zero, List.set_cons_succ])
| refine g_condT rfl ?_
| refine g_condF rfl ?_
| refine g_skip ?_)
          all_goals try (exfalso; omega)
          exact k_join (by repeat (first | exact trivial | refine ⟨.inl rfl, ?_⟩ | refine ⟨.inr rfl, ?_⟩)) ⟨rfl, trivial⟩ (hpLe_cons rfl (hpLe_cons rfl (hpLe_nil _)))
        | true =>
          rw [hdp, Bool.true_and] at hd
          rw [hdp] at b1
          rw [hd] at b2
          repeat' (first
| refine g_seq ?_
| refine g_region ?_
| refine g_region_draw (by kernel_rfl) (by kernel_rfl) ?_
| (refine o_go rfl ?_; (first
| refine p_p (ps_call rfl rfl (by (repeat (first | refine ⟨PV.le_refl _, ?_⟩ | refine ⟨PV.le_nn _ _ _, ?_⟩ | refine ⟨PV.le_nil _, ?_⟩ | refine ⟨PV.le_any _, ?_⟩)); exact trivial) (a1)) ?_
| refine p_p (ps_call rfl rfl (by (repeat (first | refine ⟨PV.le_refl _, ?_⟩ | refine ⟨PV.le_nn _ _ _, ?_⟩ | refine ⟨PV.le_nil _, ?_⟩ | refine ⟨PV.le_any _, ?_⟩)); exact trivial) (a2)) ?_
| refine p_e rfl (e_callL (n := 0) rfl rfl rfl (by (repeat (first | refine ⟨leS_refl _, ?_⟩ | refine ⟨leS_nn _ _ _, ?_⟩ | refine ⟨leS_nil _, ?_⟩ | refine ⟨leS_any _, ?_⟩)); exact trivial) rfl (by rfl) (by first | exact ⟨rfl, rfl, rfl, by simp⟩ | exact ⟨rfl, rfl, by simp⟩ | trivial) (h4)) ?_
| refine p_p (ps_call rfl rfl (by (repeat (first | refine ⟨PV.le_refl _, ?_⟩ | refine ⟨PV.le_nn _ _ _, ?_⟩ | refine ⟨PV.le_nil _, ?_⟩ | refine ⟨PV.le_any _, ?_⟩)); exact trivial) (a3)) ?_
| refine p_p (ps_call rfl rfl (by (repeat (first | refine ⟨PV.le_refl _, ?_⟩ | refine ⟨PV.le_nn _ _ _, ?_⟩ | refine ⟨PV.le_nil _, ?_⟩ | refine ⟨PV.le_any _, ?_⟩)); exact trivial) (a4)) ?_
| refine p_p (ps_call rfl rfl (by (repeat (first | refine ⟨PV.le_refl _, ?_⟩ | refine ⟨PV.le_nn _ _ _, ?_⟩ | refine ⟨PV.le_nil _, ?_⟩ | refine ⟨PV.le_any _, ?_⟩)); exact trivial) (a6)) ?_
| refine p_p (ps_call rfl rfl (by (repeat (first | refine ⟨PV.le_refl _, ?_⟩ | refine ⟨PV.le_nn _ _ _, ?_⟩ | refine ⟨PV.le_nil _, ?_⟩ | refine ⟨PV.le_any _, ?_⟩)); exact trivial) (b1)) ?_
| refine p_p (ps_call rfl rfl (by (repeat (first | refine ⟨PV.le_refl _, ?_⟩ | refine ⟨PV.le_nn _ _ _, ?_⟩ | refine ⟨PV.le_nil _, ?_⟩ | refine ⟨PV.le_any _, ?_⟩)); exact trivial) (b2)) ?_
| refine p_p (ps_move rfl) ?_
| refine p_p (ps_assign rfl) ?_
| refine p_p (ps_load_agg rfl rfl (by exact Nat.le_of_ble_eq_true rfl)) ?_
| refine p_p (ps_lenM rfl rfl rfl) ?_
| refine p_p (ps_not rfl rfl) ?_
| refine p_p (ps_pick rfl rfl) ?_
| refine p_p (ps_gtr rfl rfl rfl) ?_); refine ⟨_, (by dsimp only [bitvec_to_nat, Nat.reduceAdd, Nat.reduceMul, Nat.reduceBEq, reduceCtorEq]), ?_⟩)
| refine o_nil ?_
| (refine o_s rfl ?_; refine ⟨_, (by dsimp only [bitvec_to_nat, Nat.reduceAdd, Nat.reduceMul, Nat.reduceBEq, reduceCtorEq]), ?_⟩)
| (refine o_splitD rfl rfl rfl (fun hc => ?_) (fun hc => ?_) <;> first | (exfalso; omega) | dsimp only [List.set_cons_zero, List.set_cons_succ])
| refine g_condT rfl ?_
| refine g_condF rfl ?_
| refine g_skip ?_)
          all_goals try (exfalso; omega)
          exact k_join (by repeat (first | exact trivial | refine ⟨.inl rfl, ?_⟩ | refine ⟨.inr rfl, ?_⟩)) ⟨rfl, trivial⟩ (hpLe_cons rfl (hpLe_cons rfl (hpLe_nil _)))
    | @rest h d4 d5 d6 g h4 h5 h5' hd h6' hg =>
      rw [Bool.and_eq_true] at h
      rw [h.1] at a1
      rw [h.2] at a2
      have a3 := sbot_c q hq
      have a4 := stop_c q hq
      have a6 := sirr_c p hp
      have hil := irrL_len p
      have h10 := good_10L h.1
      have b1 : PCalls Try.prog 26 [posetP p] (B (distB p)) := sgoodD_c p hp
      have b2 : PCalls Try.prog 26 [posetP q] (B (distB q)) := sgoodD_c q hq
      rw [Bool.and_eq_true] at hd
      rw [hd.1] at b1
      rw [hd.2] at b2
      cases hb : lmoB p q g with
      | true =>
        have b3 := slmo_R p q g hp hq (by omega) hb
        by_cases hl : 0 < (irrL p).length
        · have h5 := h5 hl
          repeat' (first
| refine g_seq ?_
| refine g_region ?_
| (refine o_go rfl ?_; (first
| refine p_p (ps_call rfl rfl (by (repeat (first | refine ⟨PV.le_refl _, ?_⟩ | refine ⟨PV.le_nn _ _ _, ?_⟩ | refine ⟨PV.le_nil _, ?_⟩ | refine ⟨PV.le_any _, ?_⟩)); exact trivial) (a1)) ?_
| refine p_p (ps_call rfl rfl (by (repeat (first | refine ⟨PV.le_refl _, ?_⟩ | refine ⟨PV.le_nn _ _ _, ?_⟩ | refine ⟨PV.le_nil _, ?_⟩ | refine ⟨PV.le_any _, ?_⟩)); exact trivial) (a2)) ?_
| refine p_e rfl (e_callL (n := 0) rfl rfl rfl (by (repeat (first | refine ⟨leS_refl _, ?_⟩ | refine ⟨leS_nn _ _ _, ?_⟩ | refine ⟨leS_nil _, ?_⟩ | refine ⟨leS_any _, ?_⟩)); exact trivial) rfl (by rfl) (by first | exact ⟨rfl, rfl, rfl, by simp⟩ | exact ⟨rfl, rfl, by simp⟩ | trivial) (h4)) ?_
| refine p_p (ps_move rfl) ?_
| refine p_p (ps_load_agg rfl rfl (by exact Nat.le_of_ble_eq_true rfl)) ?_
| refine p_p (ps_not rfl rfl) ?_
| refine p_p (ps_pick rfl rfl) ?_); refine ⟨_, (by dsimp only [bitvec_to_nat, Nat.reduceAdd, Nat.reduceMul, Nat.reduceBEq, reduceCtorEq]), ?_⟩)
| refine o_nil ?_
| refine g_condT rfl ?_)
          refine g_region_draw (by kernel_rfl) (by kernel_rfl) ?_
          repeat' (first
| refine g_seq ?_
| refine g_region ?_
| (refine o_go rfl ?_; (first
| refine p_p (ps_call rfl rfl (by (repeat (first | refine ⟨PV.le_refl _, ?_⟩ | refine ⟨PV.le_nn _ _ _, ?_⟩ | refine ⟨PV.le_nil _, ?_⟩ | refine ⟨PV.le_any _, ?_⟩)); exact trivial) (a3)) ?_
| refine p_p (ps_call rfl rfl (by (repeat (first | refine ⟨PV.le_refl _, ?_⟩ | refine ⟨PV.le_nn _ _ _, ?_⟩ | refine ⟨PV.le_nil _, ?_⟩ | refine ⟨PV.le_any _, ?_⟩)); exact trivial) (a4)) ?_
| refine p_p (ps_call rfl rfl (by (repeat (first | refine ⟨PV.le_refl _, ?_⟩ | refine ⟨PV.le_nn _ _ _, ?_⟩ | refine ⟨PV.le_nil _, ?_⟩ | refine ⟨PV.le_any _, ?_⟩)); exact trivial) (a6)) ?_
| refine p_e rfl (e_callL (n := 0) rfl rfl rfl (by (repeat (first | refine ⟨leS_refl _, ?_⟩ | refine ⟨leS_nn _ _ _, ?_⟩ | refine ⟨leS_nil _, ?_⟩ | refine ⟨leS_any _, ?_⟩)); exact trivial) rfl (by rfl) (by first | exact ⟨rfl, rfl, rfl, by simp⟩ | exact ⟨rfl, rfl, by simp⟩ | trivial) (h5)) ?_
| refine p_p (ps_call rfl rfl (by (repeat (first | refine ⟨PV.le_refl _, ?_⟩ | refine ⟨PV.le_nn _ _ _, ?_⟩ | refine ⟨PV.le_nil _, ?_⟩ | refine ⟨PV.le_any _, ?_⟩)); exact trivial) (b1)) ?_
| refine p_p (ps_call rfl rfl (by (repeat (first | refine ⟨PV.le_refl _, ?_⟩ | refine ⟨PV.le_nn _ _ _, ?_⟩ | refine ⟨PV.le_nil _, ?_⟩ | refine ⟨PV.le_any _, ?_⟩)); exact trivial) (b2)) ?_
| refine p_p (ps_move rfl) ?_
| refine p_p (ps_assign rfl) ?_
| refine p_p (ps_load_agg rfl rfl (by exact Nat.le_of_ble_eq_true rfl)) ?_
| refine p_p (ps_lenM rfl rfl rfl) ?_
| refine p_p (ps_pick rfl rfl) ?_
| refine p_p (ps_gtr rfl rfl rfl) ?_); refine ⟨_, (by dsimp only [bitvec_to_nat, Nat.reduceAdd, Nat.reduceMul, Nat.reduceBEq, reduceCtorEq]), ?_⟩)
| refine o_nil ?_
| (refine o_splitD rfl rfl rfl (fun hc => ?_) (fun hc => ?_) <;> first | (exfalso; omega) | dsimp only [List.set_cons_zero, List.set_cons_succ])
| refine g_condT rfl ?_
| refine g_condF rfl ?_)
          all_goals try (exfalso; omega)
          refine g_region_drawZ [(0, some [2]), (1, some [2]), (2, some [2]), (3, some [2]), (4, some [2]), (5, none), (6, none), (7, none), (8, some []), (9, some []), (10, none), (11, none)] [(6, 2)] (fun _ => True) (by kernel_rfl) rfl (by kernel_rfl) ?_
          repeat' (first
| refine z_nil ?_
| ((first
| refine z_pure rfl rfl (fun _ _ => ps_move rfl) (by repeat (first | exact trivial | refine ⟨rfl, ?_⟩)) (by first | exact fun _ _ => trivial | exact (by intro y hy; simp [Op.operands] at hy; first | (subst hy; repeat (first | exact trivial | refine ⟨rfl, ?_⟩)) | (rcases hy with rfl | rfl <;> repeat (first | exact trivial | refine ⟨rfl, ?_⟩)))) (by decide) (by first | exact trivial | exact rfl | exact ⟨rfl, rfl⟩ | exact ⟨rfl, rfl, rfl⟩ | exact ⟨rfl, .inl ⟨_, rfl, by simp only [List.length_map]; omega⟩⟩ | exact ⟨rfl, .inr ⟨_, rfl, by simp only [List.length_map]; omega⟩⟩) ?_
| refine z_pure rfl rfl (fun _ _ => ps_load_agg rfl rfl (by exact Nat.le_of_ble_eq_true rfl)) (by repeat (first | exact trivial | refine ⟨rfl, ?_⟩)) (by first | exact fun _ _ => trivial | exact (by intro y hy; simp [Op.operands] at hy; first | (subst hy; repeat (first | exact trivial | refine ⟨rfl, ?_⟩)) | (rcases hy with rfl | rfl <;> repeat (first | exact trivial | refine ⟨rfl, ?_⟩)))) (by decide) (by first | exact trivial | exact rfl | exact ⟨rfl, rfl⟩ | exact ⟨rfl, rfl, rfl⟩ | exact ⟨rfl, .inl ⟨_, rfl, by simp only [List.length_map]; omega⟩⟩ | exact ⟨rfl, .inr ⟨_, rfl, by simp only [List.length_map]; omega⟩⟩) ?_
| refine z_pure rfl rfl (fun _ _ => ps_extract rfl rfl rfl) (by repeat (first | exact trivial | refine ⟨rfl, ?_⟩)) (by first | exact fun _ _ => trivial | exact (by intro y hy; simp [Op.operands] at hy; first | (subst hy; repeat (first | exact trivial | refine ⟨rfl, ?_⟩)) | (rcases hy with rfl | rfl <;> repeat (first | exact trivial | refine ⟨rfl, ?_⟩)))) (by decide) (by first | exact trivial | exact rfl | exact ⟨rfl, rfl⟩ | exact ⟨rfl, rfl, rfl⟩ | exact ⟨rfl, .inl ⟨_, rfl, by simp only [List.length_map]; omega⟩⟩ | exact ⟨rfl, .inr ⟨_, rfl, by simp only [List.length_map]; omega⟩⟩) ?_
| refine z_eff rfl rfl (by first | exact trivial | exact .inl ⟨rfl, rfl⟩ | exact .inr (.inl ⟨rfl, rfl⟩) | exact .inr (.inr (.inl ⟨rfl, rfl⟩)) | exact .inr (.inr (.inr (.inl ⟨rfl, rfl⟩)))) (j_callLB (n := 0) rfl rfl rfl (by (repeat (first | refine ⟨leS_refl _, ?_⟩ | refine ⟨leS_nn _ _ _, ?_⟩ | refine ⟨leS_nil _, ?_⟩ | refine ⟨leS_any _, ?_⟩)); exact trivial) (by rfl) (by rfl) (h6')) (by first | exact .inr (by decide) | exact .inl (by first | exact trivial | exact rfl | exact ⟨rfl, rfl⟩ | exact ⟨rfl, rfl, rfl⟩ | exact ⟨rfl, .inl ⟨_, rfl, by simp only [List.length_map]; omega⟩⟩ | exact ⟨rfl, .inr ⟨_, rfl, by simp only [List.length_map]; omega⟩⟩)) ?_
| refine z_eff rfl rfl (by first | exact trivial | exact .inl ⟨rfl, rfl⟩ | exact .inr (.inl ⟨rfl, rfl⟩) | exact .inr (.inr (.inl ⟨rfl, rfl⟩)) | exact .inr (.inr (.inr (.inl ⟨rfl, rfl⟩)))) (j_callR rfl rfl (by (repeat (first | refine ⟨PV.le_refl _, ?_⟩ | refine ⟨PV.le_nn _ _ _, ?_⟩ | refine ⟨PV.le_nil _, ?_⟩ | refine ⟨PV.le_any _, ?_⟩)); exact trivial) rfl (b3)) (by first | exact .inr (by decide) | exact .inl (by first | exact trivial | exact rfl | exact ⟨rfl, rfl⟩ | exact ⟨rfl, rfl, rfl⟩ | exact ⟨rfl, .inl ⟨_, rfl, by simp only [List.length_map]; omega⟩⟩ | exact ⟨rfl, .inr ⟨_, rfl, by simp only [List.length_map]; omega⟩⟩)) ?_
| refine z_eff rfl rfl (by first | exact trivial | exact .inl ⟨rfl, rfl⟩ | exact .inr (.inl ⟨rfl, rfl⟩) | exact .inr (.inr (.inl ⟨rfl, rfl⟩)) | exact .inr (.inr (.inr (.inl ⟨rfl, rfl⟩)))) (j_pure (ps_move rfl)) (by first | exact .inr (by decide) | exact .inl (by first | exact trivial | exact rfl | exact ⟨rfl, rfl⟩ | exact ⟨rfl, rfl, rfl⟩ | exact ⟨rfl, .inl ⟨_, rfl, by simp only [List.length_map]; omega⟩⟩ | exact ⟨rfl, .inr ⟨_, rfl, by simp only [List.length_map]; omega⟩⟩)) ?_
| refine z_eff rfl rfl (by first | exact trivial | exact .inl ⟨rfl, rfl⟩ | exact .inr (.inl ⟨rfl, rfl⟩) | exact .inr (.inr (.inl ⟨rfl, rfl⟩)) | exact .inr (.inr (.inr (.inl ⟨rfl, rfl⟩)))) (j_pure (ps_assign rfl)) (by first | exact .inr (by decide) | exact .inl (by first | exact trivial | exact rfl | exact ⟨rfl, rfl⟩ | exact ⟨rfl, rfl, rfl⟩ | exact ⟨rfl, .inl ⟨_, rfl, by simp only [List.length_map]; omega⟩⟩ | exact ⟨rfl, .inr ⟨_, rfl, by simp only [List.length_map]; omega⟩⟩)) ?_); refine ⟨_, (by dsimp only [appJ, killO, bitvec_to_nat, Nat.reduceAdd, Nat.reduceMul, Nat.reduceBEq, reduceCtorEq]), ?_⟩))
          refine g_move 2 1 (by decide) rfl ⟨_, (by dsimp only [mvP, mvA, mv1, mvH, bitvec_to_nat, Nat.reduceAdd, Nat.reduceMul, Nat.reduceBEq, reduceCtorEq]), ?_⟩
          repeat' (first
| refine g_seq ?_
| refine g_region ?_
| (refine o_go rfl ?_; (first
| refine p_p (ps_move rfl) ?_
| refine p_p (ps_assign rfl) ?_); refine ⟨_, (by dsimp only [bitvec_to_nat, Nat.reduceAdd, Nat.reduceMul, Nat.reduceBEq, reduceCtorEq]), ?_⟩)
| refine o_nil ?_
| refine g_condT rfl ?_)
          exact k_join (by repeat (first | exact trivial | refine ⟨.inl rfl, ?_⟩ | refine ⟨.inr rfl, ?_⟩)) ⟨rfl, trivial⟩ (hpLe_cons rfl (hpLe_cons rfl (hpLe_nil _)))
        · have h5' := h5' hl
          subst h5'
          repeat' (first
| refine g_seq ?_
| refine g_region ?_
| (refine o_go rfl ?_; (first
| refine p_p (ps_call rfl rfl (by (repeat (first | refine ⟨PV.le_refl _, ?_⟩ | refine ⟨PV.le_nn _ _ _, ?_⟩ | refine ⟨PV.le_nil _, ?_⟩ | refine ⟨PV.le_any _, ?_⟩)); exact trivial) (a1)) ?_
| refine p_p (ps_call rfl rfl (by (repeat (first | refine ⟨PV.le_refl _, ?_⟩ | refine ⟨PV.le_nn _ _ _, ?_⟩ | refine ⟨PV.le_nil _, ?_⟩ | refine ⟨PV.le_any _, ?_⟩)); exact trivial) (a2)) ?_
| refine p_e rfl (e_callL (n := 0) rfl rfl rfl (by (repeat (first | refine ⟨leS_refl _, ?_⟩ | refine ⟨leS_nn _ _ _, ?_⟩ | refine ⟨leS_nil _, ?_⟩ | refine ⟨leS_any _, ?_⟩)); exact trivial) rfl (by rfl) (by first | exact ⟨rfl, rfl, rfl, by simp⟩ | exact ⟨rfl, rfl, by simp⟩ | trivial) (h4)) ?_
| refine p_p (ps_move rfl) ?_
| refine p_p (ps_load_agg rfl rfl (by exact Nat.le_of_ble_eq_true rfl)) ?_
| refine p_p (ps_not rfl rfl) ?_
| refine p_p (ps_pick rfl rfl) ?_); refine ⟨_, (by dsimp only [bitvec_to_nat, Nat.reduceAdd, Nat.reduceMul, Nat.reduceBEq, reduceCtorEq]), ?_⟩)
| refine o_nil ?_
| refine g_condT rfl ?_)
          refine g_region_draw (by kernel_rfl) (by kernel_rfl) ?_
          repeat' (first
| refine g_seq ?_
| refine g_region ?_
| (refine o_go rfl ?_; (first
| refine p_p (ps_call rfl rfl (by (repeat (first | refine ⟨PV.le_refl _, ?_⟩ | refine ⟨PV.le_nn _ _ _, ?_⟩ | refine ⟨PV.le_nil _, ?_⟩ | refine ⟨PV.le_any _, ?_⟩)); exact trivial) (a3)) ?_
| refine p_p (ps_call rfl rfl (by (repeat (first | refine ⟨PV.le_refl _, ?_⟩ | refine ⟨PV.le_nn _ _ _, ?_⟩ | refine ⟨PV.le_nil _, ?_⟩ | refine ⟨PV.le_any _, ?_⟩)); exact trivial) (a4)) ?_
| refine p_p (ps_call rfl rfl (by (repeat (first | refine ⟨PV.le_refl _, ?_⟩ | refine ⟨PV.le_nn _ _ _, ?_⟩ | refine ⟨PV.le_nil _, ?_⟩ | refine ⟨PV.le_any _, ?_⟩)); exact trivial) (a6)) ?_
| refine p_p (ps_call rfl rfl (by (repeat (first | refine ⟨PV.le_refl _, ?_⟩ | refine ⟨PV.le_nn _ _ _, ?_⟩ | refine ⟨PV.le_nil _, ?_⟩ | refine ⟨PV.le_any _, ?_⟩)); exact trivial) (b1)) ?_
| refine p_p (ps_call rfl rfl (by (repeat (first | refine ⟨PV.le_refl _, ?_⟩ | refine ⟨PV.le_nn _ _ _, ?_⟩ | refine ⟨PV.le_nil _, ?_⟩ | refine ⟨PV.le_any _, ?_⟩)); exact trivial) (b2)) ?_
| refine p_p (ps_move rfl) ?_
| refine p_p (ps_assign rfl) ?_
| refine p_p (ps_load_agg rfl rfl (by exact Nat.le_of_ble_eq_true rfl)) ?_
| refine p_p (ps_lenM rfl rfl rfl) ?_
| refine p_p (ps_pick rfl rfl) ?_
| refine p_p (ps_gtr rfl rfl rfl) ?_); refine ⟨_, (by dsimp only [bitvec_to_nat, Nat.reduceAdd, Nat.reduceMul, Nat.reduceBEq, reduceCtorEq]), ?_⟩)
| refine o_nil ?_
| (refine o_s rfl ?_; refine ⟨_, (by dsimp only [bitvec_to_nat, Nat.reduceAdd, Nat.reduceMul, Nat.reduceBEq, reduceCtorEq]), ?_⟩)
| (refine o_splitD rfl rfl rfl (fun hc => ?_) (fun hc => ?_) <;> first | (exfalso; omega) | dsimp only [List.set_cons_zero, List.set_cons_succ])
| refine g_condT rfl ?_
| refine g_condF rfl ?_)
          all_goals try (exfalso; omega)
          refine g_region_drawZ [(0, some [2]), (1, some [2]), (2, some [2]), (3, some [2]), (4, some [2]), (5, none), (6, none), (7, none), (8, some []), (9, some []), (10, none), (11, none)] [(6, 2)] (fun _ => True) (by kernel_rfl) rfl (by kernel_rfl) ?_
          repeat' (first
| refine z_nil ?_
| ((first
| refine z_pure rfl rfl (fun _ _ => ps_move rfl) (by repeat (first | exact trivial | refine ⟨rfl, ?_⟩)) (by first | exact fun _ _ => trivial | exact (by intro y hy; simp [Op.operands] at hy; first | (subst hy; repeat (first | exact trivial | refine ⟨rfl, ?_⟩)) | (rcases hy with rfl | rfl <;> repeat (first | exact trivial | refine ⟨rfl, ?_⟩)))) (by decide) (by first | exact trivial | exact rfl | exact ⟨rfl, rfl⟩ | exact ⟨rfl, rfl, rfl⟩ | exact ⟨rfl, .inl ⟨_, rfl, by simp only [List.length_map]; omega⟩⟩ | exact ⟨rfl, .inr ⟨_, rfl, by simp only [List.length_map]; omega⟩⟩) ?_
| refine z_pure rfl rfl (fun _ _ => ps_load_agg rfl rfl (by exact Nat.le_of_ble_eq_true rfl)) (by repeat (first | exact trivial | refine ⟨rfl, ?_⟩)) (by first | exact fun _ _ => trivial | exact (by intro y hy; simp [Op.operands] at hy; first | (subst hy; repeat (first | exact trivial | refine ⟨rfl, ?_⟩)) | (rcases hy with rfl | rfl <;> repeat (first | exact trivial | refine ⟨rfl, ?_⟩)))) (by decide) (by first | exact trivial | exact rfl | exact ⟨rfl, rfl⟩ | exact ⟨rfl, rfl, rfl⟩ | exact ⟨rfl, .inl ⟨_, rfl, by simp only [List.length_map]; omega⟩⟩ | exact ⟨rfl, .inr ⟨_, rfl, by simp only [List.length_map]; omega⟩⟩) ?_
| refine z_pure rfl rfl (fun _ _ => ps_extract rfl rfl rfl) (by repeat (first | exact trivial | refine ⟨rfl, ?_⟩)) (by first | exact fun _ _ => trivial | exact (by intro y hy; simp [Op.operands] at hy; first | (subst hy; repeat (first | exact trivial | refine ⟨rfl, ?_⟩)) | (rcases hy with rfl | rfl <;> repeat (first | exact trivial | refine ⟨rfl, ?_⟩)))) (by decide) (by first | exact trivial | exact rfl | exact ⟨rfl, rfl⟩ | exact ⟨rfl, rfl, rfl⟩ | exact ⟨rfl, .inl ⟨_, rfl, by simp only [List.length_map]; omega⟩⟩ | exact ⟨rfl, .inr ⟨_, rfl, by simp only [List.length_map]; omega⟩⟩) ?_
| refine z_eff rfl rfl (by first | exact trivial | exact .inl ⟨rfl, rfl⟩ | exact .inr (.inl ⟨rfl, rfl⟩) | exact .inr (.inr (.inl ⟨rfl, rfl⟩)) | exact .inr (.inr (.inr (.inl ⟨rfl, rfl⟩)))) (j_callLB (n := 0) rfl rfl rfl (by (repeat (first | refine ⟨leS_refl _, ?_⟩ | refine ⟨leS_nn _ _ _, ?_⟩ | refine ⟨leS_nil _, ?_⟩ | refine ⟨leS_any _, ?_⟩)); exact trivial) (by rfl) (by rfl) (h6')) (by first | exact .inr (by decide) | exact .inl (by first | exact trivial | exact rfl | exact ⟨rfl, rfl⟩ | exact ⟨rfl, rfl, rfl⟩ | exact ⟨rfl, .inl ⟨_, rfl, by simp only [List.length_map]; omega⟩⟩ | exact ⟨rfl, .inr ⟨_, rfl, by simp only [List.length_map]; omega⟩⟩)) ?_
| refine z_eff rfl rfl (by first | exact trivial | exact .inl ⟨rfl, rfl⟩ | exact .inr (.inl ⟨rfl, rfl⟩) | exact .inr (.inr (.inl ⟨rfl, rfl⟩)) | exact .inr (.inr (.inr (.inl ⟨rfl, rfl⟩)))) (j_callR rfl rfl (by (repeat (first | refine ⟨PV.le_refl _, ?_⟩ | refine ⟨PV.le_nn _ _ _, ?_⟩ | refine ⟨PV.le_nil _, ?_⟩ | refine ⟨PV.le_any _, ?_⟩)); exact trivial) rfl (b3)) (by first | exact .inr (by decide) | exact .inl (by first | exact trivial | exact rfl | exact ⟨rfl, rfl⟩ | exact ⟨rfl, rfl, rfl⟩ | exact ⟨rfl, .inl ⟨_, rfl, by simp only [List.length_map]; omega⟩⟩ | exact ⟨rfl, .inr ⟨_, rfl, by simp only [List.length_map]; omega⟩⟩)) ?_
| refine z_eff rfl rfl (by first | exact trivial | exact .inl ⟨rfl, rfl⟩ | exact .inr (.inl ⟨rfl, rfl⟩) | exact .inr (.inr (.inl ⟨rfl, rfl⟩)) | exact .inr (.inr (.inr (.inl ⟨rfl, rfl⟩)))) (j_pure (ps_move rfl)) (by first | exact .inr (by decide) | exact .inl (by first | exact trivial | exact rfl | exact ⟨rfl, rfl⟩ | exact ⟨rfl, rfl, rfl⟩ | exact ⟨rfl, .inl ⟨_, rfl, by simp only [List.length_map]; omega⟩⟩ | exact ⟨rfl, .inr ⟨_, rfl, by simp only [List.length_map]; omega⟩⟩)) ?_
| refine z_eff rfl rfl (by first | exact trivial | exact .inl ⟨rfl, rfl⟩ | exact .inr (.inl ⟨rfl, rfl⟩) | exact .inr (.inr (.inl ⟨rfl, rfl⟩)) | exact .inr (.inr (.inr (.inl ⟨rfl, rfl⟩)))) (j_pure (ps_assign rfl)) (by first | exact .inr (by decide) | exact .inl (by first | exact trivial | exact rfl | exact ⟨rfl, rfl⟩ | exact ⟨rfl, rfl, rfl⟩ | exact ⟨rfl, .inl ⟨_, rfl, by simp only [List.length_map]; omega⟩⟩ | exact ⟨rfl, .inr ⟨_, rfl, by simp only [List.length_map]; omega⟩⟩)) ?_); refine ⟨_, (by dsimp only [appJ, killO, bitvec_to_nat, Nat.reduceAdd, Nat.reduceMul, Nat.reduceBEq, reduceCtorEq]), ?_⟩))
          refine g_move 2 1 (by decide) rfl ⟨_, (by dsimp only [mvP, mvA, mv1, mvH, bitvec_to_nat, Nat.reduceAdd, Nat.reduceMul, Nat.reduceBEq, reduceCtorEq]), ?_⟩
          repeat' (first
| refine g_seq ?_
| refine g_region ?_
| (refine o_go rfl ?_; (first
| refine p_p (ps_move rfl) ?_
| refine p_p (ps_assign rfl) ?_); refine ⟨_, (by dsimp only [bitvec_to_nat, Nat.reduceAdd, Nat.reduceMul, Nat.reduceBEq, reduceCtorEq]), ?_⟩)
| refine o_nil ?_
| refine g_condT rfl ?_)
          exact k_join (by repeat (first | exact trivial | refine ⟨.inl rfl, ?_⟩ | refine ⟨.inr rfl, ?_⟩)) ⟨rfl, trivial⟩ (hpLe_cons rfl (hpLe_cons rfl (hpLe_nil _)))
      | false =>
        have b3 := slmo_c p q g hp hq (by omega)
        rw [hb] at b3
        by_cases hl : 0 < (irrL p).length
        · have h5 := h5 hl
          repeat' (first
| refine g_seq ?_
| refine g_region ?_
| (refine o_go rfl ?_; (first
| refine p_p (ps_call rfl rfl (by (repeat (first | refine ⟨PV.le_refl _, ?_⟩ | refine ⟨PV.le_nn _ _ _, ?_⟩ | refine ⟨PV.le_nil _, ?_⟩ | refine ⟨PV.le_any _, ?_⟩)); exact trivial) (a1)) ?_
| refine p_p (ps_call rfl rfl (by (repeat (first | refine ⟨PV.le_refl _, ?_⟩ | refine ⟨PV.le_nn _ _ _, ?_⟩ | refine ⟨PV.le_nil _, ?_⟩ | refine ⟨PV.le_any _, ?_⟩)); exact trivial) (a2)) ?_
| refine p_e rfl (e_callL (n := 0) rfl rfl rfl (by (repeat (first | refine ⟨leS_refl _, ?_⟩ | refine ⟨leS_nn _ _ _, ?_⟩ | refine ⟨leS_nil _, ?_⟩ | refine ⟨leS_any _, ?_⟩)); exact trivial) rfl (by rfl) (by first | exact ⟨rfl, rfl, rfl, by simp⟩ | exact ⟨rfl, rfl, by simp⟩ | trivial) (h4)) ?_
| refine p_p (ps_move rfl) ?_
| refine p_p (ps_load_agg rfl rfl (by exact Nat.le_of_ble_eq_true rfl)) ?_
| refine p_p (ps_not rfl rfl) ?_
| refine p_p (ps_pick rfl rfl) ?_); refine ⟨_, (by dsimp only [bitvec_to_nat, Nat.reduceAdd, Nat.reduceMul, Nat.reduceBEq, reduceCtorEq]), ?_⟩)
| refine o_nil ?_
| refine g_condT rfl ?_)
          refine g_region_draw (by kernel_rfl) (by kernel_rfl) ?_
          repeat' (first
| refine g_seq ?_
| refine g_region ?_
| (refine o_go rfl ?_; (first
| refine p_p (ps_call rfl rfl (by (repeat (first | refine ⟨PV.le_refl _, ?_⟩ | refine ⟨PV.le_nn _ _ _, ?_⟩ | refine ⟨PV.le_nil _, ?_⟩ | refine ⟨PV.le_any _, ?_⟩)); exact trivial) (a3)) ?_
| refine p_p (ps_call rfl rfl (by (repeat (first | refine ⟨PV.le_refl _, ?_⟩ | refine ⟨PV.le_nn _ _ _, ?_⟩ | refine ⟨PV.le_nil _, ?_⟩ | refine ⟨PV.le_any _, ?_⟩)); exact trivial) (a4)) ?_
| refine p_p (ps_call rfl rfl (by (repeat (first | refine ⟨PV.le_refl _, ?_⟩ | refine ⟨PV.le_nn _ _ _, ?_⟩ | refine ⟨PV.le_nil _, ?_⟩ | refine ⟨PV.le_any _, ?_⟩)); exact trivial) (a6)) ?_
| refine p_e rfl (e_callL (n := 0) rfl rfl rfl (by (repeat (first | refine ⟨leS_refl _, ?_⟩ | refine ⟨leS_nn _ _ _, ?_⟩ | refine ⟨leS_nil _, ?_⟩ | refine ⟨leS_any _, ?_⟩)); exact trivial) rfl (by rfl) (by first | exact ⟨rfl, rfl, rfl, by simp⟩ | exact ⟨rfl, rfl, by simp⟩ | trivial) (h5)) ?_
| refine p_p (ps_call rfl rfl (by (repeat (first | refine ⟨PV.le_refl _, ?_⟩ | refine ⟨PV.le_nn _ _ _, ?_⟩ | refine ⟨PV.le_nil _, ?_⟩ | refine ⟨PV.le_any _, ?_⟩)); exact trivial) (b1)) ?_
| refine p_p (ps_call rfl rfl (by (repeat (first | refine ⟨PV.le_refl _, ?_⟩ | refine ⟨PV.le_nn _ _ _, ?_⟩ | refine ⟨PV.le_nil _, ?_⟩ | refine ⟨PV.le_any _, ?_⟩)); exact trivial) (b2)) ?_
| refine p_p (ps_move rfl) ?_
| refine p_p (ps_assign rfl) ?_
| refine p_p (ps_load_agg rfl rfl (by exact Nat.le_of_ble_eq_true rfl)) ?_
| refine p_p (ps_lenM rfl rfl rfl) ?_
| refine p_p (ps_pick rfl rfl) ?_
| refine p_p (ps_gtr rfl rfl rfl) ?_); refine ⟨_, (by dsimp only [bitvec_to_nat, Nat.reduceAdd, Nat.reduceMul, Nat.reduceBEq, reduceCtorEq]), ?_⟩)
| refine o_nil ?_
| (refine o_splitD rfl rfl rfl (fun hc => ?_) (fun hc => ?_) <;> first | (exfalso; omega) | dsimp only [List.set_cons_zero, List.set_cons_succ])
| refine g_condT rfl ?_
| refine g_condF rfl ?_)
          all_goals try (exfalso; omega)
          refine g_region_drawZ [(0, some [2]), (1, some [2]), (2, some [2]), (3, some [2]), (4, some [2]), (5, none), (6, none), (7, none), (8, some []), (9, some []), (10, none), (11, none)] [] (fun _ => True) (by kernel_rfl) rfl (by kernel_rfl) ?_
          repeat' (first
| refine z_nil ?_
| ((first
| refine z_pure rfl rfl (fun _ _ => ps_move rfl) (by repeat (first | exact trivial | refine ⟨rfl, ?_⟩)) (by first | exact fun _ _ => trivial | exact (by intro y hy; simp [Op.operands] at hy; first | (subst hy; repeat (first | exact trivial | refine ⟨rfl, ?_⟩)) | (rcases hy with rfl | rfl <;> repeat (first | exact trivial | refine ⟨rfl, ?_⟩)))) (by decide) (by first | exact trivial | exact rfl | exact ⟨rfl, rfl⟩ | exact ⟨rfl, rfl, rfl⟩ | exact ⟨rfl, .inl ⟨_, rfl, by simp only [List.length_map]; omega⟩⟩ | exact ⟨rfl, .inr ⟨_, rfl, by simp only [List.length_map]; omega⟩⟩) ?_
| refine z_pure rfl rfl (fun _ _ => ps_load_agg rfl rfl (by exact Nat.le_of_ble_eq_true rfl)) (by repeat (first | exact trivial | refine ⟨rfl, ?_⟩)) (by first | exact fun _ _ => trivial | exact (by intro y hy; simp [Op.operands] at hy; first | (subst hy; repeat (first | exact trivial | refine ⟨rfl, ?_⟩)) | (rcases hy with rfl | rfl <;> repeat (first | exact trivial | refine ⟨rfl, ?_⟩)))) (by decide) (by first | exact trivial | exact rfl | exact ⟨rfl, rfl⟩ | exact ⟨rfl, rfl, rfl⟩ | exact ⟨rfl, .inl ⟨_, rfl, by simp only [List.length_map]; omega⟩⟩ | exact ⟨rfl, .inr ⟨_, rfl, by simp only [List.length_map]; omega⟩⟩) ?_
| refine z_pure rfl rfl (fun _ _ => ps_extract rfl rfl rfl) (by repeat (first | exact trivial | refine ⟨rfl, ?_⟩)) (by first | exact fun _ _ => trivial | exact (by intro y hy; simp [Op.operands] at hy; first | (subst hy; repeat (first | exact trivial | refine ⟨rfl, ?_⟩)) | (rcases hy with rfl | rfl <;> repeat (first | exact trivial | refine ⟨rfl, ?_⟩)))) (by decide) (by first | exact trivial | exact rfl | exact ⟨rfl, rfl⟩ | exact ⟨rfl, rfl, rfl⟩ | exact ⟨rfl, .inl ⟨_, rfl, by simp only [List.length_map]; omega⟩⟩ | exact ⟨rfl, .inr ⟨_, rfl, by simp only [List.length_map]; omega⟩⟩) ?_
| refine z_eff rfl rfl (by first | exact trivial | exact .inl ⟨rfl, rfl⟩ | exact .inr (.inl ⟨rfl, rfl⟩) | exact .inr (.inr (.inl ⟨rfl, rfl⟩)) | exact .inr (.inr (.inr (.inl ⟨rfl, rfl⟩)))) (j_callLB (n := 0) rfl rfl rfl (by (repeat (first | refine ⟨leS_refl _, ?_⟩ | refine ⟨leS_nn _ _ _, ?_⟩ | refine ⟨leS_nil _, ?_⟩ | refine ⟨leS_any _, ?_⟩)); exact trivial) (by rfl) (by rfl) (h6')) (by first | exact .inr (by decide) | exact .inl (by first | exact trivial | exact rfl | exact ⟨rfl, rfl⟩ | exact ⟨rfl, rfl, rfl⟩ | exact ⟨rfl, .inl ⟨_, rfl, by simp only [List.length_map]; omega⟩⟩ | exact ⟨rfl, .inr ⟨_, rfl, by simp only [List.length_map]; omega⟩⟩)) ?_
| refine z_eff rfl rfl (by first | exact trivial | exact .inl ⟨rfl, rfl⟩ | exact .inr (.inl ⟨rfl, rfl⟩) | exact .inr (.inr (.inl ⟨rfl, rfl⟩)) | exact .inr (.inr (.inr (.inl ⟨rfl, rfl⟩)))) (j_pure (ps_call rfl rfl (by (repeat (first | refine ⟨PV.le_refl _, ?_⟩ | refine ⟨PV.le_nn _ _ _, ?_⟩ | refine ⟨PV.le_nil _, ?_⟩ | refine ⟨PV.le_any _, ?_⟩)); exact trivial) (b3))) (by first | exact .inr (by decide) | exact .inl (by first | exact trivial | exact rfl | exact ⟨rfl, rfl⟩ | exact ⟨rfl, rfl, rfl⟩ | exact ⟨rfl, .inl ⟨_, rfl, by simp only [List.length_map]; omega⟩⟩ | exact ⟨rfl, .inr ⟨_, rfl, by simp only [List.length_map]; omega⟩⟩)) ?_
| refine z_eff rfl rfl (by first | exact trivial | exact .inl ⟨rfl, rfl⟩ | exact .inr (.inl ⟨rfl, rfl⟩) | exact .inr (.inr (.inl ⟨rfl, rfl⟩)) | exact .inr (.inr (.inr (.inl ⟨rfl, rfl⟩)))) (j_pure (ps_move rfl)) (by first | exact .inr (by decide) | exact .inl (by first | exact trivial | exact rfl | exact ⟨rfl, rfl⟩ | exact ⟨rfl, rfl, rfl⟩ | exact ⟨rfl, .inl ⟨_, rfl, by simp only [List.length_map]; omega⟩⟩ | exact ⟨rfl, .inr ⟨_, rfl, by simp only [List.length_map]; omega⟩⟩)) ?_
| refine z_eff rfl rfl (by first | exact trivial | exact .inl ⟨rfl, rfl⟩ | exact .inr (.inl ⟨rfl, rfl⟩) | exact .inr (.inr (.inl ⟨rfl, rfl⟩)) | exact .inr (.inr (.inr (.inl ⟨rfl, rfl⟩)))) (j_pure (ps_assign rfl)) (by first | exact .inr (by decide) | exact .inl (by first | exact trivial | exact rfl | exact ⟨rfl, rfl⟩ | exact ⟨rfl, rfl, rfl⟩ | exact ⟨rfl, .inl ⟨_, rfl, by simp only [List.length_map]; omega⟩⟩ | exact ⟨rfl, .inr ⟨_, rfl, by simp only [List.length_map]; omega⟩⟩)) ?_); refine ⟨_, (by dsimp only [appJ, killO, bitvec_to_nat, Nat.reduceAdd, Nat.reduceMul, Nat.reduceBEq, reduceCtorEq]), ?_⟩))
          repeat' (first
| refine g_seq ?_
| refine g_region ?_
| (refine o_go rfl ?_; (first
| refine p_p (ps_move rfl) ?_); refine ⟨_, (by dsimp only [bitvec_to_nat, Nat.reduceAdd, Nat.reduceMul, Nat.reduceBEq, reduceCtorEq]), ?_⟩)
| refine o_nil ?_
| refine g_condF rfl ?_
| refine g_skip ?_)
          exact k_join (by repeat (first | exact trivial | refine ⟨.inl rfl, ?_⟩ | refine ⟨.inr rfl, ?_⟩)) ⟨rfl, trivial⟩ (hpLe_cons rfl (hpLe_cons rfl (hpLe_nil _)))
        · have h5' := h5' hl
          subst h5'
          repeat' (first
| refine g_seq ?_
| refine g_region ?_
| (refine o_go rfl ?_; (first
| refine p_p (ps_call rfl rfl (by (repeat (first | refine ⟨PV.le_refl _, ?_⟩ | refine ⟨PV.le_nn _ _ _, ?_⟩ | refine ⟨PV.le_nil _, ?_⟩ | refine ⟨PV.le_any _, ?_⟩)); exact trivial) (a1)) ?_
| refine p_p (ps_call rfl rfl (by (repeat (first | refine ⟨PV.le_refl _, ?_⟩ | refine ⟨PV.le_nn _ _ _, ?_⟩ | refine ⟨PV.le_nil _, ?_⟩ | refine ⟨PV.le_any _, ?_⟩)); exact trivial) (a2)) ?_
| refine p_e rfl (e_callL (n := 0) rfl rfl rfl (by (repeat (first | refine ⟨leS_refl _, ?_⟩ | refine ⟨leS_nn _ _ _, ?_⟩ | refine ⟨leS_nil _, ?_⟩ | refine ⟨leS_any _, ?_⟩)); exact trivial) rfl (by rfl) (by first | exact ⟨rfl, rfl, rfl, by simp⟩ | exact ⟨rfl, rfl, by simp⟩ | trivial) (h4)) ?_
| refine p_p (ps_move rfl) ?_
| refine p_p (ps_load_agg rfl rfl (by exact Nat.le_of_ble_eq_true rfl)) ?_
| refine p_p (ps_not rfl rfl) ?_
| refine p_p (ps_pick rfl rfl) ?_); refine ⟨_, (by dsimp only [bitvec_to_nat, Nat.reduceAdd, Nat.reduceMul, Nat.reduceBEq, reduceCtorEq]), ?_⟩)
| refine o_nil ?_
| refine g_condT rfl ?_)
          refine g_region_draw (by kernel_rfl) (by kernel_rfl) ?_
          repeat' (first
| refine g_seq ?_
| refine g_region ?_
| (refine o_go rfl ?_; (first
| refine p_p (ps_call rfl rfl (by (repeat (first | refine ⟨PV.le_refl _, ?_⟩ | refine ⟨PV.le_nn _ _ _, ?_⟩ | refine ⟨PV.le_nil _, ?_⟩ | refine ⟨PV.le_any _, ?_⟩)); exact trivial) (a3)) ?_
| refine p_p (ps_call rfl rfl (by (repeat (first | refine ⟨PV.le_refl _, ?_⟩ | refine ⟨PV.le_nn _ _ _, ?_⟩ | refine ⟨PV.le_nil _, ?_⟩ | refine ⟨PV.le_any _, ?_⟩)); exact trivial) (a4)) ?_
| refine p_p (ps_call rfl rfl (by (repeat (first | refine ⟨PV.le_refl _, ?_⟩ | refine ⟨PV.le_nn _ _ _, ?_⟩ | refine ⟨PV.le_nil _, ?_⟩ | refine ⟨PV.le_any _, ?_⟩)); exact trivial) (a6)) ?_
| refine p_p (ps_call rfl rfl (by (repeat (first | refine ⟨PV.le_refl _, ?_⟩ | refine ⟨PV.le_nn _ _ _, ?_⟩ | refine ⟨PV.le_nil _, ?_⟩ | refine ⟨PV.le_any _, ?_⟩)); exact trivial) (b1)) ?_
| refine p_p (ps_call rfl rfl (by (repeat (first | refine ⟨PV.le_refl _, ?_⟩ | refine ⟨PV.le_nn _ _ _, ?_⟩ | refine ⟨PV.le_nil _, ?_⟩ | refine ⟨PV.le_any _, ?_⟩)); exact trivial) (b2)) ?_
| refine p_p (ps_move rfl) ?_
| refine p_p (ps_assign rfl) ?_
| refine p_p (ps_load_agg rfl rfl (by exact Nat.le_of_ble_eq_true rfl)) ?_
| refine p_p (ps_lenM rfl rfl rfl) ?_
| refine p_p (ps_pick rfl rfl) ?_
| refine p_p (ps_gtr rfl rfl rfl) ?_); refine ⟨_, (by dsimp only [bitvec_to_nat, Nat.reduceAdd, Nat.reduceMul, Nat.reduceBEq, reduceCtorEq]), ?_⟩)
| refine o_nil ?_
| (refine o_s rfl ?_; refine ⟨_, (by dsimp only [bitvec_to_nat, Nat.reduceAdd, Nat.reduceMul, Nat.reduceBEq, reduceCtorEq]), ?_⟩)
| (refine o_splitD rfl rfl rfl (fun hc => ?_) (fun hc => ?_) <;> first | (exfalso; omega) | dsimp only [List.set_cons_zero, List.set_cons_succ])
| refine g_condT rfl ?_
| refine g_condF rfl ?_)
          all_goals try (exfalso; omega)
          refine g_region_drawZ [(0, some [2]), (1, some [2]), (2, some [2]), (3, some [2]), (4, some [2]), (5, none), (6, none), (7, none), (8, some []), (9, some []), (10, none), (11, none)] [] (fun _ => True) (by kernel_rfl) rfl (by kernel_rfl) ?_
          repeat' (first
| refine z_nil ?_
| ((first
| refine z_pure rfl rfl (fun _ _ => ps_move rfl) (by repeat (first | exact trivial | refine ⟨rfl, ?_⟩)) (by first | exact fun _ _ => trivial | exact (by intro y hy; simp [Op.operands] at hy; first | (subst hy; repeat (first | exact trivial | refine ⟨rfl, ?_⟩)) | (rcases hy with rfl | rfl <;> repeat (first | exact trivial | refine ⟨rfl, ?_⟩)))) (by decide) (by first | exact trivial | exact rfl | exact ⟨rfl, rfl⟩ | exact ⟨rfl, rfl, rfl⟩ | exact ⟨rfl, .inl ⟨_, rfl, by simp only [List.length_map]; omega⟩⟩ | exact ⟨rfl, .inr ⟨_, rfl, by simp only [List.length_map]; omega⟩⟩) ?_
| refine z_pure rfl rfl (fun _ _ => ps_load_agg rfl rfl (by exact Nat.le_of_ble_eq_true rfl)) (by repeat (first | exact trivial | refine ⟨rfl, ?_⟩)) (by first | exact fun _ _ => trivial | exact (by intro y hy; simp [Op.operands] at hy; first | (subst hy; repeat (first | exact trivial | refine ⟨rfl, ?_⟩)) | (rcases hy with rfl | rfl <;> repeat (first | exact trivial | refine ⟨rfl, ?_⟩)))) (by decide) (by first | exact trivial | exact rfl | exact ⟨rfl, rfl⟩ | exact ⟨rfl, rfl, rfl⟩ | exact ⟨rfl, .inl ⟨_, rfl, by simp only [List.length_map]; omega⟩⟩ | exact ⟨rfl, .inr ⟨_, rfl, by simp only [List.length_map]; omega⟩⟩) ?_
| refine z_pure rfl rfl (fun _ _ => ps_extract rfl rfl rfl) (by repeat (first | exact trivial | refine ⟨rfl, ?_⟩)) (by first | exact fun _ _ => trivial | exact (by intro y hy; simp [Op.operands] at hy; first | (subst hy; repeat (first | exact trivial | refine ⟨rfl, ?_⟩)) | (rcases hy with rfl | rfl <;> repeat (first | exact trivial | refine ⟨rfl, ?_⟩)))) (by decide) (by first | exact trivial | exact rfl | exact ⟨rfl, rfl⟩ | exact ⟨rfl, rfl, rfl⟩ | exact ⟨rfl, .inl ⟨_, rfl, by simp only [List.length_map]; omega⟩⟩ | exact ⟨rfl, .inr ⟨_, rfl, by simp only [List.length_map]; omega⟩⟩) ?_
| refine z_eff rfl rfl (by first | exact trivial | exact .inl ⟨rfl, rfl⟩ | exact .inr (.inl ⟨rfl, rfl⟩) | exact .inr (.inr (.inl ⟨rfl, rfl⟩)) | exact .inr (.inr (.inr (.inl ⟨rfl, rfl⟩)))) (j_callLB (n := 0) rfl rfl rfl (by (repeat (first | refine ⟨leS_refl _, ?_⟩ | refine ⟨leS_nn _ _ _, ?_⟩ | refine ⟨leS_nil _, ?_⟩ | refine ⟨leS_any _, ?_⟩)); exact trivial) (by rfl) (by rfl) (h6')) (by first | exact .inr (by decide) | exact .inl (by first | exact trivial | exact rfl | exact ⟨rfl, rfl⟩ | exact ⟨rfl, rfl, rfl⟩ | exact ⟨rfl, .inl ⟨_, rfl, by simp only [List.length_map]; omega⟩⟩ | exact ⟨rfl, .inr ⟨_, rfl, by simp only [List.length_map]; omega⟩⟩)) ?_
| refine z_eff rfl rfl (by first | exact trivial | exact .inl ⟨rfl, rfl⟩ | exact .inr (.inl ⟨rfl, rfl⟩) | exact .inr (.inr (.inl ⟨rfl, rfl⟩)) | exact .inr (.inr (.inr (.inl ⟨rfl, rfl⟩)))) (j_pure (ps_call rfl rfl (by (repeat (first | refine ⟨PV.le_refl _, ?_⟩ | refine ⟨PV.le_nn _ _ _, ?_⟩ | refine ⟨PV.le_nil _, ?_⟩ | refine ⟨PV.le_any _, ?_⟩)); exact trivial) (b3))) (by first | exact .inr (by decide) | exact .inl (by first | exact trivial | exact rfl | exact ⟨rfl, rfl⟩ | exact ⟨rfl, rfl, rfl⟩ | exact ⟨rfl, .inl ⟨_, rfl, by simp only [List.length_map]; omega⟩⟩ | exact ⟨rfl, .inr ⟨_, rfl, by simp only [List.length_map]; omega⟩⟩)) ?_
| refine z_eff rfl rfl (by first | exact trivial | exact .inl ⟨rfl, rfl⟩ | exact .inr (.inl ⟨rfl, rfl⟩) | exact .inr (.inr (.inl ⟨rfl, rfl⟩)) | exact .inr (.inr (.inr (.inl ⟨rfl, rfl⟩)))) (j_pure (ps_move rfl)) (by first | exact .inr (by decide) | exact .inl (by first | exact trivial | exact rfl | exact ⟨rfl, rfl⟩ | exact ⟨rfl, rfl, rfl⟩ | exact ⟨rfl, .inl ⟨_, rfl, by simp only [List.length_map]; omega⟩⟩ | exact ⟨rfl, .inr ⟨_, rfl, by simp only [List.length_map]; omega⟩⟩)) ?_
| refine z_eff rfl rfl (by first | exact trivial | exact .inl ⟨rfl, rfl⟩ | exact .inr (.inl ⟨rfl, rfl⟩) | exact .inr (.inr (.inl ⟨rfl, rfl⟩)) | exact .inr (.inr (.inr (.inl ⟨rfl, rfl⟩)))) (j_pure (ps_assign rfl)) (by first | exact .inr (by decide) | exact .inl (by first | exact trivial | exact rfl | exact ⟨rfl, rfl⟩ | exact ⟨rfl, rfl, rfl⟩ | exact ⟨rfl, .inl ⟨_, rfl, by simp only [List.length_map]; omega⟩⟩ | exact ⟨rfl, .inr ⟨_, rfl, by simp only [List.length_map]; omega⟩⟩)) ?_); refine ⟨_, (by dsimp only [appJ, killO, bitvec_to_nat, Nat.reduceAdd, Nat.reduceMul, Nat.reduceBEq, reduceCtorEq]), ?_⟩))
          repeat' (first
| refine g_seq ?_
| refine g_region ?_
| (refine o_go rfl ?_; (first
| refine p_p (ps_move rfl) ?_); refine ⟨_, (by dsimp only [bitvec_to_nat, Nat.reduceAdd, Nat.reduceMul, Nat.reduceBEq, reduceCtorEq]), ?_⟩)
| refine o_nil ?_
| refine g_condF rfl ?_
| refine g_skip ?_)
          exact k_join (by repeat (first | exact trivial | refine ⟨.inl rfl, ?_⟩ | refine ⟨.inr rfl, ?_⟩)) ⟨rfl, trivial⟩ (hpLe_cons rfl (hpLe_cons rfl (hpLe_nil _)))
  dsimp only [setMany, List.set_cons_zero, List.set_cons_succ]
  have hml : (o5.map I).length = o5.length := List.length_map _
  by_cases y0 : y = 0
  · obtain ⟨rfl, rfl⟩ := l0 y0
    subst y0
    repeat' (first
| refine g_seq ?_
| refine g_block ?_
| refine g_region ?_
| (refine o_go rfl ?_; (first
| refine p_e rfl (e_callL (n := 0) rfl rfl rfl (by (repeat (first | refine ⟨leS_refl _, ?_⟩ | refine ⟨leS_nn _ _ _, ?_⟩ | refine ⟨leS_nil _, ?_⟩ | refine ⟨leS_any _, ?_⟩)); exact trivial) rfl (by rfl) (by first | exact ⟨rfl, rfl, rfl, by simp⟩ | exact ⟨rfl, rfl, by simp⟩ | trivial) (h6)) ?_
| refine p_p (ps_move rfl) ?_
| refine p_p (ps_assign rfl) ?_
| refine p_p (ps_eql rfl rfl rfl) ?_
| refine p_e rfl (e_append rfl rfl rfl rfl rfl rfl (by first | exact one_one rfl | exact one_map (fun _ => rfl) _) rfl (by first | omega | (simp; done) | (simp; omega)) (by first | omega | (simp; done) | (simp; omega))) ?_
| refine p_p (ps_lit1 rfl rfl (by rfl) (by rfl)) ?_); refine ⟨_, (by dsimp only [bitvec_to_nat, Nat.reduceAdd, Nat.reduceMul, Nat.reduceBEq, reduceCtorEq]), ?_⟩)
| refine o_nil ?_
| refine g_condT rfl ?_
| refine g_ret ?_)
    refine krlh 0 0 rfl rfl rfl (krS rfl ?_)
    simp
  · by_cases y1 : y ≠ 1 ∨ o5.length = 0
    · obtain ⟨rfl, rfl⟩ := l1 y0 y1
      repeat' (first
| refine g_seq ?_
| refine g_block ?_
| refine g_region ?_
| (refine o_go rfl ?_; (first
| refine p_e rfl (e_callL (n := 0) rfl rfl rfl (by (repeat (first | refine ⟨leS_refl _, ?_⟩ | refine ⟨leS_nn _ _ _, ?_⟩ | refine ⟨leS_nil _, ?_⟩ | refine ⟨leS_any _, ?_⟩)); exact trivial) rfl (by rfl) (by first | exact ⟨rfl, rfl, rfl, by simp⟩ | exact ⟨rfl, rfl, by simp⟩ | trivial) (h6)) ?_
| refine p_p (ps_move rfl) ?_
| refine p_p (ps_assign rfl) ?_
| refine p_p (ps_gtr rfl rfl rfl) ?_
| refine p_p (ps_eql rfl rfl rfl) ?_
| refine p_p (ps_len_mut rfl rfl rfl rfl) ?_); refine ⟨_, (by dsimp only [bitvec_to_nat, Nat.reduceAdd, Nat.reduceMul, Nat.reduceBEq, reduceCtorEq]), ?_⟩)
| refine o_nil ?_
| (refine g_condD rfl (fun hc => ?_) (fun hc => ?_) <;> try (exfalso; omega))
| refine g_skip ?_
| refine g_ret ?_)
      all_goals first | exact krlh 0 0 rfl rfl rfl (krS rfl rfl) | (exfalso; omega)
    · obtain ⟨z0, z1, l2a, l2b, rfl⟩ := l2 (by omega) (by omega)
      rw [show (o5.length : Int) = (((o5.map I).length : Nat) : Int) by rw [List.length_map]] at l2a
      repeat' (first
| refine g_seq ?_
| refine g_block ?_
| refine g_region ?_
| (refine o_go rfl ?_; (first
| refine p_e rfl (e_callL (n := 0) rfl rfl rfl (by (repeat (first | refine ⟨leS_refl _, ?_⟩ | refine ⟨leS_nn _ _ _, ?_⟩ | refine ⟨leS_nil _, ?_⟩ | refine ⟨leS_any _, ?_⟩)); exact trivial) rfl (by rfl) (by first | exact ⟨rfl, rfl, rfl, by simp⟩ | exact ⟨rfl, rfl, by simp⟩ | trivial) (h6)) ?_
| refine p_p (ps_move rfl) ?_
| refine p_p (ps_assign rfl) ?_
| refine p_p (ps_gtr rfl rfl rfl) ?_
| refine p_p (ps_eql rfl rfl rfl) ?_
| refine p_p (ps_len_mut rfl rfl rfl rfl) ?_); refine ⟨_, (by dsimp only [bitvec_to_nat, Nat.reduceAdd, Nat.reduceMul, Nat.reduceBEq, reduceCtorEq]), ?_⟩)
| refine o_nil ?_
| (refine g_condD rfl (fun hc => ?_) (fun hc => ?_) <;> try (exfalso; omega)))
      all_goals try (exfalso; omega)
      · have hl5 : 0 ≤ z ∧ z < (((o5.map I).length : Nat) : Int) := by omega
        refine g_region_drawZ [(0, some []), (1, some []), (2, some []), (3, some []), (5, some []), (6, some []), (7, some []), (8, some []), (9, some []), (4, none), (10, none), (11, none), (12, none)] [(12, 999999)] (fun hp => hp[1]? = some (.arr true 1 3 (o5.map I))) (by kernel_rfl) rfl (by kernel_rfl) ?_
        repeat' (first
| refine z_nil ?_
| ((first
| refine z_pure rfl rfl (fun hp hH => ps_len_mut rfl rfl rfl hH) (by repeat (first | exact trivial | refine ⟨rfl, ?_⟩)) (by first | exact fun _ _ => trivial | exact (by intro y hy; simp [Op.operands] at hy; first | (subst hy; repeat (first | exact trivial | refine ⟨rfl, ?_⟩)) | (rcases hy with rfl | rfl <;> repeat (first | exact trivial | refine ⟨rfl, ?_⟩)))) (by decide) (by first | exact trivial | exact rfl | exact ⟨rfl, rfl⟩ | exact ⟨rfl, rfl, rfl⟩ | exact ⟨rfl, .inl ⟨_, rfl, by simp only [List.length_map]; omega⟩⟩ | exact ⟨rfl, .inr ⟨_, rfl, by simp only [List.length_map]; omega⟩⟩) ?_
| refine z_pure rfl rfl (fun _ _ => ps_move rfl) (by repeat (first | exact trivial | refine ⟨rfl, ?_⟩)) (by first | exact fun _ _ => trivial | exact (by intro y hy; simp [Op.operands] at hy; first | (subst hy; repeat (first | exact trivial | refine ⟨rfl, ?_⟩)) | (rcases hy with rfl | rfl <;> repeat (first | exact trivial | refine ⟨rfl, ?_⟩)))) (by decide) (by first | exact trivial | exact rfl | exact ⟨rfl, rfl⟩ | exact ⟨rfl, rfl, rfl⟩ | exact ⟨rfl, .inl ⟨_, rfl, by simp only [List.length_map]; omega⟩⟩ | exact ⟨rfl, .inr ⟨_, rfl, by simp only [List.length_map]; omega⟩⟩) ?_
| refine z_pure rfl rfl (fun _ _ => ps_load_cell rfl rfl) (by repeat (first | exact trivial | refine ⟨rfl, ?_⟩)) (by first | exact fun _ _ => trivial | exact (by intro y hy; simp [Op.operands] at hy; first | (subst hy; repeat (first | exact trivial | refine ⟨rfl, ?_⟩)) | (rcases hy with rfl | rfl <;> repeat (first | exact trivial | refine ⟨rfl, ?_⟩)))) (by decide) (by first | exact trivial | exact rfl | exact ⟨rfl, rfl⟩ | exact ⟨rfl, rfl, rfl⟩ | exact ⟨rfl, .inl ⟨_, rfl, by simp only [List.length_map]; omega⟩⟩ | exact ⟨rfl, .inr ⟨_, rfl, by simp only [List.length_map]; omega⟩⟩) ?_
| refine z_pure rfl rfl (fun _ _ => ps_lenM rfl rfl rfl) (by repeat (first | exact trivial | refine ⟨rfl, ?_⟩)) (by first | exact fun _ _ => trivial | exact (by intro y hy; simp [Op.operands] at hy; first | (subst hy; repeat (first | exact trivial | refine ⟨rfl, ?_⟩)) | (rcases hy with rfl | rfl <;> repeat (first | exact trivial | refine ⟨rfl, ?_⟩)))) (by decide) (by first | exact trivial | exact rfl | exact ⟨rfl, rfl⟩ | exact ⟨rfl, rfl, rfl⟩ | exact ⟨rfl, .inl ⟨_, rfl, by simp only [List.length_map]; omega⟩⟩ | exact ⟨rfl, .inr ⟨_, rfl, by simp only [List.length_map]; omega⟩⟩) ?_
| refine z_pure rfl rfl (fun _ _ => ps_fieldAddr rfl rfl) (by repeat (first | exact trivial | refine ⟨rfl, ?_⟩)) (by first | exact fun _ _ => trivial | exact (by intro y hy; simp [Op.operands] at hy; first | (subst hy; repeat (first | exact trivial | refine ⟨rfl, ?_⟩)) | (rcases hy with rfl | rfl <;> repeat (first | exact trivial | refine ⟨rfl, ?_⟩)))) (by decide) (by first | exact trivial | exact rfl | exact ⟨rfl, rfl⟩ | exact ⟨rfl, rfl, rfl⟩ | exact ⟨rfl, .inl ⟨_, rfl, by simp only [List.length_map]; omega⟩⟩ | exact ⟨rfl, .inr ⟨_, rfl, by simp only [List.length_map]; omega⟩⟩) ?_
| refine z_pure rfl rfl (fun _ _ => ps_lit3 rfl rfl rfl rfl (by rfl) (by rfl) (by rfl) (by rfl)) (by repeat (first | exact trivial | refine ⟨rfl, ?_⟩)) (by first | exact fun _ _ => trivial | exact (by intro y hy; simp [Op.operands] at hy; first | (subst hy; repeat (first | exact trivial | refine ⟨rfl, ?_⟩)) | (rcases hy with rfl | rfl <;> repeat (first | exact trivial | refine ⟨rfl, ?_⟩)))) (by decide) (by first | exact trivial | exact rfl | exact ⟨rfl, rfl⟩ | exact ⟨rfl, rfl, rfl⟩ | exact ⟨rfl, .inl ⟨_, rfl, by simp only [List.length_map]; omega⟩⟩ | exact ⟨rfl, .inr ⟨_, rfl, by simp only [List.length_map]; omega⟩⟩) ?_
| refine z_eff rfl rfl (by first | exact trivial | exact .inl ⟨rfl, rfl⟩ | exact .inr (.inl ⟨rfl, rfl⟩) | exact .inr (.inr (.inl ⟨rfl, rfl⟩)) | exact .inr (.inr (.inr (.inl ⟨rfl, rfl⟩)))) (j_callLB (n := 0) rfl rfl rfl (by (repeat (first | refine ⟨leS_refl _, ?_⟩ | refine ⟨leS_nn _ _ _, ?_⟩ | refine ⟨leS_nil _, ?_⟩ | refine ⟨leS_any _, ?_⟩)); exact trivial) (by rfl) (by rfl) (l2a)) (by first | exact .inr (by decide) | exact .inl (by first | exact trivial | exact rfl | exact ⟨rfl, rfl⟩ | exact ⟨rfl, rfl, rfl⟩ | exact ⟨rfl, .inl ⟨_, rfl, by simp only [List.length_map]; omega⟩⟩ | exact ⟨rfl, .inr ⟨_, rfl, by simp only [List.length_map]; omega⟩⟩)) ?_
| refine z_eff rfl rfl (by first | exact trivial | exact .inl ⟨rfl, rfl⟩ | exact .inr (.inl ⟨rfl, rfl⟩) | exact .inr (.inr (.inl ⟨rfl, rfl⟩)) | exact .inr (.inr (.inr (.inl ⟨rfl, rfl⟩)))) (j_callLB (n := 0) rfl rfl rfl (by (repeat (first | refine ⟨leS_refl _, ?_⟩ | refine ⟨leS_nn _ _ _, ?_⟩ | refine ⟨leS_nil _, ?_⟩ | refine ⟨leS_any _, ?_⟩)); exact trivial) (by rfl) (by rfl) (l2b)) (by first | exact .inr (by decide) | exact .inl (by first | exact trivial | exact rfl | exact ⟨rfl, rfl⟩ | exact ⟨rfl, rfl, rfl⟩ | exact ⟨rfl, .inl ⟨_, rfl, by simp only [List.length_map]; omega⟩⟩ | exact ⟨rfl, .inr ⟨_, rfl, by simp only [List.length_map]; omega⟩⟩)) ?_
| refine z_eff rfl rfl (by first | exact trivial | exact .inl ⟨rfl, rfl⟩ | exact .inr (.inl ⟨rfl, rfl⟩) | exact .inr (.inr (.inl ⟨rfl, rfl⟩)) | exact .inr (.inr (.inr (.inl ⟨rfl, rfl⟩)))) (j_pure (ps_index_mut rfl rfl rfl rfl (by omega) (by omega))) (by first | exact .inr (by decide) | exact .inl (by first | exact trivial | exact rfl | exact ⟨rfl, rfl⟩ | exact ⟨rfl, rfl, rfl⟩ | exact ⟨rfl, .inl ⟨_, rfl, by simp only [List.length_map]; omega⟩⟩ | exact ⟨rfl, .inr ⟨_, rfl, by simp only [List.length_map]; omega⟩⟩)) ?_
| refine z_eff rfl rfl (by first | exact trivial | exact .inl ⟨rfl, rfl⟩ | exact .inr (.inl ⟨rfl, rfl⟩) | exact .inr (.inr (.inl ⟨rfl, rfl⟩)) | exact .inr (.inr (.inr (.inl ⟨rfl, rfl⟩)))) (j_store_arr rfl rfl rfl rfl (by omega) rfl rfl) (by first | exact .inr (by decide) | exact .inl (by first | exact trivial | exact rfl | exact ⟨rfl, rfl⟩ | exact ⟨rfl, rfl, rfl⟩ | exact ⟨rfl, .inl ⟨_, rfl, by simp only [List.length_map]; omega⟩⟩ | exact ⟨rfl, .inr ⟨_, rfl, by simp only [List.length_map]; omega⟩⟩)) ?_); refine ⟨_, (by dsimp only [appJ, killO, bitvec_to_nat, Nat.reduceAdd, Nat.reduceMul, Nat.reduceBEq, reduceCtorEq]), ?_⟩))
        repeat' (first
| refine g_seq ?_
| refine g_region ?_
| (refine o_go rfl ?_; (first
| refine p_p (ps_move rfl) ?_
| refine p_p (ps_assign rfl) ?_); refine ⟨_, (by dsimp only [bitvec_to_nat, Nat.reduceAdd, Nat.reduceMul, Nat.reduceBEq, reduceCtorEq]), ?_⟩)
| refine o_nil ?_
| refine g_ret ?_)
        refine krlh 0 0 rfl rfl rfl (krS rfl ?_)
        rw [Nat.mul_one, List.map_set]
theorem mid_L {c : Cu} {m : Int} (h : c.ok m) (hm : m ≤ 690000) (p q : List (List Int)) (o : List Int) (hp : okP p) (hq : okP q) (hpl : p.length ≤ 30) (ho : o.length ≤ 30) : ∃ c' o', c'.ok (m + 1100) ∧ o'.length ≤ 30 ∧ MapMid p q c o c' o' := by
  cases hg : goodL p && goodL q with
  | false => exact ⟨c, o, h.le (by omega), ho, .bad hg⟩
  | true =>
    obtain ⟨c4, b4, k4, h4⟩ := one_L h (by omega) 4 (by omega)
    cases b4 with
    | true => exact ⟨c4, o, k4.le (by omega), ho, .one hg h4⟩
    | false =>
      have hil := irrL_len p
      have last : ∀ c5 : Cu, c5.ok (m + 4) → (0 < (irrL p).length → LCalls Try.prog 41 (cuB c4) [.hat 0 0, I 2] (cuB c5) (B false)) → (¬ 0 < (irrL p).length → c5 = c4) → ∃ c' o', c'.ok (m + 1100) ∧ o'.length ≤ 30 ∧ MapMid p q c o c' o' := fun c5 k5 h5 h5' => by
        cases hd : distB p && distB q with
        | false => exact ⟨c5, o, k5.le (by omega), ho, .low hg h4 h5 h5' hd⟩
        | true =>
          obtain ⟨c6, g, k6, hgl, h6⟩ := points_L k5 (by omega) q p hq hp
          refine ⟨c6, _, k6.le (by omega), ?_, .rest hg h4 h5 h5' hd h6 hgl⟩
          cases lmoB p q g with
          | false => exact ho
          | true => show (lmoL p q g p.length).length ≤ 30; rw [lmoL_len]; exact hpl
      by_cases hl : 0 < (irrL p).length
      · obtain ⟨c5, b5, k5, h5⟩ := one_L k4 (by omega) 2 (by omega)
        cases b5 with
        | false => exact last c5 (k5.le (by omega)) (fun _ => h5) (fun h => absurd hl h)
        | true =>
          obtain ⟨c6, z, k6, z0, z1, h6⟩ := pick_L k5 (by omega) ((irrL p).length : Int) (by omega)
          exact ⟨c6, _, k6.le (by omega), by rw [cstW_len]; exact ho, .two hg h4 hl h5 h6 z0 (by omega)⟩
      · exact last c4 (k4.le (by omega)) (fun h => absurd h hl) (fun _ => rfl)
theorem map_L {c : Cu} {m : Int} (h : c.ok m) (hm : m ≤ 600000) (p q : List (List Int)) (hp : okP p) (hq : okP q) (hpl : p.length ≤ 30) (hql : q.length ≤ 30) : ∃ c' o, c'.ok (m + 1500) ∧ o.length ≤ 1000 ∧ LCalls Try.prog 19 (cuB c) [.hat 0 0, posetP p, posetP q] (cuB c') (ints o) := by
  obtain ⟨n, hn⟩ : ∃ n, n = p.length := ⟨_, rfl⟩
  obtain ⟨F, F0, F1, F2⟩ := draw_list h (by omega) n (by omega) (if (q.length : Int) < 1 then 1 else (q.length : Int)) (by split <;> omega) (by split <;> omega)
  obtain ⟨f1, f2⟩ := F1 n (Nat.le_refl n)
  obtain ⟨c5, o5, k5, hol, hmid⟩ := mid_L f1 (by omega) p q (F n).2 hp hq hpl (by rw [f2.1]; omega)
  obtain ⟨c6, y, k6, y0, -, h6⟩ := pick_L k5 (by omega) 32 (by omega)
  by_cases e0 : y = 0
  · exact ⟨c6, _, k6.le (by omega), by rw [List.length_append]; simp; omega, map_w (c7 := c) (z := 0) (v := 0) hp hq hn F0 (fun i hi => (F1 i hi).2) F2 hmid h6 (fun _ => ⟨rfl, rfl⟩) (fun h => absurd e0 h) (fun h => absurd h (by omega)) (by omega)⟩
  by_cases e1 : y ≠ 1 ∨ o5.length = 0
  · exact ⟨c6, _, k6.le (by omega), by omega, map_w (c7 := c) (z := 0) (v := 0) hp hq hn F0 (fun i hi => (F1 i hi).2) F2 hmid h6 (fun h => absurd h e0) (fun _ _ => ⟨rfl, rfl⟩) (fun h1 h2 => absurd e1 (by omega)) (by omega)⟩
  · obtain ⟨c7, z, k7, z0, z1, h7⟩ := pick_L k6 (by omega) (o5.length : Int) (by omega)
    obtain ⟨c8, v, k8, -, h8⟩ := among_L k7 (by omega) [-1, (q.length : Int), 0] (by simp) (by simp)
    exact ⟨c8, _, k8.le (by omega), by rw [List.length_set]; omega, map_w hp hq hn F0 (fun i hi => (F1 i hi).2) F2 hmid h6 (fun h => absurd h e0) (fun _ h => absurd h e1) (fun _ _ => ⟨z0, by omega, h7, h8, rfl⟩) (by omega)⟩
end Go.Proofs.Ytbfmjknngofleaa
