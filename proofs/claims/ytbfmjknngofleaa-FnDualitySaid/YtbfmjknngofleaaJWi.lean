/- Walks: drawn point maps. -/
import Derived.Test.YtbfmjknngofleaaJWc
import Derived.Test.YtbfmjknngofleaaJAr
namespace Go.Proofs.Ytbfmjknngofleaa
open Go Go.Pv Go.Proofs
attribute [local bitvec_to_nat] St.put St.setObj St.ev killP killA killP1 killH mapHO renP renA ren1 killG killGA killG1 krowP krowA krow1 lendP lendA lend1 unv pinP pin1 elemsM viewM viewN viewV n_set_z n_set_s n_map_c n_map_n getD_z getD_s n_toNat n_cond_t n_cond_f n_len_c n_len_n n_app_c n_app_n n_take_s n_take_z n_drop_s n_drop_z n_get_z n_get_s view viewA view1 elems Nat.zero_add Nat.add_zero Bool.not_true Bool.not_false Nat.one_ne_zero Nat.mul_one

theorem smost_c (a b : Int) : PCalls Try.prog 46 [I a, I b] (I (if b < a then a else b)) := by
  refine pcalls1 Try.func46 rfl Try.ntmps46 rfl ?_
  simp only [List.length_cons, List.length_nil, Nat.reduceAdd, Nat.reduceSub, List.replicate_succ, List.replicate_zero, List.cons_append, List.nil_append]
  by_cases h : b < a
  · rw [if_pos h]
    repeat' (first
| refine g_seq ?_
| refine g_region ?_
| (refine o_go rfl ?_; (first
| refine p_p (ps_move rfl) ?_
| refine p_p (ps_assign rfl) ?_
| refine p_p (ps_gtr rfl rfl rfl) ?_); refine ⟨_, (by dsimp only [bitvec_to_nat, Nat.reduceAdd, Nat.reduceMul, Nat.reduceBEq, reduceCtorEq]), ?_⟩)
| refine o_nil ?_
| (refine g_condD rfl (fun hc => ?_) (fun hc => ?_) <;> try (exfalso; omega))
| refine kr1 ?_
| refine krI rfl ?_
| refine g_ret ?_)
    rfl
  · rw [if_neg h]
    repeat' (first
| refine g_seq ?_
| refine g_region ?_
| (refine o_go rfl ?_; (first
| refine p_p (ps_move rfl) ?_
| refine p_p (ps_assign rfl) ?_
| refine p_p (ps_gtr rfl rfl rfl) ?_); refine ⟨_, (by dsimp only [bitvec_to_nat, Nat.reduceAdd, Nat.reduceMul, Nat.reduceBEq, reduceCtorEq]), ?_⟩)
| refine o_nil ?_
| (refine g_condD rfl (fun hc => ?_) (fun hc => ?_) <;> try (exfalso; omega))
| refine kr1 ?_
| refine krI rfl ?_
| refine g_skip ?_
| refine g_ret ?_)
    rfl
/-- Lists with a length and a range. -/
def inLR (o : List Int) (n : Nat) (k : Int) : Prop := o.length = n ∧ ∀ i, i < o.length → 0 ≤ o.getD i 0 ∧ o.getD i 0 < k
theorem inLR_set {o : List Int} {n : Nat} {k v : Int} (x : Nat) (h : inLR o n k) (hv : 0 ≤ v ∧ v < k) : inLR (o.set x v) n k := by
  refine ⟨by rw [List.length_set]; exact h.1, fun i hi => ?_⟩
  rw [List.length_set] at hi
  have := h.2 i hi
  rw [List.getD_eq_getElem?_getD] at this ⊢
  rw [List.getElem?_set]
  split
  · rename_i e; subst e; rw [if_pos hi]; exact hv
  · exact this
/-- Draws of n numbers below a bound. -/
theorem draw_list {c : Cu} {M : Int} (h : c.ok M) (hM : M ≤ 800000) (n : Nat) (hn : n ≤ 1000) (k : Int) (hk : 1 ≤ k) (hk2 : k ≤ 1000) :
    ∃ F : Nat → Cu × List Int, F 0 = (c, []) ∧ (∀ i, i ≤ n → (F i).1.ok (M + 2 * (i : Int)) ∧ inLR (F i).2 i k) ∧ ∀ i, i < n → ∃ x, 0 ≤ x ∧ x < k ∧ LCalls Try.prog 45 (cuB (F i).1) [.hat 0 0, I k] (cuB (F (i + 1)).1) (I x) ∧ (F (i + 1)).2 = (F i).2 ++ [x] := by
  refine seq_of (fun i s => s.1.ok (M + 2 * (i : Int)) ∧ inLR s.2 i k) (fun i s s' => ∃ x, 0 ≤ x ∧ x < k ∧ LCalls Try.prog 45 (cuB s.1) [.hat 0 0, I k] (cuB s'.1) (I x) ∧ s'.2 = s.2 ++ [x]) (c, []) n ⟨by simpa using h, rfl, fun i hi => by simp at hi⟩ fun i s hi ⟨h1, h2⟩ => ?_
  obtain ⟨c', x, k1, x0, x1, hc⟩ := pick_L h1 (by omega) k (by omega)
  refine ⟨(c', s.2 ++ [x]), ⟨by rw [show M + 2 * ((i + 1 : Nat) : Int) = M + 2 * (i : Int) + 2 by omega]; exact k1, by simp [h2.1], fun j hj => ?_⟩, x, x0, by omega, hc, rfl⟩
  simp only [List.length_append, List.length_singleton] at hj
  rw [List.getD_eq_getElem?_getD]
  by_cases hjl : j < s.2.length
  · rw [List.getElem?_append_left hjl, ← List.getD_eq_getElem?_getD]; exact h2.2 j hjl
  · rw [List.getElem?_append_right (by omega), show j - s.2.length = 0 by omega]
    simp
    omega
/-- One pair of points put right. -/
def fixY (P Q : List (List Int)) (x y : Nat) (o : List Int) : List Int := if (leqB P (x : Int) (y : Int) && !leqB Q (o.getD x 0) (o.getD y 0)) = true then o.set x (o.getD y 0) else o
theorem fixY_in {P Q : List (List Int)} {x y n : Nat} {k : Int} {o : List Int} (h : inLR o n k) (hy : y < n) : inLR (fixY P Q x y o) n k := by
  unfold fixY
  split
  · exact inLR_set x h (h.2 y (by rw [h.1]; exact hy))
  · exact h
def fixX (P Q : List (List Int)) (x : Nat) (o : List Int) (k : Nat) : List Int := runW (fun y o => fixY P Q x y o) o k
def fixN (P Q : List (List Int)) (n : Nat) (o : List Int) (k : Nat) : List Int := runW (fun x o => fixX P Q x o n) o k
def fixA (P Q : List (List Int)) (n : Nat) (o : List Int) (k : Nat) : List Int := runW (fun _ o => fixN P Q n o n) o k
theorem fixX_in {P Q : List (List Int)} {x n : Nat} {k : Int} {o : List Int} (h : inLR o n k) : ∀ j, j ≤ n → inLR (fixX P Q x o j) n k
  | 0, _ => h
  | j + 1, hj => fixY_in (fixX_in h j (by omega)) (by omega)
theorem fixN_in {P Q : List (List Int)} {n : Nat} {k : Int} {o : List Int} (h : inLR o n k) : ∀ j, inLR (fixN P Q n o j) n k
  | 0 => h
  | j + 1 => fixX_in (fixN_in h j) n (Nat.le_refl _)
theorem fixA_in {P Q : List (List Int)} {n : Nat} {k : Int} {o : List Int} (h : inLR o n k) : ∀ j, inLR (fixA P Q n o j) n k
  | 0 => h
  | j + 1 => fixN_in (fixA_in h j) n
set_option maxHeartbeats 4000000 in
set_option maxRecDepth 100000 in
theorem points_w0 {c : Cu} {p q : List (List Int)} (hp : okP p) (hq : okP q) (hg : (goodL p && goodL q) = false) : LCalls Try.prog 35 (cuB c) [.hat 0 0, posetP p, posetP q] (cuB c) (ints []) := by
  refine pcallsL1 Try.func35 rfl Try.ntmps35 rfl rfl rfl (by simp) fun b d => ?_
  simp only [List.length_cons, List.length_nil, Nat.reduceAdd, Nat.reduceSub, List.replicate_succ, List.replicate_zero]
  have a1 := goodL_c p hp
  have a2 := goodL_c q hq
  cases h1 : goodL p with
  | false =>
    rw [h1] at a1
    repeat' (first
| refine g_seq ?_
| refine g_region ?_
| (refine o_go rfl ?_; (first
| refine p_e rfl (e_lit0T rfl (by decide)) ?_
| refine p_p (ps_call rfl rfl (by (repeat (first | refine ⟨PV.le_refl _, ?_⟩ | refine ⟨PV.le_nn _ _ _, ?_⟩ | refine ⟨PV.le_nil _, ?_⟩ | refine ⟨PV.le_any _, ?_⟩)); exact trivial) (a1)) ?_
| refine p_p (ps_move rfl) ?_
| refine p_p (ps_assign rfl) ?_
| refine p_p (ps_load_agg rfl rfl (by exact Nat.le_of_ble_eq_true rfl)) ?_
| refine p_p (ps_not rfl rfl) ?_
| refine p_p (ps_pick rfl rfl) ?_
| refine p_p (ps_box rfl rfl) ?_); refine ⟨_, (by dsimp only [bitvec_to_nat, Nat.reduceAdd, Nat.reduceMul, Nat.reduceBEq, reduceCtorEq]), ?_⟩)
| refine o_nil ?_
| (refine o_s rfl ?_; refine ⟨_, (by dsimp only [bitvec_to_nat, Nat.reduceAdd, Nat.reduceMul, Nat.reduceBEq, reduceCtorEq]), ?_⟩)
| refine g_condT rfl ?_
| refine g_ret ?_)
    exact krlh 0 0 rfl rfl rfl (krS rfl rfl)
  | true =>
    rw [h1, Bool.true_and] at hg
    rw [h1] at a1
    rw [hg] at a2
    repeat' (first
| refine g_seq ?_
| refine g_region ?_
| (refine o_go rfl ?_; (first
| refine p_e rfl (e_lit0T rfl (by decide)) ?_
| refine p_p (ps_call rfl rfl (by (repeat (first | refine ⟨PV.le_refl _, ?_⟩ | refine ⟨PV.le_nn _ _ _, ?_⟩ | refine ⟨PV.le_nil _, ?_⟩ | refine ⟨PV.le_any _, ?_⟩)); exact trivial) (a1)) ?_
| refine p_p (ps_call rfl rfl (by (repeat (first | refine ⟨PV.le_refl _, ?_⟩ | refine ⟨PV.le_nn _ _ _, ?_⟩ | refine ⟨PV.le_nil _, ?_⟩ | refine ⟨PV.le_any _, ?_⟩)); exact trivial) (a2)) ?_
| refine p_p (ps_move rfl) ?_
| refine p_p (ps_assign rfl) ?_
| refine p_p (ps_load_agg rfl rfl (by exact Nat.le_of_ble_eq_true rfl)) ?_
| refine p_p (ps_not rfl rfl) ?_
| refine p_p (ps_pick rfl rfl) ?_
| refine p_p (ps_box rfl rfl) ?_); refine ⟨_, (by dsimp only [bitvec_to_nat, Nat.reduceAdd, Nat.reduceMul, Nat.reduceBEq, reduceCtorEq]), ?_⟩)
| refine o_nil ?_
| refine g_condT rfl ?_
| refine g_ret ?_)
    exact krlh 0 0 rfl rfl rfl (krS rfl rfl)
set_option maxHeartbeats 4000000 in
set_option maxRecDepth 100000 in
theorem points_w {c c5 c6 c7 c' : Cu} {p q : List (List Int)} {n : Nat} {b5 : Bool} {y z v : Int} {o5 o' : List Int} {F : Nat → Cu × List Int} (hp : okP p) (hq : okP q) (hg : goodL p = true) (hgq : goodL q = true) (hn : n = (ptsL p).length) (F0 : F 0 = (c, []))
    (F1 : ∀ i, i ≤ n → inLR (F i).2 i (if ((irrL q).length : Int) < 1 then 1 else ((irrL q).length : Int))) (F2 : ∀ i, i < n → ∃ x, 0 ≤ x ∧ x < (if ((irrL q).length : Int) < 1 then 1 else ((irrL q).length : Int)) ∧ LCalls Try.prog 45 (cuB (F i).1) [.hat 0 0, I (if ((irrL q).length : Int) < 1 then 1 else ((irrL q).length : Int))] (cuB (F (i + 1)).1) (I x) ∧ (F (i + 1)).2 = (F i).2 ++ [x])
    (h5 : 0 < (irrL q).length → LCalls Try.prog 41 (cuB (F n).1) [.hat 0 0, I 4] (cuB c5) (B b5)) (h5' : ¬ 0 < (irrL q).length → c5 = (F n).1 ∧ b5 = true) (ho1 : b5 = false → o5 = fixA (ptsL p) (ptsL q) n (F n).2 10) (ho2 : b5 = true → o5 = (F n).2) (hol : o5.length = n)
    (h6 : LCalls Try.prog 45 (cuB c5) [.hat 0 0, I 32] (cuB c6) (I y)) (l0 : y = 0 → c' = c6 ∧ o' = o5 ++ [0]) (l1 : y ≠ 0 → (y ≠ 1 ∨ o5.length = 0) → c' = c6 ∧ o' = o5)
    (l2 : y = 1 → 0 < o5.length → 0 ≤ z ∧ z < (o5.length : Int) ∧ LCalls Try.prog 45 (cuB c6) [.hat 0 0, I (o5.length : Int)] (cuB c7) (I z) ∧ LCalls Try.prog 48 (cuB c7) [.hat 0 0, ints [-1, ((irrL q).length : Int), 0]] (cuB c') (I v) ∧ o' = o5.set z.toNat v) :
    LCalls Try.prog 35 (cuB c) [.hat 0 0, posetP p, posetP q] (cuB c') (ints o') := by
  have hil := irrL_len p
  have hiq := irrL_len q
  have h10 := good_10L hg
  have h10q := good_10L hgq
  have hpl := length_pts p
  have hql := length_pts q
  refine pcallsL1 Try.func35 rfl Try.ntmps35 rfl rfl rfl (by simp) fun b d => ?_
  simp only [List.length_cons, List.length_nil, Nat.reduceAdd, Nat.reduceSub, List.replicate_succ, List.replicate_zero]
  have a1 := goodL_c p hp
  have a2 := goodL_c q hq
  rw [hg] at a1
  rw [hgq] at a2
  have a3 := sirr_c q hq
  have a4 := spts_c p hp
  have a5 := smost_c 1 ((irrL q).length : Int)
  repeat' (first
| refine g_seq ?_
| refine g_block ?_
| refine g_region ?_
| (refine o_go rfl ?_; (first
| refine p_e rfl (e_lit0T rfl (by decide)) ?_
| refine p_p (ps_call rfl rfl (by (repeat (first | refine ⟨PV.le_refl _, ?_⟩ | refine ⟨PV.le_nn _ _ _, ?_⟩ | refine ⟨PV.le_nil _, ?_⟩ | refine ⟨PV.le_any _, ?_⟩)); exact trivial) (a1)) ?_
| refine p_p (ps_call rfl rfl (by (repeat (first | refine ⟨PV.le_refl _, ?_⟩ | refine ⟨PV.le_nn _ _ _, ?_⟩ | refine ⟨PV.le_nil _, ?_⟩ | refine ⟨PV.le_any _, ?_⟩)); exact trivial) (a2)) ?_
| refine p_p (ps_call rfl rfl (by (repeat (first | refine ⟨PV.le_refl _, ?_⟩ | refine ⟨PV.le_nn _ _ _, ?_⟩ | refine ⟨PV.le_nil _, ?_⟩ | refine ⟨PV.le_any _, ?_⟩)); exact trivial) (a3)) ?_
| refine p_p (ps_call rfl rfl (by (repeat (first | refine ⟨PV.le_refl _, ?_⟩ | refine ⟨PV.le_nn _ _ _, ?_⟩ | refine ⟨PV.le_nil _, ?_⟩ | refine ⟨PV.le_any _, ?_⟩)); exact trivial) (a4)) ?_
| refine p_p (ps_move rfl) ?_
| refine p_p (ps_assign rfl) ?_
| refine p_p (ps_load_agg rfl rfl (by exact Nat.le_of_ble_eq_true rfl)) ?_
| refine p_p (ps_lenM rfl rfl rfl) ?_
| refine p_p (ps_not rfl rfl) ?_
| refine p_p (ps_pick rfl rfl) ?_
| refine p_e rfl (e_store_boxA rfl rfl rfl rfl (by exact Nat.le_of_ble_eq_true rfl) rfl rfl rfl) ?_
| refine p_e rfl (e_alloc rfl) ?_
| refine p_p (ps_box rfl rfl) ?_); refine ⟨_, (by dsimp only [bitvec_to_nat, Nat.reduceAdd, Nat.reduceMul, Nat.reduceBEq, reduceCtorEq]), ?_⟩)
| refine o_nil ?_
| refine g_condF rfl ?_
| refine g_skip ?_)
  refine g_loopF (α := Nat) [15] (fun i => [(7, .hp 1), (10, I (i : Int))]) (fun i => [cuB (F i).1, .arr true 1 3 ((F i).2.map I), .box [intss (ptsL p)]]) (fun i => i ≤ n) (fun i => n - i) 0 (by simp only [havoc, dsts, List.filterMap_cons, List.filterMap_nil, List.foldl_cons, List.foldl_nil, List.cons_append, List.nil_append, List.append_nil, List.set_cons_succ, List.set_cons_zero]; exact rfl) (Nat.zero_le _) ⟨rfl, rfl, trivial⟩ (by rw [F0]; rfl) ?_
  rintro i hi
  dsimp only [setMany, List.set_cons_zero, List.set_cons_succ]
  have hfl : ((F i).2.map I).length = i := by rw [List.length_map]; exact (F1 i hi).1
  by_cases hin : i < n
  · obtain ⟨x, x0, x1, hpk, hF⟩ := F2 i hin
    repeat' (first
| refine g_seq ?_
| refine g_block ?_
| refine g_region ?_
| (refine o_go rfl ?_; (first
| refine p_p (ps_call rfl rfl (by (repeat (first | refine ⟨PV.le_refl _, ?_⟩ | refine ⟨PV.le_nn _ _ _, ?_⟩ | refine ⟨PV.le_nil _, ?_⟩ | refine ⟨PV.le_any _, ?_⟩)); exact trivial) (a5)) ?_
| refine p_e rfl (e_callL (n := 0) rfl rfl rfl (by (repeat (first | refine ⟨leS_refl _, ?_⟩ | refine ⟨leS_nn _ _ _, ?_⟩ | refine ⟨leS_nil _, ?_⟩ | refine ⟨leS_any _, ?_⟩)); exact trivial) rfl (by rfl) (by first | exact ⟨rfl, rfl, rfl, by simp⟩ | exact ⟨rfl, rfl, by simp⟩ | trivial) (hpk)) ?_
| refine p_e rfl (e_append rfl rfl rfl rfl rfl rfl (one_one rfl) rfl (by rw [n_len_c, n_len_n]; omega) (by rw [n_len_c, n_len_n]; omega)) ?_
| refine p_p (ps_move rfl) ?_
| refine p_p (ps_assign rfl) ?_
| refine p_p (ps_lenM rfl rfl rfl) ?_
| refine p_p (ps_lss rfl rfl rfl) ?_
| refine p_p (ps_add rfl rfl rfl (by constructor <;> omega)) ?_
| refine p_p (ps_load_box rfl rfl rfl rfl) ?_
| refine p_p (ps_fieldAddr_hat rfl rfl) ?_
| refine p_p (ps_lit1 rfl rfl (by rfl) (by rfl)) ?_); refine ⟨_, (by dsimp only [bitvec_to_nat, Nat.reduceAdd, Nat.reduceMul, Nat.reduceBEq, reduceCtorEq]), ?_⟩)
| refine o_nil ?_
| (refine g_condD rfl (fun hc => ?_) (fun hc => ?_) <;> try (exfalso; omega))
| refine g_skip ?_)
    all_goals try (exfalso; omega)
    refine k_round (i + 1) (by omega) (by omega) (by repeat (first | exact trivial | refine ⟨.inl rfl, ?_⟩ | refine ⟨.inr rfl, ?_⟩)) ⟨rfl, rfl, trivial⟩ (hpLe_cons rfl (hpLe_cons ?_ (hpLe_cons rfl (hpLe_nil _))))
    rw [hF, List.map_append]; rfl
  have hie : i = n := by omega
  subst hie
  repeat' ((fail_if_success (refine at_reg 10 ?_)); (first
| refine g_seq ?_
| refine g_region ?_
| (refine o_go rfl ?_; (first
| refine p_p (ps_move rfl) ?_
| refine p_p (ps_lenM rfl rfl rfl) ?_
| refine p_p (ps_lss rfl rfl rfl) ?_
| refine p_p (ps_load_box rfl rfl rfl rfl) ?_
| refine p_p (ps_fieldAddr_hat rfl rfl) ?_); refine ⟨_, (by dsimp only [bitvec_to_nat, Nat.reduceAdd, Nat.reduceMul, Nat.reduceBEq, reduceCtorEq]), ?_⟩)
| refine o_nil ?_
| (refine g_condD rfl (fun hc => ?_) (fun hc => ?_) <;> try (exfalso; omega))
| refine g_exit ?_))
  refine g_join [] [] [cuB c5, .arr true 1 3 (o5.map I), .box [intss (ptsL p)]] (by simp only [havoc, dsts, List.filterMap_cons, List.filterMap_nil, List.foldl_cons, List.foldl_nil, List.cons_append, List.nil_append, List.append_nil, List.set_cons_succ, List.set_cons_zero]; exact rfl) ?_ ⟨_, rfl, ?_⟩
  · by_cases hto : 0 < (irrL q).length
    · have h5 := h5 hto
      cases b5 with
      | true =>
        have ho2 := ho2 rfl
        repeat' (first
| refine g_seq ?_
| refine g_region ?_
| (refine o_go rfl ?_; (first
| refine p_e rfl (e_callL (n := 0) rfl rfl rfl (by (repeat (first | refine ⟨leS_refl _, ?_⟩ | refine ⟨leS_nn _ _ _, ?_⟩ | refine ⟨leS_nil _, ?_⟩ | refine ⟨leS_any _, ?_⟩)); exact trivial) rfl (by rfl) (by first | exact ⟨rfl, rfl, rfl, by simp⟩ | exact ⟨rfl, rfl, by simp⟩ | trivial) (h5)) ?_
| refine p_p (ps_move rfl) ?_
| refine p_p (ps_not rfl rfl) ?_
| refine p_p (ps_pick rfl rfl) ?_
| refine p_p (ps_gtr rfl rfl rfl) ?_); refine ⟨_, (by dsimp only [bitvec_to_nat, Nat.reduceAdd, Nat.reduceMul, Nat.reduceBEq, reduceCtorEq]), ?_⟩)
| refine o_nil ?_
| (refine o_splitD rfl rfl rfl (fun hc => ?_) (fun hc => ?_) <;> first | (exfalso; omega) | dsimp only [List.set_cons_zero, List.set_cons_succ])
| refine g_condF rfl ?_
| refine g_skip ?_)
        all_goals try (exfalso; omega)
        refine k_join (by repeat (first | exact trivial | refine ⟨.inl rfl, ?_⟩ | refine ⟨.inr rfl, ?_⟩)) trivial (hpLe_cons rfl (hpLe_cons ?_ (hpLe_cons rfl (hpLe_nil _))))
        rw [ho2]
      | false =>
        have ho1 := ho1 rfl
        have a6 := spts_c q hq
        have hFi := F1 i hi
        rw [if_neg (by omega)] at hFi
        generalize hP : ptsL p = P at *
        generalize hQ : ptsL q = Q at *
        have hPok : okP P := by rw [← hP]; exact okP_pts hp
        have hQok : okP Q := by rw [← hQ]; exact okP_pts hq
        generalize hf0 : (F i).2 = f0 at *
        repeat' (first
| refine g_seq ?_
| refine g_block ?_
| refine g_region ?_
| (refine o_go rfl ?_; (first
| refine p_e rfl (e_callL (n := 0) rfl rfl rfl (by (repeat (first | refine ⟨leS_refl _, ?_⟩ | refine ⟨leS_nn _ _ _, ?_⟩ | refine ⟨leS_nil _, ?_⟩ | refine ⟨leS_any _, ?_⟩)); exact trivial) rfl (by rfl) (by first | exact ⟨rfl, rfl, rfl, by simp⟩ | exact ⟨rfl, rfl, by simp⟩ | trivial) (h5)) ?_
| refine p_p (ps_call rfl rfl (by (repeat (first | refine ⟨PV.le_refl _, ?_⟩ | refine ⟨PV.le_nn _ _ _, ?_⟩ | refine ⟨PV.le_nil _, ?_⟩ | refine ⟨PV.le_any _, ?_⟩)); exact trivial) (a6)) ?_
| refine p_p (ps_move rfl) ?_
| refine p_p (ps_assign rfl) ?_
| refine p_p (ps_load_agg rfl rfl (by exact Nat.le_of_ble_eq_true rfl)) ?_
| refine p_p (ps_not rfl rfl) ?_
| refine p_p (ps_pick rfl rfl) ?_
| refine p_p (ps_gtr rfl rfl rfl) ?_
| refine p_e rfl (e_store_boxA rfl rfl rfl rfl (by exact Nat.le_of_ble_eq_true rfl) rfl rfl rfl) ?_
| refine p_e rfl (e_alloc rfl) ?_); refine ⟨_, (by dsimp only [bitvec_to_nat, Nat.reduceAdd, Nat.reduceMul, Nat.reduceBEq, reduceCtorEq]), ?_⟩)
| refine o_nil ?_
| (refine o_splitD rfl rfl rfl (fun hc => ?_) (fun hc => ?_) <;> first | (exfalso; omega) | dsimp only [List.set_cons_zero, List.set_cons_succ])
| refine g_condT rfl ?_)
        all_goals try (exfalso; omega)
        refine g_loopT (α := Nat) (fun k => [(12, I (k : Int))]) (fun k => [cuB c5, .arr true 1 3 ((fixA P Q i f0 k).map I), .box [intss P], .box [intss Q]]) (fun k => k ≤ 10) (fun k => 10 - k) 0 (by simp only [havoc, dsts, List.filterMap_cons, List.filterMap_nil, List.foldl_cons, List.foldl_nil, List.cons_append, List.nil_append, List.append_nil, List.set_cons_succ, List.set_cons_zero]; exact rfl) (Nat.zero_le _) ⟨rfl, trivial⟩ rfl ?_
        rintro k hk
        dsimp only [setMany, List.set_cons_zero, List.set_cons_succ]
        by_cases hk1 : k < 10
        · repeat' (first
| refine g_seq ?_
| refine g_block ?_
| refine g_region ?_
| (refine o_go rfl ?_; (first
| refine p_p (ps_move rfl) ?_
| refine p_p (ps_assign rfl) ?_
| refine p_p (ps_lss rfl rfl rfl) ?_); refine ⟨_, (by dsimp only [bitvec_to_nat, Nat.reduceAdd, Nat.reduceMul, Nat.reduceBEq, reduceCtorEq]), ?_⟩)
| refine o_nil ?_
| (refine g_condD rfl (fun hc => ?_) (fun hc => ?_) <;> try (exfalso; omega))
| refine g_skip ?_)
          have hA := fixA_in (P := P) (Q := Q) hFi k
          generalize hfa : fixA P Q i f0 k = fa at *
          refine g_loopT (α := Nat) (fun x => [(13, I (x : Int))]) (fun x => [cuB c5, .arr true 1 3 ((fixN P Q i fa x).map I), .box [intss P], .box [intss Q]]) (fun x => x ≤ i) (fun x => i - x) 0 (by simp only [havoc, dsts, List.filterMap_cons, List.filterMap_nil, List.foldl_cons, List.foldl_nil, List.cons_append, List.nil_append, List.append_nil, List.set_cons_succ, List.set_cons_zero]; exact rfl) (Nat.zero_le _) ⟨rfl, trivial⟩ rfl ?_
          rintro x hx
          dsimp only [setMany, List.set_cons_zero, List.set_cons_succ]
          have hNn := fixN_in (P := P) (Q := Q) hA x
          have hNl : ((fixN P Q i fa x).map I).length = i := by rw [List.length_map]; exact hNn.1
          by_cases hx1 : x < i
          · repeat' (first
| refine g_seq ?_
| refine g_block ?_
| refine g_region ?_
| (refine o_go rfl ?_; (first
| refine p_p (ps_move rfl) ?_
| refine p_p (ps_assign rfl) ?_
| refine p_p (ps_lss rfl rfl rfl) ?_
| refine p_p (ps_len_mut rfl rfl rfl rfl) ?_); refine ⟨_, (by dsimp only [bitvec_to_nat, Nat.reduceAdd, Nat.reduceMul, Nat.reduceBEq, reduceCtorEq]), ?_⟩)
| refine o_nil ?_
| (refine g_condD rfl (fun hc => ?_) (fun hc => ?_) <;> try (exfalso; omega))
| refine g_skip ?_)
            all_goals try (exfalso; omega)
            generalize hfn : fixN P Q i fa x = fn at *
            refine g_loopT (α := Nat) (fun y => [(14, I (y : Int))]) (fun y => [cuB c5, .arr true 1 3 ((fixX P Q x fn y).map I), .box [intss P], .box [intss Q]]) (fun y => y ≤ i) (fun y => i - y) 0 (by simp only [havoc, dsts, List.filterMap_cons, List.filterMap_nil, List.foldl_cons, List.foldl_nil, List.cons_append, List.nil_append, List.append_nil, List.set_cons_succ, List.set_cons_zero]; exact rfl) (Nat.zero_le _) ⟨rfl, trivial⟩ rfl ?_
            rintro w hw
            dsimp only [setMany, List.set_cons_zero, List.set_cons_succ]
            have hXn := fixX_in (P := P) (Q := Q) (x := x) hNn w hw
            have hXl : ((fixX P Q x fn w).map I).length = i := by rw [List.length_map]; exact hXn.1
            by_cases hw1 : w < i
            · have hsuc : fixX P Q x fn (w + 1) = fixY P Q x w (fixX P Q x fn w) := rfl
              generalize hfx : fixX P Q x fn w = fx at *
              have hox := hXn.2 x (by rw [hXn.1]; exact hx1)
              have how := hXn.2 w (by rw [hXn.1]; exact hw1)
              have hfxl := hXn.1
              have i1 : (fx.map I)[x * 1]? = some (I (fx.getD x 0)) := by rw [Nat.mul_one]; exact idx_I (by omega)
              have i2 : (fx.map I)[w * 1]? = some (I (fx.getD w 0)) := by rw [Nat.mul_one]; exact idx_I (by omega)
              have q1 := leq_c P (x : Int) (w : Int) hPok (by omega) (by omega)
              have q2 := leq_c Q (fx.getD x 0) (fx.getD w 0) hQok (by omega) (by omega)
              unfold fixY at hsuc
              cases hb1 : leqB P (x : Int) (w : Int) with
              | false =>
                rw [hb1] at q1 hsuc
                repeat' (first
| refine g_seq ?_
| refine g_block ?_
| refine g_region ?_
| refine g_region_draw (by kernel_rfl) (by kernel_rfl) ?_
| (refine o_go rfl ?_; (first
| refine p_p (ps_call rfl rfl (by (repeat (first | refine ⟨PV.le_refl _, ?_⟩ | refine ⟨PV.le_nn _ _ _, ?_⟩ | refine ⟨PV.le_nil _, ?_⟩ | refine ⟨PV.le_any _, ?_⟩)); exact trivial) (q1)) ?_
| refine p_p (ps_move rfl) ?_
| refine p_p (ps_assign rfl) ?_
| refine p_p (ps_lss rfl rfl rfl) ?_
| refine p_p (ps_add rfl rfl rfl (by constructor <;> omega)) ?_
| refine p_p (ps_pick rfl rfl) ?_
| refine p_p (ps_len_mut rfl rfl rfl rfl) ?_
| refine p_p (ps_load_boxA rfl rfl rfl (by exact Nat.le_of_ble_eq_true rfl)) ?_); refine ⟨_, (by dsimp only [bitvec_to_nat, Nat.reduceAdd, Nat.reduceMul, Nat.reduceBEq, reduceCtorEq]), ?_⟩)
| refine o_nil ?_
| (refine o_s rfl ?_; refine ⟨_, (by dsimp only [bitvec_to_nat, Nat.reduceAdd, Nat.reduceMul, Nat.reduceBEq, reduceCtorEq]), ?_⟩)
| refine g_condF rfl ?_
| (refine g_condD rfl (fun hc => ?_) (fun hc => ?_) <;> try (exfalso; omega))
| refine g_skip ?_)
                all_goals try (exfalso; omega)
                refine k_round (w + 1) (by omega) (by omega) (by repeat (first | exact trivial | refine ⟨.inl rfl, ?_⟩ | refine ⟨.inr rfl, ?_⟩)) ⟨rfl, trivial⟩ (hpLe_cons rfl (hpLe_cons ?_ (hpLe_cons rfl (hpLe_cons rfl (hpLe_nil _)))))
                rw [hsuc]; rfl
              | true =>
                rw [hb1] at q1 hsuc
                cases hb2 : leqB Q (fx.getD x 0) (fx.getD w 0) with
                | true =>
                  rw [hb2] at q2 hsuc
                  repeat' (first
| refine g_seq ?_
| refine g_block ?_
| refine g_region ?_
| refine g_region_draw (by kernel_rfl) (by kernel_rfl) ?_
| (refine o_go rfl ?_; (first
| refine p_p (ps_call rfl rfl (by (repeat (first | refine ⟨PV.le_refl _, ?_⟩ | refine ⟨PV.le_nn _ _ _, ?_⟩ | refine ⟨PV.le_nil _, ?_⟩ | refine ⟨PV.le_any _, ?_⟩)); exact trivial) (q1)) ?_
| refine p_p (ps_call rfl rfl (by (repeat (first | refine ⟨PV.le_refl _, ?_⟩ | refine ⟨PV.le_nn _ _ _, ?_⟩ | refine ⟨PV.le_nil _, ?_⟩ | refine ⟨PV.le_any _, ?_⟩)); exact trivial) (q2)) ?_
| refine p_p (ps_index_mut rfl rfl rfl rfl (by omega) (by omega)) ?_
| refine p_p (ps_load_arr rfl rfl rfl (by exact i1) rfl) ?_
| refine p_p (ps_load_arr rfl rfl rfl (by exact i2) rfl) ?_
| refine p_p (ps_move rfl) ?_
| refine p_p (ps_assign rfl) ?_
| refine p_p (ps_lss rfl rfl rfl) ?_
| refine p_p (ps_add rfl rfl rfl (by constructor <;> omega)) ?_
| refine p_p (ps_not rfl rfl) ?_
| refine p_p (ps_pick rfl rfl) ?_
| refine p_p (ps_len_mut rfl rfl rfl rfl) ?_
| refine p_p (ps_load_boxA rfl rfl rfl (by exact Nat.le_of_ble_eq_true rfl)) ?_); refine ⟨_, (by dsimp only [bitvec_to_nat, Nat.reduceAdd, Nat.reduceMul, Nat.reduceBEq, reduceCtorEq]), ?_⟩)
| refine o_nil ?_
| refine g_condF rfl ?_
| (refine g_condD rfl (fun hc => ?_) (fun hc => ?_) <;> try (exfalso; omega))
| refine g_skip ?_)
                  all_goals try (exfalso; omega)
                  refine k_round (w + 1) (by omega) (by omega) (by repeat (first | exact trivial | refine ⟨.inl rfl, ?_⟩ | refine ⟨.inr rfl, ?_⟩)) ⟨rfl, trivial⟩ (hpLe_cons rfl (hpLe_cons ?_ (hpLe_cons rfl (hpLe_cons rfl (hpLe_nil _)))))
                  rw [hsuc]; rfl
                | false =>
                  rw [hb2] at q2 hsuc
                  repeat' (first
| refine g_seq ?_
| refine g_block ?_
| refine g_region ?_
| refine g_region_draw (by kernel_rfl) (by kernel_rfl) ?_
| (refine o_go rfl ?_; (first
| refine p_p (ps_call rfl rfl (by (repeat (first | refine ⟨PV.le_refl _, ?_⟩ | refine ⟨PV.le_nn _ _ _, ?_⟩ | refine ⟨PV.le_nil _, ?_⟩ | refine ⟨PV.le_any _, ?_⟩)); exact trivial) (q1)) ?_
| refine p_p (ps_call rfl rfl (by (repeat (first | refine ⟨PV.le_refl _, ?_⟩ | refine ⟨PV.le_nn _ _ _, ?_⟩ | refine ⟨PV.le_nil _, ?_⟩ | refine ⟨PV.le_any _, ?_⟩)); exact trivial) (q2)) ?_
| refine p_p (ps_index_mut rfl rfl rfl rfl (by omega) (by omega)) ?_
| refine p_p (ps_load_arr rfl rfl rfl (by exact i1) rfl) ?_
| refine p_p (ps_load_arr rfl rfl rfl (by exact i2) rfl) ?_
| refine p_e (by kernel_rfl) (e_store_arr rfl rfl rfl rfl (by omega) rfl rfl) ?_
| refine p_p (ps_move rfl) ?_
| refine p_p (ps_assign rfl) ?_
| refine p_p (ps_lss rfl rfl rfl) ?_
| refine p_p (ps_add rfl rfl rfl (by constructor <;> omega)) ?_
| refine p_p (ps_not rfl rfl) ?_
| refine p_p (ps_pick rfl rfl) ?_
| refine p_p (ps_len_mut rfl rfl rfl rfl) ?_
| refine p_p (ps_load_boxA rfl rfl rfl (by exact Nat.le_of_ble_eq_true rfl)) ?_); refine ⟨_, (by dsimp only [bitvec_to_nat, Nat.reduceAdd, Nat.reduceMul, Nat.reduceBEq, reduceCtorEq]), ?_⟩)
| refine o_nil ?_
| refine g_condT rfl ?_
| (refine g_condD rfl (fun hc => ?_) (fun hc => ?_) <;> try (exfalso; omega))
| refine g_skip ?_)
                  all_goals try (exfalso; omega)
                  refine k_round (w + 1) (by omega) (by omega) (by repeat (first | exact trivial | refine ⟨.inl rfl, ?_⟩ | refine ⟨.inr rfl, ?_⟩)) ⟨rfl, trivial⟩ (hpLe_cons rfl (hpLe_cons ?_ (hpLe_cons rfl (hpLe_cons rfl (hpLe_nil _)))))
                  rw [hsuc, if_pos (show (true && !false) = true from rfl), Nat.mul_one, List.map_set]
            · repeat' (first
| refine g_seq ?_
| refine g_region ?_
| (refine o_go rfl ?_; (first
| refine p_p (ps_move rfl) ?_
| refine p_p (ps_assign rfl) ?_
| refine p_p (ps_lss rfl rfl rfl) ?_
| refine p_p (ps_add rfl rfl rfl (by constructor <;> omega)) ?_
| refine p_p (ps_len_mut rfl rfl rfl rfl) ?_); refine ⟨_, (by dsimp only [bitvec_to_nat, Nat.reduceAdd, Nat.reduceMul, Nat.reduceBEq, reduceCtorEq]), ?_⟩)
| refine o_nil ?_
| (refine g_condD rfl (fun hc => ?_) (fun hc => ?_) <;> try (exfalso; omega))
| refine g_exit ?_)
              all_goals try (exfalso; omega)
              refine k_round (x + 1) (by omega) (by omega) (by repeat (first | exact trivial | refine ⟨.inl rfl, ?_⟩ | refine ⟨.inr rfl, ?_⟩)) ⟨rfl, trivial⟩ (hpLe_cons rfl (hpLe_cons ?_ (hpLe_cons rfl (hpLe_cons rfl (hpLe_nil _)))))
              rw [show w = i by omega, ← hfn]; rfl
          · repeat' (first
| refine g_seq ?_
| refine g_region ?_
| (refine o_go rfl ?_; (first
| refine p_p (ps_move rfl) ?_
| refine p_p (ps_assign rfl) ?_
| refine p_p (ps_lss rfl rfl rfl) ?_
| refine p_p (ps_add rfl rfl rfl (by constructor <;> omega)) ?_
| refine p_p (ps_len_mut rfl rfl rfl rfl) ?_); refine ⟨_, (by dsimp only [bitvec_to_nat, Nat.reduceAdd, Nat.reduceMul, Nat.reduceBEq, reduceCtorEq]), ?_⟩)
| refine o_nil ?_
| (refine g_condD rfl (fun hc => ?_) (fun hc => ?_) <;> try (exfalso; omega))
| refine g_exit ?_)
            all_goals try (exfalso; omega)
            refine k_round (k + 1) (by omega) (by omega) (by repeat (first | exact trivial | refine ⟨.inl rfl, ?_⟩ | refine ⟨.inr rfl, ?_⟩)) ⟨rfl, trivial⟩ (hpLe_cons rfl (hpLe_cons ?_ (hpLe_cons rfl (hpLe_cons rfl (hpLe_nil _)))))
            rw [show x = i by omega, ← hfa]; rfl
        · repeat' (first
| refine g_seq ?_
| refine g_region ?_
| (refine o_go rfl ?_; (first
| refine p_p (ps_move rfl) ?_
| refine p_p (ps_lss rfl rfl rfl) ?_); refine ⟨_, (by dsimp only [bitvec_to_nat, Nat.reduceAdd, Nat.reduceMul, Nat.reduceBEq, reduceCtorEq]), ?_⟩)
| refine o_nil ?_
| (refine g_condD rfl (fun hc => ?_) (fun hc => ?_) <;> try (exfalso; omega))
| refine g_exit ?_)
          all_goals try (exfalso; omega)
          change St.le _ _
          refine k_joinL (vals := []) (by repeat (first | exact trivial | refine ⟨.inl rfl, ?_⟩ | refine ⟨.inr rfl, ?_⟩)) trivial (hpLe_cons rfl (hpLe_cons ?_ (hpLe_cons rfl (hpLe_nil _))))
          rw [show k = 10 by omega, ho1]
    · obtain ⟨rfl, rfl⟩ := h5' hto
      have ho2 := ho2 rfl
      repeat' (first
| refine g_seq ?_
| refine g_region ?_
| (refine o_go rfl ?_; (first
| refine p_p (ps_move rfl) ?_
| refine p_p (ps_pick rfl rfl) ?_
| refine p_p (ps_gtr rfl rfl rfl) ?_); refine ⟨_, (by dsimp only [bitvec_to_nat, Nat.reduceAdd, Nat.reduceMul, Nat.reduceBEq, reduceCtorEq]), ?_⟩)
| refine o_nil ?_
| (refine o_s rfl ?_; refine ⟨_, (by dsimp only [bitvec_to_nat, Nat.reduceAdd, Nat.reduceMul, Nat.reduceBEq, reduceCtorEq]), ?_⟩)
| (refine o_splitD rfl rfl rfl (fun hc => ?_) (fun hc => ?_) <;> first | (exfalso; omega) | dsimp only [List.set_cons_zero, List.set_cons_succ])
| refine g_condF rfl ?_
| refine g_skip ?_)
      all_goals try (exfalso; omega)
      refine k_join (by repeat (first | exact trivial | refine ⟨.inl rfl, ?_⟩ | refine ⟨.inr rfl, ?_⟩)) trivial (hpLe_cons rfl (hpLe_cons ?_ (hpLe_cons rfl (hpLe_nil _))))
      rw [ho2]
  dsimp only [setMany, List.set_cons_zero, List.set_cons_succ]
  have hml : (o5.map I).length = i := by rw [List.length_map]; exact hol
  by_cases y0 : y = 0
  · obtain ⟨rfl, rfl⟩ := l0 y0
    subst y0
    repeat' (first
| refine g_seq ?_
| refine g_block ?_
| refine g_region ?_
| (refine o_go rfl ?_; (first
| refine p_e rfl (e_callL (n := 0) rfl rfl rfl (by (repeat (first | refine ⟨leS_refl _, ?_⟩ | refine ⟨leS_nn _ _ _, ?_⟩ | refine ⟨leS_nil _, ?_⟩ | refine ⟨leS_any _, ?_⟩)); exact trivial) rfl (by rfl) (by first | exact ⟨rfl, rfl, rfl, by simp⟩ | exact ⟨rfl, rfl, by simp⟩ | trivial) (h6)) ?_
| refine p_p (ps_move rfl) ?_
| refine p_p (ps_assign rfl) ?_
| refine p_p (ps_eql rfl rfl rfl) ?_
| refine p_e rfl (e_append rfl rfl rfl rfl rfl rfl (by first | exact one_one rfl | exact one_map (fun _ => rfl) _) rfl (by first | omega | (simp; done) | (simp; omega)) (by first | omega | (simp; done) | (simp; omega))) ?_
| refine p_p (ps_lit1 rfl rfl (by rfl) (by rfl)) ?_); refine ⟨_, (by dsimp only [bitvec_to_nat, Nat.reduceAdd, Nat.reduceMul, Nat.reduceBEq, reduceCtorEq]), ?_⟩)
| refine o_nil ?_
| refine g_condT rfl ?_
| refine g_ret ?_)
    refine krlh 0 0 rfl rfl rfl (krS rfl ?_)
    simp
  · by_cases y1 : y ≠ 1 ∨ o5.length = 0
    · obtain ⟨rfl, rfl⟩ := l1 y0 y1
      repeat' (first
| refine g_seq ?_
| refine g_block ?_
| refine g_region ?_
| (refine o_go rfl ?_; (first
| refine p_e rfl (e_callL (n := 0) rfl rfl rfl (by (repeat (first | refine ⟨leS_refl _, ?_⟩ | refine ⟨leS_nn _ _ _, ?_⟩ | refine ⟨leS_nil _, ?_⟩ | refine ⟨leS_any _, ?_⟩)); exact trivial) rfl (by rfl) (by first | exact ⟨rfl, rfl, rfl, by simp⟩ | exact ⟨rfl, rfl, by simp⟩ | trivial) (h6)) ?_
| refine p_p (ps_move rfl) ?_
| refine p_p (ps_assign rfl) ?_
| refine p_p (ps_gtr rfl rfl rfl) ?_
| refine p_p (ps_eql rfl rfl rfl) ?_
| refine p_p (ps_len_mut rfl rfl rfl rfl) ?_); refine ⟨_, (by dsimp only [bitvec_to_nat, Nat.reduceAdd, Nat.reduceMul, Nat.reduceBEq, reduceCtorEq]), ?_⟩)
| refine o_nil ?_
| (refine g_condD rfl (fun hc => ?_) (fun hc => ?_) <;> try (exfalso; omega))
| refine g_skip ?_
| refine g_ret ?_)
      all_goals first | exact krlh 0 0 rfl rfl rfl (krS rfl rfl) | (exfalso; omega)
    · obtain ⟨z0, z1, l2a, l2b, rfl⟩ := l2 (by omega) (by omega)
      rw [show (o5.length : Int) = (((o5.map I).length : Nat) : Int) by rw [List.length_map]] at l2a
      repeat' (first
| refine g_seq ?_
| refine g_block ?_
| refine g_region ?_
| (refine o_go rfl ?_; (first
| refine p_e rfl (e_callL (n := 0) rfl rfl rfl (by (repeat (first | refine ⟨leS_refl _, ?_⟩ | refine ⟨leS_nn _ _ _, ?_⟩ | refine ⟨leS_nil _, ?_⟩ | refine ⟨leS_any _, ?_⟩)); exact trivial) rfl (by rfl) (by first | exact ⟨rfl, rfl, rfl, by simp⟩ | exact ⟨rfl, rfl, by simp⟩ | trivial) (h6)) ?_
| refine p_e rfl (e_callL (n := 0) rfl rfl rfl (by (repeat (first | refine ⟨leS_refl _, ?_⟩ | refine ⟨leS_nn _ _ _, ?_⟩ | refine ⟨leS_nil _, ?_⟩ | refine ⟨leS_any _, ?_⟩)); exact trivial) rfl (by rfl) (by first | exact ⟨rfl, rfl, rfl, by simp⟩ | exact ⟨rfl, rfl, by simp⟩ | trivial) (l2a)) ?_
| refine p_p (ps_lits rfl (by exact rfl) (by exact rfl) (by repeat (first | exact trivial | refine ⟨⟨_, rfl, rfl⟩, ?_⟩)) (by decide) (by decide)) ?_
| refine p_e rfl (e_callL (n := 0) rfl rfl rfl (by (repeat (first | refine ⟨leS_refl _, ?_⟩ | refine ⟨leS_nn _ _ _, ?_⟩ | refine ⟨leS_nil _, ?_⟩ | refine ⟨leS_any _, ?_⟩)); exact trivial) rfl (by rfl) (by first | exact ⟨rfl, rfl, rfl, by simp⟩ | exact ⟨rfl, rfl, by simp⟩ | trivial) (l2b)) ?_
| refine p_p (ps_move rfl) ?_
| refine p_p (ps_assign rfl) ?_
| refine p_p (ps_gtr rfl rfl rfl) ?_
| refine p_p (ps_eql rfl rfl rfl) ?_
| refine p_p (ps_len_mut rfl rfl rfl rfl) ?_
| refine p_p (ps_index_mut rfl rfl rfl rfl (by omega) (by first | omega | (simp; done) | (simp; omega))) ?_
| refine p_e rfl (e_store_arr rfl rfl rfl rfl (by first | omega | (simp; done) | (simp; omega)) rfl rfl) ?_); refine ⟨_, (by dsimp only [bitvec_to_nat, Nat.reduceAdd, Nat.reduceMul, Nat.reduceBEq, reduceCtorEq]), ?_⟩)
| refine o_nil ?_
| (refine g_condD rfl (fun hc => ?_) (fun hc => ?_) <;> try (exfalso; omega))
| refine g_ret ?_)
      all_goals try (exfalso; omega)
      refine krlh 0 0 rfl rfl rfl (krS rfl ?_)
      rw [Nat.mul_one, List.map_set]
theorem points_L {c : Cu} {m : Int} (h : c.ok m) (hm : m ≤ 700000) (p q : List (List Int)) (hp : okP p) (hq : okP q) : ∃ c' o, c'.ok (m + 1000) ∧ o.length ≤ 1000 ∧ LCalls Try.prog 35 (cuB c) [.hat 0 0, posetP p, posetP q] (cuB c') (ints o) := by
  cases hgg : goodL p && goodL q with
  | false => exact ⟨c, [], h.le (by omega), by simp, points_w0 hp hq hgg⟩
  | true =>
    rw [Bool.and_eq_true] at hgg
    obtain ⟨hg, hgq⟩ := hgg
    have hil := irrL_len p
    have hiq := irrL_len q
    have h10 := good_10L hg
    have h10q := good_10L hgq
    have hpl := length_pts p
    obtain ⟨n, hn⟩ : ∃ n, n = (ptsL p).length := ⟨_, rfl⟩
    obtain ⟨F, F0, F1, F2⟩ := draw_list h (by omega) n (by omega) (if ((irrL q).length : Int) < 1 then 1 else ((irrL q).length : Int)) (by split <;> omega) (by split <;> omega)
    obtain ⟨f1, f2⟩ := F1 n (Nat.le_refl n)
    obtain ⟨c5, b5, k5, h5, h5'⟩ : ∃ c5 b5, c5.ok (m + 2 * (n : Int) + 2) ∧ (0 < (irrL q).length → LCalls Try.prog 41 (cuB (F n).1) [.hat 0 0, I 4] (cuB c5) (B b5)) ∧ (¬ 0 < (irrL q).length → c5 = (F n).1 ∧ b5 = true) := by
      by_cases e : 0 < (irrL q).length
      · obtain ⟨c5, b5, k5, h5⟩ := one_L f1 (by omega) 4 (by omega)
        exact ⟨c5, b5, k5, fun _ => h5, fun h => absurd e h⟩
      · exact ⟨(F n).1, true, f1.le (by omega), fun h => absurd h e, fun _ => ⟨rfl, rfl⟩⟩
    obtain ⟨o5, ho1, ho2, hol⟩ : ∃ o5, (b5 = false → o5 = fixA (ptsL p) (ptsL q) n (F n).2 10) ∧ (b5 = true → o5 = (F n).2) ∧ o5.length = n := by
      cases hb : b5 with
      | true => exact ⟨_, fun h => absurd h (by decide), fun _ => rfl, f2.1⟩
      | false => exact ⟨_, fun _ => rfl, fun h => absurd h (by decide), (fixA_in f2 10).1⟩
    obtain ⟨c6, y, k6, y0, -, h6⟩ := pick_L k5 (by omega) 32 (by omega)
    by_cases e0 : y = 0
    · exact ⟨c6, _, k6.le (by omega), by rw [List.length_append]; simp; omega, points_w (c7 := c) (z := 0) (v := 0) hp hq hg hgq hn F0 (fun i hi => (F1 i hi).2) F2 h5 h5' ho1 ho2 hol h6 (fun _ => ⟨rfl, rfl⟩) (fun h => absurd e0 h) (fun h => absurd h (by omega))⟩
    by_cases e1 : y ≠ 1 ∨ o5.length = 0
    · exact ⟨c6, _, k6.le (by omega), by omega, points_w (c7 := c) (z := 0) (v := 0) hp hq hg hgq hn F0 (fun i hi => (F1 i hi).2) F2 h5 h5' ho1 ho2 hol h6 (fun h => absurd h e0) (fun _ _ => ⟨rfl, rfl⟩) (fun h1 h2 => absurd e1 (by omega))⟩
    · obtain ⟨c7, z, k7, z0, z1, h7⟩ := pick_L k6 (by omega) (o5.length : Int) (by omega)
      obtain ⟨c8, v, k8, -, h8⟩ := among_L k7 (by omega) [-1, ((irrL q).length : Int), 0] (by simp) (by simp)
      exact ⟨c8, _, k8.le (by omega), by rw [List.length_set]; omega, points_w hp hq hg hgq hn F0 (fun i hi => (F1 i hi).2) F2 h5 h5' ho1 ho2 hol h6 (fun h => absurd h e0) (fun _ h => absurd h e1) (fun _ _ => ⟨z0, by omega, h7, h8, rfl⟩)⟩
end Go.Proofs.Ytbfmjknngofleaa
