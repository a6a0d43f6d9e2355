/- Walks: the distributive chain, given as operations, on both sides. -/
import Derived.Test.YtogfibhhfimbjaaDNj
import Derived.Test.YtogfibhhfimbjaaDHd
import Derived.Test.YtogfibhhfimbjaaDGw
import Derived.Test.YtogfibhhfimbjaaDAr
namespace Go.Proofs.Ytogfibhhfimbjaa
open Go Go.Pv Go.Proofs
attribute [local bitvec_to_nat] St.put St.setObj St.ev killP killA killP1 killH mapHO renP renA ren1 killG killGA killG1 krowP krowA krow1 lendP lendA lend1 unv pinP pin1 elemsM viewM viewN viewV n_set_z n_set_s n_map_c n_map_n getD_z getD_s n_toNat n_cond_t n_cond_f n_len_c n_len_n n_app_c n_app_n n_take_s n_take_z n_drop_s n_drop_z n_get_z n_get_s view viewA view1 elems Nat.zero_add Nat.add_zero Bool.not_true Bool.not_false Nat.one_ne_zero Nat.mul_one

def opsC (T : List (List Int)) (c : List Nat) : List OpD := c.map fun f => ⟨3, T.getD f []⟩
def dcV (n : Int) (ops : List OpD) : List OpD × Bool :=
  match clT n ops with
  | none => ([], false)
  | some T => match dS n.toNat T with
    | none => ([], false)
    | some c => (opsC T c, true)
theorem opsC_len (T : List (List Int)) (c : List Nat) : (opsC T c).length = c.length := List.length_map _
theorem opsC_at {T : List (List Int)} {c : List Nat} {i : Nat} (h : i < c.length) : (opsC T c).getD i default = ⟨3, T.getD (c.getD i 0) []⟩ := by
  simp [opsC, List.getD_eq_getElem?_getD, h]
theorem opsC_take {T : List (List Int)} {c : List Nat} {i : Nat} (h : i < c.length) : (opsC T c).take (i + 1) = (opsC T c).take i ++ [⟨3, T.getD (c.getD i 0) []⟩] := by
  rw [take_snoc default (by rw [opsC_len]; exact h), opsC_at h]
theorem chain_at {c : List Nat} {i : Nat} (h : i < c.length) : ((c.map Int.ofNat).map I)[((i : Nat) : Int).toNat]? = some (I ((c.getD i 0 : Nat) : Int)) := by
  rw [Int.toNat_natCast, List.map_map, List.getElem?_map, List.getElem?_eq_getElem h, List.getD_eq_getElem?_getD, List.getElem?_eq_getElem h]; rfl
theorem tab_at {T : List (List Int)} {f : Nat} (h : f < T.length) : (T.map ints)[((f : Nat) : Int).toNat]? = some (ints (T.getD f [])) := by
  rw [Int.toNat_natCast]; exact idx_ints h
theorem sc_sg (rows : List (List Int)) : ((rows.map fun r => r.map I).all fun r => r.all PV.sc) = true := sc_maps (fun _ => rfl) _
set_option maxHeartbeats 4000000 in
set_option maxRecDepth 100000 in
theorem iops_R (n : Nat) (T : List (List Int)) (c : List Nat) (hT : lenOk T) (hc : ∀ f ∈ c, f < T.length) (hl : c.length ≤ 1000) :
    RCalls Try.prog 85 [chP n T, ints (c.map Int.ofNat)] (sgI (rowsO (opsC T c))) (.hp 0) := by
  refine pcallsR1 Try.func85 rfl Try.ntmps85 rfl ?_
  simp only [List.length_cons, List.length_nil, Nat.reduceAdd, Nat.reduceSub, List.replicate_succ, List.replicate_zero, List.cons_append, List.nil_append]
  repeat' (first
| refine g_seq ?_
| refine g_block ?_
| refine g_region ?_
| (refine o_go rfl ?_; (first
| refine p_e rfl (e_lit0S 3 rfl) ?_
| refine p_p (ps_move rfl) ?_
| refine p_p (ps_assign rfl) ?_
| refine p_p (ps_lenM rfl rfl rfl) ?_); refine ⟨_, (by dsimp only [bitvec_to_nat, Nat.reduceAdd, Nat.reduceMul, Nat.reduceBEq, reduceCtorEq, posI, optP, lendM1, lendMA, lendMP, killM1, killMA, killMP, hasI, getO, backM1, backMA, backMP, putL, inpM, pinM1, pinMA, pinMP, killR1, killRA, killR]), ?_⟩)
| refine o_nil ?_)
  refine g_loopF (α := Nat) [8] (fun i => [(5, .hp 0), (11, I (i : Int))]) (fun i => [sgI (rowsO ((opsC T c).take i))]) (fun i => i ≤ c.length) (fun i => c.length - i) 0 (by simp only [havoc, dsts, List.filterMap_cons, List.filterMap_nil, List.foldl_cons, List.foldl_nil, List.cons_append, List.nil_append, List.append_nil, List.set_cons_succ, List.set_cons_zero]; exact rfl) (Nat.zero_le _) ⟨rfl, rfl, trivial⟩ rfl ?_
  rintro i hi
  dsimp only [setMany, List.set_cons_zero, List.set_cons_succ]
  have hcl' : (c.map Int.ofNat).length = c.length := List.length_map _
  have hll : ((rowsO ((opsC T c).take i)).map fun r => r.map I).length = i := by simp [opsC_len]; omega
  by_cases hic : i < c.length
  · have hq := chain_at hic
    have htk := opsC_take (T := T) hic
    have hf : c.getD i 0 < T.length := hc _ (by rw [List.getD_eq_getElem?_getD, List.getElem?_eq_getElem hic]; exact List.getElem_mem _)
    generalize c.getD i 0 = f at *
    have hr := tab_at hf
    have hcl := iclone_R (T.getD f []) (hT.at hf)
    generalize T.getD f [] = t at *
    repeat' (first
| refine g_seq ?_
| refine g_block ?_
| refine g_region ?_
| (refine o_go rfl ?_; (first
| refine p_p (ps_index rfl rfl rfl (by omega) hq (by exact rfl)) ?_
| refine p_p (ps_index rfl rfl rfl (by omega) hr (by exact rfl)) ?_
| refine p_e rfl (e_callR rfl rfl (by (repeat (first | refine ⟨PV.le_refl _, ?_⟩ | refine ⟨PV.le_nn _ _ _, ?_⟩ | refine ⟨PV.le_nil _, ?_⟩ | refine ⟨PV.le_any _, ?_⟩)); exact trivial) rfl (hcl)) ?_
| refine p_e (by kernel_rfl) (e_lit1S rfl rfl rfl (one_all (fun _ => rfl) _) rfl) ?_
| refine p_e (by kernel_rfl) (e_append_sg rfl rfl rfl rfl rfl rfl (by decide) (by rw [hll, n_len_c, n_len_n]; omega) (by rw [hll, n_len_c, n_len_n]; omega)) ?_
| refine p_p (ps_move rfl) ?_
| refine p_p (ps_assign rfl) ?_
| refine p_p (ps_load_cell rfl rfl) ?_
| refine p_p (ps_lss rfl rfl rfl) ?_
| refine p_p (ps_add rfl rfl rfl (by constructor <;> omega)) ?_
| refine p_p (ps_fieldAddr rfl rfl) ?_
| refine p_p (ps_nilCheck rfl rfl) ?_
| refine p_p (ps_build rfl rfl) ?_); refine ⟨_, (by dsimp only [bitvec_to_nat, Nat.reduceAdd, Nat.reduceMul, Nat.reduceBEq, reduceCtorEq, posI, optP, lendM1, lendMA, lendMP, killM1, killMA, killMP, hasI, getO, backM1, backMA, backMP, putL, inpM, pinM1, pinMA, pinMP, killR1, killRA, killR]), ?_⟩)
| refine o_nil ?_
| (refine g_condD rfl (fun hc => ?_) (fun hc => ?_) <;> try (exfalso; omega))
| refine g_skip ?_)
    all_goals try (exfalso; omega)
    refine k_round (i + 1) (by omega) (by omega) (by repeat (first | exact trivial | refine ⟨.inl rfl, ?_⟩ | refine ⟨.inr rfl, ?_⟩)) ⟨rfl, rfl, trivial⟩ (hpLe_cons ?_ (hpLe_nil _))
    rw [htk]; simp only [sgI, rowsO, List.map_append, List.map_cons, List.map_nil]
  · repeat' (first
| refine g_seq ?_
| refine g_region ?_
| (refine o_go rfl ?_; (first
| refine p_p (ps_move rfl) ?_
| refine p_p (ps_assign rfl) ?_
| refine p_p (ps_lss rfl rfl rfl) ?_); refine ⟨_, (by dsimp only [bitvec_to_nat, Nat.reduceAdd, Nat.reduceMul, Nat.reduceBEq, reduceCtorEq, posI, optP, lendM1, lendMA, lendMP, killM1, killMA, killMP, hasI, getO, backM1, backMA, backMP, putL, inpM, pinM1, pinMA, pinMP, killR1, killRA, killR]), ?_⟩)
| refine o_nil ?_
| (refine g_condD rfl (fun hc => ?_) (fun hc => ?_) <;> try (exfalso; omega))
| refine g_exit ?_
| refine g_ret ?_)
    all_goals try (exfalso; omega)
    refine krr 0 rfl (HandOut.sg rfl ?_ rfl (sc_sg _))
    rw [List.take_of_length_le (by rw [opsC_len]; omega)]
set_option maxHeartbeats 4000000 in
set_option maxRecDepth 100000 in
theorem ifind_R (n : Int) (ops : List OpD) (ho : szOk ops) : RCalls Try.prog 48 [algP n ops, .fn 37 [] [], I 13] (sgI (rowsO (dcV n ops).1)) (.tup [.hp 0, B (dcV n ops).2]) := by
  unfold dcV
  have h1 := inewO_c n ops ho
  cases hV : clT n ops with
  | none =>
    rw [hV] at h1
    dsimp only [chO, Option.isSome] at h1
    refine pcallsR2 Try.func48 rfl Try.ntmps48 rfl ?_
    simp only [List.length_cons, List.length_nil, Nat.reduceAdd, Nat.reduceSub, List.replicate_succ, List.replicate_zero, List.cons_append, List.nil_append]
    repeat' (first
| refine krr2 0 rfl rfl (HandOut.sg rfl ?_ rfl (by exact sc_sg _))
| refine g_seq ?_
| refine g_region ?_
| (refine o_go rfl ?_; (first
| refine p_p (ps_call rfl rfl (by (repeat (first | refine ⟨PV.le_refl _, ?_⟩ | refine ⟨PV.le_nn _ _ _, ?_⟩ | refine ⟨PV.le_nil _, ?_⟩ | refine ⟨PV.le_any _, ?_⟩)); exact trivial) (h1)) ?_
| refine p_e rfl (e_lit0S 3 rfl) ?_
| refine p_p (ps_move rfl) ?_
| refine p_p (ps_assign rfl) ?_
| refine p_p (ps_load_agg rfl rfl (by exact Nat.le_of_ble_eq_true rfl)) ?_
| refine p_p (ps_extract rfl rfl rfl) ?_
| refine p_p (ps_not rfl rfl) ?_
| refine p_p (ps_box rfl rfl) ?_); refine ⟨_, (by dsimp only [bitvec_to_nat, Nat.reduceAdd, Nat.reduceMul, Nat.reduceBEq, reduceCtorEq, posI, optP, lendM1, lendMA, lendMP, killM1, killMA, killMP, hasI, getO, backM1, backMA, backMP, putL, inpM, pinM1, pinMA, pinMP, killR1, killRA, killR]), ?_⟩)
| refine o_nil ?_
| refine g_condT rfl ?_
| refine g_ret ?_)
    all_goals rfl
  | some T =>
    obtain ⟨m, rfl, hg, -, hC⟩ := clT_some hV
    rw [hV] at h1
    dsimp only [chO, Option.isSome] at h1
    rw [Int.toNat_natCast] at h1
    dsimp only
    rw [Int.toNat_natCast]
    have hn8 : m ≤ 8 := by have := hC.n3; omega
    have hT := hC.len
    have d1 := distL_c m T
    have d2 := dS_c m T hn8 (by omega)
    have hlen := fun c (h : dS m T = some c) => shV_len h
    cases hD : dS m T with
    | none =>
      rw [hD] at d2
      dsimp only [shP] at d2
      refine pcallsR2 Try.func48 rfl Try.ntmps48 rfl ?_
      simp only [List.length_cons, List.length_nil, Nat.reduceAdd, Nat.reduceSub, List.replicate_succ, List.replicate_zero, List.cons_append, List.nil_append]
      repeat' (first
| refine krr2 0 rfl rfl (HandOut.sg rfl ?_ rfl (by exact sc_sg _))
| refine g_seq ?_
| refine g_region ?_
| (refine o_go rfl ?_; (first
| refine p_p (ps_call rfl rfl (by (repeat (first | refine ⟨PV.le_refl _, ?_⟩ | refine ⟨PV.le_nn _ _ _, ?_⟩ | refine ⟨PV.le_nil _, ?_⟩ | refine ⟨PV.le_any _, ?_⟩)); exact trivial) (h1)) ?_
| refine p_p (ps_call rfl rfl (by (repeat (first | refine ⟨PV.le_refl _, ?_⟩ | refine ⟨PV.le_nn _ _ _, ?_⟩ | refine ⟨PV.le_nil _, ?_⟩ | refine ⟨PV.le_any _, ?_⟩)); exact trivial) (d1)) ?_
| refine p_p (ps_call rfl rfl (by (repeat (first | refine ⟨PV.le_refl _, ?_⟩ | refine ⟨PV.le_nn _ _ _, ?_⟩ | refine ⟨PV.le_nil _, ?_⟩ | refine ⟨PV.le_any _, ?_⟩)); exact trivial) (d2)) ?_
| refine p_p (ps_eqnil_v rfl rfl rfl) ?_
| refine p_e rfl (e_lit0S 3 rfl) ?_
| refine p_p (ps_move rfl) ?_
| refine p_p (ps_assign rfl) ?_
| refine p_p (ps_load_agg rfl rfl (by exact Nat.le_of_ble_eq_true rfl)) ?_
| refine p_p (ps_extract rfl rfl rfl) ?_
| refine p_p (ps_not rfl rfl) ?_
| refine p_p (ps_eqnil_v rfl rfl rfl) ?_
| refine p_p (ps_box rfl rfl) ?_); refine ⟨_, (by dsimp only [bitvec_to_nat, Nat.reduceAdd, Nat.reduceMul, Nat.reduceBEq, reduceCtorEq, posI, optP, lendM1, lendMA, lendMP, killM1, killMA, killMP, hasI, getO, backM1, backMA, backMP, putL, inpM, pinM1, pinMA, pinMP, killR1, killRA, killR]), ?_⟩)
| refine o_nil ?_
| refine g_condT rfl ?_
| refine g_condF rfl ?_
| refine g_skip ?_
| refine g_ret ?_)
      all_goals rfl
    | some c =>
      obtain ⟨c1, c2, c3⟩ := hlen c hD
      rw [hD] at d2
      dsimp only [shP] at d2
      have h5 := iops_R m T c hC.lenOk c3 (by omega)
      have hne : (c.map Int.ofNat).map I ≠ [] := fun e => by
        have := congrArg List.length e
        simp only [List.length_map, List.length_nil] at this
        omega
      refine pcallsR2 Try.func48 rfl Try.ntmps48 rfl ?_
      simp only [List.length_cons, List.length_nil, Nat.reduceAdd, Nat.reduceSub, List.replicate_succ, List.replicate_zero, List.cons_append, List.nil_append]
      repeat' (first
| refine krr2 0 rfl rfl (HandOut.sg rfl ?_ rfl (by exact sc_sg _))
| refine g_seq ?_
| refine g_region ?_
| (refine o_go rfl ?_; (first
| refine p_p (ps_call rfl rfl (by (repeat (first | refine ⟨PV.le_refl _, ?_⟩ | refine ⟨PV.le_nn _ _ _, ?_⟩ | refine ⟨PV.le_nil _, ?_⟩ | refine ⟨PV.le_any _, ?_⟩)); exact trivial) (h1)) ?_
| refine p_p (ps_call rfl rfl (by (repeat (first | refine ⟨PV.le_refl _, ?_⟩ | refine ⟨PV.le_nn _ _ _, ?_⟩ | refine ⟨PV.le_nil _, ?_⟩ | refine ⟨PV.le_any _, ?_⟩)); exact trivial) (d1)) ?_
| refine p_p (ps_call rfl rfl (by (repeat (first | refine ⟨PV.le_refl _, ?_⟩ | refine ⟨PV.le_nn _ _ _, ?_⟩ | refine ⟨PV.le_nil _, ?_⟩ | refine ⟨PV.le_any _, ?_⟩)); exact trivial) (d2)) ?_
| refine p_p (ps_eqnil_ne rfl rfl rfl hne) ?_
| refine p_e rfl (e_callR rfl rfl (by (repeat (first | refine ⟨PV.le_refl _, ?_⟩ | refine ⟨PV.le_nn _ _ _, ?_⟩ | refine ⟨PV.le_nil _, ?_⟩ | refine ⟨PV.le_any _, ?_⟩)); exact trivial) rfl (h5)) ?_
| refine p_p (ps_move rfl) ?_
| refine p_p (ps_assign rfl) ?_
| refine p_p (ps_load_agg rfl rfl (by exact Nat.le_of_ble_eq_true rfl)) ?_
| refine p_p (ps_extract rfl rfl rfl) ?_
| refine p_p (ps_not rfl rfl) ?_
| refine p_p (ps_box rfl rfl) ?_); refine ⟨_, (by dsimp only [bitvec_to_nat, Nat.reduceAdd, Nat.reduceMul, Nat.reduceBEq, reduceCtorEq, posI, optP, lendM1, lendMA, lendMP, killM1, killMA, killMP, hasI, getO, backM1, backMA, backMP, putL, inpM, pinM1, pinMA, pinMP, killR1, killRA, killR]), ?_⟩)
| refine o_nil ?_
| refine g_condF rfl ?_
| refine g_skip ?_
| refine g_ret ?_)
      all_goals rfl
set_option maxHeartbeats 2000000 in
set_option maxRecDepth 100000 in
theorem idc_R (n : Int) (ops : List OpD) (ho : szOk ops) : RCalls Try.prog 24 [algP n ops] (sgI (rowsO (dcV n ops).1)) (.tup [.hp 0, B (dcV n ops).2]) := by
  have h1 := ifind_R n ops ho
  refine pcallsR2 Try.func24 rfl Try.ntmps24 rfl ?_
  simp only [List.length_cons, List.length_nil, Nat.reduceAdd, Nat.reduceSub, List.replicate_succ, List.replicate_zero, List.cons_append, List.nil_append]
  repeat' (first
| refine krr2 0 rfl rfl (HandOut.sg rfl ?_ rfl (by exact sc_sg _))
| refine g_seq ?_
| refine g_region ?_
| (refine o_go rfl ?_; (first
| refine p_e rfl (e_callR rfl rfl (by (repeat (first | refine ⟨PV.le_refl _, ?_⟩ | refine ⟨PV.le_nn _ _ _, ?_⟩ | refine ⟨PV.le_nil _, ?_⟩ | refine ⟨PV.le_any _, ?_⟩)); exact trivial) rfl (h1)) ?_
| refine p_p (ps_assign rfl) ?_
| refine p_p (ps_load_agg rfl rfl (by exact Nat.le_of_ble_eq_true rfl)) ?_
| refine p_p (ps_extract rfl rfl rfl) ?_
| refine p_p (ps_box rfl rfl) ?_); refine ⟨_, (by dsimp only [bitvec_to_nat, Nat.reduceAdd, Nat.reduceMul, Nat.reduceBEq, reduceCtorEq, posI, optP, lendM1, lendMA, lendMP, killM1, killMA, killMP, hasI, getO, backM1, backMA, backMP, putL, inpM, pinM1, pinMA, pinMP, killR1, killRA, killR]), ?_⟩)
| refine o_nil ?_
| refine g_ret ?_)
  all_goals rfl
set_option maxHeartbeats 4000000 in
set_option maxRecDepth 100000 in
theorem sgive_c (T : List (List Int)) (c : List Nat) (hT : lenOk T) (hc : ∀ f ∈ c, f < T.length) (hl : c.length ≤ 1000) :
    PCalls Try.prog 47 [intss T, ints (c.map Int.ofNat)] (opsP (opsC T c)) := by
  refine pcalls1 Try.func47 rfl Try.ntmps47 rfl ?_
  simp only [List.length_cons, List.length_nil, Nat.reduceAdd, Nat.reduceSub, List.replicate_succ, List.replicate_zero, List.cons_append, List.nil_append]
  repeat' (first
| refine g_seq ?_
| refine g_block ?_
| refine g_region ?_
| (refine o_go rfl ?_; (first
| refine p_p (ps_assign rfl) ?_
| refine p_e rfl (e_lit0 rfl (by decide)) ?_); refine ⟨_, (by dsimp only [bitvec_to_nat, Nat.reduceAdd, Nat.reduceMul, Nat.reduceBEq, reduceCtorEq, posI, optP, lendM1, lendMA, lendMP, killM1, killMA, killMP, hasI, getO, backM1, backMA, backMP, putL, inpM, pinM1, pinMA, pinMP, killR1, killRA, killR]), ?_⟩)
| refine o_nil ?_)
  refine g_loopF (α := Nat) [7] (fun i => [(5, .hp 0), (6, I (i : Int))]) (fun i => [.arr false 2 60 (((opsC T c).take i).map opP)]) (fun i => i ≤ c.length) (fun i => c.length - i) 0 (by simp only [havoc, dsts, List.filterMap_cons, List.filterMap_nil, List.foldl_cons, List.foldl_nil, List.cons_append, List.nil_append, List.append_nil, List.set_cons_succ, List.set_cons_zero]; exact rfl) (Nat.zero_le _) ⟨rfl, rfl, trivial⟩ rfl ?_
  rintro i hi
  dsimp only [setMany, List.set_cons_zero, List.set_cons_succ]
  have hcl' : (c.map Int.ofNat).length = c.length := List.length_map _
  have hll : (((opsC T c).take i).map opP).length ≤ 1000 := by simp [opsC_len]; omega
  by_cases hic : i < c.length
  · have hq := chain_at hic
    have htk := opsC_take (T := T) hic
    have hf : c.getD i 0 < T.length := hc _ (by rw [List.getD_eq_getElem?_getD, List.getElem?_eq_getElem hic]; exact List.getElem_mem _)
    generalize c.getD i 0 = f at *
    have hr := tab_at hf
    have hcl := rcalls_P rfl (own_R (T.getD f []) (hT.at hf))
    generalize T.getD f [] = t at *
    repeat' (first
| refine g_seq ?_
| refine g_block ?_
| refine g_region ?_
| (refine o_go rfl ?_; (first
| refine p_p (ps_index rfl rfl rfl (by omega) hq (by exact rfl)) ?_
| refine p_p (ps_index rfl rfl rfl (by omega) hr (by exact rfl)) ?_
| refine p_p (ps_call rfl rfl (by (repeat (first | refine ⟨PV.le_refl _, ?_⟩ | refine ⟨PV.le_nn _ _ _, ?_⟩ | refine ⟨PV.le_nil _, ?_⟩ | refine ⟨PV.le_any _, ?_⟩)); exact trivial) (hcl)) ?_
| refine p_p (ps_litA [I 3, ints t] rfl rfl (by rfl) (by decide) (by decide)) ?_
| refine p_e (by kernel_rfl) (e_append rfl rfl rfl rfl rfl rfl (one_ag rfl) rfl (by rw [n_len_c, n_len_n]; omega) (by rw [n_len_c, n_len_n]; omega)) ?_
| refine p_p (ps_move rfl) ?_
| refine p_p (ps_assign rfl) ?_
| refine p_p (ps_load_cell rfl rfl) ?_
| refine p_p (ps_lenM rfl rfl rfl) ?_
| refine p_p (ps_lss rfl rfl rfl) ?_
| refine p_p (ps_add rfl rfl rfl (by constructor <;> omega)) ?_
| refine p_p (ps_build rfl rfl) ?_); refine ⟨_, (by dsimp only [bitvec_to_nat, Nat.reduceAdd, Nat.reduceMul, Nat.reduceBEq, reduceCtorEq, posI, optP, lendM1, lendMA, lendMP, killM1, killMA, killMP, hasI, getO, backM1, backMA, backMP, putL, inpM, pinM1, pinMA, pinMP, killR1, killRA, killR]), ?_⟩)
| refine o_nil ?_
| (refine g_condD rfl (fun hc => ?_) (fun hc => ?_) <;> try (exfalso; omega))
| refine g_skip ?_)
    all_goals try (exfalso; omega)
    refine k_round (i + 1) (by omega) (by omega) (by repeat (first | exact trivial | refine ⟨.inl rfl, ?_⟩ | refine ⟨.inr rfl, ?_⟩)) ⟨rfl, rfl, trivial⟩ (hpLe_cons ?_ (hpLe_nil _))
    rw [htk, List.map_append]; rfl
  · repeat' (first
| refine g_seq ?_
| refine g_region ?_
| (refine o_go rfl ?_; (first
| refine p_p (ps_move rfl) ?_
| refine p_p (ps_assign rfl) ?_
| refine p_p (ps_lenM rfl rfl rfl) ?_
| refine p_p (ps_lss rfl rfl rfl) ?_); refine ⟨_, (by dsimp only [bitvec_to_nat, Nat.reduceAdd, Nat.reduceMul, Nat.reduceBEq, reduceCtorEq, posI, optP, lendM1, lendMA, lendMP, killM1, killMA, killMP, hasI, getO, backM1, backMA, backMP, putL, inpM, pinM1, pinMA, pinMP, killR1, killRA, killR]), ?_⟩)
| refine o_nil ?_
| (refine g_condD rfl (fun hc => ?_) (fun hc => ?_) <;> try (exfalso; omega))
| refine kr1 ?_
| refine krS rfl ?_
| refine g_exit ?_
| refine g_ret ?_)
    all_goals try (exfalso; omega)
    all_goals rw [List.take_of_length_le (by rw [opsC_len]; omega)]
set_option maxHeartbeats 4000000 in
set_option maxRecDepth 100000 in
theorem sdc_c (n : Int) (ops : List OpD) (ho : szOk ops) : PCalls Try.prog 23 [algP n ops] (.tup [opsP (dcV n ops).1, B (dcV n ops).2]) := by
  unfold dcV
  refine pcalls2 Try.func23 rfl Try.ntmps23 rfl ?_
  simp only [List.length_cons, List.length_nil, Nat.reduceAdd, Nat.reduceSub, List.replicate_succ, List.replicate_zero, List.cons_append, List.nil_append]
  cases hV : clT n ops with
  | none =>
    obtain ⟨T, -, h1⟩ := s17_none ho hV
    repeat' (first
| refine g_seq ?_
| refine g_region ?_
| (refine o_go rfl ?_; (first
| refine p_p (ps_call rfl rfl (by (repeat (first | refine ⟨PV.le_refl _, ?_⟩ | refine ⟨PV.le_nn _ _ _, ?_⟩ | refine ⟨PV.le_nil _, ?_⟩ | refine ⟨PV.le_any _, ?_⟩)); exact trivial) (h1)) ?_
| refine p_p (ps_move rfl) ?_
| refine p_p (ps_assign rfl) ?_
| refine p_p (ps_load_agg rfl rfl (by exact Nat.le_of_ble_eq_true rfl)) ?_
| refine p_p (ps_extract rfl rfl rfl) ?_
| refine p_p (ps_not rfl rfl) ?_
| refine p_e rfl (e_lit0 rfl (by decide)) ?_
| refine p_p (ps_box rfl rfl) ?_); refine ⟨_, (by dsimp only [bitvec_to_nat, Nat.reduceAdd, Nat.reduceMul, Nat.reduceBEq, reduceCtorEq, posI, optP, lendM1, lendMA, lendMP, killM1, killMA, killMP, hasI, getO, backM1, backMA, backMP, putL, inpM, pinM1, pinMA, pinMP, killR1, killRA, killR]), ?_⟩)
| refine o_nil ?_
| refine g_condT rfl ?_
| refine kr2 ?_ ?_
| refine krB rfl ?_
| refine krS rfl ?_
| refine g_ret ?_)
    all_goals rfl
  | some T =>
    have h1 := s17_some ho hV
    obtain ⟨m, rfl, hg, -, hC⟩ := clT_some hV
    dsimp only
    rw [Int.toNat_natCast]
    have h2 := s17dist_c m ops T hC
    have hlen := fun c (h : dS m T = some c) => shV_len h
    cases hD : dS m T with
    | none =>
      rw [hD] at h2
      dsimp only [opL, Option.isSome] at h2
      have h3 := sgive_c T [] hC.lenOk (fun f hf => by simp at hf) (by simp)
      repeat' (first
| refine g_seq ?_
| refine g_region ?_
| (refine o_go rfl ?_; (first
| refine p_p (ps_call rfl rfl (by (repeat (first | refine ⟨PV.le_refl _, ?_⟩ | refine ⟨PV.le_nn _ _ _, ?_⟩ | refine ⟨PV.le_nil _, ?_⟩ | refine ⟨PV.le_any _, ?_⟩)); exact trivial) (h1)) ?_
| refine p_p (ps_call rfl rfl (by (repeat (first | refine ⟨PV.le_refl _, ?_⟩ | refine ⟨PV.le_nn _ _ _, ?_⟩ | refine ⟨PV.le_nil _, ?_⟩ | refine ⟨PV.le_any _, ?_⟩)); exact trivial) (h2)) ?_
| refine p_p (ps_call rfl rfl (by (repeat (first | refine ⟨PV.le_refl _, ?_⟩ | refine ⟨PV.le_nn _ _ _, ?_⟩ | refine ⟨PV.le_nil _, ?_⟩ | refine ⟨PV.le_any _, ?_⟩)); exact trivial) (h3)) ?_
| refine p_p (ps_move rfl) ?_
| refine p_p (ps_assign rfl) ?_
| refine p_p (ps_load_cell rfl rfl) ?_
| refine p_p (ps_load_agg rfl rfl (by exact Nat.le_of_ble_eq_true rfl)) ?_
| refine p_p (ps_fieldAddr rfl rfl) ?_
| refine p_p (ps_extract rfl rfl rfl) ?_
| refine p_p (ps_not rfl rfl) ?_
| refine p_p (ps_box rfl rfl) ?_); refine ⟨_, (by dsimp only [bitvec_to_nat, Nat.reduceAdd, Nat.reduceMul, Nat.reduceBEq, reduceCtorEq, posI, optP, lendM1, lendMA, lendMP, killM1, killMA, killMP, hasI, getO, backM1, backMA, backMP, putL, inpM, pinM1, pinMA, pinMP, killR1, killRA, killR]), ?_⟩)
| refine o_nil ?_
| refine g_condF rfl ?_
| refine kr2 ?_ ?_
| refine krB rfl ?_
| refine krS rfl ?_
| refine g_skip ?_
| refine g_ret ?_)
      all_goals rfl
    | some c =>
      obtain ⟨c1, c2, c3⟩ := hlen c hD
      rw [hD] at h2
      dsimp only [opL, Option.isSome] at h2
      have h3 := sgive_c T c hC.lenOk c3 (by omega)
      repeat' (first
| refine g_seq ?_
| refine g_region ?_
| (refine o_go rfl ?_; (first
| refine p_p (ps_call rfl rfl (by (repeat (first | refine ⟨PV.le_refl _, ?_⟩ | refine ⟨PV.le_nn _ _ _, ?_⟩ | refine ⟨PV.le_nil _, ?_⟩ | refine ⟨PV.le_any _, ?_⟩)); exact trivial) (h1)) ?_
| refine p_p (ps_call rfl rfl (by (repeat (first | refine ⟨PV.le_refl _, ?_⟩ | refine ⟨PV.le_nn _ _ _, ?_⟩ | refine ⟨PV.le_nil _, ?_⟩ | refine ⟨PV.le_any _, ?_⟩)); exact trivial) (h2)) ?_
| refine p_p (ps_call rfl rfl (by (repeat (first | refine ⟨PV.le_refl _, ?_⟩ | refine ⟨PV.le_nn _ _ _, ?_⟩ | refine ⟨PV.le_nil _, ?_⟩ | refine ⟨PV.le_any _, ?_⟩)); exact trivial) (h3)) ?_
| refine p_p (ps_move rfl) ?_
| refine p_p (ps_assign rfl) ?_
| refine p_p (ps_load_cell rfl rfl) ?_
| refine p_p (ps_load_agg rfl rfl (by exact Nat.le_of_ble_eq_true rfl)) ?_
| refine p_p (ps_fieldAddr rfl rfl) ?_
| refine p_p (ps_extract rfl rfl rfl) ?_
| refine p_p (ps_not rfl rfl) ?_
| refine p_p (ps_box rfl rfl) ?_); refine ⟨_, (by dsimp only [bitvec_to_nat, Nat.reduceAdd, Nat.reduceMul, Nat.reduceBEq, reduceCtorEq, posI, optP, lendM1, lendMA, lendMP, killM1, killMA, killMP, hasI, getO, backM1, backMA, backMP, putL, inpM, pinM1, pinMA, pinMP, killR1, killRA, killR]), ?_⟩)
| refine o_nil ?_
| refine g_condF rfl ?_
| refine kr2 ?_ ?_
| refine krB rfl ?_
| refine krS rfl ?_
| refine g_skip ?_
| refine g_ret ?_)
      all_goals rfl
theorem dcV_ok (n : Int) (ops : List OpD) : (dcV n ops).1.length ≤ 15 ∧ ∀ f ∈ (dcV n ops).1, f.tb.length ≤ 27 := by
  unfold dcV
  cases hV : clT n ops with
  | none => exact ⟨by simp, fun f hf => by simp at hf⟩
  | some T =>
    obtain ⟨m, rfl, -, -, hC⟩ := clT_some hV
    dsimp only
    rw [Int.toNat_natCast]
    cases hD : dS m T with
    | none => exact ⟨by simp, fun f hf => by simp at hf⟩
    | some c =>
      obtain ⟨c1, c2, c3⟩ := shV_len hD
      refine ⟨by rw [opsC_len]; exact c2, fun f hf => ?_⟩
      obtain ⟨g, hg, rfl⟩ := List.mem_map.1 hf
      have hgT := c3 g hg
      have : T.getD g [] ∈ T := by rw [List.getD_eq_getElem?_getD, List.getElem?_eq_getElem hgT]; exact List.getElem_mem _
      rw [show (OpD.mk 3 (T.getD g [])).tb = T.getD g [] from rfl, (hC.row _ this).1]
      exact hC.cube
end Go.Proofs.Ytogfibhhfimbjaa
