/- Walk: the program's new tables. -/
import Derived.Test.YtfpghibjbcdinaaB4
namespace Go.Proofs.Ytfpghibjbcdinaa
open Go Go.Pv Go.Proofs

def falses (n : Nat) : List (List Bool) := List.replicate n (List.replicate n false)
abbrev gridB (t : List (List Bool)) : HO := .grid 66 4 (t.map fun r => r.map B)
set_option maxHeartbeats 1000000 in
set_option maxRecDepth 100000 in
theorem newOrder_c (n : Nat) (hn : n ≤ 1024) : RCalls Try.prog 107 [I (n : Int)] (gridB (falses n)) (.hp 0) := by
  refine pcallsR1 Try.func107 rfl Try.ntmps107 rfl ?_
  simp only [List.length_cons, List.length_nil, Nat.reduceAdd, Nat.reduceSub, List.replicate_succ, List.replicate_zero, List.cons_append, List.nil_append]
  repeat' (first
| refine g_seq ?_
| refine g_block ?_
| refine g_region ?_
| (refine o_go rfl ?_; (first
| refine p_e rfl (e_makeG 4 rfl rfl rfl (by omega) (by omega) (by omega) rfl) ?_
| refine p_p (ps_move rfl) ?_
| refine p_p (ps_assign rfl) ?_
| refine p_p (ps_len_pg rfl rfl rfl rfl) ?_); refine ⟨_, (by dsimp only [St.put, St.setObj, St.ev, killP, killA, killP1, killH, mapHO, renP, renA, ren1, killG, killGA, killG1, krowP, krowA, krow1, lendP, lendA, lend1, unv, pinP, pin1, elemsM, viewM, viewN, viewV, n_set_z, n_set_s, n_map_c, n_map_n, getD_z, getD_s, n_toNat, n_cond_t, n_cond_f, n_len_c, n_len_n, n_app_c, n_app_n, n_take_s, n_take_z, n_drop_s, n_drop_z, n_get_z, n_get_s, view, viewA, view1, elems, Nat.reduceAdd, Nat.reduceMul, Nat.zero_add, Nat.add_zero, Nat.reduceBEq, Bool.not_true, Bool.not_false, Nat.one_ne_zero, Nat.mul_one, reduceCtorEq]), ?_⟩)
| refine o_nil ?_)
  refine g_loopT (α := Nat) (fun x => [(9, I (x : Int))]) (fun x => [.pg 66 4 n (List.replicate x (List.replicate n (B false)))]) (fun x => x ≤ n) (fun x => n - x) 0 (by simp only [havoc, dsts, List.filterMap_cons, List.filterMap_nil, List.foldl_cons, List.foldl_nil, List.cons_append, List.nil_append, List.append_nil, List.set_cons_succ, List.set_cons_zero]; exact rfl) (Nat.zero_le _) ⟨rfl, trivial⟩ rfl ?_
  rintro x hx
  dsimp only [setMany, List.set_cons_zero, List.set_cons_succ]
  repeat' (first
| refine g_seq ?_
| refine g_block ?_
| refine g_region ?_
| (refine o_go rfl ?_; (first
| refine p_p (ps_move rfl) ?_
| refine p_p (ps_assign rfl) ?_
| refine p_p (ps_lss rfl rfl rfl) ?_
| refine p_p (ps_add rfl rfl rfl (by constructor <;> omega)) ?_
| refine p_p (ps_index_pg rfl rfl rfl rfl (by omega) (by first | omega | (rw [n_toNat]; omega))) ?_
| refine p_e rfl (e_store_row rfl rfl rfl rfl (by first | omega | (simp; done) | (simp; omega)) (by omega) rfl rfl rfl (by first | exact one_all (fun _ => rfl) _ | exact one_rep rfl _ | rfl)) ?_
| refine p_e rfl (e_make1 rfl rfl rfl (by omega) (by omega) (by omega) rfl rfl) ?_); refine ⟨_, (by dsimp only [St.put, St.setObj, St.ev, killP, killA, killP1, killH, mapHO, renP, renA, ren1, killG, killGA, killG1, krowP, krowA, krow1, lendP, lendA, lend1, unv, pinP, pin1, elemsM, viewM, viewN, viewV, n_set_z, n_set_s, n_map_c, n_map_n, getD_z, getD_s, n_toNat, n_cond_t, n_cond_f, n_len_c, n_len_n, n_app_c, n_app_n, n_take_s, n_take_z, n_drop_s, n_drop_z, n_get_z, n_get_s, view, viewA, view1, elems, Nat.reduceAdd, Nat.reduceMul, Nat.zero_add, Nat.add_zero, Nat.reduceBEq, Bool.not_true, Bool.not_false, Nat.one_ne_zero, Nat.mul_one, reduceCtorEq]), ?_⟩)
| refine o_nil ?_
| (refine g_condD rfl (fun hc => ?_) (fun hc => ?_) <;> try (exfalso; omega))
| refine g_skip ?_
| refine g_exit ?_
| refine g_ret ?_)
  · refine k_round (x + 1) (by omega) (by omega) (by repeat (first | exact trivial | refine ⟨.inl rfl, ?_⟩ | refine ⟨.inr rfl, ?_⟩)) ⟨rfl, trivial⟩ (hpLe_cons ?_ (hpLe_nil _))
    rw [List.replicate_succ' (n := x)]
  · have hxn : x = n := by omega
    subst hxn
    refine krr 0 rfl (HandOut.pg rfl ?_ (by simp [falses]) (sc_maps (fun _ => rfl) _))
    simp [falses]
end Go.Proofs.Ytfpghibjbcdinaa
