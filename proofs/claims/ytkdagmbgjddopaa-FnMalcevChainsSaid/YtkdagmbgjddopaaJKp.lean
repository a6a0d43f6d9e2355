/- Walks: translated pairs, the program's side. -/
import Derived.Test.YtkdagmbgjddopaaJKo
namespace Go.Proofs.Ytkdagmbgjddopaa
open Go Go.Pv Go.Proofs
set_option maxHeartbeats 32000000
set_option maxRecDepth 100000
attribute [local bitvec_to_nat] St.put St.setObj St.ev killP killA killP1 killH mapHO renP renA ren1 killG killGA killG1 krowP krowA krow1 lendP lendA lend1 unv pinP pin1 elemsM viewM viewN viewV n_set_z n_set_s n_map_c n_map_n getD_z getD_s n_toNat n_cond_t n_cond_f n_len_c n_len_n n_app_c n_app_n n_take_s n_take_z n_drop_s n_drop_z n_get_z n_get_s view viewA view1 elems Nat.zero_add Nat.add_zero Bool.not_true Bool.not_false Nat.one_ne_zero Nat.mul_one
attribute [local bitvec_to_nat] posI optP lendM1 lendMA lendMP killM1 killMA killMP hasI getO backM1 backMA backMP putL inpM pinM1 pinMA pinMP

def hvL (n : Nat) (L : List (Nat × Nat)) : List Bool := (List.range (n * n)).map fun k => (L.map fun pr => kyP n pr.1 pr.2).contains k
theorem hvL_len (n : Nat) (L : List (Nat × Nat)) : (hvL n L).length = n * n := by simp [hvL]
abbrev hvO (n : Nat) (L : List (Nat × Nat)) : HO := .arr true 1 4 ((hvL n L).map B)
theorem hvL_at {n s t : Nat} {L : List (Nat × Nat)} (hs : s < n) (ht : t < n) : ((hvL n L).map B)[kyP n s t * 1]? = some (B (hasP n L s t)) := by
  unfold hvL
  rw [Nat.mul_one, List.getElem?_map, List.getElem?_map, List.getElem?_range (kyP_lt hs ht)]; rfl
theorem hvL_set {n s t : Nat} {L : List (Nat × Nat)} {a b : Nat} (hk : kyP n a b = kyP n s t) : ((hvL n L).map B).set (kyP n s t * 1) (B true) = (hvL n (L ++ [(a, b)])).map B := by
  rw [Nat.mul_one, ← List.map_set]
  congr 1
  unfold hvL
  refine List.ext_getElem (by simp) fun k h1 h2 => ?_
  rw [List.getElem_set]
  simp only [List.getElem_map, List.getElem_range, List.map_append, List.map_cons, List.map_nil, hk, List.contains_eq_mem, List.mem_append, List.mem_singleton]
  split
  · next e => exact (decide_eq_true (.inr e.symm)).symm
  · next e =>
    congr 1
    exact propext ⟨.inl, fun h => h.elim id fun h => absurd h.symm e⟩
def insT (n : Nat) (L : List (Nat × Nat)) (s t : Nat) : List (Nat × Nat) := if hasP n L s t then L else L ++ [(min s t, max s t)]
theorem ky_mm (n s t : Nat) : kyP n (min s t) (max s t) = kyP n s t := by
  unfold kyP
  rw [show min (min s t) (max s t) = min s t by omega, show max (min s t) (max s t) = max s t by omega]
theorem hvL_nil (n : Nat) : (hvL n []).map B = List.replicate (n * n) (B false) := by
  refine List.ext_getElem (by simp [hvL]) fun k h1 h2 => by simp [hvL]
theorem tr1_c (n : Nat) (L : List (Nat × Nat)) (s t : Nat) (hn : n ≤ 8) (hs : s < n) (ht : t < n) (hL : L.length ≤ 1000) :
    MCalls Try.prog 56 [.box [.hp 1], hvO n L, .box [I (n : Int)], prO L] [.hp 3, I (s : Int), I (t : Int), .hat 0 0, .hat 2 0] [.box [.hp 1], hvO n (insT n L s t), .box [I (n : Int)], prO (insT n L s t)] [0, 2] (.hp 3) := by
  refine pcallsM1 Try.func56 rfl Try.ntmps56 rfl rfl fun bd => ?_
  simp only [List.length_cons, List.length_nil, Nat.reduceAdd, Nat.reduceSub, List.replicate_succ, List.replicate_zero, List.map_cons, List.map_nil, List.cons_append, List.nil_append]; dsimp only [pinMP, pinMA, pinM1, hasI, List.map_cons, List.map_nil, Nat.reduceBEq, n_cond_t, n_cond_f]
  have hat := hvL_at (n := n) (L := L) hs ht
  have hset := hvL_set (n := n) (s := s) (t := t) (L := L) (ky_mm n s t)
  have hky : kyP n s t = min s t * n + max s t := rfl
  have hb := kyP_lt hs ht
  have hlen : ((hvL n L).map B).length = n * n := by rw [List.length_map, hvL_len]
  have hPl : (L.map prP).length = L.length := List.length_map _
  have hml : min s t * n ≤ 64 := Nat.le_trans (Nat.mul_le_mul (show min s t ≤ 8 by omega) hn) (by decide)
  unfold insT
  rw [hky] at hat hset hb
  by_cases hlt : t < s
  · have hmin : min s t = t := by omega
    have hmax : max s t = s := by omega
    rw [hmin, hmax] at hat hset hb
    rw [hmin] at hml
    rw [hmin, hmax]
    have hmul : (t : Int) * (n : Int) = ((t * n : Nat) : Int) := by push_cast; rfl
    have hadd : ((t * n : Nat) : Int) + (s : Int) = ((t * n + s : Nat) : Int) := by omega
    generalize t * n + s = ky at *
    cases hp : hasP n L s t with
    | true =>
      rw [hp] at hat
      rw [if_pos rfl]
      repeat' (first
| refine g_seq ?_
| refine g_region ?_
| (refine o_go rfl ?_; (first
| refine p_p (ps_unv (ps_load_box rfl rfl rfl rfl)) ?_
| refine p_p (ps_mulV rfl rfl rfl hmul (by omega)) ?_
| refine p_p (ps_addV rfl rfl rfl hadd (by omega)) ?_
| refine p_p (ps_index_mut rfl rfl rfl rfl (by omega) (by rw [n_toNat]; omega)) ?_
| refine p_p (ps_load_arr rfl rfl rfl hat (by rfl)) ?_
| refine p_p (ps_move rfl) ?_
| refine p_p (ps_assign rfl) ?_
| refine p_p (ps_gtr rfl rfl rfl) ?_); refine ⟨_, aA, ?_⟩)
| refine o_nil ?_
| refine g_condT rfl ?_
| (refine g_condD rfl (fun hc => ?_) (fun hc => ?_) <;> try (exfalso; omega))
| refine g_ret ?_)
      all_goals try (exfalso; omega)
      exact krm (hpLe_refl _) ⟨⟨3, 0, rfl⟩, ⟨4, 0, rfl⟩, trivial⟩ (leS_refl _)
    | false =>
      rw [hp] at hat
      rw [if_neg (by decide)]
      repeat' (first
| refine g_seq ?_
| refine g_region ?_
| (refine o_go rfl ?_; (first
| refine p_p (ps_unv (ps_load_box rfl rfl rfl rfl)) ?_
| refine p_p (ps_mulV rfl rfl rfl hmul (by omega)) ?_
| refine p_p (ps_addV rfl rfl rfl hadd (by omega)) ?_
| refine p_p (ps_index_mut rfl rfl rfl rfl (by omega) (by rw [n_toNat]; omega)) ?_
| refine p_p (ps_load_arr rfl rfl rfl hat (by rfl)) ?_
| refine p_e (by kernel_rfl) (e_store_arr rfl rfl rfl rfl (by omega) rfl rfl) ?_
| refine p_p (ps_buildArr rfl rfl) ?_
| refine p_p (ps_litA [I _, I _] rfl rfl (by rfl) (by decide) (by decide)) ?_
| refine p_e (by kernel_rfl) (e_append rfl rfl rfl rfl rfl rfl (one_ag rfl) rfl aO aO) ?_
| refine p_p (ps_move rfl) ?_
| refine p_p (ps_assign rfl) ?_
| refine p_p (ps_gtr rfl rfl rfl) ?_); refine ⟨_, aA, ?_⟩)
| refine o_nil ?_
| refine g_condF rfl ?_
| (refine g_condD rfl (fun hc => ?_) (fun hc => ?_) <;> try (exfalso; omega))
| refine g_skip ?_
| refine g_ret ?_)
      all_goals try (exfalso; omega)
      refine krm (hpLe_cons rfl (hpLe_cons (congrArg (HO.arr true 1 4) hset) (hpLe_cons rfl (hpLe_cons ?_ (hpLe_nil _))))) ⟨⟨3, 0, rfl⟩, ⟨4, 0, rfl⟩, trivial⟩ (leS_refl _)
      show HO.arr true 2 _ _ = HO.arr true 2 _ ((L ++ [_]).map prP)
      rw [List.map_append]; rfl
  · have hmin : min s t = s := by omega
    have hmax : max s t = t := by omega
    rw [hmin, hmax] at hat hset hb
    rw [hmin] at hml
    rw [hmin, hmax]
    have hmul : (s : Int) * (n : Int) = ((s * n : Nat) : Int) := by push_cast; rfl
    have hadd : ((s * n : Nat) : Int) + (t : Int) = ((s * n + t : Nat) : Int) := by omega
    generalize s * n + t = ky at *
    cases hp : hasP n L s t with
    | true =>
      rw [hp] at hat
      rw [if_pos rfl]
      repeat' (first
| refine g_seq ?_
| refine g_region ?_
| (refine o_go rfl ?_; (first
| refine p_p (ps_unv (ps_load_box rfl rfl rfl rfl)) ?_
| refine p_p (ps_mulV rfl rfl rfl hmul (by omega)) ?_
| refine p_p (ps_addV rfl rfl rfl hadd (by omega)) ?_
| refine p_p (ps_index_mut rfl rfl rfl rfl (by omega) (by rw [n_toNat]; omega)) ?_
| refine p_p (ps_load_arr rfl rfl rfl hat (by rfl)) ?_
| refine p_p (ps_move rfl) ?_
| refine p_p (ps_assign rfl) ?_
| refine p_p (ps_gtr rfl rfl rfl) ?_); refine ⟨_, aA, ?_⟩)
| refine o_nil ?_
| refine g_condT rfl ?_
| (refine g_condD rfl (fun hc => ?_) (fun hc => ?_) <;> try (exfalso; omega))
| refine g_skip ?_
| refine g_ret ?_)
      all_goals try (exfalso; omega)
      exact krm (hpLe_refl _) ⟨⟨3, 0, rfl⟩, ⟨4, 0, rfl⟩, trivial⟩ (leS_refl _)
    | false =>
      rw [hp] at hat
      rw [if_neg (by decide)]
      repeat' (first
| refine g_seq ?_
| refine g_region ?_
| (refine o_go rfl ?_; (first
| refine p_p (ps_unv (ps_load_box rfl rfl rfl rfl)) ?_
| refine p_p (ps_mulV rfl rfl rfl hmul (by omega)) ?_
| refine p_p (ps_addV rfl rfl rfl hadd (by omega)) ?_
| refine p_p (ps_index_mut rfl rfl rfl rfl (by omega) (by rw [n_toNat]; omega)) ?_
| refine p_p (ps_load_arr rfl rfl rfl hat (by rfl)) ?_
| refine p_e (by kernel_rfl) (e_store_arr rfl rfl rfl rfl (by omega) rfl rfl) ?_
| refine p_p (ps_buildArr rfl rfl) ?_
| refine p_p (ps_litA [I _, I _] rfl rfl (by rfl) (by decide) (by decide)) ?_
| refine p_e (by kernel_rfl) (e_append rfl rfl rfl rfl rfl rfl (one_ag rfl) rfl aO aO) ?_
| refine p_p (ps_move rfl) ?_
| refine p_p (ps_assign rfl) ?_
| refine p_p (ps_gtr rfl rfl rfl) ?_); refine ⟨_, aA, ?_⟩)
| refine o_nil ?_
| refine g_condF rfl ?_
| (refine g_condD rfl (fun hc => ?_) (fun hc => ?_) <;> try (exfalso; omega))
| refine g_skip ?_
| refine g_ret ?_)
      all_goals try (exfalso; omega)
      refine krm (hpLe_cons rfl (hpLe_cons (congrArg (HO.arr true 1 4) hset) (hpLe_cons rfl (hpLe_cons ?_ (hpLe_nil _))))) ⟨⟨3, 0, rfl⟩, ⟨4, 0, rfl⟩, trivial⟩ (leS_refl _)
      show HO.arr true 2 _ _ = HO.arr true 2 _ ((L ++ [_]).map prP)
      rw [List.map_append]; rfl
theorem tr0_c (n : Nat) (s t : Nat) (hn : n ≤ 8) (hs : s < n) (ht : t < n) :
    MCalls Try.prog 56 [.box [.hp 1], hvO n [], .box [I (n : Int)], .gone] [nilV, I (s : Int), I (t : Int), .hat 0 0, .hat 2 0] [.box [.hp 1], hvO n [(min s t, max s t)], .box [I (n : Int)], prO [(min s t, max s t)]] [0, 2] (.hp 3) := by
  refine pcallsM1 Try.func56 rfl Try.ntmps56 rfl rfl fun bd => ?_
  simp only [List.length_cons, List.length_nil, Nat.reduceAdd, Nat.reduceSub, List.replicate_succ, List.replicate_zero, List.map_cons, List.map_nil, List.cons_append, List.nil_append]; dsimp only [pinMP, pinMA, pinM1, hasI, List.map_cons, List.map_nil, Nat.reduceBEq, n_cond_t, n_cond_f]
  have hat := hvL_at (n := n) (L := []) hs ht
  have hset := hvL_set (n := n) (s := s) (t := t) (L := []) (ky_mm n s t)
  have hky : kyP n s t = min s t * n + max s t := rfl
  have hb := kyP_lt hs ht
  have hlen : ((hvL n []).map B).length = n * n := by rw [List.length_map, hvL_len]
  have hml : min s t * n ≤ 64 := Nat.le_trans (Nat.mul_le_mul (show min s t ≤ 8 by omega) hn) (by decide)
  rw [show hasP n [] s t = false from rfl] at hat
  rw [List.nil_append] at hset
  rw [hky] at hat hset hb
  by_cases hlt : t < s
  · have hmin : min s t = t := by omega
    have hmax : max s t = s := by omega
    rw [hmin, hmax] at hat hset hb
    rw [hmin] at hml
    rw [hmin, hmax]
    have hmul : (t : Int) * (n : Int) = ((t * n : Nat) : Int) := by push_cast; rfl
    have hadd : ((t * n : Nat) : Int) + (s : Int) = ((t * n + s : Nat) : Int) := by omega
    generalize t * n + s = ky at *
    repeat' (first
| refine g_seq ?_
| refine g_region ?_
| (refine o_go rfl ?_; (first
| refine p_p (ps_unv (ps_load_box rfl rfl rfl rfl)) ?_
| refine p_p (ps_mulV rfl rfl rfl hmul (by omega)) ?_
| refine p_p (ps_addV rfl rfl rfl hadd (by omega)) ?_
| refine p_p (ps_index_mut rfl rfl rfl rfl (by omega) (by rw [n_toNat]; omega)) ?_
| refine p_p (ps_load_arr rfl rfl rfl hat (by rfl)) ?_
| refine p_e (by kernel_rfl) (e_store_arr rfl rfl rfl rfl (by omega) rfl rfl) ?_
| refine p_p (ps_buildArr rfl rfl) ?_
| refine p_p (ps_litA [I _, I _] rfl rfl (by rfl) (by decide) (by decide)) ?_
| refine p_e (by kernel_rfl) (e_appendNil rfl rfl rfl rfl (one_ag rfl) (by decide) rfl aO aO aO) ?_
| refine p_p (ps_move rfl) ?_
| refine p_p (ps_assign rfl) ?_
| refine p_p (ps_gtr rfl rfl rfl) ?_); refine ⟨_, aA, ?_⟩)
| refine o_nil ?_
| refine g_condF rfl ?_
| (refine g_condD rfl (fun hc => ?_) (fun hc => ?_) <;> try (exfalso; omega))
| refine g_skip ?_
| refine g_ret ?_)
    all_goals try (exfalso; omega)
    refine ⟨.inr rfl, _, Turns.move 4 3 (by decide) rfl, hpLe_cons rfl (hpLe_cons (congrArg (HO.arr true 1 4) hset) (hpLe_cons rfl (hpLe_cons rfl (hpLe_nil _)))), ⟨⟨3, 0, rfl⟩, ⟨4, 0, rfl⟩, trivial⟩, leS_refl _⟩
  · have hmin : min s t = s := by omega
    have hmax : max s t = t := by omega
    rw [hmin, hmax] at hat hset hb
    rw [hmin] at hml
    rw [hmin, hmax]
    have hmul : (s : Int) * (n : Int) = ((s * n : Nat) : Int) := by push_cast; rfl
    have hadd : ((s * n : Nat) : Int) + (t : Int) = ((s * n + t : Nat) : Int) := by omega
    generalize s * n + t = ky at *
    repeat' (first
| refine g_seq ?_
| refine g_region ?_
| (refine o_go rfl ?_; (first
| refine p_p (ps_unv (ps_load_box rfl rfl rfl rfl)) ?_
| refine p_p (ps_mulV rfl rfl rfl hmul (by omega)) ?_
| refine p_p (ps_addV rfl rfl rfl hadd (by omega)) ?_
| refine p_p (ps_index_mut rfl rfl rfl rfl (by omega) (by rw [n_toNat]; omega)) ?_
| refine p_p (ps_load_arr rfl rfl rfl hat (by rfl)) ?_
| refine p_e (by kernel_rfl) (e_store_arr rfl rfl rfl rfl (by omega) rfl rfl) ?_
| refine p_p (ps_buildArr rfl rfl) ?_
| refine p_p (ps_litA [I _, I _] rfl rfl (by rfl) (by decide) (by decide)) ?_
| refine p_e (by kernel_rfl) (e_appendNil rfl rfl rfl rfl (one_ag rfl) (by decide) rfl aO aO aO) ?_
| refine p_p (ps_move rfl) ?_
| refine p_p (ps_assign rfl) ?_
| refine p_p (ps_gtr rfl rfl rfl) ?_); refine ⟨_, aA, ?_⟩)
| refine o_nil ?_
| refine g_condF rfl ?_
| (refine g_condD rfl (fun hc => ?_) (fun hc => ?_) <;> try (exfalso; omega))
| refine g_skip ?_
| refine g_ret ?_)
    all_goals try (exfalso; omega)
    refine ⟨.inr rfl, _, Turns.move 4 3 (by decide) rfl, hpLe_cons rfl (hpLe_cons (congrArg (HO.arr true 1 4) hset) (hpLe_cons rfl (hpLe_cons rfl (hpLe_nil _)))), ⟨⟨3, 0, rfl⟩, ⟨4, 0, rfl⟩, trivial⟩, leS_refl _⟩
end Go.Proofs.Ytkdagmbgjddopaa
