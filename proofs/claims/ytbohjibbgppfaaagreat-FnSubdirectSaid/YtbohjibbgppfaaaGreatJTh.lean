/- Walks: blocks, the program's side (printed by mkXTh.py): each row is an own array that grows. -/
import Derived.Test.YtbohjibbgppfaaaGreatJTg
import Derived.Test.YtbohjibbgppfaaaGreatJKv
import Derived.Test.YtbohjibbgppfaaaGreatJSq
namespace Go.Proofs.YtbohjibbgppfaaaGreat
open Go Go.Pv Go.Proofs
set_option maxHeartbeats 32000000
set_option maxRecDepth 100000
attribute [local bitvec_to_nat] St.put St.setObj St.ev killP killA killP1 killH mapHO renP renA ren1 killG killGA killG1 krowP krowA krow1 lendP lendA lend1 unv pinP pin1 elemsM viewM viewN viewV n_set_z n_set_s n_map_c n_map_n getD_z getD_s n_toNat n_cond_t n_cond_f n_len_c n_len_n n_app_c n_app_n n_take_s n_take_z n_drop_s n_drop_z n_get_z n_get_s view viewA view1 elems Nat.zero_add Nat.add_zero Bool.not_true Bool.not_false Nat.one_ne_zero Nat.mul_one

theorem iblk1_c (ops : List OpD) (L : List (List Int)) (hs : szOk ops) (hb : acsB (1 : Int) ops L = true) (hPt : ∀ p ∈ L, Pt 1 p) (h20 : L.length ≤ 20) : PCalls Tryz.prog 30 [algP (1 : Int) ops, intss L] (.tup [intss (blR 1 L 1), B true]) := by
  refine pcalls2 Tryz.func30 rfl Tryz.ntmps30 rfl ?_
  refine wF ?_
  have h1 := iacs_c 1 ops L hs (by omega) (fun p hp => by rw [(hPt p hp).len]; omega)
  rw [hb] at h1
  repeat' (first
| refine wO ?_
| (refine o_go rfl ?_; (first
| refine p_p (zG rfl rfl aB (h1)) ?_
| refine p_e rfl (e_makeBox rfl rfl rfl (by omega) (by omega) (by omega) (by rfl)) ?_
| refine p_p (ps_len_box rfl rfl rfl rfl) ?_
| refine wS ?_
| refine p_p (ps_load_agg rfl rfl aK) ?_
| refine p_p (ps_box rfl rfl) ?_); refine ⟨_, aA, ?_⟩)
| refine wE ?_)
  rw [List.length_replicate]
  refine g_castH (hp' := [.box [nilV]]) rfl ?_
  refine g_loopF (α := Nat) [19, 20] (fun x => [(6, .hp 0), (22, I (x : Int))]) (fun x => match x with | 0 => [.box [nilV]] | _ => [.box [.hp 1], .arr true 1 3 []]) (fun x => x ≤ 1) (fun x => 1 - x) 0 aF (Nat.zero_le _) ⟨rfl, rfl, trivial⟩ rfl ?_
  rintro x hx
  have hx' : x = 0 ∨ x = 1 := by omega
  rcases hx' with rfl | rfl
  · dsimp only [zZ, List.set_cons_zero, List.set_cons_succ]
    repeat' (first
| refine wO ?_
| (refine o_go rfl ?_; (first
| refine p_e rfl (e_lit0T rfl (by decide)) ?_
| refine p_p (ps_index_box rfl rfl rfl rfl (by omega) (by decide)) ?_
| refine p_e (by kernel_rfl) (e_store_boxC rfl rfl rfl rfl (by decide) rfl rfl) ?_
| refine wS ?_); refine ⟨_, aA, ?_⟩)
| refine wE ?_)
    all_goals try (exfalso; omega)
    exact zT 1 (by omega) (by omega) aI ⟨rfl, rfl, trivial⟩ (zB rfl (zB rfl (zM _)))
  · dsimp only [zZ, List.set_cons_zero, List.set_cons_succ]
    repeat' (first
| refine wO ?_
| (refine o_go rfl ?_; (first
| refine wS ?_); refine ⟨_, aA, ?_⟩)
| refine wE ?_)
    all_goals try (exfalso; omega)
    refine g_loopF (α := Nat) [] (fun j => [(6, .hp 0), (32, I (j : Int))]) (fun j => [.box [.hp 1], .arr true 1 3 ((blX 1 (L.take j) 0).map I)]) (fun j => j ≤ L.length) (fun j => L.length - j) 0 aF (Nat.zero_le _) ⟨rfl, rfl, trivial⟩ rfl ?_
    rintro j hj
    dsimp only [zZ, List.set_cons_zero, List.set_cons_succ]
    have hrl : ∀ x, ((blX 1 (L.take j) x).map I).length = j := fun x => by simp [blX]; omega
    by_cases hjl : j < L.length
    · have rj := rows_at hjl
      have pj := hPt _ (rows_mem hjl)
      have n1 := inat_c 1 (L.getD j []) (by omega) pj
      have hsn : ∀ x, blX 1 (L.take (j + 1)) x = blX 1 (L.take j) x ++ [(natL 1 (L.getD j [])).getD x 0] := fun x => by unfold blX; rw [take_snoc [] hjl, List.map_append]; rfl
      have ix0 := nat_rowT (n := 1) (p := L.getD j []) (x := 0) (by omega)
      have hGl : ((natL 1 (L.getD j [])).map I).length = 1 := by rw [List.length_map, nat_len]
      have hGn : (natL 1 (L.getD j [])).length = 1 := nat_len _ _
      generalize natL 1 (L.getD j []) = G at *
      repeat' (first
| refine wO ?_
| (refine o_go rfl ?_; (first
| refine p_p (zN rfl rfl rfl (by omega) rj (by exact rfl)) ?_
| refine p_p (zG rfl rfl aB (n1)) ?_
| refine wS ?_); refine ⟨_, aA, ?_⟩)
| (refine zK rfl (fun hc => ?_) (fun hc => ?_) <;> try (exfalso; omega))
| refine wE ?_)
      all_goals try (exfalso; omega)
      refine g_loopF (α := Nat) [] (fun x => [(6, .hp 0), (39, I (x : Int))]) (fun x => match x with | 0 => [.box [.hp 1], .arr true 1 3 ((blX 1 (L.take j) 0).map I)] | _ => [.box [.hp 1], .arr true 1 3 ((blX 1 (L.take (j + 1)) 0).map I)]) (fun x => x ≤ 1) (fun x => 1 - x) 0 aF (Nat.zero_le _) ⟨rfl, rfl, trivial⟩ rfl ?_
      rintro x hx
      have hx' : x = 0 ∨ x = 1 := by omega
      rcases hx' with rfl | rfl
      · dsimp only [zZ, List.set_cons_zero, List.set_cons_succ]
        repeat' (first
| refine wO ?_
| (refine o_go rfl ?_; (first
| refine p_p (zN rfl rfl rfl (by omega) ix0 (by exact rfl)) ?_
| refine p_p (ps_index_box rfl rfl rfl rfl (by omega) (by decide)) ?_
| refine wS ?_
| refine p_e (by kernel_rfl) (e_append rfl rfl rfl rfl rfl rfl (one_one rfl) rfl (by rw [hrl, n_len_c, n_len_n]; omega) (by rw [hrl, n_len_c, n_len_n]; omega)) ?_
| refine p_e (by kernel_rfl) (e_store_boxC rfl rfl rfl rfl (by decide) rfl rfl) ?_
| refine p_p (ps_lit1 rfl rfl (by rfl) (by rfl)) ?_); refine ⟨_, aA, ?_⟩)
| (refine zK rfl (fun hc => ?_) (fun hc => ?_) <;> try (exfalso; omega))
| refine wE ?_)
        all_goals try (exfalso; omega)
        exact zT 1 (by omega) (by omega) aI ⟨rfl, rfl, trivial⟩ (zB rfl (zB (by rw [hsn, List.map_append]; rfl) (zM _)))
      · dsimp only [zZ, List.set_cons_zero, List.set_cons_succ]
        repeat' (first
| refine wO ?_
| (refine o_go rfl ?_; (first
| refine wS ?_); refine ⟨_, aA, ?_⟩)
| (refine zK rfl (fun hc => ?_) (fun hc => ?_) <;> try (exfalso; omega))
| refine wE ?_)
        all_goals try (exfalso; omega)
        exact zT (K := fun _ _ => True) (j + 1) (by omega) (by omega) aI ⟨rfl, rfl, trivial⟩ (zB rfl (zB rfl (zM _)))
    · rw [List.take_of_length_le (show L.length ≤ j by omega)]
      repeat' ((fail_if_success (refine at_reg1 18 ?_); fail_if_success (refine at_reg0 18 ?_)); (first
| refine wO ?_
| (refine o_go rfl ?_; (first
| refine wS ?_); refine ⟨_, aA, ?_⟩)
| (refine zK rfl (fun hc => ?_) (fun hc => ?_) <;> try (exfalso; omega))
| refine g_exit ?_))
      all_goals try (exfalso; omega)
      first | refine at_reg1 18 ?_ | refine at_reg0 18 ?_
      refine g_freezeP 1 rfl ⟨_, by dsimp only [bitvec_to_nat, Nat.reduceAdd, Nat.reduceMul, Nat.reduceBEq, reduceCtorEq], ?_⟩
      refine g_settleS 0 (l' := [ints (blX 1 L 0)]) rfl rfl (by intro p hp; simp only [List.mem_cons, List.not_mem_nil, or_false] at hp; rcases hp with rfl <;> rfl) (by dsimp only [setSP, setSA, setS1, setSH, bitvec_to_nat, Nat.reduceAdd, Nat.reduceMul, Nat.reduceBEq, reduceCtorEq]) ?_
      repeat' (first
| refine wO ?_
| (refine o_go rfl ?_; (first
| refine wS ?_); refine ⟨_, aA, ?_⟩)
| refine kr2 ?_ ?_
| refine krB rfl ?_
| refine krS rfl ?_
| refine wE ?_)
      all_goals first | rfl | (exfalso; omega)
theorem iblk2_c (ops : List OpD) (L : List (List Int)) (hs : szOk ops) (hb : acsB (2 : Int) ops L = true) (hPt : ∀ p ∈ L, Pt 2 p) (h20 : L.length ≤ 20) : PCalls Tryz.prog 30 [algP (2 : Int) ops, intss L] (.tup [intss (blR 2 L 2), B true]) := by
  refine pcalls2 Tryz.func30 rfl Tryz.ntmps30 rfl ?_
  refine wF ?_
  have h1 := iacs_c 2 ops L hs (by omega) (fun p hp => by rw [(hPt p hp).len]; omega)
  rw [hb] at h1
  repeat' (first
| refine wO ?_
| (refine o_go rfl ?_; (first
| refine p_p (zG rfl rfl aB (h1)) ?_
| refine p_e rfl (e_makeBox rfl rfl rfl (by omega) (by omega) (by omega) (by rfl)) ?_
| refine p_p (ps_len_box rfl rfl rfl rfl) ?_
| refine wS ?_
| refine p_p (ps_load_agg rfl rfl aK) ?_
| refine p_p (ps_box rfl rfl) ?_); refine ⟨_, aA, ?_⟩)
| refine wE ?_)
  rw [List.length_replicate]
  refine g_castH (hp' := [.box [nilV, nilV]]) rfl ?_
  refine g_loopF (α := Nat) [19, 20] (fun x => [(6, .hp 0), (22, I (x : Int))]) (fun x => match x with | 0 => [.box [nilV, nilV]] | 1 => [.box [.hp 1, nilV], .arr true 1 3 []] | _ => [.box [.hp 1, .hp 2], .arr true 1 3 [], .arr true 1 3 []]) (fun x => x ≤ 2) (fun x => 2 - x) 0 aF (Nat.zero_le _) ⟨rfl, rfl, trivial⟩ rfl ?_
  rintro x hx
  have hx' : x = 0 ∨ x = 1 ∨ x = 2 := by omega
  rcases hx' with rfl | rfl | rfl
  · dsimp only [zZ, List.set_cons_zero, List.set_cons_succ]
    repeat' (first
| refine wO ?_
| (refine o_go rfl ?_; (first
| refine p_e rfl (e_lit0T rfl (by decide)) ?_
| refine p_p (ps_index_box rfl rfl rfl rfl (by omega) (by decide)) ?_
| refine p_e (by kernel_rfl) (e_store_boxC rfl rfl rfl rfl (by decide) rfl rfl) ?_
| refine wS ?_); refine ⟨_, aA, ?_⟩)
| refine wE ?_)
    all_goals try (exfalso; omega)
    exact zT 1 (by omega) (by omega) aI ⟨rfl, rfl, trivial⟩ (zB rfl (zB rfl (zM _)))
  · dsimp only [zZ, List.set_cons_zero, List.set_cons_succ]
    repeat' (first
| refine wO ?_
| (refine o_go rfl ?_; (first
| refine p_e rfl (e_lit0T rfl (by decide)) ?_
| refine p_p (ps_index_box rfl rfl rfl rfl (by omega) (by decide)) ?_
| refine p_e (by kernel_rfl) (e_store_boxC rfl rfl rfl rfl (by decide) rfl rfl) ?_
| refine wS ?_); refine ⟨_, aA, ?_⟩)
| refine wE ?_)
    all_goals try (exfalso; omega)
    exact zT 2 (by omega) (by omega) aI ⟨rfl, rfl, trivial⟩ (zB rfl (zB rfl (zB rfl (zM _))))
  · dsimp only [zZ, List.set_cons_zero, List.set_cons_succ]
    repeat' (first
| refine wO ?_
| (refine o_go rfl ?_; (first
| refine wS ?_); refine ⟨_, aA, ?_⟩)
| refine wE ?_)
    all_goals try (exfalso; omega)
    refine g_loopF (α := Nat) [] (fun j => [(6, .hp 0), (32, I (j : Int))]) (fun j => [.box [.hp 1, .hp 2], .arr true 1 3 ((blX 2 (L.take j) 0).map I), .arr true 1 3 ((blX 2 (L.take j) 1).map I)]) (fun j => j ≤ L.length) (fun j => L.length - j) 0 aF (Nat.zero_le _) ⟨rfl, rfl, trivial⟩ rfl ?_
    rintro j hj
    dsimp only [zZ, List.set_cons_zero, List.set_cons_succ]
    have hrl : ∀ x, ((blX 2 (L.take j) x).map I).length = j := fun x => by simp [blX]; omega
    by_cases hjl : j < L.length
    · have rj := rows_at hjl
      have pj := hPt _ (rows_mem hjl)
      have n1 := inat_c 2 (L.getD j []) (by omega) pj
      have hsn : ∀ x, blX 2 (L.take (j + 1)) x = blX 2 (L.take j) x ++ [(natL 2 (L.getD j [])).getD x 0] := fun x => by unfold blX; rw [take_snoc [] hjl, List.map_append]; rfl
      have ix0 := nat_rowT (n := 2) (p := L.getD j []) (x := 0) (by omega)
      have ix1 := nat_rowT (n := 2) (p := L.getD j []) (x := 1) (by omega)
      have hGl : ((natL 2 (L.getD j [])).map I).length = 2 := by rw [List.length_map, nat_len]
      have hGn : (natL 2 (L.getD j [])).length = 2 := nat_len _ _
      generalize natL 2 (L.getD j []) = G at *
      repeat' (first
| refine wO ?_
| (refine o_go rfl ?_; (first
| refine p_p (zN rfl rfl rfl (by omega) rj (by exact rfl)) ?_
| refine p_p (zG rfl rfl aB (n1)) ?_
| refine wS ?_); refine ⟨_, aA, ?_⟩)
| (refine zK rfl (fun hc => ?_) (fun hc => ?_) <;> try (exfalso; omega))
| refine wE ?_)
      all_goals try (exfalso; omega)
      refine g_loopF (α := Nat) [] (fun x => [(6, .hp 0), (39, I (x : Int))]) (fun x => match x with | 0 => [.box [.hp 1, .hp 2], .arr true 1 3 ((blX 2 (L.take j) 0).map I), .arr true 1 3 ((blX 2 (L.take j) 1).map I)] | 1 => [.box [.hp 1, .hp 2], .arr true 1 3 ((blX 2 (L.take (j + 1)) 0).map I), .arr true 1 3 ((blX 2 (L.take j) 1).map I)] | _ => [.box [.hp 1, .hp 2], .arr true 1 3 ((blX 2 (L.take (j + 1)) 0).map I), .arr true 1 3 ((blX 2 (L.take (j + 1)) 1).map I)]) (fun x => x ≤ 2) (fun x => 2 - x) 0 aF (Nat.zero_le _) ⟨rfl, rfl, trivial⟩ rfl ?_
      rintro x hx
      have hx' : x = 0 ∨ x = 1 ∨ x = 2 := by omega
      rcases hx' with rfl | rfl | rfl
      · dsimp only [zZ, List.set_cons_zero, List.set_cons_succ]
        repeat' (first
| refine wO ?_
| (refine o_go rfl ?_; (first
| refine p_p (zN rfl rfl rfl (by omega) ix0 (by exact rfl)) ?_
| refine p_p (ps_index_box rfl rfl rfl rfl (by omega) (by decide)) ?_
| refine wS ?_
| refine p_e (by kernel_rfl) (e_append rfl rfl rfl rfl rfl rfl (one_one rfl) rfl (by rw [hrl, n_len_c, n_len_n]; omega) (by rw [hrl, n_len_c, n_len_n]; omega)) ?_
| refine p_e (by kernel_rfl) (e_store_boxC rfl rfl rfl rfl (by decide) rfl rfl) ?_
| refine p_p (ps_lit1 rfl rfl (by rfl) (by rfl)) ?_); refine ⟨_, aA, ?_⟩)
| (refine zK rfl (fun hc => ?_) (fun hc => ?_) <;> try (exfalso; omega))
| refine wE ?_)
        all_goals try (exfalso; omega)
        exact zT 1 (by omega) (by omega) aI ⟨rfl, rfl, trivial⟩ (zB rfl (zB (by rw [hsn, List.map_append]; rfl) (zB rfl (zM _))))
      · dsimp only [zZ, List.set_cons_zero, List.set_cons_succ]
        repeat' (first
| refine wO ?_
| (refine o_go rfl ?_; (first
| refine p_p (zN rfl rfl rfl (by omega) ix1 (by exact rfl)) ?_
| refine p_p (ps_index_box rfl rfl rfl rfl (by omega) (by decide)) ?_
| refine wS ?_
| refine p_e (by kernel_rfl) (e_append rfl rfl rfl rfl rfl rfl (one_one rfl) rfl (by rw [hrl, n_len_c, n_len_n]; omega) (by rw [hrl, n_len_c, n_len_n]; omega)) ?_
| refine p_e (by kernel_rfl) (e_store_boxC rfl rfl rfl rfl (by decide) rfl rfl) ?_
| refine p_p (ps_lit1 rfl rfl (by rfl) (by rfl)) ?_); refine ⟨_, aA, ?_⟩)
| (refine zK rfl (fun hc => ?_) (fun hc => ?_) <;> try (exfalso; omega))
| refine wE ?_)
        all_goals try (exfalso; omega)
        exact zT 2 (by omega) (by omega) aI ⟨rfl, rfl, trivial⟩ (zB rfl (zB rfl (zB (by rw [hsn, List.map_append]; rfl) (zM _))))
      · dsimp only [zZ, List.set_cons_zero, List.set_cons_succ]
        repeat' (first
| refine wO ?_
| (refine o_go rfl ?_; (first
| refine wS ?_); refine ⟨_, aA, ?_⟩)
| (refine zK rfl (fun hc => ?_) (fun hc => ?_) <;> try (exfalso; omega))
| refine wE ?_)
        all_goals try (exfalso; omega)
        exact zT (K := fun _ _ => True) (j + 1) (by omega) (by omega) aI ⟨rfl, rfl, trivial⟩ (zB rfl (zB rfl (zB rfl (zM _))))
    · rw [List.take_of_length_le (show L.length ≤ j by omega)]
      repeat' ((fail_if_success (refine at_reg1 18 ?_); fail_if_success (refine at_reg0 18 ?_)); (first
| refine wO ?_
| (refine o_go rfl ?_; (first
| refine wS ?_); refine ⟨_, aA, ?_⟩)
| (refine zK rfl (fun hc => ?_) (fun hc => ?_) <;> try (exfalso; omega))
| refine g_exit ?_))
      all_goals try (exfalso; omega)
      first | refine at_reg1 18 ?_ | refine at_reg0 18 ?_
      refine g_freezeP 1 rfl ⟨_, by dsimp only [bitvec_to_nat, Nat.reduceAdd, Nat.reduceMul, Nat.reduceBEq, reduceCtorEq], ?_⟩
      refine g_freezeP 2 rfl ⟨_, by dsimp only [bitvec_to_nat, Nat.reduceAdd, Nat.reduceMul, Nat.reduceBEq, reduceCtorEq], ?_⟩
      refine g_settleS 0 (l' := [ints (blX 2 L 0), ints (blX 2 L 1)]) rfl rfl (by intro p hp; simp only [List.mem_cons, List.not_mem_nil, or_false] at hp; rcases hp with rfl | rfl <;> rfl) (by dsimp only [setSP, setSA, setS1, setSH, bitvec_to_nat, Nat.reduceAdd, Nat.reduceMul, Nat.reduceBEq, reduceCtorEq]) ?_
      repeat' (first
| refine wO ?_
| (refine o_go rfl ?_; (first
| refine wS ?_); refine ⟨_, aA, ?_⟩)
| refine kr2 ?_ ?_
| refine krB rfl ?_
| refine krS rfl ?_
| refine wE ?_)
      all_goals first | rfl | (exfalso; omega)
theorem iblk3_c (ops : List OpD) (L : List (List Int)) (hs : szOk ops) (hb : acsB (3 : Int) ops L = true) (hPt : ∀ p ∈ L, Pt 3 p) (h20 : L.length ≤ 20) : PCalls Tryz.prog 30 [algP (3 : Int) ops, intss L] (.tup [intss (blR 3 L 3), B true]) := by
  refine pcalls2 Tryz.func30 rfl Tryz.ntmps30 rfl ?_
  refine wF ?_
  have h1 := iacs_c 3 ops L hs (by omega) (fun p hp => by rw [(hPt p hp).len]; omega)
  rw [hb] at h1
  repeat' (first
| refine wO ?_
| (refine o_go rfl ?_; (first
| refine p_p (zG rfl rfl aB (h1)) ?_
| refine p_e rfl (e_makeBox rfl rfl rfl (by omega) (by omega) (by omega) (by rfl)) ?_
| refine p_p (ps_len_box rfl rfl rfl rfl) ?_
| refine wS ?_
| refine p_p (ps_load_agg rfl rfl aK) ?_
| refine p_p (ps_box rfl rfl) ?_); refine ⟨_, aA, ?_⟩)
| refine wE ?_)
  rw [List.length_replicate]
  refine g_castH (hp' := [.box [nilV, nilV, nilV]]) rfl ?_
  refine g_loopF (α := Nat) [19, 20] (fun x => [(6, .hp 0), (22, I (x : Int))]) (fun x => match x with | 0 => [.box [nilV, nilV, nilV]] | 1 => [.box [.hp 1, nilV, nilV], .arr true 1 3 []] | 2 => [.box [.hp 1, .hp 2, nilV], .arr true 1 3 [], .arr true 1 3 []] | _ => [.box [.hp 1, .hp 2, .hp 3], .arr true 1 3 [], .arr true 1 3 [], .arr true 1 3 []]) (fun x => x ≤ 3) (fun x => 3 - x) 0 aF (Nat.zero_le _) ⟨rfl, rfl, trivial⟩ rfl ?_
  rintro x hx
  have hx' : x = 0 ∨ x = 1 ∨ x = 2 ∨ x = 3 := by omega
  rcases hx' with rfl | rfl | rfl | rfl
  · dsimp only [zZ, List.set_cons_zero, List.set_cons_succ]
    repeat' (first
| refine wO ?_
| (refine o_go rfl ?_; (first
| refine p_e rfl (e_lit0T rfl (by decide)) ?_
| refine p_p (ps_index_box rfl rfl rfl rfl (by omega) (by decide)) ?_
| refine p_e (by kernel_rfl) (e_store_boxC rfl rfl rfl rfl (by decide) rfl rfl) ?_
| refine wS ?_); refine ⟨_, aA, ?_⟩)
| refine wE ?_)
    all_goals try (exfalso; omega)
    exact zT 1 (by omega) (by omega) aI ⟨rfl, rfl, trivial⟩ (zB rfl (zB rfl (zM _)))
  · dsimp only [zZ, List.set_cons_zero, List.set_cons_succ]
    repeat' (first
| refine wO ?_
| (refine o_go rfl ?_; (first
| refine p_e rfl (e_lit0T rfl (by decide)) ?_
| refine p_p (ps_index_box rfl rfl rfl rfl (by omega) (by decide)) ?_
| refine p_e (by kernel_rfl) (e_store_boxC rfl rfl rfl rfl (by decide) rfl rfl) ?_
| refine wS ?_); refine ⟨_, aA, ?_⟩)
| refine wE ?_)
    all_goals try (exfalso; omega)
    exact zT 2 (by omega) (by omega) aI ⟨rfl, rfl, trivial⟩ (zB rfl (zB rfl (zB rfl (zM _))))
  · dsimp only [zZ, List.set_cons_zero, List.set_cons_succ]
    repeat' (first
| refine wO ?_
| (refine o_go rfl ?_; (first
| refine p_e rfl (e_lit0T rfl (by decide)) ?_
| refine p_p (ps_index_box rfl rfl rfl rfl (by omega) (by decide)) ?_
| refine p_e (by kernel_rfl) (e_store_boxC rfl rfl rfl rfl (by decide) rfl rfl) ?_
| refine wS ?_); refine ⟨_, aA, ?_⟩)
| refine wE ?_)
    all_goals try (exfalso; omega)
    exact zT 3 (by omega) (by omega) aI ⟨rfl, rfl, trivial⟩ (zB rfl (zB rfl (zB rfl (zB rfl (zM _)))))
  · dsimp only [zZ, List.set_cons_zero, List.set_cons_succ]
    repeat' (first
| refine wO ?_
| (refine o_go rfl ?_; (first
| refine wS ?_); refine ⟨_, aA, ?_⟩)
| refine wE ?_)
    all_goals try (exfalso; omega)
    refine g_loopF (α := Nat) [] (fun j => [(6, .hp 0), (32, I (j : Int))]) (fun j => [.box [.hp 1, .hp 2, .hp 3], .arr true 1 3 ((blX 3 (L.take j) 0).map I), .arr true 1 3 ((blX 3 (L.take j) 1).map I), .arr true 1 3 ((blX 3 (L.take j) 2).map I)]) (fun j => j ≤ L.length) (fun j => L.length - j) 0 aF (Nat.zero_le _) ⟨rfl, rfl, trivial⟩ rfl ?_
    rintro j hj
    dsimp only [zZ, List.set_cons_zero, List.set_cons_succ]
    have hrl : ∀ x, ((blX 3 (L.take j) x).map I).length = j := fun x => by simp [blX]; omega
    by_cases hjl : j < L.length
    · have rj := rows_at hjl
      have pj := hPt _ (rows_mem hjl)
      have n1 := inat_c 3 (L.getD j []) (by omega) pj
      have hsn : ∀ x, blX 3 (L.take (j + 1)) x = blX 3 (L.take j) x ++ [(natL 3 (L.getD j [])).getD x 0] := fun x => by unfold blX; rw [take_snoc [] hjl, List.map_append]; rfl
      have ix0 := nat_rowT (n := 3) (p := L.getD j []) (x := 0) (by omega)
      have ix1 := nat_rowT (n := 3) (p := L.getD j []) (x := 1) (by omega)
      have ix2 := nat_rowT (n := 3) (p := L.getD j []) (x := 2) (by omega)
      have hGl : ((natL 3 (L.getD j [])).map I).length = 3 := by rw [List.length_map, nat_len]
      have hGn : (natL 3 (L.getD j [])).length = 3 := nat_len _ _
      generalize natL 3 (L.getD j []) = G at *
      repeat' (first
| refine wO ?_
| (refine o_go rfl ?_; (first
| refine p_p (zN rfl rfl rfl (by omega) rj (by exact rfl)) ?_
| refine p_p (zG rfl rfl aB (n1)) ?_
| refine wS ?_); refine ⟨_, aA, ?_⟩)
| (refine zK rfl (fun hc => ?_) (fun hc => ?_) <;> try (exfalso; omega))
| refine wE ?_)
      all_goals try (exfalso; omega)
      refine g_loopF (α := Nat) [] (fun x => [(6, .hp 0), (39, I (x : Int))]) (fun x => match x with | 0 => [.box [.hp 1, .hp 2, .hp 3], .arr true 1 3 ((blX 3 (L.take j) 0).map I), .arr true 1 3 ((blX 3 (L.take j) 1).map I), .arr true 1 3 ((blX 3 (L.take j) 2).map I)] | 1 => [.box [.hp 1, .hp 2, .hp 3], .arr true 1 3 ((blX 3 (L.take (j + 1)) 0).map I), .arr true 1 3 ((blX 3 (L.take j) 1).map I), .arr true 1 3 ((blX 3 (L.take j) 2).map I)] | 2 => [.box [.hp 1, .hp 2, .hp 3], .arr true 1 3 ((blX 3 (L.take (j + 1)) 0).map I), .arr true 1 3 ((blX 3 (L.take (j + 1)) 1).map I), .arr true 1 3 ((blX 3 (L.take j) 2).map I)] | _ => [.box [.hp 1, .hp 2, .hp 3], .arr true 1 3 ((blX 3 (L.take (j + 1)) 0).map I), .arr true 1 3 ((blX 3 (L.take (j + 1)) 1).map I), .arr true 1 3 ((blX 3 (L.take (j + 1)) 2).map I)]) (fun x => x ≤ 3) (fun x => 3 - x) 0 aF (Nat.zero_le _) ⟨rfl, rfl, trivial⟩ rfl ?_
      rintro x hx
      have hx' : x = 0 ∨ x = 1 ∨ x = 2 ∨ x = 3 := by omega
      rcases hx' with rfl | rfl | rfl | rfl
      · dsimp only [zZ, List.set_cons_zero, List.set_cons_succ]
        repeat' (first
| refine wO ?_
| (refine o_go rfl ?_; (first
| refine p_p (zN rfl rfl rfl (by omega) ix0 (by exact rfl)) ?_
| refine p_p (ps_index_box rfl rfl rfl rfl (by omega) (by decide)) ?_
| refine wS ?_
| refine p_e (by kernel_rfl) (e_append rfl rfl rfl rfl rfl rfl (one_one rfl) rfl (by rw [hrl, n_len_c, n_len_n]; omega) (by rw [hrl, n_len_c, n_len_n]; omega)) ?_
| refine p_e (by kernel_rfl) (e_store_boxC rfl rfl rfl rfl (by decide) rfl rfl) ?_
| refine p_p (ps_lit1 rfl rfl (by rfl) (by rfl)) ?_); refine ⟨_, aA, ?_⟩)
| (refine zK rfl (fun hc => ?_) (fun hc => ?_) <;> try (exfalso; omega))
| refine wE ?_)
        all_goals try (exfalso; omega)
        exact zT 1 (by omega) (by omega) aI ⟨rfl, rfl, trivial⟩ (zB rfl (zB (by rw [hsn, List.map_append]; rfl) (zB rfl (zB rfl (zM _)))))
      · dsimp only [zZ, List.set_cons_zero, List.set_cons_succ]
        repeat' (first
| refine wO ?_
| (refine o_go rfl ?_; (first
| refine p_p (zN rfl rfl rfl (by omega) ix1 (by exact rfl)) ?_
| refine p_p (ps_index_box rfl rfl rfl rfl (by omega) (by decide)) ?_
| refine wS ?_
| refine p_e (by kernel_rfl) (e_append rfl rfl rfl rfl rfl rfl (one_one rfl) rfl (by rw [hrl, n_len_c, n_len_n]; omega) (by rw [hrl, n_len_c, n_len_n]; omega)) ?_
| refine p_e (by kernel_rfl) (e_store_boxC rfl rfl rfl rfl (by decide) rfl rfl) ?_
| refine p_p (ps_lit1 rfl rfl (by rfl) (by rfl)) ?_); refine ⟨_, aA, ?_⟩)
| (refine zK rfl (fun hc => ?_) (fun hc => ?_) <;> try (exfalso; omega))
| refine wE ?_)
        all_goals try (exfalso; omega)
        exact zT 2 (by omega) (by omega) aI ⟨rfl, rfl, trivial⟩ (zB rfl (zB rfl (zB (by rw [hsn, List.map_append]; rfl) (zB rfl (zM _)))))
      · dsimp only [zZ, List.set_cons_zero, List.set_cons_succ]
        repeat' (first
| refine wO ?_
| (refine o_go rfl ?_; (first
| refine p_p (zN rfl rfl rfl (by omega) ix2 (by exact rfl)) ?_
| refine p_p (ps_index_box rfl rfl rfl rfl (by omega) (by decide)) ?_
| refine wS ?_
| refine p_e (by kernel_rfl) (e_append rfl rfl rfl rfl rfl rfl (one_one rfl) rfl (by rw [hrl, n_len_c, n_len_n]; omega) (by rw [hrl, n_len_c, n_len_n]; omega)) ?_
| refine p_e (by kernel_rfl) (e_store_boxC rfl rfl rfl rfl (by decide) rfl rfl) ?_
| refine p_p (ps_lit1 rfl rfl (by rfl) (by rfl)) ?_); refine ⟨_, aA, ?_⟩)
| (refine zK rfl (fun hc => ?_) (fun hc => ?_) <;> try (exfalso; omega))
| refine wE ?_)
        all_goals try (exfalso; omega)
        exact zT 3 (by omega) (by omega) aI ⟨rfl, rfl, trivial⟩ (zB rfl (zB rfl (zB rfl (zB (by rw [hsn, List.map_append]; rfl) (zM _)))))
      · dsimp only [zZ, List.set_cons_zero, List.set_cons_succ]
        repeat' (first
| refine wO ?_
| (refine o_go rfl ?_; (first
| refine wS ?_); refine ⟨_, aA, ?_⟩)
| (refine zK rfl (fun hc => ?_) (fun hc => ?_) <;> try (exfalso; omega))
| refine wE ?_)
        all_goals try (exfalso; omega)
        exact zT (K := fun _ _ => True) (j + 1) (by omega) (by omega) aI ⟨rfl, rfl, trivial⟩ (zB rfl (zB rfl (zB rfl (zB rfl (zM _)))))
    · rw [List.take_of_length_le (show L.length ≤ j by omega)]
      repeat' ((fail_if_success (refine at_reg1 18 ?_); fail_if_success (refine at_reg0 18 ?_)); (first
| refine wO ?_
| (refine o_go rfl ?_; (first
| refine wS ?_); refine ⟨_, aA, ?_⟩)
| (refine zK rfl (fun hc => ?_) (fun hc => ?_) <;> try (exfalso; omega))
| refine g_exit ?_))
      all_goals try (exfalso; omega)
      first | refine at_reg1 18 ?_ | refine at_reg0 18 ?_
      refine g_freezeP 1 rfl ⟨_, by dsimp only [bitvec_to_nat, Nat.reduceAdd, Nat.reduceMul, Nat.reduceBEq, reduceCtorEq], ?_⟩
      refine g_freezeP 2 rfl ⟨_, by dsimp only [bitvec_to_nat, Nat.reduceAdd, Nat.reduceMul, Nat.reduceBEq, reduceCtorEq], ?_⟩
      refine g_freezeP 3 rfl ⟨_, by dsimp only [bitvec_to_nat, Nat.reduceAdd, Nat.reduceMul, Nat.reduceBEq, reduceCtorEq], ?_⟩
      refine g_settleS 0 (l' := [ints (blX 3 L 0), ints (blX 3 L 1), ints (blX 3 L 2)]) rfl rfl (by intro p hp; simp only [List.mem_cons, List.not_mem_nil, or_false] at hp; rcases hp with rfl | rfl | rfl <;> rfl) (by dsimp only [setSP, setSA, setS1, setSH, bitvec_to_nat, Nat.reduceAdd, Nat.reduceMul, Nat.reduceBEq, reduceCtorEq]) ?_
      repeat' (first
| refine wO ?_
| (refine o_go rfl ?_; (first
| refine wS ?_); refine ⟨_, aA, ?_⟩)
| refine kr2 ?_ ?_
| refine krB rfl ?_
| refine krS rfl ?_
| refine wE ?_)
      all_goals first | rfl | (exfalso; omega)
theorem iblk4_c (ops : List OpD) (L : List (List Int)) (hs : szOk ops) (hb : acsB (4 : Int) ops L = true) (hPt : ∀ p ∈ L, Pt 4 p) (h20 : L.length ≤ 20) : PCalls Tryz.prog 30 [algP (4 : Int) ops, intss L] (.tup [intss (blR 4 L 4), B true]) := by
  refine pcalls2 Tryz.func30 rfl Tryz.ntmps30 rfl ?_
  refine wF ?_
  have h1 := iacs_c 4 ops L hs (by omega) (fun p hp => by rw [(hPt p hp).len]; omega)
  rw [hb] at h1
  repeat' (first
| refine wO ?_
| (refine o_go rfl ?_; (first
| refine p_p (zG rfl rfl aB (h1)) ?_
| refine p_e rfl (e_makeBox rfl rfl rfl (by omega) (by omega) (by omega) (by rfl)) ?_
| refine p_p (ps_len_box rfl rfl rfl rfl) ?_
| refine wS ?_
| refine p_p (ps_load_agg rfl rfl aK) ?_
| refine p_p (ps_box rfl rfl) ?_); refine ⟨_, aA, ?_⟩)
| refine wE ?_)
  rw [List.length_replicate]
  refine g_castH (hp' := [.box [nilV, nilV, nilV, nilV]]) rfl ?_
  refine g_loopF (α := Nat) [19, 20] (fun x => [(6, .hp 0), (22, I (x : Int))]) (fun x => match x with | 0 => [.box [nilV, nilV, nilV, nilV]] | 1 => [.box [.hp 1, nilV, nilV, nilV], .arr true 1 3 []] | 2 => [.box [.hp 1, .hp 2, nilV, nilV], .arr true 1 3 [], .arr true 1 3 []] | 3 => [.box [.hp 1, .hp 2, .hp 3, nilV], .arr true 1 3 [], .arr true 1 3 [], .arr true 1 3 []] | _ => [.box [.hp 1, .hp 2, .hp 3, .hp 4], .arr true 1 3 [], .arr true 1 3 [], .arr true 1 3 [], .arr true 1 3 []]) (fun x => x ≤ 4) (fun x => 4 - x) 0 aF (Nat.zero_le _) ⟨rfl, rfl, trivial⟩ rfl ?_
  rintro x hx
  have hx' : x = 0 ∨ x = 1 ∨ x = 2 ∨ x = 3 ∨ x = 4 := by omega
  rcases hx' with rfl | rfl | rfl | rfl | rfl
  · dsimp only [zZ, List.set_cons_zero, List.set_cons_succ]
    repeat' (first
| refine wO ?_
| (refine o_go rfl ?_; (first
| refine p_e rfl (e_lit0T rfl (by decide)) ?_
| refine p_p (ps_index_box rfl rfl rfl rfl (by omega) (by decide)) ?_
| refine p_e (by kernel_rfl) (e_store_boxC rfl rfl rfl rfl (by decide) rfl rfl) ?_
| refine wS ?_); refine ⟨_, aA, ?_⟩)
| refine wE ?_)
    all_goals try (exfalso; omega)
    exact zT 1 (by omega) (by omega) aI ⟨rfl, rfl, trivial⟩ (zB rfl (zB rfl (zM _)))
  · dsimp only [zZ, List.set_cons_zero, List.set_cons_succ]
    repeat' (first
| refine wO ?_
| (refine o_go rfl ?_; (first
| refine p_e rfl (e_lit0T rfl (by decide)) ?_
| refine p_p (ps_index_box rfl rfl rfl rfl (by omega) (by decide)) ?_
| refine p_e (by kernel_rfl) (e_store_boxC rfl rfl rfl rfl (by decide) rfl rfl) ?_
| refine wS ?_); refine ⟨_, aA, ?_⟩)
| refine wE ?_)
    all_goals try (exfalso; omega)
    exact zT 2 (by omega) (by omega) aI ⟨rfl, rfl, trivial⟩ (zB rfl (zB rfl (zB rfl (zM _))))
  · dsimp only [zZ, List.set_cons_zero, List.set_cons_succ]
    repeat' (first
| refine wO ?_
| (refine o_go rfl ?_; (first
| refine p_e rfl (e_lit0T rfl (by decide)) ?_
| refine p_p (ps_index_box rfl rfl rfl rfl (by omega) (by decide)) ?_
| refine p_e (by kernel_rfl) (e_store_boxC rfl rfl rfl rfl (by decide) rfl rfl) ?_
| refine wS ?_); refine ⟨_, aA, ?_⟩)
| refine wE ?_)
    all_goals try (exfalso; omega)
    exact zT 3 (by omega) (by omega) aI ⟨rfl, rfl, trivial⟩ (zB rfl (zB rfl (zB rfl (zB rfl (zM _)))))
  · dsimp only [zZ, List.set_cons_zero, List.set_cons_succ]
    repeat' (first
| refine wO ?_
| (refine o_go rfl ?_; (first
| refine p_e rfl (e_lit0T rfl (by decide)) ?_
| refine p_p (ps_index_box rfl rfl rfl rfl (by omega) (by decide)) ?_
| refine p_e (by kernel_rfl) (e_store_boxC rfl rfl rfl rfl (by decide) rfl rfl) ?_
| refine wS ?_); refine ⟨_, aA, ?_⟩)
| refine wE ?_)
    all_goals try (exfalso; omega)
    exact zT 4 (by omega) (by omega) aI ⟨rfl, rfl, trivial⟩ (zB rfl (zB rfl (zB rfl (zB rfl (zB rfl (zM _))))))
  · dsimp only [zZ, List.set_cons_zero, List.set_cons_succ]
    repeat' (first
| refine wO ?_
| (refine o_go rfl ?_; (first
| refine wS ?_); refine ⟨_, aA, ?_⟩)
| refine wE ?_)
    all_goals try (exfalso; omega)
    refine g_loopF (α := Nat) [] (fun j => [(6, .hp 0), (32, I (j : Int))]) (fun j => [.box [.hp 1, .hp 2, .hp 3, .hp 4], .arr true 1 3 ((blX 4 (L.take j) 0).map I), .arr true 1 3 ((blX 4 (L.take j) 1).map I), .arr true 1 3 ((blX 4 (L.take j) 2).map I), .arr true 1 3 ((blX 4 (L.take j) 3).map I)]) (fun j => j ≤ L.length) (fun j => L.length - j) 0 aF (Nat.zero_le _) ⟨rfl, rfl, trivial⟩ rfl ?_
    rintro j hj
    dsimp only [zZ, List.set_cons_zero, List.set_cons_succ]
    have hrl : ∀ x, ((blX 4 (L.take j) x).map I).length = j := fun x => by simp [blX]; omega
    by_cases hjl : j < L.length
    · have rj := rows_at hjl
      have pj := hPt _ (rows_mem hjl)
      have n1 := inat_c 4 (L.getD j []) (by omega) pj
      have hsn : ∀ x, blX 4 (L.take (j + 1)) x = blX 4 (L.take j) x ++ [(natL 4 (L.getD j [])).getD x 0] := fun x => by unfold blX; rw [take_snoc [] hjl, List.map_append]; rfl
      have ix0 := nat_rowT (n := 4) (p := L.getD j []) (x := 0) (by omega)
      have ix1 := nat_rowT (n := 4) (p := L.getD j []) (x := 1) (by omega)
      have ix2 := nat_rowT (n := 4) (p := L.getD j []) (x := 2) (by omega)
      have ix3 := nat_rowT (n := 4) (p := L.getD j []) (x := 3) (by omega)
      have hGl : ((natL 4 (L.getD j [])).map I).length = 4 := by rw [List.length_map, nat_len]
      have hGn : (natL 4 (L.getD j [])).length = 4 := nat_len _ _
      generalize natL 4 (L.getD j []) = G at *
      repeat' (first
| refine wO ?_
| (refine o_go rfl ?_; (first
| refine p_p (zN rfl rfl rfl (by omega) rj (by exact rfl)) ?_
| refine p_p (zG rfl rfl aB (n1)) ?_
| refine wS ?_); refine ⟨_, aA, ?_⟩)
| (refine zK rfl (fun hc => ?_) (fun hc => ?_) <;> try (exfalso; omega))
| refine wE ?_)
      all_goals try (exfalso; omega)
      refine g_loopF (α := Nat) [] (fun x => [(6, .hp 0), (39, I (x : Int))]) (fun x => match x with | 0 => [.box [.hp 1, .hp 2, .hp 3, .hp 4], .arr true 1 3 ((blX 4 (L.take j) 0).map I), .arr true 1 3 ((blX 4 (L.take j) 1).map I), .arr true 1 3 ((blX 4 (L.take j) 2).map I), .arr true 1 3 ((blX 4 (L.take j) 3).map I)] | 1 => [.box [.hp 1, .hp 2, .hp 3, .hp 4], .arr true 1 3 ((blX 4 (L.take (j + 1)) 0).map I), .arr true 1 3 ((blX 4 (L.take j) 1).map I), .arr true 1 3 ((blX 4 (L.take j) 2).map I), .arr true 1 3 ((blX 4 (L.take j) 3).map I)] | 2 => [.box [.hp 1, .hp 2, .hp 3, .hp 4], .arr true 1 3 ((blX 4 (L.take (j + 1)) 0).map I), .arr true 1 3 ((blX 4 (L.take (j + 1)) 1).map I), .arr true 1 3 ((blX 4 (L.take j) 2).map I), .arr true 1 3 ((blX 4 (L.take j) 3).map I)] | 3 => [.box [.hp 1, .hp 2, .hp 3, .hp 4], .arr true 1 3 ((blX 4 (L.take (j + 1)) 0).map I), .arr true 1 3 ((blX 4 (L.take (j + 1)) 1).map I), .arr true 1 3 ((blX 4 (L.take (j + 1)) 2).map I), .arr true 1 3 ((blX 4 (L.take j) 3).map I)] | _ => [.box [.hp 1, .hp 2, .hp 3, .hp 4], .arr true 1 3 ((blX 4 (L.take (j + 1)) 0).map I), .arr true 1 3 ((blX 4 (L.take (j + 1)) 1).map I), .arr true 1 3 ((blX 4 (L.take (j + 1)) 2).map I), .arr true 1 3 ((blX 4 (L.take (j + 1)) 3).map I)]) (fun x => x ≤ 4) (fun x => 4 - x) 0 aF (Nat.zero_le _) ⟨rfl, rfl, trivial⟩ rfl ?_
      rintro x hx
      have hx' : x = 0 ∨ x = 1 ∨ x = 2 ∨ x = 3 ∨ x = 4 := by omega
      rcases hx' with rfl | rfl | rfl | rfl | rfl
      · dsimp only [zZ, List.set_cons_zero, List.set_cons_succ]
        repeat' (first
| refine wO ?_
| (refine o_go rfl ?_; (first
| refine p_p (zN rfl rfl rfl (by omega) ix0 (by exact rfl)) ?_
| refine p_p (ps_index_box rfl rfl rfl rfl (by omega) (by decide)) ?_
| refine wS ?_
| refine p_e (by kernel_rfl) (e_append rfl rfl rfl rfl rfl rfl (one_one rfl) rfl (by rw [hrl, n_len_c, n_len_n]; omega) (by rw [hrl, n_len_c, n_len_n]; omega)) ?_
| refine p_e (by kernel_rfl) (e_store_boxC rfl rfl rfl rfl (by decide) rfl rfl) ?_
| refine p_p (ps_lit1 rfl rfl (by rfl) (by rfl)) ?_); refine ⟨_, aA, ?_⟩)
| (refine zK rfl (fun hc => ?_) (fun hc => ?_) <;> try (exfalso; omega))
| refine wE ?_)
        all_goals try (exfalso; omega)
        exact zT 1 (by omega) (by omega) aI ⟨rfl, rfl, trivial⟩ (zB rfl (zB (by rw [hsn, List.map_append]; rfl) (zB rfl (zB rfl (zB rfl (zM _))))))
      · dsimp only [zZ, List.set_cons_zero, List.set_cons_succ]
        repeat' (first
| refine wO ?_
| (refine o_go rfl ?_; (first
| refine p_p (zN rfl rfl rfl (by omega) ix1 (by exact rfl)) ?_
| refine p_p (ps_index_box rfl rfl rfl rfl (by omega) (by decide)) ?_
| refine wS ?_
| refine p_e (by kernel_rfl) (e_append rfl rfl rfl rfl rfl rfl (one_one rfl) rfl (by rw [hrl, n_len_c, n_len_n]; omega) (by rw [hrl, n_len_c, n_len_n]; omega)) ?_
| refine p_e (by kernel_rfl) (e_store_boxC rfl rfl rfl rfl (by decide) rfl rfl) ?_
| refine p_p (ps_lit1 rfl rfl (by rfl) (by rfl)) ?_); refine ⟨_, aA, ?_⟩)
| (refine zK rfl (fun hc => ?_) (fun hc => ?_) <;> try (exfalso; omega))
| refine wE ?_)
        all_goals try (exfalso; omega)
        exact zT 2 (by omega) (by omega) aI ⟨rfl, rfl, trivial⟩ (zB rfl (zB rfl (zB (by rw [hsn, List.map_append]; rfl) (zB rfl (zB rfl (zM _))))))
      · dsimp only [zZ, List.set_cons_zero, List.set_cons_succ]
        repeat' (first
| refine wO ?_
| (refine o_go rfl ?_; (first
| refine p_p (zN rfl rfl rfl (by omega) ix2 (by exact rfl)) ?_
| refine p_p (ps_index_box rfl rfl rfl rfl (by omega) (by decide)) ?_
| refine wS ?_
| refine p_e (by kernel_rfl) (e_append rfl rfl rfl rfl rfl rfl (one_one rfl) rfl (by rw [hrl, n_len_c, n_len_n]; omega) (by rw [hrl, n_len_c, n_len_n]; omega)) ?_
| refine p_e (by kernel_rfl) (e_store_boxC rfl rfl rfl rfl (by decide) rfl rfl) ?_
| refine p_p (ps_lit1 rfl rfl (by rfl) (by rfl)) ?_); refine ⟨_, aA, ?_⟩)
| (refine zK rfl (fun hc => ?_) (fun hc => ?_) <;> try (exfalso; omega))
| refine wE ?_)
        all_goals try (exfalso; omega)
        exact zT 3 (by omega) (by omega) aI ⟨rfl, rfl, trivial⟩ (zB rfl (zB rfl (zB rfl (zB (by rw [hsn, List.map_append]; rfl) (zB rfl (zM _))))))
      · dsimp only [zZ, List.set_cons_zero, List.set_cons_succ]
        repeat' (first
| refine wO ?_
| (refine o_go rfl ?_; (first
| refine p_p (zN rfl rfl rfl (by omega) ix3 (by exact rfl)) ?_
| refine p_p (ps_index_box rfl rfl rfl rfl (by omega) (by decide)) ?_
| refine wS ?_
| refine p_e (by kernel_rfl) (e_append rfl rfl rfl rfl rfl rfl (one_one rfl) rfl (by rw [hrl, n_len_c, n_len_n]; omega) (by rw [hrl, n_len_c, n_len_n]; omega)) ?_
| refine p_e (by kernel_rfl) (e_store_boxC rfl rfl rfl rfl (by decide) rfl rfl) ?_
| refine p_p (ps_lit1 rfl rfl (by rfl) (by rfl)) ?_); refine ⟨_, aA, ?_⟩)
| (refine zK rfl (fun hc => ?_) (fun hc => ?_) <;> try (exfalso; omega))
| refine wE ?_)
        all_goals try (exfalso; omega)
        exact zT 4 (by omega) (by omega) aI ⟨rfl, rfl, trivial⟩ (zB rfl (zB rfl (zB rfl (zB rfl (zB (by rw [hsn, List.map_append]; rfl) (zM _))))))
      · dsimp only [zZ, List.set_cons_zero, List.set_cons_succ]
        repeat' (first
| refine wO ?_
| (refine o_go rfl ?_; (first
| refine wS ?_); refine ⟨_, aA, ?_⟩)
| (refine zK rfl (fun hc => ?_) (fun hc => ?_) <;> try (exfalso; omega))
| refine wE ?_)
        all_goals try (exfalso; omega)
        exact zT (K := fun _ _ => True) (j + 1) (by omega) (by omega) aI ⟨rfl, rfl, trivial⟩ (zB rfl (zB rfl (zB rfl (zB rfl (zB rfl (zM _))))))
    · rw [List.take_of_length_le (show L.length ≤ j by omega)]
      repeat' ((fail_if_success (refine at_reg1 18 ?_); fail_if_success (refine at_reg0 18 ?_)); (first
| refine wO ?_
| (refine o_go rfl ?_; (first
| refine wS ?_); refine ⟨_, aA, ?_⟩)
| (refine zK rfl (fun hc => ?_) (fun hc => ?_) <;> try (exfalso; omega))
| refine g_exit ?_))
      all_goals try (exfalso; omega)
      first | refine at_reg1 18 ?_ | refine at_reg0 18 ?_
      refine g_freezeP 1 rfl ⟨_, by dsimp only [bitvec_to_nat, Nat.reduceAdd, Nat.reduceMul, Nat.reduceBEq, reduceCtorEq], ?_⟩
      refine g_freezeP 2 rfl ⟨_, by dsimp only [bitvec_to_nat, Nat.reduceAdd, Nat.reduceMul, Nat.reduceBEq, reduceCtorEq], ?_⟩
      refine g_freezeP 3 rfl ⟨_, by dsimp only [bitvec_to_nat, Nat.reduceAdd, Nat.reduceMul, Nat.reduceBEq, reduceCtorEq], ?_⟩
      refine g_freezeP 4 rfl ⟨_, by dsimp only [bitvec_to_nat, Nat.reduceAdd, Nat.reduceMul, Nat.reduceBEq, reduceCtorEq], ?_⟩
      refine g_settleS 0 (l' := [ints (blX 4 L 0), ints (blX 4 L 1), ints (blX 4 L 2), ints (blX 4 L 3)]) rfl rfl (by intro p hp; simp only [List.mem_cons, List.not_mem_nil, or_false] at hp; rcases hp with rfl | rfl | rfl | rfl <;> rfl) (by dsimp only [setSP, setSA, setS1, setSH, bitvec_to_nat, Nat.reduceAdd, Nat.reduceMul, Nat.reduceBEq, reduceCtorEq]) ?_
      repeat' (first
| refine wO ?_
| (refine o_go rfl ?_; (first
| refine wS ?_); refine ⟨_, aA, ?_⟩)
| refine kr2 ?_ ?_
| refine krB rfl ?_
| refine krS rfl ?_
| refine wE ?_)
      all_goals first | rfl | (exfalso; omega)
theorem iblk5_c (ops : List OpD) (L : List (List Int)) (hs : szOk ops) (hb : acsB (5 : Int) ops L = true) (hPt : ∀ p ∈ L, Pt 5 p) (h20 : L.length ≤ 20) : PCalls Tryz.prog 30 [algP (5 : Int) ops, intss L] (.tup [intss (blR 5 L 5), B true]) := by
  refine pcalls2 Tryz.func30 rfl Tryz.ntmps30 rfl ?_
  refine wF ?_
  have h1 := iacs_c 5 ops L hs (by omega) (fun p hp => by rw [(hPt p hp).len]; omega)
  rw [hb] at h1
  repeat' (first
| refine wO ?_
| (refine o_go rfl ?_; (first
| refine p_p (zG rfl rfl aB (h1)) ?_
| refine p_e rfl (e_makeBox rfl rfl rfl (by omega) (by omega) (by omega) (by rfl)) ?_
| refine p_p (ps_len_box rfl rfl rfl rfl) ?_
| refine wS ?_
| refine p_p (ps_load_agg rfl rfl aK) ?_
| refine p_p (ps_box rfl rfl) ?_); refine ⟨_, aA, ?_⟩)
| refine wE ?_)
  rw [List.length_replicate]
  refine g_castH (hp' := [.box [nilV, nilV, nilV, nilV, nilV]]) rfl ?_
  refine g_loopF (α := Nat) [19, 20] (fun x => [(6, .hp 0), (22, I (x : Int))]) (fun x => match x with | 0 => [.box [nilV, nilV, nilV, nilV, nilV]] | 1 => [.box [.hp 1, nilV, nilV, nilV, nilV], .arr true 1 3 []] | 2 => [.box [.hp 1, .hp 2, nilV, nilV, nilV], .arr true 1 3 [], .arr true 1 3 []] | 3 => [.box [.hp 1, .hp 2, .hp 3, nilV, nilV], .arr true 1 3 [], .arr true 1 3 [], .arr true 1 3 []] | 4 => [.box [.hp 1, .hp 2, .hp 3, .hp 4, nilV], .arr true 1 3 [], .arr true 1 3 [], .arr true 1 3 [], .arr true 1 3 []] | _ => [.box [.hp 1, .hp 2, .hp 3, .hp 4, .hp 5], .arr true 1 3 [], .arr true 1 3 [], .arr true 1 3 [], .arr true 1 3 [], .arr true 1 3 []]) (fun x => x ≤ 5) (fun x => 5 - x) 0 aF (Nat.zero_le _) ⟨rfl, rfl, trivial⟩ rfl ?_
  rintro x hx
  have hx' : x = 0 ∨ x = 1 ∨ x = 2 ∨ x = 3 ∨ x = 4 ∨ x = 5 := by omega
  rcases hx' with rfl | rfl | rfl | rfl | rfl | rfl
  · dsimp only [zZ, List.set_cons_zero, List.set_cons_succ]
    repeat' (first
| refine wO ?_
| (refine o_go rfl ?_; (first
| refine p_e rfl (e_lit0T rfl (by decide)) ?_
| refine p_p (ps_index_box rfl rfl rfl rfl (by omega) (by decide)) ?_
| refine p_e (by kernel_rfl) (e_store_boxC rfl rfl rfl rfl (by decide) rfl rfl) ?_
| refine wS ?_); refine ⟨_, aA, ?_⟩)
| refine wE ?_)
    all_goals try (exfalso; omega)
    exact zT 1 (by omega) (by omega) aI ⟨rfl, rfl, trivial⟩ (zB rfl (zB rfl (zM _)))
  · dsimp only [zZ, List.set_cons_zero, List.set_cons_succ]
    repeat' (first
| refine wO ?_
| (refine o_go rfl ?_; (first
| refine p_e rfl (e_lit0T rfl (by decide)) ?_
| refine p_p (ps_index_box rfl rfl rfl rfl (by omega) (by decide)) ?_
| refine p_e (by kernel_rfl) (e_store_boxC rfl rfl rfl rfl (by decide) rfl rfl) ?_
| refine wS ?_); refine ⟨_, aA, ?_⟩)
| refine wE ?_)
    all_goals try (exfalso; omega)
    exact zT 2 (by omega) (by omega) aI ⟨rfl, rfl, trivial⟩ (zB rfl (zB rfl (zB rfl (zM _))))
  · dsimp only [zZ, List.set_cons_zero, List.set_cons_succ]
    repeat' (first
| refine wO ?_
| (refine o_go rfl ?_; (first
| refine p_e rfl (e_lit0T rfl (by decide)) ?_
| refine p_p (ps_index_box rfl rfl rfl rfl (by omega) (by decide)) ?_
| refine p_e (by kernel_rfl) (e_store_boxC rfl rfl rfl rfl (by decide) rfl rfl) ?_
| refine wS ?_); refine ⟨_, aA, ?_⟩)
| refine wE ?_)
    all_goals try (exfalso; omega)
    exact zT 3 (by omega) (by omega) aI ⟨rfl, rfl, trivial⟩ (zB rfl (zB rfl (zB rfl (zB rfl (zM _)))))
  · dsimp only [zZ, List.set_cons_zero, List.set_cons_succ]
    repeat' (first
| refine wO ?_
| (refine o_go rfl ?_; (first
| refine p_e rfl (e_lit0T rfl (by decide)) ?_
| refine p_p (ps_index_box rfl rfl rfl rfl (by omega) (by decide)) ?_
| refine p_e (by kernel_rfl) (e_store_boxC rfl rfl rfl rfl (by decide) rfl rfl) ?_
| refine wS ?_); refine ⟨_, aA, ?_⟩)
| refine wE ?_)
    all_goals try (exfalso; omega)
    exact zT 4 (by omega) (by omega) aI ⟨rfl, rfl, trivial⟩ (zB rfl (zB rfl (zB rfl (zB rfl (zB rfl (zM _))))))
  · dsimp only [zZ, List.set_cons_zero, List.set_cons_succ]
    repeat' (first
| refine wO ?_
| (refine o_go rfl ?_; (first
| refine p_e rfl (e_lit0T rfl (by decide)) ?_
| refine p_p (ps_index_box rfl rfl rfl rfl (by omega) (by decide)) ?_
| refine p_e (by kernel_rfl) (e_store_boxC rfl rfl rfl rfl (by decide) rfl rfl) ?_
| refine wS ?_); refine ⟨_, aA, ?_⟩)
| refine wE ?_)
    all_goals try (exfalso; omega)
    exact zT 5 (by omega) (by omega) aI ⟨rfl, rfl, trivial⟩ (zB rfl (zB rfl (zB rfl (zB rfl (zB rfl (zB rfl (zM _)))))))
  · dsimp only [zZ, List.set_cons_zero, List.set_cons_succ]
    repeat' (first
| refine wO ?_
| (refine o_go rfl ?_; (first
| refine wS ?_); refine ⟨_, aA, ?_⟩)
| refine wE ?_)
    all_goals try (exfalso; omega)
    refine g_loopF (α := Nat) [] (fun j => [(6, .hp 0), (32, I (j : Int))]) (fun j => [.box [.hp 1, .hp 2, .hp 3, .hp 4, .hp 5], .arr true 1 3 ((blX 5 (L.take j) 0).map I), .arr true 1 3 ((blX 5 (L.take j) 1).map I), .arr true 1 3 ((blX 5 (L.take j) 2).map I), .arr true 1 3 ((blX 5 (L.take j) 3).map I), .arr true 1 3 ((blX 5 (L.take j) 4).map I)]) (fun j => j ≤ L.length) (fun j => L.length - j) 0 aF (Nat.zero_le _) ⟨rfl, rfl, trivial⟩ rfl ?_
    rintro j hj
    dsimp only [zZ, List.set_cons_zero, List.set_cons_succ]
    have hrl : ∀ x, ((blX 5 (L.take j) x).map I).length = j := fun x => by simp [blX]; omega
    by_cases hjl : j < L.length
    · have rj := rows_at hjl
      have pj := hPt _ (rows_mem hjl)
      have n1 := inat_c 5 (L.getD j []) (by omega) pj
      have hsn : ∀ x, blX 5 (L.take (j + 1)) x = blX 5 (L.take j) x ++ [(natL 5 (L.getD j [])).getD x 0] := fun x => by unfold blX; rw [take_snoc [] hjl, List.map_append]; rfl
      have ix0 := nat_rowT (n := 5) (p := L.getD j []) (x := 0) (by omega)
      have ix1 := nat_rowT (n := 5) (p := L.getD j []) (x := 1) (by omega)
      have ix2 := nat_rowT (n := 5) (p := L.getD j []) (x := 2) (by omega)
      have ix3 := nat_rowT (n := 5) (p := L.getD j []) (x := 3) (by omega)
      have ix4 := nat_rowT (n := 5) (p := L.getD j []) (x := 4) (by omega)
      have hGl : ((natL 5 (L.getD j [])).map I).length = 5 := by rw [List.length_map, nat_len]
      have hGn : (natL 5 (L.getD j [])).length = 5 := nat_len _ _
      generalize natL 5 (L.getD j []) = G at *
      repeat' (first
| refine wO ?_
| (refine o_go rfl ?_; (first
| refine p_p (zN rfl rfl rfl (by omega) rj (by exact rfl)) ?_
| refine p_p (zG rfl rfl aB (n1)) ?_
| refine wS ?_); refine ⟨_, aA, ?_⟩)
| (refine zK rfl (fun hc => ?_) (fun hc => ?_) <;> try (exfalso; omega))
| refine wE ?_)
      all_goals try (exfalso; omega)
      refine g_loopF (α := Nat) [] (fun x => [(6, .hp 0), (39, I (x : Int))]) (fun x => match x with | 0 => [.box [.hp 1, .hp 2, .hp 3, .hp 4, .hp 5], .arr true 1 3 ((blX 5 (L.take j) 0).map I), .arr true 1 3 ((blX 5 (L.take j) 1).map I), .arr true 1 3 ((blX 5 (L.take j) 2).map I), .arr true 1 3 ((blX 5 (L.take j) 3).map I), .arr true 1 3 ((blX 5 (L.take j) 4).map I)] | 1 => [.box [.hp 1, .hp 2, .hp 3, .hp 4, .hp 5], .arr true 1 3 ((blX 5 (L.take (j + 1)) 0).map I), .arr true 1 3 ((blX 5 (L.take j) 1).map I), .arr true 1 3 ((blX 5 (L.take j) 2).map I), .arr true 1 3 ((blX 5 (L.take j) 3).map I), .arr true 1 3 ((blX 5 (L.take j) 4).map I)] | 2 => [.box [.hp 1, .hp 2, .hp 3, .hp 4, .hp 5], .arr true 1 3 ((blX 5 (L.take (j + 1)) 0).map I), .arr true 1 3 ((blX 5 (L.take (j + 1)) 1).map I), .arr true 1 3 ((blX 5 (L.take j) 2).map I), .arr true 1 3 ((blX 5 (L.take j) 3).map I), .arr true 1 3 ((blX 5 (L.take j) 4).map I)] | 3 => [.box [.hp 1, .hp 2, .hp 3, .hp 4, .hp 5], .arr true 1 3 ((blX 5 (L.take (j + 1)) 0).map I), .arr true 1 3 ((blX 5 (L.take (j + 1)) 1).map I), .arr true 1 3 ((blX 5 (L.take (j + 1)) 2).map I), .arr true 1 3 ((blX 5 (L.take j) 3).map I), .arr true 1 3 ((blX 5 (L.take j) 4).map I)] | 4 => [.box [.hp 1, .hp 2, .hp 3, .hp 4, .hp 5], .arr true 1 3 ((blX 5 (L.take (j + 1)) 0).map I), .arr true 1 3 ((blX 5 (L.take (j + 1)) 1).map I), .arr true 1 3 ((blX 5 (L.take (j + 1)) 2).map I), .arr true 1 3 ((blX 5 (L.take (j + 1)) 3).map I), .arr true 1 3 ((blX 5 (L.take j) 4).map I)] | _ => [.box [.hp 1, .hp 2, .hp 3, .hp 4, .hp 5], .arr true 1 3 ((blX 5 (L.take (j + 1)) 0).map I), .arr true 1 3 ((blX 5 (L.take (j + 1)) 1).map I), .arr true 1 3 ((blX 5 (L.take (j + 1)) 2).map I), .arr true 1 3 ((blX 5 (L.take (j + 1)) 3).map I), .arr true 1 3 ((blX 5 (L.take (j + 1)) 4).map I)]) (fun x => x ≤ 5) (fun x => 5 - x) 0 aF (Nat.zero_le _) ⟨rfl, rfl, trivial⟩ rfl ?_
      rintro x hx
      have hx' : x = 0 ∨ x = 1 ∨ x = 2 ∨ x = 3 ∨ x = 4 ∨ x = 5 := by omega
      rcases hx' with rfl | rfl | rfl | rfl | rfl | rfl
      · dsimp only [zZ, List.set_cons_zero, List.set_cons_succ]
        repeat' (first
| refine wO ?_
| (refine o_go rfl ?_; (first
| refine p_p (zN rfl rfl rfl (by omega) ix0 (by exact rfl)) ?_
| refine p_p (ps_index_box rfl rfl rfl rfl (by omega) (by decide)) ?_
| refine wS ?_
| refine p_e (by kernel_rfl) (e_append rfl rfl rfl rfl rfl rfl (one_one rfl) rfl (by rw [hrl, n_len_c, n_len_n]; omega) (by rw [hrl, n_len_c, n_len_n]; omega)) ?_
| refine p_e (by kernel_rfl) (e_store_boxC rfl rfl rfl rfl (by decide) rfl rfl) ?_
| refine p_p (ps_lit1 rfl rfl (by rfl) (by rfl)) ?_); refine ⟨_, aA, ?_⟩)
| (refine zK rfl (fun hc => ?_) (fun hc => ?_) <;> try (exfalso; omega))
| refine wE ?_)
        all_goals try (exfalso; omega)
        exact zT 1 (by omega) (by omega) aI ⟨rfl, rfl, trivial⟩ (zB rfl (zB (by rw [hsn, List.map_append]; rfl) (zB rfl (zB rfl (zB rfl (zB rfl (zM _)))))))
      · dsimp only [zZ, List.set_cons_zero, List.set_cons_succ]
        repeat' (first
| refine wO ?_
| (refine o_go rfl ?_; (first
| refine p_p (zN rfl rfl rfl (by omega) ix1 (by exact rfl)) ?_
| refine p_p (ps_index_box rfl rfl rfl rfl (by omega) (by decide)) ?_
| refine wS ?_
| refine p_e (by kernel_rfl) (e_append rfl rfl rfl rfl rfl rfl (one_one rfl) rfl (by rw [hrl, n_len_c, n_len_n]; omega) (by rw [hrl, n_len_c, n_len_n]; omega)) ?_
| refine p_e (by kernel_rfl) (e_store_boxC rfl rfl rfl rfl (by decide) rfl rfl) ?_
| refine p_p (ps_lit1 rfl rfl (by rfl) (by rfl)) ?_); refine ⟨_, aA, ?_⟩)
| (refine zK rfl (fun hc => ?_) (fun hc => ?_) <;> try (exfalso; omega))
| refine wE ?_)
        all_goals try (exfalso; omega)
        exact zT 2 (by omega) (by omega) aI ⟨rfl, rfl, trivial⟩ (zB rfl (zB rfl (zB (by rw [hsn, List.map_append]; rfl) (zB rfl (zB rfl (zB rfl (zM _)))))))
      · dsimp only [zZ, List.set_cons_zero, List.set_cons_succ]
        repeat' (first
| refine wO ?_
| (refine o_go rfl ?_; (first
| refine p_p (zN rfl rfl rfl (by omega) ix2 (by exact rfl)) ?_
| refine p_p (ps_index_box rfl rfl rfl rfl (by omega) (by decide)) ?_
| refine wS ?_
| refine p_e (by kernel_rfl) (e_append rfl rfl rfl rfl rfl rfl (one_one rfl) rfl (by rw [hrl, n_len_c, n_len_n]; omega) (by rw [hrl, n_len_c, n_len_n]; omega)) ?_
| refine p_e (by kernel_rfl) (e_store_boxC rfl rfl rfl rfl (by decide) rfl rfl) ?_
| refine p_p (ps_lit1 rfl rfl (by rfl) (by rfl)) ?_); refine ⟨_, aA, ?_⟩)
| (refine zK rfl (fun hc => ?_) (fun hc => ?_) <;> try (exfalso; omega))
| refine wE ?_)
        all_goals try (exfalso; omega)
        exact zT 3 (by omega) (by omega) aI ⟨rfl, rfl, trivial⟩ (zB rfl (zB rfl (zB rfl (zB (by rw [hsn, List.map_append]; rfl) (zB rfl (zB rfl (zM _)))))))
      · dsimp only [zZ, List.set_cons_zero, List.set_cons_succ]
        repeat' (first
| refine wO ?_
| (refine o_go rfl ?_; (first
| refine p_p (zN rfl rfl rfl (by omega) ix3 (by exact rfl)) ?_
| refine p_p (ps_index_box rfl rfl rfl rfl (by omega) (by decide)) ?_
| refine wS ?_
| refine p_e (by kernel_rfl) (e_append rfl rfl rfl rfl rfl rfl (one_one rfl) rfl (by rw [hrl, n_len_c, n_len_n]; omega) (by rw [hrl, n_len_c, n_len_n]; omega)) ?_
| refine p_e (by kernel_rfl) (e_store_boxC rfl rfl rfl rfl (by decide) rfl rfl) ?_
| refine p_p (ps_lit1 rfl rfl (by rfl) (by rfl)) ?_); refine ⟨_, aA, ?_⟩)
| (refine zK rfl (fun hc => ?_) (fun hc => ?_) <;> try (exfalso; omega))
| refine wE ?_)
        all_goals try (exfalso; omega)
        exact zT 4 (by omega) (by omega) aI ⟨rfl, rfl, trivial⟩ (zB rfl (zB rfl (zB rfl (zB rfl (zB (by rw [hsn, List.map_append]; rfl) (zB rfl (zM _)))))))
      · dsimp only [zZ, List.set_cons_zero, List.set_cons_succ]
        repeat' (first
| refine wO ?_
| (refine o_go rfl ?_; (first
| refine p_p (zN rfl rfl rfl (by omega) ix4 (by exact rfl)) ?_
| refine p_p (ps_index_box rfl rfl rfl rfl (by omega) (by decide)) ?_
| refine wS ?_
| refine p_e (by kernel_rfl) (e_append rfl rfl rfl rfl rfl rfl (one_one rfl) rfl (by rw [hrl, n_len_c, n_len_n]; omega) (by rw [hrl, n_len_c, n_len_n]; omega)) ?_
| refine p_e (by kernel_rfl) (e_store_boxC rfl rfl rfl rfl (by decide) rfl rfl) ?_
| refine p_p (ps_lit1 rfl rfl (by rfl) (by rfl)) ?_); refine ⟨_, aA, ?_⟩)
| (refine zK rfl (fun hc => ?_) (fun hc => ?_) <;> try (exfalso; omega))
| refine wE ?_)
        all_goals try (exfalso; omega)
        exact zT 5 (by omega) (by omega) aI ⟨rfl, rfl, trivial⟩ (zB rfl (zB rfl (zB rfl (zB rfl (zB rfl (zB (by rw [hsn, List.map_append]; rfl) (zM _)))))))
      · dsimp only [zZ, List.set_cons_zero, List.set_cons_succ]
        repeat' (first
| refine wO ?_
| (refine o_go rfl ?_; (first
| refine wS ?_); refine ⟨_, aA, ?_⟩)
| (refine zK rfl (fun hc => ?_) (fun hc => ?_) <;> try (exfalso; omega))
| refine wE ?_)
        all_goals try (exfalso; omega)
        exact zT (K := fun _ _ => True) (j + 1) (by omega) (by omega) aI ⟨rfl, rfl, trivial⟩ (zB rfl (zB rfl (zB rfl (zB rfl (zB rfl (zB rfl (zM _)))))))
    · rw [List.take_of_length_le (show L.length ≤ j by omega)]
      repeat' ((fail_if_success (refine at_reg1 18 ?_); fail_if_success (refine at_reg0 18 ?_)); (first
| refine wO ?_
| (refine o_go rfl ?_; (first
| refine wS ?_); refine ⟨_, aA, ?_⟩)
| (refine zK rfl (fun hc => ?_) (fun hc => ?_) <;> try (exfalso; omega))
| refine g_exit ?_))
      all_goals try (exfalso; omega)
      first | refine at_reg1 18 ?_ | refine at_reg0 18 ?_
      refine g_freezeP 1 rfl ⟨_, by dsimp only [bitvec_to_nat, Nat.reduceAdd, Nat.reduceMul, Nat.reduceBEq, reduceCtorEq], ?_⟩
      refine g_freezeP 2 rfl ⟨_, by dsimp only [bitvec_to_nat, Nat.reduceAdd, Nat.reduceMul, Nat.reduceBEq, reduceCtorEq], ?_⟩
      refine g_freezeP 3 rfl ⟨_, by dsimp only [bitvec_to_nat, Nat.reduceAdd, Nat.reduceMul, Nat.reduceBEq, reduceCtorEq], ?_⟩
      refine g_freezeP 4 rfl ⟨_, by dsimp only [bitvec_to_nat, Nat.reduceAdd, Nat.reduceMul, Nat.reduceBEq, reduceCtorEq], ?_⟩
      refine g_freezeP 5 rfl ⟨_, by dsimp only [bitvec_to_nat, Nat.reduceAdd, Nat.reduceMul, Nat.reduceBEq, reduceCtorEq], ?_⟩
      refine g_settleS 0 (l' := [ints (blX 5 L 0), ints (blX 5 L 1), ints (blX 5 L 2), ints (blX 5 L 3), ints (blX 5 L 4)]) rfl rfl (by intro p hp; simp only [List.mem_cons, List.not_mem_nil, or_false] at hp; rcases hp with rfl | rfl | rfl | rfl | rfl <;> rfl) (by dsimp only [setSP, setSA, setS1, setSH, bitvec_to_nat, Nat.reduceAdd, Nat.reduceMul, Nat.reduceBEq, reduceCtorEq]) ?_
      repeat' (first
| refine wO ?_
| (refine o_go rfl ?_; (first
| refine wS ?_); refine ⟨_, aA, ?_⟩)
| refine kr2 ?_ ?_
| refine krB rfl ?_
| refine krS rfl ?_
| refine wE ?_)
      all_goals first | rfl | (exfalso; omega)
theorem iblk_c (n : Nat) (ops : List OpD) (L : List (List Int)) (hs : szOk ops) (hb : acsB (n : Int) ops L = true) (hn0 : 0 < n) (hn5 : n ≤ 5) (hPt : ∀ p ∈ L, Pt n p) (h20 : L.length ≤ 20) : PCalls Tryz.prog 30 [algP (n : Int) ops, intss L] (.tup [intss (blR n L n), B true]) := by
  have hc : n = 1 ∨ n = 2 ∨ n = 3 ∨ n = 4 ∨ n = 5 := by omega
  rcases hc with rfl | rfl | rfl | rfl | rfl
  · exact iblk1_c ops L hs hb hPt h20
  · exact iblk2_c ops L hs hb hPt h20
  · exact iblk3_c ops L hs hb hPt h20
  · exact iblk4_c ops L hs hb hPt h20
  · exact iblk5_c ops L hs hb hPt h20
end Go.Proofs.YtbohjibbgppfaaaGreat
