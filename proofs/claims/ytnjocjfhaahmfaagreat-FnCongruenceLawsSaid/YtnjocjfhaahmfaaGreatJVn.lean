/- Walks: composed relations, factors that make the join, both sides. -/
import Derived.Test.YtnjocjfhaahmfaaGreatJVh
import Derived.Test.YtnjocjfhaahmfaaGreatJKn
import Derived.Test.YtnjocjfhaahmfaaGreatJKi
namespace Go.Proofs.YtnjocjfhaahmfaaGreat
open Go Go.Pv Go.Proofs
set_option maxHeartbeats 32000000
set_option maxRecDepth 100000
attribute [local bitvec_to_nat] St.put St.setObj St.ev killP killA killP1 killH mapHO renP renA ren1 killG killGA killG1 krowP krowA krow1 lendP lendA lend1 unv pinP pin1 elemsM viewM viewN viewV n_set_z n_set_s n_map_c n_map_n getD_z getD_s n_toNat n_cond_t n_cond_f n_len_c n_len_n n_app_c n_app_n n_take_s n_take_z n_drop_s n_drop_z n_get_z n_get_s view viewA view1 elems Nat.zero_add Nat.add_zero Bool.not_true Bool.not_false Nat.one_ne_zero Nat.mul_one

def cpR (t : List Int) (W : List (List Int)) (j : Nat) : List (List Int) := ((W.take j).filter fun u => decide (t.getD 1 0 = u.getD 0 0)).map fun u => [t.getD 0 0, u.getD 1 0]
def cpP (V W : List (List Int)) : Nat → List (List Int)
  | 0 => []
  | i + 1 => cpP V W i ++ cpR (V.getD i []) W W.length
theorem cpR_succ (t : List Int) {W : List (List Int)} {j : Nat} (h : j < W.length) : cpR t W (j + 1) = cpR t W j ++ if t.getD 1 0 = (W.getD j []).getD 0 0 then [[t.getD 0 0, (W.getD j []).getD 1 0]] else [] := by
  unfold cpR
  rw [take_snoc [] h, List.filter_append, List.map_append]
  congr 1
  rw [List.filter_cons, List.filter_nil]
  by_cases e : t.getD 1 0 = (W.getD j []).getD 0 0
  · rw [if_pos (by simpa using e), if_pos e]; rfl
  · rw [if_neg (by simpa using e), if_neg e]; rfl
theorem cpR_len (t : List Int) (W : List (List Int)) (j : Nat) : (cpR t W j).length ≤ j := by
  unfold cpR; rw [List.length_map]; exact Nat.le_trans (List.length_filter_le _ _) (by rw [List.length_take]; omega)
theorem cpP_len (V W : List (List Int)) : ∀ i, (cpP V W i).length ≤ i * W.length
  | 0 => by simp [cpP]
  | i + 1 => by
    have h1 := cpP_len V W i
    have h2 := cpR_len (V.getD i []) W W.length
    show (cpP V W i ++ cpR (V.getD i []) W W.length).length ≤ _
    rw [List.length_append, Nat.add_mul]; omega
theorem cpR_mem {t : List Int} {W : List (List Int)} {v : List Int} : v ∈ cpR t W W.length ↔ ∃ u, u ∈ W ∧ t.getD 1 0 = u.getD 0 0 ∧ v = [t.getD 0 0, u.getD 1 0] := by
  unfold cpR
  rw [List.take_length, List.mem_map]
  constructor
  · rintro ⟨u, hu, rfl⟩
    obtain ⟨h1, h2⟩ := List.mem_filter.1 hu
    exact ⟨u, h1, by simpa using h2, rfl⟩
  · rintro ⟨u, h1, h2, rfl⟩
    exact ⟨u, List.mem_filter.2 ⟨h1, by simpa using h2⟩, rfl⟩
theorem cpP_mem {V W : List (List Int)} {v : List Int} : ∀ {k : Nat}, k ≤ V.length → (v ∈ cpP V W k ↔ ∃ i u, i < k ∧ u ∈ W ∧ (V.getD i []).getD 1 0 = u.getD 0 0 ∧ v = [(V.getD i []).getD 0 0, u.getD 1 0])
  | 0, _ => by simp [cpP]
  | k + 1, hk => by
    show v ∈ cpP V W k ++ cpR (V.getD k []) W W.length ↔ _
    rw [List.mem_append, cpP_mem (by omega), cpR_mem]
    constructor
    · rintro (⟨i, u, h1, h2, h3, h4⟩ | ⟨u, h2, h3, h4⟩)
      · exact ⟨i, u, by omega, h2, h3, h4⟩
      · exact ⟨k, u, by omega, h2, h3, h4⟩
    · rintro ⟨i, u, h1, h2, h3, h4⟩
      rcases Nat.lt_or_ge i k with h | h
      · exact .inl ⟨i, u, h, h2, h3, h4⟩
      · obtain rfl : i = k := by omega
        exact .inr ⟨u, h2, h3, h4⟩
theorem cp_eq (n : Nat) (R S : Nat → Nat → Bool) : difL (sortX (cpP (reL n R) (reL n S) (reL n R).length)) = reL n (cmpR n R S) := dif_sort_eq (reL_asc n _) fun t => by
  rw [cpP_mem (Nat.le_refl _), reL_mem]
  constructor
  · rintro ⟨i, u, h1, h2, h3, rfl⟩
    obtain ⟨x, y, hx, hy, hr, e1⟩ := reL_mem.1 (rowV_mem h1)
    obtain ⟨y', z, hy', hz, hs, rfl⟩ := reL_mem.1 h2
    rw [e1] at h3 ⊢
    have h3 : (y : Int) = (y' : Int) := h3
    obtain rfl : y = y' := by omega
    exact ⟨x, z, hx, hz, cmpR_iff.2 ⟨y, hy, hr, hs⟩, rfl⟩
  · rintro ⟨x, z, hx, hz, hc, rfl⟩
    obtain ⟨y, hy, hr, hs⟩ := cmpR_iff.1 hc
    obtain ⟨i, hi, e⟩ := List.getElem_of_mem ((reL_pair hx hy).2 hr)
    have e : (reL n R).getD i [] = [(x : Int), (y : Int)] := by rw [List.getD_eq_getElem?_getD, List.getElem?_eq_getElem hi]; exact e
    exact ⟨i, [(y : Int), (z : Int)], hi, (reL_pair hy hz).2 hs, by rw [e]; rfl, by rw [e]; rfl⟩
theorem cp_two {n : Nat} {R : Nat → Nat → Bool} {i : Nat} (h : i < (reL n R).length) : ((reL n R).getD i []).length = 2 := by
  obtain ⟨x, y, -, -, -, e⟩ := reL_mem.1 (rowV_mem h)
  rw [e]; rfl
theorem icomp_c (n : Nat) (R S : Nat → Nat → Bool) (hn : n ≤ 30) : PCalls Tryz.prog 212 [relP 2 (reL n R), relP 2 (reL n S)] (relP 2 (reL n (cmpR n R S))) := by
  have hV : (reL n R).length ≤ 900 := Nat.le_trans (reL_len n R) (Nat.mul_le_mul hn hn)
  have hW : (reL n S).length ≤ 900 := Nat.le_trans (reL_len n S) (Nat.mul_le_mul hn hn)
  have hv2 := fun i (h : i < (reL n R).length) => cp_two h
  have hw2 := fun i (h : i < (reL n S).length) => cp_two h
  have hcp := cp_eq n R S
  have hcl := cpP_len (reL n R) (reL n S)
  have h9 : (cpP (reL n R) (reL n S) (reL n R).length).length ≤ 1048576 := Nat.le_trans (hcl _) (Nat.le_trans (Nat.mul_le_mul hV hW) (by decide))
  have hrow : ∀ p ∈ cpP (reL n R) (reL n S) (reL n R).length, p.length ≤ 1048576 := fun p hp => by
    obtain ⟨i, u, -, -, -, rfl⟩ := (cpP_mem (Nat.le_refl _)).1 hp
    exact Nat.le_of_ble_eq_true rfl
  have h8 := imkr_c 2 _ h9 hrow
  rw [hcp] at h8
  generalize reL n (cmpR n R S) = D at *
  clear hcp
  generalize reL n R = V at *
  generalize reL n S = W at *
  refine pcallsC Tryz.func212 rfl Tryz.ntmps212 rfl ?_
  refine wF ?_
  repeat' (first
| refine wO ?_
| (refine o_go rfl ?_; (first
| refine p_e rfl (e_lit0T rfl (by decide)) ?_
| refine wS ?_
| refine p_e rfl (e_alloc rfl) ?_
| refine p_p (ps_box rfl rfl) ?_); refine ⟨_, aA, ?_⟩))
  refine g_loopF (α := Nat) [10] (fun i => [(5, .hp 1), (14, I (i : Int))]) (fun i => [.box [I 0, nilV], .arr true 1 41 ((cpP V W i).map ints)]) (fun i => i ≤ V.length) (fun i => V.length - i) 0 aF (Nat.zero_le _) ⟨rfl, rfl, trivial⟩ rfl ?_
  rintro i hi
  dsimp only [zZ, List.set_cons_zero, List.set_cons_succ]
  have hc1 := hcl i
  have hc2 : i * W.length ≤ 900 * 900 := Nat.mul_le_mul (by omega) hW
  by_cases hil : i < V.length
  · have ri := rowV_at hil
    have r2 := hv2 i hil
    have hsP : cpP V W (i + 1) = cpP V W i ++ cpR (V.getD i []) W W.length := rfl
    generalize V.getD i [] = t at *
    have t0 := rowI_at (p := t) (x := 0) (by omega)
    have t1 := rowI_at (p := t) (x := 1) (by omega)
    repeat' (first
| refine wO ?_
| (refine o_go rfl ?_; (first
| refine p_p (zN rfl rfl rfl (by omega) ri (by exact rfl)) ?_
| refine wS ?_); refine ⟨_, aA, ?_⟩)
| (refine zK rfl (fun hc => ?_) (fun hc => ?_) <;> try (exfalso; omega))
| refine wE ?_)
    all_goals try (exfalso; omega)
    refine g_loopF (α := Nat) [10] (fun j => [(5, .hp 1), (21, I (j : Int))]) (fun j => [.box [I 0, nilV], .arr true 1 41 ((cpP V W i ++ cpR t W j).map ints)]) (fun j => j ≤ W.length) (fun j => W.length - j) 0 aF (Nat.zero_le _) ⟨rfl, rfl, trivial⟩ (by rw [show cpR t W 0 = [] from rfl, List.append_nil]) ?_
    rintro j hj
    dsimp only [zZ, List.set_cons_zero, List.set_cons_succ]
    have hcr := cpR_len t W j
    have hll : ((cpP V W i ++ cpR t W j).map ints).length = (cpP V W i).length + (cpR t W j).length := by rw [List.length_map, List.length_append]
    by_cases hjl : j < W.length
    · have rj := rowV_at hjl
      have s2 := hw2 j hjl
      have hsn := cpR_succ t hjl
      generalize W.getD j [] = u at *
      have u0 := rowI_at (p := u) (x := 0) (by omega)
      have u1 := rowI_at (p := u) (x := 1) (by omega)
      by_cases he : t.getD 1 0 = u.getD 0 0
      · rw [if_pos he] at hsn
        repeat' (first
| refine wO ?_
| refine zP (by kernel_rfl) (by kernel_rfl) ?_
| (refine o_go rfl ?_; (first
| refine p_p (zN rfl rfl rfl (by omega) rj (by exact rfl)) ?_
| refine p_p (zN rfl rfl rfl (by omega) t1 (by exact rfl)) ?_
| refine p_p (zN rfl rfl rfl (by omega) u0 (by exact rfl)) ?_
| refine p_p (zN rfl rfl rfl (by omega) t0 (by exact rfl)) ?_
| refine p_p (zN rfl rfl rfl (by omega) u1 (by exact rfl)) ?_
| refine wS ?_
| refine p_e rfl (e_append rfl rfl rfl rfl rfl rfl (by first | exact one_one rfl | exact one_map (fun _ => rfl) _) rfl aT aT) ?_
| refine p_p (ps_lit1 rfl rfl (by rfl) (by rfl)) ?_
| refine p_p (ps_lit2 rfl rfl rfl (by rfl) (by rfl) (by rfl)) ?_); refine ⟨_, aA, ?_⟩)
| (refine zK rfl (fun hc => ?_) (fun hc => ?_) <;> try (exfalso; omega))
| refine wE ?_)
        all_goals try (exfalso; first | omega | exact hc he)
        exact zT (j + 1) (by omega) (by omega) aI ⟨rfl, rfl, trivial⟩ (zB rfl (zB (by rw [hsn, ← List.append_assoc, List.map_append (l₁ := cpP V W i ++ cpR t W j)]; rfl) (zM _)))
      · rw [if_neg he, List.append_nil] at hsn
        repeat' (first
| refine wO ?_
| refine zP (by kernel_rfl) (by kernel_rfl) ?_
| (refine o_go rfl ?_; (first
| refine p_p (zN rfl rfl rfl (by omega) rj (by exact rfl)) ?_
| refine p_p (zN rfl rfl rfl (by omega) t1 (by exact rfl)) ?_
| refine p_p (zN rfl rfl rfl (by omega) u0 (by exact rfl)) ?_
| refine wS ?_); refine ⟨_, aA, ?_⟩)
| (refine zK rfl (fun hc => ?_) (fun hc => ?_) <;> try (exfalso; omega))
| refine wE ?_)
        all_goals try (exfalso; first | omega | exact he hc)
        exact zT (j + 1) (by omega) (by omega) aI ⟨rfl, rfl, trivial⟩ (zB rfl (zB (by rw [hsn]) (zM _)))
    · obtain rfl : j = W.length := by omega
      repeat' (first
| refine wO ?_
| (refine o_go rfl ?_; (first
| refine wS ?_); refine ⟨_, aA, ?_⟩)
| (refine zK rfl (fun hc => ?_) (fun hc => ?_) <;> try (exfalso; omega))
| refine wE ?_)
      all_goals try (exfalso; omega)
      exact zT (K := fun _ _ => True) (i + 1) (by omega) (by omega) aI ⟨rfl, rfl, trivial⟩ (zB rfl (zB (by rw [hsP]) (zM _)))
  · obtain rfl : i = V.length := by omega
    repeat' ((fail_if_success (refine at_reg1 12 ?_); fail_if_success (refine at_reg0 12 ?_)); (first
| refine wO ?_
| (refine o_go rfl ?_; (first
| refine wS ?_); refine ⟨_, aA, ?_⟩)
| (refine zK rfl (fun hc => ?_) (fun hc => ?_) <;> try (exfalso; omega))
| refine g_exit ?_))
    all_goals try (exfalso; omega)
    first | refine at_reg1 12 ?_ | refine at_reg0 12 ?_
    refine g_freezeP 1 rfl ⟨_, by dsimp only [bitvec_to_nat, Nat.reduceAdd, Nat.reduceMul, Nat.reduceBEq, reduceCtorEq], ?_⟩
    refine g_view1 5 ⟨_, aA, ?_⟩
    repeat' (first
| refine wO ?_
| (refine o_go rfl ?_; (first
| refine p_p (zG rfl rfl aB (h8)) ?_
| refine wS ?_
| refine p_e rfl (zO rfl rfl rfl rfl aJ rfl rfl rfl) ?_); refine ⟨_, aA, ?_⟩)
| refine krc ?_
| refine krC rfl aJ ?_
| refine wE ?_)
    all_goals first | rfl | (exfalso; omega)
theorem irop_c (p : List Int) (hp : p.length ≤ 1000) : PCalls Tryz.prog 211 [ints p] (relP 2 (reL p.length (ptR p))) := by
  refine pcallsC Tryz.func211 rfl Tryz.ntmps211 rfl ?_
  refine wF ?_
  obtain ⟨n, hn⟩ : ∃ n, n = p.length := ⟨_, rfl⟩
  rw [← hn]
  repeat' (first
| refine wO ?_
| (refine o_go rfl ?_; (first
| refine wS ?_
| refine p_e rfl (zO rfl rfl rfl rfl aJ rfl rfl rfl) ?_
| refine p_e rfl (e_alloc rfl) ?_
| refine p_p (ps_build rfl rfl) ?_); refine ⟨_, aA, ?_⟩))
  refine g_loopT (α := Nat) (fun x => [(9, I (x : Int))]) (fun x => rH (reP n (ptR p) x)) (fun x => x ≤ n) (fun x => n - x) 0 aF (Nat.zero_le _) ⟨rfl, trivial⟩ rfl ?_
  rintro x hx
  dsimp only [zZ, List.set_cons_zero, List.set_cons_succ]
  have hb1 := reP_len n (ptR p) x
  have hb2 : x * n ≤ 1000 * 1000 := Nat.mul_le_mul (by omega) (by omega)
  have hPs : reP n (ptR p) (x + 1) = reP n (ptR p) x ++ reR (ptR p) x n := rfl
  by_cases hxn : x < n
  · have rx := rowI_at (p := p) (x := x) (by omega)
    have hz : reP n (ptR p) x ++ reR (ptR p) x 0 = reP n (ptR p) x := by rw [reR_zero, List.append_nil]
    have hsn := fun y => reR_succ (ptR p) x y
    have hbl := fun y => reR_len (ptR p) x y
    repeat' (first
| refine wO ?_
| (refine o_go rfl ?_; (first
| refine wS ?_); refine ⟨_, aA, ?_⟩)
| (refine zK rfl (fun hc => ?_) (fun hc => ?_) <;> try (exfalso; omega))
| refine wE ?_)
    all_goals try (exfalso; omega)
    refine g_loopT (α := Nat) (fun y => [(14, I (y : Int))]) (fun y => rH (reP n (ptR p) x ++ reR (ptR p) x y)) (fun y => y ≤ n) (fun y => n - y) 0 aF (Nat.zero_le _) ⟨rfl, trivial⟩ (by rw [hz]) ?_
    rintro y hy
    dsimp only [zZ, List.set_cons_zero, List.set_cons_succ]
    have hsn := hsn y
    have hbl := hbl y
    by_cases hyn : y < n
    · have ry := rowI_at (p := p) (x := y) (by omega)
      by_cases he : p.getD x 0 = p.getD y 0
      · rw [show ptR p x y = true by rw [ptR_at, decide_eq_true he], if_pos rfl] at hsn
        have hsn2 : reP n (ptR p) x ++ reR (ptR p) x (y + 1) = (reP n (ptR p) x ++ reR (ptR p) x y) ++ [[(x : Int), (y : Int)]] := by rw [hsn, List.append_assoc]
        have hll : (reP n (ptR p) x ++ reR (ptR p) x y).length ≤ 1001000 := by rw [List.length_append]; omega
        generalize reP n (ptR p) x ++ reR (ptR p) x y = L at *
        cases L with
        | nil =>
          dsimp only [rH]
          repeat' (first
| refine wO ?_
| refine zP (by kernel_rfl) (by kernel_rfl) ?_
| (refine o_go rfl ?_; (first
| refine p_p (zN rfl rfl rfl (by omega) rx (by exact rfl)) ?_
| refine p_p (zN rfl rfl rfl (by omega) ry (by exact rfl)) ?_
| refine p_e rfl (e_appendNil rfl rfl rfl rfl (one_one rfl) (by decide) rfl (by rw [n_len_c, n_len_n]; omega) (by rw [n_len_c, n_len_n]; omega) (by rw [n_len_c, n_len_n]; omega)) ?_
| refine wS ?_
| refine p_e rfl (e_store_boxC rfl rfl rfl rfl aJ rfl rfl) ?_
| refine p_p (ps_lit1 rfl rfl (by rfl) (by rfl)) ?_
| refine p_p (ps_lit2 rfl rfl rfl (by rfl) (by rfl) (by rfl)) ?_); refine ⟨_, aA, ?_⟩)
| (refine zK rfl (fun hc => ?_) (fun hc => ?_) <;> try (exfalso; omega))
| refine wE ?_)
          all_goals try (exfalso; first | omega | exact hc he)
          exact zT (y + 1) (by omega) (by omega) aI ⟨rfl, trivial⟩ (by rw [hsn2]; exact zB rfl (zB rfl (zB rfl (zM _))))
        | cons a l =>
          have hl2 : ((a :: l).map ints).length = (a :: l).length := List.length_map ..
          dsimp only [rH]
          generalize hM : (a :: l).map ints = M at *
          repeat' (first
| refine wO ?_
| refine zP (by kernel_rfl) (by kernel_rfl) ?_
| (refine o_go rfl ?_; (first
| refine p_p (zN rfl rfl rfl (by omega) rx (by exact rfl)) ?_
| refine p_p (zN rfl rfl rfl (by omega) ry (by exact rfl)) ?_
| refine wS ?_
| refine p_e rfl (e_store_boxC rfl rfl rfl rfl aJ rfl rfl) ?_
| refine p_e rfl (e_append rfl rfl rfl rfl rfl rfl (by first | exact one_one rfl | exact one_map (fun _ => rfl) _) rfl aT aT) ?_
| refine p_p (ps_lit1 rfl rfl (by rfl) (by rfl)) ?_
| refine p_p (ps_lit2 rfl rfl rfl (by rfl) (by rfl) (by rfl)) ?_); refine ⟨_, aA, ?_⟩)
| (refine zK rfl (fun hc => ?_) (fun hc => ?_) <;> try (exfalso; omega))
| refine wE ?_)
          all_goals try (exfalso; first | omega | exact hc he)
          exact zT (y + 1) (by omega) (by omega) aI ⟨rfl, trivial⟩ (by rw [hsn2]; exact zB rfl (zB rfl (zB (by rw [← hM]; show _ = HO.arr true 1 _ ((a :: l ++ [[(x : Int), (y : Int)]]).map ints); rw [List.map_append]; rfl) (zM _))))
      · rw [show ptR p x y = false by rw [ptR_at, decide_eq_false he], if_neg Bool.false_ne_true, List.append_nil] at hsn
        repeat' (first
| refine wO ?_
| refine zP (by kernel_rfl) (by kernel_rfl) ?_
| (refine o_go rfl ?_; (first
| refine p_p (zN rfl rfl rfl (by omega) rx (by exact rfl)) ?_
| refine p_p (zN rfl rfl rfl (by omega) ry (by exact rfl)) ?_
| refine wS ?_); refine ⟨_, aA, ?_⟩)
| (refine zK rfl (fun hc => ?_) (fun hc => ?_) <;> try (exfalso; omega))
| refine wE ?_)
        all_goals try (exfalso; first | omega | exact he hc)
        exact zT (y + 1) (by omega) (by omega) aI ⟨rfl, trivial⟩ (by rw [hsn]; exact hpLe_refl _)
    · obtain rfl : y = n := by omega
      repeat' (first
| refine wO ?_
| (refine o_go rfl ?_; (first
| refine wS ?_); refine ⟨_, aA, ?_⟩)
| (refine zK rfl (fun hc => ?_) (fun hc => ?_) <;> try (exfalso; omega))
| refine wE ?_)
      all_goals try (exfalso; omega)
      exact zT (K := fun _ _ => True) (x + 1) (by omega) (by omega) aI ⟨rfl, trivial⟩ (by rw [hPs]; exact hpLe_refl _)
  · obtain rfl : x = n := by omega
    have hre : reL x (ptR p) = reP x (ptR p) x := rfl
    rw [hre]
    generalize reP x (ptR p) x = L at *
    cases L with
    | nil =>
      dsimp only [rH]
      repeat' (first
| refine krc (krC_le rfl aJ rfl (agg2_le (PV.le_nil 1)))
| refine wO ?_
| (refine o_go rfl ?_; (first
| refine wS ?_
| refine p_e rfl (zO rfl rfl rfl rfl aJ rfl rfl rfl) ?_); refine ⟨_, aA, ?_⟩)
| (refine zK rfl (fun hc => ?_) (fun hc => ?_) <;> try (exfalso; omega))
| refine wE ?_)
      all_goals (exfalso; omega)
    | cons a l =>
      dsimp only [rH]
      repeat' (first
| refine wO ?_
| (refine o_go rfl ?_; (first
| refine wS ?_
| refine p_e rfl (zO rfl rfl rfl rfl aJ rfl rfl rfl) ?_); refine ⟨_, aA, ?_⟩)
| (refine zK rfl (fun hc => ?_) (fun hc => ?_) <;> try (exfalso; omega))
| refine krc ?_
| refine krC rfl aJ ?_
| refine wE ?_)
      all_goals first | rfl | (exfalso; omega)
end Go.Proofs.YtnjocjfhaahmfaaGreat
