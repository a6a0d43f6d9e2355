/- Walks: the greatest number of factors, heights, both sides; draws and comparisons of the law. -/
import Derived.Test.YtnjocjfhaahmfaaGreatJVs
import Derived.Test.YtnjocjfhaahmfaaGreatJKv
import Derived.Test.YtnjocjfhaahmfaaGreatJYj
import Derived.Test.YtnjocjfhaahmfaaGreatJZb
namespace Go.Proofs.YtnjocjfhaahmfaaGreat
open Go Go.Pv Go.Proofs
set_option maxHeartbeats 32000000
set_option maxRecDepth 100000
attribute [local bitvec_to_nat] St.put St.setObj St.ev killP killA killP1 killH mapHO renP renA ren1 killG killGA killG1 krowP krowA krow1 lendP lendA lend1 unv pinP pin1 elemsM viewM viewN viewV n_set_z n_set_s n_map_c n_map_n getD_z getD_s n_toNat n_cond_t n_cond_f n_len_c n_len_n n_app_c n_app_n n_take_s n_take_z n_drop_s n_drop_z n_get_z n_get_s view viewA view1 elems Nat.zero_add Nat.add_zero Bool.not_true Bool.not_false Nat.one_ne_zero Nat.mul_one

noncomputable def rkN (n : Int) (ops : List OpD) : Nat := if fcB n ops then rkV n.toNat (acV n ops) else 0
theorem rkX_eq (n : Nat) (V : List (List Int)) : rkX n V (V.take V.length) 0 = rkV n V := by rw [List.take_length]; rfl
theorem srank_c (n : Int) (ops : List OpD) (hs : szOk ops) : PCalls Tryz.prog 50 [algP n ops] (.tup [I (rkN n ops : Int), B (fcB n ops)]) := by
  refine pcalls2 Tryz.func50 rfl Tryz.ntmps50 rfl ?_
  refine wF ?_
  have h1 := sfew53_c n ops hs
  unfold rkN
  cases hf : fcB n ops with
  | false =>
    rw [hf, if_neg Bool.false_ne_true] at h1
    rw [if_neg Bool.false_ne_true]
    repeat' (first
| refine wO ?_
| (refine o_go rfl ?_; (first
| refine p_p (zG rfl rfl aB (h1)) ?_
| refine wS ?_
| refine p_p (ps_load_agg rfl rfl aJ) ?_
| refine p_p (ps_box rfl rfl) ?_); refine ⟨_, aA, ?_⟩)
| refine kr2 ?_ ?_
| refine krB rfl ?_
| refine krI rfl ?_
| refine wE ?_)
    all_goals rfl
  | true =>
    obtain ⟨m, rfl, hm0, hm8, h4, ho, hg, hV, h60⟩ := fcB_facts hf
    rw [hf, if_pos rfl, hV] at h1
    rw [if_pos rfl, hV, Int.toNat_natCast]
    have hPt : ∀ p ∈ allL m ops, Pt m p := fc_pt
    generalize allL m ops = V at *
    repeat' (first
| refine wO ?_
| (refine o_go rfl ?_; (first
| refine p_p (zG rfl rfl aB (h1)) ?_
| refine wS ?_
| refine p_p (ps_load_agg rfl rfl aJ) ?_
| refine p_p (ps_box rfl rfl) ?_); refine ⟨_, aA, ?_⟩)
| refine wE ?_)
    refine g_loopT (α := Nat) (fun i => [(6, I (rkX m V (V.take i) 0 : Int)), (7, I (i : Int))]) (fun _ => []) (fun i => i ≤ V.length) (fun i => V.length - i) 0 aF (Nat.zero_le _) ⟨rfl, rfl, trivial⟩ rfl ?_
    rintro i hi
    dsimp only [zZ, List.set_cons_zero, List.set_cons_succ]
    by_cases hil : i < V.length
    · have ri := rows_at hil
      have pi := hPt _ (rows_mem hil)
      have hsn := rkX_snoc (n := m) (V := V) (m := 0) hil
      generalize rkX m V (V.take i) 0 = M at *
      repeat' (first
| refine wO ?_
| (refine o_go rfl ?_; (first
| refine wS ?_); refine ⟨_, aA, ?_⟩)
| (refine zK rfl (fun hc => ?_) (fun hc => ?_) <;> try (exfalso; omega))
| refine wE ?_)
      all_goals try (exfalso; omega)
      refine g_loopT (α := Nat) (fun k => [(6, I (rkJ m (V.getD i []) (V.take k) M : Int)), (8, I (k : Int))]) (fun _ => []) (fun k => k ≤ V.length) (fun k => V.length - k) 0 aF (Nat.zero_le _) ⟨rfl, rfl, trivial⟩ rfl ?_
      rintro k hk
      dsimp only [zZ, List.set_cons_zero, List.set_cons_succ]
      by_cases hkl : k < V.length
      · have rk := rows_at hkl
        have pk := hPt _ (rows_mem hkl)
        have f1 := sftj_c m _ _ hm0 hm8 pi pk
        have hj := rkJ_snoc (n := m) (p := V.getD i []) (m := M) hkl
        generalize rkJ m (V.getD i []) (V.take k) M = a at *
        generalize ftj m (V.getD i []) (V.getD k []) = b at *
        have g1 := smst_c (a : Int) (b : Int)
        rw [show (if (b : Int) < (a : Int) then (a : Int) else (b : Int)) = ((max a b : Nat) : Int) by split <;> omega] at g1
        repeat' (first
| refine wO ?_
| refine zP (by kernel_rfl) (by kernel_rfl) ?_
| (refine o_go rfl ?_; (first
| refine p_p (zG rfl rfl aB (f1)) ?_
| refine p_p (zG rfl rfl aB (g1)) ?_
| refine p_p (zN rfl rfl rfl (by omega) ri (by exact rfl)) ?_
| refine p_p (zN rfl rfl rfl (by omega) rk (by exact rfl)) ?_
| refine wS ?_); refine ⟨_, aA, ?_⟩)
| (refine zK rfl (fun hc => ?_) (fun hc => ?_) <;> try (exfalso; omega))
| refine wE ?_)
        all_goals try (exfalso; omega)
        exact zT (k + 1) (by omega) (by omega) aI ⟨by rw [hj]; rfl, rfl, trivial⟩ (zM _)
      · repeat' (first
| refine wO ?_
| (refine o_go rfl ?_; (first
| refine wS ?_); refine ⟨_, aA, ?_⟩)
| (refine zK rfl (fun hc => ?_) (fun hc => ?_) <;> try (exfalso; omega))
| refine wE ?_)
        all_goals try (exfalso; omega)
        refine zT (K := fun _ _ => True) (i + 1) (by omega) (by omega) aI ⟨?_, rfl, trivial⟩ (zM _)
        rw [hsn, List.take_of_length_le (by omega)]; rfl
    · rw [show i = V.length by omega, rkX_eq]
      repeat' (first
| refine wO ?_
| (refine o_go rfl ?_; (first
| refine wS ?_); refine ⟨_, aA, ?_⟩)
| (refine zK rfl (fun hc => ?_) (fun hc => ?_) <;> try (exfalso; omega))
| refine kr2 ?_ ?_
| refine krB rfl ?_
| refine krI rfl ?_
| refine wE ?_)
      all_goals first | rfl | (exfalso; omega)
theorem irank_c (n : Int) (ops : List OpD) (hs : szOk ops) : PCalls Tryz.prog 49 [algP n ops] (.tup [I (rkN n ops : Int), B (fcB n ops)]) := by
  refine pcalls2 Tryz.func49 rfl Tryz.ntmps49 rfl ?_
  refine wF ?_
  have h1 := ifew_c n ops hs
  unfold rkN
  cases hf : fcB n ops with
  | false =>
    rw [hf, if_neg Bool.false_ne_true] at h1
    rw [if_neg Bool.false_ne_true]
    repeat' (first
| refine wO ?_
| (refine o_go rfl ?_; (first
| refine p_p (zG rfl rfl aB (h1)) ?_
| refine wS ?_
| refine p_p (ps_load_agg rfl rfl aJ) ?_
| refine p_p (ps_box rfl rfl) ?_); refine ⟨_, aA, ?_⟩)
| refine kr2 ?_ ?_
| refine krB rfl ?_
| refine krI rfl ?_
| refine wE ?_)
    all_goals rfl
  | true =>
    obtain ⟨m, rfl, hm0, hm8, h4, ho, hg, hV, h60⟩ := fcB_facts hf
    rw [hf, if_pos rfl, hV] at h1
    rw [if_pos rfl, hV, Int.toNat_natCast]
    have hPt : ∀ p ∈ allL m ops, Pt m p := fc_pt
    generalize allL m ops = V at *
    repeat' (first
| refine wO ?_
| (refine o_go rfl ?_; (first
| refine p_p (zG rfl rfl aB (h1)) ?_
| refine wS ?_
| refine p_p (ps_load_agg rfl rfl aJ) ?_
| refine p_p (ps_box rfl rfl) ?_); refine ⟨_, aA, ?_⟩)
| refine wE ?_)
    refine g_loopT (α := Nat) (fun i => [(6, I (rkX m V (V.take i) 0 : Int)), (20, I (i : Int))]) (fun _ => []) (fun i => i ≤ V.length) (fun i => V.length - i) 0 aF (Nat.zero_le _) ⟨rfl, rfl, trivial⟩ rfl ?_
    rintro i hi
    dsimp only [zZ, List.set_cons_zero, List.set_cons_succ]
    by_cases hil : i < V.length
    · have ri := rows_at hil
      have pi := hPt _ (rows_mem hil)
      have hsn := rkX_snoc (n := m) (V := V) (m := 0) hil
      generalize rkX m V (V.take i) 0 = M at *
      repeat' (first
| refine wO ?_
| (refine o_go rfl ?_; (first
| refine p_p (zN rfl rfl rfl (by omega) ri (by exact rfl)) ?_
| refine wS ?_); refine ⟨_, aA, ?_⟩)
| (refine zK rfl (fun hc => ?_) (fun hc => ?_) <;> try (exfalso; omega))
| refine wE ?_)
      all_goals try (exfalso; omega)
      refine g_loopT (α := Nat) (fun k => [(6, I (rkJ m (V.getD i []) (V.take k) M : Int)), (26, I (k : Int))]) (fun _ => []) (fun k => k ≤ V.length) (fun k => V.length - k) 0 aF (Nat.zero_le _) ⟨rfl, rfl, trivial⟩ rfl ?_
      rintro k hk
      dsimp only [zZ, List.set_cons_zero, List.set_cons_succ]
      by_cases hkl : k < V.length
      · have rk := rows_at hkl
        have pk := hPt _ (rows_mem hkl)
        have f1 := iftj_c m _ _ hm0 hm8 pi pk
        have hj := rkJ_snoc (n := m) (p := V.getD i []) (m := M) hkl
        generalize rkJ m (V.getD i []) (V.take k) M = a at *
        generalize ftj m (V.getD i []) (V.getD k []) = b at *
        have hmx : (if (b : Int) > (a : Int) then (b : Int) else (a : Int)) = ((max a b : Nat) : Int) := by split <;> omega
        repeat' (first
| refine wO ?_
| (refine o_go rfl ?_; (first
| refine p_p (zG rfl rfl aB (f1)) ?_
| refine p_p (ps_maxV rfl rfl rfl hmx) ?_
| refine p_p (zN rfl rfl rfl (by omega) rk (by exact rfl)) ?_
| refine wS ?_); refine ⟨_, aA, ?_⟩)
| (refine zK rfl (fun hc => ?_) (fun hc => ?_) <;> try (exfalso; omega))
| refine wE ?_)
        all_goals try (exfalso; omega)
        exact zT (k + 1) (by omega) (by omega) aI ⟨by rw [hj]; rfl, rfl, trivial⟩ (zM _)
      · repeat' (first
| refine wO ?_
| (refine o_go rfl ?_; (first
| refine wS ?_); refine ⟨_, aA, ?_⟩)
| (refine zK rfl (fun hc => ?_) (fun hc => ?_) <;> try (exfalso; omega))
| refine wE ?_)
        all_goals try (exfalso; omega)
        refine zT (K := fun _ _ => True) (i + 1) (by omega) (by omega) aI ⟨?_, rfl, trivial⟩ (zM _)
        rw [hsn, List.take_of_length_le (by omega)]; rfl
    · rw [show i = V.length by omega, rkX_eq]
      repeat' (first
| refine wO ?_
| (refine o_go rfl ?_; (first
| refine wS ?_); refine ⟨_, aA, ?_⟩)
| (refine zK rfl (fun hc => ?_) (fun hc => ?_) <;> try (exfalso; omega))
| refine kr2 ?_ ?_
| refine krB rfl ?_
| refine krI rfl ?_
| refine wE ?_)
      all_goals first | rfl | (exfalso; omega)
/-! ### Heights -/
noncomputable def htI (n : Int) (ops : List OpD) : Nat := if fcB n ops then htV n.toNat (acV n ops) else 0
def natsH (L : List Nat) : List Int := L.map fun (a : Nat) => (a : Int)
theorem natsH_at {H : List Nat} {k : Nat} (h : k < H.length) : ((natsH H).map I)[((k : Nat) : Int).toNat]? = some (I ((H.getD k 0 : Nat) : Int)) := by
  rw [Int.toNat_natCast, natsH, List.getElem?_map, List.getElem?_map, List.getElem?_eq_getElem h, List.getD_eq_getElem?_getD, List.getElem?_eq_getElem h]; rfl
theorem shgt_c (n : Int) (ops : List OpD) (hs : szOk ops) : PCalls Tryz.prog 62 [algP n ops] (.tup [I (htI n ops : Int), B (fcB n ops)]) := by
  refine pcalls2 Tryz.func62 rfl Tryz.ntmps62 rfl ?_
  refine wF ?_
  have h1 := sfew53_c n ops hs
  unfold htI
  cases hf : fcB n ops with
  | false =>
    rw [hf, if_neg Bool.false_ne_true] at h1
    rw [if_neg Bool.false_ne_true]
    repeat' (first
| refine wO ?_
| (refine o_go rfl ?_; (first
| refine p_p (zG rfl rfl aB (h1)) ?_
| refine wS ?_
| refine p_p (ps_load_agg rfl rfl aJ) ?_
| refine p_p (ps_box rfl rfl) ?_); refine ⟨_, aA, ?_⟩)
| refine kr2 ?_ ?_
| refine krB rfl ?_
| refine krI rfl ?_
| refine wE ?_)
    all_goals rfl
  | true =>
    obtain ⟨m, rfl, hm0, hm8, h4, ho, hg, hV, h60⟩ := fcB_facts hf
    rw [hf, if_pos rfl, hV] at h1
    rw [if_pos rfl, hV, Int.toNat_natCast]
    have hPt : ∀ p ∈ allL m ops, Pt m p := fc_pt
    generalize allL m ops = V at *
    repeat' (first
| refine wO ?_
| (refine o_go rfl ?_; (first
| refine p_p (zG rfl rfl aB (h1)) ?_
| refine p_e rfl (e_lit0T rfl (by decide)) ?_
| refine wS ?_
| refine p_p (ps_load_agg rfl rfl aJ) ?_
| refine p_p (ps_box rfl rfl) ?_); refine ⟨_, aA, ?_⟩)
| refine wE ?_)
    refine g_loopF (α := Nat) [18] (fun i => [(6, .hp 0), (7, I (htM m V i : Int)), (8, I (i : Int))]) (fun i => [.arr true 1 3 ((natsH (htL m V i)).map I)]) (fun i => i ≤ V.length) (fun i => V.length - i) 0 aF (Nat.zero_le _) ⟨rfl, rfl, rfl, trivial⟩ rfl ?_
    rintro i hi
    dsimp only [zZ, List.set_cons_zero, List.set_cons_succ]
    have hHl := htL_len m V i
    have hll : ((natsH (htL m V i)).map I).length = i := by rw [List.length_map, natsH, List.length_map, hHl]
    by_cases hil : i < V.length
    · have ri := rows_at hil
      have pi := hPt _ (rows_mem hil)
      have hMs : htM m V (i + 1) = max (htM m V i) (htN m V (htL m V i) i i) := rfl
      have hLs : htL m V (i + 1) = htL m V i ++ [htN m V (htL m V i) i i] := rfl
      have hNb : ∀ k, htN m V (htL m V i) i k ≤ k := htN_le (htL_le m V i)
      have hHb := htL_le m V i
      generalize htM m V i = M at *
      generalize htL m V i = H at *
      repeat' (first
| refine wO ?_
| (refine o_go rfl ?_; (first
| refine wS ?_); refine ⟨_, aA, ?_⟩)
| (refine zK rfl (fun hc => ?_) (fun hc => ?_) <;> try (exfalso; omega))
| refine wE ?_)
      all_goals try (exfalso; omega)
      refine g_loopF (α := Nat) [] (fun k => [(9, I (htN m V H i k : Int)), (10, I (k : Int))]) (fun _ => [.arr true 1 3 ((natsH H).map I)]) (fun k => k ≤ i) (fun k => i - k) 0 aF (Nat.zero_le _) ⟨rfl, rfl, trivial⟩ rfl ?_
      rintro k hk
      dsimp only [zZ, List.set_cons_zero, List.set_cons_succ]
      by_cases hki : k < i
      · have rk := rows_at (V := V) (k := k) (by omega)
        have pk := hPt _ (rows_mem (V := V) (k := k) (by omega))
        have b1 := sbel_c m (V.getD k []) (V.getD i []) (by omega) pk pi.len
        have hS := htN_succ m V H i k
        unfold htS at hS
        have hat : ((natsH H).map I)[k * 1]? = some (I ((H.getD k 0 : Nat) : Int)) := by rw [Nat.mul_one]; exact natsH_at (H := H) (k := k) (by omega)
        have hNk := hNb k
        have hHk := hHb k
        generalize htN m V H i k = a at *
        generalize H.getD k 0 = b at *
        cases hfi : fiB m (V.getD k []) (V.getD i []) with
        | false =>
          rw [hfi] at b1
          rw [hfi, if_neg Bool.false_ne_true] at hS
          repeat' (first
| refine wO ?_
| refine zP (by kernel_rfl) (by kernel_rfl) ?_
| (refine o_go rfl ?_; (first
| refine p_p (zG rfl rfl aB (b1)) ?_
| refine p_p (zN rfl rfl rfl (by omega) ri (by exact rfl)) ?_
| refine p_p (zN rfl rfl rfl (by omega) rk (by exact rfl)) ?_
| refine wS ?_); refine ⟨_, aA, ?_⟩)
| (refine zK rfl (fun hc => ?_) (fun hc => ?_) <;> try (exfalso; omega))
| refine wE ?_)
          all_goals try (exfalso; omega)
          exact zT (k + 1) (by omega) (by omega) aI ⟨by rw [hS]; rfl, rfl, trivial⟩ (zB rfl (zM _))
        | true =>
          rw [hfi] at b1
          rw [hfi, if_pos rfl] at hS
          have hab : (b : Int) + 1 = ((b + 1 : Nat) : Int) := by omega
          have g1 := smst_c (a : Int) ((b + 1 : Nat) : Int)
          rw [show (if ((b + 1 : Nat) : Int) < (a : Int) then (a : Int) else ((b + 1 : Nat) : Int)) = ((max a (b + 1) : Nat) : Int) by split <;> omega] at g1
          repeat' (first
| refine wO ?_
| refine zP (by kernel_rfl) (by kernel_rfl) ?_
| (refine o_go rfl ?_; (first
| refine p_p (zG rfl rfl aB (b1)) ?_
| refine p_p (zG rfl rfl aB (g1)) ?_
| refine p_p (ps_addV rfl rfl rfl hab (by omega)) ?_
| refine p_p (yA rfl rfl rfl rfl (by omega) (by omega)) ?_
| refine p_p (ps_load_arr rfl rfl rfl (by exact hat) rfl) ?_
| refine p_p (zN rfl rfl rfl (by omega) ri (by exact rfl)) ?_
| refine p_p (zN rfl rfl rfl (by omega) rk (by exact rfl)) ?_
| refine wS ?_); refine ⟨_, aA, ?_⟩)
| (refine zK rfl (fun hc => ?_) (fun hc => ?_) <;> try (exfalso; omega))
| refine wE ?_)
          all_goals try (exfalso; omega)
          exact zT (k + 1) (by omega) (by omega) aI ⟨by rw [hS]; rfl, rfl, trivial⟩ (zB rfl (zM _))
      · obtain rfl : k = i := by omega
        have g1 := smst_c (M : Int) (htN m V H k k : Int)
        generalize htN m V H k k = a at *
        rw [show (if (a : Int) < (M : Int) then (M : Int) else (a : Int)) = ((max M a : Nat) : Int) by split <;> omega] at g1
        repeat' (first
| refine wO ?_
| (refine o_go rfl ?_; (first
| refine p_p (zG rfl rfl aB (g1)) ?_
| refine p_e (by kernel_rfl) (e_append rfl rfl rfl rfl rfl rfl (one_one rfl) rfl (by rw [hll, n_len_c, n_len_n]; omega) (by rw [hll, n_len_c, n_len_n]; omega)) ?_
| refine wS ?_
| refine p_p (ps_lit1 rfl rfl (by rfl) (by rfl)) ?_); refine ⟨_, aA, ?_⟩)
| (refine zK rfl (fun hc => ?_) (fun hc => ?_) <;> try (exfalso; omega))
| refine wE ?_)
        all_goals try (exfalso; omega)
        refine zT (K := fun _ _ => True) (k + 1) (by omega) (by omega) aI ⟨rfl, ?_, rfl, trivial⟩ (zB ?_ (zM _))
        · rw [hMs]; rfl
        · rw [hLs, natsH, natsH, List.map_append, List.map_append]; rfl
    · rw [show htM m V i = htV m V by unfold htV; rw [show i = V.length by omega]]
      repeat' (first
| refine wO ?_
| (refine o_go rfl ?_; (first
| refine wS ?_); refine ⟨_, aA, ?_⟩)
| (refine zK rfl (fun hc => ?_) (fun hc => ?_) <;> try (exfalso; omega))
| refine kr2 ?_ ?_
| refine krB rfl ?_
| refine krI rfl ?_
| refine wE ?_)
      all_goals first | rfl | (exfalso; omega)
def htA (n : Nat) (V : List (List Int)) (N k : Nat) (x : Nat) : List Int := natsH (htL n V k ++ x :: List.replicate (N - (k + 1)) 0)
theorem htA_len {n : Nat} {V : List (List Int)} {N k x : Nat} (h : k < N) : (htA n V N k x).length = N := by
  unfold htA natsH
  rw [List.length_map, List.length_append, List.length_cons, List.length_replicate, htL_len]; omega
theorem htA_at {n : Nat} {V : List (List Int)} {N k x : Nat} (h : k < N) : ((htA n V N k x).map I)[((k : Nat) : Int).toNat]? = some (I (x : Int)) := by
  unfold htA
  have hl := htL_len n V k
  rw [natsH_at (by rw [List.length_append, List.length_cons, hl]; omega), List.getD_eq_getElem?_getD, List.getElem?_append_right (by omega), hl, Nat.sub_self]; rfl
theorem htA_low {n : Nat} {V : List (List Int)} {N k x i : Nat} (h : k < N) (hi : i < k) : ((htA n V N k x).map I)[((i : Nat) : Int).toNat]? = some (I (((htL n V k).getD i 0 : Nat) : Int)) := by
  unfold htA
  have hl := htL_len n V k
  rw [natsH_at (by rw [List.length_append, List.length_cons, hl]; omega), List.getD_eq_getElem?_getD, List.getElem?_append_left (by omega), ← List.getD_eq_getElem?_getD]
theorem htA_set {n : Nat} {V : List (List Int)} {N k x y : Nat} : ((htA n V N k x).map I).set k (I (y : Int)) = (htA n V N k y).map I := by
  unfold htA natsH
  have hl := htL_len n V k
  rw [List.map_append, List.map_append, List.map_append, List.map_append, List.set_append_right _ _ (by simp [hl])]
  simp [hl]
theorem htA_next {n : Nat} {V : List (List Int)} {N k : Nat} (h : k + 1 < N) : htA n V N k (htN n V (htL n V k) k k) = htA n V N (k + 1) 0 := by
  unfold htA
  rw [show htL n V (k + 1) = htL n V k ++ [htN n V (htL n V k) k k] from rfl, show N - (k + 1) = (N - (k + 1 + 1)) + 1 by omega, List.replicate_succ, List.append_assoc]; rfl
theorem htA_end {n : Nat} {V : List (List Int)} {N k : Nat} (h : k + 1 = N) : htA n V N k (htN n V (htL n V k) k k) = natsH (htL n V N) := by
  unfold htA
  rw [show N - (k + 1) = 0 by omega, ← h]; rfl
theorem htA_zero {n : Nat} {V : List (List Int)} {N : Nat} (h : 0 < N) : List.replicate N (I 0) = (htA n V N 0 0).map I := by
  obtain ⟨M, rfl⟩ : ∃ M, N = M + 1 := ⟨N - 1, by omega⟩
  unfold htA natsH
  show _ = ((0 :: List.replicate (M + 1 - (0 + 1)) 0).map _).map I
  rw [List.map_cons, List.map_cons, List.map_replicate, List.map_replicate, show M + 1 - (0 + 1) = M by omega, List.replicate_succ]; rfl
def htW (n : Nat) (V : List (List Int)) (N k : Nat) : List Int := if k < N then htA n V N k 0 else natsH (htL n V N)
theorem drawAP_c {l : List Int} (h : bytesOk l) : ∃ n ops, szOk ops ∧ PCalls Tryz.prog 133 [bytesP l] (algP n ops) := by
  obtain ⟨c', n, ops, -, hs, -, -, -, hL⟩ := few16_L (cu0_ok h) (by omega)
  refine ⟨n, ops, hs, ?_⟩
  refine pcallsC Tryz.func133 rfl Tryz.ntmps133 rfl ?_
  refine wF ?_
  repeat' (first
| refine wO ?_
| (refine o_go rfl ?_; (first
| refine p_e rfl (e_box rfl rfl) ?_
| refine p_e rfl (e_callL (n := 1) rfl rfl rfl aM rfl (by rfl) aU (hL)) ?_
| refine wS ?_
| refine p_e rfl (zO rfl rfl rfl rfl aJ rfl rfl rfl) ?_
| refine p_e rfl (e_alloc rfl) ?_
| refine p_p (ps_build rfl rfl) ?_); refine ⟨_, aA, ?_⟩)
| refine krc ?_
| refine krC rfl aJ ?_
| refine wE ?_)
  rfl
theorem drawAM_c {l : List Int} (h : bytesOk l) : ∃ n ops, szOk ops ∧ PCalls Tryz.prog 41 [bytesP l] (algP n ops) := by
  obtain ⟨n, ops, hs, hc⟩ := drawAP_c h
  refine ⟨n, ops, hs, ?_⟩
  refine pcallsC Tryz.func41 rfl Tryz.ntmps41 rfl ?_
  refine wF ?_
  repeat' (first
| refine wO ?_
| (refine o_go rfl ?_; (first
| refine p_p (zG rfl rfl aB (hc)) ?_
| refine wS ?_
| refine p_e rfl (zO rfl rfl rfl rfl aJ rfl rfl rfl) ?_
| refine p_e rfl (e_alloc rfl) ?_); refine ⟨_, aA, ?_⟩)
| refine krc ?_
| refine krC rfl aJ ?_
| refine wE ?_)
  rfl
theorem vbig53_c (l : List Int) (_hl : l.length ≤ 9223372036854775807) : PCalls Tryz.prog 40 [bytesP l] (B (decide (65536 < (l.length : Int)))) := by
  refine pcalls1 Tryz.func40 rfl Tryz.ntmps40 rfl ?_
  refine wF ?_
  repeat' (first
| refine wO ?_
| (refine o_go rfl ?_; (first
| refine wS ?_); refine ⟨_, aA, ?_⟩)
| refine kr1 ?_
| refine krB rfl ?_
| refine wE ?_)
  all_goals first | rfl | (exfalso; omega)
theorem vints53_c (xs ys : List Int) (hl : xs.length ≤ 9223372036854775807) (_hm : ys.length ≤ 9223372036854775807) : PCalls Tryz.prog 58 [ints xs, ints ys] (B (decide (xs = ys))) := by
  refine pcalls1 Tryz.func58 rfl Tryz.ntmps58 rfl ?_
  refine wF ?_
  repeat' (first
| refine wO ?_
| (refine o_go rfl ?_; (first
| refine wS ?_); refine ⟨_, aA, ?_⟩)
| (refine g_condN rfl (fun hc => ?_) (fun hc => ?_) <;> try (exfalso; omega))
| refine kr1 ?_
| refine krB rfl ?_
| refine wE ?_)
  · exact Eq.symm (decide_eq_false fun e => hc (by rw [e]))
  have hlen : xs.length = ys.length := by omega
  refine g_loopT (α := Nat) (fun k => [(5, I k)]) (fun _ => []) (fun k => k ≤ xs.length ∧ xs.take k = ys.take k) (fun k => xs.length - k) 0 aF ⟨Nat.zero_le _, by simp⟩ ⟨rfl, trivial⟩ rfl ?_
  clear hc
  rintro k ⟨hk, hno⟩
  dsimp only [zZ, List.set_cons_zero, List.set_cons_succ]
  repeat' (first
| refine wO ?_
| refine zP (by kernel_rfl) (by kernel_rfl) ?_
| (refine o_go rfl ?_; (first
| refine wS ?_
| refine p_p (zN rfl rfl rfl (by omega) aP (by exact rfl)) ?_); refine ⟨_, aA, ?_⟩)
| (refine g_condN rfl (fun hc => ?_) (fun hc => ?_) <;> try (exfalso; omega))
| (refine zK rfl (fun hc => ?_) (fun hc => ?_) <;> try (exfalso; omega))
| refine kr1 ?_
| refine krB rfl ?_
| refine wE ?_)
  · exact Eq.symm (decide_eq_false (eq_at (k := k) 0 hc))
  · refine zT (k + 1) ⟨by omega, ?_⟩ (by omega) aI ⟨rfl, trivial⟩ (zM _)
    rw [take_snoc 0 (by omega), take_snoc 0 (by omega), hno, hc]
  · rw [(take_full hk hc).1, show k = ys.length by omega, List.take_length] at hno
    exact Eq.symm (decide_eq_true hno)
theorem vtable53_c (V : List (List Int)) (hl : V.length ≤ 1048576) (hV : ∀ r ∈ V, r.length ≤ 1048576) : PCalls Tryz.prog 53 [intss V, intss V] (B true) := by
  refine pcalls1 Tryz.func53 rfl Tryz.ntmps53 rfl ?_
  refine wF ?_
  repeat' (first
| refine wO ?_
| (refine o_go rfl ?_; (first
| refine wS ?_); refine ⟨_, aA, ?_⟩)
| (refine g_condN rfl (fun hc => ?_) (fun hc => ?_) <;> try (exfalso; omega))
| refine wE ?_)
  all_goals try (exfalso; omega)
  refine g_loopT (α := Nat) (fun k => [(5, I (k : Int))]) (fun _ => []) (fun k => k ≤ V.length) (fun k => V.length - k) 0 aF (Nat.zero_le _) ⟨rfl, trivial⟩ rfl ?_
  rintro k hk
  dsimp only [zZ, List.set_cons_zero, List.set_cons_succ]
  by_cases hkl : k < V.length
  · have hrow := rows_at hkl
    have hm := hV _ (rows_mem hkl)
    have h1 := vints53_c (V.getD k []) (V.getD k []) (by omega) (by omega)
    rw [decide_eq_true rfl] at h1
    repeat' (first
| refine wO ?_
| refine zP (by kernel_rfl) (by kernel_rfl) ?_
| (refine o_go rfl ?_; (first
| refine p_p (zG rfl rfl aB (h1)) ?_
| refine p_p (zN rfl rfl rfl (by omega) hrow (by exact rfl)) ?_
| refine wS ?_); refine ⟨_, aA, ?_⟩)
| (refine zK rfl (fun hc => ?_) (fun hc => ?_) <;> try (exfalso; omega))
| refine wE ?_)
    all_goals try (exfalso; omega)
    exact zT (k + 1) (by omega) (by omega) aI ⟨rfl, trivial⟩ (zM _)
  · repeat' (first
| refine wO ?_
| (refine o_go rfl ?_; (first
| refine wS ?_); refine ⟨_, aA, ?_⟩)
| (refine zK rfl (fun hc => ?_) (fun hc => ?_) <;> try (exfalso; omega))
| refine kr1 ?_
| refine krB rfl ?_
| refine wE ?_)
    all_goals first | rfl | (exfalso; omega)
theorem ihgt_c (n : Int) (ops : List OpD) (hs : szOk ops) : PCalls Tryz.prog 61 [algP n ops] (.tup [I (htI n ops : Int), B (fcB n ops)]) := by
  refine pcalls2 Tryz.func61 rfl Tryz.ntmps61 rfl ?_
  refine wF ?_
  have h1 := ifew_c n ops hs
  unfold htI
  cases hf : fcB n ops with
  | false =>
    rw [hf, if_neg Bool.false_ne_true] at h1
    rw [if_neg Bool.false_ne_true]
    repeat' (first
| refine wO ?_
| (refine o_go rfl ?_; (first
| refine p_p (zG rfl rfl aB (h1)) ?_
| refine wS ?_
| refine p_p (ps_load_agg rfl rfl aJ) ?_
| refine p_p (ps_box rfl rfl) ?_); refine ⟨_, aA, ?_⟩)
| refine kr2 ?_ ?_
| refine krB rfl ?_
| refine krI rfl ?_
| refine wE ?_)
    all_goals rfl
  | true =>
    obtain ⟨m, rfl, hm0, hm8, h4, ho, hg, hV, h60⟩ := fcB_facts hf
    rw [hf, if_pos rfl, hV] at h1
    rw [if_pos rfl, hV, Int.toNat_natCast, ht_all hm0]
    have hPt : ∀ p ∈ allL m ops, Pt m p := fc_pt
    have h0 := allL_pos m ops
    generalize allL m ops = V at *
    have hz := htA_zero (n := m) (V := V) h0
    repeat' (first
| refine wO ?_
| (refine o_go rfl ?_; (first
| refine p_p (zG rfl rfl aB (h1)) ?_
| refine p_e rfl (e_make (zp := I 0) rfl rfl rfl (by omega) (by omega) (by omega) (by decide) (by rfl) (by rfl)) ?_
| refine wS ?_
| refine p_p (ps_load_agg rfl rfl aJ) ?_
| refine p_p (ps_box rfl rfl) ?_); refine ⟨_, aA, ?_⟩)
| refine wE ?_)
    rw [hz]
    refine g_loopF (α := Nat) [20] (fun k => [(6, .hp 0), (23, I (k : Int))]) (fun k => [.arr true 1 3 ((htW m V V.length k).map I)]) (fun k => k ≤ V.length) (fun k => V.length - k) 0 aF (Nat.zero_le _) ⟨rfl, rfl, trivial⟩ (by rw [show htW m V V.length 0 = htA m V V.length 0 0 from if_pos h0]) ?_
    rintro k hk
    dsimp only [zZ, List.set_cons_zero, List.set_cons_succ]
    by_cases hkl : k < V.length
    · have rk := rows_at hkl
      have pk := hPt _ (rows_mem hkl)
      have htl : (V.take k).length = k := by rw [List.length_take]; omega
      have hT : ∀ i, i < k → (V.take k).getD i [] = V.getD i [] := fun i hi => by rw [List.getD_eq_getElem?_getD, List.getElem?_take_of_lt hi, ← List.getD_eq_getElem?_getD]
      have hAl := fun x => htA_len (n := m) (V := V) (x := x) hkl
      rw [show htW m V V.length k = htA m V V.length k 0 from if_pos hkl]
      repeat' (first
| refine wO ?_
| (refine o_go rfl ?_; (first
| refine p_p (zN rfl rfl rfl (by omega) rk (by exact rfl)) ?_
| refine p_p (ps_sliceToM rfl rfl rfl (by omega) (by omega)) ?_
| refine wS ?_); refine ⟨_, aA, ?_⟩)
| (refine zK rfl (fun hc => ?_) (fun hc => ?_) <;> try (exfalso; omega))
| refine wE ?_)
      all_goals try (exfalso; omega)
      try dsimp only [Int.toNat_natCast]
      generalize V.take k = T at *
      refine g_loopF (α := Nat) [] (fun i => [(32, I (i : Int))]) (fun i => [.arr true 1 3 ((htA m V V.length k (htN m V (htL m V k) k i)).map I)]) (fun i => i ≤ k) (fun i => k - i) 0 aF (Nat.zero_le _) ⟨rfl, trivial⟩ rfl ?_
      rintro i hi
      dsimp only [zZ, List.set_cons_zero, List.set_cons_succ]
      by_cases hik : i < k
      · have ri := rows_at (V := T) (k := i) (by omega)
        rw [hT i hik] at ri
        have pi := hPt _ (rows_mem (V := V) (k := i) (by omega))
        have f1 := ifiner_c m (V.getD i []) (V.getD k []) (by omega) pi pk.len
        have hS := htN_succ m V (htL m V k) k i
        unfold htS at hS
        have hNi : htN m V (htL m V k) k i ≤ i := htN_le (htL_le m V k) i
        have hHi := htL_le m V k i
        generalize htN m V (htL m V k) k i = a at *
        have hkk : ((htA m V V.length k a).map I)[k * 1]? = some (I (a : Int)) := by rw [Nat.mul_one]; exact htA_at hkl
        have hki : ((htA m V V.length k a).map I)[i * 1]? = some (I (((htL m V k).getD i 0 : Nat) : Int)) := by rw [Nat.mul_one]; exact htA_low hkl hik
        have hml : ((htA m V V.length k a).map I).length = V.length := by rw [List.length_map, hAl]
        cases hfi : fiB m (V.getD i []) (V.getD k []) with
        | false =>
          rw [hfi] at f1
          rw [hfi, if_neg Bool.false_ne_true] at hS
          repeat' (first
| refine wO ?_
| (refine o_go rfl ?_; (first
| refine p_p (zG rfl rfl aB (f1)) ?_
| refine p_p (zN rfl rfl rfl (by omega) ri (by exact rfl)) ?_
| refine wS ?_); refine ⟨_, aA, ?_⟩)
| (refine zK rfl (fun hc => ?_) (fun hc => ?_) <;> try (exfalso; omega))
| refine wE ?_)
          all_goals try (exfalso; omega)
          exact zT (i + 1) (by omega) (by omega) aI ⟨rfl, trivial⟩ (zB (by rw [hS]) (zM _))
        | true =>
          rw [hfi] at f1
          rw [hfi, if_pos rfl] at hS
          generalize (htL m V k).getD i 0 = b at *
          have hab : (b : Int) + 1 = ((b + 1 : Nat) : Int) := by omega
          have hmx : (if ((b + 1 : Nat) : Int) > (a : Int) then ((b + 1 : Nat) : Int) else (a : Int)) = ((max a (b + 1) : Nat) : Int) := by split <;> omega
          repeat' (first
| refine wO ?_
| (refine o_go rfl ?_; (first
| refine p_p (zG rfl rfl aB (f1)) ?_
| refine p_p (zN rfl rfl rfl (by omega) ri (by exact rfl)) ?_
| refine wS ?_); refine ⟨_, aA, ?_⟩)
| (refine zK rfl (fun hc => ?_) (fun hc => ?_) <;> try (exfalso; omega))
| refine wE ?_)
          all_goals try (exfalso; omega)
          refine g_region_drawZ [(0, some []), (1, some []), (2, some []), (3, some []), (4, some []), (5, some []), (6, some []), (7, some []), (8, some []), (9, some []), (10, some []), (11, some []), (12, none), (13, none)] [(13, 999999)] (fun hp => hp[0]? = some (.arr true 1 3 ((htA m V V.length k a).map I))) (by kernel_rfl) rfl (by kernel_rfl) ?_
          repeat' (first
| refine z_nil ?_
| ((first
| refine zV rfl rfl (fun hp hH => yA rfl rfl hH rfl (by omega) (by rw [n_toNat]; omega)) aL aD (by decide) aC ?_
| refine zV rfl rfl (fun hp hH => ps_load_arr rfl rfl hH (by exact hkk) rfl) aL aD (by decide) aC ?_
| refine zV rfl rfl (fun hp hH => ps_load_arr rfl rfl hH (by exact hki) rfl) aL aD (by decide) aC ?_
| refine zV rfl rfl (fun hp hH => ps_addV rfl rfl rfl hab (by omega)) aL aD (by decide) aC ?_
| refine zV rfl rfl (fun hp hH => ps_maxV rfl rfl rfl hmx) aL aD (by decide) aC ?_
| refine zV rfl rfl (fun _ _ => zD rfl) aL aD (by decide) aC ?_
| refine z_eff rfl rfl aG (j_pure (yA rfl rfl rfl rfl (by omega) (by omega))) aH ?_
| refine z_eff rfl rfl aG (j_store_arr rfl rfl rfl rfl (by omega) rfl rfl) aH ?_); refine ⟨_, aQ, ?_⟩))
          repeat' (first
| refine wO ?_
| (refine o_go rfl ?_; (first
| refine wS ?_); refine ⟨_, aA, ?_⟩))
          all_goals try (exfalso; omega)
          exact zT (i + 1) (by omega) (by omega) aI ⟨rfl, trivial⟩ (zB (by rw [hS, Nat.mul_one, htA_set]) (zM _))
      · obtain rfl : i = k := by omega
        repeat' (first
| refine wO ?_
| (refine o_go rfl ?_; (first
| refine wS ?_); refine ⟨_, aA, ?_⟩)
| (refine zK rfl (fun hc => ?_) (fun hc => ?_) <;> try (exfalso; omega))
| refine wE ?_)
        all_goals try (exfalso; omega)
        refine zT (K := fun _ _ => True) (i + 1) (by omega) (by omega) aI ⟨rfl, rfl, trivial⟩ (zB ?_ (zM _))
        unfold htW
        split
        · rw [htA_next (by omega)]
        · rw [htA_end (by omega)]
    · obtain rfl : k = V.length := by omega
      rw [show htW m V V.length V.length = natsH (htL m V V.length) from if_neg (Nat.lt_irrefl _)]
      have hl := htL_len m V V.length
      have hml : ((natsH (htL m V V.length)).map I).length = V.length := by rw [List.length_map, natsH, List.length_map, hl]
      have hsub : (((natsH (htL m V V.length)).map I).length : Int) - 1 = ((V.length - 1 : Nat) : Int) := by omega
      have hat : ((natsH (htL m V V.length)).map I)[(V.length - 1) * 1]? = some (I (((htL m V V.length).getD (V.length - 1) 0 : Nat) : Int)) := by rw [Nat.mul_one]; exact natsH_at (by omega)
      repeat' (first
| refine wO ?_
| (refine o_go rfl ?_; (first
| refine p_p (ps_subV rfl rfl rfl hsub (by omega)) ?_
| refine p_p (yA rfl rfl rfl rfl (by omega) (by rw [n_toNat]; omega)) ?_
| refine p_p (ps_load_arr rfl rfl rfl (by exact hat) rfl) ?_
| refine wS ?_
| refine p_p (ps_len_mut rfl rfl rfl rfl) ?_); refine ⟨_, aA, ?_⟩)
| (refine zK rfl (fun hc => ?_) (fun hc => ?_) <;> try (exfalso; omega))
| refine kr2 ?_ ?_
| refine krB rfl ?_
| refine krI rfl ?_
| refine wE ?_)
      all_goals first | rfl | (exfalso; omega)
end Go.Proofs.YtnjocjfhaahmfaaGreat
