/- Walks: the subdirect list, the program's side; separating lists, monoliths. -/
import Derived.Test.YtbohjibbgppfaaaGreatJTc
import Derived.Test.YtbohjibbgppfaaaGreatJYc
namespace Go.Proofs.YtbohjibbgppfaaaGreat
open Go Go.Pv Go.Proofs
set_option maxHeartbeats 32000000
set_option maxRecDepth 100000
attribute [local bitvec_to_nat] St.put St.setObj St.ev killP killA killP1 killH mapHO renP renA ren1 killG killGA killG1 krowP krowA krow1 lendP lendA lend1 unv pinP pin1 elemsM viewM viewN viewV n_set_z n_set_s n_map_c n_map_n getD_z getD_s n_toNat n_cond_t n_cond_f n_len_c n_len_n n_app_c n_app_n n_take_s n_take_z n_drop_s n_drop_z n_get_z n_get_s view viewA view1 elems Nat.zero_add Nat.add_zero Bool.not_true Bool.not_false Nat.one_ne_zero Nat.mul_one

theorem ibcnt_c (n : Nat) (p : List Int) (hn : n ≤ 1000000) (hp : Pt n p) : PCalls Tryz.prog 95 [ints p] (I (cnt n p : Int)) := by
  refine pcalls1 Tryz.func95 rfl Tryz.ntmps95 rfl ?_
  refine wF ?_
  have hpl := hp.len
  repeat' (first
| refine wO ?_
| (refine o_go rfl ?_; (first
| refine wS ?_); refine ⟨_, aA, ?_⟩))
  refine g_loopT (α := Nat) (fun k => [(3, I (cntK p k : Int)), (8, I (k : Int))]) (fun _ => []) (fun k => k ≤ n) (fun k => n - k) 0 aF (Nat.zero_le _) ⟨rfl, rfl, trivial⟩ rfl ?_
  rintro k hk
  dsimp only [zZ, List.set_cons_zero, List.set_cons_succ]
  have hck := cntK_le p k
  by_cases hkn : k < n
  · have ix := row_atY (p := p) (x := k) (by omega)
    rw [hp.val hkn] at ix
    have hs := cntK_succ p k
    by_cases hb : bk p k = k
    · rw [if_pos hb] at hs
      repeat' (first
| refine wO ?_
| (refine o_go rfl ?_; (first
| refine p_p (zN rfl rfl rfl (by omega) ix (by exact rfl)) ?_
| refine wS ?_); refine ⟨_, aA, ?_⟩)
| (refine zK rfl (fun hc => ?_) (fun hc => ?_) <;> try (exfalso; omega))
| refine wE ?_)
      all_goals try (exfalso; omega)
      exact zT (k + 1) (by omega) (by omega) aI ⟨by rw [hs]; exact vI (by omega), rfl, trivial⟩ (zM _)
    · rw [if_neg hb] at hs
      repeat' (first
| refine wO ?_
| (refine o_go rfl ?_; (first
| refine p_p (zN rfl rfl rfl (by omega) ix (by exact rfl)) ?_
| refine wS ?_); refine ⟨_, aA, ?_⟩)
| (refine zK rfl (fun hc => ?_) (fun hc => ?_) <;> try (exfalso; omega))
| refine wE ?_)
      all_goals try (exfalso; omega)
      exact zT (k + 1) (by omega) (by omega) aI ⟨by rw [hs]; rfl, rfl, trivial⟩ (zM _)
  · rw [show cnt n p = cntK p k by rw [show k = n by omega]; rfl]
    repeat' (first
| refine wO ?_
| (refine o_go rfl ?_; (first
| refine wS ?_); refine ⟨_, aA, ?_⟩)
| (refine zK rfl (fun hc => ?_) (fun hc => ?_) <;> try (exfalso; omega))
| refine kr1 ?_
| refine krI rfl ?_
| refine wE ?_)
    all_goals first | rfl | (exfalso; omega)
def chW (W : List (List Int)) : Option (List Nat) → PV
  | none => nilV
  | some [] => .sl 1 (some false) []
  | some (i :: L) => intss ((i :: L).map fun a => W.getD a [])
theorem isep_c (n : Nat) (W : List (List Int)) (hn : n ≤ 1000) (hW : ∀ p ∈ W, Pt n p) (hl : W.length ≤ 1000) : ∀ (k fr : Nat) (met : List Int), Pt n met → k ≤ 1000 → fr ≤ W.length →
    PCalls Tryz.prog 87 [intss W, I (fr : Int), I (k : Int), ints met] (chW W (chs n W k fr met)) := by
  intro k
  induction k with
  | zero =>
    intro fr met hm hk hf
    refine pcalls1 Tryz.func87 rfl Tryz.ntmps87 rfl ?_
    refine wF ?_
    have c1 := ibcnt_c n met (by omega) hm
    have hml := hm.len
    by_cases hc0 : cnt n met = n
    · rw [show chs n W 0 fr met = some [] from if_pos hc0]
      repeat' (first
| refine wO ?_
| (refine o_go rfl ?_; (first
| refine p_p (zG rfl rfl aB (c1)) ?_
| refine p_p (ps_lit0N rfl (by decide)) ?_
| refine wS ?_); refine ⟨_, aA, ?_⟩)
| (refine zK rfl (fun hc => ?_) (fun hc => ?_) <;> try (exfalso; omega))
| refine kr1 ?_
| refine wE ?_)
      all_goals first | rfl | exact kr_le rfl (PV.le_refl _) | (exfalso; omega)
    · rw [show chs n W 0 fr met = none from if_neg hc0]
      repeat' (first
| refine wO ?_
| (refine o_go rfl ?_; (first
| refine p_p (zG rfl rfl aB (c1)) ?_
| refine wS ?_); refine ⟨_, aA, ?_⟩)
| (refine zK rfl (fun hc => ?_) (fun hc => ?_) <;> try (exfalso; omega))
| refine kr1 ?_
| refine wE ?_)
      all_goals first | rfl | exact krV rfl | (exfalso; omega)
  | succ k ih =>
    intro fr met hm hk hf
    refine pcalls1 Tryz.func87 rfl Tryz.ntmps87 rfl ?_
    refine wF ?_
    repeat' (first
| refine wO ?_
| (refine o_go rfl ?_; (first
| refine wS ?_); refine ⟨_, aA, ?_⟩)
| refine wE ?_)
    all_goals try (exfalso; omega)
    refine g_loopT (α := Nat) (fun i => [(9, I (i : Int))]) (fun _ => []) (fun i => fr ≤ i ∧ i ≤ W.length ∧ ∀ j, fr ≤ j → j < i → chs n W k (j + 1) (meetP n met (W.getD j [])) = none) (fun i => W.length - i) fr aF ⟨Nat.le_refl _, hf, fun j h1 h2 => absurd h1 (by omega)⟩ ⟨rfl, trivial⟩ rfl ?_
    rintro i ⟨hfi, hi, hno⟩
    dsimp only [zZ, List.set_cons_zero, List.set_cons_succ]
    by_cases hil : i + (k + 1) ≤ W.length
    · have hil2 : i < W.length := by omega
      have ri := rows_at hil2
      have pi := hW _ (rows_mem hil2)
      have m1 : PCalls Tryz.prog 165 [ints met, ints (W.getD i [])] (ints (meetP n met (W.getD i []))) := rcalls_P rfl (imeet_R n met _ hn hm pi)
      have o1 := iclone_c (W.getD i []) (by rw [pi.len]; omega)
      have h2 := ih (i + 1) (meetP n met (W.getD i [])) meet_pt (by omega) (by omega)
      have a1 : (i : Int) + 1 = ((i + 1 : Nat) : Int) := by omega
      have a2 : ((k + 1 : Nat) : Int) - 1 = (k : Int) := by omega
      cases hv : chs n W k (i + 1) (meetP n met (W.getD i [])) with
      | none =>
        rw [hv] at h2
        change PCalls _ _ _ nilV at h2
        repeat' (first
| refine wO ?_
| (refine o_go rfl ?_; (first
| refine p_p (ps_addV rfl rfl rfl a1 (by omega)) ?_
| refine p_p (ps_subV rfl rfl rfl a2 (by omega)) ?_
| refine p_p (zN rfl rfl rfl (by omega) ri (by exact rfl)) ?_
| refine p_p (zG rfl rfl aB (m1)) ?_
| refine p_p (zG rfl rfl aB (h2)) ?_
| refine p_p (ps_neqnil_v rfl rfl rfl) ?_
| refine wS ?_); refine ⟨_, aA, ?_⟩)
| (refine zK rfl (fun hc => ?_) (fun hc => ?_) <;> try (exfalso; omega))
| refine wE ?_)
        all_goals try (exfalso; omega)
        refine zT (i + 1) ⟨by omega, by omega, fun j h1 h2 => ?_⟩ (by omega) aI ⟨rfl, trivial⟩ (zM _)
        rcases Nat.lt_or_ge j i with h | h
        · exact hno j h1 h
        · rw [show j = i by omega]; exact hv
      | some L =>
        rw [hv] at h2
        obtain ⟨l1, l2, -⟩ := chs_len hv
        have hO : chs n W (k + 1) fr met = some (i :: L) := range_findSome_at hil2 (by rw [if_pos hfi, hv]; rfl) fun j hj => by
          split
          · rename_i h; rw [hno j h hj]; rfl
          · rfl
        rw [hO]
        cases L with
        | nil =>
          change PCalls _ _ _ (.sl 1 (some false) []) at h2
          repeat' (first
| refine wO ?_
| (refine o_go rfl ?_; (first
| refine p_p (ps_addV rfl rfl rfl a1 (by omega)) ?_
| refine p_p (ps_subV rfl rfl rfl a2 (by omega)) ?_
| refine p_p (zN rfl rfl rfl (by omega) ri (by exact rfl)) ?_
| refine p_p (zG rfl rfl aB (m1)) ?_
| refine p_p (zG rfl rfl aB (h2)) ?_
| refine p_p (zG rfl rfl aB (o1)) ?_
| refine p_p (ps_neqnil rfl rfl rfl) ?_
| refine p_e rfl (e_lit1N rfl rfl rfl) ?_
| refine p_e (by kernel_rfl) (e_append rfl rfl rfl rfl rfl rfl (by intro p hp; cases hp) rfl (by simp only [List.length_cons, List.length_nil]; omega) (by simp only [List.length_cons, List.length_nil]; omega)) ?_
| refine wS ?_); refine ⟨_, aA, ?_⟩)
| (refine zK rfl (fun hc => ?_) (fun hc => ?_) <;> try (exfalso; omega))
| refine kr1 ?_
| refine krS rfl ?_
| refine wE ?_)
          all_goals first | rfl | (exfalso; omega)
        | cons j L =>
          change PCalls _ _ _ (intss ((j :: L).map fun a => W.getD a [])) at h2
          repeat' (first
| refine wO ?_
| (refine o_go rfl ?_; (first
| refine p_p (ps_addV rfl rfl rfl a1 (by omega)) ?_
| refine p_p (ps_subV rfl rfl rfl a2 (by omega)) ?_
| refine p_p (zN rfl rfl rfl (by omega) ri (by exact rfl)) ?_
| refine p_p (zG rfl rfl aB (m1)) ?_
| refine p_p (zG rfl rfl aB (h2)) ?_
| refine p_p (zG rfl rfl aB (o1)) ?_
| refine p_p (ps_neqnil_ne rfl rfl rfl (by simp)) ?_
| refine p_e rfl (e_lit1N rfl rfl rfl) ?_
| refine p_e (by kernel_rfl) (e_append rfl rfl rfl rfl rfl rfl (one_map (fun _ => rfl) _) rfl (by simp only [List.length_map, List.length_cons, List.length_nil] at l1 ⊢; omega) (by simp only [List.length_map, List.length_cons, List.length_nil] at l1 ⊢; omega)) ?_
| refine wS ?_); refine ⟨_, aA, ?_⟩)
| (refine zK rfl (fun hc => ?_) (fun hc => ?_) <;> try (exfalso; omega))
| refine kr1 ?_
| refine krS rfl ?_
| refine wE ?_)
          all_goals first | rfl | (exfalso; omega)
    · have hO : chs n W (k + 1) fr met = none := range_findSome_none fun j hj => by
        split
        · rename_i h
          rcases Nat.lt_or_ge j i with h1 | h1
          · rw [hno j h h1]; rfl
          · cases hv : chs n W k (j + 1) (meetP n met (W.getD j [])) with
            | none => rfl
            | some L =>
              obtain ⟨-, -, h3⟩ := chs_len hv
              exfalso
              rcases Nat.eq_zero_or_pos k with h0 | h0
              · omega
              · have := h3 h0
                omega
        · rfl
      rw [hO]
      repeat' (first
| refine wO ?_
| (refine o_go rfl ?_; (first
| refine wS ?_); refine ⟨_, aA, ?_⟩)
| (refine zK rfl (fun hc => ?_) (fun hc => ?_) <;> try (exfalso; omega))
| refine kr1 ?_
| refine wE ?_)
      all_goals first | rfl | exact krV rfl | (exfalso; omega)
theorem iirc0_c (n : Int) (ops : List OpD) (hs : szOk ops) (hb : acB n ops = false) : PCalls Tryz.prog 86 [algP n ops] (.tup [intss [], B false]) := by
  refine pcalls2 Tryz.func86 rfl Tryz.ntmps86 rfl ?_
  refine wF ?_
  have h1 := icongs_c n ops hs
  rw [hb, if_neg Bool.false_ne_true] at h1
  repeat' (first
| refine wO ?_
| (refine o_go rfl ?_; (first
| refine p_p (zG rfl rfl aB (h1)) ?_
| refine p_p (ps_lits rfl (by exact rfl) (by exact rfl) aR (by decide) (by decide)) ?_
| refine wS ?_
| refine p_p (ps_load_agg rfl rfl aK) ?_
| refine p_p (ps_box rfl rfl) ?_); refine ⟨_, aA, ?_⟩)
| refine kr2 ?_ ?_
| refine krB rfl ?_
| refine krS rfl ?_
| refine wE ?_)
  all_goals rfl
theorem isdl_c (n : Int) (ops : List OpD) (hs : szOk ops) : PCalls Tryz.prog 22 [algP n ops] (.tup [intss (sbV n ops), B (acB n ops)]) := by
  refine pcalls2 Tryz.func22 rfl Tryz.ntmps22 rfl ?_
  refine wF ?_
  unfold sbV
  cases hb : acB n ops with
  | false =>
    have h1 := iirc0_c n ops hs hb
    rw [if_neg Bool.false_ne_true]
    repeat' (first
| refine wO ?_
| (refine o_go rfl ?_; (first
| refine p_p (zG rfl rfl aB (h1)) ?_
| refine p_p (ps_lits rfl (by exact rfl) (by exact rfl) aR (by decide) (by decide)) ?_
| refine wS ?_
| refine p_p (ps_load_agg rfl rfl aK) ?_
| refine p_p (ps_box rfl rfl) ?_); refine ⟨_, aA, ?_⟩)
| refine kr2 ?_ ?_
| refine krB rfl ?_
| refine krS rfl ?_
| refine wE ?_)
    all_goals rfl
  | true =>
    obtain ⟨m, rfl, hm0, hm8, h4, ho, hg, h2⟩ := acB_facts hb
    have h1 := iirc_c m ops hs hb
    rw [if_pos rfl, Int.toNat_natCast]
    have hW : ∀ p ∈ irrC m (allL m ops) (allL m ops), Pt m p := fun p hp => fc_pt p (List.mem_filter.1 hp).1
    have hWl : (irrC m (allL m ops) (allL m ops)).length ≤ 200 := Nat.le_trans (List.length_filter_le _ _) h2
    obtain ⟨k0, L0, hk0, hL0, -, -⟩ := sdO_some (irr_all ho)
    generalize irrC m (allL m ops) (allL m ops) = W at *
    have hch := fun k (hk : k ≤ W.length) => isep_c m W (by omega) hW (by omega) k 0 (fullL m) (full_pt m) (by omega) (by omega)
    rw [show ints (fullL m) = .sl 1 none (List.replicate m (I 0)) by unfold fullL; show PV.sl 1 none ((List.replicate m 0).map I) = _; rw [List.map_replicate]] at hch
    repeat' (first
| refine wO ?_
| (refine o_go rfl ?_; (first
| refine p_p (zG rfl rfl aB (h1)) ?_
| refine wS ?_
| refine p_p (ps_load_agg rfl rfl aK) ?_
| refine p_p (ps_box rfl rfl) ?_); refine ⟨_, aA, ?_⟩)
| refine wE ?_)
    refine g_loopT (α := Nat) (fun k => [(6, I (k : Int))]) (fun _ => []) (fun k => k ≤ W.length + 1 ∧ ∀ j, j < k → chs m W j 0 (fullL m) = none) (fun k => W.length + 1 - k) 0 aF ⟨Nat.zero_le _, fun j hj => absurd hj (Nat.not_lt_zero _)⟩ ⟨rfl, trivial⟩ rfl ?_
    rintro k ⟨hk, hno⟩
    dsimp only [zZ, List.set_cons_zero, List.set_cons_succ]
    by_cases hkl : k ≤ W.length
    · have h2 := hch k hkl
      cases hv : chs m W k 0 (fullL m) with
      | none =>
        rw [hv] at h2
        change PCalls _ _ [_, I 0, _, _] nilV at h2
        repeat' (first
| refine wO ?_
| (refine o_go rfl ?_; (first
| refine p_p (ps_makeS (zp := I 0) rfl rfl rfl (by omega) (by omega) (by omega) (by decide) (by rfl) (by rfl)) ?_
| refine p_p (zG rfl rfl aB (h2)) ?_
| refine p_p (ps_neqnil_v rfl rfl rfl) ?_
| refine wS ?_); refine ⟨_, aA, ?_⟩)
| (refine zK rfl (fun hc => ?_) (fun hc => ?_) <;> try (exfalso; omega))
| refine wE ?_)
        all_goals try (exfalso; omega)
        refine zT (K := fun _ _ => True) (k + 1) ⟨by omega, fun j hj => ?_⟩ (by omega) aI ⟨rfl, trivial⟩ (zM _)
        rcases Nat.lt_or_ge j k with h | h
        · exact hno j h
        · rw [show j = k by omega]; exact hv
      | some L =>
        rw [hv] at h2
        have hO : sdO m W = some L := range_findSome_at (by omega) hv hno
        rw [show sdL m W = L.map fun a => W.getD a [] by unfold sdL; rw [hO]; rfl]
        cases L with
        | nil =>
          change PCalls _ _ [_, I 0, _, _] (.sl 1 (some false) []) at h2
          repeat' (first
| refine wO ?_
| (refine o_go rfl ?_; (first
| refine p_p (ps_makeS (zp := I 0) rfl rfl rfl (by omega) (by omega) (by omega) (by decide) (by rfl) (by rfl)) ?_
| refine p_p (zG rfl rfl aB (h2)) ?_
| refine p_p (ps_neqnil rfl rfl rfl) ?_
| refine wS ?_); refine ⟨_, aA, ?_⟩)
| (refine zK rfl (fun hc => ?_) (fun hc => ?_) <;> try (exfalso; omega))
| refine kr2 ?_ ?_
| refine krB rfl ?_
| refine krS rfl ?_
| refine wE ?_)
          all_goals first | rfl | (exfalso; omega)
        | cons j L =>
          change PCalls _ _ [_, I 0, _, _] (intss ((j :: L).map fun a => W.getD a [])) at h2
          repeat' (first
| refine wO ?_
| (refine o_go rfl ?_; (first
| refine p_p (ps_makeS (zp := I 0) rfl rfl rfl (by omega) (by omega) (by omega) (by decide) (by rfl) (by rfl)) ?_
| refine p_p (zG rfl rfl aB (h2)) ?_
| refine p_p (ps_neqnil_ne rfl rfl rfl (by simp)) ?_
| refine wS ?_); refine ⟨_, aA, ?_⟩)
| (refine zK rfl (fun hc => ?_) (fun hc => ?_) <;> try (exfalso; omega))
| refine kr2 ?_ ?_
| refine krB rfl ?_
| refine krS rfl ?_
| refine wE ?_)
          all_goals first | rfl | (exfalso; omega)
    · exfalso
      have := hno k0 (by omega)
      rw [this] at hL0; cases hL0
theorem imall_c (n : Nat) (L : List (List Int)) (hn : n ≤ 1000) (hL : ∀ p ∈ L, Pt n p) (hl : L.length ≤ 1000) : PCalls Tryz.prog 96 [I (n : Int), intss L] (ints (mtF n (fullL n) L)) := by
  refine pcalls1 Tryz.func96 rfl Tryz.ntmps96 rfl ?_
  refine wF ?_
  have hz : PV.sl 1 none (List.replicate n (I 0)) = ints (mtF n (fullL n) (L.take 0)) := by
    rw [List.take_zero]
    show _ = PV.sl 1 none ((List.replicate n 0).map I)
    rw [List.map_replicate]
  repeat' (first
| refine wO ?_
| (refine o_go rfl ?_; (first
| refine p_p (ps_makeS (zp := I 0) rfl rfl rfl (by omega) (by omega) (by omega) (by decide) (by rfl) (by rfl)) ?_
| refine wS ?_); refine ⟨_, aA, ?_⟩))
  refine g_loopT (α := Nat) (fun k => [(5, ints (mtF n (fullL n) (L.take k))), (12, I (k : Int))]) (fun _ => []) (fun k => k ≤ L.length) (fun k => L.length - k) 0 aF (Nat.zero_le _) ⟨by rw [← hz]; rfl, rfl, trivial⟩ rfl ?_
  rintro k hk
  dsimp only [zZ, List.set_cons_zero, List.set_cons_succ]
  by_cases hkl : k < L.length
  · have rk := rows_at hkl
    have pk := hL _ (rows_mem hkl)
    have pm := mtF_pt (n := n) (L.take k) (full_pt n)
    have m1 : PCalls Tryz.prog 165 [ints (mtF n (fullL n) (L.take k)), ints (L.getD k [])] (ints (meetP n (mtF n (fullL n) (L.take k)) (L.getD k []))) := rcalls_P rfl (imeet_R n _ _ hn pm pk)
    have hs : mtF n (fullL n) (L.take (k + 1)) = meetP n (mtF n (fullL n) (L.take k)) (L.getD k []) := by unfold mtF; rw [take_snoc [] hkl, List.foldl_append]; rfl
    rw [← hs] at m1
    repeat' (first
| refine wO ?_
| (refine o_go rfl ?_; (first
| refine p_p (zN rfl rfl rfl (by omega) rk (by exact rfl)) ?_
| refine p_p (zG rfl rfl aB (m1)) ?_
| refine wS ?_); refine ⟨_, aA, ?_⟩)
| (refine zK rfl (fun hc => ?_) (fun hc => ?_) <;> try (exfalso; omega))
| refine wE ?_)
    all_goals try (exfalso; omega)
    exact zT (k + 1) (by omega) (by omega) aI ⟨rfl, rfl, trivial⟩ (zM _)
  · rw [List.take_of_length_le (by omega)]
    repeat' (first
| refine wO ?_
| (refine o_go rfl ?_; (first
| refine wS ?_); refine ⟨_, aA, ?_⟩)
| (refine zK rfl (fun hc => ?_) (fun hc => ?_) <;> try (exfalso; omega))
| refine kr1 ?_
| refine krS rfl ?_
| refine wE ?_)
    all_goals first | rfl | (exfalso; omega)
end Go.Proofs.YtbohjibbgppfaaaGreat
