/- Walks: translated pairs, both sides. -/
import Derived.Test.YtkdagmbgjddopaaJKn
import Derived.Test.YtkdagmbgjddopaaJKg
namespace Go.Proofs.Ytkdagmbgjddopaa
open Go Go.Pv Go.Proofs
set_option maxHeartbeats 32000000
set_option maxRecDepth 100000
attribute [local bitvec_to_nat] St.put St.setObj St.ev killP killA killP1 killH mapHO renP renA ren1 killG killGA killG1 krowP krowA krow1 lendP lendA lend1 unv pinP pin1 elemsM viewM viewN viewV n_set_z n_set_s n_map_c n_map_n getD_z getD_s n_toNat n_cond_t n_cond_f n_len_c n_len_n n_app_c n_app_n n_take_s n_take_z n_drop_s n_drop_z n_get_z n_get_s view viewA view1 elems Nat.zero_add Nat.add_zero Bool.not_true Bool.not_false Nat.one_ne_zero Nat.mul_one
attribute [local bitvec_to_nat] posI optP lendM1 lendMA lendMP killM1 killMA killMP hasI getO backM1 backMA backMP putL inpM pinM1 pinMA pinMP

/-! ### Squares of Booleans -/
def gF (n : Nat) (f : Nat → Nat → Bool) : List (List PV) := (List.range n).map fun s => (List.range n).map fun t => B (f s t)
theorem gF_len (n : Nat) (f : Nat → Nat → Bool) : (gF n f).length = n := by simp [gF]
theorem gF_at {n s : Nat} {f : Nat → Nat → Bool} (hs : s < n) : (gF n f)[s]? = some ((List.range n).map fun t => B (f s t)) := by
  unfold gF; rw [List.getElem?_map, List.getElem?_range hs]; rfl
theorem gR_at {n s t : Nat} {f : Nat → Nat → Bool} (ht : t < n) : ((List.range n).map fun t => B (f s t))[t]? = some (B (f s t)) := by
  rw [List.getElem?_map, List.getElem?_range ht]; rfl
theorem gF_congr {n : Nat} {f g : Nat → Nat → Bool} (h : ∀ s t, s < n → t < n → f s t = g s t) : gF n f = gF n g := by
  unfold gF
  refine List.map_congr_left fun s hs => List.map_congr_left fun t ht => ?_
  rw [h s t (List.mem_range.1 hs) (List.mem_range.1 ht)]
theorem gF_set {n u v : Nat} {f : Nat → Nat → Bool} (_hu : u < n) (_hv : v < n) : (gF n f).set u (((List.range n).map fun t => B (f u t)).set v (B true)) = gF n fun s t => f s t || (s == u && t == v) := by
  refine List.ext_getElem (by simp [gF]) fun s h1 h2 => ?_
  have hs : s < n := by simpa [gF] using h2
  rw [List.getElem_set]
  split
  · next e =>
    subst e
    refine List.ext_getElem (by simp [gF]) fun t h3 h4 => ?_
    have ht : t < n := by simpa [gF] using h4
    rw [List.getElem_set]
    split
    · next e => subst e; simp [gF]
    · next e => simp [gF, Ne.symm e]
  · next e =>
    refine List.ext_getElem (by simp [gF]) fun t h3 h4 => ?_
    simp [gF, Ne.symm e]
theorem gF_add {n u v : Nat} {L : List (Nat × Nat)} (hu : u < n) (hv : v < n) : (gF n fun s t => (hasP n L s t || (s == u && t == v)) || (s == v && t == u)) = gF n (hasP n (L ++ [(u, v)])) := gF_congr fun s t hs ht => by
  rw [hasP_app, Bool.or_assoc]
  congr 1
  rw [Bool.eq_iff_iff]
  simp only [Bool.or_eq_true, Bool.and_eq_true, beq_iff_eq]
  constructor
  · rintro (⟨rfl, rfl⟩ | ⟨rfl, rfl⟩)
    · rfl
    · exact kyP_symm ..
  · intro h; exact kyP_inj hs ht hu hv h
abbrev prP (xy : Nat × Nat) : PV := .agg [I (xy.1 : Int), I (xy.2 : Int)]
abbrev prOF (L : List (Nat × Nat)) : HO := .arr false 2 37 (L.map prP)
abbrev prO (L : List (Nat × Nat)) : HO := .arr true 2 37 (L.map prP)
theorem prO_at {L : List (Nat × Nat)} {i : Nat} (hi : i < L.length) : (L.map prP)[i]? = some (prP (L.getD i (0, 0))) := by
  rw [List.getElem?_map, List.getElem?_eq_getElem hi, List.getD_eq_getElem?_getD, List.getElem?_eq_getElem hi]; rfl
def Gw (L M : List (Nat × Nat)) : Prop := ∃ l, M = L ++ l
theorem Gw.refl (L : List (Nat × Nat)) : Gw L L := ⟨[], (List.append_nil _).symm⟩
theorem Gw.trans {L M N : List (Nat × Nat)} (h : Gw L M) (g : Gw M N) : Gw L N := by
  obtain ⟨a, rfl⟩ := h
  obtain ⟨b, rfl⟩ := g
  exact ⟨a ++ b, List.append_assoc ..⟩
theorem Gw.app (L : List (Nat × Nat)) (w : Nat × Nat) : Gw L (L ++ [w]) := ⟨[w], rfl⟩
theorem Gw.ti {n : Nat} {L M : List (Nat × Nat)} (h : Gw L M) {f : OpD} {s t k j : Nat} (g : Ti n L f s t k j) : Ti n M f s t k j := by obtain ⟨l, rfl⟩ := h; exact g.mono l
theorem Gw.len {L M : List (Nat × Nat)} (h : Gw L M) : L.length ≤ M.length := by obtain ⟨l, rfl⟩ := h; simp
theorem Gw.at {L M : List (Nat × Nat)} (h : Gw L M) {i : Nat} (hi : i < L.length) : M.getD i (0, 0) = L.getD i (0, 0) := by
  obtain ⟨l, rfl⟩ := h
  rw [List.getD_eq_getElem?_getD, List.getElem?_append_left hi, List.getD_eq_getElem?_getD]
theorem Gw.clp {n : Nat} {ops : List OpD} {L M : List (Nat × Nat)} (h : Gw L M) {pr : Nat × Nat} (g : ClP n ops L pr) : ClP n ops M pr := by obtain ⟨l, rfl⟩ := h; exact g.mono l
theorem cl_all {n : Nat} {ops : List OpD} {L : List (Nat × Nat)} (h : ∀ j, j < L.length → ClP n ops L (L.getD j (0, 0))) : ∀ pr ∈ L, ClP n ops L pr := fun pr hp => by
  obtain ⟨j, hj, rfl⟩ := List.getElem_of_mem hp
  have := h j hj
  rwa [List.getD_eq_getElem?_getD, List.getElem?_eq_getElem hj] at this
theorem prmem {L : List (Nat × Nat)} {i : Nat} (hi : i < L.length) : L.getD i (0, 0) ∈ L := by
  rw [List.getD_eq_getElem?_getD, List.getElem?_eq_getElem hi]; exact List.getElem_mem _
/-! ### The reference -/
theorem spairs_c (n : Nat) (ops : List OpD) (x y : Nat) (hn : n ≤ 8) (hl : ops.length ≤ 1048576) (ho : opsIn n ops) (hx : x < n) (hy : y < n) : PCalls Try.prog 32 [algP n ops, I (x : Int), I (y : Int)] (.sl 1 none ((gF n (trB n ops x y)).map slR)) := by
  refine pcalls1 Try.func32 rfl Try.ntmps32 rfl ?_
  simp only [List.length_cons, List.length_nil, Nat.reduceAdd, Nat.reduceSub, List.replicate_succ, List.replicate_zero, List.cons_append, List.nil_append]
  have hn0 : 0 < n := by omega
  have hnn : n * n ≤ 64 := Nat.le_trans (Nat.mul_le_mul hn hn) (by decide)
  repeat' (first
| refine g_seq ?_
| refine g_block ?_
| refine g_region ?_
| (refine o_go rfl ?_; (first
| refine p_e rfl (e_lit0G 4 rfl) ?_
| refine p_p (ps_assign rfl) ?_
| refine p_p (ps_box rfl rfl) ?_); refine ⟨_, aA, ?_⟩)
| refine o_nil ?_)
  refine g_loopF (α := Nat) [20] (fun i => [(7, .hp 0), (8, I (i : Int))]) (fun i => [.grid 57 4 (List.replicate i (List.replicate n (B false)))]) (fun i => i ≤ n) (fun i => n - i) 0 aH (Nat.zero_le _) ⟨rfl, rfl, trivial⟩ rfl ?_
  rintro i hi
  dsimp only [setMany, List.set_cons_zero, List.set_cons_succ]
  have hpl : (List.replicate i (List.replicate n (B false))).length = i := List.length_replicate
  by_cases hil : i < n
  · repeat' (first
| refine g_seq ?_
| refine g_block ?_
| refine g_region ?_
| (refine o_go rfl ?_; (first
| refine p_e rfl (e_lit1G rfl rfl rfl (one_rep rfl _)) ?_
| refine p_e rfl (e_append_grid rfl rfl rfl rfl rfl rfl rfl (by rw [hpl, n_len_c, n_len_n]; omega) (by rw [hpl, n_len_c, n_len_n]; omega)) ?_
| refine p_p (ps_move rfl) ?_
| refine p_p (ps_assign rfl) ?_
| refine p_p (ps_load_cell rfl rfl) ?_
| refine p_p (ps_lss rfl rfl rfl) ?_
| refine p_p (ps_add rfl rfl rfl aM) ?_
| refine p_p (ps_fieldAddr rfl rfl) ?_
| refine p_e rfl (e_make1 rfl rfl rfl (by omega) (by omega) (by omega) rfl rfl) ?_); refine ⟨_, aA, ?_⟩)
| refine o_nil ?_
| (refine g_condD rfl (fun hc => ?_) (fun hc => ?_) <;> try (exfalso; omega))
| refine g_skip ?_)
    all_goals try (exfalso; omega)
    refine k_round (i + 1) (by omega) (by omega) aI ⟨rfl, rfl, trivial⟩ (hpLe_cons ?_ (hpLe_nil _))
    rw [List.replicate_succ']
  have hg0 : List.replicate i (List.replicate n (B false)) = gF n (fun _ _ => false) := by
    rw [show i = n by omega]
    refine List.ext_getElem (by simp [gF]) fun s h1 h2 => List.ext_getElem (by simp [gF]) fun t h3 h4 => by simp [gF]
  rw [hg0]
  have hg1 := gF_set (n := n) (f := fun _ _ => false) hx hy
  have hgl := gF_len n (fun _ _ => false)
  have hgl2 := gF_len n (fun s t => false || (s == x && t == y))
  have hg2 := gF_set (n := n) (f := fun s t => false || (s == x && t == y)) hy hx
  have hg3 : (gF n fun s t => (false || (s == x && t == y)) || (s == y && t == x)) = gF n (hasP n [(x, y)]) := gF_add (L := []) hx hy
  rw [hg3] at hg2
  repeat' ((fail_if_success (refine at_reg 10 ?_)); (first
| refine g_seq ?_
| refine g_block ?_
| refine g_region ?_
| (refine o_go rfl ?_; (first
| refine p_p (ps_buildArr rfl rfl) ?_
| refine p_e rfl (e_lit1A [I (x : Int), I (y : Int)] rfl rfl (by rfl) (by decide) (by decide)) ?_
| refine p_p (ps_index_grid rfl rfl rfl rfl (by omega) (by rw [hgl, n_toNat]; omega)) ?_
| refine p_p (ps_index_grid rfl rfl rfl rfl (by omega) (by rw [hg1, hgl2, n_toNat]; omega)) ?_
| refine p_p (ps_load_row rfl rfl rfl (by rw [hgl]; omega)) ?_
| refine p_p (ps_load_row rfl rfl rfl (by rw [hg1, hgl2]; omega)) ?_
| refine p_p (ps_index_row rfl rfl rfl (gF_at hx) rfl (by omega) (by rw [n_toNat]; simp only [List.length_map, List.length_range]; omega)) ?_
| refine p_p (ps_index_row rfl rfl rfl (by rw [hg1]; exact gF_at hy) rfl (by omega) (by rw [n_toNat]; simp only [List.length_map, List.length_range]; omega)) ?_
| refine p_e rfl (e_store_grid rfl rfl rfl rfl (gF_at hx) (by simp only [List.length_map, List.length_range]; omega) rfl rfl) ?_
| refine p_e rfl (e_store_grid rfl rfl rfl rfl (by rw [hg1]; exact gF_at hy) (by simp only [List.length_map, List.length_range]; omega) rfl rfl) ?_
| refine p_p (ps_move rfl) ?_
| refine p_p (ps_assign rfl) ?_
| refine p_p (ps_load_cell rfl rfl) ?_
| refine p_p (ps_lss rfl rfl rfl) ?_
| refine p_p (ps_fieldAddr rfl rfl) ?_); refine ⟨_, aA, ?_⟩)
| refine o_nil ?_
| (refine g_condD rfl (fun hc => ?_) (fun hc => ?_) <;> try (exfalso; omega))
| refine g_exit ?_))
  rw [hg1, hg2]
  refine g_loopF (α := Nat × List (Nat × Nat)) [36] (fun z => [(9, .hp 1), (10, I (z.1 : Int))]) (fun z => [.grid 57 4 (gF n (hasP n z.2)), prOF z.2]) (fun z => z.1 ≤ z.2.length ∧ TInv n ops x y z.2 ∧ ∀ j, j < z.1 → ClP n ops z.2 (z.2.getD j (0, 0))) (fun z => n * n - z.1) (0, [(x, y)]) aH ⟨Nat.zero_le _, .start (.inl rfl), fun j hj => absurd hj (Nat.not_lt_zero _)⟩ ⟨rfl, rfl, trivial⟩ rfl ?_
  clear hg0 hg1 hg2 hg3 hgl hgl2 hpl hil hi
  rintro ⟨m, L⟩ ⟨hml, hT, hC⟩
  dsimp only at hml hT hC
  dsimp only [setMany, List.set_cons_zero, List.set_cons_succ]
  have hLl := hT.len ho hx hy
  have hLlt := hT.lt ho hx hy
  have hLml : (L.map prP).length = L.length := List.length_map _
  by_cases hmi : m < L.length
  · have hst := hT.ok _ (prmem hmi)
    have hstl := hLlt _ (prmem hmi)
    have hq := prO_at hmi
    have hq' : (L.map prP)[((m : Nat) : Int).toNat]? = some (prP (L.getD m (0, 0))) := by rw [Int.toNat_natCast]; exact hq
    obtain ⟨s, t, hde⟩ : ∃ s t, L.getD m (0, 0) = (s, t) := ⟨_, _, rfl⟩
    rw [hde] at hst hstl hq hq'
    dsimp only at hst hstl
    repeat' (first
| refine g_seq ?_
| refine g_block ?_
| refine g_region ?_
| refine g_region_draw (by kernel_rfl) (by kernel_rfl) ?_
| (refine o_go rfl ?_; (first
| refine p_p (ps_index rfl rfl rfl (by omega) hq' (by exact rfl)) ?_
| refine p_p (ps_index_parr rfl rfl rfl (by omega) (by decide)) ?_
| refine p_p (ps_move rfl) ?_
| refine p_p (ps_assign rfl) ?_
| refine p_p (ps_load_cell rfl rfl) ?_
| refine p_p (ps_lenM rfl rfl rfl) ?_
| refine p_p (ps_lss rfl rfl rfl) ?_); refine ⟨_, aA, ?_⟩)
| refine o_nil ?_
| (refine g_condD rfl (fun hc => ?_) (fun hc => ?_) <;> try (exfalso; omega))
| refine g_skip ?_)
    all_goals try (exfalso; omega)
    refine g_loopF (α := Nat × List (Nat × Nat)) [50, 55, 57, 58, 60, 62, 63] (fun z => [(9, .hp 1), (13, I (z.1 : Int))]) (fun z => [.grid 57 4 (gF n (hasP n z.2)), prOF z.2]) (fun z => z.1 ≤ ops.length ∧ TInv n ops x y z.2 ∧ Gw L z.2 ∧ ∀ f ∈ ops.take z.1, ∀ k, k < f.ar.toNat → ∀ j, j < n ^ f.ar.toNat → Ti n z.2 f s t k j) (fun z => ops.length - z.1) (0, L) aH ⟨Nat.zero_le _, hT, .refl L, fun f hf => (by simp at hf)⟩ ⟨rfl, rfl, trivial⟩ rfl ?_
    rintro ⟨o, M1⟩ ⟨hol, hT1, hG1, hD1⟩
    dsimp only at hol hT1 hG1 hD1
    dsimp only [setMany, List.set_cons_zero, List.set_cons_succ]
    by_cases hoi : o < ops.length
    · have hqo := opsK_at hoi
      have hfm := opsK_mem hoi
      have htk : ops.take (o + 1) = ops.take o ++ [ops.getD o default] := take_snoc default hoi
      obtain ⟨ha0, ha3, htl, hvl⟩ := ho _ hfm
      generalize hf : ops.getD o default = f at *
      obtain ⟨a, ha⟩ : ∃ a : Nat, f.ar = a := ⟨f.ar.toNat, by omega⟩
      have haa : f.ar.toNat = a := by omega
      have hpw := pow_le3 (show n ≤ 1000 by omega) (show a ≤ 3 by omega)
      rw [haa] at htl hvl
      repeat' (first
| refine g_seq ?_
| refine g_block ?_
| refine g_region ?_
| (refine o_go rfl ?_; (first
| refine p_p (ps_move rfl) ?_
| refine p_p (ps_assign rfl) ?_
| refine p_p (ps_load_cell rfl rfl) ?_
| refine p_p (ps_lenM rfl rfl rfl) ?_
| refine p_p (ps_lss rfl rfl rfl) ?_
| refine p_p (ps_fieldAddr rfl rfl) ?_); refine ⟨_, aA, ?_⟩)
| refine o_nil ?_
| (refine g_condD rfl (fun hc => ?_) (fun hc => ?_) <;> try (exfalso; omega))
| refine g_skip ?_)
      all_goals try (exfalso; omega)
      refine g_loopF (α := Nat × List (Nat × Nat)) [] (fun z => [(9, .hp 1), (14, I (z.1 : Int))]) (fun z => [.grid 57 4 (gF n (hasP n z.2)), prOF z.2]) (fun z => z.1 ≤ n ^ a ∧ TInv n ops x y z.2 ∧ Gw M1 z.2 ∧ ∀ j, j < z.1 → ∀ k, k < a → Ti n z.2 f s t k j) (fun z => n ^ a - z.1) (0, M1) aH ⟨Nat.zero_le _, hT1, .refl M1, fun j hj => absurd hj (Nat.not_lt_zero _)⟩ ⟨rfl, rfl, trivial⟩ rfl ?_
      rintro ⟨i, M2⟩ ⟨hi, hT2, hG2, hD2⟩
      dsimp only at hi hT2 hG2 hD2
      dsimp only [setMany, List.set_cons_zero, List.set_cons_succ]
      by_cases hil : i < n ^ a
      · have h2 := sargs_c n a i hn0 (by omega) (by omega) (by omega)
        rw [← ha] at h2
        have hal := argsL_len n a i
        have hain := argsL_in hn0 a i
        repeat' (first
| refine g_seq ?_
| refine g_block ?_
| refine g_region ?_
| refine g_region_draw (by kernel_rfl) (by kernel_rfl) ?_
| (refine o_go rfl ?_; (first
| refine p_p (ps_call rfl rfl aC (h2)) ?_
| refine p_p (ps_index rfl rfl rfl (by omega) hqo (by exact rfl)) ?_
| refine p_p (ps_move rfl) ?_
| refine p_p (ps_assign rfl) ?_
| refine p_p (ps_load_cell rfl rfl) ?_
| refine p_p (ps_lenM rfl rfl rfl) ?_
| refine p_p (ps_lss rfl rfl rfl) ?_
| refine p_p (ps_fieldAddr rfl rfl) ?_); refine ⟨_, aA, ?_⟩)
| refine o_nil ?_
| (refine g_condD rfl (fun hc => ?_) (fun hc => ?_) <;> try (exfalso; omega))
| refine g_skip ?_)
        all_goals try (exfalso; omega)
        refine g_loopF (α := Nat × List (Nat × Nat)) [] (fun z => [(9, .hp 1), (16, I (z.1 : Int))]) (fun z => [.grid 57 4 (gF n (hasP n z.2)), prOF z.2]) (fun z => z.1 ≤ a ∧ TInv n ops x y z.2 ∧ Gw M2 z.2 ∧ ∀ k, k < z.1 → Ti n z.2 f s t (a - 1 - k) i) (fun z => a - z.1) (0, M2) aH ⟨Nat.zero_le _, hT2, .refl M2, fun j hj => absurd hj (Nat.not_lt_zero _)⟩ ⟨rfl, rfl, trivial⟩ rfl ?_
        rintro ⟨k, M⟩ ⟨hk, hTM, hGM, hDM⟩
        dsimp only at hk hTM hGM hDM
        dsimp only [setMany, List.set_cons_zero, List.set_cons_succ]
        by_cases hka : k < a
        · have hix1 : ((argsL n a i).map I)[((k : Nat) : Int).toNat]? = some (I (digN n i (a - 1 - k) : Int)) := by rw [← args_at a i k hka]; exact idx_I (by omega)
          have hkj : a - 1 - k < a := by omega
          by_cases hds : digN n i (a - 1 - k) = s
          · have hsl := sub_lt hil hkj hstl.2
            have hix3 : (f.tb.map I)[((i : Nat) : Int).toNat]? = some (I (bk f.tb i : Int)) := by rw [← tb_val ho hfm (by rw [haa]; exact hil)]; exact idx_I (by omega)
            have hval := sval_c n ops o ((argsL n a i).set k (t : Int)) hn hl hoi (by rw [List.length_set]; omega) (set_in hain (by omega) (by omega)) (by rw [List.length_set, hf, hal]; exact htl)
            rw [idx_set hn0 a i k _ hka hil, hf, Int.toNat_natCast, tb_val ho hfm (by rw [haa]; exact hsl), ints_set] at hval
            have htr : TrP n ops x y (bk f.tb i) (bk f.tb (subN n i (a - 1 - k) t)) := hst.tr hfm (by rw [haa]; exact hkj) (by rw [haa]; exact hil) hds
            have hTi : ∀ N, Gw M N → hasP n N (bk f.tb i) (bk f.tb (subN n i (a - 1 - k) t)) = true → ∀ k', k' < k + 1 → Ti n N f s t (a - 1 - k') i := fun N hN hh k' hk' => by
              rcases Nat.lt_or_ge k' k with h | h
              · exact hN.ti (hDM k' h)
              · rw [show k' = k by omega]; exact fun _ => hh
            have hul := (hvl i hil).2
            have hwl := (hvl _ hsl).2
            rw [hds] at hix1
            generalize subN n i (a - 1 - k) t = sb at *
            generalize bk f.tb sb = w at *
            generalize bk f.tb i = u at *
            have hMl := hTM.len ho hx hy
            have hMml : (M.map prP).length = M.length := List.length_map _
            have hgl := gF_len n (hasP n M)
            cases hb : hasP n M u w with
            | true =>
              have hrow : ((List.range n).map fun t => B (hasP n M u t))[w]? = some (B true) := by rw [gR_at hwl, hb]
              repeat' (first
| refine g_seq ?_
| refine g_block ?_
| refine g_region ?_
| refine g_region_draw (by kernel_rfl) (by kernel_rfl) ?_
| (refine o_go rfl ?_; (first
| refine p_e rfl (e_callR rfl rfl aC rfl (own_R _ (by rw [argsL_len]; omega))) ?_
| refine p_p (ps_index rfl rfl rfl (by omega) hix1 (by exact rfl)) ?_
| refine p_e (by kernel_rfl) (e_store_arr rfl rfl rfl rfl (by simp; omega) rfl rfl) ?_
| refine p_p (ps_index rfl rfl rfl (by omega) hqo (by exact rfl)) ?_
| refine p_p (ps_index rfl rfl rfl (by omega) hix3 (by exact rfl)) ?_
| refine p_p (ps_callM rfl rfl aC (by rfl) (hval)) ?_
| refine p_p (ps_index_grid rfl rfl rfl rfl (by omega) (by rw [hgl, n_toNat]; omega)) ?_
| refine p_p (ps_load_row rfl rfl rfl (by rw [hgl]; omega)) ?_
| refine p_p (ps_index_row rfl rfl rfl (gF_at hul) rfl (by omega) (by rw [n_toNat]; simp only [List.length_map, List.length_range]; omega)) ?_
| refine p_p (ps_load_gat rfl rfl rfl (gF_at hul) hrow) ?_
| refine p_p (ps_move rfl) ?_
| refine p_p (ps_assign rfl) ?_
| refine p_p (ps_load_cell rfl rfl) ?_
| refine p_p (ps_load_agg rfl rfl aK) ?_
| refine p_p (ps_lenM rfl rfl rfl) ?_
| refine p_p (ps_lss rfl rfl rfl) ?_
| refine p_p (ps_add rfl rfl rfl aM) ?_
| refine p_p (ps_fieldAddr rfl rfl) ?_
| refine p_p (ps_not rfl rfl) ?_
| refine p_p (ps_neq rfl rfl rfl) ?_
| refine p_p (ps_index_mut rfl rfl rfl rfl (by omega) aU) ?_); refine ⟨_, aA, ?_⟩)
| refine o_nil ?_
| refine g_condF rfl ?_
| (refine g_condN rfl (fun hc => ?_) (fun hc => ?_) <;> try (exfalso; omega))
| (refine g_condD rfl (fun hc => ?_) (fun hc => ?_) <;> try (exfalso; omega))
| refine g_skip ?_)
              all_goals try (exfalso; omega)
              exact k_round (k + 1, M) ⟨by dsimp only; omega, hTM, hGM, hTi M (.refl M) hb⟩ (by dsimp only; omega) aI ⟨rfl, rfl, trivial⟩ (hpLe_cons rfl (hpLe_cons rfl (hpLe_nil _)))
            | false =>
              have hrow : ((List.range n).map fun t => B (hasP n M u t))[w]? = some (B false) := by rw [gR_at hwl, hb]
              obtain ⟨hT', hh'⟩ := hTM.add htr (.inl rfl) hb
              have hs1 := gF_set (n := n) (f := hasP n M) hul hwl
              have hs2 := gF_set (n := n) (f := fun s t => hasP n M s t || (s == u && t == w)) hwl hul
              rw [gF_add hul hwl] at hs2
              have hgl2 := gF_len n (fun s t => hasP n M s t || (s == u && t == w))
              repeat' (first
| refine g_seq ?_
| refine g_block ?_
| refine g_region ?_
| refine g_region_draw (by kernel_rfl) (by kernel_rfl) ?_
| (refine o_go rfl ?_; (first
| refine p_e rfl (e_callR rfl rfl aC rfl (own_R _ (by rw [argsL_len]; omega))) ?_
| refine p_p (ps_index rfl rfl rfl (by omega) hix1 (by exact rfl)) ?_
| refine p_e (by kernel_rfl) (e_store_arr rfl rfl rfl rfl (by simp; omega) rfl rfl) ?_
| refine p_p (ps_index rfl rfl rfl (by omega) hqo (by exact rfl)) ?_
| refine p_p (ps_index rfl rfl rfl (by omega) hix3 (by exact rfl)) ?_
| refine p_p (ps_callM rfl rfl aC (by rfl) (hval)) ?_
| refine p_p (ps_index_grid rfl rfl rfl rfl (by omega) (by rw [hgl, n_toNat]; omega)) ?_
| refine p_p (ps_load_row rfl rfl rfl (by rw [hgl]; omega)) ?_
| refine p_p (ps_index_row rfl rfl rfl (gF_at hul) rfl (by omega) (by rw [n_toNat]; simp only [List.length_map, List.length_range]; omega)) ?_
| refine p_p (ps_load_gat rfl rfl rfl (gF_at hul) hrow) ?_
| refine p_p (ps_index_grid rfl rfl rfl rfl (by omega) (by rw [hs1, hgl2, n_toNat]; omega)) ?_
| refine p_p (ps_load_row rfl rfl rfl (by rw [hs1, hgl2]; omega)) ?_
| refine p_p (ps_index_row rfl rfl rfl (by rw [hs1]; exact gF_at hwl) rfl (by omega) (by rw [n_toNat]; simp only [List.length_map, List.length_range]; omega)) ?_
| refine p_e rfl (e_store_grid rfl rfl rfl rfl (gF_at hul) (by simp only [List.length_map, List.length_range]; omega) rfl rfl) ?_
| refine p_e rfl (e_store_grid rfl rfl rfl rfl (by rw [hs1]; exact gF_at hwl) (by simp only [List.length_map, List.length_range]; omega) rfl rfl) ?_
| refine p_p (ps_buildArr rfl rfl) ?_
| refine p_p (ps_litA [I (u : Int), I (w : Int)] rfl rfl (by rfl) (by decide) (by decide)) ?_
| refine p_e (by kernel_rfl) (e_append rfl rfl rfl rfl rfl rfl (one_ag rfl) rfl aO aO) ?_
| refine p_p (ps_move rfl) ?_
| refine p_p (ps_assign rfl) ?_
| refine p_p (ps_load_cell rfl rfl) ?_
| refine p_p (ps_load_agg rfl rfl aK) ?_
| refine p_p (ps_lenM rfl rfl rfl) ?_
| refine p_p (ps_lss rfl rfl rfl) ?_
| refine p_p (ps_add rfl rfl rfl aM) ?_
| refine p_p (ps_fieldAddr rfl rfl) ?_
| refine p_p (ps_not rfl rfl) ?_
| refine p_p (ps_neq rfl rfl rfl) ?_
| refine p_p (ps_index_mut rfl rfl rfl rfl (by omega) aU) ?_); refine ⟨_, aA, ?_⟩)
| refine o_nil ?_
| refine g_condT rfl ?_
| (refine g_condN rfl (fun hc => ?_) (fun hc => ?_) <;> try (exfalso; omega))
| (refine g_condD rfl (fun hc => ?_) (fun hc => ?_) <;> try (exfalso; omega))
| refine g_skip ?_)
              all_goals try (exfalso; omega)
              refine k_round (k + 1, M ++ [(u, w)]) ⟨by dsimp only; omega, hT', hGM.trans (.app M _), hTi _ (.app M _) hh'⟩ (by dsimp only; omega) aI ⟨rfl, rfl, trivial⟩ (hpLe_cons ?_ (hpLe_cons ?_ (hpLe_nil _)))
              · dsimp only; rw [hs1, hs2]
              · show HO.arr false 2 _ _ = HO.arr false 2 _ ((M ++ [(u, w)]).map prP)
                rw [List.map_append]; rfl
          · repeat' (first
| refine g_seq ?_
| refine g_block ?_
| refine g_region ?_
| (refine o_go rfl ?_; (first
| refine p_p (ps_index rfl rfl rfl (by omega) hix1 (by exact rfl)) ?_
| refine p_p (ps_move rfl) ?_
| refine p_p (ps_assign rfl) ?_
| refine p_p (ps_load_cell rfl rfl) ?_
| refine p_p (ps_lenM rfl rfl rfl) ?_
| refine p_p (ps_lss rfl rfl rfl) ?_
| refine p_p (ps_add rfl rfl rfl aM) ?_
| refine p_p (ps_neq rfl rfl rfl) ?_); refine ⟨_, aA, ?_⟩)
| refine o_nil ?_
| (refine g_condN rfl (fun hc => ?_) (fun hc => ?_) <;> try (exfalso; omega))
| (refine g_condD rfl (fun hc => ?_) (fun hc => ?_) <;> try (exfalso; omega))
| refine g_skip ?_
| refine g_exit ?_)
            all_goals try (exfalso; omega)
            refine k_round (k + 1, M) ⟨by dsimp only; omega, hTM, hGM, fun k' hk' => ?_⟩ (by dsimp only; omega) aI ⟨rfl, rfl, trivial⟩ (hpLe_refl _)
            dsimp only at hk' ⊢
            rcases Nat.lt_or_ge k' k with h | h
            · exact hDM k' h
            · rw [show k' = k by omega]; exact fun h => absurd h hds
        · repeat' (first
| refine g_seq ?_
| refine g_region ?_
| (refine o_go rfl ?_; (first
| refine p_p (ps_move rfl) ?_
| refine p_p (ps_assign rfl) ?_
| refine p_p (ps_lenM rfl rfl rfl) ?_
| refine p_p (ps_lss rfl rfl rfl) ?_
| refine p_p (ps_add rfl rfl rfl aM) ?_); refine ⟨_, aA, ?_⟩)
| refine o_nil ?_
| (refine g_condD rfl (fun hc => ?_) (fun hc => ?_) <;> try (exfalso; omega))
| refine g_exit ?_)
          all_goals try (exfalso; omega)
          refine k_round (i + 1, M) ⟨by dsimp only; omega, hTM, hG2.trans hGM, fun j hj k' hk' => ?_⟩ (by dsimp only; omega) aI ⟨rfl, rfl, trivial⟩ (hpLe_refl _)
          dsimp only at hj ⊢
          rcases Nat.lt_or_ge j i with h | h
          · exact hGM.ti (hD2 j h k' hk')
          · have := hDM (a - 1 - k') (by omega)
            rw [show j = i by omega]
            rwa [show a - 1 - (a - 1 - k') = k' by omega] at this
      · repeat' (first
| refine g_seq ?_
| refine g_region ?_
| (refine o_go rfl ?_; (first
| refine p_p (ps_index rfl rfl rfl (by omega) hqo (by exact rfl)) ?_
| refine p_p (ps_move rfl) ?_
| refine p_p (ps_assign rfl) ?_
| refine p_p (ps_load_cell rfl rfl) ?_
| refine p_p (ps_lenM rfl rfl rfl) ?_
| refine p_p (ps_lss rfl rfl rfl) ?_
| refine p_p (ps_add rfl rfl rfl aM) ?_
| refine p_p (ps_fieldAddr rfl rfl) ?_); refine ⟨_, aA, ?_⟩)
| refine o_nil ?_
| (refine g_condD rfl (fun hc => ?_) (fun hc => ?_) <;> try (exfalso; omega))
| refine g_exit ?_)
        all_goals try (exfalso; omega)
        refine k_round (o + 1, M2) ⟨by dsimp only; omega, hT2, hG1.trans hG2, fun g hg k' hk' j hj => ?_⟩ (by dsimp only; omega) aI ⟨rfl, rfl, trivial⟩ (hpLe_refl _)
        dsimp only at hg ⊢
        rw [htk, List.mem_append, List.mem_singleton] at hg
        rcases hg with hg | rfl
        · exact hG2.ti (hD1 g hg k' hk' j hj)
        · rw [haa] at hk' hj
          exact hD2 j (by omega) k' hk'
    · repeat' (first
| refine g_seq ?_
| refine g_region ?_
| (refine o_go rfl ?_; (first
| refine p_p (ps_move rfl) ?_
| refine p_p (ps_assign rfl) ?_
| refine p_p (ps_load_cell rfl rfl) ?_
| refine p_p (ps_lenM rfl rfl rfl) ?_
| refine p_p (ps_lss rfl rfl rfl) ?_
| refine p_p (ps_add rfl rfl rfl aM) ?_
| refine p_p (ps_fieldAddr rfl rfl) ?_); refine ⟨_, aA, ?_⟩)
| refine o_nil ?_
| (refine g_condD rfl (fun hc => ?_) (fun hc => ?_) <;> try (exfalso; omega))
| refine g_exit ?_)
      all_goals try (exfalso; omega)
      refine k_round (K := fun _ _ => True) (m + 1, M1) ⟨?_, hT1, fun j hj => ?_⟩ ?_ aI ⟨rfl, rfl, trivial⟩ (hpLe_refl _)
      · have := hG1.len; dsimp only; omega
      · dsimp only at hj ⊢
        rcases Nat.lt_or_ge j m with h | h
        · rw [hG1.at (by omega)]; exact hG1.clp (hC j h)
        · rw [show j = m by omega, hG1.at hmi, hde]
          intro f hf k hk j' hj'
          exact hD1 f (by rw [List.take_of_length_le (by omega)]; exact hf) k hk j' hj'
      · dsimp only; omega
  · repeat' (first
| refine g_seq ?_
| refine g_region ?_
| (refine o_go rfl ?_; (first
| refine p_p (ps_move rfl) ?_
| refine p_p (ps_assign rfl) ?_
| refine p_p (ps_lenM rfl rfl rfl) ?_
| refine p_p (ps_lss rfl rfl rfl) ?_); refine ⟨_, aA, ?_⟩)
| refine o_nil ?_
| (refine g_condD rfl (fun hc => ?_) (fun hc => ?_) <;> try (exfalso; omega))
| refine kr1 ?_
| refine krS rfl ?_
| refine g_exit ?_
| refine g_ret ?_)
    all_goals try (exfalso; omega)
    have hall : gF n (hasP n L) = gF n (trB n ops x y) := gF_congr fun s t hs ht => tr_all ho hx hy hT (cl_all fun j hj => hC j (by omega)) hs ht
    rw [hall]
end Go.Proofs.Ytkdagmbgjddopaa
