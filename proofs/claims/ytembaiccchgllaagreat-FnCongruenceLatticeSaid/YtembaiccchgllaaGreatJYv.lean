/- The law of the lattice of congruences. -/
import Derived.Test.YtembaiccchgllaaGreatJYt
import Derived.Test.YtembaiccchgllaaGreatJSn
import Derived.Test.YtembaiccchgllaaGreatJYa
import Derived.Test.YtembaiccchgllaaGreatJYb
import Derived.Test.YtembaiccchgllaaGreatJKo
import Derived.Test.YtembaiccchgllaaGreatJSr
set_option linter.unusedSectionVars false
namespace Go.Pv
open Go
attribute [local semireducible] Go.Pv.PStep
section
variable {P : Program} {o : Oper} {ev : Operand → PV} {hp : List HO}
theorem ps_geqFY {t rt : TypeId} {x y : Operand} {a b : Int} {k : IntKind} (ho : o.op = .binOp .geq t x y rt) (h1 : ev x = .val (.int k a)) (h2 : ev y = .val (.int k b)) (h : ¬ a ≥ b) : PStep P o ev hp (B false) := by
  have := ps_geq (P := P) (hp := hp) ho h1 h2; rwa [decide_eq_false h] at this
end
end Go.Pv
namespace Go.Proofs.YtembaiccchgllaaGreat
open Go Go.Pv Go.Proofs
set_option maxHeartbeats 32000000
set_option maxRecDepth 100000
attribute [local bitvec_to_nat] St.put St.setObj St.ev killP killA killP1 killH mapHO renP renA ren1 killG killGA killG1 krowP krowA krow1 lendP lendA lend1 unv pinP pin1 elemsM viewM viewN viewV n_set_z n_set_s n_map_c n_map_n getD_z getD_s n_toNat n_cond_t n_cond_f n_len_c n_len_n n_app_c n_app_n n_take_s n_take_z n_drop_s n_drop_z n_get_z n_get_s view viewA view1 elems Nat.zero_add Nat.add_zero Bool.not_true Bool.not_false Nat.one_ne_zero Nat.mul_one

theorem irr_mir {n : Nat} {V : List (List Int)} (C : CLat n V) : irrC n V V = (mirL (clP n V)).map fun x => V.getD x.toNat [] := by
  unfold irrC mirL upTo
  rw [List.map_map, clP_len]
  conv => lhs; rw [show V.filter (fun p => decide ((covP6 n V p).length = 1)) = ((List.range V.length).map (fun i => V.getD i [])).filter (fun p => decide ((covP6 n V p).length = 1)) by rw [range_getD]]
  rw [filter_idx]
  have e : ((List.range V.length).filter fun i => decide ((covP6 n V (V.getD i [])).length = 1)) = (List.range V.length).filter (mirB (clP n V)) := by
    refine List.filter_congr fun i hi => ?_
    have hi := List.mem_range.1 hi
    unfold mirB
    rw [cl_covers C hi]
  rw [e]
  refine List.map_congr_left fun i _ => ?_
  show V.getD i [] = V.getD (Int.ofNat i).toNat []
  rfl
theorem mir_at {n : Nat} {V : List (List Int)} {k : Nat} (h : k < (mirL (clP n V)).length) : 0 ≤ (mirL (clP n V)).getD k 0 ∧ (mirL (clP n V)).getD k 0 < (V.length : Int) := by
  obtain ⟨h1, h2, -⟩ := upTo_getD h
  have h2 : (mirL (clP n V)).getD k 0 < ((clP n V).length : Int) := h2
  have e : (clP n V).length = V.length := clP_len n V
  exact ⟨h1, by omega⟩
theorem mir_len {n : Nat} {V : List (List Int)} : (mirL (clP n V)).length ≤ V.length := by
  have e : (clP n V).length = V.length := clP_len n V
  unfold mirL upTo
  rw [List.length_map]
  exact Nat.le_trans (List.length_filter_le _ _) (by rw [List.length_range, e]; exact Nat.le_refl _)
theorem cl_t38 (m : Nat) (ops : List OpD) (hm0 : 0 < m) (hm8 : m ≤ 8) (hs : szOk ops) (hb : acB m ops = true) (C : CLat m (allL m ops)) (h10 : (allL m ops).length ≤ 10) :
    Goal Tryz.prog (tailAt 38 (bodyC Tryz.f3)) (KRets [2] [B true]) ⟨zZ (List.replicate 296 .any) [(3, .ptr [I (m : Int), opsP ops]), (4, intss (allL m ops)), (8, .ptr [intss (clP m (allL m ops))])], []⟩ := by
  conv => arg 2; whnf
  simp only [List.replicate_succ, List.replicate_zero]
  dsimp only [zZ, List.set_cons_zero, List.set_cons_succ]
  have hg := cl_good C h10
  have hok : okP (clP m (allL m ops)) := clP_ok (by omega)
  have h1 := iirc_c m ops hs hb
  have h2 := imir_c (clP m (allL m ops)) hok hg
  have h3 := iatm_c (clP m (allL m ops)) hok hg (by rw [cl_bot C h10]; exact cl_inR C.pos)
  have h4 := iminc_c m ops hs hb
  have e4 : (upsL (clP m (allL m ops)) (botL (clP m (allL m ops))) (clP m (allL m ops)).length).length = (minL m ((allL m ops).drop 1)).length := by
    rw [cl_bot C h10, cl_atoms C]
  have hirr := irr_mir C
  have hMl : (mirL (clP m (allL m ops))).length ≤ (allL m ops).length := mir_len
  have hat := fun k (h : k < (mirL (clP m (allL m ops))).length) => mir_at h
  have hpt := C.pt
  rw [hirr] at h1
  generalize mirL (clP m (allL m ops)) = M at *
  generalize upsL (clP m (allL m ops)) (botL (clP m (allL m ops))) (clP m (allL m ops)).length = U at *
  generalize minL m ((allL m ops).drop 1) = W at *
  generalize clP m (allL m ops) = R at *
  generalize allL m ops = V at *
  have hlM : (M.map fun x => V.getD x.toNat []).length = M.length := List.length_map ..
  have hWl : (U.length : Int) = (W.length : Int) := by omega
  repeat' (first
| refine g_seq ?_
| refine zJ ?_
| refine zC ?_
| (refine o_go rfl ?_; (first
| refine p_p (zG rfl rfl aB (h1)) ?_
| refine p_p (zG rfl rfl aB (h2)) ?_
| refine p_p (zD rfl) ?_
| refine p_p (zA rfl) ?_
| refine p_p (ps_load_agg rfl rfl aJ) ?_
| refine p_p (zU rfl rfl rfl) ?_
| refine p_p (ps_extract rfl rfl rfl) ?_
| refine p_p (ps_not rfl rfl) ?_
| refine p_p (zQ rfl rfl) ?_
| refine p_p (ps_neq rfl rfl rfl) ?_); refine ⟨_, aA, ?_⟩)
| refine o_nil ?_
| (refine g_condN rfl (fun hc => ?_) (fun hc => ?_) <;> try (exfalso; omega))
| refine zR ?_)
  all_goals try (exfalso; first | omega | (simp at hc; done))
  refine g_loopT (α := Nat) (fun k => [(28, I (k : Int))]) (fun _ => []) (fun k => k ≤ M.length) (fun k => M.length - k) 0 aF (Nat.zero_le _) ⟨rfl, trivial⟩ rfl ?_
  rintro k hk
  dsimp only [zZ, List.set_cons_zero, List.set_cons_succ]
  by_cases hkl : k < M.length
  · obtain ⟨k0, k1⟩ := hat k hkl
    have i1 := row_atY (p := M) hkl
    obtain ⟨x, hx⟩ : ∃ x : Nat, M.getD k 0 = (x : Int) := ⟨(M.getD k 0).toNat, by omega⟩
    have i3 := rows_at (V := M.map fun x => V.getD x.toNat []) (k := k) (by omega)
    rw [show (M.map fun x => V.getD x.toNat []).getD k [] = V.getD x [] by
      rw [← Int.toNat_natCast (n := x), ← hx]; simp [List.getD_eq_getElem?_getD, hkl]] at i3
    rw [hx] at i1 k1
    have i2 := rows_at (V := V) (k := x) (by omega)
    have hl := (hpt x (by omega)).len
    have h5 := rintsY_c (V.getD x []) (V.getD x []) (by rw [hl]; omega) (by rw [hl]; omega)
    rw [decide_eq_true rfl] at h5
    repeat' (first
| refine g_seq ?_
| refine zJ ?_
| refine zC ?_
| refine zP (by kernel_rfl) (by kernel_rfl) ?_
| (refine o_go rfl ?_; (first
| refine p_p (zN rfl rfl rfl (by omega) i1 (by exact rfl)) ?_
| refine p_p (zN rfl rfl rfl (by omega) i2 (by exact rfl)) ?_
| refine p_p (zN rfl rfl rfl (by omega) i3 (by exact rfl)) ?_
| refine p_p (zG rfl rfl aB (h5)) ?_
| refine p_p (ps_lssFY rfl rfl rfl (by omega)) ?_
| refine p_p (zD rfl) ?_
| refine p_p (zA rfl) ?_
| refine p_p (zF rfl rfl) ?_
| refine p_p (zU rfl rfl rfl) ?_
| refine p_p (zS rfl rfl rfl) ?_
| refine p_p (ps_add rfl rfl rfl aN) ?_
| refine p_p (ps_not rfl rfl) ?_
| refine p_p (zQ rfl rfl) ?_
| refine p_p (ps_geq rfl rfl rfl) ?_); refine ⟨_, aA, ?_⟩)
| refine o_nil ?_
| (refine o_splitD rfl rfl rfl (fun hc => ?_) (fun hc => ?_) <;> first | (exfalso; omega) | dsimp only [List.set_cons_zero, List.set_cons_succ])
| refine zW rfl ?_
| (refine zK rfl (fun hc => ?_) (fun hc => ?_) <;> try (exfalso; omega))
| refine zR ?_)
    all_goals try (exfalso; omega)
    exact zT (k + 1) (by omega) (by omega) aI ⟨rfl, trivial⟩ (zM _)
  · repeat' (first
| refine g_seq ?_
| refine zC ?_
| (refine o_go rfl ?_; (first
| refine p_p (zG rfl rfl aB (h3)) ?_
| refine p_p (zG rfl rfl aB (h4)) ?_
| refine p_p (zD rfl) ?_
| refine p_p (zA rfl) ?_
| refine p_p (ps_load_agg rfl rfl aJ) ?_
| refine p_p (zU rfl rfl rfl) ?_
| refine p_p (zS rfl rfl rfl) ?_
| refine p_p (ps_extract rfl rfl rfl) ?_
| refine p_p (zQ rfl rfl) ?_
| refine p_p (ps_eql rfl rfl rfl) ?_); refine ⟨_, aA, ?_⟩)
| refine o_nil ?_
| (refine zK rfl (fun hc => ?_) (fun hc => ?_) <;> try (exfalso; omega))
| refine kr1 ?_
| refine krB rfl ?_
| refine g_exit ?_
| refine g_ret ?_)
    all_goals first | rfl | (exfalso; omega) | (rw [hWl]; simp; done)
theorem cl_t24 (m : Nat) (ops : List OpD) (hm0 : 0 < m) (hm8 : m ≤ 8) (hs : szOk ops) (hb : acB m ops = true) (C : CLat m (allL m ops)) (h10 : (allL m ops).length ≤ 10) :
    Goal Tryz.prog (tailAt 24 (bodyC Tryz.f3)) (KRets [2] [B true]) ⟨zZ (List.replicate 296 .any) [(3, .ptr [I (m : Int), opsP ops]), (4, intss (allL m ops)), (8, .ptr [intss (clP m (allL m ops))])], []⟩ := by
  have hpart := cl_t38 m ops hm0 hm8 hs hb C h10
  revert hpart
  intro hpart
  conv => arg 2; whnf
  simp only [List.replicate_succ, List.replicate_zero]
  dsimp only [zZ, List.set_cons_zero, List.set_cons_succ]
  have hg := cl_good C h10
  have hok : okP (clP m (allL m ops)) := clP_ok (by omega)
  have h1 := iisl_c (clP m (allL m ops)) hok hg
  have h2 := sisl_c (clP m (allL m ops)) hok
  rw [hg] at h2
  have hM := fun i k (hi : i < (allL m ops).length) (hk : k < (allL m ops).length) => cl_meet C h10 hi hk
  have hJ := fun i k (hi : i < (allL m ops).length) (hk : k < (allL m ops).length) => cl_join C h10 hi hk
  have c1 := fun i k (hi : i < (allL m ops).length) (hk : k < (allL m ops).length) => imeet_yes (clP m (allL m ops)) (i : Int) (k : Int) hok hg (cl_inR hi) (cl_inR hk)
  have c2 := fun i k (hi : i < (allL m ops).length) (hk : k < (allL m ops).length) => ijoin_yes (clP m (allL m ops)) (i : Int) (k : Int) hok hg (cl_inR hi) (cl_inR hk)
  have hpt := C.pt
  generalize clP m (allL m ops) = R at *
  generalize allL m ops = V at *
  repeat' (first
| refine g_seq ?_
| refine zJ ?_
| refine zC ?_
| (refine o_go rfl ?_; (first
| refine p_p (zG rfl rfl aB (h1)) ?_
| refine p_p (zG rfl rfl aB (h2)) ?_
| refine p_p (zD rfl) ?_
| refine p_p (zA rfl) ?_
| refine p_p (ps_load_agg rfl rfl aJ) ?_
| refine p_p (ps_not rfl rfl) ?_
| refine p_p (zQ rfl rfl) ?_); refine ⟨_, aA, ?_⟩)
| refine o_nil ?_
| refine zW rfl ?_
| refine zR ?_)
  all_goals try (exfalso; omega)
  refine g_loopT (α := Nat) (fun i => [(14, I (i : Int))]) (fun _ => []) (fun i => i ≤ V.length) (fun i => V.length - i) 0 aF (Nat.zero_le _) ⟨rfl, trivial⟩ rfl ?_
  rintro i hi
  dsimp only [zZ, List.set_cons_zero, List.set_cons_succ]
  by_cases hil : i < V.length
  · have ri := rows_at hil
    have pi := hpt i hil
    repeat' (first
| refine g_seq ?_
| refine zJ ?_
| refine zC ?_
| (refine o_go rfl ?_; (first
| refine p_p (zD rfl) ?_
| refine p_p (zA rfl) ?_
| refine p_p (zU rfl rfl rfl) ?_
| refine p_p (zS rfl rfl rfl) ?_); refine ⟨_, aA, ?_⟩)
| refine o_nil ?_
| (refine zK rfl (fun hc => ?_) (fun hc => ?_) <;> try (exfalso; omega))
| refine zR ?_)
    all_goals try (exfalso; omega)
    refine g_loopT (α := Nat) (fun k => [(15, I (k : Int))]) (fun _ => []) (fun k => k ≤ i) (fun k => i - k) 0 aF (Nat.zero_le _) ⟨rfl, trivial⟩ rfl ?_
    rintro k hk
    dsimp only [zZ, List.set_cons_zero, List.set_cons_succ]
    by_cases hki : k < i
    · have hkl : k < V.length := by omega
      have rk := rows_at hkl
      have pk := hpt k hkl
      have e1 := c1 i k hil hkl
      have e2 := c2 i k hil hkl
      obtain ⟨x, hx, hxl, hxe⟩ := hM i k hil hkl
      obtain ⟨y, hy, hyl, hye⟩ := hJ i k hil hkl
      rw [hx] at e1
      rw [hy] at e2
      have rx := rows_at hxl
      have ry := rows_at hyl
      have e3 := impN_c hm0 hm8 pi pk
      have e4 := ijpN_c hm0 hm8 pi pk
      have e5 := rintsY_c (V.getD x []) (meetP m (V.getD i []) (V.getD k [])) (by rw [(hpt x hxl).len]; omega) (by rw [(meet_pt (n := m)).len]; omega)
      have e6 := rintsY_c (V.getD y []) (joinP m (V.getD i []) (V.getD k [])) (by rw [(hpt y hyl).len]; omega) (by rw [(join_pt pi pk).len]; omega)
      rw [decide_eq_true hxe] at e5
      rw [decide_eq_true hye] at e6
      repeat' (first
| refine g_seq ?_
| refine zJ ?_
| refine zC ?_
| refine zP (by kernel_rfl) (by kernel_rfl) ?_
| (refine o_go rfl ?_; (first
| refine p_p (zG rfl rfl aB (e1)) ?_
| refine p_p (zG rfl rfl aB (e2)) ?_
| refine p_p (zG rfl rfl aB (e3)) ?_
| refine p_p (zG rfl rfl aB (e4)) ?_
| refine p_p (zG rfl rfl aB (e5)) ?_
| refine p_p (zG rfl rfl aB (e6)) ?_
| refine p_p (zN rfl rfl rfl (by omega) ri (by exact rfl)) ?_
| refine p_p (zN rfl rfl rfl (by omega) rk (by exact rfl)) ?_
| refine p_p (zN rfl rfl rfl (by omega) rx (by exact rfl)) ?_
| refine p_p (zN rfl rfl rfl (by omega) ry (by exact rfl)) ?_
| refine p_p (ps_lssFY rfl rfl rfl (by omega)) ?_
| refine p_p (ps_geqFY rfl rfl rfl (by omega)) ?_
| refine p_p (zD rfl) ?_
| refine p_p (zA rfl) ?_
| refine p_p (zF rfl rfl) ?_
| refine p_p (ps_load_agg rfl rfl aJ) ?_
| refine p_p (zU rfl rfl rfl) ?_
| refine p_p (zS rfl rfl rfl) ?_
| refine p_p (ps_add rfl rfl rfl aN) ?_
| refine p_p (zL rfl rfl) ?_
| refine p_p (ps_extract rfl rfl rfl) ?_
| refine p_p (ps_not rfl rfl) ?_
| refine p_p (zQ rfl rfl) ?_); refine ⟨_, aA, ?_⟩)
| refine o_nil ?_
| refine zW rfl ?_
| (refine zK rfl (fun hc => ?_) (fun hc => ?_) <;> try (exfalso; omega))
| refine zR ?_)
      all_goals try (exfalso; omega)
      exact zT (k + 1) (by omega) (by omega) aI ⟨rfl, trivial⟩ (zM _)
    · repeat' (first
| refine g_seq ?_
| refine zC ?_
| (refine o_go rfl ?_; (first
| refine p_p (zD rfl) ?_
| refine p_p (zA rfl) ?_
| refine p_p (zS rfl rfl rfl) ?_
| refine p_p (ps_add rfl rfl rfl aN) ?_); refine ⟨_, aA, ?_⟩)
| refine o_nil ?_
| (refine zK rfl (fun hc => ?_) (fun hc => ?_) <;> try (exfalso; omega))
| refine g_exit ?_)
      all_goals try (exfalso; omega)
      exact zT (K := fun _ _ => True) (i + 1) (by omega) (by omega) aI ⟨rfl, trivial⟩ (zM _)
  · repeat' ((fail_if_success (refine at_reg1 38 ?_)); (first
| refine g_seq ?_
| refine zC ?_
| (refine o_go rfl ?_; (first
| refine p_p (zD rfl) ?_
| refine p_p (zU rfl rfl rfl) ?_
| refine p_p (zS rfl rfl rfl) ?_); refine ⟨_, aA, ?_⟩)
| refine o_nil ?_
| (refine zK rfl (fun hc => ?_) (fun hc => ?_) <;> try (exfalso; omega))
| refine g_exit ?_))
    all_goals try (exfalso; omega)
    exact g_tail rfl ⟨aI, zM _⟩ hpart
def clH (m : Nat) (V : List (List Int)) : Nat → List HO
  | 0 => [.box [nilV]]
  | i + 1 => [.box [.hp 2], .gone, .arr true 1 34 ((clR m V (i + 1)).map ints)]
theorem cl_t10 (m : Nat) (ops : List OpD) (hm0 : 0 < m) (hm8 : m ≤ 8) (hs : szOk ops) (hb : acB m ops = true) (C : CLat m (allL m ops)) (h10 : (allL m ops).length ≤ 10) :
    Goal Tryz.prog (tailAt 10 (bodyC Tryz.f3)) (KRets [2] [B true]) ⟨zZ (List.replicate 296 .any) [(3, .ptr [I (m : Int), opsP ops]), (4, intss (allL m ops))], []⟩ := by
  have hpart := cl_t24 m ops hm0 hm8 hs hb C h10
  conv => arg 2; whnf
  simp only [List.replicate_succ, List.replicate_zero]
  dsimp only [zZ, List.set_cons_zero, List.set_cons_succ]
  have hpt := C.pt
  have hpos := C.pos
  unfold clP at hpart
  generalize allL m ops = V at *
  repeat' (first
| refine g_seq ?_
| refine zJ ?_
| refine zC ?_
| (refine o_go rfl ?_; (first
| refine p_p (zA rfl) ?_
| refine p_e rfl (zO rfl rfl rfl rfl aJ rfl rfl rfl) ?_
| refine p_e rfl (e_alloc rfl) ?_
| refine p_p (ps_build rfl rfl) ?_); refine ⟨_, aA, ?_⟩)
| refine o_nil ?_)
  refine g_loopT (α := Nat) (fun i => [(9, I (i : Int))]) (fun i => clH m V i) (fun i => i ≤ V.length) (fun i => V.length - i) 0 aF (Nat.zero_le _) ⟨rfl, trivial⟩ rfl ?_
  rintro i hi
  dsimp only [zZ, List.set_cons_zero, List.set_cons_succ]
  cases i with
  | zero =>
    dsimp only [clH]
    have ri := rows_at (V := V) (k := 0) (by omega)
    have pi := hpt 0 (by omega)
    have hsn := clR_succ m V 0
    repeat' (first
| refine g_seq ?_
| refine zJ ?_
| refine zC ?_
| (refine o_go rfl ?_; (first
| refine p_p (zD rfl) ?_
| refine p_p (zA rfl) ?_
| refine p_p (zU rfl rfl rfl) ?_
| refine p_p (zS rfl rfl rfl) ?_
| refine p_e rfl (e_lit0 rfl (by decide)) ?_); refine ⟨_, aA, ?_⟩)
| refine o_nil ?_
| (refine zK rfl (fun hc => ?_) (fun hc => ?_) <;> try (exfalso; omega))
| refine zR ?_)
    all_goals try (exfalso; omega)
    refine g_loopF (α := Nat) [70] (fun k => [(10, .hp 1), (11, I (k : Int))]) (fun k => [.box [nilV], .arr false 1 3 ((clK m V 0 k).map I)]) (fun k => k ≤ V.length) (fun k => V.length - k) 0 aF (Nat.zero_le _) ⟨rfl, rfl, trivial⟩ rfl ?_
    rintro k hk
    dsimp only [zZ, List.set_cons_zero, List.set_cons_succ]
    have hkk : (clK m V 0 k).length ≤ k := upTo_length _ _
    have hkl2 : ((clK m V 0 k).map I).length = (clK m V 0 k).length := List.length_map ..
    by_cases hkl : k < V.length
    · have rk := rows_at hkl
      have e1 := iisf_c m (V.getD k []) (V.getD 0 []) hm0 hm8 (hpt k hkl) pi
      have hks : clK m V 0 (k + 1) = clK m V 0 k ++ (if fiB m (V.getD k []) (V.getD 0 []) = true then [(k : Int)] else []) := upTo_succ _ _
      cases hf : fiB m (V.getD k []) (V.getD 0 []) with
      | true =>
        rw [hf, if_pos rfl] at hks
        rw [hf] at e1
        repeat' (first
| refine g_seq ?_
| refine zJ ?_
| refine zC ?_
| refine zP (by kernel_rfl) (by kernel_rfl) ?_
| (refine o_go rfl ?_; (first
| refine p_p (zN rfl rfl rfl (by omega) rk (by exact rfl)) ?_
| refine p_p (zN rfl rfl rfl (by omega) ri (by exact rfl)) ?_
| refine p_p (zG rfl rfl aB (e1)) ?_
| refine p_e (by kernel_rfl) (e_append rfl rfl rfl rfl rfl rfl (one_one rfl) rfl (by rw [hkl2, n_len_c, n_len_n]; omega) (by rw [hkl2, n_len_c, n_len_n]; omega)) ?_
| refine p_p (zD rfl) ?_
| refine p_p (zA rfl) ?_
| refine p_p (zF rfl rfl) ?_
| refine p_p (zU rfl rfl rfl) ?_
| refine p_p (zS rfl rfl rfl) ?_
| refine p_p (ps_add rfl rfl rfl aN) ?_
| refine p_p (zL rfl rfl) ?_
| refine p_p (ps_extract rfl rfl rfl) ?_
| refine p_p (ps_not rfl rfl) ?_
| refine p_p (ps_lit1 rfl rfl (by rfl) (by rfl)) ?_); refine ⟨_, aA, ?_⟩)
| refine o_nil ?_
| refine zX rfl ?_
| refine zW rfl ?_
| (refine zK rfl (fun hc => ?_) (fun hc => ?_) <;> try (exfalso; omega))
| refine zR ?_)
        all_goals try (exfalso; omega)
        exact zT (k + 1) (by omega) (by omega) aI ⟨rfl, rfl, trivial⟩ (zB rfl (zB (by rw [hks, List.map_append]; rfl) (zM _)))
      | false =>
        rw [hf, if_neg Bool.false_ne_true, List.append_nil] at hks
        rw [hf] at e1
        repeat' (first
| refine g_seq ?_
| refine zJ ?_
| refine zC ?_
| refine zP (by kernel_rfl) (by kernel_rfl) ?_
| (refine o_go rfl ?_; (first
| refine p_p (zN rfl rfl rfl (by omega) rk (by exact rfl)) ?_
| refine p_p (zN rfl rfl rfl (by omega) ri (by exact rfl)) ?_
| refine p_p (zG rfl rfl aB (e1)) ?_
| refine p_p (zD rfl) ?_
| refine p_p (zA rfl) ?_
| refine p_p (zF rfl rfl) ?_
| refine p_p (zU rfl rfl rfl) ?_
| refine p_p (zS rfl rfl rfl) ?_
| refine p_p (ps_add rfl rfl rfl aN) ?_
| refine p_p (zL rfl rfl) ?_
| refine p_p (ps_extract rfl rfl rfl) ?_
| refine p_p (ps_not rfl rfl) ?_); refine ⟨_, aA, ?_⟩)
| refine o_nil ?_
| refine zW rfl ?_
| (refine zK rfl (fun hc => ?_) (fun hc => ?_) <;> try (exfalso; omega))
| refine zR ?_)
        all_goals try (exfalso; omega)
        exact zT (k + 1) (by omega) (by omega) aI ⟨rfl, rfl, trivial⟩ (zB rfl (zB (by rw [hks]) (zM _)))
    · rw [show k = V.length by omega]
      repeat' ((fail_if_success (refine at_reg0 23 ?_)); (first
| refine g_seq ?_
| refine zC ?_
| (refine o_go rfl ?_; (first
| refine p_p (zD rfl) ?_
| refine p_p (zU rfl rfl rfl) ?_
| refine p_p (zS rfl rfl rfl) ?_); refine ⟨_, aA, ?_⟩)
| refine o_nil ?_
| (refine zK rfl (fun hc => ?_) (fun hc => ?_) <;> try (exfalso; omega))
| refine g_exit ?_))
      all_goals try (exfalso; omega)
      refine at_reg0 23 ?_
      refine g_view1 10 ⟨_, aA, ?_⟩
      repeat' (first
| refine zC ?_
| (refine o_go rfl ?_; (first
| refine p_e rfl (e_appendNil rfl rfl rfl rfl (one_one rfl) (by decide) rfl aQ aQ aQ) ?_
| refine p_p (zD rfl) ?_
| refine p_p (zA rfl) ?_
| refine p_p (ps_add rfl rfl rfl aN) ?_
| refine p_p (zH rfl rfl rfl rfl) ?_
| refine p_p (zE rfl rfl) ?_
| refine p_e rfl (e_store_boxC rfl rfl rfl rfl aJ rfl rfl) ?_
| refine p_p (ps_lit1 rfl rfl (by rfl) (by rfl)) ?_); refine ⟨_, aA, ?_⟩)
| refine o_nil ?_)
      all_goals try (exfalso; omega)
      exact zT 1 (by omega) (by omega) aI ⟨rfl, trivial⟩ (zB rfl (hpLe_gone (zB (by rw [hsn]; rfl) (zM _))))
  | succ i =>
    dsimp only [clH]
    by_cases hil : i + 1 < V.length
    · have ri := rows_at (V := V) (k := (i + 1)) (by omega)
      have pi := hpt (i + 1) (by omega)
      have hsn := clR_succ m V (i + 1)
      have hrl : ((clR m V (i + 1)).map ints).length = i + 1 := by simp [clR]
      repeat' (first
| refine g_seq ?_
| refine zJ ?_
| refine zC ?_
| (refine o_go rfl ?_; (first
| refine p_p (zD rfl) ?_
| refine p_p (zA rfl) ?_
| refine p_p (zU rfl rfl rfl) ?_
| refine p_p (zS rfl rfl rfl) ?_
| refine p_e rfl (e_lit0 rfl (by decide)) ?_); refine ⟨_, aA, ?_⟩)
| refine o_nil ?_
| (refine zK rfl (fun hc => ?_) (fun hc => ?_) <;> try (exfalso; omega))
| refine zR ?_)
      all_goals try (exfalso; omega)
      refine g_loopF (α := Nat) [70] (fun k => [(10, .hp 3), (11, I (k : Int))]) (fun k => [.box [.hp 2], .gone, .arr true 1 34 ((clR m V (i + 1)).map ints), .arr false 1 3 ((clK m V (i + 1) k).map I)]) (fun k => k ≤ V.length) (fun k => V.length - k) 0 aF (Nat.zero_le _) ⟨rfl, rfl, trivial⟩ rfl ?_
      rintro k hk
      dsimp only [zZ, List.set_cons_zero, List.set_cons_succ]
      have hkk : (clK m V (i + 1) k).length ≤ k := upTo_length _ _
      have hkl2 : ((clK m V (i + 1) k).map I).length = (clK m V (i + 1) k).length := List.length_map ..
      by_cases hkl : k < V.length
      · have rk := rows_at hkl
        have e1 := iisf_c m (V.getD k []) (V.getD (i + 1) []) hm0 hm8 (hpt k hkl) pi
        have hks : clK m V (i + 1) (k + 1) = clK m V (i + 1) k ++ (if fiB m (V.getD k []) (V.getD (i + 1) []) = true then [(k : Int)] else []) := upTo_succ _ _
        cases hf : fiB m (V.getD k []) (V.getD (i + 1) []) with
        | true =>
          rw [hf, if_pos rfl] at hks
          rw [hf] at e1
          repeat' (first
| refine g_seq ?_
| refine zJ ?_
| refine zC ?_
| refine zP (by kernel_rfl) (by kernel_rfl) ?_
| (refine o_go rfl ?_; (first
| refine p_p (zN rfl rfl rfl (by omega) rk (by exact rfl)) ?_
| refine p_p (zN rfl rfl rfl (by omega) ri (by exact rfl)) ?_
| refine p_p (zG rfl rfl aB (e1)) ?_
| refine p_e (by kernel_rfl) (e_append rfl rfl rfl rfl rfl rfl (one_one rfl) rfl (by rw [hkl2, n_len_c, n_len_n]; omega) (by rw [hkl2, n_len_c, n_len_n]; omega)) ?_
| refine p_p (zD rfl) ?_
| refine p_p (zA rfl) ?_
| refine p_p (zF rfl rfl) ?_
| refine p_p (zU rfl rfl rfl) ?_
| refine p_p (zS rfl rfl rfl) ?_
| refine p_p (ps_add rfl rfl rfl aN) ?_
| refine p_p (zL rfl rfl) ?_
| refine p_p (ps_extract rfl rfl rfl) ?_
| refine p_p (ps_not rfl rfl) ?_
| refine p_p (ps_lit1 rfl rfl (by rfl) (by rfl)) ?_); refine ⟨_, aA, ?_⟩)
| refine o_nil ?_
| refine zX rfl ?_
| refine zW rfl ?_
| (refine zK rfl (fun hc => ?_) (fun hc => ?_) <;> try (exfalso; omega))
| refine zR ?_)
          all_goals try (exfalso; omega)
          exact zT (k + 1) (by omega) (by omega) aI ⟨rfl, rfl, trivial⟩ (zB rfl (hpLe_gone (zB rfl (zB (by rw [hks, List.map_append]; rfl) (zM _)))))
        | false =>
          rw [hf, if_neg Bool.false_ne_true, List.append_nil] at hks
          rw [hf] at e1
          repeat' (first
| refine g_seq ?_
| refine zJ ?_
| refine zC ?_
| refine zP (by kernel_rfl) (by kernel_rfl) ?_
| (refine o_go rfl ?_; (first
| refine p_p (zN rfl rfl rfl (by omega) rk (by exact rfl)) ?_
| refine p_p (zN rfl rfl rfl (by omega) ri (by exact rfl)) ?_
| refine p_p (zG rfl rfl aB (e1)) ?_
| refine p_p (zD rfl) ?_
| refine p_p (zA rfl) ?_
| refine p_p (zF rfl rfl) ?_
| refine p_p (zU rfl rfl rfl) ?_
| refine p_p (zS rfl rfl rfl) ?_
| refine p_p (ps_add rfl rfl rfl aN) ?_
| refine p_p (zL rfl rfl) ?_
| refine p_p (ps_extract rfl rfl rfl) ?_
| refine p_p (ps_not rfl rfl) ?_); refine ⟨_, aA, ?_⟩)
| refine o_nil ?_
| refine zW rfl ?_
| (refine zK rfl (fun hc => ?_) (fun hc => ?_) <;> try (exfalso; omega))
| refine zR ?_)
          all_goals try (exfalso; omega)
          exact zT (k + 1) (by omega) (by omega) aI ⟨rfl, rfl, trivial⟩ (zB rfl (hpLe_gone (zB rfl (zB (by rw [hks]) (zM _)))))
      · rw [show k = V.length by omega]
        repeat' ((fail_if_success (refine at_reg0 23 ?_)); (first
| refine g_seq ?_
| refine zC ?_
| (refine o_go rfl ?_; (first
| refine p_p (zD rfl) ?_
| refine p_p (zU rfl rfl rfl) ?_
| refine p_p (zS rfl rfl rfl) ?_); refine ⟨_, aA, ?_⟩)
| refine o_nil ?_
| (refine zK rfl (fun hc => ?_) (fun hc => ?_) <;> try (exfalso; omega))
| refine g_exit ?_))
        all_goals try (exfalso; omega)
        refine at_reg0 23 ?_
        refine g_view1 10 ⟨_, aA, ?_⟩
        repeat' (first
| refine zC ?_
| (refine o_go rfl ?_; (first
| refine p_e (by kernel_rfl) (e_append rfl rfl rfl rfl rfl rfl (one_one rfl) rfl (by rw [hrl, n_len_c, n_len_n]; omega) (by rw [hrl, n_len_c, n_len_n]; omega)) ?_
| refine p_p (zD rfl) ?_
| refine p_p (zA rfl) ?_
| refine p_p (ps_add rfl rfl rfl aN) ?_
| refine p_p (zH rfl rfl rfl rfl) ?_
| refine p_p (zE rfl rfl) ?_
| refine p_e rfl (e_store_boxC rfl rfl rfl rfl aJ rfl rfl) ?_
| refine p_p (ps_lit1 rfl rfl (by rfl) (by rfl)) ?_); refine ⟨_, aA, ?_⟩)
| refine o_nil ?_)
        all_goals try (exfalso; omega)
        exact zT (i + 2) (by omega) (by omega) aI ⟨rfl, trivial⟩ (zB rfl (hpLe_gone (zB (by rw [hsn, List.map_append]; rfl) (zM _))))
    · have hie : i + 1 = V.length := by omega
      rw [hie]
      repeat' ((fail_if_success (refine at_reg 24 ?_)); (first
| refine g_seq ?_
| refine zC ?_
| (refine o_go rfl ?_; (first
| refine p_p (zD rfl) ?_
| refine p_p (zU rfl rfl rfl) ?_
| refine p_p (zS rfl rfl rfl) ?_); refine ⟨_, aA, ?_⟩)
| refine o_nil ?_
| (refine zK rfl (fun hc => ?_) (fun hc => ?_) <;> try (exfalso; omega))
| refine g_exit ?_))
      all_goals try (exfalso; omega)
      refine g_freezeP 2 rfl ⟨_, by dsimp only [bitvec_to_nat, Nat.reduceAdd, Nat.reduceMul, Nat.reduceBEq, reduceCtorEq], ?_⟩
      refine g_viewBox 0 rfl ⟨_, by dsimp only [List.map_cons, List.map_nil, bitvec_to_nat, Nat.reduceAdd, Nat.reduceMul, Nat.reduceBEq, reduceCtorEq], ?_⟩
      refine g_settle 0 rfl (by dsimp only [setlP, setlA, setl1, setlH, List.map_cons, List.map_nil, bitvec_to_nat, Nat.reduceAdd, Nat.reduceMul, Nat.reduceBEq, reduceCtorEq]) ?_
      exact g_tail rfl ⟨aI, zM _⟩ hpart
theorem drawIA_c {l : List Int} (h : bytesOk l) : ∃ n ops, smA ops ∧ szN n ∧ PCalls Tryz.prog 112 [bytesP l] (algP n ops) := by
  obtain ⟨c', n, ops, -, hs, hz, hL⟩ := algebra_B (cu0_ok h) (by omega)
  refine ⟨n, ops, hs, hz, ?_⟩
  refine pcallsC Tryz.func112 rfl Tryz.ntmps112 rfl ?_
  simp only [List.length_cons, List.length_nil, Nat.reduceAdd, Nat.reduceSub, List.replicate_succ, List.replicate_zero, List.cons_append, List.nil_append]
  repeat' (first
| refine g_seq ?_
| refine zC ?_
| (refine o_go rfl ?_; (first
| refine p_e rfl (e_box rfl rfl) ?_
| refine p_e rfl (e_callL (n := 1) rfl rfl rfl aK rfl (by rfl) aR (hL)) ?_
| refine p_p (zD rfl) ?_
| refine p_p (zA rfl) ?_
| refine p_e rfl (zO rfl rfl rfl rfl aJ rfl rfl rfl) ?_
| refine p_e rfl (e_alloc rfl) ?_
| refine p_p (ps_build rfl rfl) ?_); refine ⟨_, aA, ?_⟩)
| refine o_nil ?_
| refine krc ?_
| refine krC rfl aJ ?_
| refine g_ret ?_)
  rfl
theorem drawAC_c {l : List Int} (h : bytesOk l) : ∃ n ops, smA ops ∧ szN n ∧ PCalls Tryz.prog 12 [bytesP l] (algP n ops) := by
  obtain ⟨n, ops, hs, hz, hc⟩ := drawIA_c h
  refine ⟨n, ops, hs, hz, ?_⟩
  refine pcallsC Tryz.func12 rfl Tryz.ntmps12 rfl ?_
  simp only [List.length_cons, List.length_nil, Nat.reduceAdd, Nat.reduceSub, List.replicate_succ, List.replicate_zero, List.cons_append, List.nil_append]
  repeat' (first
| refine g_seq ?_
| refine zC ?_
| (refine o_go rfl ?_; (first
| refine p_p (zG rfl rfl aB (hc)) ?_
| refine p_p (zD rfl) ?_
| refine p_e rfl (zO rfl rfl rfl rfl aJ rfl rfl rfl) ?_
| refine p_e rfl (e_alloc rfl) ?_); refine ⟨_, aA, ?_⟩)
| refine o_nil ?_
| refine krc ?_
| refine krC rfl aJ ?_
| refine g_ret ?_)
  rfl
theorem rbigZ_c (l : List Int) (_hl : l.length ≤ 9223372036854775807) : PCalls Tryz.prog 11 [bytesP l] (B (decide (65536 < (l.length : Int)))) := by
  refine pcalls1 Tryz.func11 rfl Tryz.ntmps11 rfl ?_
  simp only [List.length_cons, List.length_nil, Nat.reduceAdd, Nat.reduceSub, List.replicate_succ, List.replicate_zero, List.cons_append, List.nil_append]
  repeat' (first
| refine g_seq ?_
| refine zC ?_
| (refine o_go rfl ?_; (first
| refine p_p (zD rfl) ?_
| refine p_p (zA rfl) ?_
| refine p_p (zU rfl rfl rfl) ?_
| refine p_p (ps_gtr rfl rfl rfl) ?_); refine ⟨_, aA, ?_⟩)
| refine o_nil ?_
| refine kr1 ?_
| refine krB rfl ?_
| refine g_ret ?_)
  all_goals first | rfl | (exfalso; omega)
theorem law_cgl (l : List Int) (hl : l.length ≤ maxLen) (hby : ∀ i, i < l.length → 0 ≤ l.getD i 0 ∧ l.getD i 0 ≤ 255) : PCalls Tryz.prog 3 [bytesP l] (B true) := by
  refine pcalls1 Tryz.func3 rfl Tryz.ntmps3 rfl ?_
  simp only [List.length_cons, List.length_nil, Nat.reduceAdd, Nat.reduceSub, List.replicate_succ, List.replicate_zero, List.cons_append, List.nil_append]
  have hv := rbigZ_c l (Nat.le_trans hl (by decide))
  by_cases hbig : 65536 < (l.length : Int)
  · rw [decide_eq_true hbig] at hv
    repeat' (first
| refine g_seq ?_
| refine zC ?_
| (refine o_go rfl ?_; (first
| refine p_p (zG rfl rfl aB (hv)) ?_
| refine p_p (zD rfl) ?_
| refine p_p (zA rfl) ?_); refine ⟨_, aA, ?_⟩)
| refine o_nil ?_
| refine zX rfl ?_
| refine kr1 ?_
| refine krB rfl ?_
| refine g_ret ?_)
    all_goals rfl
  rw [decide_eq_false hbig] at hv
  have hB : bytesOk l := ⟨by omega, hby⟩
  obtain ⟨n, ops, hsm, hz, d1⟩ := drawAC_c hB
  have ho := hsm.ok
  have a1 := iac_c n ops ho
  have a2 := sac_c n ops ho
  cases hb : acB n ops with
  | false =>
    have hV : acV n ops = [] := by unfold acV; rw [hb, if_neg Bool.false_ne_true]
    rw [hb, hV] at a1 a2
    have v1 := rtable_c [] (by simp) (by simp)
    repeat' (first
| refine g_settle 0 rfl (by dsimp only [setlP, setl1, setlH, bitvec_to_nat, Nat.reduceAdd, Nat.reduceMul, Nat.reduceBEq, reduceCtorEq]) ?_
| refine g_seq ?_
| refine zC ?_
| (refine o_go rfl ?_; (first
| refine p_p (zG rfl rfl aB (hv)) ?_
| refine p_p (zG rfl rfl aB (d1)) ?_
| refine p_p (zG rfl rfl aB (a1)) ?_
| refine p_p (zG rfl rfl aB (a2)) ?_
| refine p_p (zG rfl rfl aB (v1)) ?_
| refine p_p (ps_neqBY rfl rfl rfl (by rfl)) ?_
| refine p_p (zD rfl) ?_
| refine p_p (zA rfl) ?_
| refine p_p (ps_load_agg rfl rfl aJ) ?_
| refine p_p (ps_extract rfl rfl rfl) ?_
| refine p_p (ps_not rfl rfl) ?_
| refine p_p (zQ rfl rfl) ?_
| refine p_e rfl (zO rfl rfl rfl rfl aJ rfl rfl rfl) ?_
| refine p_e rfl (e_alloc rfl) ?_); refine ⟨_, aA, ?_⟩)
| refine o_nil ?_
| (refine o_s rfl ?_; refine ⟨_, aA, ?_⟩)
| refine zX rfl ?_
| refine zW rfl ?_
| refine kr1 ?_
| refine krB rfl ?_
| refine zR ?_
| refine g_ret ?_)
    all_goals rfl
  | true =>
    have hg : algOk n ops = true := by unfold acB at hb; rw [Bool.and_eq_true] at hb; exact hb.1
    obtain ⟨m, rfl, hm0, hm8, h4, hin⟩ := algOk_facts hg
    have hV : acV (m : Int) ops = allL m ops := by unfold acV; rw [hb, if_pos rfl, Int.toNat_natCast]
    have h200 : (allL m ops).length ≤ 200 := by unfold acB at hb; rw [Bool.and_eq_true, decide_eq_true_eq, Int.toNat_natCast] at hb; exact hb.2
    have C := allL_clat hm0 hin
    have hpart := fun h10 => cl_t10 m ops hm0 hm8 ho hb C h10
    rw [hb, hV] at a1 a2
    have v1 := rtable_c (allL m ops) (by omega) (fun r hr => by rw [(allL_mem.1 hr).1.len]; omega)
    generalize allL m ops = V at *
    by_cases h10 : V.length ≤ 10
    · have hpart := hpart h10
      repeat' ((fail_if_success (refine at_reg1 10 ?_)); (first
| refine g_settle 0 rfl (by dsimp only [setlP, setl1, setlH, bitvec_to_nat, Nat.reduceAdd, Nat.reduceMul, Nat.reduceBEq, reduceCtorEq]) ?_
| refine g_seq ?_
| refine zC ?_
| (refine o_go rfl ?_; (first
| refine p_p (zG rfl rfl aB (hv)) ?_
| refine p_p (zG rfl rfl aB (d1)) ?_
| refine p_p (zG rfl rfl aB (a1)) ?_
| refine p_p (zG rfl rfl aB (a2)) ?_
| refine p_p (zG rfl rfl aB (v1)) ?_
| refine p_p (ps_neqBY rfl rfl rfl (by rfl)) ?_
| refine p_p (zD rfl) ?_
| refine p_p (zA rfl) ?_
| refine p_p (ps_load_agg rfl rfl aJ) ?_
| refine p_p (zU rfl rfl rfl) ?_
| refine p_p (ps_extract rfl rfl rfl) ?_
| refine p_p (ps_not rfl rfl) ?_
| refine p_p (zQ rfl rfl) ?_
| refine p_p (ps_gtr rfl rfl rfl) ?_
| refine p_e rfl (zO rfl rfl rfl rfl aJ rfl rfl rfl) ?_
| refine p_e rfl (e_alloc rfl) ?_); refine ⟨_, aA, ?_⟩)
| refine o_nil ?_
| refine zW rfl ?_
| (refine zK rfl (fun hc => ?_) (fun hc => ?_) <;> try (exfalso; omega))
| refine zR ?_))
      all_goals try (exfalso; omega)
      all_goals exact g_tail rfl ⟨aI, zM _⟩ hpart
    · repeat' ((fail_if_success (refine at_reg1 10 ?_)); (first
| refine g_settle 0 rfl (by dsimp only [setlP, setl1, setlH, bitvec_to_nat, Nat.reduceAdd, Nat.reduceMul, Nat.reduceBEq, reduceCtorEq]) ?_
| refine g_seq ?_
| refine zC ?_
| (refine o_go rfl ?_; (first
| refine p_p (zG rfl rfl aB (hv)) ?_
| refine p_p (zG rfl rfl aB (d1)) ?_
| refine p_p (zG rfl rfl aB (a1)) ?_
| refine p_p (zG rfl rfl aB (a2)) ?_
| refine p_p (zG rfl rfl aB (v1)) ?_
| refine p_p (ps_neqBY rfl rfl rfl (by rfl)) ?_
| refine p_p (zD rfl) ?_
| refine p_p (zA rfl) ?_
| refine p_p (ps_load_agg rfl rfl aJ) ?_
| refine p_p (zU rfl rfl rfl) ?_
| refine p_p (ps_extract rfl rfl rfl) ?_
| refine p_p (ps_not rfl rfl) ?_
| refine p_p (zQ rfl rfl) ?_
| refine p_p (ps_gtr rfl rfl rfl) ?_
| refine p_e rfl (zO rfl rfl rfl rfl aJ rfl rfl rfl) ?_
| refine p_e rfl (e_alloc rfl) ?_); refine ⟨_, aA, ?_⟩)
| refine o_nil ?_
| refine zW rfl ?_
| (refine zK rfl (fun hc => ?_) (fun hc => ?_) <;> try (exfalso; omega))
| refine kr1 ?_
| refine krB rfl ?_
| refine zR ?_
| refine g_ret ?_))
      all_goals first | rfl | (exfalso; omega)
end Go.Proofs.YtembaiccchgllaaGreat
