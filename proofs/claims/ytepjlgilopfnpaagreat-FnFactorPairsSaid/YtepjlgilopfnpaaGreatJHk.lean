/- Walks: tables out of digits, and affine operations, of the reference. -/
import Derived.Test.YtepjlgilopfnpaaGreatJGf
import Derived.Test.YtepjlgilopfnpaaGreatJKc
import Derived.Test.YtepjlgilopfnpaaGreatJGa
namespace Go.Proofs.YtepjlgilopfnpaaGreat
open Go Go.Pv Go.Proofs
set_option maxHeartbeats 32000000
set_option maxRecDepth 100000
attribute [local bitvec_to_nat] posI optP lendM1 lendMA lendMP killM1 killMA killMP hasI getO backM1 backMA backMP putL inpM pinM1 pinMA pinMP killR1 killRA killR

theorem agg2_le {p q q' : PV} (h : q.le q') : (PV.agg [p, q]).le (.agg [p, q']) := fun g v hv => by
 obtain ⟨vs, rfl, hl, hvv⟩ := VR.agg_inv hv
 refine .agg vs _ hl fun i r hr => ?_
 rcases i with _ | _ | i
 · exact hvv 0 r hr
 · simp at hr; subst hr; exact h _ _ (hvv 1 q rfl)
 · simp at hr
theorem pcalls_le2 {f : FuncId} {args : List PV} {q q' : PV} (h : PCalls Tryz.prog f args q) (hq : q.le q') : PCalls Tryz.prog f args q' := by
 unfold PCalls at h ⊢
 intro g w vs ha hv
 refine (h g w vs ha hv).mono fun e w' h => ?_
 obtain ⟨v, g', rfl, h1, h2, h3, h4, h5⟩ := h
 exact ⟨v, g', rfl, h1, h2, h3, h4, hq _ _ h5⟩
def rwH (ar : Int) (L : Nat → List Int) : Nat → List HO
 | 0 => [.box [I 0, nilV], .box [I ar, nilV]]
 | k + 1 => [.box [I 0, nilV], .box [I ar, .hp 2], .arr true 1 3 ((L (k + 1)).map I)]
def binX (s : ByteArray) (i : Nat) : Int := IntKind.i64.wrap (IntKind.u8.wrap (byteAt s i - 48))
def binL (s : ByteArray) (k : Nat) : List Int := (List.range k).map (binX s)
theorem binL_succ (s : ByteArray) (k : Nat) : binL s (k + 1) = binL s k ++ [binX s k] := by unfold binL; rw [List.range_succ, List.map_append]; rfl
theorem binL_len (s : ByteArray) (k : Nat) : (binL s k).length = k := by simp [binL]
abbrev binO (s : ByteArray) : OpD := ⟨2, binL s s.size⟩
theorem binary_c (s : ByteArray) (h0 : 0 < s.size) (hs : s.size ≤ 100) : PCalls Tryz.prog 174 [strP s] (opP (binO s)) := by
 refine pcallsC Tryz.func174 rfl Tryz.ntmps174 rfl ?_
 refine wF ?_
 repeat' (first
| refine wO ?_
| (refine o_go rfl ?_; (first
| refine wS ?_
| refine p_e rfl (zO rfl rfl rfl rfl aK rfl rfl rfl) ?_
| refine p_e rfl (e_alloc rfl) ?_
| refine p_p (ps_build rfl rfl) ?_); refine ⟨_, aB, ?_⟩))
 refine g_loopT (α := Nat) (fun i => [(4, I (i : Int))]) (fun i => rwH 2 (binL s) i) (fun i => i ≤ s.size) (fun i => s.size - i) 0 aH (Nat.zero_le _) ⟨rfl, trivial⟩ rfl ?_
 rintro i hi
 refine wH ?_
 cases i with
 | zero =>
  dsimp only [rwH]
  repeat' (first
| refine wO ?_
| (refine o_go rfl ?_; (first
| refine p_p (ps_len_str Tryz.underlying9 rfl rfl rfl) ?_
| refine wS ?_); refine ⟨_, aB, ?_⟩)
| (refine zK rfl ?_ ?_ <;> intro hc <;> try omega)
| refine wE ?_)
  all_goals try (exfalso; omega)
  refine g_region_drawZ [(0, some [2]), (2, some [2]), (3, some [2]), (4, some [2]), (5, some [2]), (6, some [2]), (7, some []), (1, none), (8, none), (9, none), (10, none)] [(8, 2), (10, 999999)] (fun _ => True) (by kernel_rfl) rfl (by kernel_rfl) ?_
  repeat' (first
| refine z_nil ?_
| ((first
| refine zV rfl rfl (fun hp hH => ps_index_str Tryz.underlying9 rfl rfl rfl zd zz) aJ aC zd aA ?_
| refine zV rfl rfl (fun hp hH => ps_subY rfl rfl rfl) aJ aC zd aA ?_
| refine zV rfl rfl (fun hp hH => ps_conv rfl Tryz.underlying3 rfl rfl) aJ aC zd aA ?_
| refine zV rfl rfl (fun _ _ => zD rfl) aJ aC zd aA ?_
| refine zV rfl rfl (fun _ _ => zE rfl rfl) aJ aC zd aA ?_
| refine zV rfl rfl (fun _ _ => ps_lit1 rfl rfl (by rfl) (by rfl)) aJ aC zd aA ?_
| refine z_eff rfl rfl aF (j_appendNil rfl rfl rfl rfl (one_one rfl) zd rfl zn zn zn) aG ?_
| refine z_eff rfl rfl aF (j_store_boxC rfl rfl rfl rfl aK rfl rfl) aG ?_
| refine z_eff rfl rfl aF (j_pure (zH rfl rfl rfl rfl)) aG ?_
| refine z_eff rfl rfl aF (j_pure (zE rfl rfl)) aG ?_); refine ⟨_, aP, ?_⟩))
  repeat' (first
| refine wO ?_
| (refine o_go rfl ?_; (first
| refine wS ?_); refine ⟨_, aB, ?_⟩))
  exact zT 1 (by omega) (by omega) aI ⟨rfl, trivial⟩ (zB rfl (zB rfl (zB rfl (zM _))))
 | succ i =>
  have hll : ((binL s (i + 1)).map I).length = i + 1 := by rw [List.length_map, binL_len]
  dsimp only [rwH]
  by_cases his : i + 1 < s.size
  · repeat' (first
| refine wO ?_
| (refine o_go rfl ?_; (first
| refine p_p (ps_len_str Tryz.underlying9 rfl rfl rfl) ?_
| refine wS ?_); refine ⟨_, aB, ?_⟩)
| (refine zK rfl ?_ ?_ <;> intro hc <;> try omega)
| refine wE ?_)
    all_goals try (exfalso; omega)
    refine g_region_drawZ [(0, some [2]), (2, some [2]), (3, some [2]), (4, some [2]), (5, some [2]), (6, some [2]), (7, some []), (1, none), (8, none), (9, none), (10, none)] [(8, 2), (10, 999999)] (fun _ => True) (by kernel_rfl) rfl (by kernel_rfl) ?_
    repeat' (first
| refine z_nil ?_
| ((first
| refine zV rfl rfl (fun hp hH => ps_index_str Tryz.underlying9 rfl rfl rfl zz (by rw [Int.toNat_natCast]; omega)) aJ aC zd aA ?_
| refine zV rfl rfl (fun hp hH => ps_subY rfl rfl rfl) aJ aC zd aA ?_
| refine zV rfl rfl (fun hp hH => ps_conv rfl Tryz.underlying3 rfl rfl) aJ aC zd aA ?_
| refine zV rfl rfl (fun _ _ => zD rfl) aJ aC zd aA ?_
| refine zV rfl rfl (fun _ _ => zE rfl rfl) aJ aC zd aA ?_
| refine zV rfl rfl (fun _ _ => ps_lit1 rfl rfl (by rfl) (by rfl)) aJ aC zd aA ?_
| refine z_eff rfl rfl aF (j_append rfl rfl rfl rfl rfl rfl (one_one rfl) rfl zn zn) aG ?_
| refine z_eff rfl rfl aF (j_store_boxC rfl rfl rfl rfl aK rfl rfl) aG ?_
| refine z_eff rfl rfl aF (j_pure (zH rfl rfl rfl rfl)) aG ?_
| refine z_eff rfl rfl aF (j_pure (zE rfl rfl)) aG ?_); refine ⟨_, aP, ?_⟩))
    repeat' (first
| refine wO ?_
| (refine o_go rfl ?_; (first
| refine wS ?_); refine ⟨_, aB, ?_⟩))
    refine zT (i + 2) (by omega) (by omega) aI ⟨rfl, trivial⟩ (zB rfl (zB rfl (zB ?_ (zM _))))
    rw [binL_succ s (i + 1), List.map_append]; rfl
  · have e : s.size = i + 1 := by omega
    unfold binO
    rw [e]
    repeat' (first
| refine wO ?_
| (refine o_go rfl ?_; (first
| refine p_p (ps_len_str Tryz.underlying9 rfl rfl rfl) ?_
| refine wS ?_
| refine p_e rfl (zO rfl rfl rfl rfl aK rfl rfl rfl) ?_); refine ⟨_, aB, ?_⟩)
| (refine zK rfl ?_ ?_ <;> intro hc <;> try omega)
| refine krc ?_
| refine krC rfl aK ?_
| refine wE ?_)
    all_goals first | rfl | (exfalso; omega)
def affX (n : Int) (i : Nat) : Int := ((i : Int) / (n * n) + n - (i : Int) / n % n + (i : Int) % n) % n
def affL (n : Int) (k : Nat) : List Int := (List.range k).map (affX n)
theorem affL_succ (n : Int) (k : Nat) : affL n (k + 1) = affL n k ++ [affX n k] := by unfold affL; rw [List.range_succ, List.map_append]; rfl
theorem affL_len (n : Int) (k : Nat) : (affL n k).length = k := by simp [affL]
abbrev affO (n : Nat) : OpD := ⟨3, affL n (n * n * n)⟩
theorem affine2_c : PCalls Tryz.prog 175 [I 2] (opP (affO 2)) := by
 refine pcallsC Tryz.func175 rfl Tryz.ntmps175 rfl ?_
 refine wF ?_
 repeat' (first
| refine wO ?_
| (refine o_go rfl ?_; (first
| refine wS ?_
| refine p_e rfl (zO rfl rfl rfl rfl aK rfl rfl rfl) ?_
| refine p_e rfl (e_alloc rfl) ?_
| refine p_p (ps_build rfl rfl) ?_); refine ⟨_, aB, ?_⟩))
 refine g_loopT (α := Nat) (fun i => [(4, I (i : Int))]) (fun i => rwH 3 (affL 2) i) (fun i => i ≤ 8) (fun i => 8 - i) 0 aH (Nat.zero_le _) ⟨rfl, trivial⟩ rfl ?_
 rintro i hi
 refine wH ?_
 cases i with
 | zero =>
  dsimp only [rwH]
  repeat' (first
| refine wO ?_
| (refine o_go rfl ?_; (first
| refine p_p (ps_mul rfl rfl rfl aO) ?_
| refine wS ?_); refine ⟨_, aB, ?_⟩)
| refine wE ?_)
  all_goals try (exfalso; omega)
  refine g_region_drawZ [(0, some [2]), (2, some [2]), (3, some [2]), (4, some [2]), (5, some [2]), (6, some [2]), (7, some [2]), (8, some [2]), (9, some [2]), (10, some [2]), (11, some [2]), (12, some [2]), (13, some [2]), (14, some [2]), (15, some [2]), (16, some [2]), (17, some [2]), (18, some [2]), (19, some [2]), (20, some [2]), (21, some []), (1, none), (22, none), (23, none), (24, none)] [(22, 2), (24, 999999)] (fun _ => True) (by kernel_rfl) rfl (by kernel_rfl) ?_
  repeat' (first
| refine z_nil ?_
| ((first
| refine zV rfl rfl (fun hp hH => ps_mul rfl rfl rfl aO) aJ aC zd aA ?_
| refine zV rfl rfl (fun hp hH => ps_quo rfl rfl rfl zz zz zz) aJ aC zd aA ?_
| refine zV rfl rfl (fun hp hH => ps_rem rfl rfl rfl zz zz) aJ aC zd aA ?_
| refine zV rfl rfl (fun _ _ => zD rfl) aJ aC zd aA ?_
| refine zV rfl rfl (fun _ _ => ps_add rfl rfl rfl aO) aJ aC zd aA ?_
| refine zV rfl rfl (fun _ _ => ps_sub rfl rfl rfl aO) aJ aC zd aA ?_
| refine zV rfl rfl (fun _ _ => zE rfl rfl) aJ aC zd aA ?_
| refine zV rfl rfl (fun _ _ => ps_lit1 rfl rfl (by rfl) (by rfl)) aJ aC zd aA ?_
| refine z_eff rfl rfl aF (j_appendNil rfl rfl rfl rfl (one_one rfl) zd rfl zn zn zn) aG ?_
| refine z_eff rfl rfl aF (j_store_boxC rfl rfl rfl rfl aK rfl rfl) aG ?_
| refine z_eff rfl rfl aF (j_pure (zH rfl rfl rfl rfl)) aG ?_
| refine z_eff rfl rfl aF (j_pure (zE rfl rfl)) aG ?_); refine ⟨_, aP, ?_⟩))
  repeat' (first
| refine wO ?_
| (refine o_go rfl ?_; (first
| refine wS ?_); refine ⟨_, aB, ?_⟩))
  exact zT 1 (by omega) (by omega) aI ⟨rfl, trivial⟩ (zB rfl (zB rfl (zB rfl (zM _))))
 | succ i =>
  have hll : ((affL 2 (i + 1)).map I).length = i + 1 := by rw [List.length_map, affL_len]
  dsimp only [rwH]
  by_cases his : i + 1 < 8
  · repeat' (first
| refine wO ?_
| (refine o_go rfl ?_; (first
| refine p_p (ps_mul rfl rfl rfl aO) ?_
| refine wS ?_); refine ⟨_, aB, ?_⟩)
| (refine zK rfl ?_ ?_ <;> intro hc <;> try omega)
| refine wE ?_)
    all_goals try (exfalso; omega)
    refine g_region_drawZ [(0, some [2]), (2, some [2]), (3, some [2]), (4, some [2]), (5, some [2]), (6, some [2]), (7, some [2]), (8, some [2]), (9, some [2]), (10, some [2]), (11, some [2]), (12, some [2]), (13, some [2]), (14, some [2]), (15, some [2]), (16, some [2]), (17, some [2]), (18, some [2]), (19, some [2]), (20, some [2]), (21, some []), (1, none), (22, none), (23, none), (24, none)] [(22, 2), (24, 999999)] (fun _ => True) (by kernel_rfl) rfl (by kernel_rfl) ?_
    repeat' (first
| refine z_nil ?_
| ((first
| refine zV rfl rfl (fun hp hH => ps_mul rfl rfl rfl aO) aJ aC zd aA ?_
| refine zV rfl rfl (fun hp hH => ps_quo rfl rfl rfl zz zz zz) aJ aC zd aA ?_
| refine zV rfl rfl (fun hp hH => ps_rem rfl rfl rfl zz zz) aJ aC zd aA ?_
| refine zV rfl rfl (fun _ _ => zD rfl) aJ aC zd aA ?_
| refine zV rfl rfl (fun _ _ => ps_add rfl rfl rfl aO) aJ aC zd aA ?_
| refine zV rfl rfl (fun _ _ => ps_sub rfl rfl rfl aO) aJ aC zd aA ?_
| refine zV rfl rfl (fun _ _ => zE rfl rfl) aJ aC zd aA ?_
| refine zV rfl rfl (fun _ _ => ps_lit1 rfl rfl (by rfl) (by rfl)) aJ aC zd aA ?_
| refine z_eff rfl rfl aF (j_append rfl rfl rfl rfl rfl rfl (one_one rfl) rfl zn zn) aG ?_
| refine z_eff rfl rfl aF (j_store_boxC rfl rfl rfl rfl aK rfl rfl) aG ?_
| refine z_eff rfl rfl aF (j_pure (zH rfl rfl rfl rfl)) aG ?_
| refine z_eff rfl rfl aF (j_pure (zE rfl rfl)) aG ?_); refine ⟨_, aP, ?_⟩))
    repeat' (first
| refine wO ?_
| (refine o_go rfl ?_; (first
| refine wS ?_); refine ⟨_, aB, ?_⟩))
    refine zT (i + 2) (by omega) (by omega) aI ⟨rfl, trivial⟩ (zB rfl (zB rfl (zB ?_ (zM _))))
    rw [affL_succ 2 (i + 1), List.map_append]; rfl
  · obtain rfl : i = 7 := by omega
    repeat' (first
| refine wO ?_
| (refine o_go rfl ?_; (first
| refine p_p (ps_mul rfl rfl rfl aO) ?_
| refine wS ?_
| refine p_e rfl (zO rfl rfl rfl rfl aK rfl rfl rfl) ?_); refine ⟨_, aB, ?_⟩)
| refine krc ?_
| refine krC rfl aK ?_
| refine wE ?_)
    all_goals first | rfl | (exfalso; omega)
theorem affine3_c : PCalls Tryz.prog 175 [I 3] (opP (affO 3)) := by
 refine pcallsC Tryz.func175 rfl Tryz.ntmps175 rfl ?_
 refine wF ?_
 repeat' (first
| refine wO ?_
| (refine o_go rfl ?_; (first
| refine wS ?_
| refine p_e rfl (zO rfl rfl rfl rfl aK rfl rfl rfl) ?_
| refine p_e rfl (e_alloc rfl) ?_
| refine p_p (ps_build rfl rfl) ?_); refine ⟨_, aB, ?_⟩))
 refine g_loopT (α := Nat) (fun i => [(4, I (i : Int))]) (fun i => rwH 3 (affL 3) i) (fun i => i ≤ 27) (fun i => 27 - i) 0 aH (Nat.zero_le _) ⟨rfl, trivial⟩ rfl ?_
 rintro i hi
 refine wH ?_
 cases i with
 | zero =>
  dsimp only [rwH]
  repeat' (first
| refine wO ?_
| (refine o_go rfl ?_; (first
| refine p_p (ps_mul rfl rfl rfl aO) ?_
| refine wS ?_); refine ⟨_, aB, ?_⟩)
| refine wE ?_)
  all_goals try (exfalso; omega)
  refine g_region_drawZ [(0, some [2]), (2, some [2]), (3, some [2]), (4, some [2]), (5, some [2]), (6, some [2]), (7, some [2]), (8, some [2]), (9, some [2]), (10, some [2]), (11, some [2]), (12, some [2]), (13, some [2]), (14, some [2]), (15, some [2]), (16, some [2]), (17, some [2]), (18, some [2]), (19, some [2]), (20, some [2]), (21, some []), (1, none), (22, none), (23, none), (24, none)] [(22, 2), (24, 999999)] (fun _ => True) (by kernel_rfl) rfl (by kernel_rfl) ?_
  repeat' (first
| refine z_nil ?_
| ((first
| refine zV rfl rfl (fun hp hH => ps_mul rfl rfl rfl aO) aJ aC zd aA ?_
| refine zV rfl rfl (fun hp hH => ps_quo rfl rfl rfl zz zz zz) aJ aC zd aA ?_
| refine zV rfl rfl (fun hp hH => ps_rem rfl rfl rfl zz zz) aJ aC zd aA ?_
| refine zV rfl rfl (fun _ _ => zD rfl) aJ aC zd aA ?_
| refine zV rfl rfl (fun _ _ => ps_add rfl rfl rfl aO) aJ aC zd aA ?_
| refine zV rfl rfl (fun _ _ => ps_sub rfl rfl rfl aO) aJ aC zd aA ?_
| refine zV rfl rfl (fun _ _ => zE rfl rfl) aJ aC zd aA ?_
| refine zV rfl rfl (fun _ _ => ps_lit1 rfl rfl (by rfl) (by rfl)) aJ aC zd aA ?_
| refine z_eff rfl rfl aF (j_appendNil rfl rfl rfl rfl (one_one rfl) zd rfl zn zn zn) aG ?_
| refine z_eff rfl rfl aF (j_store_boxC rfl rfl rfl rfl aK rfl rfl) aG ?_
| refine z_eff rfl rfl aF (j_pure (zH rfl rfl rfl rfl)) aG ?_
| refine z_eff rfl rfl aF (j_pure (zE rfl rfl)) aG ?_); refine ⟨_, aP, ?_⟩))
  repeat' (first
| refine wO ?_
| (refine o_go rfl ?_; (first
| refine wS ?_); refine ⟨_, aB, ?_⟩))
  exact zT 1 (by omega) (by omega) aI ⟨rfl, trivial⟩ (zB rfl (zB rfl (zB rfl (zM _))))
 | succ i =>
  have hll : ((affL 3 (i + 1)).map I).length = i + 1 := by rw [List.length_map, affL_len]
  dsimp only [rwH]
  by_cases his : i + 1 < 27
  · repeat' (first
| refine wO ?_
| (refine o_go rfl ?_; (first
| refine p_p (ps_mul rfl rfl rfl aO) ?_
| refine wS ?_); refine ⟨_, aB, ?_⟩)
| (refine zK rfl ?_ ?_ <;> intro hc <;> try omega)
| refine wE ?_)
    all_goals try (exfalso; omega)
    refine g_region_drawZ [(0, some [2]), (2, some [2]), (3, some [2]), (4, some [2]), (5, some [2]), (6, some [2]), (7, some [2]), (8, some [2]), (9, some [2]), (10, some [2]), (11, some [2]), (12, some [2]), (13, some [2]), (14, some [2]), (15, some [2]), (16, some [2]), (17, some [2]), (18, some [2]), (19, some [2]), (20, some [2]), (21, some []), (1, none), (22, none), (23, none), (24, none)] [(22, 2), (24, 999999)] (fun _ => True) (by kernel_rfl) rfl (by kernel_rfl) ?_
    repeat' (first
| refine z_nil ?_
| ((first
| refine zV rfl rfl (fun hp hH => ps_mul rfl rfl rfl aO) aJ aC zd aA ?_
| refine zV rfl rfl (fun hp hH => ps_quo rfl rfl rfl zz zz zz) aJ aC zd aA ?_
| refine zV rfl rfl (fun hp hH => ps_rem rfl rfl rfl zz zz) aJ aC zd aA ?_
| refine zV rfl rfl (fun _ _ => zD rfl) aJ aC zd aA ?_
| refine zV rfl rfl (fun _ _ => ps_add rfl rfl rfl aO) aJ aC zd aA ?_
| refine zV rfl rfl (fun _ _ => ps_sub rfl rfl rfl aO) aJ aC zd aA ?_
| refine zV rfl rfl (fun _ _ => zE rfl rfl) aJ aC zd aA ?_
| refine zV rfl rfl (fun _ _ => ps_lit1 rfl rfl (by rfl) (by rfl)) aJ aC zd aA ?_
| refine z_eff rfl rfl aF (j_append rfl rfl rfl rfl rfl rfl (one_one rfl) rfl zn zn) aG ?_
| refine z_eff rfl rfl aF (j_store_boxC rfl rfl rfl rfl aK rfl rfl) aG ?_
| refine z_eff rfl rfl aF (j_pure (zH rfl rfl rfl rfl)) aG ?_
| refine z_eff rfl rfl aF (j_pure (zE rfl rfl)) aG ?_); refine ⟨_, aP, ?_⟩))
    repeat' (first
| refine wO ?_
| (refine o_go rfl ?_; (first
| refine wS ?_); refine ⟨_, aB, ?_⟩))
    refine zT (i + 2) (by omega) (by omega) aI ⟨rfl, trivial⟩ (zB rfl (zB rfl (zB ?_ (zM _))))
    rw [affL_succ 3 (i + 1), List.map_append]; rfl
  · obtain rfl : i = 26 := by omega
    repeat' (first
| refine wO ?_
| (refine o_go rfl ?_; (first
| refine p_p (ps_mul rfl rfl rfl aO) ?_
| refine wS ?_
| refine p_e rfl (zO rfl rfl rfl rfl aK rfl rfl rfl) ?_); refine ⟨_, aB, ?_⟩)
| refine krc ?_
| refine krC rfl aK ?_
| refine wE ?_)
    all_goals first | rfl | (exfalso; omega)
end Go.Proofs.YtepjlgilopfnpaaGreat
