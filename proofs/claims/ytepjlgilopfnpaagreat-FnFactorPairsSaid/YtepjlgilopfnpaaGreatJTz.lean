/- Plain: lists of factor pairs. -/
import Derived.Test.YtepjlgilopfnpaaGreatJTx
import Derived.Test.YtepjlgilopfnpaaGreatJTc
namespace Go.Proofs.YtepjlgilopfnpaaGreat
open Go Go.Pv Go.Proofs

/-! ### Lists of pairs -/
abbrev prsL6 (L : List (Nat × Nat)) : PV := .sl 2 none (L.map prP)
def fpI (n : Nat) (V : List (List Int)) (i k : Nat) : List (Nat × Nat) := ((List.range k).filter fun k => fpB n (V.getD i []) (V.getD (i + k) [])).map fun k => (i, i + k)
def fpK (n : Nat) (V : List (List Int)) (i : Nat) : List (Nat × Nat) := (List.range i).flatMap fun i => fpI n V i (V.length - i)
def fpLi (n : Nat) (V : List (List Int)) : List (Nat × Nat) := fpK n V V.length
def fpJ (n : Nat) (V : List (List Int)) (i k : Nat) : List (Nat × Nat) := fpK n V i ++ fpI n V i k
theorem fpK_succ (n : Nat) (V : List (List Int)) (i : Nat) : fpK n V (i + 1) = fpK n V i ++ fpI n V i (V.length - i) := by
 unfold fpK; rw [List.range_succ, List.flatMap_append]; simp
theorem fpJ_zero (n : Nat) (V : List (List Int)) (i : Nat) : fpJ n V i 0 = fpK n V i := by unfold fpJ fpI; simp
theorem fpJ_end (n : Nat) (V : List (List Int)) (i : Nat) : fpJ n V i (V.length - i) = fpK n V (i + 1) := by rw [fpK_succ]; rfl
theorem fpJ_succ (n : Nat) (V : List (List Int)) (i k : Nat) : fpJ n V i (k + 1) = fpJ n V i k ++ if fpB n (V.getD i []) (V.getD (i + k) []) then [(i, i + k)] else [] := by
 unfold fpJ fpI
 rw [List.range_succ, List.filter_append, List.map_append, List.append_assoc]
 congr 2
 cases hc : fpB n (V.getD i []) (V.getD (i + k) []) with
 | true => simp only [List.filter, hc]; rfl
 | false => simp only [List.filter, hc]; rfl
theorem fpI_len (n : Nat) (V : List (List Int)) (i k : Nat) : (fpI n V i k).length ≤ k := by
 unfold fpI
 rw [List.length_map]
 exact Nat.le_trans (List.length_filter_le ..) (by simp)
theorem fpK_len (n : Nat) (V : List (List Int)) : ∀ i, (fpK n V i).length ≤ i * V.length
 | 0 => by simp [fpK]
 | i + 1 => by
  have h1 := fpK_len n V i
  have h2 := fpI_len n V i (V.length - i)
  rw [fpK_succ, List.length_append, Nat.add_mul]
  omega
theorem fpJ_len {n : Nat} {V : List (List Int)} {i k : Nat} (hi : i ≤ V.length) (hk : k ≤ V.length) (hV : V.length ≤ 200) : (fpJ n V i k).length ≤ 41000 := by
 have h1 := fpK_len n V i
 have h2 := fpI_len n V i k
 have h3 : i * V.length ≤ 200 * 200 := Nat.mul_le_mul (by omega) hV
 unfold fpJ
 rw [List.length_append]; omega
end Go.Proofs.YtepjlgilopfnpaaGreat
/- Walks: all factor pairs, the first proper one, both sides. -/
namespace Go.Proofs.YtepjlgilopfnpaaGreat
open Go Go.Pv Go.Proofs
set_option maxHeartbeats 32000000
set_option maxRecDepth 100000

theorem ifps_c (n : Nat) (V : List (List Int)) (hn : n ≤ 1000) (hV : ∀ p ∈ V, Pt n p) (h200 : V.length ≤ 200) : PCalls Tryz.prog 63 [intss V] (prsL6 (fpLi n V)) := by
 have hF := fun p q (hp : Pt n p) (hq : Pt n q) => ifp_c n p q hn hp hq
 refine pcalls1 Tryz.func63 rfl Tryz.ntmps63 rfl ?_
 refine wF ?_
 repeat' (first
| refine wO ?_
| (refine o_go rfl ?_; (first
| refine wS ?_
| refine p_e rfl (e_lit0 rfl zd) ?_); refine ⟨_, aB, ?_⟩))
 refine g_loopF (α := Nat) [6] (fun i => [(3, .hp 0), (9, I (i : Int))]) (fun i => [prOF (fpK n V i)]) (fun i => i ≤ V.length) (fun i => V.length - i) 0 aH (Nat.zero_le _) ⟨rfl, rfl, trivial⟩ rfl ?_
 rintro i hi
 refine wH ?_
 by_cases hil : i < V.length
 · have ri := rows_at hil
   have pi := hV _ (rows_mem hil)
   have hJ0 := fpJ_zero n V i
   have hJe := fpJ_end n V i
   rw [← hJ0]
   obtain ⟨p, hpe⟩ : ∃ p, p = V.getD i [] := ⟨_, rfl⟩
   rw [← hpe] at ri pi
   repeat' (first
| refine wO ?_
| (refine o_go rfl ?_; (first
| refine wS ?_); refine ⟨_, aB, ?_⟩)
| (refine zK rfl ?_ ?_ <;> intro hc <;> try omega)
| refine wE ?_)
   all_goals try (exfalso; omega)
   refine g_loopF (α := Nat) [] (fun k => [(3, .hp 0), (5, I ((i + k : Nat) : Int))]) (fun k => [prOF (fpJ n V i k)]) (fun k => i + k ≤ V.length) (fun k => V.length - k) 0 aH (by omega) ⟨rfl, vI (by omega), trivial⟩ rfl ?_
   rintro k hk
   refine wH ?_
   by_cases hkl : i + k < V.length
   · have hJs := fpJ_succ n V i k
     rw [← hpe] at hJs
     have hJl := fpJ_len (n := n) (i := i) (k := k) hi (by omega) h200
     have rk := rows_at (V := V) (k := i + k) (by omega)
     have pk := hV _ (rows_mem (V := V) (k := i + k) (by omega))
     have hfc := hF _ _ pi pk
     have hll : ((fpJ n V i k).map prP).length ≤ 41000 := by rw [List.length_map]; exact hJl
     have hik : ((i + k : Nat) : Int) = (i : Int) + (k : Int) := by rw [Int.natCast_add]
     generalize fpJ n V i k = L at *
     generalize V.getD (i + k) [] = q at *
     cases hc0 : fpB n p q with
     | false =>
      rw [hc0] at hfc
      rw [hc0, if_neg Bool.false_ne_true, List.append_nil] at hJs
      repeat' (first
| refine wO ?_
| refine zP zk zk ?_
| (refine o_go rfl ?_; (first
| refine p_p (zN rfl rfl rfl zz ri ze) ?_
| refine p_p (zN rfl rfl rfl zz rk ze) ?_
| refine p_p (zG rfl rfl aD (hfc)) ?_
| refine wS ?_); refine ⟨_, aB, ?_⟩)
| (refine zK rfl ?_ ?_ <;> intro hc <;> try omega)
| refine wE ?_)
      all_goals try (exfalso; omega)
      exact zT (k + 1) (by omega) (by omega) aI ⟨rfl, vI (by omega), trivial⟩ (zB (by rw [hJs]) (zM _))
     | true =>
      rw [hc0] at hfc
      rw [hc0, if_pos rfl] at hJs
      repeat' (first
| refine wO ?_
| refine zP zk zk ?_
| (refine o_go rfl ?_; (first
| refine p_p (zN rfl rfl rfl zz ri ze) ?_
| refine p_p (zN rfl rfl rfl zz rk ze) ?_
| refine p_p (zG rfl rfl aD (hfc)) ?_
| refine p_p (ps_buildArr rfl rfl) ?_
| refine p_p (ps_litA [I (i : Int), I ((i + k : Nat) : Int)] rfl rfl (by rfl) zd zd) ?_
| refine p_e zk (e_append rfl rfl rfl rfl rfl rfl (one_ag rfl) rfl zn zn) ?_
| refine wS ?_); refine ⟨_, aB, ?_⟩)
| (refine zK rfl ?_ ?_ <;> intro hc <;> try omega)
| refine wE ?_)
      all_goals try (exfalso; omega)
      refine zT (k + 1) (by omega) (by omega) aI ⟨rfl, vI (by omega), trivial⟩ (zB ?_ (zM _))
      rw [hJs]
      show HO.arr false 2 _ _ = HO.arr false 2 _ ((L ++ [(i, i + k)]).map prP)
      rw [List.map_append]; rfl
   · rw [show k = V.length - i by omega, hJe]
     repeat' (first
| refine wO ?_
| (refine o_go rfl ?_; (first
| refine wS ?_); refine ⟨_, aB, ?_⟩)
| (refine zK rfl ?_ ?_ <;> intro hc <;> try omega)
| refine wE ?_)
     all_goals try (exfalso; omega)
     exact zT (K := fun _ _ => True) (i + 1) (by omega) (by omega) aI ⟨rfl, rfl, trivial⟩ (hpLe_refl _)
 · rw [show i = V.length by omega]
   repeat' (first
| refine wO ?_
| (refine o_go rfl ?_; (first
| refine wS ?_); refine ⟨_, aB, ?_⟩)
| (refine zK rfl ?_ ?_ <;> intro hc <;> try omega)
| refine kr1 ?_
| refine krS rfl ?_
| refine wE ?_)
   all_goals first | rfl | (exfalso; omega)
theorem sfps_c (n : Nat) (V : List (List Int)) (hn0 : 0 < n) (hn : n ≤ 1000) (hV : ∀ p ∈ V, Pt n p) (h200 : V.length ≤ 200) : PCalls Tryz.prog 65 [intss V] (prsL6 (fpLi n V)) := by
 have hF : ∀ p q, Pt n p → Pt n q → PCalls Tryz.prog 119 [ints p, ints q] (B (fpB n p q)) := fun p q hp hq => by
  rw [← sf_fp hn0 hp hq]; exact sl10f_c n p q hn hp hq
 refine pcalls1 Tryz.func65 rfl Tryz.ntmps65 rfl ?_
 refine wF ?_
 repeat' (first
| refine wO ?_
| (refine o_go rfl ?_; (first
| refine wS ?_
| refine p_e rfl (e_lit0 rfl zd) ?_); refine ⟨_, aB, ?_⟩))
 refine g_loopF (α := Nat) [6] (fun i => [(3, .hp 0), (4, I (i : Int))]) (fun i => [prOF (fpK n V i)]) (fun i => i ≤ V.length) (fun i => V.length - i) 0 aH (Nat.zero_le _) ⟨rfl, rfl, trivial⟩ rfl ?_
 rintro i hi
 refine wH ?_
 by_cases hil : i < V.length
 · have ri := rows_at hil
   have pi := hV _ (rows_mem hil)
   have hJ0 := fpJ_zero n V i
   have hJe := fpJ_end n V i
   rw [← hJ0]
   obtain ⟨p, hpe⟩ : ∃ p, p = V.getD i [] := ⟨_, rfl⟩
   rw [← hpe] at ri pi
   repeat' (first
| refine wO ?_
| (refine o_go rfl ?_; (first
| refine wS ?_); refine ⟨_, aB, ?_⟩)
| (refine zK rfl ?_ ?_ <;> intro hc <;> try omega)
| refine wE ?_)
   all_goals try (exfalso; omega)
   refine g_loopF (α := Nat) [] (fun k => [(3, .hp 0), (5, I ((i + k : Nat) : Int))]) (fun k => [prOF (fpJ n V i k)]) (fun k => i + k ≤ V.length) (fun k => V.length - k) 0 aH (by omega) ⟨rfl, vI (by omega), trivial⟩ rfl ?_
   rintro k hk
   refine wH ?_
   by_cases hkl : i + k < V.length
   · have hJs := fpJ_succ n V i k
     rw [← hpe] at hJs
     have hJl := fpJ_len (n := n) (i := i) (k := k) hi (by omega) h200
     have rk := rows_at (V := V) (k := i + k) (by omega)
     have pk := hV _ (rows_mem (V := V) (k := i + k) (by omega))
     have hfc := hF _ _ pi pk
     have hll : ((fpJ n V i k).map prP).length ≤ 41000 := by rw [List.length_map]; exact hJl
     have hik : ((i + k : Nat) : Int) = (i : Int) + (k : Int) := by rw [Int.natCast_add]
     generalize fpJ n V i k = L at *
     generalize V.getD (i + k) [] = q at *
     cases hc0 : fpB n p q with
     | false =>
      rw [hc0] at hfc
      rw [hc0, if_neg Bool.false_ne_true, List.append_nil] at hJs
      repeat' (first
| refine wO ?_
| refine zP zk zk ?_
| (refine o_go rfl ?_; (first
| refine p_p (zN rfl rfl rfl zz ri ze) ?_
| refine p_p (zN rfl rfl rfl zz rk ze) ?_
| refine p_p (zG rfl rfl aD (hfc)) ?_
| refine wS ?_); refine ⟨_, aB, ?_⟩)
| (refine zK rfl ?_ ?_ <;> intro hc <;> try omega)
| refine wE ?_)
      all_goals try (exfalso; omega)
      exact zT (k + 1) (by omega) (by omega) aI ⟨rfl, vI (by omega), trivial⟩ (zB (by rw [hJs]) (zM _))
     | true =>
      rw [hc0] at hfc
      rw [hc0, if_pos rfl] at hJs
      repeat' (first
| refine wO ?_
| refine zP zk zk ?_
| (refine o_go rfl ?_; (first
| refine p_p (zN rfl rfl rfl zz ri ze) ?_
| refine p_p (zN rfl rfl rfl zz rk ze) ?_
| refine p_p (zG rfl rfl aD (hfc)) ?_
| refine p_p (ps_buildArr rfl rfl) ?_
| refine p_p (ps_litA [I (i : Int), I ((i + k : Nat) : Int)] rfl rfl (by rfl) zd zd) ?_
| refine p_e zk (e_append rfl rfl rfl rfl rfl rfl (one_ag rfl) rfl zn zn) ?_
| refine wS ?_); refine ⟨_, aB, ?_⟩)
| (refine zK rfl ?_ ?_ <;> intro hc <;> try omega)
| refine wE ?_)
      all_goals try (exfalso; omega)
      refine zT (k + 1) (by omega) (by omega) aI ⟨rfl, vI (by omega), trivial⟩ (zB ?_ (zM _))
      rw [hJs]
      show HO.arr false 2 _ _ = HO.arr false 2 _ ((L ++ [(i, i + k)]).map prP)
      rw [List.map_append]; rfl
   · rw [show k = V.length - i by omega, hJe]
     repeat' (first
| refine wO ?_
| (refine o_go rfl ?_; (first
| refine wS ?_); refine ⟨_, aB, ?_⟩)
| (refine zK rfl ?_ ?_ <;> intro hc <;> try omega)
| refine wE ?_)
     all_goals try (exfalso; omega)
     exact zT (K := fun _ _ => True) (i + 1) (by omega) (by omega) aI ⟨rfl, rfl, trivial⟩ (hpLe_refl _)
 · rw [show i = V.length by omega]
   repeat' (first
| refine wO ?_
| (refine o_go rfl ?_; (first
| refine wS ?_); refine ⟨_, aB, ?_⟩)
| (refine zK rfl ?_ ?_ <;> intro hc <;> try omega)
| refine kr1 ?_
| refine krS rfl ?_
| refine wE ?_)
   all_goals first | rfl | (exfalso; omega)
end Go.Proofs.YtepjlgilopfnpaaGreat
/- Walks: proper factor pairs, factor pairs of an algebra, both sides. -/
namespace Go.Proofs.YtepjlgilopfnpaaGreat
open Go Go.Pv Go.Proofs
set_option maxHeartbeats 32000000
set_option maxRecDepth 100000

def ppO (n : Nat) (V : List (List Int)) : Option (Nat × Nat) := (fpLi n V).find? fun ik => decide (0 < ik.1)
def ppP (n : Nat) (V : List (List Int)) : PV := match ppO n V with
 | some ik => prP ik
 | none => .agg [I 0, I 0]
theorem prs_at {L : List (Nat × Nat)} {k : Nat} (h : k < L.length) : (L.map prP)[((k : Nat) : Int).toNat]? = some (prP (L.getD k (0, 0))) := by
 rw [Int.toNat_natCast, List.getElem?_map, List.getElem?_eq_getElem h, List.getD_eq_getElem?_getD, List.getElem?_eq_getElem h]; rfl
theorem find_none {L : List (Nat × Nat)} {f : Nat × Nat → Bool} (h : ∀ k, k < L.length → f (L.getD k (0, 0)) = false) : L.find? f = none := by
 rw [List.find?_eq_none]
 intro x hx
 obtain ⟨k, hk, rfl⟩ := List.getElem_of_mem hx
 have := h k hk
 rw [List.getD_eq_getElem?_getD, List.getElem?_eq_getElem hk] at this
 show ¬ f L[k] = true
 rw [show f L[k] = false from this]; exact Bool.false_ne_true
theorem find_at : ∀ {L : List (Nat × Nat)} {f : Nat × Nat → Bool} {k : Nat}, k < L.length → f (L.getD k (0, 0)) = true → (∀ j, j < k → f (L.getD j (0, 0)) = false) → L.find? f = some (L.getD k (0, 0))
 | [], _, _, h, _, _ => absurd h (Nat.not_lt_zero _)
 | a :: L, f, 0, _, h1, _ => by
  have h1 : f a = true := h1
  rw [List.find?_cons, h1]; rfl
 | a :: L, f, k + 1, h, h1, h2 => by
  have h0 : f a = false := h2 0 (Nat.succ_pos _)
  rw [List.find?_cons, h0]
  exact find_at (L := L) (k := k) (by simpa using h) h1 (fun j hj => h2 (j + 1) (by omega))
theorem ipp_c (n : Nat) (V : List (List Int)) (hn : n ≤ 1000) (hV : ∀ p ∈ V, Pt n p) (h200 : V.length ≤ 200) : PCalls Tryz.prog 74 [intss V] (.tup [ppP n V, B (ppO n V).isSome]) := by
 have h1 := ifps_c n V hn hV h200
 have hl : (fpLi n V).length ≤ 40000 := Nat.le_trans (fpK_len n V V.length) (Nat.le_trans (Nat.mul_le_mul h200 h200) (by decide))
 refine pcallsCT Tryz.func74 rfl Tryz.ntmps74 rfl ?_
 refine wF ?_
 unfold ppP ppO
 generalize fpLi n V = L at *
 have hLl : (L.map prP).length = L.length := List.length_map _
 repeat' (first
| refine wO ?_
| (refine o_go rfl ?_; (first
| refine p_p (zG rfl rfl aD (h1)) ?_
| refine wS ?_
| refine p_e rfl (e_alloc rfl) ?_); refine ⟨_, aB, ?_⟩))
 refine g_loopT (α := Nat) (fun k => [(9, I (k : Int))]) (fun _ => [.box [I 0, I 0]]) (fun k => k ≤ L.length ∧ ∀ j, j < k → decide (0 < (L.getD j (0, 0)).1) = false) (fun k => L.length - k) 0 aH ⟨Nat.zero_le _, fun j hj => absurd hj (Nat.not_lt_zero _)⟩ ⟨rfl, trivial⟩ rfl ?_
 rintro k ⟨hk, hno⟩
 refine wH ?_
 by_cases hkl : k < L.length
 · have rk := prs_at hkl
   have hat := fun h => find_at (f := fun ik : Nat × Nat => decide (0 < ik.1)) hkl h hno
   generalize hik : L.getD k (0, 0) = ik at *
   obtain ⟨i, j⟩ := ik
   by_cases h0 : 0 < i
   · rw [hat (decide_eq_true h0)]
     repeat' (first
| refine wO ?_
| (refine o_go rfl ?_; (first
| refine p_p (zN rfl rfl rfl zz rk ze) ?_
| refine p_p (ps_index_hatarr rfl rfl rfl zz zd) ?_
| refine wS ?_
| refine p_p (ps_load_agg rfl rfl aK) ?_
| refine p_e rfl (zO rfl rfl rfl rfl aK rfl rfl rfl) ?_
| refine p_e rfl (e_alloc rfl) ?_); refine ⟨_, aB, ?_⟩)
| (refine zK rfl ?_ ?_ <;> intro hc <;> try omega)
| refine krct ?_ ?_
| refine krC rfl aK ?_
| refine krB rfl ?_
| refine wE ?_)
     all_goals first | rfl | (exfalso; omega)
   · repeat' (first
| refine wO ?_
| (refine o_go rfl ?_; (first
| refine p_p (zN rfl rfl rfl zz rk ze) ?_
| refine p_p (ps_index_hatarr rfl rfl rfl zz zd) ?_
| refine wS ?_
| refine p_p (ps_load_agg rfl rfl aK) ?_
| refine p_e rfl (zO rfl rfl rfl rfl aK rfl rfl rfl) ?_
| refine p_e rfl (e_alloc rfl) ?_); refine ⟨_, aB, ?_⟩)
| (refine zK rfl ?_ ?_ <;> intro hc <;> try omega)
| refine wE ?_)
     all_goals try (exfalso; omega)
     refine zT (k + 1) ⟨by omega, fun j' hj' => ?_⟩ (by omega) aI ⟨rfl, trivial⟩ (zB rfl (zM _))
     rcases Nat.lt_or_ge j' k with h | h
     · exact hno j' h
     · rw [show j' = k by omega, hik]; exact decide_eq_false h0
 · rw [find_none (f := fun ik : Nat × Nat => decide (0 < ik.1)) (fun j hj => hno j (by omega))]
   repeat' (first
| refine wO ?_
| (refine o_go rfl ?_; (first
| refine p_p (ps_buildArr rfl rfl) ?_
| refine wS ?_
| refine p_e rfl (zO rfl rfl rfl rfl aK rfl rfl rfl) ?_); refine ⟨_, aB, ?_⟩)
| (refine zK rfl ?_ ?_ <;> intro hc <;> try omega)
| refine krct ?_ ?_
| refine krC rfl aK ?_
| refine krB rfl ?_
| refine wE ?_)
   all_goals first | rfl | (exfalso; omega)
theorem spp_c (n : Nat) (V : List (List Int)) (hn0 : 0 < n) (hn : n ≤ 1000) (hV : ∀ p ∈ V, Pt n p) (h200 : V.length ≤ 200) : PCalls Tryz.prog 79 [intss V] (.tup [ppP n V, B (ppO n V).isSome]) := by
 have h1 := sfps_c n V hn0 hn hV h200
 have hl : (fpLi n V).length ≤ 40000 := Nat.le_trans (fpK_len n V V.length) (Nat.le_trans (Nat.mul_le_mul h200 h200) (by decide))
 refine pcallsCT Tryz.func79 rfl Tryz.ntmps79 rfl ?_
 refine wF ?_
 unfold ppP ppO
 generalize fpLi n V = L at *
 have hLl : (L.map prP).length = L.length := List.length_map _
 repeat' (first
| refine wO ?_
| (refine o_go rfl ?_; (first
| refine p_p (zG rfl rfl aD (h1)) ?_
| refine wS ?_
| refine p_e rfl (e_alloc rfl) ?_); refine ⟨_, aB, ?_⟩))
 refine g_loopT (α := Nat) (fun k => [(5, I (k : Int))]) (fun _ => [.box [I 0, I 0]]) (fun k => k ≤ L.length ∧ ∀ j, j < k → decide (0 < (L.getD j (0, 0)).1) = false) (fun k => L.length - k) 0 aH ⟨Nat.zero_le _, fun j hj => absurd hj (Nat.not_lt_zero _)⟩ ⟨rfl, trivial⟩ rfl ?_
 rintro k ⟨hk, hno⟩
 refine wH ?_
 by_cases hkl : k < L.length
 · have rk := prs_at hkl
   have hat := fun h => find_at (f := fun ik : Nat × Nat => decide (0 < ik.1)) hkl h hno
   generalize hik : L.getD k (0, 0) = ik at *
   obtain ⟨i, j⟩ := ik
   by_cases h0 : 0 < i
   · rw [hat (decide_eq_true h0)]
     repeat' (first
| refine wO ?_
| (refine o_go rfl ?_; (first
| refine p_p (zN rfl rfl rfl zz rk ze) ?_
| refine p_p (ps_index_parr rfl rfl rfl zz zd) ?_
| refine wS ?_
| refine p_p (ps_load_agg rfl rfl aK) ?_
| refine p_e rfl (zO rfl rfl rfl rfl aK rfl rfl rfl) ?_); refine ⟨_, aB, ?_⟩)
| (refine zK rfl ?_ ?_ <;> intro hc <;> try omega)
| refine krct ?_ ?_
| refine krC rfl aK ?_
| refine krB rfl ?_
| refine wE ?_)
     all_goals first | rfl | (exfalso; omega)
   · repeat' (first
| refine wO ?_
| (refine o_go rfl ?_; (first
| refine p_p (zN rfl rfl rfl zz rk ze) ?_
| refine p_p (ps_index_parr rfl rfl rfl zz zd) ?_
| refine wS ?_); refine ⟨_, aB, ?_⟩)
| (refine zK rfl ?_ ?_ <;> intro hc <;> try omega)
| refine wE ?_)
     all_goals try (exfalso; omega)
     refine zT (k + 1) ⟨by omega, fun j' hj' => ?_⟩ (by omega) aI ⟨rfl, trivial⟩ (zB rfl (zM _))
     rcases Nat.lt_or_ge j' k with h | h
     · exact hno j' h
     · rw [show j' = k by omega, hik]; exact decide_eq_false h0
 · rw [find_none (f := fun ik : Nat × Nat => decide (0 < ik.1)) (fun j hj => hno j (by omega))]
   repeat' (first
| refine wO ?_
| (refine o_go rfl ?_; (first
| refine p_p (ps_buildArr rfl rfl) ?_
| refine wS ?_
| refine p_e rfl (zO rfl rfl rfl rfl aK rfl rfl rfl) ?_); refine ⟨_, aB, ?_⟩)
| (refine zK rfl ?_ ?_ <;> intro hc <;> try omega)
| refine krct ?_ ?_
| refine krC rfl aK ?_
| refine krB rfl ?_
| refine wE ?_)
   all_goals first | rfl | (exfalso; omega)
end Go.Proofs.YtepjlgilopfnpaaGreat
/- Walks: factor pairs of an algebra, whether it is indecomposable, both sides. -/
namespace Go.Proofs.YtepjlgilopfnpaaGreat
open Go Go.Pv Go.Proofs
set_option maxHeartbeats 32000000
set_option maxRecDepth 100000

noncomputable def fpV (n : Int) (ops : List OpD) : List (Nat × Nat) := if acB n ops then fpLi n.toNat (acV n ops) else []
theorem acV_all {n : Int} {ops : List OpD} (h : acB n ops = true) : acV n ops = allL n.toNat ops := by
 unfold acV
 rw [h, if_pos rfl]
theorem ifpa6_c (n : Int) (ops : List OpD) (hs : szOk ops) : PCalls Tryz.prog 20 [algP n ops] (.tup [prsL6 (fpV n ops), B (acB n ops)]) := by
 refine pcalls2 Tryz.func20 rfl Tryz.ntmps20 rfl ?_
 refine wF ?_
 have h1 := icongs_c n ops hs
 unfold fpV
 cases hb : acB n ops with
 | false =>
  rw [hb, if_neg Bool.false_ne_true] at h1
  rw [if_neg Bool.false_ne_true]
  repeat' (first
| refine wO ?_
| (refine o_go rfl ?_; (first
| refine p_p (zG rfl rfl aD (h1)) ?_
| refine wS ?_
| refine p_p (ps_load_agg rfl rfl aK) ?_
| refine p_e rfl (e_lit0 rfl zd) ?_
| refine p_p (ps_box rfl rfl) ?_); refine ⟨_, aB, ?_⟩)
| refine kr2 ?_ ?_
| refine krB rfl ?_
| refine krS rfl ?_
| refine wE ?_)
  all_goals rfl
 | true =>
  obtain ⟨m, rfl, hm0, hm8, h4, ho, hg, h2⟩ := acB_facts hb
  rw [hb, if_pos rfl] at h1
  rw [if_pos rfl]
  rw [acV_all hb, Int.toNat_natCast] at h1 ⊢
  have h3 := ifps_c m (allL m ops) (by omega) fc_pt h2
  generalize fpLi m (allL m ops) = L at *
  repeat' (first
| refine wO ?_
| (refine o_go rfl ?_; (first
| refine p_p (zG rfl rfl aD (h1)) ?_
| refine p_p (zG rfl rfl aD (h3)) ?_
| refine wS ?_
| refine p_p (ps_load_agg rfl rfl aK) ?_
| refine p_p (ps_box rfl rfl) ?_); refine ⟨_, aB, ?_⟩)
| refine kr2 ?_ ?_
| refine krB rfl ?_
| refine krS rfl ?_
| refine wE ?_)
  all_goals rfl
theorem sfpa6_c (n : Int) (ops : List OpD) (hs : szOk ops) : PCalls Tryz.prog 21 [algP n ops] (.tup [prsL6 (fpV n ops), B (acB n ops)]) := by
 refine pcalls2 Tryz.func21 rfl Tryz.ntmps21 rfl ?_
 refine wF ?_
 have h1 := sfew_c n ops hs
 unfold fpV
 cases hb : acB n ops with
 | false =>
  rw [hb] at h1
  rw [if_neg Bool.false_ne_true]
  repeat' (first
| refine wO ?_
| (refine o_go rfl ?_; (first
| refine p_p (zG rfl rfl aD (h1)) ?_
| refine wS ?_
| refine p_p (ps_load_agg rfl rfl aK) ?_
| refine p_e rfl (e_lit0 rfl zd) ?_
| refine p_p (ps_box rfl rfl) ?_); refine ⟨_, aB, ?_⟩)
| refine kr2 ?_ ?_
| refine krB rfl ?_
| refine krS rfl ?_
| refine wE ?_)
  all_goals rfl
 | true =>
  obtain ⟨m, rfl, hm0, hm8, h4, ho, hg, h2⟩ := acB_facts hb
  rw [hb] at h1
  rw [if_pos rfl]
  rw [acV_all hb, Int.toNat_natCast]
  have h3 := sallC_c m ops hm0 hm8 hs.1 ho (by omega)
  have h5 := sfps_c m (allL m ops) hm0 (by omega) fc_pt h2
  generalize fpLi m (allL m ops) = L at *
  repeat' (first
| refine wO ?_
| (refine o_go rfl ?_; (first
| refine p_p (zG rfl rfl aD (h1)) ?_
| refine p_p (zG rfl rfl aD (h3)) ?_
| refine p_p (zG rfl rfl aD (h5)) ?_
| refine wS ?_
| refine p_p (ps_load_agg rfl rfl aK) ?_
| refine p_p (ps_box rfl rfl) ?_); refine ⟨_, aB, ?_⟩)
| refine kr2 ?_ ?_
| refine krB rfl ?_
| refine krS rfl ?_
| refine wE ?_)
  all_goals rfl
noncomputable def indB (n : Int) (ops : List OpD) : Bool := acB n ops && (decide (1 < n) && !(ppO n.toNat (allL n.toNat ops)).isSome)
theorem iind_c (n : Int) (ops : List OpD) (hs : szOk ops) : PCalls Tryz.prog 30 [algP n ops] (.tup [B (indB n ops), B (acB n ops)]) := by
 refine pcalls2 Tryz.func30 rfl Tryz.ntmps30 rfl ?_
 refine wF ?_
 have h1 := icongs_c n ops hs
 unfold indB
 cases hb : acB n ops with
 | false =>
  rw [hb, if_neg Bool.false_ne_true] at h1
  repeat' (first
| refine wO ?_
| (refine o_go rfl ?_; (first
| refine p_p (zG rfl rfl aD (h1)) ?_
| refine wS ?_
| refine p_p (ps_load_agg rfl rfl aK) ?_
| refine p_p (ps_box rfl rfl) ?_); refine ⟨_, aB, ?_⟩)
| refine kr2 ?_ ?_
| refine krB rfl ?_
| refine wE ?_)
  all_goals rfl
 | true =>
  obtain ⟨m, rfl, hm0, hm8, h4, ho, hg, h2⟩ := acB_facts hb
  rw [hb, if_pos rfl, acV_all hb, Int.toNat_natCast] at h1
  rw [Int.toNat_natCast, Bool.true_and]
  have h3 := ipp_c m (allL m ops) (by omega) fc_pt h2
  unfold ppP at h3
  cases hp : ppO m (allL m ops) with
  | none =>
   rw [hp] at h3
   change PCalls _ _ _ (.tup [.agg [I 0, I 0], B false]) at h3
   by_cases h0 : 1 < (m : Int)
   · rw [decide_eq_true h0]
     repeat' (first
| refine wO ?_
| (refine o_go rfl ?_; (first
| refine p_p (zG rfl rfl aD (h1)) ?_
| refine p_p (zG rfl rfl aD (h3)) ?_
| refine wS ?_
| refine p_p (ps_load_agg rfl rfl aK) ?_
| refine p_e rfl (zO rfl rfl rfl rfl aK rfl rfl rfl) ?_
| refine p_e rfl (e_alloc rfl) ?_
| refine p_p (ps_box rfl rfl) ?_); refine ⟨_, aB, ?_⟩)
| (refine o_splitD rfl rfl rfl ?_ ?_ <;> intro hc <;> first | omega | dsimp only [List.set_cons_zero, List.set_cons_succ])
| refine kr2 ?_ ?_
| refine krB rfl ?_
| refine wE ?_)
     all_goals first | rfl | (exfalso; omega)
   · rw [decide_eq_false h0]
     repeat' (first
| refine wO ?_
| (refine o_go rfl ?_; (first
| refine p_p (zG rfl rfl aD (h1)) ?_
| refine p_p (zG rfl rfl aD (h3)) ?_
| refine wS ?_
| refine p_p (ps_load_agg rfl rfl aK) ?_
| refine p_e rfl (zO rfl rfl rfl rfl aK rfl rfl rfl) ?_
| refine p_e rfl (e_alloc rfl) ?_
| refine p_p (ps_box rfl rfl) ?_); refine ⟨_, aB, ?_⟩)
| (refine o_s rfl ?_; refine ⟨_, aB, ?_⟩)
| (refine o_splitD rfl rfl rfl ?_ ?_ <;> intro hc <;> first | omega | dsimp only [List.set_cons_zero, List.set_cons_succ])
| refine kr2 ?_ ?_
| refine krB rfl ?_
| refine wE ?_)
     all_goals first | rfl | (exfalso; omega)
  | some ik =>
   rw [hp] at h3
   change PCalls _ _ _ (.tup [.agg [I (ik.1 : Int), I (ik.2 : Int)], B true]) at h3
   by_cases h0 : 1 < (m : Int)
   · rw [decide_eq_true h0]
     repeat' (first
| refine wO ?_
| (refine o_go rfl ?_; (first
| refine p_p (zG rfl rfl aD (h1)) ?_
| refine p_p (zG rfl rfl aD (h3)) ?_
| refine wS ?_
| refine p_p (ps_load_agg rfl rfl aK) ?_
| refine p_e rfl (zO rfl rfl rfl rfl aK rfl rfl rfl) ?_
| refine p_e rfl (e_alloc rfl) ?_
| refine p_p (ps_box rfl rfl) ?_); refine ⟨_, aB, ?_⟩)
| (refine o_splitD rfl rfl rfl ?_ ?_ <;> intro hc <;> first | omega | dsimp only [List.set_cons_zero, List.set_cons_succ])
| refine kr2 ?_ ?_
| refine krB rfl ?_
| refine wE ?_)
     all_goals first | rfl | (exfalso; omega)
   · rw [decide_eq_false h0]
     repeat' (first
| refine wO ?_
| (refine o_go rfl ?_; (first
| refine p_p (zG rfl rfl aD (h1)) ?_
| refine p_p (zG rfl rfl aD (h3)) ?_
| refine wS ?_
| refine p_p (ps_load_agg rfl rfl aK) ?_
| refine p_e rfl (zO rfl rfl rfl rfl aK rfl rfl rfl) ?_
| refine p_e rfl (e_alloc rfl) ?_
| refine p_p (ps_box rfl rfl) ?_); refine ⟨_, aB, ?_⟩)
| (refine o_s rfl ?_; refine ⟨_, aB, ?_⟩)
| (refine o_splitD rfl rfl rfl ?_ ?_ <;> intro hc <;> first | omega | dsimp only [List.set_cons_zero, List.set_cons_succ])
| refine kr2 ?_ ?_
| refine krB rfl ?_
| refine wE ?_)
     all_goals first | rfl | (exfalso; omega)
theorem idop_c (n : Int) (p q : List Int) (hp : p.length ≤ 1048576) (hq : q.length ≤ 1048576) (ht : twB n p q = true) : PCalls Tryz.prog 26 [I n, ints p, ints q] (.tup [B (prmB p q n.toNat), B true]) := by
 refine pcalls2 Tryz.func26 rfl Tryz.ntmps26 rfl ?_
 refine wF ?_
 have h1 := iarep_c n p q hp hq
 rw [ht] at h1
 unfold twB at ht
 simp only [Bool.and_eq_true] at ht
 obtain ⟨h0, h2, h3⟩ := ht
 have h0 := inB_iff.1 h0
 obtain ⟨m, rfl⟩ : ∃ m : Nat, n = m := ⟨n.toNat, by omega⟩
 rw [Int.toNat_natCast] at h2 h3 ⊢
 have h4 := iprm_c m p q (by omega) (ptB_iff.1 h2).len (ptB_iff.1 h3).len
 generalize prmB p q m = b at *
 repeat' (first
| refine wO ?_
| (refine o_go rfl ?_; (first
| refine p_p (zG rfl rfl aD (h1)) ?_
| refine p_p (zG rfl rfl aD (h4)) ?_
| refine wS ?_); refine ⟨_, aB, ?_⟩)
| refine kr2 ?_ ?_
| refine krB rfl ?_
| refine wE ?_)
 all_goals rfl
theorem iisfp_c (m : Nat) (ops : List OpD) (p q : List Int) (hs : szOk ops) (hm0 : 0 < m) (hm8 : m ≤ 8) (h4 : ops.length ≤ 4) (ho : opsIn m ops) (hg : algOk (m : Int) ops = true) (hp : p ∈ allL m ops) (hq : q ∈ allL m ops) :
 PCalls Tryz.prog 25 [algP m ops, ints p, ints q] (.tup [B (fpB m p q), B true]) := by
 refine pcalls2 Tryz.func25 rfl Tryz.ntmps25 rfl ?_
 refine wF ?_
 have pt := (allL_mem.1 hp).1
 have qt := (allL_mem.1 hq).1
 have h1 := iisct_c (m : Int) ops p hs (by rw [pt.len]; omega)
 rw [cgB_tk hm0 hg ho hp] at h1
 have h2 := iisc_c m ops q hm0 hm8 hs.1 ho (by rw [qt.len]; omega)
 rw [(cgB_iff hm0 ho).2 (allL_mem.1 hq)] at h2
 have h3 := ifp_c m p q (by omega) pt qt
 generalize fpB m p q = b at *
 repeat' (first
| refine wO ?_
| (refine o_go rfl ?_; (first
| refine p_p (zG rfl rfl aD (h1)) ?_
| refine p_p (zG rfl rfl aD (h2)) ?_
| refine p_p (zG rfl rfl aD (h3)) ?_
| refine wS ?_
| refine p_p (ps_load_agg rfl rfl aK) ?_
| refine p_p (ps_box rfl rfl) ?_); refine ⟨_, aB, ?_⟩)
| refine kr2 ?_ ?_
| refine krB rfl ?_
| refine wE ?_)
 all_goals rfl
end Go.Proofs.YtepjlgilopfnpaaGreat
