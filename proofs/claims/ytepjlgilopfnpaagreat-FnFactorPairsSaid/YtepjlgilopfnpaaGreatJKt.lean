/- Walks: all congruences, the program's side. -/
import Derived.Test.YtepjlgilopfnpaaGreatJKz
import Derived.Test.YtepjlgilopfnpaaGreatJLy
import Derived.Test.YtepjlgilopfnpaaGreatJKn
import Derived.Test.YtepjlgilopfnpaaGreatJKc
import Derived.Test.YtepjlgilopfnpaaGreatJSt
namespace Go.Proofs.YtepjlgilopfnpaaGreat
open Go Go.Pv Go.Proofs
set_option maxHeartbeats 32000000
set_option maxRecDepth 100000
attribute [local bitvec_to_nat] posI optP lendM1 lendMA lendMP killM1 killMA killMP hasI getO backM1 backMA backMP putL inpM pinM1 pinMA pinMP

def cgR (n : Nat) (ops : List OpD) (x j : Nat) : List (List Int) := (List.range j).map fun j => cgL n ops x (x + 1 + j)
def prinI (n : Nat) (ops : List OpD) (x : Nat) : List (List Int) := (List.range x).flatMap fun x => cgR n ops x (n - (x + 1))
theorem prinI_succ (n : Nat) (ops : List OpD) (x : Nat) : prinI n ops (x + 1) = prinI n ops x ++ cgR n ops x (n - (x + 1)) := by
 unfold prinI; rw [List.range_succ, List.flatMap_append]; simp
theorem cgR_succ (n : Nat) (ops : List OpD) (x j : Nat) : cgR n ops x (j + 1) = cgR n ops x j ++ [cgL n ops x (x + 1 + j)] := range_snoc _ j
theorem cgR_len (n : Nat) (ops : List OpD) (x j : Nat) : (cgR n ops x j).length = j := by simp [cgR]
theorem prinI_len {n : Nat} (ops : List OpD) : ∀ x, (prinI n ops x).length ≤ x * n
 | 0 => by simp [prinI]
 | x + 1 => by
  rw [prinI_succ, List.length_append, cgR_len, Nat.add_mul]
  have := prinI_len (n := n) ops x
  omega
theorem prinI_Q (n : Nat) (ops : List OpD) : PrQ n ops (prinI n ops n) := by
 constructor
 · intro q hq
   simp only [prinI, cgR, List.mem_flatMap, List.mem_range, List.mem_map] at hq
   obtain ⟨x, hx, j, hj, rfl⟩ := hq
   exact ⟨x, x + 1 + j, by omega, by omega, rfl⟩
 · intro x y hxy hy
   simp only [prinI, cgR, List.mem_flatMap, List.mem_range, List.mem_map]
   exact ⟨x, by omega, y - (x + 1), by omega, by rw [show x + 1 + (y - (x + 1)) = y by omega]⟩
def mpC (T : List (List Int)) : List (ByteArray × PV) := T.map fun t => (keyB t, B true)
theorem Pt.small {n : Nat} {p : List Int} (h : Pt n p) (hn : n ≤ 1000) : ∀ x ∈ p, 0 ≤ x ∧ x < 65536 := fun x hx => by
 obtain ⟨i, hi, rfl⟩ := List.getElem_of_mem hx
 have hin : i < n := by rw [← h.len]; exact hi
 have h1 := h.nn i hin
 have h2 := h.val hin
 have h3 := h.lt hin
 have e : p.getD i 0 = p[i] := by rw [List.getD_eq_getElem?_getD, List.getElem?_eq_getElem hi]; rfl
 rw [e] at h1 h2
 omega
theorem perm_all {n : Nat} {ops : List OpD} {T Q : List (List Int)} (h : JInv n ops T) (hQ : PrQ n ops Q) (ho : opsIn n ops) (hc : ∀ p ∈ T, ∀ q ∈ Q, joinP n p q ∈ T) : T.Perm (allL n ops) :=
 (List.perm_ext_iff_of_nodup h.nd (ascC_nodup (allL_all n ops).1)).2 fun q => (j_all h hQ ho hc q).trans allL_mem.symm
theorem viewV_gr {hp : List HO} {id i : Nat} {e1 e2 : TypeId} {rows : List (List PV)} {r : List PV} (h : hp[id]? = some (.grid e1 e2 rows)) (hr : rows[i]? = some r) : viewV hp (.gr id i) = .sl 1 none r := by simp only [viewV, h, hr]
theorem mpC_get {n : Nat} {T : List (List Int)} {q : List Int} (hn : n ≤ 1000) (hq : Pt n q) (hT : ∀ t ∈ T, Pt n t) : mpGet (mpC T) (keyB q) (.val (.bool false)) = B (decide (q ∈ T)) := mpGet_mem (hq.small hn) fun u hu => (hT u hu).small hn
theorem mpC_put {n : Nat} {T : List (List Int)} {q : List Int} (hn : n ≤ 1000) (hq : Pt n q) (hT : ∀ t ∈ T, Pt n t) (hno : q ∉ T) : mpPut (mpC T) (keyB q) (B true) = mpC (T ++ [q]) := by
 unfold mpC
 rw [mpPut_new (hq.small hn) (B true) (fun u hu => (hT u hu).small hn) hno, List.map_append]; rfl
theorem iallc_c (n : Nat) (ops : List OpD) (hn0 : 0 < n) (hn : n ≤ 8) (hl : ops.length ≤ 1048576) (ho : opsIn n ops) :
 PCalls Tryz.prog 73 [algP n ops] (.tup [if (allL n ops).length ≤ 200 then intss (allL n ops) else nilV, B (decide ((allL n ops).length ≤ 200))]) := by
 refine pcalls2 Tryz.func73 rfl Tryz.ntmps73 rfl ?_
 refine wF ?_
 repeat' (first
| refine wO ?_
| (refine o_go rfl ?_; (first
| refine wS ?_
| refine p_e rfl (e_lit0 rfl zd) ?_
| refine p_p (ps_box rfl rfl) ?_); refine ⟨_, aB, ?_⟩))
 refine g_loopF (α := Nat) [14] (fun x => [(4, .hp 0), (5, I (x : Int))]) (fun x => [lnO (prinI n ops x)]) (fun x => x ≤ n) (fun x => n - x) 0 aH (Nat.zero_le _) ⟨rfl, rfl, trivial⟩ rfl ?_
 rintro x hx
 refine wH ?_
 by_cases hxn : x < n
 · have hps := prinI_succ n ops x
   have hpl := prinI_len (n := n) ops x
   have hxx : x * n ≤ 64 := Nat.le_trans (Nat.mul_le_mul (show x ≤ 8 by omega) hn) (by decide)
   generalize prinI n ops x = P0 at *
   repeat' (first
| refine wO ?_
| (refine o_go rfl ?_; (first
| refine wS ?_); refine ⟨_, aB, ?_⟩)
| (refine zK rfl ?_ ?_ <;> intro hc <;> try omega)
| refine wE ?_)
   all_goals try (exfalso; omega)
   refine g_loopF (α := Nat) [] (fun y => [(4, .hp 0), (6, I ((x + 1 + y : Nat) : Int))]) (fun y => [lnO (P0 ++ cgR n ops x y)]) (fun y => x + 1 + y ≤ n) (fun y => n - y) 0 aH (by omega) ⟨rfl, vI (by omega), trivial⟩ (by simp [cgR]) ?_
   rintro y hy
   refine wH ?_
   have hcl := cgR_len n ops x y
   have hcs := cgR_succ n ops x y
   have hal : ((P0 ++ cgR n ops x y).map ints).length = P0.length + y := by rw [List.length_map, List.length_append, hcl]
   by_cases hyn : x + 1 + y < n
   · have h2 := icgo_R n ops [(x, x + 1 + y)] hn0 hn hl ho (by simp) (fun xy h => by rw [List.mem_singleton] at h; subst h; exact ⟨hxn, hyn⟩)
     rw [show closeL n ops (foldU [(x, x + 1 + y)] (idL n)) = cgL n ops x (x + 1 + y) from rfl] at h2
     generalize cgR n ops x y = C at *
     repeat' (first
| refine wO ?_
| (refine o_go rfl ?_; (first
| refine p_p (ps_buildArr rfl rfl) ?_
| refine p_p (ps_litA [I _, I _] rfl rfl (by rfl) zd zd) ?_
| refine p_e rfl (e_callRF rfl rfl aD (h2)) ?_
| refine p_e zk (e_append rfl rfl rfl rfl rfl rfl (one_one rfl) rfl zn zn) ?_
| refine wS ?_
| refine p_p (ps_load_agg rfl rfl aK) ?_
| refine p_p (ps_lit1 rfl rfl (by rfl) (by rfl)) ?_); refine ⟨_, aB, ?_⟩)
| (refine zK rfl ?_ ?_ <;> intro hc <;> try omega)
| refine wE ?_)
     all_goals try (exfalso; omega)
     refine zT (y + 1) (by omega) (by omega) aI ⟨rfl, vI (by omega), trivial⟩ (zB ?_ (zM _))
     rw [hcs, ← List.append_assoc]
     show HO.arr false 1 _ _ = HO.arr false 1 _ ((P0 ++ C ++ [_]).map ints)
     rw [List.map_append (l₁ := P0 ++ C)]; rfl
   · repeat' (first
| refine wO ?_
| (refine o_go rfl ?_; (first
| refine wS ?_); refine ⟨_, aB, ?_⟩)
| (refine zK rfl ?_ ?_ <;> intro hc <;> try omega)
| refine wE ?_)
     all_goals try (exfalso; omega)
     refine zT (K := fun _ _ => True) (x + 1) (by omega) (by omega) aI ⟨rfl, rfl, trivial⟩ (zB ?_ (zM _))
     rw [hps, show n - (x + 1) = y by omega]
 have hQe : prinI n ops x = prinI n ops n := by rw [show x = n by omega]
 rw [hQe]
 have hQ := prinI_Q n ops
 have hQl := prinI_len (n := n) ops n
 have hnn : n * n ≤ 64 := Nat.le_trans (Nat.mul_le_mul hn hn) (by decide)
 generalize prinI n ops n = Q at *
 have h1 := ident_R n (by omega)
 have hid := idL_pt n
 have hk0 := key_c (idL n) (by rw [hid.len]; omega) (hid.small (by omega))
 repeat' ((fail_if_success (refine at_reg1 10 ?_)); (first
| refine wO ?_
| (refine o_go rfl ?_; (first
| refine p_e rfl (e_callR rfl rfl aD rfl (h1)) ?_
| refine p_e rfl (e_lit1G rfl rfl rfl (one_all (fun _ => rfl) _)) ?_
| refine wS ?_); refine ⟨_, aB, ?_⟩)
| (refine zK rfl ?_ ?_ <;> intro hc <;> try omega)
| refine g_exit ?_))
 all_goals try (exfalso; omega)
 refine g_seq ?_
 refine g_region_mk rfl rfl fun bm => ⟨_, by dsimp only [bitvec_to_nat, Nat.reduceAdd, Nat.reduceMul, Nat.reduceBEq, reduceCtorEq, posI, optP, lendM1, lendMA, lendMP, killM1, killMA, killMP, hasI, getO, backM1, backMA, backMP, putL, inpM, pinM1, pinMA, pinMP], ?_⟩
 repeat' (first
| refine wO ?_
| (refine o_go rfl ?_; (first
| refine p_p (ps_load_row rfl rfl rfl (by simp)) ?_
| refine p_p (ps_callM rfl rfl aD (by rfl) (hk0)) ?_
| refine p_e zk (e_mapInsert (id := 3) rfl rfl rfl rfl rfl rfl) ?_
| refine wS ?_
| refine p_p (ps_index_grid rfl rfl rfl rfl zz aR) ?_); refine ⟨_, aB, ?_⟩))
 refine g_loopF (α := Nat × List (List Int)) [41, 43, 44, 45] (fun z => [(7, .hp 2), (9, I (z.1 : Int))]) (fun z => [lnO Q, .gone, gridI z.2, .mp bm (mpC z.2)]) (fun z => z.1 ≤ z.2.length ∧ z.2.length ≤ 200 ∧ JInv n ops z.2 ∧ ∀ j, j < z.1 → ∀ q ∈ Q, joinP n (z.2.getD j []) q ∈ z.2) (fun z => 300 - z.1) (0, [idL n]) aH ⟨Nat.zero_le _, by simp, .start n ops, fun j hj => absurd hj (Nat.not_lt_zero _)⟩ ⟨rfl, rfl, trivial⟩ rfl ?_
 rintro ⟨k, T⟩ ⟨hk, h200, hT, hC⟩
 dsimp only at hk h200 hT hC
 refine wH ?_
 have hgl : (T.map fun r => r.map I).length = T.length := List.length_map _
 have hQm : (Q.map ints).length = Q.length := List.length_map _
 by_cases hkl : k < T.length
 · have hpm := rows_mem hkl
   have hpc := hT.ok _ hpm
   repeat' (first
| refine wO ?_
| (refine o_go rfl ?_; (first
| refine p_p (ps_len_grid rfl rfl rfl rfl) ?_
| refine wS ?_
| refine p_p (ps_len_grid rfl rfl rfl rfl) ?_); refine ⟨_, aB, ?_⟩)
| (refine zK rfl ?_ ?_ <;> intro hc <;> try omega)
| refine wE ?_)
   all_goals try (exfalso; omega)
   refine g_loopF (α := Nat × List (List Int)) [49] (fun z => [(7, .hp 2), (56, I (z.1 : Int))]) (fun z => [lnO Q, .gone, gridI z.2, .mp bm (mpC z.2)]) (fun z => z.1 ≤ Q.length ∧ z.2.length ≤ 200 ∧ JInv n ops z.2 ∧ (∃ l, z.2 = T ++ l) ∧ ∀ i, i < z.1 → joinP n (T.getD k []) (Q.getD i []) ∈ z.2) (fun z => Q.length - z.1) (0, T) aH ⟨Nat.zero_le _, h200, hT, ⟨[], (List.append_nil _).symm⟩, fun i hi => absurd hi (Nat.not_lt_zero _)⟩ ⟨rfl, rfl, trivial⟩ rfl ?_
   rintro ⟨i, U⟩ ⟨hi, hU200, hU, ⟨l, hl2⟩, hD⟩
   dsimp only at hi hU200 hU hl2 hD
   refine wH ?_
   have hugl : (U.map fun r => r.map I).length = U.length := List.length_map _
   have hTU : T.length ≤ U.length := by rw [hl2]; simp
   have hatU : ∀ j, j < T.length → U.getD j [] = T.getD j [] := fun j hj => by
    rw [hl2, List.getD_eq_getElem?_getD, List.getElem?_append_left hj, List.getD_eq_getElem?_getD]
   by_cases hiq : i < Q.length
   · have hqm := rows_mem hiq
     have hrq := rows_at hiq
     have hqc := hQ.cong ho hqm
     have hj := ijoin_R n (T.getD k []) (Q.getD i []) (by omega) hpc.1.len hqc.1
     have hjc := hU.join hQ ho (p := T.getD k []) (by rw [hl2]; exact List.mem_append.2 (.inl hpm)) hqm
     have hrow : (U.map fun r => r.map I)[k]? = some ((T.getD k []).map I) := by
      rw [← hatU k hkl, List.getElem?_map, List.getElem?_eq_getElem (by omega), List.getD_eq_getElem?_getD, List.getElem?_eq_getElem (show k < U.length by omega)]; rfl
     have hargs : ∀ hp : List HO, hp[2]? = some (gridI U) → argsLe [viewV hp (.gr 2 k), ints (Q.getD i [])] [ints (T.getD k []), ints (Q.getD i [])] := fun hp h => ⟨by rw [viewV_gr h hrow]; exact PV.le_refl _, PV.le_refl _, trivial⟩
     have hky := key_c (joinP n (T.getD k []) (Q.getD i [])) (by rw [hjc.1.len]; omega) (hjc.1.small (by omega))
     have hUt : ∀ t ∈ U, Pt n t := fun t ht => (hU.ok t ht).1
     have hg := mpC_get (T := U) (by omega) hjc.1 hUt
     have hput := mpC_put (T := U) (by omega) hjc.1 hUt
     have hDn : ∀ V, (∃ l, V = U ++ l) → joinP n (T.getD k []) (Q.getD i []) ∈ V → ∀ j, j < i + 1 → joinP n (T.getD k []) (Q.getD j []) ∈ V := fun V hV hv j hj => by
      obtain ⟨l', rfl⟩ := hV
      rcases Nat.lt_or_ge j i with h | h
      · exact List.mem_append.2 (.inl (hD j h))
      · rw [show j = i by omega]; exact hv
     generalize T.getD k [] = pp at *
     generalize Q.getD i [] = qq at *
     generalize hr : joinP n pp qq = r at *
     by_cases hin : r ∈ U
     · rw [decide_eq_true hin] at hg
       have hlk : ∀ {o : Oper} {ev : Operand → PV} {hp : List HO} {x y : Operand}, o.op = .lookup 118 x y false → ev x = mapV bm → hp[3]? = some (.mp bm (mpC U)) → ev y = .val (.string (keyB r)) → PStep Tryz.prog o ev hp (B true) := fun h1 h2 h3 h4 => by
        rw [← hg]; exact ps_lookup h1 h2 h3 h4
       repeat' (first
| refine wO ?_
| (refine o_go rfl ?_; (first
| refine p_p (zN rfl rfl rfl zz hrq ze) ?_
| refine p_p (ps_index_grid rfl rfl rfl rfl zz (by rw [hugl, n_toNat]; omega)) ?_
| refine p_p (ps_load_row rfl rfl rfl (by rw [hugl]; omega)) ?_
| refine p_e rfl (e_callR rfl rfl (hargs [lnO Q, .gone, gridI U, .mp bm (mpC U)] rfl) rfl (hj)) ?_
| refine p_p (ps_callM rfl rfl aD (by rfl) (hky)) ?_
| refine p_p (hlk rfl rfl rfl rfl) ?_
| refine p_p (ps_len_grid rfl rfl rfl rfl) ?_
| refine wS ?_
| refine p_p (ps_len_grid rfl rfl rfl rfl) ?_); refine ⟨_, aB, ?_⟩)
| (refine zK rfl ?_ ?_ <;> intro hc <;> try omega)
| refine wE ?_)
       all_goals try (exfalso; omega)
       exact zT (i + 1, U) ⟨by dsimp only; omega, hU200, hU, ⟨l, hl2⟩, hDn U ⟨[], (List.append_nil _).symm⟩ hin⟩ (by dsimp only; omega) aI ⟨rfl, rfl, trivial⟩ (zB rfl (zB rfl (zB rfl (zB rfl (zM _)))))
     · rw [decide_eq_false hin] at hg
       have hput := hput hin
       have hlk : ∀ {o : Oper} {ev : Operand → PV} {hp : List HO} {x y : Operand}, o.op = .lookup 118 x y false → ev x = mapV bm → hp[3]? = some (.mp bm (mpC U)) → ev y = .val (.string (keyB r)) → PStep Tryz.prog o ev hp (B false) := fun h1 h2 h3 h4 => by
        rw [← hg]; exact ps_lookup h1 h2 h3 h4
       have hadd := hU.add hjc hin
       have happ : (U.map fun r => r.map I) ++ [r.map I] = (U ++ [r]).map fun r => r.map I := by rw [List.map_append]; rfl
       have hapl : ((U.map fun r => r.map I) ++ [r.map I]).length = U.length + 1 := by rw [List.length_append, hugl]; rfl
       by_cases hfull : U.length = 200
       · have hbig : ¬ (allL n ops).length ≤ 200 := fun h => by
          have := len_le_sub hadd.nd fun q hq => allL_mem.2 (hadd.ok q hq)
          rw [List.length_append] at this
          simp only [List.length_cons, List.length_nil] at this
          omega
         rw [if_neg hbig, decide_eq_false hbig]
         repeat' (first
| refine wO ?_
| (refine o_go rfl ?_; (first
| refine p_p (zN rfl rfl rfl zz hrq ze) ?_
| refine p_p (ps_index_grid rfl rfl rfl rfl zz (by rw [hugl, n_toNat]; omega)) ?_
| refine p_p (ps_load_row rfl rfl rfl (by rw [hugl]; omega)) ?_
| refine p_e rfl (e_callR rfl rfl (hargs [lnO Q, .gone, gridI U, .mp bm (mpC U)] rfl) rfl (hj)) ?_
| refine p_p (ps_callM rfl rfl aD (by rfl) (hky)) ?_
| refine p_p (hlk rfl rfl rfl rfl) ?_
| refine p_e zk (e_mapUpdate (id := 3) rfl rfl rfl rfl rfl rfl) ?_
| refine p_e rfl (e_lit1G rfl rfl rfl (one_all (fun _ => rfl) _)) ?_
| refine p_e rfl (e_append_grid rfl rfl rfl rfl rfl rfl rfl (by rw [hugl, n_len_c, n_len_n]; omega) (by rw [hugl, n_len_c, n_len_n]; omega)) ?_
| refine p_p (ps_len_grid rfl rfl rfl rfl) ?_
| refine wS ?_
| refine p_p (ps_len_grid rfl rfl rfl rfl) ?_); refine ⟨_, aB, ?_⟩)
| (refine zK rfl ?_ ?_ <;> intro hc <;> try omega)
| refine kr2 ?_ ?_
| refine krB rfl ?_
| refine wE ?_)
         all_goals first | rfl | (exfalso; omega) | exact krV rfl | exact krB rfl rfl
       · repeat' (first
| refine wO ?_
| (refine o_go rfl ?_; (first
| refine p_p (zN rfl rfl rfl zz hrq ze) ?_
| refine p_p (ps_index_grid rfl rfl rfl rfl zz (by rw [hugl, n_toNat]; omega)) ?_
| refine p_p (ps_load_row rfl rfl rfl (by rw [hugl]; omega)) ?_
| refine p_e rfl (e_callR rfl rfl (hargs [lnO Q, .gone, gridI U, .mp bm (mpC U)] rfl) rfl (hj)) ?_
| refine p_p (ps_callM rfl rfl aD (by rfl) (hky)) ?_
| refine p_p (hlk rfl rfl rfl rfl) ?_
| refine p_e zk (e_mapUpdate (id := 3) rfl rfl rfl rfl rfl rfl) ?_
| refine p_e rfl (e_lit1G rfl rfl rfl (one_all (fun _ => rfl) _)) ?_
| refine p_e rfl (e_append_grid rfl rfl rfl rfl rfl rfl rfl (by rw [hugl, n_len_c, n_len_n]; omega) (by rw [hugl, n_len_c, n_len_n]; omega)) ?_
| refine p_p (ps_len_grid rfl rfl rfl rfl) ?_
| refine wS ?_
| refine p_p (ps_len_grid rfl rfl rfl rfl) ?_); refine ⟨_, aB, ?_⟩)
| (refine zK rfl ?_ ?_ <;> intro hc <;> try omega)
| refine wE ?_)
         all_goals try (exfalso; omega)
         refine zT (i + 1, U ++ [r]) ⟨by dsimp only; omega, by dsimp only; rw [List.length_append]; simp; omega, hadd, ⟨l ++ [r], by rw [hl2, List.append_assoc]⟩, hDn _ ⟨[r], rfl⟩ (by simp)⟩ (by dsimp only; omega) aI ⟨rfl, rfl, trivial⟩ (zB rfl (zB rfl (zB ?_ (zB ?_ (zM _)))))
         · exact congrArg (HO.grid 27 3) happ
         · exact congrArg (HO.mp bm) hput
   · repeat' (first
| refine wO ?_
| (refine o_go rfl ?_; (first
| refine wS ?_); refine ⟨_, aB, ?_⟩)
| (refine zK rfl ?_ ?_ <;> intro hc <;> try omega)
| refine wE ?_)
     all_goals try (exfalso; omega)
     refine zT (K := fun _ _ => True) (k + 1, U) ⟨by dsimp only; omega, hU200, hU, fun j hj q hq => ?_⟩ (by dsimp only; omega) aI ⟨rfl, rfl, trivial⟩ (hpLe_refl _)
     dsimp only at hj ⊢
     obtain ⟨m, hm, rfl⟩ := List.getElem_of_mem hq
     rcases Nat.lt_or_ge j k with h | h
     · rw [hatU j (by omega), hl2]
       exact List.mem_append.2 (.inl (hC j h _ hq))
     · rw [show j = k by omega, hatU k hkl]
       have := hD m (by omega)
       have e : Q.getD m [] = Q[m] := by rw [List.getD_eq_getElem?_getD, List.getElem?_eq_getElem hm]; rfl
       rwa [e] at this
 · have hperm := perm_all hT hQ ho (fun p hp q hq => by
    obtain ⟨j, hj, rfl⟩ := List.getElem_of_mem hp
    have := hC j (by omega) q hq
    have e : T.getD j [] = T[j] := by rw [List.getD_eq_getElem?_getD, List.getElem?_eq_getElem hj]; rfl
    rwa [e] at this)
   have hlen := hperm.length_eq
   have hle : (allL n ops).length ≤ 200 := by omega
   rw [if_pos hle, decide_eq_true hle]
   have hsort := sortRowsC_L n T (allL n ops) (allL_all n ops).1 hperm (by omega) (fun r hr => by rw [(hT.ok r hr).1.len]; omega) (fun r hr => (hT.ok r hr).1.okC)
   generalize allL n ops = AL at *
   repeat' (first
| refine wO ?_
| (refine o_go rfl ?_; (first
| refine p_p (ps_len_grid rfl rfl rfl rfl) ?_
| refine p_e rfl (e_callL (n := 2) rfl rfl rfl aL rfl (by rfl) (by first | exact ⟨rfl, rfl, rfl, by simp only [List.length_map, hlen]⟩ | exact ⟨rfl, rfl, by simp only [List.length_map, hlen]⟩) hsort) ?_
| refine wS ?_
| refine p_p (ps_len_grid rfl rfl rfl rfl) ?_); refine ⟨_, aB, ?_⟩)
| (refine zK rfl ?_ ?_ <;> intro hc <;> try omega)
| refine kr2 ?_ ?_
| refine krB rfl ?_
| refine krS rfl ?_
| refine wE ?_)
   all_goals first | rfl | (exfalso; omega) | (rw [List.map_map]; rfl)
end Go.Proofs.YtepjlgilopfnpaaGreat
