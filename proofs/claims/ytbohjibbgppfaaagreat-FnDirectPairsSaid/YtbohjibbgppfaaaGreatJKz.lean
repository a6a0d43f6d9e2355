/- Lemmas of the proof. No condition. -/
import Derived.Test.YtbohjibbgppfaaaGreatJKy
import Derived.Test.YtbohjibbgppfaaaGreatJSq
import Derived.Test.YtbohjibbgppfaaaGreatJTk
import Derived.Test.YtbohjibbgppfaaaGreatJKn
set_option linter.unusedSectionVars false
namespace Go.Proofs.YtbohjibbgppfaaaGreat
open Go Go.Pv Go.Proofs
set_option maxHeartbeats 32000000
set_option maxRecDepth 100000
abbrev lnO (L : List (List Int)) : HO := .arr false 1 27 (L.map ints)
def prX (x : Nat) : List (Nat × Nat) := (List.range x).flatMap fun x => (List.range x).map fun y => (x, y)
theorem prX_succ (x : Nat) : prX (x + 1) = prX x ++ (List.range x).map fun y => (x, y) := by
 unfold prX; rw [List.range_succ, List.flatMap_append]; simp
theorem prX_len (x : Nat) : (prX x).length ≤ x * x := by
 induction x with
 | zero => simp [prX]
 | succ x ih =>
  rw [prX_succ, List.length_append, List.length_map, List.length_range, Nat.add_mul, Nat.mul_add]
  omega
theorem prinF_ok {n : Nat} {ops : List OpD} (ho : opsIn n ops) : ∀ (P : List (Nat × Nat)) (L : List (List Int)), (∀ xy ∈ P, xy.1 < n ∧ xy.2 < n) → (∀ q ∈ L, okC n q) → ∀ q ∈ P.foldl (prinF n ops) L, okC n q := fun P L hP hL q hq => by
 rcases (prinF_mem P L q).1 hq with h | ⟨xy, h, rfl⟩
 · exact hL q h
 · exact (cg_lst ho (hP xy h).1 (hP xy h).2).pt.okC
theorem mInn_stop {n most : Nat} {Q : List (List Int)} {p : List Int} {st : MSt} {k : Nat} (h : ¬ (mInn n most Q p st k).1.length ≤ most) : ∀ m, k + m ≤ Q.length → mInn n most Q p st (k + m) = mInn n most Q p st k
 | 0, _ => rfl
 | m + 1, hm => by
  rw [← Nat.add_assoc, mInn_succ (by omega), mInn_stop h m (by omega), mStep, if_neg h]
theorem smost_cg (n : Nat) (ops : List OpD) (most : Nat) (hn0 : 0 < n) (hn : n ≤ 8) (hm : most ≤ 10000) (hl : ops.length ≤ 1048576) (ho : opsIn n ops) : PCalls Tryz.prog 166 [algP n ops, I (most : Int)] (intss (mostV n ops most)) := by
 refine pcalls1 Tryz.func166 rfl Tryz.ntmps166 rfl ?_
 refine wF ?_
 repeat' (first
| refine wO ?_
| (refine o_go rfl ?_; (first
| refine p_p (ps_lits rfl ze ze aU zd zd) ?_
| refine wS ?_
| refine p_p (ps_box rfl rfl) ?_); refine ⟨_, aA, ?_⟩))
 refine g_loopT (α := Nat) (fun x => [(5, intss ((prX x).foldl (prinF n ops) [])), (6, I (x : Int))]) (fun _ => []) (fun x => x ≤ n) (fun x => n - x) 0 aH (Nat.zero_le _) ⟨rfl, rfl, trivial⟩ rfl ?_
 rintro x hx
 refine wH ?_
 by_cases hxn : x < n
 · have hsn : (prX (x + 1)).foldl (prinF n ops) [] = ((List.range x).map fun y => (x, y)).foldl (prinF n ops) ((prX x).foldl (prinF n ops) []) := by rw [prX_succ, List.foldl_append]
   have hL0 : ∀ q ∈ (prX x).foldl (prinF n ops) [], okC n q := prinF_ok ho _ _ (fun xy h => by
    unfold prX at h
    simp only [List.mem_flatMap, List.mem_range, List.mem_map] at h
    obtain ⟨a, ha, b, hb, rfl⟩ := h
    exact ⟨by dsimp only; omega, by dsimp only; omega⟩) (fun q h => by simp at h)
   have hlen0 := prin_len (n := n) (ops := ops) (prX x) []
   have hpl := prX_len x
   have hxx : x * x ≤ 64 := Nat.le_trans (Nat.mul_le_mul (show x ≤ 8 by omega) (show x ≤ 8 by omega)) (by decide)
   rw [List.length_nil, Nat.zero_add] at hlen0
   generalize (prX x).foldl (prinF n ops) [] = L0 at *
   repeat' (first
| refine wO ?_
| (refine o_go rfl ?_; (first
| refine wS ?_); refine ⟨_, aA, ?_⟩)
| (refine zK rfl ?_ ?_ <;> intro hc <;> try omega)
| refine wE ?_)
   all_goals try (exfalso; omega)
   refine g_loopT (α := Nat) (fun y => [(5, intss (((List.range y).map fun y => (x, y)).foldl (prinF n ops) L0)), (7, I (y : Int))]) (fun _ => []) (fun y => y ≤ x) (fun y => x - y) 0 aH (Nat.zero_le _) ⟨rfl, rfl, trivial⟩ rfl ?_
   rintro y hy
   refine wH ?_
   by_cases hyx : y < x
   · have h1 := sprin_c n ops x y hn hl ho hxn (by omega)
     have hL1 : ∀ q ∈ ((List.range y).map fun y => (x, y)).foldl (prinF n ops) L0, okC n q := prinF_ok ho _ _ (fun xy h => by
      simp only [List.mem_map, List.mem_range] at h
      obtain ⟨b, hb, rfl⟩ := h
      exact ⟨hxn, by dsimp only; omega⟩) hL0
     have hlen1 := prin_len (n := n) (ops := ops) ((List.range y).map fun y => (x, y)) L0
     rw [List.length_map, List.length_range] at hlen1
     have h2 := sput_c n (((List.range y).map fun y => (x, y)).foldl (prinF n ops) L0) (cgL n ops x y) (by omega) hL1 (cg_lst ho hxn (by omega)).pt.okC (by omega)
     have hst : putC n (((List.range y).map fun y => (x, y)).foldl (prinF n ops) L0) (cgL n ops x y) = ((List.range (y + 1)).map fun y => (x, y)).foldl (prinF n ops) L0 := by rw [range_snoc, List.foldl_append]; rfl
     rw [hst] at h2
     repeat' (first
| refine wO ?_
| (refine o_go rfl ?_; (first
| refine p_p (zG rfl rfl aD (h1)) ?_
| refine p_p (zG rfl rfl aD (h2)) ?_
| refine wS ?_
| refine p_p (ps_load_agg rfl rfl aK) ?_); refine ⟨_, aA, ?_⟩)
| (refine zK rfl ?_ ?_ <;> intro hc <;> try omega)
| refine wE ?_)
     all_goals try (exfalso; omega)
     exact zT (y + 1) (by omega) (by omega) aI ⟨rfl, rfl, trivial⟩ (zM _)
   · repeat' (first
| refine wO ?_
| (refine o_go rfl ?_; (first
| refine wS ?_); refine ⟨_, aA, ?_⟩)
| (refine zK rfl ?_ ?_ <;> intro hc <;> try omega)
| refine wE ?_)
     all_goals try (exfalso; omega)
     refine zT (K := fun _ _ => True) (x + 1) (by omega) (by omega) aI ⟨?_, rfl, trivial⟩ (zM _)
     rw [hsn, show y = x by omega]; rfl
 have hQe : (prX x).foldl (prinF n ops) [] = prinL n ops := by rw [show x = n by omega]; rfl
 rw [hQe]
 have hQ := prin_Q n ops
 have hQl := prin_len (n := n) (ops := ops) (prPairs n) []
 have hQl2 : (prPairs n).length ≤ 64 := by
  have := prX_len n
  have : n * n ≤ 64 := Nat.le_trans (Nat.mul_le_mul hn hn) (by decide)
  show (prX n).length ≤ 64
  omega
 rw [List.length_nil, Nat.zero_add] at hQl
 have hQl3 : (prinL n ops).length ≤ 64 := Nat.le_trans hQl hQl2
 unfold mostV
 generalize prinL n ops = Q at *
 clear hQe hQl
 have h1 := sident_c n (by omega)
 repeat' ((fail_if_success (refine at_reg1 10 ?_)); (first
| refine wO ?_
| (refine o_go rfl ?_; (first
| refine p_p (zG rfl rfl aD (h1)) ?_
| refine wS ?_
| refine p_p (ps_lit1 rfl rfl (by rfl) (by rfl)) ?_); refine ⟨_, aA, ?_⟩)
| (refine zK rfl ?_ ?_ <;> intro hc <;> try omega)
| refine g_exit ?_))
 all_goals try (exfalso; omega)
 repeat' (first
| refine wO ?_
| (refine o_go rfl ?_; (first
| refine p_p (zG rfl rfl aD (h1)) ?_
| refine p_e rfl (e_lit1N rfl rfl rfl) ?_
| refine wS ?_); refine ⟨_, aA, ?_⟩))
 refine g_loopF (α := Nat) [39] (fun k => [(8, intss (mRun n most Q k).1), (9, .hp 0), (10, I (k : Int))]) (fun k => [lnO (mRun n most Q k).2]) (fun k => k ≤ (mRun n most Q k).2.length) (fun k => most + 2 - k) 0 aH (Nat.zero_le _) ⟨rfl, rfl, rfl, trivial⟩ rfl ?_
 rintro k hk
 refine wH ?_
 obtain ⟨hI, -⟩ := mRun_inv (most := most) ho hQ k
 have hIl := hI.len
 have hIe := hI.le
 have hll : ((mRun n most Q k).2.map ints).length = (mRun n most Q k).2.length := List.length_map _
 by_cases hkl : k < (mRun n most Q k).2.length
 · by_cases hom : (mRun n most Q k).1.length ≤ most
   · have hrs : mRun n most Q (k + 1) = mInn n most Q ((mRun n most Q k).2.getD k []) (mRun n most Q k) Q.length := by rw [mRun, if_pos ⟨hkl, hom⟩]
     have hpm := rows_mem hkl
     have hIn := fun i hi => mInn_inv ho hQ hI hpm i hi
     have hpc := hI.inv.ok _ hpm
     have hpat : ∀ i, i ≤ Q.length → (mInn n most Q ((mRun n most Q k).2.getD k []) (mRun n most Q k) i).2[k]? = some ((mRun n most Q k).2.getD k []) := fun i hi => by
      obtain ⟨-, ⟨l, e⟩, -⟩ := hIn i hi
      rw [e, List.getElem?_append_left hkl, List.getElem?_eq_getElem hkl, List.getD_eq_getElem?_getD, List.getElem?_eq_getElem hkl]; rfl
     generalize hpe : (mRun n most Q k).2.getD k [] = p at *
     generalize mRun n most Q k = st at *
     repeat' (first
| refine wO ?_
| (refine o_go rfl ?_; (first
| refine wS ?_); refine ⟨_, aA, ?_⟩)
| (refine o_splitD rfl rfl rfl ?_ ?_ <;> intro hc <;> first | omega | dsimp only [List.set_cons_zero, List.set_cons_succ])
| (refine zK rfl ?_ ?_ <;> intro hc <;> try omega)
| refine wE ?_)
     all_goals try (exfalso; omega)
     refine g_loopF (α := Nat) [41] (fun i => [(8, intss (mInn n most Q p st i).1), (9, .hp 0), (11, I (i : Int))]) (fun i => [lnO (mInn n most Q p st i).2]) (fun i => i ≤ Q.length) (fun i => Q.length - i) 0 aH (Nat.zero_le _) ⟨rfl, rfl, rfl, trivial⟩ rfl ?_
     rintro i hi
     refine wH ?_
     obtain ⟨hJ, ⟨l, hl2⟩, -⟩ := hIn i hi
     have hJl := hJ.len
     have hJe := hJ.le
     have hstl : st.2.length ≤ (mInn n most Q p st i).2.length := by rw [hl2]; simp
     have hpai := hpat i hi
     by_cases hiq : i < Q.length
     · by_cases hom2 : (mInn n most Q p st i).1.length ≤ most
       · have hsi := mInn_succ (n := n) (most := most) (p := p) (st := st) hiq
         have hqm := rows_mem hiq
         have hrq := rows_at hiq
         have hqc := hQ.cong ho hqm
         have h3 := sjoin_c n p (Q.getD i []) (by omega) hpc.1.len hqc.1
         have hjc := join_pt hpc.1 hqc.1
         have h4 := sput_c n (mInn n most Q p st i).1 (joinP n p (Q.getD i [])) (by omega) (fun r hr => (hJ.inv.ok r ((hJ.mem r).1 hr)).1.okC) hjc.okC (by omega)
         have hml : ((mInn n most Q p st i).2.map ints).length = (mInn n most Q p st i).2.length := List.length_map _
         have hrow : ((mInn n most Q p st i).2.map ints)[((k : Nat) : Int).toNat]? = some (ints p) := by rw [Int.toNat_natCast, List.getElem?_map, hpai]; rfl
         unfold mStep at hsi
         rw [if_pos hom2] at hsi
         by_cases hin : joinP n p (Q.getD i []) ∈ (mInn n most Q p st i).1
         · rw [if_pos hin] at hsi
           rw [putC_same hJ.asc hin] at h4
           generalize mInn n most Q p st i = T at *
           generalize joinP n p (Q.getD i []) = r at *
           repeat' (first
| refine wO ?_
| refine zP zk zk ?_
| (refine o_go rfl ?_; (first
| refine p_p (zN rfl rfl rfl zz hrow ze) ?_
| refine p_p (zN rfl rfl rfl zz hrq ze) ?_
| refine p_p (zG rfl rfl aD (h3)) ?_
| refine p_p (zG rfl rfl aD (h4)) ?_
| refine wS ?_); refine ⟨_, aA, ?_⟩)
| (refine o_splitD rfl rfl rfl ?_ ?_ <;> intro hc <;> first | omega | dsimp only [List.set_cons_zero, List.set_cons_succ])
| (refine zK rfl ?_ ?_ <;> intro hc <;> try omega)
| refine wE ?_)
           all_goals try (exfalso; omega)
           refine zT (i + 1) (by omega) (by omega) aI ⟨?_, rfl, rfl, trivial⟩ (zB ?_ (zM _))
           · rw [hsi]; rfl
           · rw [hsi]
         · rw [if_neg hin] at hsi
           have hpl := putC_len (n := n) hin
           generalize mInn n most Q p st i = T at *
           generalize joinP n p (Q.getD i []) = r at *
           generalize putC n T.1 r = W at *
           repeat' (first
| refine wO ?_
| refine zP zk zk ?_
| (refine o_go rfl ?_; (first
| refine p_p (zN rfl rfl rfl zz hrow ze) ?_
| refine p_p (zN rfl rfl rfl zz hrq ze) ?_
| refine p_p (zG rfl rfl aD (h3)) ?_
| refine p_p (zG rfl rfl aD (h4)) ?_
| refine p_e zk (e_append rfl rfl rfl rfl rfl rfl (one_one rfl) rfl zn zn) ?_
| refine wS ?_
| refine p_p (ps_lit1 rfl rfl (by rfl) (by rfl)) ?_); refine ⟨_, aA, ?_⟩)
| (refine o_splitD rfl rfl rfl ?_ ?_ <;> intro hc <;> first | omega | dsimp only [List.set_cons_zero, List.set_cons_succ])
| (refine zK rfl ?_ ?_ <;> intro hc <;> try omega)
| refine wE ?_)
           all_goals try (exfalso; omega)
           refine zT (i + 1) (by omega) (by omega) aI ⟨?_, rfl, rfl, trivial⟩ (zB ?_ (zM _))
           · rw [hsi]; rfl
           · rw [hsi]
             show HO.arr false 1 _ _ = HO.arr false 1 _ ((T.2 ++ [r]).map ints)
             rw [List.map_append]; rfl
       · have hfin : mInn n most Q p st i = mInn n most Q p st Q.length := by
          have := mInn_stop hom2 (Q.length - i) (by omega)
          rw [show i + (Q.length - i) = Q.length by omega] at this
          exact this.symm
         repeat' (first
| refine wO ?_
| (refine o_go rfl ?_; (first
| refine wS ?_); refine ⟨_, aA, ?_⟩)
| (refine o_splitD rfl rfl rfl ?_ ?_ <;> intro hc <;> first | omega | dsimp only [List.set_cons_zero, List.set_cons_succ])
| (refine zK rfl ?_ ?_ <;> intro hc <;> try omega)
| refine wE ?_)
         all_goals try (exfalso; omega)
         refine zT (K := fun _ _ => True) (k + 1) ?_ (by omega) aI ⟨?_, rfl, rfl, trivial⟩ (zB ?_ (zM _))
         · rw [hrs, ← hfin]; omega
         · rw [hrs, ← hfin]; rfl
         · rw [hrs, ← hfin]
     · have hfin : mInn n most Q p st i = mInn n most Q p st Q.length := by rw [show i = Q.length by omega]
       repeat' (first
| refine wO ?_
| (refine o_go rfl ?_; (first
| refine wS ?_); refine ⟨_, aA, ?_⟩)
| (refine o_s rfl ?_; refine ⟨_, aA, ?_⟩)
| (refine o_splitD rfl rfl rfl ?_ ?_ <;> intro hc <;> first | omega | dsimp only [List.set_cons_zero, List.set_cons_succ])
| refine wE ?_)
       all_goals try (exfalso; omega)
       refine zT (K := fun _ _ => True) (k + 1) ?_ (by omega) aI ⟨?_, rfl, rfl, trivial⟩ (zB ?_ (zM _))
       · rw [hrs, ← hfin]; omega
       · rw [hrs, ← hfin]; rfl
       · rw [hrs, ← hfin]
   · have hend := mRun_end (most := most) ho hQ (k := k) (fun h => hom h.2)
     rw [← hend]
     repeat' (first
| refine wO ?_
| (refine o_go rfl ?_; (first
| refine wS ?_); refine ⟨_, aA, ?_⟩)
| (refine o_splitD rfl rfl rfl ?_ ?_ <;> intro hc <;> first | omega | dsimp only [List.set_cons_zero, List.set_cons_succ])
| (refine zK rfl ?_ ?_ <;> intro hc <;> try omega)
| refine kr1 ?_
| refine krS rfl ?_
| refine wE ?_)
     all_goals first | rfl | (exfalso; omega)
 · have hend := mRun_end (most := most) ho hQ (k := k) (fun h => hkl h.1)
   rw [← hend]
   repeat' (first
| refine wO ?_
| (refine o_go rfl ?_; (first
| refine wS ?_); refine ⟨_, aA, ?_⟩)
| (refine o_s rfl ?_; refine ⟨_, aA, ?_⟩)
| (refine o_splitD rfl rfl rfl ?_ ?_ <;> intro hc <;> first | omega | dsimp only [List.set_cons_zero, List.set_cons_succ])
| refine kr1 ?_
| refine krS rfl ?_
| refine wE ?_)
   all_goals first | rfl | (exfalso; omega)
noncomputable def acB (n : Int) (ops : List OpD) : Bool := algOk n ops && decide ((allL n.toNat ops).length ≤ 200)
noncomputable def acV (n : Int) (ops : List OpD) : List (List Int) := if acB n ops then allL n.toNat ops else []
end Go.Proofs.YtbohjibbgppfaaaGreat
namespace Go.Proofs.YtbohjibbgppfaaaGreat
open Go Go.Pv Go.Proofs
theorem alk_of {n m : Nat} {A B : List OpD} (hn : 0 < n) (hm : 0 < m) (hA : opsIn n A) (hB : opsIn m B) (ht : sameT A B) : Alk n A m B := by
 have mem : ∀ {n : Nat} {C : List OpD} {k : Nat}, opsIn n C → k < C.length → 0 ≤ (C.getD k default).ar ∧ (C.getD k default).ar ≤ 3 ∧ (C.getD k default).tb.length = n ^ (C.getD k default).ar.toNat ∧ ∀ i, i < n ^ (C.getD k default).ar.toNat → 0 ≤ (C.getD k default).tb.getD i 0 ∧ bk (C.getD k default).tb i < n := fun h hk => h _ (by rw [List.getD_eq_getElem?_getD, List.getElem?_eq_getElem hk]; exact List.getElem_mem _)
 refine ⟨hn, hm, fun k hk => ⟨ht.at k, fun i hi => ((mem hA hk).2.2.2 i hi).2, fun j hj => ?_⟩, fun k hk => (mem hA hk).2.2.1⟩
 have h := (mem hB (show k < B.length by rw [← ht.len]; exact hk)).2.2.2 j (by rw [← ht.at k]; exact hj)
 unfold bk at h
 omega
theorem argsL_s (n k i : Nat) : argsL n (k + 1) i = argsL n k (i / n) ++ [((i % n : Nat) : Int)] := rfl
section
variable {n n1 n2 : Nat} {φ1 φ2 : Nat → Nat} (hn : 0 < n) (h1 : ∀ x, x < n → φ1 x < n1) (h2 : ∀ x, x < n → φ2 x < n2)
include hn h1 h2
theorem pair_lt {x : Nat} (hx : x < n) : φ1 x * n2 + φ2 x < n1 * n2 := by
 have a := h1 x hx
 have b := h2 x hx
 calc φ1 x * n2 + φ2 x < φ1 x * n2 + n2 := by omega
  _ = (φ1 x + 1) * n2 := by rw [Nat.add_mul, Nat.one_mul]
  _ ≤ n1 * n2 := Nat.mul_le_mul_right _ a
theorem mapI_facQ : ∀ a i, idxL n1 (facQ (n1 * n2) n2 a (mapI n (n1 * n2) (fun x => φ1 x * n2 + φ2 x) a i)) = (mapI n n1 φ1 a i : Int)
 | 0, _ => rfl
 | a + 1, i => by
  have hlt := fun x (hx : x < n) => pair_lt hn h1 h2 hx
  have hm := Nat.mod_lt i hn
  have h20 : 0 < n2 := Nat.lt_of_le_of_lt (Nat.zero_le _) (h2 _ hm)
  have ih := mapI_facQ a (i / n)
  unfold facQ at ih ⊢
  rw [argsL_s, mapI_div hn hlt, mapI_mod hn hlt, List.map_append, List.map_cons, List.map_nil, idxL_snoc]
  rw [ih]
  have e : (((φ1 (i % n) * n2 + φ2 (i % n) : Nat) : Int)) / (n2 : Int) = (φ1 (i % n) : Int) := by
   rw [← Int.natCast_ediv, Nat.mul_comm, Nat.mul_add_div h20, Nat.div_eq_of_lt (h2 _ hm), Nat.add_zero]
  rw [e]
  show _ = ((mapI n n1 φ1 a (i / n) * n1 + φ1 (i % n) : Nat) : Int)
  rw [Int.natCast_add, Int.natCast_mul]
theorem mapI_facR : ∀ a i, idxL n2 (facR (n1 * n2) n2 a (mapI n (n1 * n2) (fun x => φ1 x * n2 + φ2 x) a i)) = (mapI n n2 φ2 a i : Int)
 | 0, _ => rfl
 | a + 1, i => by
  have hlt := fun x (hx : x < n) => pair_lt hn h1 h2 hx
  have hm := Nat.mod_lt i hn
  have ih := mapI_facR a (i / n)
  unfold facR at ih ⊢
  rw [argsL_s, mapI_div hn hlt, mapI_mod hn hlt, List.map_append, List.map_cons, List.map_nil, idxL_snoc]
  rw [ih]
  have e : (((φ1 (i % n) * n2 + φ2 (i % n) : Nat) : Int)) % (n2 : Int) = (φ2 (i % n) : Int) := by
   rw [← Int.natCast_emod, Nat.mul_comm, Nat.mul_add_mod, Nat.mod_eq_of_lt (h2 _ hm)]
  rw [e]
  show _ = ((mapI n n2 φ2 a (i / n) * n2 + φ2 (i % n) : Nat) : Int)
  rw [Int.natCast_add, Int.natCast_mul]
end
theorem opsK_quo {n : Nat} {p : List Int} {A : List OpD} {k : Nat} (hk : k < A.length) : (quoL n p A).getD k default = quoF n p (A.getD k default) := by
 unfold quoL
 simp [List.getD_eq_getElem?_getD, hk]
theorem opsK_prod {n m : Nat} {A B : List OpD} {k : Nat} (hk : k < A.length) : (prodL n m A B).getD k default = prodF (n * m) n m (A.getD k default) (B.getD k default) := by
 unfold prodL prodK
 rw [List.getD_eq_getElem?_getD, List.getElem?_map, List.getElem?_range hk]; rfl
theorem quo_len (n : Nat) (p : List Int) (A : List OpD) : (quoL n p A).length = A.length := by simp [quoL]
theorem quo_same (n : Nat) (p q : List Int) (A : List OpD) : sameT (quoL n p A) (quoL n q A) := by
 unfold sameT quoL
 rw [List.map_map, List.map_map]; rfl
theorem prodT_bk {N n m k j : Nat} {f g : OpD} (h : j < k) : bk (prodT N n m f g k) j = (prodC N n m f g j).toNat := by
 unfold bk prodT
 rw [List.getD_eq_getElem?_getD, List.getElem?_map, List.getElem?_range h]; rfl
theorem iso_prod {n : Nat} {p q : List Int} {A : List OpD} (hn : 0 < n) (hA : opsIn n A) (hp : Pt n p) (hq : Pt n q) (cp : Cong n A p) (cq : Cong n A q) (hm : ∀ x y, x < n → y < n → bk p x = bk p y → bk q x = bk q y → x = y) :
 IsoH n A ((lstN p n).length * (lstN q n).length) (prodL (lstN p n).length (lstN q n).length (quoL n p A) (quoL n q A)) (fun x => nmN p x * (lstN q n).length + nmN q x) := by
 have h1 := fun x (hx : x < n) => nm_lt hp hx
 have h2 := fun x (hx : x < n) => nm_lt hq hx
 refine ⟨fun x hx => pair_lt hn h1 h2 hx, fun x y hx hy e => ?_, fun k hk i hi => ?_⟩
 · have e : nmN p x * (lstN q n).length + nmN q x = nmN p y * (lstN q n).length + nmN q y := e
   have a := h2 x hx
   have b := h2 y hy
   have e1 : nmN q x = nmN q y := by
    have := congrArg (· % (lstN q n).length) e
    simpa only [Nat.mul_comm _ (lstN q n).length, Nat.mul_add_mod, Nat.mod_eq_of_lt a, Nat.mod_eq_of_lt b] using this
   have e2 : nmN p x = nmN p y := by
    rw [e1] at e
    exact Nat.eq_of_mul_eq_mul_right (Nat.lt_of_le_of_lt (Nat.zero_le _) a) (Nat.add_right_cancel e)
   exact hm x y hx hy ((nm_eq hp hx hy).1 e2) ((nm_eq hq hx hy).1 e1)
 · have hf : A.getD k default ∈ A := by rw [List.getD_eq_getElem?_getD, List.getElem?_eq_getElem hk]; exact List.getElem_mem _
   rw [opsK_prod (by rw [quo_len]; exact hk), opsK_quo hk, opsK_quo hk]
   generalize A.getD k default = f at *
   have hj := mapI_lt (m := (lstN p n).length * (lstN q n).length) hn (fun x hx => pair_lt hn h1 h2 hx) f.ar.toNat i
   have hb := ((hA f hf).2.2.2 i hi).2
   have g1 := quo_hom hn hp hA cp hf hi
   have g2 := quo_hom hn hq hA cq hf hi
   have z1 := ((quo_in hn hp hA (quoF n p f) (List.mem_map.2 ⟨f, hf, rfl⟩)).2.2.2 _ (mapI_lt hn h1 f.ar.toNat i)).1
   have z2 := ((quo_in hn hq hA (quoF n q f) (List.mem_map.2 ⟨f, hf, rfl⟩)).2.2.2 _ (mapI_lt hn h2 f.ar.toNat i)).1
   show nmN p (bk f.tb i) * (lstN q n).length + nmN q (bk f.tb i) = bk (prodT _ _ _ _ _ _) _
   rw [prodT_bk (by exact hj)]
   unfold prodC
   rw [show (quoF n p f).ar = f.ar from rfl, mapI_facQ hn h1 h2, mapI_facR hn h1 h2, Int.toNat_natCast, Int.toNat_natCast, g1, g2]
   unfold bk
   generalize (quoF n p f).tb.getD _ 0 = u at *
   generalize (quoF n q f).tb.getD _ 0 = v at *
   obtain ⟨u, rfl⟩ := Int.eq_ofNat_of_zero_le z1
   obtain ⟨v, rfl⟩ := Int.eq_ofNat_of_zero_le z2
   rw [Int.toNat_natCast, Int.toNat_natCast, ← Int.natCast_mul, ← Int.natCast_add, Int.toNat_natCast]
end Go.Proofs.YtbohjibbgppfaaaGreat
namespace Go.Proofs.YtbohjibbgppfaaaGreat
open Go Go.Pv Go.Proofs
set_option maxHeartbeats 32000000
set_option maxRecDepth 100000
def szN (n : Int) : Prop := (0 ≤ n ∧ n ≤ 5) ∨ n = 9
theorem knownB_c (k : Int) : ∃ n ops, smA ops ∧ szN n ∧ PCalls Tryz.prog 193 [I k] (algP n ops) := by
 by_cases h : k < 0 ∨ 16 ≤ k
 · refine ⟨2, [], smA_nil, .inl ⟨by decide, by decide⟩, ?_⟩
   exact pcalls_le2 (knownX_c k h) (agg2_le (PV.le_nil 2))
 have h16 : k = 0 ∨ k = 1 ∨ k = 2 ∨ k = 3 ∨ k = 4 ∨ k = 5 ∨ k = 6 ∨ k = 7 ∨ k = 8 ∨ k = 9 ∨ k = 10 ∨ k = 11 ∨ k = 12 ∨ k = 13 ∨ k = 14 ∨ k = 15 := by omega
 rcases h16 with rfl | rfl | rfl | rfl | rfl | rfl | rfl | rfl | rfl | rfl | rfl | rfl | rfl | rfl | rfl | rfl
 · exact ⟨_, _, smA_cons (smA_nil) (by decide) (by rw [binL_len]; decide), .inl ⟨by decide, by decide⟩, known0_c⟩
 · exact ⟨_, _, smA_cons (smA_cons (smA_nil) (by decide) (by rw [binL_len]; decide)) (by decide) (by rw [binL_len]; decide), .inl ⟨by decide, by decide⟩, known1_c⟩
 · exact ⟨_, _, smA_cons (smA_cons (smA_cons (smA_nil) (by decide) (by decide)) (by decide) (by rw [binL_len]; decide)) (by decide) (by rw [binL_len]; decide), .inl ⟨by decide, by decide⟩, known2_c⟩
 · exact ⟨_, _, smA_cons (smA_nil) (by decide) (by rw [affL_len]; decide), .inl ⟨by decide, by decide⟩, known3_c⟩
 · exact ⟨_, _, smA_cons (smA_nil) (by decide) (by rw [binL_len]; decide), .inl ⟨by decide, by decide⟩, known4_c⟩
 · exact ⟨_, _, smA_cons (smA_nil) (by decide) (by rw [binL_len]; decide), .inl ⟨by decide, by decide⟩, known5_c⟩
 · exact ⟨_, _, smA_cons (smA_nil) (by decide) (by rw [binL_len]; decide), .inl ⟨by decide, by decide⟩, known6_c⟩
 · exact ⟨_, _, smA_cons (smA_cons (smA_nil) (by decide) (by rw [binL_len]; decide)) (by decide) (by rw [binL_len]; decide), .inl ⟨by decide, by decide⟩, known7_c⟩
 · exact ⟨_, _, smA_cons (smA_nil) (by decide) (by decide), .inl ⟨by decide, by decide⟩, known8_c⟩
 · exact ⟨_, _, smA_cons (smA_nil) (by decide) (by decide), .inl ⟨by decide, by decide⟩, known9_c⟩
 · exact ⟨_, _, smA_cons (smA_nil) (by decide) (by rw [binL_len]; decide), .inl ⟨by decide, by decide⟩, known10_c⟩
 · exact ⟨_, _, smA_cons (smA_cons (smA_nil) (by decide) (by rw [binL_len]; decide)) (by decide) (by rw [binL_len]; decide), .inl ⟨by decide, by decide⟩, known11_c⟩
 · exact ⟨_, _, smA_cons (smA_nil) (by decide) (by rw [binL_len]; decide), .inl ⟨by decide, by decide⟩, known12_c⟩
 · exact ⟨_, _, smA_cons (smA_cons (smA_nil) (by decide) (by decide)) (by decide) (by decide), .inl ⟨by decide, by decide⟩, known13_c⟩
 · exact ⟨_, _, smA_cons (smA_nil) (by decide) (by rw [binL_len]; decide), .inl ⟨by decide, by decide⟩, known14_c⟩
 · exact ⟨_, _, smA_cons (smA_nil) (by decide) (by rw [affL_len]; decide), .inl ⟨by decide, by decide⟩, known15_c⟩
theorem algEnd_exB {n : Nat} {c : Cu} {M : Int} (h : c.ok M) (hM : M ≤ 900000) (hn : n = 2 ∨ n = 3 ∨ n = 4) (f : OpD) (l : List OpD) (hl : l.length ≤ 1) (ht : ∀ g ∈ f :: l, g.tb.length ≤ 27) (ht1 : 1 ≤ f.tb.length) (y : Int) :
 ∃ n' ops' c', AlgEnd n c (f :: l) y n' ops' c' ∧ c'.ok (M + 20) ∧ smA ops' ∧ szN n' := by
 have hzn : szN (n : Int) := .inl ⟨by omega, by omega⟩
 have hf := ht f (List.mem_cons_self ..)
 have hl' : ∀ g ∈ l, g.tb.length ≤ 30 := fun g hg => Nat.le_trans (ht g (List.mem_cons_of_mem _ hg)) (by decide)
 have sm0 : ∀ g : OpD, g.tb.length ≤ 30 → smA (g :: l) := fun g hg => smA_app (by rw [List.length_cons]; omega) fun x hx => by
  rcases List.mem_cons.1 hx with rfl | hx
  · exact hg
  · exact hl' x hx
 by_cases y0 : y = 0
 · obtain ⟨c', z, k1, hz, hc⟩ := among_L h (by omega) [0, 9, (n : Int) + 1] (by simp) (by simp)
   simp only [List.mem_cons, List.not_mem_nil, or_false] at hz
   exact ⟨z, _, c', .size z c' y0 hc, k1.up (by omega), sm0 f (by omega), by unfold szN; omega⟩
 by_cases y1 : y = 1
 · exact ⟨_, _, _, .more f l y1 rfl, h.up (by omega), sm0 _ (by simp; omega), hzn⟩
 by_cases y2 : y = 2
 · obtain ⟨c1, p, k1, p0, p1, hc1⟩ := pick_L h (by omega) (f.tb.length : Int) (by omega)
   obtain ⟨c', v, k2, -, hc2⟩ := among_L k1 (by omega) [-1, (n : Int)] (by simp) (by simp)
   exact ⟨_, _, _, .cell f l p v c1 c' y2 rfl p0 (by omega) hc1 hc2, k2.up (by omega), sm0 _ (by simp; omega), hzn⟩
 by_cases y3 : y = 3
 · obtain ⟨c', v, k1, -, hc⟩ := among_L h (by omega) [-1, 4] (by simp) (by simp)
   exact ⟨_, _, _, .ar f l v c' y3 rfl hc, k1.up (by omega), sm0 _ (by simp; omega), hzn⟩
 by_cases y4 : y = 4
 · obtain ⟨E, E0, E1, E2⟩ := seq_of (fun t (s : Cu × Int) => s.1.ok (M + 2 * (t : Int)) ∧ 0 ≤ s.2 ∧ s.2 ≤ 1) (fun t s s' => LCalls Tryz.prog 186 (cuB s.1) [.hat 0 0, I 2] (cuB s'.1) (I s'.2)) ((c, 0) : Cu × Int) 6 ⟨by simpa using h, Int.le_refl _, Int.zero_le_ofNat 1⟩ fun t s ht ⟨k0, _, _⟩ => by
    obtain ⟨c', x, k1, x0, x1, hc⟩ := pick_L k0 (by omega) 2 (by omega)
    exact ⟨(c', x), ⟨by rw [show M + 2 * ((t + 1 : Nat) : Int) = M + 2 * (t : Int) + 2 by omega]; exact k1, x0, by omega⟩, hc⟩
   have hE : ∀ t, t < 6 → 0 ≤ (E (t + 1)).2 ∧ (E (t + 1)).2 ≤ 1 := fun t ht => (E1 (t + 1) (by omega)).2
   obtain ⟨R, hR, hR1, hR2⟩ : ∃ R, R ≤ 5 ∧ (∀ t, t < R → (((f :: l).length + t : Nat) : Int) < 4 + (E (t + 1)).2) ∧ ¬ (((f :: l).length + R : Nat) : Int) < 4 + (E (R + 1)).2 := by
    have hex : ∃ R, ¬ (((f :: l).length + R : Nat) : Int) < 4 + (E (R + 1)).2 ∧ R ≤ 5 := ⟨5, by have := hE 5 (by decide); rw [List.length_cons]; omega, Nat.le_refl _⟩
    obtain ⟨R, ⟨r1, r2⟩, r3⟩ := least_of hex
    exact ⟨R, r2, fun t ht => Classical.byContradiction fun hh => r3 t ht ⟨hh, by omega⟩, r1⟩
   have hlen : (f :: l).length ≤ 2 := by rw [List.length_cons]; omega
   refine ⟨_, _, _, .fill E R y4 (by rw [E0]) hR (fun t ht => E2 t (by omega)) (fun t ht => hE t (by omega)) hR1 hR2, (E1 (R + 1) (by omega)).1.up (by omega), ?_, hzn⟩
   have hRR : (f :: l).length + R ≤ 6 := by
    rcases Nat.eq_zero_or_pos R with rfl | hp
    · omega
    · have := hR1 (R - 1) (by omega); have := hE (R - 1) (by omega); omega
   refine smA_app (by rw [List.length_append, List.length_replicate]; exact hRR) fun g hg => ?_
   rcases List.mem_append.1 hg with hg | hg
   · exact Nat.le_trans (ht g hg) (by decide)
   · rw [(List.mem_replicate.1 hg).2, List.length_replicate]; omega
 · exact ⟨_, _, _, .none (by omega), h.up (by omega), sm0 f (by omega), hzn⟩
theorem algebra_B {c : Cu} {M : Int} (h : c.ok M) (hM : M ≤ 600000) : ∃ c' n ops, c'.ok (M + 1000) ∧ smA ops ∧ szN n ∧ LCalls Tryz.prog 125 (cuB c) [.hat 0 0] (cuB c') (algP n ops) := by
 obtain ⟨c1, b, k1, h1⟩ := one_L h (by omega) 4 (by decide)
 cases b with
 | false =>
  obtain ⟨c2, x, k2, -, -, h2⟩ := pick_L k1 (by omega) 17 (by decide)
  obtain ⟨n, ops, hs, hz, h3⟩ := knownB_c x
  exact ⟨c2, n, ops, k2.up (by omega), hs, hz, alg_w0 h1 h2 h3⟩
 | true =>
  obtain ⟨c2, x, k2, hx, h2⟩ := among_L k1 (by omega) [2, 2, 3, 3, 4] (by decide) (by decide)
  obtain ⟨n, rfl, hn⟩ : ∃ n : Nat, x = (n : Int) ∧ (n = 2 ∨ n = 3 ∨ n = 4) := by
   simp only [List.mem_cons, List.not_mem_nil, or_false] at hx
   exact ⟨x.toNat, by omega, by omega⟩
  obtain ⟨c3, y, k3, hy, h3⟩ := among_L k2 (by omega) [1, 1, 2] (by decide) (by decide)
  obtain ⟨K, rfl, hK⟩ : ∃ n : Nat, y = (n : Int) ∧ (n = 1 ∨ n = 2) := by
   simp only [List.mem_cons, List.not_mem_nil, or_false] at hy
   exact ⟨y.toNat, by omega, by omega⟩
  obtain ⟨D, D0, D1, D2⟩ := seq_of (fun i (s : Cu × List OpD) => s.1.ok (M + 6 + 100 * (i : Int)) ∧ s.2.length = i ∧ ∀ f ∈ s.2, 1 ≤ f.tb.length ∧ f.tb.length ≤ 27)
   (fun i s s' => ∃ f c', Nonempty (OpDr n s.1 f c') ∧ 1 ≤ f.tb.length ∧ f.tb.length ≤ 27 ∧ s' = (c', s.2 ++ [f])) ((c3, []) : Cu × List OpD) K ⟨k3.up (by omega), rfl, fun f hf => by simp at hf⟩ fun i s hi ⟨s1, s2, s3⟩ => by
    obtain ⟨f, c', hN, hc, t1, t2⟩ := opdr_ex s1 (by omega) hn
    refine ⟨(c', s.2 ++ [f]), ⟨by rw [show M + 6 + 100 * ((i + 1 : Nat) : Int) = M + 6 + 100 * (i : Int) + 100 by omega]; exact hc, by simp [s2], fun g hg => ?_⟩, f, c', hN, t1, t2, rfl⟩
    rcases List.mem_append.1 hg with hg | hg
    · exact s3 g hg
    · rw [List.mem_singleton] at hg; subst hg; exact ⟨t1, t2⟩
  obtain ⟨q1, q2, q3⟩ := D1 K (Nat.le_refl _)
  obtain ⟨c5, z, k5, -, -, h4⟩ := pick_L q1 (by omega) 16 (by decide)
  obtain ⟨f, l, hfl⟩ : ∃ f l, (D K).2 = f :: l := by
   cases hd : (D K).2 with
   | nil => rw [hd] at q2; simp at q2; omega
   | cons f l => exact ⟨f, l, rfl⟩
  obtain ⟨n', ops', c', e1, e2, e3, e4⟩ := algEnd_exB k5 (by omega) hn f l (by rw [hfl] at q2; simp at q2; omega) (fun g hg => (q3 g (by rw [hfl]; exact hg)).2) (q3 f (by rw [hfl]; exact List.mem_cons_self ..)).1 z
  exact ⟨c', n', ops', e2.up (by omega), e3, e4, alg_w hn hK h1 h2 h3 D0 D2 (fun i hi => (D1 i hi).2.1) (fun i hi f hf => ((D1 i hi).2.2 f hf).2) h4 (by rw [hfl]; exact e1)⟩
end Go.Proofs.YtbohjibbgppfaaaGreat
