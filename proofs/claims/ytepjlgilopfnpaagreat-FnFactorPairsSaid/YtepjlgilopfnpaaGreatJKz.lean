/- Walks: all congruences, the reference's side, put together. -/
import Derived.Test.YtepjlgilopfnpaaGreatJKy
import Derived.Test.YtepjlgilopfnpaaGreatJSt
namespace Go.Proofs.YtepjlgilopfnpaaGreat
open Go Go.Pv Go.Proofs
set_option maxHeartbeats 32000000
set_option maxRecDepth 100000

abbrev lnO (L : List (List Int)) : HO := .arr false 1 27 (L.map ints)
def prX (x : Nat) : List (Nat × Nat) := (List.range x).flatMap fun x => (List.range x).map fun y => (x, y)
theorem prX_succ (x : Nat) : prX (x + 1) = prX x ++ (List.range x).map fun y => (x, y) := by
 unfold prX; rw [List.range_succ, List.flatMap_append]; simp
theorem prX_len (x : Nat) : (prX x).length ≤ x * x := by
 induction x with
 | zero => simp [prX]
 | succ x ih =>
  rw [prX_succ, List.length_append, List.length_map, List.length_range, Nat.add_mul, Nat.mul_add]
  omega
theorem prinF_ok {n : Nat} {ops : List OpD} (ho : opsIn n ops) : ∀ (P : List (Nat × Nat)) (L : List (List Int)), (∀ xy ∈ P, xy.1 < n ∧ xy.2 < n) → (∀ q ∈ L, okC n q) → ∀ q ∈ P.foldl (prinF n ops) L, okC n q := fun P L hP hL q hq => by
 rcases (prinF_mem P L q).1 hq with h | ⟨xy, h, rfl⟩
 · exact hL q h
 · exact (cg_lst ho (hP xy h).1 (hP xy h).2).pt.okC
theorem mInn_stop {n most : Nat} {Q : List (List Int)} {p : List Int} {st : MSt} {k : Nat} (h : ¬ (mInn n most Q p st k).1.length ≤ most) : ∀ m, k + m ≤ Q.length → mInn n most Q p st (k + m) = mInn n most Q p st k
 | 0, _ => rfl
 | m + 1, hm => by
  rw [← Nat.add_assoc, mInn_succ (by omega), mInn_stop h m (by omega), mStep, if_neg h]
theorem smost_cg (n : Nat) (ops : List OpD) (most : Nat) (hn0 : 0 < n) (hn : n ≤ 8) (hm : most ≤ 10000) (hl : ops.length ≤ 1048576) (ho : opsIn n ops) : PCalls Tryz.prog 118 [algP n ops, I (most : Int)] (intss (mostV n ops most)) := by
 refine pcalls1 Tryz.func118 rfl Tryz.ntmps118 rfl ?_
 refine wF ?_
 repeat' (first
| refine wO ?_
| (refine o_go rfl ?_; (first
| refine p_p (ps_lits rfl ze ze aU zd zd) ?_
| refine wS ?_
| refine p_p (ps_box rfl rfl) ?_); refine ⟨_, aB, ?_⟩))
 refine g_loopT (α := Nat) (fun x => [(5, intss ((prX x).foldl (prinF n ops) [])), (6, I (x : Int))]) (fun _ => []) (fun x => x ≤ n) (fun x => n - x) 0 aH (Nat.zero_le _) ⟨rfl, rfl, trivial⟩ rfl ?_
 rintro x hx
 refine wH ?_
 by_cases hxn : x < n
 · have hsn : (prX (x + 1)).foldl (prinF n ops) [] = ((List.range x).map fun y => (x, y)).foldl (prinF n ops) ((prX x).foldl (prinF n ops) []) := by rw [prX_succ, List.foldl_append]
   have hL0 : ∀ q ∈ (prX x).foldl (prinF n ops) [], okC n q := prinF_ok ho _ _ (fun xy h => by
    unfold prX at h
    simp only [List.mem_flatMap, List.mem_range, List.mem_map] at h
    obtain ⟨a, ha, b, hb, rfl⟩ := h
    exact ⟨by dsimp only; omega, by dsimp only; omega⟩) (fun q h => by simp at h)
   have hlen0 := prin_len (n := n) (ops := ops) (prX x) []
   have hpl := prX_len x
   have hxx : x * x ≤ 64 := Nat.le_trans (Nat.mul_le_mul (show x ≤ 8 by omega) (show x ≤ 8 by omega)) (by decide)
   rw [List.length_nil, Nat.zero_add] at hlen0
   generalize (prX x).foldl (prinF n ops) [] = L0 at *
   repeat' (first
| refine wO ?_
| (refine o_go rfl ?_; (first
| refine wS ?_); refine ⟨_, aB, ?_⟩)
| (refine zK rfl ?_ ?_ <;> intro hc <;> try omega)
| refine wE ?_)
   all_goals try (exfalso; omega)
   refine g_loopT (α := Nat) (fun y => [(5, intss (((List.range y).map fun y => (x, y)).foldl (prinF n ops) L0)), (7, I (y : Int))]) (fun _ => []) (fun y => y ≤ x) (fun y => x - y) 0 aH (Nat.zero_le _) ⟨rfl, rfl, trivial⟩ rfl ?_
   rintro y hy
   refine wH ?_
   by_cases hyx : y < x
   · have h1 := sprin_c n ops x y hn hl ho hxn (by omega)
     have hL1 : ∀ q ∈ ((List.range y).map fun y => (x, y)).foldl (prinF n ops) L0, okC n q := prinF_ok ho _ _ (fun xy h => by
      simp only [List.mem_map, List.mem_range] at h
      obtain ⟨b, hb, rfl⟩ := h
      exact ⟨hxn, by dsimp only; omega⟩) hL0
     have hlen1 := prin_len (n := n) (ops := ops) ((List.range y).map fun y => (x, y)) L0
     rw [List.length_map, List.length_range] at hlen1
     have h2 := sput_c n (((List.range y).map fun y => (x, y)).foldl (prinF n ops) L0) (cgL n ops x y) (by omega) hL1 (cg_lst ho hxn (by omega)).pt.okC (by omega)
     have hst : putC n (((List.range y).map fun y => (x, y)).foldl (prinF n ops) L0) (cgL n ops x y) = ((List.range (y + 1)).map fun y => (x, y)).foldl (prinF n ops) L0 := by rw [range_snoc, List.foldl_append]; rfl
     rw [hst] at h2
     repeat' (first
| refine wO ?_
| (refine o_go rfl ?_; (first
| refine p_p (zG rfl rfl aD (h1)) ?_
| refine p_p (zG rfl rfl aD (h2)) ?_
| refine wS ?_
| refine p_p (ps_load_agg rfl rfl aK) ?_); refine ⟨_, aB, ?_⟩)
| (refine zK rfl ?_ ?_ <;> intro hc <;> try omega)
| refine wE ?_)
     all_goals try (exfalso; omega)
     exact zT (y + 1) (by omega) (by omega) aI ⟨rfl, rfl, trivial⟩ (zM _)
   · repeat' (first
| refine wO ?_
| (refine o_go rfl ?_; (first
| refine wS ?_); refine ⟨_, aB, ?_⟩)
| (refine zK rfl ?_ ?_ <;> intro hc <;> try omega)
| refine wE ?_)
     all_goals try (exfalso; omega)
     refine zT (K := fun _ _ => True) (x + 1) (by omega) (by omega) aI ⟨?_, rfl, trivial⟩ (zM _)
     rw [hsn, show y = x by omega]; rfl
 have hQe : (prX x).foldl (prinF n ops) [] = prinL n ops := by rw [show x = n by omega]; rfl
 rw [hQe]
 have hQ := prin_Q n ops
 have hQl := prin_len (n := n) (ops := ops) (prPairs n) []
 have hQl2 : (prPairs n).length ≤ 64 := by
  have := prX_len n
  have : n * n ≤ 64 := Nat.le_trans (Nat.mul_le_mul hn hn) (by decide)
  show (prX n).length ≤ 64
  omega
 rw [List.length_nil, Nat.zero_add] at hQl
 have hQl3 : (prinL n ops).length ≤ 64 := Nat.le_trans hQl hQl2
 unfold mostV
 generalize prinL n ops = Q at *
 clear hQe hQl
 have h1 := sident_c n (by omega)
 repeat' ((fail_if_success (refine at_reg1 10 ?_)); (first
| refine wO ?_
| (refine o_go rfl ?_; (first
| refine p_p (zG rfl rfl aD (h1)) ?_
| refine wS ?_
| refine p_p (ps_lit1 rfl rfl (by rfl) (by rfl)) ?_); refine ⟨_, aB, ?_⟩)
| (refine zK rfl ?_ ?_ <;> intro hc <;> try omega)
| refine g_exit ?_))
 all_goals try (exfalso; omega)
 repeat' (first
| refine wO ?_
| (refine o_go rfl ?_; (first
| refine p_p (zG rfl rfl aD (h1)) ?_
| refine p_e rfl (e_lit1N rfl rfl rfl) ?_
| refine wS ?_); refine ⟨_, aB, ?_⟩))
 refine g_loopF (α := Nat) [39] (fun k => [(8, intss (mRun n most Q k).1), (9, .hp 0), (10, I (k : Int))]) (fun k => [lnO (mRun n most Q k).2]) (fun k => k ≤ (mRun n most Q k).2.length) (fun k => most + 2 - k) 0 aH (Nat.zero_le _) ⟨rfl, rfl, rfl, trivial⟩ rfl ?_
 rintro k hk
 refine wH ?_
 obtain ⟨hI, -⟩ := mRun_inv (most := most) ho hQ k
 have hIl := hI.len
 have hIe := hI.le
 have hll : ((mRun n most Q k).2.map ints).length = (mRun n most Q k).2.length := List.length_map _
 by_cases hkl : k < (mRun n most Q k).2.length
 · by_cases hom : (mRun n most Q k).1.length ≤ most
   · have hrs : mRun n most Q (k + 1) = mInn n most Q ((mRun n most Q k).2.getD k []) (mRun n most Q k) Q.length := by rw [mRun, if_pos ⟨hkl, hom⟩]
     have hpm := rows_mem hkl
     have hIn := fun i hi => mInn_inv ho hQ hI hpm i hi
     have hpc := hI.inv.ok _ hpm
     have hpat : ∀ i, i ≤ Q.length → (mInn n most Q ((mRun n most Q k).2.getD k []) (mRun n most Q k) i).2[k]? = some ((mRun n most Q k).2.getD k []) := fun i hi => by
      obtain ⟨-, ⟨l, e⟩, -⟩ := hIn i hi
      rw [e, List.getElem?_append_left hkl, List.getElem?_eq_getElem hkl, List.getD_eq_getElem?_getD, List.getElem?_eq_getElem hkl]; rfl
     generalize hpe : (mRun n most Q k).2.getD k [] = p at *
     generalize mRun n most Q k = st at *
     repeat' (first
| refine wO ?_
| (refine o_go rfl ?_; (first
| refine wS ?_); refine ⟨_, aB, ?_⟩)
| (refine o_splitD rfl rfl rfl ?_ ?_ <;> intro hc <;> first | omega | dsimp only [List.set_cons_zero, List.set_cons_succ])
| (refine zK rfl ?_ ?_ <;> intro hc <;> try omega)
| refine wE ?_)
     all_goals try (exfalso; omega)
     refine g_loopF (α := Nat) [41] (fun i => [(8, intss (mInn n most Q p st i).1), (9, .hp 0), (11, I (i : Int))]) (fun i => [lnO (mInn n most Q p st i).2]) (fun i => i ≤ Q.length) (fun i => Q.length - i) 0 aH (Nat.zero_le _) ⟨rfl, rfl, rfl, trivial⟩ rfl ?_
     rintro i hi
     refine wH ?_
     obtain ⟨hJ, ⟨l, hl2⟩, -⟩ := hIn i hi
     have hJl := hJ.len
     have hJe := hJ.le
     have hstl : st.2.length ≤ (mInn n most Q p st i).2.length := by rw [hl2]; simp
     have hpai := hpat i hi
     by_cases hiq : i < Q.length
     · by_cases hom2 : (mInn n most Q p st i).1.length ≤ most
       · have hsi := mInn_succ (n := n) (most := most) (p := p) (st := st) hiq
         have hqm := rows_mem hiq
         have hrq := rows_at hiq
         have hqc := hQ.cong ho hqm
         have h3 := sjoin_c n p (Q.getD i []) (by omega) hpc.1.len hqc.1
         have hjc := join_pt hpc.1 hqc.1
         have h4 := sput_c n (mInn n most Q p st i).1 (joinP n p (Q.getD i [])) (by omega) (fun r hr => (hJ.inv.ok r ((hJ.mem r).1 hr)).1.okC) hjc.okC (by omega)
         have hml : ((mInn n most Q p st i).2.map ints).length = (mInn n most Q p st i).2.length := List.length_map _
         have hrow : ((mInn n most Q p st i).2.map ints)[((k : Nat) : Int).toNat]? = some (ints p) := by rw [Int.toNat_natCast, List.getElem?_map, hpai]; rfl
         unfold mStep at hsi
         rw [if_pos hom2] at hsi
         by_cases hin : joinP n p (Q.getD i []) ∈ (mInn n most Q p st i).1
         · rw [if_pos hin] at hsi
           rw [putC_same hJ.asc hin] at h4
           generalize mInn n most Q p st i = T at *
           generalize joinP n p (Q.getD i []) = r at *
           repeat' (first
| refine wO ?_
| refine zP zk zk ?_
| (refine o_go rfl ?_; (first
| refine p_p (zN rfl rfl rfl zz hrow ze) ?_
| refine p_p (zN rfl rfl rfl zz hrq ze) ?_
| refine p_p (zG rfl rfl aD (h3)) ?_
| refine p_p (zG rfl rfl aD (h4)) ?_
| refine wS ?_); refine ⟨_, aB, ?_⟩)
| (refine o_splitD rfl rfl rfl ?_ ?_ <;> intro hc <;> first | omega | dsimp only [List.set_cons_zero, List.set_cons_succ])
| (refine zK rfl ?_ ?_ <;> intro hc <;> try omega)
| refine wE ?_)
           all_goals try (exfalso; omega)
           refine zT (i + 1) (by omega) (by omega) aI ⟨?_, rfl, rfl, trivial⟩ (zB ?_ (zM _))
           · rw [hsi]; rfl
           · rw [hsi]
         · rw [if_neg hin] at hsi
           have hpl := putC_len (n := n) hin
           generalize mInn n most Q p st i = T at *
           generalize joinP n p (Q.getD i []) = r at *
           generalize putC n T.1 r = W at *
           repeat' (first
| refine wO ?_
| refine zP zk zk ?_
| (refine o_go rfl ?_; (first
| refine p_p (zN rfl rfl rfl zz hrow ze) ?_
| refine p_p (zN rfl rfl rfl zz hrq ze) ?_
| refine p_p (zG rfl rfl aD (h3)) ?_
| refine p_p (zG rfl rfl aD (h4)) ?_
| refine p_e zk (e_append rfl rfl rfl rfl rfl rfl (one_one rfl) rfl zn zn) ?_
| refine wS ?_
| refine p_p (ps_lit1 rfl rfl (by rfl) (by rfl)) ?_); refine ⟨_, aB, ?_⟩)
| (refine o_splitD rfl rfl rfl ?_ ?_ <;> intro hc <;> first | omega | dsimp only [List.set_cons_zero, List.set_cons_succ])
| (refine zK rfl ?_ ?_ <;> intro hc <;> try omega)
| refine wE ?_)
           all_goals try (exfalso; omega)
           refine zT (i + 1) (by omega) (by omega) aI ⟨?_, rfl, rfl, trivial⟩ (zB ?_ (zM _))
           · rw [hsi]; rfl
           · rw [hsi]
             show HO.arr false 1 _ _ = HO.arr false 1 _ ((T.2 ++ [r]).map ints)
             rw [List.map_append]; rfl
       · have hfin : mInn n most Q p st i = mInn n most Q p st Q.length := by
          have := mInn_stop hom2 (Q.length - i) (by omega)
          rw [show i + (Q.length - i) = Q.length by omega] at this
          exact this.symm
         repeat' (first
| refine wO ?_
| (refine o_go rfl ?_; (first
| refine wS ?_); refine ⟨_, aB, ?_⟩)
| (refine o_splitD rfl rfl rfl ?_ ?_ <;> intro hc <;> first | omega | dsimp only [List.set_cons_zero, List.set_cons_succ])
| (refine zK rfl ?_ ?_ <;> intro hc <;> try omega)
| refine wE ?_)
         all_goals try (exfalso; omega)
         refine zT (K := fun _ _ => True) (k + 1) ?_ (by omega) aI ⟨?_, rfl, rfl, trivial⟩ (zB ?_ (zM _))
         · rw [hrs, ← hfin]; omega
         · rw [hrs, ← hfin]; rfl
         · rw [hrs, ← hfin]
     · have hfin : mInn n most Q p st i = mInn n most Q p st Q.length := by rw [show i = Q.length by omega]
       repeat' (first
| refine wO ?_
| (refine o_go rfl ?_; (first
| refine wS ?_); refine ⟨_, aB, ?_⟩)
| (refine o_s rfl ?_; refine ⟨_, aB, ?_⟩)
| (refine o_splitD rfl rfl rfl ?_ ?_ <;> intro hc <;> first | omega | dsimp only [List.set_cons_zero, List.set_cons_succ])
| refine wE ?_)
       all_goals try (exfalso; omega)
       refine zT (K := fun _ _ => True) (k + 1) ?_ (by omega) aI ⟨?_, rfl, rfl, trivial⟩ (zB ?_ (zM _))
       · rw [hrs, ← hfin]; omega
       · rw [hrs, ← hfin]; rfl
       · rw [hrs, ← hfin]
   · have hend := mRun_end (most := most) ho hQ (k := k) (fun h => hom h.2)
     rw [← hend]
     repeat' (first
| refine wO ?_
| (refine o_go rfl ?_; (first
| refine wS ?_); refine ⟨_, aB, ?_⟩)
| (refine o_splitD rfl rfl rfl ?_ ?_ <;> intro hc <;> first | omega | dsimp only [List.set_cons_zero, List.set_cons_succ])
| (refine zK rfl ?_ ?_ <;> intro hc <;> try omega)
| refine kr1 ?_
| refine krS rfl ?_
| refine wE ?_)
     all_goals first | rfl | (exfalso; omega)
 · have hend := mRun_end (most := most) ho hQ (k := k) (fun h => hkl h.1)
   rw [← hend]
   repeat' (first
| refine wO ?_
| (refine o_go rfl ?_; (first
| refine wS ?_); refine ⟨_, aB, ?_⟩)
| (refine o_s rfl ?_; refine ⟨_, aB, ?_⟩)
| (refine o_splitD rfl rfl rfl ?_ ?_ <;> intro hc <;> first | omega | dsimp only [List.set_cons_zero, List.set_cons_succ])
| refine kr1 ?_
| refine krS rfl ?_
| refine wE ?_)
   all_goals first | rfl | (exfalso; omega)
noncomputable def acB (n : Int) (ops : List OpD) : Bool := algOk n ops && decide ((allL n.toNat ops).length ≤ 200)
noncomputable def acV (n : Int) (ops : List OpD) : List (List Int) := if acB n ops then allL n.toNat ops else []
theorem sfew_c (n : Int) (ops : List OpD) (hs : szOk ops) : PCalls Tryz.prog 64 [algP n ops] (B (acB n ops)) := by
 refine pcalls1 Tryz.func64 rfl Tryz.ntmps64 rfl ?_
 refine wF ?_
 have h1 := sgood_c n ops hs
 unfold acB
 cases hg : algOk n ops with
 | false =>
  rw [hg] at h1
  repeat' (first
| refine wO ?_
| (refine o_go rfl ?_; (first
| refine p_p (zG rfl rfl aD (h1)) ?_
| refine wS ?_
| refine p_p (ps_load_agg rfl rfl aK) ?_
| refine p_p (ps_box rfl rfl) ?_); refine ⟨_, aB, ?_⟩)
| (refine o_s rfl ?_; refine ⟨_, aB, ?_⟩)
| refine kr1 ?_
| refine krB rfl ?_
| refine wE ?_)
  all_goals first | rfl | (exfalso; omega)
 | true =>
  rw [hg] at h1
  obtain ⟨m, rfl, hm0, hm8, h4, ho⟩ := algOk_facts hg
  have h2 := smost_cg m ops 200 hm0 hm8 (by decide) (by omega) ho
  have hf := mostV_few (most := 200) ho
  rw [Int.toNat_natCast]
  generalize mostV m ops 200 = V at *
  by_cases hle : V.length ≤ 200
  · rw [decide_eq_true (hf.1 hle)]
    repeat' (first
| refine wO ?_
| (refine o_go rfl ?_; (first
| refine p_p (zG rfl rfl aD (h1)) ?_
| refine p_p (zG rfl rfl aD (h2)) ?_
| refine wS ?_
| refine p_p (ps_load_agg rfl rfl aK) ?_
| refine p_p (ps_box rfl rfl) ?_); refine ⟨_, aB, ?_⟩)
| refine kr1 ?_
| refine krB rfl ?_
| refine wE ?_)
    all_goals first | rfl | (exfalso; omega) | (rw [decide_eq_true (by omega)]; rfl)
  · rw [decide_eq_false (fun h => hle (hf.2 h))]
    repeat' (first
| refine wO ?_
| (refine o_go rfl ?_; (first
| refine p_p (zG rfl rfl aD (h1)) ?_
| refine p_p (zG rfl rfl aD (h2)) ?_
| refine wS ?_
| refine p_p (ps_load_agg rfl rfl aK) ?_
| refine p_p (ps_box rfl rfl) ?_); refine ⟨_, aB, ?_⟩)
| refine kr1 ?_
| refine krB rfl ?_
| refine wE ?_)
    all_goals first | rfl | (exfalso; omega) | (rw [decide_eq_false (by omega)]; rfl)
theorem sallC_c (m : Nat) (ops : List OpD) (hm0 : 0 < m) (hm8 : m ≤ 8) (hl : ops.length ≤ 1048576) (ho : opsIn m ops) (h : (allL m ops).length ≤ 5000) : PCalls Tryz.prog 66 [algP m ops] (intss (allL m ops)) := by
 refine pcalls1 Tryz.func66 rfl Tryz.ntmps66 rfl ?_
 refine wF ?_
 have h2 := smost_cg m ops 5000 hm0 hm8 (by decide) hl ho
 rw [mostV_all ho h] at h2
 repeat' (first
| refine wO ?_
| (refine o_go rfl ?_; (first
| refine p_p (zG rfl rfl aD (h2)) ?_
| refine wS ?_
| refine p_p (ps_load_agg rfl rfl aK) ?_
| refine p_p (ps_box rfl rfl) ?_); refine ⟨_, aB, ?_⟩)
| refine kr1 ?_
| refine krS rfl ?_
| refine wE ?_)
 all_goals rfl
theorem sac_c (n : Int) (ops : List OpD) (hs : szOk ops) : PCalls Tryz.prog 23 [algP n ops] (.tup [intss (acV n ops), B (acB n ops)]) := by
 refine pcalls2 Tryz.func23 rfl Tryz.ntmps23 rfl ?_
 refine wF ?_
 have h1 := sfew_c n ops hs
 unfold acV
 cases hb : acB n ops with
 | false =>
  rw [hb] at h1
  repeat' (first
| refine wO ?_
| (refine o_go rfl ?_; (first
| refine p_p (zG rfl rfl aD (h1)) ?_
| refine wS ?_
| refine p_p (ps_load_agg rfl rfl aK) ?_
| refine p_e rfl (e_lit0 rfl zd) ?_
| refine p_p (ps_box rfl rfl) ?_); refine ⟨_, aB, ?_⟩)
| refine kr2 ?_ ?_
| refine krB rfl ?_
| refine krS rfl ?_
| refine wE ?_)
  all_goals first | rfl | (exfalso; omega)
 | true =>
  rw [hb] at h1
  rw [if_pos rfl]
  unfold acB at hb
  rw [Bool.and_eq_true, decide_eq_true_eq] at hb
  obtain ⟨m, rfl, hm0, hm8, h4, ho⟩ := algOk_facts hb.1
  rw [Int.toNat_natCast] at hb ⊢
  have h2 := sallC_c m ops hm0 hm8 (by omega) ho (by omega)
  repeat' (first
| refine wO ?_
| (refine o_go rfl ?_; (first
| refine p_p (zG rfl rfl aD (h1)) ?_
| refine p_p (zG rfl rfl aD (h2)) ?_
| refine wS ?_
| refine p_p (ps_load_agg rfl rfl aK) ?_
| refine p_p (ps_box rfl rfl) ?_); refine ⟨_, aB, ?_⟩)
| refine kr2 ?_ ?_
| refine krB rfl ?_
| refine krS rfl ?_
| refine wE ?_)
  all_goals first | rfl | (exfalso; omega)
end Go.Proofs.YtepjlgilopfnpaaGreat
