/- Walks: all congruences and chains as they are told. -/
import Derived.Test.YtepjlgilopfnpaaGreatJKt
import Derived.Test.YtepjlgilopfnpaaGreatJKo
import Derived.Test.YtepjlgilopfnpaaGreatJKi
import Derived.Test.YtepjlgilopfnpaaGreatJKd
namespace Go.Proofs.YtepjlgilopfnpaaGreat
open Go Go.Pv Go.Proofs
set_option maxHeartbeats 32000000
set_option maxRecDepth 100000

theorem icongs_c (n : Int) (ops : List OpD) (hs : szOk ops) : PCalls Tryz.prog 62 [algP n ops] (.tup [if acB n ops then intss (acV n ops) else nilV, B (acB n ops)]) := by
 refine pcalls2 Tryz.func62 rfl Tryz.ntmps62 rfl ?_
 refine wF ?_
 have h1 := igood_c n ops hs
 cases hg : algOk n ops with
 | false =>
  have hb : acB n ops = false := by unfold acB; rw [hg]; rfl
  rw [hg] at h1
  rw [hb, if_neg (by decide)]
  repeat' (first
| refine wO ?_
| (refine o_go rfl ?_; (first
| refine p_p (zG rfl rfl aD (h1)) ?_
| refine wS ?_
| refine p_p (ps_load_agg rfl rfl aK) ?_
| refine p_p (ps_box rfl rfl) ?_); refine ⟨_, aB, ?_⟩)
| refine kr2 ?_ ?_
| refine krB rfl ?_
| refine wE ?_)
  all_goals first | rfl | (exfalso; omega) | exact krV rfl | exact krB rfl rfl
 | true =>
  rw [hg] at h1
  obtain ⟨m, rfl, hm0, hm8, h4, ho⟩ := algOk_facts hg
  have h2 := iallc_c m ops hm0 hm8 (by omega) ho
  by_cases hle : (allL m ops).length ≤ 200
  · have hb : acB m ops = true := by unfold acB; rw [hg, Int.toNat_natCast, decide_eq_true hle]; rfl
    rw [if_pos hle, decide_eq_true hle] at h2
    rw [show acV (m : Int) ops = allL m ops by unfold acV; rw [hb, if_pos rfl, Int.toNat_natCast], hb, if_pos rfl]
    repeat' (first
| refine wO ?_
| (refine o_go rfl ?_; (first
| refine p_p (zG rfl rfl aD (h1)) ?_
| refine p_p (zG rfl rfl aD (h2)) ?_
| refine wS ?_
| refine p_p (ps_load_agg rfl rfl aK) ?_
| refine p_p (ps_box rfl rfl) ?_); refine ⟨_, aB, ?_⟩)
| refine kr2 ?_ ?_
| refine krB rfl ?_
| refine krS rfl ?_
| refine wE ?_)
    all_goals first | rfl | (exfalso; omega) | exact krV rfl | exact krB rfl rfl
  · have hb : acB m ops = false := by unfold acB; rw [hg, Int.toNat_natCast, decide_eq_false hle]; rfl
    rw [if_neg hle, decide_eq_false hle] at h2
    rw [hb, if_neg (by decide)]
    repeat' (first
| refine wO ?_
| (refine o_go rfl ?_; (first
| refine p_p (zG rfl rfl aD (h1)) ?_
| refine p_p (zG rfl rfl aD (h2)) ?_
| refine wS ?_
| refine p_p (ps_load_agg rfl rfl aK) ?_
| refine p_p (ps_box rfl rfl) ?_); refine ⟨_, aB, ?_⟩)
| refine kr2 ?_ ?_
| refine krB rfl ?_
| refine wE ?_)
    all_goals first | rfl | (exfalso; omega) | exact krV rfl | exact krB rfl rfl
theorem iac_c (n : Int) (ops : List OpD) (hs : szOk ops) : PCalls Tryz.prog 22 [algP n ops] (.tup [intss (acV n ops), B (acB n ops)]) := by
 refine pcalls2 Tryz.func22 rfl Tryz.ntmps22 rfl ?_
 refine wF ?_
 have h1 := icongs_c n ops hs
 cases hb : acB n ops with
 | false =>
  rw [hb, if_neg (by decide)] at h1
  rw [show acV n ops = [] by unfold acV; rw [hb]; rfl]
  repeat' (first
| refine wO ?_
| (refine o_go rfl ?_; (first
| refine p_p (zG rfl rfl aD (h1)) ?_
| refine wS ?_
| refine p_p (ps_load_agg rfl rfl aK) ?_
| refine p_e rfl (e_lit0 rfl zd) ?_
| refine p_p (ps_box rfl rfl) ?_); refine ⟨_, aB, ?_⟩)
| refine kr2 ?_ ?_
| refine krB rfl ?_
| refine krS rfl ?_
| refine wE ?_)
  all_goals first | rfl | (exfalso; omega) | exact krV rfl | exact krB rfl rfl
 | true =>
  rw [hb, if_pos rfl] at h1
  repeat' (first
| refine wO ?_
| (refine o_go rfl ?_; (first
| refine p_p (zG rfl rfl aD (h1)) ?_
| refine wS ?_
| refine p_p (ps_load_agg rfl rfl aK) ?_
| refine p_p (ps_box rfl rfl) ?_); refine ⟨_, aB, ?_⟩)
| refine kr2 ?_ ?_
| refine krB rfl ?_
| refine krS rfl ?_
| refine wE ?_)
  all_goals first | rfl | (exfalso; omega) | exact krV rfl | exact krB rfl rfl
end Go.Proofs.YtepjlgilopfnpaaGreat
/- Walks: products of partitions, whether they permute, the program's side. -/
namespace Go.Proofs.YtepjlgilopfnpaaGreat
open Go Go.Pv Go.Proofs
set_option maxHeartbeats 32000000
set_option maxRecDepth 100000

def prdK (p q : List Int) (x z k : Nat) : Bool := (List.range k).any fun y => decide (p.getD x 0 = p.getD y 0) && decide (q.getD y 0 = q.getD z 0)
theorem prdK_succ (p q : List Int) (x z k : Nat) : prdK p q x z (k + 1) = (prdK p q x z k || (decide (p.getD x 0 = p.getD k 0) && decide (q.getD k 0 = q.getD z 0))) := by
 unfold prdK; rw [List.range_succ, List.any_append]; simp
def mixR (n z : Nat) (f g : Nat → Bool) : List Bool := (List.range n).map fun i => if i < z then f i else g i
theorem mixR_len (n z : Nat) (f g : Nat → Bool) : (mixR n z f g).length = n := by simp [mixR]
theorem mixR_0 (n : Nat) (f g : Nat → Bool) : mixR n 0 f g = (List.range n).map g := by
 unfold mixR; exact List.map_congr_left fun i _ => if_neg (Nat.not_lt_zero i)
theorem mixR_n (n : Nat) (f g : Nat → Bool) : mixR n n f g = (List.range n).map f := by
 unfold mixR; exact List.map_congr_left fun i hi => if_pos (List.mem_range.1 hi)
theorem mixR_at {n z : Nat} (f g : Nat → Bool) (h : z < n) : ((mixR n z f g).map B)[z * 1]? = some (B (g z)) := by
 rw [Nat.mul_one, List.getElem?_map, mixR, List.getElem?_map, List.getElem?_range h]
 simp
theorem mixR_set {n z : Nat} (f g : Nat → Bool) (h : z < n) : ((mixR n z f g).map B).set (z * 1) (B (f z)) = (mixR n (z + 1) f g).map B := by
 rw [Nat.mul_one, ← List.map_set]
 congr 1
 refine List.ext_getElem (by simp [mixR]) fun i h1 h2 => ?_
 simp only [mixR, List.getElem_set, List.getElem_map, List.getElem_range]
 by_cases e : z = i
 · subst e; rw [if_pos rfl, if_pos (by omega)]
 · rw [if_neg e]
   by_cases e2 : i < z
   · rw [if_pos e2, if_pos (by omega)]
   · rw [if_neg e2, if_neg (by omega)]
def prdR (p q : List Int) (n x : Nat) : List Bool := (List.range n).map fun z => prdK p q x z n
def cellP (p q : List Int) (n x : Nat) : List PV := ((List.range x).map fun x => bools (prdR p q n x)) ++ List.replicate (n - x) nilV
theorem cellP_len (p q : List Int) {n x : Nat} (h : x ≤ n) : (cellP p q n x).length = n := by simp [cellP]; omega
theorem cellP_map (p q : List Int) (n x : Nat) {φ : PV → PV} (h1 : φ nilV = nilV) (h2 : ∀ r, φ (bools r) = bools r) : (cellP p q n x).map φ = cellP p q n x := by
 unfold cellP
 rw [List.map_append, List.map_replicate, h1, List.map_map]
 congr 1
 exact List.map_congr_left fun x _ => h2 _
theorem cellP_set (p q : List Int) {n x : Nat} (h : x < n) : (cellP p q n x).set x (bools (prdR p q n x)) = cellP p q n (x + 1) := by
 unfold cellP
 rw [List.set_append_right _ _ (by simp), List.length_map, List.length_range, Nat.sub_self, show n - x = (n - (x + 1)) + 1 by omega, List.replicate_succ, List.set_cons_zero, range_snoc, List.append_assoc]
 rfl
theorem iptab_c (n : Nat) (p q : List Int) (hn : n ≤ 1000) (hp : p.length = n) (hq : q.length = n) : PCalls Tryz.prog 164 [ints p, ints q] (boolss ((List.range n).map (prdR p q n))) := by
 refine pcalls1 Tryz.func164 rfl Tryz.ntmps164 rfl ?_
 refine wF ?_
 have hpi : (p.length : Int) = (n : Int) := by rw [hp]
 repeat' (first
| refine wO ?_
| (refine o_go rfl ?_; (first
| refine p_e rfl (e_makeBox rfl rfl rfl zz zz zz (by rfl)) ?_
| refine p_p (ps_len_box rfl rfl rfl rfl) ?_
| refine wS ?_); refine ⟨_, aB, ?_⟩))
 rw [List.length_replicate, hp]
 refine g_loopT (α := Nat) (fun x => [(16, I (x : Int))]) (fun x => [.box (cellP p q n x)]) (fun x => x ≤ n) (fun x => n - x) 0 aH (Nat.zero_le _) ⟨rfl, trivial⟩ (by simp [cellP]) ?_
 rintro x hx
 refine wH ?_
 have hcl := cellP_len p q hx
 by_cases hxn : x < n
 · have hk1 : (cellP p q n x).map (killP1 1) = cellP p q n x := cellP_map p q n x rfl (fun _ => rfl)
   have hset := cellP_set p q hxn
   repeat' (first
| rw [hk1]
| refine wO ?_
| (refine o_go rfl ?_; (first
| refine p_p (ps_index_box rfl rfl rfl rfl zz zz) ?_
| refine p_e zk (e_store_boxC rfl rfl rfl rfl zz rfl rfl) ?_
| refine wS ?_
| refine p_e rfl (e_make1 rfl rfl rfl zz zz zz rfl rfl) ?_); refine ⟨_, aB, ?_⟩)
| (refine zK rfl ?_ ?_ <;> intro hc <;> try omega)
| refine wE ?_)
   all_goals try (exfalso; omega)
   obtain ⟨W, hW⟩ : ∃ W, W = (cellP p q n x).take x ++ [PV.hp 1] ++ (cellP p q n x).drop (x + 1) := ⟨_, rfl⟩
   rw [← hW]
   have hWs : W = (cellP p q n x).set x (.hp 1) := by rw [hW, List.set_eq_take_append_cons_drop, if_pos (by omega), List.append_assoc]; rfl
   have hWl : W.length = n := by rw [hWs, List.length_set]; exact hcl
   have hWi : W[((x : Nat) : Int).toNat]? = some (.hp 1) := by rw [Int.toNat_natCast, hWs]; exact List.getElem?_set_self (by omega)
   have hWi' : W[x]? = some (.hp 1) := by rw [hWs]; exact List.getElem?_set_self (by omega)
   have hrow0 : (((List.range n).map fun z => prdK p q x z 0).map B) = List.replicate n (PV.val (.bool false)) := List.ext_getElem (by simp) fun i _ _ => by simp [prdK]
   refine g_loopT (α := Nat) (fun y => [(8, I (y : Int))]) (fun y => [.box W, .arr true 1 4 (((List.range n).map fun z => prdK p q x z y).map B)]) (fun y => y ≤ n) (fun y => n - y) 0 aH (Nat.zero_le _) ⟨rfl, trivial⟩ (by rw [hrow0]) ?_
   rintro y hy
   refine wH ?_
   by_cases hyn : y < n
   · have hsn := fun z => prdK_succ p q x z y
     have ixp := idx_I (l := p) (i := x) (by omega)
     repeat' (first
| refine wO ?_
| (refine o_go rfl ?_; (first
| refine wS ?_); refine ⟨_, aB, ?_⟩)
| (refine zK rfl ?_ ?_ <;> intro hc <;> try omega)
| refine wE ?_)
     all_goals try (exfalso; omega)
     by_cases hpe : p.getD x 0 = p.getD y 0
     · obtain ⟨f, hf⟩ : ∃ f : Nat → Bool, f = fun z => prdK p q x z (y + 1) := ⟨_, rfl⟩
       obtain ⟨g, hg⟩ : ∃ g : Nat → Bool, g = fun z => prdK p q x z y := ⟨_, rfl⟩
       have hfg : ∀ z, f z = (g z || decide (q.getD y 0 = q.getD z 0)) := fun z => by rw [hf, hg]; dsimp only; rw [hsn, decide_eq_true hpe, Bool.true_and]
       refine g_loopT (α := Nat) (fun z => [(9, I (z : Int))]) (fun z => [.box W, .arr true 1 4 ((mixR n z f g).map B)]) (fun z => z ≤ n) (fun z => n - z) 0 aH (Nat.zero_le _) ⟨rfl, trivial⟩ (by rw [mixR_0, hg]) ?_
       rintro z hz
       refine wH ?_
       have hml : ((mixR n z f g).map B).length = n := by rw [List.length_map, mixR_len]
       by_cases hzn : z < n
       · have hat := mixR_at f g hzn
         have hst := mixR_set f g hzn
         rw [hfg z] at hst
         cases hgz : g z with
         | true =>
          rw [hgz] at hat
          rw [hgz, Bool.true_or] at hst
          repeat' (first
| refine wO ?_
| refine zP zk zk ?_
| (refine o_go rfl ?_; (first
| refine p_p (ps_index_box rfl rfl rfl rfl zz zz) ?_
| refine p_p (zH rfl rfl rfl hWi') ?_
| refine p_p (yA rfl rfl rfl rfl zz zz) ?_
| refine p_p (ps_load_arr rfl rfl rfl (by exact hat) rfl) ?_
| refine p_e zk (e_store_arr rfl rfl rfl rfl zz rfl rfl) ?_
| refine wS ?_
| refine p_p (zN rfl rfl rfl zz aQ ze) ?_); refine ⟨_, aB, ?_⟩)
| (refine o_s rfl ?_; refine ⟨_, aB, ?_⟩)
| (refine o_splitD rfl rfl rfl ?_ ?_ <;> intro hc <;> first | omega | dsimp only [List.set_cons_zero, List.set_cons_succ])
| (refine zK rfl ?_ ?_ <;> intro hc <;> try omega)
| refine wE ?_)
          all_goals try (exfalso; first | omega | exact hc hpe)
          exact zT (z + 1) (by omega) (by omega) aI ⟨rfl, trivial⟩ (zB rfl (zB (by rw [← hst]) (zM _)))
         | false =>
          rw [hgz] at hat
          rw [hgz, Bool.false_or] at hst
          repeat' (first
| refine wO ?_
| refine zP zk zk ?_
| (refine o_go rfl ?_; (first
| refine p_p (ps_index_box rfl rfl rfl rfl zz zz) ?_
| refine p_p (zH rfl rfl rfl hWi') ?_
| refine p_p (yA rfl rfl rfl rfl zz zz) ?_
| refine p_p (ps_load_arr rfl rfl rfl (by exact hat) rfl) ?_
| refine p_e zk (e_store_arr rfl rfl rfl rfl zz rfl rfl) ?_
| refine wS ?_
| refine p_p (zN rfl rfl rfl zz aQ ze) ?_); refine ⟨_, aB, ?_⟩)
| (refine o_splitD rfl rfl rfl ?_ ?_ <;> intro hc <;> first | omega | dsimp only [List.set_cons_zero, List.set_cons_succ])
| (refine zK rfl ?_ ?_ <;> intro hc <;> try omega)
| refine wE ?_)
          all_goals try (exfalso; first | omega | exact hc hpe)
          exact zT (z + 1) (by omega) (by omega) aI ⟨rfl, trivial⟩ (zB rfl (zB (by rw [← hst]) (zM _)))
       · rw [show z = n by omega, mixR_n, hf]
         repeat' (first
| refine wO ?_
| refine zP zk zk ?_
| (refine o_go rfl ?_; (first
| refine wS ?_); refine ⟨_, aB, ?_⟩)
| (refine o_s rfl ?_; refine ⟨_, aB, ?_⟩)
| (refine o_splitD rfl rfl rfl ?_ ?_ <;> intro hc <;> first | omega | dsimp only [List.set_cons_zero, List.set_cons_succ])
| refine wE ?_)
         all_goals try (exfalso; omega)
         exact zT (K := fun _ _ => True) (y + 1) (by omega) (by omega) aI ⟨rfl, trivial⟩ (zB rfl (zB rfl (zM _)))
     · have hno : ((List.range n).map fun z => prdK p q x z y) = (List.range n).map fun z => prdK p q x z (y + 1) := by
        refine List.map_congr_left fun z _ => ?_
        rw [hsn, decide_eq_false hpe, Bool.false_and, Bool.or_false]
       rw [hno]
       refine g_loopT (α := Nat) (fun z => [(9, I 0)]) (fun z => [.box W, .arr true 1 4 (((List.range n).map fun z => prdK p q x z (y + 1)).map B)]) (fun z => z ≤ 0) (fun z => 0) 0 aH (Nat.zero_le _) ⟨rfl, trivial⟩ rfl ?_
       rintro z hz
       refine wH ?_
       repeat' (first
| refine wO ?_
| refine zP zk zk ?_
| (refine o_go rfl ?_; (first
| refine wS ?_
| refine p_p (zN rfl rfl rfl zz aQ ze) ?_); refine ⟨_, aB, ?_⟩)
| (refine o_splitD rfl rfl rfl ?_ ?_ <;> intro hc <;> first | omega | dsimp only [List.set_cons_zero, List.set_cons_succ])
| (refine zK rfl ?_ ?_ <;> intro hc <;> try omega)
| refine wE ?_)
       all_goals try (exfalso; first | omega | exact hpe hc)
       exact zT (K := fun _ _ => True) (y + 1) (by omega) (by omega) aI ⟨rfl, trivial⟩ (zB rfl (zB rfl (zM _)))
   · rw [show y = n by omega]
     repeat' ((fail_if_success (refine at_reg0 14 ?_)); (first
| refine wO ?_
| (refine o_go rfl ?_; (first
| refine wS ?_); refine ⟨_, aB, ?_⟩)
| (refine zK rfl ?_ ?_ <;> intro hc <;> try omega)
| refine g_exit ?_))
     all_goals try (exfalso; omega)
     have hv : ∀ W', W.map (Pv.view1 [.box W', .arr false 1 4 (((List.range n).map fun z => prdK p q x z n).map B)]) = cellP p q n (x + 1) := fun W' => by
      rw [hWs, List.map_set, ← hset, cellP_map p q n x rfl (fun _ => rfl)]; rfl
     refine at_reg0 14 ?_
     refine g_freezeP 1 rfl ⟨_, by dsimp only [bitvec_to_nat, Nat.reduceAdd, Nat.reduceMul, Nat.reduceBEq, reduceCtorEq], ?_⟩
     refine g_viewBox 0 rfl ⟨_, rfl, ?_⟩
     refine g_castH (hp' := [.box (cellP p q n (x + 1)), .arr false 1 4 (((List.range n).map fun z => prdK p q x z n).map B)]) (by rw [← hv]; rfl) ?_
     repeat' (first
| refine wO ?_
| (refine o_go rfl ?_; (first
| refine wS ?_); refine ⟨_, aB, ?_⟩))
     all_goals try (exfalso; omega)
     exact zT (x + 1) (by omega) (by omega) aI ⟨rfl, trivial⟩ (zB rfl (zM _))
 · rw [show x = n by omega]
   have hfull : (cellP p q n n).map (Pv.view1 [.box (cellP p q n n)]) = ((List.range n).map (prdR p q n)).map bools := by
    rw [cellP_map p q n n rfl (fun _ => rfl)]
    unfold cellP
    rw [Nat.sub_self, List.replicate_zero, List.append_nil, List.map_map]; rfl
   have hone : ∀ r ∈ ((List.range n).map (prdR p q n)).map bools, r.one = true := fun r hr => by
    obtain ⟨y, -, rfl⟩ := List.mem_map.1 hr; rfl
   generalize hCe : ((List.range n).map (prdR p q n)).map bools = C at *
   repeat' ((fail_if_success (refine at_reg1 15 ?_); fail_if_success (refine at_reg0 15 ?_)); (first
| refine wO ?_
| (refine o_go rfl ?_; (first
| refine wS ?_); refine ⟨_, aB, ?_⟩)
| (refine zK rfl ?_ ?_ <;> intro hc <;> try omega)
| refine g_exit ?_))
   all_goals try (exfalso; omega)
   first | refine at_reg1 15 ?_ | refine at_reg0 15 ?_
   refine g_settleS 0 rfl hfull hone (by dsimp only [setSP, setSA, setS1, setSH, bitvec_to_nat, Nat.reduceAdd, Nat.reduceMul, Nat.reduceBEq, reduceCtorEq]) ?_
   repeat' (first
| refine wO ?_
| (refine o_go rfl ?_; (first
| refine wS ?_); refine ⟨_, aB, ?_⟩)
| refine kr1 ?_
| refine krS rfl ?_
| refine wE ?_)
   all_goals first | exact hCe.symm | rfl | (exfalso; omega)
end Go.Proofs.YtepjlgilopfnpaaGreat
