/- Walks: the program's clones, whole. -/
import Derived.Test.YtlgfniaakjchgaaGreatLGf
namespace Go.Proofs.YtlgfniaakjchgaaGreat
open Go Go.Pv Go.Proofs
set_option maxHeartbeats 32000000
set_option maxRecDepth 100000
attribute [local bitvec_to_nat] St.put St.setObj St.ev killP killA killP1 killH mapHO renP renA ren1 killG killGA killG1 krowP krowA krow1 lendP lendA lend1 unv pinP pin1 elemsM viewM viewN viewV n_set_z n_set_s n_map_c n_map_n getD_z getD_s n_toNat n_cond_t n_cond_f n_len_c n_len_n n_app_c n_app_n n_take_s n_take_z n_drop_s n_drop_z n_get_z n_get_s view viewA view1 elems Nat.zero_add Nat.add_zero Bool.not_true Bool.not_false Nat.one_ne_zero Nat.mul_one
attribute [local bitvec_to_nat] posI optP lendM1 lendMA lendMP killM1 killMA killMP hasI getO backM1 backMA backMP putL inpM pinM1 pinMA pinMP

theorem icmp_R (n size : Nat) (a : Int) (f : List Int) (ts : List (List Int)) (hn : n ≤ 8) (hs : size ≤ 1048576) (h3 : ts.length ≤ 3) (hf : f.length = n ^ ts.length) (ht : tabsOk n size ts) :
    RCalls Tryz.prog 101 [I (n : Int), opP ⟨a, f⟩, intss ts, I (size : Int)] (.arr true 1 3 ((cmpL n f ts size).map I)) (.hp 0) := by
  refine pcallsR1 Tryz.func101 rfl Tryz.ntmps101 rfl ?_
  simp only [List.length_cons, List.length_nil, Nat.reduceAdd, Nat.reduceSub, List.replicate_succ, List.replicate_zero, List.cons_append, List.nil_append]
  have hrep : (List.replicate size (PV.val (Value.int IntKind.i64 0))).length = size := List.length_replicate
  repeat' (first
| refine g_seq ?_
| refine zJ ?_
| refine zC ?_
| (refine o_go rfl ?_; (first
| refine p_p (zD rfl) ?_
| refine p_p (zA rfl) ?_
| refine p_p (ps_len_mut rfl rfl rfl rfl) ?_
| refine p_e rfl (e_make1 rfl rfl rfl (by omega) (by omega) (by omega) rfl rfl) ?_
| refine p_p (ps_box rfl rfl) ?_); refine ⟨_, aB, ?_⟩)
| refine o_nil ?_)
  refine g_loopT (α := Nat) (fun i => [(18, I (i : Int))]) (fun i => [.arr true 1 3 ((((List.range i).map fun i => f.getD (idxL n (rowAt ts i)).toNat 0) ++ List.replicate (size - i) 0).map I)]) (fun i => i ≤ size) (fun i => size - i) 0 aH (Nat.zero_le _) ⟨rfl, trivial⟩ (by simp) ?_
  rintro i hi
  dsimp only [zZ, List.set_cons_zero, List.set_cons_succ]
  have hll : ((((List.range i).map fun i => f.getD (idxL n (rowAt ts i)).toNat 0) ++ List.replicate (size - i) 0).map I).length = size := by simp; omega
  have hrl : ((List.range i).map fun i => f.getD (idxL n (rowAt ts i)).toNat 0).length = i := by simp
  by_cases hil : i < size
  · have hrow := ht.row hil
    have hrb := idxL_bound _ hrow
    rw [rowAt_len, ← hf] at hrb
    have hfl : f.length ≤ 1000000000 := by rw [hf]; exact pow_le3 (by omega) h3
    have hfin : (List.range (i + 1)).map (fun i => f.getD (idxL n (rowAt ts i)).toNat 0) = (List.range i).map (fun i => f.getD (idxL n (rowAt ts i)).toNat 0) ++ [f.getD (idxL n (rowAt ts i)).toNat 0] := range_snoc _ i
    generalize hL : ((List.range i).map fun i => f.getD (idxL n (rowAt ts i)).toNat 0) = L at *
    generalize hR : (rowAt ts i) = R at *
    have hRl : R.length = ts.length := by rw [← hR]; exact rowAt_len ts i
    repeat' (first
| refine g_seq ?_
| refine zJ ?_
| refine zC ?_
| (refine o_go rfl ?_; (first
| refine p_p (zD rfl) ?_
| refine p_p (zA rfl) ?_
| refine p_p (zU rfl rfl rfl) ?_
| refine p_p (zS rfl rfl rfl) ?_); refine ⟨_, aB, ?_⟩)
| refine o_nil ?_
| (refine zK rfl (fun hc => ?_) (fun hc => ?_) <;> try (exfalso; omega))
| refine zR ?_)
    all_goals try (exfalso; omega)
    refine g_loopT (α := Nat) (fun j => [(11, I (idxL n (R.take j))), (23, I (j : Int))]) (fun _ => [.arr true 1 3 ((L ++ List.replicate (size - i) 0).map I)]) (fun j => j ≤ ts.length) (fun j => ts.length - j) 0 aH (Nat.zero_le _) ⟨rfl, rfl, trivial⟩ rfl ?_
    rintro j hj
    dsimp only [zZ, List.set_cons_zero, List.set_cons_succ]
    have hb := idxL_le (n := n) (l := R.take j) (by omega) (by rw [List.length_take]; omega) (fun x hx => hrow x (List.mem_of_mem_take hx))
    by_cases hjl : j < ts.length
    · obtain ⟨h1, h2⟩ := ht _ (getD_mem0 hjl)
      have hRj : R.getD j 0 = (ts.getD j []).getD i 0 := by
        rw [← hR, rowAt, List.getD_eq_getElem?_getD, List.getElem?_map, List.getElem?_eq_getElem hjl, List.getD_eq_getElem?_getD (l := ts), List.getElem?_eq_getElem hjl]; rfl
      have hx := hrow _ (getD_at (show j < R.length by omega))
      have hm := mul_bound (n := (n : Int)) hb.1 hb.2 (by omega) (by omega) rfl (N := 0) rfl
      have hsuc : idxL n (R.take (j + 1)) = idxL n (R.take j) * n + R.getD j 0 := by rw [take_snoc 0 (by omega), idxL_snoc]
      rw [hRj] at hsuc hx
      generalize idxL n (R.take j) = q at *
      repeat' (first
| refine g_seq ?_
| refine zJ ?_
| refine zC ?_
| (refine o_go rfl ?_; (first
| refine p_p (ps_mul rfl rfl rfl (by omega)) ?_
| refine p_p (zD rfl) ?_
| refine p_p (zA rfl) ?_
| refine p_p (zF rfl rfl) ?_
| refine p_p (zN rfl rfl rfl (by omega) aR (by exact rfl)) ?_
| refine p_p (zS rfl rfl rfl) ?_
| refine p_p (ps_add rfl rfl rfl aN) ?_); refine ⟨_, aB, ?_⟩)
| refine o_nil ?_
| (refine zK rfl (fun hc => ?_) (fun hc => ?_) <;> try (exfalso; omega))
| refine zR ?_)
      all_goals try (exfalso; omega)
      exact zT (j + 1) (by omega) (by omega) aI ⟨vI hsuc.symm, rfl, trivial⟩ (zB rfl (zM _))
    · have hje : R.take j = R := List.take_of_length_le (by omega)
      rw [hje]
      have hix : (f.map I)[(idxL n R).toNat]? = some (I (f.getD (idxL n R).toNat 0)) := idx_I (by omega)
      repeat' (first
| refine g_seq ?_
| refine zC ?_
| (refine o_go rfl ?_; (first
| refine p_p (zN rfl rfl rfl (by omega) hix (by exact rfl)) ?_
| refine p_e (by kernel_rfl) (e_store_arr rfl rfl rfl rfl (by omega) rfl rfl) ?_
| refine p_p (zD rfl) ?_
| refine p_p (zF rfl rfl) ?_
| refine p_p (zS rfl rfl rfl) ?_
| refine p_p (ps_add rfl rfl rfl aN) ?_
| refine p_p (zL rfl rfl) ?_
| refine p_p (yA rfl rfl rfl rfl (by omega) aU) ?_); refine ⟨_, aB, ?_⟩)
| refine o_nil ?_
| (refine zK rfl (fun hc => ?_) (fun hc => ?_) <;> try (exfalso; omega))
| refine g_exit ?_)
      all_goals try (exfalso; omega)
      refine zT (i + 1) (by omega) (by omega) aI ⟨rfl, trivial⟩ (zB ?_ (zM _))
      rw [hfin, Nat.mul_one, ← List.map_set, List.set_append_right _ _ (by omega), hrl, Nat.sub_self, show size - i = (size - (i + 1)) + 1 by omega, List.replicate_succ, List.append_assoc]; rfl
  · repeat' (first
| refine g_seq ?_
| refine zC ?_
| (refine o_go rfl ?_; (first
| refine p_p (zD rfl) ?_
| refine p_p (zA rfl) ?_
| refine p_p (zS rfl rfl rfl) ?_); refine ⟨_, aB, ?_⟩)
| refine o_nil ?_
| (refine zK rfl (fun hc => ?_) (fun hc => ?_) <;> try (exfalso; omega))
| refine krr 0 rfl (HandOut.arr rfl ?_ aL)
| refine g_exit ?_
| refine g_ret ?_)
    all_goals try (exfalso; omega)
    rw [show i = size by omega, Nat.sub_self]
    simp [cmpL]
def fndP : Option (List Ent) → PV
  | some E => .ptr [intss (tabsE E), .sl 2 none ((stepsE E).map stpP), .any]
  | none => .val (.pointer none)
def fHi (n k bm : Nat) : Nat → List HO
  | 0 => [.mp bm [], .box [nilV, nilV, mapV bm], .gone, .gone]
  | i + 1 => [.mp bm (mpE (firstE n k (i + 1))), .box [.hp 2, .hp 3, mapV bm], tabO (tabsE (firstE n k (i + 1))), stpO (stepsE (firstE n k (i + 1)))]
theorem entOk.small {n size : Nat} (hn : n ≤ 8) {E : List Ent} (h : ∀ c ∈ E, entOk n size c) : smallE E := fun c hc x hx => by
  have := (h c hc).2 x hx
  omega
theorem icloneOf_c (n k : Nat) (ops : List OpD) (hn0 : 0 < n) (hn : n ≤ 8) (hk0 : 0 < k) (hk : k ≤ 3) (hs : n ^ k ≤ 1000) (hol : ops.length ≤ 1000) (ho : ∀ f ∈ ops, opOk n f = true) :
    PCalls Tryz.prog 97 [I (n : Int), opsP ops, I (k : Int)] (.tup [fndP (cloneV n k ops), B (cloneV n k ops).isSome]) := by
  obtain ⟨V, hV⟩ : ∃ V, V = cloneV n k ops := ⟨_, rfl⟩
  rw [← hV]
  refine pcalls2 Tryz.func97 rfl Tryz.ntmps97 rfl ?_
  simp only [List.length_cons, List.length_nil, Nat.reduceAdd, Nat.reduceSub, List.replicate_succ, List.replicate_zero, List.cons_append, List.nil_append]
  iterate 6 (first
| refine g_seq ?_
| refine zC ?_
| (refine o_go rfl ?_; (first
| refine p_p (zA rfl) ?_); refine ⟨_, aB, ?_⟩)
| refine o_nil ?_)
  refine g_region_mk rfl rfl fun bm => ⟨_, by dsimp only [bitvec_to_nat, Nat.reduceAdd, Nat.reduceMul, Nat.reduceBEq, reduceCtorEq, posI, optP, lendM1, lendMA, lendMP, killM1, killMA, killMP, hasI, getO, backM1, backMA, backMP, putL, inpM, pinM1, pinMA, pinMP], ?_⟩
  repeat' (first
| refine g_seq ?_
| refine zJ ?_
| refine zC ?_
| (refine o_go rfl ?_; (first
| refine p_e rfl (e_box rfl rfl) ?_
| refine p_p (zA rfl) ?_
| refine p_p (ps_build rfl rfl) ?_); refine ⟨_, aB, ?_⟩)
| refine o_nil ?_)
  refine g_gones [.gone, .gone] ⟨rfl, rfl, trivial⟩ ⟨_, by dsimp only [bitvec_to_nat, Nat.reduceAdd, Nat.reduceMul, Nat.reduceBEq, reduceCtorEq, posI, optP, lendM1, lendMA, lendMP, killM1, killMA, killMP, hasI, getO, backM1, backMA, backMP, putL, inpM, pinM1, pinMA, pinMP], ?_⟩
  refine g_loopT (α := Nat) (fun i => [(9, I (i : Int))]) (fHi n k bm) (fun i => i ≤ k) (fun i => k - i) 0 aH (Nat.zero_le _) ⟨rfl, trivial⟩ rfl ?_
  rintro i hi
  dsimp only [zZ, List.set_cons_zero, List.set_cons_succ]
  by_cases hik : i < k
  · have h2 := iprj_c n k i hn0 hn hk hik
    have hpo := prj_ok (n := n) (k := k) (p := i) hn0 (-1, [(i : Int)])
    have hsm : ∀ x ∈ prjL n k i, 0 ≤ x ∧ x < 65536 := fun x hx => by have := hpo.2 x hx; omega
    have hpl := prjL_len n k i
    rcases i with _ | i
    · have h1 := iadd0_c bm (prjL n k 0, (-1, [((0 : Nat) : Int)])) (by dsimp only; omega) (by simp) hsm
      dsimp only [fHi]
      repeat' (first
| refine g_seq ?_
| refine zJ ?_
| refine zC ?_
| (refine o_go rfl ?_; (first
| refine p_p (zG rfl rfl aC (h2)) ?_
| refine p_e (by kernel_rfl) (e_callM (ids := [1, 2, 3, 0]) rfl rfl rfl rfl (by rfl) aM rfl (h1)) ?_
| refine p_p (zD rfl) ?_
| refine p_p (zA rfl) ?_
| refine p_p (zS rfl rfl rfl) ?_
| refine p_p (ps_add rfl rfl rfl aN) ?_
| refine p_p (ps_lit1 rfl rfl (by rfl) (by rfl)) ?_); refine ⟨_, aB, ?_⟩)
| refine o_nil ?_
| (refine zK rfl (fun hc => ?_) (fun hc => ?_) <;> try (exfalso; omega))
| refine zR ?_)
      all_goals try (exfalso; omega)
      have hf1 : firstE n k 1 = [(prjL n k 0, (-1, [0]))] := by simp [firstE, addE, tabsE]
      refine zT 1 (by omega) (by omega) aI ⟨rfl, trivial⟩ ?_
      dsimp only [fHi]
      rw [hf1]
      exact zB rfl (zB rfl (zB rfl (zB rfl (zM _))))
    · have hfl := (firstE_len n k (i + 1)).1
      have h1 := iadd_c bm (firstE n k (i + 1)) (prjL n k (i + 1), (-1, [((i + 1 : Nat) : Int)])) (by omega) (by dsimp only; omega) (by simp) (entOk.small hn (firstE_ok hn0 (i + 1))) hsm
      dsimp only [fHi]
      repeat' (first
| refine g_seq ?_
| refine zJ ?_
| refine zC ?_
| (refine o_go rfl ?_; (first
| refine p_p (zG rfl rfl aC (h2)) ?_
| refine p_e (by kernel_rfl) (e_callM (ids := [1, 2, 3, 0]) rfl rfl rfl rfl (by rfl) aM rfl (h1)) ?_
| refine p_p (zD rfl) ?_
| refine p_p (zA rfl) ?_
| refine p_p (zS rfl rfl rfl) ?_
| refine p_p (ps_add rfl rfl rfl aN) ?_
| refine p_p (ps_lit1 rfl rfl (by rfl) (by rfl)) ?_); refine ⟨_, aB, ?_⟩)
| refine o_nil ?_
| (refine zK rfl (fun hc => ?_) (fun hc => ?_) <;> try (exfalso; omega))
| refine zR ?_)
      all_goals try (exfalso; omega)
      exact zT (i + 2) (by omega) (by omega) aI ⟨rfl, trivial⟩ (zB rfl (zB rfl (zB rfl (zB rfl (zM _)))))
  · obtain ⟨i, rfl⟩ : ∃ j, i = j + 1 := ⟨i - 1, by omega⟩
    obtain rfl : i + 1 = k := by omega
    dsimp only [fHi]
    have hfl := firstE_len n (i + 1) (i + 1)
    have hfok := firstE_ok (k := i + 1) hn0 (i + 1)
    have hV0 : V = restE n (n ^ (i + 1)) ops 62 (-1) (firstE n (i + 1) (i + 1)) := by rw [hV, restE_some (by omega)]; rfl
    have h9 := power_c n (i + 1) (by omega) (by omega)
    clear hV
    generalize hE0 : firstE n (i + 1) (i + 1) = E0 at *
    generalize hsz : n ^ (i + 1) = size at *
    repeat' (first
| refine g_seq ?_
| refine zJ ?_
| refine zC ?_
| (refine o_go rfl ?_; (first
| refine p_p (zD rfl) ?_
| refine p_p (zA rfl) ?_
| refine p_p (zS rfl rfl rfl) ?_); refine ⟨_, aB, ?_⟩)
| refine o_nil ?_
| (refine zK rfl (fun hc => ?_) (fun hc => ?_) <;> try (exfalso; omega))
| refine g_exit ?_)
    all_goals try (exfalso; omega)
    refine g_loopT (α := Nat × Int × List Ent) (fun x => [(10, I x.2.1)]) (fun x => [.mp bm (mpE x.2.2), .box [.hp 2, .hp 3, mapV bm], tabO (tabsE x.2.2), stpO (stepsE x.2.2)]) (fun x => x.2.2.length ≤ 60 ∧ 0 < x.2.2.length ∧ (∀ c ∈ x.2.2, entOk n size c) ∧ -1 ≤ x.2.1 ∧ x.2.1 ≤ x.2.2.length ∧ (x.2.1 < x.2.2.length → 63 ≤ x.1 + x.2.2.length ∧ 0 < x.1) ∧ V = restE n size ops x.1 x.2.1 x.2.2) (fun x => x.1) (62, -1, E0) aH ⟨by dsimp only; omega, by dsimp only; omega, hfok, by dsimp only; omega, by dsimp only; omega, fun _ => by dsimp only; omega, hV0⟩ ⟨rfl, trivial⟩ rfl ?_
    rintro ⟨kf, old, E⟩ ⟨e1, e2, e3, e4, e5, e6, e7⟩
    dsimp only at e1 e2 e3 e4 e5 e6 e7
    dsimp only [zZ, List.set_cons_zero, List.set_cons_succ]
    have hlT : ((tabsE E).map ints).length = E.length := by rw [List.length_map, tabs_len]
    by_cases hb : old < E.length
    · obtain ⟨e8, e9⟩ := e6 hb
      obtain ⟨kg, rfl⟩ : ∃ m, kf = m + 1 := ⟨kf - 1, by omega⟩
      rw [restE_some (by omega)] at e7
      obtain ⟨s, hs⟩ : ∃ s : Nat → List Ent, s = fun j => (candsF n size ops (tabsE E) j).foldl addE E := ⟨_, rfl⟩
      have hs0 : s 0 = E := by rw [hs]; rfl
      have hsok : ∀ j, j ≤ ops.length → ∀ c ∈ s j, entOk n size c := fun j hj => by rw [hs]; exact foldE_all (fun c hc => candsF_ok hn0 ho (tabsE E) j hj c hc) e3
      have hsp : ∀ j, E <+: s j := fun j => by rw [hs]; exact foldE_pre _ E
      have hss : ∀ j, s (j + 1) = (candsA n size (tabsE E) (ops.getD j default) j).foldl addE (s j) := fun j => by rw [hs]; exact foldF_succ n size ops (tabsE E) E j
      have hsr : ∀ j, j ≤ ops.length → (s j).length ≤ (roundE n size ops E).length := fun j hj => by rw [hs]; exact roundE_le n size ops E hj
      have hsE : s ops.length = roundE n size ops E := by rw [hs]; rfl
      clear hs
      repeat' (first
| refine g_seq ?_
| refine zJ ?_
| refine zC ?_
| (refine o_go rfl ?_; (first
| refine p_p (ps_nilCheck_hat rfl rfl) ?_
| refine p_p (zD rfl) ?_
| refine p_p (zA rfl) ?_
| refine p_p (zU rfl rfl rfl) ?_
| refine p_p (zS rfl rfl rfl) ?_
| refine p_p (ps_len_mut rfl rfl rfl rfl) ?_
| refine p_p (zH rfl rfl rfl rfl) ?_
| refine p_p (zE rfl rfl) ?_); refine ⟨_, aB, ?_⟩)
| refine o_nil ?_
| (refine zK rfl (fun hc => ?_) (fun hc => ?_) <;> try (exfalso; omega))
| refine zR ?_)
      all_goals try (exfalso; omega)
      rw [hlT]
      refine g_loopF (α := Nat) [38, 44] (fun j => [(48, I (j : Int))]) (fun j => [.mp bm (mpE (s j)), .box [.hp 2, .hp 3, mapV bm], tabO (tabsE (s j)), stpO (stepsE (s j))]) (fun j => j ≤ ops.length ∧ (s j).length ≤ 60) (fun j => ops.length - j) 0 aH ⟨Nat.zero_le _, by rw [hs0]; exact e1⟩ ⟨rfl, trivial⟩ (by rw [hs0]) ?_
      rintro j ⟨hj, hj6⟩
      dsimp only [zZ, List.set_cons_zero, List.set_cons_succ]
      by_cases hjl : j < ops.length
      · have hq : (ops.map opP)[((j : Nat) : Int).toNat]? = some (opP (ops.getD j default)) := by
          rw [Int.toNat_natCast, List.getElem?_map, List.getElem?_eq_getElem hjl, List.getD_eq_getElem?_getD, List.getElem?_eq_getElem hjl]; rfl
        have hof := ho _ (show ops.getD j default ∈ ops by rw [List.getD_eq_getElem?_getD, List.getElem?_eq_getElem hjl]; exact List.getElem_mem _)
        have hsj := hss j
        generalize ops.getD j default = f at *
        have hf' := hof
        unfold opOk at hf'
        simp only [Bool.and_eq_true, decide_eq_true_eq] at hf'
        have har := inB_iff.1 hf'.1
        obtain ⟨k, hk⟩ : ∃ k : Nat, f.ar = k := ⟨f.ar.toNat, by omega⟩
        have hk' : f.ar.toNat = k := by omega
        have hft := hf'.2.1
        rw [hk'] at hft
        have hpw := pow_le3 (show E.length ≤ 1000 by omega) (show k ≤ 3 by omega)
        have h1 := power_c E.length k (by omega) (by omega)
        rw [← hk] at h1
        obtain ⟨r, hr⟩ : ∃ r : Nat → List Ent, r = fun m => (candsO n size (tabsE E) f j m).foldl addE (s j) := ⟨_, rfl⟩
        have hr0 : r 0 = s j := by rw [hr]; rfl
        have hrs : ∀ m, r (m + 1) = addE (r m) (candA n size (tabsE E) f j m) := fun m => by rw [hr]; exact foldO_succ n size (tabsE E) f j (s j) m
        have hre : r (E.length ^ k) = s (j + 1) := by rw [hr, hsj]; unfold candsA; rw [tabs_len, hk']
        have hrle : ∀ m, m ≤ E.length ^ k → (r m).length ≤ (roundE n size ops E).length := fun m hm => Nat.le_trans (by rw [← hre, hr]; exact foldO_le n size (tabsE E) f j (s j) hm) (hsr (j + 1) (by omega))
        have hrok : ∀ m, ∀ c ∈ r m, entOk n size c := fun m => by rw [hr]; exact foldE_all (fun c hc => candsO_ok hn0 hof (tabsE E) j m c hc) (hsok j hj)
        have hrp : ∀ m, tabsE E <+: tabsE (r m) := fun m => by rw [hr]; exact tabsE_pre ((hsp j).trans (foldE_pre _ _))
        clear hr hsj
        repeat' (first
| refine g_seq ?_
| refine zJ ?_
| refine zC ?_
| (refine o_go rfl ?_; (first
| refine p_p (zN rfl rfl rfl (by omega) hq (by exact rfl)) ?_
| refine p_p (zD rfl) ?_
| refine p_p (zA rfl) ?_
| refine p_p (ps_load_agg rfl rfl aK) ?_
| refine p_p (zS rfl rfl rfl) ?_
| refine p_p (zH rfl rfl rfl rfl) ?_
| refine p_p (zE rfl rfl) ?_
| refine p_e rfl (e_make1 rfl rfl rfl (by omega) (by omega) (by omega) rfl rfl) ?_
| refine p_e rfl (zO rfl rfl rfl rfl aK rfl rfl rfl) ?_
| refine p_e rfl (e_alloc rfl) ?_); refine ⟨_, aB, ?_⟩)
| refine o_nil ?_
| (refine zK rfl (fun hc => ?_) (fun hc => ?_) <;> try (exfalso; omega))
| refine zR ?_)
        all_goals try (exfalso; omega)
        rw [hk']
        refine g_loopT (α := Nat × List PV) (fun x => [(14, I (x.1 : Int))]) (fun x => [.mp bm (mpE (r x.1)), .box [.hp 2, .hp 3, mapV bm], tabO (tabsE (r x.1)), stpO (stepsE (r x.1)), .box [I f.ar, ints f.tb], .arr true 1 31 x.2]) (fun x => x.1 ≤ E.length ^ k ∧ (r x.1).length ≤ 60 ∧ x.2.length = k) (fun x => E.length ^ k - x.1) (0, List.replicate k nilV) aH ⟨Nat.zero_le _, by dsimp only; rw [hr0]; exact hj6, List.length_replicate⟩ ⟨rfl, trivial⟩ (by dsimp only; rw [hr0]) ?_
        rintro ⟨m, X⟩ ⟨hm, hm6, hX⟩
        dsimp only at hm hm6 hX
        dsimp only [zZ, List.set_cons_zero, List.set_cons_succ]
        by_cases hml : m < E.length ^ k
        · have h2 := iargs_c E.length k m e2 (by omega) (by omega) (by omega)
          rw [← hk] at h2
          have hal := argsL_len E.length k m
          have hain := argsL_in e2 k m
          have hrm := hrs m
          have hcok := candA_ok (size := size) hn0 hof (tabsE E) j m
          have hcA : candA n size (tabsE E) f j m = (cmpL n f.tb ((argsL E.length k m).map fun x => (tabsE E).getD x.toNat []) size, ((j : Int), argsL E.length k m)) := by unfold candA; rw [hk', tabs_len]
          rw [hcA] at hrm hcok
          generalize argsL E.length k m = A at *
          have hpre := hrp m
          have hgl := hpre.length_le
          rw [tabs_len, tabs_len] at hgl
          have hTl : ∀ t ∈ tabsE E, t.length = size ∧ ∀ x ∈ t, 0 ≤ x ∧ x < (n : Int) := fun t ht => by
            obtain ⟨c, hc, rfl⟩ := List.mem_map.1 ht
            exact e3 c hc
          have h4 := icmp_R n size f.ar f.tb (A.map fun x => (tabsE E).getD x.toNat []) hn (by omega) (by rw [List.length_map, hal]; omega) (by rw [List.length_map, hal]; exact hft) (fun t ht => by
            obtain ⟨x, hx, rfl⟩ := List.mem_map.1 ht
            have hxx := hain x hx
            exact hTl _ (getD_mem0 (by rw [tabs_len]; omega)))
          have h5 := iadd_c bm (r m) (cmpL n f.tb (A.map fun x => (tabsE E).getD x.toNat []) size, ((j : Int), A)) (by omega) (by dsimp only; rw [cmpL_len]; omega) (by dsimp only; omega) (entOk.small hn (hrok m)) (fun x hx => by have := hcok.2 x hx; omega)
          rw [← hrm] at h5
          generalize hC : cmpL (↑n) f.tb (A.map fun x => (tabsE E).getD x.toNat []) size = C at *
          generalize hE1 : r m = Em at *
          repeat' (first
| refine g_seq ?_
| refine zJ ?_
| refine zC ?_
| (refine o_go rfl ?_; (first
| refine p_p (zG rfl rfl aC (h1)) ?_
| refine p_p (zG rfl rfl aC (h2)) ?_
| refine p_p (zD rfl) ?_
| refine p_p (zA rfl) ?_
| refine p_p (zU rfl rfl rfl) ?_
| refine p_p (zS rfl rfl rfl) ?_
| refine p_p (zH rfl rfl rfl rfl) ?_
| refine p_p (zE rfl rfl) ?_); refine ⟨_, aB, ?_⟩)
| refine o_nil ?_
| (refine zK rfl (fun hc => ?_) (fun hc => ?_) <;> try (exfalso; omega))
| refine zR ?_)
          all_goals try (exfalso; omega)
          refine g_loopT (α := Nat) (fun q => [(71, I (q : Int))]) (fun q => [.mp bm (mpE Em), .box [.hp 2, .hp 3, mapV bm], tabO (tabsE Em), stpO (stepsE Em), .box [I f.ar, ints f.tb], .arr true 1 31 (((A.take q).map fun x => ints ((tabsE E).getD x.toNat [])) ++ X.drop q)]) (fun q => q ≤ k) (fun q => k - q) 0 aH (Nat.zero_le _) ⟨rfl, trivial⟩ rfl ?_
          rintro q hqk
          dsimp only [zZ, List.set_cons_zero, List.set_cons_succ]
          have hlq : (((A.take q).map fun x => ints ((tabsE E).getD x.toNat [])) ++ X.drop q).length = k := by simp; omega
          by_cases hql : q < k
          · have hx := hain _ (getD_at (show q < A.length by omega))
            have hix : ((tabsE Em).map ints)[(A.getD q 0).toNat * 1]? = some (ints ((tabsE E).getD (A.getD q 0).toNat [])) := by
              rw [Nat.mul_one, idx_ints (by rw [tabs_len]; omega), pre_getD hpre (by rw [tabs_len]; omega)]
            have hlE : ((tabsE Em).map ints).length = Em.length := by rw [List.length_map, tabs_len]
            repeat' (first
| refine g_seq ?_
| refine zJ ?_
| refine zC ?_
| (refine o_go rfl ?_; (first
| refine p_p (ps_nilCheck_hat rfl rfl) ?_
| refine p_p (yA rfl rfl rfl rfl (by omega) (by omega)) ?_
| refine p_p (ps_load_arr rfl rfl rfl (by exact hix) rfl) ?_
| refine p_e (by kernel_rfl) (e_store_arr rfl rfl rfl rfl (by omega) rfl rfl) ?_
| refine p_p (zD rfl) ?_
| refine p_p (zA rfl) ?_
| refine p_p (zF rfl rfl) ?_
| refine p_p (zN rfl rfl rfl (by omega) aR (by exact rfl)) ?_
| refine p_p (zS rfl rfl rfl) ?_
| refine p_p (ps_add rfl rfl rfl aN) ?_
| refine p_p (zH rfl rfl rfl rfl) ?_
| refine p_p (zE rfl rfl) ?_); refine ⟨_, aB, ?_⟩)
| refine o_nil ?_
| (refine zK rfl (fun hc => ?_) (fun hc => ?_) <;> try (exfalso; omega))
| refine zR ?_)
            all_goals try (exfalso; omega)
            refine zT (q + 1) (by omega) (by omega) aI ⟨rfl, trivial⟩ (zB rfl (zB rfl (zB rfl (zB rfl (zB rfl (zB ?_ (zM _)))))))
            have hq0 : ((A.take q).map fun x => ints ((tabsE E).getD x.toNat [])).length = q := by simp; omega
            rw [Nat.mul_one, List.set_append_right _ _ (by omega), hq0, Nat.sub_self, List.drop_eq_getElem_cons (show q < X.length by omega), List.set_cons_zero, take_snoc 0 (by omega), List.map_append, List.append_assoc]; rfl
          · rw [show A.take q = A from List.take_of_length_le (by omega), show X.drop q = [] from List.drop_of_length_le (by omega), List.append_nil, show (A.map fun x => ints ((tabsE E).getD x.toNat [])) = (A.map fun x => (tabsE E).getD x.toNat []).map ints by rw [List.map_map]; rfl]
            have hlm : ((tabsE (r (m + 1))).map ints).length = (r (m + 1)).length := by rw [List.length_map, tabs_len]
            have hrl := hrle (m + 1) (by omega)
            repeat' (first
| refine g_seq ?_
| refine zC ?_
| refine zP (by kernel_rfl) (by kernel_rfl) ?_
| (refine o_go rfl ?_; (first
| refine p_p (zG rfl rfl aC (h9)) ?_
| refine p_p (ps_callRV rfl rfl aC (h4)) ?_
| refine p_e (by kernel_rfl) (e_callM (ids := [1, 2, 3, 0]) rfl rfl rfl rfl (by rfl) aM rfl (h5)) ?_
| refine p_p (ps_nilCheck_hat rfl rfl) ?_
| refine p_p (zD rfl) ?_
| refine p_p (zA rfl) ?_
| refine p_p (zS rfl rfl rfl) ?_
| refine p_p (ps_add rfl rfl rfl aN) ?_
| refine p_p (ps_gtr rfl rfl rfl) ?_
| refine p_p (ps_len_mut rfl rfl rfl rfl) ?_
| refine p_p (zH rfl rfl rfl rfl) ?_
| refine p_p (zY rfl rfl rfl aK) ?_
| refine p_p (zE rfl rfl) ?_); refine ⟨_, aB, ?_⟩)
| refine o_nil ?_
| (refine zK rfl (fun hc => ?_) (fun hc => ?_) <;> try (exfalso; omega))
| refine kr2 ?_ ?_
| refine krB rfl ?_
| refine zR ?_
| refine g_exit ?_
| refine g_ret ?_)
            all_goals try (exfalso; omega)
            · rw [show V = none from e7.trans (cloneF_none (by omega))]
              exact kr_le (p := .val (.pointer none)) rfl (PV.le_refl _)
            · rw [show V = none from e7.trans (cloneF_none (by omega))]; rfl
            · exact zT (m + 1, (A.map fun x => (tabsE E).getD x.toNat []).map ints) ⟨by dsimp only; omega, by dsimp only; omega, by dsimp only; rw [List.length_map, List.length_map, hal]⟩ (by dsimp only; omega) aI ⟨rfl, trivial⟩ (zB rfl (zB rfl (zB rfl (zB rfl (zB rfl (zB rfl (zM _)))))))
        · obtain rfl : m = E.length ^ k := by omega
          repeat' (first
| refine g_seq ?_
| refine zC ?_
| (refine o_go rfl ?_; (first
| refine p_p (zG rfl rfl aC (h1)) ?_
| refine p_p (zD rfl) ?_
| refine p_p (zS rfl rfl rfl) ?_
| refine p_p (ps_add rfl rfl rfl aN) ?_
| refine p_p (zH rfl rfl rfl rfl) ?_
| refine p_p (zE rfl rfl) ?_); refine ⟨_, aB, ?_⟩)
| refine o_nil ?_
| (refine zK rfl (fun hc => ?_) (fun hc => ?_) <;> try (exfalso; omega))
| refine g_exit ?_)
          all_goals try (exfalso; omega)
          rw [hre] at hm6 ⊢
          unfold KBlock
          exact zT (j + 1) ⟨by omega, hm6⟩ (by omega) aI ⟨rfl, trivial⟩ (zB rfl (zB rfl (zB rfl (zB rfl (zM _)))))
      · obtain rfl : j = ops.length := by omega
        have hok2 := hsok _ hj
        rw [hsE] at hok2 hj6 ⊢
        repeat' (first
| refine g_seq ?_
| refine zC ?_
| (refine o_go rfl ?_; (first
| refine p_p (zS rfl rfl rfl) ?_); refine ⟨_, aB, ?_⟩)
| refine o_nil ?_
| (refine zK rfl (fun hc => ?_) (fun hc => ?_) <;> try (exfalso; omega))
| refine g_exit ?_)
        all_goals try (exfalso; omega)
        unfold KBlock
        exact zT (K := fun _ _ => True) (kg, (E.length : Int), roundE n size ops E) ⟨hj6, Nat.lt_of_lt_of_le e2 (foldE_len _ _), hok2, by dsimp only; omega, by dsimp only; exact Int.ofNat_le.2 (foldE_len _ _), fun h => by dsimp only at h ⊢; omega, by dsimp only; rw [e7]; exact restE_next hj6⟩ (by dsimp only; omega) aI ⟨rfl, trivial⟩ (zB rfl (zB rfl (zB rfl (zB rfl (zM _)))))
    · have hVE : V = some E := e7.trans (if_pos (by omega))
      repeat' (first
| refine g_seq ?_
| refine zC ?_
| (refine o_go rfl ?_; (first
| refine p_p (ps_nilCheck_hat rfl rfl) ?_
| refine p_p (zD rfl) ?_
| refine p_p (zA rfl) ?_
| refine p_p (zS rfl rfl rfl) ?_
| refine p_p (ps_len_mut rfl rfl rfl rfl) ?_
| refine p_p (zH rfl rfl rfl rfl) ?_
| refine p_p (zE rfl rfl) ?_); refine ⟨_, aB, ?_⟩)
| refine o_nil ?_
| (refine zK rfl (fun hc => ?_) (fun hc => ?_) <;> try (exfalso; omega))
| refine kr2 ?_ ?_
| refine krB rfl ?_
| refine g_exit ?_
| refine g_ret ?_)
      all_goals try (exfalso; omega)
      · rw [hVE]
        show KR _ _ (.ptr [intss (tabsE E), .sl 2 none ((stepsE E).map stpP), .any])
        exact kr_le (p := .ptr [intss (tabsE E), .sl 2 none ((stepsE E).map stpP), mapV bm]) (q := .ptr [intss (tabsE E), .sl 2 none ((stepsE E).map stpP), .any]) rfl (le_ptr (show aggLe [_, _, _] [_, _, _] from ⟨PV.le_refl _, PV.le_refl _, PV.le_any _, trivial⟩))
      · rw [hVE]; rfl
end Go.Proofs.YtlgfniaakjchgaaGreat
