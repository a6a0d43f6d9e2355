/- Walks: closing a partial map, the program's side. -/
import Derived.Test.YtepjlgilopfnpaaGreatJTm
import Derived.Test.YtepjlgilopfnpaaGreatJVe
namespace Go.Proofs.YtepjlgilopfnpaaGreat
open Go Go.Pv Go.Proofs
set_option maxHeartbeats 32000000
set_option maxRecDepth 100000

theorem fold_stop {g : CmS → Nat → CmS} (hg : ∀ s i, s.ok = false → g s i = s) {s : CmS} {i : Nat} (h : ((List.range i).foldl g s).ok = false) : ∀ j, (List.range (i + j)).foldl g s = (List.range i).foldl g s
 | 0 => rfl
 | j + 1 => by
  rw [← Nat.add_assoc, List.range_succ, List.foldl_append, fold_stop hg h j]
  exact hg _ _ h
theorem cmI_bad {n m : Nat} {fa fb : OpD} {s : CmS} {i : Nat} (h : s.ok = false) : cmI n m fa fb s i = s := by
 unfold cmI
 rw [h, if_neg Bool.false_ne_true]
theorem cmT_succ {n m : Nat} {fa fb : OpD} {s : CmS} {i : Nat} : cmT n m fa fb s (i + 1) = cmI n m fa fb (cmT n m fa fb s i) i := by
 unfold cmT
 rw [List.range_succ, List.foldl_append]; rfl
theorem cmT_stop {n m : Nat} {fa fb : OpD} {s : CmS} {i k : Nat} (hk : i ≤ k) (h : (cmT n m fa fb s i).ok = false) : cmT n m fa fb s k = cmT n m fa fb s i := by
 have := fold_stop (fun s i h => cmI_bad (n := n) (m := m) (fa := fa) (fb := fb) (i := i) h) h (k - i)
 rwa [show i + (k - i) = k by omega] at this
theorem cmO_succ {n m : Nat} {A Z : List OpD} {s : CmS} {k : Nat} : cmO n m A Z s (k + 1) = cmT n m (A.getD k default) (Z.getD k default) (cmO n m A Z s k) (A.getD k default).tb.length := by
 unfold cmO
 rw [List.range_succ, List.foldl_append]; rfl
theorem cmO_stop {n m : Nat} {A Z : List OpD} {s : CmS} {i k : Nat} (hk : i ≤ k) (h : (cmO n m A Z s i).ok = false) : cmO n m A Z s k = cmO n m A Z s i := by
 have := fold_stop (fun s o h => (cmT_stop (n := n) (m := m) (fa := A.getD o default) (fb := Z.getD o default) (Nat.zero_le (A.getD o default).tb.length) (show (cmT n m (A.getD o default) (Z.getD o default) s 0).ok = false from h) : cmT n m (A.getD o default) (Z.getD o default) s (A.getD o default).tb.length = s)) h (k - i)
 rwa [show i + (k - i) = k by omega] at this
theorem cmSt_succ {n m : Nat} {A Z : List OpD} {f f0 : List Int} {t : Nat} (h : cmSt n m A Z f t = ⟨f0, true, true⟩) : cmSt n m A Z f (t + 1) = cmPass n m A Z f0 := by
 show (if (cmSt n m A Z f t).ok && (cmSt n m A Z f t).ch then cmPass n m A Z (cmSt n m A Z f t).f else cmSt n m A Z f t) = _
 rw [h]; rfl
theorem cmFin_bad {n m : Nat} {A Z : List OpD} {f f0 : List Int} {t k i : Nat} (hs : cmSt n m A Z f t = ⟨f0, true, true⟩) (ht : t ≤ n) (hk : k < A.length) (hi : i < (A.getD k default).tb.length)
 (hb : (cmT n m (A.getD k default) (Z.getD k default) (cmO n m A Z ⟨f0, false, true⟩ k) (i + 1)).ok = false) : cmFin n m A Z f = ((cmT n m (A.getD k default) (Z.getD k default) (cmO n m A Z ⟨f0, false, true⟩ k) (i + 1)).f, false) := by
 have h1 := cmT_stop (k := (A.getD k default).tb.length) (by omega) hb
 have h2 : cmO n m A Z ⟨f0, false, true⟩ (k + 1) = cmT n m (A.getD k default) (Z.getD k default) (cmO n m A Z ⟨f0, false, true⟩ k) (i + 1) := by rw [cmO_succ, h1]
 have h3 := cmO_stop (k := A.length) (s := ⟨f0, false, true⟩) (show k + 1 ≤ A.length by omega) (by rw [h2]; exact hb)
 have h4 : cmSt n m A Z f (t + 1) = cmT n m (A.getD k default) (Z.getD k default) (cmO n m A Z ⟨f0, false, true⟩ k) (i + 1) := by
  rw [cmSt_succ hs]
  unfold cmPass
  rw [h3, h2]
 have h5 := cmSt_stay (n := n) (m := m) (A := A) (B := Z) (f := f) (t := t + 1) (by rw [h4, hb]; rfl) (n - t)
 rw [show t + 1 + (n - t) = n + 1 by omega, h4] at h5
 unfold cmFin
 rw [h5, hb]
theorem cmFin_good {n m : Nat} {A Z : List OpD} {f f0 : List Int} {t : Nat} (hs : cmSt n m A Z f t = ⟨f0, false, true⟩) (ht : t ≤ n + 1) : cmFin n m A Z f = (f0, true) := by
 have h5 := cmSt_stay (n := n) (m := m) (A := A) (B := Z) (f := f) (t := t) (by rw [hs]; rfl) (n + 1 - t)
 rw [show t + (n + 1 - t) = n + 1 by omega, hs] at h5
 unfold cmFin
 rw [h5]
theorem inop_c (n : Nat) (f : List Int) (a i : Nat) (hn0 : 0 < n) (hn : n ≤ 8) (hf : f.length = n) (ha : a ≤ 3) (hi : i ≤ 1000000) : PCalls Tryz.prog 197 [I (i : Int), I (a : Int), I (n : Int), ints f] (Go.Pv.B (opnB n f a i)) := by
 refine pcalls1 Tryz.func197 rfl Tryz.ntmps197 rfl ?_
 refine wF ?_
 repeat' (first
| refine wO ?_
| (refine o_go rfl ?_; (first
| refine wS ?_); refine ⟨_, aB, ?_⟩))
 refine g_loopT (α := Nat × Nat) (fun x => [(0, I (x.2 : Int)), (1, I (x.1 : Int))]) (fun _ => []) (fun x => x.1 ≤ a ∧ x.2 ≤ 1000000 ∧ opnB n f x.1 x.2 = opnB n f a i) (fun x => x.1) (a, i) aH ⟨Nat.le_refl _, hi, rfl⟩ ⟨rfl, rfl, trivial⟩ rfl ?_
 rintro ⟨k, j⟩ ⟨hk, hj, ho⟩
 dsimp only at hk hj ho
 refine wH ?_
 by_cases hk0 : 0 < k
 · have hr : j % n < n := Nat.mod_lt _ hn0
   have hrm : (j : Int) % (n : Int) = ((j % n : Nat) : Int) := by omega
   have hdv : (j : Int) / (n : Int) = ((j / n : Nat) : Int) := by omega
   have hle := Nat.div_le_self j n
   have i1 := row_atY (p := f) (x := j % n) (by omega)
   have hst : opnB n f k j = (!decide (f.getD (j % n) 0 < 0) && opnB n f (k - 1) (j / n)) := by
    obtain ⟨k, rfl⟩ : ∃ k', k = k' + 1 := ⟨k - 1, by omega⟩
    rfl
   have hkm : (k : Int) - 1 = ((k - 1 : Nat) : Int) := by omega
   generalize f.getD (j % n) 0 = v at *
   by_cases hv : v < 0
   · rw [decide_eq_true hv] at hst
     rw [← ho, hst]
     repeat' (first
| refine wO ?_
| (refine o_go rfl ?_; (first
| refine p_p (ps_remV rfl rfl rfl hrm zz zz) ?_
| refine p_p (zN rfl rfl rfl zz i1 ze) ?_
| refine wS ?_); refine ⟨_, aB, ?_⟩)
| (refine zK rfl ?_ ?_ <;> intro hc <;> try omega)
| refine kr1 ?_
| refine krB rfl ?_
| refine wE ?_)
     all_goals first | rfl | (exfalso; omega)
   · rw [decide_eq_false hv, Bool.not_false, Bool.true_and] at hst
     repeat' (first
| refine wO ?_
| (refine o_go rfl ?_; (first
| refine p_p (ps_remV rfl rfl rfl hrm zz zz) ?_
| refine p_p (ps_quoV rfl rfl rfl hdv zz zz zz) ?_
| refine p_p (zN rfl rfl rfl zz i1 ze) ?_
| refine wS ?_); refine ⟨_, aB, ?_⟩)
| (refine zK rfl ?_ ?_ <;> intro hc <;> try omega)
| refine wE ?_)
     all_goals try (exfalso; omega)
     exact zT (k - 1, j / n) ⟨by dsimp only; omega, by dsimp only; omega, hst.symm.trans ho⟩ (by dsimp only; omega) aI ⟨rfl, vI (by dsimp only; omega), trivial⟩ (zM _)
 · have hk0 : k = 0 := by omega
   subst hk0
   rw [← ho]
   repeat' (first
| refine wO ?_
| (refine o_go rfl ?_; (first
| refine wS ?_); refine ⟨_, aB, ?_⟩)
| refine kr1 ?_
| refine krB rfl ?_
| refine wE ?_)
   all_goals first | rfl | (exfalso; omega)
theorem opnB_at {n m : Nat} {f : List Int} {a i : Nat} (hp : ParM n m f) (hn : 0 < n) (ho : opnB n f (a + 1) i = true) : f.getD (i % n) 0 = (bk f (i % n) : Int) ∧ bk f (i % n) < m ∧ opnB n f a (i / n) = true := by
 unfold opnB at ho
 rw [Bool.and_eq_true, Bool.not_eq_true', decide_eq_false_iff_not] at ho
 have := hp.2 (i % n) (Nat.mod_lt _ hn)
 unfold bk
 refine ⟨by omega, by omega, ho.2⟩
theorem iimp_c (n m : Nat) (A Z : List OpD) (g : List Int) (a i : Nat) (hn0 : 0 < n) (hn : n ≤ 8) (hm0 : 0 < m) (hm : m ≤ 8) (ha : a ≤ 3) (hi : i ≤ 1000000) (hg : ParM n m g) (hog : opnB n g a i = true) : PCalls Tryz.prog 152 [I (i : Int), I (a : Int), algP n A, algP m Z, ints g] (I (mapI n m (bk g) a i : Int)) := by
 have hgl := hg.1
 have hlt : ∀ i, mapI n m (bk g) a i < m ^ a := fun i => mapI_lt hn0 (fun x hx => par_bk hm0 hg hx) a i
 have hT := hlt i
 have hP : m ^ a ≤ 512 := Nat.le_trans (Nat.pow_le_pow_left hm a) (Nat.le_trans (Nat.pow_le_pow_right (by decide) ha) (by decide))
 generalize hTe : mapI n m (bk g) a i = T at *
 refine pcalls1 Tryz.func152 rfl Tryz.ntmps152 rfl ?_
 refine wF ?_
 repeat' (first
| refine wO ?_
| (refine o_go rfl ?_; (first
| refine wS ?_
| refine p_p (ps_box rfl rfl) ?_); refine ⟨_, aB, ?_⟩))
 refine g_loopT (α := Nat × Nat × Nat × Nat) (fun x => [(0, I (x.2.1 : Int)), (11, I (x.2.2.1 : Int)), (12, I (x.2.2.2 : Int)), (13, I (x.1 : Int))]) (fun _ => []) (fun x => x.1 ≤ a ∧ x.2.1 ≤ 1000000 ∧ x.2.2.2 ≤ 512 ∧ x.2.2.2 = m ^ x.1 ∧ x.2.2.1 + mapI n m (bk g) (a - x.1) x.2.1 * x.2.2.2 = T ∧ opnB n g (a - x.1) x.2.1 = true) (fun x => a - x.1) (0, i, 0, 1) aH ⟨Nat.zero_le _, hi, Nat.le_of_ble_eq_true rfl, rfl, by dsimp only; rw [Nat.zero_add, Nat.mul_one]; exact hTe, hog⟩ ⟨rfl, rfl, rfl, rfl, trivial⟩ rfl ?_
 rintro ⟨k, i', at_, s⟩ ⟨h1, h2, h3, h4, h5, h6⟩
 dsimp only at h1 h2 h3 h4 h5 h6
 refine wH ?_
 by_cases hk : k < a
 · have hst := mapI_step hk h5
   have hr : i' % n < n := Nat.mod_lt _ hn0
   rw [show a - k = (a - (k + 1)) + 1 by omega] at h6
   obtain ⟨v1, v2, h7⟩ := opnB_at hg hn0 h6
   have hrm : (i' : Int) % (n : Int) = ((i' % n : Nat) : Int) := by omega
   have hdv : (i' : Int) / (n : Int) = ((i' / n : Nat) : Int) := by omega
   have hle := Nat.div_le_self i' n
   have i1 := row_atY (p := g) (x := i' % n) (by omega)
   rw [v1] at i1
   have hs2 : s * m ≤ 512 := by
    rw [h4, ← Nat.pow_succ]
    exact Nat.le_trans (Nat.pow_le_pow_left hm _) (Nat.le_trans (Nat.pow_le_pow_right (by decide) (show k + 1 ≤ 3 by omega)) (by decide))
   have hvs : bk g (i' % n) * s ≤ 4096 := Nat.le_trans (Nat.mul_le_mul (show _ ≤ 8 by omega) h3) (by decide)
   have e1 : ((bk g (i' % n) : Nat) : Int) * (s : Int) = ((bk g (i' % n) * s : Nat) : Int) := by rw [Int.natCast_mul]
   have e2 : (s : Int) * (m : Int) = ((s * m : Nat) : Int) := by rw [Int.natCast_mul]
   have hsm : s * m = m ^ (k + 1) := by rw [h4, Nat.pow_succ]
   generalize bk g (i' % n) * s = V at *
   generalize s * m = s' at *
   generalize bk g (i' % n) = v at *
   repeat' (first
| refine wO ?_
| (refine o_go rfl ?_; (first
| refine p_p (ps_remV rfl rfl rfl hrm zz zz) ?_
| refine p_p (ps_quoV rfl rfl rfl hdv zz zz zz) ?_
| refine p_p (ps_mulV rfl rfl rfl e1 zz) ?_
| refine p_p (ps_mulV rfl rfl rfl e2 zz) ?_
| refine p_p (zN rfl rfl rfl zz i1 ze) ?_
| refine wS ?_); refine ⟨_, aB, ?_⟩)
| (refine zK rfl ?_ ?_ <;> intro hc <;> try omega)
| refine wE ?_)
   all_goals try (exfalso; omega)
   exact zT (k + 1, i' / n, at_ + V, s') ⟨by dsimp only; omega, by dsimp only; omega, hs2, hsm, hst, h7⟩ (by dsimp only; omega) aI ⟨rfl, vI (by dsimp only; omega), rfl, vI (by dsimp only; omega), trivial⟩ (zM _)
 · have hka : k = a := by omega
   have hTt : at_ = T := by
    rw [hka, Nat.sub_self] at h5
    simpa [mapI] using h5
   repeat' (first
| refine wO ?_
| (refine o_go rfl ?_; (first
| refine wS ?_); refine ⟨_, aB, ?_⟩)
| (refine zK rfl ?_ ?_ <;> intro hc <;> try omega)
| refine kr1 ?_
| refine krI rfl ?_
| refine wE ?_)
   all_goals first | (rw [hTt]) | (exfalso; omega)
theorem icm_L (n m : Nat) (A Z : List OpD) (f : List Int) (hn0 : 0 < n) (hn : n ≤ 8) (hm0 : 0 < m) (hm : m ≤ 8) (hl : A.length ≤ 1048576) (hA : opsIn n A) (hZ : opsIn m Z) (ht : sameT A Z) (hf : ParM n m f) :
 LCalls Tryz.prog 184 (.arr true 1 3 (f.map I)) [algP n A, algP m Z, .hp 0] (.arr true 1 3 ((cmFin n m A Z f).1.map I)) (B (cmFin n m A Z f).2) := by
 have H := alk_of hn0 hm0 hA hZ ht
 have hlZ := ht.len
 have hfl : f.length ≤ 8 := by rw [hf.1]; exact hn
 refine pcallsL1 Tryz.func184 rfl Tryz.ntmps184 rfl rfl rfl (by simp) fun b d => ?_
 simp only [List.length_cons, List.length_nil, Nat.reduceAdd, Nat.reduceSub, List.replicate_succ, List.replicate_zero]
 repeat' (first
| refine wO ?_
| (refine o_go rfl ?_; (first
| refine wS ?_
| refine p_p (ps_box rfl rfl) ?_); refine ⟨_, aB, ?_⟩))
 refine g_loopT (α := Nat) (fun t => [(7, B (cmSt n m A Z f t).ch)]) (fun t => [.arr true 1 3 ((cmSt n m A Z f t).f.map I)]) (fun t => t ≤ n + 1 ∧ (cmSt n m A Z f t).ok = true) (fun t => n + 2 - t) 0 aH ⟨Nat.zero_le _, rfl⟩ ⟨rfl, trivial⟩ rfl ?_
 rintro t ⟨htn, hok⟩
 have hpar := cmSt_par H hf t
 have hop := opn_le n f
 have hs : cmSt n m A Z f t = ⟨(cmSt n m A Z f t).f, (cmSt n m A Z f t).ch, true⟩ := by rw [← hok]
 generalize (cmSt n m A Z f t).f = f0 at *
 generalize (cmSt n m A Z f t).ch = ch0 at *
 rw [hok] at hpar
 refine wH ?_
 cases ch0 with
 | false =>
  have hF := cmFin_good hs htn
  repeat' (first
| refine wO ?_
| (refine o_go rfl ?_; (first
| refine wS ?_); refine ⟨_, aB, ?_⟩)
| refine wE ?_)
  all_goals try (exfalso; omega)
  refine krl 2 rfl ?_ rfl (krB rfl ?_)
  · rw [hF]
  · rw [hF]
 | true =>
  have hle : t ≤ n := by have := hpar.2.2 rfl; omega
  have hnx := cmSt_succ hs
  have hp0 : ParM n m (⟨f0, false, true⟩ : CmS).f := hpar.1
  repeat' (first
| refine wO ?_
| (refine o_go rfl ?_; (first
| refine wS ?_); refine ⟨_, aB, ?_⟩)
| refine wE ?_)
  all_goals try (exfalso; omega)
  refine g_loopT (α := Nat) (fun k => [(17, I (k : Int)), (7, B (cmO n m A Z ⟨f0, false, true⟩ k).ch)]) (fun k => [.arr true 1 3 ((cmO n m A Z ⟨f0, false, true⟩ k).f.map I)]) (fun k => k ≤ A.length ∧ (cmO n m A Z ⟨f0, false, true⟩ k).ok = true) (fun k => A.length - k) 0 aH ⟨Nat.zero_le _, rfl⟩ ⟨rfl, rfl, trivial⟩ rfl ?_
  rintro k ⟨hk, hok1⟩
  have hp1 := (cmO_R H hk hp0).par
  refine wH ?_
  by_cases hkl : k < A.length
  · have hq := opsK_at hkl
    have hqZ := opsK_at (show k < Z.length by omega)
    have hfA := hA _ (opsK_mem hkl)
    have hfZ := hZ _ (opsK_mem (show k < Z.length by omega))
    have hat := ht.at k
    have hcs := cmO_succ (n := n) (m := m) (A := A) (Z := Z) (s := ⟨f0, false, true⟩) (k := k)
    have hbad := fun i => cmFin_bad (i := i) hs hle hkl
    have hR := fun {i : Nat} (hi : i ≤ (A.getD k default).tb.length) => (cmT_R H hkl hi hp1).par
    have tvA := fun {x : Nat} (hx : x < n ^ (A.getD k default).ar.toNat) => tb_valQ hA (opsK_mem hkl) hx
    generalize cmO n m A Z ⟨f0, false, true⟩ k = s1 at *
    generalize A.getD k default = fa at *
    generalize Z.getD k default = fz at *
    obtain ⟨a, ha⟩ : ∃ a : Nat, fa.ar = a := ⟨fa.ar.toNat, by omega⟩
    have haa : fa.ar.toNat = a := by omega
    have haZ : fz.ar.toNat = a := by omega
    have hP : n ^ a ≤ 512 := Nat.le_trans (Nat.pow_le_pow_left hn a) (Nat.le_trans (Nat.pow_le_pow_right (by decide) (show a ≤ 3 by omega)) (by decide))
    have hfl1 := hfA.2.2.1
    have hfl2 := hfZ.2.2.1
    rw [haa] at hfl1
    rw [haZ] at hfl2
    repeat' (first
| refine wO ?_
| (refine o_go rfl ?_; (first
| refine p_p (zN rfl rfl rfl zz hq ze) ?_
| refine wS ?_
| refine p_p (ps_load_agg rfl rfl aK) ?_
| refine p_e rfl (zO rfl rfl rfl rfl aK rfl rfl rfl) ?_
| refine p_e rfl (e_alloc rfl) ?_); refine ⟨_, aB, ?_⟩)
| (refine zK rfl ?_ ?_ <;> intro hc <;> try omega)
| refine wE ?_)
    all_goals try (exfalso; omega)
    refine g_loopT (α := Nat) (fun i => [(25, I (i : Int)), (7, B (cmT n m fa fz s1 i).ch)]) (fun i => [.arr true 1 3 ((cmT n m fa fz s1 i).f.map I), .box [I fa.ar, ints fa.tb]]) (fun i => i ≤ fa.tb.length ∧ (cmT n m fa fz s1 i).ok = true) (fun i => fa.tb.length - i) 0 aH ⟨Nat.zero_le _, hok1⟩ ⟨rfl, rfl, trivial⟩ rfl ?_
    rintro i ⟨hi, hok2⟩
    have hp2 := hR hi
    have hbad := hbad i
    refine wH ?_
    by_cases hil : i < fa.tb.length
    · have him : i < n ^ fa.ar.toNat := by rw [haa]; omega
      have hb := (hfA.2.2.2 i him).2
      have hbad := hbad hil
      rw [cmT_succ] at hbad
      have hsc := cmT_succ (n := n) (m := m) (fa := fa) (fb := fz) (s := s1) (i := i)
      have hv := tvA him
      generalize cmT n m fa fz s1 i = s at *
      obtain ⟨q, ch, ok⟩ := s
      dsimp only at hok2 hp2
      subst hok2
      have hql : q.length = n := hp2.1
      have hqm : (q.map I).length = n := by rw [List.length_map]; exact hql
      have i1 := row_atY (p := fa.tb) (x := i) hil
      rw [hv] at i1
      have i2 : (q.map I)[bk fa.tb i * 1]? = some (I (q.getD (bk fa.tb i) 0)) := by rw [Nat.mul_one]; exact idx_I (by omega)
      have c1 := inop_c n q a i hn0 hn hql (by omega) (by omega)
      have hX : mapI n m (bk q) a i < m ^ a := mapI_lt hn0 (fun x hx => par_bk hm0 hp2 hx) a i
      have c2 := iimp_c n m A Z q a i hn0 hn hm0 hm (by omega) (by omega) hp2
      have i3 := row_atY (p := fz.tb) (x := mapI n m (bk q) a i) (by omega)
      have hcm : cmI n m fa fz ⟨q, ch, true⟩ i = (if opnB n q a i then
       if q.getD (bk fa.tb i) 0 < 0 then ⟨q.set (bk fa.tb i) (fz.tb.getD (mapI n m (bk q) a i) 0), true, true⟩
       else if q.getD (bk fa.tb i) 0 = fz.tb.getD (mapI n m (bk q) a i) 0 then ⟨q, ch, true⟩ else ⟨q, ch, false⟩
       else ⟨q, ch, true⟩ : CmS) := by rw [← haa]; rfl
      rw [← ha] at c1 c2
      rw [hcm] at hsc hbad
      clear hcm
      cases hob : opnB n q a i with
      | false =>
       rw [hob] at c1 hsc
       rw [if_neg Bool.false_ne_true] at hsc
       repeat' (first
| refine wO ?_
| (refine o_go rfl ?_; (first
| refine p_p (zN rfl rfl rfl zz i1 ze) ?_
| refine p_p (ps_callM rfl rfl aD (by rfl) (c1)) ?_
| refine wS ?_); refine ⟨_, aB, ?_⟩)
| (refine zK rfl ?_ ?_ <;> intro hc <;> try omega)
| refine wE ?_)
       all_goals try (exfalso; omega)
       exact zT (i + 1) ⟨by omega, by rw [hsc]⟩ (by omega) aI ⟨rfl, vB (by rw [hsc]), trivial⟩ (zB (by rw [hsc]) (zB rfl (zM _)))
      | true =>
       have c2 := c2 hob
       rw [hob] at c1 hsc hbad
       rw [if_pos rfl] at hsc hbad
       generalize mapI n m (bk q) a i = X at *
       generalize hw : fz.tb.getD X 0 = w at *
       generalize bk fa.tb i = v at *
       by_cases h0 : q.getD v 0 < 0
       · rw [if_pos h0] at hsc
         clear hbad
         generalize q.getD v 0 = u at *
         repeat' (first
| refine wO ?_
| refine zP zk zk ?_
| (refine o_go rfl ?_; (first
| refine p_p (zN rfl rfl rfl zz i1 ze) ?_
| refine p_p (ps_callM rfl rfl aD (by rfl) (c1)) ?_
| refine p_p (zN rfl rfl rfl zz hqZ ze) ?_
| refine p_p (ps_callM rfl rfl aD (by rfl) (c2)) ?_
| refine p_p (zN rfl rfl rfl zz i3 ze) ?_
| refine p_p (ps_unv (yA rfl rfl rfl rfl zz (by rw [n_toNat]; omega))) ?_
| refine p_p (ps_load_arr rfl rfl rfl i2 (by rfl)) ?_
| refine wS ?_
| refine p_p (ps_load_agg rfl rfl aK) ?_
| refine p_e rfl (e_store_arr rfl rfl rfl rfl aR rfl rfl) ?_); refine ⟨_, aB, ?_⟩)
| (refine zK rfl ?_ ?_ <;> intro hc <;> try omega)
| refine wE ?_)
         all_goals try (exfalso; omega)
         exact zT (i + 1) ⟨by omega, by rw [hsc]⟩ (by omega) aI ⟨rfl, vB (by rw [hsc]), trivial⟩ (zB (by rw [hsc]; simp) (zB rfl (zM _)))
       · rw [if_neg h0] at hsc hbad
         generalize q.getD v 0 = u at *
         by_cases he : u = w
         · rw [if_pos he] at hsc
           clear hbad
           repeat' (first
| refine wO ?_
| refine zP zk zk ?_
| (refine o_go rfl ?_; (first
| refine p_p (zN rfl rfl rfl zz i1 ze) ?_
| refine p_p (ps_callM rfl rfl aD (by rfl) (c1)) ?_
| refine p_p (zN rfl rfl rfl zz hqZ ze) ?_
| refine p_p (ps_callM rfl rfl aD (by rfl) (c2)) ?_
| refine p_p (zN rfl rfl rfl zz i3 ze) ?_
| refine p_p (ps_unv (yA rfl rfl rfl rfl zz (by rw [n_toNat]; omega))) ?_
| refine p_p (ps_load_arr rfl rfl rfl i2 (by rfl)) ?_
| refine wS ?_
| refine p_p (ps_load_agg rfl rfl aK) ?_); refine ⟨_, aB, ?_⟩)
| (refine g_condN rfl ?_ ?_ <;> intro hc <;> try omega)
| (refine zK rfl ?_ ?_ <;> intro hc <;> try omega)
| refine wE ?_)
           all_goals try (exfalso; first | omega | exact hc he)
           exact zT (i + 1) ⟨by omega, by rw [hsc]⟩ (by omega) aI ⟨rfl, vB (by rw [hsc]), trivial⟩ (zB (by rw [hsc]) (zB rfl (zM _)))
         · rw [if_neg he] at hbad
           have hF := hbad rfl
           repeat' (first
| refine wO ?_
| refine zP zk zk ?_
| (refine o_go rfl ?_; (first
| refine p_p (zN rfl rfl rfl zz i1 ze) ?_
| refine p_p (ps_callM rfl rfl aD (by rfl) (c1)) ?_
| refine p_p (zN rfl rfl rfl zz hqZ ze) ?_
| refine p_p (ps_callM rfl rfl aD (by rfl) (c2)) ?_
| refine p_p (zN rfl rfl rfl zz i3 ze) ?_
| refine p_p (ps_unv (yA rfl rfl rfl rfl zz (by rw [n_toNat]; omega))) ?_
| refine p_p (ps_load_arr rfl rfl rfl i2 (by rfl)) ?_
| refine wS ?_
| refine p_p (ps_load_agg rfl rfl aK) ?_); refine ⟨_, aB, ?_⟩)
| (refine g_condN rfl ?_ ?_ <;> intro hc <;> try omega)
| (refine zK rfl ?_ ?_ <;> intro hc <;> try omega)
| refine wE ?_)
           all_goals try (exfalso; first | omega | exact he hc)
           refine krl 2 rfl ?_ rfl (krB rfl ?_)
           · rw [hF]
           · rw [hF]
    · have hie : i = fa.tb.length := by omega
      rw [← hie] at hcs
      repeat' (first
| refine wO ?_
| (refine o_go rfl ?_; (first
| refine wS ?_); refine ⟨_, aB, ?_⟩)
| (refine zK rfl ?_ ?_ <;> intro hc <;> try omega)
| refine wE ?_)
      all_goals try (exfalso; omega)
      exact zT (K := fun _ _ => True) (k + 1) ⟨by omega, by rw [hcs]; exact hok2⟩ (by omega) aI ⟨rfl, vB (by rw [hcs]), trivial⟩ (zB (by rw [hcs]) (zM _))
  · have hke : k = A.length := by omega
    have hps : cmSt n m A Z f (t + 1) = cmO n m A Z ⟨f0, false, true⟩ k := by rw [hnx, hke]; rfl
    repeat' (first
| refine wO ?_
| (refine o_go rfl ?_; (first
| refine wS ?_); refine ⟨_, aB, ?_⟩)
| (refine zK rfl ?_ ?_ <;> intro hc <;> try omega)
| refine wE ?_)
    all_goals try (exfalso; omega)
    exact zT (K := fun _ _ => True) (t + 1) ⟨by omega, by rw [hps]; exact hok1⟩ (by omega) aI ⟨vB (by rw [hps]), trivial⟩ (zB (by rw [hps]) (zM _))
end Go.Proofs.YtepjlgilopfnpaaGreat
