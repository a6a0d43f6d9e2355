/- Walks: the reference's clones, whole. -/
import Derived.Test.YtlgfniaakjchgaaGreatLGd
namespace Go.Proofs.YtlgfniaakjchgaaGreat
open Go Go.Pv Go.Proofs
set_option maxHeartbeats 32000000
set_option maxRecDepth 100000
attribute [local bitvec_to_nat] St.put St.setObj St.ev killP killA killP1 killH mapHO renP renA ren1 killG killGA killG1 krowP krowA krow1 lendP lendA lend1 unv pinP pin1 elemsM viewM viewN viewV n_set_z n_set_s n_map_c n_map_n getD_z getD_s n_toNat n_cond_t n_cond_f n_len_c n_len_n n_app_c n_app_n n_take_s n_take_z n_drop_s n_drop_z n_get_z n_get_s view viewA view1 elems Nat.zero_add Nat.add_zero Bool.not_true Bool.not_false Nat.one_ne_zero Nat.mul_one
attribute [local bitvec_to_nat] posI optP lendM1 lendMA lendMP killM1 killMA killMP hasI getO backM1 backMA backMP putL inpM pinM1 pinMA pinMP

def prjs (n k : Nat) : List (List Int) := (List.range k).map (prjL n k)
theorem prjs_len (n k : Nat) : (prjs n k).length = k := by simp [prjs]
theorem prjs_getD {n k i : Nat} (h : i < k) : (prjs n k).getD i [] = prjL n k i := by
  unfold prjs; rw [List.getD_eq_getElem?_getD, List.getElem?_map, List.getElem?_range h]; rfl
def rndsL (n size : Nat) (ops : List OpD) : Nat → Nat → List Ent × Bool → List Ent × Bool
  | 0, _, s => s
  | k + 1, b, s => if s.2 = true then s else if b < s.1.length then rndsL n size ops k s.1.length (((candsF n size ops (tabsE s.1) ops.length).filter (pE b)).foldl addL (s.1, false)) else s
theorem rndsL_large {n size : Nat} {ops : List OpD} {s : List Ent × Bool} (h : s.2 = true) : ∀ (k b : Nat), rndsL n size ops k b s = s
  | 0, _ => rfl
  | _ + 1, _ => if_pos h
theorem rndsL_end {n size : Nat} {ops : List OpD} {s : List Ent × Bool} {b : Nat} (h : ¬ b < s.1.length) : ∀ (k : Nat), rndsL n size ops k b s = s
  | 0 => rfl
  | k + 1 => by
    rw [rndsL, if_neg h]
    split <;> rfl
theorem rndsL_spec (n size : Nat) (ops : List OpD) (hn0 : 0 < n) (ho : ∀ f ∈ ops, opOk n f = true) : ∀ (kf before : Nat) (E : List Ent), E.length ≤ 60 → 0 < E.length → (∀ c ∈ E, entOk n size c) → before ≤ E.length → (before < E.length → 63 ≤ kf + E.length) → (before ≠ 0 → closedT n size ops (tabsE E) before) →
    (∀ c ∈ (rndsL n size ops kf before (E, false)).1, entOk n size c) ∧ (rndsL n size ops kf before (E, false)).1.length ≤ 60 ∧ (match restE n size ops kf (before : Int) E with | some E' => rndsL n size ops kf before (E, false) = (E', false) | none => (rndsL n size ops kf before (E, false)).2 = true)
  | 0, before, E, h1, h2, h3, h4, h5, h6 => by
    have hb : before = E.length := by
      rcases Nat.lt_or_ge before E.length with h | h
      · have := h5 h; omega
      · omega
    refine ⟨h3, h1, ?_⟩
    rw [show restE n size ops 0 (before : Int) E = some E from if_pos (by omega)]; rfl
  | k + 1, before, E, h1, h2, h3, h4, h5, h6 => by
    by_cases hb : before < E.length
    · have hun : rndsL n size ops (k + 1) before (E, false) = rndsL n size ops k E.length (((candsF n size ops (tabsE E) ops.length).filter (pE before)).foldl addL (E, false)) := by
        rw [rndsL, if_neg (by simp), if_pos hb]
      have hok := foldL_all (p := entOk n size) (cs := (candsF n size ops (tabsE E) ops.length).filter (pE before)) (s := (E, false)) (fun c hc => candsF_ok hn0 ho (tabsE E) ops.length (Nat.le_refl _) c (List.mem_filter.1 hc).1) h3
      rw [hun, restE_some (by omega)]
      rcases Nat.lt_or_ge 60 (roundE n size ops E).length with hlt | hle
      · have hl := roundL_over h2 h1 h6 hlt
        rw [rndsL_large hl, cloneF_none hlt]
        exact ⟨hok, foldL_len _ _ h1, hl⟩
      · have hr := roundL_ok h2 h6 hle
        rw [hr] at hok ⊢
        rw [restE_next hle]
        have hpre : E.length ≤ (roundE n size ops E).length := foldE_len _ _
        have h5' := h5 hb
        exact rndsL_spec n size ops hn0 ho k E.length (roundE n size ops E) hle (by omega) hok hpre (fun h => by omega) (fun _ => closed_next h2)
    · have hb' : before = E.length := by omega
      rw [rndsL_end (s := (E, false)) hb]
      refine ⟨h3, h1, ?_⟩
      rw [show restE n size ops (k + 1) (before : Int) E = some E from if_pos (by omega)]
def specW (n k : Nat) (ops : List OpD) : List Ent × Bool := rndsL n (n ^ k) ops 62 0 (firstE n k k, false)
theorem specW_spec {n k : Nat} {ops : List OpD} (hn0 : 0 < n) (hk0 : 0 < k) (hk : k ≤ 3) (ho : ∀ f ∈ ops, opOk n f = true) :
    (∀ c ∈ (specW n k ops).1, entOk n (n ^ k) c) ∧ (specW n k ops).1.length ≤ 60 ∧ (match cloneV n k ops with | some E => specW n k ops = (E, false) | none => (specW n k ops).2 = true) := by
  have hl := firstE_len n k k
  have hl2 := hl.2 hk0
  have := rndsL_spec n (n ^ k) ops hn0 ho 62 0 (firstE n k k) (by omega) hl2 (firstE_ok hn0 k) (Nat.zero_le _) (fun _ => by omega) (fun h => absurd rfl h)
  rw [restE_some (by omega)] at this
  exact this
abbrev cloW (W : List Ent × Bool) : PV := .agg [intss (tabsE W.1), .sl 2 none ((stepsE W.1).map stpP), B W.2]
def fH (n k : Nat) : Nat → List HO
  | 0 => [.box [nilV, nilV, B false], .box [nilV, nilV, B false], .gone, .gone]
  | i + 1 => [.box [nilV, nilV, B false], .box [.hp 2, .hp 3, B false], tabO (tabsE (firstE n k (i + 1))), stpO (stepsE (firstE n k (i + 1)))]
theorem firstL {n k i : Nat} (hk : k ≤ 3) (hi : i < k) : addL (firstE n k i, false) (prjL n k i, (-1, [(i : Int)])) = (firstE n k (i + 1), false) :=
  addL_ok (by have := (firstE_len n k (i + 1)).1; exact Nat.le_trans this (by omega))
theorem srounds_c (n k : Nat) (ops : List OpD) (hn0 : 0 < n) (hn : n ≤ 8) (hk0 : 0 < k) (hk : k ≤ 3) (hs : n ^ k ≤ 1000) (hol : ops.length ≤ 1000) (ho : ∀ f ∈ ops, opOk n f = true) :
    PCalls Tryz.prog 99 [I (n : Int), opsP ops, intss (prjs n k)] (cloW (specW n k ops)) := by
  refine pcallsC Tryz.func99 rfl Tryz.ntmps99 rfl ?_
  simp only [List.length_cons, List.length_nil, Nat.reduceAdd, Nat.reduceSub, List.replicate_succ, List.replicate_zero, List.cons_append, List.nil_append]
  have hpl := prjs_len n k
  repeat' (first
| refine g_seq ?_
| refine zJ ?_
| refine zC ?_
| (refine o_go rfl ?_; (first
| refine p_p (zA rfl) ?_
| refine p_e rfl (zO rfl rfl rfl rfl aK rfl rfl rfl) ?_
| refine p_e rfl (e_alloc rfl) ?_
| refine p_p (ps_build rfl rfl) ?_); refine ⟨_, aB, ?_⟩)
| refine o_nil ?_)
  refine g_gones [.gone, .gone] ⟨rfl, rfl, trivial⟩ ⟨_, by dsimp only [bitvec_to_nat, Nat.reduceAdd, Nat.reduceMul, Nat.reduceBEq, reduceCtorEq, posI, optP, lendM1, lendMA, lendMP, killM1, killMA, killMP, hasI, getO, backM1, backMA, backMP, putL, inpM, pinM1, pinMA, pinMP], ?_⟩
  refine g_loopT (α := Nat) (fun i => [(8, I (i : Int))]) (fH n k) (fun i => i ≤ k) (fun i => k - i) 0 aH (Nat.zero_le _) ⟨rfl, trivial⟩ rfl ?_
  rintro i hi
  dsimp only [zZ, List.set_cons_zero, List.set_cons_succ]
  by_cases hik : i < k
  · have hix := idx_ints (T := prjs n k) (i := i) (by omega)
    rw [prjs_getD hik] at hix
    rcases i with _ | i
    · have h1 := sadd0_c (prjL n k 0, (-1, [0]))
      dsimp only [fH]
      repeat' (first
| refine g_seq ?_
| refine zJ ?_
| refine zC ?_
| refine zP (by kernel_rfl) (by kernel_rfl) ?_
| (refine o_go rfl ?_; (first
| refine p_p (zN rfl rfl rfl (by omega) hix (by exact rfl)) ?_
| refine p_e (by kernel_rfl) (e_callM (ids := [2, 3]) rfl rfl rfl rfl (by rfl) aM rfl (h1)) ?_
| refine p_p (zD rfl) ?_
| refine p_p (zA rfl) ?_
| refine p_p (zF rfl rfl) ?_
| refine p_p (zU rfl rfl rfl) ?_
| refine p_p (zS rfl rfl rfl) ?_
| refine p_p (ps_add rfl rfl rfl aN) ?_
| refine p_p (zY rfl rfl rfl aK) ?_
| refine p_e rfl (zO rfl rfl rfl rfl aK rfl rfl rfl) ?_
| refine p_p (ps_lit1 rfl rfl (by rfl) (by rfl)) ?_
| refine p_p (ps_build rfl rfl) ?_); refine ⟨_, aB, ?_⟩)
| refine o_nil ?_
| (refine zK rfl (fun hc => ?_) (fun hc => ?_) <;> try (exfalso; omega))
| refine zR ?_)
      all_goals try (exfalso; omega)
      have hf1 : firstE n k 1 = [(prjL n k 0, (-1, [0]))] := by simp [firstE, addE, tabsE]
      refine zT 1 (by omega) (by omega) aI ⟨rfl, trivial⟩ ?_
      dsimp only [fH]
      rw [hf1]
      exact zB rfl (zB rfl (zB rfl (zB rfl (zM _))))
    · have hfl := (firstE_len n k (i + 1)).1
      have h1 := sadd_c (firstE n k (i + 1)) false (prjL n k (i + 1), (-1, [((i + 1 : Nat) : Int)])) (by omega) (fun c hc => by rw [(firstE_ok hn0 (i + 1) c hc).1]; omega)
      rw [firstL hk hik] at h1
      dsimp only [fH]
      repeat' (first
| refine g_seq ?_
| refine zJ ?_
| refine zC ?_
| refine zP (by kernel_rfl) (by kernel_rfl) ?_
| (refine o_go rfl ?_; (first
| refine p_p (zN rfl rfl rfl (by omega) hix (by exact rfl)) ?_
| refine p_e (by kernel_rfl) (e_callM (ids := [2, 3]) rfl rfl rfl rfl (by rfl) aM rfl (h1)) ?_
| refine p_p (zD rfl) ?_
| refine p_p (zA rfl) ?_
| refine p_p (zF rfl rfl) ?_
| refine p_p (zU rfl rfl rfl) ?_
| refine p_p (zS rfl rfl rfl) ?_
| refine p_p (ps_add rfl rfl rfl aN) ?_
| refine p_p (zY rfl rfl rfl aK) ?_
| refine p_e rfl (zO rfl rfl rfl rfl aK rfl rfl rfl) ?_
| refine p_p (ps_lit1 rfl rfl (by rfl) (by rfl)) ?_
| refine p_p (ps_build rfl rfl) ?_); refine ⟨_, aB, ?_⟩)
| refine o_nil ?_
| (refine zK rfl (fun hc => ?_) (fun hc => ?_) <;> try (exfalso; omega))
| refine zR ?_)
      all_goals try (exfalso; omega)
      exact zT (i + 2) (by omega) (by omega) aI ⟨rfl, trivial⟩ (zB rfl (zB rfl (zB rfl (zB rfl (zM _)))))
  · obtain ⟨i, rfl⟩ : ∃ j, i = j + 1 := ⟨i - 1, by omega⟩
    obtain rfl : i + 1 = k := by omega
    dsimp only [fH]
    have hfl := firstE_len n (i + 1) (i + 1)
    have hfok := firstE_ok (k := i + 1) hn0 (i + 1)
    obtain ⟨W, hW⟩ : ∃ W, W = specW n (i + 1) ops := ⟨_, rfl⟩
    have hW0 : W = rndsL n (n ^ (i + 1)) ops 62 0 (firstE n (i + 1) (i + 1), false) := hW
    rw [← hW]
    clear hW
    generalize hE0 : firstE n (i + 1) (i + 1) = E0 at *
    generalize hsz : n ^ (i + 1) = size at *
    repeat' (first
| refine g_seq ?_
| refine zJ ?_
| refine zC ?_
| (refine o_go rfl ?_; (first
| refine p_p (zD rfl) ?_
| refine p_p (zA rfl) ?_
| refine p_p (zU rfl rfl rfl) ?_
| refine p_p (zS rfl rfl rfl) ?_); refine ⟨_, aB, ?_⟩)
| refine o_nil ?_
| (refine zK rfl (fun hc => ?_) (fun hc => ?_) <;> try (exfalso; omega))
| refine g_exit ?_)
    all_goals try (exfalso; omega)
    refine g_loopT (α := Nat × Nat × List Ent × Bool) (fun x => [(9, I (x.2.1 : Int))]) (fun x => [.box [nilV, nilV, B false], .box [.hp 2, .hp 3, B x.2.2.2], tabO (tabsE x.2.2.1), stpO (stepsE x.2.2.1)]) (fun x => x.2.2.1.length ≤ 60 ∧ 0 < x.2.2.1.length ∧ (∀ c ∈ x.2.2.1, entOk n size c) ∧ x.2.1 ≤ x.2.2.1.length ∧ (x.2.1 < x.2.2.1.length → 63 ≤ x.1 + x.2.2.1.length) ∧ W = rndsL n size ops x.1 x.2.1 (x.2.2.1, x.2.2.2)) (fun x => x.1) (62, 0, E0, false) aH ⟨by dsimp only; omega, by dsimp only; omega, hfok, Nat.zero_le _, fun _ => by dsimp only; omega, hW0⟩ ⟨rfl, trivial⟩ rfl ?_
    rintro ⟨kf, before, E, lg⟩ ⟨e1, e2, e3, e4, e5, e6⟩
    dsimp only at e1 e2 e3 e4 e5 e6
    dsimp only [zZ, List.set_cons_zero, List.set_cons_succ]
    have hlT : ((tabsE E).map ints).length = E.length := by rw [List.length_map, tabs_len]
    cases lg with
    | true =>
      rw [rndsL_large rfl] at e6
      by_cases hb : before < E.length
      · repeat' (first
| refine g_seq ?_
| refine zC ?_
| (refine o_go rfl ?_; (first
| refine p_p (zD rfl) ?_
| refine p_p (zS rfl rfl rfl) ?_
| refine p_p (ps_not rfl rfl) ?_
| refine p_p (zQ rfl rfl) ?_
| refine p_p (ps_len_mut rfl rfl rfl rfl) ?_
| refine p_p (zH rfl rfl rfl rfl) ?_
| refine p_p (zY rfl rfl rfl aK) ?_
| refine p_p (zE rfl rfl) ?_
| refine p_e rfl (zO rfl rfl rfl rfl aK rfl rfl rfl) ?_); refine ⟨_, aB, ?_⟩)
| refine o_nil ?_
| (refine o_splitD rfl rfl rfl (fun hc => ?_) (fun hc => ?_) <;> first | (exfalso; omega) | dsimp only [List.set_cons_zero, List.set_cons_succ])
| refine zW rfl ?_
| refine krc ?_
| refine krC rfl aK ?_
| refine g_exit ?_
| refine g_ret ?_)
        all_goals try (exfalso; omega)
        all_goals (rw [e6]; rfl)
      · repeat' (first
| refine g_seq ?_
| refine zC ?_
| (refine o_go rfl ?_; (first
| refine p_p (zD rfl) ?_
| refine p_p (zS rfl rfl rfl) ?_
| refine p_p (zQ rfl rfl) ?_
| refine p_p (ps_len_mut rfl rfl rfl rfl) ?_
| refine p_p (zH rfl rfl rfl rfl) ?_
| refine p_p (zY rfl rfl rfl aK) ?_
| refine p_p (zE rfl rfl) ?_
| refine p_e rfl (zO rfl rfl rfl rfl aK rfl rfl rfl) ?_); refine ⟨_, aB, ?_⟩)
| refine o_nil ?_
| (refine o_s rfl ?_; refine ⟨_, aB, ?_⟩)
| (refine o_splitD rfl rfl rfl (fun hc => ?_) (fun hc => ?_) <;> first | (exfalso; omega) | dsimp only [List.set_cons_zero, List.set_cons_succ])
| refine zW rfl ?_
| refine krc ?_
| refine krC rfl aK ?_
| refine g_exit ?_
| refine g_ret ?_)
        all_goals try (exfalso; omega)
        all_goals (rw [e6]; rfl)
    | false =>
      by_cases hb : before < E.length
      · repeat' (first
| refine g_seq ?_
| refine zJ ?_
| refine zC ?_
| (refine o_go rfl ?_; (first
| refine p_p (zD rfl) ?_
| refine p_p (zA rfl) ?_
| refine p_p (zS rfl rfl rfl) ?_
| refine p_p (ps_not rfl rfl) ?_
| refine p_p (zQ rfl rfl) ?_
| refine p_p (ps_len_mut rfl rfl rfl rfl) ?_
| refine p_p (zH rfl rfl rfl rfl) ?_
| refine p_p (zE rfl rfl) ?_); refine ⟨_, aB, ?_⟩)
| refine o_nil ?_
| (refine o_splitD rfl rfl rfl (fun hc => ?_) (fun hc => ?_) <;> first | (exfalso; omega) | dsimp only [List.set_cons_zero, List.set_cons_succ])
| refine zX rfl ?_
| refine zR ?_)
        all_goals try (exfalso; omega)
        have e7 := e5 hb
        obtain ⟨kg, rfl⟩ : ∃ m, kf = m + 1 := ⟨kf - 1, by omega⟩
        have e8 : W = rndsL n size ops kg E.length (((candsF n size ops (tabsE E) ops.length).filter (pE before)).foldl addL (E, false)) := by rw [e6, rndsL, if_neg (by simp), if_pos hb]
        obtain ⟨s, hs⟩ : ∃ s : Nat → List Ent × Bool, s = fun j => ((candsF n size ops (tabsE E) j).filter (pE before)).foldl addL (E, false) := ⟨_, rfl⟩
        have hs0 : s 0 = (E, false) := by rw [hs]; rfl
        have hsl : ∀ j, (s j).1.length ≤ 60 := fun j => by rw [hs]; exact foldL_len _ _ e1
        have hsok : ∀ j, j ≤ ops.length → ∀ c ∈ (s j).1, entOk n size c := fun j hj => by rw [hs]; exact foldL_all (fun c hc => candsF_ok hn0 ho (tabsE E) j hj c (List.mem_filter.1 hc).1) e3
        have hsp : ∀ j, E <+: (s j).1 := fun j => by rw [hs]; exact foldL_pre _ (E, false)
        have hss : ∀ j, s (j + 1) = stL n size (tabsE E) (ops.getD j default) j before (s j) ((tabsE E).length ^ (ops.getD j default).ar.toNat) := fun j => by
          rw [hs]
          show ((candsF n size ops (tabsE E) j ++ _).filter (pE before)).foldl addL (E, false) = _
          rw [List.filter_append, List.foldl_append]; rfl
        have hsL : ∀ j, (s j).2 = true → ∀ m, j ≤ m → s m = s j := fun j h m hm => by
          induction hm with
          | refl => rfl
          | step _ ih =>
            rw [hss, ih, stL_large (i := 0) h (Nat.zero_le _)]; rfl
        have hW2 : W = rndsL n size ops kg E.length (s ops.length) := by rw [hs]; exact e8
        clear hs
        rw [hlT]
        refine g_loopF (α := Nat) [30, 39] (fun j => [(11, I (j : Int))]) (fun j => [.box [nilV, nilV, B false], .box [.hp 2, .hp 3, B (s j).2], tabO (tabsE (s j).1), stpO (stepsE (s j).1)]) (fun j => j ≤ ops.length) (fun j => ops.length - j) 0 aH (Nat.zero_le _) ⟨rfl, trivial⟩ (by rw [hs0]) ?_
        rintro j hj
        dsimp only [zZ, List.set_cons_zero, List.set_cons_succ]
        by_cases hjl : j < ops.length
        · cases hlg : (s j).2 with
          | true =>
            have hsj := hsL j hlg ops.length hj
            have hpj := (hsp j).length_le
            repeat' (first
| refine g_seq ?_
| refine zC ?_
| (refine o_go rfl ?_; (first
| refine p_p (zD rfl) ?_
| refine p_p (zA rfl) ?_
| refine p_p (zU rfl rfl rfl) ?_
| refine p_p (zS rfl rfl rfl) ?_
| refine p_p (ps_not rfl rfl) ?_
| refine p_p (zQ rfl rfl) ?_
| refine p_p (zH rfl rfl rfl rfl) ?_
| refine p_p (zE rfl rfl) ?_); refine ⟨_, aB, ?_⟩)
| refine o_nil ?_
| (refine o_splitD rfl rfl rfl (fun hc => ?_) (fun hc => ?_) <;> first | (exfalso; omega) | dsimp only [List.set_cons_zero, List.set_cons_succ])
| refine zW rfl ?_
| refine g_exit ?_)
            all_goals try (exfalso; omega)
            unfold KBlock
            refine zT (kg, E.length, (s j).1, true) ⟨hsl j, by dsimp only; omega, hsok j hj, hpj, (fun h => by dsimp only at h ⊢; omega), by dsimp only; rw [hW2, hsj, ← hlg]⟩ (by dsimp only; omega) aI ⟨rfl, trivial⟩ (zB rfl (zB rfl (zB rfl (zB rfl (zM _)))))
          | false =>
            have h3 := sround_c n size j before (ops.getD j default) (tabsE E) (s j).1 (s j).2 hn0 hn hs (ho _ (by rw [List.getD_eq_getElem?_getD, List.getElem?_eq_getElem hjl]; exact List.getElem_mem _)) (by rw [tabs_len]; exact e2) (by rw [tabs_len]; exact e1) (hsl j) (tabsE_pre (hsp j)) (hsok j hj)
            rw [show ((s j).1, (s j).2) = s j from rfl, ← hss j, hlg, tabs_len] at h3
            have hq : (ops.map opP)[((j : Nat) : Int).toNat]? = some (opP (ops.getD j default)) := by
              rw [Int.toNat_natCast, List.getElem?_map, List.getElem?_eq_getElem hjl, List.getD_eq_getElem?_getD, List.getElem?_eq_getElem hjl]; rfl
            have hix0 := idx_ints (T := prjs n (i + 1)) (i := 0) (by omega)
            rw [prjs_getD (by omega)] at hix0
            have hpl0 : (prjL n (i + 1) 0).length = size := by rw [prjL_len]; exact hsz
            rw [show (size : Int) = (((prjL n (i + 1) 0).length : Nat) : Int) by rw [hpl0]] at h3
            repeat' (first
| refine g_seq ?_
| refine zJ ?_
| refine zC ?_
| refine zP (by kernel_rfl) (by kernel_rfl) ?_
| (refine o_go rfl ?_; (first
| refine p_p (zN rfl rfl rfl (by omega) hq (by exact rfl)) ?_
| refine p_p (zN rfl rfl rfl (by omega) (by exact hix0) (by exact rfl)) ?_
| refine p_e (by kernel_rfl) (e_callM (ids := [2, 3]) rfl rfl rfl rfl (by rfl) aM rfl (h3)) ?_
| refine p_p (zD rfl) ?_
| refine p_p (zA rfl) ?_
| refine p_p (zF rfl rfl) ?_
| refine p_p (ps_load_agg rfl rfl aK) ?_
| refine p_p (zU rfl rfl rfl) ?_
| refine p_p (zS rfl rfl rfl) ?_
| refine p_p (ps_add rfl rfl rfl aN) ?_
| refine p_p (ps_not rfl rfl) ?_
| refine p_p (zQ rfl rfl) ?_
| refine p_p (zH rfl rfl rfl rfl) ?_
| refine p_p (zY rfl rfl rfl aK) ?_
| refine p_p (zE rfl rfl) ?_
| refine p_e rfl (zO rfl rfl rfl rfl aK rfl rfl rfl) ?_); refine ⟨_, aB, ?_⟩)
| refine o_nil ?_
| (refine o_splitD rfl rfl rfl (fun hc => ?_) (fun hc => ?_) <;> first | (exfalso; omega) | dsimp only [List.set_cons_zero, List.set_cons_succ])
| refine zX rfl ?_
| refine zR ?_)
            all_goals try (exfalso; omega)
            exact zT (j + 1) (by omega) (by omega) aI ⟨rfl, trivial⟩ (zB rfl (zB rfl (zB rfl (zB rfl (zM _)))))
        · obtain rfl : j = ops.length := by omega
          have hpj := (hsp ops.length).length_le
          have hsl' := hsl ops.length
          have hok' := hsok _ hj
          generalize s ops.length = r at *
          obtain ⟨r1, r2⟩ := r
          dsimp only at hpj hsl' hok' ⊢
          cases r2 with
          | true =>
            repeat' (first
| refine g_seq ?_
| refine zC ?_
| (refine o_go rfl ?_; (first
| refine p_p (zD rfl) ?_
| refine p_p (zA rfl) ?_
| refine p_p (zU rfl rfl rfl) ?_
| refine p_p (zS rfl rfl rfl) ?_
| refine p_p (zQ rfl rfl) ?_); refine ⟨_, aB, ?_⟩)
| refine o_nil ?_
| (refine o_s rfl ?_; refine ⟨_, aB, ?_⟩)
| (refine o_splitD rfl rfl rfl (fun hc => ?_) (fun hc => ?_) <;> first | (exfalso; omega) | dsimp only [List.set_cons_zero, List.set_cons_succ])
| refine zW rfl ?_
| refine g_exit ?_)
            all_goals try (exfalso; omega)
            unfold KBlock
            refine zT (kg, E.length, r1, true) ⟨hsl', by dsimp only; omega, hok', hpj, (fun h => by dsimp only at h ⊢; omega), hW2⟩ (by dsimp only; omega) aI ⟨rfl, trivial⟩ (zB rfl (zB rfl (zB rfl (zB rfl (zM _)))))
          | false =>
            repeat' (first
| refine g_seq ?_
| refine zC ?_
| (refine o_go rfl ?_; (first
| refine p_p (zD rfl) ?_
| refine p_p (zA rfl) ?_
| refine p_p (zU rfl rfl rfl) ?_
| refine p_p (zS rfl rfl rfl) ?_
| refine p_p (zQ rfl rfl) ?_); refine ⟨_, aB, ?_⟩)
| refine o_nil ?_
| (refine o_s rfl ?_; refine ⟨_, aB, ?_⟩)
| (refine o_splitD rfl rfl rfl (fun hc => ?_) (fun hc => ?_) <;> first | (exfalso; omega) | dsimp only [List.set_cons_zero, List.set_cons_succ])
| refine zW rfl ?_
| refine g_exit ?_)
            all_goals try (exfalso; omega)
            unfold KBlock
            refine zT (kg, E.length, r1, false) ⟨hsl', by dsimp only; omega, hok', hpj, (fun h => by dsimp only at h ⊢; omega), hW2⟩ (by dsimp only; omega) aI ⟨rfl, trivial⟩ (zB rfl (zB rfl (zB rfl (zB rfl (zM _)))))
      · rw [rndsL_end (s := (E, false)) (by show ¬ before < E.length; exact hb)] at e6
        repeat' (first
| refine g_seq ?_
| refine zC ?_
| (refine o_go rfl ?_; (first
| refine p_p (zD rfl) ?_
| refine p_p (zS rfl rfl rfl) ?_
| refine p_p (zQ rfl rfl) ?_
| refine p_p (ps_len_mut rfl rfl rfl rfl) ?_
| refine p_p (zH rfl rfl rfl rfl) ?_
| refine p_p (zY rfl rfl rfl aK) ?_
| refine p_p (zE rfl rfl) ?_
| refine p_e rfl (zO rfl rfl rfl rfl aK rfl rfl rfl) ?_); refine ⟨_, aB, ?_⟩)
| refine o_nil ?_
| (refine o_s rfl ?_; refine ⟨_, aB, ?_⟩)
| (refine o_splitD rfl rfl rfl (fun hc => ?_) (fun hc => ?_) <;> first | (exfalso; omega) | dsimp only [List.set_cons_zero, List.set_cons_succ])
| refine zW rfl ?_
| refine krc ?_
| refine krC rfl aK ?_
| refine g_exit ?_
| refine g_ret ?_)
        all_goals try (exfalso; omega)
        rw [e6]; rfl
theorem sclone_c (n k : Nat) (ops : List OpD) (hn0 : 0 < n) (hn : n ≤ 8) (hk0 : 0 < k) (hk : k ≤ 3) (hs : n ^ k ≤ 1000) (hol : ops.length ≤ 1000) (ho : ∀ f ∈ ops, opOk n f = true) :
    PCalls Tryz.prog 64 [algP (n : Int) ops, I (k : Int)] (cloW (specW n k ops)) := by
  refine pcallsC Tryz.func64 rfl Tryz.ntmps64 rfl ?_
  simp only [List.length_cons, List.length_nil, Nat.reduceAdd, Nat.reduceSub, List.replicate_succ, List.replicate_zero, List.cons_append, List.nil_append]
  have h1 := srounds_c n k ops hn0 hn hk0 hk hs hol ho
  generalize specW n k ops = W at *
  repeat' (first
| refine g_seq ?_
| refine zJ ?_
| refine zC ?_
| (refine o_go rfl ?_; (first
| refine p_e rfl (e_lit0T rfl (by decide)) ?_
| refine p_p (zA rfl) ?_
| refine p_e rfl (e_alloc rfl) ?_
| refine p_p (ps_box rfl rfl) ?_); refine ⟨_, aB, ?_⟩)
| refine o_nil ?_)
  refine g_loopF (α := Nat) [7] (fun i => [(5, .hp 1), (6, I (i : Int))]) (fun i => [.box [nilV, nilV, B false], .arr true 1 31 (((List.range i).map (prjL n k)).map ints)]) (fun i => i ≤ k) (fun i => k - i) 0 aH (Nat.zero_le _) ⟨rfl, rfl, trivial⟩ rfl ?_
  rintro i hi
  dsimp only [zZ, List.set_cons_zero, List.set_cons_succ]
  have hll : (((List.range i).map (prjL n k)).map ints).length = i := by simp
  by_cases hik : i < k
  · have h2 := sprj_c n k i hn0 hn hk hik
    repeat' (first
| refine g_seq ?_
| refine zJ ?_
| refine zC ?_
| (refine o_go rfl ?_; (first
| refine p_p (zG rfl rfl aC (h2)) ?_
| refine p_e (by kernel_rfl) (e_append rfl rfl rfl rfl rfl rfl (one_one rfl) rfl aP aP) ?_
| refine p_p (zD rfl) ?_
| refine p_p (zA rfl) ?_
| refine p_p (zF rfl rfl) ?_
| refine p_p (zS rfl rfl rfl) ?_
| refine p_p (ps_add rfl rfl rfl aN) ?_
| refine p_p (zL rfl rfl) ?_
| refine p_p (ps_lit1 rfl rfl (by rfl) (by rfl)) ?_); refine ⟨_, aB, ?_⟩)
| refine o_nil ?_
| (refine zK rfl (fun hc => ?_) (fun hc => ?_) <;> try (exfalso; omega))
| refine zR ?_)
    all_goals try (exfalso; omega)
    refine zT (i + 1) (by omega) (by omega) aI ⟨rfl, rfl, trivial⟩ (zB rfl (zB ?_ (zM _)))
    rw [range_snoc, List.map_append]; rfl
  · obtain rfl : i = k := by omega
    refine g_freezeP 1 rfl ⟨_, by dsimp only [bitvec_to_nat, Nat.reduceAdd, Nat.reduceMul, Nat.reduceBEq, reduceCtorEq, posI, optP, lendM1, lendMA, lendMP, killM1, killMA, killMP, hasI, getO, backM1, backMA, backMP, putL, inpM, pinM1, pinMA, pinMP], ?_⟩
    repeat' (first
| refine g_seq ?_
| refine zC ?_
| (refine o_go rfl ?_; (first
| refine p_p (zG rfl rfl aC (h1)) ?_
| refine p_p (zD rfl) ?_
| refine p_p (zF rfl rfl) ?_
| refine p_p (zS rfl rfl rfl) ?_
| refine p_p (zL rfl rfl) ?_
| refine p_e rfl (zO rfl rfl rfl rfl aK rfl rfl rfl) ?_); refine ⟨_, aB, ?_⟩)
| refine o_nil ?_
| (refine zK rfl (fun hc => ?_) (fun hc => ?_) <;> try (exfalso; omega))
| refine krc ?_
| refine krC rfl aK ?_
| refine g_exit ?_
| refine g_ret ?_)
    all_goals try (exfalso; omega)
    all_goals rfl
theorem s17clone_no (n : Int) (ops : List OpD) (hl : szOk ops) (hg : (algOk n ops && decide (n ≤ 3)) = false) : PCalls Tryz.prog 23 [algP n ops] (.tup [intss [], B false]) := by
  refine pcalls2 Tryz.func23 rfl Tryz.ntmps23 rfl ?_
  simp only [List.length_cons, List.length_nil, Nat.reduceAdd, Nat.reduceSub, List.replicate_succ, List.replicate_zero, List.cons_append, List.nil_append]
  have h1 := sgood_c n ops hl
  cases ha : algOk n ops with
  | false =>
    rw [ha] at h1
    repeat' (first
| refine g_seq ?_
| refine zC ?_
| (refine o_go rfl ?_; (first
| refine p_p (zG rfl rfl aC (h1)) ?_
| refine p_p (zD rfl) ?_
| refine p_p (zA rfl) ?_
| refine p_p (ps_load_agg rfl rfl aK) ?_
| refine p_p (ps_not rfl rfl) ?_
| refine p_p (zQ rfl rfl) ?_
| refine p_e rfl (e_lit0 rfl (by decide)) ?_
| refine p_p (ps_box rfl rfl) ?_); refine ⟨_, aB, ?_⟩)
| refine o_nil ?_
| (refine o_s rfl ?_; refine ⟨_, aB, ?_⟩)
| refine zX rfl ?_
| refine kr2 ?_ ?_
| refine krB rfl ?_
| refine krS rfl ?_
| refine g_ret ?_)
    all_goals rfl
  | true =>
    rw [ha] at h1 hg
    rw [Bool.true_and] at hg
    have hg := of_decide_eq_false hg
    repeat' (first
| refine g_seq ?_
| refine zC ?_
| (refine o_go rfl ?_; (first
| refine p_p (zG rfl rfl aC (h1)) ?_
| refine p_p (zD rfl) ?_
| refine p_p (zA rfl) ?_
| refine p_p (zF rfl rfl) ?_
| refine p_p (ps_load_agg rfl rfl aK) ?_
| refine p_p (zL rfl rfl) ?_
| refine p_p (ps_not rfl rfl) ?_
| refine p_p (zQ rfl rfl) ?_
| refine p_p (ps_gtr rfl rfl rfl) ?_
| refine p_e rfl (e_lit0 rfl (by decide)) ?_
| refine p_p (ps_box rfl rfl) ?_); refine ⟨_, aB, ?_⟩)
| refine o_nil ?_
| (refine zK rfl (fun hc => ?_) (fun hc => ?_) <;> try (exfalso; omega))
| refine kr2 ?_ ?_
| refine krB rfl ?_
| refine krS rfl ?_
| refine g_ret ?_)
    all_goals first | rfl | (exfalso; omega)
theorem s17clone_c (n : Nat) (ops : List OpD) (hl : szOk ops) (hg : algOk (n : Int) ops = true) (hn3 : n ≤ 3) : PCalls Tryz.prog 23 [algP (n : Int) ops] (.tup [intss (tabsE (specW n 3 ops).1), B (!(specW n 3 ops).2)]) := by
  refine pcalls2 Tryz.func23 rfl Tryz.ntmps23 rfl ?_
  simp only [List.length_cons, List.length_nil, Nat.reduceAdd, Nat.reduceSub, List.replicate_succ, List.replicate_zero, List.cons_append, List.nil_append]
  have h1 := sgood_c n ops hl
  rw [hg] at h1
  unfold algOk at hg
  simp only [Bool.and_eq_true, decide_eq_true_eq, Int.toNat_natCast] at hg
  have hi := inB_iff.1 hg.1
  have hs : n ^ 3 ≤ 1000 := by
    calc n ^ 3 ≤ 3 ^ 3 := Nat.pow_le_pow_left hn3 3
      _ ≤ 1000 := by decide
  have h2 := sclone_c n 3 ops (by omega) (by omega) (by decide) (by decide) hs (by omega) (fun f hf => List.all_eq_true.1 hg.2.2 f hf)
  generalize specW n 3 ops = W at *
  repeat' (first
| refine g_seq ?_
| refine zC ?_
| refine zP (by kernel_rfl) (by kernel_rfl) ?_
| (refine o_go rfl ?_; (first
| refine p_p (zG rfl rfl aC (h1)) ?_
| refine p_p (zG rfl rfl aC (h2)) ?_
| refine p_p (zD rfl) ?_
| refine p_p (zA rfl) ?_
| refine p_p (zF rfl rfl) ?_
| refine p_p (ps_load_agg rfl rfl aK) ?_
| refine p_p (zL rfl rfl) ?_
| refine p_p (ps_not rfl rfl) ?_
| refine p_p (zQ rfl rfl) ?_
| refine p_p (ps_gtr rfl rfl rfl) ?_
| refine p_p (zH rfl rfl rfl rfl) ?_
| refine p_p (zE rfl rfl) ?_
| refine p_e rfl (zO rfl rfl rfl rfl aK rfl rfl rfl) ?_
| refine p_e rfl (e_alloc rfl) ?_
| refine p_p (ps_box rfl rfl) ?_); refine ⟨_, aB, ?_⟩)
| refine o_nil ?_
| (refine zK rfl (fun hc => ?_) (fun hc => ?_) <;> try (exfalso; omega))
| refine kr2 ?_ ?_
| refine krB rfl ?_
| refine krS rfl ?_
| refine zR ?_
| refine g_ret ?_)
  all_goals first | rfl | (exfalso; omega)
end Go.Proofs.YtlgfniaakjchgaaGreat
