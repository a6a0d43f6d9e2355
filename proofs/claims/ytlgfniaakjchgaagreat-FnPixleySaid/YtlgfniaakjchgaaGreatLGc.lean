/- Clones: found tables, round by round (plain). -/
import Derived.Test.YtlgfniaakjchgaaGreatLGb
namespace Go.Proofs.YtlgfniaakjchgaaGreat
open Go Go.Pv Go.Proofs

abbrev Stp := Int × List Int
abbrev Ent := List Int × Stp
abbrev stpP (s : Stp) : PV := .agg [I s.1, ints s.2]
abbrev tabsE (E : List Ent) : List (List Int) := E.map Prod.fst
abbrev stepsE (E : List Ent) : List Stp := E.map Prod.snd
def addE (E : List Ent) (e : Ent) : List Ent := if e.1 ∈ tabsE E then E else E ++ [e]
theorem addE_pre (E : List Ent) (e : Ent) : E <+: addE E e := by
  unfold addE; split
  · exact List.prefix_rfl
  · exact List.prefix_append _ _
theorem addE_mem (E : List Ent) (e : Ent) : e.1 ∈ tabsE (addE E e) := by
  unfold addE; split
  · assumption
  · simp [tabsE]
theorem addE_len (E : List Ent) (e : Ent) : (addE E e).length ≤ E.length + 1 := by
  unfold addE; split
  · omega
  · simp
theorem foldE_pre : ∀ (cs : List Ent) (E : List Ent), E <+: cs.foldl addE E
  | [], _ => List.prefix_rfl
  | c :: cs, E => (addE_pre E c).trans (foldE_pre cs _)
theorem foldE_len (cs E : List Ent) : E.length ≤ (cs.foldl addE E).length := (foldE_pre cs E).length_le
theorem foldE_mem : ∀ (cs E : List Ent) (c : Ent), c ∈ cs → c.1 ∈ tabsE (cs.foldl addE E)
  | d :: cs, E, c, h => by
    rcases List.mem_cons.1 h with rfl | h
    · exact (List.IsPrefix.map Prod.fst (foldE_pre cs (addE E c))).subset (addE_mem E c)
    · exact foldE_mem cs _ c h
  | [], _, _, h => by cases h
theorem foldE_eq {cs E : List Ent} (h : (cs.foldl addE E).length ≤ E.length) : cs.foldl addE E = E :=
  ((foldE_pre cs E).eq_of_length (by have := foldE_len cs E; omega)).symm
theorem foldE_all {p : Ent → Prop} : ∀ {cs E : List Ent}, (∀ c ∈ cs, p c) → (∀ c ∈ E, p c) → ∀ c ∈ cs.foldl addE E, p c
  | [], _, _, h => h
  | c :: cs, E, h1, h2 => foldE_all (cs := cs) (E := addE E c) (fun d hd => h1 d (by simp [hd])) fun d hd => by
      unfold addE at hd
      split at hd
      · exact h2 d hd
      · rcases List.mem_append.1 hd with hd | hd
        · exact h2 d hd
        · simp only [List.mem_singleton] at hd; subst hd; exact h1 _ (by simp)

def candA (n size : Nat) (T : List (List Int)) (f : OpD) (op i : Nat) : Ent := (cmpL n f.tb ((argsL T.length f.ar.toNat i).map fun x => T.getD x.toNat []) size, ((op : Int), argsL T.length f.ar.toNat i))
def candsO (n size : Nat) (T : List (List Int)) (f : OpD) (op k : Nat) : List Ent := (List.range k).map (candA n size T f op)
theorem candsO_succ (n size : Nat) (T : List (List Int)) (f : OpD) (op k : Nat) : candsO n size T f op (k + 1) = candsO n size T f op k ++ [candA n size T f op k] := range_snoc _ k
abbrev candsA (n size : Nat) (T : List (List Int)) (f : OpD) (op : Nat) : List Ent := candsO n size T f op (T.length ^ f.ar.toNat)
def candsF (n size : Nat) (ops : List OpD) (T : List (List Int)) : Nat → List Ent
  | 0 => []
  | j + 1 => candsF n size ops T j ++ candsA n size T (ops.getD j default) j
def roundE (n size : Nat) (ops : List OpD) (E : List Ent) : List Ent := (candsF n size ops (tabsE E) ops.length).foldl addE E
def cloneF (n size : Nat) (ops : List OpD) : Nat → List Ent → Option (List Ent)
  | 0, _ => none
  | k + 1, E => if 60 < (roundE n size ops E).length then none else if (roundE n size ops E).length = E.length then some E else cloneF n size ops k (roundE n size ops E)
def firstE (n k : Nat) : Nat → List Ent
  | 0 => []
  | p + 1 => addE (firstE n k p) (prjL n k p, (-1, [(p : Int)]))
def cloneV (n k : Nat) (ops : List OpD) : Option (List Ent) := cloneF n (n ^ k) ops 62 (firstE n k k)
theorem foldF_succ (n size : Nat) (ops : List OpD) (T : List (List Int)) (E : List Ent) (j : Nat) : (candsF n size ops T (j + 1)).foldl addE E = (candsA n size T (ops.getD j default) j).foldl addE ((candsF n size ops T j).foldl addE E) := by
  rw [candsF, List.foldl_append]
theorem foldF_le (n size : Nat) (ops : List OpD) (T : List (List Int)) (E : List Ent) {i j : Nat} (h : i ≤ j) : ((candsF n size ops T i).foldl addE E).length ≤ ((candsF n size ops T j).foldl addE E).length := by
  induction h with
  | refl => exact Nat.le_refl _
  | step _ ih => rw [foldF_succ]; exact Nat.le_trans ih (foldE_len _ _)
theorem foldO_le (n size : Nat) (T : List (List Int)) (f : OpD) (op : Nat) (E : List Ent) {i j : Nat} (h : i ≤ j) : ((candsO n size T f op i).foldl addE E).length ≤ ((candsO n size T f op j).foldl addE E).length := by
  induction h with
  | refl => exact Nat.le_refl _
  | step _ ih => rw [candsO_succ, List.foldl_append]; exact Nat.le_trans ih (foldE_len _ _)
theorem foldO_succ (n size : Nat) (T : List (List Int)) (f : OpD) (op : Nat) (E : List Ent) (i : Nat) : (candsO n size T f op (i + 1)).foldl addE E = addE ((candsO n size T f op i).foldl addE E) (candA n size T f op i) := by
  rw [candsO_succ, List.foldl_append]; rfl
def entOk (n size : Nat) (e : Ent) : Prop := e.1.length = size ∧ ∀ x ∈ e.1, 0 ≤ x ∧ x < (n : Int)
theorem inSz_mem {l : List Int} {n : Nat} (h : inSizeB l (n : Int) = true) : ∀ x ∈ l, 0 ≤ x ∧ x < (n : Int) := fun x hx => by
  have := List.all_eq_true.1 h x hx
  simp only [Bool.not_eq_true', Bool.or_eq_false_iff, decide_eq_false_iff_not] at this
  omega
theorem candA_ok {n size : Nat} {f : OpD} (hn : 0 < n) (hf : opOk n f = true) (T : List (List Int)) (op i : Nat) : entOk n size (candA n size T f op i) := by
  refine ⟨cmpL_len _ _ _ _, fun x hx => ?_⟩
  unfold opOk at hf
  simp only [Bool.and_eq_true] at hf
  have hin := inSz_mem hf.2.2
  unfold candA cmpL at hx
  obtain ⟨k, -, rfl⟩ := List.mem_map.1 hx
  rw [List.getD_eq_getElem?_getD]
  cases hg : f.tb[(idxL (↑n) (rowAt ((argsL T.length f.ar.toNat i).map fun x => T.getD x.toNat []) k)).toNat]? with
  | none => simp; omega
  | some y => exact hin y (List.mem_of_getElem? hg)
theorem candsO_ok {n size : Nat} {f : OpD} (hn : 0 < n) (hf : opOk n f = true) (T : List (List Int)) (op k : Nat) : ∀ c ∈ candsO n size T f op k, entOk n size c := fun c hc => by
  obtain ⟨i, -, rfl⟩ := List.mem_map.1 hc
  exact candA_ok hn hf T op i
theorem candsF_ok {n size : Nat} {ops : List OpD} (hn : 0 < n) (hf : ∀ f ∈ ops, opOk n f = true) (T : List (List Int)) : ∀ j, j ≤ ops.length → ∀ c ∈ candsF n size ops T j, entOk n size c
  | 0, _, c, hc => by cases hc
  | j + 1, hj, c, hc => by
    rcases List.mem_append.1 hc with hc | hc
    · exact candsF_ok hn hf T j (by omega) c hc
    · exact candsO_ok hn (hf _ (by rw [List.getD_eq_getElem?_getD, List.getElem?_eq_getElem (show j < ops.length by omega)]; exact List.getElem_mem _)) T _ _ c hc
theorem prj_ok {n k p : Nat} (hn : 0 < n) (s : Stp) : entOk n (n ^ k) (prjL n k p, s) := by
  refine ⟨prjL_len _ _ _, fun x hx => ?_⟩
  obtain ⟨i, -, rfl⟩ := List.mem_map.1 hx
  rw [List.getD_eq_getElem?_getD]
  cases hg : (argsL n k i)[p]? with
  | none => simp; omega
  | some y => exact argsL_in hn k i y (List.mem_of_getElem? hg)
theorem firstE_ok {n k : Nat} (hn : 0 < n) : ∀ p, ∀ c ∈ firstE n k p, entOk n (n ^ k) c
  | 0, c, hc => by cases hc
  | p + 1, c, hc => foldE_all (cs := [(prjL n k p, (-1, [(p : Int)]))]) (E := firstE n k p) (fun d hd => by simp only [List.mem_singleton] at hd; subst hd; exact prj_ok hn _) (firstE_ok hn p) c hc
theorem firstE_len (n k : Nat) : ∀ p, (firstE n k p).length ≤ p ∧ (0 < p → 0 < (firstE n k p).length)
  | 0 => ⟨Nat.le_refl _, fun h => absurd h (Nat.lt_irrefl _)⟩
  | p + 1 => by
    have h1 := (firstE_len n k p).1
    have h2 := addE_len (firstE n k p) (prjL n k p, (-1, [(p : Int)]))
    refine ⟨by show (addE _ _).length ≤ _; omega, fun _ => ?_⟩
    show 0 < (addE _ _).length
    unfold addE
    split
    · rename_i h
      cases hE : firstE n k p with
      | nil => rw [hE] at h; cases h
      | cons a l => simp
    · simp

/-! ### One round after another -/
theorem tabs_len (E : List Ent) : (tabsE E).length = E.length := List.length_map _
theorem tabs_getD_pre {E F : List Ent} (h : E <+: F) {i : Nat} (hi : i < E.length) : (tabsE F).getD i [] = (tabsE E).getD i [] := by
  obtain ⟨r, rfl⟩ := h
  rw [tabsE, List.map_append, List.getD_eq_getElem?_getD, List.getElem?_append_left (by simpa using hi), ← List.getD_eq_getElem?_getD]
theorem roundE_le (n size : Nat) (ops : List OpD) (E : List Ent) {j : Nat} (hj : j ≤ ops.length) : ((candsF n size ops (tabsE E) j).foldl addE E).length ≤ (roundE n size ops E).length := foldF_le n size ops _ E hj
def restE (n size : Nat) (ops : List OpD) (k : Nat) (old : Int) (E : List Ent) : Option (List Ent) := if old = (E.length : Int) then some E else cloneF n size ops k E
theorem restE_some {n size : Nat} {ops : List OpD} {k : Nat} {old : Int} {E : List Ent} (h : ¬ old = (E.length : Int)) : restE n size ops k old E = cloneF n size ops k E := if_neg h
theorem restE_next {n size : Nat} {ops : List OpD} {k : Nat} {E : List Ent} (h : (roundE n size ops E).length ≤ 60) : cloneF n size ops (k + 1) E = restE n size ops k (E.length : Int) (roundE n size ops E) := by
  rw [cloneF, if_neg (by omega)]
  unfold restE
  by_cases he : (roundE n size ops E).length = E.length
  · rw [if_pos he, if_pos (by omega)]
    congr 1
    exact (foldE_eq (by show (roundE n size ops E).length ≤ _; omega)).symm
  · rw [if_neg he, if_neg (by omega)]
theorem cloneF_none {n size : Nat} {ops : List OpD} {k : Nat} {E : List Ent} (h : 60 < (roundE n size ops E).length) : cloneF n size ops k E = none := by
  cases k with
  | zero => rfl
  | succ k => rw [cloneF, if_pos h]
/-! ### The reference's rounds -/
def addL (s : List Ent × Bool) (e : Ent) : List Ent × Bool := if s.2 = true ∨ e.1 ∈ tabsE s.1 then s else if s.1.length = 60 then (s.1, true) else (s.1 ++ [e], false)
theorem addL_large (E : List Ent) (e : Ent) : addL (E, true) e = (E, true) := if_pos (.inl rfl)
theorem foldL_large (E : List Ent) : ∀ cs : List Ent, cs.foldl addL (E, true) = (E, true)
  | [] => rfl
  | c :: cs => by rw [List.foldl_cons, addL_large, foldL_large E cs]
theorem addL_ok {E : List Ent} {e : Ent} (h : (addE E e).length ≤ 60) : addL (E, false) e = (addE E e, false) := by
  unfold addL addE at *
  by_cases hm : e.1 ∈ tabsE E
  · rw [if_pos (.inr hm), if_pos hm]
  · rw [if_neg (by simp [hm]), if_neg hm]
    rw [if_neg hm] at h
    simp only [List.length_append, List.length_singleton] at h
    rw [if_neg (by show ¬ E.length = 60; omega)]
theorem foldL_ok : ∀ {cs E : List Ent}, (cs.foldl addE E).length ≤ 60 → cs.foldl addL (E, false) = (cs.foldl addE E, false)
  | [], _, _ => rfl
  | c :: cs, E, h => by
    rw [List.foldl_cons] at h
    rw [List.foldl_cons, List.foldl_cons, addL_ok (Nat.le_trans (foldE_len cs _) h), foldL_ok h]
theorem foldL_over : ∀ {cs E : List Ent}, E.length ≤ 60 → 60 < (cs.foldl addE E).length → (cs.foldl addL (E, false)).2 = true
  | [], E, h1, h2 => absurd h2 (by simpa using h1)
  | c :: cs, E, h1, h2 => by
    rw [List.foldl_cons] at h2 ⊢
    by_cases h : (addE E c).length ≤ 60
    · rw [addL_ok h]; exact foldL_over h h2
    · have hl := addE_len E c
      have hE : E.length = 60 := by omega
      have hm : ¬ c.1 ∈ tabsE E := fun hm => h (by unfold addE; rw [if_pos hm]; exact h1)
      rw [show addL (E, false) c = (E, true) by unfold addL; rw [if_neg (by simp [hm]), if_pos hE], foldL_large]
theorem foldL_len : ∀ (cs : List Ent) (s : List Ent × Bool), s.1.length ≤ 60 → (cs.foldl addL s).1.length ≤ 60
  | [], _, h => h
  | c :: cs, s, h => foldL_len cs (addL s c) (by
      unfold addL
      split
      · exact h
      · split
        · exact h
        · simp only [List.length_append, List.length_singleton]; omega)
theorem foldL_pre : ∀ (cs : List Ent) (s : List Ent × Bool), s.1 <+: (cs.foldl addL s).1
  | [], _ => List.prefix_rfl
  | c :: cs, s => List.IsPrefix.trans (by
      unfold addL
      split
      · exact List.prefix_rfl
      · split
        · exact List.prefix_rfl
        · exact List.prefix_append _ _) (foldL_pre cs (addL s c))
theorem foldL_all {p : Ent → Prop} : ∀ {cs : List Ent} {s : List Ent × Bool}, (∀ c ∈ cs, p c) → (∀ c ∈ s.1, p c) → ∀ c ∈ (cs.foldl addL s).1, p c
  | [], _, _, h => h
  | c :: cs, s, h1, h2 => foldL_all (cs := cs) (s := addL s c) (fun d hd => h1 d (by simp [hd])) fun d hd => by
      unfold addL at hd
      split at hd
      · exact h2 d hd
      · split at hd
        · exact h2 d hd
        · rcases List.mem_append.1 hd with hd | hd
          · exact h2 d hd
          · simp only [List.mem_singleton] at hd; subst hd; exact h1 _ (by simp)
def freshB (n k i before : Nat) : Bool := (argsL n k i).any (fun x => decide ((before : Int) ≤ x)) || before == 0
theorem foldE_skip {p : Ent → Bool} : ∀ {cs E : List Ent}, (∀ c ∈ cs, p c = false → c.1 ∈ tabsE E) → (cs.filter p).foldl addE E = cs.foldl addE E
  | [], _, _ => rfl
  | c :: cs, E, h => by
    have hr := fun d (hd : d ∈ cs) (hp : p d = false) => (List.IsPrefix.map Prod.fst (addE_pre E c)).subset (h d (by simp [hd]) hp)
    cases hc : p c with
    | true => rw [List.filter_cons_of_pos hc, List.foldl_cons, List.foldl_cons, foldE_skip hr]
    | false =>
      rw [List.filter_cons_of_neg (by rw [hc]; decide), List.foldl_cons]
      have he : addE E c = E := if_pos (h c (by simp) hc)
      rw [he] at hr ⊢
      exact foldE_skip hr
def pE (before : Nat) (e : Ent) : Bool := e.2.2.any (fun x => decide ((before : Int) ≤ x)) || before == 0
def closedT (n size : Nat) (ops : List OpD) (T : List (List Int)) (b : Nat) : Prop := ∀ f ∈ ops, ∀ args : List Int, args.length = f.ar.toNat → (∀ x ∈ args, 0 ≤ x ∧ x < (b : Int)) → cmpL n f.tb (args.map fun x => T.getD x.toNat []) size ∈ T
theorem argsL_idxL {n : Nat} (hn : 0 < n) : ∀ (k : Nat) (l : List Int), l.length = k → (∀ x ∈ l, 0 ≤ x ∧ x < (n : Int)) → argsL n k (idxL n l).toNat = l
  | 0, l, hl, _ => by rw [List.length_eq_zero_iff.1 hl]; rfl
  | k + 1, l, hl, h => by
    have hne : l ≠ [] := fun e => by rw [e] at hl; cases hl
    obtain ⟨x, y, hxy⟩ : ∃ (m : List Int) (x : Int), l = m ++ [x] := ⟨l.dropLast, l.getLast hne, (List.dropLast_concat_getLast hne).symm⟩
    subst hxy
    have hx := h y (by simp)
    have hm := fun z hz => h z (List.mem_append_left _ hz)
    obtain ⟨b1, b2⟩ := idxL_bound x hm
    have hlen : x.length = k := by simpa using hl
    rw [idxL_snoc]
    obtain ⟨a, ha⟩ : ∃ a : Nat, idxL n x = a := ⟨(idxL n x).toNat, by omega⟩
    obtain ⟨c, hc⟩ : ∃ c : Nat, y = c := ⟨y.toNat, by omega⟩
    have e : (idxL (↑n) x * (n : Int) + y).toNat = a * n + c := by
      rw [ha, hc]
      have : ((a : Int) * (n : Int) + (c : Int)) = ((a * n + c : Nat) : Int) := by push_cast; rfl
      rw [this, Int.toNat_natCast]
    have hcn : c < n := by omega
    have ih := argsL_idxL hn k x hlen hm
    rw [ha, Int.toNat_natCast] at ih
    rw [e, argsL]
    have h1 : (a * n + c) / n = a := by rw [Nat.mul_comm, Nat.mul_add_div hn, Nat.div_eq_of_lt hcn, Nat.add_zero]
    have h2 : (a * n + c) % n = c := by rw [Nat.mul_comm, Nat.mul_add_mod, Nat.mod_eq_of_lt hcn]
    rw [h1, h2, ih, hc]
theorem mem_candsF (n size : Nat) {ops : List OpD} (T : List (List Int)) {j i : Nat} (hi : i < T.length ^ (ops.getD j default).ar.toNat) : ∀ {m : Nat}, j < m → candA n size T (ops.getD j default) j i ∈ candsF n size ops T m
  | 0, h => absurd h (Nat.not_lt_zero _)
  | m + 1, h => by
    rw [candsF, List.mem_append]
    by_cases e : j = m
    · subst e
      exact .inr (List.mem_map.2 ⟨i, List.mem_range.2 hi, rfl⟩)
    · exact .inl (mem_candsF n size T hi (by omega))
theorem candsF_mem {n size : Nat} {ops : List OpD} {T : List (List Int)} : ∀ {m : Nat} {c : Ent}, c ∈ candsF n size ops T m → ∃ j i, j < m ∧ c = candA n size T (ops.getD j default) j i
  | 0, c, h => by cases h
  | m + 1, c, h => by
    rw [candsF, List.mem_append] at h
    rcases h with h | h
    · obtain ⟨j, i, h1, h2⟩ := candsF_mem h
      exact ⟨j, i, by omega, h2⟩
    · obtain ⟨i, -, rfl⟩ := List.mem_map.1 h
      exact ⟨m, i, by omega, rfl⟩
theorem closed_next {n size : Nat} {ops : List OpD} {E : List Ent} (hE : 0 < E.length) : closedT n size ops (tabsE (roundE n size ops E)) E.length := fun f hf args hl hin => by
  obtain ⟨j, hj, he⟩ := List.getElem_of_mem hf
  have hfj : ops.getD j default = f := by rw [List.getD_eq_getElem?_getD, List.getElem?_eq_getElem hj]; simpa using he
  obtain ⟨b1, b2⟩ := idxL_bound args hin
  have hi : (idxL (E.length : Int) args).toNat < (tabsE E).length ^ (ops.getD j default).ar.toNat := by rw [hfj, tabs_len, ← hl]; omega
  have hm := foldE_mem (candsF n size ops (tabsE E) ops.length) E _ (mem_candsF n size (tabsE E) hi hj)
  have hc : (candA n size (tabsE E) (ops.getD j default) j (idxL (E.length : Int) args).toNat).1 = cmpL n f.tb (args.map fun x => (tabsE (roundE n size ops E)).getD x.toNat []) size := by
    unfold candA
    rw [hfj, tabs_len, ← hl, argsL_idxL hE _ args rfl hin]
    show cmpL _ _ _ _ = _
    congr 1
    refine List.map_congr_left fun x hx => (tabs_getD_pre (foldE_pre _ E) ?_).symm
    have := hin x hx
    omega
  rw [hc] at hm
  exact hm
theorem pE_false {before : Nat} {e : Ent} (h : pE before e = false) : before ≠ 0 ∧ ∀ x ∈ e.2.2, x < (before : Int) := by
  unfold pE at h
  rw [Bool.or_eq_false_iff] at h
  refine ⟨by simpa using h.2, fun x hx => ?_⟩
  have := List.any_eq_false.1 h.1 x hx
  simpa using this
theorem round_skip {n size : Nat} {ops : List OpD} {E : List Ent} {before : Nat} (hE : 0 < E.length) (h : before ≠ 0 → closedT n size ops (tabsE E) before) : ((candsF n size ops (tabsE E) ops.length).filter (pE before)).foldl addE E = roundE n size ops E := by
  refine foldE_skip fun c hc hp => ?_
  obtain ⟨h0, hx⟩ := pE_false hp
  obtain ⟨j, i, hj, rfl⟩ := candsF_mem hc
  have hfm : ops.getD j default ∈ ops := by rw [List.getD_eq_getElem?_getD, List.getElem?_eq_getElem hj]; exact List.getElem_mem _
  refine h h0 _ hfm _ (argsL_len _ _ _) fun x hx' => ?_
  exact ⟨(argsL_in (by rw [tabs_len]; exact hE) _ _ x hx').1, hx x hx'⟩
theorem roundL_ok {n size : Nat} {ops : List OpD} {E : List Ent} {before : Nat} (hE : 0 < E.length) (h : before ≠ 0 → closedT n size ops (tabsE E) before) (hl : (roundE n size ops E).length ≤ 60) : ((candsF n size ops (tabsE E) ops.length).filter (pE before)).foldl addL (E, false) = (roundE n size ops E, false) := by
  rw [foldL_ok (by rw [round_skip hE h]; exact hl), round_skip hE h]
theorem roundL_over {n size : Nat} {ops : List OpD} {E : List Ent} {before : Nat} (hE : 0 < E.length) (h60 : E.length ≤ 60) (h : before ≠ 0 → closedT n size ops (tabsE E) before) (hl : 60 < (roundE n size ops E).length) : (((candsF n size ops (tabsE E) ops.length).filter (pE before)).foldl addL (E, false)).2 = true :=
  foldL_over h60 (by rw [round_skip hE h]; exact hl)
end Go.Proofs.YtlgfniaakjchgaaGreat
