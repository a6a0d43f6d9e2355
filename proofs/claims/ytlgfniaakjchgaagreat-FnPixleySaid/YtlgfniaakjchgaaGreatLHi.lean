/- Plain: terms of three variables, composed; Mal'cev, majority and Pixley terms, and the chains that they make. -/
import Derived.Test.YtlgfniaakjchgaaGreatLGr
namespace Go.Proofs.YtlgfniaakjchgaaGreat
open Go Go.Pv Go.Proofs

inductive GenT (n : Nat) (ops : List OpD) : List Int → Prop
  | prj (p : Nat) (h : p < 3) : GenT n ops (prjL n 3 p)
  | app (f : OpD) (hf : f ∈ ops) (args : List (List Int)) (hl : args.length = f.ar.toNat) (h : ∀ t ∈ args, GenT n ops t) : GenT n ops (cmpL n f.tb args (n ^ 3))
theorem gen_round {n : Nat} {ops : List OpD} {E : List Ent} (h : ∀ t ∈ tabsE E, GenT n ops t) (h0 : 0 < E.length) : ∀ t ∈ tabsE (roundE n (n ^ 3) ops E), GenT n ops t := by
  have := foldE_all (p := fun c => GenT n ops c.1) (cs := candsF n (n ^ 3) ops (tabsE E) ops.length) (E := E) (fun c hc => by
    obtain ⟨j, i, hj, rfl⟩ := candsF_mem hc
    have hf : ops.getD j default ∈ ops := by rw [List.getD_eq_getElem?_getD, List.getElem?_eq_getElem hj]; exact List.getElem_mem _
    refine GenT.app _ hf _ (by rw [List.length_map, argsL_len]) fun t ht => ?_
    obtain ⟨x, hx, rfl⟩ := List.mem_map.1 ht
    have hT : 0 < (tabsE E).length := by rw [List.length_map]; exact h0
    obtain ⟨x0, x1⟩ := argsL_in hT _ _ x hx
    exact h _ (getD_mem0 (by omega))) (fun c hc => h _ (List.mem_map.2 ⟨c, hc, rfl⟩))
  intro t ht
  obtain ⟨c, hc, rfl⟩ := List.mem_map.1 ht
  exact this c hc
theorem gen_cloneF {n : Nat} {ops : List OpD} : ∀ {k : Nat} {E E' : List Ent}, (∀ t ∈ tabsE E, GenT n ops t) → 0 < E.length → cloneF n (n ^ 3) ops k E = some E' → ∀ t ∈ tabsE E', GenT n ops t
  | 0, _, _, _, _, h => by cases h
  | k + 1, E, E', h, h0, he => by
    have hr := gen_round h h0
    have hl : 0 < (roundE n (n ^ 3) ops E).length := Nat.lt_of_lt_of_le h0 (foldE_len _ _)
    rw [cloneF] at he
    split at he
    · cases he
    · split at he
      · cases he; exact h
      · exact gen_cloneF hr hl he
theorem gen_first {n : Nat} {ops : List OpD} : ∀ p, p ≤ 3 → ∀ t ∈ tabsE (firstE n 3 p), GenT n ops t
  | 0, _, t, ht => by simp [firstE, tabsE] at ht
  | p + 1, hp, t, ht => by
    obtain ⟨c, hc, rfl⟩ := List.mem_map.1 ht
    exact foldE_all (p := fun c => GenT n ops c.1) (cs := [(prjL n 3 p, (-1, [(p : Int)]))]) (E := firstE n 3 p) (fun d hd => by
      simp only [List.mem_singleton] at hd; subst hd; exact .prj p (by omega)) (fun d hd => gen_first p (by omega) _ (List.mem_map.2 ⟨d, hd, rfl⟩)) c hc
theorem gen_clone {n : Nat} {ops : List OpD} {E : List Ent} (h : cloneV n 3 ops = some E) : ∀ t ∈ tabsE E, GenT n ops t :=
  gen_cloneF (gen_first 3 (Nat.le_refl _)) ((firstE_len n 3 3).2 (by decide)) h

def tv (n : Nat) (t : List Int) (a b c : Int) : Int := t.getD (idxL n [a, b, c]).toNat 0
abbrev inN (n : Nat) (x : Int) : Prop := 0 ≤ x ∧ x < (n : Int)
abbrev com3 (n : Nat) (t u0 u1 u2 : List Int) : List Int := cmpL n t [u0, u1, u2] (n ^ 3)
theorem in3 {n : Nat} {a b c : Int} (ha : inN n a) (hb : inN n b) (hc : inN n c) : ∀ x ∈ [a, b, c], 0 ≤ x ∧ x < (n : Int) := fun x hx => by
  simp only [List.mem_cons, List.not_mem_nil, or_false] at hx
  rcases hx with rfl | rfl | rfl <;> assumption
theorem idx3_lt {n : Nat} {a b c : Int} (ha : inN n a) (hb : inN n b) (hc : inN n c) : (idxL n [a, b, c]).toNat < n ^ 3 := by
  obtain ⟨h1, h2⟩ := idxL_bound [a, b, c] (in3 ha hb hc)
  simp only [List.length_cons, List.length_nil, Nat.zero_add, Nat.reduceAdd] at h2
  omega
theorem cmp_getD {n : Nat} {f : List Int} {ts : List (List Int)} {size i : Nat} (h : i < size) : (cmpL n f ts size).getD i 0 = f.getD (idxL n (rowAt ts i)).toNat 0 := by
  simp [cmpL, List.getD_eq_getElem?_getD, h]
theorem tv_com {n : Nat} {t u0 u1 u2 : List Int} {a b c : Int} (ha : inN n a) (hb : inN n b) (hc : inN n c) : tv n (com3 n t u0 u1 u2) a b c = tv n t (tv n u0 a b c) (tv n u1 a b c) (tv n u2 a b c) := by
  unfold tv
  rw [cmp_getD (idx3_lt ha hb hc)]; rfl
theorem tv_prj {n : Nat} (hn : 0 < n) {p : Nat} {a b c : Int} (ha : inN n a) (hb : inN n b) (hc : inN n c) : tv n (prjL n 3 p) a b c = [a, b, c].getD p 0 := by
  unfold tv prjL
  have h := idx3_lt ha hb hc
  simp only [List.getD_eq_getElem?_getD, List.getElem?_map, List.getElem?_range h, Option.map_some, Option.getD_some]
  rw [← List.getD_eq_getElem?_getD, argsL_idxL hn 3 [a, b, c] rfl (in3 ha hb hc), List.getD_eq_getElem?_getD]
theorem args3 {n : Nat} (hn : 0 < n) {i : Nat} (hi : i < n ^ 3) : ∃ a b c : Int, inN n a ∧ inN n b ∧ inN n c ∧ argsL n 3 i = [a, b, c] ∧ (idxL n [a, b, c]).toNat = i := by
  have hl := argsL_len n 3 i
  have hin := argsL_in hn 3 i
  have hix := idxL_argsL hn 3 i hi
  match h : argsL n 3 i, hl, hin, hix with
  | [a, b, c], _, hin, hix => exact ⟨a, b, c, hin a (by simp), hin b (by simp), hin c (by simp), rfl, by rw [hix]; omega⟩
theorem tab_ext {n : Nat} (hn : 0 < n) {s t : List Int} (hs : s.length = n ^ 3) (ht : t.length = n ^ 3) (h : ∀ a b c : Int, inN n a → inN n b → inN n c → tv n s a b c = tv n t a b c) : s = t := by
  apply List.ext_getElem (by rw [hs, ht])
  intro i h1 h2
  obtain ⟨a, b, c, ha, hb, hc, -, e⟩ := args3 hn (i := i) (by omega)
  have := h a b c ha hb hc
  unfold tv at this
  rw [e] at this
  simpa [List.getD_eq_getElem?_getD, h1, h2] using this
theorem com3_len (n : Nat) (t u0 u1 u2 : List Int) : (com3 n t u0 u1 u2).length = n ^ 3 := cmpL_len _ _ _ _

section
variable {n : Nat} {ops : List OpD} {T : List (List Int)} (hC : CT n ops T)
include hC
theorem tv_in {t : List Int} (ht : t ∈ T) {a b c : Int} (ha : inN n a) (hb : inN n b) (hc : inN n c) : inN n (tv n t a b c) := by
  obtain ⟨h1, h2⟩ := hC.row t ht
  exact h2 _ (getD_at (by rw [h1]; exact idx3_lt ha hb hc))
theorem app_mem {f : OpD} (hf : f ∈ ops) {args : List (List Int)} (hl : args.length = f.ar.toNat) (h : ∀ t ∈ args, t ∈ T) : cmpL n f.tb args (n ^ 3) ∈ T := by
  have := hC.clo f hf (args.map (placeT T)) (by rw [List.length_map]; exact hl) (fun x hx => by
    obtain ⟨t, ht, rfl⟩ := List.mem_map.1 hx
    obtain ⟨j, hj, -, e⟩ := placeT_mem (h t ht)
    rw [e]; omega)
  rw [List.map_map] at this
  have e : args.map ((fun x : Int => T.getD x.toNat []) ∘ placeT T) = args := by
    conv => rhs; rw [← List.map_id args]
    apply List.map_congr_left
    intro t ht
    obtain ⟨j, hj, e1, e2⟩ := placeT_mem (h t ht)
    simp only [Function.comp, e2, Int.toNat_natCast, e1, id]
  rwa [e] at this
theorem com_mem {u0 u1 u2 : List Int} (h0 : u0 ∈ T) (h1 : u1 ∈ T) (h2 : u2 ∈ T) {t : List Int} (ht : GenT n ops t) : com3 n t u0 u1 u2 ∈ T := by
  induction ht with
  | prj p hp =>
    have hr : ∀ u ∈ T, u.length = n ^ 3 := fun u hu => (hC.row u hu).1
    have key : ∀ u ∈ T, (∀ a b c : Int, inN n a → inN n b → inN n c → tv n (com3 n (prjL n 3 p) u0 u1 u2) a b c = tv n u a b c) → com3 n (prjL n 3 p) u0 u1 u2 ∈ T := fun u hu h => by
      rw [tab_ext hC.n0 (com3_len _ _ _ _ _) (hr u hu) h]; exact hu
    have hv : ∀ a b c : Int, inN n a → inN n b → inN n c → tv n (com3 n (prjL n 3 p) u0 u1 u2) a b c = [tv n u0 a b c, tv n u1 a b c, tv n u2 a b c].getD p 0 := fun a b c ha hb hc => by
      rw [tv_com ha hb hc, tv_prj hC.n0 (tv_in hC h0 ha hb hc) (tv_in hC h1 ha hb hc) (tv_in hC h2 ha hb hc)]
    obtain rfl | rfl | rfl : p = 0 ∨ p = 1 ∨ p = 2 := by omega
    · exact key u0 h0 fun a b c ha hb hc => (hv a b c ha hb hc)
    · exact key u1 h1 fun a b c ha hb hc => (hv a b c ha hb hc)
    · exact key u2 h2 fun a b c ha hb hc => (hv a b c ha hb hc)
  | app f hf args hl h ih =>
    have hm := app_mem hC hf (args := args.map fun t => com3 n t u0 u1 u2) (by rw [List.length_map]; exact hl) (fun t ht => by
      obtain ⟨s, hs, rfl⟩ := List.mem_map.1 ht
      exact ih s hs)
    have e : com3 n (cmpL n f.tb args (n ^ 3)) u0 u1 u2 = cmpL n f.tb (args.map fun t => com3 n t u0 u1 u2) (n ^ 3) := by
      refine tab_ext hC.n0 (com3_len _ _ _ _ _) (cmpL_len _ _ _ _) fun a b c ha hb hc => ?_
      have i0 := tv_in hC h0 ha hb hc
      have i1 := tv_in hC h1 ha hb hc
      have i2 := tv_in hC h2 ha hb hc
      rw [tv_com ha hb hc]
      unfold tv
      rw [cmp_getD (idx3_lt ha hb hc)]
      have hq := cmp_getD (n := n) (f := f.tb) (ts := args) (idx3_lt i0 i1 i2)
      unfold tv at hq
      rw [hq]
      congr 3
      unfold rowAt
      rw [List.map_map]
      apply List.map_congr_left
      intro t _
      exact (tv_com (t := t) (u0 := u0) (u1 := u1) (u2 := u2) ha hb hc).symm
    rw [e]; exact hm
end

/-! ### Conditions -/
theorem args2 {n : Nat} (hn : 0 < n) {i : Nat} (hi : i < n ^ 2) : ∃ a b : Int, inN n a ∧ inN n b ∧ argsL n 2 i = [a, b] ∧ (idxL n [a, b]).toNat = i := by
  have hl := argsL_len n 2 i
  have hin := argsL_in hn 2 i
  have hix := idxL_argsL hn 2 i hi
  match h : argsL n 2 i, hl, hin, hix with
  | [a, b], _, hin, hix => exact ⟨a, b, hin a (by simp), hin b (by simp), rfl, by rw [hix]; omega⟩
theorem val_iff {n : Nat} (hn : 0 < n) (t : List Int) (i j k q : Nat) : valL n t [(i : Int), (j : Int), (k : Int)] (n * n) = prjL n 2 q ↔ ∀ a b : Int, inN n a → inN n b → tv n t ([a, b].getD i 0) ([a, b].getD j 0) ([a, b].getD k 0) = [a, b].getD q 0 := by
  have hsq : n ^ 2 = n * n := Nat.pow_two n
  have hval : ∀ x, x < n * n → ∀ a b : Int, argsL n 2 x = [a, b] → valA n t [(i : Int), (j : Int), (k : Int)] x = tv n t ([a, b].getD i 0) ([a, b].getD j 0) ([a, b].getD k 0) := fun x _ a b h => by
    unfold valA tv
    rw [h]; rfl
  constructor
  · intro h a b ha hb
    have hin2 : ∀ x ∈ [a, b], 0 ≤ x ∧ x < (n : Int) := fun x hx => by
      simp only [List.mem_cons, List.not_mem_nil, or_false] at hx
      rcases hx with rfl | rfl <;> assumption
    obtain ⟨b1, b2⟩ := idxL_bound [a, b] hin2
    simp only [List.length_cons, List.length_nil, Nat.zero_add, Nat.reduceAdd] at b2
    have hx : (idxL n [a, b]).toNat < n * n := by rw [← hsq]; omega
    have ha2 := argsL_idxL hn 2 [a, b] rfl hin2
    have e := congrArg (fun l => l.getD (idxL n [a, b]).toNat 0) h
    simp only [valL, prjL, List.getD_eq_getElem?_getD, List.getElem?_map, List.getElem?_range hx, List.getElem?_range (show (idxL n [a, b]).toNat < n ^ 2 by omega), Option.map_some, Option.getD_some] at e
    rw [hval _ hx a b ha2, ha2] at e
    simpa [List.getD_eq_getElem?_getD] using e
  · intro h
    apply List.ext_getElem (by simp [valL, prjL, hsq])
    intro x h1 h2
    have hx : x < n * n := by simpa [valL] using h1
    obtain ⟨a, b, ha, hb, e, -⟩ := args2 hn (i := x) (by omega)
    have := h a b ha hb
    simp only [valL, prjL, List.getElem_map, List.getElem_range]
    rw [hval x hx a b e, e, this]
def malB (n : Nat) (t : List Int) : Bool := decide (vRight n t = prjL n 2 0) && decide (vLeft n t = prjL n 2 1)
def majB (n : Nat) (t : List Int) : Bool := fixB n t && (decide (vLeft n t = prjL n 2 0) && decide (valL n t [1, 0, 0] (n * n) = prjL n 2 0))
def pixB (n : Nat) (t : List Int) : Bool := fixB n t && malB n t
theorem fix_iff {n : Nat} (hn : 0 < n) {t : List Int} : fixB n t = true ↔ ∀ a b : Int, inN n a → inN n b → tv n t a b a = a := by
  unfold fixB; rw [decide_eq_true_iff]; exact val_iff hn t 0 1 0 0
theorem left_iff {n : Nat} (hn : 0 < n) {t : List Int} (q : Nat) : vLeft n t = prjL n 2 q ↔ ∀ a b : Int, inN n a → inN n b → tv n t a a b = [a, b].getD q 0 := val_iff hn t 0 0 1 q
theorem right_iff {n : Nat} (hn : 0 < n) {t : List Int} (q : Nat) : vRight n t = prjL n 2 q ↔ ∀ a b : Int, inN n a → inN n b → tv n t a b b = [a, b].getD q 0 := val_iff hn t 0 1 1 q
theorem back_iff {n : Nat} (hn : 0 < n) {t : List Int} (q : Nat) : valL n t [1, 0, 0] (n * n) = prjL n 2 q ↔ ∀ a b : Int, inN n a → inN n b → tv n t b a a = [a, b].getD q 0 := val_iff hn t 1 0 0 q
theorem mal_iff {n : Nat} (hn : 0 < n) {t : List Int} : malB n t = true ↔ (∀ a b : Int, inN n a → inN n b → tv n t a b b = a) ∧ ∀ a b : Int, inN n a → inN n b → tv n t a a b = b := by
  unfold malB; rw [Bool.and_eq_true, decide_eq_true_iff, decide_eq_true_iff, right_iff hn, left_iff hn]; exact Iff.rfl
theorem maj_iff {n : Nat} (hn : 0 < n) {t : List Int} : majB n t = true ↔ (∀ a b : Int, inN n a → inN n b → tv n t a b a = a) ∧ (∀ a b : Int, inN n a → inN n b → tv n t a a b = a) ∧ ∀ a b : Int, inN n a → inN n b → tv n t b a a = a := by
  unfold majB; rw [Bool.and_eq_true, Bool.and_eq_true, decide_eq_true_iff, decide_eq_true_iff, fix_iff hn, left_iff hn, back_iff hn]; exact Iff.rfl
abbrev pixL (n : Nat) (m j : List Int) : List Int := com3 n j (prjL n 3 0) m (prjL n 3 2)
theorem tv_pix {n : Nat} (hn : 0 < n) {m j : List Int} {a b c : Int} (ha : inN n a) (hb : inN n b) (hc : inN n c) : tv n (pixL n m j) a b c = tv n j a (tv n m a b c) c := by
  rw [tv_com ha hb hc, tv_prj hn ha hb hc, tv_prj hn ha hb hc]; rfl
section
variable {n : Nat} {ops : List OpD} {T : List (List Int)} (hC : CT n ops T)
include hC
theorem pix_mem (hG : ∀ t ∈ T, GenT n ops t) {m j : List Int} (hm : m ∈ T) (hj : j ∈ T) : pixL n m j ∈ T := com_mem hC (hC.prj 0 (by decide)) hm (hC.prj 2 (by decide)) (hG j hj)
theorem pix_of {m j : List Int} (hm : m ∈ T) (h1 : malB n m = true) (h2 : majB n j = true) : pixB n (pixL n m j) = true := by
  have hn := hC.n0
  obtain ⟨m1, m2⟩ := (mal_iff hn).1 h1
  obtain ⟨j1, j2, j3⟩ := (maj_iff hn).1 h2
  unfold pixB
  rw [Bool.and_eq_true, fix_iff hn, mal_iff hn]
  refine ⟨fun a b ha hb => ?_, fun a b ha hb => ?_, fun a b ha hb => ?_⟩
  · rw [tv_pix hn ha hb ha]; exact j1 a _ ha (tv_in hC hm ha hb ha)
  · rw [tv_pix hn ha hb hb, m1 a b ha hb]; exact j2 a b ha hb
  · rw [tv_pix hn ha ha hb, m2 a b ha hb]; exact j3 b a hb ha
theorem maj_of {p : List Int} (_hp : p ∈ T) (h : pixB n p = true) : malB n p = true ∧ majB n (pixL n p p) = true := by
  have hn := hC.n0
  unfold pixB at h
  rw [Bool.and_eq_true] at h
  obtain ⟨m1, m2⟩ := (mal_iff hn).1 h.2
  have f1 := (fix_iff hn).1 h.1
  refine ⟨h.2, (maj_iff hn).2 ⟨fun a b ha hb => ?_, fun a b ha hb => ?_, fun a b ha hb => ?_⟩⟩
  · rw [tv_pix hn ha hb ha, f1 a b ha hb]; exact f1 a a ha ha
  · rw [tv_pix hn ha ha hb, m2 a b ha hb]; exact m1 a b ha hb
  · rw [tv_pix hn hb ha ha, m1 b a hb ha]; exact m2 b a hb ha
end

theorem near_left {n : Nat} {s t : List Int} (q : Nat) (h1 : vLeft n s = prjL n 2 q) (h2 : vLeft n t = prjL n 2 q) : nearB n s t 0 = true := by
  unfold nearB; rw [show (0 % 2 == 0) = true from rfl, cond_true, h1, h2, decide_eq_true rfl]
theorem near_right {n : Nat} {s t : List Int} (q : Nat) (h1 : vRight n s = prjL n 2 q) (h2 : vRight n t = prjL n 2 q) : nearB n s t 1 = true := by
  unfold nearB; rw [show (1 % 2 == 0) = false from rfl, cond_false, h1, h2, decide_eq_true rfl]
/-! ### Short chains -/
section
variable {N : Nat} {bg en : Nat → Bool} {fo : Nat → Nat → Nat → Bool}
theorem chq_go {s f : Nat} (hs : 0 < s) (hf : f < N) (hb : bg f = true) (hr : rch N en fo (s - 1) 0 f = true) : ∀ i, i ≤ s → ∃ c, chq N bg en fo s i = some c ∧ (0 < i → rch N en fo (s - i) (i - 1) (c.getD (i - 1) 0) = true)
  | 0, _ => ⟨[], rfl, fun h => absurd h (Nat.lt_irrefl _)⟩
  | i + 1, hi => by
    obtain ⟨c, h1, h2⟩ := chq_go hs hf hb hr i (by omega)
    have hl := (chq_len N bg en fo h1).1
    have hex : ∃ g, g < N ∧ prC N bg en fo s i c g = true := by
      unfold prC
      by_cases h0 : i = 0
      · subst h0
        exact ⟨f, hf, by rw [Nat.sub_zero, hr, hb]; rfl⟩
      · have h3 := h2 (by omega)
        rw [show s - i = (s - 1 - i) + 1 by omega, rch, List.any_eq_true] at h3
        obtain ⟨g, hg, h4⟩ := h3
        rw [show i - 1 + 1 = i by omega, Bool.and_eq_true] at h4
        refine ⟨g, List.mem_range.1 hg, ?_⟩
        rw [h4.1, show (i == 0) = false by simpa using h0, cond_false, h4.2]; rfl
    obtain ⟨g, hg, hp⟩ := hex
    obtain ⟨x, hx⟩ : ∃ x, (List.range N).find? (prC N bg en fo s i c) = some x := by
      have := List.find?_isSome.2 ⟨g, List.mem_range.2 hg, hp⟩
      exact Option.isSome_iff_exists.1 this
    refine ⟨c ++ [x], by rw [chq, h1, Option.bind_some, hx]; rfl, fun _ => ?_⟩
    have hpx := List.find?_some hx
    unfold prC at hpx
    rw [Bool.and_eq_true] at hpx
    rw [show s - (i + 1) = s - 1 - i by omega, show i + 1 - 1 = i by omega, List.getD_eq_getElem?_getD, List.getElem?_append_right (by omega), hl, Nat.sub_self]
    exact hpx.1
theorem shV_short {s f least most : Nat} (h1 : least ≤ s) (h2 : s ≤ most) (hs : 0 < s) (hf : f < N) (hb : bg f = true) (hr : rch N en fo (s - 1) 0 f = true) : ∃ c, shV N bg en fo least most = some c ∧ c.length ≤ s := by
  obtain ⟨c, hc, -⟩ := chq_go (bg := bg) hs hf hb hr s (Nat.le_refl _)
  have hK : s - least < most + 1 - least := by omega
  have hF : tryS N bg en fo (least + (s - least)) = some c := by rw [show least + (s - least) = s by omega]; exact hc
  have key : ∀ K, s - least < K → ∃ d t, t ≤ s - least ∧ (List.range K).findSome? (fun t => tryS N bg en fo (least + t)) = some d ∧ tryS N bg en fo (least + t) = some d := by
    intro K hKK
    obtain ⟨d, hd⟩ : ∃ d, (List.range K).findSome? (fun t => tryS N bg en fo (least + t)) = some d := by
      apply Option.isSome_iff_exists.1
      rw [List.findSome?_isSome_iff]
      exact ⟨s - least, List.mem_range.2 hKK, by rw [hF]; rfl⟩
    obtain ⟨l1, t, l2, e, ht, hno⟩ := List.findSome?_eq_some_iff.1 hd
    have htl : t = l1.length := by
      have h5 : (List.range K)[l1.length]? = some t := by rw [e, List.getElem?_append_right (Nat.le_refl _), Nat.sub_self]; rfl
      have h6 := (List.getElem?_eq_some_iff.1 h5).1
      rw [List.length_range] at h6
      rw [List.getElem?_range h6] at h5
      exact (Option.some.inj h5).symm
    refine ⟨d, t, ?_, hd, ht⟩
    by_cases hlt : s - least < t
    · have hmem : s - least ∈ l1 := by
        have h5 : (List.range K)[s - least]? = some (s - least) := List.getElem?_range hKK
        rw [e, List.getElem?_append_left (by omega)] at h5
        exact List.mem_of_getElem? h5
      have := hno _ hmem
      rw [hF] at this; cases this
    · omega
  obtain ⟨d, t, ht, hd, hd2⟩ := key _ hK
  refine ⟨d, hd, ?_⟩
  have := (chq_len N bg en fo hd2).1
  omega
end
section
variable {n : Nat} {ops : List OpD} {T : List (List Int)} (hC : CT n ops T)
include hC
theorem prj_facts : fixB n (prjL n 3 0) = true ∧ fixB n (prjL n 3 2) = true ∧ vLeft n (prjL n 3 0) = prjL n 2 0 ∧ vRight n (prjL n 3 2) = prjL n 2 1 := by
  have hn := hC.n0
  refine ⟨(fix_iff hn).2 fun a b ha hb => ?_, (fix_iff hn).2 fun a b ha hb => ?_, (left_iff hn 0).2 fun a b ha hb => ?_, (right_iff hn 1).2 fun a b ha hb => ?_⟩
  · rw [tv_prj hn ha hb ha]; rfl
  · rw [tv_prj hn ha hb ha]; rfl
  · rw [tv_prj hn ha ha hb]; rfl
  · rw [tv_prj hn ha hb hb]; rfl
theorem maj_right {j : List Int} (h : majB n j = true) : vRight n j = prjL n 2 1 := by
  have hn := hC.n0
  obtain ⟨-, -, j3⟩ := (maj_iff hn).1 h
  exact (right_iff hn 1).2 fun a b ha hb => j3 b a hb ha
theorem dS_short {g : Nat} (hg : g < T.length) (h : majB n (T.getD g []) = true) : 0 ≤ olen (dS n T) ∧ olen (dS n T) ≤ 2 := by
  obtain ⟨p0, hp0, e0, f0⟩ := placeT_mem (hC.prj 0 (by decide))
  obtain ⟨p2, hp2, e2, f2⟩ := placeT_mem (hC.prj 2 (by decide))
  obtain ⟨q1, q2, q3, q4⟩ := prj_facts hC
  have hr := maj_right hC h
  have hm := h
  unfold majB at hm
  rw [Bool.and_eq_true, Bool.and_eq_true, decide_eq_true_iff] at hm
  have a1 : folD n T 0 p0 g = true := by
    unfold folD; rw [e0, q1, hm.1, near_left 0 q3 hm.2.1]; rfl
  have a2 : folD n T 1 g p2 = true := by
    unfold folD; rw [e2, q2, hm.1, near_right 1 hr q4]; rfl
  have hen : enN n T p2 = true := decide_eq_true f2.symm
  obtain ⟨c, hc, hl⟩ := shV_short (N := T.length) (bg := bgN n T) (en := enN n T) (fo := fun i f g => folD n T i f g) (s := 3) (f := p0) (least := 2) (most := 13) (by decide) (by decide) (by decide) hp0 (decide_eq_true f0.symm) (by
    show rch _ _ _ 2 0 p0 = true
    rw [rch, List.any_eq_true]
    refine ⟨g, List.mem_range.2 hg, ?_⟩
    rw [Bool.and_eq_true]
    refine ⟨?_, a1⟩
    rw [rch, List.any_eq_true]
    exact ⟨p2, List.mem_range.2 hp2, by rw [Bool.and_eq_true]; exact ⟨hen, a2⟩⟩)
  have hd : dS n T = some c := hc
  have := (shV_len hc).1
  rw [hd, olen]
  omega
theorem pS_short {g : Nat} (hg : g < T.length) (h : malB n (T.getD g []) = true) : 0 ≤ olen (pS n T) ∧ olen (pS n T) ≤ 2 := by
  obtain ⟨p0, hp0, e0, f0⟩ := placeT_mem (hC.prj 0 (by decide))
  obtain ⟨p2, hp2, e2, f2⟩ := placeT_mem (hC.prj 2 (by decide))
  obtain ⟨q1, q2, q3, q4⟩ := prj_facts hC
  unfold malB at h
  rw [Bool.and_eq_true, decide_eq_true_iff, decide_eq_true_iff] at h
  have a1 : folP n T p0 g = true := by unfold folP; rw [e0, q3, h.1, decide_eq_true rfl]
  have a2 : folP n T g p2 = true := by unfold folP; rw [e2, q4, h.2, decide_eq_true rfl]
  have hen : enN n T p2 = true := decide_eq_true f2.symm
  obtain ⟨c, hc, hl⟩ := shV_short (N := T.length) (bg := bgN n T) (en := enN n T) (fo := fun _ f g => folP n T f g) (s := 3) (f := p0) (least := 2) (most := 13) (by decide) (by decide) (by decide) hp0 (decide_eq_true f0.symm) (by
    show rch _ _ _ 2 0 p0 = true
    rw [rch, List.any_eq_true]
    refine ⟨g, List.mem_range.2 hg, ?_⟩
    rw [Bool.and_eq_true]
    refine ⟨?_, a1⟩
    rw [rch, List.any_eq_true]
    exact ⟨p2, List.mem_range.2 hp2, by rw [Bool.and_eq_true]; exact ⟨hen, a2⟩⟩)
  have hd : pS n T = some c := hc
  have := (shV_len hc).1
  rw [hd, olen]
  omega
theorem rS_short {g : Nat} (hg : g < T.length) (h : majB n (T.getD g []) = true) : 0 ≤ dlen (rS n T) ∧ dlen (rS n T) ≤ 1 := by
  have hr := maj_right hC h
  unfold majB at h
  rw [Bool.and_eq_true, Bool.and_eq_true, decide_eq_true_iff] at h
  obtain ⟨c, hc, hl⟩ := shV_short (N := T.length) (bg := bgR n T) (en := enR n T) (fo := fun _ f g => folR n T f g) (s := 1) (f := g) (least := 1) (most := 12) (by decide) (by decide) (by decide) hg (by unfold bgR; rw [h.1, h.2.1, decide_eq_true rfl]; rfl) (by
    show enR n T g = true
    unfold enR; rw [h.1, hr, decide_eq_true rfl]; rfl)
  have hd : rS n T = some c := hc
  rw [hd, dlen]
  omega
end
end Go.Proofs.YtlgfniaakjchgaaGreat
