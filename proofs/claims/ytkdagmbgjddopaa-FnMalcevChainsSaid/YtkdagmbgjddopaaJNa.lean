/- The layer, more: calls that are lent several objects, which may grow and move, and hand objects back. -/
import Derived.Test.YtkdagmbgjddopaaJZb
namespace Go.Pv
open Go
attribute [local semireducible] Go.Pv.Goal Go.Pv.PStep Go.Pv.EStep Go.Pv.KRets Go.Pv.PCalls

def posI : List Nat → Nat → Nat → Option Nat
  | [], _, _ => none
  | i :: is, j, k => bif i == j then some k else posI is j (k + 1)
def optP : Option Nat → (Nat → PV) → PV → PV
  | some k, f, _ => f k
  | none, _, d => d
theorem posI_some : ∀ {is : List Nat} {j k m : Nat}, posI is j k = some m → ∃ i, m = k + i ∧ is[i]? = some j
  | [], _, _, _, h => by cases h
  | i :: is, j, k, m, h => by
    unfold posI at h
    cases e : (i == j) with
    | true => rw [e] at h; cases h; exact ⟨0, rfl, by simpa using e⟩
    | false =>
      rw [e] at h
      obtain ⟨n, h1, h2⟩ := posI_some (is := is) h
      exact ⟨n + 1, by omega, by simpa using h2⟩
theorem posI_none : ∀ {is : List Nat} {j k : Nat}, posI is j k = none → ∀ i : Nat, is[i]? ≠ some j
  | [], _, _, _, i => by simp
  | a :: is, j, k, h, i => by
    unfold posI at h
    cases e : (a == j) with
    | true => rw [e] at h; cases h
    | false =>
      rw [e] at h
      cases i with
      | zero => simpa using e
      | succ i => simpa using posI_none (is := is) h i
def apart : List Nat → Bool
  | [] => true
  | i :: is => is.all (fun j => !(i == j)) && apart is
theorem apart_inj : ∀ {is : List Nat}, apart is = true → ∀ {a b j : Nat}, is[a]? = some j → is[b]? = some j → a = b
  | [], _, a, b, j, h, _ => by simp at h
  | i :: is, hp, a, b, j, ha, hb => by
    simp only [apart, Bool.and_eq_true, List.all_eq_true, Bool.not_eq_true', beq_eq_false_iff_ne] at hp
    rcases a with _ | a <;> rcases b with _ | b
    · rfl
    · simp at ha hb; exact absurd ha (hp.1 j (List.mem_of_getElem? hb))
    · simp at ha hb; exact absurd hb (hp.1 j (List.mem_of_getElem? ha))
    · simp at ha hb; rw [apart_inj hp.2 ha hb]
theorem posI_at {is : List Nat} (hp : apart is = true) {i j : Nat} (h : is[i]? = some j) : posI is j 0 = some i := by
  cases e : posI is j 0 with
  | none => exact absurd h (posI_none e i)
  | some m =>
    obtain ⟨n, rfl, h2⟩ := posI_some e
    rw [apart_inj hp h h2, Nat.zero_add]
def lendM1 (ids : List Nat) (hp : List HO) : PV → PV
  | .hp j => optP (posI ids j 0) .hp (view1 hp (.hp j))
  | .hat j i => optP (posI ids j 0) (.hat · i) .any
  | .hpv j _ _ => optP (posI ids j 0) .hp .any
  | .hatv j i _ _ => optP (posI ids j 0) (.hat · i) .any
  | .gr _ _ | .gat _ _ _ => .any
  | p => p
def lendMA (ids : List Nat) (hp : List HO) : PV → PV
  | .agg l => .agg (l.map (lendM1 ids hp))
  | p => lendM1 ids hp p
def lendMP (ids : List Nat) (hp : List HO) : PV → PV
  | .tup l => .tup (l.map (lendMA ids hp))
  | .agg l => .agg (l.map (lendM1 ids hp))
  | p => lendM1 ids hp p
theorem lendMA_map (ids : List Nat) (hp : List HO) : lendMA ids hp = mapA (lendM1 ids hp) := by funext p; cases p <;> rfl
theorem lendMP_map (ids : List Nat) (hp : List HO) (p : PV) : lendMP ids hp p = mapT (lendM1 ids hp) p := by cases p <;> first | rfl | simp only [lendMP, mapT, lendMA_map]
def hasI : List Nat → Nat → Bool
  | [], _ => false
  | i :: is, k => bif i == k then true else hasI is k
theorem hasI_mem : ∀ {is : List Nat} {k : Nat}, hasI is k = true → k ∈ is
  | i :: is, k, h => by
    unfold hasI at h
    cases e : (i == k) with
    | true => rw [show i = k by simpa using e]; simp
    | false => rw [e] at h; exact List.mem_cons_of_mem _ (hasI_mem h)
def killM1 (ids fix : List Nat) : PV → PV
  | .hp j => optP (posI ids j 0) (fun _ => .any) (.hp j)
  | .hat j i => optP (posI ids j 0) (fun k => bif hasI fix k then .hat j i else .any) (.hat j i)
  | .hpv j b c => optP (posI ids j 0) (fun _ => .any) (.hpv j b c)
  | .hatv j i b c => optP (posI ids j 0) (fun k => bif hasI fix k then .hatv j i b c else .any) (.hatv j i b c)
  | .gr j i => optP (posI ids j 0) (fun _ => .any) (.gr j i)
  | .gat j i m => optP (posI ids j 0) (fun _ => .any) (.gat j i m)
  | p => p
def killMA (ids fix : List Nat) : PV → PV
  | .agg l => .agg (l.map (killM1 ids fix))
  | p => killM1 ids fix p
def killMP (ids fix : List Nat) : PV → PV
  | .tup l => .tup (l.map (killMA ids fix))
  | .agg l => .agg (l.map (killM1 ids fix))
  | p => killM1 ids fix p
theorem killMA_map (ids fix : List Nat) : killMA ids fix = mapA (killM1 ids fix) := by funext p; cases p <;> rfl
theorem killMP_map (ids fix : List Nat) (p : PV) : killMP ids fix p = mapT (killM1 ids fix) p := by cases p <;> first | rfl | simp only [killMP, mapT, killMA_map]
def getI : List Nat → Nat → Nat
  | [], _ => 0
  | i :: _, 0 => i
  | _ :: is, k + 1 => getI is k
theorem getI_eq : ∀ {is : List Nat} {k j : Nat}, is[k]? = some j → getI is k = j
  | [], _, _, h => by simp at h
  | i :: is, 0, j, h => by simpa [getI] using h
  | i :: is, k + 1, j, h => by simpa [getI] using getI_eq (is := is) (by simpa using h)
def getO : List Nat → Nat → Option Nat
  | [], _ => none
  | i :: _, 0 => some i
  | _ :: is, k + 1 => getO is k
theorem getO_eq : ∀ (is : List Nat) (k : Nat), getO is k = is[k]?
  | [], _ => rfl
  | i :: is, 0 => rfl
  | i :: is, k + 1 => by rw [getO, getO_eq is k]; rfl
def backM1 (ids : List Nat) : PV → PV
  | .hp k => optP (getO ids k) .hp .any
  | .hat k i => optP (getO ids k) (.hat · i) .any
  | .hpv k _ _ => optP (getO ids k) .hp .any
  | .hatv k i _ _ => optP (getO ids k) (.hat · i) .any
  | .gr k i => optP (getO ids k) (.gr · i) .any
  | .gat k i j => optP (getO ids k) (.gat · i j) .any
  | p => p
def backMA (ids : List Nat) : PV → PV
  | .agg l => .agg (l.map (backM1 ids))
  | p => backM1 ids p
def backMP (ids : List Nat) : PV → PV
  | .tup l => .tup (l.map (backMA ids))
  | .agg l => .agg (l.map (backM1 ids))
  | p => backM1 ids p
theorem backMA_map (ids : List Nat) : backMA ids = mapA (backM1 ids) := by funext p; cases p <;> rfl
theorem backMP_map (ids : List Nat) (p : PV) : backMP ids p = mapT (backM1 ids) p := by cases p <;> first | rfl | simp only [backMP, mapT, backMA_map]
def putL : List Nat → List HO → List HO → List HO
  | i :: is, x :: xs, hp => putL is xs (hp.set i x)
  | _, _, hp => hp
theorem putL_other : ∀ {is : List Nat} {xs hp : List HO} {j : Nat}, (∀ i : Nat, is[i]? ≠ some j) → (putL is xs hp)[j]? = hp[j]?
  | [], xs, hp, j, _ => by cases xs <;> rfl
  | _ :: _, [], hp, j, _ => rfl
  | i :: is, x :: xs, hp, j, h => by
    rw [putL, putL_other (fun k => by simpa using h (k + 1)), List.getElem?_set_ne]
    have := h 0
    simpa using this
theorem putL_at : ∀ {is : List Nat} {xs hp : List HO} {k j : Nat}, apart is = true → xs.length = is.length → is[k]? = some j → j < hp.length → (putL is xs hp)[j]? = xs[k]?
  | [], _, _, k, j, _, _, h, _ => by simp at h
  | i :: is, [], _, _, _, _, h, _, _ => by simp at h
  | i :: is, x :: xs, hp, k, j, ha, hl, hk, hj => by
    rw [putL]
    have ha' := ha
    simp only [apart, Bool.and_eq_true, List.all_eq_true, Bool.not_eq_true', beq_eq_false_iff_ne] at ha'
    rcases k with _ | k
    · simp at hk
      subst hk
      rw [putL_other (fun m hm => (ha'.1 _ (List.mem_of_getElem? hm)) rfl), List.getElem?_set_self hj]
      rfl
    · rw [putL_at ha'.2 (by simpa using hl) (by simpa using hk) (by simpa using hj)]
      rfl
def inpM (ids : List Nat) (hp : List HO) : List HO := ids.map fun i => mapHO (lendM1 ids hp) (hp.getD i .gone)
def footL (inp : List HO) (ρ : Nat → Loc) (b : Nat) : Bool := (List.range inp.length).any fun i => footB (inp.getD i .gone) (ρ i) b
theorem footL_iff {inp : List HO} {ρ : Nat → Loc} {b : Nat} : footL inp ρ b = true ↔ ∃ i x, inp[i]? = some x ∧ foot x (ρ i) b := by
  unfold footL
  rw [List.any_eq_true]
  constructor
  · rintro ⟨i, hi, h⟩
    rw [List.mem_range] at hi
    refine ⟨i, inp[i], List.getElem?_eq_getElem hi, ?_⟩
    rw [List.getD_eq_getElem?_getD, List.getElem?_eq_getElem hi] at h
    exact footB_iff.1 h
  · rintro ⟨i, x, hi, h⟩
    refine ⟨i, List.mem_range.2 (List.getElem?_eq_some_iff.1 hi).1, ?_⟩
    rw [List.getD_eq_getElem?_getD, hi]
    exact footB_iff.2 h
theorem HOwn.reD {g : Ghost} {ρ : Nat → Loc} {hp : List HO} {w : World} {D D' : Nat → Bool} {ho : HO} {L : Loc} (h : HOwn g ρ hp w D ho L) (hD : ∀ b, foot ho L b → D' b = true) : HOwn g ρ hp w D' ho L := by
  cases ho with
  | gone => trivial
  | arr mt s e l => obtain ⟨cur, c, h⟩ := h; exact ⟨cur, c, { h with hB := hD _ rfl }⟩
  | box l => obtain ⟨cur, e, h⟩ := h; exact ⟨cur, e, ⟨hD _ rfl, h.hw, h.hsz, h.hv, h.hg⟩⟩
  | grid e1 e2 rows => obtain ⟨cur, rc, h⟩ := h; exact ⟨cur, rc, { h with hB := hD _ (.inl rfl), hB' := fun i hi => hD _ (.inr ⟨i, hi, rfl⟩) }⟩
  | pg e1 e2 n rows => obtain ⟨cur, rc, h⟩ := h; exact ⟨cur, rc, { h with hB := hD _ (.inl rfl), hB' := fun i hi => hD _ (.inr ⟨i, hi, rfl⟩) }⟩
  | sg e1 e2 n rows => obtain ⟨cur, rc, h⟩ := h; exact ⟨cur, rc, { h with hB := hD _ (.inl rfl), hB' := fun i hi => hD _ (.inr ⟨i, hi, rfl⟩) }⟩
  | mp k l => obtain ⟨es, cl, h⟩ := h; exact ⟨es, cl, { h with hB := hD _ h.hblk.symm }⟩

def MCalls (P : Program) (f : FuncId) (inp : List HO) (args : List PV) (out : List HO) (fix : List Nat) (q : PV) : Prop :=
  ∀ (g : Ghost) (w : World) (ρ : Nat → Loc) (vs : List Value), Base ⟨w, g, footL inp ρ⟩ inp g ρ w → VRSl g ρ inp vs args → Calls P f vs.toArray w fun e w' =>
    ∃ v g' ρ', e = .returned v ∧ GExt g g' ∧ Base ⟨w, g, footL inp ρ⟩ out g' ρ' w' ∧ (∀ i ∈ fix, (ρ' i).blk = (ρ i).blk ∧ (ρ' i).cap = (ρ i).cap) ∧ VRS g' ρ' out v q

theorem VRSl.append {g : Ghost} {ρ : Nat → Loc} {hp : List HO} {us vs : List Value} {l m : List PV} (h : VRSl g ρ hp us l) (k : VRSl g ρ hp vs m) : VRSl g ρ hp (us ++ vs) (l ++ m) := by
  refine ⟨by simp [h.1, k.1], fun i q hq => ?_⟩
  rcases Nat.lt_or_ge i l.length with hlt | hge
  · rw [List.getElem?_append_left hlt] at hq
    have := h.2 i q hq
    simpa [List.getD_eq_getElem?_getD, List.getElem?_append_left (show i < us.length by rw [h.1]; exact hlt)] using this
  · rw [List.getElem?_append_right hge] at hq
    have := k.2 _ q hq
    simpa [List.getD_eq_getElem?_getD, List.getElem?_append_right (show us.length ≤ i by rw [h.1]; exact hge), h.1] using this
theorem VRSl.of_array {g : Ghost} {ρ : Nat → Loc} {hp : List HO} {us : Array Value} {l : List PV} (h1 : us.size = l.length) (h2 : ∀ i q, l[i]? = some q → VR g (us.getD i undef) q) : VRSl g ρ hp us.toList l := by
  have := VRl.of_array h1 h2
  exact ⟨this.1, fun i q hq => .of_VR (this.2 i q hq)⟩

section
variable {g : Ghost} {ρ : Nat → Loc} {hp : List HO} {ids : List Nat}
theorem inpM_at {k j : Nat} (hk : ids[k]? = some j) : (inpM ids hp)[k]? = some (mapHO (lendM1 ids hp) (hp.getD j .gone)) := by
  unfold inpM
  rw [List.getElem?_map, hk]; rfl
theorem inpM_arr {k j : Nat} {m : Bool} {s : Nat} {e : TypeId} {l : List PV} (hk : ids[k]? = some j) (h : (inpM ids hp)[k]? = some (.arr m s e l)) : hp[j]? = some (.arr m s e l) := by
  rw [inpM_at hk] at h
  have h := Option.some.inj h
  rw [List.getD_eq_getElem?_getD] at h
  cases hj : hp[j]? with
  | none => rw [hj] at h; cases h
  | some y =>
    rw [hj] at h
    exact mapHO_arr (x := some y) (φ := lendM1 ids hp) (congrArg some h)
theorem inpM_grid {k j : Nat} {e1 e2 : TypeId} {l : List (List PV)} (hk : ids[k]? = some j) (h : (inpM ids hp)[k]? = some (.grid e1 e2 l)) : hp[j]? = some (.grid e1 e2 l) := by
  rw [inpM_at hk] at h
  have h := Option.some.inj h
  rw [List.getD_eq_getElem?_getD] at h
  cases hj : hp[j]? with
  | none => rw [hj] at h; cases h
  | some y => rw [hj] at h; exact mapHO_grid (x := some y) (φ := lendM1 ids hp) (congrArg some h)
theorem inpM_pg {k j n : Nat} {e1 e2 : TypeId} {l : List (List PV)} (hk : ids[k]? = some j) (h : (inpM ids hp)[k]? = some (.pg e1 e2 n l)) : hp[j]? = some (.pg e1 e2 n l) := by
  rw [inpM_at hk] at h
  have h := Option.some.inj h
  rw [List.getD_eq_getElem?_getD] at h
  cases hj : hp[j]? with
  | none => rw [hj] at h; cases h
  | some y => rw [hj] at h; exact mapHO_pg (x := some y) (φ := lendM1 ids hp) (congrArg some h)
theorem inpM_sg {k j n : Nat} {e1 e2 : TypeId} {l : List (List PV)} (hk : ids[k]? = some j) (h : (inpM ids hp)[k]? = some (.sg e1 e2 n l)) : hp[j]? = some (.sg e1 e2 n l) := by
  rw [inpM_at hk] at h
  have h := Option.some.inj h
  rw [List.getD_eq_getElem?_getD] at h
  cases hj : hp[j]? with
  | none => rw [hj] at h; cases h
  | some y => rw [hj] at h; exact mapHO_sg (x := some y) (φ := lendM1 ids hp) (congrArg some h)
theorem inpM_box {k j : Nat} {l : List PV} (hk : ids[k]? = some j) (h : (inpM ids hp)[k]? = some (.box l)) : ∃ l0 : List PV, hp[j]? = some (.box l0) ∧ l0.length = l.length := by
  rw [inpM_at hk, List.getD_eq_getElem?_getD] at h
  cases hj : hp[j]? with
  | none => rw [hj] at h; cases h
  | some y => rw [hj] at h; exact mapHO_box (x := some y) (φ := lendM1 ids hp) (congrArg some (Option.some.inj h))
theorem VRS1.lendM {w0 : Ini} {w : World} (hb : Base w0 hp g ρ w) {v : Value} {p : PV} (h : VRS1 g ρ hp v p) : VRS1 g (fun k => ρ (getI ids k)) (inpM ids hp) v (lendM1 ids hp p) := by
  have keyH : ∀ {j k : Nat}, ids[k]? = some j → HpV ρ hp v j → HpV (fun k => ρ (getI ids k)) (inpM ids hp) v k := fun {j k} e h =>
    { sl := h.sl
      arr := fun m s e' l hh => by show v = .slice (some ⟨(ρ (getI ids k)).blk, 0, none⟩) _ _; rw [getI_eq e]; exact h.arr _ _ _ _ (inpM_arr e hh)
      grid := fun e1 e2 rows hh => by show v = .slice (some ⟨(ρ (getI ids k)).blk, 0, none⟩) _ _; rw [getI_eq e]; exact h.grid _ _ _ (inpM_grid e hh)
      sg := fun e1 e2 n rows hh => by show v = .slice (some ⟨(ρ (getI ids k)).blk, 0, none⟩) _ _; rw [getI_eq e]; exact h.sg _ _ _ _ (inpM_sg e hh)
      pg := fun e1 e2 n rows hh => by show v = .slice (some ⟨(ρ (getI ids k)).blk, 0, none⟩) _ _; rw [getI_eq e]; exact h.pg _ _ _ _ (inpM_pg e hh)
      box := fun l hh => by show v = .slice (some ⟨(ρ (getI ids k)).blk, 0, none⟩) _ _; rw [getI_eq e]; obtain ⟨l0, h0, hl⟩ := inpM_box e hh; rw [← hl]; exact h.box _ h0 }
  have pos : ∀ {j m : Nat}, posI ids j 0 = some m → ids[m]? = some j := fun {j m} e => by
    obtain ⟨i, rfl, h2⟩ := posI_some e
    rwa [Nat.zero_add]
  cases p with
  | hp j =>
    simp only [lendM1]
    cases e : posI ids j 0 with
    | none => exact .of_VR (hb.view1 (p := .hp j) h)
    | some k => exact keyH (pos e) h
  | hpv j b c =>
    simp only [lendM1]
    cases e : posI ids j 0 with
    | none => exact VR.any v
    | some k => exact keyH (pos e) h.1
  | hat j i =>
    simp only [lendM1]
    cases e : posI ids j 0 with
    | none => exact VR.any v
    | some k => show v = .pointer (some ⟨(ρ (getI ids k)).blk, i, none⟩); rw [getI_eq (pos e)]; exact h
  | hatv j i b c =>
    simp only [lendM1]
    cases e : posI ids j 0 with
    | none => exact VR.any v
    | some k => show v = .pointer (some ⟨(ρ (getI ids k)).blk, i, none⟩); rw [getI_eq (pos e)]; exact h.1
  | gr _ _ => exact VR.any v
  | gat _ _ _ => exact VR.any v
  | _ => exact h
end

/-! ### The end of such a call -/
def pinM1 (fix : List Nat) (bd : Nat → Nat × Nat) : PV → PV
  | .hat j i => bif hasI fix j then .hatv j i (bd j).1 (bd j).2 else .hat j i
  | p => p
def pinMA (fix : List Nat) (bd : Nat → Nat × Nat) : PV → PV
  | .agg l => .agg (l.map (pinM1 fix bd))
  | p => pinM1 fix bd p
def pinMP (fix : List Nat) (bd : Nat → Nat × Nat) : PV → PV
  | .tup l => .tup (l.map (pinMA fix bd))
  | .agg l => .agg (l.map (pinM1 fix bd))
  | p => pinM1 fix bd p
theorem pinMA_map (fix : List Nat) (bd : Nat → Nat × Nat) : pinMA fix bd = mapA (pinM1 fix bd) := by funext p; cases p <;> rfl
theorem pinMP_map (fix : List Nat) (bd : Nat → Nat × Nat) (p : PV) : pinMP fix bd p = mapT (pinM1 fix bd) p := by cases p <;> first | rfl | simp only [pinMP, mapT, pinMA_map]
def StayM (S : St) (bd : Nat → Nat × Nat) : List Nat → Prop
  | [] => True
  | i :: is => (∃ j o, S.ev (.tmp j) = .hatv i o (bd i).1 (bd i).2) ∧ StayM S bd is
theorem StayM.spec {S : St} {bd : Nat → Nat × Nat} : ∀ {is : List Nat}, StayM S bd is → ∀ i ∈ is, ∃ j o, S.ev (.tmp j) = .hatv i o (bd i).1 (bd i).2
  | [], _, i, hi => by simp at hi
  | k :: is, h, i, hi => by
    rcases List.mem_cons.1 hi with rfl | hi
    · exact h.1
    · exact StayM.spec h.2 i hi
def mutHO : HO → Bool
  | .arr mt _ _ _ => mt
  | _ => true
theorem HOwn.none {g : Ghost} {ρ : Nat → Loc} {hp : List HO} {w : World} {D : Nat → Bool} {ho : HO} {L : Loc} (h : HOwn g ρ hp w D ho L) (hm : mutHO ho = true) {b : Nat} (hf : foot ho L b) (o : Nat) : g b o = none := by
  cases ho with
  | gone => exact hf.elim
  | arr mt s e l =>
    have hm : mt = true := hm
    subst hm
    obtain ⟨cur, c, h⟩ := h
    have hf : b = L.blk := hf
    rw [hf, h.hg o]; simp
  | box l =>
    obtain ⟨cur, e, h⟩ := h
    have hf : b = L.blk := hf
    rw [hf]; exact h.hg o
  | grid e1 e2 rows =>
    obtain ⟨cur, rc, h⟩ := h
    rcases hf with rfl | ⟨i, hi, rfl⟩
    · exact h.hg o
    · exact h.hg' i o hi
  | pg e1 e2 n rows =>
    obtain ⟨cur, rc, h⟩ := h
    rcases hf with rfl | ⟨i, hi, rfl⟩
    · exact h.hg o
    · exact h.hg' i o hi
  | sg e1 e2 n rows =>
    obtain ⟨cur, rc, h⟩ := h
    rcases hf with rfl | ⟨i, hi, rfl⟩
    · exact h.hg o
    · exact h.hg' i o hi
  | mp k l =>
    obtain ⟨es, cl, h⟩ := h
    have hf : b = L.blk := hf
    rw [hf, h.hblk]; exact h.hg o
def Turns (S S' : St) : Prop := ∀ w0 g ρ a w, Rel w0 S g ρ a w → ∃ ρ', Rel w0 S' g ρ' a w
theorem Turns.refl (S : St) : Turns S S := fun _ _ ρ _ _ h => ⟨ρ, h⟩
theorem Turns.trans {S S' S2 : St} (h : Turns S S') (k : Turns S' S2) : Turns S S2 := fun w0 g ρ a w hr => (h w0 g ρ a w hr).elim fun ρ' hr' => k w0 g ρ' a w hr'
theorem pcallsM_gen {P : Program} {f : FuncId} {fn : Func} {c : Code} {n : Nat} {inp out : List HO} {fix : List Nat} {args : List PV} {q : PV} (KE : St → Prop)
    (hres : ∀ (S : St) (w0 : Ini) (g : Ghost) (ρ : Nat → Loc) (a : Act) (w : World), KE S → Rel w0 S g ρ a w → ∃ v, (results fn a.tmps).run P w = .ok v w ∧ VRS g ρ S.hp v q)
    (hf : P.funcs[f]? = some fn) (hb : fn.body = some c) (hn : fn.ntmps = n) (hmt : inp.all mutHO = true)
    (h : ∀ bd : Nat → Nat × Nat, Goal P c (fun e S0 => (e = .normal ∨ e = .ret) ∧ ∃ S, Turns S0 S ∧ hpLe S.hp out ∧ StayM S bd fix ∧ KE S) ⟨args.map (pinMP fix bd) ++ List.replicate (n - args.length) (.val undef), inp⟩) : MCalls P f inp args out fix q := by
  intro g w ρ vs hstart hv
  refine calls_of_wp hf hb ?_
  subst hn
  let bd : Nat → Nat × Nat := fun i => ((ρ i).blk, (ρ i).cap)
  have hpin : ∀ v p, VRS1 g ρ inp v p → VRS1 g ρ inp v (pinM1 fix bd p) := fun v p h => by
    cases p with
    | hat j i =>
      simp only [pinM1]
      cases hasI fix j with
      | false => exact h
      | true => exact ⟨h, rfl, rfl⟩
    | _ => exact h
  have hrel : Rel ⟨w, g, footL inp ρ⟩ ⟨args.map (pinMP fix bd) ++ List.replicate (fn.ntmps - args.length) (.val undef), inp⟩ g ρ { tmps := vs.toArray ++ Array.replicate (fn.ntmps - vs.toArray.size) undef, defers := [] } w := by
    refine ⟨hstart, rfl, by simp [hv.1], fun i p hp => ?_⟩
    rcases Nat.lt_or_ge i args.length with hlt | hge
    · rw [List.getElem?_append_left (by simpa using hlt), List.getElem?_map, Option.map_eq_some_iff] at hp
      obtain ⟨p, hp, rfl⟩ := hp
      have := hv.2 i p hp
      have hlt' : i < vs.length := by rw [hv.1]; exact hlt
      have e : (vs.toArray ++ Array.replicate (fn.ntmps - vs.toArray.size) undef).getD i undef = vs.getD i undef := by
        simp [Array.getD_eq_getD_getElem?, Array.getElem?_append, List.getD_eq_getElem?_getD, hlt']
      show VRS g ρ inp ((vs.toArray ++ Array.replicate (fn.ntmps - vs.toArray.size) undef).getD i undef) _
      rw [e, pinMP_map]
      exact this.map hpin
    · rw [List.getElem?_append_right (by simpa using hge), List.getElem?_replicate] at hp
      split at hp
      · rename_i h'
        simp only [Option.some.injEq] at hp
        subst hp
        simp only [List.length_map] at h'
        have hge' : ¬ i < vs.length := by rw [hv.1]; omega
        have hlt2 : i - vs.length < fn.ntmps - vs.length := by rw [hv.1]; exact h'
        have e : (vs.toArray ++ Array.replicate (fn.ntmps - vs.toArray.size) undef).getD i undef = undef := by
          simp [Array.getD_eq_getD_getElem?, Array.getElem?_append, hge', hlt2]
        show VRS g ρ inp ((vs.toArray ++ Array.replicate (fn.ntmps - vs.toArray.size) undef).getD i undef) _
        rw [e]; exact .of_VR (.val _)
      · cases hp
  refine h bd ⟨w, g, footL inp ρ⟩ g ρ _ w _ hrel ?_
  intro e S0 g' ρ0 a' w' hk hr0
  obtain ⟨he, S, hT, hle, hst, hke⟩ := hk
  obtain ⟨ρ', hr⟩ := hT _ _ _ _ _ hr0
  obtain ⟨v, hrun, hvr⟩ := hres S _ g' ρ' a' w' hke hr
  have hB : Base ⟨w, g, footL inp ρ⟩ out g' ρ' w' := (hr.weaken (S' := ⟨S.fr, out⟩) ⟨frLe_refl _, hle⟩).base
  have hx : GExt g g' := fun b o u hu => by
    by_cases ho' : Ini.own ⟨w, g, footL inp ρ⟩ b = true
    · have hlt := hstart.agree.lt hu
      have hlent : footL inp ρ b = true := by
        unfold Ini.own at ho'
        rw [decide_eq_false (show ¬ w.heap.size ≤ b by omega), Bool.false_or] at ho'
        exact ho'
      obtain ⟨i, x, hi, hfx⟩ := footL_iff.1 hlent
      have := (hstart.own i x hi).none (List.all_eq_true.1 hmt x (List.mem_of_getElem? hi)) hfx o
      rw [this] at hu; cases hu
    · rw [hr.base.old b o ho']; exact hu
  have hend : a'.defers = [] ∧ ∃ v, (results fn a'.tmps).run P w' = .ok v w' ∧ ∃ v' g'' ρ'', Ending.returned v = .returned v' ∧ GExt g g'' ∧ Base ⟨w, g, footL inp ρ⟩ out g'' ρ'' w' ∧ (∀ i ∈ fix, (ρ'' i).blk = (ρ i).blk ∧ (ρ'' i).cap = (ρ i).cap) ∧ VRS g'' ρ'' out v' q := by
    refine ⟨hr.dead, v, hrun, v, g', ρ', rfl, hx, hB, fun i hi => ?_, hvr.weaken hle⟩
    obtain ⟨j, o, hj⟩ := hst.spec i hi
    have hs := hr.ev (.tmp j)
    rw [hj] at hs
    exact hs.2
  rcases he with rfl | rfl
  · exact hend
  · exact hend
def KRM (r : Tmp) (out : List HO) (bd : Nat → Nat × Nat) (fix : List Nat) (q : PV) (e : Exit) (S0 : St) : Prop := (e = .normal ∨ e = .ret) ∧ ∃ S, Turns S0 S ∧ hpLe S.hp out ∧ StayM S bd fix ∧ leS (S.ev (.tmp r)) q
theorem krm {r : Tmp} {out : List HO} {bd : Nat → Nat × Nat} {fix : List Nat} {q : PV} {S : St} (h1 : hpLe S.hp out) (h2 : StayM S bd fix) (h3 : leS (S.ev (.tmp r)) q) : KRM r out bd fix q .ret S := ⟨.inr rfl, S, Turns.refl S, h1, h2, h3⟩
section
variable {P : Program} {f : FuncId} {fn : Func} {c : Code} {n : Nat} {inp out : List HO} {fix : List Nat} {args : List PV}
theorem pcallsM1 {q : PV} {r : Tmp} (hf : P.funcs[f]? = some fn) (hb : fn.body = some c) (hn : fn.ntmps = n) (hr : fn.results = #[.tmp r]) (hmt : inp.all mutHO = true)
    (h : ∀ bd, Goal P c (KRM r out bd fix q) ⟨args.map (pinMP fix bd) ++ List.replicate (n - args.length) (.val undef), inp⟩) : MCalls P f inp args out fix q :=
  pcallsM_gen (fun S => leS (S.ev (.tmp r)) q) (fun S w0 g ρ a w hk hrel => ⟨a.tmps.getD r undef, by simp [results, hr], hk _ _ _ _ (hrel.ev (.tmp r))⟩) hf hb hn hmt (fun bd => h bd)
end
end Go.Pv
