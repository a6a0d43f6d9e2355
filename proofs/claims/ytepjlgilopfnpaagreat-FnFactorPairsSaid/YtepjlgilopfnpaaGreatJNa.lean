/- The layer, more: calls that are lent several objects, which may grow and move, and hand objects back. -/
import Derived.Test.YtepjlgilopfnpaaGreatJSt
set_option linter.unusedSectionVars false
namespace Go.Pv
open Go
attribute [local semireducible] Go.Pv.Goal Go.Pv.PStep Go.Pv.EStep Go.Pv.KRets Go.Pv.PCalls

def posI : List Nat → Nat → Nat → Option Nat
 | [], _, _ => none
 | i :: is, j, k => bif i == j then some k else posI is j (k + 1)
def optP : Option Nat → (Nat → PV) → PV → PV
 | some k, f, _ => f k
 | none, _, d => d
theorem posI_some : ∀ {is : List Nat} {j k m : Nat}, posI is j k = some m → ∃ i, m = k + i ∧ is[i]? = some j
 | [], _, _, _, h => by cases h
 | i :: is, j, k, m, h => by
  unfold posI at h
  cases e : (i == j) with
  | true => rw [e] at h; cases h; exact ⟨0, rfl, by simpa using e⟩
  | false =>
   rw [e] at h
   obtain ⟨n, h1, h2⟩ := posI_some (is := is) h
   exact ⟨n + 1, by omega, by simpa using h2⟩
theorem posI_none : ∀ {is : List Nat} {j k : Nat}, posI is j k = none → ∀ i : Nat, is[i]? ≠ some j
 | [], _, _, _, i => by simp
 | a :: is, j, k, h, i => by
  unfold posI at h
  cases e : (a == j) with
  | true => rw [e] at h; cases h
  | false =>
   rw [e] at h
   cases i with
   | zero => simpa using e
   | succ i => simpa using posI_none (is := is) h i
def apart : List Nat → Bool
 | [] => true
 | i :: is => is.all (fun j => !(i == j)) && apart is
theorem apart_inj : ∀ {is : List Nat}, apart is = true → ∀ {a b j : Nat}, is[a]? = some j → is[b]? = some j → a = b
 | [], _, a, b, j, h, _ => by simp at h
 | i :: is, hp, a, b, j, ha, hb => by
  simp only [apart, Bool.and_eq_true, List.all_eq_true, Bool.not_eq_true', beq_eq_false_iff_ne] at hp
  rcases a with _ | a <;> rcases b with _ | b
  · rfl
  · simp at ha hb; exact absurd ha (hp.1 j (List.mem_of_getElem? hb))
  · simp at ha hb; exact absurd hb (hp.1 j (List.mem_of_getElem? ha))
  · simp at ha hb; rw [apart_inj hp.2 ha hb]
theorem posI_at {is : List Nat} (hp : apart is = true) {i j : Nat} (h : is[i]? = some j) : posI is j 0 = some i := by
 cases e : posI is j 0 with
 | none => exact absurd h (posI_none e i)
 | some m =>
  obtain ⟨n, rfl, h2⟩ := posI_some e
  rw [apart_inj hp h h2, Nat.zero_add]
def lendM1 (ids : List Nat) (hp : List HO) : PV → PV
 | .hp j => optP (posI ids j 0) .hp (view1 hp (.hp j))
 | .hat j i => optP (posI ids j 0) (.hat · i) .any
 | .hpv j _ _ => optP (posI ids j 0) .hp .any
 | .hatv j i _ _ => optP (posI ids j 0) (.hat · i) .any
 | .gr _ _ | .gat _ _ _ => .any
 | p => p
def lendMA (ids : List Nat) (hp : List HO) : PV → PV
 | .agg l => .agg (l.map (lendM1 ids hp))
 | p => lendM1 ids hp p
def lendMP (ids : List Nat) (hp : List HO) : PV → PV
 | .tup l => .tup (l.map (lendMA ids hp))
 | .agg l => .agg (l.map (lendM1 ids hp))
 | p => lendM1 ids hp p
theorem lendMA_map (ids : List Nat) (hp : List HO) : lendMA ids hp = mapA (lendM1 ids hp) := by funext p; cases p <;> rfl
theorem lendMP_map (ids : List Nat) (hp : List HO) (p : PV) : lendMP ids hp p = mapT (lendM1 ids hp) p := by cases p <;> first | rfl | simp only [lendMP, mapT, lendMA_map]
def hasI : List Nat → Nat → Bool
 | [], _ => false
 | i :: is, k => bif i == k then true else hasI is k
theorem hasI_mem : ∀ {is : List Nat} {k : Nat}, hasI is k = true → k ∈ is
 | i :: is, k, h => by
  unfold hasI at h
  cases e : (i == k) with
  | true => rw [show i = k by simpa using e]; simp
  | false => rw [e] at h; exact List.mem_cons_of_mem _ (hasI_mem h)
def killM1 (ids fix : List Nat) : PV → PV
 | .hp j => optP (posI ids j 0) (fun _ => .any) (.hp j)
 | .hat j i => optP (posI ids j 0) (fun k => bif hasI fix k then .hat j i else .any) (.hat j i)
 | .hpv j b c => optP (posI ids j 0) (fun _ => .any) (.hpv j b c)
 | .hatv j i b c => optP (posI ids j 0) (fun k => bif hasI fix k then .hatv j i b c else .any) (.hatv j i b c)
 | .gr j i => optP (posI ids j 0) (fun _ => .any) (.gr j i)
 | .gat j i m => optP (posI ids j 0) (fun _ => .any) (.gat j i m)
 | p => p
def killMA (ids fix : List Nat) : PV → PV
 | .agg l => .agg (l.map (killM1 ids fix))
 | p => killM1 ids fix p
def killMP (ids fix : List Nat) : PV → PV
 | .tup l => .tup (l.map (killMA ids fix))
 | .agg l => .agg (l.map (killM1 ids fix))
 | p => killM1 ids fix p
theorem killMA_map (ids fix : List Nat) : killMA ids fix = mapA (killM1 ids fix) := by funext p; cases p <;> rfl
theorem killMP_map (ids fix : List Nat) (p : PV) : killMP ids fix p = mapT (killM1 ids fix) p := by cases p <;> first | rfl | simp only [killMP, mapT, killMA_map]
def killK1 (ids fix keep : List Nat) : PV → PV
 | .hp j => optP (posI ids j 0) (fun k => bif hasI keep k then .hp j else .any) (.hp j)
 | .hpv j b c => optP (posI ids j 0) (fun k => bif hasI keep k then .hpv j b c else .any) (.hpv j b c)
 | p => killM1 ids fix p
def killKA (ids fix keep : List Nat) : PV → PV
 | .agg l => .agg (l.map (killK1 ids fix keep))
 | p => killK1 ids fix keep p
def killKP (ids fix keep : List Nat) : PV → PV
 | .tup l => .tup (l.map (killKA ids fix keep))
 | .agg l => .agg (l.map (killK1 ids fix keep))
 | p => killK1 ids fix keep p
theorem killKA_map (ids fix keep : List Nat) : killKA ids fix keep = mapA (killK1 ids fix keep) := by funext p; cases p <;> rfl
theorem killKP_map (ids fix keep : List Nat) (p : PV) : killKP ids fix keep p = mapT (killK1 ids fix keep) p := by cases p <;> first | rfl | simp only [killKP, mapT, killKA_map]
def keepOk (inp out : List HO) (fix keep : List Nat) : Prop := ∀ k, hasI keep k = true → hasI fix k = true ∧ ∃ m0 s0 e0 l0 m1 s1 e1 l1, inp[k]? = some (.arr m0 s0 e0 l0) ∧ out[k]? = some (.arr m1 s1 e1 l1) ∧ l0.length = l1.length
theorem keep1 {inp out : List HO} {fix : List Nat} {k m0 s0 e0 l0 m1 s1 e1 l1} (hf : hasI fix k = true) (hi : inp[k]? = some (.arr m0 s0 e0 l0)) (ho : out[k]? = some (.arr m1 s1 e1 l1)) (hl : l0.length = l1.length) : keepOk inp out fix [k] := fun j hj => by
 have := hasI_mem hj
 rw [List.mem_singleton] at this
 subst this
 exact ⟨hf, m0, s0, e0, l0, m1, s1, e1, l1, hi, ho, hl⟩
def getI : List Nat → Nat → Nat
 | [], _ => 0
 | i :: _, 0 => i
 | _ :: is, k + 1 => getI is k
theorem getI_eq : ∀ {is : List Nat} {k j : Nat}, is[k]? = some j → getI is k = j
 | [], _, _, h => by simp at h
 | i :: is, 0, j, h => by simpa [getI] using h
 | i :: is, k + 1, j, h => by simpa [getI] using getI_eq (is := is) (by simpa using h)
def getO : List Nat → Nat → Option Nat
 | [], _ => none
 | i :: _, 0 => some i
 | _ :: is, k + 1 => getO is k
theorem getO_eq : ∀ (is : List Nat) (k : Nat), getO is k = is[k]?
 | [], _ => rfl
 | i :: is, 0 => rfl
 | i :: is, k + 1 => by rw [getO, getO_eq is k]; rfl
def backM1 (ids : List Nat) : PV → PV
 | .hp k => optP (getO ids k) .hp .any
 | .hat k i => optP (getO ids k) (.hat · i) .any
 | .hpv k _ _ => optP (getO ids k) .hp .any
 | .hatv k i _ _ => optP (getO ids k) (.hat · i) .any
 | .gr k i => optP (getO ids k) (.gr · i) .any
 | .gat k i j => optP (getO ids k) (.gat · i j) .any
 | p => p
def backMA (ids : List Nat) : PV → PV
 | .agg l => .agg (l.map (backM1 ids))
 | p => backM1 ids p
def backMP (ids : List Nat) : PV → PV
 | .tup l => .tup (l.map (backMA ids))
 | .agg l => .agg (l.map (backM1 ids))
 | p => backM1 ids p
theorem backMA_map (ids : List Nat) : backMA ids = mapA (backM1 ids) := by funext p; cases p <;> rfl
theorem backMP_map (ids : List Nat) (p : PV) : backMP ids p = mapT (backM1 ids) p := by cases p <;> first | rfl | simp only [backMP, mapT, backMA_map]
def putL : List Nat → List HO → List HO → List HO
 | i :: is, x :: xs, hp => putL is xs (hp.set i x)
 | _, _, hp => hp
theorem putL_other : ∀ {is : List Nat} {xs hp : List HO} {j : Nat}, (∀ i : Nat, is[i]? ≠ some j) → (putL is xs hp)[j]? = hp[j]?
 | [], xs, hp, j, _ => by cases xs <;> rfl
 | _ :: _, [], hp, j, _ => rfl
 | i :: is, x :: xs, hp, j, h => by
  rw [putL, putL_other (fun k => by simpa using h (k + 1)), List.getElem?_set_ne]
  have := h 0
  simpa using this
theorem putL_at : ∀ {is : List Nat} {xs hp : List HO} {k j : Nat}, apart is = true → xs.length = is.length → is[k]? = some j → j < hp.length → (putL is xs hp)[j]? = xs[k]?
 | [], _, _, k, j, _, _, h, _ => by simp at h
 | i :: is, [], _, _, _, _, h, _, _ => by simp at h
 | i :: is, x :: xs, hp, k, j, ha, hl, hk, hj => by
  rw [putL]
  have ha' := ha
  simp only [apart, Bool.and_eq_true, List.all_eq_true, Bool.not_eq_true', beq_eq_false_iff_ne] at ha'
  rcases k with _ | k
  · simp at hk
    subst hk
    rw [putL_other (fun m hm => (ha'.1 _ (List.mem_of_getElem? hm)) rfl), List.getElem?_set_self hj]
    rfl
  · rw [putL_at ha'.2 (by simpa using hl) (by simpa using hk) (by simpa using hj)]
    rfl
def inpM (ids : List Nat) (hp : List HO) : List HO := ids.map fun i => mapHO (lendM1 ids hp) (hp.getD i .gone)
def footL (inp : List HO) (ρ : Nat → Loc) (b : Nat) : Bool := (List.range inp.length).any fun i => footB (inp.getD i .gone) (ρ i) b
theorem footL_iff {inp : List HO} {ρ : Nat → Loc} {b : Nat} : footL inp ρ b = true ↔ ∃ i x, inp[i]? = some x ∧ foot x (ρ i) b := by
 unfold footL
 rw [List.any_eq_true]
 constructor
 · rintro ⟨i, hi, h⟩
   rw [List.mem_range] at hi
   refine ⟨i, inp[i], List.getElem?_eq_getElem hi, ?_⟩
   rw [List.getD_eq_getElem?_getD, List.getElem?_eq_getElem hi] at h
   exact footB_iff.1 h
 · rintro ⟨i, x, hi, h⟩
   refine ⟨i, List.mem_range.2 (List.getElem?_eq_some_iff.1 hi).1, ?_⟩
   rw [List.getD_eq_getElem?_getD, hi]
   exact footB_iff.2 h
theorem HOwn.reD {g : Ghost} {ρ : Nat → Loc} {hp : List HO} {w : World} {D D' : Nat → Bool} {ho : HO} {L : Loc} (h : HOwn g ρ hp w D ho L) (hD : ∀ b, foot ho L b → D' b = true) : HOwn g ρ hp w D' ho L := by
 cases ho with
 | gone => trivial
 | arr mt s e l => obtain ⟨cur, c, h⟩ := h; exact ⟨cur, c, { h with hB := hD _ rfl }⟩
 | box l => obtain ⟨cur, e, h⟩ := h; exact ⟨cur, e, ⟨hD _ rfl, h.hw, h.hsz, h.hv, h.hg⟩⟩
 | grid e1 e2 rows => obtain ⟨cur, rc, h⟩ := h; exact ⟨cur, rc, { h with hB := hD _ (.inl rfl), hB' := fun i hi => hD _ (.inr ⟨i, hi, rfl⟩) }⟩
 | pg e1 e2 n rows => obtain ⟨cur, rc, h⟩ := h; exact ⟨cur, rc, { h with hB := hD _ (.inl rfl), hB' := fun i hi => hD _ (.inr ⟨i, hi, rfl⟩) }⟩
 | sg e1 e2 n rows => obtain ⟨cur, rc, h⟩ := h; exact ⟨cur, rc, { h with hB := hD _ (.inl rfl), hB' := fun i hi => hD _ (.inr ⟨i, hi, rfl⟩) }⟩
 | mp k l => obtain ⟨es, cl, h⟩ := h; exact ⟨es, cl, { h with hB := hD _ h.hblk.symm }⟩
 | pin k l => obtain ⟨cur, e, h⟩ := h; exact ⟨cur, e, { h with hB := hD _ h.hblk.symm }⟩

def MCalls (P : Program) (f : FuncId) (inp : List HO) (args : List PV) (out : List HO) (fix : List Nat) (q : PV) : Prop :=
 ∀ (g : Ghost) (w : World) (ρ : Nat → Loc) (vs : List Value), Base ⟨w, g, footL inp ρ⟩ inp g ρ w → VRSl g ρ inp vs args → Calls P f vs.toArray w fun e w' =>
  ∃ v g' ρ', e = .returned v ∧ GExt g g' ∧ Base ⟨w, g, footL inp ρ⟩ out g' ρ' w' ∧ (∀ i ∈ fix, (ρ' i).blk = (ρ i).blk ∧ (ρ' i).cap = (ρ i).cap) ∧ VRS g' ρ' out v q

theorem VRSl.append {g : Ghost} {ρ : Nat → Loc} {hp : List HO} {us vs : List Value} {l m : List PV} (h : VRSl g ρ hp us l) (k : VRSl g ρ hp vs m) : VRSl g ρ hp (us ++ vs) (l ++ m) := by
 refine ⟨by simp [h.1, k.1], fun i q hq => ?_⟩
 rcases Nat.lt_or_ge i l.length with hlt | hge
 · rw [List.getElem?_append_left hlt] at hq
   have := h.2 i q hq
   simpa [List.getD_eq_getElem?_getD, List.getElem?_append_left (show i < us.length by rw [h.1]; exact hlt)] using this
 · rw [List.getElem?_append_right hge] at hq
   have := k.2 _ q hq
   simpa [List.getD_eq_getElem?_getD, List.getElem?_append_right (show us.length ≤ i by rw [h.1]; exact hge), h.1] using this
theorem VRSl.of_array {g : Ghost} {ρ : Nat → Loc} {hp : List HO} {us : Array Value} {l : List PV} (h1 : us.size = l.length) (h2 : ∀ i q, l[i]? = some q → VR g (us.getD i undef) q) : VRSl g ρ hp us.toList l := by
 have := VRl.of_array h1 h2
 exact ⟨this.1, fun i q hq => .of_VR (this.2 i q hq)⟩

section
variable {g : Ghost} {ρ : Nat → Loc} {hp : List HO} {ids : List Nat}
theorem inpM_at {k j : Nat} (hk : ids[k]? = some j) : (inpM ids hp)[k]? = some (mapHO (lendM1 ids hp) (hp.getD j .gone)) := by
 unfold inpM
 rw [List.getElem?_map, hk]; rfl
theorem inpM_arr {k j : Nat} {m : Bool} {s : Nat} {e : TypeId} {l : List PV} (hk : ids[k]? = some j) (h : (inpM ids hp)[k]? = some (.arr m s e l)) : hp[j]? = some (.arr m s e l) := by
 rw [inpM_at hk] at h
 have h := Option.some.inj h
 rw [List.getD_eq_getElem?_getD] at h
 cases hj : hp[j]? with
 | none => rw [hj] at h; cases h
 | some y =>
  rw [hj] at h
  exact mapHO_arr (x := some y) (φ := lendM1 ids hp) (congrArg some h)
theorem inpM_grid {k j : Nat} {e1 e2 : TypeId} {l : List (List PV)} (hk : ids[k]? = some j) (h : (inpM ids hp)[k]? = some (.grid e1 e2 l)) : hp[j]? = some (.grid e1 e2 l) := by
 rw [inpM_at hk] at h
 have h := Option.some.inj h
 rw [List.getD_eq_getElem?_getD] at h
 cases hj : hp[j]? with
 | none => rw [hj] at h; cases h
 | some y => rw [hj] at h; exact mapHO_grid (x := some y) (φ := lendM1 ids hp) (congrArg some h)
theorem inpM_pg {k j n : Nat} {e1 e2 : TypeId} {l : List (List PV)} (hk : ids[k]? = some j) (h : (inpM ids hp)[k]? = some (.pg e1 e2 n l)) : hp[j]? = some (.pg e1 e2 n l) := by
 rw [inpM_at hk] at h
 have h := Option.some.inj h
 rw [List.getD_eq_getElem?_getD] at h
 cases hj : hp[j]? with
 | none => rw [hj] at h; cases h
 | some y => rw [hj] at h; exact mapHO_pg (x := some y) (φ := lendM1 ids hp) (congrArg some h)
theorem inpM_sg {k j n : Nat} {e1 e2 : TypeId} {l : List (List PV)} (hk : ids[k]? = some j) (h : (inpM ids hp)[k]? = some (.sg e1 e2 n l)) : hp[j]? = some (.sg e1 e2 n l) := by
 rw [inpM_at hk] at h
 have h := Option.some.inj h
 rw [List.getD_eq_getElem?_getD] at h
 cases hj : hp[j]? with
 | none => rw [hj] at h; cases h
 | some y => rw [hj] at h; exact mapHO_sg (x := some y) (φ := lendM1 ids hp) (congrArg some h)
theorem inpM_box {k j : Nat} {l : List PV} (hk : ids[k]? = some j) (h : (inpM ids hp)[k]? = some (.box l)) : ∃ l0 : List PV, hp[j]? = some (.box l0) ∧ l0.length = l.length := by
 rw [inpM_at hk, List.getD_eq_getElem?_getD] at h
 cases hj : hp[j]? with
 | none => rw [hj] at h; cases h
 | some y => rw [hj] at h; exact mapHO_box (x := some y) (φ := lendM1 ids hp) (congrArg some (Option.some.inj h))
theorem VRS1.lendM {w0 : Ini} {w : World} (hb : Base w0 hp g ρ w) {v : Value} {p : PV} (h : VRS1 g ρ hp v p) : VRS1 g (fun k => ρ (getI ids k)) (inpM ids hp) v (lendM1 ids hp p) := by
 have keyH : ∀ {j k : Nat}, ids[k]? = some j → HpV ρ hp v j → HpV (fun k => ρ (getI ids k)) (inpM ids hp) v k := fun {j k} e h =>
  { sl := h.sl
    arr := fun m s e' l hh => by show v = .slice (some ⟨(ρ (getI ids k)).blk, 0, none⟩) _ _; rw [getI_eq e]; exact h.arr _ _ _ _ (inpM_arr e hh)
    grid := fun e1 e2 rows hh => by show v = .slice (some ⟨(ρ (getI ids k)).blk, 0, none⟩) _ _; rw [getI_eq e]; exact h.grid _ _ _ (inpM_grid e hh)
    sg := fun e1 e2 n rows hh => by show v = .slice (some ⟨(ρ (getI ids k)).blk, 0, none⟩) _ _; rw [getI_eq e]; exact h.sg _ _ _ _ (inpM_sg e hh)
    pg := fun e1 e2 n rows hh => by show v = .slice (some ⟨(ρ (getI ids k)).blk, 0, none⟩) _ _; rw [getI_eq e]; exact h.pg _ _ _ _ (inpM_pg e hh)
    box := fun l hh => by show v = .slice (some ⟨(ρ (getI ids k)).blk, 0, none⟩) _ (ρ (getI ids k)).cap ∧ _ ≤ (ρ (getI ids k)).cap ∧ (ρ (getI ids k)).cap ≤ maxLen; rw [getI_eq e]; obtain ⟨l0, h0, hl⟩ := inpM_box e hh; rw [← hl]; exact h.box _ h0 }
 have pos : ∀ {j m : Nat}, posI ids j 0 = some m → ids[m]? = some j := fun {j m} e => by
  obtain ⟨i, rfl, h2⟩ := posI_some e
  rwa [Nat.zero_add]
 cases p with
 | hp j =>
  simp only [lendM1]
  cases e : posI ids j 0 with
  | none => exact .of_VR (hb.view1 (p := .hp j) h)
  | some k => exact keyH (pos e) h
 | hpv j b c =>
  simp only [lendM1]
  cases e : posI ids j 0 with
  | none => exact VR.any v
  | some k => exact keyH (pos e) h.1
 | hat j i =>
  simp only [lendM1]
  cases e : posI ids j 0 with
  | none => exact VR.any v
  | some k => show v = .pointer (some ⟨(ρ (getI ids k)).blk, i, none⟩); rw [getI_eq (pos e)]; exact h
 | hatv j i b c =>
  simp only [lendM1]
  cases e : posI ids j 0 with
  | none => exact VR.any v
  | some k => show v = .pointer (some ⟨(ρ (getI ids k)).blk, i, none⟩); rw [getI_eq (pos e)]; exact h.1
 | gr _ _ => exact VR.any v
 | gat _ _ _ => exact VR.any v
 | _ => exact h
end

section
variable {P : Program} {o : Oper} {S : St}
theorem e_callMK {x : Operand} {xs : Array Operand} {tys : Array TypeId} {f : FuncId} [hf : FnT P f] {first caps args : List PV} {ids fix keep : List Nat} {inp out : List HO} {q : PV} (hop : o.op = .call { callee := .value x, args := xs, argTypes := tys }) (h1 : ∀ w0 g ρ a w, Rel w0 S g ρ a w → ∃ fs cs, a.eval x = .func (.func f) fs cs ∧ VRSl g (fun k => ρ (getI ids k)) (inpM ids S.hp) fs.toList first ∧ VRSl g (fun k => ρ (getI ids k)) (inpM ids S.hp) cs.toList caps)
 (hap : apart ids = true) (hlt : ids.all (fun i => Nat.blt i S.hp.length) = true) (hin : inpM ids S.hp = inp)
 (h2 : argsLS (first ++ (xs.toList.map fun y => lendMP ids S.hp (S.ev y)) ++ caps) args) (hlen : out.length = ids.length) (hc : MCalls P f inp args out fix q) (hkeep : keepOk inp out fix keep) :
 EStep P o S (St.put ⟨S.fr.map (killKP ids fix keep), putL ids (out.map (mapHO (backM1 ids))) (S.hp.map (mapHO (killK1 ids fix keep)))⟩ o.dst (backMP ids q)) := by
 subst hin
 intro w0 g ρ a w hr Q K hK
 have hb := hr.base
 obtain ⟨fs, cs, ea, v1, v2⟩ := h1 w0 g ρ a w hr
 unfold Oper.wp
 rw [run_call hop ea]
 have hltI : ∀ {k j : Nat}, ids[k]? = some j → j < S.hp.length := fun {k j} h => by
  have := List.all_eq_true.1 hlt j (List.mem_of_getElem? h)
  exact Nat.le_of_ble_eq_true this
 have hargs : VRSl g (fun k => ρ (getI ids k)) (inpM ids S.hp) (fs ++ xs.map a.eval ++ cs).toList args := by
  refine VRSl.le h2 ?_
  rw [Array.toList_append, Array.toList_append]
  refine VRSl.append (VRSl.append v1 ?_) v2
  refine ⟨by simp, fun i q hq => ?_⟩
  simp only [List.getElem?_map, Option.map_eq_some_iff, Array.getElem?_toList] at hq
  obtain ⟨y, hy, rfl⟩ := hq
  have : (xs.map a.eval).toList.getD i undef = a.eval y := by simp [List.getD_eq_getElem?_getD, hy]
  rw [this, lendMP_map]
  exact (hr.ev y).map fun v p h => VRS1.lendM hb h
 -- the objects lent, as the call has them
 have obj : ∀ {k : Nat} {y : HO}, (inpM ids S.hp)[k]? = some y → ∃ j y0, ids[k]? = some j ∧ S.hp[j]? = some y0 ∧ y = mapHO (lendM1 ids S.hp) y0 := fun {k y} h => by
  unfold inpM at h
  rw [List.getElem?_map, Option.map_eq_some_iff] at h
  obtain ⟨j, hj, rfl⟩ := h
  refine ⟨j, S.hp[j]'(hltI hj), hj, List.getElem?_eq_getElem (hltI hj), ?_⟩
  rw [List.getD_eq_getElem?_getD, List.getElem?_eq_getElem (hltI hj)]; rfl
 have hstart : Base ⟨w, g, footL (inpM ids S.hp) (fun k => ρ (getI ids k))⟩ (inpM ids S.hp) g (fun k => ρ (getI ids k)) w := by
  refine ⟨BelowL.refl _, hb.agree, fun _ _ _ => rfl, fun k y hy => ?_, fun i k y z b hik hy hz fy fz => ?_⟩
  · obtain ⟨j, y0, hj, hy0, rfl⟩ := obj hy
    have := (hb.own j y0 hy0).keep (GExt.refl g) (lendM1 ids S.hp) (fun v p h => VRS1.lendM hb h) (fun b _ => ⟨rfl, fun _ => rfl⟩)
    show HOwn g _ _ w _ _ (ρ (getI ids k))
    rw [getI_eq hj]
    refine this.reD fun b hfb => Ini.own_lent (footL_iff.2 ⟨k, _, hy, ?_⟩)
    show foot _ (ρ (getI ids k)) b
    rw [getI_eq hj]; exact hfb
  · obtain ⟨j, y0, hj, hy0, rfl⟩ := obj hy
    obtain ⟨j', z0, hj', hz0, rfl⟩ := obj hz
    simp only [getI_eq hj] at fy
    simp only [getI_eq hj'] at fz
    rw [foot_map] at fy fz
    exact hb.sep j j' y0 z0 b (fun e => hik (apart_inj hap hj (e ▸ hj'))) hy0 hz0 fy fz
 have := hc g w (fun k => ρ (getI ids k)) _ hstart hargs
 rw [Array.toArray_toList] at this
 refine this.mono fun e w' h => ?_
 obtain ⟨v, g', ρ', rfl, hx, hB, hfix, hv⟩ := h
 -- whose blocks
 have hown : ∀ b, Ini.own ⟨w, g, footL (inpM ids S.hp) (fun k => ρ (getI ids k))⟩ b = true → (∃ k j y, ids[k]? = some j ∧ S.hp[j]? = some y ∧ foot y (ρ j) b) ∨ w.heap.size ≤ b := fun b hb' => by
  unfold Ini.own at hb'
  rw [Bool.or_eq_true] at hb'
  rcases hb' with h | h
  · right; simpa using h
  · left
    obtain ⟨k, y, hy, hfy⟩ := footL_iff.1 h
    obtain ⟨j, y0, hj, hy0, rfl⟩ := obj hy
    refine ⟨k, j, y0, hj, hy0, ?_⟩
    rw [foot_map] at hfy
    simpa only [getI_eq hj] using hfy
 have hto : ∀ b, Ini.own ⟨w, g, footL (inpM ids S.hp) (fun k => ρ (getI ids k))⟩ b = true → w0.own b = true := fun b hb' => by
  rcases hown b hb' with ⟨k, j, y, -, hy, hfy⟩ | h
  · exact ((hb.own j y hy).foot_lt hfy).1
  · exact Ini.own_new (Nat.le_trans hb.below.size h)
 have hnot : ∀ b, ¬ w0.own b = true → ¬ Ini.own ⟨w, g, footL (inpM ids S.hp) (fun k => ρ (getI ids k))⟩ b = true := fun b hb' hb2 => hb' (hto b hb2)
 have hother : ∀ {j : Nat} {y : HO} {b : Nat}, (∀ k : Nat, ids[k]? ≠ some j) → S.hp[j]? = some y → foot y (ρ j) b → b < w.heap.size ∧ ¬ Ini.own ⟨w, g, footL (inpM ids S.hp) (fun k => ρ (getI ids k))⟩ b = true := fun {j y b} hj hy hfy => by
  have hlt := ((hb.own j y hy).foot_lt hfy).2
  refine ⟨hlt, fun ho => ?_⟩
  rcases hown b ho with ⟨k, j', y', hk, hy', hfy'⟩ | h
  · exact hb.sep j j' y y' b (fun e => hj k (e ▸ hk)) hy hy' hfy hfy'
  · omega
 let ρ2 : Nat → Loc := fun i => match posI ids i 0 with | some k => ρ' k | none => ρ i
 have ρ2_at : ∀ {k j : Nat}, ids[k]? = some j → ρ2 j = ρ' k := fun {k j} h => by show (match posI ids j 0 with | some k => ρ' k | none => ρ j) = _; rw [posI_at hap h]
 have ρ2_other : ∀ {j : Nat}, posI ids j 0 = none → ρ2 j = ρ j := fun {j} h => by show (match posI ids j 0 with | some k => ρ' k | none => ρ j) = _; rw [h]
 let hp2 := putL ids (out.map (mapHO (backM1 ids))) (S.hp.map (mapHO (killK1 ids fix keep)))
 have hp2_at : ∀ {k j : Nat}, ids[k]? = some j → hp2[j]? = (out[k]?).map (mapHO (backM1 ids)) := fun {k j} h => by
  show (putL ids _ _)[j]? = _
  rw [putL_at hap (by rw [List.length_map, hlen]) h (by rw [List.length_map]; exact hltI h), List.getElem?_map]
 have hp2_other : ∀ {j : Nat}, posI ids j 0 = none → hp2[j]? = (S.hp[j]?).map (mapHO (killK1 ids fix keep)) := fun {j} h => by
  show (putL ids _ _)[j]? = _
  rw [putL_other (posI_none h), List.getElem?_map]
 have pos : ∀ {j m : Nat}, posI ids j 0 = some m → ids[m]? = some j := fun {j m} e => by
  obtain ⟨i, rfl, h2⟩ := posI_some e
  rwa [Nat.zero_add]
 have hkill : ∀ v p, VRS1 g ρ S.hp v p → VRS1 g' ρ2 hp2 v (killK1 ids fix keep p) := fun v p h => by
  have keyH : ∀ {j : Nat}, posI ids j 0 = none → HpV ρ S.hp v j → HpV ρ2 hp2 v j := fun {j} e h =>
   { sl := h.sl
     arr := fun m s e' l hh => by rw [ρ2_other e]; rw [hp2_other e] at hh; exact h.arr _ _ _ _ (mapHO_arr hh)
     grid := fun e1 e2 rows hh => by rw [ρ2_other e]; rw [hp2_other e] at hh; exact h.grid _ _ _ (mapHO_grid hh)
     sg := fun e1 e2 n rows hh => by rw [ρ2_other e]; rw [hp2_other e] at hh; exact h.sg _ _ _ _ (mapHO_sg hh)
     pg := fun e1 e2 n rows hh => by rw [ρ2_other e]; rw [hp2_other e] at hh; exact h.pg _ _ _ _ (mapHO_pg hh)
     box := fun l hh => by rw [ρ2_other e]; rw [hp2_other e] at hh; obtain ⟨l0, h0, hl⟩ := mapHO_box hh; rw [← hl]; exact h.box _ h0 }
  have fixed : ∀ {j k : Nat}, posI ids j 0 = some k → hasI fix k = true → (ρ2 j).blk = (ρ j).blk ∧ (ρ2 j).cap = (ρ j).cap := fun {j k} e hf => by
   rw [ρ2_at (pos e)]
   have := hfix k (hasI_mem hf)
   simpa only [getI_eq (pos e)] using this
  have keyK : ∀ {j k : Nat}, posI ids j 0 = some k → hasI keep k = true → HpV ρ S.hp v j → HpV ρ2 hp2 v j := fun {j k} e hf h => by
   obtain ⟨h1, m0, s0, e0, l0, m1, s1, e1, l1, hi, ho, hl⟩ := hkeep k hf
   have hb0 := inpM_arr (pos e) hi
   have hb1 : hp2[j]? = some (.arr m1 s1 e1 l1) := by rw [hp2_at (pos e), ho]; rfl
   have hx := fixed e h1
   refine { sl := h.sl, arr := fun m s e' l hh => ?_, grid := fun e1 e2 rows hh => ?_, sg := fun e1 e2 n rows hh => ?_, pg := fun e1 e2 n rows hh => ?_, box := fun l hh => ?_ }
   · rw [hb1] at hh
     cases hh
     rw [hx.1, hx.2, ← hl]
     exact h.arr _ _ _ _ hb0
   all_goals (rw [hb1] at hh; cases hh)
  cases p with
  | hp j =>
   simp only [killK1]
   cases e : posI ids j 0 with
   | none => exact keyH e h
   | some k =>
    show VRS1 g' ρ2 hp2 v (bif hasI keep k then _ else _)
    cases hf : hasI keep k with
    | false => exact VR.any v
    | true => exact keyK e hf h
  | hpv j b c =>
   simp only [killK1]
   cases e : posI ids j 0 with
   | none => exact ⟨keyH e h.1, by rw [ρ2_other e]; exact h.2⟩
   | some k =>
    show VRS1 g' ρ2 hp2 v (bif hasI keep k then _ else _)
    cases hf : hasI keep k with
    | false => exact VR.any v
    | true =>
     have hx := fixed e (hkeep k hf).1
     exact ⟨keyK e hf h.1, by rw [hx.1, hx.2]; exact h.2⟩
  | hat j i =>
   simp only [killK1, killM1]
   cases e : posI ids j 0 with
   | none => show v = _; rw [ρ2_other e]; exact h
   | some k =>
    show VRS1 g' ρ2 hp2 v (bif hasI fix k then _ else _)
    cases hf : hasI fix k with
    | false => exact VR.any v
    | true => show v = _; rw [(fixed e hf).1]; exact h
  | hatv j i b c =>
   simp only [killK1, killM1]
   cases e : posI ids j 0 with
   | none => show v = _ ∧ _; rw [ρ2_other e]; exact h
   | some k =>
    show VRS1 g' ρ2 hp2 v (bif hasI fix k then _ else _)
    cases hf : hasI fix k with
    | false => exact VR.any v
    | true => show v = _ ∧ _; rw [(fixed e hf).1, (fixed e hf).2]; exact h
  | gr j i =>
   simp only [killK1, killM1]
   cases e : posI ids j 0 with
   | none =>
    refine (⟨GrV.sl h, fun e1 e2 rows r hj hr => ?_, fun e1 e2 _n rows r hj hr => ?_⟩ : GrV _ _ _ _ _)
    rotate_left
    · rw [hp2_other e] at hj
      rw [ρ2_other e]; exact GrV.sg h _ _ _ _ _ (mapHO_sg hj) hr
    rw [hp2_other e] at hj
    rw [ρ2_other e]; exact GrV.grid h _ _ _ _ (mapHO_grid hj) hr
   | some k => exact .any v
  | gat j i m =>
   simp only [killK1, killM1]
   cases e : posI ids j 0 with
   | none => show v = _; rw [ρ2_other e]; exact h
   | some k => exact .any v
  | _ => exact VR.mono hx h
 have hback : ∀ v p, VRS1 g' ρ' out v p → VRS1 g' ρ2 hp2 v (backM1 ids p) := fun v p h => by
  have keyH : ∀ {k j : Nat}, ids[k]? = some j → HpV ρ' out v k → HpV ρ2 hp2 v j := fun {k j} hj h =>
   { sl := h.sl
     arr := fun m s e' l hh => by rw [ρ2_at hj]; rw [hp2_at hj] at hh; exact h.arr _ _ _ _ (mapHO_arr hh)
     grid := fun e1 e2 rows hh => by rw [ρ2_at hj]; rw [hp2_at hj] at hh; exact h.grid _ _ _ (mapHO_grid hh)
     sg := fun e1 e2 n rows hh => by rw [ρ2_at hj]; rw [hp2_at hj] at hh; exact h.sg _ _ _ _ (mapHO_sg hh)
     pg := fun e1 e2 n rows hh => by rw [ρ2_at hj]; rw [hp2_at hj] at hh; exact h.pg _ _ _ _ (mapHO_pg hh)
     box := fun l hh => by rw [ρ2_at hj]; rw [hp2_at hj] at hh; obtain ⟨l0, h0, hl⟩ := mapHO_box hh; rw [← hl]; exact h.box _ h0 }
  cases p with
  | hp k =>
   simp only [backM1, getO_eq]
   cases e : ids[k]? with
   | none => exact .any v
   | some j => exact keyH e h
  | hpv k b c =>
   simp only [backM1, getO_eq]
   cases e : ids[k]? with
   | none => exact .any v
   | some j => exact keyH e h.1
  | hat k i =>
   simp only [backM1, getO_eq]
   cases e : ids[k]? with
   | none => exact VR.any v
   | some j => show v = .pointer (some ⟨(ρ2 j).blk, i, none⟩); rw [ρ2_at e]; exact h
  | hatv k i b c =>
   simp only [backM1, getO_eq]
   cases e : ids[k]? with
   | none => exact VR.any v
   | some j => show v = .pointer (some ⟨(ρ2 j).blk, i, none⟩); rw [ρ2_at e]; exact h.1
  | gr k i =>
   simp only [backM1, getO_eq]
   cases e : ids[k]? with
   | none => exact .any v
   | some j =>
    refine (⟨GrV.sl h, fun e1 e2 rows r hj hr => ?_, fun e1 e2 _n rows r hj hr => ?_⟩ : GrV _ _ _ _ _)
    rotate_left
    · rw [hp2_at e] at hj
      rw [ρ2_at e]; exact GrV.sg h _ _ _ _ _ (mapHO_sg hj) hr
    rw [hp2_at e] at hj
    rw [ρ2_at e]; exact GrV.grid h _ _ _ _ (mapHO_grid hj) hr
  | gat k i m =>
   simp only [backM1, getO_eq]
   cases e : ids[k]? with
   | none => exact VR.any v
   | some j => show v = .pointer (some ⟨(ρ2 j).rows i, m, none⟩); rw [ρ2_at e]; exact h
  | _ => exact h
 have cases2 : ∀ {j : Nat} {y : HO}, hp2[j]? = some y → (posI ids j 0 = none ∧ ∃ y0, S.hp[j]? = some y0 ∧ y = mapHO (killK1 ids fix keep) y0) ∨ ∃ (k : Nat) (y0 : HO), ids[k]? = some j ∧ out[k]? = some y0 ∧ y = mapHO (backM1 ids) y0 := fun {j y} h => by
  cases e : posI ids j 0 with
  | none =>
   rw [hp2_other e, Option.map_eq_some_iff] at h
   obtain ⟨y0, h0, rfl⟩ := h
   exact .inl ⟨rfl, y0, h0, rfl⟩
  | some k =>
   rw [hp2_at (pos e), Option.map_eq_some_iff] at h
   obtain ⟨y0, h0, rfl⟩ := h
   exact .inr ⟨k, y0, pos e, h0, rfl⟩
 have hbase : Base w0 hp2 g' ρ2 w' := by
  have hbl := hB.below
  refine ⟨⟨hbl.os.trans hb.below.os, hbl.tape.trans hb.below.tape, hbl.output.trans hb.below.output, Nat.le_trans hb.below.size hbl.size, fun k hk => (hbl.block k (hnot k hk)).trans (hb.below.block k hk)⟩, hB.agree, fun b o hb' => (hB.old b o (hnot b hb')).trans (hb.old b o hb'), fun j y hy => ?_, fun i j y z b hij hy hz fy fz => ?_⟩
  · rcases cases2 hy with ⟨e, y0, h0, rfl⟩ | ⟨k, y0, hk, h0, rfl⟩
    · rw [ρ2_other e]
      exact (hb.own j y0 h0).keep hx _ hkill fun b hfb => by
       obtain ⟨k1, k2⟩ := hother (posI_none e) h0 hfb
       exact ⟨hbl.block b k2, fun o => hB.old b o k2⟩
    · rw [ρ2_at hk]
      refine ((hB.own k y0 h0).keep (GExt.refl g') _ hback (fun b _ => ⟨rfl, fun _ => rfl⟩)).reD fun b hfb => ?_
      rw [foot_map] at hfb
      exact hto b ((hB.own k y0 h0).foot_lt hfb).1
  · rcases cases2 hy with ⟨e, y0, h0, rfl⟩ | ⟨k, y0, hk, h0, rfl⟩
    · rw [ρ2_other e, foot_map] at fy
      rcases cases2 hz with ⟨e', z0, h0', rfl⟩ | ⟨k', z0, hk', h0', rfl⟩
      · rw [ρ2_other e', foot_map] at fz
        exact hb.sep i j y0 z0 b hij h0 h0' fy fz
      · rw [ρ2_at hk', foot_map] at fz
        exact (hother (posI_none e) h0 fy).2 ((hB.own k' z0 h0').foot_lt fz).1
    · rw [ρ2_at hk, foot_map] at fy
      rcases cases2 hz with ⟨e', z0, h0', rfl⟩ | ⟨k', z0, hk', h0', rfl⟩
      · rw [ρ2_other e', foot_map] at fz
        exact (hother (posI_none e') h0' fz).2 ((hB.own k y0 h0).foot_lt fy).1
      · rw [ρ2_at hk', foot_map] at fz
        exact hB.sep k k' y0 z0 b (fun e => hij (by rw [e, hk'] at hk; exact (Option.some.inj hk).symm)) h0 h0' fy fz
 have hrel : Rel w0 ⟨S.fr.map (killKP ids fix keep), hp2⟩ g' ρ2 a w' := ⟨hbase, hr.dead, by simp [hr.size], fun i p hp => by
  simp only [List.getElem?_map, Option.map_eq_some_iff] at hp
  obtain ⟨p, hp, rfl⟩ := hp
  rw [killKP_map]
  exact (hr.fr i p hp).map hkill⟩
 refine hK g' _ _ w' hx (hrel.put hbase (GExt.refl g') ?_ o.dst)
 rw [backMP_map]
 exact hv.map hback
theorem killK_nil (ids fix : List Nat) : killK1 ids fix [] = killM1 ids fix := by
 funext p
 cases p <;> rfl
theorem killKP_nil (ids fix : List Nat) : killKP ids fix [] = killMP ids fix := by
 funext p
 rw [killKP_map, killMP_map, killK_nil]
theorem e_callMG {x : Operand} {xs : Array Operand} {tys : Array TypeId} {f : FuncId} [hf : FnT P f] {first caps args : List PV} {ids fix : List Nat} {inp out : List HO} {q : PV} (hop : o.op = .call { callee := .value x, args := xs, argTypes := tys }) (h1 : ∀ w0 g ρ a w, Rel w0 S g ρ a w → ∃ fs cs, a.eval x = .func (.func f) fs cs ∧ VRSl g (fun k => ρ (getI ids k)) (inpM ids S.hp) fs.toList first ∧ VRSl g (fun k => ρ (getI ids k)) (inpM ids S.hp) cs.toList caps)
 (hap : apart ids = true) (hlt : ids.all (fun i => Nat.blt i S.hp.length) = true) (hin : inpM ids S.hp = inp)
 (h2 : argsLS (first ++ (xs.toList.map fun y => lendMP ids S.hp (S.ev y)) ++ caps) args) (hlen : out.length = ids.length) (hc : MCalls P f inp args out fix q) :
 EStep P o S (St.put ⟨S.fr.map (killMP ids fix), putL ids (out.map (mapHO (backM1 ids))) (S.hp.map (mapHO (killM1 ids fix)))⟩ o.dst (backMP ids q)) := by
 have := e_callMK (keep := []) hop h1 hap hlt hin h2 hlen hc (fun k h => by cases h)
 rwa [killKP_nil, killK_nil] at this
theorem fn_parts {x : Operand} {f : FuncId} {first caps : List PV} {ids : List Nat} (h1 : S.ev x = .fn f first caps) : ∀ w0 g ρ a w, Rel w0 S g ρ a w → ∃ fs cs, a.eval x = .func (.func f) fs cs ∧ VRSl g (fun k => ρ (getI ids k)) (inpM ids S.hp) fs.toList first ∧ VRSl g (fun k => ρ (getI ids k)) (inpM ids S.hp) cs.toList caps := fun w0 g ρ a w hr => by
 have e1 := hr.ev x
 rw [h1] at e1
 obtain ⟨fs, cs, ea, l1, l2, v1, v2⟩ := VR.fn_inv e1
 exact ⟨fs, cs, ea, VRSl.of_array l1 v1, VRSl.of_array l2 v2⟩
theorem e_callM {x : Operand} {xs : Array Operand} {tys : Array TypeId} {f : FuncId} [hf : FnT P f] {first caps args : List PV} {ids fix : List Nat} {inp out : List HO} {q : PV} (hop : o.op = .call { callee := .value x, args := xs, argTypes := tys }) (h1 : S.ev x = .fn f first caps)
 (hap : apart ids = true) (hlt : ids.all (fun i => Nat.blt i S.hp.length) = true) (hin : inpM ids S.hp = inp)
 (h2 : argsLS (first ++ (xs.toList.map fun y => lendMP ids S.hp (S.ev y)) ++ caps) args) (hlen : out.length = ids.length) (hc : MCalls P f inp args out fix q) :
 EStep P o S (St.put ⟨S.fr.map (killMP ids fix), putL ids (out.map (mapHO (backM1 ids))) (S.hp.map (mapHO (killM1 ids fix)))⟩ o.dst (backMP ids q)) :=
 e_callMG hop (fn_parts h1) hap hlt hin h2 hlen hc
theorem e_callMF {x : Operand} {xs : Array Operand} {tys : Array TypeId} {f : FuncId} [hf : FnT P f] {first caps args : List PV} {ids fix : List Nat} (keep : List Nat) {inp out : List HO} {q : PV} (hop : o.op = .call { callee := .value x, args := xs, argTypes := tys }) (h1 : S.ev x = .fn f first caps)
 (hap : apart ids = true) (hlt : ids.all (fun i => Nat.blt i S.hp.length) = true) (hin : inpM ids S.hp = inp)
 (h2 : argsLS (first ++ (xs.toList.map fun y => lendMP ids S.hp (S.ev y)) ++ caps) args) (hlen : out.length = ids.length) (hc : MCalls P f inp args out fix q) (hkeep : keepOk inp out fix keep) :
 EStep P o S (St.put ⟨S.fr.map (killKP ids fix keep), putL ids (out.map (mapHO (backM1 ids))) (S.hp.map (mapHO (killK1 ids fix keep)))⟩ o.dst (backMP ids q)) :=
 e_callMK hop (fn_parts h1) hap hlt hin h2 hlen hc hkeep
end

/-! ### The end of such a call -/
def pinM1 (fix : List Nat) (bd : Nat → Nat × Nat) : PV → PV
 | .hat j i => bif hasI fix j then .hatv j i (bd j).1 (bd j).2 else .hat j i
 | .hp j => bif hasI fix j then .hpv j (bd j).1 (bd j).2 else .hp j
 | p => p
def pinMA (fix : List Nat) (bd : Nat → Nat × Nat) : PV → PV
 | .agg l => .agg (l.map (pinM1 fix bd))
 | p => pinM1 fix bd p
def pinMP (fix : List Nat) (bd : Nat → Nat × Nat) : PV → PV
 | .tup l => .tup (l.map (pinMA fix bd))
 | .agg l => .agg (l.map (pinM1 fix bd))
 | p => pinM1 fix bd p
theorem pinMA_map (fix : List Nat) (bd : Nat → Nat × Nat) : pinMA fix bd = mapA (pinM1 fix bd) := by funext p; cases p <;> rfl
theorem pinMP_map (fix : List Nat) (bd : Nat → Nat × Nat) (p : PV) : pinMP fix bd p = mapT (pinM1 fix bd) p := by cases p <;> first | rfl | simp only [pinMP, mapT, pinMA_map]
def hatOf (o : Nat) : PV → PV
 | .hpv i b c => .hatv i o b c
 | p => p
def StayM (S : St) (bd : Nat → Nat × Nat) : List Nat → Prop
 | [] => True
 | i :: is => (∃ j o, hatOf o (S.ev (.tmp j)) = .hatv i o (bd i).1 (bd i).2) ∧ StayM S bd is
theorem StayM.spec {S : St} {bd : Nat → Nat × Nat} : ∀ {is : List Nat}, StayM S bd is → ∀ i ∈ is, ∃ j o, S.ev (.tmp j) = .hatv i o (bd i).1 (bd i).2 ∨ S.ev (.tmp j) = .hpv i (bd i).1 (bd i).2
 | [], _, i, hi => by simp at hi
 | k :: is, h, i, hi => by
  rcases List.mem_cons.1 hi with rfl | hi
  · obtain ⟨j, o, hj⟩ := h.1
    refine ⟨j, o, ?_⟩
    cases e : S.ev (.tmp j) <;> rw [e] at hj <;> cases hj
    · exact .inr rfl
    · exact .inl rfl
  · exact StayM.spec h.2 i hi
def mutHO : HO → Bool
 | .arr mt _ _ _ => mt
 | _ => true
theorem HOwn.none {g : Ghost} {ρ : Nat → Loc} {hp : List HO} {w : World} {D : Nat → Bool} {ho : HO} {L : Loc} (h : HOwn g ρ hp w D ho L) (hm : mutHO ho = true) {b : Nat} (hf : foot ho L b) (o : Nat) : g b o = none := by
 cases ho with
 | gone => exact hf.elim
 | arr mt s e l =>
  have hm : mt = true := hm
  subst hm
  obtain ⟨cur, c, h⟩ := h
  have hf : b = L.blk := hf
  rw [hf, h.hg o]; simp
 | box l =>
  obtain ⟨cur, e, h⟩ := h
  have hf : b = L.blk := hf
  rw [hf]; exact h.hg o
 | grid e1 e2 rows =>
  obtain ⟨cur, rc, h⟩ := h
  rcases hf with rfl | ⟨i, hi, rfl⟩
  · exact h.hg o
  · exact h.hg' i o hi
 | pg e1 e2 n rows =>
  obtain ⟨cur, rc, h⟩ := h
  rcases hf with rfl | ⟨i, hi, rfl⟩
  · exact h.hg o
  · exact h.hg' i o hi
 | sg e1 e2 n rows =>
  obtain ⟨cur, rc, h⟩ := h
  rcases hf with rfl | ⟨i, hi, rfl⟩
  · exact h.hg o
  · exact h.hg' i o hi
 | mp k l =>
  obtain ⟨es, cl, h⟩ := h
  have hf : b = L.blk := hf
  rw [hf, h.hblk]; exact h.hg o
 | pin k l =>
  obtain ⟨cur, e, h⟩ := h
  have hf : b = L.blk := hf
  rw [hf, h.hblk]; exact h.hg o
def Turns (S S' : St) : Prop := ∀ w0 g ρ a w, Rel w0 S g ρ a w → ∃ ρ', Rel w0 S' g ρ' a w
theorem Turns.refl (S : St) : Turns S S := fun _ _ ρ _ _ h => ⟨ρ, h⟩
theorem Turns.trans {S S' S2 : St} (h : Turns S S') (k : Turns S' S2) : Turns S S2 := fun w0 g ρ a w hr => (h w0 g ρ a w hr).elim fun ρ' hr' => k w0 g ρ' a w hr'
theorem pcallsM_gen {P : Program} {f : FuncId} {fn : Func} {c : Code} {n : Nat} {inp out : List HO} {fix : List Nat} {args : List PV} {q : PV} (KE : St → Prop)
 (hres : ∀ (S : St) (w0 : Ini) (g : Ghost) (ρ : Nat → Loc) (a : Act) (w : World), KE S → Rel w0 S g ρ a w → ∃ v, (results fn a.tmps).run P w = .ok v w ∧ VRS g ρ S.hp v q)
 (hf : P.funcs[f]? = some fn) (hb : fn.body = some c) (hn : fn.ntmps = n) (hmt : inp.all mutHO = true)
 (h : ∀ bd : Nat → Nat × Nat, Goal P c (fun e S0 => (e = .normal ∨ e = .ret) ∧ ∃ S, Turns S0 S ∧ hpLe S.hp out ∧ StayM S bd fix ∧ KE S) ⟨args.map (pinMP fix bd) ++ List.replicate (n - args.length) (.val undef), inp⟩) : MCalls P f inp args out fix q := by
 intro g w ρ vs hstart hv
 refine calls_of_wp hf hb ?_
 subst hn
 let bd : Nat → Nat × Nat := fun i => ((ρ i).blk, (ρ i).cap)
 have hpin : ∀ v p, VRS1 g ρ inp v p → VRS1 g ρ inp v (pinM1 fix bd p) := fun v p h => by
  cases p with
  | hat j i =>
   simp only [pinM1]
   cases hasI fix j with
   | false => exact h
   | true => exact ⟨h, rfl, rfl⟩
  | hp j =>
   simp only [pinM1]
   cases hasI fix j with
   | false => exact h
   | true => exact ⟨h, rfl, rfl⟩
  | _ => exact h
 have hrel : Rel ⟨w, g, footL inp ρ⟩ ⟨args.map (pinMP fix bd) ++ List.replicate (fn.ntmps - args.length) (.val undef), inp⟩ g ρ { tmps := vs.toArray ++ Array.replicate (fn.ntmps - vs.toArray.size) undef, defers := [] } w := by
  refine ⟨hstart, rfl, by simp [hv.1], fun i p hp => ?_⟩
  rcases Nat.lt_or_ge i args.length with hlt | hge
  · rw [List.getElem?_append_left (by simpa using hlt), List.getElem?_map, Option.map_eq_some_iff] at hp
    obtain ⟨p, hp, rfl⟩ := hp
    have := hv.2 i p hp
    have hlt' : i < vs.length := by rw [hv.1]; exact hlt
    have e : (vs.toArray ++ Array.replicate (fn.ntmps - vs.toArray.size) undef).getD i undef = vs.getD i undef := by
     simp [Array.getD_eq_getD_getElem?, Array.getElem?_append, List.getD_eq_getElem?_getD, hlt']
    show VRS g ρ inp ((vs.toArray ++ Array.replicate (fn.ntmps - vs.toArray.size) undef).getD i undef) _
    rw [e, pinMP_map]
    exact this.map hpin
  · rw [List.getElem?_append_right (by simpa using hge), List.getElem?_replicate] at hp
    split at hp
    · rename_i h'
      simp only [Option.some.injEq] at hp
      subst hp
      simp only [List.length_map] at h'
      have hge' : ¬ i < vs.length := by rw [hv.1]; omega
      have hlt2 : i - vs.length < fn.ntmps - vs.length := by rw [hv.1]; exact h'
      have e : (vs.toArray ++ Array.replicate (fn.ntmps - vs.toArray.size) undef).getD i undef = undef := by
       simp [Array.getD_eq_getD_getElem?, Array.getElem?_append, hge', hlt2]
      show VRS g ρ inp ((vs.toArray ++ Array.replicate (fn.ntmps - vs.toArray.size) undef).getD i undef) _
      rw [e]; exact .of_VR (.val _)
    · cases hp
 refine h bd ⟨w, g, footL inp ρ⟩ g ρ _ w _ hrel ?_
 intro e S0 g' ρ0 a' w' hk hr0
 obtain ⟨he, S, hT, hle, hst, hke⟩ := hk
 obtain ⟨ρ', hr⟩ := hT _ _ _ _ _ hr0
 obtain ⟨v, hrun, hvr⟩ := hres S _ g' ρ' a' w' hke hr
 have hB : Base ⟨w, g, footL inp ρ⟩ out g' ρ' w' := (hr.weaken (S' := ⟨S.fr, out⟩) ⟨frLe_refl _, hle⟩).base
 have hx : GExt g g' := fun b o u hu => by
  by_cases ho' : Ini.own ⟨w, g, footL inp ρ⟩ b = true
  · have hlt := hstart.agree.lt hu
    have hlent : footL inp ρ b = true := by
     unfold Ini.own at ho'
     rw [decide_eq_false (show ¬ w.heap.size ≤ b by omega), Bool.false_or] at ho'
     exact ho'
    obtain ⟨i, x, hi, hfx⟩ := footL_iff.1 hlent
    have := (hstart.own i x hi).none (List.all_eq_true.1 hmt x (List.mem_of_getElem? hi)) hfx o
    rw [this] at hu; cases hu
  · rw [hr.base.old b o ho']; exact hu
 have hend : a'.defers = [] ∧ ∃ v, (results fn a'.tmps).run P w' = .ok v w' ∧ ∃ v' g'' ρ'', Ending.returned v = .returned v' ∧ GExt g g'' ∧ Base ⟨w, g, footL inp ρ⟩ out g'' ρ'' w' ∧ (∀ i ∈ fix, (ρ'' i).blk = (ρ i).blk ∧ (ρ'' i).cap = (ρ i).cap) ∧ VRS g'' ρ'' out v' q := by
  refine ⟨hr.dead, v, hrun, v, g', ρ', rfl, hx, hB, fun i hi => ?_, hvr.weaken hle⟩
  obtain ⟨j, o, hj⟩ := hst.spec i hi
  have hs := hr.ev (.tmp j)
  rcases hj with hj | hj
  · rw [hj] at hs
    exact hs.2
  · rw [hj] at hs
    exact hs.2
 rcases he with rfl | rfl
 · exact hend
 · exact hend
def KRM (r : Tmp) (out : List HO) (bd : Nat → Nat × Nat) (fix : List Nat) (q : PV) (e : Exit) (S0 : St) : Prop := (e = .normal ∨ e = .ret) ∧ ∃ S, Turns S0 S ∧ hpLe S.hp out ∧ StayM S bd fix ∧ leS (S.ev (.tmp r)) q
theorem krm {r : Tmp} {out : List HO} {bd : Nat → Nat × Nat} {fix : List Nat} {q : PV} {S : St} (h1 : hpLe S.hp out) (h2 : StayM S bd fix) (h3 : leS (S.ev (.tmp r)) q) : KRM r out bd fix q .ret S := ⟨.inr rfl, S, Turns.refl S, h1, h2, h3⟩
section
variable {P : Program} {f : FuncId} {fn : Func} {c : Code} {n : Nat} {inp out : List HO} {fix : List Nat} {args : List PV}
theorem pcallsM1 {q : PV} {r : Tmp} (hf : P.funcs[f]? = some fn) (hb : fn.body = some c) (hn : fn.ntmps = n) (hr : fn.results = #[.tmp r]) (hmt : inp.all mutHO = true)
 (h : ∀ bd, Goal P c (KRM r out bd fix q) ⟨args.map (pinMP fix bd) ++ List.replicate (n - args.length) (.val undef), inp⟩) : MCalls P f inp args out fix q :=
 pcallsM_gen (fun S => leS (S.ev (.tmp r)) q) (fun S w0 g ρ a w hk hrel => ⟨a.tmps.getD r undef, by simp [results, hr], hk _ _ _ _ (hrel.ev (.tmp r))⟩) hf hb hn hmt (fun bd => h bd)
end
end Go.Pv
