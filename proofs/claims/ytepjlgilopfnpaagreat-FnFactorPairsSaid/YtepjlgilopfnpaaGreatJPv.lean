/- A layer of plain values over the model's worlds: what a Go value reads as, one operation at a time, regions in any order, loops, calls, and effects on a call's own objects; each step proved once. -/
import Derived.WalkKit
import Derived.Still
import Derived.Laws.Panics
import Derived.Deep.LoopGhost
/- Values by value: plain values, what a Go value reads as over a map of settled cells, the owned objects of a call, and the relation of a plain state with a frame and a world. -/
set_option linter.unusedSectionVars false
namespace Go.Pv
open Go

inductive PV where
 | any
 | val (v : Value)
 | sl (s : Nat) (nn : Option Bool) (l : List PV)
 | agg (l : List PV)
 | tup (l : List PV)
 | ptr (l : List PV)
 | fn (f : Nat) (first caps : List PV)
 | hp (id : Nat)
 | hat (id i : Nat)
 | gr (id i : Nat)
 | gat (id i j : Nat)
 | hpv (id blk cap : Nat)
 | hatv (id i blk cap : Nat)
 deriving Inhabited

abbrev I (n : Int) : PV := .val (.int .i64 n)
abbrev B (b : Bool) : PV := .val (.bool b)
abbrev nilV : PV := .val (.slice none 0 0)

def PV.one : PV → Bool
 | .val (.agg _) | .val (.tuple _) | .any | .agg _ | .tup _ => false
 | _ => true

def PV.flat : PV → Option (List PV)
 | .agg l => some l
 | p => if p.one then some [p] else none

abbrev Ghost := Nat → Nat → Option Value

def GExt (g g' : Ghost) : Prop := ∀ b o v, g b o = some v → g' b o = some v
theorem GExt.refl (g : Ghost) : GExt g g := fun _ _ _ h => h
theorem GExt.trans {a b c : Ghost} (h : GExt a b) (k : GExt b c) : GExt a c := fun x o v hv => k x o v (h x o v hv)

def Agree (g : Ghost) (w : World) : Prop := ∀ b o v, g b o = some v → w.cell? ⟨b, o, none⟩ = some v

inductive VR (g : Ghost) : Value → PV → Prop
 | any (v : Value) : VR g v .any
 | val (v : Value) : VR g v (.val v)
 | nilsl (s : Nat) (nn : Option Bool) (h : nn ≠ some false) : VR g (.slice none 0 0) (.sl s nn [])
 | esl (s : Nat) (nn : Option Bool) (a : Addr) (cap : Nat) (h : nn ≠ some true) : VR g (.slice (some a) 0 cap) (.sl s nn [])
 | sl (s : Nat) (nn : Option Bool) (b o cap : Nat) (l : List PV) (c : Nat → List PV) (cs : Nat → Value) (hs : 0 < s) (hnn : nn ≠ some true)
  (hcap : l.length ≤ cap) (hmax : cap ≤ maxLen)
  (hf : ∀ i p, l[i]? = some p → p.flat = some (c i) ∧ (c i).length = s)
  (hg : ∀ k, k < l.length * s → g b (o + k) = some (cs k))
  (hv : ∀ i j q, i < l.length → (c i)[j]? = some q → VR g (cs (i * s + j)) q) : VR g (.slice (some ⟨b, o, none⟩) l.length cap) (.sl s nn l)
 | agg (vs : Array Value) (l : List PV) (hl : vs.size = l.length) (hv : ∀ i q, l[i]? = some q → VR g (vs.getD i undef) q) : VR g (.agg vs) (.agg l)
 | tup (vs : Array Value) (l : List PV) (hl : vs.size = l.length) (hv : ∀ i q, l[i]? = some q → VR g (vs.getD i undef) q) : VR g (.tuple vs) (.tup l)
 | ptr (b o : Nat) (l : List PV) (cs : Nat → Value) (hg : ∀ k, k < l.length → g b (o + k) = some (cs k)) (hv : ∀ k q, l[k]? = some q → VR g (cs k) q) :
  VR g (.pointer (some ⟨b, o, none⟩)) (.ptr l)
 | fn (f : Nat) (fs cs : Array Value) (first caps : List PV) (h1 : fs.size = first.length) (h2 : cs.size = caps.length)
  (hv1 : ∀ i q, first[i]? = some q → VR g (fs.getD i undef) q) (hv2 : ∀ i q, caps[i]? = some q → VR g (cs.getD i undef) q) : VR g (.func (.func f) fs cs) (.fn f first caps)

theorem VR.mono {g g' : Ghost} (hg : GExt g g') {v : Value} {p : PV} (h : VR g v p) : VR g' v p := by
 induction h with
 | any v => exact .any v
 | val v => exact .val v
 | nilsl s nn h => exact .nilsl s nn h
 | esl s nn a cap h => exact .esl s nn a cap h
 | sl s nn b o cap l c cs hs hnn hcap hmax hf hg' hv ih => exact .sl s nn b o cap l c cs hs hnn hcap hmax hf (fun k hk => hg _ _ _ (hg' k hk)) ih
 | agg vs l hl hv ih => exact .agg vs l hl ih
 | tup vs l hl hv ih => exact .tup vs l hl ih
 | ptr b o l cs hg' hv ih => exact .ptr b o l cs (fun k hk => hg _ _ _ (hg' k hk)) ih
 | fn f fs cs first caps h1 h2 hv1 hv2 ih1 ih2 => exact .fn f fs cs first caps h1 h2 ih1 ih2

theorem VR.oneCell {g : Ghost} {v : Value} {p : PV} (h : VR g v p) (h1 : p.one = true) : v.cells = #[v] ∧ v.oneCell' = true := by
 cases h <;> first | (simp [PV.one] at h1; done) | exact ⟨rfl, rfl⟩ | (cases v <;> first | (simp [PV.one] at h1; done) | exact ⟨rfl, rfl⟩)

theorem VR.cells {g : Ghost} {v : Value} {p : PV} (h : VR g v p) {c : List PV} (hc : p.flat = some c) :
 v.cells.size = c.length ∧ ∀ j q, c[j]? = some q → VR g (v.cells.getD j undef) q := by
 by_cases ha : ∃ l, p = .agg l
 · obtain ⟨l, rfl⟩ := ha
   simp only [PV.flat, Option.some.injEq] at hc
   subst hc
   cases h with
   | agg vs _ hl hv => exact ⟨hl, hv⟩
 · have h1 : p.one = true ∧ c = [p] := by
    cases p <;> simp [PV.flat] at hc <;> first | (exact absurd ⟨_, rfl⟩ ha) | exact ⟨by simp [hc], by simp [hc]⟩ | exact ⟨hc.1, hc.2.symm⟩ | simp_all [PV.one]
   obtain ⟨h1, rfl⟩ := h1
   obtain ⟨e, _⟩ := h.oneCell h1
   rw [e]
   refine ⟨rfl, fun j q hj => ?_⟩
   cases j with
   | zero => simp at hj; subst hj; simpa using h
   | succ j => simp at hj

/-! ### Owned objects -/

inductive HO where
 | gone
 | arr (mt : Bool) (s : Nat) (e : TypeId) (l : List PV)
 | box (l : List PV)
 | grid (e1 e2 : TypeId) (rows : List (List PV))
 | pg (e1 e2 : TypeId) (n : Nat) (rows : List (List PV))
 | mp (blk : Nat) (l : List (ByteArray × PV))
 | pin (blk : Nat) (l : List PV)
 | sg (e1 e2 : TypeId) (n : Nat) (rows : List (List PV))
 deriving Inhabited

structure Loc where
 blk : Nat
 cap : Nat
 rows : Nat → Nat
 caps : Nat → Nat := fun _ => 0

def foot (ho : HO) (L : Loc) (b : Nat) : Prop :=
 match ho with
 | .gone => False
 | .arr .. | .box _ | .mp _ _ | .pin _ _ => b = L.blk
 | .grid _ _ rows | .pg _ _ _ rows | .sg _ _ _ rows => b = L.blk ∨ ∃ i, i < rows.length ∧ b = L.rows i

structure ArrOwn (g : Ghost) (w : World) (D : Nat → Bool) (mt : Bool) (s : Nat) (e : TypeId) (l : List PV) (L : Loc) (cur : Array Value) (c : Nat → List PV) : Prop where
 hs : 0 < s
 hB : D L.blk = true
 hcap : l.length ≤ L.cap
 hmax : L.cap ≤ maxLen
 hw : w.heap[L.blk]? = some (.cells cur e (0, 0))
 hsz : cur.size = L.cap * s
 hf : ∀ i p, l[i]? = some p → p.flat = some (c i) ∧ (c i).length = s
 hv : ∀ i j q, i < l.length → (c i)[j]? = some q → VR g (cur.getD (i * s + j) undef) q
 hg : ∀ o, g L.blk o = if mt = false ∧ o < l.length * s then some (cur.getD o undef) else none

structure HpV (ρ : Nat → Loc) (hp : List HO) (v : Value) (id : Nat) : Prop where
 sl : ∃ a n c, v = .slice a n c
 arr : ∀ m s e l, hp[id]? = some (.arr m s e l) → v = .slice (some ⟨(ρ id).blk, 0, none⟩) l.length (ρ id).cap
 grid : ∀ e1 e2 rows, hp[id]? = some (.grid e1 e2 rows) → v = .slice (some ⟨(ρ id).blk, 0, none⟩) rows.length (ρ id).cap
 pg : ∀ e1 e2 n rows, hp[id]? = some (.pg e1 e2 n rows) → v = .slice (some ⟨(ρ id).blk, 0, none⟩) n (ρ id).cap
 box : ∀ l, hp[id]? = some (.box l) → v = .slice (some ⟨(ρ id).blk, 0, none⟩) l.length (ρ id).cap ∧ l.length ≤ (ρ id).cap ∧ (ρ id).cap ≤ maxLen
 sg : ∀ e1 e2 n rows, hp[id]? = some (.sg e1 e2 n rows) → v = .slice (some ⟨(ρ id).blk, 0, none⟩) (rows.length + n) (ρ id).cap
structure GrV (ρ : Nat → Loc) (hp : List HO) (v : Value) (id i : Nat) : Prop where
 sl : ∃ a n c, v = .slice a n c
 grid : ∀ e1 e2 rows r, hp[id]? = some (.grid e1 e2 rows) → rows[i]? = some r → v = .slice (some ⟨(ρ id).rows i, 0, none⟩) r.length ((ρ id).caps i)
 sg : ∀ e1 e2 n rows r, hp[id]? = some (.sg e1 e2 n rows) → rows[i]? = some r → v = .slice (some ⟨(ρ id).rows i, 0, none⟩) r.tail.length ((ρ id).caps i)

def VRS1 (g : Ghost) (ρ : Nat → Loc) (hp : List HO) (v : Value) (p : PV) : Prop :=
 match p with
 | .hp id => HpV ρ hp v id
 | .hpv id b c => HpV ρ hp v id ∧ (ρ id).blk = b ∧ (ρ id).cap = c
 | .hat id i => v = .pointer (some ⟨(ρ id).blk, i, none⟩)
 | .hatv id i b c => v = .pointer (some ⟨(ρ id).blk, i, none⟩) ∧ (ρ id).blk = b ∧ (ρ id).cap = c
 | .gr id i => GrV ρ hp v id i
 | .gat id i j => v = .pointer (some ⟨(ρ id).rows i, j, none⟩)
 | p => VR g v p

def liftA (R : Value → PV → Prop) (v : Value) (p : PV) : Prop :=
 match p with
 | .agg l => ∃ vs : Array Value, v = .agg vs ∧ vs.size = l.length ∧ ∀ (i : Nat) (q : PV), l[i]? = some q → R (vs.getD i undef) q
 | p => R v p
def liftT (R : Value → PV → Prop) (v : Value) (p : PV) : Prop :=
 match p with
 | .tup l => ∃ vs : Array Value, v = .tuple vs ∧ vs.size = l.length ∧ ∀ (i : Nat) (q : PV), l[i]? = some q → liftA R (vs.getD i undef) q
 | p => liftA R v p
def VRS (g : Ghost) (ρ : Nat → Loc) (hp : List HO) (v : Value) (p : PV) : Prop := liftT (VRS1 g ρ hp) v p

def mapA (φ : PV → PV) : PV → PV
 | .agg l => .agg (l.map φ)
 | p => φ p
def mapT (φ : PV → PV) : PV → PV
 | .tup l => .tup (l.map (mapA φ))
 | .agg l => .agg (l.map φ)
 | p => φ p

theorem VRS1.of_VR {g : Ghost} {ρ : Nat → Loc} {hp : List HO} {v : Value} {p : PV} (h : VR g v p) : VRS1 g ρ hp v p := by
 cases h <;> constructor <;> assumption

class Parts (R : Value → PV → Prop) : Prop where
 agg : ∀ v l, R v (.agg l) → ∃ vs : Array Value, v = .agg vs ∧ vs.size = l.length ∧ ∀ (i : Nat) (q : PV), l[i]? = some q → R (vs.getD i undef) q
 tup : ∀ v l, R v (.tup l) → ∃ vs : Array Value, v = .tuple vs ∧ vs.size = l.length ∧ ∀ (i : Nat) (q : PV), l[i]? = some q → R (vs.getD i undef) q

instance (g : Ghost) : Parts (VR g) where
 agg := fun v l h => by cases h with | agg vs _ hl hv => exact ⟨vs, rfl, hl, hv⟩
 tup := fun v l h => by cases h with | tup vs _ hl hv => exact ⟨vs, rfl, hl, hv⟩
instance (g : Ghost) (ρ : Nat → Loc) (hp : List HO) : Parts (VRS1 g ρ hp) where
 agg := fun v l h => by
  have h' : VR g v (.agg l) := h
  obtain ⟨vs, e, hl, hv⟩ := Parts.agg v l h'
  exact ⟨vs, e, hl, fun i q hq => .of_VR (hv i q hq)⟩
 tup := fun v l h => by
  have h' : VR g v (.tup l) := h
  obtain ⟨vs, e, hl, hv⟩ := Parts.tup v l h'
  exact ⟨vs, e, hl, fun i q hq => .of_VR (hv i q hq)⟩

theorem liftA_of {R : Value → PV → Prop} [hR : Parts R] {v : Value} {p : PV} (h : R v p) : liftA R v p := by
 cases p <;> first | exact h | exact hR.agg _ _ h
theorem liftT_of {R : Value → PV → Prop} [hR : Parts R] {v : Value} {p : PV} (h : R v p) : liftT R v p := by
 cases p with
 | tup l =>
  obtain ⟨vs, e, hl, hv⟩ := hR.tup _ _ h
  exact ⟨vs, e, hl, fun i q hq => liftA_of (hv i q hq)⟩
 | agg l => exact hR.agg _ _ h
 | _ => exact h
theorem liftT_of_A {R : Value → PV → Prop} [hR : Parts R] {v : Value} {p : PV} (h : liftA R v p) : liftT R v p := by
 cases p with
 | tup l => exact liftT_of (R := R) h
 | _ => exact h
theorem liftA_map {R R' : Value → PV → Prop} [hR : Parts R'] {φ : PV → PV} (hφ : ∀ v p, R v p → R' v (φ p)) {v : Value} {p : PV} (h : liftA R v p) : liftA R' v (mapA φ p) := by
 cases p with
 | agg l =>
  obtain ⟨vs, rfl, hl, hv⟩ := h
  refine ⟨vs, rfl, by simpa using hl, fun i q hq => ?_⟩
  simp only [List.getElem?_map, Option.map_eq_some_iff] at hq
  obtain ⟨p, hp', rfl⟩ := hq
  exact hφ _ _ (hv i p hp')
 | _ => exact liftA_of (hφ _ _ h)
theorem liftT_map {R R' : Value → PV → Prop} [hR : Parts R'] {φ : PV → PV} (hφ : ∀ v p, R v p → R' v (φ p)) {v : Value} {p : PV} (h : liftT R v p) : liftT R' v (mapT φ p) := by
 cases p with
 | tup l =>
  obtain ⟨vs, rfl, hl, hv⟩ := h
  refine ⟨vs, rfl, by simpa using hl, fun i q hq => ?_⟩
  simp only [List.getElem?_map, Option.map_eq_some_iff] at hq
  obtain ⟨p, hp', rfl⟩ := hq
  exact liftA_map hφ (hv i p hp')
 | agg l => exact liftA_map (p := .agg l) hφ h
 | _ => exact liftT_of (hφ _ _ h)
theorem liftA_turn {R R' : Value → PV → Prop} (hφ : ∀ v p, R v p → R' v p) {v : Value} {p : PV} (h : liftA R v p) : liftA R' v p := by
 cases p with
 | agg l =>
  obtain ⟨vs, rfl, hl, hv⟩ := h
  exact ⟨vs, rfl, hl, fun i q hq => hφ _ _ (hv i q hq)⟩
 | _ => exact hφ _ _ h
theorem liftT_turn {R R' : Value → PV → Prop} (hφ : ∀ v p, R v p → R' v p) {v : Value} {p : PV} (h : liftT R v p) : liftT R' v p := by
 cases p with
 | tup l =>
  obtain ⟨vs, rfl, hl, hv⟩ := h
  exact ⟨vs, rfl, hl, fun i q hq => liftA_turn hφ (hv i q hq)⟩
 | agg l => exact liftA_turn (p := .agg l) hφ h
 | _ => exact hφ _ _ h
theorem VR_of_liftA {g : Ghost} {v : Value} {p : PV} (h : liftA (VR g) v p) : VR g v p := by
 cases p with
 | agg l => obtain ⟨vs, rfl, hl, hv⟩ := h; exact .agg vs l hl hv
 | _ => exact h
theorem VR_of_liftT {g : Ghost} {v : Value} {p : PV} (h : liftT (VR g) v p) : VR g v p := by
 cases p with
 | tup l => obtain ⟨vs, rfl, hl, hv⟩ := h; exact .tup vs l hl (fun i q hq => VR_of_liftA (hv i q hq))
 | agg l => exact VR_of_liftA (p := .agg l) h
 | _ => exact h

theorem VRS.of_one {g : Ghost} {ρ : Nat → Loc} {hp : List HO} {v : Value} {p : PV} (h : VRS1 g ρ hp v p) : VRS g ρ hp v p := liftT_of h
theorem VRS.of_VR {g : Ghost} {ρ : Nat → Loc} {hp : List HO} {v : Value} {p : PV} (h : VR g v p) : VRS g ρ hp v p := .of_one (.of_VR h)
theorem VRS.to_one {g : Ghost} {ρ : Nat → Loc} {hp : List HO} {v : Value} {p : PV} (h : VRS g ρ hp v p) (hn : ∀ l, p ≠ .agg l) (ht : ∀ l, p ≠ .tup l) : VRS1 g ρ hp v p := by
 cases p <;> first | exact h | exact absurd rfl (hn _) | exact absurd rfl (ht _)
theorem VRS1.mono {g g' : Ghost} (hg : GExt g g') {ρ : Nat → Loc} {hp : List HO} {v : Value} {p : PV} (h : VRS1 g ρ hp v p) : VRS1 g' ρ hp v p := by
 cases p <;> first | exact VR.mono hg h | exact h
theorem VRS.turn {g g' : Ghost} {ρ ρ' : Nat → Loc} {hp hp' : List HO} (hφ : ∀ v p, VRS1 g ρ hp v p → VRS1 g' ρ' hp' v p) {v : Value} {p : PV} (h : VRS g ρ hp v p) : VRS g' ρ' hp' v p := liftT_turn hφ h
theorem VRS.map {g g' : Ghost} {ρ ρ' : Nat → Loc} {hp hp' : List HO} {φ : PV → PV} (hφ : ∀ v p, VRS1 g ρ hp v p → VRS1 g' ρ' hp' v (φ p)) {v : Value} {p : PV} (h : VRS g ρ hp v p) : VRS g' ρ' hp' v (mapT φ p) := liftT_map hφ h
theorem VRS.mono {g g' : Ghost} (hg : GExt g g') {ρ : Nat → Loc} {hp : List HO} {v : Value} {p : PV} (h : VRS g ρ hp v p) : VRS g' ρ hp v p := h.turn fun _ _ h => h.mono hg

theorem VRS1.oneCell {g : Ghost} {ρ : Nat → Loc} {hp : List HO} {v : Value} {p : PV} (h : VRS1 g ρ hp v p) (h1 : p.one = true) : v.cells = #[v] ∧ v.oneCell' = true := by
 cases p with
 | hp id => obtain ⟨a, n, c, rfl⟩ := HpV.sl h; exact ⟨rfl, rfl⟩
 | hpv id b c => obtain ⟨a, n, c, rfl⟩ := HpV.sl h.1; exact ⟨rfl, rfl⟩
 | hatv id i b c => have : v = _ := h.1; subst this; exact ⟨rfl, rfl⟩
 | gr id i => obtain ⟨a, n, c, rfl⟩ := GrV.sl h; exact ⟨rfl, rfl⟩
 | hat id i => have : v = _ := h; subst this; exact ⟨rfl, rfl⟩
 | gat id i j => have : v = _ := h; subst this; exact ⟨rfl, rfl⟩
 | _ => exact VR.oneCell h h1

theorem VRS.cells {g : Ghost} {ρ : Nat → Loc} {hp : List HO} {v : Value} {p : PV} (h : VRS g ρ hp v p) {c : List PV} (hc : p.flat = some c) :
 v.cells.size = c.length ∧ ∀ (j : Nat) (q : PV), c[j]? = some q → VRS1 g ρ hp (v.cells.getD j undef) q := by
 by_cases ha : ∃ l, p = .agg l
 · obtain ⟨l, rfl⟩ := ha
   simp only [PV.flat, Option.some.injEq] at hc
   subst hc
   obtain ⟨vs, rfl, hl, hv⟩ := h
   exact ⟨hl, hv⟩
 · have h1 : p.one = true ∧ c = [p] := by
    cases p <;> simp [PV.flat] at hc <;> first | (exact absurd ⟨_, rfl⟩ ha) | exact ⟨by simp [hc], by simp [hc]⟩ | exact ⟨hc.1, hc.2.symm⟩ | simp_all [PV.one]
   obtain ⟨h1, rfl⟩ := h1
   have h' : VRS1 g ρ hp v p := by cases p <;> first | exact h | exact absurd ⟨_, rfl⟩ ha | (simp [PV.one] at h1; done)
   obtain ⟨e, _⟩ := h'.oneCell h1
   rw [e]
   refine ⟨rfl, fun j q hj => ?_⟩
   cases j with
   | zero => simp at hj; subst hj; simpa using h'
   | succ j => simp at hj

structure BoxOwn (g : Ghost) (ρ : Nat → Loc) (hp : List HO) (w : World) (D : Nat → Bool) (l : List PV) (L : Loc) (cur : Array Value) (e : TypeId) : Prop where
 hB : D L.blk = true
 hw : w.heap[L.blk]? = some (.cells cur e (0, 0))
 hsz : cur.size = l.length
 hv : ∀ (k : Nat) (q : PV), l[k]? = some q → VRS1 g ρ hp (cur.getD k undef) q
 hg : ∀ o, g L.blk o = none

structure GridOwn (g : Ghost) (w : World) (D : Nat → Bool) (e1 e2 : TypeId) (n : Nat) (rows : List (List PV)) (L : Loc) (cur : Array Value) (rc : Nat → Array Value) : Prop where
 hB : D L.blk = true
 hw : w.heap[L.blk]? = some (.cells cur e1 (0, 0))
 hsz : cur.size = L.cap
 hle : rows.length ≤ n
 hcap : n ≤ L.cap
 hmax : L.cap ≤ maxLen
 hnil : ∀ i, rows.length ≤ i → i < n → cur.getD i undef = .slice none 0 0
 hB' : ∀ i, i < rows.length → D (L.rows i) = true
 hrow : ∀ i r, rows[i]? = some r → cur.getD i undef = .slice (some ⟨L.rows i, 0, none⟩) r.length (L.caps i) ∧ (r.length ≤ L.caps i ∧ L.caps i ≤ maxLen) ∧ w.heap[L.rows i]? = some (.cells (rc i) e2 (0, 0)) ∧ (rc i).size = L.caps i
 hv : ∀ i r j q, rows[i]? = some r → r[j]? = some q → q.one = true ∧ VR g ((rc i).getD j undef) q
 hg : ∀ o, g L.blk o = none
 hg' : ∀ i o, i < rows.length → g (L.rows i) o = none
 hne : ∀ i, i < rows.length → L.rows i ≠ L.blk
 hinj : ∀ i j, i < rows.length → j < rows.length → L.rows i = L.rows j → i = j

structure SgOwn (g : Ghost) (w : World) (D : Nat → Bool) (e1 e2 : TypeId) (n : Nat) (rows : List (List PV)) (L : Loc) (cur : Array Value) (rc : Nat → Array Value) : Prop where
 hB : D L.blk = true
 hw : w.heap[L.blk]? = some (.cells cur e1 (0, 0))
 hsz : cur.size = L.cap * 2
 hcap : rows.length + n ≤ L.cap
 hmax : L.cap ≤ maxLen
 hB' : ∀ i, i < rows.length → D (L.rows i) = true
 hrow : ∀ i r, rows[i]? = some r → cur.getD (i * 2 + 1) undef = .slice (some ⟨L.rows i, 0, none⟩) r.tail.length (L.caps i) ∧ (r.tail.length ≤ L.caps i ∧ L.caps i ≤ maxLen) ∧ w.heap[L.rows i]? = some (.cells (rc i) e2 (0, 0)) ∧ (rc i).size = L.caps i
 hh : ∀ i r, rows[i]? = some r → (r.headD .any).one = true ∧ VR g (cur.getD (i * 2) undef) (r.headD .any)
 hv : ∀ i r j q, rows[i]? = some r → r.tail[j]? = some q → q.one = true ∧ VR g ((rc i).getD j undef) q
 hg : ∀ o, g L.blk o = none
 hg' : ∀ i o, i < rows.length → g (L.rows i) o = none
 hne : ∀ i, i < rows.length → L.rows i ≠ L.blk
 hinj : ∀ i j, i < rows.length → j < rows.length → L.rows i = L.rows j → i = j

def MpRel (g : Ghost) : List MapEntry → List (ByteArray × PV) → Prop
 | [], [] => True
 | e :: es, (a, p) :: l => e.key = .string a ∧ VR g e.val p ∧ MpRel g es l
 | _, _ => False
theorem MpRel.mono {g g' : Ghost} (hg : GExt g g') : ∀ {es : List MapEntry} {l : List (ByteArray × PV)}, MpRel g es l → MpRel g' es l
 | [], [], _ => trivial
 | _ :: _, (_, _) :: _, h => ⟨h.1, h.2.1.mono hg, h.2.2.mono hg⟩
 | [], _ :: _, h => h.elim
 | _ :: _, [], h => h.elim
structure MpOwn (g : Ghost) (w : World) (D : Nat → Bool) (blk : Nat) (l : List (ByteArray × PV)) (L : Loc) (es : Array MapEntry) (clock : Nat) : Prop where
 hblk : L.blk = blk
 hB : D blk = true
 hw : w.heap[blk]? = some (.map es clock)
 hk : MpRel g es.toList l
 hg : ∀ o, g blk o = none

structure PinOwn (g : Ghost) (w : World) (D : Nat → Bool) (blk : Nat) (l : List PV) (L : Loc) (cur : Array Value) (e : TypeId) : Prop where
 hblk : L.blk = blk
 hB : D blk = true
 hw : w.heap[blk]? = some (.cells cur e (0, 0))
 hsz : cur.size = l.length
 hv : ∀ (k : Nat) (q : PV), l[k]? = some q → VR g (cur.getD k undef) q
 hg : ∀ o, g blk o = none

def HOwn (g : Ghost) (ρ : Nat → Loc) (hp : List HO) (w : World) (D : Nat → Bool) (ho : HO) (L : Loc) : Prop :=
 match ho with
 | .gone => True
 | .arr mt s e l => ∃ cur c, ArrOwn g w D mt s e l L cur c
 | .box l => ∃ cur e, BoxOwn g ρ hp w D l L cur e
 | .grid e1 e2 rows => ∃ cur rc, GridOwn g w D e1 e2 rows.length rows L cur rc
 | .pg e1 e2 n rows => ∃ cur rc, GridOwn g w D e1 e2 n rows L cur rc
 | .mp b l => ∃ es clock, MpOwn g w D b l L es clock
 | .pin b l => ∃ cur e, PinOwn g w D b l L cur e
 | .sg e1 e2 n rows => ∃ cur rc, SgOwn g w D e1 e2 n rows L cur rc

structure Ini where
 w : World
 g : Ghost
 lent : Nat → Bool := fun _ => false
def Ini.own (w0 : Ini) (b : Nat) : Bool := decide (w0.w.heap.size ≤ b) || w0.lent b
theorem Ini.own_new {w0 : Ini} {b : Nat} (h : w0.w.heap.size ≤ b) : w0.own b = true := by unfold Ini.own; rw [decide_eq_true h]; rfl
theorem Ini.own_lent {w0 : Ini} {b : Nat} (h : w0.lent b = true) : w0.own b = true := by unfold Ini.own; rw [h, Bool.or_true]
theorem Ini.own_old {w0 : Ini} {b : Nat} (h : b < w0.w.heap.size) (hl : w0.lent b = false) : ¬ w0.own b = true := by unfold Ini.own; rw [decide_eq_false (by omega), hl]; decide

structure BelowL (w0 : Ini) (w : World) : Prop where
 os : w.os = w0.w.os
 tape : w.tape = w0.w.tape
 output : w.output = w0.w.output
 size : w0.w.heap.size ≤ w.heap.size
 block : ∀ k, ¬ w0.own k = true → w.heap[k]? = w0.w.heap[k]?
theorem BelowL.refl (w0 : Ini) : BelowL w0 w0.w := ⟨rfl, rfl, rfl, Nat.le_refl _, fun _ _ => rfl⟩
theorem Ini.old_lt {w0 : Ini} {b : Nat} (h : ¬ w0.own b = true) : b < w0.w.heap.size := Nat.lt_of_not_le fun h' => h (Ini.own_new h')
theorem BelowL.step {w0 : Ini} {w w' : World} (h : BelowL w0 w) (k : RowKit.Below w.heap.size w w') : BelowL w0 w' :=
 ⟨k.os.trans h.os, k.tape.trans h.tape, k.output.trans h.output, Nat.le_trans h.size k.size, fun i hi => (k.block i (Nat.lt_of_lt_of_le (Ini.old_lt hi) h.size)).trans (h.block i hi)⟩
theorem BelowL.setRow {w0 : Ini} {w : World} (h : BelowL w0 w) {b : Nat} (hb : w0.own b = true) (cs : Array Value) : BelowL w0 (w.setRow b cs) :=
 ⟨h.os, h.tape, h.output, by simpa [World.setRow] using h.size, fun k hk => (setRow_other w b k cs (fun e => hk (e ▸ hb))).trans (h.block k hk)⟩
theorem BelowL.plain {w : World} {g : Ghost} {w' : World} (h : BelowL ⟨w, g, fun _ => false⟩ w') : RowKit.Below w.heap.size w w' :=
 ⟨h.os, h.tape, h.output, h.size, fun k hk => h.block k (Ini.own_old hk rfl)⟩

structure Base (w0 : Ini) (hp : List HO) (g : Ghost) (ρ : Nat → Loc) (w : World) : Prop where
 below : BelowL w0 w
 agree : Agree g w
 old : ∀ b o, ¬ w0.own b = true → g b o = w0.g b o
 own : ∀ id ho, hp[id]? = some ho → HOwn g ρ hp w w0.own ho (ρ id)
 sep : ∀ i j x y b, i ≠ j → hp[i]? = some x → hp[j]? = some y → foot x (ρ i) b → foot y (ρ j) b → False

theorem HOwn.foot_lt {g : Ghost} {ρ : Nat → Loc} {hp : List HO} {w : World} {D : Nat → Bool} {ho : HO} {L : Loc} (h : HOwn g ρ hp w D ho L) {b : Nat} (hb : foot ho L b) : D b = true ∧ b < w.heap.size := by
 have key : ∀ {b o}, w.heap[b]? = some o → b < w.heap.size := fun h => (Array.getElem?_eq_some_iff.1 h).1
 cases ho with
 | gone => exact hb.elim
 | arr mt s e l => obtain ⟨cur, c, h⟩ := h; simp only [foot] at hb; subst hb; exact ⟨h.hB, key h.hw⟩
 | box l => obtain ⟨cur, e, h⟩ := h; simp only [foot] at hb; subst hb; exact ⟨h.hB, key h.hw⟩
 | grid e1 e2 rows =>
  obtain ⟨cur, rc, h⟩ := h
  simp only [foot] at hb
  rcases hb with rfl | ⟨i, hi, rfl⟩
  · exact ⟨h.hB, key h.hw⟩
  · exact ⟨h.hB' i hi, key (h.hrow i rows[i] (List.getElem?_eq_getElem hi)).2.2.1⟩
 | pg e1 e2 n rows =>
  obtain ⟨cur, rc, h⟩ := h
  simp only [foot] at hb
  rcases hb with rfl | ⟨i, hi, rfl⟩
  · exact ⟨h.hB, key h.hw⟩
  · exact ⟨h.hB' i hi, key (h.hrow i rows[i] (List.getElem?_eq_getElem hi)).2.2.1⟩
 | mp k l => obtain ⟨es, cl, h⟩ := h; simp only [foot] at hb; subst hb; rw [h.hblk]; exact ⟨h.hB, key h.hw⟩
 | pin k l => obtain ⟨cur, e, h⟩ := h; simp only [foot] at hb; subst hb; rw [h.hblk]; exact ⟨h.hB, key h.hw⟩
 | sg e1 e2 n rows =>
  obtain ⟨cur, rc, h⟩ := h
  simp only [foot] at hb
  rcases hb with rfl | ⟨i, hi, rfl⟩
  · exact ⟨h.hB, key h.hw⟩
  · exact ⟨h.hB' i hi, key (h.hrow i rows[i] (List.getElem?_eq_getElem hi)).2.2.1⟩

def mapHO (φ : PV → PV) : HO → HO
 | .box l => .box (l.map φ)
 | x => x
theorem foot_map (φ : PV → PV) (ho : HO) (L : Loc) (b : Nat) : foot (mapHO φ ho) L b = foot ho L b := by cases ho <;> rfl
theorem mapHO_id (ho : HO) : mapHO id ho = ho := by cases ho <;> simp [mapHO]

theorem HOwn.keep {g g' : Ghost} {ρ ρ' : Nat → Loc} {hp hp' : List HO} {w w' : World} {D : Nat → Bool} {ho : HO} {L : Loc} (h : HOwn g ρ hp w D ho L) (hx : GExt g g') (φ : PV → PV) (hφ : ∀ v p, VRS1 g ρ hp v p → VRS1 g' ρ' hp' v (φ p))
 (hk : ∀ b, foot ho L b → w'.heap[b]? = w.heap[b]? ∧ ∀ o, g' b o = g b o) : HOwn g' ρ' hp' w' D (mapHO φ ho) L := by
 cases ho with
 | gone => trivial
 | arr mt s e l =>
  obtain ⟨cur, c, h⟩ := h
  obtain ⟨k1, k2⟩ := hk L.blk rfl
  exact ⟨cur, c, { h with hw := k1.trans h.hw, hv := fun i j q hi hq => (h.hv i j q hi hq).mono hx, hg := fun o => (k2 o).trans (h.hg o) }⟩
 | box l =>
  obtain ⟨cur, e, h⟩ := h
  obtain ⟨k1, k2⟩ := hk L.blk rfl
  refine ⟨cur, e, ⟨h.hB, k1.trans h.hw, by simpa using h.hsz, fun k q hq => ?_, fun o => (k2 o).trans (h.hg o)⟩⟩
  simp only [List.getElem?_map, Option.map_eq_some_iff] at hq
  obtain ⟨p, hp, rfl⟩ := hq
  exact hφ _ _ (h.hv k p hp)
 | grid e1 e2 rows =>
  obtain ⟨cur, rc, h⟩ := h
  obtain ⟨k1, k2⟩ := hk L.blk (.inl rfl)
  have kr : ∀ i, i < rows.length → _ := fun i hi => hk (L.rows i) (.inr ⟨i, hi, rfl⟩)
  refine ⟨cur, rc, { h with hw := k1.trans h.hw, hrow := fun i r hr => ?_, hv := fun i r j q hr hq => ⟨(h.hv i r j q hr hq).1, (h.hv i r j q hr hq).2.mono hx⟩, hg := fun o => (k2 o).trans (h.hg o), hg' := fun i o hi => ((kr i hi).2 o).trans (h.hg' i o hi) }⟩
  obtain ⟨a1, a2, a3, a4⟩ := h.hrow i r hr
  exact ⟨a1, a2, ((kr i (List.getElem?_eq_some_iff.1 hr).1).1).trans a3, a4⟩
 | pg e1 e2 n rows =>
  obtain ⟨cur, rc, h⟩ := h
  obtain ⟨k1, k2⟩ := hk L.blk (.inl rfl)
  have kr : ∀ i, i < rows.length → _ := fun i hi => hk (L.rows i) (.inr ⟨i, hi, rfl⟩)
  refine ⟨cur, rc, { h with hw := k1.trans h.hw, hrow := fun i r hr => ?_, hv := fun i r j q hr hq => ⟨(h.hv i r j q hr hq).1, (h.hv i r j q hr hq).2.mono hx⟩, hg := fun o => (k2 o).trans (h.hg o), hg' := fun i o hi => ((kr i hi).2 o).trans (h.hg' i o hi) }⟩
  obtain ⟨a1, a2, a3, a4⟩ := h.hrow i r hr
  exact ⟨a1, a2, ((kr i (List.getElem?_eq_some_iff.1 hr).1).1).trans a3, a4⟩
 | mp k l =>
  obtain ⟨es, cl, h⟩ := h
  obtain ⟨k1, k2⟩ := hk L.blk rfl
  rw [h.hblk] at k1 k2
  exact ⟨es, cl, { h with hw := k1.trans h.hw, hk := h.hk.mono hx, hg := fun o => (k2 o).trans (h.hg o) }⟩
 | pin k l =>
  obtain ⟨cur, e, h⟩ := h
  obtain ⟨k1, k2⟩ := hk L.blk rfl
  rw [h.hblk] at k1 k2
  exact ⟨cur, e, { h with hw := k1.trans h.hw, hv := fun i q hq => (h.hv i q hq).mono hx, hg := fun o => (k2 o).trans (h.hg o) }⟩
 | sg e1 e2 n rows =>
  obtain ⟨cur, rc, h⟩ := h
  obtain ⟨k1, k2⟩ := hk L.blk (.inl rfl)
  have kr : ∀ i, i < rows.length → _ := fun i hi => hk (L.rows i) (.inr ⟨i, hi, rfl⟩)
  refine ⟨cur, rc, { h with hw := k1.trans h.hw, hrow := fun i r hr => ?_, hh := fun i r hr => ⟨(h.hh i r hr).1, (h.hh i r hr).2.mono hx⟩, hv := fun i r j q hr hq => ⟨(h.hv i r j q hr hq).1, (h.hv i r j q hr hq).2.mono hx⟩, hg := fun o => (k2 o).trans (h.hg o), hg' := fun i o hi => ((kr i hi).2 o).trans (h.hg' i o hi) }⟩
  obtain ⟨a1, a2, a3, a4⟩ := h.hrow i r hr
  exact ⟨a1, a2, ((kr i (List.getElem?_eq_some_iff.1 hr).1).1).trans a3, a4⟩

theorem Base.step {w0 : Ini} {w w' : World} {hp : List HO} {g g' : Ghost} {ρ : Nat → Loc} (h : Base w0 hp g ρ w) (hb : RowKit.Below w.heap.size w w') (ha : Agree g' w') (hx : GExt g g')
 (hs : ∀ b o, b < w.heap.size → g' b o = g b o) : Base w0 hp g' ρ w' where
 below := h.below.step hb
 agree := ha
 old := fun b o hb' => (hs b o (Nat.lt_of_lt_of_le (Ini.old_lt hb') h.below.size)).trans (h.old b o hb')
 own := fun n ho hid => mapHO_id ho ▸ (h.own n ho hid).keep hx id (fun _ _ hv => VRS1.mono hx hv) fun b hf => by
  have := ((h.own n ho hid).foot_lt hf).2
  exact ⟨hb.block b this, fun o => hs b o this⟩
 sep := h.sep

theorem Agree.lt {g : Ghost} {w : World} (h : Agree g w) {b o : Nat} {v : Value} (hg : g b o = some v) : b < w.heap.size :=
 World.block_lt_of_cell? w _ (h b o v hg)

theorem Agree.below {g : Ghost} {w w' : World} (h : Agree g w) (hb : RowKit.Below w.heap.size w w') : Agree g w' := fun b o v hv => by
 rw [hb.cell (p := ⟨b, o, none⟩) (h.lt hv)]; exact h b o v hv

def Ghost.add (g : Ghost) (k : Nat) (cs : Array Value) : Ghost := fun b o => if b = k then cs[o]? else g b o

theorem Agree.alloc {g : Ghost} {w : World} (h : Agree g w) (cs : Array Value) (e : TypeId) (fz : Nat × Nat) : Agree (g.add w.heap.size cs) (w.alloc (.cells cs e fz)) := by
 intro b o v hv
 unfold Ghost.add at hv
 split at hv
 · rename_i hb
   subst hb
   rw [cell_of_row _ _ _ cs e fz (heap_alloc_new w _)]; exact hv
 · rw [World.cell?_alloc_old _ _ _ (by simpa using ‹¬ b = w.heap.size›)]; exact h b o v hv

theorem GExt.add {g : Ghost} {w : World} (h : Agree g w) (cs : Array Value) : GExt g (g.add w.heap.size cs) := by
 intro b o v hv
 have := h.lt hv
 unfold Ghost.add
 rw [if_neg (by omega)]; exact hv

theorem Base.alloc {w0 : Ini} {w : World} {hp : List HO} {g : Ghost} {ρ : Nat → Loc} (h : Base w0 hp g ρ w) (cs : Array Value) (e : TypeId) (fz : Nat × Nat) :
 Base w0 hp (g.add w.heap.size cs) ρ (w.alloc (.cells cs e fz)) :=
 h.step ((RowKit.Below.refl _ _).alloc (Nat.le_refl _) _) (h.agree.alloc cs e fz) (GExt.add h.agree cs) fun b o hb => by unfold Ghost.add; rw [if_neg (by omega)]

end Go.Pv

/- The plain operations: each yields a plain value out of its operands' plain values, whatever the world. -/
namespace Go.Pv
open Go

/-! ### Inversions -/
theorem VR.val_inv {g : Ghost} {v u : Value} (h : VR g v (.val u)) : v = u := by cases h; rfl
theorem VR.agg_inv {g : Ghost} {v : Value} {l : List PV} (h : VR g v (.agg l)) : ∃ vs, v = .agg vs ∧ vs.size = l.length ∧ ∀ i q, l[i]? = some q → VR g (vs.getD i undef) q := by
 cases h; exact ⟨_, rfl, by assumption, by assumption⟩
theorem VR.tup_inv {g : Ghost} {v : Value} {l : List PV} (h : VR g v (.tup l)) : ∃ vs, v = .tuple vs ∧ vs.size = l.length ∧ ∀ i q, l[i]? = some q → VR g (vs.getD i undef) q := by
 cases h; exact ⟨_, rfl, by assumption, by assumption⟩
theorem VR.ptr_inv {g : Ghost} {v : Value} {l : List PV} (h : VR g v (.ptr l)) : ∃ (b o : Nat) (cs : Nat → Value), v = .pointer (some ⟨b, o, none⟩) ∧ (∀ k, k < l.length → g b (o + k) = some (cs k)) ∧ ∀ k q, l[k]? = some q → VR g (cs k) q := by
 cases h; exact ⟨_, _, _, rfl, by assumption, by assumption⟩
theorem VR.fn_inv {g : Ghost} {v : Value} {f : Nat} {first caps : List PV} (h : VR g v (.fn f first caps)) : ∃ (fs cs : Array Value), v = .func (.func f) fs cs ∧ fs.size = first.length ∧ cs.size = caps.length ∧
 (∀ i q, first[i]? = some q → VR g (fs.getD i undef) q) ∧ (∀ i q, caps[i]? = some q → VR g (cs.getD i undef) q) := by
 cases h; exact ⟨_, _, rfl, by assumption, by assumption, by assumption, by assumption⟩
theorem VR.sl_inv {g : Ghost} {v : Value} {s : Nat} {nn : Option Bool} {l : List PV} (h : VR g v (.sl s nn l)) :
 (v = .slice none 0 0 ∧ l = [] ∧ nn ≠ some false) ∨ (∃ (a : Addr) (cap : Nat), v = .slice (some a) 0 cap ∧ l = [] ∧ nn ≠ some true) ∨ ∃ (b o cap : Nat) (c : Nat → List PV) (cs : Nat → Value), v = .slice (some ⟨b, o, none⟩) l.length cap ∧ 0 < s ∧ nn ≠ some true ∧ l.length ≤ cap ∧ cap ≤ maxLen ∧
  (∀ i p, l[i]? = some p → p.flat = some (c i) ∧ (c i).length = s) ∧ (∀ k, k < l.length * s → g b (o + k) = some (cs k)) ∧
  (∀ i j q, i < l.length → (c i)[j]? = some q → VR g (cs (i * s + j)) q) := by
 cases h
 · exact .inl ⟨rfl, rfl, by assumption⟩
 · exact .inr (.inl ⟨_, _, rfl, rfl, by assumption⟩)
 · exact .inr (.inr ⟨_, _, _, _, _, rfl, by assumption, by assumption, by assumption, by assumption, by assumption, by assumption, by assumption⟩)

/-! ### By value -/
def view1 (hp : List HO) : PV → PV
 | .hp id => match hp[id]? with
  | some (.arr false s _ l) => .sl s none l
  | _ => .any
 | .hat _ _ | .gr _ _ | .gat _ _ _ | .hpv _ _ _ | .hatv _ _ _ _ => .any
 | p => p
def viewA (hp : List HO) : PV → PV
 | .agg l => .agg (l.map (view1 hp))
 | p => view1 hp p
def view (hp : List HO) : PV → PV
 | .tup l => .tup (l.map (viewA hp))
 | .agg l => .agg (l.map (view1 hp))
 | p => view1 hp p
theorem viewA_map (hp : List HO) : viewA hp = mapA (view1 hp) := by funext p; cases p <;> rfl
theorem view_map (hp : List HO) (p : PV) : view hp p = mapT (view1 hp) p := by cases p <;> first | rfl | simp only [view, mapT, viewA_map]

theorem Base.view1 {w0 : Ini} {w : World} {hp : List HO} {g : Ghost} {ρ : Nat → Loc} (hb : Base w0 hp g ρ w) {v : Value} {p : PV} (h : VRS1 g ρ hp v p) : VR g v (Pv.view1 hp p) := by
 cases p with
 | hp id =>
  simp only [Pv.view1]
  split
  · rename_i s e l hid
    have hv := HpV.arr h _ _ _ _ hid
    obtain ⟨cur, c, ho⟩ := hb.own id _ hid
    subst hv
    exact .sl s none _ 0 _ l c (fun k => cur.getD k undef) ho.hs (by simp) ho.hcap ho.hmax ho.hf (fun k hk => by rw [Nat.zero_add, ho.hg k, if_pos ⟨rfl, hk⟩]) ho.hv
  · exact .any v
 | hat _ _ => exact .any v
 | gr _ _ => exact .any v
 | gat _ _ _ => exact .any v
 | hpv _ _ _ => exact .any v
 | hatv _ _ _ _ => exact .any v
 | _ => exact h

theorem Base.view {w0 : Ini} {w : World} {hp : List HO} {g : Ghost} {ρ : Nat → Loc} (hb : Base w0 hp g ρ w) {v : Value} {p : PV} (h : VRS g ρ hp v p) : VR g v (Pv.view hp p) := by
 rw [view_map]
 exact VR_of_liftT (liftT_map (R' := VR g) (fun _ _ h => hb.view1 h) h)

def PV.le (p q : PV) : Prop := ∀ g v, VR g v p → VR g v q
theorem PV.le_refl (p : PV) : p.le p := fun _ _ h => h
theorem PV.le_any (p : PV) : p.le .any := fun _ v _ => .any v
theorem PV.le_nn (s : Nat) (nn : Option Bool) (l : List PV) : (PV.sl s nn l).le (.sl s none l) := fun g v h => by
 cases h with
 | nilsl _ _ h => exact .nilsl s none (by simp)
 | esl _ _ a cap h => exact .esl s none a cap (by simp)
 | sl _ _ b o cap _ c cs hs hnn hcap hmax hf hg hv => exact .sl s none b o cap l c cs hs (by simp) hcap hmax hf hg hv
theorem PV.le_nil (s : Nat) : nilV.le (.sl s none []) := fun g v h => by cases h; exact .nilsl s none (by simp)
/-! ### What the types say -/
class SlT (P : Program) (t : TypeId) (e : outParam TypeId) (s : outParam Nat) (bytes : outParam Nat) : Prop where
 hu : P.underlying t = some (.slice e)
 hi : ∃ i, P.info? e = some i ∧ i.size = s ∧ i.bytes = bytes
class CellT (P : Program) (t : TypeId) : Prop where
 ha : ∀ w, (isAgg t).run P w = .ok false w
 hs : ∀ w, (Go.sizeOf t).run P w = .ok 1 w
class AggT (P : Program) (t : TypeId) (n : outParam Nat) : Prop where
 ha : ∀ w, (isAgg t).run P w = .ok true w
 hs : ∀ w, (Go.sizeOf t).run P w = .ok n w
class FieldT (P : Program) (t : TypeId) (k : Nat) (off : outParam Nat) (ty : outParam TypeId) (n : outParam Nat) : Prop where
 hu : ∃ fs f, P.underlying t = some (.struct fs) ∧ fs[k]? = some f ∧ f.offset = off ∧ f.type = ty
 hs : ∀ w, (Go.sizeOf ty).run P w = .ok n w
 hz : n ≠ 0
class ArrT (P : Program) (t : TypeId) (n : outParam Nat) (e : outParam TypeId) (s : outParam Nat) : Prop where
 hu : P.underlying t = some (.array n e)
 hs : ∀ w, (Go.sizeOf e).run P w = .ok s w
class FnT (P : Program) (f : FuncId) : Prop where
 hc : ∀ args w, (callFunc f args).run P w = .ok (.enter f args) w

theorem SlT.hs {P : Program} {t e : TypeId} {s by_ : Nat} (h : SlT P t e s by_) (w : World) : (Go.sizeOf e).run P w = .ok s w := by
 obtain ⟨i, h1, h2, -⟩ := h.hi
 simp [Go.sizeOf, typeInfo, h1, h2, go_sem]

/-! ### One operation -/
def PStep (P : Program) (o : Oper) (ev : Operand → PV) (hp : List HO) (q : PV) : Prop :=
 ∀ (w0 : Ini) (g : Ghost) (ρ : Nat → Loc) (w : World) (a : Act), Base w0 hp g ρ w → (∀ x ∈ o.op.operands, VRS g ρ hp (a.eval x) (ev x)) →
  ∀ (Q : Exit → Act → World → Prop) (K : Act → World → Prop), (∀ v g' w', GExt g g' → Base w0 hp g' ρ w' → VRS g' ρ hp v q → K (a.put o.dst v) w') → o.wp P a w K Q

section
variable {P : Program} {o : Oper} {ev : Operand → PV} {hp : List HO}

theorem PStep.of_run {q : PV} (h : ∀ (w0 : Ini) (g : Ghost) (ρ : Nat → Loc) (w : World) (av : Operand → Value), Base w0 hp g ρ w → (∀ x ∈ o.op.operands, VRS g ρ hp (av x) (ev x)) →
 ∃ v, (execOp av o).run P w = .ok (.value v) w ∧ VRS g ρ hp v q) : PStep P o ev hp q := by
 intro w0 g ρ w a hb hx Q K hK
 obtain ⟨v, hr, hv⟩ := h w0 g ρ w a.eval hb hx
 unfold Oper.wp
 rw [hr]
 exact hK v g w (GExt.refl g) hb hv

theorem zD {x : Operand} (ho : o.op = .move x) : PStep P o ev hp (ev x) :=
 .of_run fun w0 g ρ w av hb hx => ⟨av x, by simp [execOp, ho, go_sem], hx x (by simp [ho, Op.operands])⟩
theorem zA {x : Operand} (ho : o.op = .assign x) : PStep P o ev hp (ev x) :=
 .of_run fun w0 g ρ w av hb hx => ⟨av x, by simp [execOp, ho, go_sem], hx x (by simp [ho, Op.operands])⟩

theorem val_of {g : Ghost} {ρ : Nat → Loc} {v u : Value} {p : PV} (h : VRS g ρ hp v p) (hp' : p = .val u) : v = u := by subst hp'; exact VR.val_inv h

theorem zQ {c x y : Operand} (ho : o.op = .pick c x y) {t : Bool} (hc : ev c = B t) : PStep P o ev hp (bif t then ev x else ev y) :=
 .of_run fun w0 g ρ w av hb hx => by
  have h1 := val_of (hx c (by simp [ho, Op.operands])) hc
  have h2 := hx x (by simp [ho, Op.operands])
  have h3 := hx y (by simp [ho, Op.operands])
  refine ⟨if t then av x else av y, ?_, ?_⟩
  · cases t <;> simp [execOp, ho, go_sem, h1]
  · cases t <;> simpa

theorem ps_bin {op : BinOp} {t rt : TypeId} {x y : Operand} (ho : o.op = .binOp op t x y rt) {v1 v2 v : Value} (h1 : ev x = .val v1) (h2 : ev y = .val v2)
 (hr : ∀ w, (do eqGuard op t x y v1 v2; binOp op t v1 v2 : Sem Value).run P w = .ok v w) : PStep P o ev hp (.val v) :=
 .of_run fun w0 g ρ w av hb hx => by
  have e1 := val_of (hx x (by simp [ho, Op.operands])) h1
  have e2 := val_of (hx y (by simp [ho, Op.operands])) h2
  refine ⟨v, ?_, .val v⟩
  have h := hr w
  simp only [execOp, ho, e1, e2]
  rw [Sem.run_bind, h]
  rfl

theorem zS {t rt : TypeId} {x y : Operand} {a b : Int} {k : IntKind} (ho : o.op = .binOp .lss t x y rt) (h1 : ev x = .val (.int k a)) (h2 : ev y = .val (.int k b)) : PStep P o ev hp (B (decide (a < b))) :=
 ps_bin ho h1 h2 fun w => by simp [go_sem]
theorem ps_leq {t rt : TypeId} {x y : Operand} {a b : Int} {k : IntKind} (ho : o.op = .binOp .leq t x y rt) (h1 : ev x = .val (.int k a)) (h2 : ev y = .val (.int k b)) : PStep P o ev hp (B (decide (a ≤ b))) :=
 ps_bin ho h1 h2 fun w => by simp [go_sem]
theorem ps_gtr {t rt : TypeId} {x y : Operand} {a b : Int} {k : IntKind} (ho : o.op = .binOp .gtr t x y rt) (h1 : ev x = .val (.int k a)) (h2 : ev y = .val (.int k b)) : PStep P o ev hp (B (decide (b < a))) :=
 ps_bin ho h1 h2 fun w => by simp [go_sem]
theorem ps_geq {t rt : TypeId} {x y : Operand} {a b : Int} {k : IntKind} (ho : o.op = .binOp .geq t x y rt) (h1 : ev x = .val (.int k a)) (h2 : ev y = .val (.int k b)) : PStep P o ev hp (B (decide (b ≤ a))) :=
 ps_bin ho h1 h2 fun w => by simp [go_sem]
theorem ps_eql {t rt : TypeId} {x y : Operand} {a b : Int} {k : IntKind} (ho : o.op = .binOp .eql t x y rt) (h1 : ev x = .val (.int k a)) (h2 : ev y = .val (.int k b)) : PStep P o ev hp (B (decide (a = b))) :=
 ps_bin ho h1 h2 fun w => by
  have : (a == b) = decide (a = b) := by rw [Bool.eq_iff_iff]; simp
  simp [go_sem, this]
theorem ps_neq {t rt : TypeId} {x y : Operand} {a b : Int} {k : IntKind} (ho : o.op = .binOp .neq t x y rt) (h1 : ev x = .val (.int k a)) (h2 : ev y = .val (.int k b)) : PStep P o ev hp (B (!decide (a = b))) :=
 ps_bin ho h1 h2 fun w => by
  have : (a != b) = !decide (a = b) := by rw [Bool.eq_iff_iff]; simp
  simp [go_sem, this]
theorem ps_add {t rt : TypeId} {x y : Operand} {a b : Int} (ho : o.op = .binOp .add t x y rt) (h1 : ev x = I a) (h2 : ev y = I b) (hr : -9223372036854775808 ≤ a + b ∧ a + b ≤ 9223372036854775807) :
 PStep P o ev hp (I (a + b)) :=
 ps_bin ho h1 h2 fun w => by rw [show (Value.int .i64 (a + b)) = .int .i64 (IntKind.i64.wrap (a + b)) by rw [IntWalk.i64_in _ hr]]; simp [go_sem]
theorem ps_sub {t rt : TypeId} {x y : Operand} {a b : Int} (ho : o.op = .binOp .sub t x y rt) (h1 : ev x = I a) (h2 : ev y = I b) (hr : -9223372036854775808 ≤ a - b ∧ a - b ≤ 9223372036854775807) :
 PStep P o ev hp (I (a - b)) :=
 ps_bin ho h1 h2 fun w => by rw [show (Value.int .i64 (a - b)) = .int .i64 (IntKind.i64.wrap (a - b)) by rw [IntWalk.i64_in _ hr]]; simp [go_sem]
theorem ps_mul {t rt : TypeId} {x y : Operand} {a b : Int} (ho : o.op = .binOp .mul t x y rt) (h1 : ev x = I a) (h2 : ev y = I b) (hr : -9223372036854775808 ≤ a * b ∧ a * b ≤ 9223372036854775807) :
 PStep P o ev hp (I (a * b)) :=
 ps_bin ho h1 h2 fun w => by rw [show (Value.int .i64 (a * b)) = .int .i64 (IntKind.i64.wrap (a * b)) by rw [IntWalk.i64_in _ hr]]; simp [go_sem]
theorem ps_not {t : TypeId} {x : Operand} {b : Bool} (ho : o.op = .unOp .not t x) (h1 : ev x = B b) : PStep P o ev hp (B (!b)) :=
 .of_run fun w0 g ρ w av hb hx => by
  have e1 := val_of (hx x (by simp [ho, Op.operands])) h1
  exact ⟨_, by simp [execOp, ho, go_sem, e1], .val _⟩

/-! #### Memory -/
theorem Addr.add_n (b o n : Nat) : (⟨b, o, none⟩ : Addr).add n = ⟨b, o + n, none⟩ := Addr.add_lit b o n

theorem zF {t : TypeId} [ht : CellT P t] {x : Operand} {q : PV} {c : List PV} (ho : o.op = .load t x) (h1 : ev x = .ptr (q :: c)) : PStep P o ev hp q :=
 .of_run fun w0 g ρ w av hb hx => by
  have e1 := hx x (by simp [ho, Op.operands])
  rw [h1] at e1
  obtain ⟨b, off, cs, ea, hg, hv⟩ := VR.ptr_inv e1
  have hc := hb.agree _ _ _ (hg 0 (by simp))
  refine ⟨cs 0, ?_, .of_VR (hv 0 q (by simp))⟩
  simp only [Nat.add_zero] at hc
  simp [execOp, ho, ea, Instr.loadAt, Instr.sureAddr, loadVar, ht.ha, hc, go_sem]

theorem ps_load_agg {t : TypeId} {n : Nat} [ht : AggT P t n] {x : Operand} {c : List PV} (ho : o.op = .load t x) (h1 : ev x = .ptr c) (hn : n ≤ c.length) : PStep P o ev hp (.agg (c.take n)) :=
 .of_run fun w0 g ρ w av hb hx => by
  have e1 := hx x (by simp [ho, Op.operands])
  rw [h1] at e1
  obtain ⟨b, off, cs, ea, hg, hv⟩ := VR.ptr_inv e1
  have hl := run_loadCells (P := P) w ⟨b, off, none⟩ n cs (fun j hj => by rw [Addr.add_n]; exact hb.agree _ _ _ (hg j (by omega)))
  simp only [loadCells] at hl
  refine ⟨.agg (List.map cs (List.range n)).toArray, ?_, .of_VR (.agg _ _ (by simp; omega) (fun i q hq => ?_))⟩
  · simp [execOp, ho, ea, Instr.loadAt, Instr.sureAddr, loadVar, ht.ha, ht.hs, hl, go_sem]
  · rw [List.getElem?_take] at hq
    split at hq
    · rename_i hi
      have := hv i q hq
      simpa [hi] using this
    · cases hq

theorem zL {t : TypeId} {k off n : Nat} {ty : TypeId} [ht : FieldT P t k off ty n] {x : Operand} {c : List PV} (ho : o.op = .fieldAddr t x k) (h1 : ev x = .ptr c) : PStep P o ev hp (.ptr (c.drop off)) :=
 .of_run fun w0 g ρ w av hb hx => by
  have e1 := hx x (by simp [ho, Op.operands])
  rw [h1] at e1
  obtain ⟨b, of_, cs, ea, hg, hv⟩ := VR.ptr_inv e1
  obtain ⟨fs, f, hu, hf, rfl, rfl⟩ := ht.hu
  have hz := ht.hz
  refine ⟨.pointer (some ⟨b, of_ + f.offset, none⟩), ?_, .of_VR (.ptr b (of_ + f.offset) _ (fun k => cs (f.offset + k)) (fun k hk => ?_) (fun k q hq => ?_))⟩
  · simp [execOp, ho, ea, Instr.fieldAt, run_underlying hu, hf, fieldPlace, ht.hs, hz, Instr.sureAddr, Addr.add_n, go_sem]
  · rw [Nat.add_assoc]; exact hg _ (by simp at hk; omega)
  · exact hv _ q (by simpa using hq)

theorem zE {t : TypeId} {k off n : Nat} {ty : TypeId} [ht : FieldT P t k off ty n] {x : Operand} {id i : Nat} (ho : o.op = .fieldAddr t x k) (h1 : ev x = .hat id i) : PStep P o ev hp (.hat id (i + off)) :=
 .of_run fun w0 g ρ w av hb hx => by
  have e1 := hx x (by simp [ho, Op.operands])
  rw [h1] at e1
  have ea : av x = .pointer (some ⟨(ρ id).blk, i, none⟩) := e1
  obtain ⟨fs, f, hu, hf, rfl, rfl⟩ := ht.hu
  have hz := ht.hz
  refine ⟨.pointer (some ⟨(ρ id).blk, i + f.offset, none⟩), ?_, rfl⟩
  simp [execOp, ho, ea, Instr.fieldAt, run_underlying hu, hf, fieldPlace, ht.hs, hz, Instr.sureAddr, Addr.add_n, go_sem]

theorem VRS.extract {g : Ghost} {ρ : Nat → Loc} {vs : Array Value} {l : List PV} (hl : vs.size = l.length) (hv : ∀ (i : Nat) (q : PV), l[i]? = some q → VRS1 g ρ hp (vs.getD i undef) q) (off n : Nat) (h : off + n ≤ l.length) :
 VRS g ρ hp (.agg (vs.extract off (off + n))) (.agg ((l.drop off).take n)) := by
 refine ⟨_, rfl, by simp; omega, fun i q hq => ?_⟩
 rw [List.getElem?_take] at hq
 split at hq
 · rename_i hi
   rw [List.getElem?_drop] at hq
   have := hv _ q hq
   have e : (vs.extract off (off + n)).getD i undef = vs.getD (off + i) undef := by
    simp only [Array.getD_eq_getD_getElem?, Array.getElem?_extract]
    rw [if_pos (by omega)]
   rw [e]; exact this
 · cases hq

theorem zN {t e : TypeId} {s by_ : Nat} [ht : SlT P t e s by_] {x ix : Operand} {nn : Option Bool} {l : List PV} {i : Int} {q : PV} {c : List PV} (ho : o.op = .indexAddr t x ix) (h1 : view hp (ev x) = .sl s nn l)
 (h2 : ev ix = I i) (h0 : 0 ≤ i) (hq : l[i.toNat]? = some q) (hc : q.flat = some c) : PStep P o ev hp (.ptr c) :=
 .of_run fun w0 g ρ w av hb hx => by
  have e1 := hb.view (hx x (by simp [ho, Op.operands]))
  have e2 := val_of (hx ix (by simp [ho, Op.operands])) h2
  rw [h1] at e1
  have hlt : i.toNat < l.length := (List.getElem?_eq_some_iff.1 hq).1
  rcases VR.sl_inv e1 with ⟨_, rfl, _⟩ | ⟨_, _, _, rfl, _⟩ | ⟨b, off, cap, cc, cs, ea, hs, _, hcap, hmax, hf, hg, hv⟩
  · simp at hlt
  · simp at hlt
  · obtain ⟨f1, f2⟩ := hf _ q hq
    rw [hc] at f1
    obtain rfl : c = cc i.toNat := by simpa using f1
    refine ⟨.pointer (some ⟨b, off + i.toNat * s, none⟩), ?_, .of_VR (.ptr _ _ _ (fun k => cs (i.toNat * s + k)) (fun k hk => ?_) (fun k p hp' => hv _ _ _ hlt hp'))⟩
    · have hi : i < (l.length : Int) := by omega
      simp [execOp, ho, ea, e2, Instr.indexAt, asIntOf, run_underlying ht.hu, ht.hs, h0, hi, Addr.add_n, go_sem]
    · rw [Nat.add_assoc]
      refine hg _ ?_
      rw [f2] at hk
      calc i.toNat * s + k < i.toNat * s + s := by omega
       _ = (i.toNat + 1) * s := by rw [Nat.add_mul]; omega
       _ ≤ l.length * s := Nat.mul_le_mul_right _ hlt

theorem yA {t e : TypeId} {s by_ : Nat} [ht : SlT P t e s by_] {x ix : Operand} {e' : TypeId} {l : List PV} {i : Int} {id : Nat} (ho : o.op = .indexAddr t x ix) (h1 : ev x = .hp id)
 (hh : hp[id]? = some (.arr true s e' l)) (h2 : ev ix = I i) (h0 : 0 ≤ i) (hq : i.toNat < l.length) : PStep P o ev hp (.hat id (i.toNat * s)) :=
 .of_run fun w0 g ρ w av hb hx => by
  have e1 := hx x (by simp [ho, Op.operands])
  have e2 := val_of (hx ix (by simp [ho, Op.operands])) h2
  rw [h1] at e1
  have ea := HpV.arr e1 _ _ _ _ hh
  refine ⟨.pointer (some ⟨(ρ id).blk, i.toNat * s, none⟩), ?_, rfl⟩
  have hi : i < (l.length : Int) := by omega
  simp [execOp, ho, ea, e2, Instr.indexAt, asIntOf, run_underlying ht.hu, ht.hs, h0, hi, Addr.add_n, go_sem]

theorem ps_index_grid {t e : TypeId} {by_ : Nat} [ht : SlT P t e 1 by_] {x ix : Operand} {e1 e2 : TypeId} {rows : List (List PV)} {i : Int} {id : Nat} (ho : o.op = .indexAddr t x ix) (h1 : ev x = .hp id)
 (hh : hp[id]? = some (.grid e1 e2 rows)) (h2 : ev ix = I i) (h0 : 0 ≤ i) (hq : i.toNat < rows.length) : PStep P o ev hp (.hat id i.toNat) :=
 .of_run fun w0 g ρ w av hb hx => by
  have e1 := hx x (by simp [ho, Op.operands])
  have e2 := val_of (hx ix (by simp [ho, Op.operands])) h2
  rw [h1] at e1
  have ea := HpV.grid e1 _ _ _ hh
  refine ⟨.pointer (some ⟨(ρ id).blk, i.toNat, none⟩), ?_, rfl⟩
  have hi : i < (rows.length : Int) := by omega
  simp [execOp, ho, ea, e2, Instr.indexAt, asIntOf, run_underlying ht.hu, ht.hs, h0, hi, Addr.add_n, go_sem]

theorem ps_index_parr {t e : TypeId} {n s : Nat} [ht : ArrT P t n e s] {x ix : Operand} {c : List PV} {i : Int} (ho : o.op = .indexAddr t x ix) (h1 : ev x = .ptr c) (h2 : ev ix = I i) (h0 : 0 ≤ i) (hq : i.toNat < n) :
 PStep P o ev hp (.ptr (c.drop (i.toNat * s))) :=
 .of_run fun w0 g ρ w av hb hx => by
  have e1 := hx x (by simp [ho, Op.operands])
  have e2 := val_of (hx ix (by simp [ho, Op.operands])) h2
  rw [h1] at e1
  obtain ⟨b, of_, cs, ea, hg, hv⟩ := VR.ptr_inv e1
  have hi : i < (n : Int) := by omega
  refine ⟨.pointer (some ⟨b, of_ + i.toNat * s, none⟩), ?_, .of_VR (.ptr b _ _ (fun k => cs (i.toNat * s + k)) (fun k hk => ?_) (fun k q hq => ?_))⟩
  · simp [execOp, ho, ea, e2, Instr.indexAt, asIntOf, run_underlying ht.hu, ht.hs, h0, hi, Instr.sureAddr, Addr.add_n, go_sem]
  · rw [Nat.add_assoc]; exact hg _ (by simp at hk; omega)
  · exact hv _ q (by simpa using hq)

theorem ps_extract {x : Operand} {k : Nat} {l : List PV} {q : PV} (ho : o.op = .extract x k) (h1 : ev x = .tup l) (hq : l[k]? = some q) : PStep P o ev hp q :=
 .of_run fun w0 g ρ w av hb hx => by
  have e1 := hx x (by simp [ho, Op.operands])
  rw [h1] at e1
  obtain ⟨vs, ea, hl, hv⟩ := e1
  have hlt : k < vs.size := by rw [hl]; exact (List.getElem?_eq_some_iff.1 hq).1
  refine ⟨vs.getD k undef, ?_, liftT_of_A (hv _ q hq)⟩
  simp [execOp, ho, ea, Instr.extract, go_sem, hlt]

theorem ps_nilCheck_hat {x : Operand} {id i : Nat} (ho : o.op = .nilCheck x) (h1 : ev x = .hat id i) : PStep P o ev hp (.hat id i) :=
 .of_run fun w0 g ρ w av hb hx => by
  have e1 := hx x (by simp [ho, Op.operands])
  rw [h1] at e1
  have ea : av x = .pointer (some ⟨(ρ id).blk, i, none⟩) := e1
  refine ⟨av x, ?_, e1⟩
  simp [execOp, ho, ea, go_sem]
theorem ps_len {t e : TypeId} {s by_ : Nat} [ht : SlT P t e s by_] {x : Operand} {s' : Nat} {nn : Option Bool} {l : List PV} {tys : Array TypeId} (ho : o.op = .call { callee := .builtin .len, args := #[x], argTypes := tys }) (htys : tys = #[t])
 (h1 : view hp (ev x) = .sl s' nn l) : PStep P o ev hp (I l.length) :=
 .of_run fun w0 g ρ w av hb hx => by
  have e1 := hb.view (hx x (by simp [ho, Op.operands, Call.operands]))
  subst htys
  rw [h1] at e1
  rcases VR.sl_inv e1 with ⟨ea, rfl, _⟩ | ⟨_, _, ea, rfl, _⟩ | ⟨b, off, cap, cc, cs, ea, -⟩
  · exact ⟨.int .i64 0, by simp [execOp, ho, resolve, invoke, builtin, Builtin.len_, ea, run_underlying ht.hu, goInt, go_sem], .val _⟩
  · exact ⟨.int .i64 0, by simp [execOp, ho, resolve, invoke, builtin, Builtin.len_, ea, run_underlying ht.hu, goInt, go_sem], .val _⟩
  · exact ⟨.int .i64 l.length, by simp [execOp, ho, resolve, invoke, builtin, Builtin.len_, ea, run_underlying ht.hu, goInt, go_sem], .val _⟩
theorem ps_len_mut {t e : TypeId} {s by_ : Nat} [ht : SlT P t e s by_] {x : Operand} {s' e' id : Nat} {m : Bool} {l : List PV} {tys : Array TypeId} (ho : o.op = .call { callee := .builtin .len, args := #[x], argTypes := tys }) (htys : tys = #[t])
 (h1 : ev x = .hp id) (hh : hp[id]? = some (.arr m s' e' l)) : PStep P o ev hp (I l.length) :=
 .of_run fun w0 g ρ w av hb hx => by
  have e1 := hx x (by simp [ho, Op.operands, Call.operands])
  subst htys
  rw [h1] at e1
  have ea := HpV.arr e1 _ _ _ _ hh
  exact ⟨.int .i64 l.length, by simp [execOp, ho, resolve, invoke, builtin, Builtin.len_, ea, run_underlying ht.hu, goInt, go_sem], .val _⟩
theorem ps_len_grid {t e : TypeId} {s by_ : Nat} [ht : SlT P t e s by_] {x : Operand} {e1 e2 id : Nat} {rows : List (List PV)} {tys : Array TypeId} (ho : o.op = .call { callee := .builtin .len, args := #[x], argTypes := tys }) (htys : tys = #[t])
 (h1 : ev x = .hp id) (hh : hp[id]? = some (.grid e1 e2 rows)) : PStep P o ev hp (I rows.length) :=
 .of_run fun w0 g ρ w av hb hx => by
  have e1 := hx x (by simp [ho, Op.operands, Call.operands])
  subst htys
  rw [h1] at e1
  have ea := HpV.grid e1 _ _ _ hh
  exact ⟨.int .i64 rows.length, by simp [execOp, ho, resolve, invoke, builtin, Builtin.len_, ea, run_underlying ht.hu, goInt, go_sem], .val _⟩

end
end Go.Pv

/- Plain states, lists of operations, regions (in the order of the text, and in any order), code, loops, calls. -/
namespace Go.Pv
open Go

structure St where
 fr : List PV
 hp : List HO

def St.ev (S : St) : Operand → PV
 | .tmp t => S.fr.getD t (.val undef)
 | .const v => .val v
 | .global g => .val (.pointer (some ⟨g, 0, none⟩))
 | .func f => .fn f [] []

def St.put (S : St) (d : Option Tmp) (q : PV) : St :=
 match d with
 | some d => { S with fr := S.fr.set d q }
 | none => S

structure Rel (w0 : Ini) (S : St) (g : Ghost) (ρ : Nat → Loc) (a : Act) (w : World) : Prop where
 base : Base w0 S.hp g ρ w
 dead : a.defers = []
 size : a.tmps.size = S.fr.length
 fr : ∀ i p, S.fr[i]? = some p → VRS g ρ S.hp (a.tmps.getD i undef) p

theorem Rel.ev {w0 : Ini} {S : St} {g : Ghost} {ρ : Nat → Loc} {a : Act} {w : World} (h : Rel w0 S g ρ a w) (x : Operand) : VRS g ρ S.hp (a.eval x) (S.ev x) := by
 cases x with
 | tmp t =>
  simp only [Act.eval, St.ev, List.getD_eq_getElem?_getD]
  cases hq : S.fr[t]? with
  | some p => simpa using h.fr t p hq
  | none =>
   have : a.tmps.getD t undef = undef := by
    have := List.getElem?_eq_none_iff.1 hq
    simp [Array.getElem?_eq_none (show a.tmps.size ≤ t by rw [h.size]; exact this)]
   rw [this]; exact .of_VR (.val _)
 | const v => exact .of_VR (.val v)
 | global gl => exact .of_VR (.val _)
 | func f => exact .of_VR (.fn f #[] #[] [] [] rfl rfl (by simp) (by simp))

theorem Rel.put {w0 : Ini} {S : St} {g g' : Ghost} {ρ : Nat → Loc} {a : Act} {w w' : World} (h : Rel w0 S g ρ a w) (hb : Base w0 S.hp g' ρ w') (hx : GExt g g') {v : Value} {q : PV}
 (hv : VRS g' ρ S.hp v q) (d : Option Tmp) : Rel w0 (S.put d q) g' ρ (a.put d v) w' := by
 cases d with
 | none => exact ⟨hb, h.dead, h.size, fun i p hp => (h.fr i p hp).mono hx⟩
 | some d =>
  refine ⟨hb, h.dead, by simp [Act.put, St.put, h.size], fun i p hp => ?_⟩
  simp only [St.put] at hp
  simp only [Act.put, St.put]
  rw [List.getElem?_set] at hp
  split at hp
  · rename_i e
    subst e
    split at hp
    · rename_i hlt
      have hlt' : d < a.tmps.size := by rw [h.size]; exact hlt
      simp only [Option.some.injEq] at hp
      subst hp
      simpa [Array.getD_eq_getD_getElem?, hlt'] using hv
    · cases hp
  · rename_i e
    have := (h.fr i p hp).mono hx
    simpa [Array.getD_eq_getD_getElem?, Array.getElem?_setIfInBounds_ne e] using this

def guardS (ops : Array Oper) (fr : List PV) (o : Oper) : Option Bool :=
 match o.guard with
 | none => some true
 | some (j, want) =>
  match (ops[j]?).bind (·.dst) with
  | none => none
  | some d => match fr[d]? with
   | some (.val (.bool b)) => some (b == want)
   | some (.val (.tuple _)) => some false
   | _ => none

theorem guardS_spec {w0 : Ini} {S : St} {g : Ghost} {ρ : Nat → Loc} {a : Act} {w : World} (h : Rel w0 S g ρ a w) {ops : Array Oper} {o : Oper} {b : Bool} (hg : guardS ops S.fr o = some b) :
 Region.wanted o (yielded ops a.tmps) = b := by
 unfold guardS at hg
 unfold Region.wanted
 split at hg
 · rename_i hn
   simp only [hn]; simpa using hg
 · rename_i j want hn
   simp only [hn]
   split at hg
   · cases hg
   · rename_i d hd
     have hy : yielded ops a.tmps j = (match a.tmps.getD d undef with | .bool b => some b | _ => none) := by
      unfold yielded
      cases ho : ops[j]? with
      | none => simp [ho] at hd
      | some oj =>
       simp [ho] at hd
       simp only [Option.bind_some, hd]
       cases hv : a.tmps[d]? with
       | none => simp [hv, undef]
       | some v => simp only [Array.getD_eq_getD_getElem?, hv, Option.getD_some]; cases v <;> rfl
     rw [hy]
     split at hg
     · rename_i b' hq
       have := VR.val_inv (h.fr d _ hq)
       rw [this]
       simp only [Option.some.injEq] at hg
       subst hg
       cases b' <;> cases want <;> rfl
     · rename_i vs hq
       have := VR.val_inv (h.fr d _ hq)
       rw [this]
       simp only [Option.some.injEq] at hg
       subst hg
       cases want <;> rfl
     · cases hg

def EStep (P : Program) (o : Oper) (S S' : St) : Prop :=
 ∀ (w0 : Ini) (g : Ghost) (ρ : Nat → Loc) (a : Act) (w : World), Rel w0 S g ρ a w → ∀ (Q : Exit → Act → World → Prop) (K : Act → World → Prop),
  (∀ g' ρ' a' w', GExt g g' → Rel w0 S' g' ρ' a' w' → K a' w') → o.wp P a w K Q

def barrier (ops : Array Oper) (k : Nat) : Bool :=
 (List.range ops.size).all fun i => i == k || (if i < k then ((Region.before ops).getD k 0).testBit i else ((Region.before ops).getD i 0).testBit k)

def Ops (P : Program) (dr : Bool) (ops : Array Oper) (K : St → Prop) : List Oper → Nat → St → Prop
 | [], _, S => K S
 | o :: r, k, S => (guardS ops S.fr o = some true ∧ ((∃ q, PStep P o S.ev S.hp q ∧ Ops P dr ops K r (k + 1) (S.put o.dst q)) ∨
  ((!dr || barrier ops k) = true ∧ ∃ S', EStep P o S S' ∧ Ops P dr ops K r (k + 1) S'))) ∨
  (guardS ops S.fr o = some false ∧ Ops P dr ops K r (k + 1) (S.put o.dst (.val undef)))

theorem wpList_of_ops {P : Program} {dr : Bool} {ops : Array Oper} {K : St → Prop} {Q : Exit → Act → World → Prop} {w0 : Ini} (hK : ∀ S g ρ a w, K S → Rel w0 S g ρ a w → Q .normal a w) :
 ∀ (l : List Oper) (k : Nat) (S : St) (g : Ghost) (ρ : Nat → Loc) (a : Act) (w : World), Ops P dr ops K l k S → Rel w0 S g ρ a w → wpList P ops Q l a w
 | [], _, S, g, ρ, a, w, h, hr => hK S g ρ a w h hr
 | o :: r, k, S, g, ρ, a, w, h, hr => by
  unfold wpList
  rcases h with ⟨hg, h⟩ | ⟨hg, h⟩
  · rw [if_pos (guardS_spec hr hg)]
    left
    rcases h with ⟨q, hp, h⟩ | ⟨_, S', hp, h⟩
    · exact hp w0 g ρ w a hr.base (fun x _ => hr.ev x) Q _ fun v g' w' hx hb hv => wpList_of_ops hK r (k + 1) _ g' ρ _ w' h (hr.put hb hx hv o.dst)
    · exact hp w0 g ρ a w hr Q _ fun g' ρ' a' w' _ hr' => wpList_of_ops hK r (k + 1) S' g' ρ' a' w' h hr'
  · rw [if_neg (by rw [guardS_spec hr hg]; simp)]
    exact wpList_of_ops hK r (k + 1) _ g ρ _ w h (hr.put hr.base (GExt.refl g) (.of_VR (.val undef)) o.dst)

/-! ### Any order -/
section
variable {P : Program} {ops : Array Oper} {K : St → Prop}

def aStep (P : Program) (ops : Array Oper) (i : Nat) (K : St → Prop) (S : St) : Prop :=
 match ops[i]? with
 | none => K S
 | some o => (guardS ops S.fr o = some true ∧ ((∃ q, PStep P o S.ev S.hp q ∧ K (S.put o.dst q)) ∨ (barrier ops i = true ∧ ∃ S', EStep P o S S' ∧ K S'))) ∨
  (guardS ops S.fr o = some false ∧ K (S.put o.dst (.val undef)))

def aAny (P : Program) (ops : Array Oper) (K : St → Prop) : Nat → Array Bool → St → Prop
 | 0, listed, S => Region.ready .any ops listed = [] ∧ K S
 | n + 1, listed, S => (Region.ready .any ops listed = [] → K S) ∧ ∀ i ∈ Region.ready .any ops listed, aStep P ops i (aAny P ops K n (listed.setIfInBounds i true)) S

theorem wpAny_of_aAny {Q : Exit → Act → World → Prop} {w0 : Ini} (hK : ∀ S g ρ a w, K S → Rel w0 S g ρ a w → Q .normal a w) :
 ∀ (n : Nat) (listed : Array Bool) (S : St) (g : Ghost) (ρ : Nat → Loc) (a : Act) (w : World), aAny P ops K n listed S → Rel w0 S g ρ a w → wpAny P .any ops Q n listed a w
 | 0, _, S, g, ρ, a, w, h, hr => ⟨h.1, hK S g ρ a w h.2 hr⟩
 | n + 1, listed, S, g, ρ, a, w, h, hr => by
  refine ⟨fun h0 => hK S g ρ a w (h.1 h0) hr, fun i hi => ?_⟩
  have h1 := h.2 i hi
  unfold aStep at h1
  unfold wpOp
  split
  · rename_i ho
    simp only [ho] at h1
    exact wpAny_of_aAny hK n _ S g ρ a w h1 hr
  · rename_i o ho
    simp only [ho] at h1
    rcases h1 with ⟨hg, h1⟩ | ⟨hg, h1⟩
    · rw [if_pos (guardS_spec hr hg)]
      left
      rcases h1 with ⟨q, hp, h1⟩ | ⟨_, S', hp, h1⟩
      · exact hp w0 g ρ w a hr.base (fun x _ => hr.ev x) Q _ fun v g' w' hx hb hv => wpAny_of_aAny hK n _ _ g' ρ _ w' h1 (hr.put hb hx hv o.dst)
      · exact hp w0 g ρ a w hr Q _ fun g' ρ' a' w' _ hr' => wpAny_of_aAny hK n _ S' g' ρ' a' w' h1 hr'
    · rw [if_neg (by rw [guardS_spec hr hg]; simp)]
      exact wpAny_of_aAny hK n _ _ g ρ _ w h1 (hr.put hr.base (GExt.refl g) (.of_VR (.val undef)) o.dst)

theorem PStep.congr {o : Oper} {ev ev' : Operand → PV} {hp : List HO} {q : PV} (h : ∀ x ∈ o.op.operands, ev x = ev' x) (hp' : PStep P o ev hp q) : PStep P o ev' hp q :=
 fun w0 g ρ w a hb hx Q K' hK => hp' w0 g ρ w a hb (fun x hm => by rw [h x hm]; exact hx x hm) Q K' hK

theorem St.ev_put (S : St) (d : Option Tmp) (u : PV) (x : Operand) (h : ∀ t, d = some t → x ≠ .tmp t) : (S.put d u).ev x = S.ev x := by
 cases d with
 | none => rfl
 | some d =>
  cases x with
  | tmp t =>
   have hne : d ≠ t := fun e => h d rfl (e ▸ rfl)
   simp [St.ev, St.put, hne]
  | _ => rfl

theorem mem_looksAt_op {o : Oper} {t : Tmp} (h : Operand.tmp t ∈ o.op.operands) : t ∈ o.looksAt ops :=
 List.mem_append_left _ (List.mem_filterMap.2 ⟨.tmp t, by simpa using h, rfl⟩)

theorem PStep.put_iff {o : Oper} {S : St} {d : Option Tmp} {u q : PV} (hd : ∀ t, d = some t → t ∉ o.looksAt ops) : PStep P o (S.put d u).ev (S.put d u).hp q ↔ PStep P o S.ev S.hp q := by
 have hh : (S.put d u).hp = S.hp := by cases d <;> rfl
 have he : ∀ x ∈ o.op.operands, (S.put d u).ev x = S.ev x := fun x hx => S.ev_put d u x fun t ht e => hd t ht (mem_looksAt_op (e ▸ hx))
 rw [hh]
 exact ⟨fun h => h.congr he, fun h => h.congr fun x hx => (he x hx).symm⟩

theorem guardS_put {o : Oper} {S : St} {d : Option Tmp} {u : PV} (hd : ∀ t, d = some t → t ∉ o.looksAt ops) : guardS ops (S.put d u).fr o = guardS ops S.fr o := by
 cases d with
 | none => rfl
 | some d =>
  unfold guardS
  cases hgd : o.guard with
  | none => rfl
  | some p =>
   obtain ⟨j, want⟩ := p
   simp only []
   cases hj : (ops[j]?).bind (·.dst) with
   | none => rfl
   | some d' =>
    have hne : d ≠ d' := fun e => hd d rfl (by
     subst e
     exact List.mem_append_right _ (by simp [hgd, hj]))
    simp only [St.put, List.getElem?_set_ne hne]

theorem St.put_comm (S : St) {x y : Option Tmp} (v u : PV) (h : ∀ d, x = some d → y ≠ some d) : (S.put x v).put y u = (S.put y u).put x v := by
 cases x with
 | none => rfl
 | some d =>
  cases y with
  | none => rfl
  | some d' =>
   have hne : d ≠ d' := fun e => h d rfl (e ▸ rfl)
   simp only [St.put]
   rw [List.set_comm _ _ hne]

def Yields (P : Program) (ops : Array Oper) (o : Oper) (q : PV) (S : St) : Prop :=
 (guardS ops S.fr o = some true ∧ PStep P o S.ev S.hp q) ∨ (guardS ops S.fr o = some false ∧ q = .val undef)

theorem Yields.step {i : Nat} {o : Oper} {q : PV} {S : St} (hi : ops[i]? = some o) (hy : Yields P ops o q S) (h : K (S.put o.dst q)) : aStep P ops i K S := by
 unfold aStep
 simp only [hi]
 rcases hy with ⟨h1, h2⟩ | ⟨h1, rfl⟩
 · exact .inl ⟨h1, .inl ⟨q, h2, h⟩⟩
 · exact .inr ⟨h1, h⟩

def Closed (ops : Array Oper) (listed : Array Bool) : Prop :=
 ∀ j o, ops[j]? = some o → listed.getD j false = true → ∀ e ∈ o.after, Region.binds .any e = true → listed.getD e.on false = true

theorem Closed.set {listed : Array Bool} (h : Closed ops listed) {i : Nat} (hi : i ∈ Region.ready .any ops listed) : Closed ops (listed.setIfInBounds i true) := by
 obtain ⟨h0, oi, hoi, hall⟩ := mem_ready.1 hi
 have keep : ∀ k, listed.getD k false = true → (listed.setIfInBounds i true).getD k false = true := fun k hk => by
  by_cases e : i = k
  · subst e
    have hlt : i < listed.size := by
     rcases Nat.lt_or_ge i listed.size with h' | h'
     · exact h'
     · simp [Array.getElem?_eq_none h'] at hk
    simp [hlt]
  · rw [getD_set_ne false e]; exact hk
 intro j o ho hj e he hb
 by_cases hji : i = j
 · subst hji
   rw [hoi] at ho
   cases ho
   exact keep _ (hall e he hb)
 · rw [getD_set_ne false hji] at hj
   exact keep _ (h j o ho hj e he hb)

theorem testBit_fold (b : Array Nat) (i : Nat) : ∀ (l : List Edge) (s : Nat), (l.foldl (fun s e => if Region.binds .any e then s ||| 2 ^ e.on ||| b.getD e.on 0 else s) s).testBit i = true →
 s.testBit i = true ∨ ∃ e ∈ l, Region.binds .any e = true ∧ (i = e.on ∨ (b.getD e.on 0).testBit i = true)
 | [], s, h => .inl h
 | e :: l, s, h => by
  rcases testBit_fold b i l _ h with h' | ⟨e', he', h'⟩
  · dsimp only at h'
    split at h'
    · rename_i hb
      simp only [Nat.testBit_or, Bool.or_eq_true, Nat.testBit_two_pow, decide_eq_true_eq] at h'
      rcases h' with (h' | h') | h'
      · exact .inl h'
      · exact .inr ⟨e, by simp, hb, .inl h'.symm⟩
      · exact .inr ⟨e, by simp, hb, .inr h'⟩
    · exact .inl h'
  · exact .inr ⟨e', by simp [he'], h'⟩

def bstep (acc : Array Nat) (o : Oper) : Array Nat := acc.push (o.after.foldl (fun s e => if Region.binds .any e then s ||| 2 ^ e.on ||| acc.getD e.on 0 else s) 0)

theorem before_fold (l : List Oper) : ∀ (acc : Array Nat), (l.foldl bstep acc).size = acc.size + l.length ∧ (∀ j, j < acc.size → (l.foldl bstep acc)[j]? = acc[j]?) ∧
 ∀ j o, l[j]? = some o → ∃ b : Array Nat, b.size = acc.size + j ∧ (∀ k, k < b.size → b[k]? = (l.foldl bstep acc)[k]?) ∧
  (l.foldl bstep acc)[acc.size + j]? = some (o.after.foldl (fun s e => if Region.binds .any e then s ||| 2 ^ e.on ||| b.getD e.on 0 else s) 0) := by
 induction l with
 | nil => intro acc; exact ⟨rfl, fun _ _ => rfl, fun j o h => by simp at h⟩
 | cons x l ih =>
  intro acc
  obtain ⟨h1, h2, h3⟩ := ih (bstep acc x)
  have hs : (bstep acc x).size = acc.size + 1 := by simp [bstep]
  refine ⟨by simp only [List.foldl_cons, h1, hs, List.length_cons]; omega, fun j hj => ?_, fun j o hj => ?_⟩
  · simp only [List.foldl_cons]
    rw [h2 j (by omega)]
    simp [bstep, Array.getElem?_push, show j ≠ acc.size by omega]
  · cases j with
    | zero =>
     simp at hj
     subst hj
     refine ⟨acc, rfl, fun k hk => ?_, ?_⟩
     · simp only [List.foldl_cons]
       rw [h2 k (by omega)]
       simp [bstep, Array.getElem?_push, show k ≠ acc.size by omega]
     · simp only [List.foldl_cons, Nat.add_zero]
       rw [h2 acc.size (by omega)]
       simp [bstep]
    | succ j =>
     obtain ⟨b, hb1, hb2, hb3⟩ := h3 j o (by simpa using hj)
     refine ⟨b, by rw [hb1, hs]; omega, fun k hk => by simp only [List.foldl_cons]; exact hb2 k hk, ?_⟩
     simp only [List.foldl_cons]
     rw [show acc.size + (j + 1) = (bstep acc x).size + j by rw [hs]; omega]
     exact hb3

theorem before_spec {j : Nat} {o : Oper} (hj : ops[j]? = some o) {i : Nat} (hi : ((Region.before ops).getD j 0).testBit i = true) :
 ∃ e ∈ o.after, Region.binds .any e = true ∧ (i = e.on ∨ (e.on < j ∧ ((Region.before ops).getD e.on 0).testBit i = true)) := by
 have hdef : Region.before ops = ops.toList.foldl bstep #[] := by
  unfold Region.before
  rw [← Array.foldl_toList]
  rfl
 obtain ⟨-, -, h3⟩ := before_fold ops.toList #[]
 obtain ⟨b, hb1, hb2, hb3⟩ := h3 j o (by simpa using hj)
 rw [hdef] at hi ⊢
 simp only [List.size_toArray, List.length_nil, Nat.zero_add] at hb1 hb3
 rw [Array.getD_eq_getD_getElem?, hb3, Option.getD_some, ← Array.foldl_toList] at hi
 rcases testBit_fold b i o.after.toList 0 hi with h | ⟨e, he, hbd, h⟩
 · simp at h
 · refine ⟨e, by simpa using he, hbd, ?_⟩
   rcases h with h | h
   · exact .inl h
   · right
     by_cases hlt : e.on < b.size
     · refine ⟨by omega, ?_⟩
       rw [Array.getD_eq_getD_getElem?, ← hb2 _ hlt, ← Array.getD_eq_getD_getElem?]
       exact h
     · simp [Array.getElem?_eq_none (Nat.le_of_not_lt hlt)] at h

theorem listed_of_before {listed : Array Bool} (hc : Closed ops listed) : ∀ (j : Nat) (o : Oper), ops[j]? = some o → (∀ e ∈ o.after, Region.binds .any e = true → listed.getD e.on false = true) →
 ∀ i, ((Region.before ops).getD j 0).testBit i = true → listed.getD i false = true := by
 intro j
 induction j using Nat.strongRecOn with
 | _ j ih =>
  intro o ho hall i hi
  obtain ⟨e, he, hb, h⟩ := before_spec ho hi
  rcases h with rfl | ⟨hlt, h⟩
  · exact hall e he hb
  · have hl := hall e he hb
    have hjs : j < ops.size := (Array.getElem?_eq_some_iff.1 ho).1
    exact ih e.on hlt ops[e.on] (Array.getElem?_eq_getElem (by omega)) (fun e' he' hb' => hc e.on _ (Array.getElem?_eq_getElem (by omega)) hl e' he' hb') i h

theorem barrier_alone {listed : Array Bool} (hc : Closed ops listed) {k i : Nat} (hb : barrier ops k = true) (hk : k ∈ Region.ready .any ops listed) (hi : i ∈ Region.ready .any ops listed) : i = k := by
 obtain ⟨hk0, ok, hok, hkall⟩ := mem_ready.1 hk
 obtain ⟨hi0, oi, hoi, hiall⟩ := mem_ready.1 hi
 have hun : ∀ x, listed.getD x true = false → listed.getD x false = true → False := fun x h1 h2 => by
  rcases Nat.lt_or_ge x listed.size with h' | h'
  · simp [h'] at h1 h2; rw [h1] at h2; cases h2
  · simp [Array.getElem?_eq_none h'] at h1
 have hb' := List.all_eq_true.1 hb i (List.mem_range.2 (Array.getElem?_eq_some_iff.1 hoi).1)
 simp only [Bool.or_eq_true, beq_iff_eq] at hb'
 rcases hb' with h | h
 · exact h
 · split at h
   · exact (hun i hi0 (listed_of_before hc k ok hok hkall i h)).elim
   · exact (hun k hk0 (listed_of_before hc i oi hoi hiall k h)).elim

theorem aStep_mono {i : Nat} {S : St} {K K' : St → Prop} (h : ∀ S, K S → K' S) (hh : aStep P ops i K S) : aStep P ops i K' S := by
 unfold aStep at *
 split
 · rename_i ho; simp only [ho] at hh; exact h _ hh
 · rename_i o ho
   simp only [ho] at hh
   rcases hh with ⟨hg, ⟨q, hp, hk⟩ | ⟨hb, S', hp, hk⟩⟩ | ⟨hg, hk⟩
   · exact .inl ⟨hg, .inl ⟨q, hp, h _ hk⟩⟩
   · exact .inl ⟨hg, .inr ⟨hb, S', hp, h _ hk⟩⟩
   · exact .inr ⟨hg, h _ hk⟩

theorem aStep_put {i j : Nat} {oi oj : Oper} {q : PV} {listed : Array Bool} (hc : Closed ops listed) (hir : i ∈ Region.ready .any ops listed) (hjr : j ∈ Region.ready .any ops listed) (hij : j ≠ i)
 (hj : ops[j]? = some oj) (hap : oi.apart ops oj = true) {S : St} {K : St → Prop}
 (hy : Yields P ops oi q S) (h : aStep P ops j K (S.put oi.dst q)) : aStep P ops j (fun S' => Yields P ops oi q S' ∧ K (S'.put oi.dst q)) S := by
 obtain ⟨h1, h2, h3⟩ := Oper.apart_spec hap
 have keep : ∀ u, Yields P ops oi q (S.put oj.dst u) := fun u => by
  unfold Yields
  rw [guardS_put (S := S) (d := oj.dst) (u := u) h3]
  rcases hy with ⟨a, b⟩ | ⟨a, b⟩
  · exact .inl ⟨a, (PStep.put_iff h3).2 b⟩
  · exact .inr ⟨a, b⟩
 unfold aStep at *
 simp only [hj] at *
 rw [guardS_put (S := S) (d := oi.dst) (u := q) h1] at h
 rcases h with ⟨hg, ⟨u, hp, hk⟩ | ⟨hb, -⟩⟩ | ⟨hg, hk⟩
 · exact .inl ⟨hg, .inl ⟨u, (PStep.put_iff h1).1 hp, keep u, by rw [← S.put_comm q u h2]; exact hk⟩⟩
 · exact (hij (barrier_alone hc hb hjr hir).symm).elim
 · exact .inr ⟨hg, keep _, by rw [← S.put_comm q _ h2]; exact hk⟩

theorem aAny_first {i : Nat} {oi : Oper} {q : PV} (hi : ops[i]? = some oi) : ∀ (fuel : Nat) (listed : Array Bool) (S : St), Closed ops listed →
 (∀ j oj, ops[j]? = some oj → j ≠ i → listed.getD j true = false → (∀ e ∈ oj.after, Region.binds .any e = true → e.on ≠ i) → oi.apart ops oj = true) →
 i ∈ Region.ready .any ops listed → Yields P ops oi q S → aAny P ops K fuel (listed.setIfInBounds i true) (S.put oi.dst q) → aAny P ops K (fuel + 1) listed S := by
 intro fuel
 induction fuel with
 | zero =>
  intro listed S _ _ hr hy H
  refine ⟨fun h => (by rw [h] at hr; cases hr), fun j hj => ?_⟩
  by_cases hji : j = i
  · subst hji; exact hy.step hi H
  · have := ready_mono hj hji
    rw [H.1] at this
    cases this
 | succ fuel ih =>
  intro listed S hc hfree hr hy H
  refine ⟨fun h => (by rw [h] at hr; cases hr), fun j hj => ?_⟩
  by_cases hji : j = i
  · subst hji; exact hy.step hi H
  · have h1 := H.2 j (ready_mono hj hji)
    obtain ⟨hjun, oj, hoj, hall⟩ := mem_ready.1 hj
    have hnot : ∀ e ∈ oj.after, Region.binds .any e = true → e.on ≠ i := fun e he hb heq => by
     have h1 := hall e he hb
     have h0 := (mem_ready.1 hr).1
     rw [heq] at h1
     rcases Nat.lt_or_ge i listed.size with h' | h'
     · simp [h'] at h0 h1; rw [h0] at h1; cases h1
     · simp [Array.getElem?_eq_none h'] at h1
    have h2 := aStep_put hc hr hj hji hoj (hfree j oj hoj hji hjun hnot) hy h1
    have hfree' : ∀ k ok, ops[k]? = some ok → k ≠ i → (listed.setIfInBounds j true).getD k true = false →
     (∀ e ∈ ok.after, Region.binds .any e = true → e.on ≠ i) → oi.apart ops ok = true := fun k ok hk hki hun hno => by
     refine hfree k ok hk hki ?_ hno
     by_cases hjk : j = k
     · subst hjk; exact hjun
     · rw [getD_set_ne true hjk] at hun; exact hun
    refine aStep_mono (fun S' h3 => ih (listed.setIfInBounds j true) S' (hc.set hj) hfree' (ready_mono hr (Ne.symm hji)) h3.1 ?_) h2
    rw [Array.setIfInBounds_comm _ _ hji]
    exact h3.2

theorem aAny_lex : ∀ (l : List Oper) (k : Nat) (listed : Array Bool) (S : St), (∀ j, l[j]? = ops[k + j]?) → Closed ops listed →
 Region.lexFrom .any ops l.length k listed = true → Ops P true ops K l k S → aAny P ops K l.length listed S
 | [], _, _, _, _, _, hB, h => ⟨by simpa [Region.lexFrom] using hB, h⟩
 | o :: l, k, listed, S, hl, hc, hB, h => by
  have h0 : ops[k]? = some o := by simpa using (hl 0).symm
  simp only [List.length_cons, Region.lexFrom, Bool.and_eq_true] at hB
  obtain ⟨⟨hr, hf⟩, hB'⟩ := hB
  have hr' : k ∈ Region.ready .any ops listed := by simpa using hr
  have hl' : ∀ j, l[j]? = ops[k + 1 + j]? := fun j => by have := hl (j + 1); simpa [Nat.add_assoc, Nat.add_comm 1 j] using this
  rcases h with ⟨hg, ⟨q, hp, h⟩ | ⟨hb, S', hp, h⟩⟩ | ⟨hg, h⟩
  · exact aAny_first h0 l.length listed S hc (Region.free_spec h0 hf) hr' (.inl ⟨hg, hp⟩) (aAny_lex l (k + 1) _ _ hl' (hc.set hr') hB' h)
  · have hb' : barrier ops k = true := by simpa using hb
    refine ⟨fun e => (by rw [e] at hr'; cases hr'), fun i hi => ?_⟩
    obtain rfl := barrier_alone hc hb' hr' hi
    unfold aStep
    simp only [h0]
    exact .inl ⟨hg, .inr ⟨hb', S', hp, aAny_lex l (i + 1) _ _ hl' (hc.set hr') hB' h⟩⟩
  · exact aAny_first h0 l.length listed S hc (Region.free_spec h0 hf) hr' (.inr ⟨hg, rfl⟩) (aAny_lex l (k + 1) _ _ hl' (hc.set hr') hB' h)
end

def Goal (P : Program) (c : Code) (K : Exit → St → Prop) (S : St) : Prop :=
 ∀ (w0 : Ini) (g : Ghost) (ρ : Nat → Loc) (a : Act) (w : World) (Q : Exit → Act → World → Prop), Rel w0 S g ρ a w →
  (∀ e S' g' ρ' a' w', K e S' → Rel w0 S' g' ρ' a' w' → Q e a' w') → c.wp P Q a w

def KSeq (P : Program) (c : Code) (K : Exit → St → Prop) : Exit → St → Prop
 | .normal, S => Goal P c K S
 | e, S => K e S
def KBlock (id : Nat) (K : Exit → St → Prop) : Exit → St → Prop
 | .exit id', S => if id' = id then K .normal S else K (.exit id') S
 | e, S => K e S

section
variable {P : Program} {K : Exit → St → Prop} {S : St}
theorem g_seq {x y : Code} (h : Goal P x (KSeq P y K) S) : Goal P (x.seq y) K S := fun w0 g ρ a w Q hr hQ =>
 wp_seq (h w0 g ρ a w _ hr fun e S' g' ρ' a' w' hk hr' => by
  cases e with
  | normal => exact hk w0 g' ρ' a' w' Q hr' hQ
  | _ => exact hQ _ S' g' ρ' a' w' hk hr')
theorem zJ {id : Nat} {c : Code} (h : Goal P c (KBlock id K) S) : Goal P (.block id c) K S := fun w0 g ρ a w Q hr hQ =>
 wp_block (h w0 g ρ a w _ hr fun e S' g' ρ' a' w' hk hr' => by
  cases e with
  | exit id' =>
   simp only [KBlock] at hk
   simp only [Exit.inBlock]
   split
   · rename_i e; rw [if_pos e] at hk; exact hQ _ S' g' ρ' a' w' hk hr'
   · rename_i e; rw [if_neg e] at hk; exact hQ _ S' g' ρ' a' w' hk hr'
  | _ => exact hQ _ S' g' ρ' a' w' hk hr')
theorem zR (h : K .normal S) : Goal P .skip K S := fun _ g ρ a w _ hr hQ => wp_skip (hQ _ S g ρ a w h hr)
theorem g_exit {id : Nat} (h : K (.exit id) S) : Goal P (.exit id) K S := fun _ g ρ a w _ hr hQ => wp_exit (hQ _ S g ρ a w h hr)
theorem g_ret (h : K .ret S) : Goal P .ret K S := fun _ g ρ a w _ hr hQ => wp_ret (hQ _ S g ρ a w h hr)
theorem g_cond {c : Operand} {x y : Code} {b : Bool} (hc : S.ev c = B b) (ht : b = true → Goal P x K S) (hf : b = false → Goal P y K S) : Goal P (.cond c x y) K S := fun w0 g ρ a w Q hr hQ => by
 have he := val_of (hr.ev c) hc
 exact wp_cond_split he (fun h => ht h w0 g ρ a w Q hr hQ) (fun h => hf h w0 g ρ a w Q hr hQ)
theorem zC {id : Nat} {l : List Oper} (h : Ops P false l.toArray (K .normal) l 0 S) : Goal P (.region id l.toArray false) K S := fun _ g ρ a w _ hr hQ =>
 wp_region_lit (wpList_of_ops (fun S' g' ρ' a' w' hk hr' => hQ .normal S' g' ρ' a' w' hk hr') l 0 S g ρ a w h hr)

theorem Rel.drew {w0 : Ini} {S : St} {g : Ghost} {ρ : Nat → Loc} {a : Act} {w : World} (h : Rel w0 S g ρ a w) : Rel w0 S g ρ a { w with drawn := w.drawn + 1 } :=
 ⟨h.base.step (RowKit.Below.drew (RowKit.Below.refl _ w)) (fun b o v hv => h.base.agree b o v hv) (GExt.refl g) (fun _ _ _ => rfl), h.dead, h.size, h.fr⟩

theorem zP {id : Nat} {l : List Oper} (hm : P.follows .mixedOrders = true) (hB : Region.lexFrom .any l.toArray l.length 0 (Array.replicate l.length false) = true)
 (h : Ops P true l.toArray (K .normal) l 0 S) : Goal P (.region id l.toArray true) K S := fun w0 g ρ a w Q hr hQ => by
 refine wp_region_any hm (wpAny_of_aAny (K := K .normal) (fun S' g' ρ' a' w' hk hr' => hQ .normal S' g' ρ' a' w' hk hr') _ _ S g ρ a _ ?_ hr.drew)
 have := aAny_lex (P := P) (K := K .normal) l 0 (Array.replicate l.length false) S (by simp) (fun j o _ hj => by
  rw [Array.getD_eq_getD_getElem?, Array.getElem?_replicate] at hj
  split at hj <;> simp at hj) hB h
 simpa using this

/-! ### Weakening -/
def frLe : List PV → List PV → Prop
 | [], [] => True
 | p :: l, q :: m => (q = .any ∨ p = q) ∧ frLe l m
 | _, _ => False
theorem frLe_refl : ∀ l : List PV, frLe l l
 | [] => trivial
 | _ :: l => ⟨.inr rfl, frLe_refl l⟩
theorem frLe_spec : ∀ {l m : List PV}, frLe l m → l.length = m.length ∧ ∀ (i : Nat) (q : PV), m[i]? = some q → q = PV.any ∨ l[i]? = some q
 | [], [], _ => ⟨rfl, fun i q h => by simp at h⟩
 | p :: l, q :: m, h => by
  obtain ⟨h1, h2⟩ := frLe_spec h.2
  refine ⟨by simp [h1], fun i r hr => ?_⟩
  cases i with
  | zero => simp at hr; subst hr; rcases h.1 with h | h; exact .inl h; exact .inr (by simp [h])
  | succ i => simpa using h2 i r (by simpa using hr)
 | [], _ :: _, h => h.elim
 | _ :: _, [], h => h.elim

def hpLe (h h' : List HO) : Prop := ∀ (id : Nat) (ho : HO), h'[id]? = some ho → ho = HO.gone ∨ h[id]? = some ho
theorem hpLe_refl (h : List HO) : hpLe h h := fun _ _ h => .inr h

def St.le (S S' : St) : Prop := frLe S.fr S'.fr ∧ hpLe S.hp S'.hp
theorem St.le_refl (S : St) : S.le S := ⟨frLe_refl _, hpLe_refl _⟩

theorem HpV.weaken {ρ : Nat → Loc} {hp hp' : List HO} (hh : hpLe hp hp') {v : Value} {id : Nat} (h : HpV ρ hp v id) : HpV ρ hp' v id where
 sl := h.sl
 arr := fun m s e l hid => by
  rcases hh _ _ hid with h' | h'
  · cases h'
  · exact h.arr _ _ _ _ h'
 grid := fun e1 e2 rows hid => by
  rcases hh _ _ hid with h' | h'
  · cases h'
  · exact h.grid _ _ _ h'
 sg := fun e1 e2 n rows hid => by
  rcases hh _ _ hid with h' | h'
  · cases h'
  · exact h.sg _ _ _ _ h'
 pg := fun e1 e2 n rows hid => by
  rcases hh _ _ hid with h' | h'
  · cases h'
  · exact h.pg _ _ _ _ h'
 box := fun l hid => by
  rcases hh _ _ hid with h' | h'
  · cases h'
  · exact h.box _ h'
theorem VRS1.weaken {g : Ghost} {ρ : Nat → Loc} {hp hp' : List HO} (hh : hpLe hp hp') {v : Value} {p : PV} (h : VRS1 g ρ hp v p) : VRS1 g ρ hp' v p := by
 cases p with
 | hp id => exact HpV.weaken hh h
 | hpv id b c => exact ⟨HpV.weaken hh h.1, h.2⟩
 | gr id i =>
  refine (⟨GrV.sl h, fun e1 e2 rows r hid hr => ?_, fun e1 e2 _n rows r hid hr => ?_⟩ : GrV _ _ _ _ _)
  rotate_left
  · rcases hh _ _ hid with h' | h'
    · cases h'
    · exact GrV.sg h _ _ _ _ _ h' hr
  rcases hh _ _ hid with h' | h'
  · cases h'
  · exact GrV.grid h _ _ _ _ h' hr
 | _ => exact h
theorem VRS.weaken {g : Ghost} {ρ : Nat → Loc} {hp hp' : List HO} (hh : hpLe hp hp') {v : Value} {p : PV} (h : VRS g ρ hp v p) : VRS g ρ hp' v p := h.turn fun _ _ h => h.weaken hh

theorem Rel.weaken {w0 : Ini} {S S' : St} {g : Ghost} {ρ : Nat → Loc} {a : Act} {w : World} (h : Rel w0 S g ρ a w) (hl : S.le S') : Rel w0 S' g ρ a w := by
 obtain ⟨h1, h2⟩ := frLe_spec hl.1
 refine ⟨⟨h.base.below, h.base.agree, h.base.old, fun n ho hid => ?_, fun i j x y b hij hx hy fx fy => ?_⟩, h.dead, h.size.trans h1, fun i p hp => ?_⟩
 · rcases hl.2 n ho hid with rfl | h'
   · trivial
   · exact mapHO_id ho ▸ (h.base.own n ho h').keep (GExt.refl g) id (fun _ _ hv => hv.weaken hl.2) (fun b _ => ⟨rfl, fun _ => rfl⟩)
 · rcases hl.2 i x hx with rfl | hx'
   · exact fx
   · rcases hl.2 j y hy with rfl | hy'
     · exact fy
     · exact h.base.sep i j x y b hij hx' hy' fx fy
 · rcases h2 i p hp with rfl | h'
   · exact .of_VR (.any _)
   · exact (h.fr i p h').weaken hl.2

theorem g_weaken {c : Code} {S' : St} (hl : S.le S') (h : Goal P c K S') : Goal P c K S := fun w0 g ρ a w Q hr hQ => h w0 g ρ a w Q (hr.weaken hl) hQ

/-! ### Loops -/
def KLoop {α : Type} (F : α → St) (p : α → Prop) (m : α → Nat) (x : α) (K : Exit → St → Prop) : Exit → St → Prop
 | .normal, S => ∃ y, p y ∧ m y < m x ∧ S.le (F y)
 | e, S => K e S

theorem g_loop {α : Type} (F : α → St) (p : α → Prop) (m : α → Nat) (x0 : α) {c : Code} (h0 : p x0) (hS : S.le (F x0)) (round : ∀ x, p x → Goal P c (KLoop F p m x K) (F x)) : Goal P (.loop c) K S := by
 intro w0 g ρ a w Q hr hQ
 refine wp_loop_ghost (fun n a' w' => ∃ x g' ρ', p x ∧ m x = n ∧ Rel w0 (F x) g' ρ' a' w') (m x0) ⟨x0, g, ρ, h0, rfl, hr.weaken hS⟩ ?_
 rintro n a' w' ⟨x, g', ρ', hp, rfl, hr'⟩
 refine round x hp w0 g' ρ' a' w' _ hr' fun e S' g'' ρ'' a'' w'' hk hr'' => ?_
 cases e with
 | normal =>
  obtain ⟨y, hy, hlt, hle⟩ := hk
  exact ⟨m y, hlt, y, g'', ρ'', hy, rfl, hr''.weaken hle⟩
 | _ => exact hQ _ S' g'' ρ'' a'' w'' hk hr''

def dsts : Code → List Tmp
 | .region _ ops _ => ops.toList.filterMap (·.dst)
 | .seq x y | .cond _ x y => dsts x ++ dsts y
 | .block _ x | .loop x | .scope x => dsts x
 | _ => []
def havoc (l : List Tmp) (fr : List PV) : List PV := l.foldl (fun (fr : List PV) d => fr.set d PV.any) fr
def zZ (fr : List PV) : List (Nat × PV) → List PV
 | [] => fr
 | (i, p) :: r => zZ (fr.set i p) r

end
end Go.Pv

/- Operations that make memory, calls, and the entry of a function. -/
namespace Go.Pv
open Go

/-! ### Filling cells -/
theorem fold_set (off : Nat) : ∀ (l : List Value) (n : Nat) (arr : Array Value), off + n + l.length ≤ arr.size →
 ((l.zipIdx n).foldl (fun cs (p : Value × Nat) => cs.setIfInBounds (off + p.2) p.1) arr).size = arr.size ∧
 ∀ k, ((l.zipIdx n).foldl (fun cs (p : Value × Nat) => cs.setIfInBounds (off + p.2) p.1) arr).getD k undef = if off + n ≤ k ∧ k < off + n + l.length then l.getD (k - (off + n)) undef else arr.getD k undef
 | [], n, arr, _ => ⟨rfl, fun k => by rw [if_neg (by simp)]; rfl⟩
 | v :: l, n, arr, h => by
  simp only [List.length_cons] at h
  obtain ⟨h1, h2⟩ := fold_set off l (n + 1) (arr.setIfInBounds (off + n) v) (by simp; omega)
  refine ⟨by simpa using h1, fun k => ?_⟩
  simp only [List.zipIdx_cons, List.foldl_cons, List.length_cons]
  rw [h2 k]
  by_cases hk : k = off + n
  · subst hk
    rw [if_neg (by omega), if_pos (by omega)]
    simp [show off + n < arr.size by omega]
  · by_cases hin : off + (n + 1) ≤ k ∧ k < off + (n + 1) + l.length
    · rw [if_pos hin, if_pos (by omega)]
      rw [show k - (off + n) = (k - (off + (n + 1))) + 1 by omega]
      simp
    · rw [if_neg hin, if_neg (by omega)]
      simp [Array.getElem?_setIfInBounds_ne (Ne.symm hk)]

def zipFrom {α : Type} : Nat → List α → List (Nat × α)
 | _, [] => []
 | k, v :: vs => (k, v) :: zipFrom (k + 1) vs

theorem zipFrom_map {α β : Type} (f : α → β) : ∀ (k : Nat) (l : List α), (zipFrom k l).map (fun p => (p.1, f p.2)) = zipFrom k (l.map f)
 | _, [] => rfl
 | k, v :: l => by simp [zipFrom, zipFrom_map f (k + 1) l]

theorem fill_step (place : Nat → Option (Nat × Nat)) (arr : Array Value) (i off size : Nat) (v : Value) (rest : List (Nat × Value)) (hp : place i = some (off, size)) (hs : v.cells.size = size) (hf : off + size ≤ arr.size) :
 ∃ arr', Instr.fill place arr ((i, v) :: rest) = Instr.fill place arr' rest ∧ arr'.size = arr.size ∧
  ∀ k, arr'.getD k undef = if off ≤ k ∧ k < off + size then v.cells.getD (k - off) undef else arr.getD k undef := by
 have h := fold_set off v.cells.toList 0 arr (by simp; omega)
 refine ⟨_, by simp only [Instr.fill, hp]; rw [if_neg (by simp [hs]; omega)], ?_, ?_⟩
 · rw [← Array.foldl_toList, Array.toList_zipIdx]; exact h.1
 · intro k
   rw [← Array.foldl_toList, Array.toList_zipIdx]
   have := h.2 k
   simp only [Nat.add_zero, Array.length_toList, hs] at this
   rw [this]
   congr 1
   simp [Array.getD_eq_getD_getElem?, List.getD_eq_getElem?_getD]

theorem fill_seq (s : Nat) : ∀ (vs : List Value) (k : Nat) (arr : Array Value), (∀ v ∈ vs, v.cells.size = s) → (k + vs.length) * s ≤ arr.size →
 ∃ arr', Instr.fill (fun i => some (i * s, s)) arr (zipFrom k vs) = some arr' ∧ arr'.size = arr.size ∧ (∀ o, o < k * s → arr'.getD o undef = arr.getD o undef) ∧
  ∀ i v j, vs[i]? = some v → j < s → arr'.getD ((k + i) * s + j) undef = v.cells.getD j undef
 | [], k, arr, _, _ => ⟨arr, rfl, rfl, fun _ _ => rfl, fun i v j h => by simp at h⟩
 | v :: vs, k, arr, hv, hs => by
  simp only [List.length_cons] at hs
  have hks : k * s + s ≤ arr.size := by
   have : (k + 1) * s ≤ (k + (vs.length + 1)) * s := Nat.mul_le_mul_right _ (by omega)
   rw [Nat.add_mul, Nat.one_mul] at this
   omega
  obtain ⟨a1, e1, s1, g1⟩ := fill_step (fun i => some (i * s, s)) arr k (k * s) s v (zipFrom (k + 1) vs) rfl (hv v (by simp)) hks
  obtain ⟨a2, e2, s2, g2, g3⟩ := fill_seq s vs (k + 1) a1 (fun u hu => hv u (by simp [hu])) (by rw [s1]; rw [show k + 1 + vs.length = k + (vs.length + 1) by omega]; exact hs)
  have hk1 : (k + 1) * s = k * s + s := by rw [Nat.add_mul, Nat.one_mul]
  refine ⟨a2, by simp only [zipFrom]; rw [e1]; exact e2, s2.trans s1, fun o ho => ?_, fun i u j hi hj => ?_⟩
  · rw [g2 o (by omega), g1 o, if_neg (by omega)]
  · cases i with
    | zero =>
     simp at hi
     subst hi
     simp only [Nat.add_zero]
     rw [g2 _ (by omega), g1, if_pos (by omega)]
     congr 1
     omega
    | succ i =>
     have := g3 i u j (by simpa using hi) hj
     rw [show k + (i + 1) = k + 1 + i by omega]
     exact this

theorem run_value {P : Program} {s : Sem Value} {w w' : World} {v : Value} (h : s.run P w = .ok v w') : (do pure (Next.value (← s)) : Sem Next).run P w = .ok (.value v) w' := by
 rw [Sem.run_bind, h]; rfl

theorem run_box {P : Program} (t : TypeId) (v : Value) (w : World) : (Instr.box t v).run P w = .ok (.pointer (some ⟨w.heap.size, 0, none⟩)) (w.alloc (.cells v.cells t)) := by
 simp [Instr.box, newVar, newRow, go_sem]

class ZeroT (P : Program) (t : TypeId) (zs : outParam (List Value)) : Prop where
 hz : ∃ z, (∀ w, (zeroValue t).run P w = .ok z w) ∧ z.cells.toList = zs

theorem run_pure {P : Program} {α : Type} (a : α) (w : World) : (pure a : Sem α).run P w = .ok a w := rfl

theorem run_buildSlice {P : Program} {t e : TypeId} {s by_ : Nat} (ht : SlT P t e s by_) {zs : List Value} (hz : ZeroT P e zs) (n : Nat) (vs : List Value) (hn : vs.length = n) (hv : ∀ v ∈ vs, v.cells.size = s) (hs : 0 < s)
 (hb : n * s ≤ 16777216) (parts : Array (Nat × Value)) (hp : parts.toList = zipFrom 0 vs) (w : World) :
 ∃ cells : Array Value, (Instr.buildSlice t n parts).run P w = .ok (.slice (some ⟨w.heap.size, 0, none⟩) n n) (w.alloc (.cells cells e)) ∧ cells.size = n * s ∧
  ∀ i v j, vs[i]? = some v → j < s → cells.getD (i * s + j) undef = v.cells.getD j undef := by
 obtain ⟨z, hz1, hz2⟩ := hz.hz
 have hrow : ∀ (cells : Array Value), (newRow e cells).run P w = .ok ⟨w.heap.size, 0, none⟩ (w.alloc (.cells cells e)) := fun cells => by simp [newRow, go_sem]
 have hb' : ¬ n * s > 2 ^ 24 := by omega
 by_cases h0 : n * s = 0
 · have h0' : n = 0 := by rcases Nat.mul_eq_zero.1 h0 with h | h; exact h; omega
   subst h0'
   have hnil : vs = [] := List.eq_nil_of_length_eq_zero hn
   subst hnil
   refine ⟨#[], ?_, by simp, fun i v j h => by simp at h⟩
   have hf : ∀ arr, Instr.fill (fun i => some (i * s, s)) arr parts.toList = some arr := fun arr => by rw [hp]; rfl
   have he : Array.map (fun x => (#[] : Array Value)[x % (#[] : Array Value).size]!) (Array.range 0) = #[] := by simp
   have h224 : ¬ (0 : Nat) > 2 ^ 24 := by omega
   unfold Instr.buildSlice
   simp only [Sem.run_bind, run_underlying ht.hu, Result.andThen, ht.hs, h224, if_false, h0, if_true, run_pure, hf, he, hrow]
 · obtain ⟨cells, h1, h2, _, h4⟩ := fill_seq s vs 0 ((Array.range (n * s)).map (z.cells[· % z.cells.size]!)) hv (by simp [hn])
   refine ⟨cells, ?_, by rw [h2]; simp, fun i v j hi hj => by have := h4 i v j hi hj; simpa using this⟩
   rw [← hp] at h1
   unfold Instr.buildSlice
   simp only [Sem.run_bind, run_underlying ht.hu, Result.andThen, ht.hs, hb', if_false, h0, run_pure, hz1, h1, hrow]

section
variable {P : Program} {o : Oper} {ev : Operand → PV} {hp : List HO}

theorem PStep.of_alloc {q : PV} (h : ∀ (w0 : Ini) (g : Ghost) (ρ : Nat → Loc) (w : World) (av : Operand → Value), Base w0 hp g ρ w → (∀ x ∈ o.op.operands, VRS g ρ hp (av x) (ev x)) →
 ∃ v cs e, (execOp av o).run P w = .ok (.value v) (w.alloc (.cells cs e)) ∧ VR (g.add w.heap.size cs) v q) : PStep P o ev hp q := by
 intro w0 g ρ w a hb hx Q K hK
 obtain ⟨v, cs, e, hr, hv⟩ := h w0 g ρ w a.eval hb hx
 unfold Oper.wp
 rw [hr]
 exact hK v _ _ (GExt.add hb.agree cs) (hb.alloc cs e (0, 0)) (.of_VR hv)

theorem Ghost.add_same (g : Ghost) (k : Nat) (cs : Array Value) (o : Nat) : g.add k cs k o = cs[o]? := by simp [Ghost.add]
theorem getElem?_getD {cs : Array Value} {k : Nat} (h : k < cs.size) : cs[k]? = some (cs.getD k undef) := by simp [h]

theorem ps_box {t : TypeId} {x : Operand} {c : List PV} (ho : o.op = .box t x) (h1 : (view hp (ev x)).flat = some c) : PStep P o ev hp (.ptr c) :=
 .of_alloc fun w0 g ρ w av hb hx => by
  have e1 := hb.view (hx x (by simp [ho, Op.operands]))
  obtain ⟨hl, hv⟩ := e1.cells h1
  refine ⟨.pointer (some ⟨w.heap.size, 0, none⟩), (av x).cells, t, ?_, .ptr _ 0 _ (fun k => (av x).cells.getD k undef) (fun k hk => ?_) (fun k q hq => (hv k q hq).mono (GExt.add hb.agree _))⟩
  · simp only [execOp, ho]; exact run_value (run_box t _ w)
  · rw [Nat.zero_add, Ghost.add_same]; exact getElem?_getD (by rw [hl]; exact hk)

def elems (hp : List HO) (ev : Operand → PV) (xs : List Operand) : List PV := xs.map fun x => view hp (ev x)
def elemsOk (s : Nat) : List PV → Prop
 | [] => True
 | p :: l => (∃ c, p.flat = some c ∧ c.length = s) ∧ elemsOk s l
theorem elemsOk_spec {s : Nat} : ∀ {l : List PV}, elemsOk s l → ∀ (i : Nat) (p : PV), l[i]? = some p → p.flat = some (p.flat.getD []) ∧ (p.flat.getD []).length = s
 | [], _, i, p, h => by simp at h
 | q :: l, h, i, p, hi => by
  cases i with
  | zero => simp at hi; subst hi; obtain ⟨c, h1, h2⟩ := h.1; simp [h1, h2]
  | succ i => exact elemsOk_spec h.2 i p (by simpa using hi)

theorem buildSlice_any {t e : TypeId} {s by_ : Nat} [ht : SlT P t e s by_] {zs : List Value} [hz : ZeroT P e zs] {n : Nat} {parts : Array (Nat × Operand)} (ho : o.op = .buildSlice t n parts) (hparts : parts.toList = zipFrom 0 (parts.toList.map (·.2)))
 (hn : parts.toList.length = n) {l : List PV} (hl : elems hp ev (parts.toList.map (·.2)) = l) (hok : elemsOk s l) (hs : 0 < s) (hb : n * s ≤ 16777216) {w0 : Ini} {g : Ghost} {ρ : Nat → Loc} {w : World} {av : Operand → Value} (hbase : Base w0 hp g ρ w)
 (hx : ∀ x ∈ o.op.operands, VRS g ρ hp (av x) (ev x)) :
 ∃ cells : Array Value, (execOp av o).run P w = .ok (.value (.slice (some ⟨w.heap.size, 0, none⟩) n n)) (w.alloc (.cells cells e)) ∧ cells.size = n * s ∧ l.length = n ∧
  ∀ i j q, i < l.length → ((l.getD i .any).flat.getD [])[j]? = some q → VR g (cells.getD (i * s + j) undef) q := by
 have hvs : ∀ (i : Nat) (x : Operand), (parts.toList.map (·.2))[i]? = some x → VR g (av x) (view hp (ev x)) := fun i x hi => hbase.view (hx x (by
  simp only [ho, Op.operands]
  exact List.mem_toArray.2 (List.mem_of_getElem? hi)))
 have hlen : l.length = n := by rw [← hl]; simp [elems, hn]
 have hli : ∀ (i : Nat) (p : PV), l[i]? = some p → ∃ x, (parts.toList.map (·.2))[i]? = some x ∧ p = view hp (ev x) := fun i p hi => by
  rw [← hl] at hi
  simp only [elems, List.getElem?_map, Option.map_eq_some_iff] at hi
  obtain ⟨x, ⟨y, hy, rfl⟩, rfl⟩ := hi
  exact ⟨y.2, by simp [hy], rfl⟩
 have hspec := elemsOk_spec hok
 obtain ⟨cells, h1, h2, h3⟩ := run_buildSlice ht hz n ((parts.toList.map (·.2)).map av) (by simp [hn]) (fun v hv => by
  obtain ⟨x, hxm, rfl⟩ := List.mem_map.1 hv
  obtain ⟨i, hi⟩ := List.getElem?_of_mem hxm
  have hp' : l[i]? = some (view hp (ev x)) := by rw [← hl]; unfold elems; rw [List.getElem?_map, hi]; rfl
  obtain ⟨f1, f2⟩ := hspec i _ hp'
  exact ((hvs i x hi).cells f1).1.trans f2) hs hb (parts.map fun (i, x) => (i, av x)) (by
   have hz := zipFrom_map av 0 (parts.toList.map (·.2))
   rw [← hparts] at hz
   rw [Array.toList_map]
   exact hz) w
 refine ⟨cells, by simp only [execOp, ho]; exact run_value h1, h2, hlen, fun i j q hi hq => ?_⟩
 have hli' : l[i]? = some (l.getD i .any) := by simp [hi]
 obtain ⟨x, hxi, hxe⟩ := hli i _ hli'
 obtain ⟨f1, f2⟩ := hspec i _ hli'
 have hj : j < s := by rw [← f2]; exact (List.getElem?_eq_some_iff.1 hq).1
 rw [h3 i (av x) j (by rw [List.getElem?_map, hxi]; rfl) hj]
 rw [hxe] at hq f1
 exact ((hvs i x hxi).cells f1).2 j q hq

theorem ps_buildSlice {t e : TypeId} {s by_ : Nat} [ht : SlT P t e s by_] {zs : List Value} [hz : ZeroT P e zs] {n : Nat} {parts : Array (Nat × Operand)} (ho : o.op = .buildSlice t n parts) (hparts : parts.toList = zipFrom 0 (parts.toList.map (·.2)))
 (hn : parts.toList.length = n) {l : List PV} (hl : elems hp ev (parts.toList.map (·.2)) = l) (hok : elemsOk s l) (hs : 0 < s) (hb : n * s ≤ 16777216) : PStep P o ev hp (.sl s none l) :=
 .of_alloc fun w0 g ρ w av hbase hx => by
  obtain ⟨cells, h1, h2, h3, h4⟩ := buildSlice_any (ht := ht) (hz := hz) ho hparts hn hl hok hs hb hbase hx
  subst h3
  refine ⟨_, cells, e, h1, .sl s none w.heap.size 0 l.length l (fun i => (l.getD i .any).flat.getD []) (fun k => cells.getD k undef) hs (by simp) (Nat.le_refl _) (by
   have : l.length ≤ l.length * s := Nat.le_mul_of_pos_right _ hs
   simp only [maxLen]; omega) (fun i p hi => ?_) (fun k hk => ?_) (fun i j q hi hq => (h4 i j q hi hq).mono (GExt.add hbase.agree _))⟩
  · have := elemsOk_spec hok i p hi
    simpa [List.getD_eq_getElem?_getD, hi] using this
  · rw [Nat.zero_add, Ghost.add_same]; exact getElem?_getD (by rw [h2]; exact hk)

/-! #### A struct or an array built by value -/
def afill (place : Nat → Option (Nat × Nat)) (cells : List PV) : List (Nat × PV) → Option (List PV)
 | [] => some cells
 | (i, p) :: rest =>
  match place i, p.flat with
  | some (off, size), some c => if c.length = size ∧ off + size ≤ cells.length then afill place (cells.take off ++ c ++ cells.drop (off + size)) rest else none
  | _, _ => none

theorem fill_rel {g : Ghost} {ρ : Nat → Loc} {hp : List HO} (place : Nat → Option (Nat × Nat)) : ∀ (ps : List (Nat × PV)) (vs : List (Nat × Value)) (cells cells' : List PV) (arr : Array Value), afill place cells ps = some cells' →
 ps.length = vs.length → (∀ (k : Nat) (p : Nat × PV) (v : Nat × Value), ps[k]? = some p → vs[k]? = some v → p.1 = v.1 ∧ VRS g ρ hp v.2 p.2) → arr.size = cells.length → (∀ (k : Nat) (q : PV), cells[k]? = some q → VRS1 g ρ hp (arr.getD k undef) q) →
 ∃ arr', Instr.fill place arr vs = some arr' ∧ arr'.size = cells'.length ∧ ∀ (k : Nat) (q : PV), cells'[k]? = some q → VRS1 g ρ hp (arr'.getD k undef) q
 | [], vs, cells, cells', arr, h, hl, _, hs, hv => by
  cases vs with
  | nil => simp [afill] at h; subst h; exact ⟨arr, rfl, hs, hv⟩
  | cons _ _ => simp at hl
 | (i, p) :: ps, vs, cells, cells', arr, h, hl, hr, hs, hv => by
  cases vs with
  | nil => simp at hl
  | cons v vs =>
   obtain ⟨e1, e2⟩ := hr 0 _ _ rfl rfl
   simp only [afill] at h
   split at h
   · rename_i off size c hpl hfl
     split at h
     · rename_i hc
       obtain ⟨hc1, hc2⟩ := hc
       obtain ⟨c1, c2⟩ := e2.cells hfl
       obtain ⟨a1, f1, f2, f3⟩ := fill_step place arr i off size v.2 vs hpl (c1.trans hc1) (by omega)
       have hl1 : (cells.take off ++ c ++ cells.drop (off + size)).length = cells.length := by simp; omega
       obtain ⟨a2, g1, g2, g3⟩ := fill_rel place ps vs _ cells' a1 h (by simpa using hl) (fun k p v hp hv => hr (k + 1) p v (by simpa using hp) (by simpa using hv)) (by rw [f2, hs, hl1]) (fun k q hq => by
        rw [f3 k]
        split
        · rename_i hin
          rw [List.append_assoc, List.getElem?_append_right (by simp; omega), List.getElem?_append_left (by simp; omega)] at hq
          have : k - (cells.take off).length = k - off := by simp; omega
          rw [this] at hq
          exact c2 _ q hq
        · rename_i hin
          rcases Nat.lt_or_ge k off with hlt | hge
          · rw [List.append_assoc, List.getElem?_append_left (by simp; omega), List.getElem?_take_of_lt hlt] at hq
            exact hv k q hq
          · rw [List.getElem?_append_right (by simp; omega), List.getElem?_drop] at hq
            have : off + size + (k - (cells.take off ++ c).length) = k := by simp; omega
            rw [this] at hq
            exact hv k q hq)
       refine ⟨a2, ?_, g2, g3⟩
       have ev : v = (i, v.2) := by rw [show i = v.1 from e1]
       rw [ev, f1]; exact g1
     · cases h
   · cases h

class StructT (P : Program) (t : TypeId) (places : outParam (List (Nat × Nat))) (zs : outParam (List Value)) : Prop where
 hu : ∃ fs, P.underlying t = some (.struct fs) ∧ ∀ w, (fs.mapM fun (f : Field) => (do pure (f.offset, ← Go.sizeOf f.type) : Sem (Nat × Nat))).run P w = .ok places.toArray w
 hz : ZeroT P t zs

theorem ps_build {t : TypeId} {places : List (Nat × Nat)} {zs : List Value} [ht : StructT P t places zs] {parts : Array (Nat × Operand)} (ho : o.op = .build t parts) {l : List PV}
 (hl : afill (places[·]?) (zs.map .val) (parts.toList.map fun p => (p.1, ev p.2)) = some l) : PStep P o ev hp (.agg l) :=
 .of_run fun w0 g ρ w av hb hx => by
  obtain ⟨fs, hu, hm⟩ := ht.hu
  obtain ⟨z, hz1, hz2⟩ := ht.hz.hz
  obtain ⟨arr, h1, h2, h3⟩ := fill_rel (g := g) (ρ := ρ) (hp := hp) (places[·]?) _ (parts.toList.map fun p => (p.1, av p.2)) _ l z.cells hl (by simp) (fun k p v hp' hv => by
   simp only [List.getElem?_map, Option.map_eq_some_iff] at hp' hv
   obtain ⟨x, hx1, rfl⟩ := hp'
   obtain ⟨y, hy1, rfl⟩ := hv
   rw [hx1] at hy1
   cases hy1
   exact ⟨rfl, hx x.2 (by
    simp only [ho, Op.operands]
    exact List.mem_toArray.2 (List.mem_map.2 ⟨x, List.mem_of_getElem? hx1, rfl⟩))⟩) (by rw [← hz2]; simp) (fun k q hq => by
   simp only [List.getElem?_map, Option.map_eq_some_iff] at hq
   obtain ⟨u, hu1, rfl⟩ := hq
   have : z.cells.getD k undef = u := by
    rw [← hz2] at hu1
    simp only [Array.getElem?_toList] at hu1
    simp [Array.getD_eq_getD_getElem?, hu1]
   rw [this]; exact .of_VR (.val u))
  refine ⟨.agg arr, ?_, ⟨arr, rfl, h2, h3⟩⟩
  simp only [execOp, ho]
  refine run_value ?_
  have hpt : (parts.map fun (i, x) => (i, av x)).toList = parts.toList.map fun p => (p.1, av p.2) := by simp
  have hpl : (fun x => (places.toArray)[x]?) = (places[·]? : Nat → Option (Nat × Nat)) := by funext x; simp
  unfold Instr.build
  simp only [Sem.run_bind, run_underlying hu, Result.andThen, hz1, run_pure, hm, hpt, hpl, h1]

theorem ps_makeFunc {f : Nat} {first caps : Array Operand} (ho : o.op = .makeFunc (.func f) first caps) {l1 l2 : List PV} (h1 : elems hp ev first.toList = l1) (h2 : elems hp ev caps.toList = l2) : PStep P o ev hp (.fn f l1 l2) :=
 .of_run fun w0 g ρ w av hb hx => by
  refine ⟨.func (.func f) (first.map av) (caps.map av), ?_, .of_VR (.fn f _ _ l1 l2 (by rw [← h1]; simp [elems]) (by rw [← h2]; simp [elems]) (fun i q hq => ?_) (fun i q hq => ?_))⟩
  · simp only [execOp, ho, Instr.makeFunc]; rfl
  · rw [← h1] at hq
    simp only [elems, List.getElem?_map, Option.map_eq_some_iff, Array.getElem?_toList] at hq
    obtain ⟨x, hx1, rfl⟩ := hq
    have : (first.map av).getD i undef = av x := by simp [Array.getD_eq_getD_getElem?, hx1]
    rw [this]
    exact hb.view (hx x (by simp only [ho, Op.operands]; exact Array.mem_append.2 (.inl (Array.mem_of_getElem? hx1))))
  · rw [← h2] at hq
    simp only [elems, List.getElem?_map, Option.map_eq_some_iff, Array.getElem?_toList] at hq
    obtain ⟨x, hx1, rfl⟩ := hq
    have : (caps.map av).getD i undef = av x := by simp [Array.getD_eq_getD_getElem?, hx1]
    rw [this]
    exact hb.view (hx x (by simp only [ho, Op.operands]; exact Array.mem_append.2 (.inr (Array.mem_of_getElem? hx1))))

/-! ### Calls -/
def VRl (g : Ghost) (vs : List Value) (ps : List PV) : Prop := vs.length = ps.length ∧ ∀ (i : Nat) (q : PV), ps[i]? = some q → VR g (vs.getD i undef) q

def PCalls (P : Program) (f : FuncId) (args : List PV) (q : PV) : Prop :=
 ∀ (g : Ghost) (w : World) (vs : List Value), Agree g w → VRl g vs args → Calls P f vs.toArray w fun e w' =>
  ∃ v g', e = .returned v ∧ GExt g g' ∧ (∀ b o, b < w.heap.size → g' b o = g b o) ∧ RowKit.Below w.heap.size w w' ∧ Agree g' w' ∧ VR g' v q

def argsLe : List PV → List PV → Prop
 | [], [] => True
 | p :: l, q :: m => p.le q ∧ argsLe l m
 | _, _ => False
theorem VRl.le {g : Ghost} : ∀ {vs : List Value} {l m : List PV}, argsLe l m → VRl g vs l → VRl g vs m
 | [], [], [], _, h => h
 | v :: vs, p :: l, q :: m, hl, h => by
  have ih : VRl g vs m := VRl.le hl.2 ⟨by simpa using h.1, fun i r hr => by simpa using h.2 (i + 1) r (by simpa using hr)⟩
  refine ⟨by simp [ih.1], fun i r hr => ?_⟩
  cases i with
  | zero => simp at hr; subst hr; simpa using hl.1 g v (by simpa using h.2 0 p rfl)
  | succ i => simpa using ih.2 i r (by simpa using hr)
 | [], _ :: _, _, _, h => by simp [VRl] at h
 | _ :: _, [], _, _, h => by simp [VRl] at h
 | [], [], _ :: _, hl, _ => hl.elim
 | _ :: _, _ :: _, [], hl, _ => hl.elim

theorem VRl.append {g : Ghost} {vs us : List Value} {l m : List PV} (h : VRl g vs l) (k : VRl g us m) : VRl g (vs ++ us) (l ++ m) := by
 refine ⟨by simp [h.1, k.1], fun i q hq => ?_⟩
 rcases Nat.lt_or_ge i l.length with hlt | hge
 · rw [List.getElem?_append_left hlt] at hq
   have := h.2 i q hq
   simpa [List.getD_eq_getElem?_getD, List.getElem?_append_left (show i < vs.length by rw [h.1]; exact hlt)] using this
 · rw [List.getElem?_append_right hge] at hq
   have := k.2 _ q hq
   simpa [List.getD_eq_getElem?_getD, List.getElem?_append_right (show vs.length ≤ i by rw [h.1]; exact hge), h.1] using this

theorem run_call {x : Operand} {xs : Array Operand} {tys : Array TypeId} {f : FuncId} [hf : FnT P f] (ho : o.op = .call { callee := .value x, args := xs, argTypes := tys }) {av : Operand → Value} {fs cs : Array Value} (hx : av x = .func (.func f) fs cs) (w : World) :
 (execOp av o).run P w = .ok (.enter f (fs ++ xs.map av ++ cs)) w := by
 simp only [execOp, ho, resolve, hx, Deferred.ofValue, Sem.run_bind, run_pure, Result.andThen, invoke, hf.hc]

theorem VRl.of_array {g : Ghost} {vs : Array Value} {l : List PV} (h1 : vs.size = l.length) (h2 : ∀ i q, l[i]? = some q → VR g (vs.getD i undef) q) : VRl g vs.toList l :=
 ⟨by simpa using h1, fun i q hq => by have := h2 i q hq; simpa [List.getD_eq_getElem?_getD, Array.getD_eq_getD_getElem?] using this⟩

theorem zG {x : Operand} {xs : Array Operand} {tys : Array TypeId} {f : FuncId} [hf : FnT P f] {first caps args : List PV} {q : PV} (ho : o.op = .call { callee := .value x, args := xs, argTypes := tys }) (h1 : ev x = .fn f first caps)
 (h2 : argsLe (first ++ elems hp ev xs.toList ++ caps) args) (hc : PCalls P f args q) : PStep P o ev hp q := by
 intro w0 g ρ w a hb hx Q K hK
 have e1 := hx x (by simp [ho, Op.operands, Call.operands])
 rw [h1] at e1
 obtain ⟨fs, cs, ea, l1, l2, v1, v2⟩ := VR.fn_inv e1
 unfold Oper.wp
 rw [run_call ho ea]
 have hargs : VRl g (fs ++ xs.map a.eval ++ cs).toList args := by
  refine VRl.le h2 ?_
  rw [Array.toList_append, Array.toList_append]
  refine ((VRl.of_array l1 v1).append ?_).append (VRl.of_array l2 v2)
  refine ⟨by simp [elems], fun i q hq => ?_⟩
  simp only [elems, List.getElem?_map, Option.map_eq_some_iff, Array.getElem?_toList] at hq
  obtain ⟨y, hy, rfl⟩ := hq
  have : (xs.map a.eval).toList.getD i undef = a.eval y := by simp [List.getD_eq_getElem?_getD, hy]
  rw [this]
  exact hb.view (hx y (by simp only [ho, Op.operands, Call.operands]; exact Array.mem_append.2 (.inr (Array.mem_of_getElem? hy))))
 have := hc g w _ hb.agree hargs
 rw [Array.toArray_toList] at this
 refine this.mono fun e w' h => ?_
 obtain ⟨v, g', rfl, hx', ho', hbl, ha, hv⟩ := h
 exact hK v g' w' hx' (hb.step hbl ha hx' ho') (.of_VR hv)
end
end Go.Pv

/- Effects on the owned objects; calls that see them; entry and end of a function. -/
namespace Go.Pv
open Go

def snap (g : Ghost) (w : World) (D : Nat → Bool) : Ghost := fun b o => if D b then w.cell? ⟨b, o, none⟩ else g b o

theorem snap_ext {g : Ghost} {w : World} (h : Agree g w) (D : Nat → Bool) : GExt g (snap g w D) := fun b o v hv => by
 unfold snap
 split
 · exact h b o v hv
 · exact hv
theorem snap_agree {g : Ghost} {w : World} (h : Agree g w) (D : Nat → Bool) : Agree (snap g w D) w := fun b o v hv => by
 unfold snap at hv
 split at hv
 · exact hv
 · exact h b o v hv
theorem snap_old {g : Ghost} {w : World} {D : Nat → Bool} {b : Nat} (h : ¬ D b = true) (o : Nat) : snap g w D b o = g b o := if_neg h
theorem snap_cell {g : Ghost} {w : World} {D : Nat → Bool} {b : Nat} (hb : D b = true) {cur : Array Value} {e : TypeId} {fz : Nat × Nat} (hw : w.heap[b]? = some (.cells cur e fz)) (o : Nat) (ho : o < cur.size) :
 snap g w D b o = some (cur.getD o undef) := by
 unfold snap
 rw [if_pos hb, cell_of_row _ _ _ _ _ _ hw]
 exact getElem?_getD ho

def sgP (r : List PV) : PV := .agg [r.headD .any, .sl 1 none r.tail]
def viewV (hp : List HO) : PV → PV
 | .hp id => match hp[id]? with
  | some (.arr _ s _ l) => .sl s none l
  | some (.grid _ _ rows) => .sl 1 none (rows.map fun r => .sl 1 none r)
  | some (.sg _ _ 0 rows) => .sl 2 none (rows.map sgP)
  | _ => .any
 | .gr id i => match hp[id]? with
  | some (.grid _ _ rows) => match rows[i]? with
   | some r => .sl 1 none r
   | none => .any
  | _ => .any
 | .hat _ _ | .gat _ _ _ | .hatv _ _ _ _ => .any
 | .hpv id _ _ => match hp[id]? with
  | some (.arr _ s _ l) => .sl s none l
  | some (.grid _ _ rows) => .sl 1 none (rows.map fun r => .sl 1 none r)
  | some (.sg _ _ 0 rows) => .sl 2 none (rows.map sgP)
  | _ => .any
 | p => p
def viewN (hp : List HO) : PV → PV
 | .agg l => .agg (l.map (viewV hp))
 | p => viewV hp p
def viewM (hp : List HO) : PV → PV
 | .tup l => .tup (l.map (viewN hp))
 | .agg l => .agg (l.map (viewV hp))
 | .hat id i => match hp[id]? with
  | some (.box l) => .ptr ((l.drop i).map (viewV hp))
  | _ => .any
 | p => viewV hp p

theorem viewN_map (hp : List HO) : viewN hp = mapA (viewV hp) := by funext p; cases p <;> rfl
theorem flat_one {p : PV} (h : p.one = true) : p.flat = some [p] := by cases p <;> simp_all [PV.flat, PV.one]

theorem GridOwn.row {g g' : Ghost} {w : World} {D : Nat → Bool} {n : Nat} {e1 e2 : TypeId} {rows : List (List PV)} {L : Loc} {cur : Array Value} {rc : Nat → Array Value} (h : GridOwn g w D e1 e2 n rows L cur rc) (hx : GExt g g')
 {i : Nat} {r : List PV} (hr : rows[i]? = some r) (hc : ∀ o, o < (rc i).size → g' (L.rows i) o = some ((rc i).getD o undef)) :
 VR g' (.slice (some ⟨L.rows i, 0, none⟩) r.length (L.caps i)) (.sl 1 none r) := by
 obtain ⟨a1, a2, a3, a4⟩ := h.hrow i r hr
 refine .sl 1 none _ 0 _ r (fun j => [r.getD j .any]) (fun k => (rc i).getD k undef) (by omega) (by simp) a2.1 a2.2 (fun j p hj => ?_) (fun k hk => ?_) (fun j k q hj hq => ?_)
 · have := (h.hv i r j p hr hj).1
   simp [List.getD_eq_getElem?_getD, hj, flat_one this]
 · rw [Nat.zero_add]; exact hc k (by omega)
 · have hk : k = 0 := by rcases k with _ | k; rfl; simp at hq
   subst hk
   simp only [List.getElem?_cons_zero, Option.some.injEq] at hq
   have hjq : r[j]? = some q := by rw [← hq]; simp [hj]
   simpa using ((h.hv i r j q hr hjq).2).mono hx

theorem SgOwn.row {g g' : Ghost} {w : World} {D : Nat → Bool} {n : Nat} {e1 e2 : TypeId} {rows : List (List PV)} {L : Loc} {cur : Array Value} {rc : Nat → Array Value} (h : SgOwn g w D e1 e2 n rows L cur rc) (hx : GExt g g')
 {i : Nat} {r : List PV} (hr : rows[i]? = some r) (hc : ∀ o, o < (rc i).size → g' (L.rows i) o = some ((rc i).getD o undef)) :
 VR g' (.slice (some ⟨L.rows i, 0, none⟩) r.tail.length (L.caps i)) (.sl 1 none r.tail) := by
 obtain ⟨a1, a2, a3, a4⟩ := h.hrow i r hr
 refine .sl 1 none _ 0 _ r.tail (fun j => [r.tail.getD j .any]) (fun k => (rc i).getD k undef) (by omega) (by simp) a2.1 a2.2 (fun j p hj => ?_) (fun k hk => ?_) (fun j k q hj hq => ?_)
 · have := (h.hv i r j p hr hj).1
   simp [List.getD_eq_getElem?_getD, hj, flat_one this]
 · rw [Nat.zero_add]; exact hc k (by omega)
 · have hk : k = 0 := by rcases k with _ | k; rfl; simp at hq
   subst hk
   simp only [List.getElem?_cons_zero, Option.some.injEq] at hq
   have hjq : r.tail[j]? = some q := by rw [← hq]; simp only [List.getElem?_eq_getElem hj, List.getD_eq_getElem?_getD, Option.getD_some]
   simpa using ((h.hv i r j q hr hjq).2).mono hx

theorem Base.viewHp {w0 : Ini} {w : World} {hp : List HO} {g : Ghost} {ρ : Nat → Loc} (hb : Base w0 hp g ρ w) {D : Nat → Bool} {v : Value} {id : Nat} (hD : ∀ ho b, hp[id]? = some ho → foot ho (ρ id) b → D b = true) (h : HpV ρ hp v id) :
 VR (snap g w D) v (match hp[id]? with
 | some (.arr _ s _ l) => .sl s none l
 | some (.grid _ _ rows) => .sl 1 none (rows.map fun r => .sl 1 none r)
 | some (.sg _ _ 0 rows) => .sl 2 none (rows.map sgP)
 | _ => .any) := by
 have hx := snap_ext hb.agree D
 split
 · rename_i m s e l hid
   have hv := h.arr _ _ _ _ hid
   obtain ⟨cur, c, ho⟩ := hb.own id _ hid
   subst hv
   refine .sl s none _ 0 _ l c (fun k => cur.getD k undef) ho.hs (by simp) ho.hcap ho.hmax ho.hf (fun k hk => ?_) (fun i j q hi hq => (ho.hv i j q hi hq).mono hx)
   rw [Nat.zero_add]
   refine snap_cell (hD _ _ hid rfl) ho.hw k ?_
   rw [ho.hsz]
   exact Nat.lt_of_lt_of_le hk (Nat.mul_le_mul_right _ ho.hcap)
 · rename_i e1 e2 rows hid
   have hv := h.grid _ _ _ hid
   obtain ⟨cur, rc, ho⟩ := hb.own id _ hid
   subst hv
   have key := VR.sl (g := snap g w D) 1 none (ρ id).blk 0 (ρ id).cap (rows.map fun r => PV.sl 1 none r) (fun i => [PV.sl 1 none (rows.getD i [])]) (fun k => cur.getD k undef) (by omega) (by simp) (by simpa using ho.hcap) ho.hmax (fun i p hi => ?_) (fun k hk => ?_) (fun i j q hi hq => ?_)
   · simpa using key
   · simp only [List.getElem?_map, Option.map_eq_some_iff] at hi
     obtain ⟨r, hr, rfl⟩ := hi
     simp [PV.flat, PV.one, List.getD_eq_getElem?_getD, hr]
   · rw [Nat.zero_add]
     exact snap_cell (hD _ _ hid (.inl rfl)) ho.hw k (by rw [ho.hsz]; simp at hk; have := ho.hcap; omega)
   · have hj : j = 0 := by rcases j with _ | j; rfl; simp at hq
     subst hj
     simp only [List.length_map] at hi
     simp only [List.getElem?_cons_zero, Option.some.injEq] at hq
     subst hq
     have hr : rows[i]? = some (rows.getD i []) := by simp [hi]
     simp only [Nat.mul_one, Nat.add_zero]
     rw [(ho.hrow i _ hr).1]
     exact ho.row hx hr (fun o ho' => snap_cell (hD _ _ hid (.inr ⟨i, hi, rfl⟩)) (ho.hrow i _ hr).2.2.1 o ho')
 · rename_i e1 e2 rows hid
   have hv := h.sg _ _ _ _ hid
   obtain ⟨cur, rc, ho⟩ := hb.own id _ hid
   subst hv
   have hc0 := ho.hcap
   have key := VR.sl (g := snap g w D) 2 none (ρ id).blk 0 (ρ id).cap (rows.map sgP) (fun i => [(rows.getD i []).headD .any, PV.sl 1 none (rows.getD i []).tail]) (fun k => cur.getD k undef) (by omega) (by simp) (by simpa using hc0) ho.hmax (fun i p hi => ?_) (fun k hk => ?_) (fun i j q hi hq => ?_)
   · simpa using key
   · simp only [List.getElem?_map, Option.map_eq_some_iff] at hi
     obtain ⟨r, hr, rfl⟩ := hi
     simp [sgP, PV.flat, List.getD_eq_getElem?_getD, hr]
   · rw [Nat.zero_add]
     exact snap_cell (hD _ _ hid (.inl rfl)) ho.hw k (by rw [ho.hsz]; simp at hk; omega)
   · simp only [List.length_map] at hi
     have hr : rows[i]? = some (rows.getD i []) := by simp [hi]
     rcases j with _ | _ | j
     · simp only [List.getElem?_cons_zero, Option.some.injEq] at hq
       subst hq
       exact (ho.hh i _ hr).2.mono hx
     · simp only [Nat.zero_add, List.getElem?_cons_succ, List.getElem?_cons_zero, Option.some.injEq] at hq
       subst hq
       simp only [Nat.zero_add]
       rw [(ho.hrow i _ hr).1]
       exact ho.row hx hr (fun o ho' => snap_cell (hD _ _ hid (.inr ⟨i, hi, rfl⟩)) (ho.hrow i _ hr).2.2.1 o ho')
     · simp at hq
 · exact .any v

theorem Base.viewV {w0 : Ini} {w : World} {hp : List HO} {g : Ghost} {ρ : Nat → Loc} (hb : Base w0 hp g ρ w) {D : Nat → Bool} (hD : ∀ id ho b, hp[id]? = some ho → foot ho (ρ id) b → D b = true) {v : Value} {p : PV} (h : VRS1 g ρ hp v p) : VR (snap g w D) v (Pv.viewV hp p) := by
 have hx := snap_ext hb.agree D
 cases p with
 | hp id => exact hb.viewHp (hD id) h
 | hpv id b c => exact hb.viewHp (hD id) h.1
 | hat _ _ => exact .any v
 | hatv _ _ _ _ => exact .any v
 | gr id i =>
  simp only [Pv.viewV]
  split
  · rename_i e1 e2 rows hid
    obtain ⟨cur, rc, ho⟩ := hb.own id _ hid
    split
    · rename_i r hr
      have hv := GrV.grid h _ _ _ _ hid hr
      subst hv
      exact ho.row hx hr (fun o ho' => snap_cell (hD _ _ _ hid (.inr ⟨i, (List.getElem?_eq_some_iff.1 hr).1, rfl⟩)) (ho.hrow i r hr).2.2.1 o ho')
    · exact .any v
  · exact .any v
 | gat _ _ _ => exact .any v
 | _ => exact VR.mono hx h

theorem Base.ownD {w0 : Ini} {w : World} {hp : List HO} {g : Ghost} {ρ : Nat → Loc} (hb : Base w0 hp g ρ w) : ∀ id ho b, hp[id]? = some ho → foot ho (ρ id) b → w0.own b = true :=
 fun id ho _ hid hf => ((hb.own id ho hid).foot_lt hf).1

theorem Base.viewMD {w0 : Ini} {w : World} {hp : List HO} {g : Ghost} {ρ : Nat → Loc} (hb : Base w0 hp g ρ w) {D : Nat → Bool} (hD : ∀ id ho b, hp[id]? = some ho → foot ho (ρ id) b → D b = true) {v : Value} {p : PV} (h : VRS g ρ hp v p) : VR (snap g w D) v (Pv.viewM hp p) := by
 have hm : VR (snap g w D) v (mapT (Pv.viewV hp) p) := VR_of_liftT (liftT_map (R' := VR (snap g w D)) (fun _ _ h => hb.viewV hD h) h)
 cases p with
 | tup l => simpa only [Pv.viewM, viewN_map, mapT] using hm
 | agg l => exact hm
 | hat id i =>
  simp only [Pv.viewM]
  split
  · rename_i l hid
    obtain ⟨cur, e, ho⟩ := hb.own id _ hid
    have hv : v = .pointer (some ⟨(ρ id).blk, i, none⟩) := h
    subst hv
    refine .ptr _ i _ (fun k => cur.getD (i + k) undef) (fun k hk => snap_cell (hD _ _ _ hid rfl) ho.hw _ (by rw [ho.hsz]; simp at hk; omega)) (fun k q hq => ?_)
    simp only [List.getElem?_map, Option.map_eq_some_iff] at hq
    obtain ⟨p, hp, rfl⟩ := hq
    exact hb.viewV hD (ho.hv _ p (by simpa using hp))
  · exact .any v
 | _ => exact hm
theorem Base.viewM {w0 : Ini} {w : World} {hp : List HO} {g : Ghost} {ρ : Nat → Loc} (hb : Base w0 hp g ρ w) {v : Value} {p : PV} (h : VRS g ρ hp v p) : VR (snap g w w0.own) v (Pv.viewM hp p) := hb.viewMD hb.ownD h

def PV.scalar : PV → Bool
 | .val _ | .any => true
 | .tup l => l.all fun p => match p with | .val _ | .any => true | _ => false
 | _ => false
theorem VR.scalar {g g' : Ghost} {v : Value} {p : PV} (h : VR g v p) (hs : p.scalar = true) : VR g' v p := by
 cases p with
 | val u => cases h; exact .val _
 | any => exact .any v
 | tup l =>
  obtain ⟨vs, rfl, hl, hv⟩ := VR.tup_inv h
  refine .tup vs l hl fun i q hq => ?_
  have hq' := hv i q hq
  simp only [PV.scalar, List.all_eq_true] at hs
  have := hs q (List.mem_of_getElem? hq)
  split at this
  · rw [VR.val_inv hq']; exact .val _
  · exact .any _
  · cases this
 | _ => simp [PV.scalar] at hs

section
variable {P : Program} {o : Oper} {ev : Operand → PV} {hp : List HO}
def elemsM (hp : List HO) (ev : Operand → PV) (xs : List Operand) : List PV := xs.map fun x => viewM hp (ev x)

theorem ps_callM {x : Operand} {xs : Array Operand} {tys : Array TypeId} {f : FuncId} [hf : FnT P f] {first caps args : List PV} {q : PV} (ho : o.op = .call { callee := .value x, args := xs, argTypes := tys }) (h1 : ev x = .fn f first caps)
 (h2 : argsLe (first ++ elemsM hp ev xs.toList ++ caps) args) (hq : q.scalar = true) (hc : PCalls P f args q) : PStep P o ev hp q := by
 intro w0 g ρ w a hb hx Q K hK
 have e1 := hx x (by simp [ho, Op.operands, Call.operands])
 rw [h1] at e1
 obtain ⟨fs, cs, ea, l1, l2, v1, v2⟩ := VR.fn_inv e1
 unfold Oper.wp
 rw [run_call ho ea]
 have hx' := snap_ext hb.agree w0.own
 have hargs : VRl (snap g w w0.own) (fs ++ xs.map a.eval ++ cs).toList args := by
  refine VRl.le h2 ?_
  rw [Array.toList_append, Array.toList_append]
  refine ((VRl.of_array l1 fun i q hq => (v1 i q hq).mono hx').append ?_).append (VRl.of_array l2 fun i q hq => (v2 i q hq).mono hx')
  refine ⟨by simp [elemsM], fun i q hq => ?_⟩
  simp only [elemsM, List.getElem?_map, Option.map_eq_some_iff, Array.getElem?_toList] at hq
  obtain ⟨y, hy, rfl⟩ := hq
  have : (xs.map a.eval).toList.getD i undef = a.eval y := by simp [List.getD_eq_getElem?_getD, hy]
  rw [this]
  exact hb.viewM (hx y (by simp only [ho, Op.operands, Call.operands]; exact Array.mem_append.2 (.inr (Array.mem_of_getElem? hy))))
 have := hc _ w _ (snap_agree hb.agree w0.own) hargs
 rw [Array.toArray_toList] at this
 refine this.mono fun e w' h => ?_
 obtain ⟨v, g', rfl, _, _, hbl, _, hv⟩ := h
 exact hK v g w' (GExt.refl g) (hb.step hbl (hb.agree.below hbl) (GExt.refl g) fun _ _ _ => rfl) (.of_VR (hv.scalar hq))
end

/-! ### Entry and end -/
def KRets (rs : List Tmp) (qs : List PV) (e : Exit) (S : St) : Prop := (e = .normal ∨ e = .ret) ∧ argsLe (rs.map fun r => viewM S.hp (S.ev (.tmp r))) qs

theorem rel_start {g : Ghost} {w : World} {vs : List Value} {args : List PV} (ha : Agree g w) (hv : VRl g vs args) (n : Nat) (ρ : Nat → Loc) :
 Rel ⟨w, g, fun _ => false⟩ ⟨args ++ List.replicate (n - args.length) (.val undef), []⟩ g ρ { tmps := vs.toArray ++ Array.replicate (n - vs.toArray.size) undef, defers := [] } w := by
 refine ⟨⟨BelowL.refl _, ha, fun _ _ _ => rfl, fun id ho h => by simp at h, fun i j x y b _ h => by simp at h⟩, rfl, by simp [hv.1], fun i p hp => ?_⟩
 refine .of_VR ?_
 rcases Nat.lt_or_ge i args.length with hlt | hge
 · rw [List.getElem?_append_left hlt] at hp
   have := hv.2 i p hp
   have hlt' : i < vs.length := by rw [hv.1]; exact hlt
   simpa [Array.getD_eq_getD_getElem?, Array.getElem?_append, List.getD_eq_getElem?_getD, hlt'] using this
 · rw [List.getElem?_append_right hge, List.getElem?_replicate] at hp
   split at hp
   · rename_i h
     simp only [Option.some.injEq] at hp
     subst hp
     have hge' : ¬ i < vs.length := by rw [hv.1]; omega
     have hlt2 : i - vs.length < n - vs.length := by rw [hv.1]; exact h
     have : (vs.toArray ++ Array.replicate (n - vs.toArray.size) undef).getD i undef = undef := by
      simp [Array.getD_eq_getD_getElem?, Array.getElem?_append, hge', hlt2]
     rw [this]; exact .val _
   · cases hp

theorem VRl.of_ends {w0 : Ini} {S : St} {g : Ghost} {ρ : Nat → Loc} {a : Act} {w : World} (h : Rel w0 S g ρ a w) (rs : List Tmp) :
 VRl (snap g w w0.own) (rs.map fun r => a.tmps.getD r undef) (rs.map fun r => viewM S.hp (S.ev (.tmp r))) := by
 refine ⟨by simp, fun i q hq => ?_⟩
 simp only [List.getElem?_map, Option.map_eq_some_iff] at hq
 obtain ⟨r, hr, rfl⟩ := hq
 have : (rs.map fun r => a.tmps.getD r undef).getD i undef = a.eval (.tmp r) := by simp [List.getD_eq_getElem?_getD, hr, Act.eval]
 rw [this]
 exact h.base.viewM (h.ev _)

theorem pcalls_of {P : Program} {f : FuncId} {fn : Func} {c : Code} {n : Nat} {args : List PV} {rs : List Tmp} {qs : List PV} {q : PV} (mk : List Value → Value) (hmk : ∀ g vs, VRl g vs qs → VR g (mk vs) q)
 (hres : ∀ (tmps : Array Value) (w : World), (results fn tmps).run P w = .ok (mk (rs.map fun r => tmps.getD r undef)) w)
 (hf : P.funcs[f]? = some fn) (hb : fn.body = some c) (hn : fn.ntmps = n) (h : Goal P c (KRets rs qs) ⟨args ++ List.replicate (n - args.length) (.val undef), []⟩) : PCalls P f args q := by
 intro g w vs ha hv
 refine calls_of_wp hf hb ?_
 subst hn
 refine h ⟨w, g, fun _ => false⟩ g (fun _ => ⟨0, 0, fun _ => 0, fun _ => 0⟩) _ w _ (rel_start ha hv fn.ntmps _) ?_
 intro e S g' ρ' a' w' hk hr
 have hend : a'.defers = [] ∧ ∃ v, (results fn a'.tmps).run P w' = .ok v w' ∧ ∃ v' g'', Ending.returned v = .returned v' ∧ GExt g g'' ∧ (∀ b o, b < w.heap.size → g'' b o = g b o) ∧ RowKit.Below w.heap.size w w' ∧ Agree g'' w' ∧ VR g'' v' q := by
  have hno : ∀ b, b < w.heap.size → ¬ Ini.own ⟨w, g, fun _ => false⟩ b = true := fun b hb => Ini.own_old hb rfl
  refine ⟨hr.dead, _, hres a'.tmps w', _, snap g' w' (Ini.own ⟨w, g, fun _ => false⟩), rfl, fun b o v hv => ?_, fun b o hb => ?_, hr.base.below.plain, snap_agree hr.base.agree _, hmk _ _ (VRl.le hk.2 (VRl.of_ends hr rs))⟩
  · rw [snap_old (hno b (ha.lt hv)), hr.base.old b o (hno b (ha.lt hv))]; exact hv
  · rw [snap_old (hno b hb)]; exact hr.base.old b o (hno b hb)
 rcases hk.1 with rfl | rfl
 · exact hend
 · exact hend

theorem pcalls1 {P : Program} {f : FuncId} {fn : Func} {c : Code} {n : Nat} {args : List PV} {r : Tmp} {q : PV} (hf : P.funcs[f]? = some fn) (hb : fn.body = some c) (hn : fn.ntmps = n) (hr : fn.results = #[.tmp r])
 (h : Goal P c (KRets [r] [q]) ⟨args ++ List.replicate (n - args.length) (.val undef), []⟩) : PCalls P f args q :=
 pcalls_of (fun vs => vs.getD 0 undef) (fun g vs hv => hv.2 0 q rfl) (fun tmps w => by simp [results, hr]) hf hb hn h

theorem pcalls2 {P : Program} {f : FuncId} {fn : Func} {c : Code} {n : Nat} {args : List PV} {r1 r2 : Tmp} {q1 q2 : PV} (hf : P.funcs[f]? = some fn) (hb : fn.body = some c) (hn : fn.ntmps = n) (hr : fn.results = #[.tmp r1, .tmp r2])
 (h : Goal P c (KRets [r1, r2] [q1, q2]) ⟨args ++ List.replicate (n - args.length) (.val undef), []⟩) : PCalls P f args (.tup [q1, q2]) :=
 pcalls_of (fun vs => .tuple vs.toArray) (fun g vs hv => .tup _ _ (by simpa using hv.1) (fun i q hq => by have := hv.2 i q hq; simpa [List.getD_eq_getElem?_getD] using this)) (fun tmps w => by simp [results, hr]) hf hb hn h

end Go.Pv

/- Effects on the owned objects of a call. -/
namespace Go.Pv
open Go

def upd (ρ : Nat → Loc) (id : Nat) (L : Loc) : Nat → Loc := fun i => if i = id then L else ρ i
theorem upd_same (ρ : Nat → Loc) (id : Nat) (L : Loc) : upd ρ id L id = L := by simp [upd]
theorem upd_ne (ρ : Nat → Loc) {id i : Nat} (L : Loc) (h : i ≠ id) : upd ρ id L i = ρ i := by simp [upd, h]

def killP1 (n : Nat) : PV → PV
 | .hp j => bif j == n then .any else .hp j
 | .hat j i => bif j == n then .any else .hat j i
 | .gr j i => bif j == n then .any else .gr j i
 | .gat j i k => bif j == n then .any else .gat j i k
 | .hpv j b c => bif j == n then .any else .hpv j b c
 | .hatv j i b c => bif j == n then .any else .hatv j i b c
 | p => p
def killA (n : Nat) : PV → PV
 | .agg l => .agg (l.map (killP1 n))
 | p => killP1 n p
def killP (n : Nat) : PV → PV
 | .tup l => .tup (l.map (killA n))
 | .agg l => .agg (l.map (killP1 n))
 | p => killP1 n p
theorem killA_map (n : Nat) : killA n = mapA (killP1 n) := by funext p; cases p <;> rfl
theorem killP_map (n : Nat) (p : PV) : killP n p = mapT (killP1 n) p := by cases p <;> first | rfl | simp only [killP, mapT, killA_map]
def killH (n : Nat) (hp : List HO) : List HO := hp.map (mapHO (killP1 n))

theorem map_mapHO_id (hp : List HO) : hp.map (mapHO id) = hp := by
 have : (mapHO id : HO → HO) = id := funext mapHO_id
 rw [this, List.map_id]

theorem Base.upd {w0 : Ini} {w w' : World} {hp : List HO} {g g' : Ghost} {ρ : Nat → Loc} (h : Base w0 hp g ρ w) {id : Nat} {x x' : HO} (hid : hp[id]? = some x) (L' : Loc) (hx : GExt g g') (φ : PV → PV)
 (hφ : ∀ v p, VRS1 g ρ hp v p → VRS1 g' (Pv.upd ρ id L') ((hp.map (mapHO φ)).set id x') v (φ p)) (ha : Agree g' w')
 (hbl : BelowL w0 w') (hold : ∀ b o, ¬ w0.own b = true → g' b o = g b o) (hown : HOwn g' (Pv.upd ρ id L') ((hp.map (mapHO φ)).set id x') w' w0.own x' L') (hfoot : ∀ b, foot x' L' b → foot x (ρ id) b ∨ w.heap.size ≤ b ∨ ∀ (i : Nat) (y : HO), i ≠ id → hp[i]? = some y → ¬ foot y (ρ i) b)
 (hkeep : ∀ b, b < w.heap.size → ¬ foot x (ρ id) b → w'.heap[b]? = w.heap[b]? ∧ ∀ o, g' b o = g b o) : Base w0 ((hp.map (mapHO φ)).set id x') g' (Pv.upd ρ id L') w' := by
 have hlt : id < hp.length := (List.getElem?_eq_some_iff.1 hid).1
 have hlt' : id < (hp.map (mapHO φ)).length := by simpa using hlt
 have other : ∀ (i : Nat) (y : HO), i ≠ id → hp[i]? = some y → ∀ b, foot y (ρ i) b → b < w.heap.size ∧ ¬ foot x (ρ id) b := fun i y hne hy b hb =>
  ⟨((h.own i y hy).foot_lt hb).2, fun hb' => h.sep i id y x b hne hy hid hb hb'⟩
 have back : ∀ (i : Nat) (y : HO), i ≠ id → ((hp.map (mapHO φ)).set id x')[i]? = some y → ∃ y0, hp[i]? = some y0 ∧ mapHO φ y0 = y := fun i y hne hy => by
  rw [List.getElem?_set_ne (Ne.symm hne), List.getElem?_map] at hy
  simpa [Option.map_eq_some_iff] using hy
 refine ⟨hbl, ha, fun b o hb => (hold b o hb).trans (h.old b o hb), fun i y hi => ?_, fun i j y z b hij hy hz fy fz => ?_⟩
 · by_cases e : i = id
   · subst e
     rw [List.getElem?_set_self hlt'] at hi
     cases hi
     rw [upd_same]; exact hown
   · obtain ⟨y0, hi0, rfl⟩ := back i y e hi
     rw [upd_ne _ _ e]
     exact (h.own i y0 hi0).keep hx φ hφ fun b hb => hkeep b (other i y0 e hi0 b hb).1 (other i y0 e hi0 b hb).2
 · have one : ∀ (i j : Nat) (y z : HO), i ≠ j → i = id → ((hp.map (mapHO φ)).set id x')[i]? = some y → ((hp.map (mapHO φ)).set id x')[j]? = some z → foot y (Pv.upd ρ id L' i) b → foot z (Pv.upd ρ id L' j) b → False := by
    intro i j y z hij e hy hz fy fz
    subst e
    rw [List.getElem?_set_self hlt'] at hy
    cases hy
    obtain ⟨z0, hz0, rfl⟩ := back j z (Ne.symm hij) hz
    rw [upd_same] at fy
    rw [upd_ne _ _ (Ne.symm hij), foot_map] at fz
    obtain ⟨k1, k2⟩ := other j z0 (Ne.symm hij) hz0 b fz
    rcases hfoot b fy with h' | h' | h'
    · exact k2 h'
    · omega
    · exact h' j z0 (Ne.symm hij) hz0 fz
   by_cases e : i = id
   · exact one i j y z hij e hy hz fy fz
   · by_cases e' : j = id
     · exact one j i z y (Ne.symm hij) e' hz hy fz fy
     · obtain ⟨y0, hy0, rfl⟩ := back i y e hy
       obtain ⟨z0, hz0, rfl⟩ := back j z e' hz
       rw [upd_ne _ _ e, foot_map] at fy
       rw [upd_ne _ _ e', foot_map] at fz
       exact h.sep i j y0 z0 b hij hy0 hz0 fy fz

theorem Base.push {w0 : Ini} {w w' : World} {hp : List HO} {g g' : Ghost} {ρ : Nat → Loc} (h : Base w0 hp g ρ w) {x' : HO} (L' : Loc) (hx : GExt g g') (φ : PV → PV)
 (hφ : ∀ v p, VRS1 g ρ hp v p → VRS1 g' (Pv.upd ρ hp.length L') (hp.map (mapHO φ) ++ [x']) v (φ p)) (ha : Agree g' w')
 (hbl : RowKit.Below w.heap.size w w') (hown : HOwn g' (Pv.upd ρ hp.length L') (hp.map (mapHO φ) ++ [x']) w' w0.own x' L') (hfoot : ∀ b, foot x' L' b → w.heap.size ≤ b)
 (hkeep : ∀ b, b < w.heap.size → ∀ o, g' b o = g b o) : Base w0 (hp.map (mapHO φ) ++ [x']) g' (Pv.upd ρ hp.length L') w' := by
 have hb := h.step hbl ha hx (fun b o hb => hkeep b hb o)
 have get : ∀ (i : Nat) (y : HO), (hp.map (mapHO φ) ++ [x'])[i]? = some y → (i < hp.length ∧ ∃ y0, hp[i]? = some y0 ∧ mapHO φ y0 = y) ∨ (i = hp.length ∧ y = x') := fun i y hi => by
  rcases Nat.lt_trichotomy i hp.length with hlt | rfl | hgt
  · rw [List.getElem?_append_left (by simpa using hlt), List.getElem?_map] at hi; exact .inl ⟨hlt, by simpa [Option.map_eq_some_iff] using hi⟩
  · rw [List.getElem?_append_right (by simp)] at hi; simp at hi; exact .inr ⟨rfl, hi.symm⟩
  · rw [List.getElem?_eq_none (by simp; omega)] at hi; cases hi
 refine ⟨hb.below, ha, hb.old, fun i y hi => ?_, fun i j y z b hij hy hz fy fz => ?_⟩
 · rcases get i y hi with ⟨hlt, y0, hi', rfl⟩ | ⟨rfl, rfl⟩
   · rw [upd_ne _ _ (by omega)]
     exact (h.own i y0 hi').keep hx φ hφ fun b hf => by
      have := ((h.own i y0 hi').foot_lt hf).2
      exact ⟨hbl.block b this, fun o => hkeep b this o⟩
   · rw [upd_same]; exact hown
 · rcases get i y hy with ⟨hlt, y0, hi', rfl⟩ | ⟨rfl, rfl⟩
   · rw [upd_ne _ _ (by omega), foot_map] at fy
     rcases get j z hz with ⟨hlt', z0, hj', rfl⟩ | ⟨rfl, rfl⟩
     · rw [upd_ne _ _ (by omega), foot_map] at fz
       exact h.sep i j y0 z0 b hij hi' hj' fy fz
     · rw [upd_same] at fz
       have := ((h.own i y0 hi').foot_lt fy).2
       have := hfoot b fz
       omega
   · rw [upd_same] at fy
     rcases get j z hz with ⟨hlt', z0, hj', rfl⟩ | ⟨rfl, rfl⟩
     · rw [upd_ne _ _ (by omega), foot_map] at fz
       have := ((h.own j z0 hj').foot_lt fz).2
       have := hfoot b fy
       omega
     · exact hij rfl

theorem mapHO_arr {φ : PV → PV} {x : Option HO} {m : Bool} {s : Nat} {e : TypeId} {l : List PV} (h : x.map (mapHO φ) = some (.arr m s e l)) : x = some (.arr m s e l) := by
 cases x with
 | none => cases h
 | some x => cases x <;> simp [mapHO] at h ⊢ <;> exact h
theorem mapHO_grid {φ : PV → PV} {x : Option HO} {e1 e2 : TypeId} {l : List (List PV)} (h : x.map (mapHO φ) = some (.grid e1 e2 l)) : x = some (.grid e1 e2 l) := by
 cases x with
 | none => cases h
 | some x => cases x <;> simp [mapHO] at h ⊢ <;> exact h

theorem mapHO_pg {φ : PV → PV} {x : Option HO} {e1 e2 : TypeId} {n : Nat} {l : List (List PV)} (h : x.map (mapHO φ) = some (.pg e1 e2 n l)) : x = some (.pg e1 e2 n l) := by
 cases x with
 | none => cases h
 | some x => cases x <;> simp [mapHO] at h ⊢ <;> exact h
theorem mapHO_sg {φ : PV → PV} {x : Option HO} {e1 e2 : TypeId} {n : Nat} {l : List (List PV)} (h : x.map (mapHO φ) = some (.sg e1 e2 n l)) : x = some (.sg e1 e2 n l) := by
 cases x with
 | none => cases h
 | some x => cases x <;> simp [mapHO] at h ⊢ <;> exact h

theorem mapHO_box {φ : PV → PV} {x : Option HO} {l : List PV} (h : x.map (mapHO φ) = some (.box l)) : ∃ l0 : List PV, x = some (.box l0) ∧ l0.length = l.length := by
 cases x with
 | none => cases h
 | some x =>
  cases x <;> simp [mapHO] at h
  subst h
  exact ⟨_, rfl, by simp⟩

theorem HpV.kill {ρ : Nat → Loc} {hp hp' : List HO} {v : Value} {id n : Nat} (L : Loc) {φ : PV → PV} (hh : ∀ i, i ≠ n → hp'[i]? = (hp[i]?).map (mapHO φ)) (e : id ≠ n) (h : HpV ρ hp v id) : HpV (upd ρ n L) hp' v id where
 sl := h.sl
 arr := fun m s e' l hid => by rw [hh _ e] at hid; rw [upd_ne _ _ e]; exact h.arr _ _ _ _ (mapHO_arr hid)
 grid := fun e1 e2 rows hid => by rw [hh _ e] at hid; rw [upd_ne _ _ e]; exact h.grid _ _ _ (mapHO_grid hid)
 sg := fun e1 e2 n rows hid => by rw [hh _ e] at hid; rw [upd_ne _ _ e]; exact h.sg _ _ _ _ (mapHO_sg hid)
 pg := fun e1 e2 n rows hid => by rw [hh _ e] at hid; rw [upd_ne _ _ e]; exact h.pg _ _ _ _ (mapHO_pg hid)
 box := fun l hid => by rw [hh _ e] at hid; rw [upd_ne _ _ e]; obtain ⟨l0, h0, hl⟩ := mapHO_box hid; rw [← hl]; exact h.box _ h0
theorem VRS1.kill {g g' : Ghost} {ρ : Nat → Loc} {hp hp' : List HO} {v : Value} {p : PV} (n : Nat) (L : Loc) (hx : GExt g g') (hh : ∀ i, i ≠ n → hp'[i]? = (hp[i]?).map (mapHO (killP1 n))) (h : VRS1 g ρ hp v p) : VRS1 g' (upd ρ n L) hp' v (killP1 n p) := by
 cases p with
 | hp id =>
  simp only [killP1]
  cases hb : (id == n) with
  | true => exact .any v
  | false =>
   have e : id ≠ n := by simpa using hb
   exact HpV.kill L hh e h
 | hpv id b c =>
  simp only [killP1]
  cases hb : (id == n) with
  | true => exact .any v
  | false =>
   have e : id ≠ n := by simpa using hb
   exact ⟨HpV.kill L hh e h.1, by rw [upd_ne _ _ e]; exact h.2⟩
 | hat id i =>
  simp only [killP1]
  cases hb : (id == n) with
  | true => exact .any v
  | false =>
   have e : id ≠ n := by simpa using hb
   show v = _
   rw [upd_ne _ _ e]; exact h
 | hatv id i b c =>
  simp only [killP1]
  cases hb : (id == n) with
  | true => exact .any v
  | false =>
   have e : id ≠ n := by simpa using hb
   show v = _ ∧ _
   rw [upd_ne _ _ e]; exact h
 | gr id i =>
  simp only [killP1]
  cases hb : (id == n) with
  | true => exact .any v
  | false =>
   have e : id ≠ n := by simpa using hb
   refine (⟨GrV.sl h, fun e1 e2 rows r hid hr => ?_, fun e1 e2 _n rows r hid hr => ?_⟩ : GrV _ _ _ _ _)
   rotate_left
   · rw [hh _ e] at hid
     rw [upd_ne _ _ e]; exact GrV.sg h _ _ _ _ _ (mapHO_sg hid) hr
   rw [hh _ e] at hid
   rw [upd_ne _ _ e]; exact GrV.grid h _ _ _ _ (mapHO_grid hid) hr
 | gat id i j =>
  simp only [killP1]
  cases hb : (id == n) with
  | true => exact .any v
  | false =>
   have e : id ≠ n := by simpa using hb
   show v = _
   rw [upd_ne _ _ e]; exact h
 | _ => exact VR.mono hx h

theorem VRS.kill {g g' : Ghost} {ρ : Nat → Loc} {hp hp' : List HO} {v : Value} {p : PV} (n : Nat) (L : Loc) (hx : GExt g g') (hh : ∀ i, i ≠ n → hp'[i]? = (hp[i]?).map (mapHO (killP1 n))) (h : VRS g ρ hp v p) : VRS g' (upd ρ n L) hp' v (killP n p) := by
 rw [killP_map]
 exact h.map fun v p h => h.kill n L hx hh

theorem killH_push (hp : List HO) (x : HO) {i : Nat} (h : i ≠ hp.length) : (killH hp.length hp ++ [x])[i]? = (hp[i]?).map (mapHO (killP1 hp.length)) := by
 rcases Nat.lt_or_ge i hp.length with hlt | hge
 · rw [List.getElem?_append_left (by simpa [killH] using hlt), killH, List.getElem?_map]
 · rw [List.getElem?_eq_none (by simp [killH]; omega), List.getElem?_eq_none hge]; rfl
theorem killH_set (hp : List HO) (n : Nat) (x : HO) {i : Nat} (h : i ≠ n) : ((killH n hp).set n x)[i]? = (hp[i]?).map (mapHO (killP1 n)) := by
 rw [List.getElem?_set_ne (Ne.symm h), killH, List.getElem?_map]
theorem length_killH (n : Nat) (hp : List HO) : (killH n hp).length = hp.length := by simp [killH]

theorem VRS.hp_new (g : Ghost) (ρ : Nat → Loc) (hp : List HO) (m : Bool) (s : Nat) (e : TypeId) (l : List PV) (L : Loc) :
 VRS g (upd ρ hp.length L) (killH hp.length hp ++ [.arr m s e l]) (.slice (some ⟨L.blk, 0, none⟩) l.length L.cap) (.hp hp.length) := by
 have hg : (killH hp.length hp ++ [HO.arr m s e l])[hp.length]? = some (.arr m s e l) := by
  rw [List.getElem?_append_right (by simp [killH])]; simp [killH]
 refine ⟨⟨_, _, _, rfl⟩, fun m s' e' l' hid => ?_, fun e1 e2 rows hid => ?_, fun e1 e2 n rows hid => ?_, fun l' hid => ?_, fun e1 e2 n rows hid => ?_⟩
 · rw [hg] at hid; cases hid; rw [upd_same]
 · rw [hg] at hid; cases hid
 · rw [hg] at hid; cases hid
 · rw [hg] at hid; cases hid
 · rw [hg] at hid; cases hid

theorem VRS.hp_upd (g : Ghost) (ρ : Nat → Loc) (hp : List HO) {id : Nat} (hid : id < hp.length) (m : Bool) (s : Nat) (e : TypeId) (l : List PV) (L : Loc) :
 VRS g (upd ρ id L) (hp.set id (.arr m s e l)) (.slice (some ⟨L.blk, 0, none⟩) l.length L.cap) (.hp id) := by
 refine ⟨⟨_, _, _, rfl⟩, fun m s' e' l' hid' => ?_, fun e1 e2 rows hid' => ?_, fun e1 e2 n rows hid' => ?_, fun l' hid' => ?_, fun e1 e2 n rows hid' => ?_⟩
 · rw [List.getElem?_set_self hid] at hid'; cases hid'; rw [upd_same]
 · rw [List.getElem?_set_self hid] at hid'; cases hid'
 · rw [List.getElem?_set_self hid] at hid'; cases hid'
 · rw [List.getElem?_set_self hid] at hid'; cases hid'
 · rw [List.getElem?_set_self hid] at hid'; cases hid'

def St.setObj (S : St) (n : Nat) (hp' : List HO) (d : Option Tmp) (q : PV) : St := St.put ⟨S.fr.map (killP n), hp'⟩ d q

theorem Rel.setObj {w0 : Ini} {S : St} {g g' : Ghost} {ρ : Nat → Loc} {a : Act} {w w' : World} (h : Rel w0 S g ρ a w) (n : Nat) (L : Loc) {hp' : List HO} (hb : Base w0 hp' g' (upd ρ n L) w') (hx : GExt g g')
 (hh : ∀ i, i ≠ n → hp'[i]? = (S.hp[i]?).map (mapHO (killP1 n))) {v : Value} {q : PV} (hv : VRS g' (upd ρ n L) hp' v q) (d : Option Tmp) : Rel w0 (S.setObj n hp' d q) g' (upd ρ n L) (a.put d v) w' := by
 have h1 : Rel w0 ⟨S.fr.map (killP n), hp'⟩ g' (upd ρ n L) a w' := by
  refine ⟨hb, h.dead, by simp [h.size], fun i p hp => ?_⟩
  simp only [List.getElem?_map, Option.map_eq_some_iff] at hp
  obtain ⟨p, hp, rfl⟩ := hp
  exact (h.fr i p hp).kill n L hx hh
 exact h1.put hb (GExt.refl g') hv d

section
variable {P : Program} {o : Oper} {S : St}

theorem e_buildSlice {t e : TypeId} {s by_ : Nat} [ht : SlT P t e s by_] {zs : List Value} [hz : ZeroT P e zs] {n : Nat} {parts : Array (Nat × Operand)} (ho : o.op = .buildSlice t n parts) (hparts : parts.toList = zipFrom 0 (parts.toList.map (·.2)))
 (hn : parts.toList.length = n) {l : List PV} (hl : elems S.hp S.ev (parts.toList.map (·.2)) = l) (hok : elemsOk s l) (hs : 0 < s) (hb : n * s ≤ 16777216) :
 EStep P o S (S.setObj S.hp.length (killH S.hp.length S.hp ++ [.arr false s e l]) o.dst (.hp S.hp.length)) := by
 intro w0 g ρ a w hr Q K hK
 obtain ⟨cells, h1, h2, h3, h4⟩ := buildSlice_any (ht := ht) (hz := hz) ho hparts hn hl hok hs hb hr.base (fun x _ => hr.ev x)
 unfold Oper.wp
 rw [h1]
 subst h3
 have hx := GExt.add hr.base.agree cells
 have hbase := hr.base.push (x' := .arr false s e l) ⟨w.heap.size, l.length, fun _ => 0, fun _ => 0⟩ hx (killP1 S.hp.length) (fun v p h => h.kill S.hp.length _ hx (fun i hi => killH_push _ _ hi)) (hr.base.agree.alloc cells e (0, 0)) ((RowKit.Below.refl _ _).alloc (Nat.le_refl _) _)
  ⟨cells, fun i => (l.getD i .any).flat.getD [], ⟨hs, Ini.own_new hr.base.below.size, Nat.le_refl _, by
   have : l.length ≤ l.length * s := Nat.le_mul_of_pos_right _ hs
   simp only [maxLen]; omega, heap_alloc_new w _, h2, fun i p hi => by
   have := elemsOk_spec hok i p hi
   simpa [List.getD_eq_getElem?_getD, hi] using this, fun i j q hi hq => (h4 i j q hi hq).mono hx, fun k => by
   rw [Ghost.add_same]
   split
   · rename_i hk; exact getElem?_getD (by rw [h2]; exact hk.2)
   · rename_i hk; exact Array.getElem?_eq_none (by rw [h2]; simp at hk; exact hk)⟩⟩ (fun b hb => by simp only [foot] at hb; omega) (fun b hb k => by unfold Ghost.add; rw [if_neg (by omega)])
 exact hK _ _ _ _ hx (hr.setObj S.hp.length _ hbase hx (fun i hi => killH_push _ _ hi) (VRS.hp_new _ _ _ _ _ _ _ _) o.dst)

theorem run_store {P : Program} {t : TypeId} {n : Nat} (hn : ∀ w, (Go.sizeOf t).run P w = .ok n w) {w : World} {b off : Nat} {cur : Array Value} {e : TypeId} (hw : w.heap[b]? = some (.cells cur e (0, 0))) {v : Value} (hv : v.cells.size = n)
 (hone : ∀ u ∈ v.cells.toList, u.oneCell' = true) (hfit : off + n ≤ cur.size) :
 (Instr.storeAt t (.pointer (some ⟨b, off, none⟩)) v).run P w = .ok () (w.setRow b (cur.toList.take off ++ v.cells.toList ++ cur.toList.drop (off + n)).toArray) := by
 have h := run_storeCells_at P b off e v.cells.toList 0 cur w hw (by simp; omega) hone
 have hs : ¬ v.cells.size ≠ n := by simp [hv]
 simp only [Nat.add_zero, Array.length_toList, hv] at h
 unfold Instr.storeAt Instr.sureAddr storeVar
 simp only [Sem.run_bind, run_pure, Result.andThen, hn, hs, if_false, h]

theorem getD_splice (cur : Array Value) (off : Nat) (vs : List Value) (h : off + vs.length ≤ cur.size) (k : Nat) :
 (cur.toList.take off ++ vs ++ cur.toList.drop (off + vs.length)).toArray.getD k undef = if off ≤ k ∧ k < off + vs.length then vs.getD (k - off) undef else cur.getD k undef := by
 simp only [Array.getD_eq_getD_getElem?, List.getElem?_toArray, List.getD_eq_getElem?_getD]
 split
 · rename_i hin
   rw [List.append_assoc, List.getElem?_append_right (by simp; omega), List.getElem?_append_left (by simp; omega)]
   congr 2
   simp; omega
 · rename_i hin
   rcases Nat.lt_or_ge k off with hlt | hge
   · rw [List.append_assoc, List.getElem?_append_left (by simp; omega), List.getElem?_take_of_lt hlt]; simp
   · rw [List.getElem?_append_right (by simp; omega), List.getElem?_drop]
     have : off + vs.length + (k - (cur.toList.take off ++ vs).length) = k := by simp; omega
     rw [this]; simp
theorem size_splice (cur : Array Value) (off : Nat) (vs : List Value) (h : off + vs.length ≤ cur.size) :
 (cur.toList.take off ++ vs ++ cur.toList.drop (off + vs.length)).toArray.size = cur.size := by simp; omega

theorem Agree.setRow {g : Ghost} {w : World} (h : Agree g w) {b : Nat} (hb : ∀ o, g b o = none) (cs : Array Value) : Agree g (w.setRow b cs) := fun b' o v hv => by
 rw [cell_setRow_other w b cs ⟨b', o, none⟩ (fun e => by simp only at e; subst e; rw [hb] at hv; cases hv)]
 exact h b' o v hv

theorem VRS1.same {g g' : Ghost} {ρ : Nat → Loc} {hp hp' : List HO} {v : Value} {p : PV} (hx : GExt g g')
 (h1 : ∀ (id : Nat) (m : Bool) (s : Nat) (e : TypeId) (l : List PV), hp'[id]? = some (HO.arr m s e l) → ∃ (m' : Bool) (s' : Nat) (e' : TypeId) (l' : List PV), hp[id]? = some (HO.arr m' s' e' l') ∧ l'.length = l.length)
 (h2 : ∀ (id : Nat) (e1 e2 : TypeId) (rows : List (List PV)), hp'[id]? = some (HO.grid e1 e2 rows) → ∃ (e1' e2' : TypeId) (rows' : List (List PV)), hp[id]? = some (HO.grid e1' e2' rows') ∧ rows'.length = rows.length ∧ ∀ (i : Nat) (r : List PV), rows[i]? = some r → ∃ r' : List PV, rows'[i]? = some r' ∧ r'.length = r.length)
 (h3 : ∀ (id : Nat) (e1 e2 : TypeId) (n : Nat) (rows : List (List PV)), hp'[id]? = some (HO.pg e1 e2 n rows) → ∃ (e1' e2' : TypeId) (rows' : List (List PV)), hp[id]? = some (HO.pg e1' e2' n rows'))
 (h5 : ∀ (id : Nat) (l : List PV), hp'[id]? = some (HO.box l) → ∃ l' : List PV, hp[id]? = some (HO.box l') ∧ l'.length = l.length)
 (h6 : ∀ (id : Nat) (e1 e2 : TypeId) (n : Nat) (rows : List (List PV)), hp'[id]? = some (HO.sg e1 e2 n rows) → ∃ (e1' e2' : TypeId) (rows' : List (List PV)), hp[id]? = some (HO.sg e1' e2' n rows') ∧ rows'.length = rows.length ∧ ∀ (i : Nat) (r : List PV), rows[i]? = some r → ∃ r' : List PV, rows'[i]? = some r' ∧ r'.tail.length = r.tail.length)
 (h : VRS1 g ρ hp v p) : VRS1 g' ρ hp' v p := by
 have key : ∀ {id}, HpV ρ hp v id → HpV ρ hp' v id := fun {id} h =>
  { sl := h.sl
    arr := fun m s e l hid => by
     obtain ⟨m', s', e', l', h', hl⟩ := h1 _ _ _ _ _ hid
     rw [← hl]; exact h.arr _ _ _ _ h'
    grid := fun e1 e2 rows hid => by
     obtain ⟨e1', e2', rows', h', hl, -⟩ := h2 _ _ _ _ hid
     rw [← hl]; exact h.grid _ _ _ h'
    sg := fun e1 e2 n rows hid => by
     obtain ⟨e1', e2', rows', h', hl, -⟩ := h6 _ _ _ _ _ hid
     rw [← hl]; exact h.sg _ _ _ _ h'
    pg := fun e1 e2 n rows hid => by
     obtain ⟨e1', e2', rows', h'⟩ := h3 _ _ _ _ _ hid
     exact h.pg _ _ _ _ h'
    box := fun l hid => by
     obtain ⟨l', h', hl⟩ := h5 _ _ hid
     rw [← hl]; exact h.box _ h' }
 cases p with
 | hp id => exact key h
 | hpv id b c => exact ⟨key h.1, h.2⟩
 | gr id i =>
  refine (⟨GrV.sl h, fun e1 e2 rows r hid hr => ?_, fun e1 e2 _n rows r hid hr => ?_⟩ : GrV _ _ _ _ _)
  rotate_left
  · obtain ⟨e1', e2', rows', h', hl, hrr⟩ := h6 _ _ _ _ _ hid
    obtain ⟨r', hr', hl'⟩ := hrr i r hr
    rw [← hl']; exact GrV.sg h _ _ _ _ _ h' hr'
  obtain ⟨e1', e2', rows', h', hl, hrr⟩ := h2 _ _ _ _ hid
  obtain ⟨r', hr', hl'⟩ := hrr i r hr
  rw [← hl']; exact GrV.grid h _ _ _ _ h' hr'
 | hat id i => exact h
 | hatv id i b c => exact h
 | gat id i j => exact h
 | _ => exact VR.mono hx h

theorem same_set {hp : List HO} {id : Nat} {x0 x' : HO} (hh : hp[id]? = some x0)
 (s1 : ∀ (m : Bool) (s : Nat) (e : TypeId) (l : List PV), x' = .arr m s e l → ∃ (m' : Bool) (s' : Nat) (e' : TypeId) (l' : List PV), x0 = .arr m' s' e' l' ∧ l'.length = l.length)
 (s2 : ∀ (e1 e2 : TypeId) (rows : List (List PV)), x' = .grid e1 e2 rows → ∃ (e1' e2' : TypeId) (rows' : List (List PV)), x0 = .grid e1' e2' rows' ∧ rows'.length = rows.length ∧ ∀ (i : Nat) (r : List PV), rows[i]? = some r → ∃ r' : List PV, rows'[i]? = some r' ∧ r'.length = r.length)
 (s4 : ∀ (e1 e2 : TypeId) (n : Nat) (rows : List (List PV)), x' = .pg e1 e2 n rows → ∃ (e1' e2' : TypeId) (rows' : List (List PV)), x0 = .pg e1' e2' n rows')
 {g g' : Ghost} {ρ : Nat → Loc} {v : Value} {p : PV} (hx : GExt g g') (h : VRS1 g ρ hp v p)
 (s5 : ∀ l : List PV, x' = .box l → ∃ l' : List PV, x0 = .box l' ∧ l'.length = l.length := by first | (intro l h; cases h; done) | (intro l h; cases h; exact ⟨_, rfl, by first | (simp; done) | (simp; omega)⟩))
 (s6 : ∀ (e1 e2 : TypeId) (n : Nat) (rows : List (List PV)), x' = .sg e1 e2 n rows → ∃ (e1' e2' : TypeId) (rows' : List (List PV)), x0 = .sg e1' e2' n rows' ∧ rows'.length = rows.length ∧ ∀ (i : Nat) (r : List PV), rows[i]? = some r → ∃ r' : List PV, rows'[i]? = some r' ∧ r'.tail.length = r.tail.length := by intro e1 e2 n rows h; cases h; done) : VRS1 g' ρ (hp.set id x') v p := by
 refine h.same hx (fun id' m s e l' h' => ?_) (fun id' e1 e2 rows h' => ?_) (fun id' e1 e2 n rows h' => ?_) (fun id' l' h' => ?_) (fun id' e1 e2 n rows h' => ?_)
 · rw [List.getElem?_set] at h'
   split at h'
   · rename_i e; subst e
     split at h'
     · simp only [Option.some.injEq] at h'
       obtain ⟨m', s', e'', l'', rfl, hl⟩ := s1 _ _ _ _ h'
       exact ⟨_, _, _, _, hh, hl⟩
     · cases h'
   · exact ⟨_, _, _, _, h', rfl⟩
 · rw [List.getElem?_set] at h'
   split at h'
   · rename_i e; subst e
     split at h'
     · simp only [Option.some.injEq] at h'
       obtain ⟨e1', e2', rows', rfl, hl, hrr⟩ := s2 _ _ _ h'
       exact ⟨_, _, _, hh, hl, hrr⟩
     · cases h'
   · exact ⟨_, _, _, h', rfl, fun i r hr => ⟨r, hr, rfl⟩⟩
 · rw [List.getElem?_set] at h'
   split at h'
   · rename_i e; subst e
     split at h'
     · simp only [Option.some.injEq] at h'
       obtain ⟨e1', e2', rows', rfl⟩ := s4 _ _ _ _ h'
       exact ⟨_, _, _, hh⟩
     · cases h'
   · exact ⟨_, _, _, h'⟩
 · rw [List.getElem?_set] at h'
   split at h'
   · rename_i e; subst e
     split at h'
     · simp only [Option.some.injEq] at h'
       obtain ⟨l'', rfl, hl⟩ := s5 _ h'
       exact ⟨_, hh, hl⟩
     · cases h'
   · exact ⟨_, h', rfl⟩
 · rw [List.getElem?_set] at h'
   split at h'
   · rename_i e; subst e
     split at h'
     · simp only [Option.some.injEq] at h'
       obtain ⟨e1', e2', rows', rfl, hl, hrr⟩ := s6 _ _ _ _ h'
       exact ⟨_, _, _, hh, hl, hrr⟩
     · cases h'
   · exact ⟨_, _, _, h', rfl, fun i r hr => ⟨r, hr, rfl⟩⟩

theorem Rel.same {w0 : Ini} {S : St} {g g' : Ghost} {ρ : Nat → Loc} {a : Act} {w w' : World} (h : Rel w0 S g ρ a w) {hp' : List HO} (hb : Base w0 hp' g' ρ w')
 (hs : ∀ v p, VRS1 g ρ S.hp v p → VRS1 g' ρ hp' v p) : Rel w0 ⟨S.fr, hp'⟩ g' ρ a w' := ⟨hb, h.dead, h.size, fun i p hp => (h.fr i p hp).turn hs⟩

end
section
variable {P : Program} {o : Oper} {S : St}

theorem upd_id (ρ : Nat → Loc) (id : Nat) : upd ρ id (ρ id) = ρ := by
 funext i; unfold upd; split
 · rename_i h; rw [h]
 · rfl

theorem EStep.of_store {t : TypeId} {n : Nat} (hn : ∀ w, (Go.sizeOf t).run P w = .ok n w) {x v : Operand} {id : Nat} {x0 x' : HO} (ho : o.op = .store t x v) (hd : o.dst = none) (hh : S.hp[id]? = some x0)
 (s1 : ∀ (m : Bool) (s : Nat) (e : TypeId) (l : List PV), x' = .arr m s e l → ∃ (m' : Bool) (s' : Nat) (e' : TypeId) (l' : List PV), x0 = .arr m' s' e' l' ∧ l'.length = l.length)
 (s2 : ∀ (e1 e2 : TypeId) (rows : List (List PV)), x' = .grid e1 e2 rows → ∃ (e1' e2' : TypeId) (rows' : List (List PV)), x0 = .grid e1' e2' rows' ∧ rows'.length = rows.length ∧ ∀ (i : Nat) (r : List PV), rows[i]? = some r → ∃ r' : List PV, rows'[i]? = some r' ∧ r'.length = r.length)
 (s4 : ∀ (e1 e2 : TypeId) (n : Nat) (rows : List (List PV)), x' = .pg e1 e2 n rows → ∃ (e1' e2' : TypeId) (rows' : List (List PV)), x0 = .pg e1' e2' n rows')
 (s3 : ∀ L b, foot x' L b → foot x0 L b)
 (h : ∀ (w0 : Ini) (g : Ghost) (ρ : Nat → Loc) (a : Act) (w : World), Rel w0 S g ρ a w → (∀ v p, VRS1 g ρ S.hp v p → VRS1 g ρ (S.hp.set id x') v p) → ∃ (b off : Nat) (cur : Array Value) (e : TypeId), a.eval x = .pointer (some ⟨b, off, none⟩) ∧ foot x0 (ρ id) b ∧ w0.own b = true ∧
  w.heap[b]? = some (.cells cur e (0, 0)) ∧ (∀ o, g b o = none) ∧ off + n ≤ cur.size ∧ (a.eval v).cells.size = n ∧ (∀ u ∈ (a.eval v).cells.toList, u.oneCell' = true) ∧
  ∀ cur' : Array Value, cur'.size = cur.size → (∀ k, cur'.getD k undef = if off ≤ k ∧ k < off + n then (a.eval v).cells.getD (k - off) undef else cur.getD k undef) → HOwn g ρ (S.hp.set id x') (w.setRow b cur') w0.own x' (ρ id))
 (s5 : ∀ l : List PV, x' = .box l → ∃ l' : List PV, x0 = .box l' ∧ l'.length = l.length := by first | (intro l h; cases h; done) | (intro l h; cases h; exact ⟨_, rfl, by first | (simp; done) | (simp; omega)⟩))
 (s6 : ∀ (e1 e2 : TypeId) (n : Nat) (rows : List (List PV)), x' = .sg e1 e2 n rows → ∃ (e1' e2' : TypeId) (rows' : List (List PV)), x0 = .sg e1' e2' n rows' ∧ rows'.length = rows.length ∧ ∀ (i : Nat) (r : List PV), rows[i]? = some r → ∃ r' : List PV, rows'[i]? = some r' ∧ r'.tail.length = r.tail.length := by intro e1 e2 n rows h; cases h; done) :
 EStep P o S ⟨S.fr, S.hp.set id x'⟩ := by
 intro w0 g ρ a w hr Q K hK
 have hsame : ∀ v p, VRS1 g ρ S.hp v p → VRS1 g ρ (S.hp.set id x') v p := fun v p h => same_set hh s1 s2 s4 (GExt.refl g) h s5 s6
 obtain ⟨b, off, cur, e, ea, hf, hB, hw, hgn, hfit, hvs, hone, hown⟩ := h w0 g ρ a w hr hsame
 have hlt : id < S.hp.length := (List.getElem?_eq_some_iff.1 hh).1
 have hst := run_store (P := P) hn (w := w) (b := b) (off := off) hw (v := a.eval v) hvs hone hfit
 have hln : (a.eval v).cells.toList.length = n := by simpa using hvs
 have hsp := getD_splice cur off (a.eval v).cells.toList (by rw [hln]; exact hfit)
 have hsps := size_splice cur off (a.eval v).cells.toList (by rw [hln]; exact hfit)
 rw [hln] at hsp hsps
 generalize hcur : (cur.toList.take off ++ (a.eval v).cells.toList ++ cur.toList.drop (off + n)).toArray = cur' at *
 have hx := GExt.refl g
 have hbase := hr.base.upd hh (x' := x') (ρ id) hx _root_.id (by rw [upd_id, map_mapHO_id]; exact hsame) (hr.base.agree.setRow hgn cur') (hr.base.below.setRow hB cur') (fun _ _ _ => rfl)
  (by rw [upd_id, map_mapHO_id]; exact hown cur' hsps (fun k => by rw [hsp k]; congr 1; simp [List.getD_eq_getElem?_getD, Array.getD_eq_getD_getElem?])) (fun b' hb' => .inl (s3 _ _ hb'))
  (fun b' hb' hnf => ⟨setRow_other w _ _ _ (by intro e; subst e; exact hnf hf), fun _ => rfl⟩)
 rw [upd_id, map_mapHO_id] at hbase
 unfold Oper.wp
 simp only [execOp, ho, ea]
 have hrun : (do Instr.storeAt t (.pointer (some ⟨b, off, none⟩)) (a.eval v); pure Next.skip : Sem Next).run P w = .ok .skip (w.setRow b cur') := by
  rw [Sem.run_bind, hst]; rfl
 rw [hrun]
 simp only [Oper.upon, hd]
 exact hK g ρ a _ hx (hr.same hbase hsame)

theorem e_store_arr {t : TypeId} [ht : CellT P t] {x v : Operand} {id i : Nat} {e : TypeId} {l : List PV} {p : PV} (ho : o.op = .store t x v) (hd : o.dst = none) (h1 : S.ev x = .hat id i) (hh : S.hp[id]? = some (.arr true 1 e l)) (hi : i < l.length)
 (h2 : view S.hp (S.ev v) = p) (hp1 : p.one = true) : EStep P o S ⟨S.fr, S.hp.set id (.arr true 1 e (l.set i p))⟩ := by
 refine EStep.of_store ht.hs ho hd hh (fun m s e l h => by cases h; exact ⟨_, _, _, _, rfl, by simp⟩) (fun e1 e2 rows h => by cases h) (fun e1 e2 n rows h => by cases h) (fun L b h => h) fun w0 g ρ a w hr _ => ?_
 obtain ⟨cur, c, hown⟩ := hr.base.own id _ hh
 have ea : a.eval x = .pointer (some ⟨(ρ id).blk, i, none⟩) := by have := hr.ev x; rw [h1] at this; exact this
 have ev := hr.base.view (hr.ev v)
 rw [h2] at ev
 obtain ⟨hc1, hc2⟩ := ev.oneCell hp1
 have hsz : i + 1 ≤ cur.size := by rw [hown.hsz, Nat.mul_one]; exact Nat.le_trans hi hown.hcap
 have hgn : ∀ o, g (ρ id).blk o = none := fun o => by rw [hown.hg o]; simp
 refine ⟨_, i, cur, e, ea, rfl, hown.hB, hown.hw, hgn, hsz, by rw [hc1]; rfl, by rw [hc1]; simpa using hc2, fun cur' hs' hk' => ?_⟩
 refine ⟨cur', fun k => if k = i then [p] else c k, ⟨hown.hs, hown.hB, by simpa using hown.hcap, hown.hmax, setRow_heap w _ _ _ _ _ hown.hw, hs'.trans hown.hsz, fun k p' hk => ?_, fun k j q hk hq => ?_, fun k => by rw [hgn k]; simp⟩⟩
 · rw [List.getElem?_set] at hk
   by_cases e : k = i
   · subst e
     simp [hi] at hk
     subst hk
     simp [flat_one hp1]
   · rw [if_neg (Ne.symm e)] at hk
     rw [if_neg e]
     exact hown.hf k p' hk
 · simp only [List.length_set] at hk
   have hlen1 : (if k = i then [p] else c k).length = 1 := by
    split
    · rfl
    · exact (hown.hf k l[k] (List.getElem?_eq_getElem hk)).2
   have hj : j = 0 := by
    have := (List.getElem?_eq_some_iff.1 hq).1
    omega
   subst hj
   simp only [Nat.mul_one, Nat.add_zero]
   rw [hk' k]
   by_cases e : k = i
   · subst e
     rw [if_pos rfl] at hq
     simp at hq
     subst hq
     rw [if_pos (by omega), hc1]
     simpa using ev
   · rw [if_neg e] at hq
     rw [if_neg (by omega)]
     have := hown.hv k 0 q hk hq
     simpa using this

theorem e_store_box {t : TypeId} {n : Nat} (hn : ∀ w, (Go.sizeOf t).run P w = .ok n w) {x v : Operand} {id i : Nat} {l c : List PV} {p : PV} (ho : o.op = .store t x v) (hd : o.dst = none) (h1 : S.ev x = .hat id i) (hh : S.hp[id]? = some (.box l)) (hi : i + n ≤ l.length)
 (h2 : S.ev v = p) (hc : p.flat = some c) (hcn : c.length = n) (hone : (c.all PV.one) = true) : EStep P o S ⟨S.fr, S.hp.set id (.box (l.take i ++ c ++ l.drop (i + n)))⟩ := by
 refine EStep.of_store hn ho hd hh (fun m s e l h => by cases h) (fun e1 e2 rows h => by cases h) (fun e1 e2 n rows h => by cases h) (fun L b h => h) fun w0 g ρ a w hr hsame => ?_
 obtain ⟨cur, e, hown⟩ := hr.base.own id _ hh
 have ea : a.eval x = .pointer (some ⟨(ρ id).blk, i, none⟩) := by have := hr.ev x; rw [h1] at this; exact this
 have ev := hr.ev v
 rw [h2] at ev
 obtain ⟨c1, c2⟩ := ev.cells hc
 refine ⟨_, i, cur, e, ea, rfl, hown.hB, hown.hw, hown.hg, by rw [hown.hsz]; exact hi, c1.trans hcn, fun u hu => ?_, fun cur' hs' hk' => ?_⟩
 · obtain ⟨k, hk⟩ := List.getElem?_of_mem hu
   have hklt : k < c.length := by rw [← c1]; simpa using (List.getElem?_eq_some_iff.1 hk).1
   have hck : c[k]? = some c[k] := List.getElem?_eq_getElem hklt
   have hvr := c2 k _ hck
   have : (a.eval v).cells.getD k undef = u := by
    simp only [Array.getElem?_toList] at hk
    simp [Array.getD_eq_getD_getElem?, hk]
   rw [this] at hvr
   exact (hvr.oneCell (List.all_eq_true.1 hone _ (List.mem_of_getElem? hck))).2
 · refine ⟨cur', e, hown.hB, setRow_heap w _ _ _ _ _ hown.hw, by rw [hs', hown.hsz]; simp; omega, fun k q hq => ?_, hown.hg⟩
   rw [hk' k]
   split
   · rename_i hin
     rw [List.append_assoc, List.getElem?_append_right (by simp; omega), List.getElem?_append_left (by simp; omega)] at hq
     have : k - (l.take i).length = k - i := by simp; omega
     rw [this] at hq
     exact hsame _ _ (c2 _ q hq)
   · rename_i hin
     rcases Nat.lt_or_ge k i with hlt | hge
     · rw [List.append_assoc, List.getElem?_append_left (by simp; omega), List.getElem?_take_of_lt hlt] at hq
       exact hsame _ _ (hown.hv k q hq)
     · rw [List.getElem?_append_right (by simp; omega), List.getElem?_drop] at hq
       have : i + n + (k - (l.take i ++ c).length) = k := by simp; omega
       rw [this] at hq
       exact hsame _ _ (hown.hv k q hq)

theorem e_box {t : TypeId} {x : Operand} {c : List PV} (ho : o.op = .box t x) (h1 : (S.ev x).flat = some c) : EStep P o S (S.setObj S.hp.length (killH S.hp.length S.hp ++ [.box (c.map (killP1 S.hp.length))]) o.dst (.hat S.hp.length 0)) := by
 intro w0 g ρ a w hr Q K hK
 have e1 := hr.ev x
 obtain ⟨hl, hv⟩ := e1.cells h1
 unfold Oper.wp
 simp only [execOp, ho]
 rw [run_value (run_box (P := P) t (a.eval x) w)]
 have hgn : ∀ k, g w.heap.size k = none := fun k => by
  cases hk : g w.heap.size k with
  | none => rfl
  | some v => exact absurd (hr.base.agree.lt hk) (Nat.lt_irrefl _)
 have hbase := hr.base.push (x' := .box (c.map (killP1 S.hp.length))) ⟨w.heap.size, 0, fun _ => 0, fun _ => 0⟩ (GExt.refl g) (killP1 S.hp.length) (fun v p h => h.kill S.hp.length _ (GExt.refl g) (fun i hi => killH_push _ _ hi)) (hr.base.agree.below ((RowKit.Below.refl _ _).alloc (Nat.le_refl _) _)) ((RowKit.Below.refl _ _).alloc (Nat.le_refl _) _)
  ⟨(a.eval x).cells, t, ⟨Ini.own_new hr.base.below.size, heap_alloc_new w _, by simpa using hl, fun k q hq => by
   simp only [List.getElem?_map, Option.map_eq_some_iff] at hq
   obtain ⟨p, hp, rfl⟩ := hq
   exact (hv k p hp).kill S.hp.length _ (GExt.refl g) (fun i hi => killH_push _ _ hi), hgn⟩⟩ (fun b hb => by simp only [foot] at hb; omega) (fun b hb k => rfl)
 exact hK _ _ _ _ (GExt.refl g) (hr.setObj S.hp.length _ hbase (GExt.refl g) (fun i hi => killH_push _ _ hi) (by show _ = _; rw [upd_same]) o.dst)

theorem e_alloc {t : TypeId} {zs : List Value} [hz : ZeroT P t zs] (ho : o.op = .alloc t) : EStep P o S (S.setObj S.hp.length (killH S.hp.length S.hp ++ [.box (zs.map .val)]) o.dst (.hat S.hp.length 0)) := by
 intro w0 g ρ a w hr Q K hK
 obtain ⟨z, hz1, hz2⟩ := hz.hz
 unfold Oper.wp
 have hrun : (execOp a.eval o).run P w = .ok (.value (.pointer (some ⟨w.heap.size, 0, none⟩))) (w.alloc (.cells z.cells t)) := by
  simp only [execOp, ho]
  refine run_value ?_
  unfold Instr.alloc
  simp only [Sem.run_bind, hz1, Result.andThen]
  simp [newVar, newRow, go_sem]
 rw [hrun]
 have hgn : ∀ k, g w.heap.size k = none := fun k => by
  cases hk : g w.heap.size k with
  | none => rfl
  | some v => exact absurd (hr.base.agree.lt hk) (Nat.lt_irrefl _)
 have hbase := hr.base.push (x' := .box (zs.map .val)) ⟨w.heap.size, 0, fun _ => 0, fun _ => 0⟩ (GExt.refl g) (killP1 S.hp.length) (fun v p h => h.kill S.hp.length _ (GExt.refl g) (fun i hi => killH_push _ _ hi)) (hr.base.agree.below ((RowKit.Below.refl _ _).alloc (Nat.le_refl _) _)) ((RowKit.Below.refl _ _).alloc (Nat.le_refl _) _)
  ⟨z.cells, t, ⟨Ini.own_new hr.base.below.size, heap_alloc_new w _, by rw [← hz2]; simp, fun k q hq => by
   simp only [List.getElem?_map, Option.map_eq_some_iff] at hq
   obtain ⟨u, hu, rfl⟩ := hq
   have : z.cells.getD k undef = u := by
    rw [← hz2, Array.getElem?_toList] at hu
    simp [Array.getD_eq_getD_getElem?, hu]
   rw [this]; exact VRS1.of_VR (.val u), hgn⟩⟩ (fun b hb => by simp only [foot] at hb; omega) (fun b hb k => rfl)
 exact hK _ _ _ _ (GExt.refl g) (hr.setObj S.hp.length _ hbase (GExt.refl g) (fun i hi => killH_push _ _ hi) (by show _ = _; rw [upd_same]) o.dst)

class MkT (P : Program) (t : TypeId) (e : outParam TypeId) (s : outParam Nat) (bytes : outParam Nat) (zs : outParam (List Value)) : Prop where
 hu : P.underlying t = some (.slice e)
 hi : ∃ i z, P.info? e = some i ∧ i.size = s ∧ i.bytes = bytes ∧ i.zero = some z ∧ z.cells.toList = zs

theorem e_make {t e : TypeId} {s by_ : Nat} {zs : List Value} [ht : MkT P t e s by_ zs] {x y : Operand} {n : Int} {zp : PV} (ho : o.op = .makeSlice t x y) (h1 : S.ev x = I n) (h2 : S.ev y = I n) (h0 : 0 ≤ n) (hb : n * by_ ≤ 140737488355328) (hn : n ≤ 9223372036854775807)
 (hs : 0 < s) (hz : zp.flat = some (zs.map .val)) (hzs : zs.length = s) : EStep P o S (S.setObj S.hp.length (killH S.hp.length S.hp ++ [.arr true s e (List.replicate n.toNat zp)]) o.dst (.hp S.hp.length)) := by
 intro w0 g ρ a w hr Q K hK
 have e1 := val_of (hr.ev x) h1
 have e2 := val_of (hr.ev y) h2
 obtain ⟨i, z, hi, hi1, hi2, hi3, hi4⟩ := ht.hi
 have hrun := run_make (P := P) w t e i z ht.hu hi hi3 .i64 .i64 n n h0 (Int.le_refl _) (by rw [hi2, Int.mul_comm]; omega) hn
 rw [hi1] at hrun
 unfold Oper.wp
 simp only [execOp, ho, e1, e2]
 rw [run_value hrun]
 have hgn : ∀ k, g w.heap.size k = none := fun k => by
  cases hk : g w.heap.size k with
  | none => rfl
  | some v => exact absurd (hr.base.agree.lt hk) (Nat.lt_irrefl _)
 have hzc : z.cells.size = s := by rw [← hzs, ← hi4]; simp
 have hbase := hr.base.push (x' := .arr true s e (List.replicate n.toNat zp)) ⟨w.heap.size, n.toNat, fun _ => 0, fun _ => 0⟩ (GExt.refl g) (killP1 S.hp.length) (fun v p h => h.kill S.hp.length _ (GExt.refl g) (fun i hi => killH_push _ _ hi)) (hr.base.agree.below ((RowKit.Below.refl _ _).alloc (Nat.le_refl _) _)) ((RowKit.Below.refl _ _).alloc (Nat.le_refl _) _)
  ⟨madeCells z.cells (n.toNat * s), fun _ => zs.map .val, ⟨hs, Ini.own_new hr.base.below.size, by simp, by simp only [maxLen]; omega, heap_alloc_new w _, by simp [size_madeCells], fun k p hk => (by
   rw [List.getElem?_replicate] at hk
   split at hk
   · cases hk; exact ⟨hz, by simp [hzs]⟩
   · cases hk), fun k j q hk hq => by
   simp only [List.length_replicate] at hk
   simp only [List.getElem?_map, Option.map_eq_some_iff] at hq
   obtain ⟨u, hu, rfl⟩ := hq
   have hj : j < s := by rw [← hzs]; exact (List.getElem?_eq_some_iff.1 hu).1
   have hlt : k * s + j < n.toNat * s := by
    calc k * s + j < k * s + s := by omega
     _ = (k + 1) * s := by rw [Nat.add_mul]; omega
     _ ≤ n.toNat * s := Nat.mul_le_mul_right _ hk
   have : (madeCells z.cells (n.toNat * s)).getD (k * s + j) undef = u := by
    rw [← hi4, Array.getElem?_toList] at hu
    have hm : (k * s + j) % s = j := by rw [Nat.mul_comm, Nat.mul_add_mod]; exact Nat.mod_eq_of_lt hj
    have hjz : j < z.cells.size := by omega
    simp only [madeCells, Array.getD_eq_getD_getElem?, Array.getElem?_map, Array.getElem?_range, hlt, if_true, Option.map_some, Option.getD_some, hzc, hm]
    rw [getElem!_def, hu]
   rw [this]; exact .val u, fun k => by simp [hgn k]⟩⟩ (fun b hb => by simp only [foot] at hb; omega) (fun b hb k => rfl)
 have hv := VRS.hp_new g ρ S.hp true s e (List.replicate n.toNat zp) ⟨w.heap.size, n.toNat, fun _ => 0, fun _ => 0⟩
 simp only [List.length_replicate] at hv
 exact hK _ _ _ _ (GExt.refl g) (hr.setObj S.hp.length _ hbase (GExt.refl g) (fun i hi => killH_push _ _ hi) hv o.dst)

def gset (g : Ghost) (b : Nat) (f : Nat → Option Value) : Ghost := fun b' o => if b' = b then f o else g b' o

theorem ArrOwn.grow {g g' : Ghost} {w w' : World} {D : Nat → Bool} {mt : Bool} {s : Nat} {e : TypeId} {l l2 : List PV} {L L' : Loc} {cur cur' : Array Value} {c c2 : Nat → List PV} {cs : Nat → Value} (h : ArrOwn g w D mt s e l L cur c) (hx : GExt g g')
 (hB : D L'.blk = true) (hcap : l.length + l2.length ≤ L'.cap) (hmax : L'.cap ≤ maxLen) (hw : w'.heap[L'.blk]? = some (.cells cur' e (0, 0))) (hsz : cur'.size = L'.cap * s)
 (hf : ∀ (i : Nat) (p : PV), l2[i]? = some p → p.flat = some (c2 i) ∧ (c2 i).length = s) (hv : ∀ (i j : Nat) (q : PV), i < l2.length → (c2 i)[j]? = some q → VR g (cs (i * s + j)) q)
 (h1 : ∀ k, k < l.length * s → cur'.getD k undef = cur.getD k undef) (h2 : ∀ k, k < l2.length * s → cur'.getD (l.length * s + k) undef = cs k)
 (hg : ∀ o, g' L'.blk o = if mt = false ∧ o < (l.length + l2.length) * s then some (cur'.getD o undef) else none) :
 ArrOwn g' w' D mt s e (l ++ l2) L' cur' (fun i => if i < l.length then c i else c2 (i - l.length)) := by
 have lt : ∀ {i j n : Nat} {x : List PV} {q : PV}, i < n → x.length = s → x[j]? = some q → i * s + j < n * s := fun {i j n x q} hi hx hq => by
  have hj := (List.getElem?_eq_some_iff.1 hq).1
  calc i * s + j < i * s + s := by omega
   _ = (i + 1) * s := by rw [Nat.add_mul]; omega
   _ ≤ n * s := Nat.mul_le_mul_right _ hi
 refine ⟨h.hs, hB, by simpa using hcap, hmax, hw, hsz, fun i p hi => ?_, fun i j q hi hq => ?_, by simpa using hg⟩
 · split
   · rename_i hlt; rw [List.getElem?_append_left hlt] at hi; exact h.hf i p hi
   · rename_i hge; rw [List.getElem?_append_right (by omega)] at hi; exact hf _ p hi
 · simp only [List.length_append] at hi
   split at hq
   · rename_i hlt
     rw [h1 _ (lt hlt (h.hf i _ (List.getElem?_eq_getElem hlt)).2 hq)]
     exact (h.hv i j q hlt hq).mono hx
   · rename_i hge
     have hi2 : i - l.length < l2.length := by omega
     have he : i * s + j = l.length * s + ((i - l.length) * s + j) := by
      rw [← Nat.add_assoc, ← Nat.add_mul]; congr 2; omega
     rw [he, h2 _ (lt hi2 (hf _ _ (List.getElem?_eq_getElem hi2)).2 hq)]
     exact (hv _ j q hi2 hq).mono hx

theorem e_append {t e : TypeId} {s by_ : Nat} {zs : List Value} [ht : MkT P t e s by_ zs] {x y : Operand} {tys : Array TypeId} {id : Nat} {mt : Bool} {e' : TypeId} {l l2 : List PV} {nn : Option Bool} (ho : o.op = .call { callee := .builtin .append, args := #[x, y], argTypes := tys })
 (htys : tys = #[t, t]) (h1 : S.ev x = .hp id) (hh : S.hp[id]? = some (.arr mt s e' l)) (he : e' = e) (h2 : view S.hp (S.ev y) = .sl s nn l2) (hone : ∀ p ∈ l2, ∀ c, p.flat = some c → (c.all PV.one) = true) (hzs : zs.length = s)
 (hb : (l.length + l2.length) * by_ ≤ 140737488355328) (hm : l.length + l2.length ≤ 9223372036854775807) : EStep P o S (S.setObj id ((killH id S.hp).set id (.arr mt s e (l ++ l2))) o.dst (.hp id)) := by
 subst he
 subst htys
 intro w0 g ρ a w hr Q K hK
 obtain ⟨cur, c, hown⟩ := hr.base.own id _ hh
 have ex : a.eval x = .slice (some ⟨(ρ id).blk, 0, none⟩) l.length (ρ id).cap := by have := hr.ev x; rw [h1] at this; exact HpV.arr this _ _ _ _ hh
 have ey := hr.base.view (hr.ev y)
 rw [h2] at ey
 have hlt : id < S.hp.length := (List.getElem?_eq_some_iff.1 hh).1
 have hblt : (ρ id).blk < w.heap.size := (Array.getElem?_eq_some_iff.1 hown.hw).1
 obtain ⟨i, z, hi, hi1, hi2, hi3, hi4⟩ := ht.hi
 have hzc : z.cells.size = s := by rw [← hzs, ← hi4]; simp
 have hmm : l.length + l2.length ≤ maxLen := by simp only [maxLen]; omega
 -- the appended cells
 have hsrc : ∃ (av : Value) (c2 : Nat → List PV) (cs : Nat → Value), a.eval y = av ∧ (∀ (i : Nat) (p : PV), l2[i]? = some p → p.flat = some (c2 i) ∧ (c2 i).length = s) ∧ (∀ (i j : Nat) (q : PV), i < l2.length → (c2 i)[j]? = some q → VR g (cs (i * s + j)) q) ∧
  (((av = .slice none 0 0 ∨ ∃ (a : Addr) (cap : Nat), av = .slice (some a) 0 cap) ∧ l2 = []) ∨ ∃ b of_ cap, av = .slice (some ⟨b, of_, none⟩) l2.length cap ∧ ∀ k, k < l2.length * s → g b (of_ + k) = some (cs k)) := by
  rcases VR.sl_inv ey with ⟨q1, rfl, _⟩ | ⟨a', cap', q1, rfl, _⟩ | ⟨b, of_, cap, c2, cs, q1, _, _, _, _, f1, f2, f3⟩
  · exact ⟨_, fun _ => [], fun _ => undef, rfl, fun i p h => by simp at h, fun i j q h => by simp at h, .inl ⟨.inl q1, rfl⟩⟩
  · exact ⟨_, fun _ => [], fun _ => undef, rfl, fun i p h => by simp at h, fun i j q h => by simp at h, .inl ⟨.inr ⟨a', cap', q1⟩, rfl⟩⟩
  · exact ⟨_, c2, cs, rfl, f1, f3, .inr ⟨b, of_, cap, q1, f2⟩⟩
 obtain ⟨av, c2, cs, eav, hf2, hv2, hsrc⟩ := hsrc
 let news : List Value := (List.range (l2.length * s)).map cs
 have hnl : news.length = l2.length * s := by simp [news]
 have hnk : ∀ (k : Nat), k < l2.length * s → news.getD k undef = cs k := fun k hk => by simp [news, List.getD_eq_getElem?_getD, hk]
 have hone' : ∀ u ∈ news, u.oneCell' = true := fun u hu => by
  obtain ⟨k, hk, rfl⟩ := List.mem_map.1 hu
  have hk := List.mem_range.1 hk
  have hs := hown.hs
  have hks : k / s < l2.length := Nat.div_lt_of_lt_mul (by rw [Nat.mul_comm]; exact hk)
  obtain ⟨f1, f2⟩ := hf2 _ _ (List.getElem?_eq_getElem hks)
  have hms : k % s < (c2 (k / s)).length := by rw [f2]; exact Nat.mod_lt _ hs
  have hq := List.getElem?_eq_getElem hms
  have hvr := hv2 (k / s) (k % s) _ hks hq
  rw [show k / s * s + k % s = k by rw [Nat.mul_comm]; exact Nat.div_add_mod k s] at hvr
  exact (hvr.oneCell (List.all_eq_true.1 (hone _ (List.getElem_mem hks) _ f1) _ (List.getElem_mem hms))).2
 have hcursz := hown.hsz
 -- how it ends, whichever way it goes
 suffices hend : ∃ (blk cap : Nat) (cur' : Array Value) (w' : World) (g' : Ghost), (execOp a.eval o).run P w = .ok (.value (.slice (some ⟨blk, 0, none⟩) (l.length + l2.length) cap)) w' ∧ GExt g g' ∧ Agree g' w' ∧ BelowL w0 w' ∧
  (∀ b o, ¬ w0.own b = true → g' b o = g b o) ∧ w0.own blk = true ∧ l.length + l2.length ≤ cap ∧ cap ≤ maxLen ∧ w'.heap[blk]? = some (.cells cur' e' (0, 0)) ∧ cur'.size = cap * s ∧
  (∀ k, k < l.length * s → cur'.getD k undef = cur.getD k undef) ∧ (∀ k, k < l2.length * s → cur'.getD (l.length * s + k) undef = cs k) ∧
  (∀ o, g' blk o = if mt = false ∧ o < (l.length + l2.length) * s then some (cur'.getD o undef) else none) ∧ (blk = (ρ id).blk ∨ w.heap.size ≤ blk) ∧
  (∀ b, b < w.heap.size → b ≠ (ρ id).blk → w'.heap[b]? = w.heap[b]? ∧ ∀ o, g' b o = g b o) by
  obtain ⟨blk, cap, cur', w', g', hrun, hx, hag, hbl, hold, hB, hcap, hmax, hw', hsz', k1, k2, hg', hblk, hkeep⟩ := hend
  unfold Oper.wp
  rw [hrun]
  have hnew := hown.grow (L' := ⟨blk, cap, fun _ => 0, fun _ => 0⟩) hx hB hcap hmax hw' hsz' hf2 hv2 k1 k2 hg'
  have hbase := hr.base.upd hh (x' := .arr mt s e' (l ++ l2)) ⟨blk, cap, fun _ => 0, fun _ => 0⟩ hx (killP1 id) (fun v p h => h.kill id _ hx (fun i hi => killH_set _ _ _ hi)) hag hbl hold ⟨cur', _, hnew⟩ (fun b hb => by
   simp only [foot] at hb ⊢
   rcases hblk with h | h
   · left; omega
   · right; left; omega) (fun b hb hnf => hkeep b hb (fun e => hnf e))
  have hv := VRS.hp_upd g' ρ (killH id S.hp) (by rw [length_killH]; exact hlt) mt s e' (l ++ l2) ⟨blk, cap, fun _ => 0, fun _ => 0⟩
  simp only [List.length_append] at hv
  exact hK _ _ _ _ hx (hr.setObj id _ hbase hx (fun i hi => killH_set _ _ _ hi) hv o.dst)
 have hexec : ∀ {v : Value} {w' : World}, (Builtin.append_ #[t, t] o.type #[.slice (some ⟨(ρ id).blk, 0, none⟩) l.length (ρ id).cap, av]).run P w = .ok v w' → (execOp a.eval o).run P w = .ok (.value v) w' := fun {v w'} h => by
  simp only [execOp, ho, resolve, Sem.run_bind, run_pure, Result.andThen, invoke, builtin]
  have : (#[x, y].map a.eval) = #[.slice (some ⟨(ρ id).blk, 0, none⟩) l.length (ρ id).cap, av] := by simp [ex, eav]
  rw [this, h]
 have holdw : ∀ b, ¬ w0.own b = true → b ≠ (ρ id).blk := fun b hb e => hb (e ▸ hown.hB)
 rcases hsrc with ⟨hav, hl2⟩ | ⟨b, of_, capy, hav, hgk⟩
 · -- nothing is appended
   subst hl2
   have hroom' : l.length ≤ (ρ id).cap := hown.hcap
   refine ⟨(ρ id).blk, (ρ id).cap, cur, w, g, hexec ?_, GExt.refl g, hr.base.agree, hr.base.below, fun _ _ _ => rfl, hown.hB, by simpa using hroom', hown.hmax, hown.hw, hown.hsz, fun _ _ => rfl, fun k hk => by simp at hk, by simpa using hown.hg, .inl rfl, fun _ _ _ => ⟨rfl, fun _ => rfl⟩⟩
   rcases hav with hav | ⟨a', cap', hav⟩
   · subst hav
     simp [Builtin.append_, run_underlying ht.hu, Go.sizeOf, typeInfo, hi, Builtin.lenOf, Builtin.firstCells, hroom', go_sem, storeCells]
   · subst hav
     simp [Builtin.append_, run_underlying ht.hu, Go.sizeOf, typeInfo, hi, Builtin.lenOf, Builtin.firstCells, hroom', go_sem, storeCells, loadCells]
 have hcellsrc : ∀ (j : Nat) (u : Value), news[j]? = some u → w.cell? ((⟨b, of_, none⟩ : Addr).add j) = some u := fun j u hj => by
  rw [Addr.add_n]
  have hjl : j < l2.length * s := by rw [← hnl]; exact (List.getElem?_eq_some_iff.1 hj).1
  have : u = cs j := by rw [← hnk j hjl]; simp [List.getD_eq_getElem?_getD, hj]
  rw [this]; exact hr.base.agree _ _ _ (hgk j hjl)
 have hltl : ∀ k, k < l.length * s → k < (l.length + l2.length) * s := fun k hk => Nat.lt_of_lt_of_le hk (Nat.mul_le_mul_right _ (by omega))
 by_cases hroom : l.length + l2.length ≤ (ρ id).cap
 · -- there is room
   have hfit : l.length * s + news.length ≤ cur.size := by rw [hnl, hcursz, ← Nat.add_mul]; exact Nat.mul_le_mul_right _ hroom
   have hsp := getD_splice cur (l.length * s) news hfit
   have hsps := size_splice cur (l.length * s) news hfit
   have hrun := run_append_room (P := P) w t o.type e' i ht.hu hi (ρ id).blk l.length (ρ id).cap cur hown.hw ⟨b, of_, none⟩ l2.length capy news (by rw [hi1]; exact hnl) hcellsrc hone' hroom (by rw [hi1]; exact hfit)
   rw [hi1, ← hav] at hrun
   generalize hcur : (cur.toList.take (l.length * s) ++ news ++ cur.toList.drop (l.length * s + news.length)).toArray = cur' at *
   have k1 : ∀ k, k < l.length * s → cur'.getD k undef = cur.getD k undef := fun k hk => by rw [hsp k, if_neg (by omega)]
   have k2 : ∀ k, k < l2.length * s → cur'.getD (l.length * s + k) undef = cs k := fun k hk => by
    rw [hsp, if_pos (by omega), show l.length * s + k - l.length * s = k by omega]; exact hnk k hk
   have hw' := setRow_heap w (ρ id).blk cur cur' e' (0, 0) hown.hw
   have hsz' : cur'.size = (ρ id).cap * s := hsps.trans hcursz
   let f : Nat → Option Value := fun o => if mt = false ∧ o < (l.length + l2.length) * s then some (cur'.getD o undef) else none
   have hx : GExt g (gset g (ρ id).blk f) := fun b' o' v hv => by
    unfold gset
    split
    · rename_i e
      subst e
      rw [hown.hg o'] at hv
      split at hv
      · rename_i hc
        simp only [f]
        rw [if_pos ⟨hc.1, hltl _ hc.2⟩, k1 _ hc.2]; exact hv
      · cases hv
    · exact hv
   refine ⟨(ρ id).blk, (ρ id).cap, cur', _, gset g (ρ id).blk f, hexec hrun, hx, fun b' o' v hv => ?_, hr.base.below.setRow hown.hB cur', fun b' o' hb' => ?_, hown.hB, hroom, hown.hmax, hw', hsz', k1, k2, fun o' => by simp [gset, f], .inl rfl, fun b' hb' hne => ⟨setRow_other w _ _ _ hne, fun o' => ?_⟩⟩
   · unfold gset at hv
     split at hv
     · rename_i e
       subst e
       simp only [f] at hv
       split at hv
       · rename_i hc
         rw [cell_of_row _ _ _ _ _ _ hw', ← hv]
         exact getElem?_getD (by rw [hsz']; exact Nat.lt_of_lt_of_le hc.2 (Nat.mul_le_mul_right _ hroom))
       · cases hv
     · rename_i hne
       rw [cell_setRow_other w _ _ ⟨b', o', none⟩ hne]; exact hr.base.agree b' o' v hv
   · unfold gset; rw [if_neg (holdw b' hb')]
   · unfold gset; rw [if_neg hne]
 · -- it grows into a new block
   let olds : List Value := cur.toList.take (l.length * s)
   have hlcur : l.length * s ≤ cur.size := by rw [hcursz]; exact Nat.mul_le_mul_right _ hown.hcap
   have hol : olds.length = l.length * s := by simp [olds]; omega
   have hrun := run_append_grow (P := P) w t o.type e' i z ht.hu hi hi3 ⟨(ρ id).blk, 0, none⟩ l.length (ρ id).cap olds (by rw [hi1]; exact hol) (fun j u hj => by
    rw [Addr.add_n, Nat.zero_add, cell_of_row _ _ _ _ _ _ hown.hw]
    simp only [olds] at hj
    rw [List.getElem?_take] at hj
    split at hj
    · simpa using hj
    · cases hj) ⟨b, of_, none⟩ l2.length capy news (by rw [hi1]; exact hnl) hcellsrc (by omega) (by omega) (growslice_fits (by omega) (by rw [hi2]; exact hb))
   rw [← hav] at hrun
   have hcapge : l.length + l2.length ≤ grownCap w (l.length + l2.length) (ρ id).cap e' := grownCap_ge w _ _ e'
   have hcapm : grownCap w (l.length + l2.length) (ρ id).cap e' ≤ maxLen := grownCap_le_maxLen w _ _ e' hmm
   generalize hcap' : grownCap w (l.length + l2.length) (ρ id).cap e' = cap' at *
   generalize hcur : olds.toArray ++ news.toArray ++ Builtin.zeroCells z.cells (cap' - (l.length + l2.length)) = cur' at *
   have hsz' : cur'.size = cap' * s := by
    rw [← hcur]
    simp only [Array.size_append, List.size_toArray, size_zeroCells, hzc, hol, hnl, ← Nat.add_mul]
    congr 1
    omega
   have k1 : ∀ k, k < l.length * s → cur'.getD k undef = cur.getD k undef := fun k hk => by
    rw [← hcur]
    have h1 : k < olds.length := by omega
    have h2 : (olds.toArray ++ news.toArray ++ Builtin.zeroCells z.cells (cap' - (l.length + l2.length)))[k]? = cur[k]? := by
     rw [Array.getElem?_append_left (by rw [Array.size_append, List.size_toArray, List.size_toArray]; omega), Array.getElem?_append_left (by rw [List.size_toArray]; exact h1), List.getElem?_toArray]
     simp only [olds]
     rw [List.getElem?_take_of_lt hk, Array.getElem?_toList]
    rw [Array.getD_eq_getD_getElem?, Array.getD_eq_getD_getElem?, h2]
   have k2 : ∀ k, k < l2.length * s → cur'.getD (l.length * s + k) undef = cs k := fun k hk => by
    rw [← hcur]
    have h3 : l.length * s + k - olds.length = k := by omega
    have h2 : (olds.toArray ++ news.toArray ++ Builtin.zeroCells z.cells (cap' - (l.length + l2.length)))[l.length * s + k]? = news[k]? := by
     rw [Array.getElem?_append_left (by rw [Array.size_append, List.size_toArray, List.size_toArray]; omega), Array.getElem?_append_right (by rw [List.size_toArray]; omega), List.getElem?_toArray, List.size_toArray, h3]
    rw [← hnk k hk, Array.getD_eq_getD_getElem?, List.getD_eq_getElem?_getD, h2]
   have hnew : (w.drew.alloc (.cells cur' e')).heap[w.heap.size]? = some (.cells cur' e' (0, 0)) := heap_alloc_new w.drew _
   have hbl1 : RowKit.Below w.heap.size w (w.drew.alloc (.cells cur' e')) := (RowKit.Below.refl _ _).drew.alloc (Nat.le_refl _) _
   let f : Nat → Option Value := fun o => if mt = false ∧ o < (l.length + l2.length) * s then some (cur'.getD o undef) else none
   have hx : GExt g (gset g w.heap.size f) := fun b' o' v hv => by
    have := hr.base.agree.lt hv
    unfold gset
    rw [if_neg (by omega)]; exact hv
   have hB0 := hr.base.below.size
   refine ⟨w.heap.size, cap', cur', _, gset g w.heap.size f, hexec hrun, hx, fun b' o' v hv => ?_, hr.base.below.step hbl1, fun b' o' hb' => ?_, Ini.own_new hB0, hcapge, hcapm, hnew, hsz', k1, k2, fun o' => by simp [gset, f], .inr (Nat.le_refl _), fun b' hb' hne => ⟨hbl1.block b' hb', fun o' => ?_⟩⟩
   · unfold gset at hv
     split at hv
     · rename_i e
       subst e
       simp only [f] at hv
       split at hv
       · rename_i hc
         rw [cell_of_row _ _ _ _ _ _ hnew, ← hv]
         exact getElem?_getD (by rw [hsz']; exact Nat.lt_of_lt_of_le hc.2 (Nat.mul_le_mul_right _ hcapge))
       · cases hv
     · rename_i hne
       exact hr.base.agree.below hbl1 b' o' v hv
   · unfold gset; rw [if_neg (by have := Ini.old_lt hb'; omega)]
   · unfold gset; rw [if_neg (by omega)]
end
end Go.Pv

namespace Go.Pv
attribute [irreducible] Goal Ops PStep EStep KRets PCalls
end Go.Pv
