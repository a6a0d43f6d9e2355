/- Walks: translated pairs, both sides. -/
import Derived.Deep.Matrix
import Derived.Test.YtembaiccchgllaaGreatJKn
import Derived.Test.YtembaiccchgllaaGreatJGc
import Derived.Test.YtembaiccchgllaaGreatJZb
import Derived.Test.YtembaiccchgllaaGreatJNb
import Derived.Test.YtembaiccchgllaaGreatJGf
import Derived.Test.YtembaiccchgllaaGreatJKc
import Derived.Test.YtembaiccchgllaaGreatJQa
import Derived.Test.YtembaiccchgllaaGreatJPr
set_option linter.unusedSectionVars false
namespace Go.Proofs.YtembaiccchgllaaGreat
open Go Go.Pv Go.Proofs

/-! ### Squares of Booleans -/
def Gw (L M : List (Nat × Nat)) : Prop := ∃ l, M = L ++ l
theorem Gw.refl (L : List (Nat × Nat)) : Gw L L := ⟨[], (List.append_nil _).symm⟩
theorem Gw.trans {L M N : List (Nat × Nat)} (h : Gw L M) (g : Gw M N) : Gw L N := by
  obtain ⟨a, rfl⟩ := h
  obtain ⟨b, rfl⟩ := g
  exact ⟨a ++ b, List.append_assoc ..⟩
theorem Gw.app (L : List (Nat × Nat)) (w : Nat × Nat) : Gw L (L ++ [w]) := ⟨[w], rfl⟩
theorem Gw.len {L M : List (Nat × Nat)} (h : Gw L M) : L.length ≤ M.length := by obtain ⟨l, rfl⟩ := h; simp
theorem Gw.at {L M : List (Nat × Nat)} (h : Gw L M) {i : Nat} (hi : i < L.length) : M.getD i (0, 0) = L.getD i (0, 0) := by
  obtain ⟨l, rfl⟩ := h
  rw [List.getD_eq_getElem?_getD, List.getElem?_append_left hi, List.getD_eq_getElem?_getD]
/-! ### The reference -/
end Go.Proofs.YtembaiccchgllaaGreat
/- The layer: the rest of a function's text, behind one of its statements. -/
namespace Go.Pv
open Go
attribute [local semireducible] Go.Pv.Goal
def headReg : Code → Option Nat
  | .region id _ _ => some id
  | .seq a _ => headReg a
  | .block _ c => headReg c
  | _ => none
def tailAt (id : Nat) : Code → Code
  | .seq a b => bif headReg a == some id then .seq a b else tailAt id b
  | .block _ c => tailAt id c
  | c => c
abbrev bodyC (f : Func) : Code := f.body.getD .skip
theorem g_tail {P : Program} {c c' : Code} {K : Exit → St → Prop} {S S' : St} (hc : c = c') (hl : S.le S') (h : Goal P c' K S') : Goal P c K S := hc ▸ g_weaken hl h
theorem at_reg1 {P : Program} {K : Exit → St → Prop} {S : St} {x : Code} {ops : Array Oper} {dr : Bool} (id : Nat) (h : Goal P ((Code.region id ops dr).seq x) K S) : Goal P ((Code.region id ops dr).seq x) K S := h
end Go.Pv
/- Walks: the shortest chain of translated pairs, the reference's side. -/
namespace Go.Pv
open Go
attribute [local semireducible] Go.Pv.EStep
section
variable {P : Program} {o : Oper} {S : St}
theorem e_lit1N {t e : TypeId} {by_ : Nat} [ht : SlT P t e 1 by_] {zs : List Value} [hz : ZeroT P e zs] {x : Operand} {p : PV} (ho : o.op = .buildSlice t 1 #[(0, x)]) (h1 : view S.hp (S.ev x) = p) (hp1 : p.one = true) :
    EStep P o S (S.setObj S.hp.length (killH S.hp.length S.hp ++ [.arr false 1 e [p]]) o.dst (.hp S.hp.length)) :=
  e_buildSlice (ht := ht) (hz := hz) ho rfl rfl (by simp [elems, h1]) ⟨⟨[p], flat_one hp1, rfl⟩, trivial⟩ (by decide) (by decide)
end
end Go.Pv
/- The layer: structs with owned rows in drawn regions. -/
namespace Go.Pv
open Go
attribute [local semireducible] Go.Pv.Goal Go.Pv.Ops Go.Pv.PStep Go.Pv.EStep Go.Pv.KRets Go.Pv.PCalls Go.Pv.OpsG Go.Pv.RCalls
section
variable {P : Program} {o : Oper} {ev : Operand → PV} {hp : List HO}
theorem j_make {t e : TypeId} {s by_ : Nat} {zs : List Value} [ht : MkT P t e s by_ zs] {x y : Operand} {n : Int} {zp : PV} (ho : o.op = .makeSlice t x y) (h1 : ev x = I n) (h2 : ev y = I n) (h0 : 0 ≤ n) (hb : n * by_ ≤ 140737488355328) (hn : n ≤ 9223372036854775807)
    (hs : 0 < s) (hz : zp.flat = some (zs.map .val)) (hzs : zs.length = s) : JStep P o ev hp (some hp.length) (killH hp.length hp ++ [.arr true s e (List.replicate n.toNat zp)]) (.hp hp.length) := fun fr hfr =>
  e_make (S := ⟨fr, hp⟩) (ht := ht) ho ((hfr x (by simp [ho, Op.operands])).trans h1) ((hfr y (by simp [ho, Op.operands])).trans h2) h0 hb hn hs hz hzs
theorem j_lit1S {t e : TypeId} {by_ : Nat} [ht : SlT P t e 2 by_] {zs : List Value} [hz : ZeroT P e zs] {x : Operand} {k : Nat} {e2 : TypeId} {z0 : Value} {l : List PV} (ho : o.op = .buildSlice t 1 #[(0, x)]) (h2 : ev x = .agg [.val z0, .hp k]) (hk : hp[k]? = some (.arr true 1 e2 l)) (hone : l.all PV.one = true) (hu1 : (PV.val z0).one = true) :
    JStep P o ev hp (some hp.length) (killH hp.length (hp.set k .gone) ++ [.sg e e2 0 [.val z0 :: l]]) (.hp hp.length) := fun fr hfr =>
  e_lit1S (S := ⟨fr, hp⟩) (ht := ht) ho ((hfr x (by simp [ho, Op.operands])).trans h2) hk hone hu1
theorem j_append_sg {t e : TypeId} {by_ : Nat} {z0 z1 : Value} [ht : MkT P t e 2 by_ [z0, z1]] {x y : Operand} {tys : Array TypeId} {id k : Nat} {e' e2 : TypeId} {rows rows2 : List (List PV)} (ho : o.op = .call { callee := .builtin .append, args := #[x, y], argTypes := tys })
    (htys : tys = #[t, t]) (h1 : ev x = .hp id) (hh : hp[id]? = some (.sg e e2 0 rows)) (h2 : ev y = .hp k) (hk : hp[k]? = some (.sg e' e2 0 rows2)) (hne : (k == id) = false)
    (hb : (rows.length + rows2.length) * by_ ≤ 140737488355328) (hm : rows.length + rows2.length ≤ 9223372036854775807) : JStep P o ev hp (some id) ((killH id (hp.set k .gone)).set id (.sg e e2 0 (rows ++ rows2))) (.hp id) := fun fr hfr =>
  e_append_sg (S := ⟨fr, hp⟩) (ht := ht) ho htys ((hfr x (by simp [ho, Op.operands, Call.operands])).trans h1) hh ((hfr y (by simp [ho, Op.operands, Call.operands])).trans h2) hk hne hb hm
theorem j_appendRowS {t e : TypeId} {by_ : Nat} {z0 : Value} [ht : MkT P t e 1 by_ [z0]] {x y : Operand} {tys : Array TypeId} {id i : Nat} {e1 e2 : TypeId} {rows : List (List PV)} {h0 : PV} {r l2 : List PV} {nn : Option Bool} (ho : o.op = .call { callee := .builtin .append, args := #[x, y], argTypes := tys })
    (htys : tys = #[t, t]) (h1 : ev x = .gr id i) (hh : hp[id]? = some (.sg e1 e2 0 rows)) (he : e2 = e) (hr : rows[i]? = some (h0 :: r)) (h2 : view hp (ev y) = .sl 1 nn l2) (hone : ∀ p ∈ l2, p.one = true)
    (hb : (r.length + l2.length) * by_ ≤ 140737488355328) (hm : r.length + l2.length ≤ 9223372036854775807) : JStep P o ev hp none (hp.set id (.arr true 2 e1 (rows.map sgP))) (slR (r ++ l2)) := fun fr hfr =>
  e_appendRowS (S := ⟨fr, hp⟩) (ht := ht) ho htys ((hfr x (by simp [ho, Op.operands, Call.operands])).trans h1) hh he hr (by rw [show (St.mk fr hp).ev y = ev y from hfr y (by simp [ho, Op.operands, Call.operands])]; exact h2) hone hb hm
theorem j_store_sg0 {t : TypeId} [ht : CellT P t] {x v : Operand} {id i k : Nat} {e1 e2 : TypeId} {n : Nat} {rows : List (List PV)} {r : List PV} {h0 p : PV} (ho : o.op = .store t x v) (hd : o.dst = none) (h1 : ev x = .hat id k) (hh : hp[id]? = some (.sg e1 e2 n rows))
    (hk : k = i * 2) (hr : rows[i]? = some (h0 :: r)) (h2 : view hp (ev v) = p) (hp1 : p.one = true) : JStep P o ev hp none (hp.set id (.sg e1 e2 n (rows.set i (p :: r)))) .any :=
  j_store ho hd fun fr e1 e2 => e_store_sg0 (S := ⟨fr, hp⟩) ho hd (e1.trans h1) hh hk hr (by rw [e2]; exact h2) hp1
theorem j_store_sgr {t : TypeId} [ht : CellT P t] {x v : Operand} {id i j n : Nat} {e1 e2 : TypeId} {rows : List (List PV)} {h0 : PV} {r : List PV} {p : PV} (ho : o.op = .store t x v) (hd : o.dst = none) (h1 : ev x = .gat id i j) (hh : hp[id]? = some (.sg e1 e2 n rows))
    (hr : rows[i]? = some (h0 :: r)) (hj : j < r.length) (h2 : view hp (ev v) = p) (hp1 : p.one = true) : JStep P o ev hp none (hp.set id (.sg e1 e2 n (rows.set i (h0 :: r.set j p)))) .any :=
  j_store ho hd fun fr e1 e2 => e_store_sgr (S := ⟨fr, hp⟩) ho hd (e1.trans h1) hh hr hj (by rw [e2]; exact h2) hp1
theorem j_store_arrF {t : TypeId} [ht : CellT P t] {s : Nat} {x v : Operand} {id i j k : Nat} {e : TypeId} {l c : List PV} {p p' : PV} (ho : o.op = .store t x v) (hd : o.dst = none) (h1 : ev x = .hat id k) (hh : hp[id]? = some (.arr true s e l)) (hk : k = i * s + j) (hl : l[i]? = some (.agg c)) (hj : j < c.length)
    (h2 : view hp (ev v) = p) (hp1 : p.one = true) (hp' : p' = .agg (c.set j p)) : JStep P o ev hp none (hp.set id (.arr true s e (l.set i p'))) .any :=
  j_store ho hd fun fr e1 e2 => e_store_arrF (S := ⟨fr, hp⟩) ho hd (e1.trans h1) hh hk hl hj (by rw [e2]; exact h2) hp1 hp'
end
end Go.Pv
/- Walks: the program's clones, whole. -/
namespace Go.Proofs.YtembaiccchgllaaGreat
open Go Go.Pv Go.Proofs
theorem entOk.small {n size : Nat} (hn : n ≤ 8) {E : List Ent} (h : ∀ c ∈ E, entOk n size c) : smallE E := fun c hc x hx => by
  have := (h c hc).2 x hx
  omega
end Go.Proofs.YtembaiccchgllaaGreat
/- Walks: the ternary term functions of a small algebra, on both sides, with what is known of them. -/
namespace Go.Proofs.YtembaiccchgllaaGreat
open Go Go.Pv Go.Proofs
structure CT (n : Nat) (ops : List OpD) (T : List (List Int)) : Prop where
  n0 : 0 < n
  n3 : n ≤ 3
  ops4 : ops.length ≤ 4
  op : ∀ f ∈ ops, opOk n f = true
  len0 : 0 < T.length
  len : T.length ≤ 60
  row : ∀ t ∈ T, t.length = n ^ 3 ∧ ∀ x ∈ t, 0 ≤ x ∧ x < (n : Int)
  nd : T.Nodup
  prj : ∀ p, p < 3 → prjL n 3 p ∈ T
  clo : closedT n (n ^ 3) ops T T.length
theorem CT.lenOk {n : Nat} {ops : List OpD} {T : List (List Int)} (h : CT n ops T) : lenOk T := ⟨by have := h.len; omega, fun t ht => by
  have h27 : n ^ 3 ≤ 27 := Nat.pow_le_pow_left h.n3 3
  rw [(h.row t ht).1]; omega⟩
end Go.Proofs.YtembaiccchgllaaGreat
/- Walks: operations that the law owns, with their rows: made, marked. -/
namespace Go.Proofs.YtembaiccchgllaaGreat
open Go Go.Pv Go.Proofs

abbrev rowO (f : OpD) : List Int := f.ar :: f.tb
abbrev rowsO (L : List OpD) : List (List Int) := L.map rowO
abbrev sgI (rows : List (List Int)) : HO := .sg 62 3 0 (rows.map fun r => r.map I)
theorem rowsO_view (L : List OpD) : (PV.sl 2 none (((rowsO L).map fun r => r.map I).map sgP)) = opsP L := by
  rw [List.map_map, List.map_map]; rfl
theorem le_algG (n : Int) (L : List OpD) : (PV.agg [I n, PV.sl 2 none (((rowsO L).map fun r => r.map I).map sgP)]).le (algP n L) := by rw [rowsO_view]; exact PV.le_refl _
end Go.Proofs.YtembaiccchgllaaGreat
/- Walks: drawn names. -/
namespace Go.Proofs.YtembaiccchgllaaGreat
open Go Go.Pv Go.Proofs
theorem Cu.ok.le {c : Cu} {m m' : Int} (h : c.ok m) (hm : m ≤ m') : c.ok m' := ⟨h.len, h.byte, h.lo, Int.le_trans h.hi hm, h.sd0⟩
end Go.Proofs.YtembaiccchgllaaGreat
/- What an argument reads as, by value: numbers, lists of numbers, rows of them, a struct of rows. -/
namespace Go.Pv
open Go Go.ChangeShapes Go.WideShapes Go.RowKit Go.Deep

def gW (W : World) : Ghost := fun b o => W.cell? ⟨b, o, none⟩
theorem gW_agree (W : World) : Agree (gW W) W := fun _ _ _ h => h
theorem cell_spot {w : World} {a : Addr} {v : Value} (h : w.cell? a = some v) : a.spot = none := by
  unfold World.cell? at h
  split at h
  · split at h
    · cases h
    · rename_i h'; simpa using h'
  · cases h
theorem addr_eq {a : Addr} (h : a.spot = none) : a = ⟨a.block, a.off, none⟩ := by cases a; simp_all
theorem add0 (a : Addr) : a.add 0 = a := by simp [Addr.add]

end Go.Pv
