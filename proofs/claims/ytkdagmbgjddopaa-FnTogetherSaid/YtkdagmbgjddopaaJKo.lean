/- Walks: translated pairs, both sides. -/
import Derived.Test.YtkdagmbgjddopaaJKn
import Derived.Test.YtkdagmbgjddopaaJKg
import Derived.Test.YtkdagmbgjddopaaJNb
import Derived.Test.YtkdagmbgjddopaaJZb
import Derived.Test.YtkdagmbgjddopaaJGc
import Derived.Test.YtkdagmbgjddopaaJKf
import Derived.Test.YtkdagmbgjddopaaJQa
import Derived.Test.YtkdagmbgjddopaaJMv
namespace Go.Proofs.Ytkdagmbgjddopaa
open Go Go.Pv Go.Proofs

/-! ### Squares of Booleans -/
def Gw (L M : List (Nat × Nat)) : Prop := ∃ l, M = L ++ l
theorem Gw.refl (L : List (Nat × Nat)) : Gw L L := ⟨[], (List.append_nil _).symm⟩
theorem Gw.trans {L M N : List (Nat × Nat)} (h : Gw L M) (g : Gw M N) : Gw L N := by
  obtain ⟨a, rfl⟩ := h
  obtain ⟨b, rfl⟩ := g
  exact ⟨a ++ b, List.append_assoc ..⟩
theorem Gw.app (L : List (Nat × Nat)) (w : Nat × Nat) : Gw L (L ++ [w]) := ⟨[w], rfl⟩
theorem Gw.len {L M : List (Nat × Nat)} (h : Gw L M) : L.length ≤ M.length := by obtain ⟨l, rfl⟩ := h; simp
theorem Gw.at {L M : List (Nat × Nat)} (h : Gw L M) {i : Nat} (hi : i < L.length) : M.getD i (0, 0) = L.getD i (0, 0) := by
  obtain ⟨l, rfl⟩ := h
  rw [List.getD_eq_getElem?_getD, List.getElem?_append_left hi, List.getD_eq_getElem?_getD]
/-! ### The reference -/
end Go.Proofs.Ytkdagmbgjddopaa
/- Walks: the shortest chain of translated pairs, the reference's side. -/
namespace Go.Pv
open Go
attribute [local semireducible] Go.Pv.EStep
section
variable {P : Program} {o : Oper} {S : St}
theorem e_lit1N {t e : TypeId} {by_ : Nat} [ht : SlT P t e 1 by_] {zs : List Value} [hz : ZeroT P e zs] {x : Operand} {p : PV} (ho : o.op = .buildSlice t 1 #[(0, x)]) (h1 : view S.hp (S.ev x) = p) (hp1 : p.one = true) :
    EStep P o S (S.setObj S.hp.length (killH S.hp.length S.hp ++ [.arr false 1 e [p]]) o.dst (.hp S.hp.length)) :=
  e_buildSlice (ht := ht) (hz := hz) ho rfl rfl (by simp [elems, h1]) ⟨⟨[p], flat_one hp1, rfl⟩, trivial⟩ (by decide) (by decide)
end
end Go.Pv
/- Walks: the shortest chain of translated pairs, the program's side. -/
namespace Go.Proofs.Ytkdagmbgjddopaa
open Go Go.Pv Go.Proofs
theorem hp2 {x y : HO} {a b : List HO} (h : hpLe a b) : hpLe (x :: y :: a) (x :: y :: b) := zB rfl (zB rfl h)
end Go.Proofs.Ytkdagmbgjddopaa
/- The layer: structs with owned rows in drawn regions. -/
namespace Go.Pv
open Go
attribute [local semireducible] Go.Pv.Goal Go.Pv.Ops Go.Pv.PStep Go.Pv.EStep Go.Pv.KRets Go.Pv.PCalls Go.Pv.OpsG Go.Pv.RCalls
section
variable {P : Program} {o : Oper} {ev : Operand → PV} {hp : List HO}
theorem j_make {t e : TypeId} {s by_ : Nat} {zs : List Value} [ht : MkT P t e s by_ zs] {x y : Operand} {n : Int} {zp : PV} (ho : o.op = .makeSlice t x y) (h1 : ev x = I n) (h2 : ev y = I n) (h0 : 0 ≤ n) (hb : n * by_ ≤ 140737488355328) (hn : n ≤ 9223372036854775807)
    (hs : 0 < s) (hz : zp.flat = some (zs.map .val)) (hzs : zs.length = s) : JStep P o ev hp (some hp.length) (killH hp.length hp ++ [.arr true s e (List.replicate n.toNat zp)]) (.hp hp.length) := fun fr hfr =>
  e_make (S := ⟨fr, hp⟩) (ht := ht) ho ((hfr x (by simp [ho, Op.operands])).trans h1) ((hfr y (by simp [ho, Op.operands])).trans h2) h0 hb hn hs hz hzs
theorem j_lit1S {t e : TypeId} {by_ : Nat} [ht : SlT P t e 2 by_] {zs : List Value} [hz : ZeroT P e zs] {x : Operand} {k : Nat} {e2 : TypeId} {z0 : Value} {l : List PV} (ho : o.op = .buildSlice t 1 #[(0, x)]) (h2 : ev x = .agg [.val z0, .hp k]) (hk : hp[k]? = some (.arr true 1 e2 l)) (hone : l.all PV.one = true) (hu1 : (PV.val z0).one = true) :
    JStep P o ev hp (some hp.length) (killH hp.length (hp.set k .gone) ++ [.sg e e2 0 [.val z0 :: l]]) (.hp hp.length) := fun fr hfr =>
  e_lit1S (S := ⟨fr, hp⟩) (ht := ht) ho ((hfr x (by simp [ho, Op.operands])).trans h2) hk hone hu1
theorem j_append_sg {t e : TypeId} {by_ : Nat} {z0 z1 : Value} [ht : MkT P t e 2 by_ [z0, z1]] {x y : Operand} {tys : Array TypeId} {id k : Nat} {e' e2 : TypeId} {rows rows2 : List (List PV)} (ho : o.op = .call { callee := .builtin .append, args := #[x, y], argTypes := tys })
    (htys : tys = #[t, t]) (h1 : ev x = .hp id) (hh : hp[id]? = some (.sg e e2 0 rows)) (h2 : ev y = .hp k) (hk : hp[k]? = some (.sg e' e2 0 rows2)) (hne : (k == id) = false)
    (hb : (rows.length + rows2.length) * by_ ≤ 140737488355328) (hm : rows.length + rows2.length ≤ 9223372036854775807) : JStep P o ev hp (some id) ((killH id (hp.set k .gone)).set id (.sg e e2 0 (rows ++ rows2))) (.hp id) := fun fr hfr =>
  e_append_sg (S := ⟨fr, hp⟩) (ht := ht) ho htys ((hfr x (by simp [ho, Op.operands, Call.operands])).trans h1) hh ((hfr y (by simp [ho, Op.operands, Call.operands])).trans h2) hk hne hb hm
theorem j_appendRowS {t e : TypeId} {by_ : Nat} {z0 : Value} [ht : MkT P t e 1 by_ [z0]] {x y : Operand} {tys : Array TypeId} {id i : Nat} {e1 e2 : TypeId} {rows : List (List PV)} {h0 : PV} {r l2 : List PV} {nn : Option Bool} (ho : o.op = .call { callee := .builtin .append, args := #[x, y], argTypes := tys })
    (htys : tys = #[t, t]) (h1 : ev x = .gr id i) (hh : hp[id]? = some (.sg e1 e2 0 rows)) (he : e2 = e) (hr : rows[i]? = some (h0 :: r)) (h2 : view hp (ev y) = .sl 1 nn l2) (hone : ∀ p ∈ l2, p.one = true)
    (hb : (r.length + l2.length) * by_ ≤ 140737488355328) (hm : r.length + l2.length ≤ 9223372036854775807) : JStep P o ev hp none (hp.set id (.arr true 2 e1 (rows.map sgP))) (slR (r ++ l2)) := fun fr hfr =>
  e_appendRowS (S := ⟨fr, hp⟩) (ht := ht) ho htys ((hfr x (by simp [ho, Op.operands, Call.operands])).trans h1) hh he hr (by rw [show (St.mk fr hp).ev y = ev y from hfr y (by simp [ho, Op.operands, Call.operands])]; exact h2) hone hb hm
theorem j_store_sg0 {t : TypeId} [ht : CellT P t] {x v : Operand} {id i k : Nat} {e1 e2 : TypeId} {n : Nat} {rows : List (List PV)} {r : List PV} {h0 p : PV} (ho : o.op = .store t x v) (hd : o.dst = none) (h1 : ev x = .hat id k) (hh : hp[id]? = some (.sg e1 e2 n rows))
    (hk : k = i * 2) (hr : rows[i]? = some (h0 :: r)) (h2 : view hp (ev v) = p) (hp1 : p.one = true) : JStep P o ev hp none (hp.set id (.sg e1 e2 n (rows.set i (p :: r)))) .any :=
  j_store ho hd fun fr e1 e2 => e_store_sg0 (S := ⟨fr, hp⟩) ho hd (e1.trans h1) hh hk hr (by rw [e2]; exact h2) hp1
theorem j_store_sgr {t : TypeId} [ht : CellT P t] {x v : Operand} {id i j n : Nat} {e1 e2 : TypeId} {rows : List (List PV)} {h0 : PV} {r : List PV} {p : PV} (ho : o.op = .store t x v) (hd : o.dst = none) (h1 : ev x = .gat id i j) (hh : hp[id]? = some (.sg e1 e2 n rows))
    (hr : rows[i]? = some (h0 :: r)) (hj : j < r.length) (h2 : view hp (ev v) = p) (hp1 : p.one = true) : JStep P o ev hp none (hp.set id (.sg e1 e2 n (rows.set i (h0 :: r.set j p)))) .any :=
  j_store ho hd fun fr e1 e2 => e_store_sgr (S := ⟨fr, hp⟩) ho hd (e1.trans h1) hh hr hj (by rw [e2]; exact h2) hp1
theorem j_store_arrF {t : TypeId} [ht : CellT P t] {s : Nat} {x v : Operand} {id i j k : Nat} {e : TypeId} {l c : List PV} {p p' : PV} (ho : o.op = .store t x v) (hd : o.dst = none) (h1 : ev x = .hat id k) (hh : hp[id]? = some (.arr true s e l)) (hk : k = i * s + j) (hl : l[i]? = some (.agg c)) (hj : j < c.length)
    (h2 : view hp (ev v) = p) (hp1 : p.one = true) (hp' : p' = .agg (c.set j p)) : JStep P o ev hp none (hp.set id (.arr true s e (l.set i p'))) .any :=
  j_store ho hd fun fr e1 e2 => e_store_arrF (S := ⟨fr, hp⟩) ho hd (e1.trans h1) hh hk hl hj (by rw [e2]; exact h2) hp1 hp'
end
end Go.Pv
/- The layer: the literal of one number, as an array of one's own that may be written. -/
namespace Go.Pv
open Go
attribute [local semireducible] Go.Pv.Goal Go.Pv.Ops Go.Pv.PStep Go.Pv.EStep Go.Pv.KRets Go.Pv.PCalls Go.Pv.OpsG Go.Pv.RCalls
section
variable {P : Program} {o : Oper} {S : St}
theorem e_lit1T {t e : TypeId} {by_ : Nat} [ht : SlT P t e 1 by_] {zs : List Value} [hz : ZeroT P e zs] {x : Operand} {z : Value} (ho : o.op = .buildSlice t 1 #[(0, x)]) (h1 : S.ev x = .val z) (hp1 : (PV.val z).one = true) :
    EStep P o S (S.setObj S.hp.length (killH S.hp.length S.hp ++ [.arr true 1 e [.val z]]) o.dst (.hp S.hp.length)) := by
  intro w0 g ρ a w hr Q K hK
  have na : (∀ l, PV.val z ≠ .agg l) ∧ ∀ l, PV.val z ≠ .tup l := ⟨fun l e => (by cases e), fun l e => (by cases e)⟩
  have v1 : VRS1 g ρ S.hp (a.eval x) (.val z) := by have := hr.ev x; rw [h1] at this; exact this.to_one na.1 na.2
  have e1 : a.eval x = z := val_of (hr.ev x) h1
  obtain ⟨cells, hrun, hsz, hc0⟩ := run_lit1 ht hz (av := a.eval) ho (v1.oneCell hp1).1 w
  rw [e1] at hc0
  unfold Oper.wp
  rw [hrun]
  have hgn : ∀ o, g w.heap.size o = none := fun o => by
    cases hk : g w.heap.size o with
    | none => rfl
    | some v => exact absurd (hr.base.agree.lt hk) (Nat.lt_irrefl _)
  have hbl : RowKit.Below w.heap.size w (w.alloc (.cells cells e)) := (RowKit.Below.refl _ _).alloc (Nat.le_refl _) _
  have hbase := hr.base.push (x' := .arr true 1 e [.val z]) ⟨w.heap.size, 1, fun _ => 0, fun _ => 0⟩ (GExt.refl g) (killP1 S.hp.length) (fun v p h => h.kill S.hp.length _ (GExt.refl g) (fun i hi => killH_push _ _ hi)) (hr.base.agree.below hbl) hbl
    ⟨cells, fun _ => [.val z], ⟨by decide, Ini.own_new hr.base.below.size, by simp, by simp only [maxLen]; omega, heap_alloc_new w _, by simpa using hsz, fun k p hk => (by
      rcases k with _ | k
      · simp at hk; subst hk; exact ⟨flat_one hp1, rfl⟩
      · simp at hk), fun k j q hk hq => (by
      simp only [List.length_cons, List.length_nil] at hk
      have hk0 : k = 0 := by omega
      subst hk0
      rcases j with _ | j
      · simp at hq; subst hq; rw [Nat.zero_mul, Nat.add_zero, hc0]; exact .val z
      · simp at hq), fun k => by simp [hgn k]⟩⟩ (fun b hb => by simp only [foot] at hb; omega) (fun b hb k => rfl)
  have hv := VRS.hp_new g ρ S.hp true 1 e [.val z] ⟨w.heap.size, 1, fun _ => 0, fun _ => 0⟩
  exact hK _ _ _ _ (GExt.refl g) (hr.setObj S.hp.length _ hbase (GExt.refl g) (fun i hi => killH_push _ _ hi) hv o.dst)
theorem j_lit1T {ev : Operand → PV} {hp : List HO} {t e : TypeId} {by_ : Nat} [ht : SlT P t e 1 by_] {zs : List Value} [hz : ZeroT P e zs] {x : Operand} {z : Value} (ho : o.op = .buildSlice t 1 #[(0, x)]) (h1 : ev x = .val z) (hp1 : (PV.val z).one = true) :
    JStep P o ev hp (some hp.length) (killH hp.length hp ++ [.arr true 1 e [.val z]]) (.hp hp.length) := fun fr hfr =>
  e_lit1T (S := ⟨fr, hp⟩) (ht := ht) (hz := hz) ho ((hfr x (by simp [ho, Op.operands])).trans h1) hp1
end
end Go.Pv
/- Walks: the program's clones, whole. -/
namespace Go.Proofs.Ytkdagmbgjddopaa
open Go Go.Pv Go.Proofs
theorem entOk.small {n size : Nat} (hn : n ≤ 8) {E : List Ent} (h : ∀ c ∈ E, entOk n size c) : smallE E := fun c hc x hx => by
  have := (h c hc).2 x hx
  omega
end Go.Proofs.Ytkdagmbgjddopaa
/- Walks: drawn names. -/
namespace Go.Proofs.Ytkdagmbgjddopaa
open Go Go.Pv Go.Proofs
theorem Cu.ok.le {c : Cu} {m m' : Int} (h : c.ok m) (hm : m ≤ m') : c.ok m' := ⟨h.len, h.byte, h.lo, Int.le_trans h.hi hm, h.sd0⟩
end Go.Proofs.Ytkdagmbgjddopaa
