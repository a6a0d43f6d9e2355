/- Clones: found tables, round by round (plain). -/
import Derived.Laws.Small
import Derived.Test.YtembaiccchgllaaGreatRows
import Derived.ProofKit
import Derived.Test.YtembaiccchgllaaGreatJGb
import Derived.Test.YtembaiccchgllaaGreatJPr
import Derived.Test.YtembaiccchgllaaGreatJKg
import Derived.Test.YtembaiccchgllaaGreatJZb
import Derived.Test.YtembaiccchgllaaGreatJNb
import Derived.Test.YtembaiccchgllaaGreatJKh
import Derived.Test.YtembaiccchgllaaGreatJKb
import Derived.Test.YtembaiccchgllaaGreatJTy
set_option linter.unusedSectionVars false
namespace Go.Proofs.YtembaiccchgllaaGreat
open Go Go.Pv Go.Proofs

abbrev Stp := Int × List Int
abbrev Ent := List Int × Stp
def entOk (n size : Nat) (e : Ent) : Prop := e.1.length = size ∧ ∀ x ∈ e.1, 0 ≤ x ∧ x < (n : Int)
/-! ### One round after another -/
/-! ### The reference's rounds -/
def closedT (n size : Nat) (ops : List OpD) (T : List (List Int)) (b : Nat) : Prop := ∀ f ∈ ops, ∀ args : List Int, args.length = f.ar.toNat → (∀ x ∈ args, 0 ≤ x ∧ x < (b : Int)) → cmpL n f.tb (args.map fun x => T.getD x.toNat []) size ∈ T
end Go.Proofs.YtembaiccchgllaaGreat
/- Walks: the reference's clones. -/
namespace Go.Proofs.YtembaiccchgllaaGreat
open Go Go.Pv Go.Proofs
theorem idx_ints {T : List (List Int)} {i : Nat} (hi : i < T.length) : (T.map ints)[i]? = some (ints (T.getD i [])) := by
  rw [List.getElem?_map, List.getElem?_eq_getElem hi, List.getD_eq_getElem?_getD, List.getElem?_eq_getElem hi]; rfl
end Go.Proofs.YtembaiccchgllaaGreat
/- Plain: the congruences in their order by fineness are a lattice. -/
namespace Go.Proofs.YtembaiccchgllaaGreat
open Go Go.Pv Go.Proofs

def fiB (n : Nat) (p q : List Int) : Bool := (List.range n).all fun x => decide (q.getD (bk p x) 0 = q.getD x 0)
theorem fiB_iff {n : Nat} {p q : List Int} (hp : Pt n p) (hq : Pt n q) : fiB n p q = true ↔ Fi n p q := by
  unfold fiB Fi
  rw [List.all_eq_true]
  constructor
  · intro h x hx
    have := h x (List.mem_range.2 hx)
    rw [decide_eq_true_eq, hq.val (hp.lt hx), hq.val hx] at this
    exact Int.ofNat.inj this
  · intro h x hx
    have hx := List.mem_range.1 hx
    rw [decide_eq_true_eq, hq.val (hp.lt hx), hq.val hx, h x hx]
/-! ### Rows of a list for which no other one is beyond -/
end Go.Proofs.YtembaiccchgllaaGreat
/- The layer: an owned block of cells that is reached by a slice: its cells may name other objects. -/
namespace Go.Pv
open Go
attribute [local semireducible] Go.Pv.Goal Go.Pv.Ops Go.Pv.PStep Go.Pv.EStep Go.Pv.KRets Go.Pv.PCalls Go.Pv.OpsG
section
variable {P : Program} {o : Oper} {S : St} {ev : Operand → PV} {hp : List HO}
theorem EStep.cast {S' S2 : St} (h : EStep P o S S') (e : S' = S2) : EStep P o S S2 := e ▸ h
end
end Go.Pv
/- The layer: a slice of structs, each of a number and a row that the call owns. -/
namespace Go.Pv
open Go
attribute [local semireducible] Go.Pv.Goal Go.Pv.Ops Go.Pv.PStep Go.Pv.EStep Go.Pv.KRets Go.Pv.PCalls Go.Pv.OpsG Go.Pv.LCalls
def killR1 (k : Nat) : PV → PV
  | .gat _ _ _ => .any
  | .gr _ _ => .any
  | p => killP1 k p
def killRA (k : Nat) : PV → PV
  | .agg l => .agg (l.map (killR1 k))
  | p => killR1 k p
def killR (k : Nat) : PV → PV
  | .tup l => .tup (l.map (killRA k))
  | .agg l => .agg (l.map (killR1 k))
  | p => killR1 k p
section
variable {P : Program} {o : Oper} {S : St}
theorem e_store_sg0 {t : TypeId} [ht : CellT P t] {x v : Operand} {id i k : Nat} {e1 e2 : TypeId} {n : Nat} {rows : List (List PV)} {r : List PV} {h0 p : PV} (ho : o.op = .store t x v) (hd : o.dst = none) (h1 : S.ev x = .hat id k) (hh : S.hp[id]? = some (.sg e1 e2 n rows))
    (hk : k = i * 2) (hr : rows[i]? = some (h0 :: r)) (h2 : view S.hp (S.ev v) = p) (hp1 : p.one = true) : EStep P o S ⟨S.fr, S.hp.set id (.sg e1 e2 n (rows.set i (p :: r)))⟩ := by
  subst hk
  have hi : i < rows.length := (List.getElem?_eq_some_iff.1 hr).1
  have hrows : ∀ (k : Nat) (r' : List PV), (rows.set i (p :: r))[k]? = some r' → ∃ r'' : List PV, rows[k]? = some r'' ∧ r''.tail.length = r'.tail.length := fun k r' hk => by
    rw [List.getElem?_set] at hk
    split at hk
    · rename_i e; subst e
      simp only [Option.some.injEq] at hk
      subst hk
      exact ⟨_, hr, rfl⟩
    · exact ⟨r', hk, rfl⟩
  refine EStep.of_store ht.hs ho hd hh (fun m s e l h => by cases h) (fun e1' e2' rows' h => by cases h) (fun e1 e2 n rows h => by cases h) (fun L b h => by simpa [foot] using h) (fun w0 g ρ a w hrel _ => ?_) (fun l h => by cases h) (fun e1' e2' n' rows' h => by cases h; exact ⟨_, _, _, rfl, by simp, hrows⟩)
  obtain ⟨cur, rc, og⟩ := hrel.base.own id _ hh
  have ea : a.eval x = .pointer (some ⟨(ρ id).blk, i * 2, none⟩) := by have := hrel.ev x; rw [h1] at this; exact this
  have ev := hrel.base.view (hrel.ev v)
  rw [h2] at ev
  obtain ⟨hc1, hc2⟩ := ev.oneCell hp1
  have hcap := og.hcap
  refine ⟨_, i * 2, cur, e1, ea, .inl rfl, og.hB, og.hw, og.hg, by rw [og.hsz]; omega, by rw [hc1]; rfl, by rw [hc1]; simpa using hc2, fun cur' hs' hk' => ?_⟩
  refine ⟨cur', rc, og.hB, setRow_heap w _ _ _ _ _ og.hw, hs'.trans og.hsz, by simpa using og.hcap, og.hmax, fun k hk => og.hB' k (by simpa using hk), fun k r' hk => ?_, fun k r' hk => ?_, fun k r' m q hk hm => ?_, og.hg, fun k o hk => og.hg' k o (by simpa using hk), fun k hk => og.hne k (by simpa using hk), fun k m hk hm => og.hinj k m (by simpa using hk) (by simpa using hm)⟩
  · have hkl : k < rows.length := by simpa using (List.getElem?_eq_some_iff.1 hk).1
    rw [hk' (k * 2 + 1), if_neg (by omega)]
    have key : ∃ r'', rows[k]? = some r'' ∧ r''.tail = r'.tail := by
      by_cases e : k = i
      · subst e
        rw [List.getElem?_set_self hi] at hk
        cases hk
        exact ⟨_, hr, rfl⟩
      · rw [List.getElem?_set_ne (Ne.symm e)] at hk
        exact ⟨r', hk, rfl⟩
    obtain ⟨r'', hk2, het⟩ := key
    obtain ⟨b1, b2, b3, b4⟩ := og.hrow k r'' hk2
    rw [het] at b1 b2
    exact ⟨b1, b2, by rw [setRow_other w _ _ _ (og.hne k hkl)]; exact b3, b4⟩
  · by_cases e : k = i
    · subst e
      rw [List.getElem?_set_self hi] at hk
      cases hk
      rw [hk', if_pos (by omega)]
      refine ⟨hp1, ?_⟩
      rw [hc1]
      simpa using ev
    · rw [List.getElem?_set_ne (Ne.symm e)] at hk
      rw [hk', if_neg (by omega)]
      exact og.hh k r' hk
  · by_cases e : k = i
    · subst e
      rw [List.getElem?_set_self hi] at hk
      cases hk
      exact og.hv k _ m q hr hm
    · rw [List.getElem?_set_ne (Ne.symm e)] at hk
      exact og.hv k r' m q hk hm

end

section
variable {P : Program} {o : Oper} {ev : Operand → PV} {hp : List HO}
theorem ps_len_sg {t e : TypeId} {s by_ : Nat} [ht : SlT P t e s by_] {x : Operand} {e1 e2 id n : Nat} {rows : List (List PV)} {tys : Array TypeId} (ho : o.op = .call { callee := .builtin .len, args := #[x], argTypes := tys }) (htys : tys = #[t])
    (h1 : ev x = .hp id) (hh : hp[id]? = some (.sg e1 e2 n rows)) : PStep P o ev hp (I (rows.length + n : Nat)) :=
  .of_run fun w0 g ρ w av hb hx => by
    have e1 := hx x (by simp [ho, Op.operands, Call.operands])
    subst htys
    rw [h1] at e1
    have ea := HpV.sg e1 _ _ _ _ hh
    exact ⟨.int .i64 (rows.length + n : Nat), by simp [execOp, ho, resolve, invoke, builtin, Builtin.len_, ea, run_underlying ht.hu, goInt, go_sem], .val _⟩
theorem ps_index_sg {t e : TypeId} {by_ : Nat} [ht : SlT P t e 2 by_] {x ix : Operand} {e1 e2 : TypeId} {n : Nat} {rows : List (List PV)} {i : Int} {id : Nat} (ho : o.op = .indexAddr t x ix) (h1 : ev x = .hp id)
    (hh : hp[id]? = some (.sg e1 e2 n rows)) (h2 : ev ix = I i) (h0 : 0 ≤ i) (hq : i.toNat < rows.length + n) : PStep P o ev hp (.hat id (i.toNat * 2)) :=
  .of_run fun w0 g ρ w av hb hx => by
    have e1 := hx x (by simp [ho, Op.operands])
    have e2 := val_of (hx ix (by simp [ho, Op.operands])) h2
    rw [h1] at e1
    have ea := HpV.sg e1 _ _ _ _ hh
    refine ⟨.pointer (some ⟨(ρ id).blk, i.toNat * 2, none⟩), ?_, rfl⟩
    have hi : i < (rows.length : Int) + (n : Int) := by omega
    simp [execOp, ho, ea, e2, Instr.indexAt, asIntOf, run_underlying ht.hu, ht.hs, h0, hi, Addr.add_n, go_sem]
theorem ps_load_sg {t : TypeId} [ht : CellT P t] {x : Operand} {id i k n : Nat} {e1 e2 : TypeId} {rows : List (List PV)} (ho : o.op = .load t x) (h1 : ev x = .hat id k) (hh : hp[id]? = some (.sg e1 e2 n rows)) (hk : k = i * 2 + 1) (hi : i < rows.length) : PStep P o ev hp (.gr id i) :=
  .of_run fun w0 g ρ w av hb hx => by
    subst hk
    have ea : av x = .pointer (some ⟨(ρ id).blk, i * 2 + 1, none⟩) := by have := hx x (by simp [ho, Op.operands]); rw [h1] at this; exact this
    obtain ⟨cur, rc, hown⟩ := hb.own id _ hh
    have hcap := hown.hcap
    have hc := own_load hown.hw (i := i * 2 + 1) (by rw [hown.hsz]; omega)
    refine ⟨cur.getD (i * 2 + 1) undef, ?_, (⟨⟨_, _, _, (hown.hrow i _ (List.getElem?_eq_getElem hi)).1⟩, fun e1' e2' rows' r hid hr => (by rw [hh] at hid; cases hid), fun e1' e2' k' rows' r hid hr => ?_⟩ : GrV _ _ _ _ _)⟩
    · simp only [execOp, ho, ea]
      refine run_value ?_
      unfold Instr.loadAt Instr.sureAddr loadVar
      simp only [Sem.run_bind, run_pure, Result.andThen, ht.ha]
      simp [load, Sem.run, hc]
    · rw [hh] at hid
      cases hid
      exact (hown.hrow i r hr).1
end
end Go.Pv
/- The layer: an entry of a map's literal. -/
namespace Go.Pv
open Go Go.MapKept
attribute [local semireducible] Go.Pv.Goal Go.Pv.PStep Go.Pv.EStep Go.Pv.KRets Go.Pv.PCalls Go.Pv.Ops Go.Pv.OpsG
section
variable {P : Program} {o : Oper} {S : St}
theorem e_mapInsert {t kt e : TypeId} {z : Value} [ht : MapT P t kt e z] {x y v : Operand} {b id : Nat} {l : List (ByteArray × PV)} {k : ByteArray} {p : PV} (ho : o.op = .insert t x y v) (hd : o.dst = none) (h1 : S.ev x = .val (.map (some b))) (hh : S.hp[id]? = some (.mp b l)) (h2 : S.ev y = .val (.string k)) (h3 : view S.hp (S.ev v) = p) :
    EStep P o S ⟨S.fr, S.hp.set id (.mp b (mpPut l k p))⟩ := by
  intro w0 g ρ a w hr Q K hK
  have e1 := val_of (hr.ev x) h1
  have e2 := val_of (hr.ev y) h2
  have ev3 := hr.base.view (hr.ev v)
  rw [h3] at ev3
  obtain ⟨es, cl, hm⟩ := hr.base.own id _ hh
  have hkey : IsKey .string (.string k) := trivial
  have hck : (Instr.checkKey false 10000 kt (.string k)).run P w = .ok () w := run_checkKey ht.hk hkey _ 9999
  have hsame : ∀ (l' : List (ByteArray × PV)) (v : Value) (p : PV), VRS1 g ρ S.hp v p → VRS1 g ρ (S.hp.set id (.mp b l')) v p := fun l' v p h => same_set hh (fun _ _ _ _ h => by cases h) (fun _ _ _ h => by cases h) (fun _ _ _ _ h => by cases h) (GExt.refl g) h
  have fin : ∀ (es' : Array MapEntry) (cl' : Nat) (l' : List (ByteArray × PV)), (Instr.mapUpdate t (.map (some b)) (.string k) (a.eval v)).run P w = .ok () { w with heap := w.heap.setIfInBounds b (.map es' cl') } → MpRel g es'.toList l' → mpPut l k p = l' → o.wp P a w K Q := fun es' cl' l' hrun hrel hl => by
    have hbase := hr.base.upd hh (x' := .mp b l') (ρ id) (GExt.refl g) _root_.id (by rw [upd_id, map_mapHO_id]; exact hsame l') (hr.base.agree.setB hm.hg hm.hw (y := .map es' cl')) (hr.base.below.setB hm.hB hm.hw) (fun _ _ _ => rfl)
      (by rw [upd_id, map_mapHO_id]; exact ⟨es', cl', hm.hblk, hm.hB, (heap_set hm.hw).1, hrel, hm.hg⟩) (fun b' hb' => .inl hb')
      (fun b' hb' hnf => ⟨(heap_set hm.hw).2 b' (fun e => hnf (by rw [e]; exact hm.hblk.symm)), fun _ => rfl⟩)
    rw [upd_id, map_mapHO_id] at hbase
    unfold Oper.wp
    simp only [execOp, ho, e1, e2]
    have hrun' : (do Instr.mapUpdate t (.map (some b)) (.string k) (a.eval v); pure Next.skip : Sem Next).run P w = .ok .skip { w with heap := w.heap.setIfInBounds b (.map es' cl') } := by
      rw [Sem.run_bind, hrun]; rfl
    rw [hrun']
    simp only [Oper.upon, hd]
    rw [hl] at hK
    exact hK g ρ a _ (GExt.refl g) (hr.same hbase (hsame l'))
  rcases findNow_mp k 0 hm.hk with ⟨q1, -, q3⟩ | ⟨j, en, p', q1, q2, q3, -, -, -, q7⟩
  · refine fin (es.push { key := .string k, val := a.eval v, born := cl }) (cl + 1) (l ++ [(k, p)]) ?_ ?_ (q3 p)
    · unfold Instr.mapUpdate
      simp [run_underlying ht.hu, Go.MapKept.run_getObj_map hm.hw, hck, Go.MapKept.run_findKey ht.hk q1, Go.MapKept.run_setObj_map _ hm.hw, Result.andThen]
    · rw [Array.toList_push]
      exact hm.hk.snoc rfl ev3
  · have hj : es[j]? = some en := by simpa using q2
    refine fin (es.modify j fun e => { e with key := .string k, val := a.eval v }) cl (l.set j (k, p)) ?_ ?_ (q7 p)
    · unfold Instr.mapUpdate
      simp [run_underlying ht.hu, Go.MapKept.run_getObj_map hm.hw, hck, Go.MapKept.run_findKey ht.hk q1, Go.MapKept.run_setObj_map _ hm.hw, Result.andThen, hj, q3, run_keyThatStays (P := P) (w := w) hkey]
    · have : (es.modify j fun e => { e with key := .string k, val := a.eval v }).toList = es.toList.set j { en with key := .string k, val := a.eval v } := by
        apply List.ext_getElem?
        intro i
        rw [Array.getElem?_toList, Array.getElem?_modify, List.getElem?_set, Array.getElem?_toList]
        by_cases e : j = i
        · subst e
          have hlt : j < es.toList.length := (List.getElem?_eq_some_iff.1 q2).1
          have hlt' : j < es.size := by simpa using hlt
          have hje : es[j] = en := by simpa [Array.getElem?_eq_getElem hlt'] using hj
          simp [hlt', hje]
        · simp [e]
      rw [this]
      exact MpRel.set (e := { en with key := .string k, val := a.eval v }) rfl ev3 j hm.hk
end
end Go.Pv
/- Plain: products of algebras. -/
namespace Go.Proofs.YtembaiccchgllaaGreat
open Go Go.Pv Go.Proofs
def sameT (A B : List OpD) : Prop := A.map (fun f => f.ar) = B.map (fun f => f.ar)
theorem sameT.len {A B : List OpD} (h : sameT A B) : A.length = B.length := by
  have := congrArg List.length h
  simpa using this
theorem sameT.at {A B : List OpD} (h : sameT A B) (i : Nat) : (A.getD i default).ar = (B.getD i default).ar := by
  have h1 : (A.map (fun f => f.ar)).getD i (default : OpD).ar = (B.map (fun f => f.ar)).getD i (default : OpD).ar := by rw [h]
  simp only [List.getD_eq_getElem?_getD, List.getElem?_map] at h1 ⊢
  cases ha : A[i]? <;> cases hb : B[i]? <;> simp_all
end Go.Proofs.YtembaiccchgllaaGreat
/- The layer: the bytes of a text. -/
namespace Go.Pv
open Go
attribute [local semireducible] Go.Pv.Goal Go.Pv.Ops Go.Pv.PStep Go.Pv.EStep Go.Pv.KRets Go.Pv.PCalls Go.Pv.OpsG
section
variable {P : Program} {o : Oper} {ev : Operand → PV} {hp : List HO}
abbrev strP (s : ByteArray) : PV := .val (.string s)
def byteAt (s : ByteArray) (i : Nat) : Int := match s[i]? with
  | some b => (b.toNat : Int)
  | none => 0
theorem ps_len_str {t : TypeId} {x : Operand} {s : ByteArray} {tys : Array TypeId} (hu : P.underlying t = some .string) (ho : o.op = .call { callee := .builtin .len, args := #[x], argTypes := tys }) (htys : tys = #[t]) (h1 : ev x = strP s) : PStep P o ev hp (I s.size) :=
  .of_run fun w0 g ρ w av hb hx => by
    subst htys
    have e1 := val_of (hx x (by simp [ho, Op.operands, Call.operands])) h1
    exact ⟨.int .i64 s.size, by simp [execOp, ho, resolve, invoke, builtin, Builtin.len_, e1, run_underlying hu, goInt, go_sem], .val _⟩
theorem ps_index_str {t : TypeId} {x ix : Operand} {s : ByteArray} {i : Int} (hu : P.underlying t = some .string) (ho : o.op = .index t x ix) (h1 : ev x = strP s) (h2 : ev ix = I i) (h0 : 0 ≤ i) (hq : i.toNat < s.size) : PStep P o ev hp (Y (byteAt s i.toNat)) :=
  .of_run fun w0 g ρ w av hb hx => by
    have e1 := val_of (hx x (by simp [ho, Op.operands])) h1
    have e2 := val_of (hx ix (by simp [ho, Op.operands])) h2
    have e3 : s[i.toNat]? = some s[i.toNat] := getElem?_pos s i.toNat hq
    refine ⟨.int .u8 (byteAt s i.toNat), ?_, .val _⟩
    unfold byteAt
    rw [e3]
    simp [execOp, ho, e1, e2, Instr.index, asIntOf, run_underlying hu, h0, e3, go_sem]
theorem ps_subY {t rt : TypeId} {x y : Operand} {a b : Int} (ho : o.op = .binOp .sub t x y rt) (h1 : ev x = Y a) (h2 : ev y = Y b) : PStep P o ev hp (Y (IntKind.u8.wrap (a - b))) := ps_bin ho h1 h2 fun w => by simp [go_sem]
end
end Go.Pv
/- What a row asks, out of what a call comes to over plain values: the result 'true', and no old block turned. -/
namespace Go.Pv
open Go Go.ChangeShapes Go.WideShapes Go.RowKit

theorem trodAll_below {H : Type} {enc : TypeId × Value → H} {P : Program} (hl : laidOutB P = true) {W W' : World} (hb : Below W.heap.size W W') : ∀ {ts : List TypeId} {vs : List Value} {ds : List (DataW H)} {ps : List MemPlace},
    (ts.all fun t => P.readableRec t && decide (t < P.types.size)) = true → DataW.TrodAll enc P W 0 (fun _ => true) true ts vs ds ps → (∀ x ∈ ps, x.block < W.heap.size) →
    DataW.TrodAll enc P W' 0 (fun b => decide (b < W.heap.size)) true ts vs ds ps
  | [], [], [], _, _, h, _ => h
  | t :: ts, v :: vs, d :: ds, ps, hr, h, hlt => by
    obtain ⟨p, q, h1, h2, rfl⟩ := h
    simp only [List.all_cons, Bool.and_eq_true, decide_eq_true_eq] at hr
    exact ⟨p, q, Below.trod hl hr.1.1 hr.1.2 h1 hb (fun x hx => hlt x (List.mem_append_left _ hx)), trodAll_below hl hb hr.2 h2 (fun x hx => hlt x (List.mem_append_right _ hx)), rfl⟩
  | [], [], _ :: _, _, _, h, _ => h.elim
  | [], _ :: _, _, _, _, h, _ => h.elim
  | _ :: _, [], _, _, _, h, _ => h.elim
  | _ :: _, _ :: _, [], _, _, h, _ => h.elim

theorem law_post {H : Type} {enc : TypeId × Value → H} {P : Program} {f : Func} {s : ChangeSpec} {W W' : World} {args : Array Value} {ds gs : List (DataW H)} {before : List MemPlace} {tb : TypeId} (hl : laidOutB P = true) (hs : s.vars = [])
    (hread : (f.params.toList.all fun t => P.readableRec t && decide (t < P.types.size)) = true) (hr : f.resultTypes = #[tb]) (htb : P.underlying tb = some .bool) (hfn : s.fn H (ds ++ gs) = { results := [.lit (.bool true)], args := ds })
    (hW : DataW.Whole enc P f.params.toList s.vars false W args.toList ds gs before) (hb : Below W.heap.size W W') : s.post enc P f false true false false W args (.bool true) W' := by
  have hlt := hW.lt
  have hW0 := hW
  obtain ⟨p, q, hA, hV, rfl, hz, hn⟩ := hW
  refine ⟨ds, gs, p ++ q, [], p, q, hW0, ?_, ?_, ?_, hb.frame _, fun h => by cases h⟩
  · rw [hfn, hr]
    exact ⟨[], [], ⟨1, by simp [DataW.trod, Value.cells, htb]⟩, rfl, rfl⟩
  · rw [hfn]
    exact trodAll_below hl hb hread hA (fun x hx => hlt x (List.mem_append_left _ hx))
  · rw [hfn]
    rw [hs] at hV ⊢
    cases gs with
    | nil => exact hV
    | cons _ _ => exact hV.elim

theorem PCalls.use {P : Program} {f : FuncId} {args : List PV} {b : Bool} (h : PCalls P f args (B b)) {g : Ghost} {W : World} {vs : List Value} (ha : Agree g W) (hv : VRl g vs args) :
    Calls P f vs.toArray W fun e W' => e = .returned (.bool b) ∧ Below W.heap.size W W' := by
  unfold PCalls at h
  exact (h g W vs ha hv).mono fun e W' ⟨v, g', he, _, _, hb, _, hvr⟩ => ⟨by rw [he, VR.val_inv hvr], hb⟩
end Go.Pv
