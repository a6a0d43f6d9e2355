/- The layer, more: maps with string keys, text out of bytes, slices that grow out of nothing, structs of objects handed back. -/
import Derived.MapKept
import Derived.Test.YtepjlgilopfnpaaGreatJNa
import Derived.Test.YtepjlgilopfnpaaGreatJSq
set_option linter.unusedSectionVars false
namespace Go.Pv
open Go Go.MapKept
attribute [local semireducible] Go.Pv.Goal Go.Pv.PStep Go.Pv.EStep Go.Pv.KRets Go.Pv.PCalls Go.Pv.Ops Go.Pv.OpsG

/-! ### Maps -/
class MapT (P : Program) (t : TypeId) (kt e : outParam TypeId) (z : outParam Value) : Prop where
 hu : P.underlying t = some (.map kt e)
 hk : P.underlying kt = some .string
 hz : ∀ w, (zeroValue e).run P w = .ok z w
def mpGet : List (ByteArray × PV) → ByteArray → PV → PV
 | [], _, z => z
 | (a, p) :: l, k, z => if a = k then p else mpGet l k z
def mpPut : List (ByteArray × PV) → ByteArray → PV → List (ByteArray × PV)
 | [], k, v => [(k, v)]
 | (a, p) :: l, k, v => if a = k then (a, v) :: l else (a, p) :: mpPut l k v
theorem sameNow_str (a b : ByteArray) : Instr.sameNow .string (.string a) (.string b) = some (decide (a = b)) := by
 show some (a == b) = _
 congr 1
 cases h : (a == b) with
 | true => rw [(bytes_beq a b).1 h]; simp
 | false =>
  have : ¬ a = b := fun e => by rw [(bytes_beq a b).2 e] at h; cases h
  simp [this]
theorem findNow_mp {g : Ghost} (k : ByteArray) : ∀ {es : List MapEntry} {l : List (ByteArray × PV)} (i : Nat), MpRel g es l →
 (Instr.findNow .string (.string k) es i = some none ∧ (∀ z, mpGet l k z = z) ∧ ∀ v, mpPut l k v = l ++ [(k, v)]) ∨
  ∃ j e p, Instr.findNow .string (.string k) es i = some (some (i + j, e.val)) ∧ es[j]? = some e ∧ e.key = .string k ∧ VR g e.val p ∧ (∀ z, mpGet l k z = p) ∧ l[j]? = some (k, p) ∧ ∀ v, mpPut l k v = l.set j (k, v)
 | [], [], _, _ => .inl ⟨rfl, fun _ => rfl, fun _ => rfl⟩
 | e :: es, (a, p) :: l, i, h => by
  obtain ⟨h1, h2, h3⟩ := h
  by_cases hc : k = a
  · subst hc
    refine .inr ⟨0, e, p, ?_, rfl, h1, h2, fun z => if_pos rfl, rfl, fun v => if_pos rfl⟩
    show (match Instr.sameNow .string (.string k) e.key with | some true => _ | some false => _ | none => _) = _
    rw [h1, sameNow_str, decide_eq_true rfl]; rfl
  · have hca : ¬ a = k := fun e => hc e.symm
    have hf : Instr.findNow .string (.string k) (e :: es) i = Instr.findNow .string (.string k) es (i + 1) := by
     show (match Instr.sameNow .string (.string k) e.key with | some true => _ | some false => _ | none => _) = _
     rw [h1, sameNow_str, decide_eq_false hc]
    rcases findNow_mp k (i + 1) h3 with ⟨q1, q2, q3⟩ | ⟨j, e', p', q1, q2, q3, q4, q5, q6, q7⟩
    · exact .inl ⟨hf.trans q1, fun z => (if_neg hca).trans (q2 z), fun v => (if_neg hca).trans (by rw [q3 v]; rfl)⟩
    · exact .inr ⟨j + 1, e', p', by rw [hf, q1, show i + 1 + j = i + (j + 1) by omega], q2, q3, q4, fun z => (if_neg hca).trans (q5 z), q6, fun v => (if_neg hca).trans (by rw [q7 v]; rfl)⟩
 | [], _ :: _, _, h => h.elim
 | _ :: _, [], _, h => h.elim
theorem MpRel.snoc {g : Ghost} {e : MapEntry} {k : ByteArray} {p : PV} (h1 : e.key = .string k) (h2 : VR g e.val p) : ∀ {es : List MapEntry} {l : List (ByteArray × PV)}, MpRel g es l → MpRel g (es ++ [e]) (l ++ [(k, p)])
 | [], [], _ => ⟨h1, h2, trivial⟩
 | _ :: _, (_, _) :: _, h => ⟨h.1, h.2.1, h.2.2.snoc h1 h2⟩
 | [], _ :: _, h => h.elim
 | _ :: _, [], h => h.elim
theorem MpRel.set {g : Ghost} {e : MapEntry} {k : ByteArray} {p : PV} (h1 : e.key = .string k) (h2 : VR g e.val p) : ∀ {es : List MapEntry} {l : List (ByteArray × PV)} (j : Nat), MpRel g es l → MpRel g (es.set j e) (l.set j (k, p))
 | [], [], _, _ => trivial
 | _ :: _, (_, _) :: _, 0, h => ⟨h1, h2, h.2.2⟩
 | _ :: _, (_, _) :: _, j + 1, h => ⟨h.1, h.2.1, h.2.2.set h1 h2 j⟩
 | [], _ :: _, _, h => h.elim
 | _ :: _, [], _, h => h.elim

theorem BelowL.setB {w0 : Ini} {w : World} (h : BelowL w0 w) {b : Nat} {x y : Obj} (hb : w0.own b = true) (hw : w.heap[b]? = some x) : BelowL w0 { w with heap := w.heap.setIfInBounds b y } :=
 ⟨h.os, h.tape, h.output, by simpa using h.size, fun k hk => ((heap_set hw).2 k (fun e => hk (e ▸ hb))).trans (h.block k hk)⟩
theorem Agree.setB {g : Ghost} {w : World} (h : Agree g w) {b : Nat} {x y : Obj} (hg : ∀ o, g b o = none) (hw : w.heap[b]? = some x) : Agree g { w with heap := w.heap.setIfInBounds b y } := fun b' o v hv => by
 have hne : b' ≠ b := fun e => by rw [e, hg o] at hv; cases hv
 have := h b' o v hv
 unfold World.cell? at this ⊢
 rw [(heap_set hw).2 b' hne]; exact this
section
variable {P : Program} {o : Oper} {S : St} {ev : Operand → PV} {hp : List HO}
theorem ps_lookup {t kt e : TypeId} {z : Value} [ht : MapT P t kt e z] {x y : Operand} {b id : Nat} {l : List (ByteArray × PV)} {k : ByteArray} (ho : o.op = .lookup t x y false) (h1 : ev x = .val (.map (some b))) (hh : hp[id]? = some (.mp b l)) (h2 : ev y = .val (.string k)) :
 PStep P o ev hp (mpGet l k (.val z)) :=
 .of_run fun w0 g ρ w av hb hx => by
  have e1 := val_of (hx x (by simp [ho, Op.operands])) h1
  have e2 := val_of (hx y (by simp [ho, Op.operands])) h2
  obtain ⟨es, cl, hm⟩ := hb.own id _ hh
  have hkey : IsKey .string (.string k) := trivial
  have hck : (Instr.checkKey es.isEmpty 10000 kt (.string k)).run P w = .ok () w := run_checkKey ht.hk hkey _ 9999
  rcases findNow_mp k 0 hm.hk with ⟨q1, q2, -⟩ | ⟨j, en, p, q1, q2, q3, q4, q5, -⟩
  · refine ⟨z, ?_, .of_VR (by rw [q2]; exact .val z)⟩
    simp only [execOp, ho, e1, e2]
    refine run_value ?_
    unfold Instr.lookup
    simp [run_underlying ht.hu, Go.MapKept.run_getObj_map hm.hw, hck, Go.MapKept.run_findKey ht.hk q1, ht.hz w, Result.andThen, go_sem]
  · refine ⟨en.val, ?_, .of_VR (by rw [q5]; exact q4)⟩
    simp only [execOp, ho, e1, e2]
    refine run_value ?_
    unfold Instr.lookup
    simp [run_underlying ht.hu, Go.MapKept.run_getObj_map hm.hw, hck, run_findKey ht.hk q1, Result.andThen, go_sem]
theorem e_mapUpdate {t kt e : TypeId} {z : Value} [ht : MapT P t kt e z] {x y v : Operand} {b id : Nat} {l : List (ByteArray × PV)} {k : ByteArray} {p : PV} (ho : o.op = .mapUpdate t x y v) (hd : o.dst = none) (h1 : S.ev x = .val (.map (some b))) (hh : S.hp[id]? = some (.mp b l)) (h2 : S.ev y = .val (.string k)) (h3 : view S.hp (S.ev v) = p) :
 EStep P o S ⟨S.fr, S.hp.set id (.mp b (mpPut l k p))⟩ := by
 intro w0 g ρ a w hr Q K hK
 have e1 := val_of (hr.ev x) h1
 have e2 := val_of (hr.ev y) h2
 have ev3 := hr.base.view (hr.ev v)
 rw [h3] at ev3
 obtain ⟨es, cl, hm⟩ := hr.base.own id _ hh
 have hkey : IsKey .string (.string k) := trivial
 have hck : (Instr.checkKey false 10000 kt (.string k)).run P w = .ok () w := run_checkKey ht.hk hkey _ 9999
 have hsame : ∀ (l' : List (ByteArray × PV)) (v : Value) (p : PV), VRS1 g ρ S.hp v p → VRS1 g ρ (S.hp.set id (.mp b l')) v p := fun l' v p h => same_set hh (fun _ _ _ _ h => by cases h) (fun _ _ _ h => by cases h) (fun _ _ _ _ h => by cases h) (GExt.refl g) h
 have fin : ∀ (es' : Array MapEntry) (cl' : Nat) (l' : List (ByteArray × PV)), (Instr.mapUpdate t (.map (some b)) (.string k) (a.eval v)).run P w = .ok () { w with heap := w.heap.setIfInBounds b (.map es' cl') } → MpRel g es'.toList l' → mpPut l k p = l' → o.wp P a w K Q := fun es' cl' l' hrun hrel hl => by
  have hbase := hr.base.upd hh (x' := .mp b l') (ρ id) (GExt.refl g) _root_.id (by rw [upd_id, map_mapHO_id]; exact hsame l') (hr.base.agree.setB hm.hg hm.hw (y := .map es' cl')) (hr.base.below.setB hm.hB hm.hw) (fun _ _ _ => rfl)
   (by rw [upd_id, map_mapHO_id]; exact ⟨es', cl', hm.hblk, hm.hB, (heap_set hm.hw).1, hrel, hm.hg⟩) (fun b' hb' => .inl hb')
   (fun b' hb' hnf => ⟨(heap_set hm.hw).2 b' (fun e => hnf (by rw [e]; exact hm.hblk.symm)), fun _ => rfl⟩)
  rw [upd_id, map_mapHO_id] at hbase
  unfold Oper.wp
  simp only [execOp, ho, e1, e2]
  have hrun' : (do Instr.mapUpdate t (.map (some b)) (.string k) (a.eval v); pure Next.skip : Sem Next).run P w = .ok .skip { w with heap := w.heap.setIfInBounds b (.map es' cl') } := by
   rw [Sem.run_bind, hrun]; rfl
  rw [hrun']
  simp only [Oper.upon, hd]
  rw [hl] at hK
  exact hK g ρ a _ (GExt.refl g) (hr.same hbase (hsame l'))
 rcases findNow_mp k 0 hm.hk with ⟨q1, -, q3⟩ | ⟨j, en, p', q1, q2, q3, -, -, -, q7⟩
 · refine fin (es.push { key := .string k, val := a.eval v, born := cl }) (cl + 1) (l ++ [(k, p)]) ?_ ?_ (q3 p)
   · unfold Instr.mapUpdate
     simp [run_underlying ht.hu, Go.MapKept.run_getObj_map hm.hw, hck, Go.MapKept.run_findKey ht.hk q1, Go.MapKept.run_setObj_map _ hm.hw, Result.andThen]
   · rw [Array.toList_push]
     exact hm.hk.snoc rfl ev3
 · have hj : es[j]? = some en := by simpa using q2
   refine fin (es.modify j fun e => { e with key := .string k, val := a.eval v }) cl (l.set j (k, p)) ?_ ?_ (q7 p)
   · unfold Instr.mapUpdate
     simp [run_underlying ht.hu, Go.MapKept.run_getObj_map hm.hw, hck, Go.MapKept.run_findKey ht.hk q1, Go.MapKept.run_setObj_map _ hm.hw, Result.andThen, hj, q3, run_keyThatStays (P := P) (w := w) hkey]
   · have : (es.modify j fun e => { e with key := .string k, val := a.eval v }).toList = es.toList.set j { en with key := .string k, val := a.eval v } := by
      apply List.ext_getElem?
      intro i
      rw [Array.getElem?_toList, Array.getElem?_modify, List.getElem?_set, Array.getElem?_toList]
      by_cases e : j = i
      · subst e
        have hlt : j < es.toList.length := (List.getElem?_eq_some_iff.1 q2).1
        have hlt' : j < es.size := by simpa using hlt
        have hje : es[j] = en := by simpa [Array.getElem?_eq_getElem hlt'] using hj
        simp [hlt', hje]
      · simp [e]
     rw [this]
     exact MpRel.set (e := { en with key := .string k, val := a.eval v }) rfl ev3 j hm.hk
theorem g_region_mk {id : Nat} {l : List Oper} {t : TypeId} {K : Exit → St → Prop} (ho : o.op = .makeMap t none) (hg : o.guard = none)
 (h : ∀ b, ∃ S', S.setObj S.hp.length (killH S.hp.length S.hp ++ [.mp b []]) o.dst (.val (.map (some b))) = S' ∧ Ops P false (o :: l).toArray (K .normal) l 1 S') : Goal P (.region id (o :: l).toArray false) K S := by
 unfold Goal
 intro w0 g ρ a w Q hr hQ
 refine wp_region_lit ?_
 unfold wpList
 rw [if_pos (guardS_spec hr (by unfold guardS; rw [hg]))]
 left
 obtain ⟨S', rfl, h⟩ := h w.heap.size
 have hrun : (execOp a.eval o).run P w = .ok (.value (.map (some w.heap.size))) (w.alloc (.map #[] 0)) := by
  simp only [execOp, ho]
  exact run_value rfl
 unfold Oper.wp
 rw [hrun]
 have hgn : ∀ k, g w.heap.size k = none := fun k => by
  cases hk : g w.heap.size k with
  | none => rfl
  | some v => exact absurd (hr.base.agree.lt hk) (Nat.lt_irrefl _)
 have hbl : RowKit.Below w.heap.size w (w.alloc (.map #[] 0)) := (RowKit.Below.refl _ _).alloc (Nat.le_refl _) _
 have hbase := hr.base.push (x' := .mp w.heap.size []) ⟨w.heap.size, 0, fun _ => 0, fun _ => 0⟩ (GExt.refl g) (killP1 S.hp.length) (fun v p h => h.kill S.hp.length _ (GExt.refl g) (fun i hi => killH_push _ _ hi)) (hr.base.agree.below hbl) hbl
  ⟨#[], 0, ⟨rfl, Ini.own_new hr.base.below.size, (heap_alloc w _).1, trivial, hgn⟩⟩ (fun b hb => by simp only [foot] at hb; omega) (fun b hb k => rfl)
 have hrel := hr.setObj S.hp.length _ hbase (GExt.refl g) (fun i hi => killH_push _ _ hi) (v := .map (some w.heap.size)) (.of_VR (.val _)) o.dst
 exact wpList_of_ops (dr := false) (fun S' g' ρ' a' w' hk hr' => hQ .normal S' g' ρ' a' w' hk hr') l 1 _ g _ _ _ h hrel
/-! ### Slices that grow out of nothing -/
theorem e_appendNil {t e : TypeId} {s by_ : Nat} {zs : List Value} [ht : MkT P t e s by_ zs] {x y : Operand} {tys : Array TypeId} {l2 : List PV} {nn : Option Bool} (ho : o.op = .call { callee := .builtin .append, args := #[x, y], argTypes := tys })
 (htys : tys = #[t, t]) (h1 : S.ev x = nilV) (h2 : view S.hp (S.ev y) = .sl s nn l2) (hone : ∀ p ∈ l2, ∀ c, p.flat = some c → (c.all PV.one) = true) (hs : 0 < s) (hzs : zs.length = s) (hl0 : 0 < l2.length)
 (hb : l2.length * by_ ≤ 140737488355328) (hm : l2.length ≤ 9223372036854775807) : EStep P o S (S.setObj S.hp.length (killH S.hp.length S.hp ++ [.arr true s e l2]) o.dst (.hp S.hp.length)) := by
 subst htys
 intro w0 g ρ a w hr Q K hK
 have ex : a.eval x = .slice none 0 0 := val_of (hr.ev x) h1
 have ey := hr.base.view (hr.ev y)
 rw [h2] at ey
 obtain ⟨i, z, hi, hi1, hi2, hi3, hi4⟩ := ht.hi
 have hzc : z.cells.size = s := by rw [← hzs, ← hi4]; simp
 have hmm : l2.length ≤ maxLen := by simp only [maxLen]; omega
 rcases VR.sl_inv ey with ⟨-, rfl, -⟩ | ⟨-, -, -, rfl, -⟩ | ⟨b, of_, capy, c2, cs, ea, -, -, -, -, hf2, hgk, hv2⟩
 · simp at hl0
 · simp at hl0
 let news : List Value := (List.range (l2.length * s)).map cs
 have hnl : news.length = l2.length * s := by simp [news]
 have hnk : ∀ (k : Nat), k < l2.length * s → news.getD k undef = cs k := fun k hk => by simp [news, List.getD_eq_getElem?_getD, hk]
 have hcellsrc : ∀ (j : Nat) (u : Value), news[j]? = some u → w.cell? ((⟨b, of_, none⟩ : Addr).add j) = some u := fun j u hj => by
  rw [Addr.add_n]
  have hjl : j < l2.length * s := by rw [← hnl]; exact (List.getElem?_eq_some_iff.1 hj).1
  have : u = cs j := by rw [← hnk j hjl]; simp [List.getD_eq_getElem?_getD, hj]
  rw [this]; exact hr.base.agree _ _ _ (hgk j hjl)
 have hrun := run_append_nil (P := P) w t o.type e i z ht.hu hi hi3 ⟨b, of_, none⟩ l2.length capy news (by rw [hi1]; exact hnl) hcellsrc hl0 (by omega) (by rw [hi2]; omega)
 have hcapge : l2.length ≤ grownCap w l2.length 0 e := grownCap_ge w _ _ e
 have hcapm : grownCap w l2.length 0 e ≤ maxLen := grownCap_le_maxLen w _ _ e hmm
 generalize hcap' : grownCap w l2.length 0 e = cap' at *
 generalize hcur : news.toArray ++ Builtin.zeroCells z.cells (cap' - l2.length) = cur' at *
 have hsz' : cur'.size = cap' * s := by
  rw [← hcur]
  simp only [Array.size_append, List.size_toArray, size_zeroCells, hzc, hnl, ← Nat.add_mul]
  congr 1
  omega
 have k2 : ∀ k, k < l2.length * s → cur'.getD k undef = cs k := fun k hk => by
  rw [← hcur]
  have h2 : (news.toArray ++ Builtin.zeroCells z.cells (cap' - l2.length))[k]? = news[k]? := by
   rw [Array.getElem?_append_left (by rw [List.size_toArray]; omega), List.getElem?_toArray]
  rw [← hnk k hk, Array.getD_eq_getD_getElem?, List.getD_eq_getElem?_getD, h2]
 have hnew : (w.drew.alloc (.cells cur' e)).heap[w.heap.size]? = some (.cells cur' e (0, 0)) := heap_alloc_new w.drew _
 have hbl : RowKit.Below w.heap.size w (w.drew.alloc (.cells cur' e)) := (RowKit.Below.refl _ _).drew.alloc (Nat.le_refl _) _
 have hgn : ∀ k, g w.heap.size k = none := fun k => by
  cases hk : g w.heap.size k with
  | none => rfl
  | some v => exact absurd (hr.base.agree.lt hk) (Nat.lt_irrefl _)
 have hexec : (execOp a.eval o).run P w = .ok (.value (.slice (some ⟨w.heap.size, 0, none⟩) l2.length cap')) (w.drew.alloc (.cells cur' e)) := by
  simp only [execOp, ho, resolve, Sem.run_bind, run_pure, Result.andThen, invoke, builtin]
  have : (#[x, y].map a.eval) = #[.slice none 0 0, .slice (some ⟨b, of_, none⟩) l2.length capy] := by simp [ex, ea]
  rw [this, hrun]
 have lt : ∀ {i j n : Nat} {x : List PV} {q : PV}, i < n → x.length = s → x[j]? = some q → i * s + j < n * s := fun {i j n x q} hi hx hq => by
  have hj := (List.getElem?_eq_some_iff.1 hq).1
  calc i * s + j < i * s + s := by omega
   _ = (i + 1) * s := by rw [Nat.add_mul]; omega
   _ ≤ n * s := Nat.mul_le_mul_right _ hi
 have hbase := hr.base.push (x' := .arr true s e l2) ⟨w.heap.size, cap', fun _ => 0, fun _ => 0⟩ (GExt.refl g) (killP1 S.hp.length) (fun v p h => h.kill S.hp.length _ (GExt.refl g) (fun i hi => killH_push _ _ hi)) (hr.base.agree.below hbl) hbl
  ⟨cur', c2, ⟨hs, Ini.own_new hr.base.below.size, hcapge, hcapm, hnew, hsz', hf2, fun i j q hi hq => by
   rw [k2 _ (lt hi (hf2 _ _ (List.getElem?_eq_getElem hi)).2 hq)]
   exact hv2 i j q hi hq, fun k => by simp [hgn k]⟩⟩ (fun b hb => by simp only [foot] at hb; omega) (fun b hb k => rfl)
 have hv := VRS.hp_new g ρ S.hp true s e l2 ⟨w.heap.size, cap', fun _ => 0, fun _ => 0⟩
 unfold Oper.wp
 rw [hexec]
 exact hK _ _ _ _ (GExt.refl g) (hr.setObj S.hp.length _ hbase (GExt.refl g) (fun i hi => killH_push _ _ hi) hv o.dst)
theorem e_makeCap {t e : TypeId} {s by_ : Nat} {zs : List Value} [ht : MkT P t e s by_ zs] {x y : Operand} {n : Int} (ho : o.op = .makeSlice t x y) (h1 : S.ev x = I 0) (h2 : S.ev y = I n) (h0 : 0 ≤ n) (hb : n * by_ ≤ 140737488355328) (hn : n ≤ 9223372036854775807)
 (hs : 0 < s) (hzs : zs.length = s) : EStep P o S (S.setObj S.hp.length (killH S.hp.length S.hp ++ [.arr true s e []]) o.dst (.hp S.hp.length)) := by
 intro w0 g ρ a w hr Q K hK
 have e1 := val_of (hr.ev x) h1
 have e2 := val_of (hr.ev y) h2
 obtain ⟨i, z, hi, hi1, hi2, hi3, hi4⟩ := ht.hi
 have hrun := run_make (P := P) w t e i z ht.hu hi hi3 .i64 .i64 0 n (Int.le_refl _) h0 (by rw [hi2, Int.mul_comm]; omega) hn
 rw [hi1] at hrun
 unfold Oper.wp
 simp only [execOp, ho, e1, e2]
 rw [run_value hrun]
 have hgn : ∀ k, g w.heap.size k = none := fun k => by
  cases hk : g w.heap.size k with
  | none => rfl
  | some v => exact absurd (hr.base.agree.lt hk) (Nat.lt_irrefl _)
 have hzc : z.cells.size = s := by rw [← hzs, ← hi4]; simp
 have hbase := hr.base.push (x' := .arr true s e []) ⟨w.heap.size, n.toNat, fun _ => 0, fun _ => 0⟩ (GExt.refl g) (killP1 S.hp.length) (fun v p h => h.kill S.hp.length _ (GExt.refl g) (fun i hi => killH_push _ _ hi)) (hr.base.agree.below ((RowKit.Below.refl _ _).alloc (Nat.le_refl _) _)) ((RowKit.Below.refl _ _).alloc (Nat.le_refl _) _)
  ⟨madeCells z.cells (n.toNat * s), fun _ => [], ⟨hs, Ini.own_new hr.base.below.size, Nat.zero_le _, by simp only [maxLen]; omega, heap_alloc_new w _, by simp [size_madeCells], fun k p hk => by simp at hk, fun k j q hk hq => by simp at hk, fun k => by simp [hgn k]⟩⟩ (fun b hb => by simp only [foot] at hb; omega) (fun b hb k => rfl)
 have hv := VRS.hp_new g ρ S.hp true s e [] ⟨w.heap.size, n.toNat, fun _ => 0, fun _ => 0⟩
 exact hK _ _ _ _ (GExt.refl g) (hr.setObj S.hp.length _ hbase (GExt.refl g) (fun i hi => killH_push _ _ hi) hv o.dst)
theorem Turns.move {S : St} (i j : Nat) {m : Bool} {s : Nat} {e : TypeId} {l : List PV} (hij : i ≠ j) (hi : S.hp[i]? = some (.arr m s e l)) : Turns S ⟨S.fr.map (mvP i j), mvH i j (.arr m s e l) S.hp⟩ := fun _ _ _ _ _ h => ⟨_, rel_move h hij hi⟩
theorem j_appendNil {t e : TypeId} {s by_ : Nat} {zs : List Value} [ht : MkT P t e s by_ zs] {x y : Operand} {tys : Array TypeId} {l2 : List PV} {nn : Option Bool} (ho : o.op = .call { callee := .builtin .append, args := #[x, y], argTypes := tys })
 (htys : tys = #[t, t]) (h1 : ev x = nilV) (h2 : view hp (ev y) = .sl s nn l2) (hone : ∀ p ∈ l2, ∀ c, p.flat = some c → (c.all PV.one) = true) (hs : 0 < s) (hzs : zs.length = s) (hl0 : 0 < l2.length)
 (hb : l2.length * by_ ≤ 140737488355328) (hm : l2.length ≤ 9223372036854775807) : JStep P o ev hp (some hp.length) (killH hp.length hp ++ [.arr true s e l2]) (.hp hp.length) := fun fr hfr =>
 e_appendNil (S := ⟨fr, hp⟩) (ht := ht) ho htys ((hfr x (by simp [ho, Op.operands, Call.operands])).trans h1) (by rw [show (St.mk fr hp).ev y = ev y from hfr y (by simp [ho, Op.operands, Call.operands])]; exact h2) hone hs hzs hl0 hb hm
theorem j_store_boxC {t : TypeId} [ht : CellT P t] {x v : Operand} {id i : Nat} {l : List PV} {p : PV} (ho : o.op = .store t x v) (hd : o.dst = none) (h1 : ev x = .hat id i) (hh : hp[id]? = some (.box l)) (hi : i + 1 ≤ l.length)
 (h2 : ev v = p) (hone : p.one = true) : JStep P o ev hp none (hp.set id (.box (l.take i ++ [p] ++ l.drop (i + 1)))) .any :=
 j_store ho hd fun fr e1 e2 => e_store_boxC (S := ⟨fr, hp⟩) ho hd (e1.trans h1) hh hi (e2.trans h2) hone
theorem ps_litA {t e : TypeId} {s by_ : Nat} [ht : SlT P t e s by_] {zs : List Value} [hz : ZeroT P e zs] {x : Operand} (c : List PV) (ho : o.op = .buildSlice t 1 #[(0, x)]) (h1 : view hp (ev x) = .agg c) (hc : c.length = s) (hs : 0 < s) (hb : 1 * s ≤ 16777216) : PStep P o ev hp (.sl s none [.agg c]) :=
 ps_buildSlice (ht := ht) (hz := hz) ho rfl rfl (by simp [elems, h1]) ⟨⟨c, rfl, hc⟩, trivial⟩ hs hb
theorem ps_callRV {x : Operand} {xs : Array Operand} {tys : Array TypeId} {f : FuncId} [hf : FnT P f] {first caps args : List PV} {s : Nat} {e : TypeId} {l : List PV} (ho' : o.op = .call { callee := .value x, args := xs, argTypes := tys }) (h1 : ev x = .fn f first caps)
 (h2 : argsLe (first ++ elemsM hp ev xs.toList ++ caps) args) (hc : RCalls P f args (.arr true s e l) (.hp 0)) : PStep P o ev hp (.sl s none l) := by
 unfold PStep
 intro w0 g ρ w a hb hx Q K hK
 have e1 := hx x (by simp [ho', Op.operands, Call.operands])
 rw [h1] at e1
 obtain ⟨fs, cs, ea, l1, l2, v1, v2⟩ := VR.fn_inv e1
 unfold Oper.wp
 rw [run_call ho' ea]
 have hx' := snap_ext hb.agree w0.own
 have hargs : VRl (snap g w w0.own) (fs ++ xs.map a.eval ++ cs).toList args := by
  refine VRl.le h2 ?_
  rw [Array.toList_append, Array.toList_append]
  refine ((VRl.of_array l1 fun i q hq => (v1 i q hq).mono hx').append ?_).append (VRl.of_array l2 fun i q hq => (v2 i q hq).mono hx')
  refine ⟨by simp [elemsM], fun i q hq => ?_⟩
  simp only [elemsM, List.getElem?_map, Option.map_eq_some_iff, Array.getElem?_toList] at hq
  obtain ⟨y, hy, rfl⟩ := hq
  have : (xs.map a.eval).toList.getD i undef = a.eval y := by simp [List.getD_eq_getElem?_getD, hy]
  rw [this]
  exact hb.viewM (hx y (by simp only [ho', Op.operands, Call.operands]; exact Array.mem_append.2 (.inr (Array.mem_of_getElem? hy))))
 unfold RCalls at hc
 have := hc _ w _ (snap_agree hb.agree w0.own) hargs
 rw [Array.toArray_toList] at this
 refine this.mono fun e' w' h => ?_
 obtain ⟨v, L, rfl, hbl, ⟨cur, c, hown⟩, hv⟩ := h
 have hv' : v = .slice (some ⟨L.blk, 0, none⟩) l.length L.cap := HpV.arr (id := 0) hv _ _ _ _ rfl
 have hge : w.heap.size ≤ L.blk := by simpa using hown.hB
 have hgn : ∀ o, g L.blk o = none := fun o => by
  cases hk : g L.blk o with
  | none => rfl
  | some v => exact absurd (hb.agree.lt hk) (by omega)
 let g' : Ghost := fun b k => if b = L.blk then (if k < l.length * s then some (cur.getD k undef) else none) else g b k
 have hgx : GExt g g' := fun b k u hu => by
  show (if b = L.blk then _ else g b k) = some u
  split
  · rename_i hb; subst hb; rw [hgn k] at hu; cases hu
  · exact hu
 have hcap : l.length * s ≤ cur.size := by rw [hown.hsz]; exact Nat.mul_le_mul_right _ hown.hcap
 have hag : Agree g' w' := fun b k u hu => by
  have hu' : (if b = L.blk then (if k < l.length * s then some (cur.getD k undef) else none) else g b k) = some u := hu
  split at hu'
  · rename_i hb
    subst hb
    split at hu'
    · rename_i hk
      cases hu'
      exact own_load hown.hw (by omega)
    · cases hu'
  · exact hb.agree.below hbl b k u hu'
 refine hK v g' w' hgx (hb.step hbl hag hgx fun b o hlt => if_neg (by omega)) (.of_VR ?_)
 rw [hv']
 exact .sl s none L.blk 0 L.cap l c (fun k => cur.getD k undef) hown.hs (by simp) hown.hcap hown.hmax hown.hf (fun k hk => by
  show (if L.blk = L.blk then _ else _) = _
  rw [if_pos rfl, Nat.zero_add, if_pos hk]) (fun i j q hi hq => (hown.hv i j q hi hq).mono (g0_ext g'))
/-! ### Text out of bytes -/
def strOf (ns : List Int) : ByteArray := ns.foldl (fun r n => r.push (UInt8.ofNat n.toNat)) ByteArray.empty
theorem ps_bytesString {src dst e : TypeId} {x : Operand} {id : Nat} {m : Bool} {e' : TypeId} {ns : List Int} (hs : P.underlying src = some (.slice e)) (he : P.underlying e = some (.int .u8)) (hd : P.underlying dst = some .string) (ho : o.op = .convert src dst x) (h1 : ev x = .hp id)
 (hh : hp[id]? = some (.arr m 1 e' (ns.map fun n => .val (.int .u8 n)))) : PStep P o ev hp (.val (.string (strOf ns))) :=
 .of_run fun w0 g ρ w av hb hx => by
  have e1 := hx x (by simp [ho, Op.operands])
  rw [h1] at e1
  have ea := HpV.arr e1 _ _ _ _ hh
  obtain ⟨cur, c, hown⟩ := hb.own id _ hh
  simp only [List.length_map] at ea
  refine ⟨.string (strOf ns), ?_, .of_VR (.val _)⟩
  simp only [execOp, ho]
  refine run_value ?_
  rw [ea, run_convert_bytes_string w src dst e _ _ _ hs he hd]
  have hlen : ns.length ≤ (ρ id).cap := by simpa using hown.hcap
  have hld := run_loadCells (P := P) w ⟨(ρ id).blk, 0, none⟩ ns.length (fun k => .int .u8 (ns.getD k 0)) (fun j hj => by
   rw [Addr.add_n, Nat.zero_add, cell_of_row _ _ _ _ _ _ hown.hw, getElem?_getD (by rw [hown.hsz]; omega)]
   have hp0 : (ns.map fun n => PV.val (.int .u8 n))[j]? = some (.val (.int .u8 (ns.getD j 0))) := by
    rw [List.getElem?_map, List.getElem?_eq_getElem hj, List.getD_eq_getElem?_getD, List.getElem?_eq_getElem hj]; rfl
   have hf := (hown.hf j _ hp0).1
   have hq := hown.hv j 0 (.val (.int .u8 (ns.getD j 0))) (by simpa using hj) (by
    have : c j = [.val (.int .u8 (ns.getD j 0))] := by
     simp only [PV.flat, PV.one, if_true, Option.some.injEq] at hf
     exact hf.symm
    rw [this]; rfl)
   have := VR.val_inv hq
   simpa using this)
  refine run_bytesToString w _ _ _ ns ?_
  rw [hld]
  congr 1
  have : (List.range ns.length).map (fun k => Value.int .u8 (ns.getD k 0)) = ns.map (Value.int .u8) := by
   apply List.ext_getElem (by simp)
   intro i h1 h2
   have hi : i < ns.length := by simpa using h2
   simp [List.getD_eq_getElem?_getD, hi]
  rw [this]
def aggLe : List PV → List PV → Prop
 | [], [] => True
 | p :: l, q :: m => p.le q ∧ aggLe l m
 | _, _ => False
theorem aggLe.spec {g : Ghost} : ∀ {l m : List PV}, aggLe l m → l.length = m.length ∧ ∀ (vs : Nat → Value), (∀ i q, l[i]? = some q → VR g (vs i) q) → ∀ i q, m[i]? = some q → VR g (vs i) q
 | [], [], _ => ⟨rfl, fun _ _ i q h => by simp at h⟩
 | p :: l, q :: m, h => by
  obtain ⟨h1, h2⟩ := aggLe.spec (g := g) h.2
  refine ⟨by simp [h1], fun vs hv i r hr => ?_⟩
  cases i with
  | zero => simp at hr; subst hr; exact h.1 g _ (hv 0 p rfl)
  | succ i => exact h2 (fun i => vs (i + 1)) (fun i q hq => hv (i + 1) q (by simpa using hq)) i r (by simpa using hr)
 | [], _ :: _, h => h.elim
 | _ :: _, [], h => h.elim
theorem krC_le {S : St} {a : Tmp} {n : Nat} {l l' : List PV} {q : PV} (h : viewM S.hp (S.ev (.tmp a)) = .ptr l) (hn : n ≤ l.length) (e : l.take n = l') (hle : (PV.agg l').le q) : KRC S a n q := by
 unfold KRC; exact ⟨l, h, hn, e ▸ hle⟩
theorem kr_le {S : St} {r : Tmp} {p q : PV} (h : viewM S.hp (S.ev (.tmp r)) = p) (hle : p.le q) : KR S r q := by
 unfold KR; rw [h]; exact hle
/-! ### A struct of objects, handed back out of a variable -/
end
end Go.Pv
