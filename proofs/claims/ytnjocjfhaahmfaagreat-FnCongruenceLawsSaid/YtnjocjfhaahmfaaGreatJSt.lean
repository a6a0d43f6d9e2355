/- The order of lists by length, then by their members; lists in this order without repeats are determined by their members. No program here. -/
import Derived.Laws.Small
import Derived.Test.YtnjocjfhaahmfaaGreatJSq
import Derived.Test.YtnjocjfhaahmfaaGreatJNb
import Derived.Test.YtnjocjfhaahmfaaGreatJZa
set_option linter.unusedSectionVars false
namespace Go.Proofs.YtnjocjfhaahmfaaGreat

def cmpX : List Int → List Int → Int
  | [], [] => 0
  | [], _ :: _ => -1
  | _ :: _, [] => 1
  | a :: s, b :: t => if a = b then cmpX s t else if a < b then -1 else 1
theorem cmpX_self : ∀ a : List Int, cmpX a a = 0
  | [] => rfl
  | a :: s => by simp only [cmpX, if_true]; exact cmpX_self s
theorem cmpX_eq : ∀ {a b : List Int}, cmpX a b = 0 → a = b
  | [], [], _ => rfl
  | [], _ :: _, h => by simp [cmpX] at h
  | _ :: _, [], h => by simp [cmpX] at h
  | a :: s, b :: t, h => by
    simp only [cmpX] at h
    split at h
    · rename_i e; rw [e, cmpX_eq h]
    · split at h <;> simp at h
theorem cmpX_flip : ∀ (a b : List Int), cmpX b a = -cmpX a b
  | [], [] => rfl
  | [], _ :: _ => rfl
  | _ :: _, [] => rfl
  | a :: s, b :: t => by
    simp only [cmpX]
    by_cases e : a = b
    · rw [if_pos e, if_pos e.symm]; exact cmpX_flip s t
    · rw [if_neg e, if_neg (Ne.symm e)]
      by_cases h : a < b
      · rw [if_pos h, if_neg (by omega)]; rfl
      · rw [if_neg h, if_pos (by omega)]
theorem cmpX_trans : ∀ {a b c : List Int}, cmpX a b < 0 → cmpX b c < 0 → cmpX a c < 0
  | [], [], _, h, _ => by simp [cmpX] at h
  | [], _ :: _, [], _, h => by simp [cmpX] at h
  | [], _ :: _, _ :: _, _, _ => by simp [cmpX]
  | _ :: _, [], _, h, _ => by simp [cmpX] at h
  | _ :: _, _ :: _, [], _, h => by simp [cmpX] at h
  | a :: s, b :: t, c :: u, h1, h2 => by
    simp only [cmpX] at *
    by_cases e1 : a = b
    · subst e1
      rw [if_pos rfl] at h1
      by_cases e2 : a = c
      · subst e2
        rw [if_pos rfl] at h2 ⊢
        exact cmpX_trans h1 h2
      · rw [if_neg e2] at h2 ⊢; exact h2
    · rw [if_neg e1] at h1
      have hab : a < b := by
        by_cases h : a < b
        · exact h
        · rw [if_neg h] at h1; omega
      by_cases e2 : b = c
      · subst e2
        rw [if_neg e1, if_pos hab]; decide
      · rw [if_neg e2] at h2
        have hbc : b < c := by
          by_cases h : b < c
          · exact h
          · rw [if_neg h] at h2; omega
        rw [if_neg (by omega), if_pos (by omega)]; decide
end Go.Proofs.YtnjocjfhaahmfaaGreat
/- The layer: an owned block of cells that is reached by a slice: its cells may name other objects. -/
namespace Go.Pv
open Go
attribute [local semireducible] Go.Pv.Goal Go.Pv.Ops Go.Pv.PStep Go.Pv.EStep Go.Pv.KRets Go.Pv.PCalls Go.Pv.OpsG
section
variable {P : Program} {o : Oper} {S : St} {ev : Operand → PV} {hp : List HO}
theorem VRS.box_new (g : Ghost) (ρ : Nat → Loc) (hp : List HO) (l : List PV) (L : Loc) (hc1 : l.length ≤ L.cap) (hc2 : L.cap ≤ maxLen) : VRS g (upd ρ hp.length L) (killH hp.length hp ++ [.box l]) (.slice (some ⟨L.blk, 0, none⟩) l.length L.cap) (.hp hp.length) := by
  have hg : (killH hp.length hp ++ [HO.box l])[hp.length]? = some (.box l) := by
    rw [List.getElem?_append_right (by simp [killH])]; simp [killH]
  refine ⟨⟨_, _, _, rfl⟩, fun m s' e' l' hid => ?_, fun e1 e2 rows hid => ?_, fun e1 e2 n rows hid => ?_, fun l' hid => ?_, fun e1 e2 n rows hid => ?_⟩
  · rw [hg] at hid; cases hid
  · rw [hg] at hid; cases hid
  · rw [hg] at hid; cases hid
  · rw [hg] at hid; cases hid; rw [upd_same]; exact ⟨rfl, hc1, hc2⟩
  · rw [hg] at hid; cases hid
theorem e_makeBox {t e : TypeId} {s by_ : Nat} {zv : Value} [ht : MkT P t e s by_ [zv]] {x y : Operand} {n : Int} (ho : o.op = .makeSlice t x y) (h1 : S.ev x = I n) (h2 : S.ev y = I n) (h0 : 0 ≤ n) (hb : n * by_ ≤ 140737488355328) (hn : n ≤ 9223372036854775807)
    (hs : s = 1) : EStep P o S (S.setObj S.hp.length (killH S.hp.length S.hp ++ [.box (List.replicate n.toNat (.val zv))]) o.dst (.hp S.hp.length)) := by
  subst hs
  intro w0 g ρ a w hr Q K hK
  have e1 := val_of (hr.ev x) h1
  have e2 := val_of (hr.ev y) h2
  obtain ⟨i, z, hi, hi1, hi2, hi3, hi4⟩ := ht.hi
  have hrun := run_make (P := P) w t e i z ht.hu hi hi3 .i64 .i64 n n h0 (Int.le_refl _) (by rw [hi2, Int.mul_comm]; omega) hn
  rw [hi1] at hrun
  unfold Oper.wp
  simp only [execOp, ho, e1, e2]
  rw [run_value hrun]
  have hgn : ∀ k, g w.heap.size k = none := fun k => by
    cases hk : g w.heap.size k with
    | none => rfl
    | some v => exact absurd (hr.base.agree.lt hk) (Nat.lt_irrefl _)
  have hzc : z.cells.size = 1 := by rw [← Array.length_toList, hi4]; rfl
  have hbase := hr.base.push (x' := .box (List.replicate n.toNat (.val zv))) ⟨w.heap.size, n.toNat, fun _ => 0, fun _ => 0⟩ (GExt.refl g) (killP1 S.hp.length) (fun v p h => h.kill S.hp.length _ (GExt.refl g) (fun i hi => killH_push _ _ hi)) (hr.base.agree.below ((RowKit.Below.refl _ _).alloc (Nat.le_refl _) _)) ((RowKit.Below.refl _ _).alloc (Nat.le_refl _) _)
    ⟨madeCells z.cells (n.toNat * 1), e, Ini.own_new hr.base.below.size, heap_alloc_new w _, by simp [size_madeCells], fun k q hk => (by
      rw [List.getElem?_replicate] at hk
      split at hk
      · rename_i hlt
        cases hk
        have : (madeCells z.cells (n.toNat * 1)).getD k undef = zv := by
          have hz0 : z.cells[0]? = some zv := by rw [← Array.getElem?_toList, hi4]; rfl
          have hm : k % 1 = 0 := Nat.mod_one k
          have hlt' : k < n.toNat * 1 := by omega
          simp only [madeCells, Array.getD_eq_getD_getElem?, Array.getElem?_map, Array.getElem?_range, hlt', if_true, Option.map_some, Option.getD_some, hzc, hm]
          rw [getElem!_def, hz0]
        rw [this]; exact .of_VR (.val zv)
      · cases hk), fun k => hgn k⟩ (fun b hb => by simp only [foot] at hb; omega) (fun b hb k => rfl)
  have hv := VRS.box_new g ρ S.hp (List.replicate n.toNat (.val zv)) ⟨w.heap.size, n.toNat, fun _ => 0, fun _ => 0⟩ (by simp) (by simp only [maxLen]; omega)
  simp only [List.length_replicate] at hv
  exact hK _ _ _ _ (GExt.refl g) (hr.setObj S.hp.length _ hbase (GExt.refl g) (fun i hi => killH_push _ _ hi) hv o.dst)
theorem ps_index_box {t e : TypeId} {by_ : Nat} [ht : SlT P t e 1 by_] {x ix : Operand} {l : List PV} {i : Int} {id : Nat} (ho : o.op = .indexAddr t x ix) (h1 : ev x = .hp id)
    (hh : hp[id]? = some (.box l)) (h2 : ev ix = I i) (h0 : 0 ≤ i) (hq : i.toNat < l.length) : PStep P o ev hp (.hat id i.toNat) :=
  .of_run fun w0 g ρ w av hb hx => by
    have e1 := hx x (by simp [ho, Op.operands])
    have e2 := val_of (hx ix (by simp [ho, Op.operands])) h2
    rw [h1] at e1
    have ea := (HpV.box e1 _ hh).1
    refine ⟨.pointer (some ⟨(ρ id).blk, i.toNat, none⟩), ?_, rfl⟩
    have hi : i < (l.length : Int) := by omega
    simp [execOp, ho, ea, e2, Instr.indexAt, asIntOf, run_underlying ht.hu, ht.hs, h0, hi, Addr.add_n, go_sem]
theorem g_viewBox {c : Code} {K : Exit → St → Prop} (n : Nat) {l : List PV} (hn : S.hp[n]? = some (.box l)) (h : ∃ S', St.mk S.fr (S.hp.set n (.box (l.map (Pv.view1 S.hp)))) = S' ∧ Goal P c K S') : Goal P c K S := by
  obtain ⟨S', rfl, h⟩ := h
  unfold Goal at h ⊢
  intro w0 g ρ a w Q hr hQ
  refine h w0 g ρ a w Q (rel_swap hr hn (x' := .box (l.map (Pv.view1 S.hp))) (fun hp' hx => ?_) (fun b hb => hb) (fun v hp' h' hh => ?_) (fun e1 e2 rows h => by cases h)) hQ
  · obtain ⟨cur, e, h1, h2, h3, h4, h5⟩ := hx
    refine ⟨cur, e, h1, h2, by rw [List.length_map]; exact h3, fun k q hk => ?_, h5⟩
    rw [List.getElem?_map, Option.map_eq_some_iff] at hk
    obtain ⟨p, hp', rfl⟩ := hk
    exact .of_VR (hr.base.view1 (h4 k p hp'))
  · exact { sl := hh.sl, arr := fun m s' e2 l' hid => (by rw [h'] at hid; cases hid), grid := fun e1 e2 rows hid => (by rw [h'] at hid; cases hid), sg := fun e1 e2 m rows hid => (by rw [h'] at hid; cases hid),
            pg := fun e1 e2 m rows hid => (by rw [h'] at hid; cases hid),
            box := fun l' hid => (by rw [h'] at hid; cases hid; rw [List.length_map]; exact hh.box _ hn) }
theorem EStep.cast {S' S2 : St} (h : EStep P o S S') (e : S' = S2) : EStep P o S S2 := e ▸ h
theorem g_castH {c : Code} {K : Exit → St → Prop} {fr : List PV} {hp hp' : List HO} (e : hp = hp') (h : Goal P c K ⟨fr, hp'⟩) : Goal P c K ⟨fr, hp⟩ := e ▸ h
end
end Go.Pv
/- The layer: a literal of two that names objects, the greater of two numbers, a slice that is not nil. -/
namespace Go.Pv
open Go
attribute [local semireducible] Go.Pv.Goal Go.Pv.Ops Go.Pv.PStep Go.Pv.EStep Go.Pv.KRets Go.Pv.PCalls Go.Pv.OpsG Go.Pv.KR
section
variable {P : Program} {o : Oper} {S : St} {ev : Operand → PV} {hp : List HO}
theorem ps_eqnil_ne {t e : TypeId} {s by_ : Nat} [ht : SlT P t e s by_] {rt : TypeId} {x y : Operand} {s' : Nat} {nn : Option Bool} {l : List PV} (ho : o.op = .binOp .eql t x y rt) (h1 : view hp (ev x) = .sl s' nn l) (h2 : ev y = nilV) (hl : l ≠ []) : PStep P o ev hp (B false) :=
  .of_run fun w0 g ρ w av hb hx => by
    have e1 := hb.view (hx x (by simp [ho, Op.operands]))
    have e2 := val_of (hx y (by simp [ho, Op.operands])) h2
    rw [h1] at e1
    have key : ∃ a n c, av x = .slice a n c ∧ a.isNone = false := by
      rcases VR.sl_inv e1 with ⟨ea, h', hn⟩ | ⟨a, cap, ea, h', hn⟩ | ⟨b', off, cap, cc, cs, ea, -⟩
      · exact absurd h' hl
      · exact absurd h' hl
      · exact ⟨_, _, _, ea, rfl⟩
    obtain ⟨a, n, c, ea, hab⟩ := key
    refine ⟨.bool false, ?_, .of_VR (.val _)⟩
    have h := eqnil_run (P := P) ht (x := x) (y := y) a n c w
    simp only [execOp, ho, ea, e2]
    rw [Sem.run_bind, h, hab]; rfl
theorem ps_max {x y : Operand} {tys : Array TypeId} {a b : Int} (ho : o.op = .call { callee := .builtin .max, args := #[x, y], argTypes := tys }) (h1 : ev x = I a) (h2 : ev y = I b) : PStep P o ev hp (I (if b > a then b else a)) :=
  .of_run fun w0 g ρ w av hb hx => by
    have e1 := val_of (hx x (by simp [ho, Op.operands, Call.operands])) h1
    have e2 := val_of (hx y (by simp [ho, Op.operands, Call.operands])) h2
    exact ⟨.int .i64 (if b > a then b else a), by simp [execOp, ho, resolve, invoke, builtin, e1, e2, run_max_int2, go_sem], .of_VR (.val _)⟩
end
end Go.Pv
/- The layer: an entry of a map's literal. -/
namespace Go.Pv
open Go Go.MapKept
attribute [local semireducible] Go.Pv.Goal Go.Pv.PStep Go.Pv.EStep Go.Pv.KRets Go.Pv.PCalls Go.Pv.Ops Go.Pv.OpsG
section
variable {P : Program} {o : Oper} {S : St}
theorem e_mapInsert {t kt e : TypeId} {z : Value} [ht : MapT P t kt e z] {x y v : Operand} {b id : Nat} {l : List (ByteArray × PV)} {k : ByteArray} {p : PV} (ho : o.op = .insert t x y v) (hd : o.dst = none) (h1 : S.ev x = .val (.map (some b))) (hh : S.hp[id]? = some (.mp b l)) (h2 : S.ev y = .val (.string k)) (h3 : view S.hp (S.ev v) = p) :
    EStep P o S ⟨S.fr, S.hp.set id (.mp b (mpPut l k p))⟩ := by
  intro w0 g ρ a w hr Q K hK
  have e1 := val_of (hr.ev x) h1
  have e2 := val_of (hr.ev y) h2
  have ev3 := hr.base.view (hr.ev v)
  rw [h3] at ev3
  obtain ⟨es, cl, hm⟩ := hr.base.own id _ hh
  have hkey : IsKey .string (.string k) := trivial
  have hck : (Instr.checkKey false 10000 kt (.string k)).run P w = .ok () w := run_checkKey ht.hk hkey _ 9999
  have hsame : ∀ (l' : List (ByteArray × PV)) (v : Value) (p : PV), VRS1 g ρ S.hp v p → VRS1 g ρ (S.hp.set id (.mp b l')) v p := fun l' v p h => same_set hh (fun _ _ _ _ h => by cases h) (fun _ _ _ h => by cases h) (fun _ _ _ _ h => by cases h) (GExt.refl g) h
  have fin : ∀ (es' : Array MapEntry) (cl' : Nat) (l' : List (ByteArray × PV)), (Instr.mapUpdate t (.map (some b)) (.string k) (a.eval v)).run P w = .ok () { w with heap := w.heap.setIfInBounds b (.map es' cl') } → MpRel g es'.toList l' → mpPut l k p = l' → o.wp P a w K Q := fun es' cl' l' hrun hrel hl => by
    have hbase := hr.base.upd hh (x' := .mp b l') (ρ id) (GExt.refl g) _root_.id (by rw [upd_id, map_mapHO_id]; exact hsame l') (hr.base.agree.setB hm.hg hm.hw (y := .map es' cl')) (hr.base.below.setB hm.hB hm.hw) (fun _ _ _ => rfl)
      (by rw [upd_id, map_mapHO_id]; exact ⟨es', cl', hm.hblk, hm.hB, (heap_set hm.hw).1, hrel, hm.hg⟩) (fun b' hb' => .inl hb')
      (fun b' hb' hnf => ⟨(heap_set hm.hw).2 b' (fun e => hnf (by rw [e]; exact hm.hblk.symm)), fun _ => rfl⟩)
    rw [upd_id, map_mapHO_id] at hbase
    unfold Oper.wp
    simp only [execOp, ho, e1, e2]
    have hrun' : (do Instr.mapUpdate t (.map (some b)) (.string k) (a.eval v); pure Next.skip : Sem Next).run P w = .ok .skip { w with heap := w.heap.setIfInBounds b (.map es' cl') } := by
      rw [Sem.run_bind, hrun]; rfl
    rw [hrun']
    simp only [Oper.upon, hd]
    rw [hl] at hK
    exact hK g ρ a _ (GExt.refl g) (hr.same hbase (hsame l'))
  rcases findNow_mp k 0 hm.hk with ⟨q1, -, q3⟩ | ⟨j, en, p', q1, q2, q3, -, -, -, q7⟩
  · refine fin (es.push { key := .string k, val := a.eval v, born := cl }) (cl + 1) (l ++ [(k, p)]) ?_ ?_ (q3 p)
    · unfold Instr.mapUpdate
      simp [run_underlying ht.hu, Go.MapKept.run_getObj_map hm.hw, hck, Go.MapKept.run_findKey ht.hk q1, Go.MapKept.run_setObj_map _ hm.hw, Result.andThen]
    · rw [Array.toList_push]
      exact hm.hk.snoc rfl ev3
  · have hj : es[j]? = some en := by simpa using q2
    refine fin (es.modify j fun e => { e with key := .string k, val := a.eval v }) cl (l.set j (k, p)) ?_ ?_ (q7 p)
    · unfold Instr.mapUpdate
      simp [run_underlying ht.hu, Go.MapKept.run_getObj_map hm.hw, hck, Go.MapKept.run_findKey ht.hk q1, Go.MapKept.run_setObj_map _ hm.hw, Result.andThen, hj, q3, run_keyThatStays (P := P) (w := w) hkey]
    · have : (es.modify j fun e => { e with key := .string k, val := a.eval v }).toList = es.toList.set j { en with key := .string k, val := a.eval v } := by
        apply List.ext_getElem?
        intro i
        rw [Array.getElem?_toList, Array.getElem?_modify, List.getElem?_set, Array.getElem?_toList]
        by_cases e : j = i
        · subst e
          have hlt : j < es.toList.length := (List.getElem?_eq_some_iff.1 q2).1
          have hlt' : j < es.size := by simpa using hlt
          have hje : es[j] = en := by simpa [Array.getElem?_eq_getElem hlt'] using hj
          simp [hlt', hje]
        · simp [e]
      rw [this]
      exact MpRel.set (e := { en with key := .string k, val := a.eval v }) rfl ev3 j hm.hk
end
end Go.Pv
/- The layer: a block of cells that is reached by a slice, settled when it is whole. -/
namespace Go.Pv
open Go
attribute [local semireducible] Go.Pv.Goal Go.Pv.Ops Go.Pv.PStep Go.Pv.EStep Go.Pv.KRets Go.Pv.PCalls Go.Pv.OpsG
section
variable {P : Program} {o : Oper} {ev : Operand → PV} {hp : List HO}
theorem ps_len_box {t e : TypeId} {s by_ : Nat} [ht : SlT P t e s by_] {x : Operand} {id : Nat} {l : List PV} {tys : Array TypeId} (ho : o.op = .call { callee := .builtin .len, args := #[x], argTypes := tys }) (htys : tys = #[t])
    (h1 : ev x = .hp id) (hh : hp[id]? = some (.box l)) : PStep P o ev hp (I l.length) :=
  .of_run fun w0 g ρ w av hb hx => by
    have e1 := hx x (by simp [ho, Op.operands, Call.operands])
    subst htys
    rw [h1] at e1
    have ea := (HpV.box e1 _ hh).1
    exact ⟨.int .i64 l.length, by simp [execOp, ho, resolve, invoke, builtin, Builtin.len_, ea, run_underlying ht.hu, goInt, go_sem], .val _⟩
end
def setS1 (n : Nat) (l : List PV) : PV → PV
  | .hp j => bif j == n then .sl 1 none l else .hp j
  | .hpv j b c => bif j == n then .sl 1 none l else .hpv j b c
  | p => p
def setSA (n : Nat) (l : List PV) : PV → PV
  | .agg m => .agg (m.map (setS1 n l))
  | p => setS1 n l p
def setSP (n : Nat) (l : List PV) : PV → PV
  | .tup m => .tup (m.map (setSA n l))
  | .agg m => .agg (m.map (setS1 n l))
  | p => setS1 n l p
theorem setSA_map (n : Nat) (l : List PV) : setSA n l = mapA (setS1 n l) := by funext p; cases p <;> rfl
theorem setSP_map (n : Nat) (l : List PV) (p : PV) : setSP n l p = mapT (setS1 n l) p := by cases p <;> first | rfl | simp only [setSP, mapT, setSA_map]
def setSH (n : Nat) (l : List PV) (hp : List HO) : List HO := (hp.map (mapHO (setS1 n l))).set n .gone

theorem rel_settleS {w0 : Ini} {S : St} {g : Ghost} {ρ : Nat → Loc} {a : Act} {w : World} (h : Rel w0 S g ρ a w) {n : Nat} {l : List PV} (hn : S.hp[n]? = some (.box l)) (hone : ∀ p ∈ l.map (view1 S.hp), p.one = true) :
    ∃ g', GExt g g' ∧ Rel w0 ⟨S.fr.map (setSP n (l.map (view1 S.hp))), setSH n (l.map (view1 S.hp)) S.hp⟩ g' ρ a w := by
  obtain ⟨cur, e, hown⟩ := h.base.own n _ hn
  let g' : Ghost := gset g (ρ n).blk (fun o => cur[o]?)
  have hx : GExt g g' := fun b o v hv => by
    show gset g (ρ n).blk _ b o = some v
    unfold gset
    split
    · rename_i e; subst e; rw [hown.hg] at hv; cases hv
    · exact hv
  have hag : Agree g' w := fun b o v hv => by
    have hv' : gset g (ρ n).blk (fun o => cur[o]?) b o = some v := hv
    unfold gset at hv'
    split at hv'
    · rename_i e; subst e
      rw [cell_of_row _ _ _ _ _ _ hown.hw]; exact hv'
    · exact h.base.agree b o v hv'
  have hlt : n < S.hp.length := (List.getElem?_eq_some_iff.1 hn).1
  have back : ∀ (i : Nat) (y : HO), ((S.hp.map (mapHO (setS1 n (l.map (view1 S.hp))))).set n .gone)[i]? = some y → y = .gone ∨ (S.hp[i]?).map (mapHO (setS1 n (l.map (view1 S.hp)))) = some y := fun i y hi => by
    rw [List.getElem?_set] at hi
    split at hi
    · split at hi
      · left; simpa using hi.symm
      · cases hi
    · right; rwa [List.getElem?_map] at hi
  have hφ : ∀ v p, VRS1 g ρ S.hp v p → VRS1 g' ρ ((S.hp.map (mapHO (setS1 n (l.map (view1 S.hp))))).set n .gone) v (setS1 n (l.map (view1 S.hp)) p) := fun v p hv => by
    have keyH : ∀ {j}, HpV ρ S.hp v j → HpV ρ ((S.hp.map (mapHO (setS1 n (l.map (view1 S.hp))))).set n .gone) v j := fun {j} hv =>
      { sl := hv.sl
        arr := fun m s e l' hid => by
          rcases back _ _ hid with h' | h'
          · cases h'
          · exact hv.arr _ _ _ _ (mapHO_arr h')
        grid := fun e1 e2 rows hid => by
          rcases back _ _ hid with h' | h'
          · cases h'
          · exact hv.grid _ _ _ (mapHO_grid h')
        sg := fun e1 e2 n rows hid => by
          rcases back _ _ hid with h' | h'
          · cases h'
          · exact hv.sg _ _ _ _ (mapHO_sg h')
        pg := fun e1 e2 n rows hid => by
          rcases back _ _ hid with h' | h'
          · cases h'
          · exact hv.pg _ _ _ _ (mapHO_pg h')
        box := fun l' hid => by
          rcases back _ _ hid with h' | h'
          · cases h'
          · obtain ⟨l0, h0, hl⟩ := mapHO_box h'
            rw [← hl]; exact hv.box _ h0 }
    have keyS : HpV ρ S.hp v n → VR g' v (.sl 1 none (l.map (view1 S.hp))) := fun hv => by
      obtain ⟨e0, h1, h2⟩ := hv.box _ hn
      have hll : (l.map (view1 S.hp)).length = l.length := List.length_map _
      rw [e0, ← hll]
      refine VR.sl 1 none _ 0 _ _ (fun i => [(l.map (view1 S.hp)).getD i .any]) (fun k => cur.getD k undef) (by decide) (by simp) (by rw [hll]; exact h1) h2 (fun i p hi => ?_) (fun k hk => ?_) (fun i j q hi hq => ?_)
      · have : (l.map (view1 S.hp)).getD i .any = p := by rw [List.getD_eq_getElem?_getD, hi]; rfl
        rw [this]
        exact ⟨flat_one (hone p (List.mem_of_getElem? hi)), rfl⟩
      · show gset g (ρ n).blk _ _ _ = _
        unfold gset
        rw [if_pos rfl, Nat.zero_add]
        rw [Nat.mul_one, hll] at hk
        exact getElem?_getD (by rw [hown.hsz]; exact hk)
      · rcases j with _ | j
        · simp only [List.getElem?_cons_zero, Option.some.injEq] at hq
          rw [hll] at hi
          rw [Nat.mul_one, Nat.add_zero, ← hq, List.getD_eq_getElem?_getD, List.getElem?_map, List.getElem?_eq_getElem hi]
          exact (h.base.view1 (hown.hv i _ (List.getElem?_eq_getElem hi))).mono hx
        · simp at hq
    cases p with
    | hp j =>
      simp only [setS1]
      cases hb : (j == n) with
      | false => exact keyH hv
      | true =>
        have e : j = n := by simpa using hb
        subst e
        exact .of_VR (keyS hv)
    | hpv j b c =>
      simp only [setS1]
      cases hb : (j == n) with
      | false => exact ⟨keyH hv.1, hv.2⟩
      | true =>
        have e : j = n := by simpa using hb
        subst e
        exact .of_VR (keyS hv.1)
    | hat j i => exact hv
    | hatv j i b c => exact hv
    | gr j i =>
      refine (⟨GrV.sl hv, fun e1 e2 rows r hid hr => ?_, fun e1 e2 _n rows r hid hr => ?_⟩ : GrV _ _ _ _ _)
      rotate_left
      · rcases back _ _ hid with h' | h'
        · cases h'
        · exact GrV.sg hv _ _ _ _ _ (mapHO_sg h') hr
      rcases back _ _ hid with h' | h'
      · cases h'
      · exact GrV.grid hv _ _ _ _ (mapHO_grid h') hr
    | gat j i k => exact hv
    | _ => exact VR.mono hx hv
  have hbase := h.base.upd hn (x' := .gone) (ρ n) hx (setS1 n (l.map (view1 S.hp))) (by rw [upd_id]; exact hφ) hag h.base.below (fun b o hb => by
      show gset g (ρ n).blk _ b o = _
      unfold gset
      have hne : b ≠ (ρ n).blk := fun e => by subst e; exact hb hown.hB
      rw [if_neg hne]) trivial (fun b hb => hb.elim) (fun b hb hnf => ⟨rfl, fun o => by
      show gset g (ρ n).blk _ b o = _
      unfold gset
      have hne : b ≠ (ρ n).blk := fun e => hnf e
      rw [if_neg hne]⟩)
  rw [upd_id] at hbase
  refine ⟨g', hx, hbase, h.dead, by simpa using h.size, fun i p hp => ?_⟩
  simp only [List.getElem?_map, Option.map_eq_some_iff] at hp
  obtain ⟨p, hp, rfl⟩ := hp
  rw [setSP_map]
  exact (h.fr i p hp).map hφ
theorem g_settleS {P : Program} {K : Exit → St → Prop} {S : St} {c : Code} (n : Nat) {l l' : List PV} {S' : St} (hn : S.hp[n]? = some (.box l)) (hl : l.map (view1 S.hp) = l') (hone : ∀ p ∈ l', p.one = true) (hS : St.mk (S.fr.map (setSP n l')) (setSH n l' S.hp) = S') (hk : Goal P c K S') : Goal P c K S := by
  subst hl
  unfold Goal at hk ⊢
  intro w0 g ρ a w Q hr hQ
  obtain ⟨g', -, hr'⟩ := rel_settleS hr hn hone
  rw [hS] at hr'
  exact hk w0 g' ρ a w Q hr' hQ
end Go.Pv
/- The layer: drawn regions whose effects leave to each operation what it reads. -/
namespace Go.Pv
open Go
attribute [local semireducible] Go.Pv.Goal Go.Pv.Ops Go.Pv.PStep Go.Pv.EStep Go.Pv.KRets Go.Pv.PCalls Go.Pv.OpsG
section
variable {P : Program} {ops : Array Oper} {U : List Nat} {V : List (Nat × Nat)} {K : St → Prop} {H : List Nat → List HO → Prop}
theorem ZM.comm2 {H H' : List HO → Prop} {oi oj : Oper} {S : St} {qi qj : PV} {U' : List Nat} (hap : oi.apart ops oj = true) (hi : ZM P ops U H oi S qi) (hj : ZM P ops U' H' oj (S.put oi.dst qi) qj) :
    ZM P ops U' H' oj S qj ∧ ZM P ops U H oi (S.put oj.dst qj) qi ∧ (S.put oi.dst qi).put oj.dst qj = (S.put oj.dst qj).put oi.dst qi := by
  obtain ⟨h1, h2, h3⟩ := Oper.apart_spec hap
  have evj : ∀ y ∈ oj.op.operands, (S.put oi.dst qi).ev y = S.ev y := fun y hy => S.ev_put _ _ y fun t ht e => h1 t ht (mem_looksAt_op (e ▸ hy))
  have evi : ∀ y ∈ oi.op.operands, (S.put oj.dst qj).ev y = S.ev y := fun y hy => S.ev_put _ _ y fun t ht e => h3 t ht (mem_looksAt_op (e ▸ hy))
  refine ⟨?_, ?_, S.put_comm qi qj h2⟩
  · cases hj with
    | pure hg h hq ho => exact .pure (guardS_put h1 ▸ hg) (fun hp hH => (h hp hH).congr evj) hq (fun y hy => evj y hy ▸ ho y hy)
    | skip hg => exact .skip (guardS_put h1 ▸ hg)
  · cases hi with
    | pure hg h hq ho => exact .pure ((guardS_put h3).symm ▸ hg) (fun hp hH => (h hp hH).congr fun y hy => (evi y hy).symm) hq (fun y hy => (evi y hy).symm ▸ ho y hy)
    | skip hg => exact .skip ((guardS_put h3).symm ▸ hg)

def keepsU (V : List (Nat × Nat)) (H : List Nat → List HO → Prop) (i : Nat) (hp hp' : List HO) : Prop := ∀ U, (∀ n, (i, n) ∈ V → n ∈ U) → FIN ∉ U → H U hp → H U hp'
def aStU (P : Program) (ops : Array Oper) (V : List (Nat × Nat)) (H : List Nat → List HO → Prop) (i : Nat) (K : St → Prop) (S : St) : Prop :=
  match ops[i]? with
  | none => K S
  | some o => (∃ q U, ZM P ops U (H U) o S q ∧ H U S.hp ∧ K (S.put o.dst q)) ∨ (guardS ops S.fr o = some true ∧ ∃ n hp' r, inVo V i n ∧ keepsU V H i S.hp hp' ∧ JStep P o S.ev S.hp n hp' r ∧ K (appJ S o n hp' r))
def aAnyU (P : Program) (ops : Array Oper) (V : List (Nat × Nat)) (H : List Nat → List HO → Prop) (K : St → Prop) : Nat → Array Bool → St → Prop
  | 0, listed, S => Region.ready .any ops listed = [] ∧ K S
  | n + 1, listed, S => (Region.ready .any ops listed = [] → K S) ∧ ∀ i ∈ Region.ready .any ops listed, aStU P ops V H i (aAnyU P ops V H K n (listed.setIfInBounds i true)) S

theorem wpAny_of_aAnyU {Q : Exit → Act → World → Prop} {w0 : Ini} (hK : ∀ S g ρ a w, K S → Rel w0 S g ρ a w → Q .normal a w) :
    ∀ (n : Nat) (listed : Array Bool) (S : St) (g : Ghost) (ρ : Nat → Loc) (a : Act) (w : World), aAnyU P ops V H K n listed S → Rel w0 S g ρ a w → wpAny P .any ops Q n listed a w
  | 0, _, S, g, ρ, a, w, h, hr => ⟨h.1, hK S g ρ a w h.2 hr⟩
  | n + 1, listed, S, g, ρ, a, w, h, hr => by
    refine ⟨fun h0 => hK S g ρ a w (h.1 h0) hr, fun i hi => ?_⟩
    have h1 := h.2 i hi
    unfold aStU at h1
    unfold wpOp
    split
    · rename_i ho
      simp only [ho] at h1
      exact wpAny_of_aAnyU hK n _ S g ρ a w h1 hr
    · rename_i o ho
      simp only [ho] at h1
      rcases h1 with ⟨q, _, hy, hH, h1⟩ | ⟨hg, m, hp', r, _, _, hj, h1⟩
      · cases hy with
        | pure hg hp hq hop =>
          rw [if_pos (guardS_spec hr hg)]
          left
          exact hp S.hp hH w0 g ρ w a hr.base (fun x _ => hr.ev x) Q _ fun v g' w' hx hb hv => wpAny_of_aAnyU hK n _ _ g' ρ _ w' h1 (hr.put hb hx hv o.dst)
        | skip hg =>
          rw [if_neg (by rw [guardS_spec hr hg]; simp)]
          exact wpAny_of_aAnyU hK n _ _ g ρ _ w h1 (hr.put hr.base (GExt.refl g) (.of_VR (.val undef)) o.dst)
      · rw [if_pos (guardS_spec hr hg)]
        left
        exact hj S.fr (fun _ _ => rfl) w0 g ρ a w hr Q _ fun g' ρ' a' w' _ hr' => wpAny_of_aAnyU hK n _ _ g' ρ' a' w' h1 hr'

theorem aAnyU_first {i : Nat} {oi : Oper} {qi : PV} (hi : ops[i]? = some oi) (hU : FIN ∉ U) : ∀ (fuel : Nat) (listed : Array Bool) (S : St),
    (∀ j oj, ops[j]? = some oj → j ≠ i → listed.getD j true = false → (∀ e ∈ oj.after, Region.binds .any e = true → e.on ≠ i) → oi.apart ops oj = true ∧ ∀ n, (j, n) ∈ V → n ∈ U) →
    i ∈ Region.ready .any ops listed → ZM P ops U (H U) oi S qi → H U S.hp → aAnyU P ops V H K fuel (listed.setIfInBounds i true) (S.put oi.dst qi) → aAnyU P ops V H K (fuel + 1) listed S := by
  intro fuel
  induction fuel with
  | zero =>
    intro listed S _ hr hy hH H
    refine ⟨fun h => (by rw [h] at hr; cases hr), fun j hj => ?_⟩
    by_cases hji : j = i
    · subst hji; unfold aStU; simp only [hi]; exact .inl ⟨_, _, hy, hH, H⟩
    · have := ready_mono hj hji
      rw [H.1] at this
      cases this
  | succ fuel ih =>
    intro listed S hfree hr hy hH H
    refine ⟨fun h => (by rw [h] at hr; cases hr), fun j hj => ?_⟩
    by_cases hji : j = i
    · subst hji; unfold aStU; simp only [hi]; exact .inl ⟨_, _, hy, hH, H⟩
    · have h1 := H.2 j (ready_mono hj hji)
      obtain ⟨hjun, oj, hoj, hall⟩ := mem_ready.1 hj
      have hnot : ∀ e ∈ oj.after, Region.binds .any e = true → e.on ≠ i := fun e he hb heq => by
        have h1 := hall e he hb
        have h0 := (mem_ready.1 hr).1
        rw [heq] at h1
        rcases Nat.lt_or_ge i listed.size with h' | h'
        · simp [h'] at h0 h1; rw [h0] at h1; cases h1
        · simp [Array.getElem?_eq_none h'] at h1
      have hfree' : ∀ k ok, ops[k]? = some ok → k ≠ i → (listed.setIfInBounds j true).getD k true = false →
          (∀ e ∈ ok.after, Region.binds .any e = true → e.on ≠ i) → oi.apart ops ok = true ∧ ∀ n, (k, n) ∈ V → n ∈ U := fun k ok hk hki hun hno => by
        refine hfree k ok hk hki ?_ hno
        by_cases hjk : j = k
        · subst hjk; exact hjun
        · rw [getD_set_ne true hjk] at hun; exact hun
      obtain ⟨hap, hVU⟩ := hfree j oj hoj hji hjun hnot
      unfold aStU at h1 ⊢
      simp only [hoj] at h1 ⊢
      rcases h1 with ⟨qj, Uj, hyj, hHj, hk⟩ | ⟨hg, m, hp', r, hn, hH', hjs, hk⟩
      · obtain ⟨c1, c2, c3⟩ := ZM.comm2 hap hy hyj
        rw [put_hp] at hHj
        refine .inl ⟨qj, Uj, c1, hHj, ih (listed.setIfInBounds j true) _ hfree' (ready_mono hr (Ne.symm hji)) c2 (by rw [put_hp]; exact hH) ?_⟩
        rw [Array.setIfInBounds_comm _ _ hji, ← c3]
        exact hk
      · obtain ⟨c0, c1, c2, c3⟩ := hy.commJ hap (inVo_U hn hVU) hg hjs
        rw [put_hp] at hH'
        refine .inr ⟨c0, m, hp', r, hn, hH', c1, ih (listed.setIfInBounds j true) _ hfree' (ready_mono hr (Ne.symm hji)) c2 (by unfold appJ; rw [put_hp]; exact hH' U hVU hU hH) ?_⟩
        rw [Array.setIfInBounds_comm _ _ hji, ← c3]
        exact hk

def OpsU (P : Program) (ops : Array Oper) (V : List (Nat × Nat)) (H : List Nat → List HO → Prop) (K : St → Prop) : List (Nat × Option (List Nat)) → St → Prop
  | [], S => K S
  | (i, some U) :: r, S => ∃ o q, ops[i]? = some o ∧ FIN ∉ U ∧ H U S.hp ∧ ZM P ops U (H U) o S q ∧ OpsU P ops V H K r (S.put o.dst q)
  | (i, none) :: r, S => ∃ o, ops[i]? = some o ∧ guardS ops S.fr o = some true ∧ ∃ n hp' q, inVo V i n ∧ keepsU V H i S.hp hp' ∧ JStep P o S.ev S.hp n hp' q ∧ OpsU P ops V H K r (appJ S o n hp' q)

theorem aAnyU_ord : ∀ (l : List (Nat × Option (List Nat))) (listed : Array Bool) (S : St), ordB ops V l listed = true → OpsU P ops V H K l S → aAnyU P ops V H K l.length listed S
  | [], _, _, hB, h => ⟨by simpa [ordB] using hB, h⟩
  | (i, some U) :: l, listed, S, hB, h => by
    simp only [ordB, Bool.and_eq_true] at hB
    obtain ⟨⟨⟨hr, hf⟩, hs⟩, hB'⟩ := hB
    obtain ⟨o, q, h0, hU, hH, hy, h⟩ := h
    exact aAnyU_first h0 hU l.length listed S (fun j oj h1 h2 h3 h4 => ⟨Region.free_spec h0 hf j oj h1 h2 h3 h4, standB_spec hs j oj h1 h2 h3 h4⟩) (by simpa using hr) hy hH (aAnyU_ord l _ _ hB' h)
  | (i, none) :: l, listed, S, hB, h => by
    simp only [ordB, Bool.and_eq_true] at hB
    obtain ⟨hr, hB'⟩ := hB
    have hr' : Region.ready .any ops listed = [i] := by simpa using hr
    obtain ⟨o, h0, hg, n, hp', q, hn, hH', hj, h⟩ := h
    refine ⟨fun e => (by rw [hr'] at e; cases e), fun j hjr => ?_⟩
    rw [hr', List.mem_singleton] at hjr
    subst hjr
    unfold aStU
    simp only [h0]
    exact .inr ⟨hg, n, hp', q, hn, hH', hj, aAnyU_ord l _ _ hB' h⟩

theorem g_region_drawU {id : Nat} {l : List Oper} {K : Exit → St → Prop} {S : St} (ord : List (Nat × Option (List Nat))) (V : List (Nat × Nat)) (H : List Nat → List HO → Prop) (hm : P.follows .mixedOrders = true) (hl : ord.length = l.length) (hB : ordB l.toArray V ord (Array.replicate l.length false) = true)
    (h : OpsU P l.toArray V H (K .normal) ord S) : Goal P (.region id l.toArray true) K S := fun w0 g ρ a w Q hr hQ => by
  refine wp_region_any hm (wpAny_of_aAnyU (K := K .normal) (V := V) (H := H) (fun S' g' ρ' a' w' hk hr' => hQ .normal S' g' ρ' a' w' hk hr') _ _ S g ρ a _ ?_ hr.drew)
  have := aAnyU_ord (P := P) (V := V) (H := H) (K := K .normal) ord (Array.replicate l.length false) S hB h
  rw [hl] at this
  simpa using this
end

section
variable {P : Program} {ops : Array Oper} {U : List Nat} {V : List (Nat × Nat)} {K : St → Prop} {H : List Nat → List HO → Prop} {o : Oper} {i : Nat} {r : List (Nat × Option (List Nat))} {S : St}
theorem u_nil (hk : K S) : OpsU P ops V H K [] S := hk
theorem u_pure {l : List Oper} {q : PV} (h0 : l[i]? = some o) (hg : guardS l.toArray S.fr o = some true) (h : ∀ hp, H U hp → PStep P o S.ev hp q) (hq : okU U q) (ho : ∀ y ∈ o.op.operands, okU U (S.ev y)) (hU : FIN ∉ U) (hH : H U S.hp) (hk : ∃ S', S.put o.dst q = S' ∧ OpsU P l.toArray V H K r S') : OpsU P l.toArray V H K ((i, some U) :: r) S :=
  hk.elim fun _ h' => ⟨o, q, by simpa using h0, hU, hH, .pure hg h hq ho, h'.1 ▸ h'.2⟩
theorem u_eff {l : List Oper} {n : Option Nat} {hp' : List HO} {q : PV} (h0 : l[i]? = some o) (hg : guardS l.toArray S.fr o = some true) (hn : inVo V i n) (h : JStep P o S.ev S.hp n hp' q) (hH : keepsU V H i S.hp hp') (hk : ∃ S', appJ S o n hp' q = S' ∧ OpsU P l.toArray V H K r S') : OpsU P l.toArray V H K ((i, none) :: r) S :=
  hk.elim fun _ h' => ⟨o, by simpa using h0, hg, n, hp', q, hn, hH, h, h'.1 ▸ h'.2⟩
end
end Go.Pv
