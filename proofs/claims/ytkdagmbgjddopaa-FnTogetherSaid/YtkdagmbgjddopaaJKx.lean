/- Plain: the list of all congruences, as the reference grows it. -/
import Derived.Test.YtkdagmbgjddopaaJKg
import Derived.Test.YtkdagmbgjddopaaJNb
import Derived.Test.YtkdagmbgjddopaaJPr
import Derived.Test.YtkdagmbgjddopaaJKo
import Derived.Test.YtkdagmbgjddopaaJGb
import Derived.Test.YtkdagmbgjddopaaJKc
namespace Go.Proofs.Ytkdagmbgjddopaa
open Go Go.Pv Go.Proofs

def prPairs (n : Nat) : List (Nat × Nat) := (List.range n).flatMap fun x => (List.range x).map fun y => (x, y)
def prinF (n : Nat) (ops : List OpD) (L : List (List Int)) (xy : Nat × Nat) : List (List Int) := putC n L (cgL n ops xy.1 xy.2)
def prinL (n : Nat) (ops : List OpD) : List (List Int) := (prPairs n).foldl (prinF n ops) []
theorem prinF_mem {n : Nat} {ops : List OpD} : ∀ (P : List (Nat × Nat)) (L : List (List Int)) (q : List Int), q ∈ P.foldl (prinF n ops) L ↔ q ∈ L ∨ ∃ xy ∈ P, q = cgL n ops xy.1 xy.2
  | [], L, q => by simp
  | xy :: P, L, q => by
    rw [List.foldl_cons, prinF_mem P, prinF, putC_mem, or_assoc]
    simp only [List.mem_cons]
    constructor
    · rintro (h | h | ⟨xy', h, e⟩)
      · exact .inl h
      · exact .inr ⟨xy, .inl rfl, h⟩
      · exact .inr ⟨xy', .inr h, e⟩
    · rintro (h | ⟨xy', rfl | h, e⟩)
      · exact .inl h
      · exact .inr (.inl e)
      · exact .inr (.inr ⟨xy', h, e⟩)
theorem prin_Q (n : Nat) (ops : List OpD) : PrQ n ops (prinL n ops) := by
  have hm : ∀ q, q ∈ prinL n ops ↔ ∃ xy ∈ prPairs n, q = cgL n ops xy.1 xy.2 := fun q => by
    unfold prinL; rw [prinF_mem]; simp
  have hp : ∀ x y, (x, y) ∈ prPairs n ↔ x < n ∧ y < x := fun x y => by
    unfold prPairs
    simp only [List.mem_flatMap, List.mem_range, List.mem_map, Prod.mk.injEq]
    constructor
    · rintro ⟨a, ha, b, hb, rfl, rfl⟩; exact ⟨ha, hb⟩
    · rintro ⟨ha, hb⟩; exact ⟨x, ha, y, hb, rfl, rfl⟩
  refine ⟨fun q hq => ?_, fun x y hx hy => (hm _).2 ⟨(y, x), (hp _ _).2 ⟨hy, hx⟩, cg_comm ..⟩⟩
  obtain ⟨⟨x, y⟩, h, e⟩ := (hm q).1 hq
  obtain ⟨h1, h2⟩ := (hp _ _).1 h
  exact ⟨y, x, h2, h1, by rw [e]; exact cg_comm ..⟩
theorem prin_len {n : Nat} {ops : List OpD} : ∀ (P : List (Nat × Nat)) (L : List (List Int)), (P.foldl (prinF n ops) L).length ≤ L.length + P.length
  | [], L => by simp
  | xy :: P, L => by
    rw [List.foldl_cons]
    have h1 := prin_len (n := n) (ops := ops) P (prinF n ops L xy)
    have h2 : (prinF n ops L xy).length ≤ L.length + 1 := by
      unfold prinF putC
      split
      · omega
      · have := posC_le n (cgL n ops xy.1 xy.2) L
        simp [List.length_take, List.length_drop]; omega
    rw [List.length_cons]; omega
/-! ### The run -/
abbrev MSt := List (List Int) × List (List Int)
section
variable (n most : Nat) (Q : List (List Int))
def mStep (p : List Int) (st : MSt) (q : List Int) : MSt := if st.1.length ≤ most then (if joinP n p q ∈ st.1 then st else (putC n st.1 (joinP n p q), st.2 ++ [joinP n p q])) else st
def mInn (p : List Int) (st : MSt) (k : Nat) : MSt := (Q.take k).foldl (mStep n most p) st
def mRun : Nat → MSt
  | 0 => ([idL n], [idL n])
  | k + 1 => if k < (mRun k).2.length ∧ (mRun k).1.length ≤ most then mInn n most Q ((mRun k).2.getD k []) (mRun k) Q.length else mRun k
variable {n most Q}
theorem mInn_succ {p : List Int} {st : MSt} {k : Nat} (hk : k < Q.length) : mInn n most Q p st (k + 1) = mStep n most p (mInn n most Q p st k) (Q.getD k []) := by
  unfold mInn; rw [take_snoc [] hk, List.foldl_append]; rfl
structure MInv (ops : List OpD) (st : MSt) : Prop where
  asc : AscC n st.1
  inv : JInv n ops st.2
  mem : ∀ q, q ∈ st.1 ↔ q ∈ st.2
  len : st.1.length = st.2.length
  le : st.1.length ≤ most + 1
variable {ops : List OpD}
theorem MInv.start : MInv (n := n) (most := most) ops ([idL n], [idL n]) := ⟨by simp [AscC], .start n ops, fun _ => Iff.rfl, rfl, by simp⟩
theorem mStep_inv (ho : opsIn n ops) (hQ : PrQ n ops Q) {st : MSt} (h : MInv (n := n) (most := most) ops st) {p q : List Int} (hp : p ∈ st.2) (hq : q ∈ Q) :
    MInv (n := n) (most := most) ops (mStep n most p st q) ∧ (∃ l, (mStep n most p st q).2 = st.2 ++ l) ∧ (st.1.length ≤ most → joinP n p q ∈ (mStep n most p st q).2) := by
  unfold mStep
  split
  · next hle =>
    split
    · next hm => exact ⟨h, ⟨[], (List.append_nil _).symm⟩, fun _ => (h.mem _).1 hm⟩
    · next hm =>
      have hno : joinP n p q ∉ st.2 := fun e => hm ((h.mem _).2 e)
      refine ⟨⟨putC_asc h.asc, h.inv.add (h.inv.join hQ ho hp hq) hno, fun r => ?_, ?_, ?_⟩, ⟨[joinP n p q], rfl⟩, fun _ => by simp⟩
      · rw [putC_mem, List.mem_append, List.mem_singleton, h.mem]
      · rw [putC_len hm, List.length_append, h.len]; rfl
      · show (putC n st.1 _).length ≤ _
        rw [putC_len hm]; omega
  · next hle => exact ⟨h, ⟨[], (List.append_nil _).symm⟩, fun h => absurd h hle⟩
theorem mInn_inv (ho : opsIn n ops) (hQ : PrQ n ops Q) {st : MSt} (h : MInv (n := n) (most := most) ops st) {p : List Int} (hp : p ∈ st.2) : ∀ k, k ≤ Q.length →
    MInv (n := n) (most := most) ops (mInn n most Q p st k) ∧ (∃ l, (mInn n most Q p st k).2 = st.2 ++ l) ∧ ((mInn n most Q p st k).1.length ≤ most → ∀ i, i < k → joinP n p (Q.getD i []) ∈ (mInn n most Q p st k).2)
  | 0, _ => ⟨h, ⟨[], (List.append_nil _).symm⟩, fun _ i hi => absurd hi (Nat.not_lt_zero _)⟩
  | k + 1, hk => by
    obtain ⟨h1, ⟨l, h2⟩, h3⟩ := mInn_inv ho hQ h hp k (by omega)
    have hq : Q.getD k [] ∈ Q := by rw [List.getD_eq_getElem?_getD, List.getElem?_eq_getElem (by omega)]; exact List.getElem_mem _
    have hp' : p ∈ (mInn n most Q p st k).2 := by rw [h2]; exact List.mem_append.2 (.inl hp)
    rw [mInn_succ (by omega)]
    obtain ⟨g1, ⟨m, g2⟩, g3⟩ := mStep_inv ho hQ h1 hp' hq
    refine ⟨g1, ⟨l ++ m, by rw [g2, h2, List.append_assoc]⟩, fun hle i hi => ?_⟩
    have hmono : (mInn n most Q p st k).1.length ≤ most := by
      have : (mInn n most Q p st k).2.length ≤ (mStep n most p (mInn n most Q p st k) (Q.getD k [])).2.length := by rw [g2]; simp
      rw [← h1.len, ← g1.len] at this; omega
    rcases Nat.lt_or_ge i k with hlt | hge
    · rw [g2]; exact List.mem_append.2 (.inl (h3 hmono i hlt))
    · rw [show i = k by omega]; exact g3 hmono
theorem mRun_inv (ho : opsIn n ops) (hQ : PrQ n ops Q) : ∀ k, MInv (n := n) (most := most) ops (mRun n most Q k) ∧ ((mRun n most Q k).1.length ≤ most → ∀ j, j < k → j < (mRun n most Q k).2.length → ∀ q ∈ Q, joinP n ((mRun n most Q k).2.getD j []) q ∈ (mRun n most Q k).2)
  | 0 => ⟨.start, fun _ j hj => absurd hj (Nat.not_lt_zero _)⟩
  | k + 1 => by
    obtain ⟨h1, h2⟩ := mRun_inv ho hQ k
    rw [mRun]
    split
    · next hc =>
      have hp : (mRun n most Q k).2.getD k [] ∈ (mRun n most Q k).2 := by rw [List.getD_eq_getElem?_getD, List.getElem?_eq_getElem hc.1]; exact List.getElem_mem _
      obtain ⟨g1, ⟨l, g2⟩, g3⟩ := mInn_inv ho hQ h1 hp Q.length (Nat.le_refl _)
      refine ⟨g1, fun hle j hj hjl q hq => ?_⟩
      have hat : ∀ i, i < (mRun n most Q k).2.length → (mInn n most Q ((mRun n most Q k).2.getD k []) (mRun n most Q k) Q.length).2.getD i [] = (mRun n most Q k).2.getD i [] := fun i hi => by
        rw [g2, List.getD_eq_getElem?_getD, List.getElem?_append_left hi, List.getD_eq_getElem?_getD]
      obtain ⟨i, hi, rfl⟩ := List.getElem_of_mem hq
      rcases Nat.lt_or_ge j k with hlt | hge
      · rw [hat j (by omega), g2]
        exact List.mem_append.2 (.inl (h2 hc.2 j hlt (by omega) _ hq))
      · rw [show j = k by omega, hat k hc.1]
        have := g3 hle i hi
        have e : Q.getD i [] = Q[i] := by rw [List.getD_eq_getElem?_getD, List.getElem?_eq_getElem hi]; rfl
        rwa [e] at this
    · next hc =>
      refine ⟨h1, fun hle j hj hjl q hq => ?_⟩
      have : ¬ k < (mRun n most Q k).2.length := fun h => hc ⟨h, hle⟩
      exact h2 hle j (by omega) hjl q hq
theorem mRun_stay {k : Nat} (h : ¬ (k < (mRun n most Q k).2.length ∧ (mRun n most Q k).1.length ≤ most)) : ∀ m, mRun n most Q (k + m) = mRun n most Q k
  | 0 => rfl
  | m + 1 => by
    have ih := mRun_stay h m
    rw [← Nat.add_assoc, mRun, ih, if_neg (fun h' => h ⟨by omega, h'.2⟩)]
theorem mRun_end (ho : opsIn n ops) (hQ : PrQ n ops Q) {k : Nat} (h : ¬ (k < (mRun n most Q k).2.length ∧ (mRun n most Q k).1.length ≤ most)) : mRun n most Q k = mRun n most Q (most + 2) := by
  rcases Nat.lt_or_ge k (most + 2) with hlt | hge
  · have := mRun_stay h (most + 2 - k)
    rw [show k + (most + 2 - k) = most + 2 by omega] at this
    exact this.symm
  · have hI := (mRun_inv (most := most) ho hQ (most + 2)).1
    have := mRun_stay (n := n) (most := most) (Q := Q) (k := most + 2) (fun h' => by have := hI.len; have := hI.le; omega) (k - (most + 2))
    rwa [show most + 2 + (k - (most + 2)) = k by omega] at this
end
def mostV (n : Nat) (ops : List OpD) (most : Nat) : List (List Int) := (mRun n most (prinL n ops) (most + 2)).1
theorem mostV_inv {n most : Nat} {ops : List OpD} (ho : opsIn n ops) : AscC n (mostV n ops most) ∧ (∀ q ∈ mostV n ops most, Pt n q ∧ Cong n ops q) ∧ (mostV n ops most).length ≤ most + 1 ∧ ((mostV n ops most).length ≤ most → mostV n ops most = allL n ops) := by
  obtain ⟨h1, h2⟩ := mRun_inv (most := most) ho (prin_Q n ops) (most + 2)
  have hl := h1.len
  have hle := h1.le
  refine ⟨h1.asc, fun q hq => h1.inv.ok q ((h1.mem q).1 hq), h1.le, fun hm => ?_⟩
  refine AllC.eq ⟨h1.asc, fun q => ?_⟩
  refine (h1.mem q).trans (j_all h1.inv (prin_Q n ops) ho (fun p hp q hq => ?_) q)
  obtain ⟨i, hi, rfl⟩ := List.getElem_of_mem hp
  have := h2 hm i (by omega) hi q hq
  have e : ∀ L : List (List Int), ∀ hi : i < L.length, L.getD i [] = L[i] := fun L hi => by rw [List.getD_eq_getElem?_getD, List.getElem?_eq_getElem hi]; rfl
  rwa [e _ hi] at this
end Go.Proofs.Ytkdagmbgjddopaa
/- The layer: an entry of a map's literal. -/
namespace Go.Pv
open Go Go.MapKept
attribute [local semireducible] Go.Pv.Goal Go.Pv.PStep Go.Pv.EStep Go.Pv.KRets Go.Pv.PCalls Go.Pv.Ops Go.Pv.OpsG
section
variable {P : Program} {o : Oper} {S : St}
theorem e_mapInsert {t kt e : TypeId} {z : Value} [ht : MapT P t kt e z] {x y v : Operand} {b id : Nat} {l : List (ByteArray × PV)} {k : ByteArray} {p : PV} (ho : o.op = .insert t x y v) (hd : o.dst = none) (h1 : S.ev x = .val (.map (some b))) (hh : S.hp[id]? = some (.mp b l)) (h2 : S.ev y = .val (.string k)) (h3 : view S.hp (S.ev v) = p) :
    EStep P o S ⟨S.fr, S.hp.set id (.mp b (mpPut l k p))⟩ := by
  intro w0 g ρ a w hr Q K hK
  have e1 := val_of (hr.ev x) h1
  have e2 := val_of (hr.ev y) h2
  have ev3 := hr.base.view (hr.ev v)
  rw [h3] at ev3
  obtain ⟨es, cl, hm⟩ := hr.base.own id _ hh
  have hkey : IsKey .string (.string k) := trivial
  have hck : (Instr.checkKey false 10000 kt (.string k)).run P w = .ok () w := run_checkKey ht.hk hkey _ 9999
  have hsame : ∀ (l' : List (ByteArray × PV)) (v : Value) (p : PV), VRS1 g ρ S.hp v p → VRS1 g ρ (S.hp.set id (.mp b l')) v p := fun l' v p h => same_set hh (fun _ _ _ _ h => by cases h) (fun _ _ _ h => by cases h) (fun _ _ _ _ h => by cases h) (GExt.refl g) h
  have fin : ∀ (es' : Array MapEntry) (cl' : Nat) (l' : List (ByteArray × PV)), (Instr.mapUpdate t (.map (some b)) (.string k) (a.eval v)).run P w = .ok () { w with heap := w.heap.setIfInBounds b (.map es' cl') } → MpRel g es'.toList l' → mpPut l k p = l' → o.wp P a w K Q := fun es' cl' l' hrun hrel hl => by
    have hbase := hr.base.upd hh (x' := .mp b l') (ρ id) (GExt.refl g) _root_.id (by rw [upd_id, map_mapHO_id]; exact hsame l') (hr.base.agree.setB hm.hg hm.hw (y := .map es' cl')) (hr.base.below.setB hm.hB hm.hw) (fun _ _ _ => rfl)
      (by rw [upd_id, map_mapHO_id]; exact ⟨es', cl', hm.hblk, hm.hB, (heap_set hm.hw).1, hrel, hm.hg⟩) (fun b' hb' => .inl hb')
      (fun b' hb' hnf => ⟨(heap_set hm.hw).2 b' (fun e => hnf (by rw [e]; exact hm.hblk.symm)), fun _ => rfl⟩)
    rw [upd_id, map_mapHO_id] at hbase
    unfold Oper.wp
    simp only [execOp, ho, e1, e2]
    have hrun' : (do Instr.mapUpdate t (.map (some b)) (.string k) (a.eval v); pure Next.skip : Sem Next).run P w = .ok .skip { w with heap := w.heap.setIfInBounds b (.map es' cl') } := by
      rw [Sem.run_bind, hrun]; rfl
    rw [hrun']
    simp only [Oper.upon, hd]
    rw [hl] at hK
    exact hK g ρ a _ (GExt.refl g) (hr.same hbase (hsame l'))
  rcases findNow_mp k 0 hm.hk with ⟨q1, -, q3⟩ | ⟨j, en, p', q1, q2, q3, -, -, -, q7⟩
  · refine fin (es.push { key := .string k, val := a.eval v, born := cl }) (cl + 1) (l ++ [(k, p)]) ?_ ?_ (q3 p)
    · unfold Instr.mapUpdate
      simp [run_underlying ht.hu, Go.MapKept.run_getObj_map hm.hw, hck, Go.MapKept.run_findKey ht.hk q1, Go.MapKept.run_setObj_map _ hm.hw, Result.andThen]
    · rw [Array.toList_push]
      exact hm.hk.snoc rfl ev3
  · have hj : es[j]? = some en := by simpa using q2
    refine fin (es.modify j fun e => { e with key := .string k, val := a.eval v }) cl (l.set j (k, p)) ?_ ?_ (q7 p)
    · unfold Instr.mapUpdate
      simp [run_underlying ht.hu, Go.MapKept.run_getObj_map hm.hw, hck, Go.MapKept.run_findKey ht.hk q1, Go.MapKept.run_setObj_map _ hm.hw, Result.andThen, hj, q3, run_keyThatStays (P := P) (w := w) hkey]
    · have : (es.modify j fun e => { e with key := .string k, val := a.eval v }).toList = es.toList.set j { en with key := .string k, val := a.eval v } := by
        apply List.ext_getElem?
        intro i
        rw [Array.getElem?_toList, Array.getElem?_modify, List.getElem?_set, Array.getElem?_toList]
        by_cases e : j = i
        · subst e
          have hlt : j < es.toList.length := (List.getElem?_eq_some_iff.1 q2).1
          have hlt' : j < es.size := by simpa using hlt
          have hje : es[j] = en := by simpa [Array.getElem?_eq_getElem hlt'] using hj
          simp [hlt', hje]
        · simp [e]
      rw [this]
      exact MpRel.set (e := { en with key := .string k, val := a.eval v }) rfl ev3 j hm.hk
end
end Go.Pv
/- The layer: the bytes of a text. -/
namespace Go.Pv
open Go
attribute [local semireducible] Go.Pv.Goal Go.Pv.Ops Go.Pv.PStep Go.Pv.EStep Go.Pv.KRets Go.Pv.PCalls Go.Pv.OpsG
section
variable {P : Program} {o : Oper} {ev : Operand → PV} {hp : List HO}
abbrev strP (s : ByteArray) : PV := .val (.string s)
def byteAt (s : ByteArray) (i : Nat) : Int := match s[i]? with
  | some b => (b.toNat : Int)
  | none => 0
theorem ps_len_str {t : TypeId} {x : Operand} {s : ByteArray} {tys : Array TypeId} (hu : P.underlying t = some .string) (ho : o.op = .call { callee := .builtin .len, args := #[x], argTypes := tys }) (htys : tys = #[t]) (h1 : ev x = strP s) : PStep P o ev hp (I s.size) :=
  .of_run fun w0 g ρ w av hb hx => by
    subst htys
    have e1 := val_of (hx x (by simp [ho, Op.operands, Call.operands])) h1
    exact ⟨.int .i64 s.size, by simp [execOp, ho, resolve, invoke, builtin, Builtin.len_, e1, run_underlying hu, goInt, go_sem], .val _⟩
theorem ps_index_str {t : TypeId} {x ix : Operand} {s : ByteArray} {i : Int} (hu : P.underlying t = some .string) (ho : o.op = .index t x ix) (h1 : ev x = strP s) (h2 : ev ix = I i) (h0 : 0 ≤ i) (hq : i.toNat < s.size) : PStep P o ev hp (Y (byteAt s i.toNat)) :=
  .of_run fun w0 g ρ w av hb hx => by
    have e1 := val_of (hx x (by simp [ho, Op.operands])) h1
    have e2 := val_of (hx ix (by simp [ho, Op.operands])) h2
    have e3 : s[i.toNat]? = some s[i.toNat] := getElem?_pos s i.toNat hq
    refine ⟨.int .u8 (byteAt s i.toNat), ?_, .val _⟩
    unfold byteAt
    rw [e3]
    simp [execOp, ho, e1, e2, Instr.index, asIntOf, run_underlying hu, h0, e3, go_sem]
theorem ps_subY {t rt : TypeId} {x y : Operand} {a b : Int} (ho : o.op = .binOp .sub t x y rt) (h1 : ev x = Y a) (h2 : ev y = Y b) : PStep P o ev hp (Y (IntKind.u8.wrap (a - b))) := ps_bin ho h1 h2 fun w => by simp [go_sem]
end
end Go.Pv
/- Walks: the ternary term functions of a small algebra, on both sides, with what is known of them. -/
namespace Go.Proofs.Ytkdagmbgjddopaa
open Go Go.Pv Go.Proofs
structure CT (n : Nat) (ops : List OpD) (T : List (List Int)) : Prop where
  n0 : 0 < n
  n3 : n ≤ 3
  ops4 : ops.length ≤ 4
  op : ∀ f ∈ ops, opOk n f = true
  len0 : 0 < T.length
  len : T.length ≤ 60
  row : ∀ t ∈ T, t.length = n ^ 3 ∧ ∀ x ∈ t, 0 ≤ x ∧ x < (n : Int)
  nd : T.Nodup
  prj : ∀ p, p < 3 → prjL n 3 p ∈ T
  clo : closedT n (n ^ 3) ops T T.length
theorem CT.lenOk {n : Nat} {ops : List OpD} {T : List (List Int)} (h : CT n ops T) : lenOk T := ⟨by have := h.len; omega, fun t ht => by
  have h27 : n ^ 3 ≤ 27 := Nat.pow_le_pow_left h.n3 3
  rw [(h.row t ht).1]; omega⟩
end Go.Proofs.Ytkdagmbgjddopaa
/- Walks: operations that the law owns, with their rows: made, marked. -/
namespace Go.Proofs.Ytkdagmbgjddopaa
open Go Go.Pv Go.Proofs

abbrev rowO (f : OpD) : List Int := f.ar :: f.tb
abbrev rowsO (L : List OpD) : List (List Int) := L.map rowO
abbrev sgI (rows : List (List Int)) : HO := .sg 79 3 0 (rows.map fun r => r.map I)
theorem rowsO_view (L : List OpD) : (PV.sl 2 none (((rowsO L).map fun r => r.map I).map sgP)) = opsP L := by
  rw [List.map_map, List.map_map]; rfl
theorem le_algG (n : Int) (L : List OpD) : (PV.agg [I n, PV.sl 2 none (((rowsO L).map fun r => r.map I).map sgP)]).le (algP n L) := by rw [rowsO_view]; exact PV.le_refl _
end Go.Proofs.Ytkdagmbgjddopaa
