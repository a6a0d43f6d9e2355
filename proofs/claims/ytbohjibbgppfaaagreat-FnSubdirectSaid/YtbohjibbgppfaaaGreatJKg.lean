/- Plain: there is a list of all congruences, and on few elements it is short. -/
import Derived.Test.YtbohjibbgppfaaaGreatJKd
import Derived.Test.YtbohjibbgppfaaaGreatJZb
set_option linter.unusedSectionVars false
namespace Go.Proofs.YtbohjibbgppfaaaGreat
open Go Go.Pv Go.Proofs

def ptAll : Nat → List (List Int)
  | 0 => [[]]
  | k + 1 => (ptAll k).flatMap fun l => (List.range (k + 1)).map fun (v : Nat) => l ++ [(v : Int)]
theorem sum_const {α : Type} (c : Nat) : ∀ l : List α, (l.map fun _ => c).sum = l.length * c
  | [] => by simp
  | a :: l => by rw [List.map_cons, List.sum_cons, sum_const c l, List.length_cons, Nat.add_mul]; omega
theorem ptAll_len (k : Nat) : (ptAll (k + 1)).length = (ptAll k).length * (k + 1) := by
  show ((ptAll k).flatMap _).length = _
  rw [List.length_flatMap]
  simp only [List.length_map, List.length_range]
  exact sum_const _ _
theorem ptAll_0 : (ptAll 0).length = 1 := rfl
theorem ptAll_mem : ∀ (k : Nat) (l : List Int), l.length = k → (∀ x, x < k → 0 ≤ l.getD x 0 ∧ l.getD x 0 ≤ (x : Int)) → l ∈ ptAll k
  | 0, l, h, _ => by rw [List.length_eq_zero_iff.1 h]; exact List.mem_singleton.2 rfl
  | k + 1, l, h, hb => by
    obtain ⟨m, v, rfl⟩ : ∃ m v, l = m ++ [v] := ⟨l.dropLast, l.getLast (by intro e; rw [e] at h; simp at h), (List.dropLast_concat_getLast _).symm⟩
    have hm : m.length = k := by simpa using h
    have hlow : ∀ x, x < k → (m ++ [v]).getD x 0 = m.getD x 0 := fun x hx => by
      rw [List.getD_eq_getElem?_getD, List.getElem?_append_left (by omega), List.getD_eq_getElem?_getD]
    have hv : (m ++ [v]).getD k 0 = v := by
      rw [List.getD_eq_getElem?_getD, List.getElem?_append_right (by omega), hm, Nat.sub_self]; rfl
    have h2 := hb k (by omega)
    rw [hv] at h2
    refine List.mem_flatMap.2 ⟨m, ptAll_mem k m hm fun x hx => by have := hb x (by omega); rwa [hlow x hx] at this, List.mem_map.2 ⟨v.toNat, List.mem_range.2 (by omega), ?_⟩⟩
    rw [show ((v.toNat : Nat) : Int) = v by omega]
theorem pt_ptAll {n : Nat} {p : List Int} (h : Pt n p) : p ∈ ptAll n := ptAll_mem n p h.len fun x hx => ⟨h.nn x hx, by have := h.le x hx; rw [h.val hx]; omega⟩
theorem pt_few {n : Nat} (hn : n ≤ 5) {L : List (List Int)} (hd : L.Nodup) (h : ∀ q ∈ L, Pt n q) : L.length ≤ 120 := by
  refine Nat.le_trans (len_le_sub hd fun q hq => pt_ptAll (h q hq)) ?_
  have : n = 0 ∨ n = 1 ∨ n = 2 ∨ n = 3 ∨ n = 4 ∨ n = 5 := by omega
  rcases this with rfl | rfl | rfl | rfl | rfl | rfl <;> simp only [ptAll_len, ptAll_0, Nat.reduceMul, Nat.reduceAdd] <;> decide
theorem foldPut {n : Nat} : ∀ (M L : List (List Int)), AscC n L → AscC n (M.foldl (putC n) L) ∧ ∀ q, q ∈ M.foldl (putC n) L ↔ q ∈ L ∨ q ∈ M
  | [], L, h => ⟨h, fun q => by simp⟩
  | p :: M, L, h => by
    obtain ⟨h1, h2⟩ := foldPut M (putC n L p) (putC_asc h)
    refine ⟨h1, fun q => ?_⟩
    rw [List.foldl_cons, h2, putC_mem, List.mem_cons, or_assoc]
open Classical in
theorem allC_ex (n : Nat) (ops : List OpD) : ∃ L, AllC n ops L := by
  obtain ⟨h1, h2⟩ := foldPut (n := n) ((ptAll n).filter fun q => decide (Pt n q ∧ Cong n ops q)) [] List.Pairwise.nil
  refine ⟨_, h1, fun q => ?_⟩
  rw [h2, List.mem_filter, decide_eq_true_eq]
  constructor
  · rintro (h | h)
    · cases h
    · exact h.2
  · exact fun h => .inr ⟨pt_ptAll h.1, h⟩
noncomputable def allL (n : Nat) (ops : List OpD) : List (List Int) := (allC_ex n ops).choose
theorem allL_all (n : Nat) (ops : List OpD) : AllC n ops (allL n ops) := (allC_ex n ops).choose_spec
theorem AllC.eq {n : Nat} {ops : List OpD} {L : List (List Int)} (h : AllC n ops L) : L = allL n ops := h.unique (allL_all n ops)
theorem allL_mem {n : Nat} {ops : List OpD} {q : List Int} : q ∈ allL n ops ↔ Pt n q ∧ Cong n ops q := (allL_all n ops).2 q
theorem allL_few {n : Nat} (hn : n ≤ 5) (ops : List OpD) : (allL n ops).length ≤ 120 := pt_few hn (ascC_nodup (allL_all n ops).1) fun q hq => (allL_mem.1 hq).1
end Go.Proofs.YtbohjibbgppfaaaGreat
/- Plain: the list of all congruences, as the reference grows it. -/
namespace Go.Proofs.YtbohjibbgppfaaaGreat
open Go Go.Pv Go.Proofs

def prPairs (n : Nat) : List (Nat × Nat) := (List.range n).flatMap fun x => (List.range x).map fun y => (x, y)
def prinF (n : Nat) (ops : List OpD) (L : List (List Int)) (xy : Nat × Nat) : List (List Int) := putC n L (cgL n ops xy.1 xy.2)
def prinL (n : Nat) (ops : List OpD) : List (List Int) := (prPairs n).foldl (prinF n ops) []
theorem prinF_mem {n : Nat} {ops : List OpD} : ∀ (P : List (Nat × Nat)) (L : List (List Int)) (q : List Int), q ∈ P.foldl (prinF n ops) L ↔ q ∈ L ∨ ∃ xy ∈ P, q = cgL n ops xy.1 xy.2
  | [], L, q => by simp
  | xy :: P, L, q => by
    rw [List.foldl_cons, prinF_mem P, prinF, putC_mem, or_assoc]
    simp only [List.mem_cons]
    constructor
    · rintro (h | h | ⟨xy', h, e⟩)
      · exact .inl h
      · exact .inr ⟨xy, .inl rfl, h⟩
      · exact .inr ⟨xy', .inr h, e⟩
    · rintro (h | ⟨xy', rfl | h, e⟩)
      · exact .inl h
      · exact .inr (.inl e)
      · exact .inr (.inr ⟨xy', h, e⟩)
theorem prin_Q (n : Nat) (ops : List OpD) : PrQ n ops (prinL n ops) := by
  have hm : ∀ q, q ∈ prinL n ops ↔ ∃ xy ∈ prPairs n, q = cgL n ops xy.1 xy.2 := fun q => by
    unfold prinL; rw [prinF_mem]; simp
  have hp : ∀ x y, (x, y) ∈ prPairs n ↔ x < n ∧ y < x := fun x y => by
    unfold prPairs
    simp only [List.mem_flatMap, List.mem_range, List.mem_map, Prod.mk.injEq]
    constructor
    · rintro ⟨a, ha, b, hb, rfl, rfl⟩; exact ⟨ha, hb⟩
    · rintro ⟨ha, hb⟩; exact ⟨x, ha, y, hb, rfl, rfl⟩
  refine ⟨fun q hq => ?_, fun x y hx hy => (hm _).2 ⟨(y, x), (hp _ _).2 ⟨hy, hx⟩, cg_comm ..⟩⟩
  obtain ⟨⟨x, y⟩, h, e⟩ := (hm q).1 hq
  obtain ⟨h1, h2⟩ := (hp _ _).1 h
  exact ⟨y, x, h2, h1, by rw [e]; exact cg_comm ..⟩
theorem prin_len {n : Nat} {ops : List OpD} : ∀ (P : List (Nat × Nat)) (L : List (List Int)), (P.foldl (prinF n ops) L).length ≤ L.length + P.length
  | [], L => by simp
  | xy :: P, L => by
    rw [List.foldl_cons]
    have h1 := prin_len (n := n) (ops := ops) P (prinF n ops L xy)
    have h2 : (prinF n ops L xy).length ≤ L.length + 1 := by
      unfold prinF putC
      split
      · omega
      · have := posC_le n (cgL n ops xy.1 xy.2) L
        simp [List.length_take, List.length_drop]; omega
    rw [List.length_cons]; omega
/-! ### The run -/
abbrev MSt := List (List Int) × List (List Int)
section
variable (n most : Nat) (Q : List (List Int))
def mStep (p : List Int) (st : MSt) (q : List Int) : MSt := if st.1.length ≤ most then (if joinP n p q ∈ st.1 then st else (putC n st.1 (joinP n p q), st.2 ++ [joinP n p q])) else st
def mInn (p : List Int) (st : MSt) (k : Nat) : MSt := (Q.take k).foldl (mStep n most p) st
def mRun : Nat → MSt
  | 0 => ([idL n], [idL n])
  | k + 1 => if k < (mRun k).2.length ∧ (mRun k).1.length ≤ most then mInn n most Q ((mRun k).2.getD k []) (mRun k) Q.length else mRun k
variable {n most Q}
theorem mInn_succ {p : List Int} {st : MSt} {k : Nat} (hk : k < Q.length) : mInn n most Q p st (k + 1) = mStep n most p (mInn n most Q p st k) (Q.getD k []) := by
  unfold mInn; rw [take_snoc [] hk, List.foldl_append]; rfl
structure MInv (ops : List OpD) (st : MSt) : Prop where
  asc : AscC n st.1
  inv : JInv n ops st.2
  mem : ∀ q, q ∈ st.1 ↔ q ∈ st.2
  len : st.1.length = st.2.length
  le : st.1.length ≤ most + 1
variable {ops : List OpD}
theorem MInv.start : MInv (n := n) (most := most) ops ([idL n], [idL n]) := ⟨by simp [AscC], .start n ops, fun _ => Iff.rfl, rfl, by simp⟩
theorem mStep_inv (ho : opsIn n ops) (hQ : PrQ n ops Q) {st : MSt} (h : MInv (n := n) (most := most) ops st) {p q : List Int} (hp : p ∈ st.2) (hq : q ∈ Q) :
    MInv (n := n) (most := most) ops (mStep n most p st q) ∧ (∃ l, (mStep n most p st q).2 = st.2 ++ l) ∧ (st.1.length ≤ most → joinP n p q ∈ (mStep n most p st q).2) := by
  unfold mStep
  split
  · next hle =>
    split
    · next hm => exact ⟨h, ⟨[], (List.append_nil _).symm⟩, fun _ => (h.mem _).1 hm⟩
    · next hm =>
      have hno : joinP n p q ∉ st.2 := fun e => hm ((h.mem _).2 e)
      refine ⟨⟨putC_asc h.asc, h.inv.add (h.inv.join hQ ho hp hq) hno, fun r => ?_, ?_, ?_⟩, ⟨[joinP n p q], rfl⟩, fun _ => by simp⟩
      · rw [putC_mem, List.mem_append, List.mem_singleton, h.mem]
      · rw [putC_len hm, List.length_append, h.len]; rfl
      · show (putC n st.1 _).length ≤ _
        rw [putC_len hm]; omega
  · next hle => exact ⟨h, ⟨[], (List.append_nil _).symm⟩, fun h => absurd h hle⟩
theorem mInn_inv (ho : opsIn n ops) (hQ : PrQ n ops Q) {st : MSt} (h : MInv (n := n) (most := most) ops st) {p : List Int} (hp : p ∈ st.2) : ∀ k, k ≤ Q.length →
    MInv (n := n) (most := most) ops (mInn n most Q p st k) ∧ (∃ l, (mInn n most Q p st k).2 = st.2 ++ l) ∧ ((mInn n most Q p st k).1.length ≤ most → ∀ i, i < k → joinP n p (Q.getD i []) ∈ (mInn n most Q p st k).2)
  | 0, _ => ⟨h, ⟨[], (List.append_nil _).symm⟩, fun _ i hi => absurd hi (Nat.not_lt_zero _)⟩
  | k + 1, hk => by
    obtain ⟨h1, ⟨l, h2⟩, h3⟩ := mInn_inv ho hQ h hp k (by omega)
    have hq : Q.getD k [] ∈ Q := by rw [List.getD_eq_getElem?_getD, List.getElem?_eq_getElem (by omega)]; exact List.getElem_mem _
    have hp' : p ∈ (mInn n most Q p st k).2 := by rw [h2]; exact List.mem_append.2 (.inl hp)
    rw [mInn_succ (by omega)]
    obtain ⟨g1, ⟨m, g2⟩, g3⟩ := mStep_inv ho hQ h1 hp' hq
    refine ⟨g1, ⟨l ++ m, by rw [g2, h2, List.append_assoc]⟩, fun hle i hi => ?_⟩
    have hmono : (mInn n most Q p st k).1.length ≤ most := by
      have : (mInn n most Q p st k).2.length ≤ (mStep n most p (mInn n most Q p st k) (Q.getD k [])).2.length := by rw [g2]; simp
      rw [← h1.len, ← g1.len] at this; omega
    rcases Nat.lt_or_ge i k with hlt | hge
    · rw [g2]; exact List.mem_append.2 (.inl (h3 hmono i hlt))
    · rw [show i = k by omega]; exact g3 hmono
theorem mRun_inv (ho : opsIn n ops) (hQ : PrQ n ops Q) : ∀ k, MInv (n := n) (most := most) ops (mRun n most Q k) ∧ ((mRun n most Q k).1.length ≤ most → ∀ j, j < k → j < (mRun n most Q k).2.length → ∀ q ∈ Q, joinP n ((mRun n most Q k).2.getD j []) q ∈ (mRun n most Q k).2)
  | 0 => ⟨.start, fun _ j hj => absurd hj (Nat.not_lt_zero _)⟩
  | k + 1 => by
    obtain ⟨h1, h2⟩ := mRun_inv ho hQ k
    rw [mRun]
    split
    · next hc =>
      have hp : (mRun n most Q k).2.getD k [] ∈ (mRun n most Q k).2 := by rw [List.getD_eq_getElem?_getD, List.getElem?_eq_getElem hc.1]; exact List.getElem_mem _
      obtain ⟨g1, ⟨l, g2⟩, g3⟩ := mInn_inv ho hQ h1 hp Q.length (Nat.le_refl _)
      refine ⟨g1, fun hle j hj hjl q hq => ?_⟩
      have hat : ∀ i, i < (mRun n most Q k).2.length → (mInn n most Q ((mRun n most Q k).2.getD k []) (mRun n most Q k) Q.length).2.getD i [] = (mRun n most Q k).2.getD i [] := fun i hi => by
        rw [g2, List.getD_eq_getElem?_getD, List.getElem?_append_left hi, List.getD_eq_getElem?_getD]
      obtain ⟨i, hi, rfl⟩ := List.getElem_of_mem hq
      rcases Nat.lt_or_ge j k with hlt | hge
      · rw [hat j (by omega), g2]
        exact List.mem_append.2 (.inl (h2 hc.2 j hlt (by omega) _ hq))
      · rw [show j = k by omega, hat k hc.1]
        have := g3 hle i hi
        have e : Q.getD i [] = Q[i] := by rw [List.getD_eq_getElem?_getD, List.getElem?_eq_getElem hi]; rfl
        rwa [e] at this
    · next hc =>
      refine ⟨h1, fun hle j hj hjl q hq => ?_⟩
      have : ¬ k < (mRun n most Q k).2.length := fun h => hc ⟨h, hle⟩
      exact h2 hle j (by omega) hjl q hq
theorem mRun_stay {k : Nat} (h : ¬ (k < (mRun n most Q k).2.length ∧ (mRun n most Q k).1.length ≤ most)) : ∀ m, mRun n most Q (k + m) = mRun n most Q k
  | 0 => rfl
  | m + 1 => by
    have ih := mRun_stay h m
    rw [← Nat.add_assoc, mRun, ih, if_neg (fun h' => h ⟨by omega, h'.2⟩)]
theorem mRun_end (ho : opsIn n ops) (hQ : PrQ n ops Q) {k : Nat} (h : ¬ (k < (mRun n most Q k).2.length ∧ (mRun n most Q k).1.length ≤ most)) : mRun n most Q k = mRun n most Q (most + 2) := by
  rcases Nat.lt_or_ge k (most + 2) with hlt | hge
  · have := mRun_stay h (most + 2 - k)
    rw [show k + (most + 2 - k) = most + 2 by omega] at this
    exact this.symm
  · have hI := (mRun_inv (most := most) ho hQ (most + 2)).1
    have := mRun_stay (n := n) (most := most) (Q := Q) (k := most + 2) (fun h' => by have := hI.len; have := hI.le; omega) (k - (most + 2))
    rwa [show most + 2 + (k - (most + 2)) = k by omega] at this
end
def mostV (n : Nat) (ops : List OpD) (most : Nat) : List (List Int) := (mRun n most (prinL n ops) (most + 2)).1
theorem mostV_inv {n most : Nat} {ops : List OpD} (ho : opsIn n ops) : AscC n (mostV n ops most) ∧ (∀ q ∈ mostV n ops most, Pt n q ∧ Cong n ops q) ∧ (mostV n ops most).length ≤ most + 1 ∧ ((mostV n ops most).length ≤ most → mostV n ops most = allL n ops) := by
  obtain ⟨h1, h2⟩ := mRun_inv (most := most) ho (prin_Q n ops) (most + 2)
  have hl := h1.len
  have hle := h1.le
  refine ⟨h1.asc, fun q hq => h1.inv.ok q ((h1.mem q).1 hq), h1.le, fun hm => ?_⟩
  refine AllC.eq ⟨h1.asc, fun q => ?_⟩
  refine (h1.mem q).trans (j_all h1.inv (prin_Q n ops) ho (fun p hp q hq => ?_) q)
  obtain ⟨i, hi, rfl⟩ := List.getElem_of_mem hp
  have := h2 hm i (by omega) hi q hq
  have e : ∀ L : List (List Int), ∀ hi : i < L.length, L.getD i [] = L[i] := fun L hi => by rw [List.getD_eq_getElem?_getD, List.getElem?_eq_getElem hi]; rfl
  rwa [e _ hi] at this
theorem mostV_len {n most : Nat} {ops : List OpD} (ho : opsIn n ops) : (mostV n ops most).length ≤ (allL n ops).length := by
  obtain ⟨h1, h2, -, -⟩ := mostV_inv (most := most) ho
  exact len_le_sub (ascC_nodup h1) fun q hq => allL_mem.2 (h2 q hq)
theorem mostV_all {n most : Nat} {ops : List OpD} (ho : opsIn n ops) (h : (allL n ops).length ≤ most) : mostV n ops most = allL n ops := (mostV_inv ho).2.2.2 (Nat.le_trans (mostV_len ho) h)
theorem mostV_few {n most : Nat} {ops : List OpD} (ho : opsIn n ops) : (mostV n ops most).length ≤ most ↔ (allL n ops).length ≤ most :=
  ⟨fun h => by rw [← (mostV_inv ho).2.2.2 h]; exact h, fun h => Nat.le_trans (mostV_len ho) h⟩
end Go.Proofs.YtbohjibbgppfaaaGreat
/- The layer: an entry of a map's literal. -/
namespace Go.Pv
open Go Go.MapKept
attribute [local semireducible] Go.Pv.Goal Go.Pv.PStep Go.Pv.EStep Go.Pv.KRets Go.Pv.PCalls Go.Pv.Ops Go.Pv.OpsG
section
variable {P : Program} {o : Oper} {S : St}
theorem e_mapInsert {t kt e : TypeId} {z : Value} [ht : MapT P t kt e z] {x y v : Operand} {b id : Nat} {l : List (ByteArray × PV)} {k : ByteArray} {p : PV} (ho : o.op = .insert t x y v) (hd : o.dst = none) (h1 : S.ev x = .val (.map (some b))) (hh : S.hp[id]? = some (.mp b l)) (h2 : S.ev y = .val (.string k)) (h3 : view S.hp (S.ev v) = p) :
    EStep P o S ⟨S.fr, S.hp.set id (.mp b (mpPut l k p))⟩ := by
  intro w0 g ρ a w hr Q K hK
  have e1 := val_of (hr.ev x) h1
  have e2 := val_of (hr.ev y) h2
  have ev3 := hr.base.view (hr.ev v)
  rw [h3] at ev3
  obtain ⟨es, cl, hm⟩ := hr.base.own id _ hh
  have hkey : IsKey .string (.string k) := trivial
  have hck : (Instr.checkKey false 10000 kt (.string k)).run P w = .ok () w := run_checkKey ht.hk hkey _ 9999
  have hsame : ∀ (l' : List (ByteArray × PV)) (v : Value) (p : PV), VRS1 g ρ S.hp v p → VRS1 g ρ (S.hp.set id (.mp b l')) v p := fun l' v p h => same_set hh (fun _ _ _ _ h => by cases h) (fun _ _ _ h => by cases h) (fun _ _ _ _ h => by cases h) (GExt.refl g) h
  have fin : ∀ (es' : Array MapEntry) (cl' : Nat) (l' : List (ByteArray × PV)), (Instr.mapUpdate t (.map (some b)) (.string k) (a.eval v)).run P w = .ok () { w with heap := w.heap.setIfInBounds b (.map es' cl') } → MpRel g es'.toList l' → mpPut l k p = l' → o.wp P a w K Q := fun es' cl' l' hrun hrel hl => by
    have hbase := hr.base.upd hh (x' := .mp b l') (ρ id) (GExt.refl g) _root_.id (by rw [upd_id, map_mapHO_id]; exact hsame l') (hr.base.agree.setB hm.hg hm.hw (y := .map es' cl')) (hr.base.below.setB hm.hB hm.hw) (fun _ _ _ => rfl)
      (by rw [upd_id, map_mapHO_id]; exact ⟨es', cl', hm.hblk, hm.hB, (heap_set hm.hw).1, hrel, hm.hg⟩) (fun b' hb' => .inl hb')
      (fun b' hb' hnf => ⟨(heap_set hm.hw).2 b' (fun e => hnf (by rw [e]; exact hm.hblk.symm)), fun _ => rfl⟩)
    rw [upd_id, map_mapHO_id] at hbase
    unfold Oper.wp
    simp only [execOp, ho, e1, e2]
    have hrun' : (do Instr.mapUpdate t (.map (some b)) (.string k) (a.eval v); pure Next.skip : Sem Next).run P w = .ok .skip { w with heap := w.heap.setIfInBounds b (.map es' cl') } := by
      rw [Sem.run_bind, hrun]; rfl
    rw [hrun']
    simp only [Oper.upon, hd]
    rw [hl] at hK
    exact hK g ρ a _ (GExt.refl g) (hr.same hbase (hsame l'))
  rcases findNow_mp k 0 hm.hk with ⟨q1, -, q3⟩ | ⟨j, en, p', q1, q2, q3, -, -, -, q7⟩
  · refine fin (es.push { key := .string k, val := a.eval v, born := cl }) (cl + 1) (l ++ [(k, p)]) ?_ ?_ (q3 p)
    · unfold Instr.mapUpdate
      simp [run_underlying ht.hu, Go.MapKept.run_getObj_map hm.hw, hck, Go.MapKept.run_findKey ht.hk q1, Go.MapKept.run_setObj_map _ hm.hw, Result.andThen]
    · rw [Array.toList_push]
      exact hm.hk.snoc rfl ev3
  · have hj : es[j]? = some en := by simpa using q2
    refine fin (es.modify j fun e => { e with key := .string k, val := a.eval v }) cl (l.set j (k, p)) ?_ ?_ (q7 p)
    · unfold Instr.mapUpdate
      simp [run_underlying ht.hu, Go.MapKept.run_getObj_map hm.hw, hck, Go.MapKept.run_findKey ht.hk q1, Go.MapKept.run_setObj_map _ hm.hw, Result.andThen, hj, q3, run_keyThatStays (P := P) (w := w) hkey]
    · have : (es.modify j fun e => { e with key := .string k, val := a.eval v }).toList = es.toList.set j { en with key := .string k, val := a.eval v } := by
        apply List.ext_getElem?
        intro i
        rw [Array.getElem?_toList, Array.getElem?_modify, List.getElem?_set, Array.getElem?_toList]
        by_cases e : j = i
        · subst e
          have hlt : j < es.toList.length := (List.getElem?_eq_some_iff.1 q2).1
          have hlt' : j < es.size := by simpa using hlt
          have hje : es[j] = en := by simpa [Array.getElem?_eq_getElem hlt'] using hj
          simp [hlt', hje]
        · simp [e]
      rw [this]
      exact MpRel.set (e := { en with key := .string k, val := a.eval v }) rfl ev3 j hm.hk
end
end Go.Pv
