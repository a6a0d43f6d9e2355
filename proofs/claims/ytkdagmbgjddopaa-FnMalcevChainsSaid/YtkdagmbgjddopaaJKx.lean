/- Plain: the list of all congruences, as the reference grows it. -/
import Derived.Test.YtkdagmbgjddopaaJKg
import Derived.Test.YtkdagmbgjddopaaJNk
namespace Go.Proofs.Ytkdagmbgjddopaa
open Go Go.Pv Go.Proofs

def prPairs (n : Nat) : List (Nat × Nat) := (List.range n).flatMap fun x => (List.range x).map fun y => (x, y)
def prinF (n : Nat) (ops : List OpD) (L : List (List Int)) (xy : Nat × Nat) : List (List Int) := putC n L (cgL n ops xy.1 xy.2)
def prinL (n : Nat) (ops : List OpD) : List (List Int) := (prPairs n).foldl (prinF n ops) []
theorem prinF_mem {n : Nat} {ops : List OpD} : ∀ (P : List (Nat × Nat)) (L : List (List Int)) (q : List Int), q ∈ P.foldl (prinF n ops) L ↔ q ∈ L ∨ ∃ xy ∈ P, q = cgL n ops xy.1 xy.2
  | [], L, q => by simp
  | xy :: P, L, q => by
    rw [List.foldl_cons, prinF_mem P, prinF, putC_mem, or_assoc]
    simp only [List.mem_cons]
    constructor
    · rintro (h | h | ⟨xy', h, e⟩)
      · exact .inl h
      · exact .inr ⟨xy, .inl rfl, h⟩
      · exact .inr ⟨xy', .inr h, e⟩
    · rintro (h | ⟨xy', rfl | h, e⟩)
      · exact .inl h
      · exact .inr (.inl e)
      · exact .inr (.inr ⟨xy', h, e⟩)
theorem prin_Q (n : Nat) (ops : List OpD) : PrQ n ops (prinL n ops) := by
  have hm : ∀ q, q ∈ prinL n ops ↔ ∃ xy ∈ prPairs n, q = cgL n ops xy.1 xy.2 := fun q => by
    unfold prinL; rw [prinF_mem]; simp
  have hp : ∀ x y, (x, y) ∈ prPairs n ↔ x < n ∧ y < x := fun x y => by
    unfold prPairs
    simp only [List.mem_flatMap, List.mem_range, List.mem_map, Prod.mk.injEq]
    constructor
    · rintro ⟨a, ha, b, hb, rfl, rfl⟩; exact ⟨ha, hb⟩
    · rintro ⟨ha, hb⟩; exact ⟨x, ha, y, hb, rfl, rfl⟩
  refine ⟨fun q hq => ?_, fun x y hx hy => (hm _).2 ⟨(y, x), (hp _ _).2 ⟨hy, hx⟩, cg_comm ..⟩⟩
  obtain ⟨⟨x, y⟩, h, e⟩ := (hm q).1 hq
  obtain ⟨h1, h2⟩ := (hp _ _).1 h
  exact ⟨y, x, h2, h1, by rw [e]; exact cg_comm ..⟩
theorem prin_len {n : Nat} {ops : List OpD} : ∀ (P : List (Nat × Nat)) (L : List (List Int)), (P.foldl (prinF n ops) L).length ≤ L.length + P.length
  | [], L => by simp
  | xy :: P, L => by
    rw [List.foldl_cons]
    have h1 := prin_len (n := n) (ops := ops) P (prinF n ops L xy)
    have h2 : (prinF n ops L xy).length ≤ L.length + 1 := by
      unfold prinF putC
      split
      · omega
      · have := posC_le n (cgL n ops xy.1 xy.2) L
        simp [List.length_take, List.length_drop]; omega
    rw [List.length_cons]; omega
/-! ### The run -/
abbrev MSt := List (List Int) × List (List Int)
section
variable (n most : Nat) (Q : List (List Int))
def mStep (p : List Int) (st : MSt) (q : List Int) : MSt := if st.1.length ≤ most then (if joinP n p q ∈ st.1 then st else (putC n st.1 (joinP n p q), st.2 ++ [joinP n p q])) else st
def mInn (p : List Int) (st : MSt) (k : Nat) : MSt := (Q.take k).foldl (mStep n most p) st
def mRun : Nat → MSt
  | 0 => ([idL n], [idL n])
  | k + 1 => if k < (mRun k).2.length ∧ (mRun k).1.length ≤ most then mInn n most Q ((mRun k).2.getD k []) (mRun k) Q.length else mRun k
variable {n most Q}
theorem mInn_succ {p : List Int} {st : MSt} {k : Nat} (hk : k < Q.length) : mInn n most Q p st (k + 1) = mStep n most p (mInn n most Q p st k) (Q.getD k []) := by
  unfold mInn; rw [take_snoc [] hk, List.foldl_append]; rfl
structure MInv (ops : List OpD) (st : MSt) : Prop where
  asc : AscC n st.1
  inv : JInv n ops st.2
  mem : ∀ q, q ∈ st.1 ↔ q ∈ st.2
  len : st.1.length = st.2.length
  le : st.1.length ≤ most + 1
variable {ops : List OpD}
theorem MInv.start : MInv (n := n) (most := most) ops ([idL n], [idL n]) := ⟨by simp [AscC], .start n ops, fun _ => Iff.rfl, rfl, by simp⟩
theorem mStep_inv (ho : opsIn n ops) (hQ : PrQ n ops Q) {st : MSt} (h : MInv (n := n) (most := most) ops st) {p q : List Int} (hp : p ∈ st.2) (hq : q ∈ Q) :
    MInv (n := n) (most := most) ops (mStep n most p st q) ∧ (∃ l, (mStep n most p st q).2 = st.2 ++ l) ∧ (st.1.length ≤ most → joinP n p q ∈ (mStep n most p st q).2) := by
  unfold mStep
  split
  · next hle =>
    split
    · next hm => exact ⟨h, ⟨[], (List.append_nil _).symm⟩, fun _ => (h.mem _).1 hm⟩
    · next hm =>
      have hno : joinP n p q ∉ st.2 := fun e => hm ((h.mem _).2 e)
      refine ⟨⟨putC_asc h.asc, h.inv.add (h.inv.join hQ ho hp hq) hno, fun r => ?_, ?_, ?_⟩, ⟨[joinP n p q], rfl⟩, fun _ => by simp⟩
      · rw [putC_mem, List.mem_append, List.mem_singleton, h.mem]
      · rw [putC_len hm, List.length_append, h.len]; rfl
      · show (putC n st.1 _).length ≤ _
        rw [putC_len hm]; omega
  · next hle => exact ⟨h, ⟨[], (List.append_nil _).symm⟩, fun h => absurd h hle⟩
theorem mInn_inv (ho : opsIn n ops) (hQ : PrQ n ops Q) {st : MSt} (h : MInv (n := n) (most := most) ops st) {p : List Int} (hp : p ∈ st.2) : ∀ k, k ≤ Q.length →
    MInv (n := n) (most := most) ops (mInn n most Q p st k) ∧ (∃ l, (mInn n most Q p st k).2 = st.2 ++ l) ∧ ((mInn n most Q p st k).1.length ≤ most → ∀ i, i < k → joinP n p (Q.getD i []) ∈ (mInn n most Q p st k).2)
  | 0, _ => ⟨h, ⟨[], (List.append_nil _).symm⟩, fun _ i hi => absurd hi (Nat.not_lt_zero _)⟩
  | k + 1, hk => by
    obtain ⟨h1, ⟨l, h2⟩, h3⟩ := mInn_inv ho hQ h hp k (by omega)
    have hq : Q.getD k [] ∈ Q := by rw [List.getD_eq_getElem?_getD, List.getElem?_eq_getElem (by omega)]; exact List.getElem_mem _
    have hp' : p ∈ (mInn n most Q p st k).2 := by rw [h2]; exact List.mem_append.2 (.inl hp)
    rw [mInn_succ (by omega)]
    obtain ⟨g1, ⟨m, g2⟩, g3⟩ := mStep_inv ho hQ h1 hp' hq
    refine ⟨g1, ⟨l ++ m, by rw [g2, h2, List.append_assoc]⟩, fun hle i hi => ?_⟩
    have hmono : (mInn n most Q p st k).1.length ≤ most := by
      have : (mInn n most Q p st k).2.length ≤ (mStep n most p (mInn n most Q p st k) (Q.getD k [])).2.length := by rw [g2]; simp
      rw [← h1.len, ← g1.len] at this; omega
    rcases Nat.lt_or_ge i k with hlt | hge
    · rw [g2]; exact List.mem_append.2 (.inl (h3 hmono i hlt))
    · rw [show i = k by omega]; exact g3 hmono
theorem mRun_inv (ho : opsIn n ops) (hQ : PrQ n ops Q) : ∀ k, MInv (n := n) (most := most) ops (mRun n most Q k) ∧ ((mRun n most Q k).1.length ≤ most → ∀ j, j < k → j < (mRun n most Q k).2.length → ∀ q ∈ Q, joinP n ((mRun n most Q k).2.getD j []) q ∈ (mRun n most Q k).2)
  | 0 => ⟨.start, fun _ j hj => absurd hj (Nat.not_lt_zero _)⟩
  | k + 1 => by
    obtain ⟨h1, h2⟩ := mRun_inv ho hQ k
    rw [mRun]
    split
    · next hc =>
      have hp : (mRun n most Q k).2.getD k [] ∈ (mRun n most Q k).2 := by rw [List.getD_eq_getElem?_getD, List.getElem?_eq_getElem hc.1]; exact List.getElem_mem _
      obtain ⟨g1, ⟨l, g2⟩, g3⟩ := mInn_inv ho hQ h1 hp Q.length (Nat.le_refl _)
      refine ⟨g1, fun hle j hj hjl q hq => ?_⟩
      have hat : ∀ i, i < (mRun n most Q k).2.length → (mInn n most Q ((mRun n most Q k).2.getD k []) (mRun n most Q k) Q.length).2.getD i [] = (mRun n most Q k).2.getD i [] := fun i hi => by
        rw [g2, List.getD_eq_getElem?_getD, List.getElem?_append_left hi, List.getD_eq_getElem?_getD]
      obtain ⟨i, hi, rfl⟩ := List.getElem_of_mem hq
      rcases Nat.lt_or_ge j k with hlt | hge
      · rw [hat j (by omega), g2]
        exact List.mem_append.2 (.inl (h2 hc.2 j hlt (by omega) _ hq))
      · rw [show j = k by omega, hat k hc.1]
        have := g3 hle i hi
        have e : Q.getD i [] = Q[i] := by rw [List.getD_eq_getElem?_getD, List.getElem?_eq_getElem hi]; rfl
        rwa [e] at this
    · next hc =>
      refine ⟨h1, fun hle j hj hjl q hq => ?_⟩
      have : ¬ k < (mRun n most Q k).2.length := fun h => hc ⟨h, hle⟩
      exact h2 hle j (by omega) hjl q hq
theorem mRun_stay {k : Nat} (h : ¬ (k < (mRun n most Q k).2.length ∧ (mRun n most Q k).1.length ≤ most)) : ∀ m, mRun n most Q (k + m) = mRun n most Q k
  | 0 => rfl
  | m + 1 => by
    have ih := mRun_stay h m
    rw [← Nat.add_assoc, mRun, ih, if_neg (fun h' => h ⟨by omega, h'.2⟩)]
theorem mRun_end (ho : opsIn n ops) (hQ : PrQ n ops Q) {k : Nat} (h : ¬ (k < (mRun n most Q k).2.length ∧ (mRun n most Q k).1.length ≤ most)) : mRun n most Q k = mRun n most Q (most + 2) := by
  rcases Nat.lt_or_ge k (most + 2) with hlt | hge
  · have := mRun_stay h (most + 2 - k)
    rw [show k + (most + 2 - k) = most + 2 by omega] at this
    exact this.symm
  · have hI := (mRun_inv (most := most) ho hQ (most + 2)).1
    have := mRun_stay (n := n) (most := most) (Q := Q) (k := most + 2) (fun h' => by have := hI.len; have := hI.le; omega) (k - (most + 2))
    rwa [show most + 2 + (k - (most + 2)) = k by omega] at this
end
def mostV (n : Nat) (ops : List OpD) (most : Nat) : List (List Int) := (mRun n most (prinL n ops) (most + 2)).1
theorem mostV_inv {n most : Nat} {ops : List OpD} (ho : opsIn n ops) : AscC n (mostV n ops most) ∧ (∀ q ∈ mostV n ops most, Pt n q ∧ Cong n ops q) ∧ (mostV n ops most).length ≤ most + 1 ∧ ((mostV n ops most).length ≤ most → mostV n ops most = allL n ops) := by
  obtain ⟨h1, h2⟩ := mRun_inv (most := most) ho (prin_Q n ops) (most + 2)
  have hl := h1.len
  have hle := h1.le
  refine ⟨h1.asc, fun q hq => h1.inv.ok q ((h1.mem q).1 hq), h1.le, fun hm => ?_⟩
  refine AllC.eq ⟨h1.asc, fun q => ?_⟩
  refine (h1.mem q).trans (j_all h1.inv (prin_Q n ops) ho (fun p hp q hq => ?_) q)
  obtain ⟨i, hi, rfl⟩ := List.getElem_of_mem hp
  have := h2 hm i (by omega) hi q hq
  have e : ∀ L : List (List Int), ∀ hi : i < L.length, L.getD i [] = L[i] := fun L hi => by rw [List.getD_eq_getElem?_getD, List.getElem?_eq_getElem hi]; rfl
  rwa [e _ hi] at this
theorem mostV_len {n most : Nat} {ops : List OpD} (ho : opsIn n ops) : (mostV n ops most).length ≤ (allL n ops).length := by
  obtain ⟨h1, h2, -, -⟩ := mostV_inv (most := most) ho
  exact len_le_sub (ascC_nodup h1) fun q hq => allL_mem.2 (h2 q hq)
theorem mostV_all {n most : Nat} {ops : List OpD} (ho : opsIn n ops) (h : (allL n ops).length ≤ most) : mostV n ops most = allL n ops := (mostV_inv ho).2.2.2 (Nat.le_trans (mostV_len ho) h)
theorem mostV_few {n most : Nat} {ops : List OpD} (ho : opsIn n ops) : (mostV n ops most).length ≤ most ↔ (allL n ops).length ≤ most :=
  ⟨fun h => by rw [← (mostV_inv ho).2.2.2 h]; exact h, fun h => Nat.le_trans (mostV_len ho) h⟩
end Go.Proofs.Ytkdagmbgjddopaa
/- The layer: the row of a struct grows. -/
namespace Go.Pv
open Go
attribute [local semireducible] Go.Pv.Goal Go.Pv.Ops Go.Pv.PStep Go.Pv.EStep Go.Pv.KRets Go.Pv.PCalls Go.Pv.OpsG Go.Pv.RCalls
section
variable {P : Program} {o : Oper} {S : St}
theorem thawS_VRS1 {g g' : Ghost} {ρ : Nat → Loc} {hp : List HO} {n : Nat} {e1 e2 : TypeId} {rows : List (List PV)} {l : List PV} (hx : GExt g g') (hn : hp[n]? = some (.sg e1 e2 0 rows)) (hl : l.length = rows.length) {v : Value} {p : PV} (h : VRS1 g ρ hp v p) :
    VRS1 g' ρ (hp.set n (.arr true 2 e1 l)) v p := by
  have hlt : n < hp.length := (List.getElem?_eq_some_iff.1 hn).1
  have hat : ∀ i, i ≠ n → (hp.set n (.arr true 2 e1 l))[i]? = hp[i]? := fun i hi => List.getElem?_set_ne (Ne.symm hi)
  have hatn : (hp.set n (.arr true 2 e1 l))[n]? = some (.arr true 2 e1 l) := List.getElem?_set_self hlt
  have keyH : ∀ {id}, HpV ρ hp v id → HpV ρ (hp.set n (.arr true 2 e1 l)) v id := fun {id} hh => by
    by_cases e' : id = n
    · subst e'
      refine ⟨hh.sl, fun m s e l' hid => ?_, fun e1 e2 rows hid => ?_, fun e1 e2 k rows hid => ?_, fun l' hid => ?_, fun e1 e2 k rows hid => ?_⟩
      · rw [hatn] at hid; cases hid; rw [hl, hh.sg _ _ _ _ hn, Nat.add_zero]
      · rw [hatn] at hid; cases hid
      · rw [hatn] at hid; cases hid
      · rw [hatn] at hid; cases hid
      · rw [hatn] at hid; cases hid
    · exact { sl := hh.sl, arr := fun m s' e2 l' hid => (by rw [hat _ e'] at hid; exact hh.arr _ _ _ _ hid), grid := fun e1 e2 rows hid => (by rw [hat _ e'] at hid; exact hh.grid _ _ _ hid), sg := fun e1 e2 m rows hid => (by rw [hat _ e'] at hid; exact hh.sg _ _ _ _ hid), pg := fun e1 e2 m rows hid => (by rw [hat _ e'] at hid; exact hh.pg _ _ _ _ hid), box := fun l' hid => (by rw [hat _ e'] at hid; exact hh.box _ hid) }
  cases p with
  | hp id => exact keyH h
  | hpv id b d => exact ⟨keyH h.1, h.2⟩
  | hat id i => exact h
  | hatv id i b d => exact h
  | gr j i =>
    refine (⟨GrV.sl h, fun e1' e2' rows' r hid hr => ?_, fun e1' e2' _n rows' r hid hr => ?_⟩ : GrV _ _ _ _ _)
    rotate_left
    · by_cases e' : j = n
      · rw [e', hatn] at hid; cases hid
      · rw [hat _ e'] at hid; exact GrV.sg h _ _ _ _ _ hid hr
    by_cases e' : j = n
    · rw [e', hatn] at hid; cases hid
    · rw [hat _ e'] at hid; exact GrV.grid h _ _ _ _ hid hr
  | gat id i j => exact h
  | _ => exact VR.mono hx h
theorem e_appendRowS {t e : TypeId} {by_ : Nat} {z0 : Value} [ht : MkT P t e 1 by_ [z0]] {x y : Operand} {tys : Array TypeId} {id i : Nat} {e1 e2 : TypeId} {rows : List (List PV)} {h0 : PV} {r l2 : List PV} {nn : Option Bool} (ho : o.op = .call { callee := .builtin .append, args := #[x, y], argTypes := tys })
    (htys : tys = #[t, t]) (h1 : S.ev x = .gr id i) (hh : S.hp[id]? = some (.sg e1 e2 0 rows)) (he : e2 = e) (hr : rows[i]? = some (h0 :: r)) (h2 : view S.hp (S.ev y) = .sl 1 nn l2) (hone : ∀ p ∈ l2, p.one = true)
    (hb : (r.length + l2.length) * by_ ≤ 140737488355328) (hm : r.length + l2.length ≤ 9223372036854775807) : EStep P o S (St.put ⟨S.fr, S.hp.set id (.arr true 2 e1 (rows.map sgP))⟩ o.dst (slR (r ++ l2))) := by
  intro w0 g ρ a w hrl Q K hK
  obtain ⟨cur, rc, og⟩ := hrl.base.own id _ hh
  obtain ⟨a1, a2, a3, a4⟩ := og.hrow i _ hr
  simp only [List.tail_cons] at a1 a2
  have hi : i < rows.length := (List.getElem?_eq_some_iff.1 hr).1
  have hrow : ArrOwn g w w0.own true 1 e2 r ⟨(ρ id).rows i, (ρ id).caps i, fun _ => 0, fun _ => 0⟩ (rc i) (fun j => [r.getD j .any]) := by
    refine ⟨by decide, og.hB' i hi, a2.1, a2.2, a3, by rw [a4, Nat.mul_one], fun j p hj => ?_, fun j k p hj hk => ?_, fun o' => by rw [og.hg' i o' hi]; simp⟩
    · have := (og.hv i _ j p hr hj).1
      simp [List.getD_eq_getElem?_getD, hj, flat_one this]
    · have hk0 : k = 0 := by rcases k with _ | k; rfl; simp at hk
      subst hk0
      simp only [List.getElem?_cons_zero, Option.some.injEq] at hk
      have hjr : r[j]? = some p := by rw [← hk]; simp [hj]
      simpa using (og.hv i _ j p hr hjr).2
  have ex : a.eval x = .slice (some ⟨(ρ id).rows i, 0, none⟩) r.length ((ρ id).caps i) := by have := hrl.ev x; rw [h1] at this; exact GrV.sg this _ _ _ _ _ hh hr
  have ey := hrl.base.view (hrl.ev y)
  rw [h2] at ey
  obtain ⟨c2, cs, hf2, hv2, blk, cap, cur', w', g', hrun, hx, hag, hbl, hold, hB, hcap, hmax, hw', hsz', k1, k2, hg', hblk, hkeep, hkeepI⟩ := append_ends (ht := ht) ho htys he hrow hrl.base.agree hrl.base.below ex ey (fun p hp c hc => by
    rw [flat_one (hone p hp)] at hc; cases hc; simp [hone p hp]) rfl hb hm
  unfold Oper.wp
  rw [hrun]
  have hlb : (ρ id).blk < w.heap.size := (Array.getElem?_eq_some_iff.1 og.hw).1
  let D : Nat → Bool := fun b => rowD (ρ id) rows.length b || b == blk
  have hDb : D blk = true := by simp [D]
  have hDr : ∀ k, k < rows.length → D ((ρ id).rows k) = true := fun k hk => by
    simp [D, rowD_iff.2 ⟨k, hk, rfl⟩]
  have hDs : ∀ b, D b = true → (∃ k, k < rows.length ∧ b = (ρ id).rows k) ∨ b = blk := fun b hd => by
    simp only [D, Bool.or_eq_true, beq_iff_eq] at hd
    rcases hd with hd | hd
    · exact .inl (rowD_iff.1 hd)
    · exact .inr hd
  have hx2 := snap_ext hag D
  have hset : (S.hp.map (mapHO _root_.id)).set id (.arr true 2 e1 (rows.map sgP)) = S.hp.set id (.arr true 2 e1 (rows.map sgP)) := by rw [map_mapHO_id]
  have hφ : ∀ v p, VRS1 g ρ S.hp v p → VRS1 (snap g' w' D) ρ (S.hp.set id (.arr true 2 e1 (rows.map sgP))) v p := fun v p hv => thawS_VRS1 (hx.trans hx2) hh (by simp) hv
  have hnb : ¬ D (ρ id).blk = true := fun hd => by
    rcases hDs _ hd with ⟨k, hk, e⟩ | e
    · exact og.hne k hk e.symm
    · rcases hblk with h | h
      · exact og.hne i hi (h.symm.trans e.symm)
      · omega
  have hbi : (ρ id).blk ≠ (ρ id).rows i := fun e => og.hne i hi e.symm
  have hbase := hrl.base.upd hh (x' := .arr true 2 e1 (rows.map sgP)) (ρ id) (hx.trans hx2) _root_.id (fun v p hv => by rw [upd_self, hset]; exact hφ v p hv) (snap_agree hag D) hbl
    (fun b k hb => (snap_old (fun hd => by
      rcases hDs b hd with ⟨k, hk, e⟩ | e
      · exact hb (e ▸ og.hB' k hk)
      · exact hb (e ▸ hB)) k).trans (hold b k hb))
    ⟨cur, fun k => [(rows.getD k []).headD .any, slR (rows.getD k []).tail], ⟨by decide, og.hB, by simpa using og.hcap, og.hmax, (hkeep _ hlb hbi).1.trans og.hw, og.hsz, fun k p hk => by
      simp only [List.getElem?_map, Option.map_eq_some_iff] at hk
      obtain ⟨r', hr', rfl⟩ := hk
      simp [sgP, PV.flat, List.getD_eq_getElem?_getD, hr'], fun k j q hk hq => by
      simp only [List.length_map] at hk
      have hr' : rows[k]? = some (rows.getD k []) := by simp [hk]
      rcases j with _ | _ | j
      · simp only [List.getElem?_cons_zero, Option.some.injEq] at hq
        subst hq
        rw [Nat.add_zero]
        exact (og.hh k _ hr').2.mono (hx.trans hx2)
      rotate_left
      · simp at hq
      simp only [Nat.zero_add, List.getElem?_cons_succ, List.getElem?_cons_zero, Option.some.injEq] at hq
      subst hq
      simp only [Nat.zero_add]
      rw [(og.hrow k _ hr').1]
      by_cases e : k = i ∧ blk = (ρ id).rows i
      · obtain ⟨rfl, eb⟩ := e
        have er : rows.getD k [] = h0 :: r := by rw [hr] at hr'; exact (Option.some.inj hr').symm
        rw [er, List.tail_cons]
        refine .sl 1 none _ 0 _ r (fun j => [r.getD j .any]) (fun k => cur'.getD k undef) (by decide) (by simp) a2.1 a2.2 hrow.hf (fun o' ho' => ?_) (fun j k' p hj hp => ?_)
        · rw [Nat.zero_add, ← eb]
          refine snap_cell hDb hw' o' ?_
          rw [hsz', Nat.mul_one]
          rw [Nat.mul_one] at ho'
          exact Nat.lt_of_lt_of_le ho' (Nat.le_trans (Nat.le_add_right _ _) hcap)
        · have := (hrow.hv j k' p hj hp).mono (hx.trans hx2)
          have hk' : k' = 0 := by rcases k' with _ | k'; rfl; simp at hp
          subst hk'
          rw [k1 _ (by omega)]
          exact this
      · have hw2 := (og.hrow k _ hr').2.2.1
        have hlt := (Array.getElem?_eq_some_iff.1 hw2).1
        have hw3 : w'.heap[(ρ id).rows k]? = some (.cells (rc k) e2 (0, 0)) := by
          by_cases e' : k = i
          · subst e'
            have hb' : w.heap.size ≤ blk := by
              rcases hblk with h | h
              · exact absurd ⟨rfl, h⟩ e
              · exact h
            exact (hkeepI (fun e3 => by have e3 : blk = (ρ id).rows k := e3; omega)).trans hw2
          · exact (hkeep _ hlt (fun e2 => e' (og.hinj k i hk hi e2))).1.trans hw2
        exact og.row (hx.trans hx2) hr' (fun o' ho' => snap_cell (hDr k hk) hw3 o' ho'), fun k => by rw [snap_old hnb, (hkeep _ hlb hbi).2 k, og.hg k]; simp⟩⟩
    (fun b hb => .inl (.inl hb)) (fun b hb1 hb2 => by
      have hne : b ≠ (ρ id).rows i := fun e => hb2 (.inr ⟨i, hi, e⟩)
      refine ⟨(hkeep b hb1 hne).1, fun k => (snap_old (fun hd => ?_) k).trans ((hkeep b hb1 hne).2 k)⟩
      rcases hDs b hd with ⟨k, hk, e⟩ | e
      · exact hb2 (.inr ⟨k, hk, e⟩)
      · rcases hblk with h | h
        · exact hne (e.trans h)
        · omega)
  rw [upd_self, hset] at hbase
  have hrel : Rel w0 ⟨S.fr, S.hp.set id (.arr true 2 e1 (rows.map sgP))⟩ (snap g' w' D) ρ a w' := ⟨hbase, hrl.dead, hrl.size, fun i p hp => (hrl.fr i p hp).turn hφ⟩
  have hnew := hrow.grow (L' := ⟨blk, cap, fun _ => 0, fun _ => 0⟩) hx hB hcap hmax hw' hsz' hf2 hv2 k1 k2 hg'
  have hvr : VR (snap g' w' D) (.slice (some ⟨blk, 0, none⟩) (r ++ l2).length cap) (slR (r ++ l2)) :=
    .sl 1 none blk 0 cap (r ++ l2) _ (fun k => cur'.getD k undef) (by decide) (by simp) (by simpa using hcap) hmax hnew.hf (fun k hk => by
      rw [Nat.zero_add]
      refine snap_cell hDb hw' k ?_
      rw [hsz']
      simp only [List.length_append, Nat.mul_one] at hk ⊢
      omega) (fun i j q hi hq => (hnew.hv i j q hi hq).mono hx2)
  rw [List.length_append] at hvr
  exact hK _ _ _ _ (hx.trans hx2) (hrel.put hbase (GExt.refl _) (.of_VR hvr) o.dst)
end
end Go.Pv
