/- Walks: the shortest chain of translated pairs, the reference's side. -/
import Derived.Test.YtnjocjfhaahmfaaGreatJVa
import Derived.Test.YtnjocjfhaahmfaaGreatJNb
import Derived.Test.YtnjocjfhaahmfaaGreatJKg
import Derived.Test.YtnjocjfhaahmfaaGreatJSq
import Derived.Test.YtnjocjfhaahmfaaGreatJSt
import Derived.Test.YtnjocjfhaahmfaaGreatJKd
import Derived.Test.YtnjocjfhaahmfaaGreatJHn
set_option linter.unusedSectionVars false
namespace Go.Pv
open Go
attribute [local semireducible] Go.Pv.EStep
section
variable {P : Program} {o : Oper} {S : St}
theorem e_lit1N {t e : TypeId} {by_ : Nat} [ht : SlT P t e 1 by_] {zs : List Value} [hz : ZeroT P e zs] {x : Operand} {p : PV} (ho : o.op = .buildSlice t 1 #[(0, x)]) (h1 : view S.hp (S.ev x) = p) (hp1 : p.one = true) :
    EStep P o S (S.setObj S.hp.length (killH S.hp.length S.hp ++ [.arr false 1 e [p]]) o.dst (.hp S.hp.length)) :=
  e_buildSlice (ht := ht) (hz := hz) ho rfl rfl (by simp [elems, h1]) ⟨⟨[p], flat_one hp1, rfl⟩, trivial⟩ (by decide) (by decide)
end
end Go.Pv
/- Plain: the list of all congruences, as the reference grows it. -/
namespace Go.Proofs.YtnjocjfhaahmfaaGreat
open Go Go.Pv Go.Proofs

def prPairs (n : Nat) : List (Nat × Nat) := (List.range n).flatMap fun x => (List.range x).map fun y => (x, y)
def prinF (n : Nat) (ops : List OpD) (L : List (List Int)) (xy : Nat × Nat) : List (List Int) := putC n L (cgL n ops xy.1 xy.2)
def prinL (n : Nat) (ops : List OpD) : List (List Int) := (prPairs n).foldl (prinF n ops) []
theorem prinF_mem {n : Nat} {ops : List OpD} : ∀ (P : List (Nat × Nat)) (L : List (List Int)) (q : List Int), q ∈ P.foldl (prinF n ops) L ↔ q ∈ L ∨ ∃ xy ∈ P, q = cgL n ops xy.1 xy.2
  | [], L, q => by simp
  | xy :: P, L, q => by
    rw [List.foldl_cons, prinF_mem P, prinF, putC_mem, or_assoc]
    simp only [List.mem_cons]
    constructor
    · rintro (h | h | ⟨xy', h, e⟩)
      · exact .inl h
      · exact .inr ⟨xy, .inl rfl, h⟩
      · exact .inr ⟨xy', .inr h, e⟩
    · rintro (h | ⟨xy', rfl | h, e⟩)
      · exact .inl h
      · exact .inr (.inl e)
      · exact .inr (.inr ⟨xy', h, e⟩)
theorem prin_Q (n : Nat) (ops : List OpD) : PrQ n ops (prinL n ops) := by
  have hm : ∀ q, q ∈ prinL n ops ↔ ∃ xy ∈ prPairs n, q = cgL n ops xy.1 xy.2 := fun q => by
    unfold prinL; rw [prinF_mem]; simp
  have hp : ∀ x y, (x, y) ∈ prPairs n ↔ x < n ∧ y < x := fun x y => by
    unfold prPairs
    simp only [List.mem_flatMap, List.mem_range, List.mem_map, Prod.mk.injEq]
    constructor
    · rintro ⟨a, ha, b, hb, rfl, rfl⟩; exact ⟨ha, hb⟩
    · rintro ⟨ha, hb⟩; exact ⟨x, ha, y, hb, rfl, rfl⟩
  refine ⟨fun q hq => ?_, fun x y hx hy => (hm _).2 ⟨(y, x), (hp _ _).2 ⟨hy, hx⟩, cg_comm ..⟩⟩
  obtain ⟨⟨x, y⟩, h, e⟩ := (hm q).1 hq
  obtain ⟨h1, h2⟩ := (hp _ _).1 h
  exact ⟨y, x, h2, h1, by rw [e]; exact cg_comm ..⟩
theorem prin_len {n : Nat} {ops : List OpD} : ∀ (P : List (Nat × Nat)) (L : List (List Int)), (P.foldl (prinF n ops) L).length ≤ L.length + P.length
  | [], L => by simp
  | xy :: P, L => by
    rw [List.foldl_cons]
    have h1 := prin_len (n := n) (ops := ops) P (prinF n ops L xy)
    have h2 : (prinF n ops L xy).length ≤ L.length + 1 := by
      unfold prinF putC
      split
      · omega
      · have := posC_le n (cgL n ops xy.1 xy.2) L
        simp [List.length_take, List.length_drop]; omega
    rw [List.length_cons]; omega
/-! ### The run -/
abbrev MSt := List (List Int) × List (List Int)
section
variable (n most : Nat) (Q : List (List Int))
def mStep (p : List Int) (st : MSt) (q : List Int) : MSt := if st.1.length ≤ most then (if joinP n p q ∈ st.1 then st else (putC n st.1 (joinP n p q), st.2 ++ [joinP n p q])) else st
def mInn (p : List Int) (st : MSt) (k : Nat) : MSt := (Q.take k).foldl (mStep n most p) st
def mRun : Nat → MSt
  | 0 => ([idL n], [idL n])
  | k + 1 => if k < (mRun k).2.length ∧ (mRun k).1.length ≤ most then mInn n most Q ((mRun k).2.getD k []) (mRun k) Q.length else mRun k
variable {n most Q}
theorem mInn_succ {p : List Int} {st : MSt} {k : Nat} (hk : k < Q.length) : mInn n most Q p st (k + 1) = mStep n most p (mInn n most Q p st k) (Q.getD k []) := by
  unfold mInn; rw [take_snoc [] hk, List.foldl_append]; rfl
structure MInv (ops : List OpD) (st : MSt) : Prop where
  asc : AscC n st.1
  inv : JInv n ops st.2
  mem : ∀ q, q ∈ st.1 ↔ q ∈ st.2
  len : st.1.length = st.2.length
  le : st.1.length ≤ most + 1
variable {ops : List OpD}
theorem MInv.start : MInv (n := n) (most := most) ops ([idL n], [idL n]) := ⟨by simp [AscC], .start n ops, fun _ => Iff.rfl, rfl, by simp⟩
theorem mStep_inv (ho : opsIn n ops) (hQ : PrQ n ops Q) {st : MSt} (h : MInv (n := n) (most := most) ops st) {p q : List Int} (hp : p ∈ st.2) (hq : q ∈ Q) :
    MInv (n := n) (most := most) ops (mStep n most p st q) ∧ (∃ l, (mStep n most p st q).2 = st.2 ++ l) ∧ (st.1.length ≤ most → joinP n p q ∈ (mStep n most p st q).2) := by
  unfold mStep
  split
  · next hle =>
    split
    · next hm => exact ⟨h, ⟨[], (List.append_nil _).symm⟩, fun _ => (h.mem _).1 hm⟩
    · next hm =>
      have hno : joinP n p q ∉ st.2 := fun e => hm ((h.mem _).2 e)
      refine ⟨⟨putC_asc h.asc, h.inv.add (h.inv.join hQ ho hp hq) hno, fun r => ?_, ?_, ?_⟩, ⟨[joinP n p q], rfl⟩, fun _ => by simp⟩
      · rw [putC_mem, List.mem_append, List.mem_singleton, h.mem]
      · rw [putC_len hm, List.length_append, h.len]; rfl
      · show (putC n st.1 _).length ≤ _
        rw [putC_len hm]; omega
  · next hle => exact ⟨h, ⟨[], (List.append_nil _).symm⟩, fun h => absurd h hle⟩
theorem mInn_inv (ho : opsIn n ops) (hQ : PrQ n ops Q) {st : MSt} (h : MInv (n := n) (most := most) ops st) {p : List Int} (hp : p ∈ st.2) : ∀ k, k ≤ Q.length →
    MInv (n := n) (most := most) ops (mInn n most Q p st k) ∧ (∃ l, (mInn n most Q p st k).2 = st.2 ++ l) ∧ ((mInn n most Q p st k).1.length ≤ most → ∀ i, i < k → joinP n p (Q.getD i []) ∈ (mInn n most Q p st k).2)
  | 0, _ => ⟨h, ⟨[], (List.append_nil _).symm⟩, fun _ i hi => absurd hi (Nat.not_lt_zero _)⟩
  | k + 1, hk => by
    obtain ⟨h1, ⟨l, h2⟩, h3⟩ := mInn_inv ho hQ h hp k (by omega)
    have hq : Q.getD k [] ∈ Q := by rw [List.getD_eq_getElem?_getD, List.getElem?_eq_getElem (by omega)]; exact List.getElem_mem _
    have hp' : p ∈ (mInn n most Q p st k).2 := by rw [h2]; exact List.mem_append.2 (.inl hp)
    rw [mInn_succ (by omega)]
    obtain ⟨g1, ⟨m, g2⟩, g3⟩ := mStep_inv ho hQ h1 hp' hq
    refine ⟨g1, ⟨l ++ m, by rw [g2, h2, List.append_assoc]⟩, fun hle i hi => ?_⟩
    have hmono : (mInn n most Q p st k).1.length ≤ most := by
      have : (mInn n most Q p st k).2.length ≤ (mStep n most p (mInn n most Q p st k) (Q.getD k [])).2.length := by rw [g2]; simp
      rw [← h1.len, ← g1.len] at this; omega
    rcases Nat.lt_or_ge i k with hlt | hge
    · rw [g2]; exact List.mem_append.2 (.inl (h3 hmono i hlt))
    · rw [show i = k by omega]; exact g3 hmono
theorem mRun_inv (ho : opsIn n ops) (hQ : PrQ n ops Q) : ∀ k, MInv (n := n) (most := most) ops (mRun n most Q k) ∧ ((mRun n most Q k).1.length ≤ most → ∀ j, j < k → j < (mRun n most Q k).2.length → ∀ q ∈ Q, joinP n ((mRun n most Q k).2.getD j []) q ∈ (mRun n most Q k).2)
  | 0 => ⟨.start, fun _ j hj => absurd hj (Nat.not_lt_zero _)⟩
  | k + 1 => by
    obtain ⟨h1, h2⟩ := mRun_inv ho hQ k
    rw [mRun]
    split
    · next hc =>
      have hp : (mRun n most Q k).2.getD k [] ∈ (mRun n most Q k).2 := by rw [List.getD_eq_getElem?_getD, List.getElem?_eq_getElem hc.1]; exact List.getElem_mem _
      obtain ⟨g1, ⟨l, g2⟩, g3⟩ := mInn_inv ho hQ h1 hp Q.length (Nat.le_refl _)
      refine ⟨g1, fun hle j hj hjl q hq => ?_⟩
      have hat : ∀ i, i < (mRun n most Q k).2.length → (mInn n most Q ((mRun n most Q k).2.getD k []) (mRun n most Q k) Q.length).2.getD i [] = (mRun n most Q k).2.getD i [] := fun i hi => by
        rw [g2, List.getD_eq_getElem?_getD, List.getElem?_append_left hi, List.getD_eq_getElem?_getD]
      obtain ⟨i, hi, rfl⟩ := List.getElem_of_mem hq
      rcases Nat.lt_or_ge j k with hlt | hge
      · rw [hat j (by omega), g2]
        exact List.mem_append.2 (.inl (h2 hc.2 j hlt (by omega) _ hq))
      · rw [show j = k by omega, hat k hc.1]
        have := g3 hle i hi
        have e : Q.getD i [] = Q[i] := by rw [List.getD_eq_getElem?_getD, List.getElem?_eq_getElem hi]; rfl
        rwa [e] at this
    · next hc =>
      refine ⟨h1, fun hle j hj hjl q hq => ?_⟩
      have : ¬ k < (mRun n most Q k).2.length := fun h => hc ⟨h, hle⟩
      exact h2 hle j (by omega) hjl q hq
theorem mRun_stay {k : Nat} (h : ¬ (k < (mRun n most Q k).2.length ∧ (mRun n most Q k).1.length ≤ most)) : ∀ m, mRun n most Q (k + m) = mRun n most Q k
  | 0 => rfl
  | m + 1 => by
    have ih := mRun_stay h m
    rw [← Nat.add_assoc, mRun, ih, if_neg (fun h' => h ⟨by omega, h'.2⟩)]
theorem mRun_end (ho : opsIn n ops) (hQ : PrQ n ops Q) {k : Nat} (h : ¬ (k < (mRun n most Q k).2.length ∧ (mRun n most Q k).1.length ≤ most)) : mRun n most Q k = mRun n most Q (most + 2) := by
  rcases Nat.lt_or_ge k (most + 2) with hlt | hge
  · have := mRun_stay h (most + 2 - k)
    rw [show k + (most + 2 - k) = most + 2 by omega] at this
    exact this.symm
  · have hI := (mRun_inv (most := most) ho hQ (most + 2)).1
    have := mRun_stay (n := n) (most := most) (Q := Q) (k := most + 2) (fun h' => by have := hI.len; have := hI.le; omega) (k - (most + 2))
    rwa [show most + 2 + (k - (most + 2)) = k by omega] at this
end
def mostV (n : Nat) (ops : List OpD) (most : Nat) : List (List Int) := (mRun n most (prinL n ops) (most + 2)).1
theorem mostV_inv {n most : Nat} {ops : List OpD} (ho : opsIn n ops) : AscC n (mostV n ops most) ∧ (∀ q ∈ mostV n ops most, Pt n q ∧ Cong n ops q) ∧ (mostV n ops most).length ≤ most + 1 ∧ ((mostV n ops most).length ≤ most → mostV n ops most = allL n ops) := by
  obtain ⟨h1, h2⟩ := mRun_inv (most := most) ho (prin_Q n ops) (most + 2)
  have hl := h1.len
  have hle := h1.le
  refine ⟨h1.asc, fun q hq => h1.inv.ok q ((h1.mem q).1 hq), h1.le, fun hm => ?_⟩
  refine AllC.eq ⟨h1.asc, fun q => ?_⟩
  refine (h1.mem q).trans (j_all h1.inv (prin_Q n ops) ho (fun p hp q hq => ?_) q)
  obtain ⟨i, hi, rfl⟩ := List.getElem_of_mem hp
  have := h2 hm i (by omega) hi q hq
  have e : ∀ L : List (List Int), ∀ hi : i < L.length, L.getD i [] = L[i] := fun L hi => by rw [List.getD_eq_getElem?_getD, List.getElem?_eq_getElem hi]; rfl
  rwa [e _ hi] at this
theorem mostV_len {n most : Nat} {ops : List OpD} (ho : opsIn n ops) : (mostV n ops most).length ≤ (allL n ops).length := by
  obtain ⟨h1, h2, -, -⟩ := mostV_inv (most := most) ho
  exact len_le_sub (ascC_nodup h1) fun q hq => allL_mem.2 (h2 q hq)
theorem mostV_few {n most : Nat} {ops : List OpD} (ho : opsIn n ops) : (mostV n ops most).length ≤ most ↔ (allL n ops).length ≤ most :=
  ⟨fun h => by rw [← (mostV_inv ho).2.2.2 h]; exact h, fun h => Nat.le_trans (mostV_len ho) h⟩
end Go.Proofs.YtnjocjfhaahmfaaGreat
/- Walks: the reference's sorted lists of lists, lists of bits, prime filters. -/
namespace Go.Proofs.YtnjocjfhaahmfaaGreat
open Go Go.Pv Go.Proofs
set_option maxHeartbeats 32000000
set_option maxRecDepth 100000
attribute [local bitvec_to_nat] St.put St.setObj St.ev killP killA killP1 killH mapHO renP renA ren1 killG killGA killG1 krowP krowA krow1 lendP lendA lend1 unv pinP pin1 elemsM viewM viewN viewV n_set_z n_set_s n_map_c n_map_n getD_z getD_s n_toNat n_cond_t n_cond_f n_len_c n_len_n n_app_c n_app_n n_take_s n_take_z n_drop_s n_drop_z n_get_z n_get_s view viewA view1 elems Nat.zero_add Nat.add_zero Bool.not_true Bool.not_false Nat.one_ne_zero Nat.mul_one

theorem less5_c (s t : List Int) (he : s.length = t.length) (hs : s.length ≤ 1048576) : PCalls Tryz.prog 278 [ints s, ints t] (B (decide (cmpX s t < 0))) := by
  refine pcalls1 Tryz.func278 rfl Tryz.ntmps278 rfl ?_
  refine wF ?_
  repeat' (first
| refine wO ?_
| (refine o_go rfl ?_; (first
| refine wS ?_); refine ⟨_, aA, ?_⟩))
  refine g_loopT (α := Nat) (fun i => [(5, I (i : Int))]) (fun _ => []) (fun i => i ≤ s.length ∧ cmpX (s.drop i) (t.drop i) = cmpX s t) (fun i => s.length - i) 0 aF ⟨Nat.zero_le _, rfl⟩ ⟨rfl, trivial⟩ rfl ?_
  rintro i ⟨hi, hcm⟩
  dsimp only [zZ, List.set_cons_zero, List.set_cons_succ]
  by_cases hin : i < s.length
  · rw [drop_cons' 0 hin, drop_cons' 0 (show i < t.length by omega)] at hcm
    simp only [cmpX] at hcm
    repeat' (first
| refine wO ?_
| refine zP (by kernel_rfl) (by kernel_rfl) ?_
| (refine o_go rfl ?_; (first
| refine wS ?_
| refine p_p (zN rfl rfl rfl (by omega) aP (by exact rfl)) ?_); refine ⟨_, aA, ?_⟩)
| (refine g_condN rfl (fun hc => ?_) (fun hc => ?_) <;> try (exfalso; omega))
| (refine zK rfl (fun hc => ?_) (fun hc => ?_) <;> try (exfalso; omega))
| refine kr1 ?_
| refine krB rfl ?_
| refine wE ?_)
    · rw [if_neg hc] at hcm
      rw [← hcm]
      by_cases h : s.getD i 0 < t.getD i 0
      · rw [if_pos h, decide_eq_true h]; rfl
      · rw [if_neg h, decide_eq_false h]; rfl
    · rw [if_pos hc] at hcm
      exact zT (i + 1) ⟨by omega, hcm⟩ (by omega) aI ⟨rfl, trivial⟩ (zM _)
  · rw [List.drop_of_length_le (by omega), List.drop_of_length_le (by omega)] at hcm
    repeat' (first
| refine wO ?_
| (refine o_go rfl ?_; (first
| refine wS ?_); refine ⟨_, aA, ?_⟩)
| (refine zK rfl (fun hc => ?_) (fun hc => ?_) <;> try (exfalso; omega))
| refine kr1 ?_
| refine krB rfl ?_
| refine wE ?_)
    rw [← hcm]; rfl
end Go.Proofs.YtnjocjfhaahmfaaGreat
/- Walks: the shortest chain of translated pairs, the program's side. -/
namespace Go.Pv
open Go
attribute [local semireducible] Go.Pv.PStep
section
variable {P : Program} {o : Oper} {ev : Operand → PV} {hp : List HO}
theorem ps_maxV {x y : Operand} {tys : Array TypeId} {a b c : Int} (ho : o.op = .call { callee := .builtin .max, args := #[x, y], argTypes := tys }) (h1 : ev x = I a) (h2 : ev y = I b) (h : (if b > a then b else a) = c) : PStep P o ev hp (I c) := by
  subst h; exact ps_max ho h1 h2
end
end Go.Pv
namespace Go.Proofs.YtnjocjfhaahmfaaGreat
open Go Go.Pv Go.Proofs
theorem hp2 {x y : HO} {a b : List HO} (h : hpLe a b) : hpLe (x :: y :: a) (x :: y :: b) := zB rfl (zB rfl h)
end Go.Proofs.YtnjocjfhaahmfaaGreat
/- The layer: the literal of one number, as an array of one's own that may be written. -/
namespace Go.Pv
open Go
attribute [local semireducible] Go.Pv.Goal Go.Pv.Ops Go.Pv.PStep Go.Pv.EStep Go.Pv.KRets Go.Pv.PCalls Go.Pv.OpsG Go.Pv.RCalls
section
variable {P : Program} {o : Oper} {S : St}
theorem e_lit1T {t e : TypeId} {by_ : Nat} [ht : SlT P t e 1 by_] {zs : List Value} [hz : ZeroT P e zs] {x : Operand} {z : Value} (ho : o.op = .buildSlice t 1 #[(0, x)]) (h1 : S.ev x = .val z) (hp1 : (PV.val z).one = true) :
    EStep P o S (S.setObj S.hp.length (killH S.hp.length S.hp ++ [.arr true 1 e [.val z]]) o.dst (.hp S.hp.length)) := by
  intro w0 g ρ a w hr Q K hK
  have na : (∀ l, PV.val z ≠ .agg l) ∧ ∀ l, PV.val z ≠ .tup l := ⟨fun l e => (by cases e), fun l e => (by cases e)⟩
  have v1 : VRS1 g ρ S.hp (a.eval x) (.val z) := by have := hr.ev x; rw [h1] at this; exact this.to_one na.1 na.2
  have e1 : a.eval x = z := val_of (hr.ev x) h1
  obtain ⟨cells, hrun, hsz, hc0⟩ := run_lit1 ht hz (av := a.eval) ho (v1.oneCell hp1).1 w
  rw [e1] at hc0
  unfold Oper.wp
  rw [hrun]
  have hgn : ∀ o, g w.heap.size o = none := fun o => by
    cases hk : g w.heap.size o with
    | none => rfl
    | some v => exact absurd (hr.base.agree.lt hk) (Nat.lt_irrefl _)
  have hbl : RowKit.Below w.heap.size w (w.alloc (.cells cells e)) := (RowKit.Below.refl _ _).alloc (Nat.le_refl _) _
  have hbase := hr.base.push (x' := .arr true 1 e [.val z]) ⟨w.heap.size, 1, fun _ => 0, fun _ => 0⟩ (GExt.refl g) (killP1 S.hp.length) (fun v p h => h.kill S.hp.length _ (GExt.refl g) (fun i hi => killH_push _ _ hi)) (hr.base.agree.below hbl) hbl
    ⟨cells, fun _ => [.val z], ⟨by decide, Ini.own_new hr.base.below.size, by simp, by simp only [maxLen]; omega, heap_alloc_new w _, by simpa using hsz, fun k p hk => (by
      rcases k with _ | k
      · simp at hk; subst hk; exact ⟨flat_one hp1, rfl⟩
      · simp at hk), fun k j q hk hq => (by
      simp only [List.length_cons, List.length_nil] at hk
      have hk0 : k = 0 := by omega
      subst hk0
      rcases j with _ | j
      · simp at hq; subst hq; rw [Nat.zero_mul, Nat.add_zero, hc0]; exact .val z
      · simp at hq), fun k => by simp [hgn k]⟩⟩ (fun b hb => by simp only [foot] at hb; omega) (fun b hb k => rfl)
  have hv := VRS.hp_new g ρ S.hp true 1 e [.val z] ⟨w.heap.size, 1, fun _ => 0, fun _ => 0⟩
  exact hK _ _ _ _ (GExt.refl g) (hr.setObj S.hp.length _ hbase (GExt.refl g) (fun i hi => killH_push _ _ hi) hv o.dst)
theorem j_lit1T {ev : Operand → PV} {hp : List HO} {t e : TypeId} {by_ : Nat} [ht : SlT P t e 1 by_] {zs : List Value} [hz : ZeroT P e zs] {x : Operand} {z : Value} (ho : o.op = .buildSlice t 1 #[(0, x)]) (h1 : ev x = .val z) (hp1 : (PV.val z).one = true) :
    JStep P o ev hp (some hp.length) (killH hp.length hp ++ [.arr true 1 e [.val z]]) (.hp hp.length) := fun fr hfr =>
  e_lit1T (S := ⟨fr, hp⟩) (ht := ht) (hz := hz) ho ((hfr x (by simp [ho, Op.operands])).trans h1) hp1
end
end Go.Pv
/- The layer: a drawn region walked in each order, states shared. -/
namespace Go.Pv
open Go
attribute [local semireducible] Go.Pv.Goal Go.Pv.Ops Go.Pv.PStep Go.Pv.EStep Go.Pv.KRets Go.Pv.PCalls Go.Pv.OpsG
def regOps (id : Nat) : Code → List Oper
  | .region k l _ => bif k == id then l.toList else []
  | .seq a b => match regOps id a with
    | [] => regOps id b
    | x :: l => x :: l
  | .block _ c => regOps id c
  | .loop c => regOps id c
  | .cond _ a b => match regOps id a with
    | [] => regOps id b
    | x :: l => x :: l
  | _ => []
theorem at_reg0 {P : Program} {K : Exit → St → Prop} {S : St} {ops : Array Oper} {dr : Bool} (id : Nat) (h : Goal P (Code.region id ops dr) K S) : Goal P (Code.region id ops dr) K S := h
def allB (P : Program) (l : List Oper) (K : St → Prop) (n : Nat) (listed : Array Bool) (S : St) : List Nat → Prop
  | [] => True
  | i :: r => (∃ o, l[i]? = some o ∧ guardS l.toArray S.fr o = some true ∧ ∃ S1, EStep P o S S1 ∧ ∃ S2, S1 = S2 ∧ aAnyB P l.toArray K n (listed.setIfInBounds i true) S2) ∧ allB P l K n listed S r
theorem allB_mem {P : Program} {l : List Oper} {K : St → Prop} {n : Nat} {listed : Array Bool} {S : St} : ∀ {r : List Nat}, allB P l K n listed S r → ∀ i ∈ r, ∃ o, l[i]? = some o ∧ guardS l.toArray S.fr o = some true ∧ ∃ S1, EStep P o S S1 ∧ aAnyB P l.toArray K n (listed.setIfInBounds i true) S1
  | [], _, _, hi => by simp at hi
  | j :: r, h, i, hi => by
    rcases List.mem_cons.1 hi with rfl | hi
    · obtain ⟨⟨o, h1, h2, S1, h3, S2, rfl, h4⟩, -⟩ := h
      exact ⟨o, h1, h2, S1, h3, h4⟩
    · exact allB_mem h.2 i hi
theorem b_all {P : Program} {l : List Oper} {K : St → Prop} {n : Nat} {listed : Array Bool} {S : St} (rs : List Nat) (hl : Region.ready .any l.toArray listed = rs) (hne : rs.isEmpty = false) (h : allB P l K n listed S rs) : aAnyB P l.toArray K (n + 1) listed S := by
  refine ⟨fun e => ?_, fun i hi => ?_⟩
  · rw [e] at hl; subst hl; cases hne
  · rw [hl] at hi
    obtain ⟨o, h1, h2, S1, h3, h4⟩ := allB_mem h i hi
    exact ⟨o, by simpa using h1, h2, S1, h3, h4⟩
end Go.Pv
/- Plain: the congruences in their order by fineness are a lattice. -/
namespace Go.Proofs.YtnjocjfhaahmfaaGreat
open Go Go.Pv Go.Proofs

def fiB (n : Nat) (p q : List Int) : Bool := (List.range n).all fun x => decide (q.getD (bk p x) 0 = q.getD x 0)
theorem fiB_iff {n : Nat} {p q : List Int} (hp : Pt n p) (hq : Pt n q) : fiB n p q = true ↔ Fi n p q := by
  unfold fiB Fi
  rw [List.all_eq_true]
  constructor
  · intro h x hx
    have := h x (List.mem_range.2 hx)
    rw [decide_eq_true_eq, hq.val (hp.lt hx), hq.val hx] at this
    exact Int.ofNat.inj this
  · intro h x hx
    have hx := List.mem_range.1 hx
    rw [decide_eq_true_eq, hq.val (hp.lt hx), hq.val hx, h x hx]
/-! ### Rows of a list for which no other one is beyond -/
end Go.Proofs.YtnjocjfhaahmfaaGreat
/- The reference's draw of an algebra: it is there, and small. -/
namespace Go.Proofs.YtnjocjfhaahmfaaGreat
open Go Go.Pv Go.Proofs

theorem least_of {p : Nat → Prop} (h : ∃ n, p n) : ∃ n, p n ∧ ∀ m, m < n → ¬ p m := by
  obtain ⟨n, hn⟩ := h
  induction n using Nat.strongRecOn with
  | _ n ih =>
    by_cases hx : ∃ m, m < n ∧ p m
    · obtain ⟨m, h1, h2⟩ := hx; exact ih m h1 h2
    · exact ⟨n, hn, fun m hm hp => hx ⟨m, hm, hp⟩⟩
theorem smA_app {l : List OpD} (h1 : l.length ≤ 6) (h2 : ∀ f ∈ l, f.tb.length ≤ 30) : smA l := by
  refine ⟨?_, ?_⟩
  · omega
  · intro f hf; exact Nat.le_trans (h2 f hf) (by decide)
end Go.Proofs.YtnjocjfhaahmfaaGreat
/- The reference's draw of an algebra, with what is known of its size. -/
namespace Go.Proofs.YtnjocjfhaahmfaaGreat
open Go Go.Pv Go.Proofs
set_option maxHeartbeats 32000000
set_option maxRecDepth 100000

def szN (n : Int) : Prop := (0 ≤ n ∧ n ≤ 5) ∨ n = 9
theorem knownB_c (k : Int) : ∃ n ops, smA ops ∧ szN n ∧ PCalls Tryz.prog 228 [I k] (algP n ops) := by
  by_cases h : k < 0 ∨ 16 ≤ k
  · refine ⟨2, [], smA_nil, .inl ⟨by decide, by decide⟩, ?_⟩
    exact pcalls_le2 (knownX_c k h) (agg2_le (PV.le_nil 2))
  have h16 : k = 0 ∨ k = 1 ∨ k = 2 ∨ k = 3 ∨ k = 4 ∨ k = 5 ∨ k = 6 ∨ k = 7 ∨ k = 8 ∨ k = 9 ∨ k = 10 ∨ k = 11 ∨ k = 12 ∨ k = 13 ∨ k = 14 ∨ k = 15 := by omega
  rcases h16 with rfl | rfl | rfl | rfl | rfl | rfl | rfl | rfl | rfl | rfl | rfl | rfl | rfl | rfl | rfl | rfl
  · exact ⟨_, _, smA_cons (smA_nil) (by decide) (by rw [binL_len]; decide), .inl ⟨by decide, by decide⟩, known0_c⟩
  · exact ⟨_, _, smA_cons (smA_cons (smA_nil) (by decide) (by rw [binL_len]; decide)) (by decide) (by rw [binL_len]; decide), .inl ⟨by decide, by decide⟩, known1_c⟩
  · exact ⟨_, _, smA_cons (smA_cons (smA_cons (smA_nil) (by decide) (by decide)) (by decide) (by rw [binL_len]; decide)) (by decide) (by rw [binL_len]; decide), .inl ⟨by decide, by decide⟩, known2_c⟩
  · exact ⟨_, _, smA_cons (smA_nil) (by decide) (by rw [affL_len]; decide), .inl ⟨by decide, by decide⟩, known3_c⟩
  · exact ⟨_, _, smA_cons (smA_nil) (by decide) (by rw [binL_len]; decide), .inl ⟨by decide, by decide⟩, known4_c⟩
  · exact ⟨_, _, smA_cons (smA_nil) (by decide) (by rw [binL_len]; decide), .inl ⟨by decide, by decide⟩, known5_c⟩
  · exact ⟨_, _, smA_cons (smA_nil) (by decide) (by rw [binL_len]; decide), .inl ⟨by decide, by decide⟩, known6_c⟩
  · exact ⟨_, _, smA_cons (smA_cons (smA_nil) (by decide) (by rw [binL_len]; decide)) (by decide) (by rw [binL_len]; decide), .inl ⟨by decide, by decide⟩, known7_c⟩
  · exact ⟨_, _, smA_cons (smA_nil) (by decide) (by decide), .inl ⟨by decide, by decide⟩, known8_c⟩
  · exact ⟨_, _, smA_cons (smA_nil) (by decide) (by decide), .inl ⟨by decide, by decide⟩, known9_c⟩
  · exact ⟨_, _, smA_cons (smA_nil) (by decide) (by rw [binL_len]; decide), .inl ⟨by decide, by decide⟩, known10_c⟩
  · exact ⟨_, _, smA_cons (smA_cons (smA_nil) (by decide) (by rw [binL_len]; decide)) (by decide) (by rw [binL_len]; decide), .inl ⟨by decide, by decide⟩, known11_c⟩
  · exact ⟨_, _, smA_cons (smA_nil) (by decide) (by rw [binL_len]; decide), .inl ⟨by decide, by decide⟩, known12_c⟩
  · exact ⟨_, _, smA_cons (smA_cons (smA_nil) (by decide) (by decide)) (by decide) (by decide), .inl ⟨by decide, by decide⟩, known13_c⟩
  · exact ⟨_, _, smA_cons (smA_nil) (by decide) (by rw [binL_len]; decide), .inl ⟨by decide, by decide⟩, known14_c⟩
  · exact ⟨_, _, smA_cons (smA_nil) (by decide) (by rw [affL_len]; decide), .inl ⟨by decide, by decide⟩, known15_c⟩
theorem algEnd_exB {n : Nat} {c : Cu} {M : Int} (h : c.ok M) (hM : M ≤ 900000) (hn : n = 2 ∨ n = 3 ∨ n = 4) (f : OpD) (l : List OpD) (hl : l.length ≤ 1) (ht : ∀ g ∈ f :: l, g.tb.length ≤ 27) (ht1 : 1 ≤ f.tb.length) (y : Int) :
    ∃ n' ops' c', AlgEnd n c (f :: l) y n' ops' c' ∧ c'.ok (M + 20) ∧ smA ops' ∧ szN n' := by
  have hzn : szN (n : Int) := .inl ⟨by omega, by omega⟩
  have hf := ht f (List.mem_cons_self ..)
  have hl' : ∀ g ∈ l, g.tb.length ≤ 30 := fun g hg => Nat.le_trans (ht g (List.mem_cons_of_mem _ hg)) (by decide)
  have sm0 : ∀ g : OpD, g.tb.length ≤ 30 → smA (g :: l) := fun g hg => smA_app (by rw [List.length_cons]; omega) fun x hx => by
    rcases List.mem_cons.1 hx with rfl | hx
    · exact hg
    · exact hl' x hx
  by_cases y0 : y = 0
  · obtain ⟨c', z, k1, hz, hc⟩ := among_L h (by omega) [0, 9, (n : Int) + 1] (by simp) (by simp)
    simp only [List.mem_cons, List.not_mem_nil, or_false] at hz
    exact ⟨z, _, c', .size z c' y0 hc, k1.up (by omega), sm0 f (by omega), by unfold szN; omega⟩
  by_cases y1 : y = 1
  · exact ⟨_, _, _, .more f l y1 rfl, h.up (by omega), sm0 _ (by simp; omega), hzn⟩
  by_cases y2 : y = 2
  · obtain ⟨c1, p, k1, p0, p1, hc1⟩ := pick_L h (by omega) (f.tb.length : Int) (by omega)
    obtain ⟨c', v, k2, -, hc2⟩ := among_L k1 (by omega) [-1, (n : Int)] (by simp) (by simp)
    exact ⟨_, _, _, .cell f l p v c1 c' y2 rfl p0 (by omega) hc1 hc2, k2.up (by omega), sm0 _ (by simp; omega), hzn⟩
  by_cases y3 : y = 3
  · obtain ⟨c', v, k1, -, hc⟩ := among_L h (by omega) [-1, 4] (by simp) (by simp)
    exact ⟨_, _, _, .ar f l v c' y3 rfl hc, k1.up (by omega), sm0 _ (by simp; omega), hzn⟩
  by_cases y4 : y = 4
  · obtain ⟨E, E0, E1, E2⟩ := seq_of (fun t (s : Cu × Int) => s.1.ok (M + 2 * (t : Int)) ∧ 0 ≤ s.2 ∧ s.2 ≤ 1) (fun t s s' => LCalls Tryz.prog 218 (cuB s.1) [.hat 0 0, I 2] (cuB s'.1) (I s'.2)) ((c, 0) : Cu × Int) 6 ⟨by simpa using h, Int.le_refl _, Int.zero_le_ofNat 1⟩ fun t s ht ⟨k0, _, _⟩ => by
      obtain ⟨c', x, k1, x0, x1, hc⟩ := pick_L k0 (by omega) 2 (by omega)
      exact ⟨(c', x), ⟨by rw [show M + 2 * ((t + 1 : Nat) : Int) = M + 2 * (t : Int) + 2 by omega]; exact k1, x0, by omega⟩, hc⟩
    have hE : ∀ t, t < 6 → 0 ≤ (E (t + 1)).2 ∧ (E (t + 1)).2 ≤ 1 := fun t ht => (E1 (t + 1) (by omega)).2
    obtain ⟨R, hR, hR1, hR2⟩ : ∃ R, R ≤ 5 ∧ (∀ t, t < R → (((f :: l).length + t : Nat) : Int) < 4 + (E (t + 1)).2) ∧ ¬ (((f :: l).length + R : Nat) : Int) < 4 + (E (R + 1)).2 := by
      have hex : ∃ R, ¬ (((f :: l).length + R : Nat) : Int) < 4 + (E (R + 1)).2 ∧ R ≤ 5 := ⟨5, by have := hE 5 (by decide); rw [List.length_cons]; omega, Nat.le_refl _⟩
      obtain ⟨R, ⟨r1, r2⟩, r3⟩ := least_of hex
      exact ⟨R, r2, fun t ht => Classical.byContradiction fun hh => r3 t ht ⟨hh, by omega⟩, r1⟩
    have hlen : (f :: l).length ≤ 2 := by rw [List.length_cons]; omega
    refine ⟨_, _, _, .fill E R y4 (by rw [E0]) hR (fun t ht => E2 t (by omega)) (fun t ht => hE t (by omega)) hR1 hR2, (E1 (R + 1) (by omega)).1.up (by omega), ?_, hzn⟩
    have hRR : (f :: l).length + R ≤ 6 := by
      rcases Nat.eq_zero_or_pos R with rfl | hp
      · omega
      · have := hR1 (R - 1) (by omega); have := hE (R - 1) (by omega); omega
    refine smA_app (by rw [List.length_append, List.length_replicate]; exact hRR) fun g hg => ?_
    rcases List.mem_append.1 hg with hg | hg
    · exact Nat.le_trans (ht g hg) (by decide)
    · rw [(List.mem_replicate.1 hg).2, List.length_replicate]; omega
  · exact ⟨_, _, _, .none (by omega), h.up (by omega), sm0 f (by omega), hzn⟩
theorem algebra_B {c : Cu} {M : Int} (h : c.ok M) (hM : M ≤ 600000) : ∃ c' n ops, c'.ok (M + 1000) ∧ smA ops ∧ szN n ∧ LCalls Tryz.prog 156 (cuB c) [.hat 0 0] (cuB c') (algP n ops) := by
  obtain ⟨c1, b, k1, h1⟩ := one_L h (by omega) 4 (by decide)
  cases b with
  | false =>
    obtain ⟨c2, x, k2, -, -, h2⟩ := pick_L k1 (by omega) 17 (by decide)
    obtain ⟨n, ops, hs, hz, h3⟩ := knownB_c x
    exact ⟨c2, n, ops, k2.up (by omega), hs, hz, alg_w0 h1 h2 h3⟩
  | true =>
    obtain ⟨c2, x, k2, hx, h2⟩ := among_L k1 (by omega) [2, 2, 3, 3, 4] (by decide) (by decide)
    obtain ⟨n, rfl, hn⟩ : ∃ n : Nat, x = (n : Int) ∧ (n = 2 ∨ n = 3 ∨ n = 4) := by
      simp only [List.mem_cons, List.not_mem_nil, or_false] at hx
      exact ⟨x.toNat, by omega, by omega⟩
    obtain ⟨c3, y, k3, hy, h3⟩ := among_L k2 (by omega) [1, 1, 2] (by decide) (by decide)
    obtain ⟨K, rfl, hK⟩ : ∃ n : Nat, y = (n : Int) ∧ (n = 1 ∨ n = 2) := by
      simp only [List.mem_cons, List.not_mem_nil, or_false] at hy
      exact ⟨y.toNat, by omega, by omega⟩
    obtain ⟨D, D0, D1, D2⟩ := seq_of (fun i (s : Cu × List OpD) => s.1.ok (M + 6 + 100 * (i : Int)) ∧ s.2.length = i ∧ ∀ f ∈ s.2, 1 ≤ f.tb.length ∧ f.tb.length ≤ 27)
      (fun i s s' => ∃ f c', Nonempty (OpDr n s.1 f c') ∧ 1 ≤ f.tb.length ∧ f.tb.length ≤ 27 ∧ s' = (c', s.2 ++ [f])) ((c3, []) : Cu × List OpD) K ⟨k3.up (by omega), rfl, fun f hf => by simp at hf⟩ fun i s hi ⟨s1, s2, s3⟩ => by
        obtain ⟨f, c', hN, hc, t1, t2⟩ := opdr_ex s1 (by omega) hn
        refine ⟨(c', s.2 ++ [f]), ⟨by rw [show M + 6 + 100 * ((i + 1 : Nat) : Int) = M + 6 + 100 * (i : Int) + 100 by omega]; exact hc, by simp [s2], fun g hg => ?_⟩, f, c', hN, t1, t2, rfl⟩
        rcases List.mem_append.1 hg with hg | hg
        · exact s3 g hg
        · rw [List.mem_singleton] at hg; subst hg; exact ⟨t1, t2⟩
    obtain ⟨q1, q2, q3⟩ := D1 K (Nat.le_refl _)
    obtain ⟨c5, z, k5, -, -, h4⟩ := pick_L q1 (by omega) 16 (by decide)
    obtain ⟨f, l, hfl⟩ : ∃ f l, (D K).2 = f :: l := by
      cases hd : (D K).2 with
      | nil => rw [hd] at q2; simp at q2; omega
      | cons f l => exact ⟨f, l, rfl⟩
    obtain ⟨n', ops', c', e1, e2, e3, e4⟩ := algEnd_exB k5 (by omega) hn f l (by rw [hfl] at q2; simp at q2; omega) (fun g hg => (q3 g (by rw [hfl]; exact hg)).2) (q3 f (by rw [hfl]; exact List.mem_cons_self ..)).1 z
    exact ⟨c', n', ops', e2.up (by omega), e3, e4, alg_w hn hK h1 h2 h3 D0 D2 (fun i hi => (D1 i hi).2.1) (fun i hi f hf => ((D1 i hi).2.2 f hf).2) h4 (by rw [hfl]; exact e1)⟩
end Go.Proofs.YtnjocjfhaahmfaaGreat
