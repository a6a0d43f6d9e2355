/- Plain: congruences that permute, distributive ones, elements that solve congruences together. -/
import Derived.Test.YtkdagmbgjddopaaJKb
import Derived.Test.YtkdagmbgjddopaaJZb
import Derived.Test.YtkdagmbgjddopaaJPr
import Derived.Test.YtkdagmbgjddopaaJKc
import Derived.Test.YtkdagmbgjddopaaJKo
import Derived.Test.YtkdagmbgjddopaaJKg
namespace Go.Proofs.Ytkdagmbgjddopaa
open Go Go.Pv Go.Proofs

def Prd (n : Nat) (p q : List Int) (x z : Nat) : Prop := ∃ y, y < n ∧ bk p x = bk p y ∧ bk q y = bk q z
def Prm (n : Nat) (p q : List Int) : Prop := ∀ x z, x < n → z < n → Prd n p q x z → Prd n q p x z
theorem Prd.swap {n : Nat} {p q : List Int} {x z : Nat} (h : Prd n p q x z) : Prd n q p z x := by
  obtain ⟨y, hy, h1, h2⟩ := h
  exact ⟨y, hy, h2.symm, h1.symm⟩
theorem Prm.symm {n : Nat} {p q : List Int} (h : Prm n p q) : Prm n q p := fun x z hx hz hp => (h z x hz hx hp.swap).swap
theorem prd_join {n : Nat} {p q : List Int} (hp : Pt n p) (hq : Pt n q) {x z : Nat} (hx : x < n) (hz : z < n) (h : Prd n p q x z) : bk (joinP n p q) x = bk (joinP n p q) z := by
  obtain ⟨y, hy, h1, h2⟩ := h
  exact (fi_R (join_fi1 hp hq) hx hy h1).trans (fi_R (join_fi2 hp hq) hy hz h2)
theorem prm_join {n : Nat} {p q : List Int} (hp : Pt n p) (hq : Pt n q) (h : Prm n p q) {x z : Nat} (hx : x < n) (hz : z < n) : bk (joinP n p q) x = bk (joinP n p q) z ↔ Prd n p q x z := by
  refine ⟨fun he => ?_, prd_join hp hq hx hz⟩
  let E : Nat → Nat → Prop := fun a b => (a < n ∧ b < n ∧ Prd n p q a b) ∨ a = b
  have hE : Equivalence E := by
    refine ⟨fun a => .inr rfl, fun {a b} hab => ?_, fun {a b c} hab hbc => ?_⟩
    · rcases hab with ⟨h1, h2, h3⟩ | rfl
      · exact .inl ⟨h2, h1, h.symm _ _ h2 h1 h3.swap⟩
      · exact .inr rfl
    · rcases hab with ⟨h1, h2, y, hy, y1, y2⟩ | rfl
      · rcases hbc with ⟨-, g2, w, hw, w1, w2⟩ | rfl
        · -- a p y q b p w q c : y (q p) w, so y (p q) w
          obtain ⟨u, hu, u1, u2⟩ := h.symm y w hy hw ⟨b, h2, y2, w1⟩
          exact .inl ⟨h1, g2, u, hu, y1.trans u1, u2.trans w2⟩
        · exact .inl ⟨h1, h2, y, hy, y1, y2⟩
      · exact hbc
  have key := join_leastE hp hq hE (fun z hz => .inl ⟨hp.lt hz, hz, z, hz, hp.id z hz, rfl⟩) (fun z hz => .inl ⟨hq.lt hz, hz, bk q z, hq.lt hz, rfl, hq.id z hz⟩)
  have h1 : E (bk (joinP n p q) x) x := key x hx
  have h2 : E (bk (joinP n p q) z) z := key z hz
  rw [he] at h1
  rcases hE.trans (hE.symm h1) h2 with ⟨-, -, h3⟩ | rfl
  · exact h3
  · exact ⟨x, hx, rfl, rfl⟩
/-! ### The partition with one block -/
def fullL (n : Nat) : List Int := List.replicate n 0
theorem bk_full (n x : Nat) : bk (fullL n) x = 0 := by
  unfold bk fullL
  rw [List.getD_eq_getElem?_getD, List.getElem?_replicate]
  split <;> rfl
theorem full_pt (n : Nat) : Pt n (fullL n) := by
  refine ⟨by simp [fullL], fun x hx => ?_, fun x _ => by rw [bk_full]; exact Nat.zero_le _, fun x _ => by rw [bk_full, bk_full]⟩
  unfold fullL
  rw [List.getD_eq_getElem?_getD, List.getElem?_replicate, if_pos hx]; exact Int.le_refl _
theorem full_cong {n : Nat} (ops : List OpD) : Cong n ops (fullL n) := fun f _ i _ j _ => by rw [bk_full, bk_full]
/-! ### Distributive congruences -/
def Dis (n : Nat) (ops : List OpD) : Prop := ∀ p q r, Pt n p → Pt n q → Pt n r → Cong n ops p → Cong n ops q → Cong n ops r → Fi n (meetP n p (joinP n q r)) (joinP n (meetP n p q) (meetP n p r))
def Arith (n : Nat) (ops : List OpD) : Prop := Dis n ops ∧ ∀ p q, Pt n p → Pt n q → Cong n ops p → Cong n ops q → Prm n p q
theorem dis_dual {n : Nat} {ops : List OpD} (ho : opsIn n ops) (h : Dis n ops) {a b t : List Int} (ha : Pt n a) (hb : Pt n b) (ht : Pt n t) (ca : Cong n ops a) (cb : Cong n ops b) (ct : Cong n ops t) : Fi n (meetP n (joinP n a t) (joinP n b t)) (joinP n (meetP n a b) t) := by
  have pj := join_pt ha ht
  have cj := join_cong ho ha ht ca ct
  have hm : Pt n (meetP n a b) := meet_pt
  have hr := join_pt hm ht
  refine fi_trans meet_pt (h _ _ _ pj hb ht cj cb ct) (join_least meet_pt meet_pt ?_ ?_)
  · -- (a v t) ^ b below (a ^ b) v t
    have e : Fi n (meetP n (joinP n a t) b) (meetP n b (joinP n a t)) := meet_most meet_pt meet_fi2 meet_fi1
    refine fi_trans meet_pt e (fi_trans meet_pt (h _ _ _ hb ha ht cb ca ct) (join_least meet_pt meet_pt ?_ ?_))
    · exact fi_trans meet_pt (meet_most meet_pt meet_fi2 meet_fi1) (join_fi1 hm ht)
    · exact fi_trans meet_pt meet_fi2 (join_fi2 hm ht)
  · exact fi_trans meet_pt meet_fi2 (join_fi2 hm ht)
def Slv (L : List (List Int × Nat)) (x : Nat) : Prop := ∀ pa ∈ L, bk pa.1 x = bk pa.1 pa.2
def meetAll (n : Nat) (L : List (List Int × Nat)) : List Int := L.foldr (fun pa m => meetP n pa.1 m) (fullL n)
theorem meetAll_facts {n : Nat} {ops : List OpD} (ho : opsIn n ops) : ∀ {L : List (List Int × Nat)}, (∀ pa ∈ L, Pt n pa.1 ∧ Cong n ops pa.1 ∧ pa.2 < n) → Pt n (meetAll n L) ∧ Cong n ops (meetAll n L) ∧ ∀ pa ∈ L, Fi n (meetAll n L) pa.1
  | [], _ => ⟨full_pt n, full_cong ops, fun _ h => by cases h⟩
  | pa :: L, h => by
    obtain ⟨h1, h2, h3⟩ := meetAll_facts ho (L := L) fun x hx => h x (List.mem_cons_of_mem _ hx)
    obtain ⟨g1, g2, -⟩ := h pa (List.mem_cons_self ..)
    refine ⟨meet_pt, meet_cong ho g1 h1 g2 h2, fun x hx => ?_⟩
    rcases List.mem_cons.1 hx with rfl | hx
    · exact meet_fi1
    · exact fi_trans meet_pt meet_fi2 (h3 x hx)
theorem meetAll_join {n : Nat} {ops : List OpD} (ho : opsIn n ops) (hd : Dis n ops) {t : List Int} (ht : Pt n t) (ct : Cong n ops t) {x y : Nat} (hx : x < n) (hy : y < n) : ∀ {L : List (List Int × Nat)}, (∀ pa ∈ L, Pt n pa.1 ∧ Cong n ops pa.1 ∧ pa.2 < n) → (∀ pa ∈ L, bk (joinP n pa.1 t) x = bk (joinP n pa.1 t) y) → bk (joinP n (meetAll n L) t) x = bk (joinP n (meetAll n L) t) y
  | [], _, _ => fi_R (join_fi1 (full_pt n) ht) hx hy (by rw [bk_full, bk_full])
  | pa :: L, h, hj => by
    have hL : ∀ pa ∈ L, Pt n pa.1 ∧ Cong n ops pa.1 ∧ pa.2 < n := fun x hx => h x (List.mem_cons_of_mem _ hx)
    have ih := meetAll_join ho hd ht ct hx hy hL fun x hx => hj x (List.mem_cons_of_mem _ hx)
    obtain ⟨h1, h2, -⟩ := meetAll_facts ho hL
    obtain ⟨g1, g2, -⟩ := h pa (List.mem_cons_self ..)
    exact fi_R (dis_dual ho hd g1 h1 ht g2 h2 ct) hx hy ((meet_R hx hy).2 ⟨hj pa (List.mem_cons_self ..), ih⟩)
theorem solve_all {n : Nat} {ops : List OpD} (hn : 0 < n) (ho : opsIn n ops) (ha : Arith n ops) : ∀ {L : List (List Int × Nat)}, (∀ pa ∈ L, Pt n pa.1 ∧ Cong n ops pa.1 ∧ pa.2 < n) → (∀ pa ∈ L, ∀ qb ∈ L, ∃ z, z < n ∧ bk pa.1 z = bk pa.1 pa.2 ∧ bk qb.1 z = bk qb.1 qb.2) → ∃ x, x < n ∧ Slv L x
  | [], _, _ => ⟨0, hn, fun _ h => by cases h⟩
  | (t, b) :: L, h, hp => by
    have hL : ∀ pa ∈ L, Pt n pa.1 ∧ Cong n ops pa.1 ∧ pa.2 < n := fun x hx => h x (List.mem_cons_of_mem _ hx)
    obtain ⟨x, hx, hs⟩ := solve_all hn ho ha hL fun pa h1 qb h2 => hp pa (List.mem_cons_of_mem _ h1) qb (List.mem_cons_of_mem _ h2)
    obtain ⟨t1, t2, t3⟩ := h (t, b) (List.mem_cons_self ..)
    obtain ⟨m1, m2, m3⟩ := meetAll_facts ho hL
    have hj := meetAll_join ho ha.1 t1 t2 hx t3 hL fun pa hpa => by
      obtain ⟨z, hz, z1, z2⟩ := hp pa (List.mem_cons_of_mem _ hpa) (t, b) (List.mem_cons_self ..)
      have hq := (hL pa hpa).1
      exact prd_join hq t1 hx t3 ⟨z, hz, (hs pa hpa).trans z1.symm, z2⟩
    obtain ⟨y, hy, y1, y2⟩ := (prm_join m1 t1 (ha.2 _ _ m1 t1 m2 t2) hx t3).1 hj
    refine ⟨y, hy, fun pa hpa => ?_⟩
    rcases List.mem_cons.1 hpa with rfl | hpa
    · exact y2
    · exact ((fi_R (m3 pa hpa) hx hy y1).symm).trans (hs pa hpa)
end Go.Proofs.Ytkdagmbgjddopaa
/- sortRows as a call to which the rows are lent. -/
namespace Go.Proofs.Ytkdagmbgjddopaa
open Go Go.Proofs Go.Shelf Go.RowKit Go.Lib Go.Sort Go.Pv

theorem heap_grow_other (w : World) (q blk : Nat) {α : Type} [Inhabited α] (enc : α → Value) (d : Array α) (os : Array Obj) {k : Nat} (hk : k < w.heap.size) (hne : k ≠ blk) : (grow (putRow enc (Sort.ahead w q) blk 0 d) os).heap[k]? = w.heap[k]? := by
  show ((Array.modify w.heap blk _) ++ os)[k]? = _
  rw [Array.getElem?_append_left (by simpa using hk), Array.getElem?_modify]
  rw [if_neg (Ne.symm hne)]
theorem heap_grow_row (w : World) (q blk : Nat) {α : Type} [Inhabited α] (enc : α → Value) (d : Array α) (os : Array Obj) {cur : Array Value} {e : TypeId} {fz : Nat × Nat} (h : w.heap[blk]? = some (.cells cur e fz)) : (grow (putRow enc (Sort.ahead w q) blk 0 d) os).heap[blk]? = some (.cells (putCells enc 0 d cur) e fz) := by
  have hk : blk < w.heap.size := (Array.getElem?_eq_some_iff.1 h).1
  show ((Array.modify w.heap blk _) ++ os)[blk]? = _
  rw [Array.getElem?_append_left (by simpa using hk), Array.getElem?_modify, if_pos rfl, h]
  rfl
theorem putCells_at {α : Type} [Inhabited α] (enc : α → Value) (d : Array α) (cur : Array Value) (j : Nat) (hj : j < cur.size) : (putCells enc 0 d cur).getD j undef = if j < d.size then enc d[j]! else cur.getD j undef := by
  unfold putCells
  simp [Array.getD_eq_getD_getElem?, hj]
theorem size_putCells {α : Type} [Inhabited α] (enc : α → Value) (d : Array α) (cur : Array Value) : (putCells enc 0 d cur).size = cur.size := by simp [putCells]
theorem grow_below (w : World) (os : Array Obj) : RowKit.Below w.heap.size w (grow w os) :=
  ⟨rfl, rfl, rfl, by rw [size_grow]; omega, fun k hk => by
    show (w.heap ++ os)[k]? = _
    rw [Array.getElem?_append_left hk]⟩
theorem belowL_of {w0 : Ini} {w' : World} (h : RowKit.Below w0.w.heap.size w0.w w') : BelowL w0 w' := (BelowL.refl w0).step h
theorem row_cells {g : Ghost} {w : World} {D : Nat → Bool} {e1 e2 : TypeId} {rows : List (List Int)} {L : Pv.Loc} {cur : Array Value} {rc : Nat → Array Value} (hg : GridOwn g w D e1 e2 (rows.map fun r => r.map I).length (rows.map fun r => r.map I) L cur rc) {i : Nat} (hi : i < rows.length) :
    cur.getD i undef = .slice (some ⟨L.rows i, 0, none⟩) (rows.getD i []).length (L.caps i) ∧ w.heap[L.rows i]? = some (.cells (rc i) e2 (0, 0)) ∧ (rc i).size = L.caps i ∧ (rows.getD i []).length ≤ L.caps i ∧ L.caps i ≤ maxLen ∧ ∀ k, k < (rows.getD i []).length → (rc i).getD k undef = .int .i64 ((rows.getD i []).getD k 0) := by
  have hr : (rows.map fun r => r.map I)[i]? = some ((rows.getD i []).map I) := idx_gridI hi
  obtain ⟨a1, a2, a3, a4⟩ := hg.hrow i _ hr
  refine ⟨by simpa using a1, a3, a4, by simpa using a2.1, a2.2, fun k hk => ?_⟩
  have := (hg.hv i _ k (I ((rows.getD i []).getD k 0)) hr (idx_I hk)).2
  exact VR.val_inv this
end Go.Proofs.Ytkdagmbgjddopaa
/- The layer: a drawn region walked in each order, states shared. -/
namespace Go.Pv
open Go
attribute [local semireducible] Go.Pv.Goal Go.Pv.Ops Go.Pv.PStep Go.Pv.EStep Go.Pv.KRets Go.Pv.PCalls Go.Pv.OpsG
def regOps (id : Nat) : Code → List Oper
  | .region k l _ => bif k == id then l.toList else []
  | .seq a b => match regOps id a with
    | [] => regOps id b
    | x :: l => x :: l
  | .block _ c => regOps id c
  | .loop c => regOps id c
  | .cond _ a b => match regOps id a with
    | [] => regOps id b
    | x :: l => x :: l
  | _ => []
theorem at_reg0 {P : Program} {K : Exit → St → Prop} {S : St} {ops : Array Oper} {dr : Bool} (id : Nat) (h : Goal P (Code.region id ops dr) K S) : Goal P (Code.region id ops dr) K S := h
def allB (P : Program) (l : List Oper) (K : St → Prop) (n : Nat) (listed : Array Bool) (S : St) : List Nat → Prop
  | [] => True
  | i :: r => (∃ o, l[i]? = some o ∧ guardS l.toArray S.fr o = some true ∧ ∃ S1, EStep P o S S1 ∧ ∃ S2, S1 = S2 ∧ aAnyB P l.toArray K n (listed.setIfInBounds i true) S2) ∧ allB P l K n listed S r
theorem allB_mem {P : Program} {l : List Oper} {K : St → Prop} {n : Nat} {listed : Array Bool} {S : St} : ∀ {r : List Nat}, allB P l K n listed S r → ∀ i ∈ r, ∃ o, l[i]? = some o ∧ guardS l.toArray S.fr o = some true ∧ ∃ S1, EStep P o S S1 ∧ aAnyB P l.toArray K n (listed.setIfInBounds i true) S1
  | [], _, _, hi => by simp at hi
  | j :: r, h, i, hi => by
    rcases List.mem_cons.1 hi with rfl | hi
    · obtain ⟨⟨o, h1, h2, S1, h3, S2, rfl, h4⟩, -⟩ := h
      exact ⟨o, h1, h2, S1, h3, h4⟩
    · exact allB_mem h.2 i hi
theorem b_all {P : Program} {l : List Oper} {K : St → Prop} {n : Nat} {listed : Array Bool} {S : St} (rs : List Nat) (hl : Region.ready .any l.toArray listed = rs) (hne : rs.isEmpty = false) (h : allB P l K n listed S rs) : aAnyB P l.toArray K (n + 1) listed S := by
  refine ⟨fun e => ?_, fun i hi => ?_⟩
  · rw [e] at hl; subst hl; cases hne
  · rw [hl] at hi
    obtain ⟨o, h1, h2, S1, h3, h4⟩ := allB_mem h i hi
    exact ⟨o, by simpa using h1, h2, S1, h3, h4⟩
end Go.Pv
