/- Plain: lists of pairs and of congruences that grow until nothing is new. -/
import Derived.Test.YtepjlgilopfnpaaGreatRows
import Derived.ProofKit
import Derived.Test.YtepjlgilopfnpaaGreatJKc
import Derived.Test.YtepjlgilopfnpaaGreatJNb
import Derived.Test.YtepjlgilopfnpaaGreatJTy
set_option linter.unusedSectionVars false
namespace Go.Proofs.YtepjlgilopfnpaaGreat
open Go Go.Pv Go.Proofs

def kyP (n s t : Nat) : Nat := min s t * n + max s t
theorem kyP_symm (n s t : Nat) : kyP n s t = kyP n t s := by unfold kyP; rw [Nat.min_comm, Nat.max_comm]
theorem kyP_lt {n s t : Nat} (hs : s < n) (ht : t < n) : kyP n s t < n * n := by
 unfold kyP
 have h1 : (min s t + 1) * n ≤ n * n := Nat.mul_le_mul_right _ (by omega)
 rw [Nat.add_mul, Nat.one_mul] at h1
 omega
def hasP (n : Nat) (L : List (Nat × Nat)) (s t : Nat) : Bool := (L.map fun pr => kyP n pr.1 pr.2).contains (kyP n s t)
theorem hasP_symm (n : Nat) (L : List (Nat × Nat)) (s t : Nat) : hasP n L s t = hasP n L t s := by unfold hasP; rw [kyP_symm]
theorem hasP_app {n : Nat} {L : List (Nat × Nat)} {s t u v : Nat} : hasP n (L ++ [(u, v)]) s t = (hasP n L s t || kyP n s t == kyP n u v) := by
 unfold hasP
 rw [List.map_append, List.contains_eq_mem, List.contains_eq_mem, Bool.eq_iff_iff]
 simp only [List.map_cons, List.map_nil, List.mem_append, List.mem_singleton, decide_eq_true_eq, Bool.or_eq_true, beq_iff_eq]
theorem hasP_mono {n : Nat} {L : List (Nat × Nat)} {s t : Nat} (l : List (Nat × Nat)) (h : hasP n L s t = true) : hasP n (L ++ l) s t = true := by
 unfold hasP at *
 rw [List.contains_eq_mem, decide_eq_true_eq] at *
 rw [List.map_append, List.mem_append]; exact .inl h
theorem mem_hasP {n : Nat} {L : List (Nat × Nat)} {s t : Nat} (h : (s, t) ∈ L) : hasP n L s t = true := by
 unfold hasP
 rw [List.contains_eq_mem, decide_eq_true_eq]
 exact List.mem_map.2 ⟨_, h, rfl⟩
structure TInv (n : Nat) (ops : List OpD) (x y : Nat) (L : List (Nat × Nat)) : Prop where
 nd : (L.map fun pr => kyP n pr.1 pr.2).Nodup
 ok : ∀ pr ∈ L, TrP n ops x y pr.1 pr.2
 mem : hasP n L x y = true
theorem TInv.lt {n : Nat} {ops : List OpD} {x y : Nat} {L : List (Nat × Nat)} (h : TInv n ops x y L) (ho : opsIn n ops) (hx : x < n) (hy : y < n) : ∀ pr ∈ L, pr.1 < n ∧ pr.2 < n := fun pr hp => (h.ok pr hp).lt ho hx hy
theorem TInv.len {n : Nat} {ops : List OpD} {x y : Nat} {L : List (Nat × Nat)} (h : TInv n ops x y L) (ho : opsIn n ops) (hx : x < n) (hy : y < n) : L.length ≤ n * n := by
 have := nodup_lt_len h.nd (n := n * n) fun k hk => by
  obtain ⟨pr, hp, rfl⟩ := List.mem_map.1 hk
  exact kyP_lt (h.lt ho hx hy pr hp).1 (h.lt ho hx hy pr hp).2
 rwa [List.length_map] at this
theorem TInv.start {n : Nat} {ops : List OpD} {x y u v : Nat} (h : (u, v) = (x, y) ∨ (u, v) = (y, x)) : TInv n ops x y [(u, v)] where
 nd := by simp
 ok := fun pr hp => by
  rw [List.mem_singleton] at hp
  subst hp
  rcases h with h | h <;> cases h
  · exact .base
  · exact .sym .base
 mem := by
  rcases h with h | h <;> cases h
  · exact mem_hasP (List.mem_singleton.2 rfl)
  · rw [hasP_symm]; exact mem_hasP (List.mem_singleton.2 rfl)
theorem TInv.add {n : Nat} {ops : List OpD} {x y u v a b : Nat} {L : List (Nat × Nat)} (h : TInv n ops x y L) (ht : TrP n ops x y u v) (hw : (a, b) = (u, v) ∨ (a, b) = (v, u)) (hno : hasP n L u v = false) : TInv n ops x y (L ++ [(a, b)]) ∧ hasP n (L ++ [(a, b)]) u v = true := by
 have hk : kyP n a b = kyP n u v := by
  rcases hw with hw | hw <;> cases hw
  · rfl
  · exact kyP_symm ..
 refine ⟨⟨?_, fun pr hp => ?_, hasP_mono _ h.mem⟩, by rw [hasP_app, hk]; simp⟩
 · rw [List.map_append, List.nodup_append]
   refine ⟨h.nd, by simp, fun k hk' m hm => ?_⟩
   simp only [List.map_cons, List.map_nil, List.mem_singleton] at hm
   subst hm
   intro e
   unfold hasP at hno
   rw [List.contains_eq_mem, decide_eq_false_iff_not] at hno
   exact hno (by rw [← hk, ← e]; exact hk')
 · rcases List.mem_append.1 hp with hp | hp
   · exact h.ok pr hp
   · rw [List.mem_singleton] at hp
     subst hp
     rcases hw with hw | hw <;> cases hw
     · exact ht
     · exact .sym ht
def Ti (n : Nat) (L : List (Nat × Nat)) (f : OpD) (s t k j : Nat) : Prop := digN n j k = s → hasP n L (bk f.tb j) (bk f.tb (subN n j k t)) = true
theorem Ti.mono {n : Nat} {L : List (Nat × Nat)} {f : OpD} {s t k j : Nat} (l : List (Nat × Nat)) (h : Ti n L f s t k j) : Ti n (L ++ l) f s t k j := fun hd => hasP_mono l (h hd)
def ClP (n : Nat) (ops : List OpD) (L : List (Nat × Nat)) (pr : Nat × Nat) : Prop := ∀ f ∈ ops, ∀ k, k < f.ar.toNat → ∀ j, j < n ^ f.ar.toNat → Ti n L f pr.1 pr.2 k j
theorem ClP.mono {n : Nat} {ops : List OpD} {L : List (Nat × Nat)} {pr : Nat × Nat} (l : List (Nat × Nat)) (h : ClP n ops L pr) : ClP n ops (L ++ l) pr := fun f hf k hk j hj => (h f hf k hk j hj).mono l
/-! ### All congruences, by joins with principal ones -/
def PrQ (n : Nat) (ops : List OpD) (Q : List (List Int)) : Prop := (∀ q ∈ Q, ∃ x y, x < y ∧ y < n ∧ q = cgL n ops x y) ∧ ∀ x y, x < y → y < n → cgL n ops x y ∈ Q
structure JInv (n : Nat) (ops : List OpD) (L : List (List Int)) : Prop where
 nd : L.Nodup
 ok : ∀ q ∈ L, Pt n q ∧ Cong n ops q
 id : idL n ∈ L
theorem JInv.start (n : Nat) (ops : List OpD) : JInv n ops [idL n] where
 nd := by simp
 ok := fun q hq => by rw [List.mem_singleton] at hq; subst hq; exact ⟨idL_pt n, idL_cong ops⟩
 id := by simp
theorem PrQ.cong {n : Nat} {ops : List OpD} {Q : List (List Int)} (h : PrQ n ops Q) (ho : opsIn n ops) {q : List Int} (hq : q ∈ Q) : Pt n q ∧ Cong n ops q := by
 obtain ⟨x, y, h1, h2, rfl⟩ := h.1 q hq
 have hg := cg_lst ho (show x < n by omega) h2
 exact ⟨hg.pt, hg.cong⟩
theorem JInv.join {n : Nat} {ops : List OpD} {L Q : List (List Int)} (h : JInv n ops L) (hQ : PrQ n ops Q) (ho : opsIn n ops) {p q : List Int} (hp : p ∈ L) (hq : q ∈ Q) : Pt n (joinP n p q) ∧ Cong n ops (joinP n p q) :=
 ⟨join_pt (h.ok p hp).1 (hQ.cong ho hq).1, join_cong ho (h.ok p hp).1 (hQ.cong ho hq).1 (h.ok p hp).2 (hQ.cong ho hq).2⟩
theorem JInv.add {n : Nat} {ops : List OpD} {L : List (List Int)} (h : JInv n ops L) {q : List Int} (hq : Pt n q ∧ Cong n ops q) (hno : q ∉ L) : JInv n ops (L ++ [q]) where
 nd := by
  rw [List.nodup_append]
  refine ⟨h.nd, by simp, fun a ha b hb e => hno ?_⟩
  rw [List.mem_singleton] at hb
  rw [← hb, ← e]; exact ha
 ok := fun r hr => by
  rcases List.mem_append.1 hr with hr | hr
  · exact h.ok r hr
  · rw [List.mem_singleton] at hr; subst hr; exact hq
 id := List.mem_append.2 (.inl h.id)
theorem j_all {n : Nat} {ops : List OpD} {L Q : List (List Int)} (h : JInv n ops L) (hQ : PrQ n ops Q) (ho : opsIn n ops) (hc : ∀ p ∈ L, ∀ q ∈ Q, joinP n p q ∈ L) (q : List Int) : q ∈ L ↔ Pt n q ∧ Cong n ops q := by
 refine ⟨h.ok q, fun ⟨hp, hq⟩ => ?_⟩
 have hj := cong_joinedC ho hp hq
 revert hp hq
 induction hj with
 | id => exact fun _ _ => h.id
 | join p x y hx hy hj' ih => exact fun _ _ => hc p (ih (joinedC_cong ho hj') (joinedC_cong ho hj').1 (joinedC_cong ho hj').2) _ (hQ.2 x y hx hy)
/-! ### A list in order, and one put into it -/
def posC (n : Nat) (p : List Int) : List (List Int) → Nat
 | [] => 0
 | a :: l => if cmpC n a p < 0 then posC n p l + 1 else 0
theorem posC_le (n : Nat) (p : List Int) : ∀ l, posC n p l ≤ l.length
 | [] => Nat.le_refl _
 | a :: l => by unfold posC; split <;> simp [posC_le n p l]
theorem posC_eq (n : Nat) (p : List Int) : ∀ (l : List (List Int)) (k : Nat), k ≤ l.length → (∀ i, i < k → cmpC n (l.getD i []) p < 0) → (k < l.length → ¬ cmpC n (l.getD k []) p < 0) → posC n p l = k
 | [], k, h, _, _ => by simp at h; simp [posC, h]
 | a :: l, k, h, h1, h2 => by
  unfold posC
  cases k with
  | zero => exact if_neg (h2 (by simp))
  | succ k =>
   rw [if_pos (show cmpC n a p < 0 from h1 0 (by omega)), posC_eq n p l k (by simpa using h) (fun i hi => h1 (i + 1) (by omega)) (fun hk => h2 (by simpa using hk))]
def putC (n : Nat) (l : List (List Int)) (p : List Int) : List (List Int) := if posC n p l < l.length ∧ l.getD (posC n p l) [] = p then l else l.take (posC n p l) ++ p :: l.drop (posC n p l)
theorem putC_cons {n : Nat} {a : List Int} {l : List (List Int)} {p : List Int} : putC n (a :: l) p = if cmpC n a p < 0 then a :: putC n l p else if a = p then a :: l else p :: a :: l := by
 by_cases h : cmpC n a p < 0
 · have hp : posC n p (a :: l) = posC n p l + 1 := if_pos h
   unfold putC
   rw [if_pos h, hp]
   simp only [List.length_cons, Nat.add_lt_add_iff_right, List.getD_cons_succ, List.take_succ_cons, List.drop_succ_cons]
   split <;> rfl
 · have hp : posC n p (a :: l) = 0 := if_neg h
   unfold putC
   rw [if_neg h, hp]
   simp
theorem putC_mem {n : Nat} : ∀ {l : List (List Int)} {p q : List Int}, q ∈ putC n l p ↔ q ∈ l ∨ q = p
 | [], p, q => by simp [putC, posC]
 | a :: l, p, q => by
  rw [putC_cons]
  split
  · rw [List.mem_cons, putC_mem, List.mem_cons, or_assoc]
  · split
    · next h =>
      subst h
      simp only [List.mem_cons]
      constructor
      · exact .inl
      · rintro (h | h)
        · exact h
        · exact .inl h
    · simp only [List.mem_cons]; constructor
      · rintro (h | h)
        · exact .inr h
        · exact .inl h
      · rintro (h | h)
        · exact .inr h
        · exact .inl h
theorem putC_asc {n : Nat} : ∀ {l : List (List Int)} {p : List Int}, AscC n l → AscC n (putC n l p)
 | [], p, _ => by simp [putC, posC, AscC]
 | a :: l, p, h => by
  obtain ⟨h1, h2⟩ := List.pairwise_cons.1 h
  rw [putC_cons]
  split
  · next hl =>
    refine List.pairwise_cons.2 ⟨fun b hb => ?_, putC_asc h2⟩
    rcases putC_mem.1 hb with hb | hb
    · exact h1 b hb
    · rw [hb]; exact hl
  · next hl =>
    split
    · exact h
    · next hne =>
      have hpa : cmpC n p a < 0 := by
       have h0 : cmpC n a p ≠ 0 := fun e => hne (cmpC_eq e)
       rw [cmpC_flip]; omega
      refine List.pairwise_cons.2 ⟨fun b hb => ?_, h⟩
      rcases List.mem_cons.1 hb with rfl | hb
      · exact hpa
      · exact cmpC_trans hpa (h1 b hb)
theorem putC_same {n : Nat} : ∀ {l : List (List Int)} {p : List Int}, AscC n l → p ∈ l → putC n l p = l
 | a :: l, p, h, hp => by
  obtain ⟨h1, h2⟩ := List.pairwise_cons.1 h
  rw [putC_cons]
  rcases List.mem_cons.1 hp with rfl | hp
  · rw [if_neg (by rw [cmpC_self]; omega), if_pos rfl]
  · rw [if_pos (h1 p hp), putC_same h2 hp]
theorem putC_len {n : Nat} {l : List (List Int)} {p : List Int} (hp : p ∉ l) : (putC n l p).length = l.length + 1 := by
 unfold putC
 rw [if_neg]
 · have := posC_le n p l
   simp [List.length_take, List.length_drop]; omega
 · rintro ⟨h1, h2⟩
   refine hp ?_
   rw [← h2, List.getD_eq_getElem?_getD, List.getElem?_eq_getElem h1]
   exact List.getElem_mem _
theorem ascC_nodup {n : Nat} {l : List (List Int)} (h : AscC n l) : l.Nodup := List.Pairwise.imp (fun {a b} h e => by rw [e, cmpC_self] at h; omega) h
end Go.Proofs.YtepjlgilopfnpaaGreat
/- Plain: there is a list of all congruences, and on few elements it is short. -/
namespace Go.Proofs.YtepjlgilopfnpaaGreat
open Go Go.Pv Go.Proofs

def ptAll : Nat → List (List Int)
 | 0 => [[]]
 | k + 1 => (ptAll k).flatMap fun l => (List.range (k + 1)).map fun (v : Nat) => l ++ [(v : Int)]
theorem ptAll_mem : ∀ (k : Nat) (l : List Int), l.length = k → (∀ x, x < k → 0 ≤ l.getD x 0 ∧ l.getD x 0 ≤ (x : Int)) → l ∈ ptAll k
 | 0, l, h, _ => by rw [List.length_eq_zero_iff.1 h]; exact List.mem_singleton.2 rfl
 | k + 1, l, h, hb => by
  obtain ⟨m, v, rfl⟩ : ∃ m v, l = m ++ [v] := ⟨l.dropLast, l.getLast (by intro e; rw [e] at h; simp at h), (List.dropLast_concat_getLast _).symm⟩
  have hm : m.length = k := by simpa using h
  have hlow : ∀ x, x < k → (m ++ [v]).getD x 0 = m.getD x 0 := fun x hx => by
   rw [List.getD_eq_getElem?_getD, List.getElem?_append_left (by omega), List.getD_eq_getElem?_getD]
  have hv : (m ++ [v]).getD k 0 = v := by
   rw [List.getD_eq_getElem?_getD, List.getElem?_append_right (by omega), hm, Nat.sub_self]; rfl
  have h2 := hb k (by omega)
  rw [hv] at h2
  refine List.mem_flatMap.2 ⟨m, ptAll_mem k m hm fun x hx => by have := hb x (by omega); rwa [hlow x hx] at this, List.mem_map.2 ⟨v.toNat, List.mem_range.2 (by omega), ?_⟩⟩
  rw [show ((v.toNat : Nat) : Int) = v by omega]
theorem pt_ptAll {n : Nat} {p : List Int} (h : Pt n p) : p ∈ ptAll n := ptAll_mem n p h.len fun x hx => ⟨h.nn x hx, by have := h.le x hx; rw [h.val hx]; omega⟩
theorem foldPut {n : Nat} : ∀ (M L : List (List Int)), AscC n L → AscC n (M.foldl (putC n) L) ∧ ∀ q, q ∈ M.foldl (putC n) L ↔ q ∈ L ∨ q ∈ M
 | [], L, h => ⟨h, fun q => by simp⟩
 | p :: M, L, h => by
  obtain ⟨h1, h2⟩ := foldPut M (putC n L p) (putC_asc h)
  refine ⟨h1, fun q => ?_⟩
  rw [List.foldl_cons, h2, putC_mem, List.mem_cons, or_assoc]
open Classical in
theorem allC_ex (n : Nat) (ops : List OpD) : ∃ L, AllC n ops L := by
 obtain ⟨h1, h2⟩ := foldPut (n := n) ((ptAll n).filter fun q => decide (Pt n q ∧ Cong n ops q)) [] List.Pairwise.nil
 refine ⟨_, h1, fun q => ?_⟩
 rw [h2, List.mem_filter, decide_eq_true_eq]
 constructor
 · rintro (h | h)
   · cases h
   · exact h.2
 · exact fun h => .inr ⟨pt_ptAll h.1, h⟩
noncomputable def allL (n : Nat) (ops : List OpD) : List (List Int) := (allC_ex n ops).choose
theorem allL_all (n : Nat) (ops : List OpD) : AllC n ops (allL n ops) := (allC_ex n ops).choose_spec
theorem AllC.eq {n : Nat} {ops : List OpD} {L : List (List Int)} (h : AllC n ops L) : L = allL n ops := h.unique (allL_all n ops)
theorem allL_mem {n : Nat} {ops : List OpD} {q : List Int} : q ∈ allL n ops ↔ Pt n q ∧ Cong n ops q := (allL_all n ops).2 q
end Go.Proofs.YtepjlgilopfnpaaGreat
/- The layer: an owned block of cells that is reached by a slice: its cells may name other objects. -/
namespace Go.Pv
open Go
attribute [local semireducible] Go.Pv.Goal Go.Pv.Ops Go.Pv.PStep Go.Pv.EStep Go.Pv.KRets Go.Pv.PCalls Go.Pv.OpsG
section
variable {P : Program} {o : Oper} {S : St} {ev : Operand → PV} {hp : List HO}
theorem VRS.box_new (g : Ghost) (ρ : Nat → Loc) (hp : List HO) (l : List PV) (L : Loc) (hc1 : l.length ≤ L.cap) (hc2 : L.cap ≤ maxLen) : VRS g (upd ρ hp.length L) (killH hp.length hp ++ [.box l]) (.slice (some ⟨L.blk, 0, none⟩) l.length L.cap) (.hp hp.length) := by
 have hg : (killH hp.length hp ++ [HO.box l])[hp.length]? = some (.box l) := by
  rw [List.getElem?_append_right (by simp [killH])]; simp [killH]
 refine ⟨⟨_, _, _, rfl⟩, fun m s' e' l' hid => ?_, fun e1 e2 rows hid => ?_, fun e1 e2 n rows hid => ?_, fun l' hid => ?_, fun e1 e2 n rows hid => ?_⟩
 · rw [hg] at hid; cases hid
 · rw [hg] at hid; cases hid
 · rw [hg] at hid; cases hid
 · rw [hg] at hid; cases hid; rw [upd_same]; exact ⟨rfl, hc1, hc2⟩
 · rw [hg] at hid; cases hid
theorem e_makeBox {t e : TypeId} {s by_ : Nat} {zv : Value} [ht : MkT P t e s by_ [zv]] {x y : Operand} {n : Int} (ho : o.op = .makeSlice t x y) (h1 : S.ev x = I n) (h2 : S.ev y = I n) (h0 : 0 ≤ n) (hb : n * by_ ≤ 140737488355328) (hn : n ≤ 9223372036854775807)
 (hs : s = 1) : EStep P o S (S.setObj S.hp.length (killH S.hp.length S.hp ++ [.box (List.replicate n.toNat (.val zv))]) o.dst (.hp S.hp.length)) := by
 subst hs
 intro w0 g ρ a w hr Q K hK
 have e1 := val_of (hr.ev x) h1
 have e2 := val_of (hr.ev y) h2
 obtain ⟨i, z, hi, hi1, hi2, hi3, hi4⟩ := ht.hi
 have hrun := run_make (P := P) w t e i z ht.hu hi hi3 .i64 .i64 n n h0 (Int.le_refl _) (by rw [hi2, Int.mul_comm]; omega) hn
 rw [hi1] at hrun
 unfold Oper.wp
 simp only [execOp, ho, e1, e2]
 rw [run_value hrun]
 have hgn : ∀ k, g w.heap.size k = none := fun k => by
  cases hk : g w.heap.size k with
  | none => rfl
  | some v => exact absurd (hr.base.agree.lt hk) (Nat.lt_irrefl _)
 have hzc : z.cells.size = 1 := by rw [← Array.length_toList, hi4]; rfl
 have hbase := hr.base.push (x' := .box (List.replicate n.toNat (.val zv))) ⟨w.heap.size, n.toNat, fun _ => 0, fun _ => 0⟩ (GExt.refl g) (killP1 S.hp.length) (fun v p h => h.kill S.hp.length _ (GExt.refl g) (fun i hi => killH_push _ _ hi)) (hr.base.agree.below ((RowKit.Below.refl _ _).alloc (Nat.le_refl _) _)) ((RowKit.Below.refl _ _).alloc (Nat.le_refl _) _)
  ⟨madeCells z.cells (n.toNat * 1), e, Ini.own_new hr.base.below.size, heap_alloc_new w _, by simp [size_madeCells], fun k q hk => (by
   rw [List.getElem?_replicate] at hk
   split at hk
   · rename_i hlt
     cases hk
     have : (madeCells z.cells (n.toNat * 1)).getD k undef = zv := by
      have hz0 : z.cells[0]? = some zv := by rw [← Array.getElem?_toList, hi4]; rfl
      have hm : k % 1 = 0 := Nat.mod_one k
      have hlt' : k < n.toNat * 1 := by omega
      simp only [madeCells, Array.getD_eq_getD_getElem?, Array.getElem?_map, Array.getElem?_range, hlt', if_true, Option.map_some, Option.getD_some, hzc, hm]
      rw [getElem!_def, hz0]
     rw [this]; exact .of_VR (.val zv)
   · cases hk), fun k => hgn k⟩ (fun b hb => by simp only [foot] at hb; omega) (fun b hb k => rfl)
 have hv := VRS.box_new g ρ S.hp (List.replicate n.toNat (.val zv)) ⟨w.heap.size, n.toNat, fun _ => 0, fun _ => 0⟩ (by simp) (by simp only [maxLen]; omega)
 simp only [List.length_replicate] at hv
 exact hK _ _ _ _ (GExt.refl g) (hr.setObj S.hp.length _ hbase (GExt.refl g) (fun i hi => killH_push _ _ hi) hv o.dst)
theorem ps_index_box {t e : TypeId} {by_ : Nat} [ht : SlT P t e 1 by_] {x ix : Operand} {l : List PV} {i : Int} {id : Nat} (ho : o.op = .indexAddr t x ix) (h1 : ev x = .hp id)
 (hh : hp[id]? = some (.box l)) (h2 : ev ix = I i) (h0 : 0 ≤ i) (hq : i.toNat < l.length) : PStep P o ev hp (.hat id i.toNat) :=
 .of_run fun w0 g ρ w av hb hx => by
  have e1 := hx x (by simp [ho, Op.operands])
  have e2 := val_of (hx ix (by simp [ho, Op.operands])) h2
  rw [h1] at e1
  have ea := (HpV.box e1 _ hh).1
  refine ⟨.pointer (some ⟨(ρ id).blk, i.toNat, none⟩), ?_, rfl⟩
  have hi : i < (l.length : Int) := by omega
  simp [execOp, ho, ea, e2, Instr.indexAt, asIntOf, run_underlying ht.hu, ht.hs, h0, hi, Addr.add_n, go_sem]
theorem g_viewBox {c : Code} {K : Exit → St → Prop} (n : Nat) {l : List PV} (hn : S.hp[n]? = some (.box l)) (h : ∃ S', St.mk S.fr (S.hp.set n (.box (l.map (Pv.view1 S.hp)))) = S' ∧ Goal P c K S') : Goal P c K S := by
 obtain ⟨S', rfl, h⟩ := h
 unfold Goal at h ⊢
 intro w0 g ρ a w Q hr hQ
 refine h w0 g ρ a w Q (rel_swap hr hn (x' := .box (l.map (Pv.view1 S.hp))) (fun hp' hx => ?_) (fun b hb => hb) (fun v hp' h' hh => ?_) (fun e1 e2 rows h => by cases h)) hQ
 · obtain ⟨cur, e, h1, h2, h3, h4, h5⟩ := hx
   refine ⟨cur, e, h1, h2, by rw [List.length_map]; exact h3, fun k q hk => ?_, h5⟩
   rw [List.getElem?_map, Option.map_eq_some_iff] at hk
   obtain ⟨p, hp', rfl⟩ := hk
   exact .of_VR (hr.base.view1 (h4 k p hp'))
 · exact { sl := hh.sl, arr := fun m s' e2 l' hid => (by rw [h'] at hid; cases hid), grid := fun e1 e2 rows hid => (by rw [h'] at hid; cases hid), sg := fun e1 e2 m rows hid => (by rw [h'] at hid; cases hid),
           pg := fun e1 e2 m rows hid => (by rw [h'] at hid; cases hid),
           box := fun l' hid => (by rw [h'] at hid; cases hid; rw [List.length_map]; exact hh.box _ hn) }
theorem EStep.cast {S' S2 : St} (h : EStep P o S S') (e : S' = S2) : EStep P o S S2 := e ▸ h
theorem g_castH {c : Code} {K : Exit → St → Prop} {fr : List PV} {hp hp' : List HO} (e : hp = hp') (h : Goal P c K ⟨fr, hp'⟩) : Goal P c K ⟨fr, hp⟩ := e ▸ h
end
end Go.Pv
/- What a row asks, out of what a call comes to over plain values: the result 'true', and no old block turned. -/
namespace Go.Pv
open Go Go.ChangeShapes Go.WideShapes Go.RowKit

theorem trodAll_below {H : Type} {enc : TypeId × Value → H} {P : Program} (hl : laidOutB P = true) {W W' : World} (hb : Below W.heap.size W W') : ∀ {ts : List TypeId} {vs : List Value} {ds : List (DataW H)} {ps : List MemPlace},
 (ts.all fun t => P.readableRec t && decide (t < P.types.size)) = true → DataW.TrodAll enc P W 0 (fun _ => true) true ts vs ds ps → (∀ x ∈ ps, x.block < W.heap.size) →
 DataW.TrodAll enc P W' 0 (fun b => decide (b < W.heap.size)) true ts vs ds ps
 | [], [], [], _, _, h, _ => h
 | t :: ts, v :: vs, d :: ds, ps, hr, h, hlt => by
  obtain ⟨p, q, h1, h2, rfl⟩ := h
  simp only [List.all_cons, Bool.and_eq_true, decide_eq_true_eq] at hr
  exact ⟨p, q, Below.trod hl hr.1.1 hr.1.2 h1 hb (fun x hx => hlt x (List.mem_append_left _ hx)), trodAll_below hl hb hr.2 h2 (fun x hx => hlt x (List.mem_append_right _ hx)), rfl⟩
 | [], [], _ :: _, _, _, h, _ => h.elim
 | [], _ :: _, _, _, _, h, _ => h.elim
 | _ :: _, [], _, _, _, h, _ => h.elim
 | _ :: _, _ :: _, [], _, _, h, _ => h.elim

theorem law_post {H : Type} {enc : TypeId × Value → H} {P : Program} {f : Func} {s : ChangeSpec} {W W' : World} {args : Array Value} {ds gs : List (DataW H)} {before : List MemPlace} {tb : TypeId} (hl : laidOutB P = true) (hs : s.vars = [])
 (hread : (f.params.toList.all fun t => P.readableRec t && decide (t < P.types.size)) = true) (hr : f.resultTypes = #[tb]) (htb : P.underlying tb = some .bool) (hfn : s.fn H (ds ++ gs) = { results := [.lit (.bool true)], args := ds })
 (hW : DataW.Whole enc P f.params.toList s.vars false W args.toList ds gs before) (hb : Below W.heap.size W W') : s.post enc P f false true false false W args (.bool true) W' := by
 have hlt := hW.lt
 have hW0 := hW
 obtain ⟨p, q, hA, hV, rfl, hz, hn⟩ := hW
 refine ⟨ds, gs, p ++ q, [], p, q, hW0, ?_, ?_, ?_, hb.frame _, fun h => by cases h⟩
 · rw [hfn, hr]
   exact ⟨[], [], ⟨1, by simp [DataW.trod, Value.cells, htb]⟩, rfl, rfl⟩
 · rw [hfn]
   exact trodAll_below hl hb hread hA (fun x hx => hlt x (List.mem_append_left _ hx))
 · rw [hfn]
   rw [hs] at hV ⊢
   cases gs with
   | nil => exact hV
   | cons _ _ => exact hV.elim

theorem PCalls.use {P : Program} {f : FuncId} {args : List PV} {b : Bool} (h : PCalls P f args (B b)) {g : Ghost} {W : World} {vs : List Value} (ha : Agree g W) (hv : VRl g vs args) :
 Calls P f vs.toArray W fun e W' => e = .returned (.bool b) ∧ Below W.heap.size W W' := by
 unfold PCalls at h
 exact (h g W vs ha hv).mono fun e W' ⟨v, g', he, _, _, hb, _, hvr⟩ => ⟨by rw [he, VR.val_inv hvr], hb⟩
end Go.Pv
