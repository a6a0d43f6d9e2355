/- Plain: lists of pairs and of congruences that grow until nothing is new. -/
import Derived.Test.YtembaiccchgllaaGreatJKc
namespace Go.Proofs.YtembaiccchgllaaGreat
open Go Go.Pv Go.Proofs

def kyP (n s t : Nat) : Nat := min s t * n + max s t
theorem kyP_symm (n s t : Nat) : kyP n s t = kyP n t s := by unfold kyP; rw [Nat.min_comm, Nat.max_comm]
theorem kyP_lt {n s t : Nat} (hs : s < n) (ht : t < n) : kyP n s t < n * n := by
  unfold kyP
  have h1 : (min s t + 1) * n ≤ n * n := Nat.mul_le_mul_right _ (by omega)
  rw [Nat.add_mul, Nat.one_mul] at h1
  omega
def hasP (n : Nat) (L : List (Nat × Nat)) (s t : Nat) : Bool := (L.map fun pr => kyP n pr.1 pr.2).contains (kyP n s t)
theorem hasP_symm (n : Nat) (L : List (Nat × Nat)) (s t : Nat) : hasP n L s t = hasP n L t s := by unfold hasP; rw [kyP_symm]
theorem hasP_app {n : Nat} {L : List (Nat × Nat)} {s t u v : Nat} : hasP n (L ++ [(u, v)]) s t = (hasP n L s t || kyP n s t == kyP n u v) := by
  unfold hasP
  rw [List.map_append, List.contains_eq_mem, List.contains_eq_mem, Bool.eq_iff_iff]
  simp only [List.map_cons, List.map_nil, List.mem_append, List.mem_singleton, decide_eq_true_eq, Bool.or_eq_true, beq_iff_eq]
theorem hasP_mono {n : Nat} {L : List (Nat × Nat)} {s t : Nat} (l : List (Nat × Nat)) (h : hasP n L s t = true) : hasP n (L ++ l) s t = true := by
  unfold hasP at *
  rw [List.contains_eq_mem, decide_eq_true_eq] at *
  rw [List.map_append, List.mem_append]; exact .inl h
theorem mem_hasP {n : Nat} {L : List (Nat × Nat)} {s t : Nat} (h : (s, t) ∈ L) : hasP n L s t = true := by
  unfold hasP
  rw [List.contains_eq_mem, decide_eq_true_eq]
  exact List.mem_map.2 ⟨_, h, rfl⟩
structure TInv (n : Nat) (ops : List OpD) (x y : Nat) (L : List (Nat × Nat)) : Prop where
  nd : (L.map fun pr => kyP n pr.1 pr.2).Nodup
  ok : ∀ pr ∈ L, TrP n ops x y pr.1 pr.2
  mem : hasP n L x y = true
theorem TInv.lt {n : Nat} {ops : List OpD} {x y : Nat} {L : List (Nat × Nat)} (h : TInv n ops x y L) (ho : opsIn n ops) (hx : x < n) (hy : y < n) : ∀ pr ∈ L, pr.1 < n ∧ pr.2 < n := fun pr hp => (h.ok pr hp).lt ho hx hy
theorem TInv.len {n : Nat} {ops : List OpD} {x y : Nat} {L : List (Nat × Nat)} (h : TInv n ops x y L) (ho : opsIn n ops) (hx : x < n) (hy : y < n) : L.length ≤ n * n := by
  have := nodup_lt_len h.nd (n := n * n) fun k hk => by
    obtain ⟨pr, hp, rfl⟩ := List.mem_map.1 hk
    exact kyP_lt (h.lt ho hx hy pr hp).1 (h.lt ho hx hy pr hp).2
  rwa [List.length_map] at this
theorem TInv.start {n : Nat} {ops : List OpD} {x y u v : Nat} (h : (u, v) = (x, y) ∨ (u, v) = (y, x)) : TInv n ops x y [(u, v)] where
  nd := by simp
  ok := fun pr hp => by
    rw [List.mem_singleton] at hp
    subst hp
    rcases h with h | h <;> cases h
    · exact .base
    · exact .sym .base
  mem := by
    rcases h with h | h <;> cases h
    · exact mem_hasP (List.mem_singleton.2 rfl)
    · rw [hasP_symm]; exact mem_hasP (List.mem_singleton.2 rfl)
theorem TInv.add {n : Nat} {ops : List OpD} {x y u v a b : Nat} {L : List (Nat × Nat)} (h : TInv n ops x y L) (ht : TrP n ops x y u v) (hw : (a, b) = (u, v) ∨ (a, b) = (v, u)) (hno : hasP n L u v = false) : TInv n ops x y (L ++ [(a, b)]) ∧ hasP n (L ++ [(a, b)]) u v = true := by
  have hk : kyP n a b = kyP n u v := by
    rcases hw with hw | hw <;> cases hw
    · rfl
    · exact kyP_symm ..
  refine ⟨⟨?_, fun pr hp => ?_, hasP_mono _ h.mem⟩, by rw [hasP_app, hk]; simp⟩
  · rw [List.map_append, List.nodup_append]
    refine ⟨h.nd, by simp, fun k hk' m hm => ?_⟩
    simp only [List.map_cons, List.map_nil, List.mem_singleton] at hm
    subst hm
    intro e
    unfold hasP at hno
    rw [List.contains_eq_mem, decide_eq_false_iff_not] at hno
    exact hno (by rw [← hk, ← e]; exact hk')
  · rcases List.mem_append.1 hp with hp | hp
    · exact h.ok pr hp
    · rw [List.mem_singleton] at hp
      subst hp
      rcases hw with hw | hw <;> cases hw
      · exact ht
      · exact .sym ht
def Ti (n : Nat) (L : List (Nat × Nat)) (f : OpD) (s t k j : Nat) : Prop := digN n j k = s → hasP n L (bk f.tb j) (bk f.tb (subN n j k t)) = true
theorem Ti.mono {n : Nat} {L : List (Nat × Nat)} {f : OpD} {s t k j : Nat} (l : List (Nat × Nat)) (h : Ti n L f s t k j) : Ti n (L ++ l) f s t k j := fun hd => hasP_mono l (h hd)
def ClP (n : Nat) (ops : List OpD) (L : List (Nat × Nat)) (pr : Nat × Nat) : Prop := ∀ f ∈ ops, ∀ k, k < f.ar.toNat → ∀ j, j < n ^ f.ar.toNat → Ti n L f pr.1 pr.2 k j
theorem ClP.mono {n : Nat} {ops : List OpD} {L : List (Nat × Nat)} {pr : Nat × Nat} (l : List (Nat × Nat)) (h : ClP n ops L pr) : ClP n ops (L ++ l) pr := fun f hf k hk j hj => (h f hf k hk j hj).mono l
/-! ### All congruences, by joins with principal ones -/
def PrQ (n : Nat) (ops : List OpD) (Q : List (List Int)) : Prop := (∀ q ∈ Q, ∃ x y, x < y ∧ y < n ∧ q = cgL n ops x y) ∧ ∀ x y, x < y → y < n → cgL n ops x y ∈ Q
structure JInv (n : Nat) (ops : List OpD) (L : List (List Int)) : Prop where
  nd : L.Nodup
  ok : ∀ q ∈ L, Pt n q ∧ Cong n ops q
  id : idL n ∈ L
theorem JInv.start (n : Nat) (ops : List OpD) : JInv n ops [idL n] where
  nd := by simp
  ok := fun q hq => by rw [List.mem_singleton] at hq; subst hq; exact ⟨idL_pt n, idL_cong ops⟩
  id := by simp
theorem PrQ.cong {n : Nat} {ops : List OpD} {Q : List (List Int)} (h : PrQ n ops Q) (ho : opsIn n ops) {q : List Int} (hq : q ∈ Q) : Pt n q ∧ Cong n ops q := by
  obtain ⟨x, y, h1, h2, rfl⟩ := h.1 q hq
  have hg := cg_lst ho (show x < n by omega) h2
  exact ⟨hg.pt, hg.cong⟩
theorem JInv.join {n : Nat} {ops : List OpD} {L Q : List (List Int)} (h : JInv n ops L) (hQ : PrQ n ops Q) (ho : opsIn n ops) {p q : List Int} (hp : p ∈ L) (hq : q ∈ Q) : Pt n (joinP n p q) ∧ Cong n ops (joinP n p q) :=
  ⟨join_pt (h.ok p hp).1 (hQ.cong ho hq).1, join_cong ho (h.ok p hp).1 (hQ.cong ho hq).1 (h.ok p hp).2 (hQ.cong ho hq).2⟩
theorem JInv.add {n : Nat} {ops : List OpD} {L : List (List Int)} (h : JInv n ops L) {q : List Int} (hq : Pt n q ∧ Cong n ops q) (hno : q ∉ L) : JInv n ops (L ++ [q]) where
  nd := by
    rw [List.nodup_append]
    refine ⟨h.nd, by simp, fun a ha b hb e => hno ?_⟩
    rw [List.mem_singleton] at hb
    rw [← hb, ← e]; exact ha
  ok := fun r hr => by
    rcases List.mem_append.1 hr with hr | hr
    · exact h.ok r hr
    · rw [List.mem_singleton] at hr; subst hr; exact hq
  id := List.mem_append.2 (.inl h.id)
theorem j_all {n : Nat} {ops : List OpD} {L Q : List (List Int)} (h : JInv n ops L) (hQ : PrQ n ops Q) (ho : opsIn n ops) (hc : ∀ p ∈ L, ∀ q ∈ Q, joinP n p q ∈ L) (q : List Int) : q ∈ L ↔ Pt n q ∧ Cong n ops q := by
  refine ⟨h.ok q, fun ⟨hp, hq⟩ => ?_⟩
  have hj := cong_joinedC ho hp hq
  revert hp hq
  induction hj with
  | id => exact fun _ _ => h.id
  | join p x y hx hy hj' ih => exact fun _ _ => hc p (ih (joinedC_cong ho hj') (joinedC_cong ho hj').1 (joinedC_cong ho hj').2) _ (hQ.2 x y hx hy)
/-! ### A list in order, and one put into it -/
def posC (n : Nat) (p : List Int) : List (List Int) → Nat
  | [] => 0
  | a :: l => if cmpC n a p < 0 then posC n p l + 1 else 0
theorem posC_le (n : Nat) (p : List Int) : ∀ l, posC n p l ≤ l.length
  | [] => Nat.le_refl _
  | a :: l => by unfold posC; split <;> simp [posC_le n p l]
theorem posC_eq (n : Nat) (p : List Int) : ∀ (l : List (List Int)) (k : Nat), k ≤ l.length → (∀ i, i < k → cmpC n (l.getD i []) p < 0) → (k < l.length → ¬ cmpC n (l.getD k []) p < 0) → posC n p l = k
  | [], k, h, _, _ => by simp at h; simp [posC, h]
  | a :: l, k, h, h1, h2 => by
    unfold posC
    cases k with
    | zero => exact if_neg (h2 (by simp))
    | succ k =>
      rw [if_pos (show cmpC n a p < 0 from h1 0 (by omega)), posC_eq n p l k (by simpa using h) (fun i hi => h1 (i + 1) (by omega)) (fun hk => h2 (by simpa using hk))]
def putC (n : Nat) (l : List (List Int)) (p : List Int) : List (List Int) := if posC n p l < l.length ∧ l.getD (posC n p l) [] = p then l else l.take (posC n p l) ++ p :: l.drop (posC n p l)
theorem putC_cons {n : Nat} {a : List Int} {l : List (List Int)} {p : List Int} : putC n (a :: l) p = if cmpC n a p < 0 then a :: putC n l p else if a = p then a :: l else p :: a :: l := by
  by_cases h : cmpC n a p < 0
  · have hp : posC n p (a :: l) = posC n p l + 1 := if_pos h
    unfold putC
    rw [if_pos h, hp]
    simp only [List.length_cons, Nat.add_lt_add_iff_right, List.getD_cons_succ, List.take_succ_cons, List.drop_succ_cons]
    split <;> rfl
  · have hp : posC n p (a :: l) = 0 := if_neg h
    unfold putC
    rw [if_neg h, hp]
    simp
theorem putC_mem {n : Nat} : ∀ {l : List (List Int)} {p q : List Int}, q ∈ putC n l p ↔ q ∈ l ∨ q = p
  | [], p, q => by simp [putC, posC]
  | a :: l, p, q => by
    rw [putC_cons]
    split
    · rw [List.mem_cons, putC_mem, List.mem_cons, or_assoc]
    · split
      · next h =>
        subst h
        simp only [List.mem_cons]
        constructor
        · exact .inl
        · rintro (h | h)
          · exact h
          · exact .inl h
      · simp only [List.mem_cons]; constructor
        · rintro (h | h)
          · exact .inr h
          · exact .inl h
        · rintro (h | h)
          · exact .inr h
          · exact .inl h
theorem putC_asc {n : Nat} : ∀ {l : List (List Int)} {p : List Int}, AscC n l → AscC n (putC n l p)
  | [], p, _ => by simp [putC, posC, AscC]
  | a :: l, p, h => by
    obtain ⟨h1, h2⟩ := List.pairwise_cons.1 h
    rw [putC_cons]
    split
    · next hl =>
      refine List.pairwise_cons.2 ⟨fun b hb => ?_, putC_asc h2⟩
      rcases putC_mem.1 hb with hb | hb
      · exact h1 b hb
      · rw [hb]; exact hl
    · next hl =>
      split
      · exact h
      · next hne =>
        have hpa : cmpC n p a < 0 := by
          have h0 : cmpC n a p ≠ 0 := fun e => hne (cmpC_eq e)
          rw [cmpC_flip]; omega
        refine List.pairwise_cons.2 ⟨fun b hb => ?_, h⟩
        rcases List.mem_cons.1 hb with rfl | hb
        · exact hpa
        · exact cmpC_trans hpa (h1 b hb)
theorem putC_same {n : Nat} : ∀ {l : List (List Int)} {p : List Int}, AscC n l → p ∈ l → putC n l p = l
  | a :: l, p, h, hp => by
    obtain ⟨h1, h2⟩ := List.pairwise_cons.1 h
    rw [putC_cons]
    rcases List.mem_cons.1 hp with rfl | hp
    · rw [if_neg (by rw [cmpC_self]; omega), if_pos rfl]
    · rw [if_pos (h1 p hp), putC_same h2 hp]
theorem putC_len {n : Nat} {l : List (List Int)} {p : List Int} (hp : p ∉ l) : (putC n l p).length = l.length + 1 := by
  unfold putC
  rw [if_neg]
  · have := posC_le n p l
    simp [List.length_take, List.length_drop]; omega
  · rintro ⟨h1, h2⟩
    refine hp ?_
    rw [← h2, List.getD_eq_getElem?_getD, List.getElem?_eq_getElem h1]
    exact List.getElem_mem _
theorem ascC_nodup {n : Nat} {l : List (List Int)} (h : AscC n l) : l.Nodup := List.Pairwise.imp (fun {a b} h e => by rw [e, cmpC_self] at h; omega) h
end Go.Proofs.YtembaiccchgllaaGreat
