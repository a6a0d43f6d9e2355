/- Plain: congruences that permute, distributive ones, elements that solve congruences together. -/
import Derived.Test.YtbohjibbgppfaaaGreatJKb
import Derived.Test.YtbohjibbgppfaaaGreatJKc
import Derived.Test.YtbohjibbgppfaaaGreatJAr
import Derived.Test.YtbohjibbgppfaaaGreatJPr
set_option linter.unusedSectionVars false
namespace Go.Proofs.YtbohjibbgppfaaaGreat
open Go Go.Pv Go.Proofs

def Prd (n : Nat) (p q : List Int) (x z : Nat) : Prop := ∃ y, y < n ∧ bk p x = bk p y ∧ bk q y = bk q z
def Prm (n : Nat) (p q : List Int) : Prop := ∀ x z, x < n → z < n → Prd n p q x z → Prd n q p x z
theorem Prd.swap {n : Nat} {p q : List Int} {x z : Nat} (h : Prd n p q x z) : Prd n q p z x := by
 obtain ⟨y, hy, h1, h2⟩ := h
 exact ⟨y, hy, h2.symm, h1.symm⟩
theorem Prm.symm {n : Nat} {p q : List Int} (h : Prm n p q) : Prm n q p := fun x z hx hz hp => (h z x hz hx hp.swap).swap
theorem prd_join {n : Nat} {p q : List Int} (hp : Pt n p) (hq : Pt n q) {x z : Nat} (hx : x < n) (hz : z < n) (h : Prd n p q x z) : bk (joinP n p q) x = bk (joinP n p q) z := by
 obtain ⟨y, hy, h1, h2⟩ := h
 exact (fi_R (join_fi1 hp hq) hx hy h1).trans (fi_R (join_fi2 hp hq) hy hz h2)
theorem prm_join {n : Nat} {p q : List Int} (hp : Pt n p) (hq : Pt n q) (h : Prm n p q) {x z : Nat} (hx : x < n) (hz : z < n) : bk (joinP n p q) x = bk (joinP n p q) z ↔ Prd n p q x z := by
 refine ⟨fun he => ?_, prd_join hp hq hx hz⟩
 let E : Nat → Nat → Prop := fun a b => (a < n ∧ b < n ∧ Prd n p q a b) ∨ a = b
 have hE : Equivalence E := by
  refine ⟨fun a => .inr rfl, fun {a b} hab => ?_, fun {a b c} hab hbc => ?_⟩
  · rcases hab with ⟨h1, h2, h3⟩ | rfl
    · exact .inl ⟨h2, h1, h.symm _ _ h2 h1 h3.swap⟩
    · exact .inr rfl
  · rcases hab with ⟨h1, h2, y, hy, y1, y2⟩ | rfl
    · rcases hbc with ⟨-, g2, w, hw, w1, w2⟩ | rfl
      · -- a p y q b p w q c : y (q p) w, so y (p q) w
        obtain ⟨u, hu, u1, u2⟩ := h.symm y w hy hw ⟨b, h2, y2, w1⟩
        exact .inl ⟨h1, g2, u, hu, y1.trans u1, u2.trans w2⟩
      · exact .inl ⟨h1, h2, y, hy, y1, y2⟩
    · exact hbc
 have key := join_leastE hp hq hE (fun z hz => .inl ⟨hp.lt hz, hz, z, hz, hp.id z hz, rfl⟩) (fun z hz => .inl ⟨hq.lt hz, hz, bk q z, hq.lt hz, rfl, hq.id z hz⟩)
 have h1 : E (bk (joinP n p q) x) x := key x hx
 have h2 : E (bk (joinP n p q) z) z := key z hz
 rw [he] at h1
 rcases hE.trans (hE.symm h1) h2 with ⟨-, -, h3⟩ | rfl
 · exact h3
 · exact ⟨x, hx, rfl, rfl⟩
/-! ### The partition with one block -/
def fullL (n : Nat) : List Int := List.replicate n 0
theorem bk_full (n x : Nat) : bk (fullL n) x = 0 := by
 unfold bk fullL
 rw [List.getD_eq_getElem?_getD, List.getElem?_replicate]
 split <;> rfl
theorem full_pt (n : Nat) : Pt n (fullL n) := by
 refine ⟨by simp [fullL], fun x hx => ?_, fun x _ => by rw [bk_full]; exact Nat.zero_le _, fun x _ => by rw [bk_full, bk_full]⟩
 unfold fullL
 rw [List.getD_eq_getElem?_getD, List.getElem?_replicate, if_pos hx]; exact Int.le_refl _
theorem full_fi {n : Nat} {p : List Int} : Fi n p (fullL n) := fun x _ => by rw [bk_full, bk_full]
/-! ### Distributive congruences -/
end Go.Proofs.YtbohjibbgppfaaaGreat
/- Plain: lists of pairs and of congruences that grow until nothing is new. -/
namespace Go.Proofs.YtbohjibbgppfaaaGreat
open Go Go.Pv Go.Proofs

def kyP (n s t : Nat) : Nat := min s t * n + max s t
theorem kyP_symm (n s t : Nat) : kyP n s t = kyP n t s := by unfold kyP; rw [Nat.min_comm, Nat.max_comm]
theorem kyP_lt {n s t : Nat} (hs : s < n) (ht : t < n) : kyP n s t < n * n := by
 unfold kyP
 have h1 : (min s t + 1) * n ≤ n * n := Nat.mul_le_mul_right _ (by omega)
 rw [Nat.add_mul, Nat.one_mul] at h1
 omega
def hasP (n : Nat) (L : List (Nat × Nat)) (s t : Nat) : Bool := (L.map fun pr => kyP n pr.1 pr.2).contains (kyP n s t)
theorem hasP_symm (n : Nat) (L : List (Nat × Nat)) (s t : Nat) : hasP n L s t = hasP n L t s := by unfold hasP; rw [kyP_symm]
theorem hasP_app {n : Nat} {L : List (Nat × Nat)} {s t u v : Nat} : hasP n (L ++ [(u, v)]) s t = (hasP n L s t || kyP n s t == kyP n u v) := by
 unfold hasP
 rw [List.map_append, List.contains_eq_mem, List.contains_eq_mem, Bool.eq_iff_iff]
 simp only [List.map_cons, List.map_nil, List.mem_append, List.mem_singleton, decide_eq_true_eq, Bool.or_eq_true, beq_iff_eq]
theorem hasP_mono {n : Nat} {L : List (Nat × Nat)} {s t : Nat} (l : List (Nat × Nat)) (h : hasP n L s t = true) : hasP n (L ++ l) s t = true := by
 unfold hasP at *
 rw [List.contains_eq_mem, decide_eq_true_eq] at *
 rw [List.map_append, List.mem_append]; exact .inl h
theorem mem_hasP {n : Nat} {L : List (Nat × Nat)} {s t : Nat} (h : (s, t) ∈ L) : hasP n L s t = true := by
 unfold hasP
 rw [List.contains_eq_mem, decide_eq_true_eq]
 exact List.mem_map.2 ⟨_, h, rfl⟩
structure TInv (n : Nat) (ops : List OpD) (x y : Nat) (L : List (Nat × Nat)) : Prop where
 nd : (L.map fun pr => kyP n pr.1 pr.2).Nodup
 ok : ∀ pr ∈ L, TrP n ops x y pr.1 pr.2
 mem : hasP n L x y = true
theorem TInv.lt {n : Nat} {ops : List OpD} {x y : Nat} {L : List (Nat × Nat)} (h : TInv n ops x y L) (ho : opsIn n ops) (hx : x < n) (hy : y < n) : ∀ pr ∈ L, pr.1 < n ∧ pr.2 < n := fun pr hp => (h.ok pr hp).lt ho hx hy
theorem TInv.len {n : Nat} {ops : List OpD} {x y : Nat} {L : List (Nat × Nat)} (h : TInv n ops x y L) (ho : opsIn n ops) (hx : x < n) (hy : y < n) : L.length ≤ n * n := by
 have := nodup_lt_len h.nd (n := n * n) fun k hk => by
  obtain ⟨pr, hp, rfl⟩ := List.mem_map.1 hk
  exact kyP_lt (h.lt ho hx hy pr hp).1 (h.lt ho hx hy pr hp).2
 rwa [List.length_map] at this
theorem TInv.start {n : Nat} {ops : List OpD} {x y u v : Nat} (h : (u, v) = (x, y) ∨ (u, v) = (y, x)) : TInv n ops x y [(u, v)] where
 nd := by simp
 ok := fun pr hp => by
  rw [List.mem_singleton] at hp
  subst hp
  rcases h with h | h <;> cases h
  · exact .base
  · exact .sym .base
 mem := by
  rcases h with h | h <;> cases h
  · exact mem_hasP (List.mem_singleton.2 rfl)
  · rw [hasP_symm]; exact mem_hasP (List.mem_singleton.2 rfl)
theorem TInv.add {n : Nat} {ops : List OpD} {x y u v a b : Nat} {L : List (Nat × Nat)} (h : TInv n ops x y L) (ht : TrP n ops x y u v) (hw : (a, b) = (u, v) ∨ (a, b) = (v, u)) (hno : hasP n L u v = false) : TInv n ops x y (L ++ [(a, b)]) ∧ hasP n (L ++ [(a, b)]) u v = true := by
 have hk : kyP n a b = kyP n u v := by
  rcases hw with hw | hw <;> cases hw
  · rfl
  · exact kyP_symm ..
 refine ⟨⟨?_, fun pr hp => ?_, hasP_mono _ h.mem⟩, by rw [hasP_app, hk]; simp⟩
 · rw [List.map_append, List.nodup_append]
   refine ⟨h.nd, by simp, fun k hk' m hm => ?_⟩
   simp only [List.map_cons, List.map_nil, List.mem_singleton] at hm
   subst hm
   intro e
   unfold hasP at hno
   rw [List.contains_eq_mem, decide_eq_false_iff_not] at hno
   exact hno (by rw [← hk, ← e]; exact hk')
 · rcases List.mem_append.1 hp with hp | hp
   · exact h.ok pr hp
   · rw [List.mem_singleton] at hp
     subst hp
     rcases hw with hw | hw <;> cases hw
     · exact ht
     · exact .sym ht
def Ti (n : Nat) (L : List (Nat × Nat)) (f : OpD) (s t k j : Nat) : Prop := digN n j k = s → hasP n L (bk f.tb j) (bk f.tb (subN n j k t)) = true
theorem Ti.mono {n : Nat} {L : List (Nat × Nat)} {f : OpD} {s t k j : Nat} (l : List (Nat × Nat)) (h : Ti n L f s t k j) : Ti n (L ++ l) f s t k j := fun hd => hasP_mono l (h hd)
def ClP (n : Nat) (ops : List OpD) (L : List (Nat × Nat)) (pr : Nat × Nat) : Prop := ∀ f ∈ ops, ∀ k, k < f.ar.toNat → ∀ j, j < n ^ f.ar.toNat → Ti n L f pr.1 pr.2 k j
theorem ClP.mono {n : Nat} {ops : List OpD} {L : List (Nat × Nat)} {pr : Nat × Nat} (l : List (Nat × Nat)) (h : ClP n ops L pr) : ClP n ops (L ++ l) pr := fun f hf k hk j hj => (h f hf k hk j hj).mono l
/-! ### All congruences, by joins with principal ones -/
def PrQ (n : Nat) (ops : List OpD) (Q : List (List Int)) : Prop := (∀ q ∈ Q, ∃ x y, x < y ∧ y < n ∧ q = cgL n ops x y) ∧ ∀ x y, x < y → y < n → cgL n ops x y ∈ Q
structure JInv (n : Nat) (ops : List OpD) (L : List (List Int)) : Prop where
 nd : L.Nodup
 ok : ∀ q ∈ L, Pt n q ∧ Cong n ops q
 id : idL n ∈ L
theorem JInv.start (n : Nat) (ops : List OpD) : JInv n ops [idL n] where
 nd := by simp
 ok := fun q hq => by rw [List.mem_singleton] at hq; subst hq; exact ⟨idL_pt n, idL_cong ops⟩
 id := by simp
theorem PrQ.cong {n : Nat} {ops : List OpD} {Q : List (List Int)} (h : PrQ n ops Q) (ho : opsIn n ops) {q : List Int} (hq : q ∈ Q) : Pt n q ∧ Cong n ops q := by
 obtain ⟨x, y, h1, h2, rfl⟩ := h.1 q hq
 have hg := cg_lst ho (show x < n by omega) h2
 exact ⟨hg.pt, hg.cong⟩
theorem JInv.join {n : Nat} {ops : List OpD} {L Q : List (List Int)} (h : JInv n ops L) (hQ : PrQ n ops Q) (ho : opsIn n ops) {p q : List Int} (hp : p ∈ L) (hq : q ∈ Q) : Pt n (joinP n p q) ∧ Cong n ops (joinP n p q) :=
 ⟨join_pt (h.ok p hp).1 (hQ.cong ho hq).1, join_cong ho (h.ok p hp).1 (hQ.cong ho hq).1 (h.ok p hp).2 (hQ.cong ho hq).2⟩
theorem JInv.add {n : Nat} {ops : List OpD} {L : List (List Int)} (h : JInv n ops L) {q : List Int} (hq : Pt n q ∧ Cong n ops q) (hno : q ∉ L) : JInv n ops (L ++ [q]) where
 nd := by
  rw [List.nodup_append]
  refine ⟨h.nd, by simp, fun a ha b hb e => hno ?_⟩
  rw [List.mem_singleton] at hb
  rw [← hb, ← e]; exact ha
 ok := fun r hr => by
  rcases List.mem_append.1 hr with hr | hr
  · exact h.ok r hr
  · rw [List.mem_singleton] at hr; subst hr; exact hq
 id := List.mem_append.2 (.inl h.id)
theorem j_all {n : Nat} {ops : List OpD} {L Q : List (List Int)} (h : JInv n ops L) (hQ : PrQ n ops Q) (ho : opsIn n ops) (hc : ∀ p ∈ L, ∀ q ∈ Q, joinP n p q ∈ L) (q : List Int) : q ∈ L ↔ Pt n q ∧ Cong n ops q := by
 refine ⟨h.ok q, fun ⟨hp, hq⟩ => ?_⟩
 have hj := cong_joinedC ho hp hq
 revert hp hq
 induction hj with
 | id => exact fun _ _ => h.id
 | join p x y hx hy hj' ih => exact fun _ _ => hc p (ih (joinedC_cong ho hj') (joinedC_cong ho hj').1 (joinedC_cong ho hj').2) _ (hQ.2 x y hx hy)
/-! ### A list in order, and one put into it -/
def posC (n : Nat) (p : List Int) : List (List Int) → Nat
 | [] => 0
 | a :: l => if cmpC n a p < 0 then posC n p l + 1 else 0
theorem posC_le (n : Nat) (p : List Int) : ∀ l, posC n p l ≤ l.length
 | [] => Nat.le_refl _
 | a :: l => by unfold posC; split <;> simp [posC_le n p l]
theorem posC_eq (n : Nat) (p : List Int) : ∀ (l : List (List Int)) (k : Nat), k ≤ l.length → (∀ i, i < k → cmpC n (l.getD i []) p < 0) → (k < l.length → ¬ cmpC n (l.getD k []) p < 0) → posC n p l = k
 | [], k, h, _, _ => by simp at h; simp [posC, h]
 | a :: l, k, h, h1, h2 => by
  unfold posC
  cases k with
  | zero => exact if_neg (h2 (by simp))
  | succ k =>
   rw [if_pos (show cmpC n a p < 0 from h1 0 (by omega)), posC_eq n p l k (by simpa using h) (fun i hi => h1 (i + 1) (by omega)) (fun hk => h2 (by simpa using hk))]
def putC (n : Nat) (l : List (List Int)) (p : List Int) : List (List Int) := if posC n p l < l.length ∧ l.getD (posC n p l) [] = p then l else l.take (posC n p l) ++ p :: l.drop (posC n p l)
theorem putC_cons {n : Nat} {a : List Int} {l : List (List Int)} {p : List Int} : putC n (a :: l) p = if cmpC n a p < 0 then a :: putC n l p else if a = p then a :: l else p :: a :: l := by
 by_cases h : cmpC n a p < 0
 · have hp : posC n p (a :: l) = posC n p l + 1 := if_pos h
   unfold putC
   rw [if_pos h, hp]
   simp only [List.length_cons, Nat.add_lt_add_iff_right, List.getD_cons_succ, List.take_succ_cons, List.drop_succ_cons]
   split <;> rfl
 · have hp : posC n p (a :: l) = 0 := if_neg h
   unfold putC
   rw [if_neg h, hp]
   simp
theorem putC_mem {n : Nat} : ∀ {l : List (List Int)} {p q : List Int}, q ∈ putC n l p ↔ q ∈ l ∨ q = p
 | [], p, q => by simp [putC, posC]
 | a :: l, p, q => by
  rw [putC_cons]
  split
  · rw [List.mem_cons, putC_mem, List.mem_cons, or_assoc]
  · split
    · next h =>
      subst h
      simp only [List.mem_cons]
      constructor
      · exact .inl
      · rintro (h | h)
        · exact h
        · exact .inl h
    · simp only [List.mem_cons]; constructor
      · rintro (h | h)
        · exact .inr h
        · exact .inl h
      · rintro (h | h)
        · exact .inr h
        · exact .inl h
theorem putC_asc {n : Nat} : ∀ {l : List (List Int)} {p : List Int}, AscC n l → AscC n (putC n l p)
 | [], p, _ => by simp [putC, posC, AscC]
 | a :: l, p, h => by
  obtain ⟨h1, h2⟩ := List.pairwise_cons.1 h
  rw [putC_cons]
  split
  · next hl =>
    refine List.pairwise_cons.2 ⟨fun b hb => ?_, putC_asc h2⟩
    rcases putC_mem.1 hb with hb | hb
    · exact h1 b hb
    · rw [hb]; exact hl
  · next hl =>
    split
    · exact h
    · next hne =>
      have hpa : cmpC n p a < 0 := by
       have h0 : cmpC n a p ≠ 0 := fun e => hne (cmpC_eq e)
       rw [cmpC_flip]; omega
      refine List.pairwise_cons.2 ⟨fun b hb => ?_, h⟩
      rcases List.mem_cons.1 hb with rfl | hb
      · exact hpa
      · exact cmpC_trans hpa (h1 b hb)
theorem putC_same {n : Nat} : ∀ {l : List (List Int)} {p : List Int}, AscC n l → p ∈ l → putC n l p = l
 | a :: l, p, h, hp => by
  obtain ⟨h1, h2⟩ := List.pairwise_cons.1 h
  rw [putC_cons]
  rcases List.mem_cons.1 hp with rfl | hp
  · rw [if_neg (by rw [cmpC_self]; omega), if_pos rfl]
  · rw [if_pos (h1 p hp), putC_same h2 hp]
theorem putC_len {n : Nat} {l : List (List Int)} {p : List Int} (hp : p ∉ l) : (putC n l p).length = l.length + 1 := by
 unfold putC
 rw [if_neg]
 · have := posC_le n p l
   simp [List.length_take, List.length_drop]; omega
 · rintro ⟨h1, h2⟩
   refine hp ?_
   rw [← h2, List.getD_eq_getElem?_getD, List.getElem?_eq_getElem h1]
   exact List.getElem_mem _
theorem ascC_nodup {n : Nat} {l : List (List Int)} (h : AscC n l) : l.Nodup := List.Pairwise.imp (fun {a b} h e => by rw [e, cmpC_self] at h; omega) h
end Go.Proofs.YtbohjibbgppfaaaGreat
/- Plain: there is a list of all congruences, and on few elements it is short. -/
namespace Go.Proofs.YtbohjibbgppfaaaGreat
open Go Go.Pv Go.Proofs

def ptAll : Nat → List (List Int)
 | 0 => [[]]
 | k + 1 => (ptAll k).flatMap fun l => (List.range (k + 1)).map fun (v : Nat) => l ++ [(v : Int)]
theorem ptAll_mem : ∀ (k : Nat) (l : List Int), l.length = k → (∀ x, x < k → 0 ≤ l.getD x 0 ∧ l.getD x 0 ≤ (x : Int)) → l ∈ ptAll k
 | 0, l, h, _ => by rw [List.length_eq_zero_iff.1 h]; exact List.mem_singleton.2 rfl
 | k + 1, l, h, hb => by
  obtain ⟨m, v, rfl⟩ : ∃ m v, l = m ++ [v] := ⟨l.dropLast, l.getLast (by intro e; rw [e] at h; simp at h), (List.dropLast_concat_getLast _).symm⟩
  have hm : m.length = k := by simpa using h
  have hlow : ∀ x, x < k → (m ++ [v]).getD x 0 = m.getD x 0 := fun x hx => by
   rw [List.getD_eq_getElem?_getD, List.getElem?_append_left (by omega), List.getD_eq_getElem?_getD]
  have hv : (m ++ [v]).getD k 0 = v := by
   rw [List.getD_eq_getElem?_getD, List.getElem?_append_right (by omega), hm, Nat.sub_self]; rfl
  have h2 := hb k (by omega)
  rw [hv] at h2
  refine List.mem_flatMap.2 ⟨m, ptAll_mem k m hm fun x hx => by have := hb x (by omega); rwa [hlow x hx] at this, List.mem_map.2 ⟨v.toNat, List.mem_range.2 (by omega), ?_⟩⟩
  rw [show ((v.toNat : Nat) : Int) = v by omega]
theorem pt_ptAll {n : Nat} {p : List Int} (h : Pt n p) : p ∈ ptAll n := ptAll_mem n p h.len fun x hx => ⟨h.nn x hx, by have := h.le x hx; rw [h.val hx]; omega⟩
theorem foldPut {n : Nat} : ∀ (M L : List (List Int)), AscC n L → AscC n (M.foldl (putC n) L) ∧ ∀ q, q ∈ M.foldl (putC n) L ↔ q ∈ L ∨ q ∈ M
 | [], L, h => ⟨h, fun q => by simp⟩
 | p :: M, L, h => by
  obtain ⟨h1, h2⟩ := foldPut M (putC n L p) (putC_asc h)
  refine ⟨h1, fun q => ?_⟩
  rw [List.foldl_cons, h2, putC_mem, List.mem_cons, or_assoc]
open Classical in
theorem allC_ex (n : Nat) (ops : List OpD) : ∃ L, AllC n ops L := by
 obtain ⟨h1, h2⟩ := foldPut (n := n) ((ptAll n).filter fun q => decide (Pt n q ∧ Cong n ops q)) [] List.Pairwise.nil
 refine ⟨_, h1, fun q => ?_⟩
 rw [h2, List.mem_filter, decide_eq_true_eq]
 constructor
 · rintro (h | h)
   · cases h
   · exact h.2
 · exact fun h => .inr ⟨pt_ptAll h.1, h⟩
noncomputable def allL (n : Nat) (ops : List OpD) : List (List Int) := (allC_ex n ops).choose
theorem allL_all (n : Nat) (ops : List OpD) : AllC n ops (allL n ops) := (allC_ex n ops).choose_spec
theorem AllC.eq {n : Nat} {ops : List OpD} {L : List (List Int)} (h : AllC n ops L) : L = allL n ops := h.unique (allL_all n ops)
theorem allL_mem {n : Nat} {ops : List OpD} {q : List Int} : q ∈ allL n ops ↔ Pt n q ∧ Cong n ops q := (allL_all n ops).2 q
end Go.Proofs.YtbohjibbgppfaaaGreat
/- Walks: the program's clones. -/
namespace Go.Pv
open Go
attribute [local semireducible] Go.Pv.PStep
theorem one_l {l : List PV} (h : l.all PV.one = true) : ∀ p ∈ l, ∀ c, p.flat = some c → c.all PV.one = true := fun p hp c hc => by
 have := List.all_eq_true.1 h p hp
 rw [flat_one this] at hc
 cases hc
 simp [this]
section
variable {P : Program} {o : Oper} {ev : Operand → PV} {hp : List HO}
theorem ps_shrc {t rt : TypeId} {x y : Operand} {a : Nat} {b : Nat} (ho : o.op = .binOp .shr t x y rt) (h1 : ev x = I (a : Int)) (h2 : ev y = .val (.int .u64 (b : Int))) (hb : b ≤ 63) : PStep P o ev hp (I ((a >>> b : Nat) : Int)) :=
 ps_bin ho h1 h2 fun w => by
  have h := shift_shr .i64 .u64 (a : Int) (b : Int) (by omega) (by show (b : Int) ≤ (64 : Nat); omega)
  have e : (a : Int) / 2 ^ (b : Int).toNat = ((a >>> b : Nat) : Int) := by rw [Nat.shiftRight_eq_div_pow]; simp
  rw [← e]
  simp only [eqGuard_shr, binOp_shr, h, Sem.run_bind, run_pure, Result.andThen]
end
end Go.Pv
namespace Go.Proofs.YtbohjibbgppfaaaGreat
open Go Go.Pv Go.Proofs
set_option maxHeartbeats 32000000
set_option maxRecDepth 100000
attribute [local bitvec_to_nat] posI optP lendM1 lendMA lendMP killM1 killMA killMP hasI getO backM1 backMA backMP putL inpM pinM1 pinMA pinMP

def keyN (l : List Int) : List Int := l.flatMap fun x => [((x.toNat >>> 8 : Nat) : Int) % 256, x % 256]
def keyB (l : List Int) : ByteArray := strOf (keyN l)
theorem keyN_snoc (l : List Int) (x : Int) : keyN (l ++ [x]) = keyN l ++ [((x.toNat >>> 8 : Nat) : Int) % 256, x % 256] := by unfold keyN; rw [List.flatMap_append]; rfl
theorem keyN_len (l : List Int) : (keyN l).length = 2 * l.length := by
 induction l with
 | nil => rfl
 | cons x l ih => show (_ ++ keyN l).length = _; rw [List.length_append, ih]; simp; omega
theorem strOf_data (ns : List Int) : (strOf ns).data.toList = ns.map fun n => UInt8.ofNat n.toNat := by
 have : ∀ (ns : List Int) (b : ByteArray), (ns.foldl (fun r n => r.push (UInt8.ofNat n.toNat)) b).data.toList = b.data.toList ++ ns.map fun n => UInt8.ofNat n.toNat := by
  intro ns
  induction ns with
  | nil => intro b; simp
  | cons n ns ih =>
   intro b
   rw [List.foldl_cons, ih]
   simp [ByteArray.push]
 have h := this ns ByteArray.empty
 unfold strOf
 rw [h]
 rfl
theorem keyN_inj : ∀ {l m : List Int}, (∀ x ∈ l, 0 ≤ x ∧ x < 65536) → (∀ x ∈ m, 0 ≤ x ∧ x < 65536) → (keyN l).map (fun n => UInt8.ofNat n.toNat) = (keyN m).map (fun n => UInt8.ofNat n.toNat) → l = m
 | [], [], _, _, _ => rfl
 | x :: l, [], _, _, h => by simp [keyN] at h
 | [], y :: m, _, _, h => by simp [keyN] at h
 | x :: l, y :: m, hl, hm, h => by
  have hx := hl x (by simp)
  have hy := hm y (by simp)
  have e : ∀ (z : Int) (r : List Int), (keyN (z :: r)).map (fun n => UInt8.ofNat n.toNat) = UInt8.ofNat (((z.toNat >>> 8 : Nat) : Int) % 256).toNat :: UInt8.ofNat (z % 256).toNat :: (keyN r).map (fun n => UInt8.ofNat n.toNat) := fun z r => rfl
  rw [e, e, List.cons.injEq, List.cons.injEq] at h
  obtain ⟨h1, h2, h3⟩ := h
  have key : ∀ (a b : Nat), a < 256 → b < 256 → UInt8.ofNat a = UInt8.ofNat b → a = b := fun a b ha hb h => by
   have := congrArg UInt8.toNat h
   simpa [Nat.mod_eq_of_lt ha, Nat.mod_eq_of_lt hb] using this
  have k1 := key _ _ (by rw [Nat.shiftRight_eq_div_pow]; omega) (by rw [Nat.shiftRight_eq_div_pow]; omega) h1
  have k2 := key _ _ (by omega) (by omega) h2
  rw [Nat.shiftRight_eq_div_pow, Nat.shiftRight_eq_div_pow] at k1
  have hxy : x = y := by omega
  rw [hxy, keyN_inj (fun z hz => hl z (by simp [hz])) (fun z hz => hm z (by simp [hz])) h3]
theorem keyB_inj {l m : List Int} (hl : ∀ x ∈ l, 0 ≤ x ∧ x < 65536) (hm : ∀ x ∈ m, 0 ≤ x ∧ x < 65536) (h : keyB l = keyB m) : l = m := by
 have := congrArg (fun b : ByteArray => b.data.toList) h
 unfold keyB at this
 simp only [strOf_data] at this
 exact keyN_inj hl hm this
abbrev W8 (n : Int) : PV := .val (.int .u8 n)
theorem key_c (l : List Int) (hl : l.length ≤ 1048576) (h : ∀ x ∈ l, 0 ≤ x ∧ x < 65536) : PCalls Tryz.prog 180 [ints l] (.val (.string (keyB l))) := by
 refine pcalls1 Tryz.func180 rfl Tryz.ntmps180 rfl ?_
 refine wF ?_
 repeat' (first
| refine wO ?_
| (refine o_go rfl ?_; (first
| refine p_p (ps_mul rfl rfl rfl zz) ?_
| refine p_e rfl (e_makeCap rfl rfl rfl zz zz zz zd (by rfl)) ?_
| refine wS ?_); refine ⟨_, aA, ?_⟩))
 refine g_loopF (α := Nat) [9] (fun i => [(3, .hp 0), (12, I (i : Int))]) (fun i => [.arr true 1 5 ((keyN (l.take i)).map W8)]) (fun i => i ≤ l.length) (fun i => l.length - i) 0 aH (Nat.zero_le _) ⟨rfl, rfl, trivial⟩ rfl ?_
 rintro i hi
 refine wH ?_
 have hkl : ((keyN (l.take i)).map W8).length = 2 * i := by rw [List.length_map, keyN_len, List.length_take]; omega
 by_cases hil : i < l.length
 · obtain ⟨x, hx⟩ : ∃ x : Nat, l.getD i 0 = x := ⟨(l.getD i 0).toNat, by have := h _ (getD_at hil); omega⟩
   have hx2 := h _ (getD_at hil)
   have hk := keyN_snoc (l.take i) (l.getD i 0)
   rw [← take_snoc 0 hil] at hk
   have hix : (l.map I)[i]? = some (I (x : Int)) := by rw [← hx]; exact idx_I hil
   rw [hx] at hk hx2
   rw [Int.toNat_natCast] at hk
   have hw1 : IntKind.u8.wrap ((x >>> 8 : Nat) : Int) = ((x >>> 8 : Nat) : Int) % 256 := by rw [IntKind.wrap_u8]
   have hw2 : IntKind.u8.wrap (x : Int) = (x : Int) % 256 := by rw [IntKind.wrap_u8]
   repeat' (first
| refine wO ?_
| (refine o_go rfl ?_; (first
| refine p_p (zN rfl rfl rfl zz hix ze) ?_
| refine p_p (ps_shrc rfl rfl rfl zd) ?_
| refine p_p (ps_conv (by rw [Tryz.underlying3]; rfl) Tryz.underlying5 rfl rfl) ?_
| refine p_p (ps_lits rfl ze ze aU zd zd) ?_
| refine p_e zk (e_append rfl rfl rfl rfl rfl rfl (one_l rfl) rfl (by rw [n_len_c, n_len_c, n_len_n]; omega) (by rw [n_len_c, n_len_c, n_len_n]; omega)) ?_
| refine wS ?_); refine ⟨_, aA, ?_⟩)
| (refine zK rfl ?_ ?_ <;> intro hc <;> try omega)
| refine wE ?_)
   all_goals try (exfalso; omega)
   refine zT (i + 1) (by omega) (by omega) aI ⟨rfl, rfl, trivial⟩ (zB ?_ (zM _))
   rw [hk, List.map_append, hw1, hw2]; rfl
 · have hie : l.take i = l := List.take_of_length_le (by omega)
   rw [hie]
   repeat' (first
| refine wO ?_
| (refine o_go rfl ?_; (first
| refine p_p (ps_bytesString Tryz.underlying22 Tryz.underlying5 Tryz.underlying9 rfl rfl rfl) ?_
| refine wS ?_); refine ⟨_, aA, ?_⟩)
| (refine zK rfl ?_ ?_ <;> intro hc <;> try omega)
| refine kr1 ?_
| refine wE ?_)
   all_goals try (exfalso; omega)
   exact krV rfl
/-! ### The list of what was found -/
instance : MapT Tryz.prog 147 9 4 (.bool false) := ⟨Tryz.underlying147, Tryz.underlying9, fun _ => by kernel_rfl⟩
def smallE (E : List Ent) : Prop := ∀ c ∈ E, ∀ x ∈ c.1, 0 ≤ x ∧ x < 65536
theorem mpGet_mem {t : List Int} (ht : ∀ x ∈ t, 0 ≤ x ∧ x < 65536) : ∀ {T : List (List Int)}, (∀ u ∈ T, ∀ x ∈ u, 0 ≤ x ∧ x < 65536) → mpGet (T.map fun t => (keyB t, B true)) (keyB t) (B false) = B (decide (t ∈ T))
 | [], _ => rfl
 | u :: T, h => by
  rw [List.map_cons, mpGet]
  by_cases e : keyB u = keyB t
  · rw [if_pos e, keyB_inj (h u (by simp)) ht e]; simp
  · rw [if_neg e, mpGet_mem ht (fun v hv => h v (by simp [hv]))]
    have : t ≠ u := fun h' => e (by rw [h'])
    simp [this]
theorem mpPut_new {t : List Int} (ht : ∀ x ∈ t, 0 ≤ x ∧ x < 65536) (p : PV) : ∀ {T : List (List Int)}, (∀ u ∈ T, ∀ x ∈ u, 0 ≤ x ∧ x < 65536) → t ∉ T → mpPut (T.map fun t => (keyB t, B true)) (keyB t) p = (T.map fun t => (keyB t, B true)) ++ [(keyB t, p)]
 | [], _, _ => rfl
 | u :: T, h, hn => by
  rw [List.map_cons, mpPut]
  have e : keyB u ≠ keyB t := fun e => hn (by rw [keyB_inj (h u (by simp)) ht e]; simp)
  rw [if_neg e, mpPut_new ht p (fun v hv => h v (by simp [hv])) (fun hm => hn (by simp [hm]))]; rfl
abbrev mapV (b : Nat) : PV := .val (.map (some b))
theorem iclone_R (l : List Int) (hl : l.length ≤ 1048576) : RCalls Tryz.prog 157 [ints l] (.arr true 1 3 (l.map I)) (.hp 0) := by
 refine pcallsR1 Tryz.func157 rfl Tryz.ntmps157 rfl ?_
 refine wF ?_
 repeat' (first
| refine wO ?_
| (refine o_go rfl ?_; (first
| refine wS ?_
| refine p_e rfl (e_lit0 rfl zd) ?_
| refine p_e rfl (e_append rfl rfl rfl rfl rfl rfl (by first | exact one_one rfl | exact one_map (fun _ => rfl) _) rfl aT aT) ?_); refine ⟨_, aA, ?_⟩)
| refine krr 0 rfl (HandOut.arr rfl ?_ aR)
| refine wE ?_)
 rfl
theorem iclone_c (l : List Int) (hl : l.length ≤ 1048576) : PCalls Tryz.prog 157 [ints l] (ints l) := rcalls_P rfl (iclone_R l hl)
end Go.Proofs.YtbohjibbgppfaaaGreat
/- The layer: a block of cells that is reached by a slice, settled when it is whole. -/
namespace Go.Pv
open Go
attribute [local semireducible] Go.Pv.Goal Go.Pv.Ops Go.Pv.PStep Go.Pv.EStep Go.Pv.KRets Go.Pv.PCalls Go.Pv.OpsG
section
variable {P : Program} {o : Oper} {ev : Operand → PV} {hp : List HO}
theorem ps_len_box {t e : TypeId} {s by_ : Nat} [ht : SlT P t e s by_] {x : Operand} {id : Nat} {l : List PV} {tys : Array TypeId} (ho : o.op = .call { callee := .builtin .len, args := #[x], argTypes := tys }) (htys : tys = #[t])
 (h1 : ev x = .hp id) (hh : hp[id]? = some (.box l)) : PStep P o ev hp (I l.length) :=
 .of_run fun w0 g ρ w av hb hx => by
  have e1 := hx x (by simp [ho, Op.operands, Call.operands])
  subst htys
  rw [h1] at e1
  have ea := (HpV.box e1 _ hh).1
  exact ⟨.int .i64 l.length, by simp [execOp, ho, resolve, invoke, builtin, Builtin.len_, ea, run_underlying ht.hu, goInt, go_sem], .val _⟩
end
def setS1 (n : Nat) (l : List PV) : PV → PV
 | .hp j => bif j == n then .sl 1 none l else .hp j
 | .hpv j b c => bif j == n then .sl 1 none l else .hpv j b c
 | p => p
def setSA (n : Nat) (l : List PV) : PV → PV
 | .agg m => .agg (m.map (setS1 n l))
 | p => setS1 n l p
def setSP (n : Nat) (l : List PV) : PV → PV
 | .tup m => .tup (m.map (setSA n l))
 | .agg m => .agg (m.map (setS1 n l))
 | p => setS1 n l p
theorem setSA_map (n : Nat) (l : List PV) : setSA n l = mapA (setS1 n l) := by funext p; cases p <;> rfl
theorem setSP_map (n : Nat) (l : List PV) (p : PV) : setSP n l p = mapT (setS1 n l) p := by cases p <;> first | rfl | simp only [setSP, mapT, setSA_map]
def setSH (n : Nat) (l : List PV) (hp : List HO) : List HO := (hp.map (mapHO (setS1 n l))).set n .gone

theorem rel_settleS {w0 : Ini} {S : St} {g : Ghost} {ρ : Nat → Loc} {a : Act} {w : World} (h : Rel w0 S g ρ a w) {n : Nat} {l : List PV} (hn : S.hp[n]? = some (.box l)) (hone : ∀ p ∈ l.map (view1 S.hp), p.one = true) :
 ∃ g', GExt g g' ∧ Rel w0 ⟨S.fr.map (setSP n (l.map (view1 S.hp))), setSH n (l.map (view1 S.hp)) S.hp⟩ g' ρ a w := by
 obtain ⟨cur, e, hown⟩ := h.base.own n _ hn
 let g' : Ghost := gset g (ρ n).blk (fun o => cur[o]?)
 have hx : GExt g g' := fun b o v hv => by
  show gset g (ρ n).blk _ b o = some v
  unfold gset
  split
  · rename_i e; subst e; rw [hown.hg] at hv; cases hv
  · exact hv
 have hag : Agree g' w := fun b o v hv => by
  have hv' : gset g (ρ n).blk (fun o => cur[o]?) b o = some v := hv
  unfold gset at hv'
  split at hv'
  · rename_i e; subst e
    rw [cell_of_row _ _ _ _ _ _ hown.hw]; exact hv'
  · exact h.base.agree b o v hv'
 have hlt : n < S.hp.length := (List.getElem?_eq_some_iff.1 hn).1
 have back : ∀ (i : Nat) (y : HO), ((S.hp.map (mapHO (setS1 n (l.map (view1 S.hp))))).set n .gone)[i]? = some y → y = .gone ∨ (S.hp[i]?).map (mapHO (setS1 n (l.map (view1 S.hp)))) = some y := fun i y hi => by
  rw [List.getElem?_set] at hi
  split at hi
  · split at hi
    · left; simpa using hi.symm
    · cases hi
  · right; rwa [List.getElem?_map] at hi
 have hφ : ∀ v p, VRS1 g ρ S.hp v p → VRS1 g' ρ ((S.hp.map (mapHO (setS1 n (l.map (view1 S.hp))))).set n .gone) v (setS1 n (l.map (view1 S.hp)) p) := fun v p hv => by
  have keyH : ∀ {j}, HpV ρ S.hp v j → HpV ρ ((S.hp.map (mapHO (setS1 n (l.map (view1 S.hp))))).set n .gone) v j := fun {j} hv =>
   { sl := hv.sl
     arr := fun m s e l' hid => by
      rcases back _ _ hid with h' | h'
      · cases h'
      · exact hv.arr _ _ _ _ (mapHO_arr h')
     grid := fun e1 e2 rows hid => by
      rcases back _ _ hid with h' | h'
      · cases h'
      · exact hv.grid _ _ _ (mapHO_grid h')
     sg := fun e1 e2 n rows hid => by
      rcases back _ _ hid with h' | h'
      · cases h'
      · exact hv.sg _ _ _ _ (mapHO_sg h')
     pg := fun e1 e2 n rows hid => by
      rcases back _ _ hid with h' | h'
      · cases h'
      · exact hv.pg _ _ _ _ (mapHO_pg h')
     box := fun l' hid => by
      rcases back _ _ hid with h' | h'
      · cases h'
      · obtain ⟨l0, h0, hl⟩ := mapHO_box h'
        rw [← hl]; exact hv.box _ h0 }
  have keyS : HpV ρ S.hp v n → VR g' v (.sl 1 none (l.map (view1 S.hp))) := fun hv => by
   obtain ⟨e0, h1, h2⟩ := hv.box _ hn
   have hll : (l.map (view1 S.hp)).length = l.length := List.length_map _
   rw [e0, ← hll]
   refine VR.sl 1 none _ 0 _ _ (fun i => [(l.map (view1 S.hp)).getD i .any]) (fun k => cur.getD k undef) (by decide) (by simp) (by rw [hll]; exact h1) h2 (fun i p hi => ?_) (fun k hk => ?_) (fun i j q hi hq => ?_)
   · have : (l.map (view1 S.hp)).getD i .any = p := by rw [List.getD_eq_getElem?_getD, hi]; rfl
     rw [this]
     exact ⟨flat_one (hone p (List.mem_of_getElem? hi)), rfl⟩
   · show gset g (ρ n).blk _ _ _ = _
     unfold gset
     rw [if_pos rfl, Nat.zero_add]
     rw [Nat.mul_one, hll] at hk
     exact getElem?_getD (by rw [hown.hsz]; exact hk)
   · rcases j with _ | j
     · simp only [List.getElem?_cons_zero, Option.some.injEq] at hq
       rw [hll] at hi
       rw [Nat.mul_one, Nat.add_zero, ← hq, List.getD_eq_getElem?_getD, List.getElem?_map, List.getElem?_eq_getElem hi]
       exact (h.base.view1 (hown.hv i _ (List.getElem?_eq_getElem hi))).mono hx
     · simp at hq
  cases p with
  | hp j =>
   simp only [setS1]
   cases hb : (j == n) with
   | false => exact keyH hv
   | true =>
    have e : j = n := by simpa using hb
    subst e
    exact .of_VR (keyS hv)
  | hpv j b c =>
   simp only [setS1]
   cases hb : (j == n) with
   | false => exact ⟨keyH hv.1, hv.2⟩
   | true =>
    have e : j = n := by simpa using hb
    subst e
    exact .of_VR (keyS hv.1)
  | hat j i => exact hv
  | hatv j i b c => exact hv
  | gr j i =>
   refine (⟨GrV.sl hv, fun e1 e2 rows r hid hr => ?_, fun e1 e2 _n rows r hid hr => ?_⟩ : GrV _ _ _ _ _)
   rotate_left
   · rcases back _ _ hid with h' | h'
     · cases h'
     · exact GrV.sg hv _ _ _ _ _ (mapHO_sg h') hr
   rcases back _ _ hid with h' | h'
   · cases h'
   · exact GrV.grid hv _ _ _ _ (mapHO_grid h') hr
  | gat j i k => exact hv
  | _ => exact VR.mono hx hv
 have hbase := h.base.upd hn (x' := .gone) (ρ n) hx (setS1 n (l.map (view1 S.hp))) (by rw [upd_id]; exact hφ) hag h.base.below (fun b o hb => by
  show gset g (ρ n).blk _ b o = _
  unfold gset
  have hne : b ≠ (ρ n).blk := fun e => by subst e; exact hb hown.hB
  rw [if_neg hne]) trivial (fun b hb => hb.elim) (fun b hb hnf => ⟨rfl, fun o => by
  show gset g (ρ n).blk _ b o = _
  unfold gset
  have hne : b ≠ (ρ n).blk := fun e => hnf e
  rw [if_neg hne]⟩)
 rw [upd_id] at hbase
 refine ⟨g', hx, hbase, h.dead, by simpa using h.size, fun i p hp => ?_⟩
 simp only [List.getElem?_map, Option.map_eq_some_iff] at hp
 obtain ⟨p, hp, rfl⟩ := hp
 rw [setSP_map]
 exact (h.fr i p hp).map hφ
theorem g_settleS {P : Program} {K : Exit → St → Prop} {S : St} {c : Code} (n : Nat) {l l' : List PV} {S' : St} (hn : S.hp[n]? = some (.box l)) (hl : l.map (view1 S.hp) = l') (hone : ∀ p ∈ l', p.one = true) (hS : St.mk (S.fr.map (setSP n l')) (setSH n l' S.hp) = S') (hk : Goal P c K S') : Goal P c K S := by
 subst hl
 unfold Goal at hk ⊢
 intro w0 g ρ a w Q hr hQ
 obtain ⟨g', -, hr'⟩ := rel_settleS hr hn hone
 rw [hS] at hr'
 exact hk w0 g' ρ a w Q hr' hQ
end Go.Pv
