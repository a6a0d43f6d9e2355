/- Plain: joins and meets of partitions, principal congruences, all congruences. -/
import Derived.Test.YtepjlgilopfnpaaGreatJKa
import Derived.Test.YtepjlgilopfnpaaGreatJSt
namespace Go.Proofs.YtepjlgilopfnpaaGreat
open Go Go.Pv Go.Proofs

/-! ### What is least, among all equivalences -/
theorem un_leastE {n : Nat} {E : Nat → Nat → Prop} (hE : Equivalence E) {p : List Int} (h : Pt n p) {x y : Nat} (hx : x < n) (hy : y < n) (hf : ∀ z, z < n → E (bk p z) z) (hr : E x y) : ∀ z, z < n → E (bk (unL p x y) z) z := fun z hz => by
 rw [bk_unL h hx hy hz]
 by_cases hc : bk p z = max (bk p x) (bk p y)
 · rw [if_pos hc]
   have h1 : E (max (bk p x) (bk p y)) z := hc ▸ hf z hz
   by_cases hl : bk p x ≤ bk p y
   · rw [Nat.min_eq_left hl]; rw [Nat.max_eq_right hl] at h1
     exact hE.trans (hE.trans (hf x hx) hr) (hE.trans (hE.symm (hf y hy)) h1)
   · rw [Nat.min_eq_right (by omega)]; rw [Nat.max_eq_left (by omega)] at h1
     exact hE.trans (hE.trans (hf y hy) (hE.symm hr)) (hE.trans (hE.symm (hf x hx)) h1)
 · rw [if_neg hc]; exact hf z hz
theorem foldU_leastE {n : Nat} {E : Nat → Nat → Prop} (hE : Equivalence E) : ∀ {L : List (Nat × Nat)} {p : List Int}, Pt n p → (∀ vw ∈ L, vw.1 < n ∧ vw.2 < n) → (∀ z, z < n → E (bk p z) z) → (∀ vw ∈ L, E vw.1 vw.2) → ∀ z, z < n → E (bk (foldU L p) z) z
 | [], _, _, _, h, _ => h
 | vw :: L, p, h, hL, hf, hr => by
  obtain ⟨h1, h2⟩ := hL _ (List.mem_cons_self ..)
  exact foldU_leastE hE (L := L) (unL_pt h h1 h2) (fun x hx => hL x (List.mem_cons_of_mem _ hx)) (un_leastE hE h h1 h2 hf (hr _ (List.mem_cons_self ..))) fun x hx => hr x (List.mem_cons_of_mem _ hx)
def Keeps (n : Nat) (ops : List OpD) (E : Nat → Nat → Prop) : Prop := ∀ f ∈ ops, ∀ i, i < n ^ f.ar.toNat → ∀ j, j < f.ar.toNat → ∀ a b, a < n → b < n → E a b → E (bk f.tb (subN n i j a)) (bk f.tb (subN n i j b))
theorem eqv_bk (p : List Int) : Equivalence fun a b => bk p a = bk p b := ⟨fun _ => rfl, fun h => h.symm, fun h g => h.trans g⟩
theorem cong_keeps {n : Nat} {ops : List OpD} {p : List Int} (hp : Pt n p) : Cong n ops p ↔ Keeps n ops fun a b => bk p a = bk p b := by
 constructor
 · intro h f hf i hi j hj a b ha hb he
   have h1 := h f hf _ (sub_lt hi hj ha) j hj
   have h2 := h f hf _ (sub_lt hi hj hb) j hj
   rw [dig_sub i j ha, sub_sub i j ha] at h1
   rw [dig_sub i j hb, sub_sub i j hb] at h2
   show bk p _ = bk p _
   rw [h1, h2, he]
 · intro h f hf i hi j hj
   have hn : 0 < n := by
    rcases Nat.eq_zero_or_pos n with h0 | h0
    · rw [h0, Nat.zero_pow (by omega)] at hi; omega
    · exact h0
   have hd : digN n i j < n := Nat.mod_lt _ hn
   have := h f hf i hi j hj _ _ hd (hp.lt hd) (hp.id _ hd).symm
   rw [subN_self] at this
   exact this
/-! ### The partition with each element alone -/
def idL (n : Nat) : List Int := (List.range n).map fun (x : Nat) => (x : Int)
theorem bk_idL {n x : Nat} (hx : x < n) : bk (idL n) x = x := by
 unfold bk idL
 rw [List.getD_eq_getElem?_getD, List.getElem?_map, List.getElem?_range hx]
 simp
theorem idL_pt (n : Nat) : Pt n (idL n) := ⟨by simp [idL], fun x hx => by
 unfold idL
 rw [List.getD_eq_getElem?_getD, List.getElem?_map, List.getElem?_range hx]; simp, fun x hx => by rw [bk_idL hx]; exact Nat.le_refl _, fun x hx => by rw [bk_idL hx, bk_idL hx]⟩
theorem idL_fi {n : Nat} (p : List Int) : Fi n (idL n) p := fun x hx => by rw [bk_idL hx]
theorem idL_cong {n : Nat} (ops : List OpD) : Cong n ops (idL n) := fun f _ i hi j hj => by
 have hn : 0 < n := by
  rcases Nat.eq_zero_or_pos n with h0 | h0
  · rw [h0, Nat.zero_pow (by omega)] at hi; omega
  · exact h0
 rw [bk_idL (show digN n i j < n from Nat.mod_lt _ hn), subN_self]
theorem unL_comm (p : List Int) (x y : Nat) : unL p x y = unL p y x := by
 unfold unL
 rw [Int.max_comm, Int.min_comm]
/-! ### Joins -/
def prsL (n : Nat) (q : List Int) : List (Nat × Nat) := (List.range n).map fun x => (x, bk q x)
def joinP (n : Nat) (p q : List Int) : List Int := foldU (prsL n q) p
theorem prs_mem {n : Nat} {q : List Int} {vw : Nat × Nat} : vw ∈ prsL n q ↔ ∃ x, x < n ∧ vw = (x, bk q x) := by
 simp only [prsL, List.mem_map, List.mem_range]
 constructor <;> rintro ⟨x, hx, rfl⟩ <;> exact ⟨x, hx, rfl⟩
theorem prs_lt {n : Nat} {q : List Int} (hq : Pt n q) : ∀ vw ∈ prsL n q, vw.1 < n ∧ vw.2 < n := fun vw h => by
 obtain ⟨x, hx, rfl⟩ := prs_mem.1 h
 exact ⟨hx, hq.lt hx⟩
theorem join_pt {n : Nat} {p q : List Int} (hp : Pt n p) (hq : Pt n q) : Pt n (joinP n p q) := foldU_pt hp (prs_lt hq)
theorem join_fi1 {n : Nat} {p q : List Int} (hp : Pt n p) (hq : Pt n q) : Fi n p (joinP n p q) := foldU_fi hp (prs_lt hq)
theorem join_fi2 {n : Nat} {p q : List Int} (hp : Pt n p) (hq : Pt n q) : Fi n q (joinP n p q) := fun x hx => (foldU_R hp (prs_lt hq) (x, bk q x) (prs_mem.2 ⟨x, hx, rfl⟩)).symm
theorem join_leastE {n : Nat} {p q : List Int} (hp : Pt n p) (hq : Pt n q) {E : Nat → Nat → Prop} (hE : Equivalence E) (h1 : ∀ z, z < n → E (bk p z) z) (h2 : ∀ z, z < n → E (bk q z) z) : ∀ z, z < n → E (bk (joinP n p q) z) z :=
 foldU_leastE hE hp (prs_lt hq) h1 fun vw h => by
  obtain ⟨x, hx, rfl⟩ := prs_mem.1 h
  exact hE.symm (h2 x hx)
theorem join_least {n : Nat} {p q r : List Int} (hp : Pt n p) (hq : Pt n q) (h1 : Fi n p r) (h2 : Fi n q r) : Fi n (joinP n p q) r := join_leastE hp hq (eqv_bk r) h1 h2
theorem join_cong {n : Nat} {ops : List OpD} {p q : List Int} (ho : opsIn n ops) (hp : Pt n p) (hq : Pt n q) (cp : Cong n ops p) (cq : Cong n ops q) : Cong n ops (joinP n p q) := by
 have hj := join_pt hp hq
 rw [cong_keeps hj]
 intro f hf i hi k hk a b ha hb he
 have hin := fun i hi => ((ho f hf).2.2.2 i hi).2
 have key : ∀ z, z < n → bk (joinP n p q) (bk f.tb (subN n i k (bk (joinP n p q) z))) = bk (joinP n p q) (bk f.tb (subN n i k z)) := by
  refine join_leastE hp hq (E := fun a b => bk (joinP n p q) (bk f.tb (subN n i k a)) = bk (joinP n p q) (bk f.tb (subN n i k b))) ⟨fun _ => rfl, fun h => h.symm, fun h g => h.trans g⟩ (fun z hz => ?_) (fun z hz => ?_)
  · have := (cong_keeps hp).1 cp f hf i hi k hk _ _ (hp.lt hz) hz (hp.id z hz)
    exact fi_R (join_fi1 hp hq) (hin _ (sub_lt hi hk (hp.lt hz))) (hin _ (sub_lt hi hk hz)) this
  · have := (cong_keeps hq).1 cq f hf i hi k hk _ _ (hq.lt hz) hz (hq.id z hz)
    exact fi_R (join_fi2 hp hq) (hin _ (sub_lt hi hk (hq.lt hz))) (hin _ (sub_lt hi hk hz)) this
 show bk _ _ = bk _ _
 rw [← key a ha, ← key b hb, he]
/-! ### Meets -/
def fstN (n : Nat) (P : Nat → Bool) : Nat := ((List.range n).find? P).getD n
theorem fstN_spec {n : Nat} {P : Nat → Bool} {x : Nat} (hx : x < n) (h : P x = true) : fstN n P ≤ x ∧ P (fstN n P) = true ∧ ∀ y, y < fstN n P → P y = false := by
 unfold fstN
 obtain ⟨z, hz⟩ : ∃ z, (List.range n).find? P = some z := Option.isSome_iff_exists.1 (List.find?_isSome.2 ⟨x, List.mem_range.2 hx, h⟩)
 rw [hz, Option.getD_some]
 have h1 := List.find?_some hz
 obtain ⟨-, l1, l2, e, hno⟩ := List.find?_eq_some_iff_append.1 hz
 have hl : z = l1.length := by
  have h5 : (List.range n)[l1.length]? = some z := by rw [e, List.getElem?_append_right (Nat.le_refl _), Nat.sub_self]; rfl
  have h6 := (List.getElem?_eq_some_iff.1 h5).1
  rw [List.length_range] at h6
  rw [List.getElem?_range h6] at h5
  exact (Option.some.inj h5).symm
 have hlow : ∀ y, y < z → P y = false := fun y hy => by
  have hm : y ∈ l1 := by
   have h5 : (List.range n)[y]? = some y := List.getElem?_range (by have := List.mem_range.1 (List.mem_of_find?_eq_some hz); omega)
   rw [e, List.getElem?_append_left (by omega)] at h5
   exact List.mem_of_getElem? h5
  simpa using hno y hm
 refine ⟨?_, h1, hlow⟩
 rcases Nat.lt_or_ge x z with hlt | hge
 · rw [hlow x hlt] at h; cases h
 · exact hge
theorem fstN_eq {n : Nat} {P : Nat → Bool} {x : Nat} (hx : x < n) (h : P x = true) (hlow : ∀ y, y < x → P y = false) : fstN n P = x := by
 obtain ⟨h1, h2, -⟩ := fstN_spec hx h
 rcases Nat.lt_or_ge (fstN n P) x with hlt | hge
 · rw [hlow _ hlt] at h2; cases h2
 · omega
def sameB (p q : List Int) (x y : Nat) : Bool := decide (bk p y = bk p x) && decide (bk q y = bk q x)
def meetP (n : Nat) (p q : List Int) : List Int := (List.range n).map fun x => ((fstN n (sameB p q x) : Nat) : Int)
theorem sameB_iff {p q : List Int} {x y : Nat} : sameB p q x y = true ↔ bk p y = bk p x ∧ bk q y = bk q x := by
 unfold sameB; rw [Bool.and_eq_true, decide_eq_true_iff, decide_eq_true_iff]
theorem meet_getD {n x : Nat} {p q : List Int} (hx : x < n) : (meetP n p q).getD x 0 = ((fstN n (sameB p q x) : Nat) : Int) := by
 unfold meetP
 rw [List.getD_eq_getElem?_getD, List.getElem?_map, List.getElem?_range hx]; rfl
theorem bk_meet {n x : Nat} {p q : List Int} (hx : x < n) : bk (meetP n p q) x = fstN n (sameB p q x) := by
 unfold bk; rw [meet_getD hx]; rfl
theorem meet_R {n x y : Nat} {p q : List Int} (hx : x < n) (hy : y < n) : bk (meetP n p q) x = bk (meetP n p q) y ↔ bk p x = bk p y ∧ bk q x = bk q y := by
 rw [bk_meet hx, bk_meet hy]
 constructor
 · intro h
   have h1 := sameB_iff.1 (fstN_spec hx (sameB_iff.2 ⟨rfl, rfl⟩ : sameB p q x x = true)).2.1
   have h2 := sameB_iff.1 (fstN_spec hy (sameB_iff.2 ⟨rfl, rfl⟩ : sameB p q y y = true)).2.1
   rw [← h] at h2
   exact ⟨h1.1.symm.trans h2.1, h1.2.symm.trans h2.2⟩
 · rintro ⟨h1, h2⟩
   have : sameB p q x = sameB p q y := by funext z; unfold sameB; rw [h1, h2]
   rw [this]
theorem meet_pt {n : Nat} {p q : List Int} : Pt n (meetP n p q) := by
 have hle : ∀ x, x < n → bk (meetP n p q) x ≤ x := fun x hx => by
  rw [bk_meet hx]; exact (fstN_spec hx (sameB_iff.2 ⟨rfl, rfl⟩)).1
 refine ⟨by simp [meetP], fun x hx => by rw [meet_getD hx]; exact Int.natCast_nonneg _, hle, fun x hx => ?_⟩
 have hl := Nat.lt_of_le_of_lt (hle x hx) hx
 rw [meet_R hl hx, bk_meet hx]
 exact sameB_iff.1 (fstN_spec hx (sameB_iff.2 ⟨rfl, rfl⟩ : sameB p q x x = true)).2.1
/-! ### Principal congruences, and all -/
def cgL (n : Nat) (ops : List OpD) (x y : Nat) : List Int := closeL n ops (unL (idL n) x y)
theorem cg_comm (n : Nat) (ops : List OpD) (x y : Nat) : cgL n ops x y = cgL n ops y x := by unfold cgL; rw [unL_comm]
theorem cg_lst {n : Nat} {ops : List OpD} (ho : opsIn n ops) {x y : Nat} (hx : x < n) (hy : y < n) : Lst n ops (unL (idL n) x y) (cgL n ops x y) := close_lst (by omega) ho (unL_pt (idL_pt n) hx hy)
theorem cg_R {n : Nat} {ops : List OpD} (ho : opsIn n ops) {x y : Nat} (hx : x < n) (hy : y < n) : bk (cgL n ops x y) x = bk (cgL n ops x y) y := fi_R (cg_lst ho hx hy).fi hx hy (un_R (idL_pt n) hx hy)
theorem cg_least {n : Nat} {ops : List OpD} (ho : opsIn n ops) {x y : Nat} (hx : x < n) (hy : y < n) {r : List Int} (hr : Pt n r) (hc : Cong n ops r) (h : bk r x = bk r y) : Fi n (cgL n ops x y) r :=
 (cg_lst ho hx hy).least r hr hc (un_least (idL_pt n) hx hy (idL_fi r) h)
inductive JoinedC (n : Nat) (ops : List OpD) : List Int → Prop
 | id : JoinedC n ops (idL n)
 | join (p : List Int) (x y : Nat) (hx : x < y) (hy : y < n) (h : JoinedC n ops p) : JoinedC n ops (joinP n p (cgL n ops x y))
theorem joinedC_cong {n : Nat} {ops : List OpD} (ho : opsIn n ops) {q : List Int} (h : JoinedC n ops q) : Pt n q ∧ Cong n ops q := by
 induction h with
 | id => exact ⟨idL_pt n, idL_cong ops⟩
 | join p x y hx hy _ ih =>
  have hc := cg_lst ho (show x < n by omega) hy
  exact ⟨join_pt ih.1 hc.pt, join_cong ho ih.1 hc.pt ih.2 hc.cong⟩
theorem cong_joinedC {n : Nat} {ops : List OpD} (ho : opsIn n ops) {q : List Int} (hq : Pt n q) (hc : Cong n ops q) : JoinedC n ops q := by
 have key : ∀ k, k ≤ n → ∃ p, JoinedC n ops p ∧ Fi n p q ∧ ∀ x, x < k → bk p x = bk p (bk q x) := by
  intro k
  induction k with
  | zero => exact fun _ => ⟨idL n, .id, idL_fi q, fun x hx => absurd hx (Nat.not_lt_zero _)⟩
  | succ k ih =>
   intro hk
   obtain ⟨p, h1, h2, h3⟩ := ih (by omega)
   have hp := (joinedC_cong ho h1).1
   have hkq := hq.le k (by omega)
   by_cases he : bk q k = k
   · refine ⟨p, h1, h2, fun x hx => ?_⟩
     rcases Nat.lt_or_ge x k with hl | hg
     · exact h3 x hl
     · obtain rfl : x = k := by omega
       rw [he]
   · have hlt : bk q k < k := by omega
     have hg := cg_lst ho (show bk q k < n by omega) (show k < n by omega)
     have hle : Fi n (cgL n ops (bk q k) k) q := cg_least ho (by omega) (by omega) hq hc (hq.id k (by omega))
     refine ⟨_, .join p (bk q k) k hlt (by omega) h1, join_least hp hg.pt h2 hle, fun x hx => ?_⟩
     rcases Nat.lt_or_ge x k with hl | hgx
     · exact fi_R (join_fi1 hp hg.pt) (by omega) (hq.lt (by omega)) (h3 x hl)
     · obtain rfl : x = k := by omega
       exact fi_R (join_fi2 hp hg.pt) (by omega) (hq.lt (by omega)) (cg_R ho (by omega) (by omega)).symm
 obtain ⟨p, h1, h2, h3⟩ := key n (Nat.le_refl _)
 have hp := (joinedC_cong ho h1).1
 have : Fi n q p := fun x hx => (h3 x hx).symm
 rw [fi_antisymm hq hp this h2]
 exact h1
def cmpC (n : Nat) (p q : List Int) : Int := if cnt n q ≠ cnt n p then (cnt n q : Int) - (cnt n p : Int) else cmpX p q
theorem cmpC_self (n : Nat) (p : List Int) : cmpC n p p = 0 := by unfold cmpC; rw [if_neg (by simp), cmpX_self]
theorem cmpC_eq {n : Nat} {p q : List Int} (h : cmpC n p q = 0) : p = q := by
 unfold cmpC at h
 split at h
 · omega
 · exact cmpX_eq h
theorem cmpC_flip (n : Nat) (p q : List Int) : cmpC n q p = -cmpC n p q := by
 unfold cmpC
 by_cases h : cnt n q = cnt n p
 · rw [if_neg (by simp [h]), if_neg (by simp [h])]; exact cmpX_flip p q
 · rw [if_pos (by exact fun e => h e.symm), if_pos h]; omega
theorem cmpC_trans {n : Nat} {p q r : List Int} (h1 : cmpC n p q < 0) (h2 : cmpC n q r < 0) : cmpC n p r < 0 := by
 unfold cmpC at *
 split at h1 <;> split at h2 <;> split
 all_goals first | omega | exact cmpX_trans h1 h2
def AscC (n : Nat) (l : List (List Int)) : Prop := l.Pairwise fun a b => cmpC n a b < 0
theorem ascC_unique {n : Nat} : ∀ (V W : List (List Int)), AscC n V → AscC n W → (∀ x, x ∈ V ↔ x ∈ W) → V = W
 | [], [], _, _, _ => rfl
 | [], w :: W, _, _, h => by have := (h w).2 (List.mem_cons_self ..); cases this
 | v :: V, [], _, _, h => by have := (h v).1 (List.mem_cons_self ..); cases this
 | v :: V, w :: W, hv, hw, h => by
  obtain ⟨v1, v2⟩ := List.pairwise_cons.1 hv
  obtain ⟨w1, w2⟩ := List.pairwise_cons.1 hw
  have e : v = w := by
   rcases List.mem_cons.1 ((h v).1 (List.mem_cons_self ..)) with e | e
   · exact e
   · rcases List.mem_cons.1 ((h w).2 (List.mem_cons_self ..)) with e2 | e2
     · exact e2.symm
     · have a1 := w1 v e
       have a2 := v1 w e2
       have := cmpC_flip n v w
       omega
  subst e
  rw [ascC_unique V W v2 w2 fun x => ?_]
  have hx := h x
  constructor
  · intro hm
    rcases List.mem_cons.1 (hx.1 (List.mem_cons_of_mem _ hm)) with e | e
    · subst e; have := v1 x hm; rw [cmpC_self] at this; omega
    · exact e
  · intro hm
    rcases List.mem_cons.1 (hx.2 (List.mem_cons_of_mem _ hm)) with e | e
    · subst e; have := w1 x hm; rw [cmpC_self] at this; omega
    · exact e
def AllC (n : Nat) (ops : List OpD) (L : List (List Int)) : Prop := AscC n L ∧ ∀ q, q ∈ L ↔ Pt n q ∧ Cong n ops q
theorem AllC.unique {n : Nat} {ops : List OpD} {L M : List (List Int)} (h : AllC n ops L) (h' : AllC n ops M) : L = M := ascC_unique L M h.1 h'.1 fun x => (h.2 x).trans (h'.2 x).symm
open Classical in
theorem len_le_sub {α : Type} [DecidableEq α] : ∀ {l m : List α}, l.Nodup → (∀ a ∈ l, a ∈ m) → l.length ≤ m.length
 | [], _, _, _ => Nat.zero_le _
 | a :: l, m, hd, hs => by
  obtain ⟨h1, h2⟩ := List.nodup_cons.1 hd
  have ha := hs a (List.mem_cons_self ..)
  have ih := len_le_sub (m := m.erase a) h2 fun b hb => (List.mem_erase_of_ne (fun e => h1 (by rw [← e]; exact hb))).2 (hs b (List.mem_cons_of_mem _ hb))
  have := List.length_erase_of_mem ha
  have := List.length_pos_of_mem ha
  rw [List.length_cons]; omega
end Go.Proofs.YtepjlgilopfnpaaGreat
