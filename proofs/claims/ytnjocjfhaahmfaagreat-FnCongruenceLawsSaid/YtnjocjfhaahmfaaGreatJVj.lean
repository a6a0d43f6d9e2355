/- Plain: relations made of factors; how many factors make the join. -/
import Derived.Test.YtnjocjfhaahmfaaGreatJVi
import Derived.Test.YtnjocjfhaahmfaaGreatJVa
import Derived.Test.YtnjocjfhaahmfaaGreatJYo
import Derived.Test.YtnjocjfhaahmfaaGreatJYp
import Derived.Test.YtnjocjfhaahmfaaGreatJKv
set_option linter.unusedSectionVars false
namespace Go.Proofs.YtnjocjfhaahmfaaGreat
open Go Go.Pv Go.Proofs

def ptR (p : List Int) (x y : Nat) : Bool := decide (p.getD x 0 = p.getD y 0)
def cmpR (n : Nat) (R S : Nat → Nat → Bool) (x z : Nat) : Bool := (List.range n).any fun y => R x y && S y z
def facB (n : Nat) (p q : List Int) : Nat → Nat → Nat → Bool
  | 0 => ptR p
  | k + 1 => cmpR n (facB n p q k) (ptR (if k % 2 = 0 then q else p))
theorem cmpR_iff {n : Nat} {R S : Nat → Nat → Bool} {x z : Nat} : cmpR n R S x z = true ↔ ∃ y, y < n ∧ R x y = true ∧ S y z = true := by
  unfold cmpR
  rw [List.any_eq_true]
  constructor
  · rintro ⟨y, hy, h⟩
    rw [Bool.and_eq_true] at h
    exact ⟨y, List.mem_range.1 hy, h.1, h.2⟩
  · rintro ⟨y, hy, h1, h2⟩
    exact ⟨y, List.mem_range.2 hy, by rw [h1, h2]; rfl⟩
theorem ptR_iff {n : Nat} {p : List Int} (hp : Pt n p) {x y : Nat} (hx : x < n) (hy : y < n) : ptR p x y = true ↔ bk p x = bk p y := by
  unfold ptR
  rw [decide_eq_true_eq, hp.val hx, hp.val hy]
  omega
theorem fac_iff {n : Nat} {p q : List Int} (hp : Pt n p) (hq : Pt n q) : ∀ (k x z : Nat), x < n → z < n → (facB n p q k x z = true ↔ facR6 n p q (k + 1) x z)
  | 0, x, z, hx, hz => by
    show ptR p x z = true ↔ _
    rw [ptR_iff hp hx hz]
    constructor
    · intro h; exact ⟨x, hx, rfl, by simpa using h⟩
    · rintro ⟨y, hy, h1, h2⟩
      have h1 : x = y := h1
      subst h1
      simpa using h2
  | k + 1, x, z, hx, hz => by
    show cmpR n (facB n p q k) (ptR (if k % 2 = 0 then q else p)) x z = true ↔ _
    rw [cmpR_iff]
    constructor
    · rintro ⟨y, hy, h1, h2⟩
      refine ⟨y, hy, (fac_iff hp hq k x y hx hy).1 h1, ?_⟩
      by_cases e : k % 2 = 0
      · rw [if_pos e, ptR_iff hq hy hz] at h2
        rw [if_neg (by omega)]; exact h2
      · rw [if_neg e, ptR_iff hp hy hz] at h2
        rw [if_pos (by omega)]; exact h2
    · rintro ⟨y, hy, h1, h2⟩
      refine ⟨y, hy, (fac_iff hp hq k x y hx hy).2 h1, ?_⟩
      by_cases e : k % 2 = 0
      · rw [if_pos e, ptR_iff hq hy hz]
        rwa [if_neg (by omega)] at h2
      · rw [if_neg e, ptR_iff hp hy hz]
        rwa [if_pos (by omega)] at h2
section
variable {n : Nat} {p q : List Int} (hp : Pt n p) (hq : Pt n q)
include hp hq
theorem fac_mono6 {k x z : Nat} (hx : x < n) (hz : z < n) (h : facB n p q k x z = true) : facB n p q (k + 1) x z = true :=
  (fac_iff hp hq _ x z hx hz).2 (fac_mono hz ((fac_iff hp hq _ x z hx hz).1 h))
theorem fac_in {k x z : Nat} (hx : x < n) (hz : z < n) (h : facB n p q k x z = true) : ptR (joinP n p q) x z = true :=
  (ptR_iff (join_pt hp hq) hx hz).2 (fac_join hp hq hx hz ((fac_iff hp hq _ x z hx hz).1 h))
theorem fac_stop {k : Nat} (h : ∀ x z, x < n → z < n → facB n p q (k + 1) x z = facB n p q k x z) {x z : Nat} (hx : x < n) (hz : z < n) (hj : ptR (joinP n p q) x z = true) : facB n p q k x z = true := by
  -- the relation is closed under both factors
  have cl : ∀ (r : List Int), r = p ∨ r = q → ∀ x y z, x < n → y < n → z < n → facB n p q k x y = true → ptR r y z = true → facB n p q k x z = true := fun r hr x y z hx hy hz h1 h2 => by
    by_cases e : r = if k % 2 = 0 then q else p
    · rw [← h x z hx hz]
      exact cmpR_iff.2 ⟨y, hy, h1, by rw [← e]; exact h2⟩
    · -- the last factor of the relation is this one
      cases k with
      | zero =>
        have hrp : r = p := by
          rcases hr with e1 | e1
          · exact e1
          · exact absurd (by rw [e1, if_pos rfl]) e
        subst hrp
        have h1 : ptR r x y = true := h1
        show ptR r x z = true
        unfold ptR at *
        rw [decide_eq_true_eq] at *
        exact h1.trans h2
      | succ k =>
        have hrk : r = if k % 2 = 0 then q else p := by
          by_cases e2 : k % 2 = 0
          · rw [if_neg (by omega)] at e
            rw [if_pos e2]; exact hr.resolve_left e
          · rw [if_pos (by omega)] at e
            rw [if_neg e2]; exact hr.resolve_right e
        obtain ⟨u, hu, u1, u2⟩ := cmpR_iff.1 h1
        refine cmpR_iff.2 ⟨u, hu, u1, ?_⟩
        rw [← hrk] at u2 ⊢
        unfold ptR at *
        rw [decide_eq_true_eq] at *
        exact u2.trans h2
  have refl : ∀ x, x < n → facB n p q k x x = true := fun x hx => by
    have : ∀ k, facB n p q k x x = true := fun k => by
      induction k with
      | zero => show ptR p x x = true; unfold ptR; rw [decide_eq_true_eq]
      | succ k ih => exact fac_mono6 hp hq hx hx ih
    exact this k
  have hE : Equivalence fun a b => ∀ x, x < n → (facB n p q k x a = true ↔ facB n p q k x b = true) := ⟨fun _ _ _ => Iff.rfl, fun h x hx => (h x hx).symm, fun h g x hx => (h x hx).trans (g x hx)⟩
  have both : ∀ (r : List Int), Pt n r → (r = p ∨ r = q) → ∀ z, z < n → ∀ x, x < n → (facB n p q k x (bk r z) = true ↔ facB n p q k x z = true) := fun r hr hpq z hz x hx =>
    ⟨fun h1 => cl r hpq x _ z hx (hr.lt hz) hz h1 ((ptR_iff hr (hr.lt hz) hz).2 (hr.id z hz)), fun h1 => cl r hpq x z _ hx hz (hr.lt hz) h1 ((ptR_iff hr hz (hr.lt hz)).2 (hr.id z hz).symm)⟩
  have key := join_leastE hp hq hE (fun z hz => both p hp (.inl rfl) z hz) (fun z hz => both q hq (.inr rfl) z hz)
  have e1 := key x hx x hx
  have e2 := key z hz x hx
  rw [(ptR_iff (join_pt hp hq) hx hz).1 hj] at e1
  exact e2.1 (e1.2 (refl x hx))
theorem fac_grow {k : Nat} (h : reL n (facB n p q k) ≠ reL n (ptR (joinP n p q))) : (reL n (facB n p q k)).length < (reL n (facB n p q (k + 1))).length := by
  obtain ⟨h1, h2⟩ := reL_sub (R := facB n p q k) (S := facB n p q (k + 1)) (fun x z hx hz h => fac_mono6 hp hq hx hz h)
  refine Nat.lt_of_le_of_ne h1 fun e => h ?_
  have e2 := reL_iff.1 (h2 e)
  refine reL_congr fun x z hx hz => ?_
  rw [Bool.eq_iff_iff]
  exact ⟨fac_in hp hq hx hz, fac_stop hp hq (fun x z hx hz => (e2 x z hx hz).symm) hx hz⟩
theorem fac_len {k : Nat} (hn : 0 < n) (h : ∀ j, j < k → reL n (facB n p q j) ≠ reL n (ptR (joinP n p q))) : k < (reL n (facB n p q k)).length := by
  induction k with
  | zero =>
    have : [((0 : Nat) : Int), ((0 : Nat) : Int)] ∈ reL n (facB n p q 0) := (reL_pair hn hn).2 (by show ptR p 0 0 = true; unfold ptR; rw [decide_eq_true_eq])
    exact List.length_pos_of_mem this
  | succ k ih =>
    have := ih fun j hj => h j (by omega)
    have := fac_grow hp hq (h k (by omega))
    omega
theorem fac_ex (hn : 0 < n) : ∃ k, k < n * n ∧ reL n (facB n p q k) = reL n (ptR (joinP n p q)) ∧ ∀ j, j < k → reL n (facB n p q j) ≠ reL n (ptR (joinP n p q)) := by
  by_cases h : ∃ k, k < n * n ∧ reL n (facB n p q k) = reL n (ptR (joinP n p q))
  · obtain ⟨k0, h0, e0⟩ := h
    have hf := fstN_spec (n := n * n) (P := fun k => decide (reL n (facB n p q k) = reL n (ptR (joinP n p q)))) h0 (by simpa using e0)
    refine ⟨fstN (n * n) fun k => decide (reL n (facB n p q k) = reL n (ptR (joinP n p q))), by omega, by simpa using hf.2.1, fun j hj => by simpa using hf.2.2 j hj⟩
  · exfalso
    have := fac_len hp hq (k := n * n) hn fun j hj e => h ⟨j, hj, e⟩
    have := reL_len n (facB n p q (n * n))
    omega
end
def ftj (n : Nat) (p q : List Int) : Nat := (fstN (n * n) fun k => decide (reL n (facB n p q k) = reL n (ptR (joinP n p q)))) + 1
theorem ftj_spec {n : Nat} {p q : List Int} (hn : 0 < n) (hp : Pt n p) (hq : Pt n q) : ∃ k, ftj n p q = k + 1 ∧ k < n * n ∧ reL n (facB n p q k) = reL n (ptR (joinP n p q)) ∧ ∀ j, j < k → reL n (facB n p q j) ≠ reL n (ptR (joinP n p q)) := by
  obtain ⟨k0, h0, e0, -⟩ := fac_ex hp hq hn
  have hf := fstN_spec (n := n * n) (P := fun k => decide (reL n (facB n p q k) = reL n (ptR (joinP n p q)))) h0 (by simpa using e0)
  exact ⟨_, rfl, by omega, by simpa using hf.2.1, fun j hj => by simpa using hf.2.2 j hj⟩
theorem ftj_prm {n : Nat} {p q : List Int} (hn : 0 < n) (hp : Pt n p) (hq : Pt n q) : ftj n p q ≤ 2 ↔ Prm n p q := by
  obtain ⟨k, e, hk, h1, h2⟩ := ftj_spec hn hp hq
  rw [e, fac_prm hp hq]
  constructor
  · intro hk2 x z hx hz hj
    have hb := (ptR_iff (join_pt hp hq) hx hz).2 hj
    rw [← reL_iff.1 h1 x z hx hz] at hb
    refine (fac_iff hp hq 1 x z hx hz).1 ?_
    rcases Nat.lt_or_ge k 1 with h | h
    · obtain rfl : k = 0 := by omega
      exact fac_mono6 hp hq hx hz hb
    · obtain rfl : k = 1 := by omega
      exact hb
  · intro h
    rcases Nat.lt_or_ge 1 k with h3 | h3
    · refine absurd ?_ (h2 1 h3)
      refine reL_congr fun x z hx hz => ?_
      rw [Bool.eq_iff_iff]
      exact ⟨fac_in hp hq hx hz, fun hj => (fac_iff hp hq 1 x z hx hz).2 (h x z hx hz ((ptR_iff (join_pt hp hq) hx hz).1 hj))⟩
    · omega
end Go.Proofs.YtnjocjfhaahmfaaGreat
/- Plain: the first pair apart, the greatest number of factors, heights, triples. -/
namespace Go.Proofs.YtnjocjfhaahmfaaGreat
open Go Go.Pv Go.Proofs

theorem rows_get {V : List (List Int)} {k : Nat} (h : k < V.length) : V.getD k [] = V[k] := by rw [List.getD_eq_getElem?_getD, List.getElem?_eq_getElem h]; rfl
/-! ### The first pair that does not permute -/
def apK (n : Nat) (V : List (List Int)) (i : Nat) : Option (Nat × Nat) := ((List.range V.length).find? fun k => !prmB (V.getD i []) (V.getD k []) n).map fun k => (i, k)
def apO (n : Nat) (V : List (List Int)) : Option (Nat × Nat) := (List.range V.length).findSome? (apK n V)
theorem apK_none {n : Nat} {V : List (List Int)} {i : Nat} (h : ∀ k, k < V.length → prmB (V.getD i []) (V.getD k []) n = true) : apK n V i = none := by
  unfold apK
  rw [List.find?_range_eq_none.2 fun k hk => by rw [h k hk]; rfl]; rfl
theorem apK_some {n : Nat} {V : List (List Int)} {i k : Nat} (hk : k < V.length) (hb : prmB (V.getD i []) (V.getD k []) n = false) (h : ∀ l, l < k → prmB (V.getD i []) (V.getD l []) n = true) : apK n V i = some (i, k) := by
  unfold apK
  rw [List.find?_range_eq_some.2 ⟨by rw [hb]; rfl, List.mem_range.2 hk, fun l hl => by rw [h l hl]; rfl⟩]; rfl
theorem apK_row {n : Nat} {V : List (List Int)} {i : Nat} (h : apK n V i = none) : ∀ k, k < V.length → prmB (V.getD i []) (V.getD k []) n = true := fun k hk => by
  unfold apK at h
  have := List.find?_range_eq_none.1 (Option.map_eq_none_iff.1 h) k hk
  simpa using this
theorem apO_none {n : Nat} {V : List (List Int)} : apO n V = none ↔ ∀ i k, i < V.length → k < V.length → prmB (V.getD i []) (V.getD k []) n = true :=
  ⟨fun h i k hi hk => apK_row (List.findSome?_eq_none_iff.1 h i (List.mem_range.2 hi)) k hk, fun h => range_findSome_none fun i hi => apK_none fun k hk => h i k hi hk⟩
theorem apO_some {n : Nat} {V : List (List Int)} {i k : Nat} (h : apO n V = some (i, k)) : i < V.length ∧ k < V.length := by
  obtain ⟨a, ha, e⟩ := List.exists_of_findSome?_eq_some h
  unfold apK at e
  obtain ⟨b, hb, e2⟩ := Option.map_eq_some_iff.1 e
  have hb := List.mem_of_find?_eq_some hb
  injection e2 with e3 e4
  subst e3 e4
  exact ⟨List.mem_range.1 ha, List.mem_range.1 hb⟩
theorem prmB_comm {n : Nat} {p q : List Int} (hp : Pt n p) (hq : Pt n q) : prmB p q n = prmB q p n := by
  rw [Bool.eq_iff_iff, prmB_iff hp hq, prmB_iff hq hp]
  exact ⟨Prm.symm, Prm.symm⟩
theorem prmB_self {n : Nat} {p : List Int} (hp : Pt n p) : prmB p p n = true := (prmB_iff hp hp).2 fun _ _ _ _ h => h
theorem paB_iff {n : Nat} {V : List (List Int)} (hV : ∀ p ∈ V, Pt n p) : paB n V = true ↔ ∀ i k, i < V.length → k < V.length → prmB (V.getD i []) (V.getD k []) n = true := by
  constructor
  · intro h i k hi hk
    have key : ∀ i j, i < j → j < V.length → prmB (V.getD i []) (V.getD j []) n = true := fun i j hij hj => by
      have := List.all_eq_true.1 h i (List.mem_range.2 (by omega))
      refine List.all_eq_true.1 this _ ?_
      refine List.mem_of_getElem? (i := j - (i + 1)) ?_
      rw [List.getElem?_drop, show i + 1 + (j - (i + 1)) = j by omega, rows_get hj, List.getElem?_eq_getElem hj]
    rcases Nat.lt_trichotomy i k with h | h | h
    · exact key i k h hk
    · subst h; exact prmB_self (hV _ (rows_mem hi))
    · rw [prmB_comm (hV _ (rows_mem hi)) (hV _ (rows_mem hk))]; exact key k i h hi
  · intro h
    refine List.all_eq_true.2 fun i hi => List.all_eq_true.2 fun q hq => ?_
    have hi := List.mem_range.1 hi
    obtain ⟨k, hk, rfl⟩ := List.getElem_of_mem (List.mem_of_mem_drop hq)
    have := h i k hi hk
    rwa [rows_get hk] at this
theorem paB_ap {n : Nat} {V : List (List Int)} (hV : ∀ p ∈ V, Pt n p) : paB n V = (apO n V).isNone := by
  rw [Bool.eq_iff_iff, paB_iff hV, Option.isNone_iff_eq_none, apO_none]
/-! ### The greatest number of factors -/
def rkJ (n : Nat) (p : List Int) (W : List (List Int)) (m : Nat) : Nat := W.foldl (fun m q => max m (ftj n p q)) m
def rkX (n : Nat) (V W : List (List Int)) (m : Nat) : Nat := W.foldl (fun m p => rkJ n p V m) m
def rkV (n : Nat) (V : List (List Int)) : Nat := rkX n V V 0
theorem rkJ_snoc {n : Nat} {p : List Int} {W : List (List Int)} {m k : Nat} (h : k < W.length) : rkJ n p (W.take (k + 1)) m = max (rkJ n p (W.take k) m) (ftj n p (W.getD k [])) := by
  unfold rkJ; rw [take_snoc [] h, List.foldl_append]; rfl
theorem rkX_snoc {n : Nat} {V W : List (List Int)} {m k : Nat} (h : k < W.length) : rkX n V (W.take (k + 1)) m = rkJ n (W.getD k []) V (rkX n V (W.take k) m) := by
  unfold rkX; rw [take_snoc [] h, List.foldl_append]; rfl
theorem rkJ_le {n : Nat} {p : List Int} {b : Nat} : ∀ {W : List (List Int)} {m : Nat}, rkJ n p W m ≤ b ↔ m ≤ b ∧ ∀ q ∈ W, ftj n p q ≤ b
  | [], m => by simp [rkJ]
  | q :: W, m => by
    show rkJ n p W (max m (ftj n p q)) ≤ b ↔ _
    rw [rkJ_le, Nat.max_le]
    simp [and_assoc]
theorem rkX_le {n : Nat} {V : List (List Int)} {b : Nat} : ∀ {W : List (List Int)} {m : Nat}, rkX n V W m ≤ b ↔ m ≤ b ∧ ∀ p ∈ W, ∀ q ∈ V, ftj n p q ≤ b
  | [], m => by simp [rkX]
  | p :: W, m => by
    show rkX n V W (rkJ n p V m) ≤ b ↔ _
    rw [rkX_le, rkJ_le]
    simp [and_assoc]
theorem rk_two {n : Nat} {V : List (List Int)} (hn0 : 0 < n) (hV : ∀ p ∈ V, Pt n p) : decide (rkV n V ≤ 2) = paB n V := by
  rw [Bool.eq_iff_iff, decide_eq_true_eq, paB_iff hV]
  unfold rkV
  rw [rkX_le]
  constructor
  · rintro ⟨-, h⟩ i k hi hk
    have pi := hV _ (rows_mem hi)
    have pk := hV _ (rows_mem hk)
    exact (prmB_iff pi pk).2 ((ftj_prm hn0 pi pk).1 (h _ (rows_mem hi) _ (rows_mem hk)))
  · refine fun h => ⟨by omega, fun p hp q hq => (ftj_prm hn0 (hV p hp) (hV q hq)).2 ?_⟩
    obtain ⟨i, hi, rfl⟩ := List.getElem_of_mem hp
    obtain ⟨k, hk, rfl⟩ := List.getElem_of_mem hq
    have := h i k hi hk
    rw [rows_get hi, rows_get hk] at this
    exact (prmB_iff (hV _ hp) (hV _ hq)).1 this
/-! ### Heights -/
def htS (n : Nat) (V : List (List Int)) (H : List Nat) (i h j : Nat) : Nat := if fiB n (V.getD j []) (V.getD i []) then max h (H.getD j 0 + 1) else h
def htN (n : Nat) (V : List (List Int)) (H : List Nat) (i k : Nat) : Nat := (List.range k).foldl (htS n V H i) 0
def htL (n : Nat) (V : List (List Int)) : Nat → List Nat
  | 0 => []
  | i + 1 => htL n V i ++ [htN n V (htL n V i) i i]
def htM (n : Nat) (V : List (List Int)) : Nat → Nat
  | 0 => 0
  | i + 1 => max (htM n V i) (htN n V (htL n V i) i i)
def htV (n : Nat) (V : List (List Int)) : Nat := htM n V V.length
theorem htN_succ (n : Nat) (V : List (List Int)) (H : List Nat) (i k : Nat) : htN n V H i (k + 1) = htS n V H i (htN n V H i k) k := by
  unfold htN; rw [List.range_succ, List.foldl_append]; rfl
theorem htL_len (n : Nat) (V : List (List Int)) : ∀ i, (htL n V i).length = i
  | 0 => rfl
  | i + 1 => by show (htL n V i ++ [_]).length = _; rw [List.length_append, htL_len n V i]; rfl
theorem htN_le {n : Nat} {V : List (List Int)} {H : List Nat} {i : Nat} (h : ∀ j, H.getD j 0 ≤ j) : ∀ k, htN n V H i k ≤ k
  | 0 => Nat.le_refl _
  | k + 1 => by
    have ih := htN_le (i := i) (n := n) (V := V) h k
    have := h k
    rw [htN_succ]; unfold htS
    split <;> omega
theorem getD_app {H : List Nat} {x : Nat} {j : Nat} (h : j < H.length) : (H ++ [x]).getD j 0 = H.getD j 0 := by
  rw [List.getD_eq_getElem?_getD, List.getD_eq_getElem?_getD, List.getElem?_append_left h]
theorem getD_end {H : List Nat} {x : Nat} : (H ++ [x]).getD H.length 0 = x := by
  rw [List.getD_eq_getElem?_getD, List.getElem?_append_right (Nat.le_refl _), Nat.sub_self]; rfl
theorem getD_past {H : List Nat} {j : Nat} (h : H.length ≤ j) : H.getD j 0 = 0 := by
  rw [List.getD_eq_getElem?_getD, List.getElem?_eq_none h]; rfl
theorem htL_le (n : Nat) (V : List (List Int)) : ∀ i j, (htL n V i).getD j 0 ≤ j
  | 0, j => Nat.zero_le _
  | i + 1, j => by
    have ih := htL_le n V i
    have hl := htL_len n V i
    show (htL n V i ++ [htN n V (htL n V i) i i]).getD j 0 ≤ j
    rcases Nat.lt_trichotomy j i with h | h | h
    · rw [getD_app (by omega)]; exact ih j
    · have : j = (htL n V i).length := by omega
      rw [this, getD_end, hl]; exact htN_le ih i
    · rw [getD_past (by rw [List.length_append, hl]; show i + 1 ≤ j; omega)]; omega
theorem htM_le {n : Nat} {V : List (List Int)} {b : Nat} : ∀ i, (∀ j, j < i → (htL n V i).getD j 0 ≤ b) → htM n V i ≤ b
  | 0, _ => Nat.zero_le _
  | i + 1, h => by
    have hl := htL_len n V i
    refine Nat.max_le.2 ⟨htM_le i fun j hj => ?_, ?_⟩
    · have := h j (by omega)
      rwa [show htL n V (i + 1) = htL n V i ++ [htN n V (htL n V i) i i] from rfl, getD_app (by omega)] at this
    · have := h i (by omega)
      rwa [show htL n V (i + 1) = htL n V i ++ [htN n V (htL n V i) i i] from rfl, show (htL n V i ++ [htN n V (htL n V i) i i]).getD i 0 = (htL n V i ++ [htN n V (htL n V i) i i]).getD (htL n V i).length 0 by rw [hl], getD_end] at this
theorem htN_ge {n : Nat} {V : List (List Int)} {H : List Nat} {i : Nat} : ∀ k, (∀ j, j < k → fiB n (V.getD j []) (V.getD i []) = true) → ∀ j, j < k → H.getD j 0 + 1 ≤ htN n V H i k
  | 0, _, j, hj => absurd hj (Nat.not_lt_zero _)
  | k + 1, h, j, hj => by
    rw [htN_succ]; unfold htS
    rw [if_pos (h k (by omega))]
    rcases Nat.lt_or_ge j k with h1 | h1
    · have := htN_ge (H := H) k (fun j hj => h j (by omega)) j h1
      omega
    · obtain rfl : j = k := by omega
      omega
theorem ht_last {n : Nat} {V : List (List Int)} (h0 : 0 < V.length) (h : ∀ j, j < V.length → fiB n (V.getD j []) (V.getD (V.length - 1) []) = true) : htV n V = (htL n V V.length).getD (V.length - 1) 0 := by
  unfold htV
  obtain ⟨L, hL⟩ : ∃ L, V.length = L + 1 := ⟨V.length - 1, by omega⟩
  rw [hL] at h ⊢
  have hl := htL_len n V L
  have hge := htN_ge (H := htL n V L) (i := L) (n := n) (V := V) L fun j hj => h j (by omega)
  have hm := htM_le (n := n) (V := V) (b := htN n V (htL n V L) L L) L fun j hj => by have := hge j hj; omega
  show max (htM n V L) _ = (htL n V L ++ [htN n V (htL n V L) L L]).getD L 0
  rw [show (htL n V L ++ [htN n V (htL n V L) L L]).getD L 0 = (htL n V L ++ [htN n V (htL n V L) L L]).getD (htL n V L).length 0 by rw [hl], getD_end]
  omega
theorem cnt_one {n : Nat} {p : List Int} (hn : 0 < n) (hp : Pt n p) (h : cnt n p ≤ 1) : p = fullL n := by
  refine fi_antisymm hp (full_pt n) full_fi fun x hx => ?_
  rw [bk_full]
  by_cases he : bk p 0 = bk p x
  · exact he
  · have h1 := cnt_unL hp hn hx he
    have h2 := cnt_pos (unL_pt hp hn hx) hn
    omega
theorem allL_pos (n : Nat) (ops : List OpD) : 0 < (allL n ops).length := List.length_pos_of_mem (allL_mem.2 ⟨full_pt n, full_cong ops⟩)
theorem allL_last {n : Nat} (hn : 0 < n) (ops : List OpD) : (allL n ops).getD ((allL n ops).length - 1) [] = fullL n := by
  have hmem : fullL n ∈ allL n ops := allL_mem.2 ⟨full_pt n, full_cong ops⟩
  have hasc := (allL_all n ops).1
  have h0 := allL_pos n ops
  have hPt : ∀ p ∈ allL n ops, Pt n p := fun p hp => (allL_mem.1 hp).1
  generalize allL n ops = V at *
  have hl : V.length - 1 < V.length := by omega
  obtain ⟨i, hi, e⟩ := List.getElem_of_mem hmem
  rcases Nat.lt_or_ge i (V.length - 1) with h | h
  · have hc := List.pairwise_iff_getElem.1 hasc i (V.length - 1) hi hl h
    rw [e, ← rows_get hl] at hc
    refine cnt_one hn (hPt _ (rows_mem hl)) ?_
    have hf : cnt n (fullL n) ≤ 1 := by
      unfold cnt
      have e2 : ((List.range n).filter fun x => decide (bk (fullL n) x = x)).Sublist [0] := by
        have : ((List.range n).filter fun x => decide (bk (fullL n) x = x)) = (List.range n).filter fun x => decide (x = 0) := List.filter_congr fun x _ => by rw [bk_full]; exact decide_eq_decide.2 eq_comm
        rw [this]
        obtain ⟨m, rfl⟩ : ∃ m, n = m + 1 := ⟨n - 1, by omega⟩
        rw [List.range_succ_eq_map, List.filter_cons, if_pos (by simp), List.filter_map]
        rw [show (List.range m).filter ((fun x => decide (x = 0)) ∘ Nat.succ) = [] from List.filter_eq_nil_iff.2 fun x _ => by simp]
        exact List.Sublist.refl _
      exact e2.length_le
    have hc' : cmpC n (fullL n) (V.getD (V.length - 1) []) < 0 := hc
    unfold cmpC at hc'
    split at hc' <;> omega
  · have : i = V.length - 1 := by omega
    subst this
    rw [rows_get hl]; exact e
theorem ht_all {n : Nat} (hn : 0 < n) (ops : List OpD) : htV n (allL n ops) = (htL n (allL n ops) (allL n ops).length).getD ((allL n ops).length - 1) 0 := by
  refine ht_last (allL_pos n ops) fun j hj => ?_
  rw [allL_last hn]
  exact (fiB_iff (allL_mem.1 (rows_mem hj)).1 (full_pt n)).2 full_fi
/-! ### Triples -/
def mdlB (n : Nat) (p q r : List Int) : Bool := !fiB n r p || disB n p q r
theorem btO_some {V : List (List Int)} {good : List Int → List Int → List Int → Bool} {i j k : Nat} (h : btO V good = some (i, j, k)) : i < V.length ∧ j < V.length ∧ k < V.length ∧ good (V.getD i []) (V.getD j []) (V.getD k []) = false := by
  obtain ⟨a, ha, e⟩ := List.exists_of_findSome?_eq_some h
  obtain ⟨b, hb, e⟩ := List.exists_of_findSome?_eq_some e
  unfold btK at e
  obtain ⟨c, hc, e2⟩ := Option.map_eq_some_iff.1 e
  have hc1 := List.mem_of_find?_eq_some hc
  have hc2 := List.find?_some hc
  injection e2 with e3 e4
  injection e4 with e4 e5
  subst e3 e4 e5
  exact ⟨List.mem_range.1 ha, List.mem_range.1 hb, List.mem_range.1 hc1, by simpa using hc2⟩
theorem mdl_of_prm {n : Nat} {V : List (List Int)} (hV : ∀ p ∈ V, Pt n p) (h : paB n V = true) : btO V (mdlB n) = none := by
  refine btO_all fun p hp q hq r hr => ?_
  unfold mdlB
  cases hf : fiB n r p with
  | false => rfl
  | true =>
    have hf := (fiB_iff (hV r hr) (hV p hp)).1 hf
    obtain ⟨i, hi, rfl⟩ := List.getElem_of_mem hq
    obtain ⟨k, hk, rfl⟩ := List.getElem_of_mem hr
    have h1 := (paB_iff hV).1 h i k hi hk
    rw [rows_get hi, rows_get hk] at h1
    have := prm_mdl (hV p hp) (hV _ hq) (hV _ hr) ((prmB_iff (hV _ hq) (hV _ hr)).1 h1) hf
    unfold disB
    rw [decide_eq_true this]; rfl
theorem mdl_of_dis {n : Nat} {V : List (List Int)} (h : btO V (disB n) = none) : btO V (mdlB n) = none :=
  btO_all fun p hp q hq r hr => by unfold mdlB; rw [btO_none h p hp q hq r hr, Bool.or_true]
end Go.Proofs.YtnjocjfhaahmfaaGreat
