/- Plain: partitions as lists, blocks put together, congruences as closures. -/
import Derived.Test.YtepjlgilopfnpaaGreatJGa
namespace Go.Proofs.YtepjlgilopfnpaaGreat
open Go Go.Pv Go.Proofs

def bk (p : List Int) (x : Nat) : Nat := (p.getD x 0).toNat
structure Pt (n : Nat) (p : List Int) : Prop where
 len : p.length = n
 nn : ∀ x, x < n → 0 ≤ p.getD x 0
 le : ∀ x, x < n → bk p x ≤ x
 id : ∀ x, x < n → bk p (bk p x) = bk p x
def Fi (n : Nat) (p q : List Int) : Prop := ∀ x, x < n → bk q (bk p x) = bk q x
def unL (p : List Int) (x y : Nat) : List Int := p.map fun z => if z = max (p.getD x 0) (p.getD y 0) then min (p.getD x 0) (p.getD y 0) else z
theorem getD_of {l : List Int} {x : Nat} (h : x < l.length) : l.getD x 0 = l[x] := by rw [List.getD_eq_getElem?_getD, List.getElem?_eq_getElem h]; rfl
theorem Pt.val {n : Nat} {p : List Int} (h : Pt n p) {x : Nat} (hx : x < n) : p.getD x 0 = (bk p x : Int) := by unfold bk; have := h.nn x hx; omega
theorem Pt.lt {n : Nat} {p : List Int} (h : Pt n p) {x : Nat} (hx : x < n) : bk p x < n := Nat.lt_of_le_of_lt (h.le x hx) hx
theorem unL_len (p : List Int) (x y : Nat) : (unL p x y).length = p.length := List.length_map _
theorem unL_getD {p : List Int} {x y z : Nat} (hz : z < p.length) : (unL p x y).getD z 0 = if p.getD z 0 = max (p.getD x 0) (p.getD y 0) then min (p.getD x 0) (p.getD y 0) else p.getD z 0 := by
 rw [getD_of (by rw [unL_len]; exact hz), getD_of hz]
 simp only [unL, List.getElem_map]
theorem bk_unL {n : Nat} {p : List Int} (h : Pt n p) {x y z : Nat} (hx : x < n) (hy : y < n) (hz : z < n) : bk (unL p x y) z = if bk p z = max (bk p x) (bk p y) then min (bk p x) (bk p y) else bk p z := by
 show ((unL p x y).getD z 0).toNat = _
 rw [unL_getD (by rw [h.len]; exact hz), h.val hx, h.val hy, h.val hz]
 split <;> split <;> omega
theorem unL_pt {n : Nat} {p : List Int} (h : Pt n p) {x y : Nat} (hx : x < n) (hy : y < n) : Pt n (unL p x y) := by
 have ix := h.id x hx
 have iy := h.id y hy
 refine ⟨by rw [unL_len, h.len], fun z hz => ?_, fun z hz => ?_, fun z hz => ?_⟩
 · rw [unL_getD (by rw [h.len]; exact hz)]
   have := h.nn x hx; have := h.nn y hy; have := h.nn z hz
   split <;> omega
 · rw [bk_unL h hx hy hz]
   have := h.le z hz
   split <;> omega
 · have iz := h.id z hz
   have hw : bk (unL p x y) z < n := by
    rw [bk_unL h hx hy hz]; have := h.lt hz; split <;> omega
   rw [bk_unL h hx hy hw, bk_unL h hx hy hz]
   by_cases hc : bk p z = max (bk p x) (bk p y)
   · rw [if_pos hc]
     have hm : bk p (min (bk p x) (bk p y)) = min (bk p x) (bk p y) := by
      by_cases hl : bk p x ≤ bk p y
      · rw [Nat.min_eq_left hl]; exact ix
      · rw [Nat.min_eq_right (by omega)]; exact iy
     rw [hm]; split <;> rfl
   · rw [if_neg hc, iz, if_neg hc]
theorem fi_unL {n : Nat} {p : List Int} (h : Pt n p) {x y : Nat} (hx : x < n) (hy : y < n) : Fi n p (unL p x y) := fun z hz => by
 rw [bk_unL h hx hy (h.lt hz), bk_unL h hx hy hz, h.id z hz]
theorem un_R {n : Nat} {p : List Int} (h : Pt n p) {x y : Nat} (hx : x < n) (hy : y < n) : bk (unL p x y) x = bk (unL p x y) y := by
 rw [bk_unL h hx hy hx, bk_unL h hx hy hy]
 split <;> split <;> omega
theorem un_least {n : Nat} {p q : List Int} (h : Pt n p) {x y : Nat} (hx : x < n) (hy : y < n) (hf : Fi n p q) (hr : bk q x = bk q y) : Fi n (unL p x y) q := fun z hz => by
 rw [bk_unL h hx hy hz]
 have h1 := hf x hx
 have h2 := hf y hy
 have h3 := hf z hz
 by_cases hc : bk p z = max (bk p x) (bk p y)
 · rw [if_pos hc, ← h3, hc]
   by_cases hl : bk p x ≤ bk p y
   · rw [Nat.min_eq_left hl, Nat.max_eq_right hl, h1, h2, hr]
   · rw [Nat.min_eq_right (by omega), Nat.max_eq_left (by omega), h1, h2, hr]
 · rw [if_neg hc, h3]
theorem un_same {n : Nat} {p : List Int} (h : Pt n p) {x y : Nat} (hx : x < n) (hy : y < n) (he : bk p x = bk p y) : unL p x y = p := by
 unfold unL
 rw [h.val hx, h.val hy, he]
 conv => rhs; rw [← List.map_id p]
 refine List.map_congr_left fun z _ => ?_
 simp only [id]
 split <;> omega
theorem fi_refl {n : Nat} {p : List Int} (h : Pt n p) : Fi n p p := fun x hx => h.id x hx
theorem fi_trans {n : Nat} {p q r : List Int} (h : Pt n p) (h1 : Fi n p q) (h2 : Fi n q r) : Fi n p r := fun x hx => by
 rw [← h2 (bk p x) (h.lt hx), h1 x hx, h2 x hx]
theorem fi_R {n : Nat} {p q : List Int} (h : Fi n p q) {x y : Nat} (hx : x < n) (hy : y < n) (he : bk p x = bk p y) : bk q x = bk q y := by rw [← h x hx, he, h y hy]
theorem fi_iff {n : Nat} {p q : List Int} (h : Pt n p) : Fi n p q ↔ ∀ x y, x < n → y < n → bk p x = bk p y → bk q x = bk q y :=
 ⟨fun hf _ _ hx hy he => fi_R hf hx hy he, fun hf x hx => hf _ _ (h.lt hx) hx (h.id x hx)⟩
theorem pt_ext {n : Nat} {p q : List Int} (hp : Pt n p) (hq : Pt n q) (h : ∀ x, x < n → bk p x = bk q x) : p = q := by
 refine List.ext_getElem (by rw [hp.len, hq.len]) fun i h1 h2 => ?_
 have hi : i < n := by rw [← hp.len]; exact h1
 rw [← getD_of h1, ← getD_of h2, hp.val hi, hq.val hi, h i hi]
theorem fi_antisymm {n : Nat} {p q : List Int} (hp : Pt n p) (hq : Pt n q) (h1 : Fi n p q) (h2 : Fi n q p) : p = q := pt_ext hp hq fun x hx => by
 have a1 := h1 x hx
 have a2 := h2 x hx
 have b1 := hq.le _ (hp.lt hx)
 have b2 := hp.le _ (hq.lt hx)
 omega
/-! ### How many blocks -/
theorem filter_lt {α : Type} {p q : α → Bool} : ∀ {l : List α}, (∀ x ∈ l, q x = true → p x = true) → (∃ x ∈ l, p x = true ∧ q x = false) → (l.filter q).length < (l.filter p).length
 | [], _, h => by obtain ⟨x, hx, -⟩ := h; cases hx
 | a :: l, h, he => by
  have hl : ∀ x ∈ l, q x = true → p x = true := fun x hx => h x (List.mem_cons_of_mem _ hx)
  have hle : (l.filter q).length ≤ (l.filter p).length := by
   clear he h
   induction l with
   | nil => exact Nat.le_refl _
   | cons b l ih =>
    have ih := ih fun x hx => hl x (List.mem_cons_of_mem _ hx)
    have hb := hl b (List.mem_cons_self ..)
    rw [List.filter_cons, List.filter_cons]
    cases hq : q b with
    | true => rw [hb hq]; simpa using ih
    | false => cases p b <;> simp <;> omega
  rw [List.filter_cons, List.filter_cons]
  by_cases hex : ∃ x ∈ l, p x = true ∧ q x = false
  · have ih := filter_lt hl hex
    have ha := h a (List.mem_cons_self ..)
    cases hq : q a with
    | true => rw [ha hq]; simpa using ih
    | false => cases p a <;> simp <;> omega
  · obtain ⟨x, hx, h1, h2⟩ := he
    rcases List.mem_cons.1 hx with rfl | hx
    · rw [h1, h2]; simp; omega
    · exact absurd ⟨x, hx, h1, h2⟩ hex
def cnt (n : Nat) (p : List Int) : Nat := ((List.range n).filter fun x => decide (bk p x = x)).length
theorem cnt_le (n : Nat) (p : List Int) : cnt n p ≤ n := by unfold cnt; exact Nat.le_trans (List.length_filter_le ..) (by simp)
theorem cnt_pos {n : Nat} {p : List Int} (h : Pt n p) (hn : 0 < n) : 0 < cnt n p := by
 unfold cnt
 refine List.length_pos_of_mem (a := 0) (List.mem_filter.2 ⟨List.mem_range.2 hn, decide_eq_true ?_⟩)
 have := h.le 0 hn; omega
theorem cnt_unL {n : Nat} {p : List Int} (h : Pt n p) {x y : Nat} (hx : x < n) (hy : y < n) (hne : bk p x ≠ bk p y) : cnt n (unL p x y) < cnt n p := by
 refine filter_lt (fun z hz hq => ?_) ⟨max (bk p x) (bk p y), ?_, ?_, ?_⟩
 · have hz := List.mem_range.1 hz
   rw [decide_eq_true_iff] at hq ⊢
   rw [bk_unL h hx hy hz] at hq
   have := h.le z hz
   have iz := h.id z hz
   by_cases hc : bk p z = max (bk p x) (bk p y)
   · rw [if_pos hc] at hq; omega
   · rw [if_neg hc] at hq; exact hq
 · rw [List.mem_range]; have := h.lt hx; have := h.lt hy; omega
 · rw [decide_eq_true_iff]
   by_cases hl : bk p x ≤ bk p y
   · rw [Nat.max_eq_right hl]; exact h.id y hy
   · rw [Nat.max_eq_left (by omega)]; exact h.id x hx
 · have hm : bk p (max (bk p x) (bk p y)) = max (bk p x) (bk p y) := by
    by_cases hl : bk p x ≤ bk p y
    · rw [Nat.max_eq_right hl]; exact h.id y hy
    · rw [Nat.max_eq_left (by omega)]; exact h.id x hx
   rw [decide_eq_false_iff_not, bk_unL h hx hy (by have := h.lt hx; have := h.lt hy; omega), hm, if_pos rfl]
   omega
/-! ### Pairs put together, one after the other -/
def foldU (L : List (Nat × Nat)) (p : List Int) : List Int := L.foldl (fun out vw => unL out vw.1 vw.2) p
theorem foldU_app (L M : List (Nat × Nat)) (p : List Int) : foldU (L ++ M) p = foldU M (foldU L p) := List.foldl_append
theorem foldU_snoc (L : List (Nat × Nat)) (v w : Nat) (p : List Int) : foldU (L ++ [(v, w)]) p = unL (foldU L p) v w := foldU_app _ _ _
theorem foldU_pt {n : Nat} : ∀ {L : List (Nat × Nat)} {p : List Int}, Pt n p → (∀ vw ∈ L, vw.1 < n ∧ vw.2 < n) → Pt n (foldU L p)
 | [], _, h, _ => h
 | _ :: L, _, h, hL => foldU_pt (L := L) (unL_pt h (hL _ (List.mem_cons_self ..)).1 (hL _ (List.mem_cons_self ..)).2) fun x hx => hL x (List.mem_cons_of_mem _ hx)
theorem foldU_fi {n : Nat} : ∀ {L : List (Nat × Nat)} {p : List Int}, Pt n p → (∀ vw ∈ L, vw.1 < n ∧ vw.2 < n) → Fi n p (foldU L p)
 | [], _, h, _ => fi_refl h
 | vw :: L, p, h, hL => by
  obtain ⟨h1, h2⟩ := hL _ (List.mem_cons_self ..)
  exact fi_trans h (fi_unL h h1 h2) (foldU_fi (L := L) (unL_pt h h1 h2) fun x hx => hL x (List.mem_cons_of_mem _ hx))
theorem foldU_R {n : Nat} : ∀ {L : List (Nat × Nat)} {p : List Int}, Pt n p → (∀ vw ∈ L, vw.1 < n ∧ vw.2 < n) → ∀ vw ∈ L, bk (foldU L p) vw.1 = bk (foldU L p) vw.2
 | [], _, _, _ => fun _ h => by cases h
 | vw :: L, p, h, hL => fun x hx => by
  obtain ⟨h1, h2⟩ := hL _ (List.mem_cons_self ..)
  have hL' : ∀ vw ∈ L, vw.1 < n ∧ vw.2 < n := fun x hx => hL x (List.mem_cons_of_mem _ hx)
  rcases List.mem_cons.1 hx with rfl | hx
  · exact fi_R (foldU_fi (L := L) (unL_pt h h1 h2) hL') h1 h2 (un_R h h1 h2)
  · exact foldU_R (L := L) (unL_pt h h1 h2) hL' x hx
theorem foldU_least {n : Nat} {q : List Int} : ∀ {L : List (Nat × Nat)} {p : List Int}, Pt n p → (∀ vw ∈ L, vw.1 < n ∧ vw.2 < n) → Fi n p q → (∀ vw ∈ L, bk q vw.1 = bk q vw.2) → Fi n (foldU L p) q
 | [], _, _, _, h, _ => h
 | vw :: L, p, h, hL, hf, hr => by
  obtain ⟨h1, h2⟩ := hL _ (List.mem_cons_self ..)
  exact foldU_least (L := L) (unL_pt h h1 h2) (fun x hx => hL x (List.mem_cons_of_mem _ hx)) (un_least h h1 h2 hf (hr _ (List.mem_cons_self ..))) fun x hx => hr x (List.mem_cons_of_mem _ hx)
theorem foldU_same {n : Nat} : ∀ {L : List (Nat × Nat)} {p : List Int}, Pt n p → (∀ vw ∈ L, vw.1 < n ∧ vw.2 < n) → (∀ vw ∈ L, bk p vw.1 = bk p vw.2) → foldU L p = p
 | [], _, _, _, _ => rfl
 | vw :: L, p, h, hL, hr => by
  obtain ⟨h1, h2⟩ := hL _ (List.mem_cons_self ..)
  show foldU L (unL p vw.1 vw.2) = p
  rw [un_same h h1 h2 (hr _ (List.mem_cons_self ..))]
  exact foldU_same h (fun x hx => hL x (List.mem_cons_of_mem _ hx)) fun x hx => hr x (List.mem_cons_of_mem _ hx)
theorem foldU_cnt {n : Nat} : ∀ {L : List (Nat × Nat)} {p : List Int}, Pt n p → (∀ vw ∈ L, vw.1 < n ∧ vw.2 < n) → foldU L p = p ∨ cnt n (foldU L p) < cnt n p
 | [], _, _, _ => .inl rfl
 | vw :: L, p, h, hL => by
  obtain ⟨h1, h2⟩ := hL _ (List.mem_cons_self ..)
  have hL' : ∀ vw ∈ L, vw.1 < n ∧ vw.2 < n := fun x hx => hL x (List.mem_cons_of_mem _ hx)
  have ih := foldU_cnt (L := L) (unL_pt h h1 h2) hL'
  show foldU L (unL p vw.1 vw.2) = p ∨ cnt n (foldU L (unL p vw.1 vw.2)) < cnt n p
  by_cases he : bk p vw.1 = bk p vw.2
  · rw [un_same h h1 h2 he] at ih ⊢; exact ih
  · have hc := cnt_unL h h1 h2 he
    rcases ih with ih | ih
    · rw [ih]; exact .inr hc
    · exact .inr (Nat.lt_trans ih hc)
/-! ### Digits of an index -/
def digN (n i j : Nat) : Nat := i / n ^ j % n
def subN (n i j v : Nat) : Nat := (i / n ^ j / n * n + v) * n ^ j + i % n ^ j
theorem dig_split {n : Nat} (i j : Nat) : i = (i / n ^ j / n * n + digN n i j) * n ^ j + i % n ^ j := by
 unfold digN
 rw [Nat.div_add_mod' (i / n ^ j) n, Nat.div_add_mod' i (n ^ j)]
theorem subN_self {n : Nat} (i j : Nat) : subN n i j (digN n i j) = i := (dig_split i j).symm
theorem sub_hi {n : Nat} (hn : 0 < n) (i j : Nat) {v : Nat} : subN n i j v / n ^ j = i / n ^ j / n * n + v := by
 have hp : 0 < n ^ j := Nat.pow_pos hn
 unfold subN
 rw [Nat.mul_comm _ (n ^ j), Nat.mul_add_div hp, Nat.div_eq_of_lt (Nat.mod_lt _ hp), Nat.add_zero]
theorem sub_lo {n : Nat} (i j : Nat) {v : Nat} : subN n i j v % n ^ j = i % n ^ j := by
 unfold subN
 rw [Nat.mul_comm _ (n ^ j), Nat.mul_add_mod, Nat.mod_mod]
theorem dig_sub {n : Nat} (i j : Nat) {v : Nat} (hv : v < n) : digN n (subN n i j v) j = v := by
 unfold digN
 rw [sub_hi (by omega), Nat.mul_comm, Nat.mul_add_mod, Nat.mod_eq_of_lt hv]
theorem sub_sub {n : Nat} (i j : Nat) {v c : Nat} (hv : v < n) : subN n (subN n i j v) j c = subN n i j c := by
 have h1 := sub_hi (n := n) (by omega) i j (v := v)
 have h2 := sub_lo (n := n) i j (v := v)
 show (subN n i j v / n ^ j / n * n + c) * n ^ j + subN n i j v % n ^ j = _
 rw [h1, h2, Nat.mul_comm (i / n ^ j / n) n, Nat.mul_add_div (by omega), Nat.div_eq_of_lt hv, Nat.add_zero]
 rfl
theorem sub_lt {n a i j v : Nat} (hi : i < n ^ a) (hj : j < a) (hv : v < n) : subN n i j v < n ^ a := by
 obtain ⟨d, rfl⟩ : ∃ d, a = j + (d + 1) := ⟨a - j - 1, by omega⟩
 have hp : 0 < n ^ j := Nat.pow_pos (by omega)
 have e : n ^ (j + (d + 1)) = n ^ j * (n ^ d * n) := by rw [Nat.pow_add, Nat.pow_succ]
 have h1 : i / n ^ j / n < n ^ d := by
  rw [Nat.div_div_eq_div_mul]
  refine Nat.div_lt_of_lt_mul ?_
  rw [e] at hi
  rwa [Nat.mul_assoc, Nat.mul_comm n]
 have h2 : i / n ^ j / n * n + v < n ^ d * n := by
  have : (i / n ^ j / n + 1) * n ≤ n ^ d * n := Nat.mul_le_mul_right _ h1
  rw [Nat.add_mul, Nat.one_mul] at this
  omega
 have h3 : (i / n ^ j / n * n + v + 1) * n ^ j ≤ n ^ d * n * n ^ j := Nat.mul_le_mul_right _ h2
 have h4 := Nat.mod_lt i hp
 unfold subN
 rw [e, Nat.mul_comm (n ^ j)]
 rw [Nat.add_mul _ 1, Nat.one_mul] at h3
 omega
theorem sub_int {n : Nat} (i j v : Nat) : (i : Int) + ((v : Int) - (digN n i j : Int)) * ((n ^ j : Nat) : Int) = (subN n i j v : Int) := by
 have h := dig_split (n := n) i j
 have h' : (i : Int) = (((i / n ^ j / n * n + digN n i j) * n ^ j + i % n ^ j : Nat) : Int) := congrArg Nat.cast h
 unfold subN
 rw [h']
 generalize i / n ^ j / n * n = a
 generalize digN n i j = x
 generalize i % n ^ j = r
 generalize n ^ j = m
 push_cast
 rw [Int.sub_mul, Int.add_mul, Int.add_mul]
 omega
theorem sub_succ {n : Nat} (i j v : Nat) : subN n (i / n) j v * n + i % n = subN n i (j + 1) v := by
 have h1 : i / n ^ (j + 1) = i / n / n ^ j := by rw [Nat.pow_succ', Nat.div_div_eq_div_mul]
 have h2 : i % n ^ (j + 1) = i % n + n * (i / n % n ^ j) := by rw [Nat.pow_succ', Nat.mod_mul]
 unfold subN
 rw [h1, h2, Nat.pow_succ, Nat.add_mul, Nat.mul_assoc, Nat.mul_comm (i / n % n ^ j) n]
 omega
theorem idx_set {n : Nat} (hn : 0 < n) : ∀ (a i k v : Nat), k < a → i < n ^ a → idxL n ((argsL n a i).set k (v : Int)) = (subN n i (a - 1 - k) v : Int)
 | 0, _, _, _, h, _ => absurd h (Nat.not_lt_zero _)
 | a + 1, i, k, v, hk, hi => by
  have hl := argsL_len n a (i / n)
  have hi' : i / n < n ^ a := Nat.div_lt_of_lt_mul (by rw [Nat.mul_comm, ← Nat.pow_succ]; exact hi)
  have e : argsL n (a + 1) i = argsL n a (i / n) ++ [((i % n : Nat) : Int)] := rfl
  rw [e]
  by_cases hka : k < a
  · rw [List.set_append_left _ _ (by omega), idxL_snoc, idx_set hn a (i / n) k v hka hi', ← Int.natCast_mul, ← Int.natCast_add, sub_succ, show a - 1 - k + 1 = a + 1 - 1 - k by omega]
  · obtain rfl : k = a := by omega
    rw [List.set_append_right _ _ (by omega), hl, Nat.sub_self, List.set_cons_zero, idxL_snoc, idxL_argsL hn _ _ hi', show k + 1 - 1 - k = 0 by omega]
    unfold subN
    rw [Nat.pow_zero, Nat.div_one, Nat.mul_one, Nat.mod_one, Nat.add_zero, Int.natCast_add, Int.natCast_mul]
theorem args_at {n : Nat} : ∀ (a i k : Nat), k < a → (argsL n a i).getD k 0 = (digN n i (a - 1 - k) : Int)
 | 0, _, _, h => absurd h (Nat.not_lt_zero _)
 | a + 1, i, k, hk => by
  have hl := argsL_len n a (i / n)
  have e : argsL n (a + 1) i = argsL n a (i / n) ++ [((i % n : Nat) : Int)] := rfl
  rw [e]
  by_cases hka : k < a
  · rw [List.getD_eq_getElem?_getD, List.getElem?_append_left (by omega), ← List.getD_eq_getElem?_getD, args_at a (i / n) k hka]
    unfold digN
    rw [show a + 1 - 1 - k = a - 1 - k + 1 by omega, Nat.pow_succ', Nat.div_div_eq_div_mul]
  · obtain rfl : k = a := by omega
    rw [List.getD_eq_getElem?_getD, List.getElem?_append_right (by omega), hl, Nat.sub_self, show k + 1 - 1 - k = 0 by omega]
    unfold digN
    rw [Nat.pow_zero, Nat.div_one]; rfl
/-! ### Congruences -/
def Cong (n : Nat) (ops : List OpD) (p : List Int) : Prop := ∀ f ∈ ops, ∀ i, i < n ^ f.ar.toNat → ∀ j, j < f.ar.toNat → bk p (bk f.tb i) = bk p (bk f.tb (subN n i j (bk p (digN n i j))))
def opsIn (n : Nat) (ops : List OpD) : Prop := ∀ f ∈ ops, 0 ≤ f.ar ∧ f.ar ≤ 3 ∧ f.tb.length = n ^ f.ar.toNat ∧ ∀ i, i < n ^ f.ar.toNat → 0 ≤ f.tb.getD i 0 ∧ bk f.tb i < n
theorem opsIn_of {n : Nat} {ops : List OpD} (h : ∀ f ∈ ops, opOk n f = true) : opsIn n ops := fun f hf => by
 have h := h f hf
 unfold opOk at h
 simp only [Bool.and_eq_true, decide_eq_true_eq] at h
 obtain ⟨h1, h2, h3⟩ := h
 have h1 := inB_iff.1 h1
 refine ⟨h1.1, h1.2, h2, fun i hi => ?_⟩
 have hm : f.tb.getD i 0 ∈ f.tb := by rw [getD_of (by omega)]; exact List.getElem_mem _
 have := List.all_eq_true.1 h3 _ hm
 simp only [Bool.not_eq_true', Bool.or_eq_false_iff, decide_eq_false_iff_not] at this
 unfold bk
 omega
theorem cong_fi {n : Nat} {ops : List OpD} {p r : List Int} (hp : Pt n p) (hc : Cong n ops r) (hf : Fi n p r) {f : OpD} (hfm : f ∈ ops) {i j : Nat} (hi : i < n ^ f.ar.toNat) (hj : j < f.ar.toNat) (hn : 0 < n) :
 bk r (bk f.tb i) = bk r (bk f.tb (subN n i j (bk p (digN n i j)))) := by
 have hd : digN n i j < n := Nat.mod_lt _ hn
 have hb := hp.lt hd
 have h1 := hc f hfm i hi j hj
 have h2 := hc f hfm _ (sub_lt hi hj hb) j hj
 rw [dig_sub i j hb, sub_sub i j hb, hf _ hd] at h2
 rw [h1, h2]
structure Lst (n : Nat) (ops : List OpD) (p q : List Int) : Prop where
 pt : Pt n q
 fi : Fi n p q
 cong : Cong n ops q
 least : ∀ r, Pt n r → Cong n ops r → Fi n p r → Fi n q r
theorem Lst.unique {n : Nat} {ops : List OpD} {p q q' : List Int} (h : Lst n ops p q) (h' : Lst n ops p q') : q = q' :=
 fi_antisymm h.pt h'.pt (h.least _ h'.pt h'.cong h'.fi) (h'.least _ h.pt h.cong h.fi)
def stpF (n : Nat) (p : List Int) (f : OpD) (i k : Nat) : Nat × Nat := (bk f.tb i, bk f.tb (subN n i (f.ar.toNat - 1 - k) (bk p (digN n i (f.ar.toNat - 1 - k)))))
def stpsI (n : Nat) (p : List Int) (f : OpD) (i : Nat) : List (Nat × Nat) := (List.range f.ar.toNat).map (stpF n p f i)
def stpsF (n : Nat) (p : List Int) (f : OpD) : List (Nat × Nat) := (List.range (n ^ f.ar.toNat)).flatMap (stpsI n p f)
def pushL (n : Nat) (ops : List OpD) (p : List Int) : List Int := foldU (ops.flatMap (stpsF n p)) p
def iterP (n : Nat) (ops : List OpD) : Nat → List Int → List Int
 | 0, p => p
 | k + 1, p => pushL n ops (iterP n ops k p)
def closeL (n : Nat) (ops : List OpD) (p : List Int) : List Int := iterP n ops n p
theorem stps_mem {n : Nat} {ops : List OpD} {p : List Int} {vw : Nat × Nat} : vw ∈ ops.flatMap (stpsF n p) ↔ ∃ f ∈ ops, ∃ i, i < n ^ f.ar.toNat ∧ ∃ k, k < f.ar.toNat ∧ vw = stpF n p f i k := by
 simp only [List.mem_flatMap, stpsF, stpsI, List.mem_map, List.mem_range]
 constructor
 · rintro ⟨f, hf, i, hi, k, hk, rfl⟩; exact ⟨f, hf, i, hi, k, hk, rfl⟩
 · rintro ⟨f, hf, i, hi, k, hk, rfl⟩; exact ⟨f, hf, i, hi, k, hk, rfl⟩
theorem stp_lt {n : Nat} {ops : List OpD} {p : List Int} (hn : 0 < n) (ho : opsIn n ops) (hp : Pt n p) {f : OpD} (hf : f ∈ ops) {i k : Nat} (hi : i < n ^ f.ar.toNat) (hk : k < f.ar.toNat) : (stpF n p f i k).1 < n ∧ (stpF n p f i k).2 < n := by
 obtain ⟨-, -, -, h⟩ := ho f hf
 exact ⟨(h i hi).2, (h _ (sub_lt hi (by omega) (hp.lt (Nat.mod_lt _ hn)))).2⟩
theorem stps_lt {n : Nat} {ops : List OpD} {p : List Int} (hn : 0 < n) (ho : opsIn n ops) (hp : Pt n p) : ∀ vw ∈ ops.flatMap (stpsF n p), vw.1 < n ∧ vw.2 < n := fun vw h => by
 obtain ⟨f, hf, i, hi, k, hk, rfl⟩ := stps_mem.1 h
 exact stp_lt hn ho hp hf hi hk
theorem push_pt {n : Nat} {ops : List OpD} {p : List Int} (hn : 0 < n) (ho : opsIn n ops) (hp : Pt n p) : Pt n (pushL n ops p) := foldU_pt hp (stps_lt hn ho hp)
theorem push_fi {n : Nat} {ops : List OpD} {p : List Int} (hn : 0 < n) (ho : opsIn n ops) (hp : Pt n p) : Fi n p (pushL n ops p) := foldU_fi hp (stps_lt hn ho hp)
theorem push_least {n : Nat} {ops : List OpD} {p r : List Int} (hn : 0 < n) (ho : opsIn n ops) (hp : Pt n p) (_hr : Pt n r) (hc : Cong n ops r) (hf : Fi n p r) : Fi n (pushL n ops p) r :=
 foldU_least hp (stps_lt hn ho hp) hf fun vw h => by
  obtain ⟨f, hfm, i, hi, k, hk, rfl⟩ := stps_mem.1 h
  exact cong_fi hp hc hf hfm hi (by omega) hn
theorem push_same {n : Nat} {ops : List OpD} {p : List Int} (hn : 0 < n) (ho : opsIn n ops) (hp : Pt n p) : pushL n ops p = p ↔ Cong n ops p := by
 constructor
 · intro h f hf i hi j hj
   have := foldU_R hp (stps_lt hn ho hp) (stpF n p f i (f.ar.toNat - 1 - j)) (stps_mem.2 ⟨f, hf, i, hi, _, by omega, rfl⟩)
   have e : foldU (ops.flatMap (stpsF n p)) p = p := h
   rw [e] at this
   unfold stpF at this
   rw [show f.ar.toNat - 1 - (f.ar.toNat - 1 - j) = j by omega] at this
   exact this
 · intro h
   refine foldU_same hp (stps_lt hn ho hp) fun vw hv => ?_
   obtain ⟨f, hfm, i, hi, k, hk, rfl⟩ := stps_mem.1 hv
   exact h f hfm i hi _ (by omega)
theorem iter_facts {n : Nat} {ops : List OpD} {p : List Int} (hn : 0 < n) (ho : opsIn n ops) (hp : Pt n p) : ∀ k, Pt n (iterP n ops k p) ∧ Fi n p (iterP n ops k p) ∧ (∀ r, Pt n r → Cong n ops r → Fi n p r → Fi n (iterP n ops k p) r) ∧ (Cong n ops (iterP n ops k p) ∨ cnt n (iterP n ops k p) + k ≤ n)
 | 0 => ⟨hp, fi_refl hp, fun _ _ _ h => h, .inr (by rw [iterP]; exact cnt_le n p)⟩
 | k + 1 => by
  obtain ⟨h1, h2, h3, h4⟩ := iter_facts hn ho hp k
  have p1 := push_pt hn ho h1
  refine ⟨p1, fi_trans hp h2 (push_fi hn ho h1), fun r hr hc hf => push_least hn ho h1 hr hc (h3 r hr hc hf), ?_⟩
  show Cong n ops (pushL n ops (iterP n ops k p)) ∨ cnt n (pushL n ops (iterP n ops k p)) + (k + 1) ≤ n
  rcases foldU_cnt h1 (stps_lt hn ho h1) with he | hlt
  · have he : pushL n ops (iterP n ops k p) = iterP n ops k p := he
    rw [he]; exact .inl ((push_same hn ho h1).1 he)
  · rcases h4 with h4 | h4
    · rw [(push_same hn ho h1).2 h4]; exact .inl h4
    · have hlt : cnt n (pushL n ops (iterP n ops k p)) < cnt n (iterP n ops k p) := hlt
      exact .inr (by omega)
theorem close_lst {n : Nat} {ops : List OpD} {p : List Int} (hn : 0 < n) (ho : opsIn n ops) (hp : Pt n p) : Lst n ops p (closeL n ops p) := by
 obtain ⟨h1, h2, h3, h4⟩ := iter_facts hn ho hp n
 refine ⟨h1, h2, ?_, h3⟩
 rcases h4 with h4 | h4
 · exact h4
 · have := cnt_pos h1 hn; unfold closeL; omega
theorem close_same {n : Nat} {ops : List OpD} {p : List Int} (hn : 0 < n) (ho : opsIn n ops) (hp : Pt n p) : closeL n ops p = p ↔ Cong n ops p := by
 have h := close_lst hn ho hp
 constructor
 · intro e; have := h.cong; rwa [e] at this
 · intro hc; exact h.unique ⟨hp, fi_refl hp, hc, fun r _ _ hf => hf⟩
end Go.Proofs.YtepjlgilopfnpaaGreat
