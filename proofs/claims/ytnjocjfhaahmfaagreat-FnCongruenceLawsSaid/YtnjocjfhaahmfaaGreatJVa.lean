/- Plain: congruences that permute are modular; factors that make the join; heights. -/
import Derived.Test.YtnjocjfhaahmfaaGreatJKd
import Derived.Test.YtnjocjfhaahmfaaGreatJKg
import Derived.Test.YtnjocjfhaahmfaaGreatJKn
import Derived.Test.YtnjocjfhaahmfaaGreatJZb
import Derived.Test.YtnjocjfhaahmfaaGreatJSq
import Derived.Test.YtnjocjfhaahmfaaGreatJKb
namespace Go.Proofs.YtnjocjfhaahmfaaGreat
open Go Go.Pv Go.Proofs

def Mdl (n : Nat) (p q r : List Int) : Prop := Fi n r p → meetP n p (joinP n q r) = joinP n (meetP n p q) (meetP n p r)
theorem meet_join_ge {n : Nat} {p q r : List Int} (hq : Pt n q) (hr : Pt n r) : Fi n (joinP n (meetP n p q) (meetP n p r)) (meetP n p (joinP n q r)) :=
  join_least meet_pt meet_pt (meet_most meet_pt meet_fi1 (fi_trans meet_pt meet_fi2 (join_fi1 hq hr))) (meet_most meet_pt meet_fi1 (fi_trans meet_pt meet_fi2 (join_fi2 hq hr)))
theorem prm_mdl {n : Nat} {p q r : List Int} (hp : Pt n p) (hq : Pt n q) (hr : Pt n r) (h : Prm n q r) : Mdl n p q r := fun hf => by
  refine fi_antisymm meet_pt (join_pt meet_pt meet_pt) ((fi_iff meet_pt).2 fun x y hx hy he => ?_) (meet_join_ge hq hr)
  obtain ⟨h1, h2⟩ := (meet_R hx hy).1 he
  obtain ⟨u, hu, u1, u2⟩ := (prm_join hq hr h hx hy).1 h2
  have hup : bk p u = bk p y := fi_R hf hu hy u2
  have a1 : bk (meetP n p q) x = bk (meetP n p q) u := (meet_R hx hu).2 ⟨h1.trans hup.symm, u1⟩
  have a2 : bk (meetP n p r) u = bk (meetP n p r) y := (meet_R hu hy).2 ⟨hup, u2⟩
  exact (fi_R (join_fi1 meet_pt meet_pt) hx hu a1).trans (fi_R (join_fi2 meet_pt meet_pt) hu hy a2)
theorem mdl_same {n : Nat} {p q r : List Int} (hp : Pt n p) (hq : Pt n q) (hr : Pt n r) (hf : Fi n r p) : joinP n (meetP n p q) (meetP n p r) = joinP n r (meetP n p q) := by
  have e : meetP n p r = r := fi_antisymm meet_pt hr meet_fi2 (meet_most hr hf (fi_refl hr))
  rw [e]
  exact fi_antisymm (join_pt meet_pt hr) (join_pt hr meet_pt) (join_least meet_pt hr (join_fi2 hr meet_pt) (join_fi1 hr meet_pt)) (join_least hr meet_pt (join_fi2 meet_pt hr) (join_fi1 meet_pt hr))
/-! ### Factors -/
def facR6 (n : Nat) (p q : List Int) : Nat → Nat → Nat → Prop
  | 0, x, z => x = z
  | k + 1, x, z => ∃ y, y < n ∧ facR6 n p q k x y ∧ (if k % 2 = 0 then bk p y = bk p z else bk q y = bk q z)
theorem fac_mono {n : Nat} {p q : List Int} {k x z : Nat} (hz : z < n) (h : facR6 n p q k x z) : facR6 n p q (k + 1) x z := by
  refine ⟨z, hz, h, ?_⟩
  split <;> rfl
theorem fac_join {n : Nat} {p q : List Int} (hp : Pt n p) (hq : Pt n q) : ∀ {k x z : Nat}, x < n → z < n → facR6 n p q k x z → bk (joinP n p q) x = bk (joinP n p q) z
  | 0, x, z, _, _, h => by rw [show x = z from h]
  | k + 1, x, z, hx, hz, h => by
    obtain ⟨y, hy, h1, h2⟩ := h
    have ih := fac_join hp hq hx hy h1
    rw [ih]
    split at h2
    · exact fi_R (join_fi1 hp hq) hy hz h2
    · exact fi_R (join_fi2 hp hq) hy hz h2
theorem fac_two {n : Nat} {p q : List Int} {x z : Nat} (hx : x < n) : facR6 n p q 2 x z ↔ Prd n p q x z := by
  constructor
  · rintro ⟨y, hy, ⟨w, hw, h1, h2⟩, h3⟩
    have h1 : x = w := h1
    subst h1
    exact ⟨y, hy, by simpa using h2, by simpa using h3⟩
  · rintro ⟨y, hy, h1, h2⟩
    exact ⟨y, hy, ⟨x, hx, rfl, by simpa using h1⟩, by simpa using h2⟩
theorem fac_prm {n : Nat} {p q : List Int} (hp : Pt n p) (hq : Pt n q) : Prm n p q ↔ ∀ x z, x < n → z < n → bk (joinP n p q) x = bk (joinP n p q) z → facR6 n p q 2 x z :=
  ⟨fun h x z hx hz he => (fac_two hx).2 ((prm_join hp hq h hx hz).1 he), fun h => prm_of_join hp hq fun x z hx hz he => (fac_two hx).1 (h x z hx hz he)⟩
end Go.Proofs.YtnjocjfhaahmfaaGreat
/- Walks: translated pairs, both sides. -/
namespace Go.Proofs.YtnjocjfhaahmfaaGreat
open Go Go.Pv Go.Proofs

/-! ### Squares of Booleans -/
def Gw (L M : List (Nat × Nat)) : Prop := ∃ l, M = L ++ l
theorem Gw.refl (L : List (Nat × Nat)) : Gw L L := ⟨[], (List.append_nil _).symm⟩
theorem Gw.trans {L M N : List (Nat × Nat)} (h : Gw L M) (g : Gw M N) : Gw L N := by
  obtain ⟨a, rfl⟩ := h
  obtain ⟨b, rfl⟩ := g
  exact ⟨a ++ b, List.append_assoc ..⟩
theorem Gw.app (L : List (Nat × Nat)) (w : Nat × Nat) : Gw L (L ++ [w]) := ⟨[w], rfl⟩
theorem Gw.len {L M : List (Nat × Nat)} (h : Gw L M) : L.length ≤ M.length := by obtain ⟨l, rfl⟩ := h; simp
theorem Gw.at {L M : List (Nat × Nat)} (h : Gw L M) {i : Nat} (hi : i < L.length) : M.getD i (0, 0) = L.getD i (0, 0) := by
  obtain ⟨l, rfl⟩ := h
  rw [List.getD_eq_getElem?_getD, List.getElem?_append_left hi, List.getD_eq_getElem?_getD]
/-! ### The reference -/
end Go.Proofs.YtnjocjfhaahmfaaGreat
/- The layer: the rest of a function's text, behind one of its statements. -/
namespace Go.Pv
open Go
attribute [local semireducible] Go.Pv.Goal
def headReg : Code → Option Nat
  | .region id _ _ => some id
  | .seq a _ => headReg a
  | .block _ c => headReg c
  | _ => none
def tailAt (id : Nat) : Code → Code
  | .seq a b => bif headReg a == some id then .seq a b else tailAt id b
  | .block _ c => tailAt id c
  | c => c
abbrev bodyC (f : Func) : Code := f.body.getD .skip
theorem g_tail {P : Program} {c c' : Code} {K : Exit → St → Prop} {S S' : St} (hc : c = c') (hl : S.le S') (h : Goal P c' K S') : Goal P c K S := hc ▸ g_weaken hl h
theorem at_reg1 {P : Program} {K : Exit → St → Prop} {S : St} {x : Code} {ops : Array Oper} {dr : Bool} (id : Nat) (h : Goal P ((Code.region id ops dr).seq x) K S) : Goal P ((Code.region id ops dr).seq x) K S := h
end Go.Pv
/- Distributive lattices: irreducible elements are prime; point maps of lattice maps, lattice maps of point maps. No program here. -/
namespace Go.Proofs.YtnjocjfhaahmfaaGreat
structure LMap (p q : List (List Int)) (f : List Int) : Prop where
  len : f.length = p.length
  mem : ∀ x, inR p x → inR q (im f x)
  bot : im f (botL p) = botL q
  top : im f (topL p) = topL q
  meet : ∀ x y, inR p x → inR p y → im f (meetL p x y) = meetL q (im f x) (im f y)
  join : ∀ x y, inR p x → inR p y → im f (joinL p x y) = joinL q (im f x) (im f y)
theorem LMap.mono {p q : List (List Int)} {f : List Int} (F : LMap p q f) (Lp : Lat p) (Lq : Lat q) {x y : Int} (hx : inR p x) (hy : inR p y) (h : leqB p x y = true) : leqB q (im f x) (im f y) = true := by
  have e := F.meet x y hx hy
  rw [Lp.meet_le hx hy h] at e
  rw [e]
  exact Lq.meet2 _ _ (F.mem x hx) (F.mem y hy)
end Go.Proofs.YtnjocjfhaahmfaaGreat
/- Plain: products of algebras. -/
namespace Go.Proofs.YtnjocjfhaahmfaaGreat
open Go Go.Pv Go.Proofs

def facQ (N m k i : Nat) : List Int := (argsL N k i).map fun x => x / (m : Int)
def facR (N m k i : Nat) : List Int := (argsL N k i).map fun x => x % (m : Int)
def prodC (N n m : Nat) (f g : OpD) (i : Nat) : Int := f.tb.getD (idxL n (facQ N m f.ar.toNat i)).toNat 0 * m + g.tb.getD (idxL m (facR N m f.ar.toNat i)).toNat 0
def prodT (N n m : Nat) (f g : OpD) (k : Nat) : List Int := (List.range k).map (prodC N n m f g)
def prodF (N n m : Nat) (f g : OpD) : OpD := ⟨f.ar, prodT N n m f g (N ^ f.ar.toNat)⟩
def prodK (N n m : Nat) (A B : List OpD) (k : Nat) : List OpD := (List.range k).map fun i => prodF N n m (A.getD i default) (B.getD i default)
def prodL (n m : Nat) (A B : List OpD) : List OpD := prodK (n * m) n m A B A.length
def sameT (A B : List OpD) : Prop := A.map (fun f => f.ar) = B.map (fun f => f.ar)
theorem sameT.len {A B : List OpD} (h : sameT A B) : A.length = B.length := by
  have := congrArg List.length h
  simpa using this
theorem sameT.at {A B : List OpD} (h : sameT A B) (i : Nat) : (A.getD i default).ar = (B.getD i default).ar := by
  have h1 : (A.map (fun f => f.ar)).getD i (default : OpD).ar = (B.map (fun f => f.ar)).getD i (default : OpD).ar := by rw [h]
  simp only [List.getD_eq_getElem?_getD, List.getElem?_map] at h1 ⊢
  cases ha : A[i]? <;> cases hb : B[i]? <;> simp_all
theorem facQ_len (N m k i : Nat) : (facQ N m k i).length = k := by unfold facQ; rw [List.length_map, argsL_len]
theorem facR_len (N m k i : Nat) : (facR N m k i).length = k := by unfold facR; rw [List.length_map, argsL_len]
theorem facQ_in {n m : Nat} (hn : 0 < n) (hm : 0 < m) (k i : Nat) : ∀ x ∈ facQ (n * m) m k i, 0 ≤ x ∧ x < (n : Int) := fun x hx => by
  obtain ⟨y, hy, rfl⟩ := List.mem_map.1 hx
  obtain ⟨y0, y1⟩ := argsL_in (Nat.mul_pos hn hm) k i y hy
  refine ⟨Int.ediv_nonneg y0 (by omega), Int.ediv_lt_of_lt_mul (by omega) ?_⟩
  rw [Int.natCast_mul] at y1; exact y1
theorem facR_in {n m : Nat} (hm : 0 < m) (k i : Nat) : ∀ x ∈ facR (n * m) m k i, 0 ≤ x ∧ x < (m : Int) := fun x hx => by
  obtain ⟨y, -, rfl⟩ := List.mem_map.1 hx
  exact ⟨Int.emod_nonneg _ (by omega), Int.emod_lt_of_pos _ (by omega)⟩
theorem tb_in {n : Nat} {f : OpD} (h : 0 ≤ f.ar ∧ f.ar ≤ 3 ∧ f.tb.length = n ^ f.ar.toNat ∧ ∀ i, i < n ^ f.ar.toNat → 0 ≤ f.tb.getD i 0 ∧ bk f.tb i < n) {l : List Int} (hl : l.length = f.ar.toNat) (hx : ∀ x ∈ l, 0 ≤ x ∧ x < (n : Int)) :
    0 ≤ f.tb.getD (idxL n l).toNat 0 ∧ f.tb.getD (idxL n l).toNat 0 < (n : Int) := by
  have hb := idxL_bound l hx
  rw [hl] at hb
  obtain ⟨h0, h1⟩ := h.2.2.2 (idxL n l).toNat (by omega)
  unfold bk at h1
  omega
theorem prodC_in {n m : Nat} (hn : 0 < n) (hm : 0 < m) {f g : OpD} (hf : 0 ≤ f.ar ∧ f.ar ≤ 3 ∧ f.tb.length = n ^ f.ar.toNat ∧ ∀ i, i < n ^ f.ar.toNat → 0 ≤ f.tb.getD i 0 ∧ bk f.tb i < n) (hg : 0 ≤ g.ar ∧ g.ar ≤ 3 ∧ g.tb.length = m ^ g.ar.toNat ∧ ∀ i, i < m ^ g.ar.toNat → 0 ≤ g.tb.getD i 0 ∧ bk g.tb i < m) (he : f.ar = g.ar) (i : Nat) :
    0 ≤ prodC (n * m) n m f g i ∧ prodC (n * m) n m f g i < ((n * m : Nat) : Int) := by
  obtain ⟨a0, a1⟩ := tb_in hf (facQ_len (n * m) m f.ar.toNat i) (facQ_in hn hm _ i)
  obtain ⟨b0, b1⟩ := tb_in hg (l := facR (n * m) m f.ar.toNat i) (by rw [facR_len, he]) (facR_in hm _ i)
  unfold prodC
  generalize f.tb.getD _ 0 = a at *
  generalize g.tb.getD _ 0 = b at *
  have h1 : 0 ≤ a * (m : Int) := Int.mul_nonneg a0 (by omega)
  have h2 : (a + 1) * (m : Int) ≤ (n : Int) * (m : Int) := Int.mul_le_mul_of_nonneg_right (by omega) (by omega)
  rw [Int.add_mul, Int.one_mul] at h2
  rw [Int.natCast_mul]
  omega
theorem prodK_succ (N n m : Nat) (A B : List OpD) (k : Nat) : prodK N n m A B (k + 1) = prodK N n m A B k ++ [prodF N n m (A.getD k default) (B.getD k default)] := by
  unfold prodK; rw [List.range_succ, List.map_append]; rfl
theorem prodT_succ (N n m : Nat) (f g : OpD) (k : Nat) : prodT N n m f g (k + 1) = prodT N n m f g k ++ [prodC N n m f g k] := by
  unfold prodT; rw [List.range_succ, List.map_append]; rfl
theorem prodK_len (N n m : Nat) (A B : List OpD) (k : Nat) : (prodK N n m A B k).length = k := by simp [prodK]
theorem prodT_len (N n m : Nat) (f g : OpD) (k : Nat) : (prodT N n m f g k).length = k := by simp [prodT]
theorem prod_in {n m : Nat} {A B : List OpD} (hn : 0 < n) (hm : 0 < m) (hA : opsIn n A) (hB : opsIn m B) (ht : sameT A B) : opsIn (n * m) (prodL n m A B) := fun F hF => by
  obtain ⟨i, hi, rfl⟩ := List.mem_map.1 hF
  have hi := List.mem_range.1 hi
  have hfa := hA _ (opsK_mem hi)
  have hfb := hB _ (opsK_mem (by rw [← ht.len]; exact hi))
  refine ⟨hfa.1, hfa.2.1, ?_, fun j hj => ?_⟩
  · show (prodT _ _ _ _ _ _).length = _
    rw [prodT_len]; rfl
  · have hj : j < (n * m) ^ (A.getD i default).ar.toNat := hj
    show 0 ≤ (prodT _ _ _ _ _ _).getD j 0 ∧ bk (prodT _ _ _ _ _ _) j < _
    have e : (prodT (n * m) n m (A.getD i default) (B.getD i default) ((n * m) ^ (A.getD i default).ar.toNat)).getD j 0 = prodC (n * m) n m (A.getD i default) (B.getD i default) j := by
      unfold prodT; rw [List.getD_eq_getElem?_getD, List.getElem?_map, List.getElem?_range hj]; rfl
    have := prodC_in hn hm hfa hfb (ht.at i) j
    unfold bk
    rw [e]; omega
theorem prod_type {n m : Nat} {A B : List OpD} : (prodL n m A B).map (fun f => f.ar) = A.map fun f => f.ar := by
  refine List.ext_getElem (by simp [prodL, prodK]) fun i h1 h2 => ?_
  simp [prodL, prodK, prodF, List.getD_eq_getElem?_getD]
  rw [List.getElem?_eq_getElem (by simpa using h2)]; rfl
def oneL (A : List OpD) : List OpD := A.map fun f => ⟨f.ar, [0]⟩
theorem one_in {n : Nat} {A : List OpD} (hA : opsIn n A) : opsIn 1 (oneL A) := fun F hF => by
  obtain ⟨f, hf, rfl⟩ := List.mem_map.1 hF
  obtain ⟨h0, h1, -, -⟩ := hA f hf
  refine ⟨h0, h1, by rw [Nat.one_pow]; rfl, fun i hi => ?_⟩
  rw [Nat.one_pow] at hi
  obtain rfl : i = 0 := by omega
  exact ⟨Int.le_refl _, Nat.zero_lt_one⟩
theorem one_type (A : List OpD) : (oneL A).map (fun f => f.ar) = A.map fun f => f.ar := by
  unfold oneL; rw [List.map_map]; rfl
def powL (n : Nat) (A : List OpD) : Nat → List OpD
  | 0 => oneL A
  | k + 1 => prodL (n ^ k) n (powL n A k) A
theorem pow_facts {n : Nat} {A : List OpD} (hn : 0 < n) (hA : opsIn n A) : ∀ k, opsIn (n ^ k) (powL n A k) ∧ sameT (powL n A k) A
  | 0 => ⟨by rw [Nat.pow_zero]; exact one_in hA, one_type A⟩
  | k + 1 => by
    obtain ⟨h1, h2⟩ := pow_facts hn hA k
    refine ⟨?_, prod_type.trans h2⟩
    rw [Nat.pow_succ]
    exact prod_in (Nat.pow_pos hn) hn h1 hA h2
theorem opsIn_sz {n : Nat} {A : List OpD} (hn : n ≤ 8) (hA : opsIn n A) (hl : A.length ≤ 1048576) : szOk A := ⟨hl, fun f hf => by
  obtain ⟨-, h1, h2, -⟩ := hA f hf
  rw [h2]
  calc n ^ f.ar.toNat ≤ 8 ^ f.ar.toNat := Nat.pow_le_pow_left hn _
    _ ≤ 8 ^ 3 := Nat.pow_le_pow_right (by decide) (by omega)
    _ ≤ 1048576 := by decide⟩
end Go.Proofs.YtnjocjfhaahmfaaGreat
/- Walks: operations that the law owns, with their rows: made, marked. -/
namespace Go.Proofs.YtnjocjfhaahmfaaGreat
open Go Go.Pv Go.Proofs

abbrev rowO (f : OpD) : List Int := f.ar :: f.tb
abbrev rowsO (L : List OpD) : List (List Int) := L.map rowO
abbrev sgI (rows : List (List Int)) : HO := .sg 43 3 0 (rows.map fun r => r.map I)
theorem rowsO_view (L : List OpD) : (PV.sl 2 none (((rowsO L).map fun r => r.map I).map sgP)) = opsP L := by
  rw [List.map_map, List.map_map]; rfl
theorem le_algG (n : Int) (L : List OpD) : (PV.agg [I n, PV.sl 2 none (((rowsO L).map fun r => r.map I).map sgP)]).le (algP n L) := by rw [rowsO_view]; exact PV.le_refl _
end Go.Proofs.YtnjocjfhaahmfaaGreat
