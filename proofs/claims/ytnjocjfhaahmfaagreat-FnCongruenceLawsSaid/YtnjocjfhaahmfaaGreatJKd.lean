/- Plain: congruences that permute, distributive ones, elements that solve congruences together. -/
import Derived.Test.YtnjocjfhaahmfaaGreatJKb
import Derived.Test.YtnjocjfhaahmfaaGreatJSq
import Derived.Test.YtnjocjfhaahmfaaGreatJTy
import Derived.Test.YtnjocjfhaahmfaaGreatJPq
import Derived.Test.YtnjocjfhaahmfaaGreatJKg
import Derived.Test.YtnjocjfhaahmfaaGreatJGf
import Derived.Test.YtnjocjfhaahmfaaGreatJSt
set_option linter.unusedSectionVars false
namespace Go.Proofs.YtnjocjfhaahmfaaGreat
open Go Go.Pv Go.Proofs

def Prd (n : Nat) (p q : List Int) (x z : Nat) : Prop := ∃ y, y < n ∧ bk p x = bk p y ∧ bk q y = bk q z
def Prm (n : Nat) (p q : List Int) : Prop := ∀ x z, x < n → z < n → Prd n p q x z → Prd n q p x z
theorem Prd.swap {n : Nat} {p q : List Int} {x z : Nat} (h : Prd n p q x z) : Prd n q p z x := by
  obtain ⟨y, hy, h1, h2⟩ := h
  exact ⟨y, hy, h2.symm, h1.symm⟩
theorem Prm.symm {n : Nat} {p q : List Int} (h : Prm n p q) : Prm n q p := fun x z hx hz hp => (h z x hz hx hp.swap).swap
theorem prd_join {n : Nat} {p q : List Int} (hp : Pt n p) (hq : Pt n q) {x z : Nat} (hx : x < n) (hz : z < n) (h : Prd n p q x z) : bk (joinP n p q) x = bk (joinP n p q) z := by
  obtain ⟨y, hy, h1, h2⟩ := h
  exact (fi_R (join_fi1 hp hq) hx hy h1).trans (fi_R (join_fi2 hp hq) hy hz h2)
theorem prm_join {n : Nat} {p q : List Int} (hp : Pt n p) (hq : Pt n q) (h : Prm n p q) {x z : Nat} (hx : x < n) (hz : z < n) : bk (joinP n p q) x = bk (joinP n p q) z ↔ Prd n p q x z := by
  refine ⟨fun he => ?_, prd_join hp hq hx hz⟩
  let E : Nat → Nat → Prop := fun a b => (a < n ∧ b < n ∧ Prd n p q a b) ∨ a = b
  have hE : Equivalence E := by
    refine ⟨fun a => .inr rfl, fun {a b} hab => ?_, fun {a b c} hab hbc => ?_⟩
    · rcases hab with ⟨h1, h2, h3⟩ | rfl
      · exact .inl ⟨h2, h1, h.symm _ _ h2 h1 h3.swap⟩
      · exact .inr rfl
    · rcases hab with ⟨h1, h2, y, hy, y1, y2⟩ | rfl
      · rcases hbc with ⟨-, g2, w, hw, w1, w2⟩ | rfl
        · -- a p y q b p w q c : y (q p) w, so y (p q) w
          obtain ⟨u, hu, u1, u2⟩ := h.symm y w hy hw ⟨b, h2, y2, w1⟩
          exact .inl ⟨h1, g2, u, hu, y1.trans u1, u2.trans w2⟩
        · exact .inl ⟨h1, h2, y, hy, y1, y2⟩
      · exact hbc
  have key := join_leastE hp hq hE (fun z hz => .inl ⟨hp.lt hz, hz, z, hz, hp.id z hz, rfl⟩) (fun z hz => .inl ⟨hq.lt hz, hz, bk q z, hq.lt hz, rfl, hq.id z hz⟩)
  have h1 : E (bk (joinP n p q) x) x := key x hx
  have h2 : E (bk (joinP n p q) z) z := key z hz
  rw [he] at h1
  rcases hE.trans (hE.symm h1) h2 with ⟨-, -, h3⟩ | rfl
  · exact h3
  · exact ⟨x, hx, rfl, rfl⟩
theorem prm_of_join {n : Nat} {p q : List Int} (hp : Pt n p) (hq : Pt n q) (h : ∀ x z, x < n → z < n → bk (joinP n p q) x = bk (joinP n p q) z → Prd n p q x z) : Prm n p q := fun x z hx hz hxz =>
  (h z x hz hx (prd_join hp hq hx hz hxz).symm).swap
/-! ### The partition with one block -/
def fullL (n : Nat) : List Int := List.replicate n 0
theorem bk_full (n x : Nat) : bk (fullL n) x = 0 := by
  unfold bk fullL
  rw [List.getD_eq_getElem?_getD, List.getElem?_replicate]
  split <;> rfl
theorem full_pt (n : Nat) : Pt n (fullL n) := by
  refine ⟨by simp [fullL], fun x hx => ?_, fun x _ => by rw [bk_full]; exact Nat.zero_le _, fun x _ => by rw [bk_full, bk_full]⟩
  unfold fullL
  rw [List.getD_eq_getElem?_getD, List.getElem?_replicate, if_pos hx]; exact Int.le_refl _
theorem full_fi {n : Nat} {p : List Int} : Fi n p (fullL n) := fun x _ => by rw [bk_full, bk_full]
theorem full_cong {n : Nat} (ops : List OpD) : Cong n ops (fullL n) := fun f _ i _ j _ => by rw [bk_full, bk_full]
/-! ### Distributive congruences -/
end Go.Proofs.YtnjocjfhaahmfaaGreat
/- Walks: the reference's posets, lattices and their laws' helpers. -/

namespace Go.Proofs.YtnjocjfhaahmfaaGreat
open Go Go.Pv Go.Proofs
abbrev gridI (t : List (List Int)) : HO := .grid 41 3 (t.map fun r => r.map I)
theorem idx_gridI {t : List (List Int)} {i : Nat} (h : i < t.length) : (t.map fun r => r.map I)[i]? = some ((t.getD i []).map I) := by simp [h]
end Go.Proofs.YtnjocjfhaahmfaaGreat
/- Walks: the reference's lattice maps, points and chains. -/

namespace Go.Proofs.YtnjocjfhaahmfaaGreat
open Go Go.Pv Go.Proofs
set_option maxHeartbeats 32000000
set_option maxRecDepth 100000
attribute [local bitvec_to_nat] St.put St.setObj St.ev killP killA killP1 killH mapHO renP renA ren1 killG killGA killG1 krowP krowA krow1 lendP lendA lend1 unv pinP pin1 elemsM viewM viewN viewV n_set_z n_set_s n_map_c n_map_n getD_z getD_s n_toNat n_cond_t n_cond_f n_len_c n_len_n n_app_c n_app_n n_take_s n_take_z n_drop_s n_drop_z n_get_z n_get_s view viewA view1 elems Nat.zero_add Nat.add_zero Bool.not_true Bool.not_false Nat.one_ne_zero Nat.mul_one
theorem own_R (l : List Int) (hl : l.length ≤ 1048576) : RCalls Tryz.prog 169 [ints l] (.arr true 1 3 (l.map I)) (.hp 0) := by
  refine pcallsR1 Tryz.func169 rfl Tryz.ntmps169 rfl ?_
  refine wF ?_
  repeat' (first
| refine wO ?_
| (refine o_go rfl ?_; (first
| refine wS ?_
| refine p_e rfl (e_lit0 rfl (by decide)) ?_
| refine p_e rfl (e_append rfl rfl rfl rfl rfl rfl (by first | exact one_one rfl | exact one_map (fun _ => rfl) _) rfl aT aT) ?_); refine ⟨_, aA, ?_⟩)
| refine krr 0 rfl (HandOut.arr rfl ?_ aK)
| refine wE ?_)
  rfl
end Go.Proofs.YtnjocjfhaahmfaaGreat
/- Walks: partitions, joins and closures, the reference's side. -/
namespace Go.Proofs.YtnjocjfhaahmfaaGreat
open Go Go.Pv Go.Proofs
set_option maxHeartbeats 32000000
set_option maxRecDepth 100000
attribute [local bitvec_to_nat] St.put St.setObj St.ev killP killA killP1 killH mapHO renP renA ren1 killG killGA killG1 krowP krowA krow1 lendP lendA lend1 unv pinP pin1 elemsM viewM viewN viewV n_set_z n_set_s n_map_c n_map_n getD_z getD_s n_toNat n_cond_t n_cond_f n_len_c n_len_n n_app_c n_app_n n_take_s n_take_z n_drop_s n_drop_z n_get_z n_get_s view viewA view1 elems Nat.zero_add Nat.add_zero Bool.not_true Bool.not_false Nat.one_ne_zero Nat.mul_one

theorem sown_c (l : List Int) (hl : l.length ≤ 1048576) : PCalls Tryz.prog 169 [ints l] (ints l) := rcalls_P rfl (own_R l hl)
theorem opsK_at {L : List OpD} {i : Nat} (h : i < L.length) : (L.map opP)[((i : Nat) : Int).toNat]? = some (opP (L.getD i default)) := by
  rw [Int.toNat_natCast, List.getElem?_map, List.getElem?_eq_getElem h, List.getD_eq_getElem?_getD, List.getElem?_eq_getElem h]; rfl
theorem opsK_mem {L : List OpD} {i : Nat} (h : i < L.length) : L.getD i default ∈ L := by
  rw [List.getD_eq_getElem?_getD, List.getElem?_eq_getElem h]; exact List.getElem_mem _
theorem smst_c (a b : Int) : PCalls Tryz.prog 143 [I a, I b] (I (if b < a then a else b)) := by
  refine pcalls1 Tryz.func143 rfl Tryz.ntmps143 rfl ?_
  refine wF ?_
  by_cases h : b < a
  · rw [if_pos h]
    repeat' (first
| refine wO ?_
| (refine o_go rfl ?_; (first
| refine wS ?_); refine ⟨_, aA, ?_⟩)
| (refine zK rfl (fun hc => ?_) (fun hc => ?_) <;> try (exfalso; omega))
| refine kr1 ?_
| refine krI rfl ?_
| refine wE ?_)
    all_goals first | rfl | (exfalso; omega)
  · rw [if_neg h]
    repeat' (first
| refine wO ?_
| (refine o_go rfl ?_; (first
| refine wS ?_); refine ⟨_, aA, ?_⟩)
| (refine zK rfl (fun hc => ?_) (fun hc => ?_) <;> try (exfalso; omega))
| refine kr1 ?_
| refine krI rfl ?_
| refine wE ?_)
    all_goals first | rfl | (exfalso; omega)
theorem slst_c (a b : Int) : PCalls Tryz.prog 272 [I a, I b] (I (if a < b then a else b)) := by
  refine pcalls1 Tryz.func272 rfl Tryz.ntmps272 rfl ?_
  refine wF ?_
  by_cases h : a < b
  · rw [if_pos h]
    repeat' (first
| refine wO ?_
| (refine o_go rfl ?_; (first
| refine wS ?_); refine ⟨_, aA, ?_⟩)
| (refine zK rfl (fun hc => ?_) (fun hc => ?_) <;> try (exfalso; omega))
| refine kr1 ?_
| refine krI rfl ?_
| refine wE ?_)
    all_goals first | rfl | (exfalso; omega)
  · rw [if_neg h]
    repeat' (first
| refine wO ?_
| (refine o_go rfl ?_; (first
| refine wS ?_); refine ⟨_, aA, ?_⟩)
| (refine zK rfl (fun hc => ?_) (fun hc => ?_) <;> try (exfalso; omega))
| refine kr1 ?_
| refine krI rfl ?_
| refine wE ?_)
    all_goals first | rfl | (exfalso; omega)
theorem all_range_at {f : Nat → Bool} {n k : Nat} (hk : k < n) (h : f k = false) : (List.range n).all f = false := by
  rw [← Bool.not_eq_true, List.all_eq_true]
  intro hh
  rw [hh k (List.mem_range.2 hk)] at h; cases h
theorem all_range_succ {f : Nat → Bool} {n : Nat} : (List.range (n + 1)).all f = ((List.range n).all f && f n) := by
  rw [List.range_succ, List.all_append]; simp
theorem sident_c (n : Nat) (hn : n ≤ 1048576) : PCalls Tryz.prog 130 [I (n : Int)] (ints (idL n)) := by
  refine pcalls1 Tryz.func130 rfl Tryz.ntmps130 rfl ?_
  refine wF ?_
  repeat' (first
| refine wO ?_
| (refine o_go rfl ?_; (first
| refine p_e rfl (e_lit0T rfl (by decide)) ?_
| refine wS ?_); refine ⟨_, aA, ?_⟩))
  refine g_loopF (α := Nat) [5] (fun x => [(3, .hp 0), (4, I (x : Int))]) (fun x => [.arr true 1 3 (((List.range x).map fun (y : Nat) => (y : Int)).map I)]) (fun x => x ≤ n) (fun x => n - x) 0 aF (Nat.zero_le _) ⟨rfl, rfl, trivial⟩ rfl ?_
  rintro x hx
  dsimp only [zZ, List.set_cons_zero, List.set_cons_succ]
  have hll : (((List.range x).map fun (y : Nat) => (y : Int)).map I).length = x := by simp
  by_cases hxn : x < n
  · repeat' (first
| refine wO ?_
| (refine o_go rfl ?_; (first
| refine p_e (by kernel_rfl) (e_append rfl rfl rfl rfl rfl rfl (one_one rfl) rfl (by rw [n_len_c, n_len_n]; omega) (by rw [n_len_c, n_len_n]; omega)) ?_
| refine wS ?_
| refine p_p (ps_lit1 rfl rfl (by rfl) (by rfl)) ?_); refine ⟨_, aA, ?_⟩)
| (refine zK rfl (fun hc => ?_) (fun hc => ?_) <;> try (exfalso; omega))
| refine wE ?_)
    all_goals try (exfalso; omega)
    refine zT (x + 1) (by omega) (by omega) aI ⟨rfl, rfl, trivial⟩ (zB ?_ (zM _))
    rw [range_snoc, List.map_append]; rfl
  · repeat' (first
| refine wO ?_
| (refine o_go rfl ?_; (first
| refine wS ?_); refine ⟨_, aA, ?_⟩)
| (refine zK rfl (fun hc => ?_) (fun hc => ?_) <;> try (exfalso; omega))
| refine kr1 ?_
| refine krS rfl ?_
| refine wE ?_)
    all_goals try (exfalso; omega)
    rw [show x = n by omega]; rfl
theorem unL_eq (p : List Int) (x y : Nat) : unL p x y = p.map fun z => if z = (if p.getD x 0 < p.getD y 0 then p.getD y 0 else p.getD x 0) then (if p.getD x 0 < p.getD y 0 then p.getD x 0 else p.getD y 0) else z := by
  unfold unL
  congr 1
  funext z
  by_cases h : p.getD x 0 < p.getD y 0
  · rw [if_pos h, if_pos h, Int.max_eq_right (by omega), Int.min_eq_left (by omega)]
  · rw [if_neg h, if_neg h, Int.max_eq_left (by omega), Int.min_eq_right (by omega)]
theorem sun_c (p : List Int) (x y : Nat) (hp : p.length ≤ 1048576) (hx : x < p.length) (hy : y < p.length) : PCalls Tryz.prog 256 [ints p, I (x : Int), I (y : Int)] (ints (unL p x y)) := by
  refine pcalls1 Tryz.func256 rfl Tryz.ntmps256 rfl ?_
  refine wF ?_
  have h1 := slst_c (p.getD x 0) (p.getD y 0)
  have h2 := smst_c (p.getD x 0) (p.getD y 0)
  have hu : unL p x y = p.map fun z => if z = (if p.getD y 0 < p.getD x 0 then p.getD x 0 else p.getD y 0) then (if p.getD x 0 < p.getD y 0 then p.getD x 0 else p.getD y 0) else z := by
    rw [unL_eq]; congr 1; funext z
    rw [show (if p.getD x 0 < p.getD y 0 then p.getD y 0 else p.getD x 0) = (if p.getD y 0 < p.getD x 0 then p.getD x 0 else p.getD y 0) by split <;> split <;> omega]
  generalize hlo : (if p.getD x 0 < p.getD y 0 then p.getD x 0 else p.getD y 0) = lo at *
  generalize hhi : (if p.getD y 0 < p.getD x 0 then p.getD x 0 else p.getD y 0) = hi at *
  rw [hu]
  repeat' (first
| refine wO ?_
| refine zP (by kernel_rfl) (by kernel_rfl) ?_
| (refine o_go rfl ?_; (first
| refine p_p (zG rfl rfl aB (h1)) ?_
| refine p_p (zG rfl rfl aB (h2)) ?_
| refine p_e rfl (e_lit0T rfl (by decide)) ?_
| refine wS ?_
| refine p_p (zN rfl rfl rfl (by omega) aP (by exact rfl)) ?_); refine ⟨_, aA, ?_⟩))
  refine g_loopF (α := Nat) [29] (fun z => [(9, .hp 0), (10, I (z : Int))]) (fun z => [.arr true 1 3 (((p.take z).map fun z => if z = hi then lo else z).map I)]) (fun z => z ≤ p.length) (fun z => p.length - z) 0 aF (Nat.zero_le _) ⟨rfl, rfl, trivial⟩ rfl ?_
  rintro z hz
  dsimp only [zZ, List.set_cons_zero, List.set_cons_succ]
  have hll : (((p.take z).map fun z => if z = hi then lo else z).map I).length = z := by simp; omega
  by_cases hzl : z < p.length
  · have hs : (p.take (z + 1)).map (fun z => if z = hi then lo else z) = (p.take z).map (fun z => if z = hi then lo else z) ++ [if p.getD z 0 = hi then lo else p.getD z 0] := by
      rw [take_snoc 0 hzl, List.map_append]; rfl
    by_cases he : p.getD z 0 = hi
    · rw [if_pos he] at hs
      repeat' (first
| refine wO ?_
| (refine o_go rfl ?_; (first
| refine p_e (by kernel_rfl) (e_append rfl rfl rfl rfl rfl rfl (one_one rfl) rfl (by rw [n_len_c, n_len_n]; omega) (by rw [n_len_c, n_len_n]; omega)) ?_
| refine wS ?_
| refine p_p (zN rfl rfl rfl (by omega) aP (by exact rfl)) ?_
| refine p_p (ps_lit1 rfl rfl (by rfl) (by rfl)) ?_); refine ⟨_, aA, ?_⟩)
| (refine zK rfl (fun hc => ?_) (fun hc => ?_) <;> try (exfalso; omega))
| refine wE ?_)
      all_goals try (exfalso; omega)
      refine zT (z + 1) (by omega) (by omega) aI ⟨rfl, rfl, trivial⟩ (zB ?_ (zM _))
      rw [hs, List.map_append]; rfl
    · rw [if_neg he] at hs
      repeat' (first
| refine wO ?_
| (refine o_go rfl ?_; (first
| refine p_e (by kernel_rfl) (e_append rfl rfl rfl rfl rfl rfl (one_one rfl) rfl (by rw [n_len_c, n_len_n]; omega) (by rw [n_len_c, n_len_n]; omega)) ?_
| refine wS ?_
| refine p_p (zN rfl rfl rfl (by omega) aP (by exact rfl)) ?_
| refine p_p (ps_lit1 rfl rfl (by rfl) (by rfl)) ?_); refine ⟨_, aA, ?_⟩)
| (refine zK rfl (fun hc => ?_) (fun hc => ?_) <;> try (exfalso; omega))
| refine wE ?_)
      all_goals try (exfalso; omega)
      refine zT (z + 1) (by omega) (by omega) aI ⟨rfl, rfl, trivial⟩ (zB ?_ (zM _))
      rw [hs, List.map_append]; rfl
  · repeat' (first
| refine wO ?_
| (refine o_go rfl ?_; (first
| refine wS ?_); refine ⟨_, aA, ?_⟩)
| (refine zK rfl (fun hc => ?_) (fun hc => ?_) <;> try (exfalso; omega))
| refine kr1 ?_
| refine krS rfl ?_
| refine wE ?_)
    all_goals try (exfalso; omega)
    rw [List.take_of_length_le (by omega)]
theorem foldU_len : ∀ (L : List (Nat × Nat)) (p : List Int), (foldU L p).length = p.length
  | [], _ => rfl
  | vw :: L, p => by show (foldU L (unL p vw.1 vw.2)).length = _; rw [foldU_len, unL_len]
theorem prs_take {n x : Nat} {q : List Int} (hx : x < n) : (prsL n q).take (x + 1) = (prsL n q).take x ++ [(x, bk q x)] := by
  rw [take_snoc (0, 0) (by simpa [prsL] using hx)]
  congr 2
  unfold prsL
  rw [List.getD_eq_getElem?_getD, List.getElem?_map, List.getElem?_range hx]; rfl
theorem sjoin_c (n : Nat) (p q : List Int) (hn : n ≤ 1048576) (hp : p.length = n) (hq : Pt n q) : PCalls Tryz.prog 210 [ints p, ints q] (ints (joinP n p q)) := by
  refine pcalls1 Tryz.func210 rfl Tryz.ntmps210 rfl ?_
  refine wF ?_
  have h1 := sown_c p (by omega)
  have hql := hq.len
  repeat' (first
| refine wO ?_
| (refine o_go rfl ?_; (first
| refine p_p (zG rfl rfl aB (h1)) ?_
| refine wS ?_); refine ⟨_, aA, ?_⟩))
  refine g_loopT (α := Nat) (fun x => [(5, ints (foldU ((prsL n q).take x) p)), (6, I (x : Int))]) (fun _ => []) (fun x => x ≤ n) (fun x => n - x) 0 aF (Nat.zero_le _) ⟨rfl, rfl, trivial⟩ rfl ?_
  rintro x hx
  dsimp only [zZ, List.set_cons_zero, List.set_cons_succ]
  by_cases hxn : x < n
  · have hlt := hq.lt hxn
    have h2 := sun_c (foldU ((prsL n q).take x) p) x (bk q x) (by rw [foldU_len]; omega) (by rw [foldU_len]; omega) (by rw [foldU_len]; omega)
    rw [← foldU_snoc, ← prs_take hxn] at h2
    have hv := hq.val hxn
    have hix : (q.map I)[((x : Nat) : Int).toNat]? = some (I (bk q x : Int)) := by rw [← hv]; exact idx_I (by omega)
    repeat' (first
| refine wO ?_
| (refine o_go rfl ?_; (first
| refine p_p (zG rfl rfl aB (h2)) ?_
| refine p_p (zN rfl rfl rfl (by omega) hix (by exact rfl)) ?_
| refine wS ?_); refine ⟨_, aA, ?_⟩)
| (refine zK rfl (fun hc => ?_) (fun hc => ?_) <;> try (exfalso; omega))
| refine wE ?_)
    all_goals try (exfalso; omega)
    exact zT (x + 1) (by omega) (by omega) aI ⟨rfl, rfl, trivial⟩ (zM _)
  · repeat' (first
| refine wO ?_
| (refine o_go rfl ?_; (first
| refine wS ?_); refine ⟨_, aA, ?_⟩)
| (refine zK rfl (fun hc => ?_) (fun hc => ?_) <;> try (exfalso; omega))
| refine kr1 ?_
| refine krS rfl ?_
| refine wE ?_)
    all_goals try (exfalso; omega)
    rw [List.take_of_length_le (by simp [prsL]; omega)]; rfl
theorem sval_c (n : Nat) (ops : List OpD) (o : Nat) (args : List Int) (hn : n ≤ 8) (hl : ops.length ≤ 1048576) (ho : o < ops.length) (ha : args.length ≤ 3) (hin : ∀ x ∈ args, 0 ≤ x ∧ x < (n : Int)) (ht : (ops.getD o default).tb.length = n ^ args.length) :
    PCalls Tryz.prog 190 [algP n ops, I (o : Int), ints args] (I ((ops.getD o default).tb.getD (idxL n args).toNat 0)) := by
  refine pcalls1 Tryz.func190 rfl Tryz.ntmps190 rfl ?_
  refine wF ?_
  repeat' (first
| refine wO ?_
| (refine o_go rfl ?_; (first
| refine wS ?_
| refine p_p (ps_box rfl rfl) ?_); refine ⟨_, aA, ?_⟩))
  refine g_loopT (α := Nat) (fun j => [(7, I (idxL n (args.take j))), (8, I (j : Int))]) (fun _ => []) (fun j => j ≤ args.length) (fun j => args.length - j) 0 aF (Nat.zero_le _) ⟨rfl, rfl, trivial⟩ rfl ?_
  rintro j hj
  dsimp only [zZ, List.set_cons_zero, List.set_cons_succ]
  have hb := idxL_le (n := n) (l := args.take j) (by omega) (by rw [List.length_take]; omega) (fun x hx => hin x (List.mem_of_mem_take hx))
  by_cases hjl : j < args.length
  · have hx := hin _ (getD_at hjl)
    have hm := mul_bound (n := (n : Int)) hb.1 hb.2 (by omega) (by omega) rfl (N := 0) rfl
    have hsuc : idxL n (args.take (j + 1)) = idxL n (args.take j) * n + args.getD j 0 := by rw [take_snoc 0 hjl, idxL_snoc]
    generalize idxL n (args.take j) = q at *
    repeat' (first
| refine wO ?_
| refine zP (by kernel_rfl) (by kernel_rfl) ?_
| (refine o_go rfl ?_; (first
| refine p_p (ps_mul rfl rfl rfl (by omega)) ?_
| refine wS ?_
| refine p_p (zN rfl rfl rfl (by omega) aP (by exact rfl)) ?_); refine ⟨_, aA, ?_⟩)
| (refine zK rfl (fun hc => ?_) (fun hc => ?_) <;> try (exfalso; omega))
| refine wE ?_)
    all_goals try (exfalso; omega)
    exact zT (j + 1) (by omega) (by omega) aI ⟨vI hsuc.symm, rfl, trivial⟩ (zM _)
  · have hje : args.take j = args := List.take_of_length_le (by omega)
    rw [hje] at hb ⊢
    have hq := opsK_at ho
    have hrb := idxL_bound _ hin
    rw [← ht] at hrb
    have hix : ((ops.getD o default).tb.map I)[(idxL n args).toNat]? = some (I ((ops.getD o default).tb.getD (idxL n args).toNat 0)) := idx_I (by omega)
    repeat' (first
| refine wO ?_
| (refine o_go rfl ?_; (first
| refine p_p (zN rfl rfl rfl (by omega) hq (by exact rfl)) ?_
| refine p_p (zN rfl rfl rfl (by omega) hix (by exact rfl)) ?_
| refine wS ?_); refine ⟨_, aA, ?_⟩)
| (refine zK rfl (fun hc => ?_) (fun hc => ?_) <;> try (exfalso; omega))
| refine kr1 ?_
| refine krI rfl ?_
| refine wE ?_)
    all_goals first | rfl | (exfalso; omega)
end Go.Proofs.YtnjocjfhaahmfaaGreat
/- The layer: structs with owned rows in drawn regions. -/
namespace Go.Pv
open Go
attribute [local semireducible] Go.Pv.Goal Go.Pv.Ops Go.Pv.PStep Go.Pv.EStep Go.Pv.KRets Go.Pv.PCalls Go.Pv.OpsG Go.Pv.RCalls
section
variable {P : Program} {o : Oper} {ev : Operand → PV} {hp : List HO}
theorem j_make {t e : TypeId} {s by_ : Nat} {zs : List Value} [ht : MkT P t e s by_ zs] {x y : Operand} {n : Int} {zp : PV} (ho : o.op = .makeSlice t x y) (h1 : ev x = I n) (h2 : ev y = I n) (h0 : 0 ≤ n) (hb : n * by_ ≤ 140737488355328) (hn : n ≤ 9223372036854775807)
    (hs : 0 < s) (hz : zp.flat = some (zs.map .val)) (hzs : zs.length = s) : JStep P o ev hp (some hp.length) (killH hp.length hp ++ [.arr true s e (List.replicate n.toNat zp)]) (.hp hp.length) := fun fr hfr =>
  e_make (S := ⟨fr, hp⟩) (ht := ht) ho ((hfr x (by simp [ho, Op.operands])).trans h1) ((hfr y (by simp [ho, Op.operands])).trans h2) h0 hb hn hs hz hzs
theorem j_lit1S {t e : TypeId} {by_ : Nat} [ht : SlT P t e 2 by_] {zs : List Value} [hz : ZeroT P e zs] {x : Operand} {k : Nat} {e2 : TypeId} {z0 : Value} {l : List PV} (ho : o.op = .buildSlice t 1 #[(0, x)]) (h2 : ev x = .agg [.val z0, .hp k]) (hk : hp[k]? = some (.arr true 1 e2 l)) (hone : l.all PV.one = true) (hu1 : (PV.val z0).one = true) :
    JStep P o ev hp (some hp.length) (killH hp.length (hp.set k .gone) ++ [.sg e e2 0 [.val z0 :: l]]) (.hp hp.length) := fun fr hfr =>
  e_lit1S (S := ⟨fr, hp⟩) (ht := ht) ho ((hfr x (by simp [ho, Op.operands])).trans h2) hk hone hu1
theorem j_append_sg {t e : TypeId} {by_ : Nat} {z0 z1 : Value} [ht : MkT P t e 2 by_ [z0, z1]] {x y : Operand} {tys : Array TypeId} {id k : Nat} {e' e2 : TypeId} {rows rows2 : List (List PV)} (ho : o.op = .call { callee := .builtin .append, args := #[x, y], argTypes := tys })
    (htys : tys = #[t, t]) (h1 : ev x = .hp id) (hh : hp[id]? = some (.sg e e2 0 rows)) (h2 : ev y = .hp k) (hk : hp[k]? = some (.sg e' e2 0 rows2)) (hne : (k == id) = false)
    (hb : (rows.length + rows2.length) * by_ ≤ 140737488355328) (hm : rows.length + rows2.length ≤ 9223372036854775807) : JStep P o ev hp (some id) ((killH id (hp.set k .gone)).set id (.sg e e2 0 (rows ++ rows2))) (.hp id) := fun fr hfr =>
  e_append_sg (S := ⟨fr, hp⟩) (ht := ht) ho htys ((hfr x (by simp [ho, Op.operands, Call.operands])).trans h1) hh ((hfr y (by simp [ho, Op.operands, Call.operands])).trans h2) hk hne hb hm
theorem j_appendRowS {t e : TypeId} {by_ : Nat} {z0 : Value} [ht : MkT P t e 1 by_ [z0]] {x y : Operand} {tys : Array TypeId} {id i : Nat} {e1 e2 : TypeId} {rows : List (List PV)} {h0 : PV} {r l2 : List PV} {nn : Option Bool} (ho : o.op = .call { callee := .builtin .append, args := #[x, y], argTypes := tys })
    (htys : tys = #[t, t]) (h1 : ev x = .gr id i) (hh : hp[id]? = some (.sg e1 e2 0 rows)) (he : e2 = e) (hr : rows[i]? = some (h0 :: r)) (h2 : view hp (ev y) = .sl 1 nn l2) (hone : ∀ p ∈ l2, p.one = true)
    (hb : (r.length + l2.length) * by_ ≤ 140737488355328) (hm : r.length + l2.length ≤ 9223372036854775807) : JStep P o ev hp none (hp.set id (.arr true 2 e1 (rows.map sgP))) (slR (r ++ l2)) := fun fr hfr =>
  e_appendRowS (S := ⟨fr, hp⟩) (ht := ht) ho htys ((hfr x (by simp [ho, Op.operands, Call.operands])).trans h1) hh he hr (by rw [show (St.mk fr hp).ev y = ev y from hfr y (by simp [ho, Op.operands, Call.operands])]; exact h2) hone hb hm
theorem j_store_sg0 {t : TypeId} [ht : CellT P t] {x v : Operand} {id i k : Nat} {e1 e2 : TypeId} {n : Nat} {rows : List (List PV)} {r : List PV} {h0 p : PV} (ho : o.op = .store t x v) (hd : o.dst = none) (h1 : ev x = .hat id k) (hh : hp[id]? = some (.sg e1 e2 n rows))
    (hk : k = i * 2) (hr : rows[i]? = some (h0 :: r)) (h2 : view hp (ev v) = p) (hp1 : p.one = true) : JStep P o ev hp none (hp.set id (.sg e1 e2 n (rows.set i (p :: r)))) .any :=
  j_store ho hd fun fr e1 e2 => e_store_sg0 (S := ⟨fr, hp⟩) ho hd (e1.trans h1) hh hk hr (by rw [e2]; exact h2) hp1
theorem j_store_sgr {t : TypeId} [ht : CellT P t] {x v : Operand} {id i j n : Nat} {e1 e2 : TypeId} {rows : List (List PV)} {h0 : PV} {r : List PV} {p : PV} (ho : o.op = .store t x v) (hd : o.dst = none) (h1 : ev x = .gat id i j) (hh : hp[id]? = some (.sg e1 e2 n rows))
    (hr : rows[i]? = some (h0 :: r)) (hj : j < r.length) (h2 : view hp (ev v) = p) (hp1 : p.one = true) : JStep P o ev hp none (hp.set id (.sg e1 e2 n (rows.set i (h0 :: r.set j p)))) .any :=
  j_store ho hd fun fr e1 e2 => e_store_sgr (S := ⟨fr, hp⟩) ho hd (e1.trans h1) hh hr hj (by rw [e2]; exact h2) hp1
theorem j_store_arrF {t : TypeId} [ht : CellT P t] {s : Nat} {x v : Operand} {id i j k : Nat} {e : TypeId} {l c : List PV} {p p' : PV} (ho : o.op = .store t x v) (hd : o.dst = none) (h1 : ev x = .hat id k) (hh : hp[id]? = some (.arr true s e l)) (hk : k = i * s + j) (hl : l[i]? = some (.agg c)) (hj : j < c.length)
    (h2 : view hp (ev v) = p) (hp1 : p.one = true) (hp' : p' = .agg (c.set j p)) : JStep P o ev hp none (hp.set id (.arr true s e (l.set i p'))) .any :=
  j_store ho hd fun fr e1 e2 => e_store_arrF (S := ⟨fr, hp⟩) ho hd (e1.trans h1) hh hk hl hj (by rw [e2]; exact h2) hp1 hp'
end
end Go.Pv
/- Walks: the program's clones, whole. -/
namespace Go.Proofs.YtnjocjfhaahmfaaGreat
open Go Go.Pv Go.Proofs
theorem entOk.small {n size : Nat} (hn : n ≤ 8) {E : List Ent} (h : ∀ c ∈ E, entOk n size c) : smallE E := fun c hc x hx => by
  have := (h c hc).2 x hx
  omega
end Go.Proofs.YtnjocjfhaahmfaaGreat
/- Walks: the ternary term functions of a small algebra, on both sides, with what is known of them. -/
namespace Go.Proofs.YtnjocjfhaahmfaaGreat
open Go Go.Pv Go.Proofs
structure CT (n : Nat) (ops : List OpD) (T : List (List Int)) : Prop where
  n0 : 0 < n
  n3 : n ≤ 3
  ops4 : ops.length ≤ 4
  op : ∀ f ∈ ops, opOk n f = true
  len0 : 0 < T.length
  len : T.length ≤ 60
  row : ∀ t ∈ T, t.length = n ^ 3 ∧ ∀ x ∈ t, 0 ≤ x ∧ x < (n : Int)
  nd : T.Nodup
  prj : ∀ p, p < 3 → prjL n 3 p ∈ T
  clo : closedT n (n ^ 3) ops T T.length
theorem CT.lenOk {n : Nat} {ops : List OpD} {T : List (List Int)} (h : CT n ops T) : lenOk T := ⟨by have := h.len; omega, fun t ht => by
  have h27 : n ^ 3 ≤ 27 := Nat.pow_le_pow_left h.n3 3
  rw [(h.row t ht).1]; omega⟩
end Go.Proofs.YtnjocjfhaahmfaaGreat
