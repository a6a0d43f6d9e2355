/- Plain: translated pairs, Mal'cev chains, the shortest way between two elements. -/
import Derived.Test.YtkdagmbgjddopaaJKb
import Derived.Test.YtkdagmbgjddopaaJPr
import Derived.Test.YtkdagmbgjddopaaJTy
import Derived.Test.YtkdagmbgjddopaaJPq
import Derived.Test.YtkdagmbgjddopaaJGc
import Derived.Test.YtkdagmbgjddopaaJMv
namespace Go.Proofs.Ytkdagmbgjddopaa
open Go Go.Pv Go.Proofs

inductive TrP (n : Nat) (ops : List OpD) (x y : Nat) : Nat → Nat → Prop
  | base : TrP n ops x y x y
  | sym {s t : Nat} (h : TrP n ops x y s t) : TrP n ops x y t s
  | step {s t : Nat} (h : TrP n ops x y s t) (f : OpD) (hf : f ∈ ops) (i : Nat) (hi : i < n ^ f.ar.toNat) (j : Nat) (hj : j < f.ar.toNat) (hd : digN n i j = s) : TrP n ops x y (bk f.tb i) (bk f.tb (subN n i j t))
theorem TrP.lt {n : Nat} {ops : List OpD} (ho : opsIn n ops) {x y : Nat} (hx : x < n) (hy : y < n) {s t : Nat} (h : TrP n ops x y s t) : s < n ∧ t < n := by
  induction h with
  | base => exact ⟨hx, hy⟩
  | sym _ ih => exact ⟨ih.2, ih.1⟩
  | step _ f hf i hi j hj _ ih =>
    have h := (ho f hf).2.2.2
    exact ⟨(h i hi).2, (h _ (sub_lt hi hj ih.2)).2⟩
inductive Cn (lk : Nat → Nat → Prop) (u : Nat) : Nat → Prop
  | refl : Cn lk u u
  | step {w z : Nat} (h : Cn lk u w) (hl : lk w z) : Cn lk u z
theorem Cn.trans {lk : Nat → Nat → Prop} {u v w : Nat} (h : Cn lk u v) (g : Cn lk v w) : Cn lk u w := by
  induction g with
  | refl => exact h
  | step _ hl ih => exact .step ih hl
theorem Cn.symm {lk : Nat → Nat → Prop} (hs : ∀ a b, lk a b → lk b a) {u v : Nat} (h : Cn lk u v) : Cn lk v u := by
  induction h with
  | refl => exact .refl
  | step _ hl ih => exact (Cn.step .refl (hs _ _ hl)).trans ih
/-! ### Breadth first -/
section
variable (lk : Nat → Nat → Bool) (n v : Nat)
abbrev BSt := List Nat × List Int
def BLe (a b : BSt) : Prop := (∃ l, b.1 = a.1 ++ l) ∧ ∀ s, 0 ≤ a.2.getD s 0 → s < n → b.2.getD s 0 = a.2.getD s 0
variable {lk n v}
theorem BLe.refl (a : BSt) : BLe n a a := ⟨⟨[], (List.append_nil _).symm⟩, fun _ _ _ => rfl⟩
theorem BLe.trans {a b c : BSt} (h : BLe n a b) (g : BLe n b c) : BLe n a c := by
  obtain ⟨⟨l, h1⟩, h2⟩ := h
  obtain ⟨⟨m, g1⟩, g2⟩ := g
  exact ⟨⟨l ++ m, by rw [g1, h1, List.append_assoc]⟩, fun s hs hn => by rw [g2 s (by rw [h2 s hs hn]; exact hs) hn, h2 s hs hn]⟩
theorem nodup_lt_len : ∀ {l : List Nat} {n : Nat}, l.Nodup → (∀ s ∈ l, s < n) → l.length ≤ n := fun {l n} hd h => by
  have := len_le_sub hd (m := List.range n) fun a ha => List.mem_range.2 (h a ha)
  simpa using this
end
end Go.Proofs.Ytkdagmbgjddopaa
/- Plain: lists that are partitions; translated pairs in order. -/
namespace Go.Proofs.Ytkdagmbgjddopaa
open Go Go.Pv Go.Proofs

def ptX (p : List Int) (x : Nat) : Bool := decide (0 ≤ p.getD x 0) && (decide (p.getD x 0 ≤ (x : Int)) && decide (p.getD (p.getD x 0).toNat 0 = p.getD x 0))
def ptB (n : Nat) (p : List Int) : Bool := decide (p.length = n) && (List.range n).all (ptX p)
theorem ptX_iff {p : List Int} {x : Nat} : ptX p x = true ↔ 0 ≤ p.getD x 0 ∧ p.getD x 0 ≤ (x : Int) ∧ p.getD (p.getD x 0).toNat 0 = p.getD x 0 := by
  unfold ptX; simp only [Bool.and_eq_true, decide_eq_true_eq]
theorem ptB_iff {n : Nat} {p : List Int} : ptB n p = true ↔ Pt n p := by
  unfold ptB
  rw [Bool.and_eq_true, decide_eq_true_iff, List.all_eq_true]
  constructor
  · rintro ⟨h1, h2⟩
    have h := fun x (hx : x < n) => ptX_iff.1 (h2 x (List.mem_range.2 hx))
    refine ⟨h1, fun x hx => (h x hx).1, fun x hx => ?_, fun x hx => ?_⟩
    · have := h x hx; unfold bk; omega
    · have := (h x hx).2.2; unfold bk; rw [this]
  · intro h
    refine ⟨h.len, fun x hx => ptX_iff.2 ?_⟩
    have hx := List.mem_range.1 hx
    refine ⟨h.nn x hx, ?_, ?_⟩
    · have := h.le x hx; rw [h.val hx]; omega
    · have := h.id x hx
      rw [h.val hx, Int.toNat_natCast, h.val (h.lt hx), this]
end Go.Proofs.Ytkdagmbgjddopaa
/- Walks: the reference's posets, lattices and their laws' helpers. -/

namespace Go.Proofs.Ytkdagmbgjddopaa
open Go Go.Pv Go.Proofs
abbrev gridI (t : List (List Int)) : HO := .grid 29 3 (t.map fun r => r.map I)
theorem idx_gridI {t : List (List Int)} {i : Nat} (h : i < t.length) : (t.map fun r => r.map I)[i]? = some ((t.getD i []).map I) := by simp [h]
end Go.Proofs.Ytkdagmbgjddopaa
/- Walks: the reference's lattice maps, points and chains. -/
namespace Go.Proofs.Ytkdagmbgjddopaa
open Go Go.Pv Go.Proofs
set_option maxHeartbeats 32000000
set_option maxRecDepth 100000
attribute [local bitvec_to_nat] St.put St.setObj St.ev killP killA killP1 killH mapHO renP renA ren1 killG killGA killG1 krowP krowA krow1 lendP lendA lend1 unv pinP pin1 elemsM viewM viewN viewV n_set_z n_set_s n_map_c n_map_n getD_z getD_s n_toNat n_cond_t n_cond_f n_len_c n_len_n n_app_c n_app_n n_take_s n_take_z n_drop_s n_drop_z n_get_z n_get_s view viewA view1 elems Nat.zero_add Nat.add_zero Bool.not_true Bool.not_false Nat.one_ne_zero Nat.mul_one

theorem elems_c (n : Nat) (l : List Int) (hn : n ≤ 1048576) (hl : l.length ≤ 1048576) : PCalls Try.prog 31 [I (n : Int), ints l] (B (inSizeB l (n : Int))) := by
  refine pcalls1 Try.func31 rfl Try.ntmps31 rfl ?_
  simp only [List.length_cons, List.length_nil, Nat.reduceAdd, Nat.reduceSub, List.replicate_succ, List.replicate_zero, List.cons_append, List.nil_append]
  repeat' (first
| refine g_seq ?_
| refine zJ ?_
| refine zC ?_
| (refine o_go rfl ?_; (first
| refine p_p (zA rfl) ?_); refine ⟨_, aA, ?_⟩)
| refine o_nil ?_)
  refine g_loopT (α := Nat) (fun k => [(5, I (k : Int))]) (fun _ => []) (fun k => k ≤ l.length ∧ (l.take k).all (fun x => !(decide (x < 0) || decide ((n : Int) ≤ x))) = true) (fun k => l.length - k) 0 aH ⟨by omega, rfl⟩ ⟨rfl, trivial⟩ rfl ?_
  rintro k ⟨hk, hall⟩
  dsimp only [zZ, List.set_cons_zero, List.set_cons_succ]
  repeat' (first
| refine g_seq ?_
| refine zJ ?_
| refine zC ?_
| (refine o_go rfl ?_; (first
| refine p_p (zG rfl rfl aC (in_c _ _ _)) ?_
| refine p_p (zD rfl) ?_
| refine p_p (zA rfl) ?_
| refine p_p (zF rfl rfl) ?_
| refine p_p (zN rfl rfl rfl (by omega) aN (by exact rfl)) ?_
| refine p_p (zU rfl rfl rfl) ?_
| refine p_p (zS rfl rfl rfl) ?_
| refine p_p (ps_add rfl rfl rfl aO) ?_
| refine p_p (ps_not rfl rfl) ?_
| refine p_p (ps_sub rfl rfl rfl aO) ?_); refine ⟨_, aA, ?_⟩)
| refine o_nil ?_
| (refine zK rfl (fun hc => ?_) (fun hc => ?_) <;> try (exfalso; omega))
| (refine g_condNB rfl (fun hc => ?_) (fun hc => ?_))
| refine kr1 ?_
| refine krB rfl ?_
| refine zR ?_
| refine g_exit ?_
| refine g_ret ?_)
  · refine Eq.symm (all_false_at (k := k) 0 (by omega) ?_)
    unfold inB at hc
    rw [← hc, Bool.eq_iff_iff]; simp; omega
  · refine zT (k + 1) ⟨by omega, ?_⟩ (by omega) aJ ⟨rfl, trivial⟩ (zM _)
    unfold inB at hc
    rw [take_snoc 0 (by omega), all_snoc, hall, Bool.true_and, ← hc, Bool.eq_iff_iff]; simp; omega
  · rw [(take_full hk hc).1] at hall
    exact hall.symm
theorem own_R (l : List Int) (hl : l.length ≤ 1048576) : RCalls Try.prog 59 [ints l] (.arr true 1 3 (l.map I)) (.hp 0) := by
  refine pcallsR1 Try.func59 rfl Try.ntmps59 rfl ?_
  simp only [List.length_cons, List.length_nil, Nat.reduceAdd, Nat.reduceSub, List.replicate_succ, List.replicate_zero, List.cons_append, List.nil_append]
  repeat' (first
| refine g_seq ?_
| refine zC ?_
| (refine o_go rfl ?_; (first
| refine p_p (zD rfl) ?_
| refine p_p (zA rfl) ?_
| refine p_e rfl (e_lit0 rfl (by decide)) ?_
| refine p_e rfl (e_append rfl rfl rfl rfl rfl rfl (by first | exact one_one rfl | exact one_map (fun _ => rfl) _) rfl aV aV) ?_); refine ⟨_, aA, ?_⟩)
| refine o_nil ?_
| refine krr 0 rfl (HandOut.arr rfl ?_ aS)
| refine g_ret ?_)
  rfl
end Go.Proofs.Ytkdagmbgjddopaa
/- Walks: the reference's clones. -/
namespace Go.Proofs.Ytkdagmbgjddopaa
open Go Go.Pv Go.Proofs
theorem idx_ints {T : List (List Int)} {i : Nat} (hi : i < T.length) : (T.map ints)[i]? = some (ints (T.getD i [])) := by
  rw [List.getElem?_map, List.getElem?_eq_getElem hi, List.getD_eq_getElem?_getD, List.getElem?_eq_getElem hi]; rfl
end Go.Proofs.Ytkdagmbgjddopaa
/- Walks: the reference's sorted lists of lists, lists of bits, prime filters. -/
namespace Go.Proofs.Ytkdagmbgjddopaa
open Go Go.Pv Go.Proofs
set_option maxHeartbeats 32000000
set_option maxRecDepth 100000
attribute [local bitvec_to_nat] St.put St.setObj St.ev killP killA killP1 killH mapHO renP renA ren1 killG killGA killG1 krowP krowA krow1 lendP lendA lend1 unv pinP pin1 elemsM viewM viewN viewV n_set_z n_set_s n_map_c n_map_n getD_z getD_s n_toNat n_cond_t n_cond_f n_len_c n_len_n n_app_c n_app_n n_take_s n_take_z n_drop_s n_drop_z n_get_z n_get_s view viewA view1 elems Nat.zero_add Nat.add_zero Bool.not_true Bool.not_false Nat.one_ne_zero Nat.mul_one

theorem less5_c (s t : List Int) (he : s.length = t.length) (hs : s.length ≤ 1048576) : PCalls Try.prog 104 [ints s, ints t] (B (decide (cmpX s t < 0))) := by
  refine pcalls1 Try.func104 rfl Try.ntmps104 rfl ?_
  simp only [List.length_cons, List.length_nil, Nat.reduceAdd, Nat.reduceSub, List.replicate_succ, List.replicate_zero, List.cons_append, List.nil_append]
  repeat' (first
| refine g_seq ?_
| refine zJ ?_
| refine zC ?_
| (refine o_go rfl ?_; (first
| refine p_p (zA rfl) ?_); refine ⟨_, aA, ?_⟩)
| refine o_nil ?_)
  refine g_loopT (α := Nat) (fun i => [(5, I (i : Int))]) (fun _ => []) (fun i => i ≤ s.length ∧ cmpX (s.drop i) (t.drop i) = cmpX s t) (fun i => s.length - i) 0 aH ⟨Nat.zero_le _, rfl⟩ ⟨rfl, trivial⟩ rfl ?_
  rintro i ⟨hi, hcm⟩
  dsimp only [zZ, List.set_cons_zero, List.set_cons_succ]
  by_cases hin : i < s.length
  · rw [drop_cons' 0 hin, drop_cons' 0 (show i < t.length by omega)] at hcm
    simp only [cmpX] at hcm
    repeat' (first
| refine g_seq ?_
| refine zJ ?_
| refine zC ?_
| refine zP (by kernel_rfl) (by kernel_rfl) ?_
| (refine o_go rfl ?_; (first
| refine p_p (zD rfl) ?_
| refine p_p (zA rfl) ?_
| refine p_p (zF rfl rfl) ?_
| refine p_p (zN rfl rfl rfl (by omega) aN (by exact rfl)) ?_
| refine p_p (zU rfl rfl rfl) ?_
| refine p_p (zS rfl rfl rfl) ?_
| refine p_p (ps_add rfl rfl rfl aO) ?_
| refine p_p (ps_neq rfl rfl rfl) ?_); refine ⟨_, aA, ?_⟩)
| refine o_nil ?_
| (refine g_condN rfl (fun hc => ?_) (fun hc => ?_) <;> try (exfalso; omega))
| (refine zK rfl (fun hc => ?_) (fun hc => ?_) <;> try (exfalso; omega))
| refine kr1 ?_
| refine krB rfl ?_
| refine zR ?_
| refine g_ret ?_)
    · rw [if_neg hc] at hcm
      rw [← hcm]
      by_cases h : s.getD i 0 < t.getD i 0
      · rw [if_pos h, decide_eq_true h]; rfl
      · rw [if_neg h, decide_eq_false h]; rfl
    · rw [if_pos hc] at hcm
      exact zT (i + 1) ⟨by omega, hcm⟩ (by omega) aJ ⟨rfl, trivial⟩ (zM _)
  · rw [List.drop_of_length_le (by omega), List.drop_of_length_le (by omega)] at hcm
    repeat' (first
| refine g_seq ?_
| refine zC ?_
| (refine o_go rfl ?_; (first
| refine p_p (zD rfl) ?_
| refine p_p (zA rfl) ?_
| refine p_p (zU rfl rfl rfl) ?_
| refine p_p (zS rfl rfl rfl) ?_); refine ⟨_, aA, ?_⟩)
| refine o_nil ?_
| (refine zK rfl (fun hc => ?_) (fun hc => ?_) <;> try (exfalso; omega))
| refine kr1 ?_
| refine krB rfl ?_
| refine g_exit ?_
| refine g_ret ?_)
    rw [← hcm]; rfl
end Go.Proofs.Ytkdagmbgjddopaa
