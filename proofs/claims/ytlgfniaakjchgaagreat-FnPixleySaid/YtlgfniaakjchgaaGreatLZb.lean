/- The layer, more: branches that meet again. -/
import Derived.WalkKit
import Derived.Test.YtlgfniaakjchgaaGreatLZa
import Derived.Test.YtlgfniaakjchgaaGreatLTy
import Derived.Test.YtlgfniaakjchgaaGreatLPq
namespace Go.Pv
open Go
attribute [local semireducible] Go.Pv.Goal
section
variable {P : Program} {K : Exit → St → Prop} {S : St}
def KJoin (S1 : St) (K : Exit → St → Prop) : Exit → St → Prop
  | .normal, S => S.le S1
  | e, S => K e S
theorem g_joinS {x y : Code} (S1 : St) (hx : Goal P x (KJoin S1 K) S) (hy : Goal P y K S1) : Goal P (x.seq y) K S := by
  refine g_seq ?_
  unfold Goal at hx ⊢
  intro w0 g ρ a w Q hr hQ
  refine hx w0 g ρ a w Q hr fun e S' g' ρ' a' w' hk hr' => ?_
  cases e with
  | normal => exact hQ .normal S1 g' ρ' a' w' hy (hr'.weaken hk)
  | _ => exact hQ _ S' g' ρ' a' w' hk hr'
theorem g_join {x y : Code} (fg : List Nat) (vals : List (Nat × PV)) (hps : List HO) {fr0 : List PV} (hfr : havoc (fg ++ dsts x) S.fr = fr0) (hx : Goal P x (KJoin ⟨zZ fr0 vals, hps⟩ K) S) (hy : ∃ S1, St.mk (zZ fr0 vals) hps = S1 ∧ Goal P y K S1) : Goal P (x.seq y) K S := by
  obtain ⟨S1, rfl, hy⟩ := hy
  exact g_joinS _ hx hy
theorem at_reg {x y : Code} {ops : Array Oper} {dr : Bool} (id : Nat) (h : Goal P (((Code.region id ops dr).seq x).seq y) K S) : Goal P (((Code.region id ops dr).seq x).seq y) K S := h
end
end Go.Pv
/- The plain laws of posets, lattices and points, and the values of the rows; the first walks. -/
namespace Go.Proofs.YtlgfniaakjchgaaGreat

theorem take_snoc {α : Type} {l : List α} {k : Nat} (d : α) (h : k < l.length) : l.take (k + 1) = l.take k ++ [l.getD k d] := by
  rw [List.take_succ_eq_append_getElem h]; simp [h]
theorem all_snoc {α : Type} (l : List α) (x : α) (p : α → Bool) : (l ++ [x]).all p = (l.all p && p x) := by simp
theorem any_snoc {α : Type} (l : List α) (x : α) (p : α → Bool) : (l ++ [x]).any p = (l.any p || p x) := by simp
theorem take_full {α : Type} {l : List α} {k : Nat} (h1 : k ≤ l.length) (h2 : ¬ (k : Int) < (l.length : Int)) : l.take k = l ∧ k = l.length := by
  have : k = l.length := by omega
  subst this; exact ⟨List.take_length, rfl⟩
theorem all_false_at {α : Type} {l : List α} {k : Nat} {p : α → Bool} (d : α) (h : k < l.length) (hp : p (l.getD k d) = false) : l.all p = false := by
  rw [List.all_eq_false]
  refine ⟨l.getD k d, ?_, by simpa using hp⟩
  simp [h]
def allN (n : Nat) (p : Nat → Bool) : Bool := (List.range n).all p
def inB (x a b : Int) : Bool := decide (a ≤ x) && decide (x ≤ b)
def risB (l : List Int) (lo hi : Int) : Bool := allN l.length fun i => inB (l.getD i 0) lo hi && (i == 0 || decide (l.getD (i - 1) 0 < l.getD i 0))
def withinB (x y : List Int) : Bool := x.all fun a => y.contains a

theorem eq_at {α : Type} {l m : List α} {k : Nat} (d : α) (h : l.getD k d ≠ m.getD k d) : ¬ l = m := fun e => h (by rw [e])

def okP (rows : List (List Int)) : Prop := rows.length ≤ 1048576 ∧ ∀ r ∈ rows, r.length ≤ 1048576
theorem okP.row {rows : List (List Int)} (h : okP rows) (j : Nat) : (rows.getD j []).length ≤ 1048576 := by
  rw [List.getD_eq_getElem?_getD]
  cases hj : rows[j]? with
  | none => simp
  | some r => exact h.2 r (List.mem_of_getElem? hj)

def leqB (rows : List (List Int)) (x y : Int) : Bool := (rows.getD y.toNat []).contains x
def isB (rows : List (List Int)) (x : Int) : Bool := decide (0 ≤ x) && decide (x < (rows.length : Int))
def upTo (n : Nat) (p : Nat → Bool) : List Int := ((List.range n).filter p).map Int.ofNat
def lowsB (rows : List (List Int)) (some : List Int) (n : Nat) : List Int := upTo n fun z => some.all fun s => leqB rows (z : Int) s
def boundL (rows : List (List Int)) (some : List Int) : Int := ((lowsB rows some rows.length).find? fun l => withinB (lowsB rows some rows.length) (rows.getD l.toNat [])).getD (-1)
def dualL (rows : List (List Int)) : List (List Int) := (List.range rows.length).map fun (x : Nat) => upTo rows.length fun y => leqB rows (x : Int) (y : Int)
def good1 (rows : List (List Int)) (x : Nat) : Bool := risB (rows.getD x []) 0 ((rows.length : Int) - 1) && (rows.getD x []).contains (x : Int)
def good2 (rows : List (List Int)) (x : Nat) : Bool := (rows.getD x []).all fun y => !(!decide (y = (x : Int)) && (rows.getD y.toNat []).contains (x : Int)) && withinB (rows.getD y.toNat []) (rows.getD x [])
def goodP (rows : List (List Int)) : Bool := decide (rows.length ≤ 10) && (allN rows.length (good1 rows) && allN rows.length (good2 rows))

end Go.Proofs.YtlgfniaakjchgaaGreat

namespace Go.Proofs.YtlgfniaakjchgaaGreat
def pairOk (rows : List (List Int)) (x y : Nat) : Bool := !decide (boundL rows [(x : Int), (y : Int)] < 0) && !decide (boundL (dualL rows) [(x : Int), (y : Int)] < 0)
def goodL (rows : List (List Int)) : Bool := goodP rows && (!decide (rows.length = 0) && allN rows.length fun x => allN x fun y => pairOk rows x y)
end Go.Proofs.YtlgfniaakjchgaaGreat

namespace Go.Proofs.YtlgfniaakjchgaaGreat
open Go Go.Pv Go.Proofs
set_option maxHeartbeats 32000000
set_option maxRecDepth 100000
attribute [local bitvec_to_nat] St.put St.setObj St.ev killP killA killP1 killH mapHO renP renA ren1 killG killGA killG1 krowP krowA krow1 lendP lendA lend1 unv pinP pin1 elemsM viewM viewN viewV n_set_z n_set_s n_map_c n_map_n getD_z getD_s n_toNat n_cond_t n_cond_f n_len_c n_len_n n_app_c n_app_n n_take_s n_take_z n_drop_s n_drop_z n_get_z n_get_s view viewA view1 elems Nat.zero_add Nat.add_zero Bool.not_true Bool.not_false Nat.one_ne_zero Nat.mul_one

theorem in_c (x a b : Int) : PCalls Tryz.prog 93 [I x, I a, I b] (B (inB x a b)) := by
  refine pcalls1 Tryz.func93 rfl Tryz.ntmps93 rfl ?_
  simp only [List.length_cons, List.length_nil, Nat.reduceAdd, Nat.reduceSub, List.replicate_succ, List.replicate_zero, List.cons_append, List.nil_append]
  repeat' (first
| refine g_seq ?_
| refine zC ?_
| (refine o_go rfl ?_; (first
| refine p_p (zD rfl) ?_
| refine p_p (zA rfl) ?_
| refine p_p (zQ rfl rfl) ?_
| refine p_p (ps_leq rfl rfl rfl) ?_
| refine p_p (ps_geq rfl rfl rfl) ?_); refine ⟨_, aB, ?_⟩)
| refine o_nil ?_
| (refine o_s rfl ?_; refine ⟨_, aB, ?_⟩)
| (refine o_splitD rfl rfl rfl (fun hc => ?_) (fun hc => ?_) <;> first | (exfalso; omega) | dsimp only [List.set_cons_zero, List.set_cons_succ])
| refine kr1 ?_
| refine krB rfl ?_
| refine g_ret ?_)
  · unfold inB; rw [decide_eq_true hc]; rfl
  · unfold inB; rw [decide_eq_false hc]; rfl

def inSizeB (xs : List Int) (n : Int) : Bool := xs.all fun x => !(decide (x < 0) || decide (n ≤ x))
theorem inSize_c (xs : List Int) (n : Int) (hl : xs.length ≤ 1048576) : PCalls Tryz.prog 75 [ints xs, I n] (B (inSizeB xs n)) := by
  refine pcalls1 Tryz.func75 rfl Tryz.ntmps75 rfl ?_
  simp only [List.length_cons, List.length_nil, Nat.reduceAdd, Nat.reduceSub, List.replicate_succ, List.replicate_zero, List.cons_append, List.nil_append]
  repeat' (first
| refine g_seq ?_
| refine zJ ?_
| refine zC ?_
| (refine o_go rfl ?_; (first
| refine p_p (zD rfl) ?_
| refine p_p (zA rfl) ?_
| refine p_p (zU rfl rfl rfl) ?_); refine ⟨_, aB, ?_⟩)
| refine o_nil ?_)
  refine g_loopT (α := Nat) (fun k => [(9, I (k : Int))]) (fun _ => []) (fun k => k ≤ xs.length ∧ (xs.take k).all (fun x => !(decide (x < 0) || decide (n ≤ x))) = true) (fun k => xs.length - k) 0 aH ⟨by omega, rfl⟩ ⟨rfl, trivial⟩ rfl ?_
  rintro k ⟨hk, hall⟩
  dsimp only [zZ, List.set_cons_zero, List.set_cons_succ]
  repeat' (first
| refine g_seq ?_
| refine zJ ?_
| refine zC ?_
| (refine o_go rfl ?_; (first
| refine p_p (zD rfl) ?_
| refine p_p (zA rfl) ?_
| refine p_p (zF rfl rfl) ?_
| refine p_p (zN rfl rfl rfl (by omega) aR (by exact rfl)) ?_
| refine p_p (zS rfl rfl rfl) ?_
| refine p_p (ps_add rfl rfl rfl aN) ?_
| refine p_p (zQ rfl rfl) ?_
| refine p_p (ps_geq rfl rfl rfl) ?_); refine ⟨_, aB, ?_⟩)
| refine o_nil ?_
| (refine o_s rfl ?_; refine ⟨_, aB, ?_⟩)
| (refine o_splitD rfl rfl rfl (fun hc => ?_) (fun hc => ?_) <;> first | (exfalso; omega) | dsimp only [List.set_cons_zero, List.set_cons_succ])
| refine zX rfl ?_
| (refine zK rfl (fun hc => ?_) (fun hc => ?_) <;> try (exfalso; omega))
| refine kr1 ?_
| refine krB rfl ?_
| refine zR ?_
| refine g_exit ?_
| refine g_ret ?_)
  · exact Eq.symm (all_false_at (k := k) 0 (by omega) (by rw [decide_eq_true hc]; rfl))
  · exact Eq.symm (all_false_at (k := k) 0 (by omega) (by rw [decide_eq_true hc, Bool.or_true]; rfl))
  · rename_i h2
    refine zT (k + 1) ⟨by omega, ?_⟩ (by omega) aI ⟨rfl, trivial⟩ (zM _)
    rw [take_snoc 0 (by omega), all_snoc, hall, decide_eq_false h2, decide_eq_false hc]; rfl
  · rw [(take_full hk hc).1] at hall
    exact hall.symm
end Go.Proofs.YtlgfniaakjchgaaGreat

namespace Go.Proofs.YtlgfniaakjchgaaGreat
def two (rows : List (List Int)) (x y : Int) : Bool := goodL rows && isB rows x && isB rows y
end Go.Proofs.YtlgfniaakjchgaaGreat

namespace Go.Proofs.YtlgfniaakjchgaaGreat
def lessB (rows : List (List Int)) (x y : Int) : Bool := !decide (x = y) && leqB rows x y
def covP (rows : List (List Int)) (x y : Int) (z : Nat) : Bool := !(lessB rows x (z : Int) && lessB rows (z : Int) y)
def coversB (rows : List (List Int)) (x y : Int) : Bool := lessB rows x y && allN rows.length (covP rows x y)
end Go.Proofs.YtlgfniaakjchgaaGreat

namespace Go.Proofs.YtlgfniaakjchgaaGreat
def hN (rows : List (List Int)) (x : Int) : Nat := (List.range rows.length).countP fun (z : Nat) => lessB rows x (z : Int)
end Go.Proofs.YtlgfniaakjchgaaGreat

namespace Go.Proofs.YtlgfniaakjchgaaGreat

def irrB (rows : List (List Int)) (y : Nat) : Bool := decide (((upTo rows.length fun x => coversB rows (x : Int) (y : Int)).length : Int) = 1)
def irrL (rows : List (List Int)) : List Int := upTo rows.length (irrB rows)
def own (rows : List (List Int)) (i : Nat) : Int := (irrL rows).getD i 0
end Go.Proofs.YtlgfniaakjchgaaGreat
/- Walks: the reference's lattice maps, points and chains. -/

namespace Go.Proofs.YtlgfniaakjchgaaGreat
open Go Go.Pv Go.Proofs
set_option maxHeartbeats 32000000
set_option maxRecDepth 100000
attribute [local bitvec_to_nat] St.put St.setObj St.ev killP killA killP1 killH mapHO renP renA ren1 killG killGA killG1 krowP krowA krow1 lendP lendA lend1 unv pinP pin1 elemsM viewM viewN viewV n_set_z n_set_s n_map_c n_map_n getD_z getD_s n_toNat n_cond_t n_cond_f n_len_c n_len_n n_app_c n_app_n n_take_s n_take_z n_drop_s n_drop_z n_get_z n_get_s view viewA view1 elems Nat.zero_add Nat.add_zero Bool.not_true Bool.not_false Nat.one_ne_zero Nat.mul_one
theorem own_R (l : List Int) (hl : l.length ≤ 1048576) : RCalls Tryz.prog 69 [ints l] (.arr true 1 3 (l.map I)) (.hp 0) := by
  refine pcallsR1 Tryz.func69 rfl Tryz.ntmps69 rfl ?_
  simp only [List.length_cons, List.length_nil, Nat.reduceAdd, Nat.reduceSub, List.replicate_succ, List.replicate_zero, List.cons_append, List.nil_append]
  repeat' (first
| refine g_seq ?_
| refine zC ?_
| (refine o_go rfl ?_; (first
| refine p_p (zD rfl) ?_
| refine p_p (zA rfl) ?_
| refine p_e rfl (e_lit0 rfl (by decide)) ?_
| refine p_e rfl (e_append rfl rfl rfl rfl rfl rfl (by first | exact one_one rfl | exact one_map (fun _ => rfl) _) rfl aU aU) ?_); refine ⟨_, aB, ?_⟩)
| refine o_nil ?_
| refine krr 0 rfl (HandOut.arr rfl ?_ aL)
| refine g_ret ?_)
  rfl
end Go.Proofs.YtlgfniaakjchgaaGreat
