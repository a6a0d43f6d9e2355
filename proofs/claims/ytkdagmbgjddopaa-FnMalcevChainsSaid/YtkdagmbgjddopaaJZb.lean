/- The layer, more: branches that meet again. -/
import Derived.WalkKit
import Derived.Shelf.GgSortMore.Stable
import Derived.Test.YtkdagmbgjddopaaChecked
import Derived.Deep.Matrix
import Derived.Test.YtkdagmbgjddopaaJZa
import Derived.Test.YtkdagmbgjddopaaJTy
import Derived.Test.YtkdagmbgjddopaaJPr
namespace Go.Pv
open Go
attribute [local semireducible] Go.Pv.Goal
section
variable {P : Program} {K : Exit → St → Prop} {S : St}
theorem at_reg {x y : Code} {ops : Array Oper} {dr : Bool} (id : Nat) (h : Goal P (((Code.region id ops dr).seq x).seq y) K S) : Goal P (((Code.region id ops dr).seq x).seq y) K S := h
end
end Go.Pv
/- The plain laws of posets, lattices and points, and the values of the rows; the first walks. -/
namespace Go.Proofs.Ytkdagmbgjddopaa

theorem take_snoc {α : Type} {l : List α} {k : Nat} (d : α) (h : k < l.length) : l.take (k + 1) = l.take k ++ [l.getD k d] := by
  rw [List.take_succ_eq_append_getElem h]; simp [h]
theorem all_snoc {α : Type} (l : List α) (x : α) (p : α → Bool) : (l ++ [x]).all p = (l.all p && p x) := by simp
theorem take_full {α : Type} {l : List α} {k : Nat} (h1 : k ≤ l.length) (h2 : ¬ (k : Int) < (l.length : Int)) : l.take k = l ∧ k = l.length := by
  have : k = l.length := by omega
  subst this; exact ⟨List.take_length, rfl⟩
theorem all_false_at {α : Type} {l : List α} {k : Nat} {p : α → Bool} (d : α) (h : k < l.length) (hp : p (l.getD k d) = false) : l.all p = false := by
  rw [List.all_eq_false]
  refine ⟨l.getD k d, ?_, by simpa using hp⟩
  simp [h]
def allN (n : Nat) (p : Nat → Bool) : Bool := (List.range n).all p
def inB (x a b : Int) : Bool := decide (a ≤ x) && decide (x ≤ b)
def risB (l : List Int) (lo hi : Int) : Bool := allN l.length fun i => inB (l.getD i 0) lo hi && (i == 0 || decide (l.getD (i - 1) 0 < l.getD i 0))
def withinB (x y : List Int) : Bool := x.all fun a => y.contains a

theorem drop_cons' {α : Type} {l : List α} {k : Nat} (d : α) (h : k < l.length) : l.drop k = l.getD k d :: l.drop (k + 1) := by
  rw [List.drop_eq_getElem_cons h]; simp [h]
theorem eq_at {α : Type} {l m : List α} {k : Nat} (d : α) (h : l.getD k d ≠ m.getD k d) : ¬ l = m := fun e => h (by rw [e])

def okP (rows : List (List Int)) : Prop := rows.length ≤ 1048576 ∧ ∀ r ∈ rows, r.length ≤ 1048576
theorem okP.row {rows : List (List Int)} (h : okP rows) (j : Nat) : (rows.getD j []).length ≤ 1048576 := by
  rw [List.getD_eq_getElem?_getD]
  cases hj : rows[j]? with
  | none => simp
  | some r => exact h.2 r (List.mem_of_getElem? hj)

def leqB (rows : List (List Int)) (x y : Int) : Bool := (rows.getD y.toNat []).contains x
def isB (rows : List (List Int)) (x : Int) : Bool := decide (0 ≤ x) && decide (x < (rows.length : Int))
def upTo (n : Nat) (p : Nat → Bool) : List Int := ((List.range n).filter p).map Int.ofNat
def lowsB (rows : List (List Int)) (some : List Int) (n : Nat) : List Int := upTo n fun z => some.all fun s => leqB rows (z : Int) s
def boundL (rows : List (List Int)) (some : List Int) : Int := ((lowsB rows some rows.length).find? fun l => withinB (lowsB rows some rows.length) (rows.getD l.toNat [])).getD (-1)
def dualL (rows : List (List Int)) : List (List Int) := (List.range rows.length).map fun (x : Nat) => upTo rows.length fun y => leqB rows (x : Int) (y : Int)
def good1 (rows : List (List Int)) (x : Nat) : Bool := risB (rows.getD x []) 0 ((rows.length : Int) - 1) && (rows.getD x []).contains (x : Int)
def good2 (rows : List (List Int)) (x : Nat) : Bool := (rows.getD x []).all fun y => !(!decide (y = (x : Int)) && (rows.getD y.toNat []).contains (x : Int)) && withinB (rows.getD y.toNat []) (rows.getD x [])
def goodP (rows : List (List Int)) : Bool := decide (rows.length ≤ 10) && (allN rows.length (good1 rows) && allN rows.length (good2 rows))

end Go.Proofs.Ytkdagmbgjddopaa

namespace Go.Proofs.Ytkdagmbgjddopaa
def pairOk (rows : List (List Int)) (x y : Nat) : Bool := !decide (boundL rows [(x : Int), (y : Int)] < 0) && !decide (boundL (dualL rows) [(x : Int), (y : Int)] < 0)
def goodL (rows : List (List Int)) : Bool := goodP rows && (!decide (rows.length = 0) && allN rows.length fun x => allN x fun y => pairOk rows x y)
end Go.Proofs.Ytkdagmbgjddopaa

namespace Go.Proofs.Ytkdagmbgjddopaa
open Go Go.Pv Go.Proofs
set_option maxHeartbeats 32000000
set_option maxRecDepth 100000
attribute [local bitvec_to_nat] St.put St.setObj St.ev killP killA killP1 killH mapHO renP renA ren1 killG killGA killG1 krowP krowA krow1 lendP lendA lend1 unv pinP pin1 elemsM viewM viewN viewV n_set_z n_set_s n_map_c n_map_n getD_z getD_s n_toNat n_cond_t n_cond_f n_len_c n_len_n n_app_c n_app_n n_take_s n_take_z n_drop_s n_drop_z n_get_z n_get_s view viewA view1 elems Nat.zero_add Nat.add_zero Bool.not_true Bool.not_false Nat.one_ne_zero Nat.mul_one

theorem in_c (x a b : Int) : PCalls Try.prog 34 [I x, I a, I b] (B (inB x a b)) := by
  refine pcalls1 Try.func34 rfl Try.ntmps34 rfl ?_
  simp only [List.length_cons, List.length_nil, Nat.reduceAdd, Nat.reduceSub, List.replicate_succ, List.replicate_zero, List.cons_append, List.nil_append]
  repeat' (first
| refine g_seq ?_
| refine g_region ?_
| (refine o_go rfl ?_; (first
| refine p_p (ps_move rfl) ?_
| refine p_p (ps_assign rfl) ?_
| refine p_p (ps_pick rfl rfl) ?_
| refine p_p (ps_leq rfl rfl rfl) ?_
| refine p_p (ps_geq rfl rfl rfl) ?_); refine ⟨_, aA, ?_⟩)
| refine o_nil ?_
| (refine o_s rfl ?_; refine ⟨_, aA, ?_⟩)
| (refine o_splitD rfl rfl rfl (fun hc => ?_) (fun hc => ?_) <;> first | (exfalso; omega) | dsimp only [List.set_cons_zero, List.set_cons_succ])
| refine kr1 ?_
| refine krB rfl ?_
| refine g_ret ?_)
  · unfold inB; rw [decide_eq_true hc]; rfl
  · unfold inB; rw [decide_eq_false hc]; rfl

def inSizeB (xs : List Int) (n : Int) : Bool := xs.all fun x => !(decide (x < 0) || decide (n ≤ x))
theorem inSize_c (xs : List Int) (n : Int) (hl : xs.length ≤ 1048576) : PCalls Try.prog 47 [ints xs, I n] (B (inSizeB xs n)) := by
  refine pcalls1 Try.func47 rfl Try.ntmps47 rfl ?_
  simp only [List.length_cons, List.length_nil, Nat.reduceAdd, Nat.reduceSub, List.replicate_succ, List.replicate_zero, List.cons_append, List.nil_append]
  repeat' (first
| refine g_seq ?_
| refine g_block ?_
| refine g_region ?_
| (refine o_go rfl ?_; (first
| refine p_p (ps_move rfl) ?_
| refine p_p (ps_assign rfl) ?_
| refine p_p (ps_lenM rfl rfl rfl) ?_); refine ⟨_, aA, ?_⟩)
| refine o_nil ?_)
  refine g_loopT (α := Nat) (fun k => [(9, I (k : Int))]) (fun _ => []) (fun k => k ≤ xs.length ∧ (xs.take k).all (fun x => !(decide (x < 0) || decide (n ≤ x))) = true) (fun k => xs.length - k) 0 aH ⟨by omega, rfl⟩ ⟨rfl, trivial⟩ rfl ?_
  rintro k ⟨hk, hall⟩
  dsimp only [setMany, List.set_cons_zero, List.set_cons_succ]
  repeat' (first
| refine g_seq ?_
| refine g_block ?_
| refine g_region ?_
| (refine o_go rfl ?_; (first
| refine p_p (ps_move rfl) ?_
| refine p_p (ps_assign rfl) ?_
| refine p_p (ps_load_cell rfl rfl) ?_
| refine p_p (ps_index rfl rfl rfl (by omega) aN (by exact rfl)) ?_
| refine p_p (ps_lss rfl rfl rfl) ?_
| refine p_p (ps_add rfl rfl rfl aM) ?_
| refine p_p (ps_pick rfl rfl) ?_
| refine p_p (ps_geq rfl rfl rfl) ?_); refine ⟨_, aA, ?_⟩)
| refine o_nil ?_
| (refine o_s rfl ?_; refine ⟨_, aA, ?_⟩)
| (refine o_splitD rfl rfl rfl (fun hc => ?_) (fun hc => ?_) <;> first | (exfalso; omega) | dsimp only [List.set_cons_zero, List.set_cons_succ])
| refine g_condT rfl ?_
| (refine g_condD rfl (fun hc => ?_) (fun hc => ?_) <;> try (exfalso; omega))
| refine kr1 ?_
| refine krB rfl ?_
| refine g_skip ?_
| refine g_exit ?_
| refine g_ret ?_)
  · exact Eq.symm (all_false_at (k := k) 0 (by omega) (by rw [decide_eq_true hc]; rfl))
  · exact Eq.symm (all_false_at (k := k) 0 (by omega) (by rw [decide_eq_true hc, Bool.or_true]; rfl))
  · rename_i h2
    refine k_round (k + 1) ⟨by omega, ?_⟩ (by omega) aI ⟨rfl, trivial⟩ (hpLe_nil _)
    rw [take_snoc 0 (by omega), all_snoc, hall, decide_eq_false h2, decide_eq_false hc]; rfl
  · rw [(take_full hk hc).1] at hall
    exact hall.symm
end Go.Proofs.Ytkdagmbgjddopaa

namespace Go.Proofs.Ytkdagmbgjddopaa

def marks (k : Int) (n : Nat) : List Int := (List.range n).map fun (i : Nat) => k + (i : Int)
end Go.Proofs.Ytkdagmbgjddopaa

namespace Go.Proofs.Ytkdagmbgjddopaa
def two (rows : List (List Int)) (x y : Int) : Bool := goodL rows && isB rows x && isB rows y
end Go.Proofs.Ytkdagmbgjddopaa

namespace Go.Proofs.Ytkdagmbgjddopaa
def lessB (rows : List (List Int)) (x y : Int) : Bool := !decide (x = y) && leqB rows x y
def covP (rows : List (List Int)) (x y : Int) (z : Nat) : Bool := !(lessB rows x (z : Int) && lessB rows (z : Int) y)
def coversB (rows : List (List Int)) (x y : Int) : Bool := lessB rows x y && allN rows.length (covP rows x y)
end Go.Proofs.Ytkdagmbgjddopaa

namespace Go.Proofs.Ytkdagmbgjddopaa
def hN (rows : List (List Int)) (x : Int) : Nat := (List.range rows.length).countP fun (z : Nat) => lessB rows x (z : Int)
end Go.Proofs.Ytkdagmbgjddopaa

namespace Go.Proofs.Ytkdagmbgjddopaa

def irrB (rows : List (List Int)) (y : Nat) : Bool := decide (((upTo rows.length fun x => coversB rows (x : Int) (y : Int)).length : Int) = 1)
def irrL (rows : List (List Int)) : List Int := upTo rows.length (irrB rows)
def own (rows : List (List Int)) (i : Nat) : Int := (irrL rows).getD i 0
end Go.Proofs.Ytkdagmbgjddopaa
/- The library's sort lies in this program: the numbers and the kit's list of facts. -/
namespace Go.Proofs.Ytkdagmbgjddopaa
open Go Go.Proofs Go.Shelf

def sl8_ren : Go.Shelf.Ren := ⟨fun | 8 => 99 | 13 => 106 | 14 => 107 | 16 => 109 | 15 => 108 | 29 => 120 | 30 => 121 | 42 => 122 | 49 => 123 | n => n, fun | 20 => 20 | 26 => 59 | 36 => 115 | 0 => 0 | 38 => 117 | 42 => 121 | 3 => 3 | 4 => 4 | 47 => 108 | 17 => 17 | 33 => 112 | 34 => 113 | 89 => 142 | 12 => 12 | 56 => 134 | 82 => 135 | 5 => 5 | 83 => 136 | 84 => 137 | 85 => 138 | 86 => 139 | 87 => 140 | n => n, fun  | n => n⟩
theorem sl8 : LaysGt.n8 Try.prog sl8_ren := {
  mixed := by kernel_rfl
  f8 := Try.func99.trans (congrArg some (by kernel_rfl))
  f13 := Try.func106.trans (congrArg some (by kernel_rfl))
  f14 := Try.func107.trans (congrArg some (by kernel_rfl))
  f15 := Try.func108.trans (congrArg some (by kernel_rfl))
  f16 := Try.func109.trans (congrArg some (by kernel_rfl))
  f29 := Try.func120.trans (congrArg some (by kernel_rfl))
  f30 := Try.func121.trans (congrArg some (by kernel_rfl))
  f42 := Try.func122.trans (congrArg some (by kernel_rfl))
  f49 := Try.func123.trans (congrArg some (by kernel_rfl))
  t0 := Try.underlying0
  a0 := Try.isAgg0
  z0 := Try.sizeOf0
  v0 := Try.zeroValue0
  i0 := by kernel_rfl
  t3 := Try.underlying3
  a3 := Try.isAgg3
  z3 := Try.sizeOf3
  v3 := Try.zeroValue3
  i3 := by kernel_rfl
  t4 := Try.underlying4
  a4 := Try.isAgg4
  z4 := Try.sizeOf4
  v4 := Try.zeroValue4
  i4 := by kernel_rfl
  t5 := Try.underlying5
  a5 := Try.isAgg5
  z5 := Try.sizeOf5
  v5 := Try.zeroValue5
  i5 := by kernel_rfl
  t12 := Try.underlying12
  a12 := Try.isAgg12
  z12 := Try.sizeOf12
  v12 := Try.zeroValue12
  i12 := by kernel_rfl
  t17 := Try.underlying17
  a17 := Try.isAgg17
  z17 := Try.sizeOf17
  v17 := Try.zeroValue17
  i17 := by kernel_rfl
  t20 := Try.underlying20
  a20 := Try.isAgg20
  z20 := Try.sizeOf20
  v20 := Try.zeroValue20
  i20 := by kernel_rfl
  t26 := Try.underlying59
  a26 := Try.isAgg59
  z26 := Try.sizeOf59
  v26 := Try.zeroValue59
  i26 := by kernel_rfl
  t33 := Try.underlying112
  a33 := Try.isAgg112
  z33 := Try.sizeOf112
  v33 := Try.zeroValue112
  i33 := by kernel_rfl
  t34 := Try.underlying113
  a34 := Try.isAgg113
  z34 := Try.sizeOf113
  v34 := Try.zeroValue113
  i34 := by kernel_rfl
  t36 := Try.underlying115
  a36 := Try.isAgg115
  z36 := Try.sizeOf115
  v36 := Try.zeroValue115
  i36 := by kernel_rfl
  t38 := Try.underlying117
  a38 := Try.isAgg117
  z38 := Try.sizeOf117
  v38 := Try.zeroValue117
  i38 := by kernel_rfl
  t42 := Try.underlying121
  a42 := Try.isAgg121
  z42 := Try.sizeOf121
  v42 := Try.zeroValue121
  i42 := by kernel_rfl
  t47 := Try.underlying108
  a47 := Try.isAgg108
  z47 := Try.sizeOf108
  v47 := Try.zeroValue108
  i47 := by kernel_rfl
  t56 := Try.underlying134
  a56 := Try.isAgg134
  z56 := Try.sizeOf134
  v56 := Try.zeroValue134
  i56 := by kernel_rfl
  t82 := Try.underlying135
  a82 := Try.isAgg135
  z82 := Try.sizeOf135
  v82 := Try.zeroValue135
  i82 := by kernel_rfl
  t83 := Try.underlying136
  a83 := Try.isAgg136
  z83 := Try.sizeOf136
  v83 := Try.zeroValue136
  i83 := by kernel_rfl
  t84 := Try.underlying137
  a84 := Try.isAgg137
  z84 := Try.sizeOf137
  v84 := Try.zeroValue137
  i84 := by kernel_rfl
  t85 := Try.underlying138
  a85 := Try.isAgg138
  z85 := Try.sizeOf138
  v85 := Try.zeroValue138
  i85 := by kernel_rfl
  t86 := Try.underlying139
  a86 := Try.isAgg139
  z86 := Try.sizeOf139
  v86 := Try.zeroValue139
  i86 := by kernel_rfl
  t87 := Try.underlying140
  a87 := Try.isAgg140
  z87 := Try.sizeOf140
  v87 := Try.zeroValue140
  i87 := by kernel_rfl
  t89 := Try.underlying142
  a89 := Try.isAgg142
  z89 := Try.sizeOf142
  v89 := Try.zeroValue142
  i89 := by kernel_rfl }
end Go.Proofs.Ytkdagmbgjddopaa
/- The layer: the bytes of a text. -/
namespace Go.Pv
open Go
attribute [local semireducible] Go.Pv.Goal Go.Pv.Ops Go.Pv.PStep Go.Pv.EStep Go.Pv.KRets Go.Pv.PCalls Go.Pv.OpsG
section
variable {P : Program} {o : Oper} {ev : Operand → PV} {hp : List HO}
abbrev strP (s : ByteArray) : PV := .val (.string s)
def byteAt (s : ByteArray) (i : Nat) : Int := match s[i]? with
  | some b => (b.toNat : Int)
  | none => 0
theorem ps_len_str {t : TypeId} {x : Operand} {s : ByteArray} {tys : Array TypeId} (hu : P.underlying t = some .string) (ho : o.op = .call { callee := .builtin .len, args := #[x], argTypes := tys }) (htys : tys = #[t]) (h1 : ev x = strP s) : PStep P o ev hp (I s.size) :=
  .of_run fun w0 g ρ w av hb hx => by
    subst htys
    have e1 := val_of (hx x (by simp [ho, Op.operands, Call.operands])) h1
    exact ⟨.int .i64 s.size, by simp [execOp, ho, resolve, invoke, builtin, Builtin.len_, e1, run_underlying hu, goInt, go_sem], .val _⟩
theorem ps_index_str {t : TypeId} {x ix : Operand} {s : ByteArray} {i : Int} (hu : P.underlying t = some .string) (ho : o.op = .index t x ix) (h1 : ev x = strP s) (h2 : ev ix = I i) (h0 : 0 ≤ i) (hq : i.toNat < s.size) : PStep P o ev hp (Y (byteAt s i.toNat)) :=
  .of_run fun w0 g ρ w av hb hx => by
    have e1 := val_of (hx x (by simp [ho, Op.operands])) h1
    have e2 := val_of (hx ix (by simp [ho, Op.operands])) h2
    have e3 : s[i.toNat]? = some s[i.toNat] := getElem?_pos s i.toNat hq
    refine ⟨.int .u8 (byteAt s i.toNat), ?_, .val _⟩
    unfold byteAt
    rw [e3]
    simp [execOp, ho, e1, e2, Instr.index, asIntOf, run_underlying hu, h0, e3, go_sem]
theorem ps_subY {t rt : TypeId} {x y : Operand} {a b : Int} (ho : o.op = .binOp .sub t x y rt) (h1 : ev x = Y a) (h2 : ev y = Y b) : PStep P o ev hp (Y (IntKind.u8.wrap (a - b))) := ps_bin ho h1 h2 fun w => by simp [go_sem]
end
end Go.Pv
/- What an argument reads as, by value: numbers, lists of numbers, rows of them, a struct of rows. -/
namespace Go.Pv
open Go Go.ChangeShapes Go.WideShapes Go.RowKit Go.Deep

def gW (W : World) : Ghost := fun b o => W.cell? ⟨b, o, none⟩
theorem gW_agree (W : World) : Agree (gW W) W := fun _ _ _ h => h
theorem cell_spot {w : World} {a : Addr} {v : Value} (h : w.cell? a = some v) : a.spot = none := by
  unfold World.cell? at h
  split at h
  · split at h
    · cases h
    · rename_i h'; simpa using h'
  · cases h
theorem addr_eq {a : Addr} (h : a.spot = none) : a = ⟨a.block, a.off, none⟩ := by cases a; simp_all
theorem add0 (a : Addr) : a.add 0 = a := by simp [Addr.add]

end Go.Pv
