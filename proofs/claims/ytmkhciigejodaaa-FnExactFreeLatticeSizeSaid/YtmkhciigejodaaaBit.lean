/- Steps on the bits of numbers; arrays by value. -/
import Derived.Test.YtmkhciigejodaaaTy
import Derived.Laws.Shifts
import Derived.Laws.Small
import Derived.Laws.Bits64b
namespace Go.Pv
open Go

theorem bits_and_nat (a b : Nat) (ha : a < 9223372036854775808) (hb : b < 9223372036854775808) : bits .and .i64 (a : Int) (b : Int) = ((a &&& b : Nat) : Int) := by
  have hx : a &&& b < 2 ^ 63 := Nat.and_lt_two_pow _ (by omega)
  have h1 : (BitVec.ofInt 64 (a : Int)).toNat = a := by
    rw [BitVec.ofInt_natCast, BitVec.toNat_ofNat]; exact Nat.mod_eq_of_lt (by omega)
  have h2 : (BitVec.ofInt 64 (b : Int)).toNat = b := by
    rw [BitVec.ofInt_natCast, BitVec.toNat_ofNat]; exact Nat.mod_eq_of_lt (by omega)
  show IntKind.i64.wrap ((BitVec.ofInt 64 (a : Int) &&& BitVec.ofInt 64 (b : Int)).toNat : Int) = _
  rw [BitVec.toNat_and, h1, h2]
  exact IntWalk.i64_in _ (by constructor <;> omega)
theorem bits_or_nat (a b : Nat) (ha : a < 9223372036854775808) (hb : b < 9223372036854775808) : bits .or .i64 (a : Int) (b : Int) = ((a ||| b : Nat) : Int) := by
  have hx : a ||| b < 2 ^ 63 := Nat.or_lt_two_pow (by omega) (by omega)
  have h1 : (BitVec.ofInt 64 (a : Int)).toNat = a := by
    rw [BitVec.ofInt_natCast, BitVec.toNat_ofNat]; exact Nat.mod_eq_of_lt (by omega)
  have h2 : (BitVec.ofInt 64 (b : Int)).toNat = b := by
    rw [BitVec.ofInt_natCast, BitVec.toNat_ofNat]; exact Nat.mod_eq_of_lt (by omega)
  show IntKind.i64.wrap ((BitVec.ofInt 64 (a : Int) ||| BitVec.ofInt 64 (b : Int)).toNat : Int) = _
  rw [BitVec.toNat_or, h1, h2]
  exact IntWalk.i64_in _ (by constructor <;> omega)

class BoolT (P : Program) (t : TypeId) : Prop where
  hu : P.underlying t = some .bool
section
variable {P : Program} {o : Oper} {ev : Operand → PV} {hp : List HO}
theorem ps_and {t rt : TypeId} {x y : Operand} {a b : Nat} (ho : o.op = .binOp .and t x y rt) (h1 : ev x = I (a : Int)) (h2 : ev y = I (b : Int)) (ha : a < 9223372036854775808) (hb : b < 9223372036854775808) : PStep P o ev hp (I ((a &&& b : Nat) : Int)) :=
  ps_bin ho h1 h2 fun w => by rw [← bits_and_nat a b ha hb]; simp [go_sem]
theorem ps_and1 {t rt : TypeId} {x y : Operand} {a : Nat} (ho : o.op = .binOp .and t x y rt) (h1 : ev x = I (a : Int)) (h2 : ev y = I 1) (ha : a < 9223372036854775808) : PStep P o ev hp (I ((a &&& 1 : Nat) : Int)) :=
  ps_and (b := 1) ho h1 h2 ha (by omega)
theorem ps_or {t rt : TypeId} {x y : Operand} {a b : Nat} (ho : o.op = .binOp .or t x y rt) (h1 : ev x = I (a : Int)) (h2 : ev y = I (b : Int)) (ha : a < 9223372036854775808) (hb : b < 9223372036854775808) : PStep P o ev hp (I ((a ||| b : Nat) : Int)) :=
  ps_bin ho h1 h2 fun w => by rw [← bits_or_nat a b ha hb]; simp [go_sem]
theorem ps_shr {t rt : TypeId} {x y : Operand} {a b : Nat} (ho : o.op = .binOp .shr t x y rt) (h1 : ev x = I (a : Int)) (h2 : ev y = I (b : Int)) (hb : b ≤ 63) : PStep P o ev hp (I ((a >>> b : Nat) : Int)) :=
  ps_bin ho h1 h2 fun w => by
    have h := shift_shr .i64 .i64 (a : Int) (b : Int) (by omega) (by show (b : Int) ≤ (64 : Nat); omega)
    have e : (a : Int) / 2 ^ (b : Int).toNat = ((a >>> b : Nat) : Int) := by rw [Nat.shiftRight_eq_div_pow]; simp
    rw [← e]
    simp only [eqGuard_shr, binOp_shr, h, Sem.run_bind, run_pure, Result.andThen]
theorem ps_shl1 {t rt : TypeId} {x y : Operand} {b : Nat} (ho : o.op = .binOp .shl t x y rt) (h1 : ev x = I 1) (h2 : ev y = I (b : Int)) (hb : b ≤ 62) : PStep P o ev hp (I ((2 ^ b : Nat) : Int)) :=
  ps_bin ho h1 h2 fun w => by
    have h := shift_shl .i64 .i64 1 (b : Int) (by omega) (by show (b : Int) ≤ (64 : Nat); omega)
    have hp : (2 : Nat) ^ b ≤ 2 ^ 62 := Nat.pow_le_pow_right (by omega) hb
    have e : IntKind.i64.wrap (1 * 2 ^ (b : Int).toNat) = ((2 ^ b : Nat) : Int) := by
      have e1 : (1 : Int) * 2 ^ (b : Int).toNat = ((2 ^ b : Nat) : Int) := by simp
      rw [e1]
      generalize (2 : Nat) ^ b = z at hp
      exact IntWalk.i64_in _ (by constructor <;> omega)
    rw [← e]
    simp only [eqGuard_shl, binOp_shl, h, Sem.run_bind, run_pure, Result.andThen]
theorem ps_neqB {t rt : TypeId} [ht : BoolT P t] {x y : Operand} {a b : Bool} (ho : o.op = .binOp .neq t x y rt) (h1 : ev x = B a) (h2 : ev y = B b) : PStep P o ev hp (B (a != b)) :=
  ps_bin ho h1 h2 fun w => by
    have h := run_equal_bool (P := P) w t a b ht.hu
    simp [go_sem, binOp, h]; cases a <;> cases b <;> rfl
theorem ps_eqlB {t rt : TypeId} [ht : BoolT P t] {x y : Operand} {a b : Bool} (ho : o.op = .binOp .eql t x y rt) (h1 : ev x = B a) (h2 : ev y = B b) : PStep P o ev hp (B (a == b)) :=
  ps_bin ho h1 h2 fun w => by
    have h := run_equal_bool (P := P) w t a b ht.hu
    simp [go_sem, binOp, h]

theorem ps_buildArr {t e : TypeId} {n s : Nat} {zs : List Value} [ht : ArrT P t n e s] [hz : ZeroT P t zs] {parts : Array (Nat × Operand)} (ho : o.op = .build t parts) {l : List PV}
    (hl : afill (fun i => some (i * s, s)) (zs.map .val) (parts.toList.map fun p => (p.1, ev p.2)) = some l) : PStep P o ev hp (.agg l) :=
  .of_run fun w0 g ρ w av hb hx => by
    obtain ⟨z, hz1, hz2⟩ := hz.hz
    obtain ⟨arr, h1, h2, h3⟩ := fill_rel (g := g) (ρ := ρ) (hp := hp) (fun i => some (i * s, s)) _ (parts.toList.map fun p => (p.1, av p.2)) _ l z.cells hl (by simp) (fun k p v hp' hv => by
      simp only [List.getElem?_map, Option.map_eq_some_iff] at hp' hv
      obtain ⟨x, hx1, rfl⟩ := hp'
      obtain ⟨y, hy1, rfl⟩ := hv
      rw [hx1] at hy1
      cases hy1
      exact ⟨rfl, hx x.2 (by
        simp only [ho, Op.operands]
        exact List.mem_toArray.2 (List.mem_map.2 ⟨x, List.mem_of_getElem? hx1, rfl⟩))⟩) (by rw [← hz2]; simp) (fun k q hq => by
      simp only [List.getElem?_map, Option.map_eq_some_iff] at hq
      obtain ⟨u, hu1, rfl⟩ := hq
      have : z.cells.getD k undef = u := by
        rw [← hz2] at hu1
        simp only [Array.getElem?_toList] at hu1
        simp [Array.getD_eq_getD_getElem?, hu1]
      rw [this]; exact .of_VR (.val u))
    refine ⟨.agg arr, ?_, ⟨arr, rfl, h2, h3⟩⟩
    simp only [execOp, ho]
    refine run_value ?_
    have hpt : (parts.map fun (i, x) => (i, av x)).toList = parts.toList.map fun p => (p.1, av p.2) := by simp
    unfold Instr.build
    simp only [Sem.run_bind, run_underlying ht.hu, Result.andThen, hz1, run_pure, ht.hs, hpt, h1]
end
end Go.Pv
namespace Go.Proofs.Ytmkhciigejodaaa
open Go Go.Pv Go.Proofs
instance : BoolT Try.prog 4 := ⟨by kernel_rfl⟩
end Go.Proofs.Ytmkhciigejodaaa
