/- The number of monotone functions of up to four arguments, computed. No program here. -/
import Derived.Test.YtbfmjknngofleaaGreatKFls
namespace Go.Proofs.YtbfmjknngofleaaGreat

/-! ### The count, computed -/
def allR : Nat → (Nat → Bool) → Bool
  | 0, _ => true
  | k + 1, p => allR k p && p k
theorem allN_allR (n : Nat) (p : Nat → Bool) : allN n p = allR n p := by
  induction n with
  | zero => rfl
  | succ n ih => rw [allN_succ, ih, allR]
def okNat (f x b : Nat) : Bool := (!Nat.beq (x &&& b) 0) || Nat.ble (f >>> x &&& 1) (f >>> (x ||| b) &&& 1)
theorem okBit_nat (f x b : Nat) : okBit f x b = okNat f x b := by
  unfold okBit okNat
  have h1 : decide (((x &&& b : Nat) : Int) = 0) = Nat.beq (x &&& b) 0 := by
    rw [Bool.eq_iff_iff, decide_eq_true_eq, Nat.beq_eq]; omega
  have h2 : decide (((f >>> x &&& 1 : Nat) : Int) ≤ ((f >>> (x ||| b) &&& 1 : Nat) : Int)) = Nat.ble (f >>> x &&& 1) (f >>> (x ||| b) &&& 1) := by
    rw [Bool.eq_iff_iff, decide_eq_true_eq, Nat.ble_eq]; omega
  rw [h1, h2]
def fineR (n f : Nat) : Bool := allR (2 ^ n) fun x => allR n fun i => okNat f x (2 ^ i)
theorem fineB_R (n f : Nat) : fineB n f = fineR n f := by
  unfold fineB fineR okRow
  rw [allN_allR]
  congr 1
  funext x
  rw [allN_allR]
  congr 1
  funext i
  exact okBit_nat _ _ _
def lowR (f : Nat) : Bool := allR 8 fun x => allR 3 fun i => okNat f x (2 ^ i)
theorem allR_iff {n : Nat} {p : Nat → Bool} : allR n p = true ↔ ∀ k, k < n → p k = true := by rw [← allN_allR]; exact allN_iff
theorem bit_low (a b y : Nat) (hb : b < 2 ^ 8) (hy : y < 8) : (256 * a + b) >>> y &&& 1 = b >>> y &&& 1 := by
  have h := Nat.testBit_two_pow_mul_add a hb y
  rw [if_pos hy] at h
  have key : ∀ z : Nat, z >>> y &&& 1 = (z.testBit y).toNat := fun z => by rw [Nat.and_one_is_mod, Nat.shiftRight_eq_div_pow, Nat.toNat_testBit]
  rw [key, key, show 256 * a + b = 2 ^ 8 * a + b by rfl, h]
theorem fine_low {a b : Nat} (hb : b < 256) (h : fineR 4 (256 * a + b) = true) : lowR b = true := by
  unfold fineR at h
  unfold lowR
  rw [allR_iff] at h ⊢
  intro x hx
  have h1 := h x (by omega)
  rw [allR_iff] at h1 ⊢
  intro i hi
  have h2 := h1 i (by omega)
  unfold okNat at h2 ⊢
  have hp : (2 : Nat) ^ i < 2 ^ 3 := (Nat.pow_lt_pow_iff_right (by omega)).2 hi
  have ho : x ||| 2 ^ i < 8 := Nat.or_lt_two_pow (n := 3) (by omega) hp
  rw [bit_low a b x (by omega) hx, bit_low a b _ (by omega) ho] at h2
  exact h2
def lows : List Nat := [0, 128, 136, 160, 168, 170, 192, 200, 204, 224, 232, 234, 236, 238, 240, 248, 250, 252, 254, 255]
theorem low_list : (List.range 256).filter lowR = lows := by kernel_rfl
def cntR : Nat → Nat
  | 0 => 0
  | a + 1 => cntR a + (lows.filter fun b => fineR 4 (256 * a + b)).length
theorem cntB_R : ∀ a, cntB 4 (256 * a) = cntR a
  | 0 => rfl
  | a + 1 => by
    rw [cntR, ← cntB_R a, ← low_list, List.filter_filter]
    unfold cntB
    rw [show 256 * (a + 1) = 256 * a + 256 by omega, List.range_add, List.filter_append, List.length_append, List.filter_map, List.length_map]
    congr 2
    refine List.filter_congr fun b hb => ?_
    have hb := List.mem_range.1 hb
    simp only [Function.comp]
    rw [fineB_R]
    cases h : fineR 4 (256 * a + b) with
    | false => rfl
    | true => rw [fine_low hb h]; rfl
set_option maxRecDepth 100000 in
theorem cnt4 : cntB 4 65536 = 168 := by rw [show 65536 = 256 * 256 by rfl, cntB_R]; kernel_rfl
theorem cntB_list (n m : Nat) : cntB n m = ((List.range m).filter (fineR n)).length := by unfold cntB; rw [show fineB n = fineR n from funext (fineB_R n)]
theorem cnt3 : cntB 3 256 = 20 := by rw [cntB_list]; kernel_rfl
theorem cnt2 : cntB 2 16 = 6 := by rw [cntB_list]; kernel_rfl
theorem cnt1 : cntB 1 4 = 3 := by rw [cntB_list]; kernel_rfl
theorem cnt0 : cntB 0 2 = 2 := by rw [cntB_list]; kernel_rfl
def tab : List Int := [2, 3, 6, 20, 168]
theorem law_tab (n : Nat) (hn : n ≤ 4) : (((cntB n (2 ^ 2 ^ n) : Nat)) : Int) = tab.getD n 0 := by
  rcases n with _ | _ | _ | _ | _ | n
  · rw [show 2 ^ 2 ^ 0 = 2 by rfl, cnt0]; rfl
  · rw [show 2 ^ 2 ^ (0 + 1) = 4 by rfl, cnt1]; rfl
  · rw [show 2 ^ 2 ^ (0 + 1 + 1) = 16 by rfl, cnt2]; rfl
  · rw [show 2 ^ 2 ^ (0 + 1 + 1 + 1) = 256 by rfl, cnt3]; rfl
  · rw [show 2 ^ 2 ^ (0 + 1 + 1 + 1 + 1) = 65536 by rfl, cnt4]; rfl
  · omega
end Go.Proofs.YtbfmjknngofleaaGreat
