/- The prime filters of a lattice are the sets above its join-prime elements. No program here. -/
import Derived.Test.YtbfmjknngofleaaGreatLSr
import Derived.Test.YtbfmjknngofleaaGreatLSt
namespace Go.Proofs.YtbfmjknngofleaaGreat

def bitL (b n : Nat) : List Int := upTo n fun x => b.testBit x
theorem bits_of (p : Nat → Bool) : ∀ n, ∃ b, b < 2 ^ n ∧ ∀ x, x < n → b.testBit x = p x
  | 0 => ⟨0, by decide, fun x h => by omega⟩
  | n + 1 => by
    obtain ⟨b, hb, h⟩ := bits_of p n
    cases hp : p n with
    | false =>
      refine ⟨b, Nat.lt_of_lt_of_le hb (Nat.pow_le_pow_right (by decide) (by omega)), fun x hx => ?_⟩
      by_cases e : x = n
      · subst e; rw [hp]; exact Nat.testBit_lt_two_pow hb
      · exact h x (by omega)
    | true =>
      refine ⟨2 ^ n + b, by rw [Nat.pow_succ]; omega, fun x hx => ?_⟩
      by_cases e : x = n
      · subst e; rw [hp, Nat.testBit_two_pow_add_eq, Nat.testBit_lt_two_pow hb]; rfl
      · rw [Nat.testBit_two_pow_add_gt (by omega)]; exact h x (by omega)
theorem bitL_inj {a b n : Nat} (ha : a < 2 ^ n) (hb : b < 2 ^ n) (h : bitL a n = bitL b n) : a = b := by
  refine Nat.eq_of_testBit_eq fun i => ?_
  by_cases hi : i < n
  · have e : (i : Int) ∈ bitL a n ↔ (i : Int) ∈ bitL b n := by rw [h]
    unfold bitL at e
    rw [upTo_mem, upTo_mem] at e
    simp only [Int.toNat_natCast] at e
    rw [Bool.eq_iff_iff]
    exact ⟨fun x => (e.1 ⟨by omega, by omega, x⟩).2.2, fun x => (e.2 ⟨by omega, by omega, x⟩).2.2⟩
  · have hp := Nat.pow_le_pow_right (show 0 < 2 by decide) (show n ≤ i by omega)
    rw [Nat.testBit_lt_two_pow (Nat.lt_of_lt_of_le ha hp), Nat.testBit_lt_two_pow (Nat.lt_of_lt_of_le hb hp)]
theorem nodup_map_on {α β : Type} {f : α → β} : ∀ {l : List α}, (∀ a ∈ l, ∀ b ∈ l, f a = f b → a = b) → l.Nodup → (l.map f).Nodup
  | [], _, _ => by simp
  | a :: l, hf, h => by
    rw [List.nodup_cons] at h
    rw [List.map_cons, List.nodup_cons]
    refine ⟨fun hm => ?_, nodup_map_on (fun x hx y hy => hf x (List.mem_cons_of_mem _ hx) y (List.mem_cons_of_mem _ hy)) h.2⟩
    obtain ⟨b, hb, e⟩ := List.mem_map.1 hm
    exact h.1 (hf b (List.mem_cons_of_mem _ hb) a (List.mem_cons_self ..) e ▸ hb)
theorem bitL_len (b n : Nat) : (bitL b n).length ≤ n := upTo_length _ _
theorem sorted_nodup {l : List Int} (h : l.Pairwise (· < ·)) : l.Nodup := List.Pairwise.imp (fun {a b} h => by omega) h
end Go.Proofs.YtbfmjknngofleaaGreat
