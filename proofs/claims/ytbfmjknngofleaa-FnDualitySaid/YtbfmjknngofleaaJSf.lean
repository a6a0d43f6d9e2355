/- The prime filters of a lattice are the sets above its join-prime elements. No program here. -/
import Derived.Test.YtbfmjknngofleaaJSr
import Derived.Test.YtbfmjknngofleaaJSt
namespace Go.Proofs.Ytbfmjknngofleaa

def bitL (b n : Nat) : List Int := upTo n fun x => b.testBit x
theorem bitL_inj {a b n : Nat} (ha : a < 2 ^ n) (hb : b < 2 ^ n) (h : bitL a n = bitL b n) : a = b := by
  refine Nat.eq_of_testBit_eq fun i => ?_
  by_cases hi : i < n
  · have e : (i : Int) ∈ bitL a n ↔ (i : Int) ∈ bitL b n := by rw [h]
    unfold bitL at e
    rw [upTo_mem, upTo_mem] at e
    simp only [Int.toNat_natCast] at e
    rw [Bool.eq_iff_iff]
    exact ⟨fun x => (e.1 ⟨by omega, by omega, x⟩).2.2, fun x => (e.2 ⟨by omega, by omega, x⟩).2.2⟩
  · have hp := Nat.pow_le_pow_right (show 0 < 2 by decide) (show n ≤ i by omega)
    rw [Nat.testBit_lt_two_pow (Nat.lt_of_lt_of_le ha hp), Nat.testBit_lt_two_pow (Nat.lt_of_lt_of_le hb hp)]
theorem nodup_map_on {α β : Type} {f : α → β} : ∀ {l : List α}, (∀ a ∈ l, ∀ b ∈ l, f a = f b → a = b) → l.Nodup → (l.map f).Nodup
  | [], _, _ => by simp
  | a :: l, hf, h => by
    rw [List.nodup_cons] at h
    rw [List.map_cons, List.nodup_cons]
    refine ⟨fun hm => ?_, nodup_map_on (fun x hx y hy => hf x (List.mem_cons_of_mem _ hx) y (List.mem_cons_of_mem _ hy)) h.2⟩
    obtain ⟨b, hb, e⟩ := List.mem_map.1 hm
    exact h.1 (hf b (List.mem_cons_of_mem _ hb) a (List.mem_cons_self ..) e ▸ hb)
theorem bitL_len (b n : Nat) : (bitL b n).length ≤ n := upTo_length _ _
end Go.Proofs.Ytbfmjknngofleaa
