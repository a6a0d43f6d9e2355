/- Complements, as both sides have them. No program here. -/
import Derived.Test.YtfpghibjbcdinaaSp10
import Derived.Test.YtfpghibjbcdinaaSp9
namespace Go.Proofs.Ytfpghibjbcdinaa

def relB (rows : List (List Int)) (x y z : Int) (w : Nat) : Bool := decide (meetL rows y (w : Int) = x) && decide (joinL rows y (w : Int) = z)
def relL (rows : List (List Int)) (x y z : Int) : List Int := upTo rows.length (relB rows x y z)
def compN (rows : List (List Int)) (x : Nat) : Nat := (relL rows (botL rows) (x : Int) (topL rows)).length
def medL (rows : List (List Int)) (x y z : Int) : Int := joinL rows (joinL rows (meetL rows x y) (meetL rows y z)) (meetL rows x z)
def compB (rows : List (List Int)) : Bool := allN rows.length fun x => !decide ((compN rows x : Int) = 0)
def rcB (rows : List (List Int)) : Bool := allN rows.length fun x => allN rows.length fun z => allN rows.length fun y => !(leqB rows (x : Int) (y : Int) && (leqB rows (y : Int) (z : Int) && decide (((relL rows (x : Int) (y : Int) (z : Int)).length : Int) = 0)))
theorem relL_len (rows : List (List Int)) (x y z : Int) : (relL rows x y z).length ≤ rows.length := upTo_length _ _
theorem med_eq {rows : List (List Int)} (hg : goodL rows = true) {x y z : Int} (hx : inR rows x) (hy : inR rows y) (hz : inR rows z) : [meetL rows x y, meetL rows x z, meetL rows y z].foldl (joinL rows) (botL rows) = medL rows x y z := by
  have L := goodL_lat hg
  have a := L.meetR x y hx hy
  have b := L.meetR x z hx hz
  have c := L.meetR y z hy hz
  simp only [List.foldl_cons, List.foldl_nil]
  rw [L.join_le (bot_in hg) a (bot_le hg a)]
  unfold medL
  rw [L.join_assoc a b c, L.join_assoc a c b, join_comm rows (meetL rows x z)]
theorem allN_swap {n : Nat} {p : Nat → Nat → Bool} : (allN n fun x => allN n fun y => p x y) = allN n fun y => allN n fun x => p x y := by
  rw [Bool.eq_iff_iff]
  simp only [allN_iff]
  exact ⟨fun h y hy x hx => h x hx y hy, fun h x hx y hy => h y hy x hx⟩
end Go.Proofs.Ytfpghibjbcdinaa
