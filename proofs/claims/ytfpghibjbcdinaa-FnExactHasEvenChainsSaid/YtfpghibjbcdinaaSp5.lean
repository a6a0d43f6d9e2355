/- Plain functions on tables of Booleans: what the program computes. No program here. -/
import Derived.Test.YtfpghibjbcdinaaSp4
namespace Go.Proofs.Ytfpghibjbcdinaa

def tabB (t : List (List Bool)) (x y : Nat) : Bool := (t.getD x []).getD y false
/-- A square table that is not large. -/
def okT (t : List (List Bool)) : Prop := t.length ≤ 10 ∧ ∀ x, x < t.length → (t.getD x []).length = t.length
def ordZ (t : List (List Bool)) (x y z : Nat) : Bool := !(tabB t x y && tabB t y z && !tabB t x z)
def ordY (t : List (List Bool)) (x y : Nat) : Bool := !(!decide ((x : Int) = (y : Int)) && tabB t x y && tabB t y x) && allN t.length fun z => ordZ t x y z
def ordX (t : List (List Bool)) (x : Nat) : Bool := tabB t x x && allN t.length fun y => ordY t x y
def orderB (t : List (List Bool)) : Bool := allN t.length fun x => ordX t x
/-- The greatest of a list. -/
def greatL (t : List (List Bool)) (l : List Int) : Int := (l.find? fun x => l.all fun y => tabB t y.toNat x.toNat).getD (-1)
end Go.Proofs.Ytfpghibjbcdinaa
