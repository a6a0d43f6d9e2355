/- Lattice maps and join-prime elements, as both sides have them. No program here. -/
import Derived.Test.YtgecikhfkkkghaaSp14
import Derived.Test.YtgecikhfkkkghaaB1
namespace Go.Proofs.Ytgecikhfkkkghaa

/-- A test of all pairs need look at those of two different ones alone, in one order. -/
theorem allN_pairs {n : Nat} {p : Nat → Nat → Bool} (hs : ∀ x y, x < n → y < n → p x y = p y x) (hr : ∀ x, x < n → p x x = true) : (allN n fun x => allN n (p x)) = allN n fun x => allN x (p x) := by
  rw [Bool.eq_iff_iff, allN_iff, allN_iff]
  constructor
  · intro h x hx
    have := h x hx
    rw [allN_iff] at this ⊢
    exact fun y hy => this y (by omega)
  · intro h x hx
    rw [allN_iff]
    intro y hy
    rcases Nat.lt_trichotomy x y with h' | h' | h'
    · rw [hs x y hx hy]; exact allN_iff.1 (h y hy) x h'
    · subst h'; exact hr x hx
    · exact allN_iff.1 (h x hx) y h'
theorem Lat.meet_idem {rows : List (List Int)} (L : Lat rows) {x : Int} (hx : inR rows x) : meetL rows x x = x := L.meet_le hx hx (L.refl x hx)
theorem Lat.join_idem {rows : List (List Int)} (L : Lat rows) {x : Int} (hx : inR rows x) : joinL rows x x = x := L.join_le hx hx (L.refl x hx)

def im (f : List Int) (x : Int) : Int := f.getD x.toNat 0
def lmP (p q : List (List Int)) (f : List Int) (x y : Nat) : Bool :=
  decide (im f (meetL p (x : Int) (y : Int)) = meetL q (f.getD x 0) (f.getD y 0)) && decide (im f (joinL p (x : Int) (y : Int)) = joinL q (f.getD x 0) (f.getD y 0))
def lmH (p q : List (List Int)) (f : List Int) : Bool :=
  decide ((f.length : Int) = (p.length : Int)) && inSizeB f (q.length : Int) && (decide (im f (botL p) = botL q) && decide (im f (topL p) = topL q))
def lmB (p q : List (List Int)) (f : List Int) : Bool := lmH p q f && allN f.length fun x => allN f.length (lmP p q f x)
def lmS (p q : List (List Int)) (f : List Int) : Bool := lmH p q f && allN f.length fun x => allN x (lmP p q f x)
theorem inSize_at {l : List Int} {n : Nat} (h : inSizeB l (n : Int) = true) {i : Nat} (hi : i < l.length) : 0 ≤ l.getD i 0 ∧ l.getD i 0 < (n : Int) := by
  have := List.all_eq_true.1 h (l.getD i 0) (by rw [List.getD_eq_getElem?_getD, List.getElem?_eq_getElem hi]; exact List.getElem_mem hi)
  simp only [Bool.not_eq_true', Bool.or_eq_false_iff, decide_eq_false_iff_not] at this
  omega
theorem lm_eq {p q : List (List Int)} {f : List Int} (hp : goodL p = true) (hq : goodL q = true) : lmS p q f = lmB p q f := by
  unfold lmS lmB
  cases hh : lmH p q f with
  | false => rfl
  | true =>
    rw [Bool.true_and, Bool.true_and]
    unfold lmH at hh
    simp only [Bool.and_eq_true, decide_eq_true_eq] at hh
    have hl : f.length = p.length := by omega
    have Lp := goodL_lat hp
    have Lq := goodL_lat hq
    refine (allN_pairs (fun x y hx hy => ?_) (fun x hx => ?_)).symm
    · unfold lmP
      rw [meet_comm p, meet_comm q, join_comm p, join_comm q]
    · have hx' : inR p (x : Int) := ⟨by omega, by omega⟩
      have hfx : inR q (f.getD x 0) := inSize_at hh.1.2 hx
      unfold lmP
      rw [Lp.meet_idem hx', Lp.join_idem hx', Lq.meet_idem hfx, Lq.join_idem hfx]
      unfold im
      simp

def jpP (rows : List (List Int)) (x : Int) (y z : Nat) : Bool := !leqB rows x (joinL rows (y : Int) (z : Int)) || (leqB rows x (y : Int) || leqB rows x (z : Int))
def jpB (rows : List (List Int)) (x : Nat) : Bool := !decide ((x : Int) = botL rows) && allN rows.length fun y => allN rows.length (jpP rows (x : Int) y)
def jpS (rows : List (List Int)) (x : Nat) : Bool := !decide ((x : Int) = botL rows) && allN rows.length fun y => allN y (jpP rows (x : Int) y)
theorem jp_eq {rows : List (List Int)} (hg : goodL rows = true) (x : Nat) : jpS rows x = jpB rows x := by
  unfold jpS jpB
  have L := goodL_lat hg
  rw [allN_pairs (fun y z _ _ => ?_) (fun y hy => ?_)]
  · unfold jpP; rw [join_comm, Bool.or_comm (leqB rows (x : Int) (y : Int))]
  · unfold jpP
    rw [L.join_idem ⟨by omega, by omega⟩]
    cases leqB rows (x : Int) (y : Int) <;> rfl
def jpL (rows : List (List Int)) : List Int := upTo rows.length (jpB rows)
def jpV (rows : List (List Int)) : List Int := bif goodL rows then jpL rows else []
theorem jpV_len {rows : List (List Int)} (hok : okP rows) : (jpV rows).length ≤ 1048576 := by
  unfold jpV jpL; have := upTo_length rows.length (jpB rows); have := hok.1; cases goodL rows <;> simp; omega
end Go.Proofs.Ytgecikhfkkkghaa
