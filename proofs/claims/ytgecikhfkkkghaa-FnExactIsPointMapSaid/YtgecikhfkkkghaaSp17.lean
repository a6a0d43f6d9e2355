/- Points of a lattice, as both sides have them. No program here. -/
import Derived.Test.YtgecikhfkkkghaaSp15
namespace Go.Proofs.Ytgecikhfkkkghaa

def irrB (rows : List (List Int)) (y : Nat) : Bool := decide (((upTo rows.length fun x => coversB rows (x : Int) (y : Int)).length : Int) = 1)
def irrL (rows : List (List Int)) : List Int := upTo rows.length (irrB rows)
def own (rows : List (List Int)) (i : Nat) : Int := (irrL rows).getD i 0
def ptL (rows : List (List Int)) (i : Nat) : List Int := upTo (irrL rows).length fun k => leqB rows (own rows k) (own rows i)
def ptsL (rows : List (List Int)) : List (List Int) := (List.range (irrL rows).length).map (ptL rows)
def pbL (rows : List (List Int)) (x : Int) : List Int := upTo (irrL rows).length fun i => leqB rows (own rows i) x
theorem irrL_len (rows : List (List Int)) : (irrL rows).length ≤ rows.length := upTo_length _ _
theorem own_in {rows : List (List Int)} {i : Nat} (h : i < (irrL rows).length) : inR rows (own rows i) := ⟨(upTo_getD h).1, (upTo_getD h).2.1⟩
theorem length_pts (rows : List (List Int)) : (ptsL rows).length = (irrL rows).length := by simp [ptsL]
theorem pts_getD {rows : List (List Int)} {i : Nat} (h : i < (irrL rows).length) : (ptsL rows).getD i [] = ptL rows i := getD_map_range _ _ _ h
theorem pts_leq {rows : List (List Int)} {i k : Int} (hi : 0 ≤ i ∧ i < ((irrL rows).length : Int)) (hk : 0 ≤ k ∧ k < ((irrL rows).length : Int)) : leqB (ptsL rows) i k = leqB rows (own rows i.toNat) (own rows k.toNat) := by
  unfold leqB
  rw [pts_getD (by omega), Bool.eq_iff_iff, List.contains_iff_mem]
  unfold ptL
  rw [upTo_mem]
  exact ⟨fun h => h.2.2, fun h => ⟨hi.1, hi.2, h⟩⟩
theorem okP_pts {rows : List (List Int)} (hok : okP rows) : okP (ptsL rows) := by
  have := irrL_len rows
  refine ⟨by rw [length_pts]; have := hok.1; omega, fun r hr => ?_⟩
  obtain ⟨i, -, rfl⟩ := List.mem_map.1 hr
  have := upTo_length (irrL rows).length fun k => leqB rows (own rows k) (own rows i)
  have := hok.1
  unfold ptL; omega
theorem own_inj {rows : List (List Int)} {i k : Nat} (hi : i < (irrL rows).length) (hk : k < (irrL rows).length) (h : own rows i = own rows k) : i = k := by
  have hs := upTo_sorted rows.length (irrB rows)
  rw [List.pairwise_iff_getElem] at hs
  have ei : own rows i = (irrL rows)[i] := by unfold own; simp [hi]
  have ek : own rows k = (irrL rows)[k] := by unfold own; simp [hk]
  rw [ei, ek] at h
  rcases Nat.lt_trichotomy i k with h' | h' | h'
  · have := hs i k hi hk h'; unfold irrL at h; omega
  · exact h'
  · have := hs k i hk hi h'; unfold irrL at h; omega
theorem pts_less {rows : List (List Int)} {i k : Int} (hi : 0 ≤ i ∧ i < ((irrL rows).length : Int)) (hk : 0 ≤ k ∧ k < ((irrL rows).length : Int)) : lessB (ptsL rows) i k = lessB rows (own rows i.toNat) (own rows k.toNat) := by
  unfold lessB
  rw [pts_leq hi hk]
  congr 2
  rw [Bool.eq_iff_iff]
  simp only [decide_eq_true_eq]
  constructor
  · intro h; rw [h]
  · intro h
    have := own_inj (by omega) (by omega) h
    omega

/-- Point maps. -/
def pmP (p q : List (List Int)) (g : List Int) (i k : Nat) : Bool := !(leqB (ptsL p) (i : Int) (k : Int) && !leqB (ptsL q) (g.getD i 0) (g.getD k 0))
def pmH (p q : List (List Int)) (g : List Int) : Bool := decide ((g.length : Int) = ((irrL p).length : Int)) && inSizeB g ((irrL q).length : Int)
def pmB (p q : List (List Int)) (g : List Int) : Bool := pmH p q g && allN g.length fun i => allN g.length (pmP p q g i)

/-- The greatest of the points below an element. -/
def topP (rows : List (List Int)) (below : List Int) (i : Int) : Bool := below.all fun k => !lessB (ptsL rows) i k
def tpL (rows : List (List Int)) (x : Int) : List Int := (pbL rows x).filter (topP rows (pbL rows x))
def tpV (rows : List (List Int)) (x : Int) : List Int := bif goodL rows && isB rows x then tpL rows x else []
theorem pbL_len (rows : List (List Int)) (x : Int) : (pbL rows x).length ≤ (irrL rows).length := upTo_length _ _
theorem pbL_at {rows : List (List Int)} {x : Int} {i : Nat} (h : i < (pbL rows x).length) : 0 ≤ (pbL rows x).getD i 0 ∧ (pbL rows x).getD i 0 < ((irrL rows).length : Int) := ⟨(upTo_getD h).1, (upTo_getD h).2.1⟩
theorem tpV_len {rows : List (List Int)} (hok : okP rows) (x : Int) : (tpV rows x).length ≤ 1048576 := by
  unfold tpV tpL
  have h1 := List.length_filter_le (topP rows (pbL rows x)) (pbL rows x)
  have h2 := pbL_len rows x
  have h3 := irrL_len rows
  have h4 := hok.1
  cases goodL rows && isB rows x <;> simp <;> omega
theorem filter_snoc {α : Type} (l : List α) (x : α) (p : α → Bool) : (l ++ [x]).filter p = l.filter p ++ (if p x = true then [x] else []) := by
  rw [List.filter_append]
  congr 1
  cases h : p x <;> simp [h]
end Go.Proofs.Ytgecikhfkkkghaa
