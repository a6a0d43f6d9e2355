/- What an argument of bytes reads as, by value. -/
import Derived.Test.YtbfmjknngofleaaJOpn
import Derived.Test.YtbfmjknngofleaaJUq
namespace Go.Pv
open Go Go.ChangeShapes Go.WideShapes Go.RowKit Go.Deep

theorem vr_rowY {w : World} {A : Option Addr} {L C : Nat} {zs : List Int} (h1 : L ≤ C) (h2 : C ≤ maxLen) (h3 : zs.length = C) (h4 : A = none → C = 0) (h5 : ∀ a', A = some a' → ∀ c, c < C → w.cell? (a'.add c) = some (.int .u8 (zs.getD c 0))) :
    VR (gW w) (.slice A L C) (.sl 1 none ((zs.take L).map Y)) := by
  cases A with
  | none =>
    have hC := h4 rfl
    have hL : L = 0 := by omega
    subst hC; subst hL
    exact .nilsl 1 none (by simp)
  | some a =>
    rcases Nat.eq_zero_or_pos L with h0 | hpos
    · subst h0; exact .esl 1 none a C (by simp)
    · have hc := h5 a rfl
      have hs : a.spot = none := by
        have := hc 0 (by omega)
        rw [add0] at this
        exact cell_spot this
      have key := VR.sl (g := gW w) 1 none a.block a.off C ((zs.take L).map Y) (fun i => [Y (zs.getD i 0)]) (fun k => .int .u8 (zs.getD k 0)) (by omega) (by simp) (by simp; omega) h2 (fun i p hi => ?_) (fun k hk => ?_) (fun i j q hi hq => ?_)
      · have hl : ((zs.take L).map Y).length = L := by simp; omega
        rw [hl, ← addr_eq hs] at key
        exact key
      · rw [List.getElem?_map, Option.map_eq_some_iff] at hi
        obtain ⟨z, hz, rfl⟩ := hi
        have hlt := (List.getElem?_eq_some_iff.1 hz).1
        simp only [List.length_take] at hlt
        rw [List.getElem?_take_of_lt (by omega)] at hz
        exact ⟨by simp [PV.flat, PV.one, List.getD_eq_getElem?_getD, hz], rfl⟩
      · simp only [List.length_map, List.length_take] at hk
        have := hc k (by omega)
        show w.cell? ⟨a.block, a.off + k, none⟩ = _
        rw [← this]
        rw [addr_eq hs, Addr.add_n]
      · have hj : j = 0 := by rcases j with _ | j; rfl; simp at hq
        subst hj
        simp at hq
        subst hq
        simp only [Nat.mul_one, Nat.add_zero]
        exact .val _
theorem wf_u8 {n : Int} (h : (Lit.int .u8 n).wf = true) : 0 ≤ n ∧ n ≤ 255 := by
  simp [Lit.wf] at h
  rw [show IntKind.u8.min = 0 by rfl, show IntKind.u8.max = 255 by rfl] at h
  exact h
section
variable {H : Type} {enc : TypeId × Value → H} {P : Program} {W : World} {held : Bool}
theorem ar_bytes {t e : TypeId} {v : Value} {d : DataW H} {ps : List MemPlace} (ht : P.underlying t = some (.slice e)) (he : P.underlying e = some (.int .u8)) (hc : P.cellsOf e = 1) (hval : ∃ r b, Value.okWide P W r b t v) (h : DataW.Trod enc P W 0 (fun _ => true) held t v d ps) :
    ∃ l : List Int, VR (gW W) v (.sl 1 none (l.map Y)) ∧ l.length ≤ maxLen ∧ ∀ i, i < l.length → 0 ≤ l.getD i 0 ∧ l.getD i 0 ≤ 255 := by
  obtain ⟨r, b, hval⟩ := hval
  obtain ⟨fuel, h⟩ := h
  have key : ∀ cs x, DataW.trod enc P W 0 (fun _ => true) held fuel t cs = some x → ∃ (u : Value) (l : List Int), cs = [u] ∧ VR (gW W) u (.sl 1 none (l.map Y)) ∧ l.length ≤ maxLen ∧ ∀ n ∈ l, (Lit.int .u8 n).wf = true := fun cs x h => by
    rcases open_ints ht he hc h with ⟨rfl, -⟩ | ⟨a, len, cap, zs, rfl, -, hl, hm, hz, -, hcell, hwf⟩
    · exact ⟨_, [], rfl, .nilsl 1 none (by simp), by simp, fun n hn => by simp at hn⟩
    · simp only [if_true] at hz
      refine ⟨_, zs.take len, rfl, vr_rowY hl hm hz (fun h => by cases h) (fun a' ha c hc => ?_), by simp; omega, fun n hn => hwf n (List.mem_of_mem_take hn)⟩
      cases ha
      exact hcell c (by omega)
  obtain ⟨u, l, hcs, h1, h2, h3⟩ := key _ _ h
  have e : v = u := by
    cases v with
    | agg cs => unfold Value.okWide at hval; rw [ht] at hval; simp [Cell.okWide, Cell.ok, ht] at hval
    | tuple cs => unfold Value.okWide at hval; rw [ht] at hval; simp [Cell.okWide, Cell.ok, ht] at hval
    | _ => exact (List.cons.inj hcs).1
  refine ⟨l, e ▸ h1, h2, fun i hi => ?_⟩
  rw [List.getD_eq_getElem?_getD, List.getElem?_eq_getElem hi]
  exact wf_u8 (h3 _ (List.getElem_mem hi))
end
end Go.Pv
