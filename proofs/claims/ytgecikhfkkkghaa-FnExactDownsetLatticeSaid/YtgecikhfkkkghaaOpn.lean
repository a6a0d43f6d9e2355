/- What an argument reads as, by value: numbers, lists of numbers, rows of them, a struct of rows. -/
import Derived.Test.YtgecikhfkkkghaaRow
import Derived.Deep.Matrix
namespace Go.Pv
open Go Go.ChangeShapes Go.WideShapes Go.RowKit Go.Deep

def gW (W : World) : Ghost := fun b o => W.cell? ⟨b, o, none⟩
theorem gW_agree (W : World) : Agree (gW W) W := fun _ _ _ h => h
theorem cell_spot {w : World} {a : Addr} {v : Value} (h : w.cell? a = some v) : a.spot = none := by
  unfold World.cell? at h
  split at h
  · split at h
    · cases h
    · rename_i h'; simpa using h'
  · cases h
theorem addr_eq {a : Addr} (h : a.spot = none) : a = ⟨a.block, a.off, none⟩ := by cases a; simp_all
theorem add0 (a : Addr) : a.add 0 = a := by simp [Addr.add]

theorem vr_row {w : World} {A : Option Addr} {L C : Nat} {zs : List Int} (h1 : L ≤ C) (h2 : C ≤ maxLen) (h3 : zs.length = C) (h4 : A = none → C = 0) (h5 : ∀ a', A = some a' → ∀ c, c < C → w.cell? (a'.add c) = some (.int .i64 (zs.getD c 0))) :
    VR (gW w) (.slice A L C) (ints (zs.take L)) := by
  cases A with
  | none =>
    have hC := h4 rfl
    have hL : L = 0 := by omega
    subst hC; subst hL
    exact .nilsl 1 none (by simp)
  | some a =>
    rcases Nat.eq_zero_or_pos L with h0 | hpos
    · subst h0; exact .esl 1 none a C (by simp)
    · have hc := h5 a rfl
      have hs : a.spot = none := by
        have := hc 0 (by omega)
        rw [add0] at this
        exact cell_spot this
      have key := VR.sl (g := gW w) 1 none a.block a.off C ((zs.take L).map I) (fun i => [I (zs.getD i 0)]) (fun k => .int .i64 (zs.getD k 0)) (by omega) (by simp) (by simp; omega) h2 (fun i p hi => ?_) (fun k hk => ?_) (fun i j q hi hq => ?_)
      · have hl : ((zs.take L).map I).length = L := by simp; omega
        rw [hl, ← addr_eq hs] at key
        exact key
      · rw [List.getElem?_map, Option.map_eq_some_iff] at hi
        obtain ⟨z, hz, rfl⟩ := hi
        have hlt := (List.getElem?_eq_some_iff.1 hz).1
        simp only [List.length_take] at hlt
        rw [List.getElem?_take_of_lt (by omega)] at hz
        exact ⟨by simp [PV.flat, PV.one, List.getD_eq_getElem?_getD, hz], rfl⟩
      · simp only [List.length_map, List.length_take] at hk
        have := hc k (by omega)
        show w.cell? ⟨a.block, a.off + k, none⟩ = _
        rw [← this]
        rw [addr_eq hs, Addr.add_n]
      · have hj : j = 0 := by rcases j with _ | j; rfl; simp at hq
        subst hj
        simp at hq
        subst hq
        simp only [Nat.mul_one, Nat.add_zero]
        exact .val _

section
variable {H : Type} {enc : TypeId × Value → H} {P : Program} {w : World} {held : Bool}
theorem rd_int {t : TypeId} {fuel : Nat} {cs : List Value} {x : DataW H × List MemPlace} (ht : P.underlying t = some (.int .i64)) (h : DataW.trod enc P w 0 (fun _ => true) held fuel t cs = some x) : ∃ n, cs = [.int .i64 n] ∧ (Lit.int .i64 n).wf = true := by
  cases fuel with
  | zero => cases h
  | succ fuel =>
    unfold DataW.trod at h
    rw [ht] at h
    match cs, h with
    | [.int k n], h =>
      simp only at h
      split at h
      · rename_i hc; obtain ⟨rfl, hw⟩ := hc; exact ⟨n, rfl, hw⟩
      · cases h
theorem rd_ints {t e : TypeId} {fuel : Nat} {cs : List Value} {x : DataW H × List MemPlace} (ht : P.underlying t = some (.slice e)) (he : P.underlying e = some (.int .i64)) (hc : P.cellsOf e = 1) (h : DataW.trod enc P w 0 (fun _ => true) held fuel t cs = some x) :
    ∃ (v : Value) (l : List Int), cs = [v] ∧ VR (gW w) v (ints l) ∧ l.length ≤ maxLen ∧ ∀ n ∈ l, (Lit.int .i64 n).wf = true := by
  rcases open_ints ht he hc h with ⟨rfl, -⟩ | ⟨a, len, cap, zs, rfl, -, hl, hm, hz, -, hcell, hwf⟩
  · exact ⟨_, [], rfl, .nilsl 1 none (by simp), by simp, fun n hn => by simp at hn⟩
  · simp only [if_true] at hz
    refine ⟨_, zs.take len, rfl, vr_row hl hm hz (fun h => by cases h) (fun a' ha c hc => ?_), by simp; omega, fun n hn => hwf n (List.mem_of_mem_take hn)⟩
    cases ha
    exact hcell c (by omega)
theorem rd_intss {t e q : TypeId} {fuel : Nat} {cs : List Value} {x : DataW H × List MemPlace} (ht : P.underlying t = some (.slice e)) (he : P.underlying e = some (.slice q)) (hq : P.underlying q = some (.int .i64)) (ce : P.cellsOf e = 1) (cq : P.cellsOf q = 1)
    (h : DataW.trod enc P w 0 (fun _ => true) held fuel t cs = some x) :
    ∃ (v : Value) (rows : List (List Int)), cs = [v] ∧ VR (gW w) v (intss rows) ∧ rows.length ≤ maxLen ∧ (∀ r ∈ rows, r.length ≤ maxLen) ∧ ∀ r ∈ rows, ∀ n ∈ r, (Lit.int .i64 n).wf = true := by
  rcases open_int_rows ht he hq ce cq h with ⟨rfl, -⟩ | ⟨a, len, cap, A, L, C, Z, rfl, -, hl, hm, -, hx⟩
  · exact ⟨_, [], rfl, .nilsl 1 none (by simp), by simp, fun r hr => (by simp at hr), fun r hr => (by simp at hr)⟩
  · refine ⟨_, (List.range len).map fun r => (Z r).take (L r), rfl, ?_, by simp; omega, fun r hr => ?_, fun r hr n hn => ?_⟩
    · rcases Nat.eq_zero_or_pos len with h0 | hpos
      · subst h0; exact .esl 1 none a cap (by simp)
      · have hs : a.spot = none := by
          have := (hx 0 (by omega)).1
          rw [add0] at this
          exact cell_spot this
        have key := VR.sl (g := gW w) 1 none a.block a.off cap (((List.range len).map fun r => (Z r).take (L r)).map ints) (fun i => [ints ((Z i).take (L i))]) (fun k => .slice (A k) (L k) (C k)) (by omega) (by simp) (by simpa using hl) hm (fun i p hi => ?_) (fun k hk => ?_) (fun i j p hi hp => ?_)
        · have hl' : (((List.range len).map fun r => (Z r).take (L r)).map ints).length = len := by simp
          rw [hl', ← addr_eq hs] at key
          exact key
        · rw [List.map_map, List.getElem?_map, Option.map_eq_some_iff] at hi
          obtain ⟨z, hz, rfl⟩ := hi
          obtain ⟨hlt, rfl⟩ := List.getElem?_eq_some_iff.1 hz
          simp only [List.getElem_range, Function.comp]
          exact ⟨by simp [PV.flat, PV.one], rfl⟩
        · simp only [List.length_map, List.length_range] at hk
          have := (hx k (by omega)).1
          show w.cell? ⟨a.block, a.off + k, none⟩ = _
          rw [← this]
          rw [addr_eq hs, Addr.add_n]
        · have hj : j = 0 := by rcases j with _ | j; rfl; simp at hp
          subst hj
          simp at hp
          subst hp
          simp only [Nat.mul_one, Nat.add_zero]
          simp only [List.length_map, List.length_range] at hi
          obtain ⟨-, r1, r2, r3, r4, r5, r6⟩ := hx i (by omega)
          exact vr_row r1 r2 r3 r5 (fun a' ha c hc => (r6 a' ha).2 c hc)
    · obtain ⟨i, hi, rfl⟩ := List.mem_map.1 hr
      obtain ⟨-, r1, r2, r3, -⟩ := hx i (by have := List.mem_range.1 hi; omega)
      simp; omega
    · obtain ⟨i, hi, rfl⟩ := List.mem_map.1 hr
      obtain ⟨-, r1, r2, r3, r4, -⟩ := hx i (by have := List.mem_range.1 hi; omega)
      exact r4 n (List.mem_of_mem_take hn)

theorem trodAll_four {w : World} {base : Nat} {spare : Nat → Bool} {t1 t2 t3 t4 : TypeId} {args : Array Value} {ds : List (DataW H)} {ps : List MemPlace} (h : DataW.TrodAll enc P w base spare held [t1, t2, t3, t4] args.toList ds ps) :
    ∃ v1 v2 v3 v4 d1 d2 d3 d4 p1 p2 p3 p4, args = #[v1, v2, v3, v4] ∧ ds = [d1, d2, d3, d4] ∧ ps = p1 ++ p2 ++ p3 ++ p4 ∧ DataW.Trod enc P w base spare held t1 v1 d1 p1 ∧ DataW.Trod enc P w base spare held t2 v2 d2 p2 ∧ DataW.Trod enc P w base spare held t3 v3 d3 p3 ∧ DataW.Trod enc P w base spare held t4 v4 d4 p4 := by
  obtain ⟨v1, l1, d1, e1, p1, q1, ha, rfl, rfl, h1, r1⟩ := trodAll_cons h
  obtain ⟨v2, l2, d2, e2, p2, q2, rfl, rfl, rfl, h2, r2⟩ := trodAll_cons r1
  obtain ⟨v3, l3, d3, e3, p3, q3, rfl, rfl, rfl, h3, r3⟩ := trodAll_cons r2
  obtain ⟨v4, l4, d4, e4, p4, q4, rfl, rfl, rfl, h4, r4⟩ := trodAll_cons r3
  obtain ⟨rfl, rfl, rfl⟩ := trodAll_nil r4
  exact ⟨v1, v2, v3, v4, d1, d2, d3, d4, p1, p2, p3, p4, by cases args; simp_all, rfl, by simp, h1, h2, h3, h4⟩
/-- Arguments, as the row hands them over. -/
theorem ar_int {t : TypeId} {v : Value} {d : DataW H} {ps : List MemPlace} (ht : P.underlying t = some (.int .i64)) (hval : ∃ r b, Value.okWide P w r b t v) (h : DataW.Trod enc P w 0 (fun _ => true) held t v d ps) : ∃ n, v = .int .i64 n ∧ (Lit.int .i64 n).wf = true := by
  obtain ⟨r, b, hval⟩ := hval
  obtain ⟨fuel, h⟩ := h
  obtain ⟨n, hc, hw⟩ := rd_int ht h
  refine ⟨n, ?_, hw⟩
  cases v with
  | agg cs => unfold Value.okWide at hval; rw [ht] at hval; simp [Cell.okWide, Cell.ok, ht] at hval
  | tuple cs => unfold Value.okWide at hval; rw [ht] at hval; simp [Cell.okWide, Cell.ok, ht] at hval
  | _ => exact (List.cons.inj hc).1
theorem ar_ints {t e : TypeId} {v : Value} {d : DataW H} {ps : List MemPlace} (ht : P.underlying t = some (.slice e)) (he : P.underlying e = some (.int .i64)) (hc : P.cellsOf e = 1) (hval : ∃ r b, Value.okWide P w r b t v) (h : DataW.Trod enc P w 0 (fun _ => true) held t v d ps) :
    ∃ l, VR (gW w) v (ints l) ∧ l.length ≤ maxLen ∧ ∀ n ∈ l, (Lit.int .i64 n).wf = true := by
  obtain ⟨r, b, hval⟩ := hval
  obtain ⟨fuel, h⟩ := h
  obtain ⟨u, l, hcs, h1, h2, h3⟩ := rd_ints ht he hc h
  have e : v = u := by
    cases v with
    | agg cs => unfold Value.okWide at hval; rw [ht] at hval; simp [Cell.okWide, Cell.ok, ht] at hval
    | tuple cs => unfold Value.okWide at hval; rw [ht] at hval; simp [Cell.okWide, Cell.ok, ht] at hval
    | _ => exact (List.cons.inj hcs).1
  exact ⟨l, e ▸ h1, h2, h3⟩
theorem ar_poset {t s e q : TypeId} {f : Field} {v : Value} {d : DataW H} {ps : List MemPlace} (ht : P.underlying t = some (.struct #[f])) (hft : f.type = s) (hfo : f.offset = 0) (ct : P.cellsOf t = 1) (cs1 : P.cellsOf s = 1) (hs : P.underlying s = some (.slice e)) (he : P.underlying e = some (.slice q)) (hq : P.underlying q = some (.int .i64)) (ce : P.cellsOf e = 1) (cq : P.cellsOf q = 1)
    (hval : ∃ r b, Value.okWide P w r b t v) (h : DataW.Trod enc P w 0 (fun _ => true) held t v d ps) :
    ∃ rows, VR (gW w) v (posetP rows) ∧ rows.length ≤ maxLen ∧ (∀ r ∈ rows, r.length ≤ maxLen) ∧ ∀ r ∈ rows, ∀ n ∈ r, (Lit.int .i64 n).wf = true := by
  subst hft
  obtain ⟨r, b, hval⟩ := hval
  obtain ⟨fuel, h⟩ := h
  unfold Value.okWide at hval
  rw [ht] at hval
  obtain ⟨cs, rfl, hsz, -⟩ := hval
  obtain ⟨y0, n, -, hlen, h0⟩ := trod_struct1 ht h
  rw [hfo, cs1] at h0
  obtain ⟨u, rows, hcs, h1, h2, h3, h4⟩ := rd_intss hs he hq ce cq h0
  have hcl : cs.size = 1 := hsz.trans ct
  have hu : cs.toList = [u] := by
    have h' : (cs.toList.drop 0).take 1 = [u] := hcs
    rw [List.drop_zero, List.take_of_length_le (by simp; omega)] at h'
    exact h'
  refine ⟨rows, .agg cs _ hcl (fun i p hp => ?_), h2, h3, h4⟩
  rcases i with _ | i
  · simp at hp
    subst hp
    have : cs.getD 0 undef = u := by
      have e0 : cs[0]? = some u := by rw [← Array.getElem?_toList, hu]; rfl
      rw [Array.getD_eq_getD_getElem?, e0]; rfl
    rw [this]; exact h1
  · simp at hp
end
end Go.Pv
