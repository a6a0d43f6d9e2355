/- What an argument of operations, or an algebra, reads as, by value. -/
import Derived.Deep.SlicePairs
import Derived.Test.YtogfibhhfimbjaaDOpn
import Derived.Test.YtogfibhhfimbjaaDGa
namespace Go.Pv
open Go Go.ChangeShapes Go.WideShapes Go.RowKit Go.Deep Go.Proofs.Ytogfibhhfimbjaa

section
variable {H : Type} {enc : TypeId × Value → H} {P : Program} {w : World} {held : Bool}
theorem rd_ops {t e q : TypeId} {f0 f1 : Field} {fuel : Nat} {cs : List Value} {x : DataW H × List MemPlace} (ht : P.underlying t = some (.slice e)) (he : P.underlying e = some (.struct #[f0, f1])) (ce : P.cellsOf e = 2) (o0 : f0.offset = 0) (o1 : f1.offset = 1)
    (c0 : P.cellsOf f0.type = 1) (c1 : P.cellsOf f1.type = 1) (u0 : P.underlying f0.type = some (.int .i64)) (u1 : P.underlying f1.type = some (.slice q)) (uq : P.underlying q = some (.int .i64)) (cq : P.cellsOf q = 1)
    (h : DataW.trod enc P w 0 (fun _ => true) held fuel t cs = some x) :
    ∃ (v : Value) (L : List OpD), cs = [v] ∧ VR (gW w) v (opsP L) ∧ L.length ≤ maxLen ∧ ∀ f ∈ L, f.tb.length ≤ maxLen := by
  rcases open_slice_pairs ht he ce o0 o1 c0 c1 h with ⟨rfl, -⟩ | ⟨a, len, cap, m, n, V0, V1, D0, D1, P0, P1, rfl, -, hl, hm, hmm, -, hx⟩
  · exact ⟨_, [], rfl, .nilsl 2 none (by simp), by simp, fun f hf => by simp at hf⟩
  · simp only [if_true] at hmm
    subst hmm
    obtain ⟨F, hF⟩ := choose_lt (α := OpD) (p := fun i (f : OpD) => V0 i = .int .i64 f.ar ∧ VR (gW w) (V1 i) (ints f.tb) ∧ f.tb.length ≤ maxLen) (n := m) (fun i hi => by
      obtain ⟨-, -, h0, h1⟩ := hx i hi
      obtain ⟨z, hz, -⟩ := rd_int u0 h0
      obtain ⟨u, l, hu, r1, r2, -⟩ := rd_ints u1 uq cq h1
      rw [List.cons.injEq] at hu hz
      exact ⟨⟨z, l⟩, hz.1, hu.1 ▸ r1, r2⟩)
    refine ⟨_, (List.range len).map F, rfl, ?_, by simp; omega, fun f hf => ?_⟩
    · rcases Nat.eq_zero_or_pos len with h0 | hpos
      · subst h0; exact .esl 2 none a m (by simp)
      · have hs : a.spot = none := by
          have := (hx 0 (by omega)).1
          rw [Nat.zero_mul, add0] at this
          exact cell_spot this
        have key := VR.sl (g := gW w) 2 none a.block a.off m (((List.range len).map F).map opP) (fun i => [I (F i).ar, ints (F i).tb]) (fun k => if k % 2 = 0 then V0 (k / 2) else V1 (k / 2)) (by omega) (by simp) (by simpa using hl) hm (fun i p hi => ?_) (fun k hk => ?_) (fun i j p hi hp => ?_)
        · have hl' : (((List.range len).map F).map opP).length = len := by simp
          rw [hl', ← addr_eq hs] at key
          exact key
        · rw [List.map_map, List.getElem?_map, Option.map_eq_some_iff] at hi
          obtain ⟨z, hz, rfl⟩ := hi
          obtain ⟨hlt, rfl⟩ := List.getElem?_eq_some_iff.1 hz
          simp only [List.getElem_range, Function.comp]
          exact ⟨rfl, rfl⟩
        · simp only [List.length_map, List.length_range] at hk
          obtain ⟨g0, g1, -⟩ := hx (k / 2) (by omega)
          show w.cell? ⟨a.block, a.off + k, none⟩ = _
          rw [addr_eq hs, Addr.add_n] at g0 g1
          by_cases hk2 : k % 2 = 0
          · rw [if_pos hk2, ← g0, show k / 2 * 2 = k by omega]
          · rw [if_neg hk2, ← g1, show k / 2 * 2 + 1 = k by omega]
        · simp only [List.length_map, List.length_range] at hi
          obtain ⟨r0, r1, -⟩ := hF i (by omega)
          rcases j with _ | _ | j
          · simp at hp
            subst hp
            rw [if_pos (by omega), show (i * 2 + 0) / 2 = i by omega, r0]
            exact .val _
          · simp at hp
            subst hp
            rw [if_neg (by omega), show (i * 2 + (0 + 1)) / 2 = i by omega]
            exact r1
          · simp at hp
    · obtain ⟨i, hi, rfl⟩ := List.mem_map.1 hf
      exact (hF i (by have := List.mem_range.1 hi; omega)).2.2
theorem ar_alg {t e q : TypeId} {g0 g1 f0 f1 : Field} {v : Value} {d : DataW H} {ps : List MemPlace} (ht : P.underlying t = some (.struct #[g0, g1])) (ct : P.cellsOf t = 2) (p0 : g0.offset = 0) (p1 : g1.offset = 1) (d0 : P.cellsOf g0.type = 1) (d1 : P.cellsOf g1.type = 1)
    (v0 : P.underlying g0.type = some (.int .i64)) (hs : P.underlying g1.type = some (.slice e)) (he : P.underlying e = some (.struct #[f0, f1])) (ce : P.cellsOf e = 2) (o0 : f0.offset = 0) (o1 : f1.offset = 1)
    (c0 : P.cellsOf f0.type = 1) (c1 : P.cellsOf f1.type = 1) (u0 : P.underlying f0.type = some (.int .i64)) (u1 : P.underlying f1.type = some (.slice q)) (uq : P.underlying q = some (.int .i64)) (cq : P.cellsOf q = 1)
    (hval : ∃ r b, Value.okWide P w r b t v) (h : DataW.Trod enc P w 0 (fun _ => true) held t v d ps) :
    ∃ (n : Int) (L : List OpD), VR (gW w) v (algP n L) ∧ L.length ≤ maxLen ∧ ∀ f ∈ L, f.tb.length ≤ maxLen := by
  obtain ⟨r, b, hval⟩ := hval
  obtain ⟨fuel, h⟩ := h
  unfold Value.okWide at hval
  rw [ht] at hval
  obtain ⟨cs, rfl, hsz, -⟩ := hval
  obtain ⟨y0, y1, n, -, hlen, h0, h1⟩ := trod_struct2 ht h
  rw [p0, d0] at h0
  rw [p1, d1] at h1
  obtain ⟨z, hz, -⟩ := rd_int v0 h0
  obtain ⟨u, L, hu, r1, r2, r3⟩ := rd_ops hs he ce o0 o1 c0 c1 u0 u1 uq cq h1
  have hcl : cs.size = 2 := hsz.trans ct
  obtain ⟨a, b, hab⟩ : ∃ a b, cs.toList = [a, b] := by
    have hl2 : cs.toList.length = 2 := by rw [Array.length_toList]; exact hcl
    rcases hcs : cs.toList with _ | ⟨a, _ | ⟨b, _ | ⟨c, l⟩⟩⟩
    · rw [hcs] at hl2; cases hl2
    · rw [hcs] at hl2; cases hl2
    · exact ⟨a, b, rfl⟩
    · rw [hcs] at hl2; simp at hl2
  have ha : a = .int .i64 z := by
    have h' : (cs.toList.drop 0).take 1 = [.int .i64 z] := hz
    rw [hab] at h'
    exact (List.cons.inj h').1
  have hb : b = u := by
    have h' : (cs.toList.drop 1).take 1 = [u] := hu
    rw [hab] at h'
    exact (List.cons.inj h').1
  refine ⟨z, L, .agg cs _ hcl (fun i p hp => ?_), r2, r3⟩
  have at0 : cs[0]? = some a := by rw [← Array.getElem?_toList, hab]; rfl
  have at1 : cs[1]? = some b := by rw [← Array.getElem?_toList, hab]; rfl
  rcases i with _ | _ | i
  · simp at hp
    subst hp
    rw [show cs.getD 0 undef = a by rw [Array.getD_eq_getD_getElem?, at0]; rfl, ha]
    exact .val _
  · simp at hp
    subst hp
    rw [show cs.getD (0 + 1) undef = b by rw [Array.getD_eq_getD_getElem?, at1]; rfl, hb]
    exact r1
  · simp at hp
end
end Go.Pv
