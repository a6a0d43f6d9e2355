/- The library's sort lies in this program: the numbers and the kit's list of facts. -/
import Derived.Shelf.GgSortMore.Stable
import Derived.Test.YtembaiccchgllaaGreatChecked
import Derived.Test.YtembaiccchgllaaGreatJZb
import Derived.Test.YtembaiccchgllaaGreatJPr
set_option linter.unusedSectionVars false
namespace Go.Proofs.YtembaiccchgllaaGreat
open Go Go.Proofs Go.Shelf

def sl8_ren : Go.Shelf.Ren := ⟨fun | 8 => 307 | 13 => 333 | 14 => 334 | 16 => 336 | 15 => 335 | 29 => 355 | 30 => 356 | 42 => 362 | 49 => 363 | n => n, fun | 20 => 20 | 26 => 171 | 36 => 227 | 0 => 0 | 38 => 229 | 42 => 233 | 3 => 3 | 4 => 4 | 47 => 213 | 17 => 17 | 33 => 224 | 34 => 225 | 89 => 261 | 12 => 12 | 56 => 253 | 82 => 254 | 5 => 5 | 83 => 255 | 84 => 256 | 85 => 257 | 86 => 258 | 87 => 259 | n => n, fun  | n => n⟩
theorem sl8 : LaysGt.n8 Tryz.prog sl8_ren := {
  mixed := by kernel_rfl
  f8 := Tryz.func307.trans (congrArg some (by kernel_rfl))
  f13 := Tryz.func333.trans (congrArg some (by kernel_rfl))
  f14 := Tryz.func334.trans (congrArg some (by kernel_rfl))
  f15 := Tryz.func335.trans (congrArg some (by kernel_rfl))
  f16 := Tryz.func336.trans (congrArg some (by kernel_rfl))
  f29 := Tryz.func355.trans (congrArg some (by kernel_rfl))
  f30 := Tryz.func356.trans (congrArg some (by kernel_rfl))
  f42 := Tryz.func362.trans (congrArg some (by kernel_rfl))
  f49 := Tryz.func363.trans (congrArg some (by kernel_rfl))
  t0 := Tryz.underlying0
  a0 := Tryz.isAgg0
  z0 := Tryz.sizeOf0
  v0 := Tryz.zeroValue0
  i0 := by kernel_rfl
  t3 := Tryz.underlying3
  a3 := Tryz.isAgg3
  z3 := Tryz.sizeOf3
  v3 := Tryz.zeroValue3
  i3 := by kernel_rfl
  t4 := Tryz.underlying4
  a4 := Tryz.isAgg4
  z4 := Tryz.sizeOf4
  v4 := Tryz.zeroValue4
  i4 := by kernel_rfl
  t5 := Tryz.underlying5
  a5 := Tryz.isAgg5
  z5 := Tryz.sizeOf5
  v5 := Tryz.zeroValue5
  i5 := by kernel_rfl
  t12 := Tryz.underlying12
  a12 := Tryz.isAgg12
  z12 := Tryz.sizeOf12
  v12 := Tryz.zeroValue12
  i12 := by kernel_rfl
  t17 := Tryz.underlying17
  a17 := Tryz.isAgg17
  z17 := Tryz.sizeOf17
  v17 := Tryz.zeroValue17
  i17 := by kernel_rfl
  t20 := Tryz.underlying20
  a20 := Tryz.isAgg20
  z20 := Tryz.sizeOf20
  v20 := Tryz.zeroValue20
  i20 := by kernel_rfl
  t26 := Tryz.underlying171
  a26 := Tryz.isAgg171
  z26 := Tryz.sizeOf171
  v26 := Tryz.zeroValue171
  i26 := by kernel_rfl
  t33 := Tryz.underlying224
  a33 := Tryz.isAgg224
  z33 := Tryz.sizeOf224
  v33 := Tryz.zeroValue224
  i33 := by kernel_rfl
  t34 := Tryz.underlying225
  a34 := Tryz.isAgg225
  z34 := Tryz.sizeOf225
  v34 := Tryz.zeroValue225
  i34 := by kernel_rfl
  t36 := Tryz.underlying227
  a36 := Tryz.isAgg227
  z36 := Tryz.sizeOf227
  v36 := Tryz.zeroValue227
  i36 := by kernel_rfl
  t38 := Tryz.underlying229
  a38 := Tryz.isAgg229
  z38 := Tryz.sizeOf229
  v38 := Tryz.zeroValue229
  i38 := by kernel_rfl
  t42 := Tryz.underlying233
  a42 := Tryz.isAgg233
  z42 := Tryz.sizeOf233
  v42 := Tryz.zeroValue233
  i42 := by kernel_rfl
  t47 := Tryz.underlying213
  a47 := Tryz.isAgg213
  z47 := Tryz.sizeOf213
  v47 := Tryz.zeroValue213
  i47 := by kernel_rfl
  t56 := Tryz.underlying253
  a56 := Tryz.isAgg253
  z56 := Tryz.sizeOf253
  v56 := Tryz.zeroValue253
  i56 := by kernel_rfl
  t82 := Tryz.underlying254
  a82 := Tryz.isAgg254
  z82 := Tryz.sizeOf254
  v82 := Tryz.zeroValue254
  i82 := by kernel_rfl
  t83 := Tryz.underlying255
  a83 := Tryz.isAgg255
  z83 := Tryz.sizeOf255
  v83 := Tryz.zeroValue255
  i83 := by kernel_rfl
  t84 := Tryz.underlying256
  a84 := Tryz.isAgg256
  z84 := Tryz.sizeOf256
  v84 := Tryz.zeroValue256
  i84 := by kernel_rfl
  t85 := Tryz.underlying257
  a85 := Tryz.isAgg257
  z85 := Tryz.sizeOf257
  v85 := Tryz.zeroValue257
  i85 := by kernel_rfl
  t86 := Tryz.underlying258
  a86 := Tryz.isAgg258
  z86 := Tryz.sizeOf258
  v86 := Tryz.zeroValue258
  i86 := by kernel_rfl
  t87 := Tryz.underlying259
  a87 := Tryz.isAgg259
  z87 := Tryz.sizeOf259
  v87 := Tryz.zeroValue259
  i87 := by kernel_rfl
  t89 := Tryz.underlying261
  a89 := Tryz.isAgg261
  z89 := Tryz.sizeOf261
  v89 := Tryz.zeroValue261
  i89 := by kernel_rfl }
end Go.Proofs.YtembaiccchgllaaGreat
/- What an argument of bytes reads as, by value. -/
namespace Go.Pv
open Go Go.ChangeShapes Go.WideShapes Go.RowKit Go.Deep

theorem vr_rowY {w : World} {A : Option Addr} {L C : Nat} {zs : List Int} (h1 : L ≤ C) (h2 : C ≤ maxLen) (h3 : zs.length = C) (h4 : A = none → C = 0) (h5 : ∀ a', A = some a' → ∀ c, c < C → w.cell? (a'.add c) = some (.int .u8 (zs.getD c 0))) :
    VR (gW w) (.slice A L C) (.sl 1 none ((zs.take L).map Y)) := by
  cases A with
  | none =>
    have hC := h4 rfl
    have hL : L = 0 := by omega
    subst hC; subst hL
    exact .nilsl 1 none (by simp)
  | some a =>
    rcases Nat.eq_zero_or_pos L with h0 | hpos
    · subst h0; exact .esl 1 none a C (by simp)
    · have hc := h5 a rfl
      have hs : a.spot = none := by
        have := hc 0 (by omega)
        rw [add0] at this
        exact cell_spot this
      have key := VR.sl (g := gW w) 1 none a.block a.off C ((zs.take L).map Y) (fun i => [Y (zs.getD i 0)]) (fun k => .int .u8 (zs.getD k 0)) (by omega) (by simp) (by simp; omega) h2 (fun i p hi => ?_) (fun k hk => ?_) (fun i j q hi hq => ?_)
      · have hl : ((zs.take L).map Y).length = L := by simp; omega
        rw [hl, ← addr_eq hs] at key
        exact key
      · rw [List.getElem?_map, Option.map_eq_some_iff] at hi
        obtain ⟨z, hz, rfl⟩ := hi
        have hlt := (List.getElem?_eq_some_iff.1 hz).1
        simp only [List.length_take] at hlt
        rw [List.getElem?_take_of_lt (by omega)] at hz
        exact ⟨by simp [PV.flat, PV.one, List.getD_eq_getElem?_getD, hz], rfl⟩
      · simp only [List.length_map, List.length_take] at hk
        have := hc k (by omega)
        show w.cell? ⟨a.block, a.off + k, none⟩ = _
        rw [← this]
        rw [addr_eq hs, Addr.add_n]
      · have hj : j = 0 := by rcases j with _ | j; rfl; simp at hq
        subst hj
        simp at hq
        subst hq
        simp only [Nat.mul_one, Nat.add_zero]
        exact .val _
theorem wf_u8 {n : Int} (h : (Lit.int .u8 n).wf = true) : 0 ≤ n ∧ n ≤ 255 := by
  simp [Lit.wf] at h
  rw [show IntKind.u8.min = 0 by rfl, show IntKind.u8.max = 255 by rfl] at h
  exact h
section
variable {H : Type} {enc : TypeId × Value → H} {P : Program} {W : World} {held : Bool}
theorem ar_bytes {t e : TypeId} {v : Value} {d : DataW H} {ps : List MemPlace} (ht : P.underlying t = some (.slice e)) (he : P.underlying e = some (.int .u8)) (hc : P.cellsOf e = 1) (hval : ∃ r b, Value.okWide P W r b t v) (h : DataW.Trod enc P W 0 (fun _ => true) held t v d ps) :
    ∃ l : List Int, VR (gW W) v (.sl 1 none (l.map Y)) ∧ l.length ≤ maxLen ∧ ∀ i, i < l.length → 0 ≤ l.getD i 0 ∧ l.getD i 0 ≤ 255 := by
  obtain ⟨r, b, hval⟩ := hval
  obtain ⟨fuel, h⟩ := h
  have key : ∀ cs x, DataW.trod enc P W 0 (fun _ => true) held fuel t cs = some x → ∃ (u : Value) (l : List Int), cs = [u] ∧ VR (gW W) u (.sl 1 none (l.map Y)) ∧ l.length ≤ maxLen ∧ ∀ n ∈ l, (Lit.int .u8 n).wf = true := fun cs x h => by
    rcases open_ints ht he hc h with ⟨rfl, -⟩ | ⟨a, len, cap, zs, rfl, -, hl, hm, hz, -, hcell, hwf⟩
    · exact ⟨_, [], rfl, .nilsl 1 none (by simp), by simp, fun n hn => by simp at hn⟩
    · simp only [if_true] at hz
      refine ⟨_, zs.take len, rfl, vr_rowY hl hm hz (fun h => by cases h) (fun a' ha c hc => ?_), by simp; omega, fun n hn => hwf n (List.mem_of_mem_take hn)⟩
      cases ha
      exact hcell c (by omega)
  obtain ⟨u, l, hcs, h1, h2, h3⟩ := key _ _ h
  have e : v = u := by
    cases v with
    | agg cs => unfold Value.okWide at hval; rw [ht] at hval; simp [Cell.okWide, Cell.ok, ht] at hval
    | tuple cs => unfold Value.okWide at hval; rw [ht] at hval; simp [Cell.okWide, Cell.ok, ht] at hval
    | _ => exact (List.cons.inj hcs).1
  refine ⟨l, e ▸ h1, h2, fun i hi => ?_⟩
  rw [List.getD_eq_getElem?_getD, List.getElem?_eq_getElem hi]
  exact wf_u8 (h3 _ (List.getElem_mem hi))
end
end Go.Pv
