/- The library's sort lies in this program: the numbers and the kit's list of facts. -/
import Derived.Shelf.GgSortMore.Stable
import Derived.Test.YtbohjibbgppfaaaGreatChecked
import Derived.Deep.QuietTactic
import Derived.Test.YtbohjibbgppfaaaGreatJSq
import Derived.Test.YtbohjibbgppfaaaGreatJMg
import Derived.Test.YtbohjibbgppfaaaGreatJZb
set_option linter.unusedSectionVars false
namespace Go.Proofs.YtbohjibbgppfaaaGreat
open Go Go.Proofs Go.Shelf

def sl8_ren : Go.Shelf.Ren := ⟨fun | 8 => 223 | 13 => 251 | 14 => 252 | 16 => 254 | 15 => 253 | 29 => 270 | 30 => 271 | 42 => 276 | 49 => 278 | n => n, fun | 20 => 20 | 26 => 170 | 36 => 188 | 0 => 0 | 38 => 190 | 42 => 194 | 3 => 3 | 4 => 4 | 47 => 168 | 17 => 17 | 33 => 185 | 34 => 186 | 89 => 218 | 12 => 12 | 56 => 210 | 82 => 211 | 5 => 5 | 83 => 212 | 84 => 213 | 85 => 214 | 86 => 215 | 87 => 216 | n => n, fun  | n => n⟩
theorem sl8 : LaysGt.n8 Tryz.prog sl8_ren := {
  mixed := by kernel_rfl
  f8 := Tryz.func223.trans (congrArg some (by kernel_rfl))
  f13 := Tryz.func251.trans (congrArg some (by kernel_rfl))
  f14 := Tryz.func252.trans (congrArg some (by kernel_rfl))
  f15 := Tryz.func253.trans (congrArg some (by kernel_rfl))
  f16 := Tryz.func254.trans (congrArg some (by kernel_rfl))
  f29 := Tryz.func270.trans (congrArg some (by kernel_rfl))
  f30 := Tryz.func271.trans (congrArg some (by kernel_rfl))
  f42 := Tryz.func276.trans (congrArg some (by kernel_rfl))
  f49 := Tryz.func278.trans (congrArg some (by kernel_rfl))
  t0 := Tryz.underlying0
  a0 := Tryz.isAgg0
  z0 := Tryz.sizeOf0
  v0 := Tryz.zeroValue0
  i0 := by kernel_rfl
  t3 := Tryz.underlying3
  a3 := Tryz.isAgg3
  z3 := Tryz.sizeOf3
  v3 := Tryz.zeroValue3
  i3 := by kernel_rfl
  t4 := Tryz.underlying4
  a4 := Tryz.isAgg4
  z4 := Tryz.sizeOf4
  v4 := Tryz.zeroValue4
  i4 := by kernel_rfl
  t5 := Tryz.underlying5
  a5 := Tryz.isAgg5
  z5 := Tryz.sizeOf5
  v5 := Tryz.zeroValue5
  i5 := by kernel_rfl
  t12 := Tryz.underlying12
  a12 := Tryz.isAgg12
  z12 := Tryz.sizeOf12
  v12 := Tryz.zeroValue12
  i12 := by kernel_rfl
  t17 := Tryz.underlying17
  a17 := Tryz.isAgg17
  z17 := Tryz.sizeOf17
  v17 := Tryz.zeroValue17
  i17 := by kernel_rfl
  t20 := Tryz.underlying20
  a20 := Tryz.isAgg20
  z20 := Tryz.sizeOf20
  v20 := Tryz.zeroValue20
  i20 := by kernel_rfl
  t26 := Tryz.underlying170
  a26 := Tryz.isAgg170
  z26 := Tryz.sizeOf170
  v26 := Tryz.zeroValue170
  i26 := by kernel_rfl
  t33 := Tryz.underlying185
  a33 := Tryz.isAgg185
  z33 := Tryz.sizeOf185
  v33 := Tryz.zeroValue185
  i33 := by kernel_rfl
  t34 := Tryz.underlying186
  a34 := Tryz.isAgg186
  z34 := Tryz.sizeOf186
  v34 := Tryz.zeroValue186
  i34 := by kernel_rfl
  t36 := Tryz.underlying188
  a36 := Tryz.isAgg188
  z36 := Tryz.sizeOf188
  v36 := Tryz.zeroValue188
  i36 := by kernel_rfl
  t38 := Tryz.underlying190
  a38 := Tryz.isAgg190
  z38 := Tryz.sizeOf190
  v38 := Tryz.zeroValue190
  i38 := by kernel_rfl
  t42 := Tryz.underlying194
  a42 := Tryz.isAgg194
  z42 := Tryz.sizeOf194
  v42 := Tryz.zeroValue194
  i42 := by kernel_rfl
  t47 := Tryz.underlying168
  a47 := Tryz.isAgg168
  z47 := Tryz.sizeOf168
  v47 := Tryz.zeroValue168
  i47 := by kernel_rfl
  t56 := Tryz.underlying210
  a56 := Tryz.isAgg210
  z56 := Tryz.sizeOf210
  v56 := Tryz.zeroValue210
  i56 := by kernel_rfl
  t82 := Tryz.underlying211
  a82 := Tryz.isAgg211
  z82 := Tryz.sizeOf211
  v82 := Tryz.zeroValue211
  i82 := by kernel_rfl
  t83 := Tryz.underlying212
  a83 := Tryz.isAgg212
  z83 := Tryz.sizeOf212
  v83 := Tryz.zeroValue212
  i83 := by kernel_rfl
  t84 := Tryz.underlying213
  a84 := Tryz.isAgg213
  z84 := Tryz.sizeOf213
  v84 := Tryz.zeroValue213
  i84 := by kernel_rfl
  t85 := Tryz.underlying214
  a85 := Tryz.isAgg214
  z85 := Tryz.sizeOf214
  v85 := Tryz.zeroValue214
  i85 := by kernel_rfl
  t86 := Tryz.underlying215
  a86 := Tryz.isAgg215
  z86 := Tryz.sizeOf215
  v86 := Tryz.zeroValue215
  i86 := by kernel_rfl
  t87 := Tryz.underlying216
  a87 := Tryz.isAgg216
  z87 := Tryz.sizeOf216
  v87 := Tryz.zeroValue216
  i87 := by kernel_rfl
  t89 := Tryz.underlying218
  a89 := Tryz.isAgg218
  z89 := Tryz.sizeOf218
  v89 := Tryz.zeroValue218
  i89 := by kernel_rfl }
end Go.Proofs.YtbohjibbgppfaaaGreat
/- The comparison that the program sorts by: it reads and draws only. -/
namespace Go.Proofs.YtbohjibbgppfaaaGreat
open Go Go.Proofs Go.Shelf Go.RowKit Go.Lib Go.Sort
set_option maxHeartbeats 32000000
set_option maxRecDepth 100000

theorem one_one {p : Pv.PV} (h : p.one = true) : ∀ q ∈ [p], ∀ c, q.flat = some c → (c.all Pv.PV.one) = true := Pv.one_one h

theorem cmpLists_q (w : World) (bs bt cs ct : Nat) (s t : List Int) (hs : ∀ k, k < s.length → w.cell? ⟨bs, k, none⟩ = some (.int .i64 (s.getD k 0))) (ht : ∀ k, k < t.length → w.cell? ⟨bt, k, none⟩ = some (.int .i64 (t.getD k 0))) (hls : s.length ≤ 1048576) (hlt : t.length ≤ 1048576) :
    Calls Tryz.prog 225 #[.slice (some ⟨bs, 0, none⟩) s.length cs, .slice (some ⟨bt, 0, none⟩) t.length ct] w fun e w' => e = .returned (.int .i64 (cmpX s t)) ∧ ∃ q, w' = w.drewN q := by
  go_enter Tryz.func225, Tryz.ntmps225
  go_wp2
  go_loopw [5] (fun vi wr => ∃ (i n : Nat), vi = .int .i64 i ∧ i ≤ s.length ∧ i ≤ t.length ∧ wr = w.drewN n ∧ cmpX (s.drop i) (t.drop i) = cmpX s t) (fun vi _ => s.length - (intOf vi).toNat)
  case atStart => exact ⟨0, 0, by go_num, Nat.zero_le _, Nat.zero_le _, rfl, rfl⟩
  case round =>
    obtain ⟨i, n, rfl, hi, hj, rfl, hc⟩ := hrel
    by_cases h1 : i < s.length
    · have ci := hs i h1
      have es := drop_cons' 0 h1
      by_cases h2 : i < t.length
      · have cj := ht i h2
        have et := drop_cons' 0 h2
        rw [es, et] at hc
        generalize s.getD i 0 = x at ci hc
        generalize t.getD i 0 = y at cj hc
        have Hc : Hid (cmpX (x :: s.drop (i + 1)) (y :: t.drop (i + 1)) = cmpX s t) := hc
        clear hc es et hs ht
        by_cases he : x = y
        · subst he
          go_wp2
          go_quiet (fail)
          go_wp2
          case roundEnd => exact ⟨⟨i + 1, n + nq, by go_num, by omega, by omega, rfl, by have := Hc.out; simpa only [cmpX, if_true] using this⟩, by simp [intOf]; omega⟩
        · go_wp2
          go_quiet (fail)
          rw [show (x != y) = true by simp [he]]
          go_wp2
          go_quiet (fail)
          by_cases hlt : x < y
          · rw [decide_eq_true hlt]
            have hv : cmpX s t = -1 := by have := Hc.out; simp only [cmpX, if_neg he, if_pos hlt] at this; exact this.symm
            go_wp2
            go_ret
            try rw [hv]
            first | exact ⟨rfl, _, rfl⟩ | exact ⟨rfl, _, by rw [World.drewN_drewN, World.drewN_drewN]⟩
          · rw [decide_eq_false hlt]
            have hv : cmpX s t = 1 := by have := Hc.out; simp only [cmpX, if_neg he, if_neg hlt] at this; exact this.symm
            go_wp2
            go_ret
            try rw [hv]
            first | exact ⟨rfl, _, rfl⟩ | exact ⟨rfl, _, by rw [World.drewN_drewN, World.drewN_drewN]⟩
      · have hv : cmpX s t = 1 := by rw [es, List.drop_of_length_le (Nat.le_of_not_lt h2)] at hc; exact hc.symm
        clear hc es hs ht ci
        go_wp2
        all_goals first | (exfalso; omega) | (go_ret; rw [hv]; exact ⟨rfl, _, rfl⟩)
    · by_cases h2 : i < t.length
      · have hv : cmpX s t = -1 := by rw [drop_cons' 0 h2, List.drop_of_length_le (Nat.le_of_not_lt h1)] at hc; exact hc.symm
        clear hc hs ht
        go_wp2
        all_goals first | (exfalso; omega) | (go_ret; rw [hv]; exact ⟨rfl, _, rfl⟩)
      · have hv : cmpX s t = 0 := by rw [List.drop_of_length_le (Nat.le_of_not_lt h2), List.drop_of_length_le (Nat.le_of_not_lt h1)] at hc; exact hc.symm
        clear hc hs ht
        go_wp2
        all_goals first | (exfalso; omega) | (go_ret; rw [hv]; exact ⟨rfl, _, rfl⟩)
end Go.Proofs.YtbohjibbgppfaaaGreat
/- What sortRows does to a row of lists, by the library's contract. -/
namespace Go.Proofs.YtbohjibbgppfaaaGreat
open Go Go.Proofs Go.Shelf Go.RowKit Go.Lib Go.Sort

section
variable {n : Nat} (R : Nat → List Int) (B C : Nat → Nat)
def encR (i : Fin (n + 1)) : Value := .slice (some ⟨B i, 0, none⟩) (R i).length (C i)
theorem sw_other {α : Type} [Inhabited α] (enc : α → Value) (w : World) (blk off m : Nat) (dk : Array α) (os : Array Obj) (p : Addr) (hp : p.block ≠ blk) (hl : p.block < w.heap.size) : (sortWorld enc w blk off m dk os).cell? p = w.cell? p := by
  unfold sortWorld
  rw [cell?_grow _ _ _ (by rw [size_putRow]; exact hl), cell?_putRow_other _ _ _ _ _ _ (.inl hp)]; rfl
end
noncomputable def siT : TypeInfo := (Tryz.prog.info? 39).get (by kernel_rfl)
noncomputable def siE : TypeInfo := (Tryz.prog.info? 27).get (by kernel_rfl)
theorem siK (n : Nat) (h2 : 2 ≤ n) : Lib.swapperK n siE 23 = 9 := by
  have a : siE.hasPointers = true := by kernel_rfl
  have b : siE.bytes = 24 := by kernel_rfl
  have c : (n == 0) = false := by simp; omega
  have d : (n == 1) = false := by simp; omega
  simp [Lib.swapperK, a, b, c, d]
theorem swap_tiny (n : Nat) (hn : n ≤ 1) : ∃ f, Tryz.prog.funcs.findIdx? (·.name == "internal/reflectlite" ++ ".Swapper$" ++ toString (Lib.swapperK n siE 23)) = some f := by
  have : n = 0 ∨ n = 1 := by omega
  rcases this with rfl | rfl
  · exact ⟨261, by kernel_rfl⟩
  · exact ⟨262, by kernel_rfl⟩
end Go.Proofs.YtbohjibbgppfaaaGreat
/- sortRows as a call to which the rows are lent. -/
namespace Go.Proofs.YtbohjibbgppfaaaGreat
open Go Go.Proofs Go.Shelf Go.RowKit Go.Lib Go.Sort Go.Pv

theorem heap_grow_other (w : World) (q blk : Nat) {α : Type} [Inhabited α] (enc : α → Value) (d : Array α) (os : Array Obj) {k : Nat} (hk : k < w.heap.size) (hne : k ≠ blk) : (grow (putRow enc (Sort.ahead w q) blk 0 d) os).heap[k]? = w.heap[k]? := by
  show ((Array.modify w.heap blk _) ++ os)[k]? = _
  rw [Array.getElem?_append_left (by simpa using hk), Array.getElem?_modify]
  rw [if_neg (Ne.symm hne)]
theorem heap_grow_row (w : World) (q blk : Nat) {α : Type} [Inhabited α] (enc : α → Value) (d : Array α) (os : Array Obj) {cur : Array Value} {e : TypeId} {fz : Nat × Nat} (h : w.heap[blk]? = some (.cells cur e fz)) : (grow (putRow enc (Sort.ahead w q) blk 0 d) os).heap[blk]? = some (.cells (putCells enc 0 d cur) e fz) := by
  have hk : blk < w.heap.size := (Array.getElem?_eq_some_iff.1 h).1
  show ((Array.modify w.heap blk _) ++ os)[blk]? = _
  rw [Array.getElem?_append_left (by simpa using hk), Array.getElem?_modify, if_pos rfl, h]
  rfl
theorem putCells_at {α : Type} [Inhabited α] (enc : α → Value) (d : Array α) (cur : Array Value) (j : Nat) (hj : j < cur.size) : (putCells enc 0 d cur).getD j undef = if j < d.size then enc d[j]! else cur.getD j undef := by
  unfold putCells
  simp [Array.getD_eq_getD_getElem?, hj]
theorem size_putCells {α : Type} [Inhabited α] (enc : α → Value) (d : Array α) (cur : Array Value) : (putCells enc 0 d cur).size = cur.size := by simp [putCells]
theorem grow_below (w : World) (os : Array Obj) : RowKit.Below w.heap.size w (grow w os) :=
  ⟨rfl, rfl, rfl, by rw [size_grow]; omega, fun k hk => by
    show (w.heap ++ os)[k]? = _
    rw [Array.getElem?_append_left hk]⟩
theorem belowL_of {w0 : Ini} {w' : World} (h : RowKit.Below w0.w.heap.size w0.w w') : BelowL w0 w' := (BelowL.refl w0).step h
theorem row_cells {g : Ghost} {w : World} {D : Nat → Bool} {e1 e2 : TypeId} {rows : List (List Int)} {L : Pv.Loc} {cur : Array Value} {rc : Nat → Array Value} (hg : GridOwn g w D e1 e2 (rows.map fun r => r.map I).length (rows.map fun r => r.map I) L cur rc) {i : Nat} (hi : i < rows.length) :
    cur.getD i undef = .slice (some ⟨L.rows i, 0, none⟩) (rows.getD i []).length (L.caps i) ∧ w.heap[L.rows i]? = some (.cells (rc i) e2 (0, 0)) ∧ (rc i).size = L.caps i ∧ (rows.getD i []).length ≤ L.caps i ∧ L.caps i ≤ maxLen ∧ ∀ k, k < (rows.getD i []).length → (rc i).getD k undef = .int .i64 ((rows.getD i []).getD k 0) := by
  have hr : (rows.map fun r => r.map I)[i]? = some ((rows.getD i []).map I) := idx_gridI hi
  obtain ⟨a1, a2, a3, a4⟩ := hg.hrow i _ hr
  refine ⟨by simpa using a1, a3, a4, by simpa using a2.1, a2.2, fun k hk => ?_⟩
  have := (hg.hv i _ k (I ((rows.getD i []).getD k 0)) hr (idx_I hk)).2
  exact VR.val_inv this
end Go.Proofs.YtbohjibbgppfaaaGreat
