/- The library's sort lies in this program: the numbers and the kit's list of facts. -/
import Derived.Shelf.GgSortMore.Stable
import Derived.Test.YtepjlgilopfnpaaGreatChecked
import Derived.Deep.QuietTactic
import Derived.Test.YtepjlgilopfnpaaGreatJSt
import Derived.Test.YtepjlgilopfnpaaGreatJMg
import Derived.Test.YtepjlgilopfnpaaGreatJKy
set_option linter.unusedSectionVars false
namespace Go.Proofs.YtepjlgilopfnpaaGreat
open Go Go.Proofs Go.Shelf

def sl8_ren : Go.Shelf.Ren := ⟨fun | 8 => 165 | 13 => 189 | 14 => 190 | 16 => 192 | 15 => 191 | 29 => 209 | 30 => 210 | 42 => 214 | 49 => 215 | n => n, fun | 20 => 20 | 26 => 141 | 36 => 156 | 0 => 0 | 38 => 158 | 42 => 162 | 3 => 3 | 4 => 4 | 47 => 139 | 17 => 17 | 33 => 153 | 34 => 154 | 89 => 184 | 12 => 12 | 56 => 176 | 82 => 177 | 5 => 5 | 83 => 178 | 84 => 179 | 85 => 180 | 86 => 181 | 87 => 182 | n => n, fun  | n => n⟩
theorem sl8 : LaysGt.n8 Tryz.prog sl8_ren := {
 mixed := by kernel_rfl
 f8 := Tryz.func165.trans (congrArg some (by kernel_rfl))
 f13 := Tryz.func189.trans (congrArg some (by kernel_rfl))
 f14 := Tryz.func190.trans (congrArg some (by kernel_rfl))
 f15 := Tryz.func191.trans (congrArg some (by kernel_rfl))
 f16 := Tryz.func192.trans (congrArg some (by kernel_rfl))
 f29 := Tryz.func209.trans (congrArg some (by kernel_rfl))
 f30 := Tryz.func210.trans (congrArg some (by kernel_rfl))
 f42 := Tryz.func214.trans (congrArg some (by kernel_rfl))
 f49 := Tryz.func215.trans (congrArg some (by kernel_rfl))
 t0 := Tryz.underlying0
 a0 := Tryz.isAgg0
 z0 := Tryz.sizeOf0
 v0 := Tryz.zeroValue0
 i0 := by kernel_rfl
 t3 := Tryz.underlying3
 a3 := Tryz.isAgg3
 z3 := Tryz.sizeOf3
 v3 := Tryz.zeroValue3
 i3 := by kernel_rfl
 t4 := Tryz.underlying4
 a4 := Tryz.isAgg4
 z4 := Tryz.sizeOf4
 v4 := Tryz.zeroValue4
 i4 := by kernel_rfl
 t5 := Tryz.underlying5
 a5 := Tryz.isAgg5
 z5 := Tryz.sizeOf5
 v5 := Tryz.zeroValue5
 i5 := by kernel_rfl
 t12 := Tryz.underlying12
 a12 := Tryz.isAgg12
 z12 := Tryz.sizeOf12
 v12 := Tryz.zeroValue12
 i12 := by kernel_rfl
 t17 := Tryz.underlying17
 a17 := Tryz.isAgg17
 z17 := Tryz.sizeOf17
 v17 := Tryz.zeroValue17
 i17 := by kernel_rfl
 t20 := Tryz.underlying20
 a20 := Tryz.isAgg20
 z20 := Tryz.sizeOf20
 v20 := Tryz.zeroValue20
 i20 := by kernel_rfl
 t26 := Tryz.underlying141
 a26 := Tryz.isAgg141
 z26 := Tryz.sizeOf141
 v26 := Tryz.zeroValue141
 i26 := by kernel_rfl
 t33 := Tryz.underlying153
 a33 := Tryz.isAgg153
 z33 := Tryz.sizeOf153
 v33 := Tryz.zeroValue153
 i33 := by kernel_rfl
 t34 := Tryz.underlying154
 a34 := Tryz.isAgg154
 z34 := Tryz.sizeOf154
 v34 := Tryz.zeroValue154
 i34 := by kernel_rfl
 t36 := Tryz.underlying156
 a36 := Tryz.isAgg156
 z36 := Tryz.sizeOf156
 v36 := Tryz.zeroValue156
 i36 := by kernel_rfl
 t38 := Tryz.underlying158
 a38 := Tryz.isAgg158
 z38 := Tryz.sizeOf158
 v38 := Tryz.zeroValue158
 i38 := by kernel_rfl
 t42 := Tryz.underlying162
 a42 := Tryz.isAgg162
 z42 := Tryz.sizeOf162
 v42 := Tryz.zeroValue162
 i42 := by kernel_rfl
 t47 := Tryz.underlying139
 a47 := Tryz.isAgg139
 z47 := Tryz.sizeOf139
 v47 := Tryz.zeroValue139
 i47 := by kernel_rfl
 t56 := Tryz.underlying176
 a56 := Tryz.isAgg176
 z56 := Tryz.sizeOf176
 v56 := Tryz.zeroValue176
 i56 := by kernel_rfl
 t82 := Tryz.underlying177
 a82 := Tryz.isAgg177
 z82 := Tryz.sizeOf177
 v82 := Tryz.zeroValue177
 i82 := by kernel_rfl
 t83 := Tryz.underlying178
 a83 := Tryz.isAgg178
 z83 := Tryz.sizeOf178
 v83 := Tryz.zeroValue178
 i83 := by kernel_rfl
 t84 := Tryz.underlying179
 a84 := Tryz.isAgg179
 z84 := Tryz.sizeOf179
 v84 := Tryz.zeroValue179
 i84 := by kernel_rfl
 t85 := Tryz.underlying180
 a85 := Tryz.isAgg180
 z85 := Tryz.sizeOf180
 v85 := Tryz.zeroValue180
 i85 := by kernel_rfl
 t86 := Tryz.underlying181
 a86 := Tryz.isAgg181
 z86 := Tryz.sizeOf181
 v86 := Tryz.zeroValue181
 i86 := by kernel_rfl
 t87 := Tryz.underlying182
 a87 := Tryz.isAgg182
 z87 := Tryz.sizeOf182
 v87 := Tryz.zeroValue182
 i87 := by kernel_rfl
 t89 := Tryz.underlying184
 a89 := Tryz.isAgg184
 z89 := Tryz.sizeOf184
 v89 := Tryz.zeroValue184
 i89 := by kernel_rfl }
end Go.Proofs.YtepjlgilopfnpaaGreat
/- The comparison that the program sorts by: it reads and draws only. -/
namespace Go.Proofs.YtepjlgilopfnpaaGreat
open Go Go.Proofs Go.Shelf Go.RowKit Go.Lib Go.Sort
set_option maxHeartbeats 32000000
set_option maxRecDepth 100000

theorem one_one {p : Pv.PV} (h : p.one = true) : ∀ q ∈ [p], ∀ c, q.flat = some c → (c.all Pv.PV.one) = true := Pv.one_one h

theorem cmpLists_q (w : World) (bs bt cs ct : Nat) (s t : List Int) (hs : ∀ k, k < s.length → w.cell? ⟨bs, k, none⟩ = some (.int .i64 (s.getD k 0))) (ht : ∀ k, k < t.length → w.cell? ⟨bt, k, none⟩ = some (.int .i64 (t.getD k 0))) (hls : s.length ≤ 1048576) (hlt : t.length ≤ 1048576) :
 Calls Tryz.prog 167 #[.slice (some ⟨bs, 0, none⟩) s.length cs, .slice (some ⟨bt, 0, none⟩) t.length ct] w fun e w' => e = .returned (.int .i64 (cmpX s t)) ∧ ∃ q, w' = w.drewN q := by
 go_enter Tryz.func167, Tryz.ntmps167
 go_wp2
 go_loopw [5] (fun vi wr => ∃ (i n : Nat), vi = .int .i64 i ∧ i ≤ s.length ∧ i ≤ t.length ∧ wr = w.drewN n ∧ cmpX (s.drop i) (t.drop i) = cmpX s t) (fun vi _ => s.length - (intOf vi).toNat)
 case atStart => exact ⟨0, 0, by go_num, Nat.zero_le _, Nat.zero_le _, rfl, rfl⟩
 case round =>
  obtain ⟨i, n, rfl, hi, hj, rfl, hc⟩ := hrel
  by_cases h1 : i < s.length
  · have ci := hs i h1
    have es := drop_cons' 0 h1
    by_cases h2 : i < t.length
    · have cj := ht i h2
      have et := drop_cons' 0 h2
      rw [es, et] at hc
      generalize s.getD i 0 = x at ci hc
      generalize t.getD i 0 = y at cj hc
      have Hc : Hid (cmpX (x :: s.drop (i + 1)) (y :: t.drop (i + 1)) = cmpX s t) := hc
      clear hc es et hs ht
      by_cases he : x = y
      · subst he
        go_wp2
        go_quiet (fail)
        go_wp2
        case roundEnd => exact ⟨⟨i + 1, n + nq, by go_num, by omega, by omega, rfl, by have := Hc.out; simpa only [cmpX, if_true] using this⟩, by simp [intOf]; omega⟩
      · go_wp2
        go_quiet (fail)
        rw [show (x != y) = true by simp [he]]
        go_wp2
        go_quiet (fail)
        by_cases hlt : x < y
        · rw [decide_eq_true hlt]
          have hv : cmpX s t = -1 := by have := Hc.out; simp only [cmpX, if_neg he, if_pos hlt] at this; exact this.symm
          go_wp2
          go_ret
          try rw [hv]
          first | exact ⟨rfl, _, rfl⟩ | exact ⟨rfl, _, by rw [World.drewN_drewN, World.drewN_drewN]⟩
        · rw [decide_eq_false hlt]
          have hv : cmpX s t = 1 := by have := Hc.out; simp only [cmpX, if_neg he, if_neg hlt] at this; exact this.symm
          go_wp2
          go_ret
          try rw [hv]
          first | exact ⟨rfl, _, rfl⟩ | exact ⟨rfl, _, by rw [World.drewN_drewN, World.drewN_drewN]⟩
    · have hv : cmpX s t = 1 := by rw [es, List.drop_of_length_le (Nat.le_of_not_lt h2)] at hc; exact hc.symm
      clear hc es hs ht ci
      go_wp2
      all_goals first | (exfalso; omega) | (go_ret; rw [hv]; exact ⟨rfl, _, rfl⟩)
  · by_cases h2 : i < t.length
    · have hv : cmpX s t = -1 := by rw [drop_cons' 0 h2, List.drop_of_length_le (Nat.le_of_not_lt h1)] at hc; exact hc.symm
      clear hc hs ht
      go_wp2
      all_goals first | (exfalso; omega) | (go_ret; rw [hv]; exact ⟨rfl, _, rfl⟩)
    · have hv : cmpX s t = 0 := by rw [List.drop_of_length_le (Nat.le_of_not_lt h2), List.drop_of_length_le (Nat.le_of_not_lt h1)] at hc; exact hc.symm
      clear hc hs ht
      go_wp2
      all_goals first | (exfalso; omega) | (go_ret; rw [hv]; exact ⟨rfl, _, rfl⟩)
end Go.Proofs.YtepjlgilopfnpaaGreat
/- What sortRows does to a row of lists, by the library's contract. -/
namespace Go.Proofs.YtepjlgilopfnpaaGreat
open Go Go.Proofs Go.Shelf Go.RowKit Go.Lib Go.Sort

section
variable {n : Nat} (R : Nat → List Int) (B C : Nat → Nat)
def encR (i : Fin (n + 1)) : Value := .slice (some ⟨B i, 0, none⟩) (R i).length (C i)
theorem sw_other {α : Type} [Inhabited α] (enc : α → Value) (w : World) (blk off m : Nat) (dk : Array α) (os : Array Obj) (p : Addr) (hp : p.block ≠ blk) (hl : p.block < w.heap.size) : (sortWorld enc w blk off m dk os).cell? p = w.cell? p := by
 unfold sortWorld
 rw [cell?_grow _ _ _ (by rw [size_putRow]; exact hl), cell?_putRow_other _ _ _ _ _ _ (.inl hp)]; rfl
end
noncomputable def siT : TypeInfo := (Tryz.prog.info? 42).get (by kernel_rfl)
noncomputable def siE : TypeInfo := (Tryz.prog.info? 27).get (by kernel_rfl)
theorem siK (n : Nat) (h2 : 2 ≤ n) : Lib.swapperK n siE 23 = 9 := by
 have a : siE.hasPointers = true := by kernel_rfl
 have b : siE.bytes = 24 := by kernel_rfl
 have c : (n == 0) = false := by simp; omega
 have d : (n == 1) = false := by simp; omega
 simp [Lib.swapperK, a, b, c, d]
theorem swap_tiny (n : Nat) (hn : n ≤ 1) : ∃ f, Tryz.prog.funcs.findIdx? (·.name == "internal/reflectlite" ++ ".Swapper$" ++ toString (Lib.swapperK n siE 23)) = some f := by
 have : n = 0 ∨ n = 1 := by omega
 rcases this with rfl | rfl
 · exact ⟨200, by kernel_rfl⟩
 · exact ⟨201, by kernel_rfl⟩
end Go.Proofs.YtepjlgilopfnpaaGreat
/- sortRows as a call to which the rows are lent. -/
namespace Go.Proofs.YtepjlgilopfnpaaGreat
open Go Go.Proofs Go.Shelf Go.RowKit Go.Lib Go.Sort Go.Pv

theorem heap_grow_other (w : World) (q blk : Nat) {α : Type} [Inhabited α] (enc : α → Value) (d : Array α) (os : Array Obj) {k : Nat} (hk : k < w.heap.size) (hne : k ≠ blk) : (grow (putRow enc (Sort.ahead w q) blk 0 d) os).heap[k]? = w.heap[k]? := by
 show ((Array.modify w.heap blk _) ++ os)[k]? = _
 rw [Array.getElem?_append_left (by simpa using hk), Array.getElem?_modify]
 rw [if_neg (Ne.symm hne)]
theorem heap_grow_row (w : World) (q blk : Nat) {α : Type} [Inhabited α] (enc : α → Value) (d : Array α) (os : Array Obj) {cur : Array Value} {e : TypeId} {fz : Nat × Nat} (h : w.heap[blk]? = some (.cells cur e fz)) : (grow (putRow enc (Sort.ahead w q) blk 0 d) os).heap[blk]? = some (.cells (putCells enc 0 d cur) e fz) := by
 have hk : blk < w.heap.size := (Array.getElem?_eq_some_iff.1 h).1
 show ((Array.modify w.heap blk _) ++ os)[blk]? = _
 rw [Array.getElem?_append_left (by simpa using hk), Array.getElem?_modify, if_pos rfl, h]
 rfl
theorem putCells_at {α : Type} [Inhabited α] (enc : α → Value) (d : Array α) (cur : Array Value) (j : Nat) (hj : j < cur.size) : (putCells enc 0 d cur).getD j undef = if j < d.size then enc d[j]! else cur.getD j undef := by
 unfold putCells
 simp [Array.getD_eq_getD_getElem?, hj]
theorem size_putCells {α : Type} [Inhabited α] (enc : α → Value) (d : Array α) (cur : Array Value) : (putCells enc 0 d cur).size = cur.size := by simp [putCells]
theorem grow_below (w : World) (os : Array Obj) : RowKit.Below w.heap.size w (grow w os) :=
 ⟨rfl, rfl, rfl, by rw [size_grow]; omega, fun k hk => by
  show (w.heap ++ os)[k]? = _
  rw [Array.getElem?_append_left hk]⟩
theorem belowL_of {w0 : Ini} {w' : World} (h : RowKit.Below w0.w.heap.size w0.w w') : BelowL w0 w' := (BelowL.refl w0).step h
theorem row_cells {g : Ghost} {w : World} {D : Nat → Bool} {e1 e2 : TypeId} {rows : List (List Int)} {L : Pv.Loc} {cur : Array Value} {rc : Nat → Array Value} (hg : GridOwn g w D e1 e2 (rows.map fun r => r.map I).length (rows.map fun r => r.map I) L cur rc) {i : Nat} (hi : i < rows.length) :
 cur.getD i undef = .slice (some ⟨L.rows i, 0, none⟩) (rows.getD i []).length (L.caps i) ∧ w.heap[L.rows i]? = some (.cells (rc i) e2 (0, 0)) ∧ (rc i).size = L.caps i ∧ (rows.getD i []).length ≤ L.caps i ∧ L.caps i ≤ maxLen ∧ ∀ k, k < (rows.getD i []).length → (rc i).getD k undef = .int .i64 ((rows.getD i []).getD k 0) := by
 have hr : (rows.map fun r => r.map I)[i]? = some ((rows.getD i []).map I) := idx_gridI hi
 obtain ⟨a1, a2, a3, a4⟩ := hg.hrow i _ hr
 refine ⟨by simpa using a1, a3, a4, by simpa using a2.1, a2.2, fun k hk => ?_⟩
 have := (hg.hv i _ k (I ((rows.getD i []).getD k 0)) hr (idx_I hk)).2
 exact VR.val_inv this
end Go.Proofs.YtepjlgilopfnpaaGreat
/- sortRows, where it sorts congruences. -/
namespace Go.Proofs.YtepjlgilopfnpaaGreat
open Go Go.Proofs Go.Shelf Go.RowKit Go.Lib Go.Sort
set_option maxHeartbeats 32000000
set_option maxRecDepth 100000

theorem ascC_perm {m : Nat} {V W : List (List Int)} (hV : AscC m V) (hs : W.Pairwise fun a b => ¬ cmpC m b a < 0) (hp : W.Perm V) : W = V := by
 refine ascC_unique W V ?_ hV fun x => hp.mem_iff
 have hnd : W.Nodup := hp.symm.nodup (ascC_nodup hV)
 refine (hs.and hnd).imp ?_
 rintro a b ⟨h1, h2⟩
 have h0 : cmpC m a b ≠ 0 := fun e => h2 (cmpC_eq e)
 rw [cmpC_flip] at h1
 omega
theorem blockCount_q (w : World) (m bs cs : Nat) (s : List Int) (hs : ∀ k, k < s.length → w.cell? ⟨bs, k, none⟩ = some (.int .i64 (s.getD k 0))) (hls : s.length ≤ 1048576) (hk : okC m s) :
 Calls Tryz.prog 120 #[.slice (some ⟨bs, 0, none⟩) s.length cs] w fun e w' => e = .returned (.int .i64 (cnt m s : Int)) ∧ ∃ q, w' = w.drewN q := by
 have hsl := hk.1
 have hm : m ≤ 1048576 := by omega
 have hcm : cnt m s = cntK s s.length := by unfold cnt cntK; rw [hsl]
 rw [hcm]
 have hcl := fun k => cntK_le s k
 have hcs := fun k => cntK_succ s k
 have hv : ∀ k, k < s.length → s.getD k 0 = (bk s k : Int) := fun k hk' => by have := hk.2 k (by omega); unfold bk; omega
 go_enter Tryz.func120, Tryz.ntmps120
 go_wp2
 go_loopw [3, 8] (fun vc vi wr => ∃ (i n : Nat), vi = .int .i64 i ∧ vc = .int .i64 (cntK s i : Nat) ∧ i ≤ s.length ∧ wr = w.drewN n) (fun _ vi _ => s.length - (intOf vi).toNat)
 case atStart => exact ⟨0, 0, by go_num, by go_num, Nat.zero_le _, rfl⟩
 case round =>
  obtain ⟨i, n, rfl, rfl, hi, rfl⟩ := hrel
  by_cases h1 : i < s.length
  · have ci := hs i h1
    have hvi := hv i h1
    have hsi := hcs i
    have hli := hcl i
    rw [hvi] at ci
    generalize bk s i = z at *
    generalize cntK s i = c at *
    clear hs hv hcs hcl
    by_cases he : z = i
    · rw [if_pos he] at hsi
      subst he
      go_wp2
      case roundEnd => exact ⟨⟨z + 1, n, (by push_cast; rfl), (by rw [hsi]; push_cast; rfl), by omega, rfl⟩, by simp [intOf]; omega⟩
    · rw [if_neg he] at hsi
      go_wp2
      case roundEnd => exact ⟨⟨i + 1, n, (by push_cast; rfl), (by rw [hsi]; first | rfl | (push_cast; rfl)), by omega, rfl⟩, by simp [intOf]; omega⟩
  · have : i = s.length := by omega
    subst this
    clear hs hv hcs hcl
    go_wp2
    go_ret
    exact ⟨rfl, _, rfl⟩
theorem cmpCong_q (w : World) (m bs bt cs ct : Nat) (s t : List Int) (hs : ∀ k, k < s.length → w.cell? ⟨bs, k, none⟩ = some (.int .i64 (s.getD k 0))) (ht : ∀ k, k < t.length → w.cell? ⟨bt, k, none⟩ = some (.int .i64 (t.getD k 0))) (hls : s.length ≤ 1048576) (hlt : t.length ≤ 1048576) (hks : okC m s) (hkt : okC m t) :
 Calls Tryz.prog 128 #[.slice (some ⟨bs, 0, none⟩) s.length cs, .slice (some ⟨bt, 0, none⟩) t.length ct] w fun e w' => e = .returned (.int .i64 (cmpC m s t)) ∧ ∃ q, w' = w.drewN q := by
 have b1 := fun (w' : World) (h : ∀ a, w'.cell? a = w.cell? a) => blockCount_q w' m bt ct t (fun k hk => (h _).trans (ht k hk)) hlt hkt
 have b2 := fun (w' : World) (h : ∀ a, w'.cell? a = w.cell? a) => blockCount_q w' m bs cs s (fun k hk => (h _).trans (hs k hk)) hls hks
 have hc := fun q => cmpLists_q (w.drewN q) bs bt cs ct s t (by simpa using hs) (by simpa using ht) hls hlt
 have l1 := cnt_le m s
 have l2 := cnt_le m t
 have hm : m ≤ 1048576 := by have := hks.1; omega
 clear hs ht
 go_enter Tryz.func128, Tryz.ntmps128
 have hu : cmpC m s t = if cnt m t ≠ cnt m s then (cnt m t : Int) - (cnt m s : Int) else cmpX s t := rfl
 generalize cnt m s = c1 at *
 generalize cnt m t = c2 at *
 by_cases he : c2 = c1
 · rw [if_neg (fun h => h he)] at hu
   rw [hu]
   subst he
   go_wp2_with (first | ((go_at_call 120; first | (with_reducible refine Calls.mono (b1 _ (by intro a; first | rfl | simp)) ?_) | (with_reducible refine Calls.mono (b2 _ (by intro a; first | rfl | simp)) ?_)); rintro e w' ⟨rfl, q1, rfl⟩) | (go_at_call 167; refine (hc _).mono ?_; rintro e w' ⟨rfl, q3, rfl⟩))
   go_ret
   exact ⟨rfl, _, by first | rfl | (rw [World.drewN_drewN]; done) | (rw [World.drewN_drewN, World.drewN_drewN]; done)⟩
 · rw [if_pos he] at hu
   rw [hu]
   go_wp2_with (first | ((go_at_call 120; first | (with_reducible refine Calls.mono (b1 _ (by intro a; first | rfl | simp)) ?_) | (with_reducible refine Calls.mono (b2 _ (by intro a; first | rfl | simp)) ?_)); rintro e w' ⟨rfl, q1, rfl⟩) | (go_at_call 167; refine (hc _).mono ?_; rintro e w' ⟨rfl, q3, rfl⟩))
   go_ret
   exact ⟨rfl, _, by first | rfl | (rw [World.drewN_drewN]; done) | (rw [World.drewN_drewN, World.drewN_drewN]; done)⟩
theorem lessC_q (w : World) (m : Nat) (bo br blk n c i j : Nat) (r s : List Int) (bi bj ci cj : Nat) (ho : w.cell? ⟨bo, 0, none⟩ = some (.func (.func 128) #[] #[])) (hr : w.cell? ⟨br, 0, none⟩ = some (.slice (some ⟨blk, 0, none⟩) n c))
 (hi : w.cell? ⟨blk, i, none⟩ = some (.slice (some ⟨bi, 0, none⟩) r.length ci)) (hj : w.cell? ⟨blk, j, none⟩ = some (.slice (some ⟨bj, 0, none⟩) s.length cj)) (hin : i < n) (hjn : j < n) (hn : n ≤ 1048576)
 (hs : ∀ k, k < r.length → w.cell? ⟨bi, k, none⟩ = some (.int .i64 (r.getD k 0))) (ht : ∀ k, k < s.length → w.cell? ⟨bj, k, none⟩ = some (.int .i64 (s.getD k 0))) (hls : r.length ≤ 1048576) (hlt : s.length ≤ 1048576) (hkr : okC m r) (hks : okC m s) :
 Calls Tryz.prog 166 #[.int .i64 i, .int .i64 j, .pointer (some ⟨bo, 0, none⟩), .pointer (some ⟨br, 0, none⟩)] w fun e w' => e = .returned (.bool (decide (cmpC m r s < 0))) ∧ ∃ q, w' = w.drewN q := by
 have hc := fun q => cmpCong_q (w.drewN q) m bi bj ci cj r s (by simpa using hs) (by simpa using ht) hls hlt hkr hks
 clear hs ht
 go_enter Tryz.func166, Tryz.ntmps166
 go_wp2
 go_quiet (first | (go_at_call 128; refine Calls.quiet_of (hc _)) | fail)
 go_wp2
 go_ret
 exact ⟨rfl, nq, rfl⟩
section
variable {n : Nat} (R : Nat → List Int) (B C : Nat → Nat)
def ltC (m : Nat) (R : Nat → List Int) (i j : Fin (n + 1)) : Bool := decide (cmpC m (R i) (R j) < 0)
theorem less_readsC (m : Nat) (hP : ∀ i, i < n + 1 → okC m (R i)) (w : World) (bo br blk c : Nat) (hblk : blk < w.heap.size) (d : Array (Fin (n + 1))) (hd : d.size = n + 1) (hH : Holds (encR R B C) w blk 0 d) (ho : w.cell? ⟨bo, 0, none⟩ = some (.func (.func 128) #[] #[])) (hr : w.cell? ⟨br, 0, none⟩ = some (.slice (some ⟨blk, 0, none⟩) (n + 1) c))
 (hob : bo ≠ blk) (hrb : br ≠ blk) (hol : bo < w.heap.size) (hrl : br < w.heap.size) (hn : n + 1 ≤ 1048576) (hB : ∀ i, i < n + 1 → B i ≠ blk ∧ B i < w.heap.size) (hR : ∀ i, i < n + 1 → (R i).length ≤ 1048576 ∧ ∀ k, k < (R i).length → w.cell? ⟨B i, k, none⟩ = some (.int .i64 ((R i).getD k 0))) :
 LessReads (α := Fin (n + 1)) Tryz.prog 166 #[.pointer (some ⟨bo, 0, none⟩), .pointer (some ⟨br, 0, none⟩)] (encR R B C) (ltC m R) blk 0 (n + 1) w := fun m' os dk hs i j hi hj => by
 have hrow : ∀ k, k < n + 1 → (sortWorld (encR R B C) w blk 0 m' dk os).cell? ⟨blk, k, none⟩ = some (encR R B C dk[k]!) := fun k hk => by
  have := (holds_sortWorld (encR R B C) w blk 0 m' d dk os hblk hH (by omega) k (by omega)).1
  simpa using this
 have hcell : ∀ (x : Fin (n + 1)) k, k < (R x).length → (sortWorld (encR R B C) w blk 0 m' dk os).cell? ⟨B x, k, none⟩ = some (.int .i64 ((R x).getD k 0)) := fun x k hk => by
  rw [sw_other _ _ _ _ _ _ _ _ (hB x x.isLt).1 (hB x x.isLt).2]; exact (hR x x.isLt).2 k hk
 exact lessC_q _ m bo br blk (n + 1) c i j (R dk[i]!) (R dk[j]!) _ _ _ _ (by rw [sw_other _ _ _ _ _ _ _ _ hob hol]; exact ho) (by rw [sw_other _ _ _ _ _ _ _ _ hrb hrl]; exact hr) (hrow i hi) (hrow j hj) hi hj hn (hcell _) (hcell _) (hR _ (Fin.isLt _)).1 (hR _ (Fin.isLt _)).1 (hP _ (Fin.isLt _)) (hP _ (Fin.isLt _))
end
theorem sortRowsC_q {n : Nat} (m : Nat) (R : Nat → List Int) (hP : ∀ i, i < n + 1 → okC m (R i)) (B C : Nat → Nat) (w : World) (blk c : Nat) (hblk : blk < w.heap.size) (d : Array (Fin (n + 1))) (hd : d.size = n + 1) (h2 : 2 ≤ n + 1) (h20 : n + 1 ≤ 1048576) (hO : SWO (ltC (n := n) m R)) (hH : Holds (encR R B C) w blk 0 d)
 (hB : ∀ i, i < n + 1 → B i ≠ blk ∧ B i < w.heap.size) (hR : ∀ i, i < n + 1 → (R i).length ≤ 1048576 ∧ ∀ k, k < (R i).length → w.cell? ⟨B i, k, none⟩ = some (.int .i64 ((R i).getD k 0))) :
 Calls Tryz.prog 127 #[.slice (some ⟨blk, 0, none⟩) (n + 1) c, .func (.func 128) #[] #[]] w fun e w' => e = .returned (.tuple #[]) ∧ ∃ d' q os, PermIn 0 d.size d d' ∧ SortedIn (ltC m R) 0 d.size d' ∧ w' = grow (putRow (encR R B C) (Sort.ahead w q) blk 0 d') os := by
 let o1 : Obj := .cells #[.slice (some ⟨blk, 0, none⟩) (n + 1) c] 42
 let o2 : Obj := .cells #[.func (.func 128) #[] #[]] 120
 have e12 : (w.alloc o1).alloc o2 = grow w #[o1, o2] := by rw [alloc_eq_grow, alloc_eq_grow, grow_grow]; rfl
 have hH1 : Holds (encR R B C) ((w.alloc o1).alloc o2) blk 0 d := by rw [e12]; exact holds_grow _ w _ blk 0 d hblk hH
 have hsz : ((w.alloc o1).alloc o2).heap.size = w.heap.size + 2 := by rw [e12, size_grow]; rfl
 have hless : LessReads (α := Fin (n + 1)) Tryz.prog 166 #[.pointer (some ⟨w.heap.size + 1, 0, none⟩), .pointer (some ⟨w.heap.size, 0, none⟩)] (encR R B C) (ltC m R) blk 0 d.size ((w.alloc o1).alloc o2) := by
  rw [hd]
  refine less_readsC R B C m hP _ _ _ blk c (by omega) d hd hH1 (by simp [o2]) (by simp [o1]) (by omega) (by omega) (by omega) (by omega) (by omega) (fun i hi => ⟨(hB i hi).1, by have := (hB i hi).2; omega⟩) (fun i hi => ⟨(hR i hi).1, fun k hk => ?_⟩)
  rw [e12, cell?_grow _ _ _ (hB i hi).2]
  exact (hR i hi).2 k hk
 have hS := Mrg.sort_SliceStable_any sl8 42 27 siT siE (by kernel_rfl) (by kernel_rfl) (by kernel_rfl) (by kernel_rfl) 23 (fun _ => by kernel_rfl) (by kernel_rfl) (fun _ => by kernel_rfl) (encR R B C) (fun _ => rfl) (ltC m R) hO 166 _
  (enters_of Tryz.func166 (by kernel_rfl) rfl) blk 0 c d (by omega) (by omega) 208 (by rw [hd, siK _ h2]; kernel_rfl) false
  (fun args W => run_callFunc_extern Tryz.func208 (by kernel_rfl) (by kernel_rfl) (by kernel_rfl) (e := Extern.ReflectliteSwapper.swap false) (by kernel_rfl) args W) _ hless hH1 (by omega)
 rw [hd] at hS
 change Calls Tryz.prog 165 _ _ _ at hS
 clear hless hH1 hH hR hB
 go_enter Tryz.func127, Tryz.ntmps127
 go_wp2_with (go_at_call 165; refine hS.mono ?_; rintro e w' ⟨rfl, d', q, os, hpm, hso, rfl⟩)
 go_end0
 exact ⟨rfl, d', q, _, by rw [hd]; exact hpm, by rw [hd]; exact hso, by rw [ahead_grow, putRow_grow (encR R B C) (Sort.ahead w q) _ blk 0 _ hblk, grow_grow]⟩
theorem sortRowsC_tiny (w : World) (p : Option Addr) (n c : Nat) (hn : n ≤ 1) (h : ∃ f, Tryz.prog.funcs.findIdx? (·.name == "internal/reflectlite" ++ ".Swapper$" ++ toString (Lib.swapperK n siE 23)) = some f) :
 Calls Tryz.prog 127 #[.slice p n c, .func (.func 128) #[] #[]] w fun e w' => e = .returned (.tuple #[]) ∧ ∃ os, w' = grow w os := by
 obtain ⟨f, hf⟩ := h
 have hS := fun w : World => Any.sort_SliceStable_tiny sl8 42 27 siT siE (by kernel_rfl) (by kernel_rfl) (by kernel_rfl) (by kernel_rfl) 23 (fun _ => by kernel_rfl) p n c hn f hf (.func 166) #[] #[.pointer (some ⟨w.heap.size + 1, 0, none⟩), .pointer (some ⟨w.heap.size, 0, none⟩)] ((w.alloc (.cells #[.slice p n c] 42)).alloc (.cells #[.func (.func 128) #[] #[]] 120))
 have hS' := hS w
 change Calls Tryz.prog 165 _ _ _ at hS'
 go_enter Tryz.func127, Tryz.ntmps127
 go_wp2_with (go_at_call 165; refine hS'.mono ?_; rintro e w' ⟨rfl, os, rfl⟩)
 go_end0
 exact ⟨rfl, _, by rw [alloc_eq_grow, alloc_eq_grow, grow_grow, grow_grow]⟩
end Go.Proofs.YtepjlgilopfnpaaGreat
namespace Go.Proofs.YtepjlgilopfnpaaGreat
open Go Go.Proofs Go.Shelf Go.RowKit Go.Lib Go.Sort Go.Pv
set_option maxHeartbeats 32000000
set_option maxRecDepth 100000

theorem swo_ltC {n : Nat} (m : Nat) (R : Nat → List Int) : SWO (ltC (n := n) m R) where
 irrefl := fun x => by unfold ltC; rw [cmpC_self]; rfl
 trans := fun x y z h1 h2 => by
  unfold ltC at *
  exact decide_eq_true (cmpC_trans (of_decide_eq_true h1) (of_decide_eq_true h2))
 ntrans := fun x y z h1 h2 => by
  unfold ltC at *
  have h1 := of_decide_eq_false h1
  have h2 := of_decide_eq_false h2
  refine decide_eq_false fun h3 => ?_
  have f1 := cmpC_flip m (R x) (R y)
  have f2 := cmpC_flip m (R y) (R z)
  by_cases e1 : cmpC m (R x) (R y) = 0
  · rw [cmpC_eq e1] at h3; exact h2 h3
  · have h4 := cmpC_trans (show cmpC m (R y) (R x) < 0 by omega) h3
    exact h2 h4
theorem sorted_rowsC {n : Nat} (m : Nat) (R : Nat → List Int) (d d' : Array (Fin (n + 1))) (hd : d = Array.ofFn id) (hp : PermIn 0 d.size d d') (hs : SortedIn (ltC m R) 0 d.size d') :
 d'.size = n + 1 ∧ d'.toList.Perm (List.finRange (n + 1)) ∧ (d'.toList.map fun i => R i.val).Pairwise fun a b => ¬ cmpC m b a < 0 := by
 have hsz : d.size = n + 1 := by rw [hd]; simp
 have hsz' : d'.size = n + 1 := hp.1.trans hsz
 refine ⟨hsz', ?_, ?_⟩
 · have h2 := hp.2.2
   have e1 : d'.extract 0 d.size = d' := by
    have : d.size = d'.size := hp.1.symm
    rw [this]; simp
   have e2 : d.extract 0 d.size = d := by simp
   rw [e1, e2, hd] at h2
   simpa [List.finRange] using h2
 · rw [List.pairwise_map, List.pairwise_iff_getElem]
   intro i j hi hj hij
   simp only [Array.length_toList] at hi hj
   have := hs i j (Nat.zero_le _) hij (by omega)
   rw [getElem!_pos d' i hi, getElem!_pos d' j hj] at this
   exact of_decide_eq_false this
theorem sortRowsC_L (m : Nat) (rows V : List (List Int)) (hV : AscC m V) (hp : rows.Perm V) (h20 : rows.length ≤ 1048576) (hok : ∀ r ∈ rows, r.length ≤ 1048576) (hpt : ∀ r ∈ rows, okC m r) :
 LCalls Tryz.prog 127 (gridI rows) [.hp 0, .fn 128 [] []] (gridI V) (.tup []) := by
 unfold LCalls
 intro g w L vs hag hown hvs
 obtain ⟨cur, rc, hg⟩ := hown
 obtain ⟨hl, hv⟩ := hvs
 match vs, hl with
 | [v0, v1], _ =>
  have h0 : VRS g (fun _ => L) [gridI rows] v0 (.hp 0) := by simpa using hv 0 (.hp 0) rfl
  have h1 : VRS g (fun _ => L) [gridI rows] v1 (.fn 128 [] []) := by simpa using hv 1 _ rfl
  have e0 : v0 = .slice (some ⟨L.blk, 0, none⟩) rows.length L.cap := by
   have := HpV.grid (show HpV (fun _ => L) [gridI rows] v0 0 from h0) _ _ _ rfl
   simpa using this
  have e1 : v1 = .func (.func 128) #[] #[] := by
   obtain ⟨fs, cs, ea, l1, l2, -, -⟩ := VR.fn_inv (show VR g v1 _ from h1)
   have a1 : fs = #[] := Array.eq_empty_of_size_eq_zero l1
   have a2 : cs = #[] := Array.eq_empty_of_size_eq_zero l2
   rw [ea, a1, a2]
  subst e0 e1
  have hlen := hp.length_eq
  have hblk : L.blk < w.heap.size := (Array.getElem?_eq_some_iff.1 hg.hw).1
  have hfoot : footB (gridI rows) L L.blk = true := footB_iff.2 (.inl rfl)
  have hfootR : ∀ i, i < rows.length → footB (gridI rows) L (L.rows i) = true := fun i hi => footB_iff.2 (.inr ⟨i, by simpa using hi, rfl⟩)
  rcases Nat.lt_or_ge rows.length 2 with hsm | hge
  · refine (sortRowsC_tiny w (some ⟨L.blk, 0, none⟩) rows.length L.cap (by omega) (swap_tiny _ (by omega))).mono ?_
    rintro e w' ⟨rfl, os, rfl⟩
    have hVr : V = rows := by
     match rows, V, hp, hsm with
     | [], V, hp, _ => exact hp.symm.eq_nil
     | [r], V, hp, _ => exact (List.singleton_perm.1 hp).symm
    subst hVr
    have hb := grow_below w os
    refine ⟨.tuple #[], g, L, rfl, GExt.refl g, fun _ _ _ => rfl, belowL_of (w0 := ⟨w, g, footB (gridI V) L⟩) hb, hag.below hb, ⟨cur, rc, { hg with hB := Ini.own_lent hfoot, hw := (hb.block _ hblk).trans hg.hw, hB' := fun i hi => Ini.own_lent (hfootR i (by simpa using hi)), hrow := fun i r hr => ?_ }⟩, rfl, rfl, .tup #[] [] rfl (fun i q hq => by simp at hq)⟩
    obtain ⟨a1, a2, a3, a4⟩ := hg.hrow i r hr
    exact ⟨a1, a2, (hb.block _ (Array.getElem?_eq_some_iff.1 a3).1).trans a3, a4⟩
  · obtain ⟨n, hn⟩ : ∃ n, rows.length = n + 1 := ⟨rows.length - 1, by omega⟩
    have hrc := fun i (hi : i < n + 1) => row_cells hg (i := i) (by omega)
    let R : Nat → List Int := fun i => rows.getD i []
    let d : Array (Fin (n + 1)) := Array.ofFn id
    have hd : d.size = n + 1 := by simp [d]
    have hcs : n + 1 ≤ cur.size := by rw [hg.hsz]; have := hg.hcap; simp at this; omega
    have hH : Holds (encR R L.rows L.caps) w L.blk 0 d := fun j hj => by
     have hj' : j < n + 1 := by omega
     have ed : d[j]! = ⟨j, hj'⟩ := by rw [getElem!_pos d j hj]; simp [d]
     rw [Nat.zero_add, ed]
     refine ⟨?_, ?_⟩
     · rw [own_load hg.hw (by omega), (hrc j hj').1]; rfl
     · simp [World.frozen?, hg.hw]
    have hB : ∀ i, i < n + 1 → L.rows i ≠ L.blk ∧ L.rows i < w.heap.size := fun i hi => ⟨hg.hne i (by simp; omega), (Array.getElem?_eq_some_iff.1 (hrc i hi).2.1).1⟩
    have hR : ∀ i, i < n + 1 → (R i).length ≤ 1048576 ∧ ∀ k, k < (R i).length → w.cell? ⟨L.rows i, k, none⟩ = some (.int .i64 ((R i).getD k 0)) := fun i hi => by
     obtain ⟨b1, b2, b3, b4, b5, b6⟩ := hrc i hi
     refine ⟨hok _ (by show rows.getD i [] ∈ rows; rw [List.getD_eq_getElem?_getD, List.getElem?_eq_getElem (by omega)]; exact List.getElem_mem _), fun k hk => ?_⟩
     have hk' : k < (rows.getD i []).length := hk
     rw [own_load b2 (by omega), b6 k hk']
    have hc := sortRowsC_q m R (fun i hi => hpt _ (by show rows.getD i [] ∈ rows; rw [List.getD_eq_getElem?_getD, List.getElem?_eq_getElem (by omega)]; exact List.getElem_mem _)) L.rows L.caps w L.blk L.cap hblk d hd (by omega) (by omega) (swo_ltC m R) hH hB hR
    rw [hn]
    refine hc.mono ?_
    rintro e w' ⟨rfl, d', q, os, hp1, hs1, rfl⟩
    obtain ⟨s1, s2, s3⟩ := sorted_rowsC m R d d' rfl hp1 hs1
    have hW : (d'.toList.map fun i => R i.val) = V := by
     refine ascC_perm hV s3 ?_
     have e : (List.finRange (n + 1)).map (fun i => R i.val) = rows := by
      apply List.ext_getElem (by simp; omega)
      intro i h1 h2
      simp [R, h2]
     have := s2.map fun i => R i.val
     rw [e] at this
     exact this.trans hp
    have hVl : V.length = n + 1 := by rw [← hW]; simp [s1]
    have hVi : ∀ i, i < n + 1 → V.getD i [] = R (d'[i]!).val := fun i hi => by
     rw [← hW, getElem!_pos d' i (by omega)]
     simp [List.getD_eq_getElem?_getD, s1, hi]
    have hinj : ∀ i j, i < n + 1 → j < n + 1 → d'[i]! = d'[j]! → i = j := fun i j hi hj e => by
     have hnd : d'.toList.Nodup := s2.symm.nodup (List.nodup_finRange _)
     rw [getElem!_pos d' i (by omega), getElem!_pos d' j (by omega)] at e
     have hpw := List.pairwise_iff_getElem.1 hnd
     rcases Nat.lt_trichotomy i j with h | h | h
     · exact absurd e (by have := hpw i j (by simp; omega) (by simp; omega) h; simpa using this)
     · exact h
     · exact absurd e.symm (by have := hpw j i (by simp; omega) (by simp; omega) h; simpa using this)
    have hw' := heap_grow_row w q L.blk (encR R L.rows L.caps) d' os hg.hw
    have hother := fun {k : Nat} (hk : k < w.heap.size) (hne : k ≠ L.blk) => heap_grow_other w q L.blk (encR R L.rows L.caps) d' os hk hne
    generalize hww : grow (putRow (encR R L.rows L.caps) (Sort.ahead w q) L.blk 0 d') os = w' at *
    have hsize : w.heap.size ≤ w'.heap.size := by rw [← hww, size_grow, size_putRow]; show w.heap.size ≤ w.heap.size + _; omega
    let L' : Pv.Loc := ⟨L.blk, L.cap, fun j => L.rows (d'[j]!).val, fun j => L.caps (d'[j]!).val⟩
    have hrowV : ∀ i r, (V.map fun r => r.map I)[i]? = some r → i < n + 1 ∧ r = (R (d'[i]!).val).map I := fun i r hr => by
     have hi : i < n + 1 := by have := (List.getElem?_eq_some_iff.1 hr).1; simp at this; omega
     rw [idx_gridI (by omega), hVi i hi] at hr
     exact ⟨hi, (Option.some.inj hr).symm⟩
    have hgrid : GridOwn g w' (Ini.own ⟨w, g, footB (gridI rows) L⟩) 27 3 (V.map fun r => r.map I).length (V.map fun r => r.map I) L' (putCells (encR R L.rows L.caps) 0 d' cur) (fun j => rc (d'[j]!).val) :=
     { hB := Ini.own_lent hfoot, hw := hw', hsz := by rw [size_putCells]; exact hg.hsz, hle := Nat.le_refl _
       hcap := by have := hg.hcap; simp only [List.length_map] at this ⊢; show V.length ≤ L.cap; omega
       hmax := hg.hmax, hnil := fun i h1 h2 => by omega
       hB' := fun i hi => Ini.own_lent (hfootR _ (by have := (d'[i]!).isLt; omega))
       hrow := fun i r hr => by
        obtain ⟨hi, rfl⟩ := hrowV i r hr
        obtain ⟨b1, b2, b3, b4, b5, b6⟩ := hrc _ (d'[i]!).isLt
        refine ⟨?_, ⟨by rw [List.length_map]; exact b4, b5⟩, (hother (hB _ (d'[i]!).isLt).2 (hB _ (d'[i]!).isLt).1).trans b2, b3⟩
        rw [putCells_at _ _ _ _ (by omega), if_pos (by omega), List.length_map]
        rfl
       hv := fun i r j q hr hq => by
        obtain ⟨hi, rfl⟩ := hrowV i r hr
        obtain ⟨b1, b2, b3, b4, b5, b6⟩ := hrc _ (d'[i]!).isLt
        have hj : j < (rows.getD (d'[i]!).val []).length := by have := (List.getElem?_eq_some_iff.1 hq).1; simpa [R] using this
        rw [idx_I hj] at hq
        cases hq
        exact ⟨rfl, by rw [b6 j hj]; exact .val _⟩
       hg := hg.hg
       hg' := fun i o hi => hg.hg' _ o (by have := (d'[i]!).isLt; simp; omega)
       hne := fun i hi => (hB _ (d'[i]!).isLt).1
       hinj := fun i j hi hj e => by
        have := hg.hinj _ _ (by have := (d'[i]!).isLt; simp; omega) (by have := (d'[j]!).isLt; simp; omega) e
        exact hinj i j (by simp at hi; omega) (by simp at hj; omega) (Fin.ext this) }
    refine ⟨.tuple #[], g, L', rfl, GExt.refl g, fun _ _ _ => rfl, ⟨by rw [← hww]; rfl, by rw [← hww]; rfl, by rw [← hww]; rfl, hsize, fun k hk => ?_⟩, fun b o v hgv => ?_, ⟨_, _, hgrid⟩, rfl, rfl, .tup #[] [] rfl (fun i q hq => by simp at hq)⟩
    · have hlt := Ini.old_lt hk
      refine hother hlt fun e => hk ?_
      subst e
      exact Ini.own_lent hfoot
    · have hlt := hag.lt hgv
      have hne : b ≠ L.blk := fun e => by rw [e, hg.hg] at hgv; cases hgv
      have := hag b o v hgv
      simp only [World.cell?] at this ⊢
      rw [hother hlt hne]
      exact this
end Go.Proofs.YtepjlgilopfnpaaGreat
