/- What sortRows does to a row of lists, by the library's contract. -/
import Derived.Test.YtbfmjknngofleaaGreatLSo
import Derived.Test.YtbfmjknngofleaaGreatLMg
namespace Go.Proofs.YtbfmjknngofleaaGreat
open Go Go.Proofs Go.Shelf Go.RowKit Go.Lib Go.Sort

section
variable {n : Nat} (R : Nat → List Int) (B C : Nat → Nat)
def encR (i : Fin (n + 1)) : Value := .slice (some ⟨B i, 0, none⟩) (R i).length (C i)
def ltR (i j : Fin (n + 1)) : Bool := decide (cmpT (R i) (R j) < 0)
theorem sw_other {α : Type} [Inhabited α] (enc : α → Value) (w : World) (blk off m : Nat) (dk : Array α) (os : Array Obj) (p : Addr) (hp : p.block ≠ blk) (hl : p.block < w.heap.size) : (sortWorld enc w blk off m dk os).cell? p = w.cell? p := by
  unfold sortWorld
  rw [cell?_grow _ _ _ (by rw [size_putRow]; exact hl), cell?_putRow_other _ _ _ _ _ _ (.inl hp)]; rfl
/-- The closure's contract, as the library asks for it. -/
theorem less_reads (w : World) (bo br blk c : Nat) (hblk : blk < w.heap.size) (d : Array (Fin (n + 1))) (hd : d.size = n + 1) (hH : Holds (encR R B C) w blk 0 d) (ho : w.cell? ⟨bo, 0, none⟩ = some (.func (.func 58) #[] #[])) (hr : w.cell? ⟨br, 0, none⟩ = some (.slice (some ⟨blk, 0, none⟩) (n + 1) c))
    (hob : bo ≠ blk) (hrb : br ≠ blk) (hol : bo < w.heap.size) (hrl : br < w.heap.size) (hn : n + 1 ≤ 1048576) (hB : ∀ i, i < n + 1 → B i ≠ blk ∧ B i < w.heap.size) (hR : ∀ i, i < n + 1 → (R i).length ≤ 1048576 ∧ ∀ k, k < (R i).length → w.cell? ⟨B i, k, none⟩ = some (.int .i64 ((R i).getD k 0))) :
    LessReads (α := Fin (n + 1)) Tryz.prog 106 #[.pointer (some ⟨bo, 0, none⟩), .pointer (some ⟨br, 0, none⟩)] (encR R B C) (ltR R) blk 0 (n + 1) w := fun m os dk hs i j hi hj => by
  have hrow : ∀ k, k < n + 1 → (sortWorld (encR R B C) w blk 0 m dk os).cell? ⟨blk, k, none⟩ = some (encR R B C dk[k]!) := fun k hk => by
    have := (holds_sortWorld (encR R B C) w blk 0 m d dk os hblk hH (by omega) k (by omega)).1
    simpa using this
  have hcell : ∀ (x : Fin (n + 1)) k, k < (R x).length → (sortWorld (encR R B C) w blk 0 m dk os).cell? ⟨B x, k, none⟩ = some (.int .i64 ((R x).getD k 0)) := fun x k hk => by
    rw [sw_other _ _ _ _ _ _ _ _ (hB x x.isLt).1 (hB x x.isLt).2]; exact (hR x x.isLt).2 k hk
  exact less_q _ bo br blk (n + 1) c i j (R dk[i]!) (R dk[j]!) _ _ _ _ (by rw [sw_other _ _ _ _ _ _ _ _ hob hol]; exact ho) (by rw [sw_other _ _ _ _ _ _ _ _ hrb hrl]; exact hr) (hrow i hi) (hrow j hj) hi hj hn (hcell _) (hcell _) (hR _ (Fin.isLt _)).1 (hR _ (Fin.isLt _)).1
end
noncomputable def siT : TypeInfo := (Tryz.prog.info? 24).get (by kernel_rfl)
noncomputable def siE : TypeInfo := (Tryz.prog.info? 28).get (by kernel_rfl)
theorem siK (n : Nat) (h2 : 2 ≤ n) : Lib.swapperK n siE 23 = 9 := by
  have a : siE.hasPointers = true := by kernel_rfl
  have b : siE.bytes = 24 := by kernel_rfl
  have c : (n == 0) = false := by simp; omega
  have d : (n == 1) = false := by simp; omega
  simp [Lib.swapperK, a, b, c, d]
set_option maxHeartbeats 2000000 in
theorem sortRows_q {n : Nat} (R : Nat → List Int) (B C : Nat → Nat) (w : World) (blk c : Nat) (hblk : blk < w.heap.size) (d : Array (Fin (n + 1))) (hd : d.size = n + 1) (h2 : 2 ≤ n + 1) (h20 : n + 1 ≤ 1048576) (hO : SWO (ltR (n := n) R)) (hH : Holds (encR R B C) w blk 0 d)
    (hB : ∀ i, i < n + 1 → B i ≠ blk ∧ B i < w.heap.size) (hR : ∀ i, i < n + 1 → (R i).length ≤ 1048576 ∧ ∀ k, k < (R i).length → w.cell? ⟨B i, k, none⟩ = some (.int .i64 ((R i).getD k 0))) :
    Calls Tryz.prog 57 #[.slice (some ⟨blk, 0, none⟩) (n + 1) c, .func (.func 58) #[] #[]] w fun e w' => e = .returned (.tuple #[]) ∧ ∃ d' q os, PermIn 0 d.size d d' ∧ SortedIn (ltR R) 0 d.size d' ∧ w' = grow (putRow (encR R B C) (Sort.ahead w q) blk 0 d') os := by
  let o1 : Obj := .cells #[.slice (some ⟨blk, 0, none⟩) (n + 1) c] 24
  let o2 : Obj := .cells #[.func (.func 58) #[] #[]] 71
  have e12 : (w.alloc o1).alloc o2 = grow w #[o1, o2] := by rw [alloc_eq_grow, alloc_eq_grow, grow_grow]; rfl
  have hH1 : Holds (encR R B C) ((w.alloc o1).alloc o2) blk 0 d := by rw [e12]; exact holds_grow _ w _ blk 0 d hblk hH
  have hsz : ((w.alloc o1).alloc o2).heap.size = w.heap.size + 2 := by rw [e12, size_grow]; rfl
  have hless : LessReads (α := Fin (n + 1)) Tryz.prog 106 #[.pointer (some ⟨w.heap.size + 1, 0, none⟩), .pointer (some ⟨w.heap.size, 0, none⟩)] (encR R B C) (ltR R) blk 0 d.size ((w.alloc o1).alloc o2) := by
    rw [hd]
    refine less_reads R B C _ _ _ blk c (by omega) d hd hH1 (by simp [o2]) (by simp [o1]) (by omega) (by omega) (by omega) (by omega) (by omega) (fun i hi => ⟨(hB i hi).1, by have := (hB i hi).2; omega⟩) (fun i hi => ⟨(hR i hi).1, fun k hk => ?_⟩)
    rw [e12, cell?_grow _ _ _ (hB i hi).2]
    exact (hR i hi).2 k hk
  have hS := Mrg.sort_SliceStable_any sl8 24 28 siT siE (by kernel_rfl) (by kernel_rfl) (by kernel_rfl) (by kernel_rfl) 23 (fun _ => by kernel_rfl) (by kernel_rfl) (fun _ => by kernel_rfl) (encR R B C) (fun _ => rfl) (ltR R) hO 106 _
    (enters_of Tryz.func106 (by kernel_rfl) rfl) blk 0 c d (by omega) (by omega) 154 (by rw [hd, siK _ h2]; kernel_rfl) false
    (fun args W => run_callFunc_extern Tryz.func154 (by kernel_rfl) (by kernel_rfl) (by kernel_rfl) (e := Extern.ReflectliteSwapper.swap false) (by kernel_rfl) args W) _ hless hH1 (by omega)
  rw [hd] at hS
  change Calls Tryz.prog 105 _ _ _ at hS
  clear hless hH1 hH hR hB
  go_enter Tryz.func57, Tryz.ntmps57
  go_wp2_with (go_at_call 105; refine hS.mono ?_; rintro e w' ⟨rfl, d', q, os, hpm, hso, rfl⟩)
  go_end0
  exact ⟨rfl, d', q, _, by rw [hd]; exact hpm, by rw [hd]; exact hso, by rw [ahead_grow, putRow_grow (encR R B C) (Sort.ahead w q) _ blk 0 _ hblk, grow_grow]⟩
set_option maxHeartbeats 2000000 in
theorem sortRows_tiny (w : World) (p : Option Addr) (n c : Nat) (hn : n ≤ 1) (h : ∃ f, Tryz.prog.funcs.findIdx? (·.name == "internal/reflectlite" ++ ".Swapper$" ++ toString (Lib.swapperK n siE 23)) = some f) :
    Calls Tryz.prog 57 #[.slice p n c, .func (.func 58) #[] #[]] w fun e w' => e = .returned (.tuple #[]) ∧ ∃ os, w' = grow w os := by
  obtain ⟨f, hf⟩ := h
  have hS := fun w : World => Any.sort_SliceStable_tiny sl8 24 28 siT siE (by kernel_rfl) (by kernel_rfl) (by kernel_rfl) (by kernel_rfl) 23 (fun _ => by kernel_rfl) p n c hn f hf (.func 106) #[] #[.pointer (some ⟨w.heap.size + 1, 0, none⟩), .pointer (some ⟨w.heap.size, 0, none⟩)] ((w.alloc (.cells #[.slice p n c] 24)).alloc (.cells #[.func (.func 58) #[] #[]] 71))
  have hS' := hS w
  change Calls Tryz.prog 105 _ _ _ at hS'
  go_enter Tryz.func57, Tryz.ntmps57
  go_wp2_with (go_at_call 105; refine hS'.mono ?_; rintro e w' ⟨rfl, os, rfl⟩)
  go_end0
  exact ⟨rfl, _, by rw [alloc_eq_grow, alloc_eq_grow, grow_grow, grow_grow]⟩
theorem swap_tiny (n : Nat) (hn : n ≤ 1) : ∃ f, Tryz.prog.funcs.findIdx? (·.name == "internal/reflectlite" ++ ".Swapper$" ++ toString (Lib.swapperK n siE 23)) = some f := by
  have : n = 0 ∨ n = 1 := by omega
  rcases this with rfl | rfl
  · exact ⟨146, by kernel_rfl⟩
  · exact ⟨147, by kernel_rfl⟩
end Go.Proofs.YtbfmjknngofleaaGreat
