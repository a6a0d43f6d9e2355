/- sortRows, where it sorts lists by their members. -/
import Derived.Test.YtnjocjfhaahmfaaGreatJLy
import Derived.Test.YtnjocjfhaahmfaaGreatJVl
import Derived.Test.YtnjocjfhaahmfaaGreatJKt
set_option linter.unusedSectionVars false
namespace Go.Proofs.YtnjocjfhaahmfaaGreat
open Go Go.Proofs Go.Shelf Go.RowKit Go.Lib Go.Sort
set_option maxHeartbeats 32000000
set_option maxRecDepth 100000

theorem ascX_perm {V W : List (List Int)} (hV : V.Pairwise fun a b => ¬ cmpX b a < 0) (hs : W.Pairwise fun a b => ¬ cmpX b a < 0) (hp : W.Perm V) : W = V :=
  List.Perm.eq_of_pairwise (fun a b _ _ h1 h2 => cmpX_eq (by have := cmpX_flip a b; omega)) hs hV hp
theorem lessX_q (w : World) (bo br blk n c i j : Nat) (r s : List Int) (bi bj ci cj : Nat) (ho : w.cell? ⟨bo, 0, none⟩ = some (.func (.func 255) #[] #[])) (hr : w.cell? ⟨br, 0, none⟩ = some (.slice (some ⟨blk, 0, none⟩) n c))
    (hi : w.cell? ⟨blk, i, none⟩ = some (.slice (some ⟨bi, 0, none⟩) r.length ci)) (hj : w.cell? ⟨blk, j, none⟩ = some (.slice (some ⟨bj, 0, none⟩) s.length cj)) (hin : i < n) (hjn : j < n) (hn : n ≤ 1048576)
    (hs : ∀ k, k < r.length → w.cell? ⟨bi, k, none⟩ = some (.int .i64 (r.getD k 0))) (ht : ∀ k, k < s.length → w.cell? ⟨bj, k, none⟩ = some (.int .i64 (s.getD k 0))) (hls : r.length ≤ 1048576) (hlt : s.length ≤ 1048576) :
    Calls Tryz.prog 254 #[.int .i64 i, .int .i64 j, .pointer (some ⟨bo, 0, none⟩), .pointer (some ⟨br, 0, none⟩)] w fun e w' => e = .returned (.bool (decide (cmpX r s < 0))) ∧ ∃ q, w' = w.drewN q := by
  have hc := fun q => cmpLists_q (w.drewN q) bi bj ci cj r s (by simpa using hs) (by simpa using ht) hls hlt
  clear hs ht
  go_enter Tryz.func254, Tryz.ntmps254
  go_wp2
  go_quiet (first | (go_at_call 255; refine Calls.quiet_of (hc _)) | fail)
  go_wp2
  go_ret
  exact ⟨rfl, nq, rfl⟩
section
variable {n : Nat} (R : Nat → List Int) (B C : Nat → Nat)
def ltX (i j : Fin (n + 1)) : Bool := decide (cmpX (R i) (R j) < 0)
theorem less_readsX (w : World) (bo br blk c : Nat) (hblk : blk < w.heap.size) (d : Array (Fin (n + 1))) (hd : d.size = n + 1) (hH : Holds (encR R B C) w blk 0 d) (ho : w.cell? ⟨bo, 0, none⟩ = some (.func (.func 255) #[] #[])) (hr : w.cell? ⟨br, 0, none⟩ = some (.slice (some ⟨blk, 0, none⟩) (n + 1) c))
    (hob : bo ≠ blk) (hrb : br ≠ blk) (hol : bo < w.heap.size) (hrl : br < w.heap.size) (hn : n + 1 ≤ 1048576) (hB : ∀ i, i < n + 1 → B i ≠ blk ∧ B i < w.heap.size) (hR : ∀ i, i < n + 1 → (R i).length ≤ 1048576 ∧ ∀ k, k < (R i).length → w.cell? ⟨B i, k, none⟩ = some (.int .i64 ((R i).getD k 0))) :
    LessReads (α := Fin (n + 1)) Tryz.prog 254 #[.pointer (some ⟨bo, 0, none⟩), .pointer (some ⟨br, 0, none⟩)] (encR R B C) (ltX R) blk 0 (n + 1) w := fun m os dk hs i j hi hj => by
  have hrow : ∀ k, k < n + 1 → (sortWorld (encR R B C) w blk 0 m dk os).cell? ⟨blk, k, none⟩ = some (encR R B C dk[k]!) := fun k hk => by
    have := (holds_sortWorld (encR R B C) w blk 0 m d dk os hblk hH (by omega) k (by omega)).1
    simpa using this
  have hcell : ∀ (x : Fin (n + 1)) k, k < (R x).length → (sortWorld (encR R B C) w blk 0 m dk os).cell? ⟨B x, k, none⟩ = some (.int .i64 ((R x).getD k 0)) := fun x k hk => by
    rw [sw_other _ _ _ _ _ _ _ _ (hB x x.isLt).1 (hB x x.isLt).2]; exact (hR x x.isLt).2 k hk
  exact lessX_q _ bo br blk (n + 1) c i j (R dk[i]!) (R dk[j]!) _ _ _ _ (by rw [sw_other _ _ _ _ _ _ _ _ hob hol]; exact ho) (by rw [sw_other _ _ _ _ _ _ _ _ hrb hrl]; exact hr) (hrow i hi) (hrow j hj) hi hj hn (hcell _) (hcell _) (hR _ (Fin.isLt _)).1 (hR _ (Fin.isLt _)).1
end
theorem sortRowsX_q {n : Nat} (R : Nat → List Int) (B C : Nat → Nat) (w : World) (blk c : Nat) (hblk : blk < w.heap.size) (d : Array (Fin (n + 1))) (hd : d.size = n + 1) (h2 : 2 ≤ n + 1) (h20 : n + 1 ≤ 1048576) (hO : SWO (ltX (n := n) R)) (hH : Holds (encR R B C) w blk 0 d)
    (hB : ∀ i, i < n + 1 → B i ≠ blk ∧ B i < w.heap.size) (hR : ∀ i, i < n + 1 → (R i).length ≤ 1048576 ∧ ∀ k, k < (R i).length → w.cell? ⟨B i, k, none⟩ = some (.int .i64 ((R i).getD k 0))) :
    Calls Tryz.prog 204 #[.slice (some ⟨blk, 0, none⟩) (n + 1) c, .func (.func 255) #[] #[]] w fun e w' => e = .returned (.tuple #[]) ∧ ∃ d' q os, PermIn 0 d.size d d' ∧ SortedIn (ltX R) 0 d.size d' ∧ w' = grow (putRow (encR R B C) (Sort.ahead w q) blk 0 d') os := by
  let o1 : Obj := .cells #[.slice (some ⟨blk, 0, none⟩) (n + 1) c] 28
  let o2 : Obj := .cells #[.func (.func 255) #[] #[]] 120
  have e12 : (w.alloc o1).alloc o2 = grow w #[o1, o2] := by rw [alloc_eq_grow, alloc_eq_grow, grow_grow]; rfl
  have hH1 : Holds (encR R B C) ((w.alloc o1).alloc o2) blk 0 d := by rw [e12]; exact holds_grow _ w _ blk 0 d hblk hH
  have hsz : ((w.alloc o1).alloc o2).heap.size = w.heap.size + 2 := by rw [e12, size_grow]; rfl
  have hless : LessReads (α := Fin (n + 1)) Tryz.prog 254 #[.pointer (some ⟨w.heap.size + 1, 0, none⟩), .pointer (some ⟨w.heap.size, 0, none⟩)] (encR R B C) (ltX R) blk 0 d.size ((w.alloc o1).alloc o2) := by
    rw [hd]
    refine less_readsX R B C _ _ _ blk c (by omega) d hd hH1 (by simp [o2]) (by simp [o1]) (by omega) (by omega) (by omega) (by omega) (by omega) (fun i hi => ⟨(hB i hi).1, by have := (hB i hi).2; omega⟩) (fun i hi => ⟨(hR i hi).1, fun k hk => ?_⟩)
    rw [e12, cell?_grow _ _ _ (hB i hi).2]
    exact (hR i hi).2 k hk
  have hS := Mrg.sort_SliceStable_any sl8 28 41 siT siE (by kernel_rfl) (by kernel_rfl) (by kernel_rfl) (by kernel_rfl) 23 (fun _ => by kernel_rfl) (by kernel_rfl) (fun _ => by kernel_rfl) (encR R B C) (fun _ => rfl) (ltX R) hO 254 _
    (enters_of Tryz.func254 (by kernel_rfl) rfl) blk 0 c d (by omega) (by omega) 304 (by rw [hd, siK _ h2]; kernel_rfl) false
    (fun args W => run_callFunc_extern Tryz.func304 (by kernel_rfl) (by kernel_rfl) (by kernel_rfl) (e := Extern.ReflectliteSwapper.swap false) (by kernel_rfl) args W) _ hless hH1 (by omega)
  rw [hd] at hS
  change Calls Tryz.prog 253 _ _ _ at hS
  clear hless hH1 hH hR hB
  go_enter Tryz.func204, Tryz.ntmps204
  go_wp2_with (go_at_call 253; refine hS.mono ?_; rintro e w' ⟨rfl, d', q, os, hpm, hso, rfl⟩)
  go_end0
  exact ⟨rfl, d', q, _, by rw [hd]; exact hpm, by rw [hd]; exact hso, by rw [ahead_grow, putRow_grow (encR R B C) (Sort.ahead w q) _ blk 0 _ hblk, grow_grow]⟩
theorem sortRowsX_tiny (w : World) (p : Option Addr) (n c : Nat) (hn : n ≤ 1) (h : ∃ f, Tryz.prog.funcs.findIdx? (·.name == "internal/reflectlite" ++ ".Swapper$" ++ toString (Lib.swapperK n siE 23)) = some f) :
    Calls Tryz.prog 204 #[.slice p n c, .func (.func 255) #[] #[]] w fun e w' => e = .returned (.tuple #[]) ∧ ∃ os, w' = grow w os := by
  obtain ⟨f, hf⟩ := h
  have hS := fun w : World => Any.sort_SliceStable_tiny sl8 28 41 siT siE (by kernel_rfl) (by kernel_rfl) (by kernel_rfl) (by kernel_rfl) 23 (fun _ => by kernel_rfl) p n c hn f hf (.func 254) #[] #[.pointer (some ⟨w.heap.size + 1, 0, none⟩), .pointer (some ⟨w.heap.size, 0, none⟩)] ((w.alloc (.cells #[.slice p n c] 28)).alloc (.cells #[.func (.func 255) #[] #[]] 120))
  have hS' := hS w
  change Calls Tryz.prog 253 _ _ _ at hS'
  go_enter Tryz.func204, Tryz.ntmps204
  go_wp2_with (go_at_call 253; refine hS'.mono ?_; rintro e w' ⟨rfl, os, rfl⟩)
  go_end0
  exact ⟨rfl, _, by rw [alloc_eq_grow, alloc_eq_grow, grow_grow, grow_grow]⟩
end Go.Proofs.YtnjocjfhaahmfaaGreat
namespace Go.Proofs.YtnjocjfhaahmfaaGreat
open Go Go.Proofs Go.Shelf Go.RowKit Go.Lib Go.Sort Go.Pv
set_option maxHeartbeats 32000000
set_option maxRecDepth 100000

theorem swo_ltX {n : Nat} (R : Nat → List Int) : SWO (ltX (n := n) R) where
  irrefl := fun x => by unfold ltX; rw [cmpX_self]; rfl
  trans := fun x y z h1 h2 => by
    unfold ltX at *
    exact decide_eq_true (cmpX_trans (of_decide_eq_true h1) (of_decide_eq_true h2))
  ntrans := fun x y z h1 h2 => by
    unfold ltX at *
    have h1 := of_decide_eq_false h1
    have h2 := of_decide_eq_false h2
    refine decide_eq_false fun h3 => ?_
    have f1 := cmpX_flip (R x) (R y)
    have f2 := cmpX_flip (R y) (R z)
    by_cases e1 : cmpX (R x) (R y) = 0
    · rw [cmpX_eq e1] at h3; exact h2 h3
    · have h4 := cmpX_trans (show cmpX (R y) (R x) < 0 by omega) h3
      exact h2 h4
theorem sorted_rowsX {n : Nat} (R : Nat → List Int) (d d' : Array (Fin (n + 1))) (hd : d = Array.ofFn id) (hp : PermIn 0 d.size d d') (hs : SortedIn (ltX R) 0 d.size d') :
    d'.size = n + 1 ∧ d'.toList.Perm (List.finRange (n + 1)) ∧ (d'.toList.map fun i => R i.val).Pairwise fun a b => ¬ cmpX b a < 0 := by
  have hsz : d.size = n + 1 := by rw [hd]; simp
  have hsz' : d'.size = n + 1 := hp.1.trans hsz
  refine ⟨hsz', ?_, ?_⟩
  · have h2 := hp.2.2
    have e1 : d'.extract 0 d.size = d' := by
      have : d.size = d'.size := hp.1.symm
      rw [this]; simp
    have e2 : d.extract 0 d.size = d := by simp
    rw [e1, e2, hd] at h2
    simpa [List.finRange] using h2
  · rw [List.pairwise_map, List.pairwise_iff_getElem]
    intro i j hi hj hij
    simp only [Array.length_toList] at hi hj
    have := hs i j (Nat.zero_le _) hij (by omega)
    rw [getElem!_pos d' i hi, getElem!_pos d' j hj] at this
    exact of_decide_eq_false this
theorem sortRowsX_L (rows V : List (List Int)) (hV : V.Pairwise fun a b => ¬ cmpX b a < 0) (hp : rows.Perm V) (h20 : rows.length ≤ 1048576) (hok : ∀ r ∈ rows, r.length ≤ 1048576) :
    LCalls Tryz.prog 204 (gridI rows) [.hp 0, .fn 255 [] []] (gridI V) (.tup []) := by
  unfold LCalls
  intro g w L vs hag hown hvs
  obtain ⟨cur, rc, hg⟩ := hown
  obtain ⟨hl, hv⟩ := hvs
  match vs, hl with
  | [v0, v1], _ =>
    have h0 : VRS g (fun _ => L) [gridI rows] v0 (.hp 0) := by simpa using hv 0 (.hp 0) rfl
    have h1 : VRS g (fun _ => L) [gridI rows] v1 (.fn 255 [] []) := by simpa using hv 1 _ rfl
    have e0 : v0 = .slice (some ⟨L.blk, 0, none⟩) rows.length L.cap := by
      have := HpV.grid (show HpV (fun _ => L) [gridI rows] v0 0 from h0) _ _ _ rfl
      simpa using this
    have e1 : v1 = .func (.func 255) #[] #[] := by
      obtain ⟨fs, cs, ea, l1, l2, -, -⟩ := VR.fn_inv (show VR g v1 _ from h1)
      have a1 : fs = #[] := Array.eq_empty_of_size_eq_zero l1
      have a2 : cs = #[] := Array.eq_empty_of_size_eq_zero l2
      rw [ea, a1, a2]
    subst e0 e1
    have hlen := hp.length_eq
    have hblk : L.blk < w.heap.size := (Array.getElem?_eq_some_iff.1 hg.hw).1
    have hfoot : footB (gridI rows) L L.blk = true := footB_iff.2 (.inl rfl)
    have hfootR : ∀ i, i < rows.length → footB (gridI rows) L (L.rows i) = true := fun i hi => footB_iff.2 (.inr ⟨i, by simpa using hi, rfl⟩)
    rcases Nat.lt_or_ge rows.length 2 with hsm | hge
    · refine (sortRowsX_tiny w (some ⟨L.blk, 0, none⟩) rows.length L.cap (by omega) (swap_tiny _ (by omega))).mono ?_
      rintro e w' ⟨rfl, os, rfl⟩
      have hVr : V = rows := by
        match rows, V, hp, hsm with
        | [], V, hp, _ => exact hp.symm.eq_nil
        | [r], V, hp, _ => exact (List.singleton_perm.1 hp).symm
      subst hVr
      have hb := grow_below w os
      refine ⟨.tuple #[], g, L, rfl, GExt.refl g, fun _ _ _ => rfl, belowL_of (w0 := ⟨w, g, footB (gridI V) L⟩) hb, hag.below hb, ⟨cur, rc, { hg with hB := Ini.own_lent hfoot, hw := (hb.block _ hblk).trans hg.hw, hB' := fun i hi => Ini.own_lent (hfootR i (by simpa using hi)), hrow := fun i r hr => ?_ }⟩, rfl, rfl, .tup #[] [] rfl (fun i q hq => by simp at hq)⟩
      obtain ⟨a1, a2, a3, a4⟩ := hg.hrow i r hr
      exact ⟨a1, a2, (hb.block _ (Array.getElem?_eq_some_iff.1 a3).1).trans a3, a4⟩
    · obtain ⟨n, hn⟩ : ∃ n, rows.length = n + 1 := ⟨rows.length - 1, by omega⟩
      have hrc := fun i (hi : i < n + 1) => row_cells hg (i := i) (by omega)
      let R : Nat → List Int := fun i => rows.getD i []
      let d : Array (Fin (n + 1)) := Array.ofFn id
      have hd : d.size = n + 1 := by simp [d]
      have hcs : n + 1 ≤ cur.size := by rw [hg.hsz]; have := hg.hcap; simp at this; omega
      have hH : Holds (encR R L.rows L.caps) w L.blk 0 d := fun j hj => by
        have hj' : j < n + 1 := by omega
        have ed : d[j]! = ⟨j, hj'⟩ := by rw [getElem!_pos d j hj]; simp [d]
        rw [Nat.zero_add, ed]
        refine ⟨?_, ?_⟩
        · rw [own_load hg.hw (by omega), (hrc j hj').1]; rfl
        · simp [World.frozen?, hg.hw]
      have hB : ∀ i, i < n + 1 → L.rows i ≠ L.blk ∧ L.rows i < w.heap.size := fun i hi => ⟨hg.hne i (by simp; omega), (Array.getElem?_eq_some_iff.1 (hrc i hi).2.1).1⟩
      have hR : ∀ i, i < n + 1 → (R i).length ≤ 1048576 ∧ ∀ k, k < (R i).length → w.cell? ⟨L.rows i, k, none⟩ = some (.int .i64 ((R i).getD k 0)) := fun i hi => by
        obtain ⟨b1, b2, b3, b4, b5, b6⟩ := hrc i hi
        refine ⟨hok _ (by show rows.getD i [] ∈ rows; rw [List.getD_eq_getElem?_getD, List.getElem?_eq_getElem (by omega)]; exact List.getElem_mem _), fun k hk => ?_⟩
        have hk' : k < (rows.getD i []).length := hk
        rw [own_load b2 (by omega), b6 k hk']
      have hc := sortRowsX_q R L.rows L.caps w L.blk L.cap hblk d hd (by omega) (by omega) (swo_ltX R) hH hB hR
      rw [hn]
      refine hc.mono ?_
      rintro e w' ⟨rfl, d', q, os, hp1, hs1, rfl⟩
      obtain ⟨s1, s2, s3⟩ := sorted_rowsX R d d' rfl hp1 hs1
      have hW : (d'.toList.map fun i => R i.val) = V := by
        refine ascX_perm hV s3 ?_
        have e : (List.finRange (n + 1)).map (fun i => R i.val) = rows := by
          apply List.ext_getElem (by simp; omega)
          intro i h1 h2
          simp [R, h2]
        have := s2.map fun i => R i.val
        rw [e] at this
        exact this.trans hp
      have hVl : V.length = n + 1 := by rw [← hW]; simp [s1]
      have hVi : ∀ i, i < n + 1 → V.getD i [] = R (d'[i]!).val := fun i hi => by
        rw [← hW, getElem!_pos d' i (by omega)]
        simp [List.getD_eq_getElem?_getD, s1, hi]
      have hinj : ∀ i j, i < n + 1 → j < n + 1 → d'[i]! = d'[j]! → i = j := fun i j hi hj e => by
        have hnd : d'.toList.Nodup := s2.symm.nodup (List.nodup_finRange _)
        rw [getElem!_pos d' i (by omega), getElem!_pos d' j (by omega)] at e
        have hpw := List.pairwise_iff_getElem.1 hnd
        rcases Nat.lt_trichotomy i j with h | h | h
        · exact absurd e (by have := hpw i j (by simp; omega) (by simp; omega) h; simpa using this)
        · exact h
        · exact absurd e.symm (by have := hpw j i (by simp; omega) (by simp; omega) h; simpa using this)
      have hw' := heap_grow_row w q L.blk (encR R L.rows L.caps) d' os hg.hw
      have hother := fun {k : Nat} (hk : k < w.heap.size) (hne : k ≠ L.blk) => heap_grow_other w q L.blk (encR R L.rows L.caps) d' os hk hne
      generalize hww : grow (putRow (encR R L.rows L.caps) (Sort.ahead w q) L.blk 0 d') os = w' at *
      have hsize : w.heap.size ≤ w'.heap.size := by rw [← hww, size_grow, size_putRow]; show w.heap.size ≤ w.heap.size + _; omega
      let L' : Pv.Loc := ⟨L.blk, L.cap, fun j => L.rows (d'[j]!).val, fun j => L.caps (d'[j]!).val⟩
      have hrowV : ∀ i r, (V.map fun r => r.map I)[i]? = some r → i < n + 1 ∧ r = (R (d'[i]!).val).map I := fun i r hr => by
        have hi : i < n + 1 := by have := (List.getElem?_eq_some_iff.1 hr).1; simp at this; omega
        rw [idx_gridI (by omega), hVi i hi] at hr
        exact ⟨hi, (Option.some.inj hr).symm⟩
      have hgrid : GridOwn g w' (Ini.own ⟨w, g, footB (gridI rows) L⟩) 41 3 (V.map fun r => r.map I).length (V.map fun r => r.map I) L' (putCells (encR R L.rows L.caps) 0 d' cur) (fun j => rc (d'[j]!).val) :=
        { hB := Ini.own_lent hfoot, hw := hw', hsz := by rw [size_putCells]; exact hg.hsz, hle := Nat.le_refl _
          hcap := by have := hg.hcap; simp only [List.length_map] at this ⊢; show V.length ≤ L.cap; omega
          hmax := hg.hmax, hnil := fun i h1 h2 => by omega
          hB' := fun i hi => Ini.own_lent (hfootR _ (by have := (d'[i]!).isLt; omega))
          hrow := fun i r hr => by
            obtain ⟨hi, rfl⟩ := hrowV i r hr
            obtain ⟨b1, b2, b3, b4, b5, b6⟩ := hrc _ (d'[i]!).isLt
            refine ⟨?_, ⟨by rw [List.length_map]; exact b4, b5⟩, (hother (hB _ (d'[i]!).isLt).2 (hB _ (d'[i]!).isLt).1).trans b2, b3⟩
            rw [putCells_at _ _ _ _ (by omega), if_pos (by omega), List.length_map]
            rfl
          hv := fun i r j q hr hq => by
            obtain ⟨hi, rfl⟩ := hrowV i r hr
            obtain ⟨b1, b2, b3, b4, b5, b6⟩ := hrc _ (d'[i]!).isLt
            have hj : j < (rows.getD (d'[i]!).val []).length := by have := (List.getElem?_eq_some_iff.1 hq).1; simpa [R] using this
            rw [idx_I hj] at hq
            cases hq
            exact ⟨rfl, by rw [b6 j hj]; exact .val _⟩
          hg := hg.hg
          hg' := fun i o hi => hg.hg' _ o (by have := (d'[i]!).isLt; simp; omega)
          hne := fun i hi => (hB _ (d'[i]!).isLt).1
          hinj := fun i j hi hj e => by
            have := hg.hinj _ _ (by have := (d'[i]!).isLt; simp; omega) (by have := (d'[j]!).isLt; simp; omega) e
            exact hinj i j (by simp at hi; omega) (by simp at hj; omega) (Fin.ext this) }
      refine ⟨.tuple #[], g, L', rfl, GExt.refl g, fun _ _ _ => rfl, ⟨by rw [← hww]; rfl, by rw [← hww]; rfl, by rw [← hww]; rfl, hsize, fun k hk => ?_⟩, fun b o v hgv => ?_, ⟨_, _, hgrid⟩, rfl, rfl, .tup #[] [] rfl (fun i q hq => by simp at hq)⟩
      · have hlt := Ini.old_lt hk
        refine hother hlt fun e => hk ?_
        subst e
        exact Ini.own_lent hfoot
      · have hlt := hag.lt hgv
        have hne : b ≠ L.blk := fun e => by rw [e, hg.hg] at hgv; cases hgv
        have := hag b o v hgv
        simp only [World.cell?] at this ⊢
        rw [hother hlt hne]
        exact this
end Go.Proofs.YtnjocjfhaahmfaaGreat
/- Walks: relations made and composed, the program's side. -/
namespace Go.Pv
open Go
attribute [local semireducible] Go.Pv.PStep
section
variable {P : Program} {o : Oper} {ev : Operand → PV} {hp : List HO}
theorem ps_subV {t rt : TypeId} {x y : Operand} {a b c : Int} (ho : o.op = .binOp .sub t x y rt) (h1 : ev x = I a) (h2 : ev y = I b) (h : a - b = c) (hr : -9223372036854775808 ≤ c ∧ c ≤ 9223372036854775807) : PStep P o ev hp (I c) := by subst h; exact ps_sub ho h1 h2 hr
end
end Go.Pv
namespace Go.Proofs.YtnjocjfhaahmfaaGreat
open Go Go.Pv Go.Proofs
set_option maxHeartbeats 32000000
set_option maxRecDepth 100000
attribute [local bitvec_to_nat] St.put St.setObj St.ev killP killA killP1 killH mapHO renP renA ren1 killG killGA killG1 krowP krowA krow1 lendP lendA lend1 unv pinP pin1 elemsM viewM viewN viewV n_set_z n_set_s n_map_c n_map_n getD_z getD_s n_toNat n_cond_t n_cond_f n_len_c n_len_n n_app_c n_app_n n_take_s n_take_z n_drop_s n_drop_z n_get_z n_get_s view viewA view1 elems Nat.zero_add Nat.add_zero Bool.not_true Bool.not_false Nat.one_ne_zero Nat.mul_one

theorem icrows_R (V : List (List Int)) (hl : V.length ≤ 1048576) (hV : ∀ p ∈ V, p.length ≤ 1048576) : RCalls Tryz.prog 166 [intss V] (gridI V) (.hp 0) := by
  refine pcallsR1 Tryz.func166 rfl Tryz.ntmps166 rfl ?_
  refine wF ?_
  repeat' (first
| refine wO ?_
| (refine o_go rfl ?_; (first
| refine p_e rfl (e_lit0G 3 rfl) ?_
| refine wS ?_); refine ⟨_, aA, ?_⟩))
  refine g_loopF (α := Nat) [6] (fun i => [(3, .hp 0), (9, I (i : Int))]) (fun i => [gridI (V.take i)]) (fun i => i ≤ V.length) (fun i => V.length - i) 0 aF (Nat.zero_le _) ⟨rfl, rfl, trivial⟩ rfl ?_
  rintro i hi
  dsimp only [zZ, List.set_cons_zero, List.set_cons_succ]
  have hpl : ((V.take i).map fun r => r.map I).length = i := by simp; omega
  by_cases hil : i < V.length
  · have hrow := rowV_at hil
    have h1 := iclone_R (V.getD i []) (hV _ (rowV_mem hil))
    have hs : V.take (i + 1) = V.take i ++ [V.getD i []] := take_snoc [] hil
    repeat' (first
| refine wO ?_
| (refine o_go rfl ?_; (first
| refine p_e rfl (e_callR rfl rfl aB rfl (h1)) ?_
| refine p_p (zN rfl rfl rfl (by omega) hrow (by exact rfl)) ?_
| refine p_e rfl (e_lit1G rfl rfl rfl (one_all (fun _ => rfl) _)) ?_
| refine p_e rfl (e_append_grid rfl rfl rfl rfl rfl rfl rfl (by rw [hpl, n_len_c, n_len_n]; omega) (by rw [hpl, n_len_c, n_len_n]; omega)) ?_
| refine wS ?_); refine ⟨_, aA, ?_⟩)
| (refine zK rfl (fun hc => ?_) (fun hc => ?_) <;> try (exfalso; omega))
| refine wE ?_)
    all_goals try (exfalso; omega)
    refine zT (i + 1) (by omega) (by omega) aI ⟨rfl, rfl, trivial⟩ (zB ?_ (zM _))
    rw [hs]
    show _ = HO.grid _ _ ((V.take i ++ [V.getD i []]).map fun r => r.map I)
    rw [List.map_append]; rfl
  · rw [List.take_of_length_le (by omega)]
    repeat' (first
| refine wO ?_
| (refine o_go rfl ?_; (first
| refine wS ?_); refine ⟨_, aA, ?_⟩)
| (refine zK rfl (fun hc => ?_) (fun hc => ?_) <;> try (exfalso; omega))
| refine wE ?_)
    all_goals first | exact krr 0 rfl (HandOut.grid rfl rfl (sc_maps (fun _ => rfl) _)) | (exfalso; omega)
theorem isrt_c (T : List (List Int)) (hl : T.length ≤ 1048576) (hV : ∀ p ∈ T, p.length ≤ 1048576) : PCalls Tryz.prog 287 [intss T] (intss (sortX T)) := by
  refine pcalls1 Tryz.func287 rfl Tryz.ntmps287 rfl ?_
  refine wF ?_
  have h1 := icrows_R T hl hV
  have hsort := sortRowsX_L T (sortX T) (sortX_asc T) (sortX_perm T).symm hl hV
  have hlen := (sortX_perm T).length_eq
  generalize sortX T = W at *
  repeat' (first
| refine wO ?_
| (refine o_go rfl ?_; (first
| refine p_e rfl (e_callR rfl rfl aB rfl (h1)) ?_
| refine p_e rfl (e_callL (n := 0) rfl rfl rfl aM rfl (by rfl) (by first | exact ⟨rfl, rfl, rfl, by simp only [List.length_map, hlen]⟩ | exact ⟨rfl, rfl, by simp only [List.length_map, hlen]⟩) hsort) ?_
| refine wS ?_); refine ⟨_, aA, ?_⟩)
| refine kr1 ?_
| refine krS rfl ?_
| refine wE ?_)
  all_goals first | rfl | (exfalso; omega) | (rw [List.map_map]; rfl)
theorem idif_c (W : List (List Int)) (hl : W.length ≤ 1048576) (hV : ∀ p ∈ W, p.length ≤ 1048576) : PCalls Tryz.prog 286 [intss W] (intss (difL W)) := by
  refine pcalls1 Tryz.func286 rfl Tryz.ntmps286 rfl ?_
  refine wF ?_
  repeat' (first
| refine wO ?_
| (refine o_go rfl ?_; (first
| refine p_e rfl (e_lit0T rfl (by decide)) ?_
| refine wS ?_); refine ⟨_, aA, ?_⟩))
  refine g_loopF (α := Nat) [6] (fun i => [(3, .hp 0), (9, I (i : Int))]) (fun i => [.arr true 1 41 ((difK W i).map ints)]) (fun i => i ≤ W.length) (fun i => W.length - i) 0 aF (Nat.zero_le _) ⟨rfl, rfl, trivial⟩ rfl ?_
  rintro i hi
  dsimp only [zZ, List.set_cons_zero, List.set_cons_succ]
  have hdl := difK_len W i
  have hll : ((difK W i).map ints).length = (difK W i).length := List.length_map ..
  have hsn := difK_succ W i
  by_cases hil : i < W.length
  · have ri := rowV_at hil
    by_cases h0 : i = 0
    · subst h0
      rw [show difB W 0 = true from rfl, if_pos rfl] at hsn
      repeat' (first
| refine wO ?_
| (refine o_go rfl ?_; (first
| refine p_p (zN rfl rfl rfl (by omega) ri (by exact rfl)) ?_
| refine p_e (by kernel_rfl) (e_append rfl rfl rfl rfl rfl rfl (one_one rfl) rfl (by rw [hll, n_len_c, n_len_n]; omega) (by rw [hll, n_len_c, n_len_n]; omega)) ?_
| refine wS ?_
| refine p_p (ps_lit1 rfl rfl (by rfl) (by rfl)) ?_); refine ⟨_, aA, ?_⟩)
| (refine o_s rfl ?_; refine ⟨_, aA, ?_⟩)
| (refine zK rfl (fun hc => ?_) (fun hc => ?_) <;> try (exfalso; omega))
| refine wE ?_)
      all_goals try (exfalso; omega)
      exact zT 1 (by omega) (by omega) aI ⟨rfl, rfl, trivial⟩ (zB (by rw [hsn, List.map_append]; rfl) (zM _))
    · obtain ⟨j, rfl⟩ : ∃ j, i = j + 1 := ⟨i - 1, by omega⟩
      have rj := rowV_at (V := W) (k := j) (by omega)
      have hj : ((j + 1 : Nat) : Int) - 1 = (j : Int) := by omega
      have c1 := gisame_c (W.getD j []) (W.getD (j + 1) []) (hV _ (rowV_mem (by omega)))
      have hB : difB W (j + 1) = !decide (W.getD j [] = W.getD (j + 1) []) := rfl
      cases he : decide (W.getD j [] = W.getD (j + 1) []) with
      | true =>
        rw [he] at c1 hB
        rw [hB, Bool.not_true, if_neg Bool.false_ne_true, List.append_nil] at hsn
        repeat' (first
| refine wO ?_
| (refine o_go rfl ?_; (first
| refine p_p (ps_subV rfl rfl rfl hj (by omega)) ?_
| refine p_p (zN rfl rfl rfl (by omega) ri (by exact rfl)) ?_
| refine p_p (zN rfl rfl rfl (by omega) rj (by exact rfl)) ?_
| refine p_p (zG rfl rfl aB (c1)) ?_
| refine wS ?_); refine ⟨_, aA, ?_⟩)
| (refine zK rfl (fun hc => ?_) (fun hc => ?_) <;> try (exfalso; omega))
| refine wE ?_)
        all_goals try (exfalso; omega)
        exact zT (j + 2) (by omega) (by omega) aI ⟨rfl, rfl, trivial⟩ (zB (by rw [hsn]) (zM _))
      | false =>
        rw [he] at c1 hB
        rw [hB, Bool.not_false, if_pos rfl] at hsn
        repeat' (first
| refine wO ?_
| (refine o_go rfl ?_; (first
| refine p_p (ps_subV rfl rfl rfl hj (by omega)) ?_
| refine p_p (zN rfl rfl rfl (by omega) ri (by exact rfl)) ?_
| refine p_p (zN rfl rfl rfl (by omega) rj (by exact rfl)) ?_
| refine p_p (zG rfl rfl aB (c1)) ?_
| refine p_e (by kernel_rfl) (e_append rfl rfl rfl rfl rfl rfl (one_one rfl) rfl (by rw [hll, n_len_c, n_len_n]; omega) (by rw [hll, n_len_c, n_len_n]; omega)) ?_
| refine wS ?_
| refine p_p (ps_lit1 rfl rfl (by rfl) (by rfl)) ?_); refine ⟨_, aA, ?_⟩)
| (refine zK rfl (fun hc => ?_) (fun hc => ?_) <;> try (exfalso; omega))
| refine wE ?_)
        all_goals try (exfalso; omega)
        exact zT (j + 2) (by omega) (by omega) aI ⟨rfl, rfl, trivial⟩ (zB (by rw [hsn, List.map_append]; rfl) (zM _))
  · rw [show i = W.length by omega]
    repeat' (first
| refine wO ?_
| (refine o_go rfl ?_; (first
| refine wS ?_); refine ⟨_, aA, ?_⟩)
| (refine zK rfl (fun hc => ?_) (fun hc => ?_) <;> try (exfalso; omega))
| refine kr1 ?_
| refine krS rfl ?_
| refine wE ?_)
    all_goals first | rfl | (exfalso; omega)
theorem imkr_c (k : Int) (T : List (List Int)) (hl : T.length ≤ 1048576) (hV : ∀ p ∈ T, p.length ≤ 1048576) : PCalls Tryz.prog 257 [I k, intss T] (relP k (difL (sortX T))) := by
  refine pcallsC Tryz.func257 rfl Tryz.ntmps257 rfl ?_
  refine wF ?_
  have h1 := isrt_c T hl hV
  have h2 := idif_c (sortX T) (by rw [(sortX_perm T).length_eq]; exact hl) (fun p hp => hV p ((sortX_perm T).mem_iff.1 hp))
  generalize difL (sortX T) = D at *
  repeat' (first
| refine wO ?_
| (refine o_go rfl ?_; (first
| refine p_p (zG rfl rfl aB (h1)) ?_
| refine p_p (zG rfl rfl aB (h2)) ?_
| refine wS ?_
| refine p_e rfl (zO rfl rfl rfl rfl aJ rfl rfl rfl) ?_
| refine p_e rfl (e_alloc rfl) ?_
| refine p_p (ps_build rfl rfl) ?_); refine ⟨_, aA, ?_⟩)
| refine krc ?_
| refine krC rfl aJ ?_
| refine wE ?_)
  all_goals first | rfl | (exfalso; omega)
end Go.Proofs.YtnjocjfhaahmfaaGreat
