/- sortRows as a call to which the rows are lent. -/
import Derived.Test.YtbfmjknngofleaaGreatLSs
import Derived.Test.YtbfmjknngofleaaGreatLSt
import Derived.Test.YtbfmjknngofleaaGreatLAq
namespace Go.Proofs.YtbfmjknngofleaaGreat
open Go Go.Proofs Go.Shelf Go.RowKit Go.Lib Go.Sort Go.Pv

theorem heap_grow_other (w : World) (q blk : Nat) {α : Type} [Inhabited α] (enc : α → Value) (d : Array α) (os : Array Obj) {k : Nat} (hk : k < w.heap.size) (hne : k ≠ blk) : (grow (putRow enc (Sort.ahead w q) blk 0 d) os).heap[k]? = w.heap[k]? := by
  show ((Array.modify w.heap blk _) ++ os)[k]? = _
  rw [Array.getElem?_append_left (by simpa using hk), Array.getElem?_modify]
  rw [if_neg (Ne.symm hne)]
theorem heap_grow_row (w : World) (q blk : Nat) {α : Type} [Inhabited α] (enc : α → Value) (d : Array α) (os : Array Obj) {cur : Array Value} {e : TypeId} {fz : Nat × Nat} (h : w.heap[blk]? = some (.cells cur e fz)) : (grow (putRow enc (Sort.ahead w q) blk 0 d) os).heap[blk]? = some (.cells (putCells enc 0 d cur) e fz) := by
  have hk : blk < w.heap.size := (Array.getElem?_eq_some_iff.1 h).1
  show ((Array.modify w.heap blk _) ++ os)[blk]? = _
  rw [Array.getElem?_append_left (by simpa using hk), Array.getElem?_modify, if_pos rfl, h]
  rfl
theorem putCells_at {α : Type} [Inhabited α] (enc : α → Value) (d : Array α) (cur : Array Value) (j : Nat) (hj : j < cur.size) : (putCells enc 0 d cur).getD j undef = if j < d.size then enc d[j]! else cur.getD j undef := by
  unfold putCells
  simp [Array.getD_eq_getD_getElem?, hj]
theorem size_putCells {α : Type} [Inhabited α] (enc : α → Value) (d : Array α) (cur : Array Value) : (putCells enc 0 d cur).size = cur.size := by simp [putCells]
theorem swo_ltR {n : Nat} (R : Nat → List Int) : SWO (ltR (n := n) R) where
  irrefl := fun x => by unfold ltR; rw [cmpT_self]; rfl
  trans := fun x y z h1 h2 => by
    unfold ltR at *
    exact decide_eq_true (cmpT_trans (of_decide_eq_true h1) (of_decide_eq_true h2))
  ntrans := fun x y z h1 h2 => by
    unfold ltR at *
    have h1 := of_decide_eq_false h1
    have h2 := of_decide_eq_false h2
    refine decide_eq_false fun h3 => ?_
    have f1 := cmpT_flip (R x) (R y)
    have f2 := cmpT_flip (R y) (R z)
    by_cases e1 : cmpT (R x) (R y) = 0
    · rw [cmpT_eq e1] at h3; exact h2 h3
    · have h4 := cmpT_trans (show cmpT (R y) (R x) < 0 by omega) h3
      exact h2 h4
theorem sorted_rows {n : Nat} (R : Nat → List Int) (d d' : Array (Fin (n + 1))) (hd : d = Array.ofFn id) (hp : PermIn 0 d.size d d') (hs : SortedIn (ltR R) 0 d.size d') :
    d'.size = n + 1 ∧ d'.toList.Perm (List.finRange (n + 1)) ∧ (d'.toList.map fun i => R i.val).Pairwise fun a b => ¬ cmpT b a < 0 := by
  have hsz : d.size = n + 1 := by rw [hd]; simp
  have hsz' : d'.size = n + 1 := hp.1.trans hsz
  refine ⟨hsz', ?_, ?_⟩
  · have h2 := hp.2.2
    have e1 : d'.extract 0 d.size = d' := by
      have : d.size = d'.size := hp.1.symm
      rw [this]; simp
    have e2 : d.extract 0 d.size = d := by simp
    rw [e1, e2, hd] at h2
    simpa [List.finRange] using h2
  · rw [List.pairwise_map, List.pairwise_iff_getElem]
    intro i j hi hj hij
    simp only [Array.length_toList] at hi hj
    have := hs i j (Nat.zero_le _) hij (by omega)
    rw [getElem!_pos d' i hi, getElem!_pos d' j hj] at this
    exact of_decide_eq_false this
theorem grow_below (w : World) (os : Array Obj) : RowKit.Below w.heap.size w (grow w os) :=
  ⟨rfl, rfl, rfl, by rw [size_grow]; omega, fun k hk => by
    show (w.heap ++ os)[k]? = _
    rw [Array.getElem?_append_left hk]⟩
theorem belowL_of {w0 : Ini} {w' : World} (h : RowKit.Below w0.w.heap.size w0.w w') : BelowL w0 w' := (BelowL.refl w0).step h
theorem row_cells {g : Ghost} {w : World} {D : Nat → Bool} {e1 e2 : TypeId} {rows : List (List Int)} {L : Pv.Loc} {cur : Array Value} {rc : Nat → Array Value} (hg : GridOwn g w D e1 e2 (rows.map fun r => r.map I).length (rows.map fun r => r.map I) L cur rc) {i : Nat} (hi : i < rows.length) :
    cur.getD i undef = .slice (some ⟨L.rows i, 0, none⟩) (rows.getD i []).length (L.caps i) ∧ w.heap[L.rows i]? = some (.cells (rc i) e2 (0, 0)) ∧ (rc i).size = L.caps i ∧ (rows.getD i []).length ≤ L.caps i ∧ L.caps i ≤ maxLen ∧ ∀ k, k < (rows.getD i []).length → (rc i).getD k undef = .int .i64 ((rows.getD i []).getD k 0) := by
  have hr : (rows.map fun r => r.map I)[i]? = some ((rows.getD i []).map I) := idx_gridI hi
  obtain ⟨a1, a2, a3, a4⟩ := hg.hrow i _ hr
  refine ⟨by simpa using a1, a3, a4, by simpa using a2.1, a2.2, fun k hk => ?_⟩
  have := (hg.hv i _ k (I ((rows.getD i []).getD k 0)) hr (idx_I hk)).2
  exact VR.val_inv this
set_option maxHeartbeats 2000000 in
theorem sortRows_L (rows V : List (List Int)) (hV : Asc V) (hp : rows.Perm V) (h20 : rows.length ≤ 1048576) (hok : ∀ r ∈ rows, r.length ≤ 1048576) :
    LCalls Tryz.prog 57 (gridI rows) [.hp 0, .fn 58 [] []] (gridI V) (.tup []) := by
  unfold LCalls
  intro g w L vs hag hown hvs
  obtain ⟨cur, rc, hg⟩ := hown
  obtain ⟨hl, hv⟩ := hvs
  match vs, hl with
  | [v0, v1], _ =>
    have h0 : VRS g (fun _ => L) [gridI rows] v0 (.hp 0) := by simpa using hv 0 (.hp 0) rfl
    have h1 : VRS g (fun _ => L) [gridI rows] v1 (.fn 58 [] []) := by simpa using hv 1 _ rfl
    have e0 : v0 = .slice (some ⟨L.blk, 0, none⟩) rows.length L.cap := by
      have := HpV.grid (show HpV (fun _ => L) [gridI rows] v0 0 from h0) _ _ _ rfl
      simpa using this
    have e1 : v1 = .func (.func 58) #[] #[] := by
      obtain ⟨fs, cs, ea, l1, l2, -, -⟩ := VR.fn_inv (show VR g v1 _ from h1)
      have a1 : fs = #[] := Array.eq_empty_of_size_eq_zero l1
      have a2 : cs = #[] := Array.eq_empty_of_size_eq_zero l2
      rw [ea, a1, a2]
    subst e0 e1
    have hlen := hp.length_eq
    have hblk : L.blk < w.heap.size := (Array.getElem?_eq_some_iff.1 hg.hw).1
    have hfoot : footB (gridI rows) L L.blk = true := footB_iff.2 (.inl rfl)
    have hfootR : ∀ i, i < rows.length → footB (gridI rows) L (L.rows i) = true := fun i hi => footB_iff.2 (.inr ⟨i, by simpa using hi, rfl⟩)
    rcases Nat.lt_or_ge rows.length 2 with hsm | hge
    · refine (sortRows_tiny w (some ⟨L.blk, 0, none⟩) rows.length L.cap (by omega) (swap_tiny _ (by omega))).mono ?_
      rintro e w' ⟨rfl, os, rfl⟩
      have hVr : V = rows := by
        match rows, V, hp, hsm with
        | [], V, hp, _ => exact hp.symm.eq_nil
        | [r], V, hp, _ => exact (List.singleton_perm.1 hp).symm
      subst hVr
      have hb := grow_below w os
      refine ⟨.tuple #[], g, L, rfl, GExt.refl g, fun _ _ _ => rfl, belowL_of (w0 := ⟨w, g, footB (gridI V) L⟩) hb, hag.below hb, ⟨cur, rc, { hg with hB := Ini.own_lent hfoot, hw := (hb.block _ hblk).trans hg.hw, hB' := fun i hi => Ini.own_lent (hfootR i (by simpa using hi)), hrow := fun i r hr => ?_ }⟩, rfl, rfl, .tup #[] [] rfl (fun i q hq => by simp at hq)⟩
      obtain ⟨a1, a2, a3, a4⟩ := hg.hrow i r hr
      exact ⟨a1, a2, (hb.block _ (Array.getElem?_eq_some_iff.1 a3).1).trans a3, a4⟩
    · obtain ⟨n, hn⟩ : ∃ n, rows.length = n + 1 := ⟨rows.length - 1, by omega⟩
      have hrc := fun i (hi : i < n + 1) => row_cells hg (i := i) (by omega)
      let R : Nat → List Int := fun i => rows.getD i []
      let d : Array (Fin (n + 1)) := Array.ofFn id
      have hd : d.size = n + 1 := by simp [d]
      have hcs : n + 1 ≤ cur.size := by rw [hg.hsz]; have := hg.hcap; simp at this; omega
      have hH : Holds (encR R L.rows L.caps) w L.blk 0 d := fun j hj => by
        have hj' : j < n + 1 := by omega
        have ed : d[j]! = ⟨j, hj'⟩ := by rw [getElem!_pos d j hj]; simp [d]
        rw [Nat.zero_add, ed]
        refine ⟨?_, ?_⟩
        · rw [own_load hg.hw (by omega), (hrc j hj').1]; rfl
        · simp [World.frozen?, hg.hw]
      have hB : ∀ i, i < n + 1 → L.rows i ≠ L.blk ∧ L.rows i < w.heap.size := fun i hi => ⟨hg.hne i (by simp; omega), (Array.getElem?_eq_some_iff.1 (hrc i hi).2.1).1⟩
      have hR : ∀ i, i < n + 1 → (R i).length ≤ 1048576 ∧ ∀ k, k < (R i).length → w.cell? ⟨L.rows i, k, none⟩ = some (.int .i64 ((R i).getD k 0)) := fun i hi => by
        obtain ⟨b1, b2, b3, b4, b5, b6⟩ := hrc i hi
        refine ⟨hok _ (by show rows.getD i [] ∈ rows; rw [List.getD_eq_getElem?_getD, List.getElem?_eq_getElem (by omega)]; exact List.getElem_mem _), fun k hk => ?_⟩
        have hk' : k < (rows.getD i []).length := hk
        rw [own_load b2 (by omega), b6 k hk']
      have hc := sortRows_q R L.rows L.caps w L.blk L.cap hblk d hd (by omega) (by omega) (swo_ltR R) hH hB hR
      rw [hn]
      refine hc.mono ?_
      rintro e w' ⟨rfl, d', q, os, hp1, hs1, rfl⟩
      obtain ⟨s1, s2, s3⟩ := sorted_rows R d d' rfl hp1 hs1
      have hW : (d'.toList.map fun i => R i.val) = V := by
        refine asc_unique V _ hV s3 ?_
        have e : (List.finRange (n + 1)).map (fun i => R i.val) = rows := by
          apply List.ext_getElem (by simp; omega)
          intro i h1 h2
          simp [R, h2]
        have := s2.map fun i => R i.val
        rw [e] at this
        exact this.trans hp
      have hVl : V.length = n + 1 := by rw [← hW]; simp [s1]
      have hVi : ∀ i, i < n + 1 → V.getD i [] = R (d'[i]!).val := fun i hi => by
        rw [← hW, getElem!_pos d' i (by omega)]
        simp [List.getD_eq_getElem?_getD, s1, hi]
      have hinj : ∀ i j, i < n + 1 → j < n + 1 → d'[i]! = d'[j]! → i = j := fun i j hi hj e => by
        have hnd : d'.toList.Nodup := s2.symm.nodup (List.nodup_finRange _)
        rw [getElem!_pos d' i (by omega), getElem!_pos d' j (by omega)] at e
        have hpw := List.pairwise_iff_getElem.1 hnd
        rcases Nat.lt_trichotomy i j with h | h | h
        · exact absurd e (by have := hpw i j (by simp; omega) (by simp; omega) h; simpa using this)
        · exact h
        · exact absurd e.symm (by have := hpw j i (by simp; omega) (by simp; omega) h; simpa using this)
      have hw' := heap_grow_row w q L.blk (encR R L.rows L.caps) d' os hg.hw
      have hother := fun {k : Nat} (hk : k < w.heap.size) (hne : k ≠ L.blk) => heap_grow_other w q L.blk (encR R L.rows L.caps) d' os hk hne
      generalize hww : grow (putRow (encR R L.rows L.caps) (Sort.ahead w q) L.blk 0 d') os = w' at *
      have hsize : w.heap.size ≤ w'.heap.size := by rw [← hww, size_grow, size_putRow]; show w.heap.size ≤ w.heap.size + _; omega
      let L' : Pv.Loc := ⟨L.blk, L.cap, fun j => L.rows (d'[j]!).val, fun j => L.caps (d'[j]!).val⟩
      have hrowV : ∀ i r, (V.map fun r => r.map I)[i]? = some r → i < n + 1 ∧ r = (R (d'[i]!).val).map I := fun i r hr => by
        have hi : i < n + 1 := by have := (List.getElem?_eq_some_iff.1 hr).1; simp at this; omega
        rw [idx_gridI (by omega), hVi i hi] at hr
        exact ⟨hi, (Option.some.inj hr).symm⟩
      have hgrid : GridOwn g w' (Ini.own ⟨w, g, footB (gridI rows) L⟩) 28 3 (V.map fun r => r.map I).length (V.map fun r => r.map I) L' (putCells (encR R L.rows L.caps) 0 d' cur) (fun j => rc (d'[j]!).val) :=
        { hB := Ini.own_lent hfoot, hw := hw', hsz := by rw [size_putCells]; exact hg.hsz, hle := Nat.le_refl _
          hcap := by have := hg.hcap; simp only [List.length_map] at this ⊢; show V.length ≤ L.cap; omega
          hmax := hg.hmax, hnil := fun i h1 h2 => by omega
          hB' := fun i hi => Ini.own_lent (hfootR _ (by have := (d'[i]!).isLt; omega))
          hrow := fun i r hr => by
            obtain ⟨hi, rfl⟩ := hrowV i r hr
            obtain ⟨b1, b2, b3, b4, b5, b6⟩ := hrc _ (d'[i]!).isLt
            refine ⟨?_, ⟨by rw [List.length_map]; exact b4, b5⟩, (hother (hB _ (d'[i]!).isLt).2 (hB _ (d'[i]!).isLt).1).trans b2, b3⟩
            rw [putCells_at _ _ _ _ (by omega), if_pos (by omega), List.length_map]
            rfl
          hv := fun i r j q hr hq => by
            obtain ⟨hi, rfl⟩ := hrowV i r hr
            obtain ⟨b1, b2, b3, b4, b5, b6⟩ := hrc _ (d'[i]!).isLt
            have hj : j < (rows.getD (d'[i]!).val []).length := by have := (List.getElem?_eq_some_iff.1 hq).1; simpa [R] using this
            rw [idx_I hj] at hq
            cases hq
            exact ⟨rfl, by rw [b6 j hj]; exact .val _⟩
          hg := hg.hg
          hg' := fun i o hi => hg.hg' _ o (by have := (d'[i]!).isLt; simp; omega)
          hne := fun i hi => (hB _ (d'[i]!).isLt).1
          hinj := fun i j hi hj e => by
            have := hg.hinj _ _ (by have := (d'[i]!).isLt; simp; omega) (by have := (d'[j]!).isLt; simp; omega) e
            exact hinj i j (by simp at hi; omega) (by simp at hj; omega) (Fin.ext this) }
      refine ⟨.tuple #[], g, L', rfl, GExt.refl g, fun _ _ _ => rfl, ⟨by rw [← hww]; rfl, by rw [← hww]; rfl, by rw [← hww]; rfl, hsize, fun k hk => ?_⟩, fun b o v hgv => ?_, ⟨_, _, hgrid⟩, rfl, rfl, .tup #[] [] rfl (fun i q hq => by simp at hq)⟩
      · have hlt := Ini.old_lt hk
        refine hother hlt fun e => hk ?_
        subst e
        exact Ini.own_lent hfoot
      · have hlt := hag.lt hgv
        have hne : b ≠ L.blk := fun e => by rw [e, hg.hg] at hgv; cases hgv
        have := hag b o v hgv
        simp only [World.cell?] at this ⊢
        rw [hother hlt hne]
        exact this
end Go.Proofs.YtbfmjknngofleaaGreat
