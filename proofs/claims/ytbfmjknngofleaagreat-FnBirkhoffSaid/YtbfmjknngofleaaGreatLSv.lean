/- Birkhoff's theorem: the irreducible elements of the lattice of downsets are as many as the elements; the numbers of downsets are a lattice map; an element is the join of its greatest points. No program here. -/
import Derived.Test.YtbfmjknngofleaaGreatLSn
namespace Go.Proofs.YtbfmjknngofleaaGreat
set_option linter.unusedSectionVars false

/-- The downset of one element. -/
def prL (P : List (List Int)) (x : Nat) : List Int := upTo P.length fun y => leqB P (y : Int) (x : Int)
section
variable {P : List (List Int)} (hP : goodP P = true) (h10 : (dsO P).length ≤ 10)
include hP
theorem pr_ds {x : Nat} (hx : x < P.length) : prL P x ∈ dsO P :=
  ds_of (rfl_of hP) fun a b ha hb h hl => (good_Ord hP).2.2 b a x hb ha hx hl h
theorem pr_mem {x : Nat} {a : Int} (hx : x < P.length) : a ∈ prL P x ↔ inR P a ∧ leqB P a (x : Int) = true := by
  unfold prL
  rw [upTo_mem]
  constructor
  · rintro ⟨a0, a1, h⟩
    rw [show ((a.toNat : Nat) : Int) = a by omega] at h
    exact ⟨⟨a0, a1⟩, h⟩
  · rintro ⟨h1, h2⟩
    exact ⟨h1.1, h1.2, by rw [(inR_nat h1).1]; exact h2⟩
theorem pr_self {x : Nat} (hx : x < P.length) : (x : Int) ∈ prL P x := (pr_mem hP hx).2 ⟨⟨by omega, by omega⟩, (rfl_of hP).refl _ ⟨by omega, by omega⟩⟩
theorem pr_inj {x y : Nat} (hx : x < P.length) (hy : y < P.length) (h : prL P x = prL P y) : x = y := by
  have h1 : (x : Int) ∈ prL P y := h ▸ pr_self hP hx
  have h2 : (y : Int) ∈ prL P x := h.symm ▸ pr_self hP hy
  have h1 := ((pr_mem hP hy).1 h1).2
  have h2 := ((pr_mem hP hx).1 h2).2
  rcases Nat.lt_trichotomy x y with h' | h' | h'
  · have := (good_Ord hP).2.1 x y hx hy (by omega) h1
    rw [h2] at this; cases this
  · exact h'
  · have := (good_Ord hP).2.1 x y hx hy (by omega) h1
    rw [h2] at this; cases this
/-- The number of the downset of an element. -/
theorem pr_idx {x : Nat} (hx : x < P.length) : ∃ i, inR (dlV P) i ∧ dv P i = prL P x := by
  obtain ⟨i, h0, h1, e⟩ := dv_of (pr_ds hP hx)
  exact ⟨i, ⟨h0, by rw [dl_len]; exact h1⟩, e⟩
theorem pr_sub {r : List Int} (hr : r ∈ dsO P) {x : Nat} (hx : x < P.length) (h : (x : Int) ∈ r) : ∀ a ∈ prL P x, a ∈ r := fun a ha => by
  obtain ⟨h1, h2⟩ := (pr_mem hP hx).1 ha
  exact ds_down (rfl_of hP) hr h h1 h2
include h10
theorem dl_bot (a : Int) : a ∉ dv P (botL (dlV P)) := fun ha => by
  have hg := dl_good (rfl_of hP) h10
  have he := ds_of (rfl_of hP) (p := fun _ => false) fun x y _ _ h _ => absurd h (by simp)
  obtain ⟨i, h0, h1, e⟩ := dv_of he
  have hi : inR (dlV P) i := ⟨h0, by rw [dl_len]; exact h1⟩
  have := (dl_leq (bot_in hg) hi).1 (bot_le hg hi) a ha
  rw [e, upTo_mem] at this
  exact absurd this.2.2 (by simp)
theorem dv_in {i : Int} (hi : inR (dlV P) i) : dv P i ∈ dsO P := by
  unfold inR at hi
  rw [dl_len] at hi
  exact dv_mem hi.1 hi.2
theorem dl_irr {i : Int} (hi : inR (dlV P) i) : irrB (dlV P) i.toNat = true ↔ ∃ x, x < P.length ∧ dv P i = prL P x := by
  have R := rfl_of hP
  have hg := dl_good R h10
  have D := dst_of (dl_dist R h10)
  have L := D.lat
  constructor
  · intro h
    -- the join of the downsets of its elements
    have hx : ∀ a ∈ dv P i, ∃ j, inR (dlV P) j ∧ dv P j = prL P a.toNat := fun a ha => pr_idx hP (inR_nat (ds_in R (dv_in hP h10 hi) ha)).2
    obtain ⟨J, hJ⟩ : ∃ J : Int → Int, ∀ a, a ∈ dv P i → inR (dlV P) (J a) ∧ dv P (J a) = prL P a.toNat := Classical.axiomOfChoice (r := fun a j => a ∈ dv P i → inR (dlV P) j ∧ dv P j = prL P a.toNat) fun a => by
      rcases Classical.em (a ∈ dv P i) with h' | h'
      · obtain ⟨j, hj⟩ := hx a h'
        exact ⟨j, fun _ => hj⟩
      · exact ⟨0, fun h => absurd h h'⟩
    have hl : ∀ y ∈ (dv P i).map J, inR (dlV P) y := fun y hy => by
      obtain ⟨a, ha, rfl⟩ := List.mem_map.1 hy
      exact (hJ a ha).1
    obtain ⟨f1, -, f3, -⟩ := fold_join L ((dv P i).map J) (botL (dlV P)) (bot_in hg) hl
    have hle : leqB (dlV P) i (((dv P i).map J).foldl (joinL (dlV P)) (botL (dlV P))) = true := (dl_leq hi f1).2 fun a ha => by
      have h1 := f3 (J a) (List.mem_map.2 ⟨a, ha, rfl⟩)
      refine (dl_leq (hJ a ha).1 f1).1 h1 a ?_
      have hin := ds_in R (dv_in hP h10 hi) ha
      rw [(hJ a ha).2]
      have := pr_self hP (inR_nat hin).2
      rwa [(inR_nat hin).1] at this
    rcases prime_fold L (fun a b ha hb h' => irr_prime D hi ha hb h h') _ _ (bot_in hg) hl hle with h' | ⟨y, hy, h'⟩
    · exact absurd (L.anti _ _ hi (bot_in hg) h' (bot_le hg hi)) (irr_ne_bot hg hi h)
    · obtain ⟨a, ha, rfl⟩ := List.mem_map.1 hy
      have hin := ds_in R (dv_in hP h10 hi) ha
      refine ⟨a.toNat, (inR_nat hin).2, ?_⟩
      refine ds_ext R (dv_in hP h10 hi) (pr_ds hP (inR_nat hin).2) fun b => ⟨fun hb => ?_, fun hb => ?_⟩
      · have := (dl_leq hi (hJ a ha).1).1 h' b hb
        rwa [(hJ a ha).2] at this
      · exact pr_sub hP (dv_in hP h10 hi) (inR_nat hin).2 (by rw [(inR_nat hin).1]; exact ha) b hb
  · rintro ⟨x, hx, e⟩
    refine prime_irr hg hi (fun e' => ?_) fun a b ha hb hl => ?_
    · have := pr_self hP hx
      rw [← e, e'] at this
      exact dl_bot hP h10 _ this
    · have hj := L.joinR a b ha hb
      have := (dl_leq hi hj).1 hl (x : Int) (by rw [e]; exact pr_self hP hx)
      rw [dl_join R h10 ha hb] at this
      rcases this with h | h
      · exact .inl ((dl_leq hi ha).2 fun c hc => pr_sub hP (dv_in hP h10 ha) hx h c (by rw [← e]; exact hc))
      · exact .inr ((dl_leq hi hb).2 fun c hc => pr_sub hP (dv_in hP h10 hb) hx h c (by rw [← e]; exact hc))
/-- The lattice of downsets has as many points as the poset has elements. -/
theorem dl_points : (irrL (dlV P)).length = P.length := by
  have R := rfl_of hP
  refine Nat.le_antisymm ?_ ?_
  · have hnd : ((irrL (dlV P)).map (dv P)).Nodup := nodup_map_on (fun a ha b hb h => by
      obtain ⟨a0, a1, -⟩ := upTo_mem.1 ha
      obtain ⟨b0, b1, -⟩ := upTo_mem.1 hb
      rw [dl_len] at a1 b1
      exact dv_inj ⟨a0, a1⟩ ⟨b0, b1⟩ h) (sorted_nodup (upTo_sorted _ _))
    have := length_le_of_sub (m := (List.range P.length).map (prL P)) hnd fun r hr => by
      obtain ⟨i, hi, rfl⟩ := List.mem_map.1 hr
      obtain ⟨i0, i1, i2⟩ := upTo_mem.1 hi
      obtain ⟨x, hx, e⟩ := (dl_irr hP h10 ⟨i0, i1⟩).1 i2
      exact List.mem_map.2 ⟨x, List.mem_range.2 hx, e.symm⟩
    simpa using this
  · have hnd : ((List.range P.length).map (prL P)).Nodup := nodup_map_on (fun a ha b hb h => pr_inj hP (List.mem_range.1 ha) (List.mem_range.1 hb) h) List.nodup_range
    have := length_le_of_sub (m := (irrL (dlV P)).map (dv P)) hnd fun r hr => by
      obtain ⟨x, hx, rfl⟩ := List.mem_map.1 hr
      obtain ⟨i, hi, e⟩ := pr_idx hP (List.mem_range.1 hx)
      exact List.mem_map.2 ⟨i, upTo_mem.2 ⟨hi.1, hi.2, (dl_irr hP h10 hi).2 ⟨x, List.mem_range.1 hx, e⟩⟩, e⟩
    simpa using this
end
theorem pb_mem {rows : List (List Int)} {x i : Int} : i ∈ pbL rows x ↔ (0 ≤ i ∧ i < ((irrL rows).length : Int)) ∧ leqB rows (own rows i.toNat) x = true := by
  unfold pbL
  rw [upTo_mem]
  exact ⟨fun h => ⟨⟨h.1, h.2.1⟩, h.2.2⟩, fun h => ⟨h.1.1, h.1.2, h.2⟩⟩
theorem pb_inj {rows : List (List Int)} (hg : goodL rows = true) {x y : Int} (hx : inR rows x) (hy : inR rows y) (h : pbL rows x = pbL rows y) : x = y :=
  irr_eq hg hx hy fun i hi => by
    have e : (i : Int) ∈ pbL rows x ↔ (i : Int) ∈ pbL rows y := by rw [h]
    rw [pb_mem, pb_mem] at e
    simp only [Int.toNat_natCast] at e
    exact ⟨fun h' => (e.1 ⟨⟨by omega, by omega⟩, h'⟩).2, fun h' => (e.2 ⟨⟨by omega, by omega⟩, h'⟩).2⟩
/-- The downsets of points are as many as the elements. -/
theorem ds_count {rows : List (List Int)} (D : Dst rows) : (dsO (ptsL rows)).length = rows.length := by
  refine Nat.le_antisymm (by rw [dsO_len]; exact ds_few D) ?_
  have hnd : ((List.range rows.length).map fun x : Nat => pbL rows (x : Int)).Nodup := nodup_map_on (fun a ha b hb h => by
    have := List.mem_range.1 ha
    have := List.mem_range.1 hb
    have := pb_inj D.good (x := (a : Int)) (y := (b : Int)) ⟨by omega, by omega⟩ ⟨by omega, by omega⟩ h
    omega) List.nodup_range
  have := length_le_of_sub (m := dsO (ptsL rows)) hnd fun r hr => by
    obtain ⟨x, hx, rfl⟩ := List.mem_map.1 hr
    have := List.mem_range.1 hx
    exact pb_ds D.good ⟨by omega, by omega⟩
  simpa using this
theorem dnum_getD {rows : List (List Int)} {n x : Nat} (hx : x < n) : (dnumL rows n).getD x 0 = ((dsO (ptsL rows)).idxOf (pbL rows (x : Int)) : Int) := getD_map_range n (fun x : Nat => ((dsO (ptsL rows)).idxOf (pbL rows (x : Int)) : Int)) 0 hx
theorem dnum_dv {rows : List (List Int)} (hg : goodL rows = true) {x : Int} (hx : inR rows x) : inR (dlV (ptsL rows)) (im (dnumL rows rows.length) x) ∧ dv (ptsL rows) (im (dnumL rows rows.length) x) = pbL rows x := by
  have hm := pb_ds hg hx
  have hl := List.idxOf_lt_length_of_mem hm
  unfold im
  rw [dnum_getD (inR_nat hx).2, (inR_nat hx).1]
  refine ⟨⟨by omega, by rw [dl_len]; omega⟩, ?_⟩
  unfold dv
  rw [Int.toNat_natCast, List.getD_eq_getElem?_getD, List.getElem?_eq_getElem hl]
  exact List.getElem_idxOf hl
/-- The numbers of the downsets of points are a lattice map. -/
theorem dnum_map {rows : List (List Int)} (D : Dst rows) : lmB rows (dlV (ptsL rows)) (dnumL rows rows.length) = true := by
  have hg := D.good
  have L := D.lat
  have hP := pts_good hg
  have R := rfl_of hP
  have h10 : (dsO (ptsL rows)).length ≤ 10 := by rw [ds_count D]; exact good_10L hg
  have hq := dl_good R h10
  have Lq := goodL_lat hq
  have hd := fun {x : Int} (hx : inR rows x) => dnum_dv hg hx
  have hll := dnumL_len rows rows.length
  have mono : ∀ x y, inR rows x → inR rows y → leqB rows x y = true → ∀ a ∈ pbL rows x, a ∈ pbL rows y := fun x y hx hy hl a ha => by
    obtain ⟨h1, h2⟩ := pb_mem.1 ha
    exact pb_mem.2 ⟨h1, L.trans _ _ _ (own_in (by omega)) hx hy h2 hl⟩
  unfold lmB lmH
  simp only [Bool.and_eq_true, decide_eq_true_eq, hll]
  refine ⟨⟨⟨trivial, inSize_of fun i hi => ?_⟩, ?_, ?_⟩, allN_iff.2 fun x hx => allN_iff.2 fun y hy => ?_⟩
  · rw [hll] at hi
    have := (hd (x := (i : Int)) ⟨by omega, by omega⟩).1
    exact this
  · have hb := bot_in hg
    refine dv_eq R (hd hb).1 (bot_in hq) fun a => ?_
    rw [(hd hb).2]
    refine ⟨fun ha => ?_, fun ha => absurd ha (dl_bot hP h10 a)⟩
    obtain ⟨h1, h2⟩ := pb_mem.1 ha
    have ho : inR rows (own rows a.toNat) := own_in (by omega)
    exact absurd (L.anti _ _ ho hb h2 (bot_le hg ho)) (irr_ne_bot hg ho (own_irr (by omega)))
  · have ht := top_in hg
    refine Lq.anti _ _ (hd ht).1 (top_in hq) (le_top hq (hd ht).1) ((dl_leq (top_in hq) (hd ht).1).2 fun a ha => ?_)
    rw [(hd ht).2]
    have := ds_in R (dv_in hP h10 (top_in hq)) ha
    unfold inR at this
    rw [length_pts] at this
    exact pb_mem.2 ⟨this, le_top hg (own_in (by omega))⟩
  · have hxr : inR rows (x : Int) := ⟨by omega, by omega⟩
    have hyr : inR rows (y : Int) := ⟨by omega, by omega⟩
    have ex : (dnumL rows rows.length).getD x 0 = im (dnumL rows rows.length) (x : Int) := rfl
    have ey : (dnumL rows rows.length).getD y 0 = im (dnumL rows rows.length) (y : Int) := rfl
    have hm := L.meetR _ _ hxr hyr
    have hj := L.joinR _ _ hxr hyr
    unfold lmP
    rw [ex, ey, Bool.and_eq_true, decide_eq_true_eq, decide_eq_true_eq]
    refine ⟨dv_eq R (hd hm).1 (Lq.meetR _ _ (hd hxr).1 (hd hyr).1) fun a => ?_, dv_eq R (hd hj).1 (Lq.joinR _ _ (hd hxr).1 (hd hyr).1) fun a => ?_⟩
    · rw [(hd hm).2, dl_meet R h10 (hd hxr).1 (hd hyr).1, (hd hxr).2, (hd hyr).2]
      constructor
      · intro h
        exact ⟨mono _ _ hm hxr (L.meet1 _ _ hxr hyr) a h, mono _ _ hm hyr (L.meet2 _ _ hxr hyr) a h⟩
      · rintro ⟨h1, h2⟩
        obtain ⟨a1, a2⟩ := pb_mem.1 h1
        exact pb_mem.2 ⟨a1, L.meetG _ _ _ hxr hyr (own_in (by omega)) a2 (pb_mem.1 h2).2⟩
    · rw [(hd hj).2, dl_join R h10 (hd hxr).1 (hd hyr).1, (hd hxr).2, (hd hyr).2]
      constructor
      · intro h
        obtain ⟨a1, a2⟩ := pb_mem.1 h
        rcases irr_prime D (own_in (by omega)) hxr hyr (own_irr (by omega)) a2 with h' | h'
        · exact .inl (pb_mem.2 ⟨a1, h'⟩)
        · exact .inr (pb_mem.2 ⟨a1, h'⟩)
      · rintro (h | h)
        · exact mono _ _ hxr hj (L.join1 _ _ hxr hyr) a h
        · exact mono _ _ hyr hj (L.join2 _ _ hxr hyr) a h
/-- Each point below an element is below one of the greatest ones there. -/
theorem top_above {rows : List (List Int)} (L : Lat rows) {x : Int} : ∀ (N : Nat) (i : Int), i ∈ pbL rows x → hN rows (own rows i.toNat) ≤ N → ∃ k ∈ tpL rows x, leqB rows (own rows i.toNat) (own rows k.toNat) = true
  | N, i, hi, hn => by
    obtain ⟨i1, i2⟩ := pb_mem.1 hi
    have ho : inR rows (own rows i.toNat) := own_in (by omega)
    cases ht : topP rows (pbL rows x) i with
    | true => exact ⟨i, List.mem_filter.2 ⟨hi, ht⟩, L.refl _ ho⟩
    | false =>
      have : ∃ k ∈ pbL rows x, lessB (ptsL rows) i k = true := by
        unfold topP at ht
        rw [List.all_eq_false] at ht
        obtain ⟨k, hk, h⟩ := ht
        exact ⟨k, hk, by simpa using h⟩
      obtain ⟨k, hk, hl⟩ := this
      obtain ⟨k1, k2⟩ := pb_mem.1 hk
      rw [pts_less i1 k1] at hl
      have hok : inR rows (own rows k.toNat) := own_in (by omega)
      have hlt := hN_lt L ho hok hl
      match N, hn with
      | 0, hn => omega
      | N + 1, hn =>
        obtain ⟨j, hj, h⟩ := top_above L N k hk (by omega)
        obtain ⟨j1, -⟩ := pb_mem.1 (List.mem_filter.1 hj).1
        exact ⟨j, hj, L.trans _ _ _ ho hok (own_in (by omega)) (less_iff.1 hl).2 h⟩
/-- An element is the join of its greatest points. -/
theorem top_join {rows : List (List Int)} (hg : goodL rows = true) {x : Int} (hx : inR rows x) : ((tpL rows x).map fun i => own rows i.toNat).foldl (joinL rows) (botL rows) = x := by
  have L := goodL_lat hg
  have hl : ∀ y ∈ (tpL rows x).map fun i => own rows i.toNat, inR rows y := fun y hy => by
    obtain ⟨i, hi, rfl⟩ := List.mem_map.1 hy
    have := (pb_mem.1 (List.mem_filter.1 hi).1).1
    exact own_in (by omega)
  obtain ⟨f1, -, f3, f4⟩ := fold_join L _ (botL rows) (bot_in hg) hl
  refine L.anti _ _ f1 hx (f4 x hx (bot_le hg hx) fun s hs => ?_) (irr_le hg _ _ _ hx f1 (Nat.le_refl _) fun i hi hle => ?_)
  · obtain ⟨i, hi, rfl⟩ := List.mem_map.1 hs
    exact (pb_mem.1 (List.mem_filter.1 hi).1).2
  · obtain ⟨k, hk, h⟩ := top_above L _ (i : Int) (pb_mem.2 ⟨⟨by omega, by omega⟩, hle⟩) (Nat.le_refl _)
    have hk1 := (pb_mem.1 (List.mem_filter.1 hk).1).1
    exact L.trans _ _ _ (own_in hi) (own_in (by omega)) f1 h (f3 _ (List.mem_map.2 ⟨k, hk, rfl⟩))
end Go.Proofs.YtbfmjknngofleaaGreat
