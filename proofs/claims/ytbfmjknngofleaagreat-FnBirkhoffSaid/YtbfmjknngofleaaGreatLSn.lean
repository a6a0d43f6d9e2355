/- The lattice of downsets of a poset: it is a distributive lattice whose irreducible elements are the downsets of single elements. No program here. -/
import Derived.Test.YtbfmjknngofleaaGreatLSk
import Derived.Test.YtbfmjknngofleaaGreatLSh
namespace Go.Proofs.YtbfmjknngofleaaGreat

theorem sorted_getD {l : List Int} (h : l.Pairwise (· < ·)) {i j : Nat} (hij : i < j) (hj : j < l.length) : l.getD i 0 < l.getD j 0 := by
  rw [List.getD_eq_getElem?_getD, List.getD_eq_getElem?_getD, List.getElem?_eq_getElem hj, List.getElem?_eq_getElem (by omega)]
  exact List.pairwise_iff_getElem.1 h i j (by omega) hj hij
theorem ris_upTo (n : Nat) (p : Nat → Bool) : risB (upTo n p) 0 ((n : Int) - 1) = true := by
  unfold risB
  refine allN_iff.2 fun i hi => ?_
  have h1 := upTo_getD hi
  rw [Bool.and_eq_true]
  refine ⟨by unfold inB; rw [Bool.and_eq_true, decide_eq_true_eq, decide_eq_true_eq]; omega, ?_⟩
  cases i with
  | zero => rfl
  | succ i =>
    rw [Nat.add_sub_cancel, decide_eq_true (sorted_getD (upTo_sorted n p) (Nat.lt_succ_self i) hi), Bool.or_true]
/-- A list of rows made of a relation is a poset if the relation is an order. -/
theorem goodP_upTo {rows : List (List Int)} {f : Nat → Nat → Bool} (h10 : rows.length ≤ 10) (hr : ∀ x, x < rows.length → rows.getD x [] = upTo rows.length (f x)) (h1 : ∀ x, x < rows.length → f x x = true)
    (h2 : ∀ x y, x < rows.length → y < rows.length → f x y = true → f y x = true → x = y) (h3 : ∀ x y z, x < rows.length → y < rows.length → z < rows.length → f x y = true → f y z = true → f x z = true) : goodP rows = true := by
  unfold goodP
  rw [Bool.and_eq_true, Bool.and_eq_true, decide_eq_true_eq]
  refine ⟨h10, allN_iff.2 fun x hx => ?_, allN_iff.2 fun x hx => ?_⟩
  · unfold good1
    rw [hr x hx, ris_upTo, Bool.true_and, List.contains_iff_mem, upTo_mem]
    exact ⟨by omega, by omega, by simpa using h1 x hx⟩
  · unfold good2
    rw [hr x hx]
    refine List.all_eq_true.2 fun y hy => ?_
    obtain ⟨y0, y1, y2⟩ := upTo_mem.1 hy
    have hyl : y.toNat < rows.length := by omega
    rw [hr y.toNat hyl, Bool.and_eq_true]
    refine ⟨?_, List.all_eq_true.2 fun z hz => ?_⟩
    · rcases Classical.em (y = (x : Int)) with e | e
      · rw [decide_eq_true e]; rfl
      · rw [decide_eq_false e, Bool.not_false, Bool.true_and]
        cases hc : (upTo rows.length (f y.toNat)).contains (x : Int) with
        | false => rfl
        | true =>
          rw [List.contains_iff_mem, upTo_mem] at hc
          have := h2 x y.toNat hx hyl y2 (by simpa using hc.2.2)
          omega
    · obtain ⟨z0, z1, z2⟩ := upTo_mem.1 hz
      exact List.contains_iff_mem.2 (upTo_mem.2 ⟨z0, z1, h3 x y.toNat z.toNat hx hyl (by omega) y2 z2⟩)
theorem bound_nn {rows : List (List Int)} {l : List Int} {m : Int} (hm : inR rows m) (h1 : ∀ s ∈ l, leqB rows m s = true) (h2 : ∀ z, inR rows z → (∀ s ∈ l, leqB rows z s = true) → leqB rows z m = true) : 0 ≤ boundL rows l := by
  have hlow : m ∈ lowsB rows l rows.length := upTo_mem.2 ⟨hm.1, hm.2, by rw [(inR_nat hm).1]; exact List.all_eq_true.2 h1⟩
  have hw : withinB (lowsB rows l rows.length) (rows.getD m.toNat []) = true := List.all_eq_true.2 fun z hz => by
    obtain ⟨z0, z1, z2⟩ := upTo_mem.1 hz
    rw [show ((z.toNat : Nat) : Int) = z by omega] at z2
    exact h2 z ⟨z0, z1⟩ (List.all_eq_true.1 z2)
  rcases boundL_range rows l with h | h
  · exfalso
    unfold boundL at h
    cases hf : (lowsB rows l rows.length).find? fun l' => withinB (lowsB rows l rows.length) (rows.getD l'.toNat []) with
    | none => exact List.find?_eq_none.1 hf m hlow hw
    | some u =>
      rw [hf] at h
      have := (upTo_mem.1 (List.mem_of_find?_eq_some hf)).1
      simp at h; omega
  · exact h.1
/-- The points of a lattice are a poset. -/
theorem pts_good {rows : List (List Int)} (hg : goodL rows = true) : goodP (ptsL rows) = true := by
  have L := goodL_lat hg
  have hl := length_pts rows
  refine goodP_upTo (f := fun x y => leqB rows (own rows y) (own rows x)) (by rw [hl]; exact Nat.le_trans (irrL_len rows) (good_10L hg)) (fun x hx => ?_) (fun x hx => ?_) (fun x y hx hy h1 h2 => ?_) fun x y z hx hy hz h1 h2 => ?_
  · rw [hl] at hx ⊢; exact pts_getD hx
  · rw [hl] at hx; exact L.refl _ (own_in hx)
  · rw [hl] at hx hy; exact own_inj hx hy (L.anti _ _ (own_in hx) (own_in hy) h2 h1)
  · rw [hl] at hx hy hz; exact L.trans _ _ _ (own_in hz) (own_in hy) (own_in hx) h2 h1

section
set_option linter.unusedSectionVars false
variable {P : List (List Int)} (R : Rfl P)
include R
theorem ds_of {p : Nat → Bool} (h : ∀ x y, x < P.length → y < P.length → p x = true → leqB P (y : Int) (x : Int) = true → p y = true) : upTo P.length p ∈ dsO P := by
  obtain ⟨b, hb, hbit⟩ := bits_of p P.length
  have e : upTo P.length p = bitL b P.length := (upTo_congr hbit).symm
  rw [dsO_mem, e]
  unfold dsS
  refine List.mem_filter.2 ⟨List.mem_map.2 ⟨b, List.mem_range.2 hb, rfl⟩, (dnB_iff R).2 fun x y hx hy hl => ?_⟩
  rw [← e] at hx ⊢
  obtain ⟨x0, x1, x2⟩ := upTo_mem.1 hx
  refine upTo_mem.2 ⟨hy.1, hy.2, h x.toNat y.toNat (by omega) (inR_nat hy).2 x2 ?_⟩
  rw [(inR_nat hy).1, show ((x.toNat : Nat) : Int) = x by omega]
  exact hl
theorem ds_down {r : List Int} (hr : r ∈ dsO P) {x y : Int} (hx : x ∈ r) (hy : inR P y) (hl : leqB P y x = true) : y ∈ r := by
  obtain ⟨b, e, hf⟩ := dsS_mem (dsO_mem.1 hr)
  subst e
  exact (dnB_iff R).1 hf x y hx hy hl
theorem ds_in {r : List Int} (hr : r ∈ dsO P) {x : Int} (hx : x ∈ r) : inR P x := by
  obtain ⟨b, e, -⟩ := dsS_mem (dsO_mem.1 hr)
  subst e
  exact bitL_in hx
theorem ds_ext {r s : List Int} (hr : r ∈ dsO P) (hs : s ∈ dsO P) (h : ∀ x, x ∈ r ↔ x ∈ s) : r = s := by
  obtain ⟨b, e, -⟩ := dsS_mem (dsO_mem.1 hr)
  obtain ⟨c, e', -⟩ := dsS_mem (dsO_mem.1 hs)
  subst e e'
  exact sorted_ext _ _ (upTo_sorted _ _) (upTo_sorted _ _) h
end
/-- The downset with a number. -/
def dv (P : List (List Int)) (i : Int) : List Int := (dsO P).getD i.toNat []
theorem dv_mem {P : List (List Int)} {i : Int} (h0 : 0 ≤ i) (h1 : i < ((dsO P).length : Int)) : dv P i ∈ dsO P := by
  unfold dv
  rw [List.getD_eq_getElem?_getD, List.getElem?_eq_getElem (show i.toNat < (dsO P).length by omega)]
  exact List.getElem_mem _
theorem dv_of {P : List (List Int)} {r : List Int} (h : r ∈ dsO P) : ∃ i : Int, 0 ≤ i ∧ i < ((dsO P).length : Int) ∧ dv P i = r := by
  obtain ⟨i, hi, e⟩ := List.getElem_of_mem h
  exact ⟨(i : Int), by omega, by omega, by unfold dv; rw [Int.toNat_natCast, List.getD_eq_getElem?_getD, List.getElem?_eq_getElem hi]; exact e⟩
theorem dv_inj {P : List (List Int)} {i j : Int} (hi : 0 ≤ i ∧ i < ((dsO P).length : Int)) (hj : 0 ≤ j ∧ j < ((dsO P).length : Int)) (h : dv P i = dv P j) : i = j := by
  have ha := dsO_asc P
  unfold Asc at ha
  rw [List.pairwise_iff_getElem] at ha
  have ei : dv P i = (dsO P)[i.toNat]'(by omega) := by unfold dv; rw [List.getD_eq_getElem?_getD, List.getElem?_eq_getElem (by omega)]; rfl
  have ej : dv P j = (dsO P)[j.toNat]'(by omega) := by unfold dv; rw [List.getD_eq_getElem?_getD, List.getElem?_eq_getElem (by omega)]; rfl
  rw [ei, ej] at h
  rcases Nat.lt_trichotomy i.toNat j.toNat with h' | h' | h'
  · have := ha _ _ (by omega) (by omega) h'
    rw [h, cmpT_self] at this
    omega
  · omega
  · have := ha _ _ (by omega) (by omega) h'
    rw [h, cmpT_self] at this
    omega
theorem dl_len (P : List (List Int)) : (dlV P).length = (dsO P).length := dlL_len _ _
theorem dl_leq {P : List (List Int)} {k i : Int} (hk : inR (dlV P) k) (hi : inR (dlV P) i) : leqB (dlV P) k i = true ↔ ∀ a ∈ dv P k, a ∈ dv P i := by
  unfold inR at hk hi
  rw [dl_len] at hk hi
  have e : (dlV P).getD i.toNat [] = upTo (dsO P).length (dlP (dsO P) i.toNat) := getD_map_range (dsO P).length (fun i => upTo (dsO P).length (dlP (dsO P) i)) [] (by omega)
  unfold leqB
  rw [e, List.contains_iff_mem, upTo_mem]
  unfold dlP withinB
  rw [List.all_eq_true]
  constructor
  · rintro ⟨-, -, h⟩ a ha
    exact List.contains_iff_mem.1 (h a ha)
  · intro h
    exact ⟨hk.1, hk.2, fun a ha => List.contains_iff_mem.2 (h a ha)⟩
theorem dl_goodP {P : List (List Int)} (R : Rfl P) (h10 : (dsO P).length ≤ 10) : goodP (dlV P) = true := by
  have hl := dl_len P
  have hw : ∀ x y, dlP (dsO P) x y = true ↔ ∀ a ∈ dv P (y : Int), a ∈ dv P (x : Int) := fun x y => by
    unfold dlP withinB dv
    rw [List.all_eq_true]
    simp only [Int.toNat_natCast]
    exact ⟨fun h a ha => List.contains_iff_mem.1 (h a ha), fun h a ha => List.contains_iff_mem.2 (h a ha)⟩
  refine goodP_upTo (f := dlP (dsO P)) (by omega) (fun x hx => ?_) (fun x hx => (hw x x).2 fun a h => h) (fun x y hx hy h1 h2 => ?_) fun x y z hx hy hz h1 h2 => (hw x z).2 fun a h => (hw x y).1 h1 a ((hw y z).1 h2 a h)
  · rw [hl] at hx ⊢
    exact getD_map_range (dsO P).length (fun i => upTo (dsO P).length (dlP (dsO P) i)) [] hx
  · rw [hl] at hx hy
    have := dv_inj (P := P) (i := (x : Int)) (j := (y : Int)) ⟨by omega, by omega⟩ ⟨by omega, by omega⟩ (ds_ext R (dv_mem (by omega) (by omega)) (dv_mem (by omega) (by omega)) fun a => ⟨(hw y x).1 h2 a, (hw x y).1 h1 a⟩)
    omega
/-- Meets and joins of downsets are downsets. -/
theorem dv_inter {P : List (List Int)} (R : Rfl P) {i j : Int} (hi : inR (dlV P) i) (hj : inR (dlV P) j) : ∃ m, inR (dlV P) m ∧ ∀ a, a ∈ dv P m ↔ a ∈ dv P i ∧ a ∈ dv P j := by
  unfold inR at hi hj
  rw [dl_len] at hi hj
  have di := dv_mem hi.1 hi.2
  have dj := dv_mem hj.1 hj.2
  have hm := ds_of R (p := fun y => (dv P i).contains (y : Int) && (dv P j).contains (y : Int)) fun x y hx hy h hl => by
    rw [Bool.and_eq_true] at h ⊢
    exact ⟨List.contains_iff_mem.2 (ds_down R di (List.contains_iff_mem.1 h.1) ⟨by omega, by omega⟩ hl), List.contains_iff_mem.2 (ds_down R dj (List.contains_iff_mem.1 h.2) ⟨by omega, by omega⟩ hl)⟩
  obtain ⟨m, m0, m1, e⟩ := dv_of hm
  refine ⟨m, ⟨m0, by rw [dl_len]; exact m1⟩, fun a => ?_⟩
  rw [e, upTo_mem]
  constructor
  · rintro ⟨a0, a1, h⟩
    rw [show ((a.toNat : Nat) : Int) = a by omega, Bool.and_eq_true] at h
    exact ⟨List.contains_iff_mem.1 h.1, List.contains_iff_mem.1 h.2⟩
  · rintro ⟨h1, h2⟩
    have := ds_in R di h1
    exact ⟨this.1, this.2, by rw [(inR_nat this).1, List.contains_iff_mem.2 h1, List.contains_iff_mem.2 h2]; rfl⟩
theorem dv_union {P : List (List Int)} (R : Rfl P) {i j : Int} (hi : inR (dlV P) i) (hj : inR (dlV P) j) : ∃ m, inR (dlV P) m ∧ ∀ a, a ∈ dv P m ↔ a ∈ dv P i ∨ a ∈ dv P j := by
  unfold inR at hi hj
  rw [dl_len] at hi hj
  have di := dv_mem hi.1 hi.2
  have dj := dv_mem hj.1 hj.2
  have hm := ds_of R (p := fun y => (dv P i).contains (y : Int) || (dv P j).contains (y : Int)) fun x y hx hy h hl => by
    rw [Bool.or_eq_true] at h ⊢
    rcases h with h | h
    · exact .inl (List.contains_iff_mem.2 (ds_down R di (List.contains_iff_mem.1 h) ⟨by omega, by omega⟩ hl))
    · exact .inr (List.contains_iff_mem.2 (ds_down R dj (List.contains_iff_mem.1 h) ⟨by omega, by omega⟩ hl))
  obtain ⟨m, m0, m1, e⟩ := dv_of hm
  refine ⟨m, ⟨m0, by rw [dl_len]; exact m1⟩, fun a => ?_⟩
  rw [e, upTo_mem]
  constructor
  · rintro ⟨a0, a1, h⟩
    rw [show ((a.toNat : Nat) : Int) = a by omega, Bool.or_eq_true] at h
    exact h.imp List.contains_iff_mem.1 List.contains_iff_mem.1
  · intro h
    have : inR P a := by rcases h with h | h; exact ds_in R di h; exact ds_in R dj h
    refine ⟨this.1, this.2, ?_⟩
    rw [(inR_nat this).1, Bool.or_eq_true]
    exact h.imp List.contains_iff_mem.2 List.contains_iff_mem.2
theorem dl_good {P : List (List Int)} (R : Rfl P) (h10 : (dsO P).length ≤ 10) : goodL (dlV P) = true := by
  have hl := dl_len P
  have hne : (dlV P).length ≠ 0 := by
    have := ds_of R (p := fun _ => false) fun x y _ _ h _ => absurd h (by simp)
    have := List.length_pos_of_mem this
    omega
  unfold goodL
  rw [dl_goodP R h10, Bool.true_and, decide_eq_false hne, Bool.not_false, Bool.true_and]
  refine allN_iff.2 fun x hx => allN_iff.2 fun y hy => ?_
  have hxr : inR (dlV P) (x : Int) := ⟨by omega, by omega⟩
  have hyr : inR (dlV P) (y : Int) := ⟨by omega, by omega⟩
  unfold pairOk
  have h1 : 0 ≤ boundL (dlV P) [(x : Int), (y : Int)] := by
    obtain ⟨m, hm, e⟩ := dv_inter R hxr hyr
    refine bound_nn hm (two_all.2 ⟨(dl_leq hm hxr).2 fun a h => ((e a).1 h).1, (dl_leq hm hyr).2 fun a h => ((e a).1 h).2⟩) fun z hz hall => (dl_leq hz hm).2 fun a h => (e a).2 ⟨(dl_leq hz hxr).1 (two_all.1 hall).1 a h, (dl_leq hz hyr).1 (two_all.1 hall).2 a h⟩
  have h2 : 0 ≤ boundL (dualL (dlV P)) [(x : Int), (y : Int)] := by
    obtain ⟨m, hm, e⟩ := dv_union R hxr hyr
    have ld := length_dual (dlV P)
    refine bound_nn (m := m) (by unfold inR at hm ⊢; rw [ld]; exact hm) (two_all.2 ⟨?_, ?_⟩) fun z hz hall => ?_
    · rw [leq_dual hm hxr]; exact (dl_leq hxr hm).2 fun a h => (e a).2 (.inl h)
    · rw [leq_dual hm hyr]; exact (dl_leq hyr hm).2 fun a h => (e a).2 (.inr h)
    · have hz' : inR (dlV P) z := by unfold inR at hz ⊢; rwa [ld] at hz
      have h3 := two_all.1 hall
      rw [leq_dual hz' hxr, leq_dual hz' hyr] at h3
      rw [leq_dual hz' hm]
      exact (dl_leq hm hz').2 fun a h => ((e a).1 h).elim ((dl_leq hxr hz').1 h3.1 a) ((dl_leq hyr hz').1 h3.2 a)
  rw [decide_eq_false (by omega), decide_eq_false (by omega)]
  rfl
theorem dv_eq {P : List (List Int)} (R : Rfl P) {i j : Int} (hi : inR (dlV P) i) (hj : inR (dlV P) j) (h : ∀ a, a ∈ dv P i ↔ a ∈ dv P j) : i = j := by
  unfold inR at hi hj
  rw [dl_len] at hi hj
  exact dv_inj hi hj (ds_ext R (dv_mem hi.1 hi.2) (dv_mem hj.1 hj.2) h)
theorem dl_meet {P : List (List Int)} (R : Rfl P) (h10 : (dsO P).length ≤ 10) {i j : Int} (hi : inR (dlV P) i) (hj : inR (dlV P) j) (a : Int) : a ∈ dv P (meetL (dlV P) i j) ↔ a ∈ dv P i ∧ a ∈ dv P j := by
  have L := goodL_lat (dl_good R h10)
  obtain ⟨m, hm, e⟩ := dv_inter R hi hj
  have hmm := L.meetR i j hi hj
  have : meetL (dlV P) i j = m := L.anti _ _ hmm hm ((dl_leq hmm hm).2 fun b hb => (e b).2 ⟨(dl_leq hmm hi).1 (L.meet1 i j hi hj) b hb, (dl_leq hmm hj).1 (L.meet2 i j hi hj) b hb⟩)
    (L.meetG _ _ _ hi hj hm ((dl_leq hm hi).2 fun b hb => ((e b).1 hb).1) ((dl_leq hm hj).2 fun b hb => ((e b).1 hb).2))
  rw [this, e]
theorem dl_join {P : List (List Int)} (R : Rfl P) (h10 : (dsO P).length ≤ 10) {i j : Int} (hi : inR (dlV P) i) (hj : inR (dlV P) j) (a : Int) : a ∈ dv P (joinL (dlV P) i j) ↔ a ∈ dv P i ∨ a ∈ dv P j := by
  have L := goodL_lat (dl_good R h10)
  obtain ⟨m, hm, e⟩ := dv_union R hi hj
  have hmm := L.joinR i j hi hj
  have : joinL (dlV P) i j = m := L.anti _ _ hmm hm (L.joinG _ _ _ hi hj hm ((dl_leq hi hm).2 fun b hb => (e b).2 (.inl hb)) ((dl_leq hj hm).2 fun b hb => (e b).2 (.inr hb)))
    ((dl_leq hm hmm).2 fun b hb => ((e b).1 hb).elim ((dl_leq hi hmm).1 (L.join1 i j hi hj) b) ((dl_leq hj hmm).1 (L.join2 i j hi hj) b))
  rw [this, e]
theorem dist_of {rows : List (List Int)} (hg : goodL rows = true) (h : ∀ x y z, inR rows x → inR rows y → inR rows z → meetL rows x (joinL rows y z) = joinL rows (meetL rows x y) (meetL rows x z)) : distB rows = true := by
  unfold distB
  rw [hg, Bool.true_and]
  cases hu : uneven3 rows with
  | none => rfl
  | some t =>
    exfalso
    unfold uneven3 first3 triples at hu
    have h1 := List.mem_of_find?_eq_some hu
    have h2 := List.find?_some hu
    obtain ⟨x, hx, h1⟩ := List.mem_flatMap.1 h1
    obtain ⟨y, hy, h1⟩ := List.mem_flatMap.1 h1
    obtain ⟨z, hz, rfl⟩ := List.mem_map.1 h1
    have hx := List.mem_range.1 hx
    have hy := List.mem_range.1 hy
    have hz := List.mem_range.1 hz
    have := h (x : Int) (y : Int) (z : Int) ⟨by omega, by omega⟩ ⟨by omega, by omega⟩ ⟨by omega, by omega⟩
    unfold unevenP at h2
    simp [this] at h2
theorem dl_dist {P : List (List Int)} (R : Rfl P) (h10 : (dsO P).length ≤ 10) : distB (dlV P) = true := by
  have hg := dl_good R h10
  have L := goodL_lat hg
  refine dist_of hg fun x y z hx hy hz => dv_eq R (L.meetR _ _ hx (L.joinR _ _ hy hz)) (L.joinR _ _ (L.meetR _ _ hx hy) (L.meetR _ _ hx hz)) fun a => ?_
  rw [dl_meet R h10 hx (L.joinR _ _ hy hz), dl_join R h10 hy hz, dl_join R h10 (L.meetR _ _ hx hy) (L.meetR _ _ hx hz), dl_meet R h10 hx hy, dl_meet R h10 hx hz]
  exact and_or_left
end Go.Proofs.YtbfmjknngofleaaGreat
