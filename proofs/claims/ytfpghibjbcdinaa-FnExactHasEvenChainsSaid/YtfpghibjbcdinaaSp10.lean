/- Laws of meets and joins in the reference's lattices. No program here. -/
import Derived.Test.YtfpghibjbcdinaaLw3
import Derived.Test.YtfpghibjbcdinaaSp8
namespace Go.Proofs.Ytfpghibjbcdinaa

def inR (rows : List (List Int)) (x : Int) : Prop := 0 ≤ x ∧ x < (rows.length : Int)
structure Lat (rows : List (List Int)) : Prop where
  refl : ∀ x, inR rows x → leqB rows x x = true
  anti : ∀ x y, inR rows x → inR rows y → leqB rows x y = true → leqB rows y x = true → x = y
  trans : ∀ x y z, inR rows x → inR rows y → inR rows z → leqB rows x y = true → leqB rows y z = true → leqB rows x z = true
  meetR : ∀ x y, inR rows x → inR rows y → inR rows (meetL rows x y)
  joinR : ∀ x y, inR rows x → inR rows y → inR rows (joinL rows x y)
  meet1 : ∀ x y, inR rows x → inR rows y → leqB rows (meetL rows x y) x = true
  meet2 : ∀ x y, inR rows x → inR rows y → leqB rows (meetL rows x y) y = true
  meetG : ∀ x y z, inR rows x → inR rows y → inR rows z → leqB rows z x = true → leqB rows z y = true → leqB rows z (meetL rows x y) = true
  join1 : ∀ x y, inR rows x → inR rows y → leqB rows x (joinL rows x y) = true
  join2 : ∀ x y, inR rows x → inR rows y → leqB rows y (joinL rows x y) = true
  joinG : ∀ x y z, inR rows x → inR rows y → inR rows z → leqB rows x z = true → leqB rows y z = true → leqB rows (joinL rows x y) z = true
theorem bound_spec {rows : List (List Int)} {some : List Int} (h : 0 ≤ boundL rows some) : inR rows (boundL rows some) ∧ (∀ s ∈ some, leqB rows (boundL rows some) s = true) ∧ ∀ z, inR rows z → (∀ s ∈ some, leqB rows z s = true) → leqB rows z (boundL rows some) = true := by
  unfold boundL at h ⊢
  cases hf : (lowsB rows some rows.length).find? fun l => withinB (lowsB rows some rows.length) (rows.getD l.toNat []) with
  | none => rw [hf] at h; simp at h
  | some l =>
    rw [hf] at h
    simp only [Option.getD_some] at h ⊢
    obtain ⟨l0, l1, l2⟩ := upTo_mem.1 (List.mem_of_find?_eq_some hf)
    have hw := List.find?_some hf
    rw [show (l.toNat : Int) = l by omega] at l2
    refine ⟨⟨l0, l1⟩, fun s hs => List.all_eq_true.1 l2 s hs, fun z hz hall => ?_⟩
    have hm : z ∈ lowsB rows some rows.length := upTo_mem.2 ⟨hz.1, hz.2, by
      rw [show (z.toNat : Int) = z by have := hz.1; omega]
      exact List.all_eq_true.2 hall⟩
    exact List.all_eq_true.1 hw z hm
theorem two_all {x y : Int} {p : Int → Prop} : (∀ s ∈ [x, y], p s) ↔ p x ∧ p y := by simp
theorem good_Ord {rows : List (List Int)} (h : goodP rows = true) : Ord rows := by
  have h10 : rows.length ≤ 10 := by unfold goodP at h; simp only [Bool.and_eq_true, decide_eq_true_eq] at h; exact h.1
  have hri : ∀ x, x < rows.length → risesB (rows.getD x []) = true ∧ inSizeB (rows.getD x []) (rows.length : Int) = true := fun x hx => by
    have := goodP_1 h hx
    unfold good1 at this
    rw [Bool.and_eq_true, ris_split, Bool.and_eq_true] at this
    exact this.1
  rw [good_order rows h10 hri] at h
  exact (order_iff rows).1 h
theorem goodL_lat {rows : List (List Int)} (hg : goodL rows = true) : Lat rows := by
  obtain ⟨o1, o2, o3⟩ := good_Ord (goodL_P hg)
  have nat : ∀ {x}, inR rows x → ∃ a : Nat, x = (a : Int) ∧ a < rows.length := fun {x} hx => ⟨x.toNat, by have := hx.1; omega, by have := hx.1; have := hx.2; omega⟩
  have hd : ∀ {x y}, inR rows x → inR rows y → leqB (dualL rows) x y = leqB rows y x := fun hx hy => leq_dual hx hy
  have hdr : ∀ {x}, inR (dualL rows) x ↔ inR rows x := fun {x} => by unfold inR; rw [length_dual]
  have hm := fun x y (hx : inR rows x) (hy : inR rows y) => bound_spec (rows := rows) (some := [x, y]) (good_bounds hg hx hy).1
  have hj := fun x y (hx : inR rows x) (hy : inR rows y) => bound_spec (rows := dualL rows) (some := [x, y]) (good_bounds hg hx hy).2
  have hmr : ∀ x y, inR rows x → inR rows y → inR rows (meetL rows x y) := fun x y hx hy => (hm x y hx hy).1
  have hjr : ∀ x y, inR rows x → inR rows y → inR rows (joinL rows x y) := fun x y hx hy => hdr.1 (hj x y hx hy).1
  refine ⟨fun x hx => ?_, fun x y hx hy h1 h2 => ?_, fun x y z hx hy hz h1 h2 => ?_, hmr, hjr, fun x y hx hy => (two_all.1 (hm x y hx hy).2.1).1, fun x y hx hy => (two_all.1 (hm x y hx hy).2.1).2, fun x y z hx hy hz h1 h2 => (hm x y hx hy).2.2 z hz (two_all.2 ⟨h1, h2⟩), fun x y hx hy => ?_, fun x y hx hy => ?_, fun x y z hx hy hz h1 h2 => ?_⟩
  · obtain ⟨a, rfl, ha⟩ := nat hx; exact o1 a ha
  · obtain ⟨a, rfl, ha⟩ := nat hx
    obtain ⟨b, rfl, hb⟩ := nat hy
    by_cases e : a = b
    · rw [e]
    · have := o2 a b ha hb e h1
      rw [this] at h2; cases h2
  · obtain ⟨a, rfl, ha⟩ := nat hx
    obtain ⟨b, rfl, hb⟩ := nat hy
    obtain ⟨c, rfl, hc⟩ := nat hz
    exact o3 a b c ha hb hc h1 h2
  · rw [← hd (hjr x y hx hy) hx]; exact (two_all.1 (hj x y hx hy).2.1).1
  · rw [← hd (hjr x y hx hy) hy]; exact (two_all.1 (hj x y hx hy).2.1).2
  · have := (hj x y hx hy).2.2 z (hdr.2 hz) (two_all.2 ⟨by rw [hd hz hx]; exact h1, by rw [hd hz hy]; exact h2⟩)
    rwa [← hd hz (hjr x y hx hy)]

section
variable {rows : List (List Int)} (L : Lat rows)
include L
theorem Lat.join_assoc {x y z : Int} (hx : inR rows x) (hy : inR rows y) (hz : inR rows z) : joinL rows (joinL rows x y) z = joinL rows x (joinL rows y z) := by
  have rxy := L.joinR x y hx hy
  have ryz := L.joinR y z hy hz
  have r1 := L.joinR _ z rxy hz
  have r2 := L.joinR x _ hx ryz
  refine L.anti _ _ r1 r2 (L.joinG _ _ _ rxy hz r2 (L.joinG _ _ _ hx hy r2 (L.join1 _ _ hx ryz) (L.trans _ _ _ hy ryz r2 (L.join1 _ _ hy hz) (L.join2 _ _ hx ryz))) (L.trans _ _ _ hz ryz r2 (L.join2 _ _ hy hz) (L.join2 _ _ hx ryz))) ?_
  exact L.joinG _ _ _ hx ryz r1 (L.trans _ _ _ hx rxy r1 (L.join1 _ _ hx hy) (L.join1 _ _ rxy hz)) (L.joinG _ _ _ hy hz r1 (L.trans _ _ _ hy rxy r1 (L.join2 _ _ hx hy) (L.join1 _ _ rxy hz)) (L.join2 _ _ rxy hz))
theorem Lat.meet_assoc {x y z : Int} (hx : inR rows x) (hy : inR rows y) (hz : inR rows z) : meetL rows (meetL rows x y) z = meetL rows x (meetL rows y z) := by
  have rxy := L.meetR x y hx hy
  have ryz := L.meetR y z hy hz
  have r1 := L.meetR _ z rxy hz
  have r2 := L.meetR x _ hx ryz
  refine L.anti _ _ r1 r2 (L.meetG _ _ _ hx ryz r1 (L.trans _ _ _ r1 rxy hx (L.meet1 _ _ rxy hz) (L.meet1 _ _ hx hy)) (L.meetG _ _ _ hy hz r1 (L.trans _ _ _ r1 rxy hy (L.meet1 _ _ rxy hz) (L.meet2 _ _ hx hy)) (L.meet2 _ _ rxy hz))) ?_
  exact L.meetG _ _ _ rxy hz r2 (L.meetG _ _ _ hx hy r2 (L.meet1 _ _ hx ryz) (L.trans _ _ _ r2 ryz hy (L.meet2 _ _ hx ryz) (L.meet1 _ _ hy hz))) (L.trans _ _ _ r2 ryz hz (L.meet2 _ _ hx ryz) (L.meet2 _ _ hy hz))
theorem Lat.join_le {x y : Int} (hx : inR rows x) (hy : inR rows y) (h : leqB rows x y = true) : joinL rows x y = y :=
  L.anti _ _ (L.joinR _ _ hx hy) hy (L.joinG _ _ _ hx hy hy h (L.refl _ hy)) (L.join2 _ _ hx hy)
theorem Lat.meet_le {x y : Int} (hx : inR rows x) (hy : inR rows y) (h : leqB rows x y = true) : meetL rows x y = x :=
  L.anti _ _ (L.meetR _ _ hx hy) hx (L.meet1 _ _ hx hy) (L.meetG _ _ _ hx hy hx (L.refl _ hx) h)
theorem Lat.le_join {x y : Int} (hx : inR rows x) (hy : inR rows y) : leqB rows x y = decide (joinL rows x y = y) := by
  rw [Bool.eq_iff_iff, decide_eq_true_eq]
  exact ⟨L.join_le hx hy, fun h => h ▸ L.join1 _ _ hx hy⟩
theorem Lat.le_meet {x y : Int} (hx : inR rows x) (hy : inR rows y) : leqB rows x y = decide (meetL rows x y = x) := by
  rw [Bool.eq_iff_iff, decide_eq_true_eq]
  exact ⟨L.meet_le hx hy, fun h => h ▸ L.meet2 _ _ hx hy⟩
end

/-- The meet of the first k elements, and their join. -/
def botN (rows : List (List Int)) : Nat → Int
  | 0 => 0
  | k + 1 => meetL rows (botN rows k) (k : Int)
def topN (rows : List (List Int)) : Nat → Int
  | 0 => 0
  | k + 1 => joinL rows (topN rows k) (k : Int)
def botL (rows : List (List Int)) : Int := boundL (dualL rows) []
def topL (rows : List (List Int)) : Int := boundL rows []
theorem botN_in {rows : List (List Int)} (L : Lat rows) (h0 : 0 < rows.length) : ∀ k, k ≤ rows.length → inR rows (botN rows k)
  | 0, _ => ⟨by simp [botN], by simp [botN]; omega⟩
  | k + 1, h => L.meetR _ _ (botN_in L h0 k (by omega)) ⟨by omega, by omega⟩
theorem topN_in {rows : List (List Int)} (L : Lat rows) (h0 : 0 < rows.length) : ∀ k, k ≤ rows.length → inR rows (topN rows k)
  | 0, _ => ⟨by simp [topN], by simp [topN]; omega⟩
  | k + 1, h => L.joinR _ _ (topN_in L h0 k (by omega)) ⟨by omega, by omega⟩
theorem botN_le {rows : List (List Int)} (L : Lat rows) (h0 : 0 < rows.length) : ∀ k, k ≤ rows.length → ∀ i, i < k → leqB rows (botN rows k) (i : Int) = true
  | 0, _, i, hi => by omega
  | k + 1, h, i, hi => by
    have hk := botN_in L h0 k (by omega)
    have hkk : inR rows (k : Int) := ⟨by omega, by omega⟩
    have hii : inR rows (i : Int) := ⟨by omega, by omega⟩
    have hm := L.meetR _ _ hk hkk
    by_cases e : i = k
    · subst e; exact L.meet2 _ _ hk hkk
    · exact L.trans _ _ _ hm hk hii (L.meet1 _ _ hk hkk) (botN_le L h0 k (by omega) i (by omega))
theorem topN_le {rows : List (List Int)} (L : Lat rows) (h0 : 0 < rows.length) : ∀ k, k ≤ rows.length → ∀ i, i < k → leqB rows (i : Int) (topN rows k) = true
  | 0, _, i, hi => by omega
  | k + 1, h, i, hi => by
    have hk := topN_in L h0 k (by omega)
    have hkk : inR rows (k : Int) := ⟨by omega, by omega⟩
    have hii : inR rows (i : Int) := ⟨by omega, by omega⟩
    have hm := L.joinR _ _ hk hkk
    by_cases e : i = k
    · subst e; exact L.join2 _ _ hk hkk
    · exact L.trans _ _ _ hii hk hm (topN_le L h0 k (by omega) i (by omega)) (L.join1 _ _ hk hkk)
theorem good_pos {rows : List (List Int)} (hg : goodL rows = true) : 0 < rows.length := by
  unfold goodL at hg
  simp only [Bool.and_eq_true, Bool.not_eq_true', decide_eq_false_iff_not] at hg
  omega
theorem bound_nil {rows : List (List Int)} {b : Int} (hb : inR rows b) (hle : ∀ i, i < rows.length → leqB rows (i : Int) b = true) (anti : ∀ x y, inR rows x → inR rows y → leqB rows x y = true → leqB rows y x = true → x = y) : boundL rows [] = b := by
  have hin : ∀ z, z ∈ lowsB rows [] rows.length ↔ inR rows z := fun z => by
    unfold lowsB
    rw [upTo_mem]
    exact ⟨fun h => ⟨h.1, h.2.1⟩, fun h => ⟨h.1, h.2, rfl⟩⟩
  have h0 : 0 ≤ boundL rows [] := by
    rcases boundL_range rows [] with h | h
    · exfalso
      unfold boundL at h
      cases hf : (lowsB rows [] rows.length).find? fun l => withinB (lowsB rows [] rows.length) (rows.getD l.toNat []) with
      | some l =>
        rw [hf] at h
        have := (hin l).1 (List.mem_of_find?_eq_some hf)
        simp only [Option.getD_some] at h
        have := this.1
        omega
      | none =>
        rw [List.find?_eq_none] at hf
        refine hf b ((hin b).2 hb) ?_
        unfold withinB
        rw [List.all_eq_true]
        intro a ha
        have ha := (hin a).1 ha
        have := hle a.toNat (by have := ha.1; have := ha.2; omega)
        rwa [show (a.toNat : Int) = a by have := ha.1; omega] at this
    · exact h.1
  obtain ⟨s1, -, s3⟩ := bound_spec h0
  have e1 := s3 b hb (fun s hs => by simp at hs)
  have e2 := hle (boundL rows []).toNat (by have := s1.2; omega)
  rw [show ((boundL rows []).toNat : Int) = boundL rows [] by omega] at e2
  exact anti _ _ s1 hb e2 e1
theorem top_eq {rows : List (List Int)} (hg : goodL rows = true) : topL rows = topN rows rows.length := by
  have L := goodL_lat hg
  have h0 := good_pos hg
  exact bound_nil (topN_in L h0 _ (Nat.le_refl _)) (fun i hi => topN_le L h0 _ (Nat.le_refl _) i hi) L.anti
theorem bot_eq {rows : List (List Int)} (hg : goodL rows = true) : botL rows = botN rows rows.length := by
  have L := goodL_lat hg
  have h0 := good_pos hg
  have hdr : ∀ {x}, inR (dualL rows) x ↔ inR rows x := fun {x} => by unfold inR; rw [length_dual]
  refine bound_nil (hdr.2 (botN_in L h0 _ (Nat.le_refl _))) (fun i hi => ?_) (fun x y hx hy h1 h2 => ?_)
  · rw [length_dual] at hi
    rw [leq_dual ⟨by omega, by omega⟩ (botN_in L h0 _ (Nat.le_refl _))]
    exact botN_le L h0 _ (Nat.le_refl _) i hi
  · rw [leq_dual (hdr.1 hx) (hdr.1 hy)] at h1
    rw [leq_dual (hdr.1 hy) (hdr.1 hx)] at h2
    exact L.anti _ _ (hdr.1 hx) (hdr.1 hy) h2 h1
theorem bot_in {rows : List (List Int)} (hg : goodL rows = true) : inR rows (botL rows) := by
  rw [bot_eq hg]; exact botN_in (goodL_lat hg) (good_pos hg) _ (Nat.le_refl _)
theorem top_in {rows : List (List Int)} (hg : goodL rows = true) : inR rows (topL rows) := by
  rw [top_eq hg]; exact topN_in (goodL_lat hg) (good_pos hg) _ (Nat.le_refl _)
theorem bot_le {rows : List (List Int)} (hg : goodL rows = true) {x : Int} (hx : inR rows x) : leqB rows (botL rows) x = true := by
  rw [bot_eq hg]
  have := botN_le (goodL_lat hg) (good_pos hg) _ (Nat.le_refl _) x.toNat (by have := hx.1; have := hx.2; omega)
  rwa [show (x.toNat : Int) = x by have := hx.1; omega] at this
theorem le_top {rows : List (List Int)} (hg : goodL rows = true) {x : Int} (hx : inR rows x) : leqB rows x (topL rows) = true := by
  rw [top_eq hg]
  have := topN_le (goodL_lat hg) (good_pos hg) _ (Nat.le_refl _) x.toNat (by have := hx.1; have := hx.2; omega)
  rwa [show (x.toNat : Int) = x by have := hx.1; omega] at this
end Go.Proofs.Ytfpghibjbcdinaa
