/- Medians: symmetric, between the least and the greatest of three. No program here. -/
import Derived.Test.YtbfmjknngofleaaGreatKSg
namespace Go.Proofs.YtbfmjknngofleaaGreat

theorem med_lub {rows : List (List Int)} (L : Lat rows) {x y z : Int} (hx : inR rows x) (hy : inR rows y) (hz : inR rows z) : inR rows (medL rows x y z) ∧ leqB rows (meetL rows x y) (medL rows x y z) = true ∧ leqB rows (meetL rows y z) (medL rows x y z) = true ∧ leqB rows (meetL rows x z) (medL rows x y z) = true ∧
    ∀ w, inR rows w → leqB rows (meetL rows x y) w = true → leqB rows (meetL rows y z) w = true → leqB rows (meetL rows x z) w = true → leqB rows (medL rows x y z) w = true := by
  have a := L.meetR x y hx hy
  have b := L.meetR y z hy hz
  have c := L.meetR x z hx hz
  have ab := L.joinR _ _ a b
  unfold medL
  refine ⟨L.joinR _ _ ab c, L.trans _ _ _ a ab (L.joinR _ _ ab c) (L.join1 _ _ a b) (L.join1 _ _ ab c), L.trans _ _ _ b ab (L.joinR _ _ ab c) (L.join2 _ _ a b) (L.join1 _ _ ab c), L.join2 _ _ ab c, fun w hw h1 h2 h3 => L.joinG _ _ _ ab c hw (L.joinG _ _ _ a b hw h1 h2) h3⟩
theorem med_turn {rows : List (List Int)} (L : Lat rows) {x y z : Int} (hx : inR rows x) (hy : inR rows y) (hz : inR rows z) : medL rows z x y = medL rows x y z := by
  obtain ⟨a1, a2, a3, a4, a5⟩ := med_lub L hx hy hz
  obtain ⟨b1, b2, b3, b4, b5⟩ := med_lub L hz hx hy
  rw [meet_comm rows z x, meet_comm rows z y] at *
  exact L.anti _ _ b1 a1 (b5 _ a1 a4 a2 a3) (a5 _ b1 b3 b4 b2)
theorem med_low {rows : List (List Int)} (hg : goodL rows = true) {x y z : Int} (hx : inR rows x) (hy : inR rows y) (hz : inR rows z) : leqB rows (boundL rows [x, y, z]) (medL rows x y z) = true := by
  have L := goodL_lat hg
  have hl : ∀ s ∈ [x, y, z], inR rows s := fun s hs => by
    simp only [List.mem_cons, List.not_mem_nil, or_false] at hs
    rcases hs with rfl | rfl | rfl <;> assumption
  obtain ⟨i1, -, i3, -⟩ := fold_meet L [x, y, z] (topL rows) (top_in hg) hl
  rw [bound_fold hg hl]
  obtain ⟨a1, a2, -, -, -⟩ := med_lub L hx hy hz
  exact L.trans _ _ _ i1 (L.meetR x y hx hy) a1 (L.meetG _ _ _ hx hy i1 (i3 x (by simp)) (i3 y (by simp))) a2
theorem med_high {rows : List (List Int)} (hg : goodL rows = true) {x y z : Int} (hx : inR rows x) (hy : inR rows y) (hz : inR rows z) : leqB rows (medL rows x y z) ([x, y, z].foldl (joinL rows) (botL rows)) = true := by
  have L := goodL_lat hg
  have hl : ∀ s ∈ [x, y, z], inR rows s := fun s hs => by
    simp only [List.mem_cons, List.not_mem_nil, or_false] at hs
    rcases hs with rfl | rfl | rfl <;> assumption
  obtain ⟨i1, -, i3, -⟩ := fold_join L [x, y, z] (botL rows) (bot_in hg) hl
  have h1 := i3 x (by simp)
  have h2 := i3 y (by simp)
  exact (med_lub L hx hy hz).2.2.2.2 _ i1 (L.trans _ _ _ (L.meetR x y hx hy) hx i1 (L.meet1 x y hx hy) h1) (L.trans _ _ _ (L.meetR y z hy hz) hy i1 (L.meet1 y z hy hz) h2) (L.trans _ _ _ (L.meetR x z hx hz) hx i1 (L.meet1 x z hx hz) h1)
theorem irr_jpL {rows : List (List Int)} (D : Dst rows) : irrL rows = jpL rows := upTo_congr fun x hx => irr_jp D hx
end Go.Proofs.YtbfmjknngofleaaGreat
