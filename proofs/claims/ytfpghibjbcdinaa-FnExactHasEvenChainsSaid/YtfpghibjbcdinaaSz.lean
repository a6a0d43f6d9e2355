/- What the laws' measure of a poset says. No program here. -/
import Derived.Test.YtfpghibjbcdinaaSp2
namespace Go.Proofs.Ytfpghibjbcdinaa

theorem szLL_ok : ∀ (rows : List (List Int)) (left : Int), left ≤ 1048576 → 0 ≤ szLL rows left → ∀ r ∈ rows, r.length ≤ 1048576
  | [], _, _, _, r, hr => by simp at hr
  | a :: rows, left, hl, h, r, hr => by
    unfold szLL at h
    split at h
    · omega
    · rename_i h1
      have hb : szL a.length left ≤ 1048576 ∧ a.length ≤ 1048576 := by unfold szL at *; split at h1 <;> omega
      rcases List.mem_cons.1 hr with rfl | hr
      · exact hb.2
      · exact szLL_ok rows _ hb.1 h r hr
theorem sz_ok {rows : List (List Int)} (h : ¬ szSS rows 1048576 < 0) : okP rows := by
  unfold szSS at h
  split at h
  · omega
  · rename_i h1
    exact ⟨by omega, szLL_ok rows (1048576 - (rows.length : Int)) (by omega) (by omega)⟩
end Go.Proofs.Ytfpghibjbcdinaa
