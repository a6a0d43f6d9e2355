/- The comparison that the program sorts by: it reads and draws only. -/
import Derived.Deep.QuietTactic
import Derived.Test.YtbfmjknngofleaaGreatLLy
import Derived.Test.YtbfmjknngofleaaGreatLSt
namespace Go.Proofs.YtbfmjknngofleaaGreat
open Go Go.Proofs Go.Shelf Go.RowKit Go.Lib Go.Sort

/-- The layer's own law of this name (the library's sort has another one of the same name). -/
theorem one_one {p : Pv.PV} (h : p.one = true) : ∀ q ∈ [p], ∀ c, q.flat = some c → (c.all Pv.PV.one) = true := Pv.one_one h

set_option maxHeartbeats 2000000 in
theorem cmpLists_q (w : World) (bs bt cs ct : Nat) (s t : List Int) (hs : ∀ k, k < s.length → w.cell? ⟨bs, k, none⟩ = some (.int .i64 (s.getD k 0))) (ht : ∀ k, k < t.length → w.cell? ⟨bt, k, none⟩ = some (.int .i64 (t.getD k 0))) (hls : s.length ≤ 1048576) (hlt : t.length ≤ 1048576) :
    Calls Tryz.prog 107 #[.slice (some ⟨bs, 0, none⟩) s.length cs, .slice (some ⟨bt, 0, none⟩) t.length ct] w fun e w' => e = .returned (.int .i64 (cmpL s t)) ∧ ∃ q, w' = w.drewN q := by
  go_enter Tryz.func107, Tryz.ntmps107
  go_wp2
  go_loopw [5] (fun vi wr => ∃ (i n : Nat), vi = .int .i64 i ∧ i ≤ s.length ∧ i ≤ t.length ∧ wr = w.drewN n ∧ cmpL (s.drop i) (t.drop i) = cmpL s t) (fun vi _ => s.length - (intOf vi).toNat)
  case atStart => exact ⟨0, 0, by go_num, Nat.zero_le _, Nat.zero_le _, rfl, rfl⟩
  case round =>
    obtain ⟨i, n, rfl, hi, hj, rfl, hc⟩ := hrel
    by_cases h1 : i < s.length
    · have ci := hs i h1
      have es := drop_cons' 0 h1
      by_cases h2 : i < t.length
      · have cj := ht i h2
        have et := drop_cons' 0 h2
        rw [es, et] at hc
        generalize s.getD i 0 = x at ci hc
        generalize t.getD i 0 = y at cj hc
        have Hc : Hid (cmpL (x :: s.drop (i + 1)) (y :: t.drop (i + 1)) = cmpL s t) := hc
        clear hc es et hs ht
        by_cases he : x = y
        · subst he
          go_wp2
          go_quiet (fail)
          go_wp2
          case roundEnd => exact ⟨⟨i + 1, n + nq, by go_num, by omega, by omega, rfl, by have := Hc.out; simpa only [cmpL, if_true] using this⟩, by simp [intOf]; omega⟩
        · go_wp2
          go_quiet (fail)
          rw [show (x != y) = true by simp [he]]
          go_wp2
          go_quiet (fail)
          by_cases hlt : x < y
          · rw [decide_eq_true hlt]
            have hv : cmpL s t = -1 := by have := Hc.out; simp only [cmpL, if_neg he, if_pos hlt] at this; exact this.symm
            go_wp2
            go_ret
            try rw [hv]
            first | exact ⟨rfl, _, rfl⟩ | exact ⟨rfl, _, by rw [World.drewN_drewN, World.drewN_drewN]⟩
          · rw [decide_eq_false hlt]
            have hv : cmpL s t = 1 := by have := Hc.out; simp only [cmpL, if_neg he, if_neg hlt] at this; exact this.symm
            go_wp2
            go_ret
            try rw [hv]
            first | exact ⟨rfl, _, rfl⟩ | exact ⟨rfl, _, by rw [World.drewN_drewN, World.drewN_drewN]⟩
      · have hv : cmpL s t = 1 := by rw [es, List.drop_of_length_le (Nat.le_of_not_lt h2)] at hc; exact hc.symm
        clear hc es hs ht ci
        go_wp2
        all_goals first | (exfalso; omega) | (go_ret; rw [hv]; exact ⟨rfl, _, rfl⟩)
    · by_cases h2 : i < t.length
      · have hv : cmpL s t = -1 := by rw [drop_cons' 0 h2, List.drop_of_length_le (Nat.le_of_not_lt h1)] at hc; exact hc.symm
        clear hc hs ht
        go_wp2
        all_goals first | (exfalso; omega) | (go_ret; rw [hv]; exact ⟨rfl, _, rfl⟩)
      · have hv : cmpL s t = 0 := by rw [List.drop_of_length_le (Nat.le_of_not_lt h2), List.drop_of_length_le (Nat.le_of_not_lt h1)] at hc; exact hc.symm
        clear hc hs ht
        go_wp2
        all_goals first | (exfalso; omega) | (go_ret; rw [hv]; exact ⟨rfl, _, rfl⟩)
set_option maxHeartbeats 2000000 in
theorem cmpTerms_q (w : World) (bs bt cs ct : Nat) (s t : List Int) (hs : ∀ k, k < s.length → w.cell? ⟨bs, k, none⟩ = some (.int .i64 (s.getD k 0))) (ht : ∀ k, k < t.length → w.cell? ⟨bt, k, none⟩ = some (.int .i64 (t.getD k 0))) (hls : s.length ≤ 1048576) (hlt : t.length ≤ 1048576) :
    Calls Tryz.prog 58 #[.slice (some ⟨bs, 0, none⟩) s.length cs, .slice (some ⟨bt, 0, none⟩) t.length ct] w fun e w' => e = .returned (.int .i64 (cmpT s t)) ∧ ∃ q, w' = w.drewN q := by
  have hc := fun q => cmpLists_q (w.drewN q) bs bt cs ct s t (by simpa using hs) (by simpa using ht) hls hlt
  clear hs ht
  go_enter Tryz.func58, Tryz.ntmps58
  by_cases h1 : s.length < t.length
  · have hv : cmpT s t = -1 := by unfold cmpT; rw [if_pos h1]
    go_wp2
    go_ret
    try rw [hv]
    exact ⟨rfl, 0, rfl⟩
  · by_cases h2 : t.length < s.length
    · have hv : cmpT s t = 1 := by unfold cmpT; rw [if_neg h1, if_pos h2]
      go_wp2
      go_ret
      try rw [hv]
      exact ⟨rfl, 0, rfl⟩
    · have hv : cmpT s t = cmpL s t := by unfold cmpT; rw [if_neg h1, if_neg h2]
      go_wp2_with (go_at_call 107; refine (hc 0).mono ?_; rintro e w' ⟨rfl, q, rfl⟩)
      go_ret
      try rw [hv]
      exact ⟨rfl, q, rfl⟩
set_option maxHeartbeats 2000000 in
/-- The closure that compares two rows. -/
theorem less_q (w : World) (bo br blk n c i j : Nat) (r s : List Int) (bi bj ci cj : Nat) (ho : w.cell? ⟨bo, 0, none⟩ = some (.func (.func 58) #[] #[])) (hr : w.cell? ⟨br, 0, none⟩ = some (.slice (some ⟨blk, 0, none⟩) n c))
    (hi : w.cell? ⟨blk, i, none⟩ = some (.slice (some ⟨bi, 0, none⟩) r.length ci)) (hj : w.cell? ⟨blk, j, none⟩ = some (.slice (some ⟨bj, 0, none⟩) s.length cj)) (hin : i < n) (hjn : j < n) (hn : n ≤ 1048576)
    (hs : ∀ k, k < r.length → w.cell? ⟨bi, k, none⟩ = some (.int .i64 (r.getD k 0))) (ht : ∀ k, k < s.length → w.cell? ⟨bj, k, none⟩ = some (.int .i64 (s.getD k 0))) (hls : r.length ≤ 1048576) (hlt : s.length ≤ 1048576) :
    Calls Tryz.prog 106 #[.int .i64 i, .int .i64 j, .pointer (some ⟨bo, 0, none⟩), .pointer (some ⟨br, 0, none⟩)] w fun e w' => e = .returned (.bool (decide (cmpT r s < 0))) ∧ ∃ q, w' = w.drewN q := by
  have hc := fun q => cmpTerms_q (w.drewN q) bi bj ci cj r s (by simpa using hs) (by simpa using ht) hls hlt
  clear hs ht
  go_enter Tryz.func106, Tryz.ntmps106
  go_wp2
  go_quiet (first | (go_at_call 58; refine Calls.quiet_of (hc _)) | fail)
  go_wp2
  go_ret
  exact ⟨rfl, nq, rfl⟩
end Go.Proofs.YtbfmjknngofleaaGreat
