/- Duality: lattice maps and point maps of distributive lattices determine each other; an element is the join of the irreducible ones below it. No program here. -/
import Derived.Test.YtbfmjknngofleaaGreatLSg
namespace Go.Proofs.YtbfmjknngofleaaGreat

theorem irr_own {rows : List (List Int)} {x : Int} (hx : inR rows x) (h : irrB rows x.toNat = true) : ∃ i, i < (irrL rows).length ∧ own rows i = x := by
  have hm : x ∈ irrL rows := upTo_mem.2 ⟨hx.1, hx.2, h⟩
  obtain ⟨i, hi, e⟩ := List.getElem_of_mem hm
  exact ⟨i, hi, by unfold own; rw [List.getD_eq_getElem?_getD, List.getElem?_eq_getElem hi]; exact e⟩
/-- What is above all irreducible elements below an element is above it. -/
theorem irr_le {rows : List (List Int)} (hg : goodL rows = true) : ∀ (N : Nat) (y z : Int), inR rows y → inR rows z → rows.length - hN rows y ≤ N → (∀ i, i < (irrL rows).length → leqB rows (own rows i) y = true → leqB rows (own rows i) z = true) → leqB rows y z = true
  | N, y, z, hy, hz, hn, h => by
    have L := goodL_lat hg
    rcases Classical.em (y = botL rows) with e | e
    · rw [e]; exact bot_le hg hz
    · rcases Classical.em (irrB rows y.toNat = true) with hi | hi
      · obtain ⟨i, hi, ei⟩ := irr_own hy hi
        have := h i hi (by rw [ei]; exact L.refl y hy)
        rwa [ei] at this
      · obtain ⟨c, c1, c2, -⟩ := below_cover L hy _ _ (bot_in hg) (Nat.le_refl _) (less_iff.2 ⟨fun e' => e e'.symm, bot_le hg hy⟩)
        have : ∃ d, inR rows d ∧ coversB rows d y = true ∧ d ≠ c := by
          rcases Classical.em (∃ d, inR rows d ∧ coversB rows d y = true ∧ d ≠ c) with h' | h'
          · exact h'
          · exact absurd ((irr_cov hy).2 ⟨c, c1, c2, fun c' h1 h2 => Classical.byContradiction fun h3 => h' ⟨c', h1, h2, h3⟩⟩) hi
        obtain ⟨d, d1, d2, d3⟩ := this
        have lc := less_iff.1 (cov_less c2)
        have ld := less_iff.1 (cov_less d2)
        have hcy := hN_lt L c1 hy (cov_less c2)
        have hdy := hN_lt L d1 hy (cov_less d2)
        have htc := hN_top c1
        have htd := hN_top d1
        match N, hn with
        | 0, hn => omega
        | N + 1, hn =>
          have hcz := irr_le hg N c z c1 hz (by omega) fun i hi hl => h i hi (L.trans _ _ _ (own_in hi) c1 hy hl lc.2)
          have hdz := irr_le hg N d z d1 hz (by omega) fun i hi hl => h i hi (L.trans _ _ _ (own_in hi) d1 hy hl ld.2)
          have hj := L.joinR c d c1 d1
          have hjy := L.joinG c d y c1 d1 hy lc.2 ld.2
          have ej : joinL rows c d = y := by
            rcases Classical.em (joinL rows c d = y) with e' | e'
            · exact e'
            · have hlj : lessB rows (joinL rows c d) y = true := less_iff.2 ⟨e', hjy⟩
              have same : ∀ u, inR rows u → coversB rows u y = true → leqB rows u (joinL rows c d) = true → u = joinL rows c d := fun u hu hc hl => by
                rcases Classical.em (u = joinL rows c d) with e2 | e2
                · exact e2
                · exact ((cov_iff.1 hc).2 _ hj (less_iff.2 ⟨e2, hl⟩) hlj).elim
              exact absurd ((same d d1 d2 (L.join2 c d c1 d1)).trans (same c c1 c2 (L.join1 c d c1 d1)).symm) d3
          rw [← ej]
          exact L.joinG c d z c1 d1 hz hcz hdz
theorem irr_eq {rows : List (List Int)} (hg : goodL rows = true) {y z : Int} (hy : inR rows y) (hz : inR rows z) (h : ∀ i, i < (irrL rows).length → (leqB rows (own rows i) y = true ↔ leqB rows (own rows i) z = true)) : y = z :=
  (goodL_lat hg).anti _ _ hy hz (irr_le hg _ _ _ hy hz (Nat.le_refl _) fun i hi => (h i hi).1) (irr_le hg _ _ _ hz hy (Nat.le_refl _) fun i hi => (h i hi).2)
theorem inSize_of {l : List Int} {n : Nat} (h : ∀ i, i < l.length → 0 ≤ l.getD i 0 ∧ l.getD i 0 < (n : Int)) : inSizeB l (n : Int) = true := by
  refine List.all_eq_true.2 fun x hx => ?_
  obtain ⟨i, hi, rfl⟩ := List.getElem_of_mem hx
  have := h i hi
  rw [List.getD_eq_getElem?_getD, List.getElem?_eq_getElem hi] at this
  simp at this ⊢
  omega
end Go.Proofs.YtbfmjknngofleaaGreat
