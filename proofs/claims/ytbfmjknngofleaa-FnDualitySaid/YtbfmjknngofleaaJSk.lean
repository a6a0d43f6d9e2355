/- Duality: lattice maps and point maps of distributive lattices determine each other; an element is the join of the irreducible ones below it. No program here. -/
import Derived.Test.YtbfmjknngofleaaJSg
namespace Go.Proofs.Ytbfmjknngofleaa

theorem irr_own {rows : List (List Int)} {x : Int} (hx : inR rows x) (h : irrB rows x.toNat = true) : ∃ i, i < (irrL rows).length ∧ own rows i = x := by
  have hm : x ∈ irrL rows := upTo_mem.2 ⟨hx.1, hx.2, h⟩
  obtain ⟨i, hi, e⟩ := List.getElem_of_mem hm
  exact ⟨i, hi, by unfold own; rw [List.getD_eq_getElem?_getD, List.getElem?_eq_getElem hi]; exact e⟩
/-- What is above all irreducible elements below an element is above it. -/
theorem irr_le {rows : List (List Int)} (hg : goodL rows = true) : ∀ (N : Nat) (y z : Int), inR rows y → inR rows z → rows.length - hN rows y ≤ N → (∀ i, i < (irrL rows).length → leqB rows (own rows i) y = true → leqB rows (own rows i) z = true) → leqB rows y z = true
  | N, y, z, hy, hz, hn, h => by
    have L := goodL_lat hg
    rcases Classical.em (y = botL rows) with e | e
    · rw [e]; exact bot_le hg hz
    · rcases Classical.em (irrB rows y.toNat = true) with hi | hi
      · obtain ⟨i, hi, ei⟩ := irr_own hy hi
        have := h i hi (by rw [ei]; exact L.refl y hy)
        rwa [ei] at this
      · obtain ⟨c, c1, c2, -⟩ := below_cover L hy _ _ (bot_in hg) (Nat.le_refl _) (less_iff.2 ⟨fun e' => e e'.symm, bot_le hg hy⟩)
        have : ∃ d, inR rows d ∧ coversB rows d y = true ∧ d ≠ c := by
          rcases Classical.em (∃ d, inR rows d ∧ coversB rows d y = true ∧ d ≠ c) with h' | h'
          · exact h'
          · exact absurd ((irr_cov hy).2 ⟨c, c1, c2, fun c' h1 h2 => Classical.byContradiction fun h3 => h' ⟨c', h1, h2, h3⟩⟩) hi
        obtain ⟨d, d1, d2, d3⟩ := this
        have lc := less_iff.1 (cov_less c2)
        have ld := less_iff.1 (cov_less d2)
        have hcy := hN_lt L c1 hy (cov_less c2)
        have hdy := hN_lt L d1 hy (cov_less d2)
        have htc := hN_top c1
        have htd := hN_top d1
        match N, hn with
        | 0, hn => omega
        | N + 1, hn =>
          have hcz := irr_le hg N c z c1 hz (by omega) fun i hi hl => h i hi (L.trans _ _ _ (own_in hi) c1 hy hl lc.2)
          have hdz := irr_le hg N d z d1 hz (by omega) fun i hi hl => h i hi (L.trans _ _ _ (own_in hi) d1 hy hl ld.2)
          have hj := L.joinR c d c1 d1
          have hjy := L.joinG c d y c1 d1 hy lc.2 ld.2
          have ej : joinL rows c d = y := by
            rcases Classical.em (joinL rows c d = y) with e' | e'
            · exact e'
            · have hlj : lessB rows (joinL rows c d) y = true := less_iff.2 ⟨e', hjy⟩
              have same : ∀ u, inR rows u → coversB rows u y = true → leqB rows u (joinL rows c d) = true → u = joinL rows c d := fun u hu hc hl => by
                rcases Classical.em (u = joinL rows c d) with e2 | e2
                · exact e2
                · exact ((cov_iff.1 hc).2 _ hj (less_iff.2 ⟨e2, hl⟩) hlj).elim
              exact absurd ((same d d1 d2 (L.join2 c d c1 d1)).trans (same c c1 c2 (L.join1 c d c1 d1)).symm) d3
          rw [← ej]
          exact L.joinG c d z c1 d1 hz hcz hdz
theorem irr_eq {rows : List (List Int)} (hg : goodL rows = true) {y z : Int} (hy : inR rows y) (hz : inR rows z) (h : ∀ i, i < (irrL rows).length → (leqB rows (own rows i) y = true ↔ leqB rows (own rows i) z = true)) : y = z :=
  (goodL_lat hg).anti _ _ hy hz (irr_le hg _ _ _ hy hz (Nat.le_refl _) fun i hi => (h i hi).1) (irr_le hg _ _ _ hz hy (Nat.le_refl _) fun i hi => (h i hi).2)
theorem bound_le {rows : List (List Int)} (hg : goodL rows = true) {l : List Int} (hl : ∀ x ∈ l, inR rows x) {s : Int} (hs : s ∈ l) : leqB rows (boundL rows l) s = true := by
  rw [bound_fold hg hl]
  exact (fold_meet (goodL_lat hg) l (topL rows) (top_in hg) hl).2.2.1 s hs
theorem place_own {rows : List (List Int)} {x : Int} (hx : inR rows x) (h : irrB rows x.toNat = true) : 0 ≤ placeL (irrL rows) x ∧ placeL (irrL rows) x < ((irrL rows).length : Int) ∧ own rows (placeL (irrL rows) x).toNat = x := by
  have hm : x ∈ irrL rows := upTo_mem.2 ⟨hx.1, hx.2, h⟩
  have hl := List.idxOf_lt_length_of_mem hm
  unfold placeL
  rw [if_pos hm]
  refine ⟨by omega, by omega, ?_⟩
  unfold own
  rw [Int.toNat_natCast, List.getD_eq_getElem?_getD, List.getElem?_eq_getElem hl]
  exact List.getElem_idxOf hl
theorem place_eq {rows : List (List Int)} {i : Int} (h0 : 0 ≤ i) (h1 : i < ((irrL rows).length : Int)) : placeL (irrL rows) (own rows i.toNat) = i := by
  have hin : i.toNat < (irrL rows).length := by omega
  obtain ⟨a, b, c⟩ := place_own (own_in hin) (own_irr hin)
  have := own_inj (by omega) hin c
  omega
theorem lmoX_spec {p q : List (List Int)} (hq : goodL q = true) {g : List Int} {x : Int} {n : Nat} (hn : n ≤ (irrL q).length) :
    (∀ i, i < n → leqB p (own p (g.getD i 0).toNat) x = true → leqB q (own q i) (lmoX p q g x n) = true) ∧ (∀ z, inR q z → (∀ i, i < n → leqB p (own p (g.getD i 0).toNat) x = true → leqB q (own q i) z = true) → leqB q (lmoX p q g x n) z = true) := by
  obtain ⟨-, -, h3, h4⟩ := fold_join (goodL_lat hq) (lmoS p q g x n) (botL q) (bot_in hq) (lmoS_in hn)
  have hm : ∀ y, y ∈ lmoS p q g x n ↔ ∃ i, i < n ∧ leqB p (own p (g.getD i 0).toNat) x = true ∧ own q i = y := fun y => by
    unfold lmoS
    rw [List.mem_map]
    constructor
    · rintro ⟨i, hi, rfl⟩
      obtain ⟨a, b⟩ := List.mem_filter.1 hi
      exact ⟨i, List.mem_range.1 a, b, rfl⟩
    · rintro ⟨i, a, b, rfl⟩
      exact ⟨i, List.mem_filter.2 ⟨List.mem_range.2 a, b⟩, rfl⟩
  exact ⟨fun i hi hl => h3 _ ((hm _).2 ⟨i, hi, hl, rfl⟩), fun z hz h => h4 z hz (bot_le hq hz) fun s hs => by
    obtain ⟨i, hi, hl, rfl⟩ := (hm s).1 hs
    exact h i hi hl⟩
theorem lmoX_prime {p q : List (List Int)} (D : Dst q) {g : List Int} {x : Int} {n k : Nat} (hn : n ≤ (irrL q).length) (hk : k < (irrL q).length) (h : leqB q (own q k) (lmoX p q g x n) = true) : ∃ i, i < n ∧ leqB p (own p (g.getD i 0).toNat) x = true ∧ leqB q (own q k) (own q i) = true := by
  have L := D.lat
  have ho := own_in hk
  rcases prime_fold L (fun a b ha hb h => irr_prime D ho ha hb (own_irr hk) h) (lmoS p q g x n) (botL q) (bot_in D.good) (lmoS_in hn) h with h | ⟨y, hy, h⟩
  · exact absurd (L.anti _ _ ho (bot_in D.good) h (bot_le D.good ho)) (irr_ne_bot D.good ho (own_irr hk))
  · unfold lmoS at hy
    obtain ⟨i, hi, rfl⟩ := List.mem_map.1 hy
    obtain ⟨a, b⟩ := List.mem_filter.1 hi
    exact ⟨i, List.mem_range.1 a, b, h⟩
theorem pmo_getD {p q : List (List Int)} {f : List Int} {n i : Nat} (hi : i < n) : (pmoL p q f n).getD i 0 = placeL (irrL p) (boundL p (abvL q f (own q i))) := getD_map_range n (fun i => placeL (irrL p) (boundL p (abvL q f (own q i)))) 0 hi
theorem lmo_getD {p q : List (List Int)} {g : List Int} {n x : Nat} (hx : x < n) : (lmoL p q g n).getD x 0 = lmoX p q g (x : Int) g.length := getD_map_range n (fun x : Nat => lmoX p q g (x : Int) g.length) 0 hx
theorem list_ext0 {l m : List Int} (hl : l.length = m.length) (h : ∀ i, i < l.length → l.getD i 0 = m.getD i 0) : l = m := by
  apply List.ext_getElem hl
  intro i h1 h2
  have := h i h1
  rwa [List.getD_eq_getElem?_getD, List.getD_eq_getElem?_getD, List.getElem?_eq_getElem h1, List.getElem?_eq_getElem h2] at this
theorem inSize_of {l : List Int} {n : Nat} (h : ∀ i, i < l.length → 0 ≤ l.getD i 0 ∧ l.getD i 0 < (n : Int)) : inSizeB l (n : Int) = true := by
  refine List.all_eq_true.2 fun x hx => ?_
  obtain ⟨i, hi, rfl⟩ := List.getElem_of_mem hx
  have := h i hi
  rw [List.getD_eq_getElem?_getD, List.getElem?_eq_getElem hi] at this
  simp at this ⊢
  omega
/-- The point map of a lattice map is one, and gives the lattice map back. -/
theorem pmo_dual {p q : List (List Int)} {f : List Int} (h : pmoB p q f = true) : pmB q p (pmoL p q f (irrL q).length) = true ∧ lmoL p q (pmoL p q f (irrL q).length) p.length = f := by
  unfold pmoB at h
  rw [Bool.and_eq_true, Bool.and_eq_true] at h
  have Dp := dst_of h.1.1
  have Dq := dst_of h.1.2
  have F := lmap_of h.2
  have Lp := Dp.lat
  have Lq := Dq.lat
  have A := fun i (hi : i < (irrL q).length) => abv_irr Dp.good Dq F (own_in hi) (own_irr hi)
  have B := fun i (hi : i < (irrL q).length) => place_own (A i hi).1 (A i hi).2.1
  have C := fun i (hi : i < (irrL q).length) (x : Int) (hx : inR p x) (hl : leqB q (own q i) (im f x) = true) => bound_le Dp.good (l := abvL q f (own q i)) (fun s hs => ((abv_mem F).1 hs).1) ((abv_mem F).2 ⟨hx, hl⟩)
  have hgl := pmoL_len p q f (irrL q).length
  refine ⟨?_, ?_⟩
  · unfold pmB pmH
    rw [Bool.and_eq_true, Bool.and_eq_true, decide_eq_true_eq, hgl]
    refine ⟨⟨rfl, inSize_of fun i hi => ?_⟩, allN_iff.2 fun i hi => allN_iff.2 fun k hk => ?_⟩
    · rw [hgl] at hi
      rw [pmo_getD hi]
      exact ⟨(B i hi).1, (B i hi).2.1⟩
    · unfold pmP
      rw [pmo_getD hi, pmo_getD hk, pts_leq ⟨by omega, by omega⟩ ⟨by omega, by omega⟩, pts_leq ⟨(B i hi).1, (B i hi).2.1⟩ ⟨(B k hk).1, (B k hk).2.1⟩, (B i hi).2.2, (B k hk).2.2]
      simp only [Int.toNat_natCast]
      cases hl : leqB q (own q i) (own q k) with
      | false => rfl
      | true =>
        rw [C i hi _ (A k hk).1 (Lq.trans _ _ _ (own_in hi) (own_in hk) (F.mem _ (A k hk).1) hl (A k hk).2.2)]
        rfl
  · refine list_ext0 (by rw [lmoL_len]; exact F.len.symm) fun x hx => ?_
    rw [lmoL_len] at hx
    rw [lmo_getD hx, hgl]
    have hxr : inR p (x : Int) := ⟨by omega, by omega⟩
    have hfx : inR q (f.getD x 0) := F.mem _ hxr
    obtain ⟨s1, s2⟩ := lmoX_spec (p := p) Dq.good (g := pmoL p q f (irrL q).length) (x := (x : Int)) (Nat.le_refl (irrL q).length)
    have hiff : ∀ i, i < (irrL q).length → (leqB p (own p ((pmoL p q f (irrL q).length).getD i 0).toNat) (x : Int) = true ↔ leqB q (own q i) (f.getD x 0) = true) := fun i hi => by
      rw [pmo_getD hi, (B i hi).2.2]
      exact ⟨fun hl => Lq.trans _ _ _ (own_in hi) (F.mem _ (A i hi).1) hfx (A i hi).2.2 (F.mono Lp Lq (A i hi).1 hxr hl), fun hl => C i hi _ hxr hl⟩
    refine Lq.anti _ _ (lmoX_in Dq.good (Nat.le_refl _)) hfx (s2 _ hfx fun i hi hl => (hiff i hi).1 hl) (irr_le Dq.good _ _ _ hfx (lmoX_in Dq.good (Nat.le_refl _)) (Nat.le_refl _) fun i hi hl => s1 i hi ((hiff i hi).2 hl))
/-- The lattice map of a point map is one, and gives the point map back. -/
theorem lmo_dual {p q : List (List Int)} {g : List Int} (h : lmoB p q g = true) : lmB p q (lmoL p q g p.length) = true ∧ pmoL p q (lmoL p q g p.length) (irrL q).length = g := by
  unfold lmoB at h
  rw [Bool.and_eq_true, Bool.and_eq_true] at h
  have Dp := dst_of h.1.1
  have Dq := dst_of h.1.2
  have Lp := Dp.lat
  have Lq := Dq.lat
  obtain ⟨gl, gin⟩ := pm_at h.2
  have gin' : ∀ i, i < (irrL q).length → (g.getD i 0).toNat < (irrL p).length := fun i hi => by have := gin i (by omega); omega
  have gmono : ∀ i k, i < (irrL q).length → k < (irrL q).length → leqB q (own q i) (own q k) = true → leqB p (own p (g.getD i 0).toNat) (own p (g.getD k 0).toNat) = true := fun i k hi hk hl => by
    have h2 := h.2
    unfold pmB at h2
    rw [Bool.and_eq_true, gl] at h2
    have := allN_iff.1 (allN_iff.1 h2.2 i hi) k hk
    unfold pmP at this
    rw [pts_leq ⟨by omega, by omega⟩ ⟨by omega, by omega⟩, pts_leq (gin i (by omega)) (gin k (by omega))] at this
    simp only [Int.toNat_natCast] at this
    rw [hl] at this
    simpa using this
  let F : Int → Int := fun x => lmoX p q g x g.length
  have Fin : ∀ x, inR q (F x) := fun x => lmoX_in Dq.good (by omega)
  have Fle : ∀ k x, k < (irrL q).length → (leqB q (own q k) (F x) = true ↔ ∃ i, i < (irrL q).length ∧ leqB p (own p (g.getD i 0).toNat) x = true ∧ leqB q (own q k) (own q i) = true) := fun k x hk => by
    constructor
    · intro hl
      obtain ⟨i, hi, h1, h2⟩ := lmoX_prime Dq (n := g.length) (by omega) hk hl
      exact ⟨i, by omega, h1, h2⟩
    · rintro ⟨i, hi, h1, h2⟩
      exact Lq.trans _ _ _ (own_in hk) (own_in hi) (Fin x) h2 ((lmoX_spec Dq.good (n := g.length) (by omega)).1 i (by omega) h1)
  have Fle' : ∀ k x, k < (irrL q).length → inR p x → (leqB q (own q k) (F x) = true ↔ leqB p (own p (g.getD k 0).toNat) x = true) := fun k x hk hx => by
    rw [Fle k x hk]
    constructor
    · rintro ⟨i, hi, h1, h2⟩
      exact Lp.trans _ _ _ (own_in (gin' k hk)) (own_in (gin' i hi)) hx (gmono k i hk hi h2) h1
    · intro h1
      exact ⟨k, hk, h1, Lq.refl _ (own_in hk)⟩
  have him : ∀ x, inR p x → im (lmoL p q g p.length) x = F x := fun x hx => by
    unfold im
    rw [lmo_getD (inR_nat hx).2, (inR_nat hx).1]
  have hll := lmoL_len p q g p.length
  have notbot : ∀ i, i < (irrL p).length → ¬ leqB p (own p i) (botL p) = true := fun i hi hl => irr_ne_bot Dp.good (own_in hi) (own_irr hi) (Lp.anti _ _ (own_in hi) (bot_in Dp.good) hl (bot_le Dp.good (own_in hi)))
  have notbotq : ∀ i, i < (irrL q).length → ¬ leqB q (own q i) (botL q) = true := fun i hi hl => irr_ne_bot Dq.good (own_in hi) (own_irr hi) (Lq.anti _ _ (own_in hi) (bot_in Dq.good) hl (bot_le Dq.good (own_in hi)))
  refine ⟨?_, ?_⟩
  · unfold lmB lmH
    simp only [Bool.and_eq_true, decide_eq_true_eq, hll]
    refine ⟨⟨⟨trivial, inSize_of fun i hi => ?_⟩, ?_, ?_⟩, allN_iff.2 fun x hx => allN_iff.2 fun y hy => ?_⟩
    · rw [hll] at hi
      rw [lmo_getD hi]
      exact Fin _
    · rw [him _ (bot_in Dp.good)]
      exact irr_eq Dq.good (Fin _) (bot_in Dq.good) fun k hk => by
        rw [Fle' k _ hk (bot_in Dp.good)]
        exact ⟨fun h' => absurd h' (notbot _ (gin' k hk)), fun h' => absurd h' (notbotq k hk)⟩
    · rw [him _ (top_in Dp.good)]
      exact irr_eq Dq.good (Fin _) (top_in Dq.good) fun k hk => by
        rw [Fle' k _ hk (top_in Dp.good)]
        exact ⟨fun _ => le_top Dq.good (own_in hk), fun _ => le_top Dp.good (own_in (gin' k hk))⟩
    · have hxr : inR p (x : Int) := ⟨by omega, by omega⟩
      have hyr : inR p (y : Int) := ⟨by omega, by omega⟩
      have ex : (lmoL p q g p.length).getD x 0 = F (x : Int) := him _ hxr
      have ey : (lmoL p q g p.length).getD y 0 = F (y : Int) := him _ hyr
      have hm := Lp.meetR _ _ hxr hyr
      have hj := Lp.joinR _ _ hxr hyr
      unfold lmP
      rw [ex, ey, him _ hm, him _ hj, Bool.and_eq_true, decide_eq_true_eq, decide_eq_true_eq]
      refine ⟨irr_eq Dq.good (Fin _) (Lq.meetR _ _ (Fin _) (Fin _)) fun k hk => ?_, irr_eq Dq.good (Fin _) (Lq.joinR _ _ (Fin _) (Fin _)) fun k hk => ?_⟩
      · rw [Fle' k _ hk hm]
        have ho := own_in (gin' k hk)
        constructor
        · intro h1
          exact Lq.meetG _ _ _ (Fin _) (Fin _) (own_in hk) ((Fle' k _ hk hxr).2 (Lp.trans _ _ _ ho hm hxr h1 (Lp.meet1 _ _ hxr hyr))) ((Fle' k _ hk hyr).2 (Lp.trans _ _ _ ho hm hyr h1 (Lp.meet2 _ _ hxr hyr)))
        · intro h1
          have hmm := Lq.meetR _ _ (Fin (x : Int)) (Fin (y : Int))
          exact Lp.meetG _ _ _ hxr hyr ho ((Fle' k _ hk hxr).1 (Lq.trans _ _ _ (own_in hk) hmm (Fin _) h1 (Lq.meet1 _ _ (Fin _) (Fin _)))) ((Fle' k _ hk hyr).1 (Lq.trans _ _ _ (own_in hk) hmm (Fin _) h1 (Lq.meet2 _ _ (Fin _) (Fin _))))
      · rw [Fle' k _ hk hj]
        have ho := own_in (gin' k hk)
        have hjj := Lq.joinR _ _ (Fin (x : Int)) (Fin (y : Int))
        constructor
        · intro h1
          rcases irr_prime Dp ho hxr hyr (own_irr (gin' k hk)) h1 with h2 | h2
          · exact Lq.trans _ _ _ (own_in hk) (Fin _) hjj ((Fle' k _ hk hxr).2 h2) (Lq.join1 _ _ (Fin _) (Fin _))
          · exact Lq.trans _ _ _ (own_in hk) (Fin _) hjj ((Fle' k _ hk hyr).2 h2) (Lq.join2 _ _ (Fin _) (Fin _))
        · intro h1
          rcases irr_prime Dq (own_in hk) (Fin _) (Fin _) (own_irr hk) h1 with h2 | h2
          · exact Lp.trans _ _ _ ho hxr hj ((Fle' k _ hk hxr).1 h2) (Lp.join1 _ _ hxr hyr)
          · exact Lp.trans _ _ _ ho hyr hj ((Fle' k _ hk hyr).1 h2) (Lp.join2 _ _ hxr hyr)
  · refine list_ext0 (by rw [pmoL_len]; exact gl.symm) fun i hi => ?_
    rw [pmoL_len] at hi
    rw [pmo_getD hi]
    have ho := own_in (gin' i hi)
    have e : boundL p (abvL q (lmoL p q g p.length) (own q i)) = own p (g.getD i 0).toNat := by
      refine bound_eq Lp ho (fun s hs => ?_) fun z hz hall => ?_
      · unfold abvL at hs
        obtain ⟨s1, s2, s3⟩ := upTo_mem.1 hs
        rw [hll] at s2
        rw [lmo_getD (by omega), show ((s.toNat : Nat) : Int) = s by omega] at s3
        exact (Fle' i s hi ⟨s1, s2⟩).1 s3
      · refine hall _ ?_
        unfold abvL
        refine upTo_mem.2 ⟨ho.1, by rw [hll]; exact ho.2, ?_⟩
        rw [lmo_getD (inR_nat ho).2, (inR_nat ho).1]
        exact (Fle' i _ hi ho).2 (Lp.refl _ ho)
    rw [e]
    exact place_eq (gin i (by omega)).1 (gin i (by omega)).2
end Go.Proofs.Ytbfmjknngofleaa
