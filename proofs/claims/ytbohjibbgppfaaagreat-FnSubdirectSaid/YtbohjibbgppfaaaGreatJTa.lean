/- Plain: covers as the reference finds them, meet-irreducible congruences separate, lists of places whose meet is the identity. -/
import Derived.Test.YtbohjibbgppfaaaGreatJVr
import Derived.Test.YtbohjibbgppfaaaGreatJYt
import Derived.Test.YtbohjibbgppfaaaGreatJAu
namespace Go.Proofs.YtbohjibbgppfaaaGreat
open Go Go.Pv Go.Proofs

theorem sub_filter {α : Type} [DecidableEq α] {l V : List α} (h : l.Sublist V) (hd : V.Nodup) : l = V.filter fun x => decide (x ∈ l) := by
  induction h with
  | slnil => rfl
  | @cons l V a h ih =>
    have hd2 := List.nodup_cons.1 hd
    rw [List.filter_cons, if_neg (by rw [decide_eq_true_eq]; exact fun hm => hd2.1 (h.subset hm))]
    exact ih hd2.2
  | @cons_cons l V a h ih =>
    have hd2 := List.nodup_cons.1 hd
    rw [List.filter_cons, if_pos (by rw [decide_eq_true_eq]; exact List.mem_cons_self)]
    congr 1
    have h2 : V.filter (fun x => decide (x ∈ a :: l)) = V.filter fun x => decide (x ∈ l) := List.filter_congr fun x hx => by
      rw [decide_eq_decide, List.mem_cons]
      exact ⟨fun h => h.resolve_left fun e => hd2.1 (e ▸ hx), .inr⟩
    rw [h2]
    exact ih hd2.2
theorem sub_mem_eq {α : Type} [DecidableEq α] {l m V : List α} (hl : l.Sublist V) (hm : m.Sublist V) (hd : V.Nodup) (h : ∀ x, x ∈ l ↔ x ∈ m) : l = m := by
  rw [sub_filter hl hd, sub_filter hm hd]
  refine List.filter_congr fun x _ => ?_
  rw [decide_eq_decide]; exact h x
/-! ### Covers -/
def cvE (n : Nat) (p q : List Int) : Bool := fiB n p q && !decide (p = q)
def cvD (n : Nat) (V : List (List Int)) (p q : List Int) (k : Nat) : Bool := !(fiB n p (V.getD k []) && (fiB n (V.getD k []) q && (!decide (V.getD k [] = p) && !decide (V.getD k [] = q))))
def cvK (n : Nat) (V : List (List Int)) (p q : List Int) (k : Nat) : Bool := (List.range k).all (cvD n V p q)
theorem cvK_succ (n : Nat) (V : List (List Int)) (p q : List Int) (k : Nat) : cvK n V p q (k + 1) = (cvK n V p q k && cvD n V p q k) := by
  unfold cvK; rw [List.range_succ, List.all_append]; simp
theorem cvK_mono {n : Nat} {V : List (List Int)} {p q : List Int} {k : Nat} (h : cvK n V p q k = false) {m : Nat} (hm : k ≤ m) : cvK n V p q m = false := by
  rw [Bool.eq_false_iff] at h ⊢
  exact fun h2 => h (List.all_eq_true.2 fun x hx => List.all_eq_true.1 h2 x (List.mem_range.2 (by have := List.mem_range.1 hx; omega)))
def cvB (n : Nat) (V : List (List Int)) (p q : List Int) : Bool := cvE n p q && cvK n V p q V.length
def covR6 (n : Nat) (V W : List (List Int)) (p : List Int) : List (List Int) := W.filter (cvB n V p)
theorem covR6_take (n : Nat) {V W : List (List Int)} {p : List Int} {i : Nat} (hi : i < W.length) : covR6 n V (W.take (i + 1)) p = covR6 n V (W.take i) p ++ if cvB n V p (W.getD i []) then [W.getD i []] else [] := by
  unfold covR6
  rw [take_snoc [] hi, List.filter_append]
  congr 1
  rw [List.filter_cons, List.filter_nil]
theorem cov_mem {n : Nat} {V : List (List Int)} {p q : List Int} (hd : V.Nodup) : q ∈ covP6 n V p ↔ q ∈ V ∧ cvE n p q = true ∧ ∀ r ∈ V, cvE n p r = true → r ≠ q → fiB n r q = false := by
  unfold covP6 abvP
  rw [minL_mem (hd.sublist List.filter_sublist)]
  unfold cvE
  simp only [List.mem_filter, and_imp, and_assoc]
theorem cov_same {n : Nat} {V : List (List Int)} {p : List Int} (hd : V.Nodup) : covR6 n V V p = covP6 n V p := by
  refine sub_mem_eq List.filter_sublist ((minL_sub n _).trans List.filter_sublist) hd fun q => ?_
  rw [cov_mem hd]
  unfold covR6
  rw [List.mem_filter]
  refine and_congr_right fun hq => ?_
  unfold cvB
  rw [Bool.and_eq_true]
  refine and_congr_right fun he => ?_
  constructor
  · intro h r hr h1 h2
    obtain ⟨k, hk, rfl⟩ := List.getElem_of_mem hr
    have h3 := List.all_eq_true.1 h k (List.mem_range.2 hk)
    unfold cvD at h3
    rw [rows_get hk] at h3
    unfold cvE at h1
    rw [Bool.and_eq_true] at h1
    have h4 : decide (V[k] = p) = false := by
      have := h1.2
      rw [Bool.not_eq_true', decide_eq_false_iff_not] at this
      exact decide_eq_false fun e => this e.symm
    rw [h1.1, h4, decide_eq_false h2] at h3
    simpa using h3
  · intro h
    refine List.all_eq_true.2 fun k hk => ?_
    have hk := List.mem_range.1 hk
    unfold cvD
    rw [rows_get hk]
    by_cases h1 : cvE n p V[k] = true
    · by_cases h2 : V[k] = q
      · rw [decide_eq_true h2]; simp
      · rw [h _ (List.getElem_mem hk) h1 h2]; simp
    · rw [Bool.not_eq_true] at h1
      unfold cvE at h1
      by_cases h2 : fiB n p V[k] = true
      · rw [h2, Bool.true_and, Bool.not_eq_false', decide_eq_true_eq] at h1
        rw [decide_eq_true h1.symm]; simp
      · rw [Bool.not_eq_true] at h2
        rw [h2]; rfl
/-! ### Irreducible congruences separate -/
theorem fi_cnt {n : Nat} {p q : List Int} (hp : Pt n p) (hq : Pt n q) (h : Fi n p q) (hne : p ≠ q) : cnt n q < cnt n p := by
  have e : joinP n p q = q := fi_antisymm (join_pt hp hq) hq (join_least hp hq h (fi_refl hq)) (join_fi2 hp hq)
  rcases foldU_cnt (L := prsL n q) hp (prs_lt hq) with h1 | h1
  · exact absurd (h1.symm.trans e) hne
  · have h2 : cnt n (joinP n p q) < cnt n p := h1
    rwa [e] at h2
theorem least_cnt {n : Nat} {P : List Int → Prop} : ∀ c p, P p → cnt n p = c → ∃ q, P q ∧ ∀ r, P r → cnt n q ≤ cnt n r := by
  intro c
  induction c using Nat.strongRecOn with
  | ind c ih =>
    intro p hp hc
    by_cases h : ∀ r, P r → cnt n p ≤ cnt n r
    · exact ⟨p, hp, h⟩
    · obtain ⟨r, hr, hlt⟩ : ∃ r, P r ∧ cnt n r < cnt n p := by
        refine Classical.byContradiction fun hn => h fun r hr => ?_
        exact Nat.not_lt.1 fun hlt => hn ⟨r, hr, hlt⟩
      exact ih (cnt n r) (by omega) r hr rfl
theorem irr_sep {n : Nat} {ops : List OpD} (ho : opsIn n ops) {x y : Nat} (hx : x < n) (hy : y < n) (hxy : x ≠ y) : ∃ p ∈ irrC n (allL n ops) (allL n ops), bk p x ≠ bk p y := by
  have hid : idL n ∈ allL n ops := allL_mem.2 ⟨idL_pt n, idL_cong ops⟩
  obtain ⟨p, ⟨hp, hpx⟩, hmin⟩ := least_cnt (n := n) (P := fun p => p ∈ allL n ops ∧ bk p x ≠ bk p y) _ (idL n) ⟨hid, by rw [bk_idL hx, bk_idL hy]; exact hxy⟩ rfl
  obtain ⟨pt, cg⟩ := allL_mem.1 hp
  have hd := ascC_nodup (allL_all n ops).1
  have gl := cg_lst ho hx hy
  have hcP : Pt n (joinP n p (cgL n ops x y)) := join_pt pt gl.pt
  have hcC := join_cong ho pt gl.pt cg gl.cong
  have hcV : joinP n p (cgL n ops x y) ∈ allL n ops := allL_mem.2 ⟨hcP, hcC⟩
  have hcx : bk (joinP n p (cgL n ops x y)) x = bk (joinP n p (cgL n ops x y)) y := fi_R (join_fi2 pt gl.pt) hx hy (cg_R ho hx hy)
  have hpc : p ≠ joinP n p (cgL n ops x y) := fun e => hpx (by rw [e]; exact hcx)
  have up : ∀ q ∈ allL n ops, cvE n p q = true → Fi n (joinP n p (cgL n ops x y)) q := fun q hq h => by
    obtain ⟨qt, qc⟩ := allL_mem.1 hq
    unfold cvE at h
    rw [Bool.and_eq_true, Bool.not_eq_true', decide_eq_false_iff_not, fiB_iff pt qt] at h
    have hlt := fi_cnt pt qt h.1 h.2
    have hqx : bk q x = bk q y := Classical.byContradiction fun hn => by
      have := hmin q ⟨hq, hn⟩
      omega
    exact join_least pt gl.pt h.1 (cg_least ho hx hy qt qc hqx)
  have hcE : cvE n p (joinP n p (cgL n ops x y)) = true := by
    unfold cvE
    rw [(fiB_iff pt hcP).2 (join_fi1 pt gl.pt), decide_eq_false hpc]; rfl
  refine ⟨p, List.mem_filter.2 ⟨hp, ?_⟩, hpx⟩
  rw [decide_eq_true_eq]
  have hmem : ∀ q, q ∈ covP6 n (allL n ops) p ↔ q = joinP n p (cgL n ops x y) := fun q => by
    rw [cov_mem hd]
    constructor
    · rintro ⟨h1, h2, h3⟩
      refine Classical.byContradiction fun hne => ?_
      have := h3 _ hcV hcE fun e => hne e.symm
      rw [(fiB_iff hcP (allL_mem.1 h1).1).2 (up q h1 h2)] at this
      cases this
    · rintro rfl
      refine ⟨hcV, hcE, fun r hr h1 h2 => ?_⟩
      rw [Bool.eq_false_iff]
      intro h3
      have rt := (allL_mem.1 hr).1
      exact h2 (fi_antisymm rt hcP ((fiB_iff rt hcP).1 h3) (up r hr h1))
  have hnd : (covP6 n (allL n ops) p).Nodup := hd.sublist ((minL_sub n _).trans List.filter_sublist)
  have hin := (hmem _).2 rfl
  match hcv : covP6 n (allL n ops) p with
  | [] => rw [hcv] at hin; cases hin
  | [a] => rfl
  | a :: b :: t =>
    rw [hcv] at hmem hnd
    have ea := (hmem a).1 (by simp)
    have eb := (hmem b).1 (by simp)
    rw [ea, eb] at hnd
    simp at hnd
/-! ### Places whose meet is the identity -/
def chs (n : Nat) (W : List (List Int)) : Nat → Nat → List Int → Option (List Nat)
  | 0, _, met => if cnt n met = n then some [] else none
  | k + 1, fr, met => (List.range W.length).findSome? fun i => if fr ≤ i then (chs n W k (i + 1) (meetP n met (W.getD i []))).map (i :: ·) else none
theorem chs_len {n : Nat} {W : List (List Int)} : ∀ {k fr : Nat} {met : List Int} {L : List Nat}, chs n W k fr met = some L → L.length = k ∧ (∀ i ∈ L, fr ≤ i ∧ i < W.length) ∧ (0 < k → fr + k ≤ W.length)
  | 0, fr, met, L, h => by
    unfold chs at h
    split at h
    · injection h with h; subst h; exact ⟨rfl, fun i hi => (by cases hi), fun h => absurd h (Nat.lt_irrefl _)⟩
    · cases h
  | k + 1, fr, met, L, h => by
    obtain ⟨i, hi, h1⟩ := List.exists_of_findSome?_eq_some h
    have hi := List.mem_range.1 hi
    split at h1
    · rename_i hfi
      obtain ⟨L', h2, rfl⟩ := Option.map_eq_some_iff.1 h1
      obtain ⟨a1, a2, a3⟩ := chs_len h2
      refine ⟨by rw [List.length_cons, a1], fun j hj => ?_, fun _ => ?_⟩
      · rcases List.mem_cons.1 hj with rfl | hj
        · exact ⟨hfi, hi⟩
        · have := a2 j hj
          omega
      · rcases Nat.eq_zero_or_pos k with h0 | h0
        · omega
        · have := a3 h0
          omega
    · cases h1
def mtF (n : Nat) (met : List Int) (L : List (List Int)) : List Int := L.foldl (meetP n) met
theorem chs_meet {n : Nat} {W : List (List Int)} : ∀ {k fr : Nat} {met : List Int} {L : List Nat}, chs n W k fr met = some L → cnt n (mtF n met (L.map fun i => W.getD i [])) = n
  | 0, fr, met, L, h => by
    unfold chs at h
    split at h
    · rename_i hc
      injection h with h; subst h; exact hc
    · cases h
  | k + 1, fr, met, L, h => by
    obtain ⟨i, hi, h1⟩ := List.exists_of_findSome?_eq_some h
    split at h1
    · obtain ⟨L', h2, rfl⟩ := Option.map_eq_some_iff.1 h1
      show cnt n (mtF n (meetP n met (W.getD i [])) (L'.map fun i => W.getD i [])) = n
      exact chs_meet h2
    · cases h1
theorem chs_all {n : Nat} {W : List (List Int)} : ∀ {k fr : Nat} {met : List Int}, fr + k = W.length → cnt n (mtF n met (W.drop fr)) = n → (chs n W k fr met).isSome = true
  | 0, fr, met, hk, h => by
    unfold chs
    rw [List.drop_of_length_le (by omega)] at h
    have h : cnt n met = n := h
    rw [if_pos h]; rfl
  | k + 1, fr, met, hk, h => by
    have hlt : fr < W.length := by omega
    have hd : W.drop fr = W.getD fr [] :: W.drop (fr + 1) := by rw [rows_get hlt]; exact List.drop_eq_getElem_cons hlt
    rw [hd] at h
    have ih := chs_all (n := n) (k := k) (fr := fr + 1) (met := meetP n met (W.getD fr [])) (by omega) h
    cases hc : chs n W (k + 1) fr met with
    | some L => rfl
    | none =>
      have := List.findSome?_eq_none_iff.1 hc fr (List.mem_range.2 hlt)
      rw [if_pos (Nat.le_refl _), Option.map_eq_none_iff] at this
      rw [this] at ih; cases ih
theorem mtF_pt {n : Nat} : ∀ (L : List (List Int)) {met : List Int}, Pt n met → Pt n (mtF n met L)
  | [], _, h => h
  | _ :: L, _, _ => mtF_pt L meet_pt
theorem mtF_R {n : Nat} {x y : Nat} (hx : x < n) (hy : y < n) : ∀ (L : List (List Int)) {met : List Int}, bk (mtF n met L) x = bk (mtF n met L) y ↔ bk met x = bk met y ∧ ∀ p ∈ L, bk p x = bk p y
  | [], met => by
    show bk met x = bk met y ↔ _
    simp
  | p :: L, met => by
    show bk (mtF n (meetP n met p) L) x = bk (mtF n (meetP n met p) L) y ↔ _
    rw [mtF_R hx hy L, meet_R hx hy]
    simp only [List.mem_cons, forall_eq_or_imp, and_assoc]
theorem cnt_id {n : Nat} {p : List Int} : cnt n p = n ↔ ∀ x, x < n → bk p x = x := by
  unfold cnt
  constructor
  · intro h x hx
    have h1 : ((List.range n).filter fun x => decide (bk p x = x)).length = (List.range n).length := by rw [h, List.length_range]
    have := List.length_filter_eq_length_iff.1 h1 x (List.mem_range.2 hx)
    simpa using this
  · intro h
    rw [List.filter_eq_self.2 fun x hx => by rw [decide_eq_true_eq]; exact h x (List.mem_range.1 hx), List.length_range]
theorem sep_cnt {n : Nat} {L : List (List Int)} : cnt n (mtF n (fullL n) L) = n ↔ ∀ x y, x < n → y < n → x ≠ y → ∃ p ∈ L, bk p x ≠ bk p y := by
  have hP := mtF_pt L (full_pt n)
  rw [cnt_id]
  constructor
  · intro h x y hx hy hxy
    refine Classical.byContradiction fun hn => hxy ?_
    have : bk (mtF n (fullL n) L) x = bk (mtF n (fullL n) L) y := (mtF_R hx hy L).2 ⟨by rw [bk_full, bk_full], fun p hp => Classical.byContradiction fun h2 => hn ⟨p, hp, h2⟩⟩
    rwa [h x hx, h y hy] at this
  · intro h x hx
    refine Classical.byContradiction fun hne => ?_
    have hlt := hP.lt hx
    obtain ⟨p, hp, hb⟩ := h _ x hlt hx hne
    exact hb (((mtF_R hlt hx L).1 (hP.id x hx)).2 p hp)
def sdO (n : Nat) (W : List (List Int)) : Option (List Nat) := (List.range (W.length + 1)).findSome? fun k => chs n W k 0 (fullL n)
def sdL (n : Nat) (W : List (List Int)) : List (List Int) := ((sdO n W).getD []).map fun i => W.getD i []
theorem sdO_some {n : Nat} {W : List (List Int)} (h : cnt n (mtF n (fullL n) W) = n) : ∃ k L, k ≤ W.length ∧ chs n W k 0 (fullL n) = some L ∧ (∀ j, j < k → chs n W j 0 (fullL n) = none) ∧ sdO n W = some L := by
  have h1 := chs_all (n := n) (W := W) (k := W.length) (fr := 0) (met := fullL n) (by omega) h
  cases hO : sdO n W with
  | none =>
    have := List.findSome?_eq_none_iff.1 hO W.length (List.mem_range.2 (by omega))
    rw [this] at h1; cases h1
  | some L =>
    have hex : ∃ k, k ≤ W.length ∧ (chs n W k 0 (fullL n)).isSome = true ∧ ∀ j, j < k → (chs n W j 0 (fullL n)).isSome = false := by
      have hf := fstN_spec (n := W.length + 1) (P := fun k => (chs n W k 0 (fullL n)).isSome) (x := W.length) (by omega) h1
      exact ⟨_, by omega, hf.2.1, fun j hj => hf.2.2 j hj⟩
    obtain ⟨k, hk, hs, hno⟩ := hex
    have hno2 : ∀ j, j < k → chs n W j 0 (fullL n) = none := fun j hj => by
      cases hc : chs n W j 0 (fullL n) with
      | none => rfl
      | some M => have := hno j hj; rw [hc] at this; cases this
    obtain ⟨M, hM⟩ := Option.isSome_iff_exists.1 hs
    have : sdO n W = some M := range_findSome_at (by omega) hM hno2
    rw [hO] at this
    injection this with this
    subst this
    exact ⟨k, L, hk, hM, hno2, rfl⟩
theorem irr_all {n : Nat} {ops : List OpD} (ho : opsIn n ops) : cnt n (mtF n (fullL n) (irrC n (allL n ops) (allL n ops))) = n :=
  sep_cnt.2 fun _ _ hx hy hxy => irr_sep ho hx hy hxy
theorem sdL_mem {n : Nat} {W : List (List Int)} (h : cnt n (mtF n (fullL n) W) = n) : (∀ p ∈ sdL n W, p ∈ W) ∧ (sdL n W).length ≤ W.length ∧ cnt n (mtF n (fullL n) (sdL n W)) = n := by
  obtain ⟨k, L, hk, hL, -, hO⟩ := sdO_some h
  obtain ⟨a1, a2, -⟩ := chs_len hL
  have a3 := chs_meet hL
  unfold sdL
  rw [hO]
  refine ⟨fun p hp => ?_, by rw [List.length_map]; show L.length ≤ _; omega, a3⟩
  obtain ⟨i, hi, rfl⟩ := List.mem_map.1 hp
  exact rows_mem (a2 i hi).2
end Go.Proofs.YtbohjibbgppfaaaGreat
/- Plain: short separating lists; quotients by irreducible congruences have a monolith. -/
namespace Go.Proofs.YtbohjibbgppfaaaGreat
open Go Go.Pv Go.Proofs

theorem chs_down {n : Nat} {W : List (List Int)} {k fr : Nat} {met : List Int} (h : (chs n W k (fr + 1) met).isSome = true) : (chs n W k fr met).isSome = true := by
  cases k with
  | zero => exact h
  | succ k =>
    cases hc : chs n W (k + 1) fr met with
    | some L => rfl
    | none =>
      exfalso
      obtain ⟨L, hL⟩ := Option.isSome_iff_exists.1 h
      obtain ⟨i, hi, h1⟩ := List.exists_of_findSome?_eq_some hL
      have h2 := List.findSome?_eq_none_iff.1 hc i hi
      split at h1
      · rw [if_pos (by omega)] at h2
        rw [h1] at h2; cases h2
      · cases h1
theorem chs_short {n : Nat} {W : List (List Int)} (hW : ∀ p ∈ W, Pt n p) : ∀ (j fr : Nat) (met : List Int), Pt n met → fr + j = W.length → cnt n (mtF n met (W.drop fr)) = n → ∃ k, k ≤ n - cnt n met ∧ (chs n W k fr met).isSome = true
  | 0, fr, met, hm, hj, h => by
    rw [List.drop_of_length_le (by omega)] at h
    have h : cnt n met = n := h
    exact ⟨0, Nat.zero_le _, by unfold chs; rw [if_pos h]; rfl⟩
  | j + 1, fr, met, hm, hj, h => by
    have hlt : fr < W.length := by omega
    have hd : W.drop fr = W.getD fr [] :: W.drop (fr + 1) := by rw [rows_get hlt]; exact List.drop_eq_getElem_cons hlt
    rw [hd] at h
    have h : cnt n (mtF n (meetP n met (W.getD fr [])) (W.drop (fr + 1))) = n := h
    have hmt : Pt n (meetP n met (W.getD fr [])) := meet_pt
    obtain ⟨k, hk, hs⟩ := chs_short hW j (fr + 1) _ hmt (by omega) h
    by_cases he : meetP n met (W.getD fr []) = met
    · rw [he] at hk hs
      exact ⟨k, hk, chs_down hs⟩
    · have hc := fi_cnt hmt hm meet_fi1 he
      have hn := cnt_le n (meetP n met (W.getD fr []))
      refine ⟨k + 1, by omega, ?_⟩
      cases hc2 : chs n W (k + 1) fr met with
      | some L => rfl
      | none =>
        have h2 := List.findSome?_eq_none_iff.1 hc2 fr (List.mem_range.2 hlt)
        rw [if_pos (Nat.le_refl _), Option.map_eq_none_iff] at h2
        rw [h2] at hs; cases hs
theorem sdL_short {n : Nat} {W : List (List Int)} (hW : ∀ p ∈ W, Pt n p) (h : cnt n (mtF n (fullL n) W) = n) : (sdL n W).length ≤ n := by
  obtain ⟨k, L, hk, hL, hno, hO⟩ := sdO_some h
  obtain ⟨j, hj, hs⟩ := chs_short hW W.length 0 (fullL n) (full_pt n) (by omega) h
  obtain ⟨a1, -, -⟩ := chs_len hL
  unfold sdL
  rw [hO, List.length_map]
  show L.length ≤ n
  rcases Nat.lt_or_ge j k with h1 | h1
  · rw [hno j h1] at hs; cases hs
  · omega
/-! ### Monoliths -/
theorem most_cnt {n : Nat} {P : List Int → Prop} : ∀ c p, P p → n - cnt n p = c → ∃ q, P q ∧ ∀ r, P r → cnt n r ≤ cnt n q := by
  intro c
  induction c using Nat.strongRecOn with
  | ind c ih =>
    intro p hp hc
    by_cases h : ∀ r, P r → cnt n r ≤ cnt n p
    · exact ⟨p, hp, h⟩
    · obtain ⟨r, hr, hlt⟩ : ∃ r, P r ∧ cnt n p < cnt n r := by
        refine Classical.byContradiction fun hn => h fun r hr => ?_
        exact Nat.not_lt.1 fun hlt => hn ⟨r, hr, hlt⟩
      have := cnt_le n r
      exact ih (n - cnt n r) (by omega) r hr rfl
theorem irr_cover {n : Nat} {ops : List OpD} {p : List Int} (hp : p ∈ irrC n (allL n ops) (allL n ops)) : ∃ c ∈ allL n ops, cvE n p c = true ∧ ∀ q ∈ allL n ops, cvE n p q = true → Fi n c q := by
  obtain ⟨hpV, h1⟩ := List.mem_filter.1 hp
  rw [decide_eq_true_eq] at h1
  have hd := ascC_nodup (allL_all n ops).1
  have pt := (allL_mem.1 hpV).1
  obtain ⟨c, hc⟩ : ∃ c, covP6 n (allL n ops) p = [c] := by
    match hcv : covP6 n (allL n ops) p, h1 with
    | [c], _ => exact ⟨c, rfl⟩
  have hcm := (cov_mem (p := p) hd).1 (show c ∈ covP6 n (allL n ops) p by rw [hc]; exact List.mem_cons_self)
  refine ⟨c, hcm.1, hcm.2.1, fun q hq he => ?_⟩
  have qt := (allL_mem.1 hq).1
  obtain ⟨r, ⟨hr, hre, hrq⟩, hmax⟩ := most_cnt (n := n) (P := fun r => r ∈ allL n ops ∧ cvE n p r = true ∧ Fi n r q) _ q ⟨hq, he, fi_refl qt⟩ rfl
  have rt := (allL_mem.1 hr).1
  have hrc : r ∈ covP6 n (allL n ops) p := (cov_mem hd).2 ⟨hr, hre, fun s hs hse hne => by
    rw [Bool.eq_false_iff]
    intro hf
    have st := (allL_mem.1 hs).1
    have hf := (fiB_iff st rt).1 hf
    have h2 := hmax s ⟨hs, hse, fi_trans st hf hrq⟩
    have h3 := fi_cnt st rt hf hne
    omega⟩
  rw [hc, List.mem_singleton] at hrc
  rw [← hrc]; exact hrq
def undB (n : Nat) (T : List (List Int)) (p : List Int) : Bool := T.all fun q => fiB n p q
def undK (n : Nat) (T : List (List Int)) (p : List Int) (k : Nat) : Bool := undB n (T.take k) p
theorem undK_succ {n : Nat} {T : List (List Int)} {p : List Int} {k : Nat} (h : k < T.length) : undK n T p (k + 1) = (undK n T p k && fiB n p (T.getD k [])) := by
  unfold undK undB
  rw [take_snoc [] h, List.all_append]
  simp
def monO (n : Nat) (T : List (List Int)) : Option Nat := (List.range T.length).find? fun i => undB n T (T.getD i [])
theorem allL_first {n : Nat} (ops : List OpD) : (allL n ops).getD 0 [] = idL n := by
  have hmem : idL n ∈ allL n ops := allL_mem.2 ⟨idL_pt n, idL_cong ops⟩
  have hasc := (allL_all n ops).1
  have hPt : ∀ p ∈ allL n ops, Pt n p := fun p hp => (allL_mem.1 hp).1
  generalize allL n ops = V at *
  have h0 := List.length_pos_of_mem hmem
  obtain ⟨i, hi, e⟩ := List.getElem_of_mem hmem
  rcases Nat.eq_zero_or_pos i with h | h
  · subst h; rw [rows_get hi]; exact e
  · have hc := List.pairwise_iff_getElem.1 hasc 0 i h0 hi h
    rw [e, ← rows_get h0] at hc
    have hp0 := hPt _ (rows_mem h0)
    have hcnt : cnt n (idL n) = n := cnt_id.2 fun x hx => bk_idL hx
    have hle := cnt_le n (V.getD 0 [])
    unfold cmpC at hc
    split at hc
    · omega
    · have h2 : cnt n (V.getD 0 []) = n := by rename_i hh; omega
      exact fi_antisymm hp0 (idL_pt n) (fun x hx => by rw [cnt_id.1 h2 x hx]) (idL_fi _)
theorem drop_one {n : Nat} {ops : List OpD} {q : List Int} : q ∈ (allL n ops).drop 1 ↔ q ∈ allL n ops ∧ q ≠ idL n := by
  have hd := ascC_nodup (allL_all n ops).1
  have h0 := allL_pos n ops
  have hf := allL_first (n := n) ops
  generalize allL n ops = V at *
  cases V with
  | nil => simp at h0
  | cons a V =>
    have hf : a = idL n := hf
    subst hf
    have hd := List.nodup_cons.1 hd
    show q ∈ V ↔ _
    rw [List.mem_cons]
    constructor
    · intro h; exact ⟨.inr h, fun e => hd.1 (e ▸ h)⟩
    · rintro ⟨h1 | h1, h2⟩
      · exact absurd h1 h2
      · exact h1
theorem quo_mono {n : Nat} {ops : List OpD} {p : List Int} (hn : 0 < n) (ho : opsIn n ops) (hp : p ∈ irrC n (allL n ops) (allL n ops)) :
    (monO (lstN p n).length ((allL (lstN p n).length (quoL n p ops)).drop 1)).isSome = true := by
  obtain ⟨c, hc, hce, hall⟩ := irr_cover hp
  obtain ⟨hpV, -⟩ := List.mem_filter.1 hp
  obtain ⟨pt, cg⟩ := allL_mem.1 hpV
  obtain ⟨ct, cc⟩ := allL_mem.1 hc
  have hce2 := hce
  unfold cvE at hce2
  rw [Bool.and_eq_true, Bool.not_eq_true', decide_eq_false_iff_not, fiB_iff pt ct] at hce2
  have hpush : pushP n p c ∈ (allL (lstN p n).length (quoL n p ops)).drop 1 := drop_one.2 ⟨allL_mem.2 ⟨push_pt6, push_cong pt hn ho cg ct hce2.1 cc⟩, fun e => by
    have h1 := lift_push pt ct hce2.1
    rw [e] at h1
    refine hce2.2 ?_
    rw [← h1]
    refine fi_antisymm pt lift_pt (lift_fi pt (idL_pt _)) ((fi_iff lift_pt).2 fun x y hx hy he => ?_)
    rw [lift_R pt (idL_pt _) hx hy, bk_idL (nm_lt pt hx), bk_idL (nm_lt pt hy)] at he
    exact (nm_eq pt hx hy).1 he⟩
  obtain ⟨i, hi, e⟩ := List.getElem_of_mem hpush
  unfold monO
  rw [List.find?_isSome]
  refine ⟨i, List.mem_range.2 hi, ?_⟩
  rw [rows_get hi, e]
  refine List.all_eq_true.2 fun q hq => ?_
  obtain ⟨hqV, hqi⟩ := drop_one.1 hq
  obtain ⟨qt, qc⟩ := allL_mem.1 hqV
  rw [fiB_iff push_pt6 qt, fi_iff push_pt6]
  intro x y hx hy hxy
  have hlV : liftP n p q ∈ allL n ops := allL_mem.2 ⟨lift_pt, lift_cong pt hn ho cg qt qc⟩
  have hle : cvE n p (liftP n p q) = true := by
    unfold cvE
    rw [(fiB_iff pt lift_pt).2 (lift_fi pt qt), Bool.true_and, Bool.not_eq_true', decide_eq_false_iff_not]
    intro e2
    refine hqi ?_
    have h1 := push_lift pt qt
    rw [← h1, ← e2]
    refine fi_antisymm push_pt6 (idL_pt _) ((fi_iff push_pt6).2 fun a b ha hb he => ?_) (idL_fi _)
    rw [push_R pt pt ha hb] at he
    rw [bk_idL ha, bk_idL hb]
    rw [(lst_in pt ha).2, (lst_in pt hb).2] at he
    rw [← nm_lst pt ha, he, nm_lst pt hb]
  have hcl := hall _ hlV hle
  rw [push_R pt ct hx hy] at hxy
  have hla := lstN_mem.1 (show (lstN p n).getD x 0 ∈ lstN p n by rw [List.getD_eq_getElem?_getD, List.getElem?_eq_getElem hx]; exact List.getElem_mem hx)
  have hlb := lstN_mem.1 (show (lstN p n).getD y 0 ∈ lstN p n by rw [List.getD_eq_getElem?_getD, List.getElem?_eq_getElem hy]; exact List.getElem_mem hy)
  have h2 := fi_R hcl hla.1 hlb.1 hxy
  have h3 := (push_R pt lift_pt hx hy).2 h2
  rwa [push_lift pt qt] at h3
end Go.Proofs.YtbohjibbgppfaaaGreat
