/- The two searches for the shortest chain find the same, plain. -/
import Derived.Test.YtlgfniaakjchgaaGreatLGt
import Derived.Test.YtlgfniaakjchgaaGreatLGr
namespace Go.Proofs.YtlgfniaakjchgaaGreat
open Go Go.Pv Go.Proofs

theorem findP_congr {p q : Nat → Bool} : ∀ {l : List Nat}, (∀ x ∈ l, p x = q x) → l.find? p = l.find? q
  | [], _ => rfl
  | x :: l, h => by
    rw [List.find?_cons, List.find?_cons, h x (by simp), findP_congr fun y hy => h y (by simp [hy])]
theorem any_congr' {p q : Nat → Bool} : ∀ {l : List Nat}, (∀ x ∈ l, p x = q x) → l.any p = l.any q
  | [], _ => rfl
  | x :: l, h => by
    rw [List.any_cons, List.any_cons, h x (by simp), any_congr' fun y hy => h y (by simp [hy])]
theorem par_next (i : Nat) : 1 - i % 2 = (i + 1) % 2 := by omega
section
variable {N : Nat} {bg bg' en en' : Nat → Bool} {fo fo' : Nat → Nat → Nat → Bool}
theorem rch_congr (he : ∀ f, f < N → en f = en' f) (hf : ∀ i f g, f < N → g < N → fo i f g = fo' i f g) : ∀ (k i f : Nat), f < N → rch N en fo k i f = rch N en' fo' k i f
  | 0, i, f, h => he f h
  | k + 1, i, f, h => by
    unfold rch
    refine any_congr' fun g hg => ?_
    have hg' := List.mem_range.1 hg
    rw [rch_congr he hf k (i + 1) g hg', hf i f g h hg']
theorem chq_congr (hb : ∀ f, f < N → bg f = bg' f) (he : ∀ f, f < N → en f = en' f) (hf : ∀ i f g, f < N → g < N → fo i f g = fo' i f g) (s : Nat) : ∀ i, chq N bg en fo s i = chq N bg' en' fo' s i
  | 0 => rfl
  | i + 1 => by
    have ih := chq_congr hb he hf s i
    rw [chq, chq, ← ih]
    cases hc : chq N bg en fo s i with
    | none => rfl
    | some c =>
      obtain ⟨hl, hm⟩ := chq_len N bg en fo hc
      rw [Option.bind_some, Option.bind_some]
      have : (List.range N).find? (prC N bg en fo s i c) = (List.range N).find? (prC N bg' en' fo' s i c) := findP_congr fun f hf' => by
        have hfN := List.mem_range.1 hf'
        unfold prC
        rw [rch_congr he hf _ _ f hfN]
        by_cases h0 : i = 0
        · rw [h0]; show (_ && bg f) = (_ && bg' f); rw [hb f hfN]
        · have hcN : c.getD (i - 1) 0 < N := hm _ (by rw [List.getD_eq_getElem?_getD, List.getElem?_eq_getElem (show i - 1 < c.length by omega)]; exact List.getElem_mem _)
          rw [show (i == 0) = false by simpa using h0, cond_false, cond_false, hf _ _ f hcN hfN]
      rw [this]
theorem shV_congr (hb : ∀ f, f < N → bg f = bg' f) (he : ∀ f, f < N → en f = en' f) (hf : ∀ i f g, f < N → g < N → fo i f g = fo' i f g) (least most : Nat) : shV N bg en fo least most = shV N bg' en' fo' least most := by
  unfold shV tryS
  congr 1
  funext t
  exact chq_congr hb he hf _ _
end
section
variable {N : Nat} {en : Nat → Bool} {fo : Nat → Nat → Nat → Bool} (hp : ∀ i f g, fo i f g = fo (i % 2) f g)
include hp
theorem rch_fr : ∀ (k i f e : Nat), k ≤ e → rch N en fo k i f = true → 0 ≤ fr N en fo e (i % 2) f ∧ fr N en fo e (i % 2) f ≤ (k : Int)
  | 0, i, f, e, he, h => by
    have h0 : fr N en fo 0 (i % 2) f = 0 := by
      have : en f = true := h
      unfold fr; rw [this]; rfl
    rw [fr_le N en fo (d := 0) (by omega) he, h0]
    exact ⟨by decide, by decide⟩
  | k + 1, i, f, e, he, h => by
    rw [rch] at h
    obtain ⟨g, hg, hgp⟩ := List.any_eq_true.1 h
    rw [Bool.and_eq_true] at hgp
    obtain ⟨h1, h2⟩ := rch_fr k (i + 1) g k (Nat.le_refl _) hgp.1
    obtain ⟨k', hk'⟩ : ∃ k' : Nat, fr N en fo k ((i + 1) % 2) g = (k' : Int) := ⟨(fr N en fo k ((i + 1) % 2) g).toNat, by omega⟩
    have hv := fr_val N en fo hk'
    have hkk : k' ≤ k := by omega
    have key : 0 ≤ fr N en fo (k' + 1) (i % 2) f ∧ fr N en fo (k' + 1) (i % 2) f ≤ (k' : Int) + 1 := by
      by_cases h0 : 0 ≤ fr N en fo k' (i % 2) f
      · rw [fr_keep N en fo h0]
        have := (fr_range N en fo k' (i % 2) f).2
        exact ⟨h0, by omega⟩
      · rw [fr_neg N en fo (by omega), List.any_eq_true.2 ⟨g, hg, by rw [par_next, hv, ← hp, hgp.2]; simp⟩, cond_true]
        omega
    rw [fr_le N en fo (d := k' + 1) key.1 (by omega)]
    omega
theorem fr_rch : ∀ (k i f e : Nat), fr N en fo e (i % 2) f = (k : Int) → rch N en fo k i f = true
  | 0, i, f, e, h => by
    have h1 := fr_val N en fo h
    unfold fr at h1
    show en f = true
    cases hh : en f with
    | true => rfl
    | false => rw [hh, cond_false] at h1; cases h1
  | k + 1, i, f, e, h => by
    obtain ⟨g, hg, hgm, hgv⟩ := fr_pred N en fo h
    rw [par_next] at hgv
    rw [rch, List.any_eq_true]
    exact ⟨g, List.mem_range.2 hg, by rw [fr_rch k (i + 1) g e hgv, hp, hgm]; rfl⟩
theorem rch_iff {k i f e : Nat} (he : k ≤ e) (hmin : ∀ j, j < k → rch N en fo j i f = false) : rch N en fo k i f = decide (fr N en fo e (i % 2) f = (k : Int)) := by
  cases h : rch N en fo k i f with
  | true =>
    obtain ⟨h1, h2⟩ := rch_fr hp k i f e he h
    obtain ⟨j, hj⟩ : ∃ j : Nat, fr N en fo e (i % 2) f = (j : Int) := ⟨(fr N en fo e (i % 2) f).toNat, by omega⟩
    have hr := fr_rch hp j i f e hj
    rcases Nat.lt_or_ge j k with h' | h'
    · rw [hmin j h'] at hr; cases hr
    · rw [hj, show j = k by omega]; exact (decide_eq_true rfl).symm
  | false =>
    refine (decide_eq_false fun h' => ?_).symm
    rw [fr_rch hp k i f e h'] at h; cases h
end
theorem best_le {N : Nat} {to : Nat → Bool} {may : Nat → Nat → Nat → Bool} {d : Nat} {F : List Nat} {x : Nat} (hx : x ∈ F) (h : 0 ≤ fr N to may d 0 x) : 0 ≤ bestF N to may F d ∧ bestF N to may F d ≤ fr N to may d 0 x := by
  have key : ∀ (F : List Nat) (b0 : Int), (0 ≤ b0 → 0 ≤ (F.foldl (fun b x => bif decide (0 ≤ fr N to may d 0 x) && (decide (b < 0) || decide (fr N to may d 0 x < b)) then fr N to may d 0 x else b) b0) ∧ (F.foldl (fun b x => bif decide (0 ≤ fr N to may d 0 x) && (decide (b < 0) || decide (fr N to may d 0 x < b)) then fr N to may d 0 x else b) b0) ≤ b0) ∧
      (x ∈ F → 0 ≤ (F.foldl (fun b x => bif decide (0 ≤ fr N to may d 0 x) && (decide (b < 0) || decide (fr N to may d 0 x < b)) then fr N to may d 0 x else b) b0) ∧ (F.foldl (fun b x => bif decide (0 ≤ fr N to may d 0 x) && (decide (b < 0) || decide (fr N to may d 0 x < b)) then fr N to may d 0 x else b) b0) ≤ fr N to may d 0 x) := by
    intro F
    induction F with
    | nil => exact fun b0 => ⟨fun h => ⟨h, Int.le_refl _⟩, fun h => by cases h⟩
    | cons y F ih =>
      intro b0
      rw [List.foldl_cons]
      obtain ⟨i1, i2⟩ := ih (bif decide (0 ≤ fr N to may d 0 y) && (decide (b0 < 0) || decide (fr N to may d 0 y < b0)) then fr N to may d 0 y else b0)
      by_cases c1 : 0 ≤ fr N to may d 0 y
      · by_cases c2 : b0 < 0 ∨ fr N to may d 0 y < b0
        · have hb : (decide (0 ≤ fr N to may d 0 y) && (decide (b0 < 0) || decide (fr N to may d 0 y < b0))) = true := by
            rw [decide_eq_true c1, Bool.true_and, Bool.or_eq_true, decide_eq_true_eq, decide_eq_true_eq]; exact c2
          rw [hb, cond_true] at i1 i2 ⊢
          refine ⟨fun h => ?_, fun hm => ?_⟩
          · have := i1 c1; omega
          · rcases List.mem_cons.1 hm with rfl | hm
            · exact i1 c1
            · exact i2 hm
        · have hb : (decide (0 ≤ fr N to may d 0 y) && (decide (b0 < 0) || decide (fr N to may d 0 y < b0))) = false := by
            rw [decide_eq_true c1, decide_eq_false (fun h => c2 (.inl h)), decide_eq_false (fun h => c2 (.inr h))]; rfl
          rw [hb, cond_false] at i1 i2 ⊢
          refine ⟨i1, fun hm => ?_⟩
          rcases List.mem_cons.1 hm with rfl | hm
          · have := i1 (by omega); omega
          · exact i2 hm
      · have hb : (decide (0 ≤ fr N to may d 0 y) && (decide (b0 < 0) || decide (fr N to may d 0 y < b0))) = false := by rw [decide_eq_false c1]; rfl
        rw [hb, cond_false] at i1 i2 ⊢
        refine ⟨i1, fun hm => ?_⟩
        rcases List.mem_cons.1 hm with rfl | hm
        · omega
        · exact i2 hm
  exact (key F (-1)).2 hx
theorem chain_same {N : Nat} {bg en : Nat → Bool} {fo : Nat → Nat → Nat → Bool} (hp : ∀ i f g, fo i f g = fo (i % 2) f g) (least most : Nat) (h0 : least = 1 ∨ least = 2 ∧ ∀ f, f < N → bg f = true → en f = false) :
    shV N bg en fo least (most + 1) = bif (chainW N en fo ((List.range N).filter bg) most).2 then some (chainW N en fo ((List.range N).filter bg) most).1 else none := by
  obtain ⟨F, hF⟩ : ∃ F, F = (List.range N).filter bg := ⟨_, rfl⟩
  rw [← hF]
  have hFm : ∀ x, x ∈ F ↔ x < N ∧ bg x = true := fun x => by rw [hF, List.mem_filter, List.mem_range]
  obtain ⟨b, hb⟩ : ∃ b, b = bestF N en fo F most := ⟨_, rfl⟩
  have hcw : chainW N en fo F most = bif decide (b < 0) then ([], false) else (pathW N en fo most b.toNat 0 ((F.find? fun x => decide (fr N en fo most 0 x = b)).getD 0), true) := by rw [hb]; rfl
  have hstart : ∀ s, 0 < s → chq N bg en fo s 1 = ((List.range N).find? fun f => rch N en fo (s - 1) 0 f && bg f).map fun f => [f] := fun s _ => rfl
  have hnoS : ∀ s, 0 < s → s ≤ most + 1 → (b < 0 ∨ ((s - 1 : Nat) : Int) < b) → tryS N bg en fo s = none := fun s hs hsm h => by
    refine chq_none N bg en fo (i := 1) ?_ hs
    rw [hstart s hs, find_none fun f hf => ?_]; rfl
    cases hbf : bg f with
    | false => rw [Bool.and_false]
    | true =>
      cases hr : rch N en fo (s - 1) 0 f with
      | false => rfl
      | true =>
        obtain ⟨r1, r2⟩ := rch_fr hp (s - 1) 0 f most (by omega) hr
        obtain ⟨b1, b2⟩ := best_le (d := most) ((hFm f).2 ⟨hf, hbf⟩) r1
        rw [← hb] at b1 b2
        exfalso
        have r2' : fr N en fo most 0 f ≤ ((s - 1 : Nat) : Int) := r2
        omega
  rw [hcw]
  by_cases hb0 : b < 0
  · rw [decide_eq_true hb0, cond_true]
    unfold shV
    show _ = none
    rw [List.findSome?_eq_none_iff]
    intro t ht
    have := List.mem_range.1 ht
    exact hnoS _ (by omega) (by omega) (.inl hb0)
  · rw [decide_eq_false hb0, cond_false]
    obtain ⟨x1, hx1, hx1b⟩ := bestF_in N en fo F most (by rw [← hb]; omega)
    rw [← hb] at hx1b
    obtain ⟨bN, hbN⟩ : ∃ bN : Nat, b = (bN : Int) := ⟨b.toNat, by omega⟩
    have hbm : bN ≤ most := by have := (fr_range N en fo most 0 x1).2; omega
    have hle : least ≤ bN + 1 := by
      rcases h0 with rfl | ⟨rfl, h0⟩
      · omega
      · have : bN ≠ 0 := fun h => by
          obtain ⟨c1, c2⟩ := (hFm x1).1 hx1
          have h1 := fr_rch hp 0 0 x1 most (by show fr N en fo most 0 x1 = _; rw [hx1b, hbN, h])
          have h2 : en x1 = true := h1
          rw [h0 x1 c1 c2] at h2; cases h2
        omega
    refine findSome_at (t := bN + 1 - least) ?_ ?_ (by omega)
    · rw [List.findSome?_eq_none_iff]
      intro t ht
      have := List.mem_range.1 ht
      exact hnoS _ (by rcases h0 with rfl | ⟨rfl, -⟩ <;> omega) (by omega) (.inr (by omega))
    · rw [show least + (bN + 1 - least) = bN + 1 by omega, hbN, Int.toNat_natCast]
      have hmn : ∀ f, f < N → bg f = true → rch N en fo bN 0 f = decide (fr N en fo most 0 f = (bN : Int)) := fun f hf hbf => by
        refine rch_iff hp (i := 0) hbm fun j hj => ?_
        cases hr : rch N en fo j 0 f with
        | false => rfl
        | true =>
          obtain ⟨r1, r2⟩ := rch_fr hp j 0 f most (by omega) hr
          obtain ⟨b1, b2⟩ := best_le (d := most) ((hFm f).2 ⟨hf, hbf⟩) r1
          rw [← hb] at b1 b2
          exfalso
          have r2' : fr N en fo most 0 f ≤ (j : Int) := r2
          omega
      have hfind : ((List.range N).find? fun f => rch N en fo bN 0 f && bg f) = F.find? fun x => decide (fr N en fo most 0 x = (bN : Int)) := by
        rw [hF, List.find?_filter]
        refine findP_congr fun f hf => ?_
        have hfN := List.mem_range.1 hf
        cases hbf : bg f with
        | false => simp
        | true => rw [hmn f hfN hbf]; simp
      obtain ⟨x0, hx0⟩ : ∃ x0, (F.find? fun x => decide (fr N en fo most 0 x = (bN : Int))) = some x0 := by
        cases hfd : F.find? fun x => decide (fr N en fo most 0 x = (bN : Int)) with
        | none => exact absurd (decide_eq_true (hbN ▸ hx1b)) (List.find?_eq_none.1 hfd x1 hx1)
        | some x0 => exact ⟨x0, rfl⟩
      have hx0v : fr N en fo most 0 x0 = (bN : Int) := of_decide_eq_true (List.find?_some (p := fun x => decide (fr N en fo most 0 x = (bN : Int))) hx0)
      rw [hx0]
      rw [hx0] at hfind
      show _ = some (pathW N en fo most bN 0 x0)
      obtain ⟨Pw, hPw⟩ : ∃ Pw, Pw = pathW N en fo most bN 0 x0 := ⟨_, rfl⟩
      rw [← hPw]
      have key : ∀ i, i ≤ bN → ∃ C, chq N bg en fo (bN + 1) (i + 1) = some C ∧ fr N en fo most (i % 2) (C.getD i 0) = ((bN - i : Nat) : Int) ∧ Pw = C.take i ++ pathW N en fo most (bN - i) i (C.getD i 0) := by
        intro i
        induction i with
        | zero =>
          intro _
          exact ⟨[x0], by rw [hstart (bN + 1) (by omega), Nat.add_sub_cancel, hfind]; rfl, by rw [Nat.sub_zero]; exact hx0v, hPw⟩
        | succ i ih =>
          intro hi
          obtain ⟨C, c1, c2, c3⟩ := ih (by omega)
          obtain ⟨hl, hm⟩ := chq_len N bg en fo c1
          have hpr : ∃ g, g < N ∧ nxG N en fo most i (C.getD i 0) g = true := by
            obtain ⟨g, hg1, hg2, hg3⟩ := fr_pred N en fo (e := most) (i := i % 2) (f := C.getD i 0) (k := bN - i - 1) (by rw [c2]; omega)
            exact ⟨g, hg1, by unfold nxG; rw [hg2, hg3, c2]; simp; omega⟩
          obtain ⟨g1, hg1N, hg1p, hg1n⟩ := least_ex hpr
          have hfd := find_at hg1n hg1p hg1N
          have hg1v : fr N en fo most ((i + 1) % 2) g1 = ((bN - (i + 1) : Nat) : Int) := by
            unfold nxG at hg1p
            rw [Bool.and_eq_true, decide_eq_true_eq, par_next, c2] at hg1p
            rw [hg1p.2]; omega
          have hgt : (C ++ [g1]).getD (i + 1) 0 = g1 := by rw [List.getD_eq_getElem?_getD, List.getElem?_append_right (by omega), hl, Nat.sub_self]; rfl
          have hCt : C.take i ++ [C.getD i 0] = C := by rw [← take_snoc 0 (show i < C.length by omega), List.take_of_length_le (by omega)]
          refine ⟨C ++ [g1], ?_, by rw [hgt]; exact hg1v, ?_⟩
          · rw [chq, c1, Option.bind_some]
            have : (List.range N).find? (prC N bg en fo (bN + 1) (i + 1) C) = (List.range N).find? (nxG N en fo most i (C.getD i 0)) := findP_congr fun f hf => by
              have hfN := List.mem_range.1 hf
              unfold prC nxG
              rw [show (i + 1 == 0) = false from rfl, cond_false, show i + 1 - 1 = i by omega, show bN + 1 - 1 - (i + 1) = bN - (i + 1) by omega, hp i, par_next, c2]
              cases hfo : fo (i % 2) (C.getD i 0) f with
              | false => rw [Bool.and_false, Bool.false_and]
              | true =>
                rw [Bool.and_true, Bool.true_and]
                rw [rch_iff hp (k := bN - (i + 1)) (i := i + 1) (f := f) (e := most) (by omega) fun j hj => ?_]
                · exact decide_eq_decide.2 (by omega)
                · cases hr : rch N en fo j (i + 1) f with
                  | false => rfl
                  | true =>
                    have h1 : rch N en fo (j + 1) i (C.getD i 0) = true := by
                      rw [rch, List.any_eq_true]
                      exact ⟨f, hf, by rw [hr, hp, hfo]; rfl⟩
                    have h2 := (rch_fr hp (j + 1) i (C.getD i 0) most (by omega) h1).2
                    rw [c2] at h2
                    omega
            rw [this, hfd]; rfl
          · rw [hgt, List.take_left' hl, c3]
            rw [show bN - i = (bN - (i + 1)) + 1 by omega, pathW, hfd]
            conv => rhs; rw [← hCt]
            rw [List.append_assoc]; rfl
      obtain ⟨C, c1, -, c3⟩ := key bN (Nat.le_refl _)
      obtain ⟨hl, -⟩ := chq_len N bg en fo c1
      rw [Nat.sub_self, pathW, ← take_snoc 0 (show bN < C.length by omega), List.take_of_length_le (by omega)] at c3
      rw [c3]; exact c1
end Go.Proofs.YtlgfniaakjchgaaGreat
