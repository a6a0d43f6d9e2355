/- The order of lists by length, then by their members; lists in this order without repeats are determined by their members. No program here. -/
import Derived.Test.YtbfmjknngofleaaJSq
namespace Go.Proofs.Ytbfmjknngofleaa

def cmpL : List Int → List Int → Int
  | [], [] => 0
  | [], _ :: _ => -1
  | _ :: _, [] => 1
  | a :: s, b :: t => if a = b then cmpL s t else if a < b then -1 else 1
def cmpT (s t : List Int) : Int := if s.length < t.length then -1 else if t.length < s.length then 1 else cmpL s t
theorem cmpL_eq : ∀ {a b : List Int}, cmpL a b = 0 → a = b
  | [], [], _ => rfl
  | [], _ :: _, h => by simp [cmpL] at h
  | _ :: _, [], h => by simp [cmpL] at h
  | a :: s, b :: t, h => by
    simp only [cmpL] at h
    split at h
    · rename_i e; rw [e, cmpL_eq h]
    · split at h <;> simp at h
theorem cmpL_flip : ∀ (a b : List Int), cmpL b a = -cmpL a b
  | [], [] => rfl
  | [], _ :: _ => rfl
  | _ :: _, [] => rfl
  | a :: s, b :: t => by
    simp only [cmpL]
    by_cases e : a = b
    · rw [if_pos e, if_pos e.symm]; exact cmpL_flip s t
    · rw [if_neg e, if_neg (Ne.symm e)]
      by_cases h : a < b
      · rw [if_pos h, if_neg (by omega)]; rfl
      · rw [if_neg h, if_pos (by omega)]
theorem cmpL_trans : ∀ {a b c : List Int}, cmpL a b < 0 → cmpL b c < 0 → cmpL a c < 0
  | [], [], _, h, _ => by simp [cmpL] at h
  | [], _ :: _, [], _, h => by simp [cmpL] at h
  | [], _ :: _, _ :: _, _, _ => by simp [cmpL]
  | _ :: _, [], _, h, _ => by simp [cmpL] at h
  | _ :: _, _ :: _, [], _, h => by simp [cmpL] at h
  | a :: s, b :: t, c :: u, h1, h2 => by
    simp only [cmpL] at *
    by_cases e1 : a = b
    · subst e1
      rw [if_pos rfl] at h1
      by_cases e2 : a = c
      · subst e2
        rw [if_pos rfl] at h2 ⊢
        exact cmpL_trans h1 h2
      · rw [if_neg e2] at h2 ⊢; exact h2
    · rw [if_neg e1] at h1
      have hab : a < b := by
        by_cases h : a < b
        · exact h
        · rw [if_neg h] at h1; omega
      by_cases e2 : b = c
      · subst e2
        rw [if_neg e1, if_pos hab]; decide
      · rw [if_neg e2] at h2
        have hbc : b < c := by
          by_cases h : b < c
          · exact h
          · rw [if_neg h] at h2; omega
        rw [if_neg (by omega), if_pos (by omega)]; decide
theorem cmpT_eq {a b : List Int} (h : cmpT a b = 0) : a = b := by
  unfold cmpT at h
  split at h
  · omega
  · split at h
    · omega
    · exact cmpL_eq h
theorem cmpT_flip (a b : List Int) : cmpT b a = -cmpT a b := by
  unfold cmpT
  by_cases h1 : a.length < b.length
  · rw [if_pos h1, if_neg (by omega), if_pos h1]; rfl
  · by_cases h2 : b.length < a.length
    · simp only [if_neg h1, if_pos h2]
    · rw [if_neg h1, if_neg h2, if_neg h2, if_neg h1]; exact cmpL_flip a b
theorem cmpT_trans {a b c : List Int} (h1 : cmpT a b < 0) (h2 : cmpT b c < 0) : cmpT a c < 0 := by
  have key : ∀ {x y : List Int}, cmpT x y < 0 ↔ x.length < y.length ∨ (x.length = y.length ∧ cmpL x y < 0) := fun {x y} => by
    unfold cmpT
    by_cases e1 : x.length < y.length
    · rw [if_pos e1]; simp [e1]
    · by_cases e2 : y.length < x.length
      · rw [if_neg e1, if_pos e2]; constructor
        · intro h; omega
        · intro h; omega
      · rw [if_neg e1, if_neg e2]; constructor
        · intro h; exact .inr ⟨by omega, h⟩
        · rintro (h | h); omega; exact h.2
  rw [key] at *
  rcases h1 with h1 | ⟨e1, h1⟩ <;> rcases h2 with h2 | ⟨e2, h2⟩
  · left; omega
  · left; omega
  · left; omega
  · exact .inr ⟨by omega, cmpL_trans h1 h2⟩
/-- In order, each before the next. -/
def Asc (l : List (List Int)) : Prop := l.Pairwise fun a b => cmpT a b < 0
/-- Two lists of lists in this order (the one perhaps with repeats) that have the same members are the same. -/
theorem asc_unique : ∀ (V W : List (List Int)), Asc V → W.Pairwise (fun a b => ¬ cmpT b a < 0) → W.Perm V → W = V
  | [], W, _, _, hp => List.Perm.eq_nil hp
  | v :: V, [], _, _, hp => by simpa using hp.length_eq
  | v :: V, w :: W, hV, hW, hp => by
    have hv := List.pairwise_cons.1 hV
    have hw := List.pairwise_cons.1 hW
    have e : w = v := by
      have h1 : w ∈ v :: V := hp.subset (List.mem_cons_self ..)
      have h2 : v ∈ w :: W := hp.symm.subset (List.mem_cons_self ..)
      rcases List.mem_cons.1 h1 with h | h
      · exact h
      · rcases List.mem_cons.1 h2 with h' | h'
        · exact h'.symm
        · exact absurd (hv.1 w h) (hw.1 v h')
    subst e
    rw [asc_unique V W hv.2 hw.2 (List.Perm.cons_inv hp)]
theorem asc_ins {l : List (List Int)} {x : List Int} {k : Nat} (hl : Asc l) (hx : x ∉ l) (hk : k ≤ l.length) (h1 : ∀ j, k ≤ j → j < l.length → cmpT x (l.getD j []) < 0) (h2 : k = 0 ∨ ¬ cmpT x (l.getD (k - 1) []) < 0) : Asc (l.take k ++ x :: l.drop k) := by
  have hp := List.pairwise_iff_getElem.1 hl
  have hmem : ∀ i, i < l.length → l.getD i [] ∈ l := fun i hi => by rw [List.getD_eq_getElem?_getD, List.getElem?_eq_getElem hi]; exact List.getElem_mem hi
  have hlt : ∀ i j, i < j → j < l.length → cmpT (l.getD i []) (l.getD j []) < 0 := fun i j hij hj => by
    rw [List.getD_eq_getElem?_getD, List.getD_eq_getElem?_getD, List.getElem?_eq_getElem hj, List.getElem?_eq_getElem (by omega)]
    exact hp i j (by omega) hj hij
  have hlow : ∀ i, i < k → cmpT (l.getD i []) x < 0 := fun i hi => by
    have h0 := h2.resolve_left (by omega)
    have hne : cmpT x (l.getD (k - 1) []) ≠ 0 := fun e => hx (by rw [cmpT_eq e]; exact hmem _ (by omega))
    have hf := cmpT_flip x (l.getD (k - 1) [])
    have hkx : cmpT (l.getD (k - 1) []) x < 0 := by omega
    by_cases e : i = k - 1
    · rw [e]; exact hkx
    · exact cmpT_trans (hlt i (k - 1) (by omega) (by omega)) hkx
  have ht : ∀ a ∈ l.take k, ∃ i, i < k ∧ a = l.getD i [] := fun a ha => by
    obtain ⟨i, hi, rfl⟩ := List.getElem_of_mem ha
    simp only [List.length_take] at hi
    exact ⟨i, by omega, by rw [List.getElem_take, List.getD_eq_getElem?_getD, List.getElem?_eq_getElem (by omega)]; rfl⟩
  have hd : ∀ b ∈ l.drop k, ∃ j, k ≤ j ∧ j < l.length ∧ b = l.getD j [] := fun b hb => by
    obtain ⟨j, hj, rfl⟩ := List.getElem_of_mem hb
    simp only [List.length_drop] at hj
    exact ⟨k + j, by omega, by omega, by rw [List.getElem_drop, List.getD_eq_getElem?_getD, List.getElem?_eq_getElem (by omega)]; rfl⟩
  unfold Asc at *
  refine List.pairwise_append.2 ⟨hl.sublist (List.take_sublist k l), List.pairwise_cons.2 ⟨fun b hb => ?_, hl.sublist (List.drop_sublist k l)⟩, fun a ha b hb => ?_⟩
  · obtain ⟨j, j1, j2, rfl⟩ := hd b hb
    exact h1 j j1 j2
  · obtain ⟨i, hi, rfl⟩ := ht a ha
    rcases List.mem_cons.1 hb with rfl | hb
    · exact hlow i hi
    · obtain ⟨j, j1, j2, rfl⟩ := hd b hb
      exact hlt i j (by omega) j2
def insL (x : List Int) : List (List Int) → List (List Int)
  | [] => [x]
  | y :: l => if cmpT x y < 0 then x :: y :: l else y :: insL x l
theorem insL_perm (x : List Int) : ∀ l, (insL x l).Perm (x :: l)
  | [] => List.Perm.refl _
  | y :: l => by
    simp only [insL]
    split
    · exact List.Perm.refl _
    · exact ((insL_perm x l).cons y).trans (List.Perm.swap x y l)
theorem insL_asc {x : List Int} : ∀ {l : List (List Int)}, Asc l → x ∉ l → Asc (insL x l)
  | [], _, _ => List.pairwise_singleton _ _
  | y :: l, hl, hx => by
    have hy := List.pairwise_cons.1 hl
    simp only [insL]
    split
    · rename_i h
      refine List.pairwise_cons.2 ⟨fun b hb => ?_, hl⟩
      rcases List.mem_cons.1 hb with rfl | hb
      · exact h
      · exact cmpT_trans h (hy.1 b hb)
    · rename_i h
      have hf := cmpT_flip x y
      have hne : cmpT x y ≠ 0 := fun e => hx (by rw [cmpT_eq e]; exact List.mem_cons_self ..)
      refine List.pairwise_cons.2 ⟨fun b hb => ?_, insL_asc hy.2 fun h' => hx (List.mem_cons_of_mem _ h')⟩
      rcases List.mem_cons.1 ((insL_perm x l).subset hb) with rfl | hb
      · omega
      · exact hy.1 b hb
/-- A list of lists, put in order. -/
def ordL (l : List (List Int)) : List (List Int) := l.foldr insL []
theorem ordL_perm : ∀ l, (ordL l).Perm l
  | [] => List.Perm.refl _
  | x :: l => (insL_perm x (ordL l)).trans ((ordL_perm l).cons x)
theorem ordL_asc : ∀ {l : List (List Int)}, l.Nodup → Asc (ordL l)
  | [], _ => List.Pairwise.nil
  | x :: l, h => insL_asc (ordL_asc (List.nodup_cons.1 h).2) fun h' => (List.nodup_cons.1 h).1 ((ordL_perm l).subset h')
theorem asc_irrefl {l : List (List Int)} (h : Asc l) : l.Pairwise fun a b => ¬ cmpT b a < 0 := List.Pairwise.imp (fun {a b} h => by have := cmpT_flip a b; omega) h
end Go.Proofs.Ytbfmjknngofleaa
