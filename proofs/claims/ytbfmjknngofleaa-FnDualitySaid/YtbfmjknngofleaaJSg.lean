/- Downsets: their lists in order; in a distributive lattice those of the points are as many as the elements. No program here. -/
import Derived.Test.YtbfmjknngofleaaJSf
namespace Go.Proofs.Ytbfmjknngofleaa

/-- The downset of a list. -/
def dnL (rows : List (List Int)) (l : List Int) : List Int := upTo rows.length fun y => l.any fun x => leqB rows (y : Int) x
def dnB (rows : List (List Int)) (l : List Int) : Bool := decide (dnL rows l = l)
def dsS (rows : List (List Int)) (k : Nat) : List (List Int) := ((List.range k).map fun b => bitL b rows.length).filter (dnB rows)
def dsO (rows : List (List Int)) : List (List Int) := ordL (dsS rows (2 ^ rows.length))
/-- Each below itself, all that is below within. -/
structure Rfl (rows : List (List Int)) : Prop where
  n : rows.length ≤ 10
  refl : ∀ x, inR rows x → leqB rows x x = true
  mem : ∀ x : Nat, x < rows.length → ∀ y ∈ rows.getD x [], inR rows y
theorem dsS_nodup (rows : List (List Int)) {k : Nat} (hk : k ≤ 2 ^ rows.length) : (dsS rows k).Nodup := by
  refine List.Nodup.sublist List.filter_sublist (nodup_map_on (fun a ha b hb h => ?_) List.nodup_range)
  have h1 := List.mem_range.1 ha
  have h2 := List.mem_range.1 hb
  exact bitL_inj (by omega) (by omega) h
theorem dsS_succ (rows : List (List Int)) (k : Nat) : dsS rows (k + 1) = dsS rows k ++ (if dnB rows (bitL k rows.length) = true then [bitL k rows.length] else []) := by
  unfold dsS
  rw [List.range_succ, List.map_append, List.filter_append]
  congr 1
  by_cases h : dnB rows (bitL k rows.length) = true
  · rw [if_pos h]; simp [h]
  · rw [if_neg h]; simp [h]
theorem dsS_len (rows : List (List Int)) (k : Nat) : (dsS rows k).length ≤ k := by
  unfold dsS
  exact Nat.le_trans (List.length_filter_le _ _) (by simp)
theorem dsS_mem {rows : List (List Int)} {k : Nat} {r : List Int} (h : r ∈ dsS rows k) : ∃ b, r = bitL b rows.length ∧ dnB rows r = true := by
  unfold dsS at h
  obtain ⟨h1, h2⟩ := List.mem_filter.1 h
  obtain ⟨b, -, rfl⟩ := List.mem_map.1 h1
  exact ⟨b, rfl, h2⟩
theorem dsS_row {rows : List (List Int)} {k : Nat} {r : List Int} (h : r ∈ dsS rows k) : r.length ≤ rows.length := by
  obtain ⟨b, rfl, -⟩ := dsS_mem h
  exact bitL_len _ _
theorem dsO_len (rows : List (List Int)) : (dsO rows).length = (dsS rows (2 ^ rows.length)).length := (ordL_perm _).length_eq
theorem dsO_mem {rows : List (List Int)} {r : List Int} : r ∈ dsO rows ↔ r ∈ dsS rows (2 ^ rows.length) := (ordL_perm _).mem_iff
theorem dsO_row {rows : List (List Int)} {r : List Int} (h : r ∈ dsO rows) : r.length ≤ rows.length := dsS_row (dsO_mem.1 h)

theorem fold_join {rows : List (List Int)} (L : Lat rows) : ∀ (l : List Int) (t : Int), inR rows t → (∀ x ∈ l, inR rows x) →
    inR rows (l.foldl (joinL rows) t) ∧ leqB rows t (l.foldl (joinL rows) t) = true ∧ (∀ s ∈ l, leqB rows s (l.foldl (joinL rows) t) = true) ∧ ∀ z, inR rows z → leqB rows t z = true → (∀ s ∈ l, leqB rows s z = true) → leqB rows (l.foldl (joinL rows) t) z = true
  | [], t, ht, _ => ⟨ht, L.refl t ht, fun s hs => absurd hs (by simp), fun z _ h _ => h⟩
  | a :: l, t, ht, hl => by
    have ha := hl a (List.mem_cons_self ..)
    have hm := L.joinR t a ht ha
    obtain ⟨i1, i2, i3, i4⟩ := fold_join L l (joinL rows t a) hm fun x hx => hl x (List.mem_cons_of_mem _ hx)
    rw [List.foldl_cons]
    refine ⟨i1, L.trans _ _ _ ht hm i1 (L.join1 t a ht ha) i2, fun s hs => ?_, fun z hz h1 h2 => i4 z hz (L.joinG _ _ _ ht ha hz h1 (h2 a (List.mem_cons_self ..))) fun s hs => h2 s (List.mem_cons_of_mem _ hs)⟩
    rcases List.mem_cons.1 hs with rfl | hs
    · exact L.trans _ _ _ ha hm i1 (L.join2 t s ht ha) i2
    · exact i3 s hs
/-- A prime element below a join of some is below one of them. -/
theorem prime_fold {rows : List (List Int)} (L : Lat rows) {j : Int} (hp : ∀ a b, inR rows a → inR rows b → leqB rows j (joinL rows a b) = true → leqB rows j a = true ∨ leqB rows j b = true) : ∀ (l : List Int) (t : Int), inR rows t → (∀ x ∈ l, inR rows x) → leqB rows j (l.foldl (joinL rows) t) = true → leqB rows j t = true ∨ ∃ x ∈ l, leqB rows j x = true
  | [], _, _, _, h => .inl h
  | a :: l, t, ht, hl, h => by
    have ha := hl a (List.mem_cons_self ..)
    rw [List.foldl_cons] at h
    rcases prime_fold L hp l _ (L.joinR t a ht ha) (fun x hx => hl x (List.mem_cons_of_mem _ hx)) h with h | ⟨x, hx, h⟩
    · rcases hp t a ht ha h with h | h
      · exact .inl h
      · exact .inr ⟨a, List.mem_cons_self .., h⟩
    · exact .inr ⟨x, List.mem_cons_of_mem _ hx, h⟩
end Go.Proofs.Ytbfmjknngofleaa
