/- Downsets: their lists in order; in a distributive lattice those of the points are as many as the elements. No program here. -/
import Derived.Test.YtbfmjknngofleaaGreatKSf
namespace Go.Proofs.YtbfmjknngofleaaGreat
theorem fold_join {rows : List (List Int)} (L : Lat rows) : ∀ (l : List Int) (t : Int), inR rows t → (∀ x ∈ l, inR rows x) →
    inR rows (l.foldl (joinL rows) t) ∧ leqB rows t (l.foldl (joinL rows) t) = true ∧ (∀ s ∈ l, leqB rows s (l.foldl (joinL rows) t) = true) ∧ ∀ z, inR rows z → leqB rows t z = true → (∀ s ∈ l, leqB rows s z = true) → leqB rows (l.foldl (joinL rows) t) z = true
  | [], t, ht, _ => ⟨ht, L.refl t ht, fun s hs => absurd hs (by simp), fun z _ h _ => h⟩
  | a :: l, t, ht, hl => by
    have ha := hl a (List.mem_cons_self ..)
    have hm := L.joinR t a ht ha
    obtain ⟨i1, i2, i3, i4⟩ := fold_join L l (joinL rows t a) hm fun x hx => hl x (List.mem_cons_of_mem _ hx)
    rw [List.foldl_cons]
    refine ⟨i1, L.trans _ _ _ ht hm i1 (L.join1 t a ht ha) i2, fun s hs => ?_, fun z hz h1 h2 => i4 z hz (L.joinG _ _ _ ht ha hz h1 (h2 a (List.mem_cons_self ..))) fun s hs => h2 s (List.mem_cons_of_mem _ hs)⟩
    rcases List.mem_cons.1 hs with rfl | hs
    · exact L.trans _ _ _ ha hm i1 (L.join2 t s ht ha) i2
    · exact i3 s hs
end Go.Proofs.YtbfmjknngofleaaGreat
