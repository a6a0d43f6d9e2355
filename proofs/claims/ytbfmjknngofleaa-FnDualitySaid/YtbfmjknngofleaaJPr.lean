/- The layer, more: slices of slices that are known by value. -/
import Derived.Test.YtbfmjknngofleaaJPq
namespace Go.Pv
open Go
attribute [local semireducible] Go.Pv.PStep

section
variable {P : Program} {o : Oper} {ev : Operand → PV} {hp : List HO}
theorem elem_slT {t e : TypeId} {s by_ : Nat} (ht : SlT P t e s by_) : P.elem t = e := by
  simp [Program.elem, ht.hu]
theorem run_to {t e : TypeId} {s by_ : Nat} (ht : SlT P t e s by_) {x y : Operand} {av : Operand → Value} {a : Option Addr} {n cap : Nat} {k : Int} (ho : o.op = .slice t x none (some y) none) (ea : av x = .slice a n cap) (e2 : av y = .int .i64 k) (h0 : 0 ≤ k) (hk : k ≤ (cap : Int)) (w : World) :
    (execOp av o).run P w = .ok (.value (sliced a 0 k.toNat cap s)) w := by
  have hel := elem_slT ht
  have hu : P.underlying t = some (.slice (P.elem t)) := by rw [hel]; exact ht.hu
  have hsz := ht.hs w
  rw [← hel] at hsz
  have hr : (Instr.sliceAt t (av x) none (some (av y)) none).run P w = .ok (sliced a 0 k.toNat cap s) w := by
    rw [ea, e2, run_sliceAt_slice (h := hu), run_slice_h w t a n cap hu _ _ h0 hk, hsz]; rfl
  simp only [execOp, ho]
  exact run_value hr
theorem run_from {t e : TypeId} {s by_ : Nat} (ht : SlT P t e s by_) {x y : Operand} {av : Operand → Value} {a : Option Addr} {n cap : Nat} {k : Int} (ho : o.op = .slice t x (some y) none none) (ea : av x = .slice a n cap) (e2 : av y = .int .i64 k) (h0 : 0 ≤ k) (hk : k ≤ (n : Int)) (w : World) :
    (execOp av o).run P w = .ok (.value (sliced a k.toNat n cap s)) w := by
  have hel := elem_slT ht
  have hu : P.underlying t = some (.slice (P.elem t)) := by rw [hel]; exact ht.hu
  have hsz := ht.hs w
  rw [← hel] at hsz
  have hr : (Instr.sliceAt t (av x) (some (av y)) none none).run P w = .ok (sliced a k.toNat n cap s) w := by
    rw [ea, e2, run_sliceAt_slice (h := hu), run_slice_l w t a n cap hu _ _ h0 hk, hsz]; rfl
  simp only [execOp, ho]
  exact run_value hr
theorem ps_sliceTo {t e : TypeId} {s by_ : Nat} [ht : SlT P t e s by_] {x y : Operand} {nn : Option Bool} {l : List PV} {k : Int} (ho : o.op = .slice t x none (some y) none) (h1 : view hp (ev x) = .sl s nn l) (h2 : ev y = I k) (h0 : 0 ≤ k) (hk : k ≤ (l.length : Int)) :
    PStep P o ev hp (.sl s none (l.take k.toNat)) :=
  .of_run fun w0 g ρ w av hb hx => by
    have e1 := hb.view (hx x (by simp [ho, Op.operands]))
    have e2 := val_of (hx y (by simp [ho, Op.operands])) h2
    rw [h1] at e1
    rcases VR.sl_inv e1 with ⟨ea, rfl, _⟩ | ⟨a, cap, ea, rfl, _⟩ | ⟨b, off, cap, cc, cs, ea, hs, hnn, hcap, hmax, hf, hg, hv⟩
    · have hk0 : k = 0 := by simp at hk; omega
      subst hk0
      exact ⟨.slice none 0 0, (run_to ht ho ea e2 (by omega) (by omega) w).trans (by simp [sliced]), .of_VR (.nilsl _ _ (by simp))⟩
    · have hk0 : k = 0 := by simp at hk; omega
      subst hk0
      exact ⟨.slice (some (if cap = 0 then a else a.add 0)) 0 cap, (run_to ht ho ea e2 (by omega) (by omega) w).trans (by simp only [sliced, Int.toNat_zero]; split <;> simp_all), .of_VR (.esl _ _ _ _ (by simp))⟩
    · refine ⟨.slice (some ⟨b, off, none⟩) k.toNat cap, ?_, ?_⟩
      · exact (run_to ht ho ea e2 h0 (by omega) w).trans (by simp only [sliced]; split <;> simp [Addr.add_n])
      · have hl : (l.take k.toNat).length = k.toNat := by simp; omega
        have := VR.sl (g := g) s none b off cap (l.take k.toNat) cc cs hs (by simp) (by omega) hmax (fun i p hi => hf i p (by rw [List.getElem?_take] at hi; split at hi; exact hi; cases hi)) (fun j hj => hg j (by rw [hl] at hj; exact Nat.lt_of_lt_of_le hj (Nat.mul_le_mul_right _ (by omega)))) (fun i j q hi hq => hv i j q (by omega) hq)
        rw [hl] at this
        exact .of_VR this
theorem ps_sliceFrom {t e : TypeId} {s by_ : Nat} [ht : SlT P t e s by_] {x y : Operand} {nn : Option Bool} {l : List PV} {k : Int} (ho : o.op = .slice t x (some y) none none) (h1 : view hp (ev x) = .sl s nn l) (h2 : ev y = I k) (h0 : 0 ≤ k) (hk : k ≤ (l.length : Int)) :
    PStep P o ev hp (.sl s none (l.drop k.toNat)) :=
  .of_run fun w0 g ρ w av hb hx => by
    have e1 := hb.view (hx x (by simp [ho, Op.operands]))
    have e2 := val_of (hx y (by simp [ho, Op.operands])) h2
    rw [h1] at e1
    rcases VR.sl_inv e1 with ⟨ea, rfl, _⟩ | ⟨a, cap, ea, rfl, _⟩ | ⟨b, off, cap, cc, cs, ea, hs, hnn, hcap, hmax, hf, hg, hv⟩
    · have hk0 : k = 0 := by simp at hk; omega
      subst hk0
      exact ⟨.slice none 0 0, (run_from ht ho ea e2 (by omega) (by omega) w).trans (by simp [sliced]), .of_VR (.nilsl _ _ (by simp))⟩
    · have hk0 : k = 0 := by simp at hk; omega
      subst hk0
      exact ⟨.slice (some (if cap = 0 then a else a.add 0)) 0 cap, (run_from ht ho ea e2 (by omega) (by omega) w).trans (by simp only [sliced, Int.toNat_zero]; split <;> simp_all), .of_VR (.esl _ _ _ _ (by simp))⟩
    · by_cases hc : cap = k.toNat
      · have hkl : k.toNat = l.length := by omega
        refine ⟨.slice (some ⟨b, off, none⟩) 0 0, ?_, .of_VR ?_⟩
        · exact (run_from ht ho ea e2 h0 hk w).trans (by rw [sliced, if_pos hc, hc, hkl]; simp)
        · rw [hkl, List.drop_length]; exact .esl _ _ _ _ (by simp)
      · refine ⟨.slice (some ⟨b, off + k.toNat * s, none⟩) (l.length - k.toNat) (cap - k.toNat), ?_, ?_⟩
        · exact (run_from ht ho ea e2 h0 hk w).trans (by rw [sliced, if_neg hc]; simp [Addr.add_n])
        · have hl : (l.drop k.toNat).length = l.length - k.toNat := by simp
          have := VR.sl (g := g) s none b (off + k.toNat * s) (cap - k.toNat) (l.drop k.toNat) (fun i => cc (k.toNat + i)) (fun j => cs (k.toNat * s + j)) hs (by simp) (by omega) (by omega) (fun i p hi => hf _ p (by rw [List.getElem?_drop] at hi; exact hi)) (fun j hj => by
              rw [Nat.add_assoc]
              refine hg _ ?_
              rw [hl, Nat.sub_mul] at hj
              omega) (fun i j q hi hq => by
              have := hv (k.toNat + i) j q (by omega) hq
              rwa [Nat.add_mul, Nat.add_assoc] at this)
          rw [hl] at this
          exact .of_VR this
theorem ps_sliceToM {α : Type} {f : α → PV} {t e : TypeId} {s by_ : Nat} [ht : SlT P t e s by_] {x y : Operand} {nn : Option Bool} {l : List α} {k : Int} (ho : o.op = .slice t x none (some y) none) (h1 : view hp (ev x) = .sl s nn (l.map f)) (h2 : ev y = I k) (h0 : 0 ≤ k) (hk : k ≤ (l.length : Int)) :
    PStep P o ev hp (.sl s none ((l.take k.toNat).map f)) := by
  rw [List.map_take]
  exact ps_sliceTo ho h1 h2 h0 (by simpa using hk)
theorem ps_sliceFromM {α : Type} {f : α → PV} {t e : TypeId} {s by_ : Nat} [ht : SlT P t e s by_] {x y : Operand} {nn : Option Bool} {l : List α} {k : Int} (ho : o.op = .slice t x (some y) none none) (h1 : view hp (ev x) = .sl s nn (l.map f)) (h2 : ev y = I k) (h0 : 0 ≤ k) (hk : k ≤ (l.length : Int)) :
    PStep P o ev hp (.sl s none ((l.drop k.toNat).map f)) := by
  rw [List.map_drop]
  exact ps_sliceFrom ho h1 h2 h0 (by simpa using hk)
theorem j_lit0 {t e : TypeId} {s by_ : Nat} [ht : SlT P t e s by_] {zs : List Value} [hz : ZeroT P e zs] (ho : o.op = .buildSlice t 0 #[]) (hs : 0 < s) : JStep P o ev hp (some hp.length) (killH hp.length hp ++ [.arr false s e []]) (.hp hp.length) := fun fr _ =>
  e_lit0 (S := ⟨fr, hp⟩) (ht := ht) ho hs
end
end Go.Pv
