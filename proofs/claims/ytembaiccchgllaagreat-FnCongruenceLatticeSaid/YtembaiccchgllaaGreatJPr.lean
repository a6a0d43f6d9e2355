/- The layer, more: slices of slices that are known by value. -/
import Derived.Test.YtembaiccchgllaaGreatJPq
import Derived.Test.YtembaiccchgllaaGreatJSq
set_option linter.unusedSectionVars false
namespace Go.Pv
open Go
attribute [local semireducible] Go.Pv.PStep

section
variable {P : Program} {o : Oper} {ev : Operand → PV} {hp : List HO}
theorem elem_slT {t e : TypeId} {s by_ : Nat} (ht : SlT P t e s by_) : P.elem t = e := by
  simp [Program.elem, ht.hu]
theorem run_to {t e : TypeId} {s by_ : Nat} (ht : SlT P t e s by_) {x y : Operand} {av : Operand → Value} {a : Option Addr} {n cap : Nat} {k : Int} (ho : o.op = .slice t x none (some y) none) (ea : av x = .slice a n cap) (e2 : av y = .int .i64 k) (h0 : 0 ≤ k) (hk : k ≤ (cap : Int)) (w : World) :
    (execOp av o).run P w = .ok (.value (sliced a 0 k.toNat cap s)) w := by
  have hel := elem_slT ht
  have hu : P.underlying t = some (.slice (P.elem t)) := by rw [hel]; exact ht.hu
  have hsz := ht.hs w
  rw [← hel] at hsz
  have hr : (Instr.sliceAt t (av x) none (some (av y)) none).run P w = .ok (sliced a 0 k.toNat cap s) w := by
    rw [ea, e2, run_sliceAt_slice (h := hu), run_slice_h w t a n cap hu _ _ h0 hk, hsz]; rfl
  simp only [execOp, ho]
  exact run_value hr
theorem run_from {t e : TypeId} {s by_ : Nat} (ht : SlT P t e s by_) {x y : Operand} {av : Operand → Value} {a : Option Addr} {n cap : Nat} {k : Int} (ho : o.op = .slice t x (some y) none none) (ea : av x = .slice a n cap) (e2 : av y = .int .i64 k) (h0 : 0 ≤ k) (hk : k ≤ (n : Int)) (w : World) :
    (execOp av o).run P w = .ok (.value (sliced a k.toNat n cap s)) w := by
  have hel := elem_slT ht
  have hu : P.underlying t = some (.slice (P.elem t)) := by rw [hel]; exact ht.hu
  have hsz := ht.hs w
  rw [← hel] at hsz
  have hr : (Instr.sliceAt t (av x) (some (av y)) none none).run P w = .ok (sliced a k.toNat n cap s) w := by
    rw [ea, e2, run_sliceAt_slice (h := hu), run_slice_l w t a n cap hu _ _ h0 hk, hsz]; rfl
  simp only [execOp, ho]
  exact run_value hr
theorem ps_sliceTo {t e : TypeId} {s by_ : Nat} [ht : SlT P t e s by_] {x y : Operand} {nn : Option Bool} {l : List PV} {k : Int} (ho : o.op = .slice t x none (some y) none) (h1 : view hp (ev x) = .sl s nn l) (h2 : ev y = I k) (h0 : 0 ≤ k) (hk : k ≤ (l.length : Int)) :
    PStep P o ev hp (.sl s none (l.take k.toNat)) :=
  .of_run fun w0 g ρ w av hb hx => by
    have e1 := hb.view (hx x (by simp [ho, Op.operands]))
    have e2 := val_of (hx y (by simp [ho, Op.operands])) h2
    rw [h1] at e1
    rcases VR.sl_inv e1 with ⟨ea, rfl, _⟩ | ⟨a, cap, ea, rfl, _⟩ | ⟨b, off, cap, cc, cs, ea, hs, hnn, hcap, hmax, hf, hg, hv⟩
    · have hk0 : k = 0 := by simp at hk; omega
      subst hk0
      exact ⟨.slice none 0 0, (run_to ht ho ea e2 (by omega) (by omega) w).trans (by simp [sliced]), .of_VR (.nilsl _ _ (by simp))⟩
    · have hk0 : k = 0 := by simp at hk; omega
      subst hk0
      exact ⟨.slice (some (if cap = 0 then a else a.add 0)) 0 cap, (run_to ht ho ea e2 (by omega) (by omega) w).trans (by simp only [sliced, Int.toNat_zero]; split <;> simp_all), .of_VR (.esl _ _ _ _ (by simp))⟩
    · refine ⟨.slice (some ⟨b, off, none⟩) k.toNat cap, ?_, ?_⟩
      · exact (run_to ht ho ea e2 h0 (by omega) w).trans (by simp only [sliced]; split <;> simp [Addr.add_n])
      · have hl : (l.take k.toNat).length = k.toNat := by simp; omega
        have := VR.sl (g := g) s none b off cap (l.take k.toNat) cc cs hs (by simp) (by omega) hmax (fun i p hi => hf i p (by rw [List.getElem?_take] at hi; split at hi; exact hi; cases hi)) (fun j hj => hg j (by rw [hl] at hj; exact Nat.lt_of_lt_of_le hj (Nat.mul_le_mul_right _ (by omega)))) (fun i j q hi hq => hv i j q (by omega) hq)
        rw [hl] at this
        exact .of_VR this
theorem ps_sliceFrom {t e : TypeId} {s by_ : Nat} [ht : SlT P t e s by_] {x y : Operand} {nn : Option Bool} {l : List PV} {k : Int} (ho : o.op = .slice t x (some y) none none) (h1 : view hp (ev x) = .sl s nn l) (h2 : ev y = I k) (h0 : 0 ≤ k) (hk : k ≤ (l.length : Int)) :
    PStep P o ev hp (.sl s none (l.drop k.toNat)) :=
  .of_run fun w0 g ρ w av hb hx => by
    have e1 := hb.view (hx x (by simp [ho, Op.operands]))
    have e2 := val_of (hx y (by simp [ho, Op.operands])) h2
    rw [h1] at e1
    rcases VR.sl_inv e1 with ⟨ea, rfl, _⟩ | ⟨a, cap, ea, rfl, _⟩ | ⟨b, off, cap, cc, cs, ea, hs, hnn, hcap, hmax, hf, hg, hv⟩
    · have hk0 : k = 0 := by simp at hk; omega
      subst hk0
      exact ⟨.slice none 0 0, (run_from ht ho ea e2 (by omega) (by omega) w).trans (by simp [sliced]), .of_VR (.nilsl _ _ (by simp))⟩
    · have hk0 : k = 0 := by simp at hk; omega
      subst hk0
      exact ⟨.slice (some (if cap = 0 then a else a.add 0)) 0 cap, (run_from ht ho ea e2 (by omega) (by omega) w).trans (by simp only [sliced, Int.toNat_zero]; split <;> simp_all), .of_VR (.esl _ _ _ _ (by simp))⟩
    · by_cases hc : cap = k.toNat
      · have hkl : k.toNat = l.length := by omega
        refine ⟨.slice (some ⟨b, off, none⟩) 0 0, ?_, .of_VR ?_⟩
        · exact (run_from ht ho ea e2 h0 hk w).trans (by rw [sliced, if_pos hc, hc, hkl]; simp)
        · rw [hkl, List.drop_length]; exact .esl _ _ _ _ (by simp)
      · refine ⟨.slice (some ⟨b, off + k.toNat * s, none⟩) (l.length - k.toNat) (cap - k.toNat), ?_, ?_⟩
        · exact (run_from ht ho ea e2 h0 hk w).trans (by rw [sliced, if_neg hc]; simp [Addr.add_n])
        · have hl : (l.drop k.toNat).length = l.length - k.toNat := by simp
          have := VR.sl (g := g) s none b (off + k.toNat * s) (cap - k.toNat) (l.drop k.toNat) (fun i => cc (k.toNat + i)) (fun j => cs (k.toNat * s + j)) hs (by simp) (by omega) (by omega) (fun i p hi => hf _ p (by rw [List.getElem?_drop] at hi; exact hi)) (fun j hj => by
              rw [Nat.add_assoc]
              refine hg _ ?_
              rw [hl, Nat.sub_mul] at hj
              omega) (fun i j q hi hq => by
              have := hv (k.toNat + i) j q (by omega) hq
              rwa [Nat.add_mul, Nat.add_assoc] at this)
          rw [hl] at this
          exact .of_VR this
theorem ps_sliceToM {α : Type} {f : α → PV} {t e : TypeId} {s by_ : Nat} [ht : SlT P t e s by_] {x y : Operand} {nn : Option Bool} {l : List α} {k : Int} (ho : o.op = .slice t x none (some y) none) (h1 : view hp (ev x) = .sl s nn (l.map f)) (h2 : ev y = I k) (h0 : 0 ≤ k) (hk : k ≤ (l.length : Int)) :
    PStep P o ev hp (.sl s none ((l.take k.toNat).map f)) := by
  rw [List.map_take]
  exact ps_sliceTo ho h1 h2 h0 (by simpa using hk)
theorem ps_sliceFromM {α : Type} {f : α → PV} {t e : TypeId} {s by_ : Nat} [ht : SlT P t e s by_] {x y : Operand} {nn : Option Bool} {l : List α} {k : Int} (ho : o.op = .slice t x (some y) none none) (h1 : view hp (ev x) = .sl s nn (l.map f)) (h2 : ev y = I k) (h0 : 0 ≤ k) (hk : k ≤ (l.length : Int)) :
    PStep P o ev hp (.sl s none ((l.drop k.toNat).map f)) := by
  rw [List.map_drop]
  exact ps_sliceFrom ho h1 h2 h0 (by simpa using hk)
end
end Go.Pv
/- The layer, more: unsigned words, bytes, conversions, literals of numbers. -/
namespace Go.Pv
open Go
attribute [local semireducible] Go.Pv.PStep Go.Pv.EStep

abbrev U (z : Int) : PV := .val (.int .u64 z)
abbrev Y (z : Int) : PV := .val (.int .u8 z)
section
variable {P : Program} {o : Oper} {ev : Operand → PV} {hp : List HO}
theorem ps_mulU {t rt : TypeId} {x y : Operand} {a b : Int} (ho : o.op = .binOp .mul t x y rt) (h1 : ev x = U a) (h2 : ev y = U b) : PStep P o ev hp (U (IntKind.u64.wrap (a * b))) := ps_bin ho h1 h2 fun w => by simp [go_sem]
theorem ps_addU {t rt : TypeId} {x y : Operand} {a b : Int} (ho : o.op = .binOp .add t x y rt) (h1 : ev x = U a) (h2 : ev y = U b) : PStep P o ev hp (U (IntKind.u64.wrap (a + b))) := ps_bin ho h1 h2 fun w => by simp [go_sem]
theorem ps_shrU {t rt : TypeId} {x y : Operand} {a b : Int} {k : IntKind} (ho : o.op = .binOp .shr t x y rt) (h1 : ev x = U a) (h2 : ev y = .val (.int k b)) (h0 : 0 ≤ b) (hb : b ≤ 64) : PStep P o ev hp (U (a / 2 ^ b.toNat)) :=
  ps_bin ho h1 h2 fun w => by
    have h := shift_shr .u64 k a b h0 (by show b ≤ (64 : Nat); omega)
    simp only [eqGuard_shr, binOp_shr, h, Sem.run_bind, run_pure, Result.andThen]
theorem ps_andU {t rt : TypeId} {x y : Operand} {a b : Int} (ho : o.op = .binOp .and t x y rt) (h1 : ev x = U a) (h2 : ev y = U b) : PStep P o ev hp (U (bits .and .u64 a b)) := ps_bin ho h1 h2 fun w => by simp [go_sem]
theorem ps_rem {t rt : TypeId} {x y : Operand} {a b : Int} (ho : o.op = .binOp .rem t x y rt) (h1 : ev x = I a) (h2 : ev y = I b) (h0 : 0 ≤ a) (hb : 0 < b) : PStep P o ev hp (I (a % b)) :=
  ps_bin ho h1 h2 fun w => by
    simp only [eqGuard_rem, binOp_rem, Op.intDiv, if_neg (show ¬ b = 0 by omega), IntWalk.rem_in a b h0]; rfl
theorem ps_conv {src dst : TypeId} {x : Operand} {k k' : IntKind} {n : Int} (hs : (P.underlying src).isSome = true) (hd : P.underlying dst = some (.int k')) (ho : o.op = .convert src dst x) (h1 : ev x = .val (.int k n)) : PStep P o ev hp (.val (.int k' (k'.wrap n))) :=
  .of_run fun w0 g ρ w av hb hx => by
    have e1 := val_of (hx x (by simp [ho, Op.operands])) h1
    have hk : P.intKind dst = k' := by simp [Program.intKind, hd]
    refine ⟨.int k' (k'.wrap n), ?_, .val _⟩
    simp only [execOp, ho, e1]
    refine run_value ?_
    have := run_convert_int (P := P) w src dst k n hs (by rw [hk]; exact hd)
    rwa [hk] at this
end
end Go.Pv
/- The order of lists by length, then by their members; lists in this order without repeats are determined by their members. No program here. -/
namespace Go.Proofs.YtembaiccchgllaaGreat

def cmpX : List Int → List Int → Int
  | [], [] => 0
  | [], _ :: _ => -1
  | _ :: _, [] => 1
  | a :: s, b :: t => if a = b then cmpX s t else if a < b then -1 else 1
theorem cmpX_self : ∀ a : List Int, cmpX a a = 0
  | [] => rfl
  | a :: s => by simp only [cmpX, if_true]; exact cmpX_self s
theorem cmpX_eq : ∀ {a b : List Int}, cmpX a b = 0 → a = b
  | [], [], _ => rfl
  | [], _ :: _, h => by simp [cmpX] at h
  | _ :: _, [], h => by simp [cmpX] at h
  | a :: s, b :: t, h => by
    simp only [cmpX] at h
    split at h
    · rename_i e; rw [e, cmpX_eq h]
    · split at h <;> simp at h
theorem cmpX_flip : ∀ (a b : List Int), cmpX b a = -cmpX a b
  | [], [] => rfl
  | [], _ :: _ => rfl
  | _ :: _, [] => rfl
  | a :: s, b :: t => by
    simp only [cmpX]
    by_cases e : a = b
    · rw [if_pos e, if_pos e.symm]; exact cmpX_flip s t
    · rw [if_neg e, if_neg (Ne.symm e)]
      by_cases h : a < b
      · rw [if_pos h, if_neg (by omega)]; rfl
      · rw [if_neg h, if_pos (by omega)]
theorem cmpX_trans : ∀ {a b c : List Int}, cmpX a b < 0 → cmpX b c < 0 → cmpX a c < 0
  | [], [], _, h, _ => by simp [cmpX] at h
  | [], _ :: _, [], _, h => by simp [cmpX] at h
  | [], _ :: _, _ :: _, _, _ => by simp [cmpX]
  | _ :: _, [], _, h, _ => by simp [cmpX] at h
  | _ :: _, _ :: _, [], _, h => by simp [cmpX] at h
  | a :: s, b :: t, c :: u, h1, h2 => by
    simp only [cmpX] at *
    by_cases e1 : a = b
    · subst e1
      rw [if_pos rfl] at h1
      by_cases e2 : a = c
      · subst e2
        rw [if_pos rfl] at h2 ⊢
        exact cmpX_trans h1 h2
      · rw [if_neg e2] at h2 ⊢; exact h2
    · rw [if_neg e1] at h1
      have hab : a < b := by
        by_cases h : a < b
        · exact h
        · rw [if_neg h] at h1; omega
      by_cases e2 : b = c
      · subst e2
        rw [if_neg e1, if_pos hab]; decide
      · rw [if_neg e2] at h2
        have hbc : b < c := by
          by_cases h : b < c
          · exact h
          · rw [if_neg h] at h2; omega
        rw [if_neg (by omega), if_pos (by omega)]; decide
end Go.Proofs.YtembaiccchgllaaGreat
