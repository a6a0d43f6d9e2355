/- Plain: closing a partial map, the search for embeddings: where an isomorphism exists the search finds one or has too many tries. -/
import Derived.Test.YtepjlgilopfnpaaGreatJKd
namespace Go.Proofs.YtepjlgilopfnpaaGreat
open Go Go.Pv Go.Proofs

def opnB (n : Nat) (f : List Int) : Nat → Nat → Bool
 | 0, _ => true
 | a + 1, i => !decide (f.getD (i % n) 0 < 0) && opnB n f a (i / n)
structure CmS where
 f : List Int
 ch : Bool
 ok : Bool
def cmI (n m : Nat) (fa fb : OpD) (s : CmS) (i : Nat) : CmS :=
 if s.ok then
  if opnB n s.f fa.ar.toNat i then
   if s.f.getD (bk fa.tb i) 0 < 0 then ⟨s.f.set (bk fa.tb i) (fb.tb.getD (mapI n m (bk s.f) fa.ar.toNat i) 0), true, true⟩
   else if s.f.getD (bk fa.tb i) 0 = fb.tb.getD (mapI n m (bk s.f) fa.ar.toNat i) 0 then s else ⟨s.f, s.ch, false⟩
  else s
 else s
def cmT (n m : Nat) (fa fb : OpD) (s : CmS) (k : Nat) : CmS := (List.range k).foldl (cmI n m fa fb) s
def cmO (n m : Nat) (A B : List OpD) (s : CmS) (k : Nat) : CmS := (List.range k).foldl (fun s o => cmT n m (A.getD o default) (B.getD o default) s (A.getD o default).tb.length) s
def cmPass (n m : Nat) (A B : List OpD) (f : List Int) : CmS := cmO n m A B ⟨f, false, true⟩ A.length
def opn (n : Nat) (f : List Int) : Nat := ((List.range n).filter fun x => decide (f.getD x 0 < 0)).length
def ParM (n m : Nat) (f : List Int) : Prop := f.length = n ∧ ∀ x, x < n → -1 ≤ f.getD x 0 ∧ f.getD x 0 < (m : Int)
structure IsoH (n : Nat) (A : List OpD) (m : Nat) (B : List OpD) (φ : Nat → Nat) : Prop where
 lt : ∀ x, x < n → φ x < m
 inj : ∀ x y, x < n → y < n → φ x = φ y → x = y
 hom : ∀ k, k < A.length → ∀ i, i < n ^ (A.getD k default).ar.toNat → φ (bk (A.getD k default).tb i) = bk (B.getD k default).tb (mapI n m φ (A.getD k default).ar.toNat i)
def Blw (n : Nat) (φ : Nat → Nat) (f : List Int) : Prop := ∀ x, x < n → f.getD x 0 < 0 ∨ f.getD x 0 = (φ x : Int)
theorem mapI_open {n m : Nat} {φ : Nat → Nat} {f : List Int} (hn : 0 < n) (h : Blw n φ f) : ∀ a i, opnB n f a i = true → mapI n m (bk f) a i = mapI n m φ a i
 | 0, _, _ => rfl
 | a + 1, i, ho => by
  unfold opnB at ho
  rw [Bool.and_eq_true, Bool.not_eq_true', decide_eq_false_iff_not] at ho
  have ih := mapI_open (m := m) hn h a (i / n) ho.2
  have h1 := h (i % n) (Nat.mod_lt _ hn)
  show mapI n m (bk f) a (i / n) * m + bk f (i % n) = mapI n m φ a (i / n) * m + φ (i % n)
  rw [ih]
  congr 1
  unfold bk
  omega
theorem par_bk {n m : Nat} {f : List Int} (hm : 0 < m) (h : ParM n m f) {x : Nat} (hx : x < n) : bk f x < m := by
 have := h.2 x hx
 unfold bk; omega
theorem getD_setT {f : List Int} {v x : Nat} {w : Int} (hv : v < f.length) : (f.set v w).getD x 0 = if x = v then w else f.getD x 0 := by
 rw [List.getD_eq_getElem?_getD, List.getElem?_set]
 by_cases h : v = x
 · subst h; rw [if_pos rfl, if_pos hv, if_pos rfl]; rfl
 · rw [if_neg h, if_neg (fun e => h e.symm), ← List.getD_eq_getElem?_getD]
theorem opn_set {n v : Nat} {f : List Int} {w : Int} (hl : f.length = n) (hv : v < n) (h0 : f.getD v 0 < 0) (hw : 0 ≤ w) : opn n (f.set v w) < opn n f := by
 unfold opn
 have hsub : ((List.range n).filter fun x => decide ((f.set v w).getD x 0 < 0)).Sublist ((List.range n).filter fun x => decide (f.getD x 0 < 0)) := by
  have e : ((List.range n).filter fun x => decide ((f.set v w).getD x 0 < 0)) = ((List.range n).filter fun x => decide (f.getD x 0 < 0)).filter fun x => decide (x ≠ v) := by
   rw [List.filter_filter]
   refine List.filter_congr fun x _ => ?_
   rw [getD_setT (by omega)]
   by_cases hx : x = v
   · subst hx; rw [if_pos rfl, decide_eq_false (by omega)]; simp
   · rw [if_neg hx]; simp [hx]
  rw [e]; exact List.filter_sublist
 refine Nat.lt_of_le_of_ne hsub.length_le fun e => ?_
 have e2 := hsub.eq_of_length e
 have hm : v ∈ (List.range n).filter fun x => decide (f.getD x 0 < 0) := List.mem_filter.2 ⟨List.mem_range.2 hv, by simpa using h0⟩
 rw [← e2] at hm
 have := (List.mem_filter.1 hm).2
 rw [decide_eq_true_eq, getD_setT (by omega), if_pos rfl] at this
 omega
structure CmR (n m : Nat) (s s' : CmS) : Prop where
 par : ParM n m s'.f
 step : s'.ch = s.ch ∧ s'.f = s.f ∨ s'.ch = true ∧ opn n s'.f < opn n s.f
theorem CmR.refl {n m : Nat} {s : CmS} (h : ParM n m s.f) : CmR n m s s := ⟨h, .inl ⟨rfl, rfl⟩⟩
theorem CmR.trans {n m : Nat} {s t u : CmS} (h : CmR n m s t) (k : CmR n m t u) : CmR n m s u := by
 refine ⟨k.par, ?_⟩
 rcases h.step with ⟨h1, h2⟩ | ⟨h1, h2⟩ <;> rcases k.step with ⟨k1, k2⟩ | ⟨k1, k2⟩
 · exact .inl ⟨k1.trans h1, k2.trans h2⟩
 · exact .inr ⟨k1, by rw [← h2]; exact k2⟩
 · exact .inr ⟨k1.trans h1, by rw [k2]; exact h2⟩
 · exact .inr ⟨k1, by omega⟩
def tabOk (n m : Nat) (fa fb : OpD) : Prop := fa.ar = fb.ar ∧ (∀ i, i < n ^ fa.ar.toNat → bk fa.tb i < n) ∧ ∀ j, j < m ^ fa.ar.toNat → 0 ≤ fb.tb.getD j 0 ∧ fb.tb.getD j 0 < (m : Int)
theorem cmI_R {n m : Nat} {fa fb : OpD} {s : CmS} {i : Nat} (hn : 0 < n) (hm : 0 < m) (ht : tabOk n m fa fb) (hi : i < n ^ fa.ar.toNat) (h : ParM n m s.f) : CmR n m s (cmI n m fa fb s i) := by
 have hv := ht.2.1 i hi
 have hw := ht.2.2 _ (mapI_lt (g := bk s.f) hn (fun x hx => par_bk hm h hx) fa.ar.toNat i)
 unfold cmI
 split
 · split
   · split
     · rename_i h0
       refine ⟨⟨by rw [List.length_set]; exact h.1, fun x hx => ?_⟩, .inr ⟨rfl, opn_set h.1 hv h0 hw.1⟩⟩
       rw [getD_setT (by rw [h.1]; exact hv)]
       split
       · omega
       · exact h.2 x hx
     · split
       · exact .refl h
       · exact ⟨h, .inl ⟨rfl, rfl⟩⟩
   · exact .refl h
 · exact .refl h
theorem cmI_B {n m : Nat} {φ : Nat → Nat} {fa fb : OpD} {s : CmS} {i : Nat} (hn : 0 < n) (hl : s.f.length = n) (hv : bk fa.tb i < n) (hh : φ (bk fa.tb i) = bk fb.tb (mapI n m φ fa.ar.toNat i)) (hb : 0 ≤ fb.tb.getD (mapI n m φ fa.ar.toNat i) 0) (h : Blw n φ s.f) (ho : s.ok = true) :
 Blw n φ (cmI n m fa fb s i).f ∧ (cmI n m fa fb s i).ok = true := by
 unfold cmI
 rw [if_pos ho]
 split
 · rename_i hop
   rw [mapI_open hn h _ _ hop]
   have hw : fb.tb.getD (mapI n m φ fa.ar.toNat i) 0 = (φ (bk fa.tb i) : Int) := by
    rw [hh]; unfold bk; omega
   rw [hw]
   split
   · refine ⟨fun x hx => ?_, rfl⟩
     rw [getD_setT (by omega)]
     split
     · rename_i e; rw [e]; exact .inr rfl
     · exact h x hx
   · rename_i h0
     rcases h _ hv with h1 | h1
     · exact absurd h1 h0
     · rw [if_pos h1]; exact ⟨h, ho⟩
 · exact ⟨h, ho⟩
/-! ### Passes -/
theorem fold_R {n m : Nat} {g : CmS → Nat → CmS} {K : Nat} (hg : ∀ s i, i < K → ParM n m s.f → CmR n m s (g s i)) : ∀ k, k ≤ K → ∀ s, ParM n m s.f → CmR n m s ((List.range k).foldl g s)
 | 0, _, s, h => .refl h
 | k + 1, hk, s, h => by
  rw [List.range_succ, List.foldl_append]
  have ih := fold_R hg k (by omega) s h
  exact ih.trans (hg _ k (by omega) ih.par)
theorem fold_B {n : Nat} {φ : Nat → Nat} {g : CmS → Nat → CmS} {K : Nat} (hl : ∀ s i, i < K → s.f.length = n → (g s i).f.length = n) (hg : ∀ s i, i < K → s.f.length = n → Blw n φ s.f → s.ok = true → Blw n φ (g s i).f ∧ (g s i).ok = true) : ∀ k, k ≤ K → ∀ s, s.f.length = n → Blw n φ s.f → s.ok = true → ((List.range k).foldl g s).f.length = n ∧ Blw n φ ((List.range k).foldl g s).f ∧ ((List.range k).foldl g s).ok = true
 | 0, _, s, h1, h2, h3 => ⟨h1, h2, h3⟩
 | k + 1, hk, s, h1, h2, h3 => by
  rw [List.range_succ, List.foldl_append]
  obtain ⟨i1, i2, i3⟩ := fold_B hl hg k (by omega) s h1 h2 h3
  exact ⟨hl _ k (by omega) i1, hg _ k (by omega) i1 i2 i3⟩
structure Alk (n : Nat) (A : List OpD) (m : Nat) (B : List OpD) : Prop where
 n0 : 0 < n
 m0 : 0 < m
 tab : ∀ k, k < A.length → tabOk n m (A.getD k default) (B.getD k default)
 len : ∀ k, k < A.length → (A.getD k default).tb.length = n ^ (A.getD k default).ar.toNat
theorem cmT_R {n m : Nat} {A B : List OpD} (H : Alk n A m B) {o : Nat} (ho : o < A.length) {k : Nat} (hk : k ≤ (A.getD o default).tb.length) {s : CmS} (h : ParM n m s.f) : CmR n m s (cmT n m (A.getD o default) (B.getD o default) s k) :=
 fold_R (fun s i hi h => cmI_R H.n0 H.m0 (H.tab o ho) (by rw [← H.len o ho]; exact hi) h) k hk s h
theorem cmO_R {n m : Nat} {A B : List OpD} (H : Alk n A m B) {k : Nat} (hk : k ≤ A.length) {s : CmS} (h : ParM n m s.f) : CmR n m s (cmO n m A B s k) :=
 fold_R (K := A.length) (fun s o ho h => cmT_R H ho (Nat.le_refl _) h) k hk s h
theorem cmI_len {n m : Nat} {fa fb : OpD} {s : CmS} {i : Nat} : (cmI n m fa fb s i).f.length = s.f.length := by
 unfold cmI
 split
 · split
   · split
     · exact List.length_set
     · split <;> rfl
   · rfl
 · rfl
theorem fold_len {g : CmS → Nat → CmS} (hg : ∀ s i, (g s i).f.length = s.f.length) : ∀ k s, ((List.range k).foldl g s).f.length = s.f.length
 | 0, _ => rfl
 | k + 1, s => by rw [List.range_succ, List.foldl_append]; exact (hg _ _).trans (fold_len hg k s)
theorem cmT_len {n m : Nat} {fa fb : OpD} {s : CmS} {k : Nat} : (cmT n m fa fb s k).f.length = s.f.length := fold_len (fun _ _ => cmI_len) k s
theorem cmO_B {n m : Nat} {A B : List OpD} {φ : Nat → Nat} (H : Alk n A m B) (I : IsoH n A m B φ) {s : CmS} (hl : s.f.length = n) (h : Blw n φ s.f) (ho : s.ok = true) : Blw n φ (cmO n m A B s A.length).f ∧ (cmO n m A B s A.length).ok = true := by
 refine (fold_B (K := A.length) (fun s o _ h => cmT_len.trans h) (fun s o ho hl hb hk => ?_) A.length (Nat.le_refl _) s hl h ho).2
 refine (fold_B (K := (A.getD o default).tb.length) (fun s i _ h => cmI_len.trans h) (fun s i hi hl hb hk => ?_) _ (Nat.le_refl _) s hl hb hk).2
 have hi2 : i < n ^ (A.getD o default).ar.toNat := by rw [← H.len o ho]; exact hi
 have ht := H.tab o ho
 exact cmI_B H.n0 hl (ht.2.1 i hi2) (I.hom o ho i hi2) (ht.2.2 _ (mapI_lt H.n0 I.lt _ i)).1 hb hk
def cmSt (n m : Nat) (A B : List OpD) (f : List Int) : Nat → CmS
 | 0 => ⟨f, true, true⟩
 | t + 1 => if (cmSt n m A B f t).ok && (cmSt n m A B f t).ch then cmPass n m A B (cmSt n m A B f t).f else cmSt n m A B f t
def cmFin (n m : Nat) (A B : List OpD) (f : List Int) : List Int × Bool := ((cmSt n m A B f (n + 1)).f, (cmSt n m A B f (n + 1)).ok)
theorem cmPass_R {n m : Nat} {A B : List OpD} (H : Alk n A m B) {f : List Int} (h : ParM n m f) : CmR n m ⟨f, false, true⟩ (cmPass n m A B f) := cmO_R H (Nat.le_refl _) h
theorem opn_le (n : Nat) (f : List Int) : opn n f ≤ n := by unfold opn; exact Nat.le_trans (List.length_filter_le ..) (by simp)
theorem cmSt_par {n m : Nat} {A B : List OpD} (H : Alk n A m B) {f : List Int} (h : ParM n m f) : ∀ t, ParM n m (cmSt n m A B f t).f ∧ opn n (cmSt n m A B f t).f ≤ opn n f ∧ (((cmSt n m A B f t).ok && (cmSt n m A B f t).ch) = true → opn n (cmSt n m A B f t).f + t ≤ opn n f)
 | 0 => ⟨h, Nat.le_refl _, fun _ => Nat.le_refl _⟩
 | t + 1 => by
  obtain ⟨h1, h2, h3⟩ := cmSt_par H h t
  unfold cmSt
  split
  · rename_i hc
    have hr := cmPass_R H h1
    have h3 := h3 hc
    rw [Bool.and_eq_true] at hc
    refine ⟨hr.par, ?_, fun hch => ?_⟩
    · rcases hr.step with ⟨-, e⟩ | ⟨-, e⟩
      · rw [e]; exact h2
      · exact Nat.le_trans (Nat.le_of_lt e) h2
    · rw [Bool.and_eq_true] at hch
      rcases hr.step with ⟨e, -⟩ | ⟨-, e⟩
      · rw [hch.2] at e; cases e
      · have e : opn n (cmPass n m A B (cmSt n m A B f t).f).f < opn n (cmSt n m A B f t).f := e
        omega
  · rename_i hc
    exact ⟨h1, h2, fun hch => absurd hch hc⟩
theorem cmSt_stay {n m : Nat} {A B : List OpD} {f : List Int} {t : Nat} (h : ((cmSt n m A B f t).ok && (cmSt n m A B f t).ch) = false) : ∀ k, cmSt n m A B f (t + k) = cmSt n m A B f t
 | 0 => rfl
 | k + 1 => by
  have ih := cmSt_stay h k
  show (if (cmSt n m A B f (t + k)).ok && (cmSt n m A B f (t + k)).ch then cmPass n m A B (cmSt n m A B f (t + k)).f else cmSt n m A B f (t + k)) = _
  rw [ih, h, if_neg Bool.false_ne_true]
theorem cmSt_B {n m : Nat} {A B : List OpD} {φ : Nat → Nat} (H : Alk n A m B) (I : IsoH n A m B φ) {f : List Int} (hp : ParM n m f) (h : Blw n φ f) : ∀ t, Blw n φ (cmSt n m A B f t).f ∧ (cmSt n m A B f t).ok = true
 | 0 => ⟨h, rfl⟩
 | t + 1 => by
  obtain ⟨h1, h2⟩ := cmSt_B H I hp h t
  unfold cmSt
  split
  · exact cmO_B H I (s := ⟨_, false, true⟩) (cmSt_par H hp t).1.1 h1 rfl
  · exact ⟨h1, h2⟩
/-! ### The search -/
def seenB (f : List Int) : Nat → Bool
 | 0 => true
 | k + 1 => seenB f k && (decide (f.getD k 0 < 0) || (List.range k).all fun j => !decide (f.getD j 0 = f.getD k 0))
def fitE (n m : Nat) (A B : List OpD) (f : List Int) : List Int × Bool := ((cmFin n m A B f).1, (cmFin n m A B f).2 && seenB (cmFin n m A B f).1 n)
structure SrR where
 t : Nat
 first : Option (List Int)
 cont : Bool
def firstOpen (n : Nat) (f : List Int) : Nat := fstN n fun x => decide (f.getD x 0 < 0)
def srch (n m : Nat) (A B : List OpD) : Nat → List Int → Nat → Option (List Int) → SrR
 | 0, f, t, _ => ⟨t, some f, false⟩
 | d + 1, f, t, F =>
  if firstOpen n f < n then
   (List.range m).foldl (fun (s : SrR) (x : Nat) =>
    if s.cont then
     if 5000 < s.t + 1 then ⟨s.t + 1, s.first, false⟩
     else if (fitE n m A B (f.set (firstOpen n f) (x : Int))).2 then srch n m A B d (fitE n m A B (f.set (firstOpen n f) (x : Int))).1 (s.t + 1) s.first
     else ⟨s.t + 1, s.first, true⟩
    else s) ⟨t, F, true⟩
  else ⟨t, some f, false⟩
theorem seen_inj {n : Nat} {φ : Nat → Nat} {f : List Int} (hi : ∀ x y, x < n → y < n → φ x = φ y → x = y) (h : Blw n φ f) : ∀ k, k ≤ n → seenB f k = true
 | 0, _ => rfl
 | k + 1, hk => by
  unfold seenB
  rw [seen_inj hi h k (by omega), Bool.true_and]
  by_cases h0 : f.getD k 0 < 0
  · rw [decide_eq_true h0]; rfl
  · rw [decide_eq_false h0, Bool.false_or]
    refine List.all_eq_true.2 fun j hj => ?_
    have hj := List.mem_range.1 hj
    rw [Bool.not_eq_true', decide_eq_false_iff_not]
    intro e
    have h1 := (h k (by omega)).resolve_left h0
    have h2 := (h j (by omega)).resolve_left (by omega)
    have := hi j k (by omega) (by omega) (by omega)
    omega
theorem fit_B {n m : Nat} {A B : List OpD} {φ : Nat → Nat} (H : Alk n A m B) (I : IsoH n A m B φ) {f : List Int} (hp : ParM n m f) (h : Blw n φ f) : Blw n φ (fitE n m A B f).1 ∧ (fitE n m A B f).2 = true := by
 obtain ⟨h1, h2⟩ := cmSt_B H I hp h (n + 1)
 refine ⟨h1, ?_⟩
 unfold fitE cmFin
 rw [h2, Bool.true_and]
 exact seen_inj I.inj h1 n (Nat.le_refl _)
theorem fit_par {n m : Nat} {A B : List OpD} (H : Alk n A m B) {f : List Int} (hp : ParM n m f) : ParM n m (fitE n m A B f).1 ∧ opn n (fitE n m A B f).1 ≤ opn n f := ⟨(cmSt_par H hp (n + 1)).1, (cmSt_par H hp (n + 1)).2.1⟩
theorem firstOpen_lt {n : Nat} {f : List Int} (h : firstOpen n f < n) : f.getD (firstOpen n f) 0 < 0 ∧ ∀ y, y < firstOpen n f → 0 ≤ f.getD y 0 := by
 unfold firstOpen fstN at h ⊢
 cases e : (List.range n).find? fun x => decide (f.getD x 0 < 0) with
 | none => rw [e] at h; exact absurd h (Nat.lt_irrefl n)
 | some y =>
  show f.getD y 0 < 0 ∧ _
  have h1 := List.find?_some e
  have hy : y < n := List.mem_range.1 (List.mem_of_find?_eq_some e)
  have hs := (fstN_spec (n := n) (P := fun x => decide (f.getD x 0 < 0)) hy h1)
  unfold fstN at hs
  rw [e] at hs
  exact ⟨of_decide_eq_true h1, fun z hz => Int.not_lt.1 (of_decide_eq_false (hs.2.2 z hz))⟩
theorem firstOpen_no {n : Nat} {f : List Int} (h : ¬ firstOpen n f < n) {x : Nat} (hx : x < n) : 0 ≤ f.getD x 0 := by
 rcases Int.lt_or_le (f.getD x 0) 0 with h0 | h0
 · have := (fstN_spec (n := n) (P := fun x => decide (f.getD x 0 < 0)) hx (decide_eq_true h0)).1
   exact absurd (Nat.lt_of_le_of_lt this hx) h
 · exact h0
theorem opn_zero {n : Nat} {f : List Int} (h : opn n f ≤ 0) : ¬ firstOpen n f < n := fun h0 => by
 have h1 := (firstOpen_lt h0).1
 have h2 : firstOpen n f ∈ (List.range n).filter fun x => decide (f.getD x 0 < 0) := List.mem_filter.2 ⟨List.mem_range.2 h0, by simpa using h1⟩
 have h3 := List.length_pos_of_mem h2
 unfold opn at h
 omega
def srStep (n m : Nat) (A B : List OpD) (rc : List Int → Nat → Option (List Int) → SrR) (f : List Int) (s : SrR) (x : Nat) : SrR :=
 if s.cont then
  if 5000 < s.t + 1 then ⟨s.t + 1, s.first, false⟩
  else if (fitE n m A B (f.set (firstOpen n f) (x : Int))).2 then rc (fitE n m A B (f.set (firstOpen n f) (x : Int))).1 (s.t + 1) s.first
  else ⟨s.t + 1, s.first, true⟩
 else s
def srF (n m : Nat) (A B : List OpD) (rc : List Int → Nat → Option (List Int) → SrR) (f : List Int) (s : SrR) (k : Nat) : SrR := (List.range k).foldl (srStep n m A B rc f) s
theorem srF_s {n m : Nat} {A B : List OpD} {rc : List Int → Nat → Option (List Int) → SrR} {f : List Int} {s : SrR} (k : Nat) : srF n m A B rc f s (k + 1) = srStep n m A B rc f (srF n m A B rc f s k) k := by
 unfold srF
 rw [List.range_succ, List.foldl_append]; rfl
theorem srch_s {n m d t : Nat} {A B : List OpD} {f : List Int} {F : Option (List Int)} : srch n m A B (d + 1) f t F = if firstOpen n f < n then srF n m A B (srch n m A B d) f ⟨t, F, true⟩ m else ⟨t, some f, false⟩ := rfl
structure SrP (n : Nat) (s : SrR) : Prop where
 le : s.t ≤ 5001
 go : s.cont = true → s.t ≤ 5000
 stop : s.cont = false → 5000 < s.t ∨ s.first.isSome = true
 len : ∀ g, s.first = some g → g.length = n
theorem par_set {n m : Nat} {f : List Int} (h : ParM n m f) {v x : Nat} (hx : x < m) : ParM n m (f.set v (x : Int)) := by
 refine ⟨by rw [List.length_set]; exact h.1, fun y hy => ?_⟩
 rw [List.getD_eq_getElem?_getD, List.getElem?_set]
 split
 · split
   · show -1 ≤ ((x : Int)) ∧ (x : Int) < m
     omega
   · have := h.1; omega
 · rw [← List.getD_eq_getElem?_getD]; exact h.2 y hy
theorem srF_P {n m : Nat} {A B : List OpD} {rc : List Int → Nat → Option (List Int) → SrR} {f : List Int} {s : SrR} (hrc : ∀ x, x < m → ∀ t F, t ≤ 5000 → (∀ g, F = some g → g.length = n) → SrP n (rc (fitE n m A B (f.set (firstOpen n f) (x : Int))).1 t F)) (hs : SrP n s) : ∀ k, k ≤ m → SrP n (srF n m A B rc f s k)
 | 0, _ => hs
 | k + 1, hk => by
  have ih := srF_P hrc hs k (by omega)
  rw [srF_s]
  unfold srStep
  split
  · rename_i hc
    have := ih.go hc
    split
    · rename_i h5
      exact { le := by show (srF n m A B rc f s k).t + 1 ≤ 5001; omega, go := (fun h => by cases h), stop := fun _ => Or.inl h5, len := ih.len }
    · rename_i h5
      split
      · exact hrc k (by omega) _ _ (by omega) ih.len
      · exact { le := by show (srF n m A B rc f s k).t + 1 ≤ 5001; omega, go := fun _ => (by show (srF n m A B rc f s k).t + 1 ≤ 5000; omega), stop := (fun h => by cases h), len := ih.len }
  · exact ih
theorem srF_B {n m : Nat} {A B : List OpD} {rc : List Int → Nat → Option (List Int) → SrR} {f : List Int} {s : SrR} {x0 : Nat} (hf : (fitE n m A B (f.set (firstOpen n f) (x0 : Int))).2 = true) (hrc : ∀ t F, (rc (fitE n m A B (f.set (firstOpen n f) (x0 : Int))).1 t F).cont = false) : ∀ k, x0 < k → (srF n m A B rc f s k).cont = false
 | 0, h => absurd h (Nat.not_lt_zero _)
 | k + 1, h => by
  rw [srF_s]
  unfold srStep
  rcases Nat.lt_or_ge x0 k with hlt | hge
  · have ih := srF_B (s := s) hf hrc k hlt
    rw [ih]
    show (srF n m A B rc f s k).cont = false
    exact ih
  · have e : k = x0 := by omega
    subst e
    split
    · split
      · rfl
      · exact hrc _ _
    · rename_i hc
      exact Bool.eq_false_iff.2 hc
theorem srch_P {n m : Nat} {A B : List OpD} (H : Alk n A m B) : ∀ d f t F, ParM n m f → opn n f ≤ d → t ≤ 5000 → (∀ g, F = some g → g.length = n) → SrP n (srch n m A B d f t F)
 | 0, f, t, F, hp, ho, ht, hF => ⟨by show t ≤ 5001; omega, (fun h => absurd (show false = true from h) Bool.false_ne_true), fun _ => .inr rfl, fun g hg => by cases hg; exact hp.1⟩
 | d + 1, f, t, F, hp, ho, ht, hF => by
  rw [srch_s]
  split
  · rename_i h0
    refine srF_P (fun x hx t' F' ht' hF' => ?_) ⟨by show t ≤ 5001; omega, fun _ => ht, (fun h => by cases (show true = false from h)), hF⟩ m (Nat.le_refl _)
    have hq := par_set hp (v := firstOpen n f) hx
    have h2 := fit_par H hq
    have h3 := opn_set (w := (x : Int)) hp.1 h0 (firstOpen_lt h0).1 (by omega)
    exact srch_P H d _ t' F' h2.1 (by omega) ht' hF'
  · exact ⟨by show t ≤ 5001; omega, (fun h => by cases (show false = true from h)), fun _ => .inr rfl, fun g hg => by cases hg; exact hp.1⟩
theorem srch_B {n m : Nat} {A B : List OpD} {φ : Nat → Nat} (H : Alk n A m B) (I : IsoH n A m B φ) : ∀ d f t F, ParM n m f → opn n f ≤ d → Blw n φ f → (srch n m A B d f t F).cont = false
 | 0, f, t, F, _, _, _ => rfl
 | d + 1, f, t, F, hp, ho, hb => by
  rw [srch_s]
  split
  · rename_i h0
    have hx := I.lt _ h0
    have hq := par_set hp (v := firstOpen n f) hx
    have h2 := fit_par H hq
    have h3 := opn_set (w := ((φ (firstOpen n f) : Nat) : Int)) hp.1 h0 (firstOpen_lt h0).1 (by omega)
    have hb2 : Blw n φ (f.set (firstOpen n f) ((φ (firstOpen n f) : Nat) : Int)) := fun x hx => by
     rw [getD_setT (by rw [hp.1]; exact h0)]
     split
     · rename_i e; rw [e]; exact .inr rfl
     · exact hb x hx
    have h4 := fit_B H I hq hb2
    exact srF_B h4.2 (fun t F => srch_B H I d _ t F h2.1 (by omega) h4.1) m hx
  · rfl
def isoS (n m : Nat) (A B : List OpD) : SrR :=
 if (fitE n m A B (List.replicate n (-1))).2 then srch n m A B n (fitE n m A B (List.replicate n (-1))).1 0 none else ⟨0, none, true⟩
def isoK (n m : Nat) (A B : List OpD) : Bool := decide ((isoS n m A B).t ≤ 5000)
def isoR (n m : Nat) (A B : List OpD) : Bool := isoK n m A B && (isoS n m A B).first.isSome
theorem par_open (n m : Nat) (hm : 0 < m) : ParM n m (List.replicate n (-1)) := ⟨List.length_replicate, fun x hx => by
 rw [List.getD_eq_getElem?_getD, List.getElem?_replicate, if_pos hx]
 show -1 ≤ (-1 : Int) ∧ (-1 : Int) < m
 omega⟩
theorem blw_open (n : Nat) (φ : Nat → Nat) : Blw n φ (List.replicate n (-1)) := fun x hx => by
 rw [List.getD_eq_getElem?_getD, List.getElem?_replicate, if_pos hx]
 exact .inl (by show (-1 : Int) < 0; omega)
theorem isoS_P {n m : Nat} {A B : List OpD} (H : Alk n A m B) : SrP n (isoS n m A B) := by
 unfold isoS
 split
 · have h2 := fit_par H (par_open n m H.m0)
   exact srch_P H n _ 0 none h2.1 (opn_le _ _) (by omega) (fun g hg => by cases hg)
 · exact ⟨by show 0 ≤ 5001; omega, fun _ => by show 0 ≤ 5000; omega, (fun h => by cases (show true = false from h)), fun g hg => by cases hg⟩
theorem iso_found {n m : Nat} {A B : List OpD} {φ : Nat → Nat} (H : Alk n A m B) (I : IsoH n A m B φ) (h : isoK n m A B = true) : isoR n m A B = true := by
 have h2 := fit_par H (par_open n m H.m0)
 have h3 := fit_B H I (par_open n m H.m0) (blw_open n φ)
 have hc : (isoS n m A B).cont = false := by
  unfold isoS
  rw [if_pos h3.2]
  exact srch_B H I n _ 0 none h2.1 (opn_le _ _) h3.1
 unfold isoR
 rw [h, Bool.true_and]
 unfold isoK at h
 have h := of_decide_eq_true h
 rcases (isoS_P H).stop hc with h5 | h5
 · omega
 · exact h5
end Go.Proofs.YtepjlgilopfnpaaGreat
