/- Plain: translated pairs, Mal'cev chains, the shortest way between two elements. -/
import Derived.Test.YtkdagmbgjddopaaJKb
namespace Go.Proofs.Ytkdagmbgjddopaa
open Go Go.Pv Go.Proofs

inductive TrP (n : Nat) (ops : List OpD) (x y : Nat) : Nat → Nat → Prop
  | base : TrP n ops x y x y
  | sym {s t : Nat} (h : TrP n ops x y s t) : TrP n ops x y t s
  | step {s t : Nat} (h : TrP n ops x y s t) (f : OpD) (hf : f ∈ ops) (i : Nat) (hi : i < n ^ f.ar.toNat) (j : Nat) (hj : j < f.ar.toNat) (hd : digN n i j = s) : TrP n ops x y (bk f.tb i) (bk f.tb (subN n i j t))
theorem TrP.lt {n : Nat} {ops : List OpD} (ho : opsIn n ops) {x y : Nat} (hx : x < n) (hy : y < n) {s t : Nat} (h : TrP n ops x y s t) : s < n ∧ t < n := by
  induction h with
  | base => exact ⟨hx, hy⟩
  | sym _ ih => exact ⟨ih.2, ih.1⟩
  | step _ f hf i hi j hj _ ih =>
    have h := (ho f hf).2.2.2
    exact ⟨(h i hi).2, (h _ (sub_lt hi hj ih.2)).2⟩
theorem TrP.cg {n : Nat} {ops : List OpD} (ho : opsIn n ops) {x y : Nat} (hx : x < n) (hy : y < n) {r : List Int} (hr : Pt n r) (hc : Cong n ops r) (he : bk r x = bk r y) {s t : Nat} (h : TrP n ops x y s t) : bk r s = bk r t := by
  induction h with
  | base => exact he
  | sym _ ih => exact ih.symm
  | step h f hf i hi j hj hd ih =>
    obtain ⟨hs, ht⟩ := h.lt ho hx hy
    have := (cong_keeps hr).1 hc f hf i hi j hj _ _ hs ht ih
    rw [← hd, subN_self] at this
    exact this
inductive Cn (lk : Nat → Nat → Prop) (u : Nat) : Nat → Prop
  | refl : Cn lk u u
  | step {w z : Nat} (h : Cn lk u w) (hl : lk w z) : Cn lk u z
theorem Cn.trans {lk : Nat → Nat → Prop} {u v w : Nat} (h : Cn lk u v) (g : Cn lk v w) : Cn lk u w := by
  induction g with
  | refl => exact h
  | step _ hl ih => exact .step ih hl
theorem Cn.symm {lk : Nat → Nat → Prop} (hs : ∀ a b, lk a b → lk b a) {u v : Nat} (h : Cn lk u v) : Cn lk v u := by
  induction h with
  | refl => exact .refl
  | step _ hl ih => exact (Cn.step .refl (hs _ _ hl)).trans ih
theorem malcev {n : Nat} {ops : List OpD} (ho : opsIn n ops) {x y u v : Nat} (hx : x < n) (hy : y < n) (hu : u < n) (hv : v < n) : bk (cgL n ops x y) u = bk (cgL n ops x y) v ↔ Cn (TrP n ops x y) u v := by
  have hg := cg_lst ho hx hy
  constructor
  · intro he
    have hE : Equivalence (Cn (TrP n ops x y)) := ⟨fun _ => .refl, fun h => h.symm fun _ _ h => .sym h, fun h g => h.trans g⟩
    have hk : Keeps n ops (Cn (TrP n ops x y)) := by
      intro f hf i hi j hj a b ha hb hab
      clear he ha hb
      induction hab with
      | refl => exact .refl
      | step _ hl ih =>
        obtain ⟨hw, hz⟩ := hl.lt ho hx hy
        refine .step ih ?_
        have := hl.step f hf _ (sub_lt hi hj hw) j hj (dig_sub i j hw)
        rw [sub_sub i j hw] at this
        exact this
    have key := close_leastE hE hk (by omega) ho (unL_pt (idL_pt n) hx hy) (un_leastE hE (idL_pt n) hx hy (fun z hz => by rw [bk_idL hz]; exact .refl) (.step .refl .base))
    have k1 : Cn (TrP n ops x y) (bk (cgL n ops x y) u) u := key u hu
    have k2 : Cn (TrP n ops x y) (bk (cgL n ops x y) v) v := key v hv
    rw [he] at k1
    exact hE.trans (hE.symm k1) k2
  · intro h
    clear hv
    induction h with
    | refl => rfl
    | step _ hl ih => exact ih.trans (hl.cg ho hx hy hg.pt hg.cong (cg_R ho hx hy))
/-! ### Breadth first -/
section
variable (lk : Nat → Nat → Bool) (n v : Nat)
abbrev BSt := List Nat × List Int
def bStep (c : Nat) (st : BSt) (s : Nat) : BSt := if st.2.getD s 0 < 0 ∧ lk c s = true then (st.1 ++ [s], st.2.set s (st.2.getD c 0 + 1)) else st
def bInn (c : Nat) (st : BSt) (k : Nat) : BSt := (List.range k).foldl (bStep lk c) st
def bRun : Nat → BSt
  | 0 => ([v], (List.replicate n (-1)).set v 0)
  | k + 1 => if k < (bRun k).1.length then bInn lk ((bRun k).1.getD k 0) (bRun k) n else bRun k
theorem bInn_succ (c : Nat) (st : BSt) (k : Nat) : bInn lk c st (k + 1) = bStep lk c (bInn lk c st k) k := by
  unfold bInn; rw [List.range_succ, List.foldl_append]; rfl
structure BInv (st : BSt) : Prop where
  len : st.2.length = n
  nd : st.1.Nodup
  lt : ∀ s ∈ st.1, s < n
  mem : ∀ s, s < n → (0 ≤ st.2.getD s 0 ↔ s ∈ st.1)
  neg : ∀ s, s < n → -1 ≤ st.2.getD s 0 ∧ st.2.getD s 0 < (st.1.length : Int)
  vin : v ∈ st.1 ∧ st.2.getD v 0 = 0
  pre : ∀ s ∈ st.1, s = v ∨ ∃ c ∈ st.1, lk c s = true ∧ st.2.getD s 0 = st.2.getD c 0 + 1
def BLe (a b : BSt) : Prop := (∃ l, b.1 = a.1 ++ l) ∧ ∀ s, 0 ≤ a.2.getD s 0 → s < n → b.2.getD s 0 = a.2.getD s 0
variable {lk n v}
theorem BLe.refl (a : BSt) : BLe n a a := ⟨⟨[], (List.append_nil _).symm⟩, fun _ _ _ => rfl⟩
theorem BLe.trans {a b c : BSt} (h : BLe n a b) (g : BLe n b c) : BLe n a c := by
  obtain ⟨⟨l, h1⟩, h2⟩ := h
  obtain ⟨⟨m, g1⟩, g2⟩ := g
  exact ⟨⟨l ++ m, by rw [g1, h1, List.append_assoc]⟩, fun s hs hn => by rw [g2 s (by rw [h2 s hs hn]; exact hs) hn, h2 s hs hn]⟩
theorem setD {l : List Int} {s z : Nat} {x : Int} (hs : s < l.length) : (l.set s x).getD z 0 = if z = s then x else l.getD z 0 := by
  rw [List.getD_eq_getElem?_getD, List.getD_eq_getElem?_getD, List.getElem?_set]
  by_cases h : s = z
  · subst h; rw [if_pos rfl, if_pos hs, if_pos rfl]; rfl
  · rw [if_neg h, if_neg (fun e => h e.symm)]
theorem bStep_inv {st : BSt} (h : BInv lk n v st) {c s : Nat} (hc : c ∈ st.1) (hs : s < n) : BInv lk n v (bStep lk c st s) ∧ BLe n st (bStep lk c st s) ∧ (lk c s = true → 0 ≤ (bStep lk c st s).2.getD s 0) := by
  unfold bStep
  by_cases hq : st.2.getD s 0 < 0 ∧ lk c s = true
  · rw [if_pos hq]
    have hsl : s < st.2.length := by rw [h.len]; exact hs
    have hno : s ∉ st.1 := fun hm => by have := (h.mem s hs).2 hm; omega
    have hc0 : 0 ≤ st.2.getD c 0 := (h.mem c (h.lt c hc)).2 hc
    have hcl := (h.neg c (h.lt c hc)).2
    have hg : ∀ z, (st.2.set s (st.2.getD c 0 + 1)).getD z 0 = if z = s then st.2.getD c 0 + 1 else st.2.getD z 0 := fun z => setD hsl
    have hold : ∀ z ∈ st.1, (st.2.set s (st.2.getD c 0 + 1)).getD z 0 = st.2.getD z 0 := fun z hz => by
      rw [hg, if_neg]
      intro e; rw [e] at hz; exact hno hz
    refine ⟨⟨by simp [h.len], ?_, ?_, ?_, ?_, ?_, ?_⟩, ⟨⟨[s], rfl⟩, fun z hz hzn => hold z ((h.mem z hzn).1 hz)⟩, fun _ => ?_⟩
    · rw [List.nodup_append]
      refine ⟨h.nd, by simp, fun a ha b hb => ?_⟩
      rw [List.mem_singleton] at hb; subst hb
      exact fun e => hno (e ▸ ha)
    · intro z hz
      rcases List.mem_append.1 hz with hz | hz
      · exact h.lt z hz
      · rw [List.mem_singleton] at hz; subst hz; exact hs
    · intro z hz
      show 0 ≤ (st.2.set s (st.2.getD c 0 + 1)).getD z 0 ↔ z ∈ st.1 ++ [s]
      rw [hg, List.mem_append, List.mem_singleton]
      by_cases he : z = s
      · rw [if_pos he]; exact ⟨fun _ => .inr he, fun _ => by omega⟩
      · rw [if_neg he, h.mem z hz]; exact ⟨.inl, fun h => h.resolve_right he⟩
    · intro z hz
      show -1 ≤ (st.2.set s (st.2.getD c 0 + 1)).getD z 0 ∧ (st.2.set s (st.2.getD c 0 + 1)).getD z 0 < ((st.1 ++ [s]).length : Int)
      have := h.neg z hz
      rw [hg, List.length_append, List.length_singleton]
      split <;> omega
    · exact ⟨List.mem_append_left _ h.vin.1, (hold v h.vin.1).trans h.vin.2⟩
    · intro z hz
      rcases List.mem_append.1 hz with hz | hz
      · rcases h.pre z hz with e | ⟨d, h1, h2, h3⟩
        · exact .inl e
        · exact .inr ⟨d, List.mem_append_left _ h1, h2, by
            show (st.2.set s _).getD z 0 = (st.2.set s _).getD d 0 + 1
            rw [hold z hz, hold d h1, h3]⟩
      · rw [List.mem_singleton] at hz; subst hz
        refine .inr ⟨c, List.mem_append_left _ hc, hq.2, ?_⟩
        show (st.2.set z _).getD z 0 = (st.2.set z _).getD c 0 + 1
        rw [hold c hc, hg, if_pos rfl]
    · show 0 ≤ (st.2.set s (st.2.getD c 0 + 1)).getD s 0
      rw [hg, if_pos rfl]; omega
  · rw [if_neg hq]
    exact ⟨h, .refl _, fun hl => Int.not_lt.1 fun hlt => hq ⟨hlt, hl⟩⟩
theorem bInn_inv {st : BSt} (h : BInv lk n v st) {c : Nat} (hc : c ∈ st.1) : ∀ k, k ≤ n → BInv lk n v (bInn lk c st k) ∧ BLe n st (bInn lk c st k) ∧ ∀ s, s < k → lk c s = true → 0 ≤ (bInn lk c st k).2.getD s 0
  | 0, _ => ⟨h, .refl _, fun _ hs => absurd hs (Nat.not_lt_zero _)⟩
  | k + 1, hk => by
    obtain ⟨h1, h2, h3⟩ := bInn_inv h hc k (by omega)
    obtain ⟨l, hl⟩ := h2.1
    obtain ⟨g1, g2, g3⟩ := bStep_inv h1 (c := c) (s := k) (by rw [hl]; exact List.mem_append_left _ hc) (by omega)
    rw [bInn_succ]
    refine ⟨g1, h2.trans g2, fun s hs hlk => ?_⟩
    rcases Nat.lt_or_ge s k with hlt | hge
    · have := h3 s hlt hlk
      rw [g2.2 s this (by omega)]; exact this
    · obtain rfl : s = k := by omega
      exact g3 hlk
theorem bRun_zero (hv : v < n) : BInv lk n v (bRun lk n v 0) := by
  have hg : ∀ z, z < n → ((List.replicate n (-1 : Int)).set v 0).getD z 0 = if z = v then 0 else -1 := fun z hz => by
    rw [setD (by simpa using hv)]
    split
    · rfl
    · rw [List.getD_eq_getElem?_getD, List.getElem?_replicate, if_pos hz]; rfl
  have e2 : (bRun lk n v 0).2 = (List.replicate n (-1)).set v 0 := rfl
  have e1 : (bRun lk n v 0).1 = [v] := rfl
  refine ⟨by rw [e2]; simp, by rw [e1]; simp, fun s hs => ?_, fun s hs => ?_, fun s hs => ?_, ?_, fun s hs => ?_⟩
  · rw [e1, List.mem_singleton] at hs; subst hs; exact hv
  · rw [e1, e2, hg s hs, List.mem_singleton]
    split
    · next h => exact ⟨fun _ => h, fun _ => Int.le_refl _⟩
    · next h => exact ⟨fun h' => by omega, fun h' => absurd h' h⟩
  · rw [e1, e2, hg s hs, List.length_singleton]; split <;> omega
  · rw [e1, e2, hg v hv, if_pos rfl]; exact ⟨List.mem_singleton.2 rfl, rfl⟩
  · rw [e1, List.mem_singleton] at hs; exact .inl hs
theorem bRun_inv (hv : v < n) : ∀ k, BInv lk n v (bRun lk n v k) ∧ ∀ i, i < k → i < (bRun lk n v k).1.length → ∀ s, s < n → lk ((bRun lk n v k).1.getD i 0) s = true → s ∈ (bRun lk n v k).1
  | 0 => ⟨bRun_zero hv, fun _ hi => absurd hi (Nat.not_lt_zero _)⟩
  | k + 1 => by
    obtain ⟨h1, h2⟩ := bRun_inv hv k
    rw [bRun]
    by_cases hk : k < (bRun lk n v k).1.length
    · rw [if_pos hk]
      have hc : (bRun lk n v k).1.getD k 0 ∈ (bRun lk n v k).1 := by rw [List.getD_eq_getElem?_getD, List.getElem?_eq_getElem hk]; exact List.getElem_mem _
      obtain ⟨g1, g2, g3⟩ := bInn_inv h1 hc n (Nat.le_refl _)
      refine ⟨g1, fun i hi hil s hs hlk => ?_⟩
      obtain ⟨⟨l, hl⟩, -⟩ := g2
      have hget : i < (bRun lk n v k).1.length → (bInn lk ((bRun lk n v k).1.getD k 0) (bRun lk n v k) n).1.getD i 0 = (bRun lk n v k).1.getD i 0 := fun hi => by
        rw [hl, List.getD_eq_getElem?_getD, List.getElem?_append_left hi, ← List.getD_eq_getElem?_getD]
      rcases Nat.lt_or_ge i k with hlt | hge
      · rw [hget (by omega)] at hlk
        rw [hl]
        exact List.mem_append_left _ (h2 i hlt (by omega) s hs hlk)
      · obtain rfl : i = k := by omega
        rw [hget hk] at hlk
        exact (g1.mem s hs).1 (g3 s hs hlk)
    · rw [if_neg hk]
      refine ⟨h1, fun i hi hil s hs hlk => ?_⟩
      exact h2 i (by omega) hil s hs hlk
theorem nodup_lt_len : ∀ {l : List Nat} {n : Nat}, l.Nodup → (∀ s ∈ l, s < n) → l.length ≤ n := fun {l n} hd h => by
  have := len_le_sub hd (m := List.range n) fun a ha => List.mem_range.2 (h a ha)
  simpa using this
def farL (lk : Nat → Nat → Bool) (n v : Nat) : List Int := (bRun lk n v n).2
theorem far_facts (hv : v < n) : BInv lk n v (bRun lk n v n) ∧ ∀ c ∈ (bRun lk n v n).1, ∀ s, s < n → lk c s = true → s ∈ (bRun lk n v n).1 := by
  obtain ⟨h1, h2⟩ := bRun_inv (lk := lk) hv n
  refine ⟨h1, fun c hc s hs hlk => ?_⟩
  obtain ⟨i, hi, rfl⟩ := List.getElem_of_mem hc
  have hl := nodup_lt_len h1.nd h1.lt
  exact h2 i (by omega) hi s hs (by rw [List.getD_eq_getElem?_getD, List.getElem?_eq_getElem hi]; exact hlk)
theorem bRun_stay {k : Nat} (h : (bRun lk n v k).1.length ≤ k) : ∀ m, bRun lk n v (k + m) = bRun lk n v k
  | 0 => rfl
  | m + 1 => by
    have ih := bRun_stay h m
    rw [← Nat.add_assoc, bRun, ih, if_neg (by omega)]
theorem bRun_end (hv : v < n) {k : Nat} (h : (bRun lk n v k).1.length ≤ k) : bRun lk n v k = bRun lk n v n := by
  rcases Nat.lt_or_ge k n with hlt | hge
  · have := bRun_stay h (n - k)
    rw [show k + (n - k) = n by omega] at this
    exact this.symm
  · have hn := (bRun_inv (lk := lk) hv n).1
    have := bRun_stay (k := n) (Nat.le_trans (nodup_lt_len hn.nd hn.lt) (Nat.le_refl _)) (k - n)
    rwa [show n + (k - n) = k by omega] at this
theorem far_cn (hv : v < n) {u : Nat} (hu : u < n) : 0 ≤ (farL lk n v).getD u 0 ↔ Cn (fun a b => b < n ∧ lk a b = true) v u := by
  obtain ⟨h1, h2⟩ := far_facts (lk := lk) hv
  unfold farL
  rw [h1.mem u hu]
  constructor
  · have key : ∀ d : Nat, ∀ s ∈ (bRun lk n v n).1, (bRun lk n v n).2.getD s 0 ≤ d → Cn (fun a b => b < n ∧ lk a b = true) v s := by
      intro d
      induction d with
      | zero =>
        intro s hs hd
        rcases h1.pre s hs with rfl | ⟨c, hc, -, he⟩
        · exact .refl
        · have := (h1.mem c (h1.lt c hc)).2 hc; omega
      | succ d ih =>
        intro s hs hd
        rcases h1.pre s hs with rfl | ⟨c, hc, hl, he⟩
        · exact .refl
        · exact .step (ih c hc (by omega)) ⟨h1.lt s hs, hl⟩
    intro hm
    have := (h1.mem u hu).2 hm
    exact key _ u hm (Int.le_of_eq (Int.toNat_of_nonneg this).symm)
  · intro h
    clear hu
    induction h with
    | refl => exact h1.vin.1
    | step _ hl ih => exact h2 _ ih _ hl.1 hl.2
def nxtE (lk : Nat → Nat → Bool) (n v u : Nat) : Nat := fstN n fun z => decide ((farL lk n v).getD z 0 = (farL lk n v).getD u 0 - 1) && lk u z
theorem nxt_spec (hv : v < n) (hs : ∀ a b, lk a b = lk b a) {u : Nat} (hu : u < n) (h : 0 < (farL lk n v).getD u 0) : nxtE lk n v u < n ∧ (farL lk n v).getD (nxtE lk n v u) 0 = (farL lk n v).getD u 0 - 1 ∧ lk u (nxtE lk n v u) = true ∧ ∀ y, y < nxtE lk n v u → (decide ((farL lk n v).getD y 0 = (farL lk n v).getD u 0 - 1) && lk u y) = false := by
  obtain ⟨h1, -⟩ := far_facts (lk := lk) hv
  have hm := (h1.mem u hu).1 (Int.le_of_lt h)
  rcases h1.pre u hm with rfl | ⟨c, hc, hl, he⟩
  · have h0 : (farL lk n u).getD u 0 = 0 := h1.vin.2
    omega
  · have hcn := h1.lt c hc
    have he : (farL lk n v).getD u 0 = (farL lk n v).getD c 0 + 1 := he
    obtain ⟨g1, g2, g3⟩ := fstN_spec hcn (P := fun z => decide ((farL lk n v).getD z 0 = (farL lk n v).getD u 0 - 1) && lk u z) (by
      show (decide _ && _) = true
      rw [decide_eq_true (by omega), hs u c, hl]; rfl)
    have g2 : (decide ((farL lk n v).getD (nxtE lk n v u) 0 = (farL lk n v).getD u 0 - 1) && lk u (nxtE lk n v u)) = true := g2
    rw [Bool.and_eq_true, decide_eq_true_iff] at g2
    exact ⟨Nat.lt_of_le_of_lt g1 hcn, g2.1, g2.2, g3⟩
def wayE (lk : Nat → Nat → Bool) (n v : Nat) : Nat → Nat → List Nat
  | 0, u => [u]
  | d + 1, u => u :: wayE lk n v d (nxtE lk n v u)
theorem way_len : ∀ d u, (wayE lk n v d u).length = d + 1
  | 0, _ => rfl
  | d + 1, u => by rw [wayE, List.length_cons, way_len]
theorem far_zero (hv : v < n) {u : Nat} (hu : u < n) (h : (farL lk n v).getD u 0 = 0) : u = v := by
  obtain ⟨h1, -⟩ := far_facts (lk := lk) hv
  have hm := (h1.mem u hu).1 (by show 0 ≤ (farL lk n v).getD u 0; omega)
  rcases h1.pre u hm with e | ⟨c, hc, -, he⟩
  · exact e
  · have h3 := (h1.mem c (h1.lt c hc)).2 hc
    have he : (farL lk n v).getD u 0 = (bRun lk n v n).2.getD c 0 + 1 := he
    omega
theorem way_facts (hv : v < n) (hs : ∀ a b, lk a b = lk b a) : ∀ (d u : Nat), u < n → (farL lk n v).getD u 0 = (d : Int) → (wayE lk n v d u).getD 0 0 = u ∧ (wayE lk n v d u).getD d 0 = v ∧ (∀ z ∈ wayE lk n v d u, z < n) ∧ ∀ i, i < d → lk ((wayE lk n v d u).getD i 0) ((wayE lk n v d u).getD (i + 1) 0) = true ∧ (wayE lk n v d u).getD i 0 ≠ (wayE lk n v d u).getD (i + 1) 0
  | 0, u, hu, h => ⟨rfl, far_zero hv hu h, fun z hz => by rw [wayE, List.mem_singleton] at hz; subst hz; exact hu, fun i hi => absurd hi (Nat.not_lt_zero _)⟩
  | d + 1, u, hu, h => by
    obtain ⟨g1, g2, g3, -⟩ := nxt_spec hv hs hu (by omega)
    obtain ⟨i1, i2, i3, i4⟩ := way_facts hv hs d (nxtE lk n v u) g1 (by omega)
    refine ⟨rfl, i2, fun z hz => ?_, fun i hi => ?_⟩
    · rw [wayE] at hz
      rcases List.mem_cons.1 hz with rfl | hz
      · exact hu
      · exact i3 z hz
    · cases i with
      | zero =>
        show lk u ((wayE lk n v d (nxtE lk n v u)).getD 0 0) = true ∧ u ≠ (wayE lk n v d (nxtE lk n v u)).getD 0 0
        rw [i1]
        exact ⟨g3, fun e => by rw [← e] at g2; omega⟩
      | succ i => exact i4 i (by omega)
end
end Go.Proofs.Ytkdagmbgjddopaa
