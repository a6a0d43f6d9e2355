/- Lemmas of the proof. No condition. -/
import Derived.Test.YtbohjibbgppfaaaGreatJYo
import Derived.Test.YtbohjibbgppfaaaGreatJKb
import Derived.Test.YtbohjibbgppfaaaGreatJNb
import Derived.Test.YtbohjibbgppfaaaGreatJHl
namespace Go.Proofs.YtbohjibbgppfaaaGreat
open Go Go.Pv Go.Proofs
set_option maxHeartbeats 32000000
set_option maxRecDepth 100000
abbrev relP (k : Int) (T : List (List Int)) : PV := .agg [I k, intss T]
theorem cmpX_drop {a b : List Int} {i : Nat} (ha : i < a.length) (hb : i < b.length) : cmpX (a.drop i) (b.drop i) = if a.getD i 0 = b.getD i 0 then cmpX (a.drop (i + 1)) (b.drop (i + 1)) else if a.getD i 0 < b.getD i 0 then -1 else 1 := by
 rw [drop_cons 0 ha, drop_cons 0 hb]; rfl
theorem rowV_at {V : List (List Int)} {k : Nat} (h : k < V.length) : (V.map ints)[((k : Nat) : Int).toNat]? = some (ints (V.getD k [])) := by
 rw [Int.toNat_natCast, List.getElem?_map, List.getElem?_eq_getElem h, List.getD_eq_getElem?_getD, List.getElem?_eq_getElem h]; rfl
theorem rowV_mem {V : List (List Int)} {k : Nat} (h : k < V.length) : V.getD k [] ∈ V := by
 rw [List.getD_eq_getElem?_getD, List.getElem?_eq_getElem h]; exact List.getElem_mem _
theorem rowI_at {p : List Int} {x : Nat} (h : x < p.length) : (p.map I)[((x : Nat) : Int).toNat]? = some (I (p.getD x 0)) := by rw [Int.toNat_natCast]; exact idx_I h
theorem slessX_c (a b : List Int) (h : a.length = b.length) (hl : a.length ≤ 1048576) : PCalls Tryz.prog 277 [ints a, ints b] (B (decide (cmpX a b < 0))) := by
 refine pcalls1 Tryz.func277 rfl Tryz.ntmps277 rfl ?_
 refine wF ?_
 repeat' (first
| refine wO ?_
| (refine o_go rfl ?_; (first
| refine wS ?_); refine ⟨_, aA, ?_⟩))
 refine g_loopT (α := Nat) (fun i => [(5, I (i : Int))]) (fun _ => []) (fun i => i ≤ a.length ∧ cmpX (a.drop i) (b.drop i) = cmpX a b) (fun i => a.length - i) 0 aH ⟨Nat.zero_le _, rfl⟩ ⟨rfl, trivial⟩ rfl ?_
 rintro i ⟨hi, he⟩
 refine wH ?_
 by_cases hil : i < a.length
 · have ra := rowI_at hil
   have rb := rowI_at (show i < b.length by omega)
   rw [cmpX_drop hil (by omega)] at he
   generalize a.getD i 0 = u at *
   generalize b.getD i 0 = v at *
   by_cases huv : u = v
   · rw [if_pos huv] at he
     repeat' (first
| refine wO ?_
| refine zP zk zk ?_
| (refine o_go rfl ?_; (first
| refine p_p (zN rfl rfl rfl zz ra ze) ?_
| refine p_p (zN rfl rfl rfl zz rb ze) ?_
| refine wS ?_); refine ⟨_, aA, ?_⟩)
| (refine g_condN rfl ?_ ?_ <;> intro hc <;> try omega)
| (refine zK rfl ?_ ?_ <;> intro hc <;> try omega)
| refine wE ?_)
     all_goals try (exfalso; first | omega | exact hc huv)
     exact zT (i + 1) ⟨by omega, he⟩ (by omega) aI ⟨rfl, trivial⟩ (zM _)
   · rw [if_neg huv] at he
     have hv : decide (cmpX a b < 0) = decide (u < v) := by
      rw [← he]
      by_cases h : u < v
      · rw [if_pos h, decide_eq_true h]; rfl
      · rw [if_neg h, decide_eq_false h]; rfl
     rw [hv]
     repeat' (first
| refine wO ?_
| refine zP zk zk ?_
| (refine o_go rfl ?_; (first
| refine p_p (zN rfl rfl rfl zz ra ze) ?_
| refine p_p (zN rfl rfl rfl zz rb ze) ?_
| refine wS ?_); refine ⟨_, aA, ?_⟩)
| (refine g_condN rfl ?_ ?_ <;> intro hc <;> try omega)
| (refine zK rfl ?_ ?_ <;> intro hc <;> try omega)
| refine kr1 ?_
| refine krB rfl ?_
| refine wE ?_)
     all_goals first | rfl | (exfalso; first | omega | exact huv hc)
 · have hz : cmpX a b = 0 := by
    rw [← he, List.drop_of_length_le (by omega), List.drop_of_length_le (by omega)]; rfl
   rw [hz]
   repeat' (first
| refine wO ?_
| (refine o_go rfl ?_; (first
| refine wS ?_); refine ⟨_, aA, ?_⟩)
| (refine zK rfl ?_ ?_ <;> intro hc <;> try omega)
| refine kr1 ?_
| refine krB rfl ?_
| refine wE ?_)
   all_goals first | rfl | (exfalso; omega)
def lbX (L : List (List Int)) (t : List Int) : Nat := fstN L.length fun i => !decide (cmpX (L.getD i []) t < 0)
theorem lbX_eq {L : List (List Int)} {t : List Int} {k : Nat} (hk : k ≤ L.length) (h1 : ∀ i, i < k → cmpX (L.getD i []) t < 0) (h2 : ∀ i, k ≤ i → i < L.length → ¬ cmpX (L.getD i []) t < 0) : lbX L t = k := by
 unfold lbX
 rcases Nat.lt_or_ge k L.length with h | h
 · exact fstN_eq h (by rw [decide_eq_false (h2 k (Nat.le_refl _) h)]; rfl) fun y hy => by rw [decide_eq_true (h1 y hy)]; rfl
 · obtain rfl : k = L.length := by omega
   unfold fstN
   rw [List.find?_range_eq_none.2 fun y hy => by rw [decide_eq_true (h1 y hy)]; rfl]; rfl
theorem ascX_lt {L : List (List Int)} (hL : AscX L) {i j : Nat} (hij : i < j) (hj : j < L.length) : cmpX (L.getD i []) (L.getD j []) < 0 := by
 have := List.pairwise_iff_getElem.1 hL i j (by omega) hj hij
 rw [List.getD_eq_getElem?_getD, List.getD_eq_getElem?_getD, List.getElem?_eq_getElem hj, List.getElem?_eq_getElem (by omega)]
 exact this
theorem lbX_mem {L : List (List Int)} (hL : AscX L) {t : List Int} {k : Nat} (hk : k ≤ L.length) (h1 : ∀ i, i < k → cmpX (L.getD i []) t < 0) (h2 : ∀ i, k ≤ i → i < L.length → ¬ cmpX (L.getD i []) t < 0) : t ∈ L ↔ k < L.length ∧ L.getD k [] = t := by
 constructor
 · intro h
   obtain ⟨i, hi, e⟩ := List.getElem_of_mem h
   have e : L.getD i [] = t := by rw [List.getD_eq_getElem?_getD, List.getElem?_eq_getElem hi]; exact e
   have hik : k ≤ i := by
    rcases Nat.lt_or_ge i k with h' | h'
    · have := h1 i h'
      rw [e, cmpX_self] at this; omega
    · exact h'
   rcases Nat.lt_or_ge k i with h' | h'
   · have := ascX_lt hL h' hi
     rw [e] at this
     exact absurd this (h2 k (Nat.le_refl _) (by omega))
   · obtain rfl : i = k := by omega
     exact ⟨hi, e⟩
 · rintro ⟨h, rfl⟩
   exact rowV_mem h
theorem sfind_c (L : List (List Int)) (t : List Int) (hL : AscX L) (hr : ∀ r ∈ L, r.length = t.length) (hl : L.length ≤ 1048576) (ht : t.length ≤ 1048576) : PCalls Tryz.prog 275 [intss L, ints t] (.tup [I (lbX L t : Int), B (decide (t ∈ L))]) := by
 refine pcalls2 Tryz.func275 rfl Tryz.ntmps275 rfl ?_
 refine wF ?_
 repeat' (first
| refine wO ?_
| (refine o_go rfl ?_; (first
| refine wS ?_); refine ⟨_, aA, ?_⟩))
 refine g_loopT (α := Nat × Nat) (fun x => [(6, I (x.1 : Int)), (7, I (x.2 : Int))]) (fun _ => []) (fun x => x.1 ≤ x.2 ∧ x.2 ≤ L.length ∧ (∀ i, i < x.1 → cmpX (L.getD i []) t < 0) ∧ ∀ i, x.2 ≤ i → i < L.length → ¬ cmpX (L.getD i []) t < 0) (fun x => x.2 - x.1) (0, L.length) aH ⟨Nat.zero_le _, Nat.le_refl _, fun i hi => absurd hi (Nat.not_lt_zero _), fun i h1 h2 => by dsimp only at h1; omega⟩ ⟨rfl, rfl, trivial⟩ rfl ?_
 rintro ⟨a, b⟩ ⟨h1, h2, h3, h4⟩
 dsimp only at h1 h2 h3 h4
 refine wH ?_
 by_cases hab : a < b
 · have hm : ((a : Int) + (b : Int)) / 2 = (((a + b) / 2 : Nat) : Int) := by omega
   obtain ⟨m, hme⟩ : ∃ m, m = (a + b) / 2 := ⟨_, rfl⟩
   rw [← hme] at hm
   have hml : m < L.length := by omega
   have rm := rowV_at hml
   have hrm := hr _ (rowV_mem hml)
   have c1 := slessX_c (L.getD m []) t hrm (by omega)
   by_cases hlt : cmpX (L.getD m []) t < 0
   · rw [decide_eq_true hlt] at c1
     repeat' (first
| refine wO ?_
| (refine o_go rfl ?_; (first
| refine p_p (ps_quoV rfl rfl rfl hm zz zz zz) ?_
| refine p_p (zN rfl rfl rfl zz rm ze) ?_
| refine p_p (zG rfl rfl aD (c1)) ?_
| refine wS ?_); refine ⟨_, aA, ?_⟩)
| (refine zK rfl ?_ ?_ <;> intro hc <;> try omega)
| refine wE ?_)
     all_goals try (exfalso; omega)
     refine zT (m + 1, b) ⟨by dsimp only; omega, h2, fun i hi => ?_, h4⟩ (by dsimp only; omega) aI ⟨vI (by dsimp only; omega), rfl, trivial⟩ (zM _)
     have hi : i < m + 1 := hi
     rcases Nat.lt_or_ge i m with h | h
     · exact cmpX_trans (ascX_lt hL h hml) hlt
     · rw [show i = m by omega]; exact hlt
   · rw [decide_eq_false hlt] at c1
     repeat' (first
| refine wO ?_
| (refine o_go rfl ?_; (first
| refine p_p (ps_quoV rfl rfl rfl hm zz zz zz) ?_
| refine p_p (zN rfl rfl rfl zz rm ze) ?_
| refine p_p (zG rfl rfl aD (c1)) ?_
| refine wS ?_); refine ⟨_, aA, ?_⟩)
| (refine zK rfl ?_ ?_ <;> intro hc <;> try omega)
| refine wE ?_)
     all_goals try (exfalso; omega)
     refine zT (a, m) ⟨by dsimp only; omega, by dsimp only; omega, h3, fun i hi hil => ?_⟩ (by dsimp only; omega) aI ⟨rfl, rfl, trivial⟩ (zM _)
     have hi : m ≤ i := hi
     rcases Nat.lt_or_ge m i with h | h
     · exact fun h5 => hlt (cmpX_trans (ascX_lt hL h hil) h5)
     · rw [show i = m by omega]; exact hlt
 · obtain rfl : a = b := by omega
   have hlb := lbX_eq h2 h3 h4
   have hmem := lbX_mem hL h2 h3 h4
   rw [hlb]
   by_cases hal : a < L.length
   · have ra := rowV_at hal
     have hra := hr _ (rowV_mem hal)
     have c2 := gsame_c (L.getD a []) t (by omega)
     have hv : decide (t ∈ L) = decide (L.getD a [] = t) := by
      rw [decide_eq_decide, hmem]
      exact ⟨fun h => h.2, fun h => ⟨hal, h⟩⟩
     rw [hv]
     generalize decide (L.getD a [] = t) = e at *
     repeat' (first
| refine wO ?_
| (refine o_go rfl ?_; (first
| refine p_p (zN rfl rfl rfl zz ra ze) ?_
| refine p_p (zG rfl rfl aD (c2)) ?_
| refine wS ?_); refine ⟨_, aA, ?_⟩)
| (refine o_splitD rfl rfl rfl ?_ ?_ <;> intro hc <;> first | omega | dsimp only [List.set_cons_zero, List.set_cons_succ])
| (refine zK rfl ?_ ?_ <;> intro hc <;> try omega)
| refine kr2 ?_ ?_
| refine krB rfl ?_
| refine krI rfl ?_
| refine wE ?_)
     all_goals first | rfl | (exfalso; omega)
   · have hv : decide (t ∈ L) = false := decide_eq_false fun h => hal (hmem.1 h).1
     rw [hv]
     repeat' (first
| refine wO ?_
| (refine o_go rfl ?_; (first
| refine wS ?_); refine ⟨_, aA, ?_⟩)
| (refine o_s rfl ?_; refine ⟨_, aA, ?_⟩)
| (refine o_splitD rfl rfl rfl ?_ ?_ <;> intro hc <;> first | omega | dsimp only [List.set_cons_zero, List.set_cons_succ])
| (refine zK rfl ?_ ?_ <;> intro hc <;> try omega)
| refine kr2 ?_ ?_
| refine krB rfl ?_
| refine krI rfl ?_
| refine wE ?_)
     all_goals first | rfl | (exfalso; omega)
theorem shas_c (k : Nat) (T : List (List Int)) (t : List Int) (hT : AscX T) (hr : ∀ r ∈ T, r.length = k) (ht : t.length = k) (hl : T.length ≤ 1048576) (hk : k ≤ 1048576) : PCalls Tryz.prog 257 [relP k T, ints t] (B (decide (t ∈ T))) := by
 refine pcalls1 Tryz.func257 rfl Tryz.ntmps257 rfl ?_
 refine wF ?_
 have c1 := sfind_c T t hT (by rw [ht]; exact hr) hl (by omega)
 generalize decide (t ∈ T) = e at *
 repeat' (first
| refine wO ?_
| (refine o_go rfl ?_; (first
| refine p_p (zG rfl rfl aD (c1)) ?_
| refine wS ?_
| refine p_p (ps_box rfl rfl) ?_); refine ⟨_, aA, ?_⟩)
| (refine g_condN rfl ?_ ?_ <;> intro hc <;> try omega)
| refine kr1 ?_
| refine krB rfl ?_
| refine wE ?_)
 all_goals first | rfl | (exfalso; omega)
theorem ssame8_c (V W : List (List Int)) (hV : V.length ≤ 1048576) (hr : ∀ r ∈ V, r.length ≤ 1048576) (hW : W.length ≤ 1048576) : PCalls Tryz.prog 203 [intss V, intss W] (B (decide (V = W))) := by
 refine pcalls1 Tryz.func203 rfl Tryz.ntmps203 rfl ?_
 refine wF ?_
 repeat' (first
| refine wO ?_
| (refine o_go rfl ?_; (first
| refine wS ?_); refine ⟨_, aA, ?_⟩))
 refine g_loopT (α := Nat) (fun i => [(5, I (i : Int))]) (fun _ => []) (fun i => i ≤ V.length ∧ i ≤ W.length ∧ V.take i = W.take i) (fun i => V.length - i) 0 aH ⟨Nat.zero_le _, Nat.zero_le _, by simp⟩ ⟨rfl, trivial⟩ rfl ?_
 rintro i ⟨hi, hj, he⟩
 refine wH ?_
 by_cases hiv : i < V.length
 · by_cases hiw : i < W.length
   · have r1 := rowV_at hiv
     have r2 := rowV_at hiw
     have c1 := gsame_c (V.getD i []) (W.getD i []) (by have := hr _ (rowV_mem hiv); omega)
     by_cases hvw : V.getD i [] = W.getD i []
     · rw [decide_eq_true hvw] at c1
       repeat' (first
| refine wO ?_
| refine zP zk zk ?_
| (refine o_go rfl ?_; (first
| refine p_p (zN rfl rfl rfl zz r1 ze) ?_
| refine p_p (zN rfl rfl rfl zz r2 ze) ?_
| refine p_p (zG rfl rfl aD (c1)) ?_
| refine wS ?_); refine ⟨_, aA, ?_⟩)
| (refine o_splitD rfl rfl rfl ?_ ?_ <;> intro hc <;> first | omega | dsimp only [List.set_cons_zero, List.set_cons_succ])
| (refine zK rfl ?_ ?_ <;> intro hc <;> try omega)
| refine wE ?_)
       all_goals try (exfalso; omega)
       exact zT (i + 1) ⟨by omega, by omega, by rw [take_snoc [] hiv, take_snoc [] hiw, he, hvw]⟩ (by omega) aI ⟨rfl, trivial⟩ (zM _)
     · rw [decide_eq_false hvw] at c1
       rw [decide_eq_false (fun h => hvw (by rw [h]))]
       repeat' (first
| refine wO ?_
| refine zP zk zk ?_
| (refine o_go rfl ?_; (first
| refine p_p (zN rfl rfl rfl zz r1 ze) ?_
| refine p_p (zN rfl rfl rfl zz r2 ze) ?_
| refine p_p (zG rfl rfl aD (c1)) ?_
| refine wS ?_); refine ⟨_, aA, ?_⟩)
| (refine o_splitD rfl rfl rfl ?_ ?_ <;> intro hc <;> first | omega | dsimp only [List.set_cons_zero, List.set_cons_succ])
| (refine zK rfl ?_ ?_ <;> intro hc <;> try omega)
| refine kr1 ?_
| refine krB rfl ?_
| refine wE ?_)
       all_goals first | rfl | (exfalso; omega)
   · rw [decide_eq_false (fun h : V = W => by rw [h] at hiv; exact hiw hiv)]
     repeat' (first
| refine wO ?_
| (refine o_go rfl ?_; (first
| refine wS ?_); refine ⟨_, aA, ?_⟩)
| (refine o_splitD rfl rfl rfl ?_ ?_ <;> intro hc <;> first | omega | dsimp only [List.set_cons_zero, List.set_cons_succ])
| (refine zK rfl ?_ ?_ <;> intro hc <;> try omega)
| refine kr1 ?_
| refine krB rfl ?_
| refine wE ?_)
     all_goals first | rfl | (exfalso; omega) | exact decide_eq_false (by omega) | exact decide_eq_true (by omega)
 · by_cases hvw : V = W
   · have : V.length = W.length := by rw [hvw]
     rw [decide_eq_true hvw]
     repeat' (first
| refine wO ?_
| (refine o_go rfl ?_; (first
| refine wS ?_); refine ⟨_, aA, ?_⟩)
| (refine o_s rfl ?_; refine ⟨_, aA, ?_⟩)
| (refine o_splitD rfl rfl rfl ?_ ?_ <;> intro hc <;> first | omega | dsimp only [List.set_cons_zero, List.set_cons_succ])
| refine kr1 ?_
| refine krB rfl ?_
| refine wE ?_)
     all_goals first | rfl | (exfalso; omega) | exact decide_eq_false (by omega) | exact decide_eq_true (by omega)
   · have hne : V.length ≠ W.length := fun h => hvw (by
      rw [List.take_of_length_le (by omega), List.take_of_length_le (by omega)] at he; exact he)
     rw [decide_eq_false hvw]
     repeat' (first
| refine wO ?_
| (refine o_go rfl ?_; (first
| refine wS ?_); refine ⟨_, aA, ?_⟩)
| (refine o_s rfl ?_; refine ⟨_, aA, ?_⟩)
| (refine o_splitD rfl rfl rfl ?_ ?_ <;> intro hc <;> first | omega | dsimp only [List.set_cons_zero, List.set_cons_succ])
| refine kr1 ?_
| refine krB rfl ?_
| refine wE ?_)
     all_goals first | rfl | (exfalso; omega) | exact decide_eq_false (by omega) | exact decide_eq_true (by omega)
end Go.Proofs.YtbohjibbgppfaaaGreat
