/- Walks: the search for embeddings, the program's side. -/
import Derived.Test.YtepjlgilopfnpaaGreatJTn
import Derived.Test.YtepjlgilopfnpaaGreatJKo
import Derived.Test.YtepjlgilopfnpaaGreatJGf
namespace Go.Proofs.YtepjlgilopfnpaaGreat
open Go Go.Pv Go.Proofs
set_option maxHeartbeats 32000000
set_option maxRecDepth 100000
attribute [local bitvec_to_nat] posI optP lendM1 lendMA lendMP killM1 killMA killMP hasI getO backM1 backMA backMP putL inpM pinM1 pinMA pinMP killK1 killKA killKP

abbrev cloF (b : Nat) : PV := .fn 117 [] [.ptr [.fn 60 [] []], .val (.pointer (some ⟨b, 0, none⟩))]
abbrev schC (n : Nat) (A : List OpD) (m : Nat) (Z : List OpD) (t b : Nat) : List PV := [I (n : Int), opsP A, I (m : Int), opsP Z, Go.Pv.B true, I (t : Int), cloF b]
def fstV : Option (List Int) → PV
 | none => nilV
 | some g => ints g
abbrev arrI (f : List Int) : HO := .arr true 1 3 (f.map I)
/-! ### The images that have been seen -/
def mkS (f : List Int) (m k : Nat) : List Bool := (List.range m).map fun y : Nat => (List.range k).any fun j => decide (f.getD j 0 = (y : Int))
theorem mkS_len (f : List Int) (m k : Nat) : (mkS f m k).length = m := by simp [mkS]
theorem mkS_zero (f : List Int) (m : Nat) : (mkS f m 0).map Go.Pv.B = List.replicate m (Go.Pv.B false) := by
 unfold mkS
 refine List.ext_getElem (by simp) fun i h1 h2 => ?_
 simp
theorem mkS_at {f : List Int} {m k x : Nat} (hx : x < m) : ((mkS f m k).map Go.Pv.B)[x * 1]? = some (Go.Pv.B ((List.range k).any fun j => decide (f.getD j 0 = (x : Int)))) := by
 rw [Nat.mul_one, List.getElem?_map]
 unfold mkS
 rw [List.getElem?_map, List.getElem?_range hx]; rfl
theorem mkS_neg {f : List Int} {m k : Nat} (h : f.getD k 0 < 0) : mkS f m (k + 1) = mkS f m k := by
 unfold mkS
 refine List.map_congr_left fun y _ => ?_
 rw [List.range_succ, List.any_append, List.any_cons, List.any_nil, decide_eq_false (by omega), Bool.or_false, Bool.or_false]
theorem mkS_set {f : List Int} {m k x : Nat} (h : f.getD k 0 = (x : Int)) : ((mkS f m k).map Go.Pv.B).set x (Go.Pv.B true) = (mkS f m (k + 1)).map Go.Pv.B := by
 rw [← List.map_set]
 congr 1
 refine List.ext_getElem (by simp [mkS]) fun i h1 h2 => ?_
 have hi : i < m := by simpa [mkS] using h2
 rw [List.getElem_set]
 simp only [mkS, List.getElem_map, List.getElem_range, List.range_succ, List.any_append, List.any_cons, List.any_nil, Bool.or_false, h]
 by_cases e : x = i
 · subst e; simp
 · rw [if_neg e, decide_eq_false (fun h : (x : Int) = (i : Int) => e (Int.ofNat.inj h)), Bool.or_false]
theorem seenB_bad {f : List Int} {k : Nat} (h : seenB f k = false) : ∀ n, k ≤ n → seenB f n = false
 | 0, hk => by
  have : k = 0 := by omega
  subst this; exact h
 | n + 1, hk => by
  by_cases e : k = n + 1
  · subst e; exact h
  · unfold seenB
    rw [seenB_bad h n (by omega), Bool.false_and]
theorem any_all {f : List Int} {k : Nat} {v : Int} : ((List.range k).all fun j => !decide (f.getD j 0 = v)) = !((List.range k).any fun j => decide (f.getD j 0 = v)) := by
 rw [List.not_any_eq_all_not]
theorem ifits_M (n m t b : Nat) (A Z : List OpD) (f : List Int) (hn0 : 0 < n) (hn : n ≤ 8) (hm0 : 0 < m) (hm : m ≤ 8) (hl : A.length ≤ 1048576) (hA : opsIn n A) (hZ : opsIn m Z) (ht : sameT A Z) (hf : ParM n m f) :
 MCalls Tryz.prog 159 [.box (schC n A m Z t b), arrI f] [.hat 0 0, .hp 1] [.box (schC n A m Z t b), arrI (fitE n m A Z f).1] [0, 1] (Go.Pv.B (fitE n m A Z f).2) := by
 have h1 := icm_L n m A Z f hn0 hn hm0 hm hl hA hZ ht hf
 have hp := (cmSt_par (alk_of hn0 hm0 hA hZ ht) hf (n + 1)).1
 have hp : ParM n m (cmFin n m A Z f).1 := hp
 unfold fitE
 generalize cmFin n m A Z f = c at *
 obtain ⟨g, ok⟩ := c
 dsimp only at h1 hp ⊢
 have hgl : g.length = n := hp.1
 have hfl : f.length = n := hf.1
 have hgm : (g.map I).length = n := by rw [List.length_map]; exact hgl
 have hfm : (f.map I).length = n := by rw [List.length_map]; exact hfl
 refine pcallsM1 Tryz.func159 rfl Tryz.ntmps159 rfl rfl fun bd => ?_
 simp only [List.length_cons, List.length_nil, Nat.reduceAdd, Nat.reduceSub, List.replicate_succ, List.replicate_zero, List.map_cons, List.map_nil, List.cons_append, List.nil_append]; dsimp only [pinMP, pinMA, pinM1, hasI, List.map_cons, List.map_nil, Nat.reduceBEq, n_cond_t, n_cond_f]
 cases ok with
 | false =>
  rw [Bool.false_and]
  repeat' (first
| refine wO ?_
| refine zP zk zk ?_
| (refine o_go rfl ?_; (first
| refine p_e rfl (e_callL (n := 1) rfl rfl rfl aL rfl (by rfl) (by exact ⟨rfl, rfl, rfl, by omega⟩) h1) ?_
| refine p_p (ps_unv (ps_nilCheck_hat rfl rfl)) ?_
| refine wS ?_); refine ⟨_, aB, ?_⟩)
| refine wE ?_)
  all_goals try (exfalso; omega)
  exact krm (hpLe_refl _) ⟨⟨0, 0, rfl⟩, ⟨1, 0, rfl⟩, trivial⟩ (leS_refl _)
 | true =>
  rw [Bool.true_and]
  repeat' (first
| refine wO ?_
| refine zP zk zk ?_
| (refine o_go rfl ?_; (first
| refine p_e rfl (e_callL (n := 1) rfl rfl rfl aL rfl (by rfl) (by exact ⟨rfl, rfl, rfl, by omega⟩) h1) ?_
| refine p_p (ps_unv (ps_nilCheck_hat rfl rfl)) ?_
| refine p_p (ps_unv (ps_len_mut rfl rfl rfl rfl)) ?_
| refine wS ?_
| refine p_e rfl (e_make1 rfl rfl rfl zz zz zz rfl rfl) ?_); refine ⟨_, aB, ?_⟩)
| refine wE ?_)
  all_goals try (exfalso; omega)
  refine g_loopT (α := Nat) (fun k => [(32, I (k : Int))]) (fun k => [.box (schC n A m Z t b), arrI g, .arr true 1 4 ((mkS g m k).map Go.Pv.B)]) (fun k => k ≤ n ∧ seenB g k = true) (fun k => n - k) 0 aH ⟨Nat.zero_le _, rfl⟩ ⟨rfl, trivial⟩ (by show _ = [HO.box (schC n A m Z t b), arrI g, HO.arr true 1 4 ((mkS g m 0).map Go.Pv.B)]; rw [mkS_zero]) ?_
  rintro k ⟨hk, hs⟩
  refine wH ?_
  have hml : ((mkS g m k).map Go.Pv.B).length = m := by rw [List.length_map, mkS_len]
  by_cases hkn : k < n
  · have i1 : (g.map I)[k * 1]? = some (I (g.getD k 0)) := by rw [Nat.mul_one]; exact idx_I (by omega)
    have hb := hp.2 k hkn
    have hse : seenB g (k + 1) = (seenB g k && (decide (g.getD k 0 < 0) || (List.range k).all fun j => !decide (g.getD j 0 = g.getD k 0))) := rfl
    rw [hs, Bool.true_and] at hse
    have hbad := fun h => seenB_bad (f := g) (k := k + 1) h n (by omega)
    by_cases h0 : g.getD k 0 < 0
    · rw [decide_eq_true h0, Bool.true_or] at hse
      have hms := mkS_neg (m := m) h0
      clear hbad
      generalize g.getD k 0 = x at *
      repeat' (first
| refine wO ?_
| (refine o_go rfl ?_; (first
| refine p_p (ps_unv (yA rfl rfl rfl rfl zz (by rw [n_toNat]; omega))) ?_
| refine p_p (ps_load_arr rfl rfl rfl i1 (by rfl)) ?_
| refine wS ?_); refine ⟨_, aB, ?_⟩)
| (refine o_s rfl ?_; refine ⟨_, aB, ?_⟩)
| (refine o_splitD rfl rfl rfl ?_ ?_ <;> intro hc <;> first | omega | dsimp only [List.set_cons_zero, List.set_cons_succ])
| (refine zK rfl ?_ ?_ <;> intro hc <;> try omega)
| refine wE ?_)
      all_goals try (exfalso; omega)
      exact zT (k + 1) ⟨by omega, hse⟩ (by omega) aI ⟨rfl, trivial⟩ (zB rfl (zB rfl (zB (by rw [hms]) (zM _))))
    · obtain ⟨y, hy⟩ : ∃ y : Nat, g.getD k 0 = (y : Int) := ⟨(g.getD k 0).toNat, by omega⟩
      rw [decide_eq_false h0, Bool.false_or, any_all, hy] at hse
      have hat := mkS_at (f := g) (k := k) (show y < m by omega)
      have hset := mkS_set (m := m) hy
      rw [hy] at i1 hb h0
      generalize (List.range k).any (fun j => decide (g.getD j 0 = (y : Int))) = sn at *
      cases sn with
      | true =>
       rw [hbad hse]
       repeat' (first
| refine wO ?_
| (refine o_go rfl ?_; (first
| refine p_p (ps_unv (yA rfl rfl rfl rfl zz (by rw [n_toNat]; omega))) ?_
| refine p_p (ps_load_arr rfl rfl rfl i1 (by rfl)) ?_
| refine p_p (ps_load_arr rfl rfl rfl hat (by rfl)) ?_
| refine wS ?_); refine ⟨_, aB, ?_⟩)
| (refine zK rfl ?_ ?_ <;> intro hc <;> try omega)
| refine wE ?_)
       all_goals try (exfalso; omega)
       exact krm (zB rfl (zB rfl (zM _))) ⟨⟨0, 0, rfl⟩, ⟨1, 0, rfl⟩, trivial⟩ (leS_refl _)
      | false =>
       clear hbad
       repeat' (first
| refine wO ?_
| (refine o_go rfl ?_; (first
| refine p_p (ps_unv (yA rfl rfl rfl rfl zz (by rw [n_toNat]; omega))) ?_
| refine p_p (ps_load_arr rfl rfl rfl i1 (by rfl)) ?_
| refine p_p (ps_load_arr rfl rfl rfl hat (by rfl)) ?_
| refine wS ?_
| refine p_e rfl (e_store_arr rfl rfl rfl rfl aR rfl rfl) ?_); refine ⟨_, aB, ?_⟩)
| (refine zK rfl ?_ ?_ <;> intro hc <;> try omega)
| refine wE ?_)
       all_goals try (exfalso; omega)
       exact zT (k + 1) ⟨by omega, hse⟩ (by omega) aI ⟨rfl, trivial⟩ (zB rfl (zB rfl (zB (by first | rw [Nat.mul_one, hset] | rw [n_toNat, Nat.mul_one, hset] | rw [hset]) (zM _))))
  · have hse : seenB g n = true := by rw [show n = k by omega]; exact hs
    rw [hse]
    repeat' (first
| refine wO ?_
| (refine o_go rfl ?_; (first
| refine wS ?_); refine ⟨_, aB, ?_⟩)
| (refine zK rfl ?_ ?_ <;> intro hc <;> try omega)
| refine wE ?_)
    all_goals try (exfalso; omega)
    exact krm (zB rfl (zB rfl (zM _))) ⟨⟨0, 0, rfl⟩, ⟨1, 0, rfl⟩, trivial⟩ (leS_refl _)
/-! ### The search -/
theorem firstOpen_le (n : Nat) (f : List Int) : firstOpen n f ≤ n := by
 rcases Nat.lt_or_ge n (firstOpen n f) with h | h
 · unfold firstOpen fstN at h
   cases e : (List.range n).find? fun x => decide (f.getD x 0 < 0) with
   | none => rw [e] at h; exact absurd h (Nat.lt_irrefl n)
   | some y =>
    rw [e] at h
    have h : n < y := h
    have := List.mem_range.1 (List.mem_of_find?_eq_some e)
    omega
 · exact h
theorem srF_stop {n m : Nat} {A Z : List OpD} {rc : List Int → Nat → Option (List Int) → SrR} {f : List Int} {s : SrR} {k : Nat} (h : (srF n m A Z rc f s k).cont = false) : ∀ j, srF n m A Z rc f s (k + j) = srF n m A Z rc f s k
 | 0 => rfl
 | j + 1 => by
  rw [← Nat.add_assoc, srF_s, srF_stop h j]
  unfold srStep
  rw [h, if_neg Bool.false_ne_true]
def stepR (n m : Nat) (A Z : List OpD) (rc : List Int → Nat → Option (List Int) → SrR) (f : List Int) (t : Nat) (F : Option (List Int)) : SrR :=
 if firstOpen n f < n then srF n m A Z rc f ⟨t, F, true⟩ m else ⟨t, some f, false⟩
theorem ianyh_c (f : List Int) : PCalls Tryz.prog 60 [ints f] (Go.Pv.B true) := by
 refine pcalls1 Tryz.func60 rfl Tryz.ntmps60 rfl ?_
 refine wF ?_
 repeat' (first
| refine wO ?_
| (refine o_go rfl ?_; (first
| refine wS ?_); refine ⟨_, aB, ?_⟩)
| refine kr1 ?_
| refine krB rfl ?_
| refine wE ?_)
 all_goals rfl
theorem iclo_M (b : Nat) (f : List Int) (F : Option (List Int)) (hl : f.length ≤ 1048576) : MCalls Tryz.prog 117 [.pin b [fstV F], arrI f] [.hp 1, .ptr [.fn 60 [] []], .val (.pointer (some ⟨b, 0, none⟩))] [.pin b [ints f], arrI f] [] (Go.Pv.B false) := by
 have h1 := ianyh_c f
 have h2 := iclone_R f hl
 refine pcallsM1 Tryz.func117 rfl Tryz.ntmps117 rfl rfl fun bd => ?_
 simp only [List.length_cons, List.length_nil, Nat.reduceAdd, Nat.reduceSub, List.replicate_succ, List.replicate_zero, List.map_cons, List.map_nil, List.cons_append, List.nil_append]; dsimp only [pinMP, pinMA, pinM1, hasI, List.map_cons, List.map_nil, Nat.reduceBEq, n_cond_t, n_cond_f]
 repeat' (first
| refine wO ?_
| (refine o_go rfl ?_; (first
| refine p_p (ps_callM rfl rfl aD (by rfl) (h1)) ?_
| refine p_p (ps_callRV rfl rfl aD (h2)) ?_
| refine p_e zk (e_storeP (id := 0) rfl rfl rfl rfl aK rfl rfl) ?_
| refine wS ?_); refine ⟨_, aB, ?_⟩)
| refine wE ?_)
 all_goals try (exfalso; omega)
 exact krm (zB rfl (zB rfl (zM _))) trivial (leS_refl _)
theorem iext_S (n m b : Nat) (A Z : List OpD) (hn0 : 0 < n) (hn : n ≤ 8) (hm0 : 0 < m) (hm : m ≤ 8) (hl : A.length ≤ 1048576) (hA : opsIn n A) (hZ : opsIn m Z) (ht : sameT A Z) (rc : List Int → Nat → Option (List Int) → SrR) (f : List Int) (t : Nat) (F : Option (List Int)) (hf : ParM n m f) (ht5 : t ≤ 5000) (hF : ∀ g, F = some g → g.length = n)
 (hP : ∀ x, x < m → ∀ t F, t ≤ 5000 → (∀ g, F = some g → g.length = n) → firstOpen n f < n → SrP n (rc (fitE n m A Z (f.set (firstOpen n f) (x : Int))).1 t F))
 (hrc : firstOpen n f < n → ∀ x, x < m → ∀ t F, t ≤ 5000 → (∀ g, F = some g → g.length = n) → MCalls Tryz.prog 160 [.box (schC n A m Z t b), .pin b [fstV F], arrI (fitE n m A Z (f.set (firstOpen n f) (x : Int))).1] [.hat 0 0, .hp 2]
  [.box (schC n A m Z (rc (fitE n m A Z (f.set (firstOpen n f) (x : Int))).1 t F).t b), .pin b [fstV (rc (fitE n m A Z (f.set (firstOpen n f) (x : Int))).1 t F).first], arrI (fitE n m A Z (f.set (firstOpen n f) (x : Int))).1] [0] (Go.Pv.B (rc (fitE n m A Z (f.set (firstOpen n f) (x : Int))).1 t F).cont)) :
 MCalls Tryz.prog 160 [.box (schC n A m Z t b), .pin b [fstV F], arrI f] [.hat 0 0, .hp 2] [.box (schC n A m Z (stepR n m A Z rc f t F).t b), .pin b [fstV (stepR n m A Z rc f t F).first], arrI f] [0] (Go.Pv.B (stepR n m A Z rc f t F).cont) := by
 have hfl : f.length = n := hf.1
 have hfm : (f.map I).length = n := by rw [List.length_map]; exact hfl
 have hle := firstOpen_le n f
 have hlow := fun (h : firstOpen n f < n) => firstOpen_lt h
 have hno := fun (h : ¬ firstOpen n f < n) {x : Nat} (hx : x < n) => firstOpen_no h hx
 have hfit := fun (h : firstOpen n f < n) {x t : Nat} (hx : x < m) => ifits_M n m t b A Z (f.set (firstOpen n f) (x : Int)) hn0 hn hm0 hm hl hA hZ ht (par_set hf hx)
 have hgl := fun (h : firstOpen n f < n) {x : Nat} (hx : x < m) => (fit_par (alk_of hn0 hm0 hA hZ ht) (par_set hf (v := firstOpen n f) hx)).1.1
 have hcl := iclone_R f (by omega)
 have hfo := iclo_M b f F (by omega)
 refine pcallsM1 Tryz.func160 rfl Tryz.ntmps160 rfl rfl fun bd => ?_
 simp only [List.length_cons, List.length_nil, Nat.reduceAdd, Nat.reduceSub, List.replicate_succ, List.replicate_zero, List.map_cons, List.map_nil, List.cons_append, List.nil_append]; dsimp only [pinMP, pinMA, pinM1, hasI, List.map_cons, List.map_nil, Nat.reduceBEq, n_cond_t, n_cond_f]
 have hsR : stepR n m A Z rc f t F = if firstOpen n f < n then srF n m A Z rc f ⟨t, F, true⟩ m else ⟨t, some f, false⟩ := rfl
 have hsP := fun (h : firstOpen n f < n) (x : Nat) (hx : x ≤ m) => srF_P (s := ⟨t, F, true⟩) (fun x hx t F ht hF => hP x hx t F ht hF h) ⟨by show t ≤ 5001; omega, fun _ => ht5, (fun h => by cases (show true = false from h)), hF⟩ x hx
 have hss := fun x => srF_s (n := n) (m := m) (A := A) (B := Z) (rc := rc) (f := f) (s := ⟨t, F, true⟩) x
 have hst := fun (x : Nat) (h : (srF n m A Z rc f ⟨t, F, true⟩ x).cont = false) (hx : x ≤ m) => (show srF n m A Z rc f ⟨t, F, true⟩ m = srF n m A Z rc f ⟨t, F, true⟩ x by have := srF_stop h (m - x); rwa [show x + (m - x) = m by omega] at this)
 rw [hsR]
 clear hsR
 have hstep : ∀ (s : SrR) (x : Nat), srStep n m A Z rc f s x = if s.cont then (if 5000 < s.t + 1 then ⟨s.t + 1, s.first, false⟩ else if (fitE n m A Z (f.set (firstOpen n f) (x : Int))).2 then rc (fitE n m A Z (f.set (firstOpen n f) (x : Int))).1 (s.t + 1) s.first else ⟨s.t + 1, s.first, true⟩) else s := fun _ _ => rfl
 generalize firstOpen n f = o at *
 repeat' (first
| refine wO ?_
| (refine o_go rfl ?_; (first
| refine wS ?_); refine ⟨_, aB, ?_⟩))
 refine g_loopT (α := Nat) (fun j => [(5, I (j : Int))]) (fun _ => [.box (schC n A m Z t b), .pin b [fstV F], arrI f]) (fun j => j ≤ o) (fun j => o - j) 0 aH (Nat.zero_le _) ⟨rfl, trivial⟩ rfl ?_
 rintro j hj
 refine wH ?_
 by_cases hjo : j < o
 · have i1 : (f.map I)[j * 1]? = some (I (f.getD j 0)) := by rw [Nat.mul_one]; exact idx_I (by omega)
   have h0 : 0 ≤ f.getD j 0 := by
    by_cases h : o < n
    · exact (hlow h).2 j hjo
    · exact hno h (by omega)
   generalize f.getD j 0 = v at *
   repeat' (first
| refine wO ?_
| (refine o_go rfl ?_; (first
| refine p_p (ps_load_arr rfl rfl rfl i1 (by rfl)) ?_
| refine wS ?_
| refine p_p (ps_len_mut rfl rfl rfl rfl) ?_); refine ⟨_, aB, ?_⟩)
| (refine o_splitD rfl rfl rfl ?_ ?_ <;> intro hc <;> first | omega | dsimp only [List.set_cons_zero, List.set_cons_succ])
| (refine zK rfl ?_ ?_ <;> intro hc <;> try omega)
| refine wE ?_)
   all_goals try (exfalso; omega)
   exact zT (j + 1) (by omega) (by omega) aI ⟨rfl, trivial⟩ (hpLe_refl _)
 · obtain rfl : j = o := by omega
   by_cases h0 : j < n
   · rw [if_pos h0]
     have i1 : (f.map I)[j * 1]? = some (I (f.getD j 0)) := by rw [Nat.mul_one]; exact idx_I (by omega)
     have hneg := (hlow h0).1
     have hfit := @hfit h0
     have hrc := hrc h0
     have hsP := hsP h0
     have hgl := @hgl h0
     clear hlow hno hP hfo
     generalize f.getD j 0 = v at *
     repeat' (first
| refine wO ?_
| (refine o_go rfl ?_; (first
| refine p_p (ps_load_arr rfl rfl rfl i1 (by rfl)) ?_
| refine wS ?_
| refine p_p (ps_len_mut rfl rfl rfl rfl) ?_); refine ⟨_, aB, ?_⟩)
| (refine o_splitD rfl rfl rfl ?_ ?_ <;> intro hc <;> first | omega | dsimp only [List.set_cons_zero, List.set_cons_succ])
| (refine zK rfl ?_ ?_ <;> intro hc <;> try omega)
| refine wE ?_)
     all_goals try (exfalso; omega)
     refine g_loopT (α := Nat) (fun x => [(6, I (x : Int))]) (fun x => [.box (schC n A m Z (srF n m A Z rc f ⟨t, F, true⟩ x).t b), .pin b [fstV (srF n m A Z rc f ⟨t, F, true⟩ x).first], arrI f]) (fun x => x ≤ m ∧ (srF n m A Z rc f ⟨t, F, true⟩ x).cont = true) (fun x => m - x) 0 aH ⟨Nat.zero_le _, rfl⟩ ⟨rfl, trivial⟩ rfl ?_
     rintro x ⟨hx, hc0⟩
     have hsP := hsP x hx
     have hs := hss x
     rw [hstep, hc0, if_pos rfl] at hs
     have hst := hst (x + 1)
     by_cases hxm : x < m
     · have hfit := hfit hxm (t := (srF n m A Z rc f ⟨t, F, true⟩ x).t + 1)
       have hrc := hrc x hxm ((srF n m A Z rc f ⟨t, F, true⟩ x).t + 1) (srF n m A Z rc f ⟨t, F, true⟩ x).first
       have ht1 := hsP.go hc0
       have hF1 := hsP.len
       have hgl := hgl hxm
       rw [show arrI (f.set j (x : Int)) = HO.arr true 1 3 ((f.map I).set (j * 1) (I (x : Int))) by rw [Nat.mul_one]; exact congrArg (HO.arr true 1 3) List.map_set] at hfit
       generalize hs1 : srF n m A Z rc f ⟨t, F, true⟩ x = s1 at *
       obtain ⟨t1, F1, c1⟩ := s1
       dsimp only at hs hrc ht1 hF1 hfit hc0
       subst hc0
       have hadd : (t1 : Int) + 1 = ((t1 + 1 : Nat) : Int) := by omega
       generalize fitE n m A Z (f.set j (x : Int)) = fe at *
       obtain ⟨g, fb⟩ := fe
       dsimp only at hs hrc hfit hgl
       refine wH ?_
       by_cases h5 : 5000 < t1 + 1
       · rw [if_pos h5] at hs
         have hst := hst (by rw [hs]) (by omega)
         rw [hst, hs]
         repeat' (first
| refine wO ?_
| (refine o_go rfl ?_; (first
| refine p_p (ps_unv (ps_nilCheck_hat rfl rfl)) ?_
| refine p_p (ps_addV rfl rfl rfl hadd zz) ?_
| refine wS ?_
| refine p_e rfl (e_store_boxC rfl rfl rfl rfl aK rfl rfl) ?_); refine ⟨_, aB, ?_⟩)
| (refine zK rfl ?_ ?_ <;> intro hc <;> try omega)
| refine wE ?_)
         all_goals try (exfalso; omega)
         exact krm (zB rfl (zB rfl (zB rfl (zM _)))) ⟨⟨0, 0, rfl⟩, trivial⟩ (leS_refl _)
       · rw [if_neg h5] at hs
         cases fb with
         | false =>
          rw [if_neg Bool.false_ne_true] at hs
          clear hrc
          repeat' (first
| refine wO ?_
| (refine o_go rfl ?_; (first
| refine p_p (ps_unv (ps_nilCheck_hat rfl rfl)) ?_
| refine p_p (ps_addV rfl rfl rfl hadd zz) ?_
| refine p_e rfl (e_callR rfl rfl aD rfl (hcl)) ?_
| refine p_e zk (e_callMF (ids := [0, 3]) [1] rfl rfl rfl rfl (by rfl) aL rfl hfit (keep1 rfl rfl rfl (by rw [List.length_set, List.length_map, List.length_map]; omega))) ?_
| refine wS ?_
| refine p_e rfl (e_store_arr rfl rfl rfl rfl aR rfl rfl) ?_
| refine p_e rfl (e_store_boxC rfl rfl rfl rfl aK rfl rfl) ?_); refine ⟨_, aB, ?_⟩)
| (refine o_s rfl ?_; refine ⟨_, aB, ?_⟩)
| (refine zK rfl ?_ ?_ <;> intro hc <;> try omega)
| refine wE ?_)
          all_goals try (exfalso; omega)
          exact zT (K := fun _ _ => True) (x + 1) ⟨by omega, by rw [hs]⟩ (by omega) aI ⟨rfl, trivial⟩ (zB (by rw [hs]) (zB (by rw [hs]) (zB rfl (zM _))))
         | true =>
          rw [if_pos rfl] at hs
          have hrc := hrc (by omega) hF1
          rw [← hs] at hrc
          cases hcn : (srF n m A Z rc f ⟨t, F, true⟩ (x + 1)).cont with
          | false =>
           have hst := hst hcn (by omega)
           rw [hst]
           rw [hcn] at hrc ⊢
           generalize srF n m A Z rc f ⟨t, F, true⟩ (x + 1) = s2 at *
           repeat' (first
| refine wO ?_
| (refine o_go rfl ?_; (first
| refine p_p (ps_unv (ps_nilCheck_hat rfl rfl)) ?_
| refine p_p (ps_addV rfl rfl rfl hadd zz) ?_
| refine p_e rfl (e_callR rfl rfl aD rfl (hcl)) ?_
| refine p_e zk (e_callMF (ids := [0, 3]) [1] rfl rfl rfl rfl (by rfl) aL rfl hfit (keep1 rfl rfl rfl (by rw [List.length_set, List.length_map, List.length_map]; omega))) ?_
| refine p_e zk (e_callM (ids := [0, 1, 3]) rfl rfl rfl rfl (by rfl) aL rfl (hrc)) ?_
| refine wS ?_
| refine p_e rfl (e_store_arr rfl rfl rfl rfl aR rfl rfl) ?_
| refine p_e rfl (e_store_boxC rfl rfl rfl rfl aK rfl rfl) ?_); refine ⟨_, aB, ?_⟩)
| (refine zK rfl ?_ ?_ <;> intro hc <;> try omega)
| refine wE ?_)
           all_goals try (exfalso; omega)
           exact krm (zB rfl (zB rfl (zB rfl (zM _)))) ⟨⟨0, 0, rfl⟩, trivial⟩ (leS_refl _)
          | true =>
           rw [hcn] at hrc
           repeat' (first
| refine wO ?_
| (refine o_go rfl ?_; (first
| refine p_p (ps_unv (ps_nilCheck_hat rfl rfl)) ?_
| refine p_p (ps_addV rfl rfl rfl hadd zz) ?_
| refine p_e rfl (e_callR rfl rfl aD rfl (hcl)) ?_
| refine p_e zk (e_callMF (ids := [0, 3]) [1] rfl rfl rfl rfl (by rfl) aL rfl hfit (keep1 rfl rfl rfl (by rw [List.length_set, List.length_map, List.length_map]; omega))) ?_
| refine p_e zk (e_callM (ids := [0, 1, 3]) rfl rfl rfl rfl (by rfl) aL rfl (hrc)) ?_
| refine wS ?_
| refine p_e rfl (e_store_arr rfl rfl rfl rfl aR rfl rfl) ?_
| refine p_e rfl (e_store_boxC rfl rfl rfl rfl aK rfl rfl) ?_); refine ⟨_, aB, ?_⟩)
| (refine zK rfl ?_ ?_ <;> intro hc <;> try omega)
| refine wE ?_)
           all_goals try (exfalso; omega)
           exact zT (K := fun _ _ => True) (x + 1) ⟨by omega, hcn⟩ (by omega) aI ⟨rfl, trivial⟩ (zB rfl (zB rfl (zB rfl (zM _))))
     · obtain rfl : x = m := by omega
       rw [hc0]
       refine wH ?_
       repeat' (first
| refine wO ?_
| (refine o_go rfl ?_; (first
| refine p_p (ps_unv (ps_nilCheck_hat rfl rfl)) ?_
| refine wS ?_); refine ⟨_, aB, ?_⟩)
| (refine zK rfl ?_ ?_ <;> intro hc <;> try omega)
| refine wE ?_)
       all_goals try (exfalso; omega)
       exact krm (zB rfl (zB rfl (zB rfl (zM _)))) ⟨⟨0, 0, rfl⟩, trivial⟩ (leS_refl _)
   · rw [if_neg h0]
     obtain rfl : j = n := by omega
     clear hlow hno hP hrc hfit hsP hss hst
     repeat' (first
| refine wO ?_
| (refine o_go rfl ?_; (first
| refine p_p (ps_unv (ps_nilCheck_hat rfl rfl)) ?_
| refine p_e zk (e_callM (ids := [1, 2]) rfl rfl rfl rfl (by rfl) aL rfl (hfo)) ?_
| refine wS ?_
| refine p_p (ps_len_mut rfl rfl rfl rfl) ?_); refine ⟨_, aB, ?_⟩)
| (refine o_s rfl ?_; refine ⟨_, aB, ?_⟩)
| (refine o_splitD rfl rfl rfl ?_ ?_ <;> intro hc <;> first | omega | dsimp only [List.set_cons_zero, List.set_cons_succ])
| (refine zK rfl ?_ ?_ <;> intro hc <;> try omega)
| refine wE ?_)
     all_goals try (exfalso; omega)
     exact krm (zB rfl (zB rfl (zB rfl (zM _)))) ⟨⟨0, 0, rfl⟩, trivial⟩ (leS_refl _)
end Go.Proofs.YtepjlgilopfnpaaGreat
