/- Walks: the reference's draw of an algebra. -/
import Derived.Test.YtepjlgilopfnpaaGreatJKo
import Derived.Test.YtepjlgilopfnpaaGreatJSt
import Derived.Test.YtepjlgilopfnpaaGreatJKy
import Derived.Test.YtepjlgilopfnpaaGreatJYw
namespace Go.Proofs.YtepjlgilopfnpaaGreat
open Go Go.Pv Go.Proofs
set_option maxHeartbeats 32000000
set_option maxRecDepth 100000
attribute [local bitvec_to_nat] posI optP lendM1 lendMA lendMP killM1 killMA killMP hasI getO backM1 backMA backMP putL inpM pinM1 pinMA pinMP killR1 killRA killR

structure OpDr (n : Nat) (c : Cu) (f : OpD) (c' : Cu) where
 a : Nat
 k : Nat
 ca : Cu
 F : Nat → Cu × List Int
 h1 : LCalls Tryz.prog 89 (cuB c) [.hat 0 0, ints [0, 1, 2, 2, 3]] (cuB ca) (I (a : Int))
 hk : k = if n = 4 ∧ a = 3 then 2 else a
 hk3 : k ≤ 3
 har : f.ar = (k : Int)
 F0 : F 0 = (ca, [])
 F1 : ∀ j, j ≤ n ^ k → (F j).2.length = j
 F2 : ∀ j, j < n ^ k → ∃ x, LCalls Tryz.prog 135 (cuB (F j).1) [.hat 0 0, I (n : Int)] (cuB (F (j + 1)).1) (I x) ∧ (F (j + 1)).2 = (F j).2 ++ [x]
 hc : c' = (F (n ^ k)).1
 htb : f.tb = (F (n ^ k)).2
theorem pow_27 {n k : Nat} (hn : n = 2 ∨ n = 3 ∨ n = 4) (hk : k ≤ 3) (h4 : n = 4 → k ≤ 2) : 1 ≤ n ^ k ∧ n ^ k ≤ 27 := by
 have h3 : k = 0 ∨ k = 1 ∨ k = 2 ∨ k = 3 := by omega
 rcases hn with rfl | rfl | rfl <;> rcases h3 with rfl | rfl | rfl | rfl <;> first | decide | (have := h4 rfl; omega)
theorem Cu.ok.up {c : Cu} {m m' : Int} (h : c.ok m) (hm : m ≤ m') : c.ok m' := ⟨h.len, h.byte, h.lo, Int.le_trans h.hi hm, h.sd0⟩
theorem dlist_ex {c : Cu} {M : Int} (h : c.ok M) (hM : M ≤ 800000) (n : Nat) (hn : n ≤ 1000) (k : Int) (hk2 : k ≤ 1000) :
 ∃ F : Nat → Cu × List Int, F 0 = (c, []) ∧ (∀ i, i ≤ n → (F i).1.ok (M + 2 * (i : Int)) ∧ (F i).2.length = i) ∧ ∀ i, i < n → ∃ x, LCalls Tryz.prog 135 (cuB (F i).1) [.hat 0 0, I k] (cuB (F (i + 1)).1) (I x) ∧ (F (i + 1)).2 = (F i).2 ++ [x] := by
 refine seq_of (fun i s => s.1.ok (M + 2 * (i : Int)) ∧ s.2.length = i) (fun i s s' => ∃ x, LCalls Tryz.prog 135 (cuB s.1) [.hat 0 0, I k] (cuB s'.1) (I x) ∧ s'.2 = s.2 ++ [x]) (c, []) n ⟨by simpa using h, rfl⟩ fun i s hi ⟨h1, h2⟩ => ?_
 obtain ⟨c', x, k1, x0, x1, hc⟩ := pick_L h1 (by omega) k (by omega)
 exact ⟨(c', s.2 ++ [x]), ⟨by rw [show M + 2 * ((i + 1 : Nat) : Int) = M + 2 * (i : Int) + 2 by omega]; exact k1, by simp [h2]⟩, x, hc, rfl⟩
theorem opdr_ex {n : Nat} {c : Cu} {M : Int} (h : c.ok M) (hM : M ≤ 700000) (hn : n = 2 ∨ n = 3 ∨ n = 4) : ∃ f c', Nonempty (OpDr n c f c') ∧ c'.ok (M + 100) ∧ 1 ≤ f.tb.length ∧ f.tb.length ≤ 27 := by
 obtain ⟨ca, x, k1, hx, hc⟩ := among_L h (by omega) [0, 1, 2, 2, 3] (by decide) (by decide)
 obtain ⟨a, rfl, ha⟩ : ∃ a : Nat, x = (a : Int) ∧ a ≤ 3 := by
  simp only [List.mem_cons, List.not_mem_nil, or_false] at hx
  rcases hx with rfl | rfl | rfl | rfl | rfl
  · exact ⟨0, rfl, by omega⟩
  · exact ⟨1, rfl, by omega⟩
  · exact ⟨2, rfl, by omega⟩
  · exact ⟨2, rfl, by omega⟩
  · exact ⟨3, rfl, by omega⟩
 obtain ⟨k, hk⟩ : ∃ k, k = if n = 4 ∧ a = 3 then 2 else a := ⟨_, rfl⟩
 have hk3 : k ≤ 3 := by rw [hk]; split <;> omega
 have hk4 : n = 4 → k ≤ 2 := fun h => by rw [hk]; split <;> omega
 obtain ⟨p1, p2⟩ := pow_27 hn hk3 hk4
 obtain ⟨F, F0, F1, F2⟩ := dlist_ex k1 (by omega) (n ^ k) (by omega) (n : Int) (by omega)
 refine ⟨⟨(k : Int), (F (n ^ k)).2⟩, (F (n ^ k)).1, ⟨⟨a, k, ca, F, hc, hk, hk3, rfl, F0, fun j hj => (F1 j hj).2, F2, rfl, rfl⟩⟩, ?_, ?_, ?_⟩
 · have := (F1 (n ^ k) (Nat.le_refl _)).1
   exact this.up (by omega)
 · rw [(F1 (n ^ k) (Nat.le_refl _)).2]; exact p1
 · rw [(F1 (n ^ k) (Nat.le_refl _)).2]; exact p2
abbrev resB : HO := .box [I 0, nilV]
def aHown (n : Nat) (D : Nat → Cu × List OpD) : Nat → List HO
 | 0 => [cuB (D 0).1, resB, .box [I (n : Int), nilV]]
 | i + 1 => [cuB (D (i + 1)).1, resB, .box [I (n : Int), .hp 6], .gone, .gone, .gone, sgI (rowsO (D (i + 1)).2)]
def tH (base : Cu → List HO) (R : Nat) (k : Nat) (F : Nat → Cu × List Int) : Nat → List HO
 | 0 => base (F 0).1 ++ [.box [I (k : Int), nilV]]
 | j + 1 => base (F (j + 1)).1 ++ [.box [I (k : Int), .hp R], .arr true 1 3 ((F (j + 1)).2.map I)]
inductive AlgEnd (n : Nat) (c : Cu) (ops : List OpD) (y : Int) : Int → List OpD → Cu → Prop
 | size (z : Int) (c' : Cu) (hy : y = 0) (h : LCalls Tryz.prog 89 (cuB c) [.hat 0 0, ints [0, 9, (n : Int) + 1]] (cuB c') (I z)) : AlgEnd n c ops y z ops c'
 | more (f : OpD) (l : List OpD) (hy : y = 1) (ho : ops = f :: l) : AlgEnd n c ops y n (⟨f.ar, f.tb ++ [0]⟩ :: l) c
 | cell (f : OpD) (l : List OpD) (p v : Int) (c1 c' : Cu) (hy : y = 2) (ho : ops = f :: l) (hp0 : 0 ≤ p) (hp : p < (f.tb.length : Int)) (h1 : LCalls Tryz.prog 135 (cuB c) [.hat 0 0, I (f.tb.length : Int)] (cuB c1) (I p))
  (h2 : LCalls Tryz.prog 89 (cuB c1) [.hat 0 0, ints [-1, (n : Int)]] (cuB c') (I v)) : AlgEnd n c ops y n (⟨f.ar, f.tb.set p.toNat v⟩ :: l) c'
 | ar (f : OpD) (l : List OpD) (v : Int) (c' : Cu) (hy : y = 3) (ho : ops = f :: l) (h : LCalls Tryz.prog 89 (cuB c) [.hat 0 0, ints [-1, 4]] (cuB c') (I v)) : AlgEnd n c ops y n (⟨v, f.tb⟩ :: l) c'
 | fill (E : Nat → Cu × Int) (R : Nat) (hy : y = 4) (E0 : (E 0).1 = c) (hR : R ≤ 5) (hE : ∀ t, t ≤ R → LCalls Tryz.prog 135 (cuB (E t).1) [.hat 0 0, I 2] (cuB (E (t + 1)).1) (I (E (t + 1)).2)) (hb : ∀ t, t ≤ R → 0 ≤ (E (t + 1)).2 ∧ (E (t + 1)).2 ≤ 1)
  (h1 : ∀ t, t < R → ((ops.length + t : Nat) : Int) < 4 + (E (t + 1)).2) (h2 : ¬ ((ops.length + R : Nat) : Int) < 4 + (E (R + 1)).2) : AlgEnd n c ops y n (ops ++ List.replicate R ⟨1, List.replicate n 0⟩) (E (R + 1)).1
 | none (hy : y < 0 ∨ 5 ≤ y) : AlgEnd n c ops y n ops c
theorem alg_w0 {c c1 c2 : Cu} {x n : Int} {ops : List OpD} (h1 : LCalls Tryz.prog 134 (cuB c) [.hat 0 0, I 4] (cuB c1) (B false)) (h2 : LCalls Tryz.prog 135 (cuB c1) [.hat 0 0, I 17] (cuB c2) (I x))
 (h3 : PCalls Tryz.prog 142 [I x] (algP n ops)) : LCalls Tryz.prog 85 (cuB c) [.hat 0 0] (cuB c2) (algP n ops) := by
 refine pcallsLC Tryz.func85 rfl Tryz.ntmps85 rfl rfl rfl (by simp) fun b d => ?_
 simp only [List.length_cons, List.length_nil, Nat.reduceAdd, Nat.reduceSub, List.replicate_succ, List.replicate_zero]
 repeat' (first
| refine wO ?_
| (refine o_go rfl ?_; (first
| refine p_e rfl (e_callL (n := 0) rfl rfl rfl aL rfl (by rfl) aT (h1)) ?_
| refine p_e rfl (e_callL (n := 0) rfl rfl rfl aL rfl (by rfl) aT (h2)) ?_
| refine p_p (zG rfl rfl aD (h3)) ?_
| refine wS ?_
| refine p_e rfl (zO rfl rfl rfl rfl aK rfl rfl rfl) ?_
| refine p_e rfl (e_alloc rfl) ?_); refine ⟨_, aB, ?_⟩)
| refine wE ?_)
 change KRLC _ _ _ _ _ _ .ret _
 exact krlc 0 0 rfl rfl rfl (krC rfl aK rfl)
theorem alg_w {c c1 c2 c3 c5 c' : Cu} {n K : Nat} {D : Nat → Cu × List OpD} {y n' : Int} {ops' : List OpD} (hn : n = 2 ∨ n = 3 ∨ n = 4) (hK : K = 1 ∨ K = 2) (h1 : LCalls Tryz.prog 134 (cuB c) [.hat 0 0, I 4] (cuB c1) (B true))
 (h2 : LCalls Tryz.prog 89 (cuB c1) [.hat 0 0, ints [2, 2, 3, 3, 4]] (cuB c2) (I (n : Int))) (h3 : LCalls Tryz.prog 89 (cuB c2) [.hat 0 0, ints [1, 1, 2]] (cuB c3) (I (K : Int)))
 (D0 : D 0 = (c3, [])) (hD : ∀ i, i < K → ∃ f c', Nonempty (OpDr n (D i).1 f c') ∧ 1 ≤ f.tb.length ∧ f.tb.length ≤ 27 ∧ D (i + 1) = (c', (D i).2 ++ [f])) (hDl : ∀ i, i ≤ K → (D i).2.length = i) (hDt : ∀ i, i ≤ K → ∀ f ∈ (D i).2, f.tb.length ≤ 27)
 (h4 : LCalls Tryz.prog 135 (cuB (D K).1) [.hat 0 0, I 16] (cuB c5) (I y)) (hend : AlgEnd n c5 (D K).2 y n' ops' c') :
 LCalls Tryz.prog 85 (cuB c) [.hat 0 0] (cuB c') (algP n' ops') := by
 refine pcallsLC Tryz.func85 rfl Tryz.ntmps85 rfl rfl rfl (by simp) fun b d => ?_
 simp only [List.length_cons, List.length_nil, Nat.reduceAdd, Nat.reduceSub, List.replicate_succ, List.replicate_zero]
 repeat' (first
| refine wO ?_
| (refine o_go rfl ?_; (first
| refine p_e rfl (e_callL (n := 0) rfl rfl rfl aL rfl (by rfl) aT (h1)) ?_
| refine p_e rfl (e_callL (n := 0) rfl rfl rfl aL rfl (by rfl) aT (h2)) ?_
| refine p_e rfl (e_callL (n := 0) rfl rfl rfl aL rfl (by rfl) aT (h3)) ?_
| refine p_p (ps_lits rfl ze ze aU zd zd) ?_
| refine wS ?_
| refine p_e rfl (zO rfl rfl rfl rfl aK rfl rfl rfl) ?_
| refine p_e rfl (e_alloc rfl) ?_
| refine p_p (ps_build rfl rfl) ?_); refine ⟨_, aB, ?_⟩)
| refine wE ?_)
 refine g_loopT (α := Nat) (fun i => [(6, I ((K : Int) - (i : Int)))]) (fun i => aHown n D i) (fun i => i ≤ K) (fun i => K - i) 0 aH (Nat.zero_le _) ⟨vI (by omega), trivial⟩ (by rw [aHown, D0]) ?_
 rintro i hi
 refine wH ?_
 cases i with
 | zero =>
  dsimp only [aHown]
  obtain ⟨f, ce, ⟨G⟩, ft1, ft2, hDn⟩ := hD 0 (by omega)
  obtain ⟨a, k, ca, F, g1, hk, hk3, har, F0, F1, F2, hce, htb⟩ := G
  have hpw := pow_c n k (by omega) hk3
  have hN1 : n ^ k = f.tb.length := by rw [htb, F1 _ (Nat.le_refl _)]
  have hft := hN1
  obtain ⟨N, hN⟩ : ∃ N, N = n ^ k := ⟨_, rfl⟩
  rw [← hN] at hpw F1 F2 hce htb hN1
  have hk43 : (n = 4 ∧ a = 3 ∧ k = 2) ∨ (¬ (n = 4 ∧ a = 3) ∧ k = a) := by
   by_cases h : n = 4 ∧ a = 3
   · rw [if_pos h] at hk; exact .inl ⟨h.1, h.2, hk⟩
   · rw [if_neg h] at hk; exact .inr ⟨h, hk⟩
  have hpw2 : k = 2 → PCalls Tryz.prog 94 [I (n : Int), I 2] (I (N : Int)) := fun h => by rw [h] at hpw; exact hpw
  rcases hk43 with ⟨hn4, ha3, hk2⟩ | ⟨hno, hka⟩
  · have hpw3 := hpw2 hk2
    repeat' (first
| refine wO ?_
| (refine o_go rfl ?_; (first
| refine p_e rfl (e_callL (n := 0) rfl rfl rfl aL rfl (by rfl) aT (g1)) ?_
| refine p_p (zG rfl rfl aD (hpw3)) ?_
| refine p_p (ps_lits rfl ze ze aU zd zd) ?_
| refine wS ?_
| refine p_e rfl (e_store_boxC rfl rfl rfl rfl aK rfl rfl) ?_
| refine p_e rfl (zO rfl rfl rfl rfl aK rfl rfl rfl) ?_
| refine p_e rfl (e_alloc rfl) ?_
| refine p_p (ps_build rfl rfl) ?_); refine ⟨_, aB, ?_⟩)
| (refine o_splitD rfl rfl rfl ?_ ?_ <;> intro hc <;> first | omega | dsimp only [List.set_cons_zero, List.set_cons_succ])
| (refine zK rfl ?_ ?_ <;> intro hc <;> try omega)
| refine wE ?_)
    all_goals try (exfalso; omega)
    refine g_loopT (α := Nat) (fun j => [(8, I ((N : Int) - (j : Int)))]) (fun j => tH (fun c => [cuB c, resB, .box [I (n : Int), nilV]]) 4 k F j) (fun j => j ≤ N) (fun j => N - j) 0 aH (Nat.zero_le _) ⟨vI (by omega), trivial⟩ (by rw [tH, F0]; first | rfl | (rw [hk2]; rfl)) ?_
    rintro j hj
    refine wH ?_
    have hlj : ((F j).2.map I).length = j := by rw [List.length_map]; exact F1 j hj
    cases j with
    | zero =>
     obtain ⟨x, hpk, hF⟩ := F2 0 (by omega)
     have hF0 : (F 0).2 = [] := by rw [F0]
     rw [hF0, List.nil_append] at hF
     dsimp only [tH, List.cons_append, List.nil_append]
     repeat' (first
| refine wO ?_
| (refine o_go rfl ?_; (first
| refine wS ?_); refine ⟨_, aB, ?_⟩)
| (refine zK rfl ?_ ?_ <;> intro hc <;> try omega)
| refine wE ?_)
     all_goals try (exfalso; omega)
     refine g_region_drawZ [(0, some [0, 4]), (1, some [0]), (2, some [4]), (3, some [4]), (4, none), (5, none), (6, none), (7, none), (8, none)] [(4, 0), (6, 4), (8, 999999)] (fun hp => hp[3]? = some (.box [I (k : Int), nilV])) (by kernel_rfl) rfl (by kernel_rfl) ?_
     repeat' (first
| refine z_nil ?_
| ((first
| refine zV rfl rfl (fun hp hH => zH rfl rfl hH rfl) aJ aC zd aA ?_
| refine zV rfl rfl (fun _ _ => zD rfl) aJ aC zd aA ?_
| refine zV rfl rfl (fun _ _ => zE rfl rfl) aJ aC zd aA ?_
| refine z_eff rfl rfl aF (j_callLB (n := 0) rfl rfl rfl aL (by rfl) (by rfl) (hpk)) aG ?_
| refine z_eff rfl rfl aF (j_appendNil rfl rfl rfl rfl (one_one rfl) zd rfl zn zn zn) aG ?_
| refine z_eff rfl rfl aF (j_store_boxC rfl rfl rfl rfl aK rfl rfl) aG ?_
| refine z_eff rfl rfl aF (j_pure (zE rfl rfl)) aG ?_
| refine z_eff rfl rfl aF (j_pure (ps_lit1 rfl rfl (by rfl) (by rfl))) aG ?_); refine ⟨_, aP, ?_⟩))
     repeat' (first
| refine wO ?_
| (refine o_go rfl ?_; (first
| refine wS ?_); refine ⟨_, aB, ?_⟩))
     exact zT 1 (by omega) (by omega) aI ⟨vI (by omega), trivial⟩ (zB rfl (zB rfl (zB rfl (zB rfl (zB (by rw [hF]; rfl) (zM _))))))
    | succ j =>
     dsimp only [tH, List.cons_append, List.nil_append]
     by_cases hjN : j + 1 < N
     · obtain ⟨x, hpk, hF⟩ := F2 (j + 1) hjN
       repeat' (first
| refine wO ?_
| (refine o_go rfl ?_; (first
| refine wS ?_); refine ⟨_, aB, ?_⟩)
| (refine zK rfl ?_ ?_ <;> intro hc <;> try omega)
| refine wE ?_)
       all_goals try (exfalso; omega)
       refine g_region_drawU [(0, some [0, 4]), (1, some [0]), (2, some [4]), (3, some [4]), (4, none), (5, none), (6, none), (7, none), (8, none)] [(4, 0), (6, 4), (8, 999999)] (fun U hp => (∃ a, hp[3]? = some (.box [I (k : Int), a])) ∧ (4 ∉ U → hp[3]? = some (.box [I (k : Int), .hp 4]))) (by kernel_rfl) rfl (by kernel_rfl) ?_
       repeat' (first
| refine u_nil ?_
| ((first
| refine u_pure rfl rfl (fun hp hH => zH rfl rfl (hH.2 zd) rfl) aJ aC zd aN ?_
| refine u_pure rfl rfl (fun _ _ => zD rfl) aJ aC zd aN ?_
| refine u_pure rfl rfl (fun _ _ => zE rfl rfl) aJ aC zd aN ?_
| refine u_eff rfl rfl aF (j_callLB (n := 0) rfl rfl rfl aL (by rfl) (by rfl) (hpk)) (by first | exact fun _ hm hF _ => absurd (hm 999999 zd) hF | exact fun _ _ _ hh => hh | exact (fun _ hm _ _ => ⟨⟨_, rfl⟩, fun h => absurd (hm 4 zd) h⟩)) ?_
| refine u_eff rfl rfl aF (j_append rfl rfl rfl rfl rfl rfl (one_one rfl) rfl zn zn) (by first | exact fun _ hm hF _ => absurd (hm 999999 zd) hF | exact fun _ _ _ hh => hh | exact (fun _ hm _ _ => ⟨⟨_, rfl⟩, fun h => absurd (hm 4 zd) h⟩)) ?_
| refine u_eff rfl rfl aF (j_store_boxC rfl rfl rfl rfl aK rfl rfl) (by first | exact fun _ hm hF _ => absurd (hm 999999 zd) hF | exact fun _ _ _ hh => hh | exact (fun _ hm _ _ => ⟨⟨_, rfl⟩, fun h => absurd (hm 4 zd) h⟩)) ?_
| refine u_eff rfl rfl aF (j_pure (zE rfl rfl)) (by first | exact fun _ hm hF _ => absurd (hm 999999 zd) hF | exact fun _ _ _ hh => hh | exact (fun _ hm _ _ => ⟨⟨_, rfl⟩, fun h => absurd (hm 4 zd) h⟩)) ?_
| refine u_eff rfl rfl aF (j_pure (ps_lit1 rfl rfl (by rfl) (by rfl))) (by first | exact fun _ hm hF _ => absurd (hm 999999 zd) hF | exact fun _ _ _ hh => hh | exact (fun _ hm _ _ => ⟨⟨_, rfl⟩, fun h => absurd (hm 4 zd) h⟩)) ?_); refine ⟨_, aP, ?_⟩))
       repeat' (first
| refine wO ?_
| (refine o_go rfl ?_; (first
| refine wS ?_); refine ⟨_, aB, ?_⟩))
       exact zT (j + 2) (by omega) (by omega) aI ⟨vI (by omega), trivial⟩ (zB rfl (zB rfl (zB rfl (zB rfl (zB (by rw [hF, List.map_append]; rfl) (zM _))))))
     · have hjN' : N = j + 1 := by omega
       have hce' : ce = (F (j + 1)).1 := by rw [hce, hjN']
       have htb' : f.tb = (F (j + 1)).2 := by rw [htb, hjN']
       repeat' (first
| refine wO ?_
| (refine o_go rfl ?_; (first
| refine p_e rfl (e_lit1S rfl rfl rfl (one_all (fun _ => rfl) _) rfl) ?_
| refine p_e rfl (e_appendNilS rfl rfl rfl rfl rfl (by exact Nat.succ_pos _) zn zn) ?_
| refine wS ?_
| refine p_e rfl (e_store_boxC rfl rfl rfl rfl aK rfl rfl) ?_); refine ⟨_, aB, ?_⟩)
| (refine zK rfl ?_ ?_ <;> intro hc <;> try omega)
| refine wE ?_)
       all_goals try (exfalso; omega)
       refine zT 1 (by omega) (by omega) aI ⟨vI (by omega), trivial⟩ (zB (by rw [hDn, hce']) (zB rfl (zB rfl (hpLe_gone (hpLe_gone (hpLe_gone (zB ?_ (zM _))))))))
       rw [hDn, D0]; simp only [sgI, rowsO, List.map_append, List.map_cons, List.map_nil, ← htb', har]; try rfl
  · subst hka
    by_cases hn4 : n = 4
    · repeat' (first
| refine wO ?_
| (refine o_go rfl ?_; (first
| refine p_e rfl (e_callL (n := 0) rfl rfl rfl aL rfl (by rfl) aT (g1)) ?_
| refine p_p (zG rfl rfl aD (hpw)) ?_
| refine p_p (ps_lits rfl ze ze aU zd zd) ?_
| refine wS ?_
| refine p_e rfl (zO rfl rfl rfl rfl aK rfl rfl rfl) ?_
| refine p_e rfl (e_alloc rfl) ?_
| refine p_p (ps_build rfl rfl) ?_); refine ⟨_, aB, ?_⟩)
| (refine o_splitD rfl rfl rfl ?_ ?_ <;> intro hc <;> first | omega | dsimp only [List.set_cons_zero, List.set_cons_succ])
| (refine zK rfl ?_ ?_ <;> intro hc <;> try omega)
| refine wE ?_)
      all_goals try (exfalso; omega)
      refine g_loopT (α := Nat) (fun j => [(8, I ((N : Int) - (j : Int)))]) (fun j => tH (fun c => [cuB c, resB, .box [I (n : Int), nilV]]) 4 k F j) (fun j => j ≤ N) (fun j => N - j) 0 aH (Nat.zero_le _) ⟨vI (by omega), trivial⟩ (by rw [tH, F0]; first | rfl | (rw [hk2]; rfl)) ?_
      rintro j hj
      refine wH ?_
      have hlj : ((F j).2.map I).length = j := by rw [List.length_map]; exact F1 j hj
      cases j with
      | zero =>
       obtain ⟨x, hpk, hF⟩ := F2 0 (by omega)
       have hF0 : (F 0).2 = [] := by rw [F0]
       rw [hF0, List.nil_append] at hF
       dsimp only [tH, List.cons_append, List.nil_append]
       repeat' (first
| refine wO ?_
| (refine o_go rfl ?_; (first
| refine wS ?_); refine ⟨_, aB, ?_⟩)
| (refine zK rfl ?_ ?_ <;> intro hc <;> try omega)
| refine wE ?_)
       all_goals try (exfalso; omega)
       refine g_region_drawZ [(0, some [0, 4]), (1, some [0]), (2, some [4]), (3, some [4]), (4, none), (5, none), (6, none), (7, none), (8, none)] [(4, 0), (6, 4), (8, 999999)] (fun hp => hp[3]? = some (.box [I (k : Int), nilV])) (by kernel_rfl) rfl (by kernel_rfl) ?_
       repeat' (first
| refine z_nil ?_
| ((first
| refine zV rfl rfl (fun hp hH => zH rfl rfl hH rfl) aJ aC zd aA ?_
| refine zV rfl rfl (fun _ _ => zD rfl) aJ aC zd aA ?_
| refine zV rfl rfl (fun _ _ => zE rfl rfl) aJ aC zd aA ?_
| refine z_eff rfl rfl aF (j_callLB (n := 0) rfl rfl rfl aL (by rfl) (by rfl) (hpk)) aG ?_
| refine z_eff rfl rfl aF (j_appendNil rfl rfl rfl rfl (one_one rfl) zd rfl zn zn zn) aG ?_
| refine z_eff rfl rfl aF (j_store_boxC rfl rfl rfl rfl aK rfl rfl) aG ?_
| refine z_eff rfl rfl aF (j_pure (zE rfl rfl)) aG ?_
| refine z_eff rfl rfl aF (j_pure (ps_lit1 rfl rfl (by rfl) (by rfl))) aG ?_); refine ⟨_, aP, ?_⟩))
       repeat' (first
| refine wO ?_
| (refine o_go rfl ?_; (first
| refine wS ?_); refine ⟨_, aB, ?_⟩))
       exact zT 1 (by omega) (by omega) aI ⟨vI (by omega), trivial⟩ (zB rfl (zB rfl (zB rfl (zB rfl (zB (by rw [hF]; rfl) (zM _))))))
      | succ j =>
       dsimp only [tH, List.cons_append, List.nil_append]
       by_cases hjN : j + 1 < N
       · obtain ⟨x, hpk, hF⟩ := F2 (j + 1) hjN
         repeat' (first
| refine wO ?_
| (refine o_go rfl ?_; (first
| refine wS ?_); refine ⟨_, aB, ?_⟩)
| (refine zK rfl ?_ ?_ <;> intro hc <;> try omega)
| refine wE ?_)
         all_goals try (exfalso; omega)
         refine g_region_drawU [(0, some [0, 4]), (1, some [0]), (2, some [4]), (3, some [4]), (4, none), (5, none), (6, none), (7, none), (8, none)] [(4, 0), (6, 4), (8, 999999)] (fun U hp => (∃ a, hp[3]? = some (.box [I (k : Int), a])) ∧ (4 ∉ U → hp[3]? = some (.box [I (k : Int), .hp 4]))) (by kernel_rfl) rfl (by kernel_rfl) ?_
         repeat' (first
| refine u_nil ?_
| ((first
| refine u_pure rfl rfl (fun hp hH => zH rfl rfl (hH.2 zd) rfl) aJ aC zd aN ?_
| refine u_pure rfl rfl (fun _ _ => zD rfl) aJ aC zd aN ?_
| refine u_pure rfl rfl (fun _ _ => zE rfl rfl) aJ aC zd aN ?_
| refine u_eff rfl rfl aF (j_callLB (n := 0) rfl rfl rfl aL (by rfl) (by rfl) (hpk)) (by first | exact fun _ hm hF _ => absurd (hm 999999 zd) hF | exact fun _ _ _ hh => hh | exact (fun _ hm _ _ => ⟨⟨_, rfl⟩, fun h => absurd (hm 4 zd) h⟩)) ?_
| refine u_eff rfl rfl aF (j_append rfl rfl rfl rfl rfl rfl (one_one rfl) rfl zn zn) (by first | exact fun _ hm hF _ => absurd (hm 999999 zd) hF | exact fun _ _ _ hh => hh | exact (fun _ hm _ _ => ⟨⟨_, rfl⟩, fun h => absurd (hm 4 zd) h⟩)) ?_
| refine u_eff rfl rfl aF (j_store_boxC rfl rfl rfl rfl aK rfl rfl) (by first | exact fun _ hm hF _ => absurd (hm 999999 zd) hF | exact fun _ _ _ hh => hh | exact (fun _ hm _ _ => ⟨⟨_, rfl⟩, fun h => absurd (hm 4 zd) h⟩)) ?_
| refine u_eff rfl rfl aF (j_pure (zE rfl rfl)) (by first | exact fun _ hm hF _ => absurd (hm 999999 zd) hF | exact fun _ _ _ hh => hh | exact (fun _ hm _ _ => ⟨⟨_, rfl⟩, fun h => absurd (hm 4 zd) h⟩)) ?_
| refine u_eff rfl rfl aF (j_pure (ps_lit1 rfl rfl (by rfl) (by rfl))) (by first | exact fun _ hm hF _ => absurd (hm 999999 zd) hF | exact fun _ _ _ hh => hh | exact (fun _ hm _ _ => ⟨⟨_, rfl⟩, fun h => absurd (hm 4 zd) h⟩)) ?_); refine ⟨_, aP, ?_⟩))
         repeat' (first
| refine wO ?_
| (refine o_go rfl ?_; (first
| refine wS ?_); refine ⟨_, aB, ?_⟩))
         exact zT (j + 2) (by omega) (by omega) aI ⟨vI (by omega), trivial⟩ (zB rfl (zB rfl (zB rfl (zB rfl (zB (by rw [hF, List.map_append]; rfl) (zM _))))))
       · have hjN' : N = j + 1 := by omega
         have hce' : ce = (F (j + 1)).1 := by rw [hce, hjN']
         have htb' : f.tb = (F (j + 1)).2 := by rw [htb, hjN']
         repeat' (first
| refine wO ?_
| (refine o_go rfl ?_; (first
| refine p_e rfl (e_lit1S rfl rfl rfl (one_all (fun _ => rfl) _) rfl) ?_
| refine p_e rfl (e_appendNilS rfl rfl rfl rfl rfl (by exact Nat.succ_pos _) zn zn) ?_
| refine wS ?_
| refine p_e rfl (e_store_boxC rfl rfl rfl rfl aK rfl rfl) ?_); refine ⟨_, aB, ?_⟩)
| (refine zK rfl ?_ ?_ <;> intro hc <;> try omega)
| refine wE ?_)
         all_goals try (exfalso; omega)
         refine zT 1 (by omega) (by omega) aI ⟨vI (by omega), trivial⟩ (zB (by rw [hDn, hce']) (zB rfl (zB rfl (hpLe_gone (hpLe_gone (hpLe_gone (zB ?_ (zM _))))))))
         rw [hDn, D0]; simp only [sgI, rowsO, List.map_append, List.map_cons, List.map_nil, ← htb', har]; try rfl
    · repeat' (first
| refine wO ?_
| (refine o_go rfl ?_; (first
| refine p_e rfl (e_callL (n := 0) rfl rfl rfl aL rfl (by rfl) aT (g1)) ?_
| refine p_p (zG rfl rfl aD (hpw)) ?_
| refine p_p (ps_lits rfl ze ze aU zd zd) ?_
| refine wS ?_
| refine p_e rfl (zO rfl rfl rfl rfl aK rfl rfl rfl) ?_
| refine p_e rfl (e_alloc rfl) ?_
| refine p_p (ps_build rfl rfl) ?_); refine ⟨_, aB, ?_⟩)
| (refine o_s rfl ?_; refine ⟨_, aB, ?_⟩)
| (refine o_splitD rfl rfl rfl ?_ ?_ <;> intro hc <;> first | omega | dsimp only [List.set_cons_zero, List.set_cons_succ])
| (refine zK rfl ?_ ?_ <;> intro hc <;> try omega)
| refine wE ?_)
      all_goals try (exfalso; omega)
      refine g_loopT (α := Nat) (fun j => [(8, I ((N : Int) - (j : Int)))]) (fun j => tH (fun c => [cuB c, resB, .box [I (n : Int), nilV]]) 4 k F j) (fun j => j ≤ N) (fun j => N - j) 0 aH (Nat.zero_le _) ⟨vI (by omega), trivial⟩ (by rw [tH, F0]; first | rfl | (rw [hk2]; rfl)) ?_
      rintro j hj
      refine wH ?_
      have hlj : ((F j).2.map I).length = j := by rw [List.length_map]; exact F1 j hj
      cases j with
      | zero =>
       obtain ⟨x, hpk, hF⟩ := F2 0 (by omega)
       have hF0 : (F 0).2 = [] := by rw [F0]
       rw [hF0, List.nil_append] at hF
       dsimp only [tH, List.cons_append, List.nil_append]
       repeat' (first
| refine wO ?_
| (refine o_go rfl ?_; (first
| refine wS ?_); refine ⟨_, aB, ?_⟩)
| (refine zK rfl ?_ ?_ <;> intro hc <;> try omega)
| refine wE ?_)
       all_goals try (exfalso; omega)
       refine g_region_drawZ [(0, some [0, 4]), (1, some [0]), (2, some [4]), (3, some [4]), (4, none), (5, none), (6, none), (7, none), (8, none)] [(4, 0), (6, 4), (8, 999999)] (fun hp => hp[3]? = some (.box [I (k : Int), nilV])) (by kernel_rfl) rfl (by kernel_rfl) ?_
       repeat' (first
| refine z_nil ?_
| ((first
| refine zV rfl rfl (fun hp hH => zH rfl rfl hH rfl) aJ aC zd aA ?_
| refine zV rfl rfl (fun _ _ => zD rfl) aJ aC zd aA ?_
| refine zV rfl rfl (fun _ _ => zE rfl rfl) aJ aC zd aA ?_
| refine z_eff rfl rfl aF (j_callLB (n := 0) rfl rfl rfl aL (by rfl) (by rfl) (hpk)) aG ?_
| refine z_eff rfl rfl aF (j_appendNil rfl rfl rfl rfl (one_one rfl) zd rfl zn zn zn) aG ?_
| refine z_eff rfl rfl aF (j_store_boxC rfl rfl rfl rfl aK rfl rfl) aG ?_
| refine z_eff rfl rfl aF (j_pure (zE rfl rfl)) aG ?_
| refine z_eff rfl rfl aF (j_pure (ps_lit1 rfl rfl (by rfl) (by rfl))) aG ?_); refine ⟨_, aP, ?_⟩))
       repeat' (first
| refine wO ?_
| (refine o_go rfl ?_; (first
| refine wS ?_); refine ⟨_, aB, ?_⟩))
       exact zT 1 (by omega) (by omega) aI ⟨vI (by omega), trivial⟩ (zB rfl (zB rfl (zB rfl (zB rfl (zB (by rw [hF]; rfl) (zM _))))))
      | succ j =>
       dsimp only [tH, List.cons_append, List.nil_append]
       by_cases hjN : j + 1 < N
       · obtain ⟨x, hpk, hF⟩ := F2 (j + 1) hjN
         repeat' (first
| refine wO ?_
| (refine o_go rfl ?_; (first
| refine wS ?_); refine ⟨_, aB, ?_⟩)
| (refine zK rfl ?_ ?_ <;> intro hc <;> try omega)
| refine wE ?_)
         all_goals try (exfalso; omega)
         refine g_region_drawU [(0, some [0, 4]), (1, some [0]), (2, some [4]), (3, some [4]), (4, none), (5, none), (6, none), (7, none), (8, none)] [(4, 0), (6, 4), (8, 999999)] (fun U hp => (∃ a, hp[3]? = some (.box [I (k : Int), a])) ∧ (4 ∉ U → hp[3]? = some (.box [I (k : Int), .hp 4]))) (by kernel_rfl) rfl (by kernel_rfl) ?_
         repeat' (first
| refine u_nil ?_
| ((first
| refine u_pure rfl rfl (fun hp hH => zH rfl rfl (hH.2 zd) rfl) aJ aC zd aN ?_
| refine u_pure rfl rfl (fun _ _ => zD rfl) aJ aC zd aN ?_
| refine u_pure rfl rfl (fun _ _ => zE rfl rfl) aJ aC zd aN ?_
| refine u_eff rfl rfl aF (j_callLB (n := 0) rfl rfl rfl aL (by rfl) (by rfl) (hpk)) (by first | exact fun _ hm hF _ => absurd (hm 999999 zd) hF | exact fun _ _ _ hh => hh | exact (fun _ hm _ _ => ⟨⟨_, rfl⟩, fun h => absurd (hm 4 zd) h⟩)) ?_
| refine u_eff rfl rfl aF (j_append rfl rfl rfl rfl rfl rfl (one_one rfl) rfl zn zn) (by first | exact fun _ hm hF _ => absurd (hm 999999 zd) hF | exact fun _ _ _ hh => hh | exact (fun _ hm _ _ => ⟨⟨_, rfl⟩, fun h => absurd (hm 4 zd) h⟩)) ?_
| refine u_eff rfl rfl aF (j_store_boxC rfl rfl rfl rfl aK rfl rfl) (by first | exact fun _ hm hF _ => absurd (hm 999999 zd) hF | exact fun _ _ _ hh => hh | exact (fun _ hm _ _ => ⟨⟨_, rfl⟩, fun h => absurd (hm 4 zd) h⟩)) ?_
| refine u_eff rfl rfl aF (j_pure (zE rfl rfl)) (by first | exact fun _ hm hF _ => absurd (hm 999999 zd) hF | exact fun _ _ _ hh => hh | exact (fun _ hm _ _ => ⟨⟨_, rfl⟩, fun h => absurd (hm 4 zd) h⟩)) ?_
| refine u_eff rfl rfl aF (j_pure (ps_lit1 rfl rfl (by rfl) (by rfl))) (by first | exact fun _ hm hF _ => absurd (hm 999999 zd) hF | exact fun _ _ _ hh => hh | exact (fun _ hm _ _ => ⟨⟨_, rfl⟩, fun h => absurd (hm 4 zd) h⟩)) ?_); refine ⟨_, aP, ?_⟩))
         repeat' (first
| refine wO ?_
| (refine o_go rfl ?_; (first
| refine wS ?_); refine ⟨_, aB, ?_⟩))
         exact zT (j + 2) (by omega) (by omega) aI ⟨vI (by omega), trivial⟩ (zB rfl (zB rfl (zB rfl (zB rfl (zB (by rw [hF, List.map_append]; rfl) (zM _))))))
       · have hjN' : N = j + 1 := by omega
         have hce' : ce = (F (j + 1)).1 := by rw [hce, hjN']
         have htb' : f.tb = (F (j + 1)).2 := by rw [htb, hjN']
         repeat' (first
| refine wO ?_
| (refine o_go rfl ?_; (first
| refine p_e rfl (e_lit1S rfl rfl rfl (one_all (fun _ => rfl) _) rfl) ?_
| refine p_e rfl (e_appendNilS rfl rfl rfl rfl rfl (by exact Nat.succ_pos _) zn zn) ?_
| refine wS ?_
| refine p_e rfl (e_store_boxC rfl rfl rfl rfl aK rfl rfl) ?_); refine ⟨_, aB, ?_⟩)
| (refine zK rfl ?_ ?_ <;> intro hc <;> try omega)
| refine wE ?_)
         all_goals try (exfalso; omega)
         refine zT 1 (by omega) (by omega) aI ⟨vI (by omega), trivial⟩ (zB (by rw [hDn, hce']) (zB rfl (zB rfl (hpLe_gone (hpLe_gone (hpLe_gone (zB ?_ (zM _))))))))
         rw [hDn, D0]; simp only [sgI, rowsO, List.map_append, List.map_cons, List.map_nil, ← htb', har]; try rfl
 | succ i =>
  dsimp only [aHown]
  by_cases hiK : i + 1 < K
  · skip
    obtain ⟨f, ce, ⟨G⟩, ft1, ft2, hDn⟩ := hD (i + 1) (by omega)
    obtain ⟨a, k, ca, F, g1, hk, hk3, har, F0, F1, F2, hce, htb⟩ := G
    have hpw := pow_c n k (by omega) hk3
    have hN1 : n ^ k = f.tb.length := by rw [htb, F1 _ (Nat.le_refl _)]
    have hft := hN1
    obtain ⟨N, hN⟩ : ∃ N, N = n ^ k := ⟨_, rfl⟩
    rw [← hN] at hpw F1 F2 hce htb hN1
    have hll : ((rowsO (D (i + 1)).2).map fun r => r.map I).length = i + 1 := by rw [List.length_map, List.length_map]; exact hDl _ (by omega)
    have hk43 : (n = 4 ∧ a = 3 ∧ k = 2) ∨ (¬ (n = 4 ∧ a = 3) ∧ k = a) := by
     by_cases h : n = 4 ∧ a = 3
     · rw [if_pos h] at hk; exact .inl ⟨h.1, h.2, hk⟩
     · rw [if_neg h] at hk; exact .inr ⟨h, hk⟩
    have hpw2 : k = 2 → PCalls Tryz.prog 94 [I (n : Int), I 2] (I (N : Int)) := fun h => by rw [h] at hpw; exact hpw
    rcases hk43 with ⟨hn4, ha3, hk2⟩ | ⟨hno, hka⟩
    · have hpw3 := hpw2 hk2
      repeat' (first
| refine wO ?_
| (refine o_go rfl ?_; (first
| refine p_e rfl (e_callL (n := 0) rfl rfl rfl aL rfl (by rfl) aT (g1)) ?_
| refine p_p (zG rfl rfl aD (hpw3)) ?_
| refine p_p (ps_lits rfl ze ze aU zd zd) ?_
| refine wS ?_
| refine p_e rfl (e_store_boxC rfl rfl rfl rfl aK rfl rfl) ?_
| refine p_e rfl (zO rfl rfl rfl rfl aK rfl rfl rfl) ?_
| refine p_e rfl (e_alloc rfl) ?_
| refine p_p (ps_build rfl rfl) ?_); refine ⟨_, aB, ?_⟩)
| (refine o_splitD rfl rfl rfl ?_ ?_ <;> intro hc <;> first | omega | dsimp only [List.set_cons_zero, List.set_cons_succ])
| (refine zK rfl ?_ ?_ <;> intro hc <;> try omega)
| refine wE ?_)
      all_goals try (exfalso; omega)
      refine g_loopT (α := Nat) (fun j => [(8, I ((N : Int) - (j : Int)))]) (fun j => tH (fun c => [cuB c, resB, .box [I (n : Int), .hp 6], .gone, .gone, .gone, sgI (rowsO (D (i + 1)).2)]) 8 k F j) (fun j => j ≤ N) (fun j => N - j) 0 aH (Nat.zero_le _) ⟨vI (by omega), trivial⟩ (by rw [tH, F0]; first | rfl | (rw [hk2]; rfl)) ?_
      rintro j hj
      refine wH ?_
      have hlj : ((F j).2.map I).length = j := by rw [List.length_map]; exact F1 j hj
      cases j with
      | zero =>
       obtain ⟨x, hpk, hF⟩ := F2 0 (by omega)
       have hF0 : (F 0).2 = [] := by rw [F0]
       rw [hF0, List.nil_append] at hF
       dsimp only [tH, List.cons_append, List.nil_append]
       repeat' (first
| refine wO ?_
| (refine o_go rfl ?_; (first
| refine wS ?_); refine ⟨_, aB, ?_⟩)
| (refine zK rfl ?_ ?_ <;> intro hc <;> try omega)
| refine wE ?_)
       all_goals try (exfalso; omega)
       refine g_region_drawZ [(0, some [0, 8]), (1, some [0]), (2, some [8]), (3, some [8]), (4, none), (5, none), (6, none), (7, none), (8, none)] [(4, 0), (6, 8), (8, 999999)] (fun hp => hp[7]? = some (.box [I (k : Int), nilV])) (by kernel_rfl) rfl (by kernel_rfl) ?_
       repeat' (first
| refine z_nil ?_
| ((first
| refine zV rfl rfl (fun hp hH => zH rfl rfl hH rfl) aJ aC zd aA ?_
| refine zV rfl rfl (fun _ _ => zD rfl) aJ aC zd aA ?_
| refine zV rfl rfl (fun _ _ => zE rfl rfl) aJ aC zd aA ?_
| refine z_eff rfl rfl aF (j_callLB (n := 0) rfl rfl rfl aL (by rfl) (by rfl) (hpk)) aG ?_
| refine z_eff rfl rfl aF (j_appendNil rfl rfl rfl rfl (one_one rfl) zd rfl zn zn zn) aG ?_
| refine z_eff rfl rfl aF (j_store_boxC rfl rfl rfl rfl aK rfl rfl) aG ?_
| refine z_eff rfl rfl aF (j_pure (zE rfl rfl)) aG ?_
| refine z_eff rfl rfl aF (j_pure (ps_lit1 rfl rfl (by rfl) (by rfl))) aG ?_); refine ⟨_, aP, ?_⟩))
       repeat' (first
| refine wO ?_
| (refine o_go rfl ?_; (first
| refine wS ?_); refine ⟨_, aB, ?_⟩))
       exact zT 1 (by omega) (by omega) aI ⟨vI (by omega), trivial⟩ (zB rfl (zB rfl (zB rfl (zB rfl (zB rfl (zB rfl (zB rfl (zB rfl (zB (by rw [hF]; rfl) (zM _))))))))))
      | succ j =>
       dsimp only [tH, List.cons_append, List.nil_append]
       by_cases hjN : j + 1 < N
       · obtain ⟨x, hpk, hF⟩ := F2 (j + 1) hjN
         repeat' (first
| refine wO ?_
| (refine o_go rfl ?_; (first
| refine wS ?_); refine ⟨_, aB, ?_⟩)
| (refine zK rfl ?_ ?_ <;> intro hc <;> try omega)
| refine wE ?_)
         all_goals try (exfalso; omega)
         refine g_region_drawU [(0, some [0, 8]), (1, some [0]), (2, some [8]), (3, some [8]), (4, none), (5, none), (6, none), (7, none), (8, none)] [(4, 0), (6, 8), (8, 999999)] (fun U hp => (∃ a, hp[7]? = some (.box [I (k : Int), a])) ∧ (8 ∉ U → hp[7]? = some (.box [I (k : Int), .hp 8]))) (by kernel_rfl) rfl (by kernel_rfl) ?_
         repeat' (first
| refine u_nil ?_
| ((first
| refine u_pure rfl rfl (fun hp hH => zH rfl rfl (hH.2 zd) rfl) aJ aC zd aN ?_
| refine u_pure rfl rfl (fun _ _ => zD rfl) aJ aC zd aN ?_
| refine u_pure rfl rfl (fun _ _ => zE rfl rfl) aJ aC zd aN ?_
| refine u_eff rfl rfl aF (j_callLB (n := 0) rfl rfl rfl aL (by rfl) (by rfl) (hpk)) (by first | exact fun _ hm hF _ => absurd (hm 999999 zd) hF | exact fun _ _ _ hh => hh | exact (fun _ hm _ _ => ⟨⟨_, rfl⟩, fun h => absurd (hm 8 zd) h⟩)) ?_
| refine u_eff rfl rfl aF (j_append rfl rfl rfl rfl rfl rfl (one_one rfl) rfl zn zn) (by first | exact fun _ hm hF _ => absurd (hm 999999 zd) hF | exact fun _ _ _ hh => hh | exact (fun _ hm _ _ => ⟨⟨_, rfl⟩, fun h => absurd (hm 8 zd) h⟩)) ?_
| refine u_eff rfl rfl aF (j_store_boxC rfl rfl rfl rfl aK rfl rfl) (by first | exact fun _ hm hF _ => absurd (hm 999999 zd) hF | exact fun _ _ _ hh => hh | exact (fun _ hm _ _ => ⟨⟨_, rfl⟩, fun h => absurd (hm 8 zd) h⟩)) ?_
| refine u_eff rfl rfl aF (j_pure (zE rfl rfl)) (by first | exact fun _ hm hF _ => absurd (hm 999999 zd) hF | exact fun _ _ _ hh => hh | exact (fun _ hm _ _ => ⟨⟨_, rfl⟩, fun h => absurd (hm 8 zd) h⟩)) ?_
| refine u_eff rfl rfl aF (j_pure (ps_lit1 rfl rfl (by rfl) (by rfl))) (by first | exact fun _ hm hF _ => absurd (hm 999999 zd) hF | exact fun _ _ _ hh => hh | exact (fun _ hm _ _ => ⟨⟨_, rfl⟩, fun h => absurd (hm 8 zd) h⟩)) ?_); refine ⟨_, aP, ?_⟩))
         repeat' (first
| refine wO ?_
| (refine o_go rfl ?_; (first
| refine wS ?_); refine ⟨_, aB, ?_⟩))
         exact zT (j + 2) (by omega) (by omega) aI ⟨vI (by omega), trivial⟩ (zB rfl (zB rfl (zB rfl (zB rfl (zB rfl (zB rfl (zB rfl (zB rfl (zB (by rw [hF, List.map_append]; rfl) (zM _))))))))))
       · have hjN' : N = j + 1 := by omega
         have hce' : ce = (F (j + 1)).1 := by rw [hce, hjN']
         have htb' : f.tb = (F (j + 1)).2 := by rw [htb, hjN']
         repeat' (first
| refine wO ?_
| (refine o_go rfl ?_; (first
| refine p_e rfl (e_lit1S rfl rfl rfl (one_all (fun _ => rfl) _) rfl) ?_
| refine p_e rfl (e_append_sg rfl rfl rfl rfl rfl rfl zd (by rw [hll, n_len_c, n_len_n]; omega) (by rw [hll, n_len_c, n_len_n]; omega)) ?_
| refine wS ?_
| refine p_e rfl (e_store_boxC rfl rfl rfl rfl aK rfl rfl) ?_); refine ⟨_, aB, ?_⟩)
| (refine zK rfl ?_ ?_ <;> intro hc <;> try omega)
| refine wE ?_)
         all_goals try (exfalso; omega)
         refine zT (i + 2) (by omega) (by omega) aI ⟨vI (by omega), trivial⟩ (zB (by rw [hDn, hce']) (zB rfl (zB rfl (hpLe_gone (hpLe_gone (hpLe_gone (zB ?_ (zM _))))))))
         rw [hDn]; simp only [sgI, rowsO, List.map_append, List.map_cons, List.map_nil, ← htb', har]; try rfl
    · subst hka
      by_cases hn4 : n = 4
      · repeat' (first
| refine wO ?_
| (refine o_go rfl ?_; (first
| refine p_e rfl (e_callL (n := 0) rfl rfl rfl aL rfl (by rfl) aT (g1)) ?_
| refine p_p (zG rfl rfl aD (hpw)) ?_
| refine p_p (ps_lits rfl ze ze aU zd zd) ?_
| refine wS ?_
| refine p_e rfl (zO rfl rfl rfl rfl aK rfl rfl rfl) ?_
| refine p_e rfl (e_alloc rfl) ?_
| refine p_p (ps_build rfl rfl) ?_); refine ⟨_, aB, ?_⟩)
| (refine o_splitD rfl rfl rfl ?_ ?_ <;> intro hc <;> first | omega | dsimp only [List.set_cons_zero, List.set_cons_succ])
| (refine zK rfl ?_ ?_ <;> intro hc <;> try omega)
| refine wE ?_)
        all_goals try (exfalso; omega)
        refine g_loopT (α := Nat) (fun j => [(8, I ((N : Int) - (j : Int)))]) (fun j => tH (fun c => [cuB c, resB, .box [I (n : Int), .hp 6], .gone, .gone, .gone, sgI (rowsO (D (i + 1)).2)]) 8 k F j) (fun j => j ≤ N) (fun j => N - j) 0 aH (Nat.zero_le _) ⟨vI (by omega), trivial⟩ (by rw [tH, F0]; first | rfl | (rw [hk2]; rfl)) ?_
        rintro j hj
        refine wH ?_
        have hlj : ((F j).2.map I).length = j := by rw [List.length_map]; exact F1 j hj
        cases j with
        | zero =>
         obtain ⟨x, hpk, hF⟩ := F2 0 (by omega)
         have hF0 : (F 0).2 = [] := by rw [F0]
         rw [hF0, List.nil_append] at hF
         dsimp only [tH, List.cons_append, List.nil_append]
         repeat' (first
| refine wO ?_
| (refine o_go rfl ?_; (first
| refine wS ?_); refine ⟨_, aB, ?_⟩)
| (refine zK rfl ?_ ?_ <;> intro hc <;> try omega)
| refine wE ?_)
         all_goals try (exfalso; omega)
         refine g_region_drawZ [(0, some [0, 8]), (1, some [0]), (2, some [8]), (3, some [8]), (4, none), (5, none), (6, none), (7, none), (8, none)] [(4, 0), (6, 8), (8, 999999)] (fun hp => hp[7]? = some (.box [I (k : Int), nilV])) (by kernel_rfl) rfl (by kernel_rfl) ?_
         repeat' (first
| refine z_nil ?_
| ((first
| refine zV rfl rfl (fun hp hH => zH rfl rfl hH rfl) aJ aC zd aA ?_
| refine zV rfl rfl (fun _ _ => zD rfl) aJ aC zd aA ?_
| refine zV rfl rfl (fun _ _ => zE rfl rfl) aJ aC zd aA ?_
| refine z_eff rfl rfl aF (j_callLB (n := 0) rfl rfl rfl aL (by rfl) (by rfl) (hpk)) aG ?_
| refine z_eff rfl rfl aF (j_appendNil rfl rfl rfl rfl (one_one rfl) zd rfl zn zn zn) aG ?_
| refine z_eff rfl rfl aF (j_store_boxC rfl rfl rfl rfl aK rfl rfl) aG ?_
| refine z_eff rfl rfl aF (j_pure (zE rfl rfl)) aG ?_
| refine z_eff rfl rfl aF (j_pure (ps_lit1 rfl rfl (by rfl) (by rfl))) aG ?_); refine ⟨_, aP, ?_⟩))
         repeat' (first
| refine wO ?_
| (refine o_go rfl ?_; (first
| refine wS ?_); refine ⟨_, aB, ?_⟩))
         exact zT 1 (by omega) (by omega) aI ⟨vI (by omega), trivial⟩ (zB rfl (zB rfl (zB rfl (zB rfl (zB rfl (zB rfl (zB rfl (zB rfl (zB (by rw [hF]; rfl) (zM _))))))))))
        | succ j =>
         dsimp only [tH, List.cons_append, List.nil_append]
         by_cases hjN : j + 1 < N
         · obtain ⟨x, hpk, hF⟩ := F2 (j + 1) hjN
           repeat' (first
| refine wO ?_
| (refine o_go rfl ?_; (first
| refine wS ?_); refine ⟨_, aB, ?_⟩)
| (refine zK rfl ?_ ?_ <;> intro hc <;> try omega)
| refine wE ?_)
           all_goals try (exfalso; omega)
           refine g_region_drawU [(0, some [0, 8]), (1, some [0]), (2, some [8]), (3, some [8]), (4, none), (5, none), (6, none), (7, none), (8, none)] [(4, 0), (6, 8), (8, 999999)] (fun U hp => (∃ a, hp[7]? = some (.box [I (k : Int), a])) ∧ (8 ∉ U → hp[7]? = some (.box [I (k : Int), .hp 8]))) (by kernel_rfl) rfl (by kernel_rfl) ?_
           repeat' (first
| refine u_nil ?_
| ((first
| refine u_pure rfl rfl (fun hp hH => zH rfl rfl (hH.2 zd) rfl) aJ aC zd aN ?_
| refine u_pure rfl rfl (fun _ _ => zD rfl) aJ aC zd aN ?_
| refine u_pure rfl rfl (fun _ _ => zE rfl rfl) aJ aC zd aN ?_
| refine u_eff rfl rfl aF (j_callLB (n := 0) rfl rfl rfl aL (by rfl) (by rfl) (hpk)) (by first | exact fun _ hm hF _ => absurd (hm 999999 zd) hF | exact fun _ _ _ hh => hh | exact (fun _ hm _ _ => ⟨⟨_, rfl⟩, fun h => absurd (hm 8 zd) h⟩)) ?_
| refine u_eff rfl rfl aF (j_append rfl rfl rfl rfl rfl rfl (one_one rfl) rfl zn zn) (by first | exact fun _ hm hF _ => absurd (hm 999999 zd) hF | exact fun _ _ _ hh => hh | exact (fun _ hm _ _ => ⟨⟨_, rfl⟩, fun h => absurd (hm 8 zd) h⟩)) ?_
| refine u_eff rfl rfl aF (j_store_boxC rfl rfl rfl rfl aK rfl rfl) (by first | exact fun _ hm hF _ => absurd (hm 999999 zd) hF | exact fun _ _ _ hh => hh | exact (fun _ hm _ _ => ⟨⟨_, rfl⟩, fun h => absurd (hm 8 zd) h⟩)) ?_
| refine u_eff rfl rfl aF (j_pure (zE rfl rfl)) (by first | exact fun _ hm hF _ => absurd (hm 999999 zd) hF | exact fun _ _ _ hh => hh | exact (fun _ hm _ _ => ⟨⟨_, rfl⟩, fun h => absurd (hm 8 zd) h⟩)) ?_
| refine u_eff rfl rfl aF (j_pure (ps_lit1 rfl rfl (by rfl) (by rfl))) (by first | exact fun _ hm hF _ => absurd (hm 999999 zd) hF | exact fun _ _ _ hh => hh | exact (fun _ hm _ _ => ⟨⟨_, rfl⟩, fun h => absurd (hm 8 zd) h⟩)) ?_); refine ⟨_, aP, ?_⟩))
           repeat' (first
| refine wO ?_
| (refine o_go rfl ?_; (first
| refine wS ?_); refine ⟨_, aB, ?_⟩))
           exact zT (j + 2) (by omega) (by omega) aI ⟨vI (by omega), trivial⟩ (zB rfl (zB rfl (zB rfl (zB rfl (zB rfl (zB rfl (zB rfl (zB rfl (zB (by rw [hF, List.map_append]; rfl) (zM _))))))))))
         · have hjN' : N = j + 1 := by omega
           have hce' : ce = (F (j + 1)).1 := by rw [hce, hjN']
           have htb' : f.tb = (F (j + 1)).2 := by rw [htb, hjN']
           repeat' (first
| refine wO ?_
| (refine o_go rfl ?_; (first
| refine p_e rfl (e_lit1S rfl rfl rfl (one_all (fun _ => rfl) _) rfl) ?_
| refine p_e rfl (e_append_sg rfl rfl rfl rfl rfl rfl zd (by rw [hll, n_len_c, n_len_n]; omega) (by rw [hll, n_len_c, n_len_n]; omega)) ?_
| refine wS ?_
| refine p_e rfl (e_store_boxC rfl rfl rfl rfl aK rfl rfl) ?_); refine ⟨_, aB, ?_⟩)
| (refine zK rfl ?_ ?_ <;> intro hc <;> try omega)
| refine wE ?_)
           all_goals try (exfalso; omega)
           refine zT (i + 2) (by omega) (by omega) aI ⟨vI (by omega), trivial⟩ (zB (by rw [hDn, hce']) (zB rfl (zB rfl (hpLe_gone (hpLe_gone (hpLe_gone (zB ?_ (zM _))))))))
           rw [hDn]; simp only [sgI, rowsO, List.map_append, List.map_cons, List.map_nil, ← htb', har]; try rfl
      · repeat' (first
| refine wO ?_
| (refine o_go rfl ?_; (first
| refine p_e rfl (e_callL (n := 0) rfl rfl rfl aL rfl (by rfl) aT (g1)) ?_
| refine p_p (zG rfl rfl aD (hpw)) ?_
| refine p_p (ps_lits rfl ze ze aU zd zd) ?_
| refine wS ?_
| refine p_e rfl (zO rfl rfl rfl rfl aK rfl rfl rfl) ?_
| refine p_e rfl (e_alloc rfl) ?_
| refine p_p (ps_build rfl rfl) ?_); refine ⟨_, aB, ?_⟩)
| (refine o_s rfl ?_; refine ⟨_, aB, ?_⟩)
| (refine o_splitD rfl rfl rfl ?_ ?_ <;> intro hc <;> first | omega | dsimp only [List.set_cons_zero, List.set_cons_succ])
| (refine zK rfl ?_ ?_ <;> intro hc <;> try omega)
| refine wE ?_)
        all_goals try (exfalso; omega)
        refine g_loopT (α := Nat) (fun j => [(8, I ((N : Int) - (j : Int)))]) (fun j => tH (fun c => [cuB c, resB, .box [I (n : Int), .hp 6], .gone, .gone, .gone, sgI (rowsO (D (i + 1)).2)]) 8 k F j) (fun j => j ≤ N) (fun j => N - j) 0 aH (Nat.zero_le _) ⟨vI (by omega), trivial⟩ (by rw [tH, F0]; first | rfl | (rw [hk2]; rfl)) ?_
        rintro j hj
        refine wH ?_
        have hlj : ((F j).2.map I).length = j := by rw [List.length_map]; exact F1 j hj
        cases j with
        | zero =>
         obtain ⟨x, hpk, hF⟩ := F2 0 (by omega)
         have hF0 : (F 0).2 = [] := by rw [F0]
         rw [hF0, List.nil_append] at hF
         dsimp only [tH, List.cons_append, List.nil_append]
         repeat' (first
| refine wO ?_
| (refine o_go rfl ?_; (first
| refine wS ?_); refine ⟨_, aB, ?_⟩)
| (refine zK rfl ?_ ?_ <;> intro hc <;> try omega)
| refine wE ?_)
         all_goals try (exfalso; omega)
         refine g_region_drawZ [(0, some [0, 8]), (1, some [0]), (2, some [8]), (3, some [8]), (4, none), (5, none), (6, none), (7, none), (8, none)] [(4, 0), (6, 8), (8, 999999)] (fun hp => hp[7]? = some (.box [I (k : Int), nilV])) (by kernel_rfl) rfl (by kernel_rfl) ?_
         repeat' (first
| refine z_nil ?_
| ((first
| refine zV rfl rfl (fun hp hH => zH rfl rfl hH rfl) aJ aC zd aA ?_
| refine zV rfl rfl (fun _ _ => zD rfl) aJ aC zd aA ?_
| refine zV rfl rfl (fun _ _ => zE rfl rfl) aJ aC zd aA ?_
| refine z_eff rfl rfl aF (j_callLB (n := 0) rfl rfl rfl aL (by rfl) (by rfl) (hpk)) aG ?_
| refine z_eff rfl rfl aF (j_appendNil rfl rfl rfl rfl (one_one rfl) zd rfl zn zn zn) aG ?_
| refine z_eff rfl rfl aF (j_store_boxC rfl rfl rfl rfl aK rfl rfl) aG ?_
| refine z_eff rfl rfl aF (j_pure (zE rfl rfl)) aG ?_
| refine z_eff rfl rfl aF (j_pure (ps_lit1 rfl rfl (by rfl) (by rfl))) aG ?_); refine ⟨_, aP, ?_⟩))
         repeat' (first
| refine wO ?_
| (refine o_go rfl ?_; (first
| refine wS ?_); refine ⟨_, aB, ?_⟩))
         exact zT 1 (by omega) (by omega) aI ⟨vI (by omega), trivial⟩ (zB rfl (zB rfl (zB rfl (zB rfl (zB rfl (zB rfl (zB rfl (zB rfl (zB (by rw [hF]; rfl) (zM _))))))))))
        | succ j =>
         dsimp only [tH, List.cons_append, List.nil_append]
         by_cases hjN : j + 1 < N
         · obtain ⟨x, hpk, hF⟩ := F2 (j + 1) hjN
           repeat' (first
| refine wO ?_
| (refine o_go rfl ?_; (first
| refine wS ?_); refine ⟨_, aB, ?_⟩)
| (refine zK rfl ?_ ?_ <;> intro hc <;> try omega)
| refine wE ?_)
           all_goals try (exfalso; omega)
           refine g_region_drawU [(0, some [0, 8]), (1, some [0]), (2, some [8]), (3, some [8]), (4, none), (5, none), (6, none), (7, none), (8, none)] [(4, 0), (6, 8), (8, 999999)] (fun U hp => (∃ a, hp[7]? = some (.box [I (k : Int), a])) ∧ (8 ∉ U → hp[7]? = some (.box [I (k : Int), .hp 8]))) (by kernel_rfl) rfl (by kernel_rfl) ?_
           repeat' (first
| refine u_nil ?_
| ((first
| refine u_pure rfl rfl (fun hp hH => zH rfl rfl (hH.2 zd) rfl) aJ aC zd aN ?_
| refine u_pure rfl rfl (fun _ _ => zD rfl) aJ aC zd aN ?_
| refine u_pure rfl rfl (fun _ _ => zE rfl rfl) aJ aC zd aN ?_
| refine u_eff rfl rfl aF (j_callLB (n := 0) rfl rfl rfl aL (by rfl) (by rfl) (hpk)) (by first | exact fun _ hm hF _ => absurd (hm 999999 zd) hF | exact fun _ _ _ hh => hh | exact (fun _ hm _ _ => ⟨⟨_, rfl⟩, fun h => absurd (hm 8 zd) h⟩)) ?_
| refine u_eff rfl rfl aF (j_append rfl rfl rfl rfl rfl rfl (one_one rfl) rfl zn zn) (by first | exact fun _ hm hF _ => absurd (hm 999999 zd) hF | exact fun _ _ _ hh => hh | exact (fun _ hm _ _ => ⟨⟨_, rfl⟩, fun h => absurd (hm 8 zd) h⟩)) ?_
| refine u_eff rfl rfl aF (j_store_boxC rfl rfl rfl rfl aK rfl rfl) (by first | exact fun _ hm hF _ => absurd (hm 999999 zd) hF | exact fun _ _ _ hh => hh | exact (fun _ hm _ _ => ⟨⟨_, rfl⟩, fun h => absurd (hm 8 zd) h⟩)) ?_
| refine u_eff rfl rfl aF (j_pure (zE rfl rfl)) (by first | exact fun _ hm hF _ => absurd (hm 999999 zd) hF | exact fun _ _ _ hh => hh | exact (fun _ hm _ _ => ⟨⟨_, rfl⟩, fun h => absurd (hm 8 zd) h⟩)) ?_
| refine u_eff rfl rfl aF (j_pure (ps_lit1 rfl rfl (by rfl) (by rfl))) (by first | exact fun _ hm hF _ => absurd (hm 999999 zd) hF | exact fun _ _ _ hh => hh | exact (fun _ hm _ _ => ⟨⟨_, rfl⟩, fun h => absurd (hm 8 zd) h⟩)) ?_); refine ⟨_, aP, ?_⟩))
           repeat' (first
| refine wO ?_
| (refine o_go rfl ?_; (first
| refine wS ?_); refine ⟨_, aB, ?_⟩))
           exact zT (j + 2) (by omega) (by omega) aI ⟨vI (by omega), trivial⟩ (zB rfl (zB rfl (zB rfl (zB rfl (zB rfl (zB rfl (zB rfl (zB rfl (zB (by rw [hF, List.map_append]; rfl) (zM _))))))))))
         · have hjN' : N = j + 1 := by omega
           have hce' : ce = (F (j + 1)).1 := by rw [hce, hjN']
           have htb' : f.tb = (F (j + 1)).2 := by rw [htb, hjN']
           repeat' (first
| refine wO ?_
| (refine o_go rfl ?_; (first
| refine p_e rfl (e_lit1S rfl rfl rfl (one_all (fun _ => rfl) _) rfl) ?_
| refine p_e rfl (e_append_sg rfl rfl rfl rfl rfl rfl zd (by rw [hll, n_len_c, n_len_n]; omega) (by rw [hll, n_len_c, n_len_n]; omega)) ?_
| refine wS ?_
| refine p_e rfl (e_store_boxC rfl rfl rfl rfl aK rfl rfl) ?_); refine ⟨_, aB, ?_⟩)
| (refine zK rfl ?_ ?_ <;> intro hc <;> try omega)
| refine wE ?_)
           all_goals try (exfalso; omega)
           refine zT (i + 2) (by omega) (by omega) aI ⟨vI (by omega), trivial⟩ (zB (by rw [hDn, hce']) (zB rfl (zB rfl (hpLe_gone (hpLe_gone (hpLe_gone (zB ?_ (zM _))))))))
           rw [hDn]; simp only [sgI, rowsO, List.map_append, List.map_cons, List.map_nil, ← htb', har]; try rfl
  · obtain rfl : K = i + 1 := by omega
    rcases hend with ⟨z, c6, hy, g1⟩ | ⟨f, l, hy, ho⟩ | ⟨f, l, p, v, c6, c7, hy, ho, p0, p1, g1, g2⟩ | ⟨f, l, v, c6, hy, ho, g1⟩ | ⟨E, R, hy, E0, hR, hE, hb, g1, g2⟩ | hy
    · subst hy
      repeat' (first
| refine wO ?_
| (refine o_go rfl ?_; (first
| refine p_e rfl (e_callL (n := 0) rfl rfl rfl aL rfl (by rfl) aT (h4)) ?_
| refine p_e rfl (e_callL (n := 0) rfl rfl rfl aL rfl (by rfl) aT (g1)) ?_
| refine p_p (ps_lits rfl ze ze aU zd zd) ?_
| refine wS ?_
| refine p_e rfl (e_store_boxC rfl rfl rfl rfl aK rfl rfl) ?_
| refine p_e rfl (zO rfl rfl rfl rfl aK rfl rfl rfl) ?_); refine ⟨_, aB, ?_⟩)
| (refine zK rfl ?_ ?_ <;> intro hc <;> try omega)
| refine wE ?_)
      all_goals try (exfalso; omega)
      all_goals try (change KRLC _ _ _ _ _ _ .ret _; exact krlc 0 0 rfl rfl rfl (krC_le rfl aK rfl (by first | exact le_algG _ _ | (rw [ho]; exact le_algG _ _) | exact le_algG (n : Int) (⟨v, f.tb⟩ :: l) | (rw [← List.map_set]; exact le_algG (n : Int) (⟨f.ar, f.tb.set p.toNat v⟩ :: l)) | (rw [show (f.tb.map I ++ [I 0]) = (f.tb ++ [(0 : Int)]).map I by rw [List.map_append]; rfl]; exact le_algG (n : Int) (⟨f.ar, f.tb ++ [0]⟩ :: l)))))
    · subst hy
      repeat' ((fail_if_success (refine at_reg 21 ?_)); (first
| refine wO ?_
| (refine o_go rfl ?_; (first
| refine p_e rfl (e_callL (n := 0) rfl rfl rfl aL rfl (by rfl) aT (h4)) ?_
| refine wS ?_); refine ⟨_, aB, ?_⟩)
| (refine zK rfl ?_ ?_ <;> intro hc <;> try omega)
| refine g_exit ?_))
      all_goals try (exfalso; omega)
      rw [ho]
      have hl1 : (f.tb.map I).length ≤ 27 := by rw [List.length_map]; exact hDt _ (Nat.le_refl _) f (by rw [ho]; exact List.mem_cons_self ..)
      refine g_region_drawZ [(0, some []), (1, some []), (2, some []), (3, some []), (7, some []), (4, none), (5, none), (6, none), (8, none), (9, none), (10, none), (11, none)] [] (fun hp => hp[2]? = some (.box [I (n : Int), .hp 6])) (by kernel_rfl) rfl (by kernel_rfl) ?_
      repeat' (first
| refine z_nil ?_
| ((first
| refine zV rfl rfl (fun hp hH => zH rfl rfl hH rfl) aJ aC zd aA ?_
| refine zV rfl rfl (fun _ _ => zE rfl rfl) aJ aC zd aA ?_
| refine zV rfl rfl (fun _ _ => ps_lit1 rfl rfl (by rfl) (by rfl)) aJ aC zd aA ?_
| refine z_eff rfl rfl aF (j_pure (ps_index_sg rfl rfl rfl rfl zd (by exact Nat.succ_pos _))) aG ?_
| refine z_eff rfl rfl aF (j_pure (ps_load_sg rfl rfl rfl rfl (by exact Nat.succ_pos _))) aG ?_
| refine z_eff rfl rfl aF (j_appendRowS rfl rfl rfl rfl rfl rfl rfl (by intro p hp; cases hp with | head => rfl | tail _ h => cases h) zn zn) aG ?_
| refine z_eff rfl rfl aF (j_pure (yA rfl rfl rfl rfl zd (by exact Nat.succ_pos _))) aG ?_
| refine z_eff rfl rfl aF (j_store_arrF (i := 0) (j := 1) rfl rfl rfl rfl rfl rfl aK rfl rfl rfl) aG ?_
| refine z_eff rfl rfl aF (j_pure (zE rfl rfl)) aG ?_); refine ⟨_, aP, ?_⟩))
      repeat' (first
| refine wO ?_
| (refine o_go rfl ?_; (first
| refine wS ?_
| refine p_e rfl (zO rfl rfl rfl rfl aK rfl rfl rfl) ?_); refine ⟨_, aB, ?_⟩)
| refine wE ?_)
      all_goals try (exfalso; omega)
      all_goals try (change KRLC _ _ _ _ _ _ .ret _; exact krlc 0 0 rfl rfl rfl (krC_le rfl aK rfl (by first | exact le_algG _ _ | (rw [ho]; exact le_algG _ _) | exact le_algG (n : Int) (⟨v, f.tb⟩ :: l) | (rw [← List.map_set]; exact le_algG (n : Int) (⟨f.ar, f.tb.set p.toNat v⟩ :: l)) | (rw [show (f.tb.map I ++ [I 0]) = (f.tb ++ [(0 : Int)]).map I by rw [List.map_append]; rfl]; exact le_algG (n : Int) (⟨f.ar, f.tb ++ [0]⟩ :: l)))))
    · subst hy
      repeat' ((fail_if_success (refine at_reg 23 ?_)); (first
| refine wO ?_
| (refine o_go rfl ?_; (first
| refine p_e rfl (e_callL (n := 0) rfl rfl rfl aL rfl (by rfl) aT (h4)) ?_
| refine wS ?_); refine ⟨_, aB, ?_⟩)
| (refine zK rfl ?_ ?_ <;> intro hc <;> try omega)
| refine g_exit ?_))
      all_goals try (exfalso; omega)
      rw [ho]
      have hl1 : (f.tb.map I).length = f.tb.length := List.length_map ..
      have hl2 : f.tb.length ≤ 27 := hDt _ (Nat.le_refl _) f (by rw [ho]; exact List.mem_cons_self ..)
      have g1' : LCalls Tryz.prog 135 (cuB c5) [.hat 0 0, I ((f.tb.map I).length : Nat)] (cuB c6) (I p) := by rw [hl1]; exact g1
      refine g_region_drawZ [(0, some []), (1, some []), (2, some []), (3, some []), (4, some []), (5, some []), (6, some []), (7, some []), (8, some []), (9, some []), (10, some []), (11, some []), (13, some []), (14, some []), (15, some []), (12, none), (16, none), (17, none), (18, none)] [(18, 999999)] (fun hp => hp[2]? = some (.box [I (n : Int), .hp 6]) ∧ hp[6]? = some (sgI (rowsO (f :: l)))) (by kernel_rfl) rfl (by kernel_rfl) ?_
      repeat' (first
| refine z_nil ?_
| ((first
| refine zV rfl rfl (fun hp hH => zH rfl rfl hH.1 rfl) aJ aC zd aA ?_
| refine zV rfl rfl (fun hp hH => ps_index_sg rfl rfl hH.2 rfl zd (by exact Nat.succ_pos _)) aJ aC zd aA ?_
| refine zV rfl rfl (fun hp hH => ps_load_sg (i := 0) rfl rfl hH.2 rfl (by exact Nat.succ_pos _)) aJ aC zd aA ?_
| refine zV rfl rfl (fun hp hH => ps_len_sgr rfl rfl rfl hH.2 rfl) aJ aC zd aA ?_
| refine zV rfl rfl (fun _ _ => zD rfl) aJ aC zd aA ?_
| refine zV rfl rfl (fun _ _ => zE rfl rfl) aJ aC zd aA ?_
| refine zV rfl rfl (fun _ _ => ps_lit2 rfl rfl rfl (by rfl) (by rfl) (by rfl)) aJ aC zd aA ?_
| refine z_eff rfl rfl aF (j_callLB (n := 0) rfl rfl rfl aL (by rfl) (by rfl) (g1')) aG ?_
| refine z_eff rfl rfl aF (j_callLB (n := 0) rfl rfl rfl aL (by rfl) (by rfl) (g2)) aG ?_
| refine z_eff rfl rfl aF (j_pure (ps_index_sgr rfl rfl rfl rfl rfl p0 (by rw [hl1]; omega))) aG ?_
| refine z_eff rfl rfl aF (j_store_sgr rfl rfl rfl rfl rfl (by rw [hl1]; omega) rfl rfl) aG ?_); refine ⟨_, aP, ?_⟩))
      repeat' (first
| refine wO ?_
| (refine o_go rfl ?_; (first
| refine wS ?_
| refine p_e rfl (zO rfl rfl rfl rfl aK rfl rfl rfl) ?_); refine ⟨_, aB, ?_⟩)
| refine wE ?_)
      all_goals try (exfalso; omega)
      all_goals try (change KRLC _ _ _ _ _ _ .ret _; exact krlc 0 0 rfl rfl rfl (krC_le rfl aK rfl (by first | exact le_algG _ _ | (rw [ho]; exact le_algG _ _) | exact le_algG (n : Int) (⟨v, f.tb⟩ :: l) | (rw [← List.map_set]; exact le_algG (n : Int) (⟨f.ar, f.tb.set p.toNat v⟩ :: l)) | (rw [show (f.tb.map I ++ [I 0]) = (f.tb ++ [(0 : Int)]).map I by rw [List.map_append]; rfl]; exact le_algG (n : Int) (⟨f.ar, f.tb ++ [0]⟩ :: l)))))
    · subst hy
      repeat' ((fail_if_success (refine at_reg 25 ?_)); (first
| refine wO ?_
| (refine o_go rfl ?_; (first
| refine p_e rfl (e_callL (n := 0) rfl rfl rfl aL rfl (by rfl) aT (h4)) ?_
| refine wS ?_); refine ⟨_, aB, ?_⟩)
| (refine zK rfl ?_ ?_ <;> intro hc <;> try omega)
| refine g_exit ?_))
      all_goals try (exfalso; omega)
      rw [ho]
      refine g_region_drawZ [(0, some []), (1, some []), (2, some []), (3, some []), (4, none), (5, none), (6, none), (7, none)] [(7, 999999)] (fun hp => hp[2]? = some (.box [I (n : Int), .hp 6])) (by kernel_rfl) rfl (by kernel_rfl) ?_
      repeat' (first
| refine z_nil ?_
| ((first
| refine zV rfl rfl (fun hp hH => zH rfl rfl hH rfl) aJ aC zd aA ?_
| refine zV rfl rfl (fun _ _ => zD rfl) aJ aC zd aA ?_
| refine zV rfl rfl (fun _ _ => zE rfl rfl) aJ aC zd aA ?_
| refine zV rfl rfl (fun _ _ => ps_lit2 rfl rfl rfl (by rfl) (by rfl) (by rfl)) aJ aC zd aA ?_
| refine z_eff rfl rfl aF (j_callLB (n := 0) rfl rfl rfl aL (by rfl) (by rfl) (g1)) aG ?_
| refine z_eff rfl rfl aF (j_pure (ps_index_sg rfl rfl rfl rfl zd (by exact Nat.succ_pos _))) aG ?_
| refine z_eff rfl rfl aF (j_store_sg0 (i := 0) rfl rfl rfl rfl rfl rfl rfl rfl) aG ?_
| refine z_eff rfl rfl aF (j_pure (zE rfl rfl)) aG ?_); refine ⟨_, aP, ?_⟩))
      repeat' (first
| refine wO ?_
| (refine o_go rfl ?_; (first
| refine wS ?_
| refine p_e rfl (zO rfl rfl rfl rfl aK rfl rfl rfl) ?_); refine ⟨_, aB, ?_⟩)
| refine wE ?_)
      all_goals try (exfalso; omega)
      all_goals try (change KRLC _ _ _ _ _ _ .ret _; exact krlc 0 0 rfl rfl rfl (krC_le rfl aK rfl (by first | exact le_algG _ _ | (rw [ho]; exact le_algG _ _) | exact le_algG (n : Int) (⟨v, f.tb⟩ :: l) | (rw [← List.map_set]; exact le_algG (n : Int) (⟨f.ar, f.tb.set p.toNat v⟩ :: l)) | (rw [show (f.tb.map I ++ [I 0]) = (f.tb ++ [(0 : Int)]).map I by rw [List.map_append]; rfl]; exact le_algG (n : Int) (⟨f.ar, f.tb ++ [0]⟩ :: l)))))
    · subst hy
      repeat' ((fail_if_success (refine at_reg 27 ?_)); (first
| refine wO ?_
| (refine o_go rfl ?_; (first
| refine p_e rfl (e_callL (n := 0) rfl rfl rfl aL rfl (by rfl) aT (h4)) ?_
| refine wS ?_); refine ⟨_, aB, ?_⟩)
| (refine zK rfl ?_ ?_ <;> intro hc <;> try omega)
| refine g_exit ?_))
      all_goals try (exfalso; omega)
      refine g_loopT (α := Nat) (fun t => []) (fun t => [cuB (E t).1, resB, .box [I (n : Int), .hp 6], .gone, .gone, .gone, sgI (rowsO ((D (i + 1)).2 ++ List.replicate t ⟨1, List.replicate n 0⟩))]) (fun t => t ≤ R) (fun t => R - t) 0 aH (Nat.zero_le _) trivial (by rw [E0]; simp only [List.replicate_zero, List.append_nil]) ?_
      rintro t ht
      refine wH ?_
      have hLl : (((rowsO ((D (i + 1)).2 ++ List.replicate t ⟨1, List.replicate n 0⟩)).map fun r => r.map I)).length = (D (i + 1)).2.length + t := by simp
      have hbt := hb t ht
      have hpk := hE t ht
      have hDn := hDl _ (Nat.le_refl _)
      repeat' (first
| refine wO ?_)
      refine g_region_drawZ [(0, some []), (1, some []), (2, some []), (3, some []), (4, none), (5, some []), (6, some [])] [] (fun hp => hp[2]? = some (.box [I (n : Int), .hp 6]) ∧ hp[6]? = some (sgI (rowsO ((D (i + 1)).2 ++ List.replicate t ⟨1, List.replicate n 0⟩)))) (by kernel_rfl) rfl (by kernel_rfl) ?_
      repeat' (first
| refine z_nil ?_
| ((first
| refine zV rfl rfl (fun hp hH => zH rfl rfl hH.1 rfl) aJ aC zd aA ?_
| refine zV rfl rfl (fun hp hH => ps_len_sg rfl rfl rfl hH.2) aJ aC zd aA ?_
| refine zV rfl rfl (fun _ _ => zD rfl) aJ aC zd aA ?_
| refine zV rfl rfl (fun _ _ => zS rfl rfl rfl) aJ aC zd aA ?_
| refine zV rfl rfl (fun _ _ => ps_add rfl rfl rfl aO) aJ aC zd aA ?_
| refine zV rfl rfl (fun _ _ => zE rfl rfl) aJ aC zd aA ?_
| refine z_eff rfl rfl aF (j_callLB (n := 0) rfl rfl rfl aL (by rfl) (by rfl) (hpk)) aG ?_); refine ⟨_, aP, ?_⟩))
      by_cases htR : t < R
      · have h5 := g1 t htR
        repeat' ((fail_if_success (refine at_reg 28 ?_)); (first
| refine wO ?_
| (refine zK rfl ?_ ?_ <;> intro hc <;> try omega)
| refine zR ?_))
        all_goals try (exfalso; omega)
        refine g_region_drawU [(0, some [7, 8, 6]), (1, some [7, 8]), (2, some [8, 6]), (3, none), (4, none), (5, none), (6, none), (7, none), (8, none)] [(3, 7), (5, 8), (6, 6), (8, 999999)] (fun U hp => (∃ a, hp[2]? = some (.box [I (n : Int), a])) ∧ (6 ∉ U → hp[2]? = some (.box [I (n : Int), .hp 6]))) (by kernel_rfl) rfl (by kernel_rfl) ?_
        repeat' (first
| refine u_nil ?_
| ((first
| refine u_pure rfl rfl (fun hp hH => zH rfl rfl (hH.2 zd) rfl) aJ aC zd aN ?_
| refine u_pure rfl rfl (fun _ _ => zD rfl) aJ aC zd aN ?_
| refine u_pure rfl rfl (fun _ _ => zE rfl rfl) aJ aC zd aN ?_
| refine u_eff rfl rfl aF (j_make (zp := I 0) rfl rfl rfl zz zz zz zd (by rfl) (by rfl)) (by first | exact fun _ hm hF _ => absurd (hm 999999 zd) hF | exact fun _ _ _ hh => hh | exact (fun _ hm _ _ => ⟨⟨_, rfl⟩, fun h => absurd (hm 6 zd) h⟩)) ?_
| refine u_eff rfl rfl aF (j_lit1S rfl rfl rfl (by rw [List.all_eq_true]; intro p hp; rw [(List.mem_replicate.1 hp).2]; rfl) rfl) (by first | exact fun _ hm hF _ => absurd (hm 999999 zd) hF | exact fun _ _ _ hh => hh | exact (fun _ hm _ _ => ⟨⟨_, rfl⟩, fun h => absurd (hm 6 zd) h⟩)) ?_
| refine u_eff rfl rfl aF (j_append_sg rfl rfl rfl rfl rfl rfl zd (by rw [hLl, n_len_c, n_len_n]; omega) (by rw [hLl, n_len_c, n_len_n]; omega)) (by first | exact fun _ hm hF _ => absurd (hm 999999 zd) hF | exact fun _ _ _ hh => hh | exact (fun _ hm _ _ => ⟨⟨_, rfl⟩, fun h => absurd (hm 6 zd) h⟩)) ?_
| refine u_eff rfl rfl aF (j_store_boxC rfl rfl rfl rfl aK rfl rfl) (by first | exact fun _ hm hF _ => absurd (hm 999999 zd) hF | exact fun _ _ _ hh => hh | exact (fun _ hm _ _ => ⟨⟨_, rfl⟩, fun h => absurd (hm 6 zd) h⟩)) ?_
| refine u_eff rfl rfl aF (j_pure (zE rfl rfl)) (by first | exact fun _ hm hF _ => absurd (hm 999999 zd) hF | exact fun _ _ _ hh => hh | exact (fun _ hm _ _ => ⟨⟨_, rfl⟩, fun h => absurd (hm 6 zd) h⟩)) ?_
| refine u_eff rfl rfl aF (j_pure (ps_build rfl rfl)) (by first | exact fun _ hm hF _ => absurd (hm 999999 zd) hF | exact fun _ _ _ hh => hh | exact (fun _ hm _ _ => ⟨⟨_, rfl⟩, fun h => absurd (hm 6 zd) h⟩)) ?_); refine ⟨_, aP, ?_⟩))
        all_goals try (exfalso; omega)
        refine zT (t + 1) (by omega) (by omega) aI (by exact trivial) (zB rfl (zB rfl (zB rfl (hpLe_gone (hpLe_gone (hpLe_gone (zB ?_ (zM _))))))))
        rw [List.replicate_succ', ← List.append_assoc]; simp only [sgI, rowsO, List.map_append, List.map_cons, List.map_nil, List.map_replicate]
      · obtain rfl : t = R := by omega
        repeat' (first
| refine wO ?_
| (refine o_go rfl ?_; (first
| refine wS ?_
| refine p_e rfl (zO rfl rfl rfl rfl aK rfl rfl rfl) ?_); refine ⟨_, aB, ?_⟩)
| (refine zK rfl ?_ ?_ <;> intro hc <;> try omega)
| refine wE ?_)
        all_goals try (exfalso; omega)
        all_goals try (change KRLC _ _ _ _ _ _ .ret _; exact krlc 0 0 rfl rfl rfl (krC_le rfl aK rfl (by first | exact le_algG _ _ | (rw [ho]; exact le_algG _ _) | exact le_algG (n : Int) (⟨v, f.tb⟩ :: l) | (rw [← List.map_set]; exact le_algG (n : Int) (⟨f.ar, f.tb.set p.toNat v⟩ :: l)) | (rw [show (f.tb.map I ++ [I 0]) = (f.tb ++ [(0 : Int)]).map I by rw [List.map_append]; rfl]; exact le_algG (n : Int) (⟨f.ar, f.tb ++ [0]⟩ :: l)))))
    · repeat' (first
| refine wO ?_
| (refine o_go rfl ?_; (first
| refine p_e rfl (e_callL (n := 0) rfl rfl rfl aL rfl (by rfl) aT (h4)) ?_
| refine wS ?_
| refine p_e rfl (zO rfl rfl rfl rfl aK rfl rfl rfl) ?_); refine ⟨_, aB, ?_⟩)
| (refine zK rfl ?_ ?_ <;> intro hc <;> try omega)
| refine wE ?_)
      all_goals try (exfalso; omega)
      all_goals try (change KRLC _ _ _ _ _ _ .ret _; exact krlc 0 0 rfl rfl rfl (krC_le rfl aK rfl (by first | exact le_algG _ _ | (rw [ho]; exact le_algG _ _) | exact le_algG (n : Int) (⟨v, f.tb⟩ :: l) | (rw [← List.map_set]; exact le_algG (n : Int) (⟨f.ar, f.tb.set p.toNat v⟩ :: l)) | (rw [show (f.tb.map I ++ [I 0]) = (f.tb ++ [(0 : Int)]).map I by rw [List.map_append]; rfl]; exact le_algG (n : Int) (⟨f.ar, f.tb ++ [0]⟩ :: l)))))
end Go.Proofs.YtepjlgilopfnpaaGreat
