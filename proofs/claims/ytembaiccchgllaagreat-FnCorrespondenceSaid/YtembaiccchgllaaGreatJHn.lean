/- Walks: the reference's draw of an algebra. -/
import Derived.Test.YtembaiccchgllaaGreatJKo
import Derived.Test.YtembaiccchgllaaGreatJKc
import Derived.Test.YtembaiccchgllaaGreatJHl
import Derived.Test.YtembaiccchgllaaGreatJQa
namespace Go.Proofs.YtembaiccchgllaaGreat
open Go Go.Pv Go.Proofs
set_option maxHeartbeats 32000000
set_option maxRecDepth 100000
attribute [local bitvec_to_nat] St.put St.setObj St.ev killP killA killP1 killH mapHO renP renA ren1 killG killGA killG1 krowP krowA krow1 lendP lendA lend1 unv pinP pin1 elemsM viewM viewN viewV n_set_z n_set_s n_map_c n_map_n getD_z getD_s n_toNat n_cond_t n_cond_f n_len_c n_len_n n_app_c n_app_n n_take_s n_take_z n_drop_s n_drop_z n_get_z n_get_s view viewA view1 elems Nat.zero_add Nat.add_zero Bool.not_true Bool.not_false Nat.one_ne_zero Nat.mul_one
attribute [local bitvec_to_nat] posI optP lendM1 lendMA lendMP killM1 killMA killMP hasI getO backM1 backMA backMP putL inpM pinM1 pinMA pinMP killR1 killRA killR

structure OpDr (n : Nat) (c : Cu) (f : OpD) (c' : Cu) where
  a : Nat
  k : Nat
  ca : Cu
  F : Nat → Cu × List Int
  h1 : LCalls Tryz.prog 197 (cuB c) [.hat 0 0, ints [0, 1, 2, 2, 3]] (cuB ca) (I (a : Int))
  hk : k = if n = 4 ∧ a = 3 then 2 else a
  hk3 : k ≤ 3
  har : f.ar = (k : Int)
  F0 : F 0 = (ca, [])
  F1 : ∀ j, j ≤ n ^ k → (F j).2.length = j
  F2 : ∀ j, j < n ^ k → ∃ x, LCalls Tryz.prog 266 (cuB (F j).1) [.hat 0 0, I (n : Int)] (cuB (F (j + 1)).1) (I x) ∧ (F (j + 1)).2 = (F j).2 ++ [x]
  hc : c' = (F (n ^ k)).1
  htb : f.tb = (F (n ^ k)).2
theorem pow_27 {n k : Nat} (hn : n = 2 ∨ n = 3 ∨ n = 4) (hk : k ≤ 3) (h4 : n = 4 → k ≤ 2) : 1 ≤ n ^ k ∧ n ^ k ≤ 27 := by
  have h3 : k = 0 ∨ k = 1 ∨ k = 2 ∨ k = 3 := by omega
  rcases hn with rfl | rfl | rfl <;> rcases h3 with rfl | rfl | rfl | rfl <;> first | decide | (have := h4 rfl; omega)
theorem Cu.ok.up {c : Cu} {m m' : Int} (h : c.ok m) (hm : m ≤ m') : c.ok m' := ⟨h.len, h.byte, h.lo, Int.le_trans h.hi hm, h.sd0⟩
theorem dlist_ex {c : Cu} {M : Int} (h : c.ok M) (hM : M ≤ 800000) (n : Nat) (hn : n ≤ 1000) (k : Int) (hk2 : k ≤ 1000) :
    ∃ F : Nat → Cu × List Int, F 0 = (c, []) ∧ (∀ i, i ≤ n → (F i).1.ok (M + 2 * (i : Int)) ∧ (F i).2.length = i) ∧ ∀ i, i < n → ∃ x, LCalls Tryz.prog 266 (cuB (F i).1) [.hat 0 0, I k] (cuB (F (i + 1)).1) (I x) ∧ (F (i + 1)).2 = (F i).2 ++ [x] := by
  refine seq_of (fun i s => s.1.ok (M + 2 * (i : Int)) ∧ s.2.length = i) (fun i s s' => ∃ x, LCalls Tryz.prog 266 (cuB s.1) [.hat 0 0, I k] (cuB s'.1) (I x) ∧ s'.2 = s.2 ++ [x]) (c, []) n ⟨by simpa using h, rfl⟩ fun i s hi ⟨h1, h2⟩ => ?_
  obtain ⟨c', x, k1, x0, x1, hc⟩ := pick_L h1 (by omega) k (by omega)
  exact ⟨(c', s.2 ++ [x]), ⟨by rw [show M + 2 * ((i + 1 : Nat) : Int) = M + 2 * (i : Int) + 2 by omega]; exact k1, by simp [h2]⟩, x, hc, rfl⟩
theorem opdr_ex {n : Nat} {c : Cu} {M : Int} (h : c.ok M) (hM : M ≤ 700000) (hn : n = 2 ∨ n = 3 ∨ n = 4) : ∃ f c', Nonempty (OpDr n c f c') ∧ c'.ok (M + 100) ∧ 1 ≤ f.tb.length ∧ f.tb.length ≤ 27 := by
  obtain ⟨ca, x, k1, hx, hc⟩ := among_L h (by omega) [0, 1, 2, 2, 3] (by decide) (by decide)
  obtain ⟨a, rfl, ha⟩ : ∃ a : Nat, x = (a : Int) ∧ a ≤ 3 := by
    simp only [List.mem_cons, List.not_mem_nil, or_false] at hx
    rcases hx with rfl | rfl | rfl | rfl | rfl
    · exact ⟨0, rfl, by omega⟩
    · exact ⟨1, rfl, by omega⟩
    · exact ⟨2, rfl, by omega⟩
    · exact ⟨2, rfl, by omega⟩
    · exact ⟨3, rfl, by omega⟩
  obtain ⟨k, hk⟩ : ∃ k, k = if n = 4 ∧ a = 3 then 2 else a := ⟨_, rfl⟩
  have hk3 : k ≤ 3 := by rw [hk]; split <;> omega
  have hk4 : n = 4 → k ≤ 2 := fun h => by rw [hk]; split <;> omega
  obtain ⟨p1, p2⟩ := pow_27 hn hk3 hk4
  obtain ⟨F, F0, F1, F2⟩ := dlist_ex k1 (by omega) (n ^ k) (by omega) (n : Int) (by omega)
  refine ⟨⟨(k : Int), (F (n ^ k)).2⟩, (F (n ^ k)).1, ⟨⟨a, k, ca, F, hc, hk, hk3, rfl, F0, fun j hj => (F1 j hj).2, F2, rfl, rfl⟩⟩, ?_, ?_, ?_⟩
  · have := (F1 (n ^ k) (Nat.le_refl _)).1
    exact this.up (by omega)
  · rw [(F1 (n ^ k) (Nat.le_refl _)).2]; exact p1
  · rw [(F1 (n ^ k) (Nat.le_refl _)).2]; exact p2
abbrev resB : HO := .box [I 0, nilV]
def aHown (n : Nat) (D : Nat → Cu × List OpD) : Nat → List HO
  | 0 => [cuB (D 0).1, resB, .box [I (n : Int), nilV]]
  | i + 1 => [cuB (D (i + 1)).1, resB, .box [I (n : Int), .hp 6], .gone, .gone, .gone, sgI (rowsO (D (i + 1)).2)]
def tH (base : Cu → List HO) (R : Nat) (k : Nat) (F : Nat → Cu × List Int) : Nat → List HO
  | 0 => base (F 0).1 ++ [.box [I (k : Int), nilV]]
  | j + 1 => base (F (j + 1)).1 ++ [.box [I (k : Int), .hp R], .arr true 1 3 ((F (j + 1)).2.map I)]
inductive AlgEnd (n : Nat) (c : Cu) (ops : List OpD) (y : Int) : Int → List OpD → Cu → Prop
  | size (z : Int) (c' : Cu) (hy : y = 0) (h : LCalls Tryz.prog 197 (cuB c) [.hat 0 0, ints [0, 9, (n : Int) + 1]] (cuB c') (I z)) : AlgEnd n c ops y z ops c'
  | more (f : OpD) (l : List OpD) (hy : y = 1) (ho : ops = f :: l) : AlgEnd n c ops y n (⟨f.ar, f.tb ++ [0]⟩ :: l) c
  | cell (f : OpD) (l : List OpD) (p v : Int) (c1 c' : Cu) (hy : y = 2) (ho : ops = f :: l) (hp0 : 0 ≤ p) (hp : p < (f.tb.length : Int)) (h1 : LCalls Tryz.prog 266 (cuB c) [.hat 0 0, I (f.tb.length : Int)] (cuB c1) (I p))
      (h2 : LCalls Tryz.prog 197 (cuB c1) [.hat 0 0, ints [-1, (n : Int)]] (cuB c') (I v)) : AlgEnd n c ops y n (⟨f.ar, f.tb.set p.toNat v⟩ :: l) c'
  | ar (f : OpD) (l : List OpD) (v : Int) (c' : Cu) (hy : y = 3) (ho : ops = f :: l) (h : LCalls Tryz.prog 197 (cuB c) [.hat 0 0, ints [-1, 4]] (cuB c') (I v)) : AlgEnd n c ops y n (⟨v, f.tb⟩ :: l) c'
  | fill (E : Nat → Cu × Int) (R : Nat) (hy : y = 4) (E0 : (E 0).1 = c) (hR : R ≤ 5) (hE : ∀ t, t ≤ R → LCalls Tryz.prog 266 (cuB (E t).1) [.hat 0 0, I 2] (cuB (E (t + 1)).1) (I (E (t + 1)).2)) (hb : ∀ t, t ≤ R → 0 ≤ (E (t + 1)).2 ∧ (E (t + 1)).2 ≤ 1)
      (h1 : ∀ t, t < R → ((ops.length + t : Nat) : Int) < 4 + (E (t + 1)).2) (h2 : ¬ ((ops.length + R : Nat) : Int) < 4 + (E (R + 1)).2) : AlgEnd n c ops y n (ops ++ List.replicate R ⟨1, List.replicate n 0⟩) (E (R + 1)).1
  | none (hy : y < 0 ∨ 5 ≤ y) : AlgEnd n c ops y n ops c
theorem alg_w0 {c c1 c2 : Cu} {x n : Int} {ops : List OpD} (h1 : LCalls Tryz.prog 265 (cuB c) [.hat 0 0, I 4] (cuB c1) (B false)) (h2 : LCalls Tryz.prog 266 (cuB c1) [.hat 0 0, I 17] (cuB c2) (I x))
    (h3 : PCalls Tryz.prog 274 [I x] (algP n ops)) : LCalls Tryz.prog 193 (cuB c) [.hat 0 0] (cuB c2) (algP n ops) := by
  refine pcallsLC Tryz.func193 rfl Tryz.ntmps193 rfl rfl rfl (by simp) fun b d => ?_
  simp only [List.length_cons, List.length_nil, Nat.reduceAdd, Nat.reduceSub, List.replicate_succ, List.replicate_zero]
  repeat' (first
| refine g_seq ?_
| refine zC ?_
| (refine o_go rfl ?_; (first
| refine p_e rfl (e_callL (n := 0) rfl rfl rfl aK rfl (by rfl) aR (h1)) ?_
| refine p_e rfl (e_callL (n := 0) rfl rfl rfl aK rfl (by rfl) aR (h2)) ?_
| refine p_p (zG rfl rfl aC (h3)) ?_
| refine p_p (zD rfl) ?_
| refine p_p (ps_not rfl rfl) ?_
| refine p_p (zY rfl rfl rfl aL) ?_
| refine p_e rfl (zO rfl rfl rfl rfl aL rfl rfl rfl) ?_
| refine p_e rfl (e_alloc rfl) ?_); refine ⟨_, aB, ?_⟩)
| refine o_nil ?_
| refine zX rfl ?_
| refine g_ret ?_)
  change KRLC _ _ _ _ _ _ .ret _
  exact krlc 0 0 rfl rfl rfl (krC rfl aL rfl)
theorem alg_w {c c1 c2 c3 c5 c' : Cu} {n K : Nat} {D : Nat → Cu × List OpD} {y n' : Int} {ops' : List OpD} (hn : n = 2 ∨ n = 3 ∨ n = 4) (hK : K = 1 ∨ K = 2) (h1 : LCalls Tryz.prog 265 (cuB c) [.hat 0 0, I 4] (cuB c1) (B true))
    (h2 : LCalls Tryz.prog 197 (cuB c1) [.hat 0 0, ints [2, 2, 3, 3, 4]] (cuB c2) (I (n : Int))) (h3 : LCalls Tryz.prog 197 (cuB c2) [.hat 0 0, ints [1, 1, 2]] (cuB c3) (I (K : Int)))
    (D0 : D 0 = (c3, [])) (hD : ∀ i, i < K → ∃ f c', Nonempty (OpDr n (D i).1 f c') ∧ 1 ≤ f.tb.length ∧ f.tb.length ≤ 27 ∧ D (i + 1) = (c', (D i).2 ++ [f])) (hDl : ∀ i, i ≤ K → (D i).2.length = i) (hDt : ∀ i, i ≤ K → ∀ f ∈ (D i).2, f.tb.length ≤ 27)
    (h4 : LCalls Tryz.prog 266 (cuB (D K).1) [.hat 0 0, I 16] (cuB c5) (I y)) (hend : AlgEnd n c5 (D K).2 y n' ops' c') :
    LCalls Tryz.prog 193 (cuB c) [.hat 0 0] (cuB c') (algP n' ops') := by
  refine pcallsLC Tryz.func193 rfl Tryz.ntmps193 rfl rfl rfl (by simp) fun b d => ?_
  simp only [List.length_cons, List.length_nil, Nat.reduceAdd, Nat.reduceSub, List.replicate_succ, List.replicate_zero]
  repeat' (first
| refine g_seq ?_
| refine zJ ?_
| refine zC ?_
| (refine o_go rfl ?_; (first
| refine p_e rfl (e_callL (n := 0) rfl rfl rfl aK rfl (by rfl) aR (h1)) ?_
| refine p_e rfl (e_callL (n := 0) rfl rfl rfl aK rfl (by rfl) aR (h2)) ?_
| refine p_e rfl (e_callL (n := 0) rfl rfl rfl aK rfl (by rfl) aR (h3)) ?_
| refine p_p (ps_lits rfl (by exact rfl) (by exact rfl) aU (by decide) (by decide)) ?_
| refine p_p (zD rfl) ?_
| refine p_p (zA rfl) ?_
| refine p_p (ps_not rfl rfl) ?_
| refine p_e rfl (zO rfl rfl rfl rfl aL rfl rfl rfl) ?_
| refine p_e rfl (e_alloc rfl) ?_
| refine p_p (ps_build rfl rfl) ?_); refine ⟨_, aB, ?_⟩)
| refine o_nil ?_
| refine zW rfl ?_
| refine zR ?_)
  refine g_loopT (α := Nat) (fun i => [(6, I ((K : Int) - (i : Int)))]) (fun i => aHown n D i) (fun i => i ≤ K) (fun i => K - i) 0 aH (Nat.zero_le _) ⟨vI (by omega), trivial⟩ (by rw [aHown, D0]) ?_
  rintro i hi
  dsimp only [zZ, List.set_cons_zero, List.set_cons_succ]
  cases i with
  | zero =>
    dsimp only [aHown]
    obtain ⟨f, ce, ⟨G⟩, ft1, ft2, hDn⟩ := hD 0 (by omega)
    obtain ⟨a, k, ca, F, g1, hk, hk3, har, F0, F1, F2, hce, htb⟩ := G
    have hpw := pow_c n k (by omega) hk3
    have hN1 : n ^ k = f.tb.length := by rw [htb, F1 _ (Nat.le_refl _)]
    have hft := hN1
    obtain ⟨N, hN⟩ : ∃ N, N = n ^ k := ⟨_, rfl⟩
    rw [← hN] at hpw F1 F2 hce htb hN1
    have hk43 : (n = 4 ∧ a = 3 ∧ k = 2) ∨ (¬ (n = 4 ∧ a = 3) ∧ k = a) := by
      by_cases h : n = 4 ∧ a = 3
      · rw [if_pos h] at hk; exact .inl ⟨h.1, h.2, hk⟩
      · rw [if_neg h] at hk; exact .inr ⟨h, hk⟩
    have hpw2 : k = 2 → PCalls Tryz.prog 201 [I (n : Int), I 2] (I (N : Int)) := fun h => by rw [h] at hpw; exact hpw
    rcases hk43 with ⟨hn4, ha3, hk2⟩ | ⟨hno, hka⟩
    · have hpw3 := hpw2 hk2
      repeat' (first
| refine g_seq ?_
| refine zJ ?_
| refine zC ?_
| (refine o_go rfl ?_; (first
| refine p_e rfl (e_callL (n := 0) rfl rfl rfl aK rfl (by rfl) aR (g1)) ?_
| refine p_p (zG rfl rfl aC (hpw3)) ?_
| refine p_p (ps_lits rfl (by exact rfl) (by exact rfl) aU (by decide) (by decide)) ?_
| refine p_p (zD rfl) ?_
| refine p_p (zA rfl) ?_
| refine p_p (zQ rfl rfl) ?_
| refine p_p (ps_gtr rfl rfl rfl) ?_
| refine p_p (ps_eql rfl rfl rfl) ?_
| refine p_p (zH rfl rfl rfl rfl) ?_
| refine p_p (zE rfl rfl) ?_
| refine p_e rfl (e_store_boxC rfl rfl rfl rfl aL rfl rfl) ?_
| refine p_e rfl (zO rfl rfl rfl rfl aL rfl rfl rfl) ?_
| refine p_e rfl (e_alloc rfl) ?_
| refine p_p (ps_build rfl rfl) ?_); refine ⟨_, aB, ?_⟩)
| refine o_nil ?_
| (refine o_splitD rfl rfl rfl (fun hc => ?_) (fun hc => ?_) <;> first | (exfalso; omega) | dsimp only [List.set_cons_zero, List.set_cons_succ])
| (refine zK rfl (fun hc => ?_) (fun hc => ?_) <;> try (exfalso; omega))
| refine zR ?_)
      all_goals try (exfalso; omega)
      refine g_loopT (α := Nat) (fun j => [(8, I ((N : Int) - (j : Int)))]) (fun j => tH (fun c => [cuB c, resB, .box [I (n : Int), nilV]]) 4 k F j) (fun j => j ≤ N) (fun j => N - j) 0 aH (Nat.zero_le _) ⟨vI (by omega), trivial⟩ (by rw [tH, F0]; first | rfl | (rw [hk2]; rfl)) ?_
      rintro j hj
      dsimp only [zZ, List.set_cons_zero, List.set_cons_succ]
      have hlj : ((F j).2.map I).length = j := by rw [List.length_map]; exact F1 j hj
      cases j with
      | zero =>
        obtain ⟨x, hpk, hF⟩ := F2 0 (by omega)
        have hF0 : (F 0).2 = [] := by rw [F0]
        rw [hF0, List.nil_append] at hF
        dsimp only [tH, List.cons_append, List.nil_append]
        repeat' (first
| refine g_seq ?_
| refine zJ ?_
| refine zC ?_
| (refine o_go rfl ?_; (first
| refine p_p (zD rfl) ?_
| refine p_p (ps_gtr rfl rfl rfl) ?_); refine ⟨_, aB, ?_⟩)
| refine o_nil ?_
| (refine zK rfl (fun hc => ?_) (fun hc => ?_) <;> try (exfalso; omega))
| refine zR ?_)
        all_goals try (exfalso; omega)
        refine g_region_drawZ [(0, some [0, 4]), (1, some [0]), (2, some [4]), (3, some [4]), (4, none), (5, none), (6, none), (7, none), (8, none)] [(4, 0), (6, 4), (8, 999999)] (fun hp => hp[3]? = some (.box [I (k : Int), nilV])) (by kernel_rfl) rfl (by kernel_rfl) ?_
        repeat' (first
| refine z_nil ?_
| ((first
| refine zV rfl rfl (fun hp hH => zH rfl rfl hH rfl) aJ aD (by decide) aA ?_
| refine zV rfl rfl (fun _ _ => zD rfl) aJ aD (by decide) aA ?_
| refine zV rfl rfl (fun _ _ => zE rfl rfl) aJ aD (by decide) aA ?_
| refine z_eff rfl rfl aF (j_callLB (n := 0) rfl rfl rfl aK (by rfl) (by rfl) (hpk)) aG ?_
| refine z_eff rfl rfl aF (j_appendNil rfl rfl rfl rfl (one_one rfl) (by decide) rfl (by rw [n_len_c, n_len_n]; omega) (by rw [n_len_c, n_len_n]; omega) (by rw [n_len_c, n_len_n]; omega)) aG ?_
| refine z_eff rfl rfl aF (j_store_boxC rfl rfl rfl rfl aL rfl rfl) aG ?_
| refine z_eff rfl rfl aF (j_pure (zE rfl rfl)) aG ?_
| refine z_eff rfl rfl aF (j_pure (ps_lit1 rfl rfl (by rfl) (by rfl))) aG ?_); refine ⟨_, aQ, ?_⟩))
        repeat' (first
| refine zC ?_
| (refine o_go rfl ?_; (first
| refine p_p (zD rfl) ?_
| refine p_p (zA rfl) ?_
| refine p_p (ps_sub rfl rfl rfl aO) ?_); refine ⟨_, aB, ?_⟩)
| refine o_nil ?_)
        exact zT 1 (by omega) (by omega) aI ⟨vI (by omega), trivial⟩ (zB rfl (zB rfl (zB rfl (zB rfl (zB (by rw [hF]; rfl) (zM _))))))
      | succ j =>
        dsimp only [tH, List.cons_append, List.nil_append]
        by_cases hjN : j + 1 < N
        · obtain ⟨x, hpk, hF⟩ := F2 (j + 1) hjN
          repeat' (first
| refine g_seq ?_
| refine zJ ?_
| refine zC ?_
| (refine o_go rfl ?_; (first
| refine p_p (zD rfl) ?_
| refine p_p (ps_gtr rfl rfl rfl) ?_); refine ⟨_, aB, ?_⟩)
| refine o_nil ?_
| (refine zK rfl (fun hc => ?_) (fun hc => ?_) <;> try (exfalso; omega))
| refine zR ?_)
          all_goals try (exfalso; omega)
          refine g_region_drawU [(0, some [0, 4]), (1, some [0]), (2, some [4]), (3, some [4]), (4, none), (5, none), (6, none), (7, none), (8, none)] [(4, 0), (6, 4), (8, 999999)] (fun U hp => (∃ a, hp[3]? = some (.box [I (k : Int), a])) ∧ (4 ∉ U → hp[3]? = some (.box [I (k : Int), .hp 4]))) (by kernel_rfl) rfl (by kernel_rfl) ?_
          repeat' (first
| refine u_nil ?_
| ((first
| refine u_pure rfl rfl (fun hp hH => zH rfl rfl (hH.2 (by decide)) rfl) aJ aD (by decide) aN ?_
| refine u_pure rfl rfl (fun _ _ => zD rfl) aJ aD (by decide) aN ?_
| refine u_pure rfl rfl (fun _ _ => zE rfl rfl) aJ aD (by decide) aN ?_
| refine u_eff rfl rfl aF (j_callLB (n := 0) rfl rfl rfl aK (by rfl) (by rfl) (hpk)) (by first | exact fun _ hm hF _ => absurd (hm 999999 (by decide)) hF | exact fun _ _ _ hh => hh | exact (fun _ hm _ _ => ⟨⟨_, rfl⟩, fun h => absurd (hm 4 (by decide)) h⟩)) ?_
| refine u_eff rfl rfl aF (j_append rfl rfl rfl rfl rfl rfl (one_one rfl) rfl (by rw [n_len_c, n_len_n]; omega) (by rw [n_len_c, n_len_n]; omega)) (by first | exact fun _ hm hF _ => absurd (hm 999999 (by decide)) hF | exact fun _ _ _ hh => hh | exact (fun _ hm _ _ => ⟨⟨_, rfl⟩, fun h => absurd (hm 4 (by decide)) h⟩)) ?_
| refine u_eff rfl rfl aF (j_store_boxC rfl rfl rfl rfl aL rfl rfl) (by first | exact fun _ hm hF _ => absurd (hm 999999 (by decide)) hF | exact fun _ _ _ hh => hh | exact (fun _ hm _ _ => ⟨⟨_, rfl⟩, fun h => absurd (hm 4 (by decide)) h⟩)) ?_
| refine u_eff rfl rfl aF (j_pure (zE rfl rfl)) (by first | exact fun _ hm hF _ => absurd (hm 999999 (by decide)) hF | exact fun _ _ _ hh => hh | exact (fun _ hm _ _ => ⟨⟨_, rfl⟩, fun h => absurd (hm 4 (by decide)) h⟩)) ?_
| refine u_eff rfl rfl aF (j_pure (ps_lit1 rfl rfl (by rfl) (by rfl))) (by first | exact fun _ hm hF _ => absurd (hm 999999 (by decide)) hF | exact fun _ _ _ hh => hh | exact (fun _ hm _ _ => ⟨⟨_, rfl⟩, fun h => absurd (hm 4 (by decide)) h⟩)) ?_); refine ⟨_, aQ, ?_⟩))
          repeat' (first
| refine zC ?_
| (refine o_go rfl ?_; (first
| refine p_p (zD rfl) ?_
| refine p_p (zA rfl) ?_
| refine p_p (ps_sub rfl rfl rfl aO) ?_); refine ⟨_, aB, ?_⟩)
| refine o_nil ?_)
          exact zT (j + 2) (by omega) (by omega) aI ⟨vI (by omega), trivial⟩ (zB rfl (zB rfl (zB rfl (zB rfl (zB (by rw [hF, List.map_append]; rfl) (zM _))))))
        · have hjN' : N = j + 1 := by omega
          have hce' : ce = (F (j + 1)).1 := by rw [hce, hjN']
          have htb' : f.tb = (F (j + 1)).2 := by rw [htb, hjN']
          repeat' (first
| refine g_seq ?_
| refine zC ?_
| (refine o_go rfl ?_; (first
| refine p_e rfl (e_lit1S rfl rfl rfl (one_all (fun _ => rfl) _) rfl) ?_
| refine p_e rfl (e_appendNilS rfl rfl rfl rfl rfl (by exact Nat.succ_pos _) (by rw [n_len_c, n_len_n]; omega) (by rw [n_len_c, n_len_n]; omega)) ?_
| refine p_p (zD rfl) ?_
| refine p_p (zA rfl) ?_
| refine p_p (ps_gtr rfl rfl rfl) ?_
| refine p_p (ps_sub rfl rfl rfl aO) ?_
| refine p_p (zH rfl rfl rfl rfl) ?_
| refine p_p (zY rfl rfl rfl aL) ?_
| refine p_p (zE rfl rfl) ?_
| refine p_e rfl (e_store_boxC rfl rfl rfl rfl aL rfl rfl) ?_); refine ⟨_, aB, ?_⟩)
| refine o_nil ?_
| (refine zK rfl (fun hc => ?_) (fun hc => ?_) <;> try (exfalso; omega))
| refine g_exit ?_)
          all_goals try (exfalso; omega)
          refine zT 1 (by omega) (by omega) aI ⟨vI (by omega), trivial⟩ (zB (by rw [hDn, hce']) (zB rfl (zB rfl (hpLe_gone (hpLe_gone (hpLe_gone (zB ?_ (zM _))))))))
          rw [hDn, D0]; simp only [sgI, rowsO, List.map_append, List.map_cons, List.map_nil, ← htb', har]; try rfl
    · subst hka
      by_cases hn4 : n = 4
      · repeat' (first
| refine g_seq ?_
| refine zJ ?_
| refine zC ?_
| (refine o_go rfl ?_; (first
| refine p_e rfl (e_callL (n := 0) rfl rfl rfl aK rfl (by rfl) aR (g1)) ?_
| refine p_p (zG rfl rfl aC (hpw)) ?_
| refine p_p (ps_lits rfl (by exact rfl) (by exact rfl) aU (by decide) (by decide)) ?_
| refine p_p (zD rfl) ?_
| refine p_p (zA rfl) ?_
| refine p_p (zQ rfl rfl) ?_
| refine p_p (ps_gtr rfl rfl rfl) ?_
| refine p_p (ps_eql rfl rfl rfl) ?_
| refine p_p (zH rfl rfl rfl rfl) ?_
| refine p_p (zE rfl rfl) ?_
| refine p_e rfl (zO rfl rfl rfl rfl aL rfl rfl rfl) ?_
| refine p_e rfl (e_alloc rfl) ?_
| refine p_p (ps_build rfl rfl) ?_); refine ⟨_, aB, ?_⟩)
| refine o_nil ?_
| (refine o_splitD rfl rfl rfl (fun hc => ?_) (fun hc => ?_) <;> first | (exfalso; omega) | dsimp only [List.set_cons_zero, List.set_cons_succ])
| (refine zK rfl (fun hc => ?_) (fun hc => ?_) <;> try (exfalso; omega))
| refine zR ?_)
        all_goals try (exfalso; omega)
        refine g_loopT (α := Nat) (fun j => [(8, I ((N : Int) - (j : Int)))]) (fun j => tH (fun c => [cuB c, resB, .box [I (n : Int), nilV]]) 4 k F j) (fun j => j ≤ N) (fun j => N - j) 0 aH (Nat.zero_le _) ⟨vI (by omega), trivial⟩ (by rw [tH, F0]; first | rfl | (rw [hk2]; rfl)) ?_
        rintro j hj
        dsimp only [zZ, List.set_cons_zero, List.set_cons_succ]
        have hlj : ((F j).2.map I).length = j := by rw [List.length_map]; exact F1 j hj
        cases j with
        | zero =>
          obtain ⟨x, hpk, hF⟩ := F2 0 (by omega)
          have hF0 : (F 0).2 = [] := by rw [F0]
          rw [hF0, List.nil_append] at hF
          dsimp only [tH, List.cons_append, List.nil_append]
          repeat' (first
| refine g_seq ?_
| refine zJ ?_
| refine zC ?_
| (refine o_go rfl ?_; (first
| refine p_p (zD rfl) ?_
| refine p_p (ps_gtr rfl rfl rfl) ?_); refine ⟨_, aB, ?_⟩)
| refine o_nil ?_
| (refine zK rfl (fun hc => ?_) (fun hc => ?_) <;> try (exfalso; omega))
| refine zR ?_)
          all_goals try (exfalso; omega)
          refine g_region_drawZ [(0, some [0, 4]), (1, some [0]), (2, some [4]), (3, some [4]), (4, none), (5, none), (6, none), (7, none), (8, none)] [(4, 0), (6, 4), (8, 999999)] (fun hp => hp[3]? = some (.box [I (k : Int), nilV])) (by kernel_rfl) rfl (by kernel_rfl) ?_
          repeat' (first
| refine z_nil ?_
| ((first
| refine zV rfl rfl (fun hp hH => zH rfl rfl hH rfl) aJ aD (by decide) aA ?_
| refine zV rfl rfl (fun _ _ => zD rfl) aJ aD (by decide) aA ?_
| refine zV rfl rfl (fun _ _ => zE rfl rfl) aJ aD (by decide) aA ?_
| refine z_eff rfl rfl aF (j_callLB (n := 0) rfl rfl rfl aK (by rfl) (by rfl) (hpk)) aG ?_
| refine z_eff rfl rfl aF (j_appendNil rfl rfl rfl rfl (one_one rfl) (by decide) rfl (by rw [n_len_c, n_len_n]; omega) (by rw [n_len_c, n_len_n]; omega) (by rw [n_len_c, n_len_n]; omega)) aG ?_
| refine z_eff rfl rfl aF (j_store_boxC rfl rfl rfl rfl aL rfl rfl) aG ?_
| refine z_eff rfl rfl aF (j_pure (zE rfl rfl)) aG ?_
| refine z_eff rfl rfl aF (j_pure (ps_lit1 rfl rfl (by rfl) (by rfl))) aG ?_); refine ⟨_, aQ, ?_⟩))
          repeat' (first
| refine zC ?_
| (refine o_go rfl ?_; (first
| refine p_p (zD rfl) ?_
| refine p_p (zA rfl) ?_
| refine p_p (ps_sub rfl rfl rfl aO) ?_); refine ⟨_, aB, ?_⟩)
| refine o_nil ?_)
          exact zT 1 (by omega) (by omega) aI ⟨vI (by omega), trivial⟩ (zB rfl (zB rfl (zB rfl (zB rfl (zB (by rw [hF]; rfl) (zM _))))))
        | succ j =>
          dsimp only [tH, List.cons_append, List.nil_append]
          by_cases hjN : j + 1 < N
          · obtain ⟨x, hpk, hF⟩ := F2 (j + 1) hjN
            repeat' (first
| refine g_seq ?_
| refine zJ ?_
| refine zC ?_
| (refine o_go rfl ?_; (first
| refine p_p (zD rfl) ?_
| refine p_p (ps_gtr rfl rfl rfl) ?_); refine ⟨_, aB, ?_⟩)
| refine o_nil ?_
| (refine zK rfl (fun hc => ?_) (fun hc => ?_) <;> try (exfalso; omega))
| refine zR ?_)
            all_goals try (exfalso; omega)
            refine g_region_drawU [(0, some [0, 4]), (1, some [0]), (2, some [4]), (3, some [4]), (4, none), (5, none), (6, none), (7, none), (8, none)] [(4, 0), (6, 4), (8, 999999)] (fun U hp => (∃ a, hp[3]? = some (.box [I (k : Int), a])) ∧ (4 ∉ U → hp[3]? = some (.box [I (k : Int), .hp 4]))) (by kernel_rfl) rfl (by kernel_rfl) ?_
            repeat' (first
| refine u_nil ?_
| ((first
| refine u_pure rfl rfl (fun hp hH => zH rfl rfl (hH.2 (by decide)) rfl) aJ aD (by decide) aN ?_
| refine u_pure rfl rfl (fun _ _ => zD rfl) aJ aD (by decide) aN ?_
| refine u_pure rfl rfl (fun _ _ => zE rfl rfl) aJ aD (by decide) aN ?_
| refine u_eff rfl rfl aF (j_callLB (n := 0) rfl rfl rfl aK (by rfl) (by rfl) (hpk)) (by first | exact fun _ hm hF _ => absurd (hm 999999 (by decide)) hF | exact fun _ _ _ hh => hh | exact (fun _ hm _ _ => ⟨⟨_, rfl⟩, fun h => absurd (hm 4 (by decide)) h⟩)) ?_
| refine u_eff rfl rfl aF (j_append rfl rfl rfl rfl rfl rfl (one_one rfl) rfl (by rw [n_len_c, n_len_n]; omega) (by rw [n_len_c, n_len_n]; omega)) (by first | exact fun _ hm hF _ => absurd (hm 999999 (by decide)) hF | exact fun _ _ _ hh => hh | exact (fun _ hm _ _ => ⟨⟨_, rfl⟩, fun h => absurd (hm 4 (by decide)) h⟩)) ?_
| refine u_eff rfl rfl aF (j_store_boxC rfl rfl rfl rfl aL rfl rfl) (by first | exact fun _ hm hF _ => absurd (hm 999999 (by decide)) hF | exact fun _ _ _ hh => hh | exact (fun _ hm _ _ => ⟨⟨_, rfl⟩, fun h => absurd (hm 4 (by decide)) h⟩)) ?_
| refine u_eff rfl rfl aF (j_pure (zE rfl rfl)) (by first | exact fun _ hm hF _ => absurd (hm 999999 (by decide)) hF | exact fun _ _ _ hh => hh | exact (fun _ hm _ _ => ⟨⟨_, rfl⟩, fun h => absurd (hm 4 (by decide)) h⟩)) ?_
| refine u_eff rfl rfl aF (j_pure (ps_lit1 rfl rfl (by rfl) (by rfl))) (by first | exact fun _ hm hF _ => absurd (hm 999999 (by decide)) hF | exact fun _ _ _ hh => hh | exact (fun _ hm _ _ => ⟨⟨_, rfl⟩, fun h => absurd (hm 4 (by decide)) h⟩)) ?_); refine ⟨_, aQ, ?_⟩))
            repeat' (first
| refine zC ?_
| (refine o_go rfl ?_; (first
| refine p_p (zD rfl) ?_
| refine p_p (zA rfl) ?_
| refine p_p (ps_sub rfl rfl rfl aO) ?_); refine ⟨_, aB, ?_⟩)
| refine o_nil ?_)
            exact zT (j + 2) (by omega) (by omega) aI ⟨vI (by omega), trivial⟩ (zB rfl (zB rfl (zB rfl (zB rfl (zB (by rw [hF, List.map_append]; rfl) (zM _))))))
          · have hjN' : N = j + 1 := by omega
            have hce' : ce = (F (j + 1)).1 := by rw [hce, hjN']
            have htb' : f.tb = (F (j + 1)).2 := by rw [htb, hjN']
            repeat' (first
| refine g_seq ?_
| refine zC ?_
| (refine o_go rfl ?_; (first
| refine p_e rfl (e_lit1S rfl rfl rfl (one_all (fun _ => rfl) _) rfl) ?_
| refine p_e rfl (e_appendNilS rfl rfl rfl rfl rfl (by exact Nat.succ_pos _) (by rw [n_len_c, n_len_n]; omega) (by rw [n_len_c, n_len_n]; omega)) ?_
| refine p_p (zD rfl) ?_
| refine p_p (zA rfl) ?_
| refine p_p (ps_gtr rfl rfl rfl) ?_
| refine p_p (ps_sub rfl rfl rfl aO) ?_
| refine p_p (zH rfl rfl rfl rfl) ?_
| refine p_p (zY rfl rfl rfl aL) ?_
| refine p_p (zE rfl rfl) ?_
| refine p_e rfl (e_store_boxC rfl rfl rfl rfl aL rfl rfl) ?_); refine ⟨_, aB, ?_⟩)
| refine o_nil ?_
| (refine zK rfl (fun hc => ?_) (fun hc => ?_) <;> try (exfalso; omega))
| refine g_exit ?_)
            all_goals try (exfalso; omega)
            refine zT 1 (by omega) (by omega) aI ⟨vI (by omega), trivial⟩ (zB (by rw [hDn, hce']) (zB rfl (zB rfl (hpLe_gone (hpLe_gone (hpLe_gone (zB ?_ (zM _))))))))
            rw [hDn, D0]; simp only [sgI, rowsO, List.map_append, List.map_cons, List.map_nil, ← htb', har]; try rfl
      · repeat' (first
| refine g_seq ?_
| refine zJ ?_
| refine zC ?_
| (refine o_go rfl ?_; (first
| refine p_e rfl (e_callL (n := 0) rfl rfl rfl aK rfl (by rfl) aR (g1)) ?_
| refine p_p (zG rfl rfl aC (hpw)) ?_
| refine p_p (ps_lits rfl (by exact rfl) (by exact rfl) aU (by decide) (by decide)) ?_
| refine p_p (zD rfl) ?_
| refine p_p (zA rfl) ?_
| refine p_p (zQ rfl rfl) ?_
| refine p_p (ps_gtr rfl rfl rfl) ?_
| refine p_p (ps_eql rfl rfl rfl) ?_
| refine p_p (zH rfl rfl rfl rfl) ?_
| refine p_p (zE rfl rfl) ?_
| refine p_e rfl (zO rfl rfl rfl rfl aL rfl rfl rfl) ?_
| refine p_e rfl (e_alloc rfl) ?_
| refine p_p (ps_build rfl rfl) ?_); refine ⟨_, aB, ?_⟩)
| refine o_nil ?_
| (refine o_s rfl ?_; refine ⟨_, aB, ?_⟩)
| (refine o_splitD rfl rfl rfl (fun hc => ?_) (fun hc => ?_) <;> first | (exfalso; omega) | dsimp only [List.set_cons_zero, List.set_cons_succ])
| refine zW rfl ?_
| (refine zK rfl (fun hc => ?_) (fun hc => ?_) <;> try (exfalso; omega))
| refine zR ?_)
        all_goals try (exfalso; omega)
        refine g_loopT (α := Nat) (fun j => [(8, I ((N : Int) - (j : Int)))]) (fun j => tH (fun c => [cuB c, resB, .box [I (n : Int), nilV]]) 4 k F j) (fun j => j ≤ N) (fun j => N - j) 0 aH (Nat.zero_le _) ⟨vI (by omega), trivial⟩ (by rw [tH, F0]; first | rfl | (rw [hk2]; rfl)) ?_
        rintro j hj
        dsimp only [zZ, List.set_cons_zero, List.set_cons_succ]
        have hlj : ((F j).2.map I).length = j := by rw [List.length_map]; exact F1 j hj
        cases j with
        | zero =>
          obtain ⟨x, hpk, hF⟩ := F2 0 (by omega)
          have hF0 : (F 0).2 = [] := by rw [F0]
          rw [hF0, List.nil_append] at hF
          dsimp only [tH, List.cons_append, List.nil_append]
          repeat' (first
| refine g_seq ?_
| refine zJ ?_
| refine zC ?_
| (refine o_go rfl ?_; (first
| refine p_p (zD rfl) ?_
| refine p_p (ps_gtr rfl rfl rfl) ?_); refine ⟨_, aB, ?_⟩)
| refine o_nil ?_
| (refine zK rfl (fun hc => ?_) (fun hc => ?_) <;> try (exfalso; omega))
| refine zR ?_)
          all_goals try (exfalso; omega)
          refine g_region_drawZ [(0, some [0, 4]), (1, some [0]), (2, some [4]), (3, some [4]), (4, none), (5, none), (6, none), (7, none), (8, none)] [(4, 0), (6, 4), (8, 999999)] (fun hp => hp[3]? = some (.box [I (k : Int), nilV])) (by kernel_rfl) rfl (by kernel_rfl) ?_
          repeat' (first
| refine z_nil ?_
| ((first
| refine zV rfl rfl (fun hp hH => zH rfl rfl hH rfl) aJ aD (by decide) aA ?_
| refine zV rfl rfl (fun _ _ => zD rfl) aJ aD (by decide) aA ?_
| refine zV rfl rfl (fun _ _ => zE rfl rfl) aJ aD (by decide) aA ?_
| refine z_eff rfl rfl aF (j_callLB (n := 0) rfl rfl rfl aK (by rfl) (by rfl) (hpk)) aG ?_
| refine z_eff rfl rfl aF (j_appendNil rfl rfl rfl rfl (one_one rfl) (by decide) rfl (by rw [n_len_c, n_len_n]; omega) (by rw [n_len_c, n_len_n]; omega) (by rw [n_len_c, n_len_n]; omega)) aG ?_
| refine z_eff rfl rfl aF (j_store_boxC rfl rfl rfl rfl aL rfl rfl) aG ?_
| refine z_eff rfl rfl aF (j_pure (zE rfl rfl)) aG ?_
| refine z_eff rfl rfl aF (j_pure (ps_lit1 rfl rfl (by rfl) (by rfl))) aG ?_); refine ⟨_, aQ, ?_⟩))
          repeat' (first
| refine zC ?_
| (refine o_go rfl ?_; (first
| refine p_p (zD rfl) ?_
| refine p_p (zA rfl) ?_
| refine p_p (ps_sub rfl rfl rfl aO) ?_); refine ⟨_, aB, ?_⟩)
| refine o_nil ?_)
          exact zT 1 (by omega) (by omega) aI ⟨vI (by omega), trivial⟩ (zB rfl (zB rfl (zB rfl (zB rfl (zB (by rw [hF]; rfl) (zM _))))))
        | succ j =>
          dsimp only [tH, List.cons_append, List.nil_append]
          by_cases hjN : j + 1 < N
          · obtain ⟨x, hpk, hF⟩ := F2 (j + 1) hjN
            repeat' (first
| refine g_seq ?_
| refine zJ ?_
| refine zC ?_
| (refine o_go rfl ?_; (first
| refine p_p (zD rfl) ?_
| refine p_p (ps_gtr rfl rfl rfl) ?_); refine ⟨_, aB, ?_⟩)
| refine o_nil ?_
| (refine zK rfl (fun hc => ?_) (fun hc => ?_) <;> try (exfalso; omega))
| refine zR ?_)
            all_goals try (exfalso; omega)
            refine g_region_drawU [(0, some [0, 4]), (1, some [0]), (2, some [4]), (3, some [4]), (4, none), (5, none), (6, none), (7, none), (8, none)] [(4, 0), (6, 4), (8, 999999)] (fun U hp => (∃ a, hp[3]? = some (.box [I (k : Int), a])) ∧ (4 ∉ U → hp[3]? = some (.box [I (k : Int), .hp 4]))) (by kernel_rfl) rfl (by kernel_rfl) ?_
            repeat' (first
| refine u_nil ?_
| ((first
| refine u_pure rfl rfl (fun hp hH => zH rfl rfl (hH.2 (by decide)) rfl) aJ aD (by decide) aN ?_
| refine u_pure rfl rfl (fun _ _ => zD rfl) aJ aD (by decide) aN ?_
| refine u_pure rfl rfl (fun _ _ => zE rfl rfl) aJ aD (by decide) aN ?_
| refine u_eff rfl rfl aF (j_callLB (n := 0) rfl rfl rfl aK (by rfl) (by rfl) (hpk)) (by first | exact fun _ hm hF _ => absurd (hm 999999 (by decide)) hF | exact fun _ _ _ hh => hh | exact (fun _ hm _ _ => ⟨⟨_, rfl⟩, fun h => absurd (hm 4 (by decide)) h⟩)) ?_
| refine u_eff rfl rfl aF (j_append rfl rfl rfl rfl rfl rfl (one_one rfl) rfl (by rw [n_len_c, n_len_n]; omega) (by rw [n_len_c, n_len_n]; omega)) (by first | exact fun _ hm hF _ => absurd (hm 999999 (by decide)) hF | exact fun _ _ _ hh => hh | exact (fun _ hm _ _ => ⟨⟨_, rfl⟩, fun h => absurd (hm 4 (by decide)) h⟩)) ?_
| refine u_eff rfl rfl aF (j_store_boxC rfl rfl rfl rfl aL rfl rfl) (by first | exact fun _ hm hF _ => absurd (hm 999999 (by decide)) hF | exact fun _ _ _ hh => hh | exact (fun _ hm _ _ => ⟨⟨_, rfl⟩, fun h => absurd (hm 4 (by decide)) h⟩)) ?_
| refine u_eff rfl rfl aF (j_pure (zE rfl rfl)) (by first | exact fun _ hm hF _ => absurd (hm 999999 (by decide)) hF | exact fun _ _ _ hh => hh | exact (fun _ hm _ _ => ⟨⟨_, rfl⟩, fun h => absurd (hm 4 (by decide)) h⟩)) ?_
| refine u_eff rfl rfl aF (j_pure (ps_lit1 rfl rfl (by rfl) (by rfl))) (by first | exact fun _ hm hF _ => absurd (hm 999999 (by decide)) hF | exact fun _ _ _ hh => hh | exact (fun _ hm _ _ => ⟨⟨_, rfl⟩, fun h => absurd (hm 4 (by decide)) h⟩)) ?_); refine ⟨_, aQ, ?_⟩))
            repeat' (first
| refine zC ?_
| (refine o_go rfl ?_; (first
| refine p_p (zD rfl) ?_
| refine p_p (zA rfl) ?_
| refine p_p (ps_sub rfl rfl rfl aO) ?_); refine ⟨_, aB, ?_⟩)
| refine o_nil ?_)
            exact zT (j + 2) (by omega) (by omega) aI ⟨vI (by omega), trivial⟩ (zB rfl (zB rfl (zB rfl (zB rfl (zB (by rw [hF, List.map_append]; rfl) (zM _))))))
          · have hjN' : N = j + 1 := by omega
            have hce' : ce = (F (j + 1)).1 := by rw [hce, hjN']
            have htb' : f.tb = (F (j + 1)).2 := by rw [htb, hjN']
            repeat' (first
| refine g_seq ?_
| refine zC ?_
| (refine o_go rfl ?_; (first
| refine p_e rfl (e_lit1S rfl rfl rfl (one_all (fun _ => rfl) _) rfl) ?_
| refine p_e rfl (e_appendNilS rfl rfl rfl rfl rfl (by exact Nat.succ_pos _) (by rw [n_len_c, n_len_n]; omega) (by rw [n_len_c, n_len_n]; omega)) ?_
| refine p_p (zD rfl) ?_
| refine p_p (zA rfl) ?_
| refine p_p (ps_gtr rfl rfl rfl) ?_
| refine p_p (ps_sub rfl rfl rfl aO) ?_
| refine p_p (zH rfl rfl rfl rfl) ?_
| refine p_p (zY rfl rfl rfl aL) ?_
| refine p_p (zE rfl rfl) ?_
| refine p_e rfl (e_store_boxC rfl rfl rfl rfl aL rfl rfl) ?_); refine ⟨_, aB, ?_⟩)
| refine o_nil ?_
| (refine zK rfl (fun hc => ?_) (fun hc => ?_) <;> try (exfalso; omega))
| refine g_exit ?_)
            all_goals try (exfalso; omega)
            refine zT 1 (by omega) (by omega) aI ⟨vI (by omega), trivial⟩ (zB (by rw [hDn, hce']) (zB rfl (zB rfl (hpLe_gone (hpLe_gone (hpLe_gone (zB ?_ (zM _))))))))
            rw [hDn, D0]; simp only [sgI, rowsO, List.map_append, List.map_cons, List.map_nil, ← htb', har]; try rfl
  | succ i =>
    dsimp only [aHown]
    by_cases hiK : i + 1 < K
    · skip
      obtain ⟨f, ce, ⟨G⟩, ft1, ft2, hDn⟩ := hD (i + 1) (by omega)
      obtain ⟨a, k, ca, F, g1, hk, hk3, har, F0, F1, F2, hce, htb⟩ := G
      have hpw := pow_c n k (by omega) hk3
      have hN1 : n ^ k = f.tb.length := by rw [htb, F1 _ (Nat.le_refl _)]
      have hft := hN1
      obtain ⟨N, hN⟩ : ∃ N, N = n ^ k := ⟨_, rfl⟩
      rw [← hN] at hpw F1 F2 hce htb hN1
      have hll : ((rowsO (D (i + 1)).2).map fun r => r.map I).length = i + 1 := by rw [List.length_map, List.length_map]; exact hDl _ (by omega)
      have hk43 : (n = 4 ∧ a = 3 ∧ k = 2) ∨ (¬ (n = 4 ∧ a = 3) ∧ k = a) := by
        by_cases h : n = 4 ∧ a = 3
        · rw [if_pos h] at hk; exact .inl ⟨h.1, h.2, hk⟩
        · rw [if_neg h] at hk; exact .inr ⟨h, hk⟩
      have hpw2 : k = 2 → PCalls Tryz.prog 201 [I (n : Int), I 2] (I (N : Int)) := fun h => by rw [h] at hpw; exact hpw
      rcases hk43 with ⟨hn4, ha3, hk2⟩ | ⟨hno, hka⟩
      · have hpw3 := hpw2 hk2
        repeat' (first
| refine g_seq ?_
| refine zJ ?_
| refine zC ?_
| (refine o_go rfl ?_; (first
| refine p_e rfl (e_callL (n := 0) rfl rfl rfl aK rfl (by rfl) aR (g1)) ?_
| refine p_p (zG rfl rfl aC (hpw3)) ?_
| refine p_p (ps_lits rfl (by exact rfl) (by exact rfl) aU (by decide) (by decide)) ?_
| refine p_p (zD rfl) ?_
| refine p_p (zA rfl) ?_
| refine p_p (zQ rfl rfl) ?_
| refine p_p (ps_gtr rfl rfl rfl) ?_
| refine p_p (ps_eql rfl rfl rfl) ?_
| refine p_p (zH rfl rfl rfl rfl) ?_
| refine p_p (zE rfl rfl) ?_
| refine p_e rfl (e_store_boxC rfl rfl rfl rfl aL rfl rfl) ?_
| refine p_e rfl (zO rfl rfl rfl rfl aL rfl rfl rfl) ?_
| refine p_e rfl (e_alloc rfl) ?_
| refine p_p (ps_build rfl rfl) ?_); refine ⟨_, aB, ?_⟩)
| refine o_nil ?_
| (refine o_splitD rfl rfl rfl (fun hc => ?_) (fun hc => ?_) <;> first | (exfalso; omega) | dsimp only [List.set_cons_zero, List.set_cons_succ])
| (refine zK rfl (fun hc => ?_) (fun hc => ?_) <;> try (exfalso; omega))
| refine zR ?_)
        all_goals try (exfalso; omega)
        refine g_loopT (α := Nat) (fun j => [(8, I ((N : Int) - (j : Int)))]) (fun j => tH (fun c => [cuB c, resB, .box [I (n : Int), .hp 6], .gone, .gone, .gone, sgI (rowsO (D (i + 1)).2)]) 8 k F j) (fun j => j ≤ N) (fun j => N - j) 0 aH (Nat.zero_le _) ⟨vI (by omega), trivial⟩ (by rw [tH, F0]; first | rfl | (rw [hk2]; rfl)) ?_
        rintro j hj
        dsimp only [zZ, List.set_cons_zero, List.set_cons_succ]
        have hlj : ((F j).2.map I).length = j := by rw [List.length_map]; exact F1 j hj
        cases j with
        | zero =>
          obtain ⟨x, hpk, hF⟩ := F2 0 (by omega)
          have hF0 : (F 0).2 = [] := by rw [F0]
          rw [hF0, List.nil_append] at hF
          dsimp only [tH, List.cons_append, List.nil_append]
          repeat' (first
| refine g_seq ?_
| refine zJ ?_
| refine zC ?_
| (refine o_go rfl ?_; (first
| refine p_p (zD rfl) ?_
| refine p_p (ps_gtr rfl rfl rfl) ?_); refine ⟨_, aB, ?_⟩)
| refine o_nil ?_
| (refine zK rfl (fun hc => ?_) (fun hc => ?_) <;> try (exfalso; omega))
| refine zR ?_)
          all_goals try (exfalso; omega)
          refine g_region_drawZ [(0, some [0, 8]), (1, some [0]), (2, some [8]), (3, some [8]), (4, none), (5, none), (6, none), (7, none), (8, none)] [(4, 0), (6, 8), (8, 999999)] (fun hp => hp[7]? = some (.box [I (k : Int), nilV])) (by kernel_rfl) rfl (by kernel_rfl) ?_
          repeat' (first
| refine z_nil ?_
| ((first
| refine zV rfl rfl (fun hp hH => zH rfl rfl hH rfl) aJ aD (by decide) aA ?_
| refine zV rfl rfl (fun _ _ => zD rfl) aJ aD (by decide) aA ?_
| refine zV rfl rfl (fun _ _ => zE rfl rfl) aJ aD (by decide) aA ?_
| refine z_eff rfl rfl aF (j_callLB (n := 0) rfl rfl rfl aK (by rfl) (by rfl) (hpk)) aG ?_
| refine z_eff rfl rfl aF (j_appendNil rfl rfl rfl rfl (one_one rfl) (by decide) rfl (by rw [n_len_c, n_len_n]; omega) (by rw [n_len_c, n_len_n]; omega) (by rw [n_len_c, n_len_n]; omega)) aG ?_
| refine z_eff rfl rfl aF (j_store_boxC rfl rfl rfl rfl aL rfl rfl) aG ?_
| refine z_eff rfl rfl aF (j_pure (zE rfl rfl)) aG ?_
| refine z_eff rfl rfl aF (j_pure (ps_lit1 rfl rfl (by rfl) (by rfl))) aG ?_); refine ⟨_, aQ, ?_⟩))
          repeat' (first
| refine zC ?_
| (refine o_go rfl ?_; (first
| refine p_p (zD rfl) ?_
| refine p_p (zA rfl) ?_
| refine p_p (ps_sub rfl rfl rfl aO) ?_); refine ⟨_, aB, ?_⟩)
| refine o_nil ?_)
          exact zT 1 (by omega) (by omega) aI ⟨vI (by omega), trivial⟩ (zB rfl (zB rfl (zB rfl (zB rfl (zB rfl (zB rfl (zB rfl (zB rfl (zB (by rw [hF]; rfl) (zM _))))))))))
        | succ j =>
          dsimp only [tH, List.cons_append, List.nil_append]
          by_cases hjN : j + 1 < N
          · obtain ⟨x, hpk, hF⟩ := F2 (j + 1) hjN
            repeat' (first
| refine g_seq ?_
| refine zJ ?_
| refine zC ?_
| (refine o_go rfl ?_; (first
| refine p_p (zD rfl) ?_
| refine p_p (ps_gtr rfl rfl rfl) ?_); refine ⟨_, aB, ?_⟩)
| refine o_nil ?_
| (refine zK rfl (fun hc => ?_) (fun hc => ?_) <;> try (exfalso; omega))
| refine zR ?_)
            all_goals try (exfalso; omega)
            refine g_region_drawU [(0, some [0, 8]), (1, some [0]), (2, some [8]), (3, some [8]), (4, none), (5, none), (6, none), (7, none), (8, none)] [(4, 0), (6, 8), (8, 999999)] (fun U hp => (∃ a, hp[7]? = some (.box [I (k : Int), a])) ∧ (8 ∉ U → hp[7]? = some (.box [I (k : Int), .hp 8]))) (by kernel_rfl) rfl (by kernel_rfl) ?_
            repeat' (first
| refine u_nil ?_
| ((first
| refine u_pure rfl rfl (fun hp hH => zH rfl rfl (hH.2 (by decide)) rfl) aJ aD (by decide) aN ?_
| refine u_pure rfl rfl (fun _ _ => zD rfl) aJ aD (by decide) aN ?_
| refine u_pure rfl rfl (fun _ _ => zE rfl rfl) aJ aD (by decide) aN ?_
| refine u_eff rfl rfl aF (j_callLB (n := 0) rfl rfl rfl aK (by rfl) (by rfl) (hpk)) (by first | exact fun _ hm hF _ => absurd (hm 999999 (by decide)) hF | exact fun _ _ _ hh => hh | exact (fun _ hm _ _ => ⟨⟨_, rfl⟩, fun h => absurd (hm 8 (by decide)) h⟩)) ?_
| refine u_eff rfl rfl aF (j_append rfl rfl rfl rfl rfl rfl (one_one rfl) rfl (by rw [n_len_c, n_len_n]; omega) (by rw [n_len_c, n_len_n]; omega)) (by first | exact fun _ hm hF _ => absurd (hm 999999 (by decide)) hF | exact fun _ _ _ hh => hh | exact (fun _ hm _ _ => ⟨⟨_, rfl⟩, fun h => absurd (hm 8 (by decide)) h⟩)) ?_
| refine u_eff rfl rfl aF (j_store_boxC rfl rfl rfl rfl aL rfl rfl) (by first | exact fun _ hm hF _ => absurd (hm 999999 (by decide)) hF | exact fun _ _ _ hh => hh | exact (fun _ hm _ _ => ⟨⟨_, rfl⟩, fun h => absurd (hm 8 (by decide)) h⟩)) ?_
| refine u_eff rfl rfl aF (j_pure (zE rfl rfl)) (by first | exact fun _ hm hF _ => absurd (hm 999999 (by decide)) hF | exact fun _ _ _ hh => hh | exact (fun _ hm _ _ => ⟨⟨_, rfl⟩, fun h => absurd (hm 8 (by decide)) h⟩)) ?_
| refine u_eff rfl rfl aF (j_pure (ps_lit1 rfl rfl (by rfl) (by rfl))) (by first | exact fun _ hm hF _ => absurd (hm 999999 (by decide)) hF | exact fun _ _ _ hh => hh | exact (fun _ hm _ _ => ⟨⟨_, rfl⟩, fun h => absurd (hm 8 (by decide)) h⟩)) ?_); refine ⟨_, aQ, ?_⟩))
            repeat' (first
| refine zC ?_
| (refine o_go rfl ?_; (first
| refine p_p (zD rfl) ?_
| refine p_p (zA rfl) ?_
| refine p_p (ps_sub rfl rfl rfl aO) ?_); refine ⟨_, aB, ?_⟩)
| refine o_nil ?_)
            exact zT (j + 2) (by omega) (by omega) aI ⟨vI (by omega), trivial⟩ (zB rfl (zB rfl (zB rfl (zB rfl (zB rfl (zB rfl (zB rfl (zB rfl (zB (by rw [hF, List.map_append]; rfl) (zM _))))))))))
          · have hjN' : N = j + 1 := by omega
            have hce' : ce = (F (j + 1)).1 := by rw [hce, hjN']
            have htb' : f.tb = (F (j + 1)).2 := by rw [htb, hjN']
            repeat' (first
| refine g_seq ?_
| refine zC ?_
| (refine o_go rfl ?_; (first
| refine p_e rfl (e_lit1S rfl rfl rfl (one_all (fun _ => rfl) _) rfl) ?_
| refine p_e rfl (e_append_sg rfl rfl rfl rfl rfl rfl (by decide) (by rw [hll, n_len_c, n_len_n]; omega) (by rw [hll, n_len_c, n_len_n]; omega)) ?_
| refine p_p (zD rfl) ?_
| refine p_p (zA rfl) ?_
| refine p_p (ps_gtr rfl rfl rfl) ?_
| refine p_p (ps_sub rfl rfl rfl aO) ?_
| refine p_p (zH rfl rfl rfl rfl) ?_
| refine p_p (zY rfl rfl rfl aL) ?_
| refine p_p (zE rfl rfl) ?_
| refine p_e rfl (e_store_boxC rfl rfl rfl rfl aL rfl rfl) ?_); refine ⟨_, aB, ?_⟩)
| refine o_nil ?_
| (refine zK rfl (fun hc => ?_) (fun hc => ?_) <;> try (exfalso; omega))
| refine g_exit ?_)
            all_goals try (exfalso; omega)
            refine zT (i + 2) (by omega) (by omega) aI ⟨vI (by omega), trivial⟩ (zB (by rw [hDn, hce']) (zB rfl (zB rfl (hpLe_gone (hpLe_gone (hpLe_gone (zB ?_ (zM _))))))))
            rw [hDn]; simp only [sgI, rowsO, List.map_append, List.map_cons, List.map_nil, ← htb', har]; try rfl
      · subst hka
        by_cases hn4 : n = 4
        · repeat' (first
| refine g_seq ?_
| refine zJ ?_
| refine zC ?_
| (refine o_go rfl ?_; (first
| refine p_e rfl (e_callL (n := 0) rfl rfl rfl aK rfl (by rfl) aR (g1)) ?_
| refine p_p (zG rfl rfl aC (hpw)) ?_
| refine p_p (ps_lits rfl (by exact rfl) (by exact rfl) aU (by decide) (by decide)) ?_
| refine p_p (zD rfl) ?_
| refine p_p (zA rfl) ?_
| refine p_p (zQ rfl rfl) ?_
| refine p_p (ps_gtr rfl rfl rfl) ?_
| refine p_p (ps_eql rfl rfl rfl) ?_
| refine p_p (zH rfl rfl rfl rfl) ?_
| refine p_p (zE rfl rfl) ?_
| refine p_e rfl (zO rfl rfl rfl rfl aL rfl rfl rfl) ?_
| refine p_e rfl (e_alloc rfl) ?_
| refine p_p (ps_build rfl rfl) ?_); refine ⟨_, aB, ?_⟩)
| refine o_nil ?_
| (refine o_splitD rfl rfl rfl (fun hc => ?_) (fun hc => ?_) <;> first | (exfalso; omega) | dsimp only [List.set_cons_zero, List.set_cons_succ])
| (refine zK rfl (fun hc => ?_) (fun hc => ?_) <;> try (exfalso; omega))
| refine zR ?_)
          all_goals try (exfalso; omega)
          refine g_loopT (α := Nat) (fun j => [(8, I ((N : Int) - (j : Int)))]) (fun j => tH (fun c => [cuB c, resB, .box [I (n : Int), .hp 6], .gone, .gone, .gone, sgI (rowsO (D (i + 1)).2)]) 8 k F j) (fun j => j ≤ N) (fun j => N - j) 0 aH (Nat.zero_le _) ⟨vI (by omega), trivial⟩ (by rw [tH, F0]; first | rfl | (rw [hk2]; rfl)) ?_
          rintro j hj
          dsimp only [zZ, List.set_cons_zero, List.set_cons_succ]
          have hlj : ((F j).2.map I).length = j := by rw [List.length_map]; exact F1 j hj
          cases j with
          | zero =>
            obtain ⟨x, hpk, hF⟩ := F2 0 (by omega)
            have hF0 : (F 0).2 = [] := by rw [F0]
            rw [hF0, List.nil_append] at hF
            dsimp only [tH, List.cons_append, List.nil_append]
            repeat' (first
| refine g_seq ?_
| refine zJ ?_
| refine zC ?_
| (refine o_go rfl ?_; (first
| refine p_p (zD rfl) ?_
| refine p_p (ps_gtr rfl rfl rfl) ?_); refine ⟨_, aB, ?_⟩)
| refine o_nil ?_
| (refine zK rfl (fun hc => ?_) (fun hc => ?_) <;> try (exfalso; omega))
| refine zR ?_)
            all_goals try (exfalso; omega)
            refine g_region_drawZ [(0, some [0, 8]), (1, some [0]), (2, some [8]), (3, some [8]), (4, none), (5, none), (6, none), (7, none), (8, none)] [(4, 0), (6, 8), (8, 999999)] (fun hp => hp[7]? = some (.box [I (k : Int), nilV])) (by kernel_rfl) rfl (by kernel_rfl) ?_
            repeat' (first
| refine z_nil ?_
| ((first
| refine zV rfl rfl (fun hp hH => zH rfl rfl hH rfl) aJ aD (by decide) aA ?_
| refine zV rfl rfl (fun _ _ => zD rfl) aJ aD (by decide) aA ?_
| refine zV rfl rfl (fun _ _ => zE rfl rfl) aJ aD (by decide) aA ?_
| refine z_eff rfl rfl aF (j_callLB (n := 0) rfl rfl rfl aK (by rfl) (by rfl) (hpk)) aG ?_
| refine z_eff rfl rfl aF (j_appendNil rfl rfl rfl rfl (one_one rfl) (by decide) rfl (by rw [n_len_c, n_len_n]; omega) (by rw [n_len_c, n_len_n]; omega) (by rw [n_len_c, n_len_n]; omega)) aG ?_
| refine z_eff rfl rfl aF (j_store_boxC rfl rfl rfl rfl aL rfl rfl) aG ?_
| refine z_eff rfl rfl aF (j_pure (zE rfl rfl)) aG ?_
| refine z_eff rfl rfl aF (j_pure (ps_lit1 rfl rfl (by rfl) (by rfl))) aG ?_); refine ⟨_, aQ, ?_⟩))
            repeat' (first
| refine zC ?_
| (refine o_go rfl ?_; (first
| refine p_p (zD rfl) ?_
| refine p_p (zA rfl) ?_
| refine p_p (ps_sub rfl rfl rfl aO) ?_); refine ⟨_, aB, ?_⟩)
| refine o_nil ?_)
            exact zT 1 (by omega) (by omega) aI ⟨vI (by omega), trivial⟩ (zB rfl (zB rfl (zB rfl (zB rfl (zB rfl (zB rfl (zB rfl (zB rfl (zB (by rw [hF]; rfl) (zM _))))))))))
          | succ j =>
            dsimp only [tH, List.cons_append, List.nil_append]
            by_cases hjN : j + 1 < N
            · obtain ⟨x, hpk, hF⟩ := F2 (j + 1) hjN
              repeat' (first
| refine g_seq ?_
| refine zJ ?_
| refine zC ?_
| (refine o_go rfl ?_; (first
| refine p_p (zD rfl) ?_
| refine p_p (ps_gtr rfl rfl rfl) ?_); refine ⟨_, aB, ?_⟩)
| refine o_nil ?_
| (refine zK rfl (fun hc => ?_) (fun hc => ?_) <;> try (exfalso; omega))
| refine zR ?_)
              all_goals try (exfalso; omega)
              refine g_region_drawU [(0, some [0, 8]), (1, some [0]), (2, some [8]), (3, some [8]), (4, none), (5, none), (6, none), (7, none), (8, none)] [(4, 0), (6, 8), (8, 999999)] (fun U hp => (∃ a, hp[7]? = some (.box [I (k : Int), a])) ∧ (8 ∉ U → hp[7]? = some (.box [I (k : Int), .hp 8]))) (by kernel_rfl) rfl (by kernel_rfl) ?_
              repeat' (first
| refine u_nil ?_
| ((first
| refine u_pure rfl rfl (fun hp hH => zH rfl rfl (hH.2 (by decide)) rfl) aJ aD (by decide) aN ?_
| refine u_pure rfl rfl (fun _ _ => zD rfl) aJ aD (by decide) aN ?_
| refine u_pure rfl rfl (fun _ _ => zE rfl rfl) aJ aD (by decide) aN ?_
| refine u_eff rfl rfl aF (j_callLB (n := 0) rfl rfl rfl aK (by rfl) (by rfl) (hpk)) (by first | exact fun _ hm hF _ => absurd (hm 999999 (by decide)) hF | exact fun _ _ _ hh => hh | exact (fun _ hm _ _ => ⟨⟨_, rfl⟩, fun h => absurd (hm 8 (by decide)) h⟩)) ?_
| refine u_eff rfl rfl aF (j_append rfl rfl rfl rfl rfl rfl (one_one rfl) rfl (by rw [n_len_c, n_len_n]; omega) (by rw [n_len_c, n_len_n]; omega)) (by first | exact fun _ hm hF _ => absurd (hm 999999 (by decide)) hF | exact fun _ _ _ hh => hh | exact (fun _ hm _ _ => ⟨⟨_, rfl⟩, fun h => absurd (hm 8 (by decide)) h⟩)) ?_
| refine u_eff rfl rfl aF (j_store_boxC rfl rfl rfl rfl aL rfl rfl) (by first | exact fun _ hm hF _ => absurd (hm 999999 (by decide)) hF | exact fun _ _ _ hh => hh | exact (fun _ hm _ _ => ⟨⟨_, rfl⟩, fun h => absurd (hm 8 (by decide)) h⟩)) ?_
| refine u_eff rfl rfl aF (j_pure (zE rfl rfl)) (by first | exact fun _ hm hF _ => absurd (hm 999999 (by decide)) hF | exact fun _ _ _ hh => hh | exact (fun _ hm _ _ => ⟨⟨_, rfl⟩, fun h => absurd (hm 8 (by decide)) h⟩)) ?_
| refine u_eff rfl rfl aF (j_pure (ps_lit1 rfl rfl (by rfl) (by rfl))) (by first | exact fun _ hm hF _ => absurd (hm 999999 (by decide)) hF | exact fun _ _ _ hh => hh | exact (fun _ hm _ _ => ⟨⟨_, rfl⟩, fun h => absurd (hm 8 (by decide)) h⟩)) ?_); refine ⟨_, aQ, ?_⟩))
              repeat' (first
| refine zC ?_
| (refine o_go rfl ?_; (first
| refine p_p (zD rfl) ?_
| refine p_p (zA rfl) ?_
| refine p_p (ps_sub rfl rfl rfl aO) ?_); refine ⟨_, aB, ?_⟩)
| refine o_nil ?_)
              exact zT (j + 2) (by omega) (by omega) aI ⟨vI (by omega), trivial⟩ (zB rfl (zB rfl (zB rfl (zB rfl (zB rfl (zB rfl (zB rfl (zB rfl (zB (by rw [hF, List.map_append]; rfl) (zM _))))))))))
            · have hjN' : N = j + 1 := by omega
              have hce' : ce = (F (j + 1)).1 := by rw [hce, hjN']
              have htb' : f.tb = (F (j + 1)).2 := by rw [htb, hjN']
              repeat' (first
| refine g_seq ?_
| refine zC ?_
| (refine o_go rfl ?_; (first
| refine p_e rfl (e_lit1S rfl rfl rfl (one_all (fun _ => rfl) _) rfl) ?_
| refine p_e rfl (e_append_sg rfl rfl rfl rfl rfl rfl (by decide) (by rw [hll, n_len_c, n_len_n]; omega) (by rw [hll, n_len_c, n_len_n]; omega)) ?_
| refine p_p (zD rfl) ?_
| refine p_p (zA rfl) ?_
| refine p_p (ps_gtr rfl rfl rfl) ?_
| refine p_p (ps_sub rfl rfl rfl aO) ?_
| refine p_p (zH rfl rfl rfl rfl) ?_
| refine p_p (zY rfl rfl rfl aL) ?_
| refine p_p (zE rfl rfl) ?_
| refine p_e rfl (e_store_boxC rfl rfl rfl rfl aL rfl rfl) ?_); refine ⟨_, aB, ?_⟩)
| refine o_nil ?_
| (refine zK rfl (fun hc => ?_) (fun hc => ?_) <;> try (exfalso; omega))
| refine g_exit ?_)
              all_goals try (exfalso; omega)
              refine zT (i + 2) (by omega) (by omega) aI ⟨vI (by omega), trivial⟩ (zB (by rw [hDn, hce']) (zB rfl (zB rfl (hpLe_gone (hpLe_gone (hpLe_gone (zB ?_ (zM _))))))))
              rw [hDn]; simp only [sgI, rowsO, List.map_append, List.map_cons, List.map_nil, ← htb', har]; try rfl
        · repeat' (first
| refine g_seq ?_
| refine zJ ?_
| refine zC ?_
| (refine o_go rfl ?_; (first
| refine p_e rfl (e_callL (n := 0) rfl rfl rfl aK rfl (by rfl) aR (g1)) ?_
| refine p_p (zG rfl rfl aC (hpw)) ?_
| refine p_p (ps_lits rfl (by exact rfl) (by exact rfl) aU (by decide) (by decide)) ?_
| refine p_p (zD rfl) ?_
| refine p_p (zA rfl) ?_
| refine p_p (zQ rfl rfl) ?_
| refine p_p (ps_gtr rfl rfl rfl) ?_
| refine p_p (ps_eql rfl rfl rfl) ?_
| refine p_p (zH rfl rfl rfl rfl) ?_
| refine p_p (zE rfl rfl) ?_
| refine p_e rfl (zO rfl rfl rfl rfl aL rfl rfl rfl) ?_
| refine p_e rfl (e_alloc rfl) ?_
| refine p_p (ps_build rfl rfl) ?_); refine ⟨_, aB, ?_⟩)
| refine o_nil ?_
| (refine o_s rfl ?_; refine ⟨_, aB, ?_⟩)
| (refine o_splitD rfl rfl rfl (fun hc => ?_) (fun hc => ?_) <;> first | (exfalso; omega) | dsimp only [List.set_cons_zero, List.set_cons_succ])
| refine zW rfl ?_
| (refine zK rfl (fun hc => ?_) (fun hc => ?_) <;> try (exfalso; omega))
| refine zR ?_)
          all_goals try (exfalso; omega)
          refine g_loopT (α := Nat) (fun j => [(8, I ((N : Int) - (j : Int)))]) (fun j => tH (fun c => [cuB c, resB, .box [I (n : Int), .hp 6], .gone, .gone, .gone, sgI (rowsO (D (i + 1)).2)]) 8 k F j) (fun j => j ≤ N) (fun j => N - j) 0 aH (Nat.zero_le _) ⟨vI (by omega), trivial⟩ (by rw [tH, F0]; first | rfl | (rw [hk2]; rfl)) ?_
          rintro j hj
          dsimp only [zZ, List.set_cons_zero, List.set_cons_succ]
          have hlj : ((F j).2.map I).length = j := by rw [List.length_map]; exact F1 j hj
          cases j with
          | zero =>
            obtain ⟨x, hpk, hF⟩ := F2 0 (by omega)
            have hF0 : (F 0).2 = [] := by rw [F0]
            rw [hF0, List.nil_append] at hF
            dsimp only [tH, List.cons_append, List.nil_append]
            repeat' (first
| refine g_seq ?_
| refine zJ ?_
| refine zC ?_
| (refine o_go rfl ?_; (first
| refine p_p (zD rfl) ?_
| refine p_p (ps_gtr rfl rfl rfl) ?_); refine ⟨_, aB, ?_⟩)
| refine o_nil ?_
| (refine zK rfl (fun hc => ?_) (fun hc => ?_) <;> try (exfalso; omega))
| refine zR ?_)
            all_goals try (exfalso; omega)
            refine g_region_drawZ [(0, some [0, 8]), (1, some [0]), (2, some [8]), (3, some [8]), (4, none), (5, none), (6, none), (7, none), (8, none)] [(4, 0), (6, 8), (8, 999999)] (fun hp => hp[7]? = some (.box [I (k : Int), nilV])) (by kernel_rfl) rfl (by kernel_rfl) ?_
            repeat' (first
| refine z_nil ?_
| ((first
| refine zV rfl rfl (fun hp hH => zH rfl rfl hH rfl) aJ aD (by decide) aA ?_
| refine zV rfl rfl (fun _ _ => zD rfl) aJ aD (by decide) aA ?_
| refine zV rfl rfl (fun _ _ => zE rfl rfl) aJ aD (by decide) aA ?_
| refine z_eff rfl rfl aF (j_callLB (n := 0) rfl rfl rfl aK (by rfl) (by rfl) (hpk)) aG ?_
| refine z_eff rfl rfl aF (j_appendNil rfl rfl rfl rfl (one_one rfl) (by decide) rfl (by rw [n_len_c, n_len_n]; omega) (by rw [n_len_c, n_len_n]; omega) (by rw [n_len_c, n_len_n]; omega)) aG ?_
| refine z_eff rfl rfl aF (j_store_boxC rfl rfl rfl rfl aL rfl rfl) aG ?_
| refine z_eff rfl rfl aF (j_pure (zE rfl rfl)) aG ?_
| refine z_eff rfl rfl aF (j_pure (ps_lit1 rfl rfl (by rfl) (by rfl))) aG ?_); refine ⟨_, aQ, ?_⟩))
            repeat' (first
| refine zC ?_
| (refine o_go rfl ?_; (first
| refine p_p (zD rfl) ?_
| refine p_p (zA rfl) ?_
| refine p_p (ps_sub rfl rfl rfl aO) ?_); refine ⟨_, aB, ?_⟩)
| refine o_nil ?_)
            exact zT 1 (by omega) (by omega) aI ⟨vI (by omega), trivial⟩ (zB rfl (zB rfl (zB rfl (zB rfl (zB rfl (zB rfl (zB rfl (zB rfl (zB (by rw [hF]; rfl) (zM _))))))))))
          | succ j =>
            dsimp only [tH, List.cons_append, List.nil_append]
            by_cases hjN : j + 1 < N
            · obtain ⟨x, hpk, hF⟩ := F2 (j + 1) hjN
              repeat' (first
| refine g_seq ?_
| refine zJ ?_
| refine zC ?_
| (refine o_go rfl ?_; (first
| refine p_p (zD rfl) ?_
| refine p_p (ps_gtr rfl rfl rfl) ?_); refine ⟨_, aB, ?_⟩)
| refine o_nil ?_
| (refine zK rfl (fun hc => ?_) (fun hc => ?_) <;> try (exfalso; omega))
| refine zR ?_)
              all_goals try (exfalso; omega)
              refine g_region_drawU [(0, some [0, 8]), (1, some [0]), (2, some [8]), (3, some [8]), (4, none), (5, none), (6, none), (7, none), (8, none)] [(4, 0), (6, 8), (8, 999999)] (fun U hp => (∃ a, hp[7]? = some (.box [I (k : Int), a])) ∧ (8 ∉ U → hp[7]? = some (.box [I (k : Int), .hp 8]))) (by kernel_rfl) rfl (by kernel_rfl) ?_
              repeat' (first
| refine u_nil ?_
| ((first
| refine u_pure rfl rfl (fun hp hH => zH rfl rfl (hH.2 (by decide)) rfl) aJ aD (by decide) aN ?_
| refine u_pure rfl rfl (fun _ _ => zD rfl) aJ aD (by decide) aN ?_
| refine u_pure rfl rfl (fun _ _ => zE rfl rfl) aJ aD (by decide) aN ?_
| refine u_eff rfl rfl aF (j_callLB (n := 0) rfl rfl rfl aK (by rfl) (by rfl) (hpk)) (by first | exact fun _ hm hF _ => absurd (hm 999999 (by decide)) hF | exact fun _ _ _ hh => hh | exact (fun _ hm _ _ => ⟨⟨_, rfl⟩, fun h => absurd (hm 8 (by decide)) h⟩)) ?_
| refine u_eff rfl rfl aF (j_append rfl rfl rfl rfl rfl rfl (one_one rfl) rfl (by rw [n_len_c, n_len_n]; omega) (by rw [n_len_c, n_len_n]; omega)) (by first | exact fun _ hm hF _ => absurd (hm 999999 (by decide)) hF | exact fun _ _ _ hh => hh | exact (fun _ hm _ _ => ⟨⟨_, rfl⟩, fun h => absurd (hm 8 (by decide)) h⟩)) ?_
| refine u_eff rfl rfl aF (j_store_boxC rfl rfl rfl rfl aL rfl rfl) (by first | exact fun _ hm hF _ => absurd (hm 999999 (by decide)) hF | exact fun _ _ _ hh => hh | exact (fun _ hm _ _ => ⟨⟨_, rfl⟩, fun h => absurd (hm 8 (by decide)) h⟩)) ?_
| refine u_eff rfl rfl aF (j_pure (zE rfl rfl)) (by first | exact fun _ hm hF _ => absurd (hm 999999 (by decide)) hF | exact fun _ _ _ hh => hh | exact (fun _ hm _ _ => ⟨⟨_, rfl⟩, fun h => absurd (hm 8 (by decide)) h⟩)) ?_
| refine u_eff rfl rfl aF (j_pure (ps_lit1 rfl rfl (by rfl) (by rfl))) (by first | exact fun _ hm hF _ => absurd (hm 999999 (by decide)) hF | exact fun _ _ _ hh => hh | exact (fun _ hm _ _ => ⟨⟨_, rfl⟩, fun h => absurd (hm 8 (by decide)) h⟩)) ?_); refine ⟨_, aQ, ?_⟩))
              repeat' (first
| refine zC ?_
| (refine o_go rfl ?_; (first
| refine p_p (zD rfl) ?_
| refine p_p (zA rfl) ?_
| refine p_p (ps_sub rfl rfl rfl aO) ?_); refine ⟨_, aB, ?_⟩)
| refine o_nil ?_)
              exact zT (j + 2) (by omega) (by omega) aI ⟨vI (by omega), trivial⟩ (zB rfl (zB rfl (zB rfl (zB rfl (zB rfl (zB rfl (zB rfl (zB rfl (zB (by rw [hF, List.map_append]; rfl) (zM _))))))))))
            · have hjN' : N = j + 1 := by omega
              have hce' : ce = (F (j + 1)).1 := by rw [hce, hjN']
              have htb' : f.tb = (F (j + 1)).2 := by rw [htb, hjN']
              repeat' (first
| refine g_seq ?_
| refine zC ?_
| (refine o_go rfl ?_; (first
| refine p_e rfl (e_lit1S rfl rfl rfl (one_all (fun _ => rfl) _) rfl) ?_
| refine p_e rfl (e_append_sg rfl rfl rfl rfl rfl rfl (by decide) (by rw [hll, n_len_c, n_len_n]; omega) (by rw [hll, n_len_c, n_len_n]; omega)) ?_
| refine p_p (zD rfl) ?_
| refine p_p (zA rfl) ?_
| refine p_p (ps_gtr rfl rfl rfl) ?_
| refine p_p (ps_sub rfl rfl rfl aO) ?_
| refine p_p (zH rfl rfl rfl rfl) ?_
| refine p_p (zY rfl rfl rfl aL) ?_
| refine p_p (zE rfl rfl) ?_
| refine p_e rfl (e_store_boxC rfl rfl rfl rfl aL rfl rfl) ?_); refine ⟨_, aB, ?_⟩)
| refine o_nil ?_
| (refine zK rfl (fun hc => ?_) (fun hc => ?_) <;> try (exfalso; omega))
| refine g_exit ?_)
              all_goals try (exfalso; omega)
              refine zT (i + 2) (by omega) (by omega) aI ⟨vI (by omega), trivial⟩ (zB (by rw [hDn, hce']) (zB rfl (zB rfl (hpLe_gone (hpLe_gone (hpLe_gone (zB ?_ (zM _))))))))
              rw [hDn]; simp only [sgI, rowsO, List.map_append, List.map_cons, List.map_nil, ← htb', har]; try rfl
    · obtain rfl : K = i + 1 := by omega
      rcases hend with ⟨z, c6, hy, g1⟩ | ⟨f, l, hy, ho⟩ | ⟨f, l, p, v, c6, c7, hy, ho, p0, p1, g1, g2⟩ | ⟨f, l, v, c6, hy, ho, g1⟩ | ⟨E, R, hy, E0, hR, hE, hb, g1, g2⟩ | hy
      · subst hy
        repeat' (first
| refine g_seq ?_
| refine zJ ?_
| refine zC ?_
| (refine o_go rfl ?_; (first
| refine p_e rfl (e_callL (n := 0) rfl rfl rfl aK rfl (by rfl) aR (h4)) ?_
| refine p_e rfl (e_callL (n := 0) rfl rfl rfl aK rfl (by rfl) aR (g1)) ?_
| refine p_p (ps_lits rfl (by exact rfl) (by exact rfl) aU (by decide) (by decide)) ?_
| refine p_p (zD rfl) ?_
| refine p_p (zA rfl) ?_
| refine p_p (ps_add rfl rfl rfl aO) ?_
| refine p_p (ps_gtr rfl rfl rfl) ?_
| refine p_p (ps_eql rfl rfl rfl) ?_
| refine p_p (zY rfl rfl rfl aL) ?_
| refine p_p (zE rfl rfl) ?_
| refine p_e rfl (e_store_boxC rfl rfl rfl rfl aL rfl rfl) ?_
| refine p_e rfl (zO rfl rfl rfl rfl aL rfl rfl rfl) ?_); refine ⟨_, aB, ?_⟩)
| refine o_nil ?_
| refine zX rfl ?_
| (refine zK rfl (fun hc => ?_) (fun hc => ?_) <;> try (exfalso; omega))
| refine g_exit ?_
| refine g_ret ?_)
        all_goals try (exfalso; omega)
        all_goals try (change KRLC _ _ _ _ _ _ .ret _; exact krlc 0 0 rfl rfl rfl (krC_le rfl aL rfl (by first | exact le_algG _ _ | (rw [ho]; exact le_algG _ _) | exact le_algG (n : Int) (⟨v, f.tb⟩ :: l) | (rw [← List.map_set]; exact le_algG (n : Int) (⟨f.ar, f.tb.set p.toNat v⟩ :: l)) | (rw [show (f.tb.map I ++ [I 0]) = (f.tb ++ [(0 : Int)]).map I by rw [List.map_append]; rfl]; exact le_algG (n : Int) (⟨f.ar, f.tb ++ [0]⟩ :: l)))))
      · subst hy
        repeat' ((fail_if_success (refine at_reg 21 ?_)); (first
| refine g_seq ?_
| refine zJ ?_
| refine zC ?_
| (refine o_go rfl ?_; (first
| refine p_e rfl (e_callL (n := 0) rfl rfl rfl aK rfl (by rfl) aR (h4)) ?_
| refine p_p (zD rfl) ?_
| refine p_p (zA rfl) ?_
| refine p_p (ps_gtr rfl rfl rfl) ?_
| refine p_p (ps_eql rfl rfl rfl) ?_); refine ⟨_, aB, ?_⟩)
| refine o_nil ?_
| refine zX rfl ?_
| refine zW rfl ?_
| (refine zK rfl (fun hc => ?_) (fun hc => ?_) <;> try (exfalso; omega))
| refine g_exit ?_))
        all_goals try (exfalso; omega)
        rw [ho]
        have hl1 : (f.tb.map I).length ≤ 27 := by rw [List.length_map]; exact hDt _ (Nat.le_refl _) f (by rw [ho]; exact List.mem_cons_self ..)
        refine g_region_drawZ [(0, some []), (1, some []), (2, some []), (3, some []), (7, some []), (4, none), (5, none), (6, none), (8, none), (9, none), (10, none), (11, none)] [] (fun hp => hp[2]? = some (.box [I (n : Int), .hp 6])) (by kernel_rfl) rfl (by kernel_rfl) ?_
        repeat' (first
| refine z_nil ?_
| ((first
| refine zV rfl rfl (fun hp hH => zH rfl rfl hH rfl) aJ aD (by decide) aA ?_
| refine zV rfl rfl (fun _ _ => zE rfl rfl) aJ aD (by decide) aA ?_
| refine zV rfl rfl (fun _ _ => ps_lit1 rfl rfl (by rfl) (by rfl)) aJ aD (by decide) aA ?_
| refine z_eff rfl rfl aF (j_pure (ps_index_sg rfl rfl rfl rfl (by decide) (by exact Nat.succ_pos _))) aG ?_
| refine z_eff rfl rfl aF (j_pure (ps_load_sg rfl rfl rfl rfl (by exact Nat.succ_pos _))) aG ?_
| refine z_eff rfl rfl aF (j_appendRowS rfl rfl rfl rfl rfl rfl rfl (by intro p hp; cases hp with | head => rfl | tail _ h => cases h) (by rw [n_len_c, n_len_n]; omega) (by rw [n_len_c, n_len_n]; omega)) aG ?_
| refine z_eff rfl rfl aF (j_pure (yA rfl rfl rfl rfl (by decide) (by exact Nat.succ_pos _))) aG ?_
| refine z_eff rfl rfl aF (j_store_arrF (i := 0) (j := 1) rfl rfl rfl rfl rfl rfl aL rfl rfl rfl) aG ?_
| refine z_eff rfl rfl aF (j_pure (zE rfl rfl)) aG ?_); refine ⟨_, aQ, ?_⟩))
        repeat' (first
| refine g_seq ?_
| refine zC ?_
| (refine o_go rfl ?_; (first
| refine p_p (zY rfl rfl rfl aL) ?_
| refine p_e rfl (zO rfl rfl rfl rfl aL rfl rfl rfl) ?_); refine ⟨_, aB, ?_⟩)
| refine o_nil ?_
| refine g_ret ?_)
        all_goals try (exfalso; omega)
        all_goals try (change KRLC _ _ _ _ _ _ .ret _; exact krlc 0 0 rfl rfl rfl (krC_le rfl aL rfl (by first | exact le_algG _ _ | (rw [ho]; exact le_algG _ _) | exact le_algG (n : Int) (⟨v, f.tb⟩ :: l) | (rw [← List.map_set]; exact le_algG (n : Int) (⟨f.ar, f.tb.set p.toNat v⟩ :: l)) | (rw [show (f.tb.map I ++ [I 0]) = (f.tb ++ [(0 : Int)]).map I by rw [List.map_append]; rfl]; exact le_algG (n : Int) (⟨f.ar, f.tb ++ [0]⟩ :: l)))))
      · subst hy
        repeat' ((fail_if_success (refine at_reg 23 ?_)); (first
| refine g_seq ?_
| refine zJ ?_
| refine zC ?_
| (refine o_go rfl ?_; (first
| refine p_e rfl (e_callL (n := 0) rfl rfl rfl aK rfl (by rfl) aR (h4)) ?_
| refine p_p (zD rfl) ?_
| refine p_p (zA rfl) ?_
| refine p_p (ps_gtr rfl rfl rfl) ?_
| refine p_p (ps_eql rfl rfl rfl) ?_); refine ⟨_, aB, ?_⟩)
| refine o_nil ?_
| refine zX rfl ?_
| refine zW rfl ?_
| (refine zK rfl (fun hc => ?_) (fun hc => ?_) <;> try (exfalso; omega))
| refine g_exit ?_))
        all_goals try (exfalso; omega)
        rw [ho]
        have hl1 : (f.tb.map I).length = f.tb.length := List.length_map ..
        have hl2 : f.tb.length ≤ 27 := hDt _ (Nat.le_refl _) f (by rw [ho]; exact List.mem_cons_self ..)
        have g1' : LCalls Tryz.prog 266 (cuB c5) [.hat 0 0, I ((f.tb.map I).length : Nat)] (cuB c6) (I p) := by rw [hl1]; exact g1
        refine g_region_drawZ [(0, some []), (1, some []), (2, some []), (3, some []), (4, some []), (5, some []), (6, some []), (7, some []), (8, some []), (9, some []), (10, some []), (11, some []), (13, some []), (14, some []), (15, some []), (12, none), (16, none), (17, none), (18, none)] [(18, 999999)] (fun hp => hp[2]? = some (.box [I (n : Int), .hp 6]) ∧ hp[6]? = some (sgI (rowsO (f :: l)))) (by kernel_rfl) rfl (by kernel_rfl) ?_
        repeat' (first
| refine z_nil ?_
| ((first
| refine zV rfl rfl (fun hp hH => zH rfl rfl hH.1 rfl) aJ aD (by decide) aA ?_
| refine zV rfl rfl (fun hp hH => ps_index_sg rfl rfl hH.2 rfl (by decide) (by exact Nat.succ_pos _)) aJ aD (by decide) aA ?_
| refine zV rfl rfl (fun hp hH => ps_load_sg (i := 0) rfl rfl hH.2 rfl (by exact Nat.succ_pos _)) aJ aD (by decide) aA ?_
| refine zV rfl rfl (fun hp hH => ps_len_sgr rfl rfl rfl hH.2 rfl) aJ aD (by decide) aA ?_
| refine zV rfl rfl (fun _ _ => zD rfl) aJ aD (by decide) aA ?_
| refine zV rfl rfl (fun _ _ => zE rfl rfl) aJ aD (by decide) aA ?_
| refine zV rfl rfl (fun _ _ => ps_lit2 rfl rfl rfl (by rfl) (by rfl) (by rfl)) aJ aD (by decide) aA ?_
| refine z_eff rfl rfl aF (j_callLB (n := 0) rfl rfl rfl aK (by rfl) (by rfl) (g1')) aG ?_
| refine z_eff rfl rfl aF (j_callLB (n := 0) rfl rfl rfl aK (by rfl) (by rfl) (g2)) aG ?_
| refine z_eff rfl rfl aF (j_pure (ps_index_sgr rfl rfl rfl rfl rfl p0 (by rw [hl1]; omega))) aG ?_
| refine z_eff rfl rfl aF (j_store_sgr rfl rfl rfl rfl rfl (by rw [hl1]; omega) rfl rfl) aG ?_); refine ⟨_, aQ, ?_⟩))
        repeat' (first
| refine g_seq ?_
| refine zC ?_
| (refine o_go rfl ?_; (first
| refine p_p (zY rfl rfl rfl aL) ?_
| refine p_e rfl (zO rfl rfl rfl rfl aL rfl rfl rfl) ?_); refine ⟨_, aB, ?_⟩)
| refine o_nil ?_
| refine g_ret ?_)
        all_goals try (exfalso; omega)
        all_goals try (change KRLC _ _ _ _ _ _ .ret _; exact krlc 0 0 rfl rfl rfl (krC_le rfl aL rfl (by first | exact le_algG _ _ | (rw [ho]; exact le_algG _ _) | exact le_algG (n : Int) (⟨v, f.tb⟩ :: l) | (rw [← List.map_set]; exact le_algG (n : Int) (⟨f.ar, f.tb.set p.toNat v⟩ :: l)) | (rw [show (f.tb.map I ++ [I 0]) = (f.tb ++ [(0 : Int)]).map I by rw [List.map_append]; rfl]; exact le_algG (n : Int) (⟨f.ar, f.tb ++ [0]⟩ :: l)))))
      · subst hy
        repeat' ((fail_if_success (refine at_reg 25 ?_)); (first
| refine g_seq ?_
| refine zJ ?_
| refine zC ?_
| (refine o_go rfl ?_; (first
| refine p_e rfl (e_callL (n := 0) rfl rfl rfl aK rfl (by rfl) aR (h4)) ?_
| refine p_p (zD rfl) ?_
| refine p_p (zA rfl) ?_
| refine p_p (ps_gtr rfl rfl rfl) ?_
| refine p_p (ps_eql rfl rfl rfl) ?_); refine ⟨_, aB, ?_⟩)
| refine o_nil ?_
| refine zX rfl ?_
| refine zW rfl ?_
| (refine zK rfl (fun hc => ?_) (fun hc => ?_) <;> try (exfalso; omega))
| refine g_exit ?_))
        all_goals try (exfalso; omega)
        rw [ho]
        refine g_region_drawZ [(0, some []), (1, some []), (2, some []), (3, some []), (4, none), (5, none), (6, none), (7, none)] [(7, 999999)] (fun hp => hp[2]? = some (.box [I (n : Int), .hp 6])) (by kernel_rfl) rfl (by kernel_rfl) ?_
        repeat' (first
| refine z_nil ?_
| ((first
| refine zV rfl rfl (fun hp hH => zH rfl rfl hH rfl) aJ aD (by decide) aA ?_
| refine zV rfl rfl (fun _ _ => zD rfl) aJ aD (by decide) aA ?_
| refine zV rfl rfl (fun _ _ => zE rfl rfl) aJ aD (by decide) aA ?_
| refine zV rfl rfl (fun _ _ => ps_lit2 rfl rfl rfl (by rfl) (by rfl) (by rfl)) aJ aD (by decide) aA ?_
| refine z_eff rfl rfl aF (j_callLB (n := 0) rfl rfl rfl aK (by rfl) (by rfl) (g1)) aG ?_
| refine z_eff rfl rfl aF (j_pure (ps_index_sg rfl rfl rfl rfl (by decide) (by exact Nat.succ_pos _))) aG ?_
| refine z_eff rfl rfl aF (j_store_sg0 (i := 0) rfl rfl rfl rfl rfl rfl rfl rfl) aG ?_
| refine z_eff rfl rfl aF (j_pure (zE rfl rfl)) aG ?_); refine ⟨_, aQ, ?_⟩))
        repeat' (first
| refine g_seq ?_
| refine zC ?_
| (refine o_go rfl ?_; (first
| refine p_p (zY rfl rfl rfl aL) ?_
| refine p_e rfl (zO rfl rfl rfl rfl aL rfl rfl rfl) ?_); refine ⟨_, aB, ?_⟩)
| refine o_nil ?_
| refine g_ret ?_)
        all_goals try (exfalso; omega)
        all_goals try (change KRLC _ _ _ _ _ _ .ret _; exact krlc 0 0 rfl rfl rfl (krC_le rfl aL rfl (by first | exact le_algG _ _ | (rw [ho]; exact le_algG _ _) | exact le_algG (n : Int) (⟨v, f.tb⟩ :: l) | (rw [← List.map_set]; exact le_algG (n : Int) (⟨f.ar, f.tb.set p.toNat v⟩ :: l)) | (rw [show (f.tb.map I ++ [I 0]) = (f.tb ++ [(0 : Int)]).map I by rw [List.map_append]; rfl]; exact le_algG (n : Int) (⟨f.ar, f.tb ++ [0]⟩ :: l)))))
      · subst hy
        repeat' ((fail_if_success (refine at_reg 27 ?_)); (first
| refine g_seq ?_
| refine zJ ?_
| refine zC ?_
| (refine o_go rfl ?_; (first
| refine p_e rfl (e_callL (n := 0) rfl rfl rfl aK rfl (by rfl) aR (h4)) ?_
| refine p_p (zD rfl) ?_
| refine p_p (zA rfl) ?_
| refine p_p (ps_gtr rfl rfl rfl) ?_
| refine p_p (ps_eql rfl rfl rfl) ?_); refine ⟨_, aB, ?_⟩)
| refine o_nil ?_
| refine zX rfl ?_
| refine zW rfl ?_
| (refine zK rfl (fun hc => ?_) (fun hc => ?_) <;> try (exfalso; omega))
| refine g_exit ?_))
        all_goals try (exfalso; omega)
        refine g_loopT (α := Nat) (fun t => []) (fun t => [cuB (E t).1, resB, .box [I (n : Int), .hp 6], .gone, .gone, .gone, sgI (rowsO ((D (i + 1)).2 ++ List.replicate t ⟨1, List.replicate n 0⟩))]) (fun t => t ≤ R) (fun t => R - t) 0 aH (Nat.zero_le _) trivial (by rw [E0]; simp only [List.replicate_zero, List.append_nil]) ?_
        rintro t ht
        dsimp only [zZ, List.set_cons_zero, List.set_cons_succ]
        have hLl : (((rowsO ((D (i + 1)).2 ++ List.replicate t ⟨1, List.replicate n 0⟩)).map fun r => r.map I)).length = (D (i + 1)).2.length + t := by simp
        have hbt := hb t ht
        have hpk := hE t ht
        have hDn := hDl _ (Nat.le_refl _)
        repeat' (first
| refine g_seq ?_)
        refine g_region_drawZ [(0, some []), (1, some []), (2, some []), (3, some []), (4, none), (5, some []), (6, some [])] [] (fun hp => hp[2]? = some (.box [I (n : Int), .hp 6]) ∧ hp[6]? = some (sgI (rowsO ((D (i + 1)).2 ++ List.replicate t ⟨1, List.replicate n 0⟩)))) (by kernel_rfl) rfl (by kernel_rfl) ?_
        repeat' (first
| refine z_nil ?_
| ((first
| refine zV rfl rfl (fun hp hH => zH rfl rfl hH.1 rfl) aJ aD (by decide) aA ?_
| refine zV rfl rfl (fun hp hH => ps_len_sg rfl rfl rfl hH.2) aJ aD (by decide) aA ?_
| refine zV rfl rfl (fun _ _ => zD rfl) aJ aD (by decide) aA ?_
| refine zV rfl rfl (fun _ _ => zS rfl rfl rfl) aJ aD (by decide) aA ?_
| refine zV rfl rfl (fun _ _ => ps_add rfl rfl rfl aO) aJ aD (by decide) aA ?_
| refine zV rfl rfl (fun _ _ => zE rfl rfl) aJ aD (by decide) aA ?_
| refine z_eff rfl rfl aF (j_callLB (n := 0) rfl rfl rfl aK (by rfl) (by rfl) (hpk)) aG ?_); refine ⟨_, aQ, ?_⟩))
        by_cases htR : t < R
        · have h5 := g1 t htR
          repeat' ((fail_if_success (refine at_reg 28 ?_)); (first
| refine zJ ?_
| (refine zK rfl (fun hc => ?_) (fun hc => ?_) <;> try (exfalso; omega))
| refine zR ?_))
          all_goals try (exfalso; omega)
          refine g_region_drawU [(0, some [7, 8, 6]), (1, some [7, 8]), (2, some [8, 6]), (3, none), (4, none), (5, none), (6, none), (7, none), (8, none)] [(3, 7), (5, 8), (6, 6), (8, 999999)] (fun U hp => (∃ a, hp[2]? = some (.box [I (n : Int), a])) ∧ (6 ∉ U → hp[2]? = some (.box [I (n : Int), .hp 6]))) (by kernel_rfl) rfl (by kernel_rfl) ?_
          repeat' (first
| refine u_nil ?_
| ((first
| refine u_pure rfl rfl (fun hp hH => zH rfl rfl (hH.2 (by decide)) rfl) aJ aD (by decide) aN ?_
| refine u_pure rfl rfl (fun _ _ => zD rfl) aJ aD (by decide) aN ?_
| refine u_pure rfl rfl (fun _ _ => zE rfl rfl) aJ aD (by decide) aN ?_
| refine u_eff rfl rfl aF (j_make (zp := I 0) rfl rfl rfl (by omega) (by omega) (by omega) (by decide) (by rfl) (by rfl)) (by first | exact fun _ hm hF _ => absurd (hm 999999 (by decide)) hF | exact fun _ _ _ hh => hh | exact (fun _ hm _ _ => ⟨⟨_, rfl⟩, fun h => absurd (hm 6 (by decide)) h⟩)) ?_
| refine u_eff rfl rfl aF (j_lit1S rfl rfl rfl (by rw [List.all_eq_true]; intro p hp; rw [(List.mem_replicate.1 hp).2]; rfl) rfl) (by first | exact fun _ hm hF _ => absurd (hm 999999 (by decide)) hF | exact fun _ _ _ hh => hh | exact (fun _ hm _ _ => ⟨⟨_, rfl⟩, fun h => absurd (hm 6 (by decide)) h⟩)) ?_
| refine u_eff rfl rfl aF (j_append_sg rfl rfl rfl rfl rfl rfl (by decide) (by rw [hLl, n_len_c, n_len_n]; omega) (by rw [hLl, n_len_c, n_len_n]; omega)) (by first | exact fun _ hm hF _ => absurd (hm 999999 (by decide)) hF | exact fun _ _ _ hh => hh | exact (fun _ hm _ _ => ⟨⟨_, rfl⟩, fun h => absurd (hm 6 (by decide)) h⟩)) ?_
| refine u_eff rfl rfl aF (j_store_boxC rfl rfl rfl rfl aL rfl rfl) (by first | exact fun _ hm hF _ => absurd (hm 999999 (by decide)) hF | exact fun _ _ _ hh => hh | exact (fun _ hm _ _ => ⟨⟨_, rfl⟩, fun h => absurd (hm 6 (by decide)) h⟩)) ?_
| refine u_eff rfl rfl aF (j_pure (zE rfl rfl)) (by first | exact fun _ hm hF _ => absurd (hm 999999 (by decide)) hF | exact fun _ _ _ hh => hh | exact (fun _ hm _ _ => ⟨⟨_, rfl⟩, fun h => absurd (hm 6 (by decide)) h⟩)) ?_
| refine u_eff rfl rfl aF (j_pure (ps_build rfl rfl)) (by first | exact fun _ hm hF _ => absurd (hm 999999 (by decide)) hF | exact fun _ _ _ hh => hh | exact (fun _ hm _ _ => ⟨⟨_, rfl⟩, fun h => absurd (hm 6 (by decide)) h⟩)) ?_); refine ⟨_, aQ, ?_⟩))
          repeat' (first
| ((refine g_seq ?_); trace "@W2b3314dbb1d80a05.o65f97fd403")
| ((refine zJ ?_); trace "@W2b3314dbb1d80a05.ob498b46fe7")
| ((refine zC ?_); trace "@W2b3314dbb1d80a05.o244684d497")
| (refine o_go rfl ?_; (first
| (refine p_p (zD rfl) ?_; trace "@W2b3314dbb1d80a05.i88afafc5ed")
| (refine p_p (zA rfl) ?_; trace "@W2b3314dbb1d80a05.i8ba5b8203b")
| (refine p_p (zF rfl rfl) ?_; trace "@W2b3314dbb1d80a05.ide9392a449")
| (refine p_p (ps_load_agg rfl rfl aL) ?_; trace "@W2b3314dbb1d80a05.id5e9fce031")
| (refine p_p (ps_load_agg rfl rfl (Nat.le_refl _)) ?_; trace "@W2b3314dbb1d80a05.i7357a97840")
| (refine p_p (zN rfl rfl rfl (by omega) aP (by exact rfl)) ?_; trace "@W2b3314dbb1d80a05.ifd94cb0229")
| (refine p_p (zU rfl rfl rfl) ?_; trace "@W2b3314dbb1d80a05.i651e23b408")
| (refine p_p (ps_len rfl rfl rfl) ?_; trace "@W2b3314dbb1d80a05.i48953a2eae")
| (refine p_p (zS rfl rfl rfl) ?_; trace "@W2b3314dbb1d80a05.iece3698938")
| (refine p_p (ps_add rfl rfl rfl aO) ?_; trace "@W2b3314dbb1d80a05.iab4644b76d")
| (refine p_p (zL rfl rfl) ?_; trace "@W2b3314dbb1d80a05.ia51eaa1f88")
| (refine p_p (ps_extract rfl rfl rfl) ?_; trace "@W2b3314dbb1d80a05.i71d836e875")
| (refine p_p (ps_not rfl rfl) ?_; trace "@W2b3314dbb1d80a05.i6306b71400")
| (refine p_p (zQ rfl rfl) ?_; trace "@W2b3314dbb1d80a05.i07da16aa24")
| (refine p_p (ps_leq rfl rfl rfl) ?_; trace "@W2b3314dbb1d80a05.id13d0d2e36")
| (refine p_p (ps_gtr rfl rfl rfl) ?_; trace "@W2b3314dbb1d80a05.ief6e49898e")
| (refine p_p (ps_geq rfl rfl rfl) ?_; trace "@W2b3314dbb1d80a05.ie4d9949433")
| (refine p_p (ps_eql rfl rfl rfl) ?_; trace "@W2b3314dbb1d80a05.if2e43d169a")
| (refine p_p (ps_neq rfl rfl rfl) ?_; trace "@W2b3314dbb1d80a05.i9d1f50cfeb")
| (refine p_p (ps_sub rfl rfl rfl aO) ?_; trace "@W2b3314dbb1d80a05.i99d1030057")
| (refine p_p (ps_nilCheck rfl rfl) ?_; trace "@W2b3314dbb1d80a05.i922a565813")
| (refine p_p (ps_nilCheck_fn rfl rfl) ?_; trace "@W2b3314dbb1d80a05.i4dd2db0b95")
| (refine p_p (ps_field rfl rfl rfl) ?_; trace "@W2b3314dbb1d80a05.ic88f26a11b")
| (refine p_p (ps_eqnil rfl rfl rfl) ?_; trace "@W2b3314dbb1d80a05.i47e580ed5f")
| (refine p_p (ps_eqnil_v rfl rfl rfl) ?_; trace "@W2b3314dbb1d80a05.i9fbbd4fa49")
| (refine p_p (ps_eqnil_o rfl rfl rfl rfl) ?_; trace "@W2b3314dbb1d80a05.i1223e0e181")
| (refine p_p (ps_len_mut rfl rfl rfl rfl) ?_; trace "@W2b3314dbb1d80a05.i8a6735b410")
| (refine p_p (ps_len_grid rfl rfl rfl rfl) ?_; trace "@W2b3314dbb1d80a05.i318c95d166")
| (refine p_p (ps_len_pg rfl rfl rfl rfl) ?_; trace "@W2b3314dbb1d80a05.i4ef8d11fcb")
| (refine p_p (ps_index_pg rfl rfl rfl rfl (by omega) (by first | omega | (rw [n_toNat]; omega))) ?_; trace "@W2b3314dbb1d80a05.idf722618c6")
| (refine p_p (ps_index_grid rfl rfl rfl rfl (by omega) aT) ?_; trace "@W2b3314dbb1d80a05.iff64d9ecd7")
| (refine p_e rfl (e_store_row rfl rfl rfl rfl aT (by omega) rfl rfl rfl (by first | exact one_all (fun _ => rfl) _ | exact one_rep rfl _ | rfl)) ?_; trace "@W2b3314dbb1d80a05.i711dd71843")
| (refine p_p (zH rfl rfl rfl rfl) ?_; trace "@W2b3314dbb1d80a05.i68f3c2d5ad")
| (refine p_p (zY rfl rfl rfl aL) ?_; trace "@W2b3314dbb1d80a05.if8f792c19e")
| (refine p_p (ps_load_row rfl rfl rfl (by omega)) ?_; trace "@W2b3314dbb1d80a05.ib8c2b88593")
| (refine p_p (zE rfl rfl) ?_; trace "@W2b3314dbb1d80a05.i47032e2e0f")
| (refine p_p (yA rfl rfl rfl rfl (by omega) aT) ?_; trace "@W2b3314dbb1d80a05.i8f2952d551")
| (refine p_e rfl (e_make1 rfl rfl rfl (by omega) (by omega) (by omega) rfl rfl) ?_; trace "@W2b3314dbb1d80a05.if4afeff1b2")
| (refine p_e rfl (e_store_arr rfl rfl rfl rfl aT rfl rfl) ?_; trace "@W2b3314dbb1d80a05.i907d8262d4")
| (refine p_e rfl (e_store_boxC rfl rfl rfl rfl aL rfl rfl) ?_; trace "@W2b3314dbb1d80a05.id7908f556e")
| (refine p_e rfl (zO rfl rfl rfl rfl aL rfl rfl rfl) ?_; trace "@W2b3314dbb1d80a05.ic728ce408c")
| (refine p_e rfl (e_alloc rfl) ?_; trace "@W2b3314dbb1d80a05.i5e1a309ada")
| (refine p_e rfl (e_lit0 rfl (by decide)) ?_; trace "@W2b3314dbb1d80a05.if2e4d4ba44")
| (refine p_e rfl (e_append rfl rfl rfl rfl rfl rfl (by first | exact one_one rfl | exact one_map (fun _ => rfl) _) rfl aT aT) ?_; trace "@W2b3314dbb1d80a05.id7271af66f")
| (refine p_p (ps_box rfl rfl) ?_; trace "@W2b3314dbb1d80a05.i34a392b571")
| (refine p_p (ps_makeFunc rfl rfl rfl) ?_; trace "@W2b3314dbb1d80a05.ia900154b8d")
| (refine p_p (ps_lit1 rfl rfl (by rfl) (by rfl)) ?_; trace "@W2b3314dbb1d80a05.i8f202a48dc")
| (refine p_p (ps_lit2 rfl rfl rfl (by rfl) (by rfl) (by rfl)) ?_; trace "@W2b3314dbb1d80a05.i07bd212676")
| (refine p_p (ps_lit3 rfl rfl rfl rfl (by rfl) (by rfl) (by rfl) (by rfl)) ?_; trace "@W2b3314dbb1d80a05.i5480dac4e8")
| (refine p_p (ps_build rfl rfl) ?_; trace "@W2b3314dbb1d80a05.i7cef79f103")); refine ⟨_, aB, ?_⟩)
| ((refine o_nil ?_); trace "@W2b3314dbb1d80a05.ocdf983927a")
| (((refine o_s rfl ?_; refine ⟨_, aB, ?_⟩)); trace "@W2b3314dbb1d80a05.o7ee5af373e")
| (((refine o_splitD rfl rfl rfl (fun hc => ?_) (fun hc => ?_) <;> first | (exfalso; omega) | dsimp only [List.set_cons_zero, List.set_cons_succ])); trace "@W2b3314dbb1d80a05.o20c7b17272")
| (((refine o_splitN rfl rfl rfl (fun hc => ?_) (fun hc => ?_) <;> dsimp only [List.set_cons_zero, List.set_cons_succ])); trace "@W2b3314dbb1d80a05.o39a797b970")
| (((refine o_splitA rfl rfl rfl (fun hc => ?_) (fun hc => ?_) <;> dsimp only [List.set_cons_zero, List.set_cons_succ])); trace "@W2b3314dbb1d80a05.oabd4d77a95")
| ((refine zX rfl ?_); trace "@W2b3314dbb1d80a05.oc154c16280")
| ((refine zW rfl ?_); trace "@W2b3314dbb1d80a05.o3282fba877")
| (((refine g_condN rfl (fun hc => ?_) (fun hc => ?_) <;> try (exfalso; omega))); trace "@W2b3314dbb1d80a05.o83258699ff")
| (((refine zK rfl (fun hc => ?_) (fun hc => ?_) <;> try (exfalso; omega))); trace "@W2b3314dbb1d80a05.o1e04d83f15")
| (((refine g_condNB rfl (fun hc => ?_) (fun hc => ?_))); trace "@W2b3314dbb1d80a05.oee4790fb4c")
| (((refine g_cond rfl (fun hc => ?_) (fun hc => ?_))); trace "@W2b3314dbb1d80a05.oe00bf9e6d2")
| ((refine krr 0 rfl (HandOut.arr rfl ?_ aS)); trace "@W2b3314dbb1d80a05.oad12103aab")
| ((refine krr 1 rfl (HandOut.arr rfl ?_ aS)); trace "@W2b3314dbb1d80a05.o8cd57cde5f")
| ((refine krr 2 rfl (HandOut.arr rfl ?_ aS)); trace "@W2b3314dbb1d80a05.o9aece4f3a6")
| ((refine krr 3 rfl (HandOut.arr rfl ?_ aS)); trace "@W2b3314dbb1d80a05.o44eb9ac1ef")
| ((refine krr 4 rfl (HandOut.arr rfl ?_ aS)); trace "@W2b3314dbb1d80a05.o3def1745a9")
| ((refine krr 5 rfl (HandOut.arr rfl ?_ aS)); trace "@W2b3314dbb1d80a05.o91e959740c")
| ((refine krr 6 rfl (HandOut.arr rfl ?_ aS)); trace "@W2b3314dbb1d80a05.o6c86d56a3b")
| ((refine krr 7 rfl (HandOut.arr rfl ?_ aS)); trace "@W2b3314dbb1d80a05.o5942104d0a")
| ((refine krr2 0 rfl rfl (HandOut.arr rfl ?_ aS)); trace "@W2b3314dbb1d80a05.o07e09161d5")
| ((refine krr2 1 rfl rfl (HandOut.arr rfl ?_ aS)); trace "@W2b3314dbb1d80a05.o68c0e5d197")
| ((refine krr2 2 rfl rfl (HandOut.arr rfl ?_ aS)); trace "@W2b3314dbb1d80a05.o4485c85a1b")
| ((refine krr2 3 rfl rfl (HandOut.arr rfl ?_ aS)); trace "@W2b3314dbb1d80a05.of9329e0cd7")
| ((refine krr2 4 rfl rfl (HandOut.arr rfl ?_ aS)); trace "@W2b3314dbb1d80a05.o8147e01ded")
| ((refine krr2 5 rfl rfl (HandOut.arr rfl ?_ aS)); trace "@W2b3314dbb1d80a05.oc99a9905e6")
| ((refine krr2 6 rfl rfl (HandOut.arr rfl ?_ aS)); trace "@W2b3314dbb1d80a05.o09a527e8de")
| ((refine krr2 7 rfl rfl (HandOut.arr rfl ?_ aS)); trace "@W2b3314dbb1d80a05.o8c6c5d1db5")
| ((refine krr2e 0 rfl rfl (eB ?_) (HandOut.arr rfl ?_ aS)); trace "@W2b3314dbb1d80a05.o5669d76986")
| ((refine krr2e 1 rfl rfl (eB ?_) (HandOut.arr rfl ?_ aS)); trace "@W2b3314dbb1d80a05.ocb3ac67a4e")
| ((refine krr2e 2 rfl rfl (eB ?_) (HandOut.arr rfl ?_ aS)); trace "@W2b3314dbb1d80a05.o4b9fa834c1")
| ((refine krr2e 3 rfl rfl (eB ?_) (HandOut.arr rfl ?_ aS)); trace "@W2b3314dbb1d80a05.o1092c2ee44")
| ((refine krr2e 4 rfl rfl (eB ?_) (HandOut.arr rfl ?_ aS)); trace "@W2b3314dbb1d80a05.oe579cf6fc6")
| ((refine kr1 ?_); trace "@W2b3314dbb1d80a05.oe1eb9f8bd6")
| ((refine kr2 ?_ ?_); trace "@W2b3314dbb1d80a05.oaec1875011")
| ((refine kr3 ?_ ?_ ?_); trace "@W2b3314dbb1d80a05.o5e3ee917a2")
| ((exact krAny); trace "@W2b3314dbb1d80a05.oe74fd368ad")
| ((refine krc ?_); trace "@W2b3314dbb1d80a05.o18a8ee30ba")
| ((refine krct ?_ ?_); trace "@W2b3314dbb1d80a05.o685f809f50")
| ((refine krC rfl aL ?_); trace "@W2b3314dbb1d80a05.o4f0533aaec")
| ((refine krC_any rfl aL); trace "@W2b3314dbb1d80a05.o7c23d5e8bd")
| ((refine krB rfl ?_); trace "@W2b3314dbb1d80a05.o7d5857dacb")
| ((refine krI rfl ?_); trace "@W2b3314dbb1d80a05.o7513cb2e80")
| ((refine krS rfl ?_); trace "@W2b3314dbb1d80a05.o4f5aa5cfca")
| ((refine krN rfl ?_); trace "@W2b3314dbb1d80a05.oe3bc73c9ca")
| ((refine krA rfl ?_); trace "@W2b3314dbb1d80a05.o0c8896477d")
| ((refine krP rfl ?_); trace "@W2b3314dbb1d80a05.o23c9c87ff3")
| ((refine zR ?_); trace "@W2b3314dbb1d80a05.o0cc4b7aaff")
| ((refine g_exit ?_); trace "@W2b3314dbb1d80a05.o8861bbd0ca")
| ((refine g_ret ?_); trace "@W2b3314dbb1d80a05.o5f22f2e9d7"))
          all_goals try (exfalso; omega)
          refine zT (t + 1) (by omega) (by omega) aI (by exact trivial) (zB rfl (zB rfl (zB rfl (hpLe_gone (hpLe_gone (hpLe_gone (zB ?_ (zM _))))))))
          rw [List.replicate_succ', ← List.append_assoc]; simp only [sgI, rowsO, List.map_append, List.map_cons, List.map_nil, List.map_replicate]
        · obtain rfl : t = R := by omega
          repeat' (first
| refine g_seq ?_
| refine zC ?_
| (refine o_go rfl ?_; (first
| refine p_p (zY rfl rfl rfl aL) ?_
| refine p_e rfl (zO rfl rfl rfl rfl aL rfl rfl rfl) ?_); refine ⟨_, aB, ?_⟩)
| refine o_nil ?_
| (refine zK rfl (fun hc => ?_) (fun hc => ?_) <;> try (exfalso; omega))
| refine g_exit ?_
| refine g_ret ?_)
          all_goals try (exfalso; omega)
          all_goals try (change KRLC _ _ _ _ _ _ .ret _; exact krlc 0 0 rfl rfl rfl (krC_le rfl aL rfl (by first | exact le_algG _ _ | (rw [ho]; exact le_algG _ _) | exact le_algG (n : Int) (⟨v, f.tb⟩ :: l) | (rw [← List.map_set]; exact le_algG (n : Int) (⟨f.ar, f.tb.set p.toNat v⟩ :: l)) | (rw [show (f.tb.map I ++ [I 0]) = (f.tb ++ [(0 : Int)]).map I by rw [List.map_append]; rfl]; exact le_algG (n : Int) (⟨f.ar, f.tb ++ [0]⟩ :: l)))))
      · repeat' (first
| refine g_seq ?_
| refine zJ ?_
| refine zC ?_
| (refine o_go rfl ?_; (first
| refine p_e rfl (e_callL (n := 0) rfl rfl rfl aK rfl (by rfl) aR (h4)) ?_
| refine p_p (zD rfl) ?_
| refine p_p (zA rfl) ?_
| refine p_p (ps_gtr rfl rfl rfl) ?_
| refine p_p (ps_eql rfl rfl rfl) ?_
| refine p_p (zY rfl rfl rfl aL) ?_
| refine p_e rfl (zO rfl rfl rfl rfl aL rfl rfl rfl) ?_); refine ⟨_, aB, ?_⟩)
| refine o_nil ?_
| (refine zK rfl (fun hc => ?_) (fun hc => ?_) <;> try (exfalso; omega))
| refine zR ?_
| refine g_exit ?_
| refine g_ret ?_)
        all_goals try (exfalso; omega)
        all_goals try (change KRLC _ _ _ _ _ _ .ret _; exact krlc 0 0 rfl rfl rfl (krC_le rfl aL rfl (by first | exact le_algG _ _ | (rw [ho]; exact le_algG _ _) | exact le_algG (n : Int) (⟨v, f.tb⟩ :: l) | (rw [← List.map_set]; exact le_algG (n : Int) (⟨f.ar, f.tb.set p.toNat v⟩ :: l)) | (rw [show (f.tb.map I ++ [I 0]) = (f.tb ++ [(0 : Int)]).map I by rw [List.map_append]; rfl]; exact le_algG (n : Int) (⟨f.ar, f.tb ++ [0]⟩ :: l)))))
end Go.Proofs.YtembaiccchgllaaGreat
