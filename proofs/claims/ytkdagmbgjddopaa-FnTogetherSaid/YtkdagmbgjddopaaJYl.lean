/- Walks: the reference's draw of congruences and elements. -/
import Derived.Test.YtkdagmbgjddopaaJYk
namespace Go.Proofs.Ytkdagmbgjddopaa
open Go Go.Pv Go.Proofs
set_option maxHeartbeats 32000000
set_option maxRecDepth 100000
attribute [local bitvec_to_nat] St.put St.setObj St.ev killP killA killP1 killH mapHO renP renA ren1 killG killGA killG1 krowP krowA krow1 lendP lendA lend1 unv pinP pin1 elemsM viewM viewN viewV n_set_z n_set_s n_map_c n_map_n getD_z getD_s n_toNat n_cond_t n_cond_f n_len_c n_len_n n_app_c n_app_n n_take_s n_take_z n_drop_s n_drop_z n_get_z n_get_s view viewA view1 elems Nat.zero_add Nat.add_zero Bool.not_true Bool.not_false Nat.one_ne_zero Nat.mul_one

structure DrS where
  c : Cu
  L : List (List Int)
  E : List Int
  x : Int
  cm : Cu
def smL (L : List (List Int)) : Prop := ∀ p ∈ L, p.length ≤ 10
theorem smL_snoc {L : List (List Int)} {p : List Int} (h : smL L) (hp : p.length ≤ 10) : smL (L ++ [p]) := fun q hq => by
  rcases List.mem_append.1 hq with hq | hq
  · exact h q hq
  · rw [List.mem_singleton] at hq; rw [hq]; exact hp
abbrev cg6C (c : Cu) (n : Int) (ops : List OpD) (c' : Cu) (p : List Int) : Prop := LCalls Try.prog 44 (cuB c) [.hat 0 0, algP n ops] (cuB c') (ints p)
abbrev elC (c : Cu) (n : Int) (ops : List OpD) (c' : Cu) (x : Int) : Prop := LCalls Try.prog 26 (cuB c) [.hat 0 0, algP n ops] (cuB c') (I x)
theorem pairs_seq {c : Cu} {M : Int} (h : c.ok M) (hM : M ≤ 600000) (n : Int) (ops : List OpD) (hs : szOk ops) (hn : n ≤ 9) (k : Nat) (hk : k ≤ 100) : ∃ F : Nat → DrS, F 0 = ⟨c, [], [], 0, c⟩ ∧ (∀ t, t ≤ k → (F t).c.ok (M + 60 * (t : Int)) ∧ (F t).L.length = t ∧ (F t).E.length = t ∧ smL (F t).L) ∧
    ∀ t, t < k → ∃ (c1 : Cu) (p : List Int) (x : Int), cg6C (F t).c n ops c1 p ∧ elC c1 n ops (F (t + 1)).c x ∧ (F (t + 1)).L = (F t).L ++ [p] ∧ (F (t + 1)).E = (F t).E ++ [x] := by
  refine seq_of (fun t (s : DrS) => s.c.ok (M + 60 * (t : Int)) ∧ s.L.length = t ∧ s.E.length = t ∧ smL s.L) (fun t (s s' : DrS) => ∃ (c1 : Cu) (p : List Int) (x : Int), cg6C s.c n ops c1 p ∧ elC c1 n ops s'.c x ∧ s'.L = s.L ++ [p] ∧ s'.E = s.E ++ [x]) (⟨c, [], [], 0, c⟩ : DrS) k ⟨by simpa using h, rfl, rfl, fun p hp => by cases hp⟩ fun t s ht ⟨h1, h2, h3, h4⟩ => ?_
  obtain ⟨c1, p, k1, hp, hc⟩ := cong6_L h1 (by omega) n ops hs
  obtain ⟨c2, x, k2, he⟩ := element_L k1 (by omega) n ops hn
  refine ⟨⟨c2, s.L ++ [p], s.E ++ [x], 0, c2⟩, ⟨?_, by simp [h2], by simp [h3], smL_snoc h4 hp⟩, c1, p, x, hc, he, rfl, rfl⟩
  rw [show M + 60 * ((t + 1 : Nat) : Int) = M + 60 * (t : Int) + 60 by omega]
  exact k2.up (by omega)
theorem more_seq {c : Cu} {M : Int} (h : c.ok M) (hM : M ≤ 600000) (n : Int) (ops : List OpD) (hs : szOk ops) (L : List (List Int)) (E : List Int) (hL : smL L) (hl : L.length ≤ 3) (hE : E.length ≤ 3) : ∃ (F : Nat → DrS) (R : Nat), R ≤ 9 ∧ F 0 = ⟨c, L, E, 0, c⟩ ∧
    (∀ t, t ≤ R → (F t).L.length = L.length + t ∧ (F t).E.length = E.length + t ∧ smL (F t).L ∧ 0 ≤ (F (t + 1)).x ∧ (F (t + 1)).x ≤ 1 ∧ pkC (F t).c 2 (F (t + 1)).cm (F (t + 1)).x) ∧
    (∀ t, t < R → (((F t).L.length : Int) < 8 + (F (t + 1)).x) ∧ ∃ (p : List Int), cg6C (F (t + 1)).cm n ops (F (t + 1)).c p ∧ (F (t + 1)).L = (F t).L ++ [p] ∧ (F (t + 1)).E = (F t).E ++ [0]) ∧ ¬ (((F R).L.length : Int) < 8 + (F (R + 1)).x) := by
  obtain ⟨F, F0, F1, F2⟩ := seq_of (fun t (s : DrS) => s.c.ok (M + 60 * (t : Int)) ∧ s.L.length = L.length + t ∧ s.E.length = E.length + t ∧ smL s.L) (fun t (s s' : DrS) => 0 ≤ s'.x ∧ s'.x ≤ 1 ∧ pkC s.c 2 s'.cm s'.x ∧ ∃ (p : List Int), cg6C s'.cm n ops s'.c p ∧ s'.L = s.L ++ [p] ∧ s'.E = s.E ++ [0]) (⟨c, L, E, 0, c⟩ : DrS) 10 ⟨by simpa using h, rfl, rfl, hL⟩ fun t s ht ⟨h1, h2, h3, h4⟩ => by
    obtain ⟨c1, x, k1, x0, x1, hx⟩ := pick_L h1 (by omega) 2 (by decide)
    obtain ⟨c2, p, k2, hp, hc⟩ := cong6_L k1 (by omega) n ops hs
    refine ⟨⟨c2, s.L ++ [p], s.E ++ [0], x, c1⟩, ⟨?_, by simp [h2]; omega, by simp [h3]; omega, smL_snoc h4 hp⟩, x0, (show x ≤ 1 by omega), hx, p, hc, rfl, rfl⟩
    rw [show M + 60 * ((t + 1 : Nat) : Int) = M + 60 * (t : Int) + 60 by omega]
    exact k2.up (by omega)
  have hex : ∃ R, ¬ (((F R).L.length : Int) < 8 + (F (R + 1)).x) ∧ R ≤ 9 := by
    refine ⟨9, ?_, Nat.le_refl _⟩
    have := (F1 9 (by omega)).2.1
    have := (F2 9 (by omega)).2.1
    omega
  obtain ⟨R, ⟨r1, r2⟩, r3⟩ := least_of hex
  refine ⟨F, R, r2, F0, fun t ht => ?_, fun t ht => ?_, r1⟩
  · obtain ⟨-, a2, a3, a4⟩ := F1 t (by omega)
    obtain ⟨b1, b2, b3, -⟩ := F2 t (by omega)
    exact ⟨a2, a3, a4, b1, b2, b3⟩
  · obtain ⟨-, -, -, b⟩ := F2 t (by omega)
    exact ⟨Classical.byContradiction fun hh => r3 t ht ⟨hh, by omega⟩, b⟩
section
variable {l : List Int} {n z : Int} {ops : List OpD} {N : Nat} {c1 c2 c3 : Cu} {M : Int} {F : Nat → DrS}
theorem drST_a (h1 : LCalls Try.prog 42 (cuB (cu0 l)) [.hat 0 0] (cuB c1) (algP n ops)) (h2 : LCalls Try.prog 43 (cuB c1) [.hat 0 0, ints [2, 2, 3, 3, 1, 0]] (cuB c2) (I (N : Int))) (hN : N ≤ 3)
    (F0 : F 0 = ⟨c2, [], [], 0, c2⟩) (F1 : ∀ t, t ≤ N → (F t).c.ok (M + 60 * (t : Int)) ∧ (F t).L.length = t ∧ (F t).E.length = t ∧ smL (F t).L) (F2 : ∀ t, t < N → ∃ (c1 : Cu) (p : List Int) (x : Int), cg6C (F t).c n ops c1 p ∧ elC c1 n ops (F (t + 1)).c x ∧ (F (t + 1)).L = (F t).L ++ [p] ∧ (F (t + 1)).E = (F t).E ++ [x])
    (hz : pkC (F N).c 32 c3 z) (e : z = 0) : PCalls Try.prog 21 [bytesP l] (.tup [algP n ops, intss (F N).L, ints ((F N).E ++ [0])]) := by
  refine pcalls_CTT Try.func21 rfl Try.ntmps21 rfl ?_
  simp only [List.length_cons, List.length_nil, Nat.reduceAdd, Nat.reduceSub, List.replicate_succ, List.replicate_zero, List.cons_append, List.nil_append]
  repeat' (first
| refine g_settle 2 rfl (by dsimp only [setlP, setl1, setlH, bitvec_to_nat, Nat.reduceAdd, Nat.reduceMul, Nat.reduceBEq, reduceCtorEq]) ?_
| refine g_seq ?_
| refine zJ ?_
| refine zC ?_
| (refine o_go rfl ?_; (first
| refine p_e rfl (e_box rfl rfl) ?_
| refine p_e rfl (e_callL (n := 1) rfl rfl rfl aI rfl (by rfl) aM (h1)) ?_
| refine p_e rfl (e_lit0T rfl (by decide)) ?_
| refine p_p (ps_lits rfl (by exact rfl) (by exact rfl) aR (by decide) (by decide)) ?_
| refine p_e rfl (e_callL (n := 1) rfl rfl rfl aI rfl (by rfl) aM (h2)) ?_
| refine p_p (zD rfl) ?_
| refine p_p (zA rfl) ?_
| refine p_e rfl (zO rfl rfl rfl rfl aK rfl rfl rfl) ?_
| refine p_e rfl (e_alloc rfl) ?_
| refine p_p (ps_build rfl rfl) ?_); refine ⟨_, aA, ?_⟩)
| refine o_nil ?_)
  refine g_loopF (α := Nat) [15, 16] (fun t => [(7, .hp 3), (8, .hp 4), (9, I ((N : Int) - (t : Int)))]) (fun t => [.box [I 0, nilV], cuB (F t).c, .gone, .arr true 1 29 ((F t).L.map ints), .arr true 1 3 ((F t).E.map I)]) (fun t => t ≤ N) (fun t => N - t) 0 aH (Nat.zero_le _) ⟨rfl, rfl, vI (by omega), trivial⟩ (by rw [F0]; rfl) ?_
  rintro t ht
  dsimp only [zZ, List.set_cons_zero, List.set_cons_succ]
  obtain ⟨-, f2, f3, -⟩ := F1 t ht
  have hlL : ((F t).L.map ints).length = t := by rw [List.length_map, f2]
  have hlE : ((F t).E.map I).length = t := by rw [List.length_map, f3]
  by_cases htN : t < N
  · obtain ⟨ca, p, x, p1, p2, q1, q2⟩ := F2 t htN
    repeat' (first
| refine g_seq ?_
| refine zJ ?_
| refine zC ?_
| (refine o_go rfl ?_; (first
| refine p_e rfl (e_callL (n := 1) rfl rfl rfl aI rfl (by rfl) aM (p1)) ?_
| refine p_e rfl (e_callL (n := 1) rfl rfl rfl aI rfl (by rfl) aM (p2)) ?_
| refine p_e (by kernel_rfl) (e_append rfl rfl rfl rfl rfl rfl (one_one rfl) rfl (by first | (rw [hlL, n_len_c, n_len_n]; omega) | (rw [hlE, n_len_c, n_len_n]; omega)) (by first | (rw [hlL, n_len_c, n_len_n]; omega) | (rw [hlE, n_len_c, n_len_n]; omega))) ?_
| refine p_p (zD rfl) ?_
| refine p_p (zA rfl) ?_
| refine p_p (ps_load_agg rfl rfl aK) ?_
| refine p_p (ps_gtr rfl rfl rfl) ?_
| refine p_p (ps_sub rfl rfl rfl aO) ?_
| refine p_p (ps_lit1 rfl rfl (by rfl) (by rfl)) ?_); refine ⟨_, aA, ?_⟩)
| refine o_nil ?_
| (refine zK rfl (fun hc => ?_) (fun hc => ?_) <;> try (exfalso; omega))
| refine zR ?_)
    all_goals try (exfalso; omega)
    exact zT (t + 1) (by omega) (by omega) aJ ⟨rfl, rfl, vI (by omega), trivial⟩ (zB rfl (zB rfl (hpLe_gone (zB (by rw [q1, List.map_append]; rfl) (zB (by rw [q2, List.map_append]; rfl) (zM _))))))
  · obtain rfl : t = N := by omega
    repeat' (first
| refine g_seq ?_
| refine zJ ?_
| refine zC ?_
| (refine o_go rfl ?_; (first
| refine p_e rfl (e_callL (n := 1) rfl rfl rfl aI rfl (by rfl) aM (hz)) ?_
| refine p_e (by kernel_rfl) (e_append rfl rfl rfl rfl rfl rfl (one_one rfl) rfl (by rw [hlE, n_len_c, n_len_n]; omega) (by rw [hlE, n_len_c, n_len_n]; omega)) ?_
| refine p_p (zD rfl) ?_
| refine p_p (zA rfl) ?_
| refine p_p (ps_load_agg rfl rfl aK) ?_
| refine p_p (ps_gtr rfl rfl rfl) ?_
| refine p_p (ps_eql rfl rfl rfl) ?_
| refine p_e rfl (zO rfl rfl rfl rfl aK rfl rfl rfl) ?_
| refine p_p (ps_lit1 rfl rfl (by rfl) (by rfl)) ?_); refine ⟨_, aA, ?_⟩)
| refine o_nil ?_
| (refine zK rfl (fun hc => ?_) (fun hc => ?_) <;> try (exfalso; omega))
| refine g_exit ?_
| refine g_ret ?_)
    all_goals try (exfalso; omega)
    refine krg_CTT (krC rfl aK rfl) (krS rfl rfl) (krS rfl ?_)
    simp
theorem drST_b (h1 : LCalls Try.prog 42 (cuB (cu0 l)) [.hat 0 0] (cuB c1) (algP n ops)) (h2 : LCalls Try.prog 43 (cuB c1) [.hat 0 0, ints [2, 2, 3, 3, 1, 0]] (cuB c2) (I (N : Int))) (hN : N ≤ 3)
    (F0 : F 0 = ⟨c2, [], [], 0, c2⟩) (F1 : ∀ t, t ≤ N → (F t).c.ok (M + 60 * (t : Int)) ∧ (F t).L.length = t ∧ (F t).E.length = t ∧ smL (F t).L) (F2 : ∀ t, t < N → ∃ (c1 : Cu) (p : List Int) (x : Int), cg6C (F t).c n ops c1 p ∧ elC c1 n ops (F (t + 1)).c x ∧ (F (t + 1)).L = (F t).L ++ [p] ∧ (F (t + 1)).E = (F t).E ++ [x])
    (hz : pkC (F N).c 32 c3 z) (e : z ≠ 0) (e1 : z ≠ 1) : PCalls Try.prog 21 [bytesP l] (.tup [algP n ops, intss (F N).L, ints (F N).E]) := by
  refine pcalls_CTT Try.func21 rfl Try.ntmps21 rfl ?_
  simp only [List.length_cons, List.length_nil, Nat.reduceAdd, Nat.reduceSub, List.replicate_succ, List.replicate_zero, List.cons_append, List.nil_append]
  repeat' (first
| refine g_settle 2 rfl (by dsimp only [setlP, setl1, setlH, bitvec_to_nat, Nat.reduceAdd, Nat.reduceMul, Nat.reduceBEq, reduceCtorEq]) ?_
| refine g_seq ?_
| refine zJ ?_
| refine zC ?_
| (refine o_go rfl ?_; (first
| refine p_e rfl (e_box rfl rfl) ?_
| refine p_e rfl (e_callL (n := 1) rfl rfl rfl aI rfl (by rfl) aM (h1)) ?_
| refine p_e rfl (e_lit0T rfl (by decide)) ?_
| refine p_p (ps_lits rfl (by exact rfl) (by exact rfl) aR (by decide) (by decide)) ?_
| refine p_e rfl (e_callL (n := 1) rfl rfl rfl aI rfl (by rfl) aM (h2)) ?_
| refine p_p (zD rfl) ?_
| refine p_p (zA rfl) ?_
| refine p_e rfl (zO rfl rfl rfl rfl aK rfl rfl rfl) ?_
| refine p_e rfl (e_alloc rfl) ?_
| refine p_p (ps_build rfl rfl) ?_); refine ⟨_, aA, ?_⟩)
| refine o_nil ?_)
  refine g_loopF (α := Nat) [15, 16] (fun t => [(7, .hp 3), (8, .hp 4), (9, I ((N : Int) - (t : Int)))]) (fun t => [.box [I 0, nilV], cuB (F t).c, .gone, .arr true 1 29 ((F t).L.map ints), .arr true 1 3 ((F t).E.map I)]) (fun t => t ≤ N) (fun t => N - t) 0 aH (Nat.zero_le _) ⟨rfl, rfl, vI (by omega), trivial⟩ (by rw [F0]; rfl) ?_
  rintro t ht
  dsimp only [zZ, List.set_cons_zero, List.set_cons_succ]
  obtain ⟨-, f2, f3, -⟩ := F1 t ht
  have hlL : ((F t).L.map ints).length = t := by rw [List.length_map, f2]
  have hlE : ((F t).E.map I).length = t := by rw [List.length_map, f3]
  by_cases htN : t < N
  · obtain ⟨ca, p, x, p1, p2, q1, q2⟩ := F2 t htN
    repeat' (first
| refine g_seq ?_
| refine zJ ?_
| refine zC ?_
| (refine o_go rfl ?_; (first
| refine p_e rfl (e_callL (n := 1) rfl rfl rfl aI rfl (by rfl) aM (p1)) ?_
| refine p_e rfl (e_callL (n := 1) rfl rfl rfl aI rfl (by rfl) aM (p2)) ?_
| refine p_e (by kernel_rfl) (e_append rfl rfl rfl rfl rfl rfl (one_one rfl) rfl (by first | (rw [hlL, n_len_c, n_len_n]; omega) | (rw [hlE, n_len_c, n_len_n]; omega)) (by first | (rw [hlL, n_len_c, n_len_n]; omega) | (rw [hlE, n_len_c, n_len_n]; omega))) ?_
| refine p_p (zD rfl) ?_
| refine p_p (zA rfl) ?_
| refine p_p (ps_load_agg rfl rfl aK) ?_
| refine p_p (ps_gtr rfl rfl rfl) ?_
| refine p_p (ps_sub rfl rfl rfl aO) ?_
| refine p_p (ps_lit1 rfl rfl (by rfl) (by rfl)) ?_); refine ⟨_, aA, ?_⟩)
| refine o_nil ?_
| (refine zK rfl (fun hc => ?_) (fun hc => ?_) <;> try (exfalso; omega))
| refine zR ?_)
    all_goals try (exfalso; omega)
    exact zT (t + 1) (by omega) (by omega) aJ ⟨rfl, rfl, vI (by omega), trivial⟩ (zB rfl (zB rfl (hpLe_gone (zB (by rw [q1, List.map_append]; rfl) (zB (by rw [q2, List.map_append]; rfl) (zM _))))))
  · obtain rfl : t = N := by omega
    repeat' (first
| refine g_seq ?_
| refine zJ ?_
| refine zC ?_
| (refine o_go rfl ?_; (first
| refine p_e rfl (e_callL (n := 1) rfl rfl rfl aI rfl (by rfl) aM (hz)) ?_
| refine p_p (zD rfl) ?_
| refine p_p (zA rfl) ?_
| refine p_p (ps_load_agg rfl rfl aK) ?_
| refine p_p (ps_gtr rfl rfl rfl) ?_
| refine p_p (ps_eql rfl rfl rfl) ?_
| refine p_e rfl (zO rfl rfl rfl rfl aK rfl rfl rfl) ?_); refine ⟨_, aA, ?_⟩)
| refine o_nil ?_
| (refine zK rfl (fun hc => ?_) (fun hc => ?_) <;> try (exfalso; omega))
| refine zR ?_
| refine g_exit ?_
| refine g_ret ?_)
    all_goals try (exfalso; omega)
    exact krg_CTT (krC rfl aK rfl) (krS rfl rfl) (krS rfl rfl)
theorem drST_c {G : Nat → DrS} {R : Nat} (h1 : LCalls Try.prog 42 (cuB (cu0 l)) [.hat 0 0] (cuB c1) (algP n ops)) (h2 : LCalls Try.prog 43 (cuB c1) [.hat 0 0, ints [2, 2, 3, 3, 1, 0]] (cuB c2) (I (N : Int))) (hN : N ≤ 3)
    (F0 : F 0 = ⟨c2, [], [], 0, c2⟩) (F1 : ∀ t, t ≤ N → (F t).c.ok (M + 60 * (t : Int)) ∧ (F t).L.length = t ∧ (F t).E.length = t ∧ smL (F t).L) (F2 : ∀ t, t < N → ∃ (c1 : Cu) (p : List Int) (x : Int), cg6C (F t).c n ops c1 p ∧ elC c1 n ops (F (t + 1)).c x ∧ (F (t + 1)).L = (F t).L ++ [p] ∧ (F (t + 1)).E = (F t).E ++ [x])
    (hz : pkC (F N).c 32 c3 z) (e : z = 1) (hR : R ≤ 9) (G0 : G 0 = ⟨c3, (F N).L, (F N).E, 0, c3⟩)
    (G1 : ∀ t, t ≤ R → (G t).L.length = (F N).L.length + t ∧ (G t).E.length = (F N).E.length + t ∧ smL (G t).L ∧ 0 ≤ (G (t + 1)).x ∧ (G (t + 1)).x ≤ 1 ∧ pkC (G t).c 2 (G (t + 1)).cm (G (t + 1)).x)
    (G2 : ∀ t, t < R → (((G t).L.length : Int) < 8 + (G (t + 1)).x) ∧ ∃ (p : List Int), cg6C (G (t + 1)).cm n ops (G (t + 1)).c p ∧ (G (t + 1)).L = (G t).L ++ [p] ∧ (G (t + 1)).E = (G t).E ++ [0]) (G3 : ¬ (((G R).L.length : Int) < 8 + (G (R + 1)).x)) :
    PCalls Try.prog 21 [bytesP l] (.tup [algP n ops, intss (G R).L, ints (G R).E]) := by
  refine pcalls_CTT Try.func21 rfl Try.ntmps21 rfl ?_
  simp only [List.length_cons, List.length_nil, Nat.reduceAdd, Nat.reduceSub, List.replicate_succ, List.replicate_zero, List.cons_append, List.nil_append]
  repeat' (first
| refine g_settle 2 rfl (by dsimp only [setlP, setl1, setlH, bitvec_to_nat, Nat.reduceAdd, Nat.reduceMul, Nat.reduceBEq, reduceCtorEq]) ?_
| refine g_seq ?_
| refine zJ ?_
| refine zC ?_
| (refine o_go rfl ?_; (first
| refine p_e rfl (e_box rfl rfl) ?_
| refine p_e rfl (e_callL (n := 1) rfl rfl rfl aI rfl (by rfl) aM (h1)) ?_
| refine p_e rfl (e_lit0T rfl (by decide)) ?_
| refine p_p (ps_lits rfl (by exact rfl) (by exact rfl) aR (by decide) (by decide)) ?_
| refine p_e rfl (e_callL (n := 1) rfl rfl rfl aI rfl (by rfl) aM (h2)) ?_
| refine p_p (zD rfl) ?_
| refine p_p (zA rfl) ?_
| refine p_e rfl (zO rfl rfl rfl rfl aK rfl rfl rfl) ?_
| refine p_e rfl (e_alloc rfl) ?_
| refine p_p (ps_build rfl rfl) ?_); refine ⟨_, aA, ?_⟩)
| refine o_nil ?_)
  refine g_loopF (α := Nat) [15, 16] (fun t => [(7, .hp 3), (8, .hp 4), (9, I ((N : Int) - (t : Int)))]) (fun t => [.box [I 0, nilV], cuB (F t).c, .gone, .arr true 1 29 ((F t).L.map ints), .arr true 1 3 ((F t).E.map I)]) (fun t => t ≤ N) (fun t => N - t) 0 aH (Nat.zero_le _) ⟨rfl, rfl, vI (by omega), trivial⟩ (by rw [F0]; rfl) ?_
  rintro t ht
  dsimp only [zZ, List.set_cons_zero, List.set_cons_succ]
  obtain ⟨-, f2, f3, -⟩ := F1 t ht
  have hlL : ((F t).L.map ints).length = t := by rw [List.length_map, f2]
  have hlE : ((F t).E.map I).length = t := by rw [List.length_map, f3]
  by_cases htN : t < N
  · obtain ⟨ca, p, x, p1, p2, q1, q2⟩ := F2 t htN
    repeat' (first
| refine g_seq ?_
| refine zJ ?_
| refine zC ?_
| (refine o_go rfl ?_; (first
| refine p_e rfl (e_callL (n := 1) rfl rfl rfl aI rfl (by rfl) aM (p1)) ?_
| refine p_e rfl (e_callL (n := 1) rfl rfl rfl aI rfl (by rfl) aM (p2)) ?_
| refine p_e (by kernel_rfl) (e_append rfl rfl rfl rfl rfl rfl (one_one rfl) rfl (by first | (rw [hlL, n_len_c, n_len_n]; omega) | (rw [hlE, n_len_c, n_len_n]; omega)) (by first | (rw [hlL, n_len_c, n_len_n]; omega) | (rw [hlE, n_len_c, n_len_n]; omega))) ?_
| refine p_p (zD rfl) ?_
| refine p_p (zA rfl) ?_
| refine p_p (ps_load_agg rfl rfl aK) ?_
| refine p_p (ps_gtr rfl rfl rfl) ?_
| refine p_p (ps_sub rfl rfl rfl aO) ?_
| refine p_p (ps_lit1 rfl rfl (by rfl) (by rfl)) ?_); refine ⟨_, aA, ?_⟩)
| refine o_nil ?_
| (refine zK rfl (fun hc => ?_) (fun hc => ?_) <;> try (exfalso; omega))
| refine zR ?_)
    all_goals try (exfalso; omega)
    exact zT (t + 1) (by omega) (by omega) aJ ⟨rfl, rfl, vI (by omega), trivial⟩ (zB rfl (zB rfl (hpLe_gone (zB (by rw [q1, List.map_append]; rfl) (zB (by rw [q2, List.map_append]; rfl) (zM _))))))
  · obtain rfl : t = N := by omega
    clear F1 F2
    repeat' ((fail_if_success (refine at_reg 13 ?_)); (first
| refine g_seq ?_
| refine zJ ?_
| refine zC ?_
| (refine o_go rfl ?_; (first
| refine p_e rfl (e_callL (n := 1) rfl rfl rfl aI rfl (by rfl) aM (hz)) ?_
| refine p_p (zD rfl) ?_
| refine p_p (zA rfl) ?_
| refine p_p (ps_gtr rfl rfl rfl) ?_
| refine p_p (ps_eql rfl rfl rfl) ?_); refine ⟨_, aA, ?_⟩)
| refine o_nil ?_
| (refine zK rfl (fun hc => ?_) (fun hc => ?_) <;> try (exfalso; omega))
| refine g_exit ?_))
    all_goals try (exfalso; omega)
    refine g_loopF (α := Nat) [] (fun t => [(7, .hp 3), (8, .hp 4)]) (fun t => [.box [I 0, nilV], cuB (G t).c, .gone, .arr true 1 29 ((G t).L.map ints), .arr true 1 3 ((G t).E.map I)]) (fun t => t ≤ R) (fun t => R - t) 0 aH (Nat.zero_le _) ⟨rfl, rfl, trivial⟩ (by rw [G0]) ?_
    rintro r hr
    dsimp only [zZ, List.set_cons_zero, List.set_cons_succ]
    obtain ⟨g1, g2, -, x0, x1, hx⟩ := G1 r hr
    have hgL : ((G r).L.map ints).length = (G r).L.length := List.length_map ..
    have hgE : ((G r).E.map I).length = (G r).E.length := List.length_map ..
    by_cases hrR : r < R
    · obtain ⟨hlt, p, p1, q1, q2⟩ := G2 r hrR
      repeat' (first
| refine g_seq ?_
| refine zJ ?_
| refine zC ?_
| (refine o_go rfl ?_; (first
| refine p_e rfl (e_callL (n := 1) rfl rfl rfl aI rfl (by rfl) aM (hx)) ?_
| refine p_e rfl (e_callL (n := 1) rfl rfl rfl aI rfl (by rfl) aM (p1)) ?_
| refine p_e (by kernel_rfl) (e_append rfl rfl rfl rfl rfl rfl (one_one rfl) rfl (by first | (rw [hgL, n_len_c, n_len_n]; omega) | (rw [hgE, n_len_c, n_len_n]; omega)) (by first | (rw [hgL, n_len_c, n_len_n]; omega) | (rw [hgE, n_len_c, n_len_n]; omega))) ?_
| refine p_p (zD rfl) ?_
| refine p_p (zA rfl) ?_
| refine p_p (ps_load_agg rfl rfl aK) ?_
| refine p_p (zS rfl rfl rfl) ?_
| refine p_p (ps_add rfl rfl rfl aO) ?_
| refine p_p (ps_len_mut rfl rfl rfl rfl) ?_
| refine p_p (ps_lit1 rfl rfl (by rfl) (by rfl)) ?_); refine ⟨_, aA, ?_⟩)
| refine o_nil ?_
| (refine zK rfl (fun hc => ?_) (fun hc => ?_) <;> try (exfalso; omega))
| refine zR ?_)
      all_goals try (exfalso; omega)
      exact zT (r + 1) (by omega) (by omega) aJ ⟨rfl, rfl, trivial⟩ (zB rfl (zB rfl (hpLe_gone (zB (by rw [q1, List.map_append]; rfl) (zB (by rw [q2, List.map_append]; rfl) (zM _))))))
    · obtain rfl : r = R := by omega
      repeat' (first
| refine g_seq ?_
| refine zC ?_
| (refine o_go rfl ?_; (first
| refine p_e rfl (e_callL (n := 1) rfl rfl rfl aI rfl (by rfl) aM (hx)) ?_
| refine p_p (zD rfl) ?_
| refine p_p (zA rfl) ?_
| refine p_p (ps_load_agg rfl rfl aK) ?_
| refine p_p (zS rfl rfl rfl) ?_
| refine p_p (ps_add rfl rfl rfl aO) ?_
| refine p_p (ps_len_mut rfl rfl rfl rfl) ?_
| refine p_e rfl (zO rfl rfl rfl rfl aK rfl rfl rfl) ?_); refine ⟨_, aA, ?_⟩)
| refine o_nil ?_
| (refine zK rfl (fun hc => ?_) (fun hc => ?_) <;> try (exfalso; omega))
| refine g_exit ?_
| refine g_ret ?_)
      all_goals try (exfalso; omega)
      exact krg_CTT (krC rfl aK rfl) (krS rfl rfl) (krS rfl rfl)
end
theorem drawST_c {l : List Int} (h : bytesOk l) : ∃ n ops L E, szOk ops ∧ 0 ≤ n ∧ n ≤ 9 ∧ L.length ≤ 20 ∧ smL L ∧ E.length ≤ 20 ∧ PCalls Try.prog 21 [bytesP l] (.tup [algP n ops, intss L, ints E]) := by
  obtain ⟨c1, n, ops, k1, hs, -, n0, n9, h1⟩ := few16_L (cu0_ok h) (by omega)
  obtain ⟨c2, N, k2, hN, h2⟩ := among_L k1 (by omega) [2, 2, 3, 3, 1, 0] (by decide) (by decide)
  obtain ⟨N, rfl, hN3⟩ : ∃ j : Nat, N = (j : Int) ∧ j ≤ 3 := by
    simp only [List.mem_cons, List.not_mem_nil, or_false] at hN
    exact ⟨N.toNat, by omega, by omega⟩
  obtain ⟨F, F0, F1, F2⟩ := pairs_seq k2 (by omega) n ops hs n9 N (by omega)
  obtain ⟨q1, q2, q3, q4⟩ := F1 N (Nat.le_refl _)
  obtain ⟨c3, z, k3, z0, -, hz⟩ := pick_L q1 (by omega) 32 (by decide)
  by_cases e0 : z = 0
  · exact ⟨n, ops, _, _, hs, n0, n9, by omega, q4, by simp [q3]; omega, drST_a h1 h2 hN3 F0 F1 F2 hz e0⟩
  · by_cases e1 : z = 1
    · obtain ⟨G, R, hR, G0, G1, G2, G3⟩ := more_seq k3 (by omega) n ops hs (F N).L (F N).E q4 (by omega) (by omega)
      obtain ⟨a1, a2, a3, -⟩ := G1 R (Nat.le_refl _)
      exact ⟨n, ops, _, _, hs, n0, n9, by omega, a3, by omega, drST_c h1 h2 hN3 F0 F1 F2 hz e1 hR G0 G1 G2 G3⟩
    · exact ⟨n, ops, _, _, hs, n0, n9, by omega, q4, by omega, drST_b h1 h2 hN3 F0 F1 F2 hz e0 e1⟩
end Go.Proofs.Ytkdagmbgjddopaa
