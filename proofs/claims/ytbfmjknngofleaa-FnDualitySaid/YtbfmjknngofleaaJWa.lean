/- Walks: drawn posets. -/
import Derived.Test.YtbfmjknngofleaaJQe
import Derived.Test.YtbfmjknngofleaaJZb
namespace Go.Proofs.Ytbfmjknngofleaa
open Go Go.Pv Go.Proofs
attribute [local bitvec_to_nat] St.put St.setObj St.ev killP killA killP1 killH mapHO renP renA ren1 killG killGA killG1 krowP krowA krow1 lendP lendA lend1 unv pinP pin1 elemsM viewM viewN viewV n_set_z n_set_s n_map_c n_map_n getD_z getD_s n_toNat n_cond_t n_cond_f n_len_c n_len_n n_app_c n_app_n n_take_s n_take_z n_drop_s n_drop_z n_get_z n_get_s view viewA view1 elems Nat.zero_add Nat.add_zero Bool.not_true Bool.not_false Nat.one_ne_zero Nat.mul_one

theorem pairsIn_snoc {n : Nat} {ps : List (Int × Int)} {a b : Nat} (h : pairsIn n ps = true) (ha : a < n) (hb : b < n) (c : Bool) : pairsIn n (ps ++ (if c = true then [((a : Int), (b : Int))] else [])) = true := by
  unfold pairsIn at h ⊢
  rw [List.all_append, h, Bool.true_and]
  cases c with
  | false => rfl
  | true => simp; omega
theorem draw_row {c : Cu} {M : Int} (h : c.ok M) (hM : M ≤ 900000) (n x : Nat) (ps : List (Int × Int)) (hx : x < n) (hn : n ≤ 10) (hp : pairsIn n ps = true) :
    ∃ G : Nat → Cu × List (Int × Int), G 0 = (c, ps) ∧ (∀ k, k ≤ n - (x + 1) → (G k).1.ok (M + 2 * (k : Int)) ∧ pairsIn n (G k).2 = true ∧ (G k).2.length ≤ ps.length + k) ∧
      ∀ k, k < n - (x + 1) → ∃ b, LCalls Try.prog 41 (cuB (G k).1) [.hat 0 0, I 3] (cuB (G (k + 1)).1) (B b) ∧ (G (k + 1)).2 = (G k).2 ++ (if b = true then [((x : Int), ((x + 1 + k : Nat) : Int))] else []) := by
  refine seq_of (fun k s => s.1.ok (M + 2 * (k : Int)) ∧ pairsIn n s.2 = true ∧ s.2.length ≤ ps.length + k) (fun k s s' => ∃ b, LCalls Try.prog 41 (cuB s.1) [.hat 0 0, I 3] (cuB s'.1) (B b) ∧ s'.2 = s.2 ++ (if b = true then [((x : Int), ((x + 1 + k : Nat) : Int))] else [])) (c, ps) _ ⟨by simpa using h, hp, Nat.le_refl _⟩ fun k s hk ⟨h1, h2, h3⟩ => ?_
  obtain ⟨c', b, k1, hc⟩ := one_L h1 (by omega) 3 (by omega)
  refine ⟨(c', _), ⟨?_, pairsIn_snoc (a := x) (b := x + 1 + k) h2 hx (by omega) b, ?_⟩, b, hc, rfl⟩
  · rw [show M + 2 * ((k + 1 : Nat) : Int) = M + 2 * (k : Int) + 2 by omega]; exact k1
  · rw [List.length_append]; split <;> simp <;> omega
theorem draw_rows {c : Cu} {M : Int} (h : c.ok M) (hM : M ≤ 800000) (n : Nat) (hn : n ≤ 10) :
    ∃ F : Nat → Cu × List (Int × Int), F 0 = (c, []) ∧ (∀ x, x ≤ n → (F x).1.ok (M + 20 * (x : Int)) ∧ pairsIn n (F x).2 = true ∧ (F x).2.length ≤ 10 * x) ∧
      ∀ x, x < n → ∃ G : Nat → Cu × List (Int × Int), G 0 = F x ∧ G (n - (x + 1)) = F (x + 1) ∧ (∀ k, k ≤ n - (x + 1) → (G k).2.length ≤ 100) ∧
        ∀ k, k < n - (x + 1) → ∃ b, LCalls Try.prog 41 (cuB (G k).1) [.hat 0 0, I 3] (cuB (G (k + 1)).1) (B b) ∧ (G (k + 1)).2 = (G k).2 ++ (if b = true then [((x : Int), ((x + 1 + k : Nat) : Int))] else []) := by
  refine seq_of (fun x s => s.1.ok (M + 20 * (x : Int)) ∧ pairsIn n s.2 = true ∧ s.2.length ≤ 10 * x) (fun x s s' => ∃ G : Nat → Cu × List (Int × Int), G 0 = s ∧ G (n - (x + 1)) = s' ∧ (∀ k, k ≤ n - (x + 1) → (G k).2.length ≤ 100) ∧
        ∀ k, k < n - (x + 1) → ∃ b, LCalls Try.prog 41 (cuB (G k).1) [.hat 0 0, I 3] (cuB (G (k + 1)).1) (B b) ∧ (G (k + 1)).2 = (G k).2 ++ (if b = true then [((x : Int), ((x + 1 + k : Nat) : Int))] else [])) (c, []) n ⟨by simpa using h, rfl, Nat.zero_le _⟩ fun x s hx ⟨h1, h2, h3⟩ => ?_
  obtain ⟨G, G0, G1, G2⟩ := draw_row h1 (by omega) n x s.2 hx hn h2
  obtain ⟨e1, e2, e3⟩ := G1 _ (Nat.le_refl _)
  refine ⟨G (n - (x + 1)), ⟨e1.le (by omega), e2, by omega⟩, G, G0, rfl, fun k hk => ?_, G2⟩
  have := (G1 k hk).2.2
  omega
theorem mem_nat {n : Int} {l : List Int} (h : n ∈ l) (hl : l.all (fun x => decide (0 ≤ x ∧ x ≤ 9)) = true) : ∃ k : Nat, n = (k : Int) ∧ k ≤ 9 := by
  have := List.all_eq_true.1 hl n h
  simp at this
  exact ⟨n.toNat, by omega, by omega⟩
/-- Names that are given to pairs. -/
def renB (ns : List Int) (p : Int × Int) : Int × Int := (ns.getD p.1.toNat 0, ns.getD p.2.toNat 0)
def renI (ns : List Int) (ps : List (Int × Int)) (i : Nat) : List (Int × Int) := (ps.take i).map (renB ns) ++ ps.drop i
theorem renI_len (ns : List Int) (ps : List (Int × Int)) (i : Nat) : (renI ns ps i).length = ps.length := by simp [renI]; omega
theorem renI_at {ns : List Int} {ps : List (Int × Int)} {i : Nat} (h : i < ps.length) : (renI ns ps i)[i]? = some (ps.getD i (0, 0)) := by
  unfold renI
  rw [List.getElem?_append_right (by simp; omega)]
  have : i - ((ps.take i).map (renB ns)).length = 0 := by simp; omega
  rw [this, List.getElem?_drop]
  simp [h]
theorem renI_set {ns : List Int} {ps : List (Int × Int)} {i : Nat} (h : i < ps.length) : (renI ns ps i).set i (renB ns (ps.getD i (0, 0))) = renI ns ps (i + 1) := by
  have e1 : ps.drop i = ps.getD i (0, 0) :: ps.drop (i + 1) := by
    rw [List.drop_eq_getElem_cons h]
    simp [List.getD_eq_getElem?_getD, h]
  unfold renI
  rw [e1, List.set_append_right _ _ (by simp; omega), take_snoc (0, 0) h, List.map_append]
  have e2 : i - ((ps.take i).map (renB ns)).length = 0 := by simp; omega
  rw [e2]
  simp
theorem renI_all (ns : List Int) (ps : List (Int × Int)) : renI ns ps ps.length = ps.map (renB ns) := by simp [renI]
theorem ren_in {n : Nat} {ns : List Int} {ps : List (Int × Int)} (hs : permB ns n = true) (hp : pairsIn n ps = true) : pairsIn n (ps.map (renB ns)) = true := by
  unfold permB at hs
  simp only [Bool.and_eq_true, decide_eq_true_eq] at hs
  obtain ⟨⟨h1, h2⟩, -⟩ := hs
  unfold pairsIn
  rw [List.all_map, List.all_eq_true]
  intro p hm
  have := List.all_eq_true.1 hp p hm
  simp only [decide_eq_true_eq] at this
  have i1 := inSize_at h2 (i := p.1.toNat) (by omega)
  have i2 := inSize_at h2 (i := p.2.toNat) (by omega)
  refine decide_eq_true ?_
  show 0 ≤ ns.getD p.1.toNat 0 ∧ ns.getD p.1.toNat 0 < (n : Int) ∧ 0 ≤ ns.getD p.2.toNat 0 ∧ ns.getD p.2.toNat 0 < (n : Int)
  omega
/-! ### A number put into a rising list -/
def putK (l : List Int) (n : Int) : Nat := (l.takeWhile fun x => decide (x < n)).length
theorem putK_le (l : List Int) (n : Int) : putK l n ≤ l.length := by
  unfold putK
  induction l with
  | nil => simp
  | cons a l ih => rw [List.takeWhile_cons]; split <;> simp <;> omega
theorem putK_lt {l : List Int} {n : Int} : ∀ {k : Nat}, k < putK l n → l.getD k 0 < n := by
  unfold putK
  induction l with
  | nil => intro k h; simp at h
  | cons a l ih =>
    intro k h
    rw [List.takeWhile_cons] at h
    split at h
    · rename_i ha
      cases k with
      | zero => simpa using ha
      | succ k => simpa using ih (by simpa using h)
    · simp at h
theorem putK_ge {l : List Int} {n : Int} (h : putK l n < l.length) : ¬ l.getD (putK l n) 0 < n := by
  induction l with
  | nil => simp [putK] at h
  | cons a l ih =>
    unfold putK at h ⊢
    rw [List.takeWhile_cons] at h ⊢
    split
    · rename_i ha
      rw [if_pos ha] at h
      have := ih (by unfold putK; simpa using h)
      unfold putK at this
      simpa using this
    · rename_i ha
      simpa using ha
def putV (l : List Int) (n : Int) : List Int := if putK l n < l.length ∧ l.getD (putK l n) 0 = n then l else l.take (putK l n) ++ [n] ++ l.drop (putK l n)
theorem putV_len (l : List Int) (n : Int) : (putV l n).length ≤ l.length + 1 := by
  unfold putV
  split <;> simp
  omega
set_option maxHeartbeats 1000000 in
set_option maxRecDepth 100000 in
theorem sput_c (l : List Int) (n : Int) (hl : l.length ≤ 1048576) : PCalls Try.prog 72 [ints l, I n] (ints (putV l n)) := by
  refine pcalls1 Try.func72 rfl Try.ntmps72 rfl ?_
  simp only [List.length_cons, List.length_nil, Nat.reduceAdd, Nat.reduceSub, List.replicate_succ, List.replicate_zero, List.cons_append, List.nil_append]
  have hkl := putK_le l n
  repeat' (first
| refine g_seq ?_
| refine g_block ?_
| refine g_region ?_
| (refine o_go rfl ?_; (first
| refine p_p (ps_assign rfl) ?_); refine ⟨_, (by dsimp only [bitvec_to_nat, Nat.reduceAdd, Nat.reduceMul, Nat.reduceBEq, reduceCtorEq]), ?_⟩)
| refine o_nil ?_)
  refine g_loopT (α := Nat) (fun k => [(5, I (k : Int))]) (fun _ => []) (fun k => k ≤ putK l n) (fun k => putK l n - k) 0 (by simp only [havoc, dsts, List.filterMap_cons, List.filterMap_nil, List.foldl_cons, List.foldl_nil, List.cons_append, List.nil_append, List.append_nil, List.set_cons_succ, List.set_cons_zero]; exact rfl) (Nat.zero_le _) ⟨rfl, trivial⟩ rfl ?_
  rintro k hk
  dsimp only [setMany, List.set_cons_zero, List.set_cons_succ]
  by_cases hkK : k < putK l n
  · have hlt := putK_lt hkK
    repeat' (first
| refine g_seq ?_
| refine g_block ?_
| refine g_region ?_
| (refine o_go rfl ?_; (first
| refine p_p (ps_move rfl) ?_
| refine p_p (ps_assign rfl) ?_
| refine p_p (ps_load_cell rfl rfl) ?_
| refine p_p (ps_index rfl rfl rfl (by omega) (by first | exact idx_I (by omega) | exact idx_B (by omega) | exact idx_ints (by omega) | exact idx_bools (by omega) | exact idx_intss (by omega) | rfl) (by exact rfl)) ?_
| refine p_p (ps_lenM rfl rfl rfl) ?_
| refine p_p (ps_lss rfl rfl rfl) ?_
| refine p_p (ps_add rfl rfl rfl (by constructor <;> omega)) ?_
| refine p_p (ps_pick rfl rfl) ?_); refine ⟨_, (by dsimp only [bitvec_to_nat, Nat.reduceAdd, Nat.reduceMul, Nat.reduceBEq, reduceCtorEq]), ?_⟩)
| refine o_nil ?_
| (refine o_splitD rfl rfl rfl (fun hc => ?_) (fun hc => ?_) <;> first | (exfalso; omega) | dsimp only [List.set_cons_zero, List.set_cons_succ])
| (refine g_condD rfl (fun hc => ?_) (fun hc => ?_) <;> try (exfalso; omega))
| refine g_skip ?_)
    all_goals first | exact k_round (k + 1) (by omega) (by omega) (by repeat (first | exact trivial | refine ⟨.inl rfl, ?_⟩ | refine ⟨.inr rfl, ?_⟩)) ⟨rfl, trivial⟩ (by first | exact hpLe_nil _ | exact hpLe_refl _) | (exfalso; omega)
  · have hke : k = putK l n := by omega
    subst hke
    by_cases hkl2 : putK l n < l.length
    · have hge := putK_ge hkl2
      by_cases heq : l.getD (putK l n) 0 = n
      · have hpv : putV l n = l := by unfold putV; rw [if_pos ⟨hkl2, heq⟩]
        rw [hpv]
        repeat' (first
| refine g_seq ?_
| refine g_region ?_
| (refine o_go rfl ?_; (first
| refine p_p (ps_move rfl) ?_
| refine p_p (ps_assign rfl) ?_
| refine p_p (ps_load_cell rfl rfl) ?_
| refine p_p (ps_index rfl rfl rfl (by omega) (by first | exact idx_I (by omega) | exact idx_B (by omega) | exact idx_ints (by omega) | exact idx_bools (by omega) | exact idx_intss (by omega) | rfl) (by exact rfl)) ?_
| refine p_p (ps_lenM rfl rfl rfl) ?_
| refine p_p (ps_lss rfl rfl rfl) ?_
| refine p_p (ps_pick rfl rfl) ?_
| refine p_p (ps_eql rfl rfl rfl) ?_); refine ⟨_, (by dsimp only [bitvec_to_nat, Nat.reduceAdd, Nat.reduceMul, Nat.reduceBEq, reduceCtorEq]), ?_⟩)
| refine o_nil ?_
| (refine o_splitD rfl rfl rfl (fun hc => ?_) (fun hc => ?_) <;> first | (exfalso; omega) | dsimp only [List.set_cons_zero, List.set_cons_succ])
| (refine g_condD rfl (fun hc => ?_) (fun hc => ?_) <;> try (exfalso; omega))
| refine kr1 ?_
| refine krS rfl ?_
| refine g_exit ?_
| refine g_ret ?_)
        all_goals first | rfl | (exfalso; omega)
      · have hpv : putV l n = l.take (putK l n) ++ [n] ++ l.drop (putK l n) := by unfold putV; rw [if_neg (fun h => heq h.2)]
        rw [hpv]
        repeat' (first
| refine g_seq ?_
| refine g_region ?_
| (refine o_go rfl ?_; (first
| refine p_p (ps_move rfl) ?_
| refine p_p (ps_load_cell rfl rfl) ?_
| refine p_p (ps_index rfl rfl rfl (by omega) (by first | exact idx_I (by omega) | exact idx_B (by omega) | exact idx_ints (by omega) | exact idx_bools (by omega) | exact idx_intss (by omega) | rfl) (by exact rfl)) ?_
| refine p_p (ps_lenM rfl rfl rfl) ?_
| refine p_p (ps_lss rfl rfl rfl) ?_
| refine p_p (ps_pick rfl rfl) ?_
| refine p_p (ps_eql rfl rfl rfl) ?_); refine ⟨_, (by dsimp only [bitvec_to_nat, Nat.reduceAdd, Nat.reduceMul, Nat.reduceBEq, reduceCtorEq]), ?_⟩)
| refine o_nil ?_
| (refine o_splitD rfl rfl rfl (fun hc => ?_) (fun hc => ?_) <;> first | (exfalso; omega) | dsimp only [List.set_cons_zero, List.set_cons_succ])
| (refine g_condD rfl (fun hc => ?_) (fun hc => ?_) <;> try (exfalso; omega))
| refine g_skip ?_
| refine g_exit ?_)
        all_goals try (exfalso; omega)
        have ht : (l.take (putK l n)).length ≤ 1048576 := by rw [List.length_take]; omega
        have hd : (l.drop (putK l n)).length ≤ 1048576 := by rw [List.length_drop]; omega
        refine g_region_drawY [(1, some [0]), (2, some [0]), (3, some [0]), (5, some [0]), (6, some [0]), (8, some [0]), (9, some [0]), (10, some [0]), (0, none), (4, none), (7, none), (11, none), (12, none)] [(0, 0), (4, 0), (7, 0), (11, 0)] (by kernel_rfl) rfl (by kernel_rfl) ?_
        repeat' (first
| refine y_nil ?_
| ((first
| refine y_pure rfl rfl (fun _ => ps_sliceToM rfl rfl rfl (by omega) (by omega)) (by repeat (first | exact trivial | refine ⟨rfl, ?_⟩)) (by intro y hy; simp [Op.operands] at hy; first | (subst hy; repeat (first | exact trivial | refine ⟨rfl, ?_⟩)) | (rcases hy with rfl | rfl <;> repeat (first | exact trivial | refine ⟨rfl, ?_⟩))) ?_
| refine y_pure rfl rfl (fun _ => ps_sliceFromM rfl rfl rfl (by omega) (by omega)) (by repeat (first | exact trivial | refine ⟨rfl, ?_⟩)) (by intro y hy; simp [Op.operands] at hy; first | (subst hy; repeat (first | exact trivial | refine ⟨rfl, ?_⟩)) | (rcases hy with rfl | rfl <;> repeat (first | exact trivial | refine ⟨rfl, ?_⟩))) ?_
| refine y_pure rfl rfl (fun _ => ps_move rfl) (by repeat (first | exact trivial | refine ⟨rfl, ?_⟩)) (by intro y hy; simp [Op.operands] at hy; first | (subst hy; repeat (first | exact trivial | refine ⟨rfl, ?_⟩)) | (rcases hy with rfl | rfl <;> repeat (first | exact trivial | refine ⟨rfl, ?_⟩))) ?_
| refine y_pure rfl rfl (fun _ => ps_lit1 rfl rfl (by rfl) (by rfl)) (by repeat (first | exact trivial | refine ⟨rfl, ?_⟩)) (by intro y hy; simp [Op.operands] at hy; first | (subst hy; repeat (first | exact trivial | refine ⟨rfl, ?_⟩)) | (rcases hy with rfl | rfl <;> repeat (first | exact trivial | refine ⟨rfl, ?_⟩))) ?_
| refine y_eff rfl rfl (by first | exact trivial | exact .inl ⟨rfl, rfl⟩ | exact .inr (.inl ⟨rfl, rfl⟩) | exact .inr (.inr (.inl ⟨rfl, rfl⟩)) | exact .inr (.inr (.inr (.inl ⟨rfl, rfl⟩)))) (j_lit0 rfl (by decide)) ?_
| refine y_eff rfl rfl (by first | exact trivial | exact .inl ⟨rfl, rfl⟩ | exact .inr (.inl ⟨rfl, rfl⟩) | exact .inr (.inr (.inl ⟨rfl, rfl⟩)) | exact .inr (.inr (.inr (.inl ⟨rfl, rfl⟩)))) (j_pure (ps_assign rfl)) ?_
| refine y_eff rfl rfl (by first | exact trivial | exact .inl ⟨rfl, rfl⟩ | exact .inr (.inl ⟨rfl, rfl⟩) | exact .inr (.inr (.inl ⟨rfl, rfl⟩)) | exact .inr (.inr (.inr (.inl ⟨rfl, rfl⟩)))) (j_append rfl rfl rfl rfl rfl rfl (by first | exact one_one rfl | exact one_map (fun _ => rfl) _) rfl (by first | omega | (simp; done) | (simp; omega)) (by first | omega | (simp; done) | (simp; omega))) ?_); refine ⟨_, (by dsimp only [appJ, killO, bitvec_to_nat, Nat.reduceAdd, Nat.reduceMul, Nat.reduceBEq, reduceCtorEq]), ?_⟩))
        repeat' (first
| refine kr1 ?_
| refine krS rfl ?_
| refine g_ret ?_)
        simp
    · have hpv : putV l n = l.take (putK l n) ++ [n] ++ l.drop (putK l n) := by unfold putV; rw [if_neg (fun h => hkl2 h.1)]
      rw [hpv]
      repeat' (first
| refine g_seq ?_
| refine g_region ?_
| (refine o_go rfl ?_; (first
| refine p_p (ps_move rfl) ?_
| refine p_p (ps_lenM rfl rfl rfl) ?_
| refine p_p (ps_lss rfl rfl rfl) ?_
| refine p_p (ps_pick rfl rfl) ?_); refine ⟨_, (by dsimp only [bitvec_to_nat, Nat.reduceAdd, Nat.reduceMul, Nat.reduceBEq, reduceCtorEq]), ?_⟩)
| refine o_nil ?_
| (refine o_s rfl ?_; refine ⟨_, (by dsimp only [bitvec_to_nat, Nat.reduceAdd, Nat.reduceMul, Nat.reduceBEq, reduceCtorEq]), ?_⟩)
| (refine o_splitD rfl rfl rfl (fun hc => ?_) (fun hc => ?_) <;> first | (exfalso; omega) | dsimp only [List.set_cons_zero, List.set_cons_succ])
| refine g_condF rfl ?_
| refine g_skip ?_
| refine g_exit ?_)
      all_goals try (exfalso; omega)
      have ht : (l.take (putK l n)).length ≤ 1048576 := by rw [List.length_take]; omega
      have hd : (l.drop (putK l n)).length ≤ 1048576 := by rw [List.length_drop]; omega
      refine g_region_drawY [(1, some [0]), (2, some [0]), (3, some [0]), (5, some [0]), (6, some [0]), (8, some [0]), (9, some [0]), (10, some [0]), (0, none), (4, none), (7, none), (11, none), (12, none)] [(0, 0), (4, 0), (7, 0), (11, 0)] (by kernel_rfl) rfl (by kernel_rfl) ?_
      repeat' (first
| refine y_nil ?_
| ((first
| refine y_pure rfl rfl (fun _ => ps_sliceToM rfl rfl rfl (by omega) (by omega)) (by repeat (first | exact trivial | refine ⟨rfl, ?_⟩)) (by intro y hy; simp [Op.operands] at hy; first | (subst hy; repeat (first | exact trivial | refine ⟨rfl, ?_⟩)) | (rcases hy with rfl | rfl <;> repeat (first | exact trivial | refine ⟨rfl, ?_⟩))) ?_
| refine y_pure rfl rfl (fun _ => ps_sliceFromM rfl rfl rfl (by omega) (by omega)) (by repeat (first | exact trivial | refine ⟨rfl, ?_⟩)) (by intro y hy; simp [Op.operands] at hy; first | (subst hy; repeat (first | exact trivial | refine ⟨rfl, ?_⟩)) | (rcases hy with rfl | rfl <;> repeat (first | exact trivial | refine ⟨rfl, ?_⟩))) ?_
| refine y_pure rfl rfl (fun _ => ps_move rfl) (by repeat (first | exact trivial | refine ⟨rfl, ?_⟩)) (by intro y hy; simp [Op.operands] at hy; first | (subst hy; repeat (first | exact trivial | refine ⟨rfl, ?_⟩)) | (rcases hy with rfl | rfl <;> repeat (first | exact trivial | refine ⟨rfl, ?_⟩))) ?_
| refine y_pure rfl rfl (fun _ => ps_lit1 rfl rfl (by rfl) (by rfl)) (by repeat (first | exact trivial | refine ⟨rfl, ?_⟩)) (by intro y hy; simp [Op.operands] at hy; first | (subst hy; repeat (first | exact trivial | refine ⟨rfl, ?_⟩)) | (rcases hy with rfl | rfl <;> repeat (first | exact trivial | refine ⟨rfl, ?_⟩))) ?_
| refine y_eff rfl rfl (by first | exact trivial | exact .inl ⟨rfl, rfl⟩ | exact .inr (.inl ⟨rfl, rfl⟩) | exact .inr (.inr (.inl ⟨rfl, rfl⟩)) | exact .inr (.inr (.inr (.inl ⟨rfl, rfl⟩)))) (j_lit0 rfl (by decide)) ?_
| refine y_eff rfl rfl (by first | exact trivial | exact .inl ⟨rfl, rfl⟩ | exact .inr (.inl ⟨rfl, rfl⟩) | exact .inr (.inr (.inl ⟨rfl, rfl⟩)) | exact .inr (.inr (.inr (.inl ⟨rfl, rfl⟩)))) (j_pure (ps_assign rfl)) ?_
| refine y_eff rfl rfl (by first | exact trivial | exact .inl ⟨rfl, rfl⟩ | exact .inr (.inl ⟨rfl, rfl⟩) | exact .inr (.inr (.inl ⟨rfl, rfl⟩)) | exact .inr (.inr (.inr (.inl ⟨rfl, rfl⟩)))) (j_append rfl rfl rfl rfl rfl rfl (by first | exact one_one rfl | exact one_map (fun _ => rfl) _) rfl (by first | omega | (simp; done) | (simp; omega)) (by first | omega | (simp; done) | (simp; omega))) ?_); refine ⟨_, (by dsimp only [appJ, killO, bitvec_to_nat, Nat.reduceAdd, Nat.reduceMul, Nat.reduceBEq, reduceCtorEq]), ?_⟩))
      repeat' (first
| refine kr1 ?_
| refine krS rfl ?_
| refine g_ret ?_)
      simp
theorem g_thawI {c : Code} {K : Exit → St → Prop} {S : St} (n : Nat) {rows : List (List Int)} (hn : S.hp[n]? = some (gridI rows)) (h : ∃ S', St.mk S.fr (S.hp.set n (.arr true 1 27 (rows.map ints))) = S' ∧ Goal Try.prog c K S') : Goal Try.prog c K S := by
  refine g_thaw n hn ?_
  obtain ⟨S', e, h⟩ := h
  refine ⟨S', ?_, h⟩
  rw [← e, List.map_map]; rfl
theorem idx_rowI {R : List (List Int)} {k : Nat} (h : k < R.length) : (R.map fun r => r.map I)[k]? = some ((R.getD k []).map I) := by simp [h]
theorem first_fail (p : Nat → Bool) : ∀ n, ∀ m, m ≤ n → p m = false → ∃ K, K ≤ m ∧ (∀ k, k < K → p k = true) ∧ p K = false
  | 0, m, hm, h => ⟨m, Nat.le_refl _, fun k hk => absurd hk (by omega), h⟩
  | n + 1, m, hm, h => by
    by_cases hex : ∃ j, j < m ∧ p j = false
    · obtain ⟨j, hj, hpj⟩ := hex
      obtain ⟨K, h1, h2, h3⟩ := first_fail p n j (by omega) hpj
      exact ⟨K, by omega, h2, h3⟩
    · refine ⟨m, Nat.le_refl _, fun k hk => ?_, h⟩
      cases hk' : p k with
      | true => rfl
      | false => exact absurd ⟨k, hk, hk'⟩ hex
/-- Rows that are added at the end, each with its own number. -/
def ownR (R : List (List Int)) (k : Nat) : List (List Int) := R ++ (List.range k).map fun i => [((R.length + i : Nat) : Int)]
theorem ownR_succ (R : List (List Int)) (k : Nat) : ownR R (k + 1) = ownR R k ++ [[((R.length + k : Nat) : Int)]] := by unfold ownR; rw [List.range_succ]; simp
theorem ownR_len (R : List (List Int)) (k : Nat) : (ownR R k).length = R.length + k := by simp [ownR]
set_option maxHeartbeats 8000000 in
set_option maxRecDepth 100000 in
theorem poset_w {c c1 c3 c4 c5 c6 c7 c8 c' : Cu} {n xv : Nat} {b4 b5 : Bool} {y z : Int} {ns : List Int} {qs : List (Int × Int)} {rows' : List (List Int)} {F : Nat → Cu × List (Int × Int)} (hn : n ≤ 9) (ha : LCalls Try.prog 48 (cuB c) [.hat 0 0, ints [0, 1, 2, 3, 4, 4, 5, 5, 6, 7]] (cuB c1) (I (n : Int))) (F0 : F 0 = (c1, []))
    (F2 : ∀ x, x < n → ∃ G : Nat → Cu × List (Int × Int), G 0 = F x ∧ G (n - (x + 1)) = F (x + 1) ∧ (∀ k, k ≤ n - (x + 1) → (G k).2.length ≤ 100) ∧
        ∀ k, k < n - (x + 1) → ∃ b, LCalls Try.prog 41 (cuB (G k).1) [.hat 0 0, I 3] (cuB (G (k + 1)).1) (B b) ∧ (G (k + 1)).2 = (G k).2 ++ (if b = true then [((x : Int), ((x + 1 + k : Nat) : Int))] else []))
    (hps : pairsIn n (F n).2 = true) (hpl : (F n).2.length ≤ 100) (hns : LCalls Try.prog 65 (cuB (F n).1) [.hat 0 0, I (n : Int)] (cuB c3) (ints ns)) (hnl : ns.length ≤ 100)
    (h4 : permB ns n = true → LCalls Try.prog 41 (cuB c3) [.hat 0 0, I 2] (cuB c4) (B b4)) (h4' : permB ns n = false → c4 = c3 ∧ b4 = false) (hqt : b4 = true → qs = (F n).2.map (renB ns)) (hqf : b4 = false → qs = (F n).2) (hqi : pairsIn n qs = true) (hql : qs.length ≤ 100)
    (l0 : n = 0 → c' = c4 ∧ rows' = frV n qs) (l1 : n ≠ 0 → LCalls Try.prog 41 (cuB c4) [.hat 0 0, I 16] (cuB c5) (B b5)) (l2 : n ≠ 0 → b5 = false → c' = c5 ∧ rows' = frV n qs)
    (l3 : n ≠ 0 → b5 = true → xv < n ∧ 1 ≤ ((frV n qs).getD xv []).length ∧ ((frV n qs).getD xv []).length ≤ 10 ∧ LCalls Try.prog 45 (cuB c5) [.hat 0 0, I (n : Int)] (cuB c6) (I (xv : Int)) ∧ LCalls Try.prog 45 (cuB c6) [.hat 0 0, I 4] (cuB c7) (I y) ∧ 0 ≤ y ∧ y < 4)
    (l4 : n ≠ 0 → b5 = true → y = 0 → c' = c7 ∧ rows' = (frV n qs).set xv (((frV n qs).getD xv []).drop 1))
    (l5 : n ≠ 0 → b5 = true → y = 1 → c' = c7 ∧ rows' = (frV n qs).set xv ((frV n qs).getD xv [] ++ [(n : Int)]))
    (l6 : n ≠ 0 → b5 = true → y = 2 → LCalls Try.prog 45 (cuB c7) [.hat 0 0, I (n : Int)] (cuB c8) (I z) ∧ c' = c8 ∧ rows' = (frV n qs).set xv (putV ((frV n qs).getD xv []) z))
    (l7 : n ≠ 0 → b5 = true → y = 3 → ∃ (D : Nat → Cu) (V : Nat → Int) (N : Nat), D 0 = c7 ∧ N ≤ 12 ∧ (∀ k, k ≤ N → 0 ≤ V k ∧ V k ≤ 1 ∧ LCalls Try.prog 45 (cuB (D k)) [.hat 0 0, I 2] (cuB (D (k + 1))) (I (V k))) ∧ (∀ k, k < N → ((n + k : Nat) : Int) < 10 + V k) ∧ ¬ ((n + N : Nat) : Int) < 10 + V N ∧ c' = D (N + 1) ∧ rows' = ownR (frV n qs) N) : LCalls Try.prog 43 (cuB c) [.hat 0 0] (cuB c') (posetP rows') := by
  refine pcallsLC Try.func43 rfl Try.ntmps43 rfl rfl rfl (by simp) fun b d => ?_
  simp only [List.length_cons, List.length_nil, Nat.reduceAdd, Nat.reduceSub, List.replicate_succ, List.replicate_zero]
  repeat' (first
| refine g_seq ?_
| refine g_block ?_
| refine g_region ?_
| (refine o_go rfl ?_; (first
| refine p_e rfl (e_callL (n := 0) rfl rfl rfl (by (repeat (first | refine ⟨leS_refl _, ?_⟩ | refine ⟨leS_nn _ _ _, ?_⟩ | refine ⟨leS_nil _, ?_⟩ | refine ⟨leS_any _, ?_⟩)); exact trivial) rfl (by rfl) (by first | exact ⟨rfl, rfl, rfl, by simp⟩ | exact ⟨rfl, rfl, by simp⟩ | trivial) (ha)) ?_
| refine p_e rfl (e_lit0T rfl (by decide)) ?_
| refine p_p (ps_lits rfl (by exact rfl) (by exact rfl) (by repeat (first | exact trivial | refine ⟨⟨_, rfl, rfl⟩, ?_⟩)) (by decide) (by decide)) ?_
| refine p_p (ps_move rfl) ?_
| refine p_p (ps_assign rfl) ?_
| refine p_e rfl (e_alloc rfl) ?_); refine ⟨_, (by dsimp only [bitvec_to_nat, Nat.reduceAdd, Nat.reduceMul, Nat.reduceBEq, reduceCtorEq]), ?_⟩)
| refine o_nil ?_)
  refine g_loopF (α := Nat) [14] (fun x => [(4, .hp 2), (5, I (x : Int))]) (fun x => [cuB (F x).1, .box [nilV], .arr true 2 79 ((F x).2.map pairP)]) (fun x => x ≤ n) (fun x => n - x) 0 (by simp only [havoc, dsts, List.filterMap_cons, List.filterMap_nil, List.foldl_cons, List.foldl_nil, List.cons_append, List.nil_append, List.append_nil, List.set_cons_succ, List.set_cons_zero]; exact rfl) (Nat.zero_le _) ⟨rfl, rfl, trivial⟩ (by rw [F0]; rfl) ?_
  rintro x hx
  dsimp only [setMany, List.set_cons_zero, List.set_cons_succ]
  by_cases hxn : x < n
  · obtain ⟨G, G0, G1, G2, G3⟩ := F2 x hxn
    repeat' (first
| refine g_seq ?_
| refine g_block ?_
| refine g_region ?_
| (refine o_go rfl ?_; (first
| refine p_p (ps_move rfl) ?_
| refine p_p (ps_assign rfl) ?_
| refine p_p (ps_lss rfl rfl rfl) ?_
| refine p_p (ps_add rfl rfl rfl (by constructor <;> omega)) ?_); refine ⟨_, (by dsimp only [bitvec_to_nat, Nat.reduceAdd, Nat.reduceMul, Nat.reduceBEq, reduceCtorEq]), ?_⟩)
| refine o_nil ?_
| (refine g_condD rfl (fun hc => ?_) (fun hc => ?_) <;> try (exfalso; omega))
| refine g_skip ?_)
    refine g_loopF (α := Nat) [] (fun k => [(4, .hp 2), (6, I ((x + 1 + k : Nat) : Int))]) (fun k => [cuB (G k).1, .box [nilV], .arr true 2 79 ((G k).2.map pairP)]) (fun k => k ≤ n - (x + 1)) (fun k => n - (x + 1) - k) 0 (by simp only [havoc, dsts, List.filterMap_cons, List.filterMap_nil, List.foldl_cons, List.foldl_nil, List.cons_append, List.nil_append, List.append_nil, List.set_cons_succ, List.set_cons_zero]; exact rfl) (Nat.zero_le _) ⟨rfl, rfl, trivial⟩ (by rw [G0]) ?_
    rintro k hk
    dsimp only [setMany, List.set_cons_zero, List.set_cons_succ]
    by_cases hkn : k < n - (x + 1)
    · obtain ⟨bb, hone, hG⟩ := G3 k hkn
      have hgl : ((G k).2.map pairP).length ≤ 100 := by rw [List.length_map]; exact G2 k hk
      cases bb with
      | false =>
        repeat' (first
| refine g_seq ?_
| refine g_block ?_
| refine g_region ?_
| (refine o_go rfl ?_; (first
| refine p_e rfl (e_callL (n := 0) rfl rfl rfl (by (repeat (first | refine ⟨leS_refl _, ?_⟩ | refine ⟨leS_nn _ _ _, ?_⟩ | refine ⟨leS_nil _, ?_⟩ | refine ⟨leS_any _, ?_⟩)); exact trivial) rfl (by rfl) (by first | exact ⟨rfl, rfl, rfl, by simp⟩ | exact ⟨rfl, rfl, by simp⟩ | trivial) (hone)) ?_
| refine p_p (ps_move rfl) ?_
| refine p_p (ps_assign rfl) ?_
| refine p_p (ps_lss rfl rfl rfl) ?_
| refine p_p (ps_add rfl rfl rfl (by constructor <;> omega)) ?_); refine ⟨_, (by dsimp only [bitvec_to_nat, Nat.reduceAdd, Nat.reduceMul, Nat.reduceBEq, reduceCtorEq]), ?_⟩)
| refine o_nil ?_
| refine g_condF rfl ?_
| (refine g_condD rfl (fun hc => ?_) (fun hc => ?_) <;> try (exfalso; omega))
| refine g_skip ?_)
        refine k_round (k + 1) (by omega) (by omega) (by repeat (first | exact trivial | refine ⟨.inl rfl, ?_⟩ | refine ⟨.inr rfl, ?_⟩)) ⟨rfl, rfl, trivial⟩ (hpLe_cons rfl (hpLe_cons rfl (hpLe_cons ?_ (hpLe_nil _))))
        rw [hG]; simp
      | true =>
        repeat' (first
| refine g_seq ?_
| refine g_block ?_
| refine g_region ?_
| (refine o_go rfl ?_; (first
| refine p_e rfl (e_callL (n := 0) rfl rfl rfl (by (repeat (first | refine ⟨leS_refl _, ?_⟩ | refine ⟨leS_nn _ _ _, ?_⟩ | refine ⟨leS_nil _, ?_⟩ | refine ⟨leS_any _, ?_⟩)); exact trivial) rfl (by rfl) (by first | exact ⟨rfl, rfl, rfl, by simp⟩ | exact ⟨rfl, rfl, by simp⟩ | trivial) (hone)) ?_
| refine p_p (ps_buildArr rfl rfl) ?_
| refine p_p (ps_lits rfl (by exact rfl) (by exact rfl) (by repeat (first | exact trivial | refine ⟨⟨_, rfl, rfl⟩, ?_⟩)) (by decide) (by decide)) ?_
| refine p_e rfl (e_append rfl rfl rfl rfl rfl rfl (by intro p hp c hc; simp at hp; subst hp; cases hc; rfl) rfl (by rw [n_len_c, n_len_n]; omega) (by rw [n_len_c, n_len_n]; omega)) ?_
| refine p_p (ps_move rfl) ?_
| refine p_p (ps_assign rfl) ?_
| refine p_p (ps_lss rfl rfl rfl) ?_
| refine p_p (ps_add rfl rfl rfl (by constructor <;> omega)) ?_); refine ⟨_, (by dsimp only [bitvec_to_nat, Nat.reduceAdd, Nat.reduceMul, Nat.reduceBEq, reduceCtorEq]), ?_⟩)
| refine o_nil ?_
| refine g_condT rfl ?_
| (refine g_condD rfl (fun hc => ?_) (fun hc => ?_) <;> try (exfalso; omega))
| refine g_skip ?_)
        refine k_round (k + 1) (by omega) (by omega) (by repeat (first | exact trivial | refine ⟨.inl rfl, ?_⟩ | refine ⟨.inr rfl, ?_⟩)) ⟨rfl, rfl, trivial⟩ (hpLe_cons rfl (hpLe_cons rfl (hpLe_cons ?_ (hpLe_nil _))))
        rw [hG]; simp
    · repeat' (first
| refine g_seq ?_
| refine g_region ?_
| (refine o_go rfl ?_; (first
| refine p_p (ps_move rfl) ?_
| refine p_p (ps_assign rfl) ?_
| refine p_p (ps_lss rfl rfl rfl) ?_
| refine p_p (ps_add rfl rfl rfl (by constructor <;> omega)) ?_); refine ⟨_, (by dsimp only [bitvec_to_nat, Nat.reduceAdd, Nat.reduceMul, Nat.reduceBEq, reduceCtorEq]), ?_⟩)
| refine o_nil ?_
| (refine g_condD rfl (fun hc => ?_) (fun hc => ?_) <;> try (exfalso; omega))
| refine g_exit ?_)
      refine k_round (x + 1) (by omega) (by omega) (by repeat (first | exact trivial | refine ⟨.inl rfl, ?_⟩ | refine ⟨.inr rfl, ?_⟩)) ⟨rfl, rfl, trivial⟩ (hpLe_cons ?_ (hpLe_cons rfl (hpLe_cons ?_ (hpLe_nil _))))
      · rw [show k = n - (x + 1) by omega, G1]
      · rw [show k = n - (x + 1) by omega, G1]
  · have hxe : x = n := by omega
    subst hxe
    have hpm := perm_c ns x (by omega) (by omega)
    iterate 17 (first
| refine g_seq ?_
| refine g_region ?_
| (refine o_go rfl ?_; (first
| refine p_e rfl (e_callL (n := 0) rfl rfl rfl (by (repeat (first | refine ⟨leS_refl _, ?_⟩ | refine ⟨leS_nn _ _ _, ?_⟩ | refine ⟨leS_nil _, ?_⟩ | refine ⟨leS_any _, ?_⟩)); exact trivial) rfl (by rfl) (by first | exact ⟨rfl, rfl, rfl, by simp⟩ | exact ⟨rfl, rfl, by simp⟩ | trivial) (hns)) ?_
| refine p_p (ps_move rfl) ?_
| refine p_p (ps_assign rfl) ?_
| refine p_p (ps_lss rfl rfl rfl) ?_); refine ⟨_, (by dsimp only [bitvec_to_nat, Nat.reduceAdd, Nat.reduceMul, Nat.reduceBEq, reduceCtorEq]), ?_⟩)
| refine o_nil ?_
| (refine g_condD rfl (fun hc => ?_) (fun hc => ?_) <;> try (exfalso; omega))
| refine g_exit ?_)
    refine g_joinK [] [] [cuB c4, .box [nilV], .arr true 2 79 (qs.map pairP)] (by simp only [havoc, dsts, List.filterMap_cons, List.filterMap_nil, List.foldl_cons, List.foldl_nil, List.cons_append, List.nil_append, List.append_nil, List.set_cons_succ, List.set_cons_zero]; exact rfl) ?_ ⟨_, rfl, ?_⟩
    · cases hpb : permB ns x with
      | false =>
        obtain ⟨rfl, rfl⟩ := h4' hpb
        rw [hpb] at hpm
        repeat' (first
| refine g_seq ?_
| refine g_region ?_
| (refine o_go rfl ?_; (first
| refine p_p (ps_call rfl rfl (by (repeat (first | refine ⟨PV.le_refl _, ?_⟩ | refine ⟨PV.le_nn _ _ _, ?_⟩ | refine ⟨PV.le_nil _, ?_⟩ | refine ⟨PV.le_any _, ?_⟩)); exact trivial) (hpm)) ?_
| refine p_p (ps_move rfl) ?_
| refine p_p (ps_pick rfl rfl) ?_); refine ⟨_, (by dsimp only [bitvec_to_nat, Nat.reduceAdd, Nat.reduceMul, Nat.reduceBEq, reduceCtorEq]), ?_⟩)
| refine o_nil ?_
| (refine o_s rfl ?_; refine ⟨_, (by dsimp only [bitvec_to_nat, Nat.reduceAdd, Nat.reduceMul, Nat.reduceBEq, reduceCtorEq]), ?_⟩)
| refine g_condF rfl ?_
| refine g_skip ?_)
        refine k_join (by repeat (first | exact trivial | refine ⟨.inl rfl, ?_⟩ | refine ⟨.inr rfl, ?_⟩)) trivial (hpLe_cons rfl (hpLe_cons rfl (hpLe_cons ?_ (hpLe_nil _))))
        rw [hqf rfl]
      | true =>
        have h4 := h4 hpb
        rw [hpb] at hpm
        cases b4 with
        | false =>
          repeat' (first
| refine g_seq ?_
| refine g_region ?_
| (refine o_go rfl ?_; (first
| refine p_p (ps_call rfl rfl (by (repeat (first | refine ⟨PV.le_refl _, ?_⟩ | refine ⟨PV.le_nn _ _ _, ?_⟩ | refine ⟨PV.le_nil _, ?_⟩ | refine ⟨PV.le_any _, ?_⟩)); exact trivial) (hpm)) ?_
| refine p_e rfl (e_callL (n := 0) rfl rfl rfl (by (repeat (first | refine ⟨leS_refl _, ?_⟩ | refine ⟨leS_nn _ _ _, ?_⟩ | refine ⟨leS_nil _, ?_⟩ | refine ⟨leS_any _, ?_⟩)); exact trivial) rfl (by rfl) (by first | exact ⟨rfl, rfl, rfl, by simp⟩ | exact ⟨rfl, rfl, by simp⟩ | trivial) (h4)) ?_
| refine p_p (ps_move rfl) ?_
| refine p_p (ps_pick rfl rfl) ?_); refine ⟨_, (by dsimp only [bitvec_to_nat, Nat.reduceAdd, Nat.reduceMul, Nat.reduceBEq, reduceCtorEq]), ?_⟩)
| refine o_nil ?_
| refine g_condF rfl ?_
| refine g_skip ?_)
          refine k_join (by repeat (first | exact trivial | refine ⟨.inl rfl, ?_⟩ | refine ⟨.inr rfl, ?_⟩)) trivial (hpLe_cons rfl (hpLe_cons rfl (hpLe_cons ?_ (hpLe_nil _))))
          rw [hqf rfl]
        | true =>
          have hqe := hqt rfl
          generalize hps0 : (F x).2 = ps at *
          repeat' (first
| refine g_seq ?_
| refine g_block ?_
| refine g_region ?_
| (refine o_go rfl ?_; (first
| refine p_p (ps_call rfl rfl (by (repeat (first | refine ⟨PV.le_refl _, ?_⟩ | refine ⟨PV.le_nn _ _ _, ?_⟩ | refine ⟨PV.le_nil _, ?_⟩ | refine ⟨PV.le_any _, ?_⟩)); exact trivial) (hpm)) ?_
| refine p_e rfl (e_callL (n := 0) rfl rfl rfl (by (repeat (first | refine ⟨leS_refl _, ?_⟩ | refine ⟨leS_nn _ _ _, ?_⟩ | refine ⟨leS_nil _, ?_⟩ | refine ⟨leS_any _, ?_⟩)); exact trivial) rfl (by rfl) (by first | exact ⟨rfl, rfl, rfl, by simp⟩ | exact ⟨rfl, rfl, by simp⟩ | trivial) (h4)) ?_
| refine p_p (ps_move rfl) ?_
| refine p_p (ps_assign rfl) ?_
| refine p_p (ps_pick rfl rfl) ?_); refine ⟨_, (by dsimp only [bitvec_to_nat, Nat.reduceAdd, Nat.reduceMul, Nat.reduceBEq, reduceCtorEq]), ?_⟩)
| refine o_nil ?_
| refine g_condT rfl ?_)
          refine g_loopT (α := Nat) (fun i => [(8, I (i : Int))]) (fun i => [cuB c4, .box [nilV], .arr true 2 79 ((renI ns ps i).map pairP)]) (fun i => i ≤ ps.length) (fun i => ps.length - i) 0 (by simp only [havoc, dsts, List.filterMap_cons, List.filterMap_nil, List.foldl_cons, List.foldl_nil, List.cons_append, List.nil_append, List.append_nil, List.set_cons_succ, List.set_cons_zero]; exact rfl) (Nat.zero_le _) ⟨rfl, trivial⟩ rfl ?_
          rintro i hi
          dsimp only [setMany, List.set_cons_zero, List.set_cons_succ]
          have hrl : ((renI ns ps i).map pairP).length = ps.length := by rw [List.length_map, renI_len]
          by_cases hin : i < ps.length
          · have hix : ((renI ns ps i).map pairP)[i]? = some (pairP (ps.getD i (0, 0))) := by rw [List.getElem?_map, renI_at hin]; rfl
            obtain ⟨p0, p1, p2, p3⟩ := pairsIn_at hps i hin
            have hnl2 : ns.length = x := by
              have hpb' := hpb
              unfold permB at hpb'
              simp only [Bool.and_eq_true, decide_eq_true_eq] at hpb'
              omega
            repeat' (first
| refine g_seq ?_
| refine g_block ?_
| refine g_region ?_
| refine g_region_draw (by kernel_rfl) (by kernel_rfl) ?_
| (refine o_go rfl ?_; (first
| refine p_p (ps_index_mut rfl rfl rfl rfl (by omega) (by omega)) ?_
| refine p_p (ps_index_hatarr rfl rfl rfl (by decide) (by decide)) ?_
| refine p_p (ps_load_arrS (i := i) (j := 0) rfl rfl rfl (by omega) hix rfl rfl) ?_
| refine p_p (ps_load_arrS (i := i) (j := 1) rfl rfl rfl (by omega) hix rfl rfl) ?_
| refine p_p (ps_buildArr rfl rfl) ?_
| refine p_e (by kernel_rfl) (e_store_arrS rfl rfl rfl rfl rfl (by omega) rfl rfl rfl rfl) ?_
| refine p_p (ps_move rfl) ?_
| refine p_p (ps_assign rfl) ?_
| refine p_p (ps_load_cell rfl rfl) ?_
| refine p_p (ps_index rfl rfl rfl (by omega) (by first | exact idx_I (by omega) | exact idx_B (by omega) | exact idx_ints (by omega) | exact idx_bools (by omega) | exact idx_intss (by omega) | rfl) (by exact rfl)) ?_
| refine p_p (ps_lss rfl rfl rfl) ?_
| refine p_p (ps_add rfl rfl rfl (by constructor <;> omega)) ?_
| refine p_p (ps_len_mut rfl rfl rfl rfl) ?_); refine ⟨_, (by dsimp only [bitvec_to_nat, Nat.reduceAdd, Nat.reduceMul, Nat.reduceBEq, reduceCtorEq]), ?_⟩)
| refine o_nil ?_
| (refine g_condD rfl (fun hc => ?_) (fun hc => ?_) <;> try (exfalso; omega))
| refine g_skip ?_)
            refine k_round (i + 1) (by omega) (by omega) (by repeat (first | exact trivial | refine ⟨.inl rfl, ?_⟩ | refine ⟨.inr rfl, ?_⟩)) ⟨rfl, trivial⟩ (hpLe_cons rfl (hpLe_cons rfl (hpLe_cons ?_ (hpLe_nil _))))
            rw [← renI_set hin, List.map_set]; rfl
          · repeat' (first
| refine g_seq ?_
| refine g_region ?_
| (refine o_go rfl ?_; (first
| refine p_p (ps_move rfl) ?_
| refine p_p (ps_lss rfl rfl rfl) ?_
| refine p_p (ps_len_mut rfl rfl rfl rfl) ?_); refine ⟨_, (by dsimp only [bitvec_to_nat, Nat.reduceAdd, Nat.reduceMul, Nat.reduceBEq, reduceCtorEq]), ?_⟩)
| refine o_nil ?_
| (refine g_condD rfl (fun hc => ?_) (fun hc => ?_) <;> try (exfalso; omega))
| refine g_exit ?_)
            all_goals try (exfalso; omega)
            change St.le _ _
            refine k_joinL (vals := []) (by repeat (first | exact trivial | refine ⟨.inl rfl, ?_⟩ | refine ⟨.inr rfl, ?_⟩)) trivial (hpLe_cons rfl (hpLe_cons rfl (hpLe_cons ?_ (hpLe_nil _))))
            rw [show i = ps.length by omega, renI_all, hqe]
    · dsimp only [setMany, List.set_cons_zero, List.set_cons_succ]
      have hfr := from_R x qs (by omega) (by omega) hqi
      by_cases hx0 : x = 0
      · obtain ⟨rfl, rfl⟩ := l0 hx0
        repeat' (first
| refine g_seq ?_
| refine g_region ?_
| (refine o_go rfl ?_; (first
| refine p_e rfl (e_callR rfl rfl (by (repeat (first | refine ⟨PV.le_refl _, ?_⟩ | refine ⟨PV.le_nn _ _ _, ?_⟩ | refine ⟨PV.le_nil _, ?_⟩ | refine ⟨PV.le_any _, ?_⟩)); exact trivial) rfl (hfr)) ?_
| refine p_p (ps_move rfl) ?_
| refine p_p (ps_pick rfl rfl) ?_
| refine p_p (ps_eql rfl rfl rfl) ?_
| refine p_p (ps_load_boxA rfl rfl rfl (by exact Nat.le_of_ble_eq_true rfl)) ?_
| refine p_e rfl (e_store_boxA rfl rfl rfl rfl (by exact Nat.le_of_ble_eq_true rfl) rfl rfl rfl) ?_
| refine p_e rfl (e_alloc rfl) ?_); refine ⟨_, (by dsimp only [bitvec_to_nat, Nat.reduceAdd, Nat.reduceMul, Nat.reduceBEq, reduceCtorEq]), ?_⟩)
| refine o_nil ?_
| (refine o_s rfl ?_; refine ⟨_, (by dsimp only [bitvec_to_nat, Nat.reduceAdd, Nat.reduceMul, Nat.reduceBEq, reduceCtorEq]), ?_⟩)
| (refine o_splitD rfl rfl rfl (fun hc => ?_) (fun hc => ?_) <;> first | (exfalso; omega) | dsimp only [List.set_cons_zero, List.set_cons_succ])
| refine g_condT rfl ?_
| refine g_ret ?_)
        change KRLC _ _ _ _ _ _ .ret _
        exact krlc 0 0 rfl rfl rfl (krC rfl (by exact Nat.le_of_ble_eq_true rfl) (by simp [viewV]))
      have l1 := l1 hx0
      cases b5 with
      | false =>
        obtain ⟨rfl, rfl⟩ := l2 hx0 rfl
        repeat' (first
| refine g_seq ?_
| refine g_region ?_
| (refine o_go rfl ?_; (first
| refine p_e rfl (e_callR rfl rfl (by (repeat (first | refine ⟨PV.le_refl _, ?_⟩ | refine ⟨PV.le_nn _ _ _, ?_⟩ | refine ⟨PV.le_nil _, ?_⟩ | refine ⟨PV.le_any _, ?_⟩)); exact trivial) rfl (hfr)) ?_
| refine p_e rfl (e_callL (n := 0) rfl rfl rfl (by (repeat (first | refine ⟨leS_refl _, ?_⟩ | refine ⟨leS_nn _ _ _, ?_⟩ | refine ⟨leS_nil _, ?_⟩ | refine ⟨leS_any _, ?_⟩)); exact trivial) rfl (by rfl) (by first | exact ⟨rfl, rfl, rfl, by simp⟩ | exact ⟨rfl, rfl, by simp⟩ | trivial) (l1)) ?_
| refine p_p (ps_move rfl) ?_
| refine p_p (ps_not rfl rfl) ?_
| refine p_p (ps_pick rfl rfl) ?_
| refine p_p (ps_eql rfl rfl rfl) ?_
| refine p_p (ps_load_boxA rfl rfl rfl (by exact Nat.le_of_ble_eq_true rfl)) ?_
| refine p_e rfl (e_store_boxA rfl rfl rfl rfl (by exact Nat.le_of_ble_eq_true rfl) rfl rfl rfl) ?_
| refine p_e rfl (e_alloc rfl) ?_); refine ⟨_, (by dsimp only [bitvec_to_nat, Nat.reduceAdd, Nat.reduceMul, Nat.reduceBEq, reduceCtorEq]), ?_⟩)
| refine o_nil ?_
| (refine o_splitD rfl rfl rfl (fun hc => ?_) (fun hc => ?_) <;> first | (exfalso; omega) | dsimp only [List.set_cons_zero, List.set_cons_succ])
| refine g_condT rfl ?_
| refine g_ret ?_)
        change KRLC _ _ _ _ _ _ .ret _
        exact krlc 0 0 rfl rfl rfl (krC rfl (by exact Nat.le_of_ble_eq_true rfl) (by simp [viewV]))
      | true =>
        obtain ⟨hxv, hr1, hr2, l3a, l3b, y0, y3⟩ := l3 hx0 rfl
        have hfl := frV_len x qs
        repeat' (first
| refine g_seq ?_
| refine g_region ?_
| (refine o_go rfl ?_; (first
| refine p_e rfl (e_callR rfl rfl (by (repeat (first | refine ⟨PV.le_refl _, ?_⟩ | refine ⟨PV.le_nn _ _ _, ?_⟩ | refine ⟨PV.le_nil _, ?_⟩ | refine ⟨PV.le_any _, ?_⟩)); exact trivial) rfl (hfr)) ?_
| refine p_e rfl (e_callL (n := 0) rfl rfl rfl (by (repeat (first | refine ⟨leS_refl _, ?_⟩ | refine ⟨leS_nn _ _ _, ?_⟩ | refine ⟨leS_nil _, ?_⟩ | refine ⟨leS_any _, ?_⟩)); exact trivial) rfl (by rfl) (by first | exact ⟨rfl, rfl, rfl, by simp⟩ | exact ⟨rfl, rfl, by simp⟩ | trivial) (l1)) ?_
| refine p_e rfl (e_callL (n := 0) rfl rfl rfl (by (repeat (first | refine ⟨leS_refl _, ?_⟩ | refine ⟨leS_nn _ _ _, ?_⟩ | refine ⟨leS_nil _, ?_⟩ | refine ⟨leS_any _, ?_⟩)); exact trivial) rfl (by rfl) (by first | exact ⟨rfl, rfl, rfl, by simp⟩ | exact ⟨rfl, rfl, by simp⟩ | trivial) (l3a)) ?_
| refine p_p (ps_move rfl) ?_
| refine p_p (ps_assign rfl) ?_
| refine p_p (ps_not rfl rfl) ?_
| refine p_p (ps_pick rfl rfl) ?_
| refine p_p (ps_eql rfl rfl rfl) ?_
| refine p_e rfl (e_store_boxA rfl rfl rfl rfl (by exact Nat.le_of_ble_eq_true rfl) rfl rfl rfl) ?_
| refine p_e rfl (e_alloc rfl) ?_); refine ⟨_, (by dsimp only [bitvec_to_nat, Nat.reduceAdd, Nat.reduceMul, Nat.reduceBEq, reduceCtorEq]), ?_⟩)
| refine o_nil ?_
| (refine o_splitD rfl rfl rfl (fun hc => ?_) (fun hc => ?_) <;> first | (exfalso; omega) | dsimp only [List.set_cons_zero, List.set_cons_succ])
| refine g_condF rfl ?_
| refine g_skip ?_)
        by_cases e0 : y = 0
        · obtain ⟨rfl, rfl⟩ := l4 hx0 rfl e0
          subst e0
          repeat' (first
| refine g_seq ?_
| refine g_block ?_
| refine g_region ?_
| (refine o_go rfl ?_; (first
| refine p_e rfl (e_callL (n := 0) rfl rfl rfl (by (repeat (first | refine ⟨leS_refl _, ?_⟩ | refine ⟨leS_nn _ _ _, ?_⟩ | refine ⟨leS_nil _, ?_⟩ | refine ⟨leS_any _, ?_⟩)); exact trivial) rfl (by rfl) (by first | exact ⟨rfl, rfl, rfl, by simp⟩ | exact ⟨rfl, rfl, by simp⟩ | trivial) (l3b)) ?_
| refine p_p (ps_assign rfl) ?_
| refine p_p (ps_eql rfl rfl rfl) ?_); refine ⟨_, (by dsimp only [bitvec_to_nat, Nat.reduceAdd, Nat.reduceMul, Nat.reduceBEq, reduceCtorEq]), ?_⟩)
| refine o_nil ?_
| refine g_condT rfl ?_)
          refine g_thawI 3 rfl ⟨_, (by dsimp only [bitvec_to_nat, Nat.reduceAdd, Nat.reduceMul, Nat.reduceBEq, reduceCtorEq]), ?_⟩
          have hrl : ((frV x qs).map ints).length = x := by rw [List.length_map, frV_len]
          have hix : ((frV x qs).map ints)[xv * 1]? = some (ints ((frV x qs).getD xv [])) := by rw [Nat.mul_one]; exact idx_ints (by omega)
          repeat' (first
| refine g_seq ?_
| refine g_region ?_
| refine g_region_draw (by kernel_rfl) (by kernel_rfl) ?_
| (refine o_go rfl ?_; (first
| refine p_p (ps_index_mut rfl rfl rfl rfl (by omega) (by rw [n_toNat]; omega)) ?_
| refine p_p (ps_load_arr rfl rfl rfl (by exact hix) rfl) ?_
| refine p_p (ps_sliceFromM rfl rfl rfl (by omega) (by omega)) ?_
| refine p_e (by kernel_rfl) (e_store_arr rfl rfl rfl rfl (by omega) rfl rfl) ?_
| refine p_p (ps_move rfl) ?_
| refine p_p (ps_load_box rfl rfl rfl rfl) ?_
| refine p_p (ps_load_boxA rfl rfl rfl (by exact Nat.le_of_ble_eq_true rfl)) ?_
| refine p_p (ps_fieldAddr_hat rfl rfl) ?_
| refine p_e rfl (e_store_boxA rfl rfl rfl rfl (by exact Nat.le_of_ble_eq_true rfl) rfl rfl rfl) ?_); refine ⟨_, (by dsimp only [bitvec_to_nat, Nat.reduceAdd, Nat.reduceMul, Nat.reduceBEq, reduceCtorEq]), ?_⟩)
| refine o_nil ?_
| refine g_ret ?_)
          change KRLC _ _ _ _ _ _ .ret _
          refine krlc 0 0 rfl rfl rfl (krC rfl (by exact Nat.le_of_ble_eq_true rfl) (congrArg (fun l => [PV.sl 1 none l]) ?_))
          rw [Nat.mul_one, List.map_set]; rfl
        by_cases e1 : y = 1
        · obtain ⟨rfl, rfl⟩ := l5 hx0 rfl e1
          subst e1
          repeat' (first
| refine g_seq ?_
| refine g_block ?_
| refine g_region ?_
| (refine o_go rfl ?_; (first
| refine p_e rfl (e_callL (n := 0) rfl rfl rfl (by (repeat (first | refine ⟨leS_refl _, ?_⟩ | refine ⟨leS_nn _ _ _, ?_⟩ | refine ⟨leS_nil _, ?_⟩ | refine ⟨leS_any _, ?_⟩)); exact trivial) rfl (by rfl) (by first | exact ⟨rfl, rfl, rfl, by simp⟩ | exact ⟨rfl, rfl, by simp⟩ | trivial) (l3b)) ?_
| refine p_p (ps_assign rfl) ?_
| refine p_p (ps_eql rfl rfl rfl) ?_); refine ⟨_, (by dsimp only [bitvec_to_nat, Nat.reduceAdd, Nat.reduceMul, Nat.reduceBEq, reduceCtorEq]), ?_⟩)
| refine o_nil ?_
| refine g_condT rfl ?_
| refine g_condF rfl ?_)
          refine g_region_drawZ [(0, some []), (1, some []), (2, some []), (3, some []), (4, some []), (5, some []), (8, some []), (9, some []), (6, none), (7, none), (10, none), (11, none), (12, none)] [] (fun hp => hp[4]? = some (.box [.hp 3])) (by kernel_rfl) rfl (by kernel_rfl) ?_
          repeat' (first
| refine z_nil ?_
| ((first
| refine z_pure rfl rfl (fun hp hH => ps_load_box rfl rfl hH rfl) (by repeat (first | exact trivial | refine ⟨rfl, ?_⟩)) (by first | exact fun _ _ => trivial | exact (by intro y hy; simp [Op.operands] at hy; first | (subst hy; repeat (first | exact trivial | refine ⟨rfl, ?_⟩)) | (rcases hy with rfl | rfl <;> repeat (first | exact trivial | refine ⟨rfl, ?_⟩)))) (by decide) (by first | exact trivial | exact rfl | exact ⟨rfl, rfl⟩ | exact ⟨rfl, rfl, rfl⟩ | exact ⟨rfl, .inl ⟨_, rfl, by simp only [List.length_map]; omega⟩⟩ | exact ⟨rfl, .inr ⟨_, rfl, by simp only [List.length_map]; omega⟩⟩) ?_
| refine z_pure rfl rfl (fun _ _ => ps_move rfl) (by repeat (first | exact trivial | refine ⟨rfl, ?_⟩)) (by first | exact fun _ _ => trivial | exact (by intro y hy; simp [Op.operands] at hy; first | (subst hy; repeat (first | exact trivial | refine ⟨rfl, ?_⟩)) | (rcases hy with rfl | rfl <;> repeat (first | exact trivial | refine ⟨rfl, ?_⟩)))) (by decide) (by first | exact trivial | exact rfl | exact ⟨rfl, rfl⟩ | exact ⟨rfl, rfl, rfl⟩ | exact ⟨rfl, .inl ⟨_, rfl, by simp only [List.length_map]; omega⟩⟩ | exact ⟨rfl, .inr ⟨_, rfl, by simp only [List.length_map]; omega⟩⟩) ?_
| refine z_pure rfl rfl (fun _ _ => ps_fieldAddr_hat rfl rfl) (by repeat (first | exact trivial | refine ⟨rfl, ?_⟩)) (by first | exact fun _ _ => trivial | exact (by intro y hy; simp [Op.operands] at hy; first | (subst hy; repeat (first | exact trivial | refine ⟨rfl, ?_⟩)) | (rcases hy with rfl | rfl <;> repeat (first | exact trivial | refine ⟨rfl, ?_⟩)))) (by decide) (by first | exact trivial | exact rfl | exact ⟨rfl, rfl⟩ | exact ⟨rfl, rfl, rfl⟩ | exact ⟨rfl, .inl ⟨_, rfl, by simp only [List.length_map]; omega⟩⟩ | exact ⟨rfl, .inr ⟨_, rfl, by simp only [List.length_map]; omega⟩⟩) ?_
| refine z_pure rfl rfl (fun _ _ => ps_lit1 rfl rfl (by rfl) (by rfl)) (by repeat (first | exact trivial | refine ⟨rfl, ?_⟩)) (by first | exact fun _ _ => trivial | exact (by intro y hy; simp [Op.operands] at hy; first | (subst hy; repeat (first | exact trivial | refine ⟨rfl, ?_⟩)) | (rcases hy with rfl | rfl <;> repeat (first | exact trivial | refine ⟨rfl, ?_⟩)))) (by decide) (by first | exact trivial | exact rfl | exact ⟨rfl, rfl⟩ | exact ⟨rfl, rfl, rfl⟩ | exact ⟨rfl, .inl ⟨_, rfl, by simp only [List.length_map]; omega⟩⟩ | exact ⟨rfl, .inr ⟨_, rfl, by simp only [List.length_map]; omega⟩⟩) ?_
| refine z_eff rfl rfl (by first | exact trivial | exact .inl ⟨rfl, rfl⟩ | exact .inr (.inl ⟨rfl, rfl⟩) | exact .inr (.inr (.inl ⟨rfl, rfl⟩)) | exact .inr (.inr (.inr (.inl ⟨rfl, rfl⟩)))) (j_pure (ps_index_grid rfl rfl rfl rfl (by omega) (by rw [List.length_map, hfl]; omega))) (by first | exact .inr (by decide) | exact .inl (by first | exact trivial | exact rfl | exact ⟨rfl, rfl⟩ | exact ⟨rfl, rfl, rfl⟩ | exact ⟨rfl, .inl ⟨_, rfl, by simp only [List.length_map]; omega⟩⟩ | exact ⟨rfl, .inr ⟨_, rfl, by simp only [List.length_map]; omega⟩⟩)) ?_
| refine z_eff rfl rfl (by first | exact trivial | exact .inl ⟨rfl, rfl⟩ | exact .inr (.inl ⟨rfl, rfl⟩) | exact .inr (.inr (.inl ⟨rfl, rfl⟩)) | exact .inr (.inr (.inr (.inl ⟨rfl, rfl⟩)))) (j_pure (ps_load_row rfl rfl rfl (by rw [List.length_map, hfl]; exact hxv))) (by first | exact .inr (by decide) | exact .inl (by first | exact trivial | exact rfl | exact ⟨rfl, rfl⟩ | exact ⟨rfl, rfl, rfl⟩ | exact ⟨rfl, .inl ⟨_, rfl, by simp only [List.length_map]; omega⟩⟩ | exact ⟨rfl, .inr ⟨_, rfl, by simp only [List.length_map]; omega⟩⟩)) ?_
| refine z_eff rfl rfl (by first | exact trivial | exact .inl ⟨rfl, rfl⟩ | exact .inr (.inl ⟨rfl, rfl⟩) | exact .inr (.inr (.inl ⟨rfl, rfl⟩)) | exact .inr (.inr (.inr (.inl ⟨rfl, rfl⟩)))) (j_appendRow rfl rfl rfl rfl rfl (by exact idx_rowI (by omega)) rfl (by intro p hp; simp at hp; subst hp; rfl) (by rw [List.length_map, n_len_c, n_len_n]; omega) (by rw [List.length_map, n_len_c, n_len_n]; omega)) (by first | exact .inr (by decide) | exact .inl (by first | exact trivial | exact rfl | exact ⟨rfl, rfl⟩ | exact ⟨rfl, rfl, rfl⟩ | exact ⟨rfl, .inl ⟨_, rfl, by simp only [List.length_map]; omega⟩⟩ | exact ⟨rfl, .inr ⟨_, rfl, by simp only [List.length_map]; omega⟩⟩)) ?_
| refine z_eff rfl rfl (by first | exact trivial | exact .inl ⟨rfl, rfl⟩ | exact .inr (.inl ⟨rfl, rfl⟩) | exact .inr (.inr (.inl ⟨rfl, rfl⟩)) | exact .inr (.inr (.inr (.inl ⟨rfl, rfl⟩)))) (j_pure (ps_index_mut rfl rfl rfl rfl (by omega) (by rw [List.length_map, List.length_map, hfl]; omega))) (by first | exact .inr (by decide) | exact .inl (by first | exact trivial | exact rfl | exact ⟨rfl, rfl⟩ | exact ⟨rfl, rfl, rfl⟩ | exact ⟨rfl, .inl ⟨_, rfl, by simp only [List.length_map]; omega⟩⟩ | exact ⟨rfl, .inr ⟨_, rfl, by simp only [List.length_map]; omega⟩⟩)) ?_
| refine z_eff rfl rfl (by first | exact trivial | exact .inl ⟨rfl, rfl⟩ | exact .inr (.inl ⟨rfl, rfl⟩) | exact .inr (.inr (.inl ⟨rfl, rfl⟩)) | exact .inr (.inr (.inr (.inl ⟨rfl, rfl⟩)))) (j_store_arr rfl rfl rfl rfl (by rw [List.length_map, List.length_map, hfl]; omega) rfl rfl) (by first | exact .inr (by decide) | exact .inl (by first | exact trivial | exact rfl | exact ⟨rfl, rfl⟩ | exact ⟨rfl, rfl, rfl⟩ | exact ⟨rfl, .inl ⟨_, rfl, by simp only [List.length_map]; omega⟩⟩ | exact ⟨rfl, .inr ⟨_, rfl, by simp only [List.length_map]; omega⟩⟩)) ?_); refine ⟨_, (by dsimp only [appJ, killO, bitvec_to_nat, Nat.reduceAdd, Nat.reduceMul, Nat.reduceBEq, reduceCtorEq]), ?_⟩))
          repeat' (first
| refine g_seq ?_
| refine g_region ?_
| (refine o_go rfl ?_; (first
| refine p_p (ps_load_boxA rfl rfl rfl (by exact Nat.le_of_ble_eq_true rfl)) ?_
| refine p_e rfl (e_store_boxA rfl rfl rfl rfl (by exact Nat.le_of_ble_eq_true rfl) rfl rfl rfl) ?_); refine ⟨_, (by dsimp only [bitvec_to_nat, Nat.reduceAdd, Nat.reduceMul, Nat.reduceBEq, reduceCtorEq]), ?_⟩)
| refine o_nil ?_
| refine g_ret ?_)
          change KRLC _ _ _ _ _ _ .ret _
          refine krlc 0 0 rfl rfl rfl (krC rfl (by exact Nat.le_of_ble_eq_true rfl) (congrArg (fun l => [PV.sl 1 none l]) ?_))
          rw [Nat.mul_one, List.map_set, List.map_map]
          exact congrArg (fun p => ((frV x qs).map ints).set xv p) (by show PV.sl 1 none _ = PV.sl 1 none _; rw [List.map_append]; rfl)
        by_cases e2 : y = 2
        · obtain ⟨l6a, rfl, rfl⟩ := l6 hx0 rfl e2
          subst e2
          repeat' (first
| refine g_seq ?_
| refine g_block ?_
| refine g_region ?_
| (refine o_go rfl ?_; (first
| refine p_e rfl (e_callL (n := 0) rfl rfl rfl (by (repeat (first | refine ⟨leS_refl _, ?_⟩ | refine ⟨leS_nn _ _ _, ?_⟩ | refine ⟨leS_nil _, ?_⟩ | refine ⟨leS_any _, ?_⟩)); exact trivial) rfl (by rfl) (by first | exact ⟨rfl, rfl, rfl, by simp⟩ | exact ⟨rfl, rfl, by simp⟩ | trivial) (l3b)) ?_
| refine p_p (ps_assign rfl) ?_
| refine p_p (ps_eql rfl rfl rfl) ?_); refine ⟨_, (by dsimp only [bitvec_to_nat, Nat.reduceAdd, Nat.reduceMul, Nat.reduceBEq, reduceCtorEq]), ?_⟩)
| refine o_nil ?_
| refine g_condT rfl ?_
| refine g_condF rfl ?_)
          refine g_thawI 3 rfl ⟨_, (by dsimp only [bitvec_to_nat, Nat.reduceAdd, Nat.reduceMul, Nat.reduceBEq, reduceCtorEq]), ?_⟩
          have hrl : ((frV x qs).map ints).length = x := by rw [List.length_map, frV_len]
          have hix : ((frV x qs).map ints)[xv * 1]? = some (ints ((frV x qs).getD xv [])) := by rw [Nat.mul_one]; exact idx_ints (by omega)
          have hpc := sput_c ((frV x qs).getD xv []) z (by omega)
          refine g_region_drawZ [(0, some []), (1, some []), (2, some []), (3, some []), (4, some []), (5, some []), (6, some []), (7, some []), (8, some []), (9, some []), (10, none), (11, none), (12, none), (13, none)] [(13, 999999)] (fun hp => hp[4]? = some (.box [.hp 3]) ∧ hp[3]? = some (.arr true 1 27 ((frV x qs).map ints))) (by kernel_rfl) rfl (by kernel_rfl) ?_
          repeat' (first
| refine z_nil ?_
| ((first
| refine z_pure rfl rfl (fun hp hH => ps_load_box rfl rfl hH.1 rfl) (by repeat (first | exact trivial | refine ⟨rfl, ?_⟩)) (by first | exact fun _ _ => trivial | exact (by intro y hy; simp [Op.operands] at hy; first | (subst hy; repeat (first | exact trivial | refine ⟨rfl, ?_⟩)) | (rcases hy with rfl | rfl <;> repeat (first | exact trivial | refine ⟨rfl, ?_⟩)))) (by decide) (by first | exact trivial | exact rfl | exact ⟨rfl, rfl⟩ | exact ⟨rfl, rfl, rfl⟩ | exact ⟨rfl, .inl ⟨_, rfl, by simp only [List.length_map]; omega⟩⟩ | exact ⟨rfl, .inr ⟨_, rfl, by simp only [List.length_map]; omega⟩⟩) ?_
| refine z_pure rfl rfl (fun hp hH => ps_index_mut rfl rfl hH.2 rfl (by omega) (by rw [n_toNat]; omega)) (by repeat (first | exact trivial | refine ⟨rfl, ?_⟩)) (by first | exact fun _ _ => trivial | exact (by intro y hy; simp [Op.operands] at hy; first | (subst hy; repeat (first | exact trivial | refine ⟨rfl, ?_⟩)) | (rcases hy with rfl | rfl <;> repeat (first | exact trivial | refine ⟨rfl, ?_⟩)))) (by decide) (by first | exact trivial | exact rfl | exact ⟨rfl, rfl⟩ | exact ⟨rfl, rfl, rfl⟩ | exact ⟨rfl, .inl ⟨_, rfl, by simp only [List.length_map]; omega⟩⟩ | exact ⟨rfl, .inr ⟨_, rfl, by simp only [List.length_map]; omega⟩⟩) ?_
| refine z_pure rfl rfl (fun hp hH => ps_load_arr rfl rfl hH.2 (by exact hix) rfl) (by repeat (first | exact trivial | refine ⟨rfl, ?_⟩)) (by first | exact fun _ _ => trivial | exact (by intro y hy; simp [Op.operands] at hy; first | (subst hy; repeat (first | exact trivial | refine ⟨rfl, ?_⟩)) | (rcases hy with rfl | rfl <;> repeat (first | exact trivial | refine ⟨rfl, ?_⟩)))) (by decide) (by first | exact trivial | exact rfl | exact ⟨rfl, rfl⟩ | exact ⟨rfl, rfl, rfl⟩ | exact ⟨rfl, .inl ⟨_, rfl, by simp only [List.length_map]; omega⟩⟩ | exact ⟨rfl, .inr ⟨_, rfl, by simp only [List.length_map]; omega⟩⟩) ?_
| refine z_pure rfl rfl (fun _ _ => ps_move rfl) (by repeat (first | exact trivial | refine ⟨rfl, ?_⟩)) (by first | exact fun _ _ => trivial | exact (by intro y hy; simp [Op.operands] at hy; first | (subst hy; repeat (first | exact trivial | refine ⟨rfl, ?_⟩)) | (rcases hy with rfl | rfl <;> repeat (first | exact trivial | refine ⟨rfl, ?_⟩)))) (by decide) (by first | exact trivial | exact rfl | exact ⟨rfl, rfl⟩ | exact ⟨rfl, rfl, rfl⟩ | exact ⟨rfl, .inl ⟨_, rfl, by simp only [List.length_map]; omega⟩⟩ | exact ⟨rfl, .inr ⟨_, rfl, by simp only [List.length_map]; omega⟩⟩) ?_
| refine z_pure rfl rfl (fun _ _ => ps_fieldAddr_hat rfl rfl) (by repeat (first | exact trivial | refine ⟨rfl, ?_⟩)) (by first | exact fun _ _ => trivial | exact (by intro y hy; simp [Op.operands] at hy; first | (subst hy; repeat (first | exact trivial | refine ⟨rfl, ?_⟩)) | (rcases hy with rfl | rfl <;> repeat (first | exact trivial | refine ⟨rfl, ?_⟩)))) (by decide) (by first | exact trivial | exact rfl | exact ⟨rfl, rfl⟩ | exact ⟨rfl, rfl, rfl⟩ | exact ⟨rfl, .inl ⟨_, rfl, by simp only [List.length_map]; omega⟩⟩ | exact ⟨rfl, .inr ⟨_, rfl, by simp only [List.length_map]; omega⟩⟩) ?_
| refine z_eff rfl rfl (by first | exact trivial | exact .inl ⟨rfl, rfl⟩ | exact .inr (.inl ⟨rfl, rfl⟩) | exact .inr (.inr (.inl ⟨rfl, rfl⟩)) | exact .inr (.inr (.inr (.inl ⟨rfl, rfl⟩)))) (j_callLB (n := 0) rfl rfl rfl (by (repeat (first | refine ⟨leS_refl _, ?_⟩ | refine ⟨leS_nn _ _ _, ?_⟩ | refine ⟨leS_nil _, ?_⟩ | refine ⟨leS_any _, ?_⟩)); exact trivial) (by rfl) (by rfl) (l6a)) (by first | exact .inr (by decide) | exact .inl (by first | exact trivial | exact rfl | exact ⟨rfl, rfl⟩ | exact ⟨rfl, rfl, rfl⟩ | exact ⟨rfl, .inl ⟨_, rfl, by simp only [List.length_map]; omega⟩⟩ | exact ⟨rfl, .inr ⟨_, rfl, by simp only [List.length_map]; omega⟩⟩)) ?_
| refine z_eff rfl rfl (by first | exact trivial | exact .inl ⟨rfl, rfl⟩ | exact .inr (.inl ⟨rfl, rfl⟩) | exact .inr (.inr (.inl ⟨rfl, rfl⟩)) | exact .inr (.inr (.inr (.inl ⟨rfl, rfl⟩)))) (j_pure (ps_call rfl rfl (by (repeat (first | refine ⟨PV.le_refl _, ?_⟩ | refine ⟨PV.le_nn _ _ _, ?_⟩ | refine ⟨PV.le_nil _, ?_⟩ | refine ⟨PV.le_any _, ?_⟩)); exact trivial) (hpc))) (by first | exact .inr (by decide) | exact .inl (by first | exact trivial | exact rfl | exact ⟨rfl, rfl⟩ | exact ⟨rfl, rfl, rfl⟩ | exact ⟨rfl, .inl ⟨_, rfl, by simp only [List.length_map]; omega⟩⟩ | exact ⟨rfl, .inr ⟨_, rfl, by simp only [List.length_map]; omega⟩⟩)) ?_
| refine z_eff rfl rfl (by first | exact trivial | exact .inl ⟨rfl, rfl⟩ | exact .inr (.inl ⟨rfl, rfl⟩) | exact .inr (.inr (.inl ⟨rfl, rfl⟩)) | exact .inr (.inr (.inr (.inl ⟨rfl, rfl⟩)))) (j_store_arr rfl rfl rfl rfl (by omega) rfl rfl) (by first | exact .inr (by decide) | exact .inl (by first | exact trivial | exact rfl | exact ⟨rfl, rfl⟩ | exact ⟨rfl, rfl, rfl⟩ | exact ⟨rfl, .inl ⟨_, rfl, by simp only [List.length_map]; omega⟩⟩ | exact ⟨rfl, .inr ⟨_, rfl, by simp only [List.length_map]; omega⟩⟩)) ?_
| refine z_eff rfl rfl (by first | exact trivial | exact .inl ⟨rfl, rfl⟩ | exact .inr (.inl ⟨rfl, rfl⟩) | exact .inr (.inr (.inl ⟨rfl, rfl⟩)) | exact .inr (.inr (.inr (.inl ⟨rfl, rfl⟩)))) (j_pure (ps_index_mut rfl rfl rfl rfl (by omega) (by first | omega | (simp; done) | (simp; omega)))) (by first | exact .inr (by decide) | exact .inl (by first | exact trivial | exact rfl | exact ⟨rfl, rfl⟩ | exact ⟨rfl, rfl, rfl⟩ | exact ⟨rfl, .inl ⟨_, rfl, by simp only [List.length_map]; omega⟩⟩ | exact ⟨rfl, .inr ⟨_, rfl, by simp only [List.length_map]; omega⟩⟩)) ?_); refine ⟨_, (by dsimp only [appJ, killO, bitvec_to_nat, Nat.reduceAdd, Nat.reduceMul, Nat.reduceBEq, reduceCtorEq]), ?_⟩))
          repeat' (first
| refine g_seq ?_
| refine g_region ?_
| (refine o_go rfl ?_; (first
| refine p_p (ps_load_boxA rfl rfl rfl (by exact Nat.le_of_ble_eq_true rfl)) ?_
| refine p_e rfl (e_store_boxA rfl rfl rfl rfl (by exact Nat.le_of_ble_eq_true rfl) rfl rfl rfl) ?_); refine ⟨_, (by dsimp only [bitvec_to_nat, Nat.reduceAdd, Nat.reduceMul, Nat.reduceBEq, reduceCtorEq]), ?_⟩)
| refine o_nil ?_
| refine g_ret ?_)
          change KRLC _ _ _ _ _ _ .ret _
          refine krlc 0 0 rfl rfl rfl (krC rfl (by exact Nat.le_of_ble_eq_true rfl) (congrArg (fun l => [PV.sl 1 none l]) ?_))
          rw [Nat.mul_one, List.map_set]
        · have e3 : y = 3 := by omega
          subst e3
          obtain ⟨D, V, N, D0, hN, D1, D2, D3, rfl, rfl⟩ := l7 hx0 rfl rfl
          repeat' (first
| refine g_seq ?_
| refine g_block ?_
| refine g_region ?_
| (refine o_go rfl ?_; (first
| refine p_e rfl (e_callL (n := 0) rfl rfl rfl (by (repeat (first | refine ⟨leS_refl _, ?_⟩ | refine ⟨leS_nn _ _ _, ?_⟩ | refine ⟨leS_nil _, ?_⟩ | refine ⟨leS_any _, ?_⟩)); exact trivial) rfl (by rfl) (by first | exact ⟨rfl, rfl, rfl, by simp⟩ | exact ⟨rfl, rfl, by simp⟩ | trivial) (l3b)) ?_
| refine p_p (ps_assign rfl) ?_
| refine p_p (ps_eql rfl rfl rfl) ?_); refine ⟨_, (by dsimp only [bitvec_to_nat, Nat.reduceAdd, Nat.reduceMul, Nat.reduceBEq, reduceCtorEq]), ?_⟩)
| refine o_nil ?_
| refine g_condT rfl ?_
| refine g_condF rfl ?_)
          refine g_thawI 3 rfl ⟨_, (by dsimp only [bitvec_to_nat, Nat.reduceAdd, Nat.reduceMul, Nat.reduceBEq, reduceCtorEq]), ?_⟩
          refine g_loopF (α := Nat) [73] (fun _ => []) (fun k => [cuB (D k), .box [nilV], .arr true 2 79 (qs.map pairP), .arr true 1 27 ((ownR (frV x qs) k).map ints), .box [.hp 3]]) (fun k => k ≤ N) (fun k => N - k) 0 (by simp only [havoc, dsts, List.filterMap_cons, List.filterMap_nil, List.foldl_cons, List.foldl_nil, List.cons_append, List.nil_append, List.append_nil, List.set_cons_succ, List.set_cons_zero]; exact rfl) (Nat.zero_le _) trivial (by rw [D0, show ownR (frV x qs) 0 = frV x qs by simp [ownR]]) ?_
          rintro k hk
          dsimp only [setMany, List.set_cons_zero, List.set_cons_succ]
          obtain ⟨v0, v1, hpk⟩ := D1 k hk
          have hol : ((ownR (frV x qs) k).map ints).length = x + k := by rw [List.length_map, ownR_len, hfl]
          by_cases hkn : k < N
          · have hlt := D2 k hkn
            refine g_seq ?_
            refine g_seq ?_
            refine g_region_drawZ [(0, some []), (1, some []), (2, some []), (3, some []), (4, none), (5, some []), (6, some [])] [] (fun hp => hp[4]? = some (.box [.hp 3]) ∧ hp[3]? = some (.arr true 1 27 ((ownR (frV x qs) k).map ints))) (by kernel_rfl) rfl (by kernel_rfl) ?_
            repeat' (first
| refine z_nil ?_
| ((first
| refine z_pure rfl rfl (fun hp hH => ps_load_box rfl rfl hH.1 rfl) (by repeat (first | exact trivial | refine ⟨rfl, ?_⟩)) (by first | exact fun _ _ => trivial | exact (by intro y hy; simp [Op.operands] at hy; first | (subst hy; repeat (first | exact trivial | refine ⟨rfl, ?_⟩)) | (rcases hy with rfl | rfl <;> repeat (first | exact trivial | refine ⟨rfl, ?_⟩)))) (by decide) (by first | exact trivial | exact rfl | exact ⟨rfl, rfl⟩ | exact ⟨rfl, rfl, rfl⟩ | exact ⟨rfl, .inl ⟨_, rfl, by simp only [List.length_map]; omega⟩⟩ | exact ⟨rfl, .inr ⟨_, rfl, by simp only [List.length_map]; omega⟩⟩) ?_
| refine z_pure rfl rfl (fun hp hH => ps_len_mut rfl rfl rfl hH.2) (by repeat (first | exact trivial | refine ⟨rfl, ?_⟩)) (by first | exact fun _ _ => trivial | exact (by intro y hy; simp [Op.operands] at hy; first | (subst hy; repeat (first | exact trivial | refine ⟨rfl, ?_⟩)) | (rcases hy with rfl | rfl <;> repeat (first | exact trivial | refine ⟨rfl, ?_⟩)))) (by decide) (by first | exact trivial | exact rfl | exact ⟨rfl, rfl⟩ | exact ⟨rfl, rfl, rfl⟩ | exact ⟨rfl, .inl ⟨_, rfl, by simp only [List.length_map]; omega⟩⟩ | exact ⟨rfl, .inr ⟨_, rfl, by simp only [List.length_map]; omega⟩⟩) ?_
| refine z_pure rfl rfl (fun _ _ => ps_move rfl) (by repeat (first | exact trivial | refine ⟨rfl, ?_⟩)) (by first | exact fun _ _ => trivial | exact (by intro y hy; simp [Op.operands] at hy; first | (subst hy; repeat (first | exact trivial | refine ⟨rfl, ?_⟩)) | (rcases hy with rfl | rfl <;> repeat (first | exact trivial | refine ⟨rfl, ?_⟩)))) (by decide) (by first | exact trivial | exact rfl | exact ⟨rfl, rfl⟩ | exact ⟨rfl, rfl, rfl⟩ | exact ⟨rfl, .inl ⟨_, rfl, by simp only [List.length_map]; omega⟩⟩ | exact ⟨rfl, .inr ⟨_, rfl, by simp only [List.length_map]; omega⟩⟩) ?_
| refine z_pure rfl rfl (fun _ _ => ps_lss rfl rfl rfl) (by repeat (first | exact trivial | refine ⟨rfl, ?_⟩)) (by first | exact fun _ _ => trivial | exact (by intro y hy; simp [Op.operands] at hy; first | (subst hy; repeat (first | exact trivial | refine ⟨rfl, ?_⟩)) | (rcases hy with rfl | rfl <;> repeat (first | exact trivial | refine ⟨rfl, ?_⟩)))) (by decide) (by first | exact trivial | exact rfl | exact ⟨rfl, rfl⟩ | exact ⟨rfl, rfl, rfl⟩ | exact ⟨rfl, .inl ⟨_, rfl, by simp only [List.length_map]; omega⟩⟩ | exact ⟨rfl, .inr ⟨_, rfl, by simp only [List.length_map]; omega⟩⟩) ?_
| refine z_pure rfl rfl (fun _ _ => ps_add rfl rfl rfl (by constructor <;> omega)) (by repeat (first | exact trivial | refine ⟨rfl, ?_⟩)) (by first | exact fun _ _ => trivial | exact (by intro y hy; simp [Op.operands] at hy; first | (subst hy; repeat (first | exact trivial | refine ⟨rfl, ?_⟩)) | (rcases hy with rfl | rfl <;> repeat (first | exact trivial | refine ⟨rfl, ?_⟩)))) (by decide) (by first | exact trivial | exact rfl | exact ⟨rfl, rfl⟩ | exact ⟨rfl, rfl, rfl⟩ | exact ⟨rfl, .inl ⟨_, rfl, by simp only [List.length_map]; omega⟩⟩ | exact ⟨rfl, .inr ⟨_, rfl, by simp only [List.length_map]; omega⟩⟩) ?_
| refine z_pure rfl rfl (fun _ _ => ps_fieldAddr_hat rfl rfl) (by repeat (first | exact trivial | refine ⟨rfl, ?_⟩)) (by first | exact fun _ _ => trivial | exact (by intro y hy; simp [Op.operands] at hy; first | (subst hy; repeat (first | exact trivial | refine ⟨rfl, ?_⟩)) | (rcases hy with rfl | rfl <;> repeat (first | exact trivial | refine ⟨rfl, ?_⟩)))) (by decide) (by first | exact trivial | exact rfl | exact ⟨rfl, rfl⟩ | exact ⟨rfl, rfl, rfl⟩ | exact ⟨rfl, .inl ⟨_, rfl, by simp only [List.length_map]; omega⟩⟩ | exact ⟨rfl, .inr ⟨_, rfl, by simp only [List.length_map]; omega⟩⟩) ?_
| refine z_eff rfl rfl (by first | exact trivial | exact .inl ⟨rfl, rfl⟩ | exact .inr (.inl ⟨rfl, rfl⟩) | exact .inr (.inr (.inl ⟨rfl, rfl⟩)) | exact .inr (.inr (.inr (.inl ⟨rfl, rfl⟩)))) (j_callLB (n := 0) rfl rfl rfl (by (repeat (first | refine ⟨leS_refl _, ?_⟩ | refine ⟨leS_nn _ _ _, ?_⟩ | refine ⟨leS_nil _, ?_⟩ | refine ⟨leS_any _, ?_⟩)); exact trivial) (by rfl) (by rfl) (hpk)) (by first | exact .inr (by decide) | exact .inl (by first | exact trivial | exact rfl | exact ⟨rfl, rfl⟩ | exact ⟨rfl, rfl, rfl⟩ | exact ⟨rfl, .inl ⟨_, rfl, by simp only [List.length_map]; omega⟩⟩ | exact ⟨rfl, .inr ⟨_, rfl, by simp only [List.length_map]; omega⟩⟩)) ?_); refine ⟨_, (by dsimp only [appJ, killO, bitvec_to_nat, Nat.reduceAdd, Nat.reduceMul, Nat.reduceBEq, reduceCtorEq]), ?_⟩))
            repeat' (first
| refine g_block ?_
| refine g_region ?_
| (refine o_go rfl ?_; (first
| refine p_p (ps_lits rfl (by exact rfl) (by exact rfl) (by repeat (first | exact trivial | refine ⟨⟨_, rfl, rfl⟩, ?_⟩)) (by decide) (by decide)) ?_
| refine p_e rfl (e_append rfl rfl rfl rfl rfl rfl (one_one rfl) rfl (by rw [n_len_c, n_len_n]; omega) (by rw [n_len_c, n_len_n]; omega)) ?_
| refine p_p (ps_len_mut rfl rfl rfl rfl) ?_
| refine p_p (ps_load_box rfl rfl rfl rfl) ?_
| refine p_p (ps_fieldAddr_hat rfl rfl) ?_
| refine p_e rfl (e_store_boxC rfl rfl rfl rfl (by exact Nat.le_of_ble_eq_true rfl) rfl rfl) ?_); refine ⟨_, (by dsimp only [bitvec_to_nat, Nat.reduceAdd, Nat.reduceMul, Nat.reduceBEq, reduceCtorEq]), ?_⟩)
| refine o_nil ?_
| (refine g_condD rfl (fun hc => ?_) (fun hc => ?_) <;> try (exfalso; omega))
| refine g_skip ?_)
            refine k_round (k + 1) (by omega) (by omega) (by repeat (first | exact trivial | refine ⟨.inl rfl, ?_⟩ | refine ⟨.inr rfl, ?_⟩)) trivial (hpLe_cons rfl (hpLe_cons rfl (hpLe_cons rfl (hpLe_cons ?_ (hpLe_cons rfl (hpLe_nil _))))))
            refine congrArg (HO.arr true 1 _) ?_
            rw [ownR_succ, List.map_append, hfl, ← hol]; rfl
          · have hke : k = N := by omega
            subst hke
            refine g_seq ?_
            refine g_seq ?_
            refine g_region_drawZ [(0, some []), (1, some []), (2, some []), (3, some []), (4, none), (5, some []), (6, some [])] [] (fun hp => hp[4]? = some (.box [.hp 3]) ∧ hp[3]? = some (.arr true 1 27 ((ownR (frV x qs) k).map ints))) (by kernel_rfl) rfl (by kernel_rfl) ?_
            repeat' (first
| refine z_nil ?_
| ((first
| refine z_pure rfl rfl (fun hp hH => ps_load_box rfl rfl hH.1 rfl) (by repeat (first | exact trivial | refine ⟨rfl, ?_⟩)) (by first | exact fun _ _ => trivial | exact (by intro y hy; simp [Op.operands] at hy; first | (subst hy; repeat (first | exact trivial | refine ⟨rfl, ?_⟩)) | (rcases hy with rfl | rfl <;> repeat (first | exact trivial | refine ⟨rfl, ?_⟩)))) (by decide) (by first | exact trivial | exact rfl | exact ⟨rfl, rfl⟩ | exact ⟨rfl, rfl, rfl⟩ | exact ⟨rfl, .inl ⟨_, rfl, by simp only [List.length_map]; omega⟩⟩ | exact ⟨rfl, .inr ⟨_, rfl, by simp only [List.length_map]; omega⟩⟩) ?_
| refine z_pure rfl rfl (fun hp hH => ps_len_mut rfl rfl rfl hH.2) (by repeat (first | exact trivial | refine ⟨rfl, ?_⟩)) (by first | exact fun _ _ => trivial | exact (by intro y hy; simp [Op.operands] at hy; first | (subst hy; repeat (first | exact trivial | refine ⟨rfl, ?_⟩)) | (rcases hy with rfl | rfl <;> repeat (first | exact trivial | refine ⟨rfl, ?_⟩)))) (by decide) (by first | exact trivial | exact rfl | exact ⟨rfl, rfl⟩ | exact ⟨rfl, rfl, rfl⟩ | exact ⟨rfl, .inl ⟨_, rfl, by simp only [List.length_map]; omega⟩⟩ | exact ⟨rfl, .inr ⟨_, rfl, by simp only [List.length_map]; omega⟩⟩) ?_
| refine z_pure rfl rfl (fun _ _ => ps_move rfl) (by repeat (first | exact trivial | refine ⟨rfl, ?_⟩)) (by first | exact fun _ _ => trivial | exact (by intro y hy; simp [Op.operands] at hy; first | (subst hy; repeat (first | exact trivial | refine ⟨rfl, ?_⟩)) | (rcases hy with rfl | rfl <;> repeat (first | exact trivial | refine ⟨rfl, ?_⟩)))) (by decide) (by first | exact trivial | exact rfl | exact ⟨rfl, rfl⟩ | exact ⟨rfl, rfl, rfl⟩ | exact ⟨rfl, .inl ⟨_, rfl, by simp only [List.length_map]; omega⟩⟩ | exact ⟨rfl, .inr ⟨_, rfl, by simp only [List.length_map]; omega⟩⟩) ?_
| refine z_pure rfl rfl (fun _ _ => ps_lss rfl rfl rfl) (by repeat (first | exact trivial | refine ⟨rfl, ?_⟩)) (by first | exact fun _ _ => trivial | exact (by intro y hy; simp [Op.operands] at hy; first | (subst hy; repeat (first | exact trivial | refine ⟨rfl, ?_⟩)) | (rcases hy with rfl | rfl <;> repeat (first | exact trivial | refine ⟨rfl, ?_⟩)))) (by decide) (by first | exact trivial | exact rfl | exact ⟨rfl, rfl⟩ | exact ⟨rfl, rfl, rfl⟩ | exact ⟨rfl, .inl ⟨_, rfl, by simp only [List.length_map]; omega⟩⟩ | exact ⟨rfl, .inr ⟨_, rfl, by simp only [List.length_map]; omega⟩⟩) ?_
| refine z_pure rfl rfl (fun _ _ => ps_add rfl rfl rfl (by constructor <;> omega)) (by repeat (first | exact trivial | refine ⟨rfl, ?_⟩)) (by first | exact fun _ _ => trivial | exact (by intro y hy; simp [Op.operands] at hy; first | (subst hy; repeat (first | exact trivial | refine ⟨rfl, ?_⟩)) | (rcases hy with rfl | rfl <;> repeat (first | exact trivial | refine ⟨rfl, ?_⟩)))) (by decide) (by first | exact trivial | exact rfl | exact ⟨rfl, rfl⟩ | exact ⟨rfl, rfl, rfl⟩ | exact ⟨rfl, .inl ⟨_, rfl, by simp only [List.length_map]; omega⟩⟩ | exact ⟨rfl, .inr ⟨_, rfl, by simp only [List.length_map]; omega⟩⟩) ?_
| refine z_pure rfl rfl (fun _ _ => ps_fieldAddr_hat rfl rfl) (by repeat (first | exact trivial | refine ⟨rfl, ?_⟩)) (by first | exact fun _ _ => trivial | exact (by intro y hy; simp [Op.operands] at hy; first | (subst hy; repeat (first | exact trivial | refine ⟨rfl, ?_⟩)) | (rcases hy with rfl | rfl <;> repeat (first | exact trivial | refine ⟨rfl, ?_⟩)))) (by decide) (by first | exact trivial | exact rfl | exact ⟨rfl, rfl⟩ | exact ⟨rfl, rfl, rfl⟩ | exact ⟨rfl, .inl ⟨_, rfl, by simp only [List.length_map]; omega⟩⟩ | exact ⟨rfl, .inr ⟨_, rfl, by simp only [List.length_map]; omega⟩⟩) ?_
| refine z_eff rfl rfl (by first | exact trivial | exact .inl ⟨rfl, rfl⟩ | exact .inr (.inl ⟨rfl, rfl⟩) | exact .inr (.inr (.inl ⟨rfl, rfl⟩)) | exact .inr (.inr (.inr (.inl ⟨rfl, rfl⟩)))) (j_callLB (n := 0) rfl rfl rfl (by (repeat (first | refine ⟨leS_refl _, ?_⟩ | refine ⟨leS_nn _ _ _, ?_⟩ | refine ⟨leS_nil _, ?_⟩ | refine ⟨leS_any _, ?_⟩)); exact trivial) (by rfl) (by rfl) (hpk)) (by first | exact .inr (by decide) | exact .inl (by first | exact trivial | exact rfl | exact ⟨rfl, rfl⟩ | exact ⟨rfl, rfl, rfl⟩ | exact ⟨rfl, .inl ⟨_, rfl, by simp only [List.length_map]; omega⟩⟩ | exact ⟨rfl, .inr ⟨_, rfl, by simp only [List.length_map]; omega⟩⟩)) ?_); refine ⟨_, (by dsimp only [appJ, killO, bitvec_to_nat, Nat.reduceAdd, Nat.reduceMul, Nat.reduceBEq, reduceCtorEq]), ?_⟩))
            repeat' (first
| refine g_seq ?_
| refine g_region ?_
| (refine o_go rfl ?_; (first
| refine p_p (ps_load_boxA rfl rfl rfl (by exact Nat.le_of_ble_eq_true rfl)) ?_
| refine p_e rfl (e_store_boxA rfl rfl rfl rfl (by exact Nat.le_of_ble_eq_true rfl) rfl rfl rfl) ?_); refine ⟨_, (by dsimp only [bitvec_to_nat, Nat.reduceAdd, Nat.reduceMul, Nat.reduceBEq, reduceCtorEq]), ?_⟩)
| refine o_nil ?_
| (refine g_condD rfl (fun hc => ?_) (fun hc => ?_) <;> try (exfalso; omega))
| refine g_exit ?_
| refine g_ret ?_)
            change KRLC _ _ _ _ _ _ .ret _
            exact krlc 0 0 rfl rfl rfl (krC rfl (by exact Nat.le_of_ble_eq_true rfl) rfl)
theorem wY_mono {x z : Nat} {f : Nat → Nat → Bool} (k : Nat) {a b : Nat} (h : f a b = true) : wY x z f k a b = true := by
  induction k with
  | zero => exact h
  | succ k ih =>
    show upW x k z (wY x z f k) a b = true
    unfold upW
    split
    · rename_i e; obtain ⟨rfl, rfl⟩ := e; rw [ih]; rfl
    · exact ih
theorem wX_mono {n z : Nat} {f : Nat → Nat → Bool} (k : Nat) {a b : Nat} (h : f a b = true) : wX n z f k a b = true := by
  induction k with
  | zero => exact h
  | succ k ih => exact wY_mono n ih
theorem wZ_mono {n : Nat} {f : Nat → Nat → Bool} (k : Nat) {a b : Nat} (h : f a b = true) : wZ n f k a b = true := by
  induction k with
  | zero => exact h
  | succ k ih => exact wX_mono n ih
theorem frV_row {n x : Nat} {qs : List (Int × Int)} (hx : x < n) : 1 ≤ ((frV n qs).getD x []).length ∧ ((frV n qs).getD x []).length ≤ n := by
  have he : (frV n qs).getD x [] = upTo n fun a => wZ n (prF qs qs.length) n a x := by unfold frV fromV; simp [hx]
  rw [he]
  refine ⟨?_, upTo_length _ _⟩
  have hm : (x : Int) ∈ upTo n fun a => wZ n (prF qs qs.length) n a x := upTo_mem.2 ⟨by omega, by omega, by
    refine wZ_mono n ?_
    simp [prF, idF]⟩
  exact List.length_pos_of_mem hm
theorem okP_set {R : List (List Int)} {r : List Int} (x : Nat) (h : okP R) (hr : r.length ≤ 1048576) : okP (R.set x r) := by
  refine ⟨by rw [List.length_set]; exact h.1, fun s hs => ?_⟩
  rcases List.mem_or_eq_of_mem_set hs with h' | h'
  · exact h.2 s h'
  · rw [h']; exact hr
theorem okP_own {R : List (List Int)} {k : Nat} (h : okP R) (hk : R.length + k ≤ 1048576) : okP (ownR R k) := by
  refine ⟨by rw [ownR_len]; exact hk, fun s hs => ?_⟩
  rcases List.mem_append.1 hs with h' | h'
  · exact h.2 s h'
  · obtain ⟨i, -, rfl⟩ := List.mem_map.1 h'; simp
theorem draw_picks {c : Cu} {M : Int} (h : c.ok M) (hM : M ≤ 900000) (N : Nat) (hN : N ≤ 100) : ∃ F : Nat → Cu × Int, (F 0).1 = c ∧ (∀ k, k ≤ N → (F k).1.ok (M + 2 * (k : Int))) ∧ ∀ k, k < N → 0 ≤ (F (k + 1)).2 ∧ (F (k + 1)).2 ≤ 1 ∧ LCalls Try.prog 45 (cuB (F k).1) [.hat 0 0, I 2] (cuB (F (k + 1)).1) (I (F (k + 1)).2) := by
  obtain ⟨F, F0, F1, F2⟩ := seq_of (fun k (s : Cu × Int) => s.1.ok (M + 2 * (k : Int))) (fun k s s' => 0 ≤ s'.2 ∧ s'.2 ≤ 1 ∧ LCalls Try.prog 45 (cuB s.1) [.hat 0 0, I 2] (cuB s'.1) (I s'.2)) (c, 0) N (by simpa using h) fun k s hk h1 => by
    obtain ⟨c', x, k1, x0, x1, hc⟩ := pick_L h1 (by omega) 2 (by omega)
    exact ⟨(c', x), by rw [show M + 2 * ((k + 1 : Nat) : Int) = M + 2 * (k : Int) + 2 by omega]; exact k1, x0, by omega, hc⟩
  exact ⟨F, by rw [F0], F1, F2⟩
/-- What a drawn poset comes to. -/
theorem poset_L {c : Cu} {m : Int} (h : c.ok m) (hm : m ≤ 700000) : ∃ c' rows, c'.ok (m + 1000) ∧ okP rows ∧ rows.length ≤ 30 ∧ LCalls Try.prog 43 (cuB c) [.hat 0 0] (cuB c') (posetP rows) := by
  obtain ⟨c1, n0, k1, hn0, ha⟩ := among_L h (by omega) [0, 1, 2, 3, 4, 4, 5, 5, 6, 7] (by simp) (by simp)
  obtain ⟨n, rfl, hn⟩ := mem_nat hn0 (by decide)
  obtain ⟨F, F0, F1, F2⟩ := draw_rows k1 (by omega) n (by omega)
  obtain ⟨f1, f2, f3⟩ := F1 n (Nat.le_refl _)
  obtain ⟨c3, ns, k3, hnl, hns⟩ := names2_L f1 (by omega) n (by omega)
  obtain ⟨c4, b4, k4, h4, h4'⟩ : ∃ c4 b4, c4.ok (m + 2 + 20 * (n : Int) + 2 * (n : Int) + 6 + 2) ∧ (permB ns n = true → LCalls Try.prog 41 (cuB c3) [.hat 0 0, I 2] (cuB c4) (B b4)) ∧ (permB ns n = false → c4 = c3 ∧ b4 = false) := by
    cases hp : permB ns n with
    | false => exact ⟨c3, false, k3.le (by omega), fun h => absurd h (by decide), fun _ => ⟨rfl, rfl⟩⟩
    | true =>
      obtain ⟨c4, b4, k4, h4⟩ := one_L k3 (by omega) 2 (by omega)
      exact ⟨c4, b4, k4, fun _ => h4, fun h => absurd h (by decide)⟩
  obtain ⟨qs, hqt, hqf, hqi, hql⟩ : ∃ qs, (b4 = true → qs = (F n).2.map (renB ns)) ∧ (b4 = false → qs = (F n).2) ∧ pairsIn n qs = true ∧ qs.length ≤ 100 := by
    cases hb : b4 with
    | false => exact ⟨_, fun h => absurd h (by decide), fun _ => rfl, f2, by omega⟩
    | true =>
      have hp : permB ns n = true := by
        cases hp : permB ns n with
        | true => rfl
        | false => have := (h4' hp).2; rw [hb] at this; cases this
      exact ⟨_, fun _ => rfl, fun h => absurd h (by decide), ren_in hp f2, by rw [List.length_map]; omega⟩
  have hfl := frV_len n qs
  have hok : okP (frV n qs) := okP_frV (by omega)
  by_cases hn0 : n = 0
  · exact ⟨c4, frV n qs, k4.le (by omega), hok, by omega, poset_w (c5 := c4) (c6 := c4) (c7 := c4) (c8 := c4) (xv := 0) (b5 := false) (y := 0) (z := 0) hn ha F0 F2 f2 (by omega) hns (by omega) h4 h4' hqt hqf hqi hql (fun _ => ⟨rfl, rfl⟩) (fun h => absurd hn0 h) (fun h => absurd hn0 h) (fun h => absurd hn0 h) (fun h => absurd hn0 h) (fun h => absurd hn0 h) (fun h => absurd hn0 h) (fun h => absurd hn0 h)⟩
  obtain ⟨c5, b5, k5, h5⟩ := one_L k4 (by omega) 16 (by omega)
  cases b5 with
  | false => exact ⟨c5, frV n qs, k5.le (by omega), hok, by omega, poset_w (c6 := c4) (c7 := c4) (c8 := c4) (xv := 0) (y := 0) (z := 0) hn ha F0 F2 f2 (by omega) hns (by omega) h4 h4' hqt hqf hqi hql (fun h => absurd h hn0) (fun _ => h5) (fun _ _ => ⟨rfl, rfl⟩) (fun _ h => absurd h (by decide)) (fun _ h => absurd h (by decide)) (fun _ h => absurd h (by decide)) (fun _ h => absurd h (by decide)) (fun _ h => absurd h (by decide))⟩
  | true =>
    obtain ⟨c6, x0, k6, x00, x01, h6⟩ := pick_L k5 (by omega) (n : Int) (by omega)
    obtain ⟨xv, rfl⟩ : ∃ xv : Nat, x0 = (xv : Int) := ⟨x0.toNat, by omega⟩
    obtain ⟨c7, y, k7, y0, y1, h7⟩ := pick_L k6 (by omega) 4 (by omega)
    have hxv : xv < n := by omega
    obtain ⟨r1, r2⟩ := frV_row (qs := qs) hxv
    have h3 : n ≠ 0 → true = true → xv < n ∧ 1 ≤ ((frV n qs).getD xv []).length ∧ ((frV n qs).getD xv []).length ≤ 10 ∧ LCalls Try.prog 45 (cuB c5) [.hat 0 0, I (n : Int)] (cuB c6) (I (xv : Int)) ∧ LCalls Try.prog 45 (cuB c6) [.hat 0 0, I 4] (cuB c7) (I y) ∧ 0 ≤ y ∧ y < 4 := fun _ _ => ⟨hxv, r1, by omega, h6, h7, y0, by omega⟩
    by_cases e0 : y = 0
    · exact ⟨c7, _, k7.le (by omega), okP_set xv hok (by rw [List.length_drop]; omega), by rw [List.length_set]; omega, poset_w (c8 := c4) (z := 0) hn ha F0 F2 f2 (by omega) hns (by omega) h4 h4' hqt hqf hqi hql (fun h => absurd h hn0) (fun _ => h5) (fun _ h => absurd h (by decide)) h3 (fun _ _ _ => ⟨rfl, rfl⟩) (fun _ _ h => absurd h (by omega)) (fun _ _ h => absurd h (by omega)) (fun _ _ h => absurd h (by omega))⟩
    by_cases e1 : y = 1
    · exact ⟨c7, _, k7.le (by omega), okP_set xv hok (by rw [List.length_append, List.length_cons, List.length_nil]; omega), by rw [List.length_set]; omega, poset_w (c8 := c4) (z := 0) hn ha F0 F2 f2 (by omega) hns (by omega) h4 h4' hqt hqf hqi hql (fun h => absurd h hn0) (fun _ => h5) (fun _ h => absurd h (by decide)) h3 (fun _ _ h => absurd h e0) (fun _ _ _ => ⟨rfl, rfl⟩) (fun _ _ h => absurd h (by omega)) (fun _ _ h => absurd h (by omega))⟩
    by_cases e2 : y = 2
    · obtain ⟨c8, z, k8, -, -, h8⟩ := pick_L k7 (by omega) (n : Int) (by omega)
      have hpl := putV_len ((frV n qs).getD xv []) z
      exact ⟨c8, _, k8.le (by omega), okP_set xv hok (by omega), by rw [List.length_set]; omega, poset_w hn ha F0 F2 f2 (by omega) hns (by omega) h4 h4' hqt hqf hqi hql (fun h => absurd h hn0) (fun _ => h5) (fun _ h => absurd h (by decide)) h3 (fun _ _ h => absurd h e0) (fun _ _ h => absurd h e1) (fun _ _ _ => ⟨h8, rfl, rfl⟩) (fun _ _ h => absurd h (by omega))⟩
    · obtain ⟨D, D0, D1, D2⟩ := draw_picks k7 (by omega) 13 (by omega)
      obtain ⟨N, N1, N2, N3⟩ := first_fail (fun k => decide (((n + k : Nat) : Int) < 10 + (D (k + 1)).2)) 12 12 (Nat.le_refl _) (by
        have := (D2 12 (by omega)).2.1
        simp only [decide_eq_false_iff_not]
        omega)
      refine ⟨(D (N + 1)).1, ownR (frV n qs) N, (D1 (N + 1) (by omega)).le (by omega), okP_own hok (by omega), by rw [ownR_len]; omega, poset_w (c8 := c4) (z := 0) hn ha F0 F2 f2 (by omega) hns (by omega) h4 h4' hqt hqf hqi hql (fun h => absurd h hn0) (fun _ => h5) (fun _ h => absurd h (by decide)) h3 (fun _ _ h => absurd h e0) (fun _ _ h => absurd h e1) (fun _ _ h => absurd h e2) (fun _ _ _ => ⟨fun k => (D k).1, fun k => (D (k + 1)).2, N, D0, N1, fun k hk => ⟨(D2 k (by omega)).1, (D2 k (by omega)).2.1, (D2 k (by omega)).2.2⟩, fun k hk => by simpa using N2 k hk, by simpa using N3, rfl, rfl⟩)⟩
end Go.Proofs.Ytbfmjknngofleaa
