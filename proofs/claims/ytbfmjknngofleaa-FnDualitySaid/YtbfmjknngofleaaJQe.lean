/- Walks: pairs, products, known lattices. -/
import Derived.Test.YtbfmjknngofleaaJQd
import Derived.Test.YtbfmjknngofleaaJZa
namespace Go.Proofs.Ytbfmjknngofleaa
open Go Go.Pv Go.Proofs
attribute [local bitvec_to_nat] St.put St.setObj St.ev killP killA killP1 killH mapHO renP renA ren1 killG killGA killG1 krowP krowA krow1 lendP lendA lend1 unv pinP pin1 elemsM viewM viewN viewV n_set_z n_set_s n_map_c n_map_n getD_z getD_s n_toNat n_cond_t n_cond_f n_len_c n_len_n n_app_c n_app_n n_take_s n_take_z n_drop_s n_drop_z n_get_z n_get_s view viewA view1 elems Nat.zero_add Nat.add_zero Bool.not_true Bool.not_false Nat.one_ne_zero Nat.mul_one

def pairsIn (n : Nat) (ps : List (Int × Int)) : Bool := ps.all fun p => decide (0 ≤ p.1 ∧ p.1 < (n : Int) ∧ 0 ≤ p.2 ∧ p.2 < (n : Int))
def frV (n : Nat) (ps : List (Int × Int)) : List (List Int) := fromV n (wZ n (prF ps ps.length) n) n
theorem frV_len (n : Nat) (ps : List (Int × Int)) : (frV n ps).length = n := fromV_len _ _ _
theorem okP_frV {n : Nat} {ps : List (Int × Int)} (hn : n ≤ 10) : okP (frV n ps) := by
  refine ⟨by rw [frV_len]; omega, fun r hr => ?_⟩
  obtain ⟨y, -, rfl⟩ := List.mem_map.1 hr
  exact Nat.le_trans (upTo_length _ _) (by omega)
theorem pairsIn_at {n : Nat} {ps : List (Int × Int)} (h : pairsIn n ps = true) (i : Nat) (hi : i < ps.length) : 0 ≤ (ps.getD i (0, 0)).1 ∧ (ps.getD i (0, 0)).1 < (n : Int) ∧ 0 ≤ (ps.getD i (0, 0)).2 ∧ (ps.getD i (0, 0)).2 < (n : Int) := by
  have hm : ps.getD i (0, 0) ∈ ps := by rw [List.getD_eq_getElem?_getD, List.getElem?_eq_getElem hi]; exact List.getElem_mem _
  have := List.all_eq_true.1 h _ hm
  simpa using this
theorem from_R (n : Nat) (ps : List (Int × Int)) (hn : n ≤ 10) (hp : ps.length ≤ 1000) (hin : pairsIn n ps = true) : RCalls Try.prog 68 [I (n : Int), pairsP ps] (gridI (frV n ps)) (.agg [.hp 0]) := from_c n ps hn hp (pairsIn_at hin)
theorem viewM_grid (rows : List (List Int)) : viewM [gridI rows] (.agg [.hp 0]) = posetP rows := by
  simp only [viewM, viewV, List.map_cons, List.map_nil, List.getElem?_cons_zero, gridI, List.map_map]; rfl
theorem from_P (n : Nat) (ps : List (Int × Int)) (hn : n ≤ 10) (hp : ps.length ≤ 1000) (hin : pairsIn n ps = true) : PCalls Try.prog 68 [I (n : Int), pairsP ps] (posetP (frV n ps)) := by
  have := rcalls_P rfl (from_R n ps hn hp hin)
  rwa [viewM_grid] at this

/-! ### The pairs of neighbours -/
def pairRow (f : Nat → Nat → Bool) (a k : Nat) : List (Int × Int) := ((List.range k).filter (f a)).map fun b : Nat => ((a : Int), (b : Int))
def pairsX (n : Nat) (f : Nat → Nat → Bool) (x : Nat) : List (Int × Int) := (List.range x).flatMap fun a => pairRow f a n
theorem pairRow_succ (f : Nat → Nat → Bool) (a k : Nat) : pairRow f a (k + 1) = pairRow f a k ++ (if f a k = true then [((a : Int), (k : Int))] else []) := by
  unfold pairRow
  rw [List.range_succ, List.filter_append, List.map_append]
  congr 1
  by_cases h : f a k = true <;> simp [h]
theorem pairsX_succ (n : Nat) (f : Nat → Nat → Bool) (x : Nat) : pairsX n f (x + 1) = pairsX n f x ++ pairRow f x n := by unfold pairsX; rw [List.range_succ, List.flatMap_append]; simp
theorem pairRow_len (f : Nat → Nat → Bool) (a k : Nat) : (pairRow f a k).length ≤ k := by
  unfold pairRow
  rw [List.length_map]
  exact Nat.le_trans (List.length_filter_le _ _) (by simp)
theorem pairsX_len (n : Nat) (f : Nat → Nat → Bool) (x : Nat) : (pairsX n f x).length ≤ x * n := by
  induction x with
  | zero => simp [pairsX]
  | succ x ih => rw [pairsX_succ, List.length_append, Nat.add_mul]; have := pairRow_len f x n; omega
theorem pairsX_in (n : Nat) (f : Nat → Nat → Bool) (x : Nat) (_hx : x ≤ n) : pairsIn n (pairsX n f x) = true := by
  unfold pairsIn
  rw [List.all_eq_true]
  intro p hp
  obtain ⟨a, ha, hp⟩ := List.mem_flatMap.1 hp
  obtain ⟨b, hb, rfl⟩ := List.mem_map.1 hp
  have ha := List.mem_range.1 ha
  have hb := List.mem_range.1 (List.mem_filter.1 hb).1
  simp
  omega
set_option maxHeartbeats 1000000 in
set_option maxRecDepth 100000 in
theorem pairs_R (rows : List (List Int)) (hok : okP rows) (hn : rows.length ≤ 100) : RCalls Try.prog 67 [posetP rows] (.arr true 2 79 ((pairsX rows.length (fun a b => coversB rows (a : Int) (b : Int)) rows.length).map pairP)) (.hp 0) := by
  refine pcallsR1 Try.func67 rfl Try.ntmps67 rfl ?_
  simp only [List.length_cons, List.length_nil, Nat.reduceAdd, Nat.reduceSub, List.replicate_succ, List.replicate_zero, List.cons_append, List.nil_append]
  generalize hf : (fun a b : Nat => coversB rows (a : Int) (b : Int)) = f
  have hll : ((rows.map ints).length : Int) = (rows.length : Int) := by rw [List.length_map]
  repeat' (first
| refine g_seq ?_
| refine g_block ?_
| refine g_region ?_
| (refine o_go rfl ?_; (first
| refine p_e rfl (e_lit0T rfl (by decide)) ?_
| refine p_p (ps_assign rfl) ?_
| refine p_p (ps_box rfl rfl) ?_); refine ⟨_, (by dsimp only [bitvec_to_nat, Nat.reduceAdd, Nat.reduceMul, Nat.reduceBEq, reduceCtorEq]), ?_⟩)
| refine o_nil ?_)
  refine g_loopF (α := Nat) [6] (fun x => [(3, .hp 0), (4, I (x : Int))]) (fun x => [.arr true 2 79 ((pairsX rows.length f x).map pairP)]) (fun x => x ≤ rows.length) (fun x => rows.length - x) 0 (by simp only [havoc, dsts, List.filterMap_cons, List.filterMap_nil, List.foldl_cons, List.foldl_nil, List.cons_append, List.nil_append, List.append_nil, List.set_cons_succ, List.set_cons_zero]; exact rfl) (Nat.zero_le _) ⟨rfl, rfl, trivial⟩ rfl ?_
  rintro x hx
  dsimp only [setMany, List.set_cons_zero, List.set_cons_succ]
  by_cases hxn : x < rows.length
  · repeat' (first
| refine g_seq ?_
| refine g_block ?_
| refine g_region ?_
| (refine o_go rfl ?_; (first
| refine p_p (ps_move rfl) ?_
| refine p_p (ps_assign rfl) ?_
| refine p_p (ps_load_cell rfl rfl) ?_
| refine p_p (ps_lenM rfl rfl rfl) ?_
| refine p_p (ps_lss rfl rfl rfl) ?_
| refine p_p (ps_fieldAddr rfl rfl) ?_); refine ⟨_, (by dsimp only [bitvec_to_nat, Nat.reduceAdd, Nat.reduceMul, Nat.reduceBEq, reduceCtorEq]), ?_⟩)
| refine o_nil ?_
| (refine g_condD rfl (fun hc => ?_) (fun hc => ?_) <;> try (exfalso; omega))
| refine g_skip ?_)
    refine g_loopF (α := Nat) [] (fun y => [(3, .hp 0), (5, I (y : Int))]) (fun y => [.arr true 2 79 ((pairsX rows.length f x ++ pairRow f x y).map pairP)]) (fun y => y ≤ rows.length) (fun y => rows.length - y) 0 (by simp only [havoc, dsts, List.filterMap_cons, List.filterMap_nil, List.foldl_cons, List.foldl_nil, List.cons_append, List.nil_append, List.append_nil, List.set_cons_succ, List.set_cons_zero]; exact rfl) (Nat.zero_le _) ⟨rfl, rfl, trivial⟩ (by simp [pairRow]) ?_
    rintro y hy
    dsimp only [setMany, List.set_cons_zero, List.set_cons_succ]
    have hlp : ((pairsX rows.length f x ++ pairRow f x y).map pairP).length ≤ 10100 := by
      rw [List.length_map, List.length_append]
      have h1 := pairsX_len rows.length f x
      have h2 := pairRow_len f x y
      have h3 : x * rows.length ≤ 100 * 100 := Nat.mul_le_mul (by omega) hn
      omega
    by_cases hyn : y < rows.length
    · have cv := scov_c rows (x : Int) (y : Int) hok ⟨by omega, by omega⟩ ⟨by omega, by omega⟩
      have hfe : coversB rows (x : Int) (y : Int) = f x y := by rw [← hf]
      rw [hfe] at cv
      have hsuc := pairRow_succ f x y
      cases hb : f x y with
      | false =>
        rw [hb] at cv hsuc
        repeat' (first
| refine g_seq ?_
| refine g_block ?_
| refine g_region ?_
| (refine o_go rfl ?_; (first
| refine p_p (ps_call rfl rfl (by (repeat (first | refine ⟨PV.le_refl _, ?_⟩ | refine ⟨PV.le_nn _ _ _, ?_⟩ | refine ⟨PV.le_nil _, ?_⟩ | refine ⟨PV.le_any _, ?_⟩)); exact trivial) (cv)) ?_
| refine p_p (ps_move rfl) ?_
| refine p_p (ps_assign rfl) ?_
| refine p_p (ps_load_cell rfl rfl) ?_
| refine p_p (ps_load_agg rfl rfl (by exact Nat.le_of_ble_eq_true rfl)) ?_
| refine p_p (ps_lenM rfl rfl rfl) ?_
| refine p_p (ps_lss rfl rfl rfl) ?_
| refine p_p (ps_add rfl rfl rfl (by constructor <;> omega)) ?_
| refine p_p (ps_fieldAddr rfl rfl) ?_); refine ⟨_, (by dsimp only [bitvec_to_nat, Nat.reduceAdd, Nat.reduceMul, Nat.reduceBEq, reduceCtorEq]), ?_⟩)
| refine o_nil ?_
| refine g_condF rfl ?_
| (refine g_condD rfl (fun hc => ?_) (fun hc => ?_) <;> try (exfalso; omega))
| refine g_skip ?_)
        refine k_round (y + 1) (by omega) (by omega) (by repeat (first | exact trivial | refine ⟨.inl rfl, ?_⟩ | refine ⟨.inr rfl, ?_⟩)) ⟨rfl, rfl, trivial⟩ (hpLe_cons ?_ (hpLe_nil _))
        rw [hsuc]; simp
      | true =>
        rw [hb] at cv hsuc
        repeat' (first
| refine g_seq ?_
| refine g_block ?_
| refine g_region ?_
| (refine o_go rfl ?_; (first
| refine p_p (ps_call rfl rfl (by (repeat (first | refine ⟨PV.le_refl _, ?_⟩ | refine ⟨PV.le_nn _ _ _, ?_⟩ | refine ⟨PV.le_nil _, ?_⟩ | refine ⟨PV.le_any _, ?_⟩)); exact trivial) (cv)) ?_
| refine p_p (ps_buildArr rfl rfl) ?_
| refine p_p (ps_lits rfl (by exact rfl) (by exact rfl) (by repeat (first | exact trivial | refine ⟨⟨_, rfl, rfl⟩, ?_⟩)) (by decide) (by decide)) ?_
| refine p_e rfl (e_append rfl rfl rfl rfl rfl rfl (by intro p hp c hc; simp at hp; subst hp; cases hc; rfl) rfl (by rw [n_len_c, n_len_n]; omega) (by rw [n_len_c, n_len_n]; omega)) ?_
| refine p_p (ps_move rfl) ?_
| refine p_p (ps_assign rfl) ?_
| refine p_p (ps_load_cell rfl rfl) ?_
| refine p_p (ps_load_agg rfl rfl (by exact Nat.le_of_ble_eq_true rfl)) ?_
| refine p_p (ps_lenM rfl rfl rfl) ?_
| refine p_p (ps_lss rfl rfl rfl) ?_
| refine p_p (ps_add rfl rfl rfl (by constructor <;> omega)) ?_
| refine p_p (ps_fieldAddr rfl rfl) ?_); refine ⟨_, (by dsimp only [bitvec_to_nat, Nat.reduceAdd, Nat.reduceMul, Nat.reduceBEq, reduceCtorEq]), ?_⟩)
| refine o_nil ?_
| refine g_condT rfl ?_
| (refine g_condD rfl (fun hc => ?_) (fun hc => ?_) <;> try (exfalso; omega))
| refine g_skip ?_)
        refine k_round (y + 1) (by omega) (by omega) (by repeat (first | exact trivial | refine ⟨.inl rfl, ?_⟩ | refine ⟨.inr rfl, ?_⟩)) ⟨rfl, rfl, trivial⟩ (hpLe_cons ?_ (hpLe_nil _))
        rw [hsuc, ← List.append_assoc]; simp
    · repeat' (first
| refine g_seq ?_
| refine g_region ?_
| (refine o_go rfl ?_; (first
| refine p_p (ps_move rfl) ?_
| refine p_p (ps_assign rfl) ?_
| refine p_p (ps_load_cell rfl rfl) ?_
| refine p_p (ps_lenM rfl rfl rfl) ?_
| refine p_p (ps_lss rfl rfl rfl) ?_
| refine p_p (ps_add rfl rfl rfl (by constructor <;> omega)) ?_
| refine p_p (ps_fieldAddr rfl rfl) ?_); refine ⟨_, (by dsimp only [bitvec_to_nat, Nat.reduceAdd, Nat.reduceMul, Nat.reduceBEq, reduceCtorEq]), ?_⟩)
| refine o_nil ?_
| (refine g_condD rfl (fun hc => ?_) (fun hc => ?_) <;> try (exfalso; omega))
| refine g_exit ?_)
      refine k_round (x + 1) (by omega) (by omega) (by repeat (first | exact trivial | refine ⟨.inl rfl, ?_⟩ | refine ⟨.inr rfl, ?_⟩)) ⟨rfl, rfl, trivial⟩ (hpLe_cons ?_ (hpLe_nil _))
      rw [pairsX_succ, show y = rows.length by omega]
  · repeat' (first
| refine g_seq ?_
| refine g_region ?_
| (refine o_go rfl ?_; (first
| refine p_p (ps_move rfl) ?_
| refine p_p (ps_assign rfl) ?_
| refine p_p (ps_load_cell rfl rfl) ?_
| refine p_p (ps_lenM rfl rfl rfl) ?_
| refine p_p (ps_lss rfl rfl rfl) ?_
| refine p_p (ps_fieldAddr rfl rfl) ?_); refine ⟨_, (by dsimp only [bitvec_to_nat, Nat.reduceAdd, Nat.reduceMul, Nat.reduceBEq, reduceCtorEq]), ?_⟩)
| refine o_nil ?_
| (refine g_condD rfl (fun hc => ?_) (fun hc => ?_) <;> try (exfalso; omega))
| refine krr 0 rfl (HandOut.arr rfl ?_ (by first | exact sc_map (fun _ => rfl) _ | exact sc_maps (fun _ => rfl) _ | rfl))
| refine g_exit ?_
| refine g_ret ?_)
    rw [show x = rows.length by omega]

/-! ### The product of two posets -/
def prodR (m : Nat) (r s : List Int) : List Int := r.flatMap fun a => s.map fun b => a * (m : Int) + b
def prodX (p q : List (List Int)) (x : Nat) : List (List Int) := (p.take x).flatMap fun r => q.map fun s => prodR q.length r s
theorem prodX_succ (p q : List (List Int)) {x : Nat} (h : x < p.length) : prodX p q (x + 1) = prodX p q x ++ q.map fun s => prodR q.length (p.getD x []) s := by unfold prodX; rw [take_snoc [] h, List.flatMap_append]; simp
theorem prodX_len (p q : List (List Int)) (x : Nat) : (prodX p q x).length ≤ x * q.length := by
  induction x with
  | zero => simp [prodX]
  | succ x ih =>
    rw [Nat.add_mul]
    rcases Nat.lt_or_ge x p.length with h | h
    · rw [prodX_succ p q h, List.length_append, List.length_map]; omega
    · unfold prodX at ih ⊢
      rw [List.take_of_length_le (by omega)] at ih ⊢
      omega
theorem prodR_take {m i : Nat} {r s : List Int} (h : i < r.length) : prodR m (r.take (i + 1)) s = prodR m (r.take i) s ++ s.map fun b => r.getD i 0 * (m : Int) + b := by unfold prodR; rw [take_snoc 0 h, List.flatMap_append]; simp
theorem prodR_len (m : Nat) (r s : List Int) : (prodR m r s).length = r.length * s.length := by
  unfold prodR
  induction r with
  | nil => simp
  | cons a r ih => rw [List.flatMap_cons, List.length_append, ih, List.length_map, List.length_cons, Nat.add_mul]; omega
def smallP (p : List (List Int)) : Prop := p.length ≤ 10 ∧ ∀ x, (p.getD x []).length ≤ 10 ∧ ∀ i, 0 ≤ (p.getD x []).getD i 0 ∧ (p.getD x []).getD i 0 ≤ 10
set_option maxHeartbeats 2000000 in
set_option maxRecDepth 100000 in
theorem product_R (p q : List (List Int)) (hp : smallP p) (hq : smallP q) : RCalls Try.prog 73 [posetP p, posetP q] (gridI (prodX p q p.length)) (.agg [.hp 0]) := by
  refine pcallsRC Try.func73 rfl Try.ntmps73 rfl ?_
  simp only [List.length_cons, List.length_nil, Nat.reduceAdd, Nat.reduceSub, List.replicate_succ, List.replicate_zero, List.cons_append, List.nil_append]
  have hpl := hp.1
  have hql := hq.1
  repeat' (first
| refine g_seq ?_
| refine g_block ?_
| refine g_region ?_
| (refine o_go rfl ?_; (first
| refine p_e rfl (e_at (s := "l24_lattices.go:266") rfl (e_lit0G 3 rfl)) ?_
| refine p_p (ps_assign rfl) ?_
| refine p_p (ps_load_cell rfl rfl) ?_
| refine p_p (ps_lenM rfl rfl rfl) ?_
| refine p_p (ps_fieldAddr rfl rfl) ?_
| refine p_e rfl (e_store_boxA rfl rfl rfl rfl (by exact Nat.le_of_ble_eq_true rfl) rfl rfl rfl) ?_
| refine p_e rfl (e_alloc rfl) ?_
| refine p_p (ps_box rfl rfl) ?_
| refine p_p (ps_build rfl rfl) ?_); refine ⟨_, (by dsimp only [bitvec_to_nat, Nat.reduceAdd, Nat.reduceMul, Nat.reduceBEq, reduceCtorEq]), ?_⟩)
| refine o_nil ?_)
  refine g_loopF (α := Nat) [12, 13] (fun x => [(7, I (x : Int))]) (fun x => [.box [nilV], gridI (prodX p q x), .box [.hp 1]]) (fun x => x ≤ p.length) (fun x => p.length - x) 0 (by simp only [havoc, dsts, List.filterMap_cons, List.filterMap_nil, List.foldl_cons, List.foldl_nil, List.cons_append, List.nil_append, List.append_nil, List.set_cons_succ, List.set_cons_zero]; exact rfl) (Nat.zero_le _) ⟨rfl, trivial⟩ rfl ?_
  rintro x hx
  dsimp only [setMany, List.set_cons_zero, List.set_cons_succ]
  have hxl := prodX_len p q x
  by_cases hxn : x < p.length
  · repeat' (first
| refine g_seq ?_
| refine g_block ?_
| refine g_region ?_
| (refine o_go rfl ?_; (first
| refine p_p (ps_move rfl) ?_
| refine p_p (ps_assign rfl) ?_
| refine p_p (ps_load_cell rfl rfl) ?_
| refine p_p (ps_lenM rfl rfl rfl) ?_
| refine p_p (ps_lss rfl rfl rfl) ?_
| refine p_p (ps_fieldAddr rfl rfl) ?_); refine ⟨_, (by dsimp only [bitvec_to_nat, Nat.reduceAdd, Nat.reduceMul, Nat.reduceBEq, reduceCtorEq]), ?_⟩)
| refine o_nil ?_
| (refine g_condD rfl (fun hc => ?_) (fun hc => ?_) <;> try (exfalso; omega))
| refine g_skip ?_)
    have hsx := prodX_succ p q hxn
    generalize hr : p.getD x [] = r at hsx
    have hr1 := (hp.2 x).1
    have hr2 := (hp.2 x).2
    rw [hr] at hr1 hr2
    refine g_loopF (α := Nat) [] (fun y => [(8, I (y : Int))]) (fun y => [.box [nilV], gridI (prodX p q x ++ (q.take y).map fun s => prodR q.length r s), .box [.hp 1]]) (fun y => y ≤ q.length) (fun y => q.length - y) 0 (by simp only [havoc, dsts, List.filterMap_cons, List.filterMap_nil, List.foldl_cons, List.foldl_nil, List.cons_append, List.nil_append, List.append_nil, List.set_cons_succ, List.set_cons_zero]; exact rfl) (Nat.zero_le _) ⟨rfl, trivial⟩ (by simp) ?_
    rintro y hy
    dsimp only [setMany, List.set_cons_zero, List.set_cons_succ]
    have hgl : ((prodX p q x ++ (q.take y).map fun s => prodR q.length r s).map fun r => r.map I).length ≤ 1000 := by
      rw [List.length_map, List.length_append, List.length_map, List.length_take]
      have h3 : x * q.length ≤ 10 * 10 := Nat.mul_le_mul (by omega) hql
      omega
    by_cases hyn : y < q.length
    · repeat' (first
| refine g_seq ?_
| refine g_block ?_
| refine g_region ?_
| (refine o_go rfl ?_; (first
| refine p_e rfl (e_lit0T rfl (by decide)) ?_
| refine p_p (ps_move rfl) ?_
| refine p_p (ps_assign rfl) ?_
| refine p_p (ps_lss rfl rfl rfl) ?_); refine ⟨_, (by dsimp only [bitvec_to_nat, Nat.reduceAdd, Nat.reduceMul, Nat.reduceBEq, reduceCtorEq]), ?_⟩)
| refine o_nil ?_
| (refine g_condD rfl (fun hc => ?_) (fun hc => ?_) <;> try (exfalso; omega))
| refine g_skip ?_)
      have hty := take_snoc [] hyn
      generalize hs : q.getD y [] = s at hty
      have hs1 := (hq.2 y).1
      have hs2 := (hq.2 y).2
      rw [hs] at hs1 hs2
      refine g_loopF (α := Nat) [29] (fun i => [(9, .hp 3), (10, I (i : Int))]) (fun i => [.box [nilV], gridI (prodX p q x ++ (q.take y).map fun s => prodR q.length r s), .box [.hp 1], .arr true 1 3 ((prodR q.length (r.take i) s).map I)]) (fun i => i ≤ r.length) (fun i => r.length - i) 0 (by simp only [havoc, dsts, List.filterMap_cons, List.filterMap_nil, List.foldl_cons, List.foldl_nil, List.cons_append, List.nil_append, List.append_nil, List.set_cons_succ, List.set_cons_zero]; exact rfl) (Nat.zero_le _) ⟨rfl, rfl, trivial⟩ rfl ?_
      rintro i hi
      dsimp only [setMany, List.set_cons_zero, List.set_cons_succ]
      have hrl : (p.getD x []).length = r.length := by rw [hr]
      by_cases hin : i < r.length
      · repeat' (first
| refine g_seq ?_
| refine g_block ?_
| refine g_region ?_
| (refine o_go rfl ?_; (first
| refine p_p (ps_move rfl) ?_
| refine p_p (ps_assign rfl) ?_
| refine p_p (ps_load_cell rfl rfl) ?_
| refine p_p (ps_index rfl rfl rfl (by omega) (by first | exact idx_I (by omega) | exact idx_B (by omega) | exact idx_ints (by omega) | exact idx_bools (by omega) | exact idx_intss (by omega) | rfl) (by exact rfl)) ?_
| refine p_p (ps_lenM rfl rfl rfl) ?_
| refine p_p (ps_lss rfl rfl rfl) ?_
| refine p_p (ps_fieldAddr rfl rfl) ?_); refine ⟨_, (by dsimp only [bitvec_to_nat, Nat.reduceAdd, Nat.reduceMul, Nat.reduceBEq, reduceCtorEq]), ?_⟩)
| refine o_nil ?_
| (refine g_condD rfl (fun hc => ?_) (fun hc => ?_) <;> try (exfalso; omega))
| refine g_skip ?_)
        have hti := prodR_take (m := q.length) (s := s) hin
        have hri := hr2 i
        refine g_loopF (α := Nat) [] (fun k => [(9, .hp 3), (11, I (k : Int))]) (fun k => [.box [nilV], gridI (prodX p q x ++ (q.take y).map fun s => prodR q.length r s), .box [.hp 1], .arr true 1 3 ((prodR q.length (r.take i) s ++ (s.take k).map fun b => r.getD i 0 * (q.length : Int) + b).map I)]) (fun k => k ≤ s.length) (fun k => s.length - k) 0 (by simp only [havoc, dsts, List.filterMap_cons, List.filterMap_nil, List.foldl_cons, List.foldl_nil, List.cons_append, List.nil_append, List.append_nil, List.set_cons_succ, List.set_cons_zero]; exact rfl) (Nat.zero_le _) ⟨rfl, rfl, trivial⟩ (by simp) ?_
        rintro k hk
        dsimp only [setMany, List.set_cons_zero, List.set_cons_succ]
        have hsl : (q.getD y []).length = s.length := by rw [hs]
        have hal : ((prodR q.length (r.take i) s ++ (s.take k).map fun b => r.getD i 0 * (q.length : Int) + b).map I).length ≤ 1000 := by
          rw [List.length_map, List.length_append, prodR_len, List.length_map, List.length_take, List.length_take]
          have h3 : min i r.length * s.length ≤ 10 * 10 := Nat.mul_le_mul (by omega) hs1
          omega
        by_cases hkn : k < s.length
        · have hmul : 0 ≤ (p.getD x []).getD i 0 * (q.length : Int) ∧ (p.getD x []).getD i 0 * (q.length : Int) ≤ 100 := by
            rw [hr]
            refine ⟨Int.mul_nonneg hri.1 (by omega), ?_⟩
            have := Int.mul_le_mul hri.2 (show (q.length : Int) ≤ 10 by omega) (by omega) (by omega)
            omega
          have hqk : 0 ≤ (q.getD y []).getD k 0 ∧ (q.getD y []).getD k 0 ≤ 10 := by rw [hs]; exact hs2 k
          repeat' (first
| refine g_seq ?_
| refine g_block ?_
| refine g_region ?_
| refine g_region_draw (by kernel_rfl) (by kernel_rfl) ?_
| (refine o_go rfl ?_; (first
| refine p_p (ps_mul rfl rfl rfl (by constructor <;> omega)) ?_
| refine p_e (by kernel_rfl) (e_append rfl rfl rfl rfl rfl rfl (one_one rfl) rfl (by rw [n_len_c, n_len_n]; omega) (by rw [n_len_c, n_len_n]; omega)) ?_
| refine p_p (ps_move rfl) ?_
| refine p_p (ps_assign rfl) ?_
| refine p_p (ps_load_cell rfl rfl) ?_
| refine p_p (ps_index rfl rfl rfl (by omega) (by first | exact idx_I (by omega) | exact idx_B (by omega) | exact idx_ints (by omega) | exact idx_bools (by omega) | exact idx_intss (by omega) | rfl) (by exact rfl)) ?_
| refine p_p (ps_lenM rfl rfl rfl) ?_
| refine p_p (ps_lss rfl rfl rfl) ?_
| refine p_p (ps_add rfl rfl rfl (by constructor <;> omega)) ?_
| refine p_p (ps_fieldAddr rfl rfl) ?_
| refine p_p (ps_lit1 rfl rfl (by rfl) (by rfl)) ?_); refine ⟨_, (by dsimp only [bitvec_to_nat, Nat.reduceAdd, Nat.reduceMul, Nat.reduceBEq, reduceCtorEq]), ?_⟩)
| refine o_nil ?_
| (refine g_condD rfl (fun hc => ?_) (fun hc => ?_) <;> try (exfalso; omega))
| refine g_skip ?_)
          refine k_round (k + 1) (by omega) (by omega) (by repeat (first | exact trivial | refine ⟨.inl rfl, ?_⟩ | refine ⟨.inr rfl, ?_⟩)) ⟨rfl, rfl, trivial⟩ (hpLe_cons rfl (hpLe_cons rfl (hpLe_cons rfl (hpLe_cons ?_ (hpLe_nil _)))))
          rw [take_snoc 0 hkn, hr, hs]; simp
        · repeat' (first
| refine g_seq ?_
| refine g_region ?_
| (refine o_go rfl ?_; (first
| refine p_p (ps_move rfl) ?_
| refine p_p (ps_assign rfl) ?_
| refine p_p (ps_load_cell rfl rfl) ?_
| refine p_p (ps_index rfl rfl rfl (by omega) (by first | exact idx_I (by omega) | exact idx_B (by omega) | exact idx_ints (by omega) | exact idx_bools (by omega) | exact idx_intss (by omega) | rfl) (by exact rfl)) ?_
| refine p_p (ps_lenM rfl rfl rfl) ?_
| refine p_p (ps_lss rfl rfl rfl) ?_
| refine p_p (ps_add rfl rfl rfl (by constructor <;> omega)) ?_
| refine p_p (ps_fieldAddr rfl rfl) ?_); refine ⟨_, (by dsimp only [bitvec_to_nat, Nat.reduceAdd, Nat.reduceMul, Nat.reduceBEq, reduceCtorEq]), ?_⟩)
| refine o_nil ?_
| (refine g_condD rfl (fun hc => ?_) (fun hc => ?_) <;> try (exfalso; omega))
| refine g_exit ?_)
          refine k_round (i + 1) (by omega) (by omega) (by repeat (first | exact trivial | refine ⟨.inl rfl, ?_⟩ | refine ⟨.inr rfl, ?_⟩)) ⟨rfl, rfl, trivial⟩ (hpLe_cons rfl (hpLe_cons rfl (hpLe_cons rfl (hpLe_cons ?_ (hpLe_nil _)))))
          rw [hti, List.take_of_length_le (show s.length ≤ k by omega)]
      · repeat' (first
| refine g_seq ?_
| refine g_region ?_
| (refine o_go rfl ?_; (first
| refine p_e rfl (e_lit1G rfl rfl rfl (one_all (fun _ => rfl) _)) ?_
| refine p_e rfl (e_append_grid rfl rfl rfl rfl rfl rfl rfl (by rw [n_len_c, n_len_n]; omega) (by rw [n_len_c, n_len_n]; omega)) ?_
| refine p_p (ps_move rfl) ?_
| refine p_p (ps_assign rfl) ?_
| refine p_p (ps_load_cell rfl rfl) ?_
| refine p_p (ps_index rfl rfl rfl (by omega) (by first | exact idx_I (by omega) | exact idx_B (by omega) | exact idx_ints (by omega) | exact idx_bools (by omega) | exact idx_intss (by omega) | rfl) (by exact rfl)) ?_
| refine p_p (ps_lenM rfl rfl rfl) ?_
| refine p_p (ps_lss rfl rfl rfl) ?_
| refine p_p (ps_add rfl rfl rfl (by constructor <;> omega)) ?_
| refine p_p (ps_fieldAddr rfl rfl) ?_
| refine p_p (ps_load_box rfl rfl rfl rfl) ?_
| refine p_p (ps_fieldAddr_hat rfl rfl) ?_
| refine p_e rfl (e_store_boxC rfl rfl rfl rfl (by exact Nat.le_of_ble_eq_true rfl) rfl rfl) ?_); refine ⟨_, (by dsimp only [bitvec_to_nat, Nat.reduceAdd, Nat.reduceMul, Nat.reduceBEq, reduceCtorEq]), ?_⟩)
| refine o_nil ?_
| (refine g_condD rfl (fun hc => ?_) (fun hc => ?_) <;> try (exfalso; omega))
| refine g_exit ?_)
        refine k_round (y + 1) (by omega) (by omega) (by repeat (first | exact trivial | refine ⟨.inl rfl, ?_⟩ | refine ⟨.inr rfl, ?_⟩)) ⟨rfl, trivial⟩ (hpLe_cons rfl (hpLe_cons ?_ (hpLe_cons rfl (hpLe_nil _))))
        rw [hty, List.take_of_length_le (show r.length ≤ i by omega)]; simp [gridI]
    · repeat' (first
| refine g_seq ?_
| refine g_region ?_
| (refine o_go rfl ?_; (first
| refine p_p (ps_move rfl) ?_
| refine p_p (ps_assign rfl) ?_
| refine p_p (ps_lss rfl rfl rfl) ?_
| refine p_p (ps_add rfl rfl rfl (by constructor <;> omega)) ?_); refine ⟨_, (by dsimp only [bitvec_to_nat, Nat.reduceAdd, Nat.reduceMul, Nat.reduceBEq, reduceCtorEq]), ?_⟩)
| refine o_nil ?_
| (refine g_condD rfl (fun hc => ?_) (fun hc => ?_) <;> try (exfalso; omega))
| refine g_exit ?_)
      refine k_round (x + 1) (by omega) (by omega) (by repeat (first | exact trivial | refine ⟨.inl rfl, ?_⟩ | refine ⟨.inr rfl, ?_⟩)) ⟨rfl, trivial⟩ (hpLe_cons rfl (hpLe_cons ?_ (hpLe_cons rfl (hpLe_nil _))))
      rw [hsx, List.take_of_length_le (show q.length ≤ y by omega)]
  · repeat' (first
| refine g_seq ?_
| refine g_region ?_
| (refine o_go rfl ?_; (first
| refine p_p (ps_move rfl) ?_
| refine p_p (ps_load_cell rfl rfl) ?_
| refine p_p (ps_lenM rfl rfl rfl) ?_
| refine p_p (ps_lss rfl rfl rfl) ?_
| refine p_p (ps_fieldAddr rfl rfl) ?_
| refine p_p (ps_load_boxA rfl rfl rfl (by exact Nat.le_of_ble_eq_true rfl)) ?_
| refine p_e rfl (e_store_boxA rfl rfl rfl rfl (by exact Nat.le_of_ble_eq_true rfl) rfl rfl rfl) ?_); refine ⟨_, (by dsimp only [bitvec_to_nat, Nat.reduceAdd, Nat.reduceMul, Nat.reduceBEq, reduceCtorEq]), ?_⟩)
| refine o_nil ?_
| (refine g_condD rfl (fun hc => ?_) (fun hc => ?_) <;> try (exfalso; omega))
| refine g_exit ?_
| refine g_ret ?_)
    refine krrc 1 0 rfl rfl (HandOut.grid rfl ?_ (sc_maps (fun _ => rfl) _))
    rw [show x = p.length by omega]

theorem smallP_frV {n : Nat} {ps : List (Int × Int)} (hn : n ≤ 10) : smallP (frV n ps) := by
  refine ⟨by rw [frV_len]; exact hn, fun x => ?_⟩
  rcases Nat.lt_or_ge x (frV n ps).length with h | h
  · have hm : (frV n ps).getD x [] ∈ frV n ps := by rw [List.getD_eq_getElem?_getD, List.getElem?_eq_getElem h]; exact List.getElem_mem _
    obtain ⟨y, -, he⟩ := List.mem_map.1 hm
    rw [← he]
    refine ⟨Nat.le_trans (upTo_length _ _) hn, fun i => ?_⟩
    rcases Nat.lt_or_ge i (upTo n fun x => wZ n (prF ps ps.length) n x y).length with h' | h'
    · have := upTo_getD h'
      omega
    · rw [List.getD_eq_getElem?_getD, List.getElem?_eq_none h']; simp
  · rw [List.getD_eq_getElem?_getD, List.getElem?_eq_none h]; simp
theorem product_P (p q : List (List Int)) (hp : smallP p) (hq : smallP q) : PCalls Try.prog 73 [posetP p, posetP q] (posetP (prodX p q p.length)) := by
  have := rcalls_P rfl (product_R p q hp hq)
  rwa [viewM_grid] at this
theorem okP_prodX {p q : List (List Int)} (hp : smallP p) (hq : smallP q) : okP (prodX p q p.length) ∧ (prodX p q p.length).length ≤ p.length * q.length := by
  have h1 := prodX_len p q p.length
  refine ⟨⟨Nat.le_trans h1 (Nat.le_trans (Nat.mul_le_mul hp.1 hq.1) (by decide)), fun r hr => ?_⟩, h1⟩
  obtain ⟨a, ha, hr⟩ := List.mem_flatMap.1 hr
  obtain ⟨b, hb, rfl⟩ := List.mem_map.1 hr
  rw [prodR_len]
  obtain ⟨i, hi⟩ := List.getElem?_of_mem (List.mem_of_mem_take ha)
  obtain ⟨j, hj⟩ := List.getElem?_of_mem hb
  have h2 := (hp.2 i).1
  have h3 := (hq.2 j).1
  rw [List.getD_eq_getElem?_getD, hi] at h2
  rw [List.getD_eq_getElem?_getD, hj] at h3
  exact Nat.le_trans (Nat.mul_le_mul h2 h3) (by decide)

/-! ### The known lattices -/
def knV (k : Int) : List (List Int) :=
  if k = 0 then frV 1 []
  else if k = 1 then frV 2 [(0, 1)]
  else if k = 2 then frV 4 [(0, 1), (1, 2), (2, 3)]
  else if k = 3 then frV 4 [(0, 1), (0, 2), (1, 3), (2, 3)]
  else if k = 4 then frV 5 [(0, 1), (0, 2), (0, 3), (1, 4), (2, 4), (3, 4)]
  else if k = 5 then frV 5 [(0, 1), (1, 2), (0, 3), (2, 4), (3, 4)]
  else if k = 6 then frV 8 [(0, 1), (0, 2), (0, 3), (1, 4), (1, 5), (2, 4), (2, 6), (3, 5), (3, 6), (4, 7), (5, 7), (6, 7)]
  else if k = 7 then frV 6 [(0, 1), (0, 2), (1, 3), (2, 3), (2, 4), (3, 5), (4, 5)]
  else if k = 8 then frV 6 [(0, 1), (0, 2), (1, 3), (2, 4), (3, 5), (4, 5)]
  else if k = 9 then frV 7 [(0, 1), (0, 2), (0, 3), (1, 4), (2, 4), (3, 5), (2, 5), (4, 6), (5, 6)]
  else if k = 10 then prodX (frV 3 [(0, 1), (1, 2)]) (frV 3 [(0, 1), (1, 2)]) 3
  else frV 3 [(0, 1), (1, 2)]
def smallK (r : List (List Int)) : Prop := okP r ∧ r.length ≤ 9
theorem smallK_if {c : Prop} [Decidable c] {a b : List (List Int)} (h1 : smallK a) (h2 : smallK b) : smallK (if c then a else b) := by split <;> assumption
theorem smallK_fr (n : Nat) (ps : List (Int × Int)) (hn : n ≤ 9) : smallK (frV n ps) := ⟨okP_frV (by omega), by rw [frV_len]; exact hn⟩
theorem smallK_prod : smallK (prodX (frV 3 [(0, 1), (1, 2)]) (frV 3 [(0, 1), (1, 2)]) 3) := by
  have h3 : smallP (frV 3 [(0, 1), (1, 2)]) := smallP_frV (by decide)
  have hp3 := okP_prodX h3 h3
  rw [frV_len] at hp3
  exact hp3
theorem knV_ok (k : Int) : okP (knV k) ∧ (knV k).length ≤ 9 := by
  show smallK (knV k)
  unfold knV
  exact smallK_if (smallK_fr 1 _ (by decide)) (smallK_if (smallK_fr 2 _ (by decide)) (smallK_if (smallK_fr 4 _ (by decide)) (smallK_if (smallK_fr 4 _ (by decide)) (smallK_if (smallK_fr 5 _ (by decide)) (smallK_if (smallK_fr 5 _ (by decide)) (smallK_if (smallK_fr 8 _ (by decide)) (smallK_if (smallK_fr 6 _ (by decide)) (smallK_if (smallK_fr 6 _ (by decide)) (smallK_if (smallK_fr 7 _ (by decide)) (smallK_if smallK_prod (smallK_fr _ _ (by decide))))))))))))
set_option maxHeartbeats 4000000 in
set_option maxRecDepth 100000 in
theorem known_c (k : Int) : PCalls Try.prog 44 [I k] (posetP (knV k)) := by
  refine pcallsC Try.func44 rfl Try.ntmps44 rfl ?_
  simp only [List.length_cons, List.length_nil, Nat.reduceAdd, Nat.reduceSub, List.replicate_succ, List.replicate_zero, List.cons_append, List.nil_append]
  by_cases h0 : k = 0
  · subst h0
    have c1 := from_P 1 [] (by decide) (by decide) (by decide)
    repeat' (first
| refine g_seq ?_
| refine g_block ?_
| refine g_region ?_
| (refine o_go rfl ?_; (first
| refine p_p (ps_lits rfl (by exact rfl) (by exact rfl) (by repeat (first | exact trivial | refine ⟨⟨_, rfl, rfl⟩, ?_⟩)) (by decide) (by decide)) ?_
| refine p_p (ps_call rfl rfl (by (repeat (first | refine ⟨PV.le_refl _, ?_⟩ | refine ⟨PV.le_nn _ _ _, ?_⟩ | refine ⟨PV.le_nil _, ?_⟩ | refine ⟨PV.le_any _, ?_⟩)); exact trivial) (c1)) ?_
| refine p_p (ps_move rfl) ?_
| refine p_p (ps_assign rfl) ?_
| refine p_p (ps_eql rfl rfl rfl) ?_
| refine p_e rfl (e_store_boxA rfl rfl rfl rfl (by exact Nat.le_of_ble_eq_true rfl) rfl rfl rfl) ?_
| refine p_e rfl (e_alloc rfl) ?_); refine ⟨_, (by dsimp only [bitvec_to_nat, Nat.reduceAdd, Nat.reduceMul, Nat.reduceBEq, reduceCtorEq]), ?_⟩)
| refine o_nil ?_
| refine g_condT rfl ?_
| refine krc ?_
| refine krC rfl (by exact Nat.le_of_ble_eq_true rfl) ?_
| refine g_ret ?_)
    rfl
  by_cases h1 : k = 1
  · subst h1
    have c1 := from_P 2 [(0, 1)] (by decide) (by decide) (by decide)
    repeat' (first
| refine g_seq ?_
| refine g_block ?_
| refine g_region ?_
| (refine o_go rfl ?_; (first
| refine p_p (ps_lits rfl (by exact rfl) (by exact rfl) (by repeat (first | exact trivial | refine ⟨⟨_, rfl, rfl⟩, ?_⟩)) (by decide) (by decide)) ?_
| refine p_p (ps_buildArr rfl rfl) ?_
| refine p_p (ps_call rfl rfl (by (repeat (first | refine ⟨PV.le_refl _, ?_⟩ | refine ⟨PV.le_nn _ _ _, ?_⟩ | refine ⟨PV.le_nil _, ?_⟩ | refine ⟨PV.le_any _, ?_⟩)); exact trivial) (c1)) ?_
| refine p_p (ps_move rfl) ?_
| refine p_p (ps_assign rfl) ?_
| refine p_p (ps_eql rfl rfl rfl) ?_
| refine p_e rfl (e_store_boxA rfl rfl rfl rfl (by exact Nat.le_of_ble_eq_true rfl) rfl rfl rfl) ?_
| refine p_e rfl (e_alloc rfl) ?_); refine ⟨_, (by dsimp only [bitvec_to_nat, Nat.reduceAdd, Nat.reduceMul, Nat.reduceBEq, reduceCtorEq]), ?_⟩)
| refine o_nil ?_
| refine g_condT rfl ?_
| refine g_condF rfl ?_
| refine krc ?_
| refine krC rfl (by exact Nat.le_of_ble_eq_true rfl) ?_
| refine g_ret ?_)
    rfl
  by_cases h2 : k = 2
  · subst h2
    have c1 := from_P 4 [(0, 1), (1, 2), (2, 3)] (by decide) (by decide) (by decide)
    repeat' (first
| refine g_seq ?_
| refine g_block ?_
| refine g_region ?_
| (refine o_go rfl ?_; (first
| refine p_p (ps_lits rfl (by exact rfl) (by exact rfl) (by repeat (first | exact trivial | refine ⟨⟨_, rfl, rfl⟩, ?_⟩)) (by decide) (by decide)) ?_
| refine p_p (ps_buildArr rfl rfl) ?_
| refine p_p (ps_call rfl rfl (by (repeat (first | refine ⟨PV.le_refl _, ?_⟩ | refine ⟨PV.le_nn _ _ _, ?_⟩ | refine ⟨PV.le_nil _, ?_⟩ | refine ⟨PV.le_any _, ?_⟩)); exact trivial) (c1)) ?_
| refine p_p (ps_move rfl) ?_
| refine p_p (ps_assign rfl) ?_
| refine p_p (ps_eql rfl rfl rfl) ?_
| refine p_e rfl (e_store_boxA rfl rfl rfl rfl (by exact Nat.le_of_ble_eq_true rfl) rfl rfl rfl) ?_
| refine p_e rfl (e_alloc rfl) ?_); refine ⟨_, (by dsimp only [bitvec_to_nat, Nat.reduceAdd, Nat.reduceMul, Nat.reduceBEq, reduceCtorEq]), ?_⟩)
| refine o_nil ?_
| refine g_condT rfl ?_
| refine g_condF rfl ?_
| refine krc ?_
| refine krC rfl (by exact Nat.le_of_ble_eq_true rfl) ?_
| refine g_ret ?_)
    rfl
  by_cases h3 : k = 3
  · subst h3
    have c1 := from_P 4 [(0, 1), (0, 2), (1, 3), (2, 3)] (by decide) (by decide) (by decide)
    repeat' (first
| refine g_seq ?_
| refine g_block ?_
| refine g_region ?_
| (refine o_go rfl ?_; (first
| refine p_p (ps_lits rfl (by exact rfl) (by exact rfl) (by repeat (first | exact trivial | refine ⟨⟨_, rfl, rfl⟩, ?_⟩)) (by decide) (by decide)) ?_
| refine p_p (ps_buildArr rfl rfl) ?_
| refine p_p (ps_call rfl rfl (by (repeat (first | refine ⟨PV.le_refl _, ?_⟩ | refine ⟨PV.le_nn _ _ _, ?_⟩ | refine ⟨PV.le_nil _, ?_⟩ | refine ⟨PV.le_any _, ?_⟩)); exact trivial) (c1)) ?_
| refine p_p (ps_move rfl) ?_
| refine p_p (ps_assign rfl) ?_
| refine p_p (ps_eql rfl rfl rfl) ?_
| refine p_e rfl (e_store_boxA rfl rfl rfl rfl (by exact Nat.le_of_ble_eq_true rfl) rfl rfl rfl) ?_
| refine p_e rfl (e_alloc rfl) ?_); refine ⟨_, (by dsimp only [bitvec_to_nat, Nat.reduceAdd, Nat.reduceMul, Nat.reduceBEq, reduceCtorEq]), ?_⟩)
| refine o_nil ?_
| refine g_condT rfl ?_
| refine g_condF rfl ?_
| refine krc ?_
| refine krC rfl (by exact Nat.le_of_ble_eq_true rfl) ?_
| refine g_ret ?_)
    rfl
  by_cases h4 : k = 4
  · subst h4
    have c1 := from_P 5 [(0, 1), (0, 2), (0, 3), (1, 4), (2, 4), (3, 4)] (by decide) (by decide) (by decide)
    repeat' (first
| refine g_seq ?_
| refine g_block ?_
| refine g_region ?_
| (refine o_go rfl ?_; (first
| refine p_p (ps_lits rfl (by exact rfl) (by exact rfl) (by repeat (first | exact trivial | refine ⟨⟨_, rfl, rfl⟩, ?_⟩)) (by decide) (by decide)) ?_
| refine p_p (ps_buildArr rfl rfl) ?_
| refine p_p (ps_call rfl rfl (by (repeat (first | refine ⟨PV.le_refl _, ?_⟩ | refine ⟨PV.le_nn _ _ _, ?_⟩ | refine ⟨PV.le_nil _, ?_⟩ | refine ⟨PV.le_any _, ?_⟩)); exact trivial) (c1)) ?_
| refine p_p (ps_move rfl) ?_
| refine p_p (ps_assign rfl) ?_
| refine p_p (ps_eql rfl rfl rfl) ?_
| refine p_e rfl (e_store_boxA rfl rfl rfl rfl (by exact Nat.le_of_ble_eq_true rfl) rfl rfl rfl) ?_
| refine p_e rfl (e_alloc rfl) ?_); refine ⟨_, (by dsimp only [bitvec_to_nat, Nat.reduceAdd, Nat.reduceMul, Nat.reduceBEq, reduceCtorEq]), ?_⟩)
| refine o_nil ?_
| refine g_condT rfl ?_
| refine g_condF rfl ?_
| refine krc ?_
| refine krC rfl (by exact Nat.le_of_ble_eq_true rfl) ?_
| refine g_ret ?_)
    rfl
  by_cases h5 : k = 5
  · subst h5
    have c1 := from_P 5 [(0, 1), (1, 2), (0, 3), (2, 4), (3, 4)] (by decide) (by decide) (by decide)
    repeat' (first
| refine g_seq ?_
| refine g_block ?_
| refine g_region ?_
| (refine o_go rfl ?_; (first
| refine p_p (ps_lits rfl (by exact rfl) (by exact rfl) (by repeat (first | exact trivial | refine ⟨⟨_, rfl, rfl⟩, ?_⟩)) (by decide) (by decide)) ?_
| refine p_p (ps_buildArr rfl rfl) ?_
| refine p_p (ps_call rfl rfl (by (repeat (first | refine ⟨PV.le_refl _, ?_⟩ | refine ⟨PV.le_nn _ _ _, ?_⟩ | refine ⟨PV.le_nil _, ?_⟩ | refine ⟨PV.le_any _, ?_⟩)); exact trivial) (c1)) ?_
| refine p_p (ps_move rfl) ?_
| refine p_p (ps_assign rfl) ?_
| refine p_p (ps_eql rfl rfl rfl) ?_
| refine p_e rfl (e_store_boxA rfl rfl rfl rfl (by exact Nat.le_of_ble_eq_true rfl) rfl rfl rfl) ?_
| refine p_e rfl (e_alloc rfl) ?_); refine ⟨_, (by dsimp only [bitvec_to_nat, Nat.reduceAdd, Nat.reduceMul, Nat.reduceBEq, reduceCtorEq]), ?_⟩)
| refine o_nil ?_
| refine g_condT rfl ?_
| refine g_condF rfl ?_
| refine krc ?_
| refine krC rfl (by exact Nat.le_of_ble_eq_true rfl) ?_
| refine g_ret ?_)
    rfl
  by_cases h6 : k = 6
  · subst h6
    have c1 := from_P 8 [(0, 1), (0, 2), (0, 3), (1, 4), (1, 5), (2, 4), (2, 6), (3, 5), (3, 6), (4, 7), (5, 7), (6, 7)] (by decide) (by decide) (by decide)
    repeat' (first
| refine g_seq ?_
| refine g_block ?_
| refine g_region ?_
| (refine o_go rfl ?_; (first
| refine p_p (ps_lits rfl (by exact rfl) (by exact rfl) (by repeat (first | exact trivial | refine ⟨⟨_, rfl, rfl⟩, ?_⟩)) (by decide) (by decide)) ?_
| refine p_p (ps_buildArr rfl rfl) ?_
| refine p_p (ps_call rfl rfl (by (repeat (first | refine ⟨PV.le_refl _, ?_⟩ | refine ⟨PV.le_nn _ _ _, ?_⟩ | refine ⟨PV.le_nil _, ?_⟩ | refine ⟨PV.le_any _, ?_⟩)); exact trivial) (c1)) ?_
| refine p_p (ps_move rfl) ?_
| refine p_p (ps_assign rfl) ?_
| refine p_p (ps_eql rfl rfl rfl) ?_
| refine p_e rfl (e_store_boxA rfl rfl rfl rfl (by exact Nat.le_of_ble_eq_true rfl) rfl rfl rfl) ?_
| refine p_e rfl (e_alloc rfl) ?_); refine ⟨_, (by dsimp only [bitvec_to_nat, Nat.reduceAdd, Nat.reduceMul, Nat.reduceBEq, reduceCtorEq]), ?_⟩)
| refine o_nil ?_
| refine g_condT rfl ?_
| refine g_condF rfl ?_
| refine krc ?_
| refine krC rfl (by exact Nat.le_of_ble_eq_true rfl) ?_
| refine g_ret ?_)
    rfl
  by_cases h7 : k = 7
  · subst h7
    have c1 := from_P 6 [(0, 1), (0, 2), (1, 3), (2, 3), (2, 4), (3, 5), (4, 5)] (by decide) (by decide) (by decide)
    repeat' (first
| refine g_seq ?_
| refine g_block ?_
| refine g_region ?_
| (refine o_go rfl ?_; (first
| refine p_p (ps_lits rfl (by exact rfl) (by exact rfl) (by repeat (first | exact trivial | refine ⟨⟨_, rfl, rfl⟩, ?_⟩)) (by decide) (by decide)) ?_
| refine p_p (ps_buildArr rfl rfl) ?_
| refine p_p (ps_call rfl rfl (by (repeat (first | refine ⟨PV.le_refl _, ?_⟩ | refine ⟨PV.le_nn _ _ _, ?_⟩ | refine ⟨PV.le_nil _, ?_⟩ | refine ⟨PV.le_any _, ?_⟩)); exact trivial) (c1)) ?_
| refine p_p (ps_move rfl) ?_
| refine p_p (ps_assign rfl) ?_
| refine p_p (ps_eql rfl rfl rfl) ?_
| refine p_e rfl (e_store_boxA rfl rfl rfl rfl (by exact Nat.le_of_ble_eq_true rfl) rfl rfl rfl) ?_
| refine p_e rfl (e_alloc rfl) ?_); refine ⟨_, (by dsimp only [bitvec_to_nat, Nat.reduceAdd, Nat.reduceMul, Nat.reduceBEq, reduceCtorEq]), ?_⟩)
| refine o_nil ?_
| refine g_condT rfl ?_
| refine g_condF rfl ?_
| refine krc ?_
| refine krC rfl (by exact Nat.le_of_ble_eq_true rfl) ?_
| refine g_ret ?_)
    rfl
  by_cases h8 : k = 8
  · subst h8
    have c1 := from_P 6 [(0, 1), (0, 2), (1, 3), (2, 4), (3, 5), (4, 5)] (by decide) (by decide) (by decide)
    repeat' (first
| refine g_seq ?_
| refine g_block ?_
| refine g_region ?_
| (refine o_go rfl ?_; (first
| refine p_p (ps_lits rfl (by exact rfl) (by exact rfl) (by repeat (first | exact trivial | refine ⟨⟨_, rfl, rfl⟩, ?_⟩)) (by decide) (by decide)) ?_
| refine p_p (ps_buildArr rfl rfl) ?_
| refine p_p (ps_call rfl rfl (by (repeat (first | refine ⟨PV.le_refl _, ?_⟩ | refine ⟨PV.le_nn _ _ _, ?_⟩ | refine ⟨PV.le_nil _, ?_⟩ | refine ⟨PV.le_any _, ?_⟩)); exact trivial) (c1)) ?_
| refine p_p (ps_move rfl) ?_
| refine p_p (ps_assign rfl) ?_
| refine p_p (ps_eql rfl rfl rfl) ?_
| refine p_e rfl (e_store_boxA rfl rfl rfl rfl (by exact Nat.le_of_ble_eq_true rfl) rfl rfl rfl) ?_
| refine p_e rfl (e_alloc rfl) ?_); refine ⟨_, (by dsimp only [bitvec_to_nat, Nat.reduceAdd, Nat.reduceMul, Nat.reduceBEq, reduceCtorEq]), ?_⟩)
| refine o_nil ?_
| refine g_condT rfl ?_
| refine g_condF rfl ?_
| refine krc ?_
| refine krC rfl (by exact Nat.le_of_ble_eq_true rfl) ?_
| refine g_ret ?_)
    rfl
  by_cases h9 : k = 9
  · subst h9
    have c1 := from_P 7 [(0, 1), (0, 2), (0, 3), (1, 4), (2, 4), (3, 5), (2, 5), (4, 6), (5, 6)] (by decide) (by decide) (by decide)
    repeat' (first
| refine g_seq ?_
| refine g_block ?_
| refine g_region ?_
| (refine o_go rfl ?_; (first
| refine p_p (ps_lits rfl (by exact rfl) (by exact rfl) (by repeat (first | exact trivial | refine ⟨⟨_, rfl, rfl⟩, ?_⟩)) (by decide) (by decide)) ?_
| refine p_p (ps_buildArr rfl rfl) ?_
| refine p_p (ps_call rfl rfl (by (repeat (first | refine ⟨PV.le_refl _, ?_⟩ | refine ⟨PV.le_nn _ _ _, ?_⟩ | refine ⟨PV.le_nil _, ?_⟩ | refine ⟨PV.le_any _, ?_⟩)); exact trivial) (c1)) ?_
| refine p_p (ps_move rfl) ?_
| refine p_p (ps_assign rfl) ?_
| refine p_p (ps_eql rfl rfl rfl) ?_
| refine p_e rfl (e_store_boxA rfl rfl rfl rfl (by exact Nat.le_of_ble_eq_true rfl) rfl rfl rfl) ?_
| refine p_e rfl (e_alloc rfl) ?_); refine ⟨_, (by dsimp only [bitvec_to_nat, Nat.reduceAdd, Nat.reduceMul, Nat.reduceBEq, reduceCtorEq]), ?_⟩)
| refine o_nil ?_
| refine g_condT rfl ?_
| refine g_condF rfl ?_
| refine krc ?_
| refine krC rfl (by exact Nat.le_of_ble_eq_true rfl) ?_
| refine g_ret ?_)
    rfl
  by_cases h10 : k = 10
  · subst h10
    have c1 := from_P 3 [(0, 1), (1, 2)] (by decide) (by decide) (by decide)
    have c2 := product_P (frV 3 [(0, 1), (1, 2)]) (frV 3 [(0, 1), (1, 2)]) (smallP_frV (by decide)) (smallP_frV (by decide))
    rw [frV_len] at c2
    repeat' (first
| refine g_seq ?_
| refine g_block ?_
| refine g_region ?_
| (refine o_go rfl ?_; (first
| refine p_p (ps_lits rfl (by exact rfl) (by exact rfl) (by repeat (first | exact trivial | refine ⟨⟨_, rfl, rfl⟩, ?_⟩)) (by decide) (by decide)) ?_
| refine p_p (ps_buildArr rfl rfl) ?_
| refine p_p (ps_call rfl rfl (by (repeat (first | refine ⟨PV.le_refl _, ?_⟩ | refine ⟨PV.le_nn _ _ _, ?_⟩ | refine ⟨PV.le_nil _, ?_⟩ | refine ⟨PV.le_any _, ?_⟩)); exact trivial) (c1)) ?_
| refine p_p (ps_call rfl rfl (by (repeat (first | refine ⟨PV.le_refl _, ?_⟩ | refine ⟨PV.le_nn _ _ _, ?_⟩ | refine ⟨PV.le_nil _, ?_⟩ | refine ⟨PV.le_any _, ?_⟩)); exact trivial) (c2)) ?_
| refine p_p (ps_move rfl) ?_
| refine p_p (ps_assign rfl) ?_
| refine p_p (ps_eql rfl rfl rfl) ?_
| refine p_e rfl (e_store_boxA rfl rfl rfl rfl (by exact Nat.le_of_ble_eq_true rfl) rfl rfl rfl) ?_
| refine p_e rfl (e_alloc rfl) ?_); refine ⟨_, (by dsimp only [bitvec_to_nat, Nat.reduceAdd, Nat.reduceMul, Nat.reduceBEq, reduceCtorEq]), ?_⟩)
| refine o_nil ?_
| refine g_condT rfl ?_
| refine g_condF rfl ?_
| refine krc ?_
| refine krC rfl (by exact Nat.le_of_ble_eq_true rfl) ?_
| refine g_ret ?_)
    rfl
  have c1 := from_P 3 [(0, 1), (1, 2)] (by decide) (by decide) (by decide)
  repeat' (first
| refine g_seq ?_
| refine g_block ?_
| refine g_region ?_
| (refine o_go rfl ?_; (first
| refine p_p (ps_lits rfl (by exact rfl) (by exact rfl) (by repeat (first | exact trivial | refine ⟨⟨_, rfl, rfl⟩, ?_⟩)) (by decide) (by decide)) ?_
| refine p_p (ps_buildArr rfl rfl) ?_
| refine p_p (ps_call rfl rfl (by (repeat (first | refine ⟨PV.le_refl _, ?_⟩ | refine ⟨PV.le_nn _ _ _, ?_⟩ | refine ⟨PV.le_nil _, ?_⟩ | refine ⟨PV.le_any _, ?_⟩)); exact trivial) (c1)) ?_
| refine p_p (ps_move rfl) ?_
| refine p_p (ps_assign rfl) ?_
| refine p_p (ps_eql rfl rfl rfl) ?_
| refine p_e rfl (e_store_boxA rfl rfl rfl rfl (by exact Nat.le_of_ble_eq_true rfl) rfl rfl rfl) ?_
| refine p_e rfl (e_alloc rfl) ?_); refine ⟨_, (by dsimp only [bitvec_to_nat, Nat.reduceAdd, Nat.reduceMul, Nat.reduceBEq, reduceCtorEq]), ?_⟩)
| refine o_nil ?_
| (refine g_condD rfl (fun hc => ?_) (fun hc => ?_) <;> try (exfalso; omega))
| refine krc ?_
| refine krC rfl (by exact Nat.le_of_ble_eq_true rfl) ?_
| refine g_skip ?_
| refine g_ret ?_)
  rw [show knV k = frV 3 [(0, 1), (1, 2)] by unfold knV; rw [if_neg h0, if_neg h1, if_neg h2, if_neg h3, if_neg h4, if_neg h5, if_neg h6, if_neg h7, if_neg h8, if_neg h9, if_neg h10]]; rfl
end Go.Proofs.Ytbfmjknngofleaa
