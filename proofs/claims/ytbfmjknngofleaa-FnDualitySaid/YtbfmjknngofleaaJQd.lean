/- Walks: posets made of pairs. -/
import Derived.Test.YtbfmjknngofleaaJQc
namespace Go.Proofs.Ytbfmjknngofleaa
open Go Go.Pv Go.Proofs
attribute [local bitvec_to_nat] St.put St.setObj St.ev killP killA killP1 killH mapHO renP renA ren1 killG killGA killG1 krowP krowA krow1 lendP lendA lend1 unv pinP pin1 elemsM viewM viewN viewV n_set_z n_set_s n_map_c n_map_n getD_z getD_s n_toNat n_cond_t n_cond_f n_len_c n_len_n n_app_c n_app_n n_take_s n_take_z n_drop_s n_drop_z n_get_z n_get_s view viewA view1 elems Nat.zero_add Nat.add_zero Bool.not_true Bool.not_false Nat.one_ne_zero Nat.mul_one

abbrev pairP (p : Int × Int) : PV := .agg [I p.1, I p.2]
abbrev pairsP (l : List (Int × Int)) : PV := .sl 2 none (l.map pairP)
abbrev gridQ (t : List (List Bool)) : HO := .grid 52 4 (t.map fun r => r.map B)
/-- The first k rows of a table. -/
def tabK (n k : Nat) (f : Nat → Nat → Bool) : List (List Bool) := (List.range k).map fun a => (List.range n).map (f a)
theorem tabK_len (n k : Nat) (f : Nat → Nat → Bool) : (tabK n k f).length = k := by simp [tabK]
theorem tabK_succ (n k : Nat) (f : Nat → Nat → Bool) : tabK n (k + 1) f = tabK n k f ++ [(List.range n).map (f k)] := by unfold tabK; rw [List.range_succ, List.map_append]; rfl
theorem tabK_F (n : Nat) (f : Nat → Nat → Bool) : tabK n n f = tabF n f := rfl
theorem idx_gridQ {t : List (List Bool)} {i : Nat} (h : i < t.length) : (t.map fun r => r.map B)[i]? = some ((t.getD i []).map B) := by simp [h]
theorem gridQ_set {n a b : Nat} {f f' : Nat → Nat → Bool} {v : Bool} (ha : a < n) (hb : b < n) (h : ∀ a' b', a' < n → b' < n → f' a' b' = if a' = a ∧ b' = b then v else f a' b') :
    ((tabF n f).map fun r => r.map B).set a ((((tabF n f).getD a []).map B).set b (B v)) = (tabF n f').map fun r => r.map B := by
  rw [← tabF_set ha hb h, List.map_set, List.map_set]
theorem idx_pair {l : List (Int × Int)} {i : Nat} (h : i < l.length) : (l.map pairP)[i]? = some (pairP (l.getD i (0, 0))) := by simp [h]
def idF (a b : Nat) : Bool := decide (a = b)
theorem id_row {n x : Nat} : (List.replicate n (B false)).set x (B true) = ((List.range n).map (idF x)).map B := by
  apply List.ext_getElem (by simp)
  intro i h1 h2
  simp only [List.getElem_set, List.getElem_replicate, List.getElem_map, List.getElem_range, idF]
  by_cases e : x = i
  · rw [if_pos e, decide_eq_true e]
  · rw [if_neg e, decide_eq_false e]
/-- The table after the first i pairs. -/
def prF (ps : List (Int × Int)) (i a b : Nat) : Bool := idF a b || (ps.take i).any fun p => decide (p.1 = (a : Int) ∧ p.2 = (b : Int))
def upW (x y z : Nat) (f : Nat → Nat → Bool) (a b : Nat) : Bool := if a = x ∧ b = y then f x y || (f x z && f z y) else f a b
def runW {α : Type} (g : Nat → α → α) (f : α) : Nat → α
  | 0 => f
  | k + 1 => g k (runW g f k)
def wY (x z : Nat) (f : Nat → Nat → Bool) (k : Nat) : Nat → Nat → Bool := runW (fun y f => upW x y z f) f k
def wX (n z : Nat) (f : Nat → Nat → Bool) (k : Nat) : Nat → Nat → Bool := runW (fun x f => wY x z f n) f k
def wZ (n : Nat) (f : Nat → Nat → Bool) (k : Nat) : Nat → Nat → Bool := runW (fun z f => wX n z f n) f k
theorem idx_cell {n a b : Nat} {f : Nat → Nat → Bool} (ha : a < n) (hb : b < n) : (((tabF n f).getD a []).map B)[b]? = some (B (f a b)) := by rw [getD_tabF ha]; simp [hb]
/-- The poset of a table's columns. -/
def fromV (n : Nat) (f : Nat → Nat → Bool) (k : Nat) : List (List Int) := (List.range k).map fun y => upTo n fun x => f x y
theorem fromV_succ (n : Nat) (f : Nat → Nat → Bool) (k : Nat) : fromV n f (k + 1) = fromV n f k ++ [upTo n fun x => f x k] := by unfold fromV; rw [List.range_succ, List.map_append]; rfl
theorem fromV_len (n : Nat) (f : Nat → Nat → Bool) (k : Nat) : (fromV n f k).length = k := by simp [fromV]
set_option maxHeartbeats 8000000 in
set_option maxRecDepth 100000 in
theorem from_c (n : Nat) (ps : List (Int × Int)) (hn : n ≤ 10) (hp : ps.length ≤ 1000) (hin : ∀ i, i < ps.length → 0 ≤ (ps.getD i (0, 0)).1 ∧ (ps.getD i (0, 0)).1 < (n : Int) ∧ 0 ≤ (ps.getD i (0, 0)).2 ∧ (ps.getD i (0, 0)).2 < (n : Int)) :
    RCalls Try.prog 68 [I (n : Int), pairsP ps] (gridI (fromV n (wZ n (prF ps ps.length) n) n)) (.agg [.hp 0]) := by
  refine pcallsRC Try.func68 rfl Try.ntmps68 rfl ?_
  simp only [List.length_cons, List.length_nil, Nat.reduceAdd, Nat.reduceSub, List.replicate_succ, List.replicate_zero, List.cons_append, List.nil_append]
  repeat' (first
| refine g_seq ?_
| refine g_block ?_
| refine g_region ?_
| (refine o_go rfl ?_; (first
| refine p_e rfl (e_lit0G 4 rfl) ?_
| refine p_p (ps_assign rfl) ?_
| refine p_e rfl (e_alloc rfl) ?_); refine ⟨_, (by dsimp only [bitvec_to_nat, Nat.reduceAdd, Nat.reduceMul, Nat.reduceBEq, reduceCtorEq]), ?_⟩)
| refine o_nil ?_)
  refine g_loopF (α := Nat) [16] (fun x => [(5, .hp 1), (6, I (x : Int))]) (fun x => [.box [nilV], gridQ (tabK n x idF)]) (fun x => x ≤ n) (fun x => n - x) 0 (by simp only [havoc, dsts, List.filterMap_cons, List.filterMap_nil, List.foldl_cons, List.foldl_nil, List.cons_append, List.nil_append, List.append_nil, List.set_cons_succ, List.set_cons_zero]; exact rfl) (Nat.zero_le _) ⟨rfl, rfl, trivial⟩ rfl ?_
  rintro x hx
  dsimp only [setMany, List.set_cons_zero, List.set_cons_succ]
  have hpl : ((tabK n x idF).map fun r => r.map B).length = x := by rw [List.length_map, tabK_len]
  by_cases hxn : x < n
  · repeat' (first
| refine g_seq ?_
| refine g_block ?_
| refine g_region ?_
| (refine o_go rfl ?_; (first
| refine p_e rfl (e_lit1G rfl rfl rfl (by rw [Nat.mul_one, id_row]; exact one_all (fun _ => rfl) _)) ?_
| refine p_e rfl (e_append_grid rfl rfl rfl rfl rfl rfl rfl (by rw [hpl, n_len_c, n_len_n]; omega) (by rw [hpl, n_len_c, n_len_n]; omega)) ?_
| refine p_p (ps_move rfl) ?_
| refine p_p (ps_assign rfl) ?_
| refine p_p (ps_lss rfl rfl rfl) ?_
| refine p_p (ps_add rfl rfl rfl (by constructor <;> omega)) ?_
| refine p_p (ps_index_mut rfl rfl rfl rfl (by omega) (by first | omega | (simp; done) | (simp; omega))) ?_
| refine p_e rfl (e_make1 rfl rfl rfl (by omega) (by omega) (by omega) rfl rfl) ?_
| refine p_e rfl (e_store_arr rfl rfl rfl rfl (by first | omega | (simp; done) | (simp; omega)) rfl rfl) ?_); refine ⟨_, (by dsimp only [bitvec_to_nat, Nat.reduceAdd, Nat.reduceMul, Nat.reduceBEq, reduceCtorEq]), ?_⟩)
| refine o_nil ?_
| (refine g_condD rfl (fun hc => ?_) (fun hc => ?_) <;> try (exfalso; omega))
| refine g_skip ?_)
    refine k_round (x + 1) (by omega) (by omega) (by repeat (first | exact trivial | refine ⟨.inl rfl, ?_⟩ | refine ⟨.inr rfl, ?_⟩)) ⟨rfl, rfl, trivial⟩ (hpLe_cons rfl (hpLe_cons ?_ (hpLe_nil _)))
    rw [Nat.mul_one, id_row, tabK_succ, gridQ, List.map_append]; rfl
  · have hxe : x = n := by omega
    subst hxe
    repeat' (first
| refine g_seq ?_
| refine g_block ?_
| refine g_region ?_
| (refine o_go rfl ?_; (first
| refine p_p (ps_move rfl) ?_
| refine p_p (ps_assign rfl) ?_
| refine p_p (ps_lss rfl rfl rfl) ?_); refine ⟨_, (by dsimp only [bitvec_to_nat, Nat.reduceAdd, Nat.reduceMul, Nat.reduceBEq, reduceCtorEq]), ?_⟩)
| refine o_nil ?_
| (refine g_condD rfl (fun hc => ?_) (fun hc => ?_) <;> try (exfalso; omega))
| refine g_exit ?_)
    refine g_loopT (α := Nat) (fun i => [(8, I (i : Int))]) (fun i => [.box [nilV], gridQ (tabF x (prF ps i))]) (fun i => i ≤ ps.length) (fun i => ps.length - i) 0 (by simp only [havoc, dsts, List.filterMap_cons, List.filterMap_nil, List.foldl_cons, List.foldl_nil, List.cons_append, List.nil_append, List.append_nil, List.set_cons_succ, List.set_cons_zero]; exact rfl) (Nat.zero_le _) ⟨rfl, trivial⟩ (by rw [tabK_F, show tabF x (prF ps 0) = tabF x idF from tabF_congr fun a b _ _ => by simp [prF]]) ?_
    rintro i hi
    dsimp only [setMany, List.set_cons_zero, List.set_cons_succ]
    have hlen := length_tabF x (prF ps i)
    have hrl : ∀ a, a < x → ((tabF x (prF ps i)).getD a []).length = x := fun a ha => by rw [getD_tabF ha]; simp
    by_cases hie : i < ps.length
    · obtain ⟨p0, p1, p2, p3⟩ := hin i hie
      repeat' (first
| refine g_seq ?_
| refine g_block ?_
| refine g_region ?_
| refine g_region_draw (by kernel_rfl) (by kernel_rfl) ?_
| (refine o_go rfl ?_; (first
| refine p_p (ps_index rfl rfl rfl (by omega) (by exact idx_pair (by omega)) (by exact rfl)) ?_
| refine p_p (ps_index_parr rfl rfl rfl (by omega) (by decide)) ?_
| refine p_p (ps_index_grid rfl rfl rfl rfl (by omega) (by rw [List.length_map, hlen]; omega)) ?_
| refine p_p (ps_load_row rfl rfl rfl (by rw [List.length_map, hlen]; omega)) ?_
| refine p_p (ps_index_row rfl rfl rfl (by exact idx_gridQ (by rw [hlen]; omega)) rfl (by omega) (by rw [List.length_map, hrl _ (by omega)]; omega)) ?_
| refine p_e rfl (e_store_grid rfl rfl rfl rfl (by exact idx_gridQ (by rw [hlen]; omega)) (by rw [List.length_map, hrl _ (by omega)]; omega) rfl rfl) ?_
| refine p_p (ps_move rfl) ?_
| refine p_p (ps_assign rfl) ?_
| refine p_p (ps_load_cell rfl rfl) ?_
| refine p_p (ps_lenM rfl rfl rfl) ?_
| refine p_p (ps_lss rfl rfl rfl) ?_
| refine p_p (ps_add rfl rfl rfl (by constructor <;> omega)) ?_); refine ⟨_, (by dsimp only [bitvec_to_nat, Nat.reduceAdd, Nat.reduceMul, Nat.reduceBEq, reduceCtorEq]), ?_⟩)
| refine o_nil ?_
| (refine g_condD rfl (fun hc => ?_) (fun hc => ?_) <;> try (exfalso; omega))
| refine g_skip ?_)
      refine k_round (i + 1) (by omega) (by omega) (by repeat (first | exact trivial | refine ⟨.inl rfl, ?_⟩ | refine ⟨.inr rfl, ?_⟩)) ⟨rfl, trivial⟩ (hpLe_cons rfl (hpLe_cons ?_ (hpLe_nil _)))
      refine congrArg (HO.grid 52 4) ?_
      refine gridQ_set (f' := prF ps (i + 1)) (by omega) (by omega) fun a b ha hb => ?_
      unfold prF
      rw [take_snoc (0, 0) hie, any_snoc]
      by_cases e : a = (ps.getD i (0, 0)).1.toNat ∧ b = (ps.getD i (0, 0)).2.toNat
      · rw [if_pos e, decide_eq_true (show (ps.getD i (0, 0)).1 = (a : Int) ∧ (ps.getD i (0, 0)).2 = (b : Int) by omega), Bool.or_true, Bool.or_true]
      · rw [if_neg e, decide_eq_false (show ¬((ps.getD i (0, 0)).1 = (a : Int) ∧ (ps.getD i (0, 0)).2 = (b : Int)) by omega), Bool.or_false]
    · have hil : i = ps.length := by omega
      subst hil
      repeat' (first
| refine g_seq ?_
| refine g_block ?_
| refine g_region ?_
| (refine o_go rfl ?_; (first
| refine p_p (ps_move rfl) ?_
| refine p_p (ps_assign rfl) ?_
| refine p_p (ps_lenM rfl rfl rfl) ?_
| refine p_p (ps_lss rfl rfl rfl) ?_); refine ⟨_, (by dsimp only [bitvec_to_nat, Nat.reduceAdd, Nat.reduceMul, Nat.reduceBEq, reduceCtorEq]), ?_⟩)
| refine o_nil ?_
| (refine g_condD rfl (fun hc => ?_) (fun hc => ?_) <;> try (exfalso; omega))
| refine g_exit ?_)
      refine g_loopT (α := Nat) (fun z => [(9, I (z : Int))]) (fun z => [.box [nilV], gridQ (tabF x (wZ x (prF ps ps.length) z))]) (fun z => z ≤ x) (fun z => x - z) 0 (by simp only [havoc, dsts, List.filterMap_cons, List.filterMap_nil, List.foldl_cons, List.foldl_nil, List.cons_append, List.nil_append, List.append_nil, List.set_cons_succ, List.set_cons_zero]; exact rfl) (Nat.zero_le _) ⟨rfl, trivial⟩ rfl ?_
      rintro z hz
      dsimp only [setMany, List.set_cons_zero, List.set_cons_succ]
      by_cases hzx : z < x
      · generalize hf : wZ x (prF ps ps.length) z = f
        repeat' (first
| refine g_seq ?_
| refine g_block ?_
| refine g_region ?_
| (refine o_go rfl ?_; (first
| refine p_p (ps_move rfl) ?_
| refine p_p (ps_assign rfl) ?_
| refine p_p (ps_lss rfl rfl rfl) ?_); refine ⟨_, (by dsimp only [bitvec_to_nat, Nat.reduceAdd, Nat.reduceMul, Nat.reduceBEq, reduceCtorEq]), ?_⟩)
| refine o_nil ?_
| (refine g_condD rfl (fun hc => ?_) (fun hc => ?_) <;> try (exfalso; omega))
| refine g_skip ?_)
        refine g_loopT (α := Nat) (fun u => [(10, I (u : Int))]) (fun u => [.box [nilV], gridQ (tabF x (wX x z f u))]) (fun u => u ≤ x) (fun u => x - u) 0 (by simp only [havoc, dsts, List.filterMap_cons, List.filterMap_nil, List.foldl_cons, List.foldl_nil, List.cons_append, List.nil_append, List.append_nil, List.set_cons_succ, List.set_cons_zero]; exact rfl) (Nat.zero_le _) ⟨rfl, trivial⟩ rfl ?_
        rintro u hu
        dsimp only [setMany, List.set_cons_zero, List.set_cons_succ]
        by_cases hux : u < x
        · generalize hg : wX x z f u = g
          repeat' (first
| refine g_seq ?_
| refine g_block ?_
| refine g_region ?_
| (refine o_go rfl ?_; (first
| refine p_p (ps_move rfl) ?_
| refine p_p (ps_assign rfl) ?_
| refine p_p (ps_lss rfl rfl rfl) ?_); refine ⟨_, (by dsimp only [bitvec_to_nat, Nat.reduceAdd, Nat.reduceMul, Nat.reduceBEq, reduceCtorEq]), ?_⟩)
| refine o_nil ?_
| (refine g_condD rfl (fun hc => ?_) (fun hc => ?_) <;> try (exfalso; omega))
| refine g_skip ?_)
          refine g_loopT (α := Nat) (fun y => [(11, I (y : Int))]) (fun y => [.box [nilV], gridQ (tabF x (wY u z g y))]) (fun y => y ≤ x) (fun y => x - y) 0 (by simp only [havoc, dsts, List.filterMap_cons, List.filterMap_nil, List.foldl_cons, List.foldl_nil, List.cons_append, List.nil_append, List.append_nil, List.set_cons_succ, List.set_cons_zero]; exact rfl) (Nat.zero_le _) ⟨rfl, trivial⟩ rfl ?_
          rintro y hy
          dsimp only [setMany, List.set_cons_zero, List.set_cons_succ]
          by_cases hyx : y < x
          · generalize hq : wY u z g y = q
            have hlen := length_tabF x q
            have hrl : ∀ a, a < x → ((tabF x q).getD a []).length = x := fun a ha => by rw [getD_tabF ha]; simp
            have k1 := idx_cell (f := q) hux hyx
            have k2 := idx_cell (f := q) hux hzx
            have k3 := idx_cell (f := q) hzx hyx
            have hup : ∀ a b, upW u y z q a b = if a = u ∧ b = y then (q u y || (q u z && q z y)) else q a b := fun _ _ => rfl
            obtain ⟨b1, h1⟩ : ∃ b1, q u y = b1 := ⟨_, rfl⟩
            obtain ⟨b2, h2⟩ : ∃ b2, q u z = b2 := ⟨_, rfl⟩
            obtain ⟨b3, h3⟩ : ∃ b3, q z y = b3 := ⟨_, rfl⟩
            rw [h1] at k1
            rw [h2] at k2
            rw [h3] at k3
            rw [h1, h2, h3] at hup
            have fin : ∀ v, (b1 || (b2 && b3)) = v → ((tabF x q).map fun r => r.map B).set u ((((tabF x q).getD u []).map B).set y (B v)) = (tabF x (upW u y z q)).map fun r => r.map B := fun v hv => gridQ_set hux hyx fun a b _ _ => by rw [hup, hv]
            cases b1
            · cases b2
              · repeat' (first
| refine g_seq ?_
| refine g_block ?_
| refine g_region ?_
| refine g_region_draw (by kernel_rfl) (by kernel_rfl) ?_
| (refine o_go rfl ?_; (first
| refine p_p (ps_index_grid rfl rfl rfl rfl (by omega) (by rw [List.length_map, hlen, n_toNat]; omega)) ?_
| refine p_p (ps_load_row rfl rfl rfl (by rw [List.length_map, hlen]; omega)) ?_
| refine p_p (ps_index_row rfl rfl rfl (by exact idx_gridQ (by rw [hlen]; omega)) rfl (by omega) (by rw [n_toNat, List.length_map, hrl _ (by omega)]; omega)) ?_
| refine p_p (ps_load_gat rfl rfl rfl (by exact idx_gridQ (by rw [hlen]; omega)) k1) ?_
| refine p_p (ps_load_gat rfl rfl rfl (by exact idx_gridQ (by rw [hlen]; omega)) k2) ?_
| refine p_e (by kernel_rfl) (e_store_grid rfl rfl rfl rfl (by exact idx_gridQ (by rw [hlen]; omega)) (by rw [List.length_map, hrl _ (by omega)]; omega) rfl rfl) ?_
| refine p_p (ps_move rfl) ?_
| refine p_p (ps_assign rfl) ?_
| refine p_p (ps_lss rfl rfl rfl) ?_
| refine p_p (ps_add rfl rfl rfl (by constructor <;> omega)) ?_
| refine p_p (ps_pick rfl rfl) ?_); refine ⟨_, (by dsimp only [bitvec_to_nat, Nat.reduceAdd, Nat.reduceMul, Nat.reduceBEq, reduceCtorEq]), ?_⟩)
| refine o_nil ?_
| (refine o_s rfl ?_; refine ⟨_, (by dsimp only [bitvec_to_nat, Nat.reduceAdd, Nat.reduceMul, Nat.reduceBEq, reduceCtorEq]), ?_⟩)
| (refine g_condD rfl (fun hc => ?_) (fun hc => ?_) <;> try (exfalso; omega))
| refine g_skip ?_)
                refine k_round (y + 1) (by omega) (by omega) (by repeat (first | exact trivial | refine ⟨.inl rfl, ?_⟩ | refine ⟨.inr rfl, ?_⟩)) ⟨rfl, trivial⟩ (hpLe_cons rfl (hpLe_cons ?_ (hpLe_nil _)))
                exact congrArg (HO.grid 52 4) (by rw [show wY u z g (y + 1) = upW u y z q by rw [← hq]; rfl]; exact fin _ rfl)
              · cases b3
                · repeat' (first
| refine g_seq ?_
| refine g_block ?_
| refine g_region ?_
| refine g_region_draw (by kernel_rfl) (by kernel_rfl) ?_
| (refine o_go rfl ?_; (first
| refine p_p (ps_index_grid rfl rfl rfl rfl (by omega) (by rw [List.length_map, hlen, n_toNat]; omega)) ?_
| refine p_p (ps_load_row rfl rfl rfl (by rw [List.length_map, hlen]; omega)) ?_
| refine p_p (ps_index_row rfl rfl rfl (by exact idx_gridQ (by rw [hlen]; omega)) rfl (by omega) (by rw [n_toNat, List.length_map, hrl _ (by omega)]; omega)) ?_
| refine p_p (ps_load_gat rfl rfl rfl (by exact idx_gridQ (by rw [hlen]; omega)) k1) ?_
| refine p_p (ps_load_gat rfl rfl rfl (by exact idx_gridQ (by rw [hlen]; omega)) k2) ?_
| refine p_p (ps_load_gat rfl rfl rfl (by exact idx_gridQ (by rw [hlen]; omega)) k3) ?_
| refine p_e (by kernel_rfl) (e_store_grid rfl rfl rfl rfl (by exact idx_gridQ (by rw [hlen]; omega)) (by rw [List.length_map, hrl _ (by omega)]; omega) rfl rfl) ?_
| refine p_p (ps_move rfl) ?_
| refine p_p (ps_assign rfl) ?_
| refine p_p (ps_lss rfl rfl rfl) ?_
| refine p_p (ps_add rfl rfl rfl (by constructor <;> omega)) ?_
| refine p_p (ps_pick rfl rfl) ?_); refine ⟨_, (by dsimp only [bitvec_to_nat, Nat.reduceAdd, Nat.reduceMul, Nat.reduceBEq, reduceCtorEq]), ?_⟩)
| refine o_nil ?_
| (refine g_condD rfl (fun hc => ?_) (fun hc => ?_) <;> try (exfalso; omega))
| refine g_skip ?_)
                  refine k_round (y + 1) (by omega) (by omega) (by repeat (first | exact trivial | refine ⟨.inl rfl, ?_⟩ | refine ⟨.inr rfl, ?_⟩)) ⟨rfl, trivial⟩ (hpLe_cons rfl (hpLe_cons ?_ (hpLe_nil _)))
                  exact congrArg (HO.grid 52 4) (by rw [show wY u z g (y + 1) = upW u y z q by rw [← hq]; rfl]; exact fin _ rfl)
                · repeat' (first
| refine g_seq ?_
| refine g_block ?_
| refine g_region ?_
| refine g_region_draw (by kernel_rfl) (by kernel_rfl) ?_
| (refine o_go rfl ?_; (first
| refine p_p (ps_index_grid rfl rfl rfl rfl (by omega) (by rw [List.length_map, hlen, n_toNat]; omega)) ?_
| refine p_p (ps_load_row rfl rfl rfl (by rw [List.length_map, hlen]; omega)) ?_
| refine p_p (ps_index_row rfl rfl rfl (by exact idx_gridQ (by rw [hlen]; omega)) rfl (by omega) (by rw [n_toNat, List.length_map, hrl _ (by omega)]; omega)) ?_
| refine p_p (ps_load_gat rfl rfl rfl (by exact idx_gridQ (by rw [hlen]; omega)) k1) ?_
| refine p_p (ps_load_gat rfl rfl rfl (by exact idx_gridQ (by rw [hlen]; omega)) k2) ?_
| refine p_p (ps_load_gat rfl rfl rfl (by exact idx_gridQ (by rw [hlen]; omega)) k3) ?_
| refine p_e (by kernel_rfl) (e_store_grid rfl rfl rfl rfl (by exact idx_gridQ (by rw [hlen]; omega)) (by rw [List.length_map, hrl _ (by omega)]; omega) rfl rfl) ?_
| refine p_p (ps_move rfl) ?_
| refine p_p (ps_assign rfl) ?_
| refine p_p (ps_lss rfl rfl rfl) ?_
| refine p_p (ps_add rfl rfl rfl (by constructor <;> omega)) ?_
| refine p_p (ps_pick rfl rfl) ?_); refine ⟨_, (by dsimp only [bitvec_to_nat, Nat.reduceAdd, Nat.reduceMul, Nat.reduceBEq, reduceCtorEq]), ?_⟩)
| refine o_nil ?_
| (refine g_condD rfl (fun hc => ?_) (fun hc => ?_) <;> try (exfalso; omega))
| refine g_skip ?_)
                  refine k_round (y + 1) (by omega) (by omega) (by repeat (first | exact trivial | refine ⟨.inl rfl, ?_⟩ | refine ⟨.inr rfl, ?_⟩)) ⟨rfl, trivial⟩ (hpLe_cons rfl (hpLe_cons ?_ (hpLe_nil _)))
                  exact congrArg (HO.grid 52 4) (by rw [show wY u z g (y + 1) = upW u y z q by rw [← hq]; rfl]; exact fin _ rfl)
            · repeat' (first
| refine g_seq ?_
| refine g_block ?_
| refine g_region ?_
| refine g_region_draw (by kernel_rfl) (by kernel_rfl) ?_
| (refine o_go rfl ?_; (first
| refine p_p (ps_index_grid rfl rfl rfl rfl (by omega) (by rw [List.length_map, hlen, n_toNat]; omega)) ?_
| refine p_p (ps_load_row rfl rfl rfl (by rw [List.length_map, hlen]; omega)) ?_
| refine p_p (ps_index_row rfl rfl rfl (by exact idx_gridQ (by rw [hlen]; omega)) rfl (by omega) (by rw [n_toNat, List.length_map, hrl _ (by omega)]; omega)) ?_
| refine p_p (ps_load_gat rfl rfl rfl (by exact idx_gridQ (by rw [hlen]; omega)) k1) ?_
| refine p_e (by kernel_rfl) (e_store_grid rfl rfl rfl rfl (by exact idx_gridQ (by rw [hlen]; omega)) (by rw [List.length_map, hrl _ (by omega)]; omega) rfl rfl) ?_
| refine p_p (ps_move rfl) ?_
| refine p_p (ps_assign rfl) ?_
| refine p_p (ps_lss rfl rfl rfl) ?_
| refine p_p (ps_add rfl rfl rfl (by constructor <;> omega)) ?_
| refine p_p (ps_pick rfl rfl) ?_); refine ⟨_, (by dsimp only [bitvec_to_nat, Nat.reduceAdd, Nat.reduceMul, Nat.reduceBEq, reduceCtorEq]), ?_⟩)
| refine o_nil ?_
| (refine o_s rfl ?_; refine ⟨_, (by dsimp only [bitvec_to_nat, Nat.reduceAdd, Nat.reduceMul, Nat.reduceBEq, reduceCtorEq]), ?_⟩)
| (refine g_condD rfl (fun hc => ?_) (fun hc => ?_) <;> try (exfalso; omega))
| refine g_skip ?_)
              refine k_round (y + 1) (by omega) (by omega) (by repeat (first | exact trivial | refine ⟨.inl rfl, ?_⟩ | refine ⟨.inr rfl, ?_⟩)) ⟨rfl, trivial⟩ (hpLe_cons rfl (hpLe_cons ?_ (hpLe_nil _)))
              exact congrArg (HO.grid 52 4) (by rw [show wY u z g (y + 1) = upW u y z q by rw [← hq]; rfl]; exact fin _ rfl)
          · repeat' (first
| refine g_seq ?_
| refine g_region ?_
| (refine o_go rfl ?_; (first
| refine p_p (ps_move rfl) ?_
| refine p_p (ps_assign rfl) ?_
| refine p_p (ps_lss rfl rfl rfl) ?_
| refine p_p (ps_add rfl rfl rfl (by constructor <;> omega)) ?_); refine ⟨_, (by dsimp only [bitvec_to_nat, Nat.reduceAdd, Nat.reduceMul, Nat.reduceBEq, reduceCtorEq]), ?_⟩)
| refine o_nil ?_
| (refine g_condD rfl (fun hc => ?_) (fun hc => ?_) <;> try (exfalso; omega))
| refine g_exit ?_)
            refine k_round (u + 1) (by omega) (by omega) (by repeat (first | exact trivial | refine ⟨.inl rfl, ?_⟩ | refine ⟨.inr rfl, ?_⟩)) ⟨rfl, trivial⟩ (hpLe_cons rfl (hpLe_cons ?_ (hpLe_nil _)))
            rw [show y = x by omega, ← hg]; rfl
        · repeat' (first
| refine g_seq ?_
| refine g_region ?_
| (refine o_go rfl ?_; (first
| refine p_p (ps_move rfl) ?_
| refine p_p (ps_assign rfl) ?_
| refine p_p (ps_lss rfl rfl rfl) ?_
| refine p_p (ps_add rfl rfl rfl (by constructor <;> omega)) ?_); refine ⟨_, (by dsimp only [bitvec_to_nat, Nat.reduceAdd, Nat.reduceMul, Nat.reduceBEq, reduceCtorEq]), ?_⟩)
| refine o_nil ?_
| (refine g_condD rfl (fun hc => ?_) (fun hc => ?_) <;> try (exfalso; omega))
| refine g_exit ?_)
          refine k_round (z + 1) (by omega) (by omega) (by repeat (first | exact trivial | refine ⟨.inl rfl, ?_⟩ | refine ⟨.inr rfl, ?_⟩)) ⟨rfl, trivial⟩ (hpLe_cons rfl (hpLe_cons ?_ (hpLe_nil _)))
          rw [show u = x by omega, ← hf]; rfl
      · have hzx' : z = x := by omega
        subst hzx'
        generalize wZ z (prF ps ps.length) z = f
        have hlen := length_tabF z f
        have hrl : ∀ a, a < z → ((tabF z f).getD a []).length = z := fun a ha => by rw [getD_tabF ha]; simp
        repeat' (first
| refine g_seq ?_
| refine g_block ?_
| refine g_region ?_
| (refine o_go rfl ?_; (first
| refine p_e rfl (e_at (s := "l23_posets.go:95") rfl (e_lit0G 3 rfl)) ?_
| refine p_p (ps_move rfl) ?_
| refine p_p (ps_assign rfl) ?_
| refine p_p (ps_lss rfl rfl rfl) ?_
| refine p_e rfl (e_store_boxA rfl rfl rfl rfl (by exact Nat.le_of_ble_eq_true rfl) rfl rfl rfl) ?_
| refine p_e rfl (e_alloc rfl) ?_
| refine p_p (ps_build rfl rfl) ?_); refine ⟨_, (by dsimp only [bitvec_to_nat, Nat.reduceAdd, Nat.reduceMul, Nat.reduceBEq, reduceCtorEq]), ?_⟩)
| refine o_nil ?_
| (refine g_condD rfl (fun hc => ?_) (fun hc => ?_) <;> try (exfalso; omega))
| refine g_exit ?_)
        refine g_loopF (α := Nat) [97, 98] (fun y => [(13, I (y : Int))]) (fun y => [.box [nilV], gridQ (tabF z f), gridI (fromV z f y), .box [.hp 2]]) (fun y => y ≤ z) (fun y => z - y) 0 (by simp only [havoc, dsts, List.filterMap_cons, List.filterMap_nil, List.foldl_cons, List.foldl_nil, List.cons_append, List.nil_append, List.append_nil, List.set_cons_succ, List.set_cons_zero]; exact rfl) (Nat.zero_le _) ⟨rfl, trivial⟩ rfl ?_
        rintro y hy
        dsimp only [setMany, List.set_cons_zero, List.set_cons_succ]
        have hpl : ((fromV z f y).map fun r => r.map I).length = y := by rw [List.length_map, fromV_len]
        by_cases hyz : y < z
        · repeat' (first
| refine g_seq ?_
| refine g_block ?_
| refine g_region ?_
| (refine o_go rfl ?_; (first
| refine p_e rfl (e_lit0T rfl (by decide)) ?_
| refine p_p (ps_move rfl) ?_
| refine p_p (ps_assign rfl) ?_
| refine p_p (ps_lss rfl rfl rfl) ?_); refine ⟨_, (by dsimp only [bitvec_to_nat, Nat.reduceAdd, Nat.reduceMul, Nat.reduceBEq, reduceCtorEq]), ?_⟩)
| refine o_nil ?_
| (refine g_condD rfl (fun hc => ?_) (fun hc => ?_) <;> try (exfalso; omega))
| refine g_skip ?_)
          refine g_loopF (α := Nat) [104] (fun x => [(14, .hp 4), (15, I (x : Int))]) (fun x => [.box [nilV], gridQ (tabF z f), gridI (fromV z f y), .box [.hp 2], .arr true 1 3 ((upTo x fun x => f x y).map I)]) (fun x => x ≤ z) (fun x => z - x) 0 (by simp only [havoc, dsts, List.filterMap_cons, List.filterMap_nil, List.foldl_cons, List.foldl_nil, List.cons_append, List.nil_append, List.append_nil, List.set_cons_succ, List.set_cons_zero]; exact rfl) (Nat.zero_le _) ⟨rfl, rfl, trivial⟩ rfl ?_
          rintro x hx
          dsimp only [setMany, List.set_cons_zero, List.set_cons_succ]
          have hul := upTo_length x fun x => f x y
          have hsuc := upTo_succ x fun x => f x y
          by_cases hxz : x < z
          · have k1 := idx_cell (f := f) hxz hyz
            obtain ⟨b1, h1⟩ : ∃ b1, f x y = b1 := ⟨_, rfl⟩
            rw [h1] at k1 hsuc
            cases b1
            · repeat' (first
| refine g_seq ?_
| refine g_block ?_
| refine g_region ?_
| (refine o_go rfl ?_; (first
| refine p_p (ps_index_grid rfl rfl rfl rfl (by omega) (by rw [List.length_map, hlen, n_toNat]; omega)) ?_
| refine p_p (ps_load_row rfl rfl rfl (by rw [List.length_map, hlen]; omega)) ?_
| refine p_p (ps_index_row rfl rfl rfl (by exact idx_gridQ (by rw [hlen]; omega)) rfl (by omega) (by rw [n_toNat, List.length_map, hrl _ (by omega)]; omega)) ?_
| refine p_p (ps_load_gat rfl rfl rfl (by exact idx_gridQ (by rw [hlen]; omega)) k1) ?_
| refine p_p (ps_move rfl) ?_
| refine p_p (ps_assign rfl) ?_
| refine p_p (ps_lss rfl rfl rfl) ?_
| refine p_p (ps_add rfl rfl rfl (by constructor <;> omega)) ?_); refine ⟨_, (by dsimp only [bitvec_to_nat, Nat.reduceAdd, Nat.reduceMul, Nat.reduceBEq, reduceCtorEq]), ?_⟩)
| refine o_nil ?_
| refine g_condF rfl ?_
| (refine g_condD rfl (fun hc => ?_) (fun hc => ?_) <;> try (exfalso; omega))
| refine g_skip ?_)
              refine k_round (x + 1) (by omega) (by omega) (by repeat (first | exact trivial | refine ⟨.inl rfl, ?_⟩ | refine ⟨.inr rfl, ?_⟩)) ⟨rfl, rfl, trivial⟩ (hpLe_cons rfl (hpLe_cons rfl (hpLe_cons rfl (hpLe_cons rfl (hpLe_cons ?_ (hpLe_nil _))))))
              rw [hsuc]; simp
            · repeat' (first
| refine g_seq ?_
| refine g_block ?_
| refine g_region ?_
| (refine o_go rfl ?_; (first
| refine p_p (ps_index_grid rfl rfl rfl rfl (by omega) (by rw [List.length_map, hlen, n_toNat]; omega)) ?_
| refine p_p (ps_load_row rfl rfl rfl (by rw [List.length_map, hlen]; omega)) ?_
| refine p_p (ps_index_row rfl rfl rfl (by exact idx_gridQ (by rw [hlen]; omega)) rfl (by omega) (by rw [n_toNat, List.length_map, hrl _ (by omega)]; omega)) ?_
| refine p_p (ps_load_gat rfl rfl rfl (by exact idx_gridQ (by rw [hlen]; omega)) k1) ?_
| refine p_p (ps_move rfl) ?_
| refine p_p (ps_assign rfl) ?_
| refine p_p (ps_lss rfl rfl rfl) ?_
| refine p_p (ps_add rfl rfl rfl (by constructor <;> omega)) ?_
| refine p_e rfl (e_append rfl rfl rfl rfl rfl rfl (by first | exact one_one rfl | exact one_map (fun _ => rfl) _) rfl (by first | omega | (simp; done) | (simp; omega)) (by first | omega | (simp; done) | (simp; omega))) ?_
| refine p_p (ps_lit1 rfl rfl (by rfl) (by rfl)) ?_); refine ⟨_, (by dsimp only [bitvec_to_nat, Nat.reduceAdd, Nat.reduceMul, Nat.reduceBEq, reduceCtorEq]), ?_⟩)
| refine o_nil ?_
| refine g_condT rfl ?_
| (refine g_condD rfl (fun hc => ?_) (fun hc => ?_) <;> try (exfalso; omega))
| refine g_skip ?_)
              refine k_round (x + 1) (by omega) (by omega) (by repeat (first | exact trivial | refine ⟨.inl rfl, ?_⟩ | refine ⟨.inr rfl, ?_⟩)) ⟨rfl, rfl, trivial⟩ (hpLe_cons rfl (hpLe_cons rfl (hpLe_cons rfl (hpLe_cons rfl (hpLe_cons ?_ (hpLe_nil _))))))
              rw [hsuc]; simp
          · repeat' (first
| refine g_seq ?_
| refine g_region ?_
| (refine o_go rfl ?_; (first
| refine p_e rfl (e_lit1G rfl rfl rfl (one_all (fun _ => rfl) _)) ?_
| refine p_e rfl (e_append_grid rfl rfl rfl rfl rfl rfl rfl (by rw [hpl, n_len_c, n_len_n]; omega) (by rw [hpl, n_len_c, n_len_n]; omega)) ?_
| refine p_p (ps_move rfl) ?_
| refine p_p (ps_assign rfl) ?_
| refine p_p (ps_lss rfl rfl rfl) ?_
| refine p_p (ps_add rfl rfl rfl (by constructor <;> omega)) ?_
| refine p_p (ps_load_box rfl rfl rfl rfl) ?_
| refine p_p (ps_fieldAddr_hat rfl rfl) ?_
| refine p_e rfl (e_store_boxC rfl rfl rfl rfl (by exact Nat.le_of_ble_eq_true rfl) rfl rfl) ?_); refine ⟨_, (by dsimp only [bitvec_to_nat, Nat.reduceAdd, Nat.reduceMul, Nat.reduceBEq, reduceCtorEq]), ?_⟩)
| refine o_nil ?_
| (refine g_condD rfl (fun hc => ?_) (fun hc => ?_) <;> try (exfalso; omega))
| refine g_exit ?_)
            refine k_round (y + 1) (by omega) (by omega) (by repeat (first | exact trivial | refine ⟨.inl rfl, ?_⟩ | refine ⟨.inr rfl, ?_⟩)) ⟨rfl, trivial⟩ (hpLe_cons rfl (hpLe_cons rfl (hpLe_cons ?_ (hpLe_cons rfl (hpLe_nil _)))))
            rw [fromV_succ, gridI, List.map_append, show x = z by omega]; rfl
        · repeat' (first
| refine g_seq ?_
| refine g_region ?_
| (refine o_go rfl ?_; (first
| refine p_p (ps_move rfl) ?_
| refine p_p (ps_lss rfl rfl rfl) ?_
| refine p_p (ps_load_boxA rfl rfl rfl (by exact Nat.le_of_ble_eq_true rfl)) ?_
| refine p_e rfl (e_store_boxA rfl rfl rfl rfl (by exact Nat.le_of_ble_eq_true rfl) rfl rfl rfl) ?_); refine ⟨_, (by dsimp only [bitvec_to_nat, Nat.reduceAdd, Nat.reduceMul, Nat.reduceBEq, reduceCtorEq]), ?_⟩)
| refine o_nil ?_
| (refine g_condD rfl (fun hc => ?_) (fun hc => ?_) <;> try (exfalso; omega))
| refine g_exit ?_
| refine g_ret ?_)
          refine krrc 2 0 rfl rfl (HandOut.grid rfl ?_ (sc_maps (fun _ => rfl) _))
          rw [show y = z by omega]
end Go.Proofs.Ytbfmjknngofleaa
