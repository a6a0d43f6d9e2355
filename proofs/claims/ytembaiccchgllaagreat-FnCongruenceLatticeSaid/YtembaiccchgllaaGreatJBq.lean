/- Walks: the program's posets and lattices. -/
import Derived.Test.YtembaiccchgllaaGreatJSq
import Derived.Test.YtembaiccchgllaaGreatJTy
/- Walks: the program's tables of orders. -/
namespace Go.Proofs.YtembaiccchgllaaGreat
open Go Go.Pv Go.Proofs
set_option maxHeartbeats 32000000
set_option maxRecDepth 100000
attribute [local bitvec_to_nat] St.put St.setObj St.ev killP killA killP1 killH mapHO renP renA ren1 killG killGA killG1 krowP krowA krow1 lendP lendA lend1 unv pinP pin1 elemsM viewM viewN viewV n_set_z n_set_s n_map_c n_map_n getD_z getD_s n_toNat n_cond_t n_cond_f n_len_c n_len_n n_app_c n_app_n n_take_s n_take_z n_drop_s n_drop_z n_get_z n_get_s view viewA view1 elems Nat.zero_add Nat.add_zero Bool.not_true Bool.not_false Nat.one_ne_zero Nat.mul_one

theorem isOrder_c (t : List (List Bool)) (hok : okT t) : PCalls Tryz.prog 292 [boolss t] (B (orderB t)) := by
  refine pcalls1 Tryz.func292 rfl Tryz.ntmps292 rfl ?_
  simp only [List.length_cons, List.length_nil, Nat.reduceAdd, Nat.reduceSub, List.replicate_succ, List.replicate_zero, List.cons_append, List.nil_append]
  have hl := hok.1
  have hsq := hok.2
  repeat' (first
| refine g_seq ?_
| refine zJ ?_
| refine zC ?_
| (refine o_go rfl ?_; (first
| refine p_p (zD rfl) ?_
| refine p_p (zA rfl) ?_
| refine p_p (zU rfl rfl rfl) ?_); refine ⟨_, aA, ?_⟩)
| refine o_nil ?_)
  refine g_loopT (α := Nat) (fun x => [(8, I (x : Int))]) (fun _ => []) (fun x => x ≤ t.length ∧ (allN x fun x => ordX t x) = true) (fun x => t.length - x) 0 aF ⟨Nat.zero_le _, rfl⟩ ⟨rfl, trivial⟩ rfl ?_
  rintro x ⟨hx, hgx⟩
  dsimp only [zZ, List.set_cons_zero, List.set_cons_succ]
  repeat' (first
| refine g_seq ?_
| refine zJ ?_
| refine zC ?_
| (refine o_go rfl ?_; (first
| refine p_p (zN rfl rfl rfl (by omega) (idx_B (by rw [hsq _ (by omega)]; omega)) (by exact rfl)) ?_
| refine p_p (zD rfl) ?_
| refine p_p (zA rfl) ?_
| refine p_p (zF rfl rfl) ?_
| refine p_p (zN rfl rfl rfl (by omega) aM (by exact rfl)) ?_
| refine p_p (zU rfl rfl rfl) ?_
| refine p_p (zS rfl rfl rfl) ?_
| refine p_p (ps_not rfl rfl) ?_); refine ⟨_, aA, ?_⟩)
| refine o_nil ?_
| (refine zK rfl (fun hc => ?_) (fun hc => ?_) <;> try (exfalso; omega))
| (refine g_condNB rfl (fun hc => ?_) (fun hc => ?_))
| refine kr1 ?_
| refine krB rfl ?_
| refine zR ?_
| refine g_exit ?_
| refine g_ret ?_)
  · exact Eq.symm (allN_false (k := x) (by omega) (by unfold ordX tabB; rw [hc]; rfl))
  · rename_i hxx
    refine g_loopT (α := Nat) (fun y => [(21, I (y : Int))]) (fun _ => []) (fun y => y ≤ t.length ∧ (allN y fun y => ordY t x y) = true) (fun y => t.length - y) 0 aF ⟨Nat.zero_le _, rfl⟩ ⟨rfl, trivial⟩ rfl ?_
    rintro y ⟨hy, hgy⟩
    dsimp only [zZ, List.set_cons_zero, List.set_cons_succ]
    repeat' (first
| refine g_seq ?_
| refine zJ ?_
| refine zC ?_
| (refine o_go rfl ?_; (first
| refine p_p (zN rfl rfl rfl (by omega) (idx_B (by rw [hsq _ (by omega)]; omega)) (by exact rfl)) ?_
| refine p_p (zD rfl) ?_
| refine p_p (zA rfl) ?_
| refine p_p (zF rfl rfl) ?_
| refine p_p (zN rfl rfl rfl (by omega) aM (by exact rfl)) ?_
| refine p_p (zU rfl rfl rfl) ?_
| refine p_p (zS rfl rfl rfl) ?_
| refine p_p (ps_add rfl rfl rfl aN) ?_
| refine p_p (zQ rfl rfl) ?_
| refine p_p (ps_neq rfl rfl rfl) ?_); refine ⟨_, aA, ?_⟩)
| refine o_nil ?_
| (refine o_s rfl ?_; refine ⟨_, aA, ?_⟩)
| (refine o_splitN rfl rfl rfl (fun hc => ?_) (fun hc => ?_) <;> dsimp only [List.set_cons_zero, List.set_cons_succ])
| (refine o_splitA rfl rfl rfl (fun hc => ?_) (fun hc => ?_) <;> dsimp only [List.set_cons_zero, List.set_cons_succ])
| refine zW rfl ?_
| (refine zK rfl (fun hc => ?_) (fun hc => ?_) <;> try (exfalso; omega))
| (refine g_cond rfl (fun hc => ?_) (fun hc => ?_))
| refine kr1 ?_
| refine krB rfl ?_
| refine zR ?_
| refine g_exit ?_
| refine g_ret ?_)
    · rename_i hd h1
      refine Eq.symm (allN_false (k := x) (by omega) ?_)
      unfold ordX
      rw [allN_false (k := y) (by omega) (by unfold ordY tabB; rw [hd, h1, hc]; rfl), Bool.and_false]
    · have hq : (!(!decide ((x : Int) = (y : Int)) && tabB t x y && tabB t y x)) = true := by unfold tabB; rw [hc, Bool.and_false]; rfl
      refine g_loopT (α := Nat) (fun z => [(47, I (z : Int))]) (fun _ => []) (fun z => z ≤ t.length ∧ (allN z fun z => ordZ t x y z) = true) (fun z => t.length - z) 0 aF ⟨Nat.zero_le _, rfl⟩ ⟨rfl, trivial⟩ rfl ?_
      rintro z ⟨hz, hgz⟩
      dsimp only [zZ, List.set_cons_zero, List.set_cons_succ]
      repeat' (first
| refine g_seq ?_
| refine zJ ?_
| refine zC ?_
| (refine o_go rfl ?_; (first
| refine p_p (zN rfl rfl rfl (by omega) (idx_B (by rw [hsq _ (by omega)]; omega)) (by exact rfl)) ?_
| refine p_p (zD rfl) ?_
| refine p_p (zA rfl) ?_
| refine p_p (zF rfl rfl) ?_
| refine p_p (zN rfl rfl rfl (by omega) aM (by exact rfl)) ?_
| refine p_p (zS rfl rfl rfl) ?_
| refine p_p (ps_add rfl rfl rfl aN) ?_
| refine p_p (ps_not rfl rfl) ?_
| refine p_p (zQ rfl rfl) ?_); refine ⟨_, aA, ?_⟩)
| refine o_nil ?_
| (refine o_s rfl ?_; refine ⟨_, aA, ?_⟩)
| (refine o_splitA rfl rfl rfl (fun hc => ?_) (fun hc => ?_) <;> dsimp only [List.set_cons_zero, List.set_cons_succ])
| refine zW rfl ?_
| (refine zK rfl (fun hc => ?_) (fun hc => ?_) <;> try (exfalso; omega))
| (refine g_condNB rfl (fun hc => ?_) (fun hc => ?_))
| refine kr1 ?_
| refine krB rfl ?_
| refine zR ?_
| refine g_exit ?_
| refine g_ret ?_)
      · rename_i h1 h2
        refine Eq.symm (allN_false (k := x) (by omega) ?_)
        unfold ordX
        rw [allN_false (k := y) (by omega) (by unfold ordY; rw [allN_false (k := z) (by omega) (by unfold ordZ tabB; rw [h1, h2, hc]; rfl), Bool.and_false]), Bool.and_false]
      · exact zT (z + 1) ⟨by omega, by rw [allN_succ, hgz]; unfold ordZ tabB; rw [hc, Bool.not_true, Bool.and_false]; rfl⟩ (by omega) aI ⟨rfl, trivial⟩ (zM _)
      · exact zT (z + 1) ⟨by omega, by rw [allN_succ, hgz]; unfold ordZ tabB; rw [hc, Bool.and_false, Bool.false_and]; rfl⟩ (by omega) aI ⟨rfl, trivial⟩ (zM _)
      · exact zT (z + 1) ⟨by omega, by rw [allN_succ, hgz]; unfold ordZ tabB; rw [hc]; rfl⟩ (by omega) aI ⟨rfl, trivial⟩ (zM _)
      · have hzn : z = t.length := by omega
        subst hzn
        exact zT (y + 1) ⟨by omega, by rw [allN_succ, hgy]; unfold ordY; rw [hq, hgz]; rfl⟩ (by omega) aI ⟨rfl, trivial⟩ (zM _)
    · have hq : (!(!decide ((x : Int) = (y : Int)) && tabB t x y && tabB t y x)) = true := by unfold tabB; rw [hc, Bool.and_false, Bool.false_and]; rfl
      refine g_loopT (α := Nat) (fun z => [(47, I (z : Int))]) (fun _ => []) (fun z => z ≤ t.length ∧ (allN z fun z => ordZ t x y z) = true) (fun z => t.length - z) 0 aF ⟨Nat.zero_le _, rfl⟩ ⟨rfl, trivial⟩ rfl ?_
      rintro z ⟨hz, hgz⟩
      dsimp only [zZ, List.set_cons_zero, List.set_cons_succ]
      repeat' (first
| refine g_seq ?_
| refine zJ ?_
| refine zC ?_
| (refine o_go rfl ?_; (first
| refine p_p (zN rfl rfl rfl (by omega) (idx_B (by rw [hsq _ (by omega)]; omega)) (by exact rfl)) ?_
| refine p_p (zD rfl) ?_
| refine p_p (zA rfl) ?_
| refine p_p (zF rfl rfl) ?_
| refine p_p (zN rfl rfl rfl (by omega) aM (by exact rfl)) ?_
| refine p_p (zS rfl rfl rfl) ?_
| refine p_p (ps_add rfl rfl rfl aN) ?_
| refine p_p (ps_not rfl rfl) ?_
| refine p_p (zQ rfl rfl) ?_); refine ⟨_, aA, ?_⟩)
| refine o_nil ?_
| (refine o_s rfl ?_; refine ⟨_, aA, ?_⟩)
| (refine o_splitA rfl rfl rfl (fun hc => ?_) (fun hc => ?_) <;> dsimp only [List.set_cons_zero, List.set_cons_succ])
| refine zW rfl ?_
| (refine zK rfl (fun hc => ?_) (fun hc => ?_) <;> try (exfalso; omega))
| (refine g_condNB rfl (fun hc => ?_) (fun hc => ?_))
| refine kr1 ?_
| refine krB rfl ?_
| refine zR ?_
| refine g_exit ?_
| refine g_ret ?_)
      · rename_i h1 h2
        refine Eq.symm (allN_false (k := x) (by omega) ?_)
        unfold ordX
        rw [allN_false (k := y) (by omega) (by unfold ordY; rw [allN_false (k := z) (by omega) (by unfold ordZ tabB; rw [h1, h2, hc]; rfl), Bool.and_false]), Bool.and_false]
      · exact zT (z + 1) ⟨by omega, by rw [allN_succ, hgz]; unfold ordZ tabB; rw [hc, Bool.not_true, Bool.and_false]; rfl⟩ (by omega) aI ⟨rfl, trivial⟩ (zM _)
      · exact zT (z + 1) ⟨by omega, by rw [allN_succ, hgz]; unfold ordZ tabB; rw [hc, Bool.and_false, Bool.false_and]; rfl⟩ (by omega) aI ⟨rfl, trivial⟩ (zM _)
      · exact zT (z + 1) ⟨by omega, by rw [allN_succ, hgz]; unfold ordZ tabB; rw [hc]; rfl⟩ (by omega) aI ⟨rfl, trivial⟩ (zM _)
      · have hzn : z = t.length := by omega
        subst hzn
        exact zT (y + 1) ⟨by omega, by rw [allN_succ, hgy]; unfold ordY; rw [hq, hgz]; rfl⟩ (by omega) aI ⟨rfl, trivial⟩ (zM _)
    · have hq : (!(!decide ((x : Int) = (y : Int)) && tabB t x y && tabB t y x)) = true := by rw [hc]; rfl
      refine g_loopT (α := Nat) (fun z => [(47, I (z : Int))]) (fun _ => []) (fun z => z ≤ t.length ∧ (allN z fun z => ordZ t x y z) = true) (fun z => t.length - z) 0 aF ⟨Nat.zero_le _, rfl⟩ ⟨rfl, trivial⟩ rfl ?_
      rintro z ⟨hz, hgz⟩
      dsimp only [zZ, List.set_cons_zero, List.set_cons_succ]
      repeat' (first
| refine g_seq ?_
| refine zJ ?_
| refine zC ?_
| (refine o_go rfl ?_; (first
| refine p_p (zN rfl rfl rfl (by omega) (idx_B (by rw [hsq _ (by omega)]; omega)) (by exact rfl)) ?_
| refine p_p (zD rfl) ?_
| refine p_p (zA rfl) ?_
| refine p_p (zF rfl rfl) ?_
| refine p_p (zN rfl rfl rfl (by omega) aM (by exact rfl)) ?_
| refine p_p (zS rfl rfl rfl) ?_
| refine p_p (ps_add rfl rfl rfl aN) ?_
| refine p_p (ps_not rfl rfl) ?_
| refine p_p (zQ rfl rfl) ?_); refine ⟨_, aA, ?_⟩)
| refine o_nil ?_
| (refine o_s rfl ?_; refine ⟨_, aA, ?_⟩)
| (refine o_splitA rfl rfl rfl (fun hc => ?_) (fun hc => ?_) <;> dsimp only [List.set_cons_zero, List.set_cons_succ])
| refine zW rfl ?_
| (refine zK rfl (fun hc => ?_) (fun hc => ?_) <;> try (exfalso; omega))
| (refine g_condNB rfl (fun hc => ?_) (fun hc => ?_))
| refine kr1 ?_
| refine krB rfl ?_
| refine zR ?_
| refine g_exit ?_
| refine g_ret ?_)
      · rename_i h1 h2
        refine Eq.symm (allN_false (k := x) (by omega) ?_)
        unfold ordX
        rw [allN_false (k := y) (by omega) (by unfold ordY; rw [allN_false (k := z) (by omega) (by unfold ordZ tabB; rw [h1, h2, hc]; rfl), Bool.and_false]), Bool.and_false]
      · exact zT (z + 1) ⟨by omega, by rw [allN_succ, hgz]; unfold ordZ tabB; rw [hc, Bool.not_true, Bool.and_false]; rfl⟩ (by omega) aI ⟨rfl, trivial⟩ (zM _)
      · exact zT (z + 1) ⟨by omega, by rw [allN_succ, hgz]; unfold ordZ tabB; rw [hc, Bool.and_false, Bool.false_and]; rfl⟩ (by omega) aI ⟨rfl, trivial⟩ (zM _)
      · exact zT (z + 1) ⟨by omega, by rw [allN_succ, hgz]; unfold ordZ tabB; rw [hc]; rfl⟩ (by omega) aI ⟨rfl, trivial⟩ (zM _)
      · have hzn : z = t.length := by omega
        subst hzn
        exact zT (y + 1) ⟨by omega, by rw [allN_succ, hgy]; unfold ordY; rw [hq, hgz]; rfl⟩ (by omega) aI ⟨rfl, trivial⟩ (zM _)
    · have hyn : y = t.length := by omega
      subst hyn
      exact zT (x + 1) ⟨by omega, by rw [allN_succ, hgx]; unfold ordX; rw [hgy]; unfold tabB; rw [‹(t.getD x []).getD x false = true›]; rfl⟩ (by omega) aI ⟨rfl, trivial⟩ (zM _)
  · have hxn : x = t.length := by omega
    subst hxn
    exact hgx.symm

theorem ohas_c (t : List (List Bool)) (l : List Int) (_hok : okT t) (hl : l.length ≤ 1048576) : PCalls Tryz.prog 120 [boolss t, ints l] (B (inSizeB l (t.length : Int))) := by
  refine pcalls1 Tryz.func120 rfl Tryz.ntmps120 rfl ?_
  simp only [List.length_cons, List.length_nil, Nat.reduceAdd, Nat.reduceSub, List.replicate_succ, List.replicate_zero, List.cons_append, List.nil_append]
  repeat' (first
| refine g_seq ?_
| refine zC ?_
| (refine o_go rfl ?_; (first
| refine p_p (zG rfl rfl aB (inSize_c _ _ hl)) ?_
| refine p_p (zD rfl) ?_
| refine p_p (zA rfl) ?_
| refine p_p (zU rfl rfl rfl) ?_); refine ⟨_, aA, ?_⟩)
| refine o_nil ?_
| refine kr1 ?_
| refine krB rfl ?_
| refine g_ret ?_)
  rfl

theorem great_c (t : List (List Bool)) (l : List Int) (hok : okT t) (hl : l.length ≤ 1048576) (hin : ∀ i, i < l.length → 0 ≤ l.getD i 0 ∧ l.getD i 0 < (t.length : Int)) : PCalls Tryz.prog 293 [boolss t, ints l] (I (greatL t l)) := by
  refine pcalls1 Tryz.func293 rfl Tryz.ntmps293 rfl ?_
  simp only [List.length_cons, List.length_nil, Nat.reduceAdd, Nat.reduceSub, List.replicate_succ, List.replicate_zero, List.cons_append, List.nil_append]
  have htl := hok.1
  have hsq := hok.2
  repeat' (first
| refine g_seq ?_
| refine zJ ?_
| refine zC ?_
| (refine o_go rfl ?_; (first
| refine p_p (zD rfl) ?_
| refine p_p (zA rfl) ?_
| refine p_p (zU rfl rfl rfl) ?_); refine ⟨_, aA, ?_⟩)
| refine o_nil ?_)
  refine g_loopT (α := Nat) (fun i => [(12, I (i : Int))]) (fun _ => []) (fun i => i ≤ l.length ∧ (l.take i).find? (fun x => l.all fun y => tabB t y.toNat x.toNat) = none) (fun i => l.length - i) 0 aF ⟨Nat.zero_le _, rfl⟩ ⟨rfl, trivial⟩ rfl ?_
  rintro i ⟨hi, hno⟩
  dsimp only [zZ, List.set_cons_zero, List.set_cons_succ]
  repeat' (first
| refine g_seq ?_
| refine zJ ?_
| refine zC ?_
| (refine o_go rfl ?_; (first
| refine p_p (zD rfl) ?_
| refine p_p (zA rfl) ?_
| refine p_p (zF rfl rfl) ?_
| refine p_p (zN rfl rfl rfl (by omega) aM (by exact rfl)) ?_
| refine p_p (zU rfl rfl rfl) ?_
| refine p_p (zS rfl rfl rfl) ?_); refine ⟨_, aA, ?_⟩)
| refine o_nil ?_
| (refine zK rfl (fun hc => ?_) (fun hc => ?_) <;> try (exfalso; omega))
| refine kr1 ?_
| refine krI rfl ?_
| refine zR ?_
| refine g_exit ?_
| refine g_ret ?_)
  · have hxi := hin i (by omega)
    refine g_loopT (α := Nat × Bool) (fun x => [(7, B x.2), (18, I (x.1 : Int))]) (fun _ => []) (fun x => x.1 ≤ l.length ∧ x.2 = (l.take x.1).all fun y => tabB t y.toNat (l.getD i 0).toNat) (fun x => l.length - x.1) (0, true) aF ⟨Nat.zero_le _, rfl⟩ ⟨rfl, rfl, trivial⟩ rfl ?_
    rintro ⟨j, top⟩ ⟨hj, htop⟩
    dsimp only at hj htop
    dsimp only [zZ, List.set_cons_zero, List.set_cons_succ]
    have hnext : ∀ h : j < l.length, (l.take (j + 1)).all (fun y => tabB t y.toNat (l.getD i 0).toNat) = (top && tabB t (l.getD j 0).toNat (l.getD i 0).toNat) := fun h => by rw [take_snoc 0 h, all_snoc, ← htop]
    have hlast : ¬ (j : Int) < (l.length : Int) → top = l.all fun y => tabB t y.toNat (l.getD i 0).toNat := fun h => by rw [htop, (take_full hj h).1]
    have hrow : ∀ h : j < l.length, ((l.getD i 0).toNat) < (t.getD (l.getD j 0).toNat []).length := fun h => by
      have := hin j h
      rw [hsq _ (by omega)]; omega
    cases top
    · repeat' (first
| refine g_seq ?_
| refine zJ ?_
| refine zC ?_
| (refine o_go rfl ?_; (first
| refine p_p (zD rfl) ?_
| refine p_p (zA rfl) ?_
| refine p_p (zF rfl rfl) ?_
| refine p_p (zN rfl rfl rfl (by omega) aM (by exact rfl)) ?_
| refine p_p (zS rfl rfl rfl) ?_
| refine p_p (ps_add rfl rfl rfl aN) ?_
| refine p_p (zQ rfl rfl) ?_); refine ⟨_, aA, ?_⟩)
| refine o_nil ?_
| (refine o_s rfl ?_; refine ⟨_, aA, ?_⟩)
| refine zW rfl ?_
| (refine zK rfl (fun hc => ?_) (fun hc => ?_) <;> try (exfalso; omega))
| refine zR ?_
| refine g_exit ?_)
      · exact zT (j + 1, false) ⟨by omega, by rw [hnext (by omega)]; rfl⟩ (by dsimp only; omega) aI ⟨rfl, rfl, trivial⟩ (zM _)
      · exact zT (i + 1) ⟨by omega, find_take_succ hno 0 (by omega) (hlast hc).symm⟩ (by omega) aI ⟨rfl, trivial⟩ (zM _)
    · repeat' (first
| refine g_seq ?_
| refine zJ ?_
| refine zC ?_
| (refine o_go rfl ?_; (first
| refine p_p (zN rfl rfl rfl hxi.1 (idx_B (hrow (by omega))) (by exact rfl)) ?_
| refine p_p (zN rfl rfl rfl (hin j (by omega)).1 (idx_bools (by have := hin j (by omega); omega)) (by exact rfl)) ?_
| refine p_p (zD rfl) ?_
| refine p_p (zA rfl) ?_
| refine p_p (zF rfl rfl) ?_
| refine p_p (zN rfl rfl rfl (by omega) aM (by exact rfl)) ?_
| refine p_p (zS rfl rfl rfl) ?_
| refine p_p (ps_add rfl rfl rfl aN) ?_
| refine p_p (zQ rfl rfl) ?_); refine ⟨_, aA, ?_⟩)
| refine o_nil ?_
| refine zX rfl ?_
| (refine zK rfl (fun hc => ?_) (fun hc => ?_) <;> try (exfalso; omega))
| refine kr1 ?_
| refine krI rfl ?_
| refine zR ?_
| refine g_exit ?_
| refine g_ret ?_)
      · exact zT (j + 1, tabB t (l.getD j 0).toNat (l.getD i 0).toNat) ⟨by omega, by rw [hnext (by omega)]; rfl⟩ (by dsimp only; omega) aI ⟨rfl, rfl, trivial⟩ (zM _)
      · unfold greatL
        rw [find_none_take hno 0 (by omega) (hlast hc).symm]; rfl
  · rw [(take_full hi hc).1] at hno
    unfold greatL
    rw [hno]; rfl

theorem thoseR_c (t : List (List Bool)) (f : FuncId) [FnT Tryz.prog f] (caps : List PV) (pred : Nat → Bool) (hok : okT t) (hf : ∀ x, x < t.length → PCalls Tryz.prog f ([] ++ [I (x : Int)] ++ caps) (B (pred x))) :
    RCalls Tryz.prog 126 [boolss t, .fn f [] caps] (.arr true 1 3 ((upTo t.length pred).map I)) (.hp 0) := by
  refine pcallsR1 Tryz.func126 rfl Tryz.ntmps126 rfl ?_
  simp only [List.length_cons, List.length_nil, Nat.reduceAdd, Nat.reduceSub, List.replicate_succ, List.replicate_zero, List.cons_append, List.nil_append]
  have htl := hok.1
  repeat' (first
| refine g_seq ?_
| refine zJ ?_
| refine zC ?_
| (refine o_go rfl ?_; (first
| refine p_p (zD rfl) ?_
| refine p_p (zA rfl) ?_
| refine p_p (zU rfl rfl rfl) ?_
| refine p_e rfl (e_lit0 rfl (by decide)) ?_); refine ⟨_, aA, ?_⟩)
| refine o_nil ?_)
  refine g_loopF (α := Nat) [7] (fun x => [(5, .hp 0), (10, I (x : Int))]) (fun x => [.arr false 1 3 ((upTo x pred).map I)]) (fun x => x ≤ t.length) (fun x => t.length - x) 0 aF (Nat.zero_le _) ⟨rfl, rfl, trivial⟩ rfl ?_
  rintro x hx
  dsimp only [zZ, List.set_cons_zero, List.set_cons_succ]
  have hul := upTo_length x pred
  have hsuc := upTo_succ x pred
  repeat' (first
| refine g_seq ?_
| refine zJ ?_
| refine zC ?_
| (refine o_go rfl ?_; (first
| refine p_p (zG rfl rfl (argsLe_refl _) (hf x (by omega))) ?_
| refine p_p (zD rfl) ?_
| refine p_p (zA rfl) ?_
| refine p_p (zS rfl rfl rfl) ?_
| refine p_p (ps_add rfl rfl rfl aN) ?_
| refine p_e rfl (e_append rfl rfl rfl rfl rfl rfl (by first | exact one_one rfl | exact one_map (fun _ => rfl) _) rfl aT aT) ?_
| refine p_p (ps_lit1 rfl rfl (by rfl) (by rfl)) ?_); refine ⟨_, aA, ?_⟩)
| refine o_nil ?_
| (refine zK rfl (fun hc => ?_) (fun hc => ?_) <;> try (exfalso; omega))
| (refine g_cond rfl (fun hc => ?_) (fun hc => ?_))
| refine krr 0 rfl (HandOut.arr rfl ?_ aO)
| refine zR ?_
| refine g_exit ?_
| refine g_ret ?_)
  · rw [hc] at hsuc
    refine zT (x + 1) (by omega) (by omega) aI ⟨rfl, rfl, trivial⟩ (zB ?_ (zM _))
    rw [hsuc]; simp
  · rw [hc] at hsuc
    refine zT (x + 1) (by omega) (by omega) aI ⟨rfl, rfl, trivial⟩ (zB ?_ (zM _))
    rw [hsuc]; simp
  · have hxn : x = t.length := by omega
    subst hxn
    rfl

theorem those_c (t : List (List Bool)) (f : FuncId) [FnT Tryz.prog f] (caps : List PV) (pred : Nat → Bool) (hok : okT t) (hf : ∀ x, x < t.length → PCalls Tryz.prog f ([] ++ [I (x : Int)] ++ caps) (B (pred x))) :
    PCalls Tryz.prog 126 [boolss t, .fn f [] caps] (ints (upTo t.length pred)) := (thoseR_c t f caps pred hok hf).plain rfl rfl

theorem meet1_c (t : List (List Bool)) (x y z : Nat) (hok : okT t) (hx : x < t.length) (hy : y < t.length) (hz : z < t.length) :
    PCalls Tryz.prog 294 [I (z : Int), .ptr [boolss t], .ptr [I (x : Int)], .ptr [I (y : Int)]] (B (tabB t z x && tabB t z y)) := by
  refine pcalls1 Tryz.func294 rfl Tryz.ntmps294 rfl ?_
  simp only [List.length_cons, List.length_nil, Nat.reduceAdd, Nat.reduceSub, List.replicate_succ, List.replicate_zero, List.cons_append, List.nil_append]
  have htl := hok.1
  have hrow := hok.2 z hz
  repeat' (first
| refine g_seq ?_
| refine zC ?_
| refine zP (by kernel_rfl) (by kernel_rfl) ?_
| (refine o_go rfl ?_; (first
| refine p_p (zN rfl rfl rfl (by omega) (idx_B (by rw [n_toNat, hrow]; omega)) (by exact rfl)) ?_
| refine p_p (zD rfl) ?_
| refine p_p (zA rfl) ?_
| refine p_p (zF rfl rfl) ?_
| refine p_p (zN rfl rfl rfl (by omega) aM (by exact rfl)) ?_
| refine p_p (zQ rfl rfl) ?_); refine ⟨_, aA, ?_⟩)
| refine o_nil ?_
| (refine o_s rfl ?_; refine ⟨_, aA, ?_⟩)
| (refine o_splitA rfl rfl rfl (fun hc => ?_) (fun hc => ?_) <;> dsimp only [List.set_cons_zero, List.set_cons_succ])
| refine kr1 ?_
| refine krB rfl ?_
| refine g_ret ?_)
  · unfold tabB; rw [hc]; rfl
  · unfold tabB; rw [hc]; rfl

theorem meetTable_c (t : List (List Bool)) (hok : okT t) (q : PV) (hq : (mOk t = true → q = intss (meetsT t t.length)) ∧ (mOk t = false → q = intss [])) :
    PCalls Tryz.prog 221 [boolss t] (.tup [q, B (mOk t)]) := by
  refine pcalls2 Tryz.func221 rfl Tryz.ntmps221 rfl ?_
  simp only [List.length_cons, List.length_nil, Nat.reduceAdd, Nat.reduceSub, List.replicate_succ, List.replicate_zero, List.cons_append, List.nil_append]
  have htl := hok.1
  repeat' (first
| refine g_seq ?_
| refine zJ ?_
| refine zC ?_
| (refine o_go rfl ?_; (first
| refine p_p (zD rfl) ?_
| refine p_p (zA rfl) ?_
| refine p_p (zF rfl rfl) ?_
| refine p_p (zU rfl rfl rfl) ?_
| refine p_e rfl (e_lit0 rfl (by decide)) ?_
| refine p_p (ps_box rfl rfl) ?_); refine ⟨_, aA, ?_⟩)
| refine o_nil ?_)
  refine g_loopF (α := Nat) [9] (fun x => [(4, .hp 0), (12, I (x : Int))]) (fun x => [.arr false 1 34 ((meetsT t x).map ints)]) (fun x => x ≤ t.length ∧ (allN x fun x => allN t.length fun y => !decide (mT t x y < 0)) = true) (fun x => t.length - x) 0 aF ⟨Nat.zero_le _, rfl⟩ ⟨rfl, rfl, trivial⟩ rfl ?_
  rintro x ⟨hx, hgx⟩
  dsimp only [zZ, List.set_cons_zero, List.set_cons_succ]
  have hml := length_meetsT t x
  repeat' (first
| refine g_settle 1 rfl (by dsimp only [setlP, setl1, setlH, bitvec_to_nat, Nat.reduceAdd, Nat.reduceMul, Nat.reduceBEq, reduceCtorEq]) ?_
| refine g_seq ?_
| refine zJ ?_
| refine zC ?_
| (refine o_go rfl ?_; (first
| refine p_p (zD rfl) ?_
| refine p_p (zA rfl) ?_
| refine p_p (zF rfl rfl) ?_
| refine p_p (zU rfl rfl rfl) ?_
| refine p_p (zS rfl rfl rfl) ?_
| refine p_e rfl (e_store_boxC rfl rfl rfl rfl aJ rfl rfl) ?_
| refine p_e rfl (e_alloc rfl) ?_
| refine p_e rfl (e_lit0 rfl (by decide)) ?_); refine ⟨_, aA, ?_⟩)
| refine o_nil ?_
| (refine zK rfl (fun hc => ?_) (fun hc => ?_) <;> try (exfalso; omega))
| refine kr2 ?_ ?_
| refine krB rfl ?_
| refine zR ?_
| refine g_exit ?_
| refine g_ret ?_)
  · refine g_loopF (α := Nat) [15] (fun y => [(6, .hp 2), (18, I (y : Int))]) (fun y => [.arr false 1 34 ((meetsT t x).map ints), .gone, .arr false 1 3 ((rowT t x y).map I)]) (fun y => y ≤ t.length ∧ (allN y fun y => !decide (mT t x y < 0)) = true) (fun y => t.length - y) 0 aF ⟨Nat.zero_le _, rfl⟩ ⟨rfl, rfl, trivial⟩ rfl ?_
    rintro y ⟨hy, hgy⟩
    dsimp only [zZ, List.set_cons_zero, List.set_cons_succ]
    have hrl := length_rowT t x y
    repeat' (first
| refine g_settle 3 rfl (by dsimp only [setlP, setl1, setlH, bitvec_to_nat, Nat.reduceAdd, Nat.reduceMul, Nat.reduceBEq, reduceCtorEq]) ?_
| refine g_seq ?_
| refine zJ ?_
| refine zC ?_
| refine zP (by kernel_rfl) (by kernel_rfl) ?_
| (refine o_go rfl ?_; (first
| refine p_p (zG rfl rfl aB (those_c t 294 [.ptr [boolss t], .ptr [I (x : Int)], .ptr [I (y : Int)]] (fun z => tabB t z x && tabB t z y) hok (fun z hz => meet1_c t x y z hok (by omega) (by omega) hz))) ?_
| refine p_p (zG rfl rfl aB (great_c t _ hok (Nat.le_trans (upTo_length _ _) (by omega)) (fun i hi => ⟨(upTo_getD hi).1, (upTo_getD hi).2.1⟩))) ?_
| refine p_p (zD rfl) ?_
| refine p_p (zA rfl) ?_
| refine p_p (zF rfl rfl) ?_
| refine p_p (zS rfl rfl rfl) ?_
| refine p_p (ps_add rfl rfl rfl aN) ?_
| refine p_e rfl (e_store_boxC rfl rfl rfl rfl aJ rfl rfl) ?_
| refine p_e rfl (e_alloc rfl) ?_
| refine p_e rfl (e_append rfl rfl rfl rfl rfl rfl (by first | exact one_one rfl | exact one_map (fun _ => rfl) _) rfl aT aT) ?_
| refine p_p (ps_makeFunc rfl rfl rfl) ?_
| refine p_p (ps_lit1 rfl rfl (by rfl) (by rfl)) ?_); refine ⟨_, aA, ?_⟩)
| refine o_nil ?_
| (refine zK rfl (fun hc => ?_) (fun hc => ?_) <;> try (exfalso; omega))
| refine kr2 ?_ ?_
| refine krB rfl ?_
| refine zR ?_
| refine g_exit ?_
| refine g_ret ?_)
    · have hno : mOk t = false := allN_false (k := x) (by omega) (allN_false (k := y) (by omega) (by unfold mT; rw [decide_eq_true hc]; rfl))
      rw [hq.2 hno]
      exact krN rfl rfl
    · exact Eq.symm (allN_false (k := x) (by omega) (allN_false (k := y) (by omega) (by unfold mT; rw [decide_eq_true hc]; rfl)))
    · refine zT (y + 1) ⟨by omega, by rw [allN_succ, hgy]; unfold mT; rw [decide_eq_false hc]; rfl⟩ (by omega) aI ⟨rfl, rfl, trivial⟩ (zB rfl (zB rfl (zB ?_ (zM _))))
      rw [rowT_succ, List.map_append]; rfl
    · have hyn : y = t.length := by omega
      subst hyn
      refine zT (x + 1) ⟨by omega, by rw [allN_succ, hgx, hgy]; rfl⟩ (by omega) aI ⟨rfl, rfl, trivial⟩ (zB ?_ (zM _))
      rw [meetsT_succ, List.map_append]; rfl
  · have hxn : x = t.length := by omega
    subst hxn
    rw [hq.1 hgx]
    exact krS rfl rfl
  · have hxn : x = t.length := by omega
    subst hxn
    exact hgx.symm

def falses (n : Nat) : List (List Bool) := List.replicate n (List.replicate n false)
abbrev gridB (t : List (List Bool)) : HO := .grid 179 4 (t.map fun r => r.map B)
theorem newOrder_c (n : Nat) (hn : n ≤ 1024) : RCalls Tryz.prog 291 [I (n : Int)] (gridB (falses n)) (.hp 0) := by
  refine pcallsR1 Tryz.func291 rfl Tryz.ntmps291 rfl ?_
  simp only [List.length_cons, List.length_nil, Nat.reduceAdd, Nat.reduceSub, List.replicate_succ, List.replicate_zero, List.cons_append, List.nil_append]
  repeat' (first
| refine g_seq ?_
| refine zJ ?_
| refine zC ?_
| (refine o_go rfl ?_; (first
| refine p_e rfl (e_makeG 4 rfl rfl rfl (by omega) (by omega) (by omega) rfl) ?_
| refine p_p (zD rfl) ?_
| refine p_p (zA rfl) ?_
| refine p_p (ps_len_pg rfl rfl rfl rfl) ?_); refine ⟨_, aA, ?_⟩)
| refine o_nil ?_)
  refine g_loopT (α := Nat) (fun x => [(9, I (x : Int))]) (fun x => [.pg 179 4 n (List.replicate x (List.replicate n (B false)))]) (fun x => x ≤ n) (fun x => n - x) 0 aF (Nat.zero_le _) ⟨rfl, trivial⟩ rfl ?_
  rintro x hx
  dsimp only [zZ, List.set_cons_zero, List.set_cons_succ]
  repeat' (first
| refine g_seq ?_
| refine zJ ?_
| refine zC ?_
| (refine o_go rfl ?_; (first
| refine p_p (zD rfl) ?_
| refine p_p (zA rfl) ?_
| refine p_p (zS rfl rfl rfl) ?_
| refine p_p (ps_add rfl rfl rfl aN) ?_
| refine p_p (ps_index_pg rfl rfl rfl rfl (by omega) (by first | omega | (rw [n_toNat]; omega))) ?_
| refine p_e rfl (e_store_row rfl rfl rfl rfl aT (by omega) rfl rfl rfl (by first | exact one_all (fun _ => rfl) _ | exact one_rep rfl _ | rfl)) ?_
| refine p_e rfl (e_make1 rfl rfl rfl (by omega) (by omega) (by omega) rfl rfl) ?_); refine ⟨_, aA, ?_⟩)
| refine o_nil ?_
| (refine zK rfl (fun hc => ?_) (fun hc => ?_) <;> try (exfalso; omega))
| refine zR ?_
| refine g_exit ?_
| refine g_ret ?_)
  · refine zT (x + 1) (by omega) (by omega) aI ⟨rfl, trivial⟩ (zB ?_ (zM _))
    rw [List.replicate_succ' (n := x)]
  · have hxn : x = n := by omega
    subst hxn
    refine krr 0 rfl (HandOut.pg rfl ?_ (by simp [falses]) (sc_maps (fun _ => rfl) _))
    simp [falses]

theorem idx_gridB {t : List (List Bool)} {i : Nat} (h : i < t.length) : (t.map fun r => r.map B)[i]? = some ((t.getD i []).map B) := by simp [h]
theorem gridB_set {n a b : Nat} {f f' : Nat → Nat → Bool} {v : Bool} (ha : a < n) (hb : b < n) (h : ∀ a' b', a' < n → b' < n → f' a' b' = if a' = a ∧ b' = b then v else f a' b') :
    ((tabF n f).map fun r => r.map B).set a ((((tabF n f).getD a []).map B).set b (B v)) = (tabF n f').map fun r => r.map B := by
  rw [← tabF_set ha hb h, List.map_set, List.map_set]
theorem viewM_gridB {t : List (List Bool)} : (PV.sl 1 none ((t.map fun r => r.map B).map fun r => .sl 1 none r)) = boolss t := by
  rw [List.map_map]; rfl

theorem getD_mem {α : Type} {l : List α} {d : α} {i : Nat} (h : i < l.length) : l.getD i d ∈ l := by
  rw [List.getD_eq_getElem?_getD, List.getElem?_eq_getElem h]; exact List.getElem_mem h
def okO (rows : List (List Int)) : Bool := decide (rows.length ≤ 10) && (allN rows.length (fun x => risesB (rows.getD x []) && inSizeB (rows.getD x []) (rows.length : Int)) && orderB (tabOf rows))
def upX (rows : List (List Int)) (x i : Nat) (a b : Nat) : Bool := (decide (b < x) && leqB rows (a : Int) (b : Int)) || (decide (b = x) && ((rows.getD x []).take i).contains (a : Int))
theorem orderOf_c (rows : List (List Int)) (hok : okP rows) (q : PV) (hq : (okO rows = true → q = boolss (tabOf rows)) ∧ (okO rows = false → q = .any)) : PCalls Tryz.prog 220 [posetP rows] (.tup [q, B (okO rows)]) := by
  refine pcalls2 Tryz.func220 rfl Tryz.ntmps220 rfl ?_
  simp only [List.length_cons, List.length_nil, Nat.reduceAdd, Nat.reduceSub, List.replicate_succ, List.replicate_zero, List.cons_append, List.nil_append]
  have hr := hok.1
  repeat' (first
| refine g_seq ?_
| refine zJ ?_
| refine zC ?_
| (refine o_go rfl ?_; (first
| refine p_e rfl (e_callR rfl rfl aB rfl (newOrder_c _ (by omega))) ?_
| refine p_p (zD rfl) ?_
| refine p_p (zA rfl) ?_
| refine p_p (zF rfl rfl) ?_
| refine p_p (zU rfl rfl rfl) ?_
| refine p_p (zL rfl rfl) ?_
| refine p_p (ps_gtr rfl rfl rfl) ?_
| refine p_p (ps_box rfl rfl) ?_); refine ⟨_, aA, ?_⟩)
| refine o_nil ?_
| (refine zK rfl (fun hc => ?_) (fun hc => ?_) <;> try (exfalso; omega))
| refine kr2 ?_ ?_
| refine krB rfl ?_
| refine zR ?_
| refine g_ret ?_)
  · rw [hq.2 (by unfold okO; rw [decide_eq_false (by omega)]; rfl)]; exact krAny
  · unfold okO; rw [decide_eq_false (by omega)]; rfl
  have h10 : rows.length ≤ 10 := by omega
  rw [show gridB (falses rows.length) = gridB (tabF rows.length fun a b => decide (b < 0) && leqB rows (a : Int) (b : Int)) by
    unfold falses; rw [falses_F]; congr 2]
  refine g_loopT (α := Nat) (fun x => [(20, I (x : Int))]) (fun x => [gridB (tabF rows.length fun a b => decide (b < x) && leqB rows (a : Int) (b : Int))]) (fun x => x ≤ rows.length ∧ (allN x fun x => risesB (rows.getD x []) && inSizeB (rows.getD x []) (rows.length : Int)) = true) (fun x => rows.length - x) 0 aF ⟨Nat.zero_le _, rfl⟩ ⟨rfl, trivial⟩ rfl ?_
  rintro x ⟨hx, hg⟩
  dsimp only [zZ, List.set_cons_zero, List.set_cons_succ]
  have hrx := hok.row x
  have hno : ∀ h : x < rows.length, (risesB (rows.getD x []) && inSizeB (rows.getD x []) (rows.length : Int)) = false → okO rows = false := fun h h0 => by
    unfold okO; rw [allN_false (k := x) h h0, Bool.false_and, Bool.and_false]
  repeat' (first
| refine g_seq ?_
| refine zJ ?_
| refine zC ?_
| (refine o_go rfl ?_; (first
| refine p_p (ps_callM rfl rfl aB (by rfl) (rises_c _ hrx)) ?_
| refine p_p (ps_callM rfl rfl aB (by rfl) (inSize_c _ _ hrx)) ?_
| refine p_p (ps_callM rfl rfl (by exact ⟨le_eq viewM_gridB, trivial⟩) (by rfl) (isOrder_c _ (okT_F _ h10))) ?_
| refine p_p (zD rfl) ?_
| refine p_p (zA rfl) ?_
| refine p_p (zF rfl rfl) ?_
| refine p_p (zN rfl rfl rfl (by omega) aM (by exact rfl)) ?_
| refine p_p (zU rfl rfl rfl) ?_
| refine p_p (zS rfl rfl rfl) ?_
| refine p_p (ps_not rfl rfl) ?_
| refine p_p (zQ rfl rfl) ?_); refine ⟨_, aA, ?_⟩)
| refine o_nil ?_
| (refine o_s rfl ?_; refine ⟨_, aA, ?_⟩)
| (refine o_splitN rfl rfl rfl (fun hc => ?_) (fun hc => ?_) <;> dsimp only [List.set_cons_zero, List.set_cons_succ])
| refine zX rfl ?_
| (refine zK rfl (fun hc => ?_) (fun hc => ?_) <;> try (exfalso; omega))
| (refine g_condNB rfl (fun hc => ?_) (fun hc => ?_))
| refine kr2 ?_ ?_
| refine krB rfl ?_
| refine zR ?_
| refine g_exit ?_
| refine g_ret ?_)
  · rw [hq.2 (hno (by omega) (by rw [hc]; rfl))]; exact krAny
  · exact (hno (by omega) (by rw [hc]; rfl)).symm
  · rw [hq.2 (hno (by omega) (by rw [hc, Bool.and_false]))]; exact krAny
  · exact (hno (by omega) (by rw [hc, Bool.and_false])).symm
  · rename_i hris
    have hy : ∀ i, i < (rows.getD x []).length → 0 ≤ (rows.getD x []).getD i 0 ∧ ((rows.getD x []).getD i 0).toNat < rows.length := fun i hi => by
      have := inSize_mem hc (getD_mem (d := 0) hi)
      omega
    rw [show gridB (tabF rows.length fun a b => decide (b < x) && leqB rows (a : Int) (b : Int)) = gridB (tabF rows.length (upX rows x 0)) by
      rw [tabF_congr (g := upX rows x 0) fun a b _ _ => by unfold upX; simp]]
    refine g_loopT (α := Nat) (fun i => [(36, I (i : Int))]) (fun i => [gridB (tabF rows.length (upX rows x i))]) (fun i => i ≤ (rows.getD x []).length) (fun i => (rows.getD x []).length - i) 0 aF (Nat.zero_le _) ⟨rfl, trivial⟩ rfl ?_
    rintro i hi
    dsimp only [zZ, List.set_cons_zero, List.set_cons_succ]
    have hlen := length_tabF rows.length (upX rows x i)
    have hrl : ∀ a, a < rows.length → ((tabF rows.length (upX rows x i)).getD a []).length = rows.length := fun a ha => by rw [getD_tabF ha]; simp
    repeat' (first
| refine g_seq ?_
| refine zJ ?_
| refine zC ?_
| (refine o_go rfl ?_; (first
| refine p_p (ps_index_grid rfl rfl rfl rfl (hy _ (by omega)).1 (by rw [List.length_map, hlen]; exact (hy _ (by omega)).2)) ?_
| refine p_p (ps_load_row rfl rfl rfl (by rw [List.length_map, hlen]; exact (hy _ (by omega)).2)) ?_
| refine p_p (ps_index_row rfl rfl rfl (by exact idx_gridB (by rw [hlen]; exact (hy _ (by omega)).2)) rfl (by omega) (by rw [n_toNat, List.length_map, hrl _ (hy _ (by omega)).2]; omega)) ?_
| refine p_e rfl (e_store_grid rfl rfl rfl rfl (by exact idx_gridB (by rw [hlen]; exact (hy _ (by omega)).2)) (by rw [List.length_map, hrl _ (hy _ (by omega)).2]; omega) rfl rfl) ?_
| refine p_p (zD rfl) ?_
| refine p_p (zA rfl) ?_
| refine p_p (zF rfl rfl) ?_
| refine p_p (zN rfl rfl rfl (by omega) aM (by exact rfl)) ?_
| refine p_p (zS rfl rfl rfl) ?_
| refine p_p (ps_add rfl rfl rfl aN) ?_); refine ⟨_, aA, ?_⟩)
| refine o_nil ?_
| (refine zK rfl (fun hc => ?_) (fun hc => ?_) <;> try (exfalso; omega))
| refine zR ?_
| refine g_exit ?_)
    · refine zT (i + 1) (by omega) (by omega) aI ⟨rfl, trivial⟩ (zB ?_ (zM _))
      rw [gridB_set (hy i (by omega)).2 (show x < rows.length by omega) (f' := upX rows x (i + 1)) (fun a b ha hb => ?_)]
      unfold upX
      rw [take_snoc 0 (by omega), contains_snoc]
      by_cases e : b = x
      · subst e
        by_cases e' : a = ((rows.getD b []).getD i 0).toNat
        · rw [if_pos ⟨e', rfl⟩, decide_eq_true (show (rows.getD b []).getD i 0 = (a : Int) by have := (hy i (by omega)).1; omega)]; simp
        · rw [if_neg (fun h => e' h.1), decide_eq_false (show ¬ (rows.getD b []).getD i 0 = (a : Int) by omega), Bool.or_false]
      · rw [if_neg (fun h => e h.2), decide_eq_false e]; simp
    · refine zT (x + 1) ⟨by omega, by rw [allN_succ, hg, hris, ‹inSizeB (rows.getD x []) (rows.length : Int) = true›]; rfl⟩ (by omega) aI ⟨rfl, trivial⟩ (zB ?_ (zM _))
      refine congrArg gridB (tabF_congr fun a b _ _ => ?_)
      unfold upX
      rw [(take_full hi hc).1]
      by_cases e : b = x
      · subst e
        rw [decide_eq_true (by omega : b < b + 1), decide_eq_false (by omega : ¬ b < b), decide_eq_true rfl]
        simp [leqB]
      · rw [decide_eq_false e]
        have : decide (b < x + 1) = decide (b < x) := by rw [Bool.eq_iff_iff]; simp; omega
        rw [this]; simp
  all_goals
    have hxn : x = rows.length := by omega
    subst hxn
    have htab : (tabF rows.length fun a b => decide (b < rows.length) && leqB rows (a : Int) (b : Int)) = tabOf rows := tabF_congr fun a b _ hb => by rw [decide_eq_true hb, Bool.true_and]
    have hoo : orderB (tabOf rows) = okO rows := by unfold okO; rw [decide_eq_true h10, hg]; rfl
    rw [htab]
  · cases ho : okO rows with
    | true =>
      rw [hq.1 ho]
      exact krS rfl (by rw [List.map_map]; rfl)
    | false => rw [hq.2 ho]; exact krAny
  · exact hoo

def upD (t : List (List Bool)) (x i : Nat) (a b : Nat) : Bool := (decide (a < x) || decide (a = x ∧ b < i)) && tabB t b a
theorem odual_c (t : List (List Bool)) (hok : okT t) : PCalls Tryz.prog 222 [boolss t] (boolss (dualT t)) := by
  refine pcalls1 Tryz.func222 rfl Tryz.ntmps222 rfl ?_
  simp only [List.length_cons, List.length_nil, Nat.reduceAdd, Nat.reduceSub, List.replicate_succ, List.replicate_zero, List.cons_append, List.nil_append]
  have htl := hok.1
  have hsq := hok.2
  repeat' (first
| refine g_seq ?_
| refine zJ ?_
| refine zC ?_
| (refine o_go rfl ?_; (first
| refine p_e rfl (e_callR rfl rfl aB rfl (newOrder_c _ (by omega))) ?_
| refine p_p (zD rfl) ?_
| refine p_p (zA rfl) ?_
| refine p_p (zU rfl rfl rfl) ?_); refine ⟨_, aA, ?_⟩)
| refine o_nil ?_)
  rw [show gridB (falses t.length) = gridB (tabF t.length (upD t 0 0)) by
    unfold falses; rw [falses_F]; exact congrArg gridB (tabF_congr fun a b _ _ => by unfold upD; simp)]
  refine g_loopT (α := Nat) (fun x => [(11, I (x : Int))]) (fun x => [gridB (tabF t.length (upD t x 0))]) (fun x => x ≤ t.length) (fun x => t.length - x) 0 aF (Nat.zero_le _) ⟨rfl, trivial⟩ rfl ?_
  rintro x hx
  dsimp only [zZ, List.set_cons_zero, List.set_cons_succ]
  repeat' (first
| refine g_seq ?_
| refine zJ ?_
| refine zC ?_
| (refine o_go rfl ?_; (first
| refine p_p (zD rfl) ?_
| refine p_p (zA rfl) ?_
| refine p_p (zU rfl rfl rfl) ?_
| refine p_p (zS rfl rfl rfl) ?_); refine ⟨_, aA, ?_⟩)
| refine o_nil ?_
| (refine zK rfl (fun hc => ?_) (fun hc => ?_) <;> try (exfalso; omega))
| refine kr1 ?_
| refine krS rfl ?_
| refine zR ?_
| refine g_exit ?_
| refine g_ret ?_)
  · refine g_loopT (α := Nat) (fun y => [(16, I (y : Int))]) (fun y => [gridB (tabF t.length (upD t x y))]) (fun y => y ≤ t.length) (fun y => t.length - y) 0 aF (Nat.zero_le _) ⟨rfl, trivial⟩ rfl ?_
    rintro y hy
    dsimp only [zZ, List.set_cons_zero, List.set_cons_succ]
    have hlen := length_tabF t.length (upD t x y)
    have hrl : ∀ a, a < t.length → ((tabF t.length (upD t x y)).getD a []).length = t.length := fun a ha => by rw [getD_tabF ha]; simp
    repeat' (first
| refine g_seq ?_
| refine zJ ?_
| refine zC ?_
| refine zP (by kernel_rfl) (by kernel_rfl) ?_
| (refine o_go rfl ?_; (first
| refine p_p (ps_index_grid rfl rfl rfl rfl (by omega) (by rw [List.length_map, hlen, n_toNat]; omega)) ?_
| refine p_p (ps_load_row rfl rfl rfl (by rw [List.length_map, hlen]; omega)) ?_
| refine p_p (ps_index_row rfl rfl rfl (by exact idx_gridB (by rw [hlen]; omega)) rfl (by omega) (by rw [n_toNat, List.length_map, hrl _ (by omega)]; omega)) ?_
| refine p_e rfl (e_store_grid rfl rfl rfl rfl (by exact idx_gridB (by rw [hlen]; omega)) (by rw [List.length_map, hrl _ (by omega)]; omega) rfl rfl) ?_
| refine p_p (zN rfl rfl rfl (by omega) (idx_B (by rw [hsq _ (by omega)]; omega)) (by exact rfl)) ?_
| refine p_p (zD rfl) ?_
| refine p_p (zA rfl) ?_
| refine p_p (zF rfl rfl) ?_
| refine p_p (zN rfl rfl rfl (by omega) aM (by exact rfl)) ?_
| refine p_p (zS rfl rfl rfl) ?_
| refine p_p (ps_add rfl rfl rfl aN) ?_); refine ⟨_, aA, ?_⟩)
| refine o_nil ?_
| (refine zK rfl (fun hc => ?_) (fun hc => ?_) <;> try (exfalso; omega))
| refine zR ?_
| refine g_exit ?_)
    · refine zT (y + 1) (by omega) (by omega) aI ⟨rfl, trivial⟩ (zB ?_ (zM _))
      refine congrArg (HO.grid 179 4) ?_
      rw [gridB_set (show x < t.length by omega) (show y < t.length by omega) (f' := upD t x (y + 1)) (fun a b ha hb => ?_)]
      unfold upD
      by_cases e : a = x ∧ b = y
      · rw [if_pos e, decide_eq_true (show a = x ∧ b < y + 1 by omega), Bool.or_true, Bool.true_and, e.1, e.2]; rfl
      · rw [if_neg e]
        have : decide (a = x ∧ b < y + 1) = decide (a = x ∧ b < y) := by rw [Bool.eq_iff_iff]; simp; omega
        rw [this]
    · refine zT (x + 1) (by omega) (by omega) aI ⟨rfl, trivial⟩ (zB ?_ (zM _))
      refine congrArg gridB (tabF_congr fun a b ha hb => ?_)
      unfold upD
      have : (decide (a < x) || decide (a = x ∧ b < y)) = (decide (a < x + 1) || decide (a = x + 1 ∧ b < 0)) := by rw [Bool.eq_iff_iff]; simp; omega
      rw [this]
  · rw [List.map_map]
    refine congrArg (List.map bools) (tabF_congr fun a b ha hb => ?_)
    unfold upD
    rw [decide_eq_true (show a < x by omega)]; rfl

abbrev latV (rows : List (List Int)) : PV := .ptr [boolss (tabOf rows), intss (meetsT (tabOf rows) rows.length), intss (meetsT (dualT (tabOf rows)) rows.length)]
theorem okO_good (rows : List (List Int)) : okO rows = goodP rows := by
  by_cases h10 : rows.length ≤ 10
  · cases hri : allN rows.length (fun x => risesB (rows.getD x []) && inSizeB (rows.getD x []) (rows.length : Int)) with
    | true =>
      rw [good_order rows h10 (fun x hx => by have := allN_iff.1 hri x hx; rwa [Bool.and_eq_true] at this)]
      unfold okO
      rw [hri, decide_eq_true h10]; rfl
    | false =>
      have h1 : okO rows = false := by unfold okO; rw [hri, Bool.false_and, Bool.and_false]
      have h2 : goodP rows = false := by
        cases hg : goodP rows with
        | false => rfl
        | true =>
          have : allN rows.length (fun x => risesB (rows.getD x []) && inSizeB (rows.getD x []) (rows.length : Int)) = true := allN_iff.2 fun x hx => by
            have := goodP_1 hg hx
            unfold good1 at this
            rw [Bool.and_eq_true, ris_split] at this
            exact this.1
          rw [hri] at this; cases this
      rw [h1, h2]
  · unfold okO goodP
    rw [decide_eq_false h10]; rfl
theorem length_dualT (t : List (List Bool)) : (dualT t).length = t.length := by simp [dualT]
theorem okT_dual {t : List (List Bool)} (h : okT t) : okT (dualT t) := by
  refine ⟨by rw [length_dualT]; exact h.1, fun x hx => ?_⟩
  rw [length_dualT] at hx
  unfold dualT
  rw [getD_map_range _ _ _ hx]; simp
theorem latticeOf_c (rows : List (List Int)) (hok : okP rows) : PCalls Tryz.prog 118 [posetP rows] (.tup [if goodL rows = true then latV rows else .any, B (goodL rows)]) := by
  refine pcalls2 Tryz.func118 rfl Tryz.ntmps118 rfl ?_
  simp only [List.length_cons, List.length_nil, Nat.reduceAdd, Nat.reduceSub, List.replicate_succ, List.replicate_zero, List.cons_append, List.nil_append]
  cases ho : okO rows with
  | false =>
    have h1 := orderOf_c rows hok .any ⟨fun h => (by rw [ho] at h; cases h), fun _ => rfl⟩
    rw [ho] at h1
    have hg : goodL rows = false := by unfold goodL; rw [← okO_good, ho]; rfl
    rw [hg]
    repeat' (first
| refine g_seq ?_
| refine zC ?_
| (refine o_go rfl ?_; (first
| refine p_p (zG rfl rfl aB (h1)) ?_
| refine p_p (zD rfl) ?_
| refine p_p (zA rfl) ?_
| refine p_p (ps_load_agg rfl rfl aJ) ?_
| refine p_p (ps_extract rfl rfl rfl) ?_
| refine p_p (ps_not rfl rfl) ?_
| refine p_p (zQ rfl rfl) ?_
| refine p_p (ps_box rfl rfl) ?_); refine ⟨_, aA, ?_⟩)
| refine o_nil ?_
| (refine o_s rfl ?_; refine ⟨_, aA, ?_⟩)
| refine zX rfl ?_
| refine kr2 ?_ ?_
| exact krAny
| refine krB rfl ?_
| refine g_ret ?_)
    rfl
  | true =>
    have h1 := orderOf_c rows hok _ ⟨fun _ => rfl, fun h => (by rw [ho] at h; cases h)⟩
    rw [ho] at h1
    have hl := length_tabOf rows
    have hP : goodP rows = true := by rw [← okO_good]; exact ho
    have h10 : rows.length ≤ 10 := by unfold okO at ho; simp only [Bool.and_eq_true, decide_eq_true_eq] at ho; exact ho.1
    have hot := okT_of h10
    have hm1 := meetTable_c (tabOf rows) hot (if mOk (tabOf rows) = true then intss (meetsT (tabOf rows) rows.length) else intss []) ⟨fun h => by rw [if_pos h, hl], fun h => by rw [if_neg (by rw [h]; decide)]⟩
    have hm2 := meetTable_c (dualT (tabOf rows)) (okT_dual hot) (if mOk (dualT (tabOf rows)) = true then intss (meetsT (dualT (tabOf rows)) rows.length) else intss []) ⟨fun h => by rw [if_pos h, length_dualT, hl], fun h => by rw [if_neg (by rw [h]; decide)]⟩
    have heq : rows.length ≠ 0 → goodL rows = (mOk (tabOf rows) && mOk (dualT (tabOf rows))) := fun hn => by rw [goodL_eq rows hP hn, dual_tab]
    have hz : ((tabOf rows).length : Int) = 0 → goodL rows = false := fun h => by
      unfold goodL; rw [decide_eq_true (show rows.length = 0 by omega)]; simp
    cases hb1 : mOk (tabOf rows) with
    | true =>
      rw [hb1] at hm1 heq
      cases hb2 : mOk (dualT (tabOf rows)) with
      | true =>
        rw [hb2] at hm2 heq
        simp only [if_true] at hm1 hm2
        repeat' (first
| refine g_seq ?_
| refine zC ?_
| (refine o_go rfl ?_; (first
| refine p_p (zG rfl rfl aB (h1)) ?_
| refine p_p (zG rfl rfl aB (hm1)) ?_
| refine p_p (zG rfl rfl aB (odual_c _ hot)) ?_
| refine p_p (zG rfl rfl aB (hm2)) ?_
| refine p_p (zD rfl) ?_
| refine p_p (zA rfl) ?_
| refine p_p (ps_load_agg rfl rfl aJ) ?_
| refine p_p (zU rfl rfl rfl) ?_
| refine p_p (ps_extract rfl rfl rfl) ?_
| refine p_p (ps_not rfl rfl) ?_
| refine p_p (zQ rfl rfl) ?_
| refine p_p (ps_eql rfl rfl rfl) ?_
| refine p_p (ps_box rfl rfl) ?_
| refine p_p (ps_build rfl rfl) ?_); refine ⟨_, aA, ?_⟩)
| refine o_nil ?_
| (refine zK rfl (fun hc => ?_) (fun hc => ?_) <;> try (exfalso; omega))
| refine kr2 ?_ ?_
| refine krB rfl ?_
| refine zR ?_
| refine g_ret ?_)
        · rw [if_neg (by rw [hz hc]; decide)]; exact krAny
        · exact (hz hc).symm
        · rw [heq (by omega)]; exact krP rfl rfl
        · rw [heq (by omega)]; rfl
      | false =>
        rw [hb2] at hm2 heq
        simp only [if_true, Bool.false_eq_true, if_false] at hm1 hm2
        repeat' (first
| refine g_seq ?_
| refine zC ?_
| (refine o_go rfl ?_; (first
| refine p_p (zG rfl rfl aB (h1)) ?_
| refine p_p (zG rfl rfl aB (hm1)) ?_
| refine p_p (zG rfl rfl aB (odual_c _ hot)) ?_
| refine p_p (zG rfl rfl aB (hm2)) ?_
| refine p_p (zD rfl) ?_
| refine p_p (zA rfl) ?_
| refine p_p (ps_load_agg rfl rfl aJ) ?_
| refine p_p (zU rfl rfl rfl) ?_
| refine p_p (ps_extract rfl rfl rfl) ?_
| refine p_p (ps_not rfl rfl) ?_
| refine p_p (zQ rfl rfl) ?_
| refine p_p (ps_eql rfl rfl rfl) ?_
| refine p_p (ps_box rfl rfl) ?_
| refine p_p (ps_build rfl rfl) ?_); refine ⟨_, aA, ?_⟩)
| refine o_nil ?_
| (refine zK rfl (fun hc => ?_) (fun hc => ?_) <;> try (exfalso; omega))
| refine kr2 ?_ ?_
| refine krB rfl ?_
| refine zR ?_
| refine g_ret ?_)
        · rw [if_neg (by rw [hz hc]; decide)]; exact krAny
        · exact (hz hc).symm
        · rw [heq (by omega)]; exact krAny
        · rw [heq (by omega)]; rfl
    | false =>
      rw [hb1] at hm1 heq
      cases hb2 : mOk (dualT (tabOf rows)) with
      | true =>
        rw [hb2] at hm2 heq
        simp only [if_true, Bool.false_eq_true, if_false] at hm1 hm2
        repeat' (first
| refine g_seq ?_
| refine zC ?_
| (refine o_go rfl ?_; (first
| refine p_p (zG rfl rfl aB (h1)) ?_
| refine p_p (zG rfl rfl aB (hm1)) ?_
| refine p_p (zG rfl rfl aB (odual_c _ hot)) ?_
| refine p_p (zG rfl rfl aB (hm2)) ?_
| refine p_p (zD rfl) ?_
| refine p_p (zA rfl) ?_
| refine p_p (ps_load_agg rfl rfl aJ) ?_
| refine p_p (zU rfl rfl rfl) ?_
| refine p_p (ps_extract rfl rfl rfl) ?_
| refine p_p (ps_not rfl rfl) ?_
| refine p_p (zQ rfl rfl) ?_
| refine p_p (ps_eql rfl rfl rfl) ?_
| refine p_p (ps_box rfl rfl) ?_
| refine p_p (ps_build rfl rfl) ?_); refine ⟨_, aA, ?_⟩)
| refine o_nil ?_
| (refine o_s rfl ?_; refine ⟨_, aA, ?_⟩)
| (refine zK rfl (fun hc => ?_) (fun hc => ?_) <;> try (exfalso; omega))
| refine kr2 ?_ ?_
| refine krB rfl ?_
| refine zR ?_
| refine g_ret ?_)
        · rw [if_neg (by rw [hz hc]; decide)]; exact krAny
        · exact (hz hc).symm
        · rw [heq (by omega)]; exact krAny
        · rw [heq (by omega)]; rfl
      | false =>
        rw [hb2] at hm2 heq
        simp only [Bool.false_eq_true, if_false] at hm1 hm2
        repeat' (first
| refine g_seq ?_
| refine zC ?_
| (refine o_go rfl ?_; (first
| refine p_p (zG rfl rfl aB (h1)) ?_
| refine p_p (zG rfl rfl aB (hm1)) ?_
| refine p_p (zG rfl rfl aB (odual_c _ hot)) ?_
| refine p_p (zG rfl rfl aB (hm2)) ?_
| refine p_p (zD rfl) ?_
| refine p_p (zA rfl) ?_
| refine p_p (ps_load_agg rfl rfl aJ) ?_
| refine p_p (zU rfl rfl rfl) ?_
| refine p_p (ps_extract rfl rfl rfl) ?_
| refine p_p (ps_not rfl rfl) ?_
| refine p_p (zQ rfl rfl) ?_
| refine p_p (ps_eql rfl rfl rfl) ?_
| refine p_p (ps_box rfl rfl) ?_
| refine p_p (ps_build rfl rfl) ?_); refine ⟨_, aA, ?_⟩)
| refine o_nil ?_
| (refine o_s rfl ?_; refine ⟨_, aA, ?_⟩)
| (refine zK rfl (fun hc => ?_) (fun hc => ?_) <;> try (exfalso; omega))
| refine kr2 ?_ ?_
| refine krB rfl ?_
| refine zR ?_
| refine g_ret ?_)
        · rw [if_neg (by rw [hz hc]; decide)]; exact krAny
        · exact (hz hc).symm
        · rw [heq (by omega)]; exact krAny
        · rw [heq (by omega)]; rfl

theorem lat_yes (rows : List (List Int)) (hok : okP rows) (hg : goodL rows = true) : PCalls Tryz.prog 118 [posetP rows] (.tup [latP rows, B true]) := by
  have h := latticeOf_c rows hok
  rw [if_pos hg, hg] at h
  unfold latV at h
  rwa [meets_Z, joins_Z] at h
theorem lat_no (rows : List (List Int)) (hok : okP rows) (hg : goodL rows = false) : PCalls Tryz.prog 118 [posetP rows] (.tup [.any, B false]) := by
  have h := latticeOf_c rows hok
  rwa [if_neg (by rw [hg]; decide), hg] at h
theorem good_10 {rows : List (List Int)} (hg : goodL rows = true) : rows.length ≤ 10 := by
  have := goodL_P hg
  unfold goodP at this
  simp only [Bool.and_eq_true, decide_eq_true_eq] at this
  exact this.1
theorem okT_Z {n : Nat} (f : Int → Int → Bool) (h : n ≤ 10) : okT (tabZ n f) := by
  refine ⟨by rw [length_tabZ]; exact h, fun x hx => ?_⟩
  rw [length_tabZ] at hx
  unfold tabZ
  rw [getD_map_range _ _ _ hx, length_rowZ]; simp
theorem lhas_c (rows : List (List Int)) (l : List Int) (hg : goodL rows = true) (hl : l.length ≤ 1048576) : PCalls Tryz.prog 120 [boolss (tabZ rows.length (leqB rows)), ints l] (B (inSizeB l (rows.length : Int))) := by
  have h := ohas_c (tabZ rows.length (leqB rows)) l (okT_Z _ (good_10 hg)) hl
  rwa [length_tabZ] at h

end Go.Proofs.YtembaiccchgllaaGreat
