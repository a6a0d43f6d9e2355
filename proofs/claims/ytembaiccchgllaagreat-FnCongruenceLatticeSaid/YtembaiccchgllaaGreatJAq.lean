/- Walks: the reference's posets, lattices and their laws' helpers. -/
import Derived.Test.YtembaiccchgllaaGreatJSq
import Derived.Test.YtembaiccchgllaaGreatJTy

namespace Go.Proofs.YtembaiccchgllaaGreat
open Go Go.Pv Go.Proofs
set_option maxHeartbeats 32000000
set_option maxRecDepth 100000
attribute [local bitvec_to_nat] St.put St.setObj St.ev killP killA killP1 killH mapHO renP renA ren1 killG killGA killG1 krowP krowA krow1 lendP lendA lend1 unv pinP pin1 elemsM viewM viewN viewV n_set_z n_set_s n_map_c n_map_n getD_z getD_s n_toNat n_cond_t n_cond_f n_len_c n_len_n n_app_c n_app_n n_take_s n_take_z n_drop_s n_drop_z n_get_z n_get_s view viewA view1 elems Nat.zero_add Nat.add_zero Bool.not_true Bool.not_false Nat.one_ne_zero Nat.mul_one

theorem leq_c (rows : List (List Int)) (x y : Int) (hok : okP rows) (h0 : 0 ≤ y) (h1 : y < (rows.length : Int)) : PCalls Tryz.prog 298 [posetP rows, I x, I y] (B (leqB rows x y)) := by
  refine pcalls1 Tryz.func298 rfl Tryz.ntmps298 rfl ?_
  simp only [List.length_cons, List.length_nil, Nat.reduceAdd, Nat.reduceSub, List.replicate_succ, List.replicate_zero, List.cons_append, List.nil_append]
  have hr := hok.row y.toNat
  repeat' (first
| refine g_seq ?_
| refine zC ?_
| (refine o_go rfl ?_; (first
| refine p_p (ps_callM rfl rfl aB (by rfl) (has_c _ _ (by omega))) ?_
| refine p_p (zD rfl) ?_
| refine p_p (zA rfl) ?_
| refine p_p (zF rfl rfl) ?_
| refine p_p (zN rfl rfl rfl (by omega) aM (by exact rfl)) ?_
| refine p_p (zL rfl rfl) ?_
| refine p_p (ps_box rfl rfl) ?_); refine ⟨_, aA, ?_⟩)
| refine o_nil ?_
| refine kr1 ?_
| refine krB rfl ?_
| refine g_ret ?_)
  rfl

theorem bound_c (rows : List (List Int)) (some : List Int) (hok : okP rows) (hsl : some.length ≤ 1048576) (hs : ∀ s ∈ some, 0 ≤ s ∧ s < (rows.length : Int)) :
    PCalls Tryz.prog 225 [posetP rows, ints some] (I (boundL rows some)) := by
  refine pcalls1 Tryz.func225 rfl Tryz.ntmps225 rfl ?_
  simp only [List.length_cons, List.length_nil, Nat.reduceAdd, Nat.reduceSub, List.replicate_succ, List.replicate_zero, List.cons_append, List.nil_append]
  have hr := hok.1
  have hsi : ∀ i, i < some.length → 0 ≤ some.getD i 0 ∧ some.getD i 0 < (rows.length : Int) := fun i hi => by
    rw [List.getD_eq_getElem?_getD, List.getElem?_eq_getElem hi]; exact hs _ (List.getElem_mem hi)
  repeat' (first
| refine g_seq ?_
| refine zJ ?_
| refine zC ?_
| (refine o_go rfl ?_; (first
| refine p_p (zA rfl) ?_
| refine p_e rfl (e_lit0 rfl (by decide)) ?_
| refine p_p (ps_box rfl rfl) ?_); refine ⟨_, aA, ?_⟩)
| refine o_nil ?_)
  · refine g_loopF (α := Nat) [10] (fun z => [(5, .hp 0), (6, I (z : Int))]) (fun z => [.arr false 1 3 ((lowsB rows some z).map I)]) (fun z => z ≤ rows.length) (fun z => rows.length - z) 0 aF (Nat.zero_le _) ⟨rfl, rfl, trivial⟩ rfl ?_
    rintro z hz
    dsimp only [zZ, List.set_cons_zero, List.set_cons_succ]
    have hll : (lowsB rows some z).length ≤ z := upTo_length _ _
    repeat' (first
| refine g_seq ?_
| refine zJ ?_
| refine zC ?_
| (refine o_go rfl ?_; (first
| refine p_p (zD rfl) ?_
| refine p_p (zA rfl) ?_
| refine p_p (zF rfl rfl) ?_
| refine p_p (zU rfl rfl rfl) ?_
| refine p_p (zS rfl rfl rfl) ?_
| refine p_p (zL rfl rfl) ?_); refine ⟨_, aA, ?_⟩)
| refine o_nil ?_
| (refine zK rfl (fun hc => ?_) (fun hc => ?_) <;> try (exfalso; omega))
| refine zR ?_
| refine g_exit ?_)
    · refine g_loopT (α := Nat × Bool) (fun x => [(7, B x.2), (8, I (x.1 : Int))]) (fun _ => [.arr false 1 3 ((lowsB rows some z).map I)]) (fun x => x.1 ≤ some.length ∧ x.2 = (some.take x.1).all fun s => leqB rows (z : Int) s) (fun x => some.length - x.1) (0, true) aF ⟨Nat.zero_le _, rfl⟩ ⟨rfl, rfl, trivial⟩ rfl ?_
      rintro ⟨i, all⟩ ⟨hi, hall⟩
      dsimp only at hi hall
      dsimp only [zZ, List.set_cons_zero, List.set_cons_succ]
      have hnext : ∀ h : i < some.length, (some.take (i + 1)).all (fun s => leqB rows (z : Int) s) = (all && leqB rows (z : Int) (some.getD i 0)) := fun h => by rw [take_snoc 0 h, all_snoc, ← hall]
      have hlast : ¬ (i : Int) < (some.length : Int) → all = some.all fun s => leqB rows (z : Int) s := fun h => by rw [hall, (take_full hi h).1]
      have hsuc : lowsB rows some (z + 1) = lowsB rows some z ++ (if (some.all fun s => leqB rows (z : Int) s) = true then [(z : Int)] else []) := upTo_succ _ _
      cases all
      · repeat' (first
| refine g_seq ?_
| refine zJ ?_
| refine zC ?_
| refine zP (by kernel_rfl) (by kernel_rfl) ?_
| (refine o_go rfl ?_; (first
| refine p_p (zD rfl) ?_
| refine p_p (zA rfl) ?_
| refine p_p (zU rfl rfl rfl) ?_
| refine p_p (zS rfl rfl rfl) ?_
| refine p_p (ps_add rfl rfl rfl aN) ?_
| refine p_p (zQ rfl rfl) ?_); refine ⟨_, aA, ?_⟩)
| refine o_nil ?_
| (refine o_s rfl ?_; refine ⟨_, aA, ?_⟩)
| refine zW rfl ?_
| (refine zK rfl (fun hc => ?_) (fun hc => ?_) <;> try (exfalso; omega))
| refine zR ?_
| refine g_exit ?_)
        · refine zT (i + 1, false) ⟨by omega, by rw [hnext (by omega)]; rfl⟩ (by dsimp only; omega) aI ⟨rfl, rfl, trivial⟩ (zB rfl (zM _))
        · rw [← hlast hc] at hsuc
          refine zT (z + 1) (by omega) (by omega) aI ⟨rfl, rfl, trivial⟩ (zB ?_ (zM _))
          rw [hsuc]; simp
      · repeat' (first
| refine g_seq ?_
| refine zJ ?_
| refine zC ?_
| refine zP (by kernel_rfl) (by kernel_rfl) ?_
| (refine o_go rfl ?_; (first
| refine p_p (zG rfl rfl aB (leq_c _ _ _ hok (hsi _ (by omega)).1 (hsi _ (by omega)).2)) ?_
| refine p_p (zD rfl) ?_
| refine p_p (zA rfl) ?_
| refine p_p (zF rfl rfl) ?_
| refine p_p (ps_load_agg rfl rfl aJ) ?_
| refine p_p (zN rfl rfl rfl (by omega) aM (by exact rfl)) ?_
| refine p_p (zU rfl rfl rfl) ?_
| refine p_p (zS rfl rfl rfl) ?_
| refine p_p (ps_add rfl rfl rfl aN) ?_
| refine p_p (zQ rfl rfl) ?_
| refine p_e rfl (e_append rfl rfl rfl rfl rfl rfl (by first | exact one_one rfl | exact one_map (fun _ => rfl) _) rfl aT aT) ?_
| refine p_p (ps_lit1 rfl rfl (by rfl) (by rfl)) ?_); refine ⟨_, aA, ?_⟩)
| refine o_nil ?_
| refine zX rfl ?_
| (refine zK rfl (fun hc => ?_) (fun hc => ?_) <;> try (exfalso; omega))
| refine zR ?_
| refine g_exit ?_)
        · refine zT (i + 1, leqB rows z (some.getD i 0)) ⟨by omega, by rw [hnext (by omega)]; rfl⟩ (by dsimp only; omega) aI ⟨rfl, rfl, trivial⟩ (zB rfl (zM _))
        · rw [← hlast hc] at hsuc
          refine zT (z + 1) (by omega) (by omega) aI ⟨rfl, rfl, trivial⟩ (zB ?_ (zM _))
          rw [hsuc]; simp
    · have hzn : z = rows.length := by omega
      subst hzn
      have hlo : ∀ i, i < (lowsB rows some rows.length).length → 0 ≤ (lowsB rows some rows.length).getD i 0 ∧ ((lowsB rows some rows.length).getD i 0).toNat < rows.length := fun i h => by
        have := lowsB_getD h
        exact ⟨this.1, by omega⟩
      refine g_loopT (α := Nat) (fun i => [(9, I (i : Int))]) (fun _ => [.arr false 1 3 ((lowsB rows some rows.length).map I)]) (fun i => i ≤ (lowsB rows some rows.length).length ∧ ((lowsB rows some rows.length).take i).find? (fun l => withinB (lowsB rows some rows.length) (rows.getD l.toNat [])) = none) (fun i => (lowsB rows some rows.length).length - i) 0 aF ⟨Nat.zero_le _, rfl⟩ ⟨rfl, trivial⟩ rfl ?_
      rintro i ⟨hi, hno⟩
      dsimp only [zZ, List.set_cons_zero, List.set_cons_succ]
      repeat' (first
| refine g_seq ?_
| refine zJ ?_
| refine zC ?_
| refine zP (by kernel_rfl) (by kernel_rfl) ?_
| (refine o_go rfl ?_; (first
| refine p_p (ps_callM rfl rfl aB (by rfl) (within_c _ _ (by omega) (Nat.le_trans (hok.row _) (by decide)))) ?_
| refine p_p (zN rfl rfl rfl (hlo _ (by omega)).1 (idx_ints (hlo _ (by omega)).2) (by exact rfl)) ?_
| refine p_p (zD rfl) ?_
| refine p_p (zA rfl) ?_
| refine p_p (zF rfl rfl) ?_
| refine p_p (zN rfl rfl rfl (by omega) aM (by exact rfl)) ?_
| refine p_p (zU rfl rfl rfl) ?_
| refine p_p (zS rfl rfl rfl) ?_
| refine p_p (ps_add rfl rfl rfl aN) ?_
| refine p_p (zL rfl rfl) ?_); refine ⟨_, aA, ?_⟩)
| refine o_nil ?_
| (refine zK rfl (fun hc => ?_) (fun hc => ?_) <;> try (exfalso; omega))
| (refine g_cond rfl (fun hc => ?_) (fun hc => ?_))
| refine kr1 ?_
| refine krI rfl ?_
| refine zR ?_
| refine g_exit ?_
| refine g_ret ?_)
      · unfold boundL
        rw [find_none_take hno 0 (by omega) hc]; rfl
      · exact zT (i + 1) ⟨by omega, find_take_succ hno 0 (by omega) hc⟩ (by omega) aI ⟨rfl, trivial⟩ (zB rfl (zM _))
      · rw [(take_full hi hc).1] at hno
        unfold boundL
        rw [hno]; rfl

theorem dual_c (rows : List (List Int)) (hok : okP rows) : PCalls Tryz.prog 224 [posetP rows] (posetP (dualL rows)) := by
  refine pcallsC Tryz.func224 rfl Tryz.ntmps224 rfl ?_
  simp only [List.length_cons, List.length_nil, Nat.reduceAdd, Nat.reduceSub, List.replicate_succ, List.replicate_zero, List.cons_append, List.nil_append]
  have hr := hok.1
  repeat' (first
| refine g_seq ?_
| refine zJ ?_
| refine zC ?_
| (refine o_go rfl ?_; (first
| refine p_p (zA rfl) ?_
| refine p_e rfl (zO rfl rfl rfl rfl aJ rfl rfl rfl) ?_
| refine p_e rfl (e_alloc rfl) ?_
| refine p_e rfl (e_lit0 rfl (by decide)) ?_
| refine p_p (ps_box rfl rfl) ?_
| refine p_p (ps_build rfl rfl) ?_); refine ⟨_, aA, ?_⟩)
| refine o_nil ?_)
  refine g_loopF (α := Nat) [7, 8] (fun x => [(4, I (x : Int))]) (fun x => [.box [nilV], .arr false 1 34 (((dualL rows).take x).map ints), .box [.hp 1]]) (fun x => x ≤ rows.length) (fun x => rows.length - x) 0 aF (Nat.zero_le _) ⟨rfl, trivial⟩ rfl ?_
  rintro x hx
  dsimp only [zZ, List.set_cons_zero, List.set_cons_succ]
  have hdl : (dualL rows).length = rows.length := by simp [dualL]
  repeat' (first
| refine g_seq ?_
| refine zJ ?_
| refine zC ?_
| (refine o_go rfl ?_; (first
| refine p_p (zD rfl) ?_
| refine p_p (zA rfl) ?_
| refine p_p (zF rfl rfl) ?_
| refine p_p (zU rfl rfl rfl) ?_
| refine p_p (zS rfl rfl rfl) ?_
| refine p_p (zL rfl rfl) ?_
| refine p_p (zY rfl rfl rfl aJ) ?_
| refine p_e rfl (zO rfl rfl rfl rfl aJ rfl rfl rfl) ?_
| refine p_e rfl (e_lit0 rfl (by decide)) ?_); refine ⟨_, aA, ?_⟩)
| refine o_nil ?_
| (refine zK rfl (fun hc => ?_) (fun hc => ?_) <;> try (exfalso; omega))
| refine krc ?_
| refine krC rfl aJ ?_
| refine zR ?_
| refine g_exit ?_
| refine g_ret ?_)
  · refine g_loopF (α := Nat) [16] (fun y => [(5, .hp 3), (6, I (y : Int))]) (fun y => [.box [nilV], .arr false 1 34 (((dualL rows).take x).map ints), .box [.hp 1], .arr false 1 3 ((upTo y fun y => leqB rows (x : Int) (y : Int)).map I)]) (fun y => y ≤ rows.length) (fun y => rows.length - y) 0 aF (Nat.zero_le _) ⟨rfl, rfl, trivial⟩ rfl ?_
    rintro y hy
    dsimp only [zZ, List.set_cons_zero, List.set_cons_succ]
    have hul := upTo_length y fun y => leqB rows (x : Int) (y : Int)
    have hsuc := upTo_succ y fun y => leqB rows (x : Int) (y : Int)
    repeat' (first
| refine g_seq ?_
| refine zJ ?_
| refine zC ?_
| (refine o_go rfl ?_; (first
| refine p_p (zG rfl rfl aB (leq_c _ _ _ hok (by omega) (by omega))) ?_
| refine p_p (zD rfl) ?_
| refine p_p (zA rfl) ?_
| refine p_p (zF rfl rfl) ?_
| refine p_p (ps_load_agg rfl rfl aJ) ?_
| refine p_p (zU rfl rfl rfl) ?_
| refine p_p (zS rfl rfl rfl) ?_
| refine p_p (ps_add rfl rfl rfl aN) ?_
| refine p_p (zL rfl rfl) ?_
| refine p_p (zH rfl rfl rfl rfl) ?_
| refine p_p (zE rfl rfl) ?_
| refine p_e rfl (e_store_boxC rfl rfl rfl rfl aJ rfl rfl) ?_
| refine p_e rfl (e_append rfl rfl rfl rfl rfl rfl (by first | exact one_one rfl | exact one_map (fun _ => rfl) _) rfl aT aT) ?_
| refine p_p (ps_lit1 rfl rfl (by rfl) (by rfl)) ?_); refine ⟨_, aA, ?_⟩)
| refine o_nil ?_
| (refine zK rfl (fun hc => ?_) (fun hc => ?_) <;> try (exfalso; omega))
| (refine g_cond rfl (fun hc => ?_) (fun hc => ?_))
| refine zR ?_
| refine g_exit ?_)
    · rw [hc] at hsuc
      refine zT (y + 1) (by omega) (by omega) aI ⟨rfl, rfl, trivial⟩ (zB rfl (zB rfl (zB rfl (zB ?_ (zM _)))))
      rw [hsuc]; simp
    · rw [hc] at hsuc
      refine zT (y + 1) (by omega) (by omega) aI ⟨rfl, rfl, trivial⟩ (zB rfl (zB rfl (zB rfl (zB ?_ (zM _)))))
      rw [hsuc]; simp
    · refine zT (x + 1) (by omega) (by omega) aI ⟨rfl, trivial⟩ (zB rfl (zB ?_ (zB rfl (zM _))))
      have hyr : y = rows.length := by omega
      subst hyr
      rw [take_snoc [] (by omega), show (dualL rows).getD x [] = upTo rows.length fun y => leqB rows (x : Int) (y : Int) by unfold dualL; rw [List.getD_eq_getElem?_getD, List.getElem?_map, List.getElem?_range (by omega)]; rfl]
      simp
  · have hxr : x = rows.length := by omega
    subst hxr
    show [PV.sl 1 none (((dualL rows).take rows.length).map ints)] = _
    rw [List.take_of_length_le (by omega)]

theorem goodP_c (rows : List (List Int)) (hok : okP rows) : PCalls Tryz.prog 223 [posetP rows] (B (goodP rows)) := by
  refine pcalls1 Tryz.func223 rfl Tryz.ntmps223 rfl ?_
  simp only [List.length_cons, List.length_nil, Nat.reduceAdd, Nat.reduceSub, List.replicate_succ, List.replicate_zero, List.cons_append, List.nil_append]
  have hr := hok.1
  have hrl : ∀ j, (rows.getD j []).length ≤ 9223372036854775807 := fun j => Nat.le_trans (hok.row j) (by decide)
  repeat' (first
| refine g_seq ?_
| refine zJ ?_
| refine zC ?_
| (refine o_go rfl ?_; (first
| refine p_p (zD rfl) ?_
| refine p_p (zA rfl) ?_
| refine p_p (zF rfl rfl) ?_
| refine p_p (zU rfl rfl rfl) ?_
| refine p_p (zL rfl rfl) ?_
| refine p_p (ps_gtr rfl rfl rfl) ?_
| refine p_p (ps_box rfl rfl) ?_); refine ⟨_, aA, ?_⟩)
| refine o_nil ?_
| (refine zK rfl (fun hc => ?_) (fun hc => ?_) <;> try (exfalso; omega))
| refine kr1 ?_
| refine krB rfl ?_
| refine zR ?_
| refine g_ret ?_)
  · unfold goodP; rw [decide_eq_false (by omega)]; rfl
  have hn : goodP rows = (allN rows.length (good1 rows) && allN rows.length (good2 rows)) := by unfold goodP; rw [decide_eq_true (by omega)]; rfl
  rw [hn]
  refine g_loopT (α := Nat) (fun x => [(4, I (x : Int))]) (fun _ => []) (fun x => x ≤ rows.length ∧ allN x (good1 rows) = true) (fun x => rows.length - x) 0 aF ⟨Nat.zero_le _, rfl⟩ ⟨rfl, trivial⟩ rfl ?_
  rintro x ⟨hx, hg⟩
  dsimp only [zZ, List.set_cons_zero, List.set_cons_succ]
  repeat' (first
| refine g_seq ?_
| refine zJ ?_
| refine zC ?_
| (refine o_go rfl ?_; (first
| refine p_p (ps_callM rfl rfl aB (by rfl) (rising_c _ _ _ (hrl _))) ?_
| refine p_p (ps_callM rfl rfl aB (by rfl) (has_c _ _ (hrl _))) ?_
| refine p_p (zD rfl) ?_
| refine p_p (zA rfl) ?_
| refine p_p (zF rfl rfl) ?_
| refine p_p (zN rfl rfl rfl (by omega) aM (by exact rfl)) ?_
| refine p_p (zS rfl rfl rfl) ?_
| refine p_p (ps_add rfl rfl rfl aN) ?_
| refine p_p (zL rfl rfl) ?_
| refine p_p (ps_not rfl rfl) ?_
| refine p_p (zQ rfl rfl) ?_
| refine p_p (ps_sub rfl rfl rfl aN) ?_); refine ⟨_, aA, ?_⟩)
| refine o_nil ?_
| (refine o_s rfl ?_; refine ⟨_, aA, ?_⟩)
| (refine o_splitN rfl rfl rfl (fun hc => ?_) (fun hc => ?_) <;> dsimp only [List.set_cons_zero, List.set_cons_succ])
| refine zX rfl ?_
| (refine zK rfl (fun hc => ?_) (fun hc => ?_) <;> try (exfalso; omega))
| (refine g_condNB rfl (fun hc => ?_) (fun hc => ?_))
| refine kr1 ?_
| refine krB rfl ?_
| refine zR ?_
| refine g_exit ?_
| refine g_ret ?_)
  · rename_i hc
    refine Eq.symm ?_
    rw [allN_false (k := x) (by omega) (show good1 rows x = false by unfold good1; rw [hc]; rfl)]; rfl
  · rename_i h1 hc
    refine Eq.symm ?_
    rw [allN_false (k := x) (by omega) (show good1 rows x = false by unfold good1; rw [hc, Bool.and_false])]; rfl
  · rename_i h1
    exact zT (x + 1) ⟨by omega, by rw [allN_succ, hg]; unfold good1; rw [h1, hc]; rfl⟩ (by omega) aI ⟨rfl, trivial⟩ (zM _)
  · have hxn : x = rows.length := by omega
    subst hxn
    rw [hg, Bool.true_and]
    have hmem : ∀ k i, k < rows.length → i < (rows.getD k []).length → 0 ≤ (rows.getD k []).getD i 0 ∧ ((rows.getD k []).getD i 0).toNat < rows.length := fun k i hk hi => by
      have := allN_iff.1 hg k hk
      unfold good1 at this
      rw [Bool.and_eq_true] at this
      have := risB_mem this.1 hi
      omega
    refine g_loopT (α := Nat) (fun x => [(5, I (x : Int))]) (fun _ => []) (fun x => x ≤ rows.length ∧ allN x (good2 rows) = true) (fun x => rows.length - x) 0 aF ⟨Nat.zero_le _, rfl⟩ ⟨rfl, trivial⟩ rfl ?_
    rintro x ⟨hx, hg2⟩
    dsimp only [zZ, List.set_cons_zero, List.set_cons_succ]
    have hxl := hrl x
    repeat' (first
| refine g_seq ?_
| refine zJ ?_
| refine zC ?_
| (refine o_go rfl ?_; (first
| refine p_p (zD rfl) ?_
| refine p_p (zA rfl) ?_
| refine p_p (zS rfl rfl rfl) ?_); refine ⟨_, aA, ?_⟩)
| refine o_nil ?_
| (refine zK rfl (fun hc => ?_) (fun hc => ?_) <;> try (exfalso; omega))
| refine kr1 ?_
| refine krB rfl ?_
| refine zR ?_
| refine g_exit ?_
| refine g_ret ?_)
    · refine g_loopT (α := Nat) (fun i => [(6, I (i : Int))]) (fun _ => []) (fun i => i ≤ (rows.getD x []).length ∧ ((rows.getD x []).take i).all (fun y => !(!decide (y = (x : Int)) && (rows.getD y.toNat []).contains (x : Int)) && withinB (rows.getD y.toNat []) (rows.getD x [])) = true) (fun i => (rows.getD x []).length - i) 0 aF ⟨Nat.zero_le _, rfl⟩ ⟨rfl, trivial⟩ rfl ?_
      rintro i ⟨hi, hall⟩
      dsimp only [zZ, List.set_cons_zero, List.set_cons_succ]
      have hno : ∀ h : i < (rows.getD x []).length, (!(!decide ((rows.getD x []).getD i 0 = (x : Int)) && (rows.getD ((rows.getD x []).getD i 0).toNat []).contains (x : Int)) && withinB (rows.getD ((rows.getD x []).getD i 0).toNat []) (rows.getD x [])) = false → false = allN rows.length (good2 rows) := fun h h0 => by
        refine Eq.symm (allN_false (k := x) (by omega) ?_)
        exact all_false_at 0 h h0
      have hyes : ∀ h : i < (rows.getD x []).length, (!(!decide ((rows.getD x []).getD i 0 = (x : Int)) && (rows.getD ((rows.getD x []).getD i 0).toNat []).contains (x : Int)) && withinB (rows.getD ((rows.getD x []).getD i 0).toNat []) (rows.getD x [])) = true →
          ((rows.getD x []).take (i + 1)).all (fun y => !(!decide (y = (x : Int)) && (rows.getD y.toNat []).contains (x : Int)) && withinB (rows.getD y.toNat []) (rows.getD x [])) = true := fun h h0 => by
        rw [take_snoc 0 h, all_snoc, hall, h0]; rfl
      repeat' (first
| refine g_seq ?_
| refine zJ ?_
| refine zC ?_
| refine zP (by kernel_rfl) (by kernel_rfl) ?_
| (refine o_go rfl ?_; (first
| refine p_p (ps_callM rfl rfl aB (by rfl) (has_c _ _ (hrl _))) ?_
| refine p_p (ps_callM rfl rfl aB (by rfl) (within_c _ _ (hrl _) (hrl _))) ?_
| refine p_p (zN rfl rfl rfl (hmem _ _ (by omega) (by omega)).1 (idx_ints (hmem _ _ (by omega) (by omega)).2) (by exact rfl)) ?_
| refine p_p (zD rfl) ?_
| refine p_p (zA rfl) ?_
| refine p_p (zF rfl rfl) ?_
| refine p_p (zN rfl rfl rfl (by omega) aM (by exact rfl)) ?_
| refine p_p (zU rfl rfl rfl) ?_
| refine p_p (zS rfl rfl rfl) ?_
| refine p_p (ps_add rfl rfl rfl aN) ?_
| refine p_p (zL rfl rfl) ?_
| refine p_p (ps_not rfl rfl) ?_
| refine p_p (zQ rfl rfl) ?_
| refine p_p (ps_neq rfl rfl rfl) ?_); refine ⟨_, aA, ?_⟩)
| refine o_nil ?_
| (refine o_s rfl ?_; refine ⟨_, aA, ?_⟩)
| (refine o_splitN rfl rfl rfl (fun hc => ?_) (fun hc => ?_) <;> dsimp only [List.set_cons_zero, List.set_cons_succ])
| (refine o_splitA rfl rfl rfl (fun hc => ?_) (fun hc => ?_) <;> dsimp only [List.set_cons_zero, List.set_cons_succ])
| refine zX rfl ?_
| (refine zK rfl (fun hc => ?_) (fun hc => ?_) <;> try (exfalso; omega))
| (refine g_condNB rfl (fun hc => ?_) (fun hc => ?_))
| refine kr1 ?_
| refine krB rfl ?_
| refine zR ?_
| refine g_exit ?_
| refine g_ret ?_)
      · rename_i hd
        exact hno (by omega) (by rw [hd, hc]; rfl)
      · rename_i hd hC
        exact hno (by omega) (by rw [hd, hC, hc]; rfl)
      · rename_i hd hC
        exact zT (i + 1) ⟨by omega, hyes (by omega) (by rw [hd, hC, hc]; rfl)⟩ (by omega) aI ⟨rfl, trivial⟩ (zM _)
      · rename_i hd
        exact hno (by omega) (by rw [hd, hc]; rfl)
      · rename_i hd
        exact zT (i + 1) ⟨by omega, hyes (by omega) (by rw [hd, hc]; rfl)⟩ (by omega) aI ⟨rfl, trivial⟩ (zM _)
      · rw [(take_full hi hc).1] at hall
        exact zT (x + 1) ⟨by omega, by rw [allN_succ, hg2]; exact hall⟩ (by omega) aI ⟨rfl, trivial⟩ (zM _)
    · have hxn : x = rows.length := by omega
      subst hxn
      exact hg2.symm

theorem two_in {n x y : Int} (hx : 0 ≤ x ∧ x < n) (hy : 0 ≤ y ∧ y < n) : ∀ s ∈ [x, y], 0 ≤ s ∧ s < n := fun s hs => by
  simp only [List.mem_cons, List.not_mem_nil, or_false] at hs
  rcases hs with rfl | rfl <;> assumption

theorem goodL_c (rows : List (List Int)) (hok : okP rows) : PCalls Tryz.prog 119 [posetP rows] (B (goodL rows)) := by
  refine pcalls1 Tryz.func119 rfl Tryz.ntmps119 rfl ?_
  simp only [List.length_cons, List.length_nil, Nat.reduceAdd, Nat.reduceSub, List.replicate_succ, List.replicate_zero, List.cons_append, List.nil_append]
  have hr := hok.1
  have hd := length_dual rows
  repeat' (first
| refine g_seq ?_
| refine zJ ?_
| refine zC ?_
| (refine o_go rfl ?_; (first
| refine p_p (zG rfl rfl aB (goodP_c rows hok)) ?_
| refine p_p (zG rfl rfl aB (dual_c rows hok)) ?_
| refine p_p (zD rfl) ?_
| refine p_p (zA rfl) ?_
| refine p_p (zF rfl rfl) ?_
| refine p_p (ps_load_agg rfl rfl aJ) ?_
| refine p_p (zU rfl rfl rfl) ?_
| refine p_p (zL rfl rfl) ?_
| refine p_p (ps_not rfl rfl) ?_
| refine p_p (zQ rfl rfl) ?_
| refine p_p (ps_eql rfl rfl rfl) ?_
| refine p_e rfl (zO rfl rfl rfl rfl aJ rfl rfl rfl) ?_
| refine p_e rfl (e_alloc rfl) ?_
| refine p_p (ps_box rfl rfl) ?_); refine ⟨_, aA, ?_⟩)
| refine o_nil ?_
| (refine o_s rfl ?_; refine ⟨_, aA, ?_⟩)
| (refine o_splitN rfl rfl rfl (fun hc => ?_) (fun hc => ?_) <;> dsimp only [List.set_cons_zero, List.set_cons_succ])
| refine zX rfl ?_
| (refine zK rfl (fun hc => ?_) (fun hc => ?_) <;> try (exfalso; omega))
| refine kr1 ?_
| refine krB rfl ?_
| refine zR ?_
| refine g_ret ?_)
  · unfold goodL; rw [hc]; rfl
  · rename_i h1
    unfold goodL; rw [h1, decide_eq_true (by omega)]; rfl
  rename_i h1
  have hn : goodL rows = allN rows.length fun x => allN x fun y => pairOk rows x y := by unfold goodL; rw [h1, decide_eq_false (by omega)]; rfl
  rw [hn]
  refine g_loopT (α := Nat) (fun x => [(4, I (x : Int))]) (fun _ => [.box [intss (dualL rows)]]) (fun x => x ≤ rows.length ∧ (allN x fun x => allN x fun y => pairOk rows x y) = true) (fun x => rows.length - x) 0 aF ⟨Nat.zero_le _, rfl⟩ ⟨rfl, trivial⟩ rfl ?_
  rintro x ⟨hx, hg⟩
  dsimp only [zZ, List.set_cons_zero, List.set_cons_succ]
  repeat' (first
| refine g_seq ?_
| refine zJ ?_
| refine zC ?_
| (refine o_go rfl ?_; (first
| refine p_p (zD rfl) ?_
| refine p_p (zA rfl) ?_
| refine p_p (zF rfl rfl) ?_
| refine p_p (zU rfl rfl rfl) ?_
| refine p_p (zS rfl rfl rfl) ?_
| refine p_p (zL rfl rfl) ?_); refine ⟨_, aA, ?_⟩)
| refine o_nil ?_
| (refine zK rfl (fun hc => ?_) (fun hc => ?_) <;> try (exfalso; omega))
| refine kr1 ?_
| refine krB rfl ?_
| refine zR ?_
| refine g_exit ?_
| refine g_ret ?_)
  · refine g_loopT (α := Nat) (fun y => [(5, I (y : Int))]) (fun _ => [.box [intss (dualL rows)]]) (fun y => y ≤ x ∧ (allN y fun y => pairOk rows x y) = true) (fun y => x - y) 0 aF ⟨Nat.zero_le _, rfl⟩ ⟨rfl, trivial⟩ rfl ?_
    rintro y ⟨hy, hg2⟩
    dsimp only [zZ, List.set_cons_zero, List.set_cons_succ]
    repeat' (first
| refine g_seq ?_
| refine zJ ?_
| refine zC ?_
| (refine o_go rfl ?_; (first
| refine p_p (zG rfl rfl aB (bound_c _ [_, _] (by first | exact hok | exact okP_dual hok) (by simp) (two_in (by omega) (by omega)))) ?_
| refine p_p (zD rfl) ?_
| refine p_p (zA rfl) ?_
| refine p_p (ps_load_agg rfl rfl aJ) ?_
| refine p_p (zS rfl rfl rfl) ?_
| refine p_p (ps_add rfl rfl rfl aN) ?_
| refine p_p (zQ rfl rfl) ?_
| refine p_p (zY rfl rfl rfl aJ) ?_
| refine p_p (ps_lit2 rfl rfl rfl (by rfl) (by rfl) (by rfl)) ?_); refine ⟨_, aA, ?_⟩)
| refine o_nil ?_
| (refine o_s rfl ?_; refine ⟨_, aA, ?_⟩)
| (refine o_splitD rfl rfl rfl (fun hc => ?_) (fun hc => ?_) <;> first | (exfalso; omega) | dsimp only [List.set_cons_zero, List.set_cons_succ])
| refine zX rfl ?_
| (refine zK rfl (fun hc => ?_) (fun hc => ?_) <;> try (exfalso; omega))
| refine kr1 ?_
| refine krB rfl ?_
| refine zR ?_
| refine g_exit ?_
| refine g_ret ?_)
    · refine Eq.symm (allN_false (k := x) (by omega) (allN_false (k := y) (by omega) ?_))
      unfold pairOk; rw [decide_eq_true hc]; rfl
    · refine Eq.symm (allN_false (k := x) (by omega) (allN_false (k := y) (by omega) ?_))
      unfold pairOk; rw [decide_eq_true hc, Bool.not_true, Bool.and_false]
    · rename_i h2
      refine zT (y + 1) ⟨by omega, ?_⟩ (by omega) aI ⟨rfl, trivial⟩ (zB rfl (zM _))
      rw [allN_succ, hg2]; unfold pairOk; rw [decide_eq_false h2, decide_eq_false hc]; rfl
    · have hyx : y = x := by omega
      subst hyx
      exact zT (y + 1) ⟨by omega, by rw [allN_succ, hg, hg2]; rfl⟩ (by omega) aI ⟨rfl, trivial⟩ (zB rfl (zM _))
  · have hxn : x = rows.length := by omega
    subst hxn
    exact hg.symm

abbrev gridI (t : List (List Int)) : HO := .grid 34 3 (t.map fun r => r.map I)
theorem idx_gridI {t : List (List Int)} {i : Nat} (h : i < t.length) : (t.map fun r => r.map I)[i]? = some ((t.getD i []).map I) := by simp [h]
end Go.Proofs.YtembaiccchgllaaGreat
