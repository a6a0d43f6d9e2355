/- Walks: Mal'cev, majority and Pixley terms, on both sides. -/
import Derived.Test.YtlgfniaakjchgaaGreatLHi
import Derived.Test.YtlgfniaakjchgaaGreatLHp
import Derived.Test.YtlgfniaakjchgaaGreatLGk
namespace Go.Proofs.YtlgfniaakjchgaaGreat
open Go Go.Pv Go.Proofs
set_option maxHeartbeats 32000000
set_option maxRecDepth 100000
attribute [local bitvec_to_nat] St.put St.setObj St.ev killP killA killP1 killH mapHO renP renA ren1 killG killGA killG1 krowP krowA krow1 lendP lendA lend1 unv pinP pin1 elemsM viewM viewN viewV n_set_z n_set_s n_map_c n_map_n getD_z getD_s n_toNat n_cond_t n_cond_f n_len_c n_len_n n_app_c n_app_n n_take_s n_take_z n_drop_s n_drop_z n_get_z n_get_s view viewA view1 elems Nat.zero_add Nat.add_zero Bool.not_true Bool.not_false Nat.one_ne_zero Nat.mul_one
attribute [local bitvec_to_nat] posI optP lendM1 lendMA lendMP killM1 killMA killMP hasI getO backM1 backMA backMP putL inpM pinM1 pinMA pinMP killR1 killRA killR

abbrev likeL (T : List (List Int)) (q : Nat → Bool) : List Nat := (List.range T.length).filter q
theorem like_yes {p : Nat → Bool} {k : Nat} (h : p k = true) : (List.range (k + 1)).filter p = (List.range k).filter p ++ [k] := by
  rw [List.range_succ, List.filter_append]; simp [h]
theorem like_no {p : Nat → Bool} {k : Nat} (h : p k = false) : (List.range (k + 1)).filter p = (List.range k).filter p := by
  rw [List.range_succ, List.filter_append]; simp [h]
theorem like_len (p : Nat → Bool) (k : Nat) : ((List.range k).filter p).length ≤ k := Nat.le_trans (List.length_filter_le ..) (by simp)
theorem like_lt {p : Nat → Bool} {k g : Nat} (h : g ∈ (List.range k).filter p) : g < k ∧ p g = true := by
  obtain ⟨h1, h2⟩ := List.mem_filter.1 h
  exact ⟨List.mem_range.1 h1, h2⟩
theorem itl_R (n : Nat) (T : List (List Int)) (f : Nat) [FnT Tryz.prog f] (first caps : List PV) (q : Nat → Bool) (hT : lenOk T) (hl : T.length ≤ 60) (hq : ∀ g : Nat, g < T.length → PCalls Tryz.prog f (first ++ [I (g : Int)] ++ caps) (B (q g))) :
    RCalls Tryz.prog 21 [chP n T, .fn f first caps] (sgI (rowsO (opsC T (likeL T q)))) (.hp 0) := by
  refine pcallsR1 Tryz.func21 rfl Tryz.ntmps21 rfl ?_
  simp only [List.length_cons, List.length_nil, Nat.reduceAdd, Nat.reduceSub, List.replicate_succ, List.replicate_zero, List.cons_append, List.nil_append]
  have hops := iops_R n T (likeL T q) hT (fun g hg => (like_lt hg).1) (Nat.le_trans (like_len _ _) (by omega))
  repeat' (first
| refine g_seq ?_
| refine zJ ?_
| refine zC ?_
| (refine o_go rfl ?_; (first
| refine p_p (zD rfl) ?_
| refine p_p (zA rfl) ?_
| refine p_p (zF rfl rfl) ?_
| refine p_p (zU rfl rfl rfl) ?_
| refine p_p (zL rfl rfl) ?_
| refine p_p (ps_nilCheck rfl rfl) ?_
| refine p_e rfl (e_lit0 rfl (by decide)) ?_); refine ⟨_, aB, ?_⟩)
| refine o_nil ?_)
  refine g_loopF (α := Nat) [7] (fun g => [(5, .hp 0), (13, I (g : Int))]) (fun g => [.arr false 1 3 ((((List.range g).filter q).map Int.ofNat).map I)]) (fun g => g ≤ T.length) (fun g => T.length - g) 0 aH (Nat.zero_le _) ⟨rfl, rfl, trivial⟩ rfl ?_
  rintro g hg
  dsimp only [zZ, List.set_cons_zero, List.set_cons_succ]
  have hll : ((((List.range g).filter q).map Int.ofNat).map I).length ≤ 100 := by have := like_len q g; simp only [List.length_map]; omega
  by_cases hgT : g < T.length
  · have h1 := hq g hgT
    cases hqg : q g
    · rw [hqg] at h1
      repeat' (first
| refine g_seq ?_
| refine zJ ?_
| refine zC ?_
| (refine o_go rfl ?_; (first
| refine p_p (zG rfl rfl (by exact argsLe_refl _) h1) ?_
| refine p_p (zD rfl) ?_
| refine p_p (zA rfl) ?_
| refine p_p (zS rfl rfl rfl) ?_
| refine p_p (ps_add rfl rfl rfl aN) ?_); refine ⟨_, aB, ?_⟩)
| refine o_nil ?_
| refine zW rfl ?_
| (refine zK rfl (fun hc => ?_) (fun hc => ?_) <;> try (exfalso; omega))
| refine zR ?_)
      all_goals try (exfalso; omega)
      exact zT (g + 1) (by omega) (by omega) aI ⟨rfl, rfl, trivial⟩ (zB (by rw [like_no hqg]) (zM _))
    · rw [hqg] at h1
      repeat' (first
| refine g_seq ?_
| refine zJ ?_
| refine zC ?_
| (refine o_go rfl ?_; (first
| refine p_p (zG rfl rfl (by exact argsLe_refl _) h1) ?_
| refine p_e (by kernel_rfl) (e_append rfl rfl rfl rfl rfl rfl (one_one rfl) rfl aP aP) ?_
| refine p_p (zD rfl) ?_
| refine p_p (zA rfl) ?_
| refine p_p (zS rfl rfl rfl) ?_
| refine p_p (ps_add rfl rfl rfl aN) ?_
| refine p_p (ps_lit1 rfl rfl (by rfl) (by rfl)) ?_); refine ⟨_, aB, ?_⟩)
| refine o_nil ?_
| refine zX rfl ?_
| (refine zK rfl (fun hc => ?_) (fun hc => ?_) <;> try (exfalso; omega))
| refine zR ?_)
      all_goals try (exfalso; omega)
      exact zT (g + 1) (by omega) (by omega) aI ⟨rfl, rfl, trivial⟩ (zB (by rw [like_yes hqg, List.map_append, List.map_append]; rfl) (zM _))
  · obtain rfl : g = T.length := by omega
    repeat' (first
| refine krr 1 rfl (HandOut.sg rfl ?_ rfl (by exact sc_sg _))
| refine g_seq ?_
| refine zC ?_
| (refine o_go rfl ?_; (first
| refine p_e rfl (e_callR rfl rfl aC rfl (hops)) ?_
| refine p_p (zD rfl) ?_
| refine p_p (zA rfl) ?_
| refine p_p (zS rfl rfl rfl) ?_); refine ⟨_, aB, ?_⟩)
| refine o_nil ?_
| (refine zK rfl (fun hc => ?_) (fun hc => ?_) <;> try (exfalso; omega))
| refine g_exit ?_
| refine g_ret ?_)
    all_goals first | rfl | (exfalso; omega)
section
variable (n : Nat) (T : List (List Int)) (hn0 : 0 < n) (hn : n ≤ 8)
include hn0 hn
theorem imal_c (g : Nat) (hg : g < T.length) : PCalls Tryz.prog 22 [chP n T, I (g : Int)] (B (malB n (T.getD g []))) := by
  refine pcalls1 Tryz.func22 rfl Tryz.ntmps22 rfl ?_
  simp only [List.length_cons, List.length_nil, Nat.reduceAdd, Nat.reduceSub, List.replicate_succ, List.replicate_zero, List.cons_append, List.nil_append]
  have hnn : n * n ≤ 64 := Nat.mul_le_mul hn hn
  obtain ⟨l1, l2, l3⟩ := chL_len n T
  have h1 := gisame_c (vRight n (T.getD g [])) (prjL n 2 0) (by rw [valL_len]; omega)
  have h2 := gisame_c (vLeft n (T.getD g [])) (prjL n 2 1) (by rw [valL_len]; omega)
  have h3 := firsts_c n hn0 hn
  have h4 := seconds_c n hn0 hn
  have a1 := lefL_at n T hg
  have a2 := rigL_at n T hg
  unfold malB
  generalize decide (vRight n (T.getD g []) = prjL n 2 0) = b1 at *
  cases b1
  · repeat' (first
| refine g_seq ?_
| refine zC ?_
| refine zP (by kernel_rfl) (by kernel_rfl) ?_
| (refine o_go rfl ?_; (first
| refine p_p (zN rfl rfl rfl (by omega) a2 (by exact rfl)) ?_
| refine p_p (zG rfl rfl aC (h3)) ?_
| refine p_p (zG rfl rfl aC (h1)) ?_
| refine p_p (zD rfl) ?_
| refine p_p (zA rfl) ?_
| refine p_p (zF rfl rfl) ?_
| refine p_p (zL rfl rfl) ?_
| refine p_p (zQ rfl rfl) ?_
| refine p_p (ps_nilCheck rfl rfl) ?_); refine ⟨_, aB, ?_⟩)
| refine o_nil ?_
| (refine o_s rfl ?_; refine ⟨_, aB, ?_⟩)
| refine kr1 ?_
| refine krB rfl ?_
| refine g_ret ?_)
    all_goals first | rfl | (exfalso; omega)
  · repeat' (first
| refine g_seq ?_
| refine zC ?_
| refine zP (by kernel_rfl) (by kernel_rfl) ?_
| (refine o_go rfl ?_; (first
| refine p_p (zN rfl rfl rfl (by omega) a2 (by exact rfl)) ?_
| refine p_p (zN rfl rfl rfl (by omega) a1 (by exact rfl)) ?_
| refine p_p (zG rfl rfl aC (h3)) ?_
| refine p_p (zG rfl rfl aC (h4)) ?_
| refine p_p (zG rfl rfl aC (h1)) ?_
| refine p_p (zG rfl rfl aC (h2)) ?_
| refine p_p (zD rfl) ?_
| refine p_p (zA rfl) ?_
| refine p_p (zF rfl rfl) ?_
| refine p_p (zL rfl rfl) ?_
| refine p_p (zQ rfl rfl) ?_
| refine p_p (ps_nilCheck rfl rfl) ?_); refine ⟨_, aB, ?_⟩)
| refine o_nil ?_
| refine kr1 ?_
| refine krB rfl ?_
| refine g_ret ?_)
    all_goals first | rfl | (exfalso; omega)
theorem ipix_c (g : Nat) (hg : g < T.length) : PCalls Tryz.prog 31 [I (g : Int), capP n T] (B (pixB n (T.getD g []))) := by
  refine pcalls1 Tryz.func31 rfl Tryz.ntmps31 rfl ?_
  simp only [List.length_cons, List.length_nil, Nat.reduceAdd, Nat.reduceSub, List.replicate_succ, List.replicate_zero, List.cons_append, List.nil_append]
  obtain ⟨l1, l2, l3⟩ := chL_len n T
  have a0 := fixL_at n T hg
  have h1 := imal_c n T hn0 hn g hg
  unfold pixB
  generalize fixB n (T.getD g []) = b1 at *
  cases b1
  · repeat' (first
| refine g_seq ?_
| refine zC ?_
| (refine o_go rfl ?_; (first
| refine p_p (zN rfl rfl rfl (by omega) a0 (by exact rfl)) ?_
| refine p_p (zD rfl) ?_
| refine p_p (zA rfl) ?_
| refine p_p (zF rfl rfl) ?_
| refine p_p (zL rfl rfl) ?_
| refine p_p (zQ rfl rfl) ?_
| refine p_p (ps_nilCheck rfl rfl) ?_); refine ⟨_, aB, ?_⟩)
| refine o_nil ?_
| (refine o_s rfl ?_; refine ⟨_, aB, ?_⟩)
| refine kr1 ?_
| refine krB rfl ?_
| refine g_ret ?_)
    all_goals first | rfl | (exfalso; omega)
  · repeat' (first
| refine g_seq ?_
| refine zC ?_
| (refine o_go rfl ?_; (first
| refine p_p (zN rfl rfl rfl (by omega) a0 (by exact rfl)) ?_
| refine p_p (zG rfl rfl aC (h1)) ?_
| refine p_p (zD rfl) ?_
| refine p_p (zA rfl) ?_
| refine p_p (zF rfl rfl) ?_
| refine p_p (zL rfl rfl) ?_
| refine p_p (zQ rfl rfl) ?_
| refine p_p (ps_nilCheck rfl rfl) ?_); refine ⟨_, aB, ?_⟩)
| refine o_nil ?_
| refine kr1 ?_
| refine krB rfl ?_
| refine g_ret ?_)
    all_goals first | rfl | (exfalso; omega)
theorem imaj_c (g : Nat) (hg : g < T.length) (hl : T.length ≤ 60) (ht : ∀ t ∈ T, t.length = n ^ 3) : PCalls Tryz.prog 27 [I (g : Int), capP n T, .ptr [ints (prjL n 2 0)]] (B (majB n (T.getD g []))) := by
  refine pcalls1 Tryz.func27 rfl Tryz.ntmps27 rfl ?_
  simp only [List.length_cons, List.length_nil, Nat.reduceAdd, Nat.reduceSub, List.replicate_succ, List.replicate_zero, List.cons_append, List.nil_append]
  have hnn : n * n ≤ 64 := Nat.mul_le_mul hn hn
  obtain ⟨l1, l2, l3⟩ := chL_len n T
  have a0 := fixL_at n T hg
  have a1 := lefL_at n T hg
  have a2 : (T.map ints)[((g : Nat) : Int).toNat]? = some (ints (T.getD g [])) := by rw [Int.toNat_natCast]; exact idx_ints hg
  have h1 := gisame_c (vLeft n (T.getD g [])) (prjL n 2 0) (by rw [valL_len]; omega)
  have h2 := gisame_c (valL n (T.getD g []) [1, 0, 0] (n * n)) (prjL n 2 0) (by rw [valL_len]; omega)
  have h3 := ivalues_c n (T.getD g []) [1, 0, 0] hn0 hn rfl (by decide) (ht _ (getD_mem0 hg))
  unfold majB
  generalize fixB n (T.getD g []) = b1 at *
  generalize decide (vLeft n (T.getD g []) = prjL n 2 0) = b2 at *
  cases b1
  · repeat' (first
| refine g_seq ?_
| refine zC ?_
| refine zP (by kernel_rfl) (by kernel_rfl) ?_
| (refine o_go rfl ?_; (first
| refine p_p (zN rfl rfl rfl (by omega) a0 (by exact rfl)) ?_
| refine p_p (zD rfl) ?_
| refine p_p (zA rfl) ?_
| refine p_p (zF rfl rfl) ?_
| refine p_p (zL rfl rfl) ?_
| refine p_p (zQ rfl rfl) ?_
| refine p_p (ps_nilCheck rfl rfl) ?_); refine ⟨_, aB, ?_⟩)
| refine o_nil ?_
| (refine o_s rfl ?_; refine ⟨_, aB, ?_⟩)
| refine kr1 ?_
| refine krB rfl ?_
| refine g_ret ?_)
    all_goals first | rfl | (exfalso; omega)
  · cases b2
    · repeat' (first
| refine g_seq ?_
| refine zC ?_
| refine zP (by kernel_rfl) (by kernel_rfl) ?_
| (refine o_go rfl ?_; (first
| refine p_p (zN rfl rfl rfl (by omega) a0 (by exact rfl)) ?_
| refine p_p (zN rfl rfl rfl (by omega) a1 (by exact rfl)) ?_
| refine p_p (zG rfl rfl aC (h1)) ?_
| refine p_p (zD rfl) ?_
| refine p_p (zA rfl) ?_
| refine p_p (zF rfl rfl) ?_
| refine p_p (zL rfl rfl) ?_
| refine p_p (zQ rfl rfl) ?_
| refine p_p (ps_nilCheck rfl rfl) ?_); refine ⟨_, aB, ?_⟩)
| refine o_nil ?_
| (refine o_s rfl ?_; refine ⟨_, aB, ?_⟩)
| refine kr1 ?_
| refine krB rfl ?_
| refine g_ret ?_)
      all_goals first | rfl | (exfalso; omega)
    · repeat' (first
| refine g_seq ?_
| refine zC ?_
| refine zP (by kernel_rfl) (by kernel_rfl) ?_
| (refine o_go rfl ?_; (first
| refine p_p (zN rfl rfl rfl (by omega) a0 (by exact rfl)) ?_
| refine p_p (zN rfl rfl rfl (by omega) a1 (by exact rfl)) ?_
| refine p_p (zN rfl rfl rfl (by omega) a2 (by exact rfl)) ?_
| refine p_p (zG rfl rfl aC (h1)) ?_
| refine p_p (zG rfl rfl aC (h3)) ?_
| refine p_p (zG rfl rfl aC (h2)) ?_
| refine p_p (zD rfl) ?_
| refine p_p (zA rfl) ?_
| refine p_p (zF rfl rfl) ?_
| refine p_p (zL rfl rfl) ?_
| refine p_p (zQ rfl rfl) ?_
| refine p_p (ps_nilCheck rfl rfl) ?_
| refine p_p (ps_lit3 rfl rfl rfl rfl (by rfl) (by rfl) (by rfl) (by rfl)) ?_); refine ⟨_, aB, ?_⟩)
| refine o_nil ?_
| refine kr1 ?_
| refine krB rfl ?_
| refine g_ret ?_)
      all_goals first | rfl | (exfalso; omega)
end
def tmV (q : Nat → List Int → Bool) (n : Int) (ops : List OpD) : List OpD × Bool :=
  match clT n ops with
  | none => ([], false)
  | some T => (opsC T (likeL T fun g => q n.toNat (T.getD g [])), true)
theorem imalT_c (n : Int) (ops : List OpD) (ho : szOk ops) : PCalls Tryz.prog 6 [algP n ops] (.tup [opsP (tmV malB n ops).1, B (tmV malB n ops).2]) := by
  unfold tmV
  have h1 := inewO_c n ops ho
  cases hV : clT n ops with
  | none =>
    rw [hV] at h1
    dsimp only [chO, Option.isSome] at h1
    refine pcalls2 Tryz.func6 rfl Tryz.ntmps6 rfl ?_
    simp only [List.length_cons, List.length_nil, Nat.reduceAdd, Nat.reduceSub, List.replicate_succ, List.replicate_zero, List.cons_append, List.nil_append]
    repeat' (first
| refine g_seq ?_
| refine zC ?_
| (refine o_go rfl ?_; (first
| refine p_p (zG rfl rfl aC (h1)) ?_
| refine p_p (zD rfl) ?_
| refine p_p (zA rfl) ?_
| refine p_p (ps_load_agg rfl rfl aK) ?_
| refine p_p (ps_extract rfl rfl rfl) ?_
| refine p_p (ps_not rfl rfl) ?_
| refine p_e rfl (e_lit0 rfl (by decide)) ?_
| refine p_p (ps_box rfl rfl) ?_); refine ⟨_, aB, ?_⟩)
| refine o_nil ?_
| refine zX rfl ?_
| refine kr2 ?_ ?_
| refine krB rfl ?_
| refine krS rfl ?_
| refine g_ret ?_)
    all_goals rfl
  | some T =>
    obtain ⟨m, rfl, hg, -, hC⟩ := clT_some hV
    rw [hV] at h1
    dsimp only [chO, Option.isSome] at h1
    rw [Int.toNat_natCast] at h1
    dsimp only
    rw [Int.toNat_natCast]
    have hn8 : m ≤ 8 := by have := hC.n3; omega
    have h2 := rcalls_P rfl (itl_R m T 22 [chP m T] [] (fun g => malB m (T.getD g [])) hC.lenOk hC.len fun g hg => imal_c m T hC.n0 hn8 g hg)
    rw [show viewM [sgI (rowsO (opsC T (likeL T fun g => malB m (T.getD g []))))] (.hp 0) = opsP (opsC T (likeL T fun g => malB m (T.getD g []))) from rowsO_view _] at h2
    refine pcalls2 Tryz.func6 rfl Tryz.ntmps6 rfl ?_
    simp only [List.length_cons, List.length_nil, Nat.reduceAdd, Nat.reduceSub, List.replicate_succ, List.replicate_zero, List.cons_append, List.nil_append]
    repeat' (first
| refine g_seq ?_
| refine zC ?_
| (refine o_go rfl ?_; (first
| refine p_p (zG rfl rfl aC (h1)) ?_
| refine p_p (zG rfl rfl aC (h2)) ?_
| refine p_p (zD rfl) ?_
| refine p_p (zA rfl) ?_
| refine p_p (ps_load_agg rfl rfl aK) ?_
| refine p_p (ps_extract rfl rfl rfl) ?_
| refine p_p (ps_not rfl rfl) ?_
| refine p_p (ps_box rfl rfl) ?_
| refine p_p (ps_makeFunc rfl rfl rfl) ?_); refine ⟨_, aB, ?_⟩)
| refine o_nil ?_
| refine zW rfl ?_
| refine kr2 ?_ ?_
| refine krB rfl ?_
| refine krS rfl ?_
| refine zR ?_
| refine g_ret ?_)
    all_goals rfl
theorem ipixT_c (n : Int) (ops : List OpD) (ho : szOk ops) : PCalls Tryz.prog 11 [algP n ops] (.tup [opsP (tmV pixB n ops).1, B (tmV pixB n ops).2]) := by
  unfold tmV
  have h1 := inewO_c n ops ho
  cases hV : clT n ops with
  | none =>
    rw [hV] at h1
    dsimp only [chO, Option.isSome] at h1
    refine pcalls2 Tryz.func11 rfl Tryz.ntmps11 rfl ?_
    simp only [List.length_cons, List.length_nil, Nat.reduceAdd, Nat.reduceSub, List.replicate_succ, List.replicate_zero, List.cons_append, List.nil_append]
    repeat' (first
| refine g_seq ?_
| refine zC ?_
| (refine o_go rfl ?_; (first
| refine p_p (zG rfl rfl aC (h1)) ?_
| refine p_p (zD rfl) ?_
| refine p_p (zA rfl) ?_
| refine p_p (ps_load_agg rfl rfl aK) ?_
| refine p_p (ps_extract rfl rfl rfl) ?_
| refine p_p (ps_not rfl rfl) ?_
| refine p_e rfl (e_store_boxC rfl rfl rfl rfl aK rfl rfl) ?_
| refine p_e rfl (e_alloc rfl) ?_
| refine p_e rfl (e_lit0 rfl (by decide)) ?_
| refine p_p (ps_box rfl rfl) ?_); refine ⟨_, aB, ?_⟩)
| refine o_nil ?_
| refine zX rfl ?_
| refine kr2 ?_ ?_
| refine krB rfl ?_
| refine krS rfl ?_
| refine g_ret ?_)
    all_goals rfl
  | some T =>
    obtain ⟨m, rfl, hg, -, hC⟩ := clT_some hV
    rw [hV] at h1
    dsimp only [chO, Option.isSome] at h1
    rw [Int.toNat_natCast] at h1
    dsimp only
    rw [Int.toNat_natCast]
    have hn8 : m ≤ 8 := by have := hC.n3; omega
    have h2 := rcalls_P rfl (itl_R m T 31 [] [capP m T] (fun g => pixB m (T.getD g [])) hC.lenOk hC.len fun g hg => ipix_c m T hC.n0 hn8 g hg)
    rw [show viewM [sgI (rowsO (opsC T (likeL T fun g => pixB m (T.getD g []))))] (.hp 0) = opsP (opsC T (likeL T fun g => pixB m (T.getD g []))) from rowsO_view _] at h2
    refine pcalls2 Tryz.func11 rfl Tryz.ntmps11 rfl ?_
    simp only [List.length_cons, List.length_nil, Nat.reduceAdd, Nat.reduceSub, List.replicate_succ, List.replicate_zero, List.cons_append, List.nil_append]
    repeat' (first
| refine g_settle 0 rfl (by dsimp only [setlP, setl1, setlH, bitvec_to_nat, Nat.reduceAdd, Nat.reduceMul, Nat.reduceBEq, reduceCtorEq]) ?_
| refine g_seq ?_
| refine zC ?_
| (refine o_go rfl ?_; (first
| refine p_p (zG rfl rfl aC (h1)) ?_
| refine p_p (zG rfl rfl aC (h2)) ?_
| refine p_p (zD rfl) ?_
| refine p_p (zA rfl) ?_
| refine p_p (zF rfl rfl) ?_
| refine p_p (ps_load_agg rfl rfl aK) ?_
| refine p_p (ps_extract rfl rfl rfl) ?_
| refine p_p (ps_not rfl rfl) ?_
| refine p_e rfl (e_store_boxC rfl rfl rfl rfl aK rfl rfl) ?_
| refine p_e rfl (e_alloc rfl) ?_
| refine p_p (ps_box rfl rfl) ?_
| refine p_p (ps_makeFunc rfl rfl rfl) ?_); refine ⟨_, aB, ?_⟩)
| refine o_nil ?_
| refine zW rfl ?_
| refine kr2 ?_ ?_
| refine krB rfl ?_
| refine krS rfl ?_
| refine zR ?_
| refine g_ret ?_)
    all_goals rfl
theorem imajT_c (n : Int) (ops : List OpD) (ho : szOk ops) : PCalls Tryz.prog 9 [algP n ops] (.tup [opsP (tmV majB n ops).1, B (tmV majB n ops).2]) := by
  unfold tmV
  have h1 := inewO_c n ops ho
  cases hV : clT n ops with
  | none =>
    rw [hV] at h1
    dsimp only [chO, Option.isSome] at h1
    refine pcalls2 Tryz.func9 rfl Tryz.ntmps9 rfl ?_
    simp only [List.length_cons, List.length_nil, Nat.reduceAdd, Nat.reduceSub, List.replicate_succ, List.replicate_zero, List.cons_append, List.nil_append]
    repeat' (first
| refine g_seq ?_
| refine zC ?_
| (refine o_go rfl ?_; (first
| refine p_p (zG rfl rfl aC (h1)) ?_
| refine p_p (zD rfl) ?_
| refine p_p (zA rfl) ?_
| refine p_p (ps_load_agg rfl rfl aK) ?_
| refine p_p (ps_extract rfl rfl rfl) ?_
| refine p_p (ps_not rfl rfl) ?_
| refine p_e rfl (e_store_boxC rfl rfl rfl rfl aK rfl rfl) ?_
| refine p_e rfl (e_alloc rfl) ?_
| refine p_e rfl (e_lit0 rfl (by decide)) ?_
| refine p_p (ps_box rfl rfl) ?_); refine ⟨_, aB, ?_⟩)
| refine o_nil ?_
| refine zX rfl ?_
| refine kr2 ?_ ?_
| refine krB rfl ?_
| refine krS rfl ?_
| refine g_ret ?_)
    all_goals rfl
  | some T =>
    obtain ⟨m, rfl, hg, -, hC⟩ := clT_some hV
    rw [hV] at h1
    dsimp only [chO, Option.isSome] at h1
    rw [Int.toNat_natCast] at h1
    dsimp only
    rw [Int.toNat_natCast]
    have hn8 : m ≤ 8 := by have := hC.n3; omega
    have h3 := firsts_c m hC.n0 hn8
    have h2 := rcalls_P rfl (itl_R m T 27 [] [capP m T, .ptr [ints (prjL m 2 0)]] (fun g => majB m (T.getD g [])) hC.lenOk hC.len fun g hg => imaj_c m T hC.n0 hn8 g hg hC.len (fun t h => (hC.row t h).1))
    rw [show viewM [sgI (rowsO (opsC T (likeL T fun g => majB m (T.getD g []))))] (.hp 0) = opsP (opsC T (likeL T fun g => majB m (T.getD g []))) from rowsO_view _] at h2
    refine pcalls2 Tryz.func9 rfl Tryz.ntmps9 rfl ?_
    simp only [List.length_cons, List.length_nil, Nat.reduceAdd, Nat.reduceSub, List.replicate_succ, List.replicate_zero, List.cons_append, List.nil_append]
    repeat' (first
| refine g_settle 0 rfl (by dsimp only [setlP, setl1, setlH, bitvec_to_nat, Nat.reduceAdd, Nat.reduceMul, Nat.reduceBEq, reduceCtorEq]) ?_
| refine g_settle 1 rfl (by dsimp only [setlP, setl1, setlH, bitvec_to_nat, Nat.reduceAdd, Nat.reduceMul, Nat.reduceBEq, reduceCtorEq]) ?_
| refine g_seq ?_
| refine zC ?_
| (refine o_go rfl ?_; (first
| refine p_p (zG rfl rfl aC (h1)) ?_
| refine p_p (zG rfl rfl aC (h3)) ?_
| refine p_p (zG rfl rfl aC (h2)) ?_
| refine p_p (zD rfl) ?_
| refine p_p (zA rfl) ?_
| refine p_p (zF rfl rfl) ?_
| refine p_p (ps_load_agg rfl rfl aK) ?_
| refine p_p (zL rfl rfl) ?_
| refine p_p (ps_extract rfl rfl rfl) ?_
| refine p_p (ps_not rfl rfl) ?_
| refine p_p (ps_nilCheck rfl rfl) ?_
| refine p_e rfl (e_store_boxC rfl rfl rfl rfl aK rfl rfl) ?_
| refine p_e rfl (e_alloc rfl) ?_
| refine p_p (ps_box rfl rfl) ?_
| refine p_p (ps_makeFunc rfl rfl rfl) ?_); refine ⟨_, aB, ?_⟩)
| refine o_nil ?_
| refine zW rfl ?_
| refine kr2 ?_ ?_
| refine krB rfl ?_
| refine krS rfl ?_
| refine zR ?_
| refine g_ret ?_)
    all_goals rfl
theorem smal_c (n : Nat) (t : List Int) (hn0 : 0 < n) (hn : n ≤ 8) (ht : t.length = n ^ 3) : PCalls Tryz.prog 24 [I (n : Int), ints t] (B (malB n t)) := by
  refine pcalls1 Tryz.func24 rfl Tryz.ntmps24 rfl ?_
  simp only [List.length_cons, List.length_nil, Nat.reduceAdd, Nat.reduceSub, List.replicate_succ, List.replicate_zero, List.cons_append, List.nil_append]
  have hnn : n * n ≤ 64 := Nat.mul_le_mul hn hn
  have h1 := spart_c n 2 t hn (by decide) ht
  have h2 := spart_c n 1 t hn (by decide) ht
  have h3 := sxs_c n hn0 hn
  have h4 := sys_c n hn0 hn
  have h5 := gsame_c (vRight n t) (prjL n 2 0) (by rw [valL_len]; omega)
  have h6 := gsame_c (vLeft n t) (prjL n 2 1) (by rw [valL_len]; omega)
  unfold malB
  generalize decide (vRight n t = prjL n 2 0) = b1 at *
  cases b1
  · repeat' (first
| refine g_seq ?_
| refine zC ?_
| (refine o_go rfl ?_; (first
| refine p_p (zG rfl rfl aC (h1)) ?_
| refine p_p (zG rfl rfl aC (h3)) ?_
| refine p_p (zG rfl rfl aC (h5)) ?_
| refine p_p (zD rfl) ?_
| refine p_p (zA rfl) ?_
| refine p_p (zQ rfl rfl) ?_); refine ⟨_, aB, ?_⟩)
| refine o_nil ?_
| (refine o_s rfl ?_; refine ⟨_, aB, ?_⟩)
| refine kr1 ?_
| refine krB rfl ?_
| refine g_ret ?_)
    all_goals first | rfl | (exfalso; omega)
  · repeat' (first
| refine g_seq ?_
| refine zC ?_
| (refine o_go rfl ?_; (first
| refine p_p (zG rfl rfl aC (h1)) ?_
| refine p_p (zG rfl rfl aC (h2)) ?_
| refine p_p (zG rfl rfl aC (h3)) ?_
| refine p_p (zG rfl rfl aC (h4)) ?_
| refine p_p (zG rfl rfl aC (h5)) ?_
| refine p_p (zG rfl rfl aC (h6)) ?_
| refine p_p (zD rfl) ?_
| refine p_p (zA rfl) ?_
| refine p_p (zQ rfl rfl) ?_); refine ⟨_, aB, ?_⟩)
| refine o_nil ?_
| refine kr1 ?_
| refine krB rfl ?_
| refine g_ret ?_)
    all_goals first | rfl | (exfalso; omega)
def majX (n : Nat) (t : List Int) (x y : Nat) : Bool := decide (at3 n t x x y = (x : Int)) && (decide (at3 n t x y x = (x : Int)) && decide (at3 n t y x x = (x : Int)))
theorem at3_tv {n : Nat} (t : List Int) (x y z : Nat) : at3 n t x y z = tv n t x y z := by
  unfold at3 tv
  congr 1
  have e : idxL (n : Int) [(x : Int), (y : Int), (z : Int)] = ((x * n * n + y * n + z : Nat) : Int) := by
    simp only [idxL, List.foldl_cons, List.foldl_nil]
    push_cast
    rw [Int.zero_mul, Int.zero_add, Int.add_mul]
  rw [e, Int.toNat_natCast]
theorem maj_all {n : Nat} (hn : 0 < n) {t : List Int} : majB n t = true ↔ ∀ x, x < n → ∀ y, y < n → majX n t x y = true := by
  rw [maj_iff hn]
  constructor
  · rintro ⟨h1, h2, h3⟩ x hx y hy
    unfold majX
    rw [at3_tv, at3_tv, at3_tv]
    have ix : inN n (x : Int) := ⟨by omega, by omega⟩
    have iy : inN n (y : Int) := ⟨by omega, by omega⟩
    rw [decide_eq_true (h2 _ _ ix iy), decide_eq_true (h1 _ _ ix iy), decide_eq_true (h3 _ _ ix iy)]; rfl
  · intro h
    have key : ∀ a b : Int, inN n a → inN n b → tv n t a a b = a ∧ tv n t a b a = a ∧ tv n t b a a = a := fun a b ha hb => by
      obtain ⟨x, rfl⟩ : ∃ x : Nat, a = x := ⟨a.toNat, by have := ha.1; omega⟩
      obtain ⟨y, rfl⟩ : ∃ y : Nat, b = y := ⟨b.toNat, by have := hb.1; omega⟩
      have := h x (by have := ha.2; omega) y (by have := hb.2; omega)
      unfold majX at this
      rw [at3_tv, at3_tv, at3_tv, Bool.and_eq_true, Bool.and_eq_true, decide_eq_true_iff, decide_eq_true_iff, decide_eq_true_iff] at this
      exact this
    exact ⟨fun a b ha hb => (key a b ha hb).2.1, fun a b ha hb => (key a b ha hb).1, fun a b ha hb => (key a b ha hb).2.2⟩
theorem maj_none {n : Nat} (hn : 0 < n) {t : List Int} {x y : Nat} (hx : x < n) (hy : y < n) (h : majX n t x y = false) : majB n t = false := by
  cases hb : majB n t with
  | false => rfl
  | true => have := (maj_all hn).1 hb x hx y hy; rw [h] at this; cases this
theorem smaj_c (n : Nat) (t : List Int) (hn0 : 0 < n) (hn : n ≤ 8) (ht : t.length = n ^ 3) : PCalls Tryz.prog 30 [I (n : Int), ints t] (B (majB n t)) := by
  refine pcalls1 Tryz.func30 rfl Tryz.ntmps30 rfl ?_
  simp only [List.length_cons, List.length_nil, Nat.reduceAdd, Nat.reduceSub, List.replicate_succ, List.replicate_zero, List.cons_append, List.nil_append]
  repeat' (first
| refine g_seq ?_
| refine zJ ?_
| refine zC ?_
| (refine o_go rfl ?_; (first
| refine p_p (zA rfl) ?_); refine ⟨_, aB, ?_⟩)
| refine o_nil ?_)
  refine g_loopT (α := Nat) (fun x => [(5, I (x : Int))]) (fun _ => []) (fun x => x ≤ n ∧ ∀ a, a < x → ∀ b, b < n → majX n t a b = true) (fun x => n - x) 0 aH ⟨Nat.zero_le _, fun a ha => by omega⟩ ⟨rfl, trivial⟩ rfl ?_
  rintro x ⟨hx, hxa⟩
  dsimp only [zZ, List.set_cons_zero, List.set_cons_succ]
  by_cases hxn : x < n
  · repeat' (first
| refine g_seq ?_
| refine zJ ?_
| refine zC ?_
| (refine o_go rfl ?_; (first
| refine p_p (zD rfl) ?_
| refine p_p (zA rfl) ?_
| refine p_p (zS rfl rfl rfl) ?_); refine ⟨_, aB, ?_⟩)
| refine o_nil ?_
| (refine zK rfl (fun hc => ?_) (fun hc => ?_) <;> try (exfalso; omega))
| refine zR ?_)
    all_goals try (exfalso; omega)
    refine g_loopT (α := Nat) (fun y => [(6, I (y : Int))]) (fun _ => []) (fun y => y ≤ n ∧ ∀ b, b < y → majX n t x b = true) (fun y => n - y) 0 aH ⟨Nat.zero_le _, fun b hb => by omega⟩ ⟨rfl, trivial⟩ rfl ?_
    rintro y ⟨hy, hya⟩
    dsimp only [zZ, List.set_cons_zero, List.set_cons_succ]
    by_cases hyn : y < n
    · have h1 := svalue_c n t x x y hn ht hxn hxn hyn
      have h2 := svalue_c n t x y x hn ht hxn hyn hxn
      have h3 := svalue_c n t y x x hn ht hyn hxn hxn
      by_cases c1 : at3 n t x x y = (x : Int)
      · by_cases c2 : at3 n t x y x = (x : Int)
        · by_cases c3 : at3 n t y x x = (x : Int)
          · have hm : majX n t x y = true := by unfold majX; rw [decide_eq_true c1, decide_eq_true c2, decide_eq_true c3]; rfl
            repeat' (first
| refine g_seq ?_
| refine zJ ?_
| refine zC ?_
| (refine o_go rfl ?_; (first
| refine p_p (zG rfl rfl aC (h1)) ?_
| refine p_p (zG rfl rfl aC (h2)) ?_
| refine p_p (zG rfl rfl aC (h3)) ?_
| refine p_p (zD rfl) ?_
| refine p_p (zA rfl) ?_
| refine p_p (zS rfl rfl rfl) ?_
| refine p_p (ps_add rfl rfl rfl aN) ?_
| refine p_p (zQ rfl rfl) ?_
| refine p_p (ps_neq rfl rfl rfl) ?_); refine ⟨_, aB, ?_⟩)
| refine o_nil ?_
| (refine o_s rfl ?_; refine ⟨_, aB, ?_⟩)
| (refine o_splitN rfl rfl rfl (fun hc => ?_) (fun hc => ?_) <;> dsimp only [List.set_cons_zero, List.set_cons_succ])
| refine zX rfl ?_
| (refine g_condN rfl (fun hc => ?_) (fun hc => ?_) <;> try (exfalso; omega))
| (refine zK rfl (fun hc => ?_) (fun hc => ?_) <;> try (exfalso; omega))
| refine kr1 ?_
| refine krB rfl ?_
| refine zR ?_
| refine g_ret ?_)
            all_goals try (exfalso; first | omega | (simp_all; done))
            exact zT (y + 1) ⟨by omega, fun b hb => by
              by_cases e : b = y
              · rw [e]; exact hm
              · exact hya b (by omega)⟩ (by omega) aI ⟨rfl, trivial⟩ (zM _)
          · have hm : majX n t x y = false := by unfold majX; rw [decide_eq_false c3, Bool.and_false, Bool.and_false]
            rw [maj_none hn0 hxn hyn hm]
            repeat' (first
| refine g_seq ?_
| refine zJ ?_
| refine zC ?_
| (refine o_go rfl ?_; (first
| refine p_p (zG rfl rfl aC (h1)) ?_
| refine p_p (zG rfl rfl aC (h2)) ?_
| refine p_p (zG rfl rfl aC (h3)) ?_
| refine p_p (zD rfl) ?_
| refine p_p (zA rfl) ?_
| refine p_p (zS rfl rfl rfl) ?_
| refine p_p (zQ rfl rfl) ?_
| refine p_p (ps_neq rfl rfl rfl) ?_); refine ⟨_, aB, ?_⟩)
| refine o_nil ?_
| (refine o_s rfl ?_; refine ⟨_, aB, ?_⟩)
| (refine o_splitN rfl rfl rfl (fun hc => ?_) (fun hc => ?_) <;> dsimp only [List.set_cons_zero, List.set_cons_succ])
| refine zX rfl ?_
| (refine g_condN rfl (fun hc => ?_) (fun hc => ?_) <;> try (exfalso; omega))
| (refine zK rfl (fun hc => ?_) (fun hc => ?_) <;> try (exfalso; omega))
| refine kr1 ?_
| refine krB rfl ?_
| refine zR ?_
| refine g_ret ?_)
            all_goals first | rfl | (exfalso; omega) | (exfalso; simp_all; done)
        · have hm : majX n t x y = false := by unfold majX; rw [decide_eq_false c2, Bool.false_and, Bool.and_false]
          rw [maj_none hn0 hxn hyn hm]
          repeat' (first
| refine g_seq ?_
| refine zJ ?_
| refine zC ?_
| (refine o_go rfl ?_; (first
| refine p_p (zG rfl rfl aC (h1)) ?_
| refine p_p (zG rfl rfl aC (h2)) ?_
| refine p_p (zG rfl rfl aC (h3)) ?_
| refine p_p (zD rfl) ?_
| refine p_p (zA rfl) ?_
| refine p_p (zS rfl rfl rfl) ?_
| refine p_p (ps_add rfl rfl rfl aN) ?_
| refine p_p (zQ rfl rfl) ?_
| refine p_p (ps_neq rfl rfl rfl) ?_); refine ⟨_, aB, ?_⟩)
| refine o_nil ?_
| (refine o_s rfl ?_; refine ⟨_, aB, ?_⟩)
| (refine o_splitN rfl rfl rfl (fun hc => ?_) (fun hc => ?_) <;> dsimp only [List.set_cons_zero, List.set_cons_succ])
| refine zX rfl ?_
| (refine g_condN rfl (fun hc => ?_) (fun hc => ?_) <;> try (exfalso; omega))
| (refine zK rfl (fun hc => ?_) (fun hc => ?_) <;> try (exfalso; omega))
| refine kr1 ?_
| refine krB rfl ?_
| refine zR ?_
| refine g_ret ?_)
          all_goals first | rfl | (exfalso; omega) | (exfalso; simp_all; done)
      · have hm : majX n t x y = false := by unfold majX; rw [decide_eq_false c1, Bool.false_and]
        rw [maj_none hn0 hxn hyn hm]
        repeat' (first
| refine g_seq ?_
| refine zJ ?_
| refine zC ?_
| (refine o_go rfl ?_; (first
| refine p_p (zG rfl rfl aC (h1)) ?_
| refine p_p (zG rfl rfl aC (h2)) ?_
| refine p_p (zG rfl rfl aC (h3)) ?_
| refine p_p (zD rfl) ?_
| refine p_p (zA rfl) ?_
| refine p_p (zS rfl rfl rfl) ?_
| refine p_p (ps_add rfl rfl rfl aN) ?_
| refine p_p (zQ rfl rfl) ?_
| refine p_p (ps_neq rfl rfl rfl) ?_); refine ⟨_, aB, ?_⟩)
| refine o_nil ?_
| (refine o_s rfl ?_; refine ⟨_, aB, ?_⟩)
| (refine o_splitN rfl rfl rfl (fun hc => ?_) (fun hc => ?_) <;> dsimp only [List.set_cons_zero, List.set_cons_succ])
| refine zX rfl ?_
| (refine g_condN rfl (fun hc => ?_) (fun hc => ?_) <;> try (exfalso; omega))
| (refine zK rfl (fun hc => ?_) (fun hc => ?_) <;> try (exfalso; omega))
| refine kr1 ?_
| refine krB rfl ?_
| refine zR ?_
| refine g_ret ?_)
        all_goals first | rfl | (exfalso; omega) | (exfalso; simp_all; done)
    · repeat' (first
| refine g_seq ?_
| refine zC ?_
| (refine o_go rfl ?_; (first
| refine p_p (zD rfl) ?_
| refine p_p (zA rfl) ?_
| refine p_p (zS rfl rfl rfl) ?_
| refine p_p (ps_add rfl rfl rfl aN) ?_); refine ⟨_, aB, ?_⟩)
| refine o_nil ?_
| (refine zK rfl (fun hc => ?_) (fun hc => ?_) <;> try (exfalso; omega))
| refine g_exit ?_)
      all_goals try (exfalso; omega)
      exact zT (x + 1) ⟨by omega, fun a ha b hb => by
        by_cases e : a = x
        · rw [e]; exact hya b (by omega)
        · exact hxa a (by omega) b hb⟩ (by omega) aI ⟨rfl, trivial⟩ (zM _)
  · rw [(maj_all hn0).2 fun a ha b hb => hxa a (by omega) b hb]
    repeat' (first
| refine g_seq ?_
| refine zC ?_
| (refine o_go rfl ?_; (first
| refine p_p (zD rfl) ?_
| refine p_p (zA rfl) ?_
| refine p_p (zS rfl rfl rfl) ?_); refine ⟨_, aB, ?_⟩)
| refine o_nil ?_
| (refine zK rfl (fun hc => ?_) (fun hc => ?_) <;> try (exfalso; omega))
| refine kr1 ?_
| refine krB rfl ?_
| refine g_exit ?_
| refine g_ret ?_)
    all_goals first | rfl | (exfalso; omega) | (exfalso; simp_all; done)
end Go.Proofs.YtlgfniaakjchgaaGreat
