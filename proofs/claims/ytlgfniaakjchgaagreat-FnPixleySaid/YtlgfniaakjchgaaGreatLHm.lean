/- Walks: the reference's lists of Mal'cev, majority and Pixley terms. -/
import Derived.Test.YtlgfniaakjchgaaGreatLHj
namespace Go.Proofs.YtlgfniaakjchgaaGreat
open Go Go.Pv Go.Proofs
set_option maxHeartbeats 32000000
set_option maxRecDepth 100000
attribute [local bitvec_to_nat] St.put St.setObj St.ev killP killA killP1 killH mapHO renP renA ren1 killG killGA killG1 krowP krowA krow1 lendP lendA lend1 unv pinP pin1 elemsM viewM viewN viewV n_set_z n_set_s n_map_c n_map_n getD_z getD_s n_toNat n_cond_t n_cond_f n_len_c n_len_n n_app_c n_app_n n_take_s n_take_z n_drop_s n_drop_z n_get_z n_get_s view viewA view1 elems Nat.zero_add Nat.add_zero Bool.not_true Bool.not_false Nat.one_ne_zero Nat.mul_one
attribute [local bitvec_to_nat] posI optP lendM1 lendMA lendMP killM1 killMA killMP hasI getO backM1 backMA backMP putL inpM pinM1 pinMA pinMP killR1 killRA killR

theorem sgive0_c (T : List (List Int)) : PCalls Tryz.prog 25 [intss T, .sl 1 none []] (opsP []) := by
  refine pcalls1 Tryz.func25 rfl Tryz.ntmps25 rfl ?_
  simp only [List.length_cons, List.length_nil, Nat.reduceAdd, Nat.reduceSub, List.replicate_succ, List.replicate_zero, List.cons_append, List.nil_append]
  repeat' (first
| refine g_seq ?_
| refine zJ ?_
| refine zC ?_
| (refine o_go rfl ?_; (first
| refine p_p (zA rfl) ?_
| refine p_e rfl (e_lit0 rfl (by decide)) ?_); refine ⟨_, aB, ?_⟩)
| refine o_nil ?_)
  refine g_loopF (α := Nat) [7] (fun _ => [(5, .hp 0), (6, I 0)]) (fun _ => [.arr false 2 33 []]) (fun _ => True) (fun i => 0 - i) 0 aH trivial ⟨rfl, rfl, trivial⟩ rfl ?_
  rintro i -
  dsimp only [zZ, List.set_cons_zero, List.set_cons_succ]
  repeat' (first
| refine g_seq ?_
| refine zC ?_
| (refine o_go rfl ?_; (first
| refine p_p (zD rfl) ?_
| refine p_p (zA rfl) ?_
| refine p_p (ps_len rfl rfl rfl) ?_
| refine p_p (zS rfl rfl rfl) ?_); refine ⟨_, aB, ?_⟩)
| refine o_nil ?_
| refine zW rfl ?_
| refine kr1 ?_
| refine krS rfl ?_
| refine g_exit ?_
| refine g_ret ?_)
  all_goals first | rfl | (exfalso; simp at *; done) | (exfalso; omega)
theorem smalT_c (n : Int) (ops : List OpD) (ho : szOk ops) : PCalls Tryz.prog 7 [algP n ops] (.tup [opsP (tmV malB n ops).1, B (tmV malB n ops).2]) := by
  unfold tmV
  refine pcalls2 Tryz.func7 rfl Tryz.ntmps7 rfl ?_
  simp only [List.length_cons, List.length_nil, Nat.reduceAdd, Nat.reduceSub, List.replicate_succ, List.replicate_zero, List.cons_append, List.nil_append]
  cases hV : clT n ops with
  | none =>
    obtain ⟨T, -, h1⟩ := s17_none ho hV
    have h2 := sgive0_c T
    repeat' (first
| refine g_seq ?_
| refine zJ ?_
| refine zC ?_
| (refine o_go rfl ?_; (first
| refine p_p (zG rfl rfl aC (h1)) ?_
| refine p_p (zD rfl) ?_
| refine p_p (zA rfl) ?_
| refine p_p (ps_load_agg rfl rfl aK) ?_
| refine p_p (ps_extract rfl rfl rfl) ?_
| refine p_e rfl (e_lit0 rfl (by decide)) ?_
| refine p_p (ps_box rfl rfl) ?_); refine ⟨_, aB, ?_⟩)
| refine o_nil ?_)
    refine g_loopF (α := Nat) [13] (fun _ => [(6, .hp 0), (7, I 0)]) (fun _ => [.arr false 1 3 []]) (fun _ => True) (fun i => 0 - i) 0 aH trivial ⟨rfl, rfl, trivial⟩ rfl ?_
    rintro i -
    dsimp only [zZ, List.set_cons_zero, List.set_cons_succ]
    by_cases hT0 : T.length = 0
    · repeat' (first
| refine g_seq ?_
| refine zC ?_
| (refine o_go rfl ?_; (first
| refine p_p (zG rfl rfl aC (h2)) ?_
| refine p_p (zD rfl) ?_
| refine p_p (zA rfl) ?_
| refine p_p (zU rfl rfl rfl) ?_
| refine p_p (zS rfl rfl rfl) ?_
| refine p_p (zQ rfl rfl) ?_); refine ⟨_, aB, ?_⟩)
| refine o_nil ?_
| (refine o_s rfl ?_; refine ⟨_, aB, ?_⟩)
| (refine o_splitD rfl rfl rfl (fun hc => ?_) (fun hc => ?_) <;> first | (exfalso; omega) | dsimp only [List.set_cons_zero, List.set_cons_succ])
| refine zW rfl ?_
| refine kr2 ?_ ?_
| refine krB rfl ?_
| refine krS rfl ?_
| refine g_exit ?_
| refine g_ret ?_)
      all_goals first | rfl | (exfalso; omega) | (exfalso; simp at *; done)
    · repeat' (first
| refine g_seq ?_
| refine zC ?_
| (refine o_go rfl ?_; (first
| refine p_p (zG rfl rfl aC (h2)) ?_
| refine p_p (zD rfl) ?_
| refine p_p (zA rfl) ?_
| refine p_p (zU rfl rfl rfl) ?_
| refine p_p (zS rfl rfl rfl) ?_
| refine p_p (zQ rfl rfl) ?_); refine ⟨_, aB, ?_⟩)
| refine o_nil ?_
| (refine o_splitD rfl rfl rfl (fun hc => ?_) (fun hc => ?_) <;> first | (exfalso; omega) | dsimp only [List.set_cons_zero, List.set_cons_succ])
| refine zW rfl ?_
| refine kr2 ?_ ?_
| refine krB rfl ?_
| refine krS rfl ?_
| refine g_exit ?_
| refine g_ret ?_)
      all_goals first | rfl | (exfalso; omega) | (exfalso; simp at *; done)
  | some T =>
    have h1 := s17_some ho hV
    obtain ⟨m, rfl, hg, -, hC⟩ := clT_some hV
    dsimp only
    rw [Int.toNat_natCast]
    have hn8 : m ≤ 8 := by have := hC.n3; omega
    have hT := hC.len
    obtain ⟨Q, hQ⟩ : ∃ Q : Nat → Bool, Q = fun g => malB m (T.getD g []) := ⟨_, rfl⟩
    rw [← hQ]
    have hgv := sgive_c T (likeL T Q) hC.lenOk (fun f hf => (like_lt hf).1) (Nat.le_trans (like_len _ _) (by omega))
    repeat' (first
| refine g_seq ?_
| refine zJ ?_
| refine zC ?_
| (refine o_go rfl ?_; (first
| refine p_p (zG rfl rfl aC (h1)) ?_
| refine p_p (zD rfl) ?_
| refine p_p (zA rfl) ?_
| refine p_p (ps_load_agg rfl rfl aK) ?_
| refine p_p (ps_extract rfl rfl rfl) ?_
| refine p_e rfl (e_lit0 rfl (by decide)) ?_
| refine p_p (ps_box rfl rfl) ?_); refine ⟨_, aB, ?_⟩)
| refine o_nil ?_)
    refine g_loopF (α := Nat) [13] (fun f => [(6, .hp 0), (7, I (f : Int))]) (fun f => [.arr false 1 3 ((((List.range f).filter Q).map Int.ofNat).map I)]) (fun f => f ≤ T.length) (fun f => T.length - f) 0 aH (Nat.zero_le _) ⟨rfl, rfl, trivial⟩ rfl ?_
    rintro f hf
    dsimp only [zZ, List.set_cons_zero, List.set_cons_succ]
    have hll : ((((List.range f).filter Q).map Int.ofNat).map I).length ≤ 100 := by have := like_len Q f; simp only [List.length_map]; omega
    by_cases hfT : f < T.length
    · have hr := tab_at hfT
      have htl : (T.getD f []).length = m ^ 3 := (hC.row _ (getD_mem0 hfT)).1
      obtain ⟨t, hgt⟩ : ∃ t, t = T.getD f [] := ⟨_, rfl⟩
      rw [← hgt] at hr htl
      have h5 := smal_c m t hC.n0 hn8 htl
      have hqd : Q f = malB m t := by rw [hQ, hgt]
      generalize malB m t = b at *
      cases b
      · repeat' (first
| refine g_seq ?_
| refine zJ ?_
| refine zC ?_
| refine zP (by kernel_rfl) (by kernel_rfl) ?_
| (refine o_go rfl ?_; (first
| refine p_p (zN rfl rfl rfl (by omega) hr (by exact rfl)) ?_
| refine p_p (zG rfl rfl aC (h5)) ?_
| refine p_p (zD rfl) ?_
| refine p_p (zA rfl) ?_
| refine p_p (zF rfl rfl) ?_
| refine p_p (zU rfl rfl rfl) ?_
| refine p_p (zS rfl rfl rfl) ?_
| refine p_p (ps_add rfl rfl rfl aN) ?_
| refine p_p (zL rfl rfl) ?_
| refine p_p (zQ rfl rfl) ?_); refine ⟨_, aB, ?_⟩)
| refine o_nil ?_
| (refine o_splitD rfl rfl rfl (fun hc => ?_) (fun hc => ?_) <;> first | (exfalso; omega) | dsimp only [List.set_cons_zero, List.set_cons_succ])
| refine zX rfl ?_
| refine zW rfl ?_
| refine zR ?_)
        all_goals try (exfalso; omega)
        exact zT (f + 1) (by omega) (by omega) aI ⟨rfl, rfl, trivial⟩ (zB (by rw [like_no hqd]) (zM _))
      · repeat' (first
| refine g_seq ?_
| refine zJ ?_
| refine zC ?_
| refine zP (by kernel_rfl) (by kernel_rfl) ?_
| (refine o_go rfl ?_; (first
| refine p_p (zN rfl rfl rfl (by omega) hr (by exact rfl)) ?_
| refine p_p (zG rfl rfl aC (h5)) ?_
| refine p_e (by kernel_rfl) (e_append rfl rfl rfl rfl rfl rfl (one_one rfl) rfl aP aP) ?_
| refine p_p (zD rfl) ?_
| refine p_p (zA rfl) ?_
| refine p_p (zF rfl rfl) ?_
| refine p_p (zU rfl rfl rfl) ?_
| refine p_p (zS rfl rfl rfl) ?_
| refine p_p (ps_add rfl rfl rfl aN) ?_
| refine p_p (zL rfl rfl) ?_
| refine p_p (zQ rfl rfl) ?_
| refine p_p (ps_lit1 rfl rfl (by rfl) (by rfl)) ?_); refine ⟨_, aB, ?_⟩)
| refine o_nil ?_
| (refine o_splitD rfl rfl rfl (fun hc => ?_) (fun hc => ?_) <;> first | (exfalso; omega) | dsimp only [List.set_cons_zero, List.set_cons_succ])
| refine zX rfl ?_
| refine zR ?_)
        all_goals try (exfalso; omega)
        exact zT (f + 1) (by omega) (by omega) aI ⟨rfl, rfl, trivial⟩ (zB (by rw [like_yes hqd, List.map_append, List.map_append]; rfl) (zM _))
    · obtain rfl : f = T.length := by omega
      repeat' (first
| refine g_seq ?_
| refine zC ?_
| (refine o_go rfl ?_; (first
| refine p_p (zG rfl rfl aC (hgv)) ?_
| refine p_p (zD rfl) ?_
| refine p_p (zA rfl) ?_
| refine p_p (zU rfl rfl rfl) ?_
| refine p_p (zS rfl rfl rfl) ?_
| refine p_p (zQ rfl rfl) ?_); refine ⟨_, aB, ?_⟩)
| refine o_nil ?_
| (refine o_s rfl ?_; refine ⟨_, aB, ?_⟩)
| (refine o_splitD rfl rfl rfl (fun hc => ?_) (fun hc => ?_) <;> first | (exfalso; omega) | dsimp only [List.set_cons_zero, List.set_cons_succ])
| refine zW rfl ?_
| refine kr2 ?_ ?_
| refine krB rfl ?_
| refine krS rfl ?_
| refine g_exit ?_
| refine g_ret ?_)
      all_goals first | rfl | (exfalso; omega)
theorem smajT_c (n : Int) (ops : List OpD) (ho : szOk ops) : PCalls Tryz.prog 10 [algP n ops] (.tup [opsP (tmV majB n ops).1, B (tmV majB n ops).2]) := by
  unfold tmV
  refine pcalls2 Tryz.func10 rfl Tryz.ntmps10 rfl ?_
  simp only [List.length_cons, List.length_nil, Nat.reduceAdd, Nat.reduceSub, List.replicate_succ, List.replicate_zero, List.cons_append, List.nil_append]
  cases hV : clT n ops with
  | none =>
    obtain ⟨T, -, h1⟩ := s17_none ho hV
    have h2 := sgive0_c T
    repeat' (first
| refine g_seq ?_
| refine zJ ?_
| refine zC ?_
| (refine o_go rfl ?_; (first
| refine p_p (zG rfl rfl aC (h1)) ?_
| refine p_p (zD rfl) ?_
| refine p_p (zA rfl) ?_
| refine p_p (ps_load_agg rfl rfl aK) ?_
| refine p_p (ps_extract rfl rfl rfl) ?_
| refine p_e rfl (e_lit0 rfl (by decide)) ?_
| refine p_p (ps_box rfl rfl) ?_); refine ⟨_, aB, ?_⟩)
| refine o_nil ?_)
    refine g_loopF (α := Nat) [13] (fun _ => [(6, .hp 0), (7, I 0)]) (fun _ => [.arr false 1 3 []]) (fun _ => True) (fun i => 0 - i) 0 aH trivial ⟨rfl, rfl, trivial⟩ rfl ?_
    rintro i -
    dsimp only [zZ, List.set_cons_zero, List.set_cons_succ]
    by_cases hT0 : T.length = 0
    · repeat' (first
| refine g_seq ?_
| refine zC ?_
| (refine o_go rfl ?_; (first
| refine p_p (zG rfl rfl aC (h2)) ?_
| refine p_p (zD rfl) ?_
| refine p_p (zA rfl) ?_
| refine p_p (zU rfl rfl rfl) ?_
| refine p_p (zS rfl rfl rfl) ?_
| refine p_p (zQ rfl rfl) ?_); refine ⟨_, aB, ?_⟩)
| refine o_nil ?_
| (refine o_s rfl ?_; refine ⟨_, aB, ?_⟩)
| (refine o_splitD rfl rfl rfl (fun hc => ?_) (fun hc => ?_) <;> first | (exfalso; omega) | dsimp only [List.set_cons_zero, List.set_cons_succ])
| refine zW rfl ?_
| refine kr2 ?_ ?_
| refine krB rfl ?_
| refine krS rfl ?_
| refine g_exit ?_
| refine g_ret ?_)
      all_goals first | rfl | (exfalso; omega) | (exfalso; simp at *; done)
    · repeat' (first
| refine g_seq ?_
| refine zC ?_
| (refine o_go rfl ?_; (first
| refine p_p (zG rfl rfl aC (h2)) ?_
| refine p_p (zD rfl) ?_
| refine p_p (zA rfl) ?_
| refine p_p (zU rfl rfl rfl) ?_
| refine p_p (zS rfl rfl rfl) ?_
| refine p_p (zQ rfl rfl) ?_); refine ⟨_, aB, ?_⟩)
| refine o_nil ?_
| (refine o_splitD rfl rfl rfl (fun hc => ?_) (fun hc => ?_) <;> first | (exfalso; omega) | dsimp only [List.set_cons_zero, List.set_cons_succ])
| refine zW rfl ?_
| refine kr2 ?_ ?_
| refine krB rfl ?_
| refine krS rfl ?_
| refine g_exit ?_
| refine g_ret ?_)
      all_goals first | rfl | (exfalso; omega) | (exfalso; simp at *; done)
  | some T =>
    have h1 := s17_some ho hV
    obtain ⟨m, rfl, hg, -, hC⟩ := clT_some hV
    dsimp only
    rw [Int.toNat_natCast]
    have hn8 : m ≤ 8 := by have := hC.n3; omega
    have hT := hC.len
    obtain ⟨Q, hQ⟩ : ∃ Q : Nat → Bool, Q = fun g => majB m (T.getD g []) := ⟨_, rfl⟩
    rw [← hQ]
    have hgv := sgive_c T (likeL T Q) hC.lenOk (fun f hf => (like_lt hf).1) (Nat.le_trans (like_len _ _) (by omega))
    repeat' (first
| refine g_seq ?_
| refine zJ ?_
| refine zC ?_
| (refine o_go rfl ?_; (first
| refine p_p (zG rfl rfl aC (h1)) ?_
| refine p_p (zD rfl) ?_
| refine p_p (zA rfl) ?_
| refine p_p (ps_load_agg rfl rfl aK) ?_
| refine p_p (ps_extract rfl rfl rfl) ?_
| refine p_e rfl (e_lit0 rfl (by decide)) ?_
| refine p_p (ps_box rfl rfl) ?_); refine ⟨_, aB, ?_⟩)
| refine o_nil ?_)
    refine g_loopF (α := Nat) [13] (fun f => [(6, .hp 0), (7, I (f : Int))]) (fun f => [.arr false 1 3 ((((List.range f).filter Q).map Int.ofNat).map I)]) (fun f => f ≤ T.length) (fun f => T.length - f) 0 aH (Nat.zero_le _) ⟨rfl, rfl, trivial⟩ rfl ?_
    rintro f hf
    dsimp only [zZ, List.set_cons_zero, List.set_cons_succ]
    have hll : ((((List.range f).filter Q).map Int.ofNat).map I).length ≤ 100 := by have := like_len Q f; simp only [List.length_map]; omega
    by_cases hfT : f < T.length
    · have hr := tab_at hfT
      have htl : (T.getD f []).length = m ^ 3 := (hC.row _ (getD_mem0 hfT)).1
      obtain ⟨t, hgt⟩ : ∃ t, t = T.getD f [] := ⟨_, rfl⟩
      rw [← hgt] at hr htl
      have h5 := smaj_c m t hC.n0 hn8 htl
      have hqd : Q f = majB m t := by rw [hQ, hgt]
      generalize majB m t = b at *
      cases b
      · repeat' (first
| refine g_seq ?_
| refine zJ ?_
| refine zC ?_
| refine zP (by kernel_rfl) (by kernel_rfl) ?_
| (refine o_go rfl ?_; (first
| refine p_p (zN rfl rfl rfl (by omega) hr (by exact rfl)) ?_
| refine p_p (zG rfl rfl aC (h5)) ?_
| refine p_p (zD rfl) ?_
| refine p_p (zA rfl) ?_
| refine p_p (zF rfl rfl) ?_
| refine p_p (zU rfl rfl rfl) ?_
| refine p_p (zS rfl rfl rfl) ?_
| refine p_p (ps_add rfl rfl rfl aN) ?_
| refine p_p (zL rfl rfl) ?_
| refine p_p (zQ rfl rfl) ?_); refine ⟨_, aB, ?_⟩)
| refine o_nil ?_
| (refine o_splitD rfl rfl rfl (fun hc => ?_) (fun hc => ?_) <;> first | (exfalso; omega) | dsimp only [List.set_cons_zero, List.set_cons_succ])
| refine zX rfl ?_
| refine zW rfl ?_
| refine zR ?_)
        all_goals try (exfalso; omega)
        exact zT (f + 1) (by omega) (by omega) aI ⟨rfl, rfl, trivial⟩ (zB (by rw [like_no hqd]) (zM _))
      · repeat' (first
| refine g_seq ?_
| refine zJ ?_
| refine zC ?_
| refine zP (by kernel_rfl) (by kernel_rfl) ?_
| (refine o_go rfl ?_; (first
| refine p_p (zN rfl rfl rfl (by omega) hr (by exact rfl)) ?_
| refine p_p (zG rfl rfl aC (h5)) ?_
| refine p_e (by kernel_rfl) (e_append rfl rfl rfl rfl rfl rfl (one_one rfl) rfl aP aP) ?_
| refine p_p (zD rfl) ?_
| refine p_p (zA rfl) ?_
| refine p_p (zF rfl rfl) ?_
| refine p_p (zU rfl rfl rfl) ?_
| refine p_p (zS rfl rfl rfl) ?_
| refine p_p (ps_add rfl rfl rfl aN) ?_
| refine p_p (zL rfl rfl) ?_
| refine p_p (zQ rfl rfl) ?_
| refine p_p (ps_lit1 rfl rfl (by rfl) (by rfl)) ?_); refine ⟨_, aB, ?_⟩)
| refine o_nil ?_
| (refine o_splitD rfl rfl rfl (fun hc => ?_) (fun hc => ?_) <;> first | (exfalso; omega) | dsimp only [List.set_cons_zero, List.set_cons_succ])
| refine zX rfl ?_
| refine zR ?_)
        all_goals try (exfalso; omega)
        exact zT (f + 1) (by omega) (by omega) aI ⟨rfl, rfl, trivial⟩ (zB (by rw [like_yes hqd, List.map_append, List.map_append]; rfl) (zM _))
    · obtain rfl : f = T.length := by omega
      repeat' (first
| refine g_seq ?_
| refine zC ?_
| (refine o_go rfl ?_; (first
| refine p_p (zG rfl rfl aC (hgv)) ?_
| refine p_p (zD rfl) ?_
| refine p_p (zA rfl) ?_
| refine p_p (zU rfl rfl rfl) ?_
| refine p_p (zS rfl rfl rfl) ?_
| refine p_p (zQ rfl rfl) ?_); refine ⟨_, aB, ?_⟩)
| refine o_nil ?_
| (refine o_s rfl ?_; refine ⟨_, aB, ?_⟩)
| (refine o_splitD rfl rfl rfl (fun hc => ?_) (fun hc => ?_) <;> first | (exfalso; omega) | dsimp only [List.set_cons_zero, List.set_cons_succ])
| refine zW rfl ?_
| refine kr2 ?_ ?_
| refine krB rfl ?_
| refine krS rfl ?_
| refine g_exit ?_
| refine g_ret ?_)
      all_goals first | rfl | (exfalso; omega)
theorem spixT_c (n : Int) (ops : List OpD) (ho : szOk ops) : PCalls Tryz.prog 12 [algP n ops] (.tup [opsP (tmV pixB n ops).1, B (tmV pixB n ops).2]) := by
  unfold tmV
  refine pcalls2 Tryz.func12 rfl Tryz.ntmps12 rfl ?_
  simp only [List.length_cons, List.length_nil, Nat.reduceAdd, Nat.reduceSub, List.replicate_succ, List.replicate_zero, List.cons_append, List.nil_append]
  cases hV : clT n ops with
  | none =>
    obtain ⟨T, -, h1⟩ := s17_none ho hV
    have h2 := sgive0_c T
    repeat' (first
| refine g_seq ?_
| refine zJ ?_
| refine zC ?_
| (refine o_go rfl ?_; (first
| refine p_p (zG rfl rfl aC (h1)) ?_
| refine p_p (zD rfl) ?_
| refine p_p (zA rfl) ?_
| refine p_p (ps_load_agg rfl rfl aK) ?_
| refine p_p (ps_extract rfl rfl rfl) ?_
| refine p_e rfl (e_lit0 rfl (by decide)) ?_
| refine p_p (ps_box rfl rfl) ?_); refine ⟨_, aB, ?_⟩)
| refine o_nil ?_)
    refine g_loopF (α := Nat) [13] (fun _ => [(6, .hp 0), (7, I 0)]) (fun _ => [.arr false 1 3 []]) (fun _ => True) (fun i => 0 - i) 0 aH trivial ⟨rfl, rfl, trivial⟩ rfl ?_
    rintro i -
    dsimp only [zZ, List.set_cons_zero, List.set_cons_succ]
    by_cases hT0 : T.length = 0
    · repeat' (first
| refine g_seq ?_
| refine zC ?_
| (refine o_go rfl ?_; (first
| refine p_p (zG rfl rfl aC (h2)) ?_
| refine p_p (zD rfl) ?_
| refine p_p (zA rfl) ?_
| refine p_p (zU rfl rfl rfl) ?_
| refine p_p (zS rfl rfl rfl) ?_
| refine p_p (zQ rfl rfl) ?_); refine ⟨_, aB, ?_⟩)
| refine o_nil ?_
| (refine o_s rfl ?_; refine ⟨_, aB, ?_⟩)
| (refine o_splitD rfl rfl rfl (fun hc => ?_) (fun hc => ?_) <;> first | (exfalso; omega) | dsimp only [List.set_cons_zero, List.set_cons_succ])
| refine zW rfl ?_
| refine kr2 ?_ ?_
| refine krB rfl ?_
| refine krS rfl ?_
| refine g_exit ?_
| refine g_ret ?_)
      all_goals first | rfl | (exfalso; omega) | (exfalso; simp at *; done)
    · repeat' (first
| refine g_seq ?_
| refine zC ?_
| (refine o_go rfl ?_; (first
| refine p_p (zG rfl rfl aC (h2)) ?_
| refine p_p (zD rfl) ?_
| refine p_p (zA rfl) ?_
| refine p_p (zU rfl rfl rfl) ?_
| refine p_p (zS rfl rfl rfl) ?_
| refine p_p (zQ rfl rfl) ?_); refine ⟨_, aB, ?_⟩)
| refine o_nil ?_
| (refine o_splitD rfl rfl rfl (fun hc => ?_) (fun hc => ?_) <;> first | (exfalso; omega) | dsimp only [List.set_cons_zero, List.set_cons_succ])
| refine zW rfl ?_
| refine kr2 ?_ ?_
| refine krB rfl ?_
| refine krS rfl ?_
| refine g_exit ?_
| refine g_ret ?_)
      all_goals first | rfl | (exfalso; omega) | (exfalso; simp at *; done)
  | some T =>
    have h1 := s17_some ho hV
    obtain ⟨m, rfl, hg, -, hC⟩ := clT_some hV
    dsimp only
    rw [Int.toNat_natCast]
    have hn8 : m ≤ 8 := by have := hC.n3; omega
    have hT := hC.len
    obtain ⟨Q, hQ⟩ : ∃ Q : Nat → Bool, Q = fun g => pixB m (T.getD g []) := ⟨_, rfl⟩
    rw [← hQ]
    have hgv := sgive_c T (likeL T Q) hC.lenOk (fun f hf => (like_lt hf).1) (Nat.le_trans (like_len _ _) (by omega))
    repeat' (first
| refine g_seq ?_
| refine zJ ?_
| refine zC ?_
| (refine o_go rfl ?_; (first
| refine p_p (zG rfl rfl aC (h1)) ?_
| refine p_p (zD rfl) ?_
| refine p_p (zA rfl) ?_
| refine p_p (ps_load_agg rfl rfl aK) ?_
| refine p_p (ps_extract rfl rfl rfl) ?_
| refine p_e rfl (e_lit0 rfl (by decide)) ?_
| refine p_p (ps_box rfl rfl) ?_); refine ⟨_, aB, ?_⟩)
| refine o_nil ?_)
    refine g_loopF (α := Nat) [13] (fun f => [(6, .hp 0), (7, I (f : Int))]) (fun f => [.arr false 1 3 ((((List.range f).filter Q).map Int.ofNat).map I)]) (fun f => f ≤ T.length) (fun f => T.length - f) 0 aH (Nat.zero_le _) ⟨rfl, rfl, trivial⟩ rfl ?_
    rintro f hf
    dsimp only [zZ, List.set_cons_zero, List.set_cons_succ]
    have hll : ((((List.range f).filter Q).map Int.ofNat).map I).length ≤ 100 := by have := like_len Q f; simp only [List.length_map]; omega
    by_cases hfT : f < T.length
    · have hr := tab_at hfT
      have htl : (T.getD f []).length = m ^ 3 := (hC.row _ (getD_mem0 hfT)).1
      obtain ⟨t, hgt⟩ : ∃ t, t = T.getD f [] := ⟨_, rfl⟩
      rw [← hgt] at hr htl
      have h5 := smal_c m t hC.n0 hn8 htl
      have h6 := sfixed_c m t hC.n0 hn8 htl
      have hqd : Q f = (fixB m t && malB m t) := by rw [hQ, hgt]; rfl
      generalize malB m t = b at *
      generalize fixB m t = b2 at *
      cases b
      · rw [Bool.and_false] at hqd
        repeat' (first
| refine g_seq ?_
| refine zJ ?_
| refine zC ?_
| refine zP (by kernel_rfl) (by kernel_rfl) ?_
| (refine o_go rfl ?_; (first
| refine p_p (zN rfl rfl rfl (by omega) hr (by exact rfl)) ?_
| refine p_p (zG rfl rfl aC (h5)) ?_
| refine p_p (zD rfl) ?_
| refine p_p (zA rfl) ?_
| refine p_p (zF rfl rfl) ?_
| refine p_p (zU rfl rfl rfl) ?_
| refine p_p (zS rfl rfl rfl) ?_
| refine p_p (ps_add rfl rfl rfl aN) ?_
| refine p_p (zL rfl rfl) ?_
| refine p_p (zQ rfl rfl) ?_); refine ⟨_, aB, ?_⟩)
| refine o_nil ?_
| (refine o_s rfl ?_; refine ⟨_, aB, ?_⟩)
| (refine o_splitD rfl rfl rfl (fun hc => ?_) (fun hc => ?_) <;> first | (exfalso; omega) | dsimp only [List.set_cons_zero, List.set_cons_succ])
| refine zX rfl ?_
| refine zW rfl ?_
| refine zR ?_)
        all_goals try (exfalso; omega)
        exact zT (f + 1) (by omega) (by omega) aI ⟨rfl, rfl, trivial⟩ (zB (by rw [like_no hqd]) (zM _))
      · cases b2
        · repeat' (first
| refine g_seq ?_
| refine zJ ?_
| refine zC ?_
| refine zP (by kernel_rfl) (by kernel_rfl) ?_
| (refine o_go rfl ?_; (first
| refine p_p (zN rfl rfl rfl (by omega) hr (by exact rfl)) ?_
| refine p_p (zG rfl rfl aC (h5)) ?_
| refine p_p (zG rfl rfl aC (h6)) ?_
| refine p_p (zD rfl) ?_
| refine p_p (zA rfl) ?_
| refine p_p (zF rfl rfl) ?_
| refine p_p (zU rfl rfl rfl) ?_
| refine p_p (zS rfl rfl rfl) ?_
| refine p_p (ps_add rfl rfl rfl aN) ?_
| refine p_p (zL rfl rfl) ?_
| refine p_p (zQ rfl rfl) ?_); refine ⟨_, aB, ?_⟩)
| refine o_nil ?_
| (refine o_splitD rfl rfl rfl (fun hc => ?_) (fun hc => ?_) <;> first | (exfalso; omega) | dsimp only [List.set_cons_zero, List.set_cons_succ])
| refine zX rfl ?_
| refine zW rfl ?_
| refine zR ?_)
          all_goals try (exfalso; omega)
          exact zT (f + 1) (by omega) (by omega) aI ⟨rfl, rfl, trivial⟩ (zB (by rw [like_no hqd]) (zM _))
        · repeat' (first
| refine g_seq ?_
| refine zJ ?_
| refine zC ?_
| refine zP (by kernel_rfl) (by kernel_rfl) ?_
| (refine o_go rfl ?_; (first
| refine p_p (zN rfl rfl rfl (by omega) hr (by exact rfl)) ?_
| refine p_p (zG rfl rfl aC (h5)) ?_
| refine p_p (zG rfl rfl aC (h6)) ?_
| refine p_e (by kernel_rfl) (e_append rfl rfl rfl rfl rfl rfl (one_one rfl) rfl aP aP) ?_
| refine p_p (zD rfl) ?_
| refine p_p (zA rfl) ?_
| refine p_p (zF rfl rfl) ?_
| refine p_p (zU rfl rfl rfl) ?_
| refine p_p (zS rfl rfl rfl) ?_
| refine p_p (ps_add rfl rfl rfl aN) ?_
| refine p_p (zL rfl rfl) ?_
| refine p_p (zQ rfl rfl) ?_
| refine p_p (ps_lit1 rfl rfl (by rfl) (by rfl)) ?_); refine ⟨_, aB, ?_⟩)
| refine o_nil ?_
| (refine o_splitD rfl rfl rfl (fun hc => ?_) (fun hc => ?_) <;> first | (exfalso; omega) | dsimp only [List.set_cons_zero, List.set_cons_succ])
| refine zX rfl ?_
| refine zR ?_)
          all_goals try (exfalso; omega)
          exact zT (f + 1) (by omega) (by omega) aI ⟨rfl, rfl, trivial⟩ (zB (by rw [like_yes hqd, List.map_append, List.map_append]; rfl) (zM _))
    · obtain rfl : f = T.length := by omega
      repeat' (first
| refine g_seq ?_
| refine zC ?_
| (refine o_go rfl ?_; (first
| refine p_p (zG rfl rfl aC (hgv)) ?_
| refine p_p (zD rfl) ?_
| refine p_p (zA rfl) ?_
| refine p_p (zU rfl rfl rfl) ?_
| refine p_p (zS rfl rfl rfl) ?_
| refine p_p (zQ rfl rfl) ?_); refine ⟨_, aB, ?_⟩)
| refine o_nil ?_
| (refine o_s rfl ?_; refine ⟨_, aB, ?_⟩)
| (refine o_splitD rfl rfl rfl (fun hc => ?_) (fun hc => ?_) <;> first | (exfalso; omega) | dsimp only [List.set_cons_zero, List.set_cons_succ])
| refine zW rfl ?_
| refine kr2 ?_ ?_
| refine krB rfl ?_
| refine krS rfl ?_
| refine g_exit ?_
| refine g_ret ?_)
      all_goals first | rfl | (exfalso; omega)
end Go.Proofs.YtlgfniaakjchgaaGreat
