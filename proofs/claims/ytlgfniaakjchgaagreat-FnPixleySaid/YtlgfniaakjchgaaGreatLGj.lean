/- Walks: the ternary term functions of a small algebra, on both sides, with what is known of them. -/
import Derived.Test.YtlgfniaakjchgaaGreatLGi
namespace Go.Proofs.YtlgfniaakjchgaaGreat
open Go Go.Pv Go.Proofs
set_option maxHeartbeats 32000000
set_option maxRecDepth 100000
attribute [local bitvec_to_nat] St.put St.setObj St.ev killP killA killP1 killH mapHO renP renA ren1 killG killGA killG1 krowP krowA krow1 lendP lendA lend1 unv pinP pin1 elemsM viewM viewN viewV n_set_z n_set_s n_map_c n_map_n getD_z getD_s n_toNat n_cond_t n_cond_f n_len_c n_len_n n_app_c n_app_n n_take_s n_take_z n_drop_s n_drop_z n_get_z n_get_s view viewA view1 elems Nat.zero_add Nat.add_zero Bool.not_true Bool.not_false Nat.one_ne_zero Nat.mul_one
attribute [local bitvec_to_nat] posI optP lendM1 lendMA lendMP killM1 killMA killMP hasI getO backM1 backMA backMP putL inpM pinM1 pinMA pinMP

theorem addE_nd {E : List Ent} {e : Ent} (h : (tabsE E).Nodup) : (tabsE (addE E e)).Nodup := by
  unfold addE
  by_cases hm : e.1 ∈ tabsE E
  · rw [if_pos hm]; exact h
  · rw [if_neg hm, tabsE_snoc]
    refine List.nodup_append.2 ⟨h, by simp, fun a ha b hb => ?_⟩
    rw [List.mem_singleton] at hb
    rintro rfl
    exact hm (hb ▸ ha)
theorem foldE_nd : ∀ {cs E : List Ent}, (tabsE E).Nodup → (tabsE (cs.foldl addE E)).Nodup
  | [], _, h => h
  | _ :: cs, _, h => foldE_nd (cs := cs) (addE_nd h)
theorem cloneF_some {n size : Nat} {ops : List OpD} : ∀ {k : Nat} {E E' : List Ent}, cloneF n size ops k E = some E' → E <+: E' ∧ ((tabsE E).Nodup → (tabsE E').Nodup) ∧ roundE n size ops E' = E'
  | 0, _, _, h => by cases h
  | k + 1, E, E', h => by
    rw [cloneF] at h
    by_cases h1 : 60 < (roundE n size ops E).length
    · rw [if_pos h1] at h; cases h
    rw [if_neg h1] at h
    by_cases h2 : (roundE n size ops E).length = E.length
    · rw [if_pos h2] at h
      cases h
      exact ⟨List.prefix_refl _, id, foldE_eq (Nat.le_of_eq h2)⟩
    · rw [if_neg h2] at h
      obtain ⟨i1, i2, i3⟩ := cloneF_some h
      exact ⟨(foldE_pre _ E).trans i1, fun hn => i2 (foldE_nd hn), i3⟩
theorem firstE_nd (n k : Nat) : ∀ p, (tabsE (firstE n k p)).Nodup
  | 0 => List.nodup_nil
  | p + 1 => addE_nd (firstE_nd n k p)
theorem firstE_mem (n k : Nat) : ∀ {p j : Nat}, j < p → prjL n k j ∈ tabsE (firstE n k p)
  | 0, _, h => by omega
  | p + 1, j, h => by
    rw [firstE]
    rcases Nat.lt_or_ge j p with h' | h'
    · exact (tabsE_pre (addE_pre _ _)).subset (firstE_mem n k h')
    · obtain rfl : j = p := by omega
      exact addE_mem _ _

structure CT (n : Nat) (ops : List OpD) (T : List (List Int)) : Prop where
  n0 : 0 < n
  n3 : n ≤ 3
  ops4 : ops.length ≤ 4
  op : ∀ f ∈ ops, opOk n f = true
  len0 : 0 < T.length
  len : T.length ≤ 60
  row : ∀ t ∈ T, t.length = n ^ 3 ∧ ∀ x ∈ t, 0 ≤ x ∧ x < (n : Int)
  nd : T.Nodup
  prj : ∀ p, p < 3 → prjL n 3 p ∈ T
  clo : closedT n (n ^ 3) ops T T.length
theorem CT.lenOk {n : Nat} {ops : List OpD} {T : List (List Int)} (h : CT n ops T) : lenOk T := ⟨by have := h.len; omega, fun t ht => by
  have h27 : n ^ 3 ≤ 27 := Nat.pow_le_pow_left h.n3 3
  rw [(h.row t ht).1]; omega⟩
theorem CT.cube {n : Nat} {ops : List OpD} {T : List (List Int)} (h : CT n ops T) : n ^ 3 ≤ 27 := Nat.pow_le_pow_left h.n3 3
def clT (n : Int) (ops : List OpD) : Option (List (List Int)) := if (algOk n ops && decide (n ≤ 3)) = true then (cloneV n.toNat 3 ops).map tabsE else none
theorem clT_some {n : Int} {ops : List OpD} {T : List (List Int)} (h : clT n ops = some T) : ∃ m : Nat, n = m ∧ algOk n ops = true ∧ (∃ E, cloneV m 3 ops = some E ∧ tabsE E = T) ∧ CT m ops T := by
  unfold clT at h
  by_cases hc : (algOk n ops && decide (n ≤ 3)) = true
  · rw [if_pos hc] at h
    obtain ⟨E, hE, hT⟩ := Option.map_eq_some_iff.1 h
    simp only [Bool.and_eq_true, decide_eq_true_eq] at hc
    have hn1 : 1 ≤ n := by
      have := hc.1
      unfold algOk at this
      simp only [Bool.and_eq_true, decide_eq_true_eq] at this
      exact (inB_iff.1 this.1).1
    obtain ⟨m, rfl⟩ : ∃ m : Nat, n = m := ⟨n.toNat, by omega⟩
    rw [Int.toNat_natCast] at hE
    obtain ⟨⟨hn0, hn⟩, hol, ho⟩ := algOk_ops hc.1
    obtain ⟨hok, h60⟩ := cloneV_ok hn0 (by decide) (by decide) ho hE
    obtain ⟨c1, c2, c3⟩ := cloneF_some hE
    have hfl := (firstE_len m 3 3).2 (by decide)
    have hE0 : 0 < E.length := Nat.lt_of_lt_of_le hfl c1.length_le
    subst hT
    refine ⟨m, rfl, hc.1, ⟨E, hE, rfl⟩, hn0, by omega, hol, ho, by rw [tabs_len]; omega, by rw [tabs_len]; omega, fun t ht => ?_, c2 (firstE_nd m 3 3), fun p hp => (tabsE_pre c1).subset (firstE_mem m 3 hp), ?_⟩
    · obtain ⟨c, hc, rfl⟩ := List.mem_map.1 ht
      exact hok c hc
    · have := closed_next (n := m) (size := m ^ 3) (ops := ops) hE0
      rw [c3] at this
      rw [tabs_len]; exact this
  · rw [if_neg hc] at h; cases h
theorem placeT_mem {T : List (List Int)} {t : List Int} (h : t ∈ T) : ∃ j : Nat, j < T.length ∧ T.getD j [] = t ∧ placeT T t = (j : Int) := by
  rcases placeF_cases t T 0 with ⟨h', -⟩ | ⟨j, h1, h2, h3, -⟩
  · exact absurd h h'
  · exact ⟨j, h1, h2, by rw [placeT, h3, Nat.zero_add]⟩
def chO (n : Int) : Option (List (List Int)) → PV
  | some T => chP n.toNat T
  | none => .val (.pointer none)
theorem inewO_c (n : Int) (ops : List OpD) (hl : szOk ops) : PCalls Tryz.prog 20 [algP n ops] (.tup [chO n (clT n ops), B (clT n ops).isSome]) := by
  cases hV : clT n ops with
  | some T =>
    obtain ⟨m, rfl, hg, ⟨E, hE, rfl⟩, hC⟩ := clT_some hV
    have := inew_c m ops E hl hg hC.n3 hE (by have := hC.len0; rwa [tabs_len] at this)
    unfold chO
    rw [Int.toNat_natCast]
    exact this
  | none =>
    show PCalls _ _ _ (.tup [.val (.pointer none), B false])
    refine pcalls2 Tryz.func20 rfl Tryz.ntmps20 rfl ?_
    simp only [List.length_cons, List.length_nil, Nat.reduceAdd, Nat.reduceSub, List.replicate_succ, List.replicate_zero, List.cons_append, List.nil_append]
    have h1 := igood_c n ops hl
    unfold clT at hV
    cases hg : algOk n ops with
    | false =>
      rw [hg] at h1
      repeat' (first
| refine g_seq ?_
| refine zC ?_
| (refine o_go rfl ?_; (first
| refine p_e rfl (e_box rfl rfl) ?_
| refine p_p (zG rfl rfl aC (h1)) ?_
| refine p_p (zD rfl) ?_
| refine p_p (zA rfl) ?_
| refine p_p (ps_not rfl rfl) ?_
| refine p_p (zQ rfl rfl) ?_
| refine p_p (zY rfl rfl rfl aK) ?_); refine ⟨_, aB, ?_⟩)
| refine o_nil ?_
| (refine o_s rfl ?_; refine ⟨_, aB, ?_⟩)
| refine zX rfl ?_
| refine kr2 ?_ ?_
| refine krB rfl ?_
| refine g_ret ?_)
      all_goals first | rfl | exact kr_le (p := .val (.pointer none)) rfl (PV.le_refl _)
    | true =>
      rw [hg] at h1
      by_cases hn3 : n ≤ 3
      · rw [if_pos (by rw [hg, decide_eq_true hn3]; rfl)] at hV
        have hn1 : 1 ≤ n := by
          have := hg
          unfold algOk at this
          simp only [Bool.and_eq_true, decide_eq_true_eq] at this
          exact (inB_iff.1 this.1).1
        obtain ⟨m, rfl⟩ : ∃ m : Nat, n = m := ⟨n.toNat, by omega⟩
        rw [Int.toNat_natCast] at hV
        have h27 : m ^ 3 ≤ 27 := Nat.pow_le_pow_left (show m ≤ 3 by omega) 3
        have h2 := iterm_c m 3 ops hl hg (by decide) (by decide) h27
        rw [Option.map_eq_none_iff.1 hV] at h2
        dsimp only [fndP] at h2
        repeat' (first
| refine g_seq ?_
| refine zC ?_
| (refine o_go rfl ?_; (first
| refine p_e rfl (e_box rfl rfl) ?_
| refine p_p (zG rfl rfl aC (h1)) ?_
| refine p_p (zG rfl rfl aC (h2)) ?_
| refine p_p (zD rfl) ?_
| refine p_p (zA rfl) ?_
| refine p_p (ps_extract rfl rfl rfl) ?_
| refine p_p (ps_not rfl rfl) ?_
| refine p_p (zQ rfl rfl) ?_
| refine p_p (ps_gtr rfl rfl rfl) ?_
| refine p_p (zH rfl rfl rfl rfl) ?_
| refine p_p (zY rfl rfl rfl aK) ?_
| refine p_p (zE rfl rfl) ?_); refine ⟨_, aB, ?_⟩)
| refine o_nil ?_
| refine zX rfl ?_
| (refine zK rfl (fun hc => ?_) (fun hc => ?_) <;> try (exfalso; omega))
| refine kr2 ?_ ?_
| refine krB rfl ?_
| refine zR ?_
| refine g_ret ?_)
        all_goals first | rfl | exact kr_le (p := .val (.pointer none)) rfl (PV.le_refl _) | (exfalso; omega)
      · repeat' (first
| refine g_seq ?_
| refine zC ?_
| (refine o_go rfl ?_; (first
| refine p_e rfl (e_box rfl rfl) ?_
| refine p_p (zG rfl rfl aC (h1)) ?_
| refine p_p (zD rfl) ?_
| refine p_p (zA rfl) ?_
| refine p_p (ps_not rfl rfl) ?_
| refine p_p (zQ rfl rfl) ?_
| refine p_p (ps_gtr rfl rfl rfl) ?_
| refine p_p (zH rfl rfl rfl rfl) ?_
| refine p_p (zY rfl rfl rfl aK) ?_
| refine p_p (zE rfl rfl) ?_); refine ⟨_, aB, ?_⟩)
| refine o_nil ?_
| (refine zK rfl (fun hc => ?_) (fun hc => ?_) <;> try (exfalso; omega))
| refine kr2 ?_ ?_
| refine krB rfl ?_
| refine g_ret ?_)
        all_goals first | rfl | exact kr_le (p := .val (.pointer none)) rfl (PV.le_refl _) | (exfalso; omega)
theorem s17_some {n : Int} {ops : List OpD} {T : List (List Int)} (hl : szOk ops) (h : clT n ops = some T) : PCalls Tryz.prog 23 [algP n ops] (.tup [intss T, B true]) := by
  obtain ⟨m, rfl, hg, ⟨E, hE, rfl⟩, hC⟩ := clT_some h
  have h1 := s17clone_c m ops hl hg hC.n3
  have h2 := specW_spec (n := m) (k := 3) (ops := ops) hC.n0 (by decide) (by decide) hC.op
  rw [hE] at h2
  obtain ⟨-, -, h2⟩ := h2
  dsimp only at h2
  rw [h2] at h1
  exact h1
theorem s17_none {n : Int} {ops : List OpD} (hl : szOk ops) (h : clT n ops = none) : ∃ T, T.length ≤ 60 ∧ PCalls Tryz.prog 23 [algP n ops] (.tup [intss T, B false]) := by
  unfold clT at h
  by_cases hc : (algOk n ops && decide (n ≤ 3)) = true
  · rw [if_pos hc] at h
    simp only [Bool.and_eq_true, decide_eq_true_eq] at hc
    have hn1 : 1 ≤ n := by
      have := hc.1
      unfold algOk at this
      simp only [Bool.and_eq_true, decide_eq_true_eq] at this
      exact (inB_iff.1 this.1).1
    obtain ⟨m, rfl⟩ : ∃ m : Nat, n = m := ⟨n.toNat, by omega⟩
    rw [Int.toNat_natCast] at h
    obtain ⟨⟨hn0, hn⟩, hol, ho⟩ := algOk_ops hc.1
    have h1 := s17clone_c m ops hl hc.1 (by omega)
    have h2 := specW_spec (n := m) (k := 3) (ops := ops) hn0 (by decide) (by decide) ho
    rw [Option.map_eq_none_iff.1 h] at h2
    obtain ⟨-, h3, h2⟩ := h2
    dsimp only at h2
    rw [h2] at h1
    exact ⟨_, by rw [tabs_len]; exact h3, h1⟩
  · exact ⟨[], by decide, s17clone_no n ops hl (by simpa using hc)⟩
end Go.Proofs.YtlgfniaakjchgaaGreat
