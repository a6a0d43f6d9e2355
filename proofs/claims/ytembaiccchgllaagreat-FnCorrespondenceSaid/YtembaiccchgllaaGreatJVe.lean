/- Walks: quotient algebras, natural maps, congruences above, lifted and pushed congruences. -/
import Derived.Test.YtembaiccchgllaaGreatJVd
import Derived.Test.YtembaiccchgllaaGreatJYc
import Derived.Test.YtembaiccchgllaaGreatJYa
namespace Go.Proofs.YtembaiccchgllaaGreat
open Go Go.Pv Go.Proofs
set_option maxHeartbeats 32000000
set_option maxRecDepth 100000
attribute [local bitvec_to_nat] St.put St.setObj St.ev killP killA killP1 killH mapHO renP renA ren1 killG killGA killG1 krowP krowA krow1 lendP lendA lend1 unv pinP pin1 elemsM viewM viewN viewV n_set_z n_set_s n_map_c n_map_n getD_z getD_s n_toNat n_cond_t n_cond_f n_len_c n_len_n n_app_c n_app_n n_take_s n_take_z n_drop_s n_drop_z n_get_z n_get_s view viewA view1 elems Nat.zero_add Nat.add_zero Bool.not_true Bool.not_false Nat.one_ne_zero Nat.mul_one

noncomputable def quN (n : Int) (ops : List OpD) (p : List Int) : Int := if tkB n ops p then ((lstN p n.toNat).length : Int) else 0
noncomputable def quO (n : Int) (ops : List OpD) (p : List Int) : List OpD := if tkB n ops p then quoL n.toNat p ops else []
theorem quN_bad {n : Int} {ops : List OpD} {p : List Int} (h : tkB n ops p = false) : quN n ops p = 0 := by unfold quN; rw [h]; rfl
theorem quO_bad {n : Int} {ops : List OpD} {p : List Int} (h : tkB n ops p = false) : quO n ops p = [] := by unfold quO; rw [h]; rfl
theorem quN_ok {n : Nat} {ops : List OpD} {p : List Int} (h : tkB (n : Int) ops p = true) : quN (n : Int) ops p = ((lstN p n).length : Int) := by unfold quN; rw [h, if_pos rfl, Int.toNat_natCast]
theorem quO_ok {n : Nat} {ops : List OpD} {p : List Int} (h : tkB (n : Int) ops p = true) : quO (n : Int) ops p = quoL n p ops := by unfold quO; rw [h, if_pos rfl, Int.toNat_natCast]
theorem iqa_c (n : Int) (ops : List OpD) (p : List Int) (hs : szOk ops) (hp : p.length ≤ 1048576) : PCalls Tryz.prog 29 [algP n ops, ints p] (.tup [algP (quN n ops p) (quO n ops p), B (tkB n ops p)]) := by
  refine pcallsCT Tryz.func29 rfl Tryz.ntmps29 rfl ?_
  have h1 := iisct_c n ops p hs hp
  simp only [List.length_cons, List.length_nil, Nat.reduceAdd, Nat.reduceSub, List.replicate_succ, List.replicate_zero, List.cons_append, List.nil_append]
  cases hb : tkB n ops p with
  | false =>
    rw [hb] at h1
    rw [quN_bad hb, quO_bad hb]
    repeat' (first
| refine krct (krC_le rfl aL rfl (agg2_le (PV.le_nil 2))) ?_
| refine g_seq ?_
| refine zC ?_
| (refine o_go rfl ?_; (first
| refine p_p (zG rfl rfl aC (h1)) ?_
| refine p_p (zD rfl) ?_
| refine p_p (zA rfl) ?_
| refine p_p (ps_load_agg rfl rfl aL) ?_
| refine p_p (ps_not rfl rfl) ?_
| refine p_e rfl (zO rfl rfl rfl rfl aL rfl rfl rfl) ?_
| refine p_e rfl (e_alloc rfl) ?_
| refine p_p (ps_box rfl rfl) ?_
| refine p_p (ps_build rfl rfl) ?_); refine ⟨_, aB, ?_⟩)
| refine o_nil ?_
| refine zX rfl ?_
| refine krB rfl ?_
| refine g_ret ?_)
    all_goals rfl
  | true =>
    rw [hb] at h1
    obtain ⟨m, rfl, hm0, hm8, h4, ho, hg, pt, cg⟩ := tkB_facts hb
    have h2 := iquo_c m ops p hm0 hm8 hs.1 ho pt
    rw [quN_ok hb, quO_ok hb]
    generalize quoL m p ops = Q at *
    repeat' (first
| refine g_seq ?_
| refine zC ?_
| (refine o_go rfl ?_; (first
| refine p_p (zG rfl rfl aC (h1)) ?_
| refine p_p (zG rfl rfl aC (h2)) ?_
| refine p_p (zD rfl) ?_
| refine p_p (zA rfl) ?_
| refine p_p (ps_load_agg rfl rfl aL) ?_
| refine p_p (ps_not rfl rfl) ?_
| refine p_e rfl (zO rfl rfl rfl rfl aL rfl rfl rfl) ?_
| refine p_e rfl (e_alloc rfl) ?_
| refine p_p (ps_box rfl rfl) ?_); refine ⟨_, aB, ?_⟩)
| refine o_nil ?_
| refine zW rfl ?_
| refine krct ?_ ?_
| refine krC rfl aL ?_
| refine krB rfl ?_
| refine zR ?_
| refine g_ret ?_)
    all_goals rfl
theorem sqa_c (n : Int) (ops : List OpD) (p : List Int) (hs : szOk ops) (hp : p.length ≤ 1048576) : PCalls Tryz.prog 30 [algP n ops, ints p] (.tup [algP (quN n ops p) (quO n ops p), B (tkB n ops p)]) := by
  refine pcallsCT Tryz.func30 rfl Tryz.ntmps30 rfl ?_
  have h1 := stakes_c n ops p hs hp
  simp only [List.length_cons, List.length_nil, Nat.reduceAdd, Nat.reduceSub, List.replicate_succ, List.replicate_zero, List.cons_append, List.nil_append]
  cases hb : tkB n ops p with
  | false =>
    rw [hb] at h1
    rw [quN_bad hb, quO_bad hb]
    repeat' (first
| refine krct (krC_le rfl aL rfl (agg2_le (PV.le_nil 2))) ?_
| refine g_seq ?_
| refine zC ?_
| (refine o_go rfl ?_; (first
| refine p_p (zG rfl rfl aC (h1)) ?_
| refine p_p (zD rfl) ?_
| refine p_p (zA rfl) ?_
| refine p_p (ps_load_agg rfl rfl aL) ?_
| refine p_p (ps_not rfl rfl) ?_
| refine p_e rfl (zO rfl rfl rfl rfl aL rfl rfl rfl) ?_
| refine p_e rfl (e_alloc rfl) ?_
| refine p_p (ps_box rfl rfl) ?_
| refine p_p (ps_build rfl rfl) ?_); refine ⟨_, aB, ?_⟩)
| refine o_nil ?_
| refine zX rfl ?_
| refine krB rfl ?_
| refine g_ret ?_)
    all_goals rfl
  | true =>
    rw [hb] at h1
    obtain ⟨m, rfl, hm0, hm8, h4, ho, hg, pt, cg⟩ := tkB_facts hb
    have h2 := squo_c m ops p hm0 hm8 hs.1 ho pt
    rw [quN_ok hb, quO_ok hb]
    generalize quoL m p ops = Q at *
    repeat' (first
| refine g_seq ?_
| refine zC ?_
| (refine o_go rfl ?_; (first
| refine p_p (zG rfl rfl aC (h1)) ?_
| refine p_p (zG rfl rfl aC (h2)) ?_
| refine p_p (zD rfl) ?_
| refine p_p (zA rfl) ?_
| refine p_p (ps_load_agg rfl rfl aL) ?_
| refine p_p (ps_not rfl rfl) ?_
| refine p_e rfl (zO rfl rfl rfl rfl aL rfl rfl rfl) ?_
| refine p_e rfl (e_alloc rfl) ?_
| refine p_p (ps_box rfl rfl) ?_); refine ⟨_, aB, ?_⟩)
| refine o_nil ?_
| refine zW rfl ?_
| refine krct ?_ ?_
| refine krC rfl aL ?_
| refine krB rfl ?_
| refine zR ?_
| refine g_ret ?_)
    all_goals rfl
noncomputable def naV (n : Int) (ops : List OpD) (p : List Int) : List Int := if tkB n ops p then natL n.toNat p else []
theorem inm_c (n : Int) (ops : List OpD) (p : List Int) (hs : szOk ops) (hp : p.length ≤ 1048576) : PCalls Tryz.prog 32 [algP n ops, ints p] (.tup [ints (naV n ops p), B (tkB n ops p)]) := by
  refine pcalls2 Tryz.func32 rfl Tryz.ntmps32 rfl ?_
  have h1 := iisct_c n ops p hs hp
  unfold naV
  simp only [List.length_cons, List.length_nil, Nat.reduceAdd, Nat.reduceSub, List.replicate_succ, List.replicate_zero, List.cons_append, List.nil_append]
  cases hb : tkB n ops p with
  | false =>
    rw [hb] at h1
    repeat' (first
| refine g_seq ?_
| refine zC ?_
| (refine o_go rfl ?_; (first
| refine p_p (zG rfl rfl aC (h1)) ?_
| refine p_p (zD rfl) ?_
| refine p_p (zA rfl) ?_
| refine p_p (ps_load_agg rfl rfl aL) ?_
| refine p_p (ps_not rfl rfl) ?_
| refine p_e rfl (e_lit0 rfl (by decide)) ?_
| refine p_p (ps_box rfl rfl) ?_); refine ⟨_, aB, ?_⟩)
| refine o_nil ?_
| refine zX rfl ?_
| refine kr2 ?_ ?_
| refine krB rfl ?_
| refine krS rfl ?_
| refine g_ret ?_)
    all_goals rfl
  | true =>
    rw [hb] at h1
    obtain ⟨m, rfl, hm0, hm8, h4, ho, hg, pt, cg⟩ := tkB_facts hb
    have h2 := inat_c m p (by omega) pt
    rw [if_pos rfl, Int.toNat_natCast]
    repeat' (first
| refine g_seq ?_
| refine zC ?_
| (refine o_go rfl ?_; (first
| refine p_p (zG rfl rfl aC (h1)) ?_
| refine p_p (zG rfl rfl aC (h2)) ?_
| refine p_p (zD rfl) ?_
| refine p_p (zA rfl) ?_
| refine p_p (ps_load_agg rfl rfl aL) ?_
| refine p_p (ps_not rfl rfl) ?_
| refine p_p (ps_box rfl rfl) ?_); refine ⟨_, aB, ?_⟩)
| refine o_nil ?_
| refine zW rfl ?_
| refine kr2 ?_ ?_
| refine krB rfl ?_
| refine krS rfl ?_
| refine zR ?_
| refine g_ret ?_)
    all_goals rfl
theorem snm_c (n : Int) (ops : List OpD) (p : List Int) (hs : szOk ops) (hp : p.length ≤ 1048576) : PCalls Tryz.prog 33 [algP n ops, ints p] (.tup [ints (naV n ops p), B (tkB n ops p)]) := by
  refine pcalls2 Tryz.func33 rfl Tryz.ntmps33 rfl ?_
  have h1 := stakes_c n ops p hs hp
  unfold naV
  simp only [List.length_cons, List.length_nil, Nat.reduceAdd, Nat.reduceSub, List.replicate_succ, List.replicate_zero, List.cons_append, List.nil_append]
  cases hb : tkB n ops p with
  | false =>
    rw [hb] at h1
    repeat' (first
| refine g_seq ?_
| refine zC ?_
| (refine o_go rfl ?_; (first
| refine p_p (zG rfl rfl aC (h1)) ?_
| refine p_p (zD rfl) ?_
| refine p_p (zA rfl) ?_
| refine p_p (ps_load_agg rfl rfl aL) ?_
| refine p_p (ps_not rfl rfl) ?_
| refine p_e rfl (e_lit0 rfl (by decide)) ?_
| refine p_p (ps_box rfl rfl) ?_); refine ⟨_, aB, ?_⟩)
| refine o_nil ?_
| refine zX rfl ?_
| refine kr2 ?_ ?_
| refine krB rfl ?_
| refine krS rfl ?_
| refine g_ret ?_)
    all_goals rfl
  | true =>
    rw [hb] at h1
    obtain ⟨m, rfl, hm0, hm8, h4, ho, hg, pt, cg⟩ := tkB_facts hb
    have h2 := snat_c m p (by omega) pt
    rw [if_pos rfl, Int.toNat_natCast]
    repeat' (first
| refine g_seq ?_
| refine zC ?_
| (refine o_go rfl ?_; (first
| refine p_p (zG rfl rfl aC (h1)) ?_
| refine p_p (zG rfl rfl aC (h2)) ?_
| refine p_p (zD rfl) ?_
| refine p_p (zA rfl) ?_
| refine p_p (ps_load_agg rfl rfl aL) ?_
| refine p_p (ps_not rfl rfl) ?_
| refine p_p (ps_box rfl rfl) ?_); refine ⟨_, aB, ?_⟩)
| refine o_nil ?_
| refine zW rfl ?_
| refine kr2 ?_ ?_
| refine krB rfl ?_
| refine krS rfl ?_
| refine zR ?_
| refine g_ret ?_)
    all_goals rfl
theorem sbel_c (n : Nat) (p q : List Int) (hn : n ≤ 1000) (hp : Pt n p) (hq : q.length = n) : PCalls Tryz.prog 145 [ints p, ints q] (B (fiB n p q)) := by
  refine pcalls1 Tryz.func145 rfl Tryz.ntmps145 rfl ?_
  simp only [List.length_cons, List.length_nil, Nat.reduceAdd, Nat.reduceSub, List.replicate_succ, List.replicate_zero, List.cons_append, List.nil_append]
  have hpl := hp.len
  repeat' (first
| refine g_seq ?_
| refine zJ ?_
| refine zC ?_
| (refine o_go rfl ?_; (first
| refine p_p (zA rfl) ?_); refine ⟨_, aB, ?_⟩)
| refine o_nil ?_)
  refine g_loopT (α := Nat) (fun i => [(5, I (i : Int))]) (fun _ => []) (fun i => i ≤ n ∧ ∀ y, y < i → q.getD (bk p y) 0 = q.getD y 0) (fun i => n - i) 0 aH ⟨Nat.zero_le _, fun j hj => absurd hj (Nat.not_lt_zero _)⟩ ⟨rfl, trivial⟩ rfl ?_
  rintro i ⟨hi, hno⟩
  dsimp only [zZ, List.set_cons_zero, List.set_cons_succ]
  by_cases hil : i < n
  · have hb := hp.lt hil
    have i1 := row_atY (p := p) (x := i) (by omega)
    rw [hp.val hil] at i1
    have i2 := row_atY (p := q) (x := bk p i) (by omega)
    have i3 := row_atY (p := q) (x := i) (by omega)
    have hql : (q.map I).length = n := by rw [List.length_map, hq]
    by_cases he : q.getD (bk p i) 0 = q.getD i 0
    · repeat' (first
| refine g_seq ?_
| refine zJ ?_
| refine zC ?_
| refine zP (by kernel_rfl) (by kernel_rfl) ?_
| (refine o_go rfl ?_; (first
| refine p_p (zN rfl rfl rfl (by omega) i1 (by exact rfl)) ?_
| refine p_p (zN rfl rfl rfl (by omega) i2 (by exact rfl)) ?_
| refine p_p (zN rfl rfl rfl (by omega) i3 (by exact rfl)) ?_
| refine p_p (zD rfl) ?_
| refine p_p (zA rfl) ?_
| refine p_p (zF rfl rfl) ?_
| refine p_p (zU rfl rfl rfl) ?_
| refine p_p (zS rfl rfl rfl) ?_
| refine p_p (ps_add rfl rfl rfl aO) ?_
| refine p_p (ps_neq rfl rfl rfl) ?_); refine ⟨_, aB, ?_⟩)
| refine o_nil ?_
| (refine g_condN rfl (fun hc => ?_) (fun hc => ?_) <;> try (exfalso; omega))
| (refine zK rfl (fun hc => ?_) (fun hc => ?_) <;> try (exfalso; omega))
| refine zR ?_)
      all_goals try (exfalso; first | omega | exact hc he)
      refine zT (i + 1) ⟨by omega, fun y hy => ?_⟩ (by omega) aI ⟨rfl, trivial⟩ (zM _)
      rcases Nat.lt_or_ge y i with h | h
      · exact hno y h
      · rw [show y = i by omega]; exact he
    · have hv : fiB n p q = false := by
        rw [Bool.eq_false_iff]
        intro h
        have := List.all_eq_true.1 h i (List.mem_range.2 hil)
        exact he (by simpa using this)
      rw [hv]
      repeat' (first
| refine g_seq ?_
| refine zJ ?_
| refine zC ?_
| refine zP (by kernel_rfl) (by kernel_rfl) ?_
| (refine o_go rfl ?_; (first
| refine p_p (zN rfl rfl rfl (by omega) i1 (by exact rfl)) ?_
| refine p_p (zN rfl rfl rfl (by omega) i2 (by exact rfl)) ?_
| refine p_p (zN rfl rfl rfl (by omega) i3 (by exact rfl)) ?_
| refine p_p (zD rfl) ?_
| refine p_p (zA rfl) ?_
| refine p_p (zF rfl rfl) ?_
| refine p_p (zU rfl rfl rfl) ?_
| refine p_p (zS rfl rfl rfl) ?_
| refine p_p (ps_neq rfl rfl rfl) ?_); refine ⟨_, aB, ?_⟩)
| refine o_nil ?_
| (refine g_condN rfl (fun hc => ?_) (fun hc => ?_) <;> try (exfalso; omega))
| (refine zK rfl (fun hc => ?_) (fun hc => ?_) <;> try (exfalso; omega))
| refine kr1 ?_
| refine krB rfl ?_
| refine zR ?_
| refine g_ret ?_)
      all_goals first | rfl | (exfalso; first | omega | exact he hc)
  · rw [show fiB n p q = true from List.all_eq_true.2 fun y hy => decide_eq_true (hno y (by have := List.mem_range.1 hy; omega))]
    repeat' (first
| refine g_seq ?_
| refine zC ?_
| (refine o_go rfl ?_; (first
| refine p_p (zD rfl) ?_
| refine p_p (zA rfl) ?_
| refine p_p (zU rfl rfl rfl) ?_
| refine p_p (zS rfl rfl rfl) ?_); refine ⟨_, aB, ?_⟩)
| refine o_nil ?_
| (refine zK rfl (fun hc => ?_) (fun hc => ?_) <;> try (exfalso; omega))
| refine kr1 ?_
| refine krB rfl ?_
| refine g_exit ?_
| refine g_ret ?_)
    all_goals first | rfl | (exfalso; omega)
noncomputable def caB (n : Int) (ops : List OpD) (p : List Int) : Bool := acB n ops && cgB n.toNat ops p
noncomputable def caV (n : Int) (ops : List OpD) (p : List Int) : List (List Int) := if caB n ops p then (allL n.toNat ops).filter (fiB n.toNat p) else []
theorem caV_bad {n : Int} {ops : List OpD} {p : List Int} (h : caB n ops p = false) : caV n ops p = [] := by unfold caV; rw [h]; rfl
theorem acB_alg {n : Int} {ops : List OpD} (h : acB n ops = true) : algOk n ops = true := by unfold acB at h; rw [Bool.and_eq_true] at h; exact h.1
theorem acB_len {n : Nat} {ops : List OpD} (h : acB (n : Int) ops = true) : (allL n ops).length ≤ 200 := by
  unfold acB at h; rw [Bool.and_eq_true, decide_eq_true_eq, Int.toNat_natCast] at h; exact h.2
theorem flt_succ {V : List (List Int)} {f : List Int → Bool} {i : Nat} (h : i < V.length) : (V.take (i + 1)).filter f = (V.take i).filter f ++ if f (V.getD i []) then [V.getD i []] else [] := by
  rw [take_snoc [] h, List.filter_append]
  congr 1
  rw [List.filter_cons, List.filter_nil]
theorem flt_len (V : List (List Int)) (f : List Int → Bool) (i : Nat) : ((V.take i).filter f).length ≤ i := Nat.le_trans (List.length_filter_le _ _) (by rw [List.length_take]; omega)
theorem icab_c (n : Int) (ops : List OpD) (p : List Int) (hs : szOk ops) (hp : p.length ≤ 1048576) : PCalls Tryz.prog 37 [algP n ops, ints p] (.tup [intss (caV n ops p), B (caB n ops p)]) := by
  refine pcalls2 Tryz.func37 rfl Tryz.ntmps37 rfl ?_
  have h1 := icongs_c n ops hs
  have hV : acB n ops = true → acV n ops = allL n.toNat ops := fun h => by unfold acV; rw [h, if_pos rfl]
  simp only [List.length_cons, List.length_nil, Nat.reduceAdd, Nat.reduceSub, List.replicate_succ, List.replicate_zero, List.cons_append, List.nil_append]
  cases ha : acB n ops with
  | false =>
    have hcb : caB n ops p = false := by unfold caB; rw [ha]; rfl
    rw [caV_bad hcb, hcb]
    rw [ha, if_neg Bool.false_ne_true] at h1
    repeat' (first
| refine g_seq ?_
| refine zC ?_
| (refine o_go rfl ?_; (first
| refine p_p (zG rfl rfl aC (h1)) ?_
| refine p_p (zD rfl) ?_
| refine p_p (zA rfl) ?_
| refine p_p (ps_load_agg rfl rfl aL) ?_
| refine p_p (ps_extract rfl rfl rfl) ?_
| refine p_p (ps_not rfl rfl) ?_
| refine p_p (zQ rfl rfl) ?_
| refine p_e rfl (e_lit0 rfl (by decide)) ?_
| refine p_p (ps_box rfl rfl) ?_); refine ⟨_, aB, ?_⟩)
| refine o_nil ?_
| (refine o_s rfl ?_; refine ⟨_, aB, ?_⟩)
| refine zX rfl ?_
| refine kr2 ?_ ?_
| refine krB rfl ?_
| refine krS rfl ?_
| refine g_ret ?_)
    all_goals rfl
  | true =>
    have hV := hV ha
    rw [ha, if_pos rfl, hV] at h1
    obtain ⟨m, rfl, hm0, hm8, h4, ho⟩ := algOk_facts (acB_alg ha)
    have h2 := iisc_c m ops p hm0 hm8 hs.1 ho hp
    have hcv : caB (m : Int) ops p = cgB m ops p := by unfold caB; rw [ha, Int.toNat_natCast]; rfl
    rw [Int.toNat_natCast] at h1
    have h200 := acB_len ha
    have hPt := fun q hq => (allL_mem (n := m) (ops := ops) (q := q)).1 hq |>.1
    cases hc' : cgB m ops p with
    | false =>
      rw [hc'] at h2 hcv
      rw [caV_bad hcv, hcv]
      repeat' (first
| refine g_seq ?_
| refine zC ?_
| (refine o_go rfl ?_; (first
| refine p_p (zG rfl rfl aC (h1)) ?_
| refine p_p (zG rfl rfl aC (h2)) ?_
| refine p_p (zD rfl) ?_
| refine p_p (zA rfl) ?_
| refine p_p (ps_load_agg rfl rfl aL) ?_
| refine p_p (ps_extract rfl rfl rfl) ?_
| refine p_p (ps_not rfl rfl) ?_
| refine p_p (zQ rfl rfl) ?_
| refine p_e rfl (e_lit0 rfl (by decide)) ?_
| refine p_p (ps_box rfl rfl) ?_); refine ⟨_, aB, ?_⟩)
| refine o_nil ?_
| refine zX rfl ?_
| refine kr2 ?_ ?_
| refine krB rfl ?_
| refine krS rfl ?_
| refine g_ret ?_)
      all_goals rfl
    | true =>
      rw [hc'] at h2 hcv
      obtain ⟨pt, cg⟩ := (cgB_iff hm0 ho).1 hc'
      have hve : caV (m : Int) ops p = (allL m ops).filter (fiB m p) := by unfold caV; rw [hcv, if_pos rfl, Int.toNat_natCast]
      rw [hve, hcv]
      generalize allL m ops = V at *
      repeat' (first
| refine g_seq ?_
| refine zJ ?_
| refine zC ?_
| (refine o_go rfl ?_; (first
| refine p_p (zG rfl rfl aC (h1)) ?_
| refine p_p (zG rfl rfl aC (h2)) ?_
| refine p_e rfl (e_lit0T rfl (by decide)) ?_
| refine p_p (zD rfl) ?_
| refine p_p (zA rfl) ?_
| refine p_p (ps_load_agg rfl rfl aL) ?_
| refine p_p (zU rfl rfl rfl) ?_
| refine p_p (ps_extract rfl rfl rfl) ?_
| refine p_p (ps_not rfl rfl) ?_
| refine p_p (zQ rfl rfl) ?_
| refine p_p (ps_box rfl rfl) ?_); refine ⟨_, aB, ?_⟩)
| refine o_nil ?_
| refine zW rfl ?_
| refine zR ?_)
      refine g_loopF (α := Nat) [25] (fun i => [(8, .hp 0), (28, I (i : Int))]) (fun i => [.arr true 1 34 (((V.take i).filter (fiB m p)).map ints)]) (fun i => i ≤ V.length) (fun i => V.length - i) 0 aH (Nat.zero_le _) ⟨rfl, rfl, trivial⟩ rfl ?_
      rintro i hi
      dsimp only [zZ, List.set_cons_zero, List.set_cons_succ]
      have hfl := flt_len V (fiB m p) i
      have hll : (((V.take i).filter (fiB m p)).map ints).length = ((V.take i).filter (fiB m p)).length := List.length_map ..
      by_cases hil : i < V.length
      · have ri := rows_at hil
        have h3 := ifiner_c m p (V.getD i []) (by omega) pt (hPt _ (rows_mem hil)).len
        have hsn := flt_succ (f := fiB m p) hil
        cases hf : fiB m p (V.getD i []) with
        | true =>
          rw [hf] at h3
          rw [hf, if_pos rfl] at hsn
          repeat' (first
| refine g_seq ?_
| refine zJ ?_
| refine zC ?_
| (refine o_go rfl ?_; (first
| refine p_p (zN rfl rfl rfl (by omega) ri (by exact rfl)) ?_
| refine p_p (zG rfl rfl aC (h3)) ?_
| refine p_e (by kernel_rfl) (e_append rfl rfl rfl rfl rfl rfl (one_one rfl) rfl (by rw [hll, n_len_c, n_len_n]; omega) (by rw [hll, n_len_c, n_len_n]; omega)) ?_
| refine p_p (zD rfl) ?_
| refine p_p (zA rfl) ?_
| refine p_p (zF rfl rfl) ?_
| refine p_p (zS rfl rfl rfl) ?_
| refine p_p (ps_add rfl rfl rfl aO) ?_
| refine p_p (ps_lit1 rfl rfl (by rfl) (by rfl)) ?_); refine ⟨_, aB, ?_⟩)
| refine o_nil ?_
| refine zX rfl ?_
| (refine zK rfl (fun hc => ?_) (fun hc => ?_) <;> try (exfalso; omega))
| refine zR ?_)
          all_goals try (exfalso; omega)
          exact zT (i + 1) (by omega) (by omega) aI ⟨rfl, rfl, trivial⟩ (zB (by rw [hsn, List.map_append]; rfl) (zM _))
        | false =>
          rw [hf] at h3
          rw [hf, if_neg Bool.false_ne_true, List.append_nil] at hsn
          repeat' (first
| refine g_seq ?_
| refine zJ ?_
| refine zC ?_
| (refine o_go rfl ?_; (first
| refine p_p (zN rfl rfl rfl (by omega) ri (by exact rfl)) ?_
| refine p_p (zG rfl rfl aC (h3)) ?_
| refine p_p (zD rfl) ?_
| refine p_p (zA rfl) ?_
| refine p_p (zF rfl rfl) ?_
| refine p_p (zS rfl rfl rfl) ?_
| refine p_p (ps_add rfl rfl rfl aO) ?_); refine ⟨_, aB, ?_⟩)
| refine o_nil ?_
| refine zW rfl ?_
| (refine zK rfl (fun hc => ?_) (fun hc => ?_) <;> try (exfalso; omega))
| refine zR ?_)
          all_goals try (exfalso; omega)
          exact zT (i + 1) (by omega) (by omega) aI ⟨rfl, rfl, trivial⟩ (zB (by rw [hsn]) (zM _))
      · rw [List.take_of_length_le (by omega)]
        repeat' (first
| refine g_seq ?_
| refine zC ?_
| (refine o_go rfl ?_; (first
| refine p_p (zD rfl) ?_
| refine p_p (zA rfl) ?_
| refine p_p (zS rfl rfl rfl) ?_); refine ⟨_, aB, ?_⟩)
| refine o_nil ?_
| (refine zK rfl (fun hc => ?_) (fun hc => ?_) <;> try (exfalso; omega))
| refine kr2 ?_ ?_
| refine krB rfl ?_
| refine krS rfl ?_
| refine g_exit ?_
| refine g_ret ?_)
        all_goals first | rfl | (exfalso; omega)
theorem scab_c (n : Int) (ops : List OpD) (p : List Int) (hs : szOk ops) (hp : p.length ≤ 1048576) : PCalls Tryz.prog 38 [algP n ops, ints p] (.tup [intss (caV n ops p), B (caB n ops p)]) := by
  refine pcalls2 Tryz.func38 rfl Tryz.ntmps38 rfl ?_
  have h1 := stakes_c n ops p hs hp
  have h2 := sfew_c n ops hs
  have hcv : caB n ops p = (tkB n ops p && acB n ops) := by
    unfold caB tkB
    cases ha : acB n ops with
    | false => simp
    | true => rw [acB_alg ha]; simp
  simp only [List.length_cons, List.length_nil, Nat.reduceAdd, Nat.reduceSub, List.replicate_succ, List.replicate_zero, List.cons_append, List.nil_append]
  cases hb : tkB n ops p with
  | false =>
    rw [hb, Bool.false_and] at hcv
    rw [hb] at h1
    rw [caV_bad hcv, hcv]
    repeat' (first
| refine g_seq ?_
| refine zC ?_
| (refine o_go rfl ?_; (first
| refine p_p (zG rfl rfl aC (h1)) ?_
| refine p_p (zD rfl) ?_
| refine p_p (zA rfl) ?_
| refine p_p (ps_load_agg rfl rfl aL) ?_
| refine p_p (ps_not rfl rfl) ?_
| refine p_p (zQ rfl rfl) ?_
| refine p_e rfl (e_lit0 rfl (by decide)) ?_
| refine p_p (ps_box rfl rfl) ?_); refine ⟨_, aB, ?_⟩)
| refine o_nil ?_
| (refine o_s rfl ?_; refine ⟨_, aB, ?_⟩)
| refine zX rfl ?_
| refine kr2 ?_ ?_
| refine krB rfl ?_
| refine krS rfl ?_
| refine g_ret ?_)
    all_goals rfl
  | true =>
    rw [hb, Bool.true_and] at hcv
    rw [hb] at h1
    cases ha : acB n ops with
    | false =>
      rw [ha] at h2 hcv
      rw [caV_bad hcv, hcv]
      repeat' (first
| refine g_seq ?_
| refine zC ?_
| (refine o_go rfl ?_; (first
| refine p_p (zG rfl rfl aC (h1)) ?_
| refine p_p (zG rfl rfl aC (h2)) ?_
| refine p_p (zD rfl) ?_
| refine p_p (zA rfl) ?_
| refine p_p (ps_load_agg rfl rfl aL) ?_
| refine p_p (ps_not rfl rfl) ?_
| refine p_p (zQ rfl rfl) ?_
| refine p_e rfl (e_lit0 rfl (by decide)) ?_
| refine p_p (ps_box rfl rfl) ?_); refine ⟨_, aB, ?_⟩)
| refine o_nil ?_
| refine zX rfl ?_
| refine kr2 ?_ ?_
| refine krB rfl ?_
| refine krS rfl ?_
| refine g_ret ?_)
      all_goals rfl
    | true =>
      rw [ha] at h2 hcv
      obtain ⟨m, rfl, hm0, hm8, h4, ho, hg, pt, cg⟩ := tkB_facts hb
      have h200 := acB_len ha
      have hPt := fun q hq => (allL_mem (n := m) (ops := ops) (q := q)).1 hq |>.1
      have h5 := sallC_c m ops hm0 hm8 hs.1 ho (by omega)
      have hve : caV (m : Int) ops p = (allL m ops).filter (fiB m p) := by unfold caV; rw [hcv, if_pos rfl, Int.toNat_natCast]
      rw [hve, hcv]
      generalize allL m ops = V at *
      repeat' (first
| refine g_seq ?_
| refine zJ ?_
| refine zC ?_
| (refine o_go rfl ?_; (first
| refine p_p (zG rfl rfl aC (h1)) ?_
| refine p_p (zG rfl rfl aC (h2)) ?_
| refine p_p (zG rfl rfl aC (h5)) ?_
| refine p_e rfl (e_lit0T rfl (by decide)) ?_
| refine p_p (zD rfl) ?_
| refine p_p (zA rfl) ?_
| refine p_p (ps_load_agg rfl rfl aL) ?_
| refine p_p (ps_not rfl rfl) ?_
| refine p_p (zQ rfl rfl) ?_
| refine p_p (ps_box rfl rfl) ?_); refine ⟨_, aB, ?_⟩)
| refine o_nil ?_
| refine zW rfl ?_
| refine zR ?_)
      refine g_loopF (α := Nat) [9] (fun i => [(6, .hp 0), (8, I (i : Int))]) (fun i => [.arr true 1 34 (((V.take i).filter (fiB m p)).map ints)]) (fun i => i ≤ V.length) (fun i => V.length - i) 0 aH (Nat.zero_le _) ⟨rfl, rfl, trivial⟩ rfl ?_
      rintro i hi
      dsimp only [zZ, List.set_cons_zero, List.set_cons_succ]
      have hfl := flt_len V (fiB m p) i
      have hll : (((V.take i).filter (fiB m p)).map ints).length = ((V.take i).filter (fiB m p)).length := List.length_map ..
      by_cases hil : i < V.length
      · have ri := rows_at hil
        have h3 := sbel_c m p (V.getD i []) (by omega) pt (hPt _ (rows_mem hil)).len
        have hsn := flt_succ (f := fiB m p) hil
        cases hf : fiB m p (V.getD i []) with
        | true =>
          rw [hf] at h3
          rw [hf, if_pos rfl] at hsn
          repeat' (first
| refine g_seq ?_
| refine zJ ?_
| refine zC ?_
| (refine o_go rfl ?_; (first
| refine p_p (zN rfl rfl rfl (by omega) ri (by exact rfl)) ?_
| refine p_p (zG rfl rfl aC (h3)) ?_
| refine p_e (by kernel_rfl) (e_append rfl rfl rfl rfl rfl rfl (one_one rfl) rfl (by rw [hll, n_len_c, n_len_n]; omega) (by rw [hll, n_len_c, n_len_n]; omega)) ?_
| refine p_p (zD rfl) ?_
| refine p_p (zA rfl) ?_
| refine p_p (zF rfl rfl) ?_
| refine p_p (zU rfl rfl rfl) ?_
| refine p_p (zS rfl rfl rfl) ?_
| refine p_p (ps_add rfl rfl rfl aO) ?_
| refine p_p (ps_lit1 rfl rfl (by rfl) (by rfl)) ?_); refine ⟨_, aB, ?_⟩)
| refine o_nil ?_
| refine zX rfl ?_
| (refine zK rfl (fun hc => ?_) (fun hc => ?_) <;> try (exfalso; omega))
| refine zR ?_)
          all_goals try (exfalso; omega)
          exact zT (i + 1) (by omega) (by omega) aI ⟨rfl, rfl, trivial⟩ (zB (by rw [hsn, List.map_append]; rfl) (zM _))
        | false =>
          rw [hf] at h3
          rw [hf, if_neg Bool.false_ne_true, List.append_nil] at hsn
          repeat' (first
| refine g_seq ?_
| refine zJ ?_
| refine zC ?_
| (refine o_go rfl ?_; (first
| refine p_p (zN rfl rfl rfl (by omega) ri (by exact rfl)) ?_
| refine p_p (zG rfl rfl aC (h3)) ?_
| refine p_p (zD rfl) ?_
| refine p_p (zA rfl) ?_
| refine p_p (zF rfl rfl) ?_
| refine p_p (zU rfl rfl rfl) ?_
| refine p_p (zS rfl rfl rfl) ?_
| refine p_p (ps_add rfl rfl rfl aO) ?_); refine ⟨_, aB, ?_⟩)
| refine o_nil ?_
| refine zW rfl ?_
| (refine zK rfl (fun hc => ?_) (fun hc => ?_) <;> try (exfalso; omega))
| refine zR ?_)
          all_goals try (exfalso; omega)
          exact zT (i + 1) (by omega) (by omega) aI ⟨rfl, rfl, trivial⟩ (zB (by rw [hsn]) (zM _))
      · rw [List.take_of_length_le (by omega)]
        repeat' (first
| refine g_seq ?_
| refine zC ?_
| (refine o_go rfl ?_; (first
| refine p_p (zD rfl) ?_
| refine p_p (zA rfl) ?_
| refine p_p (zU rfl rfl rfl) ?_
| refine p_p (zS rfl rfl rfl) ?_); refine ⟨_, aB, ?_⟩)
| refine o_nil ?_
| (refine zK rfl (fun hc => ?_) (fun hc => ?_) <;> try (exfalso; omega))
| refine kr2 ?_ ?_
| refine krB rfl ?_
| refine krS rfl ?_
| refine g_exit ?_
| refine g_ret ?_)
        all_goals first | rfl | (exfalso; omega)
theorem com_lft (n : Nat) (p q : List Int) : comL (natL n p) q = lftV n p q := by
  unfold comL natL lftV
  rw [List.map_map]
  exact List.map_congr_left fun x _ => by simp
theorem com_psh (n : Nat) (p q : List Int) : comL (lsI p n) q = pshV n p q := by
  unfold comL lsI pshV
  rw [List.map_map]
  exact List.map_congr_left fun x _ => by show q.getD ((x : Nat) : Int).toNat 0 = q.getD x 0; rw [Int.toNat_natCast]
theorem ilift_c (m : Nat) (ops : List OpD) (p q : List Int) (hs : szOk ops) (hb : tkB (m : Int) ops p = true) (hsq : (quoL m p ops).length ≤ 1048576) (hq : Pt (lstN p m).length q) (cq : Cong (lstN p m).length (quoL m p ops) q) : PCalls Tryz.prog 39 [algP m ops, ints p, ints q] (.tup [ints (liftP m p q), B true]) := by
  obtain ⟨m', hmm, hm0, hm8, h4, ho, hg, pt, cg⟩ := tkB_facts hb
  obtain rfl : m' = m := by omega
  clear hmm
  have hpl := pt.len
  have hql := hq.len
  have hkn := lstN_le p m'
  have h1 := iisct_c m' ops p hs (by omega)
  rw [hb] at h1
  have h2 := iquo_c m' ops p hm0 hm8 hs.1 ho pt
  have hk0 := lst_pos pt hm0
  have hqi := quo_in hm0 pt ho
  have h3 := iisc_c (lstN p m').length (quoL m' p ops) q hk0 (by omega) hsq hqi (by omega)
  rw [(cgB_iff hk0 hqi).2 ⟨hq, cq⟩] at h3
  have h5 := inat_c m' p (by omega) pt
  have h6 := compose_c (natL m' p) q (by rw [nat_len]; omega) (by omega) (fun x hx => by
    obtain ⟨y, hy, rfl⟩ := List.mem_map.1 hx
    have := nm_lt pt (List.mem_range.1 hy)
    omega)
  rw [com_lft] at h6
  have h7 : PCalls Tryz.prog 142 [ints (lftV m' p q)] (ints (liftP m' p q)) := rcalls_P rfl (kernel_R _ (by simp [lftV]; omega))
  refine pcalls2 Tryz.func39 rfl Tryz.ntmps39 rfl ?_
  simp only [List.length_cons, List.length_nil, Nat.reduceAdd, Nat.reduceSub, List.replicate_succ, List.replicate_zero, List.cons_append, List.nil_append]
  repeat' (first
| refine g_seq ?_
| refine zC ?_
| (refine o_go rfl ?_; (first
| refine p_p (zG rfl rfl aC (h1)) ?_
| refine p_p (zG rfl rfl aC (h2)) ?_
| refine p_p (zG rfl rfl aC (h3)) ?_
| refine p_p (zG rfl rfl aC (h5)) ?_
| refine p_p (zG rfl rfl aC (h6)) ?_
| refine p_p (zG rfl rfl aC (h7)) ?_
| refine p_p (zD rfl) ?_
| refine p_p (zA rfl) ?_
| refine p_p (ps_load_agg rfl rfl aL) ?_
| refine p_p (ps_not rfl rfl) ?_
| refine p_p (zQ rfl rfl) ?_
| refine p_p (ps_box rfl rfl) ?_); refine ⟨_, aB, ?_⟩)
| refine o_nil ?_
| refine zW rfl ?_
| refine kr2 ?_ ?_
| refine krB rfl ?_
| refine krS rfl ?_
| refine zR ?_
| refine g_ret ?_)
  all_goals rfl
theorem ipush_c (m : Nat) (ops : List OpD) (p r : List Int) (hs : szOk ops) (hb : tkB (m : Int) ops p = true) (hr : Pt m r) (cr : Cong m ops r) (hf : Fi m p r) : PCalls Tryz.prog 40 [algP m ops, ints p, ints r] (.tup [ints (pushP m p r), B true]) := by
  obtain ⟨m', hmm, hm0, hm8, h4, ho, hg, pt, cg⟩ := tkB_facts hb
  obtain rfl : m' = m := by omega
  clear hmm
  have hpl := pt.len
  have hrl := hr.len
  have hkn := lstN_le p m'
  have h1 := iisct_c m' ops p hs (by omega)
  rw [hb] at h1
  have h3 := iisc_c m' ops r hm0 (by omega) hs.1 ho (by omega)
  rw [(cgB_iff hm0 ho).2 ⟨hr, cr⟩] at h3
  have h4 := ifiner_c m' p r (by omega) pt hrl
  rw [(fiB_iff pt hr).2 hf] at h4
  have h5 := ileast_c m' p (by omega) pt
  have h6 := compose_c (lsI p m') r (by rw [lsI_len]; omega) (by omega) (fun x hx => by
    obtain ⟨y, hy, rfl⟩ := List.mem_map.1 hx
    have := (lstN_mem.1 hy).1
    omega)
  rw [com_psh] at h6
  have h7 : PCalls Tryz.prog 142 [ints (pshV m' p r)] (ints (pushP m' p r)) := rcalls_P rfl (kernel_R _ (by simp [pshV]; omega))
  refine pcalls2 Tryz.func40 rfl Tryz.ntmps40 rfl ?_
  simp only [List.length_cons, List.length_nil, Nat.reduceAdd, Nat.reduceSub, List.replicate_succ, List.replicate_zero, List.cons_append, List.nil_append]
  repeat' (first
| refine g_seq ?_
| refine zC ?_
| (refine o_go rfl ?_; (first
| refine p_p (zG rfl rfl aC (h1)) ?_
| refine p_p (zG rfl rfl aC (h3)) ?_
| refine p_p (zG rfl rfl aC (h4)) ?_
| refine p_p (zG rfl rfl aC (h5)) ?_
| refine p_p (zG rfl rfl aC (h6)) ?_
| refine p_p (zG rfl rfl aC (h7)) ?_
| refine p_p (zD rfl) ?_
| refine p_p (zA rfl) ?_
| refine p_p (ps_load_agg rfl rfl aL) ?_
| refine p_p (ps_not rfl rfl) ?_
| refine p_p (zQ rfl rfl) ?_
| refine p_p (ps_box rfl rfl) ?_); refine ⟨_, aB, ?_⟩)
| refine o_nil ?_
| refine zW rfl ?_
| refine kr2 ?_ ?_
| refine krB rfl ?_
| refine krS rfl ?_
| refine zR ?_
| refine g_ret ?_)
  all_goals rfl
end Go.Proofs.YtembaiccchgllaaGreat
