/- The law of Pixley terms, walked. -/
import Derived.Test.YtlgfniaakjchgaaGreatLHr
import Derived.Test.YtlgfniaakjchgaaGreatLHq
import Derived.Test.YtlgfniaakjchgaaGreatLHm
import Derived.Test.YtlgfniaakjchgaaGreatLNo
import Derived.Test.YtlgfniaakjchgaaGreatLNg
namespace Go.Pv
open Go
attribute [local semireducible] Go.Pv.PStep
section
variable {P : Program} {o : Oper} {ev : Operand → PV} {hp : List HO}
theorem ps_gtrT {t rt : TypeId} {x y : Operand} {a b : Int} {k : IntKind} (ho : o.op = .binOp .gtr t x y rt) (h1 : ev x = .val (.int k a)) (h2 : ev y = .val (.int k b)) (h : b < a) : PStep P o ev hp (B true) := by
  have := ps_gtr (P := P) (hp := hp) ho h1 h2; rwa [decide_eq_true h] at this
theorem ps_gtrF {t rt : TypeId} {x y : Operand} {a b : Int} {k : IntKind} (ho : o.op = .binOp .gtr t x y rt) (h1 : ev x = .val (.int k a)) (h2 : ev y = .val (.int k b)) (h : ¬ b < a) : PStep P o ev hp (B false) := by
  have := ps_gtr (P := P) (hp := hp) ho h1 h2; rwa [decide_eq_false h] at this
theorem ps_lssT {t rt : TypeId} {x y : Operand} {a b : Int} {k : IntKind} (ho : o.op = .binOp .lss t x y rt) (h1 : ev x = .val (.int k a)) (h2 : ev y = .val (.int k b)) (h : a < b) : PStep P o ev hp (B true) := by
  have := zS (P := P) (hp := hp) ho h1 h2; rwa [decide_eq_true h] at this
theorem ps_lssF {t rt : TypeId} {x y : Operand} {a b : Int} {k : IntKind} (ho : o.op = .binOp .lss t x y rt) (h1 : ev x = .val (.int k a)) (h2 : ev y = .val (.int k b)) (h : ¬ a < b) : PStep P o ev hp (B false) := by
  have := zS (P := P) (hp := hp) ho h1 h2; rwa [decide_eq_false h] at this
theorem ps_neqBV {t rt : TypeId} [ht : BoolT P t] {x y : Operand} {a b c : Bool} (ho : o.op = .binOp .neq t x y rt) (h1 : ev x = B a) (h2 : ev y = B b) (h : (a != b) = c) : PStep P o ev hp (B c) := by
  have := ps_neqB (P := P) (hp := hp) (ht := ht) ho h1 h2; rwa [h] at this
theorem ps_eqlBV {t rt : TypeId} [ht : BoolT P t] {x y : Operand} {a b c : Bool} (ho : o.op = .binOp .eql t x y rt) (h1 : ev x = B a) (h2 : ev y = B b) (h : (a == b) = c) : PStep P o ev hp (B c) := by
  have := ps_eqlB (P := P) (hp := hp) (ht := ht) ho h1 h2; rwa [h] at this
theorem ps_neqIS {t rt : TypeId} {x y : Operand} {a : Int} {k : IntKind} (ho : o.op = .binOp .neq t x y rt) (h1 : ev x = .val (.int k a)) (h2 : ev y = .val (.int k a)) : PStep P o ev hp (B false) := by
  have := ps_neq (P := P) (hp := hp) ho h1 h2; rwa [decide_eq_true rfl, Bool.not_true] at this
theorem j_alloc {t : TypeId} {zs : List Value} [hz : ZeroT P t zs] (ho : o.op = .alloc t) : JStep P o ev hp (some hp.length) (killH hp.length hp ++ [.box (zs.map .val)]) (.hat hp.length 0) := fun fr _ => e_alloc (S := ⟨fr, hp⟩) (hz := hz) ho
end
end Go.Pv
namespace Go.Proofs.YtlgfniaakjchgaaGreat
open Go Go.Pv Go.Proofs
set_option maxHeartbeats 32000000
set_option maxRecDepth 100000
attribute [local bitvec_to_nat] St.put St.setObj St.ev killP killA killP1 killH mapHO renP renA ren1 killG killGA killG1 krowP krowA krow1 lendP lendA lend1 unv pinP pin1 elemsM viewM viewN viewV n_set_z n_set_s n_map_c n_map_n getD_z getD_s n_toNat n_cond_t n_cond_f n_len_c n_len_n n_app_c n_app_n n_take_s n_take_z n_drop_s n_drop_z n_get_z n_get_s view viewA view1 elems Nat.zero_add Nat.add_zero Bool.not_true Bool.not_false Nat.one_ne_zero Nat.mul_one

theorem rbig_c (l : List Int) (hl : l.length ≤ 9223372036854775807) : PCalls Tryz.prog 4 [bytesP l] (B (decide (65536 < (l.length : Int)))) := by
  refine pcalls1 Tryz.func4 rfl Tryz.ntmps4 rfl ?_
  simp only [List.length_cons, List.length_nil, Nat.reduceAdd, Nat.reduceSub, List.replicate_succ, List.replicate_zero, List.cons_append, List.nil_append]
  repeat' (first
| refine g_seq ?_
| refine zC ?_
| (refine o_go rfl ?_; (first
| refine p_p (zD rfl) ?_
| refine p_p (zA rfl) ?_
| refine p_p (zU rfl rfl rfl) ?_
| refine p_p (ps_gtr rfl rfl rfl) ?_); refine ⟨_, aB, ?_⟩)
| refine o_nil ?_
| refine kr1 ?_
| refine krB rfl ?_
| refine g_ret ?_)
  rfl
theorem rints_c (xs ys : List Int) (hl : xs.length ≤ 9223372036854775807) (_hm : ys.length ≤ 9223372036854775807) : PCalls Tryz.prog 35 [ints xs, ints ys] (B (decide (xs = ys))) := by
  refine pcalls1 Tryz.func35 rfl Tryz.ntmps35 rfl ?_
  simp only [List.length_cons, List.length_nil, Nat.reduceAdd, Nat.reduceSub, List.replicate_succ, List.replicate_zero, List.cons_append, List.nil_append]
  repeat' (first
| refine g_seq ?_
| refine zJ ?_
| refine zC ?_
| (refine o_go rfl ?_; (first
| refine p_p (zD rfl) ?_
| refine p_p (zA rfl) ?_
| refine p_p (zU rfl rfl rfl) ?_
| refine p_p (ps_neq rfl rfl rfl) ?_); refine ⟨_, aB, ?_⟩)
| refine o_nil ?_
| (refine g_condN rfl (fun hc => ?_) (fun hc => ?_) <;> try (exfalso; omega))
| refine kr1 ?_
| refine krB rfl ?_
| refine zR ?_
| refine g_ret ?_)
  · exact Eq.symm (decide_eq_false fun e => hc (by rw [e]))
  have hlen : xs.length = ys.length := by omega
  refine g_loopT (α := Nat) (fun k => [(5, I k)]) (fun _ => []) (fun k => k ≤ xs.length ∧ xs.take k = ys.take k) (fun k => xs.length - k) 0 aH ⟨Nat.zero_le _, by simp⟩ ⟨rfl, trivial⟩ rfl ?_
  clear hc
  rintro k ⟨hk, hno⟩
  dsimp only [zZ, List.set_cons_zero, List.set_cons_succ]
  repeat' (first
| refine g_seq ?_
| refine zJ ?_
| refine zC ?_
| refine zP (by kernel_rfl) (by kernel_rfl) ?_
| (refine o_go rfl ?_; (first
| refine p_p (zD rfl) ?_
| refine p_p (zA rfl) ?_
| refine p_p (zF rfl rfl) ?_
| refine p_p (zN rfl rfl rfl (by omega) aR (by exact rfl)) ?_
| refine p_p (zU rfl rfl rfl) ?_
| refine p_p (zS rfl rfl rfl) ?_
| refine p_p (ps_add rfl rfl rfl aN) ?_
| refine p_p (ps_neq rfl rfl rfl) ?_); refine ⟨_, aB, ?_⟩)
| refine o_nil ?_
| (refine g_condN rfl (fun hc => ?_) (fun hc => ?_) <;> try (exfalso; omega))
| (refine zK rfl (fun hc => ?_) (fun hc => ?_) <;> try (exfalso; omega))
| refine kr1 ?_
| refine krB rfl ?_
| refine zR ?_
| refine g_exit ?_
| refine g_ret ?_)
  · exact Eq.symm (decide_eq_false (eq_at (k := k) 0 hc))
  · refine zT (k + 1) ⟨by omega, ?_⟩ (by omega) aI ⟨rfl, trivial⟩ (zM _)
    rw [take_snoc 0 (by omega), take_snoc 0 (by omega), hno, hc]
  · rw [(take_full hk hc).1, show k = ys.length by omega, List.take_length] at hno
    exact Eq.symm (decide_eq_true hno)
theorem rop_c (f g : OpD) (hf : f.tb.length ≤ 9223372036854775807) (hg : g.tb.length ≤ 9223372036854775807) : PCalls Tryz.prog 14 [opP f, opP g] (B (decide (f = g))) := by
  refine pcalls1 Tryz.func14 rfl Tryz.ntmps14 rfl ?_
  simp only [List.length_cons, List.length_nil, Nat.reduceAdd, Nat.reduceSub, List.replicate_succ, List.replicate_zero, List.cons_append, List.nil_append]
  have h1 := rints_c f.tb g.tb hf hg
  obtain ⟨fa, ft⟩ := f
  obtain ⟨ga, gt⟩ := g
  dsimp only at *
  by_cases ha : fa = ga
  · by_cases ht : ft = gt
    · rw [decide_eq_true ht] at h1
      rw [decide_eq_true (by rw [ha, ht])]
      repeat' (first
| refine g_seq ?_
| refine zC ?_
| (refine o_go rfl ?_; (first
| refine p_p (zG rfl rfl aC (h1)) ?_
| refine p_p (zD rfl) ?_
| refine p_p (zA rfl) ?_
| refine p_p (zF rfl rfl) ?_
| refine p_p (zL rfl rfl) ?_
| refine p_p (zQ rfl rfl) ?_
| refine p_p (ps_eql rfl rfl rfl) ?_
| refine p_p (ps_box rfl rfl) ?_); refine ⟨_, aB, ?_⟩)
| refine o_nil ?_
| (refine o_splitD rfl rfl rfl (fun hc => ?_) (fun hc => ?_) <;> first | (exfalso; omega) | dsimp only [List.set_cons_zero, List.set_cons_succ])
| refine kr1 ?_
| refine krB rfl ?_
| refine g_ret ?_)
      all_goals first | rfl | (exfalso; omega)
    · rw [decide_eq_false ht] at h1
      rw [decide_eq_false (by intro e; cases e; exact ht rfl)]
      repeat' (first
| refine g_seq ?_
| refine zC ?_
| (refine o_go rfl ?_; (first
| refine p_p (zG rfl rfl aC (h1)) ?_
| refine p_p (zD rfl) ?_
| refine p_p (zA rfl) ?_
| refine p_p (zF rfl rfl) ?_
| refine p_p (zL rfl rfl) ?_
| refine p_p (zQ rfl rfl) ?_
| refine p_p (ps_eql rfl rfl rfl) ?_
| refine p_p (ps_box rfl rfl) ?_); refine ⟨_, aB, ?_⟩)
| refine o_nil ?_
| (refine o_splitD rfl rfl rfl (fun hc => ?_) (fun hc => ?_) <;> first | (exfalso; omega) | dsimp only [List.set_cons_zero, List.set_cons_succ])
| refine kr1 ?_
| refine krB rfl ?_
| refine g_ret ?_)
      all_goals first | rfl | (exfalso; omega)
  · rw [decide_eq_false (by intro e; cases e; exact ha rfl)]
    repeat' (first
| refine g_seq ?_
| refine zC ?_
| (refine o_go rfl ?_; (first
| refine p_p (zD rfl) ?_
| refine p_p (zA rfl) ?_
| refine p_p (zF rfl rfl) ?_
| refine p_p (zL rfl rfl) ?_
| refine p_p (zQ rfl rfl) ?_
| refine p_p (ps_eql rfl rfl rfl) ?_
| refine p_p (ps_box rfl rfl) ?_); refine ⟨_, aB, ?_⟩)
| refine o_nil ?_
| (refine o_s rfl ?_; refine ⟨_, aB, ?_⟩)
| (refine o_splitD rfl rfl rfl (fun hc => ?_) (fun hc => ?_) <;> first | (exfalso; omega) | dsimp only [List.set_cons_zero, List.set_cons_succ])
| refine kr1 ?_
| refine krB rfl ?_
| refine g_ret ?_)
    all_goals first | rfl | (exfalso; omega)
theorem rops_c (L : List OpD) (hl : L.length ≤ 9223372036854775807) (hr : ∀ f ∈ L, f.tb.length ≤ 9223372036854775807) : PCalls Tryz.prog 8 [opsP L, opsP L] (B true) := by
  refine pcalls1 Tryz.func8 rfl Tryz.ntmps8 rfl ?_
  simp only [List.length_cons, List.length_nil, Nat.reduceAdd, Nat.reduceSub, List.replicate_succ, List.replicate_zero, List.cons_append, List.nil_append]
  repeat' (first
| refine g_seq ?_
| refine zJ ?_
| refine zC ?_
| (refine o_go rfl ?_; (first
| refine p_p (zD rfl) ?_
| refine p_p (zA rfl) ?_
| refine p_p (zU rfl rfl rfl) ?_
| refine p_p (ps_neq rfl rfl rfl) ?_); refine ⟨_, aB, ?_⟩)
| refine o_nil ?_
| (refine g_condN rfl (fun hc => ?_) (fun hc => ?_) <;> try (exfalso; omega))
| refine zR ?_)
  all_goals try (exfalso; omega)
  refine g_loopT (α := Nat) (fun k => [(5, I k)]) (fun _ => []) (fun k => k ≤ L.length) (fun k => L.length - k) 0 aH (Nat.zero_le _) ⟨rfl, trivial⟩ rfl ?_
  rintro k hk
  dsimp only [zZ, List.set_cons_zero, List.set_cons_succ]
  by_cases hkl : k < L.length
  · have hq := ops_at hkl
    have h1 := rop_c (L.getD k default) (L.getD k default) (hr _ (ops_mem hkl)) (hr _ (ops_mem hkl))
    rw [decide_eq_true rfl] at h1
    repeat' (first
| refine g_seq ?_
| refine zJ ?_
| refine zC ?_
| refine zP (by kernel_rfl) (by kernel_rfl) ?_
| (refine o_go rfl ?_; (first
| refine p_p (zN rfl rfl rfl (by omega) hq (by exact rfl)) ?_
| refine p_p (zG rfl rfl aC (h1)) ?_
| refine p_p (zD rfl) ?_
| refine p_p (zA rfl) ?_
| refine p_p (ps_load_agg rfl rfl aK) ?_
| refine p_p (zU rfl rfl rfl) ?_
| refine p_p (zS rfl rfl rfl) ?_
| refine p_p (ps_add rfl rfl rfl aN) ?_
| refine p_p (ps_not rfl rfl) ?_); refine ⟨_, aB, ?_⟩)
| refine o_nil ?_
| refine zW rfl ?_
| (refine zK rfl (fun hc => ?_) (fun hc => ?_) <;> try (exfalso; omega))
| refine zR ?_)
    all_goals try (exfalso; omega)
    exact zT (k + 1) (by omega) (by omega) aI ⟨rfl, trivial⟩ (zM _)
  · repeat' (first
| refine g_seq ?_
| refine zC ?_
| (refine o_go rfl ?_; (first
| refine p_p (zD rfl) ?_
| refine p_p (zA rfl) ?_
| refine p_p (zU rfl rfl rfl) ?_
| refine p_p (zS rfl rfl rfl) ?_); refine ⟨_, aB, ?_⟩)
| refine o_nil ?_
| (refine zK rfl (fun hc => ?_) (fun hc => ?_) <;> try (exfalso; omega))
| refine kr1 ?_
| refine krB rfl ?_
| refine g_exit ?_
| refine g_ret ?_)
    all_goals first | rfl | (exfalso; omega)

theorem tmV_none {q : Nat → List Int → Bool} {n : Int} {ops : List OpD} (h : clT n ops = none) : tmV q n ops = ([], false) := by unfold tmV; rw [h]
theorem tmV_some {q : Nat → List Int → Bool} {n : Int} {ops : List OpD} {T : List (List Int)} (h : clT n ops = some T) : tmV q n ops = (opsC T (likeL T fun g => q n.toNat (T.getD g [])), true) := by unfold tmV; rw [h]
theorem opsC_mem {T : List (List Int)} {q : Nat → Bool} {f : OpD} (h : f ∈ opsC T (likeL T q)) : ∃ g, g < T.length ∧ q g = true ∧ f = ⟨3, T.getD g []⟩ := by
  obtain ⟨g, hg, rfl⟩ := List.mem_map.1 h
  obtain ⟨h1, h2⟩ := like_lt hg
  exact ⟨g, h1, h2, rfl⟩
theorem opsC_of {T : List (List Int)} {q : List Int → Bool} {t : List Int} (h : t ∈ T) (hq : q t = true) : (⟨3, t⟩ : OpD) ∈ opsC T (likeL T fun g => q (T.getD g [])) := by
  obtain ⟨g, hg, rfl⟩ := List.getElem_of_mem h
  have e : T.getD g [] = T[g] := by rw [List.getD_eq_getElem?_getD, List.getElem?_eq_getElem hg]; rfl
  refine List.mem_map.2 ⟨g, List.mem_filter.2 ⟨List.mem_range.2 hg, by rw [e]; exact hq⟩, by rw [e]⟩
theorem opsC_small {n : Nat} {ops : List OpD} {T : List (List Int)} (hC : CT n ops T) (q : Nat → Bool) : (opsC T (likeL T q)).length ≤ 60 ∧ ∀ f ∈ opsC T (likeL T q), f.tb.length ≤ 27 := by
  refine ⟨?_, fun f hf => ?_⟩
  · rw [opsC_len]; exact Nat.le_trans (like_len _ _) hC.len
  · obtain ⟨g, hg, -, rfl⟩ := opsC_mem hf
    rw [(hC.row _ (getD_mem0 hg)).1]; exact hC.cube
theorem opOk_T {n : Nat} {ops : List OpD} {T : List (List Int)} (hC : CT n ops T) {t : List Int} (ht : t ∈ T) : opOk n ⟨3, t⟩ = true := by
  obtain ⟨h1, h2⟩ := hC.row t ht
  unfold opOk
  simp only [Bool.and_eq_true, decide_eq_true_eq]
  refine ⟨by decide, h1, List.all_eq_true.2 fun x hx => ?_⟩
  have := h2 x hx
  simp only [Bool.not_eq_true', Bool.or_eq_false_iff, decide_eq_false_iff_not]
  omega
def fndB (L : List OpD) (f : OpD) (k : Nat) : Bool := (List.range k).any fun i => decide (L.getD i default = f)
theorem fndB_succ (L : List OpD) (f : OpD) (k : Nat) : fndB L f (k + 1) = (fndB L f k || decide (L.getD k default = f)) := by
  unfold fndB; rw [List.range_succ, List.any_append]; simp
theorem fndB_full {L : List OpD} {f : OpD} (h : f ∈ L) : fndB L f L.length = true := by
  obtain ⟨g, hg, rfl⟩ := List.getElem_of_mem h
  exact List.any_eq_true.2 ⟨g, List.mem_range.2 hg, decide_eq_true (by rw [List.getD_eq_getElem?_getD, List.getElem?_eq_getElem hg]; rfl)⟩
theorem pix_t42 (l : List Int) (n' : Nat) (f' g' : OpD) (hn' : n' ≤ 9) (hf' : f'.tb.length ≤ 27) (hg' : g'.tb.length ≤ 27) (d2 : PCalls Tryz.prog 17 [bytesP l] (.tup [I (n' : Int), opP f', opP g'])) :
    Goal Tryz.prog (tailAt 42 (bodyC Tryz.f3)) (KRets [2] [B true]) ⟨zZ (List.replicate 271 .any) [(0, bytesP l)], []⟩ := by
  conv => arg 2; whnf
  simp only [List.replicate_succ, List.replicate_zero]
  dsimp only [zZ, List.set_cons_zero, List.set_cons_succ]
  have p1 := ipf_c n' f' g' (by omega) (by omega) (by omega)
  have p2 := spf_c n' f' g' (by omega) (by omega) (by omega)
  have hpl : (pfV n' f' g').tb.length ≤ 1048576 := by
    unfold pfV
    split
    · show (pixL _ _ _).length ≤ _
      rw [com3_len]; exact Nat.le_trans (Nat.pow_le_pow_left hn' 3) (by decide)
    · exact Nat.zero_le _
  have p3 := rop_c (pfV n' f' g') (pfV n' f' g') (by omega) (by omega)
  rw [decide_eq_true rfl] at p3
  generalize pfV n' f' g' = U at *
  generalize pfB n' f' g' = ub at *
  repeat' (first
| refine g_seq ?_
| refine zC ?_
| (refine o_go rfl ?_; (first
| refine p_p (zG rfl rfl aC (d2)) ?_
| refine p_p (zG rfl rfl aC (p1)) ?_
| refine p_p (zG rfl rfl aC (p2)) ?_
| refine p_p (zG rfl rfl aC (p3)) ?_
| refine p_p (ps_eqlBV rfl rfl rfl (by exact beq_self_eq_true _)) ?_
| refine p_p (zD rfl) ?_
| refine p_p (zA rfl) ?_
| refine p_p (ps_extract rfl rfl rfl) ?_
| refine p_p (zQ rfl rfl) ?_
| refine p_p (zY rfl rfl rfl aK) ?_
| refine p_e rfl (zO rfl rfl rfl rfl aK rfl rfl rfl) ?_
| refine p_e rfl (e_alloc rfl) ?_); refine ⟨_, aB, ?_⟩)
| refine o_nil ?_
| refine kr1 ?_
| refine krB rfl ?_
| refine g_ret ?_)
  all_goals rfl
theorem pix_t36 (l : List Int) (m : Nat) (ops M J : List OpD) (x y z : Int) (hM : M.length ≤ 60) (hJ : J.length ≤ 60) (b1 : PCalls Tryz.prog 15 [algP m ops] (.tup [I x, I y, I z, B true])) (b2 : PCalls Tryz.prog 16 [algP m ops] (.tup [I x, I y, I z, B true]))
    (w3 : 0 < J.length → (0 ≤ x ∧ x ≤ 2) ∧ (0 ≤ z ∧ z ≤ 1)) (w4 : 0 < M.length → 0 ≤ y ∧ y ≤ 2) (h42 : Goal Tryz.prog (tailAt 42 (bodyC Tryz.f3)) (KRets [2] [B true]) ⟨zZ (List.replicate 271 .any) [(0, bytesP l)], []⟩) :
    Goal Tryz.prog (tailAt 36 (bodyC Tryz.f3)) (KRets [2] [B true]) ⟨zZ (List.replicate 271 .any) [(0, bytesP l), (3, .hat 0 0), (4, opsP M), (8, opsP J)], [.box [I (m : Int), opsP ops]]⟩ := by
  conv => arg 2; whnf
  simp only [List.replicate_succ, List.replicate_zero]
  dsimp only [zZ, List.set_cons_zero, List.set_cons_succ]
  simp only [List.replicate_succ, List.replicate_zero] at h42
  dsimp only [zZ, List.set_cons_zero, List.set_cons_succ] at h42
  repeat' ((fail_if_success (refine at_reg 40 ?_)); (first
| refine g_seq ?_
| refine zC ?_
| (refine o_go rfl ?_; (first
| refine p_p (zG rfl rfl aC (b1)) ?_
| refine p_p (zG rfl rfl aC (b2)) ?_
| refine p_p (ps_neqBV rfl rfl rfl (by rfl)) ?_
| refine p_p (ps_neqIS rfl rfl rfl) ?_
| refine p_p (zD rfl) ?_
| refine p_p (zA rfl) ?_
| refine p_p (ps_extract rfl rfl rfl) ?_
| refine p_p (ps_not rfl rfl) ?_
| refine p_p (zQ rfl rfl) ?_
| refine p_p (zY rfl rfl rfl aK) ?_); refine ⟨_, aB, ?_⟩)
| refine o_nil ?_
| refine zW rfl ?_
| refine zR ?_))
  by_cases jM : 0 < M.length
  · obtain ⟨y0, y1⟩ := w4 jM
    by_cases jJ : 0 < J.length
    · obtain ⟨⟨x0, x1⟩, z0, z1⟩ := w3 jJ
      clear w3 w4
      repeat' ((fail_if_success (refine at_reg1 42 ?_)); (first
| refine g_seq ?_
| refine zC ?_
| (refine o_go rfl ?_; (first
| refine p_p (ps_gtrT rfl rfl rfl (by omega)) ?_
| refine p_p (ps_gtrF rfl rfl rfl (by omega)) ?_
| refine p_p (ps_lssF rfl rfl rfl (by omega)) ?_
| refine p_p (zD rfl) ?_
| refine p_p (zU rfl rfl rfl) ?_
| refine p_p (zQ rfl rfl) ?_); refine ⟨_, aB, ?_⟩)
| refine o_nil ?_
| refine zW rfl ?_
| refine zR ?_))
      refine at_reg1 42 ?_
      exact g_tail rfl ⟨aI, zM _⟩ h42
    · clear w3 w4
      repeat' ((fail_if_success (refine at_reg1 42 ?_)); (first
| refine g_seq ?_
| refine zC ?_
| (refine o_go rfl ?_; (first
| refine p_p (ps_gtrT rfl rfl rfl (by omega)) ?_
| refine p_p (ps_gtrF rfl rfl rfl (by omega)) ?_
| refine p_p (ps_lssF rfl rfl rfl (by omega)) ?_
| refine p_p (zD rfl) ?_
| refine p_p (zU rfl rfl rfl) ?_
| refine p_p (zQ rfl rfl) ?_); refine ⟨_, aB, ?_⟩)
| refine o_nil ?_
| (refine o_s rfl ?_; refine ⟨_, aB, ?_⟩)
| refine zW rfl ?_
| refine zR ?_))
      refine at_reg1 42 ?_
      exact g_tail rfl ⟨aI, zM _⟩ h42
  · by_cases jJ : 0 < J.length
    · obtain ⟨⟨x0, x1⟩, z0, z1⟩ := w3 jJ
      clear w3 w4
      repeat' ((fail_if_success (refine at_reg1 42 ?_)); (first
| refine g_seq ?_
| refine zC ?_
| (refine o_go rfl ?_; (first
| refine p_p (ps_gtrT rfl rfl rfl (by omega)) ?_
| refine p_p (ps_gtrF rfl rfl rfl (by omega)) ?_
| refine p_p (ps_lssF rfl rfl rfl (by omega)) ?_
| refine p_p (zD rfl) ?_
| refine p_p (zU rfl rfl rfl) ?_
| refine p_p (zQ rfl rfl) ?_); refine ⟨_, aB, ?_⟩)
| refine o_nil ?_
| (refine o_s rfl ?_; refine ⟨_, aB, ?_⟩)
| refine zW rfl ?_
| refine zR ?_))
      refine at_reg1 42 ?_
      exact g_tail rfl ⟨aI, zM _⟩ h42
    · clear w3 w4
      repeat' ((fail_if_success (refine at_reg1 42 ?_)); (first
| refine g_seq ?_
| refine zC ?_
| (refine o_go rfl ?_; (first
| refine p_p (ps_gtrF rfl rfl rfl (by omega)) ?_
| refine p_p (zD rfl) ?_
| refine p_p (zU rfl rfl rfl) ?_
| refine p_p (zQ rfl rfl) ?_); refine ⟨_, aB, ?_⟩)
| refine o_nil ?_
| (refine o_s rfl ?_; refine ⟨_, aB, ?_⟩)
| refine zW rfl ?_
| refine zR ?_))
      refine at_reg1 42 ?_
      exact g_tail rfl ⟨aI, zM _⟩ h42
theorem pix_t20 (l : List Int) (m : Nat) (ops M J Q : List OpD) (hM : M.length ≤ 60) (hJ : J.length ≤ 60) (hQ : Q.length ≤ 60) (w5 : ∀ i k, i < M.length → k < J.length → ∃ u, u ∈ Q ∧ u.tb.length ≤ 27 ∧ PCalls Tryz.prog 13 [I (m : Int), opP (M.getD i default), opP (J.getD k default)] (.tup [opP u, B true]))
    (w6 : ∀ u : OpD, u.tb.length ≤ 27 → ∀ q, q < Q.length → PCalls Tryz.prog 14 [opP (Q.getD q default), opP u] (B (decide (Q.getD q default = u)))) (h36 : Goal Tryz.prog (tailAt 36 (bodyC Tryz.f3)) (KRets [2] [B true]) ⟨zZ (List.replicate 271 .any) [(0, bytesP l), (3, .hat 0 0), (4, opsP M), (8, opsP J)], [.box [I (m : Int), opsP ops]]⟩) :
    Goal Tryz.prog (tailAt 20 (bodyC Tryz.f3)) (KRets [2] [B true]) ⟨zZ (List.replicate 271 .any) [(0, bytesP l), (3, .hat 0 0), (4, opsP M), (8, opsP J), (12, opsP Q)], [.box [I (m : Int), opsP ops]]⟩ := by
  conv => arg 2; whnf
  simp only [List.replicate_succ, List.replicate_zero]
  dsimp only [zZ, List.set_cons_zero, List.set_cons_succ]
  simp only [List.replicate_succ, List.replicate_zero] at h36
  dsimp only [zZ, List.set_cons_zero, List.set_cons_succ] at h36
  repeat' (first
| refine g_seq ?_
| refine zJ ?_
| refine zC ?_
| (refine o_go rfl ?_; (first
| refine p_p (zA rfl) ?_); refine ⟨_, aB, ?_⟩)
| refine o_nil ?_)
  refine g_loopT (α := Nat) (fun i => [(16, I (i : Int))]) (fun _ => [.box [I (m : Int), opsP ops]]) (fun i => i ≤ M.length) (fun i => M.length - i) 0 aH (Nat.zero_le _) ⟨rfl, trivial⟩ rfl ?_
  rintro i hi
  dsimp only [zZ, List.set_cons_zero, List.set_cons_succ]
  by_cases h1 : i < M.length
  · by_cases h2 : i < 4
    · repeat' (first
| refine g_seq ?_
| refine zJ ?_
| refine zC ?_
| (refine o_go rfl ?_; (first
| refine p_p (ps_lssT rfl rfl rfl (by omega)) ?_
| refine p_p (zD rfl) ?_
| refine p_p (zA rfl) ?_
| refine p_p (zU rfl rfl rfl) ?_
| refine p_p (zQ rfl rfl) ?_); refine ⟨_, aB, ?_⟩)
| refine o_nil ?_
| refine zX rfl ?_
| refine zR ?_)
      refine g_loopT (α := Nat) (fun k => [(17, I (k : Int))]) (fun _ => [.box [I (m : Int), opsP ops]]) (fun k => k ≤ J.length) (fun k => J.length - k) 0 aH (Nat.zero_le _) ⟨rfl, trivial⟩ rfl ?_
      rintro k hk
      dsimp only [zZ, List.set_cons_zero, List.set_cons_succ]
      by_cases h3 : k < J.length
      · by_cases h4 : k < 4
        · obtain ⟨u, hu, hul, hpf⟩ := w5 i k h1 h3
          have x1 := ops_at h1
          have x2 := ops_at h3
          repeat' (first
| refine g_seq ?_
| refine zJ ?_
| refine zC ?_
| (refine o_go rfl ?_; (first
| refine p_p (ps_lssT rfl rfl rfl (by omega)) ?_
| refine p_p (zD rfl) ?_
| refine p_p (zU rfl rfl rfl) ?_
| refine p_p (zQ rfl rfl) ?_); refine ⟨_, aB, ?_⟩)
| refine o_nil ?_
| refine zX rfl ?_
| refine zR ?_)
          refine g_region_drawZ [(0, some [1]), (1, some [1]), (2, some [1]), (3, some [1]), (4, some [1]), (5, some [1]), (6, some [1]), (7, some [1]), (8, some [1]), (9, some [1]), (10, some [1]), (11, some [1]), (12, some [1]), (13, some [1]), (14, none), (15, none), (16, none)] [(14, 1), (15, 1)] (fun hp => hp[0]? = some (.box [I (m : Int), opsP ops])) (by kernel_rfl) rfl (by kernel_rfl) ?_
          repeat' (first
| refine z_nil ?_
| ((first
| refine zV rfl rfl (fun hp hH => zH rfl rfl hH rfl) aJ aD (by decide) aA ?_
| refine zV rfl rfl (fun hp hH => zN rfl rfl rfl (by omega) x1 (by exact rfl)) aJ aD (by decide) aA ?_
| refine zV rfl rfl (fun hp hH => zN rfl rfl rfl (by omega) x2 (by exact rfl)) aJ aD (by decide) aA ?_
| refine zV rfl rfl (fun hp hH => zG rfl rfl aC (hpf)) aJ aS (by decide) aA ?_
| refine zV rfl rfl (fun _ _ => zD rfl) aJ aD (by decide) aA ?_
| refine zV rfl rfl (fun _ _ => ps_load_agg rfl rfl aK) aJ aD (by decide) aA ?_
| refine zV rfl rfl (fun _ _ => ps_extract rfl rfl rfl) aJ aD (by decide) aA ?_
| refine zV rfl rfl (fun _ _ => zE rfl rfl) aJ aD (by decide) aA ?_
| refine z_eff rfl rfl aG (j_alloc rfl) aF ?_
| refine z_eff rfl rfl aG (j_store_boxA rfl rfl rfl rfl aK rfl rfl rfl) aF ?_
| refine z_eff rfl rfl aG (j_pure (zA rfl)) aF ?_); refine ⟨_, aQ, ?_⟩))
          repeat' ((fail_if_success (refine at_reg 30 ?_)); (first
| refine g_seq ?_
| refine zC ?_
| (refine o_go rfl ?_; (first
| refine p_p (zD rfl) ?_
| refine p_p (zA rfl) ?_
| refine p_p (ps_not rfl rfl) ?_); refine ⟨_, aB, ?_⟩)
| refine o_nil ?_
| refine zW rfl ?_
| refine zR ?_))
          refine g_join [] [(20, B true)] [.box [I (m : Int), opsP ops], .box [I u.ar, ints u.tb]] aH ?_ ⟨_, rfl, ?_⟩
          · repeat' (first
| refine g_seq ?_
| refine zJ ?_
| refine zC ?_
| (refine o_go rfl ?_; (first
| refine p_p (zA rfl) ?_); refine ⟨_, aB, ?_⟩)
| refine o_nil ?_)
            refine g_loopT (α := Nat) (fun q => [(20, B (fndB Q u q)), (21, I (q : Int))]) (fun _ => [.box [I (m : Int), opsP ops], .box [I u.ar, ints u.tb]]) (fun q => q ≤ Q.length) (fun q => Q.length - q) 0 aH (Nat.zero_le _) ⟨rfl, rfl, trivial⟩ rfl ?_
            rintro q hq
            dsimp only [zZ, List.set_cons_zero, List.set_cons_succ]
            by_cases h5 : q < Q.length
            · have x3 := ops_at h5
              have hrop := w6 u hul q h5
              have hs := fndB_succ Q u q
              cases hf : fndB Q u q
              · rw [hf, Bool.false_or] at hs
                repeat' (first
| refine g_seq ?_
| refine zJ ?_
| refine zC ?_
| refine zP (by kernel_rfl) (by kernel_rfl) ?_
| (refine o_go rfl ?_; (first
| refine p_p (ps_lssT rfl rfl rfl (by omega)) ?_
| refine p_p (zN rfl rfl rfl (by omega) x3 (by exact rfl)) ?_
| refine p_p (zG rfl rfl aC (hrop)) ?_
| refine p_p (zD rfl) ?_
| refine p_p (zA rfl) ?_
| refine p_p (ps_load_agg rfl rfl aK) ?_
| refine p_p (zU rfl rfl rfl) ?_
| refine p_p (ps_add rfl rfl rfl aN) ?_
| refine p_p (zQ rfl rfl) ?_
| refine p_p (zY rfl rfl rfl aK) ?_); refine ⟨_, aB, ?_⟩)
| refine o_nil ?_
| refine zX rfl ?_
| refine zR ?_)
                exact zT (q + 1) (by omega) (by omega) aI ⟨by rw [hs]; rfl, rfl, trivial⟩ (zB rfl (zB rfl (zM _)))
              · rw [hf, Bool.true_or] at hs
                repeat' (first
| refine g_seq ?_
| refine zJ ?_
| refine zC ?_
| refine zP (by kernel_rfl) (by kernel_rfl) ?_
| (refine o_go rfl ?_; (first
| refine p_p (ps_lssT rfl rfl rfl (by omega)) ?_
| refine p_p (zD rfl) ?_
| refine p_p (zA rfl) ?_
| refine p_p (zU rfl rfl rfl) ?_
| refine p_p (ps_add rfl rfl rfl aN) ?_
| refine p_p (zQ rfl rfl) ?_); refine ⟨_, aB, ?_⟩)
| refine o_nil ?_
| (refine o_s rfl ?_; refine ⟨_, aB, ?_⟩)
| refine zX rfl ?_
| refine zR ?_)
                exact zT (q + 1) (by omega) (by omega) aI ⟨by rw [hs]; rfl, rfl, trivial⟩ (zB rfl (zB rfl (zM _)))
            · obtain rfl : q = Q.length := by omega
              rw [fndB_full hu]
              repeat' (first
| refine g_seq ?_
| refine zC ?_
| (refine o_go rfl ?_; (first
| refine p_p (ps_lssF rfl rfl rfl (by omega)) ?_
| refine p_p (zD rfl) ?_
| refine p_p (zU rfl rfl rfl) ?_); refine ⟨_, aB, ?_⟩)
| refine o_nil ?_
| refine zW rfl ?_
| refine g_exit ?_)
              change St.le _ _
              exact ⟨aI, zB rfl (zB rfl (zM _))⟩
          dsimp only [zZ, List.set_cons_zero, List.set_cons_succ]
          repeat' (first
| refine g_seq ?_
| refine zC ?_
| (refine o_go rfl ?_; (first
| refine p_p (zD rfl) ?_
| refine p_p (zA rfl) ?_
| refine p_p (ps_add rfl rfl rfl aN) ?_
| refine p_p (ps_not rfl rfl) ?_); refine ⟨_, aB, ?_⟩)
| refine o_nil ?_
| refine zW rfl ?_
| refine zR ?_)
          exact zT (k + 1) (by omega) (by omega) aI ⟨rfl, trivial⟩ (zB rfl (zM _))
        · repeat' (first
| refine g_seq ?_
| refine zC ?_
| (refine o_go rfl ?_; (first
| refine p_p (ps_lssT rfl rfl rfl (by omega)) ?_
| refine p_p (ps_lssF rfl rfl rfl (by omega)) ?_
| refine p_p (zD rfl) ?_
| refine p_p (zA rfl) ?_
| refine p_p (zU rfl rfl rfl) ?_
| refine p_p (ps_add rfl rfl rfl aN) ?_
| refine p_p (zQ rfl rfl) ?_); refine ⟨_, aB, ?_⟩)
| refine o_nil ?_
| refine zW rfl ?_
| refine g_exit ?_)
          exact zT (i + 1) (by omega) (by omega) aI ⟨rfl, trivial⟩ (zB rfl (zM _))
      · repeat' (first
| refine g_seq ?_
| refine zC ?_
| (refine o_go rfl ?_; (first
| refine p_p (ps_lssF rfl rfl rfl (by omega)) ?_
| refine p_p (zD rfl) ?_
| refine p_p (zA rfl) ?_
| refine p_p (zU rfl rfl rfl) ?_
| refine p_p (ps_add rfl rfl rfl aN) ?_
| refine p_p (zQ rfl rfl) ?_); refine ⟨_, aB, ?_⟩)
| refine o_nil ?_
| (refine o_s rfl ?_; refine ⟨_, aB, ?_⟩)
| refine zW rfl ?_
| refine g_exit ?_)
        exact zT (i + 1) (by omega) (by omega) aI ⟨rfl, trivial⟩ (zB rfl (zM _))
    · repeat' ((fail_if_success (refine at_reg1 36 ?_)); (first
| refine g_seq ?_
| refine zC ?_
| (refine o_go rfl ?_; (first
| refine p_p (ps_lssT rfl rfl rfl (by omega)) ?_
| refine p_p (ps_lssF rfl rfl rfl (by omega)) ?_
| refine p_p (zD rfl) ?_
| refine p_p (zU rfl rfl rfl) ?_
| refine p_p (zQ rfl rfl) ?_); refine ⟨_, aB, ?_⟩)
| refine o_nil ?_
| refine zW rfl ?_
| refine g_exit ?_))
      refine at_reg1 36 ?_
      exact g_tail rfl ⟨aI, zB rfl (zM _)⟩ h36
  · repeat' ((fail_if_success (refine at_reg1 36 ?_)); (first
| refine g_seq ?_
| refine zC ?_
| (refine o_go rfl ?_; (first
| refine p_p (ps_lssF rfl rfl rfl (by omega)) ?_
| refine p_p (zD rfl) ?_
| refine p_p (zU rfl rfl rfl) ?_
| refine p_p (zQ rfl rfl) ?_); refine ⟨_, aB, ?_⟩)
| refine o_nil ?_
| (refine o_s rfl ?_; refine ⟨_, aB, ?_⟩)
| refine zW rfl ?_
| refine g_exit ?_))
    refine at_reg1 36 ?_
    exact g_tail rfl ⟨aI, zB rfl (zM _)⟩ h36
theorem law_pix (l : List Int) (hl : l.length ≤ maxLen) (hby : ∀ i, i < l.length → 0 ≤ l.getD i 0 ∧ l.getD i 0 ≤ 255) : PCalls Tryz.prog 3 [bytesP l] (B true) := by
  refine pcalls1 Tryz.func3 rfl Tryz.ntmps3 rfl ?_
  simp only [List.length_cons, List.length_nil, Nat.reduceAdd, Nat.reduceSub, List.replicate_succ, List.replicate_zero, List.cons_append, List.nil_append]
  have hv := rbig_c l (Nat.le_trans hl (by decide))
  by_cases hbig : 65536 < (l.length : Int)
  · rw [decide_eq_true hbig] at hv
    repeat' (first
| refine g_seq ?_
| refine zC ?_
| (refine o_go rfl ?_; (first
| refine p_p (zG rfl rfl aC (hv)) ?_
| refine p_p (zD rfl) ?_
| refine p_p (zA rfl) ?_); refine ⟨_, aB, ?_⟩)
| refine o_nil ?_
| refine zX rfl ?_
| refine kr1 ?_
| refine krB rfl ?_
| refine g_ret ?_)
    all_goals rfl
  rw [decide_eq_false hbig] at hv
  have hB : bytesOk l := ⟨by omega, hby⟩
  obtain ⟨n, ops, hsm, d1⟩ := drawPT_c hB
  obtain ⟨n', f', g', hn', hf', hg', d2⟩ := drawPF_c hB
  have ho := hsm.ok
  have a1 := imalT_c n ops ho
  have a2 := smalT_c n ops ho
  have a3 := imajT_c n ops ho
  have a4 := smajT_c n ops ho
  have a5 := ipixT_c n ops ho
  have a6 := spixT_c n ops ho
  cases hV : clT n ops with
  | none =>
    rw [tmV_none hV] at a1 a2 a3 a4 a5 a6
    have v1 := rops_c [] (by decide) (by simp)
    repeat' (first
| refine g_seq ?_
| refine zC ?_
| (refine o_go rfl ?_; (first
| refine p_p (zG rfl rfl aC (hv)) ?_
| refine p_p (zG rfl rfl aC (d1)) ?_
| refine p_p (zG rfl rfl aC (a1)) ?_
| refine p_p (zG rfl rfl aC (a2)) ?_
| refine p_p (zG rfl rfl aC (a3)) ?_
| refine p_p (zG rfl rfl aC (a4)) ?_
| refine p_p (zG rfl rfl aC (a5)) ?_
| refine p_p (zG rfl rfl aC (a6)) ?_
| refine p_p (zG rfl rfl aC (v1)) ?_
| refine p_p (ps_neqBV rfl rfl rfl (by rfl)) ?_
| refine p_p (zD rfl) ?_
| refine p_p (zA rfl) ?_
| refine p_p (ps_extract rfl rfl rfl) ?_
| refine p_p (ps_not rfl rfl) ?_
| refine p_p (zQ rfl rfl) ?_
| refine p_p (zY rfl rfl rfl aK) ?_
| refine p_e rfl (zO rfl rfl rfl rfl aK rfl rfl rfl) ?_
| refine p_e rfl (e_alloc rfl) ?_); refine ⟨_, aB, ?_⟩)
| refine o_nil ?_
| refine zX rfl ?_
| refine zW rfl ?_
| refine kr1 ?_
| refine krB rfl ?_
| refine zR ?_
| refine g_ret ?_)
    all_goals rfl
  | some T =>
    obtain ⟨m, rfl, hg, ⟨E, hE, hTE⟩, hC⟩ := clT_some hV
    have hG : ∀ t ∈ T, GenT m ops t := by rw [← hTE]; exact gen_clone hE
    rw [tmV_some hV, Int.toNat_natCast] at a1 a2 a3 a4 a5 a6
    have b1 := ilens_c m ops ho
    have b2 := slens_c m ops ho
    have hcl : clV (m : Int) ops = [I (olen (dS m T)), I (olen (pS m T)), I (dlen (rS m T)), B true] := by unfold clV; rw [hV]; rfl
    rw [hcl] at b1 b2
    have sM := opsC_small hC fun g => malB m (T.getD g [])
    have sJ := opsC_small hC fun g => majB m (T.getD g [])
    have sP := opsC_small hC fun g => pixB m (T.getD g [])
    have mM := fun f (h : f ∈ opsC T (likeL T fun g => malB m (T.getD g []))) => opsC_mem h
    have mJ := fun f (h : f ∈ opsC T (likeL T fun g => majB m (T.getD g []))) => opsC_mem h
    have mP := fun f (h : f ∈ opsC T (likeL T fun g => pixB m (T.getD g []))) => opsC_mem h
    have hfP := fun t (h1 : t ∈ T) (h2 : pixB m t = true) => opsC_of h1 h2
    have hfM := fun t (h1 : t ∈ T) (h2 : malB m t = true) => opsC_of h1 h2
    have hfJ := fun t (h1 : t ∈ T) (h2 : majB m t = true) => opsC_of h1 h2
    dsimp only at a1 a2 a3 a4 a5 a6
    generalize opsC T (likeL T fun g => malB m (T.getD g [])) = M at *
    generalize opsC T (likeL T fun g => majB m (T.getD g [])) = J at *
    generalize opsC T (likeL T fun g => pixB m (T.getD g [])) = Q at *
    have v1 := rops_c M (by omega) (fun f h => Nat.le_trans (sM.2 f h) (by decide))
    have v2 := rops_c J (by omega) (fun f h => Nat.le_trans (sJ.2 f h) (by decide))
    have v3 := rops_c Q (by omega) (fun f h => Nat.le_trans (sP.2 f h) (by decide))
    have w1 : 0 < M.length → 0 < J.length → 0 < Q.length := fun h1 h2 => by
      obtain ⟨g, hg1, hg2, -⟩ := mM _ (List.getElem_mem h1)
      obtain ⟨k, hk1, hk2, -⟩ := mJ _ (List.getElem_mem h2)
      exact List.length_pos_of_mem (hfP _ (pix_mem hC hG (getD_mem0 hg1) (getD_mem0 hk1)) (pix_of hC (getD_mem0 hg1) hg2 hk2))
    have w2 : 0 < Q.length → 0 < M.length ∧ 0 < J.length := fun h => by
      obtain ⟨g, hg1, hg2, -⟩ := mP _ (List.getElem_mem h)
      obtain ⟨e1, e2⟩ := maj_of hC (getD_mem0 hg1) hg2
      exact ⟨List.length_pos_of_mem (hfM _ (getD_mem0 hg1) e1), List.length_pos_of_mem (hfJ _ (pix_mem hC hG (getD_mem0 hg1) (getD_mem0 hg1)) e2)⟩
    have w3 : 0 < J.length → (0 ≤ olen (dS m T) ∧ olen (dS m T) ≤ 2) ∧ (0 ≤ dlen (rS m T) ∧ dlen (rS m T) ≤ 1) := fun h => by
      obtain ⟨g, hg1, hg2, -⟩ := mJ _ (List.getElem_mem h)
      exact ⟨dS_short hC hg1 hg2, rS_short hC hg1 hg2⟩
    have w4 : 0 < M.length → 0 ≤ olen (pS m T) ∧ olen (pS m T) ≤ 2 := fun h => by
      obtain ⟨g, hg1, hg2, -⟩ := mM _ (List.getElem_mem h)
      exact pS_short hC hg1 hg2
    have hm8 : m ≤ 3 := hC.n3
    have w5 : ∀ i k, i < M.length → k < J.length → ∃ u, u ∈ Q ∧ u.tb.length ≤ 27 ∧ PCalls Tryz.prog 13 [I (m : Int), opP (M.getD i default), opP (J.getD k default)] (.tup [opP u, B true]) := fun i k hi hk => by
      obtain ⟨g, hg1, hg2, e1⟩ := mM _ (ops_mem hi)
      obtain ⟨q, hq1, hq2, e2⟩ := mJ _ (ops_mem hk)
      have hb : pfB m (M.getD i default) (J.getD k default) = true := by
        rw [e1, e2]; unfold pfB
        rw [inB_iff.2 ⟨by have := hC.n0; omega, by omega⟩, opOk_T hC (getD_mem0 hg1), opOk_T hC (getD_mem0 hq1)]; rfl
      have hc := ipf_c m (M.getD i default) (J.getD k default) (by omega) (by rw [e1]; exact Nat.le_trans (by rw [(hC.row _ (getD_mem0 hg1)).1]; exact hC.cube) (by decide)) (by rw [e2]; exact Nat.le_trans (by rw [(hC.row _ (getD_mem0 hq1)).1]; exact hC.cube) (by decide))
      rw [pfV_t hb, hb, e1, e2] at hc
      have hmem := pix_mem hC hG (getD_mem0 hg1) (getD_mem0 hq1)
      refine ⟨_, hfP _ hmem (pix_of hC (getD_mem0 hg1) hg2 hq2), ?_, by rw [e1, e2]; exact hc⟩
      show (pixL m _ _).length ≤ 27
      rw [(hC.row _ hmem).1]; exact hC.cube
    have w6 : ∀ u, u.tb.length ≤ 27 → ∀ q, q < Q.length → PCalls Tryz.prog 14 [opP (Q.getD q default), opP u] (B (decide (Q.getD q default = u))) := fun u hu q hq => rop_c _ _ (Nat.le_trans (sP.2 _ (ops_mem hq)) (by decide)) (Nat.le_trans hu (by decide))
    obtain ⟨sM1, -⟩ := sM
    obtain ⟨sJ1, -⟩ := sJ
    obtain ⟨sP1, -⟩ := sP
    generalize olen (dS m T) = x at *
    generalize olen (pS m T) = y at *
    generalize dlen (rS m T) = z at *
    clear hE hTE hG hg mM mJ mP hfP hfM hfJ hcl
    have sLen : Q.length ≤ 60 := sP1
    have nb : ∀ a b : Bool, (a = true ↔ b = true) → (a != b) = false := by decide
    have nq : (decide (0 < (J.length : Int)) != decide (0 < (Q.length : Int))) = false ∨ ¬ 0 < M.length := by
      by_cases jM : 0 < M.length
      · refine .inl (nb _ _ ?_)
        rw [decide_eq_true_iff, decide_eq_true_iff]
        exact ⟨fun h => by have := w1 jM (by omega); omega, fun h => by have := (w2 (by omega)).2; omega⟩
      · exact .inr jM
    repeat' ((fail_if_success (refine at_reg 18 ?_)); (first
| refine g_seq ?_
| refine zC ?_
| (refine o_go rfl ?_; (first
| refine p_p (zG rfl rfl aC (hv)) ?_
| refine p_p (zG rfl rfl aC (d1)) ?_
| refine p_p (zG rfl rfl aC (a1)) ?_
| refine p_p (zG rfl rfl aC (a2)) ?_
| refine p_p (zG rfl rfl aC (a3)) ?_
| refine p_p (zG rfl rfl aC (a4)) ?_
| refine p_p (zG rfl rfl aC (a5)) ?_
| refine p_p (zG rfl rfl aC (a6)) ?_
| refine p_p (zG rfl rfl aC (v1)) ?_
| refine p_p (zG rfl rfl aC (v2)) ?_
| refine p_p (zG rfl rfl aC (v3)) ?_
| refine p_p (ps_neqBV rfl rfl rfl (by rfl)) ?_
| refine p_p (zD rfl) ?_
| refine p_p (zA rfl) ?_
| refine p_p (ps_extract rfl rfl rfl) ?_
| refine p_p (ps_not rfl rfl) ?_
| refine p_p (zQ rfl rfl) ?_
| refine p_p (zY rfl rfl rfl aK) ?_
| refine p_e rfl (zO rfl rfl rfl rfl aK rfl rfl rfl) ?_
| refine p_e rfl (e_alloc rfl) ?_); refine ⟨_, aB, ?_⟩)
| refine o_nil ?_
| refine zW rfl ?_
| refine zR ?_))
    have h20 := pix_t20 l m ops M J Q sM1 sJ1 sP1 w5 w6 (pix_t36 l m ops M J x y z sM1 sJ1 b1 b2 w3 w4 (pix_t42 l n' f' g' hn' hf' hg' d2))
    simp only [List.replicate_succ, List.replicate_zero] at h20
    dsimp only [zZ, List.set_cons_zero, List.set_cons_succ] at h20
    clear w3 w4 w5 w6
    rcases nq with nq | nq
    · by_cases jM : 0 < M.length
      · repeat' ((fail_if_success (refine at_reg 20 ?_)); (first
| refine g_seq ?_
| refine zC ?_
| (refine o_go rfl ?_; (first
| refine p_p (ps_gtrT rfl rfl rfl (by omega)) ?_
| refine p_p (ps_neqBV rfl rfl rfl nq) ?_
| refine p_p (zD rfl) ?_
| refine p_p (zU rfl rfl rfl) ?_
| refine p_p (zQ rfl rfl) ?_
| refine p_p (ps_gtr rfl rfl rfl) ?_); refine ⟨_, aB, ?_⟩)
| refine o_nil ?_
| refine zW rfl ?_
| refine zR ?_))
        refine at_reg 20 ?_
        exact g_tail rfl ⟨aI, zB rfl (zM _)⟩ h20
      · have jQ : ¬ 0 < Q.length := fun h => jM (w2 h).1
        repeat' ((fail_if_success (refine at_reg 20 ?_)); (first
| refine g_seq ?_
| refine zC ?_
| (refine o_go rfl ?_; (first
| refine p_p (ps_gtrF rfl rfl rfl (by omega)) ?_
| refine p_p (ps_neqBV rfl rfl rfl (by rfl)) ?_
| refine p_p (zD rfl) ?_
| refine p_p (zU rfl rfl rfl) ?_
| refine p_p (zQ rfl rfl) ?_); refine ⟨_, aB, ?_⟩)
| refine o_nil ?_
| (refine o_s rfl ?_; refine ⟨_, aB, ?_⟩)
| refine zW rfl ?_
| refine zR ?_))
        refine at_reg 20 ?_
        exact g_tail rfl ⟨aI, zB rfl (zM _)⟩ h20
    · have jQ : ¬ 0 < Q.length := fun h => nq (w2 h).1
      repeat' ((fail_if_success (refine at_reg 20 ?_)); (first
| refine g_seq ?_
| refine zC ?_
| (refine o_go rfl ?_; (first
| refine p_p (ps_gtrF rfl rfl rfl (by omega)) ?_
| refine p_p (ps_neqBV rfl rfl rfl (by rfl)) ?_
| refine p_p (zD rfl) ?_
| refine p_p (zU rfl rfl rfl) ?_
| refine p_p (zQ rfl rfl) ?_); refine ⟨_, aB, ?_⟩)
| refine o_nil ?_
| (refine o_s rfl ?_; refine ⟨_, aB, ?_⟩)
| refine zW rfl ?_
| refine zR ?_))
      refine at_reg 20 ?_
      exact g_tail rfl ⟨aI, zB rfl (zM _)⟩ h20
end Go.Proofs.YtlgfniaakjchgaaGreat
