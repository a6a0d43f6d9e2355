/- Walks: the program's clones of an algebra. -/
import Derived.Test.YtlgfniaakjchgaaGreatLGg
namespace Go.Proofs.YtlgfniaakjchgaaGreat
open Go Go.Pv Go.Proofs
set_option maxHeartbeats 32000000
set_option maxRecDepth 100000
attribute [local bitvec_to_nat] St.put St.setObj St.ev killP killA killP1 killH mapHO renP renA ren1 killG killGA killG1 krowP krowA krow1 lendP lendA lend1 unv pinP pin1 elemsM viewM viewN viewV n_set_z n_set_s n_map_c n_map_n getD_z getD_s n_toNat n_cond_t n_cond_f n_len_c n_len_n n_app_c n_app_n n_take_s n_take_z n_drop_s n_drop_z n_get_z n_get_s view viewA view1 elems Nat.zero_add Nat.add_zero Bool.not_true Bool.not_false Nat.one_ne_zero Nat.mul_one
attribute [local bitvec_to_nat] posI optP lendM1 lendMA lendMP killM1 killMA killMP hasI getO backM1 backMA backMP putL inpM pinM1 pinMA pinMP

theorem irange_c (n k : Nat) (hn : n ≤ 8) (hk0 : 0 < k) (hk : k ≤ 3) (hs : n ^ k ≤ 27) : PCalls Tryz.prog 96 [I (n : Int), I (k : Int)] (B true) := by
  refine pcalls1 Tryz.func96 rfl Tryz.ntmps96 rfl ?_
  simp only [List.length_cons, List.length_nil, Nat.reduceAdd, Nat.reduceSub, List.replicate_succ, List.replicate_zero, List.cons_append, List.nil_append]
  have h1 := power_c n k (by omega) hk
  have d3 : decide (((n ^ k : Nat) : Int) ≤ 27) = true := decide_eq_true (by omega)
  repeat' (first
| refine g_seq ?_
| refine zC ?_
| (refine o_go rfl ?_; (first
| refine p_p (zG rfl rfl aC (h1)) ?_
| refine p_p (zD rfl) ?_
| refine p_p (zA rfl) ?_
| refine p_p (zQ rfl rfl) ?_
| refine p_p (ps_leq rfl rfl rfl) ?_
| refine p_p (ps_geq rfl rfl rfl) ?_); refine ⟨_, aB, ?_⟩)
| refine o_nil ?_
| (refine o_splitD rfl rfl rfl (fun hc => ?_) (fun hc => ?_) <;> first | (exfalso; omega) | dsimp only [List.set_cons_zero, List.set_cons_succ])
| refine kr1 ?_
| refine krB rfl ?_
| refine g_ret ?_)
  all_goals try (exfalso; omega)
  exact d3
theorem algOk_ops {n : Nat} {ops : List OpD} (h : algOk (n : Int) ops = true) : (0 < n ∧ n ≤ 8) ∧ ops.length ≤ 4 ∧ ∀ f ∈ ops, opOk n f = true := by
  unfold algOk at h
  simp only [Bool.and_eq_true, decide_eq_true_eq] at h
  have h1 := inB_iff.1 h.1
  refine ⟨by omega, h.2.1, fun f hf => ?_⟩
  have := List.all_eq_true.1 h.2.2 f hf
  rwa [Int.toNat_natCast] at this
theorem iterm_c (n k : Nat) (ops : List OpD) (hl : szOk ops) (hg : algOk (n : Int) ops = true) (hk0 : 0 < k) (hk : k ≤ 3) (hs : n ^ k ≤ 27) :
    PCalls Tryz.prog 58 [algP (n : Int) ops, I (k : Int)] (.tup [fndP (cloneV n k ops), B (cloneV n k ops).isSome]) := by
  refine pcalls2 Tryz.func58 rfl Tryz.ntmps58 rfl ?_
  simp only [List.length_cons, List.length_nil, Nat.reduceAdd, Nat.reduceSub, List.replicate_succ, List.replicate_zero, List.cons_append, List.nil_append]
  obtain ⟨⟨hn0, hn⟩, hol, ho⟩ := algOk_ops hg
  have h1 := igood_c n ops hl
  rw [hg] at h1
  have h2 := irange_c n k hn hk0 hk hs
  have h3 := icloneOf_c n k ops hn0 hn hk0 hk (by omega) (by omega) ho
  generalize cloneV n k ops = V at *
  repeat' (first
| refine g_seq ?_
| refine zC ?_
| (refine o_go rfl ?_; (first
| refine p_e rfl (e_box rfl rfl) ?_
| refine p_p (zG rfl rfl aC (h1)) ?_
| refine p_p (zG rfl rfl aC (h2)) ?_
| refine p_p (zG rfl rfl aC (h3)) ?_
| refine p_p (zD rfl) ?_
| refine p_p (zA rfl) ?_
| refine p_p (ps_extract rfl rfl rfl) ?_
| refine p_p (ps_not rfl rfl) ?_
| refine p_p (zQ rfl rfl) ?_
| refine p_p (zH rfl rfl rfl rfl) ?_
| refine p_p (zY rfl rfl rfl aK) ?_
| refine p_p (zE rfl rfl) ?_); refine ⟨_, aB, ?_⟩)
| refine o_nil ?_
| refine zW rfl ?_
| refine kr2 ?_ ?_
| refine krB rfl ?_
| refine zR ?_
| refine g_ret ?_)
  all_goals try (exfalso; omega)
  · cases V with
    | none => exact kr_le (p := .val (.pointer none)) rfl (PV.le_refl _)
    | some E => exact kr_le (p := .ptr [intss (tabsE E), .sl 2 none ((stepsE E).map stpP), .any]) rfl (PV.le_refl _)
  · rfl
theorem firsts_c (n : Nat) (hn0 : 0 < n) (hn : n ≤ 8) : PCalls Tryz.prog 26 [I (n : Int)] (ints (prjL n 2 0)) := by
  refine pcalls1 Tryz.func26 rfl Tryz.ntmps26 rfl ?_
  simp only [List.length_cons, List.length_nil, Nat.reduceAdd, Nat.reduceSub, List.replicate_succ, List.replicate_zero, List.cons_append, List.nil_append]
  have h1 := iprj_c n 2 0 hn0 hn (by omega) (by omega)
  repeat' (first
| refine g_seq ?_
| refine zC ?_
| (refine o_go rfl ?_; (first
| refine p_p (zG rfl rfl aC (h1)) ?_
| refine p_p (zD rfl) ?_
| refine p_p (zA rfl) ?_); refine ⟨_, aB, ?_⟩)
| refine o_nil ?_
| refine kr1 ?_
| refine krS rfl ?_
| refine g_ret ?_)
  all_goals rfl
theorem seconds_c (n : Nat) (hn0 : 0 < n) (hn : n ≤ 8) : PCalls Tryz.prog 62 [I (n : Int)] (ints (prjL n 2 1)) := by
  refine pcalls1 Tryz.func62 rfl Tryz.ntmps62 rfl ?_
  simp only [List.length_cons, List.length_nil, Nat.reduceAdd, Nat.reduceSub, List.replicate_succ, List.replicate_zero, List.cons_append, List.nil_append]
  have h1 := iprj_c n 2 1 hn0 hn (by omega) (by omega)
  repeat' (first
| refine g_seq ?_
| refine zC ?_
| (refine o_go rfl ?_; (first
| refine p_p (zG rfl rfl aC (h1)) ?_
| refine p_p (zD rfl) ?_
| refine p_p (zA rfl) ?_); refine ⟨_, aB, ?_⟩)
| refine o_nil ?_
| refine kr1 ?_
| refine krS rfl ?_
| refine g_ret ?_)
  all_goals rfl
def valA (n : Nat) (t pat : List Int) (i : Nat) : Int := t.getD (idxL n (comL pat (argsL n 2 i))).toNat 0
def valL (n : Nat) (t pat : List Int) (k : Nat) : List Int := (List.range k).map (valA n t pat)
theorem valL_succ (n : Nat) (t pat : List Int) (k : Nat) : valL n t pat (k + 1) = valL n t pat k ++ [valA n t pat k] := range_snoc _ k
theorem valL_len (n : Nat) (t pat : List Int) (k : Nat) : (valL n t pat k).length = k := by simp [valL]
theorem ivalues_c (n : Nat) (t pat : List Int) (hn0 : 0 < n) (hn : n ≤ 8) (hpl : pat.length = 3) (hp : ∀ x ∈ pat, 0 ≤ x ∧ x < 2) (ht : t.length = n ^ 3) :
    PCalls Tryz.prog 29 [I (n : Int), ints t, ints pat] (ints (valL n t pat (n * n))) := by
  refine pcalls1 Tryz.func29 rfl Tryz.ntmps29 rfl ?_
  simp only [List.length_cons, List.length_nil, Nat.reduceAdd, Nat.reduceSub, List.replicate_succ, List.replicate_zero, List.cons_append, List.nil_append]
  have hnn : n * n ≤ 64 := Nat.mul_le_mul hn hn
  have hmi : (n : Int) * (n : Int) = ((n * n : Nat) : Int) := by push_cast; rfl
  have hp3 := pow_le3 (show n ≤ 1000 by omega) (show 3 ≤ 3 by omega)
  repeat' (first
| refine g_seq ?_
| refine zJ ?_
| refine zC ?_
| (refine o_go rfl ?_; (first
| refine p_e rfl (e_lit0T rfl (by decide)) ?_
| refine p_p (zA rfl) ?_); refine ⟨_, aB, ?_⟩)
| refine o_nil ?_)
  refine g_loopF (α := Nat) [9] (fun i => [(7, .hp 0), (8, I (i : Int))]) (fun i => [.arr true 1 3 ((valL n t pat i).map I)]) (fun i => i ≤ n * n) (fun i => n * n - i) 0 aH (Nat.zero_le _) ⟨rfl, rfl, trivial⟩ rfl ?_
  rintro i hi
  dsimp only [zZ, List.set_cons_zero, List.set_cons_succ]
  have hvl : ((valL n t pat i).map I).length = i := by rw [List.length_map, valL_len]
  by_cases hil : i < n * n
  · have h1 := iargs_c n 2 i hn0 (by omega) (by omega) (by omega)
    have hal := argsL_len n 2 i
    have hain := argsL_in hn0 2 i
    have h2 := compose_c pat (argsL n 2 i) (by omega) (by omega) (fun x hx => by have := hp x hx; omega)
    have hcl : (comL pat (argsL n 2 i)).length = 3 := by rw [← hpl]; simp [comL]
    have hcin : ∀ x ∈ comL pat (argsL n 2 i), 0 ≤ x ∧ x < (n : Int) := fun x hx => by
      obtain ⟨y, hy, rfl⟩ := List.mem_map.1 hx
      have := hp y hy
      exact hain _ (getD_at (by omega))
    have h3 := index_c n (comL pat (argsL n 2 i)) (by omega) (by omega) hcin
    have hb := idxL_bound _ hcin
    rw [hcl] at hb
    have hix : (t.map I)[(idxL n (comL pat (argsL n 2 i))).toNat]? = some (I (valA n t pat i)) := idx_I (by omega)
    repeat' (first
| refine g_seq ?_
| refine zJ ?_
| refine zC ?_
| (refine o_go rfl ?_; (first
| refine p_p (ps_mul rfl rfl rfl (by omega)) ?_
| refine p_p (zG rfl rfl aC (h1)) ?_
| refine p_p (zG rfl rfl aC (h2)) ?_
| refine p_p (zG rfl rfl aC (h3)) ?_
| refine p_p (zN rfl rfl rfl (by omega) hix (by exact rfl)) ?_
| refine p_e (by kernel_rfl) (e_append rfl rfl rfl rfl rfl rfl (one_one rfl) rfl aP aP) ?_
| refine p_p (zD rfl) ?_
| refine p_p (zA rfl) ?_
| refine p_p (zF rfl rfl) ?_
| refine p_p (zS rfl rfl rfl) ?_
| refine p_p (ps_add rfl rfl rfl aN) ?_
| refine p_p (ps_lit1 rfl rfl (by rfl) (by rfl)) ?_); refine ⟨_, aB, ?_⟩)
| refine o_nil ?_
| (refine zK rfl (fun hc => ?_) (fun hc => ?_) <;> try (exfalso; omega))
| refine zR ?_)
    all_goals try (exfalso; omega)
    exact zT (i + 1) (by omega) (by omega) aI ⟨rfl, rfl, trivial⟩ (zB (by rw [valL_succ, List.map_append]; rfl) (zM _))
  · repeat' (first
| refine g_seq ?_
| refine zC ?_
| (refine o_go rfl ?_; (first
| refine p_p (ps_mul rfl rfl rfl (by omega)) ?_
| refine p_p (zD rfl) ?_
| refine p_p (zA rfl) ?_
| refine p_p (zS rfl rfl rfl) ?_); refine ⟨_, aB, ?_⟩)
| refine o_nil ?_
| (refine zK rfl (fun hc => ?_) (fun hc => ?_) <;> try (exfalso; omega))
| refine kr1 ?_
| refine krS rfl ?_
| refine g_exit ?_
| refine g_ret ?_)
    all_goals try (exfalso; omega)
    rw [show i = n * n by omega]
end Go.Proofs.YtlgfniaakjchgaaGreat
