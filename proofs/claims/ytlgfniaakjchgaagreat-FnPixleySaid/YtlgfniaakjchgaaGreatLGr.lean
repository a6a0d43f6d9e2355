/- Walks: the lengths of the shortest chains, in the program. -/
import Derived.Test.YtlgfniaakjchgaaGreatLGq
import Derived.Test.YtlgfniaakjchgaaGreatLNg
import Derived.Test.YtlgfniaakjchgaaGreatLNc
namespace Go.Proofs.YtlgfniaakjchgaaGreat
open Go Go.Pv Go.Proofs
set_option maxHeartbeats 32000000
set_option maxRecDepth 100000
attribute [local bitvec_to_nat] St.put St.setObj St.ev killP killA killP1 killH mapHO renP renA ren1 killG killGA killG1 krowP krowA krow1 lendP lendA lend1 unv pinP pin1 elemsM viewM viewN viewV n_set_z n_set_s n_map_c n_map_n getD_z getD_s n_toNat n_cond_t n_cond_f n_len_c n_len_n n_app_c n_app_n n_take_s n_take_z n_drop_s n_drop_z n_get_z n_get_s view viewA view1 elems Nat.zero_add Nat.add_zero Bool.not_true Bool.not_false Nat.one_ne_zero Nat.mul_one
attribute [local bitvec_to_nat] posI optP lendM1 lendMA lendMP killM1 killMA killMP hasI getO backM1 backMA backMP putL inpM pinM1 pinMA pinMP

section
variable (n : Nat) (T : List (List Int))
theorem perm1_c (f : Int) : PCalls Tryz.prog 80 [I f, capP n T] (B (decide (f = placeT T (prjL n 3 0)))) := by
  refine pcalls1 Tryz.func80 rfl Tryz.ntmps80 rfl ?_
  simp only [List.length_cons, List.length_nil, Nat.reduceAdd, Nat.reduceSub, List.replicate_succ, List.replicate_zero, List.cons_append, List.nil_append]
  repeat' (first
| refine g_seq ?_
| refine zC ?_
| (refine o_go rfl ?_; (first
| refine p_p (zD rfl) ?_
| refine p_p (zA rfl) ?_
| refine p_p (zF rfl rfl) ?_
| refine p_p (zL rfl rfl) ?_
| refine p_p (ps_eql rfl rfl rfl) ?_
| refine p_p (ps_nilCheck rfl rfl) ?_); refine ⟨_, aB, ?_⟩)
| refine o_nil ?_
| refine kr1 ?_
| refine krB rfl ?_
| refine g_ret ?_)
  all_goals rfl
theorem perm2_c (f : Int) : PCalls Tryz.prog 81 [I f, capP n T] (B (decide (f = placeT T (prjL n 3 2)))) := by
  refine pcalls1 Tryz.func81 rfl Tryz.ntmps81 rfl ?_
  simp only [List.length_cons, List.length_nil, Nat.reduceAdd, Nat.reduceSub, List.replicate_succ, List.replicate_zero, List.cons_append, List.nil_append]
  repeat' (first
| refine g_seq ?_
| refine zC ?_
| (refine o_go rfl ?_; (first
| refine p_p (zD rfl) ?_
| refine p_p (zA rfl) ?_
| refine p_p (zF rfl rfl) ?_
| refine p_p (zL rfl rfl) ?_
| refine p_p (ps_eql rfl rfl rfl) ?_
| refine p_p (ps_nilCheck rfl rfl) ?_); refine ⟨_, aB, ?_⟩)
| refine o_nil ?_
| refine kr1 ?_
| refine krB rfl ?_
| refine g_ret ?_)
  all_goals rfl
def folP (n : Nat) (T : List (List Int)) (f g : Nat) : Bool := decide (vLeft n (T.getD f []) = vRight n (T.getD g []))
theorem perm3_c (i f g : Nat) (hn : n ≤ 8) (hf : f < T.length) (hg : g < T.length) : PCalls Tryz.prog 82 [I (i : Int), I (f : Int), I (g : Int), capP n T] (B (folP n T f g)) := by
  refine pcalls1 Tryz.func82 rfl Tryz.ntmps82 rfl ?_
  simp only [List.length_cons, List.length_nil, Nat.reduceAdd, Nat.reduceSub, List.replicate_succ, List.replicate_zero, List.cons_append, List.nil_append]
  have hnn : n * n ≤ 64 := Nat.mul_le_mul hn hn
  obtain ⟨l1, l2, l3⟩ := chL_len n T
  have h1 := gisame_c (vLeft n (T.getD f [])) (vRight n (T.getD g [])) (by rw [valL_len]; omega)
  have a1 := lefL_at n T hf
  have a4 := rigL_at n T hg
  repeat' (first
| refine g_seq ?_
| refine zC ?_
| refine zP (by kernel_rfl) (by kernel_rfl) ?_
| (refine o_go rfl ?_; (first
| refine p_p (zN rfl rfl rfl (by omega) a1 (by exact rfl)) ?_
| refine p_p (zN rfl rfl rfl (by omega) a4 (by exact rfl)) ?_
| refine p_p (zG rfl rfl aC (h1)) ?_
| refine p_p (zD rfl) ?_
| refine p_p (zA rfl) ?_
| refine p_p (zF rfl rfl) ?_
| refine p_p (zL rfl rfl) ?_
| refine p_p (ps_nilCheck rfl rfl) ?_); refine ⟨_, aB, ?_⟩)
| refine o_nil ?_
| refine kr1 ?_
| refine krB rfl ?_
| refine g_ret ?_)
  all_goals first | rfl | (exfalso; omega)
def bgR (n : Nat) (T : List (List Int)) (f : Nat) : Bool := fixB n (T.getD f []) && decide (vLeft n (T.getD f []) = prjL n 2 0)
def enR (n : Nat) (T : List (List Int)) (f : Nat) : Bool := fixB n (T.getD f []) && decide (vRight n (T.getD f []) = prjL n 2 1)
def folR (n : Nat) (T : List (List Int)) (f g : Nat) : Bool := fixB n (T.getD f []) && (fixB n (T.getD g []) && decide (vRight n (T.getD f []) = vLeft n (T.getD g [])))
theorem dir1_c (f : Nat) (hn0 : 0 < n) (hn : n ≤ 8) (hf : f < T.length) : PCalls Tryz.prog 83 [I (f : Int), capP n T] (B (bgR n T f)) := by
  refine pcalls1 Tryz.func83 rfl Tryz.ntmps83 rfl ?_
  simp only [List.length_cons, List.length_nil, Nat.reduceAdd, Nat.reduceSub, List.replicate_succ, List.replicate_zero, List.cons_append, List.nil_append]
  have hnn : n * n ≤ 64 := Nat.mul_le_mul hn hn
  obtain ⟨l1, l2, l3⟩ := chL_len n T
  have h1 := gisame_c (vLeft n (T.getD f [])) (prjL n 2 0) (by rw [valL_len]; omega)
  have h2 := firsts_c n hn0 hn
  have a0 := fixL_at n T hf
  have a1 := lefL_at n T hf
  unfold bgR
  generalize fixB n (T.getD f []) = b1 at *
  cases b1
  · repeat' (first
| refine g_seq ?_
| refine zC ?_
| refine zP (by kernel_rfl) (by kernel_rfl) ?_
| (refine o_go rfl ?_; (first
| refine p_p (zN rfl rfl rfl (by omega) a0 (by exact rfl)) ?_
| refine p_p (zD rfl) ?_
| refine p_p (zA rfl) ?_
| refine p_p (zF rfl rfl) ?_
| refine p_p (zL rfl rfl) ?_
| refine p_p (zQ rfl rfl) ?_
| refine p_p (ps_nilCheck rfl rfl) ?_); refine ⟨_, aB, ?_⟩)
| refine o_nil ?_
| (refine o_s rfl ?_; refine ⟨_, aB, ?_⟩)
| refine kr1 ?_
| refine krB rfl ?_
| refine g_ret ?_)
    all_goals first | rfl | (exfalso; omega)
  · repeat' (first
| refine g_seq ?_
| refine zC ?_
| refine zP (by kernel_rfl) (by kernel_rfl) ?_
| (refine o_go rfl ?_; (first
| refine p_p (zN rfl rfl rfl (by omega) a0 (by exact rfl)) ?_
| refine p_p (zN rfl rfl rfl (by omega) a1 (by exact rfl)) ?_
| refine p_p (zG rfl rfl aC (h2)) ?_
| refine p_p (zG rfl rfl aC (h1)) ?_
| refine p_p (zD rfl) ?_
| refine p_p (zA rfl) ?_
| refine p_p (zF rfl rfl) ?_
| refine p_p (zL rfl rfl) ?_
| refine p_p (zQ rfl rfl) ?_
| refine p_p (ps_nilCheck rfl rfl) ?_); refine ⟨_, aB, ?_⟩)
| refine o_nil ?_
| refine kr1 ?_
| refine krB rfl ?_
| refine g_ret ?_)
    all_goals first | rfl | (exfalso; omega)
theorem dir2_c (f : Nat) (hn0 : 0 < n) (hn : n ≤ 8) (hf : f < T.length) : PCalls Tryz.prog 84 [I (f : Int), capP n T] (B (enR n T f)) := by
  refine pcalls1 Tryz.func84 rfl Tryz.ntmps84 rfl ?_
  simp only [List.length_cons, List.length_nil, Nat.reduceAdd, Nat.reduceSub, List.replicate_succ, List.replicate_zero, List.cons_append, List.nil_append]
  have hnn : n * n ≤ 64 := Nat.mul_le_mul hn hn
  obtain ⟨l1, l2, l3⟩ := chL_len n T
  have h1 := gisame_c (vRight n (T.getD f [])) (prjL n 2 1) (by rw [valL_len]; omega)
  have h2 := seconds_c n hn0 hn
  have a0 := fixL_at n T hf
  have a1 := rigL_at n T hf
  unfold enR
  generalize fixB n (T.getD f []) = b1 at *
  cases b1
  · repeat' (first
| refine g_seq ?_
| refine zC ?_
| refine zP (by kernel_rfl) (by kernel_rfl) ?_
| (refine o_go rfl ?_; (first
| refine p_p (zN rfl rfl rfl (by omega) a0 (by exact rfl)) ?_
| refine p_p (zD rfl) ?_
| refine p_p (zA rfl) ?_
| refine p_p (zF rfl rfl) ?_
| refine p_p (zL rfl rfl) ?_
| refine p_p (zQ rfl rfl) ?_
| refine p_p (ps_nilCheck rfl rfl) ?_); refine ⟨_, aB, ?_⟩)
| refine o_nil ?_
| (refine o_s rfl ?_; refine ⟨_, aB, ?_⟩)
| refine kr1 ?_
| refine krB rfl ?_
| refine g_ret ?_)
    all_goals first | rfl | (exfalso; omega)
  · repeat' (first
| refine g_seq ?_
| refine zC ?_
| refine zP (by kernel_rfl) (by kernel_rfl) ?_
| (refine o_go rfl ?_; (first
| refine p_p (zN rfl rfl rfl (by omega) a0 (by exact rfl)) ?_
| refine p_p (zN rfl rfl rfl (by omega) a1 (by exact rfl)) ?_
| refine p_p (zG rfl rfl aC (h2)) ?_
| refine p_p (zG rfl rfl aC (h1)) ?_
| refine p_p (zD rfl) ?_
| refine p_p (zA rfl) ?_
| refine p_p (zF rfl rfl) ?_
| refine p_p (zL rfl rfl) ?_
| refine p_p (zQ rfl rfl) ?_
| refine p_p (ps_nilCheck rfl rfl) ?_); refine ⟨_, aB, ?_⟩)
| refine o_nil ?_
| refine kr1 ?_
| refine krB rfl ?_
| refine g_ret ?_)
    all_goals first | rfl | (exfalso; omega)
theorem dir3_c (i f g : Nat) (hn : n ≤ 8) (hf : f < T.length) (hg : g < T.length) : PCalls Tryz.prog 85 [I (i : Int), I (f : Int), I (g : Int), capP n T] (B (folR n T f g)) := by
  refine pcalls1 Tryz.func85 rfl Tryz.ntmps85 rfl ?_
  simp only [List.length_cons, List.length_nil, Nat.reduceAdd, Nat.reduceSub, List.replicate_succ, List.replicate_zero, List.cons_append, List.nil_append]
  have hnn : n * n ≤ 64 := Nat.mul_le_mul hn hn
  obtain ⟨l1, l2, l3⟩ := chL_len n T
  have h1 := gisame_c (vRight n (T.getD f [])) (vLeft n (T.getD g [])) (by rw [valL_len]; omega)
  have a1 := fixL_at n T hf
  have a2 := fixL_at n T hg
  have a3 := rigL_at n T hf
  have a4 := lefL_at n T hg
  unfold folR
  generalize fixB n (T.getD f []) = b1 at *
  generalize fixB n (T.getD g []) = b2 at *
  cases b1
  · repeat' (first
| refine g_seq ?_
| refine zC ?_
| refine zP (by kernel_rfl) (by kernel_rfl) ?_
| (refine o_go rfl ?_; (first
| refine p_p (zN rfl rfl rfl (by omega) a1 (by exact rfl)) ?_
| refine p_p (zD rfl) ?_
| refine p_p (zA rfl) ?_
| refine p_p (zF rfl rfl) ?_
| refine p_p (zL rfl rfl) ?_
| refine p_p (zQ rfl rfl) ?_
| refine p_p (ps_nilCheck rfl rfl) ?_); refine ⟨_, aB, ?_⟩)
| refine o_nil ?_
| (refine o_s rfl ?_; refine ⟨_, aB, ?_⟩)
| refine kr1 ?_
| refine krB rfl ?_
| refine g_ret ?_)
    all_goals first | rfl | (exfalso; omega)
  · cases b2
    · repeat' (first
| refine g_seq ?_
| refine zC ?_
| refine zP (by kernel_rfl) (by kernel_rfl) ?_
| (refine o_go rfl ?_; (first
| refine p_p (zN rfl rfl rfl (by omega) a1 (by exact rfl)) ?_
| refine p_p (zN rfl rfl rfl (by omega) a2 (by exact rfl)) ?_
| refine p_p (zD rfl) ?_
| refine p_p (zA rfl) ?_
| refine p_p (zF rfl rfl) ?_
| refine p_p (zL rfl rfl) ?_
| refine p_p (zQ rfl rfl) ?_
| refine p_p (ps_nilCheck rfl rfl) ?_); refine ⟨_, aB, ?_⟩)
| refine o_nil ?_
| (refine o_s rfl ?_; refine ⟨_, aB, ?_⟩)
| refine kr1 ?_
| refine krB rfl ?_
| refine g_ret ?_)
      all_goals first | rfl | (exfalso; omega)
    · repeat' (first
| refine g_seq ?_
| refine zC ?_
| refine zP (by kernel_rfl) (by kernel_rfl) ?_
| (refine o_go rfl ?_; (first
| refine p_p (zN rfl rfl rfl (by omega) a1 (by exact rfl)) ?_
| refine p_p (zN rfl rfl rfl (by omega) a2 (by exact rfl)) ?_
| refine p_p (zN rfl rfl rfl (by omega) a3 (by exact rfl)) ?_
| refine p_p (zN rfl rfl rfl (by omega) a4 (by exact rfl)) ?_
| refine p_p (zG rfl rfl aC (h1)) ?_
| refine p_p (zD rfl) ?_
| refine p_p (zA rfl) ?_
| refine p_p (zF rfl rfl) ?_
| refine p_p (zL rfl rfl) ?_
| refine p_p (zQ rfl rfl) ?_
| refine p_p (ps_nilCheck rfl rfl) ?_); refine ⟨_, aB, ?_⟩)
| refine o_nil ?_
| refine kr1 ?_
| refine krB rfl ?_
| refine g_ret ?_)
      all_goals first | rfl | (exfalso; omega)
theorem permL_c : PCalls Tryz.prog 38 [chP n T] (linkP n T 2 80 81 82) := by
  refine pcallsC Tryz.func38 rfl Tryz.ntmps38 rfl ?_
  simp only [List.length_cons, List.length_nil, Nat.reduceAdd, Nat.reduceSub, List.replicate_succ, List.replicate_zero, List.cons_append, List.nil_append]
  repeat' (first
| refine g_seq ?_
| refine zC ?_
| (refine o_go rfl ?_; (first
| refine p_e rfl (zO rfl rfl rfl rfl aK rfl rfl rfl) ?_
| refine p_e rfl (e_alloc rfl) ?_
| refine p_p (ps_box rfl rfl) ?_
| refine p_p (ps_makeFunc rfl rfl rfl) ?_
| refine p_p (ps_build rfl rfl) ?_); refine ⟨_, aB, ?_⟩)
| refine o_nil ?_
| refine krc ?_
| refine krC rfl aK ?_
| refine g_ret ?_)
  all_goals rfl
theorem dirL_c : PCalls Tryz.prog 39 [chP n T] (linkP n T 1 83 84 85) := by
  refine pcallsC Tryz.func39 rfl Tryz.ntmps39 rfl ?_
  simp only [List.length_cons, List.length_nil, Nat.reduceAdd, Nat.reduceSub, List.replicate_succ, List.replicate_zero, List.cons_append, List.nil_append]
  repeat' (first
| refine g_seq ?_
| refine zC ?_
| (refine o_go rfl ?_; (first
| refine p_e rfl (zO rfl rfl rfl rfl aK rfl rfl rfl) ?_
| refine p_e rfl (e_alloc rfl) ?_
| refine p_p (ps_box rfl rfl) ?_
| refine p_p (ps_makeFunc rfl rfl rfl) ?_
| refine p_p (ps_build rfl rfl) ?_); refine ⟨_, aB, ?_⟩)
| refine o_nil ?_
| refine krc ?_
| refine krC rfl aK ?_
| refine g_ret ?_)
  all_goals rfl
end
abbrev bgN (n : Nat) (T : List (List Int)) (f : Nat) : Bool := decide ((f : Int) = placeT T (prjL n 3 0))
abbrev enN (n : Nat) (T : List (List Int)) (f : Nat) : Bool := decide ((f : Int) = placeT T (prjL n 3 2))
def dS (n : Nat) (T : List (List Int)) : Option (List Nat) := shV T.length (bgN n T) (enN n T) (fun i f g => folD n T i f g) 2 13
def pS (n : Nat) (T : List (List Int)) : Option (List Nat) := shV T.length (bgN n T) (enN n T) (fun _ f g => folP n T f g) 2 13
def rS (n : Nat) (T : List (List Int)) : Option (List Nat) := shV T.length (bgR n T) (enR n T) (fun _ f g => folR n T f g) 1 12
theorem shV_len {N least most : Nat} {bg en : Nat → Bool} {fo : Nat → Nat → Nat → Bool} {c : List Nat} (h : shV N bg en fo least most = some c) : least ≤ c.length ∧ c.length ≤ most + least ∧ ∀ f ∈ c, f < N := by
  unfold shV at h
  obtain ⟨t, ht, h2⟩ := List.exists_of_findSome?_eq_some h
  obtain ⟨h3, h4⟩ := chq_len N bg en fo h2
  rw [List.mem_range] at ht
  exact ⟨by omega, by omega, h4⟩
section
variable (n : Nat) (T : List (List Int)) (hn0 : 0 < n) (hn : n ≤ 8) (hT : T.length ≤ 1000)
include hn hT
theorem dS_c : PCalls Tryz.prog 36 [chP n T, linkP n T 2 76 77 78, I 13] (shP (dS n T)) :=
  short_c n T 2 13 _ _ _ (capP n T) _ _ _ (by decide) (by decide) (by decide) hT (fun f _ => dist1_c n T f) (fun f _ => dist2_c n T f) (fun i f g hi hf hg => dist3_c n T i f g hn hi hf hg)
theorem pS_c : PCalls Tryz.prog 36 [chP n T, linkP n T 2 80 81 82, I 13] (shP (pS n T)) :=
  short_c n T 2 13 _ _ _ (capP n T) _ _ _ (by decide) (by decide) (by decide) hT (fun f _ => perm1_c n T f) (fun f _ => perm2_c n T f) (fun i f g hi hf hg => perm3_c n T i f g hn hf hg)
include hn0
theorem rS_c : PCalls Tryz.prog 36 [chP n T, linkP n T 1 83 84 85, I 12] (shP (rS n T)) :=
  short_c n T 1 12 _ _ _ (capP n T) _ _ _ (by decide) (by decide) (by decide) hT (fun f hf => dir1_c n T f hn0 hn hf) (fun f hf => dir2_c n T f hn0 hn hf) (fun i f g hi hf hg => dir3_c n T i f g hn hf hg)
end
def olen : Option (List Nat) → Int
  | none => -1
  | some c => (c.length : Int) - 1
def dlen : Option (List Nat) → Int
  | none => -1
  | some c => (c.length : Int)
def clV (n : Int) (ops : List OpD) : List PV :=
  match clT n ops with
  | none => [I 0, I 0, I 0, B false]
  | some T => [I (olen (dS n.toNat T)), I (olen (pS n.toNat T)), I (dlen (rS n.toNat T)), B true]
theorem ilens_c (n : Int) (ops : List OpD) (ho : szOk ops) : PCalls Tryz.prog 15 [algP n ops] (.tup (clV n ops)) := by
  unfold clV
  have h1 := inewO_c n ops ho
  cases hV : clT n ops with
  | none =>
    rw [hV] at h1
    dsimp only [chO, Option.isSome] at h1
    refine pcalls4 Tryz.func15 rfl Tryz.ntmps15 rfl ?_
    simp only [List.length_cons, List.length_nil, Nat.reduceAdd, Nat.reduceSub, List.replicate_succ, List.replicate_zero, List.cons_append, List.nil_append]
    repeat' (first
| refine kr4 ?_ ?_ ?_ ?_
| refine g_seq ?_
| refine zC ?_
| (refine o_go rfl ?_; (first
| refine p_p (zG rfl rfl aC (h1)) ?_
| refine p_p (zD rfl) ?_
| refine p_p (zA rfl) ?_
| refine p_p (ps_load_agg rfl rfl aK) ?_
| refine p_p (ps_extract rfl rfl rfl) ?_
| refine p_p (ps_not rfl rfl) ?_
| refine p_p (ps_box rfl rfl) ?_); refine ⟨_, aB, ?_⟩)
| refine o_nil ?_
| refine zX rfl ?_
| refine krB rfl ?_
| refine krI rfl ?_
| refine g_ret ?_)
    all_goals rfl
  | some T =>
    obtain ⟨m, rfl, hg, -, hC⟩ := clT_some hV
    rw [hV] at h1
    dsimp only [chO, Option.isSome] at h1
    rw [Int.toNat_natCast] at h1
    dsimp only
    rw [Int.toNat_natCast]
    refine pcalls4 Tryz.func15 rfl Tryz.ntmps15 rfl ?_
    simp only [List.length_cons, List.length_nil, Nat.reduceAdd, Nat.reduceSub, List.replicate_succ, List.replicate_zero, List.cons_append, List.nil_append]
    have hn8 : m ≤ 8 := by have := hC.n3; omega
    have hT := hC.len
    have d1 := distL_c m (T)
    have p1 := permL_c m T
    have r1 := dirL_c m T
    have d2 := dS_c m T hn8 (by omega)
    have p2 := pS_c m T hn8 (by omega)
    have r2 := rS_c m T hC.n0 hn8 (by omega)
    have hrl : ∀ c, rS m T = some c → 1 ≤ c.length := fun c h => (shV_len h).1
    have hdl : ∀ c, dS m T = some c → 2 ≤ c.length ∧ c.length ≤ 15 := fun c h => ⟨(shV_len h).1, (shV_len h).2.1⟩
    have hpl : ∀ c, pS m T = some c → 2 ≤ c.length ∧ c.length ≤ 15 := fun c h => ⟨(shV_len h).1, (shV_len h).2.1⟩
    generalize dS m T = D at *
    generalize pS m T = Pq at *
    generalize rS m T = R at *
    repeat' (first
| refine g_seq ?_
| refine zC ?_
| (refine o_go rfl ?_; (first
| refine p_p (zG rfl rfl aC (h1)) ?_
| refine p_p (zG rfl rfl aC (d1)) ?_
| refine p_p (zG rfl rfl aC (d2)) ?_
| refine p_p (zG rfl rfl aC (p1)) ?_
| refine p_p (zG rfl rfl aC (p2)) ?_
| refine p_p (zG rfl rfl aC (r1)) ?_
| refine p_p (zG rfl rfl aC (r2)) ?_
| refine p_p (zD rfl) ?_
| refine p_p (zA rfl) ?_
| refine p_p (ps_load_agg rfl rfl aK) ?_
| refine p_p (ps_extract rfl rfl rfl) ?_
| refine p_p (ps_not rfl rfl) ?_
| refine p_p (ps_box rfl rfl) ?_); refine ⟨_, aB, ?_⟩)
| refine o_nil ?_
| refine zW rfl ?_
| refine zR ?_)
    have key : ∀ {a : Nat}, 2 ≤ a → (if (-1 : Int) > (a : Int) - 1 then (-1 : Int) else (a : Int) - 1) = (a : Int) - 1 := fun h => if_neg (by omega)
    cases R with
    | none =>
      dsimp only [shP]
      repeat' (first
| refine g_seq ?_
| refine zC ?_
| (refine o_go rfl ?_; (first
| refine p_p (ps_len_nil rfl rfl rfl) ?_
| refine p_p (ps_eqnil_v rfl rfl rfl) ?_
| refine p_p (zD rfl) ?_
| refine p_p (zA rfl) ?_
| refine p_p (ps_eqnil_v rfl rfl rfl) ?_); refine ⟨_, aB, ?_⟩)
| refine o_nil ?_
| refine zX rfl ?_)
      cases D with
      | none =>
        dsimp only [shP]
        cases Pq with
        | none =>
          dsimp only [shP]
          repeat' (first
| refine kr4 ?_ ?_ ?_ ?_
| (refine o_go rfl ?_; (first
| refine p_p (ps_len_nil rfl rfl rfl) ?_
| refine p_p (ps_max rfl rfl rfl) ?_
| refine p_p (zD rfl) ?_
| refine p_p (zA rfl) ?_
| refine p_p (ps_sub rfl rfl rfl aN) ?_); refine ⟨_, aB, ?_⟩)
| refine o_nil ?_
| refine krB rfl ?_
| refine krI rfl ?_
| refine g_ret ?_)
          all_goals try (exfalso; omega)
          all_goals first | rfl | (rw [if_neg (by simp only [List.length_map]; omega)]; simp only [List.length_map]; rfl) | (simp only [List.length_map]; rfl)
        | some cp =>
          dsimp only [shP]
          have hp := hpl cp rfl
          have lp : (cp.map Int.ofNat).length = cp.length := by simp
          repeat' (first
| refine kr4 ?_ ?_ ?_ ?_
| (refine o_go rfl ?_; (first
| refine p_p (ps_len_nil rfl rfl rfl) ?_
| refine p_p (ps_max rfl rfl rfl) ?_
| refine p_p (zD rfl) ?_
| refine p_p (zA rfl) ?_
| refine p_p (zU rfl rfl rfl) ?_
| refine p_p (ps_sub rfl rfl rfl aN) ?_); refine ⟨_, aB, ?_⟩)
| refine o_nil ?_
| refine krB rfl ?_
| refine krI rfl ?_
| refine g_ret ?_)
          all_goals try (exfalso; omega)
          all_goals first | rfl | (rw [if_neg (by simp only [List.length_map]; omega)]; simp only [List.length_map]; rfl) | (simp only [List.length_map]; rfl)
      | some cd =>
        dsimp only [shP]
        have hd := hdl cd rfl
        have ld : (cd.map Int.ofNat).length = cd.length := by simp
        cases Pq with
        | none =>
          dsimp only [shP]
          repeat' (first
| refine kr4 ?_ ?_ ?_ ?_
| (refine o_go rfl ?_; (first
| refine p_p (ps_len_nil rfl rfl rfl) ?_
| refine p_p (ps_max rfl rfl rfl) ?_
| refine p_p (zD rfl) ?_
| refine p_p (zA rfl) ?_
| refine p_p (zU rfl rfl rfl) ?_
| refine p_p (ps_sub rfl rfl rfl aN) ?_); refine ⟨_, aB, ?_⟩)
| refine o_nil ?_
| refine krB rfl ?_
| refine krI rfl ?_
| refine g_ret ?_)
          all_goals try (exfalso; omega)
          all_goals first | rfl | (rw [if_neg (by simp only [List.length_map]; omega)]; simp only [List.length_map]; rfl) | (simp only [List.length_map]; rfl)
        | some cp =>
          dsimp only [shP]
          have hp := hpl cp rfl
          have lp : (cp.map Int.ofNat).length = cp.length := by simp
          repeat' (first
| refine kr4 ?_ ?_ ?_ ?_
| (refine o_go rfl ?_; (first
| refine p_p (ps_max rfl rfl rfl) ?_
| refine p_p (zD rfl) ?_
| refine p_p (zA rfl) ?_
| refine p_p (zU rfl rfl rfl) ?_
| refine p_p (ps_sub rfl rfl rfl aN) ?_); refine ⟨_, aB, ?_⟩)
| refine o_nil ?_
| refine krB rfl ?_
| refine krI rfl ?_
| refine g_ret ?_)
          all_goals try (exfalso; omega)
          all_goals first | rfl | (rw [if_neg (by simp only [List.length_map]; omega)]; simp only [List.length_map]; rfl) | (simp only [List.length_map]; rfl)
    | some c =>
      dsimp only [shP]
      have hcl := hrl c rfl
      have hne : (c.map Int.ofNat).map I ≠ [] := by
        intro e
        rw [List.map_eq_nil_iff, List.map_eq_nil_iff] at e
        rw [e] at hcl; simp at hcl
      have lc : (c.map Int.ofNat).length = c.length := by simp
      repeat' (first
| refine g_seq ?_
| refine zC ?_
| (refine o_go rfl ?_; (first
| refine p_p (ps_eqnil_ne rfl rfl rfl hne) ?_
| refine p_p (zD rfl) ?_
| refine p_p (zA rfl) ?_
| refine p_p (zU rfl rfl rfl) ?_); refine ⟨_, aB, ?_⟩)
| refine o_nil ?_
| refine zW rfl ?_
| refine zR ?_)
      cases D with
      | none =>
        dsimp only [shP]
        cases Pq with
        | none =>
          dsimp only [shP]
          repeat' (first
| refine kr4 ?_ ?_ ?_ ?_
| (refine o_go rfl ?_; (first
| refine p_p (ps_len_nil rfl rfl rfl) ?_
| refine p_p (ps_max rfl rfl rfl) ?_
| refine p_p (zD rfl) ?_
| refine p_p (zA rfl) ?_
| refine p_p (ps_sub rfl rfl rfl aN) ?_); refine ⟨_, aB, ?_⟩)
| refine o_nil ?_
| refine krB rfl ?_
| refine krI rfl ?_
| refine g_ret ?_)
          all_goals try (exfalso; omega)
          all_goals first | rfl | (rw [if_neg (by simp only [List.length_map]; omega)]; simp only [List.length_map]; rfl) | (simp only [List.length_map]; rfl)
        | some cp =>
          dsimp only [shP]
          have hp := hpl cp rfl
          have lp : (cp.map Int.ofNat).length = cp.length := by simp
          repeat' (first
| refine kr4 ?_ ?_ ?_ ?_
| (refine o_go rfl ?_; (first
| refine p_p (ps_len_nil rfl rfl rfl) ?_
| refine p_p (ps_max rfl rfl rfl) ?_
| refine p_p (zD rfl) ?_
| refine p_p (zA rfl) ?_
| refine p_p (zU rfl rfl rfl) ?_
| refine p_p (ps_sub rfl rfl rfl aN) ?_); refine ⟨_, aB, ?_⟩)
| refine o_nil ?_
| refine krB rfl ?_
| refine krI rfl ?_
| refine g_ret ?_)
          all_goals try (exfalso; omega)
          all_goals first | rfl | (rw [if_neg (by simp only [List.length_map]; omega)]; simp only [List.length_map]; rfl) | (simp only [List.length_map]; rfl)
      | some cd =>
        dsimp only [shP]
        have hd := hdl cd rfl
        have ld : (cd.map Int.ofNat).length = cd.length := by simp
        cases Pq with
        | none =>
          dsimp only [shP]
          repeat' (first
| refine kr4 ?_ ?_ ?_ ?_
| (refine o_go rfl ?_; (first
| refine p_p (ps_len_nil rfl rfl rfl) ?_
| refine p_p (ps_max rfl rfl rfl) ?_
| refine p_p (zD rfl) ?_
| refine p_p (zA rfl) ?_
| refine p_p (zU rfl rfl rfl) ?_
| refine p_p (ps_sub rfl rfl rfl aN) ?_); refine ⟨_, aB, ?_⟩)
| refine o_nil ?_
| refine krB rfl ?_
| refine krI rfl ?_
| refine g_ret ?_)
          all_goals try (exfalso; omega)
          all_goals first | rfl | (rw [if_neg (by simp only [List.length_map]; omega)]; simp only [List.length_map]; rfl) | (simp only [List.length_map]; rfl)
        | some cp =>
          dsimp only [shP]
          have hp := hpl cp rfl
          have lp : (cp.map Int.ofNat).length = cp.length := by simp
          repeat' (first
| refine kr4 ?_ ?_ ?_ ?_
| (refine o_go rfl ?_; (first
| refine p_p (ps_max rfl rfl rfl) ?_
| refine p_p (zD rfl) ?_
| refine p_p (zA rfl) ?_
| refine p_p (zU rfl rfl rfl) ?_
| refine p_p (ps_sub rfl rfl rfl aN) ?_); refine ⟨_, aB, ?_⟩)
| refine o_nil ?_
| refine krB rfl ?_
| refine krI rfl ?_
| refine g_ret ?_)
          all_goals try (exfalso; omega)
          all_goals first | rfl | (rw [if_neg (by simp only [List.length_map]; omega)]; simp only [List.length_map]; rfl) | (simp only [List.length_map]; rfl)
end Go.Proofs.YtlgfniaakjchgaaGreat
