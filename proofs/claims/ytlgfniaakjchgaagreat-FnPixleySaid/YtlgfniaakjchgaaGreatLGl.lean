/- Walks: chains in the program. -/
import Derived.Test.YtlgfniaakjchgaaGreatLGk
namespace Go.Proofs.YtlgfniaakjchgaaGreat
open Go Go.Pv Go.Proofs
set_option maxHeartbeats 32000000
set_option maxRecDepth 100000
attribute [local bitvec_to_nat] St.put St.setObj St.ev killP killA killP1 killH mapHO renP renA ren1 killG killGA killG1 krowP krowA krow1 lendP lendA lend1 unv pinP pin1 elemsM viewM viewN viewV n_set_z n_set_s n_map_c n_map_n getD_z getD_s n_toNat n_cond_t n_cond_f n_len_c n_len_n n_app_c n_app_n n_take_s n_take_z n_drop_s n_drop_z n_get_z n_get_s view viewA view1 elems Nat.zero_add Nat.add_zero Bool.not_true Bool.not_false Nat.one_ne_zero Nat.mul_one
attribute [local bitvec_to_nat] posI optP lendM1 lendMA lendMP killM1 killMA killMP hasI getO backM1 backMA backMP putL inpM pinM1 pinMA pinMP
section
variable (n : Nat) (T : List (List Int))
theorem fixL_at {i : Nat} (h : i < T.length) : ((fixL n T).map B)[i]? = some (B (fixB n (T.getD i []))) := by
  unfold fixL fixB
  rw [List.map_map, List.getElem?_map, List.getElem?_eq_getElem h, List.getD_eq_getElem?_getD, List.getElem?_eq_getElem h]; rfl
theorem lefL_at {i : Nat} (h : i < T.length) : ((lefL n T).map ints)[i]? = some (ints (vLeft n (T.getD i []))) := by
  unfold lefL
  rw [List.map_map, List.getElem?_map, List.getElem?_eq_getElem h, List.getD_eq_getElem?_getD, List.getElem?_eq_getElem h]; rfl
theorem rigL_at {i : Nat} (h : i < T.length) : ((rigL n T).map ints)[i]? = some (ints (vRight n (T.getD i []))) := by
  unfold rigL
  rw [List.map_map, List.getElem?_map, List.getElem?_eq_getElem h, List.getD_eq_getElem?_getD, List.getElem?_eq_getElem h]; rfl
theorem chL_len : (fixL n T).length = T.length ∧ (lefL n T).length = T.length ∧ (rigL n T).length = T.length := by simp [fixL, lefL, rigL]
theorem step_c (i f g : Nat) (hn : n ≤ 8) (hi : i ≤ 1000) (hf : f < T.length) (hg : g < T.length) : PCalls Tryz.prog 79 [chP n T, I (i : Int), I (f : Int), I (g : Int)] (B (nearB n (T.getD f []) (T.getD g []) i)) := by
  refine pcalls1 Tryz.func79 rfl Tryz.ntmps79 rfl ?_
  simp only [List.length_cons, List.length_nil, Nat.reduceAdd, Nat.reduceSub, List.replicate_succ, List.replicate_zero, List.cons_append, List.nil_append]
  have hnn : n * n ≤ 64 := Nat.mul_le_mul hn hn
  obtain ⟨l1, l2, l3⟩ := chL_len n T
  have h1 := gisame_c (vLeft n (T.getD f [])) (vLeft n (T.getD g [])) (by rw [valL_len]; omega)
  have h2 := gisame_c (vRight n (T.getD f [])) (vRight n (T.getD g [])) (by rw [valL_len]; omega)
  have a1 := lefL_at n T hf
  have a2 := lefL_at n T hg
  have a3 := rigL_at n T hf
  have a4 := rigL_at n T hg
  unfold nearB
  by_cases he : i % 2 = 0
  · rw [he]
    repeat' (first
| refine g_seq ?_
| refine zC ?_
| refine zP (by kernel_rfl) (by kernel_rfl) ?_
| (refine o_go rfl ?_; (first
| refine p_p (ps_rem rfl rfl rfl (by omega) (by omega)) ?_
| refine p_p (zN rfl rfl rfl (by omega) a1 (by exact rfl)) ?_
| refine p_p (zN rfl rfl rfl (by omega) a2 (by exact rfl)) ?_
| refine p_p (zG rfl rfl aC (h1)) ?_
| refine p_p (zD rfl) ?_
| refine p_p (zA rfl) ?_
| refine p_p (zF rfl rfl) ?_
| refine p_p (zL rfl rfl) ?_
| refine p_p (ps_eql rfl rfl rfl) ?_
| refine p_p (ps_nilCheck rfl rfl) ?_); refine ⟨_, aB, ?_⟩)
| refine o_nil ?_
| (refine zK rfl (fun hc => ?_) (fun hc => ?_) <;> try (exfalso; omega))
| refine kr1 ?_
| refine krB rfl ?_
| refine g_ret ?_)
    all_goals first | rfl | (exfalso; omega)
  · rw [show i % 2 = 1 by omega]
    repeat' (first
| refine g_seq ?_
| refine zC ?_
| refine zP (by kernel_rfl) (by kernel_rfl) ?_
| (refine o_go rfl ?_; (first
| refine p_p (ps_rem rfl rfl rfl (by omega) (by omega)) ?_
| refine p_p (zN rfl rfl rfl (by omega) a3 (by exact rfl)) ?_
| refine p_p (zN rfl rfl rfl (by omega) a4 (by exact rfl)) ?_
| refine p_p (zG rfl rfl aC (h2)) ?_
| refine p_p (zD rfl) ?_
| refine p_p (zA rfl) ?_
| refine p_p (zF rfl rfl) ?_
| refine p_p (zL rfl rfl) ?_
| refine p_p (ps_eql rfl rfl rfl) ?_
| refine p_p (ps_nilCheck rfl rfl) ?_); refine ⟨_, aB, ?_⟩)
| refine o_nil ?_
| (refine zK rfl (fun hc => ?_) (fun hc => ?_) <;> try (exfalso; omega))
| refine kr1 ?_
| refine krB rfl ?_
| refine zR ?_
| refine g_ret ?_)
    all_goals first | rfl | (exfalso; omega)
abbrev capP : PV := .ptr [chP n T]
theorem dist1_c (f : Int) : PCalls Tryz.prog 76 [I f, capP n T] (B (decide (f = placeT T (prjL n 3 0)))) := by
  refine pcalls1 Tryz.func76 rfl Tryz.ntmps76 rfl ?_
  simp only [List.length_cons, List.length_nil, Nat.reduceAdd, Nat.reduceSub, List.replicate_succ, List.replicate_zero, List.cons_append, List.nil_append]
  repeat' (first
| refine g_seq ?_
| refine zC ?_
| (refine o_go rfl ?_; (first
| refine p_p (zD rfl) ?_
| refine p_p (zA rfl) ?_
| refine p_p (zF rfl rfl) ?_
| refine p_p (zL rfl rfl) ?_
| refine p_p (ps_eql rfl rfl rfl) ?_
| refine p_p (ps_nilCheck rfl rfl) ?_); refine ⟨_, aB, ?_⟩)
| refine o_nil ?_
| refine kr1 ?_
| refine krB rfl ?_
| refine g_ret ?_)
  all_goals rfl
theorem dist2_c (f : Int) : PCalls Tryz.prog 77 [I f, capP n T] (B (decide (f = placeT T (prjL n 3 2)))) := by
  refine pcalls1 Tryz.func77 rfl Tryz.ntmps77 rfl ?_
  simp only [List.length_cons, List.length_nil, Nat.reduceAdd, Nat.reduceSub, List.replicate_succ, List.replicate_zero, List.cons_append, List.nil_append]
  repeat' (first
| refine g_seq ?_
| refine zC ?_
| (refine o_go rfl ?_; (first
| refine p_p (zD rfl) ?_
| refine p_p (zA rfl) ?_
| refine p_p (zF rfl rfl) ?_
| refine p_p (zL rfl rfl) ?_
| refine p_p (ps_eql rfl rfl rfl) ?_
| refine p_p (ps_nilCheck rfl rfl) ?_); refine ⟨_, aB, ?_⟩)
| refine o_nil ?_
| refine kr1 ?_
| refine krB rfl ?_
| refine g_ret ?_)
  all_goals rfl
def folD (n : Nat) (T : List (List Int)) (i f g : Nat) : Bool := fixB n (T.getD f []) && (fixB n (T.getD g []) && nearB n (T.getD f []) (T.getD g []) i)
theorem dist3_c (i f g : Nat) (hn : n ≤ 8) (hi : i ≤ 1000) (hf : f < T.length) (hg : g < T.length) : PCalls Tryz.prog 78 [I (i : Int), I (f : Int), I (g : Int), capP n T] (B (folD n T i f g)) := by
  refine pcalls1 Tryz.func78 rfl Tryz.ntmps78 rfl ?_
  simp only [List.length_cons, List.length_nil, Nat.reduceAdd, Nat.reduceSub, List.replicate_succ, List.replicate_zero, List.cons_append, List.nil_append]
  obtain ⟨l1, l2, l3⟩ := chL_len n T
  have h1 := step_c n T i f g hn hi hf hg
  have a1 := fixL_at n T hf
  have a2 := fixL_at n T hg
  unfold folD
  generalize fixB n (T.getD f []) = b1 at *
  generalize fixB n (T.getD g []) = b2 at *
  cases b1
  · repeat' (first
| refine g_seq ?_
| refine zC ?_
| (refine o_go rfl ?_; (first
| refine p_p (zN rfl rfl rfl (by omega) a1 (by exact rfl)) ?_
| refine p_p (zD rfl) ?_
| refine p_p (zA rfl) ?_
| refine p_p (zF rfl rfl) ?_
| refine p_p (zL rfl rfl) ?_
| refine p_p (zQ rfl rfl) ?_
| refine p_p (ps_nilCheck rfl rfl) ?_); refine ⟨_, aB, ?_⟩)
| refine o_nil ?_
| (refine o_s rfl ?_; refine ⟨_, aB, ?_⟩)
| refine kr1 ?_
| refine krB rfl ?_
| refine g_ret ?_)
    all_goals first | rfl | (exfalso; omega)
  · cases b2
    · repeat' (first
| refine g_seq ?_
| refine zC ?_
| (refine o_go rfl ?_; (first
| refine p_p (zN rfl rfl rfl (by omega) a1 (by exact rfl)) ?_
| refine p_p (zN rfl rfl rfl (by omega) a2 (by exact rfl)) ?_
| refine p_p (zD rfl) ?_
| refine p_p (zA rfl) ?_
| refine p_p (zF rfl rfl) ?_
| refine p_p (zL rfl rfl) ?_
| refine p_p (zQ rfl rfl) ?_
| refine p_p (ps_nilCheck rfl rfl) ?_); refine ⟨_, aB, ?_⟩)
| refine o_nil ?_
| (refine o_s rfl ?_; refine ⟨_, aB, ?_⟩)
| refine kr1 ?_
| refine krB rfl ?_
| refine g_ret ?_)
      all_goals first | rfl | (exfalso; omega)
    · repeat' (first
| refine g_seq ?_
| refine zC ?_
| (refine o_go rfl ?_; (first
| refine p_p (zN rfl rfl rfl (by omega) a1 (by exact rfl)) ?_
| refine p_p (zN rfl rfl rfl (by omega) a2 (by exact rfl)) ?_
| refine p_p (zG rfl rfl aC (h1)) ?_
| refine p_p (zD rfl) ?_
| refine p_p (zA rfl) ?_
| refine p_p (zF rfl rfl) ?_
| refine p_p (zL rfl rfl) ?_
| refine p_p (zQ rfl rfl) ?_
| refine p_p (ps_nilCheck rfl rfl) ?_); refine ⟨_, aB, ?_⟩)
| refine o_nil ?_
| refine kr1 ?_
| refine krB rfl ?_
| refine g_ret ?_)
      all_goals first | rfl | (exfalso; omega)
abbrev linkP (least : Nat) (f1 f2 f3 : Nat) : PV := .agg [I (least : Int), .fn f1 [] [capP n T], .fn f2 [] [capP n T], .fn f3 [] [capP n T]]
theorem distL_c : PCalls Tryz.prog 37 [chP n T] (linkP n T 2 76 77 78) := by
  refine pcallsC Tryz.func37 rfl Tryz.ntmps37 rfl ?_
  simp only [List.length_cons, List.length_nil, Nat.reduceAdd, Nat.reduceSub, List.replicate_succ, List.replicate_zero, List.cons_append, List.nil_append]
  repeat' (first
| refine g_seq ?_
| refine zC ?_
| (refine o_go rfl ?_; (first
| refine p_e rfl (zO rfl rfl rfl rfl aK rfl rfl rfl) ?_
| refine p_e rfl (e_alloc rfl) ?_
| refine p_p (ps_box rfl rfl) ?_
| refine p_p (ps_makeFunc rfl rfl rfl) ?_
| refine p_p (ps_build rfl rfl) ?_); refine ⟨_, aB, ?_⟩)
| refine o_nil ?_
| refine krc ?_
| refine krC rfl aK ?_
| refine g_ret ?_)
  all_goals rfl
end
end Go.Proofs.YtlgfniaakjchgaaGreat
