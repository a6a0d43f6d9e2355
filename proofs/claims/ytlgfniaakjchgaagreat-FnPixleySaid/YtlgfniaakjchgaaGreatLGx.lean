/- Walks: the reference's direct chains, and the lengths of all three. -/
import Derived.Test.YtlgfniaakjchgaaGreatLGw
import Derived.Test.YtlgfniaakjchgaaGreatLNg
namespace Go.Proofs.YtlgfniaakjchgaaGreat
open Go Go.Pv Go.Proofs
set_option maxHeartbeats 32000000
set_option maxRecDepth 100000
attribute [local bitvec_to_nat] St.put St.setObj St.ev killP killA killP1 killH mapHO renP renA ren1 killG killGA killG1 krowP krowA krow1 lendP lendA lend1 unv pinP pin1 elemsM viewM viewN viewV n_set_z n_set_s n_map_c n_map_n getD_z getD_s n_toNat n_cond_t n_cond_f n_len_c n_len_n n_app_c n_app_n n_take_s n_take_z n_drop_s n_drop_z n_get_z n_get_s view viewA view1 elems Nat.zero_add Nat.add_zero Bool.not_true Bool.not_false Nat.one_ne_zero Nat.mul_one
attribute [local bitvec_to_nat] posI optP lendM1 lendMA lendMP killM1 killMA killMP hasI getO backM1 backMA backMP putL inpM pinM1 pinMA pinMP

theorem sperm_c (n : Nat) (ops : List OpD) (T : List (List Int)) (hC : CT n ops T) : PCalls Tryz.prog 41 [I (n : Int), intss T] (.tup [ints (opL (pS n T)), B (pS n T).isSome]) := by
  refine pcalls2 Tryz.func41 rfl Tryz.ntmps41 rfl ?_
  simp only [List.length_cons, List.length_nil, Nat.reduceAdd, Nat.reduceSub, List.replicate_succ, List.replicate_zero, List.cons_append, List.nil_append]
  have hn8 : n ≤ 8 := by have := hC.n3; omega
  have hT := hC.len
  have ht : ∀ t ∈ T, t.length = n ^ 3 := fun t h => (hC.row t h).1
  obtain ⟨p0, hp0, -, e0⟩ := placeT_mem (hC.prj 0 (by decide))
  obtain ⟨p2, hp2, -, e2⟩ := placeT_mem (hC.prj 2 (by decide))
  have a1 := sallowed_c n T false hC.n0 hn8 (by omega) ht
  have a2 := smay_c n 1 2 T (T.map (allB n false)) hn8 (by decide) (by decide) (by omega) (List.length_map _) ht
  have a4 := sprj_c n 3 0 hC.n0 hn8 (by decide) (by decide)
  have a5 := sprj_c n 3 2 hC.n0 hn8 (by decide) (by decide)
  have a6 := splace_c T (prjL n 3 0) hC.lenOk
  have a7 := splace_c T (prjL n 3 2) hC.lenOk
  rw [e0] at a6
  rw [e2] at a7
  have a8 := sonly_c T.length p2 (by omega) hp2
  have a9 := schain_c T.length [p0] (onlyL T.length p2) (mayL n 1 2 (T.map (allB n false)) T T.length) (mayL n 1 2 (T.map (allB n false)) T T.length) 12 (by omega) (onlyL_len _ _) (mayL_ok ..) (mayL_ok ..) (fun x hx => by rw [List.mem_singleton] at hx; rw [hx]; exact hp0) (by simp) (by decide)
  by_cases h1 : n = 1
  · subst h1
    have hd : pS 1 T = some [0, 0] := by rw [one_T hC]; decide +kernel
    rw [hd]
    repeat' (first
| refine g_seq ?_
| refine zC ?_
| (refine o_go rfl ?_; (first
| refine p_p (zG rfl rfl aC (a1)) ?_
| refine p_p (zG rfl rfl aC (a2)) ?_
| refine p_p (zG rfl rfl aC (a4)) ?_
| refine p_p (zG rfl rfl aC (a5)) ?_
| refine p_p (zG rfl rfl aC (a6)) ?_
| refine p_p (zD rfl) ?_
| refine p_p (zA rfl) ?_
| refine p_p (ps_eql rfl rfl rfl) ?_
| refine p_p (ps_lit2 rfl rfl rfl (by rfl) (by rfl) (by rfl)) ?_); refine ⟨_, aB, ?_⟩)
| refine o_nil ?_
| refine zX rfl ?_
| refine kr2 ?_ ?_
| refine krB rfl ?_
| refine krS rfl ?_
| refine g_ret ?_)
    all_goals first | rfl | (exfalso; omega)
  · have hS := pS_eq hC (by have := hC.n0; omega) e0 e2 hp0
    obtain ⟨o1, o2⟩ := opL_of hS chainW_no
    rw [o1, o2] at a9
    repeat' (first
| refine g_seq ?_
| refine zC ?_
| (refine o_go rfl ?_; (first
| refine p_p (zG rfl rfl aC (a1)) ?_
| refine p_p (zG rfl rfl aC (a2)) ?_
| refine p_p (zG rfl rfl aC (a4)) ?_
| refine p_p (zG rfl rfl aC (a5)) ?_
| refine p_p (zG rfl rfl aC (a6)) ?_
| refine p_p (zG rfl rfl aC (a7)) ?_
| refine p_p (zG rfl rfl aC (a8)) ?_
| refine p_p (zG rfl rfl aC (a9)) ?_
| refine p_p (zD rfl) ?_
| refine p_p (zA rfl) ?_
| refine p_p (zU rfl rfl rfl) ?_
| refine p_p (ps_extract rfl rfl rfl) ?_
| refine p_p (ps_eql rfl rfl rfl) ?_
| refine p_p (ps_lit1 rfl rfl (by rfl) (by rfl)) ?_
| refine p_p (ps_lit2 rfl rfl rfl (by rfl) (by rfl) (by rfl)) ?_); refine ⟨_, aB, ?_⟩)
| refine o_nil ?_
| (refine zK rfl (fun hc => ?_) (fun hc => ?_) <;> try (exfalso; omega))
| refine kr2 ?_ ?_
| refine krB rfl ?_
| refine krS rfl ?_
| refine zR ?_
| refine g_ret ?_)
    all_goals first | rfl | (exfalso; omega)
theorem rS_eq (n : Nat) (T : List (List Int)) :
    rS n T = bif (chainW T.length (fun f => ((List.range T.length).map (enR n T)).getD f false) (mayF (mayL n 2 1 (T.map (allB n true)) T T.length) (mayL n 2 1 (T.map (allB n true)) T T.length)) ((List.range T.length).filter (bgR n T)) 11).2 then some (chainW T.length (fun f => ((List.range T.length).map (enR n T)).getD f false) (mayF (mayL n 2 1 (T.map (allB n true)) T T.length) (mayL n 2 1 (T.map (allB n true)) T T.length)) ((List.range T.length).filter (bgR n T)) 11).1 else none := by
  obtain ⟨my, hmy⟩ : ∃ my, my = mayF (mayL n 2 1 (T.map (allB n true)) T T.length) (mayL n 2 1 (T.map (allB n true)) T T.length) := ⟨_, rfl⟩
  have hmp : ∀ i f g, my i f g = my (i % 2) f g := fun i f g => by rw [hmy]; unfold mayF; rw [Nat.mod_mod]
  have hen : ∀ f, f < T.length → enR n T f = (fun f => ((List.range T.length).map (enR n T)).getD f false) f := fun f hf => by
    show enR n T f = ((List.range T.length).map (enR n T)).getD f false
    simp [List.getD_eq_getElem?_getD, List.getElem?_map, List.getElem?_range hf]
  have hfo : ∀ i f g, f < T.length → g < T.length → (fun (_ : Nat) f g => folR n T f g) i f g = my i f g := fun i f g hf hg => by
    rw [hmy]
    show folR n T f g = _
    unfold mayF folR
    rw [show (bif i % 2 == 0 then mayL n 2 1 (T.map (allB n true)) T T.length else mayL n 2 1 (T.map (allB n true)) T T.length) = mayL n 2 1 (T.map (allB n true)) T T.length by cases (i % 2 == 0) <;> rfl, mayL_get hf hg]
    unfold mayB
    rw [allL_get hf, allL_get hg, Bool.not_true, Bool.false_or, Bool.false_or, Bool.and_assoc]; rfl
  rw [← hmy]
  unfold rS
  rw [shV_congr (bg' := bgR n T) (fun _ _ => rfl) hen hfo 1 12]
  rw [chain_same hmp 1 11 (.inl rfl)]
theorem filt_snoc (p : Nat → Bool) (f : Nat) : (List.range (f + 1)).filter p = (List.range f).filter p ++ (bif p f then [f] else []) := by
  rw [List.range_succ, List.filter_append]
  cases h : p f <;> simp [h]
theorem filter_len (p : Nat → Bool) (f : Nat) : ((List.range f).filter p).length ≤ f := by
  have := List.length_filter_le p (List.range f)
  rwa [List.length_range] at this
theorem sdir_c (n : Nat) (ops : List OpD) (T : List (List Int)) (hC : CT n ops T) : PCalls Tryz.prog 42 [I (n : Int), intss T] (.tup [ints (opL (rS n T)), B (rS n T).isSome]) := by
  refine pcalls2 Tryz.func42 rfl Tryz.ntmps42 rfl ?_
  simp only [List.length_cons, List.length_nil, Nat.reduceAdd, Nat.reduceSub, List.replicate_succ, List.replicate_zero, List.cons_append, List.nil_append]
  have hn8 : n ≤ 8 := by have := hC.n3; omega
  have hnn : n * n ≤ 64 := Nat.mul_le_mul hn8 hn8
  have hT := hC.len
  have ht : ∀ t ∈ T, t.length = n ^ 3 := fun t h => (hC.row t h).1
  have a1 := sallowed_c n T true hC.n0 hn8 (by omega) ht
  have a2 := smay_c n 2 1 T (T.map (allB n true)) hn8 (by decide) (by decide) (by omega) (List.length_map _) ht
  have b1 := sxs_c n hC.n0 hn8
  have b2 := sys_c n hC.n0 hn8
  obtain ⟨al, hal⟩ : ∃ al, al = T.map (allB n true) := ⟨_, rfl⟩
  have hall : al.length = T.length := by rw [hal, List.length_map]
  have haf : ∀ f, f < T.length → (al.map B)[((f : Nat) : Int).toNat]? = some (B (fixB n (T.getD f []))) := fun f hf => by
    rw [Int.toNat_natCast, idx_B (by omega), hal, allL_get hf]; rfl
  have hS := rS_eq n T
  rw [← hal] at a1 a2 hS
  repeat' (first
| refine g_seq ?_
| refine zC ?_
| (refine o_go rfl ?_; (first
| refine p_p (zG rfl rfl aC (a1)) ?_
| refine p_p (zG rfl rfl aC (a2)) ?_
| refine p_p (zD rfl) ?_
| refine p_p (zA rfl) ?_); refine ⟨_, aB, ?_⟩)
| refine o_nil ?_)
  refine g_gones [.gone, .gone] ⟨rfl, rfl, trivial⟩ ⟨_, by dsimp only [bitvec_to_nat, Nat.reduceAdd, Nat.reduceMul, Nat.reduceBEq, reduceCtorEq, posI, optP, lendM1, lendMA, lendMP, killM1, killMA, killMP, hasI, getO, backM1, backMA, backMP, putL, inpM, pinM1, pinMA, pinMP], ?_⟩
  refine g_region_BV [(18, .hp 0), (19, intss T), (20, I (T.length : Int)), (21, .hp 1), (8, .hp 0), (9, .hp 1)] [.arr true 1 3 [], .arr true 1 4 (List.replicate T.length (B false))] (by kernel_rfl) 6 rfl ?_ ⟨_, by dsimp only [zZ, List.set_cons_zero, List.set_cons_succ], ?_⟩
  · refine b_2 (i := 0) (j := 1) (by kernel_rfl) rfl rfl (l_E (l_lit0T 0 rfl (by decide)) rfl rfl rfl) rfl rfl (e_of_p (zD rfl)) ⟨_, by dsimp only [bitvec_to_nat, Nat.reduceAdd, Nat.reduceMul, Nat.reduceBEq, reduceCtorEq, posI, optP, lendM1, lendMA, lendMP, killM1, killMA, killMP, hasI, getO, backM1, backMA, backMP, putL, inpM, pinM1, pinMA, pinMP], ?_⟩ ⟨_, by dsimp only [bitvec_to_nat, Nat.reduceAdd, Nat.reduceMul, Nat.reduceBEq, reduceCtorEq, posI, optP, lendM1, lendMA, lendMP, killM1, killMA, killMP, hasI, getO, backM1, backMA, backMP, putL, inpM, pinM1, pinMA, pinMP], ?_⟩
    · refine b_2 (i := 1) (j := 4) (by kernel_rfl) rfl rfl (e_of_p (zD rfl)) rfl rfl (e_of_p (zA rfl)) ⟨_, by dsimp only [bitvec_to_nat, Nat.reduceAdd, Nat.reduceMul, Nat.reduceBEq, reduceCtorEq, posI, optP, lendM1, lendMA, lendMP, killM1, killMA, killMP, hasI, getO, backM1, backMA, backMP, putL, inpM, pinM1, pinMA, pinMP], ?_⟩ ⟨_, by dsimp only [bitvec_to_nat, Nat.reduceAdd, Nat.reduceMul, Nat.reduceBEq, reduceCtorEq, posI, optP, lendM1, lendMA, lendMP, killM1, killMA, killMP, hasI, getO, backM1, backMA, backMP, putL, inpM, pinM1, pinMA, pinMP], ?_⟩
      · refine b_2 (i := 2) (j := 4) (by kernel_rfl) rfl rfl (e_of_p (zU rfl rfl rfl)) rfl rfl (e_of_p (zA rfl)) ⟨_, by dsimp only [bitvec_to_nat, Nat.reduceAdd, Nat.reduceMul, Nat.reduceBEq, reduceCtorEq, posI, optP, lendM1, lendMA, lendMP, killM1, killMA, killMP, hasI, getO, backM1, backMA, backMP, putL, inpM, pinM1, pinMA, pinMP], ?_⟩ ⟨_, by dsimp only [bitvec_to_nat, Nat.reduceAdd, Nat.reduceMul, Nat.reduceBEq, reduceCtorEq, posI, optP, lendM1, lendMA, lendMP, killM1, killMA, killMP, hasI, getO, backM1, backMA, backMP, putL, inpM, pinM1, pinMA, pinMP], ?_⟩
        · refine b_2 (i := 3) (j := 4) (by kernel_rfl) rfl rfl (l_E (l_make (zp := B false) 1 rfl rfl rfl (by omega) (by omega) (by omega) (by decide) (by rfl) (by rfl)) rfl rfl rfl) rfl rfl (e_of_p (zA rfl)) ⟨_, by dsimp only [bitvec_to_nat, Nat.reduceAdd, Nat.reduceMul, Nat.reduceBEq, reduceCtorEq, posI, optP, lendM1, lendMA, lendMP, killM1, killMA, killMP, hasI, getO, backM1, backMA, backMP, putL, inpM, pinM1, pinMA, pinMP], ?_⟩ ⟨_, by dsimp only [bitvec_to_nat, Nat.reduceAdd, Nat.reduceMul, Nat.reduceBEq, reduceCtorEq, posI, optP, lendM1, lendMA, lendMP, killM1, killMA, killMP, hasI, getO, backM1, backMA, backMP, putL, inpM, pinM1, pinMA, pinMP], ?_⟩
          · refine b_1 (i := 4) (by kernel_rfl) rfl rfl (e_of_p (zA rfl)) ⟨_, by dsimp only [bitvec_to_nat, Nat.reduceAdd, Nat.reduceMul, Nat.reduceBEq, reduceCtorEq, posI, optP, lendM1, lendMA, lendMP, killM1, killMA, killMP, hasI, getO, backM1, backMA, backMP, putL, inpM, pinM1, pinMA, pinMP], ?_⟩
            refine b_1 (i := 5) (by kernel_rfl) rfl rfl (e_of_p (zA rfl)) ⟨_, by dsimp only [bitvec_to_nat, Nat.reduceAdd, Nat.reduceMul, Nat.reduceBEq, reduceCtorEq, posI, optP, lendM1, lendMA, lendMP, killM1, killMA, killMP, hasI, getO, backM1, backMA, backMP, putL, inpM, pinM1, pinMA, pinMP], ?_⟩
            exact b_end (by kernel_rfl) rfl
          · refine b_1 (i := 3) (by kernel_rfl) rfl rfl (l_E (l_make (zp := B false) 1 rfl rfl rfl (by omega) (by omega) (by omega) (by decide) (by rfl) (by rfl)) rfl rfl rfl) ⟨_, by dsimp only [bitvec_to_nat, Nat.reduceAdd, Nat.reduceMul, Nat.reduceBEq, reduceCtorEq, posI, optP, lendM1, lendMA, lendMP, killM1, killMA, killMP, hasI, getO, backM1, backMA, backMP, putL, inpM, pinM1, pinMA, pinMP], ?_⟩
            refine b_1 (i := 5) (by kernel_rfl) rfl rfl (e_of_p (zA rfl)) ⟨_, by dsimp only [bitvec_to_nat, Nat.reduceAdd, Nat.reduceMul, Nat.reduceBEq, reduceCtorEq, posI, optP, lendM1, lendMA, lendMP, killM1, killMA, killMP, hasI, getO, backM1, backMA, backMP, putL, inpM, pinM1, pinMA, pinMP], ?_⟩
            exact b_end (by kernel_rfl) rfl
        · refine b_1 (i := 2) (by kernel_rfl) rfl rfl (e_of_p (zU rfl rfl rfl)) ⟨_, by dsimp only [bitvec_to_nat, Nat.reduceAdd, Nat.reduceMul, Nat.reduceBEq, reduceCtorEq, posI, optP, lendM1, lendMA, lendMP, killM1, killMA, killMP, hasI, getO, backM1, backMA, backMP, putL, inpM, pinM1, pinMA, pinMP], ?_⟩
          refine b_1 (i := 3) (by kernel_rfl) rfl rfl (l_E (l_make (zp := B false) 1 rfl rfl rfl (by omega) (by omega) (by omega) (by decide) (by rfl) (by rfl)) rfl rfl rfl) ⟨_, by dsimp only [bitvec_to_nat, Nat.reduceAdd, Nat.reduceMul, Nat.reduceBEq, reduceCtorEq, posI, optP, lendM1, lendMA, lendMP, killM1, killMA, killMP, hasI, getO, backM1, backMA, backMP, putL, inpM, pinM1, pinMA, pinMP], ?_⟩
          refine b_1 (i := 5) (by kernel_rfl) rfl rfl (e_of_p (zA rfl)) ⟨_, by dsimp only [bitvec_to_nat, Nat.reduceAdd, Nat.reduceMul, Nat.reduceBEq, reduceCtorEq, posI, optP, lendM1, lendMA, lendMP, killM1, killMA, killMP, hasI, getO, backM1, backMA, backMP, putL, inpM, pinM1, pinMA, pinMP], ?_⟩
          exact b_end (by kernel_rfl) rfl
      · refine b_1 (i := 1) (by kernel_rfl) rfl rfl (e_of_p (zD rfl)) ⟨_, by dsimp only [bitvec_to_nat, Nat.reduceAdd, Nat.reduceMul, Nat.reduceBEq, reduceCtorEq, posI, optP, lendM1, lendMA, lendMP, killM1, killMA, killMP, hasI, getO, backM1, backMA, backMP, putL, inpM, pinM1, pinMA, pinMP], ?_⟩
        refine b_1 (i := 2) (by kernel_rfl) rfl rfl (e_of_p (zU rfl rfl rfl)) ⟨_, by dsimp only [bitvec_to_nat, Nat.reduceAdd, Nat.reduceMul, Nat.reduceBEq, reduceCtorEq, posI, optP, lendM1, lendMA, lendMP, killM1, killMA, killMP, hasI, getO, backM1, backMA, backMP, putL, inpM, pinM1, pinMA, pinMP], ?_⟩
        refine b_1 (i := 3) (by kernel_rfl) rfl rfl (l_E (l_make (zp := B false) 1 rfl rfl rfl (by omega) (by omega) (by omega) (by decide) (by rfl) (by rfl)) rfl rfl rfl) ⟨_, by dsimp only [bitvec_to_nat, Nat.reduceAdd, Nat.reduceMul, Nat.reduceBEq, reduceCtorEq, posI, optP, lendM1, lendMA, lendMP, killM1, killMA, killMP, hasI, getO, backM1, backMA, backMP, putL, inpM, pinM1, pinMA, pinMP], ?_⟩
        refine b_1 (i := 5) (by kernel_rfl) rfl rfl (e_of_p (zA rfl)) ⟨_, by dsimp only [bitvec_to_nat, Nat.reduceAdd, Nat.reduceMul, Nat.reduceBEq, reduceCtorEq, posI, optP, lendM1, lendMA, lendMP, killM1, killMA, killMP, hasI, getO, backM1, backMA, backMP, putL, inpM, pinM1, pinMA, pinMP], ?_⟩
        exact b_end (by kernel_rfl) rfl
    · refine b_2 (i := 0) (j := 2) (by kernel_rfl) rfl rfl (l_E (l_lit0T 0 rfl (by decide)) rfl rfl rfl) rfl rfl (e_of_p (zU rfl rfl rfl)) ⟨_, by dsimp only [bitvec_to_nat, Nat.reduceAdd, Nat.reduceMul, Nat.reduceBEq, reduceCtorEq, posI, optP, lendM1, lendMA, lendMP, killM1, killMA, killMP, hasI, getO, backM1, backMA, backMP, putL, inpM, pinM1, pinMA, pinMP], ?_⟩ ⟨_, by dsimp only [bitvec_to_nat, Nat.reduceAdd, Nat.reduceMul, Nat.reduceBEq, reduceCtorEq, posI, optP, lendM1, lendMA, lendMP, killM1, killMA, killMP, hasI, getO, backM1, backMA, backMP, putL, inpM, pinM1, pinMA, pinMP], ?_⟩
      · refine b_2 (i := 2) (j := 4) (by kernel_rfl) rfl rfl (e_of_p (zU rfl rfl rfl)) rfl rfl (e_of_p (zA rfl)) ⟨_, by dsimp only [bitvec_to_nat, Nat.reduceAdd, Nat.reduceMul, Nat.reduceBEq, reduceCtorEq, posI, optP, lendM1, lendMA, lendMP, killM1, killMA, killMP, hasI, getO, backM1, backMA, backMP, putL, inpM, pinM1, pinMA, pinMP], ?_⟩ ⟨_, by dsimp only [bitvec_to_nat, Nat.reduceAdd, Nat.reduceMul, Nat.reduceBEq, reduceCtorEq, posI, optP, lendM1, lendMA, lendMP, killM1, killMA, killMP, hasI, getO, backM1, backMA, backMP, putL, inpM, pinM1, pinMA, pinMP], ?_⟩
        · refine b_2 (i := 3) (j := 4) (by kernel_rfl) rfl rfl (l_E (l_make (zp := B false) 1 rfl rfl rfl (by omega) (by omega) (by omega) (by decide) (by rfl) (by rfl)) rfl rfl rfl) rfl rfl (e_of_p (zA rfl)) ⟨_, by dsimp only [bitvec_to_nat, Nat.reduceAdd, Nat.reduceMul, Nat.reduceBEq, reduceCtorEq, posI, optP, lendM1, lendMA, lendMP, killM1, killMA, killMP, hasI, getO, backM1, backMA, backMP, putL, inpM, pinM1, pinMA, pinMP], ?_⟩ ⟨_, by dsimp only [bitvec_to_nat, Nat.reduceAdd, Nat.reduceMul, Nat.reduceBEq, reduceCtorEq, posI, optP, lendM1, lendMA, lendMP, killM1, killMA, killMP, hasI, getO, backM1, backMA, backMP, putL, inpM, pinM1, pinMA, pinMP], ?_⟩
          · refine b_1 (i := 4) (by kernel_rfl) rfl rfl (e_of_p (zA rfl)) ⟨_, by dsimp only [bitvec_to_nat, Nat.reduceAdd, Nat.reduceMul, Nat.reduceBEq, reduceCtorEq, posI, optP, lendM1, lendMA, lendMP, killM1, killMA, killMP, hasI, getO, backM1, backMA, backMP, putL, inpM, pinM1, pinMA, pinMP], ?_⟩
            refine b_1 (i := 5) (by kernel_rfl) rfl rfl (e_of_p (zA rfl)) ⟨_, by dsimp only [bitvec_to_nat, Nat.reduceAdd, Nat.reduceMul, Nat.reduceBEq, reduceCtorEq, posI, optP, lendM1, lendMA, lendMP, killM1, killMA, killMP, hasI, getO, backM1, backMA, backMP, putL, inpM, pinM1, pinMA, pinMP], ?_⟩
            exact b_end (by kernel_rfl) rfl
          · refine b_1 (i := 3) (by kernel_rfl) rfl rfl (l_E (l_make (zp := B false) 1 rfl rfl rfl (by omega) (by omega) (by omega) (by decide) (by rfl) (by rfl)) rfl rfl rfl) ⟨_, by dsimp only [bitvec_to_nat, Nat.reduceAdd, Nat.reduceMul, Nat.reduceBEq, reduceCtorEq, posI, optP, lendM1, lendMA, lendMP, killM1, killMA, killMP, hasI, getO, backM1, backMA, backMP, putL, inpM, pinM1, pinMA, pinMP], ?_⟩
            refine b_1 (i := 5) (by kernel_rfl) rfl rfl (e_of_p (zA rfl)) ⟨_, by dsimp only [bitvec_to_nat, Nat.reduceAdd, Nat.reduceMul, Nat.reduceBEq, reduceCtorEq, posI, optP, lendM1, lendMA, lendMP, killM1, killMA, killMP, hasI, getO, backM1, backMA, backMP, putL, inpM, pinM1, pinMA, pinMP], ?_⟩
            exact b_end (by kernel_rfl) rfl
        · refine b_1 (i := 2) (by kernel_rfl) rfl rfl (e_of_p (zU rfl rfl rfl)) ⟨_, by dsimp only [bitvec_to_nat, Nat.reduceAdd, Nat.reduceMul, Nat.reduceBEq, reduceCtorEq, posI, optP, lendM1, lendMA, lendMP, killM1, killMA, killMP, hasI, getO, backM1, backMA, backMP, putL, inpM, pinM1, pinMA, pinMP], ?_⟩
          refine b_1 (i := 3) (by kernel_rfl) rfl rfl (l_E (l_make (zp := B false) 1 rfl rfl rfl (by omega) (by omega) (by omega) (by decide) (by rfl) (by rfl)) rfl rfl rfl) ⟨_, by dsimp only [bitvec_to_nat, Nat.reduceAdd, Nat.reduceMul, Nat.reduceBEq, reduceCtorEq, posI, optP, lendM1, lendMA, lendMP, killM1, killMA, killMP, hasI, getO, backM1, backMA, backMP, putL, inpM, pinM1, pinMA, pinMP], ?_⟩
          refine b_1 (i := 5) (by kernel_rfl) rfl rfl (e_of_p (zA rfl)) ⟨_, by dsimp only [bitvec_to_nat, Nat.reduceAdd, Nat.reduceMul, Nat.reduceBEq, reduceCtorEq, posI, optP, lendM1, lendMA, lendMP, killM1, killMA, killMP, hasI, getO, backM1, backMA, backMP, putL, inpM, pinM1, pinMA, pinMP], ?_⟩
          exact b_end (by kernel_rfl) rfl
      · refine b_2 (i := 0) (j := 3) (by kernel_rfl) rfl rfl (l_E (l_lit0T 0 rfl (by decide)) rfl rfl rfl) rfl rfl (l_E (l_make (zp := B false) 1 rfl rfl rfl (by omega) (by omega) (by omega) (by decide) (by rfl) (by rfl)) rfl rfl rfl) ⟨_, by dsimp only [bitvec_to_nat, Nat.reduceAdd, Nat.reduceMul, Nat.reduceBEq, reduceCtorEq, posI, optP, lendM1, lendMA, lendMP, killM1, killMA, killMP, hasI, getO, backM1, backMA, backMP, putL, inpM, pinM1, pinMA, pinMP], ?_⟩ ⟨_, by dsimp only [bitvec_to_nat, Nat.reduceAdd, Nat.reduceMul, Nat.reduceBEq, reduceCtorEq, posI, optP, lendM1, lendMA, lendMP, killM1, killMA, killMP, hasI, getO, backM1, backMA, backMP, putL, inpM, pinM1, pinMA, pinMP], ?_⟩
        · refine b_2 (i := 3) (j := 4) (by kernel_rfl) rfl rfl (l_E (l_make (zp := B false) 1 rfl rfl rfl (by omega) (by omega) (by omega) (by decide) (by rfl) (by rfl)) rfl rfl rfl) rfl rfl (e_of_p (zA rfl)) ⟨_, by dsimp only [bitvec_to_nat, Nat.reduceAdd, Nat.reduceMul, Nat.reduceBEq, reduceCtorEq, posI, optP, lendM1, lendMA, lendMP, killM1, killMA, killMP, hasI, getO, backM1, backMA, backMP, putL, inpM, pinM1, pinMA, pinMP], ?_⟩ ⟨_, by dsimp only [bitvec_to_nat, Nat.reduceAdd, Nat.reduceMul, Nat.reduceBEq, reduceCtorEq, posI, optP, lendM1, lendMA, lendMP, killM1, killMA, killMP, hasI, getO, backM1, backMA, backMP, putL, inpM, pinM1, pinMA, pinMP], ?_⟩
          · refine b_1 (i := 4) (by kernel_rfl) rfl rfl (e_of_p (zA rfl)) ⟨_, by dsimp only [bitvec_to_nat, Nat.reduceAdd, Nat.reduceMul, Nat.reduceBEq, reduceCtorEq, posI, optP, lendM1, lendMA, lendMP, killM1, killMA, killMP, hasI, getO, backM1, backMA, backMP, putL, inpM, pinM1, pinMA, pinMP], ?_⟩
            refine b_1 (i := 5) (by kernel_rfl) rfl rfl (e_of_p (zA rfl)) ⟨_, by dsimp only [bitvec_to_nat, Nat.reduceAdd, Nat.reduceMul, Nat.reduceBEq, reduceCtorEq, posI, optP, lendM1, lendMA, lendMP, killM1, killMA, killMP, hasI, getO, backM1, backMA, backMP, putL, inpM, pinM1, pinMA, pinMP], ?_⟩
            exact b_end (by kernel_rfl) rfl
          · refine b_1 (i := 3) (by kernel_rfl) rfl rfl (l_E (l_make (zp := B false) 1 rfl rfl rfl (by omega) (by omega) (by omega) (by decide) (by rfl) (by rfl)) rfl rfl rfl) ⟨_, by dsimp only [bitvec_to_nat, Nat.reduceAdd, Nat.reduceMul, Nat.reduceBEq, reduceCtorEq, posI, optP, lendM1, lendMA, lendMP, killM1, killMA, killMP, hasI, getO, backM1, backMA, backMP, putL, inpM, pinM1, pinMA, pinMP], ?_⟩
            refine b_1 (i := 5) (by kernel_rfl) rfl rfl (e_of_p (zA rfl)) ⟨_, by dsimp only [bitvec_to_nat, Nat.reduceAdd, Nat.reduceMul, Nat.reduceBEq, reduceCtorEq, posI, optP, lendM1, lendMA, lendMP, killM1, killMA, killMP, hasI, getO, backM1, backMA, backMP, putL, inpM, pinM1, pinMA, pinMP], ?_⟩
            exact b_end (by kernel_rfl) rfl
        · refine b_1 (i := 0) (by kernel_rfl) rfl rfl (l_E (l_lit0T 0 rfl (by decide)) rfl rfl rfl) ⟨_, by dsimp only [bitvec_to_nat, Nat.reduceAdd, Nat.reduceMul, Nat.reduceBEq, reduceCtorEq, posI, optP, lendM1, lendMA, lendMP, killM1, killMA, killMP, hasI, getO, backM1, backMA, backMP, putL, inpM, pinM1, pinMA, pinMP], ?_⟩
          refine b_1 (i := 4) (by kernel_rfl) rfl rfl (e_of_p (zA rfl)) ⟨_, by dsimp only [bitvec_to_nat, Nat.reduceAdd, Nat.reduceMul, Nat.reduceBEq, reduceCtorEq, posI, optP, lendM1, lendMA, lendMP, killM1, killMA, killMP, hasI, getO, backM1, backMA, backMP, putL, inpM, pinM1, pinMA, pinMP], ?_⟩
          refine b_1 (i := 5) (by kernel_rfl) rfl rfl (e_of_p (zA rfl)) ⟨_, by dsimp only [bitvec_to_nat, Nat.reduceAdd, Nat.reduceMul, Nat.reduceBEq, reduceCtorEq, posI, optP, lendM1, lendMA, lendMP, killM1, killMA, killMP, hasI, getO, backM1, backMA, backMP, putL, inpM, pinM1, pinMA, pinMP], ?_⟩
          exact b_end (by kernel_rfl) rfl
  repeat' (first
| refine g_seq ?_
| refine zJ ?_
| refine zC ?_
| (refine o_go rfl ?_; (first
| refine p_p (zA rfl) ?_); refine ⟨_, aB, ?_⟩)
| refine o_nil ?_)
  refine g_loopF (α := Nat) [18] (fun f => [(8, .hp 0), (10, I (f : Int))]) (fun f => [.arr true 1 3 (((List.range f).filter (bgR n T)).map Nn), .arr true 1 4 (((List.range f).map (enR n T)).map B ++ List.replicate (T.length - f) (B false))]) (fun f => f ≤ T.length) (fun f => T.length - f) 0 aH (Nat.zero_le _) ⟨rfl, rfl, trivial⟩ rfl ?_
  rintro f hf
  dsimp only [zZ, List.set_cons_zero, List.set_cons_succ]
  have hfl := filter_len (bgR n T) f
  have hl0 : (((List.range f).filter (bgR n T)).map Nn).length ≤ f := by rw [List.length_map]; exact hfl
  have hl1 : (((List.range f).map (enR n T)).map B).length = f := by simp
  have hl2 : (((List.range f).map (enR n T)).map B ++ List.replicate (T.length - f) (B false)).length = T.length := by simp; omega
  by_cases hf1 : f < T.length
  · have hix : (T.map ints)[((f : Nat) : Int).toNat]? = some (ints (T.getD f [])) := by rw [Int.toNat_natCast]; exact idx_ints hf1
    have htl := ht _ (getD_mem0 hf1)
    have q1 := spart_c n 1 (T.getD f []) hn8 (by decide) htl
    have q2 := spart_c n 2 (T.getD f []) hn8 (by decide) htl
    have g1 := gsame_c (valL n (T.getD f []) (wayL 1) (n * n)) (prjL n 2 0) (by rw [valL_len]; omega)
    have g2 := gsame_c (valL n (T.getD f []) (wayL 2) (n * n)) (prjL n 2 1) (by rw [valL_len]; omega)
    have hfi := haf f hf1
    have hset : ∀ v, (((List.range f).map (enR n T)).map B ++ List.replicate (T.length - f) (B false)).set f v = ((List.range f).map (enR n T)).map B ++ [v] ++ List.replicate (T.length - (f + 1)) (B false) := fun v => fillB hl1 hf1
    have hnx : ((List.range f).map (enR n T)).map B ++ [B (enR n T f)] ++ List.replicate (T.length - (f + 1)) (B false) = ((List.range (f + 1)).map (enR n T)).map B ++ List.replicate (T.length - (f + 1)) (B false) := by rw [range_snoc, List.map_append]; rfl
    have hen : enR n T f = (fixB n (T.getD f []) && decide (valL n (T.getD f []) (wayL 2) (n * n) = prjL n 2 1)) := rfl
    have hbg : bgR n T f = (fixB n (T.getD f []) && decide (valL n (T.getD f []) (wayL 1) (n * n) = prjL n 2 0)) := rfl
    have hfs := filt_snoc (bgR n T) f
    generalize fixB n (T.getD f []) = c1 at *
    generalize decide (valL n (T.getD f []) (wayL 1) (n * n) = prjL n 2 0) = c2 at *
    generalize decide (valL n (T.getD f []) (wayL 2) (n * n) = prjL n 2 1) = c3 at *
    cases c1
    · rw [hbg] at hfs
      rw [hen] at hnx
      repeat' (first
| refine g_seq ?_
| refine zJ ?_
| refine zC ?_
| (refine o_go rfl ?_; (first
| refine p_p (zN rfl rfl rfl (by omega) hfi (by exact rfl)) ?_
| refine p_p (yA rfl rfl rfl rfl (by omega) (by omega)) ?_
| refine p_e (by kernel_rfl) (e_store_arr rfl rfl rfl rfl (by omega) rfl rfl) ?_
| refine p_p (zD rfl) ?_
| refine p_p (zA rfl) ?_
| refine p_p (zF rfl rfl) ?_
| refine p_p (zU rfl rfl rfl) ?_
| refine p_p (zS rfl rfl rfl) ?_
| refine p_p (ps_add rfl rfl rfl aN) ?_
| refine p_p (zQ rfl rfl) ?_); refine ⟨_, aB, ?_⟩)
| refine o_nil ?_
| (refine o_s rfl ?_; refine ⟨_, aB, ?_⟩)
| refine zW rfl ?_
| (refine zK rfl (fun hc => ?_) (fun hc => ?_) <;> try (exfalso; omega))
| refine zR ?_)
      all_goals try (exfalso; omega)
      exact zT (f + 1) (by omega) (by omega) aI ⟨rfl, rfl, trivial⟩ (zB (by rw [hfs, List.map_append]; simp) (zB (by rw [Nat.mul_one, hset, ← hnx]; rfl) (zM _)))
    · rw [hbg] at hfs
      rw [hen] at hnx
      cases c2
      · repeat' (first
| refine g_seq ?_
| refine zJ ?_
| refine zC ?_
| (refine o_go rfl ?_; (first
| refine p_p (zN rfl rfl rfl (by omega) hfi (by exact rfl)) ?_
| refine p_p (zN rfl rfl rfl (by omega) hix (by exact rfl)) ?_
| refine p_p (zG rfl rfl aC (q1)) ?_
| refine p_p (zG rfl rfl aC (q2)) ?_
| refine p_p (zG rfl rfl aC (b1)) ?_
| refine p_p (zG rfl rfl aC (b2)) ?_
| refine p_p (zG rfl rfl aC (g1)) ?_
| refine p_p (zG rfl rfl aC (g2)) ?_
| refine p_p (yA rfl rfl rfl rfl (by omega) (by omega)) ?_
| refine p_e (by kernel_rfl) (e_store_arr rfl rfl rfl rfl (by omega) rfl rfl) ?_
| refine p_p (zD rfl) ?_
| refine p_p (zA rfl) ?_
| refine p_p (zF rfl rfl) ?_
| refine p_p (zU rfl rfl rfl) ?_
| refine p_p (zS rfl rfl rfl) ?_
| refine p_p (ps_add rfl rfl rfl aN) ?_
| refine p_p (zQ rfl rfl) ?_); refine ⟨_, aB, ?_⟩)
| refine o_nil ?_
| refine zW rfl ?_
| (refine zK rfl (fun hc => ?_) (fun hc => ?_) <;> try (exfalso; omega))
| refine zR ?_)
        all_goals try (exfalso; omega)
        exact zT (f + 1) (by omega) (by omega) aI ⟨rfl, rfl, trivial⟩ (zB (by rw [hfs, List.map_append]; simp) (zB (by rw [Nat.mul_one, hset, ← hnx]; rfl) (zM _)))
      · repeat' (first
| refine g_seq ?_
| refine zJ ?_
| refine zC ?_
| (refine o_go rfl ?_; (first
| refine p_p (zN rfl rfl rfl (by omega) hfi (by exact rfl)) ?_
| refine p_p (zN rfl rfl rfl (by omega) hix (by exact rfl)) ?_
| refine p_p (zG rfl rfl aC (q1)) ?_
| refine p_p (zG rfl rfl aC (q2)) ?_
| refine p_p (zG rfl rfl aC (b1)) ?_
| refine p_p (zG rfl rfl aC (b2)) ?_
| refine p_p (zG rfl rfl aC (g1)) ?_
| refine p_p (zG rfl rfl aC (g2)) ?_
| refine p_p (yA rfl rfl rfl rfl (by omega) (by omega)) ?_
| refine p_e (by kernel_rfl) (e_store_arr rfl rfl rfl rfl (by omega) rfl rfl) ?_
| refine p_e (by kernel_rfl) (e_append rfl rfl rfl rfl rfl rfl (one_one rfl) rfl aP aP) ?_
| refine p_p (zD rfl) ?_
| refine p_p (zA rfl) ?_
| refine p_p (zF rfl rfl) ?_
| refine p_p (zU rfl rfl rfl) ?_
| refine p_p (zS rfl rfl rfl) ?_
| refine p_p (ps_add rfl rfl rfl aN) ?_
| refine p_p (zQ rfl rfl) ?_
| refine p_p (ps_lit1 rfl rfl (by rfl) (by rfl)) ?_); refine ⟨_, aB, ?_⟩)
| refine o_nil ?_
| refine zX rfl ?_
| (refine zK rfl (fun hc => ?_) (fun hc => ?_) <;> try (exfalso; omega))
| refine zR ?_)
        all_goals try (exfalso; omega)
        exact zT (f + 1) (by omega) (by omega) aI ⟨rfl, rfl, trivial⟩ (zB (by rw [hfs, List.map_append]; rfl) (zB (by rw [Nat.mul_one, hset, ← hnx]; rfl) (zM _)))
  · obtain rfl : f = T.length := by omega
    rw [Nat.sub_self, List.replicate_zero, List.append_nil]
    have a9 := schain_c T.length ((List.range T.length).filter (bgR n T)) ((List.range T.length).map (enR n T)) (mayL n 2 1 al T T.length) (mayL n 2 1 al T T.length) 11 (by omega) (by simp) (mayL_ok ..) (mayL_ok ..) (fun x hx => List.mem_range.1 (List.mem_filter.1 hx).1) (by omega) (by decide)
    obtain ⟨o1, o2⟩ := opL_of hS chainW_no
    rw [o1, o2, show ints (((List.range T.length).filter (bgR n T)).map Int.ofNat) = .sl 1 none (((List.range T.length).filter (bgR n T)).map Nn) by rw [ints, List.map_map]; rfl] at a9
    refine g_freezeP 0 rfl ⟨_, by dsimp only [bitvec_to_nat, Nat.reduceAdd, Nat.reduceMul, Nat.reduceBEq, reduceCtorEq, posI, optP, lendM1, lendMA, lendMP, killM1, killMA, killMP, hasI, getO, backM1, backMA, backMP, putL, inpM, pinM1, pinMA, pinMP], ?_⟩
    refine g_freezeP 1 rfl ⟨_, by dsimp only [bitvec_to_nat, Nat.reduceAdd, Nat.reduceMul, Nat.reduceBEq, reduceCtorEq, posI, optP, lendM1, lendMA, lendMP, killM1, killMA, killMP, hasI, getO, backM1, backMA, backMP, putL, inpM, pinM1, pinMA, pinMP], ?_⟩
    repeat' (first
| refine g_seq ?_
| refine zC ?_
| (refine o_go rfl ?_; (first
| refine p_p (zG rfl rfl aC (a9)) ?_
| refine p_p (zD rfl) ?_
| refine p_p (zA rfl) ?_
| refine p_p (zU rfl rfl rfl) ?_
| refine p_p (zS rfl rfl rfl) ?_
| refine p_p (ps_extract rfl rfl rfl) ?_
| refine p_p (ps_lit2 rfl rfl rfl (by rfl) (by rfl) (by rfl)) ?_); refine ⟨_, aB, ?_⟩)
| refine o_nil ?_
| (refine zK rfl (fun hc => ?_) (fun hc => ?_) <;> try (exfalso; omega))
| refine kr2 ?_ ?_
| refine krB rfl ?_
| refine krS rfl ?_
| refine g_exit ?_
| refine g_ret ?_)
    all_goals first | rfl | (exfalso; omega)
end Go.Proofs.YtlgfniaakjchgaaGreat
