/- Walks: the program's chainer, made. -/
import Derived.Test.YtlgfniaakjchgaaGreatLGh
import Derived.Test.YtlgfniaakjchgaaGreatLZc
namespace Go.Proofs.YtlgfniaakjchgaaGreat
open Go Go.Pv Go.Proofs
set_option maxHeartbeats 32000000
set_option maxRecDepth 100000
attribute [local bitvec_to_nat] St.put St.setObj St.ev killP killA killP1 killH mapHO renP renA ren1 killG killGA killG1 krowP krowA krow1 lendP lendA lend1 unv pinP pin1 elemsM viewM viewN viewV n_set_z n_set_s n_map_c n_map_n getD_z getD_s n_toNat n_cond_t n_cond_f n_len_c n_len_n n_app_c n_app_n n_take_s n_take_z n_drop_s n_drop_z n_get_z n_get_s view viewA view1 elems Nat.zero_add Nat.add_zero Bool.not_true Bool.not_false Nat.one_ne_zero Nat.mul_one
attribute [local bitvec_to_nat] posI optP lendM1 lendMA lendMP killM1 killMA killMP hasI getO backM1 backMA backMP putL inpM pinM1 pinMA pinMP

theorem cloneV_ok {n k : Nat} {ops : List OpD} {E : List Ent} (hn0 : 0 < n) (hk0 : 0 < k) (hk : k ≤ 3) (ho : ∀ f ∈ ops, opOk n f = true) (h : cloneV n k ops = some E) : (∀ c ∈ E, entOk n (n ^ k) c) ∧ E.length ≤ 60 := by
  have h1 := specW_spec (n := n) (k := k) (ops := ops) hn0 hk0 hk ho
  rw [h] at h1
  obtain ⟨h1, h2, h3⟩ := h1
  dsimp only at h3
  rw [h3] at h1 h2
  exact ⟨h1, h2⟩
abbrev vOut (n : Nat) (t : List Int) : List Int := valL n t [0, 1, 0] (n * n)
abbrev vLeft (n : Nat) (t : List Int) : List Int := valL n t [0, 0, 1] (n * n)
abbrev vRight (n : Nat) (t : List Int) : List Int := valL n t [0, 1, 1] (n * n)
def fixL (n : Nat) (T : List (List Int)) : List Bool := T.map fun t => decide (vOut n t = prjL n 2 0)
def lefL (n : Nat) (T : List (List Int)) : List (List Int) := T.map (vLeft n)
def rigL (n : Nat) (T : List (List Int)) : List (List Int) := T.map (vRight n)
abbrev blsP (l : List Bool) : PV := .sl 1 none (l.map B)
abbrev chP (n : Nat) (T : List (List Int)) : PV := .ptr [I (n : Int), intss T, blsP (fixL n T), intss (lefL n T), intss (rigL n T), I (placeT T (prjL n 3 0)), I (placeT T (prjL n 3 2))]
def chH (n : Nat) (T : List (List Int)) : Nat → List HO
  | 0 => [.box [I (n : Int), intss T, nilV, nilV, nilV, I 0, I 0], .gone, .gone, .gone]
  | i + 1 => [.box [I (n : Int), intss T, .hp 2, .hp 3, .hp 4, I 0, I 0], .arr true 1 4 ((fixL n (T.take (i + 1))).map B), .arr true 1 31 ((lefL n (T.take (i + 1))).map ints), .arr true 1 31 ((rigL n (T.take (i + 1))).map ints)]
theorem chH_end {n : Nat} {T : List (List Int)} (h : 0 < T.length) : chH n T T.length = [.box [I (n : Int), intss T, .hp 2, .hp 3, .hp 4, I 0, I 0], .arr true 1 4 ((fixL n T).map B), .arr true 1 31 ((lefL n T).map ints), .arr true 1 31 ((rigL n T).map ints)] := by
  obtain ⟨m, hm⟩ : ∃ m, T.length = m + 1 := ⟨T.length - 1, by omega⟩
  have h1 : T.take (m + 1) = T := by rw [← hm, List.take_length]
  rw [hm, chH, h1]
theorem inew_c (n : Nat) (ops : List OpD) (E : List Ent) (hl : szOk ops) (hg : algOk (n : Int) ops = true) (hn3 : n ≤ 3) (hE : cloneV n 3 ops = some E) (hE0 : 0 < E.length) :
    PCalls Tryz.prog 20 [algP (n : Int) ops] (.tup [chP n (tabsE E), B true]) := by
  refine pcalls2 Tryz.func20 rfl Tryz.ntmps20 rfl ?_
  simp only [List.length_cons, List.length_nil, Nat.reduceAdd, Nat.reduceSub, List.replicate_succ, List.replicate_zero, List.cons_append, List.nil_append]
  obtain ⟨⟨hn0, hn⟩, hol, ho⟩ := algOk_ops hg
  obtain ⟨hEok, hE6⟩ := cloneV_ok hn0 (by decide) (by decide) ho hE
  have h27 : n ^ 3 ≤ 27 := Nat.pow_le_pow_left hn3 3
  have h1 := igood_c n ops hl
  rw [hg] at h1
  have h2 := iterm_c n 3 ops hl hg (by decide) (by decide) h27
  rw [hE] at h2
  have h3 := firsts_c n hn0 hn
  have hTl : ∀ t ∈ tabsE E, t.length = n ^ 3 := fun t ht => by
    obtain ⟨c, hc, rfl⟩ := List.mem_map.1 ht
    exact (hEok c hc).1
  have hT6 := tabs_len E
  have hp0 := iprj_c n 3 0 hn0 hn (by decide) (by decide)
  have hp2 := iprj_c n 3 2 hn0 hn (by decide) (by decide)
  dsimp only [fndP] at h2
  generalize tabsE E = T at *
  generalize stepsE E = Sx at *
  repeat' (first
| refine g_seq ?_
| refine zJ ?_
| refine zC ?_
| refine zP (by kernel_rfl) (by kernel_rfl) ?_
| (refine o_go rfl ?_; (first
| refine p_e rfl (e_box rfl rfl) ?_
| refine p_p (zG rfl rfl aC (h1)) ?_
| refine p_p (zG rfl rfl aC (h2)) ?_
| refine p_p (ps_unv (ps_nilCheck_hat rfl rfl)) ?_
| refine p_p (zD rfl) ?_
| refine p_p (zA rfl) ?_
| refine p_p (zF rfl rfl) ?_
| refine p_p (zU rfl rfl rfl) ?_
| refine p_p (zL rfl rfl) ?_
| refine p_p (ps_extract rfl rfl rfl) ?_
| refine p_p (ps_not rfl rfl) ?_
| refine p_p (zQ rfl rfl) ?_
| refine p_p (ps_gtr rfl rfl rfl) ?_
| refine p_p (ps_nilCheck rfl rfl) ?_
| refine p_p (zH rfl rfl rfl rfl) ?_
| refine p_p (zY rfl rfl rfl aK) ?_
| refine p_p (zE rfl rfl) ?_
| refine p_p (ps_build rfl rfl) ?_); refine ⟨_, aB, ?_⟩)
| refine o_nil ?_
| refine zW rfl ?_
| (refine zK rfl (fun hc => ?_) (fun hc => ?_) <;> try (exfalso; omega))
| refine zR ?_)
  all_goals try (exfalso; omega)
  refine g_gones [.gone, .gone, .gone] ⟨rfl, rfl, rfl, trivial⟩ ⟨_, by dsimp only [bitvec_to_nat, Nat.reduceAdd, Nat.reduceMul, Nat.reduceBEq, reduceCtorEq, posI, optP, lendM1, lendMA, lendMP, killM1, killMA, killMP, hasI, getO, backM1, backMA, backMP, putL, inpM, pinM1, pinMA, pinMP], ?_⟩
  refine g_loopT (α := Nat) (fun i => [(37, I (i : Int))]) (fun i => .box [I (n : Int), opsP ops] :: chH n T i) (fun i => i ≤ T.length) (fun i => T.length - i) 0 aH (Nat.zero_le _) ⟨rfl, trivial⟩ rfl ?_
  rintro i hi
  dsimp only [zZ, List.set_cons_zero, List.set_cons_succ]
  have hmi : (T.map ints).length = T.length := List.length_map ..
  by_cases hit : i < T.length
  · obtain ⟨t, ht⟩ : ∃ t, T[i]? = some t := ⟨_, List.getElem?_eq_getElem hit⟩
    have htT := hTl t (List.mem_of_getElem? ht)
    have hix : (T.map ints)[i]? = some (ints t) := by rw [List.getElem?_map, ht]; rfl
    have hva := ivalues_c n t [0, 1, 0] hn0 hn rfl (by decide) htT
    have hvb := ivalues_c n t [0, 0, 1] hn0 hn rfl (by decide) htT
    have hvc := ivalues_c n t [0, 1, 1] hn0 hn rfl (by decide) htT
    have hnn : n * n ≤ 64 := Nat.mul_le_mul hn hn
    have hsm := gisame_c (vOut n t) (prjL n 2 0) (by rw [valL_len]; omega)
    rcases i with _ | i
    · dsimp only [chH]
      repeat' (first
| refine g_seq ?_
| refine zJ ?_
| refine zC ?_
| (refine o_go rfl ?_; (first
| refine p_p (zN rfl rfl rfl (by omega) hix (by exact rfl)) ?_
| refine p_p (zA rfl) ?_
| refine p_p (zF rfl rfl) ?_
| refine p_p (zS rfl rfl rfl) ?_); refine ⟨_, aB, ?_⟩)
| refine o_nil ?_
| (refine zK rfl (fun hc => ?_) (fun hc => ?_) <;> try (exfalso; omega))
| refine zR ?_)
      all_goals try (exfalso; omega)
      refine g_region_drawZ [(0, some [5]), (1, some [5]), (2, some [5]), (3, some [5]), (4, some []), (5, some [5]), (6, some [5]), (7, some [5]), (8, some [5]), (9, some [5]), (10, some [5]), (12, some [5]), (13, some [5]), (14, some [5]), (15, some [5]), (11, none), (16, none), (17, none), (18, none), (19, none), (20, none), (21, none), (22, none)] [(19, 5), (22, 999999)] (fun hp => hp[1]? = some (.box [I (n : Int), intss T, nilV, nilV, nilV, I 0, I 0])) (by kernel_rfl) rfl (by kernel_rfl) ?_
      repeat' (first
| refine z_nil ?_
| ((first
| refine zV rfl rfl (fun hp hH => zH rfl rfl hH rfl) aJ aD (by decide) aA ?_
| refine zV rfl rfl (fun hp hH => ps_unv (ps_nilCheck_hat rfl rfl)) aJ aD (by decide) aA ?_
| refine zV rfl rfl (fun hp hH => ps_lit3 rfl rfl rfl rfl (by rfl) (by rfl) (by rfl) (by rfl)) aJ aW (by decide) aA ?_
| refine zV rfl rfl (fun _ _ => zD rfl) aJ aD (by decide) aA ?_
| refine zV rfl rfl (fun _ _ => zE rfl rfl) aJ aD (by decide) aA ?_
| refine z_eff rfl rfl aG (j_pure (zG rfl rfl aC (hva))) aF ?_
| refine z_eff rfl rfl aG (j_pure (zG rfl rfl aC (h3))) aF ?_
| refine z_eff rfl rfl aG (j_pure (zG rfl rfl aC (hsm))) aF ?_
| refine z_eff rfl rfl aG (j_pure (ps_unv (ps_nilCheck_hat rfl rfl))) aF ?_
| refine z_eff rfl rfl aG (j_appendNil rfl rfl rfl rfl (one_one rfl) (by decide) rfl aP aP aP) aF ?_
| refine z_eff rfl rfl aG (j_store_boxC rfl rfl rfl rfl aK rfl rfl) aF ?_
| refine z_eff rfl rfl aG (j_pure (zE rfl rfl)) aF ?_
| refine z_eff rfl rfl aG (j_pure (ps_lit1 rfl rfl (by rfl) (by rfl))) aF ?_); refine ⟨_, aQ, ?_⟩))
      repeat' (first
| refine g_seq ?_)
      refine g_region_drawZ [(0, some [6]), (1, some [6]), (2, some [6]), (3, some [6]), (4, some []), (5, some [6]), (6, some [6]), (7, some [6]), (8, some [6]), (9, some [6]), (10, some [6]), (11, none), (12, none), (13, none), (14, none), (15, none), (16, none)] [(13, 6), (16, 999999)] (fun hp => hp[1]? = some (.box [I (n : Int), intss T, .hp 5, nilV, nilV, I 0, I 0])) (by kernel_rfl) rfl (by kernel_rfl) ?_
      repeat' (first
| refine z_nil ?_
| ((first
| refine zV rfl rfl (fun hp hH => zH rfl rfl hH rfl) aJ aD (by decide) aA ?_
| refine zV rfl rfl (fun hp hH => ps_unv (ps_nilCheck_hat rfl rfl)) aJ aD (by decide) aA ?_
| refine zV rfl rfl (fun hp hH => ps_lit3 rfl rfl rfl rfl (by rfl) (by rfl) (by rfl) (by rfl)) aJ aW (by decide) aA ?_
| refine zV rfl rfl (fun _ _ => zD rfl) aJ aD (by decide) aA ?_
| refine zV rfl rfl (fun _ _ => zE rfl rfl) aJ aD (by decide) aA ?_
| refine z_eff rfl rfl aG (j_pure (zG rfl rfl aC (hvb))) aF ?_
| refine z_eff rfl rfl aG (j_pure (ps_unv (ps_nilCheck_hat rfl rfl))) aF ?_
| refine z_eff rfl rfl aG (j_appendNil rfl rfl rfl rfl (one_one rfl) (by decide) rfl aP aP aP) aF ?_
| refine z_eff rfl rfl aG (j_store_boxC rfl rfl rfl rfl aK rfl rfl) aF ?_
| refine z_eff rfl rfl aG (j_pure (zE rfl rfl)) aF ?_
| refine z_eff rfl rfl aG (j_pure (ps_lit1 rfl rfl (by rfl) (by rfl))) aF ?_); refine ⟨_, aQ, ?_⟩))
      repeat' (first
| ((refine g_seq ?_); trace "@W9352047598626e7b.o65f97fd403")
| ((refine zJ ?_); trace "@W9352047598626e7b.ob498b46fe7")
| ((refine zC ?_); trace "@W9352047598626e7b.o244684d497")
| (refine o_go rfl ?_; (first
| (refine p_p (zD rfl) ?_; trace "@W9352047598626e7b.i88afafc5ed")
| (refine p_p (zA rfl) ?_; trace "@W9352047598626e7b.i8ba5b8203b")
| (refine p_p (zF rfl rfl) ?_; trace "@W9352047598626e7b.ide9392a449")
| (refine p_p (ps_load_agg rfl rfl aK) ?_; trace "@W9352047598626e7b.id5e9fce031")
| (refine p_p (ps_load_agg rfl rfl (Nat.le_refl _)) ?_; trace "@W9352047598626e7b.i7357a97840")
| (refine p_p (zN rfl rfl rfl (by omega) aR (by exact rfl)) ?_; trace "@W9352047598626e7b.ifd94cb0229")
| (refine p_p (zU rfl rfl rfl) ?_; trace "@W9352047598626e7b.i651e23b408")
| (refine p_p (ps_len rfl rfl rfl) ?_; trace "@W9352047598626e7b.i48953a2eae")
| (refine p_p (zS rfl rfl rfl) ?_; trace "@W9352047598626e7b.iece3698938")
| (refine p_p (ps_add rfl rfl rfl aN) ?_; trace "@W9352047598626e7b.iab4644b76d")
| (refine p_p (zL rfl rfl) ?_; trace "@W9352047598626e7b.ia51eaa1f88")
| (refine p_p (ps_extract rfl rfl rfl) ?_; trace "@W9352047598626e7b.i71d836e875")
| (refine p_p (ps_not rfl rfl) ?_; trace "@W9352047598626e7b.i6306b71400")
| (refine p_p (zQ rfl rfl) ?_; trace "@W9352047598626e7b.i07da16aa24")
| (refine p_p (ps_leq rfl rfl rfl) ?_; trace "@W9352047598626e7b.id13d0d2e36")
| (refine p_p (ps_gtr rfl rfl rfl) ?_; trace "@W9352047598626e7b.ief6e49898e")
| (refine p_p (ps_geq rfl rfl rfl) ?_; trace "@W9352047598626e7b.ie4d9949433")
| (refine p_p (ps_eql rfl rfl rfl) ?_; trace "@W9352047598626e7b.if2e43d169a")
| (refine p_p (ps_neq rfl rfl rfl) ?_; trace "@W9352047598626e7b.i9d1f50cfeb")
| (refine p_p (ps_sub rfl rfl rfl aN) ?_; trace "@W9352047598626e7b.i99d1030057")
| (refine p_p (ps_nilCheck rfl rfl) ?_; trace "@W9352047598626e7b.i922a565813")
| (refine p_p (ps_nilCheck_fn rfl rfl) ?_; trace "@W9352047598626e7b.i4dd2db0b95")
| (refine p_p (ps_field rfl rfl rfl) ?_; trace "@W9352047598626e7b.ic88f26a11b")
| (refine p_p (ps_eqnil rfl rfl rfl) ?_; trace "@W9352047598626e7b.i47e580ed5f")
| (refine p_p (ps_eqnil_v rfl rfl rfl) ?_; trace "@W9352047598626e7b.i9fbbd4fa49")
| (refine p_p (ps_eqnil_o rfl rfl rfl rfl) ?_; trace "@W9352047598626e7b.i1223e0e181")
| (refine p_p (ps_len_mut rfl rfl rfl rfl) ?_; trace "@W9352047598626e7b.i8a6735b410")
| (refine p_p (ps_len_grid rfl rfl rfl rfl) ?_; trace "@W9352047598626e7b.i318c95d166")
| (refine p_p (ps_len_pg rfl rfl rfl rfl) ?_; trace "@W9352047598626e7b.i4ef8d11fcb")
| (refine p_p (ps_index_pg rfl rfl rfl rfl (by omega) (by first | omega | (rw [n_toNat]; omega))) ?_; trace "@W9352047598626e7b.idf722618c6")
| (refine p_p (ps_index_grid rfl rfl rfl rfl (by omega) aU) ?_; trace "@W9352047598626e7b.iff64d9ecd7")
| (refine p_e rfl (e_store_row rfl rfl rfl rfl aU (by omega) rfl rfl rfl (by first | exact one_all (fun _ => rfl) _ | exact one_rep rfl _ | rfl)) ?_; trace "@W9352047598626e7b.i711dd71843")
| (refine p_p (zH rfl rfl rfl rfl) ?_; trace "@W9352047598626e7b.i68f3c2d5ad")
| (refine p_p (zY rfl rfl rfl aK) ?_; trace "@W9352047598626e7b.if8f792c19e")
| (refine p_p (ps_load_row rfl rfl rfl (by omega)) ?_; trace "@W9352047598626e7b.ib8c2b88593")
| (refine p_p (zE rfl rfl) ?_; trace "@W9352047598626e7b.i47032e2e0f")
| (refine p_p (yA rfl rfl rfl rfl (by omega) aU) ?_; trace "@W9352047598626e7b.i8f2952d551")
| (refine p_e rfl (e_make1 rfl rfl rfl (by omega) (by omega) (by omega) rfl rfl) ?_; trace "@W9352047598626e7b.if4afeff1b2")
| (refine p_e rfl (e_store_arr rfl rfl rfl rfl aU rfl rfl) ?_; trace "@W9352047598626e7b.i907d8262d4")
| (refine p_e rfl (e_store_boxC rfl rfl rfl rfl aK rfl rfl) ?_; trace "@W9352047598626e7b.id7908f556e")
| (refine p_e rfl (zO rfl rfl rfl rfl aK rfl rfl rfl) ?_; trace "@W9352047598626e7b.ic728ce408c")
| (refine p_e rfl (e_alloc rfl) ?_; trace "@W9352047598626e7b.i5e1a309ada")
| (refine p_e rfl (e_lit0 rfl (by decide)) ?_; trace "@W9352047598626e7b.if2e4d4ba44")
| (refine p_e rfl (e_append rfl rfl rfl rfl rfl rfl (by first | exact one_one rfl | exact one_map (fun _ => rfl) _) rfl aU aU) ?_; trace "@W9352047598626e7b.id7271af66f")
| (refine p_p (ps_box rfl rfl) ?_; trace "@W9352047598626e7b.i34a392b571")
| (refine p_p (ps_makeFunc rfl rfl rfl) ?_; trace "@W9352047598626e7b.ia900154b8d")
| (refine p_p (ps_lit1 rfl rfl (by rfl) (by rfl)) ?_; trace "@W9352047598626e7b.i8f202a48dc")
| (refine p_p (ps_lit2 rfl rfl rfl (by rfl) (by rfl) (by rfl)) ?_; trace "@W9352047598626e7b.i07bd212676")
| (refine p_p (ps_lit3 rfl rfl rfl rfl (by rfl) (by rfl) (by rfl) (by rfl)) ?_; trace "@W9352047598626e7b.i5480dac4e8")
| (refine p_p (ps_build rfl rfl) ?_; trace "@W9352047598626e7b.i7cef79f103")); refine ⟨_, aB, ?_⟩)
| ((refine o_nil ?_); trace "@W9352047598626e7b.ocdf983927a")
| (((refine o_s rfl ?_; refine ⟨_, aB, ?_⟩)); trace "@W9352047598626e7b.o7ee5af373e")
| (((refine o_splitD rfl rfl rfl (fun hc => ?_) (fun hc => ?_) <;> first | (exfalso; omega) | dsimp only [List.set_cons_zero, List.set_cons_succ])); trace "@W9352047598626e7b.o20c7b17272")
| (((refine o_splitN rfl rfl rfl (fun hc => ?_) (fun hc => ?_) <;> dsimp only [List.set_cons_zero, List.set_cons_succ])); trace "@W9352047598626e7b.o39a797b970")
| (((refine o_splitA rfl rfl rfl (fun hc => ?_) (fun hc => ?_) <;> dsimp only [List.set_cons_zero, List.set_cons_succ])); trace "@W9352047598626e7b.oabd4d77a95")
| ((refine zX rfl ?_); trace "@W9352047598626e7b.oc154c16280")
| ((refine zW rfl ?_); trace "@W9352047598626e7b.o3282fba877")
| (((refine g_condN rfl (fun hc => ?_) (fun hc => ?_) <;> try (exfalso; omega))); trace "@W9352047598626e7b.o83258699ff")
| (((refine zK rfl (fun hc => ?_) (fun hc => ?_) <;> try (exfalso; omega))); trace "@W9352047598626e7b.o1e04d83f15")
| (((refine g_condNB rfl (fun hc => ?_) (fun hc => ?_))); trace "@W9352047598626e7b.oee4790fb4c")
| (((refine g_cond rfl (fun hc => ?_) (fun hc => ?_))); trace "@W9352047598626e7b.oe00bf9e6d2")
| ((refine krr 0 rfl (HandOut.arr rfl ?_ aL)); trace "@W9352047598626e7b.oad12103aab")
| ((refine krr 1 rfl (HandOut.arr rfl ?_ aL)); trace "@W9352047598626e7b.o8cd57cde5f")
| ((refine krr 2 rfl (HandOut.arr rfl ?_ aL)); trace "@W9352047598626e7b.o9aece4f3a6")
| ((refine krr 3 rfl (HandOut.arr rfl ?_ aL)); trace "@W9352047598626e7b.o44eb9ac1ef")
| ((refine krr 4 rfl (HandOut.arr rfl ?_ aL)); trace "@W9352047598626e7b.o3def1745a9")
| ((refine krr 5 rfl (HandOut.arr rfl ?_ aL)); trace "@W9352047598626e7b.o91e959740c")
| ((refine krr 6 rfl (HandOut.arr rfl ?_ aL)); trace "@W9352047598626e7b.o6c86d56a3b")
| ((refine krr 7 rfl (HandOut.arr rfl ?_ aL)); trace "@W9352047598626e7b.o5942104d0a")
| ((refine krr2 0 rfl rfl (HandOut.arr rfl ?_ aL)); trace "@W9352047598626e7b.o07e09161d5")
| ((refine krr2 1 rfl rfl (HandOut.arr rfl ?_ aL)); trace "@W9352047598626e7b.o68c0e5d197")
| ((refine krr2 2 rfl rfl (HandOut.arr rfl ?_ aL)); trace "@W9352047598626e7b.o4485c85a1b")
| ((refine krr2 3 rfl rfl (HandOut.arr rfl ?_ aL)); trace "@W9352047598626e7b.of9329e0cd7")
| ((refine krr2 4 rfl rfl (HandOut.arr rfl ?_ aL)); trace "@W9352047598626e7b.o8147e01ded")
| ((refine krr2 5 rfl rfl (HandOut.arr rfl ?_ aL)); trace "@W9352047598626e7b.oc99a9905e6")
| ((refine krr2 6 rfl rfl (HandOut.arr rfl ?_ aL)); trace "@W9352047598626e7b.o09a527e8de")
| ((refine krr2 7 rfl rfl (HandOut.arr rfl ?_ aL)); trace "@W9352047598626e7b.o8c6c5d1db5")
| ((refine krr2e 0 rfl rfl (eB ?_) (HandOut.arr rfl ?_ aL)); trace "@W9352047598626e7b.o5669d76986")
| ((refine krr2e 1 rfl rfl (eB ?_) (HandOut.arr rfl ?_ aL)); trace "@W9352047598626e7b.ocb3ac67a4e")
| ((refine krr2e 2 rfl rfl (eB ?_) (HandOut.arr rfl ?_ aL)); trace "@W9352047598626e7b.o4b9fa834c1")
| ((refine krr2e 3 rfl rfl (eB ?_) (HandOut.arr rfl ?_ aL)); trace "@W9352047598626e7b.o1092c2ee44")
| ((refine krr2e 4 rfl rfl (eB ?_) (HandOut.arr rfl ?_ aL)); trace "@W9352047598626e7b.oe579cf6fc6")
| ((refine kr1 ?_); trace "@W9352047598626e7b.oe1eb9f8bd6")
| ((refine kr2 ?_ ?_); trace "@W9352047598626e7b.oaec1875011")
| ((refine kr3 ?_ ?_ ?_); trace "@W9352047598626e7b.o5e3ee917a2")
| ((exact krAny); trace "@W9352047598626e7b.oe74fd368ad")
| ((refine krc ?_); trace "@W9352047598626e7b.o18a8ee30ba")
| ((refine krct ?_ ?_); trace "@W9352047598626e7b.o685f809f50")
| ((refine krC rfl aK ?_); trace "@W9352047598626e7b.o4f0533aaec")
| ((refine krC_any rfl aK); trace "@W9352047598626e7b.o7c23d5e8bd")
| ((refine krB rfl ?_); trace "@W9352047598626e7b.o7d5857dacb")
| ((refine krI rfl ?_); trace "@W9352047598626e7b.o7513cb2e80")
| ((refine krS rfl ?_); trace "@W9352047598626e7b.o4f5aa5cfca")
| ((refine krN rfl ?_); trace "@W9352047598626e7b.oe3bc73c9ca")
| ((refine krA rfl ?_); trace "@W9352047598626e7b.o0c8896477d")
| ((refine krP rfl ?_); trace "@W9352047598626e7b.o23c9c87ff3")
| ((refine zR ?_); trace "@W9352047598626e7b.o0cc4b7aaff")
| ((refine g_exit ?_); trace "@W9352047598626e7b.o8861bbd0ca")
| ((refine g_ret ?_); trace "@W9352047598626e7b.o5f22f2e9d7"))
      refine g_region_drawZ [(0, some [7]), (1, some [7]), (2, some [7]), (3, some [7]), (4, some []), (5, some [7]), (6, some [7]), (7, some [7]), (8, some [7]), (9, some [7]), (10, some [7]), (11, none), (12, none), (13, none), (14, none), (15, none), (16, none)] [(13, 7), (16, 999999)] (fun hp => hp[1]? = some (.box [I (n : Int), intss T, .hp 5, .hp 6, nilV, I 0, I 0])) (by kernel_rfl) rfl (by kernel_rfl) ?_
      repeat' (first
| refine z_nil ?_
| ((first
| refine zV rfl rfl (fun hp hH => zH rfl rfl hH rfl) aJ aD (by decide) aA ?_
| refine zV rfl rfl (fun hp hH => ps_unv (ps_nilCheck_hat rfl rfl)) aJ aD (by decide) aA ?_
| refine zV rfl rfl (fun hp hH => ps_lit3 rfl rfl rfl rfl (by rfl) (by rfl) (by rfl) (by rfl)) aJ aW (by decide) aA ?_
| refine zV rfl rfl (fun _ _ => zD rfl) aJ aD (by decide) aA ?_
| refine zV rfl rfl (fun _ _ => zE rfl rfl) aJ aD (by decide) aA ?_
| refine z_eff rfl rfl aG (j_pure (zG rfl rfl aC (hvc))) aF ?_
| refine z_eff rfl rfl aG (j_pure (ps_unv (ps_nilCheck_hat rfl rfl))) aF ?_
| refine z_eff rfl rfl aG (j_appendNil rfl rfl rfl rfl (one_one rfl) (by decide) rfl aP aP aP) aF ?_
| refine z_eff rfl rfl aG (j_store_boxC rfl rfl rfl rfl aK rfl rfl) aF ?_
| refine z_eff rfl rfl aG (j_pure (zE rfl rfl)) aF ?_
| refine z_eff rfl rfl aG (j_pure (ps_lit1 rfl rfl (by rfl) (by rfl))) aF ?_); refine ⟨_, aQ, ?_⟩))
      refine g_move 5 2 (by decide) rfl ⟨_, by dsimp only [List.map_cons, List.map_nil, mvP, mvA, mv1, mvH, mapHO, bitvec_to_nat, Nat.reduceAdd, Nat.reduceMul, Nat.reduceBEq, reduceCtorEq, posI, optP, lendM1, lendMA, lendMP, killM1, killMA, killMP, hasI, getO, backM1, backMA, backMP, putL, inpM, pinM1, pinMA, pinMP], ?_⟩
      refine g_move 6 3 (by decide) rfl ⟨_, by dsimp only [List.map_cons, List.map_nil, mvP, mvA, mv1, mvH, mapHO, bitvec_to_nat, Nat.reduceAdd, Nat.reduceMul, Nat.reduceBEq, reduceCtorEq, posI, optP, lendM1, lendMA, lendMP, killM1, killMA, killMP, hasI, getO, backM1, backMA, backMP, putL, inpM, pinM1, pinMA, pinMP], ?_⟩
      refine g_move 7 4 (by decide) rfl ⟨_, by dsimp only [List.map_cons, List.map_nil, mvP, mvA, mv1, mvH, mapHO, bitvec_to_nat, Nat.reduceAdd, Nat.reduceMul, Nat.reduceBEq, reduceCtorEq, posI, optP, lendM1, lendMA, lendMP, killM1, killMA, killMP, hasI, getO, backM1, backMA, backMP, putL, inpM, pinM1, pinMA, pinMP], ?_⟩
      repeat' (first
| refine zC ?_
| (refine o_go rfl ?_; (first
| refine p_p (zD rfl) ?_
| refine p_p (ps_add rfl rfl rfl aN) ?_); refine ⟨_, aB, ?_⟩)
| refine o_nil ?_)
      have ht1 : T.take 1 = [t] := by rw [List.take_add_one, ht]; rfl
      refine zT 1 (by omega) (by omega) aI ⟨rfl, trivial⟩ ?_
      dsimp only [chH]
      rw [ht1]
      exact zB rfl (zB rfl (zB rfl (zB rfl (zB rfl (zM _)))))
    · dsimp only [chH]
      have hf1 : ((fixL n (T.take (i + 1))).map B).length = i + 1 := by simp [fixL]; omega
      have hf2 : ((lefL n (T.take (i + 1))).map ints).length = i + 1 := by simp [lefL]; omega
      have hf3 : ((rigL n (T.take (i + 1))).map ints).length = i + 1 := by simp [rigL]; omega
      repeat' (first
| refine g_seq ?_
| refine zJ ?_
| refine zC ?_
| (refine o_go rfl ?_; (first
| refine p_p (zN rfl rfl rfl (by omega) hix (by exact rfl)) ?_
| refine p_p (zA rfl) ?_
| refine p_p (zF rfl rfl) ?_
| refine p_p (zS rfl rfl rfl) ?_); refine ⟨_, aB, ?_⟩)
| refine o_nil ?_
| (refine zK rfl (fun hc => ?_) (fun hc => ?_) <;> try (exfalso; omega))
| refine zR ?_)
      all_goals try (exfalso; omega)
      refine g_region_drawU [(0, some [2]), (1, some [2]), (2, some [2]), (3, some [2]), (4, some []), (5, some [2]), (6, some [2]), (7, some [2]), (8, some [2]), (9, some [2]), (10, some [2]), (12, some [2]), (13, some [2]), (14, some [2]), (15, some [2]), (11, none), (16, none), (17, none), (18, none), (19, none), (20, none), (21, none), (22, none)] [(19, 2), (22, 999999)] (fun U hp => (∃ a, hp[1]? = some (.box [I (n : Int), intss T, a, .hp 3, .hp 4, I 0, I 0])) ∧ (2 ∉ U → hp[1]? = some (.box [I (n : Int), intss T, .hp 2, .hp 3, .hp 4, I 0, I 0]))) (by kernel_rfl) rfl (by kernel_rfl) ?_
      repeat' (first
| refine u_nil ?_
| ((first
| refine u_pure rfl rfl (fun hp hH => zH rfl rfl hH.1.choose_spec rfl) aJ aD (by decide) aO ?_
| refine u_pure rfl rfl (fun hp hH => zH rfl rfl (hH.2 (by decide)) rfl) aJ aD (by decide) aO ?_
| refine u_pure rfl rfl (fun hp hH => ps_unv (ps_nilCheck_hat rfl rfl)) aJ aD (by decide) aO ?_
| refine u_pure rfl rfl (fun hp hH => ps_lit3 rfl rfl rfl rfl (by rfl) (by rfl) (by rfl) (by rfl)) aJ aW (by decide) aO ?_
| refine u_pure rfl rfl (fun _ _ => zD rfl) aJ aD (by decide) aO ?_
| refine u_pure rfl rfl (fun _ _ => zE rfl rfl) aJ aD (by decide) aO ?_
| refine u_eff rfl rfl aG (j_pure (zG rfl rfl aC (hva))) (by first | exact fun _ hm hF _ => absurd (hm 999999 (by decide)) hF | exact fun _ _ _ hh => hh | exact (fun _ hm _ _ => ⟨⟨_, rfl⟩, fun h => absurd (hm 2 (by decide)) h⟩)) ?_
| refine u_eff rfl rfl aG (j_pure (zG rfl rfl aC (h3))) (by first | exact fun _ hm hF _ => absurd (hm 999999 (by decide)) hF | exact fun _ _ _ hh => hh | exact (fun _ hm _ _ => ⟨⟨_, rfl⟩, fun h => absurd (hm 2 (by decide)) h⟩)) ?_
| refine u_eff rfl rfl aG (j_pure (zG rfl rfl aC (hsm))) (by first | exact fun _ hm hF _ => absurd (hm 999999 (by decide)) hF | exact fun _ _ _ hh => hh | exact (fun _ hm _ _ => ⟨⟨_, rfl⟩, fun h => absurd (hm 2 (by decide)) h⟩)) ?_
| refine u_eff rfl rfl aG (j_pure (ps_unv (ps_nilCheck_hat rfl rfl))) (by first | exact fun _ hm hF _ => absurd (hm 999999 (by decide)) hF | exact fun _ _ _ hh => hh | exact (fun _ hm _ _ => ⟨⟨_, rfl⟩, fun h => absurd (hm 2 (by decide)) h⟩)) ?_
| refine u_eff rfl rfl aG (j_append rfl rfl rfl rfl rfl rfl (one_one rfl) rfl aP aP) (by first | exact fun _ hm hF _ => absurd (hm 999999 (by decide)) hF | exact fun _ _ _ hh => hh | exact (fun _ hm _ _ => ⟨⟨_, rfl⟩, fun h => absurd (hm 2 (by decide)) h⟩)) ?_
| refine u_eff rfl rfl aG (j_store_boxC rfl rfl rfl rfl aK rfl rfl) (by first | exact fun _ hm hF _ => absurd (hm 999999 (by decide)) hF | exact fun _ _ _ hh => hh | exact (fun _ hm _ _ => ⟨⟨_, rfl⟩, fun h => absurd (hm 2 (by decide)) h⟩)) ?_
| refine u_eff rfl rfl aG (j_pure (zE rfl rfl)) (by first | exact fun _ hm hF _ => absurd (hm 999999 (by decide)) hF | exact fun _ _ _ hh => hh | exact (fun _ hm _ _ => ⟨⟨_, rfl⟩, fun h => absurd (hm 2 (by decide)) h⟩)) ?_
| refine u_eff rfl rfl aG (j_pure (ps_lit1 rfl rfl (by rfl) (by rfl))) (by first | exact fun _ hm hF _ => absurd (hm 999999 (by decide)) hF | exact fun _ _ _ hh => hh | exact (fun _ hm _ _ => ⟨⟨_, rfl⟩, fun h => absurd (hm 2 (by decide)) h⟩)) ?_); refine ⟨_, aQ, ?_⟩))
      repeat' (first
| refine g_seq ?_)
      refine g_region_drawU [(0, some [3]), (1, some [3]), (2, some [3]), (3, some [3]), (4, some []), (5, some [3]), (6, some [3]), (7, some [3]), (8, some [3]), (9, some [3]), (10, some [3]), (11, none), (12, none), (13, none), (14, none), (15, none), (16, none)] [(13, 3), (16, 999999)] (fun U hp => (∃ a, hp[1]? = some (.box [I (n : Int), intss T, .hp 2, a, .hp 4, I 0, I 0])) ∧ (3 ∉ U → hp[1]? = some (.box [I (n : Int), intss T, .hp 2, .hp 3, .hp 4, I 0, I 0]))) (by kernel_rfl) rfl (by kernel_rfl) ?_
      repeat' (first
| refine u_nil ?_
| ((first
| refine u_pure rfl rfl (fun hp hH => zH rfl rfl hH.1.choose_spec rfl) aJ aD (by decide) aO ?_
| refine u_pure rfl rfl (fun hp hH => zH rfl rfl (hH.2 (by decide)) rfl) aJ aD (by decide) aO ?_
| refine u_pure rfl rfl (fun hp hH => ps_unv (ps_nilCheck_hat rfl rfl)) aJ aD (by decide) aO ?_
| refine u_pure rfl rfl (fun hp hH => ps_lit3 rfl rfl rfl rfl (by rfl) (by rfl) (by rfl) (by rfl)) aJ aW (by decide) aO ?_
| refine u_pure rfl rfl (fun _ _ => zD rfl) aJ aD (by decide) aO ?_
| refine u_pure rfl rfl (fun _ _ => zE rfl rfl) aJ aD (by decide) aO ?_
| refine u_eff rfl rfl aG (j_pure (zG rfl rfl aC (hvb))) (by first | exact fun _ hm hF _ => absurd (hm 999999 (by decide)) hF | exact fun _ _ _ hh => hh | exact (fun _ hm _ _ => ⟨⟨_, rfl⟩, fun h => absurd (hm 3 (by decide)) h⟩)) ?_
| refine u_eff rfl rfl aG (j_pure (ps_unv (ps_nilCheck_hat rfl rfl))) (by first | exact fun _ hm hF _ => absurd (hm 999999 (by decide)) hF | exact fun _ _ _ hh => hh | exact (fun _ hm _ _ => ⟨⟨_, rfl⟩, fun h => absurd (hm 3 (by decide)) h⟩)) ?_
| refine u_eff rfl rfl aG (j_append rfl rfl rfl rfl rfl rfl (one_one rfl) rfl aP aP) (by first | exact fun _ hm hF _ => absurd (hm 999999 (by decide)) hF | exact fun _ _ _ hh => hh | exact (fun _ hm _ _ => ⟨⟨_, rfl⟩, fun h => absurd (hm 3 (by decide)) h⟩)) ?_
| refine u_eff rfl rfl aG (j_store_boxC rfl rfl rfl rfl aK rfl rfl) (by first | exact fun _ hm hF _ => absurd (hm 999999 (by decide)) hF | exact fun _ _ _ hh => hh | exact (fun _ hm _ _ => ⟨⟨_, rfl⟩, fun h => absurd (hm 3 (by decide)) h⟩)) ?_
| refine u_eff rfl rfl aG (j_pure (zE rfl rfl)) (by first | exact fun _ hm hF _ => absurd (hm 999999 (by decide)) hF | exact fun _ _ _ hh => hh | exact (fun _ hm _ _ => ⟨⟨_, rfl⟩, fun h => absurd (hm 3 (by decide)) h⟩)) ?_
| refine u_eff rfl rfl aG (j_pure (ps_lit1 rfl rfl (by rfl) (by rfl))) (by first | exact fun _ hm hF _ => absurd (hm 999999 (by decide)) hF | exact fun _ _ _ hh => hh | exact (fun _ hm _ _ => ⟨⟨_, rfl⟩, fun h => absurd (hm 3 (by decide)) h⟩)) ?_); refine ⟨_, aQ, ?_⟩))
      repeat' (first
| ((refine g_seq ?_); trace "@W3ef49415e524a74b.o65f97fd403")
| ((refine zJ ?_); trace "@W3ef49415e524a74b.ob498b46fe7")
| ((refine zC ?_); trace "@W3ef49415e524a74b.o244684d497")
| (refine o_go rfl ?_; (first
| (refine p_p (zD rfl) ?_; trace "@W3ef49415e524a74b.i88afafc5ed")
| (refine p_p (zA rfl) ?_; trace "@W3ef49415e524a74b.i8ba5b8203b")
| (refine p_p (zF rfl rfl) ?_; trace "@W3ef49415e524a74b.ide9392a449")
| (refine p_p (ps_load_agg rfl rfl aK) ?_; trace "@W3ef49415e524a74b.id5e9fce031")
| (refine p_p (ps_load_agg rfl rfl (Nat.le_refl _)) ?_; trace "@W3ef49415e524a74b.i7357a97840")
| (refine p_p (zN rfl rfl rfl (by omega) aR (by exact rfl)) ?_; trace "@W3ef49415e524a74b.ifd94cb0229")
| (refine p_p (zU rfl rfl rfl) ?_; trace "@W3ef49415e524a74b.i651e23b408")
| (refine p_p (ps_len rfl rfl rfl) ?_; trace "@W3ef49415e524a74b.i48953a2eae")
| (refine p_p (zS rfl rfl rfl) ?_; trace "@W3ef49415e524a74b.iece3698938")
| (refine p_p (ps_add rfl rfl rfl aN) ?_; trace "@W3ef49415e524a74b.iab4644b76d")
| (refine p_p (zL rfl rfl) ?_; trace "@W3ef49415e524a74b.ia51eaa1f88")
| (refine p_p (ps_extract rfl rfl rfl) ?_; trace "@W3ef49415e524a74b.i71d836e875")
| (refine p_p (ps_not rfl rfl) ?_; trace "@W3ef49415e524a74b.i6306b71400")
| (refine p_p (zQ rfl rfl) ?_; trace "@W3ef49415e524a74b.i07da16aa24")
| (refine p_p (ps_leq rfl rfl rfl) ?_; trace "@W3ef49415e524a74b.id13d0d2e36")
| (refine p_p (ps_gtr rfl rfl rfl) ?_; trace "@W3ef49415e524a74b.ief6e49898e")
| (refine p_p (ps_geq rfl rfl rfl) ?_; trace "@W3ef49415e524a74b.ie4d9949433")
| (refine p_p (ps_eql rfl rfl rfl) ?_; trace "@W3ef49415e524a74b.if2e43d169a")
| (refine p_p (ps_neq rfl rfl rfl) ?_; trace "@W3ef49415e524a74b.i9d1f50cfeb")
| (refine p_p (ps_sub rfl rfl rfl aN) ?_; trace "@W3ef49415e524a74b.i99d1030057")
| (refine p_p (ps_nilCheck rfl rfl) ?_; trace "@W3ef49415e524a74b.i922a565813")
| (refine p_p (ps_nilCheck_fn rfl rfl) ?_; trace "@W3ef49415e524a74b.i4dd2db0b95")
| (refine p_p (ps_field rfl rfl rfl) ?_; trace "@W3ef49415e524a74b.ic88f26a11b")
| (refine p_p (ps_eqnil rfl rfl rfl) ?_; trace "@W3ef49415e524a74b.i47e580ed5f")
| (refine p_p (ps_eqnil_v rfl rfl rfl) ?_; trace "@W3ef49415e524a74b.i9fbbd4fa49")
| (refine p_p (ps_eqnil_o rfl rfl rfl rfl) ?_; trace "@W3ef49415e524a74b.i1223e0e181")
| (refine p_p (ps_len_mut rfl rfl rfl rfl) ?_; trace "@W3ef49415e524a74b.i8a6735b410")
| (refine p_p (ps_len_grid rfl rfl rfl rfl) ?_; trace "@W3ef49415e524a74b.i318c95d166")
| (refine p_p (ps_len_pg rfl rfl rfl rfl) ?_; trace "@W3ef49415e524a74b.i4ef8d11fcb")
| (refine p_p (ps_index_pg rfl rfl rfl rfl (by omega) (by first | omega | (rw [n_toNat]; omega))) ?_; trace "@W3ef49415e524a74b.idf722618c6")
| (refine p_p (ps_index_grid rfl rfl rfl rfl (by omega) aU) ?_; trace "@W3ef49415e524a74b.iff64d9ecd7")
| (refine p_e rfl (e_store_row rfl rfl rfl rfl aU (by omega) rfl rfl rfl (by first | exact one_all (fun _ => rfl) _ | exact one_rep rfl _ | rfl)) ?_; trace "@W3ef49415e524a74b.i711dd71843")
| (refine p_p (zH rfl rfl rfl rfl) ?_; trace "@W3ef49415e524a74b.i68f3c2d5ad")
| (refine p_p (zY rfl rfl rfl aK) ?_; trace "@W3ef49415e524a74b.if8f792c19e")
| (refine p_p (ps_load_row rfl rfl rfl (by omega)) ?_; trace "@W3ef49415e524a74b.ib8c2b88593")
| (refine p_p (zE rfl rfl) ?_; trace "@W3ef49415e524a74b.i47032e2e0f")
| (refine p_p (yA rfl rfl rfl rfl (by omega) aU) ?_; trace "@W3ef49415e524a74b.i8f2952d551")
| (refine p_e rfl (e_make1 rfl rfl rfl (by omega) (by omega) (by omega) rfl rfl) ?_; trace "@W3ef49415e524a74b.if4afeff1b2")
| (refine p_e rfl (e_store_arr rfl rfl rfl rfl aU rfl rfl) ?_; trace "@W3ef49415e524a74b.i907d8262d4")
| (refine p_e rfl (e_store_boxC rfl rfl rfl rfl aK rfl rfl) ?_; trace "@W3ef49415e524a74b.id7908f556e")
| (refine p_e rfl (zO rfl rfl rfl rfl aK rfl rfl rfl) ?_; trace "@W3ef49415e524a74b.ic728ce408c")
| (refine p_e rfl (e_alloc rfl) ?_; trace "@W3ef49415e524a74b.i5e1a309ada")
| (refine p_e rfl (e_lit0 rfl (by decide)) ?_; trace "@W3ef49415e524a74b.if2e4d4ba44")
| (refine p_e rfl (e_append rfl rfl rfl rfl rfl rfl (by first | exact one_one rfl | exact one_map (fun _ => rfl) _) rfl aU aU) ?_; trace "@W3ef49415e524a74b.id7271af66f")
| (refine p_p (ps_box rfl rfl) ?_; trace "@W3ef49415e524a74b.i34a392b571")
| (refine p_p (ps_makeFunc rfl rfl rfl) ?_; trace "@W3ef49415e524a74b.ia900154b8d")
| (refine p_p (ps_lit1 rfl rfl (by rfl) (by rfl)) ?_; trace "@W3ef49415e524a74b.i8f202a48dc")
| (refine p_p (ps_lit2 rfl rfl rfl (by rfl) (by rfl) (by rfl)) ?_; trace "@W3ef49415e524a74b.i07bd212676")
| (refine p_p (ps_lit3 rfl rfl rfl rfl (by rfl) (by rfl) (by rfl) (by rfl)) ?_; trace "@W3ef49415e524a74b.i5480dac4e8")
| (refine p_p (ps_build rfl rfl) ?_; trace "@W3ef49415e524a74b.i7cef79f103")); refine ⟨_, aB, ?_⟩)
| ((refine o_nil ?_); trace "@W3ef49415e524a74b.ocdf983927a")
| (((refine o_s rfl ?_; refine ⟨_, aB, ?_⟩)); trace "@W3ef49415e524a74b.o7ee5af373e")
| (((refine o_splitD rfl rfl rfl (fun hc => ?_) (fun hc => ?_) <;> first | (exfalso; omega) | dsimp only [List.set_cons_zero, List.set_cons_succ])); trace "@W3ef49415e524a74b.o20c7b17272")
| (((refine o_splitN rfl rfl rfl (fun hc => ?_) (fun hc => ?_) <;> dsimp only [List.set_cons_zero, List.set_cons_succ])); trace "@W3ef49415e524a74b.o39a797b970")
| (((refine o_splitA rfl rfl rfl (fun hc => ?_) (fun hc => ?_) <;> dsimp only [List.set_cons_zero, List.set_cons_succ])); trace "@W3ef49415e524a74b.oabd4d77a95")
| ((refine zX rfl ?_); trace "@W3ef49415e524a74b.oc154c16280")
| ((refine zW rfl ?_); trace "@W3ef49415e524a74b.o3282fba877")
| (((refine g_condN rfl (fun hc => ?_) (fun hc => ?_) <;> try (exfalso; omega))); trace "@W3ef49415e524a74b.o83258699ff")
| (((refine zK rfl (fun hc => ?_) (fun hc => ?_) <;> try (exfalso; omega))); trace "@W3ef49415e524a74b.o1e04d83f15")
| (((refine g_condNB rfl (fun hc => ?_) (fun hc => ?_))); trace "@W3ef49415e524a74b.oee4790fb4c")
| (((refine g_cond rfl (fun hc => ?_) (fun hc => ?_))); trace "@W3ef49415e524a74b.oe00bf9e6d2")
| ((refine krr 0 rfl (HandOut.arr rfl ?_ aL)); trace "@W3ef49415e524a74b.oad12103aab")
| ((refine krr 1 rfl (HandOut.arr rfl ?_ aL)); trace "@W3ef49415e524a74b.o8cd57cde5f")
| ((refine krr 2 rfl (HandOut.arr rfl ?_ aL)); trace "@W3ef49415e524a74b.o9aece4f3a6")
| ((refine krr 3 rfl (HandOut.arr rfl ?_ aL)); trace "@W3ef49415e524a74b.o44eb9ac1ef")
| ((refine krr 4 rfl (HandOut.arr rfl ?_ aL)); trace "@W3ef49415e524a74b.o3def1745a9")
| ((refine krr 5 rfl (HandOut.arr rfl ?_ aL)); trace "@W3ef49415e524a74b.o91e959740c")
| ((refine krr 6 rfl (HandOut.arr rfl ?_ aL)); trace "@W3ef49415e524a74b.o6c86d56a3b")
| ((refine krr 7 rfl (HandOut.arr rfl ?_ aL)); trace "@W3ef49415e524a74b.o5942104d0a")
| ((refine krr2 0 rfl rfl (HandOut.arr rfl ?_ aL)); trace "@W3ef49415e524a74b.o07e09161d5")
| ((refine krr2 1 rfl rfl (HandOut.arr rfl ?_ aL)); trace "@W3ef49415e524a74b.o68c0e5d197")
| ((refine krr2 2 rfl rfl (HandOut.arr rfl ?_ aL)); trace "@W3ef49415e524a74b.o4485c85a1b")
| ((refine krr2 3 rfl rfl (HandOut.arr rfl ?_ aL)); trace "@W3ef49415e524a74b.of9329e0cd7")
| ((refine krr2 4 rfl rfl (HandOut.arr rfl ?_ aL)); trace "@W3ef49415e524a74b.o8147e01ded")
| ((refine krr2 5 rfl rfl (HandOut.arr rfl ?_ aL)); trace "@W3ef49415e524a74b.oc99a9905e6")
| ((refine krr2 6 rfl rfl (HandOut.arr rfl ?_ aL)); trace "@W3ef49415e524a74b.o09a527e8de")
| ((refine krr2 7 rfl rfl (HandOut.arr rfl ?_ aL)); trace "@W3ef49415e524a74b.o8c6c5d1db5")
| ((refine krr2e 0 rfl rfl (eB ?_) (HandOut.arr rfl ?_ aL)); trace "@W3ef49415e524a74b.o5669d76986")
| ((refine krr2e 1 rfl rfl (eB ?_) (HandOut.arr rfl ?_ aL)); trace "@W3ef49415e524a74b.ocb3ac67a4e")
| ((refine krr2e 2 rfl rfl (eB ?_) (HandOut.arr rfl ?_ aL)); trace "@W3ef49415e524a74b.o4b9fa834c1")
| ((refine krr2e 3 rfl rfl (eB ?_) (HandOut.arr rfl ?_ aL)); trace "@W3ef49415e524a74b.o1092c2ee44")
| ((refine krr2e 4 rfl rfl (eB ?_) (HandOut.arr rfl ?_ aL)); trace "@W3ef49415e524a74b.oe579cf6fc6")
| ((refine kr1 ?_); trace "@W3ef49415e524a74b.oe1eb9f8bd6")
| ((refine kr2 ?_ ?_); trace "@W3ef49415e524a74b.oaec1875011")
| ((refine kr3 ?_ ?_ ?_); trace "@W3ef49415e524a74b.o5e3ee917a2")
| ((exact krAny); trace "@W3ef49415e524a74b.oe74fd368ad")
| ((refine krc ?_); trace "@W3ef49415e524a74b.o18a8ee30ba")
| ((refine krct ?_ ?_); trace "@W3ef49415e524a74b.o685f809f50")
| ((refine krC rfl aK ?_); trace "@W3ef49415e524a74b.o4f0533aaec")
| ((refine krC_any rfl aK); trace "@W3ef49415e524a74b.o7c23d5e8bd")
| ((refine krB rfl ?_); trace "@W3ef49415e524a74b.o7d5857dacb")
| ((refine krI rfl ?_); trace "@W3ef49415e524a74b.o7513cb2e80")
| ((refine krS rfl ?_); trace "@W3ef49415e524a74b.o4f5aa5cfca")
| ((refine krN rfl ?_); trace "@W3ef49415e524a74b.oe3bc73c9ca")
| ((refine krA rfl ?_); trace "@W3ef49415e524a74b.o0c8896477d")
| ((refine krP rfl ?_); trace "@W3ef49415e524a74b.o23c9c87ff3")
| ((refine zR ?_); trace "@W3ef49415e524a74b.o0cc4b7aaff")
| ((refine g_exit ?_); trace "@W3ef49415e524a74b.o8861bbd0ca")
| ((refine g_ret ?_); trace "@W3ef49415e524a74b.o5f22f2e9d7"))
      refine g_region_drawU [(0, some [4]), (1, some [4]), (2, some [4]), (3, some [4]), (4, some []), (5, some [4]), (6, some [4]), (7, some [4]), (8, some [4]), (9, some [4]), (10, some [4]), (11, none), (12, none), (13, none), (14, none), (15, none), (16, none)] [(13, 4), (16, 999999)] (fun U hp => (∃ a, hp[1]? = some (.box [I (n : Int), intss T, .hp 2, .hp 3, a, I 0, I 0])) ∧ (4 ∉ U → hp[1]? = some (.box [I (n : Int), intss T, .hp 2, .hp 3, .hp 4, I 0, I 0]))) (by kernel_rfl) rfl (by kernel_rfl) ?_
      repeat' (first
| refine u_nil ?_
| ((first
| refine u_pure rfl rfl (fun hp hH => zH rfl rfl hH.1.choose_spec rfl) aJ aD (by decide) aO ?_
| refine u_pure rfl rfl (fun hp hH => zH rfl rfl (hH.2 (by decide)) rfl) aJ aD (by decide) aO ?_
| refine u_pure rfl rfl (fun hp hH => ps_unv (ps_nilCheck_hat rfl rfl)) aJ aD (by decide) aO ?_
| refine u_pure rfl rfl (fun hp hH => ps_lit3 rfl rfl rfl rfl (by rfl) (by rfl) (by rfl) (by rfl)) aJ aW (by decide) aO ?_
| refine u_pure rfl rfl (fun _ _ => zD rfl) aJ aD (by decide) aO ?_
| refine u_pure rfl rfl (fun _ _ => zE rfl rfl) aJ aD (by decide) aO ?_
| refine u_eff rfl rfl aG (j_pure (zG rfl rfl aC (hvc))) (by first | exact fun _ hm hF _ => absurd (hm 999999 (by decide)) hF | exact fun _ _ _ hh => hh | exact (fun _ hm _ _ => ⟨⟨_, rfl⟩, fun h => absurd (hm 4 (by decide)) h⟩)) ?_
| refine u_eff rfl rfl aG (j_pure (ps_unv (ps_nilCheck_hat rfl rfl))) (by first | exact fun _ hm hF _ => absurd (hm 999999 (by decide)) hF | exact fun _ _ _ hh => hh | exact (fun _ hm _ _ => ⟨⟨_, rfl⟩, fun h => absurd (hm 4 (by decide)) h⟩)) ?_
| refine u_eff rfl rfl aG (j_append rfl rfl rfl rfl rfl rfl (one_one rfl) rfl aP aP) (by first | exact fun _ hm hF _ => absurd (hm 999999 (by decide)) hF | exact fun _ _ _ hh => hh | exact (fun _ hm _ _ => ⟨⟨_, rfl⟩, fun h => absurd (hm 4 (by decide)) h⟩)) ?_
| refine u_eff rfl rfl aG (j_store_boxC rfl rfl rfl rfl aK rfl rfl) (by first | exact fun _ hm hF _ => absurd (hm 999999 (by decide)) hF | exact fun _ _ _ hh => hh | exact (fun _ hm _ _ => ⟨⟨_, rfl⟩, fun h => absurd (hm 4 (by decide)) h⟩)) ?_
| refine u_eff rfl rfl aG (j_pure (zE rfl rfl)) (by first | exact fun _ hm hF _ => absurd (hm 999999 (by decide)) hF | exact fun _ _ _ hh => hh | exact (fun _ hm _ _ => ⟨⟨_, rfl⟩, fun h => absurd (hm 4 (by decide)) h⟩)) ?_
| refine u_eff rfl rfl aG (j_pure (ps_lit1 rfl rfl (by rfl) (by rfl))) (by first | exact fun _ hm hF _ => absurd (hm 999999 (by decide)) hF | exact fun _ _ _ hh => hh | exact (fun _ hm _ _ => ⟨⟨_, rfl⟩, fun h => absurd (hm 4 (by decide)) h⟩)) ?_); refine ⟨_, aQ, ?_⟩))
      repeat' (first
| refine zC ?_
| (refine o_go rfl ?_; (first
| refine p_p (zD rfl) ?_
| refine p_p (ps_add rfl rfl rfl aN) ?_); refine ⟨_, aB, ?_⟩)
| refine o_nil ?_)
      have ht1 : T.take (i + 2) = T.take (i + 1) ++ [t] := by rw [List.take_add_one, ht]; rfl
      refine zT (i + 2) (by omega) (by omega) aI ⟨rfl, trivial⟩ ?_
      dsimp only [chH]
      rw [ht1]
      unfold fixL lefL rigL
      simp only [List.map_append]
      exact zB rfl (zB rfl (zB rfl (zB rfl (zB rfl (zM _)))))
  · obtain rfl : i = T.length := by omega
    have hlo : lenOk T := ⟨by omega, fun t ht => by rw [hTl t ht]; omega⟩
    have hpl0 := pattern_c T (prjL n 3 0) hlo (by rw [prjL_len]; omega)
    have hpl2 := pattern_c T (prjL n 3 2) hlo (by rw [prjL_len]; omega)
    rw [chH_end (by omega)]
    repeat' (first
| refine g_seq ?_
| refine zC ?_
| (refine o_go rfl ?_; (first
| refine p_p (zS rfl rfl rfl) ?_); refine ⟨_, aB, ?_⟩)
| refine o_nil ?_
| (refine zK rfl (fun hc => ?_) (fun hc => ?_) <;> try (exfalso; omega))
| refine g_exit ?_)
    all_goals try (exfalso; omega)
    refine g_region_drawZ [(0, some []), (1, some []), (2, some []), (3, some []), (4, some []), (5, some []), (6, some []), (7, some []), (8, some []), (9, none), (10, none), (11, none), (12, none), (13, none)] [(13, 999999)] (fun hp => hp[1]? = some (.box [I (n : Int), intss T, .hp 2, .hp 3, .hp 4, I 0, I 0])) (by kernel_rfl) rfl (by kernel_rfl) ?_
    repeat' (first
| refine z_nil ?_
| ((first
| refine zV rfl rfl (fun hp hH => zH rfl rfl hH rfl) aJ aD (by decide) aA ?_
| refine zV rfl rfl (fun hp hH => ps_unv (ps_nilCheck_hat rfl rfl)) aJ aD (by decide) aA ?_
| refine zV rfl rfl (fun _ _ => zD rfl) aJ aD (by decide) aA ?_
| refine zV rfl rfl (fun _ _ => zE rfl rfl) aJ aD (by decide) aA ?_
| refine z_eff rfl rfl aG (j_pure (zG rfl rfl aC (hp0))) aF ?_
| refine z_eff rfl rfl aG (j_pure (zG rfl rfl aC (hpl0))) aF ?_
| refine z_eff rfl rfl aG (j_pure (ps_unv (ps_nilCheck_hat rfl rfl))) aF ?_
| refine z_eff rfl rfl aG (j_store_boxC rfl rfl rfl rfl aK rfl rfl) aF ?_
| refine z_eff rfl rfl aG (j_pure (zE rfl rfl)) aF ?_); refine ⟨_, aQ, ?_⟩))
    repeat' (first
| refine g_seq ?_)
    refine g_region_drawZ [(0, some []), (1, some []), (2, some []), (3, some []), (4, some []), (5, some []), (6, some []), (7, some []), (8, some []), (9, none), (10, none), (11, none), (12, none), (13, none)] [(13, 999999)] (fun hp => hp[1]? = some (.box [I (n : Int), intss T, .hp 2, .hp 3, .hp 4, I (placeT T (prjL n 3 0)), I 0])) (by kernel_rfl) rfl (by kernel_rfl) ?_
    repeat' (first
| refine z_nil ?_
| ((first
| refine zV rfl rfl (fun hp hH => zH rfl rfl hH rfl) aJ aD (by decide) aA ?_
| refine zV rfl rfl (fun hp hH => ps_unv (ps_nilCheck_hat rfl rfl)) aJ aD (by decide) aA ?_
| refine zV rfl rfl (fun _ _ => zD rfl) aJ aD (by decide) aA ?_
| refine zV rfl rfl (fun _ _ => zE rfl rfl) aJ aD (by decide) aA ?_
| refine z_eff rfl rfl aG (j_pure (zG rfl rfl aC (hp2))) aF ?_
| refine z_eff rfl rfl aG (j_pure (zG rfl rfl aC (hpl2))) aF ?_
| refine z_eff rfl rfl aG (j_pure (ps_unv (ps_nilCheck_hat rfl rfl))) aF ?_
| refine z_eff rfl rfl aG (j_store_boxC rfl rfl rfl rfl aK rfl rfl) aF ?_
| refine z_eff rfl rfl aG (j_pure (zE rfl rfl)) aF ?_); refine ⟨_, aQ, ?_⟩))
    repeat' (first
| refine g_seq ?_
| refine zC ?_
| (refine o_go rfl ?_; (first
| refine p_p (zD rfl) ?_
| refine p_p (zA rfl) ?_); refine ⟨_, aB, ?_⟩)
| refine o_nil ?_
| refine kr2 ?_ ?_
| refine krB rfl ?_
| refine krP rfl ?_
| refine g_ret ?_)
    all_goals rfl
end Go.Proofs.YtlgfniaakjchgaaGreat
