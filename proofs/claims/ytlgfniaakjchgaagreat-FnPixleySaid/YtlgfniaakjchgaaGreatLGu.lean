/- Walks: the reference's search for the shortest chain. -/
import Derived.Test.YtlgfniaakjchgaaGreatLGt
import Derived.Test.YtlgfniaakjchgaaGreatLGq
namespace Go.Proofs.YtlgfniaakjchgaaGreat
open Go Go.Pv Go.Proofs
set_option maxHeartbeats 32000000
set_option maxRecDepth 100000
attribute [local bitvec_to_nat] St.put St.setObj St.ev killP killA killP1 killH mapHO renP renA ren1 killG killGA killG1 krowP krowA krow1 lendP lendA lend1 unv pinP pin1 elemsM viewM viewN viewV n_set_z n_set_s n_map_c n_map_n getD_z getD_s n_toNat n_cond_t n_cond_f n_len_c n_len_n n_app_c n_app_n n_take_s n_take_z n_drop_s n_drop_z n_get_z n_get_s view viewA view1 elems Nat.zero_add Nat.add_zero Bool.not_true Bool.not_false Nat.one_ne_zero Nat.mul_one
attribute [local bitvec_to_nat] posI optP lendM1 lendMA lendMP killM1 killMA killMP hasI getO backM1 backMA backMP putL inpM pinM1 pinMA pinMP

def r0 (to : Nat → Bool) (f : Nat) : Int := bif to f then 0 else -1
def aOown (N : Nat) (to : Nat → Bool) (x : Nat) : List PV := ((List.range x).map (r0 to)).map I ++ List.replicate (N - x) (I 0)
theorem aO_len {N x : Nat} (to : Nat → Bool) (h : x ≤ N) : (aOown N to x).length = N := by simp [aOown]; omega
theorem aO_set {N x : Nat} (to : Nat → Bool) (h : x < N) : (aOown N to x).set x (I (r0 to x)) = aOown N to (x + 1) := by
  unfold aOown
  rw [List.set_append_right _ _ (by simp), List.length_map, List.length_map, List.length_range, Nat.sub_self, show N - x = (N - (x + 1)) + 1 by omega, List.replicate_succ, List.set_cons_zero, range_snoc, List.map_append, List.append_assoc]; rfl
theorem aO_full (N : Nat) (to : Nat → Bool) (may : Nat → Nat → Nat → Bool) (i : Nat) : aOown N to N = ((List.range N).map (fr N to may 0 i)).map I := by
  unfold aOown; rw [Nat.sub_self, List.replicate_zero, List.append_nil]; rfl
def frI (N : Nat) (to : Nat → Bool) (may : Nat → Nat → Nat → Bool) (d i : Nat) : List PV := ((List.range N).map (fr N to may d i)).map I
theorem frI_len (N : Nat) (to : Nat → Bool) (may : Nat → Nat → Nat → Bool) (d i : Nat) : (frI N to may d i).length = N := by simp [frI]
theorem frI_at {N : Nat} {to : Nat → Bool} {may : Nat → Nat → Nat → Bool} {d i f : Nat} (hf : f < N) : (frI N to may d i)[f * 1]? = some (I (fr N to may d i f)) := by
  unfold frI; rw [Nat.mul_one, List.map_map, List.getElem?_map, List.getElem?_range hf]; rfl
abbrev boxH : HO := .box [.hp 0, .hp 1]
abbrev arI (l : List PV) : HO := .arr true 1 3 l
def mayF (M0 M1 : List (List Bool)) (i f g : Nat) : Bool := ((bif i % 2 == 0 then M0 else M1).getD f []).getD g false
theorem schain_c (N : Nat) (F : List Nat) (to : List Bool) (M0 M1 : List (List Bool)) (most : Nat) (hN : N ≤ 1000) (hto : to.length = N) (hM0 : M0.length = N ∧ ∀ r ∈ M0, r.length = N) (hM1 : M1.length = N ∧ ∀ r ∈ M1, r.length = N)
    (hF : ∀ x ∈ F, x < N) (hFl : F.length ≤ 1000) (hm : most ≤ 1000) :
    PCalls Tryz.prog 89 [ints (F.map Int.ofNat), bools to, .sl 1 none [boolss M0, boolss M1], I (most : Int)]
      (.tup [ints ((chainW N (fun f => to.getD f false) (mayF M0 M1) F most).1.map Int.ofNat), B (chainW N (fun f => to.getD f false) (mayF M0 M1) F most).2]) := by
  refine pcalls2 Tryz.func89 rfl Tryz.ntmps89 rfl ?_
  simp only [List.length_cons, List.length_nil, Nat.reduceAdd, Nat.reduceSub, List.replicate_succ, List.replicate_zero, List.cons_append, List.nil_append]
  obtain ⟨tf, htf⟩ : ∃ tf : Nat → Bool, tf = fun f => to.getD f false := ⟨_, rfl⟩
  obtain ⟨my, hmy⟩ : ∃ my, my = mayF M0 M1 := ⟨_, rfl⟩
  rw [← htf, ← hmy]
  have hti : ∀ f, f < N → (to.map B)[((f : Nat) : Int).toNat]? = some (B (tf f)) := fun f hf => by rw [Int.toNat_natCast, htf]; exact idx_B (by omega)
  repeat' (first
| refine g_seq ?_
| refine zC ?_
| (refine o_go rfl ?_; (first
| refine p_p (zD rfl) ?_
| refine p_p (zA rfl) ?_
| refine p_p (zU rfl rfl rfl) ?_); refine ⟨_, aB, ?_⟩)
| refine o_nil ?_)
  rw [show (to.length : Int) = (N : Int) by rw [hto]]
  refine g_region_drawX [.gone, .gone] [0, 1] (by kernel_rfl) (by kernel_rfl) aJ ?_
  refine ⟨_, (by dsimp only [appC, hpC, bitvec_to_nat, Nat.reduceAdd, Nat.reduceMul, Nat.reduceBEq, reduceCtorEq]), (by repeat (first | exact trivial | refine ⟨⟨rfl, rfl⟩, ?_⟩)), ?_⟩
  repeat' (first
| refine x_nil ?_
| (refine x_skip rfl ?_; refine ⟨_, (by dsimp only [appC, hpC, bitvec_to_nat, Nat.reduceAdd, Nat.reduceMul, Nat.reduceBEq, reduceCtorEq]), ?_⟩)
| ((first
| refine x_eff rfl (l_make (zp := I 0) 0 rfl rfl rfl (by omega) (by omega) (by omega) (by decide) (by rfl) (by rfl)) rfl (by intro h; cases h) (by decide) (by repeat (first | exact trivial | refine ⟨.inl rfl, ?_⟩ | refine ⟨.inr ⟨rfl, rfl⟩, ?_⟩)) ?_
| refine x_eff rfl (l_make (zp := I 0) 1 rfl rfl rfl (by omega) (by omega) (by omega) (by decide) (by rfl) (by rfl)) rfl (by intro h; cases h) (by decide) (by repeat (first | exact trivial | refine ⟨.inl rfl, ?_⟩ | refine ⟨.inr ⟨rfl, rfl⟩, ?_⟩)) ?_
| refine x_bar rfl rfl (e_litBox2 rfl rfl rfl rfl rfl (by rfl)) ?_
| refine x_pure rfl (fun _ => zD rfl) aJ ?_); refine ⟨_, (by dsimp only [appC, hpC, bitvec_to_nat, Nat.reduceAdd, Nat.reduceMul, Nat.reduceBEq, reduceCtorEq]), ?_⟩))
  repeat' (first
| refine g_seq ?_
| refine zJ ?_
| refine zC ?_
| (refine o_go rfl ?_; (first
| refine p_p (zA rfl) ?_); refine ⟨_, aB, ?_⟩)
| refine o_nil ?_)
  refine g_loopT (α := Nat) (fun f => [(12, I (f : Int))]) (fun f => [arI (aOown N tf f), arI (aOown N tf f), boxH]) (fun f => f ≤ N) (fun f => N - f) 0 aH (Nat.zero_le _) ⟨rfl, trivial⟩ rfl ?_
  rintro f hf
  dsimp only [zZ, List.set_cons_zero, List.set_cons_succ]
  by_cases hf1 : f < N
  · have ht := hti f hf1
    have hs := aO_set tf hf1
    have hl := aO_len tf hf
    have hr : r0 tf f = bif tf f then 0 else -1 := rfl
    generalize hb : tf f = b at *
    repeat' (first
| refine g_seq ?_
| refine zJ ?_
| refine zC ?_
| (refine o_go rfl ?_; (first
| refine p_p (zD rfl) ?_
| refine p_p (zA rfl) ?_
| refine p_p (zS rfl rfl rfl) ?_); refine ⟨_, aB, ?_⟩)
| refine o_nil ?_
| (refine zK rfl (fun hc => ?_) (fun hc => ?_) <;> try (exfalso; omega))
| refine zR ?_)
    all_goals try (exfalso; omega)
    refine g_loopT (α := Nat) (fun i => [(13, I (i : Int))]) (fun i => [arI (bif decide (0 < i) then aOown N tf (f + 1) else aOown N tf f), arI (bif decide (1 < i) then aOown N tf (f + 1) else aOown N tf f), boxH]) (fun i => i ≤ 2) (fun i => 2 - i) 0 aH (Nat.zero_le _) ⟨rfl, trivial⟩ rfl ?_
    rintro i hi
    dsimp only [zZ, List.set_cons_zero, List.set_cons_succ]
    obtain rfl | rfl | rfl : i = 0 ∨ i = 1 ∨ i = 2 := by omega
    · refine g_castH (hp' := [arI (aOown N tf f), arI (aOown N tf f), boxH]) rfl ?_
      cases b
      · repeat' (first
| refine g_seq ?_
| refine zJ ?_
| refine zC ?_
| (refine o_go rfl ?_; (first
| refine p_p (ps_index_box rfl rfl rfl rfl (by decide) (by decide)) ?_
| refine p_p (yA rfl rfl rfl rfl (by omega) (by omega)) ?_
| refine p_p (zN rfl rfl rfl (by omega) ht (by exact rfl)) ?_
| refine p_e (by kernel_rfl) (e_store_arr rfl rfl rfl rfl (by first | omega | (rw [List.length_set]; omega)) rfl rfl) ?_
| refine p_p (zD rfl) ?_
| refine p_p (zA rfl) ?_
| refine p_p (zF rfl rfl) ?_
| refine p_p (zS rfl rfl rfl) ?_
| refine p_p (ps_add rfl rfl rfl aN) ?_
| refine p_p (zH rfl rfl rfl rfl) ?_); refine ⟨_, aB, ?_⟩)
| refine o_nil ?_
| refine zX rfl ?_
| refine zW rfl ?_
| refine zR ?_)
        all_goals try (exfalso; omega)
        refine zT 1 (by omega) (by omega) aI ⟨rfl, trivial⟩ ?_
        exact zB (by rw [Nat.mul_one, ← hs, hr]; rfl) (zB rfl (zB rfl (zM _)))
      · repeat' (first
| refine g_seq ?_
| refine zJ ?_
| refine zC ?_
| (refine o_go rfl ?_; (first
| refine p_p (ps_index_box rfl rfl rfl rfl (by decide) (by decide)) ?_
| refine p_p (yA rfl rfl rfl rfl (by omega) (by omega)) ?_
| refine p_p (zN rfl rfl rfl (by omega) ht (by exact rfl)) ?_
| refine p_e (by kernel_rfl) (e_store_arr rfl rfl rfl rfl (by first | omega | (rw [List.length_set]; omega)) rfl rfl) ?_
| refine p_p (zD rfl) ?_
| refine p_p (zA rfl) ?_
| refine p_p (zF rfl rfl) ?_
| refine p_p (zS rfl rfl rfl) ?_
| refine p_p (ps_add rfl rfl rfl aN) ?_
| refine p_p (zH rfl rfl rfl rfl) ?_
| refine p_p (yA rfl rfl rfl rfl (by omega) aU) ?_); refine ⟨_, aB, ?_⟩)
| refine o_nil ?_
| refine zX rfl ?_
| refine zR ?_)
        all_goals try (exfalso; omega)
        refine zT 1 (by omega) (by omega) aI ⟨rfl, trivial⟩ ?_
        exact zB (by rw [Nat.mul_one, List.set_set, ← hs, hr]; rfl) (zB rfl (zB rfl (zM _)))
    · refine g_castH (hp' := [arI (aOown N tf (f + 1)), arI (aOown N tf f), boxH]) rfl ?_
      cases b
      · repeat' (first
| refine g_seq ?_
| refine zJ ?_
| refine zC ?_
| (refine o_go rfl ?_; (first
| refine p_p (ps_index_box rfl rfl rfl rfl (by decide) (by decide)) ?_
| refine p_p (yA rfl rfl rfl rfl (by omega) (by omega)) ?_
| refine p_p (zN rfl rfl rfl (by omega) ht (by exact rfl)) ?_
| refine p_e (by kernel_rfl) (e_store_arr rfl rfl rfl rfl (by first | omega | (rw [List.length_set]; omega)) rfl rfl) ?_
| refine p_p (zD rfl) ?_
| refine p_p (zA rfl) ?_
| refine p_p (zF rfl rfl) ?_
| refine p_p (zS rfl rfl rfl) ?_
| refine p_p (ps_add rfl rfl rfl aN) ?_
| refine p_p (zH rfl rfl rfl rfl) ?_); refine ⟨_, aB, ?_⟩)
| refine o_nil ?_
| refine zX rfl ?_
| refine zW rfl ?_
| refine zR ?_)
        all_goals try (exfalso; omega)
        refine zT 2 (by omega) (by omega) aI ⟨rfl, trivial⟩ ?_
        exact zB rfl (zB (by rw [Nat.mul_one, ← hs, hr]; rfl) (zB rfl (zM _)))
      · repeat' (first
| refine g_seq ?_
| refine zJ ?_
| refine zC ?_
| (refine o_go rfl ?_; (first
| refine p_p (ps_index_box rfl rfl rfl rfl (by decide) (by decide)) ?_
| refine p_p (yA rfl rfl rfl rfl (by omega) (by omega)) ?_
| refine p_p (zN rfl rfl rfl (by omega) ht (by exact rfl)) ?_
| refine p_e (by kernel_rfl) (e_store_arr rfl rfl rfl rfl (by first | omega | (rw [List.length_set]; omega)) rfl rfl) ?_
| refine p_p (zD rfl) ?_
| refine p_p (zA rfl) ?_
| refine p_p (zF rfl rfl) ?_
| refine p_p (zS rfl rfl rfl) ?_
| refine p_p (ps_add rfl rfl rfl aN) ?_
| refine p_p (zH rfl rfl rfl rfl) ?_
| refine p_p (yA rfl rfl rfl rfl (by omega) aU) ?_); refine ⟨_, aB, ?_⟩)
| refine o_nil ?_
| refine zX rfl ?_
| refine zR ?_)
        all_goals try (exfalso; omega)
        refine zT 2 (by omega) (by omega) aI ⟨rfl, trivial⟩ ?_
        exact zB rfl (zB (by rw [Nat.mul_one, List.set_set, ← hs, hr]; rfl) (zB rfl (zM _)))
    · refine g_castH (hp' := [arI (aOown N tf (f + 1)), arI (aOown N tf (f + 1)), boxH]) rfl ?_
      repeat' (first
| refine g_seq ?_
| refine zC ?_
| (refine o_go rfl ?_; (first
| refine p_p (zD rfl) ?_
| refine p_p (zA rfl) ?_
| refine p_p (zS rfl rfl rfl) ?_
| refine p_p (ps_add rfl rfl rfl aN) ?_); refine ⟨_, aB, ?_⟩)
| refine o_nil ?_
| refine zW rfl ?_
| refine g_exit ?_)
      all_goals try (exfalso; omega)
      exact zT (f + 1) (by omega) (by omega) aI ⟨rfl, trivial⟩ (zB rfl (zB rfl (zB rfl (zM _))))
  · obtain rfl : N = f := by omega
    rw [aO_full N tf my 0]
    repeat' (first
| refine g_seq ?_
| refine zJ ?_
| refine zC ?_
| (refine o_go rfl ?_; (first
| refine p_p (zD rfl) ?_
| refine p_p (zA rfl) ?_
| refine p_p (zS rfl rfl rfl) ?_); refine ⟨_, aB, ?_⟩)
| refine o_nil ?_
| (refine zK rfl (fun hc => ?_) (fun hc => ?_) <;> try (exfalso; omega))
| refine g_exit ?_)
    all_goals try (exfalso; omega)
    refine g_loopT (α := Nat) (fun D => [(14, I (((D + 1 : Nat)) : Int))]) (fun D => [arI (frI N tf my D 0), arI (frI N tf my D 1), boxH]) (fun D => D ≤ most) (fun D => most - D) 0 aH (Nat.zero_le _) ⟨rfl, trivial⟩ rfl ?_
    clear hf hf1
    rintro D hD
    dsimp only [zZ, List.set_cons_zero, List.set_cons_succ]
    by_cases hD1 : D < most
    · repeat' (first
| refine g_seq ?_
| refine zJ ?_
| refine zC ?_
| (refine o_go rfl ?_; (first
| refine p_p (zD rfl) ?_
| refine p_p (zA rfl) ?_
| refine p_p (ps_leq rfl rfl rfl) ?_); refine ⟨_, aB, ?_⟩)
| refine o_nil ?_
| (refine zK rfl (fun hc => ?_) (fun hc => ?_) <;> try (exfalso; omega))
| refine zR ?_)
      all_goals try (exfalso; omega)
      refine g_loopT (α := Nat) (fun f => [(15, I (f : Int))]) (fun f => [arI ((mxL N tf my D 0 f).map I), arI ((mxL N tf my D 1 f).map I), boxH]) (fun f => f ≤ N) (fun f => N - f) 0 aH (Nat.zero_le _) ⟨rfl, trivial⟩ (by rw [mxL_zero, mxL_zero]; rfl) ?_
      rintro f hf
      dsimp only [zZ, List.set_cons_zero, List.set_cons_succ]
      by_cases hf1 : f < N
      · repeat' (first
| refine g_seq ?_
| refine zJ ?_
| refine zC ?_
| (refine o_go rfl ?_; (first
| refine p_p (zD rfl) ?_
| refine p_p (zA rfl) ?_
| refine p_p (zS rfl rfl rfl) ?_); refine ⟨_, aB, ?_⟩)
| refine o_nil ?_
| (refine zK rfl (fun hc => ?_) (fun hc => ?_) <;> try (exfalso; omega))
| refine zR ?_)
        all_goals try (exfalso; omega)
        refine g_loopT (α := Nat) (fun i => [(16, I (i : Int))]) (fun i => [arI ((mxL N tf my D 0 (bif decide (0 < i) then f + 1 else f)).map I), arI ((mxL N tf my D 1 (bif decide (1 < i) then f + 1 else f)).map I), boxH]) (fun i => i ≤ 2) (fun i => 2 - i) 0 aH (Nat.zero_le _) ⟨rfl, trivial⟩ rfl ?_
        rintro i hi
        dsimp only [zZ, List.set_cons_zero, List.set_cons_succ]
        obtain rfl | rfl | rfl : i = 0 ∨ i = 1 ∨ i = 2 := by omega
        · refine g_castH (hp' := [arI (((mxL N tf my D 0 f).map I)), arI ((mxL N tf my D 1 (f)).map I), boxH]) rfl ?_
          obtain ⟨c, hc0⟩ : ∃ c : Nat → Int, c = cG N tf my D 0 f := ⟨_, rfl⟩
          have hcN : c N = fr N tf my (D + 1) 0 f := by rw [hc0, cG_full]
          have hc00 : c 0 = fr N tf my D 0 f := by rw [hc0, cG_zero]
          have hstop : ∀ g, g ≤ N → 0 ≤ c g → c g = c N := fun g hg h => by rw [hc0] at h ⊢; exact cG_stop N tf my hg h
          have hnx : ∀ g, c g < 0 → c (g + 1) = bif my 0 f g && decide (fr N tf my D 1 g = (D : Int)) then (D : Int) + 1 else -1 := fun g h => by rw [hc0] at h ⊢; exact cG_next N tf my h
          have hneg : ∀ g, c g < 0 → c g = -1 := fun g h => by rw [hc0] at h ⊢; exact cG_neg N tf my h
          have hm0 : (((mxL N tf my D 0 f).map I)).set f (I (c 0)) = ((mxL N tf my D 0 f).map I) := by
            refine List.ext_getElem? fun y => ?_
            by_cases e : y = f
            · subst e
              have := mxL_at N tf my (d := D) (i := 0) (x := y) hf1
              rw [Nat.mul_one] at this
              rw [List.getElem?_set_self (by rw [List.length_map, mxL_len]; exact hf1), this, hc00, decide_eq_false (by omega)]; rfl
            · rw [List.getElem?_set_ne (fun h => e h.symm)]
          have hmN : (((mxL N tf my D 0 f).map I)).set f (I (c N)) = (mxL N tf my D 0 (f + 1)).map I := by rw [hcN]; exact mxL_next N tf my hf1
          have hml : (((mxL N tf my D 0 f).map I)).length = N := by rw [List.length_map, mxL_len]
          have hol : (((mxL N tf my D 1 (f)).map I)).length = N := by rw [List.length_map, mxL_len]
          repeat' (first
| refine g_seq ?_
| refine zJ ?_
| refine zC ?_
| (refine o_go rfl ?_; (first
| refine p_p (zD rfl) ?_
| refine p_p (zA rfl) ?_
| refine p_p (zS rfl rfl rfl) ?_); refine ⟨_, aB, ?_⟩)
| refine o_nil ?_
| refine zX rfl ?_
| refine zR ?_)
          all_goals try (exfalso; omega)
          refine g_loopT (α := Nat) (fun g => [(17, I (g : Int))]) (fun g => [arI ((((mxL N tf my D 0 f).map I)).set f (I (c g))), arI ((mxL N tf my D 1 (f)).map I), boxH]) (fun g => g ≤ N) (fun g => N - g) 0 aH (Nat.zero_le _) ⟨rfl, trivial⟩ (by rw [hm0]) ?_
          rintro g hg
          dsimp only [zZ, List.set_cons_zero, List.set_cons_succ]
          have hsl : ((((mxL N tf my D 0 f).map I)).set f (I (c g))).length = N := by rw [List.length_set]; exact hml
          have hsf : ((((mxL N tf my D 0 f).map I)).set f (I (c g)))[f * 1]? = some (I (c g)) := by rw [Nat.mul_one]; exact List.getElem?_set_self (by omega)
          by_cases hg1 : g < N
          · by_cases hcg : 0 ≤ c g
            · repeat' (first
| refine g_seq ?_
| refine zC ?_
| (refine o_go rfl ?_; (first
| refine p_p (ps_index_box rfl rfl rfl rfl (by decide) (by decide)) ?_
| refine p_p (yA rfl rfl rfl rfl (by omega) (by omega)) ?_
| refine p_p (ps_load_arr rfl rfl rfl (by exact hsf) rfl) ?_
| refine p_p (zD rfl) ?_
| refine p_p (zA rfl) ?_
| refine p_p (zS rfl rfl rfl) ?_
| refine p_p (ps_add rfl rfl rfl aN) ?_
| refine p_p (zQ rfl rfl) ?_
| refine p_p (zH rfl rfl rfl rfl) ?_); refine ⟨_, aB, ?_⟩)
| refine o_nil ?_
| (refine o_splitD rfl rfl rfl (fun hc => ?_) (fun hc => ?_) <;> first | (exfalso; omega) | dsimp only [List.set_cons_zero, List.set_cons_succ])
| (refine zK rfl (fun hc => ?_) (fun hc => ?_) <;> try (exfalso; omega))
| refine g_exit ?_)
              all_goals try (exfalso; omega)
              exact zT 1 (by omega) (by omega) aI ⟨rfl, trivial⟩ (zB (by rw [hstop g hg hcg, hmN]; rfl) (zB rfl (zB rfl (zM _))))
            · have hcg' : c g < 0 := by omega
              have hcm := hneg g hcg'
              have hn2 := hnx g hcg'
              have hat := mxL_at N tf my (d := D) (i := 1) (x := f) hg1
              have hwD := mxL_eqD N tf my (d := D) (i := 1) (x := f) (f := g)
              generalize hw : (bif decide (g < f) then fr N tf my (D + 1) 1 g else fr N tf my D 1 g) = w at *
              have hmr : M0.length = N ∧ (M0.getD f []).length = N := ⟨hM0.1, hM0.2 _ (by rw [List.getD_eq_getElem?_getD, List.getElem?_eq_getElem (show f < M0.length by omega)]; exact List.getElem_mem _)⟩
              have i0 : [boolss M0, boolss M1][((0 : Nat) : Int).toNat]? = some (boolss M0) := rfl
              have i1 : (M0.map bools)[((f : Nat) : Int).toNat]? = some (bools (M0.getD f [])) := by rw [Int.toNat_natCast]; exact idx_bools (by omega)
              have i2 : ((M0.getD f []).map B)[((g : Nat) : Int).toNat]? = some (B (my 0 f g)) := by rw [Int.toNat_natCast, hmy]; exact idx_B (by omega)
              generalize my 0 f g = b at *
              cases b
              · repeat' (first
| refine g_seq ?_
| refine zJ ?_
| refine zC ?_
| (refine o_go rfl ?_; (first
| refine p_p (ps_index_box rfl rfl rfl rfl (by decide) (by decide)) ?_
| refine p_p (yA rfl rfl rfl rfl (by omega) (by omega)) ?_
| refine p_p (ps_load_arr rfl rfl rfl (by exact hsf) rfl) ?_
| refine p_p (zN rfl rfl rfl (by decide) i0 (by exact rfl)) ?_
| refine p_p (zN rfl rfl rfl (by omega) i1 (by exact rfl)) ?_
| refine p_p (zN rfl rfl rfl (by omega) i2 (by exact rfl)) ?_
| refine p_p (zD rfl) ?_
| refine p_p (zA rfl) ?_
| refine p_p (zF rfl rfl) ?_
| refine p_p (zS rfl rfl rfl) ?_
| refine p_p (ps_add rfl rfl rfl aN) ?_
| refine p_p (zQ rfl rfl) ?_
| refine p_p (zH rfl rfl rfl rfl) ?_); refine ⟨_, aB, ?_⟩)
| refine o_nil ?_
| (refine o_s rfl ?_; refine ⟨_, aB, ?_⟩)
| (refine o_splitD rfl rfl rfl (fun hc => ?_) (fun hc => ?_) <;> first | (exfalso; omega) | dsimp only [List.set_cons_zero, List.set_cons_succ])
| refine zW rfl ?_
| (refine zK rfl (fun hc => ?_) (fun hc => ?_) <;> try (exfalso; omega))
| refine zR ?_)
                all_goals try (exfalso; omega)
                exact zT (g + 1) (by omega) (by omega) aI ⟨rfl, trivial⟩ (zB (by rw [hn2, hcm]; rfl) (zB rfl (zB rfl (zM _))))
              · by_cases hwd : w = (D : Int)
                · rw [decide_eq_true (hwD.1 hwd)] at hn2
                  repeat' (first
| refine g_seq ?_
| refine zJ ?_
| refine zC ?_
| (refine o_go rfl ?_; (first
| refine p_p (ps_index_box rfl rfl rfl rfl (by decide) (by decide)) ?_
| refine p_p (yA rfl rfl rfl rfl (by omega) (by omega)) ?_
| refine p_p (ps_load_arr rfl rfl rfl (by exact hsf) rfl) ?_
| refine p_p (ps_load_arr rfl rfl rfl (by exact hat) rfl) ?_
| refine p_p (zN rfl rfl rfl (by decide) i0 (by exact rfl)) ?_
| refine p_p (zN rfl rfl rfl (by omega) i1 (by exact rfl)) ?_
| refine p_p (zN rfl rfl rfl (by omega) i2 (by exact rfl)) ?_
| refine p_e (by kernel_rfl) (e_store_arr rfl rfl rfl rfl (by omega) rfl rfl) ?_
| refine p_p (zD rfl) ?_
| refine p_p (zA rfl) ?_
| refine p_p (zF rfl rfl) ?_
| refine p_p (zS rfl rfl rfl) ?_
| refine p_p (ps_add rfl rfl rfl aN) ?_
| refine p_p (zQ rfl rfl) ?_
| refine p_p (ps_eql rfl rfl rfl) ?_
| refine p_p (ps_sub rfl rfl rfl aN) ?_
| refine p_p (zH rfl rfl rfl rfl) ?_); refine ⟨_, aB, ?_⟩)
| refine o_nil ?_
| (refine o_splitD rfl rfl rfl (fun hc => ?_) (fun hc => ?_) <;> first | (exfalso; omega) | dsimp only [List.set_cons_zero, List.set_cons_succ])
| (refine zK rfl (fun hc => ?_) (fun hc => ?_) <;> try (exfalso; omega))
| refine zR ?_)
                  all_goals try (exfalso; omega)
                  exact zT (g + 1) (by omega) (by omega) aI ⟨rfl, trivial⟩ (zB (by rw [hn2, Nat.mul_one, List.set_set]; rfl) (zB rfl (zB rfl (zM _))))
                · rw [decide_eq_false (fun h => hwd (hwD.2 h))] at hn2
                  repeat' (first
| refine g_seq ?_
| refine zJ ?_
| refine zC ?_
| (refine o_go rfl ?_; (first
| refine p_p (ps_index_box rfl rfl rfl rfl (by decide) (by decide)) ?_
| refine p_p (yA rfl rfl rfl rfl (by omega) (by omega)) ?_
| refine p_p (ps_load_arr rfl rfl rfl (by exact hsf) rfl) ?_
| refine p_p (ps_load_arr rfl rfl rfl (by exact hat) rfl) ?_
| refine p_p (zN rfl rfl rfl (by decide) i0 (by exact rfl)) ?_
| refine p_p (zN rfl rfl rfl (by omega) i1 (by exact rfl)) ?_
| refine p_p (zN rfl rfl rfl (by omega) i2 (by exact rfl)) ?_
| refine p_p (zD rfl) ?_
| refine p_p (zA rfl) ?_
| refine p_p (zF rfl rfl) ?_
| refine p_p (zS rfl rfl rfl) ?_
| refine p_p (ps_add rfl rfl rfl aN) ?_
| refine p_p (zQ rfl rfl) ?_
| refine p_p (ps_eql rfl rfl rfl) ?_
| refine p_p (ps_sub rfl rfl rfl aN) ?_
| refine p_p (zH rfl rfl rfl rfl) ?_); refine ⟨_, aB, ?_⟩)
| refine o_nil ?_
| (refine o_splitD rfl rfl rfl (fun hc => ?_) (fun hc => ?_) <;> first | (exfalso; omega) | dsimp only [List.set_cons_zero, List.set_cons_succ])
| (refine zK rfl (fun hc => ?_) (fun hc => ?_) <;> try (exfalso; omega))
| refine zR ?_)
                  all_goals try (exfalso; omega)
                  exact zT (g + 1) (by omega) (by omega) aI ⟨rfl, trivial⟩ (zB (by rw [hn2, hcm]; rfl) (zB rfl (zB rfl (zM _))))
          · obtain rfl : N = g := by omega
            rw [hmN]
            repeat' (first
| refine g_seq ?_
| refine zC ?_
| (refine o_go rfl ?_; (first
| refine p_p (zD rfl) ?_
| refine p_p (zA rfl) ?_
| refine p_p (zS rfl rfl rfl) ?_
| refine p_p (ps_add rfl rfl rfl aN) ?_
| refine p_p (zQ rfl rfl) ?_); refine ⟨_, aB, ?_⟩)
| refine o_nil ?_
| (refine o_s rfl ?_; refine ⟨_, aB, ?_⟩)
| (refine o_splitD rfl rfl rfl (fun hc => ?_) (fun hc => ?_) <;> first | (exfalso; omega) | dsimp only [List.set_cons_zero, List.set_cons_succ])
| refine zW rfl ?_
| refine g_exit ?_)
            all_goals try (exfalso; omega)
            exact zT 1 (by omega) (by omega) aI ⟨rfl, trivial⟩ (zB rfl (zB rfl (zB rfl (zM _))))
        · refine g_castH (hp' := [arI ((mxL N tf my D 0 (f + 1)).map I), arI (((mxL N tf my D 1 f).map I)), boxH]) rfl ?_
          obtain ⟨c, hc0⟩ : ∃ c : Nat → Int, c = cG N tf my D 1 f := ⟨_, rfl⟩
          have hcN : c N = fr N tf my (D + 1) 1 f := by rw [hc0, cG_full]
          have hc00 : c 0 = fr N tf my D 1 f := by rw [hc0, cG_zero]
          have hstop : ∀ g, g ≤ N → 0 ≤ c g → c g = c N := fun g hg h => by rw [hc0] at h ⊢; exact cG_stop N tf my hg h
          have hnx : ∀ g, c g < 0 → c (g + 1) = bif my 1 f g && decide (fr N tf my D 0 g = (D : Int)) then (D : Int) + 1 else -1 := fun g h => by rw [hc0] at h ⊢; exact cG_next N tf my h
          have hneg : ∀ g, c g < 0 → c g = -1 := fun g h => by rw [hc0] at h ⊢; exact cG_neg N tf my h
          have hm0 : (((mxL N tf my D 1 f).map I)).set f (I (c 0)) = ((mxL N tf my D 1 f).map I) := by
            refine List.ext_getElem? fun y => ?_
            by_cases e : y = f
            · subst e
              have := mxL_at N tf my (d := D) (i := 1) (x := y) hf1
              rw [Nat.mul_one] at this
              rw [List.getElem?_set_self (by rw [List.length_map, mxL_len]; exact hf1), this, hc00, decide_eq_false (by omega)]; rfl
            · rw [List.getElem?_set_ne (fun h => e h.symm)]
          have hmN : (((mxL N tf my D 1 f).map I)).set f (I (c N)) = (mxL N tf my D 1 (f + 1)).map I := by rw [hcN]; exact mxL_next N tf my hf1
          have hml : (((mxL N tf my D 1 f).map I)).length = N := by rw [List.length_map, mxL_len]
          have hol : (((mxL N tf my D 0 (f + 1)).map I)).length = N := by rw [List.length_map, mxL_len]
          repeat' (first
| refine g_seq ?_
| refine zJ ?_
| refine zC ?_
| (refine o_go rfl ?_; (first
| refine p_p (zD rfl) ?_
| refine p_p (zA rfl) ?_
| refine p_p (zS rfl rfl rfl) ?_); refine ⟨_, aB, ?_⟩)
| refine o_nil ?_
| refine zX rfl ?_
| refine zR ?_)
          all_goals try (exfalso; omega)
          refine g_loopT (α := Nat) (fun g => [(17, I (g : Int))]) (fun g => [arI ((mxL N tf my D 0 (f + 1)).map I), arI ((((mxL N tf my D 1 f).map I)).set f (I (c g))), boxH]) (fun g => g ≤ N) (fun g => N - g) 0 aH (Nat.zero_le _) ⟨rfl, trivial⟩ (by rw [hm0]) ?_
          rintro g hg
          dsimp only [zZ, List.set_cons_zero, List.set_cons_succ]
          have hsl : ((((mxL N tf my D 1 f).map I)).set f (I (c g))).length = N := by rw [List.length_set]; exact hml
          have hsf : ((((mxL N tf my D 1 f).map I)).set f (I (c g)))[f * 1]? = some (I (c g)) := by rw [Nat.mul_one]; exact List.getElem?_set_self (by omega)
          by_cases hg1 : g < N
          · by_cases hcg : 0 ≤ c g
            · repeat' (first
| refine g_seq ?_
| refine zC ?_
| (refine o_go rfl ?_; (first
| refine p_p (ps_index_box rfl rfl rfl rfl (by decide) (by decide)) ?_
| refine p_p (yA rfl rfl rfl rfl (by omega) (by omega)) ?_
| refine p_p (ps_load_arr rfl rfl rfl (by exact hsf) rfl) ?_
| refine p_p (zD rfl) ?_
| refine p_p (zA rfl) ?_
| refine p_p (zS rfl rfl rfl) ?_
| refine p_p (ps_add rfl rfl rfl aN) ?_
| refine p_p (zQ rfl rfl) ?_
| refine p_p (zH rfl rfl rfl rfl) ?_); refine ⟨_, aB, ?_⟩)
| refine o_nil ?_
| (refine o_splitD rfl rfl rfl (fun hc => ?_) (fun hc => ?_) <;> first | (exfalso; omega) | dsimp only [List.set_cons_zero, List.set_cons_succ])
| (refine zK rfl (fun hc => ?_) (fun hc => ?_) <;> try (exfalso; omega))
| refine g_exit ?_)
              all_goals try (exfalso; omega)
              exact zT 2 (by omega) (by omega) aI ⟨rfl, trivial⟩ (zB rfl (zB (by rw [hstop g hg hcg, hmN]; rfl) (zB rfl (zM _))))
            · have hcg' : c g < 0 := by omega
              have hcm := hneg g hcg'
              have hn2 := hnx g hcg'
              have hat := mxL_at N tf my (d := D) (i := 0) (x := f + 1) hg1
              have hwD := mxL_eqD N tf my (d := D) (i := 0) (x := f + 1) (f := g)
              generalize hw : (bif decide (g < f + 1) then fr N tf my (D + 1) 0 g else fr N tf my D 0 g) = w at *
              have hmr : M1.length = N ∧ (M1.getD f []).length = N := ⟨hM1.1, hM1.2 _ (by rw [List.getD_eq_getElem?_getD, List.getElem?_eq_getElem (show f < M1.length by omega)]; exact List.getElem_mem _)⟩
              have i0 : [boolss M0, boolss M1][((1 : Nat) : Int).toNat]? = some (boolss M1) := rfl
              have i1 : (M1.map bools)[((f : Nat) : Int).toNat]? = some (bools (M1.getD f [])) := by rw [Int.toNat_natCast]; exact idx_bools (by omega)
              have i2 : ((M1.getD f []).map B)[((g : Nat) : Int).toNat]? = some (B (my 1 f g)) := by rw [Int.toNat_natCast, hmy]; exact idx_B (by omega)
              generalize my 1 f g = b at *
              cases b
              · repeat' (first
| refine g_seq ?_
| refine zJ ?_
| refine zC ?_
| (refine o_go rfl ?_; (first
| refine p_p (ps_index_box rfl rfl rfl rfl (by decide) (by decide)) ?_
| refine p_p (yA rfl rfl rfl rfl (by omega) (by omega)) ?_
| refine p_p (ps_load_arr rfl rfl rfl (by exact hsf) rfl) ?_
| refine p_p (zN rfl rfl rfl (by decide) i0 (by exact rfl)) ?_
| refine p_p (zN rfl rfl rfl (by omega) i1 (by exact rfl)) ?_
| refine p_p (zN rfl rfl rfl (by omega) i2 (by exact rfl)) ?_
| refine p_p (zD rfl) ?_
| refine p_p (zA rfl) ?_
| refine p_p (zF rfl rfl) ?_
| refine p_p (zS rfl rfl rfl) ?_
| refine p_p (ps_add rfl rfl rfl aN) ?_
| refine p_p (zQ rfl rfl) ?_
| refine p_p (zH rfl rfl rfl rfl) ?_); refine ⟨_, aB, ?_⟩)
| refine o_nil ?_
| (refine o_s rfl ?_; refine ⟨_, aB, ?_⟩)
| (refine o_splitD rfl rfl rfl (fun hc => ?_) (fun hc => ?_) <;> first | (exfalso; omega) | dsimp only [List.set_cons_zero, List.set_cons_succ])
| refine zW rfl ?_
| (refine zK rfl (fun hc => ?_) (fun hc => ?_) <;> try (exfalso; omega))
| refine zR ?_)
                all_goals try (exfalso; omega)
                exact zT (g + 1) (by omega) (by omega) aI ⟨rfl, trivial⟩ (zB rfl (zB (by rw [hn2, hcm]; rfl) (zB rfl (zM _))))
              · by_cases hwd : w = (D : Int)
                · rw [decide_eq_true (hwD.1 hwd)] at hn2
                  repeat' (first
| refine g_seq ?_
| refine zJ ?_
| refine zC ?_
| (refine o_go rfl ?_; (first
| refine p_p (ps_index_box rfl rfl rfl rfl (by decide) (by decide)) ?_
| refine p_p (yA rfl rfl rfl rfl (by omega) (by omega)) ?_
| refine p_p (ps_load_arr rfl rfl rfl (by exact hsf) rfl) ?_
| refine p_p (ps_load_arr rfl rfl rfl (by exact hat) rfl) ?_
| refine p_p (zN rfl rfl rfl (by decide) i0 (by exact rfl)) ?_
| refine p_p (zN rfl rfl rfl (by omega) i1 (by exact rfl)) ?_
| refine p_p (zN rfl rfl rfl (by omega) i2 (by exact rfl)) ?_
| refine p_e (by kernel_rfl) (e_store_arr rfl rfl rfl rfl (by omega) rfl rfl) ?_
| refine p_p (zD rfl) ?_
| refine p_p (zA rfl) ?_
| refine p_p (zF rfl rfl) ?_
| refine p_p (zS rfl rfl rfl) ?_
| refine p_p (ps_add rfl rfl rfl aN) ?_
| refine p_p (zQ rfl rfl) ?_
| refine p_p (ps_eql rfl rfl rfl) ?_
| refine p_p (ps_sub rfl rfl rfl aN) ?_
| refine p_p (zH rfl rfl rfl rfl) ?_); refine ⟨_, aB, ?_⟩)
| refine o_nil ?_
| (refine o_splitD rfl rfl rfl (fun hc => ?_) (fun hc => ?_) <;> first | (exfalso; omega) | dsimp only [List.set_cons_zero, List.set_cons_succ])
| (refine zK rfl (fun hc => ?_) (fun hc => ?_) <;> try (exfalso; omega))
| refine zR ?_)
                  all_goals try (exfalso; omega)
                  exact zT (g + 1) (by omega) (by omega) aI ⟨rfl, trivial⟩ (zB rfl (zB (by rw [hn2, Nat.mul_one, List.set_set]; rfl) (zB rfl (zM _))))
                · rw [decide_eq_false (fun h => hwd (hwD.2 h))] at hn2
                  repeat' (first
| refine g_seq ?_
| refine zJ ?_
| refine zC ?_
| (refine o_go rfl ?_; (first
| refine p_p (ps_index_box rfl rfl rfl rfl (by decide) (by decide)) ?_
| refine p_p (yA rfl rfl rfl rfl (by omega) (by omega)) ?_
| refine p_p (ps_load_arr rfl rfl rfl (by exact hsf) rfl) ?_
| refine p_p (ps_load_arr rfl rfl rfl (by exact hat) rfl) ?_
| refine p_p (zN rfl rfl rfl (by decide) i0 (by exact rfl)) ?_
| refine p_p (zN rfl rfl rfl (by omega) i1 (by exact rfl)) ?_
| refine p_p (zN rfl rfl rfl (by omega) i2 (by exact rfl)) ?_
| refine p_p (zD rfl) ?_
| refine p_p (zA rfl) ?_
| refine p_p (zF rfl rfl) ?_
| refine p_p (zS rfl rfl rfl) ?_
| refine p_p (ps_add rfl rfl rfl aN) ?_
| refine p_p (zQ rfl rfl) ?_
| refine p_p (ps_eql rfl rfl rfl) ?_
| refine p_p (ps_sub rfl rfl rfl aN) ?_
| refine p_p (zH rfl rfl rfl rfl) ?_); refine ⟨_, aB, ?_⟩)
| refine o_nil ?_
| (refine o_splitD rfl rfl rfl (fun hc => ?_) (fun hc => ?_) <;> first | (exfalso; omega) | dsimp only [List.set_cons_zero, List.set_cons_succ])
| (refine zK rfl (fun hc => ?_) (fun hc => ?_) <;> try (exfalso; omega))
| refine zR ?_)
                  all_goals try (exfalso; omega)
                  exact zT (g + 1) (by omega) (by omega) aI ⟨rfl, trivial⟩ (zB rfl (zB (by rw [hn2, hcm]; rfl) (zB rfl (zM _))))
          · obtain rfl : N = g := by omega
            rw [hmN]
            repeat' (first
| refine g_seq ?_
| refine zC ?_
| (refine o_go rfl ?_; (first
| refine p_p (zD rfl) ?_
| refine p_p (zA rfl) ?_
| refine p_p (zS rfl rfl rfl) ?_
| refine p_p (ps_add rfl rfl rfl aN) ?_
| refine p_p (zQ rfl rfl) ?_); refine ⟨_, aB, ?_⟩)
| refine o_nil ?_
| (refine o_s rfl ?_; refine ⟨_, aB, ?_⟩)
| (refine o_splitD rfl rfl rfl (fun hc => ?_) (fun hc => ?_) <;> first | (exfalso; omega) | dsimp only [List.set_cons_zero, List.set_cons_succ])
| refine zW rfl ?_
| refine g_exit ?_)
            all_goals try (exfalso; omega)
            exact zT 2 (by omega) (by omega) aI ⟨rfl, trivial⟩ (zB rfl (zB rfl (zB rfl (zM _))))
        · refine g_castH (hp' := [arI ((mxL N tf my D 0 (f + 1)).map I), arI ((mxL N tf my D 1 (f + 1)).map I), boxH]) rfl ?_
          repeat' (first
| refine g_seq ?_
| refine zC ?_
| (refine o_go rfl ?_; (first
| refine p_p (zD rfl) ?_
| refine p_p (zA rfl) ?_
| refine p_p (zS rfl rfl rfl) ?_
| refine p_p (ps_add rfl rfl rfl aN) ?_); refine ⟨_, aB, ?_⟩)
| refine o_nil ?_
| refine zW rfl ?_
| refine g_exit ?_)
          all_goals try (exfalso; omega)
          exact zT (f + 1) (by omega) (by omega) aI ⟨rfl, trivial⟩ (zB rfl (zB rfl (zB rfl (zM _))))
      · obtain rfl : N = f := by omega
        rw [mxL_full, mxL_full]
        repeat' (first
| refine g_seq ?_
| refine zC ?_
| (refine o_go rfl ?_; (first
| refine p_p (zD rfl) ?_
| refine p_p (zA rfl) ?_
| refine p_p (zS rfl rfl rfl) ?_
| refine p_p (ps_add rfl rfl rfl aN) ?_); refine ⟨_, aB, ?_⟩)
| refine o_nil ?_
| (refine zK rfl (fun hc => ?_) (fun hc => ?_) <;> try (exfalso; omega))
| refine g_exit ?_)
        all_goals try (exfalso; omega)
        exact zT (D + 1) (by omega) (by omega) aI ⟨vI (by push_cast; omega), trivial⟩ (zB rfl (zB rfl (zB rfl (zM _))))
    · obtain rfl : most = D := by omega
      repeat' (first
| refine g_seq ?_
| refine zJ ?_
| refine zC ?_
| (refine o_go rfl ?_; (first
| refine p_p (zD rfl) ?_
| refine p_p (zA rfl) ?_
| refine p_p (ps_leq rfl rfl rfl) ?_); refine ⟨_, aB, ?_⟩)
| refine o_nil ?_
| (refine zK rfl (fun hc => ?_) (fun hc => ?_) <;> try (exfalso; omega))
| refine g_exit ?_)
      all_goals try (exfalso; omega)
      have hal := frI_len N tf my most 0
      have hal1 := frI_len N tf my most 1
      have hFi : ∀ k, k < F.length → ((F.map Int.ofNat).map I)[((k : Nat) : Int).toNat]? = some (I ((F.getD k 0 : Nat) : Int)) := fun k hk => by
        rw [Int.toNat_natCast, List.map_map, List.getElem?_map, List.getElem?_eq_getElem hk, List.getD_eq_getElem?_getD, List.getElem?_eq_getElem hk]; rfl
      have hFm : ∀ k, k < F.length → F.getD k 0 < N := fun k hk => hF _ (by rw [List.getD_eq_getElem?_getD, List.getElem?_eq_getElem hk]; exact List.getElem_mem hk)
      have hFL : (F.map Int.ofNat).length = F.length := List.length_map _
      refine g_loopT (α := Nat) (fun k => [(18, I (bestF N tf my (F.take k) most)), (19, I (k : Int))]) (fun _ => [arI (frI N tf my most 0), arI (frI N tf my most 1), boxH]) (fun k => k ≤ F.length) (fun k => F.length - k) 0 aH (Nat.zero_le _) ⟨rfl, rfl, trivial⟩ rfl ?_
      rintro k hk
      dsimp only [zZ, List.set_cons_zero, List.set_cons_succ]
      by_cases hk1 : k < F.length
      · have hx := hFm k hk1
        have hix := hFi k hk1
        have hat := frI_at (N := N) (to := tf) (may := my) (d := most) (i := 0) hx
        have hsn := bestF_snoc N tf my (F.take k) (F.getD k 0) most
        rw [← take_snoc 0 hk1] at hsn
        generalize F.getD k 0 = x at *
        generalize hw : fr N tf my most 0 x = w at *
        generalize bestF N tf my (F.take k) most = b at *
        by_cases h1 : 0 ≤ w
        · by_cases h2 : b < 0
          · repeat' (first
| refine g_seq ?_
| refine zJ ?_
| refine zC ?_
| refine zP (by kernel_rfl) (by kernel_rfl) ?_
| (refine o_go rfl ?_; (first
| refine p_p (ps_index_box rfl rfl rfl rfl (by decide) (by decide)) ?_
| refine p_p (zN rfl rfl rfl (by omega) hix (by exact rfl)) ?_
| refine p_p (yA rfl rfl rfl rfl (by omega) (by omega)) ?_
| refine p_p (ps_load_arr rfl rfl rfl (by exact hat) rfl) ?_
| refine p_p (zD rfl) ?_
| refine p_p (zA rfl) ?_
| refine p_p (zF rfl rfl) ?_
| refine p_p (zU rfl rfl rfl) ?_
| refine p_p (zS rfl rfl rfl) ?_
| refine p_p (ps_add rfl rfl rfl aN) ?_
| refine p_p (zQ rfl rfl) ?_
| refine p_p (ps_geq rfl rfl rfl) ?_
| refine p_p (zH rfl rfl rfl rfl) ?_); refine ⟨_, aB, ?_⟩)
| refine o_nil ?_
| (refine o_s rfl ?_; refine ⟨_, aB, ?_⟩)
| (refine o_splitD rfl rfl rfl (fun hc => ?_) (fun hc => ?_) <;> first | (exfalso; omega) | dsimp only [List.set_cons_zero, List.set_cons_succ])
| refine zX rfl ?_
| (refine zK rfl (fun hc => ?_) (fun hc => ?_) <;> try (exfalso; omega))
| refine zR ?_)
            all_goals try (exfalso; omega)
            exact zT (k + 1) (by omega) (by omega) aI ⟨vI (by rw [hsn, decide_eq_true h1, decide_eq_true h2]; rfl), rfl, trivial⟩ (zB rfl (zB rfl (zB rfl (zM _))))
          · by_cases h3 : w < b
            · repeat' (first
| refine g_seq ?_
| refine zJ ?_
| refine zC ?_
| refine zP (by kernel_rfl) (by kernel_rfl) ?_
| (refine o_go rfl ?_; (first
| refine p_p (ps_index_box rfl rfl rfl rfl (by decide) (by decide)) ?_
| refine p_p (zN rfl rfl rfl (by omega) hix (by exact rfl)) ?_
| refine p_p (yA rfl rfl rfl rfl (by omega) (by omega)) ?_
| refine p_p (ps_load_arr rfl rfl rfl (by exact hat) rfl) ?_
| refine p_p (zD rfl) ?_
| refine p_p (zA rfl) ?_
| refine p_p (zF rfl rfl) ?_
| refine p_p (zU rfl rfl rfl) ?_
| refine p_p (zS rfl rfl rfl) ?_
| refine p_p (ps_add rfl rfl rfl aN) ?_
| refine p_p (zQ rfl rfl) ?_
| refine p_p (ps_geq rfl rfl rfl) ?_
| refine p_p (zH rfl rfl rfl rfl) ?_); refine ⟨_, aB, ?_⟩)
| refine o_nil ?_
| (refine o_splitD rfl rfl rfl (fun hc => ?_) (fun hc => ?_) <;> first | (exfalso; omega) | dsimp only [List.set_cons_zero, List.set_cons_succ])
| (refine zK rfl (fun hc => ?_) (fun hc => ?_) <;> try (exfalso; omega))
| refine zR ?_)
              all_goals try (exfalso; omega)
              exact zT (k + 1) (by omega) (by omega) aI ⟨vI (by rw [hsn, decide_eq_true h1, decide_eq_false h2, decide_eq_true h3]; rfl), rfl, trivial⟩ (zB rfl (zB rfl (zB rfl (zM _))))
            · repeat' (first
| refine g_seq ?_
| refine zJ ?_
| refine zC ?_
| refine zP (by kernel_rfl) (by kernel_rfl) ?_
| (refine o_go rfl ?_; (first
| refine p_p (ps_index_box rfl rfl rfl rfl (by decide) (by decide)) ?_
| refine p_p (zN rfl rfl rfl (by omega) hix (by exact rfl)) ?_
| refine p_p (yA rfl rfl rfl rfl (by omega) (by omega)) ?_
| refine p_p (ps_load_arr rfl rfl rfl (by exact hat) rfl) ?_
| refine p_p (zD rfl) ?_
| refine p_p (zA rfl) ?_
| refine p_p (zF rfl rfl) ?_
| refine p_p (zU rfl rfl rfl) ?_
| refine p_p (zS rfl rfl rfl) ?_
| refine p_p (ps_add rfl rfl rfl aN) ?_
| refine p_p (zQ rfl rfl) ?_
| refine p_p (ps_geq rfl rfl rfl) ?_
| refine p_p (zH rfl rfl rfl rfl) ?_); refine ⟨_, aB, ?_⟩)
| refine o_nil ?_
| (refine o_splitD rfl rfl rfl (fun hc => ?_) (fun hc => ?_) <;> first | (exfalso; omega) | dsimp only [List.set_cons_zero, List.set_cons_succ])
| (refine zK rfl (fun hc => ?_) (fun hc => ?_) <;> try (exfalso; omega))
| refine zR ?_)
              all_goals try (exfalso; omega)
              exact zT (k + 1) (by omega) (by omega) aI ⟨vI (by rw [hsn, decide_eq_true h1, decide_eq_false h2, decide_eq_false h3]; rfl), rfl, trivial⟩ (zB rfl (zB rfl (zB rfl (zM _))))
        · repeat' (first
| refine g_seq ?_
| refine zJ ?_
| refine zC ?_
| refine zP (by kernel_rfl) (by kernel_rfl) ?_
| (refine o_go rfl ?_; (first
| refine p_p (ps_index_box rfl rfl rfl rfl (by decide) (by decide)) ?_
| refine p_p (zN rfl rfl rfl (by omega) hix (by exact rfl)) ?_
| refine p_p (yA rfl rfl rfl rfl (by omega) (by omega)) ?_
| refine p_p (ps_load_arr rfl rfl rfl (by exact hat) rfl) ?_
| refine p_p (zD rfl) ?_
| refine p_p (zA rfl) ?_
| refine p_p (zF rfl rfl) ?_
| refine p_p (zU rfl rfl rfl) ?_
| refine p_p (zS rfl rfl rfl) ?_
| refine p_p (ps_add rfl rfl rfl aN) ?_
| refine p_p (zQ rfl rfl) ?_
| refine p_p (ps_geq rfl rfl rfl) ?_
| refine p_p (zH rfl rfl rfl rfl) ?_); refine ⟨_, aB, ?_⟩)
| refine o_nil ?_
| (refine o_s rfl ?_; refine ⟨_, aB, ?_⟩)
| (refine o_splitD rfl rfl rfl (fun hc => ?_) (fun hc => ?_) <;> first | (exfalso; omega) | dsimp only [List.set_cons_zero, List.set_cons_succ])
| refine zW rfl ?_
| (refine zK rfl (fun hc => ?_) (fun hc => ?_) <;> try (exfalso; omega))
| refine zR ?_)
          all_goals try (exfalso; omega)
          exact zT (k + 1) (by omega) (by omega) aI ⟨vI (by rw [hsn, decide_eq_false h1]; rfl), rfl, trivial⟩ (zB rfl (zB rfl (zB rfl (zM _))))
      · obtain rfl : F.length = k := by omega
        rw [List.take_length]
        obtain ⟨b, hb⟩ : ∃ b, b = bestF N tf my F most := ⟨_, rfl⟩
        have hcw : chainW N tf my F most = bif decide (b < 0) then ([], false) else (pathW N tf my most b.toNat 0 ((F.find? fun x => decide (fr N tf my most 0 x = b)).getD 0), true) := by rw [hb]; rfl
        have hbin := bestF_in N tf my F most
        rw [← hb] at hbin ⊢
        rw [hcw]
        by_cases hb0 : b < 0
        · rw [decide_eq_true hb0, cond_true]
          repeat' (first
| refine g_seq ?_
| refine zC ?_
| (refine o_go rfl ?_; (first
| refine p_p (zD rfl) ?_
| refine p_p (zA rfl) ?_
| refine p_p (zU rfl rfl rfl) ?_
| refine p_p (zS rfl rfl rfl) ?_
| refine p_e rfl (e_lit0 rfl (by decide)) ?_); refine ⟨_, aB, ?_⟩)
| refine o_nil ?_
| (refine zK rfl (fun hc => ?_) (fun hc => ?_) <;> try (exfalso; omega))
| refine kr2 ?_ ?_
| refine krB rfl ?_
| refine krS rfl ?_
| refine g_exit ?_
| refine g_ret ?_)
          all_goals first | rfl | (exfalso; omega)
        · rw [decide_eq_false hb0, cond_false]
          obtain ⟨p, hp⟩ : ∃ p : Nat → Bool, p = fun x => decide (fr N tf my most 0 x = b) := ⟨_, rfl⟩
          rw [← hp]
          repeat' (first
| refine g_seq ?_
| refine zJ ?_
| refine zC ?_
| (refine o_go rfl ?_; (first
| refine p_e rfl (e_lit0T rfl (by decide)) ?_
| refine p_p (zD rfl) ?_
| refine p_p (zA rfl) ?_
| refine p_p (zU rfl rfl rfl) ?_
| refine p_p (zS rfl rfl rfl) ?_); refine ⟨_, aB, ?_⟩)
| refine o_nil ?_
| (refine zK rfl (fun hc => ?_) (fun hc => ?_) <;> try (exfalso; omega))
| refine zR ?_
| refine g_exit ?_)
          all_goals try (exfalso; omega)
          refine g_loopF (α := Nat) [146] (fun k => [(21, .hp 3), (22, I (k : Int))]) (fun k => [arI (frI N tf my most 0), arI (frI N tf my most 1), boxH, arI (((F.take k).find? p).toList.map Nn)]) (fun k => k ≤ F.length) (fun k => F.length - k) 0 aH (Nat.zero_le _) ⟨rfl, rfl, trivial⟩ rfl ?_
          rintro k hk
          dsimp only [zZ, List.set_cons_zero, List.set_cons_succ]
          by_cases hk1 : k < F.length
          · have hx := hFm k hk1
            have hix := hFi k hk1
            have hat := frI_at (N := N) (to := tf) (may := my) (d := most) (i := 0) hx
            have hfn : (F.take (k + 1)).find? p = ((F.take k).find? p).or (bif p (F.getD k 0) then some (F.getD k 0) else none) := by
              have hfn0 : ∀ x, (F.take k ++ [x]).find? p = ((F.take k).find? p).or (bif p x then some x else none) := fun x => by
                rw [List.find?_append]
                cases hpx : p x <;> simp [List.find?, hpx]
              rw [take_snoc 0 hk1]; exact hfn0 _
            have hpx : p (F.getD k 0) = decide (fr N tf my most 0 (F.getD k 0) = b) := by rw [hp]
            generalize (F.take k).find? p = Y at *
            generalize F.getD k 0 = x at *
            generalize hw : fr N tf my most 0 x = w at *
            cases Y with
            | some y =>
              have hyl : ((some y).toList.map Nn).length = 1 := rfl
              repeat' (first
| refine g_seq ?_
| refine zJ ?_
| refine zC ?_
| refine zP (by kernel_rfl) (by kernel_rfl) ?_
| (refine o_go rfl ?_; (first
| refine p_p (zD rfl) ?_
| refine p_p (zA rfl) ?_
| refine p_p (zU rfl rfl rfl) ?_
| refine p_p (zS rfl rfl rfl) ?_
| refine p_p (ps_add rfl rfl rfl aN) ?_
| refine p_p (zQ rfl rfl) ?_
| refine p_p (ps_eql rfl rfl rfl) ?_
| refine p_p (ps_len_mut rfl rfl rfl rfl) ?_); refine ⟨_, aB, ?_⟩)
| refine o_nil ?_
| (refine o_s rfl ?_; refine ⟨_, aB, ?_⟩)
| refine zW rfl ?_
| (refine zK rfl (fun hc => ?_) (fun hc => ?_) <;> try (exfalso; omega))
| refine zR ?_)
              all_goals try (exfalso; omega)
              exact zT (k + 1) (by omega) (by omega) aI ⟨rfl, rfl, trivial⟩ (zB rfl (zB rfl (zB rfl (zB (by rw [hfn]; rfl) (zM _)))))
            | none =>
              have hyl : ((none : Option Nat).toList.map Nn).length = 0 := rfl
              by_cases hwb : w = b
              · rw [decide_eq_true hwb] at hpx
                rw [hpx] at hfn
                repeat' (first
| refine g_seq ?_
| refine zJ ?_
| refine zC ?_
| refine zP (by kernel_rfl) (by kernel_rfl) ?_
| (refine o_go rfl ?_; (first
| refine p_p (ps_index_box rfl rfl rfl rfl (by decide) (by decide)) ?_
| refine p_p (zN rfl rfl rfl (by omega) hix (by exact rfl)) ?_
| refine p_p (yA rfl rfl rfl rfl (by omega) (by omega)) ?_
| refine p_p (ps_load_arr rfl rfl rfl (by exact hat) rfl) ?_
| refine p_e (by kernel_rfl) (e_append rfl rfl rfl rfl rfl rfl (one_one rfl) rfl aP aP) ?_
| refine p_p (zD rfl) ?_
| refine p_p (zA rfl) ?_
| refine p_p (zF rfl rfl) ?_
| refine p_p (zU rfl rfl rfl) ?_
| refine p_p (zS rfl rfl rfl) ?_
| refine p_p (ps_add rfl rfl rfl aN) ?_
| refine p_p (zQ rfl rfl) ?_
| refine p_p (ps_eql rfl rfl rfl) ?_
| refine p_p (ps_len_mut rfl rfl rfl rfl) ?_
| refine p_p (zH rfl rfl rfl rfl) ?_
| refine p_p (ps_lit1 rfl rfl (by rfl) (by rfl)) ?_); refine ⟨_, aB, ?_⟩)
| refine o_nil ?_
| (refine zK rfl (fun hc => ?_) (fun hc => ?_) <;> try (exfalso; omega))
| refine zR ?_)
                all_goals try (exfalso; omega)
                exact zT (k + 1) (by omega) (by omega) aI ⟨rfl, rfl, trivial⟩ (zB rfl (zB rfl (zB rfl (zB (by rw [hfn]; rfl) (zM _)))))
              · rw [decide_eq_false hwb] at hpx
                rw [hpx] at hfn
                repeat' (first
| refine g_seq ?_
| refine zJ ?_
| refine zC ?_
| refine zP (by kernel_rfl) (by kernel_rfl) ?_
| (refine o_go rfl ?_; (first
| refine p_p (ps_index_box rfl rfl rfl rfl (by decide) (by decide)) ?_
| refine p_p (zN rfl rfl rfl (by omega) hix (by exact rfl)) ?_
| refine p_p (yA rfl rfl rfl rfl (by omega) (by omega)) ?_
| refine p_p (ps_load_arr rfl rfl rfl (by exact hat) rfl) ?_
| refine p_p (zD rfl) ?_
| refine p_p (zA rfl) ?_
| refine p_p (zF rfl rfl) ?_
| refine p_p (zU rfl rfl rfl) ?_
| refine p_p (zS rfl rfl rfl) ?_
| refine p_p (ps_add rfl rfl rfl aN) ?_
| refine p_p (zQ rfl rfl) ?_
| refine p_p (ps_eql rfl rfl rfl) ?_
| refine p_p (ps_len_mut rfl rfl rfl rfl) ?_
| refine p_p (zH rfl rfl rfl rfl) ?_); refine ⟨_, aB, ?_⟩)
| refine o_nil ?_
| (refine zK rfl (fun hc => ?_) (fun hc => ?_) <;> try (exfalso; omega))
| refine zR ?_)
                all_goals try (exfalso; omega)
                exact zT (k + 1) (by omega) (by omega) aI ⟨rfl, rfl, trivial⟩ (zB rfl (zB rfl (zB rfl (zB (by rw [hfn]; rfl) (zM _)))))
          · obtain rfl : F.length = k := by omega
            rw [List.take_length]
            obtain ⟨x0, hx0, hx0N, hx0b⟩ : ∃ x0, F.find? p = some x0 ∧ x0 < N ∧ fr N tf my most 0 x0 = b := by
              cases hfd : F.find? p with
              | none =>
                obtain ⟨x, hx, hxb⟩ := hbin (by omega)
                have := List.find?_eq_none.1 hfd x hx
                rw [hp] at this
                exact absurd (decide_eq_true hxb) this
              | some x0 =>
                have h1 := List.find?_some hfd
                rw [hp] at h1
                exact ⟨x0, rfl, hF _ (List.mem_of_find?_eq_some hfd), of_decide_eq_true h1⟩
            rw [hx0]
            obtain ⟨bN, rfl⟩ : ∃ bN : Nat, b = (bN : Int) := ⟨b.toNat, by omega⟩
            rw [Int.toNat_natCast]
            obtain ⟨Pw, hPw⟩ : ∃ Pw, Pw = pathW N tf my most bN 0 x0 := ⟨_, rfl⟩
            rw [show (some x0).getD 0 = x0 from rfl, ← hPw]
            have hbm : bN ≤ most := by have := (fr_range N tf my most 0 x0).2; omega
            repeat' (first
| refine g_seq ?_
| refine zJ ?_
| refine zC ?_
| (refine o_go rfl ?_; (first
| refine p_p (zD rfl) ?_
| refine p_p (zA rfl) ?_
| refine p_p (zU rfl rfl rfl) ?_
| refine p_p (zS rfl rfl rfl) ?_); refine ⟨_, aB, ?_⟩)
| refine o_nil ?_
| (refine zK rfl (fun hc => ?_) (fun hc => ?_) <;> try (exfalso; omega))
| refine g_exit ?_)
            all_goals try (exfalso; omega)
            refine g_loopT (α := Nat × List Nat) (fun s => [(21, .hp 3), (23, I (s.1 : Int))]) (fun s => [arI (frI N tf my most 0), arI (frI N tf my most 1), boxH, arI (s.2.map Nn)]) (fun s => s.1 ≤ bN ∧ s.2.length = s.1 + 1 ∧ (∀ c ∈ s.2, c < N) ∧ fr N tf my most (s.1 % 2) (s.2.getD s.1 0) = ((bN - s.1 : Nat) : Int) ∧ Pw = s.2.take s.1 ++ pathW N tf my most (bN - s.1) s.1 (s.2.getD s.1 0)) (fun s => bN - s.1) (0, [x0]) aH ⟨Nat.zero_le _, rfl, by simpa using hx0N, by rw [Nat.sub_zero]; exact hx0b, by rw [hPw]; rfl⟩ ⟨rfl, rfl, trivial⟩ rfl ?_
            rintro ⟨i, C⟩ ⟨hi, hCl, hCm, hv, hP⟩
            dsimp only at hi hCl hCm hv hP
            dsimp only [zZ, List.set_cons_zero, List.set_cons_succ]
            have hCi : (C.map Nn).length = i + 1 := by rw [List.length_map, hCl]
            have hCat : (C.map Nn)[i * 1]? = some (I ((C.getD i 0 : Nat) : Int)) := by
              rw [Nat.mul_one, List.getElem?_map, List.getD_eq_getElem?_getD, List.getElem?_eq_getElem (show i < C.length by omega)]; rfl
            have hla := hCm _ (show C.getD i 0 ∈ C by rw [List.getD_eq_getElem?_getD, List.getElem?_eq_getElem (show i < C.length by omega)]; exact List.getElem_mem _)
            have hCt : C.take i ++ [C.getD i 0] = C := by rw [← take_snoc 0 (show i < C.length by omega), List.take_of_length_le (by omega)]
            have hnG : ∀ g, nxG N tf my most i (C.getD i 0) g = (my (i % 2) (C.getD i 0) g && decide (fr N tf my most (1 - i % 2) g = fr N tf my most (i % 2) (C.getD i 0) - 1)) := fun g => rfl
            have hpW : ∀ k, pathW N tf my most (k + 1) i (C.getD i 0) = C.getD i 0 :: pathW N tf my most k (i + 1) (((List.range N).find? (nxG N tf my most i (C.getD i 0))).getD 0) := fun k => rfl
            have hpar : (i % 2 = 0 ∧ (i : Int) % 2 = 0 ∧ (i + 1) % 2 = 1) ∨ (i % 2 = 1 ∧ (i : Int) % 2 = 1 ∧ (i + 1) % 2 = 0) := by omega
            generalize C.getD i 0 = la at *
            by_cases hib : i = bN
            · have hv0 : fr N tf my most (i % 2) la = 0 := by rw [hv]; omega
              rw [show bN - i = 0 by omega] at hP
              rw [show Pw = C from by rw [hP]; exact hCt]
              rcases hpar with ⟨e1, e2, -⟩ | ⟨e1, e2, -⟩
              · rw [e1] at hv0
                have hat := frI_at (N := N) (to := tf) (may := my) (d := most) (i := 0) hla
                rw [hv0] at hat
                repeat' (first
| rw [e2]
| refine g_seq ?_
| refine zC ?_
| refine zP (by kernel_rfl) (by kernel_rfl) ?_
| (refine o_go rfl ?_; (first
| refine p_p (ps_rem rfl rfl rfl (by omega) (by omega)) ?_
| refine p_p (ps_index_box rfl rfl rfl rfl (by decide) (by decide)) ?_
| refine p_p (yA rfl rfl rfl rfl (by omega) (by omega)) ?_
| refine p_p (ps_load_arr rfl rfl rfl (by exact hCat) rfl) ?_
| refine p_p (ps_load_arr rfl rfl rfl (by exact hat) rfl) ?_
| refine p_p (zD rfl) ?_
| refine p_p (zA rfl) ?_
| refine p_p (ps_gtr rfl rfl rfl) ?_
| refine p_p (zH rfl rfl rfl rfl) ?_); refine ⟨_, aB, ?_⟩)
| refine o_nil ?_
| refine zW rfl ?_
| refine kr2 ?_ ?_
| refine krB rfl ?_
| refine krS rfl ?_
| refine g_exit ?_
| refine g_ret ?_)
                all_goals try (exfalso; omega)
                all_goals first | rfl | (rw [List.map_map]; rfl)
              · rw [e1] at hv0
                have hat := frI_at (N := N) (to := tf) (may := my) (d := most) (i := 1) hla
                rw [hv0] at hat
                repeat' (first
| rw [e2]
| refine g_seq ?_
| refine zC ?_
| refine zP (by kernel_rfl) (by kernel_rfl) ?_
| (refine o_go rfl ?_; (first
| refine p_p (ps_rem rfl rfl rfl (by omega) (by omega)) ?_
| refine p_p (ps_index_box rfl rfl rfl rfl (by decide) (by decide)) ?_
| refine p_p (yA rfl rfl rfl rfl (by omega) (by omega)) ?_
| refine p_p (ps_load_arr rfl rfl rfl (by exact hCat) rfl) ?_
| refine p_p (ps_load_arr rfl rfl rfl (by exact hat) rfl) ?_
| refine p_p (zD rfl) ?_
| refine p_p (zA rfl) ?_
| refine p_p (ps_gtr rfl rfl rfl) ?_
| refine p_p (zH rfl rfl rfl rfl) ?_); refine ⟨_, aB, ?_⟩)
| refine o_nil ?_
| refine zW rfl ?_
| refine kr2 ?_ ?_
| refine krB rfl ?_
| refine krS rfl ?_
| refine g_exit ?_
| refine g_ret ?_)
                all_goals try (exfalso; omega)
                all_goals first | rfl | (rw [List.map_map]; rfl)
            · have hpr : ∃ g, g < N ∧ nxG N tf my most i la g = true := by
                obtain ⟨g, hg1, hg2, hg3⟩ := fr_pred N tf my (e := most) (i := i % 2) (f := la) (k := bN - i - 1) (by rw [hv]; omega)
                exact ⟨g, hg1, by rw [hnG, hg2, hg3, hv]; simp; omega⟩
              obtain ⟨g1, hg1N, hg1p, hg1n⟩ := least_ex hpr
              have hfd := find_at hg1n hg1p hg1N
              rw [show bN - i = (bN - (i + 1)) + 1 by omega, hpW, hfd] at hP
              have hvp : 0 < fr N tf my most (i % 2) la := by rw [hv]; omega
              have hCC : ∀ g : Nat, (C.map Nn ++ [I (g : Int)]) = (C ++ [g]).map Nn := fun g => by rw [List.map_append]; rfl
              have hg1v : fr N tf my most (1 - i % 2) g1 = ((bN - (i + 1) : Nat) : Int) := by
                rw [hnG, Bool.and_eq_true, decide_eq_true_eq] at hg1p
                rw [hg1p.2, hv]; omega
              rcases hpar with ⟨e1, e2, e3⟩ | ⟨e1, e2, e3⟩
              · have hat := frI_at (N := N) (to := tf) (may := my) (d := most) (i := 0) hla
                rw [e1] at hvp hv hg1v
                have hnG' : ∀ g, nxG N tf my most i la g = (my 0 la g && decide (fr N tf my most 1 g = fr N tf my most 0 la - 1)) := fun g => by rw [hnG, e1]
                repeat' (first
| rw [e2]
| refine g_seq ?_
| refine zJ ?_
| refine zC ?_
| refine zP (by kernel_rfl) (by kernel_rfl) ?_
| (refine o_go rfl ?_; (first
| refine p_p (ps_rem rfl rfl rfl (by omega) (by omega)) ?_
| refine p_p (ps_index_box rfl rfl rfl rfl (by decide) (by decide)) ?_
| refine p_p (yA rfl rfl rfl rfl (by omega) (by omega)) ?_
| refine p_p (ps_load_arr rfl rfl rfl (by exact hCat) rfl) ?_
| refine p_p (ps_load_arr rfl rfl rfl (by exact hat) rfl) ?_
| refine p_p (zD rfl) ?_
| refine p_p (zA rfl) ?_
| refine p_p (ps_gtr rfl rfl rfl) ?_
| refine p_p (zH rfl rfl rfl rfl) ?_); refine ⟨_, aB, ?_⟩)
| refine o_nil ?_
| (refine zK rfl (fun hc => ?_) (fun hc => ?_) <;> try (exfalso; omega))
| refine zR ?_)
                all_goals try (exfalso; omega)
                refine g_loopT (α := Nat) (fun g => [(24, I (g : Int))]) (fun _ => [arI (frI N tf my most 0), arI (frI N tf my most 1), boxH, arI (C.map Nn)]) (fun g => g ≤ g1) (fun g => g1 - g) 0 aH (Nat.zero_le _) ⟨rfl, trivial⟩ rfl ?_
                rintro g hg
                dsimp only [zZ, List.set_cons_zero, List.set_cons_succ]
                have hgN : g < N := by omega
                have hat2 := frI_at (N := N) (to := tf) (may := my) (d := most) (i := 1) hgN
                have hmr : M0.length = N ∧ (M0.getD la []).length = N := ⟨hM0.1, hM0.2 _ (by rw [List.getD_eq_getElem?_getD, List.getElem?_eq_getElem (show la < M0.length by omega)]; exact List.getElem_mem _)⟩
                have i0 : [boolss M0, boolss M1][(0 : Int).toNat]? = some (boolss M0) := rfl
                have i1 : (M0.map bools)[((la : Nat) : Int).toNat]? = some (bools (M0.getD la [])) := by rw [Int.toNat_natCast]; exact idx_bools (by omega)
                have i2 : ((M0.getD la []).map B)[((g : Nat) : Int).toNat]? = some (B (my 0 la g)) := by rw [Int.toNat_natCast, hmy]; exact idx_B (by omega)
                have hnGg := hnG' g
                generalize my 0 la g = bm at *
                generalize hwv : fr N tf my most 1 g = w at *
                generalize hvv : fr N tf my most 0 la = v at *
                by_cases hgg : g < g1
                · rw [hg1n g hgg] at hnGg
                  cases bm
                  · repeat' (first
| rw [e2]
| refine g_seq ?_
| refine zJ ?_
| refine zC ?_
| refine zP (by kernel_rfl) (by kernel_rfl) ?_
| (refine o_go rfl ?_; (first
| refine p_p (ps_rem rfl rfl rfl (by omega) (by omega)) ?_
| refine p_p (yA rfl rfl rfl rfl (by omega) (by omega)) ?_
| refine p_p (ps_load_arr rfl rfl rfl (by exact hCat) rfl) ?_
| refine p_p (zN rfl rfl rfl (by decide) i0 (by exact rfl)) ?_
| refine p_p (zN rfl rfl rfl (by omega) i1 (by exact rfl)) ?_
| refine p_p (zN rfl rfl rfl (by omega) i2 (by exact rfl)) ?_
| refine p_p (zD rfl) ?_
| refine p_p (zA rfl) ?_
| refine p_p (zF rfl rfl) ?_
| refine p_p (ps_add rfl rfl rfl aN) ?_
| refine p_p (ps_not rfl rfl) ?_
| refine p_p (zQ rfl rfl) ?_); refine ⟨_, aB, ?_⟩)
| refine o_nil ?_
| (refine o_s rfl ?_; refine ⟨_, aB, ?_⟩)
| refine zX rfl ?_
| refine zR ?_)
                    all_goals try (exfalso; omega)
                    exact zT (g + 1) (by omega) (by omega) aI ⟨rfl, trivial⟩ (zB rfl (zB rfl (zB rfl (zB rfl (zM _)))))
                  · have hwne : ¬ w = v - 1 := fun h => by rw [decide_eq_true h] at hnGg; cases hnGg
                    repeat' (first
| rw [e2]
| refine g_seq ?_
| refine zJ ?_
| refine zC ?_
| refine zP (by kernel_rfl) (by kernel_rfl) ?_
| (refine o_go rfl ?_; (first
| refine p_p (ps_rem rfl rfl rfl (by omega) (by omega)) ?_
| refine p_p (ps_index_box rfl rfl rfl rfl (by decide) (by decide)) ?_
| refine p_p (yA rfl rfl rfl rfl (by omega) (by omega)) ?_
| refine p_p (ps_load_arr rfl rfl rfl (by exact hCat) rfl) ?_
| refine p_p (ps_load_arr rfl rfl rfl (by exact hat) rfl) ?_
| refine p_p (ps_load_arr rfl rfl rfl (by exact hat2) rfl) ?_
| refine p_p (zN rfl rfl rfl (by decide) i0 (by exact rfl)) ?_
| refine p_p (zN rfl rfl rfl (by omega) i1 (by exact rfl)) ?_
| refine p_p (zN rfl rfl rfl (by omega) i2 (by exact rfl)) ?_
| refine p_p (zD rfl) ?_
| refine p_p (zA rfl) ?_
| refine p_p (zF rfl rfl) ?_
| refine p_p (ps_add rfl rfl rfl aN) ?_
| refine p_p (ps_not rfl rfl) ?_
| refine p_p (zQ rfl rfl) ?_
| refine p_p (ps_neq rfl rfl rfl) ?_
| refine p_p (ps_sub rfl rfl rfl aN) ?_
| refine p_p (zH rfl rfl rfl rfl) ?_); refine ⟨_, aB, ?_⟩)
| refine o_nil ?_
| (refine g_condN rfl (fun hc => ?_) (fun hc => ?_) <;> try (exfalso; omega))
| refine zR ?_)
                    all_goals try (exfalso; omega)
                    unfold KBlock
                    exact zT (g + 1) (by omega) (by omega) aI ⟨rfl, trivial⟩ (zB rfl (zB rfl (zB rfl (zB rfl (zM _)))))
                · obtain rfl : g1 = g := by omega
                  rw [hg1p] at hnGg
                  have hw2 : bm = true ∧ w = v - 1 := by
                    have := hnGg.symm
                    rw [Bool.and_eq_true, decide_eq_true_eq] at this
                    exact this
                  obtain ⟨rfl, hwe⟩ := hw2
                  repeat' (first
| rw [e2]
| refine g_seq ?_
| refine zC ?_
| refine zP (by kernel_rfl) (by kernel_rfl) ?_
| (refine o_go rfl ?_; (first
| refine p_p (ps_rem rfl rfl rfl (by omega) (by omega)) ?_
| refine p_p (ps_index_box rfl rfl rfl rfl (by decide) (by decide)) ?_
| refine p_p (yA rfl rfl rfl rfl (by omega) (by omega)) ?_
| refine p_p (ps_load_arr rfl rfl rfl (by exact hCat) rfl) ?_
| refine p_p (ps_load_arr rfl rfl rfl (by exact hat) rfl) ?_
| refine p_p (ps_load_arr rfl rfl rfl (by exact hat2) rfl) ?_
| refine p_p (zN rfl rfl rfl (by decide) i0 (by exact rfl)) ?_
| refine p_p (zN rfl rfl rfl (by omega) i1 (by exact rfl)) ?_
| refine p_p (zN rfl rfl rfl (by omega) i2 (by exact rfl)) ?_
| refine p_e (by kernel_rfl) (e_append rfl rfl rfl rfl rfl rfl (one_one rfl) rfl aP aP) ?_
| refine p_p (zD rfl) ?_
| refine p_p (zA rfl) ?_
| refine p_p (zF rfl rfl) ?_
| refine p_p (ps_add rfl rfl rfl aN) ?_
| refine p_p (ps_not rfl rfl) ?_
| refine p_p (zQ rfl rfl) ?_
| refine p_p (ps_neq rfl rfl rfl) ?_
| refine p_p (ps_sub rfl rfl rfl aN) ?_
| refine p_p (zH rfl rfl rfl rfl) ?_
| refine p_p (ps_lit1 rfl rfl (by rfl) (by rfl)) ?_); refine ⟨_, aB, ?_⟩)
| refine o_nil ?_
| (refine g_condN rfl (fun hc => ?_) (fun hc => ?_) <;> try (exfalso; omega))
| refine g_exit ?_)
                  all_goals try (exfalso; omega)
                  have hgt : (C ++ [g1]).getD (i + 1) 0 = g1 := by rw [List.getD_eq_getElem?_getD, List.getElem?_append_right (by omega), hCl, Nat.sub_self]; rfl
                  refine zT (i + 1, C ++ [g1]) ⟨by dsimp only; omega, by simp [hCl], fun c hc => ?_, ?_, ?_⟩ (by dsimp only; omega) aI ⟨rfl, rfl, trivial⟩ (zB rfl (zB rfl (zB rfl (zB (by rw [← hCC]) (zM _)))))
                  · rcases List.mem_append.1 hc with h' | h'
                    · exact hCm c h'
                    · rw [List.mem_singleton] at h'; rw [h']; exact hg1N
                  · dsimp only
                    rw [hgt, e3]; exact hg1v
                  · dsimp only
                    rw [hgt, List.take_left' hCl, hP]
                    rw [show (some g1).getD 0 = g1 from rfl]
                    conv => rhs; rw [← hCt]
                    rw [List.append_assoc]; rfl
              · have hat := frI_at (N := N) (to := tf) (may := my) (d := most) (i := 1) hla
                rw [e1] at hvp hv hg1v
                have hnG' : ∀ g, nxG N tf my most i la g = (my 1 la g && decide (fr N tf my most 0 g = fr N tf my most 1 la - 1)) := fun g => by rw [hnG, e1]
                repeat' (first
| rw [e2]
| refine g_seq ?_
| refine zJ ?_
| refine zC ?_
| refine zP (by kernel_rfl) (by kernel_rfl) ?_
| (refine o_go rfl ?_; (first
| refine p_p (ps_rem rfl rfl rfl (by omega) (by omega)) ?_
| refine p_p (ps_index_box rfl rfl rfl rfl (by decide) (by decide)) ?_
| refine p_p (yA rfl rfl rfl rfl (by omega) (by omega)) ?_
| refine p_p (ps_load_arr rfl rfl rfl (by exact hCat) rfl) ?_
| refine p_p (ps_load_arr rfl rfl rfl (by exact hat) rfl) ?_
| refine p_p (zD rfl) ?_
| refine p_p (zA rfl) ?_
| refine p_p (ps_gtr rfl rfl rfl) ?_
| refine p_p (zH rfl rfl rfl rfl) ?_); refine ⟨_, aB, ?_⟩)
| refine o_nil ?_
| (refine zK rfl (fun hc => ?_) (fun hc => ?_) <;> try (exfalso; omega))
| refine zR ?_)
                all_goals try (exfalso; omega)
                refine g_loopT (α := Nat) (fun g => [(24, I (g : Int))]) (fun _ => [arI (frI N tf my most 0), arI (frI N tf my most 1), boxH, arI (C.map Nn)]) (fun g => g ≤ g1) (fun g => g1 - g) 0 aH (Nat.zero_le _) ⟨rfl, trivial⟩ rfl ?_
                rintro g hg
                dsimp only [zZ, List.set_cons_zero, List.set_cons_succ]
                have hgN : g < N := by omega
                have hat2 := frI_at (N := N) (to := tf) (may := my) (d := most) (i := 0) hgN
                have hmr : M1.length = N ∧ (M1.getD la []).length = N := ⟨hM1.1, hM1.2 _ (by rw [List.getD_eq_getElem?_getD, List.getElem?_eq_getElem (show la < M1.length by omega)]; exact List.getElem_mem _)⟩
                have i0 : [boolss M0, boolss M1][(1 : Int).toNat]? = some (boolss M1) := rfl
                have i1 : (M1.map bools)[((la : Nat) : Int).toNat]? = some (bools (M1.getD la [])) := by rw [Int.toNat_natCast]; exact idx_bools (by omega)
                have i2 : ((M1.getD la []).map B)[((g : Nat) : Int).toNat]? = some (B (my 1 la g)) := by rw [Int.toNat_natCast, hmy]; exact idx_B (by omega)
                have hnGg := hnG' g
                generalize my 1 la g = bm at *
                generalize hwv : fr N tf my most 0 g = w at *
                generalize hvv : fr N tf my most 1 la = v at *
                by_cases hgg : g < g1
                · rw [hg1n g hgg] at hnGg
                  cases bm
                  · repeat' (first
| rw [e2]
| refine g_seq ?_
| refine zJ ?_
| refine zC ?_
| refine zP (by kernel_rfl) (by kernel_rfl) ?_
| (refine o_go rfl ?_; (first
| refine p_p (ps_rem rfl rfl rfl (by omega) (by omega)) ?_
| refine p_p (yA rfl rfl rfl rfl (by omega) (by omega)) ?_
| refine p_p (ps_load_arr rfl rfl rfl (by exact hCat) rfl) ?_
| refine p_p (zN rfl rfl rfl (by decide) i0 (by exact rfl)) ?_
| refine p_p (zN rfl rfl rfl (by omega) i1 (by exact rfl)) ?_
| refine p_p (zN rfl rfl rfl (by omega) i2 (by exact rfl)) ?_
| refine p_p (zD rfl) ?_
| refine p_p (zA rfl) ?_
| refine p_p (zF rfl rfl) ?_
| refine p_p (ps_add rfl rfl rfl aN) ?_
| refine p_p (ps_not rfl rfl) ?_
| refine p_p (zQ rfl rfl) ?_); refine ⟨_, aB, ?_⟩)
| refine o_nil ?_
| (refine o_s rfl ?_; refine ⟨_, aB, ?_⟩)
| refine zX rfl ?_
| refine zR ?_)
                    all_goals try (exfalso; omega)
                    exact zT (g + 1) (by omega) (by omega) aI ⟨rfl, trivial⟩ (zB rfl (zB rfl (zB rfl (zB rfl (zM _)))))
                  · have hwne : ¬ w = v - 1 := fun h => by rw [decide_eq_true h] at hnGg; cases hnGg
                    repeat' (first
| rw [e2]
| refine g_seq ?_
| refine zJ ?_
| refine zC ?_
| refine zP (by kernel_rfl) (by kernel_rfl) ?_
| (refine o_go rfl ?_; (first
| refine p_p (ps_rem rfl rfl rfl (by omega) (by omega)) ?_
| refine p_p (ps_index_box rfl rfl rfl rfl (by decide) (by decide)) ?_
| refine p_p (yA rfl rfl rfl rfl (by omega) (by omega)) ?_
| refine p_p (ps_load_arr rfl rfl rfl (by exact hCat) rfl) ?_
| refine p_p (ps_load_arr rfl rfl rfl (by exact hat) rfl) ?_
| refine p_p (ps_load_arr rfl rfl rfl (by exact hat2) rfl) ?_
| refine p_p (zN rfl rfl rfl (by decide) i0 (by exact rfl)) ?_
| refine p_p (zN rfl rfl rfl (by omega) i1 (by exact rfl)) ?_
| refine p_p (zN rfl rfl rfl (by omega) i2 (by exact rfl)) ?_
| refine p_p (zD rfl) ?_
| refine p_p (zA rfl) ?_
| refine p_p (zF rfl rfl) ?_
| refine p_p (ps_add rfl rfl rfl aN) ?_
| refine p_p (ps_not rfl rfl) ?_
| refine p_p (zQ rfl rfl) ?_
| refine p_p (ps_neq rfl rfl rfl) ?_
| refine p_p (ps_sub rfl rfl rfl aN) ?_
| refine p_p (zH rfl rfl rfl rfl) ?_); refine ⟨_, aB, ?_⟩)
| refine o_nil ?_
| (refine g_condN rfl (fun hc => ?_) (fun hc => ?_) <;> try (exfalso; omega))
| refine zR ?_)
                    all_goals try (exfalso; omega)
                    unfold KBlock
                    exact zT (g + 1) (by omega) (by omega) aI ⟨rfl, trivial⟩ (zB rfl (zB rfl (zB rfl (zB rfl (zM _)))))
                · obtain rfl : g1 = g := by omega
                  rw [hg1p] at hnGg
                  have hw2 : bm = true ∧ w = v - 1 := by
                    have := hnGg.symm
                    rw [Bool.and_eq_true, decide_eq_true_eq] at this
                    exact this
                  obtain ⟨rfl, hwe⟩ := hw2
                  repeat' (first
| rw [e2]
| refine g_seq ?_
| refine zC ?_
| refine zP (by kernel_rfl) (by kernel_rfl) ?_
| (refine o_go rfl ?_; (first
| refine p_p (ps_rem rfl rfl rfl (by omega) (by omega)) ?_
| refine p_p (ps_index_box rfl rfl rfl rfl (by decide) (by decide)) ?_
| refine p_p (yA rfl rfl rfl rfl (by omega) (by omega)) ?_
| refine p_p (ps_load_arr rfl rfl rfl (by exact hCat) rfl) ?_
| refine p_p (ps_load_arr rfl rfl rfl (by exact hat) rfl) ?_
| refine p_p (ps_load_arr rfl rfl rfl (by exact hat2) rfl) ?_
| refine p_p (zN rfl rfl rfl (by decide) i0 (by exact rfl)) ?_
| refine p_p (zN rfl rfl rfl (by omega) i1 (by exact rfl)) ?_
| refine p_p (zN rfl rfl rfl (by omega) i2 (by exact rfl)) ?_
| refine p_e (by kernel_rfl) (e_append rfl rfl rfl rfl rfl rfl (one_one rfl) rfl aP aP) ?_
| refine p_p (zD rfl) ?_
| refine p_p (zA rfl) ?_
| refine p_p (zF rfl rfl) ?_
| refine p_p (ps_add rfl rfl rfl aN) ?_
| refine p_p (ps_not rfl rfl) ?_
| refine p_p (zQ rfl rfl) ?_
| refine p_p (ps_neq rfl rfl rfl) ?_
| refine p_p (ps_sub rfl rfl rfl aN) ?_
| refine p_p (zH rfl rfl rfl rfl) ?_
| refine p_p (ps_lit1 rfl rfl (by rfl) (by rfl)) ?_); refine ⟨_, aB, ?_⟩)
| refine o_nil ?_
| (refine g_condN rfl (fun hc => ?_) (fun hc => ?_) <;> try (exfalso; omega))
| refine g_exit ?_)
                  all_goals try (exfalso; omega)
                  have hgt : (C ++ [g1]).getD (i + 1) 0 = g1 := by rw [List.getD_eq_getElem?_getD, List.getElem?_append_right (by omega), hCl, Nat.sub_self]; rfl
                  refine zT (i + 1, C ++ [g1]) ⟨by dsimp only; omega, by simp [hCl], fun c hc => ?_, ?_, ?_⟩ (by dsimp only; omega) aI ⟨rfl, rfl, trivial⟩ (zB rfl (zB rfl (zB rfl (zB (by rw [← hCC]) (zM _)))))
                  · rcases List.mem_append.1 hc with h' | h'
                    · exact hCm c h'
                    · rw [List.mem_singleton] at h'; rw [h']; exact hg1N
                  · dsimp only
                    rw [hgt, e3]; exact hg1v
                  · dsimp only
                    rw [hgt, List.take_left' hCl, hP]
                    rw [show (some g1).getD 0 = g1 from rfl]
                    conv => rhs; rw [← hCt]
                    rw [List.append_assoc]; rfl
end Go.Proofs.YtlgfniaakjchgaaGreat
