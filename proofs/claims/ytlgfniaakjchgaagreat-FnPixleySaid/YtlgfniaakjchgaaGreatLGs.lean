/- Walks: what the reference's shortest chains ask of functions. -/
import Derived.Test.YtlgfniaakjchgaaGreatLGk
import Derived.Test.YtlgfniaakjchgaaGreatLNc
namespace Go.Proofs.YtlgfniaakjchgaaGreat
open Go Go.Pv Go.Proofs
set_option maxHeartbeats 32000000
set_option maxRecDepth 100000
attribute [local bitvec_to_nat] St.put St.setObj St.ev killP killA killP1 killH mapHO renP renA ren1 killG killGA killG1 krowP krowA krow1 lendP lendA lend1 unv pinP pin1 elemsM viewM viewN viewV n_set_z n_set_s n_map_c n_map_n getD_z getD_s n_toNat n_cond_t n_cond_f n_len_c n_len_n n_app_c n_app_n n_take_s n_take_z n_drop_s n_drop_z n_get_z n_get_s view viewA view1 elems Nat.zero_add Nat.add_zero Bool.not_true Bool.not_false Nat.one_ne_zero Nat.mul_one
attribute [local bitvec_to_nat] posI optP lendM1 lendMA lendMP killM1 killMA killMP hasI getO backM1 backMA backMP putL inpM pinM1 pinMA pinMP

def allB (n : Nat) (fixed : Bool) (t : List Int) : Bool := !fixed || fixB n t
theorem sallowed_c (n : Nat) (T : List (List Int)) (fixed : Bool) (hn0 : 0 < n) (hn : n ≤ 8) (hT : T.length ≤ 1000) (ht : ∀ t ∈ T, t.length = n ^ 3) : PCalls Tryz.prog 86 [I (n : Int), intss T, B fixed] (bools (T.map (allB n fixed))) := by
  refine pcalls1 Tryz.func86 rfl Tryz.ntmps86 rfl ?_
  simp only [List.length_cons, List.length_nil, Nat.reduceAdd, Nat.reduceSub, List.replicate_succ, List.replicate_zero, List.cons_append, List.nil_append]
  repeat' (first
| refine g_seq ?_
| refine zJ ?_
| refine zC ?_
| (refine o_go rfl ?_; (first
| refine p_e rfl (e_lit0T rfl (by decide)) ?_
| refine p_p (zA rfl) ?_); refine ⟨_, aB, ?_⟩)
| refine o_nil ?_)
  refine g_loopF (α := Nat) [9] (fun f => [(7, .hp 0), (8, I (f : Int))]) (fun f => [.arr true 1 4 (((T.take f).map (allB n fixed)).map B)]) (fun f => f ≤ T.length) (fun f => T.length - f) 0 aH (Nat.zero_le _) ⟨rfl, rfl, trivial⟩ rfl ?_
  rintro f hf
  dsimp only [zZ, List.set_cons_zero, List.set_cons_succ]
  have hll : (((T.take f).map (allB n fixed)).map B).length = f := by simp; omega
  by_cases hf1 : f < T.length
  · have hix : (T.map ints)[((f : Nat) : Int).toNat]? = some (ints (T.getD f [])) := by rw [Int.toNat_natCast]; exact idx_ints hf1
    have h1 := sfixed_c n (T.getD f []) hn0 hn (ht _ (getD_mem0 hf1))
    have hts : ((T.take (f + 1)).map (allB n fixed)).map B = ((T.take f).map (allB n fixed)).map B ++ [B (allB n fixed (T.getD f []))] := by rw [take_snoc [] hf1, List.map_append, List.map_append]; rfl
    have hab : allB n fixed (T.getD f []) = (!fixed || fixB n (T.getD f [])) := rfl
    cases fixed
    · repeat' (first
| refine g_seq ?_
| refine zJ ?_
| refine zC ?_
| (refine o_go rfl ?_; (first
| refine p_e (by kernel_rfl) (e_append rfl rfl rfl rfl rfl rfl (one_one rfl) rfl aP aP) ?_
| refine p_p (zD rfl) ?_
| refine p_p (zA rfl) ?_
| refine p_p (zU rfl rfl rfl) ?_
| refine p_p (zS rfl rfl rfl) ?_
| refine p_p (ps_add rfl rfl rfl aN) ?_
| refine p_p (ps_not rfl rfl) ?_
| refine p_p (zQ rfl rfl) ?_
| refine p_p (ps_lit1 rfl rfl (by rfl) (by rfl)) ?_); refine ⟨_, aB, ?_⟩)
| refine o_nil ?_
| (refine o_s rfl ?_; refine ⟨_, aB, ?_⟩)
| (refine zK rfl (fun hc => ?_) (fun hc => ?_) <;> try (exfalso; omega))
| refine zR ?_)
      all_goals try (exfalso; omega)
      exact zT (f + 1) (by omega) (by omega) aI ⟨rfl, rfl, trivial⟩ (zB (by rw [hts, hab]; rfl) (zM _))
    · repeat' (first
| refine g_seq ?_
| refine zJ ?_
| refine zC ?_
| (refine o_go rfl ?_; (first
| refine p_p (zN rfl rfl rfl (by omega) hix (by exact rfl)) ?_
| refine p_p (zG rfl rfl aC (h1)) ?_
| refine p_e (by kernel_rfl) (e_append rfl rfl rfl rfl rfl rfl (one_one rfl) rfl aP aP) ?_
| refine p_p (zD rfl) ?_
| refine p_p (zA rfl) ?_
| refine p_p (zF rfl rfl) ?_
| refine p_p (zU rfl rfl rfl) ?_
| refine p_p (zS rfl rfl rfl) ?_
| refine p_p (ps_add rfl rfl rfl aN) ?_
| refine p_p (ps_not rfl rfl) ?_
| refine p_p (zQ rfl rfl) ?_
| refine p_p (ps_lit1 rfl rfl (by rfl) (by rfl)) ?_); refine ⟨_, aB, ?_⟩)
| refine o_nil ?_
| (refine zK rfl (fun hc => ?_) (fun hc => ?_) <;> try (exfalso; omega))
| refine zR ?_)
      all_goals try (exfalso; omega)
      exact zT (f + 1) (by omega) (by omega) aI ⟨rfl, rfl, trivial⟩ (zB (by rw [hts, hab]; rfl) (zM _))
  · repeat' (first
| refine g_seq ?_
| refine zC ?_
| (refine o_go rfl ?_; (first
| refine p_p (zD rfl) ?_
| refine p_p (zA rfl) ?_
| refine p_p (zU rfl rfl rfl) ?_
| refine p_p (zS rfl rfl rfl) ?_); refine ⟨_, aB, ?_⟩)
| refine o_nil ?_
| (refine zK rfl (fun hc => ?_) (fun hc => ?_) <;> try (exfalso; omega))
| refine kr1 ?_
| refine krS rfl ?_
| refine g_exit ?_
| refine g_ret ?_)
    all_goals try (exfalso; omega)
    rw [show T.take f = T from List.take_of_length_le (by omega)]
def onlyL (N p : Nat) : List Bool := (List.range N).map fun f => decide (f = p)
theorem onlyL_eq {N p : Nat} (hp : p < N) : (List.replicate N (PV.val (Value.bool false))).set p (B true) = (onlyL N p).map B := by
  refine List.ext_getElem? fun x => ?_
  unfold onlyL
  rcases Nat.lt_or_ge x N with hx | hx
  · rw [List.map_map, List.getElem?_map, List.getElem?_range hx]
    by_cases e : x = p
    · subst e; rw [List.getElem?_set_self (by simpa using hx)]; simp
    · rw [List.getElem?_set_ne (fun h => e h.symm), List.getElem?_replicate, if_pos hx]; simp [e]
  · rw [List.getElem?_eq_none (by simpa using hx), List.getElem?_eq_none (by simpa using hx)]
theorem sonly_c (N p : Nat) (hN : N ≤ 1000) (hp : p < N) : PCalls Tryz.prog 90 [I (N : Int), I (p : Int)] (bools (onlyL N p)) := by
  refine pcalls1 Tryz.func90 rfl Tryz.ntmps90 rfl ?_
  simp only [List.length_cons, List.length_nil, Nat.reduceAdd, Nat.reduceSub, List.replicate_succ, List.replicate_zero, List.cons_append, List.nil_append]
  have hrl : (List.replicate N (PV.val (Value.bool false))).length = N := List.length_replicate
  repeat' (first
| refine g_seq ?_
| refine zC ?_
| (refine o_go rfl ?_; (first
| refine p_p (yA rfl rfl rfl rfl (by omega) (by omega)) ?_
| refine p_e (by kernel_rfl) (e_store_arr rfl rfl rfl rfl (by omega) rfl rfl) ?_
| refine p_p (zD rfl) ?_
| refine p_p (zA rfl) ?_
| refine p_e rfl (e_make1 rfl rfl rfl (by omega) (by omega) (by omega) rfl rfl) ?_); refine ⟨_, aB, ?_⟩)
| refine o_nil ?_
| refine kr1 ?_
| refine krS rfl ?_
| refine g_ret ?_)
  all_goals try (exfalso; omega)
  rw [Nat.mul_one, onlyL_eq hp]
def mayB (n w1 w2 : Nat) (al : List Bool) (T : List (List Int)) (f g : Nat) : Bool := al.getD f false && al.getD g false && decide (valL n (T.getD f []) (wayL w1) (n * n) = valL n (T.getD g []) (wayL w2) (n * n))
def mayL (n w1 w2 : Nat) (al : List Bool) (T : List (List Int)) (N : Nat) : List (List Bool) := (List.range N).map fun f => (List.range N).map (mayB n w1 w2 al T f)
theorem smay_c (n w1 w2 : Nat) (T : List (List Int)) (al : List Bool) (hn : n ≤ 8) (h1w : w1 < 3) (h2w : w2 < 3) (hT : T.length ≤ 1000) (hal : al.length = T.length) (ht : ∀ t ∈ T, t.length = n ^ 3) :
    PCalls Tryz.prog 87 [I (n : Int), intss T, I (w1 : Int), I (w2 : Int), bools al] (boolss (mayL n w1 w2 al T T.length)) := by
  refine pcalls1 Tryz.func87 rfl Tryz.ntmps87 rfl ?_
  simp only [List.length_cons, List.length_nil, Nat.reduceAdd, Nat.reduceSub, List.replicate_succ, List.replicate_zero, List.cons_append, List.nil_append]
  have hnn : n * n ≤ 64 := Nat.mul_le_mul hn hn
  obtain ⟨p1, hp1⟩ : ∃ p1 : List Int → List Int, p1 = fun t => valL n t (wayL w1) (n * n) := ⟨_, rfl⟩
  obtain ⟨p2, hp2⟩ : ∃ p2 : List Int → List Int, p2 = fun t => valL n t (wayL w2) (n * n) := ⟨_, rfl⟩
  repeat' (first
| refine g_seq ?_
| refine zJ ?_
| refine zC ?_
| (refine o_go rfl ?_; (first
| refine p_e rfl (e_lit0T rfl (by decide)) ?_
| refine p_p (zA rfl) ?_); refine ⟨_, aB, ?_⟩)
| refine o_nil ?_)
  refine g_loopF (α := Nat) [18, 19] (fun f => [(11, .hp 0), (12, .hp 1), (13, I (f : Int))]) (fun f => [.arr true 1 31 (((T.take f).map p1).map ints), .arr true 1 31 (((T.take f).map p2).map ints)]) (fun f => f ≤ T.length) (fun f => T.length - f) 0 aH (Nat.zero_le _) ⟨rfl, rfl, rfl, trivial⟩ rfl ?_
  rintro f hf
  dsimp only [zZ, List.set_cons_zero, List.set_cons_succ]
  have hl1 : (((T.take f).map p1).map ints).length = f := by simp; omega
  have hl2 : (((T.take f).map p2).map ints).length = f := by simp; omega
  by_cases hf1 : f < T.length
  · have hix : (T.map ints)[((f : Nat) : Int).toNat]? = some (ints (T.getD f [])) := by rw [Int.toNat_natCast]; exact idx_ints hf1
    have q1 := spart_c n w1 (T.getD f []) hn h1w (ht _ (getD_mem0 hf1))
    have q2 := spart_c n w2 (T.getD f []) hn h2w (ht _ (getD_mem0 hf1))
    have hs1 : ((T.take (f + 1)).map p1).map ints = ((T.take f).map p1).map ints ++ [ints (p1 (T.getD f []))] := by rw [take_snoc [] hf1, List.map_append, List.map_append]; rfl
    have hs2 : ((T.take (f + 1)).map p2).map ints = ((T.take f).map p2).map ints ++ [ints (p2 (T.getD f []))] := by rw [take_snoc [] hf1, List.map_append, List.map_append]; rfl
    rw [show valL n (T.getD f []) (wayL w1) (n * n) = p1 (T.getD f []) by rw [hp1]] at q1
    rw [show valL n (T.getD f []) (wayL w2) (n * n) = p2 (T.getD f []) by rw [hp2]] at q2
    repeat' (first
| refine g_seq ?_
| refine zJ ?_
| refine zC ?_
| (refine o_go rfl ?_; (first
| refine p_p (zN rfl rfl rfl (by omega) hix (by exact rfl)) ?_
| refine p_p (zG rfl rfl aC (q1)) ?_
| refine p_p (zG rfl rfl aC (q2)) ?_
| refine p_e (by kernel_rfl) (e_append rfl rfl rfl rfl rfl rfl (one_one rfl) rfl aP aP) ?_
| refine p_p (zD rfl) ?_
| refine p_p (zA rfl) ?_
| refine p_p (zF rfl rfl) ?_
| refine p_p (zU rfl rfl rfl) ?_
| refine p_p (zS rfl rfl rfl) ?_
| refine p_p (ps_add rfl rfl rfl aN) ?_
| refine p_p (ps_lit1 rfl rfl (by rfl) (by rfl)) ?_); refine ⟨_, aB, ?_⟩)
| refine o_nil ?_
| (refine zK rfl (fun hc => ?_) (fun hc => ?_) <;> try (exfalso; omega))
| refine zR ?_)
    all_goals try (exfalso; omega)
    exact zT (f + 1) (by omega) (by omega) aI ⟨rfl, rfl, rfl, trivial⟩ (zB (by rw [hs1]) (zB (by rw [hs2]) (zM _)))
  · rw [show T.take f = T from List.take_of_length_le (by omega)]
    refine g_freezeP 0 rfl ⟨_, by dsimp only [bitvec_to_nat, Nat.reduceAdd, Nat.reduceMul, Nat.reduceBEq, reduceCtorEq, posI, optP, lendM1, lendMA, lendMP, killM1, killMA, killMP, hasI, getO, backM1, backMA, backMP, putL, inpM, pinM1, pinMA, pinMP], ?_⟩
    refine g_freezeP 1 rfl ⟨_, by dsimp only [bitvec_to_nat, Nat.reduceAdd, Nat.reduceMul, Nat.reduceBEq, reduceCtorEq, posI, optP, lendM1, lendMA, lendMP, killM1, killMA, killMP, hasI, getO, backM1, backMA, backMP, putL, inpM, pinM1, pinMA, pinMP], ?_⟩
    have hm1 : ((T.map p1).map ints).length = T.length := by simp
    have hm2 : ((T.map p2).map ints).length = T.length := by simp
    repeat' (first
| refine g_seq ?_
| refine zJ ?_
| refine zC ?_
| (refine o_go rfl ?_; (first
| refine p_e rfl (e_lit0T rfl (by decide)) ?_
| refine p_p (zD rfl) ?_
| refine p_p (zA rfl) ?_
| refine p_p (zU rfl rfl rfl) ?_
| refine p_p (zS rfl rfl rfl) ?_); refine ⟨_, aB, ?_⟩)
| refine o_nil ?_
| (refine zK rfl (fun hc => ?_) (fun hc => ?_) <;> try (exfalso; omega))
| refine g_exit ?_)
    all_goals try (exfalso; omega)
    refine g_loopF (α := Nat) [46] (fun f => [(14, .hp 2), (15, I (f : Int))]) (fun f => [.arr false 1 31 ((T.map p1).map ints), .arr false 1 31 ((T.map p2).map ints), .arr true 1 52 (((List.range f).map fun f => (List.range T.length).map (mayB n w1 w2 al T f)).map bools)]) (fun f => f ≤ T.length) (fun f => T.length - f) 0 aH (Nat.zero_le _) ⟨rfl, rfl, trivial⟩ rfl ?_
    clear hl1 hl2
    rintro f hf
    dsimp only [zZ, List.set_cons_zero, List.set_cons_succ]
    have hll : (((List.range f).map fun f => (List.range T.length).map (mayB n w1 w2 al T f)).map bools).length = f := by simp
    by_cases hf2 : f < T.length
    · repeat' (first
| refine g_seq ?_
| refine zJ ?_
| refine zC ?_
| (refine o_go rfl ?_; (first
| refine p_e rfl (e_lit0T rfl (by decide)) ?_
| refine p_p (zD rfl) ?_
| refine p_p (zA rfl) ?_
| refine p_p (zU rfl rfl rfl) ?_
| refine p_p (zS rfl rfl rfl) ?_); refine ⟨_, aB, ?_⟩)
| refine o_nil ?_
| (refine zK rfl (fun hc => ?_) (fun hc => ?_) <;> try (exfalso; omega))
| refine zR ?_)
      all_goals try (exfalso; omega)
      refine g_loopF (α := Nat) [53] (fun g => [(16, .hp 3), (17, I (g : Int))]) (fun g => [.arr false 1 31 ((T.map p1).map ints), .arr false 1 31 ((T.map p2).map ints), .arr true 1 52 (((List.range f).map fun f => (List.range T.length).map (mayB n w1 w2 al T f)).map bools), .arr true 1 4 (((List.range g).map (mayB n w1 w2 al T f)).map B)]) (fun g => g ≤ T.length) (fun g => T.length - g) 0 aH (Nat.zero_le _) ⟨rfl, rfl, trivial⟩ rfl ?_
      rintro g hg
      dsimp only [zZ, List.set_cons_zero, List.set_cons_succ]
      have hlg : (((List.range g).map (mayB n w1 w2 al T f)).map B).length = g := by simp
      by_cases hg1 : g < T.length
      · have a1 : (al.map B)[((f : Nat) : Int).toNat]? = some (B (al.getD f false)) := by rw [Int.toNat_natCast]; exact idx_B (by omega)
        have a2 : (al.map B)[((g : Nat) : Int).toNat]? = some (B (al.getD g false)) := by rw [Int.toNat_natCast]; exact idx_B (by omega)
        have i1 : ((T.map p1).map ints)[((f : Nat) : Int).toNat]? = some (ints (p1 (T.getD f []))) := by
          rw [Int.toNat_natCast, List.getElem?_map, List.getElem?_map, List.getElem?_eq_getElem hf2, List.getD_eq_getElem?_getD, List.getElem?_eq_getElem hf2]; rfl
        have i2 : ((T.map p2).map ints)[((g : Nat) : Int).toNat]? = some (ints (p2 (T.getD g []))) := by
          rw [Int.toNat_natCast, List.getElem?_map, List.getElem?_map, List.getElem?_eq_getElem hg1, List.getD_eq_getElem?_getD, List.getElem?_eq_getElem hg1]; rfl
        have hs := gsame_c (p1 (T.getD f [])) (p2 (T.getD g [])) (by rw [hp1, valL_len]; omega)
        have hmb : mayB n w1 w2 al T f g = (al.getD f false && al.getD g false && decide (p1 (T.getD f []) = p2 (T.getD g []))) := by rw [hp1, hp2]; rfl
        have hnx : ((List.range (g + 1)).map (mayB n w1 w2 al T f)).map B = ((List.range g).map (mayB n w1 w2 al T f)).map B ++ [B (mayB n w1 w2 al T f g)] := by rw [range_snoc, List.map_append]; rfl
        generalize al.getD f false = b1 at *
        generalize al.getD g false = b2 at *
        generalize hb3 : decide (p1 (T.getD f []) = p2 (T.getD g [])) = b3 at *
        cases b1
        · repeat' (first
| refine g_seq ?_
| refine zJ ?_
| refine zC ?_
| refine zP (by kernel_rfl) (by kernel_rfl) ?_
| (refine o_go rfl ?_; (first
| refine p_p (zN rfl rfl rfl (by omega) a1 (by exact rfl)) ?_
| refine p_e (by kernel_rfl) (e_append rfl rfl rfl rfl rfl rfl (one_one rfl) rfl aP aP) ?_
| refine p_p (zD rfl) ?_
| refine p_p (zA rfl) ?_
| refine p_p (zF rfl rfl) ?_
| refine p_p (zU rfl rfl rfl) ?_
| refine p_p (zS rfl rfl rfl) ?_
| refine p_p (ps_add rfl rfl rfl aN) ?_
| refine p_p (zQ rfl rfl) ?_
| refine p_p (ps_lit1 rfl rfl (by rfl) (by rfl)) ?_); refine ⟨_, aB, ?_⟩)
| refine o_nil ?_
| (refine o_s rfl ?_; refine ⟨_, aB, ?_⟩)
| (refine zK rfl (fun hc => ?_) (fun hc => ?_) <;> try (exfalso; omega))
| refine zR ?_)
          all_goals try (exfalso; omega)
          exact zT (g + 1) (by omega) (by omega) aI ⟨rfl, rfl, trivial⟩ (zB rfl (zB rfl (zB rfl (zB (by rw [hnx, hmb]; rfl) (zM _)))))
        · cases b2
          · repeat' (first
| refine g_seq ?_
| refine zJ ?_
| refine zC ?_
| refine zP (by kernel_rfl) (by kernel_rfl) ?_
| (refine o_go rfl ?_; (first
| refine p_p (zN rfl rfl rfl (by omega) a1 (by exact rfl)) ?_
| refine p_p (zN rfl rfl rfl (by omega) a2 (by exact rfl)) ?_
| refine p_e (by kernel_rfl) (e_append rfl rfl rfl rfl rfl rfl (one_one rfl) rfl aP aP) ?_
| refine p_p (zD rfl) ?_
| refine p_p (zA rfl) ?_
| refine p_p (zF rfl rfl) ?_
| refine p_p (zU rfl rfl rfl) ?_
| refine p_p (zS rfl rfl rfl) ?_
| refine p_p (ps_add rfl rfl rfl aN) ?_
| refine p_p (zQ rfl rfl) ?_
| refine p_p (ps_lit1 rfl rfl (by rfl) (by rfl)) ?_); refine ⟨_, aB, ?_⟩)
| refine o_nil ?_
| (refine o_s rfl ?_; refine ⟨_, aB, ?_⟩)
| (refine zK rfl (fun hc => ?_) (fun hc => ?_) <;> try (exfalso; omega))
| refine zR ?_)
            all_goals try (exfalso; omega)
            exact zT (g + 1) (by omega) (by omega) aI ⟨rfl, rfl, trivial⟩ (zB rfl (zB rfl (zB rfl (zB (by rw [hnx, hmb]; rfl) (zM _)))))
          · repeat' (first
| refine g_seq ?_
| refine zJ ?_
| refine zC ?_
| refine zP (by kernel_rfl) (by kernel_rfl) ?_
| (refine o_go rfl ?_; (first
| refine p_p (zN rfl rfl rfl (by omega) a1 (by exact rfl)) ?_
| refine p_p (zN rfl rfl rfl (by omega) a2 (by exact rfl)) ?_
| refine p_p (zN rfl rfl rfl (by omega) i1 (by exact rfl)) ?_
| refine p_p (zN rfl rfl rfl (by omega) i2 (by exact rfl)) ?_
| refine p_p (zG rfl rfl aC (hs)) ?_
| refine p_e (by kernel_rfl) (e_append rfl rfl rfl rfl rfl rfl (one_one rfl) rfl aP aP) ?_
| refine p_p (zD rfl) ?_
| refine p_p (zA rfl) ?_
| refine p_p (zF rfl rfl) ?_
| refine p_p (zU rfl rfl rfl) ?_
| refine p_p (zS rfl rfl rfl) ?_
| refine p_p (ps_add rfl rfl rfl aN) ?_
| refine p_p (zQ rfl rfl) ?_
| refine p_p (ps_lit1 rfl rfl (by rfl) (by rfl)) ?_); refine ⟨_, aB, ?_⟩)
| refine o_nil ?_
| (refine zK rfl (fun hc => ?_) (fun hc => ?_) <;> try (exfalso; omega))
| refine zR ?_)
            all_goals try (exfalso; omega)
            exact zT (g + 1) (by omega) (by omega) aI ⟨rfl, rfl, trivial⟩ (zB rfl (zB rfl (zB rfl (zB (by rw [hnx, hmb]; rfl) (zM _)))))
      · obtain rfl : g = T.length := by omega
        refine g_freezeP 3 rfl ⟨_, by dsimp only [bitvec_to_nat, Nat.reduceAdd, Nat.reduceMul, Nat.reduceBEq, reduceCtorEq, posI, optP, lendM1, lendMA, lendMP, killM1, killMA, killMP, hasI, getO, backM1, backMA, backMP, putL, inpM, pinM1, pinMA, pinMP], ?_⟩
        repeat' (first
| refine g_seq ?_
| refine zC ?_
| (refine o_go rfl ?_; (first
| refine p_e (by kernel_rfl) (e_append rfl rfl rfl rfl rfl rfl (one_one rfl) rfl aP aP) ?_
| refine p_p (zD rfl) ?_
| refine p_p (zA rfl) ?_
| refine p_p (zU rfl rfl rfl) ?_
| refine p_p (zS rfl rfl rfl) ?_
| refine p_p (ps_add rfl rfl rfl aN) ?_
| refine p_p (ps_lit1 rfl rfl (by rfl) (by rfl)) ?_); refine ⟨_, aB, ?_⟩)
| refine o_nil ?_
| (refine zK rfl (fun hc => ?_) (fun hc => ?_) <;> try (exfalso; omega))
| refine g_exit ?_)
        all_goals try (exfalso; omega)
        exact zT (f + 1) (by omega) (by omega) aI ⟨rfl, rfl, trivial⟩ (zB rfl (zB rfl (zB (by rw [range_snoc, List.map_append]; rfl) (zM _))))
    · obtain rfl : f = T.length := by omega
      repeat' (first
| refine g_seq ?_
| refine zC ?_
| (refine o_go rfl ?_; (first
| refine p_p (zD rfl) ?_
| refine p_p (zA rfl) ?_
| refine p_p (zU rfl rfl rfl) ?_
| refine p_p (zS rfl rfl rfl) ?_); refine ⟨_, aB, ?_⟩)
| refine o_nil ?_
| (refine zK rfl (fun hc => ?_) (fun hc => ?_) <;> try (exfalso; omega))
| refine kr1 ?_
| refine krS rfl ?_
| refine g_exit ?_
| refine g_ret ?_)
      all_goals try (exfalso; omega)
      rfl
end Go.Proofs.YtlgfniaakjchgaaGreat
