/- The law of congruences that are solved together. -/
import Derived.Test.YtkdagmbgjddopaaJYq
import Derived.Test.YtkdagmbgjddopaaJYl
import Derived.Test.YtkdagmbgjddopaaJYa
namespace Go.Pv
open Go
attribute [local semireducible] Go.Pv.PStep
theorem ps_neqIY {P : Program} {o : Oper} {ev : Operand → PV} {hp : List HO} {t rt : TypeId} {x y : Operand} {a : Int} {k : IntKind} (ho : o.op = .binOp .neq t x y rt) (h1 : ev x = .val (.int k a)) (h2 : ev y = .val (.int k a)) : PStep P o ev hp (B false) := by
  have := ps_neq (P := P) (hp := hp) ho h1 h2
  rwa [decide_eq_true rfl] at this
end Go.Pv
namespace Go.Proofs.Ytkdagmbgjddopaa
open Go Go.Pv Go.Proofs
set_option maxHeartbeats 32000000
set_option maxRecDepth 100000
attribute [local bitvec_to_nat] St.put St.setObj St.ev killP killA killP1 killH mapHO renP renA ren1 killG killGA killG1 krowP krowA krow1 lendP lendA lend1 unv pinP pin1 elemsM viewM viewN viewV n_set_z n_set_s n_map_c n_map_n getD_z getD_s n_toNat n_cond_t n_cond_f n_len_c n_len_n n_app_c n_app_n n_take_s n_take_z n_drop_s n_drop_z n_get_z n_get_s view viewA view1 elems Nat.zero_add Nat.add_zero Bool.not_true Bool.not_false Nat.one_ne_zero Nat.mul_one

theorem vbigY_c (l : List Int) (_hl : l.length ≤ 9223372036854775807) : PCalls Try.prog 20 [bytesP l] (B (decide (65536 < (l.length : Int)))) := by
  refine pcalls1 Try.func20 rfl Try.ntmps20 rfl ?_
  simp only [List.length_cons, List.length_nil, Nat.reduceAdd, Nat.reduceSub, List.replicate_succ, List.replicate_zero, List.cons_append, List.nil_append]
  repeat' (first
| refine g_seq ?_
| refine zC ?_
| (refine o_go rfl ?_; (first
| refine p_p (zD rfl) ?_
| refine p_p (zA rfl) ?_
| refine p_p (zU rfl rfl rfl) ?_
| refine p_p (ps_gtr rfl rfl rfl) ?_); refine ⟨_, aA, ?_⟩)
| refine o_nil ?_
| refine kr1 ?_
| refine krB rfl ?_
| refine g_ret ?_)
  all_goals first | rfl | (exfalso; omega)
theorem law_tg (l : List Int) (hl : l.length ≤ maxLen) (hby : ∀ i, i < l.length → 0 ≤ l.getD i 0 ∧ l.getD i 0 ≤ 255) : PCalls Try.prog 4 [bytesP l] (B true) := by
  refine pcalls1 Try.func4 rfl Try.ntmps4 rfl ?_
  simp only [List.length_cons, List.length_nil, Nat.reduceAdd, Nat.reduceSub, List.replicate_succ, List.replicate_zero, List.cons_append, List.nil_append]
  have hv := vbigY_c l (Nat.le_trans hl (by decide))
  by_cases hbig : 65536 < (l.length : Int)
  · rw [decide_eq_true hbig] at hv
    repeat' (first
| refine g_seq ?_
| refine zC ?_
| (refine o_go rfl ?_; (first
| refine p_p (zG rfl rfl aC (hv)) ?_
| refine p_p (zD rfl) ?_
| refine p_p (zA rfl) ?_); refine ⟨_, aA, ?_⟩)
| refine o_nil ?_
| refine zX rfl ?_
| refine kr1 ?_
| refine krB rfl ?_
| refine g_ret ?_)
    all_goals rfl
  rw [decide_eq_false hbig] at hv
  have hB : bytesOk l := ⟨by omega, hby⟩
  obtain ⟨n, ops, L, E, hs, n0, n9, hL, hsm, hE, d1⟩ := drawST_c hB
  have hr : ∀ p ∈ L, p.length ≤ 1048576 := fun p hp => Nat.le_trans (hsm p hp) (by decide)
  have a1 := ist_c n ops L E hs (by omega) hr (by omega)
  have a2 := sst_c n ops L E hs (by omega) hr (by omega)
  have f1' : 2 ≤ L.length → (stV n ops L E).2 = true → allX n ops L E L.length = true := fun _ h => allX_iff.2 fun a ha b hb => st_pairs h ha (by omega)
  have f2' : 2 ≤ L.length → L.length ≤ 8 → E.length = L.length → (stV n ops L E).2 = false → allX n ops L E L.length = true → permB n ops = true → disjB n ops = true → False := fun l2 l8 le h hA h1 h2 => by
    have := st_all l2 l8 le (allX_iff.1 hA) h1 h2
    rw [h] at this; cases this
  generalize (stV n ops L E).2 = ok at *
  generalize (stV n ops L E).1 = x at *
  repeat' ((fail_if_success (refine at_reg 8 ?_)); (first
| refine g_settle 0 rfl (by dsimp only [setlP, setl1, setlH, bitvec_to_nat, Nat.reduceAdd, Nat.reduceMul, Nat.reduceBEq, reduceCtorEq]) ?_
| refine g_seq ?_
| refine zC ?_
| (refine o_go rfl ?_; (first
| refine p_p (zG rfl rfl aC (hv)) ?_
| refine p_p (zG rfl rfl aC (d1)) ?_
| refine p_p (zG rfl rfl aC (a1)) ?_
| refine p_p (zG rfl rfl aC (a2)) ?_
| refine p_p (ps_neqIY rfl rfl rfl) ?_
| refine p_p (ps_neqBY rfl rfl rfl (by exact bne_self_eq_false _)) ?_
| refine p_p (zD rfl) ?_
| refine p_p (zA rfl) ?_
| refine p_p (ps_load_agg rfl rfl aK) ?_
| refine p_p (ps_extract rfl rfl rfl) ?_
| refine p_p (zQ rfl rfl) ?_
| refine p_e rfl (zO rfl rfl rfl rfl aK rfl rfl rfl) ?_
| refine p_e rfl (e_alloc rfl) ?_); refine ⟨_, aA, ?_⟩)
| refine o_nil ?_
| refine zW rfl ?_
| refine zR ?_))
  all_goals try (exfalso; omega)
  refine g_weaken (S' := ⟨zZ (List.replicate 123 .any) [(3, .ptr [I n, opsP ops]), (4, intss L), (5, ints E), (7, B ok)], []⟩) ⟨?_, zM _⟩ ?_
  · simp only [List.replicate_succ, List.replicate_zero]
    dsimp only [zZ, List.set_cons_zero, List.set_cons_succ]
    exact aJ
  simp only [List.replicate_succ, List.replicate_zero]
  dsimp only [zZ, List.set_cons_zero, List.set_cons_succ]
  by_cases hlen : 2 ≤ L.length ∧ L.length ≤ 8 ∧ E.length = L.length
  · obtain ⟨l2, l8, le⟩ := hlen
    have f1 := f1' l2
    have f2 := f2' l2 l8 le
    have a3 := iarith_c n ops hs
    have a4 := fun i k => ist_c n ops [L.getD i [], L.getD k []] [E.getD i 0, E.getD k 0] hs (by simp)
    repeat' (first
| refine g_seq ?_
| refine zJ ?_
| refine zC ?_
| (refine o_go rfl ?_; (first
| refine p_p (zD rfl) ?_
| refine p_p (zA rfl) ?_
| refine p_p (zU rfl rfl rfl) ?_
| refine p_p (zS rfl rfl rfl) ?_
| refine p_p (zQ rfl rfl) ?_
| refine p_p (ps_gtr rfl rfl rfl) ?_
| refine p_p (ps_neq rfl rfl rfl) ?_); refine ⟨_, aA, ?_⟩)
| refine o_nil ?_
| (refine o_splitD rfl rfl rfl (fun hc => ?_) (fun hc => ?_) <;> first | (exfalso; omega) | dsimp only [List.set_cons_zero, List.set_cons_succ])
| (refine g_condN rfl (fun hc => ?_) (fun hc => ?_) <;> try (exfalso; omega))
| refine zR ?_)
    all_goals try (exfalso; first | omega | (simp at hc; omega))
    refine g_loopT (α := Nat) (fun i => [(10, B (allX n ops L E i)), (11, I (i : Int))]) (fun _ => []) (fun i => i ≤ L.length) (fun i => L.length - i) 0 aH (Nat.zero_le _) ⟨rfl, rfl, trivial⟩ rfl ?_
    rintro i hi
    dsimp only [zZ, List.set_cons_zero, List.set_cons_succ]
    by_cases hil : i < L.length
    · have ri := rows_at hil
      have ei := row_at (show i < E.length by omega)
      repeat' (first
| refine g_seq ?_
| refine zJ ?_
| refine zC ?_
| (refine o_go rfl ?_; (first
| refine p_p (zD rfl) ?_
| refine p_p (zA rfl) ?_
| refine p_p (zU rfl rfl rfl) ?_
| refine p_p (zS rfl rfl rfl) ?_); refine ⟨_, aA, ?_⟩)
| refine o_nil ?_
| (refine zK rfl (fun hc => ?_) (fun hc => ?_) <;> try (exfalso; omega))
| refine zR ?_)
      all_goals try (exfalso; omega)
      refine g_loopT (α := Nat) (fun k => [(10, B (rowX n ops L E i k)), (12, I (k : Int))]) (fun _ => []) (fun k => k ≤ i) (fun k => i - k) 0 aH (Nat.zero_le _) ⟨by rw [rowX_zero]; rfl, rfl, trivial⟩ rfl ?_
      rintro k hk
      dsimp only [zZ, List.set_cons_zero, List.set_cons_succ]
      by_cases hki : k < i
      · have rk := rows_at (show k < L.length by omega)
        have ek := row_at (show k < E.length by omega)
        have h5 := a4 i k (fun p hp => by
          simp only [List.mem_cons, List.not_mem_nil, or_false] at hp
          rcases hp with rfl | rfl
          · exact hr _ (rows_mem hil)
          · exact hr _ (rows_mem (by omega))) (by simp)
        have hsn := rowX_succ n ops L E i k
        have hpx : pairX n ops L E i k = (stV n ops [L.getD i [], L.getD k []] [E.getD i 0, E.getD k 0]).2 := rfl
        rw [hpx] at hsn
        generalize (stV n ops [L.getD i [], L.getD k []] [E.getD i 0, E.getD k 0]).2 = b at *
        generalize (stV n ops [L.getD i [], L.getD k []] [E.getD i 0, E.getD k 0]).1 = y at *
        generalize rowX n ops L E i k = r at *
        cases r with
        | true =>
          rw [Bool.true_and] at hsn
          repeat' (first
| refine g_seq ?_
| refine zJ ?_
| refine zC ?_
| refine zP (by kernel_rfl) (by kernel_rfl) ?_
| (refine o_go rfl ?_; (first
| refine p_p (zN rfl rfl rfl (by omega) ri (by exact rfl)) ?_
| refine p_p (zN rfl rfl rfl (by omega) rk (by exact rfl)) ?_
| refine p_p (zN rfl rfl rfl (by omega) ei (by exact rfl)) ?_
| refine p_p (zN rfl rfl rfl (by omega) ek (by exact rfl)) ?_
| refine p_p (zG rfl rfl aC (h5)) ?_
| refine p_p (zD rfl) ?_
| refine p_p (zA rfl) ?_
| refine p_p (zF rfl rfl) ?_
| refine p_p (ps_load_agg rfl rfl aK) ?_
| refine p_p (zS rfl rfl rfl) ?_
| refine p_p (ps_add rfl rfl rfl aO) ?_
| refine p_p (ps_extract rfl rfl rfl) ?_
| refine p_p (zQ rfl rfl) ?_
| refine p_p (ps_lit2 rfl rfl rfl (by rfl) (by rfl) (by rfl)) ?_); refine ⟨_, aA, ?_⟩)
| refine o_nil ?_
| (refine zK rfl (fun hc => ?_) (fun hc => ?_) <;> try (exfalso; omega))
| refine zR ?_)
          all_goals try (exfalso; omega)
          exact zT (k + 1) (by omega) (by omega) aJ ⟨by rw [hsn]; rfl, rfl, trivial⟩ (zM _)
        | false =>
          rw [Bool.false_and] at hsn
          repeat' (first
| refine g_seq ?_
| refine zJ ?_
| refine zC ?_
| refine zP (by kernel_rfl) (by kernel_rfl) ?_
| (refine o_go rfl ?_; (first
| refine p_p (zN rfl rfl rfl (by omega) ri (by exact rfl)) ?_
| refine p_p (zN rfl rfl rfl (by omega) rk (by exact rfl)) ?_
| refine p_p (zN rfl rfl rfl (by omega) ei (by exact rfl)) ?_
| refine p_p (zN rfl rfl rfl (by omega) ek (by exact rfl)) ?_
| refine p_p (zG rfl rfl aC (h5)) ?_
| refine p_p (zD rfl) ?_
| refine p_p (zA rfl) ?_
| refine p_p (zF rfl rfl) ?_
| refine p_p (ps_load_agg rfl rfl aK) ?_
| refine p_p (zS rfl rfl rfl) ?_
| refine p_p (ps_add rfl rfl rfl aO) ?_
| refine p_p (ps_extract rfl rfl rfl) ?_
| refine p_p (zQ rfl rfl) ?_
| refine p_p (ps_lit2 rfl rfl rfl (by rfl) (by rfl) (by rfl)) ?_); refine ⟨_, aA, ?_⟩)
| refine o_nil ?_
| (refine o_s rfl ?_; refine ⟨_, aA, ?_⟩)
| (refine zK rfl (fun hc => ?_) (fun hc => ?_) <;> try (exfalso; omega))
| refine zR ?_)
          all_goals try (exfalso; omega)
          exact zT (k + 1) (by omega) (by omega) aJ ⟨by rw [hsn]; rfl, rfl, trivial⟩ (zM _)
      · have hsn := allX_succ n ops L E i
        rw [show k = i by omega]
        repeat' (first
| refine g_seq ?_
| refine zC ?_
| (refine o_go rfl ?_; (first
| refine p_p (zD rfl) ?_
| refine p_p (zA rfl) ?_
| refine p_p (zS rfl rfl rfl) ?_
| refine p_p (ps_add rfl rfl rfl aO) ?_); refine ⟨_, aA, ?_⟩)
| refine o_nil ?_
| (refine zK rfl (fun hc => ?_) (fun hc => ?_) <;> try (exfalso; omega))
| refine g_exit ?_)
        all_goals try (exfalso; omega)
        exact zT (K := fun _ _ => True) (i + 1) (by omega) (by omega) aJ ⟨by rw [hsn]; rfl, rfl, trivial⟩ (zM _)
    · rw [show i = L.length by omega]
      generalize allX n ops L E L.length = A at *
      have hpd : permB n ops = true → disjB n ops = true → (permB n ops && disjB n ops) = true := fun h g => by rw [h, g]; rfl
      cases ok with
      | true =>
        rw [f1 rfl]
        repeat' (first
| refine g_seq ?_
| refine zC ?_
| (refine o_go rfl ?_; (first
| refine p_p (zG rfl rfl aC (a3)) ?_
| refine p_p (zD rfl) ?_
| refine p_p (zA rfl) ?_
| refine p_p (ps_load_agg rfl rfl aK) ?_
| refine p_p (zU rfl rfl rfl) ?_
| refine p_p (zS rfl rfl rfl) ?_
| refine p_p (ps_extract rfl rfl rfl) ?_
| refine p_p (ps_not rfl rfl) ?_
| refine p_p (zQ rfl rfl) ?_); refine ⟨_, aA, ?_⟩)
| refine o_nil ?_
| (refine o_s rfl ?_; refine ⟨_, aA, ?_⟩)
| refine zW rfl ?_
| (refine zK rfl (fun hc => ?_) (fun hc => ?_) <;> try (exfalso; omega))
| refine kr1 ?_
| refine krB rfl ?_
| refine zR ?_
| refine g_exit ?_
| refine g_ret ?_)
        all_goals first | rfl | (exfalso; omega)
      | false =>
        cases A with
        | false =>
          generalize (permB n ops && disjB n ops) = bd at *
          generalize fcB n ops = fc at *
          cases fc <;> cases bd
          all_goals skip
          · repeat' (first
| refine g_seq ?_
| refine zC ?_
| (refine o_go rfl ?_; (first
| refine p_p (zG rfl rfl aC (a3)) ?_
| refine p_p (zD rfl) ?_
| refine p_p (zA rfl) ?_
| refine p_p (ps_load_agg rfl rfl aK) ?_
| refine p_p (zU rfl rfl rfl) ?_
| refine p_p (zS rfl rfl rfl) ?_
| refine p_p (ps_extract rfl rfl rfl) ?_
| refine p_p (ps_not rfl rfl) ?_
| refine p_p (zQ rfl rfl) ?_); refine ⟨_, aA, ?_⟩)
| refine o_nil ?_
| (refine o_s rfl ?_; refine ⟨_, aA, ?_⟩)
| refine zW rfl ?_
| (refine zK rfl (fun hc => ?_) (fun hc => ?_) <;> try (exfalso; omega))
| refine kr1 ?_
| refine krB rfl ?_
| refine zR ?_
| refine g_exit ?_
| refine g_ret ?_)
            all_goals first | rfl | (exfalso; omega)
          · repeat' (first
| refine g_seq ?_
| refine zC ?_
| (refine o_go rfl ?_; (first
| refine p_p (zG rfl rfl aC (a3)) ?_
| refine p_p (zD rfl) ?_
| refine p_p (zA rfl) ?_
| refine p_p (ps_load_agg rfl rfl aK) ?_
| refine p_p (zU rfl rfl rfl) ?_
| refine p_p (zS rfl rfl rfl) ?_
| refine p_p (ps_extract rfl rfl rfl) ?_
| refine p_p (ps_not rfl rfl) ?_
| refine p_p (zQ rfl rfl) ?_); refine ⟨_, aA, ?_⟩)
| refine o_nil ?_
| (refine o_s rfl ?_; refine ⟨_, aA, ?_⟩)
| refine zW rfl ?_
| (refine zK rfl (fun hc => ?_) (fun hc => ?_) <;> try (exfalso; omega))
| refine kr1 ?_
| refine krB rfl ?_
| refine zR ?_
| refine g_exit ?_
| refine g_ret ?_)
            all_goals first | rfl | (exfalso; omega)
          · repeat' (first
| refine g_seq ?_
| refine zC ?_
| (refine o_go rfl ?_; (first
| refine p_p (zG rfl rfl aC (a3)) ?_
| refine p_p (zD rfl) ?_
| refine p_p (zA rfl) ?_
| refine p_p (ps_load_agg rfl rfl aK) ?_
| refine p_p (zU rfl rfl rfl) ?_
| refine p_p (zS rfl rfl rfl) ?_
| refine p_p (ps_extract rfl rfl rfl) ?_
| refine p_p (ps_not rfl rfl) ?_
| refine p_p (zQ rfl rfl) ?_); refine ⟨_, aA, ?_⟩)
| refine o_nil ?_
| (refine o_s rfl ?_; refine ⟨_, aA, ?_⟩)
| refine zW rfl ?_
| (refine zK rfl (fun hc => ?_) (fun hc => ?_) <;> try (exfalso; omega))
| refine kr1 ?_
| refine krB rfl ?_
| refine zR ?_
| refine g_exit ?_
| refine g_ret ?_)
            all_goals first | rfl | (exfalso; omega)
          · repeat' (first
| refine g_seq ?_
| refine zC ?_
| (refine o_go rfl ?_; (first
| refine p_p (zG rfl rfl aC (a3)) ?_
| refine p_p (zD rfl) ?_
| refine p_p (zA rfl) ?_
| refine p_p (ps_load_agg rfl rfl aK) ?_
| refine p_p (zU rfl rfl rfl) ?_
| refine p_p (zS rfl rfl rfl) ?_
| refine p_p (ps_extract rfl rfl rfl) ?_
| refine p_p (ps_not rfl rfl) ?_
| refine p_p (zQ rfl rfl) ?_); refine ⟨_, aA, ?_⟩)
| refine o_nil ?_
| (refine o_s rfl ?_; refine ⟨_, aA, ?_⟩)
| refine zW rfl ?_
| (refine zK rfl (fun hc => ?_) (fun hc => ?_) <;> try (exfalso; omega))
| refine kr1 ?_
| refine krB rfl ?_
| refine zR ?_
| refine g_exit ?_
| refine g_ret ?_)
            all_goals first | rfl | (exfalso; omega)
        | true =>
          have hnb : (permB n ops && disjB n ops) = false := by
            cases hb : (permB n ops && disjB n ops) with
            | false => rfl
            | true => rw [Bool.and_eq_true] at hb; exact (f2 rfl rfl hb.1 hb.2).elim
          rw [hnb] at a3
          generalize fcB n ops = fc at *
          cases fc
          · repeat' (first
| refine g_seq ?_
| refine zC ?_
| (refine o_go rfl ?_; (first
| refine p_p (zG rfl rfl aC (a3)) ?_
| refine p_p (zD rfl) ?_
| refine p_p (zA rfl) ?_
| refine p_p (ps_load_agg rfl rfl aK) ?_
| refine p_p (zU rfl rfl rfl) ?_
| refine p_p (zS rfl rfl rfl) ?_
| refine p_p (ps_extract rfl rfl rfl) ?_
| refine p_p (ps_not rfl rfl) ?_
| refine p_p (zQ rfl rfl) ?_); refine ⟨_, aA, ?_⟩)
| refine o_nil ?_
| (refine o_s rfl ?_; refine ⟨_, aA, ?_⟩)
| refine zW rfl ?_
| (refine zK rfl (fun hc => ?_) (fun hc => ?_) <;> try (exfalso; omega))
| refine kr1 ?_
| refine krB rfl ?_
| refine zR ?_
| refine g_exit ?_
| refine g_ret ?_)
            all_goals first | rfl | (exfalso; omega)
          · repeat' (first
| refine g_seq ?_
| refine zC ?_
| (refine o_go rfl ?_; (first
| refine p_p (zG rfl rfl aC (a3)) ?_
| refine p_p (zD rfl) ?_
| refine p_p (zA rfl) ?_
| refine p_p (ps_load_agg rfl rfl aK) ?_
| refine p_p (zU rfl rfl rfl) ?_
| refine p_p (zS rfl rfl rfl) ?_
| refine p_p (ps_extract rfl rfl rfl) ?_
| refine p_p (ps_not rfl rfl) ?_
| refine p_p (zQ rfl rfl) ?_); refine ⟨_, aA, ?_⟩)
| refine o_nil ?_
| (refine o_s rfl ?_; refine ⟨_, aA, ?_⟩)
| refine zW rfl ?_
| (refine zK rfl (fun hc => ?_) (fun hc => ?_) <;> try (exfalso; omega))
| refine kr1 ?_
| refine krB rfl ?_
| refine zR ?_
| refine g_exit ?_
| refine g_ret ?_)
            all_goals first | rfl | (exfalso; omega)
  · by_cases g2 : (L.length : Int) < 2
    · repeat' ((fail_if_success (refine at_reg 11 ?_)); (first
| refine g_seq ?_
| refine zC ?_
| (refine o_go rfl ?_; (first
| refine p_p (zD rfl) ?_
| refine p_p (zA rfl) ?_
| refine p_p (zU rfl rfl rfl) ?_
| refine p_p (zS rfl rfl rfl) ?_
| refine p_p (zQ rfl rfl) ?_); refine ⟨_, aA, ?_⟩)
| refine o_nil ?_
| (refine o_s rfl ?_; refine ⟨_, aA, ?_⟩)
| (refine o_splitD rfl rfl rfl (fun hc => ?_) (fun hc => ?_) <;> first | (exfalso; omega) | dsimp only [List.set_cons_zero, List.set_cons_succ])
| refine zX rfl ?_
| refine kr1 ?_
| refine krB rfl ?_
| refine g_ret ?_))
      all_goals first | rfl | (exfalso; omega)
    · by_cases g8 : 8 < (L.length : Int)
      · repeat' ((fail_if_success (refine at_reg 11 ?_)); (first
| refine g_seq ?_
| refine zC ?_
| (refine o_go rfl ?_; (first
| refine p_p (zD rfl) ?_
| refine p_p (zA rfl) ?_
| refine p_p (zU rfl rfl rfl) ?_
| refine p_p (zS rfl rfl rfl) ?_
| refine p_p (zQ rfl rfl) ?_
| refine p_p (ps_gtr rfl rfl rfl) ?_); refine ⟨_, aA, ?_⟩)
| refine o_nil ?_
| (refine o_s rfl ?_; refine ⟨_, aA, ?_⟩)
| (refine o_splitD rfl rfl rfl (fun hc => ?_) (fun hc => ?_) <;> first | (exfalso; omega) | dsimp only [List.set_cons_zero, List.set_cons_succ])
| refine zX rfl ?_
| refine kr1 ?_
| refine krB rfl ?_
| refine g_ret ?_))
        all_goals first | rfl | (exfalso; omega)
      · have gl : ¬ (E.length : Int) = (L.length : Int) := by omega
        repeat' ((fail_if_success (refine at_reg 11 ?_)); (first
| refine g_seq ?_
| refine zC ?_
| (refine o_go rfl ?_; (first
| refine p_p (zD rfl) ?_
| refine p_p (zA rfl) ?_
| refine p_p (zU rfl rfl rfl) ?_
| refine p_p (zS rfl rfl rfl) ?_
| refine p_p (zQ rfl rfl) ?_
| refine p_p (ps_gtr rfl rfl rfl) ?_
| refine p_p (ps_neq rfl rfl rfl) ?_); refine ⟨_, aA, ?_⟩)
| refine o_nil ?_
| (refine o_splitD rfl rfl rfl (fun hc => ?_) (fun hc => ?_) <;> first | (exfalso; omega) | dsimp only [List.set_cons_zero, List.set_cons_succ])
| (refine g_condN rfl (fun hc => ?_) (fun hc => ?_) <;> try (exfalso; omega))
| refine kr1 ?_
| refine krB rfl ?_
| refine g_ret ?_))
        all_goals first | rfl | (exfalso; first | omega | (rw [decide_eq_true_eq] at hc; omega))
end Go.Proofs.Ytkdagmbgjddopaa
