/- Walks: closures of partitions, the program's side. -/
import Derived.Test.YtbohjibbgppfaaaGreatJKl
namespace Go.Proofs.YtbohjibbgppfaaaGreat
open Go Go.Pv Go.Proofs
set_option maxHeartbeats 32000000
set_option maxRecDepth 100000
attribute [local bitvec_to_nat] St.put St.setObj St.ev killP killA killP1 killH mapHO renP renA ren1 killG killGA killG1 krowP krowA krow1 lendP lendA lend1 unv pinP pin1 elemsM viewM viewN viewV n_set_z n_set_s n_map_c n_map_n getD_z getD_s n_toNat n_cond_t n_cond_f n_len_c n_len_n n_app_c n_app_n n_take_s n_take_z n_drop_s n_drop_z n_get_z n_get_s view viewA view1 elems Nat.zero_add Nat.add_zero Bool.not_true Bool.not_false Nat.one_ne_zero Nat.mul_one

theorem vB {a b : Bool} (h : a = b) : some (B a) = some (B b) := by rw [h]
structure CI (n : Nat) (ops : List OpD) (p q : List Int) : Prop where
  pt : Pt n q
  fi : Fi n p q
  least : ∀ r, Pt n r → Cong n ops r → Fi n p r → Fi n q r
theorem CI.start {n : Nat} {ops : List OpD} {p : List Int} (h : Pt n p) : CI n ops p p := ⟨h, fi_refl h, fun _ _ _ h => h⟩
theorem CI.step {n : Nat} {ops : List OpD} {p q : List Int} (h : CI n ops p q) (hp : Pt n p) (ho : opsIn n ops) (hn : 0 < n) {f : OpD} (hf : f ∈ ops) {i k : Nat} (hi : i < n ^ f.ar.toNat) (hk : k < f.ar.toNat) :
    CI n ops p (unL q (bk f.tb i) (bk f.tb (subN n i k (bk q (digN n i k))))) := by
  obtain ⟨-, -, -, hv⟩ := ho f hf
  have h1 := (hv i hi).2
  have h2 := (hv _ (sub_lt hi hk (h.pt.lt (dig_lt hn i k)))).2
  exact ⟨unL_pt h.pt h1 h2, fi_trans hp h.fi (fi_unL h.pt h1 h2), fun r hr hc hpr => un_least h.pt h1 h2 (h.least r hr hc hpr) (cong_fi h.pt hc (h.least r hr hc hpr) hf hi hk hn)⟩
theorem CI.close {n : Nat} {ops : List OpD} {p q : List Int} (h : CI n ops p q) (hp : Pt n p) (ho : opsIn n ops) (hn : 0 < n) (hc : Cong n ops q) : q = closeL n ops p :=
  Lst.unique { pt := h.pt, cong := hc, fi := h.fi, least := h.least } (close_lst hn ho hp)
def Dn (n : Nat) (q : List Int) (f : OpD) (k i : Nat) : Prop := bk q (bk f.tb i) = bk q (bk f.tb (subN n i k (bk q (digN n i k))))
def RS (n : Nat) (q0 q : List Int) (ch : Bool) : Prop := (ch = false → q = q0) ∧ (ch = true → cnt n q < cnt n q0)
theorem RS.start (n : Nat) (q : List Int) : RS n q q false := ⟨fun _ => rfl, fun h => by cases h⟩
theorem RS.up {n : Nat} {q0 q q' : List Int} {ch : Bool} (h : RS n q0 q ch) (hc : cnt n q' < cnt n q) : RS n q0 q' true := by
  refine ⟨fun h => (by cases h), fun _ => ?_⟩
  cases ch with
  | false => rw [h.1 rfl] at hc; exact hc
  | true => have := h.2 rfl; omega
theorem iclosep_L (n : Nat) (ops : List OpD) (p : List Int) (hn0 : 0 < n) (hn : n ≤ 8) (hl : ops.length ≤ 1048576) (ho : opsIn n ops) (hp : Pt n p) :
    LCalls Tryz.prog 156 (.arr true 1 3 (p.map I)) [algP n ops, .hp 0] (.arr true 1 3 ((closeL n ops p).map I)) (B (decide (closeL n ops p ≠ p))) := by
  refine pcallsL1 Tryz.func156 rfl Tryz.ntmps156 rfl rfl rfl (by simp) fun b d => ?_
  simp only [List.length_cons, List.length_nil, Nat.reduceAdd, Nat.reduceSub, List.replicate_succ, List.replicate_zero]
  repeat' (first
| refine wO ?_
| (refine o_go rfl ?_; (first
| refine wS ?_
| refine p_p (ps_box rfl rfl) ?_); refine ⟨_, aA, ?_⟩))
  refine g_loopT (α := List Int × Bool × Bool) (fun x => [(5, B x.2.1), (6, B x.2.2)]) (fun x => [.arr true 1 3 (x.1.map I)]) (fun x => CI n ops p x.1 ∧ (x.2.1 = false → x.1 = p) ∧ (x.2.1 = true → cnt n x.1 < cnt n p) ∧ (x.2.2 = false → Cong n ops x.1)) (fun x => cnt n x.1 + if x.2.2 then 1 else 0) (p, false, true) aF ⟨.start hp, fun _ => rfl, fun h => (by cases h), fun h => (by cases h)⟩ ⟨rfl, rfl, trivial⟩ rfl ?_
  rintro ⟨q0, was, ch0⟩ ⟨hI0, hw1, hw2, hc0⟩
  dsimp only at hI0 hw1 hw2 hc0
  dsimp only [zZ, List.set_cons_zero, List.set_cons_succ]
  cases ch0 with
  | false =>
    repeat' (first
| refine wO ?_
| (refine o_go rfl ?_; (first
| refine wS ?_); refine ⟨_, aA, ?_⟩)
| refine wE ?_)
    all_goals try (exfalso; omega)
    have hcl := hI0.close hp ho hn0 (hc0 rfl)
    refine krl 1 rfl ?_ rfl (krB rfl ?_)
    · rw [hcl]
    · rw [← hcl]
      cases was with
      | false => rw [hw1 rfl]; simp
      | true =>
        have hne : q0 ≠ p := fun h => by have := hw2 rfl; rw [h] at this; omega
        simp [hne]
  | true =>
    clear hc0
    repeat' (first
| refine wO ?_
| (refine o_go rfl ?_; (first
| refine wS ?_); refine ⟨_, aA, ?_⟩)
| refine wE ?_)
    all_goals try (exfalso; omega)
    refine g_loopT (α := Nat × List Int × Bool) (fun x => [(18, I (x.1 : Int)), (5, B (was || x.2.2)), (6, B x.2.2)]) (fun x => [.arr true 1 3 (x.2.1.map I)]) (fun x => x.1 ≤ ops.length ∧ CI n ops p x.2.1 ∧ RS n q0 x.2.1 x.2.2 ∧ (x.2.2 = false → ∀ f ∈ ops.take x.1, ∀ k, k < f.ar.toNat → ∀ i, i < n ^ f.ar.toNat → Dn n q0 f k i)) (fun x => ops.length - x.1) (0, q0, false) aF ⟨Nat.zero_le _, hI0, .start n q0, fun _ f hf => (by simp at hf)⟩ ⟨rfl, vB (by simp), rfl, trivial⟩ rfl ?_
    rintro ⟨o, q1, ch1⟩ ⟨hol, hI1, hR1, hD1⟩
    dsimp only at hol hI1 hR1 hD1
    dsimp only [zZ, List.set_cons_zero, List.set_cons_succ]
    by_cases hoi : o < ops.length
    · have hq := opsK_at hoi
      have hfm := opsK_mem hoi
      have htk : ops.take (o + 1) = ops.take o ++ [ops.getD o default] := take_snoc default hoi
      obtain ⟨ha0, ha3, htl, -⟩ := ho _ hfm
      generalize hf : ops.getD o default = f at *
      obtain ⟨a, ha⟩ : ∃ a : Nat, f.ar = a := ⟨f.ar.toNat, by omega⟩
      have haa : f.ar.toNat = a := by omega
      have hpw := pow_le3 (show n ≤ 1000 by omega) (show a ≤ 3 by omega)
      rw [haa] at htl
      repeat' (first
| refine wO ?_
| (refine o_go rfl ?_; (first
| refine p_p (zN rfl rfl rfl (by omega) hq (by exact rfl)) ?_
| refine wS ?_
| refine p_p (ps_load_agg rfl rfl aK) ?_
| refine p_e rfl (zO rfl rfl rfl rfl aK rfl rfl rfl) ?_
| refine p_e rfl (e_alloc rfl) ?_); refine ⟨_, aA, ?_⟩)
| (refine zK rfl (fun hc => ?_) (fun hc => ?_) <;> try (exfalso; omega))
| refine wE ?_)
      all_goals try (exfalso; omega)
      refine g_loopT (α := Nat × List Int × Bool) (fun x => [(9, I ((n ^ x.1 : Nat) : Int)), (10, I (x.1 : Int)), (5, B (was || x.2.2)), (6, B x.2.2)]) (fun x => [.arr true 1 3 (x.2.1.map I), .box [I f.ar, ints f.tb]]) (fun x => x.1 ≤ a ∧ CI n ops p x.2.1 ∧ RS n q0 x.2.1 x.2.2 ∧ (x.2.2 = false → ∀ k, k < x.1 → ∀ i, i < n ^ a → Dn n q0 f k i) ∧ (x.2.2 = false → ch1 = false)) (fun x => a - x.1) (0, q1, ch1) aF ⟨Nat.zero_le _, hI1, hR1, fun _ k hk => absurd hk (Nat.not_lt_zero _), fun h => h⟩ ⟨rfl, rfl, rfl, rfl, trivial⟩ rfl ?_
      rintro ⟨k, q2, ch2⟩ ⟨hk, hI2, hR2, hD2, hm2⟩
      dsimp only at hk hI2 hR2 hD2 hm2
      dsimp only [zZ, List.set_cons_zero, List.set_cons_succ]
      have hpk := pow_le3 (show n ≤ 1000 by omega) (show k ≤ 3 by omega)
      have hpk0 : 0 < n ^ k := Nat.pow_pos hn0
      by_cases hka : k < a
      · have hpk1 := pow_le3 (show n ≤ 1000 by omega) (show k + 1 ≤ 3 by omega)
        have hps : ((n ^ k : Nat) : Int) * (n : Int) = ((n ^ (k + 1) : Nat) : Int) := by rw [Nat.pow_succ]; push_cast; rfl
        repeat' (first
| refine wO ?_
| (refine o_go rfl ?_; (first
| refine wS ?_); refine ⟨_, aA, ?_⟩)
| (refine zK rfl (fun hc => ?_) (fun hc => ?_) <;> try (exfalso; omega))
| refine wE ?_)
        all_goals try (exfalso; omega)
        refine g_loopT (α := Nat × List Int × Bool) (fun x => [(31, I (x.1 : Int)), (5, B (was || x.2.2)), (6, B x.2.2)]) (fun x => [.arr true 1 3 (x.2.1.map I), .box [I f.ar, ints f.tb]]) (fun x => x.1 ≤ n ^ a ∧ CI n ops p x.2.1 ∧ RS n q0 x.2.1 x.2.2 ∧ (x.2.2 = false → ∀ i, i < x.1 → Dn n q0 f k i) ∧ (x.2.2 = false → ch2 = false)) (fun x => n ^ a - x.1) (0, q2, ch2) aF ⟨Nat.zero_le _, hI2, hR2, fun _ k hk => absurd hk (Nat.not_lt_zero _), fun h => h⟩ ⟨rfl, rfl, rfl, trivial⟩ rfl ?_
        rintro ⟨i, q, ch⟩ ⟨hi, hI, hR, hD, hm⟩
        dsimp only at hi hI hR hD hm
        dsimp only [zZ, List.set_cons_zero, List.set_cons_succ]
        by_cases hil : i < n ^ a
        · have hql := hI.pt.len
          have hqml : (q.map I).length = n := by rw [List.length_map]; exact hql
          have hdl := dig_lt hn0 i k
          have hbl := hI.pt.lt hdl
          have hix1 : (f.tb.map I)[((i : Nat) : Int).toNat]? = some (I (bk f.tb i : Int)) := by rw [← tb_val ho hfm (by rw [haa]; exact hil)]; exact idx_I (by omega)
          have hix2 : (q.map I)[digN n i k * 1]? = some (I (bk q (digN n i k) : Int)) := by rw [Nat.mul_one, ← hI.pt.val hdl]; exact idx_I (by omega)
          have hsl := sub_lt hil hka hbl
          have hix3 : (f.tb.map I)[((subN n i k (bk q (digN n i k)) : Nat) : Int).toNat]? = some (I (bk f.tb (subN n i k (bk q (digN n i k))) : Int)) := by rw [← tb_val ho hfm (by rw [haa]; exact hsl)]; exact idx_I (by omega)
          have hq1 : (i : Int) / ((n ^ k : Nat) : Int) = ((i / n ^ k : Nat) : Int) := by omega
          have hq2 : ((i / n ^ k : Nat) : Int) % (n : Int) = (digN n i k : Int) := by unfold digN; omega
          have hdv := Nat.div_le_self i (n ^ k)
          have hsi := sub_int (n := n) i k (bk q (digN n i k))
          have hmul : ((bk q (digN n i k) : Int) - (digN n i k : Int)) * ((n ^ k : Nat) : Int) = (subN n i k (bk q (digN n i k)) : Int) - (i : Int) := by omega
          have hadd : (i : Int) + ((subN n i k (bk q (digN n i k)) : Int) - (i : Int)) = (subN n i k (bk q (digN n i k)) : Int) := by omega
          have hst := hI.step hp ho hn0 hfm (i := i) (k := k) (by rw [haa]; exact hil) (by rw [haa]; exact hka)
          obtain ⟨-, -, -, hv⟩ := ho f hfm
          rw [haa] at hv
          have hv1 := (hv i hil).2
          have hv2 := (hv _ hsl).2
          clear hv
          have hdn : Dn n q f k i ↔ bk q (bk f.tb i) = bk q (bk f.tb (subN n i k (bk q (digN n i k)))) := Iff.rfl
          have hcnt := fun hne => cnt_unL hI.pt hv1 hv2 hne
          have hun := iun_L q (bk f.tb i) (bk f.tb (subN n i k (bk q (digN n i k)))) (by omega) (by omega) (by omega)
          have hself := unL_self (p := q) (x := bk f.tb i) (y := bk f.tb (subN n i k (bk q (digN n i k))))
          have e1 := hI.pt.val hv1
          have e2 := hI.pt.val hv2
          have hsub9 : (subN n i k (bk q (digN n i k)) : Int) ≤ 1000000000 := by omega
          generalize subN n i k (bk q (digN n i k)) = sb at *
          generalize bk f.tb sb = w at *
          generalize bk f.tb i = v at *
          by_cases he : q.getD v 0 = q.getD w 0
          · rw [decide_eq_false (fun h => h he), hself he] at hun
            repeat' (first
| refine wO ?_
| refine zP (by kernel_rfl) (by kernel_rfl) ?_
| (refine o_go rfl ?_; (first
| refine p_p (ps_quoV rfl rfl rfl hq1 (by omega) (by omega) (by omega)) ?_
| refine p_p (ps_remV rfl rfl rfl hq2 (Int.natCast_nonneg _) (by omega)) ?_
| refine p_p (ps_mulV rfl rfl rfl hmul (by omega)) ?_
| refine p_p (ps_addV rfl rfl rfl hadd (by omega)) ?_
| refine p_p (zN rfl rfl rfl (by omega) hix1 (by exact rfl)) ?_
| refine p_p (zN rfl rfl rfl (by omega) hix3 (by exact rfl)) ?_
| refine p_p (ps_unv (yA rfl rfl rfl rfl (by omega) (by rw [n_toNat]; omega))) ?_
| refine p_p (ps_load_arr rfl rfl rfl hix2 (by rfl)) ?_
| refine p_e rfl (e_callL (n := 0) rfl rfl rfl aL rfl (by rfl) aS (hun)) ?_
| refine wS ?_); refine ⟨_, aA, ?_⟩)
| (refine zK rfl (fun hc => ?_) (fun hc => ?_) <;> try (exfalso; omega))
| refine wE ?_)
            all_goals try (exfalso; omega)
            refine zT (i + 1, q, ch) ⟨by dsimp only; omega, hI, hR, fun hch i' hi' => ?_, hm⟩ (by dsimp only; omega) aI ⟨rfl, rfl, rfl, trivial⟩ (hpLe_refl _)
            rcases Nat.lt_or_ge i' i with h | h
            · exact hD hch i' h
            · have : i' = i := by dsimp only at hi'; omega
              rw [this, ← hR.1 hch]
              exact hdn.2 (by omega)
          · rw [decide_eq_true he] at hun
            have hlt := hcnt (by omega)
            repeat' (first
| refine wO ?_
| refine zP (by kernel_rfl) (by kernel_rfl) ?_
| (refine o_go rfl ?_; (first
| refine p_p (ps_quoV rfl rfl rfl hq1 (by omega) (by omega) (by omega)) ?_
| refine p_p (ps_remV rfl rfl rfl hq2 (Int.natCast_nonneg _) (by omega)) ?_
| refine p_p (ps_mulV rfl rfl rfl hmul (by omega)) ?_
| refine p_p (ps_addV rfl rfl rfl hadd (by omega)) ?_
| refine p_p (zN rfl rfl rfl (by omega) hix1 (by exact rfl)) ?_
| refine p_p (zN rfl rfl rfl (by omega) hix3 (by exact rfl)) ?_
| refine p_p (ps_unv (yA rfl rfl rfl rfl (by omega) (by rw [n_toNat]; omega))) ?_
| refine p_p (ps_load_arr rfl rfl rfl hix2 (by rfl)) ?_
| refine p_e rfl (e_callL (n := 0) rfl rfl rfl aL rfl (by rfl) (by first | exact ⟨rfl, rfl, rfl, by simp only [List.length_map, unL_len]⟩ | exact ⟨rfl, rfl, by simp only [List.length_map, unL_len]⟩) hun) ?_
| refine wS ?_); refine ⟨_, aA, ?_⟩)
| (refine zK rfl (fun hc => ?_) (fun hc => ?_) <;> try (exfalso; omega))
| refine wE ?_)
            all_goals try (exfalso; omega)
            exact zT (i + 1, unL q v w, true) ⟨by dsimp only; omega, hst, hR.up hlt, fun h => (by cases h), fun h => (by cases h)⟩ (by dsimp only; omega) aI ⟨rfl, vB (by simp), rfl, trivial⟩ (hpLe_refl _)
        · repeat' (first
| refine wO ?_
| (refine o_go rfl ?_; (first
| refine p_p (ps_mulV rfl rfl rfl hps (by omega)) ?_
| refine wS ?_); refine ⟨_, aA, ?_⟩)
| (refine zK rfl (fun hc => ?_) (fun hc => ?_) <;> try (exfalso; omega))
| refine wE ?_)
          all_goals try (exfalso; omega)
          refine zT (k + 1, q, ch) ⟨by dsimp only; omega, hI, hR, fun hch k' hk' i' hi' => ?_, fun h => hm2 (hm h)⟩ (by dsimp only; omega) aI ⟨rfl, rfl, rfl, rfl, trivial⟩ (hpLe_refl _)
          rcases Nat.lt_or_ge k' k with h | h
          · exact hD2 (hm hch) k' h i' hi'
          · have : k' = k := by dsimp only at hk'; omega
            rw [this]; exact hD hch i' (by omega)
      · repeat' (first
| refine wO ?_
| (refine o_go rfl ?_; (first
| refine wS ?_); refine ⟨_, aA, ?_⟩)
| (refine zK rfl (fun hc => ?_) (fun hc => ?_) <;> try (exfalso; omega))
| refine wE ?_)
        all_goals try (exfalso; omega)
        refine zT (o + 1, q2, ch2) ⟨by dsimp only; omega, hI2, hR2, fun hch g hg => ?_⟩ (by dsimp only; omega) aI ⟨rfl, rfl, rfl, trivial⟩ (zB rfl (zM _))
        dsimp only at hg
        rw [htk, List.mem_append, List.mem_singleton] at hg
        rcases hg with hg | rfl
        · exact hD1 (hm2 hch) g hg
        · rw [haa, show a = k by omega]
          intro k' hk' i' hi'
          exact hD2 hch k' hk' i' (by rw [show a = k by omega]; exact hi')
    · repeat' (first
| refine wO ?_
| (refine o_go rfl ?_; (first
| refine wS ?_); refine ⟨_, aA, ?_⟩)
| (refine zK rfl (fun hc => ?_) (fun hc => ?_) <;> try (exfalso; omega))
| refine wE ?_)
      all_goals try (exfalso; omega)
      refine zT (K := fun _ _ => True) (q1, was || ch1, ch1) ⟨hI1, fun hw => ?_, fun hw => ?_, fun hch => ?_⟩ ?_ aI ⟨rfl, rfl, trivial⟩ (hpLe_refl _)
      · dsimp only at hw ⊢
        obtain ⟨h1, h2⟩ := Bool.or_eq_false_iff.1 hw
        rw [hR1.1 h2, hw1 h1]
      · dsimp only at hw ⊢
        cases ch1 with
        | false =>
          rw [Bool.or_false] at hw
          rw [hR1.1 rfl]; exact hw2 hw
        | true =>
          have h1 := hR1.2 rfl
          cases was with
          | false => rw [hw1 rfl] at h1; exact h1
          | true => have := hw2 rfl; omega
      · dsimp only at hch ⊢
        rw [hR1.1 hch]
        intro f hf i hi j hj
        exact hD1 hch f (by rw [List.take_of_length_le (by omega)]; exact hf) j hj i hi
      · dsimp only
        cases ch1 with
        | false => rw [hR1.1 rfl]; simp
        | true => have := hR1.2 rfl; simp; omega
end Go.Proofs.YtbohjibbgppfaaaGreat
