/- The reference's draw of an algebra: it is there, and small. -/
import Derived.Test.YtlgfniaakjchgaaGreatLHn
import Derived.Test.YtlgfniaakjchgaaGreatLNj
import Derived.Test.YtlgfniaakjchgaaGreatLNh
import Derived.Test.YtlgfniaakjchgaaGreatLGw
import Derived.Test.YtlgfniaakjchgaaGreatLZb
namespace Go.Proofs.YtlgfniaakjchgaaGreat
open Go Go.Pv Go.Proofs

theorem least_of {p : Nat → Prop} (h : ∃ n, p n) : ∃ n, p n ∧ ∀ m, m < n → ¬ p m := by
  obtain ⟨n, hn⟩ := h
  induction n using Nat.strongRecOn with
  | _ n ih =>
    by_cases hx : ∃ m, m < n ∧ p m
    · obtain ⟨m, h1, h2⟩ := hx; exact ih m h1 h2
    · exact ⟨n, hn, fun m hm hp => hx ⟨m, hm, hp⟩⟩
theorem smA_app {l : List OpD} (h1 : l.length ≤ 6) (h2 : ∀ f ∈ l, f.tb.length ≤ 30) : smA l := by
  refine ⟨?_, ?_⟩
  · omega
  · intro f hf; exact Nat.le_trans (h2 f hf) (by decide)
theorem algEnd_ex {n : Nat} {c : Cu} {M : Int} (h : c.ok M) (hM : M ≤ 900000) (hn : n = 2 ∨ n = 3 ∨ n = 4) (f : OpD) (l : List OpD) (hl : l.length ≤ 1) (ht : ∀ g ∈ f :: l, g.tb.length ≤ 27) (ht1 : 1 ≤ f.tb.length) (y : Int) :
    ∃ n' ops' c', AlgEnd n c (f :: l) y n' ops' c' ∧ c'.ok (M + 20) ∧ smA ops' := by
  have hf := ht f (List.mem_cons_self ..)
  have hl' : ∀ g ∈ l, g.tb.length ≤ 30 := fun g hg => Nat.le_trans (ht g (List.mem_cons_of_mem _ hg)) (by decide)
  have sm0 : ∀ g : OpD, g.tb.length ≤ 30 → smA (g :: l) := fun g hg => smA_app (by rw [List.length_cons]; omega) fun x hx => by
    rcases List.mem_cons.1 hx with rfl | hx
    · exact hg
    · exact hl' x hx
  by_cases y0 : y = 0
  · obtain ⟨c', z, k1, -, hc⟩ := among_L h (by omega) [0, 9, (n : Int) + 1] (by simp) (by simp)
    exact ⟨z, _, c', .size z c' y0 hc, k1.up (by omega), sm0 f (by omega)⟩
  by_cases y1 : y = 1
  · exact ⟨_, _, _, .more f l y1 rfl, h.up (by omega), sm0 _ (by simp; omega)⟩
  by_cases y2 : y = 2
  · obtain ⟨c1, p, k1, p0, p1, hc1⟩ := pick_L h (by omega) (f.tb.length : Int) (by omega)
    obtain ⟨c', v, k2, -, hc2⟩ := among_L k1 (by omega) [-1, (n : Int)] (by simp) (by simp)
    exact ⟨_, _, _, .cell f l p v c1 c' y2 rfl p0 (by omega) hc1 hc2, k2.up (by omega), sm0 _ (by simp; omega)⟩
  by_cases y3 : y = 3
  · obtain ⟨c', v, k1, -, hc⟩ := among_L h (by omega) [-1, 4] (by simp) (by simp)
    exact ⟨_, _, _, .ar f l v c' y3 rfl hc, k1.up (by omega), sm0 _ (by simp; omega)⟩
  by_cases y4 : y = 4
  · obtain ⟨E, E0, E1, E2⟩ := seq_of (fun t (s : Cu × Int) => s.1.ok (M + 2 * (t : Int)) ∧ 0 ≤ s.2 ∧ s.2 ≤ 1) (fun t s s' => LCalls Tryz.prog 44 (cuB s.1) [.hat 0 0, I 2] (cuB s'.1) (I s'.2)) ((c, 0) : Cu × Int) 6 ⟨by simpa using h, Int.le_refl _, Int.zero_le_ofNat 1⟩ fun t s ht ⟨k0, _, _⟩ => by
      obtain ⟨c', x, k1, x0, x1, hc⟩ := pick_L k0 (by omega) 2 (by omega)
      exact ⟨(c', x), ⟨by rw [show M + 2 * ((t + 1 : Nat) : Int) = M + 2 * (t : Int) + 2 by omega]; exact k1, x0, by omega⟩, hc⟩
    have hE : ∀ t, t < 6 → 0 ≤ (E (t + 1)).2 ∧ (E (t + 1)).2 ≤ 1 := fun t ht => (E1 (t + 1) (by omega)).2
    obtain ⟨R, hR, hR1, hR2⟩ : ∃ R, R ≤ 5 ∧ (∀ t, t < R → (((f :: l).length + t : Nat) : Int) < 4 + (E (t + 1)).2) ∧ ¬ (((f :: l).length + R : Nat) : Int) < 4 + (E (R + 1)).2 := by
      have hex : ∃ R, ¬ (((f :: l).length + R : Nat) : Int) < 4 + (E (R + 1)).2 ∧ R ≤ 5 := ⟨5, by have := hE 5 (by decide); rw [List.length_cons]; omega, Nat.le_refl _⟩
      obtain ⟨R, ⟨r1, r2⟩, r3⟩ := least_of hex
      exact ⟨R, r2, fun t ht => Classical.byContradiction fun hh => r3 t ht ⟨hh, by omega⟩, r1⟩
    have hlen : (f :: l).length ≤ 2 := by rw [List.length_cons]; omega
    refine ⟨_, _, _, .fill E R y4 (by rw [E0]) hR (fun t ht => E2 t (by omega)) (fun t ht => hE t (by omega)) hR1 hR2, (E1 (R + 1) (by omega)).1.up (by omega), ?_⟩
    have hRR : (f :: l).length + R ≤ 6 := by
      rcases Nat.eq_zero_or_pos R with rfl | hp
      · omega
      · have := hR1 (R - 1) (by omega); have := hE (R - 1) (by omega); omega
    refine smA_app (by rw [List.length_append, List.length_replicate]; exact hRR) fun g hg => ?_
    rcases List.mem_append.1 hg with hg | hg
    · exact Nat.le_trans (ht g hg) (by decide)
    · rw [(List.mem_replicate.1 hg).2, List.length_replicate]; omega
  · exact ⟨_, _, _, .none (by omega), h.up (by omega), sm0 f (by omega)⟩
theorem algebra_L {c : Cu} {M : Int} (h : c.ok M) (hM : M ≤ 600000) : ∃ c' n ops, c'.ok (M + 1000) ∧ smA ops ∧ LCalls Tryz.prog 95 (cuB c) [.hat 0 0] (cuB c') (algP n ops) := by
  obtain ⟨c1, b, k1, h1⟩ := one_L h (by omega) 4 (by decide)
  cases b with
  | false =>
    obtain ⟨c2, x, k2, -, -, h2⟩ := pick_L k1 (by omega) 17 (by decide)
    obtain ⟨n, ops, hs, h3⟩ := knownA_c x
    exact ⟨c2, n, ops, k2.up (by omega), hs, alg_w0 h1 h2 h3⟩
  | true =>
    obtain ⟨c2, x, k2, hx, h2⟩ := among_L k1 (by omega) [2, 2, 3, 3, 4] (by decide) (by decide)
    obtain ⟨n, rfl, hn⟩ : ∃ n : Nat, x = (n : Int) ∧ (n = 2 ∨ n = 3 ∨ n = 4) := by
      simp only [List.mem_cons, List.not_mem_nil, or_false] at hx
      exact ⟨x.toNat, by omega, by omega⟩
    obtain ⟨c3, y, k3, hy, h3⟩ := among_L k2 (by omega) [1, 1, 2] (by decide) (by decide)
    obtain ⟨K, rfl, hK⟩ : ∃ n : Nat, y = (n : Int) ∧ (n = 1 ∨ n = 2) := by
      simp only [List.mem_cons, List.not_mem_nil, or_false] at hy
      exact ⟨y.toNat, by omega, by omega⟩
    obtain ⟨D, D0, D1, D2⟩ := seq_of (fun i (s : Cu × List OpD) => s.1.ok (M + 6 + 100 * (i : Int)) ∧ s.2.length = i ∧ ∀ f ∈ s.2, 1 ≤ f.tb.length ∧ f.tb.length ≤ 27)
      (fun i s s' => ∃ f c', Nonempty (OpDr n s.1 f c') ∧ 1 ≤ f.tb.length ∧ f.tb.length ≤ 27 ∧ s' = (c', s.2 ++ [f])) ((c3, []) : Cu × List OpD) K ⟨k3.up (by omega), rfl, fun f hf => by simp at hf⟩ fun i s hi ⟨s1, s2, s3⟩ => by
        obtain ⟨f, c', hN, hc, t1, t2⟩ := opdr_ex s1 (by omega) hn
        refine ⟨(c', s.2 ++ [f]), ⟨by rw [show M + 6 + 100 * ((i + 1 : Nat) : Int) = M + 6 + 100 * (i : Int) + 100 by omega]; exact hc, by simp [s2], fun g hg => ?_⟩, f, c', hN, t1, t2, rfl⟩
        rcases List.mem_append.1 hg with hg | hg
        · exact s3 g hg
        · rw [List.mem_singleton] at hg; subst hg; exact ⟨t1, t2⟩
    obtain ⟨q1, q2, q3⟩ := D1 K (Nat.le_refl _)
    obtain ⟨c5, z, k5, -, -, h4⟩ := pick_L q1 (by omega) 16 (by decide)
    obtain ⟨f, l, hfl⟩ : ∃ f l, (D K).2 = f :: l := by
      cases hd : (D K).2 with
      | nil => rw [hd] at q2; simp at q2; omega
      | cons f l => exact ⟨f, l, rfl⟩
    obtain ⟨n', ops', c', e1, e2, e3⟩ := algEnd_ex k5 (by omega) hn f l (by rw [hfl] at q2; simp at q2; omega) (fun g hg => (q3 g (by rw [hfl]; exact hg)).2) (q3 f (by rw [hfl]; exact List.mem_cons_self ..)).1 z
    exact ⟨c', n', ops', e2.up (by omega), e3, alg_w hn hK h1 h2 h3 D0 D2 (fun i hi => (D1 i hi).2.1) (fun i hi f hf => ((D1 i hi).2.2 f hf).2) h4 (by rw [hfl]; exact e1)⟩
end Go.Proofs.YtlgfniaakjchgaaGreat
/- Walks: the distributive chain, given as operations, on both sides. -/
namespace Go.Proofs.YtlgfniaakjchgaaGreat
open Go Go.Pv Go.Proofs
set_option maxHeartbeats 32000000
set_option maxRecDepth 100000
attribute [local bitvec_to_nat] St.put St.setObj St.ev killP killA killP1 killH mapHO renP renA ren1 killG killGA killG1 krowP krowA krow1 lendP lendA lend1 unv pinP pin1 elemsM viewM viewN viewV n_set_z n_set_s n_map_c n_map_n getD_z getD_s n_toNat n_cond_t n_cond_f n_len_c n_len_n n_app_c n_app_n n_take_s n_take_z n_drop_s n_drop_z n_get_z n_get_s view viewA view1 elems Nat.zero_add Nat.add_zero Bool.not_true Bool.not_false Nat.one_ne_zero Nat.mul_one
attribute [local bitvec_to_nat] posI optP lendM1 lendMA lendMP killM1 killMA killMP hasI getO backM1 backMA backMP putL inpM pinM1 pinMA pinMP killR1 killRA killR

def opsC (T : List (List Int)) (c : List Nat) : List OpD := c.map fun f => ⟨3, T.getD f []⟩
theorem opsC_len (T : List (List Int)) (c : List Nat) : (opsC T c).length = c.length := List.length_map _
theorem opsC_at {T : List (List Int)} {c : List Nat} {i : Nat} (h : i < c.length) : (opsC T c).getD i default = ⟨3, T.getD (c.getD i 0) []⟩ := by
  simp [opsC, List.getD_eq_getElem?_getD, h]
theorem opsC_take {T : List (List Int)} {c : List Nat} {i : Nat} (h : i < c.length) : (opsC T c).take (i + 1) = (opsC T c).take i ++ [⟨3, T.getD (c.getD i 0) []⟩] := by
  rw [take_snoc default (by rw [opsC_len]; exact h), opsC_at h]
theorem chain_at {c : List Nat} {i : Nat} (h : i < c.length) : ((c.map Int.ofNat).map I)[((i : Nat) : Int).toNat]? = some (I ((c.getD i 0 : Nat) : Int)) := by
  rw [Int.toNat_natCast, List.map_map, List.getElem?_map, List.getElem?_eq_getElem h, List.getD_eq_getElem?_getD, List.getElem?_eq_getElem h]; rfl
theorem tab_at {T : List (List Int)} {f : Nat} (h : f < T.length) : (T.map ints)[((f : Nat) : Int).toNat]? = some (ints (T.getD f [])) := by
  rw [Int.toNat_natCast]; exact idx_ints h
theorem sc_sg (rows : List (List Int)) : ((rows.map fun r => r.map I).all fun r => r.all PV.sc) = true := sc_maps (fun _ => rfl) _
theorem iops_R (n : Nat) (T : List (List Int)) (c : List Nat) (hT : lenOk T) (hc : ∀ f ∈ c, f < T.length) (hl : c.length ≤ 1000) :
    RCalls Tryz.prog 61 [chP n T, ints (c.map Int.ofNat)] (sgI (rowsO (opsC T c))) (.hp 0) := by
  refine pcallsR1 Tryz.func61 rfl Tryz.ntmps61 rfl ?_
  simp only [List.length_cons, List.length_nil, Nat.reduceAdd, Nat.reduceSub, List.replicate_succ, List.replicate_zero, List.cons_append, List.nil_append]
  repeat' (first
| refine g_seq ?_
| refine zJ ?_
| refine zC ?_
| (refine o_go rfl ?_; (first
| refine p_e rfl (e_lit0S 3 rfl) ?_
| refine p_p (zD rfl) ?_
| refine p_p (zA rfl) ?_
| refine p_p (zU rfl rfl rfl) ?_); refine ⟨_, aB, ?_⟩)
| refine o_nil ?_)
  refine g_loopF (α := Nat) [8] (fun i => [(5, .hp 0), (11, I (i : Int))]) (fun i => [sgI (rowsO ((opsC T c).take i))]) (fun i => i ≤ c.length) (fun i => c.length - i) 0 aH (Nat.zero_le _) ⟨rfl, rfl, trivial⟩ rfl ?_
  rintro i hi
  dsimp only [zZ, List.set_cons_zero, List.set_cons_succ]
  have hcl' : (c.map Int.ofNat).length = c.length := List.length_map _
  have hll : ((rowsO ((opsC T c).take i)).map fun r => r.map I).length = i := by simp [opsC_len]; omega
  by_cases hic : i < c.length
  · have hq := chain_at hic
    have htk := opsC_take (T := T) hic
    have hf : c.getD i 0 < T.length := hc _ (by rw [List.getD_eq_getElem?_getD, List.getElem?_eq_getElem hic]; exact List.getElem_mem _)
    generalize c.getD i 0 = f at *
    have hr := tab_at hf
    have hcl := iclone_R (T.getD f []) (hT.at hf)
    generalize T.getD f [] = t at *
    repeat' (first
| refine g_seq ?_
| refine zJ ?_
| refine zC ?_
| (refine o_go rfl ?_; (first
| refine p_p (zN rfl rfl rfl (by omega) hq (by exact rfl)) ?_
| refine p_p (zN rfl rfl rfl (by omega) hr (by exact rfl)) ?_
| refine p_e rfl (e_callR rfl rfl aC rfl (hcl)) ?_
| refine p_e (by kernel_rfl) (e_lit1S rfl rfl rfl (one_all (fun _ => rfl) _) rfl) ?_
| refine p_e (by kernel_rfl) (e_append_sg rfl rfl rfl rfl rfl rfl (by decide) (by rw [hll, n_len_c, n_len_n]; omega) (by rw [hll, n_len_c, n_len_n]; omega)) ?_
| refine p_p (zD rfl) ?_
| refine p_p (zA rfl) ?_
| refine p_p (zF rfl rfl) ?_
| refine p_p (zS rfl rfl rfl) ?_
| refine p_p (ps_add rfl rfl rfl aN) ?_
| refine p_p (zL rfl rfl) ?_
| refine p_p (ps_nilCheck rfl rfl) ?_
| refine p_p (ps_build rfl rfl) ?_); refine ⟨_, aB, ?_⟩)
| refine o_nil ?_
| (refine zK rfl (fun hc => ?_) (fun hc => ?_) <;> try (exfalso; omega))
| refine zR ?_)
    all_goals try (exfalso; omega)
    refine zT (i + 1) (by omega) (by omega) aI ⟨rfl, rfl, trivial⟩ (zB ?_ (zM _))
    rw [htk]; simp only [sgI, rowsO, List.map_append, List.map_cons, List.map_nil]
  · repeat' (first
| refine g_seq ?_
| refine zC ?_
| (refine o_go rfl ?_; (first
| refine p_p (zD rfl) ?_
| refine p_p (zA rfl) ?_
| refine p_p (zS rfl rfl rfl) ?_); refine ⟨_, aB, ?_⟩)
| refine o_nil ?_
| (refine zK rfl (fun hc => ?_) (fun hc => ?_) <;> try (exfalso; omega))
| refine g_exit ?_
| refine g_ret ?_)
    all_goals try (exfalso; omega)
    refine krr 0 rfl (HandOut.sg rfl ?_ rfl (sc_sg _))
    rw [List.take_of_length_le (by rw [opsC_len]; omega)]
theorem sgive_c (T : List (List Int)) (c : List Nat) (hT : lenOk T) (hc : ∀ f ∈ c, f < T.length) (hl : c.length ≤ 1000) :
    PCalls Tryz.prog 25 [intss T, ints (c.map Int.ofNat)] (opsP (opsC T c)) := by
  refine pcalls1 Tryz.func25 rfl Tryz.ntmps25 rfl ?_
  simp only [List.length_cons, List.length_nil, Nat.reduceAdd, Nat.reduceSub, List.replicate_succ, List.replicate_zero, List.cons_append, List.nil_append]
  repeat' (first
| refine g_seq ?_
| refine zJ ?_
| refine zC ?_
| (refine o_go rfl ?_; (first
| refine p_p (zA rfl) ?_
| refine p_e rfl (e_lit0 rfl (by decide)) ?_); refine ⟨_, aB, ?_⟩)
| refine o_nil ?_)
  refine g_loopF (α := Nat) [7] (fun i => [(5, .hp 0), (6, I (i : Int))]) (fun i => [.arr false 2 33 (((opsC T c).take i).map opP)]) (fun i => i ≤ c.length) (fun i => c.length - i) 0 aH (Nat.zero_le _) ⟨rfl, rfl, trivial⟩ rfl ?_
  rintro i hi
  dsimp only [zZ, List.set_cons_zero, List.set_cons_succ]
  have hcl' : (c.map Int.ofNat).length = c.length := List.length_map _
  have hll : (((opsC T c).take i).map opP).length ≤ 1000 := by simp [opsC_len]; omega
  by_cases hic : i < c.length
  · have hq := chain_at hic
    have htk := opsC_take (T := T) hic
    have hf : c.getD i 0 < T.length := hc _ (by rw [List.getD_eq_getElem?_getD, List.getElem?_eq_getElem hic]; exact List.getElem_mem _)
    generalize c.getD i 0 = f at *
    have hr := tab_at hf
    have hcl := rcalls_P rfl (own_R (T.getD f []) (hT.at hf))
    generalize T.getD f [] = t at *
    repeat' (first
| refine g_seq ?_
| refine zJ ?_
| refine zC ?_
| (refine o_go rfl ?_; (first
| refine p_p (zN rfl rfl rfl (by omega) hq (by exact rfl)) ?_
| refine p_p (zN rfl rfl rfl (by omega) hr (by exact rfl)) ?_
| refine p_p (zG rfl rfl aC (hcl)) ?_
| refine p_p (ps_litA [I 3, ints t] rfl rfl (by rfl) (by decide) (by decide)) ?_
| refine p_e (by kernel_rfl) (e_append rfl rfl rfl rfl rfl rfl (one_ag rfl) rfl aP aP) ?_
| refine p_p (zD rfl) ?_
| refine p_p (zA rfl) ?_
| refine p_p (zF rfl rfl) ?_
| refine p_p (zU rfl rfl rfl) ?_
| refine p_p (zS rfl rfl rfl) ?_
| refine p_p (ps_add rfl rfl rfl aN) ?_
| refine p_p (ps_build rfl rfl) ?_); refine ⟨_, aB, ?_⟩)
| refine o_nil ?_
| (refine zK rfl (fun hc => ?_) (fun hc => ?_) <;> try (exfalso; omega))
| refine zR ?_)
    all_goals try (exfalso; omega)
    refine zT (i + 1) (by omega) (by omega) aI ⟨rfl, rfl, trivial⟩ (zB ?_ (zM _))
    rw [htk, List.map_append]; rfl
  · repeat' (first
| refine g_seq ?_
| refine zC ?_
| (refine o_go rfl ?_; (first
| refine p_p (zD rfl) ?_
| refine p_p (zA rfl) ?_
| refine p_p (zU rfl rfl rfl) ?_
| refine p_p (zS rfl rfl rfl) ?_); refine ⟨_, aB, ?_⟩)
| refine o_nil ?_
| (refine zK rfl (fun hc => ?_) (fun hc => ?_) <;> try (exfalso; omega))
| refine kr1 ?_
| refine krS rfl ?_
| refine g_exit ?_
| refine g_ret ?_)
    all_goals try (exfalso; omega)
    all_goals rw [List.take_of_length_le (by rw [opsC_len]; omega)]
end Go.Proofs.YtlgfniaakjchgaaGreat
