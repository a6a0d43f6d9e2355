/- Walks: the laws' looks at tables. -/
import Derived.Test.YtembaiccchgllaaGreatJKy
import Derived.Test.YtembaiccchgllaaGreatJYy
namespace Go.Proofs.YtembaiccchgllaaGreat
open Go Go.Pv Go.Proofs
set_option maxHeartbeats 32000000
set_option maxRecDepth 100000
attribute [local bitvec_to_nat] St.put St.setObj St.ev killP killA killP1 killH mapHO renP renA ren1 killG killGA killG1 krowP krowA krow1 lendP lendA lend1 unv pinP pin1 elemsM viewM viewN viewV n_set_z n_set_s n_map_c n_map_n getD_z getD_s n_toNat n_cond_t n_cond_f n_len_c n_len_n n_app_c n_app_n n_take_s n_take_z n_drop_s n_drop_z n_get_z n_get_s view viewA view1 elems Nat.zero_add Nat.add_zero Bool.not_true Bool.not_false Nat.one_ne_zero Nat.mul_one

theorem rintsY_c (xs ys : List Int) (hl : xs.length ≤ 9223372036854775807) (_hm : ys.length ≤ 9223372036854775807) : PCalls Tryz.prog 23 [ints xs, ints ys] (B (decide (xs = ys))) := by
  refine pcalls1 Tryz.func23 rfl Tryz.ntmps23 rfl ?_
  simp only [List.length_cons, List.length_nil, Nat.reduceAdd, Nat.reduceSub, List.replicate_succ, List.replicate_zero, List.cons_append, List.nil_append]
  repeat' (first
| refine g_seq ?_
| refine zJ ?_
| refine zC ?_
| (refine o_go rfl ?_; (first
| refine p_p (zD rfl) ?_
| refine p_p (zA rfl) ?_
| refine p_p (zU rfl rfl rfl) ?_
| refine p_p (ps_neq rfl rfl rfl) ?_); refine ⟨_, aB, ?_⟩)
| refine o_nil ?_
| (refine g_condN rfl (fun hc => ?_) (fun hc => ?_) <;> try (exfalso; omega))
| refine kr1 ?_
| refine krB rfl ?_
| refine zR ?_
| refine g_ret ?_)
  · exact Eq.symm (decide_eq_false fun e => hc (by rw [e]))
  have hlen : xs.length = ys.length := by omega
  refine g_loopT (α := Nat) (fun k => [(5, I k)]) (fun _ => []) (fun k => k ≤ xs.length ∧ xs.take k = ys.take k) (fun k => xs.length - k) 0 aH ⟨Nat.zero_le _, by simp⟩ ⟨rfl, trivial⟩ rfl ?_
  clear hc
  rintro k ⟨hk, hno⟩
  dsimp only [zZ, List.set_cons_zero, List.set_cons_succ]
  repeat' (first
| refine g_seq ?_
| refine zJ ?_
| refine zC ?_
| refine zP (by kernel_rfl) (by kernel_rfl) ?_
| (refine o_go rfl ?_; (first
| refine p_p (zD rfl) ?_
| refine p_p (zA rfl) ?_
| refine p_p (zF rfl rfl) ?_
| refine p_p (zN rfl rfl rfl (by omega) aP (by exact rfl)) ?_
| refine p_p (zU rfl rfl rfl) ?_
| refine p_p (zS rfl rfl rfl) ?_
| refine p_p (ps_add rfl rfl rfl aO) ?_
| refine p_p (ps_neq rfl rfl rfl) ?_); refine ⟨_, aB, ?_⟩)
| refine o_nil ?_
| (refine g_condN rfl (fun hc => ?_) (fun hc => ?_) <;> try (exfalso; omega))
| (refine zK rfl (fun hc => ?_) (fun hc => ?_) <;> try (exfalso; omega))
| refine kr1 ?_
| refine krB rfl ?_
| refine zR ?_
| refine g_exit ?_
| refine g_ret ?_)
  · exact Eq.symm (decide_eq_false (eq_at (k := k) 0 hc))
  · refine zT (k + 1) ⟨by omega, ?_⟩ (by omega) aI ⟨rfl, trivial⟩ (zM _)
    rw [take_snoc 0 (by omega), take_snoc 0 (by omega), hno, hc]
  · rw [(take_full hk hc).1, show k = ys.length by omega, List.take_length] at hno
    exact Eq.symm (decide_eq_true hno)
theorem rtable_c (V : List (List Int)) (hl : V.length ≤ 1048576) (hV : ∀ r ∈ V, r.length ≤ 1048576) : PCalls Tryz.prog 15 [intss V, intss V] (B true) := by
  refine pcalls1 Tryz.func15 rfl Tryz.ntmps15 rfl ?_
  simp only [List.length_cons, List.length_nil, Nat.reduceAdd, Nat.reduceSub, List.replicate_succ, List.replicate_zero, List.cons_append, List.nil_append]
  repeat' (first
| refine g_seq ?_
| refine zJ ?_
| refine zC ?_
| (refine o_go rfl ?_; (first
| refine p_p (zD rfl) ?_
| refine p_p (zA rfl) ?_
| refine p_p (zU rfl rfl rfl) ?_
| refine p_p (ps_neq rfl rfl rfl) ?_); refine ⟨_, aB, ?_⟩)
| refine o_nil ?_
| (refine g_condN rfl (fun hc => ?_) (fun hc => ?_) <;> try (exfalso; omega))
| refine zR ?_)
  all_goals try (exfalso; omega)
  refine g_loopT (α := Nat) (fun k => [(5, I (k : Int))]) (fun _ => []) (fun k => k ≤ V.length) (fun k => V.length - k) 0 aH (Nat.zero_le _) ⟨rfl, trivial⟩ rfl ?_
  rintro k hk
  dsimp only [zZ, List.set_cons_zero, List.set_cons_succ]
  by_cases hkl : k < V.length
  · have hrow := rows_at hkl
    have hm := hV _ (rows_mem hkl)
    have h1 := rintsY_c (V.getD k []) (V.getD k []) (by omega) (by omega)
    rw [decide_eq_true rfl] at h1
    repeat' (first
| refine g_seq ?_
| refine zJ ?_
| refine zC ?_
| refine zP (by kernel_rfl) (by kernel_rfl) ?_
| (refine o_go rfl ?_; (first
| refine p_p (zG rfl rfl aC (h1)) ?_
| refine p_p (zN rfl rfl rfl (by omega) hrow (by exact rfl)) ?_
| refine p_p (zD rfl) ?_
| refine p_p (zA rfl) ?_
| refine p_p (zF rfl rfl) ?_
| refine p_p (zU rfl rfl rfl) ?_
| refine p_p (zS rfl rfl rfl) ?_
| refine p_p (ps_add rfl rfl rfl aO) ?_
| refine p_p (ps_not rfl rfl) ?_); refine ⟨_, aB, ?_⟩)
| refine o_nil ?_
| refine zW rfl ?_
| (refine zK rfl (fun hc => ?_) (fun hc => ?_) <;> try (exfalso; omega))
| refine zR ?_)
    all_goals try (exfalso; omega)
    exact zT (k + 1) (by omega) (by omega) aI ⟨rfl, trivial⟩ (zM _)
  · repeat' (first
| refine g_seq ?_
| refine zC ?_
| (refine o_go rfl ?_; (first
| refine p_p (zD rfl) ?_
| refine p_p (zA rfl) ?_
| refine p_p (zU rfl rfl rfl) ?_
| refine p_p (zS rfl rfl rfl) ?_); refine ⟨_, aB, ?_⟩)
| refine o_nil ?_
| (refine zK rfl (fun hc => ?_) (fun hc => ?_) <;> try (exfalso; omega))
| refine kr1 ?_
| refine krB rfl ?_
| refine g_exit ?_
| refine g_ret ?_)
    all_goals first | rfl | (exfalso; omega)
def plN (p : List Int) : List (List Int) → Nat
  | [] => 0
  | a :: l => if a = p then 0 else plN p l + 1
def plV (p : List Int) (V : List (List Int)) : Int := if p ∈ V then (plN p V : Int) else -1
theorem plN_at {p : List Int} : ∀ {V : List (List Int)} {k : Nat}, k < V.length → V.getD k [] = p → (∀ i, i < k → V.getD i [] ≠ p) → plN p V = k
  | a :: V, 0, _, h, _ => if_pos h
  | a :: V, k + 1, hk, h, hl => by
    unfold plN
    have ih := plN_at (p := p) (V := V) (k := k) (by simpa using hk) h fun i hi => hl (i + 1) (by omega)
    rw [if_neg (show a ≠ p from hl 0 (by omega)), ih]
theorem plV_in {p : List Int} {V : List (List Int)} (h : p ∈ V) : 0 ≤ plV p V := by unfold plV; rw [if_pos h]; omega
theorem rplace_c (V : List (List Int)) (p : List Int) (hl : V.length ≤ 1048576) (hV : ∀ r ∈ V, r.length ≤ 1048576) (hp : p.length ≤ 1048576) : PCalls Tryz.prog 41 [intss V, ints p] (I (plV p V)) := by
  refine pcalls1 Tryz.func41 rfl Tryz.ntmps41 rfl ?_
  simp only [List.length_cons, List.length_nil, Nat.reduceAdd, Nat.reduceSub, List.replicate_succ, List.replicate_zero, List.cons_append, List.nil_append]
  repeat' (first
| refine g_seq ?_
| refine zJ ?_
| refine zC ?_
| (refine o_go rfl ?_; (first
| refine p_p (zA rfl) ?_); refine ⟨_, aB, ?_⟩)
| refine o_nil ?_)
  refine g_loopT (α := Nat) (fun k => [(5, I (k : Int))]) (fun _ => []) (fun k => k ≤ V.length ∧ ∀ i, i < k → V.getD i [] ≠ p) (fun k => V.length - k) 0 aH ⟨Nat.zero_le _, fun i hi => absurd hi (Nat.not_lt_zero _)⟩ ⟨rfl, trivial⟩ rfl ?_
  rintro k ⟨hk, hno⟩
  dsimp only [zZ, List.set_cons_zero, List.set_cons_succ]
  by_cases hkl : k < V.length
  · have hrow := rows_at hkl
    have hm := hV _ (rows_mem hkl)
    have h1 := rintsY_c (V.getD k []) p (by omega) (by omega)
    by_cases he : V.getD k [] = p
    · rw [decide_eq_true he] at h1
      have hv : plV p V = (k : Int) := by
        unfold plV
        rw [if_pos (by rw [← he]; exact rows_mem hkl), plN_at hkl he hno]
      rw [hv]
      repeat' (first
| refine g_seq ?_
| refine zJ ?_
| refine zC ?_
| (refine o_go rfl ?_; (first
| refine p_p (zG rfl rfl aC (h1)) ?_
| refine p_p (zN rfl rfl rfl (by omega) hrow (by exact rfl)) ?_
| refine p_p (zD rfl) ?_
| refine p_p (zA rfl) ?_
| refine p_p (zF rfl rfl) ?_
| refine p_p (zU rfl rfl rfl) ?_
| refine p_p (zS rfl rfl rfl) ?_); refine ⟨_, aB, ?_⟩)
| refine o_nil ?_
| refine zX rfl ?_
| (refine zK rfl (fun hc => ?_) (fun hc => ?_) <;> try (exfalso; omega))
| refine kr1 ?_
| refine krI rfl ?_
| refine zR ?_
| refine g_ret ?_)
      all_goals first | rfl | (exfalso; omega)
    · rw [decide_eq_false he] at h1
      repeat' (first
| refine g_seq ?_
| refine zJ ?_
| refine zC ?_
| (refine o_go rfl ?_; (first
| refine p_p (zG rfl rfl aC (h1)) ?_
| refine p_p (zN rfl rfl rfl (by omega) hrow (by exact rfl)) ?_
| refine p_p (zD rfl) ?_
| refine p_p (zA rfl) ?_
| refine p_p (zF rfl rfl) ?_
| refine p_p (zU rfl rfl rfl) ?_
| refine p_p (zS rfl rfl rfl) ?_
| refine p_p (ps_add rfl rfl rfl aO) ?_); refine ⟨_, aB, ?_⟩)
| refine o_nil ?_
| refine zW rfl ?_
| (refine zK rfl (fun hc => ?_) (fun hc => ?_) <;> try (exfalso; omega))
| refine zR ?_)
      all_goals try (exfalso; omega)
      refine zT (k + 1) ⟨by omega, fun i hi => ?_⟩ (by omega) aI ⟨rfl, trivial⟩ (zM _)
      rcases Nat.lt_or_ge i k with h | h
      · exact hno i h
      · rw [show i = k by omega]; exact he
  · have hv : plV p V = -1 := by
      unfold plV
      rw [if_neg]
      intro h
      obtain ⟨i, hi, e⟩ := List.getElem_of_mem h
      exact hno i (by omega) (by rw [List.getD_eq_getElem?_getD, List.getElem?_eq_getElem hi]; exact e)
    rw [hv]
    repeat' (first
| refine g_seq ?_
| refine zC ?_
| (refine o_go rfl ?_; (first
| refine p_p (zD rfl) ?_
| refine p_p (zA rfl) ?_
| refine p_p (zU rfl rfl rfl) ?_
| refine p_p (zS rfl rfl rfl) ?_); refine ⟨_, aB, ?_⟩)
| refine o_nil ?_
| (refine zK rfl (fun hc => ?_) (fun hc => ?_) <;> try (exfalso; omega))
| refine kr1 ?_
| refine krI rfl ?_
| refine g_exit ?_
| refine g_ret ?_)
    all_goals first | rfl | (exfalso; omega)
end Go.Proofs.YtembaiccchgllaaGreat
/- The reference's draw of an algebra, with what is known of its size. -/
namespace Go.Proofs.YtembaiccchgllaaGreat
open Go Go.Pv Go.Proofs
set_option maxHeartbeats 32000000
set_option maxRecDepth 100000

def szN (n : Int) : Prop := (0 ≤ n ∧ n ≤ 5) ∨ n = 9
theorem knownB_c (k : Int) : ∃ n ops, smA ops ∧ szN n ∧ PCalls Tryz.prog 274 [I k] (algP n ops) := by
  by_cases h : k < 0 ∨ 16 ≤ k
  · refine ⟨2, [], smA_nil, .inl ⟨by decide, by decide⟩, ?_⟩
    exact pcalls_le2 (knownX_c k h) (agg2_le (PV.le_nil 2))
  have h16 : k = 0 ∨ k = 1 ∨ k = 2 ∨ k = 3 ∨ k = 4 ∨ k = 5 ∨ k = 6 ∨ k = 7 ∨ k = 8 ∨ k = 9 ∨ k = 10 ∨ k = 11 ∨ k = 12 ∨ k = 13 ∨ k = 14 ∨ k = 15 := by omega
  rcases h16 with rfl | rfl | rfl | rfl | rfl | rfl | rfl | rfl | rfl | rfl | rfl | rfl | rfl | rfl | rfl | rfl
  · exact ⟨_, _, smA_cons (smA_nil) (by decide) (by rw [binL_len]; decide), .inl ⟨by decide, by decide⟩, known0_c⟩
  · exact ⟨_, _, smA_cons (smA_cons (smA_nil) (by decide) (by rw [binL_len]; decide)) (by decide) (by rw [binL_len]; decide), .inl ⟨by decide, by decide⟩, known1_c⟩
  · exact ⟨_, _, smA_cons (smA_cons (smA_cons (smA_nil) (by decide) (by decide)) (by decide) (by rw [binL_len]; decide)) (by decide) (by rw [binL_len]; decide), .inl ⟨by decide, by decide⟩, known2_c⟩
  · exact ⟨_, _, smA_cons (smA_nil) (by decide) (by rw [affL_len]; decide), .inl ⟨by decide, by decide⟩, known3_c⟩
  · exact ⟨_, _, smA_cons (smA_nil) (by decide) (by rw [binL_len]; decide), .inl ⟨by decide, by decide⟩, known4_c⟩
  · exact ⟨_, _, smA_cons (smA_nil) (by decide) (by rw [binL_len]; decide), .inl ⟨by decide, by decide⟩, known5_c⟩
  · exact ⟨_, _, smA_cons (smA_nil) (by decide) (by rw [binL_len]; decide), .inl ⟨by decide, by decide⟩, known6_c⟩
  · exact ⟨_, _, smA_cons (smA_cons (smA_nil) (by decide) (by rw [binL_len]; decide)) (by decide) (by rw [binL_len]; decide), .inl ⟨by decide, by decide⟩, known7_c⟩
  · exact ⟨_, _, smA_cons (smA_nil) (by decide) (by decide), .inl ⟨by decide, by decide⟩, known8_c⟩
  · exact ⟨_, _, smA_cons (smA_nil) (by decide) (by decide), .inl ⟨by decide, by decide⟩, known9_c⟩
  · exact ⟨_, _, smA_cons (smA_nil) (by decide) (by rw [binL_len]; decide), .inl ⟨by decide, by decide⟩, known10_c⟩
  · exact ⟨_, _, smA_cons (smA_cons (smA_nil) (by decide) (by rw [binL_len]; decide)) (by decide) (by rw [binL_len]; decide), .inl ⟨by decide, by decide⟩, known11_c⟩
  · exact ⟨_, _, smA_cons (smA_nil) (by decide) (by rw [binL_len]; decide), .inl ⟨by decide, by decide⟩, known12_c⟩
  · exact ⟨_, _, smA_cons (smA_cons (smA_nil) (by decide) (by decide)) (by decide) (by decide), .inl ⟨by decide, by decide⟩, known13_c⟩
  · exact ⟨_, _, smA_cons (smA_nil) (by decide) (by rw [binL_len]; decide), .inl ⟨by decide, by decide⟩, known14_c⟩
  · exact ⟨_, _, smA_cons (smA_nil) (by decide) (by rw [affL_len]; decide), .inl ⟨by decide, by decide⟩, known15_c⟩
theorem algEnd_exB {n : Nat} {c : Cu} {M : Int} (h : c.ok M) (hM : M ≤ 900000) (hn : n = 2 ∨ n = 3 ∨ n = 4) (f : OpD) (l : List OpD) (hl : l.length ≤ 1) (ht : ∀ g ∈ f :: l, g.tb.length ≤ 27) (ht1 : 1 ≤ f.tb.length) (y : Int) :
    ∃ n' ops' c', AlgEnd n c (f :: l) y n' ops' c' ∧ c'.ok (M + 20) ∧ smA ops' ∧ szN n' := by
  have hzn : szN (n : Int) := .inl ⟨by omega, by omega⟩
  have hf := ht f (List.mem_cons_self ..)
  have hl' : ∀ g ∈ l, g.tb.length ≤ 30 := fun g hg => Nat.le_trans (ht g (List.mem_cons_of_mem _ hg)) (by decide)
  have sm0 : ∀ g : OpD, g.tb.length ≤ 30 → smA (g :: l) := fun g hg => smA_app (by rw [List.length_cons]; omega) fun x hx => by
    rcases List.mem_cons.1 hx with rfl | hx
    · exact hg
    · exact hl' x hx
  by_cases y0 : y = 0
  · obtain ⟨c', z, k1, hz, hc⟩ := among_L h (by omega) [0, 9, (n : Int) + 1] (by simp) (by simp)
    simp only [List.mem_cons, List.not_mem_nil, or_false] at hz
    exact ⟨z, _, c', .size z c' y0 hc, k1.up (by omega), sm0 f (by omega), by unfold szN; omega⟩
  by_cases y1 : y = 1
  · exact ⟨_, _, _, .more f l y1 rfl, h.up (by omega), sm0 _ (by simp; omega), hzn⟩
  by_cases y2 : y = 2
  · obtain ⟨c1, p, k1, p0, p1, hc1⟩ := pick_L h (by omega) (f.tb.length : Int) (by omega)
    obtain ⟨c', v, k2, -, hc2⟩ := among_L k1 (by omega) [-1, (n : Int)] (by simp) (by simp)
    exact ⟨_, _, _, .cell f l p v c1 c' y2 rfl p0 (by omega) hc1 hc2, k2.up (by omega), sm0 _ (by simp; omega), hzn⟩
  by_cases y3 : y = 3
  · obtain ⟨c', v, k1, -, hc⟩ := among_L h (by omega) [-1, 4] (by simp) (by simp)
    exact ⟨_, _, _, .ar f l v c' y3 rfl hc, k1.up (by omega), sm0 _ (by simp; omega), hzn⟩
  by_cases y4 : y = 4
  · obtain ⟨E, E0, E1, E2⟩ := seq_of (fun t (s : Cu × Int) => s.1.ok (M + 2 * (t : Int)) ∧ 0 ≤ s.2 ∧ s.2 ≤ 1) (fun t s s' => LCalls Tryz.prog 266 (cuB s.1) [.hat 0 0, I 2] (cuB s'.1) (I s'.2)) ((c, 0) : Cu × Int) 6 ⟨by simpa using h, Int.le_refl _, Int.zero_le_ofNat 1⟩ fun t s ht ⟨k0, _, _⟩ => by
      obtain ⟨c', x, k1, x0, x1, hc⟩ := pick_L k0 (by omega) 2 (by omega)
      exact ⟨(c', x), ⟨by rw [show M + 2 * ((t + 1 : Nat) : Int) = M + 2 * (t : Int) + 2 by omega]; exact k1, x0, by omega⟩, hc⟩
    have hE : ∀ t, t < 6 → 0 ≤ (E (t + 1)).2 ∧ (E (t + 1)).2 ≤ 1 := fun t ht => (E1 (t + 1) (by omega)).2
    obtain ⟨R, hR, hR1, hR2⟩ : ∃ R, R ≤ 5 ∧ (∀ t, t < R → (((f :: l).length + t : Nat) : Int) < 4 + (E (t + 1)).2) ∧ ¬ (((f :: l).length + R : Nat) : Int) < 4 + (E (R + 1)).2 := by
      have hex : ∃ R, ¬ (((f :: l).length + R : Nat) : Int) < 4 + (E (R + 1)).2 ∧ R ≤ 5 := ⟨5, by have := hE 5 (by decide); rw [List.length_cons]; omega, Nat.le_refl _⟩
      obtain ⟨R, ⟨r1, r2⟩, r3⟩ := least_of hex
      exact ⟨R, r2, fun t ht => Classical.byContradiction fun hh => r3 t ht ⟨hh, by omega⟩, r1⟩
    have hlen : (f :: l).length ≤ 2 := by rw [List.length_cons]; omega
    refine ⟨_, _, _, .fill E R y4 (by rw [E0]) hR (fun t ht => E2 t (by omega)) (fun t ht => hE t (by omega)) hR1 hR2, (E1 (R + 1) (by omega)).1.up (by omega), ?_, hzn⟩
    have hRR : (f :: l).length + R ≤ 6 := by
      rcases Nat.eq_zero_or_pos R with rfl | hp
      · omega
      · have := hR1 (R - 1) (by omega); have := hE (R - 1) (by omega); omega
    refine smA_app (by rw [List.length_append, List.length_replicate]; exact hRR) fun g hg => ?_
    rcases List.mem_append.1 hg with hg | hg
    · exact Nat.le_trans (ht g hg) (by decide)
    · rw [(List.mem_replicate.1 hg).2, List.length_replicate]; omega
  · exact ⟨_, _, _, .none (by omega), h.up (by omega), sm0 f (by omega), hzn⟩
theorem algebra_B {c : Cu} {M : Int} (h : c.ok M) (hM : M ≤ 600000) : ∃ c' n ops, c'.ok (M + 1000) ∧ smA ops ∧ szN n ∧ LCalls Tryz.prog 193 (cuB c) [.hat 0 0] (cuB c') (algP n ops) := by
  obtain ⟨c1, b, k1, h1⟩ := one_L h (by omega) 4 (by decide)
  cases b with
  | false =>
    obtain ⟨c2, x, k2, -, -, h2⟩ := pick_L k1 (by omega) 17 (by decide)
    obtain ⟨n, ops, hs, hz, h3⟩ := knownB_c x
    exact ⟨c2, n, ops, k2.up (by omega), hs, hz, alg_w0 h1 h2 h3⟩
  | true =>
    obtain ⟨c2, x, k2, hx, h2⟩ := among_L k1 (by omega) [2, 2, 3, 3, 4] (by decide) (by decide)
    obtain ⟨n, rfl, hn⟩ : ∃ n : Nat, x = (n : Int) ∧ (n = 2 ∨ n = 3 ∨ n = 4) := by
      simp only [List.mem_cons, List.not_mem_nil, or_false] at hx
      exact ⟨x.toNat, by omega, by omega⟩
    obtain ⟨c3, y, k3, hy, h3⟩ := among_L k2 (by omega) [1, 1, 2] (by decide) (by decide)
    obtain ⟨K, rfl, hK⟩ : ∃ n : Nat, y = (n : Int) ∧ (n = 1 ∨ n = 2) := by
      simp only [List.mem_cons, List.not_mem_nil, or_false] at hy
      exact ⟨y.toNat, by omega, by omega⟩
    obtain ⟨D, D0, D1, D2⟩ := seq_of (fun i (s : Cu × List OpD) => s.1.ok (M + 6 + 100 * (i : Int)) ∧ s.2.length = i ∧ ∀ f ∈ s.2, 1 ≤ f.tb.length ∧ f.tb.length ≤ 27)
      (fun i s s' => ∃ f c', Nonempty (OpDr n s.1 f c') ∧ 1 ≤ f.tb.length ∧ f.tb.length ≤ 27 ∧ s' = (c', s.2 ++ [f])) ((c3, []) : Cu × List OpD) K ⟨k3.up (by omega), rfl, fun f hf => by simp at hf⟩ fun i s hi ⟨s1, s2, s3⟩ => by
        obtain ⟨f, c', hN, hc, t1, t2⟩ := opdr_ex s1 (by omega) hn
        refine ⟨(c', s.2 ++ [f]), ⟨by rw [show M + 6 + 100 * ((i + 1 : Nat) : Int) = M + 6 + 100 * (i : Int) + 100 by omega]; exact hc, by simp [s2], fun g hg => ?_⟩, f, c', hN, t1, t2, rfl⟩
        rcases List.mem_append.1 hg with hg | hg
        · exact s3 g hg
        · rw [List.mem_singleton] at hg; subst hg; exact ⟨t1, t2⟩
    obtain ⟨q1, q2, q3⟩ := D1 K (Nat.le_refl _)
    obtain ⟨c5, z, k5, -, -, h4⟩ := pick_L q1 (by omega) 16 (by decide)
    obtain ⟨f, l, hfl⟩ : ∃ f l, (D K).2 = f :: l := by
      cases hd : (D K).2 with
      | nil => rw [hd] at q2; simp at q2; omega
      | cons f l => exact ⟨f, l, rfl⟩
    obtain ⟨n', ops', c', e1, e2, e3, e4⟩ := algEnd_exB k5 (by omega) hn f l (by rw [hfl] at q2; simp at q2; omega) (fun g hg => (q3 g (by rw [hfl]; exact hg)).2) (q3 f (by rw [hfl]; exact List.mem_cons_self ..)).1 z
    exact ⟨c', n', ops', e2.up (by omega), e3, e4, alg_w hn hK h1 h2 h3 D0 D2 (fun i hi => (D1 i hi).2.1) (fun i hi f hf => ((D1 i hi).2.2 f hf).2) h4 (by rw [hfl]; exact e1)⟩
end Go.Proofs.YtembaiccchgllaaGreat
