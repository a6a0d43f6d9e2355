/- Walks: the laws' looks at tables. -/
import Derived.Test.YtbohjibbgppfaaaGreatJKy
import Derived.Test.YtbohjibbgppfaaaGreatJKn
import Derived.Test.YtbohjibbgppfaaaGreatJKz
import Derived.Test.YtbohjibbgppfaaaGreatJKd
import Derived.Test.YtbohjibbgppfaaaGreatJAu
import Derived.Test.YtbohjibbgppfaaaGreatJZb
import Derived.Test.YtbohjibbgppfaaaGreatJKv
import Derived.Test.YtbohjibbgppfaaaGreatJSq
set_option linter.unusedSectionVars false
namespace Go.Proofs.YtbohjibbgppfaaaGreat
open Go Go.Pv Go.Proofs
set_option maxHeartbeats 32000000
set_option maxRecDepth 100000
attribute [local bitvec_to_nat] St.put St.setObj St.ev killP killA killP1 killH mapHO renP renA ren1 killG killGA killG1 krowP krowA krow1 lendP lendA lend1 unv pinP pin1 elemsM viewM viewN viewV n_set_z n_set_s n_map_c n_map_n getD_z getD_s n_toNat n_cond_t n_cond_f n_len_c n_len_n n_app_c n_app_n n_take_s n_take_z n_drop_s n_drop_z n_get_z n_get_s view viewA view1 elems Nat.zero_add Nat.add_zero Bool.not_true Bool.not_false Nat.one_ne_zero Nat.mul_one

theorem rintsY_c (xs ys : List Int) (hl : xs.length ≤ 9223372036854775807) (_hm : ys.length ≤ 9223372036854775807) : PCalls Tryz.prog 32 [ints xs, ints ys] (B (decide (xs = ys))) := by
  refine pcalls1 Tryz.func32 rfl Tryz.ntmps32 rfl ?_
  refine wF ?_
  repeat' (first
| refine wO ?_
| (refine o_go rfl ?_; (first
| refine wS ?_); refine ⟨_, aA, ?_⟩)
| (refine g_condN rfl (fun hc => ?_) (fun hc => ?_) <;> try (exfalso; omega))
| refine kr1 ?_
| refine krB rfl ?_
| refine wE ?_)
  · exact Eq.symm (decide_eq_false fun e => hc (by rw [e]))
  have hlen : xs.length = ys.length := by omega
  refine g_loopT (α := Nat) (fun k => [(5, I k)]) (fun _ => []) (fun k => k ≤ xs.length ∧ xs.take k = ys.take k) (fun k => xs.length - k) 0 aF ⟨Nat.zero_le _, by simp⟩ ⟨rfl, trivial⟩ rfl ?_
  clear hc
  rintro k ⟨hk, hno⟩
  dsimp only [zZ, List.set_cons_zero, List.set_cons_succ]
  repeat' (first
| refine wO ?_
| refine zP (by kernel_rfl) (by kernel_rfl) ?_
| (refine o_go rfl ?_; (first
| refine wS ?_
| refine p_p (zN rfl rfl rfl (by omega) aP (by exact rfl)) ?_); refine ⟨_, aA, ?_⟩)
| (refine g_condN rfl (fun hc => ?_) (fun hc => ?_) <;> try (exfalso; omega))
| (refine zK rfl (fun hc => ?_) (fun hc => ?_) <;> try (exfalso; omega))
| refine kr1 ?_
| refine krB rfl ?_
| refine wE ?_)
  · exact Eq.symm (decide_eq_false (eq_at (k := k) 0 hc))
  · refine zT (k + 1) ⟨by omega, ?_⟩ (by omega) aI ⟨rfl, trivial⟩ (zM _)
    rw [take_snoc 0 (by omega), take_snoc 0 (by omega), hno, hc]
  · rw [(take_full hk hc).1, show k = ys.length by omega, List.take_length] at hno
    exact Eq.symm (decide_eq_true hno)
theorem rtable_c (V : List (List Int)) (hl : V.length ≤ 1048576) (hV : ∀ r ∈ V, r.length ≤ 1048576) : PCalls Tryz.prog 24 [intss V, intss V] (B true) := by
  refine pcalls1 Tryz.func24 rfl Tryz.ntmps24 rfl ?_
  refine wF ?_
  repeat' (first
| refine wO ?_
| (refine o_go rfl ?_; (first
| refine wS ?_); refine ⟨_, aA, ?_⟩)
| (refine g_condN rfl (fun hc => ?_) (fun hc => ?_) <;> try (exfalso; omega))
| refine wE ?_)
  all_goals try (exfalso; omega)
  refine g_loopT (α := Nat) (fun k => [(5, I (k : Int))]) (fun _ => []) (fun k => k ≤ V.length) (fun k => V.length - k) 0 aF (Nat.zero_le _) ⟨rfl, trivial⟩ rfl ?_
  rintro k hk
  dsimp only [zZ, List.set_cons_zero, List.set_cons_succ]
  by_cases hkl : k < V.length
  · have hrow := rows_at hkl
    have hm := hV _ (rows_mem hkl)
    have h1 := rintsY_c (V.getD k []) (V.getD k []) (by omega) (by omega)
    rw [decide_eq_true rfl] at h1
    repeat' (first
| refine wO ?_
| refine zP (by kernel_rfl) (by kernel_rfl) ?_
| (refine o_go rfl ?_; (first
| refine p_p (zG rfl rfl aB (h1)) ?_
| refine p_p (zN rfl rfl rfl (by omega) hrow (by exact rfl)) ?_
| refine wS ?_); refine ⟨_, aA, ?_⟩)
| (refine zK rfl (fun hc => ?_) (fun hc => ?_) <;> try (exfalso; omega))
| refine wE ?_)
    all_goals try (exfalso; omega)
    exact zT (k + 1) (by omega) (by omega) aI ⟨rfl, trivial⟩ (zM _)
  · repeat' (first
| refine wO ?_
| (refine o_go rfl ?_; (first
| refine wS ?_); refine ⟨_, aA, ?_⟩)
| (refine zK rfl (fun hc => ?_) (fun hc => ?_) <;> try (exfalso; omega))
| refine kr1 ?_
| refine krB rfl ?_
| refine wE ?_)
    all_goals first | rfl | (exfalso; omega)
end Go.Proofs.YtbohjibbgppfaaaGreat
/- Walks: elements that solve congruences together, both sides. -/
namespace Go.Proofs.YtbohjibbgppfaaaGreat
open Go Go.Pv Go.Proofs
set_option maxHeartbeats 32000000
set_option maxRecDepth 100000
attribute [local bitvec_to_nat] St.put St.setObj St.ev killP killA killP1 killH mapHO renP renA ren1 killG killGA killG1 krowP krowA krow1 lendP lendA lend1 unv pinP pin1 elemsM viewM viewN viewV n_set_z n_set_s n_map_c n_map_n getD_z getD_s n_toNat n_cond_t n_cond_f n_len_c n_len_n n_app_c n_app_n n_take_s n_take_z n_drop_s n_drop_z n_get_z n_get_s view viewA view1 elems Nat.zero_add Nat.add_zero Bool.not_true Bool.not_false Nat.one_ne_zero Nat.mul_one
theorem all_false_of {L : List (List Int)} {f : List Int → Bool} {i : Nat} (hi : i < L.length) (h : f (L.getD i []) = false) : L.all f = false := by
  rw [Bool.eq_false_iff]
  intro ha
  have := List.all_eq_true.1 ha _ (rows_mem hi)
  rw [h] at this; cases this
theorem all_rows {L : List (List Int)} {f : List Int → Bool} (h : ∀ j, j < L.length → f (L.getD j []) = true) : L.all f = true := List.all_eq_true.2 fun p hp => by
  obtain ⟨i, hi, rfl⟩ := List.getElem_of_mem hp
  have := h i hi
  rwa [List.getD_eq_getElem?_getD, List.getElem?_eq_getElem hi] at this
def acsB (n : Int) (ops : List OpD) (L : List (List Int)) : Bool := algOk n ops && (decide (L.length ≤ 20) && L.all (cgB n.toNat ops))
theorem iacs_c (n : Int) (ops : List OpD) (L : List (List Int)) (hs : szOk ops) (hL : L.length ≤ 1048576) (hr : ∀ p ∈ L, p.length ≤ 1048576) : PCalls Tryz.prog 94 [algP n ops, intss L] (B (acsB n ops L)) := by
  refine pcalls1 Tryz.func94 rfl Tryz.ntmps94 rfl ?_
  refine wF ?_
  have h1 := igood_c n ops hs
  cases hg : algOk n ops with
  | false =>
    rw [hg] at h1
    have hv : acsB n ops L = false := by unfold acsB; rw [hg]; rfl
    rw [hv]
    repeat' (first
| refine wO ?_
| (refine o_go rfl ?_; (first
| refine p_p (zG rfl rfl aB (h1)) ?_
| refine wS ?_
| refine p_p (ps_load_agg rfl rfl aK) ?_
| refine p_p (ps_box rfl rfl) ?_); refine ⟨_, aA, ?_⟩)
| (refine o_s rfl ?_; refine ⟨_, aA, ?_⟩)
| refine kr1 ?_
| refine krB rfl ?_
| refine wE ?_)
    all_goals first | rfl | (exfalso; first | omega | (simp at hc; omega) | (simp at hc; done))
  | true =>
    rw [hg] at h1
    obtain ⟨m, rfl, hm0, hm8, h4, ho⟩ := algOk_facts hg
    by_cases b1 : L.length ≤ 20
    · repeat' (first
| refine wO ?_
| (refine o_go rfl ?_; (first
| refine p_p (zG rfl rfl aB (h1)) ?_
| refine wS ?_
| refine p_p (ps_load_agg rfl rfl aK) ?_
| refine p_p (ps_box rfl rfl) ?_); refine ⟨_, aA, ?_⟩)
| (refine zK rfl (fun hc => ?_) (fun hc => ?_) <;> try (exfalso; omega))
| refine wE ?_)
      all_goals try (exfalso; first | omega | (simp at hc; omega) | (simp at hc; done))
      refine g_loopT (α := Nat) (fun i => [(17, I (i : Int))]) (fun _ => []) (fun i => i ≤ L.length ∧ ∀ j, j < i → cgB m ops (L.getD j []) = true) (fun i => L.length - i) 0 aF ⟨Nat.zero_le _, fun j hj => absurd hj (Nat.not_lt_zero _)⟩ ⟨rfl, trivial⟩ rfl ?_
      rintro i ⟨hi, hall⟩
      dsimp only [zZ, List.set_cons_zero, List.set_cons_succ]
      by_cases hil : i < L.length
      · have hrow := rows_at hil
        have hpl := hr _ (rows_mem hil)
        have q2 := iisc_c m ops (L.getD i []) hm0 hm8 hs.1 ho hpl
        cases hp : cgB m ops (L.getD i []) with
        | true =>
          rw [hp] at q2
          repeat' (first
| refine wO ?_
| (refine o_go rfl ?_; (first
| refine p_p (zG rfl rfl aB (q2)) ?_
| refine p_p (zN rfl rfl rfl (by omega) hrow (by exact rfl)) ?_
| refine wS ?_
| refine p_p (ps_load_agg rfl rfl aK) ?_); refine ⟨_, aA, ?_⟩)
| (refine zK rfl (fun hc => ?_) (fun hc => ?_) <;> try (exfalso; omega))
| refine wE ?_)
          all_goals try (exfalso; first | omega | (simp at hc; omega) | (simp at hc; done))
          refine zT (i + 1) ⟨by omega, fun j hj => ?_⟩ (by omega) aI ⟨rfl, trivial⟩ (zM _)
          rcases Nat.lt_or_ge j i with h | h
          · exact hall j h
          · rw [show j = i by omega]; exact hp
        | false =>
          rw [hp] at q2
          rw [show acsB m ops L = false by unfold acsB; rw [Int.toNat_natCast, all_false_of hil hp]; simp]
          repeat' (first
| refine wO ?_
| (refine o_go rfl ?_; (first
| refine p_p (zG rfl rfl aB (q2)) ?_
| refine p_p (zN rfl rfl rfl (by omega) hrow (by exact rfl)) ?_
| refine wS ?_
| refine p_p (ps_load_agg rfl rfl aK) ?_); refine ⟨_, aA, ?_⟩)
| (refine zK rfl (fun hc => ?_) (fun hc => ?_) <;> try (exfalso; omega))
| refine kr1 ?_
| refine krB rfl ?_
| refine wE ?_)
          all_goals first | rfl | (exfalso; first | omega | (simp at hc; omega) | (simp at hc; done))
      · rw [show acsB m ops L = true by unfold acsB; rw [hg, decide_eq_true b1, Int.toNat_natCast, all_rows fun j hj => hall j (by omega)]; rfl]
        repeat' (first
| refine wO ?_
| (refine o_go rfl ?_; (first
| refine wS ?_); refine ⟨_, aA, ?_⟩)
| (refine zK rfl (fun hc => ?_) (fun hc => ?_) <;> try (exfalso; omega))
| refine kr1 ?_
| refine krB rfl ?_
| refine wE ?_)
        all_goals first | rfl | (exfalso; first | omega | (simp at hc; omega) | (simp at hc; done))
    · rw [show acsB m ops L = false by unfold acsB; rw [decide_eq_false b1]; simp]
      repeat' (first
| refine wO ?_
| (refine o_go rfl ?_; (first
| refine p_p (zG rfl rfl aB (h1)) ?_
| refine wS ?_
| refine p_p (ps_load_agg rfl rfl aK) ?_
| refine p_p (ps_box rfl rfl) ?_); refine ⟨_, aA, ?_⟩)
| (refine zK rfl (fun hc => ?_) (fun hc => ?_) <;> try (exfalso; omega))
| refine kr1 ?_
| refine krB rfl ?_
| refine wE ?_)
      all_goals first | rfl | (exfalso; first | omega | (simp at hc; omega) | (simp at hc; done))
end Go.Proofs.YtbohjibbgppfaaaGreat
/- The reference's draw of an algebra, with what is known of its size. -/
namespace Go.Proofs.YtbohjibbgppfaaaGreat
open Go Go.Pv Go.Proofs
set_option maxHeartbeats 32000000
set_option maxRecDepth 100000

def szN (n : Int) : Prop := (0 ≤ n ∧ n ≤ 5) ∨ n = 9
theorem knownB_c (k : Int) : ∃ n ops, smA ops ∧ szN n ∧ PCalls Tryz.prog 193 [I k] (algP n ops) := by
  by_cases h : k < 0 ∨ 16 ≤ k
  · refine ⟨2, [], smA_nil, .inl ⟨by decide, by decide⟩, ?_⟩
    exact pcalls_le2 (knownX_c k h) (agg2_le (PV.le_nil 2))
  have h16 : k = 0 ∨ k = 1 ∨ k = 2 ∨ k = 3 ∨ k = 4 ∨ k = 5 ∨ k = 6 ∨ k = 7 ∨ k = 8 ∨ k = 9 ∨ k = 10 ∨ k = 11 ∨ k = 12 ∨ k = 13 ∨ k = 14 ∨ k = 15 := by omega
  rcases h16 with rfl | rfl | rfl | rfl | rfl | rfl | rfl | rfl | rfl | rfl | rfl | rfl | rfl | rfl | rfl | rfl
  · exact ⟨_, _, smA_cons (smA_nil) (by decide) (by rw [binL_len]; decide), .inl ⟨by decide, by decide⟩, known0_c⟩
  · exact ⟨_, _, smA_cons (smA_cons (smA_nil) (by decide) (by rw [binL_len]; decide)) (by decide) (by rw [binL_len]; decide), .inl ⟨by decide, by decide⟩, known1_c⟩
  · exact ⟨_, _, smA_cons (smA_cons (smA_cons (smA_nil) (by decide) (by decide)) (by decide) (by rw [binL_len]; decide)) (by decide) (by rw [binL_len]; decide), .inl ⟨by decide, by decide⟩, known2_c⟩
  · exact ⟨_, _, smA_cons (smA_nil) (by decide) (by rw [affL_len]; decide), .inl ⟨by decide, by decide⟩, known3_c⟩
  · exact ⟨_, _, smA_cons (smA_nil) (by decide) (by rw [binL_len]; decide), .inl ⟨by decide, by decide⟩, known4_c⟩
  · exact ⟨_, _, smA_cons (smA_nil) (by decide) (by rw [binL_len]; decide), .inl ⟨by decide, by decide⟩, known5_c⟩
  · exact ⟨_, _, smA_cons (smA_nil) (by decide) (by rw [binL_len]; decide), .inl ⟨by decide, by decide⟩, known6_c⟩
  · exact ⟨_, _, smA_cons (smA_cons (smA_nil) (by decide) (by rw [binL_len]; decide)) (by decide) (by rw [binL_len]; decide), .inl ⟨by decide, by decide⟩, known7_c⟩
  · exact ⟨_, _, smA_cons (smA_nil) (by decide) (by decide), .inl ⟨by decide, by decide⟩, known8_c⟩
  · exact ⟨_, _, smA_cons (smA_nil) (by decide) (by decide), .inl ⟨by decide, by decide⟩, known9_c⟩
  · exact ⟨_, _, smA_cons (smA_nil) (by decide) (by rw [binL_len]; decide), .inl ⟨by decide, by decide⟩, known10_c⟩
  · exact ⟨_, _, smA_cons (smA_cons (smA_nil) (by decide) (by rw [binL_len]; decide)) (by decide) (by rw [binL_len]; decide), .inl ⟨by decide, by decide⟩, known11_c⟩
  · exact ⟨_, _, smA_cons (smA_nil) (by decide) (by rw [binL_len]; decide), .inl ⟨by decide, by decide⟩, known12_c⟩
  · exact ⟨_, _, smA_cons (smA_cons (smA_nil) (by decide) (by decide)) (by decide) (by decide), .inl ⟨by decide, by decide⟩, known13_c⟩
  · exact ⟨_, _, smA_cons (smA_nil) (by decide) (by rw [binL_len]; decide), .inl ⟨by decide, by decide⟩, known14_c⟩
  · exact ⟨_, _, smA_cons (smA_nil) (by decide) (by rw [affL_len]; decide), .inl ⟨by decide, by decide⟩, known15_c⟩
theorem algEnd_exB {n : Nat} {c : Cu} {M : Int} (h : c.ok M) (hM : M ≤ 900000) (hn : n = 2 ∨ n = 3 ∨ n = 4) (f : OpD) (l : List OpD) (hl : l.length ≤ 1) (ht : ∀ g ∈ f :: l, g.tb.length ≤ 27) (ht1 : 1 ≤ f.tb.length) (y : Int) :
    ∃ n' ops' c', AlgEnd n c (f :: l) y n' ops' c' ∧ c'.ok (M + 20) ∧ smA ops' ∧ szN n' := by
  have hzn : szN (n : Int) := .inl ⟨by omega, by omega⟩
  have hf := ht f (List.mem_cons_self ..)
  have hl' : ∀ g ∈ l, g.tb.length ≤ 30 := fun g hg => Nat.le_trans (ht g (List.mem_cons_of_mem _ hg)) (by decide)
  have sm0 : ∀ g : OpD, g.tb.length ≤ 30 → smA (g :: l) := fun g hg => smA_app (by rw [List.length_cons]; omega) fun x hx => by
    rcases List.mem_cons.1 hx with rfl | hx
    · exact hg
    · exact hl' x hx
  by_cases y0 : y = 0
  · obtain ⟨c', z, k1, hz, hc⟩ := among_L h (by omega) [0, 9, (n : Int) + 1] (by simp) (by simp)
    simp only [List.mem_cons, List.not_mem_nil, or_false] at hz
    exact ⟨z, _, c', .size z c' y0 hc, k1.up (by omega), sm0 f (by omega), by unfold szN; omega⟩
  by_cases y1 : y = 1
  · exact ⟨_, _, _, .more f l y1 rfl, h.up (by omega), sm0 _ (by simp; omega), hzn⟩
  by_cases y2 : y = 2
  · obtain ⟨c1, p, k1, p0, p1, hc1⟩ := pick_L h (by omega) (f.tb.length : Int) (by omega)
    obtain ⟨c', v, k2, -, hc2⟩ := among_L k1 (by omega) [-1, (n : Int)] (by simp) (by simp)
    exact ⟨_, _, _, .cell f l p v c1 c' y2 rfl p0 (by omega) hc1 hc2, k2.up (by omega), sm0 _ (by simp; omega), hzn⟩
  by_cases y3 : y = 3
  · obtain ⟨c', v, k1, -, hc⟩ := among_L h (by omega) [-1, 4] (by simp) (by simp)
    exact ⟨_, _, _, .ar f l v c' y3 rfl hc, k1.up (by omega), sm0 _ (by simp; omega), hzn⟩
  by_cases y4 : y = 4
  · obtain ⟨E, E0, E1, E2⟩ := seq_of (fun t (s : Cu × Int) => s.1.ok (M + 2 * (t : Int)) ∧ 0 ≤ s.2 ∧ s.2 ≤ 1) (fun t s s' => LCalls Tryz.prog 186 (cuB s.1) [.hat 0 0, I 2] (cuB s'.1) (I s'.2)) ((c, 0) : Cu × Int) 6 ⟨by simpa using h, Int.le_refl _, Int.zero_le_ofNat 1⟩ fun t s ht ⟨k0, _, _⟩ => by
      obtain ⟨c', x, k1, x0, x1, hc⟩ := pick_L k0 (by omega) 2 (by omega)
      exact ⟨(c', x), ⟨by rw [show M + 2 * ((t + 1 : Nat) : Int) = M + 2 * (t : Int) + 2 by omega]; exact k1, x0, by omega⟩, hc⟩
    have hE : ∀ t, t < 6 → 0 ≤ (E (t + 1)).2 ∧ (E (t + 1)).2 ≤ 1 := fun t ht => (E1 (t + 1) (by omega)).2
    obtain ⟨R, hR, hR1, hR2⟩ : ∃ R, R ≤ 5 ∧ (∀ t, t < R → (((f :: l).length + t : Nat) : Int) < 4 + (E (t + 1)).2) ∧ ¬ (((f :: l).length + R : Nat) : Int) < 4 + (E (R + 1)).2 := by
      have hex : ∃ R, ¬ (((f :: l).length + R : Nat) : Int) < 4 + (E (R + 1)).2 ∧ R ≤ 5 := ⟨5, by have := hE 5 (by decide); rw [List.length_cons]; omega, Nat.le_refl _⟩
      obtain ⟨R, ⟨r1, r2⟩, r3⟩ := least_of hex
      exact ⟨R, r2, fun t ht => Classical.byContradiction fun hh => r3 t ht ⟨hh, by omega⟩, r1⟩
    have hlen : (f :: l).length ≤ 2 := by rw [List.length_cons]; omega
    refine ⟨_, _, _, .fill E R y4 (by rw [E0]) hR (fun t ht => E2 t (by omega)) (fun t ht => hE t (by omega)) hR1 hR2, (E1 (R + 1) (by omega)).1.up (by omega), ?_, hzn⟩
    have hRR : (f :: l).length + R ≤ 6 := by
      rcases Nat.eq_zero_or_pos R with rfl | hp
      · omega
      · have := hR1 (R - 1) (by omega); have := hE (R - 1) (by omega); omega
    refine smA_app (by rw [List.length_append, List.length_replicate]; exact hRR) fun g hg => ?_
    rcases List.mem_append.1 hg with hg | hg
    · exact Nat.le_trans (ht g hg) (by decide)
    · rw [(List.mem_replicate.1 hg).2, List.length_replicate]; omega
  · exact ⟨_, _, _, .none (by omega), h.up (by omega), sm0 f (by omega), hzn⟩
theorem algebra_B {c : Cu} {M : Int} (h : c.ok M) (hM : M ≤ 600000) : ∃ c' n ops, c'.ok (M + 1000) ∧ smA ops ∧ szN n ∧ LCalls Tryz.prog 125 (cuB c) [.hat 0 0] (cuB c') (algP n ops) := by
  obtain ⟨c1, b, k1, h1⟩ := one_L h (by omega) 4 (by decide)
  cases b with
  | false =>
    obtain ⟨c2, x, k2, -, -, h2⟩ := pick_L k1 (by omega) 17 (by decide)
    obtain ⟨n, ops, hs, hz, h3⟩ := knownB_c x
    exact ⟨c2, n, ops, k2.up (by omega), hs, hz, alg_w0 h1 h2 h3⟩
  | true =>
    obtain ⟨c2, x, k2, hx, h2⟩ := among_L k1 (by omega) [2, 2, 3, 3, 4] (by decide) (by decide)
    obtain ⟨n, rfl, hn⟩ : ∃ n : Nat, x = (n : Int) ∧ (n = 2 ∨ n = 3 ∨ n = 4) := by
      simp only [List.mem_cons, List.not_mem_nil, or_false] at hx
      exact ⟨x.toNat, by omega, by omega⟩
    obtain ⟨c3, y, k3, hy, h3⟩ := among_L k2 (by omega) [1, 1, 2] (by decide) (by decide)
    obtain ⟨K, rfl, hK⟩ : ∃ n : Nat, y = (n : Int) ∧ (n = 1 ∨ n = 2) := by
      simp only [List.mem_cons, List.not_mem_nil, or_false] at hy
      exact ⟨y.toNat, by omega, by omega⟩
    obtain ⟨D, D0, D1, D2⟩ := seq_of (fun i (s : Cu × List OpD) => s.1.ok (M + 6 + 100 * (i : Int)) ∧ s.2.length = i ∧ ∀ f ∈ s.2, 1 ≤ f.tb.length ∧ f.tb.length ≤ 27)
      (fun i s s' => ∃ f c', Nonempty (OpDr n s.1 f c') ∧ 1 ≤ f.tb.length ∧ f.tb.length ≤ 27 ∧ s' = (c', s.2 ++ [f])) ((c3, []) : Cu × List OpD) K ⟨k3.up (by omega), rfl, fun f hf => by simp at hf⟩ fun i s hi ⟨s1, s2, s3⟩ => by
        obtain ⟨f, c', hN, hc, t1, t2⟩ := opdr_ex s1 (by omega) hn
        refine ⟨(c', s.2 ++ [f]), ⟨by rw [show M + 6 + 100 * ((i + 1 : Nat) : Int) = M + 6 + 100 * (i : Int) + 100 by omega]; exact hc, by simp [s2], fun g hg => ?_⟩, f, c', hN, t1, t2, rfl⟩
        rcases List.mem_append.1 hg with hg | hg
        · exact s3 g hg
        · rw [List.mem_singleton] at hg; subst hg; exact ⟨t1, t2⟩
    obtain ⟨q1, q2, q3⟩ := D1 K (Nat.le_refl _)
    obtain ⟨c5, z, k5, -, -, h4⟩ := pick_L q1 (by omega) 16 (by decide)
    obtain ⟨f, l, hfl⟩ : ∃ f l, (D K).2 = f :: l := by
      cases hd : (D K).2 with
      | nil => rw [hd] at q2; simp at q2; omega
      | cons f l => exact ⟨f, l, rfl⟩
    obtain ⟨n', ops', c', e1, e2, e3, e4⟩ := algEnd_exB k5 (by omega) hn f l (by rw [hfl] at q2; simp at q2; omega) (fun g hg => (q3 g (by rw [hfl]; exact hg)).2) (q3 f (by rw [hfl]; exact List.mem_cons_self ..)).1 z
    exact ⟨c', n', ops', e2.up (by omega), e3, e4, alg_w hn hK h1 h2 h3 D0 D2 (fun i hi => (D1 i hi).2.1) (fun i hi f hf => ((D1 i hi).2.2 f hf).2) h4 (by rw [hfl]; exact e1)⟩
end Go.Proofs.YtbohjibbgppfaaaGreat
/- The reference's draw of an algebra and four elements. -/
namespace Go.Proofs.YtbohjibbgppfaaaGreat
open Go Go.Pv Go.Proofs
set_option maxHeartbeats 32000000
set_option maxRecDepth 100000
attribute [local bitvec_to_nat] St.put St.setObj St.ev killP killA killP1 killH mapHO renP renA ren1 killG killGA killG1 krowP krowA krow1 lendP lendA lend1 unv pinP pin1 elemsM viewM viewN viewV n_set_z n_set_s n_map_c n_map_n getD_z getD_s n_toNat n_cond_t n_cond_f n_len_c n_len_n n_app_c n_app_n n_take_s n_take_z n_drop_s n_drop_z n_get_z n_get_s view viewA view1 elems Nat.zero_add Nat.add_zero Bool.not_true Bool.not_false Nat.one_ne_zero Nat.mul_one

theorem element_L {c : Cu} {M : Int} (h : c.ok M) (hM : M ≤ 900000) (n : Int) (ops : List OpD) (hn9 : n ≤ 9) : ∃ c' x, c'.ok (M + 4) ∧ LCalls Tryz.prog 174 (cuB c) [.hat 0 0, algP n ops] (cuB c') (I x) := by
  by_cases h1 : n < 1
  · obtain ⟨c1, x, k1, -, h2⟩ := among_L h (by omega) [-1, n] (by simp) (by simp)
    refine ⟨c1, x, k1.up (by omega), ?_⟩
    refine pcallsL1 Tryz.func174 rfl Tryz.ntmps174 rfl rfl rfl (by simp) fun b d => ?_
    simp only [List.length_cons, List.length_nil, Nat.reduceAdd, Nat.reduceSub, List.replicate_succ, List.replicate_zero]
    repeat' (first
| refine wO ?_
| (refine o_go rfl ?_; (first
| refine p_p (ps_lits rfl (by exact rfl) (by exact rfl) aR (by decide) (by decide)) ?_
| refine p_e rfl (e_callL (n := 0) rfl rfl rfl aL rfl (by rfl) aS (h2)) ?_
| refine wS ?_
| refine p_p (ps_box rfl rfl) ?_); refine ⟨_, aA, ?_⟩)
| (refine o_s rfl ?_; refine ⟨_, aA, ?_⟩)
| (refine o_splitD rfl rfl rfl (fun hc => ?_) (fun hc => ?_) <;> first | (exfalso; omega) | dsimp only [List.set_cons_zero, List.set_cons_succ])
| refine wE ?_)
    all_goals first | exact krlh 0 0 rfl rfl rfl (krI rfl rfl) | (exfalso; omega)
  · obtain ⟨c1, b, k1, h2⟩ := one_L h (by omega) 24 (by decide)
    cases b with
    | true =>
      obtain ⟨c2, x, k2, -, h3⟩ := among_L k1 (by omega) [-1, n] (by simp) (by simp)
      refine ⟨c2, x, k2.up (by omega), ?_⟩
      refine pcallsL1 Tryz.func174 rfl Tryz.ntmps174 rfl rfl rfl (by simp) fun b d => ?_
      simp only [List.length_cons, List.length_nil, Nat.reduceAdd, Nat.reduceSub, List.replicate_succ, List.replicate_zero]
      repeat' (first
| refine wO ?_
| (refine o_go rfl ?_; (first
| refine p_p (ps_lits rfl (by exact rfl) (by exact rfl) aR (by decide) (by decide)) ?_
| refine p_e rfl (e_callL (n := 0) rfl rfl rfl aL rfl (by rfl) aS (h2)) ?_
| refine p_e rfl (e_callL (n := 0) rfl rfl rfl aL rfl (by rfl) aS (h3)) ?_
| refine wS ?_
| refine p_p (ps_box rfl rfl) ?_); refine ⟨_, aA, ?_⟩)
| (refine o_splitD rfl rfl rfl (fun hc => ?_) (fun hc => ?_) <;> first | (exfalso; omega) | dsimp only [List.set_cons_zero, List.set_cons_succ])
| refine wE ?_)
      all_goals first | exact krlh 0 0 rfl rfl rfl (krI rfl rfl) | (exfalso; omega)
    | false =>
      obtain ⟨c2, x, k2, -, -, h3⟩ := pick_L k1 (by omega) n (by omega)
      refine ⟨c2, x, k2.up (by omega), ?_⟩
      refine pcallsL1 Tryz.func174 rfl Tryz.ntmps174 rfl rfl rfl (by simp) fun b d => ?_
      simp only [List.length_cons, List.length_nil, Nat.reduceAdd, Nat.reduceSub, List.replicate_succ, List.replicate_zero]
      repeat' (first
| refine wO ?_
| (refine o_go rfl ?_; (first
| refine p_e rfl (e_callL (n := 0) rfl rfl rfl aL rfl (by rfl) aS (h2)) ?_
| refine p_e rfl (e_callL (n := 0) rfl rfl rfl aL rfl (by rfl) aS (h3)) ?_
| refine wS ?_
| refine p_p (ps_box rfl rfl) ?_); refine ⟨_, aA, ?_⟩)
| (refine o_splitD rfl rfl rfl (fun hc => ?_) (fun hc => ?_) <;> first | (exfalso; omega) | dsimp only [List.set_cons_zero, List.set_cons_succ])
| refine wE ?_)
      all_goals first | exact krlh 0 0 rfl rfl rfl (krI rfl rfl) | (exfalso; omega)
end Go.Proofs.YtbohjibbgppfaaaGreat
/- What an argument of bytes reads as, by value. -/
namespace Go.Pv
open Go Go.ChangeShapes Go.WideShapes Go.RowKit Go.Deep

theorem vr_rowY {w : World} {A : Option Addr} {L C : Nat} {zs : List Int} (h1 : L ≤ C) (h2 : C ≤ maxLen) (h3 : zs.length = C) (h4 : A = none → C = 0) (h5 : ∀ a', A = some a' → ∀ c, c < C → w.cell? (a'.add c) = some (.int .u8 (zs.getD c 0))) :
    VR (gW w) (.slice A L C) (.sl 1 none ((zs.take L).map Y)) := by
  cases A with
  | none =>
    have hC := h4 rfl
    have hL : L = 0 := by omega
    subst hC; subst hL
    exact .nilsl 1 none (by simp)
  | some a =>
    rcases Nat.eq_zero_or_pos L with h0 | hpos
    · subst h0; exact .esl 1 none a C (by simp)
    · have hc := h5 a rfl
      have hs : a.spot = none := by
        have := hc 0 (by omega)
        rw [add0] at this
        exact cell_spot this
      have key := VR.sl (g := gW w) 1 none a.block a.off C ((zs.take L).map Y) (fun i => [Y (zs.getD i 0)]) (fun k => .int .u8 (zs.getD k 0)) (by omega) (by simp) (by simp; omega) h2 (fun i p hi => ?_) (fun k hk => ?_) (fun i j q hi hq => ?_)
      · have hl : ((zs.take L).map Y).length = L := by simp; omega
        rw [hl, ← addr_eq hs] at key
        exact key
      · rw [List.getElem?_map, Option.map_eq_some_iff] at hi
        obtain ⟨z, hz, rfl⟩ := hi
        have hlt := (List.getElem?_eq_some_iff.1 hz).1
        simp only [List.length_take] at hlt
        rw [List.getElem?_take_of_lt (by omega)] at hz
        exact ⟨by simp [PV.flat, PV.one, List.getD_eq_getElem?_getD, hz], rfl⟩
      · simp only [List.length_map, List.length_take] at hk
        have := hc k (by omega)
        show w.cell? ⟨a.block, a.off + k, none⟩ = _
        rw [← this]
        rw [addr_eq hs, Addr.add_n]
      · have hj : j = 0 := by rcases j with _ | j; rfl; simp at hq
        subst hj
        simp at hq
        subst hq
        simp only [Nat.mul_one, Nat.add_zero]
        exact .val _
theorem wf_u8 {n : Int} (h : (Lit.int .u8 n).wf = true) : 0 ≤ n ∧ n ≤ 255 := by
  simp [Lit.wf] at h
  rw [show IntKind.u8.min = 0 by rfl, show IntKind.u8.max = 255 by rfl] at h
  exact h
section
variable {H : Type} {enc : TypeId × Value → H} {P : Program} {W : World} {held : Bool}
theorem ar_bytes {t e : TypeId} {v : Value} {d : DataW H} {ps : List MemPlace} (ht : P.underlying t = some (.slice e)) (he : P.underlying e = some (.int .u8)) (hc : P.cellsOf e = 1) (hval : ∃ r b, Value.okWide P W r b t v) (h : DataW.Trod enc P W 0 (fun _ => true) held t v d ps) :
    ∃ l : List Int, VR (gW W) v (.sl 1 none (l.map Y)) ∧ l.length ≤ maxLen ∧ ∀ i, i < l.length → 0 ≤ l.getD i 0 ∧ l.getD i 0 ≤ 255 := by
  obtain ⟨r, b, hval⟩ := hval
  obtain ⟨fuel, h⟩ := h
  have key : ∀ cs x, DataW.trod enc P W 0 (fun _ => true) held fuel t cs = some x → ∃ (u : Value) (l : List Int), cs = [u] ∧ VR (gW W) u (.sl 1 none (l.map Y)) ∧ l.length ≤ maxLen ∧ ∀ n ∈ l, (Lit.int .u8 n).wf = true := fun cs x h => by
    rcases open_ints ht he hc h with ⟨rfl, -⟩ | ⟨a, len, cap, zs, rfl, -, hl, hm, hz, -, hcell, hwf⟩
    · exact ⟨_, [], rfl, .nilsl 1 none (by simp), by simp, fun n hn => by simp at hn⟩
    · simp only [if_true] at hz
      refine ⟨_, zs.take len, rfl, vr_rowY hl hm hz (fun h => by cases h) (fun a' ha c hc => ?_), by simp; omega, fun n hn => hwf n (List.mem_of_mem_take hn)⟩
      cases ha
      exact hcell c (by omega)
  obtain ⟨u, l, hcs, h1, h2, h3⟩ := key _ _ h
  have e : v = u := by
    cases v with
    | agg cs => unfold Value.okWide at hval; rw [ht] at hval; simp [Cell.okWide, Cell.ok, ht] at hval
    | tuple cs => unfold Value.okWide at hval; rw [ht] at hval; simp [Cell.okWide, Cell.ok, ht] at hval
    | _ => exact (List.cons.inj hcs).1
  refine ⟨l, e ▸ h1, h2, fun i hi => ?_⟩
  rw [List.getD_eq_getElem?_getD, List.getElem?_eq_getElem hi]
  exact wf_u8 (h3 _ (List.getElem_mem hi))
end
end Go.Pv
