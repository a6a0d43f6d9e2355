/- Plain: an algebra and the product of two quotients by congruences that permute and are complements. -/
import Derived.Test.YtepjlgilopfnpaaGreatJTk
import Derived.Test.YtepjlgilopfnpaaGreatJKo
import Derived.Test.YtepjlgilopfnpaaGreatJKd
set_option linter.unusedSectionVars false
namespace Go.Proofs.YtepjlgilopfnpaaGreat
open Go Go.Pv Go.Proofs

theorem alk_of {n m : Nat} {A B : List OpD} (hn : 0 < n) (hm : 0 < m) (hA : opsIn n A) (hB : opsIn m B) (ht : sameT A B) : Alk n A m B := by
 have mem : ∀ {n : Nat} {C : List OpD} {k : Nat}, opsIn n C → k < C.length → 0 ≤ (C.getD k default).ar ∧ (C.getD k default).ar ≤ 3 ∧ (C.getD k default).tb.length = n ^ (C.getD k default).ar.toNat ∧ ∀ i, i < n ^ (C.getD k default).ar.toNat → 0 ≤ (C.getD k default).tb.getD i 0 ∧ bk (C.getD k default).tb i < n := fun h hk => h _ (by rw [List.getD_eq_getElem?_getD, List.getElem?_eq_getElem hk]; exact List.getElem_mem _)
 refine ⟨hn, hm, fun k hk => ⟨ht.at k, fun i hi => ((mem hA hk).2.2.2 i hi).2, fun j hj => ?_⟩, fun k hk => (mem hA hk).2.2.1⟩
 have h := (mem hB (show k < B.length by rw [← ht.len]; exact hk)).2.2.2 j (by rw [← ht.at k]; exact hj)
 unfold bk at h
 omega
theorem argsL_s (n k i : Nat) : argsL n (k + 1) i = argsL n k (i / n) ++ [((i % n : Nat) : Int)] := rfl
section
variable {n n1 n2 : Nat} {φ1 φ2 : Nat → Nat} (hn : 0 < n) (h1 : ∀ x, x < n → φ1 x < n1) (h2 : ∀ x, x < n → φ2 x < n2)
include hn h1 h2
theorem pair_lt {x : Nat} (hx : x < n) : φ1 x * n2 + φ2 x < n1 * n2 := by
 have a := h1 x hx
 have b := h2 x hx
 calc φ1 x * n2 + φ2 x < φ1 x * n2 + n2 := by omega
  _ = (φ1 x + 1) * n2 := by rw [Nat.add_mul, Nat.one_mul]
  _ ≤ n1 * n2 := Nat.mul_le_mul_right _ a
theorem mapI_facQ : ∀ a i, idxL n1 (facQ (n1 * n2) n2 a (mapI n (n1 * n2) (fun x => φ1 x * n2 + φ2 x) a i)) = (mapI n n1 φ1 a i : Int)
 | 0, _ => rfl
 | a + 1, i => by
  have hlt := fun x (hx : x < n) => pair_lt hn h1 h2 hx
  have hm := Nat.mod_lt i hn
  have h20 : 0 < n2 := Nat.lt_of_le_of_lt (Nat.zero_le _) (h2 _ hm)
  have ih := mapI_facQ a (i / n)
  unfold facQ at ih ⊢
  rw [argsL_s, mapI_div hn hlt, mapI_mod hn hlt, List.map_append, List.map_cons, List.map_nil, idxL_snoc]
  rw [ih]
  have e : (((φ1 (i % n) * n2 + φ2 (i % n) : Nat) : Int)) / (n2 : Int) = (φ1 (i % n) : Int) := by
   rw [← Int.natCast_ediv, Nat.mul_comm, Nat.mul_add_div h20, Nat.div_eq_of_lt (h2 _ hm), Nat.add_zero]
  rw [e]
  show _ = ((mapI n n1 φ1 a (i / n) * n1 + φ1 (i % n) : Nat) : Int)
  rw [Int.natCast_add, Int.natCast_mul]
theorem mapI_facR : ∀ a i, idxL n2 (facR (n1 * n2) n2 a (mapI n (n1 * n2) (fun x => φ1 x * n2 + φ2 x) a i)) = (mapI n n2 φ2 a i : Int)
 | 0, _ => rfl
 | a + 1, i => by
  have hlt := fun x (hx : x < n) => pair_lt hn h1 h2 hx
  have hm := Nat.mod_lt i hn
  have ih := mapI_facR a (i / n)
  unfold facR at ih ⊢
  rw [argsL_s, mapI_div hn hlt, mapI_mod hn hlt, List.map_append, List.map_cons, List.map_nil, idxL_snoc]
  rw [ih]
  have e : (((φ1 (i % n) * n2 + φ2 (i % n) : Nat) : Int)) % (n2 : Int) = (φ2 (i % n) : Int) := by
   rw [← Int.natCast_emod, Nat.mul_comm, Nat.mul_add_mod, Nat.mod_eq_of_lt (h2 _ hm)]
  rw [e]
  show _ = ((mapI n n2 φ2 a (i / n) * n2 + φ2 (i % n) : Nat) : Int)
  rw [Int.natCast_add, Int.natCast_mul]
end
theorem opsK_quo {n : Nat} {p : List Int} {A : List OpD} {k : Nat} (hk : k < A.length) : (quoL n p A).getD k default = quoF n p (A.getD k default) := by
 unfold quoL
 simp [List.getD_eq_getElem?_getD, hk]
theorem opsK_prod {n m : Nat} {A B : List OpD} {k : Nat} (hk : k < A.length) : (prodL n m A B).getD k default = prodF (n * m) n m (A.getD k default) (B.getD k default) := by
 unfold prodL prodK
 rw [List.getD_eq_getElem?_getD, List.getElem?_map, List.getElem?_range hk]; rfl
theorem quo_len (n : Nat) (p : List Int) (A : List OpD) : (quoL n p A).length = A.length := by simp [quoL]
theorem quo_same (n : Nat) (p q : List Int) (A : List OpD) : sameT (quoL n p A) (quoL n q A) := by
 unfold sameT quoL
 rw [List.map_map, List.map_map]; rfl
theorem prodT_bk {N n m k j : Nat} {f g : OpD} (h : j < k) : bk (prodT N n m f g k) j = (prodC N n m f g j).toNat := by
 unfold bk prodT
 rw [List.getD_eq_getElem?_getD, List.getElem?_map, List.getElem?_range h]; rfl
theorem iso_prod {n : Nat} {p q : List Int} {A : List OpD} (hn : 0 < n) (hA : opsIn n A) (hp : Pt n p) (hq : Pt n q) (cp : Cong n A p) (cq : Cong n A q) (hm : ∀ x y, x < n → y < n → bk p x = bk p y → bk q x = bk q y → x = y) :
 IsoH n A ((lstN p n).length * (lstN q n).length) (prodL (lstN p n).length (lstN q n).length (quoL n p A) (quoL n q A)) (fun x => nmN p x * (lstN q n).length + nmN q x) := by
 have h1 := fun x (hx : x < n) => nm_lt hp hx
 have h2 := fun x (hx : x < n) => nm_lt hq hx
 refine ⟨fun x hx => pair_lt hn h1 h2 hx, fun x y hx hy e => ?_, fun k hk i hi => ?_⟩
 · have e : nmN p x * (lstN q n).length + nmN q x = nmN p y * (lstN q n).length + nmN q y := e
   have a := h2 x hx
   have b := h2 y hy
   have e1 : nmN q x = nmN q y := by
    have := congrArg (· % (lstN q n).length) e
    simpa only [Nat.mul_comm _ (lstN q n).length, Nat.mul_add_mod, Nat.mod_eq_of_lt a, Nat.mod_eq_of_lt b] using this
   have e2 : nmN p x = nmN p y := by
    rw [e1] at e
    exact Nat.eq_of_mul_eq_mul_right (Nat.lt_of_le_of_lt (Nat.zero_le _) a) (Nat.add_right_cancel e)
   exact hm x y hx hy ((nm_eq hp hx hy).1 e2) ((nm_eq hq hx hy).1 e1)
 · have hf : A.getD k default ∈ A := by rw [List.getD_eq_getElem?_getD, List.getElem?_eq_getElem hk]; exact List.getElem_mem _
   rw [opsK_prod (by rw [quo_len]; exact hk), opsK_quo hk, opsK_quo hk]
   generalize A.getD k default = f at *
   have hj := mapI_lt (m := (lstN p n).length * (lstN q n).length) hn (fun x hx => pair_lt hn h1 h2 hx) f.ar.toNat i
   have hb := ((hA f hf).2.2.2 i hi).2
   have g1 := quo_hom hn hp hA cp hf hi
   have g2 := quo_hom hn hq hA cq hf hi
   have z1 := ((quo_in hn hp hA (quoF n p f) (List.mem_map.2 ⟨f, hf, rfl⟩)).2.2.2 _ (mapI_lt hn h1 f.ar.toNat i)).1
   have z2 := ((quo_in hn hq hA (quoF n q f) (List.mem_map.2 ⟨f, hf, rfl⟩)).2.2.2 _ (mapI_lt hn h2 f.ar.toNat i)).1
   show nmN p (bk f.tb i) * (lstN q n).length + nmN q (bk f.tb i) = bk (prodT _ _ _ _ _ _) _
   rw [prodT_bk (by exact hj)]
   unfold prodC
   rw [show (quoF n p f).ar = f.ar from rfl, mapI_facQ hn h1 h2, mapI_facR hn h1 h2, Int.toNat_natCast, Int.toNat_natCast, g1, g2]
   unfold bk
   generalize (quoF n p f).tb.getD _ 0 = u at *
   generalize (quoF n q f).tb.getD _ 0 = v at *
   obtain ⟨u, rfl⟩ := Int.eq_ofNat_of_zero_le z1
   obtain ⟨v, rfl⟩ := Int.eq_ofNat_of_zero_le z2
   rw [Int.toNat_natCast, Int.toNat_natCast, ← Int.natCast_mul, ← Int.natCast_add, Int.toNat_natCast]
end Go.Proofs.YtepjlgilopfnpaaGreat
/- The reference's draw of an algebra, with what is known of its size. -/
namespace Go.Proofs.YtepjlgilopfnpaaGreat
open Go Go.Pv Go.Proofs
set_option maxHeartbeats 32000000
set_option maxRecDepth 100000

def szN (n : Int) : Prop := (0 ≤ n ∧ n ≤ 5) ∨ n = 9
theorem knownB_c (k : Int) : ∃ n ops, smA ops ∧ szN n ∧ PCalls Tryz.prog 142 [I k] (algP n ops) := by
 by_cases h : k < 0 ∨ 16 ≤ k
 · refine ⟨2, [], smA_nil, .inl ⟨by decide, by decide⟩, ?_⟩
   exact pcalls_le2 (knownX_c k h) (agg2_le (PV.le_nil 2))
 have h16 : k = 0 ∨ k = 1 ∨ k = 2 ∨ k = 3 ∨ k = 4 ∨ k = 5 ∨ k = 6 ∨ k = 7 ∨ k = 8 ∨ k = 9 ∨ k = 10 ∨ k = 11 ∨ k = 12 ∨ k = 13 ∨ k = 14 ∨ k = 15 := by omega
 rcases h16 with rfl | rfl | rfl | rfl | rfl | rfl | rfl | rfl | rfl | rfl | rfl | rfl | rfl | rfl | rfl | rfl
 · exact ⟨_, _, smA_cons (smA_nil) (by decide) (by rw [binL_len]; decide), .inl ⟨by decide, by decide⟩, known0_c⟩
 · exact ⟨_, _, smA_cons (smA_cons (smA_nil) (by decide) (by rw [binL_len]; decide)) (by decide) (by rw [binL_len]; decide), .inl ⟨by decide, by decide⟩, known1_c⟩
 · exact ⟨_, _, smA_cons (smA_cons (smA_cons (smA_nil) (by decide) (by decide)) (by decide) (by rw [binL_len]; decide)) (by decide) (by rw [binL_len]; decide), .inl ⟨by decide, by decide⟩, known2_c⟩
 · exact ⟨_, _, smA_cons (smA_nil) (by decide) (by rw [affL_len]; decide), .inl ⟨by decide, by decide⟩, known3_c⟩
 · exact ⟨_, _, smA_cons (smA_nil) (by decide) (by rw [binL_len]; decide), .inl ⟨by decide, by decide⟩, known4_c⟩
 · exact ⟨_, _, smA_cons (smA_nil) (by decide) (by rw [binL_len]; decide), .inl ⟨by decide, by decide⟩, known5_c⟩
 · exact ⟨_, _, smA_cons (smA_nil) (by decide) (by rw [binL_len]; decide), .inl ⟨by decide, by decide⟩, known6_c⟩
 · exact ⟨_, _, smA_cons (smA_cons (smA_nil) (by decide) (by rw [binL_len]; decide)) (by decide) (by rw [binL_len]; decide), .inl ⟨by decide, by decide⟩, known7_c⟩
 · exact ⟨_, _, smA_cons (smA_nil) (by decide) (by decide), .inl ⟨by decide, by decide⟩, known8_c⟩
 · exact ⟨_, _, smA_cons (smA_nil) (by decide) (by decide), .inl ⟨by decide, by decide⟩, known9_c⟩
 · exact ⟨_, _, smA_cons (smA_nil) (by decide) (by rw [binL_len]; decide), .inl ⟨by decide, by decide⟩, known10_c⟩
 · exact ⟨_, _, smA_cons (smA_cons (smA_nil) (by decide) (by rw [binL_len]; decide)) (by decide) (by rw [binL_len]; decide), .inl ⟨by decide, by decide⟩, known11_c⟩
 · exact ⟨_, _, smA_cons (smA_nil) (by decide) (by rw [binL_len]; decide), .inl ⟨by decide, by decide⟩, known12_c⟩
 · exact ⟨_, _, smA_cons (smA_cons (smA_nil) (by decide) (by decide)) (by decide) (by decide), .inl ⟨by decide, by decide⟩, known13_c⟩
 · exact ⟨_, _, smA_cons (smA_nil) (by decide) (by rw [binL_len]; decide), .inl ⟨by decide, by decide⟩, known14_c⟩
 · exact ⟨_, _, smA_cons (smA_nil) (by decide) (by rw [affL_len]; decide), .inl ⟨by decide, by decide⟩, known15_c⟩
theorem algEnd_exB {n : Nat} {c : Cu} {M : Int} (h : c.ok M) (hM : M ≤ 900000) (hn : n = 2 ∨ n = 3 ∨ n = 4) (f : OpD) (l : List OpD) (hl : l.length ≤ 1) (ht : ∀ g ∈ f :: l, g.tb.length ≤ 27) (ht1 : 1 ≤ f.tb.length) (y : Int) :
 ∃ n' ops' c', AlgEnd n c (f :: l) y n' ops' c' ∧ c'.ok (M + 20) ∧ smA ops' ∧ szN n' := by
 have hzn : szN (n : Int) := .inl ⟨by omega, by omega⟩
 have hf := ht f (List.mem_cons_self ..)
 have hl' : ∀ g ∈ l, g.tb.length ≤ 30 := fun g hg => Nat.le_trans (ht g (List.mem_cons_of_mem _ hg)) (by decide)
 have sm0 : ∀ g : OpD, g.tb.length ≤ 30 → smA (g :: l) := fun g hg => smA_app (by rw [List.length_cons]; omega) fun x hx => by
  rcases List.mem_cons.1 hx with rfl | hx
  · exact hg
  · exact hl' x hx
 by_cases y0 : y = 0
 · obtain ⟨c', z, k1, hz, hc⟩ := among_L h (by omega) [0, 9, (n : Int) + 1] (by simp) (by simp)
   simp only [List.mem_cons, List.not_mem_nil, or_false] at hz
   exact ⟨z, _, c', .size z c' y0 hc, k1.up (by omega), sm0 f (by omega), by unfold szN; omega⟩
 by_cases y1 : y = 1
 · exact ⟨_, _, _, .more f l y1 rfl, h.up (by omega), sm0 _ (by simp; omega), hzn⟩
 by_cases y2 : y = 2
 · obtain ⟨c1, p, k1, p0, p1, hc1⟩ := pick_L h (by omega) (f.tb.length : Int) (by omega)
   obtain ⟨c', v, k2, -, hc2⟩ := among_L k1 (by omega) [-1, (n : Int)] (by simp) (by simp)
   exact ⟨_, _, _, .cell f l p v c1 c' y2 rfl p0 (by omega) hc1 hc2, k2.up (by omega), sm0 _ (by simp; omega), hzn⟩
 by_cases y3 : y = 3
 · obtain ⟨c', v, k1, -, hc⟩ := among_L h (by omega) [-1, 4] (by simp) (by simp)
   exact ⟨_, _, _, .ar f l v c' y3 rfl hc, k1.up (by omega), sm0 _ (by simp; omega), hzn⟩
 by_cases y4 : y = 4
 · obtain ⟨E, E0, E1, E2⟩ := seq_of (fun t (s : Cu × Int) => s.1.ok (M + 2 * (t : Int)) ∧ 0 ≤ s.2 ∧ s.2 ≤ 1) (fun t s s' => LCalls Tryz.prog 135 (cuB s.1) [.hat 0 0, I 2] (cuB s'.1) (I s'.2)) ((c, 0) : Cu × Int) 6 ⟨by simpa using h, Int.le_refl _, Int.zero_le_ofNat 1⟩ fun t s ht ⟨k0, _, _⟩ => by
    obtain ⟨c', x, k1, x0, x1, hc⟩ := pick_L k0 (by omega) 2 (by omega)
    exact ⟨(c', x), ⟨by rw [show M + 2 * ((t + 1 : Nat) : Int) = M + 2 * (t : Int) + 2 by omega]; exact k1, x0, by omega⟩, hc⟩
   have hE : ∀ t, t < 6 → 0 ≤ (E (t + 1)).2 ∧ (E (t + 1)).2 ≤ 1 := fun t ht => (E1 (t + 1) (by omega)).2
   obtain ⟨R, hR, hR1, hR2⟩ : ∃ R, R ≤ 5 ∧ (∀ t, t < R → (((f :: l).length + t : Nat) : Int) < 4 + (E (t + 1)).2) ∧ ¬ (((f :: l).length + R : Nat) : Int) < 4 + (E (R + 1)).2 := by
    have hex : ∃ R, ¬ (((f :: l).length + R : Nat) : Int) < 4 + (E (R + 1)).2 ∧ R ≤ 5 := ⟨5, by have := hE 5 (by decide); rw [List.length_cons]; omega, Nat.le_refl _⟩
    obtain ⟨R, ⟨r1, r2⟩, r3⟩ := least_of hex
    exact ⟨R, r2, fun t ht => Classical.byContradiction fun hh => r3 t ht ⟨hh, by omega⟩, r1⟩
   have hlen : (f :: l).length ≤ 2 := by rw [List.length_cons]; omega
   refine ⟨_, _, _, .fill E R y4 (by rw [E0]) hR (fun t ht => E2 t (by omega)) (fun t ht => hE t (by omega)) hR1 hR2, (E1 (R + 1) (by omega)).1.up (by omega), ?_, hzn⟩
   have hRR : (f :: l).length + R ≤ 6 := by
    rcases Nat.eq_zero_or_pos R with rfl | hp
    · omega
    · have := hR1 (R - 1) (by omega); have := hE (R - 1) (by omega); omega
   refine smA_app (by rw [List.length_append, List.length_replicate]; exact hRR) fun g hg => ?_
   rcases List.mem_append.1 hg with hg | hg
   · exact Nat.le_trans (ht g hg) (by decide)
   · rw [(List.mem_replicate.1 hg).2, List.length_replicate]; omega
 · exact ⟨_, _, _, .none (by omega), h.up (by omega), sm0 f (by omega), hzn⟩
theorem algebra_B {c : Cu} {M : Int} (h : c.ok M) (hM : M ≤ 600000) : ∃ c' n ops, c'.ok (M + 1000) ∧ smA ops ∧ szN n ∧ LCalls Tryz.prog 85 (cuB c) [.hat 0 0] (cuB c') (algP n ops) := by
 obtain ⟨c1, b, k1, h1⟩ := one_L h (by omega) 4 (by decide)
 cases b with
 | false =>
  obtain ⟨c2, x, k2, -, -, h2⟩ := pick_L k1 (by omega) 17 (by decide)
  obtain ⟨n, ops, hs, hz, h3⟩ := knownB_c x
  exact ⟨c2, n, ops, k2.up (by omega), hs, hz, alg_w0 h1 h2 h3⟩
 | true =>
  obtain ⟨c2, x, k2, hx, h2⟩ := among_L k1 (by omega) [2, 2, 3, 3, 4] (by decide) (by decide)
  obtain ⟨n, rfl, hn⟩ : ∃ n : Nat, x = (n : Int) ∧ (n = 2 ∨ n = 3 ∨ n = 4) := by
   simp only [List.mem_cons, List.not_mem_nil, or_false] at hx
   exact ⟨x.toNat, by omega, by omega⟩
  obtain ⟨c3, y, k3, hy, h3⟩ := among_L k2 (by omega) [1, 1, 2] (by decide) (by decide)
  obtain ⟨K, rfl, hK⟩ : ∃ n : Nat, y = (n : Int) ∧ (n = 1 ∨ n = 2) := by
   simp only [List.mem_cons, List.not_mem_nil, or_false] at hy
   exact ⟨y.toNat, by omega, by omega⟩
  obtain ⟨D, D0, D1, D2⟩ := seq_of (fun i (s : Cu × List OpD) => s.1.ok (M + 6 + 100 * (i : Int)) ∧ s.2.length = i ∧ ∀ f ∈ s.2, 1 ≤ f.tb.length ∧ f.tb.length ≤ 27)
   (fun i s s' => ∃ f c', Nonempty (OpDr n s.1 f c') ∧ 1 ≤ f.tb.length ∧ f.tb.length ≤ 27 ∧ s' = (c', s.2 ++ [f])) ((c3, []) : Cu × List OpD) K ⟨k3.up (by omega), rfl, fun f hf => by simp at hf⟩ fun i s hi ⟨s1, s2, s3⟩ => by
    obtain ⟨f, c', hN, hc, t1, t2⟩ := opdr_ex s1 (by omega) hn
    refine ⟨(c', s.2 ++ [f]), ⟨by rw [show M + 6 + 100 * ((i + 1 : Nat) : Int) = M + 6 + 100 * (i : Int) + 100 by omega]; exact hc, by simp [s2], fun g hg => ?_⟩, f, c', hN, t1, t2, rfl⟩
    rcases List.mem_append.1 hg with hg | hg
    · exact s3 g hg
    · rw [List.mem_singleton] at hg; subst hg; exact ⟨t1, t2⟩
  obtain ⟨q1, q2, q3⟩ := D1 K (Nat.le_refl _)
  obtain ⟨c5, z, k5, -, -, h4⟩ := pick_L q1 (by omega) 16 (by decide)
  obtain ⟨f, l, hfl⟩ : ∃ f l, (D K).2 = f :: l := by
   cases hd : (D K).2 with
   | nil => rw [hd] at q2; simp at q2; omega
   | cons f l => exact ⟨f, l, rfl⟩
  obtain ⟨n', ops', c', e1, e2, e3, e4⟩ := algEnd_exB k5 (by omega) hn f l (by rw [hfl] at q2; simp at q2; omega) (fun g hg => (q3 g (by rw [hfl]; exact hg)).2) (q3 f (by rw [hfl]; exact List.mem_cons_self ..)).1 z
  exact ⟨c', n', ops', e2.up (by omega), e3, e4, alg_w hn hK h1 h2 h3 D0 D2 (fun i hi => (D1 i hi).2.1) (fun i hi f hf => ((D1 i hi).2.2 f hf).2) h4 (by rw [hfl]; exact e1)⟩
end Go.Proofs.YtepjlgilopfnpaaGreat
