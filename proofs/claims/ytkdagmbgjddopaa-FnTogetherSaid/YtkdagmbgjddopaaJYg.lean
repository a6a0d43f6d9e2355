/- Plain: products of algebras. -/
import Derived.Test.YtkdagmbgjddopaaJKh
import Derived.Test.YtkdagmbgjddopaaJKb
import Derived.Test.YtkdagmbgjddopaaJYq
import Derived.Test.YtkdagmbgjddopaaJZb
namespace Go.Proofs.Ytkdagmbgjddopaa
open Go Go.Pv Go.Proofs

def facQ (N m k i : Nat) : List Int := (argsL N k i).map fun x => x / (m : Int)
def facR (N m k i : Nat) : List Int := (argsL N k i).map fun x => x % (m : Int)
def prodC (N n m : Nat) (f g : OpD) (i : Nat) : Int := f.tb.getD (idxL n (facQ N m f.ar.toNat i)).toNat 0 * m + g.tb.getD (idxL m (facR N m f.ar.toNat i)).toNat 0
def prodT (N n m : Nat) (f g : OpD) (k : Nat) : List Int := (List.range k).map (prodC N n m f g)
def prodF (N n m : Nat) (f g : OpD) : OpD := ⟨f.ar, prodT N n m f g (N ^ f.ar.toNat)⟩
def prodK (N n m : Nat) (A B : List OpD) (k : Nat) : List OpD := (List.range k).map fun i => prodF N n m (A.getD i default) (B.getD i default)
def prodL (n m : Nat) (A B : List OpD) : List OpD := prodK (n * m) n m A B A.length
def sameT (A B : List OpD) : Prop := A.map (fun f => f.ar) = B.map (fun f => f.ar)
theorem sameT.len {A B : List OpD} (h : sameT A B) : A.length = B.length := by
  have := congrArg List.length h
  simpa using this
theorem sameT.at {A B : List OpD} (h : sameT A B) (i : Nat) : (A.getD i default).ar = (B.getD i default).ar := by
  have h1 : (A.map (fun f => f.ar)).getD i (default : OpD).ar = (B.map (fun f => f.ar)).getD i (default : OpD).ar := by rw [h]
  simp only [List.getD_eq_getElem?_getD, List.getElem?_map] at h1 ⊢
  cases ha : A[i]? <;> cases hb : B[i]? <;> simp_all
theorem facQ_len (N m k i : Nat) : (facQ N m k i).length = k := by unfold facQ; rw [List.length_map, argsL_len]
theorem facR_len (N m k i : Nat) : (facR N m k i).length = k := by unfold facR; rw [List.length_map, argsL_len]
theorem facQ_in {n m : Nat} (hn : 0 < n) (hm : 0 < m) (k i : Nat) : ∀ x ∈ facQ (n * m) m k i, 0 ≤ x ∧ x < (n : Int) := fun x hx => by
  obtain ⟨y, hy, rfl⟩ := List.mem_map.1 hx
  obtain ⟨y0, y1⟩ := argsL_in (Nat.mul_pos hn hm) k i y hy
  refine ⟨Int.ediv_nonneg y0 (by omega), Int.ediv_lt_of_lt_mul (by omega) ?_⟩
  rw [Int.natCast_mul] at y1; exact y1
theorem facR_in {n m : Nat} (hm : 0 < m) (k i : Nat) : ∀ x ∈ facR (n * m) m k i, 0 ≤ x ∧ x < (m : Int) := fun x hx => by
  obtain ⟨y, -, rfl⟩ := List.mem_map.1 hx
  exact ⟨Int.emod_nonneg _ (by omega), Int.emod_lt_of_pos _ (by omega)⟩
theorem tb_in {n : Nat} {f : OpD} (h : 0 ≤ f.ar ∧ f.ar ≤ 3 ∧ f.tb.length = n ^ f.ar.toNat ∧ ∀ i, i < n ^ f.ar.toNat → 0 ≤ f.tb.getD i 0 ∧ bk f.tb i < n) {l : List Int} (hl : l.length = f.ar.toNat) (hx : ∀ x ∈ l, 0 ≤ x ∧ x < (n : Int)) :
    0 ≤ f.tb.getD (idxL n l).toNat 0 ∧ f.tb.getD (idxL n l).toNat 0 < (n : Int) := by
  have hb := idxL_bound l hx
  rw [hl] at hb
  obtain ⟨h0, h1⟩ := h.2.2.2 (idxL n l).toNat (by omega)
  unfold bk at h1
  omega
theorem prodC_in {n m : Nat} (hn : 0 < n) (hm : 0 < m) {f g : OpD} (hf : 0 ≤ f.ar ∧ f.ar ≤ 3 ∧ f.tb.length = n ^ f.ar.toNat ∧ ∀ i, i < n ^ f.ar.toNat → 0 ≤ f.tb.getD i 0 ∧ bk f.tb i < n) (hg : 0 ≤ g.ar ∧ g.ar ≤ 3 ∧ g.tb.length = m ^ g.ar.toNat ∧ ∀ i, i < m ^ g.ar.toNat → 0 ≤ g.tb.getD i 0 ∧ bk g.tb i < m) (he : f.ar = g.ar) (i : Nat) :
    0 ≤ prodC (n * m) n m f g i ∧ prodC (n * m) n m f g i < ((n * m : Nat) : Int) := by
  obtain ⟨a0, a1⟩ := tb_in hf (facQ_len (n * m) m f.ar.toNat i) (facQ_in hn hm _ i)
  obtain ⟨b0, b1⟩ := tb_in hg (l := facR (n * m) m f.ar.toNat i) (by rw [facR_len, he]) (facR_in hm _ i)
  unfold prodC
  generalize f.tb.getD _ 0 = a at *
  generalize g.tb.getD _ 0 = b at *
  have h1 : 0 ≤ a * (m : Int) := Int.mul_nonneg a0 (by omega)
  have h2 : (a + 1) * (m : Int) ≤ (n : Int) * (m : Int) := Int.mul_le_mul_of_nonneg_right (by omega) (by omega)
  rw [Int.add_mul, Int.one_mul] at h2
  rw [Int.natCast_mul]
  omega
theorem prodK_succ (N n m : Nat) (A B : List OpD) (k : Nat) : prodK N n m A B (k + 1) = prodK N n m A B k ++ [prodF N n m (A.getD k default) (B.getD k default)] := by
  unfold prodK; rw [List.range_succ, List.map_append]; rfl
theorem prodT_succ (N n m : Nat) (f g : OpD) (k : Nat) : prodT N n m f g (k + 1) = prodT N n m f g k ++ [prodC N n m f g k] := by
  unfold prodT; rw [List.range_succ, List.map_append]; rfl
theorem prodK_len (N n m : Nat) (A B : List OpD) (k : Nat) : (prodK N n m A B k).length = k := by simp [prodK]
theorem prodT_len (N n m : Nat) (f g : OpD) (k : Nat) : (prodT N n m f g k).length = k := by simp [prodT]
theorem prod_in {n m : Nat} {A B : List OpD} (hn : 0 < n) (hm : 0 < m) (hA : opsIn n A) (hB : opsIn m B) (ht : sameT A B) : opsIn (n * m) (prodL n m A B) := fun F hF => by
  obtain ⟨i, hi, rfl⟩ := List.mem_map.1 hF
  have hi := List.mem_range.1 hi
  have hfa := hA _ (opsK_mem hi)
  have hfb := hB _ (opsK_mem (by rw [← ht.len]; exact hi))
  refine ⟨hfa.1, hfa.2.1, ?_, fun j hj => ?_⟩
  · show (prodT _ _ _ _ _ _).length = _
    rw [prodT_len]; rfl
  · have hj : j < (n * m) ^ (A.getD i default).ar.toNat := hj
    show 0 ≤ (prodT _ _ _ _ _ _).getD j 0 ∧ bk (prodT _ _ _ _ _ _) j < _
    have e : (prodT (n * m) n m (A.getD i default) (B.getD i default) ((n * m) ^ (A.getD i default).ar.toNat)).getD j 0 = prodC (n * m) n m (A.getD i default) (B.getD i default) j := by
      unfold prodT; rw [List.getD_eq_getElem?_getD, List.getElem?_map, List.getElem?_range hj]; rfl
    have := prodC_in hn hm hfa hfb (ht.at i) j
    unfold bk
    rw [e]; omega
theorem prod_type {n m : Nat} {A B : List OpD} : (prodL n m A B).map (fun f => f.ar) = A.map fun f => f.ar := by
  refine List.ext_getElem (by simp [prodL, prodK]) fun i h1 h2 => ?_
  simp [prodL, prodK, prodF, List.getD_eq_getElem?_getD]
  rw [List.getElem?_eq_getElem (by simpa using h2)]; rfl
def oneL (A : List OpD) : List OpD := A.map fun f => ⟨f.ar, [0]⟩
theorem one_in {n : Nat} {A : List OpD} (hA : opsIn n A) : opsIn 1 (oneL A) := fun F hF => by
  obtain ⟨f, hf, rfl⟩ := List.mem_map.1 hF
  obtain ⟨h0, h1, -, -⟩ := hA f hf
  refine ⟨h0, h1, by rw [Nat.one_pow]; rfl, fun i hi => ?_⟩
  rw [Nat.one_pow] at hi
  obtain rfl : i = 0 := by omega
  exact ⟨Int.le_refl _, Nat.zero_lt_one⟩
theorem one_type (A : List OpD) : (oneL A).map (fun f => f.ar) = A.map fun f => f.ar := by
  unfold oneL; rw [List.map_map]; rfl
def powL (n : Nat) (A : List OpD) : Nat → List OpD
  | 0 => oneL A
  | k + 1 => prodL (n ^ k) n (powL n A k) A
theorem pow_facts {n : Nat} {A : List OpD} (hn : 0 < n) (hA : opsIn n A) : ∀ k, opsIn (n ^ k) (powL n A k) ∧ sameT (powL n A k) A
  | 0 => ⟨by rw [Nat.pow_zero]; exact one_in hA, one_type A⟩
  | k + 1 => by
    obtain ⟨h1, h2⟩ := pow_facts hn hA k
    refine ⟨?_, prod_type.trans h2⟩
    rw [Nat.pow_succ]
    exact prod_in (Nat.pow_pos hn) hn h1 hA h2
theorem opsIn_sz {n : Nat} {A : List OpD} (hn : n ≤ 8) (hA : opsIn n A) (hl : A.length ≤ 1048576) : szOk A := ⟨hl, fun f hf => by
  obtain ⟨-, h1, h2, -⟩ := hA f hf
  rw [h2]
  calc n ^ f.ar.toNat ≤ 8 ^ f.ar.toNat := Nat.pow_le_pow_left hn _
    _ ≤ 8 ^ 3 := Nat.pow_le_pow_right (by decide) (by omega)
    _ ≤ 1048576 := by decide⟩
end Go.Proofs.Ytkdagmbgjddopaa
/- The reference's draw of an algebra and four elements. -/
namespace Go.Proofs.Ytkdagmbgjddopaa
open Go Go.Pv Go.Proofs
set_option maxHeartbeats 32000000
set_option maxRecDepth 100000
attribute [local bitvec_to_nat] St.put St.setObj St.ev killP killA killP1 killH mapHO renP renA ren1 killG killGA killG1 krowP krowA krow1 lendP lendA lend1 unv pinP pin1 elemsM viewM viewN viewV n_set_z n_set_s n_map_c n_map_n getD_z getD_s n_toNat n_cond_t n_cond_f n_len_c n_len_n n_app_c n_app_n n_take_s n_take_z n_drop_s n_drop_z n_get_z n_get_s view viewA view1 elems Nat.zero_add Nat.add_zero Bool.not_true Bool.not_false Nat.one_ne_zero Nat.mul_one

theorem element_L {c : Cu} {M : Int} (h : c.ok M) (hM : M ≤ 900000) (n : Int) (ops : List OpD) (hn9 : n ≤ 9) : ∃ c' x, c'.ok (M + 4) ∧ LCalls Try.prog 26 (cuB c) [.hat 0 0, algP n ops] (cuB c') (I x) := by
  by_cases h1 : n < 1
  · obtain ⟨c1, x, k1, -, h2⟩ := among_L h (by omega) [-1, n] (by simp) (by simp)
    refine ⟨c1, x, k1.up (by omega), ?_⟩
    refine pcallsL1 Try.func26 rfl Try.ntmps26 rfl rfl rfl (by simp) fun b d => ?_
    simp only [List.length_cons, List.length_nil, Nat.reduceAdd, Nat.reduceSub, List.replicate_succ, List.replicate_zero]
    repeat' (first
| refine g_seq ?_
| refine zC ?_
| (refine o_go rfl ?_; (first
| refine p_p (ps_lits rfl (by exact rfl) (by exact rfl) aR (by decide) (by decide)) ?_
| refine p_e rfl (e_callL (n := 0) rfl rfl rfl aI rfl (by rfl) aM (h2)) ?_
| refine p_p (zD rfl) ?_
| refine p_p (zA rfl) ?_
| refine p_p (zF rfl rfl) ?_
| refine p_p (zS rfl rfl rfl) ?_
| refine p_p (zL rfl rfl) ?_
| refine p_p (zQ rfl rfl) ?_
| refine p_p (ps_box rfl rfl) ?_); refine ⟨_, aA, ?_⟩)
| refine o_nil ?_
| (refine o_s rfl ?_; refine ⟨_, aA, ?_⟩)
| (refine o_splitD rfl rfl rfl (fun hc => ?_) (fun hc => ?_) <;> first | (exfalso; omega) | dsimp only [List.set_cons_zero, List.set_cons_succ])
| refine zX rfl ?_
| refine g_ret ?_)
    all_goals first | exact krlh 0 0 rfl rfl rfl (krI rfl rfl) | (exfalso; omega)
  · obtain ⟨c1, b, k1, h2⟩ := one_L h (by omega) 24 (by decide)
    cases b with
    | true =>
      obtain ⟨c2, x, k2, -, h3⟩ := among_L k1 (by omega) [-1, n] (by simp) (by simp)
      refine ⟨c2, x, k2.up (by omega), ?_⟩
      refine pcallsL1 Try.func26 rfl Try.ntmps26 rfl rfl rfl (by simp) fun b d => ?_
      simp only [List.length_cons, List.length_nil, Nat.reduceAdd, Nat.reduceSub, List.replicate_succ, List.replicate_zero]
      repeat' (first
| refine g_seq ?_
| refine zC ?_
| (refine o_go rfl ?_; (first
| refine p_p (ps_lits rfl (by exact rfl) (by exact rfl) aR (by decide) (by decide)) ?_
| refine p_e rfl (e_callL (n := 0) rfl rfl rfl aI rfl (by rfl) aM (h2)) ?_
| refine p_e rfl (e_callL (n := 0) rfl rfl rfl aI rfl (by rfl) aM (h3)) ?_
| refine p_p (zD rfl) ?_
| refine p_p (zA rfl) ?_
| refine p_p (zF rfl rfl) ?_
| refine p_p (zS rfl rfl rfl) ?_
| refine p_p (zL rfl rfl) ?_
| refine p_p (zQ rfl rfl) ?_
| refine p_p (ps_box rfl rfl) ?_); refine ⟨_, aA, ?_⟩)
| refine o_nil ?_
| (refine o_splitD rfl rfl rfl (fun hc => ?_) (fun hc => ?_) <;> first | (exfalso; omega) | dsimp only [List.set_cons_zero, List.set_cons_succ])
| refine zX rfl ?_
| refine g_ret ?_)
      all_goals first | exact krlh 0 0 rfl rfl rfl (krI rfl rfl) | (exfalso; omega)
    | false =>
      obtain ⟨c2, x, k2, -, -, h3⟩ := pick_L k1 (by omega) n (by omega)
      refine ⟨c2, x, k2.up (by omega), ?_⟩
      refine pcallsL1 Try.func26 rfl Try.ntmps26 rfl rfl rfl (by simp) fun b d => ?_
      simp only [List.length_cons, List.length_nil, Nat.reduceAdd, Nat.reduceSub, List.replicate_succ, List.replicate_zero]
      repeat' (first
| refine g_seq ?_
| refine zC ?_
| (refine o_go rfl ?_; (first
| refine p_e rfl (e_callL (n := 0) rfl rfl rfl aI rfl (by rfl) aM (h2)) ?_
| refine p_e rfl (e_callL (n := 0) rfl rfl rfl aI rfl (by rfl) aM (h3)) ?_
| refine p_p (zD rfl) ?_
| refine p_p (zA rfl) ?_
| refine p_p (zF rfl rfl) ?_
| refine p_p (zS rfl rfl rfl) ?_
| refine p_p (zL rfl rfl) ?_
| refine p_p (zQ rfl rfl) ?_
| refine p_p (ps_box rfl rfl) ?_); refine ⟨_, aA, ?_⟩)
| refine o_nil ?_
| (refine o_splitD rfl rfl rfl (fun hc => ?_) (fun hc => ?_) <;> first | (exfalso; omega) | dsimp only [List.set_cons_zero, List.set_cons_succ])
| refine zW rfl ?_
| refine zR ?_
| refine g_ret ?_)
      all_goals first | exact krlh 0 0 rfl rfl rfl (krI rfl rfl) | (exfalso; omega)
end Go.Proofs.Ytkdagmbgjddopaa
