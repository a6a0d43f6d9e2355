/- Walks: pushes and closures, the reference's side. -/
import Derived.Test.YtnjocjfhaahmfaaGreatJKd
import Derived.Test.YtnjocjfhaahmfaaGreatJHk
namespace Go.Proofs.YtnjocjfhaahmfaaGreat
open Go Go.Pv Go.Proofs
set_option maxHeartbeats 32000000
set_option maxRecDepth 100000
attribute [local bitvec_to_nat] St.put St.setObj St.ev killP killA killP1 killH mapHO renP renA ren1 killG killGA killG1 krowP krowA krow1 lendP lendA lend1 unv pinP pin1 elemsM viewM viewN viewV n_set_z n_set_s n_map_c n_map_n getD_z getD_s n_toNat n_cond_t n_cond_f n_len_c n_len_n n_app_c n_app_n n_take_s n_take_z n_drop_s n_drop_z n_get_z n_get_s view viewA view1 elems Nat.zero_add Nat.add_zero Bool.not_true Bool.not_false Nat.one_ne_zero Nat.mul_one

theorem dig_lt {n : Nat} (hn : 0 < n) (i j : Nat) : digN n i j < n := Nat.mod_lt _ hn
theorem tb_val {n : Nat} {ops : List OpD} (ho : opsIn n ops) {f : OpD} (hf : f ∈ ops) {i : Nat} (hi : i < n ^ f.ar.toNat) : f.tb.getD i 0 = (bk f.tb i : Int) := by
  have := ((ho f hf).2.2.2 i hi).1; unfold bk; omega
theorem set_in {n : Nat} {l : List Int} {k : Nat} {v : Int} (h : ∀ x ∈ l, 0 ≤ x ∧ x < (n : Int)) (h0 : 0 ≤ v) (h1 : v < (n : Int)) : ∀ x ∈ l.set k v, 0 ≤ x ∧ x < (n : Int) := fun x hx => by
  rcases List.mem_or_eq_of_mem_set hx with hx | rfl
  · exact h x hx
  · exact ⟨h0, h1⟩
theorem ints_set {l : List Int} {k : Nat} {v : Int} : ints (l.set k v) = .sl 1 none ((l.map I).set (k * 1) (I v)) := by
  show PV.sl 1 none ((l.set k v).map I) = _
  rw [List.map_set, Nat.mul_one]
theorem spush_c (n : Nat) (ops : List OpD) (p : List Int) (hn0 : 0 < n) (hn : n ≤ 8) (hl : ops.length ≤ 1048576) (ho : opsIn n ops) (hp : Pt n p) : PCalls Tryz.prog 236 [algP n ops, ints p] (ints (pushL n ops p)) := by
  refine pcalls1 Tryz.func236 rfl Tryz.ntmps236 rfl ?_
  refine wF ?_
  have hpl := hp.len
  have h1 := sown_c p (by omega)
  repeat' (first
| refine wO ?_
| (refine o_go rfl ?_; (first
| refine p_p (zG rfl rfl aB (h1)) ?_
| refine wS ?_
| refine p_p (ps_box rfl rfl) ?_); refine ⟨_, aA, ?_⟩))
  refine g_loopT (α := Nat) (fun o => [(5, ints (foldU ((ops.take o).flatMap (stpsF n p)) p)), (6, I (o : Int))]) (fun _ => []) (fun o => o ≤ ops.length) (fun o => ops.length - o) 0 aF (Nat.zero_le _) ⟨rfl, rfl, trivial⟩ rfl ?_
  rintro o hol
  dsimp only [zZ, List.set_cons_zero, List.set_cons_succ]
  by_cases hoi : o < ops.length
  · have hq := opsK_at hoi
    have hfm := opsK_mem hoi
    have hsn : foldU ((ops.take (o + 1)).flatMap (stpsF n p)) p = foldU (stpsF n p (ops.getD o default)) (foldU ((ops.take o).flatMap (stpsF n p)) p) := by
      rw [take_snoc default hoi, List.flatMap_append, foldU_app]; simp
    have hP0 : (foldU ((ops.take o).flatMap (stpsF n p)) p).length = n := by rw [foldU_len]; exact hpl
    obtain ⟨ha0, ha3, htl, -⟩ := ho _ hfm
    generalize hf : ops.getD o default = f at *
    generalize foldU ((ops.take o).flatMap (stpsF n p)) p = P0 at *
    obtain ⟨a, ha⟩ : ∃ a : Nat, f.ar = a := ⟨f.ar.toNat, by omega⟩
    have haa : f.ar.toNat = a := by omega
    have hpw := pow_le3 (show n ≤ 1000 by omega) (show a ≤ 3 by omega)
    rw [haa] at htl
    repeat' (first
| refine wO ?_
| (refine o_go rfl ?_; (first
| refine wS ?_); refine ⟨_, aA, ?_⟩)
| (refine zK rfl (fun hc => ?_) (fun hc => ?_) <;> try (exfalso; omega))
| refine wE ?_)
    all_goals try (exfalso; omega)
    refine g_loopT (α := Nat) (fun i => [(5, ints (foldU ((List.range i).flatMap (stpsI n p f)) P0)), (7, I (i : Int))]) (fun _ => []) (fun i => i ≤ n ^ a) (fun i => n ^ a - i) 0 aF (Nat.zero_le _) ⟨rfl, rfl, trivial⟩ rfl ?_
    rintro i hi
    dsimp only [zZ, List.set_cons_zero, List.set_cons_succ]
    by_cases hil : i < n ^ a
    · have hs2 : foldU ((List.range (i + 1)).flatMap (stpsI n p f)) P0 = foldU (stpsI n p f i) (foldU ((List.range i).flatMap (stpsI n p f)) P0) := by
        rw [List.range_succ, List.flatMap_append, foldU_app]; simp
      have hP1 : (foldU ((List.range i).flatMap (stpsI n p f)) P0).length = n := by rw [foldU_len]; exact hP0
      generalize foldU ((List.range i).flatMap (stpsI n p f)) P0 = P1 at *
      have h2 := sargs_c n a i hn0 (by omega) (by omega) (by omega)
      rw [← ha] at h2
      have hal := argsL_len n a i
      have hain := argsL_in hn0 a i
      repeat' (first
| refine wO ?_
| refine zP (by kernel_rfl) (by kernel_rfl) ?_
| (refine o_go rfl ?_; (first
| refine p_p (zG rfl rfl aB (h2)) ?_
| refine p_p (zN rfl rfl rfl (by omega) hq (by exact rfl)) ?_
| refine wS ?_); refine ⟨_, aA, ?_⟩)
| (refine zK rfl (fun hc => ?_) (fun hc => ?_) <;> try (exfalso; omega))
| refine wE ?_)
      all_goals try (exfalso; omega)
      refine g_loopT (α := Nat) (fun k => [(5, ints (foldU ((List.range k).map (stpF n p f i)) P1)), (9, I (k : Int))]) (fun _ => []) (fun k => k ≤ a) (fun k => a - k) 0 aF (Nat.zero_le _) ⟨rfl, rfl, trivial⟩ rfl ?_
      rintro k hk
      dsimp only [zZ, List.set_cons_zero, List.set_cons_succ]
      by_cases hka : k < a
      · have hdl := dig_lt hn0 i (a - 1 - k)
        have hbl := hp.lt hdl
        have hix1 : ((argsL n a i).map I)[((k : Nat) : Int).toNat]? = some (I (digN n i (a - 1 - k) : Int)) := by rw [← args_at a i k hka]; exact idx_I (by omega)
        have hix2 : (p.map I)[((digN n i (a - 1 - k) : Nat) : Int).toNat]? = some (I (bk p (digN n i (a - 1 - k)) : Int)) := by rw [← hp.val hdl]; exact idx_I (by omega)
        have hix3 : (f.tb.map I)[((i : Nat) : Int).toNat]? = some (I (bk f.tb i : Int)) := by rw [← tb_val ho hfm (by rw [haa]; exact hil)]; exact idx_I (by omega)
        have hsl := sub_lt hil (show a - 1 - k < a by omega) hbl
        have hval := sval_c n ops o ((argsL n a i).set k (bk p (digN n i (a - 1 - k)) : Int)) hn hl hoi (by rw [List.length_set]; omega) (set_in hain (by omega) (by omega)) (by rw [List.length_set, hf, hal]; exact htl)
        rw [idx_set hn0 a i k _ hka hil, hf, Int.toNat_natCast, tb_val ho hfm (by rw [haa]; exact hsl), ints_set] at hval
        have hst : stpF n p f i k = (bk f.tb i, bk f.tb (subN n i (a - 1 - k) (bk p (digN n i (a - 1 - k))))) := by unfold stpF; rw [haa]
        have hlt := (stp_lt hn0 ho hp hfm (by rw [haa]; exact hil) (by rw [haa]; exact hka) : (stpF n p f i k).1 < n ∧ (stpF n p f i k).2 < n)
        rw [hst] at hlt
        have hun := sun_c (foldU ((List.range k).map (stpF n p f i)) P1) (bk f.tb i) (bk f.tb (subN n i (a - 1 - k) (bk p (digN n i (a - 1 - k))))) (by rw [foldU_len]; omega) (by rw [foldU_len]; omega) (by rw [foldU_len]; omega)
        have hs3 : foldU ((List.range (k + 1)).map (stpF n p f i)) P1 = unL (foldU ((List.range k).map (stpF n p f i)) P1) (bk f.tb i) (bk f.tb (subN n i (a - 1 - k) (bk p (digN n i (a - 1 - k))))) := by
          rw [range_snoc, foldU_app, hst]; rfl
        rw [← hs3] at hun
        repeat' (first
| refine wO ?_
| refine zP (by kernel_rfl) (by kernel_rfl) ?_
| (refine o_go rfl ?_; (first
| refine p_e rfl (e_callR rfl rfl aB rfl (own_R _ (by rw [argsL_len]; omega))) ?_
| refine p_p (zN rfl rfl rfl (by omega) hix1 (by exact rfl)) ?_
| refine p_p (zN rfl rfl rfl (by omega) hix2 (by exact rfl)) ?_
| refine p_e (by kernel_rfl) (e_store_arr rfl rfl rfl rfl (by simp; omega) rfl rfl) ?_
| refine p_p (zN rfl rfl rfl (by omega) hq (by exact rfl)) ?_
| refine p_p (zN rfl rfl rfl (by omega) hix3 (by exact rfl)) ?_
| refine p_p (ps_callM rfl rfl aB (by rfl) (hval)) ?_
| refine p_p (zG rfl rfl aB (hun)) ?_
| refine wS ?_
| refine p_p (ps_load_agg rfl rfl aJ) ?_
| refine p_p (yA rfl rfl rfl rfl (by omega) aT) ?_); refine ⟨_, aA, ?_⟩)
| (refine zK rfl (fun hc => ?_) (fun hc => ?_) <;> try (exfalso; omega))
| refine wE ?_)
        all_goals try (exfalso; omega)
        exact zT (k + 1) (by omega) (by omega) aI ⟨rfl, rfl, trivial⟩ (zM _)
      · repeat' (first
| refine wO ?_
| (refine o_go rfl ?_; (first
| refine wS ?_); refine ⟨_, aA, ?_⟩)
| (refine zK rfl (fun hc => ?_) (fun hc => ?_) <;> try (exfalso; omega))
| refine wE ?_)
        all_goals try (exfalso; omega)
        refine zT (i + 1) (by omega) (by omega) aI ⟨?_, rfl, trivial⟩ (zM _)
        rw [hs2, show k = a by omega]
        unfold stpsI
        rw [haa]; rfl
    · repeat' (first
| refine wO ?_
| (refine o_go rfl ?_; (first
| refine p_p (zN rfl rfl rfl (by omega) hq (by exact rfl)) ?_
| refine wS ?_); refine ⟨_, aA, ?_⟩)
| (refine zK rfl (fun hc => ?_) (fun hc => ?_) <;> try (exfalso; omega))
| refine wE ?_)
      all_goals try (exfalso; omega)
      refine zT (o + 1) (by omega) (by omega) aI ⟨?_, rfl, trivial⟩ (zM _)
      rw [hsn, show i = n ^ a by omega]
      unfold stpsF
      rw [haa]; rfl
  · repeat' (first
| refine wO ?_
| (refine o_go rfl ?_; (first
| refine wS ?_); refine ⟨_, aA, ?_⟩)
| (refine zK rfl (fun hc => ?_) (fun hc => ?_) <;> try (exfalso; omega))
| refine kr1 ?_
| refine krS rfl ?_
| refine wE ?_)
    all_goals try (exfalso; omega)
    rw [List.take_of_length_le (by omega)]; rfl
theorem iterP_len {n : Nat} {ops : List OpD} {p : List Int} (hn : 0 < n) (ho : opsIn n ops) (hp : Pt n p) (k : Nat) : Pt n (iterP n ops k p) := (iter_facts hn ho hp k).1
theorem iterP_succ (n : Nat) (ops : List OpD) : ∀ (k : Nat) (p : List Int), iterP n ops (k + 1) p = pushL n ops (iterP n ops k p) := by
  intro k p
  first
  | rfl
  | (induction k generalizing p with
     | zero => rfl
     | succ k ih => rw [show iterP n ops (k + 1 + 1) p = iterP n ops (k + 1) (pushL n ops p) from rfl, ih]; rfl)
theorem sclose_c (n : Nat) (ops : List OpD) (p : List Int) (hn0 : 0 < n) (hn : n ≤ 8) (hl : ops.length ≤ 1048576) (ho : opsIn n ops) (hp : Pt n p) : PCalls Tryz.prog 279 [algP n ops, ints p] (ints (closeL n ops p)) := by
  refine pcalls1 Tryz.func279 rfl Tryz.ntmps279 rfl ?_
  refine wF ?_
  repeat' (first
| refine wO ?_
| (refine o_go rfl ?_; (first
| refine wS ?_
| refine p_p (ps_box rfl rfl) ?_); refine ⟨_, aA, ?_⟩))
  refine g_loopT (α := Nat) (fun k => [(1, ints (iterP n ops k p)), (5, I (k : Int))]) (fun _ => []) (fun k => k ≤ n) (fun k => n - k) 0 aF (Nat.zero_le _) ⟨rfl, rfl, trivial⟩ rfl ?_
  rintro k hk
  dsimp only [zZ, List.set_cons_zero, List.set_cons_succ]
  by_cases hkn : k < n
  · have h1 := spush_c n ops (iterP n ops k p) hn0 hn hl ho (iterP_len hn0 ho hp k)
    rw [← iterP_succ] at h1
    repeat' (first
| refine wO ?_
| (refine o_go rfl ?_; (first
| refine p_p (zG rfl rfl aB (h1)) ?_
| refine wS ?_
| refine p_p (ps_load_agg rfl rfl aJ) ?_); refine ⟨_, aA, ?_⟩)
| (refine zK rfl (fun hc => ?_) (fun hc => ?_) <;> try (exfalso; omega))
| refine wE ?_)
    all_goals try (exfalso; omega)
    exact zT (k + 1) (by omega) (by omega) aI ⟨rfl, rfl, trivial⟩ (zM _)
  · repeat' (first
| refine wO ?_
| (refine o_go rfl ?_; (first
| refine wS ?_); refine ⟨_, aA, ?_⟩)
| (refine zK rfl (fun hc => ?_) (fun hc => ?_) <;> try (exfalso; omega))
| refine kr1 ?_
| refine krS rfl ?_
| refine wE ?_)
    all_goals try (exfalso; omega)
    rw [show k = n by omega]; rfl
theorem sprin_c (n : Nat) (ops : List OpD) (x y : Nat) (hn : n ≤ 8) (hl : ops.length ≤ 1048576) (ho : opsIn n ops) (hx : x < n) (hy : y < n) : PCalls Tryz.prog 247 [algP n ops, I (x : Int), I (y : Int)] (ints (cgL n ops x y)) := by
  refine pcalls1 Tryz.func247 rfl Tryz.ntmps247 rfl ?_
  refine wF ?_
  have h1 := sident_c n (by omega)
  have hid := idL_pt n
  have h2 := sun_c (idL n) x y (by rw [hid.len]; omega) (by rw [hid.len]; omega) (by rw [hid.len]; omega)
  have h3 := sclose_c n ops (unL (idL n) x y) (by omega) hn hl ho (unL_pt hid hx hy)
  repeat' (first
| refine wO ?_
| refine zP (by kernel_rfl) (by kernel_rfl) ?_
| (refine o_go rfl ?_; (first
| refine p_p (zG rfl rfl aB (h1)) ?_
| refine p_p (zG rfl rfl aB (h2)) ?_
| refine p_p (zG rfl rfl aB (h3)) ?_
| refine wS ?_
| refine p_p (ps_load_agg rfl rfl aJ) ?_
| refine p_p (ps_box rfl rfl) ?_); refine ⟨_, aA, ?_⟩)
| refine kr1 ?_
| refine krS rfl ?_
| refine wE ?_)
  all_goals first | rfl | (exfalso; omega)
/-! ### What is told of a pair -/
theorem algOk_facts {n : Int} {ops : List OpD} (h : algOk n ops = true) : ∃ m : Nat, n = m ∧ 0 < m ∧ m ≤ 8 ∧ ops.length ≤ 4 ∧ opsIn m ops := by
  unfold algOk at h
  simp only [Bool.and_eq_true, decide_eq_true_eq] at h
  have h1 := inB_iff.1 h.1
  refine ⟨n.toNat, by omega, by omega, by omega, h.2.1, opsIn_of fun f hf => List.all_eq_true.1 h.2.2 f hf⟩
end Go.Proofs.YtnjocjfhaahmfaaGreat
/- Walks: the reference's known algebras, each. -/
namespace Go.Proofs.YtnjocjfhaahmfaaGreat
open Go Go.Pv Go.Proofs
set_option maxHeartbeats 32000000
set_option maxRecDepth 100000
attribute [local bitvec_to_nat] St.put St.setObj St.ev killP killA killP1 killH mapHO renP renA ren1 killG killGA killG1 krowP krowA krow1 lendP lendA lend1 unv pinP pin1 elemsM viewM viewN viewV n_set_z n_set_s n_map_c n_map_n getD_z getD_s n_toNat n_cond_t n_cond_f n_len_c n_len_n n_app_c n_app_n n_take_s n_take_z n_drop_s n_drop_z n_get_z n_get_s view viewA view1 elems Nat.zero_add Nat.add_zero Bool.not_true Bool.not_false Nat.one_ne_zero Nat.mul_one
attribute [local bitvec_to_nat] posI optP lendM1 lendMA lendMP killM1 killMA killMP hasI getO backM1 backMA backMP putL inpM pinM1 pinMA pinMP killR1 killRA killR

def smA (ops : List OpD) : Prop := ops.length ≤ 10 ∧ ∀ f ∈ ops, f.tb.length ≤ 100
theorem smA.ok {ops : List OpD} (h : smA ops) : szOk ops := ⟨by have := h.1; omega, fun f hf => by have := h.2 f hf; omega⟩
theorem smA_nil : smA [] := ⟨by decide, fun f hf => by simp at hf⟩
theorem smA_cons {f : OpD} {ops : List OpD} (h : smA ops) (hl : ops.length ≤ 9) (hf : f.tb.length ≤ 100) : smA (f :: ops) :=
  ⟨by rw [List.length_cons]; omega, fun g hg => by
    rcases List.mem_cons.1 hg with rfl | hg
    · exact hf
    · exact h.2 g hg⟩
theorem known0_c : PCalls Tryz.prog 228 [I 0] (algP 2 [binO ⟨#[48, 48, 48, 49]⟩]) := by
  refine pcallsC Tryz.func228 rfl Tryz.ntmps228 rfl ?_
  refine wF ?_
  repeat' (first
| refine wO ?_
| (refine o_go rfl ?_; (first
| refine p_p (zG rfl rfl aB (binary_c _ (by decide) (by decide))) ?_
| refine p_p (ps_lits rfl (by exact rfl) (by exact rfl) aS (by decide) (by decide)) ?_
| refine wS ?_
| refine p_e rfl (zO rfl rfl rfl rfl aJ rfl rfl rfl) ?_
| refine p_e rfl (e_alloc rfl) ?_
| refine p_p (ps_build rfl rfl) ?_); refine ⟨_, aA, ?_⟩)
| refine krc ?_
| refine krC rfl aJ ?_
| refine wE ?_)
  all_goals first | rfl | (exfalso; omega)
theorem known1_c : PCalls Tryz.prog 228 [I 1] (algP 2 [binO ⟨#[48, 48, 48, 49]⟩, binO ⟨#[48, 49, 49, 49]⟩]) := by
  refine pcallsC Tryz.func228 rfl Tryz.ntmps228 rfl ?_
  refine wF ?_
  repeat' (first
| refine wO ?_
| (refine o_go rfl ?_; (first
| refine p_p (zG rfl rfl aB (binary_c _ (by decide) (by decide))) ?_
| refine p_p (ps_lits rfl (by exact rfl) (by exact rfl) aS (by decide) (by decide)) ?_
| refine wS ?_
| refine p_e rfl (zO rfl rfl rfl rfl aJ rfl rfl rfl) ?_
| refine p_e rfl (e_alloc rfl) ?_
| refine p_p (ps_build rfl rfl) ?_); refine ⟨_, aA, ?_⟩)
| refine krc ?_
| refine krC rfl aJ ?_
| refine wE ?_)
  all_goals first | rfl | (exfalso; omega)
theorem known2_c : PCalls Tryz.prog 228 [I 2] (algP 2 [binO ⟨#[48, 48, 48, 49]⟩, binO ⟨#[48, 49, 49, 49]⟩, ⟨1, [1, 0]⟩]) := by
  refine pcallsC Tryz.func228 rfl Tryz.ntmps228 rfl ?_
  refine wF ?_
  repeat' (first
| refine wO ?_
| (refine o_go rfl ?_; (first
| refine p_p (zG rfl rfl aB (binary_c _ (by decide) (by decide))) ?_
| refine p_p (ps_lits rfl (by exact rfl) (by exact rfl) aS (by decide) (by decide)) ?_
| refine wS ?_
| refine p_e rfl (zO rfl rfl rfl rfl aJ rfl rfl rfl) ?_
| refine p_e rfl (e_alloc rfl) ?_
| refine p_p (ps_build rfl rfl) ?_); refine ⟨_, aA, ?_⟩)
| refine krc ?_
| refine krC rfl aJ ?_
| refine wE ?_)
  all_goals first | rfl | (exfalso; omega)
theorem known3_c : PCalls Tryz.prog 228 [I 3] (algP 2 [affO 2]) := by
  refine pcallsC Tryz.func228 rfl Tryz.ntmps228 rfl ?_
  refine wF ?_
  repeat' (first
| refine wO ?_
| (refine o_go rfl ?_; (first
| refine p_p (zG rfl rfl aB (affine2_c)) ?_
| refine p_p (ps_lits rfl (by exact rfl) (by exact rfl) aS (by decide) (by decide)) ?_
| refine wS ?_
| refine p_e rfl (zO rfl rfl rfl rfl aJ rfl rfl rfl) ?_
| refine p_e rfl (e_alloc rfl) ?_
| refine p_p (ps_build rfl rfl) ?_); refine ⟨_, aA, ?_⟩)
| refine krc ?_
| refine krC rfl aJ ?_
| refine wE ?_)
  all_goals first | rfl | (exfalso; omega)
theorem known4_c : PCalls Tryz.prog 228 [I 4] (algP 3 [binO ⟨#[48, 49, 50, 49, 50, 48, 50, 48, 49]⟩]) := by
  refine pcallsC Tryz.func228 rfl Tryz.ntmps228 rfl ?_
  refine wF ?_
  repeat' (first
| refine wO ?_
| (refine o_go rfl ?_; (first
| refine p_p (zG rfl rfl aB (binary_c _ (by decide) (by decide))) ?_
| refine p_p (ps_lits rfl (by exact rfl) (by exact rfl) aS (by decide) (by decide)) ?_
| refine wS ?_
| refine p_e rfl (zO rfl rfl rfl rfl aJ rfl rfl rfl) ?_
| refine p_e rfl (e_alloc rfl) ?_
| refine p_p (ps_build rfl rfl) ?_); refine ⟨_, aA, ?_⟩)
| refine krc ?_
| refine krC rfl aJ ?_
| refine wE ?_)
  all_goals first | rfl | (exfalso; omega)
theorem known5_c : PCalls Tryz.prog 228 [I 5] (algP 3 [binO ⟨#[48, 49, 48, 49, 49, 50, 48, 50, 50]⟩]) := by
  refine pcallsC Tryz.func228 rfl Tryz.ntmps228 rfl ?_
  refine wF ?_
  repeat' (first
| refine wO ?_
| (refine o_go rfl ?_; (first
| refine p_p (zG rfl rfl aB (binary_c _ (by decide) (by decide))) ?_
| refine p_p (ps_lits rfl (by exact rfl) (by exact rfl) aS (by decide) (by decide)) ?_
| refine wS ?_
| refine p_e rfl (zO rfl rfl rfl rfl aJ rfl rfl rfl) ?_
| refine p_e rfl (e_alloc rfl) ?_
| refine p_p (ps_build rfl rfl) ?_); refine ⟨_, aA, ?_⟩)
| refine krc ?_
| refine krC rfl aJ ?_
| refine wE ?_)
  all_goals first | rfl | (exfalso; omega)
theorem known6_c : PCalls Tryz.prog 228 [I 6] (algP 4 [binO ⟨#[48, 49, 50, 51, 49, 48, 51, 50, 50, 51, 48, 49, 51, 50, 49, 48]⟩]) := by
  refine pcallsC Tryz.func228 rfl Tryz.ntmps228 rfl ?_
  refine wF ?_
  repeat' (first
| refine wO ?_
| (refine o_go rfl ?_; (first
| refine p_p (zG rfl rfl aB (binary_c _ (by decide) (by decide))) ?_
| refine p_p (ps_lits rfl (by exact rfl) (by exact rfl) aS (by decide) (by decide)) ?_
| refine wS ?_
| refine p_e rfl (zO rfl rfl rfl rfl aJ rfl rfl rfl) ?_
| refine p_e rfl (e_alloc rfl) ?_
| refine p_p (ps_build rfl rfl) ?_); refine ⟨_, aA, ?_⟩)
| refine krc ?_
| refine krC rfl aJ ?_
| refine wE ?_)
  all_goals first | rfl | (exfalso; omega)
theorem known7_c : PCalls Tryz.prog 228 [I 7] (algP 3 [binO ⟨#[48, 48, 48, 48, 49, 49, 48, 49, 50]⟩, binO ⟨#[48, 49, 50, 49, 49, 50, 50, 50, 50]⟩]) := by
  refine pcallsC Tryz.func228 rfl Tryz.ntmps228 rfl ?_
  refine wF ?_
  repeat' (first
| refine wO ?_
| (refine o_go rfl ?_; (first
| refine p_p (zG rfl rfl aB (binary_c _ (by decide) (by decide))) ?_
| refine p_p (ps_lits rfl (by exact rfl) (by exact rfl) aS (by decide) (by decide)) ?_
| refine wS ?_
| refine p_e rfl (zO rfl rfl rfl rfl aJ rfl rfl rfl) ?_
| refine p_e rfl (e_alloc rfl) ?_
| refine p_p (ps_build rfl rfl) ?_); refine ⟨_, aA, ?_⟩)
| refine krc ?_
| refine krC rfl aJ ?_
| refine wE ?_)
  all_goals first | rfl | (exfalso; omega)
theorem known8_c : PCalls Tryz.prog 228 [I 8] (algP 4 [⟨1, [1, 2, 3, 0]⟩]) := by
  refine pcallsC Tryz.func228 rfl Tryz.ntmps228 rfl ?_
  refine wF ?_
  repeat' (first
| refine wO ?_
| (refine o_go rfl ?_; (first
| refine p_p (ps_lits rfl (by exact rfl) (by exact rfl) aS (by decide) (by decide)) ?_
| refine wS ?_
| refine p_e rfl (zO rfl rfl rfl rfl aJ rfl rfl rfl) ?_
| refine p_e rfl (e_alloc rfl) ?_
| refine p_p (ps_build rfl rfl) ?_); refine ⟨_, aA, ?_⟩)
| refine krc ?_
| refine krC rfl aJ ?_
| refine wE ?_)
  all_goals first | rfl | (exfalso; omega)
theorem known9_c : PCalls Tryz.prog 228 [I 9] (algP 2 [⟨3, [0, 0, 0, 1, 0, 1, 1, 1]⟩]) := by
  refine pcallsC Tryz.func228 rfl Tryz.ntmps228 rfl ?_
  refine wF ?_
  repeat' (first
| refine wO ?_
| (refine o_go rfl ?_; (first
| refine p_p (ps_lits rfl (by exact rfl) (by exact rfl) aS (by decide) (by decide)) ?_
| refine wS ?_
| refine p_e rfl (zO rfl rfl rfl rfl aJ rfl rfl rfl) ?_
| refine p_e rfl (e_alloc rfl) ?_
| refine p_p (ps_build rfl rfl) ?_); refine ⟨_, aA, ?_⟩)
| refine krc ?_
| refine krC rfl aJ ?_
| refine wE ?_)
  all_goals first | rfl | (exfalso; omega)
theorem known10_c : PCalls Tryz.prog 228 [I 10] (algP 3 [binO ⟨#[48, 48, 48, 49, 49, 49, 50, 50, 50]⟩]) := by
  refine pcallsC Tryz.func228 rfl Tryz.ntmps228 rfl ?_
  refine wF ?_
  repeat' (first
| refine wO ?_
| (refine o_go rfl ?_; (first
| refine p_p (zG rfl rfl aB (binary_c _ (by decide) (by decide))) ?_
| refine p_p (ps_lits rfl (by exact rfl) (by exact rfl) aS (by decide) (by decide)) ?_
| refine wS ?_
| refine p_e rfl (zO rfl rfl rfl rfl aJ rfl rfl rfl) ?_
| refine p_e rfl (e_alloc rfl) ?_
| refine p_p (ps_build rfl rfl) ?_); refine ⟨_, aA, ?_⟩)
| refine krc ?_
| refine krC rfl aJ ?_
| refine wE ?_)
  all_goals first | rfl | (exfalso; omega)
theorem known11_c : PCalls Tryz.prog 228 [I 11] (algP 5 [binO ⟨#[48, 48, 48, 48, 48, 48, 49, 48, 48, 49, 48, 48, 50, 48, 50, 48, 48, 48, 51, 51, 48, 49, 50, 51, 52]⟩, binO ⟨#[48, 49, 50, 51, 52, 49, 49, 52, 52, 52, 50, 52, 50, 52, 52, 51, 52, 52, 51, 52, 52, 52, 52, 52, 52]⟩]) := by
  refine pcallsC Tryz.func228 rfl Tryz.ntmps228 rfl ?_
  refine wF ?_
  repeat' (first
| refine wO ?_
| (refine o_go rfl ?_; (first
| refine p_p (zG rfl rfl aB (binary_c _ (by decide) (by decide))) ?_
| refine p_p (ps_lits rfl (by exact rfl) (by exact rfl) aS (by decide) (by decide)) ?_
| refine wS ?_
| refine p_e rfl (zO rfl rfl rfl rfl aJ rfl rfl rfl) ?_
| refine p_e rfl (e_alloc rfl) ?_
| refine p_p (ps_build rfl rfl) ?_); refine ⟨_, aA, ?_⟩)
| refine krc ?_
| refine krC rfl aJ ?_
| refine wE ?_)
  all_goals first | rfl | (exfalso; omega)
theorem known12_c : PCalls Tryz.prog 228 [I 12] (algP 4 [binO ⟨#[48, 49, 50, 51, 49, 50, 51, 48, 50, 51, 48, 49, 51, 48, 49, 50]⟩]) := by
  refine pcallsC Tryz.func228 rfl Tryz.ntmps228 rfl ?_
  refine wF ?_
  repeat' (first
| refine wO ?_
| (refine o_go rfl ?_; (first
| refine p_p (zG rfl rfl aB (binary_c _ (by decide) (by decide))) ?_
| refine p_p (ps_lits rfl (by exact rfl) (by exact rfl) aS (by decide) (by decide)) ?_
| refine wS ?_
| refine p_e rfl (zO rfl rfl rfl rfl aJ rfl rfl rfl) ?_
| refine p_e rfl (e_alloc rfl) ?_
| refine p_p (ps_build rfl rfl) ?_); refine ⟨_, aA, ?_⟩)
| refine krc ?_
| refine krC rfl aJ ?_
| refine wE ?_)
  all_goals first | rfl | (exfalso; omega)
theorem known13_c : PCalls Tryz.prog 228 [I 13] (algP 3 [⟨1, [0, 0, 1]⟩, ⟨0, [2]⟩]) := by
  refine pcallsC Tryz.func228 rfl Tryz.ntmps228 rfl ?_
  refine wF ?_
  repeat' (first
| refine wO ?_
| (refine o_go rfl ?_; (first
| refine p_p (ps_lits rfl (by exact rfl) (by exact rfl) aS (by decide) (by decide)) ?_
| refine wS ?_
| refine p_e rfl (zO rfl rfl rfl rfl aJ rfl rfl rfl) ?_
| refine p_e rfl (e_alloc rfl) ?_
| refine p_p (ps_build rfl rfl) ?_); refine ⟨_, aA, ?_⟩)
| refine krc ?_
| refine krC rfl aJ ?_
| refine wE ?_)
  all_goals first | rfl | (exfalso; omega)
theorem known14_c : PCalls Tryz.prog 228 [I 14] (algP 1 [binO ⟨#[48]⟩]) := by
  refine pcallsC Tryz.func228 rfl Tryz.ntmps228 rfl ?_
  refine wF ?_
  repeat' (first
| refine wO ?_
| (refine o_go rfl ?_; (first
| refine p_p (zG rfl rfl aB (binary_c _ (by decide) (by decide))) ?_
| refine p_p (ps_lits rfl (by exact rfl) (by exact rfl) aS (by decide) (by decide)) ?_
| refine wS ?_
| refine p_e rfl (zO rfl rfl rfl rfl aJ rfl rfl rfl) ?_
| refine p_e rfl (e_alloc rfl) ?_
| refine p_p (ps_build rfl rfl) ?_); refine ⟨_, aA, ?_⟩)
| refine krc ?_
| refine krC rfl aJ ?_
| refine wE ?_)
  all_goals first | rfl | (exfalso; omega)
theorem known15_c : PCalls Tryz.prog 228 [I 15] (algP 3 [affO 3]) := by
  refine pcallsC Tryz.func228 rfl Tryz.ntmps228 rfl ?_
  refine wF ?_
  repeat' (first
| refine wO ?_
| (refine o_go rfl ?_; (first
| refine p_p (zG rfl rfl aB (affine3_c)) ?_
| refine p_p (ps_lits rfl (by exact rfl) (by exact rfl) aS (by decide) (by decide)) ?_
| refine wS ?_
| refine p_e rfl (zO rfl rfl rfl rfl aJ rfl rfl rfl) ?_
| refine p_e rfl (e_alloc rfl) ?_
| refine p_p (ps_build rfl rfl) ?_); refine ⟨_, aA, ?_⟩)
| refine krc ?_
| refine krC rfl aJ ?_
| refine wE ?_)
  all_goals first | rfl | (exfalso; omega)
theorem knownX_c (k : Int) (h : k < 0 ∨ 16 ≤ k) : PCalls Tryz.prog 228 [I k] (.agg [I 2, nilV]) := by
  refine pcallsC Tryz.func228 rfl Tryz.ntmps228 rfl ?_
  refine wF ?_
  repeat' (first
| refine wO ?_
| (refine o_go rfl ?_; (first
| refine wS ?_
| refine p_e rfl (zO rfl rfl rfl rfl aJ rfl rfl rfl) ?_
| refine p_e rfl (e_alloc rfl) ?_
| refine p_p (ps_build rfl rfl) ?_); refine ⟨_, aA, ?_⟩)
| (refine zK rfl (fun hc => ?_) (fun hc => ?_) <;> try (exfalso; omega))
| refine krc ?_
| refine krC rfl aJ ?_
| refine wE ?_)
  all_goals first | rfl | (exfalso; omega)
end Go.Proofs.YtnjocjfhaahmfaaGreat
