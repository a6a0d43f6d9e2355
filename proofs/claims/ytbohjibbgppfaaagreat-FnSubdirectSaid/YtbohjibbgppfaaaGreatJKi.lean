/- Walks: pushes and closures, the reference's side. -/
import Derived.Test.YtbohjibbgppfaaaGreatJKh
import Derived.Test.YtbohjibbgppfaaaGreatJNj
set_option linter.unusedSectionVars false
namespace Go.Proofs.YtbohjibbgppfaaaGreat
open Go Go.Pv Go.Proofs
set_option maxHeartbeats 32000000
set_option maxRecDepth 100000
attribute [local bitvec_to_nat] St.put St.setObj St.ev killP killA killP1 killH mapHO renP renA ren1 killG killGA killG1 krowP krowA krow1 lendP lendA lend1 unv pinP pin1 elemsM viewM viewN viewV n_set_z n_set_s n_map_c n_map_n getD_z getD_s n_toNat n_cond_t n_cond_f n_len_c n_len_n n_app_c n_app_n n_take_s n_take_z n_drop_s n_drop_z n_get_z n_get_s view viewA view1 elems Nat.zero_add Nat.add_zero Bool.not_true Bool.not_false Nat.one_ne_zero Nat.mul_one

theorem dig_lt {n : Nat} (hn : 0 < n) (i j : Nat) : digN n i j < n := Nat.mod_lt _ hn
theorem tb_val {n : Nat} {ops : List OpD} (ho : opsIn n ops) {f : OpD} (hf : f ∈ ops) {i : Nat} (hi : i < n ^ f.ar.toNat) : f.tb.getD i 0 = (bk f.tb i : Int) := by
  have := ((ho f hf).2.2.2 i hi).1; unfold bk; omega
theorem set_in {n : Nat} {l : List Int} {k : Nat} {v : Int} (h : ∀ x ∈ l, 0 ≤ x ∧ x < (n : Int)) (h0 : 0 ≤ v) (h1 : v < (n : Int)) : ∀ x ∈ l.set k v, 0 ≤ x ∧ x < (n : Int) := fun x hx => by
  rcases List.mem_or_eq_of_mem_set hx with hx | rfl
  · exact h x hx
  · exact ⟨h0, h1⟩
theorem ints_set {l : List Int} {k : Nat} {v : Int} : ints (l.set k v) = .sl 1 none ((l.map I).set (k * 1) (I v)) := by
  show PV.sl 1 none ((l.set k v).map I) = _
  rw [List.map_set, Nat.mul_one]
theorem spush_c (n : Nat) (ops : List OpD) (p : List Int) (hn0 : 0 < n) (hn : n ≤ 8) (hl : ops.length ≤ 1048576) (ho : opsIn n ops) (hp : Pt n p) : PCalls Tryz.prog 206 [algP n ops, ints p] (ints (pushL n ops p)) := by
  refine pcalls1 Tryz.func206 rfl Tryz.ntmps206 rfl ?_
  refine wF ?_
  have hpl := hp.len
  have h1 := sown_c p (by omega)
  repeat' (first
| refine wO ?_
| (refine o_go rfl ?_; (first
| refine p_p (zG rfl rfl aB (h1)) ?_
| refine wS ?_
| refine p_p (ps_box rfl rfl) ?_); refine ⟨_, aA, ?_⟩))
  refine g_loopT (α := Nat) (fun o => [(5, ints (foldU ((ops.take o).flatMap (stpsF n p)) p)), (6, I (o : Int))]) (fun _ => []) (fun o => o ≤ ops.length) (fun o => ops.length - o) 0 aF (Nat.zero_le _) ⟨rfl, rfl, trivial⟩ rfl ?_
  rintro o hol
  dsimp only [zZ, List.set_cons_zero, List.set_cons_succ]
  by_cases hoi : o < ops.length
  · have hq := opsK_at hoi
    have hfm := opsK_mem hoi
    have hsn : foldU ((ops.take (o + 1)).flatMap (stpsF n p)) p = foldU (stpsF n p (ops.getD o default)) (foldU ((ops.take o).flatMap (stpsF n p)) p) := by
      rw [take_snoc default hoi, List.flatMap_append, foldU_app]; simp
    have hP0 : (foldU ((ops.take o).flatMap (stpsF n p)) p).length = n := by rw [foldU_len]; exact hpl
    obtain ⟨ha0, ha3, htl, -⟩ := ho _ hfm
    generalize hf : ops.getD o default = f at *
    generalize foldU ((ops.take o).flatMap (stpsF n p)) p = P0 at *
    obtain ⟨a, ha⟩ : ∃ a : Nat, f.ar = a := ⟨f.ar.toNat, by omega⟩
    have haa : f.ar.toNat = a := by omega
    have hpw := pow_le3 (show n ≤ 1000 by omega) (show a ≤ 3 by omega)
    rw [haa] at htl
    repeat' (first
| refine wO ?_
| (refine o_go rfl ?_; (first
| refine wS ?_); refine ⟨_, aA, ?_⟩)
| (refine zK rfl (fun hc => ?_) (fun hc => ?_) <;> try (exfalso; omega))
| refine wE ?_)
    all_goals try (exfalso; omega)
    refine g_loopT (α := Nat) (fun i => [(5, ints (foldU ((List.range i).flatMap (stpsI n p f)) P0)), (7, I (i : Int))]) (fun _ => []) (fun i => i ≤ n ^ a) (fun i => n ^ a - i) 0 aF (Nat.zero_le _) ⟨rfl, rfl, trivial⟩ rfl ?_
    rintro i hi
    dsimp only [zZ, List.set_cons_zero, List.set_cons_succ]
    by_cases hil : i < n ^ a
    · have hs2 : foldU ((List.range (i + 1)).flatMap (stpsI n p f)) P0 = foldU (stpsI n p f i) (foldU ((List.range i).flatMap (stpsI n p f)) P0) := by
        rw [List.range_succ, List.flatMap_append, foldU_app]; simp
      have hP1 : (foldU ((List.range i).flatMap (stpsI n p f)) P0).length = n := by rw [foldU_len]; exact hP0
      generalize foldU ((List.range i).flatMap (stpsI n p f)) P0 = P1 at *
      have h2 := sargs_c n a i hn0 (by omega) (by omega) (by omega)
      rw [← ha] at h2
      have hal := argsL_len n a i
      have hain := argsL_in hn0 a i
      repeat' (first
| refine wO ?_
| refine zP (by kernel_rfl) (by kernel_rfl) ?_
| (refine o_go rfl ?_; (first
| refine p_p (zG rfl rfl aB (h2)) ?_
| refine p_p (zN rfl rfl rfl (by omega) hq (by exact rfl)) ?_
| refine wS ?_); refine ⟨_, aA, ?_⟩)
| (refine zK rfl (fun hc => ?_) (fun hc => ?_) <;> try (exfalso; omega))
| refine wE ?_)
      all_goals try (exfalso; omega)
      refine g_loopT (α := Nat) (fun k => [(5, ints (foldU ((List.range k).map (stpF n p f i)) P1)), (9, I (k : Int))]) (fun _ => []) (fun k => k ≤ a) (fun k => a - k) 0 aF (Nat.zero_le _) ⟨rfl, rfl, trivial⟩ rfl ?_
      rintro k hk
      dsimp only [zZ, List.set_cons_zero, List.set_cons_succ]
      by_cases hka : k < a
      · have hdl := dig_lt hn0 i (a - 1 - k)
        have hbl := hp.lt hdl
        have hix1 : ((argsL n a i).map I)[((k : Nat) : Int).toNat]? = some (I (digN n i (a - 1 - k) : Int)) := by rw [← args_at a i k hka]; exact idx_I (by omega)
        have hix2 : (p.map I)[((digN n i (a - 1 - k) : Nat) : Int).toNat]? = some (I (bk p (digN n i (a - 1 - k)) : Int)) := by rw [← hp.val hdl]; exact idx_I (by omega)
        have hix3 : (f.tb.map I)[((i : Nat) : Int).toNat]? = some (I (bk f.tb i : Int)) := by rw [← tb_val ho hfm (by rw [haa]; exact hil)]; exact idx_I (by omega)
        have hsl := sub_lt hil (show a - 1 - k < a by omega) hbl
        have hval := sval_c n ops o ((argsL n a i).set k (bk p (digN n i (a - 1 - k)) : Int)) hn hl hoi (by rw [List.length_set]; omega) (set_in hain (by omega) (by omega)) (by rw [List.length_set, hf, hal]; exact htl)
        rw [idx_set hn0 a i k _ hka hil, hf, Int.toNat_natCast, tb_val ho hfm (by rw [haa]; exact hsl), ints_set] at hval
        have hst : stpF n p f i k = (bk f.tb i, bk f.tb (subN n i (a - 1 - k) (bk p (digN n i (a - 1 - k))))) := by unfold stpF; rw [haa]
        have hlt := (stp_lt hn0 ho hp hfm (by rw [haa]; exact hil) (by rw [haa]; exact hka) : (stpF n p f i k).1 < n ∧ (stpF n p f i k).2 < n)
        rw [hst] at hlt
        have hun := sun_c (foldU ((List.range k).map (stpF n p f i)) P1) (bk f.tb i) (bk f.tb (subN n i (a - 1 - k) (bk p (digN n i (a - 1 - k))))) (by rw [foldU_len]; omega) (by rw [foldU_len]; omega) (by rw [foldU_len]; omega)
        have hs3 : foldU ((List.range (k + 1)).map (stpF n p f i)) P1 = unL (foldU ((List.range k).map (stpF n p f i)) P1) (bk f.tb i) (bk f.tb (subN n i (a - 1 - k) (bk p (digN n i (a - 1 - k))))) := by
          rw [range_snoc, foldU_app, hst]; rfl
        rw [← hs3] at hun
        repeat' (first
| refine wO ?_
| refine zP (by kernel_rfl) (by kernel_rfl) ?_
| (refine o_go rfl ?_; (first
| refine p_e rfl (e_callR rfl rfl aB rfl (own_R _ (by rw [argsL_len]; omega))) ?_
| refine p_p (zN rfl rfl rfl (by omega) hix1 (by exact rfl)) ?_
| refine p_p (zN rfl rfl rfl (by omega) hix2 (by exact rfl)) ?_
| refine p_e (by kernel_rfl) (e_store_arr rfl rfl rfl rfl (by simp; omega) rfl rfl) ?_
| refine p_p (zN rfl rfl rfl (by omega) hq (by exact rfl)) ?_
| refine p_p (zN rfl rfl rfl (by omega) hix3 (by exact rfl)) ?_
| refine p_p (ps_callM rfl rfl aB (by rfl) (hval)) ?_
| refine p_p (zG rfl rfl aB (hun)) ?_
| refine wS ?_
| refine p_p (ps_load_agg rfl rfl aK) ?_); refine ⟨_, aA, ?_⟩)
| (refine zK rfl (fun hc => ?_) (fun hc => ?_) <;> try (exfalso; omega))
| refine wE ?_)
        all_goals try (exfalso; omega)
        exact zT (k + 1) (by omega) (by omega) aI ⟨rfl, rfl, trivial⟩ (zM _)
      · repeat' (first
| refine wO ?_
| (refine o_go rfl ?_; (first
| refine wS ?_); refine ⟨_, aA, ?_⟩)
| (refine zK rfl (fun hc => ?_) (fun hc => ?_) <;> try (exfalso; omega))
| refine wE ?_)
        all_goals try (exfalso; omega)
        refine zT (i + 1) (by omega) (by omega) aI ⟨?_, rfl, trivial⟩ (zM _)
        rw [hs2, show k = a by omega]
        unfold stpsI
        rw [haa]; rfl
    · repeat' (first
| refine wO ?_
| (refine o_go rfl ?_; (first
| refine p_p (zN rfl rfl rfl (by omega) hq (by exact rfl)) ?_
| refine wS ?_); refine ⟨_, aA, ?_⟩)
| (refine zK rfl (fun hc => ?_) (fun hc => ?_) <;> try (exfalso; omega))
| refine wE ?_)
      all_goals try (exfalso; omega)
      refine zT (o + 1) (by omega) (by omega) aI ⟨?_, rfl, trivial⟩ (zM _)
      rw [hsn, show i = n ^ a by omega]
      unfold stpsF
      rw [haa]; rfl
  · repeat' (first
| refine wO ?_
| (refine o_go rfl ?_; (first
| refine wS ?_); refine ⟨_, aA, ?_⟩)
| (refine zK rfl (fun hc => ?_) (fun hc => ?_) <;> try (exfalso; omega))
| refine kr1 ?_
| refine krS rfl ?_
| refine wE ?_)
    all_goals try (exfalso; omega)
    rw [List.take_of_length_le (by omega)]; rfl
def cgB (n : Nat) (ops : List OpD) (p : List Int) : Bool := ptB n p && decide (pushL n ops p = p)
theorem cgB_iff {n : Nat} {ops : List OpD} {p : List Int} (hn : 0 < n) (ho : opsIn n ops) : cgB n ops p = true ↔ Pt n p ∧ Cong n ops p := by
  unfold cgB
  rw [Bool.and_eq_true, ptB_iff, decide_eq_true_eq]
  exact ⟨fun ⟨h1, h2⟩ => ⟨h1, (push_same hn ho h1).1 h2⟩, fun ⟨h1, h2⟩ => ⟨h1, (push_same hn ho h1).2 h2⟩⟩
theorem sis_c (n : Nat) (ops : List OpD) (p : List Int) (hn0 : 0 < n) (hn : n ≤ 8) (hl : ops.length ≤ 1048576) (ho : opsIn n ops) (hp : p.length ≤ 1048576) : PCalls Tryz.prog 144 [algP n ops, ints p] (B (cgB n ops p)) := by
  refine pcalls1 Tryz.func144 rfl Tryz.ntmps144 rfl ?_
  refine wF ?_
  have h1 := sptn_c n p (by omega) hp
  unfold cgB
  cases hb : ptB n p with
  | false =>
    rw [hb] at h1
    repeat' (first
| refine wO ?_
| (refine o_go rfl ?_; (first
| refine p_p (zG rfl rfl aB (h1)) ?_
| refine wS ?_
| refine p_p (ps_box rfl rfl) ?_); refine ⟨_, aA, ?_⟩)
| (refine o_s rfl ?_; refine ⟨_, aA, ?_⟩)
| refine kr1 ?_
| refine krB rfl ?_
| refine wE ?_)
    all_goals first | rfl | (exfalso; omega)
  | true =>
    rw [hb] at h1
    have h2 := spush_c n ops p hn0 hn hl ho (ptB_iff.1 hb)
    have h3 := gsame_c (pushL n ops p) p (by have := (push_pt hn0 ho (ptB_iff.1 hb)).len; omega)
    repeat' (first
| refine wO ?_
| (refine o_go rfl ?_; (first
| refine p_p (zG rfl rfl aB (h1)) ?_
| refine p_p (zG rfl rfl aB (h2)) ?_
| refine p_p (zG rfl rfl aB (h3)) ?_
| refine wS ?_
| refine p_p (ps_load_agg rfl rfl aK) ?_
| refine p_p (ps_box rfl rfl) ?_); refine ⟨_, aA, ?_⟩)
| refine kr1 ?_
| refine krB rfl ?_
| refine wE ?_)
    all_goals first | rfl | (exfalso; omega)
theorem iterP_len {n : Nat} {ops : List OpD} {p : List Int} (hn : 0 < n) (ho : opsIn n ops) (hp : Pt n p) (k : Nat) : Pt n (iterP n ops k p) := (iter_facts hn ho hp k).1
theorem iterP_succ (n : Nat) (ops : List OpD) : ∀ (k : Nat) (p : List Int), iterP n ops (k + 1) p = pushL n ops (iterP n ops k p) := by
  intro k p
  first
  | rfl
  | (induction k generalizing p with
     | zero => rfl
     | succ k ih => rw [show iterP n ops (k + 1 + 1) p = iterP n ops (k + 1) (pushL n ops p) from rfl, ih]; rfl)
theorem sclose_c (n : Nat) (ops : List OpD) (p : List Int) (hn0 : 0 < n) (hn : n ≤ 8) (hl : ops.length ≤ 1048576) (ho : opsIn n ops) (hp : Pt n p) : PCalls Tryz.prog 250 [algP n ops, ints p] (ints (closeL n ops p)) := by
  refine pcalls1 Tryz.func250 rfl Tryz.ntmps250 rfl ?_
  refine wF ?_
  repeat' (first
| refine wO ?_
| (refine o_go rfl ?_; (first
| refine wS ?_
| refine p_p (ps_box rfl rfl) ?_); refine ⟨_, aA, ?_⟩))
  refine g_loopT (α := Nat) (fun k => [(1, ints (iterP n ops k p)), (5, I (k : Int))]) (fun _ => []) (fun k => k ≤ n) (fun k => n - k) 0 aF (Nat.zero_le _) ⟨rfl, rfl, trivial⟩ rfl ?_
  rintro k hk
  dsimp only [zZ, List.set_cons_zero, List.set_cons_succ]
  by_cases hkn : k < n
  · have h1 := spush_c n ops (iterP n ops k p) hn0 hn hl ho (iterP_len hn0 ho hp k)
    rw [← iterP_succ] at h1
    repeat' (first
| refine wO ?_
| (refine o_go rfl ?_; (first
| refine p_p (zG rfl rfl aB (h1)) ?_
| refine wS ?_
| refine p_p (ps_load_agg rfl rfl aK) ?_); refine ⟨_, aA, ?_⟩)
| (refine zK rfl (fun hc => ?_) (fun hc => ?_) <;> try (exfalso; omega))
| refine wE ?_)
    all_goals try (exfalso; omega)
    exact zT (k + 1) (by omega) (by omega) aI ⟨rfl, rfl, trivial⟩ (zM _)
  · repeat' (first
| refine wO ?_
| (refine o_go rfl ?_; (first
| refine wS ?_); refine ⟨_, aA, ?_⟩)
| (refine zK rfl (fun hc => ?_) (fun hc => ?_) <;> try (exfalso; omega))
| refine kr1 ?_
| refine krS rfl ?_
| refine wE ?_)
    all_goals try (exfalso; omega)
    rw [show k = n by omega]; rfl
theorem sprin_c (n : Nat) (ops : List OpD) (x y : Nat) (hn : n ≤ 8) (hl : ops.length ≤ 1048576) (ho : opsIn n ops) (hx : x < n) (hy : y < n) : PCalls Tryz.prog 219 [algP n ops, I (x : Int), I (y : Int)] (ints (cgL n ops x y)) := by
  refine pcalls1 Tryz.func219 rfl Tryz.ntmps219 rfl ?_
  refine wF ?_
  have h1 := sident_c n (by omega)
  have hid := idL_pt n
  have h2 := sun_c (idL n) x y (by rw [hid.len]; omega) (by rw [hid.len]; omega) (by rw [hid.len]; omega)
  have h3 := sclose_c n ops (unL (idL n) x y) (by omega) hn hl ho (unL_pt hid hx hy)
  repeat' (first
| refine wO ?_
| refine zP (by kernel_rfl) (by kernel_rfl) ?_
| (refine o_go rfl ?_; (first
| refine p_p (zG rfl rfl aB (h1)) ?_
| refine p_p (zG rfl rfl aB (h2)) ?_
| refine p_p (zG rfl rfl aB (h3)) ?_
| refine wS ?_
| refine p_p (ps_load_agg rfl rfl aK) ?_
| refine p_p (ps_box rfl rfl) ?_); refine ⟨_, aA, ?_⟩)
| refine kr1 ?_
| refine krS rfl ?_
| refine wE ?_)
  all_goals first | rfl | (exfalso; omega)
/-! ### What is told of a pair -/
theorem algOk_facts {n : Int} {ops : List OpD} (h : algOk n ops = true) : ∃ m : Nat, n = m ∧ 0 < m ∧ m ≤ 8 ∧ ops.length ≤ 4 ∧ opsIn m ops := by
  unfold algOk at h
  simp only [Bool.and_eq_true, decide_eq_true_eq] at h
  have h1 := inB_iff.1 h.1
  refine ⟨n.toNat, by omega, by omega, by omega, h.2.1, opsIn_of fun f hf => List.all_eq_true.1 h.2.2 f hf⟩
end Go.Proofs.YtbohjibbgppfaaaGreat
/- The layer: structs with owned rows, more: appended to nothing, rows written and grown, fields of structs in arrays. -/
namespace Go.Pv
open Go
attribute [local semireducible] Go.Pv.Goal Go.Pv.Ops Go.Pv.PStep Go.Pv.EStep Go.Pv.KRets Go.Pv.PCalls Go.Pv.OpsG Go.Pv.RCalls
section
variable {P : Program} {o : Oper} {S : St}
theorem e_appendNilS {t e : TypeId} {by_ : Nat} {z0 z1 : Value} [ht : MkT P t e 2 by_ [z0, z1]] {x y : Operand} {tys : Array TypeId} {k : Nat} {e' e2 : TypeId} {rows2 : List (List PV)} (ho : o.op = .call { callee := .builtin .append, args := #[x, y], argTypes := tys })
    (htys : tys = #[t, t]) (h1 : S.ev x = nilV) (h2 : S.ev y = .hp k) (hk : S.hp[k]? = some (.sg e' e2 0 rows2)) (hl0 : 0 < rows2.length)
    (hb : rows2.length * by_ ≤ 140737488355328) (hm : rows2.length ≤ 9223372036854775807) : EStep P o S (S.setObj S.hp.length (killH S.hp.length (S.hp.set k .gone) ++ [.sg e e2 0 rows2]) o.dst (.hp S.hp.length)) := by
  subst htys
  intro w0 g ρ a w hr Q K hK
  obtain ⟨curk, rck, hownk⟩ := hr.base.own k _ hk
  have c2 := hownk.hcap
  rw [Nat.add_zero] at c2
  have ex : a.eval x = .slice none 0 0 := val_of (hr.ev x) h1
  have ey : a.eval y = .slice (some ⟨(ρ k).blk, 0, none⟩) rows2.length (ρ k).cap := by have := hr.ev y; rw [h2] at this; exact HpV.sg this _ _ _ _ hk
  obtain ⟨i, z, hi, hi1, hi2, hi3, hi4⟩ := ht.hi
  have hzc : z.cells.size = 2 := by have := congrArg List.length hi4; simpa using this
  have hmm : rows2.length ≤ maxLen := by simp only [maxLen]; omega
  let news : List Value := curk.toList.take (rows2.length * 2)
  have hnl : news.length = rows2.length * 2 := by simp only [news, List.length_take, Array.length_toList, hownk.hsz]; omega
  have hnk : ∀ j, j < rows2.length * 2 → news[j]? = some (curk.getD j undef) := fun j hj => by
    have : j < curk.size := by rw [hownk.hsz]; omega
    simp [news, hj, this]
  have hcellsrc : ∀ (j : Nat) (u : Value), news[j]? = some u → w.cell? ((⟨(ρ k).blk, 0, none⟩ : Addr).add j) = some u := fun j u hj => by
    have hj2 : j < rows2.length * 2 := by rw [← hnl]; exact (List.getElem?_eq_some_iff.1 hj).1
    rw [Addr.add_n, Nat.zero_add, own_load hownk.hw (by rw [hownk.hsz]; omega), ← hnk j hj2, hj]
  have hrun := run_append_nil (P := P) w t o.type e i z ht.hu hi hi3 ⟨(ρ k).blk, 0, none⟩ rows2.length (ρ k).cap news (by rw [hi1]; exact hnl) hcellsrc hl0 (by omega) (by rw [hi2]; omega)
  have hcapge : rows2.length ≤ grownCap w rows2.length 0 e := grownCap_ge w _ _ e
  have hcapm : grownCap w rows2.length 0 e ≤ maxLen := grownCap_le_maxLen w _ _ e hmm
  generalize hcap' : grownCap w rows2.length 0 e = cap' at *
  generalize hcur : news.toArray ++ Builtin.zeroCells z.cells (cap' - rows2.length) = cur' at *
  have hsz' : cur'.size = cap' * 2 := by
    rw [← hcur]
    simp only [Array.size_append, List.size_toArray, size_zeroCells, hzc, hnl]
    omega
  have k2 : ∀ j, j < rows2.length * 2 → cur'.getD j undef = curk.getD j undef := fun j hj => by
    rw [← hcur]
    have h2 : (news.toArray ++ Builtin.zeroCells z.cells (cap' - rows2.length))[j]? = news[j]? := by
      rw [Array.getElem?_append_left (by rw [List.size_toArray]; omega), List.getElem?_toArray]
    rw [Array.getD_eq_getD_getElem?, h2, hnk j hj]; rfl
  have hnew : (w.drew.alloc (.cells cur' e)).heap[w.heap.size]? = some (.cells cur' e (0, 0)) := heap_alloc_new w.drew _
  have hbl : RowKit.Below w.heap.size w (w.drew.alloc (.cells cur' e)) := (RowKit.Below.refl _ _).drew.alloc (Nat.le_refl _) _
  have hgn : ∀ k, g w.heap.size k = none := fun k => by
    cases hk : g w.heap.size k with
    | none => rfl
    | some v => exact absurd (hr.base.agree.lt hk) (Nat.lt_irrefl _)
  have hexec : (execOp a.eval o).run P w = .ok (.value (.slice (some ⟨w.heap.size, 0, none⟩) rows2.length cap')) (w.drew.alloc (.cells cur' e)) := by
    simp only [execOp, ho, resolve, Sem.run_bind, run_pure, Result.andThen, invoke, builtin]
    have : (#[x, y].map a.eval) = #[.slice none 0 0, .slice (some ⟨(ρ k).blk, 0, none⟩) rows2.length (ρ k).cap] := by simp [ex, ey]
    rw [this, hrun]
  unfold Oper.wp
  rw [hexec]
  have hlen : (S.hp.set k .gone).length = S.hp.length := by simp
  have hd' := (rel_gone hr k).weaken (S' := ⟨S.fr, S.hp.set k .gone ++ [.gone]⟩) ⟨frLe_refl _, hpLe_gones _ [.gone] (by simp)⟩
  let L' : Loc := ⟨w.heap.size, cap', (ρ k).rows, (ρ k).caps⟩
  have rltk : ∀ j, j < rows2.length → (ρ k).rows j < w.heap.size := fun j hj => (Array.getElem?_eq_some_iff.1 (hownk.hrow j _ (List.getElem?_eq_getElem hj)).2.2.1).1
  have hgrid : SgOwn g (w.drew.alloc (.cells cur' e)) w0.own e e2 0 rows2 L' cur' rck :=
    { hB := Ini.own_new hr.base.below.size, hw := hnew, hsz := hsz', hcap := hcapge, hmax := hcapm
      hB' := hownk.hB'
      hrow := fun j r hj => by
        have hjl := (List.getElem?_eq_some_iff.1 hj).1
        obtain ⟨a1, a2, a3, a4⟩ := hownk.hrow j r hj
        exact ⟨(k2 _ (by omega)).trans a1, a2, (hbl.block _ (rltk j hjl)).trans a3, a4⟩
      hh := fun j r hj => by
        have hjl := (List.getElem?_eq_some_iff.1 hj).1
        rw [k2 _ (by omega)]; exact hownk.hh j r hj
      hv := hownk.hv
      hg := hgn
      hg' := hownk.hg'
      hne := fun j hj => by show (ρ k).rows j ≠ w.heap.size; have := rltk j hj; omega
      hinj := hownk.hinj }
  have hgone : (S.hp.set k .gone ++ [HO.gone])[S.hp.length]? = some HO.gone := by rw [List.getElem?_append_right (by omega), hlen]; simp
  have hh : ∀ i, i ≠ S.hp.length → (((S.hp.set k .gone ++ [HO.gone]).map (mapHO (killP1 S.hp.length))).set S.hp.length (.sg e e2 0 rows2))[i]? = ((S.hp.set k .gone ++ [HO.gone])[i]?).map (mapHO (killP1 S.hp.length)) := fun i hi => by
    rw [List.getElem?_set_ne (Ne.symm hi), List.getElem?_map]
  have hup := hd'.base.upd hgone (x' := .sg e e2 0 rows2) L' (GExt.refl g) (killP1 S.hp.length) (fun v p hv => VRS1.kill S.hp.length L' (GExt.refl g) hh hv) (hr.base.agree.below hbl) (hr.base.below.step hbl) (fun _ _ _ => rfl) ⟨cur', _, hgrid⟩
    (fun b hb => by
      simp only [foot] at hb
      rcases hb with hb | ⟨i, hi, hb⟩
      · right; left; rw [hb]; exact Nat.le_refl _
      · right; right
        intro j y hj hy hf
        have hb' : b = (ρ k).rows i := hb
        rcases Nat.lt_or_ge j S.hp.length with hlt | hge
        · rw [List.getElem?_append_left (by omega)] at hy
          by_cases e' : j = k
          · subst e'
            rw [List.getElem?_set_self hlt] at hy
            cases hy
            exact hf
          · rw [List.getElem?_set_ne (Ne.symm e')] at hy
            exact hr.base.sep j k y _ b e' hy hk hf (by simp only [foot]; exact .inr ⟨i, hi, hb'⟩)
        · rw [List.getElem?_eq_none (by simp; omega)] at hy; cases hy) (fun b hb _ => ⟨hbl.block b hb, fun _ => rfl⟩)
  have hat : (((S.hp.set k .gone ++ [HO.gone]).map (mapHO (killP1 S.hp.length))).set S.hp.length (.sg e e2 0 rows2))[S.hp.length]? = some (.sg e e2 0 rows2) := List.getElem?_set_self (by simp)
  have hv : VRS g (upd ρ S.hp.length L') (((S.hp.set k .gone ++ [HO.gone]).map (mapHO (killP1 S.hp.length))).set S.hp.length (.sg e e2 0 rows2)) (.slice (some ⟨w.heap.size, 0, none⟩) rows2.length cap') (.hp S.hp.length) := by
    show HpV (upd ρ S.hp.length L') _ (.slice (some ⟨w.heap.size, 0, none⟩) rows2.length cap') S.hp.length
    exact { sl := ⟨_, _, _, rfl⟩, arr := fun m s e' l' h => (by rw [hat] at h; cases h), grid := fun f1 f2 rows h => (by rw [hat] at h; cases h), sg := fun f1 f2 n' rows h => (by rw [hat] at h; cases h; rw [upd_same, Nat.add_zero]), pg := fun f1 f2 n' rows h => (by rw [hat] at h; cases h), box := fun l' h => (by rw [hat] at h; cases h) }
  have hrel := hd'.setObj S.hp.length L' hup (GExt.refl g) hh hv o.dst
  have e1 : ((S.hp.set k .gone ++ [HO.gone]).map (mapHO (killP1 S.hp.length))).set S.hp.length (.sg e e2 0 rows2) = killH S.hp.length (S.hp.set k .gone) ++ [.sg e e2 0 rows2] := by
    rw [List.map_append, List.set_append_right _ _ (by simp)]
    simp [killH]
  rw [e1] at hrel
  exact hK g _ _ _ (GExt.refl g) hrel
end
section
variable {P : Program} {o : Oper} {ev : Operand → PV} {hp : List HO}
theorem ps_len_sgr {t e : TypeId} {s by_ : Nat} [ht : SlT P t e s by_] {x : Operand} {e1 e2 id i n : Nat} {rows : List (List PV)} {h0 : PV} {r : List PV} {tys : Array TypeId} (ho : o.op = .call { callee := .builtin .len, args := #[x], argTypes := tys }) (htys : tys = #[t])
    (h1 : ev x = .gr id i) (hh : hp[id]? = some (.sg e1 e2 n rows)) (hr : rows[i]? = some (h0 :: r)) : PStep P o ev hp (I r.length) :=
  .of_run fun w0 g ρ w av hb hx => by
    have e1 := hx x (by simp [ho, Op.operands, Call.operands])
    subst htys
    rw [h1] at e1
    have ea := GrV.sg e1 _ _ _ _ _ hh hr
    rw [List.tail_cons] at ea
    exact ⟨.int .i64 r.length, by simp [execOp, ho, resolve, invoke, builtin, Builtin.len_, ea, run_underlying ht.hu, goInt, go_sem], .val _⟩
theorem ps_index_sgr {t e : TypeId} {by_ : Nat} [ht : SlT P t e 1 by_] {x ix : Operand} {e1 e2 : TypeId} {n : Nat} {rows : List (List PV)} {h0 : PV} {r : List PV} {i : Int} {id k : Nat} (ho : o.op = .indexAddr t x ix) (h1 : ev x = .gr id k)
    (hh : hp[id]? = some (.sg e1 e2 n rows)) (hr : rows[k]? = some (h0 :: r)) (h2 : ev ix = I i) (hi0 : 0 ≤ i) (hq : i.toNat < r.length) : PStep P o ev hp (.gat id k i.toNat) :=
  .of_run fun w0 g ρ w av hb hx => by
    have e1 := hx x (by simp [ho, Op.operands])
    have e2 := val_of (hx ix (by simp [ho, Op.operands])) h2
    rw [h1] at e1
    have ea := GrV.sg e1 _ _ _ _ _ hh hr
    rw [List.tail_cons] at ea
    refine ⟨.pointer (some ⟨(ρ id).rows k, i.toNat, none⟩), ?_, rfl⟩
    have hi : i < (r.length : Int) := by omega
    simp [execOp, ho, ea, e2, Instr.indexAt, asIntOf, run_underlying ht.hu, ht.hs, hi0, hi, Addr.add_n, go_sem]
end
section
variable {P : Program} {o : Oper} {S : St}
theorem e_store_sgr {t : TypeId} [ht : CellT P t] {x v : Operand} {id i j n : Nat} {e1 e2 : TypeId} {rows : List (List PV)} {h0 : PV} {r : List PV} {p : PV} (ho : o.op = .store t x v) (hd : o.dst = none) (h1 : S.ev x = .gat id i j) (hh : S.hp[id]? = some (.sg e1 e2 n rows))
    (hr : rows[i]? = some (h0 :: r)) (hj : j < r.length) (h2 : view S.hp (S.ev v) = p) (hp1 : p.one = true) : EStep P o S ⟨S.fr, S.hp.set id (.sg e1 e2 n (rows.set i (h0 :: r.set j p)))⟩ := by
  have hi : i < rows.length := (List.getElem?_eq_some_iff.1 hr).1
  have hrows : ∀ (k : Nat) (r' : List PV), (rows.set i (h0 :: r.set j p))[k]? = some r' → ∃ r'' : List PV, rows[k]? = some r'' ∧ r''.tail.length = r'.tail.length := fun k r' hk => by
    rw [List.getElem?_set] at hk
    split at hk
    · rename_i e; subst e
      simp only [Option.some.injEq] at hk
      subst hk
      exact ⟨_, hr, by simp⟩
    · exact ⟨r', hk, rfl⟩
  refine EStep.of_store ht.hs ho hd hh (fun m s e l h => by cases h) (fun e1' e2' rows' h => by cases h) (fun e1 e2 n rows h => by cases h) (fun L b h => by simpa [foot] using h) (fun w0 g ρ a w hrel _ => ?_) (fun l h => by cases h) (fun e1' e2' n' rows' h => by cases h; exact ⟨_, _, _, rfl, by simp, hrows⟩)
  obtain ⟨cur, rc, og⟩ := hrel.base.own id _ hh
  have ea : a.eval x = .pointer (some ⟨(ρ id).rows i, j, none⟩) := by have := hrel.ev x; rw [h1] at this; exact this
  have ev := hrel.base.view (hrel.ev v)
  rw [h2] at ev
  obtain ⟨hc1, hc2⟩ := ev.oneCell hp1
  obtain ⟨a1, a2, a3, a4⟩ := og.hrow i _ hr
  simp only [List.tail_cons] at a1 a2
  refine ⟨_, j, rc i, e2, ea, .inr ⟨i, hi, rfl⟩, og.hB' i hi, a3, fun o => og.hg' i o hi, by omega, by rw [hc1]; rfl, by rw [hc1]; simpa using hc2, fun cur' hs' hk' => ?_⟩
  refine ⟨cur, fun k => if k = i then cur' else rc k, og.hB, ?_, og.hsz, by simpa using og.hcap, og.hmax, fun k hk => og.hB' k (by simpa using hk), fun k r' hk => ?_, fun k r' hk => ?_, fun k r' m q hk hm => ?_, og.hg, fun k o hk => og.hg' k o (by simpa using hk), fun k hk => og.hne k (by simpa using hk), fun k m hk hm => og.hinj k m (by simpa using hk) (by simpa using hm)⟩
  · rw [setRow_other w _ _ _ (fun e => og.hne i hi e.symm)]; exact og.hw
  · by_cases e : k = i
    · subst e
      rw [List.getElem?_set_self hi] at hk
      cases hk
      simp only [List.length_set, if_true, List.tail_cons]
      exact ⟨a1, a2, setRow_heap w _ _ _ _ _ a3, hs'.trans a4⟩
    · rw [List.getElem?_set_ne (Ne.symm e)] at hk
      rw [if_neg e]
      obtain ⟨b1, b2, b3, b4⟩ := og.hrow k r' hk
      refine ⟨b1, b2, ?_, b4⟩
      rw [setRow_other w _ _ _ (fun e' => e (og.hinj k i (List.getElem?_eq_some_iff.1 hk).1 hi e'))]; exact b3
  · by_cases e : k = i
    · subst e
      rw [List.getElem?_set_self hi] at hk
      cases hk
      exact og.hh k (h0 :: r) hr
    · rw [List.getElem?_set_ne (Ne.symm e)] at hk
      exact og.hh k r' hk
  · by_cases e : k = i
    · subst e
      rw [List.getElem?_set_self hi] at hk
      cases hk
      rw [List.tail_cons] at hm
      rw [if_pos rfl, hk' m]
      rw [List.getElem?_set] at hm
      by_cases e' : j = m
      · subst e'
        rw [if_pos rfl, if_pos hj] at hm
        cases hm
        rw [if_pos (by omega)]
        refine ⟨hp1, ?_⟩
        rw [hc1]
        simpa using ev
      · rw [if_neg e'] at hm
        rw [if_neg (by omega)]
        exact og.hv k _ m q hr hm
    · rw [List.getElem?_set_ne (Ne.symm e)] at hk
      rw [if_neg e]
      exact og.hv k r' m q hk hm
theorem e_store_arrF {t : TypeId} [ht : CellT P t] {s : Nat} {x v : Operand} {id i j k : Nat} {e : TypeId} {l c : List PV} {p p' : PV} (ho : o.op = .store t x v) (hd : o.dst = none) (h1 : S.ev x = .hat id k) (hh : S.hp[id]? = some (.arr true s e l)) (hk : k = i * s + j) (hl : l[i]? = some (.agg c)) (hj : j < c.length)
    (h2 : view S.hp (S.ev v) = p) (hp1 : p.one = true) (hp' : p' = .agg (c.set j p)) : EStep P o S ⟨S.fr, S.hp.set id (.arr true s e (l.set i p'))⟩ := by
  subst hk; subst hp'
  have hi : i < l.length := (List.getElem?_eq_some_iff.1 hl).1
  refine EStep.of_store ht.hs ho hd hh (fun m s e l h => by cases h; exact ⟨_, _, _, _, rfl, by simp⟩) (fun e1 e2 rows h => by cases h) (fun e1 e2 n rows h => by cases h) (fun L b h => h) fun w0 g ρ a w hr _ => ?_
  obtain ⟨cur, cc, hown⟩ := hr.base.own id _ hh
  have ea : a.eval x = .pointer (some ⟨(ρ id).blk, i * s + j, none⟩) := by have := hr.ev x; rw [h1] at this; exact this
  have ev := hr.base.view (hr.ev v)
  rw [h2] at ev
  obtain ⟨hc1, hc2⟩ := ev.oneCell hp1
  obtain ⟨f1, f2⟩ := hown.hf i _ hl
  have hcc : cc i = c := by simpa [PV.flat] using f1.symm
  rw [hcc] at f2
  have hsz : i * s + j + 1 ≤ cur.size := by
    have h3 : (i + 1) * s ≤ (ρ id).cap * s := Nat.mul_le_mul_right _ (Nat.le_trans hi hown.hcap)
    rw [Nat.add_mul, Nat.one_mul] at h3
    rw [hown.hsz]; omega
  have hgn : ∀ o, g (ρ id).blk o = none := fun o => by rw [hown.hg o]; simp
  refine ⟨_, i * s + j, cur, e, ea, rfl, hown.hB, hown.hw, hgn, hsz, by rw [hc1]; rfl, by rw [hc1]; simpa using hc2, fun cur' hs' hk' => ?_⟩
  refine ⟨cur', fun m => if m = i then c.set j p else cc m, ⟨hown.hs, hown.hB, by simpa using hown.hcap, hown.hmax, setRow_heap w _ _ _ _ _ hown.hw, hs'.trans hown.hsz, fun m p' hm => ?_, fun m q' q hm hq => ?_, fun k => by rw [hgn k]; simp⟩⟩
  · rw [List.getElem?_set] at hm
    by_cases e : m = i
    · subst e
      simp [hi] at hm
      subst hm
      simp [PV.flat, f2]
    · rw [if_neg (Ne.symm e)] at hm
      rw [if_neg e]
      exact hown.hf m p' hm
  · simp only [List.length_set] at hm
    have hlen1 : (if m = i then c.set j p else cc m).length = s := by
      split
      · rw [List.length_set]; exact f2
      · exact (hown.hf m l[m] (List.getElem?_eq_getElem hm)).2
    have hq1 : q' < s := by rw [← hlen1]; exact (List.getElem?_eq_some_iff.1 hq).1
    rw [hk' _]
    by_cases e : m = i
    · subst e
      rw [if_pos rfl, List.getElem?_set] at hq
      by_cases e2 : j = q'
      · subst e2
        rw [if_pos rfl, if_pos hj] at hq
        cases hq
        rw [if_pos (by omega), Nat.sub_self, hc1]
        simpa using ev
      · rw [if_neg e2] at hq
        rw [if_neg (by omega)]
        exact hown.hv m q' q hm (by rw [hcc]; exact hq)
    · rw [if_neg e] at hq
      have hne : ¬ (i * s + j ≤ m * s + q' ∧ m * s + q' < i * s + j + 1) := fun ⟨h3, h4⟩ => by
        have h5 : m * s + q' = i * s + j := by omega
        have hjs : j < s := by omega
        have h6 : (m * s + q') / s = (i * s + j) / s := by rw [h5]
        rw [Nat.mul_comm m, Nat.mul_comm i, Nat.mul_add_div (by omega), Nat.mul_add_div (by omega), Nat.div_eq_of_lt hq1, Nat.div_eq_of_lt hjs] at h6
        omega
      rw [if_neg hne]
      exact hown.hv m q' q hm hq
end
end Go.Pv
