/- Lemmas of the proof. No condition. -/
import Derived.Test.YtbohjibbgppfaaaGreatJKh
namespace Go.Proofs.YtbohjibbgppfaaaGreat
open Go Go.Pv Go.Proofs
set_option maxHeartbeats 32000000
set_option maxRecDepth 100000
theorem dig_lt {n : Nat} (hn : 0 < n) (i j : Nat) : digN n i j < n := Nat.mod_lt _ hn
theorem tb_val {n : Nat} {ops : List OpD} (ho : opsIn n ops) {f : OpD} (hf : f ∈ ops) {i : Nat} (hi : i < n ^ f.ar.toNat) : f.tb.getD i 0 = (bk f.tb i : Int) := by
 have := ((ho f hf).2.2.2 i hi).1; unfold bk; omega
theorem set_in {n : Nat} {l : List Int} {k : Nat} {v : Int} (h : ∀ x ∈ l, 0 ≤ x ∧ x < (n : Int)) (h0 : 0 ≤ v) (h1 : v < (n : Int)) : ∀ x ∈ l.set k v, 0 ≤ x ∧ x < (n : Int) := fun x hx => by
 rcases List.mem_or_eq_of_mem_set hx with hx | rfl
 · exact h x hx
 · exact ⟨h0, h1⟩
theorem ints_set {l : List Int} {k : Nat} {v : Int} : ints (l.set k v) = .sl 1 none ((l.map I).set (k * 1) (I v)) := by
 show PV.sl 1 none ((l.set k v).map I) = _
 rw [List.map_set, Nat.mul_one]
theorem spush_c (n : Nat) (ops : List OpD) (p : List Int) (hn0 : 0 < n) (hn : n ≤ 8) (hl : ops.length ≤ 1048576) (ho : opsIn n ops) (hp : Pt n p) : PCalls Tryz.prog 206 [algP n ops, ints p] (ints (pushL n ops p)) := by
 refine pcalls1 Tryz.func206 rfl Tryz.ntmps206 rfl ?_
 refine wF ?_
 have hpl := hp.len
 have h1 := sown_c p (by omega)
 repeat' (first
| refine wO ?_
| (refine o_go rfl ?_; (first
| refine p_p (zG rfl rfl aD (h1)) ?_
| refine wS ?_
| refine p_p (ps_box rfl rfl) ?_); refine ⟨_, aA, ?_⟩))
 refine g_loopT (α := Nat) (fun o => [(5, ints (foldU ((ops.take o).flatMap (stpsF n p)) p)), (6, I (o : Int))]) (fun _ => []) (fun o => o ≤ ops.length) (fun o => ops.length - o) 0 aH (Nat.zero_le _) ⟨rfl, rfl, trivial⟩ rfl ?_
 rintro o hol
 refine wH ?_
 by_cases hoi : o < ops.length
 · have hq := opsK_at hoi
   have hfm := opsK_mem hoi
   have hsn : foldU ((ops.take (o + 1)).flatMap (stpsF n p)) p = foldU (stpsF n p (ops.getD o default)) (foldU ((ops.take o).flatMap (stpsF n p)) p) := by
    rw [take_snoc default hoi, List.flatMap_append, foldU_app]; simp
   have hP0 : (foldU ((ops.take o).flatMap (stpsF n p)) p).length = n := by rw [foldU_len]; exact hpl
   obtain ⟨ha0, ha3, htl, -⟩ := ho _ hfm
   generalize hf : ops.getD o default = f at *
   generalize foldU ((ops.take o).flatMap (stpsF n p)) p = P0 at *
   obtain ⟨a, ha⟩ : ∃ a : Nat, f.ar = a := ⟨f.ar.toNat, by omega⟩
   have haa : f.ar.toNat = a := by omega
   have hpw := pow_le3 (show n ≤ 1000 by omega) (show a ≤ 3 by omega)
   rw [haa] at htl
   repeat' (first
| refine wO ?_
| (refine o_go rfl ?_; (first
| refine wS ?_); refine ⟨_, aA, ?_⟩)
| (refine zK rfl ?_ ?_ <;> intro hc <;> try omega)
| refine wE ?_)
   all_goals try (exfalso; omega)
   refine g_loopT (α := Nat) (fun i => [(5, ints (foldU ((List.range i).flatMap (stpsI n p f)) P0)), (7, I (i : Int))]) (fun _ => []) (fun i => i ≤ n ^ a) (fun i => n ^ a - i) 0 aH (Nat.zero_le _) ⟨rfl, rfl, trivial⟩ rfl ?_
   rintro i hi
   refine wH ?_
   by_cases hil : i < n ^ a
   · have hs2 : foldU ((List.range (i + 1)).flatMap (stpsI n p f)) P0 = foldU (stpsI n p f i) (foldU ((List.range i).flatMap (stpsI n p f)) P0) := by
      rw [List.range_succ, List.flatMap_append, foldU_app]; simp
     have hP1 : (foldU ((List.range i).flatMap (stpsI n p f)) P0).length = n := by rw [foldU_len]; exact hP0
     generalize foldU ((List.range i).flatMap (stpsI n p f)) P0 = P1 at *
     have h2 := sargs_c n a i hn0 (by omega) (by omega) (by omega)
     rw [← ha] at h2
     have hal := argsL_len n a i
     have hain := argsL_in hn0 a i
     repeat' (first
| refine wO ?_
| refine zP zk zk ?_
| (refine o_go rfl ?_; (first
| refine p_p (zG rfl rfl aD (h2)) ?_
| refine p_p (zN rfl rfl rfl zz hq ze) ?_
| refine wS ?_); refine ⟨_, aA, ?_⟩)
| (refine zK rfl ?_ ?_ <;> intro hc <;> try omega)
| refine wE ?_)
     all_goals try (exfalso; omega)
     refine g_loopT (α := Nat) (fun k => [(5, ints (foldU ((List.range k).map (stpF n p f i)) P1)), (9, I (k : Int))]) (fun _ => []) (fun k => k ≤ a) (fun k => a - k) 0 aH (Nat.zero_le _) ⟨rfl, rfl, trivial⟩ rfl ?_
     rintro k hk
     refine wH ?_
     by_cases hka : k < a
     · have hdl := dig_lt hn0 i (a - 1 - k)
       have hbl := hp.lt hdl
       have hix1 : ((argsL n a i).map I)[((k : Nat) : Int).toNat]? = some (I (digN n i (a - 1 - k) : Int)) := by rw [← args_at a i k hka]; exact idx_I (by omega)
       have hix2 : (p.map I)[((digN n i (a - 1 - k) : Nat) : Int).toNat]? = some (I (bk p (digN n i (a - 1 - k)) : Int)) := by rw [← hp.val hdl]; exact idx_I (by omega)
       have hix3 : (f.tb.map I)[((i : Nat) : Int).toNat]? = some (I (bk f.tb i : Int)) := by rw [← tb_val ho hfm (by rw [haa]; exact hil)]; exact idx_I (by omega)
       have hsl := sub_lt hil (show a - 1 - k < a by omega) hbl
       have hval := sval_c n ops o ((argsL n a i).set k (bk p (digN n i (a - 1 - k)) : Int)) hn hl hoi (by rw [List.length_set]; omega) (set_in hain (by omega) (by omega)) (by rw [List.length_set, hf, hal]; exact htl)
       rw [idx_set hn0 a i k _ hka hil, hf, Int.toNat_natCast, tb_val ho hfm (by rw [haa]; exact hsl), ints_set] at hval
       have hst : stpF n p f i k = (bk f.tb i, bk f.tb (subN n i (a - 1 - k) (bk p (digN n i (a - 1 - k))))) := by unfold stpF; rw [haa]
       have hlt := (stp_lt hn0 ho hp hfm (by rw [haa]; exact hil) (by rw [haa]; exact hka) : (stpF n p f i k).1 < n ∧ (stpF n p f i k).2 < n)
       rw [hst] at hlt
       have hun := sun_c (foldU ((List.range k).map (stpF n p f i)) P1) (bk f.tb i) (bk f.tb (subN n i (a - 1 - k) (bk p (digN n i (a - 1 - k))))) (by rw [foldU_len]; omega) (by rw [foldU_len]; omega) (by rw [foldU_len]; omega)
       have hs3 : foldU ((List.range (k + 1)).map (stpF n p f i)) P1 = unL (foldU ((List.range k).map (stpF n p f i)) P1) (bk f.tb i) (bk f.tb (subN n i (a - 1 - k) (bk p (digN n i (a - 1 - k))))) := by
        rw [range_snoc, foldU_app, hst]; rfl
       rw [← hs3] at hun
       repeat' (first
| refine wO ?_
| refine zP zk zk ?_
| (refine o_go rfl ?_; (first
| refine p_e rfl (e_callR rfl rfl aD rfl (own_R _ (by rw [argsL_len]; omega))) ?_
| refine p_p (zN rfl rfl rfl zz hix1 ze) ?_
| refine p_p (zN rfl rfl rfl zz hix2 ze) ?_
| refine p_e zk (e_store_arr rfl rfl rfl rfl (by simp; omega) rfl rfl) ?_
| refine p_p (zN rfl rfl rfl zz hq ze) ?_
| refine p_p (zN rfl rfl rfl zz hix3 ze) ?_
| refine p_p (ps_callM rfl rfl aD (by rfl) (hval)) ?_
| refine p_p (zG rfl rfl aD (hun)) ?_
| refine wS ?_
| refine p_p (ps_load_agg rfl rfl aK) ?_); refine ⟨_, aA, ?_⟩)
| (refine zK rfl ?_ ?_ <;> intro hc <;> try omega)
| refine wE ?_)
       all_goals try (exfalso; omega)
       exact zT (k + 1) (by omega) (by omega) aI ⟨rfl, rfl, trivial⟩ (zM _)
     · repeat' (first
| refine wO ?_
| (refine o_go rfl ?_; (first
| refine wS ?_); refine ⟨_, aA, ?_⟩)
| (refine zK rfl ?_ ?_ <;> intro hc <;> try omega)
| refine wE ?_)
       all_goals try (exfalso; omega)
       refine zT (i + 1) (by omega) (by omega) aI ⟨?_, rfl, trivial⟩ (zM _)
       rw [hs2, show k = a by omega]
       unfold stpsI
       rw [haa]; rfl
   · repeat' (first
| refine wO ?_
| (refine o_go rfl ?_; (first
| refine p_p (zN rfl rfl rfl zz hq ze) ?_
| refine wS ?_); refine ⟨_, aA, ?_⟩)
| (refine zK rfl ?_ ?_ <;> intro hc <;> try omega)
| refine wE ?_)
     all_goals try (exfalso; omega)
     refine zT (o + 1) (by omega) (by omega) aI ⟨?_, rfl, trivial⟩ (zM _)
     rw [hsn, show i = n ^ a by omega]
     unfold stpsF
     rw [haa]; rfl
 · repeat' (first
| refine wO ?_
| (refine o_go rfl ?_; (first
| refine wS ?_); refine ⟨_, aA, ?_⟩)
| (refine zK rfl ?_ ?_ <;> intro hc <;> try omega)
| refine kr1 ?_
| refine krS rfl ?_
| refine wE ?_)
   all_goals try (exfalso; omega)
   rw [List.take_of_length_le (by omega)]; rfl
def cgB (n : Nat) (ops : List OpD) (p : List Int) : Bool := ptB n p && decide (pushL n ops p = p)
theorem cgB_iff {n : Nat} {ops : List OpD} {p : List Int} (hn : 0 < n) (ho : opsIn n ops) : cgB n ops p = true ↔ Pt n p ∧ Cong n ops p := by
 unfold cgB
 rw [Bool.and_eq_true, ptB_iff, decide_eq_true_eq]
 exact ⟨fun ⟨h1, h2⟩ => ⟨h1, (push_same hn ho h1).1 h2⟩, fun ⟨h1, h2⟩ => ⟨h1, (push_same hn ho h1).2 h2⟩⟩
theorem sis_c (n : Nat) (ops : List OpD) (p : List Int) (hn0 : 0 < n) (hn : n ≤ 8) (hl : ops.length ≤ 1048576) (ho : opsIn n ops) (hp : p.length ≤ 1048576) : PCalls Tryz.prog 144 [algP n ops, ints p] (B (cgB n ops p)) := by
 refine pcalls1 Tryz.func144 rfl Tryz.ntmps144 rfl ?_
 refine wF ?_
 have h1 := sptn_c n p (by omega) hp
 unfold cgB
 cases hb : ptB n p with
 | false =>
  rw [hb] at h1
  repeat' (first
| refine wO ?_
| (refine o_go rfl ?_; (first
| refine p_p (zG rfl rfl aD (h1)) ?_
| refine wS ?_
| refine p_p (ps_box rfl rfl) ?_); refine ⟨_, aA, ?_⟩)
| (refine o_s rfl ?_; refine ⟨_, aA, ?_⟩)
| refine kr1 ?_
| refine krB rfl ?_
| refine wE ?_)
  all_goals first | rfl | (exfalso; omega)
 | true =>
  rw [hb] at h1
  have h2 := spush_c n ops p hn0 hn hl ho (ptB_iff.1 hb)
  have h3 := gsame_c (pushL n ops p) p (by have := (push_pt hn0 ho (ptB_iff.1 hb)).len; omega)
  repeat' (first
| refine wO ?_
| (refine o_go rfl ?_; (first
| refine p_p (zG rfl rfl aD (h1)) ?_
| refine p_p (zG rfl rfl aD (h2)) ?_
| refine p_p (zG rfl rfl aD (h3)) ?_
| refine wS ?_
| refine p_p (ps_load_agg rfl rfl aK) ?_
| refine p_p (ps_box rfl rfl) ?_); refine ⟨_, aA, ?_⟩)
| refine kr1 ?_
| refine krB rfl ?_
| refine wE ?_)
  all_goals first | rfl | (exfalso; omega)
theorem iterP_len {n : Nat} {ops : List OpD} {p : List Int} (hn : 0 < n) (ho : opsIn n ops) (hp : Pt n p) (k : Nat) : Pt n (iterP n ops k p) := (iter_facts hn ho hp k).1
theorem iterP_succ (n : Nat) (ops : List OpD) : ∀ (k : Nat) (p : List Int), iterP n ops (k + 1) p = pushL n ops (iterP n ops k p) := by
 intro k p
 first
 | rfl
 | (induction k generalizing p with
  | zero => rfl
  | succ k ih => rw [show iterP n ops (k + 1 + 1) p = iterP n ops (k + 1) (pushL n ops p) from rfl, ih]; rfl)
theorem sclose_c (n : Nat) (ops : List OpD) (p : List Int) (hn0 : 0 < n) (hn : n ≤ 8) (hl : ops.length ≤ 1048576) (ho : opsIn n ops) (hp : Pt n p) : PCalls Tryz.prog 250 [algP n ops, ints p] (ints (closeL n ops p)) := by
 refine pcalls1 Tryz.func250 rfl Tryz.ntmps250 rfl ?_
 refine wF ?_
 repeat' (first
| refine wO ?_
| (refine o_go rfl ?_; (first
| refine wS ?_
| refine p_p (ps_box rfl rfl) ?_); refine ⟨_, aA, ?_⟩))
 refine g_loopT (α := Nat) (fun k => [(1, ints (iterP n ops k p)), (5, I (k : Int))]) (fun _ => []) (fun k => k ≤ n) (fun k => n - k) 0 aH (Nat.zero_le _) ⟨rfl, rfl, trivial⟩ rfl ?_
 rintro k hk
 refine wH ?_
 by_cases hkn : k < n
 · have h1 := spush_c n ops (iterP n ops k p) hn0 hn hl ho (iterP_len hn0 ho hp k)
   rw [← iterP_succ] at h1
   repeat' (first
| refine wO ?_
| (refine o_go rfl ?_; (first
| refine p_p (zG rfl rfl aD (h1)) ?_
| refine wS ?_
| refine p_p (ps_load_agg rfl rfl aK) ?_); refine ⟨_, aA, ?_⟩)
| (refine zK rfl ?_ ?_ <;> intro hc <;> try omega)
| refine wE ?_)
   all_goals try (exfalso; omega)
   exact zT (k + 1) (by omega) (by omega) aI ⟨rfl, rfl, trivial⟩ (zM _)
 · repeat' (first
| refine wO ?_
| (refine o_go rfl ?_; (first
| refine wS ?_); refine ⟨_, aA, ?_⟩)
| (refine zK rfl ?_ ?_ <;> intro hc <;> try omega)
| refine kr1 ?_
| refine krS rfl ?_
| refine wE ?_)
   all_goals try (exfalso; omega)
   rw [show k = n by omega]; rfl
theorem sprin_c (n : Nat) (ops : List OpD) (x y : Nat) (hn : n ≤ 8) (hl : ops.length ≤ 1048576) (ho : opsIn n ops) (hx : x < n) (hy : y < n) : PCalls Tryz.prog 219 [algP n ops, I (x : Int), I (y : Int)] (ints (cgL n ops x y)) := by
 refine pcalls1 Tryz.func219 rfl Tryz.ntmps219 rfl ?_
 refine wF ?_
 have h1 := sident_c n (by omega)
 have hid := idL_pt n
 have h2 := sun_c (idL n) x y (by rw [hid.len]; omega) (by rw [hid.len]; omega) (by rw [hid.len]; omega)
 have h3 := sclose_c n ops (unL (idL n) x y) (by omega) hn hl ho (unL_pt hid hx hy)
 repeat' (first
| refine wO ?_
| refine zP zk zk ?_
| (refine o_go rfl ?_; (first
| refine p_p (zG rfl rfl aD (h1)) ?_
| refine p_p (zG rfl rfl aD (h2)) ?_
| refine p_p (zG rfl rfl aD (h3)) ?_
| refine wS ?_
| refine p_p (ps_load_agg rfl rfl aK) ?_
| refine p_p (ps_box rfl rfl) ?_); refine ⟨_, aA, ?_⟩)
| refine kr1 ?_
| refine krS rfl ?_
| refine wE ?_)
 all_goals first | rfl | (exfalso; omega)
theorem algOk_facts {n : Int} {ops : List OpD} (h : algOk n ops = true) : ∃ m : Nat, n = m ∧ 0 < m ∧ m ≤ 8 ∧ ops.length ≤ 4 ∧ opsIn m ops := by
 unfold algOk at h
 simp only [Bool.and_eq_true, decide_eq_true_eq] at h
 have h1 := inB_iff.1 h.1
 refine ⟨n.toNat, by omega, by omega, by omega, h.2.1, opsIn_of fun f hf => List.all_eq_true.1 h.2.2 f hf⟩
end Go.Proofs.YtbohjibbgppfaaaGreat
