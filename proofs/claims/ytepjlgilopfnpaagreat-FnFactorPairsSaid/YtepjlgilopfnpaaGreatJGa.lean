/- Algebras: their values, and the first walks of both sides. -/
import Derived.Test.YtepjlgilopfnpaaGreatJNb
import Derived.Test.YtepjlgilopfnpaaGreatJSq
set_option linter.unusedSectionVars false
namespace Go.Pv
open Go
attribute [local semireducible] Go.Pv.PStep
section
variable {P : Program} {o : Oper} {ev : Operand → PV} {hp : List HO}
theorem ps_quo {t rt : TypeId} {x y : Operand} {a b : Int} (ho : o.op = .binOp .quo t x y rt) (h1 : ev x = I a) (h2 : ev y = I b) (h0 : 0 ≤ a) (hb : 0 < b) (ha : a ≤ 9223372036854775807) : PStep P o ev hp (I (a / b)) :=
 ps_bin ho h1 h2 fun w => by
  have h3 : a.tdiv b = a / b := Int.tdiv_eq_ediv_of_nonneg h0
  have h4 : 0 ≤ a / b := Int.ediv_nonneg h0 (by omega)
  have h5 : a / b ≤ a := Int.ediv_le_self b h0
  simp only [eqGuard_quo, binOp_quo, Op.intDiv, if_neg (show ¬ b = 0 by omega), h3]
  rw [show IntKind.i64.wrap (a / b) = a / b by rw [IntKind.wrap_i64]; omega]; rfl
end
end Go.Pv
namespace Go.Proofs.YtepjlgilopfnpaaGreat
open Go Go.Pv Go.Proofs
set_option maxHeartbeats 32000000
set_option maxRecDepth 100000

structure OpD where
 ar : Int
 tb : List Int
 deriving DecidableEq, Inhabited
abbrev opP (f : OpD) : PV := .agg [I f.ar, ints f.tb]
abbrev opsP (l : List OpD) : PV := .sl 2 none (l.map opP)
abbrev algP (n : Int) (l : List OpD) : PV := .agg [I n, opsP l]
def opOk (n : Nat) (f : OpD) : Bool := inB f.ar 0 3 && (decide (f.tb.length = n ^ f.ar.toNat) && inSizeB f.tb n)
def algOk (n : Int) (l : List OpD) : Bool := inB n 1 8 && (decide (l.length ≤ 4) && l.all (opOk n.toNat))
theorem vI {a b : Int} (h : a = b) : some (I a) = some (I b) := by rw [h]
theorem inB_iff {x a b : Int} : inB x a b = true ↔ a ≤ x ∧ x ≤ b := by
 unfold inB; simp
theorem inB_false {x a b : Int} : inB x a b = false ↔ ¬ (a ≤ x ∧ x ≤ b) := by
 rw [← inB_iff]; simp
def szOk (l : List OpD) : Prop := l.length ≤ 1048576 ∧ ∀ f ∈ l, f.tb.length ≤ 1048576
theorem pow_le3 {n k : Nat} (hn : n ≤ 1000) (hk : k ≤ 3) : n ^ k ≤ 1000000000 := by
 calc n ^ k ≤ 1000 ^ k := Nat.pow_le_pow_left hn k
  _ ≤ 1000 ^ 3 := Nat.pow_le_pow_right (by decide) hk
  _ = 1000000000 := by decide
theorem pow_c (n k : Nat) (hn : n ≤ 1000) (hk : k ≤ 3) : PCalls Tryz.prog 94 [I (n : Int), I (k : Int)] (I ((n ^ k : Nat) : Int)) := by
 refine pcalls1 Tryz.func94 rfl Tryz.ntmps94 rfl ?_
 refine wF ?_
 repeat' (first
| refine wO ?_
| (refine o_go rfl ?_; (first
| refine wS ?_); refine ⟨_, aB, ?_⟩))
 refine g_loopT (α := Nat) (fun j => [(1, I ((k - j : Nat) : Int)), (5, I ((n ^ j : Nat) : Int))]) (fun _ => []) (fun j => j ≤ k) (fun j => k - j) 0 aH (Nat.zero_le _) ⟨rfl, rfl, trivial⟩ rfl ?_
 rintro j hj
 refine wH ?_
 have h1 := pow_le3 hn (Nat.le_trans hj hk)
 have hs : (n ^ j : Nat) * n = n ^ (j + 1) := (Nat.pow_succ ..).symm
 by_cases hjk : j < k
 · have h2 := pow_le3 hn (show j + 1 ≤ 3 by omega)
   have hsi : ((n ^ j : Nat) : Int) * (n : Int) = ((n ^ (j + 1) : Nat) : Int) := by rw [← hs]; push_cast; rfl
   repeat' (first
| refine wO ?_
| (refine o_go rfl ?_; (first
| refine p_p (ps_mul rfl rfl rfl (by rw [hsi]; omega)) ?_
| refine wS ?_); refine ⟨_, aB, ?_⟩)
| (refine zK rfl ?_ ?_ <;> intro hc <;> try omega)
| refine wE ?_)
   all_goals try (exfalso; omega)
   exact zT (j + 1) (by omega) (by omega) aI ⟨vI (by omega), vI hsi, trivial⟩ (zM _)
 · repeat' (first
| refine wO ?_
| (refine o_go rfl ?_; (first
| refine wS ?_); refine ⟨_, aB, ?_⟩)
| (refine zK rfl ?_ ?_ <;> intro hc <;> try omega)
| refine kr1 ?_
| refine krI rfl ?_
| refine wE ?_)
   all_goals try (exfalso; omega)
   rw [show j = k by omega]
theorem power_c (n k : Nat) (hn : n ≤ 1000) (hk : k ≤ 3) : PCalls Tryz.prog 90 [I (n : Int), I (k : Int)] (I ((n ^ k : Nat) : Int)) := by
 refine pcalls1 Tryz.func90 rfl Tryz.ntmps90 rfl ?_
 refine wF ?_
 repeat' (first
| refine wO ?_
| (refine o_go rfl ?_; (first
| refine wS ?_); refine ⟨_, aB, ?_⟩))
 refine g_loopT (α := Nat) (fun j => [(1, I ((k - j : Nat) : Int)), (5, I ((n ^ j : Nat) : Int))]) (fun _ => []) (fun j => j ≤ k) (fun j => k - j) 0 aH (Nat.zero_le _) ⟨rfl, rfl, trivial⟩ rfl ?_
 rintro j hj
 refine wH ?_
 have h1 := pow_le3 hn (Nat.le_trans hj hk)
 have hs : (n ^ j : Nat) * n = n ^ (j + 1) := (Nat.pow_succ ..).symm
 by_cases hjk : j < k
 · have h2 := pow_le3 hn (show j + 1 ≤ 3 by omega)
   have hsi : ((n ^ j : Nat) : Int) * (n : Int) = ((n ^ (j + 1) : Nat) : Int) := by rw [← hs]; push_cast; rfl
   repeat' (first
| refine wO ?_
| (refine o_go rfl ?_; (first
| refine p_p (ps_mul rfl rfl rfl (by rw [hsi]; omega)) ?_
| refine wS ?_); refine ⟨_, aB, ?_⟩)
| (refine zK rfl ?_ ?_ <;> intro hc <;> try omega)
| refine wE ?_)
   all_goals try (exfalso; omega)
   exact zT (j + 1) (by omega) (by omega) aI ⟨vI (by omega), vI hsi, trivial⟩ (zM _)
 · repeat' (first
| refine wO ?_
| (refine o_go rfl ?_; (first
| refine wS ?_); refine ⟨_, aB, ?_⟩)
| (refine zK rfl ?_ ?_ <;> intro hc <;> try omega)
| refine kr1 ?_
| refine krI rfl ?_
| refine wE ?_)
   all_goals try (exfalso; omega)
   rw [show j = k by omega]

/-! ### Operations and algebras -/
theorem sop_c (n : Nat) (f : OpD) (hn : n ≤ 1000) (hf : f.tb.length ≤ 1048576) : PCalls Tryz.prog 148 [I (n : Int), opP f] (B (opOk n f)) := by
 refine pcalls1 Tryz.func148 rfl Tryz.ntmps148 rfl ?_
 refine wF ?_
 have h1 := in_c f.ar 0 3
 unfold opOk
 cases hi : inB f.ar 0 3 with
 | false =>
  rw [hi] at h1
  repeat' (first
| refine wO ?_
| refine zP zk zk ?_
| (refine o_go rfl ?_; (first
| refine p_p (zG rfl rfl aD (h1)) ?_
| refine wS ?_
| refine p_p (ps_box rfl rfl) ?_); refine ⟨_, aB, ?_⟩)
| (refine o_s rfl ?_; refine ⟨_, aB, ?_⟩)
| refine kr1 ?_
| refine krB rfl ?_
| refine wE ?_)
  all_goals rfl
 | true =>
  rw [hi] at h1
  have hi' := inB_iff.1 hi
  obtain ⟨k, hk⟩ : ∃ k : Nat, f.ar = k := ⟨f.ar.toNat, by omega⟩
  have h2 := pow_c n k hn (by omega)
  rw [← hk] at h2
  rw [show f.ar.toNat = k by omega]
  have hp := pow_le3 hn (show k ≤ 3 by omega)
  repeat' (first
| refine wO ?_
| refine zP zk zk ?_
| (refine o_go rfl ?_; (first
| refine p_p (zG rfl rfl aD (h1)) ?_
| refine p_p (zG rfl rfl aD (h2)) ?_
| refine wS ?_
| refine p_p (ps_box rfl rfl) ?_); refine ⟨_, aB, ?_⟩)
| (refine g_condN rfl ?_ ?_ <;> intro hc <;> try omega)
| refine kr1 ?_
| refine krB rfl ?_
| refine wE ?_)
  · rw [decide_eq_false (by omega)]; rfl
  rw [decide_eq_true (by omega)]
  refine g_loopT (α := Nat) (fun i => [(5, I (i : Int))]) (fun _ => []) (fun i => i ≤ f.tb.length ∧ (f.tb.take i).all (fun x => !(decide (x < 0) || decide ((n : Int) ≤ x))) = true) (fun i => f.tb.length - i) 0 aH ⟨Nat.zero_le _, rfl⟩ ⟨rfl, trivial⟩ rfl ?_
  rintro i ⟨hil, hall⟩
  refine wH ?_
  by_cases hit : i < f.tb.length
  · have h3 := in_c (f.tb.getD i 0) 0 ((n : Int) - 1)
    cases hb : inB (f.tb.getD i 0) 0 ((n : Int) - 1) with
    | false =>
     rw [hb] at h3
     repeat' (first
| refine wO ?_
| (refine o_go rfl ?_; (first
| refine p_p (zG rfl rfl aD (h3)) ?_
| refine wS ?_
| refine p_p (zN rfl rfl rfl zz aQ ze) ?_); refine ⟨_, aB, ?_⟩)
| (refine zK rfl ?_ ?_ <;> intro hc <;> try omega)
| refine kr1 ?_
| refine krB rfl ?_
| refine wE ?_)
     all_goals try (exfalso; omega)
     have := inB_false.1 hb
     refine Eq.symm (all_false_at (k := i) 0 hit ?_)
     simp only [Bool.not_eq_false', Bool.or_eq_true, decide_eq_true_eq]
     omega
    | true =>
     rw [hb] at h3
     repeat' (first
| refine wO ?_
| (refine o_go rfl ?_; (first
| refine p_p (zG rfl rfl aD (h3)) ?_
| refine wS ?_
| refine p_p (zN rfl rfl rfl zz aQ ze) ?_); refine ⟨_, aB, ?_⟩)
| (refine zK rfl ?_ ?_ <;> intro hc <;> try omega)
| refine wE ?_)
     all_goals try (exfalso; omega)
     refine zT (i + 1) ⟨by omega, ?_⟩ (by omega) aI ⟨rfl, trivial⟩ (zM _)
     have := inB_iff.1 hb
     rw [take_snoc 0 hit, all_snoc, hall, decide_eq_false (by omega), decide_eq_false (by omega)]; rfl
  · repeat' (first
| refine wO ?_
| (refine o_go rfl ?_; (first
| refine wS ?_); refine ⟨_, aB, ?_⟩)
| (refine zK rfl ?_ ?_ <;> intro hc <;> try omega)
| refine kr1 ?_
| refine krB rfl ?_
| refine wE ?_)
    all_goals try (exfalso; omega)
    rw [show i = f.tb.length by omega, List.take_length] at hall
    exact hall.symm
theorem iop_c (n : Nat) (f : OpD) (hn : n ≤ 1000) (hf : f.tb.length ≤ 1048576) : PCalls Tryz.prog 106 [opP f, I (n : Int)] (B (opOk n f)) := by
 refine pcalls1 Tryz.func106 rfl Tryz.ntmps106 rfl ?_
 refine wF ?_
 unfold opOk inB
 have h3 := inSize_c f.tb (n : Int) hf
 by_cases h0 : 0 ≤ f.ar
 · by_cases h33 : f.ar ≤ 3
   · obtain ⟨k, hk⟩ : ∃ k : Nat, f.ar = k := ⟨f.ar.toNat, by omega⟩
     have h2 := power_c n k hn (by omega)
     rw [← hk] at h2
     rw [show f.ar.toNat = k by omega]
     have hp := pow_le3 hn (show k ≤ 3 by omega)
     by_cases he : f.tb.length = n ^ k
     · repeat' (first
| refine wO ?_
| refine zP zk zk ?_
| (refine o_go rfl ?_; (first
| refine p_p (zG rfl rfl aD (h2)) ?_
| refine p_p (zG rfl rfl aD (h3)) ?_
| refine wS ?_
| refine p_p (ps_box rfl rfl) ?_); refine ⟨_, aB, ?_⟩)
| (refine o_splitD rfl rfl rfl ?_ ?_ <;> intro hc <;> first | omega | dsimp only [List.set_cons_zero, List.set_cons_succ])
| refine kr1 ?_
| refine krB rfl ?_
| refine wE ?_)
       all_goals try (exfalso; omega)
       rw [decide_eq_true (show 0 ≤ f.ar by omega), decide_eq_true (show f.ar ≤ 3 by omega), decide_eq_true he]; rfl
     · repeat' (first
| refine wO ?_
| refine zP zk zk ?_
| (refine o_go rfl ?_; (first
| refine p_p (zG rfl rfl aD (h2)) ?_
| refine wS ?_
| refine p_p (ps_box rfl rfl) ?_); refine ⟨_, aB, ?_⟩)
| (refine o_s rfl ?_; refine ⟨_, aB, ?_⟩)
| (refine o_splitD rfl rfl rfl ?_ ?_ <;> intro hc <;> first | omega | dsimp only [List.set_cons_zero, List.set_cons_succ])
| refine kr1 ?_
| refine krB rfl ?_
| refine wE ?_)
       all_goals try (exfalso; omega)
       rw [decide_eq_false he, Bool.false_and, Bool.and_false]
   · repeat' (first
| refine wO ?_
| refine zP zk zk ?_
| (refine o_go rfl ?_; (first
| refine wS ?_
| refine p_p (ps_box rfl rfl) ?_); refine ⟨_, aB, ?_⟩)
| (refine o_s rfl ?_; refine ⟨_, aB, ?_⟩)
| (refine o_splitD rfl rfl rfl ?_ ?_ <;> intro hc <;> first | omega | dsimp only [List.set_cons_zero, List.set_cons_succ])
| refine kr1 ?_
| refine krB rfl ?_
| refine wE ?_)
     all_goals try (exfalso; omega)
     rw [decide_eq_false h33, Bool.and_false]; rfl
 · repeat' (first
| refine wO ?_
| refine zP zk zk ?_
| (refine o_go rfl ?_; (first
| refine wS ?_
| refine p_p (ps_box rfl rfl) ?_); refine ⟨_, aB, ?_⟩)
| (refine o_s rfl ?_; refine ⟨_, aB, ?_⟩)
| (refine o_splitD rfl rfl rfl ?_ ?_ <;> intro hc <;> first | omega | dsimp only [List.set_cons_zero, List.set_cons_succ])
| refine kr1 ?_
| refine krB rfl ?_
| refine wE ?_)
   all_goals try (exfalso; omega)
   rw [decide_eq_false h0]; rfl
theorem sgood_c (n : Int) (l : List OpD) (hl : szOk l) : PCalls Tryz.prog 92 [algP n l] (B (algOk n l)) := by
 refine pcalls1 Tryz.func92 rfl Tryz.ntmps92 rfl ?_
 refine wF ?_
 have hll := hl.1
 have h1 := in_c n 1 8
 unfold algOk
 cases hi : inB n 1 8 with
 | false =>
  rw [hi] at h1
  repeat' (first
| refine wO ?_
| (refine o_go rfl ?_; (first
| refine p_p (zG rfl rfl aD (h1)) ?_
| refine wS ?_
| refine p_p (ps_box rfl rfl) ?_); refine ⟨_, aB, ?_⟩)
| (refine o_s rfl ?_; refine ⟨_, aB, ?_⟩)
| refine kr1 ?_
| refine krB rfl ?_
| refine wE ?_)
  all_goals rfl
 | true =>
  rw [hi] at h1
  have hi' := inB_iff.1 hi
  obtain ⟨m, rfl⟩ : ∃ m : Nat, n = m := ⟨n.toNat, by omega⟩
  rw [Int.toNat_natCast]
  by_cases h4 : l.length ≤ 4
  · rw [decide_eq_true h4]
    repeat' (first
| refine wO ?_
| (refine o_go rfl ?_; (first
| refine p_p (zG rfl rfl aD (h1)) ?_
| refine wS ?_
| refine p_p (ps_box rfl rfl) ?_); refine ⟨_, aB, ?_⟩)
| (refine zK rfl ?_ ?_ <;> intro hc <;> try omega)
| refine wE ?_)
    all_goals try (exfalso; omega)
    refine g_loopT (α := Nat) (fun i => [(3, I (i : Int))]) (fun _ => []) (fun i => i ≤ l.length ∧ (l.take i).all (opOk m) = true) (fun i => l.length - i) 0 aH ⟨Nat.zero_le _, rfl⟩ ⟨rfl, trivial⟩ rfl ?_
    rintro i ⟨hil, hall⟩
    refine wH ?_
    by_cases hit : i < l.length
    · have hx := sop_c m (l.getD i default) (by omega) (hl.2 _ (by rw [List.getD_eq_getElem?_getD, List.getElem?_eq_getElem hit]; exact List.getElem_mem _))
      have hq : (l.map opP)[((i : Nat) : Int).toNat]? = some (opP (l.getD i default)) := by
       rw [Int.toNat_natCast, List.getElem?_map, List.getElem?_eq_getElem hit, List.getD_eq_getElem?_getD, List.getElem?_eq_getElem hit]; rfl
      cases hb : opOk m (l.getD i default) with
      | false =>
       rw [hb] at hx
       repeat' (first
| refine wO ?_
| refine zP zk zk ?_
| (refine o_go rfl ?_; (first
| refine p_p (zG rfl rfl aD (hx)) ?_
| refine p_p (zN rfl rfl rfl zz hq ze) ?_
| refine wS ?_
| refine p_p (ps_load_agg rfl rfl aK) ?_); refine ⟨_, aB, ?_⟩)
| (refine zK rfl ?_ ?_ <;> intro hc <;> try omega)
| refine kr1 ?_
| refine krB rfl ?_
| refine wE ?_)
       all_goals try (exfalso; omega)
       exact Eq.symm (all_false_at (k := i) default hit hb)
      | true =>
       rw [hb] at hx
       repeat' (first
| refine wO ?_
| refine zP zk zk ?_
| (refine o_go rfl ?_; (first
| refine p_p (zG rfl rfl aD (hx)) ?_
| refine p_p (zN rfl rfl rfl zz hq ze) ?_
| refine wS ?_
| refine p_p (ps_load_agg rfl rfl aK) ?_); refine ⟨_, aB, ?_⟩)
| (refine zK rfl ?_ ?_ <;> intro hc <;> try omega)
| refine wE ?_)
       all_goals try (exfalso; omega)
       refine zT (i + 1) ⟨by omega, ?_⟩ (by omega) aI ⟨rfl, trivial⟩ (zM _)
       rw [take_snoc default hit, all_snoc, hall, hb]; rfl
    · repeat' (first
| refine wO ?_
| (refine o_go rfl ?_; (first
| refine wS ?_); refine ⟨_, aB, ?_⟩)
| (refine zK rfl ?_ ?_ <;> intro hc <;> try omega)
| refine kr1 ?_
| refine krB rfl ?_
| refine wE ?_)
      all_goals try (exfalso; omega)
      rw [show i = l.length by omega, List.take_length] at hall
      exact hall.symm
  · rw [decide_eq_false h4]
    repeat' (first
| refine wO ?_
| (refine o_go rfl ?_; (first
| refine p_p (zG rfl rfl aD (h1)) ?_
| refine wS ?_
| refine p_p (ps_box rfl rfl) ?_); refine ⟨_, aB, ?_⟩)
| (refine zK rfl ?_ ?_ <;> intro hc <;> try omega)
| refine kr1 ?_
| refine krB rfl ?_
| refine wE ?_)
    all_goals try (exfalso; omega)
    rfl
theorem igood_c (n : Int) (l : List OpD) (hl : szOk l) : PCalls Tryz.prog 53 [algP n l] (B (algOk n l)) := by
 refine pcalls1 Tryz.func53 rfl Tryz.ntmps53 rfl ?_
 refine wF ?_
 have hll := hl.1
 unfold algOk
 by_cases h1 : n < 1
 · rw [show inB n 1 8 = false from inB_false.2 (by omega)]
   repeat' (first
| refine wO ?_
| (refine o_go rfl ?_; (first
| refine wS ?_
| refine p_p (ps_box rfl rfl) ?_); refine ⟨_, aB, ?_⟩)
| (refine o_s rfl ?_; refine ⟨_, aB, ?_⟩)
| (refine o_splitD rfl rfl rfl ?_ ?_ <;> intro hc <;> first | omega | dsimp only [List.set_cons_zero, List.set_cons_succ])
| refine kr1 ?_
| refine krB rfl ?_
| refine wE ?_)
   all_goals first | rfl | (exfalso; omega)
 by_cases h2 : 8 < n
 · rw [show inB n 1 8 = false from inB_false.2 (by omega)]
   repeat' (first
| refine wO ?_
| (refine o_go rfl ?_; (first
| refine wS ?_
| refine p_p (ps_box rfl rfl) ?_); refine ⟨_, aB, ?_⟩)
| (refine o_s rfl ?_; refine ⟨_, aB, ?_⟩)
| (refine o_splitD rfl rfl rfl ?_ ?_ <;> intro hc <;> first | omega | dsimp only [List.set_cons_zero, List.set_cons_succ])
| refine kr1 ?_
| refine krB rfl ?_
| refine wE ?_)
   all_goals first | rfl | (exfalso; omega)
 rw [show inB n 1 8 = true from inB_iff.2 (by omega)]
 obtain ⟨m, rfl⟩ : ∃ m : Nat, n = m := ⟨n.toNat, by omega⟩
 rw [Int.toNat_natCast]
 by_cases h4 : l.length ≤ 4
 · rw [decide_eq_true h4]
   repeat' (first
| refine wO ?_
| (refine o_go rfl ?_; (first
| refine wS ?_
| refine p_p (ps_box rfl rfl) ?_); refine ⟨_, aB, ?_⟩)
| (refine o_splitD rfl rfl rfl ?_ ?_ <;> intro hc <;> first | omega | dsimp only [List.set_cons_zero, List.set_cons_succ])
| (refine zK rfl ?_ ?_ <;> intro hc <;> try omega)
| refine wE ?_)
   all_goals try (exfalso; omega)
   refine g_loopT (α := Nat) (fun i => [(22, I (i : Int))]) (fun _ => []) (fun i => i ≤ l.length ∧ (l.take i).all (opOk m) = true) (fun i => l.length - i) 0 aH ⟨Nat.zero_le _, rfl⟩ ⟨rfl, trivial⟩ rfl ?_
   rintro i ⟨hil, hall⟩
   refine wH ?_
   by_cases hit : i < l.length
   · have hx := iop_c m (l.getD i default) (by omega) (hl.2 _ (by rw [List.getD_eq_getElem?_getD, List.getElem?_eq_getElem hit]; exact List.getElem_mem _))
     have hq : (l.map opP)[((i : Nat) : Int).toNat]? = some (opP (l.getD i default)) := by
      rw [Int.toNat_natCast, List.getElem?_map, List.getElem?_eq_getElem hit, List.getD_eq_getElem?_getD, List.getElem?_eq_getElem hit]; rfl
     cases hb : opOk m (l.getD i default) with
     | false =>
      rw [hb] at hx
      repeat' (first
| refine wO ?_
| (refine o_go rfl ?_; (first
| refine p_p (zG rfl rfl aD (hx)) ?_
| refine p_p (zN rfl rfl rfl zz hq ze) ?_
| refine wS ?_
| refine p_p (ps_load_agg rfl rfl aK) ?_
| refine p_e rfl (zO rfl rfl rfl rfl aK rfl rfl rfl) ?_
| refine p_e rfl (e_alloc rfl) ?_); refine ⟨_, aB, ?_⟩)
| (refine zK rfl ?_ ?_ <;> intro hc <;> try omega)
| refine kr1 ?_
| refine krB rfl ?_
| refine wE ?_)
      all_goals try (exfalso; omega)
      exact Eq.symm (all_false_at (k := i) default hit hb)
     | true =>
      rw [hb] at hx
      repeat' (first
| refine wO ?_
| (refine o_go rfl ?_; (first
| refine p_p (zG rfl rfl aD (hx)) ?_
| refine p_p (zN rfl rfl rfl zz hq ze) ?_
| refine wS ?_
| refine p_p (ps_load_agg rfl rfl aK) ?_
| refine p_e rfl (zO rfl rfl rfl rfl aK rfl rfl rfl) ?_
| refine p_e rfl (e_alloc rfl) ?_); refine ⟨_, aB, ?_⟩)
| (refine zK rfl ?_ ?_ <;> intro hc <;> try omega)
| refine wE ?_)
      all_goals try (exfalso; omega)
      refine zT (i + 1) ⟨by omega, ?_⟩ (by omega) aI ⟨rfl, trivial⟩ (zM _)
      rw [take_snoc default hit, all_snoc, hall, hb]; rfl
   · repeat' (first
| refine wO ?_
| (refine o_go rfl ?_; (first
| refine wS ?_); refine ⟨_, aB, ?_⟩)
| (refine zK rfl ?_ ?_ <;> intro hc <;> try omega)
| refine kr1 ?_
| refine krB rfl ?_
| refine wE ?_)
     all_goals try (exfalso; omega)
     rw [show i = l.length by omega, List.take_length] at hall
     exact hall.symm
 · rw [decide_eq_false h4]
   repeat' (first
| refine wO ?_
| (refine o_go rfl ?_; (first
| refine wS ?_
| refine p_p (ps_box rfl rfl) ?_); refine ⟨_, aB, ?_⟩)
| (refine o_splitD rfl rfl rfl ?_ ?_ <;> intro hc <;> first | omega | dsimp only [List.set_cons_zero, List.set_cons_succ])
| (refine zK rfl ?_ ?_ <;> intro hc <;> try omega)
| refine kr1 ?_
| refine krB rfl ?_
| refine wE ?_)
   all_goals try (exfalso; omega)
   rfl
/-! ### Arguments of an index -/
def argsL (n : Nat) : Nat → Nat → List Int
 | 0, _ => []
 | k + 1, i => argsL n k (i / n) ++ [((i % n : Nat) : Int)]
theorem argsL_len (n : Nat) : ∀ k i, (argsL n k i).length = k
 | 0, _ => rfl
 | k + 1, i => by rw [argsL, List.length_append, argsL_len]; rfl
theorem argsL_in {n : Nat} (hn : 0 < n) : ∀ k i, ∀ x ∈ argsL n k i, 0 ≤ x ∧ x < (n : Int)
 | 0, _, x, hx => by simp [argsL] at hx
 | k + 1, i, x, hx => by
  rw [argsL, List.mem_append] at hx
  rcases hx with hx | hx
  · exact argsL_in hn k _ x hx
  · simp only [List.mem_singleton] at hx
    have := Nat.mod_lt i hn
    omega
def idxL (n : Int) (args : List Int) : Int := args.foldl (fun i x => i * n + x) 0
theorem idxL_snoc (n : Int) (l : List Int) (x : Int) : idxL n (l ++ [x]) = idxL n l * n + x := by unfold idxL; rw [List.foldl_append]; rfl
theorem idxL_argsL {n : Nat} (hn : 0 < n) : ∀ k i, i < n ^ k → idxL n (argsL n k i) = (i : Int)
 | 0, i, h => by have : i = 0 := by simpa using h
                 subst this; rfl
 | k + 1, i, h => by
  rw [argsL, idxL_snoc, idxL_argsL hn k (i / n) (by rw [Nat.div_lt_iff_lt_mul hn, ← Nat.pow_succ]; exact h)]
  have := Nat.div_add_mod i n
  have h2 : (((i / n * n + i % n : Nat)) : Int) = (i : Int) := by rw [Nat.mul_comm, this]
  push_cast at h2 ⊢
  exact h2
theorem idxF_bound {n : Nat} : ∀ (l : List Int) (a : Int) (m : Nat), (∀ x ∈ l, 0 ≤ x ∧ x < (n : Int)) → 0 ≤ a → a < ((n ^ m : Nat) : Int) → 0 ≤ l.foldl (fun (i x : Int) => i * (n : Int) + x) a ∧ l.foldl (fun (i x : Int) => i * (n : Int) + x) a < ((n ^ (m + l.length) : Nat) : Int)
 | [], a, m, _, h0, h1 => ⟨h0, h1⟩
 | x :: l, a, m, h, h0, h1 => by
  obtain ⟨h3, h4⟩ := h x (by simp)
  have hm : 0 ≤ a * (n : Int) := Int.mul_nonneg h0 (by omega)
  have h5 : (a + 1) * (n : Int) ≤ ((n ^ m : Nat) : Int) * (n : Int) := Int.mul_le_mul_of_nonneg_right (by omega) (by omega)
  have h6 : ((n ^ m : Nat) : Int) * (n : Int) = ((n ^ (m + 1) : Nat) : Int) := by rw [Nat.pow_succ]; push_cast; rfl
  rw [Int.add_mul, Int.one_mul] at h5
  have := idxF_bound l (a * n + x) (m + 1) (fun y hy => h y (by simp [hy])) (by omega) (by omega)
  rw [List.foldl_cons, List.length_cons, show m + (l.length + 1) = m + 1 + l.length by omega]
  exact this
theorem idxL_bound {n : Nat} (l : List Int) (h : ∀ x ∈ l, 0 ≤ x ∧ x < (n : Int)) : 0 ≤ idxL n l ∧ idxL n l < ((n ^ l.length : Nat) : Int) := by
 have := idxF_bound l 0 0 h (Int.le_refl _) (by simp)
 rw [Nat.zero_add] at this
 exact this
theorem rep_set {j : Nat} {s : List Int} {v : Int} : (List.replicate (j + 1) (0 : Int) ++ s).set j v = List.replicate j 0 ++ v :: s := by
 rw [List.replicate_succ', List.append_assoc, List.set_append_right _ _ (by simp), List.length_replicate, Nat.sub_self]; rfl
theorem sargs_c (n k i : Nat) (hn : 0 < n) (hn2 : n ≤ 1000000) (hk : k ≤ 1000) (hi : i ≤ 1000000000) : PCalls Tryz.prog 131 [I (n : Int), I (k : Int), I (i : Int)] (ints (argsL n k i)) := by
 refine pcalls1 Tryz.func131 rfl Tryz.ntmps131 rfl ?_
 refine wF ?_
 repeat' (first
| refine wO ?_
| (refine o_go rfl ?_; (first
| refine wS ?_
| refine p_e rfl (e_make1 rfl rfl rfl zz zz zz rfl rfl) ?_); refine ⟨_, aB, ?_⟩))
 refine g_loopT (α := Nat × Nat × List Int) (fun x => [(2, I (x.2.1 : Int)), (8, I ((x.1 : Int) - 1))]) (fun x => [.arr true 1 3 ((List.replicate x.1 (0 : Int) ++ x.2.2).map I)]) (fun x => x.1 ≤ k ∧ x.2.1 ≤ 1000000000 ∧ x.1 + x.2.2.length = k ∧ argsL n k i = argsL n x.1 x.2.1 ++ x.2.2) (fun x => x.1) (k, i, []) aH ⟨Nat.le_refl _, hi, rfl, by simp⟩ ⟨rfl, rfl, trivial⟩ (by simp) ?_
 rintro ⟨j, i', s⟩ ⟨h1, h2, h3, h4⟩
 dsimp only at h1 h2 h3 h4
 refine wH ?_
 have hlen : ((List.replicate j (0 : Int) ++ s).map I).length = k := by simp; omega
 rcases j with _ | j
 · repeat' (first
| refine wO ?_
| (refine o_go rfl ?_; (first
| refine wS ?_); refine ⟨_, aB, ?_⟩)
| refine kr1 ?_
| refine krS rfl ?_
| refine wE ?_)
   all_goals try (exfalso; omega)
   rw [h4]; rfl
 · have hm : (i' : Int) % (n : Int) = ((i' % n : Nat) : Int) := by omega
   have hd : (i' : Int) / (n : Int) = ((i' / n : Nat) : Int) := by omega
   have hle := Nat.div_le_self i' n
   repeat' (first
| refine wO ?_
| (refine o_go rfl ?_; (first
| refine p_p (ps_rem rfl rfl rfl zz zz) ?_
| refine p_p (ps_quo rfl rfl rfl zz zz zz) ?_
| refine p_e zk (e_store_arr rfl rfl rfl rfl zz rfl rfl) ?_
| refine wS ?_); refine ⟨_, aB, ?_⟩)
| (refine zK rfl ?_ ?_ <;> intro hc <;> try omega)
| refine wE ?_)
   all_goals try (exfalso; omega)
   refine zT (j, i' / n, ((i' % n : Nat) : Int) :: s) ⟨by dsimp only; omega, by dsimp only; omega, by simp only [List.length_cons]; omega, by rw [h4]; show argsL n j (i' / n) ++ [_] ++ s = _; rw [List.append_assoc]; rfl⟩ (by dsimp only; omega) aI ⟨vI hd, vI (by dsimp only; omega), trivial⟩ (zB ?_ (zM _))
   rw [hm, show (((j + 1 : Nat) : Int) - 1).toNat * 1 = j by omega, ← List.map_set, rep_set]
end Go.Proofs.YtepjlgilopfnpaaGreat
