/- Walks: partitions, joins, meets and closures, the program's side. -/
import Derived.Test.YtepjlgilopfnpaaGreatJKi
import Derived.Test.YtepjlgilopfnpaaGreatJGf
set_option linter.unusedSectionVars false
namespace Go.Pv
open Go
attribute [local semireducible] Go.Pv.PStep
section
variable {P : Program} {o : Oper} {ev : Operand → PV} {hp : List HO}
theorem ps_mulV {t rt : TypeId} {x y : Operand} {a b c : Int} (ho : o.op = .binOp .mul t x y rt) (h1 : ev x = I a) (h2 : ev y = I b) (h : a * b = c) (hr : -9223372036854775808 ≤ c ∧ c ≤ 9223372036854775807) : PStep P o ev hp (I c) := by subst h; exact ps_mul ho h1 h2 hr
theorem ps_addV {t rt : TypeId} {x y : Operand} {a b c : Int} (ho : o.op = .binOp .add t x y rt) (h1 : ev x = I a) (h2 : ev y = I b) (h : a + b = c) (hr : -9223372036854775808 ≤ c ∧ c ≤ 9223372036854775807) : PStep P o ev hp (I c) := by subst h; exact ps_add ho h1 h2 hr
theorem ps_quoV {t rt : TypeId} {x y : Operand} {a b c : Int} (ho : o.op = .binOp .quo t x y rt) (h1 : ev x = I a) (h2 : ev y = I b) (h : a / b = c) (h0 : 0 ≤ a) (hb : 0 < b) (ha : a ≤ 9223372036854775807) : PStep P o ev hp (I c) := by subst h; exact ps_quo ho h1 h2 h0 hb ha
theorem ps_remV {t rt : TypeId} {x y : Operand} {a b c : Int} (ho : o.op = .binOp .rem t x y rt) (h1 : ev x = I a) (h2 : ev y = I b) (h : a % b = c) (h0 : 0 ≤ a) (hb : 0 < b) : PStep P o ev hp (I c) := by subst h; exact ps_rem ho h1 h2 h0 hb
end
end Go.Pv
namespace Go.Proofs.YtepjlgilopfnpaaGreat
open Go Go.Pv Go.Proofs
set_option maxHeartbeats 32000000
set_option maxRecDepth 100000

theorem mid_at {p : List Int} {g : Int → Int} {i : Nat} (hi : i < p.length) : (((p.take i).map g ++ p.drop i).map I)[i * 1]? = some (I (p.getD i 0)) := by
 rw [Nat.mul_one, List.getElem?_map, List.getElem?_append_right (by rw [List.length_map, List.length_take]; omega), List.length_map, List.length_take, Nat.min_eq_left (by omega), Nat.sub_self, List.getElem?_drop, List.getElem?_eq_getElem (by omega), List.getD_eq_getElem?_getD, List.getElem?_eq_getElem hi]
 rfl
theorem mid_next {p : List Int} {g : Int → Int} {i : Nat} (hi : i < p.length) : (p.take (i + 1)).map g ++ p.drop (i + 1) = (p.take i).map g ++ g (p.getD i 0) :: p.drop (i + 1) := by
 rw [take_snoc 0 hi, List.map_append, List.append_assoc]; rfl
theorem mid_set {p : List Int} {g : Int → Int} {i : Nat} (hi : i < p.length) : (((p.take i).map g ++ p.drop i).map I).set (i * 1) (I (g (p.getD i 0))) = ((p.take (i + 1)).map g ++ p.drop (i + 1)).map I := by
 rw [mid_next hi, Nat.mul_one, ← List.map_set, List.set_append_right _ _ (by rw [List.length_map, List.length_take]; omega), List.length_map, List.length_take, Nat.min_eq_left (by omega), Nat.sub_self, drop_cons 0 hi]
 rfl
theorem mid_same {p : List Int} {g : Int → Int} {i : Nat} (hi : i < p.length) (hg : g (p.getD i 0) = p.getD i 0) : (p.take (i + 1)).map g ++ p.drop (i + 1) = (p.take i).map g ++ p.drop i := by
 rw [mid_next hi, hg, drop_cons 0 hi]
theorem mid_len {p : List Int} {g : Int → Int} {i : Nat} (hi : i ≤ p.length) : (((p.take i).map g ++ p.drop i).map I).length = p.length := by simp; omega
theorem unL_self {p : List Int} {x y : Nat} (h : p.getD x 0 = p.getD y 0) : unL p x y = p := by
 unfold unL
 rw [h, Int.max_self, Int.min_self]
 conv => rhs; rw [← List.map_id p]
 congr 1
 funext z
 split
 · next e => exact e.symm
 · rfl
theorem iun_L (p : List Int) (x y : Nat) (hp : p.length ≤ 1048576) (hx : x < p.length) (hy : y < p.length) :
 LCalls Tryz.prog 157 (.arr true 1 3 (p.map I)) [.hp 0, I (x : Int), I (y : Int)] (.arr true 1 3 ((unL p x y).map I)) (B (decide (p.getD x 0 ≠ p.getD y 0))) := by
 refine pcallsL1 Tryz.func157 rfl Tryz.ntmps157 rfl rfl rfl (by simp) fun b d => ?_
 simp only [List.length_cons, List.length_nil, Nat.reduceAdd, Nat.reduceSub, List.replicate_succ, List.replicate_zero]
 have hix : (p.map I)[x * 1]? = some (I (p.getD x 0)) := by rw [Nat.mul_one]; exact idx_I hx
 have hiy : (p.map I)[y * 1]? = some (I (p.getD y 0)) := by rw [Nat.mul_one]; exact idx_I hy
 have hpl : (p.map I).length = p.length := List.length_map _
 by_cases he : p.getD x 0 = p.getD y 0
 · rw [unL_self he, decide_eq_false (fun h => h he)]
   repeat' (first
| refine wO ?_
| refine zP zk zk ?_
| (refine o_go rfl ?_; (first
| refine p_p (ps_unv (yA rfl rfl rfl rfl zz (by rw [n_toNat]; omega))) ?_
| refine p_p (ps_load_arr rfl rfl rfl hix (by rfl)) ?_
| refine p_p (ps_load_arr rfl rfl rfl hiy (by rfl)) ?_
| refine wS ?_); refine ⟨_, aB, ?_⟩)
| (refine zK rfl ?_ ?_ <;> intro hc <;> try omega)
| refine wE ?_)
   all_goals try (exfalso; omega)
   exact krl 0 rfl rfl rfl (krB rfl rfl)
 have hne : p.getD x 0 ≠ p.getD y 0 := he
 by_cases hlt : p.getD y 0 < p.getD x 0
 · have hu : unL p x y = p.map fun z => if z = p.getD x 0 then p.getD y 0 else z := by unfold unL; rw [Int.max_eq_left (by omega), Int.min_eq_right (by omega)]
   generalize p.getD x 0 = hi at *
   generalize p.getD y 0 = lo at *
   repeat' (first
| refine wO ?_
| refine zP zk zk ?_
| (refine o_go rfl ?_; (first
| refine p_p (ps_unv (yA rfl rfl rfl rfl zz (by rw [n_toNat]; omega))) ?_
| refine p_p (ps_load_arr rfl rfl rfl hix (by rfl)) ?_
| refine p_p (ps_load_arr rfl rfl rfl hiy (by rfl)) ?_
| refine p_p (ps_unv (ps_len_mut rfl rfl rfl rfl)) ?_
| refine wS ?_); refine ⟨_, aB, ?_⟩)
| (refine zK rfl ?_ ?_ <;> intro hc <;> try omega)
| refine wE ?_)
   all_goals try (exfalso; omega)
   refine g_loopT (α := Nat) (fun i => [(26, I (i : Int))]) (fun i => [.arr true 1 3 (((p.take i).map (fun z => if z = hi then lo else z) ++ p.drop i).map I)]) (fun i => i ≤ p.length) (fun i => p.length - i) 0 aH (Nat.zero_le _) ⟨rfl, trivial⟩ rfl ?_
   rintro i hi'
   refine wH ?_
   have hll := mid_len (p := p) (g := fun z => if z = hi then lo else z) hi'
   by_cases hil : i < p.length
   · have hix2 := mid_at (p := p) (g := fun z => if z = hi then lo else z) hil
     by_cases he : p.getD i 0 = hi
     · have hst := mid_set (p := p) (g := fun z => if z = hi then lo else z) hil
       rw [if_pos he] at hst
       repeat' (first
| refine wO ?_
| (refine o_go rfl ?_; (first
| refine p_p (ps_unv (yA rfl rfl rfl rfl zz (by rw [n_toNat]; omega))) ?_
| refine p_p (ps_load_arr rfl rfl rfl hix2 (by rfl)) ?_
| refine wS ?_
| refine p_e rfl (e_store_arr rfl rfl rfl rfl aR rfl rfl) ?_); refine ⟨_, aB, ?_⟩)
| (refine zK rfl ?_ ?_ <;> intro hc <;> try omega)
| refine wE ?_)
       all_goals try (exfalso; omega)
       exact zT (i + 1) (by omega) (by omega) aI ⟨rfl, trivial⟩ (zB (congrArg (HO.arr true 1 3) hst) (zM _))
     · have hst := mid_same (p := p) (g := fun z => if z = hi then lo else z) hil (if_neg he)
       repeat' (first
| refine wO ?_
| (refine o_go rfl ?_; (first
| refine p_p (ps_unv (yA rfl rfl rfl rfl zz (by rw [n_toNat]; omega))) ?_
| refine p_p (ps_load_arr rfl rfl rfl hix2 (by rfl)) ?_
| refine wS ?_); refine ⟨_, aB, ?_⟩)
| (refine zK rfl ?_ ?_ <;> intro hc <;> try omega)
| refine wE ?_)
       all_goals try (exfalso; omega)
       exact zT (i + 1) (by omega) (by omega) aI ⟨rfl, trivial⟩ (zB (congrArg (fun l : List Int => HO.arr true 1 3 (l.map I)) hst.symm) (zM _))
   · repeat' (first
| refine wO ?_
| (refine o_go rfl ?_; (first
| refine wS ?_); refine ⟨_, aB, ?_⟩)
| (refine zK rfl ?_ ?_ <;> intro hc <;> try omega)
| refine wE ?_)
     all_goals try (exfalso; omega)
     refine krl 0 rfl ?_ rfl (krB rfl ?_)
     · rw [hu, List.take_of_length_le (by omega), List.drop_eq_nil_of_le (by omega), List.append_nil]
     · exact (decide_eq_true hne).symm
 · have hu : unL p x y = p.map fun z => if z = p.getD y 0 then p.getD x 0 else z := by unfold unL; rw [Int.max_eq_right (by omega), Int.min_eq_left (by omega)]
   generalize p.getD x 0 = lo at *
   generalize p.getD y 0 = hi at *
   repeat' (first
| refine wO ?_
| refine zP zk zk ?_
| (refine o_go rfl ?_; (first
| refine p_p (ps_unv (yA rfl rfl rfl rfl zz (by rw [n_toNat]; omega))) ?_
| refine p_p (ps_load_arr rfl rfl rfl hix (by rfl)) ?_
| refine p_p (ps_load_arr rfl rfl rfl hiy (by rfl)) ?_
| refine p_p (ps_unv (ps_len_mut rfl rfl rfl rfl)) ?_
| refine wS ?_); refine ⟨_, aB, ?_⟩)
| (refine zK rfl ?_ ?_ <;> intro hc <;> try omega)
| refine wE ?_)
   all_goals try (exfalso; omega)
   refine g_loopT (α := Nat) (fun i => [(26, I (i : Int))]) (fun i => [.arr true 1 3 (((p.take i).map (fun z => if z = hi then lo else z) ++ p.drop i).map I)]) (fun i => i ≤ p.length) (fun i => p.length - i) 0 aH (Nat.zero_le _) ⟨rfl, trivial⟩ rfl ?_
   rintro i hi'
   refine wH ?_
   have hll := mid_len (p := p) (g := fun z => if z = hi then lo else z) hi'
   by_cases hil : i < p.length
   · have hix2 := mid_at (p := p) (g := fun z => if z = hi then lo else z) hil
     by_cases he : p.getD i 0 = hi
     · have hst := mid_set (p := p) (g := fun z => if z = hi then lo else z) hil
       rw [if_pos he] at hst
       repeat' (first
| refine wO ?_
| (refine o_go rfl ?_; (first
| refine p_p (ps_unv (yA rfl rfl rfl rfl zz (by rw [n_toNat]; omega))) ?_
| refine p_p (ps_load_arr rfl rfl rfl hix2 (by rfl)) ?_
| refine wS ?_
| refine p_e rfl (e_store_arr rfl rfl rfl rfl aR rfl rfl) ?_); refine ⟨_, aB, ?_⟩)
| (refine zK rfl ?_ ?_ <;> intro hc <;> try omega)
| refine wE ?_)
       all_goals try (exfalso; omega)
       exact zT (i + 1) (by omega) (by omega) aI ⟨rfl, trivial⟩ (zB (congrArg (HO.arr true 1 3) hst) (zM _))
     · have hst := mid_same (p := p) (g := fun z => if z = hi then lo else z) hil (if_neg he)
       repeat' (first
| refine wO ?_
| (refine o_go rfl ?_; (first
| refine p_p (ps_unv (yA rfl rfl rfl rfl zz (by rw [n_toNat]; omega))) ?_
| refine p_p (ps_load_arr rfl rfl rfl hix2 (by rfl)) ?_
| refine wS ?_); refine ⟨_, aB, ?_⟩)
| (refine zK rfl ?_ ?_ <;> intro hc <;> try omega)
| refine wE ?_)
       all_goals try (exfalso; omega)
       exact zT (i + 1) (by omega) (by omega) aI ⟨rfl, trivial⟩ (zB (congrArg (fun l : List Int => HO.arr true 1 3 (l.map I)) hst.symm) (zM _))
   · repeat' (first
| refine wO ?_
| (refine o_go rfl ?_; (first
| refine wS ?_); refine ⟨_, aB, ?_⟩)
| (refine zK rfl ?_ ?_ <;> intro hc <;> try omega)
| refine wE ?_)
     all_goals try (exfalso; omega)
     refine krl 0 rfl ?_ rfl (krB rfl ?_)
     · rw [hu, List.take_of_length_le (by omega), List.drop_eq_nil_of_le (by omega), List.append_nil]
     · exact (decide_eq_true hne).symm
theorem ident_R (n : Nat) (hn : n ≤ 1048576) : RCalls Tryz.prog 72 [I (n : Int)] (.arr true 1 3 ((idL n).map I)) (.hp 0) := by
 refine pcallsR1 Tryz.func72 rfl Tryz.ntmps72 rfl ?_
 refine wF ?_
 have hrep : (List.replicate n (PV.val (Value.int IntKind.i64 0))).length = n := List.length_replicate
 repeat' (first
| refine wO ?_
| (refine o_go rfl ?_; (first
| refine wS ?_
| refine p_p (ps_len_mut rfl rfl rfl rfl) ?_
| refine p_e rfl (e_make1 rfl rfl rfl zz zz zz rfl rfl) ?_); refine ⟨_, aB, ?_⟩))
 refine g_loopT (α := Nat) (fun i => [(9, I (i : Int))]) (fun i => [.arr true 1 3 (((List.range i).map (fun (y : Nat) => (y : Int)) ++ List.replicate (n - i) 0).map I)]) (fun i => i ≤ n) (fun i => n - i) 0 aH (Nat.zero_le _) ⟨rfl, trivial⟩ (by simp) ?_
 rintro i hi
 refine wH ?_
 have hll : (((List.range i).map (fun (y : Nat) => (y : Int)) ++ List.replicate (n - i) 0).map I).length = n := by simp; omega
 have hrl : ((List.range i).map (fun (y : Nat) => (y : Int))).length = i := by simp
 by_cases hil : i < n
 · repeat' (first
| refine wO ?_
| (refine o_go rfl ?_; (first
| refine p_e zk (e_store_arr rfl rfl rfl rfl zz rfl rfl) ?_
| refine wS ?_); refine ⟨_, aB, ?_⟩)
| (refine zK rfl ?_ ?_ <;> intro hc <;> try omega)
| refine wE ?_)
   all_goals try (exfalso; omega)
   refine zT (i + 1) (by omega) (by omega) aI ⟨rfl, trivial⟩ (zB ?_ (zM _))
   rw [range_snoc, Nat.mul_one, ← List.map_set, List.set_append_right _ _ (by omega), hrl, Nat.sub_self, show n - i = (n - (i + 1)) + 1 by omega, List.replicate_succ, List.append_assoc]; rfl
 · repeat' (first
| refine wO ?_
| (refine o_go rfl ?_; (first
| refine wS ?_); refine ⟨_, aB, ?_⟩)
| (refine zK rfl ?_ ?_ <;> intro hc <;> try omega)
| refine krr 0 rfl (HandOut.arr rfl ?_ aS)
| refine wE ?_)
   all_goals try (exfalso; omega)
   rw [show i = n by omega, Nat.sub_self]
   simp [idL]
theorem iptn_c (n : Nat) (p : List Int) (hn : n ≤ 1048576) (hp : p.length ≤ 1048576) : PCalls Tryz.prog 107 [I (n : Int), ints p] (B (ptB n p)) := by
 refine pcalls1 Tryz.func107 rfl Tryz.ntmps107 rfl ?_
 refine wF ?_
 unfold ptB
 by_cases hln : p.length = n
 · rw [decide_eq_true hln]
   repeat' (first
| refine wO ?_
| (refine o_go rfl ?_; (first
| refine wS ?_); refine ⟨_, aB, ?_⟩)
| (refine g_condN rfl ?_ ?_ <;> intro hc <;> try omega)
| refine wE ?_)
   all_goals try (exfalso; omega)
   refine g_loopT (α := Nat) (fun x => [(13, I (x : Int))]) (fun _ => []) (fun x => x ≤ n ∧ (List.range x).all (ptX p) = true) (fun x => n - x) 0 aH ⟨Nat.zero_le _, rfl⟩ ⟨rfl, trivial⟩ rfl ?_
   rintro x ⟨hx, hall⟩
   refine wH ?_
   by_cases hxn : x < n
   · by_cases h0 : p.getD x 0 < 0
     · have hX : ptX p x = false := by rw [← Bool.not_eq_true, ptX_iff]; omega
       repeat' (first
| refine wO ?_
| (refine o_go rfl ?_; (first
| refine wS ?_
| refine p_p (zN rfl rfl rfl zz aQ ze) ?_); refine ⟨_, aB, ?_⟩)
| (refine o_s rfl ?_; refine ⟨_, aB, ?_⟩)
| (refine o_splitD rfl rfl rfl ?_ ?_ <;> intro hc <;> first | omega | dsimp only [List.set_cons_zero, List.set_cons_succ])
| (refine zK rfl ?_ ?_ <;> intro hc <;> try omega)
| refine kr1 ?_
| refine krB rfl ?_
| refine wE ?_)
       all_goals try (exfalso; omega)
       rw [all_range_at hxn hX]; rfl
     by_cases h1 : (x : Int) < p.getD x 0
     · have hX : ptX p x = false := by rw [← Bool.not_eq_true, ptX_iff]; omega
       repeat' (first
| refine wO ?_
| (refine o_go rfl ?_; (first
| refine wS ?_
| refine p_p (zN rfl rfl rfl zz aQ ze) ?_); refine ⟨_, aB, ?_⟩)
| (refine o_s rfl ?_; refine ⟨_, aB, ?_⟩)
| (refine o_splitD rfl rfl rfl ?_ ?_ <;> intro hc <;> first | omega | dsimp only [List.set_cons_zero, List.set_cons_succ])
| (refine zK rfl ?_ ?_ <;> intro hc <;> try omega)
| refine kr1 ?_
| refine krB rfl ?_
| refine wE ?_)
       all_goals try (exfalso; omega)
       rw [all_range_at hxn hX]; rfl
     by_cases he : p.getD (p.getD x 0).toNat 0 = p.getD x 0
     · have hX : ptX p x = true := ptX_iff.2 ⟨by omega, by omega, he⟩
       repeat' (first
| refine wO ?_
| (refine o_go rfl ?_; (first
| refine wS ?_
| refine p_p (zN rfl rfl rfl zz aQ ze) ?_); refine ⟨_, aB, ?_⟩)
| (refine o_splitD rfl rfl rfl ?_ ?_ <;> intro hc <;> first | omega | dsimp only [List.set_cons_zero, List.set_cons_succ])
| (refine g_condN rfl ?_ ?_ <;> intro hc <;> try omega)
| (refine zK rfl ?_ ?_ <;> intro hc <;> try omega)
| refine wE ?_)
       all_goals try (exfalso; omega)
       exact zT (x + 1) ⟨by omega, by rw [all_range_succ, hall, hX]; rfl⟩ (by omega) aI ⟨rfl, trivial⟩ (zM _)
     · have hX : ptX p x = false := by rw [← Bool.not_eq_true, ptX_iff]; exact fun h => he h.2.2
       repeat' (first
| refine wO ?_
| (refine o_go rfl ?_; (first
| refine wS ?_
| refine p_p (zN rfl rfl rfl zz aQ ze) ?_); refine ⟨_, aB, ?_⟩)
| (refine o_splitD rfl rfl rfl ?_ ?_ <;> intro hc <;> first | omega | dsimp only [List.set_cons_zero, List.set_cons_succ])
| (refine g_condN rfl ?_ ?_ <;> intro hc <;> try omega)
| (refine zK rfl ?_ ?_ <;> intro hc <;> try omega)
| refine kr1 ?_
| refine krB rfl ?_
| refine wE ?_)
       all_goals try (exfalso; omega)
       rw [all_range_at hxn hX]; rfl
   · repeat' (first
| refine wO ?_
| (refine o_go rfl ?_; (first
| refine wS ?_); refine ⟨_, aB, ?_⟩)
| (refine zK rfl ?_ ?_ <;> intro hc <;> try omega)
| refine kr1 ?_
| refine krB rfl ?_
| refine wE ?_)
     all_goals try (exfalso; omega)
     rw [show x = n by omega] at hall
     rw [hall]; rfl
 · rw [decide_eq_false hln]
   repeat' (first
| refine wO ?_
| (refine o_go rfl ?_; (first
| refine wS ?_); refine ⟨_, aB, ?_⟩)
| (refine g_condN rfl ?_ ?_ <;> intro hc <;> try omega)
| refine kr1 ?_
| refine krB rfl ?_
| refine wE ?_)
   all_goals first | rfl | (exfalso; omega)
end Go.Proofs.YtepjlgilopfnpaaGreat
