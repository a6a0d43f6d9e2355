/- Walks: all congruences and chains as they are told. -/
import Derived.Test.YtbohjibbgppfaaaGreatJKt
import Derived.Test.YtbohjibbgppfaaaGreatJKv
import Derived.Test.YtbohjibbgppfaaaGreatJAu
import Derived.Test.YtbohjibbgppfaaaGreatJKd
import Derived.Test.YtbohjibbgppfaaaGreatJKn
import Derived.Test.YtbohjibbgppfaaaGreatJSq
import Derived.Test.YtbohjibbgppfaaaGreatJKg
import Derived.Test.YtbohjibbgppfaaaGreatJGb
import Derived.Test.YtbohjibbgppfaaaGreatJZb
import Derived.Test.YtbohjibbgppfaaaGreatJHl
import Derived.Test.YtbohjibbgppfaaaGreatJKz
import Derived.Test.YtbohjibbgppfaaaGreatJLy
import Derived.Test.YtbohjibbgppfaaaGreatJKi
set_option linter.unusedSectionVars false
namespace Go.Proofs.YtbohjibbgppfaaaGreat
open Go Go.Pv Go.Proofs
set_option maxHeartbeats 32000000
set_option maxRecDepth 100000
attribute [local bitvec_to_nat] St.put St.setObj St.ev killP killA killP1 killH mapHO renP renA ren1 killG killGA killG1 krowP krowA krow1 lendP lendA lend1 unv pinP pin1 elemsM viewM viewN viewV n_set_z n_set_s n_map_c n_map_n getD_z getD_s n_toNat n_cond_t n_cond_f n_len_c n_len_n n_app_c n_app_n n_take_s n_take_z n_drop_s n_drop_z n_get_z n_get_s view viewA view1 elems Nat.zero_add Nat.add_zero Bool.not_true Bool.not_false Nat.one_ne_zero Nat.mul_one

theorem icongs_c (n : Int) (ops : List OpD) (hs : szOk ops) : PCalls Tryz.prog 92 [algP n ops] (.tup [if acB n ops then intss (acV n ops) else nilV, B (acB n ops)]) := by
  refine pcalls2 Tryz.func92 rfl Tryz.ntmps92 rfl ?_
  refine wF ?_
  have h1 := igood_c n ops hs
  cases hg : algOk n ops with
  | false =>
    have hb : acB n ops = false := by unfold acB; rw [hg]; rfl
    rw [hg] at h1
    rw [hb, if_neg (by decide)]
    repeat' (first
| refine wO ?_
| (refine o_go rfl ?_; (first
| refine p_p (zG rfl rfl aB (h1)) ?_
| refine wS ?_
| refine p_p (ps_load_agg rfl rfl aK) ?_
| refine p_p (ps_box rfl rfl) ?_); refine ⟨_, aA, ?_⟩)
| refine kr2 ?_ ?_
| refine krB rfl ?_
| refine wE ?_)
    all_goals first | rfl | (exfalso; omega) | exact krV rfl | exact krB rfl rfl
  | true =>
    rw [hg] at h1
    obtain ⟨m, rfl, hm0, hm8, h4, ho⟩ := algOk_facts hg
    have h2 := iallc_c m ops hm0 hm8 (by omega) ho
    by_cases hle : (allL m ops).length ≤ 200
    · have hb : acB m ops = true := by unfold acB; rw [hg, Int.toNat_natCast, decide_eq_true hle]; rfl
      rw [if_pos hle, decide_eq_true hle] at h2
      rw [show acV (m : Int) ops = allL m ops by unfold acV; rw [hb, if_pos rfl, Int.toNat_natCast], hb, if_pos rfl]
      repeat' (first
| refine wO ?_
| (refine o_go rfl ?_; (first
| refine p_p (zG rfl rfl aB (h1)) ?_
| refine p_p (zG rfl rfl aB (h2)) ?_
| refine wS ?_
| refine p_p (ps_load_agg rfl rfl aK) ?_
| refine p_p (ps_box rfl rfl) ?_); refine ⟨_, aA, ?_⟩)
| refine kr2 ?_ ?_
| refine krB rfl ?_
| refine krS rfl ?_
| refine wE ?_)
      all_goals first | rfl | (exfalso; omega) | exact krV rfl | exact krB rfl rfl
    · have hb : acB m ops = false := by unfold acB; rw [hg, Int.toNat_natCast, decide_eq_false hle]; rfl
      rw [if_neg hle, decide_eq_false hle] at h2
      rw [hb, if_neg (by decide)]
      repeat' (first
| refine wO ?_
| (refine o_go rfl ?_; (first
| refine p_p (zG rfl rfl aB (h1)) ?_
| refine p_p (zG rfl rfl aB (h2)) ?_
| refine wS ?_
| refine p_p (ps_load_agg rfl rfl aK) ?_
| refine p_p (ps_box rfl rfl) ?_); refine ⟨_, aA, ?_⟩)
| refine kr2 ?_ ?_
| refine krB rfl ?_
| refine wE ?_)
      all_goals first | rfl | (exfalso; omega) | exact krV rfl | exact krB rfl rfl
end Go.Proofs.YtbohjibbgppfaaaGreat
/- Walks: congruences that permute, triples, the program's side. -/
namespace Go.Proofs.YtbohjibbgppfaaaGreat
open Go Go.Pv Go.Proofs

theorem range_findSome_none {β : Type} {f : Nat → Option β} {n : Nat} (h : ∀ i, i < n → f i = none) : (List.range n).findSome? f = none := List.findSome?_eq_none_iff.2 fun i hi => h i (List.mem_range.1 hi)
theorem range_findSome_at {β : Type} {f : Nat → Option β} {n k : Nat} {b : β} (hk : k < n) (hf : f k = some b) (h : ∀ i, i < k → f i = none) : (List.range n).findSome? f = some b := by
  have e : List.range n = List.range k ++ k :: (List.range (n - k - 1)).map (fun i => k + 1 + i) := by
    have h1 : n = k + (1 + (n - k - 1)) := by omega
    conv => lhs; rw [h1]
    rw [List.range_add, List.range_add, List.map_append, List.map_map]
    congr 1
    simp [Function.comp_def, Nat.add_assoc]
  rw [e, List.findSome?_append, range_findSome_none h, List.findSome?_cons, hf]; rfl
end Go.Proofs.YtbohjibbgppfaaaGreat
/- Walks: lists in order are searched; relations of partitions, both sides. -/
namespace Go.Proofs.YtbohjibbgppfaaaGreat
open Go Go.Pv Go.Proofs
theorem rowI_at {p : List Int} {x : Nat} (h : x < p.length) : (p.map I)[((x : Nat) : Int).toNat]? = some (I (p.getD x 0)) := by rw [Int.toNat_natCast]; exact idx_I h
end Go.Proofs.YtbohjibbgppfaaaGreat
/- Walks: relations made and composed, the program's side. -/
namespace Go.Pv
open Go
attribute [local semireducible] Go.Pv.PStep
section
variable {P : Program} {o : Oper} {ev : Operand → PV} {hp : List HO}
theorem ps_subV {t rt : TypeId} {x y : Operand} {a b c : Int} (ho : o.op = .binOp .sub t x y rt) (h1 : ev x = I a) (h2 : ev y = I b) (h : a - b = c) (hr : -9223372036854775808 ≤ c ∧ c ≤ 9223372036854775807) : PStep P o ev hp (I c) := by subst h; exact ps_sub ho h1 h2 hr
end
end Go.Pv
/- Walks: meets of partitions, few congruences, the reference's side. -/
namespace Go.Proofs.YtbohjibbgppfaaaGreat
open Go Go.Pv Go.Proofs
set_option maxHeartbeats 32000000
set_option maxRecDepth 100000
attribute [local bitvec_to_nat] St.put St.setObj St.ev killP killA killP1 killH mapHO renP renA ren1 killG killGA killG1 krowP krowA krow1 lendP lendA lend1 unv pinP pin1 elemsM viewM viewN viewV n_set_z n_set_s n_map_c n_map_n getD_z getD_s n_toNat n_cond_t n_cond_f n_len_c n_len_n n_app_c n_app_n n_take_s n_take_z n_drop_s n_drop_z n_get_z n_get_s view viewA view1 elems Nat.zero_add Nat.add_zero Bool.not_true Bool.not_false Nat.one_ne_zero Nat.mul_one

theorem smeet6_c (n : Nat) (p q : List Int) (hn : n ≤ 1000) (hp : Pt n p) (hq : Pt n q) : PCalls Tryz.prog 201 [ints p, ints q] (ints (meetP n p q)) := by
  refine pcalls1 Tryz.func201 rfl Tryz.ntmps201 rfl ?_
  refine wF ?_
  have hpl := hp.len
  have hql := hq.len
  repeat' (first
| refine wO ?_
| (refine o_go rfl ?_; (first
| refine p_e rfl (e_lit0T rfl (by decide)) ?_
| refine wS ?_); refine ⟨_, aA, ?_⟩))
  refine g_loopF (α := Nat) [8] (fun x => [(5, .hp 0), (6, I (x : Int))]) (fun x => [.arr true 1 3 (((meetP n p q).take x).map I)]) (fun x => x ≤ n) (fun x => n - x) 0 aF (Nat.zero_le _) ⟨rfl, rfl, trivial⟩ rfl ?_
  rintro x hx
  dsimp only [zZ, List.set_cons_zero, List.set_cons_succ]
  have hml : (meetP n p q).length = n := meet_pt.len
  have hll : (((meetP n p q).take x).map I).length = x := by rw [List.length_map, List.length_take, hml]; omega
  by_cases hxn : x < n
  · have hsn : (meetP n p q).take (x + 1) = (meetP n p q).take x ++ [(meetP n p q).getD x 0] := take_snoc 0 (by omega)
    have px := rowI_at (p := p) (x := x) (by omega)
    have qx := rowI_at (p := q) (x := x) (by omega)
    have hmv : (meetP n p q).getD x 0 = (bk (meetP n p q) x : Int) := meet_pt.val hxn
    have hmx := meet_pt (n := n) (p := p) (q := q) |>.lt hxn
    have hR := fun y (hy : y < n) => meet_R (p := p) (q := q) (n := n) hy hxn
    have hle := fun y (hy : y < n) (h : bk (meetP n p q) y = bk (meetP n p q) x) => (meet_pt (n := n) (p := p) (q := q)).le y hy
    have hid := (meet_pt (n := n) (p := p) (q := q)).id x hxn
    repeat' (first
| refine wO ?_
| (refine o_go rfl ?_; (first
| refine wS ?_); refine ⟨_, aA, ?_⟩)
| (refine zK rfl (fun hc => ?_) (fun hc => ?_) <;> try (exfalso; omega))
| refine wE ?_)
    all_goals try (exfalso; omega)
    refine g_loopT (α := Nat) (fun y => [(7, I (y : Int))]) (fun _ => [.arr true 1 3 (((meetP n p q).take x).map I)]) (fun y => y ≤ bk (meetP n p q) x) (fun y => bk (meetP n p q) x - y) 0 aF (Nat.zero_le _) ⟨rfl, trivial⟩ rfl ?_
    rintro y hy
    dsimp only [zZ, List.set_cons_zero, List.set_cons_succ]
    have hyn : y < n := by omega
    have py := rowI_at (p := p) (x := y) (by omega)
    have qy := rowI_at (p := q) (x := y) (by omega)
    by_cases hym : y = bk (meetP n p q) x
    · have hs := (hR y hyn).1 (by rw [hym]; exact hid)
      have e1 : p.getD y 0 = p.getD x 0 := by rw [hp.val hyn, hp.val hxn, hs.1]
      have e2 : q.getD y 0 = q.getD x 0 := by rw [hq.val hyn, hq.val hxn, hs.2]
      rw [hmv, ← hym] at hsn
      generalize p.getD y 0 = a1 at *
      generalize p.getD x 0 = a2 at *
      generalize q.getD y 0 = b1 at *
      generalize q.getD x 0 = b2 at *
      repeat' (first
| refine wO ?_
| refine zP (by kernel_rfl) (by kernel_rfl) ?_
| (refine o_go rfl ?_; (first
| refine p_p (zN rfl rfl rfl (by omega) py (by exact rfl)) ?_
| refine p_p (zN rfl rfl rfl (by omega) px (by exact rfl)) ?_
| refine p_p (zN rfl rfl rfl (by omega) qy (by exact rfl)) ?_
| refine p_p (zN rfl rfl rfl (by omega) qx (by exact rfl)) ?_
| refine p_e (by kernel_rfl) (e_append rfl rfl rfl rfl rfl rfl (one_one rfl) rfl (by rw [hll, n_len_c, n_len_n]; omega) (by rw [hll, n_len_c, n_len_n]; omega)) ?_
| refine wS ?_
| refine p_p (ps_lit1 rfl rfl (by rfl) (by rfl)) ?_); refine ⟨_, aA, ?_⟩)
| (refine o_s rfl ?_; refine ⟨_, aA, ?_⟩)
| (refine o_splitN rfl rfl rfl (fun hc => ?_) (fun hc => ?_) <;> dsimp only [List.set_cons_zero, List.set_cons_succ])
| (refine g_condN rfl (fun hc => ?_) (fun hc => ?_) <;> try (exfalso; omega))
| refine wE ?_)
      all_goals try (exfalso; first | omega | (simp_all; done))
      all_goals exact zT (K := fun _ _ => True) (x + 1) (by omega) (by omega) aI ⟨rfl, rfl, trivial⟩ (zB (by rw [hsn, List.map_append]; rfl) (zM _))
    · have hd : ¬ (p.getD y 0 = p.getD x 0 ∧ q.getD y 0 = q.getD x 0) := fun h => by
        have hb : bk (meetP n p q) y = bk (meetP n p q) x := (hR y hyn).2 ⟨by unfold bk; rw [h.1], by unfold bk; rw [h.2]⟩
        have := hle y hyn hb
        omega
      generalize p.getD y 0 = a1 at *
      generalize p.getD x 0 = a2 at *
      generalize q.getD y 0 = b1 at *
      generalize q.getD x 0 = b2 at *
      by_cases e1 : a1 = a2
      · have e2 : ¬ b1 = b2 := fun h => hd ⟨e1, h⟩
        repeat' (first
| refine wO ?_
| refine zP (by kernel_rfl) (by kernel_rfl) ?_
| (refine o_go rfl ?_; (first
| refine p_p (zN rfl rfl rfl (by omega) py (by exact rfl)) ?_
| refine p_p (zN rfl rfl rfl (by omega) px (by exact rfl)) ?_
| refine p_p (zN rfl rfl rfl (by omega) qy (by exact rfl)) ?_
| refine p_p (zN rfl rfl rfl (by omega) qx (by exact rfl)) ?_
| refine wS ?_); refine ⟨_, aA, ?_⟩)
| (refine o_s rfl ?_; refine ⟨_, aA, ?_⟩)
| (refine o_splitN rfl rfl rfl (fun hc => ?_) (fun hc => ?_) <;> dsimp only [List.set_cons_zero, List.set_cons_succ])
| (refine g_condN rfl (fun hc => ?_) (fun hc => ?_) <;> try (exfalso; omega))
| refine wE ?_)
        all_goals try (exfalso; first | omega | (simp_all; done))
        all_goals exact zT (y + 1) (by omega) (by omega) aI ⟨rfl, trivial⟩ (zB rfl (zM _))
      · repeat' (first
| refine wO ?_
| refine zP (by kernel_rfl) (by kernel_rfl) ?_
| (refine o_go rfl ?_; (first
| refine p_p (zN rfl rfl rfl (by omega) py (by exact rfl)) ?_
| refine p_p (zN rfl rfl rfl (by omega) px (by exact rfl)) ?_
| refine p_p (zN rfl rfl rfl (by omega) qy (by exact rfl)) ?_
| refine p_p (zN rfl rfl rfl (by omega) qx (by exact rfl)) ?_
| refine wS ?_
| refine p_e rfl (e_append rfl rfl rfl rfl rfl rfl (by first | exact one_one rfl | exact one_map (fun _ => rfl) _) rfl aU aU) ?_
| refine p_p (ps_lit1 rfl rfl (by rfl) (by rfl)) ?_); refine ⟨_, aA, ?_⟩)
| (refine o_s rfl ?_; refine ⟨_, aA, ?_⟩)
| (refine o_splitN rfl rfl rfl (fun hc => ?_) (fun hc => ?_) <;> dsimp only [List.set_cons_zero, List.set_cons_succ])
| (refine g_condN rfl (fun hc => ?_) (fun hc => ?_) <;> try (exfalso; omega))
| refine wE ?_)
        all_goals try (exfalso; first | omega | (simp_all; done))
        all_goals exact zT (y + 1) (by omega) (by omega) aI ⟨rfl, trivial⟩ (zB rfl (zM _))
  · obtain rfl : x = n := by omega
    rw [List.take_of_length_le (by omega)]
    repeat' (first
| refine wO ?_
| (refine o_go rfl ?_; (first
| refine wS ?_); refine ⟨_, aA, ?_⟩)
| (refine zK rfl (fun hc => ?_) (fun hc => ?_) <;> try (exfalso; omega))
| refine kr1 ?_
| refine krS rfl ?_
| refine wE ?_)
    all_goals first | rfl | (exfalso; omega)
end Go.Proofs.YtbohjibbgppfaaaGreat
