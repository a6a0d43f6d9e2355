/- Walks: meets of partitions, few congruences, the reference's side. -/
import Derived.Test.YtnjocjfhaahmfaaGreatJVp
import Derived.Test.YtnjocjfhaahmfaaGreatJYp
import Derived.Test.YtnjocjfhaahmfaaGreatJKg
import Derived.Test.YtnjocjfhaahmfaaGreatJKl
import Derived.Test.YtnjocjfhaahmfaaGreatJYa
import Derived.Test.YtnjocjfhaahmfaaGreatJYh
import Derived.Test.YtnjocjfhaahmfaaGreatJSq
import Derived.Test.YtnjocjfhaahmfaaGreatJKy
namespace Go.Proofs.YtnjocjfhaahmfaaGreat
open Go Go.Pv Go.Proofs
set_option maxHeartbeats 32000000
set_option maxRecDepth 100000
attribute [local bitvec_to_nat] St.put St.setObj St.ev killP killA killP1 killH mapHO renP renA ren1 killG killGA killG1 krowP krowA krow1 lendP lendA lend1 unv pinP pin1 elemsM viewM viewN viewV n_set_z n_set_s n_map_c n_map_n getD_z getD_s n_toNat n_cond_t n_cond_f n_len_c n_len_n n_app_c n_app_n n_take_s n_take_z n_drop_s n_drop_z n_get_z n_get_s view viewA view1 elems Nat.zero_add Nat.add_zero Bool.not_true Bool.not_false Nat.one_ne_zero Nat.mul_one

theorem smeet6_c (n : Nat) (p q : List Int) (hn : n ≤ 1000) (hp : Pt n p) (hq : Pt n q) : PCalls Tryz.prog 209 [ints p, ints q] (ints (meetP n p q)) := by
  refine pcalls1 Tryz.func209 rfl Tryz.ntmps209 rfl ?_
  refine wF ?_
  have hpl := hp.len
  have hql := hq.len
  repeat' (first
| refine wO ?_
| (refine o_go rfl ?_; (first
| refine p_e rfl (e_lit0T rfl (by decide)) ?_
| refine wS ?_); refine ⟨_, aA, ?_⟩))
  refine g_loopF (α := Nat) [8] (fun x => [(5, .hp 0), (6, I (x : Int))]) (fun x => [.arr true 1 3 (((meetP n p q).take x).map I)]) (fun x => x ≤ n) (fun x => n - x) 0 aF (Nat.zero_le _) ⟨rfl, rfl, trivial⟩ rfl ?_
  rintro x hx
  dsimp only [zZ, List.set_cons_zero, List.set_cons_succ]
  have hml : (meetP n p q).length = n := meet_pt.len
  have hll : (((meetP n p q).take x).map I).length = x := by rw [List.length_map, List.length_take, hml]; omega
  by_cases hxn : x < n
  · have hsn : (meetP n p q).take (x + 1) = (meetP n p q).take x ++ [(meetP n p q).getD x 0] := take_snoc 0 (by omega)
    have px := rowI_at (p := p) (x := x) (by omega)
    have qx := rowI_at (p := q) (x := x) (by omega)
    have hmv : (meetP n p q).getD x 0 = (bk (meetP n p q) x : Int) := meet_pt.val hxn
    have hmx := meet_pt (n := n) (p := p) (q := q) |>.lt hxn
    have hR := fun y (hy : y < n) => meet_R (p := p) (q := q) (n := n) hy hxn
    have hle := fun y (hy : y < n) (h : bk (meetP n p q) y = bk (meetP n p q) x) => (meet_pt (n := n) (p := p) (q := q)).le y hy
    have hid := (meet_pt (n := n) (p := p) (q := q)).id x hxn
    repeat' (first
| refine wO ?_
| (refine o_go rfl ?_; (first
| refine wS ?_); refine ⟨_, aA, ?_⟩)
| (refine zK rfl (fun hc => ?_) (fun hc => ?_) <;> try (exfalso; omega))
| refine wE ?_)
    all_goals try (exfalso; omega)
    refine g_loopT (α := Nat) (fun y => [(7, I (y : Int))]) (fun _ => [.arr true 1 3 (((meetP n p q).take x).map I)]) (fun y => y ≤ bk (meetP n p q) x) (fun y => bk (meetP n p q) x - y) 0 aF (Nat.zero_le _) ⟨rfl, trivial⟩ rfl ?_
    rintro y hy
    dsimp only [zZ, List.set_cons_zero, List.set_cons_succ]
    have hyn : y < n := by omega
    have py := rowI_at (p := p) (x := y) (by omega)
    have qy := rowI_at (p := q) (x := y) (by omega)
    by_cases hym : y = bk (meetP n p q) x
    · have hs := (hR y hyn).1 (by rw [hym]; exact hid)
      have e1 : p.getD y 0 = p.getD x 0 := by rw [hp.val hyn, hp.val hxn, hs.1]
      have e2 : q.getD y 0 = q.getD x 0 := by rw [hq.val hyn, hq.val hxn, hs.2]
      rw [hmv, ← hym] at hsn
      generalize p.getD y 0 = a1 at *
      generalize p.getD x 0 = a2 at *
      generalize q.getD y 0 = b1 at *
      generalize q.getD x 0 = b2 at *
      repeat' (first
| refine wO ?_
| refine zP (by kernel_rfl) (by kernel_rfl) ?_
| (refine o_go rfl ?_; (first
| refine p_p (zN rfl rfl rfl (by omega) py (by exact rfl)) ?_
| refine p_p (zN rfl rfl rfl (by omega) px (by exact rfl)) ?_
| refine p_p (zN rfl rfl rfl (by omega) qy (by exact rfl)) ?_
| refine p_p (zN rfl rfl rfl (by omega) qx (by exact rfl)) ?_
| refine p_e (by kernel_rfl) (e_append rfl rfl rfl rfl rfl rfl (one_one rfl) rfl (by rw [hll, n_len_c, n_len_n]; omega) (by rw [hll, n_len_c, n_len_n]; omega)) ?_
| refine wS ?_
| refine p_p (ps_lit1 rfl rfl (by rfl) (by rfl)) ?_); refine ⟨_, aA, ?_⟩)
| (refine o_s rfl ?_; refine ⟨_, aA, ?_⟩)
| (refine o_splitN rfl rfl rfl (fun hc => ?_) (fun hc => ?_) <;> dsimp only [List.set_cons_zero, List.set_cons_succ])
| (refine g_condN rfl (fun hc => ?_) (fun hc => ?_) <;> try (exfalso; omega))
| refine wE ?_)
      all_goals try (exfalso; first | omega | (simp_all; done))
      all_goals exact zT (K := fun _ _ => True) (x + 1) (by omega) (by omega) aI ⟨rfl, rfl, trivial⟩ (zB (by rw [hsn, List.map_append]; rfl) (zM _))
    · have hd : ¬ (p.getD y 0 = p.getD x 0 ∧ q.getD y 0 = q.getD x 0) := fun h => by
        have hb : bk (meetP n p q) y = bk (meetP n p q) x := (hR y hyn).2 ⟨by unfold bk; rw [h.1], by unfold bk; rw [h.2]⟩
        have := hle y hyn hb
        omega
      generalize p.getD y 0 = a1 at *
      generalize p.getD x 0 = a2 at *
      generalize q.getD y 0 = b1 at *
      generalize q.getD x 0 = b2 at *
      by_cases e1 : a1 = a2
      · have e2 : ¬ b1 = b2 := fun h => hd ⟨e1, h⟩
        repeat' (first
| refine wO ?_
| refine zP (by kernel_rfl) (by kernel_rfl) ?_
| (refine o_go rfl ?_; (first
| refine p_p (zN rfl rfl rfl (by omega) py (by exact rfl)) ?_
| refine p_p (zN rfl rfl rfl (by omega) px (by exact rfl)) ?_
| refine p_p (zN rfl rfl rfl (by omega) qy (by exact rfl)) ?_
| refine p_p (zN rfl rfl rfl (by omega) qx (by exact rfl)) ?_
| refine wS ?_); refine ⟨_, aA, ?_⟩)
| (refine o_s rfl ?_; refine ⟨_, aA, ?_⟩)
| (refine o_splitN rfl rfl rfl (fun hc => ?_) (fun hc => ?_) <;> dsimp only [List.set_cons_zero, List.set_cons_succ])
| (refine g_condN rfl (fun hc => ?_) (fun hc => ?_) <;> try (exfalso; omega))
| refine wE ?_)
        all_goals try (exfalso; first | omega | (simp_all; done))
        all_goals exact zT (y + 1) (by omega) (by omega) aI ⟨rfl, trivial⟩ (zB rfl (zM _))
      · repeat' (first
| refine wO ?_
| refine zP (by kernel_rfl) (by kernel_rfl) ?_
| (refine o_go rfl ?_; (first
| refine p_p (zN rfl rfl rfl (by omega) py (by exact rfl)) ?_
| refine p_p (zN rfl rfl rfl (by omega) px (by exact rfl)) ?_
| refine p_p (zN rfl rfl rfl (by omega) qy (by exact rfl)) ?_
| refine p_p (zN rfl rfl rfl (by omega) qx (by exact rfl)) ?_
| refine wS ?_
| refine p_e rfl (e_append rfl rfl rfl rfl rfl rfl (by first | exact one_one rfl | exact one_map (fun _ => rfl) _) rfl aT aT) ?_
| refine p_p (ps_lit1 rfl rfl (by rfl) (by rfl)) ?_); refine ⟨_, aA, ?_⟩)
| (refine o_s rfl ?_; refine ⟨_, aA, ?_⟩)
| (refine o_splitN rfl rfl rfl (fun hc => ?_) (fun hc => ?_) <;> dsimp only [List.set_cons_zero, List.set_cons_succ])
| (refine g_condN rfl (fun hc => ?_) (fun hc => ?_) <;> try (exfalso; omega))
| refine wE ?_)
        all_goals try (exfalso; first | omega | (simp_all; done))
        all_goals exact zT (y + 1) (by omega) (by omega) aI ⟨rfl, trivial⟩ (zB rfl (zM _))
  · obtain rfl : x = n := by omega
    rw [List.take_of_length_le (by omega)]
    repeat' (first
| refine wO ?_
| (refine o_go rfl ?_; (first
| refine wS ?_); refine ⟨_, aA, ?_⟩)
| (refine zK rfl (fun hc => ?_) (fun hc => ?_) <;> try (exfalso; omega))
| refine kr1 ?_
| refine krS rfl ?_
| refine wE ?_)
    all_goals first | rfl | (exfalso; omega)
end Go.Proofs.YtnjocjfhaahmfaaGreat
/- Walks: quotient algebras, natural maps, congruences above, lifted and pushed congruences. -/
namespace Go.Proofs.YtnjocjfhaahmfaaGreat
open Go Go.Pv Go.Proofs
set_option maxHeartbeats 32000000
set_option maxRecDepth 100000
attribute [local bitvec_to_nat] St.put St.setObj St.ev killP killA killP1 killH mapHO renP renA ren1 killG killGA killG1 krowP krowA krow1 lendP lendA lend1 unv pinP pin1 elemsM viewM viewN viewV n_set_z n_set_s n_map_c n_map_n getD_z getD_s n_toNat n_cond_t n_cond_f n_len_c n_len_n n_app_c n_app_n n_take_s n_take_z n_drop_s n_drop_z n_get_z n_get_s view viewA view1 elems Nat.zero_add Nat.add_zero Bool.not_true Bool.not_false Nat.one_ne_zero Nat.mul_one
theorem sbel_c (n : Nat) (p q : List Int) (hn : n ≤ 1000) (hp : Pt n p) (hq : q.length = n) : PCalls Tryz.prog 150 [ints p, ints q] (B (fiB n p q)) := by
  refine pcalls1 Tryz.func150 rfl Tryz.ntmps150 rfl ?_
  refine wF ?_
  have hpl := hp.len
  repeat' (first
| refine wO ?_
| (refine o_go rfl ?_; (first
| refine wS ?_); refine ⟨_, aA, ?_⟩))
  refine g_loopT (α := Nat) (fun i => [(5, I (i : Int))]) (fun _ => []) (fun i => i ≤ n ∧ ∀ y, y < i → q.getD (bk p y) 0 = q.getD y 0) (fun i => n - i) 0 aF ⟨Nat.zero_le _, fun j hj => absurd hj (Nat.not_lt_zero _)⟩ ⟨rfl, trivial⟩ rfl ?_
  rintro i ⟨hi, hno⟩
  dsimp only [zZ, List.set_cons_zero, List.set_cons_succ]
  by_cases hil : i < n
  · have hb := hp.lt hil
    have i1 := row_atY (p := p) (x := i) (by omega)
    rw [hp.val hil] at i1
    have i2 := row_atY (p := q) (x := bk p i) (by omega)
    have i3 := row_atY (p := q) (x := i) (by omega)
    have hql : (q.map I).length = n := by rw [List.length_map, hq]
    by_cases he : q.getD (bk p i) 0 = q.getD i 0
    · repeat' (first
| refine wO ?_
| refine zP (by kernel_rfl) (by kernel_rfl) ?_
| (refine o_go rfl ?_; (first
| refine p_p (zN rfl rfl rfl (by omega) i1 (by exact rfl)) ?_
| refine p_p (zN rfl rfl rfl (by omega) i2 (by exact rfl)) ?_
| refine p_p (zN rfl rfl rfl (by omega) i3 (by exact rfl)) ?_
| refine wS ?_); refine ⟨_, aA, ?_⟩)
| (refine g_condN rfl (fun hc => ?_) (fun hc => ?_) <;> try (exfalso; omega))
| (refine zK rfl (fun hc => ?_) (fun hc => ?_) <;> try (exfalso; omega))
| refine wE ?_)
      all_goals try (exfalso; first | omega | exact hc he)
      refine zT (i + 1) ⟨by omega, fun y hy => ?_⟩ (by omega) aI ⟨rfl, trivial⟩ (zM _)
      rcases Nat.lt_or_ge y i with h | h
      · exact hno y h
      · rw [show y = i by omega]; exact he
    · have hv : fiB n p q = false := by
        rw [Bool.eq_false_iff]
        intro h
        have := List.all_eq_true.1 h i (List.mem_range.2 hil)
        exact he (by simpa using this)
      rw [hv]
      repeat' (first
| refine wO ?_
| refine zP (by kernel_rfl) (by kernel_rfl) ?_
| (refine o_go rfl ?_; (first
| refine p_p (zN rfl rfl rfl (by omega) i1 (by exact rfl)) ?_
| refine p_p (zN rfl rfl rfl (by omega) i2 (by exact rfl)) ?_
| refine p_p (zN rfl rfl rfl (by omega) i3 (by exact rfl)) ?_
| refine wS ?_); refine ⟨_, aA, ?_⟩)
| (refine g_condN rfl (fun hc => ?_) (fun hc => ?_) <;> try (exfalso; omega))
| (refine zK rfl (fun hc => ?_) (fun hc => ?_) <;> try (exfalso; omega))
| refine kr1 ?_
| refine krB rfl ?_
| refine wE ?_)
      all_goals first | rfl | (exfalso; first | omega | exact he hc)
  · rw [show fiB n p q = true from List.all_eq_true.2 fun y hy => decide_eq_true (hno y (by have := List.mem_range.1 hy; omega))]
    repeat' (first
| refine wO ?_
| (refine o_go rfl ?_; (first
| refine wS ?_); refine ⟨_, aA, ?_⟩)
| (refine zK rfl (fun hc => ?_) (fun hc => ?_) <;> try (exfalso; omega))
| refine kr1 ?_
| refine krB rfl ?_
| refine wE ?_)
    all_goals first | rfl | (exfalso; omega)
end Go.Proofs.YtnjocjfhaahmfaaGreat
