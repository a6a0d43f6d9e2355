/- Walks: lists of factor pairs, both sides. -/
import Derived.Test.YtepjlgilopfnpaaGreatJTc
namespace Go.Pv
open Go
attribute [local semireducible] Go.Pv.PStep
theorem ps_neqG {P : Program} {o : Oper} {ev : Operand → PV} {hp : List HO} {t rt : TypeId} {x y : Operand} {a c : Int} {k : IntKind} {b : Bool} (ho : o.op = .binOp .neq t x y rt) (h1 : ev x = .val (.int k a)) (h2 : ev y = .val (.int k c)) (hb : (!decide (a = c)) = b) : PStep P o ev hp (B b) := by
 have := ps_neq (P := P) (hp := hp) ho h1 h2
 rwa [hb] at this
theorem ps_eqlG {P : Program} {o : Oper} {ev : Operand → PV} {hp : List HO} {t rt : TypeId} {x y : Operand} {a c : Int} {k : IntKind} {b : Bool} (ho : o.op = .binOp .eql t x y rt) (h1 : ev x = .val (.int k a)) (h2 : ev y = .val (.int k c)) (hb : decide (a = c) = b) : PStep P o ev hp (B b) := by
 have := ps_eql (P := P) (hp := hp) ho h1 h2
 rwa [hb] at this
end Go.Pv
namespace Go.Proofs.YtepjlgilopfnpaaGreat
open Go Go.Pv Go.Proofs
set_option maxHeartbeats 32000000
set_option maxRecDepth 100000

theorem sl10f_c (n : Nat) (p q : List Int) (hn : n ≤ 1000) (hp : Pt n p) (hq : Pt n q) : PCalls Tryz.prog 119 [ints p, ints q] (B (sfB n p q)) := by
 have hpl := hp.len
 have hql := hq.len
 refine pcalls1 Tryz.func119 rfl Tryz.ntmps119 rfl ?_
 refine wF ?_
 repeat' (first
| refine wO ?_
| (refine o_go rfl ?_; (first
| refine wS ?_); refine ⟨_, aB, ?_⟩))
 refine g_loopT (α := Nat) (fun x => [(5, I (x : Int))]) (fun _ => []) (fun x => x ≤ n ∧ ∀ x', x' < x → ∀ y, y < n → sfI p q x' y = true ∧ prdK p q x' y n = true) (fun x => n - x) 0 aH ⟨Nat.zero_le _, fun j hj => absurd hj (Nat.not_lt_zero _)⟩ ⟨rfl, trivial⟩ rfl ?_
 rintro x ⟨hx, hX⟩
 refine wH ?_
 by_cases hxn : x < n
 · repeat' (first
| refine wO ?_
| (refine o_go rfl ?_; (first
| refine wS ?_); refine ⟨_, aB, ?_⟩)
| (refine zK rfl ?_ ?_ <;> intro hc <;> try omega)
| refine wE ?_)
   all_goals try (exfalso; omega)
   refine g_loopT (α := Nat) (fun y => [(6, I (y : Int))]) (fun _ => []) (fun y => y ≤ n ∧ ∀ y', y' < y → sfI p q x y' = true ∧ prdK p q x y' n = true) (fun y => n - y) 0 aH ⟨Nat.zero_le _, fun j hj => absurd hj (Nat.not_lt_zero _)⟩ ⟨rfl, trivial⟩ rfl ?_
   rintro y ⟨hy, hY⟩
   refine wH ?_
   by_cases hyn : y < n
   · have i1 := row_atY (p := p) (x := x) (by omega)
     have i2 := row_atY (p := p) (x := y) (by omega)
     have i3 := row_atY (p := q) (x := x) (by omega)
     have i4 := row_atY (p := q) (x := y) (by omega)
     have hsI : sfI p q x y = !(decide (x ≠ y) && (decide (p.getD x 0 = p.getD y 0) && decide (q.getD x 0 = q.getD y 0))) := rfl
     have hbad : (sfI p q x y && prdK p q x y n) = false → sfB n p q = false := fun h => by
      rw [Bool.eq_false_iff]
      intro h2
      have := List.all_eq_true.1 (List.all_eq_true.1 h2 x (List.mem_range.2 hxn)) y (List.mem_range.2 hyn)
      rw [h] at this; cases this
     by_cases h1 : x = y
     · have hI : sfI p q x y = true := by rw [hsI, decide_eq_false (fun h => h h1)]; rfl
       have e1 : (!decide ((x : Int) = (y : Int))) = false := by rw [h1, decide_eq_true rfl]; rfl
       clear hsI
       repeat' (first
| refine wO ?_
| refine zP zk zk ?_
| (refine o_go rfl ?_; (first
| refine p_p (ps_neqG rfl rfl rfl e1) ?_
| refine wS ?_); refine ⟨_, aB, ?_⟩)
| (refine o_s rfl ?_; refine ⟨_, aB, ?_⟩)
| (refine zK rfl ?_ ?_ <;> intro hc <;> try omega)
| refine wE ?_)
       all_goals try (exfalso; omega)
       refine g_loopT (α := Nat) (fun z => [(7, B (prdK p q x y z)), (8, I (z : Int))]) (fun _ => []) (fun z => z ≤ n) (fun z => n - z) 0 aH (Nat.zero_le _) ⟨rfl, rfl, trivial⟩ rfl ?_
       rintro z hz
       refine wH ?_
       by_cases hzn : z < n
       · have i5 := row_atY (p := p) (x := z) (by omega)
         have i6 := row_atY (p := q) (x := z) (by omega)
         have hst := prdK_succ p q x y z
         generalize prdK p q x y z = sm at *
         cases sm with
         | true =>
          rw [Bool.true_or] at hst
          repeat' (first
| refine wO ?_
| refine zP zk zk ?_
| (refine o_go rfl ?_; (first
| refine wS ?_); refine ⟨_, aB, ?_⟩)
| (refine o_s rfl ?_; refine ⟨_, aB, ?_⟩)
| (refine zK rfl ?_ ?_ <;> intro hc <;> try omega)
| refine wE ?_)
          all_goals try (exfalso; omega)
          exact zT (z + 1) (by omega) (by omega) aI ⟨vB hst.symm, rfl, trivial⟩ (zM _)
         | false =>
          rw [Bool.false_or] at hst
          cases e5 : decide (p.getD x 0 = p.getD z 0) with
          | false =>
           rw [e5, Bool.false_and] at hst
           repeat' (first
| refine wO ?_
| refine zP zk zk ?_
| (refine o_go rfl ?_; (first
| refine p_p (zN rfl rfl rfl zz i1 ze) ?_
| refine p_p (zN rfl rfl rfl zz i5 ze) ?_
| refine p_p (ps_eqlG rfl rfl rfl e5) ?_
| refine wS ?_); refine ⟨_, aB, ?_⟩)
| (refine o_s rfl ?_; refine ⟨_, aB, ?_⟩)
| (refine zK rfl ?_ ?_ <;> intro hc <;> try omega)
| refine wE ?_)
           all_goals try (exfalso; omega)
           exact zT (z + 1) (by omega) (by omega) aI ⟨vB hst.symm, rfl, trivial⟩ (zM _)
          | true =>
           rw [e5, Bool.true_and] at hst
           cases e6 : decide (q.getD z 0 = q.getD y 0) with
           | true =>
            rw [e6] at hst
            repeat' (first
| refine wO ?_
| refine zP zk zk ?_
| (refine o_go rfl ?_; (first
| refine p_p (zN rfl rfl rfl zz i1 ze) ?_
| refine p_p (zN rfl rfl rfl zz i4 ze) ?_
| refine p_p (zN rfl rfl rfl zz i5 ze) ?_
| refine p_p (zN rfl rfl rfl zz i6 ze) ?_
| refine p_p (ps_eqlG rfl rfl rfl e5) ?_
| refine p_p (ps_eqlG rfl rfl rfl e6) ?_
| refine wS ?_); refine ⟨_, aB, ?_⟩)
| (refine zK rfl ?_ ?_ <;> intro hc <;> try omega)
| refine wE ?_)
            all_goals try (exfalso; omega)
            exact zT (z + 1) (by omega) (by omega) aI ⟨vB hst.symm, rfl, trivial⟩ (zM _)
           | false =>
            rw [e6] at hst
            repeat' (first
| refine wO ?_
| refine zP zk zk ?_
| (refine o_go rfl ?_; (first
| refine p_p (zN rfl rfl rfl zz i1 ze) ?_
| refine p_p (zN rfl rfl rfl zz i4 ze) ?_
| refine p_p (zN rfl rfl rfl zz i5 ze) ?_
| refine p_p (zN rfl rfl rfl zz i6 ze) ?_
| refine p_p (ps_eqlG rfl rfl rfl e5) ?_
| refine p_p (ps_eqlG rfl rfl rfl e6) ?_
| refine wS ?_); refine ⟨_, aB, ?_⟩)
| (refine zK rfl ?_ ?_ <;> intro hc <;> try omega)
| refine wE ?_)
            all_goals try (exfalso; omega)
            exact zT (z + 1) (by omega) (by omega) aI ⟨vB hst.symm, rfl, trivial⟩ (zM _)
       · obtain rfl : z = n := by omega
         cases hk : prdK p q x y z with
         | true =>
          repeat' (first
| refine wO ?_
| (refine o_go rfl ?_; (first
| refine wS ?_); refine ⟨_, aB, ?_⟩)
| (refine zK rfl ?_ ?_ <;> intro hc <;> try omega)
| refine wE ?_)
          all_goals try (exfalso; omega)
          refine zT (K := fun _ _ => True) (y + 1) ⟨by omega, fun y' hy' => ?_⟩ (by omega) aI ⟨rfl, trivial⟩ (zM _)
          rcases Nat.lt_or_ge y' y with h | h
          · exact hY y' h
          · rw [show y' = y by omega]; exact ⟨hI, hk⟩
         | false =>
          rw [hbad (by rw [hk, Bool.and_false])]
          repeat' (first
| refine wO ?_
| (refine o_go rfl ?_; (first
| refine wS ?_); refine ⟨_, aB, ?_⟩)
| (refine zK rfl ?_ ?_ <;> intro hc <;> try omega)
| refine kr1 ?_
| refine krB rfl ?_
| refine wE ?_)
          all_goals first | rfl | (exfalso; omega)
     · have e1 : (!decide ((x : Int) = (y : Int))) = true := by rw [decide_eq_false (fun h : (x : Int) = (y : Int) => h1 (Int.ofNat.inj h))]; rfl
       cases e2 : decide (p.getD x 0 = p.getD y 0) with
       | true =>
        cases e3 : decide (q.getD x 0 = q.getD y 0) with
        | true =>
         have hI : sfI p q x y = false := by rw [hsI, decide_eq_true h1, e2, e3]; rfl
         rw [hbad (by rw [hI, Bool.false_and])]
         clear hsI hbad hX hY
         repeat' (first
| refine wO ?_
| refine zP zk zk ?_
| (refine o_go rfl ?_; (first
| refine p_p (zN rfl rfl rfl zz i1 ze) ?_
| refine p_p (zN rfl rfl rfl zz i2 ze) ?_
| refine p_p (zN rfl rfl rfl zz i3 ze) ?_
| refine p_p (zN rfl rfl rfl zz i4 ze) ?_
| refine p_p (ps_neqG rfl rfl rfl e1) ?_
| refine p_p (ps_eqlG rfl rfl rfl e2) ?_
| refine p_p (ps_eqlG rfl rfl rfl e3) ?_
| refine wS ?_); refine ⟨_, aB, ?_⟩)
| (refine zK rfl ?_ ?_ <;> intro hc <;> try omega)
| refine kr1 ?_
| refine krB rfl ?_
| refine wE ?_)
         all_goals first | rfl | (exfalso; omega)
        | false =>
         have hI : sfI p q x y = true := by rw [hsI, e3, Bool.and_false, Bool.and_false]; rfl
         clear hsI
         repeat' (first
| refine wO ?_
| refine zP zk zk ?_
| (refine o_go rfl ?_; (first
| refine p_p (zN rfl rfl rfl zz i1 ze) ?_
| refine p_p (zN rfl rfl rfl zz i2 ze) ?_
| refine p_p (zN rfl rfl rfl zz i3 ze) ?_
| refine p_p (zN rfl rfl rfl zz i4 ze) ?_
| refine p_p (ps_neqG rfl rfl rfl e1) ?_
| refine p_p (ps_eqlG rfl rfl rfl e2) ?_
| refine p_p (ps_eqlG rfl rfl rfl e3) ?_
| refine wS ?_); refine ⟨_, aB, ?_⟩)
| (refine zK rfl ?_ ?_ <;> intro hc <;> try omega)
| refine wE ?_)
         all_goals try (exfalso; omega)
         refine g_loopT (α := Nat) (fun z => [(7, B (prdK p q x y z)), (8, I (z : Int))]) (fun _ => []) (fun z => z ≤ n) (fun z => n - z) 0 aH (Nat.zero_le _) ⟨rfl, rfl, trivial⟩ rfl ?_
         rintro z hz
         refine wH ?_
         by_cases hzn : z < n
         · have i5 := row_atY (p := p) (x := z) (by omega)
           have i6 := row_atY (p := q) (x := z) (by omega)
           have hst := prdK_succ p q x y z
           generalize prdK p q x y z = sm at *
           cases sm with
           | true =>
            rw [Bool.true_or] at hst
            repeat' (first
| refine wO ?_
| refine zP zk zk ?_
| (refine o_go rfl ?_; (first
| refine wS ?_); refine ⟨_, aB, ?_⟩)
| (refine o_s rfl ?_; refine ⟨_, aB, ?_⟩)
| (refine zK rfl ?_ ?_ <;> intro hc <;> try omega)
| refine wE ?_)
            all_goals try (exfalso; omega)
            exact zT (z + 1) (by omega) (by omega) aI ⟨vB hst.symm, rfl, trivial⟩ (zM _)
           | false =>
            rw [Bool.false_or] at hst
            cases e5 : decide (p.getD x 0 = p.getD z 0) with
            | false =>
             rw [e5, Bool.false_and] at hst
             repeat' (first
| refine wO ?_
| refine zP zk zk ?_
| (refine o_go rfl ?_; (first
| refine p_p (zN rfl rfl rfl zz i1 ze) ?_
| refine p_p (zN rfl rfl rfl zz i5 ze) ?_
| refine p_p (ps_eqlG rfl rfl rfl e5) ?_
| refine wS ?_); refine ⟨_, aB, ?_⟩)
| (refine o_s rfl ?_; refine ⟨_, aB, ?_⟩)
| (refine zK rfl ?_ ?_ <;> intro hc <;> try omega)
| refine wE ?_)
             all_goals try (exfalso; omega)
             exact zT (z + 1) (by omega) (by omega) aI ⟨vB hst.symm, rfl, trivial⟩ (zM _)
            | true =>
             rw [e5, Bool.true_and] at hst
             cases e6 : decide (q.getD z 0 = q.getD y 0) with
             | true =>
              rw [e6] at hst
              repeat' (first
| refine wO ?_
| refine zP zk zk ?_
| (refine o_go rfl ?_; (first
| refine p_p (zN rfl rfl rfl zz i1 ze) ?_
| refine p_p (zN rfl rfl rfl zz i4 ze) ?_
| refine p_p (zN rfl rfl rfl zz i5 ze) ?_
| refine p_p (zN rfl rfl rfl zz i6 ze) ?_
| refine p_p (ps_eqlG rfl rfl rfl e5) ?_
| refine p_p (ps_eqlG rfl rfl rfl e6) ?_
| refine wS ?_); refine ⟨_, aB, ?_⟩)
| (refine zK rfl ?_ ?_ <;> intro hc <;> try omega)
| refine wE ?_)
              all_goals try (exfalso; omega)
              exact zT (z + 1) (by omega) (by omega) aI ⟨vB hst.symm, rfl, trivial⟩ (zM _)
             | false =>
              rw [e6] at hst
              repeat' (first
| refine wO ?_
| refine zP zk zk ?_
| (refine o_go rfl ?_; (first
| refine p_p (zN rfl rfl rfl zz i1 ze) ?_
| refine p_p (zN rfl rfl rfl zz i4 ze) ?_
| refine p_p (zN rfl rfl rfl zz i5 ze) ?_
| refine p_p (zN rfl rfl rfl zz i6 ze) ?_
| refine p_p (ps_eqlG rfl rfl rfl e5) ?_
| refine p_p (ps_eqlG rfl rfl rfl e6) ?_
| refine wS ?_); refine ⟨_, aB, ?_⟩)
| (refine zK rfl ?_ ?_ <;> intro hc <;> try omega)
| refine wE ?_)
              all_goals try (exfalso; omega)
              exact zT (z + 1) (by omega) (by omega) aI ⟨vB hst.symm, rfl, trivial⟩ (zM _)
         · obtain rfl : z = n := by omega
           cases hk : prdK p q x y z with
           | true =>
            repeat' (first
| refine wO ?_
| (refine o_go rfl ?_; (first
| refine wS ?_); refine ⟨_, aB, ?_⟩)
| (refine zK rfl ?_ ?_ <;> intro hc <;> try omega)
| refine wE ?_)
            all_goals try (exfalso; omega)
            refine zT (K := fun _ _ => True) (y + 1) ⟨by omega, fun y' hy' => ?_⟩ (by omega) aI ⟨rfl, trivial⟩ (zM _)
            rcases Nat.lt_or_ge y' y with h | h
            · exact hY y' h
            · rw [show y' = y by omega]; exact ⟨hI, hk⟩
           | false =>
            rw [hbad (by rw [hk, Bool.and_false])]
            repeat' (first
| refine wO ?_
| (refine o_go rfl ?_; (first
| refine wS ?_); refine ⟨_, aB, ?_⟩)
| (refine zK rfl ?_ ?_ <;> intro hc <;> try omega)
| refine kr1 ?_
| refine krB rfl ?_
| refine wE ?_)
            all_goals first | rfl | (exfalso; omega)
       | false =>
        have hI : sfI p q x y = true := by rw [hsI, e2, Bool.false_and, Bool.and_false]; rfl
        clear hsI
        repeat' (first
| refine wO ?_
| refine zP zk zk ?_
| (refine o_go rfl ?_; (first
| refine p_p (zN rfl rfl rfl zz i1 ze) ?_
| refine p_p (zN rfl rfl rfl zz i2 ze) ?_
| refine p_p (ps_neqG rfl rfl rfl e1) ?_
| refine p_p (ps_eqlG rfl rfl rfl e2) ?_
| refine wS ?_); refine ⟨_, aB, ?_⟩)
| (refine o_s rfl ?_; refine ⟨_, aB, ?_⟩)
| (refine zK rfl ?_ ?_ <;> intro hc <;> try omega)
| refine wE ?_)
        all_goals try (exfalso; omega)
        refine g_loopT (α := Nat) (fun z => [(7, B (prdK p q x y z)), (8, I (z : Int))]) (fun _ => []) (fun z => z ≤ n) (fun z => n - z) 0 aH (Nat.zero_le _) ⟨rfl, rfl, trivial⟩ rfl ?_
        rintro z hz
        refine wH ?_
        by_cases hzn : z < n
        · have i5 := row_atY (p := p) (x := z) (by omega)
          have i6 := row_atY (p := q) (x := z) (by omega)
          have hst := prdK_succ p q x y z
          generalize prdK p q x y z = sm at *
          cases sm with
          | true =>
           rw [Bool.true_or] at hst
           repeat' (first
| refine wO ?_
| refine zP zk zk ?_
| (refine o_go rfl ?_; (first
| refine wS ?_); refine ⟨_, aB, ?_⟩)
| (refine o_s rfl ?_; refine ⟨_, aB, ?_⟩)
| (refine zK rfl ?_ ?_ <;> intro hc <;> try omega)
| refine wE ?_)
           all_goals try (exfalso; omega)
           exact zT (z + 1) (by omega) (by omega) aI ⟨vB hst.symm, rfl, trivial⟩ (zM _)
          | false =>
           rw [Bool.false_or] at hst
           cases e5 : decide (p.getD x 0 = p.getD z 0) with
           | false =>
            rw [e5, Bool.false_and] at hst
            repeat' (first
| refine wO ?_
| refine zP zk zk ?_
| (refine o_go rfl ?_; (first
| refine p_p (zN rfl rfl rfl zz i1 ze) ?_
| refine p_p (zN rfl rfl rfl zz i5 ze) ?_
| refine p_p (ps_eqlG rfl rfl rfl e5) ?_
| refine wS ?_); refine ⟨_, aB, ?_⟩)
| (refine o_s rfl ?_; refine ⟨_, aB, ?_⟩)
| (refine zK rfl ?_ ?_ <;> intro hc <;> try omega)
| refine wE ?_)
            all_goals try (exfalso; omega)
            exact zT (z + 1) (by omega) (by omega) aI ⟨vB hst.symm, rfl, trivial⟩ (zM _)
           | true =>
            rw [e5, Bool.true_and] at hst
            cases e6 : decide (q.getD z 0 = q.getD y 0) with
            | true =>
             rw [e6] at hst
             repeat' (first
| refine wO ?_
| refine zP zk zk ?_
| (refine o_go rfl ?_; (first
| refine p_p (zN rfl rfl rfl zz i1 ze) ?_
| refine p_p (zN rfl rfl rfl zz i4 ze) ?_
| refine p_p (zN rfl rfl rfl zz i5 ze) ?_
| refine p_p (zN rfl rfl rfl zz i6 ze) ?_
| refine p_p (ps_eqlG rfl rfl rfl e5) ?_
| refine p_p (ps_eqlG rfl rfl rfl e6) ?_
| refine wS ?_); refine ⟨_, aB, ?_⟩)
| (refine zK rfl ?_ ?_ <;> intro hc <;> try omega)
| refine wE ?_)
             all_goals try (exfalso; omega)
             exact zT (z + 1) (by omega) (by omega) aI ⟨vB hst.symm, rfl, trivial⟩ (zM _)
            | false =>
             rw [e6] at hst
             repeat' (first
| refine wO ?_
| refine zP zk zk ?_
| (refine o_go rfl ?_; (first
| refine p_p (zN rfl rfl rfl zz i1 ze) ?_
| refine p_p (zN rfl rfl rfl zz i4 ze) ?_
| refine p_p (zN rfl rfl rfl zz i5 ze) ?_
| refine p_p (zN rfl rfl rfl zz i6 ze) ?_
| refine p_p (ps_eqlG rfl rfl rfl e5) ?_
| refine p_p (ps_eqlG rfl rfl rfl e6) ?_
| refine wS ?_); refine ⟨_, aB, ?_⟩)
| (refine zK rfl ?_ ?_ <;> intro hc <;> try omega)
| refine wE ?_)
             all_goals try (exfalso; omega)
             exact zT (z + 1) (by omega) (by omega) aI ⟨vB hst.symm, rfl, trivial⟩ (zM _)
        · obtain rfl : z = n := by omega
          cases hk : prdK p q x y z with
          | true =>
           repeat' (first
| refine wO ?_
| (refine o_go rfl ?_; (first
| refine wS ?_); refine ⟨_, aB, ?_⟩)
| (refine zK rfl ?_ ?_ <;> intro hc <;> try omega)
| refine wE ?_)
           all_goals try (exfalso; omega)
           refine zT (K := fun _ _ => True) (y + 1) ⟨by omega, fun y' hy' => ?_⟩ (by omega) aI ⟨rfl, trivial⟩ (zM _)
           rcases Nat.lt_or_ge y' y with h | h
           · exact hY y' h
           · rw [show y' = y by omega]; exact ⟨hI, hk⟩
          | false =>
           rw [hbad (by rw [hk, Bool.and_false])]
           repeat' (first
| refine wO ?_
| (refine o_go rfl ?_; (first
| refine wS ?_); refine ⟨_, aB, ?_⟩)
| (refine zK rfl ?_ ?_ <;> intro hc <;> try omega)
| refine kr1 ?_
| refine krB rfl ?_
| refine wE ?_)
           all_goals first | rfl | (exfalso; omega)
   · repeat' (first
| refine wO ?_
| (refine o_go rfl ?_; (first
| refine wS ?_); refine ⟨_, aB, ?_⟩)
| (refine zK rfl ?_ ?_ <;> intro hc <;> try omega)
| refine wE ?_)
     all_goals try (exfalso; omega)
     refine zT (K := fun _ _ => True) (x + 1) ⟨by omega, fun x' hx' y' hy' => ?_⟩ (by omega) aI ⟨rfl, trivial⟩ (zM _)
     rcases Nat.lt_or_ge x' x with h | h
     · exact hX x' h y' hy'
     · rw [show x' = x by omega]; exact hY y' (by omega)
 · have hall : sfB n p q = true := List.all_eq_true.2 fun x' hx' => List.all_eq_true.2 fun y' hy' => by
    have := hX x' (by have := List.mem_range.1 hx'; omega) y' (List.mem_range.1 hy')
    rw [this.1, this.2]; rfl
   rw [hall]
   repeat' (first
| refine wO ?_
| (refine o_go rfl ?_; (first
| refine wS ?_); refine ⟨_, aB, ?_⟩)
| (refine zK rfl ?_ ?_ <;> intro hc <;> try omega)
| refine kr1 ?_
| refine krB rfl ?_
| refine wE ?_)
   all_goals first | rfl | (exfalso; omega)
end Go.Proofs.YtepjlgilopfnpaaGreat
