/- The layer: slices that are not nil; walks: covers, irreducible congruences, the reference's side. -/
import Derived.Laws.Cover3
import Derived.Laws.Small
import Derived.Test.YtbohjibbgppfaaaGreatJTa
import Derived.Test.YtbohjibbgppfaaaGreatJYa
import Derived.Test.YtbohjibbgppfaaaGreatJVr
import Derived.Test.YtbohjibbgppfaaaGreatJKd
set_option linter.unusedSectionVars false
namespace Go.Pv
open Go
attribute [local semireducible] Go.Pv.Goal Go.Pv.Ops Go.Pv.PStep Go.Pv.EStep Go.Pv.KRets Go.Pv.PCalls Go.Pv.OpsG Go.Pv.KR
section
variable {P : Program} {o : Oper} {S : St} {ev : Operand → PV} {hp : List HO}
theorem ps_lit0N {t e : TypeId} {s by_ : Nat} [ht : SlT P t e s by_] {zs : List Value} [hz : ZeroT P e zs] (ho : o.op = .buildSlice t 0 #[]) (hs : 0 < s) : PStep P o ev hp (.sl s (some false) []) :=
  .of_alloc fun w0 g ρ w av hbase hx => by
    obtain ⟨cells, h1, h2, h3, h4⟩ := buildSlice_any (ht := ht) (hz := hz) (l := []) ho rfl rfl rfl trivial hs (by omega) hbase hx
    clear h3
    refine ⟨_, cells, e, h1, .sl s (some false) w.heap.size 0 0 [] (fun i => (([] : List PV).getD i .any).flat.getD []) (fun k => cells.getD k undef) hs (by simp) (Nat.le_refl _) (by
      simp only [maxLen]; omega) (fun i p hi => by simp at hi) (fun k hk => ?_) (fun i j q hi hq => (h4 i j q hi hq).mono (GExt.add hbase.agree _))⟩
    simp at hk
theorem ps_makeS {t e : TypeId} {s by_ : Nat} {zs : List Value} [ht : MkT P t e s by_ zs] {x y : Operand} {n : Int} {zp : PV} (ho : o.op = .makeSlice t x y) (h1 : ev x = I n) (h2 : ev y = I n) (h0 : 0 ≤ n) (hb : n * by_ ≤ 140737488355328) (hn : n ≤ 9223372036854775807)
    (hs : 0 < s) (hz : zp.flat = some (zs.map .val)) (hzs : zs.length = s) : PStep P o ev hp (.sl s none (List.replicate n.toNat zp)) :=
  .of_alloc fun w0 g ρ w av hbase hx => by
    have e1 := val_of (hx x (by simp [ho, Op.operands])) h1
    have e2 := val_of (hx y (by simp [ho, Op.operands])) h2
    obtain ⟨i, z, hi, hi1, hi2, hi3, hi4⟩ := ht.hi
    have hrun := run_make (P := P) w t e i z ht.hu hi hi3 .i64 .i64 n n h0 (Int.le_refl _) (by rw [hi2, Int.mul_comm]; omega) hn
    rw [hi1] at hrun
    have hzc : z.cells.size = s := by rw [← hzs, ← hi4]; simp
    refine ⟨_, madeCells z.cells (n.toNat * s), e, by simp only [execOp, ho, e1, e2]; rw [run_value hrun], ?_⟩
    have hv := VR.sl (g := g.add w.heap.size (madeCells z.cells (n.toNat * s))) s none w.heap.size 0 n.toNat (List.replicate n.toNat zp) (fun _ => zs.map .val) (fun k => (madeCells z.cells (n.toNat * s)).getD k undef) hs (by simp) (by simp) (by simp only [maxLen]; omega) (fun i p hi => (by
      rw [List.getElem?_replicate] at hi
      split at hi
      · cases hi; exact ⟨hz, by simp [hzs]⟩
      · cases hi)) (fun k hk => by
      rw [List.length_replicate] at hk
      rw [Nat.zero_add, Ghost.add_same]; exact getElem?_getD (by rw [size_madeCells]; exact hk)) (fun k j q hk hq => by
      simp only [List.length_replicate] at hk
      simp only [List.getElem?_map, Option.map_eq_some_iff] at hq
      obtain ⟨u, hu, rfl⟩ := hq
      have hj : j < s := by rw [← hzs]; exact (List.getElem?_eq_some_iff.1 hu).1
      have hlt : k * s + j < n.toNat * s := by
        calc k * s + j < k * s + s := by omega
          _ = (k + 1) * s := by rw [Nat.add_mul]; omega
          _ ≤ n.toNat * s := Nat.mul_le_mul_right _ hk
      have : (madeCells z.cells (n.toNat * s)).getD (k * s + j) undef = u := by
        rw [← hi4, Array.getElem?_toList] at hu
        have hm : (k * s + j) % s = j := by rw [Nat.mul_comm, Nat.mul_add_mod]; exact Nat.mod_eq_of_lt hj
        have hjz : j < z.cells.size := by omega
        simp only [madeCells, Array.getD_eq_getD_getElem?, Array.getElem?_map, Array.getElem?_range, hlt, if_true, Option.map_some, Option.getD_some, hzc, hm]
        rw [getElem!_def, hu]
      rw [this]; exact .val u)
    rwa [List.length_replicate] at hv
theorem neqnil_run {t e : TypeId} {s by_ : Nat} (ht : SlT P t e s by_) {x y : Operand} (a : Option Addr) (n c : Nat) (w : World) : (do eqGuard .neq t x y (.slice a n c) (.slice none 0 0); binOp .neq t (.slice a n c) (.slice none 0 0) : Sem Value).run P w = .ok (.bool (!a.isNone)) w := by
  have h := run_neq_slice_nil (P := P) (w := w) t e a n c ht.hu
  simp [go_sem, h]
theorem ps_neqnil {t e : TypeId} {s by_ : Nat} [ht : SlT P t e s by_] {rt : TypeId} {x y : Operand} {s' : Nat} {b : Bool} {l : List PV} (ho : o.op = .binOp .neq t x y rt) (h1 : view hp (ev x) = .sl s' (some b) l) (h2 : ev y = nilV) : PStep P o ev hp (B (!b)) :=
  .of_run fun w0 g ρ w av hb hx => by
    have e1 := hb.view (hx x (by simp [ho, Op.operands]))
    have e2 := val_of (hx y (by simp [ho, Op.operands])) h2
    rw [h1] at e1
    have key : ∃ a n c, av x = .slice a n c ∧ a.isNone = b := by
      rcases VR.sl_inv e1 with ⟨ea, -, hn⟩ | ⟨a, cap, ea, -, hn⟩ | ⟨b', off, cap, cc, cs, ea, -, hn, -⟩
      · refine ⟨_, _, _, ea, ?_⟩; cases b <;> simp_all
      · refine ⟨_, _, _, ea, ?_⟩; cases b <;> simp_all
      · refine ⟨_, _, _, ea, ?_⟩; cases b <;> simp_all
    obtain ⟨a, n, c, ea, hab⟩ := key
    refine ⟨.bool (!b), ?_, .of_VR (.val _)⟩
    have h := neqnil_run (P := P) ht (x := x) (y := y) a n c w
    simp only [execOp, ho, ea, e2]
    rw [Sem.run_bind, h, hab]; rfl
theorem ps_neqnil_v {t e : TypeId} {s by_ : Nat} [ht : SlT P t e s by_] {rt : TypeId} {x y : Operand} (ho : o.op = .binOp .neq t x y rt) (h1 : ev x = nilV) (h2 : ev y = nilV) : PStep P o ev hp (B false) :=
  ps_bin ho h1 h2 fun w => neqnil_run ht none 0 0 w
theorem ps_neqnil_ne {t e : TypeId} {s by_ : Nat} [ht : SlT P t e s by_] {rt : TypeId} {x y : Operand} {s' : Nat} {nn : Option Bool} {l : List PV} (ho : o.op = .binOp .neq t x y rt) (h1 : view hp (ev x) = .sl s' nn l) (h2 : ev y = nilV) (hl : l ≠ []) : PStep P o ev hp (B true) :=
  .of_run fun w0 g ρ w av hb hx => by
    have e1 := hb.view (hx x (by simp [ho, Op.operands]))
    have e2 := val_of (hx y (by simp [ho, Op.operands])) h2
    rw [h1] at e1
    have key : ∃ a n c, av x = .slice a n c ∧ a.isNone = false := by
      rcases VR.sl_inv e1 with ⟨ea, h', hn⟩ | ⟨a, cap, ea, h', hn⟩ | ⟨b', off, cap, cc, cs, ea, -⟩
      · exact absurd h' hl
      · exact absurd h' hl
      · exact ⟨_, _, _, ea, rfl⟩
    obtain ⟨a, n, c, ea, hab⟩ := key
    refine ⟨.bool true, ?_, .of_VR (.val _)⟩
    have h := neqnil_run (P := P) ht (x := x) (y := y) a n c w
    simp only [execOp, ho, ea, e2]
    rw [Sem.run_bind, h, hab]; rfl
end
end Go.Pv
namespace Go.Proofs.YtbohjibbgppfaaaGreat
open Go Go.Pv Go.Proofs
set_option maxHeartbeats 32000000
set_option maxRecDepth 100000
attribute [local bitvec_to_nat] St.put St.setObj St.ev killP killA killP1 killH mapHO renP renA ren1 killG killGA killG1 krowP krowA krow1 lendP lendA lend1 unv pinP pin1 elemsM viewM viewN viewV n_set_z n_set_s n_map_c n_map_n getD_z getD_s n_toNat n_cond_t n_cond_f n_len_c n_len_n n_app_c n_app_n n_take_s n_take_z n_drop_s n_drop_z n_get_z n_get_s view viewA view1 elems Nat.zero_add Nat.add_zero Bool.not_true Bool.not_false Nat.one_ne_zero Nat.mul_one

theorem sfull_c (n : Nat) (hn : n ≤ 1000000) : PCalls Tryz.prog 168 [I (n : Int)] (ints (fullL n)) := by
  refine pcalls1 Tryz.func168 rfl Tryz.ntmps168 rfl ?_
  refine wF ?_
  rw [show ints (fullL n) = .sl 1 none (List.replicate n (I 0)) by unfold fullL; show PV.sl 1 none ((List.replicate n 0).map I) = _; rw [List.map_replicate]]
  repeat' (first
| refine wO ?_
| (refine o_go rfl ?_; (first
| refine p_e rfl (e_make (zp := I 0) rfl rfl rfl (by omega) (by omega) (by omega) (by decide) (by rfl) (by rfl)) ?_
| refine wS ?_); refine ⟨_, aA, ?_⟩)
| refine kr1 ?_
| refine krS rfl ?_
| refine wE ?_)
  all_goals first | rfl | (exfalso; omega)
theorem scovT_c (n : Nat) (V : List (List Int)) (p : List Int) (hn : n ≤ 1000) (hl : V.length ≤ 1000000) (hV : ∀ q ∈ V, Pt n q) (hp : Pt n p) : PCalls Tryz.prog 175 [intss V, ints p] (intss (covR6 n V V p)) := by
  refine pcalls1 Tryz.func175 rfl Tryz.ntmps175 rfl ?_
  refine wF ?_
  repeat' (first
| refine wO ?_
| (refine o_go rfl ?_; (first
| refine p_e rfl (e_lit0T rfl (by decide)) ?_
| refine wS ?_); refine ⟨_, aA, ?_⟩))
  refine g_loopF (α := Nat) [9] (fun i => [(5, .hp 0), (6, I (i : Int))]) (fun i => [.arr true 1 27 ((covR6 n V (V.take i) p).map ints)]) (fun i => i ≤ V.length) (fun i => V.length - i) 0 aF (Nat.zero_le _) ⟨rfl, rfl, trivial⟩ rfl ?_
  rintro i hi
  dsimp only [zZ, List.set_cons_zero, List.set_cons_succ]
  have hel : (covR6 n V (V.take i) p).length ≤ i := Nat.le_trans (List.length_filter_le _ _) (by simp; omega)
  by_cases hil : i < V.length
  · have ri := rows_at hil
    have hq := hV _ (rows_mem hil)
    have b1 := sbel_c n p (V.getD i []) hn hp hq.len
    have s1 := gsame_c p (V.getD i []) (by rw [hp.len]; omega)
    have hsn := covR6_take n (V := V) (p := p) hil
    unfold cvB cvE at hsn
    generalize covR6 n V (V.take i) p = A at *
    have hll : (A.map ints).length = A.length := List.length_map ..
    generalize V.getD i [] = q at *
    cases hf : fiB n p q with
    | false =>
      rw [hf] at b1 hsn
      rw [Bool.false_and, Bool.false_and, if_neg Bool.false_ne_true, List.append_nil] at hsn
      repeat' (first
| refine wO ?_
| (refine o_go rfl ?_; (first
| refine p_p (zG rfl rfl aB (b1)) ?_
| refine p_p (zN rfl rfl rfl (by omega) ri (by exact rfl)) ?_
| refine wS ?_); refine ⟨_, aA, ?_⟩)
| (refine o_s rfl ?_; refine ⟨_, aA, ?_⟩)
| (refine zK rfl (fun hc => ?_) (fun hc => ?_) <;> try (exfalso; omega))
| refine wE ?_)
      all_goals try (exfalso; omega)
      refine g_loopF (α := Nat) [] (fun k => [(7, B false), (8, I (k : Int))]) (fun _ => [.arr true 1 27 (A.map ints)]) (fun k => k = 0) (fun _ => 0) 0 aF rfl ⟨rfl, rfl, trivial⟩ rfl ?_
      rintro k rfl
      dsimp only [zZ, List.set_cons_zero, List.set_cons_succ]
      repeat' (first
| refine wO ?_
| (refine o_go rfl ?_; (first
| refine wS ?_); refine ⟨_, aA, ?_⟩)
| (refine o_splitD rfl rfl rfl (fun hc => ?_) (fun hc => ?_) <;> first | (exfalso; omega) | dsimp only [List.set_cons_zero, List.set_cons_succ])
| refine wE ?_)
      all_goals try (exfalso; omega)
      exact zT (K := fun _ _ => True) (i + 1) (by omega) (by omega) aI ⟨rfl, rfl, trivial⟩ (zB (by rw [hsn]) (zM _))
    | true =>
      rw [hf] at b1 hsn
      by_cases he : p = q
      · rw [decide_eq_true he] at s1 hsn
        rw [Bool.not_true, Bool.and_false, Bool.false_and, if_neg Bool.false_ne_true, List.append_nil] at hsn
        repeat' (first
| refine wO ?_
| (refine o_go rfl ?_; (first
| refine p_p (zG rfl rfl aB (b1)) ?_
| refine p_p (zG rfl rfl aB (s1)) ?_
| refine p_p (zN rfl rfl rfl (by omega) ri (by exact rfl)) ?_
| refine wS ?_); refine ⟨_, aA, ?_⟩)
| (refine zK rfl (fun hc => ?_) (fun hc => ?_) <;> try (exfalso; omega))
| refine wE ?_)
        all_goals try (exfalso; omega)
        refine g_loopF (α := Nat) [] (fun k => [(7, B false), (8, I (k : Int))]) (fun _ => [.arr true 1 27 (A.map ints)]) (fun k => k = 0) (fun _ => 0) 0 aF rfl ⟨rfl, rfl, trivial⟩ rfl ?_
        rintro k rfl
        dsimp only [zZ, List.set_cons_zero, List.set_cons_succ]
        repeat' (first
| refine wO ?_
| (refine o_go rfl ?_; (first
| refine wS ?_); refine ⟨_, aA, ?_⟩)
| (refine o_splitD rfl rfl rfl (fun hc => ?_) (fun hc => ?_) <;> first | (exfalso; omega) | dsimp only [List.set_cons_zero, List.set_cons_succ])
| refine wE ?_)
        all_goals try (exfalso; omega)
        exact zT (K := fun _ _ => True) (i + 1) (by omega) (by omega) aI ⟨rfl, rfl, trivial⟩ (zB (by rw [hsn]) (zM _))
      · rw [decide_eq_false he] at s1 hsn
        rw [Bool.not_false, Bool.and_true, Bool.true_and] at hsn
        repeat' (first
| refine wO ?_
| (refine o_go rfl ?_; (first
| refine p_p (zG rfl rfl aB (b1)) ?_
| refine p_p (zG rfl rfl aB (s1)) ?_
| refine p_p (zN rfl rfl rfl (by omega) ri (by exact rfl)) ?_
| refine wS ?_); refine ⟨_, aA, ?_⟩)
| (refine zK rfl (fun hc => ?_) (fun hc => ?_) <;> try (exfalso; omega))
| refine wE ?_)
        all_goals try (exfalso; omega)
        refine g_loopF (α := Nat) [] (fun k => [(7, B (cvK n V p q k)), (8, I (k : Int))]) (fun _ => [.arr true 1 27 (A.map ints)]) (fun k => k ≤ V.length) (fun k => V.length - k) 0 aF (Nat.zero_le _) ⟨rfl, rfl, trivial⟩ rfl ?_
        rintro k hk
        dsimp only [zZ, List.set_cons_zero, List.set_cons_succ]
        cases hc0 : cvK n V p q k with
        | false =>
          rw [cvK_mono hc0 hk, if_neg Bool.false_ne_true, List.append_nil] at hsn
          repeat' (first
| refine wO ?_
| (refine o_go rfl ?_; (first
| refine wS ?_); refine ⟨_, aA, ?_⟩)
| (refine o_s rfl ?_; refine ⟨_, aA, ?_⟩)
| (refine o_splitD rfl rfl rfl (fun hc => ?_) (fun hc => ?_) <;> first | (exfalso; omega) | dsimp only [List.set_cons_zero, List.set_cons_succ])
| refine wE ?_)
          all_goals try (exfalso; omega)
          all_goals exact zT (K := fun _ _ => True) (i + 1) (by omega) (by omega) aI ⟨rfl, rfl, trivial⟩ (zB (by rw [hsn]) (zM _))
        | true =>
          by_cases hkl : k < V.length
          · have rk := rows_at hkl
            have hr := hV _ (rows_mem hkl)
            have c1 := sbel_c n p (V.getD k []) hn hp hr.len
            have c2 := sbel_c n (V.getD k []) q hn hr hq.len
            have c3 := gsame_c (V.getD k []) p (by rw [hr.len]; omega)
            have c4 := gsame_c (V.getD k []) q (by rw [hr.len]; omega)
            have hks := cvK_succ n V p q k
            rw [hc0, Bool.true_and] at hks
            unfold cvD at hks
            generalize V.getD k [] = r at *
            cases f1 : fiB n p r with
            | false =>
              rw [f1] at c1 hks
              rw [Bool.false_and, Bool.not_false] at hks
              repeat' (first
| refine wO ?_
| refine zP (by kernel_rfl) (by kernel_rfl) ?_
| (refine o_go rfl ?_; (first
| refine p_p (zG rfl rfl aB (c1)) ?_
| refine p_p (zN rfl rfl rfl (by omega) rk (by exact rfl)) ?_
| refine wS ?_); refine ⟨_, aA, ?_⟩)
| (refine o_s rfl ?_; refine ⟨_, aA, ?_⟩)
| (refine o_splitD rfl rfl rfl (fun hc => ?_) (fun hc => ?_) <;> first | (exfalso; omega) | dsimp only [List.set_cons_zero, List.set_cons_succ])
| refine wE ?_)
              all_goals try (exfalso; omega)
              exact zT (k + 1) (by omega) (by omega) aI ⟨by rw [hks]; rfl, rfl, trivial⟩ (zB rfl (zM _))
            | true =>
              rw [f1] at c1 hks
              rw [Bool.true_and] at hks
              cases f2 : fiB n r q with
              | false =>
                rw [f2] at c2 hks
                rw [Bool.false_and, Bool.not_false] at hks
                repeat' (first
| refine wO ?_
| refine zP (by kernel_rfl) (by kernel_rfl) ?_
| (refine o_go rfl ?_; (first
| refine p_p (zG rfl rfl aB (c1)) ?_
| refine p_p (zG rfl rfl aB (c2)) ?_
| refine p_p (zN rfl rfl rfl (by omega) ri (by exact rfl)) ?_
| refine p_p (zN rfl rfl rfl (by omega) rk (by exact rfl)) ?_
| refine wS ?_); refine ⟨_, aA, ?_⟩)
| (refine o_s rfl ?_; refine ⟨_, aA, ?_⟩)
| (refine o_splitD rfl rfl rfl (fun hc => ?_) (fun hc => ?_) <;> first | (exfalso; omega) | dsimp only [List.set_cons_zero, List.set_cons_succ])
| refine wE ?_)
                all_goals try (exfalso; omega)
                exact zT (k + 1) (by omega) (by omega) aI ⟨by rw [hks]; rfl, rfl, trivial⟩ (zB rfl (zM _))
              | true =>
                rw [f2] at c2 hks
                rw [Bool.true_and] at hks
                by_cases f3 : r = p
                · rw [decide_eq_true f3] at c3 hks
                  rw [Bool.not_true, Bool.false_and, Bool.not_false] at hks
                  repeat' (first
| refine wO ?_
| refine zP (by kernel_rfl) (by kernel_rfl) ?_
| (refine o_go rfl ?_; (first
| refine p_p (zG rfl rfl aB (c1)) ?_
| refine p_p (zG rfl rfl aB (c2)) ?_
| refine p_p (zG rfl rfl aB (c3)) ?_
| refine p_p (zN rfl rfl rfl (by omega) ri (by exact rfl)) ?_
| refine p_p (zN rfl rfl rfl (by omega) rk (by exact rfl)) ?_
| refine wS ?_); refine ⟨_, aA, ?_⟩)
| (refine o_s rfl ?_; refine ⟨_, aA, ?_⟩)
| (refine o_splitD rfl rfl rfl (fun hc => ?_) (fun hc => ?_) <;> first | (exfalso; omega) | dsimp only [List.set_cons_zero, List.set_cons_succ])
| refine wE ?_)
                  all_goals try (exfalso; omega)
                  exact zT (k + 1) (by omega) (by omega) aI ⟨by rw [hks]; rfl, rfl, trivial⟩ (zB rfl (zM _))
                · rw [decide_eq_false f3] at c3 hks
                  rw [Bool.not_false, Bool.true_and, Bool.not_not] at hks
                  by_cases f4 : r = q
                  · rw [decide_eq_true f4] at c4 hks
                    repeat' (first
| refine wO ?_
| refine zP (by kernel_rfl) (by kernel_rfl) ?_
| (refine o_go rfl ?_; (first
| refine p_p (zG rfl rfl aB (c1)) ?_
| refine p_p (zG rfl rfl aB (c2)) ?_
| refine p_p (zG rfl rfl aB (c3)) ?_
| refine p_p (zG rfl rfl aB (c4)) ?_
| refine p_p (zN rfl rfl rfl (by omega) ri (by exact rfl)) ?_
| refine p_p (zN rfl rfl rfl (by omega) rk (by exact rfl)) ?_
| refine wS ?_); refine ⟨_, aA, ?_⟩)
| (refine o_splitD rfl rfl rfl (fun hc => ?_) (fun hc => ?_) <;> first | (exfalso; omega) | dsimp only [List.set_cons_zero, List.set_cons_succ])
| refine wE ?_)
                    all_goals try (exfalso; omega)
                    exact zT (k + 1) (by omega) (by omega) aI ⟨by rw [hks]; rfl, rfl, trivial⟩ (zB rfl (zM _))
                  · rw [decide_eq_false f4] at c4 hks
                    repeat' (first
| refine wO ?_
| refine zP (by kernel_rfl) (by kernel_rfl) ?_
| (refine o_go rfl ?_; (first
| refine p_p (zG rfl rfl aB (c1)) ?_
| refine p_p (zG rfl rfl aB (c2)) ?_
| refine p_p (zG rfl rfl aB (c3)) ?_
| refine p_p (zG rfl rfl aB (c4)) ?_
| refine p_p (zN rfl rfl rfl (by omega) ri (by exact rfl)) ?_
| refine p_p (zN rfl rfl rfl (by omega) rk (by exact rfl)) ?_
| refine wS ?_); refine ⟨_, aA, ?_⟩)
| (refine o_splitD rfl rfl rfl (fun hc => ?_) (fun hc => ?_) <;> first | (exfalso; omega) | dsimp only [List.set_cons_zero, List.set_cons_succ])
| refine wE ?_)
                    all_goals try (exfalso; omega)
                    exact zT (k + 1) (by omega) (by omega) aI ⟨by rw [hks]; rfl, rfl, trivial⟩ (zB rfl (zM _))
          · obtain rfl : k = V.length := by omega
            rw [hc0, if_pos rfl] at hsn
            repeat' (first
| refine wO ?_
| (refine o_go rfl ?_; (first
| refine p_p (zN rfl rfl rfl (by omega) ri (by exact rfl)) ?_
| refine p_e (by kernel_rfl) (e_append rfl rfl rfl rfl rfl rfl (one_one rfl) rfl (by rw [hll, n_len_c, n_len_n]; omega) (by rw [hll, n_len_c, n_len_n]; omega)) ?_
| refine wS ?_
| refine p_p (ps_lit1 rfl rfl (by rfl) (by rfl)) ?_); refine ⟨_, aA, ?_⟩)
| (refine o_s rfl ?_; refine ⟨_, aA, ?_⟩)
| (refine o_splitD rfl rfl rfl (fun hc => ?_) (fun hc => ?_) <;> first | (exfalso; omega) | dsimp only [List.set_cons_zero, List.set_cons_succ])
| refine wE ?_)
            all_goals try (exfalso; omega)
            exact zT (K := fun _ _ => True) (i + 1) (by omega) (by omega) aI ⟨rfl, rfl, trivial⟩ (zB (by rw [hsn, List.map_append]; rfl) (zM _))
  · rw [List.take_of_length_le (show V.length ≤ i by omega)]
    repeat' (first
| refine wO ?_
| (refine o_go rfl ?_; (first
| refine wS ?_); refine ⟨_, aA, ?_⟩)
| (refine zK rfl (fun hc => ?_) (fun hc => ?_) <;> try (exfalso; omega))
| refine kr1 ?_
| refine krS rfl ?_
| refine wE ?_)
    all_goals first | rfl | (exfalso; omega)
theorem sirr6_c (m : Nat) (ops : List OpD) (hm0 : 0 < m) (hm8 : m ≤ 8) (hl : ops.length ≤ 1048576) (ho : opsIn m ops) (h : (allL m ops).length ≤ 200) : PCalls Tryz.prog 105 [algP m ops] (intss (irrC m (allL m ops) (allL m ops))) := by
  refine pcalls1 Tryz.func105 rfl Tryz.ntmps105 rfl ?_
  refine wF ?_
  have a1 := sallC_c m ops hm0 hm8 hl ho (by omega)
  have hV : ∀ q ∈ allL m ops, Pt m q := fc_pt
  have hd := ascC_nodup (allL_all m ops).1
  generalize allL m ops = V at *
  repeat' (first
| refine wO ?_
| (refine o_go rfl ?_; (first
| refine p_e rfl (e_lit0T rfl (by decide)) ?_
| refine p_p (zG rfl rfl aB (a1)) ?_
| refine wS ?_
| refine p_p (ps_load_agg rfl rfl aK) ?_
| refine p_p (ps_box rfl rfl) ?_); refine ⟨_, aA, ?_⟩))
  refine g_loopF (α := Nat) [6] (fun i => [(3, .hp 0), (5, I (i : Int))]) (fun i => [.arr true 1 27 ((irrC m V (V.take i)).map ints)]) (fun i => i ≤ V.length) (fun i => V.length - i) 0 aF (Nat.zero_le _) ⟨rfl, rfl, trivial⟩ rfl ?_
  rintro i hi
  dsimp only [zZ, List.set_cons_zero, List.set_cons_succ]
  have hel : (irrC m V (V.take i)).length ≤ i := Nat.le_trans (List.length_filter_le _ _) (by simp; omega)
  have hll : ((irrC m V (V.take i)).map ints).length = (irrC m V (V.take i)).length := List.length_map ..
  by_cases hil : i < V.length
  · have ri := rows_at hil
    have hq := hV _ (rows_mem hil)
    have h1 := scovT_c m V (V.getD i []) (by omega) (by omega) hV hq
    rw [cov_same hd] at h1
    have hsn := irrC_take m (V := V) hil
    generalize covP6 m V (V.getD i []) = K at *
    by_cases he : K.length = 1
    · rw [decide_eq_true he, if_pos rfl] at hsn
      repeat' (first
| refine wO ?_
| (refine o_go rfl ?_; (first
| refine p_p (zN rfl rfl rfl (by omega) ri (by exact rfl)) ?_
| refine p_p (zG rfl rfl aB (h1)) ?_
| refine p_e (by kernel_rfl) (e_append rfl rfl rfl rfl rfl rfl (one_one rfl) rfl (by rw [hll, n_len_c, n_len_n]; omega) (by rw [hll, n_len_c, n_len_n]; omega)) ?_
| refine wS ?_
| refine p_p (ps_lit1 rfl rfl (by rfl) (by rfl)) ?_); refine ⟨_, aA, ?_⟩)
| (refine zK rfl (fun hc => ?_) (fun hc => ?_) <;> try (exfalso; omega))
| refine wE ?_)
      all_goals try (exfalso; omega)
      exact zT (i + 1) (by omega) (by omega) aI ⟨rfl, rfl, trivial⟩ (zB (by rw [hsn, List.map_append]; rfl) (zM _))
    · rw [decide_eq_false he, if_neg Bool.false_ne_true, List.append_nil] at hsn
      repeat' (first
| refine wO ?_
| (refine o_go rfl ?_; (first
| refine p_p (zN rfl rfl rfl (by omega) ri (by exact rfl)) ?_
| refine p_p (zG rfl rfl aB (h1)) ?_
| refine wS ?_); refine ⟨_, aA, ?_⟩)
| (refine zK rfl (fun hc => ?_) (fun hc => ?_) <;> try (exfalso; omega))
| refine wE ?_)
      all_goals try (exfalso; omega)
      exact zT (i + 1) (by omega) (by omega) aI ⟨rfl, rfl, trivial⟩ (zB (by rw [hsn]) (zM _))
  · rw [List.take_of_length_le (show V.length ≤ i by omega)]
    repeat' (first
| refine wO ?_
| (refine o_go rfl ?_; (first
| refine wS ?_); refine ⟨_, aA, ?_⟩)
| (refine zK rfl (fun hc => ?_) (fun hc => ?_) <;> try (exfalso; omega))
| refine kr1 ?_
| refine krS rfl ?_
| refine wE ?_)
    all_goals first | rfl | (exfalso; omega)
end Go.Proofs.YtbohjibbgppfaaaGreat
