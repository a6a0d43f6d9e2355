/- Walks: chains in the reference. -/
import Derived.Test.YtlgfniaakjchgaaGreatLGj
namespace Go.Proofs.YtlgfniaakjchgaaGreat
open Go Go.Pv Go.Proofs
set_option maxHeartbeats 32000000
set_option maxRecDepth 100000
attribute [local bitvec_to_nat] St.put St.setObj St.ev killP killA killP1 killH mapHO renP renA ren1 killG killGA killG1 krowP krowA krow1 lendP lendA lend1 unv pinP pin1 elemsM viewM viewN viewV n_set_z n_set_s n_map_c n_map_n getD_z getD_s n_toNat n_cond_t n_cond_f n_len_c n_len_n n_app_c n_app_n n_take_s n_take_z n_drop_s n_drop_z n_get_z n_get_s view viewA view1 elems Nat.zero_add Nat.add_zero Bool.not_true Bool.not_false Nat.one_ne_zero Nat.mul_one
attribute [local bitvec_to_nat] posI optP lendM1 lendMA lendMP killM1 killMA killMP hasI getO backM1 backMA backMP putL inpM pinM1 pinMA pinMP

theorem argsL2 {n x y : Nat} (hx : x < n) (hy : y < n) : argsL n 2 (x * n + y) = [(x : Int), (y : Int)] := by
  have h1 := argsL_idxL (n := n) (by omega) 2 [(x : Int), (y : Int)] rfl (by
    intro z hz
    simp only [List.mem_cons, List.not_mem_nil, or_false] at hz
    rcases hz with rfl | rfl <;> omega)
  have h2 : idxL n [(x : Int), (y : Int)] = ((x * n + y : Nat) : Int) := by
    unfold idxL
    simp only [List.foldl_cons, List.foldl_nil]
    push_cast
    rw [Int.zero_mul, Int.zero_add]
  rw [h2, Int.toNat_natCast] at h1
  exact h1
abbrev at3 (n : Nat) (t : List Int) (x y z : Nat) : Int := t.getD (x * n * n + y * n + z) 0
theorem valA_at {n : Nat} {t : List Int} {x y : Nat} (hx : x < n) (hy : y < n) : valA n t [0, 1, 0] (x * n + y) = at3 n t x y x ∧ valA n t [0, 0, 1] (x * n + y) = at3 n t x x y ∧ valA n t [0, 1, 1] (x * n + y) = at3 n t x y y := by
  unfold valA
  rw [argsL2 hx hy]
  have key : ∀ a b c : Nat, (idxL n [(a : Int), (b : Int), (c : Int)]).toNat = a * n * n + b * n + c := fun a b c => by
    unfold idxL
    simp only [List.foldl_cons, List.foldl_nil, Int.zero_mul, Int.zero_add]
    have : ((a : Int) * n + b) * n + c = ((a * n * n + b * n + c : Nat) : Int) := by push_cast; rw [Int.add_mul]
    rw [this, Int.toNat_natCast]
  refine ⟨?_, ?_, ?_⟩ <;> (dsimp only [comL, List.map_cons, List.map_nil]; exact congrArg (fun i => t.getD i 0) (key _ _ _))
theorem at3_lt {n x y z : Nat} (hx : x < n) (hy : y < n) (hz : z < n) : x * n * n + y * n + z < n ^ 3 := by
  have h1 : x * n + y < n * n := by
    calc x * n + y < x * n + n := by omega
      _ = (x + 1) * n := by rw [Nat.succ_mul]
      _ ≤ n * n := Nat.mul_le_mul_right n (by omega)
  calc x * n * n + y * n + z < (x * n + y) * n + n := by rw [Nat.add_mul]; omega
    _ = (x * n + y + 1) * n := by rw [Nat.succ_mul]
    _ ≤ (n * n) * n := Nat.mul_le_mul_right n (by omega)
    _ = n ^ 3 := by rw [Nat.pow_succ, Nat.pow_two]
theorem svalue_c (n : Nat) (t : List Int) (x y z : Nat) (hn : n ≤ 8) (ht : t.length = n ^ 3) (hx : x < n) (hy : y < n) (hz : z < n) : PCalls Tryz.prog 73 [I (n : Int), ints t, I (x : Int), I (y : Int), I (z : Int)] (I (at3 n t x y z)) := by
  refine pcalls1 Tryz.func73 rfl Tryz.ntmps73 rfl ?_
  simp only [List.length_cons, List.length_nil, Nat.reduceAdd, Nat.reduceSub, List.replicate_succ, List.replicate_zero, List.cons_append, List.nil_append]
  have hlt := at3_lt hx hy hz
  have hp3 := pow_le3 (show n ≤ 1000 by omega) (show 3 ≤ 3 by omega)
  have e1 : (x : Int) * n = ((x * n : Nat) : Int) := by push_cast; rfl
  have e2 : (x : Int) * n * n = ((x * n * n : Nat) : Int) := by push_cast; rfl
  have e3 : (y : Int) * n = ((y * n : Nat) : Int) := by push_cast; rfl
  have b1 : x * n ≤ 64 := Nat.mul_le_mul (show x ≤ 8 by omega) hn
  have b2 : x * n * n ≤ 512 := Nat.mul_le_mul b1 hn
  have b3 : y * n ≤ 64 := Nat.mul_le_mul (show y ≤ 8 by omega) hn
  have hix : (t.map I)[((x : Int) * n * n + (y : Int) * n + z).toNat]? = some (I (at3 n t x y z)) := by
    rw [e2, e3, show ((x * n * n : Nat) : Int) + ((y * n : Nat) : Int) + (z : Int) = ((x * n * n + y * n + z : Nat) : Int) by push_cast; rfl, Int.toNat_natCast]
    exact idx_I (by omega)
  repeat' (first
| refine g_seq ?_
| refine zC ?_
| (refine o_go rfl ?_; (first
| refine p_p (ps_mul rfl rfl rfl (by omega)) ?_
| refine p_p (zN rfl rfl rfl (by omega) hix (by exact rfl)) ?_
| refine p_p (zD rfl) ?_
| refine p_p (zA rfl) ?_
| refine p_p (zF rfl rfl) ?_
| refine p_p (ps_add rfl rfl rfl aN) ?_); refine ⟨_, aB, ?_⟩)
| refine o_nil ?_
| refine kr1 ?_
| refine krI rfl ?_
| refine g_ret ?_)
  all_goals rfl
def wayL : Nat → List Int
  | 0 => [0, 1, 0]
  | 1 => [0, 0, 1]
  | _ => [0, 1, 1]
theorem spart_c (n w : Nat) (t : List Int) (hn : n ≤ 8) (hw : w < 3) (ht : t.length = n ^ 3) : PCalls Tryz.prog 66 [I (n : Int), ints t, I (w : Int)] (ints (valL n t (wayL w) (n * n))) := by
  refine pcalls1 Tryz.func66 rfl Tryz.ntmps66 rfl ?_
  simp only [List.length_cons, List.length_nil, Nat.reduceAdd, Nat.reduceSub, List.replicate_succ, List.replicate_zero, List.cons_append, List.nil_append]
  have hnn : n * n ≤ 64 := Nat.mul_le_mul hn hn
  repeat' (first
| refine g_seq ?_
| refine zJ ?_
| refine zC ?_
| (refine o_go rfl ?_; (first
| refine p_e rfl (e_lit0T rfl (by decide)) ?_
| refine p_p (zA rfl) ?_); refine ⟨_, aB, ?_⟩)
| refine o_nil ?_)
  refine g_loopF (α := Nat) [10] (fun x => [(7, .hp 0), (8, I (x : Int))]) (fun x => [.arr true 1 3 ((valL n t (wayL w) (x * n)).map I)]) (fun x => x ≤ n) (fun x => n - x) 0 aH (Nat.zero_le _) ⟨rfl, rfl, trivial⟩ (by rw [Nat.zero_mul]; rfl) ?_
  rintro x hx
  dsimp only [zZ, List.set_cons_zero, List.set_cons_succ]
  by_cases hxn : x < n
  · repeat' (first
| refine g_seq ?_
| refine zJ ?_
| refine zC ?_
| (refine o_go rfl ?_; (first
| refine p_p (zD rfl) ?_
| refine p_p (zA rfl) ?_
| refine p_p (zS rfl rfl rfl) ?_); refine ⟨_, aB, ?_⟩)
| refine o_nil ?_
| (refine zK rfl (fun hc => ?_) (fun hc => ?_) <;> try (exfalso; omega))
| refine zR ?_)
    all_goals try (exfalso; omega)
    refine g_loopF (α := Nat) [] (fun y => [(7, .hp 0), (9, I (y : Int))]) (fun y => [.arr true 1 3 ((valL n t (wayL w) (x * n + y)).map I)]) (fun y => y ≤ n) (fun y => n - y) 0 aH (Nat.zero_le _) ⟨rfl, rfl, trivial⟩ rfl ?_
    rintro y hy
    dsimp only [zZ, List.set_cons_zero, List.set_cons_succ]
    have hvl : ((valL n t (wayL w) (x * n + y)).map I).length = x * n + y := by rw [List.length_map, valL_len]
    have hxy : x * n + y ≤ 72 := by
      have : x * n ≤ 8 * 8 := Nat.mul_le_mul (by omega) hn
      omega
    by_cases hyn : y < n
    · have v1 := svalue_c n t x y x hn ht hxn hyn hxn
      have v2 := svalue_c n t x x y hn ht hxn hxn hyn
      have v3 := svalue_c n t x y y hn ht hxn hyn hyn
      obtain ⟨a1, a2, a3⟩ := valA_at (t := t) hxn hyn
      have hs := valL_succ n t (wayL w) (x * n + y)
      obtain rfl | rfl | rfl : w = 0 ∨ w = 1 ∨ w = 2 := by omega
      · rw [show wayL 0 = [0, 1, 0] from rfl] at *
        repeat' (first
| refine g_seq ?_
| refine zJ ?_
| refine zC ?_
| (refine o_go rfl ?_; (first
| refine p_p (zG rfl rfl aC (v1)) ?_
| refine p_e (by kernel_rfl) (e_append rfl rfl rfl rfl rfl rfl (one_one rfl) rfl aP aP) ?_
| refine p_p (zD rfl) ?_
| refine p_p (zA rfl) ?_
| refine p_p (zS rfl rfl rfl) ?_
| refine p_p (ps_add rfl rfl rfl aN) ?_
| refine p_p (ps_eql rfl rfl rfl) ?_
| refine p_p (ps_lit1 rfl rfl (by rfl) (by rfl)) ?_); refine ⟨_, aB, ?_⟩)
| refine o_nil ?_
| refine zX rfl ?_
| (refine zK rfl (fun hc => ?_) (fun hc => ?_) <;> try (exfalso; omega))
| refine zR ?_)
        all_goals try (exfalso; omega)
        exact zT (y + 1) (by omega) (by omega) aI ⟨rfl, rfl, trivial⟩ (zB (by rw [← Nat.add_assoc, hs, List.map_append, a1]; rfl) (zM _))
      · rw [show wayL 1 = [0, 0, 1] from rfl] at *
        repeat' (first
| refine g_seq ?_
| refine zJ ?_
| refine zC ?_
| (refine o_go rfl ?_; (first
| refine p_p (zG rfl rfl aC (v2)) ?_
| refine p_e (by kernel_rfl) (e_append rfl rfl rfl rfl rfl rfl (one_one rfl) rfl aP aP) ?_
| refine p_p (zD rfl) ?_
| refine p_p (zA rfl) ?_
| refine p_p (zS rfl rfl rfl) ?_
| refine p_p (ps_add rfl rfl rfl aN) ?_
| refine p_p (ps_eql rfl rfl rfl) ?_
| refine p_p (ps_lit1 rfl rfl (by rfl) (by rfl)) ?_); refine ⟨_, aB, ?_⟩)
| refine o_nil ?_
| refine zX rfl ?_
| refine zW rfl ?_
| (refine zK rfl (fun hc => ?_) (fun hc => ?_) <;> try (exfalso; omega))
| refine zR ?_)
        all_goals try (exfalso; omega)
        exact zT (y + 1) (by omega) (by omega) aI ⟨rfl, rfl, trivial⟩ (zB (by rw [← Nat.add_assoc, hs, List.map_append, a2]; rfl) (zM _))
      · rw [show wayL 2 = [0, 1, 1] from rfl] at *
        repeat' (first
| refine g_seq ?_
| refine zJ ?_
| refine zC ?_
| (refine o_go rfl ?_; (first
| refine p_p (zG rfl rfl aC (v3)) ?_
| refine p_e (by kernel_rfl) (e_append rfl rfl rfl rfl rfl rfl (one_one rfl) rfl aP aP) ?_
| refine p_p (zD rfl) ?_
| refine p_p (zA rfl) ?_
| refine p_p (zS rfl rfl rfl) ?_
| refine p_p (ps_add rfl rfl rfl aN) ?_
| refine p_p (ps_eql rfl rfl rfl) ?_
| refine p_p (ps_lit1 rfl rfl (by rfl) (by rfl)) ?_); refine ⟨_, aB, ?_⟩)
| refine o_nil ?_
| refine zW rfl ?_
| (refine zK rfl (fun hc => ?_) (fun hc => ?_) <;> try (exfalso; omega))
| refine zR ?_)
        all_goals try (exfalso; omega)
        exact zT (y + 1) (by omega) (by omega) aI ⟨rfl, rfl, trivial⟩ (zB (by rw [← Nat.add_assoc, hs, List.map_append, a3]; rfl) (zM _))
    · obtain rfl : y = n := by omega
      repeat' (first
| refine g_seq ?_
| refine zC ?_
| (refine o_go rfl ?_; (first
| refine p_p (zD rfl) ?_
| refine p_p (zA rfl) ?_
| refine p_p (zS rfl rfl rfl) ?_
| refine p_p (ps_add rfl rfl rfl aN) ?_); refine ⟨_, aB, ?_⟩)
| refine o_nil ?_
| (refine zK rfl (fun hc => ?_) (fun hc => ?_) <;> try (exfalso; omega))
| refine g_exit ?_)
      all_goals try (exfalso; omega)
      exact zT (x + 1) (by omega) (by omega) aI ⟨rfl, rfl, trivial⟩ (zB (by rw [Nat.succ_mul]) (zM _))
  · obtain rfl : x = n := by omega
    repeat' (first
| refine g_seq ?_
| refine zC ?_
| (refine o_go rfl ?_; (first
| refine p_p (zD rfl) ?_
| refine p_p (zA rfl) ?_
| refine p_p (zS rfl rfl rfl) ?_); refine ⟨_, aB, ?_⟩)
| refine o_nil ?_
| (refine zK rfl (fun hc => ?_) (fun hc => ?_) <;> try (exfalso; omega))
| refine kr1 ?_
| refine krS rfl ?_
| refine g_exit ?_
| refine g_ret ?_)
    all_goals try (exfalso; omega)
    rfl
theorem sxs_c (n : Nat) (hn0 : 0 < n) (hn : n ≤ 8) : PCalls Tryz.prog 67 [I (n : Int)] (ints (prjL n 2 0)) := by
  refine pcalls1 Tryz.func67 rfl Tryz.ntmps67 rfl ?_
  simp only [List.length_cons, List.length_nil, Nat.reduceAdd, Nat.reduceSub, List.replicate_succ, List.replicate_zero, List.cons_append, List.nil_append]
  have h1 := sprj_c n 2 0 hn0 hn (by omega) (by omega)
  repeat' (first
| refine g_seq ?_
| refine zC ?_
| (refine o_go rfl ?_; (first
| refine p_p (zG rfl rfl aC (h1)) ?_
| refine p_p (zD rfl) ?_
| refine p_p (zA rfl) ?_); refine ⟨_, aB, ?_⟩)
| refine o_nil ?_
| refine kr1 ?_
| refine krS rfl ?_
| refine g_ret ?_)
  all_goals rfl
theorem sys_c (n : Nat) (hn0 : 0 < n) (hn : n ≤ 8) : PCalls Tryz.prog 68 [I (n : Int)] (ints (prjL n 2 1)) := by
  refine pcalls1 Tryz.func68 rfl Tryz.ntmps68 rfl ?_
  simp only [List.length_cons, List.length_nil, Nat.reduceAdd, Nat.reduceSub, List.replicate_succ, List.replicate_zero, List.cons_append, List.nil_append]
  have h1 := sprj_c n 2 1 hn0 hn (by omega) (by omega)
  repeat' (first
| refine g_seq ?_
| refine zC ?_
| (refine o_go rfl ?_; (first
| refine p_p (zG rfl rfl aC (h1)) ?_
| refine p_p (zD rfl) ?_
| refine p_p (zA rfl) ?_); refine ⟨_, aB, ?_⟩)
| refine o_nil ?_
| refine kr1 ?_
| refine krS rfl ?_
| refine g_ret ?_)
  all_goals rfl
def fixB (n : Nat) (t : List Int) : Bool := decide (vOut n t = prjL n 2 0)
theorem sfixed_c (n : Nat) (t : List Int) (hn0 : 0 < n) (hn : n ≤ 8) (ht : t.length = n ^ 3) : PCalls Tryz.prog 32 [I (n : Int), ints t] (B (fixB n t)) := by
  refine pcalls1 Tryz.func32 rfl Tryz.ntmps32 rfl ?_
  simp only [List.length_cons, List.length_nil, Nat.reduceAdd, Nat.reduceSub, List.replicate_succ, List.replicate_zero, List.cons_append, List.nil_append]
  have h1 := spart_c n 0 t hn (by decide) ht
  have h2 := sxs_c n hn0 hn
  have h3 := gsame_c (valL n t (wayL 0) (n * n)) (prjL n 2 0) (by rw [valL_len]; have : n * n ≤ 64 := Nat.mul_le_mul hn hn; omega)
  repeat' (first
| refine g_seq ?_
| refine zC ?_
| (refine o_go rfl ?_; (first
| refine p_p (zG rfl rfl aC (h1)) ?_
| refine p_p (zG rfl rfl aC (h2)) ?_
| refine p_p (zG rfl rfl aC (h3)) ?_
| refine p_p (zD rfl) ?_
| refine p_p (zA rfl) ?_); refine ⟨_, aB, ?_⟩)
| refine o_nil ?_
| refine kr1 ?_
| refine krB rfl ?_
| refine g_ret ?_)
  all_goals rfl
def nearB (n : Nat) (s t : List Int) (i : Nat) : Bool := bif i % 2 == 0 then decide (vLeft n s = vLeft n t) else decide (vRight n s = vRight n t)
end Go.Proofs.YtlgfniaakjchgaaGreat
