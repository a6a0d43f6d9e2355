/- Lemmas of the proof. No condition. -/
import Derived.Test.YtbohjibbgppfaaaGreatJVl
import Derived.Test.YtbohjibbgppfaaaGreatJLy
import Derived.Test.YtbohjibbgppfaaaGreatJKt
import Derived.Test.YtbohjibbgppfaaaGreatJKn
import Derived.Test.YtbohjibbgppfaaaGreatJKi
import Derived.Test.YtbohjibbgppfaaaGreatJYo
import Derived.Test.YtbohjibbgppfaaaGreatJKd
import Derived.Test.YtbohjibbgppfaaaGreatJAr
import Derived.Test.YtbohjibbgppfaaaGreatJSq
import Derived.Test.YtbohjibbgppfaaaGreatJVc
import Derived.Test.YtbohjibbgppfaaaGreatJKy
import Derived.Test.YtbohjibbgppfaaaGreatJYa
import Derived.Test.YtbohjibbgppfaaaGreatJTy
import Derived.Test.YtbohjibbgppfaaaGreatJPq
import Derived.Test.YtbohjibbgppfaaaGreatJYk
import Derived.Test.YtbohjibbgppfaaaGreatJKz
set_option linter.unusedSectionVars false
namespace Go.Proofs.YtbohjibbgppfaaaGreat
open Go Go.Pv Go.Proofs
set_option maxHeartbeats 32000000
set_option maxRecDepth 100000
theorem sprd6_c (n : Nat) (p q : List Int) (hn : n ≤ 1000) (hp : p.length = n) (hq : q.length = n) : PCalls Tryz.prog 204 [ints p, ints q] (relP 2 (reL n (cmpR n (ptR p) (ptR q)))) := by
 refine pcallsC Tryz.func204 rfl Tryz.ntmps204 rfl ?_
 refine wF ?_
 have r1 := sofp_c p (by omega)
 have r2 := sofp_c q (by omega)
 rw [hp] at r1
 rw [hq] at r2
 have r3 := scompR_c n (ptR p) (ptR q) hn
 rw [show (I (n : Int)) = I (p.length : Int) by rw [hp]] at r3
 repeat' (first
| refine wO ?_
| (refine o_go rfl ?_; (first
| refine p_p (zG rfl rfl aD (r1)) ?_
| refine p_p (zG rfl rfl aD (r2)) ?_
| refine p_p (zG rfl rfl aD (r3)) ?_
| refine wS ?_
| refine p_e rfl (zO rfl rfl rfl rfl aK rfl rfl rfl) ?_
| refine p_e rfl (e_alloc rfl) ?_); refine ⟨_, aA, ?_⟩)
| refine krc ?_
| refine krC rfl aK ?_
| refine wE ?_)
 all_goals rfl
theorem prm_same {n : Nat} {p q : List Int} (hp : Pt n p) (hq : Pt n q) : decide (reL n (cmpR n (ptR p) (ptR q)) = reL n (cmpR n (ptR q) (ptR p))) = prmB p q n := by
 have e : ∀ {p q : List Int}, Pt n p → Pt n q → ∀ x z, x < n → z < n → (cmpR n (ptR p) (ptR q) x z = true ↔ Prd n p q x z) := fun hp hq x z hx hz => by
  rw [cmpR_iff]
  constructor
  · rintro ⟨y, hy, h1, h2⟩
    exact ⟨y, hy, (ptR_iff hp hx hy).1 h1, (ptR_iff hq hy hz).1 h2⟩
  · rintro ⟨y, hy, h1, h2⟩
    exact ⟨y, hy, (ptR_iff hp hx hy).2 h1, (ptR_iff hq hy hz).2 h2⟩
 rw [Bool.eq_iff_iff, decide_eq_true_eq, reL_iff, prmB_iff hp hq]
 constructor
 · intro h x z hx hz hp1
   rw [← e hq hp x z hx hz, ← h x z hx hz]
   exact (e hp hq x z hx hz).2 hp1
 · intro h x z hx hz
   rw [Bool.eq_iff_iff, e hp hq x z hx hz, e hq hp x z hx hz]
   exact ⟨h x z hx hz, Prm.symm h x z hx hz⟩
theorem sprm_c6 (n : Nat) (p q : List Int) (hn : n ≤ 1000) (hp : Pt n p) (hq : Pt n q) : PCalls Tryz.prog 139 [ints p, ints q] (B (prmB p q n)) := by
 refine pcalls1 Tryz.func139 rfl Tryz.ntmps139 rfl ?_
 refine wF ?_
 have r1 := sprd6_c n p q hn hp.len hq.len
 have r2 := sprd6_c n q p hn hq.len hp.len
 have hsz : ∀ Q : Nat → Nat → Bool, (reL n Q).length ≤ 1048576 := fun Q => Nat.le_trans (reL_len n Q) (Nat.le_trans (Nat.mul_le_mul hn hn) (by decide))
 have r3 := ssame8_c (reL n (cmpR n (ptR p) (ptR q))) (reL n (cmpR n (ptR q) (ptR p))) (hsz _) (fun r hr => by
  obtain ⟨x, y, -, -, -, rfl⟩ := reL_mem.1 hr
  exact Nat.le_of_ble_eq_true rfl) (hsz _)
 rw [prm_same hp hq] at r3
 generalize reL n (cmpR n (ptR p) (ptR q)) = A at *
 generalize reL n (cmpR n (ptR q) (ptR p)) = A2 at *
 generalize prmB p q n = b at *
 repeat' (first
| refine wO ?_
| (refine o_go rfl ?_; (first
| refine p_p (zG rfl rfl aD (r1)) ?_
| refine p_p (zG rfl rfl aD (r2)) ?_
| refine p_p (zG rfl rfl aD (r3)) ?_
| refine wS ?_
| refine p_p (ps_field rfl rfl rfl) ?_); refine ⟨_, aA, ?_⟩)
| refine kr1 ?_
| refine krB rfl ?_
| refine wE ?_)
 all_goals rfl
end Go.Proofs.YtbohjibbgppfaaaGreat
namespace Go.Proofs.YtbohjibbgppfaaaGreat
open Go Go.Pv Go.Proofs
set_option maxHeartbeats 32000000
set_option maxRecDepth 100000
theorem smeet6_c (n : Nat) (p q : List Int) (hn : n ≤ 1000) (hp : Pt n p) (hq : Pt n q) : PCalls Tryz.prog 201 [ints p, ints q] (ints (meetP n p q)) := by
 refine pcalls1 Tryz.func201 rfl Tryz.ntmps201 rfl ?_
 refine wF ?_
 have hpl := hp.len
 have hql := hq.len
 repeat' (first
| refine wO ?_
| (refine o_go rfl ?_; (first
| refine p_e rfl (e_lit0T rfl zd) ?_
| refine wS ?_); refine ⟨_, aA, ?_⟩))
 refine g_loopF (α := Nat) [8] (fun x => [(5, .hp 0), (6, I (x : Int))]) (fun x => [.arr true 1 3 (((meetP n p q).take x).map I)]) (fun x => x ≤ n) (fun x => n - x) 0 aH (Nat.zero_le _) ⟨rfl, rfl, trivial⟩ rfl ?_
 rintro x hx
 refine wH ?_
 have hml : (meetP n p q).length = n := meet_pt.len
 have hll : (((meetP n p q).take x).map I).length = x := by rw [List.length_map, List.length_take, hml]; omega
 by_cases hxn : x < n
 · have hsn : (meetP n p q).take (x + 1) = (meetP n p q).take x ++ [(meetP n p q).getD x 0] := take_snoc 0 (by omega)
   have px := rowI_at (p := p) (x := x) (by omega)
   have qx := rowI_at (p := q) (x := x) (by omega)
   have hmv : (meetP n p q).getD x 0 = (bk (meetP n p q) x : Int) := meet_pt.val hxn
   have hmx := meet_pt (n := n) (p := p) (q := q) |>.lt hxn
   have hR := fun y (hy : y < n) => meet_R (p := p) (q := q) (n := n) hy hxn
   have hle := fun y (hy : y < n) (h : bk (meetP n p q) y = bk (meetP n p q) x) => (meet_pt (n := n) (p := p) (q := q)).le y hy
   have hid := (meet_pt (n := n) (p := p) (q := q)).id x hxn
   repeat' (first
| refine wO ?_
| (refine o_go rfl ?_; (first
| refine wS ?_); refine ⟨_, aA, ?_⟩)
| (refine zK rfl ?_ ?_ <;> intro hc <;> try omega)
| refine wE ?_)
   all_goals try (exfalso; omega)
   refine g_loopT (α := Nat) (fun y => [(7, I (y : Int))]) (fun _ => [.arr true 1 3 (((meetP n p q).take x).map I)]) (fun y => y ≤ bk (meetP n p q) x) (fun y => bk (meetP n p q) x - y) 0 aH (Nat.zero_le _) ⟨rfl, trivial⟩ rfl ?_
   rintro y hy
   refine wH ?_
   have hyn : y < n := by omega
   have py := rowI_at (p := p) (x := y) (by omega)
   have qy := rowI_at (p := q) (x := y) (by omega)
   by_cases hym : y = bk (meetP n p q) x
   · have hs := (hR y hyn).1 (by rw [hym]; exact hid)
     have e1 : p.getD y 0 = p.getD x 0 := by rw [hp.val hyn, hp.val hxn, hs.1]
     have e2 : q.getD y 0 = q.getD x 0 := by rw [hq.val hyn, hq.val hxn, hs.2]
     rw [hmv, ← hym] at hsn
     generalize p.getD y 0 = a1 at *
     generalize p.getD x 0 = a2 at *
     generalize q.getD y 0 = b1 at *
     generalize q.getD x 0 = b2 at *
     repeat' (first
| refine wO ?_
| refine zP zk zk ?_
| (refine o_go rfl ?_; (first
| refine p_p (zN rfl rfl rfl zz py ze) ?_
| refine p_p (zN rfl rfl rfl zz px ze) ?_
| refine p_p (zN rfl rfl rfl zz qy ze) ?_
| refine p_p (zN rfl rfl rfl zz qx ze) ?_
| refine p_e zk (e_append rfl rfl rfl rfl rfl rfl (one_one rfl) rfl (by rw [hll, n_len_c, n_len_n]; omega) (by rw [hll, n_len_c, n_len_n]; omega)) ?_
| refine wS ?_
| refine p_p (ps_lit1 rfl rfl (by rfl) (by rfl)) ?_); refine ⟨_, aA, ?_⟩)
| (refine o_s rfl ?_; refine ⟨_, aA, ?_⟩)
| (refine o_splitN rfl rfl rfl (fun hc => ?_) (fun hc => ?_) <;> dsimp only [List.set_cons_zero, List.set_cons_succ])
| (refine g_condN rfl ?_ ?_ <;> intro hc <;> try omega)
| refine wE ?_)
     all_goals try (exfalso; first | omega | (simp_all; done))
     all_goals exact zT (K := fun _ _ => True) (x + 1) (by omega) (by omega) aI ⟨rfl, rfl, trivial⟩ (zB (by rw [hsn, List.map_append]; rfl) (zM _))
   · have hd : ¬ (p.getD y 0 = p.getD x 0 ∧ q.getD y 0 = q.getD x 0) := fun h => by
      have hb : bk (meetP n p q) y = bk (meetP n p q) x := (hR y hyn).2 ⟨by unfold bk; rw [h.1], by unfold bk; rw [h.2]⟩
      have := hle y hyn hb
      omega
     generalize p.getD y 0 = a1 at *
     generalize p.getD x 0 = a2 at *
     generalize q.getD y 0 = b1 at *
     generalize q.getD x 0 = b2 at *
     by_cases e1 : a1 = a2
     · have e2 : ¬ b1 = b2 := fun h => hd ⟨e1, h⟩
       repeat' (first
| refine wO ?_
| refine zP zk zk ?_
| (refine o_go rfl ?_; (first
| refine p_p (zN rfl rfl rfl zz py ze) ?_
| refine p_p (zN rfl rfl rfl zz px ze) ?_
| refine p_p (zN rfl rfl rfl zz qy ze) ?_
| refine p_p (zN rfl rfl rfl zz qx ze) ?_
| refine wS ?_); refine ⟨_, aA, ?_⟩)
| (refine o_s rfl ?_; refine ⟨_, aA, ?_⟩)
| (refine o_splitN rfl rfl rfl (fun hc => ?_) (fun hc => ?_) <;> dsimp only [List.set_cons_zero, List.set_cons_succ])
| (refine g_condN rfl ?_ ?_ <;> intro hc <;> try omega)
| refine wE ?_)
       all_goals try (exfalso; first | omega | (simp_all; done))
       all_goals exact zT (y + 1) (by omega) (by omega) aI ⟨rfl, trivial⟩ (zB rfl (zM _))
     · repeat' (first
| refine wO ?_
| refine zP zk zk ?_
| (refine o_go rfl ?_; (first
| refine p_p (zN rfl rfl rfl zz py ze) ?_
| refine p_p (zN rfl rfl rfl zz px ze) ?_
| refine p_p (zN rfl rfl rfl zz qy ze) ?_
| refine p_p (zN rfl rfl rfl zz qx ze) ?_
| refine wS ?_
| refine p_e rfl (e_append rfl rfl rfl rfl rfl rfl (by first | exact one_one rfl | exact one_map (fun _ => rfl) _) rfl aT aT) ?_
| refine p_p (ps_lit1 rfl rfl (by rfl) (by rfl)) ?_); refine ⟨_, aA, ?_⟩)
| (refine o_s rfl ?_; refine ⟨_, aA, ?_⟩)
| (refine o_splitN rfl rfl rfl (fun hc => ?_) (fun hc => ?_) <;> dsimp only [List.set_cons_zero, List.set_cons_succ])
| (refine g_condN rfl ?_ ?_ <;> intro hc <;> try omega)
| refine wE ?_)
       all_goals try (exfalso; first | omega | (simp_all; done))
       all_goals exact zT (y + 1) (by omega) (by omega) aI ⟨rfl, trivial⟩ (zB rfl (zM _))
 · obtain rfl : x = n := by omega
   rw [List.take_of_length_le (by omega)]
   repeat' (first
| refine wO ?_
| (refine o_go rfl ?_; (first
| refine wS ?_); refine ⟨_, aA, ?_⟩)
| (refine zK rfl ?_ ?_ <;> intro hc <;> try omega)
| refine kr1 ?_
| refine krS rfl ?_
| refine wE ?_)
   all_goals first | rfl | (exfalso; omega)
end Go.Proofs.YtbohjibbgppfaaaGreat
namespace Go.Proofs.YtbohjibbgppfaaaGreat
open Go Go.Pv Go.Proofs
theorem cnt_one {n : Nat} {p : List Int} (hn : 0 < n) (hp : Pt n p) (h : cnt n p ≤ 1) : p = fullL n := by
 refine fi_antisymm hp (full_pt n) full_fi fun x hx => ?_
 rw [bk_full]
 by_cases he : bk p 0 = bk p x
 · exact he
 · have h1 := cnt_unL hp hn hx he
   have h2 := cnt_pos (unL_pt hp hn hx) hn
   omega
end Go.Proofs.YtbohjibbgppfaaaGreat
namespace Go.Proofs.YtbohjibbgppfaaaGreat
open Go Go.Pv Go.Proofs
set_option maxHeartbeats 32000000
set_option maxRecDepth 100000
noncomputable def quN (n : Int) (ops : List OpD) (p : List Int) : Int := if tkB n ops p then ((lstN p n.toNat).length : Int) else 0
noncomputable def quO (n : Int) (ops : List OpD) (p : List Int) : List OpD := if tkB n ops p then quoL n.toNat p ops else []
theorem quN_bad {n : Int} {ops : List OpD} {p : List Int} (h : tkB n ops p = false) : quN n ops p = 0 := by unfold quN; rw [h]; rfl
theorem quO_bad {n : Int} {ops : List OpD} {p : List Int} (h : tkB n ops p = false) : quO n ops p = [] := by unfold quO; rw [h]; rfl
theorem quN_ok {n : Nat} {ops : List OpD} {p : List Int} (h : tkB (n : Int) ops p = true) : quN (n : Int) ops p = ((lstN p n).length : Int) := by unfold quN; rw [h, if_pos rfl, Int.toNat_natCast]
theorem quO_ok {n : Nat} {ops : List OpD} {p : List Int} (h : tkB (n : Int) ops p = true) : quO (n : Int) ops p = quoL n p ops := by unfold quO; rw [h, if_pos rfl, Int.toNat_natCast]
theorem iqa_c (n : Int) (ops : List OpD) (p : List Int) (hs : szOk ops) (hp : p.length ≤ 1048576) : PCalls Tryz.prog 17 [algP n ops, ints p] (.tup [algP (quN n ops p) (quO n ops p), B (tkB n ops p)]) := by
 refine pcallsCT Tryz.func17 rfl Tryz.ntmps17 rfl ?_
 have h1 := iisct_c n ops p hs hp
 refine wF ?_
 cases hb : tkB n ops p with
 | false =>
  rw [hb] at h1
  rw [quN_bad hb, quO_bad hb]
  repeat' (first
| refine krct (krC_le rfl aK rfl (agg2_le (PV.le_nil 2))) ?_
| refine wO ?_
| (refine o_go rfl ?_; (first
| refine p_p (zG rfl rfl aD (h1)) ?_
| refine wS ?_
| refine p_p (ps_load_agg rfl rfl aK) ?_
| refine p_e rfl (zO rfl rfl rfl rfl aK rfl rfl rfl) ?_
| refine p_e rfl (e_alloc rfl) ?_
| refine p_p (ps_box rfl rfl) ?_
| refine p_p (ps_build rfl rfl) ?_); refine ⟨_, aA, ?_⟩)
| refine krB rfl ?_
| refine wE ?_)
  all_goals rfl
 | true =>
  rw [hb] at h1
  obtain ⟨m, rfl, hm0, hm8, h4, ho, hg, pt, cg⟩ := tkB_facts hb
  have h2 := iquo_c m ops p hm0 hm8 hs.1 ho pt
  rw [quN_ok hb, quO_ok hb]
  generalize quoL m p ops = Q at *
  repeat' (first
| refine wO ?_
| (refine o_go rfl ?_; (first
| refine p_p (zG rfl rfl aD (h1)) ?_
| refine p_p (zG rfl rfl aD (h2)) ?_
| refine wS ?_
| refine p_p (ps_load_agg rfl rfl aK) ?_
| refine p_e rfl (zO rfl rfl rfl rfl aK rfl rfl rfl) ?_
| refine p_e rfl (e_alloc rfl) ?_
| refine p_p (ps_box rfl rfl) ?_); refine ⟨_, aA, ?_⟩)
| refine krct ?_ ?_
| refine krC rfl aK ?_
| refine krB rfl ?_
| refine wE ?_)
  all_goals rfl
end Go.Proofs.YtbohjibbgppfaaaGreat
namespace Go.Proofs.YtbohjibbgppfaaaGreat
open Go Go.Pv Go.Proofs
theorem cnt_id {n : Nat} {p : List Int} : cnt n p = n ↔ ∀ x, x < n → bk p x = x := by
 unfold cnt
 constructor
 · intro h x hx
   have h1 : ((List.range n).filter fun x => decide (bk p x = x)).length = (List.range n).length := by rw [h, List.length_range]
   have := List.length_filter_eq_length_iff.1 h1 x (List.mem_range.2 hx)
   simpa using this
 · intro h
   rw [List.filter_eq_self.2 fun x hx => by rw [decide_eq_true_eq]; exact h x (List.mem_range.1 hx), List.length_range]
end Go.Proofs.YtbohjibbgppfaaaGreat
namespace Go.Proofs.YtbohjibbgppfaaaGreat
open Go Go.Pv Go.Proofs
set_option maxHeartbeats 32000000
set_option maxRecDepth 100000
def tyL (A : List OpD) : List Int := A.map fun f => f.ar
theorem tyL_take {A : List OpD} {i : Nat} (h : i < A.length) : tyL (A.take (i + 1)) = tyL (A.take i) ++ [(A.getD i default).ar] := by unfold tyL; rw [take_snoc default h, List.map_append]; rfl
theorem tyL_quo (n : Nat) (p : List Int) (ops : List OpD) : tyL (quoL n p ops) = tyL ops := by unfold tyL quoL; rw [List.map_map]; rfl
theorem ityp_c (n : Int) (A : List OpD) (hl : A.length ≤ 1048576) : PCalls Tryz.prog 244 [algP n A] (ints (tyL A)) := by
 refine pcalls1 Tryz.func244 rfl Tryz.ntmps244 rfl ?_
 refine wF ?_
 repeat' (first
| refine wO ?_
| (refine o_go rfl ?_; (first
| refine wS ?_
| refine p_e rfl (e_lit0 rfl zd) ?_
| refine p_p (ps_box rfl rfl) ?_); refine ⟨_, aA, ?_⟩))
 refine g_loopF (α := Nat) [6] (fun i => [(3, .hp 0), (10, I (i : Int))]) (fun i => [.arr false 1 3 ((tyL (A.take i)).map I)]) (fun i => i ≤ A.length) (fun i => A.length - i) 0 aH (Nat.zero_le _) ⟨rfl, rfl, trivial⟩ rfl ?_
 rintro i hi
 refine wH ?_
 have hll : ((tyL (A.take i)).map I).length = i := by simp [tyL]; omega
 by_cases hil : i < A.length
 · have hq := opsK_at hil
   have hsn := tyL_take hil
   repeat' (first
| refine wO ?_
| (refine o_go rfl ?_; (first
| refine p_p (zN rfl rfl rfl zz hq ze) ?_
| refine p_e zk (e_append rfl rfl rfl rfl rfl rfl (one_one rfl) rfl (by rw [hll, n_len_c, n_len_n]; omega) (by rw [hll, n_len_c, n_len_n]; omega)) ?_
| refine wS ?_
| refine p_p (ps_load_agg rfl rfl aK) ?_
| refine p_e rfl (zO rfl rfl rfl rfl aK rfl rfl rfl) ?_
| refine p_e rfl (e_alloc rfl) ?_
| refine p_p (ps_lit1 rfl rfl (by rfl) (by rfl)) ?_); refine ⟨_, aA, ?_⟩)
| (refine zK rfl ?_ ?_ <;> intro hc <;> try omega)
| refine wE ?_)
   all_goals try (exfalso; omega)
   exact zT (i + 1) (by omega) (by omega) aI ⟨rfl, rfl, trivial⟩ (zB (by rw [hsn, List.map_append]; rfl) (zM _))
 · rw [List.take_of_length_le (by omega)]
   repeat' (first
| refine wO ?_
| (refine o_go rfl ?_; (first
| refine wS ?_); refine ⟨_, aA, ?_⟩)
| (refine zK rfl ?_ ?_ <;> intro hc <;> try omega)
| refine kr1 ?_
| refine krS rfl ?_
| refine wE ?_)
   all_goals first | rfl | (exfalso; omega)
def alkB (n : Int) (A : List OpD) (m : Int) (B : List OpD) : Bool := algOk n A && (algOk m B && decide (tyL A = tyL B))
theorem istp_c (n m : Int) (A B : List OpD) (hA : szOk A) (hB : szOk B) : PCalls Tryz.prog 208 [algP n A, algP m B] (.tup [Go.Pv.B (alkB n A m B), Go.Pv.B (algOk n A && algOk m B)]) := by
 refine pcalls2 Tryz.func208 rfl Tryz.ntmps208 rfl ?_
 refine wF ?_
 have h1 := igood_c n A hA
 have h2 := igood_c m B hB
 have h3 := ityp_c n A hA.1
 have h4 := ityp_c m B hB.1
 have h5 := gisame_c (tyL A) (tyL B) (by unfold tyL; rw [List.length_map]; exact hA.1)
 unfold alkB
 generalize decide (tyL A = tyL B) = e at *
 cases hg : algOk n A with
 | false =>
  rw [hg] at h1
  repeat' (first
| refine wO ?_
| (refine o_go rfl ?_; (first
| refine p_p (zG rfl rfl aD (h1)) ?_
| refine wS ?_
| refine p_p (ps_load_agg rfl rfl aK) ?_
| refine p_p (ps_box rfl rfl) ?_); refine ⟨_, aA, ?_⟩)
| (refine o_s rfl ?_; refine ⟨_, aA, ?_⟩)
| refine kr2 ?_ ?_
| refine krB rfl ?_
| refine wE ?_)
  all_goals rfl
 | true =>
  rw [hg] at h1
  cases hk : algOk m B with
  | false =>
   rw [hk] at h2
   repeat' (first
| refine wO ?_
| (refine o_go rfl ?_; (first
| refine p_p (zG rfl rfl aD (h1)) ?_
| refine p_p (zG rfl rfl aD (h2)) ?_
| refine wS ?_
| refine p_p (ps_load_agg rfl rfl aK) ?_
| refine p_p (ps_box rfl rfl) ?_); refine ⟨_, aA, ?_⟩)
| refine kr2 ?_ ?_
| refine krB rfl ?_
| refine wE ?_)
   all_goals rfl
  | true =>
   rw [hk] at h2
   repeat' (first
| refine wO ?_
| refine zP zk zk ?_
| (refine o_go rfl ?_; (first
| refine p_p (zG rfl rfl aD (h1)) ?_
| refine p_p (zG rfl rfl aD (h2)) ?_
| refine p_p (zG rfl rfl aD (h3)) ?_
| refine p_p (zG rfl rfl aD (h4)) ?_
| refine p_p (zG rfl rfl aD (h5)) ?_
| refine wS ?_
| refine p_p (ps_load_agg rfl rfl aK) ?_
| refine p_p (ps_box rfl rfl) ?_); refine ⟨_, aA, ?_⟩)
| refine kr2 ?_ ?_
| refine krB rfl ?_
| refine wE ?_)
   all_goals rfl
theorem ialk_c (n m : Int) (A B : List OpD) (hA : szOk A) (hB : szOk B) : PCalls Tryz.prog 146 [algP n A, algP m B] (Go.Pv.B (alkB n A m B)) := by
 refine pcalls1 Tryz.func146 rfl Tryz.ntmps146 rfl ?_
 refine wF ?_
 have h1 := istp_c n m A B hA hB
 have hab : (algOk n A && algOk m B) = false → alkB n A m B = false := fun h => by
  unfold alkB
  rw [← Bool.and_assoc, h, Bool.false_and]
 cases hb : (algOk n A && algOk m B) with
 | false =>
  rw [hab hb] at h1 ⊢
  rw [hb] at h1
  repeat' (first
| refine wO ?_
| (refine o_go rfl ?_; (first
| refine p_p (zG rfl rfl aD (h1)) ?_
| refine wS ?_
| refine p_p (ps_load_agg rfl rfl aK) ?_
| refine p_p (ps_box rfl rfl) ?_); refine ⟨_, aA, ?_⟩)
| (refine o_s rfl ?_; refine ⟨_, aA, ?_⟩)
| refine kr1 ?_
| refine krB rfl ?_
| refine wE ?_)
  all_goals rfl
 | true =>
  rw [hb] at h1
  generalize alkB n A m B = e at *
  repeat' (first
| refine wO ?_
| (refine o_go rfl ?_; (first
| refine p_p (zG rfl rfl aD (h1)) ?_
| refine wS ?_
| refine p_p (ps_load_agg rfl rfl aK) ?_
| refine p_p (ps_box rfl rfl) ?_); refine ⟨_, aA, ?_⟩)
| refine kr1 ?_
| refine krB rfl ?_
| refine wE ?_)
  all_goals rfl
theorem iaa_c (n m : Int) (A B : List OpD) (hA : szOk A) (hB : szOk B) : PCalls Tryz.prog 70 [algP n A, algP m B] (Go.Pv.B (alkB n A m B)) := by
 refine pcalls1 Tryz.func70 rfl Tryz.ntmps70 rfl ?_
 refine wF ?_
 have h1 := igood_c n A hA
 have h2 := igood_c m B hB
 have h3 := ialk_c n m A B hA hB
 cases hg : algOk n A with
 | false =>
  have e : alkB n A m B = false := by unfold alkB; rw [hg]; rfl
  rw [hg] at h1
  rw [e]
  repeat' (first
| refine wO ?_
| (refine o_go rfl ?_; (first
| refine p_p (zG rfl rfl aD (h1)) ?_
| refine wS ?_
| refine p_p (ps_load_agg rfl rfl aK) ?_
| refine p_p (ps_box rfl rfl) ?_); refine ⟨_, aA, ?_⟩)
| (refine o_s rfl ?_; refine ⟨_, aA, ?_⟩)
| refine kr1 ?_
| refine krB rfl ?_
| refine wE ?_)
  all_goals rfl
 | true =>
  rw [hg] at h1
  cases hk : algOk m B with
  | false =>
   have e : alkB n A m B = false := by unfold alkB; rw [hk, Bool.false_and, Bool.and_false]
   rw [hk] at h2
   rw [e]
   repeat' (first
| refine wO ?_
| (refine o_go rfl ?_; (first
| refine p_p (zG rfl rfl aD (h1)) ?_
| refine p_p (zG rfl rfl aD (h2)) ?_
| refine wS ?_
| refine p_p (ps_load_agg rfl rfl aK) ?_
| refine p_p (ps_box rfl rfl) ?_); refine ⟨_, aA, ?_⟩)
| (refine o_s rfl ?_; refine ⟨_, aA, ?_⟩)
| refine kr1 ?_
| refine krB rfl ?_
| refine wE ?_)
   all_goals rfl
  | true =>
   rw [hk] at h2
   generalize alkB n A m B = e at *
   repeat' (first
| refine wO ?_
| (refine o_go rfl ?_; (first
| refine p_p (zG rfl rfl aD (h1)) ?_
| refine p_p (zG rfl rfl aD (h2)) ?_
| refine p_p (zG rfl rfl aD (h3)) ?_
| refine wS ?_
| refine p_p (ps_load_agg rfl rfl aK) ?_
| refine p_p (ps_box rfl rfl) ?_); refine ⟨_, aA, ?_⟩)
| refine kr1 ?_
| refine krB rfl ?_
| refine wE ?_)
   all_goals rfl
theorem alkB_facts {n m : Int} {A B : List OpD} (h : alkB n A m B = true) : ∃ a b : Nat, n = a ∧ m = b ∧ 0 < a ∧ a ≤ 8 ∧ 0 < b ∧ b ≤ 8 ∧ A.length ≤ 4 ∧ opsIn a A ∧ opsIn b B ∧ sameT A B ∧ algOk (a : Int) A = true ∧ algOk (b : Int) B = true := by
 unfold alkB at h
 simp only [Bool.and_eq_true, decide_eq_true_eq] at h
 obtain ⟨h1, h2, h3⟩ := h
 obtain ⟨a, rfl, a0, a8, a4, ao⟩ := algOk_facts h1
 obtain ⟨b, rfl, b0, b8, b4, bo⟩ := algOk_facts h2
 exact ⟨a, b, rfl, rfl, a0, a8, b0, b8, a4, ao, bo, h3, h1, h2⟩
theorem mapI_step {n m : Nat} {g : Nat → Nat} {a k i' at_ s t : Nat} (hk : k < a) (h : at_ + mapI n m g (a - k) i' * s = t) : at_ + g (i' % n) * s + mapI n m g (a - (k + 1)) (i' / n) * (s * m) = t := by
 rw [show a - k = (a - (k + 1)) + 1 by omega] at h
 have h : at_ + (mapI n m g (a - (k + 1)) (i' / n) * m + g (i' % n)) * s = t := h
 rw [Nat.add_mul, Nat.mul_assoc, Nat.mul_comm m s] at h
 omega
end Go.Proofs.YtbohjibbgppfaaaGreat
namespace Go.Pv
open Go
attribute [local semireducible] Go.Pv.PStep
section
variable {P : Program} {o : Oper} {ev : Operand → PV} {hp : List HO}
theorem j_allocV {t : TypeId} {zs : List Value} [hz : ZeroT P t zs] (ho : o.op = .alloc t) : JStep P o ev hp (some hp.length) (killH hp.length hp ++ [.box (zs.map .val)]) (.hat hp.length 0) := fun fr _ => e_alloc (S := ⟨fr, hp⟩) (hz := hz) ho
end
end Go.Pv
namespace Go.Proofs.YtbohjibbgppfaaaGreat
open Go Go.Pv Go.Proofs
theorem algOk_of {m : Nat} {ops : List OpD} (h0 : 0 < m) (h8 : m ≤ 8) (h4 : ops.length ≤ 4) (ho : opsIn m ops) : algOk (m : Int) ops = true := by
 unfold algOk
 rw [inB_iff.2 (by omega), decide_eq_true h4, Int.toNat_natCast, Bool.true_and, Bool.true_and]
 refine List.all_eq_true.2 fun f hf => ?_
 obtain ⟨h1, h2, h3, h5⟩ := ho f hf
 unfold opOk
 rw [inB_iff.2 ⟨h1, h2⟩, decide_eq_true h3, Bool.true_and, Bool.true_and]
 unfold inSizeB
 refine List.all_eq_true.2 fun x hx => ?_
 obtain ⟨i, hi, rfl⟩ := List.getElem_of_mem hx
 have := h5 i (by omega)
 have hb : bk f.tb i = (f.tb.getD i 0).toNat := rfl
 rw [List.getD_eq_getElem?_getD, List.getElem?_eq_getElem hi] at this hb
 simp only [Option.getD_some] at this hb
 simp only [Bool.not_eq_true', Bool.or_eq_false_iff, decide_eq_false_iff_not]
 omega
end Go.Proofs.YtbohjibbgppfaaaGreat
