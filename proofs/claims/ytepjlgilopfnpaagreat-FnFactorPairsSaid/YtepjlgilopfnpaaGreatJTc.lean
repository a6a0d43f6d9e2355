/- Walks: lists of places whose meet is the identity, both sides; the subdirect list. -/
import Derived.Test.YtepjlgilopfnpaaGreatJVe
import Derived.Test.YtepjlgilopfnpaaGreatJKn
import Derived.Test.YtepjlgilopfnpaaGreatJKz
import Derived.Test.YtepjlgilopfnpaaGreatJKd
import Derived.Test.YtepjlgilopfnpaaGreatJYo
import Derived.Test.YtepjlgilopfnpaaGreatJYa
import Derived.Test.YtepjlgilopfnpaaGreatJSt
import Derived.Test.YtepjlgilopfnpaaGreatJTm
import Derived.Test.YtepjlgilopfnpaaGreatJTq
import Derived.Test.YtepjlgilopfnpaaGreatJTv
import Derived.Test.YtepjlgilopfnpaaGreatJKo
set_option linter.unusedSectionVars false
namespace Go.Proofs.YtepjlgilopfnpaaGreat
open Go Go.Pv Go.Proofs
theorem acB_facts {n : Int} {ops : List OpD} (h : acB n ops = true) : ∃ m : Nat, n = m ∧ 0 < m ∧ m ≤ 8 ∧ ops.length ≤ 4 ∧ opsIn m ops ∧ algOk n ops = true ∧ (allL m ops).length ≤ 200 := by
 unfold acB at h
 rw [Bool.and_eq_true, decide_eq_true_eq] at h
 obtain ⟨hg, h2⟩ := h
 obtain ⟨m, rfl, hm0, hm8, h4, ho⟩ := algOk_facts hg
 rw [Int.toNat_natCast] at h2
 exact ⟨m, rfl, hm0, hm8, h4, ho, hg, h2⟩
end Go.Proofs.YtepjlgilopfnpaaGreat
/- Walks: the subdirect list, the program's side; separating lists, monoliths. -/
namespace Go.Proofs.YtepjlgilopfnpaaGreat
open Go Go.Pv Go.Proofs
set_option maxHeartbeats 32000000
set_option maxRecDepth 100000

theorem ibcnt_c (n : Nat) (p : List Int) (hn : n ≤ 1000000) (hp : Pt n p) : PCalls Tryz.prog 120 [ints p] (I (cnt n p : Int)) := by
 refine pcalls1 Tryz.func120 rfl Tryz.ntmps120 rfl ?_
 refine wF ?_
 have hpl := hp.len
 repeat' (first
| refine wO ?_
| (refine o_go rfl ?_; (first
| refine wS ?_); refine ⟨_, aB, ?_⟩))
 refine g_loopT (α := Nat) (fun k => [(3, I (cntK p k : Int)), (8, I (k : Int))]) (fun _ => []) (fun k => k ≤ n) (fun k => n - k) 0 aH (Nat.zero_le _) ⟨rfl, rfl, trivial⟩ rfl ?_
 rintro k hk
 refine wH ?_
 have hck := cntK_le p k
 by_cases hkn : k < n
 · have ix := row_atY (p := p) (x := k) (by omega)
   rw [hp.val hkn] at ix
   have hs := cntK_succ p k
   by_cases hb : bk p k = k
   · rw [if_pos hb] at hs
     repeat' (first
| refine wO ?_
| (refine o_go rfl ?_; (first
| refine p_p (zN rfl rfl rfl zz ix ze) ?_
| refine wS ?_); refine ⟨_, aB, ?_⟩)
| (refine zK rfl ?_ ?_ <;> intro hc <;> try omega)
| refine wE ?_)
     all_goals try (exfalso; omega)
     exact zT (k + 1) (by omega) (by omega) aI ⟨by rw [hs]; exact vI (by omega), rfl, trivial⟩ (zM _)
   · rw [if_neg hb] at hs
     repeat' (first
| refine wO ?_
| (refine o_go rfl ?_; (first
| refine p_p (zN rfl rfl rfl zz ix ze) ?_
| refine wS ?_); refine ⟨_, aB, ?_⟩)
| (refine zK rfl ?_ ?_ <;> intro hc <;> try omega)
| refine wE ?_)
     all_goals try (exfalso; omega)
     exact zT (k + 1) (by omega) (by omega) aI ⟨by rw [hs]; rfl, rfl, trivial⟩ (zM _)
 · rw [show cnt n p = cntK p k by rw [show k = n by omega]; rfl]
   repeat' (first
| refine wO ?_
| (refine o_go rfl ?_; (first
| refine wS ?_); refine ⟨_, aB, ?_⟩)
| (refine zK rfl ?_ ?_ <;> intro hc <;> try omega)
| refine kr1 ?_
| refine krI rfl ?_
| refine wE ?_)
   all_goals first | rfl | (exfalso; omega)
end Go.Proofs.YtepjlgilopfnpaaGreat
/- Walks: complements and direct pairs of congruences, both sides. -/
namespace Go.Proofs.YtepjlgilopfnpaaGreat
open Go Go.Pv Go.Proofs

noncomputable def cmpP (n : Nat) (p q : List Int) : Bool := decide (meetP n p q = idL n) && decide (joinP n p q = fullL n)
theorem cnt_idP {n : Nat} {p : List Int} (hp : Pt n p) : cnt n p = n ↔ p = idL n := by
 rw [cnt_id]
 constructor
 · intro h
   exact pt_ext hp (idL_pt n) fun x hx => by rw [h x hx, bk_idL hx]
 · intro h x hx
   rw [h, bk_idL hx]
end Go.Proofs.YtepjlgilopfnpaaGreat
/- Walks: direct pairs, both sides. -/
namespace Go.Proofs.YtepjlgilopfnpaaGreat
open Go Go.Pv Go.Proofs
noncomputable def dirB (n : Nat) (p q : List Int) : Bool := cmpP n p q && prmB p q n
end Go.Proofs.YtepjlgilopfnpaaGreat
/- The law of Mal'cev chains, its last part. -/
namespace Go.Pv
open Go
attribute [local semireducible] Go.Pv.PStep
section
variable {P : Program} {o : Oper} {ev : Operand → PV} {hp : List HO}
theorem ps_neqBY {t rt : TypeId} [ht : BoolT P t] {x y : Operand} {a b c : Bool} (ho : o.op = .binOp .neq t x y rt) (h1 : ev x = B a) (h2 : ev y = B b) (h : (a != b) = c) : PStep P o ev hp (B c) := by
 have := ps_neqB (P := P) (hp := hp) (ht := ht) ho h1 h2; rwa [h] at this
end
end Go.Pv
/- The law of quotients and the congruences above a congruence. -/
namespace Go.Pv
open Go
attribute [local semireducible] Go.Pv.PStep
section
variable {P : Program} {o : Oper} {ev : Operand → PV} {hp : List HO}
theorem j_allocV {t : TypeId} {zs : List Value} [hz : ZeroT P t zs] (ho : o.op = .alloc t) : JStep P o ev hp (some hp.length) (killH hp.length hp ++ [.box (zs.map .val)]) (.hat hp.length 0) := fun fr _ => e_alloc (S := ⟨fr, hp⟩) (hz := hz) ho
end
end Go.Pv
namespace Go.Proofs.YtepjlgilopfnpaaGreat
open Go Go.Pv Go.Proofs
set_option maxHeartbeats 32000000
set_option maxRecDepth 100000

theorem algOk_of {m : Nat} {ops : List OpD} (h0 : 0 < m) (h8 : m ≤ 8) (h4 : ops.length ≤ 4) (ho : opsIn m ops) : algOk (m : Int) ops = true := by
 unfold algOk
 rw [inB_iff.2 (by omega), decide_eq_true h4, Int.toNat_natCast, Bool.true_and, Bool.true_and]
 refine List.all_eq_true.2 fun f hf => ?_
 obtain ⟨h1, h2, h3, h5⟩ := ho f hf
 unfold opOk
 rw [inB_iff.2 ⟨h1, h2⟩, decide_eq_true h3, Bool.true_and, Bool.true_and]
 unfold inSizeB
 refine List.all_eq_true.2 fun x hx => ?_
 obtain ⟨i, hi, rfl⟩ := List.getElem_of_mem hx
 have := h5 i (by omega)
 have hb : bk f.tb i = (f.tb.getD i 0).toNat := rfl
 rw [List.getD_eq_getElem?_getD, List.getElem?_eq_getElem hi] at this hb
 simp only [Option.getD_some] at this hb
 simp only [Bool.not_eq_true', Bool.or_eq_false_iff, decide_eq_false_iff_not]
 omega
theorem szOk_in {m : Nat} {ops : List OpD} (h8 : m ≤ 8) (h4 : ops.length ≤ 4) (ho : opsIn m ops) : szOk ops := by
 refine ⟨by omega, fun f hf => ?_⟩
 obtain ⟨h1, h2, h3, -⟩ := ho f hf
 rw [h3]
 exact Nat.le_trans (Nat.pow_le_pow_left h8 _) (Nat.le_trans (Nat.pow_le_pow_right (by decide) (show f.ar.toNat ≤ 3 by omega)) (by decide))
theorem acB_of {m : Nat} {ops : List OpD} (hg : algOk (m : Int) ops = true) (h : (allL m ops).length ≤ 200) : acB (m : Int) ops = true := by
 unfold acB
 rw [hg, Int.toNat_natCast, decide_eq_true h]; rfl
theorem rbigV_c (l : List Int) (_hl : l.length ≤ 9223372036854775807) : PCalls Tryz.prog 18 [bytesP l] (B (decide (65536 < (l.length : Int)))) := by
 refine pcalls1 Tryz.func18 rfl Tryz.ntmps18 rfl ?_
 refine wF ?_
 repeat' (first
| refine wO ?_
| (refine o_go rfl ?_; (first
| refine wS ?_); refine ⟨_, aB, ?_⟩)
| refine kr1 ?_
| refine krB rfl ?_
| refine wE ?_)
 all_goals first | rfl | (exfalso; omega)
end Go.Proofs.YtepjlgilopfnpaaGreat
/- Walks: the draws of the law of direct pairs, products of quotients. -/
namespace Go.Proofs.YtepjlgilopfnpaaGreat
open Go Go.Pv Go.Proofs
set_option maxHeartbeats 32000000
set_option maxRecDepth 100000
/-! ### Products -/
def poB (n : Int) (A : List OpD) (m : Int) (Z : List OpD) : Bool := alkB n A m Z && decide (n.toNat * m.toNat ≤ 8)
def poN (n : Int) (A : List OpD) (m : Int) (Z : List OpD) : Int := if poB n A m Z then ((n.toNat * m.toNat : Nat) : Int) else 0
def poO (n : Int) (A : List OpD) (m : Int) (Z : List OpD) : List OpD := if poB n A m Z then prodL n.toNat m.toNat A Z else []
theorem ipo_c (n m : Int) (A Z : List OpD) (hA : szOk A) (hZ : szOk Z) : PCalls Tryz.prog 27 [algP n A, algP m Z] (.tup [algP (poN n A m Z) (poO n A m Z), Go.Pv.B (poB n A m Z)]) := by
 refine pcallsCT Tryz.func27 rfl Tryz.ntmps27 rfl ?_
 refine wF ?_
 have h1 := iaa_c n m A Z hA hZ
 unfold poN poO
 cases hb : alkB n A m Z with
 | false =>
  have e : poB n A m Z = false := by unfold poB; rw [hb]; rfl
  rw [hb] at h1
  rw [e, if_neg Bool.false_ne_true, if_neg Bool.false_ne_true]
  repeat' (first
| refine krct (krC_le rfl aK rfl (agg2_le (PV.le_nil 2))) ?_
| refine wO ?_
| (refine o_go rfl ?_; (first
| refine p_p (zG rfl rfl aD (h1)) ?_
| refine wS ?_
| refine p_p (ps_load_agg rfl rfl aK) ?_
| refine p_e rfl (zO rfl rfl rfl rfl aK rfl rfl rfl) ?_
| refine p_e rfl (e_alloc rfl) ?_
| refine p_p (ps_box rfl rfl) ?_
| refine p_p (ps_build rfl rfl) ?_); refine ⟨_, aB, ?_⟩)
| (refine o_s rfl ?_; refine ⟨_, aB, ?_⟩)
| refine krB rfl ?_
| refine wE ?_)
  all_goals rfl
 | true =>
  rw [hb] at h1
  obtain ⟨a, b, rfl, rfl, a0, a8, b0, b8, a4, ao, bo, hs, -, -⟩ := alkB_facts hb
  have hab : a * b ≤ 64 := Nat.mul_le_mul a8 b8
  have e1 : (a : Int) * (b : Int) = ((a * b : Nat) : Int) := by rw [Int.natCast_mul]
  by_cases h8 : a * b ≤ 8
  · have e : poB (a : Int) A (b : Int) Z = true := by unfold poB; rw [hb, Int.toNat_natCast, Int.toNat_natCast, decide_eq_true h8]; rfl
    have h2 := iprdt_c a b A Z a0 b0 h8 hA.1 ao bo hs
    rw [e, if_pos rfl, if_pos rfl, Int.toNat_natCast, Int.toNat_natCast]
    generalize prodL a b A Z = Q at *
    generalize a * b = ab at *
    repeat' (first
| refine wO ?_
| (refine o_go rfl ?_; (first
| refine p_p (zG rfl rfl aD (h1)) ?_
| refine p_p (zG rfl rfl aD (h2)) ?_
| refine p_p (ps_mulV rfl rfl rfl e1 zz) ?_
| refine wS ?_
| refine p_p (ps_load_agg rfl rfl aK) ?_
| refine p_e rfl (zO rfl rfl rfl rfl aK rfl rfl rfl) ?_
| refine p_e rfl (e_alloc rfl) ?_
| refine p_p (ps_box rfl rfl) ?_); refine ⟨_, aB, ?_⟩)
| (refine zK rfl ?_ ?_ <;> intro hc <;> try omega)
| refine krct ?_ ?_
| refine krC rfl aK ?_
| refine krB rfl ?_
| refine wE ?_)
    all_goals first | rfl | (exfalso; omega)
  · have e : poB (a : Int) A (b : Int) Z = false := by unfold poB; rw [hb, Int.toNat_natCast, Int.toNat_natCast, decide_eq_false h8]; rfl
    rw [e, if_neg Bool.false_ne_true, if_neg Bool.false_ne_true]
    generalize a * b = ab at *
    repeat' (first
| refine krct (krC_le rfl aK rfl (agg2_le (PV.le_nil 2))) ?_
| refine wO ?_
| (refine o_go rfl ?_; (first
| refine p_p (zG rfl rfl aD (h1)) ?_
| refine p_p (ps_mulV rfl rfl rfl e1 zz) ?_
| refine wS ?_
| refine p_p (ps_load_agg rfl rfl aK) ?_
| refine p_e rfl (zO rfl rfl rfl rfl aK rfl rfl rfl) ?_
| refine p_e rfl (e_alloc rfl) ?_
| refine p_p (ps_box rfl rfl) ?_
| refine p_p (ps_build rfl rfl) ?_); refine ⟨_, aB, ?_⟩)
| (refine zK rfl ?_ ?_ <;> intro hc <;> try omega)
| refine krB rfl ?_
| refine wE ?_)
    all_goals first | rfl | (exfalso; omega)
/-! ### A direct pair -/
theorem dir_size {n : Nat} {p q : List Int} (hp : Pt n p) (hq : Pt n q) (hc : cmpP n p q = true) (hpm : Prm n p q) : (lstN p n).length * (lstN q n).length = n := by
 unfold cmpP at hc
 rw [Bool.and_eq_true, decide_eq_true_eq, decide_eq_true_eq] at hc
 obtain ⟨hm, hj⟩ := hc
 have hinj : ∀ x y, x < n → y < n → bk p x = bk p y → bk q x = bk q y → x = y := fun x y hx hy h1 h2 => by
  have := (meet_R (p := p) (q := q) hx hy).2 ⟨h1, h2⟩
  rw [hm, bk_idL hx, bk_idL hy] at this
  exact this
 have h1 := fun x (hx : x < n) => nm_lt hp hx
 have h2 := fun x (hx : x < n) => nm_lt hq hx
 rcases Nat.eq_zero_or_pos n with h0 | hn
 · subst h0; simp [lstN]
 have hφ : ∀ x, x < n → nmN p x * (lstN q n).length + nmN q x < (lstN p n).length * (lstN q n).length := fun x hx => pair_lt hn h1 h2 hx
 refine Nat.le_antisymm ?_ ?_
 · have hsub : ∀ k ∈ List.range ((lstN p n).length * (lstN q n).length), k ∈ (List.range n).map fun x => nmN p x * (lstN q n).length + nmN q x := fun k hk => by
    have hk := List.mem_range.1 hk
    have hq0 := lst_pos hq hn
    have hi : k / (lstN q n).length < (lstN p n).length := Nat.div_lt_of_lt_mul (by rw [Nat.mul_comm]; exact hk)
    have hjl := Nat.mod_lt k hq0
    obtain ⟨x1, -⟩ := lst_in hp hi
    obtain ⟨y1, -⟩ := lst_in hq hjl
    have hx := nm_lst hp hi
    have hy := nm_lst hq hjl
    generalize (lstN p n).getD (k / (lstN q n).length) 0 = x at *
    generalize (lstN q n).getD (k % (lstN q n).length) 0 = y at *
    obtain ⟨z, hz, z1, z2⟩ := (prm_join hp hq hpm x1 y1).1 (by rw [hj, bk_full, bk_full])
    refine List.mem_map.2 ⟨z, List.mem_range.2 hz, ?_⟩
    rw [← (nm_eq hp x1 hz).2 z1, (nm_eq hq hz y1).2 z2, hx, hy, Nat.mul_comm]
    exact Nat.div_add_mod k _
   have := len_le_sub List.nodup_range hsub
   simpa using this
 · have hnd : ((List.range n).map fun x => nmN p x * (lstN q n).length + nmN q x).Nodup := by
    refine List.pairwise_map.2 (List.Pairwise.imp_of_mem (fun {a b} ha hb hne e => hne ?_) List.nodup_range)
    have ha := List.mem_range.1 ha
    have hb := List.mem_range.1 hb
    have a2 := h2 a ha
    have b2 := h2 b hb
    have e1 : nmN q a = nmN q b := by
     have := congrArg (· % (lstN q n).length) e
     simpa only [Nat.mul_comm _ (lstN q n).length, Nat.mul_add_mod, Nat.mod_eq_of_lt a2, Nat.mod_eq_of_lt b2] using this
    have e2 : nmN p a = nmN p b := by
     rw [e1] at e
     exact Nat.eq_of_mul_eq_mul_right (Nat.lt_of_le_of_lt (Nat.zero_le _) a2) (Nat.add_right_cancel e)
    exact hinj a b ha hb ((nm_eq hp ha hb).1 e2) ((nm_eq hq ha hb).1 e1)
   have := nodup_lt_len hnd (fun s hs => by
    obtain ⟨x, hx, rfl⟩ := List.mem_map.1 hs
    exact hφ x (List.mem_range.1 hx))
   simpa using this
theorem cgB_tk {m : Nat} {ops : List OpD} {p : List Int} (hm : 0 < m) (hg : algOk (m : Int) ops = true) (ho : opsIn m ops) (hp : p ∈ allL m ops) : tkB (m : Int) ops p = true := by
 unfold tkB
 rw [hg, Int.toNat_natCast, (cgB_iff hm ho).2 (allL_mem.1 hp)]; rfl
theorem dir_facts {m : Nat} {ops : List OpD} {p q : List Int} (hm : 0 < m) (hm8 : m ≤ 8) (h4 : ops.length ≤ 4) (hg : algOk (m : Int) ops = true) (ho : opsIn m ops) (hp : p ∈ allL m ops) (hq : q ∈ allL m ops) (hd : dirB m p q = true) :
 ∃ P Q W : List OpD, ∃ a b : Nat, quN (m : Int) ops p = (a : Int) ∧ quO (m : Int) ops p = P ∧ quN (m : Int) ops q = (b : Int) ∧ quO (m : Int) ops q = Q ∧ szOk P ∧ szOk Q ∧ szOk W ∧ poB (a : Int) P (b : Int) Q = true ∧ poN (a : Int) P (b : Int) Q = (m : Int) ∧ poO (a : Int) P (b : Int) Q = W ∧
  alkB (m : Int) ops (m : Int) W = true ∧ (isoK m m ops W = true → isoR m m ops W = true) := by
 obtain ⟨pt, cp⟩ := allL_mem.1 hp
 obtain ⟨qt, cq⟩ := allL_mem.1 hq
 unfold dirB at hd
 rw [Bool.and_eq_true] at hd
 obtain ⟨hc, hpm⟩ := hd
 have hpm := (prmB_iff pt qt).1 hpm
 have hsz := dir_size pt qt hc hpm
 have hk1 := cgB_tk hm hg ho hp
 have hk2 := cgB_tk hm hg ho hq
 have oi := quo_in hm pt ho
 have oj := quo_in hm qt ho
 have l1 := lst_pos pt hm
 have l2 := lst_pos qt hm
 have l3 := lstN_le p m
 have l4 := lstN_le q m
 have hst := quo_same m p q ops
 have hqp := quo_len m p ops
 have hqq := quo_len m q ops
 have hW := prod_in l1 l2 oi oj hst
 rw [hsz] at hW
 have hWt : sameT ops (prodL (lstN p m).length (lstN q m).length (quoL m p ops) (quoL m q ops)) := by
  unfold sameT
  rw [prod_type]
  unfold quoL
  rw [List.map_map]; rfl
 have hWl : (prodL (lstN p m).length (lstN q m).length (quoL m p ops) (quoL m q ops)).length = ops.length := hWt.len.symm
 have hiso := iso_prod hm ho pt qt cp cq (fun x y hx hy h1 h2 => by
  unfold cmpP at hc
  rw [Bool.and_eq_true, decide_eq_true_eq, decide_eq_true_eq] at hc
  have := (meet_R (p := p) (q := q) hx hy).2 ⟨h1, h2⟩
  rw [hc.1, bk_idL hx, bk_idL hy] at this
  exact this)
 rw [hsz] at hiso
 have g1 : algOk ((lstN p m).length : Int) (quoL m p ops) = true := algOk_of l1 (by omega) (by omega) oi
 have g2 : algOk ((lstN q m).length : Int) (quoL m q ops) = true := algOk_of l2 (by omega) (by omega) oj
 have g3 : algOk (m : Int) (prodL (lstN p m).length (lstN q m).length (quoL m p ops) (quoL m q ops)) = true := algOk_of hm hm8 (by omega) hW
 have hk : alkB ((lstN p m).length : Int) (quoL m p ops) ((lstN q m).length : Int) (quoL m q ops) = true := by
  unfold alkB
  rw [g1, g2, decide_eq_true (show tyL (quoL m p ops) = tyL (quoL m q ops) by rw [tyL_quo, tyL_quo])]; rfl
 have hpo : poB ((lstN p m).length : Int) (quoL m p ops) ((lstN q m).length : Int) (quoL m q ops) = true := by
  unfold poB
  rw [hk, Int.toNat_natCast, Int.toNat_natCast, hsz, decide_eq_true hm8]; rfl
 refine ⟨quoL m p ops, quoL m q ops, prodL (lstN p m).length (lstN q m).length (quoL m p ops) (quoL m q ops), (lstN p m).length, (lstN q m).length, quN_ok hk1, quO_ok hk1, quN_ok hk2, quO_ok hk2, opsIn_sz (by omega) oi (by omega), opsIn_sz (by omega) oj (by omega), opsIn_sz hm8 hW (by omega), hpo, ?_, ?_, ?_, fun h => iso_found (alk_of hm hm ho hW hWt) hiso h⟩
 · unfold poN
   rw [hpo, if_pos rfl, Int.toNat_natCast, Int.toNat_natCast, hsz]
 · unfold poO
   rw [hpo, if_pos rfl, Int.toNat_natCast, Int.toNat_natCast]
 · unfold alkB
   rw [hg, g3, decide_eq_true (show tyL ops = tyL (prodL (lstN p m).length (lstN q m).length (quoL m p ops) (quoL m q ops)) from hWt)]; rfl
end Go.Proofs.YtepjlgilopfnpaaGreat
/- Plain: short separating lists; quotients by irreducible congruences have a monolith. -/
namespace Go.Proofs.YtepjlgilopfnpaaGreat
open Go Go.Pv Go.Proofs
/-! ### Monoliths -/
theorem allL_first {n : Nat} (ops : List OpD) : (allL n ops).getD 0 [] = idL n := by
 have hmem : idL n ∈ allL n ops := allL_mem.2 ⟨idL_pt n, idL_cong ops⟩
 have hasc := (allL_all n ops).1
 have hPt : ∀ p ∈ allL n ops, Pt n p := fun p hp => (allL_mem.1 hp).1
 generalize allL n ops = V at *
 have h0 := List.length_pos_of_mem hmem
 obtain ⟨i, hi, e⟩ := List.getElem_of_mem hmem
 rcases Nat.eq_zero_or_pos i with h | h
 · subst h; rw [rows_get hi]; exact e
 · have hc := List.pairwise_iff_getElem.1 hasc 0 i h0 hi h
   rw [e, ← rows_get h0] at hc
   have hp0 := hPt _ (rows_mem h0)
   have hcnt : cnt n (idL n) = n := cnt_id.2 fun x hx => bk_idL hx
   have hle := cnt_le n (V.getD 0 [])
   unfold cmpC at hc
   split at hc
   · omega
   · have h2 : cnt n (V.getD 0 []) = n := by rename_i hh; omega
     exact fi_antisymm hp0 (idL_pt n) (fun x hx => by rw [cnt_id.1 h2 x hx]) (idL_fi _)
end Go.Proofs.YtepjlgilopfnpaaGreat
/- Walks: factor pairs of congruences, both sides. -/
namespace Go.Proofs.YtepjlgilopfnpaaGreat
open Go Go.Pv Go.Proofs
set_option maxHeartbeats 32000000
set_option maxRecDepth 100000

theorem cnt_lst (n : Nat) (p : List Int) : cnt n p = (lstN p n).length := rfl
def fpB (n : Nat) (p q : List Int) : Bool := decide (cnt n (meetP n p q) = n) && decide (n = cnt n p * cnt n q)
theorem meet_inj {n : Nat} {p q : List Int} : cnt n (meetP n p q) = n ↔ ∀ x y, x < n → y < n → bk p x = bk p y → bk q x = bk q y → x = y := by
 rw [cnt_idP meet_pt]
 constructor
 · intro h x y hx hy h1 h2
   have := (meet_R (p := p) (q := q) hx hy).2 ⟨h1, h2⟩
   rw [h, bk_idL hx, bk_idL hy] at this
   exact this
 · intro h
   exact pt_R meet_pt (idL_pt n) fun x y hx hy => by
    rw [meet_R hx hy, bk_idL hx, bk_idL hy]
    exact ⟨fun ⟨h1, h2⟩ => h x y hx hy h1 h2, fun e => by rw [e]; exact ⟨rfl, rfl⟩⟩
section
variable {n : Nat} {p q : List Int} (hp : Pt n p) (hq : Pt n q)
include hp hq
theorem pair_nodup (hinj : ∀ x y, x < n → y < n → bk p x = bk p y → bk q x = bk q y → x = y) : ((List.range n).map fun x => nmN p x * cnt n q + nmN q x).Nodup := by
 refine List.pairwise_map.2 (List.Pairwise.imp_of_mem (fun {a b} ha hb hne e => hne ?_) List.nodup_range)
 have ha := List.mem_range.1 ha
 have hb := List.mem_range.1 hb
 have a2 := nm_lt hq ha
 have b2 := nm_lt hq hb
 rw [← cnt_lst] at a2 b2
 have e1 : nmN q a = nmN q b := by
  have := congrArg (· % cnt n q) e
  simpa only [Nat.mul_comm _ (cnt n q), Nat.mul_add_mod, Nat.mod_eq_of_lt a2, Nat.mod_eq_of_lt b2] using this
 have e2 : nmN p a = nmN p b := by
  rw [e1] at e
  exact Nat.eq_of_mul_eq_mul_right (Nat.lt_of_le_of_lt (Nat.zero_le _) a2) (Nat.add_right_cancel e)
 exact hinj a b ha hb ((nm_eq hp ha hb).1 e2) ((nm_eq hq ha hb).1 e1)
theorem pair_in {x : Nat} (hx : x < n) : nmN p x * cnt n q + nmN q x < cnt n p * cnt n q := by
 have a := nm_lt hp hx
 have b := nm_lt hq hx
 rw [← cnt_lst] at a b
 calc nmN p x * cnt n q + nmN q x < nmN p x * cnt n q + cnt n q := by omega
  _ = (nmN p x + 1) * cnt n q := by rw [Nat.add_mul, Nat.one_mul]
  _ ≤ cnt n p * cnt n q := Nat.mul_le_mul_right _ a
theorem pair_le (hinj : ∀ x y, x < n → y < n → bk p x = bk p y → bk q x = bk q y → x = y) : n ≤ cnt n p * cnt n q := by
 have := nodup_lt_len (pair_nodup hp hq hinj) (fun s hs => by
  obtain ⟨x, hx, rfl⟩ := List.mem_map.1 hs
  exact pair_in hp hq (List.mem_range.1 hx))
 simpa using this
theorem pair_ge (hn : 0 < n) (hs : ∀ x y, x < n → y < n → ∃ z, z < n ∧ bk p x = bk p z ∧ bk q z = bk q y) : cnt n p * cnt n q ≤ n := by
 have hsub : ∀ k ∈ List.range (cnt n p * cnt n q), k ∈ (List.range n).map fun x => nmN p x * cnt n q + nmN q x := fun k hk => by
  have hk := List.mem_range.1 hk
  have hq0 := lst_pos hq hn
  rw [← cnt_lst] at hq0
  have hi : k / cnt n q < (lstN p n).length := Nat.div_lt_of_lt_mul (by rw [Nat.mul_comm]; exact hk)
  have hjl : k % cnt n q < (lstN q n).length := Nat.mod_lt k hq0
  obtain ⟨x1, -⟩ := lst_in hp hi
  obtain ⟨y1, -⟩ := lst_in hq hjl
  have hx := nm_lst hp hi
  have hy := nm_lst hq hjl
  generalize (lstN p n).getD (k / cnt n q) 0 = x at *
  generalize (lstN q n).getD (k % cnt n q) 0 = y at *
  obtain ⟨z, hz, z1, z2⟩ := hs x y x1 y1
  refine List.mem_map.2 ⟨z, List.mem_range.2 hz, ?_⟩
  rw [← (nm_eq hp x1 hz).2 z1, (nm_eq hq hz y1).2 z2, hx, hy, Nat.mul_comm]
  exact Nat.div_add_mod k _
 have := len_le_sub List.nodup_range hsub
 simpa using this
theorem pair_all (hinj : ∀ x y, x < n → y < n → bk p x = bk p y → bk q x = bk q y → x = y) (hc : n = cnt n p * cnt n q) : ∀ x y, x < n → y < n → ∃ z, z < n ∧ bk p x = bk p z ∧ bk q z = bk q y := fun x y hx hy => by
 have a := nm_lt hp hx
 have b := nm_lt hq hy
 rw [← cnt_lst] at a b
 have hk : nmN p x * cnt n q + nmN q y < cnt n p * cnt n q := by
  calc nmN p x * cnt n q + nmN q y < nmN p x * cnt n q + cnt n q := by omega
   _ = (nmN p x + 1) * cnt n q := by rw [Nat.add_mul, Nat.one_mul]
   _ ≤ cnt n p * cnt n q := Nat.mul_le_mul_right _ a
 have hnd := pair_nodup hp hq hinj
 by_cases hm : nmN p x * cnt n q + nmN q y ∈ (List.range n).map fun x => nmN p x * cnt n q + nmN q x
 · obtain ⟨z, hz, e⟩ := List.mem_map.1 hm
   have hz := List.mem_range.1 hz
   have c := nm_lt hq hz
   rw [← cnt_lst] at c
   have e1 : nmN q z = nmN q y := by
    have := congrArg (· % cnt n q) e
    simpa only [Nat.mul_comm _ (cnt n q), Nat.mul_add_mod, Nat.mod_eq_of_lt c, Nat.mod_eq_of_lt b] using this
   have e2 : nmN p z = nmN p x := by
    rw [e1] at e
    exact Nat.eq_of_mul_eq_mul_right (Nat.lt_of_le_of_lt (Nat.zero_le _) b) (Nat.add_right_cancel e)
   exact ⟨z, hz, (nm_eq hp hx hz).1 e2.symm, (nm_eq hq hz hy).1 e1⟩
 · have := nodup_lt_len (l := (nmN p x * cnt n q + nmN q y) :: (List.range n).map fun x => nmN p x * cnt n q + nmN q x) (n := cnt n p * cnt n q) (List.nodup_cons.2 ⟨hm, hnd⟩) (fun s hs => by
    rcases List.mem_cons.1 hs with rfl | hs
    · exact hk
    · obtain ⟨z, hz, rfl⟩ := List.mem_map.1 hs
      exact pair_in hp hq (List.mem_range.1 hz))
   rw [List.length_cons, List.length_map, List.length_range] at this
   omega
end
def sfI (p q : List Int) (x y : Nat) : Bool := !(decide (x ≠ y) && (decide (p.getD x 0 = p.getD y 0) && decide (q.getD x 0 = q.getD y 0)))
def sfB (n : Nat) (p q : List Int) : Bool := (List.range n).all fun x => (List.range n).all fun y => sfI p q x y && prdK p q x y n
theorem sf_fp {n : Nat} {p q : List Int} (hn : 0 < n) (hp : Pt n p) (hq : Pt n q) : sfB n p q = fpB n p q := by
 rw [Bool.eq_iff_iff]
 unfold sfB fpB
 rw [Bool.and_eq_true, decide_eq_true_eq, decide_eq_true_eq, meet_inj]
 have hI : ∀ x y, x < n → y < n → (sfI p q x y = true ↔ (bk p x = bk p y → bk q x = bk q y → x = y)) := fun x y hx hy => by
  unfold sfI
  rw [hp.val hx, hp.val hy, hq.val hx, hq.val hy]
  simp only [Bool.not_eq_true', Bool.and_eq_false_iff, decide_eq_false_iff_not]
  constructor
  · intro h h1 h2
    rcases h with h | h | h
    · exact Decidable.not_not.1 h
    · exact absurd (by rw [h1]) h
    · exact absurd (by rw [h2]) h
  · intro h
    by_cases h1 : bk p x = bk p y
    · by_cases h2 : bk q x = bk q y
      · exact .inl (fun hne => hne (h h1 h2))
      · exact .inr (.inr fun e => h2 (Int.ofNat.inj e))
    · exact .inr (.inl fun e => h1 (Int.ofNat.inj e))
 constructor
 · intro h
   have h' : ∀ x y, x < n → y < n → sfI p q x y = true ∧ prdK p q x y n = true := fun x y hx hy => by
    have := List.all_eq_true.1 (List.all_eq_true.1 h x (List.mem_range.2 hx)) y (List.mem_range.2 hy)
    rwa [Bool.and_eq_true] at this
   have hinj : ∀ x y, x < n → y < n → bk p x = bk p y → bk q x = bk q y → x = y := fun x y hx hy => (hI x y hx hy).1 (h' x y hx hy).1
   refine ⟨hinj, Nat.le_antisymm (pair_le hp hq hinj) (pair_ge hp hq hn fun x y hx hy => ?_)⟩
   obtain ⟨z, hz, z1, z2⟩ := (prdK_iff hp hq hx hy).1 (h' x y hx hy).2
   exact ⟨z, hz, z1, z2⟩
 · rintro ⟨hinj, hc⟩
   refine List.all_eq_true.2 fun x hx => List.all_eq_true.2 fun y hy => ?_
   have hx := List.mem_range.1 hx
   have hy := List.mem_range.1 hy
   rw [Bool.and_eq_true]
   obtain ⟨z, hz, z1, z2⟩ := pair_all hp hq hinj hc x y hx hy
   exact ⟨(hI x y hx hy).2 (hinj x y hx hy), (prdK_iff hp hq hx hy).2 ⟨z, hz, z1, z2⟩⟩
theorem fp_prm {n : Nat} {p q : List Int} (hp : Pt n p) (hq : Pt n q) (h : fpB n p q = true) : Prm n p q := fun x z hx hz _ => by
 unfold fpB at h
 rw [Bool.and_eq_true, decide_eq_true_eq, decide_eq_true_eq, meet_inj] at h
 obtain ⟨w, hw, w1, w2⟩ := pair_all hp hq h.1 h.2 z x hz hx
 exact ⟨w, hw, w2.symm, w1.symm⟩
theorem ifp_c (n : Nat) (p q : List Int) (hn : n ≤ 1000) (hp : Pt n p) (hq : Pt n q) : PCalls Tryz.prog 68 [ints p, ints q] (B (fpB n p q)) := by
 refine pcalls1 Tryz.func68 rfl Tryz.ntmps68 rfl ?_
 refine wF ?_
 have m1 : PCalls Tryz.prog 121 [ints p, ints q] (ints (meetP n p q)) := rcalls_P rfl (imeet_R n p q hn hp hq)
 have b1 := ibcnt_c n (meetP n p q) (by omega) meet_pt
 have b2 := ibcnt_c n p (by omega) hp
 have b3 := ibcnt_c n q (by omega) hq
 have hpl : p.length = n := hp.len
 have k1 := cnt_le n p
 have k2 := cnt_le n q
 have k3 : cnt n p * cnt n q ≤ 1000000 := Nat.le_trans (Nat.mul_le_mul (show _ ≤ 1000 by omega) (show _ ≤ 1000 by omega)) (by decide)
 have e1 : (cnt n p : Int) * (cnt n q : Int) = ((cnt n p * cnt n q : Nat) : Int) := by rw [Int.natCast_mul]
 unfold fpB
 generalize cnt n (meetP n p q) = c1 at *
 generalize cnt n p * cnt n q = c2 at *
 by_cases h1 : c1 = n
 · rw [decide_eq_true h1, Bool.true_and]
   by_cases h2 : n = c2
   · rw [decide_eq_true h2]
     repeat' (first
| refine wO ?_
| (refine o_go rfl ?_; (first
| refine p_p (zG rfl rfl aD (m1)) ?_
| refine p_p (zG rfl rfl aD (b1)) ?_
| refine p_p (zG rfl rfl aD (b2)) ?_
| refine p_p (zG rfl rfl aD (b3)) ?_
| refine p_p (ps_mulV rfl rfl rfl e1 zz) ?_
| refine wS ?_); refine ⟨_, aB, ?_⟩)
| (refine g_condN rfl ?_ ?_ <;> intro hc <;> try omega)
| refine kr1 ?_
| refine krB rfl ?_
| refine wE ?_)
     all_goals first | rfl | (exfalso; omega) | exact decide_eq_true (by omega)
   · rw [decide_eq_false h2]
     repeat' (first
| refine wO ?_
| (refine o_go rfl ?_; (first
| refine p_p (zG rfl rfl aD (m1)) ?_
| refine p_p (zG rfl rfl aD (b1)) ?_
| refine p_p (zG rfl rfl aD (b2)) ?_
| refine p_p (zG rfl rfl aD (b3)) ?_
| refine p_p (ps_mulV rfl rfl rfl e1 zz) ?_
| refine wS ?_); refine ⟨_, aB, ?_⟩)
| (refine g_condN rfl ?_ ?_ <;> intro hc <;> try omega)
| refine kr1 ?_
| refine krB rfl ?_
| refine wE ?_)
     all_goals first | rfl | (exfalso; omega) | exact decide_eq_false (by omega)
 · rw [decide_eq_false h1, Bool.false_and]
   repeat' (first
| refine wO ?_
| (refine o_go rfl ?_; (first
| refine p_p (zG rfl rfl aD (m1)) ?_
| refine p_p (zG rfl rfl aD (b1)) ?_
| refine wS ?_); refine ⟨_, aB, ?_⟩)
| (refine g_condN rfl ?_ ?_ <;> intro hc <;> try omega)
| refine kr1 ?_
| refine krB rfl ?_
| refine wE ?_)
   all_goals first | rfl | (exfalso; omega) | exact decide_eq_false (by omega)
end Go.Proofs.YtepjlgilopfnpaaGreat
