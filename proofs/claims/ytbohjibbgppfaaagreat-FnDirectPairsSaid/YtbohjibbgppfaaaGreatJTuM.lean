/- No condition. -/
import Derived.Test.YtbohjibbgppfaaaGreatJTs
import Derived.Test.YtbohjibbgppfaaaGreatJTq
namespace Go.Proofs.YtbohjibbgppfaaaGreat
open Go Go.Pv Go.Proofs
set_option maxHeartbeats 32000000
set_option maxRecDepth 100000
attribute [local bitvec_to_nat] setlP setl1 setlH
theorem drawDP_c {l : List Int} (h : bytesOk l) : ∃ n ops, szOk ops ∧ PCalls Tryz.prog 62 [bytesP l] (algP n ops) := by
 obtain ⟨n, ops, hs, hc⟩ := drawAP_c h
 refine ⟨n, ops, hs, ?_⟩
 refine pcallsC Tryz.func62 rfl Tryz.ntmps62 rfl ?_
 refine wF ?_
 repeat' (first
| refine wO ?_
| (refine o_go rfl ?_; (first
| refine p_p (zG rfl rfl aD (hc)) ?_
| refine wS ?_
| refine p_e rfl (zO rfl rfl rfl rfl aK rfl rfl rfl) ?_
| refine p_e rfl (e_alloc rfl) ?_); refine ⟨_, aA, ?_⟩)
| refine krc ?_
| refine krC rfl aK ?_
| refine wE ?_)
 rfl
theorem drawCO_c {l : List Int} (h : bytesOk l) : ∃ n ops p, szOk ops ∧ p.length ≤ 10 ∧ PCalls Tryz.prog 67 [bytesP l] (.tup [algP n ops, ints p]) := by
 obtain ⟨c1, n, ops, k1, hs, -, -, -, h1⟩ := few16_L (cu0_ok h) (by omega)
 obtain ⟨c2, p, k2, hp, h2⟩ := cong6_L k1 (by omega) n ops hs
 refine ⟨n, ops, p, hs, hp, ?_⟩
 refine pcallsCT Tryz.func67 rfl Tryz.ntmps67 rfl ?_
 refine wF ?_
 repeat' (first
| refine wO ?_
| (refine o_go rfl ?_; (first
| refine p_e rfl (e_box rfl rfl) ?_
| refine p_e rfl (e_callL (n := 1) rfl rfl rfl aJ rfl (by rfl) aQ (h1)) ?_
| refine wS ?_
| refine p_e rfl (zO rfl rfl rfl rfl aK rfl rfl rfl) ?_
| refine p_e rfl (e_alloc rfl) ?_
| refine p_p (ps_build rfl rfl) ?_); refine ⟨_, aA, ?_⟩))
 refine g_region_drawZ [(0, some []), (1, some []), (2, some []), (3, none), (4, none), (5, none)] [] (fun hp => hp[2]? = some (.box [I n, opsP ops])) (by kernel_rfl) rfl (by kernel_rfl) ?_
 repeat' (first
| refine z_nil ?_
| ((first
| refine zV rfl rfl (fun hp hH => zY rfl rfl hH aK) aL aC zd aB ?_
| refine zV rfl rfl (fun _ _ => zD rfl) aL aC zd aB ?_
| refine z_eff rfl rfl aF (j_callLB (n := 1) rfl rfl rfl aJ (by rfl) (by rfl) (h2)) aG ?_
| refine z_eff rfl rfl aF (j_store_boxA rfl rfl rfl rfl aK rfl rfl rfl) aG ?_
| refine z_eff rfl rfl aF (j_pure (zA rfl)) aG ?_); refine ⟨_, aS, ?_⟩))
 repeat' (first
| refine krct ?_ ?_
| refine krC rfl aK ?_
| refine krS rfl ?_
| refine wE ?_)
 all_goals rfl
theorem vat_c {l : List Int} (h : bytesOk l) (i : Nat) (hi : i ≤ 1000) : ∃ x : Int, 0 ≤ x ∧ x ≤ 255 ∧ PCalls Tryz.prog 66 [bytesP l, I (i : Int)] (I x) := by
 have hl := h.len
 by_cases hil : i < l.length
 · have hb := h.byte i hil
   have hix : (l.map Y)[((i : Nat) : Int).toNat]? = some (Y (l.getD i 0)) := idx_Y hil
   have hw : IntKind.i64.wrap (l.getD i 0) = l.getD i 0 := IntWalk.i64_in _ (by omega)
   refine ⟨IntKind.i64.wrap (l.getD i 0), by omega, by omega, ?_⟩
   refine pcalls1 Tryz.func66 rfl Tryz.ntmps66 rfl ?_
   refine wF ?_
   repeat' (first
| refine wO ?_
| (refine o_go rfl ?_; (first
| refine p_p (zN rfl rfl rfl zz hix ze) ?_
| refine p_p (ps_conv rfl Tryz.underlying3 rfl rfl) ?_
| refine wS ?_); refine ⟨_, aA, ?_⟩)
| (refine zK rfl ?_ ?_ <;> intro hc <;> try omega)
| refine kr1 ?_
| refine krI rfl ?_
| refine wE ?_)
   all_goals first | rfl | (exfalso; omega)
 · have e1 : (i : Int) * 7 = ((i * 7 : Nat) : Int) := by omega
   have e2 : ((i * 7 : Nat) : Int) + (l.length : Int) = ((i * 7 + l.length : Nat) : Int) := by omega
   have e3 : ((i * 7 + l.length : Nat) : Int) % 256 = (((i * 7 + l.length) % 256 : Nat) : Int) := by omega
   refine ⟨(((i * 7 + l.length) % 256 : Nat) : Int), by omega, by omega, ?_⟩
   refine pcalls1 Tryz.func66 rfl Tryz.ntmps66 rfl ?_
   refine wF ?_
   repeat' (first
| refine wO ?_
| (refine o_go rfl ?_; (first
| refine p_p (ps_mulV rfl rfl rfl e1 zz) ?_
| refine p_p (ps_addV rfl rfl rfl e2 zz) ?_
| refine p_p (ps_remV rfl rfl rfl e3 zz zz) ?_
| refine wS ?_); refine ⟨_, aA, ?_⟩)
| (refine zK rfl ?_ ?_ <;> intro hc <;> try omega)
| refine kr1 ?_
| refine krI rfl ?_
| refine wE ?_)
   all_goals first | rfl | (exfalso; omega)
theorem vin_c (V : List (List Int)) (l : List Int) (hV : V.length ≤ 1048576) (hr : ∀ r ∈ V, r.length ≤ 1048576) (hl : l.length ≤ 1048576) : PCalls Tryz.prog 54 [intss V, ints l] (B (decide (l ∈ V))) := by
 refine pcalls1 Tryz.func54 rfl Tryz.ntmps54 rfl ?_
 refine wF ?_
 repeat' (first
| refine wO ?_
| (refine o_go rfl ?_; (first
| refine wS ?_); refine ⟨_, aA, ?_⟩))
 refine g_loopT (α := Nat) (fun k => [(5, I (k : Int))]) (fun _ => []) (fun k => k ≤ V.length ∧ ∀ j, j < k → V.getD j [] ≠ l) (fun k => V.length - k) 0 aH ⟨Nat.zero_le _, fun j hj => absurd hj (Nat.not_lt_zero _)⟩ ⟨rfl, trivial⟩ rfl ?_
 rintro k ⟨hk, hno⟩
 refine wH ?_
 by_cases hkl : k < V.length
 · have ri := rows_at hkl
   have hm := rows_mem hkl
   have h1 := vints53_c (V.getD k []) l (by have := hr _ hm; omega) (by omega)
   by_cases he : V.getD k [] = l
   · rw [decide_eq_true he] at h1
     rw [decide_eq_true (he ▸ hm)]
     repeat' (first
| refine wO ?_
| (refine o_go rfl ?_; (first
| refine p_p (zN rfl rfl rfl zz ri ze) ?_
| refine p_p (zG rfl rfl aD (h1)) ?_
| refine wS ?_); refine ⟨_, aA, ?_⟩)
| (refine zK rfl ?_ ?_ <;> intro hc <;> try omega)
| refine kr1 ?_
| refine krB rfl ?_
| refine wE ?_)
     all_goals first | rfl | (exfalso; omega)
   · rw [decide_eq_false he] at h1
     repeat' (first
| refine wO ?_
| (refine o_go rfl ?_; (first
| refine p_p (zN rfl rfl rfl zz ri ze) ?_
| refine p_p (zG rfl rfl aD (h1)) ?_
| refine wS ?_); refine ⟨_, aA, ?_⟩)
| (refine zK rfl ?_ ?_ <;> intro hc <;> try omega)
| refine wE ?_)
     all_goals try (exfalso; omega)
     refine zT (k + 1) ⟨by omega, fun j hj => ?_⟩ (by omega) aI ⟨rfl, trivial⟩ (zM _)
     rcases Nat.lt_or_ge j k with h | h
     · exact hno j h
     · rw [show j = k by omega]; exact he
 · rw [decide_eq_false (fun h => by
    obtain ⟨j, hj, e⟩ := List.getElem_of_mem h
    exact hno j (by omega) (by rw [List.getD_eq_getElem?_getD, List.getElem?_eq_getElem hj]; exact e))]
   repeat' (first
| refine wO ?_
| (refine o_go rfl ?_; (first
| refine wS ?_); refine ⟨_, aA, ?_⟩)
| (refine zK rfl ?_ ?_ <;> intro hc <;> try omega)
| refine kr1 ?_
| refine krB rfl ?_
| refine wE ?_)
   all_goals first | rfl | (exfalso; omega)
def poB (n : Int) (A : List OpD) (m : Int) (Z : List OpD) : Bool := alkB n A m Z && decide (n.toNat * m.toNat ≤ 8)
def poN (n : Int) (A : List OpD) (m : Int) (Z : List OpD) : Int := if poB n A m Z then ((n.toNat * m.toNat : Nat) : Int) else 0
def poO (n : Int) (A : List OpD) (m : Int) (Z : List OpD) : List OpD := if poB n A m Z then prodL n.toNat m.toNat A Z else []
theorem ipo_c (n m : Int) (A Z : List OpD) (hA : szOk A) (hZ : szOk Z) : PCalls Tryz.prog 45 [algP n A, algP m Z] (.tup [algP (poN n A m Z) (poO n A m Z), Go.Pv.B (poB n A m Z)]) := by
 refine pcallsCT Tryz.func45 rfl Tryz.ntmps45 rfl ?_
 refine wF ?_
 have h1 := iaa_c n m A Z hA hZ
 unfold poN poO
 cases hb : alkB n A m Z with
 | false =>
  have e : poB n A m Z = false := by unfold poB; rw [hb]; rfl
  rw [hb] at h1
  rw [e, if_neg Bool.false_ne_true, if_neg Bool.false_ne_true]
  repeat' (first
| refine krct (krC_le rfl aK rfl (agg2_le (PV.le_nil 2))) ?_
| refine wO ?_
| (refine o_go rfl ?_; (first
| refine p_p (zG rfl rfl aD (h1)) ?_
| refine wS ?_
| refine p_p (ps_load_agg rfl rfl aK) ?_
| refine p_e rfl (zO rfl rfl rfl rfl aK rfl rfl rfl) ?_
| refine p_e rfl (e_alloc rfl) ?_
| refine p_p (ps_box rfl rfl) ?_
| refine p_p (ps_build rfl rfl) ?_); refine ⟨_, aA, ?_⟩)
| (refine o_s rfl ?_; refine ⟨_, aA, ?_⟩)
| refine krB rfl ?_
| refine wE ?_)
  all_goals rfl
 | true =>
  rw [hb] at h1
  obtain ⟨a, b, rfl, rfl, a0, a8, b0, b8, a4, ao, bo, hs, -, -⟩ := alkB_facts hb
  have hab : a * b ≤ 64 := Nat.mul_le_mul a8 b8
  have e1 : (a : Int) * (b : Int) = ((a * b : Nat) : Int) := by rw [Int.natCast_mul]
  by_cases h8 : a * b ≤ 8
  · have e : poB (a : Int) A (b : Int) Z = true := by unfold poB; rw [hb, Int.toNat_natCast, Int.toNat_natCast, decide_eq_true h8]; rfl
    have h2 := iprdt_c a b A Z a0 b0 h8 hA.1 ao bo hs
    rw [e, if_pos rfl, if_pos rfl, Int.toNat_natCast, Int.toNat_natCast]
    generalize prodL a b A Z = Q at *
    generalize a * b = ab at *
    repeat' (first
| refine wO ?_
| (refine o_go rfl ?_; (first
| refine p_p (zG rfl rfl aD (h1)) ?_
| refine p_p (zG rfl rfl aD (h2)) ?_
| refine p_p (ps_mulV rfl rfl rfl e1 zz) ?_
| refine wS ?_
| refine p_p (ps_load_agg rfl rfl aK) ?_
| refine p_e rfl (zO rfl rfl rfl rfl aK rfl rfl rfl) ?_
| refine p_e rfl (e_alloc rfl) ?_
| refine p_p (ps_box rfl rfl) ?_); refine ⟨_, aA, ?_⟩)
| (refine zK rfl ?_ ?_ <;> intro hc <;> try omega)
| refine krct ?_ ?_
| refine krC rfl aK ?_
| refine krB rfl ?_
| refine wE ?_)
    all_goals first | rfl | (exfalso; omega)
  · have e : poB (a : Int) A (b : Int) Z = false := by unfold poB; rw [hb, Int.toNat_natCast, Int.toNat_natCast, decide_eq_false h8]; rfl
    rw [e, if_neg Bool.false_ne_true, if_neg Bool.false_ne_true]
    generalize a * b = ab at *
    repeat' (first
| refine krct (krC_le rfl aK rfl (agg2_le (PV.le_nil 2))) ?_
| refine wO ?_
| (refine o_go rfl ?_; (first
| refine p_p (zG rfl rfl aD (h1)) ?_
| refine p_p (ps_mulV rfl rfl rfl e1 zz) ?_
| refine wS ?_
| refine p_p (ps_load_agg rfl rfl aK) ?_
| refine p_e rfl (zO rfl rfl rfl rfl aK rfl rfl rfl) ?_
| refine p_e rfl (e_alloc rfl) ?_
| refine p_p (ps_box rfl rfl) ?_
| refine p_p (ps_build rfl rfl) ?_); refine ⟨_, aA, ?_⟩)
| (refine zK rfl ?_ ?_ <;> intro hc <;> try omega)
| refine krB rfl ?_
| refine wE ?_)
    all_goals first | rfl | (exfalso; omega)
theorem dir_size {n : Nat} {p q : List Int} (hp : Pt n p) (hq : Pt n q) (hc : cmpP n p q = true) (hpm : Prm n p q) : (lstN p n).length * (lstN q n).length = n := by
 unfold cmpP at hc
 rw [Bool.and_eq_true, decide_eq_true_eq, decide_eq_true_eq] at hc
 obtain ⟨hm, hj⟩ := hc
 have hinj : ∀ x y, x < n → y < n → bk p x = bk p y → bk q x = bk q y → x = y := fun x y hx hy h1 h2 => by
  have := (meet_R (p := p) (q := q) hx hy).2 ⟨h1, h2⟩
  rw [hm, bk_idL hx, bk_idL hy] at this
  exact this
 have h1 := fun x (hx : x < n) => nm_lt hp hx
 have h2 := fun x (hx : x < n) => nm_lt hq hx
 rcases Nat.eq_zero_or_pos n with h0 | hn
 · subst h0; simp [lstN]
 have hφ : ∀ x, x < n → nmN p x * (lstN q n).length + nmN q x < (lstN p n).length * (lstN q n).length := fun x hx => pair_lt hn h1 h2 hx
 refine Nat.le_antisymm ?_ ?_
 · have hsub : ∀ k ∈ List.range ((lstN p n).length * (lstN q n).length), k ∈ (List.range n).map fun x => nmN p x * (lstN q n).length + nmN q x := fun k hk => by
    have hk := List.mem_range.1 hk
    have hq0 := lst_pos hq hn
    have hi : k / (lstN q n).length < (lstN p n).length := Nat.div_lt_of_lt_mul (by rw [Nat.mul_comm]; exact hk)
    have hjl := Nat.mod_lt k hq0
    obtain ⟨x1, -⟩ := lst_in hp hi
    obtain ⟨y1, -⟩ := lst_in hq hjl
    have hx := nm_lst hp hi
    have hy := nm_lst hq hjl
    generalize (lstN p n).getD (k / (lstN q n).length) 0 = x at *
    generalize (lstN q n).getD (k % (lstN q n).length) 0 = y at *
    obtain ⟨z, hz, z1, z2⟩ := (prm_join hp hq hpm x1 y1).1 (by rw [hj, bk_full, bk_full])
    refine List.mem_map.2 ⟨z, List.mem_range.2 hz, ?_⟩
    rw [← (nm_eq hp x1 hz).2 z1, (nm_eq hq hz y1).2 z2, hx, hy, Nat.mul_comm]
    exact Nat.div_add_mod k _
   have := len_le_sub List.nodup_range hsub
   simpa using this
 · have hnd : ((List.range n).map fun x => nmN p x * (lstN q n).length + nmN q x).Nodup := by
    refine List.pairwise_map.2 (List.Pairwise.imp_of_mem (fun {a b} ha hb hne e => hne ?_) List.nodup_range)
    have ha := List.mem_range.1 ha
    have hb := List.mem_range.1 hb
    have a2 := h2 a ha
    have b2 := h2 b hb
    have e1 : nmN q a = nmN q b := by
     have := congrArg (· % (lstN q n).length) e
     simpa only [Nat.mul_comm _ (lstN q n).length, Nat.mul_add_mod, Nat.mod_eq_of_lt a2, Nat.mod_eq_of_lt b2] using this
    have e2 : nmN p a = nmN p b := by
     rw [e1] at e
     exact Nat.eq_of_mul_eq_mul_right (Nat.lt_of_le_of_lt (Nat.zero_le _) a2) (Nat.add_right_cancel e)
    exact hinj a b ha hb ((nm_eq hp ha hb).1 e2) ((nm_eq hq ha hb).1 e1)
   have := nodup_lt_len hnd (fun s hs => by
    obtain ⟨x, hx, rfl⟩ := List.mem_map.1 hs
    exact hφ x (List.mem_range.1 hx))
   simpa using this
theorem cgB_tk {m : Nat} {ops : List OpD} {p : List Int} (hm : 0 < m) (hg : algOk (m : Int) ops = true) (ho : opsIn m ops) (hp : p ∈ allL m ops) : tkB (m : Int) ops p = true := by
 unfold tkB
 rw [hg, Int.toNat_natCast, (cgB_iff hm ho).2 (allL_mem.1 hp)]; rfl
theorem dir_facts {m : Nat} {ops : List OpD} {p q : List Int} (hm : 0 < m) (hm8 : m ≤ 8) (h4 : ops.length ≤ 4) (hg : algOk (m : Int) ops = true) (ho : opsIn m ops) (hp : p ∈ allL m ops) (hq : q ∈ allL m ops) (hd : dirB m p q = true) :
 ∃ P Q W : List OpD, ∃ a b : Nat, quN (m : Int) ops p = (a : Int) ∧ quO (m : Int) ops p = P ∧ quN (m : Int) ops q = (b : Int) ∧ quO (m : Int) ops q = Q ∧ szOk P ∧ szOk Q ∧ szOk W ∧ poB (a : Int) P (b : Int) Q = true ∧ poN (a : Int) P (b : Int) Q = (m : Int) ∧ poO (a : Int) P (b : Int) Q = W ∧
  alkB (m : Int) ops (m : Int) W = true ∧ (isoK m m ops W = true → isoR m m ops W = true) := by
 obtain ⟨pt, cp⟩ := allL_mem.1 hp
 obtain ⟨qt, cq⟩ := allL_mem.1 hq
 unfold dirB at hd
 rw [Bool.and_eq_true] at hd
 obtain ⟨hc, hpm⟩ := hd
 have hpm := (prmB_iff pt qt).1 hpm
 have hsz := dir_size pt qt hc hpm
 have hk1 := cgB_tk hm hg ho hp
 have hk2 := cgB_tk hm hg ho hq
 have oi := quo_in hm pt ho
 have oj := quo_in hm qt ho
 have l1 := lst_pos pt hm
 have l2 := lst_pos qt hm
 have l3 := lstN_le p m
 have l4 := lstN_le q m
 have hst := quo_same m p q ops
 have hqp := quo_len m p ops
 have hqq := quo_len m q ops
 have hW := prod_in l1 l2 oi oj hst
 rw [hsz] at hW
 have hWt : sameT ops (prodL (lstN p m).length (lstN q m).length (quoL m p ops) (quoL m q ops)) := by
  unfold sameT
  rw [prod_type]
  unfold quoL
  rw [List.map_map]; rfl
 have hWl : (prodL (lstN p m).length (lstN q m).length (quoL m p ops) (quoL m q ops)).length = ops.length := hWt.len.symm
 have hiso := iso_prod hm ho pt qt cp cq (fun x y hx hy h1 h2 => by
  unfold cmpP at hc
  rw [Bool.and_eq_true, decide_eq_true_eq, decide_eq_true_eq] at hc
  have := (meet_R (p := p) (q := q) hx hy).2 ⟨h1, h2⟩
  rw [hc.1, bk_idL hx, bk_idL hy] at this
  exact this)
 rw [hsz] at hiso
 have g1 : algOk ((lstN p m).length : Int) (quoL m p ops) = true := algOk_of l1 (by omega) (by omega) oi
 have g2 : algOk ((lstN q m).length : Int) (quoL m q ops) = true := algOk_of l2 (by omega) (by omega) oj
 have g3 : algOk (m : Int) (prodL (lstN p m).length (lstN q m).length (quoL m p ops) (quoL m q ops)) = true := algOk_of hm hm8 (by omega) hW
 have hk : alkB ((lstN p m).length : Int) (quoL m p ops) ((lstN q m).length : Int) (quoL m q ops) = true := by
  unfold alkB
  rw [g1, g2, decide_eq_true (show tyL (quoL m p ops) = tyL (quoL m q ops) by rw [tyL_quo, tyL_quo])]; rfl
 have hpo : poB ((lstN p m).length : Int) (quoL m p ops) ((lstN q m).length : Int) (quoL m q ops) = true := by
  unfold poB
  rw [hk, Int.toNat_natCast, Int.toNat_natCast, hsz, decide_eq_true hm8]; rfl
 refine ⟨quoL m p ops, quoL m q ops, prodL (lstN p m).length (lstN q m).length (quoL m p ops) (quoL m q ops), (lstN p m).length, (lstN q m).length, quN_ok hk1, quO_ok hk1, quN_ok hk2, quO_ok hk2, opsIn_sz (by omega) oi (by omega), opsIn_sz (by omega) oj (by omega), opsIn_sz hm8 hW (by omega), hpo, ?_, ?_, ?_, fun h => iso_found (alk_of hm hm ho hW hWt) hiso h⟩
 · unfold poN
   rw [hpo, if_pos rfl, Int.toNat_natCast, Int.toNat_natCast, hsz]
 · unfold poO
   rw [hpo, if_pos rfl, Int.toNat_natCast, Int.toNat_natCast]
 · unfold alkB
   rw [hg, g3, decide_eq_true (show tyL ops = tyL (prodL (lstN p m).length (lstN q m).length (quoL m p ops) (quoL m q ops)) from hWt)]; rfl
theorem rows3_at {L : List (List (List Int))} {k : Nat} (h : k < L.length) : (L.map intss)[((k : Nat) : Int).toNat]? = some (intss (L.getD k [])) := by
 rw [Int.toNat_natCast, List.getElem?_map, List.getElem?_eq_getElem h, List.getD_eq_getElem?_getD, List.getElem?_eq_getElem h]; rfl
theorem rows3_mem {L : List (List (List Int))} {k : Nat} (h : k < L.length) : L.getD k [] ∈ L := by
 rw [List.getD_eq_getElem?_getD, List.getElem?_eq_getElem h]; exact List.getElem_mem h
theorem dirV_mem {n : Int} {ops : List OpD} {r : List (List Int)} (h : r ∈ dirV n ops) : ∃ (m : Nat) (p q : List Int), n = (m : Int) ∧ 0 < m ∧ m ≤ 8 ∧ ops.length ≤ 4 ∧ opsIn m ops ∧ algOk (m : Int) ops = true ∧ p ∈ allL m ops ∧ q ∈ allL m ops ∧ dirB m p q = true ∧ r = [p, q] := by
 unfold dirV at h
 cases hf : fcB n ops with
 | false => rw [hf, if_neg Bool.false_ne_true] at h; cases h
 | true =>
  obtain ⟨m, rfl, hm0, hm8, h4, ho, hg, hV, -⟩ := fcB_facts hf
  rw [hf, if_pos rfl, hV, Int.toNat_natCast] at h
  unfold dirL at h
  obtain ⟨p, hp, h⟩ := List.mem_flatMap.1 h
  unfold dirI at h
  obtain ⟨q, hq, rfl⟩ := List.mem_map.1 h
  obtain ⟨hq, hd⟩ := List.mem_filter.1 hq
  exact ⟨m, p, q, rfl, hm0, hm8, h4, ho, hg, hp, hq, hd, rfl⟩
theorem dirV_len {n : Int} {ops : List OpD} : (dirV n ops).length ≤ 4000 := by
 unfold dirV
 cases hf : fcB n ops with
 | false => rw [if_neg Bool.false_ne_true]; exact Nat.zero_le _
 | true =>
  obtain ⟨m, rfl, -, -, -, -, -, hV, h60⟩ := fcB_facts hf
  rw [if_pos rfl, hV, Int.toNat_natCast]
  have h := dirL_len (n := m) (V := allL m ops) (W := allL m ops) (allL m ops).length (Nat.le_refl _)
  rw [List.take_length] at h
  exact Nat.le_trans h (Nat.le_trans (Nat.mul_le_mul h60 h60) (by decide))
theorem cof_facts {n : Int} {ops : List OpD} {p : List Int} {q : List Int} (h : q ∈ cofV n ops p) : q.length ≤ 8 ∧ cofB n ops q = true ∧ p ∈ cofV n ops q ∧ (cofV n ops q).length ≤ 60 ∧ ∀ r ∈ cofV n ops q, r.length ≤ 8 := by
 unfold cofV at h
 cases hb : cofB n ops p with
 | false => rw [hb, if_neg Bool.false_ne_true] at h; cases h
 | true =>
  rw [hb, if_pos rfl] at h
  have hb2 := hb
  unfold cofB at hb2
  rw [Bool.and_eq_true] at hb2
  obtain ⟨hf, hc⟩ := hb2
  obtain ⟨m, rfl, hm0, hm8, h4, ho, hg, hV, h60⟩ := fcB_facts hf
  rw [Int.toNat_natCast] at hc h
  rw [hV] at h
  unfold cofL at h
  obtain ⟨hq, hcm⟩ := List.mem_filter.1 h
  have hpm := allL_mem.2 ((cgB_iff hm0 ho).1 hc)
  have hqc := (cgB_iff hm0 ho).2 (allL_mem.1 hq)
  have hqb : cofB (m : Int) ops q = true := by unfold cofB; rw [hf, Int.toNat_natCast, hqc]; rfl
  have hlen : ∀ r ∈ allL m ops, r.length ≤ 8 := fun r hr => by rw [(allL_mem.1 hr).1.len]; exact hm8
  have hV2 : cofV (m : Int) ops q = (allL m ops).filter (cmpP m q) := by unfold cofV; rw [hqb, if_pos rfl, hV, Int.toNat_natCast]; rfl
  rw [hV2]
  refine ⟨hlen q hq, hqb, List.mem_filter.2 ⟨hpm, ?_⟩, Nat.le_trans (List.length_filter_le ..) h60, fun r hr => hlen r (List.mem_filter.1 hr).1⟩
  rw [cmpP_symm (allL_mem.1 hq).1 (allL_mem.1 hpm).1]; exact hcm
theorem cofV_sz {n : Int} {ops : List OpD} {p : List Int} : (cofV n ops p).length ≤ 60 ∧ ∀ r ∈ cofV n ops p, r.length ≤ 8 := by
 unfold cofV
 cases hb : cofB n ops p with
 | false => rw [if_neg Bool.false_ne_true]; exact ⟨Nat.zero_le _, fun r hr => by cases hr⟩
 | true =>
  unfold cofB at hb
  rw [Bool.and_eq_true] at hb
  obtain ⟨m, rfl, hm0, hm8, h4, ho, hg, hV, h60⟩ := fcB_facts hb.1
  rw [if_pos rfl, hV, Int.toNat_natCast]
  unfold cofL
  exact ⟨Nat.le_trans (List.length_filter_le ..) h60, fun r hr => by rw [(allL_mem.1 (List.mem_filter.1 hr).1).1.len]; exact hm8⟩
theorem dp_t23 (l : List Int) (hB : bytesOk l) :
 Goal Tryz.prog (tailAt 23 (bodyC Tryz.f7)) (KRets [2] [B true]) ⟨zZ (List.replicate 170 .any) [(0, bytesP l)], []⟩ := by
 conv => arg 2; whnf
 simp only [List.replicate_succ, List.replicate_zero]
 refine wH ?_
 obtain ⟨n, ops, p, hs, hp, d1⟩ := drawCO_c hB
 have a1 := icof_c n ops p hs (by omega)
 have a2 := scof_c n ops p hs (by omega)
 have hz := @cofV_sz n ops p
 have hall := fun (q : List Int) (hq : q ∈ cofV n ops p) => cof_facts hq
 have v1 := vtable53_c (cofV n ops p) (by omega) (fun r hr => by have := hz.2 r hr; omega)
 generalize cofB n ops p = cb at *
 generalize cofV n ops p = W at *
 have hz1 := hz.1
 repeat' (first
| refine g_settle 0 rfl (by dsimp only [bitvec_to_nat, Nat.reduceAdd, Nat.reduceMul, Nat.reduceBEq, reduceCtorEq]) ?_
| refine wO ?_
| (refine o_go rfl ?_; (first
| refine p_p (zG rfl rfl aD (d1)) ?_
| refine p_p (zG rfl rfl aD (a1)) ?_
| refine p_p (zG rfl rfl aD (a2)) ?_
| refine p_p (zG rfl rfl aD (v1)) ?_
| refine p_p (ps_neqBY rfl rfl rfl (by rfl)) ?_
| refine wS ?_
| refine p_p (ps_load_agg rfl rfl aK) ?_
| refine p_e rfl (zO rfl rfl rfl rfl aK rfl rfl rfl) ?_
| refine p_e rfl (e_alloc rfl) ?_); refine ⟨_, aA, ?_⟩)
| (refine o_s rfl ?_; refine ⟨_, aA, ?_⟩)
| (refine o_splitN rfl rfl rfl (fun hc => ?_) (fun hc => ?_) <;> dsimp only [List.set_cons_zero, List.set_cons_succ])
| refine kr1 ?_
| refine krB rfl ?_
| refine wE ?_)
 all_goals try (exfalso; first | omega | (simp at hc; done))
 refine g_loopT (α := Nat) (fun i => [(24, I (i : Int))]) (fun _ => [.gone]) (fun i => i ≤ W.length) (fun i => W.length - i) 0 aH (Nat.zero_le _) ⟨rfl, trivial⟩ rfl ?_
 rintro i hi
 refine wH ?_
 by_cases hil : i < W.length
 · have ri := rows_at hil
   obtain ⟨f1, f2, f3, f4, f5⟩ := hall _ (rows_mem hil)
   have b1 := icof_c n ops (W.getD i []) hs (by omega)
   have b2 := vin_c (cofV n ops (W.getD i [])) p (by omega) (fun r hr => by have := f5 r hr; omega) (by omega)
   rw [f2] at b1
   rw [decide_eq_true f3] at b2
   generalize cofV n ops (W.getD i []) = U at *
   generalize W.getD i [] = q at *
   repeat' (first
| refine wO ?_
| refine zP zk zk ?_
| (refine o_go rfl ?_; (first
| refine p_p (zN rfl rfl rfl zz ri ze) ?_
| refine p_p (zG rfl rfl aD (b1)) ?_
| refine p_p (zG rfl rfl aD (b2)) ?_
| refine wS ?_
| refine p_p (ps_load_agg rfl rfl aK) ?_); refine ⟨_, aA, ?_⟩)
| (refine zK rfl ?_ ?_ <;> intro hc <;> try omega)
| refine wE ?_)
   all_goals try (exfalso; omega)
   exact zT (i + 1) (by omega) (by omega) aI ⟨rfl, trivial⟩ (hpLe_refl _)
 · repeat' (first
| refine wO ?_
| (refine o_go rfl ?_; (first
| refine wS ?_); refine ⟨_, aA, ?_⟩)
| (refine zK rfl ?_ ?_ <;> intro hc <;> try omega)
| refine kr1 ?_
| refine krB rfl ?_
| refine wE ?_)
   all_goals first | rfl | (exfalso; omega)
theorem dp_t13 (l : List Int) (hB : bytesOk l) (n : Int) (ops : List OpD) (hs : szOk ops) :
 Goal Tryz.prog (tailAt 13 (bodyC Tryz.f7)) (KRets [2] [B true]) ⟨zZ (List.replicate 170 .any) [(0, bytesP l), (3, .ptr [I n, opsP ops]), (4, issP (dirV n ops))], []⟩ := by
 have hpart := dp_t23 l hB
 conv => arg 2; whnf
 simp only [List.replicate_succ, List.replicate_zero]
 refine wH ?_
 have hlen := @dirV_len n ops
 have hall := fun (r : List (List Int)) (hr : r ∈ dirV n ops) => dirV_mem hr
 generalize dirV n ops = L at *
 by_cases h0 : 0 < L.length
 · obtain ⟨x, x0, x1, hx⟩ := vat_c hB 3 (by omega)
   obtain ⟨y, hy⟩ : ∃ y : Nat, x = (y : Int) := ⟨x.toNat, by omega⟩
   subst hy
   have hrem : (y : Int) % (L.length : Int) = ((y % L.length : Nat) : Int) := by rw [Int.natCast_emod]
   have hk := Nat.mod_lt y h0
   generalize y % L.length = k at *
   have ri := rows3_at hk
   obtain ⟨m, p, q, rfl, hm0, hm8, h4, ho, hg, hp, hq, hd, hr⟩ := hall _ (rows3_mem hk)
   rw [hr] at ri
   obtain ⟨P, Q, W, a, b, p1, p2, q1, q2, sP, sQ, sW, w1, w2, w3, hk1, hiso⟩ := dir_facts hm0 hm8 h4 hg ho hp hq hd
   have c1 := iqa_c (m : Int) ops p hs (by rw [(allL_mem.1 hp).1.len]; omega)
   have c2 := iqa_c (m : Int) ops q hs (by rw [(allL_mem.1 hq).1.len]; omega)
   rw [p1, p2, cgB_tk hm0 hg ho hp] at c1
   rw [q1, q2, cgB_tk hm0 hg ho hq] at c2
   have c3 := ipo_c (a : Int) (b : Int) P Q sP sQ
   rw [w1, w2, w3] at c3
   have c4 := iari_c (m : Int) (m : Int) ops W hs sW
   rw [hk1, decide_eq_true rfl, Int.toNat_natCast, Bool.true_and, Bool.true_and, Bool.true_and, Bool.not_true, Bool.false_or] at c4
   have i0 : ([p, q].map ints)[((0 : Nat) : Int).toNat]? = some (ints p) := rfl
   have i1 : ([p, q].map ints)[((1 : Nat) : Int).toNat]? = some (ints q) := rfl
   clear hall hr p1 p2 q1 q2 w1 w2 w3 hk1
   generalize isoR m m ops W = ir at *
   generalize isoK m m ops W = ik at *
   repeat' ((fail_if_success (refine at_reg1 15 ?_)); (first
| refine wO ?_
| (refine o_go rfl ?_; (first
| refine p_p (zG rfl rfl aD (hx)) ?_
| refine p_p (ps_remV rfl rfl rfl hrem zz zz) ?_
| refine p_p (zN rfl rfl rfl zz ri ze) ?_
| refine wS ?_); refine ⟨_, aA, ?_⟩)
| (refine zK rfl ?_ ?_ <;> intro hc <;> try omega)))
   all_goals try (exfalso; omega)
   refine at_reg1 15 ?_
   refine g_seq ?_
   refine g_region_drawZ [(0, some [0]), (1, some [0]), (2, some [0]), (3, some [0]), (4, some [0]), (5, some [0]), (6, some [0]), (7, some [0]), (8, none), (9, none), (10, none)] [(8, 0), (9, 0)] (fun _ => True) (by kernel_rfl) rfl (by kernel_rfl) ?_
   repeat' (first
| refine z_nil ?_
| ((first
| refine zV rfl rfl (fun hp hH => zN rfl rfl rfl zz i0 ze) aL aC zd aB ?_
| refine zV rfl rfl (fun hp hH => zG rfl rfl aD (c1)) aL aN zd aB ?_
| refine zV rfl rfl (fun _ _ => zD rfl) aL aC zd aB ?_
| refine zV rfl rfl (fun _ _ => zF rfl rfl) aL aC zd aB ?_
| refine zV rfl rfl (fun _ _ => ps_load_agg rfl rfl aK) aL aC zd aB ?_
| refine zV rfl rfl (fun _ _ => ps_extract rfl rfl rfl) aL aC zd aB ?_
| refine z_eff rfl rfl aF (j_allocV rfl) aG ?_
| refine z_eff rfl rfl aF (j_store_boxA rfl rfl rfl rfl aK rfl rfl rfl) aG ?_
| refine z_eff rfl rfl aF (j_pure (zA rfl)) aG ?_); refine ⟨_, aS, ?_⟩))
   refine at_reg1 16 ?_
   refine g_seq ?_
   refine g_region_drawZ [(0, some [1]), (1, some [1]), (2, some [1]), (3, some [1]), (4, some [1]), (5, some [1]), (6, some [1]), (7, some [1]), (8, none), (9, none), (10, none)] [(8, 1), (9, 1)] (fun _ => True) (by kernel_rfl) rfl (by kernel_rfl) ?_
   repeat' (first
| refine z_nil ?_
| ((first
| refine zV rfl rfl (fun hp hH => zN rfl rfl rfl zz i1 ze) aL aC zd aB ?_
| refine zV rfl rfl (fun hp hH => zG rfl rfl aD (c2)) aL aN zd aB ?_
| refine zV rfl rfl (fun _ _ => zD rfl) aL aC zd aB ?_
| refine zV rfl rfl (fun _ _ => zF rfl rfl) aL aC zd aB ?_
| refine zV rfl rfl (fun _ _ => ps_load_agg rfl rfl aK) aL aC zd aB ?_
| refine zV rfl rfl (fun _ _ => ps_extract rfl rfl rfl) aL aC zd aB ?_
| refine z_eff rfl rfl aF (j_allocV rfl) aG ?_
| refine z_eff rfl rfl aF (j_store_boxA rfl rfl rfl rfl aK rfl rfl rfl) aG ?_
| refine z_eff rfl rfl aF (j_pure (zA rfl)) aG ?_); refine ⟨_, aS, ?_⟩))
   cases ik with
   | false =>
    repeat' ((fail_if_success (refine at_reg1 23 ?_)); (first
| refine g_settle 0 rfl (by dsimp only [bitvec_to_nat, Nat.reduceAdd, Nat.reduceMul, Nat.reduceBEq, reduceCtorEq]) ?_
| refine g_settle 1 rfl (by dsimp only [bitvec_to_nat, Nat.reduceAdd, Nat.reduceMul, Nat.reduceBEq, reduceCtorEq]) ?_
| refine g_settle 2 rfl (by dsimp only [bitvec_to_nat, Nat.reduceAdd, Nat.reduceMul, Nat.reduceBEq, reduceCtorEq]) ?_
| refine wO ?_
| (refine o_go rfl ?_; (first
| refine p_p (zG rfl rfl aD (c3)) ?_
| refine p_p (zG rfl rfl aD (c4)) ?_
| refine wS ?_
| refine p_p (ps_load_agg rfl rfl aK) ?_
| refine p_e rfl (zO rfl rfl rfl rfl aK rfl rfl rfl) ?_
| refine p_e rfl (e_alloc rfl) ?_); refine ⟨_, aA, ?_⟩)
| (refine o_s rfl ?_; refine ⟨_, aA, ?_⟩)
| refine zR ?_))
    all_goals try (exfalso; omega)
    refine at_reg1 23 ?_
    exact g_tail rfl ⟨aI, zM _⟩ hpart
   | true =>
    have hir := hiso rfl
    subst hir
    repeat' ((fail_if_success (refine at_reg1 23 ?_)); (first
| refine g_settle 0 rfl (by dsimp only [bitvec_to_nat, Nat.reduceAdd, Nat.reduceMul, Nat.reduceBEq, reduceCtorEq]) ?_
| refine g_settle 1 rfl (by dsimp only [bitvec_to_nat, Nat.reduceAdd, Nat.reduceMul, Nat.reduceBEq, reduceCtorEq]) ?_
| refine g_settle 2 rfl (by dsimp only [bitvec_to_nat, Nat.reduceAdd, Nat.reduceMul, Nat.reduceBEq, reduceCtorEq]) ?_
| refine wO ?_
| (refine o_go rfl ?_; (first
| refine p_p (zG rfl rfl aD (c3)) ?_
| refine p_p (zG rfl rfl aD (c4)) ?_
| refine wS ?_
| refine p_p (ps_load_agg rfl rfl aK) ?_
| refine p_e rfl (zO rfl rfl rfl rfl aK rfl rfl rfl) ?_
| refine p_e rfl (e_alloc rfl) ?_); refine ⟨_, aA, ?_⟩)
| refine zR ?_))
    all_goals try (exfalso; omega)
    refine at_reg1 23 ?_
    exact g_tail rfl ⟨aI, zM _⟩ hpart
 · repeat' ((fail_if_success (refine at_reg1 23 ?_)); (first
| refine wO ?_
| (refine o_go rfl ?_; (first
| refine wS ?_); refine ⟨_, aA, ?_⟩)
| (refine zK rfl ?_ ?_ <;> intro hc <;> try omega)
| refine zR ?_))
   all_goals try (exfalso; omega)
   refine at_reg1 23 ?_
   exact g_tail rfl ⟨aI, zM _⟩ hpart
theorem law_dp (l : List Int) (hl : l.length ≤ maxLen) (hby : ∀ i, i < l.length → 0 ≤ l.getD i 0 ∧ l.getD i 0 ≤ 255) : PCalls Tryz.prog 7 [bytesP l] (B true) := by
 refine pcalls1 Tryz.func7 rfl Tryz.ntmps7 rfl ?_
 refine wF ?_
 have hv := vbig53_c l (Nat.le_trans hl (by decide))
 by_cases hbig : 65536 < (l.length : Int)
 · rw [decide_eq_true hbig] at hv
   repeat' (first
| refine wO ?_
| (refine o_go rfl ?_; (first
| refine p_p (zG rfl rfl aD (hv)) ?_
| refine wS ?_); refine ⟨_, aA, ?_⟩)
| refine kr1 ?_
| refine krB rfl ?_
| refine wE ?_)
   all_goals rfl
 rw [decide_eq_false hbig] at hv
 have hB : bytesOk l := ⟨by omega, hby⟩
 obtain ⟨n, ops, hs, d1⟩ := drawDP_c hB
 have hpart := dp_t13 l hB n ops hs
 have a1 := idir_c n ops hs
 have a2 := sdir_c n ops hs
 have hlen := @dirV_len n ops
 have hall := fun (r : List (List Int)) (hr : r ∈ dirV n ops) => dirV_mem hr
 generalize dirV n ops = L at *
 generalize fcB n ops = fb at *
 repeat' (first
| refine g_settle 0 rfl (by dsimp only [bitvec_to_nat, Nat.reduceAdd, Nat.reduceMul, Nat.reduceBEq, reduceCtorEq]) ?_
| refine wO ?_
| (refine o_go rfl ?_; (first
| refine p_p (zG rfl rfl aD (hv)) ?_
| refine p_p (zG rfl rfl aD (d1)) ?_
| refine p_p (zG rfl rfl aD (a1)) ?_
| refine p_p (zG rfl rfl aD (a2)) ?_
| refine p_p (ps_neqBY rfl rfl rfl (by rfl)) ?_
| refine wS ?_
| refine p_p (ps_load_agg rfl rfl aK) ?_
| refine p_e rfl (zO rfl rfl rfl rfl aK rfl rfl rfl) ?_
| refine p_e rfl (e_alloc rfl) ?_); refine ⟨_, aA, ?_⟩)
| (refine o_s rfl ?_; refine ⟨_, aA, ?_⟩)
| (refine o_splitN rfl rfl rfl (fun hc => ?_) (fun hc => ?_) <;> dsimp only [List.set_cons_zero, List.set_cons_succ])
| (refine g_condN rfl ?_ ?_ <;> intro hc <;> try omega)
| refine kr1 ?_
| refine krB rfl ?_
| refine wE ?_)
 all_goals try (exfalso; first | omega | (simp at hc; done))
 refine g_loopT (α := Nat) (fun i => [(8, I (i : Int))]) (fun _ => [.gone]) (fun i => i ≤ L.length) (fun i => L.length - i) 0 aH (Nat.zero_le _) ⟨rfl, trivial⟩ rfl ?_
 rintro i hi
 refine wH ?_
 by_cases hil : i < L.length
 · have ri := rows3_at hil
   obtain ⟨m, p, q, rfl, hm0, hm8, h4, ho, hg, hp, hq, hd, hr⟩ := hall _ (rows3_mem hil)
   rw [hr] at ri
   have v1 := vtable53_c [p, q] (by show 2 ≤ 1048576; omega) (fun r hr => by
    simp only [List.mem_cons, List.not_mem_nil, or_false] at hr
    rcases hr with rfl | rfl
    · rw [(allL_mem.1 hp).1.len]; omega
    · rw [(allL_mem.1 hq).1.len]; omega)
   repeat' (first
| refine wO ?_
| refine zP zk zk ?_
| (refine o_go rfl ?_; (first
| refine p_p (zN rfl rfl rfl zz ri ze) ?_
| refine p_p (zG rfl rfl aD (v1)) ?_
| refine wS ?_); refine ⟨_, aA, ?_⟩)
| (refine zK rfl ?_ ?_ <;> intro hc <;> try omega)
| refine wE ?_)
   all_goals try (exfalso; omega)
   exact zT (i + 1) (by omega) (by omega) aI ⟨rfl, trivial⟩ (hpLe_refl _)
 · repeat' ((fail_if_success (refine at_reg 13 ?_)); (first
| refine wO ?_
| (refine o_go rfl ?_; (first
| refine wS ?_); refine ⟨_, aA, ?_⟩)
| (refine zK rfl ?_ ?_ <;> intro hc <;> try omega)
| refine g_exit ?_))
   all_goals try (exfalso; omega)
   refine at_reg 13 ?_
   exact g_tail rfl ⟨aI, zM _⟩ hpart
open Go.ChangeShapes Go.WideShapes Go.ChangeAt Go.RowKit
theorem ownKn : ownKnob Tryz.prog.godebug = none := by kernel_rfl
theorem laidOut : laidOutB Tryz.prog = true := by kernel_rfl
theorem dpl (os : Os) (started : os.Started) (H : Type) (enc : TypeId × Value → H) :
 ReturnsInHanded {} Tryz.checked os 7 .any (Rows.fnDirectPairsSpec.pre6 enc Tryz.prog Tryz.f7 Rows.fnDirectPairsRow.domain false) (Rows.fnDirectPairsSpec.post enc Tryz.prog Tryz.f7 false true false false) := by
 refine returnsInHanded_of_change (C := Tryz.checked) ownKn started (by kernel_rfl) Tryz.func7
  (ChangeSpec.witness6 (enc := enc) (C := Tryz.checked) false ⟨#[], #[.slice none 0 0], []⟩ 8 (by kernel_rfl) (by kernel_rfl) (by kernel_rfl) (by kernel_rfl)) ?_
 intro W base args ds gs before hval0 hW hcnd _
 have hval : ∀ (j : Nat) t v, Tryz.f7.params[j]? = some t → args[j]? = some v → Value.okWide Tryz.prog W .any base t v := hval0
 have hW' := hW
 obtain ⟨p, q, hA0, hV, rfl, hfz, hnd⟩ := hW
 have hA : DataW.TrodAll enc Tryz.prog W 0 (fun _ => true) true Tryz.f7.params.toList args.toList ds p := hA0
 rw [Tryz.params7] at hA hval
 obtain ⟨v0, d0, rfl, rfl, h0⟩ := trodAll_one hA
 obtain ⟨rfl, rfl⟩ := trodVars_none hV
 obtain ⟨l, r0, l0, w0⟩ := ar_bytes Tryz.underlying22 Tryz.underlying5 (by kernel_rfl) ⟨_, _, hval 0 22 v0 rfl rfl⟩ h0
 have hvr : VRl (gW W) [v0] [bytesP l] := ⟨rfl, fun i q hq => by
  rcases i with _ | i
  · simp at hq; subst hq; exact r0
  · simp at hq⟩
 refine ((law_dp l l0 w0).use (vs := [v0]) (gW_agree W) hvr).mono fun e W' ⟨he, hb⟩ => ?_
 subst he
 exact ⟨_, rfl, law_post laidOut rfl (by kernel_rfl) (tb := 4) rfl (by kernel_rfl) rfl hW' hb⟩
theorem dpA : Tryz.prog.unfollowed 7 = Rows.fnDirectPairsRow.unfollowed := by kernel_rfl
theorem dpB : Tryz.prog.recurses 7 = Rows.fnDirectPairsRow.recurses := by kernel_rfl
theorem dpC : Tryz.prog.varsNamed 7 = Rows.fnDirectPairsRow.named := by kernel_rfl
theorem dpD : Tryz.prog.inPlace 7 = Rows.fnDirectPairsRow.inPlace := by kernel_rfl
theorem dpF : mapsRowed Tryz.prog = true := by kernel_rfl
theorem dp_jf : joinedFacts Tryz.prog 7 Tryz.f7 Rows.fnDirectPairsSpec Rows.fnDirectPairsRow = true := by
 unfold joinedFacts
 rw [dpA, dpB, dpC, dpD, dpF, laidOut]
 kernel_rfl
theorem dp_holds : Rows.FnDirectPairsSaid :=
 OpenClaim.holds_of_wide 7 Tryz.f7 rfl rfl rfl rfl rfl rfl rfl ⟨rfl, rfl, rfl, rfl, rfl⟩ rfl rfl rfl rfl rfl (by kernel_rfl) Tryz.func7 dp_jf
  (of_decide_eq_true (by kernel_rfl)) (by unfold Func.isWrapper; first | (rw [if_pos (by decide +kernel)]; kernel_rfl) | (rw [if_neg (by decide +kernel)]; exact ⟨rfl, rfl⟩))
  (fun os started H enc _ => dpl os started H enc)
end Go.Proofs.YtbohjibbgppfaaaGreat
