/- Walks: congruences that permute, triples, the program's side. -/
import Derived.Test.YtepjlgilopfnpaaGreatJYa
import Derived.Test.YtepjlgilopfnpaaGreatJKn
import Derived.Test.YtepjlgilopfnpaaGreatJSt
import Derived.Test.YtepjlgilopfnpaaGreatJKd
import Derived.Test.YtepjlgilopfnpaaGreatJKf
import Derived.Test.YtepjlgilopfnpaaGreatJKo
import Derived.Test.YtepjlgilopfnpaaGreatJSq
namespace Go.Proofs.YtepjlgilopfnpaaGreat
open Go Go.Pv Go.Proofs
set_option maxHeartbeats 32000000
set_option maxRecDepth 100000
def prmX (p q : List Int) (n x : Nat) : Bool := (List.range n).all fun z => !prdK p q x z n || prdK q p x z n
def prmB (p q : List Int) (n : Nat) : Bool := (List.range n).all (prmX p q n)
theorem prdK_iff {n : Nat} {p q : List Int} (hp : Pt n p) (hq : Pt n q) {x z : Nat} (hx : x < n) (hz : z < n) : prdK p q x z n = true ↔ Prd n p q x z := by
 unfold prdK Prd
 rw [List.any_eq_true]
 constructor
 · rintro ⟨y, hy, h⟩
   rw [Bool.and_eq_true, decide_eq_true_eq, decide_eq_true_eq] at h
   have hy := List.mem_range.1 hy
   rw [hp.val hx, hp.val hy, hq.val hy, hq.val hz] at h
   exact ⟨y, hy, Int.ofNat.inj h.1, Int.ofNat.inj h.2⟩
 · rintro ⟨y, hy, h1, h2⟩
   refine ⟨y, List.mem_range.2 hy, ?_⟩
   rw [hp.val hx, hp.val hy, hq.val hy, hq.val hz, h1, h2]; simp
theorem prmB_iff {n : Nat} {p q : List Int} (hp : Pt n p) (hq : Pt n q) : prmB p q n = true ↔ Prm n p q := by
 unfold prmB prmX Prm
 constructor
 · intro h x z hx hz hpq
   have h1 := List.all_eq_true.1 (List.all_eq_true.1 h x (List.mem_range.2 hx)) z (List.mem_range.2 hz)
   rw [(prdK_iff hp hq hx hz).2 hpq] at h1
   exact (prdK_iff hq hp hx hz).1 (by simpa using h1)
 · intro h
   refine List.all_eq_true.2 fun x hx => List.all_eq_true.2 fun z hz => ?_
   have hx := List.mem_range.1 hx
   have hz := List.mem_range.1 hz
   cases hk : prdK p q x z n with
   | false => rfl
   | true => rw [(prdK_iff hq hp hx hz).2 (h x z hx hz ((prdK_iff hp hq hx hz).1 hk))]; rfl
theorem prdR_len (p q : List Int) (n x : Nat) : (prdR p q n x).length = n := by simp [prdR]
theorem prdT_at (p q : List Int) {n x : Nat} (h : x < n) : (((List.range n).map (prdR p q n)).map bools)[((x : Nat) : Int).toNat]? = some (bools (prdR p q n x)) := by
 rw [Int.toNat_natCast, List.getElem?_map, List.getElem?_map, List.getElem?_range h]; rfl
theorem prdR_at (p q : List Int) {n x z : Nat} (h : z < n) : ((prdR p q n x).map B)[((z : Nat) : Int).toNat]? = some (B (prdK p q x z n)) := by
 rw [Int.toNat_natCast, prdR, List.getElem?_map, List.getElem?_map, List.getElem?_range h]; rfl
theorem iunp_c (n : Nat) (p q : List Int) (hn : n ≤ 1000) (hp : p.length = n) (hq : q.length = n) : PCalls Tryz.prog 123 [ints p, ints q] (.tup [.any, B (!prmB p q n)]) := by
 refine pcalls2 Tryz.func123 rfl Tryz.ntmps123 rfl ?_
 refine wF ?_
 have h1 := iptab_c n p q hn hp hq
 have h2 := iptab_c n q p hn hq hp
 have hTl : ((List.range n).map (prdR p q n)).length = n := by simp
 have hUl : ((List.range n).map (prdR q p n)).length = n := by simp
 have t1 := fun x (h : x < n) => prdT_at p q h
 have t2 := fun x (h : x < n) => prdT_at q p h
 generalize (List.range n).map (prdR p q n) = T at *
 generalize (List.range n).map (prdR q p n) = U at *
 repeat' (first
| refine wO ?_
| (refine o_go rfl ?_; (first
| refine p_p (zG rfl rfl aD (h1)) ?_
| refine p_p (zG rfl rfl aD (h2)) ?_
| refine wS ?_); refine ⟨_, aB, ?_⟩))
 refine g_loopT (α := Nat) (fun x => [(20, I (x : Int))]) (fun _ => []) (fun x => x ≤ n ∧ ∀ y, y < x → prmX p q n y = true) (fun x => n - x) 0 aH ⟨Nat.zero_le _, fun j hj => absurd hj (Nat.not_lt_zero _)⟩ ⟨rfl, trivial⟩ rfl ?_
 rintro x ⟨hx, hno⟩
 refine wH ?_
 by_cases hxn : x < n
 · have r1 := t1 x hxn
   have r2 := t2 x hxn
   have hRl := prdR_len p q n x
   have hSl := prdR_len q p n x
   have c1 := fun z (h : z < n) => prdR_at p q (x := x) h
   have c2 := fun z (h : z < n) => prdR_at q p (x := x) h
   generalize prdR p q n x = R at *
   generalize prdR q p n x = S at *
   repeat' (first
| refine wO ?_
| (refine o_go rfl ?_; (first
| refine p_p (zN rfl rfl rfl zz r1 ze) ?_
| refine wS ?_); refine ⟨_, aB, ?_⟩)
| (refine zK rfl ?_ ?_ <;> intro hc <;> try omega)
| refine wE ?_)
   all_goals try (exfalso; omega)
   refine g_loopT (α := Nat) (fun z => [(27, I (z : Int))]) (fun _ => []) (fun z => z ≤ n ∧ ∀ y, y < z → (!prdK p q x y n || prdK q p x y n) = true) (fun z => n - z) 0 aH ⟨Nat.zero_le _, fun j hj => absurd hj (Nat.not_lt_zero _)⟩ ⟨rfl, trivial⟩ rfl ?_
   rintro z ⟨hz, hnz⟩
   refine wH ?_
   by_cases hzn : z < n
   · have d1 := c1 z hzn
     have d2 := c2 z hzn
     cases k1 : prdK p q x z n with
     | false =>
      rw [k1] at d1
      repeat' (first
| refine wO ?_
| (refine o_go rfl ?_; (first
| refine p_p (zN rfl rfl rfl zz d1 ze) ?_
| refine wS ?_); refine ⟨_, aB, ?_⟩)
| (refine o_s rfl ?_; refine ⟨_, aB, ?_⟩)
| (refine zK rfl ?_ ?_ <;> intro hc <;> try omega)
| refine wE ?_)
      all_goals try (exfalso; omega)
      refine zT (z + 1) ⟨by omega, fun y hy => ?_⟩ (by omega) aI ⟨rfl, trivial⟩ (zM _)
      rcases Nat.lt_or_ge y z with h | h
      · exact hnz y h
      · rw [show y = z by omega, k1]; rfl
     | true =>
      rw [k1] at d1
      cases k2 : prdK q p x z n with
      | true =>
       rw [k2] at d2
       repeat' (first
| refine wO ?_
| (refine o_go rfl ?_; (first
| refine p_p (zN rfl rfl rfl zz d1 ze) ?_
| refine p_p (zN rfl rfl rfl zz r2 ze) ?_
| refine p_p (zN rfl rfl rfl zz d2 ze) ?_
| refine wS ?_); refine ⟨_, aB, ?_⟩)
| (refine zK rfl ?_ ?_ <;> intro hc <;> try omega)
| refine wE ?_)
       all_goals try (exfalso; omega)
       refine zT (z + 1) ⟨by omega, fun y hy => ?_⟩ (by omega) aI ⟨rfl, trivial⟩ (zM _)
       rcases Nat.lt_or_ge y z with h | h
       · exact hnz y h
       · rw [show y = z by omega, k2, Bool.or_true]
      | false =>
       rw [k2] at d2
       have hv : prmB p q n = false := by
        rw [Bool.eq_false_iff]
        intro h
        have := List.all_eq_true.1 (List.all_eq_true.1 h x (List.mem_range.2 hxn)) z (List.mem_range.2 hzn)
        rw [k1, k2] at this; cases this
       rw [hv]
       repeat' (first
| refine wO ?_
| (refine o_go rfl ?_; (first
| refine p_p (zN rfl rfl rfl zz d1 ze) ?_
| refine p_p (zN rfl rfl rfl zz r2 ze) ?_
| refine p_p (zN rfl rfl rfl zz d2 ze) ?_
| refine wS ?_
| refine p_p (ps_lit2 rfl rfl rfl (by rfl) (by rfl) (by rfl)) ?_); refine ⟨_, aB, ?_⟩)
| (refine zK rfl ?_ ?_ <;> intro hc <;> try omega)
| refine kr2 ?_ ?_
| exact krAny
| refine krB rfl ?_
| refine wE ?_)
       all_goals first | rfl | (exfalso; omega)
   · repeat' (first
| refine wO ?_
| (refine o_go rfl ?_; (first
| refine wS ?_); refine ⟨_, aB, ?_⟩)
| (refine zK rfl ?_ ?_ <;> intro hc <;> try omega)
| refine wE ?_)
     all_goals try (exfalso; omega)
     refine zT (K := fun _ _ => True) (x + 1) ⟨by omega, fun y hy => ?_⟩ (by omega) aI ⟨rfl, trivial⟩ (zM _)
     rcases Nat.lt_or_ge y x with h | h
     · exact hno y h
     · rw [show y = x by omega]
       exact List.all_eq_true.2 fun w hw => hnz w (by have := List.mem_range.1 hw; omega)
 · rw [show prmB p q n = true from List.all_eq_true.2 fun w hw => hno w (by have := List.mem_range.1 hw; omega)]
   repeat' (first
| refine wO ?_
| (refine o_go rfl ?_; (first
| refine wS ?_); refine ⟨_, aB, ?_⟩)
| (refine zK rfl ?_ ?_ <;> intro hc <;> try omega)
| refine kr2 ?_ ?_
| exact krAny
| refine krB rfl ?_
| refine wE ?_)
   all_goals first | rfl | (exfalso; omega)
theorem iprm_c (n : Nat) (p q : List Int) (hn : n ≤ 1000) (hp : p.length = n) (hq : q.length = n) : PCalls Tryz.prog 70 [ints p, ints q] (B (prmB p q n)) := by
 refine pcalls1 Tryz.func70 rfl Tryz.ntmps70 rfl ?_
 refine wF ?_
 have h1 := iunp_c n p q hn hp hq
 cases h : prmB p q n with
 | true =>
  rw [h] at h1
  repeat' (first
| refine wO ?_
| (refine o_go rfl ?_; (first
| refine p_p (zG rfl rfl aD (h1)) ?_
| refine wS ?_); refine ⟨_, aB, ?_⟩)
| refine kr1 ?_
| refine krB rfl ?_
| refine wE ?_)
  all_goals rfl
 | false =>
  rw [h] at h1
  repeat' (first
| refine wO ?_
| (refine o_go rfl ?_; (first
| refine p_p (zG rfl rfl aD (h1)) ?_
| refine wS ?_); refine ⟨_, aB, ?_⟩)
| refine kr1 ?_
| refine krB rfl ?_
| refine wE ?_)
  all_goals rfl
end Go.Proofs.YtepjlgilopfnpaaGreat
/- Plain: the first pair apart, the greatest number of factors, heights, triples. -/
namespace Go.Proofs.YtepjlgilopfnpaaGreat
open Go Go.Pv Go.Proofs

theorem rows_get {V : List (List Int)} {k : Nat} (h : k < V.length) : V.getD k [] = V[k] := by rw [List.getD_eq_getElem?_getD, List.getElem?_eq_getElem h]; rfl
/-! ### The first pair that does not permute -/
/-! ### The greatest number of factors -/
/-! ### Heights -/
/-! ### Triples -/
end Go.Proofs.YtepjlgilopfnpaaGreat
/- Walks: congruences by fineness, covers, the program's side. -/
namespace Go.Proofs.YtepjlgilopfnpaaGreat
open Go Go.Pv Go.Proofs

theorem row_atY {p : List Int} {x : Nat} (h : x < p.length) : (p.map I)[((x : Nat) : Int).toNat]? = some (I (p.getD x 0)) := by rw [Int.toNat_natCast]; exact idx_I h
end Go.Proofs.YtepjlgilopfnpaaGreat
/- Walks: least elements of blocks, natural maps, congruences of valid algebras, both sides. -/
namespace Go.Proofs.YtepjlgilopfnpaaGreat
open Go Go.Pv Go.Proofs
set_option maxHeartbeats 32000000
set_option maxRecDepth 100000

def lsI (p : List Int) (k : Nat) : List Int := (lstN p k).map fun (x : Nat) => (x : Int)
theorem lsI_len (p : List Int) (k : Nat) : (lsI p k).length = (lstN p k).length := List.length_map ..
theorem lsI_succ (p : List Int) (k : Nat) : lsI p (k + 1) = lsI p k ++ if bk p k = k then [(k : Int)] else [] := by
 unfold lsI; rw [lstN_succ, List.map_append]; split <;> rfl
theorem lsI_getD (p : List Int) (n i : Nat) : (lsI p n).getD i 0 = ((lstN p n).getD i 0 : Nat) := by
 unfold lsI
 rw [List.getD_eq_getElem?_getD, List.getElem?_map, List.getD_eq_getElem?_getD]
 cases (lstN p n)[i]? <;> rfl
theorem natL_succ (p : List Int) (i : Nat) : natL (i + 1) p = natL i p ++ [(nmN p i : Int)] := by unfold natL; rw [List.range_succ, List.map_append]; rfl
theorem ileast_c (n : Nat) (p : List Int) (hn : n ≤ 1000) (hp : Pt n p) : PCalls Tryz.prog 113 [ints p] (ints (lsI p n)) := by
 refine pcalls1 Tryz.func113 rfl Tryz.ntmps113 rfl ?_
 refine wF ?_
 have hpl := hp.len
 repeat' (first
| refine wO ?_
| (refine o_go rfl ?_; (first
| refine wS ?_
| refine p_e rfl (e_lit0 rfl zd) ?_); refine ⟨_, aB, ?_⟩))
 refine g_loopF (α := Nat) [6] (fun i => [(3, .hp 0), (9, I (i : Int))]) (fun i => [.arr false 1 3 ((lsI p i).map I)]) (fun i => i ≤ n) (fun i => n - i) 0 aH (Nat.zero_le _) ⟨rfl, rfl, trivial⟩ rfl ?_
 rintro i hi
 refine wH ?_
 have hlt := lstN_le p i
 have hll : ((lsI p i).map I).length = (lstN p i).length := by rw [List.length_map, lsI_len]
 have hsn := lsI_succ p i
 by_cases hil : i < n
 · have hv := hp.val hil
   have i1 := row_atY (p := p) (x := i) (by omega)
   rw [hv] at i1
   by_cases hb : bk p i = i
   · rw [if_pos hb] at hsn
     rw [hb] at i1
     repeat' (first
| refine wO ?_
| (refine o_go rfl ?_; (first
| refine p_p (zN rfl rfl rfl zz i1 ze) ?_
| refine p_e zk (e_append rfl rfl rfl rfl rfl rfl (one_one rfl) rfl (by rw [hll, n_len_c, n_len_n]; omega) (by rw [hll, n_len_c, n_len_n]; omega)) ?_
| refine wS ?_
| refine p_p (ps_lit1 rfl rfl (by rfl) (by rfl)) ?_); refine ⟨_, aB, ?_⟩)
| (refine zK rfl ?_ ?_ <;> intro hc <;> try omega)
| refine wE ?_)
     all_goals try (exfalso; omega)
     exact zT (i + 1) (by omega) (by omega) aI ⟨rfl, rfl, trivial⟩ (zB (by rw [hsn, List.map_append]; rfl) (zM _))
   · rw [if_neg hb, List.append_nil] at hsn
     repeat' (first
| refine wO ?_
| (refine o_go rfl ?_; (first
| refine p_p (zN rfl rfl rfl zz i1 ze) ?_
| refine wS ?_); refine ⟨_, aB, ?_⟩)
| (refine zK rfl ?_ ?_ <;> intro hc <;> try omega)
| refine wE ?_)
     all_goals try (exfalso; omega)
     exact zT (i + 1) (by omega) (by omega) aI ⟨rfl, rfl, trivial⟩ (zB (by rw [hsn]) (zM _))
 · rw [show i = n by omega]
   repeat' (first
| refine wO ?_
| (refine o_go rfl ?_; (first
| refine wS ?_); refine ⟨_, aB, ?_⟩)
| (refine zK rfl ?_ ?_ <;> intro hc <;> try omega)
| refine kr1 ?_
| refine krS rfl ?_
| refine wE ?_)
   all_goals first | rfl | (exfalso; omega)
theorem natK_len (p : List Int) {i n : Nat} (h : i ≤ n) : ((natL i p ++ List.replicate (n - i) 0).map I).length = n := by simp [natL]; omega
theorem natK_set (p : List Int) {i n : Nat} (h : i < n) : ((natL i p ++ List.replicate (n - i) 0).map I).set (i * 1) (I (nmN p i : Int)) = (natL (i + 1) p ++ List.replicate (n - (i + 1)) 0).map I := by
 rw [natL_succ, Nat.mul_one, ← List.map_set, List.set_append_right _ _ (by rw [nat_len]; omega), nat_len, Nat.sub_self, show n - i = (n - (i + 1)) + 1 by omega, List.replicate_succ, List.append_assoc]; rfl
theorem natK_at (p : List Int) {i n x : Nat} (h : x < i) : ((natL i p ++ List.replicate (n - i) 0).map I)[x * 1]? = some (I (nmN p x : Int)) := by
 rw [Nat.mul_one, List.getElem?_map, List.getElem?_append_left (by rw [nat_len]; omega)]
 unfold natL
 rw [List.getElem?_map, List.getElem?_range h]; rfl
theorem nm_self {p : List Int} {i : Nat} (h : bk p i = i) : nmN p i = (lstN p i).length := by unfold nmN; rw [h]
theorem nm_bk {n : Nat} {p : List Int} (hp : Pt n p) {i : Nat} (h : i < n) : nmN p (bk p i) = nmN p i := by unfold nmN; rw [hp.id i h]
theorem inat_R (n : Nat) (p : List Int) (hn : n ≤ 1000) (hp : Pt n p) : RCalls Tryz.prog 75 [ints p] (.arr true 1 3 ((natL n p).map I)) (.hp 0) := by
 refine pcallsR1 Tryz.func75 rfl Tryz.ntmps75 rfl ?_
 refine wF ?_
 have hpl := hp.len
 have hrep : (List.replicate p.length (PV.val (Value.int IntKind.i64 0))).length = p.length := List.length_replicate
 repeat' (first
| refine wO ?_
| (refine o_go rfl ?_; (first
| refine wS ?_
| refine p_e rfl (e_make1 rfl rfl rfl zz zz zz rfl rfl) ?_); refine ⟨_, aB, ?_⟩))
 refine g_loopT (α := Nat) (fun i => [(4, I ((lstN p i).length : Int)), (12, I (i : Int))]) (fun i => [.arr true 1 3 ((natL i p ++ List.replicate (n - i) 0).map I)]) (fun i => i ≤ n) (fun i => n - i) 0 aH (Nat.zero_le _) ⟨rfl, rfl, trivial⟩ (by rw [hpl]; simp [natL]) ?_
 rintro i hi
 refine wH ?_
 have hlt := lstN_le p i
 have hll := natK_len p hi
 have hsn := lstN_succ p i
 by_cases hil : i < n
 · have hv := hp.val hil
   have hst := natK_set p hil
   have i1 := row_atY (p := p) (x := i) (by omega)
   rw [hv] at i1
   by_cases hb : bk p i = i
   · rw [if_pos hb] at hsn
     rw [hb] at i1
     rw [nm_self hb] at hst
     have hl1 : ((lstN p (i + 1)).length : Int) = ((lstN p i).length : Int) + 1 := by rw [hsn, List.length_append]; rfl
     repeat' (first
| refine wO ?_
| (refine o_go rfl ?_; (first
| refine p_p (zN rfl rfl rfl zz i1 ze) ?_
| refine p_e zk (e_store_arr rfl rfl rfl rfl zz rfl rfl) ?_
| refine wS ?_); refine ⟨_, aB, ?_⟩)
| (refine zK rfl ?_ ?_ <;> intro hc <;> try omega)
| refine wE ?_)
     all_goals try (exfalso; omega)
     exact zT (i + 1) (by omega) (by omega) aI ⟨vI hl1.symm, rfl, trivial⟩ (zB (by rw [← hst]) (zM _))
   · have hle := hp.le i hil
     rw [if_neg hb, List.append_nil] at hsn
     have hat := natK_at (n := n) p (x := bk p i) (i := i) (by omega)
     rw [nm_bk hp hil] at hat
     repeat' (first
| refine wO ?_
| (refine o_go rfl ?_; (first
| refine p_p (zN rfl rfl rfl zz i1 ze) ?_
| refine p_p (ps_load_arr rfl rfl rfl hat (by rfl)) ?_
| refine p_e zk (e_store_arr rfl rfl rfl rfl zz rfl rfl) ?_
| refine wS ?_); refine ⟨_, aB, ?_⟩)
| (refine zK rfl ?_ ?_ <;> intro hc <;> try omega)
| refine wE ?_)
     all_goals try (exfalso; omega)
     exact zT (i + 1) (by omega) (by omega) aI ⟨by rw [hsn]; rfl, rfl, trivial⟩ (zB (by rw [← hst]) (zM _))
 · rw [show i = n by omega, Nat.sub_self, List.replicate_zero, List.append_nil]
   repeat' (first
| refine wO ?_
| (refine o_go rfl ?_; (first
| refine wS ?_); refine ⟨_, aB, ?_⟩)
| (refine zK rfl ?_ ?_ <;> intro hc <;> try omega)
| refine krr 0 rfl (HandOut.arr rfl ?_ aS)
| refine wE ?_)
   all_goals first | rfl | (exfalso; omega)
theorem inat_c (n : Nat) (p : List Int) (hn : n ≤ 1000) (hp : Pt n p) : PCalls Tryz.prog 75 [ints p] (ints (natL n p)) := rcalls_P rfl (inat_R n p hn hp)
theorem sleast6_c (n : Nat) (p : List Int) (hn : n ≤ 1000) (hp : Pt n p) : PCalls Tryz.prog 129 [ints p] (ints (lsI p n)) := by
 refine pcalls1 Tryz.func129 rfl Tryz.ntmps129 rfl ?_
 refine wF ?_
 have hpl := hp.len
 repeat' (first
| refine wO ?_
| (refine o_go rfl ?_; (first
| refine wS ?_
| refine p_e rfl (e_lit0 rfl zd) ?_); refine ⟨_, aB, ?_⟩))
 refine g_loopF (α := Nat) [5] (fun i => [(3, .hp 0), (4, I (i : Int))]) (fun i => [.arr false 1 3 ((lsI p i).map I)]) (fun i => i ≤ n) (fun i => n - i) 0 aH (Nat.zero_le _) ⟨rfl, rfl, trivial⟩ rfl ?_
 rintro i hi
 refine wH ?_
 have hlt := lstN_le p i
 have hll : ((lsI p i).map I).length = (lstN p i).length := by rw [List.length_map, lsI_len]
 have hsn := lsI_succ p i
 by_cases hil : i < n
 · have hv := hp.val hil
   have i1 := row_atY (p := p) (x := i) (by omega)
   rw [hv] at i1
   by_cases hb : bk p i = i
   · rw [if_pos hb] at hsn
     rw [hb] at i1
     repeat' (first
| refine wO ?_
| (refine o_go rfl ?_; (first
| refine p_p (zN rfl rfl rfl zz i1 ze) ?_
| refine p_e zk (e_append rfl rfl rfl rfl rfl rfl (one_one rfl) rfl (by rw [hll, n_len_c, n_len_n]; omega) (by rw [hll, n_len_c, n_len_n]; omega)) ?_
| refine wS ?_
| refine p_p (ps_lit1 rfl rfl (by rfl) (by rfl)) ?_); refine ⟨_, aB, ?_⟩)
| (refine zK rfl ?_ ?_ <;> intro hc <;> try omega)
| refine wE ?_)
     all_goals try (exfalso; omega)
     exact zT (i + 1) (by omega) (by omega) aI ⟨rfl, rfl, trivial⟩ (zB (by rw [hsn, List.map_append]; rfl) (zM _))
   · rw [if_neg hb, List.append_nil] at hsn
     repeat' (first
| refine wO ?_
| (refine o_go rfl ?_; (first
| refine p_p (zN rfl rfl rfl zz i1 ze) ?_
| refine wS ?_); refine ⟨_, aB, ?_⟩)
| (refine zK rfl ?_ ?_ <;> intro hc <;> try omega)
| refine wE ?_)
     all_goals try (exfalso; omega)
     exact zT (i + 1) (by omega) (by omega) aI ⟨rfl, rfl, trivial⟩ (zB (by rw [hsn]) (zM _))
 · rw [show i = n by omega]
   repeat' (first
| refine wO ?_
| (refine o_go rfl ?_; (first
| refine wS ?_); refine ⟨_, aB, ?_⟩)
| (refine zK rfl ?_ ?_ <;> intro hc <;> try omega)
| refine kr1 ?_
| refine krS rfl ?_
| refine wE ?_)
   all_goals first | rfl | (exfalso; omega)
theorem natL_at (p : List Int) {i x : Nat} (h : x < i) : ((natL i p).map I)[x * 1]? = some (I (nmN p x : Int)) := by
 have := natK_at (n := i) p h
 rwa [Nat.sub_self, List.replicate_zero, List.append_nil] at this
theorem snat_c (n : Nat) (p : List Int) (hn : n ≤ 1000) (hp : Pt n p) : PCalls Tryz.prog 130 [ints p] (ints (natL n p)) := by
 refine pcalls1 Tryz.func130 rfl Tryz.ntmps130 rfl ?_
 refine wF ?_
 have hpl := hp.len
 repeat' (first
| refine wO ?_
| (refine o_go rfl ?_; (first
| refine p_e rfl (e_lit0T rfl zd) ?_
| refine wS ?_); refine ⟨_, aB, ?_⟩))
 refine g_loopF (α := Nat) [6] (fun i => [(3, .hp 0), (4, I ((lstN p i).length : Int)), (5, I (i : Int))]) (fun i => [.arr true 1 3 ((natL i p).map I)]) (fun i => i ≤ n) (fun i => n - i) 0 aH (Nat.zero_le _) ⟨rfl, rfl, rfl, trivial⟩ rfl ?_
 rintro i hi
 refine wH ?_
 have hlt := lstN_le p i
 have hll : ((natL i p).map I).length = i := by rw [List.length_map, nat_len]
 have hsn := lstN_succ p i
 have hns := natL_succ p i
 by_cases hil : i < n
 · have hv := hp.val hil
   have i1 := row_atY (p := p) (x := i) (by omega)
   rw [hv] at i1
   by_cases hb : bk p i = i
   · rw [if_pos hb] at hsn
     rw [hb] at i1
     rw [nm_self hb] at hns
     have hl1 : ((lstN p (i + 1)).length : Int) = ((lstN p i).length : Int) + 1 := by rw [hsn, List.length_append]; rfl
     repeat' (first
| refine wO ?_
| (refine o_go rfl ?_; (first
| refine p_p (zN rfl rfl rfl zz i1 ze) ?_
| refine p_e zk (e_append rfl rfl rfl rfl rfl rfl (one_one rfl) rfl (by rw [hll, n_len_c, n_len_n]; omega) (by rw [hll, n_len_c, n_len_n]; omega)) ?_
| refine wS ?_
| refine p_p (ps_lit1 rfl rfl (by rfl) (by rfl)) ?_); refine ⟨_, aB, ?_⟩)
| (refine zK rfl ?_ ?_ <;> intro hc <;> try omega)
| refine wE ?_)
     all_goals try (exfalso; omega)
     exact zT (i + 1) (by omega) (by omega) aI ⟨rfl, vI hl1.symm, rfl, trivial⟩ (zB (by rw [hns, List.map_append]; rfl) (zM _))
   · have hle := hp.le i hil
     rw [if_neg hb, List.append_nil] at hsn
     have hat := natL_at p (x := bk p i) (i := i) (by omega)
     rw [nm_bk hp hil] at hat
     repeat' (first
| refine wO ?_
| (refine o_go rfl ?_; (first
| refine p_p (zN rfl rfl rfl zz i1 ze) ?_
| refine p_p (ps_load_arr rfl rfl rfl hat (by rfl)) ?_
| refine p_e zk (e_append rfl rfl rfl rfl rfl rfl (one_one rfl) rfl (by rw [hll, n_len_c, n_len_n]; omega) (by rw [hll, n_len_c, n_len_n]; omega)) ?_
| refine wS ?_
| refine p_p (ps_lit1 rfl rfl (by rfl) (by rfl)) ?_); refine ⟨_, aB, ?_⟩)
| (refine zK rfl ?_ ?_ <;> intro hc <;> try omega)
| refine wE ?_)
     all_goals try (exfalso; omega)
     exact zT (i + 1) (by omega) (by omega) aI ⟨rfl, by rw [hsn]; rfl, rfl, trivial⟩ (zB (by rw [hns, List.map_append]; rfl) (zM _))
 · rw [show i = n by omega]
   repeat' (first
| refine wO ?_
| (refine o_go rfl ?_; (first
| refine wS ?_); refine ⟨_, aB, ?_⟩)
| (refine zK rfl ?_ ?_ <;> intro hc <;> try omega)
| refine kr1 ?_
| refine krS rfl ?_
| refine wE ?_)
   all_goals first | rfl | (exfalso; omega)
def tkB (n : Int) (ops : List OpD) (p : List Int) : Bool := algOk n ops && cgB n.toNat ops p
theorem tkB_facts {n : Int} {ops : List OpD} {p : List Int} (h : tkB n ops p = true) : ∃ m : Nat, n = m ∧ 0 < m ∧ m ≤ 8 ∧ ops.length ≤ 4 ∧ opsIn m ops ∧ algOk (m : Int) ops = true ∧ Pt m p ∧ Cong m ops p := by
 unfold tkB at h
 rw [Bool.and_eq_true] at h
 obtain ⟨hg, hc⟩ := h
 obtain ⟨m, rfl, hm0, hm8, h4, ho⟩ := algOk_facts hg
 rw [Int.toNat_natCast] at hc
 obtain ⟨h1, h2⟩ := (cgB_iff hm0 ho).1 hc
 exact ⟨m, rfl, hm0, hm8, h4, ho, hg, h1, h2⟩
theorem iisct_c (n : Int) (ops : List OpD) (p : List Int) (hs : szOk ops) (hp : p.length ≤ 1048576) : PCalls Tryz.prog 56 [algP n ops, ints p] (B (tkB n ops p)) := by
 refine pcalls1 Tryz.func56 rfl Tryz.ntmps56 rfl ?_
 refine wF ?_
 have h1 := igood_c n ops hs
 unfold tkB
 cases hg : algOk n ops with
 | false =>
  rw [hg] at h1
  repeat' (first
| refine wO ?_
| (refine o_go rfl ?_; (first
| refine p_p (zG rfl rfl aD (h1)) ?_
| refine wS ?_
| refine p_p (ps_load_agg rfl rfl aK) ?_
| refine p_p (ps_box rfl rfl) ?_); refine ⟨_, aB, ?_⟩)
| (refine o_s rfl ?_; refine ⟨_, aB, ?_⟩)
| refine kr1 ?_
| refine krB rfl ?_
| refine wE ?_)
  all_goals rfl
 | true =>
  rw [hg] at h1
  obtain ⟨m, rfl, hm0, hm8, h4, ho⟩ := algOk_facts hg
  have h2 := iisc_c m ops p hm0 hm8 hs.1 ho hp
  rw [Int.toNat_natCast]
  generalize cgB m ops p = b at *
  repeat' (first
| refine wO ?_
| (refine o_go rfl ?_; (first
| refine p_p (zG rfl rfl aD (h1)) ?_
| refine p_p (zG rfl rfl aD (h2)) ?_
| refine wS ?_
| refine p_p (ps_load_agg rfl rfl aK) ?_
| refine p_p (ps_box rfl rfl) ?_); refine ⟨_, aB, ?_⟩)
| refine kr1 ?_
| refine krB rfl ?_
| refine wE ?_)
  all_goals rfl
end Go.Proofs.YtepjlgilopfnpaaGreat
