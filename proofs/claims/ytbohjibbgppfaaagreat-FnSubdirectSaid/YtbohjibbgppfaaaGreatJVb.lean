/- Walks: least elements of blocks, natural maps, congruences of valid algebras, both sides. -/
import Derived.Test.YtbohjibbgppfaaaGreatJAu
import Derived.Test.YtbohjibbgppfaaaGreatJYt
namespace Go.Proofs.YtbohjibbgppfaaaGreat
open Go Go.Pv Go.Proofs
set_option maxHeartbeats 32000000
set_option maxRecDepth 100000
attribute [local bitvec_to_nat] St.put St.setObj St.ev killP killA killP1 killH mapHO renP renA ren1 killG killGA killG1 krowP krowA krow1 lendP lendA lend1 unv pinP pin1 elemsM viewM viewN viewV n_set_z n_set_s n_map_c n_map_n getD_z getD_s n_toNat n_cond_t n_cond_f n_len_c n_len_n n_app_c n_app_n n_take_s n_take_z n_drop_s n_drop_z n_get_z n_get_s view viewA view1 elems Nat.zero_add Nat.add_zero Bool.not_true Bool.not_false Nat.one_ne_zero Nat.mul_one

def lsI (p : List Int) (k : Nat) : List Int := (lstN p k).map fun (x : Nat) => (x : Int)
theorem lsI_len (p : List Int) (k : Nat) : (lsI p k).length = (lstN p k).length := List.length_map ..
theorem lsI_succ (p : List Int) (k : Nat) : lsI p (k + 1) = lsI p k ++ if bk p k = k then [(k : Int)] else [] := by
  unfold lsI; rw [lstN_succ, List.map_append]; split <;> rfl
theorem lsI_getD (p : List Int) (n i : Nat) : (lsI p n).getD i 0 = ((lstN p n).getD i 0 : Nat) := by
  unfold lsI
  rw [List.getD_eq_getElem?_getD, List.getElem?_map, List.getD_eq_getElem?_getD]
  cases (lstN p n)[i]? <;> rfl
theorem natL_succ (p : List Int) (i : Nat) : natL (i + 1) p = natL i p ++ [(nmN p i : Int)] := by unfold natL; rw [List.range_succ, List.map_append]; rfl
theorem ileast_c (n : Nat) (p : List Int) (hn : n ≤ 1000) (hp : Pt n p) : PCalls Tryz.prog 160 [ints p] (ints (lsI p n)) := by
  refine pcalls1 Tryz.func160 rfl Tryz.ntmps160 rfl ?_
  refine wF ?_
  have hpl := hp.len
  repeat' (first
| refine wO ?_
| (refine o_go rfl ?_; (first
| refine wS ?_
| refine p_e rfl (e_lit0 rfl (by decide)) ?_); refine ⟨_, aA, ?_⟩))
  refine g_loopF (α := Nat) [6] (fun i => [(3, .hp 0), (9, I (i : Int))]) (fun i => [.arr false 1 3 ((lsI p i).map I)]) (fun i => i ≤ n) (fun i => n - i) 0 aF (Nat.zero_le _) ⟨rfl, rfl, trivial⟩ rfl ?_
  rintro i hi
  dsimp only [zZ, List.set_cons_zero, List.set_cons_succ]
  have hlt := lstN_le p i
  have hll : ((lsI p i).map I).length = (lstN p i).length := by rw [List.length_map, lsI_len]
  have hsn := lsI_succ p i
  by_cases hil : i < n
  · have hv := hp.val hil
    have i1 := row_atY (p := p) (x := i) (by omega)
    rw [hv] at i1
    by_cases hb : bk p i = i
    · rw [if_pos hb] at hsn
      rw [hb] at i1
      repeat' (first
| refine wO ?_
| (refine o_go rfl ?_; (first
| refine p_p (zN rfl rfl rfl (by omega) i1 (by exact rfl)) ?_
| refine p_e (by kernel_rfl) (e_append rfl rfl rfl rfl rfl rfl (one_one rfl) rfl (by rw [hll, n_len_c, n_len_n]; omega) (by rw [hll, n_len_c, n_len_n]; omega)) ?_
| refine wS ?_
| refine p_p (ps_lit1 rfl rfl (by rfl) (by rfl)) ?_); refine ⟨_, aA, ?_⟩)
| (refine zK rfl (fun hc => ?_) (fun hc => ?_) <;> try (exfalso; omega))
| refine wE ?_)
      all_goals try (exfalso; omega)
      exact zT (i + 1) (by omega) (by omega) aI ⟨rfl, rfl, trivial⟩ (zB (by rw [hsn, List.map_append]; rfl) (zM _))
    · rw [if_neg hb, List.append_nil] at hsn
      repeat' (first
| refine wO ?_
| (refine o_go rfl ?_; (first
| refine p_p (zN rfl rfl rfl (by omega) i1 (by exact rfl)) ?_
| refine wS ?_); refine ⟨_, aA, ?_⟩)
| (refine zK rfl (fun hc => ?_) (fun hc => ?_) <;> try (exfalso; omega))
| refine wE ?_)
      all_goals try (exfalso; omega)
      exact zT (i + 1) (by omega) (by omega) aI ⟨rfl, rfl, trivial⟩ (zB (by rw [hsn]) (zM _))
  · rw [show i = n by omega]
    repeat' (first
| refine wO ?_
| (refine o_go rfl ?_; (first
| refine wS ?_); refine ⟨_, aA, ?_⟩)
| (refine zK rfl (fun hc => ?_) (fun hc => ?_) <;> try (exfalso; omega))
| refine kr1 ?_
| refine krS rfl ?_
| refine wE ?_)
    all_goals first | rfl | (exfalso; omega)
theorem natK_len (p : List Int) {i n : Nat} (h : i ≤ n) : ((natL i p ++ List.replicate (n - i) 0).map I).length = n := by simp [natL]; omega
theorem natK_set (p : List Int) {i n : Nat} (h : i < n) : ((natL i p ++ List.replicate (n - i) 0).map I).set (i * 1) (I (nmN p i : Int)) = (natL (i + 1) p ++ List.replicate (n - (i + 1)) 0).map I := by
  rw [natL_succ, Nat.mul_one, ← List.map_set, List.set_append_right _ _ (by rw [nat_len]; omega), nat_len, Nat.sub_self, show n - i = (n - (i + 1)) + 1 by omega, List.replicate_succ, List.append_assoc]; rfl
theorem natK_at (p : List Int) {i n x : Nat} (h : x < i) : ((natL i p ++ List.replicate (n - i) 0).map I)[x * 1]? = some (I (nmN p x : Int)) := by
  rw [Nat.mul_one, List.getElem?_map, List.getElem?_append_left (by rw [nat_len]; omega)]
  unfold natL
  rw [List.getElem?_map, List.getElem?_range h]; rfl
theorem nm_self {p : List Int} {i : Nat} (h : bk p i = i) : nmN p i = (lstN p i).length := by unfold nmN; rw [h]
theorem nm_bk {n : Nat} {p : List Int} (hp : Pt n p) {i : Nat} (h : i < n) : nmN p (bk p i) = nmN p i := by unfold nmN; rw [hp.id i h]
theorem inat_R (n : Nat) (p : List Int) (hn : n ≤ 1000) (hp : Pt n p) : RCalls Tryz.prog 97 [ints p] (.arr true 1 3 ((natL n p).map I)) (.hp 0) := by
  refine pcallsR1 Tryz.func97 rfl Tryz.ntmps97 rfl ?_
  refine wF ?_
  have hpl := hp.len
  have hrep : (List.replicate p.length (PV.val (Value.int IntKind.i64 0))).length = p.length := List.length_replicate
  repeat' (first
| refine wO ?_
| (refine o_go rfl ?_; (first
| refine wS ?_
| refine p_e rfl (e_make1 rfl rfl rfl (by omega) (by omega) (by omega) rfl rfl) ?_); refine ⟨_, aA, ?_⟩))
  refine g_loopT (α := Nat) (fun i => [(4, I ((lstN p i).length : Int)), (12, I (i : Int))]) (fun i => [.arr true 1 3 ((natL i p ++ List.replicate (n - i) 0).map I)]) (fun i => i ≤ n) (fun i => n - i) 0 aF (Nat.zero_le _) ⟨rfl, rfl, trivial⟩ (by rw [hpl]; simp [natL]) ?_
  rintro i hi
  dsimp only [zZ, List.set_cons_zero, List.set_cons_succ]
  have hlt := lstN_le p i
  have hll := natK_len p hi
  have hsn := lstN_succ p i
  by_cases hil : i < n
  · have hv := hp.val hil
    have hst := natK_set p hil
    have i1 := row_atY (p := p) (x := i) (by omega)
    rw [hv] at i1
    by_cases hb : bk p i = i
    · rw [if_pos hb] at hsn
      rw [hb] at i1
      rw [nm_self hb] at hst
      have hl1 : ((lstN p (i + 1)).length : Int) = ((lstN p i).length : Int) + 1 := by rw [hsn, List.length_append]; rfl
      repeat' (first
| refine wO ?_
| (refine o_go rfl ?_; (first
| refine p_p (zN rfl rfl rfl (by omega) i1 (by exact rfl)) ?_
| refine p_e (by kernel_rfl) (e_store_arr rfl rfl rfl rfl (by omega) rfl rfl) ?_
| refine wS ?_); refine ⟨_, aA, ?_⟩)
| (refine zK rfl (fun hc => ?_) (fun hc => ?_) <;> try (exfalso; omega))
| refine wE ?_)
      all_goals try (exfalso; omega)
      exact zT (i + 1) (by omega) (by omega) aI ⟨vI hl1.symm, rfl, trivial⟩ (zB (by rw [← hst]) (zM _))
    · have hle := hp.le i hil
      rw [if_neg hb, List.append_nil] at hsn
      have hat := natK_at (n := n) p (x := bk p i) (i := i) (by omega)
      rw [nm_bk hp hil] at hat
      repeat' (first
| refine wO ?_
| (refine o_go rfl ?_; (first
| refine p_p (zN rfl rfl rfl (by omega) i1 (by exact rfl)) ?_
| refine p_p (ps_load_arr rfl rfl rfl hat (by rfl)) ?_
| refine p_e (by kernel_rfl) (e_store_arr rfl rfl rfl rfl (by omega) rfl rfl) ?_
| refine wS ?_); refine ⟨_, aA, ?_⟩)
| (refine zK rfl (fun hc => ?_) (fun hc => ?_) <;> try (exfalso; omega))
| refine wE ?_)
      all_goals try (exfalso; omega)
      exact zT (i + 1) (by omega) (by omega) aI ⟨by rw [hsn]; rfl, rfl, trivial⟩ (zB (by rw [← hst]) (zM _))
  · rw [show i = n by omega, Nat.sub_self, List.replicate_zero, List.append_nil]
    repeat' (first
| refine wO ?_
| (refine o_go rfl ?_; (first
| refine wS ?_); refine ⟨_, aA, ?_⟩)
| (refine zK rfl (fun hc => ?_) (fun hc => ?_) <;> try (exfalso; omega))
| refine krr 0 rfl (HandOut.arr rfl ?_ aT)
| refine wE ?_)
    all_goals first | rfl | (exfalso; omega)
theorem inat_c (n : Nat) (p : List Int) (hn : n ≤ 1000) (hp : Pt n p) : PCalls Tryz.prog 97 [ints p] (ints (natL n p)) := rcalls_P rfl (inat_R n p hn hp)
theorem sleast6_c (n : Nat) (p : List Int) (hn : n ≤ 1000) (hp : Pt n p) : PCalls Tryz.prog 169 [ints p] (ints (lsI p n)) := by
  refine pcalls1 Tryz.func169 rfl Tryz.ntmps169 rfl ?_
  refine wF ?_
  have hpl := hp.len
  repeat' (first
| refine wO ?_
| (refine o_go rfl ?_; (first
| refine wS ?_
| refine p_e rfl (e_lit0 rfl (by decide)) ?_); refine ⟨_, aA, ?_⟩))
  refine g_loopF (α := Nat) [5] (fun i => [(3, .hp 0), (4, I (i : Int))]) (fun i => [.arr false 1 3 ((lsI p i).map I)]) (fun i => i ≤ n) (fun i => n - i) 0 aF (Nat.zero_le _) ⟨rfl, rfl, trivial⟩ rfl ?_
  rintro i hi
  dsimp only [zZ, List.set_cons_zero, List.set_cons_succ]
  have hlt := lstN_le p i
  have hll : ((lsI p i).map I).length = (lstN p i).length := by rw [List.length_map, lsI_len]
  have hsn := lsI_succ p i
  by_cases hil : i < n
  · have hv := hp.val hil
    have i1 := row_atY (p := p) (x := i) (by omega)
    rw [hv] at i1
    by_cases hb : bk p i = i
    · rw [if_pos hb] at hsn
      rw [hb] at i1
      repeat' (first
| refine wO ?_
| (refine o_go rfl ?_; (first
| refine p_p (zN rfl rfl rfl (by omega) i1 (by exact rfl)) ?_
| refine p_e (by kernel_rfl) (e_append rfl rfl rfl rfl rfl rfl (one_one rfl) rfl (by rw [hll, n_len_c, n_len_n]; omega) (by rw [hll, n_len_c, n_len_n]; omega)) ?_
| refine wS ?_
| refine p_p (ps_lit1 rfl rfl (by rfl) (by rfl)) ?_); refine ⟨_, aA, ?_⟩)
| (refine zK rfl (fun hc => ?_) (fun hc => ?_) <;> try (exfalso; omega))
| refine wE ?_)
      all_goals try (exfalso; omega)
      exact zT (i + 1) (by omega) (by omega) aI ⟨rfl, rfl, trivial⟩ (zB (by rw [hsn, List.map_append]; rfl) (zM _))
    · rw [if_neg hb, List.append_nil] at hsn
      repeat' (first
| refine wO ?_
| (refine o_go rfl ?_; (first
| refine p_p (zN rfl rfl rfl (by omega) i1 (by exact rfl)) ?_
| refine wS ?_); refine ⟨_, aA, ?_⟩)
| (refine zK rfl (fun hc => ?_) (fun hc => ?_) <;> try (exfalso; omega))
| refine wE ?_)
      all_goals try (exfalso; omega)
      exact zT (i + 1) (by omega) (by omega) aI ⟨rfl, rfl, trivial⟩ (zB (by rw [hsn]) (zM _))
  · rw [show i = n by omega]
    repeat' (first
| refine wO ?_
| (refine o_go rfl ?_; (first
| refine wS ?_); refine ⟨_, aA, ?_⟩)
| (refine zK rfl (fun hc => ?_) (fun hc => ?_) <;> try (exfalso; omega))
| refine kr1 ?_
| refine krS rfl ?_
| refine wE ?_)
    all_goals first | rfl | (exfalso; omega)
theorem natL_at (p : List Int) {i x : Nat} (h : x < i) : ((natL i p).map I)[x * 1]? = some (I (nmN p x : Int)) := by
  have := natK_at (n := i) p h
  rwa [Nat.sub_self, List.replicate_zero, List.append_nil] at this
theorem snat_c (n : Nat) (p : List Int) (hn : n ≤ 1000) (hp : Pt n p) : PCalls Tryz.prog 99 [ints p] (ints (natL n p)) := by
  refine pcalls1 Tryz.func99 rfl Tryz.ntmps99 rfl ?_
  refine wF ?_
  have hpl := hp.len
  repeat' (first
| refine wO ?_
| (refine o_go rfl ?_; (first
| refine p_e rfl (e_lit0T rfl (by decide)) ?_
| refine wS ?_); refine ⟨_, aA, ?_⟩))
  refine g_loopF (α := Nat) [6] (fun i => [(3, .hp 0), (4, I ((lstN p i).length : Int)), (5, I (i : Int))]) (fun i => [.arr true 1 3 ((natL i p).map I)]) (fun i => i ≤ n) (fun i => n - i) 0 aF (Nat.zero_le _) ⟨rfl, rfl, rfl, trivial⟩ rfl ?_
  rintro i hi
  dsimp only [zZ, List.set_cons_zero, List.set_cons_succ]
  have hlt := lstN_le p i
  have hll : ((natL i p).map I).length = i := by rw [List.length_map, nat_len]
  have hsn := lstN_succ p i
  have hns := natL_succ p i
  by_cases hil : i < n
  · have hv := hp.val hil
    have i1 := row_atY (p := p) (x := i) (by omega)
    rw [hv] at i1
    by_cases hb : bk p i = i
    · rw [if_pos hb] at hsn
      rw [hb] at i1
      rw [nm_self hb] at hns
      have hl1 : ((lstN p (i + 1)).length : Int) = ((lstN p i).length : Int) + 1 := by rw [hsn, List.length_append]; rfl
      repeat' (first
| refine wO ?_
| (refine o_go rfl ?_; (first
| refine p_p (zN rfl rfl rfl (by omega) i1 (by exact rfl)) ?_
| refine p_e (by kernel_rfl) (e_append rfl rfl rfl rfl rfl rfl (one_one rfl) rfl (by rw [hll, n_len_c, n_len_n]; omega) (by rw [hll, n_len_c, n_len_n]; omega)) ?_
| refine wS ?_
| refine p_p (ps_lit1 rfl rfl (by rfl) (by rfl)) ?_); refine ⟨_, aA, ?_⟩)
| (refine zK rfl (fun hc => ?_) (fun hc => ?_) <;> try (exfalso; omega))
| refine wE ?_)
      all_goals try (exfalso; omega)
      exact zT (i + 1) (by omega) (by omega) aI ⟨rfl, vI hl1.symm, rfl, trivial⟩ (zB (by rw [hns, List.map_append]; rfl) (zM _))
    · have hle := hp.le i hil
      rw [if_neg hb, List.append_nil] at hsn
      have hat := natL_at p (x := bk p i) (i := i) (by omega)
      rw [nm_bk hp hil] at hat
      repeat' (first
| refine wO ?_
| (refine o_go rfl ?_; (first
| refine p_p (zN rfl rfl rfl (by omega) i1 (by exact rfl)) ?_
| refine p_p (ps_load_arr rfl rfl rfl hat (by rfl)) ?_
| refine p_e (by kernel_rfl) (e_append rfl rfl rfl rfl rfl rfl (one_one rfl) rfl (by rw [hll, n_len_c, n_len_n]; omega) (by rw [hll, n_len_c, n_len_n]; omega)) ?_
| refine wS ?_
| refine p_p (ps_lit1 rfl rfl (by rfl) (by rfl)) ?_); refine ⟨_, aA, ?_⟩)
| (refine zK rfl (fun hc => ?_) (fun hc => ?_) <;> try (exfalso; omega))
| refine wE ?_)
      all_goals try (exfalso; omega)
      exact zT (i + 1) (by omega) (by omega) aI ⟨rfl, by rw [hsn]; rfl, rfl, trivial⟩ (zB (by rw [hns, List.map_append]; rfl) (zM _))
  · rw [show i = n by omega]
    repeat' (first
| refine wO ?_
| (refine o_go rfl ?_; (first
| refine wS ?_); refine ⟨_, aA, ?_⟩)
| (refine zK rfl (fun hc => ?_) (fun hc => ?_) <;> try (exfalso; omega))
| refine kr1 ?_
| refine krS rfl ?_
| refine wE ?_)
    all_goals first | rfl | (exfalso; omega)
end Go.Proofs.YtbohjibbgppfaaaGreat
