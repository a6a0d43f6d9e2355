/- Plain: the division of an algebra into indecomposable factors. -/
import Derived.Test.YtepjlgilopfnpaaGreatJTz
import Derived.Test.YtepjlgilopfnpaaGreatJYo
namespace Go.Proofs.YtepjlgilopfnpaaGreat
open Go Go.Pv Go.Proofs

noncomputable def quV (n : Nat) (ops : List OpD) (p : List Int) : List (List Int) := allL (lstN p n).length (quoL n p ops)
noncomputable def splO (n : Nat) (ops : List OpD) (p : List Int) : Option (List Int × List Int) :=
 (ppO (lstN p n).length (quV n ops p)).map fun ik => (liftP n p ((quV n ops p).getD ik.1 []), liftP n p ((quV n ops p).getD ik.2 []))
theorem fpLi_mem {n : Nat} {V : List (List Int)} {ik : Nat × Nat} (h : ik ∈ fpLi n V) : ik.1 ≤ ik.2 ∧ ik.2 < V.length ∧ fpB n (V.getD ik.1 []) (V.getD ik.2 []) = true := by
 unfold fpLi fpK at h
 obtain ⟨i, hi, h⟩ := List.mem_flatMap.1 h
 unfold fpI at h
 obtain ⟨k, hk, rfl⟩ := List.mem_map.1 h
 obtain ⟨hk, hb⟩ := List.mem_filter.1 hk
 have hi := List.mem_range.1 hi
 have hk := List.mem_range.1 hk
 exact ⟨by show i ≤ i + k; omega, by show i + k < V.length; omega, hb⟩
theorem cnt_lift {n : Nat} {p q : List Int} (hp : Pt n p) (hq : Pt (lstN p n).length q) : cnt n (liftP n p q) = cnt (lstN p n).length q := by
 rw [cnt_lst, lift_lst hp hq, List.length_map, cnt_lst]
theorem cnt_two {K : Nat} {ops : List OpD} {i : Nat} (hi : 0 < i) (hl : i < (allL K ops).length) : cnt K ((allL K ops).getD i []) < K := by
 have hpt := (allL_mem.1 (rows_mem hl)).1
 refine Nat.lt_of_le_of_ne (cnt_le _ _) fun e => ?_
 have e1 := (cnt_idP hpt).1 e
 rw [← allL_first (n := K) ops] at e1
 have hnd := ascC_nodup (allL_all K ops).1
 have hpw := List.pairwise_iff_getElem.1 hnd
 have := hpw 0 i (by omega) hl hi
 rw [List.getD_eq_getElem?_getD, List.getElem?_eq_getElem hl, List.getD_eq_getElem?_getD, List.getElem?_eq_getElem (show 0 < (allL K ops).length by omega)] at e1
 exact this e1.symm
theorem spl_facts {n : Nat} {ops : List OpD} {p a b : List Int} (hn : 0 < n) (ho : opsIn n ops) (hp : p ∈ allL n ops) (h : splO n ops p = some (a, b)) : a ∈ allL n ops ∧ b ∈ allL n ops ∧ cnt n a * cnt n b = cnt n p ∧ 1 < cnt n a ∧ 1 < cnt n b := by
 obtain ⟨pt, pc⟩ := allL_mem.1 hp
 unfold splO at h
 cases hq : ppO (lstN p n).length (quV n ops p) with
 | none => rw [hq] at h; cases h
 | some ik =>
  rw [hq] at h
  have h := Option.some.inj h
  obtain ⟨i, k⟩ := ik
  unfold ppO at hq
  have h0 := List.find?_some hq
  have h0 : decide (0 < i) = true := h0
  have h0 : 0 < i := of_decide_eq_true h0
  obtain ⟨hik, hkl, hfp⟩ := fpLi_mem (List.mem_of_find?_eq_some hq)
  dsimp only at hik hkl hfp h
  have hil : i < (quV n ops p).length := by omega
  have vi := rows_mem hil
  have vk := rows_mem hkl
  have li : liftP n p ((quV n ops p).getD i []) ∈ (allL (lstN p n).length (quoL n p ops)).map (liftP n p) := List.mem_map.2 ⟨_, vi, rfl⟩
  have lk : liftP n p ((quV n ops p).getD k []) ∈ (allL (lstN p n).length (quoL n p ops)).map (liftP n p) := List.mem_map.2 ⟨_, vk, rfl⟩
  have ci := cnt_two (K := (lstN p n).length) (ops := quoL n p ops) h0 hil
  have ck := cnt_two (K := (lstN p n).length) (ops := quoL n p ops) (show 0 < k by omega) hkl
  have pi := (allL_mem.1 vi).1
  have pk := (allL_mem.1 vk).1
  unfold fpB at hfp
  rw [Bool.and_eq_true, decide_eq_true_eq, decide_eq_true_eq] at hfp
  have hK := hfp.2
  have e1 := cnt_lift pt pi
  have e2 := cnt_lift pt pk
  obtain ⟨rfl, rfl⟩ := Prod.mk.inj h
  have K0 := lst_pos pt hn
  have c1 := cnt_pos pi K0
  have c2 := cnt_pos pk K0
  refine ⟨((lift_mem pt hn ho pc).1 li).1, ((lift_mem pt hn ho pc).1 lk).1, by rw [e1, e2, ← hK, cnt_lst], ?_, ?_⟩
  · rw [e1]
    rcases Nat.lt_or_ge 1 (cnt (lstN p n).length ((quV n ops p).getD i [])) with h | h
    · exact h
    · have h : cnt (lstN p n).length ((quV n ops p).getD i []) = 1 := by omega
      rw [h, Nat.one_mul] at hK
      exact absurd hK.symm (Nat.ne_of_lt ck)
  · rw [e2]
    rcases Nat.lt_or_ge 1 (cnt (lstN p n).length ((quV n ops p).getD k [])) with h | h
    · exact h
    · have h : cnt (lstN p n).length ((quV n ops p).getD k []) = 1 := by omega
      rw [h, Nat.mul_one] at hK
      exact absurd hK.symm (Nat.ne_of_lt ci)
noncomputable def idcF (n : Nat) (ops : List OpD) : Nat → List Int → List (List Int)
 | 0, p => [p]
 | d + 1, p => match splO n ops p with
  | none => [p]
  | some ab => idcF n ops d ab.1 ++ idcF n ops d ab.2
theorem cnt_split {x y z : Nat} (h : x * y = z) (hx : 1 < x) (hy : 1 < y) : x < z ∧ y < z ∧ (x - 1) + (y - 1) < z - 1 := by
 obtain ⟨x, rfl⟩ : ∃ a, x = a + 2 := ⟨x - 2, by omega⟩
 obtain ⟨y, rfl⟩ : ∃ a, y = a + 2 := ⟨y - 2, by omega⟩
 have e : (x + 2) * (y + 2) = x * y + 2 * x + 2 * y + 4 := by rw [Nat.add_mul, Nat.mul_add, Nat.mul_add]; omega
 omega
theorem idcF_same {n : Nat} {ops : List OpD} (hn : 0 < n) (ho : opsIn n ops) : ∀ d e p, p ∈ allL n ops → cnt n p ≤ d → cnt n p ≤ e → idcF n ops d p = idcF n ops e p
 | 0, e, p, hp, h, _ => by have := cnt_pos (allL_mem.1 hp).1 hn; omega
 | d + 1, 0, p, hp, _, h => by have := cnt_pos (allL_mem.1 hp).1 hn; omega
 | d + 1, e + 1, p, hp, h1, h2 => by
  unfold idcF
  cases hs : splO n ops p with
  | none => rfl
  | some ab =>
   obtain ⟨a, b⟩ := ab
   obtain ⟨ha, hb, hc, a1, b1⟩ := spl_facts hn ho hp hs
   obtain ⟨c1, c2, -⟩ := cnt_split hc a1 b1
   show idcF n ops d a ++ idcF n ops d b = idcF n ops e a ++ idcF n ops e b
   rw [idcF_same hn ho d e a ha (by omega) (by omega), idcF_same hn ho d e b hb (by omega) (by omega)]
noncomputable def idc (n : Nat) (ops : List OpD) (p : List Int) : List (List Int) := idcF n ops n p
theorem idc_none {n : Nat} {ops : List OpD} {p : List Int} (hn : 0 < n) (h : splO n ops p = none) : idc n ops p = [p] := by
 obtain ⟨m, rfl⟩ : ∃ m, n = m + 1 := ⟨n - 1, by omega⟩
 unfold idc idcF
 rw [h]
theorem idc_some {n : Nat} {ops : List OpD} {p a b : List Int} (hn : 0 < n) (ho : opsIn n ops) (hp : p ∈ allL n ops) (h : splO n ops p = some (a, b)) : idc n ops p = idc n ops a ++ idc n ops b := by
 obtain ⟨ha, hb, hc, a1, b1⟩ := spl_facts hn ho hp h
 obtain ⟨c1, c2, -⟩ := cnt_split hc a1 b1
 have c3 := cnt_le n p
 have e : idc n ops p = idcF n ops (n + 1) p := idcF_same hn ho _ _ p hp (cnt_le n p) (by omega)
 rw [e]
 unfold idcF
 rw [h]
 rfl
structure IdI (n : Nat) (ops : List OpD) (L : List (List Int)) : Prop where
 mem : ∀ p ∈ L, p ∈ allL n ops ∧ 1 < cnt n p
 all : L.flatMap (idc n ops) = idc n ops (idL n)
 prod : (L.map (cnt n)).foldr (· * ·) 1 = n
def wtL (n : Nat) (L : List (List Int)) : Nat := (L.map fun p => cnt n p - 1).sum
theorem wt_len {n : Nat} : ∀ {L : List (List Int)}, (∀ p ∈ L, 1 < cnt n p) → L.length ≤ wtL n L
 | [], _ => Nat.le_refl _
 | p :: L, h => by
  have h1 := h p (List.mem_cons_self ..)
  have h2 := wt_len (n := n) (L := L) (fun q hq => h q (List.mem_cons_of_mem _ hq))
  unfold wtL at h2 ⊢
  rw [List.length_cons, List.map_cons, List.sum_cons]
  omega
theorem IdI.start {n : Nat} {ops : List OpD} (hn : 1 < n) : IdI n ops [idL n] := by
 have hc : cnt n (idL n) = n := (cnt_idP (idL_pt n)).2 rfl
 refine ⟨fun p hp => ?_, by simp, by simp [hc]⟩
 rw [List.mem_singleton] at hp
 subst hp
 exact ⟨allL_mem.2 ⟨idL_pt n, idL_cong ops⟩, by rw [hc]; exact hn⟩
theorem prod_app : ∀ {l m : List Nat}, (l ++ m).foldr (· * ·) 1 = l.foldr (· * ·) 1 * m.foldr (· * ·) 1
 | [], m => by simp
 | a :: l, m => by
  rw [List.cons_append, List.foldr_cons, List.foldr_cons, prod_app, Nat.mul_assoc]
theorem cut_at {L : List (List Int)} {i : Nat} (h : i < L.length) : L = L.take i ++ L.getD i [] :: L.drop (i + 1) := by
 have e : L.getD i [] = L[i] := by rw [List.getD_eq_getElem?_getD, List.getElem?_eq_getElem h]; rfl
 rw [e, ← List.drop_eq_getElem_cons h, List.take_append_drop]
theorem IdI.split {n : Nat} {ops : List OpD} {L : List (List Int)} (hn : 0 < n) (ho : opsIn n ops) (h : IdI n ops L) {i : Nat} (hi : i < L.length) {a b : List Int} (hs : splO n ops (L.getD i []) = some (a, b)) :
 IdI n ops (L.take i ++ a :: b :: L.drop (i + 1)) ∧ wtL n (L.take i ++ a :: b :: L.drop (i + 1)) < wtL n L := by
 have hp := h.mem _ (rows_mem hi)
 obtain ⟨ha, hb, hc, a1, b1⟩ := spl_facts hn ho hp.1 hs
 obtain ⟨-, -, hw⟩ := cnt_split hc a1 b1
 have hcut := cut_at hi
 have hsm := idc_some hn ho hp.1 hs
 have h1 := h.all
 have h2 := h.prod
 refine ⟨⟨fun q hq => ?_, ?_, ?_⟩, ?_⟩
 · rcases List.mem_append.1 hq with hq | hq
   · exact h.mem q (List.mem_of_mem_take hq)
   · rcases List.mem_cons.1 hq with rfl | hq
     · exact ⟨ha, a1⟩
     · rcases List.mem_cons.1 hq with rfl | hq
       · exact ⟨hb, b1⟩
       · exact h.mem q (List.mem_of_mem_drop hq)
 · rw [hcut, List.flatMap_append, List.flatMap_cons, hsm] at h1
   rw [List.flatMap_append, List.flatMap_cons, List.flatMap_cons, ← h1, List.append_assoc]
 · rw [hcut, List.map_append, List.map_cons, prod_app, List.foldr_cons, ← hc] at h2
   rw [List.map_append, List.map_cons, List.map_cons, prod_app, List.foldr_cons, List.foldr_cons]
   rw [Nat.mul_assoc] at h2
   exact h2
 · unfold wtL
   conv => rhs; rw [hcut]
   rw [List.map_append, List.map_append, List.map_cons, List.map_cons, List.map_cons, List.sum_append, List.sum_append, List.sum_cons, List.sum_cons, List.sum_cons]
   omega
theorem IdI.done {n : Nat} {ops : List OpD} {L : List (List Int)} (hn : 0 < n) (h : IdI n ops L) (hd : ∀ i, i < L.length → splO n ops (L.getD i []) = none) : L = idc n ops (idL n) := by
 rw [← h.all]
 have key : ∀ {M : List (List Int)}, (∀ p ∈ M, splO n ops p = none) → M.flatMap (idc n ops) = M := fun {M} => by
  induction M with
  | nil => intro _; rfl
  | cons p M ih =>
   intro hM
   rw [List.flatMap_cons, idc_none hn (hM p (List.mem_cons_self ..)), ih fun q hq => hM q (List.mem_cons_of_mem _ hq)]; rfl
 exact (key fun p hp => by
  obtain ⟨i, hi, rfl⟩ := List.getElem_of_mem hp
  have := hd i hi
  rwa [List.getD_eq_getElem?_getD, List.getElem?_eq_getElem hi] at this).symm
end Go.Proofs.YtepjlgilopfnpaaGreat
/- Walks: the reference's kernel of a list and its lift of a congruence. -/
namespace Go.Proofs.YtepjlgilopfnpaaGreat
open Go Go.Pv Go.Proofs
set_option maxHeartbeats 32000000
set_option maxRecDepth 100000

def kerN (l : List Int) (i : Nat) : List Int := (List.range i).map fun i => ((kerE l i : Nat) : Int)
theorem kerN_len (l : List Int) (i : Nat) : (kerN l i).length = i := by simp [kerN]
theorem kerN_succ (l : List Int) (i : Nat) : kerN l (i + 1) = kerN l i ++ [((kerE l i : Nat) : Int)] := range_snoc _ i
theorem skern_R (l : List Int) (hl : l.length ≤ 1000) : RCalls Tryz.prog 133 [ints l] (.arr true 1 3 ((kerL l).map I)) (.hp 0) := by
 refine pcallsR1 Tryz.func133 rfl Tryz.ntmps133 rfl ?_
 refine wF ?_
 repeat' (first
| refine wO ?_
| (refine o_go rfl ?_; (first
| refine p_e rfl (e_lit0T rfl zd) ?_
| refine wS ?_); refine ⟨_, aB, ?_⟩))
 refine g_loopF (α := Nat) [6] (fun i => [(3, .hp 0), (4, I (i : Int))]) (fun i => [.arr true 1 3 ((kerN l i).map I)]) (fun i => i ≤ l.length) (fun i => l.length - i) 0 aH (Nat.zero_le _) ⟨rfl, rfl, trivial⟩ rfl ?_
 rintro i hi
 refine wH ?_
 have hll : ((kerN l i).map I).length = i := by rw [List.length_map, kerN_len]
 have hns := kerN_succ l i
 by_cases hil : i < l.length
 · have hixi : (l.map I)[((i : Nat) : Int).toNat]? = some (I (l.getD i 0)) := idx_I (by omega)
   repeat' (first
| refine wO ?_
| (refine o_go rfl ?_; (first
| refine wS ?_); refine ⟨_, aB, ?_⟩)
| (refine zK rfl ?_ ?_ <;> intro hc <;> try omega)
| refine wE ?_)
   all_goals try (exfalso; omega)
   refine g_loopF (α := Nat) [] (fun j => [(5, I (j : Int))]) (fun j => [.arr true 1 3 ((kerN l i).map I)]) (fun j => j ≤ i ∧ ∀ y, y < j → l.getD y 0 ≠ l.getD i 0) (fun j => i - j) 0 aH ⟨Nat.zero_le _, fun y hy => absurd hy (Nat.not_lt_zero _)⟩ ⟨rfl, trivial⟩ rfl ?_
   rintro j ⟨hj, hlow⟩
   refine wH ?_
   have hixj : (l.map I)[((j : Nat) : Int).toNat]? = some (I (l.getD j 0)) := idx_I (by omega)
   by_cases he : l.getD j 0 = l.getD i 0
   · have hk := kerE_eq (by omega) he hlow
     repeat' (first
| refine wO ?_
| refine zP zk zk ?_
| (refine o_go rfl ?_; (first
| refine p_p (zN rfl rfl rfl zz hixj ze) ?_
| refine p_p (zN rfl rfl rfl zz hixi ze) ?_
| refine p_e zk (e_append rfl rfl rfl rfl rfl rfl (one_one rfl) rfl (by rw [hll, n_len_c, n_len_n]; omega) (by rw [hll, n_len_c, n_len_n]; omega)) ?_
| refine wS ?_
| refine p_p (ps_lit1 rfl rfl (by rfl) (by rfl)) ?_); refine ⟨_, aB, ?_⟩)
| (refine g_condN rfl ?_ ?_ <;> intro hc <;> try omega)
| refine wE ?_)
     all_goals try (exfalso; omega)
     exact zT (i + 1) (by omega) (by omega) aI ⟨rfl, rfl, trivial⟩ (zB (by rw [hns, hk, List.map_append]; rfl) (zM _))
   · have hlt : j < i := by
      rcases Nat.lt_or_ge j i with h | h
      · exact h
      · exact absurd (by rw [show j = i by omega]) he
     repeat' (first
| refine wO ?_
| refine zP zk zk ?_
| (refine o_go rfl ?_; (first
| refine p_p (zN rfl rfl rfl zz hixj ze) ?_
| refine p_p (zN rfl rfl rfl zz hixi ze) ?_
| refine wS ?_); refine ⟨_, aB, ?_⟩)
| (refine g_condN rfl ?_ ?_ <;> intro hc <;> try omega)
| refine wE ?_)
     all_goals try (exfalso; omega)
     refine zT (j + 1) ⟨by omega, fun y hy => ?_⟩ (by omega) aI ⟨rfl, trivial⟩ (zB rfl (zM _))
     rcases Nat.lt_or_ge y j with h | h
     · exact hlow y h
     · rw [show y = j by omega]; exact he
 · rw [show i = l.length by omega]
   repeat' (first
| refine wO ?_
| (refine o_go rfl ?_; (first
| refine wS ?_); refine ⟨_, aB, ?_⟩)
| (refine zK rfl ?_ ?_ <;> intro hc <;> try omega)
| refine krr 0 rfl (HandOut.arr rfl ?_ aS)
| refine wE ?_)
   all_goals first | rfl | (exfalso; omega)
def lftN (p q : List Int) (i : Nat) : List Int := (List.range i).map fun x => q.getD (nmN p x) 0
theorem lftN_len (p q : List Int) (i : Nat) : (lftN p q i).length = i := by simp [lftN]
theorem lftN_succ (p q : List Int) (i : Nat) : lftN p q (i + 1) = lftN p q i ++ [q.getD (nmN p i) 0] := range_snoc _ i
theorem sl9lift_c (n : Nat) (p q : List Int) (hn : n ≤ 1000) (hp : Pt n p) (hq : q.length = (lstN p n).length) : PCalls Tryz.prog 80 [ints p, ints q] (ints (liftP n p q)) := by
 refine pcalls1 Tryz.func80 rfl Tryz.ntmps80 rfl ?_
 refine wF ?_
 have hpl := hp.len
 have h1 := snat_c n p hn hp
 have h2 : RCalls Tryz.prog 133 [ints (lftN p q n)] (.arr true 1 3 ((liftP n p q).map I)) (.hp 0) := skern_R (lftV n p q) (by simp [lftV]; omega)
 repeat' (first
| refine wO ?_
| (refine o_go rfl ?_; (first
| refine p_p (zG rfl rfl aD (h1)) ?_
| refine p_e rfl (e_lit0T rfl zd) ?_
| refine wS ?_); refine ⟨_, aB, ?_⟩))
 refine g_loopF (α := Nat) [10] (fun i => [(6, .hp 0), (7, I (i : Int))]) (fun i => [.arr true 1 3 ((lftN p q i).map I)]) (fun i => i ≤ n) (fun i => n - i) 0 aH (Nat.zero_le _) ⟨rfl, rfl, trivial⟩ rfl ?_
 rintro i hi
 refine wH ?_
 have hll : ((lftN p q i).map I).length = i := by rw [List.length_map, lftN_len]
 have hns := lftN_succ p q i
 by_cases hil : i < n
 · have hlt := nm_lt hp hil
   have hixi : ((natL n p).map I)[((i : Nat) : Int).toNat]? = some (I (nmN p i : Int)) := by rw [← nat_getD (p := p) hil]; exact idx_I (by rw [nat_len]; omega)
   have hixj : (q.map I)[((nmN p i : Nat) : Int).toNat]? = some (I (q.getD (nmN p i) 0)) := idx_I (by omega)
   repeat' (first
| refine wO ?_
| (refine o_go rfl ?_; (first
| refine p_p (zN rfl rfl rfl zz hixi ze) ?_
| refine p_p (zN rfl rfl rfl zz hixj ze) ?_
| refine p_e zk (e_append rfl rfl rfl rfl rfl rfl (one_one rfl) rfl (by rw [hll, n_len_c, n_len_n]; omega) (by rw [hll, n_len_c, n_len_n]; omega)) ?_
| refine wS ?_
| refine p_p (ps_lit1 rfl rfl (by rfl) (by rfl)) ?_); refine ⟨_, aB, ?_⟩)
| (refine zK rfl ?_ ?_ <;> intro hc <;> try omega)
| refine wE ?_)
   all_goals try (exfalso; omega)
   exact zT (i + 1) (by omega) (by omega) aI ⟨rfl, rfl, trivial⟩ (zB (by rw [hns, List.map_append]; rfl) (zM _))
 · rw [show i = n by omega]
   repeat' (first
| refine wO ?_
| (refine o_go rfl ?_; (first
| refine p_p (ps_callRV rfl rfl aD (h2)) ?_
| refine wS ?_); refine ⟨_, aB, ?_⟩)
| (refine zK rfl ?_ ?_ <;> intro hc <;> try omega)
| refine kr1 ?_
| refine krS rfl ?_
| refine wE ?_)
   all_goals first | rfl | (exfalso; omega)
end Go.Proofs.YtepjlgilopfnpaaGreat
