/- Lemmas of the proof. No condition. -/
import Derived.Test.YtbohjibbgppfaaaGreatJVk
import Derived.Test.YtbohjibbgppfaaaGreatJKz
namespace Go.Proofs.YtbohjibbgppfaaaGreat
open Go Go.Pv Go.Proofs
set_option maxHeartbeats 32000000
set_option maxRecDepth 100000
theorem ptR_at {p : List Int} {x y : Nat} : ptR p x y = decide (p.getD x 0 = p.getD y 0) := rfl
theorem reR_zero (R : Nat → Nat → Bool) (x : Nat) : reR R x 0 = [] := rfl
theorem sofp_c (p : List Int) (hp : p.length ≤ 1000) : PCalls Tryz.prog 238 [ints p] (relP 2 (reL p.length (ptR p))) := by
 refine pcallsC Tryz.func238 rfl Tryz.ntmps238 rfl ?_
 refine wF ?_
 obtain ⟨n, hn⟩ : ∃ n, n = p.length := ⟨_, rfl⟩
 rw [← hn]
 repeat' (first
| refine wO ?_
| (refine o_go rfl ?_; (first
| refine p_e rfl (e_lit0T rfl zd) ?_
| refine wS ?_
| refine p_e rfl (zO rfl rfl rfl rfl aK rfl rfl rfl) ?_
| refine p_e rfl (e_alloc rfl) ?_
| refine p_p (ps_build rfl rfl) ?_); refine ⟨_, aA, ?_⟩))
 refine g_loopF (α := Nat) [6, 7] (fun x => [(4, I (x : Int))]) (fun x => [.box [I 0, nilV], .arr true 1 27 ((reP n (ptR p) x).map ints), .box [I 2, .hp 1]]) (fun x => x ≤ n) (fun x => n - x) 0 aH (Nat.zero_le _) ⟨rfl, trivial⟩ rfl ?_
 rintro x hx
 refine wH ?_
 have hb1 := reP_len n (ptR p) x
 have hb2 : x * n ≤ 1000 * 1000 := Nat.mul_le_mul (by omega) (by omega)
 by_cases hxn : x < n
 · have rx := rowI_at (p := p) (x := x) (by omega)
   repeat' (first
| refine wO ?_
| (refine o_go rfl ?_; (first
| refine wS ?_); refine ⟨_, aA, ?_⟩)
| (refine zK rfl ?_ ?_ <;> intro hc <;> try omega)
| refine wE ?_)
   all_goals try (exfalso; omega)
   refine g_loopF (α := Nat) [6, 7] (fun y => [(5, I (y : Int))]) (fun y => [.box [I 0, nilV], .arr true 1 27 ((reP n (ptR p) x ++ reR (ptR p) x y).map ints), .box [I 2, .hp 1]]) (fun y => y ≤ n) (fun y => n - y) 0 aH (Nat.zero_le _) ⟨rfl, trivial⟩ (by rw [reR_zero, List.append_nil]) ?_
   rintro y hy
   refine wH ?_
   have hb3 := reR_len (ptR p) x y
   have hll : ((reP n (ptR p) x ++ reR (ptR p) x y).map ints).length = (reP n (ptR p) x).length + (reR (ptR p) x y).length := by rw [List.length_map, List.length_append]
   by_cases hyn : y < n
   · have ry := rowI_at (p := p) (x := y) (by omega)
     have hsn := reR_succ (ptR p) x y
     by_cases he : p.getD x 0 = p.getD y 0
     · rw [show ptR p x y = true by rw [ptR_at, decide_eq_true he], if_pos rfl] at hsn
       repeat' (first
| refine wO ?_
| refine zP zk zk ?_
| (refine o_go rfl ?_; (first
| refine p_p (zN rfl rfl rfl zz rx ze) ?_
| refine p_p (zN rfl rfl rfl zz ry ze) ?_
| refine p_e zk (e_append rfl rfl rfl rfl rfl rfl (one_one rfl) rfl (by rw [hll, n_len_c, n_len_n]; omega) (by rw [hll, n_len_c, n_len_n]; omega)) ?_
| refine wS ?_
| refine p_e rfl (e_store_boxC rfl rfl rfl rfl aK rfl rfl) ?_
| refine p_p (ps_lit1 rfl rfl (by rfl) (by rfl)) ?_
| refine p_p (ps_lit2 rfl rfl rfl (by rfl) (by rfl) (by rfl)) ?_); refine ⟨_, aA, ?_⟩)
| (refine zK rfl ?_ ?_ <;> intro hc <;> try omega)
| refine wE ?_)
       all_goals try (exfalso; first | omega | exact hc he)
       exact zT (y + 1) (by omega) (by omega) aI ⟨rfl, trivial⟩ (zB rfl (zB (by rw [hsn, ← List.append_assoc, List.map_append (l₁ := reP n (ptR p) x ++ reR (ptR p) x y)]; rfl) (zB rfl (zM _))))
     · rw [show ptR p x y = false by rw [ptR_at, decide_eq_false he], if_neg Bool.false_ne_true, List.append_nil] at hsn
       repeat' (first
| refine wO ?_
| refine zP zk zk ?_
| (refine o_go rfl ?_; (first
| refine p_p (zN rfl rfl rfl zz rx ze) ?_
| refine p_p (zN rfl rfl rfl zz ry ze) ?_
| refine wS ?_); refine ⟨_, aA, ?_⟩)
| (refine zK rfl ?_ ?_ <;> intro hc <;> try omega)
| refine wE ?_)
       all_goals try (exfalso; first | omega | exact he hc)
       exact zT (y + 1) (by omega) (by omega) aI ⟨rfl, trivial⟩ (zB rfl (zB (by rw [hsn]) (zB rfl (zM _))))
   · obtain rfl : y = n := by omega
     repeat' (first
| refine wO ?_
| (refine o_go rfl ?_; (first
| refine wS ?_); refine ⟨_, aA, ?_⟩)
| (refine zK rfl ?_ ?_ <;> intro hc <;> try omega)
| refine wE ?_)
     all_goals try (exfalso; omega)
     exact zT (K := fun _ _ => True) (x + 1) (by omega) (by omega) aI ⟨rfl, trivial⟩ (zB rfl (zB rfl (zB rfl (zM _))))
 · obtain rfl : x = n := by omega
   repeat' (first
| refine wO ?_
| (refine o_go rfl ?_; (first
| refine wS ?_
| refine p_e rfl (zO rfl rfl rfl rfl aK rfl rfl rfl) ?_); refine ⟨_, aA, ?_⟩)
| (refine zK rfl ?_ ?_ <;> intro hc <;> try omega)
| refine krc ?_
| refine krC rfl aK ?_
| refine wE ?_)
   all_goals first | rfl | (exfalso; omega)
theorem scompR_c (n : Nat) (R S : Nat → Nat → Bool) (hn : n ≤ 1000) : PCalls Tryz.prog 237 [I (n : Int), relP 2 (reL n R), relP 2 (reL n S)] (relP 2 (reL n (cmpR n R S))) := by
 refine pcallsC Tryz.func237 rfl Tryz.ntmps237 rfl ?_
 refine wF ?_
 have hsz : ∀ Q : Nat → Nat → Bool, (reL n Q).length ≤ 1048576 := fun Q => Nat.le_trans (reL_len n Q) (Nat.le_trans (Nat.mul_le_mul hn hn) (by decide))
 have htwo : ∀ (Q : Nat → Nat → Bool) r, r ∈ reL n Q → r.length = 2 := fun Q r hr => by
  obtain ⟨x, y, -, -, -, rfl⟩ := reL_mem.1 hr; rfl
 have hhas : ∀ (Q : Nat → Nat → Bool) (x y : Nat), x < n → y < n → PCalls Tryz.prog 257 [relP 2 (reL n Q), ints [(x : Int), (y : Int)]] (B (Q x y)) := fun Q x y hx hy => by
  have := shas_c 2 (reL n Q) [(x : Int), (y : Int)] (reL_asc n Q) (htwo Q) rfl (hsz Q) (by decide)
  rwa [show decide ([(x : Int), (y : Int)] ∈ reL n Q) = Q x y by rw [Bool.eq_iff_iff, decide_eq_true_eq, reL_pair hx hy]] at this
 obtain ⟨T, hT⟩ : ∃ T, T = cmpR n R S := ⟨_, rfl⟩
 rw [← hT]
 have hR := fun x y hx hy => hhas R x y hx hy
 have hS := fun x y hx hy => hhas S x y hx hy
 generalize reL n R = LR at *
 generalize reL n S = LS at *
 clear hhas hsz htwo
 repeat' (first
| refine wO ?_
| (refine o_go rfl ?_; (first
| refine p_e rfl (e_lit0T rfl zd) ?_
| refine wS ?_
| refine p_e rfl (zO rfl rfl rfl rfl aK rfl rfl rfl) ?_
| refine p_e rfl (e_alloc rfl) ?_
| refine p_p (ps_box rfl rfl) ?_
| refine p_p (ps_build rfl rfl) ?_); refine ⟨_, aA, ?_⟩))
 refine g_loopF (α := Nat) [12, 13] (fun x => [(8, I (x : Int))]) (fun x => [.box [I 0, nilV], .arr true 1 27 ((reP n T x).map ints), .box [I 2, .hp 1]]) (fun x => x ≤ n) (fun x => n - x) 0 aH (Nat.zero_le _) ⟨rfl, trivial⟩ rfl ?_
 rintro x hx
 refine wH ?_
 have hb1 := reP_len n T x
 have hb2 : x * n ≤ 1000 * 1000 := Nat.mul_le_mul (by omega) (by omega)
 by_cases hxn : x < n
 · repeat' (first
| refine wO ?_
| (refine o_go rfl ?_; (first
| refine wS ?_); refine ⟨_, aA, ?_⟩)
| (refine zK rfl ?_ ?_ <;> intro hc <;> try omega)
| refine wE ?_)
   all_goals try (exfalso; omega)
   refine g_loopF (α := Nat) [12, 13] (fun y => [(9, I (y : Int))]) (fun y => [.box [I 0, nilV], .arr true 1 27 ((reP n T x ++ reR T x y).map ints), .box [I 2, .hp 1]]) (fun y => y ≤ n) (fun y => n - y) 0 aH (Nat.zero_le _) ⟨rfl, trivial⟩ (by rw [reR_zero, List.append_nil]) ?_
   rintro z hz
   refine wH ?_
   have hb3 := reR_len T x z
   have hll : ((reP n T x ++ reR T x z).map ints).length = (reP n T x).length + (reR T x z).length := by rw [List.length_map, List.length_append]
   by_cases hzn : z < n
   · have hsn := reR_succ T x z
     repeat' (first
| refine wO ?_
| (refine o_go rfl ?_; (first
| refine wS ?_); refine ⟨_, aA, ?_⟩)
| (refine zK rfl ?_ ?_ <;> intro hc <;> try omega)
| refine wE ?_)
     all_goals try (exfalso; omega)
     refine g_loopT (α := Nat) (fun y => [(10, B ((List.range y).any fun y => R x y && S y z)), (11, I (y : Int))]) (fun _ => [.box [I 0, nilV], .arr true 1 27 ((reP n T x ++ reR T x z).map ints), .box [I 2, .hp 1]]) (fun y => y ≤ n) (fun y => n - y) 0 aH (Nat.zero_le _) ⟨rfl, rfl, trivial⟩ rfl ?_
     rintro y hy
     refine wH ?_
     by_cases hyn : y < n
     · have hany : (List.range (y + 1)).any (fun y => R x y && S y z) = ((List.range y).any (fun y => R x y && S y z) || (R x y && S y z)) := by rw [List.range_succ, List.any_append]; simp
       cases ha : (List.range y).any fun y => R x y && S y z with
       | true =>
        have hTx : T x z = true := by
         rw [hT]
         obtain ⟨u, hu, h⟩ := List.any_eq_true.1 ha
         exact List.any_eq_true.2 ⟨u, List.mem_range.2 (by have := List.mem_range.1 hu; omega), h⟩
        rw [hTx, if_pos rfl] at hsn
        repeat' (first
| refine wO ?_
| (refine o_go rfl ?_; (first
| refine p_e zk (e_append rfl rfl rfl rfl rfl rfl (one_one rfl) rfl (by rw [hll, n_len_c, n_len_n]; omega) (by rw [hll, n_len_c, n_len_n]; omega)) ?_
| refine wS ?_
| refine p_e rfl (e_store_boxC rfl rfl rfl rfl aK rfl rfl) ?_
| refine p_p (ps_lit1 rfl rfl (by rfl) (by rfl)) ?_
| refine p_p (ps_lit2 rfl rfl rfl (by rfl) (by rfl) (by rfl)) ?_); refine ⟨_, aA, ?_⟩)
| (refine o_splitD rfl rfl rfl ?_ ?_ <;> intro hc <;> first | omega | dsimp only [List.set_cons_zero, List.set_cons_succ])
| refine wE ?_)
        all_goals try (exfalso; omega)
        exact zT (K := fun _ _ => True) (z + 1) (by omega) (by omega) aI ⟨rfl, trivial⟩ (zB rfl (zB (by rw [hsn, ← List.append_assoc, List.map_append (l₁ := reP n T x ++ reR T x z)]; rfl) (zB rfl (zM _))))
       | false =>
        have c1 := hR x y hxn hyn
        have c2 := hS y z hyn hzn
        rw [ha, Bool.false_or] at hany
        cases hr : R x y with
        | false =>
         rw [hr] at c1 hany
         rw [Bool.false_and] at hany
         repeat' (first
| refine wO ?_
| (refine o_go rfl ?_; (first
| refine p_p (zG rfl rfl aD (c1)) ?_
| refine wS ?_
| refine p_p (ps_load_agg rfl rfl aK) ?_
| refine p_p (ps_lit2 rfl rfl rfl (by rfl) (by rfl) (by rfl)) ?_); refine ⟨_, aA, ?_⟩)
| (refine o_s rfl ?_; refine ⟨_, aA, ?_⟩)
| (refine o_splitD rfl rfl rfl ?_ ?_ <;> intro hc <;> first | omega | dsimp only [List.set_cons_zero, List.set_cons_succ])
| refine wE ?_)
         all_goals try (exfalso; omega)
         exact zT (y + 1) (by omega) (by omega) aI ⟨by rw [hany]; rfl, rfl, trivial⟩ (zB rfl (zB rfl (zB rfl (zM _))))
        | true =>
         rw [hr] at c1 hany
         rw [Bool.true_and] at hany
         repeat' (first
| refine wO ?_
| (refine o_go rfl ?_; (first
| refine p_p (zG rfl rfl aD (c1)) ?_
| refine p_p (zG rfl rfl aD (c2)) ?_
| refine wS ?_
| refine p_p (ps_load_agg rfl rfl aK) ?_
| refine p_p (ps_lit2 rfl rfl rfl (by rfl) (by rfl) (by rfl)) ?_); refine ⟨_, aA, ?_⟩)
| (refine o_splitD rfl rfl rfl ?_ ?_ <;> intro hc <;> first | omega | dsimp only [List.set_cons_zero, List.set_cons_succ])
| refine wE ?_)
         all_goals try (exfalso; omega)
         exact zT (y + 1) (by omega) (by omega) aI ⟨by rw [hany]; rfl, rfl, trivial⟩ (zB rfl (zB rfl (zB rfl (zM _))))
     · obtain rfl : y = n := by omega
       have hTx : T x z = (List.range y).any fun y => R x y && S y z := by rw [hT]; rfl
       cases ha : (List.range y).any fun y => R x y && S y z with
       | true =>
        rw [hTx, ha, if_pos rfl] at hsn
        repeat' (first
| refine wO ?_
| (refine o_go rfl ?_; (first
| refine p_e zk (e_append rfl rfl rfl rfl rfl rfl (one_one rfl) rfl (by rw [hll, n_len_c, n_len_n]; omega) (by rw [hll, n_len_c, n_len_n]; omega)) ?_
| refine wS ?_
| refine p_e rfl (e_store_boxC rfl rfl rfl rfl aK rfl rfl) ?_
| refine p_p (ps_lit1 rfl rfl (by rfl) (by rfl)) ?_
| refine p_p (ps_lit2 rfl rfl rfl (by rfl) (by rfl) (by rfl)) ?_); refine ⟨_, aA, ?_⟩)
| (refine o_s rfl ?_; refine ⟨_, aA, ?_⟩)
| (refine o_splitD rfl rfl rfl ?_ ?_ <;> intro hc <;> first | omega | dsimp only [List.set_cons_zero, List.set_cons_succ])
| refine wE ?_)
        all_goals try (exfalso; omega)
        exact zT (K := fun _ _ => True) (z + 1) (by omega) (by omega) aI ⟨rfl, trivial⟩ (zB rfl (zB (by rw [hsn, ← List.append_assoc, List.map_append (l₁ := reP y T x ++ reR T x z)]; rfl) (zB rfl (zM _))))
       | false =>
        rw [hTx, ha, if_neg Bool.false_ne_true, List.append_nil] at hsn
        repeat' (first
| refine wO ?_
| (refine o_go rfl ?_; (first
| refine wS ?_); refine ⟨_, aA, ?_⟩)
| (refine o_s rfl ?_; refine ⟨_, aA, ?_⟩)
| (refine o_splitD rfl rfl rfl ?_ ?_ <;> intro hc <;> first | omega | dsimp only [List.set_cons_zero, List.set_cons_succ])
| refine wE ?_)
        all_goals try (exfalso; omega)
        exact zT (K := fun _ _ => True) (z + 1) (by omega) (by omega) aI ⟨rfl, trivial⟩ (zB rfl (zB (by rw [hsn]) (zB rfl (zM _))))
   · obtain rfl : z = n := by omega
     repeat' (first
| refine wO ?_
| (refine o_go rfl ?_; (first
| refine wS ?_); refine ⟨_, aA, ?_⟩)
| (refine zK rfl ?_ ?_ <;> intro hc <;> try omega)
| refine wE ?_)
     all_goals try (exfalso; omega)
     exact zT (K := fun _ _ => True) (x + 1) (by omega) (by omega) aI ⟨rfl, trivial⟩ (zB rfl (zB rfl (zB rfl (zM _))))
 · obtain rfl : x = n := by omega
   repeat' (first
| refine wO ?_
| (refine o_go rfl ?_; (first
| refine wS ?_
| refine p_e rfl (zO rfl rfl rfl rfl aK rfl rfl rfl) ?_); refine ⟨_, aA, ?_⟩)
| (refine zK rfl ?_ ?_ <;> intro hc <;> try omega)
| refine krc ?_
| refine krC rfl aK ?_
| refine wE ?_)
   all_goals first | rfl | (exfalso; omega)
end Go.Proofs.YtbohjibbgppfaaaGreat
