/- Lemmas of the proof. No condition. -/
import Derived.Test.YtbohjibbgppfaaaGreatJYh
import Derived.Test.YtbohjibbgppfaaaGreatJKy
import Derived.Test.YtbohjibbgppfaaaGreatJKz
namespace Go.Proofs.YtbohjibbgppfaaaGreat
open Go Go.Pv Go.Proofs
set_option maxHeartbeats 32000000
set_option maxRecDepth 100000
attribute [local bitvec_to_nat] posI optP lendM1 lendMA lendMP killM1 killMA killMP hasI getO backM1 backMA backMP putL inpM pinM1 pinMA pinMP killR1 killRA killR
theorem spow_c (n : Nat) (A : List OpD) (k : Nat) (hs : szOk A) (hg : algOk n A = true) (hk : k ≤ 3) (hnk : n ^ k ≤ 8) : PCalls Tryz.prog 59 [algP n A, I (k : Int)] (.tup [algP ((n ^ k : Nat) : Int) (powL n A k), B true]) := by
 obtain ⟨n', hn', hn0, hn8, h4, hA⟩ := algOk_facts hg
 have : n' = n := by omega
 subst this
 clear hn'
 refine pcallsCT Tryz.func59 rfl Tryz.ntmps59 rfl ?_
 refine wF ?_
 have h1 := sgood_c n' A hs
 rw [hg] at h1
 have h2 := in_c (k : Int) 0 3
 rw [inB_iff.2 (by omega)] at h2
 have h3 := pow_c n' k (by omega) hk
 have h5 := sone_c n' A hs.1
 repeat' (first
| refine wO ?_
| (refine o_go rfl ?_; (first
| refine p_p (zG rfl rfl aD (h1)) ?_
| refine p_p (zG rfl rfl aD (h2)) ?_
| refine p_p (zG rfl rfl aD (h3)) ?_
| refine p_p (zG rfl rfl aD (h5)) ?_
| refine wS ?_
| refine p_p (ps_load_agg rfl rfl aK) ?_
| refine p_e rfl (zO rfl rfl rfl rfl aK rfl rfl rfl) ?_
| refine p_e rfl (e_alloc rfl) ?_
| refine p_p (ps_box rfl rfl) ?_); refine ⟨_, aA, ?_⟩)
| (refine zK rfl ?_ ?_ <;> intro hc <;> try omega)
| refine wE ?_)
 all_goals try (exfalso; omega)
 refine g_loopT (α := Nat) (fun j => [(1, I ((k : Int) - (j : Int)))]) (fun j => [.box [I 0, nilV], .box [I ((n' ^ j : Nat) : Int), opsP (powL n' A j)]]) (fun j => j ≤ k) (fun j => k - j) 0 aH (Nat.zero_le _) ⟨vI (by omega), trivial⟩ rfl ?_
 rintro j hj
 refine wH ?_
 by_cases hjk : j < k
 · obtain ⟨p1, p2⟩ := pow_facts hn0 hA j
   have hle : n' ^ j * n' ≤ 8 := by rw [← Nat.pow_succ]; exact Nat.le_trans (Nat.pow_le_pow_right hn0 (by omega)) hnk
   have h6 := sprod_c (n' ^ j) n' (powL n' A j) A (Nat.pow_pos hn0) hn0 hle p1 hA (by rw [p2.len]; omega) p2
   repeat' (first
| refine wO ?_
| (refine o_go rfl ?_; (first
| refine p_p (zG rfl rfl aD (h6)) ?_
| refine wS ?_
| refine p_p (ps_load_agg rfl rfl aK) ?_
| refine p_e rfl (zO rfl rfl rfl rfl aK rfl rfl rfl) ?_); refine ⟨_, aA, ?_⟩)
| (refine zK rfl ?_ ?_ <;> intro hc <;> try omega)
| refine wE ?_)
   all_goals try (exfalso; omega)
   exact zT (j + 1) (by omega) (by omega) aI ⟨vI (by omega), trivial⟩ (zB rfl (zB (by rw [Nat.pow_succ]; rfl) (zM _)))
 · rw [show j = k by omega]
   repeat' (first
| refine wO ?_
| (refine o_go rfl ?_; (first
| refine wS ?_
| refine p_e rfl (zO rfl rfl rfl rfl aK rfl rfl rfl) ?_); refine ⟨_, aA, ?_⟩)
| (refine zK rfl ?_ ?_ <;> intro hc <;> try omega)
| refine krct ?_ ?_
| refine krC rfl aK ?_
| refine krB rfl ?_
| refine wE ?_)
   all_goals first | rfl | (exfalso; omega)
noncomputable def fewR : List Oper := regOps 3 (bodyC Tryz.f141)
theorem few_b {c2 c3 : Cu} {m k N b d : Nat} {A L : List OpD} (h3 : LCalls Tryz.prog 129 (cuB c2) [.hat 0 0, ints [2, 2, 3]] (cuB c3) (I (k : Int)))
 (hp : PCalls Tryz.prog 59 [algP m A, I (k : Int)] (.tup [algP (N : Int) L, B true])) : aAnyB Tryz.prog fewR.toArray (fun T => T = ⟨[.hatv 0 0 b d, PV.any, .hat 1 0, .ptr [I (m : Int), opsP A], .hat 2 0, B true, PV.any, PV.any, PV.any, PV.any, PV.any, PV.any, PV.any, PV.any, PV.any, PV.any, PV.any, PV.any, PV.any, .tup [algP (N : Int) L, B true], algP (m : Int) A, .hatv 0 0 b d, .sl 1 none [I 2, I 2, I 3], I (k : Int), .tup [algP (N : Int) L, B true], algP (N : Int) L, B true, PV.any, PV.any, PV.any], [cuB c3, .box [I 0, nilV], .box [I (N : Int), opsP L]]⟩) 11 #[false, false, false, false, false, false, false, false, false, false, false] ⟨[.hatv 0 0 b d, PV.any, .hat 1 0, .ptr [I (m : Int), opsP A], PV.any, PV.any, PV.any, PV.any, PV.any, PV.any, PV.any, PV.any, PV.any, PV.any, PV.any, PV.any, PV.any, PV.any, PV.any, PV.any, PV.any, PV.any, PV.any, PV.any, PV.any, PV.any, PV.any, PV.any, PV.any, PV.any], [cuB c2, .box [I 0, nilV], .gone]⟩ := by
 obtain ⟨K, hK⟩ : ∃ K, K = (fun T : St => T = ⟨[.hatv 0 0 b d, PV.any, .hat 1 0, .ptr [I (m : Int), opsP A], .hat 2 0, B true, PV.any, PV.any, PV.any, PV.any, PV.any, PV.any, PV.any, PV.any, PV.any, PV.any, PV.any, PV.any, PV.any, .tup [algP (N : Int) L, B true], algP (m : Int) A, .hatv 0 0 b d, .sl 1 none [I 2, I 2, I 3], I (k : Int), .tup [algP (N : Int) L, B true], algP (N : Int) L, B true, PV.any, PV.any, PV.any], [cuB c3, .box [I 0, nilV], .box [I (N : Int), opsP L]]⟩) := ⟨_, rfl⟩
 rw [← hK]
 have h11111111111 : aAnyB Tryz.prog fewR.toArray K 0 #[true, true, true, true, true, true, true, true, true, true, true] ⟨[.hatv 0 0 b d, .any, .hat 1 0, .ptr [I (m : Int), opsP A], .hat 2 0, B true, .any, .any, .any, .any, .any, .any, .any, .any, .any, .any, .any, .any, .any, .tup [algP (N : Int) L, B true], algP (m : Int) A, .hatv 0 0 b d, .sl 1 none [I 2, I 2, I 3], I (k : Int), .tup [algP (N : Int) L, B true], algP (N : Int) L, B true, .any, .any, .any], [cuB c3, .box [I 0, nilV], .box [I (N : Int), opsP L]]⟩ := b_end (by kernel_rfl) (by subst hK; rfl)
 have h11111111110 : aAnyB Tryz.prog fewR.toArray K 1 #[true, true, true, true, true, true, true, true, true, true, false] ⟨[.hatv 0 0 b d, .any, .hat 1 0, .ptr [I (m : Int), opsP A], .hat 2 0, .any, .any, .any, .any, .any, .any, .any, .any, .any, .any, .any, .any, .any, .any, .tup [algP (N : Int) L, B true], algP (m : Int) A, .hatv 0 0 b d, .sl 1 none [I 2, I 2, I 3], I (k : Int), .tup [algP (N : Int) L, B true], algP (N : Int) L, B true, .any, .any, .any], [cuB c3, .box [I 0, nilV], .box [I (N : Int), opsP L]]⟩ := b_all [10] (by kernel_rfl) rfl ⟨⟨_, rfl, rfl, _, e_of_p (zA rfl), _, aA, h11111111111⟩, trivial⟩
 have h11111111100 : aAnyB Tryz.prog fewR.toArray K 2 #[true, true, true, true, true, true, true, true, true, false, false] ⟨[.hatv 0 0 b d, .any, .hat 1 0, .ptr [I (m : Int), opsP A], .hat 2 0, .any, .any, .any, .any, .any, .any, .any, .any, .any, .any, .any, .any, .any, .any, .tup [algP (N : Int) L, B true], algP (m : Int) A, .hatv 0 0 b d, .sl 1 none [I 2, I 2, I 3], I (k : Int), .tup [algP (N : Int) L, B true], algP (N : Int) L, B true, .any, .any, .any], [cuB c3, .box [I 0, nilV], .box [I 0, nilV]]⟩ := b_all [9] (by kernel_rfl) rfl ⟨⟨_, rfl, rfl, _, zO rfl rfl rfl rfl aK rfl rfl rfl, _, aA, h11111111110⟩, trivial⟩
 have h11111111000 : aAnyB Tryz.prog fewR.toArray K 3 #[true, true, true, true, true, true, true, true, false, false, false] ⟨[.hatv 0 0 b d, .any, .hat 1 0, .ptr [I (m : Int), opsP A], .any, .any, .any, .any, .any, .any, .any, .any, .any, .any, .any, .any, .any, .any, .any, .tup [algP (N : Int) L, B true], algP (m : Int) A, .hatv 0 0 b d, .sl 1 none [I 2, I 2, I 3], I (k : Int), .tup [algP (N : Int) L, B true], algP (N : Int) L, B true, .any, .any, .any], [cuB c3, .box [I 0, nilV], .gone]⟩ := b_all [8] (by kernel_rfl) rfl ⟨⟨_, rfl, rfl, _, l_E (l_alloc 2 rfl) rfl rfl rfl, _, aA, h11111111100⟩, trivial⟩
 have h11111110110 : aAnyB Tryz.prog fewR.toArray K 2 #[true, true, true, true, true, true, true, false, true, true, false] ⟨[.hatv 0 0 b d, .any, .hat 1 0, .ptr [I (m : Int), opsP A], .hat 2 0, .any, .any, .any, .any, .any, .any, .any, .any, .any, .any, .any, .any, .any, .any, .tup [algP (N : Int) L, B true], algP (m : Int) A, .hatv 0 0 b d, .sl 1 none [I 2, I 2, I 3], I (k : Int), .tup [algP (N : Int) L, B true], algP (N : Int) L, .any, .any, .any, .any], [cuB c3, .box [I 0, nilV], .box [I (N : Int), opsP L]]⟩ := b_all [7] (by kernel_rfl) rfl ⟨⟨_, rfl, rfl, _, e_of_p (ps_extract rfl rfl rfl), _, aA, h11111111110⟩, trivial⟩
 have h11111110100 : aAnyB Tryz.prog fewR.toArray K 3 #[true, true, true, true, true, true, true, false, true, false, false] ⟨[.hatv 0 0 b d, .any, .hat 1 0, .ptr [I (m : Int), opsP A], .hat 2 0, .any, .any, .any, .any, .any, .any, .any, .any, .any, .any, .any, .any, .any, .any, .tup [algP (N : Int) L, B true], algP (m : Int) A, .hatv 0 0 b d, .sl 1 none [I 2, I 2, I 3], I (k : Int), .tup [algP (N : Int) L, B true], algP (N : Int) L, .any, .any, .any, .any], [cuB c3, .box [I 0, nilV], .box [I 0, nilV]]⟩ := b_all [7, 9] (by kernel_rfl) rfl ⟨⟨_, rfl, rfl, _, e_of_p (ps_extract rfl rfl rfl), _, aA, h11111111100⟩, ⟨_, rfl, rfl, _, zO rfl rfl rfl rfl aK rfl rfl rfl, _, aA, h11111110110⟩, trivial⟩
 have h11111110000 : aAnyB Tryz.prog fewR.toArray K 4 #[true, true, true, true, true, true, true, false, false, false, false] ⟨[.hatv 0 0 b d, .any, .hat 1 0, .ptr [I (m : Int), opsP A], .any, .any, .any, .any, .any, .any, .any, .any, .any, .any, .any, .any, .any, .any, .any, .tup [algP (N : Int) L, B true], algP (m : Int) A, .hatv 0 0 b d, .sl 1 none [I 2, I 2, I 3], I (k : Int), .tup [algP (N : Int) L, B true], algP (N : Int) L, .any, .any, .any, .any], [cuB c3, .box [I 0, nilV], .gone]⟩ := b_all [7, 8] (by kernel_rfl) rfl ⟨⟨_, rfl, rfl, _, e_of_p (ps_extract rfl rfl rfl), _, aA, h11111111000⟩, ⟨_, rfl, rfl, _, l_E (l_alloc 2 rfl) rfl rfl rfl, _, aA, h11111110100⟩, trivial⟩
 have h11111101100 : aAnyB Tryz.prog fewR.toArray K 3 #[true, true, true, true, true, true, false, true, true, false, false] ⟨[.hatv 0 0 b d, .any, .hat 1 0, .ptr [I (m : Int), opsP A], .hat 2 0, .any, .any, .any, .any, .any, .any, .any, .any, .any, .any, .any, .any, .any, .any, .tup [algP (N : Int) L, B true], algP (m : Int) A, .hatv 0 0 b d, .sl 1 none [I 2, I 2, I 3], I (k : Int), .tup [algP (N : Int) L, B true], .any, B true, .any, .any, .any], [cuB c3, .box [I 0, nilV], .box [I 0, nilV]]⟩ := b_all [6] (by kernel_rfl) rfl ⟨⟨_, rfl, rfl, _, e_of_p (ps_extract rfl rfl rfl), _, aA, h11111111100⟩, trivial⟩
 have h11111101000 : aAnyB Tryz.prog fewR.toArray K 4 #[true, true, true, true, true, true, false, true, false, false, false] ⟨[.hatv 0 0 b d, .any, .hat 1 0, .ptr [I (m : Int), opsP A], .any, .any, .any, .any, .any, .any, .any, .any, .any, .any, .any, .any, .any, .any, .any, .tup [algP (N : Int) L, B true], algP (m : Int) A, .hatv 0 0 b d, .sl 1 none [I 2, I 2, I 3], I (k : Int), .tup [algP (N : Int) L, B true], .any, B true, .any, .any, .any], [cuB c3, .box [I 0, nilV], .gone]⟩ := b_all [6, 8] (by kernel_rfl) rfl ⟨⟨_, rfl, rfl, _, e_of_p (ps_extract rfl rfl rfl), _, aA, h11111111000⟩, ⟨_, rfl, rfl, _, l_E (l_alloc 2 rfl) rfl rfl rfl, _, aA, h11111101100⟩, trivial⟩
 have h11111100100 : aAnyB Tryz.prog fewR.toArray K 4 #[true, true, true, true, true, true, false, false, true, false, false] ⟨[.hatv 0 0 b d, .any, .hat 1 0, .ptr [I (m : Int), opsP A], .hat 2 0, .any, .any, .any, .any, .any, .any, .any, .any, .any, .any, .any, .any, .any, .any, .tup [algP (N : Int) L, B true], algP (m : Int) A, .hatv 0 0 b d, .sl 1 none [I 2, I 2, I 3], I (k : Int), .tup [algP (N : Int) L, B true], .any, .any, .any, .any, .any], [cuB c3, .box [I 0, nilV], .box [I 0, nilV]]⟩ := b_all [6, 7] (by kernel_rfl) rfl ⟨⟨_, rfl, rfl, _, e_of_p (ps_extract rfl rfl rfl), _, aA, h11111110100⟩, ⟨_, rfl, rfl, _, e_of_p (ps_extract rfl rfl rfl), _, aA, h11111101100⟩, trivial⟩
 have h11111100000 : aAnyB Tryz.prog fewR.toArray K 5 #[true, true, true, true, true, true, false, false, false, false, false] ⟨[.hatv 0 0 b d, .any, .hat 1 0, .ptr [I (m : Int), opsP A], .any, .any, .any, .any, .any, .any, .any, .any, .any, .any, .any, .any, .any, .any, .any, .tup [algP (N : Int) L, B true], algP (m : Int) A, .hatv 0 0 b d, .sl 1 none [I 2, I 2, I 3], I (k : Int), .tup [algP (N : Int) L, B true], .any, .any, .any, .any, .any], [cuB c3, .box [I 0, nilV], .gone]⟩ := b_all [6, 7, 8] (by kernel_rfl) rfl ⟨⟨_, rfl, rfl, _, e_of_p (ps_extract rfl rfl rfl), _, aA, h11111110000⟩, ⟨_, rfl, rfl, _, e_of_p (ps_extract rfl rfl rfl), _, aA, h11111101000⟩, ⟨_, rfl, rfl, _, l_E (l_alloc 2 rfl) rfl rfl rfl, _, aA, h11111100100⟩, trivial⟩
 have h11111000100 : aAnyB Tryz.prog fewR.toArray K 5 #[true, true, true, true, true, false, false, false, true, false, false] ⟨[.hatv 0 0 b d, .any, .hat 1 0, .ptr [I (m : Int), opsP A], .hat 2 0, .any, .any, .any, .any, .any, .any, .any, .any, .any, .any, .any, .any, .any, .any, .any, algP (m : Int) A, .hatv 0 0 b d, .sl 1 none [I 2, I 2, I 3], I (k : Int), .tup [algP (N : Int) L, B true], .any, .any, .any, .any, .any], [cuB c3, .box [I 0, nilV], .box [I 0, nilV]]⟩ := b_all [5] (by kernel_rfl) rfl ⟨⟨_, rfl, rfl, _, e_of_p (zD rfl), _, aA, h11111100100⟩, trivial⟩
 have h11111000000 : aAnyB Tryz.prog fewR.toArray K 6 #[true, true, true, true, true, false, false, false, false, false, false] ⟨[.hatv 0 0 b d, .any, .hat 1 0, .ptr [I (m : Int), opsP A], .any, .any, .any, .any, .any, .any, .any, .any, .any, .any, .any, .any, .any, .any, .any, .any, algP (m : Int) A, .hatv 0 0 b d, .sl 1 none [I 2, I 2, I 3], I (k : Int), .tup [algP (N : Int) L, B true], .any, .any, .any, .any, .any], [cuB c3, .box [I 0, nilV], .gone]⟩ := b_all [5, 8] (by kernel_rfl) rfl ⟨⟨_, rfl, rfl, _, e_of_p (zD rfl), _, aA, h11111100000⟩, ⟨_, rfl, rfl, _, l_E (l_alloc 2 rfl) rfl rfl rfl, _, aA, h11111000100⟩, trivial⟩
 have h11110000100 : aAnyB Tryz.prog fewR.toArray K 6 #[true, true, true, true, false, false, false, false, true, false, false] ⟨[.hatv 0 0 b d, .any, .hat 1 0, .ptr [I (m : Int), opsP A], .hat 2 0, .any, .any, .any, .any, .any, .any, .any, .any, .any, .any, .any, .any, .any, .any, .any, algP (m : Int) A, .hatv 0 0 b d, .sl 1 none [I 2, I 2, I 3], I (k : Int), .any, .any, .any, .any, .any, .any], [cuB c3, .box [I 0, nilV], .box [I 0, nilV]]⟩ := b_all [4] (by kernel_rfl) rfl ⟨⟨_, rfl, rfl, _, e_of_p (zG rfl rfl aD hp), _, aA, h11111000100⟩, trivial⟩
 have h11110000000 : aAnyB Tryz.prog fewR.toArray K 7 #[true, true, true, true, false, false, false, false, false, false, false] ⟨[.hatv 0 0 b d, .any, .hat 1 0, .ptr [I (m : Int), opsP A], .any, .any, .any, .any, .any, .any, .any, .any, .any, .any, .any, .any, .any, .any, .any, .any, algP (m : Int) A, .hatv 0 0 b d, .sl 1 none [I 2, I 2, I 3], I (k : Int), .any, .any, .any, .any, .any, .any], [cuB c3, .box [I 0, nilV], .gone]⟩ := b_all [4, 8] (by kernel_rfl) rfl ⟨⟨_, rfl, rfl, _, e_of_p (zG rfl rfl aD hp), _, aA, h11111000000⟩, ⟨_, rfl, rfl, _, l_E (l_alloc 2 rfl) rfl rfl rfl, _, aA, h11110000100⟩, trivial⟩
 have h11100000100 : aAnyB Tryz.prog fewR.toArray K 7 #[true, true, true, false, false, false, false, false, true, false, false] ⟨[.hatv 0 0 b d, .any, .hat 1 0, .ptr [I (m : Int), opsP A], .hat 2 0, .any, .any, .any, .any, .any, .any, .any, .any, .any, .any, .any, .any, .any, .any, .any, algP (m : Int) A, .hatv 0 0 b d, .sl 1 none [I 2, I 2, I 3], .any, .any, .any, .any, .any, .any, .any], [cuB c2, .box [I 0, nilV], .box [I 0, nilV]]⟩ := b_all [3] (by kernel_rfl) rfl ⟨⟨_, rfl, rfl, _, e_callL (n := 0) rfl rfl rfl aJ rfl (by rfl) aQ h3, _, aA, h11110000100⟩, trivial⟩
 have h11100000000 : aAnyB Tryz.prog fewR.toArray K 8 #[true, true, true, false, false, false, false, false, false, false, false] ⟨[.hatv 0 0 b d, .any, .hat 1 0, .ptr [I (m : Int), opsP A], .any, .any, .any, .any, .any, .any, .any, .any, .any, .any, .any, .any, .any, .any, .any, .any, algP (m : Int) A, .hatv 0 0 b d, .sl 1 none [I 2, I 2, I 3], .any, .any, .any, .any, .any, .any, .any], [cuB c2, .box [I 0, nilV], .gone]⟩ := b_all [3, 8] (by kernel_rfl) rfl ⟨⟨_, rfl, rfl, _, e_callL (n := 0) rfl rfl rfl aJ rfl (by rfl) aQ h3, _, aA, h11110000000⟩, ⟨_, rfl, rfl, _, l_E (l_alloc 2 rfl) rfl rfl rfl, _, aA, h11100000100⟩, trivial⟩
 have h11000000100 : aAnyB Tryz.prog fewR.toArray K 8 #[true, true, false, false, false, false, false, false, true, false, false] ⟨[.hatv 0 0 b d, .any, .hat 1 0, .ptr [I (m : Int), opsP A], .hat 2 0, .any, .any, .any, .any, .any, .any, .any, .any, .any, .any, .any, .any, .any, .any, .any, algP (m : Int) A, .hatv 0 0 b d, .any, .any, .any, .any, .any, .any, .any, .any], [cuB c2, .box [I 0, nilV], .box [I 0, nilV]]⟩ := b_all [2] (by kernel_rfl) rfl ⟨⟨_, rfl, rfl, _, e_of_p (ps_lits rfl (by exact rfl) (by exact rfl) aU (by decide) (by decide)), _, aA, h11100000100⟩, trivial⟩
 have h11000000000 : aAnyB Tryz.prog fewR.toArray K 9 #[true, true, false, false, false, false, false, false, false, false, false] ⟨[.hatv 0 0 b d, .any, .hat 1 0, .ptr [I (m : Int), opsP A], .any, .any, .any, .any, .any, .any, .any, .any, .any, .any, .any, .any, .any, .any, .any, .any, algP (m : Int) A, .hatv 0 0 b d, .any, .any, .any, .any, .any, .any, .any, .any], [cuB c2, .box [I 0, nilV], .gone]⟩ := b_all [2, 8] (by kernel_rfl) rfl ⟨⟨_, rfl, rfl, _, e_of_p (ps_lits rfl (by exact rfl) (by exact rfl) aU (by decide) (by decide)), _, aA, h11100000000⟩, ⟨_, rfl, rfl, _, l_E (l_alloc 2 rfl) rfl rfl rfl, _, aA, h11000000100⟩, trivial⟩
 have h10100000100 : aAnyB Tryz.prog fewR.toArray K 8 #[true, false, true, false, false, false, false, false, true, false, false] ⟨[.hatv 0 0 b d, .any, .hat 1 0, .ptr [I (m : Int), opsP A], .hat 2 0, .any, .any, .any, .any, .any, .any, .any, .any, .any, .any, .any, .any, .any, .any, .any, algP (m : Int) A, .any, .sl 1 none [I 2, I 2, I 3], .any, .any, .any, .any, .any, .any, .any], [cuB c2, .box [I 0, nilV], .box [I 0, nilV]]⟩ := b_all [1] (by kernel_rfl) rfl ⟨⟨_, rfl, rfl, _, e_of_p (zD rfl), _, aA, h11100000100⟩, trivial⟩
 have h10100000000 : aAnyB Tryz.prog fewR.toArray K 9 #[true, false, true, false, false, false, false, false, false, false, false] ⟨[.hatv 0 0 b d, .any, .hat 1 0, .ptr [I (m : Int), opsP A], .any, .any, .any, .any, .any, .any, .any, .any, .any, .any, .any, .any, .any, .any, .any, .any, algP (m : Int) A, .any, .sl 1 none [I 2, I 2, I 3], .any, .any, .any, .any, .any, .any, .any], [cuB c2, .box [I 0, nilV], .gone]⟩ := b_all [1, 8] (by kernel_rfl) rfl ⟨⟨_, rfl, rfl, _, e_of_p (zD rfl), _, aA, h11100000000⟩, ⟨_, rfl, rfl, _, l_E (l_alloc 2 rfl) rfl rfl rfl, _, aA, h10100000100⟩, trivial⟩
 have h10000000100 : aAnyB Tryz.prog fewR.toArray K 9 #[true, false, false, false, false, false, false, false, true, false, false] ⟨[.hatv 0 0 b d, .any, .hat 1 0, .ptr [I (m : Int), opsP A], .hat 2 0, .any, .any, .any, .any, .any, .any, .any, .any, .any, .any, .any, .any, .any, .any, .any, algP (m : Int) A, .any, .any, .any, .any, .any, .any, .any, .any, .any], [cuB c2, .box [I 0, nilV], .box [I 0, nilV]]⟩ := b_all [1, 2] (by kernel_rfl) rfl ⟨⟨_, rfl, rfl, _, e_of_p (zD rfl), _, aA, h11000000100⟩, ⟨_, rfl, rfl, _, e_of_p (ps_lits rfl (by exact rfl) (by exact rfl) aU (by decide) (by decide)), _, aA, h10100000100⟩, trivial⟩
 have h10000000000 : aAnyB Tryz.prog fewR.toArray K 10 #[true, false, false, false, false, false, false, false, false, false, false] ⟨[.hatv 0 0 b d, .any, .hat 1 0, .ptr [I (m : Int), opsP A], .any, .any, .any, .any, .any, .any, .any, .any, .any, .any, .any, .any, .any, .any, .any, .any, algP (m : Int) A, .any, .any, .any, .any, .any, .any, .any, .any, .any], [cuB c2, .box [I 0, nilV], .gone]⟩ := b_all [1, 2, 8] (by kernel_rfl) rfl ⟨⟨_, rfl, rfl, _, e_of_p (zD rfl), _, aA, h11000000000⟩, ⟨_, rfl, rfl, _, e_of_p (ps_lits rfl (by exact rfl) (by exact rfl) aU (by decide) (by decide)), _, aA, h10100000000⟩, ⟨_, rfl, rfl, _, l_E (l_alloc 2 rfl) rfl rfl rfl, _, aA, h10000000100⟩, trivial⟩
 have h01110000100 : aAnyB Tryz.prog fewR.toArray K 7 #[false, true, true, true, false, false, false, false, true, false, false] ⟨[.hatv 0 0 b d, .any, .hat 1 0, .ptr [I (m : Int), opsP A], .hat 2 0, .any, .any, .any, .any, .any, .any, .any, .any, .any, .any, .any, .any, .any, .any, .any, .any, .hatv 0 0 b d, .sl 1 none [I 2, I 2, I 3], I (k : Int), .any, .any, .any, .any, .any, .any], [cuB c3, .box [I 0, nilV], .box [I 0, nilV]]⟩ := b_all [0] (by kernel_rfl) rfl ⟨⟨_, rfl, rfl, _, e_of_p (ps_load_agg rfl rfl aK), _, aA, h11110000100⟩, trivial⟩
 have h01110000000 : aAnyB Tryz.prog fewR.toArray K 8 #[false, true, true, true, false, false, false, false, false, false, false] ⟨[.hatv 0 0 b d, .any, .hat 1 0, .ptr [I (m : Int), opsP A], .any, .any, .any, .any, .any, .any, .any, .any, .any, .any, .any, .any, .any, .any, .any, .any, .any, .hatv 0 0 b d, .sl 1 none [I 2, I 2, I 3], I (k : Int), .any, .any, .any, .any, .any, .any], [cuB c3, .box [I 0, nilV], .gone]⟩ := b_all [0, 8] (by kernel_rfl) rfl ⟨⟨_, rfl, rfl, _, e_of_p (ps_load_agg rfl rfl aK), _, aA, h11110000000⟩, ⟨_, rfl, rfl, _, l_E (l_alloc 2 rfl) rfl rfl rfl, _, aA, h01110000100⟩, trivial⟩
 have h01100000100 : aAnyB Tryz.prog fewR.toArray K 8 #[false, true, true, false, false, false, false, false, true, false, false] ⟨[.hatv 0 0 b d, .any, .hat 1 0, .ptr [I (m : Int), opsP A], .hat 2 0, .any, .any, .any, .any, .any, .any, .any, .any, .any, .any, .any, .any, .any, .any, .any, .any, .hatv 0 0 b d, .sl 1 none [I 2, I 2, I 3], .any, .any, .any, .any, .any, .any, .any], [cuB c2, .box [I 0, nilV], .box [I 0, nilV]]⟩ := b_all [0, 3] (by kernel_rfl) rfl ⟨⟨_, rfl, rfl, _, e_of_p (ps_load_agg rfl rfl aK), _, aA, h11100000100⟩, ⟨_, rfl, rfl, _, e_callL (n := 0) rfl rfl rfl aJ rfl (by rfl) aQ h3, _, aA, h01110000100⟩, trivial⟩
 have h01100000000 : aAnyB Tryz.prog fewR.toArray K 9 #[false, true, true, false, false, false, false, false, false, false, false] ⟨[.hatv 0 0 b d, .any, .hat 1 0, .ptr [I (m : Int), opsP A], .any, .any, .any, .any, .any, .any, .any, .any, .any, .any, .any, .any, .any, .any, .any, .any, .any, .hatv 0 0 b d, .sl 1 none [I 2, I 2, I 3], .any, .any, .any, .any, .any, .any, .any], [cuB c2, .box [I 0, nilV], .gone]⟩ := b_all [0, 3, 8] (by kernel_rfl) rfl ⟨⟨_, rfl, rfl, _, e_of_p (ps_load_agg rfl rfl aK), _, aA, h11100000000⟩, ⟨_, rfl, rfl, _, e_callL (n := 0) rfl rfl rfl aJ rfl (by rfl) aQ h3, _, aA, h01110000000⟩, ⟨_, rfl, rfl, _, l_E (l_alloc 2 rfl) rfl rfl rfl, _, aA, h01100000100⟩, trivial⟩
 have h01000000100 : aAnyB Tryz.prog fewR.toArray K 9 #[false, true, false, false, false, false, false, false, true, false, false] ⟨[.hatv 0 0 b d, .any, .hat 1 0, .ptr [I (m : Int), opsP A], .hat 2 0, .any, .any, .any, .any, .any, .any, .any, .any, .any, .any, .any, .any, .any, .any, .any, .any, .hatv 0 0 b d, .any, .any, .any, .any, .any, .any, .any, .any], [cuB c2, .box [I 0, nilV], .box [I 0, nilV]]⟩ := b_all [0, 2] (by kernel_rfl) rfl ⟨⟨_, rfl, rfl, _, e_of_p (ps_load_agg rfl rfl aK), _, aA, h11000000100⟩, ⟨_, rfl, rfl, _, e_of_p (ps_lits rfl (by exact rfl) (by exact rfl) aU (by decide) (by decide)), _, aA, h01100000100⟩, trivial⟩
 have h01000000000 : aAnyB Tryz.prog fewR.toArray K 10 #[false, true, false, false, false, false, false, false, false, false, false] ⟨[.hatv 0 0 b d, .any, .hat 1 0, .ptr [I (m : Int), opsP A], .any, .any, .any, .any, .any, .any, .any, .any, .any, .any, .any, .any, .any, .any, .any, .any, .any, .hatv 0 0 b d, .any, .any, .any, .any, .any, .any, .any, .any], [cuB c2, .box [I 0, nilV], .gone]⟩ := b_all [0, 2, 8] (by kernel_rfl) rfl ⟨⟨_, rfl, rfl, _, e_of_p (ps_load_agg rfl rfl aK), _, aA, h11000000000⟩, ⟨_, rfl, rfl, _, e_of_p (ps_lits rfl (by exact rfl) (by exact rfl) aU (by decide) (by decide)), _, aA, h01100000000⟩, ⟨_, rfl, rfl, _, l_E (l_alloc 2 rfl) rfl rfl rfl, _, aA, h01000000100⟩, trivial⟩
 have h00100000100 : aAnyB Tryz.prog fewR.toArray K 9 #[false, false, true, false, false, false, false, false, true, false, false] ⟨[.hatv 0 0 b d, .any, .hat 1 0, .ptr [I (m : Int), opsP A], .hat 2 0, .any, .any, .any, .any, .any, .any, .any, .any, .any, .any, .any, .any, .any, .any, .any, .any, .any, .sl 1 none [I 2, I 2, I 3], .any, .any, .any, .any, .any, .any, .any], [cuB c2, .box [I 0, nilV], .box [I 0, nilV]]⟩ := b_all [0, 1] (by kernel_rfl) rfl ⟨⟨_, rfl, rfl, _, e_of_p (ps_load_agg rfl rfl aK), _, aA, h10100000100⟩, ⟨_, rfl, rfl, _, e_of_p (zD rfl), _, aA, h01100000100⟩, trivial⟩
 have h00100000000 : aAnyB Tryz.prog fewR.toArray K 10 #[false, false, true, false, false, false, false, false, false, false, false] ⟨[.hatv 0 0 b d, .any, .hat 1 0, .ptr [I (m : Int), opsP A], .any, .any, .any, .any, .any, .any, .any, .any, .any, .any, .any, .any, .any, .any, .any, .any, .any, .any, .sl 1 none [I 2, I 2, I 3], .any, .any, .any, .any, .any, .any, .any], [cuB c2, .box [I 0, nilV], .gone]⟩ := b_all [0, 1, 8] (by kernel_rfl) rfl ⟨⟨_, rfl, rfl, _, e_of_p (ps_load_agg rfl rfl aK), _, aA, h10100000000⟩, ⟨_, rfl, rfl, _, e_of_p (zD rfl), _, aA, h01100000000⟩, ⟨_, rfl, rfl, _, l_E (l_alloc 2 rfl) rfl rfl rfl, _, aA, h00100000100⟩, trivial⟩
 have h00000000100 : aAnyB Tryz.prog fewR.toArray K 10 #[false, false, false, false, false, false, false, false, true, false, false] ⟨[.hatv 0 0 b d, .any, .hat 1 0, .ptr [I (m : Int), opsP A], .hat 2 0, .any, .any, .any, .any, .any, .any, .any, .any, .any, .any, .any, .any, .any, .any, .any, .any, .any, .any, .any, .any, .any, .any, .any, .any, .any], [cuB c2, .box [I 0, nilV], .box [I 0, nilV]]⟩ := b_all [0, 1, 2] (by kernel_rfl) rfl ⟨⟨_, rfl, rfl, _, e_of_p (ps_load_agg rfl rfl aK), _, aA, h10000000100⟩, ⟨_, rfl, rfl, _, e_of_p (zD rfl), _, aA, h01000000100⟩, ⟨_, rfl, rfl, _, e_of_p (ps_lits rfl (by exact rfl) (by exact rfl) aU (by decide) (by decide)), _, aA, h00100000100⟩, trivial⟩
 have h00000000000 : aAnyB Tryz.prog fewR.toArray K 11 #[false, false, false, false, false, false, false, false, false, false, false] ⟨[.hatv 0 0 b d, .any, .hat 1 0, .ptr [I (m : Int), opsP A], .any, .any, .any, .any, .any, .any, .any, .any, .any, .any, .any, .any, .any, .any, .any, .any, .any, .any, .any, .any, .any, .any, .any, .any, .any, .any], [cuB c2, .box [I 0, nilV], .gone]⟩ := b_all [0, 1, 2, 8] (by kernel_rfl) rfl ⟨⟨_, rfl, rfl, _, e_of_p (ps_load_agg rfl rfl aK), _, aA, h10000000000⟩, ⟨_, rfl, rfl, _, e_of_p (zD rfl), _, aA, h01000000000⟩, ⟨_, rfl, rfl, _, e_of_p (ps_lits rfl (by exact rfl) (by exact rfl) aU (by decide) (by decide)), _, aA, h00100000000⟩, ⟨_, rfl, rfl, _, l_E (l_alloc 2 rfl) rfl rfl rfl, _, aA, h00000000100⟩, trivial⟩
 exact h00000000000
theorem few16_L {c : Cu} {M : Int} (h : c.ok M) (hM : M ≤ 600000) : ∃ c' n ops, c'.ok (M + 1010) ∧ szOk ops ∧ ops.length ≤ 10 ∧ 0 ≤ n ∧ n ≤ 9 ∧ LCalls Tryz.prog 141 (cuB c) [.hat 0 0] (cuB c') (algP n ops) := by
 obtain ⟨c1, n, ops, k1, hs, hz, h1⟩ := algebra_B h hM
 have g1 := sgood_c n ops hs.ok
 have hz9 : 0 ≤ n ∧ n ≤ 9 := by unfold szN at hz; omega
 by_cases hg : algOk n ops = true ∧ n < 3
 · obtain ⟨hg, hn3⟩ := hg
   obtain ⟨m, rfl, hm0, hm8, h4, ho⟩ := algOk_facts hg
   rw [hg] at g1
   obtain ⟨c2, b, k2, h2⟩ := one_L k1 (by omega) 2 (by decide)
   cases b with
   | false =>
    refine ⟨c2, m, ops, k2.up (by omega), hs.ok, hs.1, hz9.1, hz9.2, ?_⟩
    refine pcallsLC Tryz.func141 rfl Tryz.ntmps141 rfl rfl rfl (by simp) fun b d => ?_
    simp only [List.length_cons, List.length_nil, Nat.reduceAdd, Nat.reduceSub, List.replicate_succ, List.replicate_zero]
    repeat' (first
| refine g_settle 2 rfl (by dsimp only [setlP, setl1, setlH, bitvec_to_nat, Nat.reduceAdd, Nat.reduceMul, Nat.reduceBEq, reduceCtorEq]) ?_
| refine wO ?_
| (refine o_go rfl ?_; (first
| refine p_e rfl (e_callL (n := 0) rfl rfl rfl aJ rfl (by rfl) aQ (h1)) ?_
| refine p_p (zG rfl rfl aD (g1)) ?_
| refine p_e rfl (e_callL (n := 0) rfl rfl rfl aJ rfl (by rfl) aQ (h2)) ?_
| refine wS ?_
| refine p_p (ps_load_agg rfl rfl aK) ?_
| refine p_e rfl (zO rfl rfl rfl rfl aK rfl rfl rfl) ?_
| refine p_e rfl (e_alloc rfl) ?_); refine ⟨_, aA, ?_⟩)
| (refine o_splitD rfl rfl rfl ?_ ?_ <;> intro hc <;> first | omega | dsimp only [List.set_cons_zero, List.set_cons_succ])
| refine wE ?_)
    all_goals try (exfalso; omega)
    change KRLC _ _ _ _ _ _ .ret _
    exact krlc 0 0 rfl rfl rfl (krC rfl aK rfl)
   | true =>
    obtain ⟨c3, k, k3, hk, h3⟩ := among_L k2 (by omega) [2, 2, 3] (by decide) (by decide)
    obtain ⟨k, rfl, hk2⟩ : ∃ j : Nat, k = (j : Int) ∧ (j = 2 ∨ j = 3) := by
     simp only [List.mem_cons, List.not_mem_nil, or_false] at hk
     exact ⟨k.toNat, by omega, by omega⟩
    have hnk : m ^ k ≤ 8 := by
     have hm : m = 1 ∨ m = 2 := by omega
     rcases hm with rfl | rfl <;> rcases hk2 with rfl | rfl <;> decide
    have hp := spow_c m ops k hs.ok hg (by omega) hnk
    obtain ⟨p1, p2⟩ := pow_facts hm0 ho k
    have hN0 : 0 < m ^ k := Nat.pow_pos hm0
    have hl : (powL m ops k).length ≤ 10 := by rw [p2.len]; omega
    generalize powL m ops k = L at *
    generalize m ^ k = N at *
    refine ⟨c3, N, L, k3.up (by omega), opsIn_sz hnk p1 (by omega), hl, by omega, by omega, ?_⟩
    refine pcallsLC Tryz.func141 rfl Tryz.ntmps141 rfl rfl rfl (by simp) fun b d => ?_
    simp only [List.length_cons, List.length_nil, Nat.reduceAdd, Nat.reduceSub, List.replicate_succ, List.replicate_zero]
    repeat' (first
| refine g_settle 2 rfl (by dsimp only [setlP, setl1, setlH, bitvec_to_nat, Nat.reduceAdd, Nat.reduceMul, Nat.reduceBEq, reduceCtorEq]) ?_
| refine wO ?_
| (refine o_go rfl ?_; (first
| refine p_e rfl (e_callL (n := 0) rfl rfl rfl aJ rfl (by rfl) aQ (h1)) ?_
| refine p_p (zG rfl rfl aD (g1)) ?_
| refine p_e rfl (e_callL (n := 0) rfl rfl rfl aJ rfl (by rfl) aQ (h2)) ?_
| refine wS ?_
| refine p_p (ps_load_agg rfl rfl aK) ?_
| refine p_e rfl (zO rfl rfl rfl rfl aK rfl rfl rfl) ?_
| refine p_e rfl (e_alloc rfl) ?_); refine ⟨_, aA, ?_⟩)
| (refine o_splitD rfl rfl rfl ?_ ?_ <;> intro hc <;> first | omega | dsimp only [List.set_cons_zero, List.set_cons_succ]))
    all_goals try (exfalso; omega)
    refine g_weaken (S' := ⟨[.hatv 0 0 b d, PV.any, .hat 1 0, .ptr [I (m : Int), opsP ops], PV.any, PV.any, PV.any, PV.any, PV.any, PV.any, PV.any, PV.any, PV.any, PV.any, PV.any, PV.any, PV.any, PV.any, PV.any, PV.any, PV.any, PV.any, PV.any, PV.any, PV.any, PV.any, PV.any, PV.any, PV.any, PV.any], [cuB c2, .box [I 0, nilV]]⟩) ⟨aI, zB rfl (zB rfl (zM _))⟩ ?_
    refine g_gones [.gone] ⟨rfl, trivial⟩ ⟨_, by dsimp only [bitvec_to_nat, Nat.reduceAdd, Nat.reduceMul, Nat.reduceBEq, reduceCtorEq, posI, optP, lendM1, lendMA, lendMP, killM1, killMA, killMP, hasI, getO, backM1, backMA, backMP, putL, inpM, pinM1, pinMA, pinMP, killR1, killRA, killR], ?_⟩
    refine g_region_BJ (l := fewR) (by kernel_rfl) 11 rfl (few_b h3 hp) ?_
    repeat' (first
| refine wO ?_
| (refine o_go rfl ?_; (first
| refine wS ?_
| refine p_e rfl (zO rfl rfl rfl rfl aK rfl rfl rfl) ?_); refine ⟨_, aA, ?_⟩)
| refine wE ?_)
    all_goals try (exfalso; omega)
    change KRLC _ _ _ _ _ _ .ret _
    exact krlc 0 0 rfl rfl rfl (krC rfl aK rfl)
 · refine ⟨c1, n, ops, k1.up (by omega), hs.ok, hs.1, hz9.1, hz9.2, ?_⟩
   refine pcallsLC Tryz.func141 rfl Tryz.ntmps141 rfl rfl rfl (by simp) fun b d => ?_
   simp only [List.length_cons, List.length_nil, Nat.reduceAdd, Nat.reduceSub, List.replicate_succ, List.replicate_zero]
   cases hg' : algOk n ops with
   | false =>
    rw [hg'] at g1
    repeat' (first
| refine g_settle 2 rfl (by dsimp only [setlP, setl1, setlH, bitvec_to_nat, Nat.reduceAdd, Nat.reduceMul, Nat.reduceBEq, reduceCtorEq]) ?_
| refine wO ?_
| (refine o_go rfl ?_; (first
| refine p_e rfl (e_callL (n := 0) rfl rfl rfl aJ rfl (by rfl) aQ (h1)) ?_
| refine p_p (zG rfl rfl aD (g1)) ?_
| refine wS ?_
| refine p_p (ps_load_agg rfl rfl aK) ?_
| refine p_e rfl (zO rfl rfl rfl rfl aK rfl rfl rfl) ?_
| refine p_e rfl (e_alloc rfl) ?_); refine ⟨_, aA, ?_⟩)
| (refine o_s rfl ?_; refine ⟨_, aA, ?_⟩)
| refine wE ?_)
    all_goals try (exfalso; omega)
    change KRLC _ _ _ _ _ _ .ret _
    exact krlc 0 0 rfl rfl rfl (krC rfl aK rfl)
   | true =>
    rw [hg'] at g1
    have hn3 : ¬ n < 3 := fun hh => hg ⟨hg', hh⟩
    repeat' (first
| refine g_settle 2 rfl (by dsimp only [setlP, setl1, setlH, bitvec_to_nat, Nat.reduceAdd, Nat.reduceMul, Nat.reduceBEq, reduceCtorEq]) ?_
| refine wO ?_
| (refine o_go rfl ?_; (first
| refine p_e rfl (e_callL (n := 0) rfl rfl rfl aJ rfl (by rfl) aQ (h1)) ?_
| refine p_p (zG rfl rfl aD (g1)) ?_
| refine wS ?_
| refine p_p (ps_load_agg rfl rfl aK) ?_
| refine p_e rfl (zO rfl rfl rfl rfl aK rfl rfl rfl) ?_
| refine p_e rfl (e_alloc rfl) ?_); refine ⟨_, aA, ?_⟩)
| (refine o_s rfl ?_; refine ⟨_, aA, ?_⟩)
| (refine o_splitD rfl rfl rfl ?_ ?_ <;> intro hc <;> first | omega | dsimp only [List.set_cons_zero, List.set_cons_succ])
| refine wE ?_)
    all_goals try (exfalso; omega)
    change KRLC _ _ _ _ _ _ .ret _
    exact krlc 0 0 rfl rfl rfl (krC rfl aK rfl)
end Go.Proofs.YtbohjibbgppfaaaGreat
