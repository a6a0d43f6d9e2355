/- Walks: how many factors make the join, partitions that permute, both sides. -/
import Derived.Test.YtnjocjfhaahmfaaGreatJVn
namespace Go.Proofs.YtnjocjfhaahmfaaGreat
open Go Go.Pv Go.Proofs
set_option maxHeartbeats 32000000
set_option maxRecDepth 100000
attribute [local bitvec_to_nat] St.put St.setObj St.ev killP killA killP1 killH mapHO renP renA ren1 killG killGA killG1 krowP krowA krow1 lendP lendA lend1 unv pinP pin1 elemsM viewM viewN viewV n_set_z n_set_s n_map_c n_map_n getD_z getD_s n_toNat n_cond_t n_cond_f n_len_c n_len_n n_app_c n_app_n n_take_s n_take_z n_drop_s n_drop_z n_get_z n_get_s view viewA view1 elems Nat.zero_add Nat.add_zero Bool.not_true Bool.not_false Nat.one_ne_zero Nat.mul_one

theorem ftj_at {n : Nat} {p q : List Int} (hn : 0 < n) (hp : Pt n p) (hq : Pt n q) {k : Nat} (h1 : reL n (facB n p q k) = reL n (ptR (joinP n p q))) (h2 : ∀ j, j < k → reL n (facB n p q j) ≠ reL n (ptR (joinP n p q))) : ftj n p q = k + 1 := by
  obtain ⟨k0, e, -, e1, e2⟩ := ftj_spec hn hp hq
  rw [e]
  rcases Nat.lt_trichotomy k0 k with h | h | h
  · exact absurd e1 (h2 k0 h)
  · rw [h]
  · exact absurd h1 (e2 k h)
theorem fac_lt {n : Nat} {p q : List Int} (hp : Pt n p) (hq : Pt n q) {k : Nat} (h : reL n (facB n p q k) ≠ reL n (ptR (joinP n p q))) : (reL n (facB n p q k)).length < (reL n (ptR (joinP n p q))).length := by
  obtain ⟨h1, h2⟩ := reL_sub (R := facB n p q k) (S := ptR (joinP n p q)) (fun x z hx hz h => fac_in hp hq hx hz h)
  exact Nat.lt_of_le_of_ne h1 fun e => h (h2 e)
theorem fac_next (n : Nat) (p q : List Int) (k : Nat) : cmpR n (facB n p q k) (ptR (if k % 2 = 0 then q else p)) = facB n p q (k + 1) := rfl
theorem iftj_c (n : Nat) (p q : List Int) (hn0 : 0 < n) (hn : n ≤ 8) (hp : Pt n p) (hq : Pt n q) : PCalls Tryz.prog 142 [ints p, ints q] (I (ftj n p q : Int)) := by
  refine pcalls1 Tryz.func142 rfl Tryz.ntmps142 rfl ?_
  refine wF ?_
  have hj := join_pt hp hq
  have j1 : PCalls Tryz.prog 147 [ints p, ints q] (ints (joinP n p q)) := rcalls_P rfl (ijoin_R n p q (by omega) hp.len hq)
  have r1 := irop_c (joinP n p q) (by rw [hj.len]; omega)
  have r2 := irop_c p (by rw [hp.len]; omega)
  have r3 := irop_c q (by rw [hq.len]; omega)
  rw [hj.len] at r1
  rw [hp.len] at r2
  rw [hq.len] at r3
  have hcp := fun k => icomp_c n (facB n p q k) (ptR (if k % 2 = 0 then q else p)) (by omega)
  have hat := fun k h1 h2 => ftj_at (k := k) hn0 hp hq h1 h2
  have hlt := fun k h => fac_lt (k := k) hp hq h
  have hle := fun k h => fac_len (k := k) hp hq hn0 h
  have hln := fun k => reL_len n (facB n p q k)
  have hf0 : facB n p q 0 = ptR p := rfl
  have hfs := fun k => fac_next n p q k
  have hn64 : n * n ≤ 8 * 8 := Nat.mul_le_mul hn hn
  generalize ftj n p q = F at *
  generalize hJ : reL n (ptR (joinP n p q)) = J at *
  generalize joinP n p q = jn at *
  repeat' (first
| refine wO ?_
| (refine o_go rfl ?_; (first
| refine p_p (zG rfl rfl aB (j1)) ?_
| refine p_p (zG rfl rfl aB (r1)) ?_
| refine p_p (zG rfl rfl aB (r2)) ?_
| refine wS ?_
| refine p_p (ps_field rfl rfl rfl) ?_
| refine p_e rfl (zO rfl rfl rfl rfl aJ rfl rfl rfl) ?_
| refine p_e rfl (e_alloc rfl) ?_); refine ⟨_, aA, ?_⟩))
  refine g_loopT (α := Nat) (fun k => [(7, I ((k + 1 : Nat) : Int))]) (fun k => [.box [I 2, intss (reL n (facB n p q k))]]) (fun k => k ≤ 64 ∧ ∀ j, j < k → reL n (facB n p q j) ≠ J) (fun k => 64 - k) 0 aF ⟨Nat.zero_le _, fun j h => absurd h (Nat.not_lt_zero _)⟩ ⟨rfl, trivial⟩ rfl ?_
  rintro k ⟨hk, hno⟩
  dsimp only [zZ, List.set_cons_zero, List.set_cons_succ]
  by_cases he : reL n (facB n p q k) = J
  · rw [hat k he hno]
    have hlJ : (reL n (facB n p q k)).length = J.length := by rw [he]
    repeat' (first
| refine wO ?_
| (refine o_go rfl ?_; (first
| refine wS ?_); refine ⟨_, aA, ?_⟩)
| (refine zK rfl (fun hc => ?_) (fun hc => ?_) <;> try (exfalso; omega))
| refine kr1 ?_
| refine krI rfl ?_
| refine wE ?_)
    all_goals first | rfl | (exfalso; omega)
  · have h1 := hlt k he
    have hno1 : ∀ j, j < k + 1 → reL n (facB n p q j) ≠ J := fun j h => by
      rcases Nat.lt_or_ge j k with h' | h'
      · exact hno j h'
      · rw [show j = k by omega]; exact he
    have h2 := hle (k + 1) hno1
    have h3 := hln (k + 1)
    have c2 := hcp k
    rw [hfs k] at c2
    clear hcp hat hlt hle hln hfs
    have hX : reL n (facB n p q (k + 1)) = reL n (facB n p q (k + 1)) := rfl
    by_cases hpar : k % 2 = 0
    · rw [if_pos hpar] at c2
      have hrem : (((k + 1 : Nat) : Int) + 1) % 2 = 0 := by omega
      repeat' (first
| refine wO ?_
| (refine o_go rfl ?_; (first
| refine p_p (ps_remV rfl rfl rfl hrem (by omega) (by omega)) ?_
| refine wS ?_); refine ⟨_, aA, ?_⟩)
| (refine zK rfl (fun hc => ?_) (fun hc => ?_) <;> try (exfalso; omega))
| refine wE ?_)
      all_goals try (exfalso; omega)
      refine g_region_drawZ [(0, some []), (1, some []), (2, some []), (3, some []), (4, none)] [(4, 999999)] (fun hp => hp[0]? = some (.box [I 2, intss (reL n (facB n p q k))])) (by kernel_rfl) rfl (by kernel_rfl) ?_
      repeat' (first
| refine z_nil ?_
| ((first
| refine zV rfl rfl (fun hp hH => zY rfl rfl hH aJ) aL aD (by decide) aC ?_
| refine zV rfl rfl (fun hp hH => zG rfl rfl aB (r3)) aL aN (by decide) aC ?_
| refine zV rfl rfl (fun hp hH => zG rfl rfl aB (c2)) aL aN (by decide) aC ?_
| refine zV rfl rfl (fun _ _ => zD rfl) aL aD (by decide) aC ?_
| refine z_eff rfl rfl aG (j_store_boxA rfl rfl rfl rfl aJ rfl rfl rfl) aH ?_); refine ⟨_, aQ, ?_⟩))
      all_goals try (exfalso; omega)
      exact zT (k + 1) ⟨by omega, hno1⟩ (by omega) aI ⟨vI (by omega), trivial⟩ (zB rfl (zM _))
    · rw [if_neg hpar] at c2
      have hrem : (((k + 1 : Nat) : Int) + 1) % 2 = 1 := by omega
      repeat' (first
| refine wO ?_
| (refine o_go rfl ?_; (first
| refine p_p (ps_remV rfl rfl rfl hrem (by omega) (by omega)) ?_
| refine wS ?_); refine ⟨_, aA, ?_⟩)
| (refine zK rfl (fun hc => ?_) (fun hc => ?_) <;> try (exfalso; omega))
| refine wE ?_)
      all_goals try (exfalso; omega)
      refine g_region_drawZ [(0, some []), (1, some []), (2, some []), (3, some []), (4, none)] [(4, 999999)] (fun hp => hp[0]? = some (.box [I 2, intss (reL n (facB n p q k))])) (by kernel_rfl) rfl (by kernel_rfl) ?_
      repeat' (first
| refine z_nil ?_
| ((first
| refine zV rfl rfl (fun hp hH => zY rfl rfl hH aJ) aL aD (by decide) aC ?_
| refine zV rfl rfl (fun hp hH => zG rfl rfl aB (r2)) aL aN (by decide) aC ?_
| refine zV rfl rfl (fun hp hH => zG rfl rfl aB (c2)) aL aN (by decide) aC ?_
| refine zV rfl rfl (fun _ _ => zD rfl) aL aD (by decide) aC ?_
| refine z_eff rfl rfl aG (j_store_boxA rfl rfl rfl rfl aJ rfl rfl rfl) aH ?_); refine ⟨_, aQ, ?_⟩))
      all_goals try (exfalso; omega)
      exact zT (k + 1) ⟨by omega, hno1⟩ (by omega) aI ⟨vI (by omega), trivial⟩ (zB rfl (zM _))
end Go.Proofs.YtnjocjfhaahmfaaGreat
