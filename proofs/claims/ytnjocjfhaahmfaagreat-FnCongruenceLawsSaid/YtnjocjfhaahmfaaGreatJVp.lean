/- Walks: factors, products and meets of partitions, the reference's side. -/
import Derived.Test.YtnjocjfhaahmfaaGreatJVo
namespace Go.Proofs.YtnjocjfhaahmfaaGreat
open Go Go.Pv Go.Proofs
set_option maxHeartbeats 32000000
set_option maxRecDepth 100000
attribute [local bitvec_to_nat] St.put St.setObj St.ev killP killA killP1 killH mapHO renP renA ren1 killG killGA killG1 krowP krowA krow1 lendP lendA lend1 unv pinP pin1 elemsM viewM viewN viewV n_set_z n_set_s n_map_c n_map_n getD_z getD_s n_toNat n_cond_t n_cond_f n_len_c n_len_n n_app_c n_app_n n_take_s n_take_z n_drop_s n_drop_z n_get_z n_get_s view viewA view1 elems Nat.zero_add Nat.add_zero Bool.not_true Bool.not_false Nat.one_ne_zero Nat.mul_one

theorem sftj_c (n : Nat) (p q : List Int) (hn0 : 0 < n) (hn : n ≤ 8) (hp : Pt n p) (hq : Pt n q) : PCalls Tryz.prog 144 [ints p, ints q] (I (ftj n p q : Int)) := by
  refine pcalls1 Tryz.func144 rfl Tryz.ntmps144 rfl ?_
  refine wF ?_
  have hj := join_pt hp hq
  have j1 := sjoin_c n p q (by omega) hp.len hq
  have r1 := sofp_c (joinP n p q) (by rw [hj.len]; omega)
  have r2 := sofp_c p (by rw [hp.len]; omega)
  have r3 := sofp_c q (by rw [hq.len]; omega)
  rw [hj.len] at r1
  rw [hp.len] at r2
  rw [hq.len] at r3
  have hpl := hp.len
  have hcp := fun k => scompR_c n (facB n p q k) (ptR (if k % 2 = 0 then q else p)) (by omega)
  have hsm := fun k => ssame8_c (reL n (facB n p q k)) (reL n (ptR (joinP n p q)))
  have hat := fun k h1 h2 => ftj_at (k := k) hn0 hp hq h1 h2
  have hle := fun k h => fac_len (k := k) hp hq hn0 h
  have hln := fun R => reL_len n R
  have htwo : ∀ (R : Nat → Nat → Bool) r, r ∈ reL n R → r.length ≤ 1048576 := fun R r hr => by
    obtain ⟨x, y, -, -, -, rfl⟩ := reL_mem.1 hr
    exact Nat.le_of_ble_eq_true rfl
  have hf0 : facB n p q 0 = ptR p := rfl
  have hfs := fun k => fac_next n p q k
  have hn64 : n * n ≤ 8 * 8 := Nat.mul_le_mul hn hn
  have hJl := hln (ptR (joinP n p q))
  generalize ftj n p q = F at *
  generalize hJ : reL n (ptR (joinP n p q)) = J at *
  generalize joinP n p q = jn at *
  repeat' (first
| refine wO ?_
| (refine o_go rfl ?_; (first
| refine p_p (zG rfl rfl aB (j1)) ?_
| refine p_p (zG rfl rfl aB (r1)) ?_
| refine p_p (zG rfl rfl aB (r2)) ?_
| refine wS ?_
| refine p_e rfl (zO rfl rfl rfl rfl aJ rfl rfl rfl) ?_
| refine p_e rfl (e_alloc rfl) ?_); refine ⟨_, aA, ?_⟩))
  refine g_loopT (α := Nat) (fun k => [(7, I ((k + 1 : Nat) : Int))]) (fun k => [.box [I 2, intss J], .box [I 2, intss (reL n (facB n p q k))]]) (fun k => k ≤ 64 ∧ ∀ j, j < k → reL n (facB n p q j) ≠ J) (fun k => 64 - k) 0 aF ⟨Nat.zero_le _, fun j h => absurd h (Nat.not_lt_zero _)⟩ ⟨rfl, trivial⟩ rfl ?_
  rintro k ⟨hk, hno⟩
  dsimp only [zZ, List.set_cons_zero, List.set_cons_succ]
  have hl1 := hln (facB n p q k)
  have s1 := hsm k (by omega) (htwo _) (by omega)
  by_cases he : reL n (facB n p q k) = J
  · rw [hat k he hno]
    rw [decide_eq_true he] at s1
    repeat' (first
| refine wO ?_
| (refine o_go rfl ?_; (first
| refine p_p (zG rfl rfl aB (s1)) ?_
| refine wS ?_); refine ⟨_, aA, ?_⟩)
| refine kr1 ?_
| refine krI rfl ?_
| refine wE ?_)
    all_goals first | rfl | (exfalso; omega)
  · rw [decide_eq_false he] at s1
    have hno1 : ∀ j, j < k + 1 → reL n (facB n p q j) ≠ J := fun j h => by
      rcases Nat.lt_or_ge j k with h' | h'
      · exact hno j h'
      · rw [show j = k by omega]; exact he
    have h2 := hle (k + 1) hno1
    have h3 := hln (facB n p q (k + 1))
    have c2 := hcp k
    rw [hfs k] at c2
    clear hcp hat hle hln hfs hsm htwo
    rw [show (I (n : Int)) = I (p.length : Int) by rw [hpl]] at c2
    by_cases hpar : k % 2 = 0
    · rw [if_pos hpar] at c2
      have hrem : (((k + 1 : Nat) : Int) + 1) % 2 = 0 := by omega
      repeat' (first
| refine wO ?_
| (refine o_go rfl ?_; (first
| refine p_p (zG rfl rfl aB (s1)) ?_
| refine p_p (ps_remV rfl rfl rfl hrem (by omega) (by omega)) ?_
| refine wS ?_); refine ⟨_, aA, ?_⟩)
| refine wE ?_)
      all_goals try (exfalso; omega)
      refine g_region_drawZ [(0, some []), (1, some []), (2, some []), (3, some []), (4, some []), (5, some []), (6, none)] [(6, 999999)] (fun hp => hp[1]? = some (.box [I 2, intss (reL n (facB n p q k))])) (by kernel_rfl) rfl (by kernel_rfl) ?_
      repeat' (first
| refine z_nil ?_
| ((first
| refine zV rfl rfl (fun hp hH => zY rfl rfl hH aJ) aL aD (by decide) aC ?_
| refine zV rfl rfl (fun hp hH => zG rfl rfl aB (r3)) aL aN (by decide) aC ?_
| refine zV rfl rfl (fun hp hH => zG rfl rfl aB (c2)) aL aN (by decide) aC ?_
| refine zV rfl rfl (fun _ _ => zD rfl) aL aD (by decide) aC ?_
| refine zV rfl rfl (fun _ _ => zU rfl rfl rfl) aL aD (by decide) aC ?_
| refine z_eff rfl rfl aG (j_store_boxA rfl rfl rfl rfl aJ rfl rfl rfl) aH ?_); refine ⟨_, aQ, ?_⟩))
      all_goals try (exfalso; omega)
      exact zT (k + 1) ⟨by omega, hno1⟩ (by omega) aI ⟨vI (by omega), trivial⟩ (zB rfl (zB rfl (zM _)))
    · rw [if_neg hpar] at c2
      have hrem : (((k + 1 : Nat) : Int) + 1) % 2 = 1 := by omega
      repeat' (first
| refine wO ?_
| (refine o_go rfl ?_; (first
| refine p_p (zG rfl rfl aB (s1)) ?_
| refine p_p (ps_remV rfl rfl rfl hrem (by omega) (by omega)) ?_
| refine wS ?_); refine ⟨_, aA, ?_⟩)
| refine wE ?_)
      all_goals try (exfalso; omega)
      refine g_region_drawZ [(0, some []), (1, some []), (2, some []), (3, some []), (4, some []), (5, some []), (6, none)] [(6, 999999)] (fun hp => hp[1]? = some (.box [I 2, intss (reL n (facB n p q k))])) (by kernel_rfl) rfl (by kernel_rfl) ?_
      repeat' (first
| refine z_nil ?_
| ((first
| refine zV rfl rfl (fun hp hH => zY rfl rfl hH aJ) aL aD (by decide) aC ?_
| refine zV rfl rfl (fun hp hH => zG rfl rfl aB (r2)) aL aN (by decide) aC ?_
| refine zV rfl rfl (fun hp hH => zG rfl rfl aB (c2)) aL aN (by decide) aC ?_
| refine zV rfl rfl (fun _ _ => zD rfl) aL aD (by decide) aC ?_
| refine zV rfl rfl (fun _ _ => zU rfl rfl rfl) aL aD (by decide) aC ?_
| refine z_eff rfl rfl aG (j_store_boxA rfl rfl rfl rfl aJ rfl rfl rfl) aH ?_); refine ⟨_, aQ, ?_⟩))
      all_goals try (exfalso; omega)
      exact zT (k + 1) ⟨by omega, hno1⟩ (by omega) aI ⟨vI (by omega), trivial⟩ (zB rfl (zB rfl (zM _)))
theorem sprd6_c (n : Nat) (p q : List Int) (hn : n ≤ 1000) (hp : p.length = n) (hq : q.length = n) : PCalls Tryz.prog 234 [ints p, ints q] (relP 2 (reL n (cmpR n (ptR p) (ptR q)))) := by
  refine pcallsC Tryz.func234 rfl Tryz.ntmps234 rfl ?_
  refine wF ?_
  have r1 := sofp_c p (by omega)
  have r2 := sofp_c q (by omega)
  rw [hp] at r1
  rw [hq] at r2
  have r3 := scompR_c n (ptR p) (ptR q) hn
  rw [show (I (n : Int)) = I (p.length : Int) by rw [hp]] at r3
  repeat' (first
| refine wO ?_
| (refine o_go rfl ?_; (first
| refine p_p (zG rfl rfl aB (r1)) ?_
| refine p_p (zG rfl rfl aB (r2)) ?_
| refine p_p (zG rfl rfl aB (r3)) ?_
| refine wS ?_
| refine p_e rfl (zO rfl rfl rfl rfl aJ rfl rfl rfl) ?_
| refine p_e rfl (e_alloc rfl) ?_); refine ⟨_, aA, ?_⟩)
| refine krc ?_
| refine krC rfl aJ ?_
| refine wE ?_)
  all_goals rfl
theorem prm_same {n : Nat} {p q : List Int} (hp : Pt n p) (hq : Pt n q) : decide (reL n (cmpR n (ptR p) (ptR q)) = reL n (cmpR n (ptR q) (ptR p))) = prmB p q n := by
  have e : ∀ {p q : List Int}, Pt n p → Pt n q → ∀ x z, x < n → z < n → (cmpR n (ptR p) (ptR q) x z = true ↔ Prd n p q x z) := fun hp hq x z hx hz => by
    rw [cmpR_iff]
    constructor
    · rintro ⟨y, hy, h1, h2⟩
      exact ⟨y, hy, (ptR_iff hp hx hy).1 h1, (ptR_iff hq hy hz).1 h2⟩
    · rintro ⟨y, hy, h1, h2⟩
      exact ⟨y, hy, (ptR_iff hp hx hy).2 h1, (ptR_iff hq hy hz).2 h2⟩
  rw [Bool.eq_iff_iff, decide_eq_true_eq, reL_iff, prmB_iff hp hq]
  constructor
  · intro h x z hx hz hp1
    rw [← e hq hp x z hx hz, ← h x z hx hz]
    exact (e hp hq x z hx hz).2 hp1
  · intro h x z hx hz
    rw [Bool.eq_iff_iff, e hp hq x z hx hz, e hq hp x z hx hz]
    exact ⟨h x z hx hz, Prm.symm h x z hx hz⟩
theorem sprm_c6 (n : Nat) (p q : List Int) (hn : n ≤ 1000) (hp : Pt n p) (hq : Pt n q) : PCalls Tryz.prog 168 [ints p, ints q] (B (prmB p q n)) := by
  refine pcalls1 Tryz.func168 rfl Tryz.ntmps168 rfl ?_
  refine wF ?_
  have r1 := sprd6_c n p q hn hp.len hq.len
  have r2 := sprd6_c n q p hn hq.len hp.len
  have hsz : ∀ Q : Nat → Nat → Bool, (reL n Q).length ≤ 1048576 := fun Q => Nat.le_trans (reL_len n Q) (Nat.le_trans (Nat.mul_le_mul hn hn) (by decide))
  have r3 := ssame8_c (reL n (cmpR n (ptR p) (ptR q))) (reL n (cmpR n (ptR q) (ptR p))) (hsz _) (fun r hr => by
    obtain ⟨x, y, -, -, -, rfl⟩ := reL_mem.1 hr
    exact Nat.le_of_ble_eq_true rfl) (hsz _)
  rw [prm_same hp hq] at r3
  generalize reL n (cmpR n (ptR p) (ptR q)) = A at *
  generalize reL n (cmpR n (ptR q) (ptR p)) = A2 at *
  generalize prmB p q n = b at *
  repeat' (first
| refine wO ?_
| (refine o_go rfl ?_; (first
| refine p_p (zG rfl rfl aB (r1)) ?_
| refine p_p (zG rfl rfl aB (r2)) ?_
| refine p_p (zG rfl rfl aB (r3)) ?_
| refine wS ?_
| refine p_p (ps_field rfl rfl rfl) ?_); refine ⟨_, aA, ?_⟩)
| refine kr1 ?_
| refine krB rfl ?_
| refine wE ?_)
  all_goals rfl
end Go.Proofs.YtnjocjfhaahmfaaGreat
