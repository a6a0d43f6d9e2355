/- Walks: the reference's lists of bits. -/
import Derived.Test.YtbfmjknngofleaaJPr
import Derived.Test.YtbfmjknngofleaaJSf
namespace Go.Proofs.Ytbfmjknngofleaa
open Go Go.Pv Go.Proofs
attribute [local bitvec_to_nat] St.put St.setObj St.ev killP killA killP1 killH mapHO renP renA ren1 killG killGA killG1 krowP krowA krow1 lendP lendA lend1 unv pinP pin1 elemsM viewM viewN viewV n_set_z n_set_s n_map_c n_map_n getD_z getD_s n_toNat n_cond_t n_cond_f n_len_c n_len_n n_app_c n_app_n n_take_s n_take_z n_drop_s n_drop_z n_get_z n_get_s view viewA view1 elems Nat.zero_add Nat.add_zero Bool.not_true Bool.not_false Nat.one_ne_zero Nat.mul_one

set_option maxHeartbeats 1000000 in
set_option maxRecDepth 100000 in
theorem bits5_c (b n : Nat) (hb : b < 2 ^ n) (hn : n ≤ 10) : PCalls Try.prog 86 [I (b : Int)] (ints (bitL b n)) := by
  refine pcalls1 Try.func86 rfl Try.ntmps86 rfl ?_
  simp only [List.length_cons, List.length_nil, Nat.reduceAdd, Nat.reduceSub, List.replicate_succ, List.replicate_zero, List.cons_append, List.nil_append]
  have hb63 : b < 9223372036854775808 := Nat.lt_of_lt_of_le hb (Nat.le_trans (Nat.pow_le_pow_right (by decide) hn) (by decide))
  repeat' (first
| refine g_seq ?_
| refine g_block ?_
| refine g_region ?_
| (refine o_go rfl ?_; (first
| refine p_p (ps_assign rfl) ?_
| refine p_e rfl (e_lit0 rfl (by decide)) ?_); refine ⟨_, (by dsimp only [bitvec_to_nat, Nat.reduceAdd, Nat.reduceMul, Nat.reduceBEq, reduceCtorEq]), ?_⟩)
| refine o_nil ?_)
  refine g_loopF (α := Nat) [5] (fun x => [(3, .hp 0), (4, I (x : Int))]) (fun x => [.arr false 1 3 ((bitL b x).map I)]) (fun x => x ≤ n) (fun x => n - x) 0 (by simp only [havoc, dsts, List.filterMap_cons, List.filterMap_nil, List.foldl_cons, List.foldl_nil, List.cons_append, List.nil_append, List.append_nil, List.set_cons_succ, List.set_cons_zero]; exact rfl) (Nat.zero_le _) ⟨rfl, rfl, trivial⟩ rfl ?_
  rintro x hx
  dsimp only [setMany, List.set_cons_zero, List.set_cons_succ]
  have hul : (bitL b x).length ≤ x := upTo_length x fun x => b.testBit x
  have hsuc : bitL b (x + 1) = bitL b x ++ (if b.testBit x = true then [(x : Int)] else []) := upTo_succ x fun x => b.testBit x
  have hsh : b >>> x < 9223372036854775808 := Nat.lt_of_le_of_lt (by rw [Nat.shiftRight_eq_div_pow]; exact Nat.div_le_self _ _) hb63
  have htb : b.testBit x = decide ((b >>> x) &&& 1 = 1) := by
    rw [Nat.testBit, Nat.and_comm, Nat.and_one_is_mod]
    have := Nat.mod_two_eq_zero_or_one (b >>> x)
    rcases this with h | h <;> rw [h] <;> rfl
  have hpos : 0 < b >>> x → x < n := fun h => by
    rcases Nat.lt_or_ge x n with h' | h'
    · exact h'
    · have : x = n := by omega
      subst this
      rw [Nat.shiftRight_eq_div_pow, Nat.div_eq_of_lt hb] at h
      exact absurd h (Nat.lt_irrefl 0)
  have hstop : ¬ 0 < b >>> x → bitL b n = bitL b x := fun h => by
    have h0 : b >>> x = 0 := Nat.eq_zero_of_not_pos h
    rw [Nat.shiftRight_eq_div_pow] at h0
    have hlt : b < 2 ^ x := by
      rcases Nat.div_eq_zero_iff.1 h0 with h' | h'
      · exact absurd h' (Nat.ne_of_gt (Nat.two_pow_pos x))
      · exact h'
    refine sorted_ext _ _ (upTo_sorted _ _) (upTo_sorted _ _) fun y => ?_
    unfold bitL
    rw [upTo_mem, upTo_mem]
    refine ⟨fun ⟨h1, h2, h3⟩ => ⟨h1, ?_, h3⟩, fun ⟨h1, h2, h3⟩ => ⟨h1, by omega, h3⟩⟩
    rcases Nat.lt_or_ge y.toNat x with h' | h'
    · omega
    · rw [Nat.testBit_lt_two_pow (Nat.lt_of_lt_of_le hlt (Nat.pow_le_pow_right (by decide) h'))] at h3
      cases h3
  repeat' (first
| refine g_seq ?_
| refine g_block ?_
| refine g_region ?_
| (refine o_go rfl ?_; (first
| refine p_p (ps_shr rfl rfl rfl (by omega)) ?_
| refine p_p (ps_and1 rfl rfl rfl (by omega)) ?_
| refine p_p (ps_move rfl) ?_
| refine p_p (ps_assign rfl) ?_
| refine p_p (ps_add rfl rfl rfl (by constructor <;> omega)) ?_
| refine p_p (ps_gtr rfl rfl rfl) ?_
| refine p_p (ps_eql rfl rfl rfl) ?_
| refine p_e rfl (e_append rfl rfl rfl rfl rfl rfl (by first | exact one_one rfl | exact one_map (fun _ => rfl) _) rfl (by first | omega | (simp; done) | (simp; omega)) (by first | omega | (simp; done) | (simp; omega))) ?_
| refine p_p (ps_lit1 rfl rfl (by rfl) (by rfl)) ?_); refine ⟨_, (by dsimp only [bitvec_to_nat, Nat.reduceAdd, Nat.reduceMul, Nat.reduceBEq, reduceCtorEq]), ?_⟩)
| refine o_nil ?_
| (refine g_condD rfl (fun hc => ?_) (fun hc => ?_) <;> try (exfalso; omega))
| refine kr1 ?_
| refine krS rfl ?_
| refine g_skip ?_
| refine g_exit ?_
| refine g_ret ?_)
  · have hxn := hpos (by omega)
    refine k_round (x + 1) (by omega) (by omega) (by repeat (first | exact trivial | refine ⟨.inl rfl, ?_⟩ | refine ⟨.inr rfl, ?_⟩)) ⟨rfl, rfl, trivial⟩ (hpLe_cons ?_ (hpLe_nil _))
    rw [hsuc, if_pos (by rw [htb]; exact decide_eq_true (by omega))]; simp
  · have hxn := hpos (by omega)
    refine k_round (x + 1) (by omega) (by omega) (by repeat (first | exact trivial | refine ⟨.inl rfl, ?_⟩ | refine ⟨.inr rfl, ?_⟩)) ⟨rfl, rfl, trivial⟩ (hpLe_cons ?_ (hpLe_nil _))
    rw [hsuc, if_neg (by rw [htb]; simp only [decide_eq_true_eq]; omega)]; simp
  · rw [hstop (by omega)]
end Go.Proofs.Ytbfmjknngofleaa
