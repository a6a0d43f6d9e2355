/- The law of dualities, walked. -/
import Derived.Test.YtbfmjknngofleaaJWd
import Derived.Test.YtbfmjknngofleaaJWe
import Derived.Test.YtbfmjknngofleaaJWk
import Derived.Test.YtbfmjknngofleaaJSk
import Derived.Test.YtbfmjknngofleaaJWh
namespace Go.Pv
open Go
attribute [local semireducible] Go.Pv.Goal Go.Pv.KRets Go.Pv.PCalls
section
variable {P : Program} {S : St}
def KRetCC1 (a a2 : Tmp) (n n2 : Nat) (q q2 : PV) (r3 : Tmp) (q3 : PV) (e : Exit) (S : St) : Prop := (e = .normal ∨ e = .ret) ∧ (KRC S a n q ∧ KRC S a2 n2 q2 ∧ KR S r3 q3)
theorem krcc1 {a a2 r3 : Tmp} {n n2 : Nat} {q q2 q3 : PV} (h : KRC S a n q) (h2 : KRC S a2 n2 q2) (h3 : KR S r3 q3) : KRetCC1 a a2 n n2 q q2 r3 q3 .ret S := ⟨.inr rfl, h, h2, h3⟩
theorem pcallsCC1 {f : FuncId} {fn : Func} {c : Code} {n m m2 : Nat} {args : List PV} {r r2 r3 : Tmp} {t t2 : TypeId} [ht : AggT P t m] [ht2 : AggT P t2 m2] {q q2 q3 : PV} (hf : P.funcs[f]? = some fn) (hb : fn.body = some c) (hn : fn.ntmps = n) (hr : fn.results = #[.cell r t, .cell r2 t2, .tmp r3])
    (h : Goal P c (KRetCC1 r r2 m m2 q q2 r3 q3) ⟨args ++ List.replicate (n - args.length) (.val undef), []⟩) : PCalls P f args (.tup [q, q2, q3]) :=
  pcalls_gen (fun S => KRC S r m q ∧ KRC S r2 m2 q2 ∧ KR S r3 q3) (fun S w0 g ρ a w hk hrel => by
    obtain ⟨ad, v, h0, h1, h2⟩ := load_res (P := P) (ht := ht) hrel hk.1
    obtain ⟨ad', v', h0x, h1x, h2x⟩ := load_res (P := P) (ht := ht2) hrel hk.2.1
    have hk := hk.2.2
    unfold KR PV.le at hk
    have h3 := hk _ _ (hrel.base.viewM (hrel.ev (.tmp r3)))
    refine ⟨.tuple #[v, v', a.tmps.getD r3 undef], ?_, .tup _ _ rfl (fun i p hp => ?_)⟩
    · have h0' : a.tmps[r]?.getD undef = .pointer (some ad) := by simpa using h0
      have h0x' : a.tmps[r2]?.getD undef = .pointer (some ad') := by simpa using h0x
      unfold results
      rw [hr]
      generalize @loadVar = lv at h1 h1x ⊢
      simp [h0', h0x', asAddr, h1, h1x, go_sem]
    · rcases i with _ | _ | _ | i
      · simp at hp; subst hp; simpa using h2
      · simp at hp; subst hp; simpa using h2x
      · simp at hp; subst hp; simpa [Act.eval] using h3
      · simp at hp) hf hb hn h
end
end Go.Pv
namespace Go.Proofs.Ytbfmjknngofleaa
open Go Go.Pv Go.Proofs
attribute [local bitvec_to_nat] St.put St.setObj St.ev killP killA killP1 killH mapHO renP renA ren1 killG killGA killG1 krowP krowA krow1 lendP lendA lend1 unv pinP pin1 elemsM viewM viewN viewV n_set_z n_set_s n_map_c n_map_n getD_z getD_s n_toNat n_cond_t n_cond_f n_len_c n_len_n n_app_c n_app_n n_take_s n_take_z n_drop_s n_drop_z n_get_z n_get_s view viewA view1 elems Nat.zero_add Nat.add_zero Bool.not_true Bool.not_false Nat.one_ne_zero Nat.mul_one

set_option maxHeartbeats 1000000 in
set_option maxRecDepth 100000 in
theorem drawPmo_c {l : List Int} (h : bytesOk l) : ∃ p q f, okP p ∧ okP q ∧ f.length ≤ 1000 ∧ PCalls Try.prog 5 [bytesP l] (.tup [posetP p, posetP q, ints f]) := by
  obtain ⟨c1, p, k1, hp, hpl, h1⟩ := distr_L (cu0_ok h) (by omega)
  obtain ⟨c2, q, k2, hq, hql, h2⟩ := distr_L k1 (by omega)
  obtain ⟨c3, f, k3, hf, h3⟩ := map_L k2 (by omega) p q hp hq hpl hql
  refine ⟨p, q, f, hp, hq, hf, ?_⟩
  refine pcallsCC1 Try.func5 rfl Try.ntmps5 rfl ?_
  simp only [List.length_cons, List.length_nil, Nat.reduceAdd, Nat.reduceSub, List.replicate_succ, List.replicate_zero, List.cons_append, List.nil_append]
  repeat' (first
| refine g_seq ?_
| refine g_region ?_
| (refine o_go rfl ?_; (first
| refine p_e rfl (e_box rfl rfl) ?_
| refine p_e rfl (e_callL (n := 2) rfl rfl rfl (by (repeat (first | refine ⟨leS_refl _, ?_⟩ | refine ⟨leS_nn _ _ _, ?_⟩ | refine ⟨leS_nil _, ?_⟩ | refine ⟨leS_any _, ?_⟩)); exact trivial) rfl (by rfl) (by first | exact ⟨rfl, rfl, rfl, by simp⟩ | exact ⟨rfl, rfl, by simp⟩ | trivial) (h1)) ?_
| refine p_e rfl (e_callL (n := 2) rfl rfl rfl (by (repeat (first | refine ⟨leS_refl _, ?_⟩ | refine ⟨leS_nn _ _ _, ?_⟩ | refine ⟨leS_nil _, ?_⟩ | refine ⟨leS_any _, ?_⟩)); exact trivial) rfl (by rfl) (by first | exact ⟨rfl, rfl, rfl, by simp⟩ | exact ⟨rfl, rfl, by simp⟩ | trivial) (h2)) ?_
| refine p_p (ps_move rfl) ?_
| refine p_p (ps_assign rfl) ?_
| refine p_e rfl (e_store_boxA rfl rfl rfl rfl (by exact Nat.le_of_ble_eq_true rfl) rfl rfl rfl) ?_
| refine p_e rfl (e_alloc rfl) ?_
| refine p_p (ps_build rfl rfl) ?_); refine ⟨_, (by dsimp only [bitvec_to_nat, Nat.reduceAdd, Nat.reduceMul, Nat.reduceBEq, reduceCtorEq]), ?_⟩)
| refine o_nil ?_)
  refine g_region_drawZ [(0, some []), (1, some []), (2, some []), (3, some []), (4, some []), (5, none), (6, none), (7, none), (8, none)] [] (fun hp => hp[3]? = some (.box [intss p]) ∧ hp[4]? = some (.box [intss q])) (by kernel_rfl) rfl (by kernel_rfl) ?_
  repeat' (first
| refine z_nil ?_
| ((first
| refine z_pure rfl rfl (fun hp hH => ps_load_boxA rfl rfl hH.1 (by exact Nat.le_of_ble_eq_true rfl)) (by repeat (first | exact trivial | refine ⟨rfl, ?_⟩)) (by first | exact fun _ _ => trivial | exact (by intro y hy; simp [Op.operands] at hy; first | (subst hy; repeat (first | exact trivial | refine ⟨rfl, ?_⟩)) | (rcases hy with rfl | rfl <;> repeat (first | exact trivial | refine ⟨rfl, ?_⟩)))) (by decide) (by first | exact trivial | exact rfl | exact ⟨rfl, rfl⟩ | exact ⟨rfl, rfl, rfl⟩ | exact ⟨rfl, .inl ⟨_, rfl, by simp only [List.length_map]; omega⟩⟩ | exact ⟨rfl, .inr ⟨_, rfl, by simp only [List.length_map]; omega⟩⟩) ?_
| refine z_pure rfl rfl (fun hp hH => ps_load_boxA rfl rfl hH.2 (by exact Nat.le_of_ble_eq_true rfl)) (by repeat (first | exact trivial | refine ⟨rfl, ?_⟩)) (by first | exact fun _ _ => trivial | exact (by intro y hy; simp [Op.operands] at hy; first | (subst hy; repeat (first | exact trivial | refine ⟨rfl, ?_⟩)) | (rcases hy with rfl | rfl <;> repeat (first | exact trivial | refine ⟨rfl, ?_⟩)))) (by decide) (by first | exact trivial | exact rfl | exact ⟨rfl, rfl⟩ | exact ⟨rfl, rfl, rfl⟩ | exact ⟨rfl, .inl ⟨_, rfl, by simp only [List.length_map]; omega⟩⟩ | exact ⟨rfl, .inr ⟨_, rfl, by simp only [List.length_map]; omega⟩⟩) ?_
| refine z_pure rfl rfl (fun _ _ => ps_move rfl) (by repeat (first | exact trivial | refine ⟨rfl, ?_⟩)) (by first | exact fun _ _ => trivial | exact (by intro y hy; simp [Op.operands] at hy; first | (subst hy; repeat (first | exact trivial | refine ⟨rfl, ?_⟩)) | (rcases hy with rfl | rfl <;> repeat (first | exact trivial | refine ⟨rfl, ?_⟩)))) (by decide) (by first | exact trivial | exact rfl | exact ⟨rfl, rfl⟩ | exact ⟨rfl, rfl, rfl⟩ | exact ⟨rfl, .inl ⟨_, rfl, by simp only [List.length_map]; omega⟩⟩ | exact ⟨rfl, .inr ⟨_, rfl, by simp only [List.length_map]; omega⟩⟩) ?_
| refine z_eff rfl rfl (by first | exact trivial | exact .inl ⟨rfl, rfl⟩ | exact .inr (.inl ⟨rfl, rfl⟩) | exact .inr (.inr (.inl ⟨rfl, rfl⟩)) | exact .inr (.inr (.inr (.inl ⟨rfl, rfl⟩)))) (j_callLB (n := 2) rfl rfl rfl (by (repeat (first | refine ⟨leS_refl _, ?_⟩ | refine ⟨leS_nn _ _ _, ?_⟩ | refine ⟨leS_nil _, ?_⟩ | refine ⟨leS_any _, ?_⟩)); exact trivial) (by rfl) (by rfl) (h3)) (by first | exact .inr (by decide) | exact .inl (by first | exact trivial | exact rfl | exact ⟨rfl, rfl⟩ | exact ⟨rfl, rfl, rfl⟩ | exact ⟨rfl, .inl ⟨_, rfl, by simp only [List.length_map]; omega⟩⟩ | exact ⟨rfl, .inr ⟨_, rfl, by simp only [List.length_map]; omega⟩⟩)) ?_
| refine z_eff rfl rfl (by first | exact trivial | exact .inl ⟨rfl, rfl⟩ | exact .inr (.inl ⟨rfl, rfl⟩) | exact .inr (.inr (.inl ⟨rfl, rfl⟩)) | exact .inr (.inr (.inr (.inl ⟨rfl, rfl⟩)))) (j_store_boxA rfl rfl rfl rfl (by exact Nat.le_of_ble_eq_true rfl) rfl rfl rfl) (by first | exact .inr (by decide) | exact .inl (by first | exact trivial | exact rfl | exact ⟨rfl, rfl⟩ | exact ⟨rfl, rfl, rfl⟩ | exact ⟨rfl, .inl ⟨_, rfl, by simp only [List.length_map]; omega⟩⟩ | exact ⟨rfl, .inr ⟨_, rfl, by simp only [List.length_map]; omega⟩⟩)) ?_
| refine z_eff rfl rfl (by first | exact trivial | exact .inl ⟨rfl, rfl⟩ | exact .inr (.inl ⟨rfl, rfl⟩) | exact .inr (.inr (.inl ⟨rfl, rfl⟩)) | exact .inr (.inr (.inr (.inl ⟨rfl, rfl⟩)))) (j_pure (ps_assign rfl)) (by first | exact .inr (by decide) | exact .inl (by first | exact trivial | exact rfl | exact ⟨rfl, rfl⟩ | exact ⟨rfl, rfl, rfl⟩ | exact ⟨rfl, .inl ⟨_, rfl, by simp only [List.length_map]; omega⟩⟩ | exact ⟨rfl, .inr ⟨_, rfl, by simp only [List.length_map]; omega⟩⟩)) ?_); refine ⟨_, (by dsimp only [appJ, killO, bitvec_to_nat, Nat.reduceAdd, Nat.reduceMul, Nat.reduceBEq, reduceCtorEq]), ?_⟩))
  repeat' (first
| refine g_ret ?_)
  exact krcc1 (krC rfl (by exact Nat.le_of_ble_eq_true rfl) rfl) (krC rfl (by exact Nat.le_of_ble_eq_true rfl) rfl) (krS rfl rfl)
set_option maxHeartbeats 1000000 in
set_option maxRecDepth 100000 in
theorem drawLmo_c {l : List Int} (h : bytesOk l) : ∃ p q f, okP p ∧ okP q ∧ f.length ≤ 1000 ∧ PCalls Try.prog 11 [bytesP l] (.tup [posetP p, posetP q, ints f]) := by
  obtain ⟨c1, p, k1, hp, hpl, h1⟩ := distr_L (cu0_ok h) (by omega)
  obtain ⟨c2, q, k2, hq, hql, h2⟩ := distr_L k1 (by omega)
  obtain ⟨c3, f, k3, hf, h3⟩ := points_L k2 (by omega) q p hq hp
  refine ⟨p, q, f, hp, hq, hf, ?_⟩
  refine pcallsCC1 Try.func11 rfl Try.ntmps11 rfl ?_
  simp only [List.length_cons, List.length_nil, Nat.reduceAdd, Nat.reduceSub, List.replicate_succ, List.replicate_zero, List.cons_append, List.nil_append]
  repeat' (first
| refine g_seq ?_
| refine g_region ?_
| (refine o_go rfl ?_; (first
| refine p_e rfl (e_box rfl rfl) ?_
| refine p_e rfl (e_callL (n := 2) rfl rfl rfl (by (repeat (first | refine ⟨leS_refl _, ?_⟩ | refine ⟨leS_nn _ _ _, ?_⟩ | refine ⟨leS_nil _, ?_⟩ | refine ⟨leS_any _, ?_⟩)); exact trivial) rfl (by rfl) (by first | exact ⟨rfl, rfl, rfl, by simp⟩ | exact ⟨rfl, rfl, by simp⟩ | trivial) (h1)) ?_
| refine p_e rfl (e_callL (n := 2) rfl rfl rfl (by (repeat (first | refine ⟨leS_refl _, ?_⟩ | refine ⟨leS_nn _ _ _, ?_⟩ | refine ⟨leS_nil _, ?_⟩ | refine ⟨leS_any _, ?_⟩)); exact trivial) rfl (by rfl) (by first | exact ⟨rfl, rfl, rfl, by simp⟩ | exact ⟨rfl, rfl, by simp⟩ | trivial) (h2)) ?_
| refine p_p (ps_move rfl) ?_
| refine p_p (ps_assign rfl) ?_
| refine p_e rfl (e_store_boxA rfl rfl rfl rfl (by exact Nat.le_of_ble_eq_true rfl) rfl rfl rfl) ?_
| refine p_e rfl (e_alloc rfl) ?_
| refine p_p (ps_build rfl rfl) ?_); refine ⟨_, (by dsimp only [bitvec_to_nat, Nat.reduceAdd, Nat.reduceMul, Nat.reduceBEq, reduceCtorEq]), ?_⟩)
| refine o_nil ?_)
  refine g_region_drawZ [(0, some []), (1, some []), (2, some []), (3, some []), (4, some []), (5, none), (6, none), (7, none), (8, none)] [] (fun hp => hp[3]? = some (.box [intss p]) ∧ hp[4]? = some (.box [intss q])) (by kernel_rfl) rfl (by kernel_rfl) ?_
  repeat' (first
| refine z_nil ?_
| ((first
| refine z_pure rfl rfl (fun hp hH => ps_load_boxA rfl rfl hH.1 (by exact Nat.le_of_ble_eq_true rfl)) (by repeat (first | exact trivial | refine ⟨rfl, ?_⟩)) (by first | exact fun _ _ => trivial | exact (by intro y hy; simp [Op.operands] at hy; first | (subst hy; repeat (first | exact trivial | refine ⟨rfl, ?_⟩)) | (rcases hy with rfl | rfl <;> repeat (first | exact trivial | refine ⟨rfl, ?_⟩)))) (by decide) (by first | exact trivial | exact rfl | exact ⟨rfl, rfl⟩ | exact ⟨rfl, rfl, rfl⟩ | exact ⟨rfl, .inl ⟨_, rfl, by simp only [List.length_map]; omega⟩⟩ | exact ⟨rfl, .inr ⟨_, rfl, by simp only [List.length_map]; omega⟩⟩) ?_
| refine z_pure rfl rfl (fun hp hH => ps_load_boxA rfl rfl hH.2 (by exact Nat.le_of_ble_eq_true rfl)) (by repeat (first | exact trivial | refine ⟨rfl, ?_⟩)) (by first | exact fun _ _ => trivial | exact (by intro y hy; simp [Op.operands] at hy; first | (subst hy; repeat (first | exact trivial | refine ⟨rfl, ?_⟩)) | (rcases hy with rfl | rfl <;> repeat (first | exact trivial | refine ⟨rfl, ?_⟩)))) (by decide) (by first | exact trivial | exact rfl | exact ⟨rfl, rfl⟩ | exact ⟨rfl, rfl, rfl⟩ | exact ⟨rfl, .inl ⟨_, rfl, by simp only [List.length_map]; omega⟩⟩ | exact ⟨rfl, .inr ⟨_, rfl, by simp only [List.length_map]; omega⟩⟩) ?_
| refine z_pure rfl rfl (fun _ _ => ps_move rfl) (by repeat (first | exact trivial | refine ⟨rfl, ?_⟩)) (by first | exact fun _ _ => trivial | exact (by intro y hy; simp [Op.operands] at hy; first | (subst hy; repeat (first | exact trivial | refine ⟨rfl, ?_⟩)) | (rcases hy with rfl | rfl <;> repeat (first | exact trivial | refine ⟨rfl, ?_⟩)))) (by decide) (by first | exact trivial | exact rfl | exact ⟨rfl, rfl⟩ | exact ⟨rfl, rfl, rfl⟩ | exact ⟨rfl, .inl ⟨_, rfl, by simp only [List.length_map]; omega⟩⟩ | exact ⟨rfl, .inr ⟨_, rfl, by simp only [List.length_map]; omega⟩⟩) ?_
| refine z_eff rfl rfl (by first | exact trivial | exact .inl ⟨rfl, rfl⟩ | exact .inr (.inl ⟨rfl, rfl⟩) | exact .inr (.inr (.inl ⟨rfl, rfl⟩)) | exact .inr (.inr (.inr (.inl ⟨rfl, rfl⟩)))) (j_callLB (n := 2) rfl rfl rfl (by (repeat (first | refine ⟨leS_refl _, ?_⟩ | refine ⟨leS_nn _ _ _, ?_⟩ | refine ⟨leS_nil _, ?_⟩ | refine ⟨leS_any _, ?_⟩)); exact trivial) (by rfl) (by rfl) (h3)) (by first | exact .inr (by decide) | exact .inl (by first | exact trivial | exact rfl | exact ⟨rfl, rfl⟩ | exact ⟨rfl, rfl, rfl⟩ | exact ⟨rfl, .inl ⟨_, rfl, by simp only [List.length_map]; omega⟩⟩ | exact ⟨rfl, .inr ⟨_, rfl, by simp only [List.length_map]; omega⟩⟩)) ?_
| refine z_eff rfl rfl (by first | exact trivial | exact .inl ⟨rfl, rfl⟩ | exact .inr (.inl ⟨rfl, rfl⟩) | exact .inr (.inr (.inl ⟨rfl, rfl⟩)) | exact .inr (.inr (.inr (.inl ⟨rfl, rfl⟩)))) (j_store_boxA rfl rfl rfl rfl (by exact Nat.le_of_ble_eq_true rfl) rfl rfl rfl) (by first | exact .inr (by decide) | exact .inl (by first | exact trivial | exact rfl | exact ⟨rfl, rfl⟩ | exact ⟨rfl, rfl, rfl⟩ | exact ⟨rfl, .inl ⟨_, rfl, by simp only [List.length_map]; omega⟩⟩ | exact ⟨rfl, .inr ⟨_, rfl, by simp only [List.length_map]; omega⟩⟩)) ?_
| refine z_eff rfl rfl (by first | exact trivial | exact .inl ⟨rfl, rfl⟩ | exact .inr (.inl ⟨rfl, rfl⟩) | exact .inr (.inr (.inl ⟨rfl, rfl⟩)) | exact .inr (.inr (.inr (.inl ⟨rfl, rfl⟩)))) (j_pure (ps_assign rfl)) (by first | exact .inr (by decide) | exact .inl (by first | exact trivial | exact rfl | exact ⟨rfl, rfl⟩ | exact ⟨rfl, rfl, rfl⟩ | exact ⟨rfl, .inl ⟨_, rfl, by simp only [List.length_map]; omega⟩⟩ | exact ⟨rfl, .inr ⟨_, rfl, by simp only [List.length_map]; omega⟩⟩)) ?_); refine ⟨_, (by dsimp only [appJ, killO, bitvec_to_nat, Nat.reduceAdd, Nat.reduceMul, Nat.reduceBEq, reduceCtorEq]), ?_⟩))
  repeat' (first
| refine g_ret ?_)
  exact krcc1 (krC rfl (by exact Nat.le_of_ble_eq_true rfl) rfl) (krC rfl (by exact Nat.le_of_ble_eq_true rfl) rfl) (krS rfl rfl)
set_option maxHeartbeats 1000000 in
set_option maxRecDepth 100000 in
theorem drawIlm_c {l : List Int} (h : bytesOk l) : ∃ p q f, okP p ∧ okP q ∧ f.length ≤ 1000 ∧ PCalls Try.prog 14 [bytesP l] (.tup [posetP p, posetP q, ints f]) := by
  obtain ⟨c1, p, k1, hp, hpl, h1⟩ := lattice_L (cu0_ok h) (by omega)
  obtain ⟨c2, q, k2, hq, hql, h2⟩ := lattice_L k1 (by omega)
  obtain ⟨c3, f, k3, hf, h3⟩ := map_L k2 (by omega) p q hp hq hpl hql
  refine ⟨p, q, f, hp, hq, hf, ?_⟩
  refine pcallsCC1 Try.func14 rfl Try.ntmps14 rfl ?_
  simp only [List.length_cons, List.length_nil, Nat.reduceAdd, Nat.reduceSub, List.replicate_succ, List.replicate_zero, List.cons_append, List.nil_append]
  repeat' (first
| refine g_seq ?_
| refine g_region ?_
| (refine o_go rfl ?_; (first
| refine p_e rfl (e_box rfl rfl) ?_
| refine p_e rfl (e_callL (n := 2) rfl rfl rfl (by (repeat (first | refine ⟨leS_refl _, ?_⟩ | refine ⟨leS_nn _ _ _, ?_⟩ | refine ⟨leS_nil _, ?_⟩ | refine ⟨leS_any _, ?_⟩)); exact trivial) rfl (by rfl) (by first | exact ⟨rfl, rfl, rfl, by simp⟩ | exact ⟨rfl, rfl, by simp⟩ | trivial) (h1)) ?_
| refine p_e rfl (e_callL (n := 2) rfl rfl rfl (by (repeat (first | refine ⟨leS_refl _, ?_⟩ | refine ⟨leS_nn _ _ _, ?_⟩ | refine ⟨leS_nil _, ?_⟩ | refine ⟨leS_any _, ?_⟩)); exact trivial) rfl (by rfl) (by first | exact ⟨rfl, rfl, rfl, by simp⟩ | exact ⟨rfl, rfl, by simp⟩ | trivial) (h2)) ?_
| refine p_p (ps_move rfl) ?_
| refine p_p (ps_assign rfl) ?_
| refine p_e rfl (e_store_boxA rfl rfl rfl rfl (by exact Nat.le_of_ble_eq_true rfl) rfl rfl rfl) ?_
| refine p_e rfl (e_alloc rfl) ?_
| refine p_p (ps_build rfl rfl) ?_); refine ⟨_, (by dsimp only [bitvec_to_nat, Nat.reduceAdd, Nat.reduceMul, Nat.reduceBEq, reduceCtorEq]), ?_⟩)
| refine o_nil ?_)
  refine g_region_drawZ [(0, some []), (1, some []), (2, some []), (3, some []), (4, some []), (5, none), (6, none), (7, none), (8, none)] [] (fun hp => hp[3]? = some (.box [intss p]) ∧ hp[4]? = some (.box [intss q])) (by kernel_rfl) rfl (by kernel_rfl) ?_
  repeat' (first
| refine z_nil ?_
| ((first
| refine z_pure rfl rfl (fun hp hH => ps_load_boxA rfl rfl hH.1 (by exact Nat.le_of_ble_eq_true rfl)) (by repeat (first | exact trivial | refine ⟨rfl, ?_⟩)) (by first | exact fun _ _ => trivial | exact (by intro y hy; simp [Op.operands] at hy; first | (subst hy; repeat (first | exact trivial | refine ⟨rfl, ?_⟩)) | (rcases hy with rfl | rfl <;> repeat (first | exact trivial | refine ⟨rfl, ?_⟩)))) (by decide) (by first | exact trivial | exact rfl | exact ⟨rfl, rfl⟩ | exact ⟨rfl, rfl, rfl⟩ | exact ⟨rfl, .inl ⟨_, rfl, by simp only [List.length_map]; omega⟩⟩ | exact ⟨rfl, .inr ⟨_, rfl, by simp only [List.length_map]; omega⟩⟩) ?_
| refine z_pure rfl rfl (fun hp hH => ps_load_boxA rfl rfl hH.2 (by exact Nat.le_of_ble_eq_true rfl)) (by repeat (first | exact trivial | refine ⟨rfl, ?_⟩)) (by first | exact fun _ _ => trivial | exact (by intro y hy; simp [Op.operands] at hy; first | (subst hy; repeat (first | exact trivial | refine ⟨rfl, ?_⟩)) | (rcases hy with rfl | rfl <;> repeat (first | exact trivial | refine ⟨rfl, ?_⟩)))) (by decide) (by first | exact trivial | exact rfl | exact ⟨rfl, rfl⟩ | exact ⟨rfl, rfl, rfl⟩ | exact ⟨rfl, .inl ⟨_, rfl, by simp only [List.length_map]; omega⟩⟩ | exact ⟨rfl, .inr ⟨_, rfl, by simp only [List.length_map]; omega⟩⟩) ?_
| refine z_pure rfl rfl (fun _ _ => ps_move rfl) (by repeat (first | exact trivial | refine ⟨rfl, ?_⟩)) (by first | exact fun _ _ => trivial | exact (by intro y hy; simp [Op.operands] at hy; first | (subst hy; repeat (first | exact trivial | refine ⟨rfl, ?_⟩)) | (rcases hy with rfl | rfl <;> repeat (first | exact trivial | refine ⟨rfl, ?_⟩)))) (by decide) (by first | exact trivial | exact rfl | exact ⟨rfl, rfl⟩ | exact ⟨rfl, rfl, rfl⟩ | exact ⟨rfl, .inl ⟨_, rfl, by simp only [List.length_map]; omega⟩⟩ | exact ⟨rfl, .inr ⟨_, rfl, by simp only [List.length_map]; omega⟩⟩) ?_
| refine z_eff rfl rfl (by first | exact trivial | exact .inl ⟨rfl, rfl⟩ | exact .inr (.inl ⟨rfl, rfl⟩) | exact .inr (.inr (.inl ⟨rfl, rfl⟩)) | exact .inr (.inr (.inr (.inl ⟨rfl, rfl⟩)))) (j_callLB (n := 2) rfl rfl rfl (by (repeat (first | refine ⟨leS_refl _, ?_⟩ | refine ⟨leS_nn _ _ _, ?_⟩ | refine ⟨leS_nil _, ?_⟩ | refine ⟨leS_any _, ?_⟩)); exact trivial) (by rfl) (by rfl) (h3)) (by first | exact .inr (by decide) | exact .inl (by first | exact trivial | exact rfl | exact ⟨rfl, rfl⟩ | exact ⟨rfl, rfl, rfl⟩ | exact ⟨rfl, .inl ⟨_, rfl, by simp only [List.length_map]; omega⟩⟩ | exact ⟨rfl, .inr ⟨_, rfl, by simp only [List.length_map]; omega⟩⟩)) ?_
| refine z_eff rfl rfl (by first | exact trivial | exact .inl ⟨rfl, rfl⟩ | exact .inr (.inl ⟨rfl, rfl⟩) | exact .inr (.inr (.inl ⟨rfl, rfl⟩)) | exact .inr (.inr (.inr (.inl ⟨rfl, rfl⟩)))) (j_store_boxA rfl rfl rfl rfl (by exact Nat.le_of_ble_eq_true rfl) rfl rfl rfl) (by first | exact .inr (by decide) | exact .inl (by first | exact trivial | exact rfl | exact ⟨rfl, rfl⟩ | exact ⟨rfl, rfl, rfl⟩ | exact ⟨rfl, .inl ⟨_, rfl, by simp only [List.length_map]; omega⟩⟩ | exact ⟨rfl, .inr ⟨_, rfl, by simp only [List.length_map]; omega⟩⟩)) ?_
| refine z_eff rfl rfl (by first | exact trivial | exact .inl ⟨rfl, rfl⟩ | exact .inr (.inl ⟨rfl, rfl⟩) | exact .inr (.inr (.inl ⟨rfl, rfl⟩)) | exact .inr (.inr (.inr (.inl ⟨rfl, rfl⟩)))) (j_pure (ps_assign rfl)) (by first | exact .inr (by decide) | exact .inl (by first | exact trivial | exact rfl | exact ⟨rfl, rfl⟩ | exact ⟨rfl, rfl, rfl⟩ | exact ⟨rfl, .inl ⟨_, rfl, by simp only [List.length_map]; omega⟩⟩ | exact ⟨rfl, .inr ⟨_, rfl, by simp only [List.length_map]; omega⟩⟩)) ?_); refine ⟨_, (by dsimp only [appJ, killO, bitvec_to_nat, Nat.reduceAdd, Nat.reduceMul, Nat.reduceBEq, reduceCtorEq]), ?_⟩))
  repeat' (first
| refine g_ret ?_)
  exact krcc1 (krC rfl (by exact Nat.le_of_ble_eq_true rfl) rfl) (krC rfl (by exact Nat.le_of_ble_eq_true rfl) rfl) (krS rfl rfl)
set_option maxHeartbeats 1000000 in
set_option maxRecDepth 100000 in
theorem drawIpm_c {l : List Int} (h : bytesOk l) : ∃ p q f, okP p ∧ okP q ∧ f.length ≤ 1000 ∧ PCalls Try.prog 16 [bytesP l] (.tup [posetP p, posetP q, ints f]) := by
  obtain ⟨c1, p, k1, hp, hpl, h1⟩ := lattice_L (cu0_ok h) (by omega)
  obtain ⟨c2, q, k2, hq, hql, h2⟩ := lattice_L k1 (by omega)
  obtain ⟨c3, f, k3, hf, h3⟩ := points_L k2 (by omega) p q hp hq
  refine ⟨p, q, f, hp, hq, hf, ?_⟩
  refine pcallsCC1 Try.func16 rfl Try.ntmps16 rfl ?_
  simp only [List.length_cons, List.length_nil, Nat.reduceAdd, Nat.reduceSub, List.replicate_succ, List.replicate_zero, List.cons_append, List.nil_append]
  repeat' (first
| refine g_seq ?_
| refine g_region ?_
| (refine o_go rfl ?_; (first
| refine p_e rfl (e_box rfl rfl) ?_
| refine p_e rfl (e_callL (n := 2) rfl rfl rfl (by (repeat (first | refine ⟨leS_refl _, ?_⟩ | refine ⟨leS_nn _ _ _, ?_⟩ | refine ⟨leS_nil _, ?_⟩ | refine ⟨leS_any _, ?_⟩)); exact trivial) rfl (by rfl) (by first | exact ⟨rfl, rfl, rfl, by simp⟩ | exact ⟨rfl, rfl, by simp⟩ | trivial) (h1)) ?_
| refine p_e rfl (e_callL (n := 2) rfl rfl rfl (by (repeat (first | refine ⟨leS_refl _, ?_⟩ | refine ⟨leS_nn _ _ _, ?_⟩ | refine ⟨leS_nil _, ?_⟩ | refine ⟨leS_any _, ?_⟩)); exact trivial) rfl (by rfl) (by first | exact ⟨rfl, rfl, rfl, by simp⟩ | exact ⟨rfl, rfl, by simp⟩ | trivial) (h2)) ?_
| refine p_p (ps_move rfl) ?_
| refine p_p (ps_assign rfl) ?_
| refine p_e rfl (e_store_boxA rfl rfl rfl rfl (by exact Nat.le_of_ble_eq_true rfl) rfl rfl rfl) ?_
| refine p_e rfl (e_alloc rfl) ?_
| refine p_p (ps_build rfl rfl) ?_); refine ⟨_, (by dsimp only [bitvec_to_nat, Nat.reduceAdd, Nat.reduceMul, Nat.reduceBEq, reduceCtorEq]), ?_⟩)
| refine o_nil ?_)
  refine g_region_drawZ [(0, some []), (1, some []), (2, some []), (3, some []), (4, some []), (5, none), (6, none), (7, none), (8, none)] [] (fun hp => hp[3]? = some (.box [intss p]) ∧ hp[4]? = some (.box [intss q])) (by kernel_rfl) rfl (by kernel_rfl) ?_
  repeat' (first
| refine z_nil ?_
| ((first
| refine z_pure rfl rfl (fun hp hH => ps_load_boxA rfl rfl hH.1 (by exact Nat.le_of_ble_eq_true rfl)) (by repeat (first | exact trivial | refine ⟨rfl, ?_⟩)) (by first | exact fun _ _ => trivial | exact (by intro y hy; simp [Op.operands] at hy; first | (subst hy; repeat (first | exact trivial | refine ⟨rfl, ?_⟩)) | (rcases hy with rfl | rfl <;> repeat (first | exact trivial | refine ⟨rfl, ?_⟩)))) (by decide) (by first | exact trivial | exact rfl | exact ⟨rfl, rfl⟩ | exact ⟨rfl, rfl, rfl⟩ | exact ⟨rfl, .inl ⟨_, rfl, by simp only [List.length_map]; omega⟩⟩ | exact ⟨rfl, .inr ⟨_, rfl, by simp only [List.length_map]; omega⟩⟩) ?_
| refine z_pure rfl rfl (fun hp hH => ps_load_boxA rfl rfl hH.2 (by exact Nat.le_of_ble_eq_true rfl)) (by repeat (first | exact trivial | refine ⟨rfl, ?_⟩)) (by first | exact fun _ _ => trivial | exact (by intro y hy; simp [Op.operands] at hy; first | (subst hy; repeat (first | exact trivial | refine ⟨rfl, ?_⟩)) | (rcases hy with rfl | rfl <;> repeat (first | exact trivial | refine ⟨rfl, ?_⟩)))) (by decide) (by first | exact trivial | exact rfl | exact ⟨rfl, rfl⟩ | exact ⟨rfl, rfl, rfl⟩ | exact ⟨rfl, .inl ⟨_, rfl, by simp only [List.length_map]; omega⟩⟩ | exact ⟨rfl, .inr ⟨_, rfl, by simp only [List.length_map]; omega⟩⟩) ?_
| refine z_pure rfl rfl (fun _ _ => ps_move rfl) (by repeat (first | exact trivial | refine ⟨rfl, ?_⟩)) (by first | exact fun _ _ => trivial | exact (by intro y hy; simp [Op.operands] at hy; first | (subst hy; repeat (first | exact trivial | refine ⟨rfl, ?_⟩)) | (rcases hy with rfl | rfl <;> repeat (first | exact trivial | refine ⟨rfl, ?_⟩)))) (by decide) (by first | exact trivial | exact rfl | exact ⟨rfl, rfl⟩ | exact ⟨rfl, rfl, rfl⟩ | exact ⟨rfl, .inl ⟨_, rfl, by simp only [List.length_map]; omega⟩⟩ | exact ⟨rfl, .inr ⟨_, rfl, by simp only [List.length_map]; omega⟩⟩) ?_
| refine z_eff rfl rfl (by first | exact trivial | exact .inl ⟨rfl, rfl⟩ | exact .inr (.inl ⟨rfl, rfl⟩) | exact .inr (.inr (.inl ⟨rfl, rfl⟩)) | exact .inr (.inr (.inr (.inl ⟨rfl, rfl⟩)))) (j_callLB (n := 2) rfl rfl rfl (by (repeat (first | refine ⟨leS_refl _, ?_⟩ | refine ⟨leS_nn _ _ _, ?_⟩ | refine ⟨leS_nil _, ?_⟩ | refine ⟨leS_any _, ?_⟩)); exact trivial) (by rfl) (by rfl) (h3)) (by first | exact .inr (by decide) | exact .inl (by first | exact trivial | exact rfl | exact ⟨rfl, rfl⟩ | exact ⟨rfl, rfl, rfl⟩ | exact ⟨rfl, .inl ⟨_, rfl, by simp only [List.length_map]; omega⟩⟩ | exact ⟨rfl, .inr ⟨_, rfl, by simp only [List.length_map]; omega⟩⟩)) ?_
| refine z_eff rfl rfl (by first | exact trivial | exact .inl ⟨rfl, rfl⟩ | exact .inr (.inl ⟨rfl, rfl⟩) | exact .inr (.inr (.inl ⟨rfl, rfl⟩)) | exact .inr (.inr (.inr (.inl ⟨rfl, rfl⟩)))) (j_store_boxA rfl rfl rfl rfl (by exact Nat.le_of_ble_eq_true rfl) rfl rfl rfl) (by first | exact .inr (by decide) | exact .inl (by first | exact trivial | exact rfl | exact ⟨rfl, rfl⟩ | exact ⟨rfl, rfl, rfl⟩ | exact ⟨rfl, .inl ⟨_, rfl, by simp only [List.length_map]; omega⟩⟩ | exact ⟨rfl, .inr ⟨_, rfl, by simp only [List.length_map]; omega⟩⟩)) ?_
| refine z_eff rfl rfl (by first | exact trivial | exact .inl ⟨rfl, rfl⟩ | exact .inr (.inl ⟨rfl, rfl⟩) | exact .inr (.inr (.inl ⟨rfl, rfl⟩)) | exact .inr (.inr (.inr (.inl ⟨rfl, rfl⟩)))) (j_pure (ps_assign rfl)) (by first | exact .inr (by decide) | exact .inl (by first | exact trivial | exact rfl | exact ⟨rfl, rfl⟩ | exact ⟨rfl, rfl, rfl⟩ | exact ⟨rfl, .inl ⟨_, rfl, by simp only [List.length_map]; omega⟩⟩ | exact ⟨rfl, .inr ⟨_, rfl, by simp only [List.length_map]; omega⟩⟩)) ?_); refine ⟨_, (by dsimp only [appJ, killO, bitvec_to_nat, Nat.reduceAdd, Nat.reduceMul, Nat.reduceBEq, reduceCtorEq]), ?_⟩))
  repeat' (first
| refine g_ret ?_)
  exact krcc1 (krC rfl (by exact Nat.le_of_ble_eq_true rfl) rfl) (krC rfl (by exact Nat.le_of_ble_eq_true rfl) rfl) (krS rfl rfl)
end Go.Proofs.Ytbfmjknngofleaa
