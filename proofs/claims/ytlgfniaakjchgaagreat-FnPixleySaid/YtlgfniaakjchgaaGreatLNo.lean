/- The layer: structs with owned rows in drawn regions. -/
import Derived.Test.YtlgfniaakjchgaaGreatLNl
import Derived.Test.YtlgfniaakjchgaaGreatLGx
import Derived.Test.YtlgfniaakjchgaaGreatLNg
namespace Go.Pv
open Go
attribute [local semireducible] Go.Pv.Goal Go.Pv.Ops Go.Pv.PStep Go.Pv.EStep Go.Pv.KRets Go.Pv.PCalls Go.Pv.OpsG Go.Pv.RCalls
section
variable {P : Program} {o : Oper} {ev : Operand → PV} {hp : List HO}
theorem j_make {t e : TypeId} {s by_ : Nat} {zs : List Value} [ht : MkT P t e s by_ zs] {x y : Operand} {n : Int} {zp : PV} (ho : o.op = .makeSlice t x y) (h1 : ev x = I n) (h2 : ev y = I n) (h0 : 0 ≤ n) (hb : n * by_ ≤ 140737488355328) (hn : n ≤ 9223372036854775807)
    (hs : 0 < s) (hz : zp.flat = some (zs.map .val)) (hzs : zs.length = s) : JStep P o ev hp (some hp.length) (killH hp.length hp ++ [.arr true s e (List.replicate n.toNat zp)]) (.hp hp.length) := fun fr hfr =>
  e_make (S := ⟨fr, hp⟩) (ht := ht) ho ((hfr x (by simp [ho, Op.operands])).trans h1) ((hfr y (by simp [ho, Op.operands])).trans h2) h0 hb hn hs hz hzs
theorem j_lit1S {t e : TypeId} {by_ : Nat} [ht : SlT P t e 2 by_] {zs : List Value} [hz : ZeroT P e zs] {x : Operand} {k : Nat} {e2 : TypeId} {z0 : Value} {l : List PV} (ho : o.op = .buildSlice t 1 #[(0, x)]) (h2 : ev x = .agg [.val z0, .hp k]) (hk : hp[k]? = some (.arr true 1 e2 l)) (hone : l.all PV.one = true) (hu1 : (PV.val z0).one = true) :
    JStep P o ev hp (some hp.length) (killH hp.length (hp.set k .gone) ++ [.sg e e2 0 [.val z0 :: l]]) (.hp hp.length) := fun fr hfr =>
  e_lit1S (S := ⟨fr, hp⟩) (ht := ht) ho ((hfr x (by simp [ho, Op.operands])).trans h2) hk hone hu1
theorem j_append_sg {t e : TypeId} {by_ : Nat} {z0 z1 : Value} [ht : MkT P t e 2 by_ [z0, z1]] {x y : Operand} {tys : Array TypeId} {id k : Nat} {e' e2 : TypeId} {rows rows2 : List (List PV)} (ho : o.op = .call { callee := .builtin .append, args := #[x, y], argTypes := tys })
    (htys : tys = #[t, t]) (h1 : ev x = .hp id) (hh : hp[id]? = some (.sg e e2 0 rows)) (h2 : ev y = .hp k) (hk : hp[k]? = some (.sg e' e2 0 rows2)) (hne : (k == id) = false)
    (hb : (rows.length + rows2.length) * by_ ≤ 140737488355328) (hm : rows.length + rows2.length ≤ 9223372036854775807) : JStep P o ev hp (some id) ((killH id (hp.set k .gone)).set id (.sg e e2 0 (rows ++ rows2))) (.hp id) := fun fr hfr =>
  e_append_sg (S := ⟨fr, hp⟩) (ht := ht) ho htys ((hfr x (by simp [ho, Op.operands, Call.operands])).trans h1) hh ((hfr y (by simp [ho, Op.operands, Call.operands])).trans h2) hk hne hb hm
theorem j_appendRowS {t e : TypeId} {by_ : Nat} {z0 : Value} [ht : MkT P t e 1 by_ [z0]] {x y : Operand} {tys : Array TypeId} {id i : Nat} {e1 e2 : TypeId} {rows : List (List PV)} {h0 : PV} {r l2 : List PV} {nn : Option Bool} (ho : o.op = .call { callee := .builtin .append, args := #[x, y], argTypes := tys })
    (htys : tys = #[t, t]) (h1 : ev x = .gr id i) (hh : hp[id]? = some (.sg e1 e2 0 rows)) (he : e2 = e) (hr : rows[i]? = some (h0 :: r)) (h2 : view hp (ev y) = .sl 1 nn l2) (hone : ∀ p ∈ l2, p.one = true)
    (hb : (r.length + l2.length) * by_ ≤ 140737488355328) (hm : r.length + l2.length ≤ 9223372036854775807) : JStep P o ev hp none (hp.set id (.arr true 2 e1 (rows.map sgP))) (slR (r ++ l2)) := fun fr hfr =>
  e_appendRowS (S := ⟨fr, hp⟩) (ht := ht) ho htys ((hfr x (by simp [ho, Op.operands, Call.operands])).trans h1) hh he hr (by rw [show (St.mk fr hp).ev y = ev y from hfr y (by simp [ho, Op.operands, Call.operands])]; exact h2) hone hb hm
theorem j_store_sg0 {t : TypeId} [ht : CellT P t] {x v : Operand} {id i k : Nat} {e1 e2 : TypeId} {n : Nat} {rows : List (List PV)} {r : List PV} {h0 p : PV} (ho : o.op = .store t x v) (hd : o.dst = none) (h1 : ev x = .hat id k) (hh : hp[id]? = some (.sg e1 e2 n rows))
    (hk : k = i * 2) (hr : rows[i]? = some (h0 :: r)) (h2 : view hp (ev v) = p) (hp1 : p.one = true) : JStep P o ev hp none (hp.set id (.sg e1 e2 n (rows.set i (p :: r)))) .any :=
  j_store ho hd fun fr e1 e2 => e_store_sg0 (S := ⟨fr, hp⟩) ho hd (e1.trans h1) hh hk hr (by rw [e2]; exact h2) hp1
theorem j_store_sgr {t : TypeId} [ht : CellT P t] {x v : Operand} {id i j n : Nat} {e1 e2 : TypeId} {rows : List (List PV)} {h0 : PV} {r : List PV} {p : PV} (ho : o.op = .store t x v) (hd : o.dst = none) (h1 : ev x = .gat id i j) (hh : hp[id]? = some (.sg e1 e2 n rows))
    (hr : rows[i]? = some (h0 :: r)) (hj : j < r.length) (h2 : view hp (ev v) = p) (hp1 : p.one = true) : JStep P o ev hp none (hp.set id (.sg e1 e2 n (rows.set i (h0 :: r.set j p)))) .any :=
  j_store ho hd fun fr e1 e2 => e_store_sgr (S := ⟨fr, hp⟩) ho hd (e1.trans h1) hh hr hj (by rw [e2]; exact h2) hp1
theorem j_store_arrF {t : TypeId} [ht : CellT P t] {s : Nat} {x v : Operand} {id i j k : Nat} {e : TypeId} {l c : List PV} {p p' : PV} (ho : o.op = .store t x v) (hd : o.dst = none) (h1 : ev x = .hat id k) (hh : hp[id]? = some (.arr true s e l)) (hk : k = i * s + j) (hl : l[i]? = some (.agg c)) (hj : j < c.length)
    (h2 : view hp (ev v) = p) (hp1 : p.one = true) (hp' : p' = .agg (c.set j p)) : JStep P o ev hp none (hp.set id (.arr true s e (l.set i p'))) .any :=
  j_store ho hd fun fr e1 e2 => e_store_arrF (S := ⟨fr, hp⟩) ho hd (e1.trans h1) hh hk hl hj (by rw [e2]; exact h2) hp1 hp'
end
end Go.Pv
/- The law of ChainLengths, walked. -/
namespace Go.Proofs.YtlgfniaakjchgaaGreat
open Go Go.Pv Go.Proofs
set_option maxHeartbeats 32000000
set_option maxRecDepth 100000
attribute [local bitvec_to_nat] St.put St.setObj St.ev killP killA killP1 killH mapHO renP renA ren1 killG killGA killG1 krowP krowA krow1 lendP lendA lend1 unv pinP pin1 elemsM viewM viewN viewV n_set_z n_set_s n_map_c n_map_n getD_z getD_s n_toNat n_cond_t n_cond_f n_len_c n_len_n n_app_c n_app_n n_take_s n_take_z n_drop_s n_drop_z n_get_z n_get_s view viewA view1 elems Nat.zero_add Nat.add_zero Bool.not_true Bool.not_false Nat.one_ne_zero Nat.mul_one
attribute [local bitvec_to_nat] posI optP lendM1 lendMA lendMP killM1 killMA killMP hasI getO backM1 backMA backMP putL inpM pinM1 pinMA pinMP

theorem opL_olen (o : Option (List Nat)) : ((opL o).length : Int) - 1 = olen o := by cases o <;> simp [opL, olen]
theorem slens_c (n : Int) (ops : List OpD) (ho : szOk ops) : PCalls Tryz.prog 16 [algP n ops] (.tup (clV n ops)) := by
  unfold clV
  cases hV : clT n ops with
  | none =>
    obtain ⟨T, -, h1⟩ := s17_none ho hV
    refine pcalls4 Tryz.func16 rfl Tryz.ntmps16 rfl ?_
    simp only [List.length_cons, List.length_nil, Nat.reduceAdd, Nat.reduceSub, List.replicate_succ, List.replicate_zero, List.cons_append, List.nil_append]
    repeat' (first
| refine kr4 ?_ ?_ ?_ ?_
| refine g_seq ?_
| refine zC ?_
| (refine o_go rfl ?_; (first
| refine p_p (zG rfl rfl aC (h1)) ?_
| refine p_p (zD rfl) ?_
| refine p_p (zA rfl) ?_
| refine p_p (ps_load_agg rfl rfl aK) ?_
| refine p_p (ps_extract rfl rfl rfl) ?_
| refine p_p (ps_not rfl rfl) ?_
| refine p_p (ps_box rfl rfl) ?_); refine ⟨_, aB, ?_⟩)
| refine o_nil ?_
| refine zX rfl ?_
| refine krB rfl ?_
| refine krI rfl ?_
| refine g_ret ?_)
    all_goals rfl
  | some T =>
    have h1 := s17_some ho hV
    obtain ⟨m, rfl, hg, -, hC⟩ := clT_some hV
    dsimp only
    rw [Int.toNat_natCast]
    refine pcalls4 Tryz.func16 rfl Tryz.ntmps16 rfl ?_
    simp only [List.length_cons, List.length_nil, Nat.reduceAdd, Nat.reduceSub, List.replicate_succ, List.replicate_zero, List.cons_append, List.nil_append]
    have d1 := s17dist_c m ops T hC
    have d2 := sperm_c m ops T hC
    have d3 := sdir_c m ops T hC
    have l1 : ∀ c, dS m T = some c → c.length ≤ 15 := fun c h => (shV_len h).2.1
    have l2 : ∀ c, pS m T = some c → c.length ≤ 15 := fun c h => (shV_len h).2.1
    have k1 : (opL (dS m T)).length ≤ 15 := by cases h : dS m T with
      | none => simp [opL]
      | some c => have := l1 c h; simpa [opL] using this
    have k2 : (opL (pS m T)).length ≤ 15 := by cases h : pS m T with
      | none => simp [opL]
      | some c => have := l2 c h; simpa [opL] using this
    have e1 := opL_olen (dS m T)
    have e2 := opL_olen (pS m T)
    generalize olen (dS m T) = x1 at *
    generalize olen (pS m T) = x2 at *
    generalize opL (dS m T) = c1 at *
    generalize opL (pS m T) = c2 at *
    generalize (dS m T).isSome = s1 at *
    generalize (pS m T).isSome = s2 at *
    cases hR : rS m T with
    | none =>
      rw [hR] at d3
      dsimp only [opL, Option.isSome] at d3
      repeat' (first
| refine kr4 ?_ ?_ ?_ ?_
| refine g_seq ?_
| refine zC ?_
| (refine o_go rfl ?_; (first
| refine p_p (zG rfl rfl aC (h1)) ?_
| refine p_p (zG rfl rfl aC (d1)) ?_
| refine p_p (zG rfl rfl aC (d2)) ?_
| refine p_p (zG rfl rfl aC (d3)) ?_
| refine p_p (zD rfl) ?_
| refine p_p (zA rfl) ?_
| refine p_p (zF rfl rfl) ?_
| refine p_p (ps_load_agg rfl rfl aK) ?_
| refine p_p (zU rfl rfl rfl) ?_
| refine p_p (zL rfl rfl) ?_
| refine p_p (ps_extract rfl rfl rfl) ?_
| refine p_p (ps_not rfl rfl) ?_
| refine p_p (ps_sub rfl rfl rfl aN) ?_
| refine p_p (ps_box rfl rfl) ?_); refine ⟨_, aB, ?_⟩)
| refine o_nil ?_
| refine zX rfl ?_
| refine zW rfl ?_
| refine krB rfl ?_
| refine krI rfl ?_
| refine zR ?_
| refine g_ret ?_)
      all_goals first | rfl | (rw [e1]; done) | (rw [e2]; done) | (exfalso; omega) | (rw [e1]; rfl) | (rw [e2]; rfl)
    | some c =>
      rw [hR] at d3
      dsimp only [opL, Option.isSome] at d3
      repeat' (first
| refine kr4 ?_ ?_ ?_ ?_
| refine g_seq ?_
| refine zC ?_
| (refine o_go rfl ?_; (first
| refine p_p (zG rfl rfl aC (h1)) ?_
| refine p_p (zG rfl rfl aC (d1)) ?_
| refine p_p (zG rfl rfl aC (d2)) ?_
| refine p_p (zG rfl rfl aC (d3)) ?_
| refine p_p (zD rfl) ?_
| refine p_p (zA rfl) ?_
| refine p_p (zF rfl rfl) ?_
| refine p_p (ps_load_agg rfl rfl aK) ?_
| refine p_p (zU rfl rfl rfl) ?_
| refine p_p (zL rfl rfl) ?_
| refine p_p (ps_extract rfl rfl rfl) ?_
| refine p_p (ps_not rfl rfl) ?_
| refine p_p (ps_sub rfl rfl rfl aN) ?_
| refine p_p (ps_box rfl rfl) ?_); refine ⟨_, aB, ?_⟩)
| refine o_nil ?_
| refine zW rfl ?_
| refine krB rfl ?_
| refine krI rfl ?_
| refine zR ?_
| refine g_ret ?_)
      all_goals first | rfl | (rw [e1]; done) | (rw [e2]; done) | (exfalso; omega) | (rw [e1]; rfl) | (rw [e2]; rfl) | (rw [List.length_map]; rfl)
end Go.Proofs.YtlgfniaakjchgaaGreat
