/- Walks: all congruences and chains as they are told. -/
import Derived.Test.YtkdagmbgjddopaaJKt
import Derived.Test.YtkdagmbgjddopaaJKo
import Derived.Test.YtkdagmbgjddopaaJGc
import Derived.Test.YtkdagmbgjddopaaJPr
import Derived.Test.YtkdagmbgjddopaaJHn
import Derived.Test.YtkdagmbgjddopaaJZb
import Derived.Test.YtkdagmbgjddopaaJKy
namespace Go.Proofs.Ytkdagmbgjddopaa
open Go Go.Pv Go.Proofs
set_option maxHeartbeats 32000000
set_option maxRecDepth 100000
attribute [local bitvec_to_nat] St.put St.setObj St.ev killP killA killP1 killH mapHO renP renA ren1 killG killGA killG1 krowP krowA krow1 lendP lendA lend1 unv pinP pin1 elemsM viewM viewN viewV n_set_z n_set_s n_map_c n_map_n getD_z getD_s n_toNat n_cond_t n_cond_f n_len_c n_len_n n_app_c n_app_n n_take_s n_take_z n_drop_s n_drop_z n_get_z n_get_s view viewA view1 elems Nat.zero_add Nat.add_zero Bool.not_true Bool.not_false Nat.one_ne_zero Nat.mul_one

theorem icongs_c (n : Int) (ops : List OpD) (hs : szOk ops) : PCalls Try.prog 36 [algP n ops] (.tup [if acB n ops then intss (acV n ops) else nilV, B (acB n ops)]) := by
  refine pcalls2 Try.func36 rfl Try.ntmps36 rfl ?_
  simp only [List.length_cons, List.length_nil, Nat.reduceAdd, Nat.reduceSub, List.replicate_succ, List.replicate_zero, List.cons_append, List.nil_append]
  have h1 := igood_c n ops hs
  cases hg : algOk n ops with
  | false =>
    have hb : acB n ops = false := by unfold acB; rw [hg]; rfl
    rw [hg] at h1
    rw [hb, if_neg (by decide)]
    repeat' (first
| refine g_seq ?_
| refine zC ?_
| (refine o_go rfl ?_; (first
| refine p_p (zG rfl rfl aC (h1)) ?_
| refine p_p (zA rfl) ?_
| refine p_p (ps_load_agg rfl rfl aK) ?_
| refine p_p (ps_not rfl rfl) ?_
| refine p_p (ps_box rfl rfl) ?_); refine ⟨_, aA, ?_⟩)
| refine o_nil ?_
| refine zX rfl ?_
| refine kr2 ?_ ?_
| refine krB rfl ?_
| refine g_ret ?_)
    all_goals first | rfl | (exfalso; omega) | exact krV rfl | exact krB rfl rfl
  | true =>
    rw [hg] at h1
    obtain ⟨m, rfl, hm0, hm8, h4, ho⟩ := algOk_facts hg
    have h2 := iallc_c m ops hm0 hm8 (by omega) ho
    by_cases hle : (allL m ops).length ≤ 200
    · have hb : acB m ops = true := by unfold acB; rw [hg, Int.toNat_natCast, decide_eq_true hle]; rfl
      rw [if_pos hle, decide_eq_true hle] at h2
      rw [show acV (m : Int) ops = allL m ops by unfold acV; rw [hb, if_pos rfl, Int.toNat_natCast], hb, if_pos rfl]
      repeat' (first
| refine g_seq ?_
| refine zC ?_
| (refine o_go rfl ?_; (first
| refine p_p (zG rfl rfl aC (h1)) ?_
| refine p_p (zG rfl rfl aC (h2)) ?_
| refine p_p (zA rfl) ?_
| refine p_p (ps_load_agg rfl rfl aK) ?_
| refine p_p (ps_extract rfl rfl rfl) ?_
| refine p_p (ps_not rfl rfl) ?_
| refine p_p (ps_box rfl rfl) ?_); refine ⟨_, aA, ?_⟩)
| refine o_nil ?_
| refine zW rfl ?_
| refine kr2 ?_ ?_
| refine krB rfl ?_
| refine krS rfl ?_
| refine zR ?_
| refine g_ret ?_)
      all_goals first | rfl | (exfalso; omega) | exact krV rfl | exact krB rfl rfl
    · have hb : acB m ops = false := by unfold acB; rw [hg, Int.toNat_natCast, decide_eq_false hle]; rfl
      rw [if_neg hle, decide_eq_false hle] at h2
      rw [hb, if_neg (by decide)]
      repeat' (first
| refine g_seq ?_
| refine zC ?_
| (refine o_go rfl ?_; (first
| refine p_p (zG rfl rfl aC (h1)) ?_
| refine p_p (zG rfl rfl aC (h2)) ?_
| refine p_p (zA rfl) ?_
| refine p_p (ps_load_agg rfl rfl aK) ?_
| refine p_p (ps_extract rfl rfl rfl) ?_
| refine p_p (ps_not rfl rfl) ?_
| refine p_p (ps_box rfl rfl) ?_); refine ⟨_, aA, ?_⟩)
| refine o_nil ?_
| refine zW rfl ?_
| refine kr2 ?_ ?_
| refine krB rfl ?_
| refine zR ?_
| refine g_ret ?_)
      all_goals first | rfl | (exfalso; omega) | exact krV rfl | exact krB rfl rfl
end Go.Proofs.Ytkdagmbgjddopaa
/- The layer: a block of cells that is reached by a slice, settled when it is whole. -/
namespace Go.Pv
open Go
attribute [local semireducible] Go.Pv.Goal Go.Pv.Ops Go.Pv.PStep Go.Pv.EStep Go.Pv.KRets Go.Pv.PCalls Go.Pv.OpsG
section
variable {P : Program} {o : Oper} {ev : Operand → PV} {hp : List HO}
theorem ps_len_box {t e : TypeId} {s by_ : Nat} [ht : SlT P t e s by_] {x : Operand} {id : Nat} {l : List PV} {tys : Array TypeId} (ho : o.op = .call { callee := .builtin .len, args := #[x], argTypes := tys }) (htys : tys = #[t])
    (h1 : ev x = .hp id) (hh : hp[id]? = some (.box l)) : PStep P o ev hp (I l.length) :=
  .of_run fun w0 g ρ w av hb hx => by
    have e1 := hx x (by simp [ho, Op.operands, Call.operands])
    subst htys
    rw [h1] at e1
    have ea := (HpV.box e1 _ hh).1
    exact ⟨.int .i64 l.length, by simp [execOp, ho, resolve, invoke, builtin, Builtin.len_, ea, run_underlying ht.hu, goInt, go_sem], .val _⟩
end
def setS1 (n : Nat) (l : List PV) : PV → PV
  | .hp j => bif j == n then .sl 1 none l else .hp j
  | .hpv j b c => bif j == n then .sl 1 none l else .hpv j b c
  | p => p
def setSA (n : Nat) (l : List PV) : PV → PV
  | .agg m => .agg (m.map (setS1 n l))
  | p => setS1 n l p
def setSP (n : Nat) (l : List PV) : PV → PV
  | .tup m => .tup (m.map (setSA n l))
  | .agg m => .agg (m.map (setS1 n l))
  | p => setS1 n l p
theorem setSA_map (n : Nat) (l : List PV) : setSA n l = mapA (setS1 n l) := by funext p; cases p <;> rfl
theorem setSP_map (n : Nat) (l : List PV) (p : PV) : setSP n l p = mapT (setS1 n l) p := by cases p <;> first | rfl | simp only [setSP, mapT, setSA_map]
def setSH (n : Nat) (l : List PV) (hp : List HO) : List HO := (hp.map (mapHO (setS1 n l))).set n .gone

theorem rel_settleS {w0 : Ini} {S : St} {g : Ghost} {ρ : Nat → Loc} {a : Act} {w : World} (h : Rel w0 S g ρ a w) {n : Nat} {l : List PV} (hn : S.hp[n]? = some (.box l)) (hone : ∀ p ∈ l.map (view1 S.hp), p.one = true) :
    ∃ g', GExt g g' ∧ Rel w0 ⟨S.fr.map (setSP n (l.map (view1 S.hp))), setSH n (l.map (view1 S.hp)) S.hp⟩ g' ρ a w := by
  obtain ⟨cur, e, hown⟩ := h.base.own n _ hn
  let g' : Ghost := gset g (ρ n).blk (fun o => cur[o]?)
  have hx : GExt g g' := fun b o v hv => by
    show gset g (ρ n).blk _ b o = some v
    unfold gset
    split
    · rename_i e; subst e; rw [hown.hg] at hv; cases hv
    · exact hv
  have hag : Agree g' w := fun b o v hv => by
    have hv' : gset g (ρ n).blk (fun o => cur[o]?) b o = some v := hv
    unfold gset at hv'
    split at hv'
    · rename_i e; subst e
      rw [cell_of_row _ _ _ _ _ _ hown.hw]; exact hv'
    · exact h.base.agree b o v hv'
  have hlt : n < S.hp.length := (List.getElem?_eq_some_iff.1 hn).1
  have back : ∀ (i : Nat) (y : HO), ((S.hp.map (mapHO (setS1 n (l.map (view1 S.hp))))).set n .gone)[i]? = some y → y = .gone ∨ (S.hp[i]?).map (mapHO (setS1 n (l.map (view1 S.hp)))) = some y := fun i y hi => by
    rw [List.getElem?_set] at hi
    split at hi
    · split at hi
      · left; simpa using hi.symm
      · cases hi
    · right; rwa [List.getElem?_map] at hi
  have hφ : ∀ v p, VRS1 g ρ S.hp v p → VRS1 g' ρ ((S.hp.map (mapHO (setS1 n (l.map (view1 S.hp))))).set n .gone) v (setS1 n (l.map (view1 S.hp)) p) := fun v p hv => by
    have keyH : ∀ {j}, HpV ρ S.hp v j → HpV ρ ((S.hp.map (mapHO (setS1 n (l.map (view1 S.hp))))).set n .gone) v j := fun {j} hv =>
      { sl := hv.sl
        arr := fun m s e l' hid => by
          rcases back _ _ hid with h' | h'
          · cases h'
          · exact hv.arr _ _ _ _ (mapHO_arr h')
        grid := fun e1 e2 rows hid => by
          rcases back _ _ hid with h' | h'
          · cases h'
          · exact hv.grid _ _ _ (mapHO_grid h')
        sg := fun e1 e2 n rows hid => by
          rcases back _ _ hid with h' | h'
          · cases h'
          · exact hv.sg _ _ _ _ (mapHO_sg h')
        pg := fun e1 e2 n rows hid => by
          rcases back _ _ hid with h' | h'
          · cases h'
          · exact hv.pg _ _ _ _ (mapHO_pg h')
        box := fun l' hid => by
          rcases back _ _ hid with h' | h'
          · cases h'
          · obtain ⟨l0, h0, hl⟩ := mapHO_box h'
            rw [← hl]; exact hv.box _ h0 }
    have keyS : HpV ρ S.hp v n → VR g' v (.sl 1 none (l.map (view1 S.hp))) := fun hv => by
      obtain ⟨e0, h1, h2⟩ := hv.box _ hn
      have hll : (l.map (view1 S.hp)).length = l.length := List.length_map _
      rw [e0, ← hll]
      refine VR.sl 1 none _ 0 _ _ (fun i => [(l.map (view1 S.hp)).getD i .any]) (fun k => cur.getD k undef) (by decide) (by simp) (by rw [hll]; exact h1) h2 (fun i p hi => ?_) (fun k hk => ?_) (fun i j q hi hq => ?_)
      · have : (l.map (view1 S.hp)).getD i .any = p := by rw [List.getD_eq_getElem?_getD, hi]; rfl
        rw [this]
        exact ⟨flat_one (hone p (List.mem_of_getElem? hi)), rfl⟩
      · show gset g (ρ n).blk _ _ _ = _
        unfold gset
        rw [if_pos rfl, Nat.zero_add]
        rw [Nat.mul_one, hll] at hk
        exact getElem?_getD (by rw [hown.hsz]; exact hk)
      · rcases j with _ | j
        · simp only [List.getElem?_cons_zero, Option.some.injEq] at hq
          rw [hll] at hi
          rw [Nat.mul_one, Nat.add_zero, ← hq, List.getD_eq_getElem?_getD, List.getElem?_map, List.getElem?_eq_getElem hi]
          exact (h.base.view1 (hown.hv i _ (List.getElem?_eq_getElem hi))).mono hx
        · simp at hq
    cases p with
    | hp j =>
      simp only [setS1]
      cases hb : (j == n) with
      | false => exact keyH hv
      | true =>
        have e : j = n := by simpa using hb
        subst e
        exact .of_VR (keyS hv)
    | hpv j b c =>
      simp only [setS1]
      cases hb : (j == n) with
      | false => exact ⟨keyH hv.1, hv.2⟩
      | true =>
        have e : j = n := by simpa using hb
        subst e
        exact .of_VR (keyS hv.1)
    | hat j i => exact hv
    | hatv j i b c => exact hv
    | gr j i =>
      refine (⟨GrV.sl hv, fun e1 e2 rows r hid hr => ?_, fun e1 e2 _n rows r hid hr => ?_⟩ : GrV _ _ _ _ _)
      rotate_left
      · rcases back _ _ hid with h' | h'
        · cases h'
        · exact GrV.sg hv _ _ _ _ _ (mapHO_sg h') hr
      rcases back _ _ hid with h' | h'
      · cases h'
      · exact GrV.grid hv _ _ _ _ (mapHO_grid h') hr
    | gat j i k => exact hv
    | _ => exact VR.mono hx hv
  have hbase := h.base.upd hn (x' := .gone) (ρ n) hx (setS1 n (l.map (view1 S.hp))) (by rw [upd_id]; exact hφ) hag h.base.below (fun b o hb => by
      show gset g (ρ n).blk _ b o = _
      unfold gset
      have hne : b ≠ (ρ n).blk := fun e => by subst e; exact hb hown.hB
      rw [if_neg hne]) trivial (fun b hb => hb.elim) (fun b hb hnf => ⟨rfl, fun o => by
      show gset g (ρ n).blk _ b o = _
      unfold gset
      have hne : b ≠ (ρ n).blk := fun e => hnf e
      rw [if_neg hne]⟩)
  rw [upd_id] at hbase
  refine ⟨g', hx, hbase, h.dead, by simpa using h.size, fun i p hp => ?_⟩
  simp only [List.getElem?_map, Option.map_eq_some_iff] at hp
  obtain ⟨p, hp, rfl⟩ := hp
  rw [setSP_map]
  exact (h.fr i p hp).map hφ
theorem g_settleS {P : Program} {K : Exit → St → Prop} {S : St} {c : Code} (n : Nat) {l l' : List PV} {S' : St} (hn : S.hp[n]? = some (.box l)) (hl : l.map (view1 S.hp) = l') (hone : ∀ p ∈ l', p.one = true) (hS : St.mk (S.fr.map (setSP n l')) (setSH n l' S.hp) = S') (hk : Goal P c K S') : Goal P c K S := by
  subst hl
  unfold Goal at hk ⊢
  intro w0 g ρ a w Q hr hQ
  obtain ⟨g', -, hr'⟩ := rel_settleS hr hn hone
  rw [hS] at hr'
  exact hk w0 g' ρ a w Q hr' hQ
end Go.Pv
/- The reference's draw of an algebra: it is there, and small. -/
namespace Go.Proofs.Ytkdagmbgjddopaa
open Go Go.Pv Go.Proofs

theorem least_of {p : Nat → Prop} (h : ∃ n, p n) : ∃ n, p n ∧ ∀ m, m < n → ¬ p m := by
  obtain ⟨n, hn⟩ := h
  induction n using Nat.strongRecOn with
  | _ n ih =>
    by_cases hx : ∃ m, m < n ∧ p m
    · obtain ⟨m, h1, h2⟩ := hx; exact ih m h1 h2
    · exact ⟨n, hn, fun m hm hp => hx ⟨m, hm, hp⟩⟩
theorem smA_app {l : List OpD} (h1 : l.length ≤ 6) (h2 : ∀ f ∈ l, f.tb.length ≤ 30) : smA l := by
  refine ⟨?_, ?_⟩
  · omega
  · intro f hf; exact Nat.le_trans (h2 f hf) (by decide)
end Go.Proofs.Ytkdagmbgjddopaa
/- The layer: calls with several results, structs among them. -/
namespace Go.Pv
open Go
set_option linter.unusedSimpArgs false
attribute [local semireducible] Go.Pv.Goal Go.Pv.Ops Go.Pv.PStep Go.Pv.EStep Go.Pv.KRets Go.Pv.PCalls
section
variable {P : Program} {S : St}
def KRetG_CTT (r0 r1 r2 : Tmp) (m0 : Nat) (q0 q1 q2 : PV) (e : Exit) (S : St) : Prop := (e = .normal ∨ e = .ret) ∧ (KRC S r0 m0 q0 ∧ KR S r1 q1 ∧ KR S r2 q2)
theorem krg_CTT {r0 r1 r2 : Tmp} {m0 : Nat} {q0 q1 q2 : PV} (h0 : KRC S r0 m0 q0) (h1 : KR S r1 q1) (h2 : KR S r2 q2) : KRetG_CTT r0 r1 r2 m0 q0 q1 q2 .ret S := ⟨.inr rfl, h0, h1, h2⟩
theorem pcalls_CTT {f : FuncId} {fn : Func} {c : Code} {n : Nat} {args : List PV} {r0 r1 r2 : Tmp} {m0 : Nat} {q0 q1 q2 : PV} {t0 : TypeId} [ht0 : AggT P t0 m0] (hf : P.funcs[f]? = some fn) (hb : fn.body = some c) (hn : fn.ntmps = n) (hr : fn.results = #[.cell r0 t0, .tmp r1, .tmp r2])
    (h : Goal P c (KRetG_CTT r0 r1 r2 m0 q0 q1 q2) ⟨args ++ List.replicate (n - args.length) (.val undef), []⟩) : PCalls P f args (.tup [q0, q1, q2]) :=
  pcalls_gen (fun S => KRC S r0 m0 q0 ∧ KR S r1 q1 ∧ KR S r2 q2) (fun S w0 g ρ a w hk hrel => by
    obtain ⟨ad0, v0, h00, h10, h20⟩ := load_res (P := P) (ht := ht0) hrel (hk.1)
    have h21 : VR (snap g w w0.own) (a.tmps.getD r1 undef) q1 := by
      have hk' := hk.2.1
      unfold KR PV.le at hk'
      exact hk' _ _ (hrel.base.viewM (hrel.ev (.tmp r1)))
    have h22 : VR (snap g w w0.own) (a.tmps.getD r2 undef) q2 := by
      have hk' := hk.2.2
      unfold KR PV.le at hk'
      exact hk' _ _ (hrel.base.viewM (hrel.ev (.tmp r2)))
    refine ⟨.tuple #[v0, a.tmps.getD r1 undef, a.tmps.getD r2 undef], ?_, .tup _ _ rfl (fun i p hp => ?_)⟩
    · have h00' : a.tmps[r0]?.getD undef = .pointer (some ad0) := by simpa using h00
      unfold results
      rw [hr]
      generalize @loadVar = lv at h10 ⊢
      simp [h00', h10, asAddr, go_sem]
    · rcases i with _ | _ | _ | i
      · simp at hp; subst hp; simpa using h20
      · simp at hp; subst hp; simpa using h21
      · simp at hp; subst hp; simpa using h22
      · simp at hp) hf hb hn h
end
end Go.Pv
/- The law of Mal'cev chains, its last part. -/
namespace Go.Pv
open Go
attribute [local semireducible] Go.Pv.PStep
section
variable {P : Program} {o : Oper} {ev : Operand → PV} {hp : List HO}
theorem ps_neqBY {t rt : TypeId} [ht : BoolT P t] {x y : Operand} {a b c : Bool} (ho : o.op = .binOp .neq t x y rt) (h1 : ev x = B a) (h2 : ev y = B b) (h : (a != b) = c) : PStep P o ev hp (B c) := by
  have := ps_neqB (P := P) (hp := hp) (ht := ht) ho h1 h2; rwa [h] at this
end
end Go.Pv
