/- The layer: the rest of a function's text, behind one of its statements. -/
import Derived.Laws.StructEq
import Derived.Test.YtkdagmbgjddopaaJZb
import Derived.Test.YtkdagmbgjddopaaJHn
import Derived.Test.YtkdagmbgjddopaaJGa
import Derived.Test.YtkdagmbgjddopaaJPr
namespace Go.Pv
open Go
attribute [local semireducible] Go.Pv.Goal
def headReg : Code → Option Nat
  | .region id _ _ => some id
  | .seq a _ => headReg a
  | .block _ c => headReg c
  | _ => none
def tailAt (id : Nat) : Code → Code
  | .seq a b => bif headReg a == some id then .seq a b else tailAt id b
  | .block _ c => tailAt id c
  | c => c
abbrev bodyC (f : Func) : Code := f.body.getD .skip
theorem g_tail {P : Program} {c c' : Code} {K : Exit → St → Prop} {S S' : St} (hc : c = c') (hl : S.le S') (h : Goal P c' K S') : Goal P c K S := hc ▸ g_weaken hl h
theorem at_reg1 {P : Program} {K : Exit → St → Prop} {S : St} {x : Code} {ops : Array Oper} {dr : Bool} (id : Nat) (h : Goal P ((Code.region id ops dr).seq x) K S) : Goal P ((Code.region id ops dr).seq x) K S := h
end Go.Pv
/- The reference's draw of an algebra: it is there, and small. -/
namespace Go.Proofs.Ytkdagmbgjddopaa
open Go Go.Pv Go.Proofs

theorem least_of {p : Nat → Prop} (h : ∃ n, p n) : ∃ n, p n ∧ ∀ m, m < n → ¬ p m := by
  obtain ⟨n, hn⟩ := h
  induction n using Nat.strongRecOn with
  | _ n ih =>
    by_cases hx : ∃ m, m < n ∧ p m
    · obtain ⟨m, h1, h2⟩ := hx; exact ih m h1 h2
    · exact ⟨n, hn, fun m hm hp => hx ⟨m, hm, hp⟩⟩
theorem smA_app {l : List OpD} (h1 : l.length ≤ 6) (h2 : ∀ f ∈ l, f.tb.length ≤ 30) : smA l := by
  refine ⟨?_, ?_⟩
  · omega
  · intro f hf; exact Nat.le_trans (h2 f hf) (by decide)
end Go.Proofs.Ytkdagmbgjddopaa
/- The layer: pairs of numbers compared. -/
namespace Go.Pv
open Go
attribute [local semireducible] Go.Pv.PStep
theorem run_equalIn_pair {P : Program} {t e : TypeId} (hu : P.underlying t = some (.array 2 e)) (he : P.underlying e = some (.int .i64)) (hs : ∀ w, (Go.sizeOf e).run P w = .ok 1 w) (ha : ∀ w, (Go.isAgg e).run P w = .ok false w) (w : World) (k : Nat) (a b c d : Int) :
    (Op.equalIn (k + 1 + 1) t (.agg #[.int .i64 a, .int .i64 b]) (.agg #[.int .i64 c, .int .i64 d])).run P w = .ok (decide (a = c) && decide (b = d)) w := by
  have h1 : ∀ (x y : Int), (Op.equalIn (k + 1) e (.int .i64 x) (.int .i64 y)).run P w = .ok (x == y) w := fun x y => run_equalIn_int w k e .i64 .i64 x y he
  have p0 : ∀ x y : Int, (part e #[.int .i64 x, .int .i64 y] 0).run P w = .ok (.int .i64 x) w := fun x y => by simp [part, ha, Result.andThen, go_sem]
  have p1 : ∀ x y : Int, (part e #[.int .i64 x, .int .i64 y] 1).run P w = .ok (.int .i64 y) w := fun x y => by simp [part, ha, Result.andThen, go_sem]
  generalize hE : Op.equalIn (k + 1) = E at *
  rw [Op.equalIn]
  rw [hE]
  simp only [Sem.run_bind, run_underlying hu, Result.andThen_ok, hs]
  simp [List.range', h1, p0, Sem.run_bind, Result.andThen]
  by_cases ac : a = c <;> by_cases bd : b = d <;> simp [ac, bd, p1, h1, Sem.run_bind, Result.andThen]
class PairT (P : Program) (t : TypeId) : Prop where
  eq : ∀ w k (a b c d : Int), (Op.equalIn (k + 1 + 1) t (.agg #[.int .i64 a, .int .i64 b]) (.agg #[.int .i64 c, .int .i64 d])).run P w = .ok (decide (a = c) && decide (b = d)) w
  gd : P.eqGuardType P.depth t = false
section
variable {P : Program} {o : Oper} {ev : Operand → PV} {hp : List HO}
theorem aggP_val {g : Ghost} {ρ : Nat → Loc} {v : Value} {a b : Int} (h : VRS g ρ hp v (.agg [I a, I b])) : v = .agg #[.int .i64 a, .int .i64 b] := by
  obtain ⟨vs, rfl, hs, hv⟩ := (show ∃ vs : Array Value, v = .agg vs ∧ vs.size = 2 ∧ ∀ (i : Nat) (q : PV), [I a, I b][i]? = some q → VRS1 g ρ hp (vs.getD i undef) q from h)
  have h0 := VR.val_inv (show VR g _ (I a) from hv 0 (I a) rfl)
  have h1 := VR.val_inv (show VR g _ (I b) from hv 1 (I b) rfl)
  congr 1
  refine Array.ext (by simpa using hs) fun i hi h2 => ?_
  rcases i with _ | _ | i
  · simpa [Array.getD_eq_getD_getElem?, show 0 < vs.size by omega] using h0
  · simpa [Array.getD_eq_getD_getElem?, show 1 < vs.size by omega] using h1
  · simp at h2; omega
theorem ps_eqlPr {t rt : TypeId} [ht : PairT P t] {x y : Operand} {a b c d : Int} {r : Bool} (ho : o.op = .binOp .eql t x y rt) (h1 : ev x = .agg [I a, I b]) (h2 : ev y = .agg [I c, I d]) (h : (decide (a = c) && decide (b = d)) = r) : PStep P o ev hp (B r) :=
  .of_run fun w0 g ρ w av hb hx => by
    have e1 := aggP_val (h1 ▸ hx x (by simp [ho, Op.operands]))
    have e2 := aggP_val (h2 ▸ hx y (by simp [ho, Op.operands]))
    subst h
    refine ⟨.bool (decide (a = c) && decide (b = d)), ?_, .of_VR (.val _)⟩
    simp only [execOp, ho, e1, e2, Sem.run_bind, run_eqGuard_agg w _ t _ _ _ _ ht.gd, Result.andThen_ok, run_eql_struct, ht.eq w 9998]
    rfl
theorem ps_neqPr {t rt : TypeId} [ht : PairT P t] {x y : Operand} {a b c d : Int} {r : Bool} (ho : o.op = .binOp .neq t x y rt) (h1 : ev x = .agg [I a, I b]) (h2 : ev y = .agg [I c, I d]) (h : (!(decide (a = c) && decide (b = d))) = r) : PStep P o ev hp (B r) :=
  .of_run fun w0 g ρ w av hb hx => by
    have e1 := aggP_val (h1 ▸ hx x (by simp [ho, Op.operands]))
    have e2 := aggP_val (h2 ▸ hx y (by simp [ho, Op.operands]))
    subst h
    refine ⟨.bool (!(decide (a = c) && decide (b = d))), ?_, .of_VR (.val _)⟩
    simp only [execOp, ho, e1, e2, Sem.run_bind, run_eqGuard_agg w _ t _ _ _ _ ht.gd, Result.andThen_ok, run_neq_struct, ht.eq w 9998]
    rfl
end
end Go.Pv
namespace Go.Proofs.Ytkdagmbgjddopaa
open Go Go.Pv Go.Proofs

instance : PairT Try.prog 37 := ⟨fun w k a b c d => run_equalIn_pair Try.underlying37 Try.underlying3 (fun w => by kernel_rfl) (fun w => by kernel_rfl) w k a b c d, by kernel_rfl⟩
end Go.Proofs.Ytkdagmbgjddopaa
/- The layer: calls with several results, structs among them. -/
namespace Go.Pv
open Go
set_option linter.unusedSimpArgs false
attribute [local semireducible] Go.Pv.Goal Go.Pv.Ops Go.Pv.PStep Go.Pv.EStep Go.Pv.KRets Go.Pv.PCalls
section
variable {P : Program} {S : St}
def KRetG_CTTTT (r0 r1 r2 r3 r4 : Tmp) (m0 : Nat) (q0 q1 q2 q3 q4 : PV) (e : Exit) (S : St) : Prop := (e = .normal ∨ e = .ret) ∧ (KRC S r0 m0 q0 ∧ KR S r1 q1 ∧ KR S r2 q2 ∧ KR S r3 q3 ∧ KR S r4 q4)
theorem krg_CTTTT {r0 r1 r2 r3 r4 : Tmp} {m0 : Nat} {q0 q1 q2 q3 q4 : PV} (h0 : KRC S r0 m0 q0) (h1 : KR S r1 q1) (h2 : KR S r2 q2) (h3 : KR S r3 q3) (h4 : KR S r4 q4) : KRetG_CTTTT r0 r1 r2 r3 r4 m0 q0 q1 q2 q3 q4 .ret S := ⟨.inr rfl, h0, h1, h2, h3, h4⟩
theorem pcalls_CTTTT {f : FuncId} {fn : Func} {c : Code} {n : Nat} {args : List PV} {r0 r1 r2 r3 r4 : Tmp} {m0 : Nat} {q0 q1 q2 q3 q4 : PV} {t0 : TypeId} [ht0 : AggT P t0 m0] (hf : P.funcs[f]? = some fn) (hb : fn.body = some c) (hn : fn.ntmps = n) (hr : fn.results = #[.cell r0 t0, .tmp r1, .tmp r2, .tmp r3, .tmp r4])
    (h : Goal P c (KRetG_CTTTT r0 r1 r2 r3 r4 m0 q0 q1 q2 q3 q4) ⟨args ++ List.replicate (n - args.length) (.val undef), []⟩) : PCalls P f args (.tup [q0, q1, q2, q3, q4]) :=
  pcalls_gen (fun S => KRC S r0 m0 q0 ∧ KR S r1 q1 ∧ KR S r2 q2 ∧ KR S r3 q3 ∧ KR S r4 q4) (fun S w0 g ρ a w hk hrel => by
    obtain ⟨ad0, v0, h00, h10, h20⟩ := load_res (P := P) (ht := ht0) hrel (hk.1)
    have h21 : VR (snap g w w0.own) (a.tmps.getD r1 undef) q1 := by
      have hk' := hk.2.1
      unfold KR PV.le at hk'
      exact hk' _ _ (hrel.base.viewM (hrel.ev (.tmp r1)))
    have h22 : VR (snap g w w0.own) (a.tmps.getD r2 undef) q2 := by
      have hk' := hk.2.2.1
      unfold KR PV.le at hk'
      exact hk' _ _ (hrel.base.viewM (hrel.ev (.tmp r2)))
    have h23 : VR (snap g w w0.own) (a.tmps.getD r3 undef) q3 := by
      have hk' := hk.2.2.2.1
      unfold KR PV.le at hk'
      exact hk' _ _ (hrel.base.viewM (hrel.ev (.tmp r3)))
    have h24 : VR (snap g w w0.own) (a.tmps.getD r4 undef) q4 := by
      have hk' := hk.2.2.2.2
      unfold KR PV.le at hk'
      exact hk' _ _ (hrel.base.viewM (hrel.ev (.tmp r4)))
    refine ⟨.tuple #[v0, a.tmps.getD r1 undef, a.tmps.getD r2 undef, a.tmps.getD r3 undef, a.tmps.getD r4 undef], ?_, .tup _ _ rfl (fun i p hp => ?_)⟩
    · have h00' : a.tmps[r0]?.getD undef = .pointer (some ad0) := by simpa using h00
      unfold results
      rw [hr]
      generalize @loadVar = lv at h10 ⊢
      simp [h00', h10, asAddr, go_sem]
    · rcases i with _ | _ | _ | _ | _ | i
      · simp at hp; subst hp; simpa using h20
      · simp at hp; subst hp; simpa using h21
      · simp at hp; subst hp; simpa using h22
      · simp at hp; subst hp; simpa using h23
      · simp at hp; subst hp; simpa using h24
      · simp at hp) hf hb hn h
end
end Go.Pv
/- What an argument of bytes reads as, by value. -/
namespace Go.Pv
open Go Go.ChangeShapes Go.WideShapes Go.RowKit Go.Deep

theorem vr_rowY {w : World} {A : Option Addr} {L C : Nat} {zs : List Int} (h1 : L ≤ C) (h2 : C ≤ maxLen) (h3 : zs.length = C) (h4 : A = none → C = 0) (h5 : ∀ a', A = some a' → ∀ c, c < C → w.cell? (a'.add c) = some (.int .u8 (zs.getD c 0))) :
    VR (gW w) (.slice A L C) (.sl 1 none ((zs.take L).map Y)) := by
  cases A with
  | none =>
    have hC := h4 rfl
    have hL : L = 0 := by omega
    subst hC; subst hL
    exact .nilsl 1 none (by simp)
  | some a =>
    rcases Nat.eq_zero_or_pos L with h0 | hpos
    · subst h0; exact .esl 1 none a C (by simp)
    · have hc := h5 a rfl
      have hs : a.spot = none := by
        have := hc 0 (by omega)
        rw [add0] at this
        exact cell_spot this
      have key := VR.sl (g := gW w) 1 none a.block a.off C ((zs.take L).map Y) (fun i => [Y (zs.getD i 0)]) (fun k => .int .u8 (zs.getD k 0)) (by omega) (by simp) (by simp; omega) h2 (fun i p hi => ?_) (fun k hk => ?_) (fun i j q hi hq => ?_)
      · have hl : ((zs.take L).map Y).length = L := by simp; omega
        rw [hl, ← addr_eq hs] at key
        exact key
      · rw [List.getElem?_map, Option.map_eq_some_iff] at hi
        obtain ⟨z, hz, rfl⟩ := hi
        have hlt := (List.getElem?_eq_some_iff.1 hz).1
        simp only [List.length_take] at hlt
        rw [List.getElem?_take_of_lt (by omega)] at hz
        exact ⟨by simp [PV.flat, PV.one, List.getD_eq_getElem?_getD, hz], rfl⟩
      · simp only [List.length_map, List.length_take] at hk
        have := hc k (by omega)
        show w.cell? ⟨a.block, a.off + k, none⟩ = _
        rw [← this]
        rw [addr_eq hs, Addr.add_n]
      · have hj : j = 0 := by rcases j with _ | j; rfl; simp at hq
        subst hj
        simp at hq
        subst hq
        simp only [Nat.mul_one, Nat.add_zero]
        exact .val _
theorem wf_u8 {n : Int} (h : (Lit.int .u8 n).wf = true) : 0 ≤ n ∧ n ≤ 255 := by
  simp [Lit.wf] at h
  rw [show IntKind.u8.min = 0 by rfl, show IntKind.u8.max = 255 by rfl] at h
  exact h
section
variable {H : Type} {enc : TypeId × Value → H} {P : Program} {W : World} {held : Bool}
theorem ar_bytes {t e : TypeId} {v : Value} {d : DataW H} {ps : List MemPlace} (ht : P.underlying t = some (.slice e)) (he : P.underlying e = some (.int .u8)) (hc : P.cellsOf e = 1) (hval : ∃ r b, Value.okWide P W r b t v) (h : DataW.Trod enc P W 0 (fun _ => true) held t v d ps) :
    ∃ l : List Int, VR (gW W) v (.sl 1 none (l.map Y)) ∧ l.length ≤ maxLen ∧ ∀ i, i < l.length → 0 ≤ l.getD i 0 ∧ l.getD i 0 ≤ 255 := by
  obtain ⟨r, b, hval⟩ := hval
  obtain ⟨fuel, h⟩ := h
  have key : ∀ cs x, DataW.trod enc P W 0 (fun _ => true) held fuel t cs = some x → ∃ (u : Value) (l : List Int), cs = [u] ∧ VR (gW W) u (.sl 1 none (l.map Y)) ∧ l.length ≤ maxLen ∧ ∀ n ∈ l, (Lit.int .u8 n).wf = true := fun cs x h => by
    rcases open_ints ht he hc h with ⟨rfl, -⟩ | ⟨a, len, cap, zs, rfl, -, hl, hm, hz, -, hcell, hwf⟩
    · exact ⟨_, [], rfl, .nilsl 1 none (by simp), by simp, fun n hn => by simp at hn⟩
    · simp only [if_true] at hz
      refine ⟨_, zs.take len, rfl, vr_rowY hl hm hz (fun h => by cases h) (fun a' ha c hc => ?_), by simp; omega, fun n hn => hwf n (List.mem_of_mem_take hn)⟩
      cases ha
      exact hcell c (by omega)
  obtain ⟨u, l, hcs, h1, h2, h3⟩ := key _ _ h
  have e : v = u := by
    cases v with
    | agg cs => unfold Value.okWide at hval; rw [ht] at hval; simp [Cell.okWide, Cell.ok, ht] at hval
    | tuple cs => unfold Value.okWide at hval; rw [ht] at hval; simp [Cell.okWide, Cell.ok, ht] at hval
    | _ => exact (List.cons.inj hcs).1
  refine ⟨l, e ▸ h1, h2, fun i hi => ?_⟩
  rw [List.getD_eq_getElem?_getD, List.getElem?_eq_getElem hi]
  exact wf_u8 (h3 _ (List.getElem_mem hi))
end
end Go.Pv
