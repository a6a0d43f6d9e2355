/- The layer: a slice made under a number that is told beforehand. -/
import Derived.Test.YtlgfniaakjchgaaGreatLNc
import Derived.Test.YtlgfniaakjchgaaGreatLZb
namespace Go.Pv
open Go
attribute [local semireducible] Go.Pv.Goal Go.Pv.Ops Go.Pv.PStep Go.Pv.EStep Go.Pv.KRets Go.Pv.PCalls Go.Pv.OpsG
section
variable {P : Program} {o : Oper}
theorem l_make {t e : TypeId} {s by_ : Nat} {zs : List Value} [ht : MkT P t e s by_ zs] {ev : Operand → PV} {x y : Operand} {n : Int} {zp : PV} (m : Nat) (ho : o.op = .makeSlice t x y) (h1 : ev x = I n) (h2 : ev y = I n) (h0 : 0 ≤ n) (hb : n * by_ ≤ 140737488355328) (hn : n ≤ 9223372036854775807)
    (hs : 0 < s) (hz : zp.flat = some (zs.map .val)) (hzs : zs.length = s) : LStep P o ev m (.arr true s e (List.replicate n.toNat zp)) (.hp m) :=
  .of_new fun w0 S g ρ a w hr hy Q K hK => by
    have e1 := val_of (hr.ev x) ((hy x (by simp [ho, Op.operands])).trans h1)
    have e2 := val_of (hr.ev y) ((hy y (by simp [ho, Op.operands])).trans h2)
    obtain ⟨i, z, hi, hi1, hi2, hi3, hi4⟩ := ht.hi
    have hrun := run_make (P := P) w t e i z ht.hu hi hi3 .i64 .i64 n n h0 (Int.le_refl _) (by rw [hi2, Int.mul_comm]; omega) hn
    rw [hi1] at hrun
    unfold Oper.wp
    simp only [execOp, ho, e1, e2]
    rw [run_value hrun]
    have hgn : ∀ k, g w.heap.size k = none := fun k => by
      cases hk : g w.heap.size k with
      | none => rfl
      | some v => exact absurd (hr.base.agree.lt hk) (Nat.lt_irrefl _)
    have hzc : z.cells.size = s := by rw [← hzs, ← hi4]; simp
    refine hK _ _ ⟨w.heap.size, n.toNat, fun _ => 0, fun _ => 0⟩ ((RowKit.Below.refl _ _).alloc (Nat.le_refl _) _) (fun ρ' hp' => ⟨madeCells z.cells (n.toNat * s), fun _ => zs.map .val, ⟨hs, Ini.own_new hr.base.below.size, by simp, by simp only [maxLen]; omega, heap_alloc_new w _, by simp [size_madeCells], fun k p hk => (by
      rw [List.getElem?_replicate] at hk
      split at hk
      · cases hk; exact ⟨hz, by simp [hzs]⟩
      · cases hk), fun k j q hk hq => by
      simp only [List.length_replicate] at hk
      simp only [List.getElem?_map, Option.map_eq_some_iff] at hq
      obtain ⟨u, hu, rfl⟩ := hq
      have hj : j < s := by rw [← hzs]; exact (List.getElem?_eq_some_iff.1 hu).1
      have hlt : k * s + j < n.toNat * s := by
        calc k * s + j < k * s + s := by omega
          _ = (k + 1) * s := by rw [Nat.add_mul]; omega
          _ ≤ n.toNat * s := Nat.mul_le_mul_right _ hk
      have : (madeCells z.cells (n.toNat * s)).getD (k * s + j) undef = u := by
        rw [← hi4, Array.getElem?_toList] at hu
        have hm : (k * s + j) % s = j := by rw [Nat.mul_comm, Nat.mul_add_mod]; exact Nat.mod_eq_of_lt hj
        have hjz : j < z.cells.size := by omega
        simp only [madeCells, Array.getD_eq_getD_getElem?, Array.getElem?_map, Array.getElem?_range, hlt, if_true, Option.map_some, Option.getD_some, hzc, hm]
        rw [getElem!_def, hu]
      rw [this]; exact .val u, fun k => by simp [hgn k]⟩⟩) (fun b hb => by simp only [foot] at hb; omega) (fun hp' hat => ?_)
    refine VRS.of_one ?_
    refine (⟨⟨_, _, _, rfl⟩, fun m' s' e' l' hid => ?_, fun e1 e2 rows hid => ?_, fun e1 e2 n rows hid => ?_, fun l' hid => ?_, fun e1 e2 n rows hid => ?_⟩ : HpV _ _ _ _)
    · rw [hat] at hid; cases hid; rw [upd_same, List.length_replicate]
    · rw [hat] at hid; cases hid
    · rw [hat] at hid; cases hid
    · rw [hat] at hid; cases hid
    · rw [hat] at hid; cases hid
end
end Go.Pv
/- The layer: an empty literal under a number that is told beforehand. -/
namespace Go.Pv
open Go
attribute [local semireducible] Go.Pv.Goal Go.Pv.Ops Go.Pv.PStep Go.Pv.EStep Go.Pv.KRets Go.Pv.PCalls Go.Pv.OpsG
section
variable {P : Program} {o : Oper}
theorem l_lit0T {t e : TypeId} {s by_ : Nat} [ht : SlT P t e s by_] {zs : List Value} [hz : ZeroT P e zs] {ev : Operand → PV} (m : Nat) (ho : o.op = .buildSlice t 0 #[]) (hs : 0 < s) : LStep P o ev m (.arr true s e []) (.hp m) :=
  .of_new fun w0 S g ρ a w hr hy Q K hK => by
    obtain ⟨cells, r1, r2, -⟩ := run_buildSlice ht hz 0 [] rfl (fun v hv => by simp at hv) hs (by omega) #[] rfl w
    have hgn : ∀ k, g w.heap.size k = none := fun k => by
      cases hk : g w.heap.size k with
      | none => rfl
      | some v => exact absurd (hr.base.agree.lt hk) (Nat.lt_irrefl _)
    unfold Oper.wp
    have e1 : (#[] : Array (Nat × Operand)).map (fun p => (p.1, a.eval p.2)) = #[] := by simp
    simp only [execOp, ho]
    rw [e1, run_value r1]
    refine hK _ _ ⟨w.heap.size, 0, fun _ => 0, fun _ => 0⟩ ((RowKit.Below.refl _ _).alloc (Nat.le_refl _) _) (fun ρ' hp' => ⟨cells, fun _ => [], ⟨hs, Ini.own_new hr.base.below.size, by simp, by simp [maxLen], heap_alloc_new w _, by simpa using r2, fun k p hk => by simp at hk, fun k j q hk hq => by simp at hk, fun k => by simp [hgn k]⟩⟩) (fun b hb => by simp only [foot] at hb; omega) (fun hp' hat => ?_)
    refine VRS.of_one ?_
    refine (⟨⟨_, _, _, rfl⟩, fun m' s' e' l' hid => ?_, fun e1 e2 rows hid => ?_, fun e1 e2 n rows hid => ?_, fun l' hid => ?_, fun e1 e2 n rows hid => ?_⟩ : HpV _ _ _ _)
    · rw [hat] at hid; cases hid; rw [upd_same]; rfl
    · rw [hat] at hid; cases hid
    · rw [hat] at hid; cases hid
    · rw [hat] at hid; cases hid
    · rw [hat] at hid; cases hid
end
end Go.Pv
/- The layer: calls with several results, structs among them. -/
namespace Go.Pv
open Go
set_option linter.unusedSimpArgs false
attribute [local semireducible] Go.Pv.Goal Go.Pv.Ops Go.Pv.PStep Go.Pv.EStep Go.Pv.KRets Go.Pv.PCalls
section
variable {P : Program} {S : St}
def KRetG_TCC (r0 r1 r2 : Tmp) (m1 m2 : Nat) (q0 q1 q2 : PV) (e : Exit) (S : St) : Prop := (e = .normal ∨ e = .ret) ∧ (KR S r0 q0 ∧ KRC S r1 m1 q1 ∧ KRC S r2 m2 q2)
theorem krg_TCC {r0 r1 r2 : Tmp} {m1 m2 : Nat} {q0 q1 q2 : PV} (h0 : KR S r0 q0) (h1 : KRC S r1 m1 q1) (h2 : KRC S r2 m2 q2) : KRetG_TCC r0 r1 r2 m1 m2 q0 q1 q2 .ret S := ⟨.inr rfl, h0, h1, h2⟩
theorem pcalls_TCC {f : FuncId} {fn : Func} {c : Code} {n : Nat} {args : List PV} {r0 r1 r2 : Tmp} {m1 m2 : Nat} {q0 q1 q2 : PV} {t1 t2 : TypeId} [ht1 : AggT P t1 m1] [ht2 : AggT P t2 m2] (hf : P.funcs[f]? = some fn) (hb : fn.body = some c) (hn : fn.ntmps = n) (hr : fn.results = #[.tmp r0, .cell r1 t1, .cell r2 t2])
    (h : Goal P c (KRetG_TCC r0 r1 r2 m1 m2 q0 q1 q2) ⟨args ++ List.replicate (n - args.length) (.val undef), []⟩) : PCalls P f args (.tup [q0, q1, q2]) :=
  pcalls_gen (fun S => KR S r0 q0 ∧ KRC S r1 m1 q1 ∧ KRC S r2 m2 q2) (fun S w0 g ρ a w hk hrel => by
    have h20 : VR (snap g w w0.own) (a.tmps.getD r0 undef) q0 := by
      have hk' := hk.1
      unfold KR PV.le at hk'
      exact hk' _ _ (hrel.base.viewM (hrel.ev (.tmp r0)))
    obtain ⟨ad1, v1, h01, h11, h21⟩ := load_res (P := P) (ht := ht1) hrel (hk.2.1)
    obtain ⟨ad2, v2, h02, h12, h22⟩ := load_res (P := P) (ht := ht2) hrel (hk.2.2)
    refine ⟨.tuple #[a.tmps.getD r0 undef, v1, v2], ?_, .tup _ _ rfl (fun i p hp => ?_)⟩
    · have h01' : a.tmps[r1]?.getD undef = .pointer (some ad1) := by simpa using h01
      have h02' : a.tmps[r2]?.getD undef = .pointer (some ad2) := by simpa using h02
      unfold results
      rw [hr]
      generalize @loadVar = lv at h11 h12 ⊢
      simp [h01', h11, h02', h12, asAddr, go_sem]
    · rcases i with _ | _ | _ | i
      · simp at hp; subst hp; simpa using h20
      · simp at hp; subst hp; simpa using h21
      · simp at hp; subst hp; simpa using h22
      · simp at hp) hf hb hn h
end
end Go.Pv
