/- The layer, more: branches that meet again. -/
import Derived.Test.YtbfmjknngofleaaGreatKZa
namespace Go.Pv
open Go
attribute [local semireducible] Go.Pv.Goal
section
variable {P : Program} {K : Exit → St → Prop} {S : St}
def KJoin (S1 : St) (K : Exit → St → Prop) : Exit → St → Prop
  | .normal, S => S.le S1
  | e, S => K e S
theorem g_joinS {x y : Code} (S1 : St) (hx : Goal P x (KJoin S1 K) S) (hy : Goal P y K S1) : Goal P (x.seq y) K S := by
  refine g_seq ?_
  unfold Goal at hx ⊢
  intro w0 g ρ a w Q hr hQ
  refine hx w0 g ρ a w Q hr fun e S' g' ρ' a' w' hk hr' => ?_
  cases e with
  | normal => exact hQ .normal S1 g' ρ' a' w' hy (hr'.weaken hk)
  | _ => exact hQ _ S' g' ρ' a' w' hk hr'
/-- Both ends of a branch come to one state: what it writes is forgotten, but for vals; the objects are hps. -/
theorem g_join {x y : Code} (fg : List Nat) (vals : List (Nat × PV)) (hps : List HO) {fr0 : List PV} (hfr : havoc (fg ++ dsts x) S.fr = fr0) (hx : Goal P x (KJoin ⟨setMany fr0 vals, hps⟩ K) S) (hy : ∃ S1, St.mk (setMany fr0 vals) hps = S1 ∧ Goal P y K S1) : Goal P (x.seq y) K S := by
  obtain ⟨S1, rfl, hy⟩ := hy
  exact g_joinS _ hx hy
/-- .. where what follows is already set apart. -/
theorem g_joinK {x y : Code} (fg : List Nat) (vals : List (Nat × PV)) (hps : List HO) {fr0 : List PV} (hfr : havoc (fg ++ dsts x) S.fr = fr0) (hx : Goal P x (KJoin ⟨setMany fr0 vals, hps⟩ K) S) (hy : ∃ S1, St.mk (setMany fr0 vals) hps = S1 ∧ Goal P y K S1) : Goal P x (KSeq P y K) S := by
  obtain ⟨S1, rfl, hy⟩ := hy
  unfold Goal at hx hy ⊢
  intro w0 g ρ a w Q hr hQ
  refine hx w0 g ρ a w Q hr fun e S' g' ρ' a' w' hk hr' => ?_
  cases e with
  | normal => exact hQ .normal _ g' ρ' a' w' (by unfold KSeq; unfold Goal; exact hy) (hr'.weaken hk)
  | _ => exact hQ _ S' g' ρ' a' w' hk hr'
theorem k_join {fr0 : List PV} {vals : List (Nat × PV)} {hps : List HO} (hf : frLe S.fr fr0) (hv : valsOk S.fr vals) (hh : hpLe S.hp hps) : KJoin ⟨setMany fr0 vals, hps⟩ K .normal S := ⟨frLe_setMany hf hv, hh⟩
theorem at_reg {x y : Code} {ops : Array Oper} {dr : Bool} (id : Nat) (h : Goal P (((Code.region id ops dr).seq x).seq y) K S) : Goal P (((Code.region id ops dr).seq x).seq y) K S := h
theorem k_joinL {S1 : St} {fr0 : List PV} {vals : List (Nat × PV)} {hps : List HO} (hf : frLe S1.fr fr0) (hv : valsOk S1.fr vals) (hh : hpLe S1.hp hps) : St.le S1 ⟨setMany fr0 vals, hps⟩ := ⟨frLe_setMany hf hv, hh⟩
end
section
variable {P : Program} {S : St}
def KRetCT3 (a : Tmp) (n : Nat) (q : PV) (r2 r3 r4 : Tmp) (q2 q3 q4 : PV) (e : Exit) (S : St) : Prop := (e = .normal ∨ e = .ret) ∧ (KRC S a n q ∧ KR S r2 q2 ∧ KR S r3 q3 ∧ KR S r4 q4)
theorem krct3 {a r2 r3 r4 : Tmp} {n : Nat} {q q2 q3 q4 : PV} (h : KRC S a n q) (h2 : KR S r2 q2) (h3 : KR S r3 q3) (h4 : KR S r4 q4) : KRetCT3 a n q r2 r3 r4 q2 q3 q4 .ret S := ⟨.inr rfl, h, h2, h3, h4⟩
theorem pcallsCT3 {f : FuncId} {fn : Func} {c : Code} {n m : Nat} {args : List PV} {r r2 r3 r4 : Tmp} {t : TypeId} [ht : AggT P t m] {q q2 q3 q4 : PV} (hf : P.funcs[f]? = some fn) (hb : fn.body = some c) (hn : fn.ntmps = n) (hr : fn.results = #[.cell r t, .tmp r2, .tmp r3, .tmp r4])
    (h : Goal P c (KRetCT3 r m q r2 r3 r4 q2 q3 q4) ⟨args ++ List.replicate (n - args.length) (.val undef), []⟩) : PCalls P f args (.tup [q, q2, q3, q4]) :=
  pcalls_gen (fun S => KRC S r m q ∧ KR S r2 q2 ∧ KR S r3 q3 ∧ KR S r4 q4) (fun S w0 g ρ a w hk hrel => by
    obtain ⟨ad, v, h0, h1, h2⟩ := load_res (P := P) (ht := ht) hrel hk.1
    have hk := hk.2
    unfold KR PV.le at hk
    have h3 := hk.1 _ _ (hrel.base.viewM (hrel.ev (.tmp r2)))
    have h4 := hk.2.1 _ _ (hrel.base.viewM (hrel.ev (.tmp r3)))
    have h5 := hk.2.2 _ _ (hrel.base.viewM (hrel.ev (.tmp r4)))
    refine ⟨.tuple #[v, a.tmps.getD r2 undef, a.tmps.getD r3 undef, a.tmps.getD r4 undef], ?_, .tup _ _ rfl (fun i p hp => ?_)⟩
    · have h0' : a.tmps[r]?.getD undef = .pointer (some ad) := by simpa using h0
      unfold results
      rw [hr]
      generalize @loadVar = lv at h1 ⊢
      simp [h0', asAddr, h1, go_sem]
    · rcases i with _ | _ | _ | _ | i
      · simp at hp; subst hp; simpa using h2
      · simp at hp; subst hp; simpa [Act.eval] using h3
      · simp at hp; subst hp; simpa [Act.eval] using h4
      · simp at hp; subst hp; simpa [Act.eval] using h5
      · simp at hp) hf hb hn h
end
end Go.Pv
