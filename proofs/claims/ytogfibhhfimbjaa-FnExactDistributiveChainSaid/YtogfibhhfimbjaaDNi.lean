/- The layer: calls that hand back a struct of a number and an object of their own. -/
import Derived.Test.YtogfibhhfimbjaaDNh
namespace Go.Pv
open Go
attribute [local semireducible] Go.Pv.Goal Go.Pv.Ops Go.Pv.PStep Go.Pv.EStep Go.Pv.KRets Go.Pv.PCalls Go.Pv.OpsG Go.Pv.RCalls
section
variable {P : Program} {f : FuncId} {fn : Func} {c : Code} {n : Nat} {args : List PV} {ho : HO}
def KRRCv (r : Tmp) (ho : HO) (u : Value) (e : Exit) (S : St) : Prop := (e = .normal ∨ e = .ret) ∧ ∃ id, HandOut S id ho ∧ ∃ j, S.ev (.tmp r) = .hat j 0 ∧ S.hp[j]? = some (.box [.val u, .hp id])
theorem krrcv {r : Tmp} {ho : HO} {u : Value} {S : St} (id j : Nat) (h : S.ev (.tmp r) = .hat j 0) (hj : S.hp[j]? = some (.box [.val u, .hp id])) (hh : HandOut S id ho) : KRRCv r ho u .ret S := ⟨.inr rfl, id, hh, j, h, hj⟩
theorem hat_outv {t : TypeId} [ht : AggT P t 2] {w0 : Ini} {S : St} {g : Ghost} {ρ : Nat → Loc} {a : Act} {w : World} {u : Value} (hr : Rel w0 S g ρ a w) {r : Tmp} {id j : Nat} (hh : HandOut S id ho) (h : S.ev (.tmp r) = .hat j 0) (hj : S.hp[j]? = some (.box [.val u, .hp id])) :
    ∃ ad v, a.tmps.getD r undef = .pointer (some ad) ∧ (loadVar t ad).run P w = .ok v w ∧ VRS g0 (fun _ => ρ id) [ho] v (.agg [.val u, .hp 0]) := by
  have ea : a.tmps.getD r undef = .pointer (some ⟨(ρ j).blk, 0, none⟩) := by have := hr.ev (.tmp r); rw [h] at this; exact this
  obtain ⟨cur, e, hown⟩ := hr.base.own j _ hj
  have hsz : cur.size = 2 := hown.hsz
  have hld := run_loadCells (P := P) w ⟨(ρ j).blk, 0, none⟩ 2 (fun i => cur.getD (0 + i) undef) (fun i hi => by rw [Addr.add_n]; exact own_load hown.hw (by omega))
  obtain ⟨-, x, h1, h2⟩ := hh
  refine ⟨⟨(ρ j).blk, 0, none⟩, .agg (List.map (fun i => cur.getD (0 + i) undef) (List.range 2)).toArray, ea, ?_, ⟨_, rfl, rfl, fun k q hq => ?_⟩⟩
  · unfold loadVar
    simp only [Sem.run_bind, run_pure, Result.andThen, ht.ha, ht.hs, hld, if_true]
  · rcases k with _ | _ | k
    · simp at hq; subst hq
      have h0 := hown.hv 0 (.val u) rfl
      have e0 : cur.getD 0 undef = u := VR.val_inv h0
      show VR g0 (cur.getD (0 + 0) undef) (.val u)
      rw [Nat.add_zero, e0]; exact .val u
    · simp at hq; subst hq
      have := hown.hv 1 (.hp id) rfl
      show HpV (fun _ => ρ id) [ho] (cur.getD (0 + 1) undef) 0
      rw [Nat.zero_add]
      exact HpV.out this h1 h2
    · simp at hq
theorem pcallsRCv {r : Tmp} {t : TypeId} {u : Value} [ht : AggT P t 2] (hf : P.funcs[f]? = some fn) (hb : fn.body = some c) (hn : fn.ntmps = n) (hr : fn.results = #[.cell r t])
    (h : Goal P c (KRRCv r ho u) ⟨args ++ List.replicate (n - args.length) (.val undef), []⟩) : RCalls P f args ho (.agg [.val u, .hp 0]) :=
  pcallsR_gen (fun S id => HandOut S id ho ∧ ∃ j, S.ev (.tmp r) = .hat j 0 ∧ S.hp[j]? = some (.box [.val u, .hp id])) (fun S id w0 g ρ a w hk hrel => by
    obtain ⟨hh, j, h1, h2⟩ := hk
    obtain ⟨ad, v, e0, e1, e2⟩ := hat_outv (P := P) (ht := ht) hrel hh h1 h2
    refine ⟨v, ?_, e2⟩
    have h0' : a.tmps[r]?.getD undef = .pointer (some ad) := by simpa using e0
    unfold results
    rw [hr]
    generalize @loadVar = lv at e1 ⊢
    simp [h0', asAddr, e1, go_sem]) hf hb hn
    (fun w0 g ρ a w Q hrel hQ => h w0 g ρ a w Q hrel fun e S' g' ρ' a' w' hk => hQ e S' g' ρ' a' w' ⟨hk.1, hk.2.elim fun id h' => ⟨id, h'.1, h'.1, h'.2⟩⟩)
end
attribute [irreducible] KRRCv
end Go.Pv
