/- The layer: a literal of two that names objects, the greater of two numbers, a slice that is not nil. -/
import Derived.Laws.Small
import Derived.Test.YtogfibhhfimbjaaDNc
namespace Go.Pv
open Go
attribute [local semireducible] Go.Pv.Goal Go.Pv.Ops Go.Pv.PStep Go.Pv.EStep Go.Pv.KRets Go.Pv.PCalls Go.Pv.OpsG Go.Pv.KR
section
variable {P : Program} {o : Oper} {S : St} {ev : Operand → PV} {hp : List HO}
theorem ps_eqnil_ne {t e : TypeId} {s by_ : Nat} [ht : SlT P t e s by_] {rt : TypeId} {x y : Operand} {s' : Nat} {nn : Option Bool} {l : List PV} (ho : o.op = .binOp .eql t x y rt) (h1 : view hp (ev x) = .sl s' nn l) (h2 : ev y = nilV) (hl : l ≠ []) : PStep P o ev hp (B false) :=
  .of_run fun w0 g ρ w av hb hx => by
    have e1 := hb.view (hx x (by simp [ho, Op.operands]))
    have e2 := val_of (hx y (by simp [ho, Op.operands])) h2
    rw [h1] at e1
    have key : ∃ a n c, av x = .slice a n c ∧ a.isNone = false := by
      rcases VR.sl_inv e1 with ⟨ea, h', hn⟩ | ⟨a, cap, ea, h', hn⟩ | ⟨b', off, cap, cc, cs, ea, -⟩
      · exact absurd h' hl
      · exact absurd h' hl
      · exact ⟨_, _, _, ea, rfl⟩
    obtain ⟨a, n, c, ea, hab⟩ := key
    refine ⟨.bool false, ?_, .of_VR (.val _)⟩
    have h := eqnil_run (P := P) ht (x := x) (y := y) a n c w
    simp only [execOp, ho, ea, e2]
    rw [Sem.run_bind, h, hab]; rfl
theorem run_lit2 {t e : TypeId} {by_ : Nat} (ht : SlT P t e 1 by_) {zs : List Value} (hz : ZeroT P e zs) {x y : Operand} (ho : o.op = .buildSlice t 2 #[(0, x), (1, y)]) {av : Operand → Value} (h1 : (av x).cells = #[av x]) (h2 : (av y).cells = #[av y]) (w : World) :
    ∃ cells : Array Value, (execOp av o).run P w = .ok (.value (.slice (some ⟨w.heap.size, 0, none⟩) 2 2)) (w.alloc (.cells cells e)) ∧ cells.size = 2 ∧ cells.getD 0 undef = av x ∧ cells.getD 1 undef = av y := by
  obtain ⟨cells, r1, r2, r3⟩ := run_buildSlice ht hz 2 [av x, av y] rfl (fun v hv => by
    simp at hv
    rcases hv with rfl | rfl
    · rw [h1]; rfl
    · rw [h2]; rfl) (by omega) (by omega) #[(0, av x), (1, av y)] rfl w
  refine ⟨cells, ?_, by simpa using r2, ?_, ?_⟩
  · have e1 : (#[(0, x), (1, y)] : Array (Nat × Operand)).map (fun p => (p.1, av p.2)) = #[(0, av x), (1, av y)] := by simp
    simp only [execOp, ho]
    rw [e1]
    exact run_value r1
  · have := r3 0 (av x) 0 rfl (by omega)
    simpa [h1] using this
  · have := r3 1 (av y) 0 rfl (by omega)
    simpa [h2] using this
theorem e_litBox2 {t e : TypeId} {s by_ : Nat} [ht : SlT P t e s by_] {zs : List Value} [hz : ZeroT P e zs] {x y : Operand} {p q : PV} (ho : o.op = .buildSlice t 2 #[(0, x), (1, y)]) (h1 : S.ev x = p) (h2 : S.ev y = q) (hf : p.one = true) (hg : q.one = true) (hs : s = 1) :
    EStep P o S (S.setObj S.hp.length (killH S.hp.length S.hp ++ [.box [killP1 S.hp.length p, killP1 S.hp.length q]]) o.dst (.hp S.hp.length)) := by
  subst hs
  intro w0 g ρ a w hr Q K hK
  have na : ∀ {r : PV}, r.one = true → (∀ l, r ≠ .agg l) ∧ ∀ l, r ≠ .tup l := fun {r} hr => ⟨fun l e => by rw [e] at hr; simp [PV.one] at hr, fun l e => by rw [e] at hr; simp [PV.one] at hr⟩
  have v1 : VRS1 g ρ S.hp (a.eval x) p := by have := hr.ev x; rw [h1] at this; exact this.to_one (na hf).1 (na hf).2
  have v2 : VRS1 g ρ S.hp (a.eval y) q := by have := hr.ev y; rw [h2] at this; exact this.to_one (na hg).1 (na hg).2
  obtain ⟨cells, hrun, hsz, hc0, hc1⟩ := run_lit2 ht hz (av := a.eval) ho (v1.oneCell hf).1 (v2.oneCell hg).1 w
  unfold Oper.wp
  rw [hrun]
  have hgn : ∀ o, g w.heap.size o = none := fun o => by
    cases hk : g w.heap.size o with
    | none => rfl
    | some v => exact absurd (hr.base.agree.lt hk) (Nat.lt_irrefl _)
  have hbl : RowKit.Below w.heap.size w (w.alloc (.cells cells e)) := (RowKit.Below.refl _ _).alloc (Nat.le_refl _) _
  have kk : ∀ {v : Value} {r : PV} (x' : HO), VRS1 g ρ S.hp v r → VRS1 g (upd ρ S.hp.length ⟨w.heap.size, 2, fun _ => 0, fun _ => 0⟩) (S.hp.map (mapHO (killP1 S.hp.length)) ++ [x']) v (killP1 S.hp.length r) := fun x' h => h.kill S.hp.length _ (GExt.refl g) (fun i hi => killH_push _ _ hi)
  have hbase := hr.base.push (x' := .box [killP1 S.hp.length p, killP1 S.hp.length q]) ⟨w.heap.size, 2, fun _ => 0, fun _ => 0⟩ (GExt.refl g) (killP1 S.hp.length) (fun v p h => kk _ h) (hr.base.agree.below hbl) hbl
    ⟨cells, e, Ini.own_new hr.base.below.size, heap_alloc_new w _, by simpa using hsz, fun k r hk => (by
      rcases k with _ | _ | k
      · simp at hk; subst hk; rw [hc0]; exact kk _ v1
      · simp at hk; subst hk; rw [hc1]; exact kk _ v2
      · simp at hk), fun k => hgn k⟩ (fun b hb => by simp only [foot] at hb; omega) (fun b hb k => rfl)
  have hv := VRS.box_new g ρ S.hp [killP1 S.hp.length p, killP1 S.hp.length q] ⟨w.heap.size, 2, fun _ => 0, fun _ => 0⟩
  exact hK _ _ _ _ (GExt.refl g) (hr.setObj S.hp.length _ hbase (GExt.refl g) (fun i hi => killH_push _ _ hi) hv o.dst)
end
end Go.Pv
