/- The layer: an owned block of cells that is reached by a slice: its cells may name other objects. -/
import Derived.Laws.Small
import Derived.Test.YtlgfniaakjchgaaGreatLNb
namespace Go.Pv
open Go
attribute [local semireducible] Go.Pv.Goal Go.Pv.Ops Go.Pv.PStep Go.Pv.EStep Go.Pv.KRets Go.Pv.PCalls Go.Pv.OpsG
section
variable {P : Program} {o : Oper} {S : St} {ev : Operand → PV} {hp : List HO}
theorem VRS.box_new (g : Ghost) (ρ : Nat → Loc) (hp : List HO) (l : List PV) (L : Loc) : VRS g (upd ρ hp.length L) (killH hp.length hp ++ [.box l]) (.slice (some ⟨L.blk, 0, none⟩) l.length L.cap) (.hp hp.length) := by
  have hg : (killH hp.length hp ++ [HO.box l])[hp.length]? = some (.box l) := by
    rw [List.getElem?_append_right (by simp [killH])]; simp [killH]
  refine ⟨⟨_, _, _, rfl⟩, fun m s' e' l' hid => ?_, fun e1 e2 rows hid => ?_, fun e1 e2 n rows hid => ?_, fun l' hid => ?_, fun e1 e2 n rows hid => ?_⟩
  · rw [hg] at hid; cases hid
  · rw [hg] at hid; cases hid
  · rw [hg] at hid; cases hid
  · rw [hg] at hid; cases hid; rw [upd_same]
  · rw [hg] at hid; cases hid
theorem e_makeBox {t e : TypeId} {s by_ : Nat} {zv : Value} [ht : MkT P t e s by_ [zv]] {x y : Operand} {n : Int} (ho : o.op = .makeSlice t x y) (h1 : S.ev x = I n) (h2 : S.ev y = I n) (h0 : 0 ≤ n) (hb : n * by_ ≤ 140737488355328) (hn : n ≤ 9223372036854775807)
    (hs : s = 1) : EStep P o S (S.setObj S.hp.length (killH S.hp.length S.hp ++ [.box (List.replicate n.toNat (.val zv))]) o.dst (.hp S.hp.length)) := by
  subst hs
  intro w0 g ρ a w hr Q K hK
  have e1 := val_of (hr.ev x) h1
  have e2 := val_of (hr.ev y) h2
  obtain ⟨i, z, hi, hi1, hi2, hi3, hi4⟩ := ht.hi
  have hrun := run_make (P := P) w t e i z ht.hu hi hi3 .i64 .i64 n n h0 (Int.le_refl _) (by rw [hi2, Int.mul_comm]; omega) hn
  rw [hi1] at hrun
  unfold Oper.wp
  simp only [execOp, ho, e1, e2]
  rw [run_value hrun]
  have hgn : ∀ k, g w.heap.size k = none := fun k => by
    cases hk : g w.heap.size k with
    | none => rfl
    | some v => exact absurd (hr.base.agree.lt hk) (Nat.lt_irrefl _)
  have hzc : z.cells.size = 1 := by rw [← Array.length_toList, hi4]; rfl
  have hbase := hr.base.push (x' := .box (List.replicate n.toNat (.val zv))) ⟨w.heap.size, n.toNat, fun _ => 0, fun _ => 0⟩ (GExt.refl g) (killP1 S.hp.length) (fun v p h => h.kill S.hp.length _ (GExt.refl g) (fun i hi => killH_push _ _ hi)) (hr.base.agree.below ((RowKit.Below.refl _ _).alloc (Nat.le_refl _) _)) ((RowKit.Below.refl _ _).alloc (Nat.le_refl _) _)
    ⟨madeCells z.cells (n.toNat * 1), e, Ini.own_new hr.base.below.size, heap_alloc_new w _, by simp [size_madeCells], fun k q hk => (by
      rw [List.getElem?_replicate] at hk
      split at hk
      · rename_i hlt
        cases hk
        have : (madeCells z.cells (n.toNat * 1)).getD k undef = zv := by
          have hz0 : z.cells[0]? = some zv := by rw [← Array.getElem?_toList, hi4]; rfl
          have hm : k % 1 = 0 := Nat.mod_one k
          have hlt' : k < n.toNat * 1 := by omega
          simp only [madeCells, Array.getD_eq_getD_getElem?, Array.getElem?_map, Array.getElem?_range, hlt', if_true, Option.map_some, Option.getD_some, hzc, hm]
          rw [getElem!_def, hz0]
        rw [this]; exact .of_VR (.val zv)
      · cases hk), fun k => hgn k⟩ (fun b hb => by simp only [foot] at hb; omega) (fun b hb k => rfl)
  have hv := VRS.box_new g ρ S.hp (List.replicate n.toNat (.val zv)) ⟨w.heap.size, n.toNat, fun _ => 0, fun _ => 0⟩
  simp only [List.length_replicate] at hv
  exact hK _ _ _ _ (GExt.refl g) (hr.setObj S.hp.length _ hbase (GExt.refl g) (fun i hi => killH_push _ _ hi) hv o.dst)
theorem ps_index_box {t e : TypeId} {by_ : Nat} [ht : SlT P t e 1 by_] {x ix : Operand} {l : List PV} {i : Int} {id : Nat} (ho : o.op = .indexAddr t x ix) (h1 : ev x = .hp id)
    (hh : hp[id]? = some (.box l)) (h2 : ev ix = I i) (h0 : 0 ≤ i) (hq : i.toNat < l.length) : PStep P o ev hp (.hat id i.toNat) :=
  .of_run fun w0 g ρ w av hb hx => by
    have e1 := hx x (by simp [ho, Op.operands])
    have e2 := val_of (hx ix (by simp [ho, Op.operands])) h2
    rw [h1] at e1
    have ea := HpV.box e1 _ hh
    refine ⟨.pointer (some ⟨(ρ id).blk, i.toNat, none⟩), ?_, rfl⟩
    have hi : i < (l.length : Int) := by omega
    simp [execOp, ho, ea, e2, Instr.indexAt, asIntOf, run_underlying ht.hu, ht.hs, h0, hi, Addr.add_n, go_sem]
theorem g_viewBox {c : Code} {K : Exit → St → Prop} (n : Nat) {l : List PV} (hn : S.hp[n]? = some (.box l)) (h : ∃ S', St.mk S.fr (S.hp.set n (.box (l.map (Pv.view1 S.hp)))) = S' ∧ Goal P c K S') : Goal P c K S := by
  obtain ⟨S', rfl, h⟩ := h
  unfold Goal at h ⊢
  intro w0 g ρ a w Q hr hQ
  refine h w0 g ρ a w Q (rel_swap hr hn (x' := .box (l.map (Pv.view1 S.hp))) (fun hp' hx => ?_) (fun b hb => hb) (fun v hp' h' hh => ?_) (fun e1 e2 rows h => by cases h)) hQ
  · obtain ⟨cur, e, h1, h2, h3, h4, h5⟩ := hx
    refine ⟨cur, e, h1, h2, by rw [List.length_map]; exact h3, fun k q hk => ?_, h5⟩
    rw [List.getElem?_map, Option.map_eq_some_iff] at hk
    obtain ⟨p, hp', rfl⟩ := hk
    exact .of_VR (hr.base.view1 (h4 k p hp'))
  · exact { sl := hh.sl, arr := fun m s' e2 l' hid => (by rw [h'] at hid; cases hid), grid := fun e1 e2 rows hid => (by rw [h'] at hid; cases hid), sg := fun e1 e2 m rows hid => (by rw [h'] at hid; cases hid),
            pg := fun e1 e2 m rows hid => (by rw [h'] at hid; cases hid),
            box := fun l' hid => (by rw [h'] at hid; cases hid; rw [List.length_map]; exact hh.box _ hn) }
theorem g_castH {c : Code} {K : Exit → St → Prop} {fr : List PV} {hp hp' : List HO} (e : hp = hp') (h : Goal P c K ⟨fr, hp'⟩) : Goal P c K ⟨fr, hp⟩ := e ▸ h
end
end Go.Pv
/- The layer: a literal of two that names objects, the greater of two numbers, a slice that is not nil. -/
namespace Go.Pv
open Go
attribute [local semireducible] Go.Pv.Goal Go.Pv.Ops Go.Pv.PStep Go.Pv.EStep Go.Pv.KRets Go.Pv.PCalls Go.Pv.OpsG Go.Pv.KR
section
variable {P : Program} {o : Oper} {S : St} {ev : Operand → PV} {hp : List HO}
theorem ps_eqnil_ne {t e : TypeId} {s by_ : Nat} [ht : SlT P t e s by_] {rt : TypeId} {x y : Operand} {s' : Nat} {nn : Option Bool} {l : List PV} (ho : o.op = .binOp .eql t x y rt) (h1 : view hp (ev x) = .sl s' nn l) (h2 : ev y = nilV) (hl : l ≠ []) : PStep P o ev hp (B false) :=
  .of_run fun w0 g ρ w av hb hx => by
    have e1 := hb.view (hx x (by simp [ho, Op.operands]))
    have e2 := val_of (hx y (by simp [ho, Op.operands])) h2
    rw [h1] at e1
    have key : ∃ a n c, av x = .slice a n c ∧ a.isNone = false := by
      rcases VR.sl_inv e1 with ⟨ea, h', hn⟩ | ⟨a, cap, ea, h', hn⟩ | ⟨b', off, cap, cc, cs, ea, -⟩
      · exact absurd h' hl
      · exact absurd h' hl
      · exact ⟨_, _, _, ea, rfl⟩
    obtain ⟨a, n, c, ea, hab⟩ := key
    refine ⟨.bool false, ?_, .of_VR (.val _)⟩
    have h := eqnil_run (P := P) ht (x := x) (y := y) a n c w
    simp only [execOp, ho, ea, e2]
    rw [Sem.run_bind, h, hab]; rfl
theorem ps_max {x y : Operand} {tys : Array TypeId} {a b : Int} (ho : o.op = .call { callee := .builtin .max, args := #[x, y], argTypes := tys }) (h1 : ev x = I a) (h2 : ev y = I b) : PStep P o ev hp (I (if b > a then b else a)) :=
  .of_run fun w0 g ρ w av hb hx => by
    have e1 := val_of (hx x (by simp [ho, Op.operands, Call.operands])) h1
    have e2 := val_of (hx y (by simp [ho, Op.operands, Call.operands])) h2
    exact ⟨.int .i64 (if b > a then b else a), by simp [execOp, ho, resolve, invoke, builtin, e1, e2, run_max_int2, go_sem], .of_VR (.val _)⟩
theorem run_lit2 {t e : TypeId} {by_ : Nat} (ht : SlT P t e 1 by_) {zs : List Value} (hz : ZeroT P e zs) {x y : Operand} (ho : o.op = .buildSlice t 2 #[(0, x), (1, y)]) {av : Operand → Value} (h1 : (av x).cells = #[av x]) (h2 : (av y).cells = #[av y]) (w : World) :
    ∃ cells : Array Value, (execOp av o).run P w = .ok (.value (.slice (some ⟨w.heap.size, 0, none⟩) 2 2)) (w.alloc (.cells cells e)) ∧ cells.size = 2 ∧ cells.getD 0 undef = av x ∧ cells.getD 1 undef = av y := by
  obtain ⟨cells, r1, r2, r3⟩ := run_buildSlice ht hz 2 [av x, av y] rfl (fun v hv => by
    simp at hv
    rcases hv with rfl | rfl
    · rw [h1]; rfl
    · rw [h2]; rfl) (by omega) (by omega) #[(0, av x), (1, av y)] rfl w
  refine ⟨cells, ?_, by simpa using r2, ?_, ?_⟩
  · have e1 : (#[(0, x), (1, y)] : Array (Nat × Operand)).map (fun p => (p.1, av p.2)) = #[(0, av x), (1, av y)] := by simp
    simp only [execOp, ho]
    rw [e1]
    exact run_value r1
  · have := r3 0 (av x) 0 rfl (by omega)
    simpa [h1] using this
  · have := r3 1 (av y) 0 rfl (by omega)
    simpa [h2] using this
theorem e_litBox2 {t e : TypeId} {s by_ : Nat} [ht : SlT P t e s by_] {zs : List Value} [hz : ZeroT P e zs] {x y : Operand} {p q : PV} (ho : o.op = .buildSlice t 2 #[(0, x), (1, y)]) (h1 : S.ev x = p) (h2 : S.ev y = q) (hf : p.one = true) (hg : q.one = true) (hs : s = 1) :
    EStep P o S (S.setObj S.hp.length (killH S.hp.length S.hp ++ [.box [killP1 S.hp.length p, killP1 S.hp.length q]]) o.dst (.hp S.hp.length)) := by
  subst hs
  intro w0 g ρ a w hr Q K hK
  have na : ∀ {r : PV}, r.one = true → (∀ l, r ≠ .agg l) ∧ ∀ l, r ≠ .tup l := fun {r} hr => ⟨fun l e => by rw [e] at hr; simp [PV.one] at hr, fun l e => by rw [e] at hr; simp [PV.one] at hr⟩
  have v1 : VRS1 g ρ S.hp (a.eval x) p := by have := hr.ev x; rw [h1] at this; exact this.to_one (na hf).1 (na hf).2
  have v2 : VRS1 g ρ S.hp (a.eval y) q := by have := hr.ev y; rw [h2] at this; exact this.to_one (na hg).1 (na hg).2
  obtain ⟨cells, hrun, hsz, hc0, hc1⟩ := run_lit2 ht hz (av := a.eval) ho (v1.oneCell hf).1 (v2.oneCell hg).1 w
  unfold Oper.wp
  rw [hrun]
  have hgn : ∀ o, g w.heap.size o = none := fun o => by
    cases hk : g w.heap.size o with
    | none => rfl
    | some v => exact absurd (hr.base.agree.lt hk) (Nat.lt_irrefl _)
  have hbl : RowKit.Below w.heap.size w (w.alloc (.cells cells e)) := (RowKit.Below.refl _ _).alloc (Nat.le_refl _) _
  have kk : ∀ {v : Value} {r : PV} (x' : HO), VRS1 g ρ S.hp v r → VRS1 g (upd ρ S.hp.length ⟨w.heap.size, 2, fun _ => 0, fun _ => 0⟩) (S.hp.map (mapHO (killP1 S.hp.length)) ++ [x']) v (killP1 S.hp.length r) := fun x' h => h.kill S.hp.length _ (GExt.refl g) (fun i hi => killH_push _ _ hi)
  have hbase := hr.base.push (x' := .box [killP1 S.hp.length p, killP1 S.hp.length q]) ⟨w.heap.size, 2, fun _ => 0, fun _ => 0⟩ (GExt.refl g) (killP1 S.hp.length) (fun v p h => kk _ h) (hr.base.agree.below hbl) hbl
    ⟨cells, e, Ini.own_new hr.base.below.size, heap_alloc_new w _, by simpa using hsz, fun k r hk => (by
      rcases k with _ | _ | k
      · simp at hk; subst hk; rw [hc0]; exact kk _ v1
      · simp at hk; subst hk; rw [hc1]; exact kk _ v2
      · simp at hk), fun k => hgn k⟩ (fun b hb => by simp only [foot] at hb; omega) (fun b hb k => rfl)
  have hv := VRS.box_new g ρ S.hp [killP1 S.hp.length p, killP1 S.hp.length q] ⟨w.heap.size, 2, fun _ => 0, fun _ => 0⟩
  exact hK _ _ _ _ (GExt.refl g) (hr.setObj S.hp.length _ hbase (GExt.refl g) (fun i hi => killH_push _ _ hi) hv o.dst)
theorem pcalls4 {f : FuncId} {fn : Func} {c : Code} {n : Nat} {args : List PV} {r1 r2 r3 r4 : Tmp} {q1 q2 q3 q4 : PV} (hf : P.funcs[f]? = some fn) (hb : fn.body = some c) (hn : fn.ntmps = n) (hr : fn.results = #[.tmp r1, .tmp r2, .tmp r3, .tmp r4])
    (h : Goal P c (KRets [r1, r2, r3, r4] [q1, q2, q3, q4]) ⟨args ++ List.replicate (n - args.length) (.val undef), []⟩) : PCalls P f args (.tup [q1, q2, q3, q4]) :=
  pcalls_of (fun vs => .tuple vs.toArray) (fun g vs hv => .tup _ _ (by simpa using hv.1) (fun i q hq => by have := hv.2 i q hq; simpa [List.getD_eq_getElem?_getD] using this)) (fun tmps w => by simp [results, hr]) hf hb hn h
theorem kr4 {S : St} {r1 r2 r3 r4 : Tmp} {q1 q2 q3 q4 : PV} (h1 : KR S r1 q1) (h2 : KR S r2 q2) (h3 : KR S r3 q3) (h4 : KR S r4 q4) : KRets [r1, r2, r3, r4] [q1, q2, q3, q4] .ret S := ⟨.inr rfl, h1, h2, h3, h4, trivial⟩
end
end Go.Pv
