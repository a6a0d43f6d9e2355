/- The layer: an owned block of cells that is reached by a slice: its cells may name other objects. -/
import Derived.Test.YtogfibhhfimbjaaDNb
namespace Go.Pv
open Go
attribute [local semireducible] Go.Pv.Goal Go.Pv.Ops Go.Pv.PStep Go.Pv.EStep Go.Pv.KRets Go.Pv.PCalls Go.Pv.OpsG
section
variable {P : Program} {o : Oper} {S : St} {ev : Operand → PV} {hp : List HO}
theorem VRS.box_new (g : Ghost) (ρ : Nat → Loc) (hp : List HO) (l : List PV) (L : Loc) : VRS g (upd ρ hp.length L) (killH hp.length hp ++ [.box l]) (.slice (some ⟨L.blk, 0, none⟩) l.length L.cap) (.hp hp.length) := by
  have hg : (killH hp.length hp ++ [HO.box l])[hp.length]? = some (.box l) := by
    rw [List.getElem?_append_right (by simp [killH])]; simp [killH]
  refine ⟨⟨_, _, _, rfl⟩, fun m s' e' l' hid => ?_, fun e1 e2 rows hid => ?_, fun e1 e2 n rows hid => ?_, fun l' hid => ?_, fun e1 e2 n rows hid => ?_⟩
  · rw [hg] at hid; cases hid
  · rw [hg] at hid; cases hid
  · rw [hg] at hid; cases hid
  · rw [hg] at hid; cases hid; rw [upd_same]
  · rw [hg] at hid; cases hid
theorem e_makeBox {t e : TypeId} {s by_ : Nat} {zv : Value} [ht : MkT P t e s by_ [zv]] {x y : Operand} {n : Int} (ho : o.op = .makeSlice t x y) (h1 : S.ev x = I n) (h2 : S.ev y = I n) (h0 : 0 ≤ n) (hb : n * by_ ≤ 140737488355328) (hn : n ≤ 9223372036854775807)
    (hs : s = 1) : EStep P o S (S.setObj S.hp.length (killH S.hp.length S.hp ++ [.box (List.replicate n.toNat (.val zv))]) o.dst (.hp S.hp.length)) := by
  subst hs
  intro w0 g ρ a w hr Q K hK
  have e1 := val_of (hr.ev x) h1
  have e2 := val_of (hr.ev y) h2
  obtain ⟨i, z, hi, hi1, hi2, hi3, hi4⟩ := ht.hi
  have hrun := run_make (P := P) w t e i z ht.hu hi hi3 .i64 .i64 n n h0 (Int.le_refl _) (by rw [hi2, Int.mul_comm]; omega) hn
  rw [hi1] at hrun
  unfold Oper.wp
  simp only [execOp, ho, e1, e2]
  rw [run_value hrun]
  have hgn : ∀ k, g w.heap.size k = none := fun k => by
    cases hk : g w.heap.size k with
    | none => rfl
    | some v => exact absurd (hr.base.agree.lt hk) (Nat.lt_irrefl _)
  have hzc : z.cells.size = 1 := by rw [← Array.length_toList, hi4]; rfl
  have hbase := hr.base.push (x' := .box (List.replicate n.toNat (.val zv))) ⟨w.heap.size, n.toNat, fun _ => 0, fun _ => 0⟩ (GExt.refl g) (killP1 S.hp.length) (fun v p h => h.kill S.hp.length _ (GExt.refl g) (fun i hi => killH_push _ _ hi)) (hr.base.agree.below ((RowKit.Below.refl _ _).alloc (Nat.le_refl _) _)) ((RowKit.Below.refl _ _).alloc (Nat.le_refl _) _)
    ⟨madeCells z.cells (n.toNat * 1), e, Ini.own_new hr.base.below.size, heap_alloc_new w _, by simp [size_madeCells], fun k q hk => (by
      rw [List.getElem?_replicate] at hk
      split at hk
      · rename_i hlt
        cases hk
        have : (madeCells z.cells (n.toNat * 1)).getD k undef = zv := by
          have hz0 : z.cells[0]? = some zv := by rw [← Array.getElem?_toList, hi4]; rfl
          have hm : k % 1 = 0 := Nat.mod_one k
          have hlt' : k < n.toNat * 1 := by omega
          simp only [madeCells, Array.getD_eq_getD_getElem?, Array.getElem?_map, Array.getElem?_range, hlt', if_true, Option.map_some, Option.getD_some, hzc, hm]
          rw [getElem!_def, hz0]
        rw [this]; exact .of_VR (.val zv)
      · cases hk), fun k => hgn k⟩ (fun b hb => by simp only [foot] at hb; omega) (fun b hb k => rfl)
  have hv := VRS.box_new g ρ S.hp (List.replicate n.toNat (.val zv)) ⟨w.heap.size, n.toNat, fun _ => 0, fun _ => 0⟩
  simp only [List.length_replicate] at hv
  exact hK _ _ _ _ (GExt.refl g) (hr.setObj S.hp.length _ hbase (GExt.refl g) (fun i hi => killH_push _ _ hi) hv o.dst)
theorem ps_index_box {t e : TypeId} {by_ : Nat} [ht : SlT P t e 1 by_] {x ix : Operand} {l : List PV} {i : Int} {id : Nat} (ho : o.op = .indexAddr t x ix) (h1 : ev x = .hp id)
    (hh : hp[id]? = some (.box l)) (h2 : ev ix = I i) (h0 : 0 ≤ i) (hq : i.toNat < l.length) : PStep P o ev hp (.hat id i.toNat) :=
  .of_run fun w0 g ρ w av hb hx => by
    have e1 := hx x (by simp [ho, Op.operands])
    have e2 := val_of (hx ix (by simp [ho, Op.operands])) h2
    rw [h1] at e1
    have ea := HpV.box e1 _ hh
    refine ⟨.pointer (some ⟨(ρ id).blk, i.toNat, none⟩), ?_, rfl⟩
    have hi : i < (l.length : Int) := by omega
    simp [execOp, ho, ea, e2, Instr.indexAt, asIntOf, run_underlying ht.hu, ht.hs, h0, hi, Addr.add_n, go_sem]
/-- What a box names is read now. -/
theorem g_viewBox {c : Code} {K : Exit → St → Prop} (n : Nat) {l : List PV} (hn : S.hp[n]? = some (.box l)) (h : ∃ S', St.mk S.fr (S.hp.set n (.box (l.map (Pv.view1 S.hp)))) = S' ∧ Goal P c K S') : Goal P c K S := by
  obtain ⟨S', rfl, h⟩ := h
  unfold Goal at h ⊢
  intro w0 g ρ a w Q hr hQ
  refine h w0 g ρ a w Q (rel_swap hr hn (x' := .box (l.map (Pv.view1 S.hp))) (fun hp' hx => ?_) (fun b hb => hb) (fun v hp' h' hh => ?_) (fun e1 e2 rows h => by cases h)) hQ
  · obtain ⟨cur, e, h1, h2, h3, h4, h5⟩ := hx
    refine ⟨cur, e, h1, h2, by rw [List.length_map]; exact h3, fun k q hk => ?_, h5⟩
    rw [List.getElem?_map, Option.map_eq_some_iff] at hk
    obtain ⟨p, hp', rfl⟩ := hk
    exact .of_VR (hr.base.view1 (h4 k p hp'))
  · exact { sl := hh.sl, arr := fun m s' e2 l' hid => (by rw [h'] at hid; cases hid), grid := fun e1 e2 rows hid => (by rw [h'] at hid; cases hid), sg := fun e1 e2 m rows hid => (by rw [h'] at hid; cases hid),
            pg := fun e1 e2 m rows hid => (by rw [h'] at hid; cases hid),
            box := fun l' hid => (by rw [h'] at hid; cases hid; rw [List.length_map]; exact hh.box _ hn) }
/-- An object's names are forgotten where there are none. -/
theorem g_castH {c : Code} {K : Exit → St → Prop} {fr : List PV} {hp hp' : List HO} (e : hp = hp') (h : Goal P c K ⟨fr, hp'⟩) : Goal P c K ⟨fr, hp⟩ := e ▸ h
end
end Go.Pv
