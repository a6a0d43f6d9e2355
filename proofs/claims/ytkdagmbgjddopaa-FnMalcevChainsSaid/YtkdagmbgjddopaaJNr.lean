/- The layer: a closure that holds names of objects (they are pinned ahead of it). -/
import Derived.Test.YtkdagmbgjddopaaJNb
import Derived.Test.YtkdagmbgjddopaaJNq
namespace Go.Pv
open Go
attribute [local semireducible] Go.Pv.PStep Go.Pv.EStep
section
variable {P : Program} {o : Oper} {S : St}
theorem e_callMG {x : Operand} {xs : Array Operand} {tys : Array TypeId} {f : FuncId} [hf : FnT P f] {first caps args : List PV} {ids fix : List Nat} {inp out : List HO} {q : PV} (hop : o.op = .call { callee := .value x, args := xs, argTypes := tys }) (h1 : ∀ w0 g ρ a w, Rel w0 S g ρ a w → ∃ fs cs, a.eval x = .func (.func f) fs cs ∧ VRSl g (fun k => ρ (getI ids k)) (inpM ids S.hp) fs.toList first ∧ VRSl g (fun k => ρ (getI ids k)) (inpM ids S.hp) cs.toList caps)
    (hap : apart ids = true) (hlt : ids.all (fun i => Nat.blt i S.hp.length) = true) (hin : inpM ids S.hp = inp)
    (h2 : argsLS (first ++ (xs.toList.map fun y => lendMP ids S.hp (S.ev y)) ++ caps) args) (hlen : out.length = ids.length) (hc : MCalls P f inp args out fix q) :
    EStep P o S (St.put ⟨S.fr.map (killMP ids fix), putL ids (out.map (mapHO (backM1 ids))) (S.hp.map (mapHO (killM1 ids fix)))⟩ o.dst (backMP ids q)) := by
  subst hin
  intro w0 g ρ a w hr Q K hK
  have hb := hr.base
  obtain ⟨fs, cs, ea, v1, v2⟩ := h1 w0 g ρ a w hr
  unfold Oper.wp
  rw [run_call hop ea]
  have hltI : ∀ {k j : Nat}, ids[k]? = some j → j < S.hp.length := fun {k j} h => by
    have := List.all_eq_true.1 hlt j (List.mem_of_getElem? h)
    exact Nat.le_of_ble_eq_true this
  have hargs : VRSl g (fun k => ρ (getI ids k)) (inpM ids S.hp) (fs ++ xs.map a.eval ++ cs).toList args := by
    refine VRSl.le h2 ?_
    rw [Array.toList_append, Array.toList_append]
    refine VRSl.append (VRSl.append v1 ?_) v2
    refine ⟨by simp, fun i q hq => ?_⟩
    simp only [List.getElem?_map, Option.map_eq_some_iff, Array.getElem?_toList] at hq
    obtain ⟨y, hy, rfl⟩ := hq
    have : (xs.map a.eval).toList.getD i undef = a.eval y := by simp [List.getD_eq_getElem?_getD, hy]
    rw [this, lendMP_map]
    exact (hr.ev y).map fun v p h => VRS1.lendM hb h
  -- the objects lent, as the call has them
  have obj : ∀ {k : Nat} {y : HO}, (inpM ids S.hp)[k]? = some y → ∃ j y0, ids[k]? = some j ∧ S.hp[j]? = some y0 ∧ y = mapHO (lendM1 ids S.hp) y0 := fun {k y} h => by
    unfold inpM at h
    rw [List.getElem?_map, Option.map_eq_some_iff] at h
    obtain ⟨j, hj, rfl⟩ := h
    refine ⟨j, S.hp[j]'(hltI hj), hj, List.getElem?_eq_getElem (hltI hj), ?_⟩
    rw [List.getD_eq_getElem?_getD, List.getElem?_eq_getElem (hltI hj)]; rfl
  have hstart : Base ⟨w, g, footL (inpM ids S.hp) (fun k => ρ (getI ids k))⟩ (inpM ids S.hp) g (fun k => ρ (getI ids k)) w := by
    refine ⟨BelowL.refl _, hb.agree, fun _ _ _ => rfl, fun k y hy => ?_, fun i k y z b hik hy hz fy fz => ?_⟩
    · obtain ⟨j, y0, hj, hy0, rfl⟩ := obj hy
      have := (hb.own j y0 hy0).keep (GExt.refl g) (lendM1 ids S.hp) (fun v p h => VRS1.lendM hb h) (fun b _ => ⟨rfl, fun _ => rfl⟩)
      show HOwn g _ _ w _ _ (ρ (getI ids k))
      rw [getI_eq hj]
      refine this.reD fun b hfb => Ini.own_lent (footL_iff.2 ⟨k, _, hy, ?_⟩)
      show foot _ (ρ (getI ids k)) b
      rw [getI_eq hj]; exact hfb
    · obtain ⟨j, y0, hj, hy0, rfl⟩ := obj hy
      obtain ⟨j', z0, hj', hz0, rfl⟩ := obj hz
      simp only [getI_eq hj] at fy
      simp only [getI_eq hj'] at fz
      rw [foot_map] at fy fz
      exact hb.sep j j' y0 z0 b (fun e => hik (apart_inj hap hj (e ▸ hj'))) hy0 hz0 fy fz
  have := hc g w (fun k => ρ (getI ids k)) _ hstart hargs
  rw [Array.toArray_toList] at this
  refine this.mono fun e w' h => ?_
  obtain ⟨v, g', ρ', rfl, hx, hB, hfix, hv⟩ := h
  -- whose blocks
  have hown : ∀ b, Ini.own ⟨w, g, footL (inpM ids S.hp) (fun k => ρ (getI ids k))⟩ b = true → (∃ k j y, ids[k]? = some j ∧ S.hp[j]? = some y ∧ foot y (ρ j) b) ∨ w.heap.size ≤ b := fun b hb' => by
    unfold Ini.own at hb'
    rw [Bool.or_eq_true] at hb'
    rcases hb' with h | h
    · right; simpa using h
    · left
      obtain ⟨k, y, hy, hfy⟩ := footL_iff.1 h
      obtain ⟨j, y0, hj, hy0, rfl⟩ := obj hy
      refine ⟨k, j, y0, hj, hy0, ?_⟩
      rw [foot_map] at hfy
      simpa only [getI_eq hj] using hfy
  have hto : ∀ b, Ini.own ⟨w, g, footL (inpM ids S.hp) (fun k => ρ (getI ids k))⟩ b = true → w0.own b = true := fun b hb' => by
    rcases hown b hb' with ⟨k, j, y, -, hy, hfy⟩ | h
    · exact ((hb.own j y hy).foot_lt hfy).1
    · exact Ini.own_new (Nat.le_trans hb.below.size h)
  have hnot : ∀ b, ¬ w0.own b = true → ¬ Ini.own ⟨w, g, footL (inpM ids S.hp) (fun k => ρ (getI ids k))⟩ b = true := fun b hb' hb2 => hb' (hto b hb2)
  have hother : ∀ {j : Nat} {y : HO} {b : Nat}, (∀ k : Nat, ids[k]? ≠ some j) → S.hp[j]? = some y → foot y (ρ j) b → b < w.heap.size ∧ ¬ Ini.own ⟨w, g, footL (inpM ids S.hp) (fun k => ρ (getI ids k))⟩ b = true := fun {j y b} hj hy hfy => by
    have hlt := ((hb.own j y hy).foot_lt hfy).2
    refine ⟨hlt, fun ho => ?_⟩
    rcases hown b ho with ⟨k, j', y', hk, hy', hfy'⟩ | h
    · exact hb.sep j j' y y' b (fun e => hj k (e ▸ hk)) hy hy' hfy hfy'
    · omega
  let ρ2 : Nat → Loc := fun i => match posI ids i 0 with | some k => ρ' k | none => ρ i
  have ρ2_at : ∀ {k j : Nat}, ids[k]? = some j → ρ2 j = ρ' k := fun {k j} h => by show (match posI ids j 0 with | some k => ρ' k | none => ρ j) = _; rw [posI_at hap h]
  have ρ2_other : ∀ {j : Nat}, posI ids j 0 = none → ρ2 j = ρ j := fun {j} h => by show (match posI ids j 0 with | some k => ρ' k | none => ρ j) = _; rw [h]
  let hp2 := putL ids (out.map (mapHO (backM1 ids))) (S.hp.map (mapHO (killM1 ids fix)))
  have hp2_at : ∀ {k j : Nat}, ids[k]? = some j → hp2[j]? = (out[k]?).map (mapHO (backM1 ids)) := fun {k j} h => by
    show (putL ids _ _)[j]? = _
    rw [putL_at hap (by rw [List.length_map, hlen]) h (by rw [List.length_map]; exact hltI h), List.getElem?_map]
  have hp2_other : ∀ {j : Nat}, posI ids j 0 = none → hp2[j]? = (S.hp[j]?).map (mapHO (killM1 ids fix)) := fun {j} h => by
    show (putL ids _ _)[j]? = _
    rw [putL_other (posI_none h), List.getElem?_map]
  have pos : ∀ {j m : Nat}, posI ids j 0 = some m → ids[m]? = some j := fun {j m} e => by
    obtain ⟨i, rfl, h2⟩ := posI_some e
    rwa [Nat.zero_add]
  have hkill : ∀ v p, VRS1 g ρ S.hp v p → VRS1 g' ρ2 hp2 v (killM1 ids fix p) := fun v p h => by
    have keyH : ∀ {j : Nat}, posI ids j 0 = none → HpV ρ S.hp v j → HpV ρ2 hp2 v j := fun {j} e h =>
      { sl := h.sl
        arr := fun m s e' l hh => by rw [ρ2_other e]; rw [hp2_other e] at hh; exact h.arr _ _ _ _ (mapHO_arr hh)
        grid := fun e1 e2 rows hh => by rw [ρ2_other e]; rw [hp2_other e] at hh; exact h.grid _ _ _ (mapHO_grid hh)
        sg := fun e1 e2 n rows hh => by rw [ρ2_other e]; rw [hp2_other e] at hh; exact h.sg _ _ _ _ (mapHO_sg hh)
        pg := fun e1 e2 n rows hh => by rw [ρ2_other e]; rw [hp2_other e] at hh; exact h.pg _ _ _ _ (mapHO_pg hh)
        box := fun l hh => by rw [ρ2_other e]; rw [hp2_other e] at hh; obtain ⟨l0, h0, hl⟩ := mapHO_box hh; rw [← hl]; exact h.box _ h0 }
    have fixed : ∀ {j k : Nat}, posI ids j 0 = some k → hasI fix k = true → (ρ2 j).blk = (ρ j).blk ∧ (ρ2 j).cap = (ρ j).cap := fun {j k} e hf => by
      rw [ρ2_at (pos e)]
      have := hfix k (hasI_mem hf)
      simpa only [getI_eq (pos e)] using this
    cases p with
    | hp j =>
      simp only [killM1]
      cases e : posI ids j 0 with
      | none => exact keyH e h
      | some k => exact .any v
    | hpv j b c =>
      simp only [killM1]
      cases e : posI ids j 0 with
      | none => exact ⟨keyH e h.1, by rw [ρ2_other e]; exact h.2⟩
      | some k => exact .any v
    | hat j i =>
      simp only [killM1]
      cases e : posI ids j 0 with
      | none => show v = _; rw [ρ2_other e]; exact h
      | some k =>
        show VRS1 g' ρ2 hp2 v (bif hasI fix k then _ else _)
        cases hf : hasI fix k with
        | false => exact VR.any v
        | true => show v = _; rw [(fixed e hf).1]; exact h
    | hatv j i b c =>
      simp only [killM1]
      cases e : posI ids j 0 with
      | none => show v = _ ∧ _; rw [ρ2_other e]; exact h
      | some k =>
        show VRS1 g' ρ2 hp2 v (bif hasI fix k then _ else _)
        cases hf : hasI fix k with
        | false => exact VR.any v
        | true => show v = _ ∧ _; rw [(fixed e hf).1, (fixed e hf).2]; exact h
    | gr j i =>
      simp only [killM1]
      cases e : posI ids j 0 with
      | none =>
        refine (⟨GrV.sl h, fun e1 e2 rows r hj hr => ?_, fun e1 e2 _n rows r hj hr => ?_⟩ : GrV _ _ _ _ _)
        rotate_left
        · rw [hp2_other e] at hj
          rw [ρ2_other e]; exact GrV.sg h _ _ _ _ _ (mapHO_sg hj) hr
        rw [hp2_other e] at hj
        rw [ρ2_other e]; exact GrV.grid h _ _ _ _ (mapHO_grid hj) hr
      | some k => exact .any v
    | gat j i m =>
      simp only [killM1]
      cases e : posI ids j 0 with
      | none => show v = _; rw [ρ2_other e]; exact h
      | some k => exact .any v
    | _ => exact VR.mono hx h
  have hback : ∀ v p, VRS1 g' ρ' out v p → VRS1 g' ρ2 hp2 v (backM1 ids p) := fun v p h => by
    have keyH : ∀ {k j : Nat}, ids[k]? = some j → HpV ρ' out v k → HpV ρ2 hp2 v j := fun {k j} hj h =>
      { sl := h.sl
        arr := fun m s e' l hh => by rw [ρ2_at hj]; rw [hp2_at hj] at hh; exact h.arr _ _ _ _ (mapHO_arr hh)
        grid := fun e1 e2 rows hh => by rw [ρ2_at hj]; rw [hp2_at hj] at hh; exact h.grid _ _ _ (mapHO_grid hh)
        sg := fun e1 e2 n rows hh => by rw [ρ2_at hj]; rw [hp2_at hj] at hh; exact h.sg _ _ _ _ (mapHO_sg hh)
        pg := fun e1 e2 n rows hh => by rw [ρ2_at hj]; rw [hp2_at hj] at hh; exact h.pg _ _ _ _ (mapHO_pg hh)
        box := fun l hh => by rw [ρ2_at hj]; rw [hp2_at hj] at hh; obtain ⟨l0, h0, hl⟩ := mapHO_box hh; rw [← hl]; exact h.box _ h0 }
    cases p with
    | hp k =>
      simp only [backM1, getO_eq]
      cases e : ids[k]? with
      | none => exact .any v
      | some j => exact keyH e h
    | hpv k b c =>
      simp only [backM1, getO_eq]
      cases e : ids[k]? with
      | none => exact .any v
      | some j => exact keyH e h.1
    | hat k i =>
      simp only [backM1, getO_eq]
      cases e : ids[k]? with
      | none => exact VR.any v
      | some j => show v = .pointer (some ⟨(ρ2 j).blk, i, none⟩); rw [ρ2_at e]; exact h
    | hatv k i b c =>
      simp only [backM1, getO_eq]
      cases e : ids[k]? with
      | none => exact VR.any v
      | some j => show v = .pointer (some ⟨(ρ2 j).blk, i, none⟩); rw [ρ2_at e]; exact h.1
    | gr k i =>
      simp only [backM1, getO_eq]
      cases e : ids[k]? with
      | none => exact .any v
      | some j =>
        refine (⟨GrV.sl h, fun e1 e2 rows r hj hr => ?_, fun e1 e2 _n rows r hj hr => ?_⟩ : GrV _ _ _ _ _)
        rotate_left
        · rw [hp2_at e] at hj
          rw [ρ2_at e]; exact GrV.sg h _ _ _ _ _ (mapHO_sg hj) hr
        rw [hp2_at e] at hj
        rw [ρ2_at e]; exact GrV.grid h _ _ _ _ (mapHO_grid hj) hr
    | gat k i m =>
      simp only [backM1, getO_eq]
      cases e : ids[k]? with
      | none => exact VR.any v
      | some j => show v = .pointer (some ⟨(ρ2 j).rows i, m, none⟩); rw [ρ2_at e]; exact h
    | _ => exact h
  have cases2 : ∀ {j : Nat} {y : HO}, hp2[j]? = some y → (posI ids j 0 = none ∧ ∃ y0, S.hp[j]? = some y0 ∧ y = mapHO (killM1 ids fix) y0) ∨ ∃ (k : Nat) (y0 : HO), ids[k]? = some j ∧ out[k]? = some y0 ∧ y = mapHO (backM1 ids) y0 := fun {j y} h => by
    cases e : posI ids j 0 with
    | none =>
      rw [hp2_other e, Option.map_eq_some_iff] at h
      obtain ⟨y0, h0, rfl⟩ := h
      exact .inl ⟨rfl, y0, h0, rfl⟩
    | some k =>
      rw [hp2_at (pos e), Option.map_eq_some_iff] at h
      obtain ⟨y0, h0, rfl⟩ := h
      exact .inr ⟨k, y0, pos e, h0, rfl⟩
  have hbase : Base w0 hp2 g' ρ2 w' := by
    have hbl := hB.below
    refine ⟨⟨hbl.os.trans hb.below.os, hbl.tape.trans hb.below.tape, hbl.output.trans hb.below.output, Nat.le_trans hb.below.size hbl.size, fun k hk => (hbl.block k (hnot k hk)).trans (hb.below.block k hk)⟩, hB.agree, fun b o hb' => (hB.old b o (hnot b hb')).trans (hb.old b o hb'), fun j y hy => ?_, fun i j y z b hij hy hz fy fz => ?_⟩
    · rcases cases2 hy with ⟨e, y0, h0, rfl⟩ | ⟨k, y0, hk, h0, rfl⟩
      · rw [ρ2_other e]
        exact (hb.own j y0 h0).keep hx _ hkill fun b hfb => by
          obtain ⟨k1, k2⟩ := hother (posI_none e) h0 hfb
          exact ⟨hbl.block b k2, fun o => hB.old b o k2⟩
      · rw [ρ2_at hk]
        refine ((hB.own k y0 h0).keep (GExt.refl g') _ hback (fun b _ => ⟨rfl, fun _ => rfl⟩)).reD fun b hfb => ?_
        rw [foot_map] at hfb
        exact hto b ((hB.own k y0 h0).foot_lt hfb).1
    · rcases cases2 hy with ⟨e, y0, h0, rfl⟩ | ⟨k, y0, hk, h0, rfl⟩
      · rw [ρ2_other e, foot_map] at fy
        rcases cases2 hz with ⟨e', z0, h0', rfl⟩ | ⟨k', z0, hk', h0', rfl⟩
        · rw [ρ2_other e', foot_map] at fz
          exact hb.sep i j y0 z0 b hij h0 h0' fy fz
        · rw [ρ2_at hk', foot_map] at fz
          exact (hother (posI_none e) h0 fy).2 ((hB.own k' z0 h0').foot_lt fz).1
      · rw [ρ2_at hk, foot_map] at fy
        rcases cases2 hz with ⟨e', z0, h0', rfl⟩ | ⟨k', z0, hk', h0', rfl⟩
        · rw [ρ2_other e', foot_map] at fz
          exact (hother (posI_none e') h0' fz).2 ((hB.own k y0 h0).foot_lt fy).1
        · rw [ρ2_at hk', foot_map] at fz
          exact hB.sep k k' y0 z0 b (fun e => hij (by rw [e, hk'] at hk; exact (Option.some.inj hk).symm)) h0 h0' fy fz
  have hrel : Rel w0 ⟨S.fr.map (killMP ids fix), hp2⟩ g' ρ2 a w' := ⟨hbase, hr.dead, by simp [hr.size], fun i p hp => by
    simp only [List.getElem?_map, Option.map_eq_some_iff] at hp
    obtain ⟨p, hp, rfl⟩ := hp
    rw [killMP_map]
    exact (hr.fr i p hp).map hkill⟩
  refine hK g' _ _ w' hx (hrel.put hbase (GExt.refl g') ?_ o.dst)
  rw [backMP_map]
  exact hv.map hback
theorem e_callMV {x : Operand} {xs : Array Operand} {tys : Array TypeId} {f : FuncId} [hf : FnT P f] {args : List PV} {ids fix : List Nat} {inp out : List HO} {q : PV} {b1 b2 i1 i2 c1 c2 j1 j2 k1 k2 : Nat} (hop : o.op = .call { callee := .value x, args := xs, argTypes := tys })
    (h1 : S.ev x = .val (.func (.func f) #[] #[.pointer (some ⟨b1, 0, none⟩), .pointer (some ⟨b2, 0, none⟩)])) (hj : S.ev (.tmp j1) = .hatv i1 0 b1 c1 ∧ S.ev (.tmp j2) = .hatv i2 0 b2 c2 ∧ ids[k1]? = some i1 ∧ ids[k2]? = some i2)
    (hap : apart ids = true) (hlt : ids.all (fun i => Nat.blt i S.hp.length) = true) (hin : inpM ids S.hp = inp)
    (h2 : argsLS ((xs.toList.map fun y => lendMP ids S.hp (S.ev y)) ++ [.hat k1 0, .hat k2 0]) args) (hlen : out.length = ids.length) (hc : MCalls P f inp args out fix q) :
    EStep P o S (St.put ⟨S.fr.map (killMP ids fix), putL ids (out.map (mapHO (backM1 ids))) (S.hp.map (mapHO (killM1 ids fix)))⟩ o.dst (backMP ids q)) := by
  refine e_callMG (first := []) (caps := [.hat k1 0, .hat k2 0]) hop (fun w0 g ρ a w hr => ?_) hap hlt hin h2 hlen hc
  obtain ⟨p1, p2, m1, m2⟩ := hj
  have ea : a.eval x = .func (.func f) #[] #[.pointer (some ⟨b1, 0, none⟩), .pointer (some ⟨b2, 0, none⟩)] := val_of (hr.ev x) h1
  have e1 := hr.ev (.tmp j1)
  have e2 := hr.ev (.tmp j2)
  rw [p1] at e1
  rw [p2] at e2
  have f1 : (ρ i1).blk = b1 := (show VRS1 g ρ S.hp _ (.hatv i1 0 b1 c1) from e1).2.1
  have f2 : (ρ i2).blk = b2 := (show VRS1 g ρ S.hp _ (.hatv i2 0 b2 c2) from e2).2.1
  refine ⟨#[], _, ea, ⟨rfl, fun i q hq => by simp at hq⟩, ⟨rfl, fun i q hq => ?_⟩⟩
  rcases i with _ | _ | i
  · simp only [List.getElem?_cons_zero, Option.some.injEq] at hq
    subst hq
    show _ = Value.pointer (some ⟨(ρ (getI ids k1)).blk, 0, none⟩)
    rw [getI_eq m1, f1]; rfl
  · simp only [Nat.zero_add, List.getElem?_cons_succ, List.getElem?_cons_zero, Option.some.injEq] at hq
    subst hq
    show _ = Value.pointer (some ⟨(ρ (getI ids k2)).blk, 0, none⟩)
    rw [getI_eq m2, f2]; rfl
  · simp at hq
theorem g_pin {K : Exit → St → Prop} {c : Code} (j i : Nat) (h : S.fr[j]? = some (.hat i 0)) (hk : ∀ b d, ∃ S', St.mk (S.fr.set j (.hatv i 0 b d)) S.hp = S' ∧ Goal P c K S') : Goal P c K S := by
  unfold Goal
  intro w0 g ρ a w Q hr hQ
  obtain ⟨S', rfl, hg⟩ := hk (ρ i).blk (ρ i).cap
  unfold Goal at hg
  refine hg w0 g ρ a w Q ⟨hr.base, hr.dead, by simpa using hr.size, fun k p hp => ?_⟩ hQ
  rw [List.getElem?_set] at hp
  split at hp
  · rename_i e
    subst e
    split at hp
    · cases hp
      exact ⟨hr.fr j _ h, rfl, rfl⟩
    · cases hp
  · exact hr.fr k p hp
end
section
variable {P : Program} {o : Oper} {ev : Operand → PV} {hp : List HO}
theorem ps_makeFuncV {f i1 i2 b1 b2 c1 c2 : Nat} {y1 y2 : Operand} (ho : o.op = .makeFunc (.func f) #[] #[y1, y2]) (h1 : ev y1 = .hatv i1 0 b1 c1) (h2 : ev y2 = .hatv i2 0 b2 c2) :
    PStep P o ev hp (.val (.func (.func f) #[] #[.pointer (some ⟨b1, 0, none⟩), .pointer (some ⟨b2, 0, none⟩)])) :=
  .of_run fun w0 g ρ w av hb hx => by
    have e1 : av y1 = .pointer (some ⟨b1, 0, none⟩) := by
      have := hx y1 (by simp [ho, Op.operands])
      rw [h1] at this
      obtain ⟨e, e', -⟩ := (show VRS1 g ρ hp _ (.hatv i1 0 b1 c1) from this)
      rw [e, e']
    have e2 : av y2 = .pointer (some ⟨b2, 0, none⟩) := by
      have := hx y2 (by simp [ho, Op.operands])
      rw [h2] at this
      obtain ⟨e, e', -⟩ := (show VRS1 g ρ hp _ (.hatv i2 0 b2 c2) from this)
      rw [e, e']
    refine ⟨.func (.func f) ((#[] : Array Operand).map av) ((#[y1, y2] : Array Operand).map av), ?_, ?_⟩
    · simp only [execOp, ho, Instr.makeFunc]; rfl
    · have e3 : (#[y1, y2] : Array Operand).map av = #[.pointer (some ⟨b1, 0, none⟩), .pointer (some ⟨b2, 0, none⟩)] := by simp [e1, e2]
      rw [e3, show (#[] : Array Operand).map av = #[] by simp]
      exact .of_VR (.val _)
end
end Go.Pv
