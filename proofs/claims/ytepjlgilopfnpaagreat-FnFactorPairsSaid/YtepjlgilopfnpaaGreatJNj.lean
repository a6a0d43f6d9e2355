/- The layer: literals of structs with a row that the call owns; such slices grow. -/
import Derived.Test.YtepjlgilopfnpaaGreatJKi
set_option linter.unusedSectionVars false
namespace Go.Pv
open Go
attribute [local semireducible] Go.Pv.Goal Go.Pv.Ops Go.Pv.PStep Go.Pv.EStep Go.Pv.KRets Go.Pv.PCalls Go.Pv.OpsG Go.Pv.RCalls
section
variable {P : Program} {o : Oper} {S : St}
theorem run_lit1s {t e : TypeId} {by_ : Nat} (ht : SlT P t e 2 by_) {zs : List Value} (hz : ZeroT P e zs) {x : Operand} (ho : o.op = .buildSlice t 1 #[(0, x)]) {av : Operand → Value} (h1 : (av x).cells.size = 2) (w : World) :
 ∃ cells : Array Value, (execOp av o).run P w = .ok (.value (.slice (some ⟨w.heap.size, 0, none⟩) 1 1)) (w.alloc (.cells cells e)) ∧ cells.size = 2 ∧ cells.getD 0 undef = (av x).cells.getD 0 undef ∧ cells.getD 1 undef = (av x).cells.getD 1 undef := by
 obtain ⟨cells, r1, r2, r3⟩ := run_buildSlice ht hz 1 [av x] rfl (fun v hv => by simp at hv; subst hv; exact h1) (by omega) (by omega) #[(0, av x)] rfl w
 refine ⟨cells, ?_, by simpa using r2, ?_, ?_⟩
 · have e1 : (#[(0, x)] : Array (Nat × Operand)).map (fun p => (p.1, av p.2)) = #[(0, av x)] := by simp
   simp only [execOp, ho]
   rw [e1]
   exact run_value r1
 · have := r3 0 (av x) 0 rfl (by omega)
   simpa using this
 · have := r3 0 (av x) 1 rfl (by omega)
   simpa using this
theorem agg2_val {g : Ghost} {ρ : Nat → Loc} {hp : List HO} {v : Value} {z0 : Value} {k : Nat} {e : TypeId} {l : List PV} (hk : hp[k]? = some (.arr true 1 e l)) (h : VRS g ρ hp v (.agg [.val z0, .hp k])) : v = .agg #[z0, .slice (some ⟨(ρ k).blk, 0, none⟩) l.length (ρ k).cap] := by
 obtain ⟨vs, rfl, hvs2, hvv⟩ : ∃ vs : Array Value, v = .agg vs ∧ vs.size = 2 ∧ ∀ (i : Nat) (q : PV), [PV.val z0, PV.hp k][i]? = some q → VRS1 g ρ hp (vs.getD i undef) q := h
 have e0 : vs.getD 0 undef = z0 := VR.val_inv (hvv 0 _ rfl)
 have e1 : vs.getD 1 undef = .slice (some ⟨(ρ k).blk, 0, none⟩) l.length (ρ k).cap := HpV.arr (hvv 1 _ rfl) _ _ _ _ hk
 congr 1
 apply Array.ext (by simpa using hvs2)
 intro j hj1 hj2
 have hg : vs.getD j undef = vs[j] := by simp [Array.getD_eq_getD_getElem?, hj1]
 rw [← hg]
 rcases j with _ | _ | j
 · exact e0
 · exact e1
 · simp at hj2; omega
theorem e_lit1S {t e : TypeId} {by_ : Nat} [ht : SlT P t e 2 by_] {zs : List Value} [hz : ZeroT P e zs] {x : Operand} {k : Nat} {e2 : TypeId} {z0 : Value} {l : List PV} (ho : o.op = .buildSlice t 1 #[(0, x)]) (h2 : S.ev x = .agg [.val z0, .hp k]) (hk : S.hp[k]? = some (.arr true 1 e2 l)) (hone : l.all PV.one = true) (hu1 : (PV.val z0).one = true) :
 EStep P o S (S.setObj S.hp.length (killH S.hp.length (S.hp.set k .gone) ++ [.sg e e2 0 [.val z0 :: l]]) o.dst (.hp S.hp.length)) := by
 intro w0 g ρ a w hr Q K hK
 obtain ⟨curk, ck, ok⟩ := hr.base.own k _ hk
 have ev := hr.ev x
 rw [h2] at ev
 have evv := agg2_val hk ev
 obtain ⟨cells, hrun, hsz, hc0, hc1⟩ := run_lit1s ht hz (av := a.eval) ho (by rw [evv]; rfl) w
 have hc0 : cells.getD 0 undef = z0 := by rw [hc0, evv]; rfl
 have hc1 : cells.getD 1 undef = .slice (some ⟨(ρ k).blk, 0, none⟩) l.length (ρ k).cap := by rw [hc1, evv]; rfl
 unfold Oper.wp
 rw [hrun]
 have hlen : (S.hp.set k .gone).length = S.hp.length := by simp
 have hd' := (rel_gone hr k).weaken (S' := ⟨S.fr, S.hp.set k .gone ++ [.gone]⟩) ⟨frLe_refl _, hpLe_gones _ [.gone] (by simp)⟩
 have hbl : RowKit.Below w.heap.size w (w.alloc (.cells cells e)) := (RowKit.Below.refl _ _).alloc (Nat.le_refl _) _
 have hkb : (ρ k).blk < w.heap.size := (Array.getElem?_eq_some_iff.1 ok.hw).1
 have hgn : ∀ o, g w.heap.size o = none := fun o => by
  cases hk : g w.heap.size o with
  | none => rfl
  | some v => exact absurd (hr.base.agree.lt hk) (Nat.lt_irrefl _)
 let L' : Loc := ⟨w.heap.size, 1, fun _ => (ρ k).blk, fun _ => (ρ k).cap⟩
 have hgrid : SgOwn g (w.alloc (.cells cells e)) w0.own e e2 0 [.val z0 :: l] L' cells (fun _ => curk) :=
  { hB := Ini.own_new hr.base.below.size, hw := heap_alloc_new w _, hsz := hsz, hcap := Nat.le_refl _, hmax := by simp [L', maxLen]
    hB' := fun i hi => ok.hB
    hrow := fun i r hi => by
     have h0 : i = 0 := by have := (List.getElem?_eq_some_iff.1 hi).1; simp at this; exact this
     subst h0
     simp at hi
     subst hi
     refine ⟨hc1, ⟨ok.hcap, ok.hmax⟩, ?_, by rw [ok.hsz, Nat.mul_one]⟩
     rw [hbl.block _ hkb]; exact ok.hw
    hh := fun i r hi => by
     have h0 : i = 0 := by have := (List.getElem?_eq_some_iff.1 hi).1; simp at this; exact this
     subst h0
     simp at hi
     subst hi
     refine ⟨hu1, ?_⟩
     show VR g (cells.getD 0 undef) (.val z0)
     rw [hc0]; exact .val z0
    hv := fun i r j q hi hj => by
     have h0 : i = 0 := by have := (List.getElem?_eq_some_iff.1 hi).1; simp at this; exact this
     subst h0
     simp at hi
     subst hi
     have h1 := List.all_eq_true.1 hone q (List.mem_of_getElem? hj)
     exact ⟨h1, one_cell ok hj h1⟩
    hg := hgn
    hg' := fun i o _ => by have := ok.hg o; simpa using this
    hne := fun i _ => by show (ρ k).blk ≠ w.heap.size; omega
    hinj := fun i j hi hj _ => by simp at hi hj; omega }
 have hgone : (S.hp.set k .gone ++ [HO.gone])[S.hp.length]? = some HO.gone := by rw [List.getElem?_append_right (by omega), hlen]; simp
 have hh : ∀ i, i ≠ S.hp.length → (((S.hp.set k .gone ++ [HO.gone]).map (mapHO (killP1 S.hp.length))).set S.hp.length (.sg e e2 0 [.val z0 :: l]))[i]? = ((S.hp.set k .gone ++ [HO.gone])[i]?).map (mapHO (killP1 S.hp.length)) := fun i hi => by
  rw [List.getElem?_set_ne (Ne.symm hi), List.getElem?_map]
 have hup := hd'.base.upd hgone (x' := .sg e e2 0 [.val z0 :: l]) L' (GExt.refl g) (killP1 S.hp.length) (fun v p hv => VRS1.kill S.hp.length L' (GExt.refl g) hh hv) (hr.base.agree.below hbl) (hr.base.below.step hbl) (fun _ _ _ => rfl) ⟨cells, _, hgrid⟩
  (fun b hb => by
   simp only [foot] at hb
   rcases hb with hb | ⟨i, hi, hb⟩
   · right; left; rw [hb]; exact Nat.le_refl _
   · right; right
     intro j y hj hy hf
     have hb' : b = (ρ k).blk := hb
     rcases Nat.lt_or_ge j S.hp.length with hlt | hge
     · rw [List.getElem?_append_left (by omega)] at hy
       by_cases e' : j = k
       · subst e'
         rw [List.getElem?_set_self hlt] at hy
         cases hy
         exact hf
       · rw [List.getElem?_set_ne (Ne.symm e')] at hy
         exact hr.base.sep j k y _ b e' hy hk hf (by simp only [foot]; exact hb')
     · rw [List.getElem?_eq_none (by simp; omega)] at hy; cases hy) (fun b hb _ => ⟨hbl.block b hb, fun _ => rfl⟩)
 have hat : (((S.hp.set k .gone ++ [HO.gone]).map (mapHO (killP1 S.hp.length))).set S.hp.length (.sg e e2 0 [.val z0 :: l]))[S.hp.length]? = some (.sg e e2 0 [.val z0 :: l]) := List.getElem?_set_self (by simp)
 have hv : VRS g (upd ρ S.hp.length L') (((S.hp.set k .gone ++ [HO.gone]).map (mapHO (killP1 S.hp.length))).set S.hp.length (.sg e e2 0 [.val z0 :: l])) (.slice (some ⟨w.heap.size, 0, none⟩) 1 1) (.hp S.hp.length) := by
  show HpV (upd ρ S.hp.length L') _ (.slice (some ⟨w.heap.size, 0, none⟩) 1 1) S.hp.length
  exact { sl := ⟨_, _, _, rfl⟩, arr := fun m s e' l' h => (by rw [hat] at h; cases h), grid := fun f1 f2 rows h => (by rw [hat] at h; cases h), sg := fun f1 f2 n' rows h => (by rw [hat] at h; cases h; rw [upd_same]; rfl), pg := fun f1 f2 n' rows h => (by rw [hat] at h; cases h), box := fun l' h => (by rw [hat] at h; cases h) }
 have hrel := hd'.setObj S.hp.length L' hup (GExt.refl g) hh hv o.dst
 have e1 : ((S.hp.set k .gone ++ [HO.gone]).map (mapHO (killP1 S.hp.length))).set S.hp.length (.sg e e2 0 [.val z0 :: l]) = killH S.hp.length (S.hp.set k .gone) ++ [.sg e e2 0 [.val z0 :: l]] := by
  rw [List.map_append, List.set_append_right _ _ (by simp)]
  simp [killH]
 rw [e1] at hrel
 exact hK g _ _ _ (GExt.refl g) hrel

theorem e_append_sg {t e : TypeId} {by_ : Nat} {z0 z1 : Value} [ht : MkT P t e 2 by_ [z0, z1]] {x y : Operand} {tys : Array TypeId} {id k : Nat} {e' e2 : TypeId} {rows rows2 : List (List PV)} (ho : o.op = .call { callee := .builtin .append, args := #[x, y], argTypes := tys })
 (htys : tys = #[t, t]) (h1 : S.ev x = .hp id) (hh : S.hp[id]? = some (.sg e e2 0 rows)) (h2 : S.ev y = .hp k) (hk : S.hp[k]? = some (.sg e' e2 0 rows2)) (hne : (k == id) = false)
 (hb : (rows.length + rows2.length) * by_ ≤ 140737488355328) (hm : rows.length + rows2.length ≤ 9223372036854775807) : EStep P o S (S.setObj id ((killH id (S.hp.set k .gone)).set id (.sg e e2 0 (rows ++ rows2))) o.dst (.hp id)) := by
 subst htys
 have hne : k ≠ id := by simpa using hne
 intro w0 g ρ a w hr Q K hK
 obtain ⟨cur, rc, hown⟩ := hr.base.own id _ hh
 obtain ⟨curk, rck, hownk⟩ := hr.base.own k _ hk
 have ex : a.eval x = .slice (some ⟨(ρ id).blk, 0, none⟩) rows.length (ρ id).cap := by have := hr.ev x; rw [h1] at this; exact HpV.sg this _ _ _ _ hh
 have ey : a.eval y = .slice (some ⟨(ρ k).blk, 0, none⟩) rows2.length (ρ k).cap := by have := hr.ev y; rw [h2] at this; exact HpV.sg this _ _ _ _ hk
 have hlt : id < S.hp.length := (List.getElem?_eq_some_iff.1 hh).1
 have hblt : (ρ id).blk < w.heap.size := (Array.getElem?_eq_some_iff.1 hown.hw).1
 obtain ⟨i, z, hi, hi1, hi2, hi3, hi4⟩ := ht.hi
 have c1 := hown.hcap
 have c2 := hownk.hcap
 rw [Nat.add_zero] at c1 c2
 have hzc : z.cells.size = 2 := by have := congrArg List.length hi4; simpa using this
 have hmm : rows.length + rows2.length ≤ maxLen := by simp only [maxLen]; omega
 have hsep : ∀ b, foot (.sg e e2 0 rows) (ρ id) b → foot (.sg e' e2 0 rows2) (ρ k) b → False := fun b f1 f2 => hr.base.sep id k _ _ b (Ne.symm hne) hh hk f1 f2
 let n := rows.length
 let news : List Value := curk.toList.take (rows2.length * 2)
 have hnl : news.length = rows2.length * 2 := by simp only [news, List.length_take, Array.length_toList, hownk.hsz]; omega
 have hnk : ∀ j, j < rows2.length * 2 → news[j]? = some (curk.getD j undef) := fun j hj => by
  have : j < curk.size := by rw [hownk.hsz]; omega
  simp [news, hj, this]
 have hone' : ∀ u ∈ news, u.oneCell' = true := fun u hu => by
  obtain ⟨j, hj, rfl⟩ := List.getElem_of_mem hu
  have hj2 : j < rows2.length * 2 := by rw [← hnl]; exact hj
  have e1 : news[j] = curk.getD j undef := by have := hnk j hj2; rw [List.getElem?_eq_getElem hj] at this; exact Option.some.inj this
  have hq : j / 2 < rows2.length := by omega
  rcases Nat.mod_two_eq_zero_or_one j with h | h
  · rw [e1, show j = j / 2 * 2 by omega]
    obtain ⟨h3, h4⟩ := hownk.hh (j / 2) _ (List.getElem?_eq_getElem hq)
    exact (h4.oneCell h3).2
  · rw [e1, show j = j / 2 * 2 + 1 by omega, (hownk.hrow (j / 2) _ (List.getElem?_eq_getElem hq)).1]
    rfl
 have hcellsrc : ∀ (j : Nat) (u : Value), news[j]? = some u → w.cell? ((⟨(ρ k).blk, 0, none⟩ : Addr).add j) = some u := fun j u hj => by
  have hj2 : j < rows2.length * 2 := by rw [← hnl]; exact (List.getElem?_eq_some_iff.1 hj).1
  rw [Addr.add_n, Nat.zero_add, own_load hownk.hw (by rw [hownk.hsz]; omega), ← hnk j hj2, hj]
 have hcursz := hown.hsz
 have hexec : ∀ {v : Value} {w' : World}, (Builtin.append_ #[t, t] o.type #[.slice (some ⟨(ρ id).blk, 0, none⟩) rows.length (ρ id).cap, .slice (some ⟨(ρ k).blk, 0, none⟩) rows2.length (ρ k).cap]).run P w = .ok v w' → (execOp a.eval o).run P w = .ok (.value v) w' := fun {v w'} h => by
  simp only [execOp, ho, resolve, Sem.run_bind, run_pure, Result.andThen, invoke, builtin]
  have : (#[x, y].map a.eval) = #[.slice (some ⟨(ρ id).blk, 0, none⟩) rows.length (ρ id).cap, .slice (some ⟨(ρ k).blk, 0, none⟩) rows2.length (ρ k).cap] := by simp [ex, ey]
  rw [this, h]
 -- how it ends, whichever way it goes
 suffices hend : ∃ (blk cap : Nat) (cur' : Array Value) (w' : World), (execOp a.eval o).run P w = .ok (.value (.slice (some ⟨blk, 0, none⟩) (rows.length + rows2.length) cap)) w' ∧ Agree g w' ∧ BelowL w0 w' ∧
  w0.own blk = true ∧ rows.length + rows2.length ≤ cap ∧ cap ≤ maxLen ∧ w'.heap[blk]? = some (.cells cur' e (0, 0)) ∧ cur'.size = cap * 2 ∧
  (∀ j, j < rows.length * 2 → cur'.getD j undef = cur.getD j undef) ∧ (∀ j, j < rows2.length * 2 → cur'.getD (rows.length * 2 + j) undef = curk.getD j undef) ∧ (blk = (ρ id).blk ∨ w.heap.size ≤ blk) ∧
  (∀ b, b < w.heap.size → b ≠ (ρ id).blk → w'.heap[b]? = w.heap[b]?) ∧ ∀ o, g blk o = none by
  obtain ⟨blk, cap, cur', w', hrun, hag, hbl, hB, hcap, hmax, hw', hsz', k1, k2, hblk, hkeep, hgn⟩ := hend
  unfold Oper.wp
  rw [hrun]
  have hd := rel_gone hr k
  have hh1 : (S.hp.set k .gone)[id]? = some (.sg e e2 0 rows) := by rw [List.getElem?_set_ne hne]; exact hh
  let L' : Loc := ⟨blk, cap, fun j => if j < n then (ρ id).rows j else (ρ k).rows (j - n), fun j => if j < n then (ρ id).caps j else (ρ k).caps (j - n)⟩
  have hLr : ∀ j, L'.rows j = if j < n then (ρ id).rows j else (ρ k).rows (j - n) := fun _ => rfl
  have hLc : ∀ j, L'.caps j = if j < n then (ρ id).caps j else (ρ k).caps (j - n) := fun _ => rfl
  have rlt : ∀ j, j < rows.length → (ρ id).rows j < w.heap.size := fun j hj => (Array.getElem?_eq_some_iff.1 (hown.hrow j _ (List.getElem?_eq_getElem hj)).2.2.1).1
  have rltk : ∀ j, j < rows2.length → (ρ k).rows j < w.heap.size := fun j hj => (Array.getElem?_eq_some_iff.1 (hownk.hrow j _ (List.getElem?_eq_getElem hj)).2.2.1).1
  have rne : ∀ j, j < rows2.length → (ρ k).rows j ≠ (ρ id).blk := fun j hj e => hsep _ (.inl e) (.inr ⟨j, hj, rfl⟩)
  have spl : ∀ (j : Nat) (r : List PV), (rows ++ rows2)[j]? = some r → (j < n ∧ rows[j]? = some r) ∨ (¬ j < n ∧ j - n < rows2.length ∧ rows2[j - n]? = some r) := fun j r hj => by
   by_cases hjn : j < rows.length
   · rw [List.getElem?_append_left hjn] at hj; exact .inl ⟨hjn, hj⟩
   · rw [List.getElem?_append_right (by omega)] at hj; exact .inr ⟨hjn, (List.getElem?_eq_some_iff.1 hj).1, hj⟩
  have hnew : SgOwn g w' w0.own e e2 0 (rows ++ rows2) L' cur' (fun j => if j < n then rc j else rck (j - n)) :=
   { hB := hB, hw := hw', hsz := hsz', hcap := by simpa using hcap, hmax := hmax
     hB' := fun j hj => by
      rw [hLr]
      simp only [List.length_append] at hj
      split
      · rename_i h; exact hown.hB' j h
      · rename_i h; exact hownk.hB' _ (by simp only [n] at h ⊢; omega)
     hrow := fun j r hj => by
      rcases spl j r hj with ⟨hjn, h⟩ | ⟨hjn, hj2, h⟩
      · obtain ⟨a1, a2, a3, a4⟩ := hown.hrow j r h
        rw [hLr, hLc]
        simp only [if_pos hjn]
        refine ⟨(k1 _ (by simp only [n] at hjn; omega)).trans a1, a2, ?_, a4⟩
        rw [hkeep _ (rlt j hjn) (hown.hne j hjn)]; exact a3
      · obtain ⟨a1, a2, a3, a4⟩ := hownk.hrow _ r h
        rw [hLr, hLc]
        simp only [if_neg hjn]
        refine ⟨?_, a2, ?_, a4⟩
        · have := k2 ((j - n) * 2 + 1) (by omega)
          rw [show rows.length * 2 + ((j - n) * 2 + 1) = j * 2 + 1 by simp only [n] at hjn ⊢; omega] at this
          rw [this]; exact a1
        · rw [hkeep _ (rltk _ hj2) (rne _ hj2)]; exact a3
     hh := fun j r hj => by
      rcases spl j r hj with ⟨hjn, h⟩ | ⟨hjn, hj2, h⟩
      · rw [k1 _ (by simp only [n] at hjn; omega)]; exact hown.hh j r h
      · have := k2 ((j - n) * 2) (by omega)
        rw [show rows.length * 2 + (j - n) * 2 = j * 2 by simp only [n] at hjn ⊢; omega] at this
        rw [this]; exact hownk.hh _ r h
     hv := fun j r m q hj hq => by
      rcases spl j r hj with ⟨hjn, h⟩ | ⟨hjn, hj2, h⟩
      · simp only [if_pos hjn]; exact hown.hv j r m q h hq
      · simp only [if_neg hjn]; exact hownk.hv _ r m q h hq
     hg := hgn
     hg' := fun j o hj => by
      rw [hLr]
      simp only [List.length_append] at hj
      split
      · rename_i h; exact hown.hg' j o h
      · rename_i h; exact hownk.hg' _ o (by simp only [n] at h ⊢; omega)
     hne := fun j hj => by
      rw [hLr]
      simp only [List.length_append] at hj
      show _ ≠ blk
      split
      · rename_i h
        rcases hblk with h' | h'
        · rw [h']; exact hown.hne j h
        · have := rlt j h; omega
      · rename_i h
        have hj2 : j - n < rows2.length := by simp only [n] at h ⊢; omega
        rcases hblk with h' | h'
        · rw [h']; exact rne _ hj2
        · have := rltk _ hj2; omega
     hinj := fun j m hj hm he => by
      rw [hLr, hLr] at he
      simp only [List.length_append] at hj hm
      split at he <;> split at he
      · rename_i h h'; exact hown.hinj j m h h' he
      · rename_i h h'; exact (hsep ((ρ id).rows j) (.inr ⟨j, h, rfl⟩) (.inr ⟨m - n, by simp only [n] at h' ⊢; omega, he⟩)).elim
      · rename_i h h'; exact (hsep ((ρ id).rows m) (.inr ⟨m, h', rfl⟩) (.inr ⟨j - n, by simp only [n] at h ⊢; omega, he.symm⟩)).elim
      · rename_i h h'
        have := hownk.hinj (j - n) (m - n) (by simp only [n] at h ⊢; omega) (by simp only [n] at h' ⊢; omega) he
        simp only [n] at *
        omega }
  have hhs : ∀ i, i ≠ id → ((killH id (S.hp.set k .gone)).set id (.sg e e2 0 (rows ++ rows2)))[i]? = ((S.hp.set k .gone)[i]?).map (mapHO (killP1 id)) := fun i hi => killH_set _ _ _ hi
  have hbase := hd.base.upd hh1 (x' := .sg e e2 0 (rows ++ rows2)) L' (GExt.refl g) (killP1 id) (fun v p h => h.kill id _ (GExt.refl g) hhs) hag hbl (fun _ _ _ => rfl) ⟨cur', _, hnew⟩ (fun b hb => by
   simp only [foot, List.length_append] at hb
   rcases hb with hb | ⟨j, hj, hb⟩
   · rcases hblk with h | h
     · left; left; rw [hb]; exact h
     · right; left; rw [hb]; exact h
   · rw [hLr] at hb
     split at hb
     · rename_i h; left; right; exact ⟨j, h, hb⟩
     · rename_i h
       right; right
       intro m y hm hy hf
       by_cases e1 : m = k
       · subst e1
         rw [List.getElem?_set_self (List.getElem?_eq_some_iff.1 hk).1] at hy
         cases hy
         exact hf
       · rw [List.getElem?_set_ne (Ne.symm e1)] at hy
         exact hr.base.sep m k y _ b e1 hy hk hf (.inr ⟨j - n, by simp only [n] at h ⊢; omega, hb⟩)) (fun b hb hnf => ⟨hkeep b hb (fun e => hnf (.inl e)), fun _ => rfl⟩)
  have hat : ((killH id (S.hp.set k .gone)).set id (.sg e e2 0 (rows ++ rows2)))[id]? = some (.sg e e2 0 (rows ++ rows2)) := List.getElem?_set_self (by simpa [killH] using hlt)
  have hv : VRS g (upd ρ id L') ((killH id (S.hp.set k .gone)).set id (.sg e e2 0 (rows ++ rows2))) (.slice (some ⟨blk, 0, none⟩) (rows.length + rows2.length) cap) (.hp id) := by
   show HpV (upd ρ id L') _ (.slice (some ⟨blk, 0, none⟩) (rows.length + rows2.length) cap) id
   exact { sl := ⟨_, _, _, rfl⟩, arr := fun m s e l' h => (by rw [hat] at h; cases h), grid := fun f1 f2 rows h => (by rw [hat] at h; cases h), sg := fun f1 f2 n' rows h => (by rw [hat] at h; cases h; rw [upd_same, List.length_append, Nat.add_zero]), pg := fun f1 f2 n' rows h => (by rw [hat] at h; cases h), box := fun l' h => (by rw [hat] at h; cases h) }
  exact hK _ _ _ _ (GExt.refl g) (hd.setObj id _ hbase (GExt.refl g) hhs hv o.dst)
 by_cases hroom : rows.length + rows2.length ≤ (ρ id).cap
 · -- there is room
   have hfit : rows.length * 2 + news.length ≤ cur.size := by rw [hnl, hcursz]; omega
   have hsp := getD_splice cur (rows.length * 2) news hfit
   have hsps := size_splice cur (rows.length * 2) news hfit
   have hrun := run_append_room (P := P) w t o.type e i ht.hu hi (ρ id).blk rows.length (ρ id).cap cur hown.hw ⟨(ρ k).blk, 0, none⟩ rows2.length (ρ k).cap news (by rw [hi1]; exact hnl) hcellsrc hone' hroom (by rw [hi1]; exact hfit)
   rw [hi1] at hrun
   generalize hcur : (cur.toList.take (rows.length * 2) ++ news ++ cur.toList.drop (rows.length * 2 + news.length)).toArray = cur' at *
   have k1 : ∀ j, j < rows.length * 2 → cur'.getD j undef = cur.getD j undef := fun j hj => by rw [hsp j, if_neg (by omega)]
   have k2 : ∀ j, j < rows2.length * 2 → cur'.getD (rows.length * 2 + j) undef = curk.getD j undef := fun j hj => by
    rw [hsp, if_pos (by omega), show rows.length * 2 + j - rows.length * 2 = j by omega, List.getD_eq_getElem?_getD, hnk j hj]; rfl
   have hw' := setRow_heap w (ρ id).blk cur cur' e (0, 0) hown.hw
   refine ⟨(ρ id).blk, (ρ id).cap, cur', _, hexec hrun, fun b' o' v hv => ?_, hr.base.below.setRow hown.hB cur', hown.hB, hroom, hown.hmax, hw', hsps.trans hcursz, k1, k2, .inl rfl, fun b' hb' hne => setRow_other w _ _ _ hne, hown.hg⟩
   have hne' : b' ≠ (ρ id).blk := fun e => by rw [e, hown.hg] at hv; cases hv
   rw [cell_setRow_other w _ _ ⟨b', o', none⟩ hne']; exact hr.base.agree b' o' v hv
 · -- it grows into a new block
   let olds : List Value := cur.toList.take (rows.length * 2)
   have hlcur : rows.length * 2 ≤ cur.size := by rw [hcursz]; omega
   have hol : olds.length = rows.length * 2 := by simp [olds]; omega
   have hrun := run_append_grow (P := P) w t o.type e i z ht.hu hi hi3 ⟨(ρ id).blk, 0, none⟩ rows.length (ρ id).cap olds (by rw [hi1]; exact hol) (fun j u hj => by
    rw [Addr.add_n, Nat.zero_add, cell_of_row _ _ _ _ _ _ hown.hw]
    simp only [olds] at hj
    rw [List.getElem?_take] at hj
    split at hj
    · simpa using hj
    · cases hj) ⟨(ρ k).blk, 0, none⟩ rows2.length (ρ k).cap news (by rw [hi1]; exact hnl) hcellsrc (by omega) (by omega) (growslice_fits (by omega) (by rw [hi2]; exact hb))
   have hcapge : rows.length + rows2.length ≤ grownCap w (rows.length + rows2.length) (ρ id).cap e := grownCap_ge w _ _ e
   have hcapm : grownCap w (rows.length + rows2.length) (ρ id).cap e ≤ maxLen := grownCap_le_maxLen w _ _ e hmm
   generalize hcap' : grownCap w (rows.length + rows2.length) (ρ id).cap e = cap' at *
   generalize hcur : olds.toArray ++ news.toArray ++ Builtin.zeroCells z.cells (cap' - (rows.length + rows2.length)) = cur' at *
   have hsz' : cur'.size = cap' * 2 := by
    rw [← hcur]
    simp only [Array.size_append, List.size_toArray, size_zeroCells, hzc, hol, hnl]
    omega
   have k1 : ∀ j, j < rows.length * 2 → cur'.getD j undef = cur.getD j undef := fun j hj => by
    rw [← hcur]
    have h1 : j < olds.length := by omega
    have h2 : (olds.toArray ++ news.toArray ++ Builtin.zeroCells z.cells (cap' - (rows.length + rows2.length)))[j]? = cur[j]? := by
     rw [Array.getElem?_append_left (by rw [Array.size_append, List.size_toArray, List.size_toArray]; omega), Array.getElem?_append_left (by rw [List.size_toArray]; exact h1), List.getElem?_toArray]
     simp only [olds]
     rw [List.getElem?_take_of_lt hj, Array.getElem?_toList]
    rw [Array.getD_eq_getD_getElem?, Array.getD_eq_getD_getElem?, h2]
   have k2 : ∀ j, j < rows2.length * 2 → cur'.getD (rows.length * 2 + j) undef = curk.getD j undef := fun j hj => by
    rw [← hcur]
    have h3 : rows.length * 2 + j - olds.length = j := by omega
    have h2 : (olds.toArray ++ news.toArray ++ Builtin.zeroCells z.cells (cap' - (rows.length + rows2.length)))[rows.length * 2 + j]? = news[j]? := by
     rw [Array.getElem?_append_left (by rw [Array.size_append, List.size_toArray, List.size_toArray]; omega), Array.getElem?_append_right (by rw [List.size_toArray]; omega), List.getElem?_toArray, List.size_toArray, h3]
    rw [Array.getD_eq_getD_getElem?, h2, hnk j hj]; rfl
   have hnew : (w.drew.alloc (.cells cur' e)).heap[w.heap.size]? = some (.cells cur' e (0, 0)) := heap_alloc_new w.drew _
   have hbl1 : RowKit.Below w.heap.size w (w.drew.alloc (.cells cur' e)) := (RowKit.Below.refl _ _).drew.alloc (Nat.le_refl _) _
   have hB0 := hr.base.below.size
   refine ⟨w.heap.size, cap', cur', _, hexec hrun, hr.base.agree.below hbl1, hr.base.below.step hbl1, Ini.own_new hB0, hcapge, hcapm, hnew, hsz', k1, k2, .inr (Nat.le_refl _), fun b' hb' hne => hbl1.block b' hb', fun o' => ?_⟩
   cases hgo : g w.heap.size o' with
   | none => rfl
   | some v => exact absurd (hr.base.agree.lt hgo) (Nat.lt_irrefl _)
end
end Go.Pv
