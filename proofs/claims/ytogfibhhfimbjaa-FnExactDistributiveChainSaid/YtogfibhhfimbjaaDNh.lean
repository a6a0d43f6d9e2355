/- The layer: a slice of structs, each of a number and a row that the call owns. -/
import Derived.Test.YtogfibhhfimbjaaDNe
import Derived.Test.YtogfibhhfimbjaaDNd
namespace Go.Pv
open Go
attribute [local semireducible] Go.Pv.Goal Go.Pv.Ops Go.Pv.PStep Go.Pv.EStep Go.Pv.KRets Go.Pv.PCalls Go.Pv.OpsG Go.Pv.LCalls
def killR1 (k : Nat) : PV → PV
  | .gat _ _ _ => .any
  | .gr _ _ => .any
  | p => killP1 k p
def killRA (k : Nat) : PV → PV
  | .agg l => .agg (l.map (killR1 k))
  | p => killR1 k p
def killR (k : Nat) : PV → PV
  | .tup l => .tup (l.map (killRA k))
  | .agg l => .agg (l.map (killR1 k))
  | p => killR1 k p
theorem killRA_map (n : Nat) : killRA n = mapA (killR1 n) := by funext p; cases p <;> rfl
theorem killR_map (n : Nat) (p : PV) : killR n p = mapT (killR1 n) p := by cases p <;> first | rfl | simp only [killR, mapT, killRA_map]
theorem VRS.sg_new (g : Ghost) (ρ : Nat → Loc) (hp : List HO) (e1 e2 : TypeId) (n : Nat) (rows : List (List PV)) (L : Loc) :
    VRS g (upd ρ hp.length L) (killH hp.length hp ++ [.sg e1 e2 n rows]) (.slice (some ⟨L.blk, 0, none⟩) (rows.length + n) L.cap) (.hp hp.length) := by
  have hg : (killH hp.length hp ++ [HO.sg e1 e2 n rows])[hp.length]? = some (.sg e1 e2 n rows) := by
    rw [List.getElem?_append_right (by simp [killH])]; simp [killH]
  have h : HpV (upd ρ hp.length L) (killH hp.length hp ++ [.sg e1 e2 n rows]) (.slice (some ⟨L.blk, 0, none⟩) (rows.length + n) L.cap) hp.length :=
         { sl := ⟨_, _, _, rfl⟩
           arr := fun m s' e' l' hid => absurd (hg.symm.trans hid) (by simp)
           grid := fun e1 e2 rows hid => absurd (hg.symm.trans hid) (by simp)
           pg := fun e1 e2 n rows hid => absurd (hg.symm.trans hid) (by simp)
           sg := fun f1 f2 n' rows hid => by
             have e := hg.symm.trans hid
             simp at e
             obtain ⟨-, -, rfl, rfl⟩ := e
             rw [upd_same]
           box := fun l hid => absurd (hg.symm.trans hid) (by simp) }
  exact h

section
variable {P : Program} {o : Oper} {S : St}
theorem e_makeSg {t e : TypeId} {s by_ : Nat} [ht : MkT P t e s by_ [.int .i64 0, .slice none 0 0]] {x y : Operand} {n : Int} (e2 : TypeId) (ho : o.op = .makeSlice t x y) (h1 : S.ev x = I n) (h2 : S.ev y = I n) (h0 : 0 ≤ n) (hb : n * by_ ≤ 140737488355328) (hn : n ≤ 9223372036854775807) (hs : s = 2) :
    EStep P o S (S.setObj S.hp.length (killH S.hp.length S.hp ++ [.sg e e2 n.toNat []]) o.dst (.hp S.hp.length)) := by
  subst hs
  intro w0 g ρ a w hr Q K hK
  have e1 := val_of (hr.ev x) h1
  have e2' := val_of (hr.ev y) h2
  obtain ⟨i, z, hi, hi1, hi2, hi3, hi4⟩ := ht.hi
  have hrun := run_make (P := P) w t e i z ht.hu hi hi3 .i64 .i64 n n h0 (Int.le_refl _) (by rw [hi2, Int.mul_comm]; omega) hn
  rw [hi1] at hrun
  unfold Oper.wp
  simp only [execOp, ho, e1, e2']
  rw [run_value hrun]
  have hgn : ∀ k, g w.heap.size k = none := fun k => by
    cases hk : g w.heap.size k with
    | none => rfl
    | some v => exact absurd (hr.base.agree.lt hk) (Nat.lt_irrefl _)
  have hbase := hr.base.push (x' := .sg e e2 n.toNat []) ⟨w.heap.size, n.toNat, fun _ => 0, fun _ => 0⟩ (GExt.refl g) (killP1 S.hp.length) (fun v p h => h.kill S.hp.length _ (GExt.refl g) (fun i hi => killH_push _ _ hi)) (hr.base.agree.below ((RowKit.Below.refl _ _).alloc (Nat.le_refl _) _)) ((RowKit.Below.refl _ _).alloc (Nat.le_refl _) _)
    ⟨madeCells z.cells (n.toNat * 2), fun _ => #[], ⟨Ini.own_new hr.base.below.size, heap_alloc_new w _, by simp [size_madeCells], by simp, by simp only [maxLen]; omega, fun i hi => by simp at hi, fun i r hi => by simp at hi, fun i r hi => by simp at hi, fun i r j q hi => by simp at hi, hgn, fun i o hi => by simp at hi, fun i hi => by simp at hi, fun i j hi => by simp at hi⟩⟩ (fun b hb => by
      simp only [foot] at hb
      rcases hb with rfl | ⟨i, hi, _⟩
      · exact Nat.le_refl _
      · simp at hi) (fun b hb k => rfl)
  have hvn := VRS.sg_new g ρ S.hp e e2 n.toNat [] ⟨w.heap.size, n.toNat, fun _ => 0, fun _ => 0⟩
  simp only [List.length_nil, Nat.zero_add] at hvn
  exact hK _ _ _ _ (GExt.refl g) (hr.setObj S.hp.length _ hbase (GExt.refl g) (fun i hi => killH_push _ _ hi) hvn o.dst)

theorem e_store_sg {t : TypeId} [ht : AggT P t 2] {x v : Operand} {id k i m : Nat} {e1 e2 e3 : TypeId} {n : Nat} {z0 : Value} {rows : List (List PV)} {l : List PV} (ho : o.op = .store t x v) (hd : o.dst = none) (h1 : S.ev x = .hat id i) (hh : S.hp[id]? = some (.sg e1 e2 m rows)) (hi : i = rows.length * 2) (hn : m = n + 1)
    (h2 : S.ev v = .agg [.val z0, .hp k]) (hk : S.hp[k]? = some (.arr true 1 e3 l)) (he : e3 = e2) (hone : l.all PV.one = true) (hu1 : (PV.val z0).one = true) : EStep P o S ⟨S.fr.map (killR k), ((S.hp.map (mapHO (killR1 k))).set k .gone).set id (.sg e1 e2 n (rows ++ [.val z0 :: l]))⟩ := by
  subst he
  intro w0 g ρ a w hr Q K hK
  have hne : id ≠ k := fun e => by subst e; rw [hh] at hk; cases hk
  have hidl : id < S.hp.length := (List.getElem?_eq_some_iff.1 hh).1
  have hkl : k < S.hp.length := (List.getElem?_eq_some_iff.1 hk).1
  obtain ⟨cur, rc, og⟩ := hr.base.own id _ hh
  obtain ⟨curk, ck, ok⟩ := hr.base.own k _ hk
  have ea : a.eval x = .pointer (some ⟨(ρ id).blk, i, none⟩) := by have := hr.ev x; rw [h1] at this; exact this
  obtain ⟨vs, evv, hvs2, hvv⟩ : ∃ vs : Array Value, a.eval v = .agg vs ∧ vs.size = 2 ∧ ∀ (i : Nat) (q : PV), [PV.val z0, PV.hp k][i]? = some q → VRS1 g ρ S.hp (vs.getD i undef) q := by
    have := hr.ev v; rw [h2] at this; exact this
  have e0 : vs.getD 0 undef = z0 := VR.val_inv (hvv 0 _ rfl)
  have e1' : vs.getD 1 undef = .slice (some ⟨(ρ k).blk, 0, none⟩) l.length (ρ k).cap := HpV.arr (hvv 1 _ rfl) _ _ _ _ hk
  have hu1' : z0.oneCell' = true := ((VRS1.of_VR (ρ := ρ) (hp := S.hp) (VR.val (g := g) z0)).oneCell hu1).2
  have evc : (a.eval v).cells.toList = [z0, .slice (some ⟨(ρ k).blk, 0, none⟩) l.length (ρ k).cap] := by
    have hv2 : vs = #[z0, .slice (some ⟨(ρ k).blk, 0, none⟩) l.length (ρ k).cap] := by
      apply Array.ext (by simpa using hvs2)
      intro j hj1 hj2
      have hg : vs.getD j undef = vs[j] := by simp [Array.getD_eq_getD_getElem?, hj1]
      rw [← hg]
      rcases j with _ | _ | j
      · exact e0
      · exact e1'
      · simp at hj2; omega
    rw [evv, hv2]; rfl
  have evn : (a.eval v).cells.size = 2 := by rw [← Array.length_toList, evc]; rfl
  have hic : i + 2 ≤ cur.size := by rw [og.hsz]; have := og.hcap; omega
  have hst := run_store (P := P) ht.hs (w := w) (b := (ρ id).blk) (off := i) og.hw (v := a.eval v) evn (by rw [evc]; intro u hu; simp at hu; rcases hu with rfl | rfl; exact hu1'; rfl) hic
  have hsp := getD_splice cur i (a.eval v).cells.toList (by rw [evc]; exact hic)
  have hsps := size_splice cur i (a.eval v).cells.toList (by rw [evc]; exact hic)
  have hvl : (a.eval v).cells.toList.length = 2 := by rw [evc]; rfl
  rw [hvl] at hsp hsps
  generalize hcur : (cur.toList.take i ++ (a.eval v).cells.toList ++ cur.toList.drop (i + 2)).toArray = cur' at *
  have hcat : ∀ j, cur'.getD j undef = if j = i then z0 else if j = i + 1 then .slice (some ⟨(ρ k).blk, 0, none⟩) l.length (ρ k).cap else cur.getD j undef := fun j => by
    rw [hsp j, evc]
    by_cases e : j = i
    · subst e; rw [if_pos (by omega), if_pos rfl]; simp
    · by_cases e' : j = i + 1
      · subst e'; rw [if_pos (by omega), if_neg e, if_pos rfl]; simp
      · rw [if_neg (by omega), if_neg e, if_neg e']
  let L' : Loc := ⟨(ρ id).blk, (ρ id).cap, fun j => if j = rows.length then (ρ k).blk else (ρ id).rows j, fun j => if j = rows.length then (ρ k).cap else (ρ id).caps j⟩
  have hkid : (ρ k).blk ≠ (ρ id).blk := fun e => hr.base.sep k id _ _ (ρ k).blk (Ne.symm hne) hk hh rfl (.inl e)
  have hkrow : ∀ j, j < rows.length → (ρ k).blk ≠ (ρ id).rows j := fun j hj e => hr.base.sep k id _ _ (ρ k).blk (Ne.symm hne) hk hh rfl (.inr ⟨j, hj, e⟩)
  have hgk : ∀ o, g (ρ k).blk o = none := fun o => by rw [ok.hg o]; simp
  have hnew : SgOwn g (w.setRow (ρ id).blk cur') w0.own e1 e3 n (rows ++ [.val z0 :: l]) L' cur' (fun j => if j = rows.length then curk else rc j) := by
    have hcap0 := og.hcap
    refine ⟨og.hB, setRow_heap w _ _ _ _ _ og.hw, hsps.trans og.hsz, by simp only [List.length_append, List.length_cons, List.length_nil]; show _ ≤ (ρ id).cap; omega, og.hmax, fun j hj => ?_, fun j r hj => ?_, fun j r hj => ?_, fun j r m q hj hm => ?_, og.hg, fun j o hj => ?_, fun j hj => ?_, fun j m hj hm e => ?_⟩
    · show w0.own (if j = rows.length then (ρ k).blk else (ρ id).rows j) = true
      split
      · exact ok.hB
      · simp at hj; exact og.hB' j (by omega)
    · show _ = Value.slice (some ⟨if j = rows.length then (ρ k).blk else (ρ id).rows j, 0, none⟩) r.tail.length (if j = rows.length then (ρ k).cap else (ρ id).caps j) ∧ (r.tail.length ≤ (if j = rows.length then (ρ k).cap else (ρ id).caps j) ∧ (if j = rows.length then (ρ k).cap else (ρ id).caps j) ≤ maxLen) ∧ (w.setRow (ρ id).blk cur').heap[if j = rows.length then (ρ k).blk else (ρ id).rows j]? = some (.cells (if j = rows.length then curk else rc j) e3 (0, 0)) ∧ (if j = rows.length then curk else rc j).size = (if j = rows.length then (ρ k).cap else (ρ id).caps j)
      by_cases e : j = rows.length
      · subst e
        simp at hj
        subst hj
        simp only [if_true, List.tail_cons]
        refine ⟨by rw [hcat, if_neg (by omega), if_pos (by omega)], ⟨ok.hcap, ok.hmax⟩, ?_, by rw [ok.hsz, Nat.mul_one]⟩
        rw [setRow_other w _ _ _ hkid]; exact ok.hw
      · have hj' : j < rows.length := by have := (List.getElem?_eq_some_iff.1 hj).1; simp at this; omega
        rw [List.getElem?_append_left hj'] at hj
        simp only [if_neg e]
        obtain ⟨a1, a2, a3, a4⟩ := og.hrow j r hj
        refine ⟨by rw [hcat, if_neg (by omega), if_neg (by omega)]; exact a1, a2, ?_, a4⟩
        rw [setRow_other w _ _ _ (og.hne j hj')]; exact a3
    · by_cases e : j = rows.length
      · subst e
        simp at hj
        subst hj
        refine ⟨hu1, ?_⟩
        rw [hcat, if_pos (by omega)]
        exact VR.val z0
      · have hj' : j < rows.length := by have := (List.getElem?_eq_some_iff.1 hj).1; simp at this; omega
        rw [List.getElem?_append_left hj'] at hj
        rw [hcat, if_neg (by omega), if_neg (by omega)]
        exact og.hh j r hj
    · by_cases e : j = rows.length
      · subst e
        simp at hj
        subst hj
        rw [if_pos rfl]
        have h1 := List.all_eq_true.1 hone q (List.mem_of_getElem? hm)
        exact ⟨h1, one_cell ok hm h1⟩
      · have hj' : j < rows.length := by have := (List.getElem?_eq_some_iff.1 hj).1; simp at this; omega
        rw [List.getElem?_append_left hj'] at hj
        rw [if_neg e]
        exact og.hv j r m q hj hm
    · show g (if j = rows.length then (ρ k).blk else (ρ id).rows j) o = none
      split
      · exact hgk o
      · simp at hj; exact og.hg' j o (by omega)
    · show (if j = rows.length then (ρ k).blk else (ρ id).rows j) ≠ (ρ id).blk
      split
      · exact hkid
      · simp at hj; exact og.hne j (by omega)
    · have e' : (if j = rows.length then (ρ k).blk else (ρ id).rows j) = (if m = rows.length then (ρ k).blk else (ρ id).rows m) := e
      simp at hj hm
      by_cases e1 : j = rows.length <;> by_cases e2 : m = rows.length
      · omega
      · rw [if_pos e1, if_neg e2] at e'; exact absurd e' (hkrow m (by omega))
      · rw [if_neg e1, if_pos e2] at e'; exact absurd e'.symm (hkrow j (by omega))
      · rw [if_neg e1, if_neg e2] at e'; exact og.hinj j m (by omega) (by omega) e'
  have get : ∀ (j : Nat) (y : HO), (((S.hp.map (mapHO (killR1 k))).set k .gone).set id (.sg e1 e3 n (rows ++ [.val z0 :: l])))[j]? = some y → (j = id ∧ y = .sg e1 e3 n (rows ++ [.val z0 :: l])) ∨ (j ≠ id ∧ j = k ∧ y = .gone) ∨ (j ≠ id ∧ j ≠ k ∧ ∃ y0, S.hp[j]? = some y0 ∧ mapHO (killR1 k) y0 = y) := fun j y hj => by
    by_cases e : j = id
    · subst e
      rw [List.getElem?_set_self (by simpa using hidl)] at hj
      exact .inl ⟨rfl, (Option.some.inj hj).symm⟩
    · rw [List.getElem?_set_ne (Ne.symm e)] at hj
      by_cases e' : j = k
      · subst e'
        rw [List.getElem?_set_self (by simpa using hkl)] at hj
        exact .inr (.inl ⟨e, rfl, (Option.some.inj hj).symm⟩)
      · rw [List.getElem?_set_ne (Ne.symm e'), List.getElem?_map] at hj
        exact .inr (.inr ⟨e, e', by simpa [Option.map_eq_some_iff] using hj⟩)
  have hφ : ∀ u p, VRS1 g ρ S.hp u p → VRS1 g (upd ρ id L') (((S.hp.map (mapHO (killR1 k))).set k .gone).set id (.sg e1 e3 n (rows ++ [.val z0 :: l]))) u (killR1 k p) := fun u p hu => by
    have blk : ∀ j, (upd ρ id L' j).blk = (ρ j).blk ∧ (upd ρ id L' j).cap = (ρ j).cap := fun j => by
      by_cases e : j = id
      · subst e; rw [upd_same]; exact ⟨rfl, rfl⟩
      · rw [upd_ne _ _ e]; exact ⟨rfl, rfl⟩
    have keyH : ∀ {j}, j ≠ k → HpV ρ S.hp u j → HpV (upd ρ id L') (((S.hp.map (mapHO (killR1 k))).set k .gone).set id (.sg e1 e3 n (rows ++ [.val z0 :: l]))) u j := fun {j} hjk h =>
      { sl := h.sl
        arr := fun m s e l' hj => by
          rw [(blk j).1, (blk j).2]
          rcases get j _ hj with ⟨-, h'⟩ | ⟨-, -, h'⟩ | ⟨-, -, y0, h', e'⟩
          · cases h'
          · cases h'
          · exact h.arr _ _ _ _ (mapHO_arr (x := some y0) (φ := killR1 k) (by rw [Option.map_some, e']) ▸ h')
        grid := fun f1 f2 rows' hj => by
          rw [(blk j).1, (blk j).2]
          rcases get j _ hj with ⟨-, h'⟩ | ⟨-, -, h'⟩ | ⟨-, -, y0, h', e'⟩
          · cases h'
          · cases h'
          · exact h.grid _ _ _ (mapHO_grid (x := some y0) (φ := killR1 k) (by rw [Option.map_some, e']) ▸ h')
        sg := fun f1 f2 n' rows' hj => by
          rw [(blk j).1, (blk j).2]
          rcases get j _ hj with ⟨rfl, h'⟩ | ⟨-, -, h'⟩ | ⟨-, -, y0, h', e'⟩
          · cases h'; rw [h.sg _ _ _ _ hh]; congr 1; simp only [List.length_append, List.length_cons, List.length_nil]; omega
          · cases h'
          · exact h.sg _ _ _ _ (mapHO_sg (x := some y0) (φ := killR1 k) (by rw [Option.map_some, e']) ▸ h')
        pg := fun f1 f2 n' rows' hj => by
          rw [(blk j).1, (blk j).2]
          rcases get j _ hj with ⟨rfl, h'⟩ | ⟨-, -, h'⟩ | ⟨-, -, y0, h', e'⟩
          · cases h'
          · cases h'
          · exact h.pg _ _ _ _ (mapHO_pg (x := some y0) (φ := killR1 k) (by rw [Option.map_some, e']) ▸ h')
        box := fun l' hj => by
          rw [(blk j).1, (blk j).2]
          rcases get j _ hj with ⟨-, h'⟩ | ⟨-, -, h'⟩ | ⟨-, -, y0, h', e'⟩
          · cases h'
          · cases h'
          · obtain ⟨l0, h0, hl⟩ := mapHO_box (x := some y0) (φ := killR1 k) (by rw [Option.map_some, e'])
            rw [← hl]; exact h.box _ (h0 ▸ h') }
    cases p with
    | hp j =>
      simp only [killR1, killP1]
      cases hb : (j == k) with
      | true => exact .any u
      | false => exact keyH (by simpa using hb) hu
    | hpv j b c =>
      simp only [killR1, killP1]
      cases hb : (j == k) with
      | true => exact .any u
      | false => exact ⟨keyH (by simpa using hb) hu.1, by rw [(blk j).1, (blk j).2]; exact hu.2⟩
    | hat j m =>
      simp only [killR1, killP1]
      cases hb : (j == k) with
      | true => exact .any u
      | false => show u = _; rw [(blk j).1]; exact hu
    | hatv j m b c =>
      simp only [killR1, killP1]
      cases hb : (j == k) with
      | true => exact .any u
      | false => show u = _ ∧ _; rw [(blk j).1, (blk j).2]; exact hu
    | gr j m => exact .any u
    | gat j m q => exact .any u
    | _ => exact hu
  have hbase : Base w0 (((S.hp.map (mapHO (killR1 k))).set k .gone).set id (.sg e1 e3 n (rows ++ [.val z0 :: l]))) g (upd ρ id L') (w.setRow (ρ id).blk cur') := by
    have hfn : ∀ b, foot (.sg e1 e3 n (rows ++ [.val z0 :: l])) L' b → foot (.sg e1 e3 m rows) (ρ id) b ∨ foot (.arr true 1 e3 l) (ρ k) b := fun b hb => by
      simp only [foot] at hb ⊢
      rcases hb with h | ⟨j, hj, h⟩
      · exact .inl (.inl h)
      · have h : b = if j = rows.length then (ρ k).blk else (ρ id).rows j := h
        split at h
        · exact .inr h
        · simp at hj; exact .inl (.inr ⟨j, by omega, h⟩)
    have one : ∀ (j m : Nat) (y z : HO) (b : Nat), j ≠ m → j = id → (((S.hp.map (mapHO (killR1 k))).set k .gone).set id (.sg e1 e3 n (rows ++ [.val z0 :: l])))[j]? = some y → (((S.hp.map (mapHO (killR1 k))).set k .gone).set id (.sg e1 e3 n (rows ++ [.val z0 :: l])))[m]? = some z → foot y (upd ρ id L' j) b → foot z (upd ρ id L' m) b → False := by
      intro j m y z b hjm e hy hz fy fz
      subst e
      rcases get j y hy with ⟨-, rfl⟩ | ⟨h', -⟩ | ⟨h', -⟩
      · rw [upd_same] at fy
        rw [upd_ne _ _ (Ne.symm hjm)] at fz
        rcases get m z hz with ⟨h', -⟩ | ⟨-, -, rfl⟩ | ⟨-, hmk, z0, hz0, rfl⟩
        · exact hjm h'.symm
        · exact fz
        · rw [foot_map] at fz
          rcases hfn b fy with f | f
          · exact hr.base.sep j m _ _ b hjm hh hz0 f fz
          · exact hr.base.sep k m _ _ b (Ne.symm hmk) hk hz0 f fz
      · exact absurd rfl h'
      · exact absurd rfl h'
    refine ⟨hr.base.below.setRow og.hB cur', hr.base.agree.setRow og.hg cur', hr.base.old, fun j y hj => ?_, fun j m y z b hjm hy hz fy fz => ?_⟩
    · rcases get j y hj with ⟨rfl, rfl⟩ | ⟨-, -, rfl⟩ | ⟨hj1, hj2, y0, hy0, rfl⟩
      · rw [upd_same]; exact ⟨_, _, hnew⟩
      · trivial
      · rw [upd_ne _ _ hj1]
        exact (hr.base.own j y0 hy0).keep (GExt.refl g) (killR1 k) hφ fun b hb => ⟨setRow_other w _ _ _ (fun e => hr.base.sep j id _ _ b hj1 hy0 hh hb (.inl e)), fun _ => rfl⟩
    · by_cases e : j = id
      · exact one j m y z b hjm e hy hz fy fz
      · by_cases e' : m = id
        · exact one m j z y b (Ne.symm hjm) e' hz hy fz fy
        · rw [upd_ne _ _ e] at fy
          rw [upd_ne _ _ e'] at fz
          rcases get j y hy with ⟨h', -⟩ | ⟨-, -, rfl⟩ | ⟨-, -, y0, hy0, rfl⟩
          · exact e h'
          · exact fy
          · rcases get m z hz with ⟨h', -⟩ | ⟨-, -, rfl⟩ | ⟨-, -, z0, hz0, rfl⟩
            · exact e' h'
            · exact fz
            · rw [foot_map] at fy fz
              exact hr.base.sep j m y0 z0 b hjm hy0 hz0 fy fz
  unfold Oper.wp
  have hrun : (execOp a.eval o).run P w = .ok .skip (w.setRow (ρ id).blk cur') := by
    simp only [execOp, ho, ea]
    rw [Sem.run_bind, hst]; rfl
  rw [hrun]
  simp only [Oper.upon, hd]
  exact hK g _ a _ (GExt.refl g) ⟨hbase, hr.dead, by simp [hr.size], fun j p hp => by
    simp only [List.getElem?_map, Option.map_eq_some_iff] at hp
    obtain ⟨p, hp, rfl⟩ := hp
    rw [killR_map]
    exact (hr.fr j p hp).map hφ⟩
/-- A store into a struct's number. -/
theorem e_store_sg0 {t : TypeId} [ht : CellT P t] {x v : Operand} {id i k : Nat} {e1 e2 : TypeId} {n : Nat} {rows : List (List PV)} {r : List PV} {h0 p : PV} (ho : o.op = .store t x v) (hd : o.dst = none) (h1 : S.ev x = .hat id k) (hh : S.hp[id]? = some (.sg e1 e2 n rows))
    (hk : k = i * 2) (hr : rows[i]? = some (h0 :: r)) (h2 : view S.hp (S.ev v) = p) (hp1 : p.one = true) : EStep P o S ⟨S.fr, S.hp.set id (.sg e1 e2 n (rows.set i (p :: r)))⟩ := by
  subst hk
  have hi : i < rows.length := (List.getElem?_eq_some_iff.1 hr).1
  have hrows : ∀ (k : Nat) (r' : List PV), (rows.set i (p :: r))[k]? = some r' → ∃ r'' : List PV, rows[k]? = some r'' ∧ r''.tail.length = r'.tail.length := fun k r' hk => by
    rw [List.getElem?_set] at hk
    split at hk
    · rename_i e; subst e
      simp only [Option.some.injEq] at hk
      subst hk
      exact ⟨_, hr, rfl⟩
    · exact ⟨r', hk, rfl⟩
  refine EStep.of_store ht.hs ho hd hh (fun m s e l h => by cases h) (fun e1' e2' rows' h => by cases h) (fun e1 e2 n rows h => by cases h) (fun L b h => by simpa [foot] using h) (fun w0 g ρ a w hrel _ => ?_) (fun l h => by cases h) (fun e1' e2' n' rows' h => by cases h; exact ⟨_, _, _, rfl, by simp, hrows⟩)
  obtain ⟨cur, rc, og⟩ := hrel.base.own id _ hh
  have ea : a.eval x = .pointer (some ⟨(ρ id).blk, i * 2, none⟩) := by have := hrel.ev x; rw [h1] at this; exact this
  have ev := hrel.base.view (hrel.ev v)
  rw [h2] at ev
  obtain ⟨hc1, hc2⟩ := ev.oneCell hp1
  have hcap := og.hcap
  refine ⟨_, i * 2, cur, e1, ea, .inl rfl, og.hB, og.hw, og.hg, by rw [og.hsz]; omega, by rw [hc1]; rfl, by rw [hc1]; simpa using hc2, fun cur' hs' hk' => ?_⟩
  refine ⟨cur', rc, og.hB, setRow_heap w _ _ _ _ _ og.hw, hs'.trans og.hsz, by simpa using og.hcap, og.hmax, fun k hk => og.hB' k (by simpa using hk), fun k r' hk => ?_, fun k r' hk => ?_, fun k r' m q hk hm => ?_, og.hg, fun k o hk => og.hg' k o (by simpa using hk), fun k hk => og.hne k (by simpa using hk), fun k m hk hm => og.hinj k m (by simpa using hk) (by simpa using hm)⟩
  · have hkl : k < rows.length := by simpa using (List.getElem?_eq_some_iff.1 hk).1
    rw [hk' (k * 2 + 1), if_neg (by omega)]
    have key : ∃ r'', rows[k]? = some r'' ∧ r''.tail = r'.tail := by
      by_cases e : k = i
      · subst e
        rw [List.getElem?_set_self hi] at hk
        cases hk
        exact ⟨_, hr, rfl⟩
      · rw [List.getElem?_set_ne (Ne.symm e)] at hk
        exact ⟨r', hk, rfl⟩
    obtain ⟨r'', hk2, het⟩ := key
    obtain ⟨b1, b2, b3, b4⟩ := og.hrow k r'' hk2
    rw [het] at b1 b2
    exact ⟨b1, b2, by rw [setRow_other w _ _ _ (og.hne k hkl)]; exact b3, b4⟩
  · by_cases e : k = i
    · subst e
      rw [List.getElem?_set_self hi] at hk
      cases hk
      rw [hk', if_pos (by omega)]
      refine ⟨hp1, ?_⟩
      rw [hc1]
      simpa using ev
    · rw [List.getElem?_set_ne (Ne.symm e)] at hk
      rw [hk', if_neg (by omega)]
      exact og.hh k r' hk
  · by_cases e : k = i
    · subst e
      rw [List.getElem?_set_self hi] at hk
      cases hk
      exact og.hv k _ m q hr hm
    · rw [List.getElem?_set_ne (Ne.symm e)] at hk
      exact og.hv k r' m q hk hm

/-- A call that is lent the row of struct i. -/
theorem e_callLsg {x : Operand} {xs : Array Operand} {tys : Array TypeId} {f : FuncId} [hf : FnT P f] {args : List PV} {n m i : Nat} {e1 e2 : TypeId} {rows : List (List PV)} {r r' : List PV} {h0 : PV} {q : PV} {y : Operand} {ys : List Operand} (hop : o.op = .call { callee := .value x, args := xs, argTypes := tys }) (h1 : S.ev x = .fn f [] []) (hxs : xs.toList = y :: ys)
    (hn : S.hp[n]? = some (.sg e1 e2 m rows)) (hy : S.ev y = .gr n i) (hr' : rows[i]? = some (h0 :: r)) (h2 : argsLe (ys.map fun z => view S.hp (S.ev z)) args) (hone : r'.all PV.one = true) (hlen : r'.length = r.length)
    (hc : LCalls P f (.arr true 1 e2 r) (.hp 0 :: args) (.arr true 1 e2 r') q) (hnp : ∀ p ∈ args, ∀ g ρ hp v, VR g v p → VRS g ρ hp v p) :
    EStep P o S (St.put ⟨S.fr.map (krowP n), (S.hp.map (mapHO (krow1 n))).set n (.sg e1 e2 m (rows.set i (h0 :: r')))⟩ o.dst q) := by
  intro w0 g ρ a w hr Q K hK
  have hb := hr.base
  have ex := hr.ev x
  rw [h1] at ex
  obtain ⟨fs, cs, ea, l1, l2, -, -⟩ := VR.fn_inv ex
  have hfs : fs = #[] := Array.eq_empty_of_size_eq_zero l1
  have hcs : cs = #[] := Array.eq_empty_of_size_eq_zero l2
  subst hfs; subst hcs
  obtain ⟨cur, rc, og⟩ := hb.own n _ hn
  have hi : i < rows.length := (List.getElem?_eq_some_iff.1 hr').1
  obtain ⟨a1, a2, a3, a4⟩ := og.hrow i _ hr'
  simp only [List.tail_cons] at a1 a2
  unfold Oper.wp
  rw [run_call hop ea]
  let L : Loc := ⟨(ρ n).rows i, (ρ n).caps i, fun _ => 0, fun _ => 0⟩
  have hrowArr : HOwn g (fun _ => L) [.arr true 1 e2 r] w (fun _ => true) (.arr true 1 e2 r) L := by
    refine ⟨rc i, fun j => [r.getD j .any], ⟨by omega, rfl, a2.1, a2.2, a3, by rw [a4, Nat.mul_one], fun j p hj => ?_, fun j k p hj hk => ?_, fun o' => ?_⟩⟩
    · have := (og.hv i _ j p hr' hj).1
      simp [List.getD_eq_getElem?_getD, hj, flat_one this]
    · have hk0 : k = 0 := by rcases k with _ | k; rfl; simp at hk
      subst hk0
      simp only [List.getElem?_cons_zero, Option.some.injEq] at hk
      have hjq : r[j]? = some p := by rw [← hk]; simp [hj]
      simpa using (og.hv i _ j p hr' hjq).2
    · rw [og.hg' i o' hi]; simp
  have hyv : a.eval y = .slice (some ⟨(ρ n).rows i, 0, none⟩) r.length ((ρ n).caps i) := by
    have := hr.ev y; rw [hy] at this; exact GrV.sg this _ _ _ _ _ hn hr'
  have hargs : VRSl g (fun _ => L) [.arr true 1 e2 r] ((#[] : Array Value) ++ xs.map a.eval ++ #[]).toList (.hp 0 :: args) := by
    have e : ((#[] : Array Value) ++ xs.map a.eval ++ #[]).toList = a.eval y :: ys.map a.eval := by simp [hxs]
    rw [e]
    have hys : VRl g (ys.map a.eval) args := VRl.le h2 ⟨by simp, fun j q hq => by
      simp only [List.getElem?_map, Option.map_eq_some_iff] at hq
      obtain ⟨z, hz, rfl⟩ := hq
      have : (ys.map a.eval).getD j undef = a.eval z := by simp [List.getD_eq_getElem?_getD, hz]
      rw [this]; exact hb.view (hr.ev z)⟩
    refine ⟨by have := hys.1; simp at this ⊢; exact this, fun j q hq => ?_⟩
    rcases j with _ | j
    · simp at hq; subst hq
      show HpV _ _ _ _
      simp only [List.getD_cons_zero]
      rw [hyv]
      exact { sl := ⟨_, _, _, rfl⟩, arr := fun m s e l hh => by simp at hh; obtain ⟨-, -, -, rfl⟩ := hh; rfl, grid := fun e1 e2 rows hh => by simp at hh, sg := fun e1 e2 m rows hh => by simp at hh, pg := fun e1 e2 m rows hh => by simp at hh, box := fun l hh => by simp at hh }
    · simp only [List.getElem?_cons_succ] at hq
      simp only [List.getD_cons_succ]
      exact hnp q (List.mem_of_getElem? hq) _ _ _ _ (hys.2 j q hq)
  have := hc g w L _ hb.agree hrowArr hargs
  rw [Array.toArray_toList] at this
  refine this.mono fun e w' h => ?_
  obtain ⟨v, g', L', rfl, hx, hold, hbl, hag, ⟨curi, ci, oi⟩, hb1, hc1, hv⟩ := h
  have hb1' : L'.blk = (ρ n).rows i := hb1
  have hc1' : L'.cap = (ρ n).caps i := hc1
  have hown : ∀ b, Ini.own ⟨w, g, footB (.arr true 1 e2 r) L⟩ b = true → b = (ρ n).rows i ∨ w.heap.size ≤ b := fun b hb' => by
    unfold Ini.own at hb'
    rw [Bool.or_eq_true] at hb'
    rcases hb' with h | h
    · right; simpa using h
    · left
      have h' : footB (.arr true 1 e2 r) L b = true := h
      exact footB_iff.1 h'
  have hlt : ∀ b, foot (.sg e1 e2 m rows) (ρ n) b → b < w.heap.size := fun b h => ((hb.own n _ hn).foot_lt h).2
  have hnot : ∀ b, b < w.heap.size → b ≠ (ρ n).rows i → ¬ Ini.own ⟨w, g, footB (.arr true 1 e2 r) L⟩ b = true := fun b hb1 hb2 hb3 => by
    rcases hown b hb3 with h | h
    · exact hb2 h
    · omega
  have hkeepb : ∀ b, b < w.heap.size → b ≠ (ρ n).rows i → w'.heap[b]? = w.heap[b]? ∧ ∀ o, g' b o = g b o := fun b h1 h2 => ⟨hbl.block b (hnot b h1 h2), fun o => hold b o (hnot b h1 h2)⟩
  have hgrid : SgOwn g' w' w0.own e1 e2 m (rows.set i (h0 :: r')) (ρ n) cur (fun j => if j = i then curi else rc j) := by
    have hl : (rows.set i (h0 :: r')).length = rows.length := by simp
    have hblk := hkeepb (ρ n).blk (hlt _ (.inl rfl)) (fun e => og.hne i hi e.symm)
    have hrows : ∀ j, j < rows.length → j ≠ i → w'.heap[(ρ n).rows j]? = w.heap[(ρ n).rows j]? ∧ ∀ o, g' ((ρ n).rows j) o = g ((ρ n).rows j) o := fun j hj hne => hkeepb _ (hlt _ (.inr ⟨j, hj, rfl⟩)) (fun e => hne (og.hinj j i hj hi e))
    refine ⟨og.hB, hblk.1.trans og.hw, og.hsz, by rw [hl]; exact og.hcap, og.hmax, fun j hj => og.hB' j (by simpa using hj), fun j s hj => ?_, fun j s hj => ?_, fun j s m p hj hm => ?_, fun o => (hblk.2 o).trans (og.hg o), fun j o hj => ?_, fun j hj => og.hne j (by simpa using hj), fun j m hj hm => og.hinj j m (by simpa using hj) (by simpa using hm)⟩
    · by_cases e : j = i
      · subst e
        rw [List.getElem?_set_self hi] at hj
        cases hj
        simp only [if_true]
        simp only [List.tail_cons]
        refine ⟨by rw [hlen]; exact a1, ⟨by rw [hlen]; exact a2.1, a2.2⟩, by rw [← hb1']; exact oi.hw, by rw [oi.hsz, hc1', Nat.mul_one]⟩
      · rw [List.getElem?_set_ne (Ne.symm e)] at hj
        rw [if_neg e]
        obtain ⟨b1, b2, b3, b4⟩ := og.hrow j s hj
        exact ⟨b1, b2, (hrows j (List.getElem?_eq_some_iff.1 hj).1 e).1.trans b3, b4⟩
    · by_cases e : j = i
      · subst e
        rw [List.getElem?_set_self hi] at hj
        cases hj
        exact ⟨(og.hh j _ hr').1, (og.hh j _ hr').2.mono hx⟩
      · rw [List.getElem?_set_ne (Ne.symm e)] at hj
        exact ⟨(og.hh j s hj).1, (og.hh j s hj).2.mono hx⟩
    · by_cases e : j = i
      · subst e
        rw [List.getElem?_set_self hi] at hj
        cases hj
        rw [if_pos rfl]
        have h1 := List.all_eq_true.1 hone p (List.mem_of_getElem? hm)
        exact ⟨h1, one_cell oi hm h1⟩
      · rw [List.getElem?_set_ne (Ne.symm e)] at hj
        rw [if_neg e]
        exact ⟨(og.hv j s m p hj hm).1, (og.hv j s m p hj hm).2.mono hx⟩
    · simp only [List.length_set] at hj
      by_cases e : j = i
      · subst e; rw [← hb1', oi.hg o]; simp
      · rw [(hrows j hj e).2 o]; exact og.hg' j o hj
  have hφ := fun v p (h : VRS1 g ρ S.hp v p) => VRS1.shape (ho' := .sg e1 e2 m (rows.set i (h0 :: r'))) (L' := ρ n) hx hn ⟨rfl, rfl, rfl, by simp⟩ rfl rfl h
  have hw0 : ∀ b, ¬ w0.own b = true → ¬ Ini.own ⟨w, g, footB (.arr true 1 e2 r) L⟩ b = true := fun b hb' hb2 => by
    rcases hown b hb2 with h | h
    · exact hb' (h ▸ og.hB' i hi)
    · exact hb' (Ini.own_new (Nat.le_trans hb.below.size h))
  have hbase := hb.upd hn (x' := .sg e1 e2 m (rows.set i (h0 :: r'))) (ρ n) hx (krow1 n) hφ hag ⟨hbl.os.trans hb.below.os, hbl.tape.trans hb.below.tape, hbl.output.trans hb.below.output, Nat.le_trans hb.below.size hbl.size, fun k hk => (hbl.block k (hw0 k hk)).trans (hb.below.block k hk)⟩
    (fun b o hb' => hold b o (hw0 b hb')) ⟨cur, _, hgrid⟩ (fun b hb' => by simp only [foot, List.length_set] at hb'; exact .inl hb') (fun b hb1 hb2 => hkeepb b hb1 (fun e => hb2 (.inr ⟨i, hi, e⟩)))
  have hrel : Rel w0 ⟨S.fr.map (krowP n), (S.hp.map (mapHO (krow1 n))).set n (.sg e1 e2 m (rows.set i (h0 :: r')))⟩ g' (upd ρ n (ρ n)) a w' := ⟨hbase, hr.dead, by simp [hr.size], fun j p hp => by
    simp only [List.getElem?_map, Option.map_eq_some_iff] at hp
    obtain ⟨p, hp, rfl⟩ := hp
    rw [krowP_map]
    exact (hr.fr j p hp).map hφ⟩
  exact hK g' _ _ w' hx (hrel.put hbase (GExt.refl g') (.of_VR hv) o.dst)
end

section
variable {P : Program} {o : Oper} {ev : Operand → PV} {hp : List HO}
theorem ps_len_sg {t e : TypeId} {s by_ : Nat} [ht : SlT P t e s by_] {x : Operand} {e1 e2 id n : Nat} {rows : List (List PV)} {tys : Array TypeId} (ho : o.op = .call { callee := .builtin .len, args := #[x], argTypes := tys }) (htys : tys = #[t])
    (h1 : ev x = .hp id) (hh : hp[id]? = some (.sg e1 e2 n rows)) : PStep P o ev hp (I (rows.length + n : Nat)) :=
  .of_run fun w0 g ρ w av hb hx => by
    have e1 := hx x (by simp [ho, Op.operands, Call.operands])
    subst htys
    rw [h1] at e1
    have ea := HpV.sg e1 _ _ _ _ hh
    exact ⟨.int .i64 (rows.length + n : Nat), by simp [execOp, ho, resolve, invoke, builtin, Builtin.len_, ea, run_underlying ht.hu, goInt, go_sem], .val _⟩
theorem ps_index_sg {t e : TypeId} {by_ : Nat} [ht : SlT P t e 2 by_] {x ix : Operand} {e1 e2 : TypeId} {n : Nat} {rows : List (List PV)} {i : Int} {id : Nat} (ho : o.op = .indexAddr t x ix) (h1 : ev x = .hp id)
    (hh : hp[id]? = some (.sg e1 e2 n rows)) (h2 : ev ix = I i) (h0 : 0 ≤ i) (hq : i.toNat < rows.length + n) : PStep P o ev hp (.hat id (i.toNat * 2)) :=
  .of_run fun w0 g ρ w av hb hx => by
    have e1 := hx x (by simp [ho, Op.operands])
    have e2 := val_of (hx ix (by simp [ho, Op.operands])) h2
    rw [h1] at e1
    have ea := HpV.sg e1 _ _ _ _ hh
    refine ⟨.pointer (some ⟨(ρ id).blk, i.toNat * 2, none⟩), ?_, rfl⟩
    have hi : i < (rows.length : Int) + (n : Int) := by omega
    simp [execOp, ho, ea, e2, Instr.indexAt, asIntOf, run_underlying ht.hu, ht.hs, h0, hi, Addr.add_n, go_sem]
theorem ps_load_sg {t : TypeId} [ht : CellT P t] {x : Operand} {id i k n : Nat} {e1 e2 : TypeId} {rows : List (List PV)} (ho : o.op = .load t x) (h1 : ev x = .hat id k) (hh : hp[id]? = some (.sg e1 e2 n rows)) (hk : k = i * 2 + 1) (hi : i < rows.length) : PStep P o ev hp (.gr id i) :=
  .of_run fun w0 g ρ w av hb hx => by
    subst hk
    have ea : av x = .pointer (some ⟨(ρ id).blk, i * 2 + 1, none⟩) := by have := hx x (by simp [ho, Op.operands]); rw [h1] at this; exact this
    obtain ⟨cur, rc, hown⟩ := hb.own id _ hh
    have hcap := hown.hcap
    have hc := own_load hown.hw (i := i * 2 + 1) (by rw [hown.hsz]; omega)
    refine ⟨cur.getD (i * 2 + 1) undef, ?_, (⟨⟨_, _, _, (hown.hrow i _ (List.getElem?_eq_getElem hi)).1⟩, fun e1' e2' rows' r hid hr => (by rw [hh] at hid; cases hid), fun e1' e2' k' rows' r hid hr => ?_⟩ : GrV _ _ _ _ _)⟩
    · simp only [execOp, ho, ea]
      refine run_value ?_
      unfold Instr.loadAt Instr.sureAddr loadVar
      simp only [Sem.run_bind, run_pure, Result.andThen, ht.ha]
      simp [load, Sem.run, hc]
    · rw [hh] at hid
      cases hid
      exact (hown.hrow i r hr).1
end
end Go.Pv
