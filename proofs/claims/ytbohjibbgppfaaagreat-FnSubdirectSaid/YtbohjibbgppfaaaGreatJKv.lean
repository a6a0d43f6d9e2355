/- Walks: the shortest chain of translated pairs, the reference's side. -/
import Derived.Laws.Small
import Derived.Deep.Matrix
import Derived.Test.YtbohjibbgppfaaaGreatJKo
import Derived.Test.YtbohjibbgppfaaaGreatJZb
import Derived.Test.YtbohjibbgppfaaaGreatJKd
import Derived.Test.YtbohjibbgppfaaaGreatJSq
import Derived.Test.YtbohjibbgppfaaaGreatJKh
import Derived.Test.YtbohjibbgppfaaaGreatJKb
import Derived.Test.YtbohjibbgppfaaaGreatJGf
import Derived.Test.YtbohjibbgppfaaaGreatJGb
set_option linter.unusedSectionVars false
namespace Go.Pv
open Go
attribute [local semireducible] Go.Pv.EStep
section
variable {P : Program} {o : Oper} {S : St}
theorem e_lit1N {t e : TypeId} {by_ : Nat} [ht : SlT P t e 1 by_] {zs : List Value} [hz : ZeroT P e zs] {x : Operand} {p : PV} (ho : o.op = .buildSlice t 1 #[(0, x)]) (h1 : view S.hp (S.ev x) = p) (hp1 : p.one = true) :
    EStep P o S (S.setObj S.hp.length (killH S.hp.length S.hp ++ [.arr false 1 e [p]]) o.dst (.hp S.hp.length)) :=
  e_buildSlice (ht := ht) (hz := hz) ho rfl rfl (by simp [elems, h1]) ⟨⟨[p], flat_one hp1, rfl⟩, trivial⟩ (by decide) (by decide)
end
end Go.Pv
/- Walks: the shortest chain of translated pairs, the program's side. -/
namespace Go.Proofs.YtbohjibbgppfaaaGreat
open Go Go.Pv Go.Proofs
theorem hp2 {x y : HO} {a b : List HO} (h : hpLe a b) : hpLe (x :: y :: a) (x :: y :: b) := zB rfl (zB rfl h)
end Go.Proofs.YtbohjibbgppfaaaGreat
/- The layer: a block of cells that is reached by a slice, settled when it is whole. -/
namespace Go.Pv
open Go
attribute [local semireducible] Go.Pv.Goal Go.Pv.Ops Go.Pv.PStep Go.Pv.EStep Go.Pv.KRets Go.Pv.PCalls Go.Pv.OpsG
section
variable {P : Program} {o : Oper} {ev : Operand → PV} {hp : List HO}
theorem ps_len_box {t e : TypeId} {s by_ : Nat} [ht : SlT P t e s by_] {x : Operand} {id : Nat} {l : List PV} {tys : Array TypeId} (ho : o.op = .call { callee := .builtin .len, args := #[x], argTypes := tys }) (htys : tys = #[t])
    (h1 : ev x = .hp id) (hh : hp[id]? = some (.box l)) : PStep P o ev hp (I l.length) :=
  .of_run fun w0 g ρ w av hb hx => by
    have e1 := hx x (by simp [ho, Op.operands, Call.operands])
    subst htys
    rw [h1] at e1
    have ea := (HpV.box e1 _ hh).1
    exact ⟨.int .i64 l.length, by simp [execOp, ho, resolve, invoke, builtin, Builtin.len_, ea, run_underlying ht.hu, goInt, go_sem], .val _⟩
end
def setS1 (n : Nat) (l : List PV) : PV → PV
  | .hp j => bif j == n then .sl 1 none l else .hp j
  | .hpv j b c => bif j == n then .sl 1 none l else .hpv j b c
  | p => p
def setSA (n : Nat) (l : List PV) : PV → PV
  | .agg m => .agg (m.map (setS1 n l))
  | p => setS1 n l p
def setSP (n : Nat) (l : List PV) : PV → PV
  | .tup m => .tup (m.map (setSA n l))
  | .agg m => .agg (m.map (setS1 n l))
  | p => setS1 n l p
theorem setSA_map (n : Nat) (l : List PV) : setSA n l = mapA (setS1 n l) := by funext p; cases p <;> rfl
theorem setSP_map (n : Nat) (l : List PV) (p : PV) : setSP n l p = mapT (setS1 n l) p := by cases p <;> first | rfl | simp only [setSP, mapT, setSA_map]
def setSH (n : Nat) (l : List PV) (hp : List HO) : List HO := (hp.map (mapHO (setS1 n l))).set n .gone

theorem rel_settleS {w0 : Ini} {S : St} {g : Ghost} {ρ : Nat → Loc} {a : Act} {w : World} (h : Rel w0 S g ρ a w) {n : Nat} {l : List PV} (hn : S.hp[n]? = some (.box l)) (hone : ∀ p ∈ l.map (view1 S.hp), p.one = true) :
    ∃ g', GExt g g' ∧ Rel w0 ⟨S.fr.map (setSP n (l.map (view1 S.hp))), setSH n (l.map (view1 S.hp)) S.hp⟩ g' ρ a w := by
  obtain ⟨cur, e, hown⟩ := h.base.own n _ hn
  let g' : Ghost := gset g (ρ n).blk (fun o => cur[o]?)
  have hx : GExt g g' := fun b o v hv => by
    show gset g (ρ n).blk _ b o = some v
    unfold gset
    split
    · rename_i e; subst e; rw [hown.hg] at hv; cases hv
    · exact hv
  have hag : Agree g' w := fun b o v hv => by
    have hv' : gset g (ρ n).blk (fun o => cur[o]?) b o = some v := hv
    unfold gset at hv'
    split at hv'
    · rename_i e; subst e
      rw [cell_of_row _ _ _ _ _ _ hown.hw]; exact hv'
    · exact h.base.agree b o v hv'
  have hlt : n < S.hp.length := (List.getElem?_eq_some_iff.1 hn).1
  have back : ∀ (i : Nat) (y : HO), ((S.hp.map (mapHO (setS1 n (l.map (view1 S.hp))))).set n .gone)[i]? = some y → y = .gone ∨ (S.hp[i]?).map (mapHO (setS1 n (l.map (view1 S.hp)))) = some y := fun i y hi => by
    rw [List.getElem?_set] at hi
    split at hi
    · split at hi
      · left; simpa using hi.symm
      · cases hi
    · right; rwa [List.getElem?_map] at hi
  have hφ : ∀ v p, VRS1 g ρ S.hp v p → VRS1 g' ρ ((S.hp.map (mapHO (setS1 n (l.map (view1 S.hp))))).set n .gone) v (setS1 n (l.map (view1 S.hp)) p) := fun v p hv => by
    have keyH : ∀ {j}, HpV ρ S.hp v j → HpV ρ ((S.hp.map (mapHO (setS1 n (l.map (view1 S.hp))))).set n .gone) v j := fun {j} hv =>
      { sl := hv.sl
        arr := fun m s e l' hid => by
          rcases back _ _ hid with h' | h'
          · cases h'
          · exact hv.arr _ _ _ _ (mapHO_arr h')
        grid := fun e1 e2 rows hid => by
          rcases back _ _ hid with h' | h'
          · cases h'
          · exact hv.grid _ _ _ (mapHO_grid h')
        sg := fun e1 e2 n rows hid => by
          rcases back _ _ hid with h' | h'
          · cases h'
          · exact hv.sg _ _ _ _ (mapHO_sg h')
        pg := fun e1 e2 n rows hid => by
          rcases back _ _ hid with h' | h'
          · cases h'
          · exact hv.pg _ _ _ _ (mapHO_pg h')
        box := fun l' hid => by
          rcases back _ _ hid with h' | h'
          · cases h'
          · obtain ⟨l0, h0, hl⟩ := mapHO_box h'
            rw [← hl]; exact hv.box _ h0 }
    have keyS : HpV ρ S.hp v n → VR g' v (.sl 1 none (l.map (view1 S.hp))) := fun hv => by
      obtain ⟨e0, h1, h2⟩ := hv.box _ hn
      have hll : (l.map (view1 S.hp)).length = l.length := List.length_map _
      rw [e0, ← hll]
      refine VR.sl 1 none _ 0 _ _ (fun i => [(l.map (view1 S.hp)).getD i .any]) (fun k => cur.getD k undef) (by decide) (by simp) (by rw [hll]; exact h1) h2 (fun i p hi => ?_) (fun k hk => ?_) (fun i j q hi hq => ?_)
      · have : (l.map (view1 S.hp)).getD i .any = p := by rw [List.getD_eq_getElem?_getD, hi]; rfl
        rw [this]
        exact ⟨flat_one (hone p (List.mem_of_getElem? hi)), rfl⟩
      · show gset g (ρ n).blk _ _ _ = _
        unfold gset
        rw [if_pos rfl, Nat.zero_add]
        rw [Nat.mul_one, hll] at hk
        exact getElem?_getD (by rw [hown.hsz]; exact hk)
      · rcases j with _ | j
        · simp only [List.getElem?_cons_zero, Option.some.injEq] at hq
          rw [hll] at hi
          rw [Nat.mul_one, Nat.add_zero, ← hq, List.getD_eq_getElem?_getD, List.getElem?_map, List.getElem?_eq_getElem hi]
          exact (h.base.view1 (hown.hv i _ (List.getElem?_eq_getElem hi))).mono hx
        · simp at hq
    cases p with
    | hp j =>
      simp only [setS1]
      cases hb : (j == n) with
      | false => exact keyH hv
      | true =>
        have e : j = n := by simpa using hb
        subst e
        exact .of_VR (keyS hv)
    | hpv j b c =>
      simp only [setS1]
      cases hb : (j == n) with
      | false => exact ⟨keyH hv.1, hv.2⟩
      | true =>
        have e : j = n := by simpa using hb
        subst e
        exact .of_VR (keyS hv.1)
    | hat j i => exact hv
    | hatv j i b c => exact hv
    | gr j i =>
      refine (⟨GrV.sl hv, fun e1 e2 rows r hid hr => ?_, fun e1 e2 _n rows r hid hr => ?_⟩ : GrV _ _ _ _ _)
      rotate_left
      · rcases back _ _ hid with h' | h'
        · cases h'
        · exact GrV.sg hv _ _ _ _ _ (mapHO_sg h') hr
      rcases back _ _ hid with h' | h'
      · cases h'
      · exact GrV.grid hv _ _ _ _ (mapHO_grid h') hr
    | gat j i k => exact hv
    | _ => exact VR.mono hx hv
  have hbase := h.base.upd hn (x' := .gone) (ρ n) hx (setS1 n (l.map (view1 S.hp))) (by rw [upd_id]; exact hφ) hag h.base.below (fun b o hb => by
      show gset g (ρ n).blk _ b o = _
      unfold gset
      have hne : b ≠ (ρ n).blk := fun e => by subst e; exact hb hown.hB
      rw [if_neg hne]) trivial (fun b hb => hb.elim) (fun b hb hnf => ⟨rfl, fun o => by
      show gset g (ρ n).blk _ b o = _
      unfold gset
      have hne : b ≠ (ρ n).blk := fun e => hnf e
      rw [if_neg hne]⟩)
  rw [upd_id] at hbase
  refine ⟨g', hx, hbase, h.dead, by simpa using h.size, fun i p hp => ?_⟩
  simp only [List.getElem?_map, Option.map_eq_some_iff] at hp
  obtain ⟨p, hp, rfl⟩ := hp
  rw [setSP_map]
  exact (h.fr i p hp).map hφ
theorem g_settleS {P : Program} {K : Exit → St → Prop} {S : St} {c : Code} (n : Nat) {l l' : List PV} {S' : St} (hn : S.hp[n]? = some (.box l)) (hl : l.map (view1 S.hp) = l') (hone : ∀ p ∈ l', p.one = true) (hS : St.mk (S.fr.map (setSP n l')) (setSH n l' S.hp) = S') (hk : Goal P c K S') : Goal P c K S := by
  subst hl
  unfold Goal at hk ⊢
  intro w0 g ρ a w Q hr hQ
  obtain ⟨g', -, hr'⟩ := rel_settleS hr hn hone
  rw [hS] at hr'
  exact hk w0 g' ρ a w Q hr' hQ
end Go.Pv
/- The layer: the bytes of a text. -/
namespace Go.Pv
open Go
attribute [local semireducible] Go.Pv.Goal Go.Pv.Ops Go.Pv.PStep Go.Pv.EStep Go.Pv.KRets Go.Pv.PCalls Go.Pv.OpsG
section
variable {P : Program} {o : Oper} {ev : Operand → PV} {hp : List HO}
abbrev strP (s : ByteArray) : PV := .val (.string s)
def byteAt (s : ByteArray) (i : Nat) : Int := match s[i]? with
  | some b => (b.toNat : Int)
  | none => 0
theorem ps_len_str {t : TypeId} {x : Operand} {s : ByteArray} {tys : Array TypeId} (hu : P.underlying t = some .string) (ho : o.op = .call { callee := .builtin .len, args := #[x], argTypes := tys }) (htys : tys = #[t]) (h1 : ev x = strP s) : PStep P o ev hp (I s.size) :=
  .of_run fun w0 g ρ w av hb hx => by
    subst htys
    have e1 := val_of (hx x (by simp [ho, Op.operands, Call.operands])) h1
    exact ⟨.int .i64 s.size, by simp [execOp, ho, resolve, invoke, builtin, Builtin.len_, e1, run_underlying hu, goInt, go_sem], .val _⟩
theorem ps_index_str {t : TypeId} {x ix : Operand} {s : ByteArray} {i : Int} (hu : P.underlying t = some .string) (ho : o.op = .index t x ix) (h1 : ev x = strP s) (h2 : ev ix = I i) (h0 : 0 ≤ i) (hq : i.toNat < s.size) : PStep P o ev hp (Y (byteAt s i.toNat)) :=
  .of_run fun w0 g ρ w av hb hx => by
    have e1 := val_of (hx x (by simp [ho, Op.operands])) h1
    have e2 := val_of (hx ix (by simp [ho, Op.operands])) h2
    have e3 : s[i.toNat]? = some s[i.toNat] := getElem?_pos s i.toNat hq
    refine ⟨.int .u8 (byteAt s i.toNat), ?_, .val _⟩
    unfold byteAt
    rw [e3]
    simp [execOp, ho, e1, e2, Instr.index, asIntOf, run_underlying hu, h0, e3, go_sem]
theorem ps_subY {t rt : TypeId} {x y : Operand} {a b : Int} (ho : o.op = .binOp .sub t x y rt) (h1 : ev x = Y a) (h2 : ev y = Y b) : PStep P o ev hp (Y (IntKind.u8.wrap (a - b))) := ps_bin ho h1 h2 fun w => by simp [go_sem]
end
end Go.Pv
/- Plain: products of algebras. -/
namespace Go.Proofs.YtbohjibbgppfaaaGreat
open Go Go.Pv Go.Proofs
def sameT (A B : List OpD) : Prop := A.map (fun f => f.ar) = B.map (fun f => f.ar)
theorem sameT.len {A B : List OpD} (h : sameT A B) : A.length = B.length := by
  have := congrArg List.length h
  simpa using this
theorem sameT.at {A B : List OpD} (h : sameT A B) (i : Nat) : (A.getD i default).ar = (B.getD i default).ar := by
  have h1 : (A.map (fun f => f.ar)).getD i (default : OpD).ar = (B.map (fun f => f.ar)).getD i (default : OpD).ar := by rw [h]
  simp only [List.getD_eq_getElem?_getD, List.getElem?_map] at h1 ⊢
  cases ha : A[i]? <;> cases hb : B[i]? <;> simp_all
end Go.Proofs.YtbohjibbgppfaaaGreat
/- Walks: the program's clones, whole. -/
namespace Go.Proofs.YtbohjibbgppfaaaGreat
open Go Go.Pv Go.Proofs
theorem entOk.small {n size : Nat} (hn : n ≤ 8) {E : List Ent} (h : ∀ c ∈ E, entOk n size c) : smallE E := fun c hc x hx => by
  have := (h c hc).2 x hx
  omega
end Go.Proofs.YtbohjibbgppfaaaGreat
/- Walks: the ternary term functions of a small algebra, on both sides, with what is known of them. -/
namespace Go.Proofs.YtbohjibbgppfaaaGreat
open Go Go.Pv Go.Proofs
structure CT (n : Nat) (ops : List OpD) (T : List (List Int)) : Prop where
  n0 : 0 < n
  n3 : n ≤ 3
  ops4 : ops.length ≤ 4
  op : ∀ f ∈ ops, opOk n f = true
  len0 : 0 < T.length
  len : T.length ≤ 60
  row : ∀ t ∈ T, t.length = n ^ 3 ∧ ∀ x ∈ t, 0 ≤ x ∧ x < (n : Int)
  nd : T.Nodup
  prj : ∀ p, p < 3 → prjL n 3 p ∈ T
  clo : closedT n (n ^ 3) ops T T.length
theorem CT.lenOk {n : Nat} {ops : List OpD} {T : List (List Int)} (h : CT n ops T) : lenOk T := ⟨by have := h.len; omega, fun t ht => by
  have h27 : n ^ 3 ≤ 27 := Nat.pow_le_pow_left h.n3 3
  rw [(h.row t ht).1]; omega⟩
end Go.Proofs.YtbohjibbgppfaaaGreat
/- Walks: operations that the law owns, with their rows: made, marked. -/
namespace Go.Proofs.YtbohjibbgppfaaaGreat
open Go Go.Pv Go.Proofs

abbrev rowO (f : OpD) : List Int := f.ar :: f.tb
abbrev rowsO (L : List OpD) : List (List Int) := L.map rowO
abbrev sgI (rows : List (List Int)) : HO := .sg 51 3 0 (rows.map fun r => r.map I)
theorem rowsO_view (L : List OpD) : (PV.sl 2 none (((rowsO L).map fun r => r.map I).map sgP)) = opsP L := by
  rw [List.map_map, List.map_map]; rfl
theorem le_algG (n : Int) (L : List OpD) : (PV.agg [I n, PV.sl 2 none (((rowsO L).map fun r => r.map I).map sgP)]).le (algP n L) := by rw [rowsO_view]; exact PV.le_refl _
end Go.Proofs.YtbohjibbgppfaaaGreat
/- What an argument reads as, by value: numbers, lists of numbers, rows of them, a struct of rows. -/
namespace Go.Pv
open Go Go.ChangeShapes Go.WideShapes Go.RowKit Go.Deep

def gW (W : World) : Ghost := fun b o => W.cell? ⟨b, o, none⟩
theorem gW_agree (W : World) : Agree (gW W) W := fun _ _ _ h => h
theorem cell_spot {w : World} {a : Addr} {v : Value} (h : w.cell? a = some v) : a.spot = none := by
  unfold World.cell? at h
  split at h
  · split at h
    · cases h
    · rename_i h'; simpa using h'
  · cases h
theorem addr_eq {a : Addr} (h : a.spot = none) : a = ⟨a.block, a.off, none⟩ := by cases a; simp_all
theorem add0 (a : Addr) : a.add 0 = a := by simp [Addr.add]

end Go.Pv
