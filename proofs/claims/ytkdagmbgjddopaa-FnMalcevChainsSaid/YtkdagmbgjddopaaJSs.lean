/- What sortRows does to a row of lists, by the library's contract. -/
import Derived.Test.YtkdagmbgjddopaaJKg
import Derived.Test.YtkdagmbgjddopaaJMg
import Derived.Test.YtkdagmbgjddopaaJSt
import Derived.Test.YtkdagmbgjddopaaJKe
import Derived.Test.YtkdagmbgjddopaaJKx
import Derived.Test.YtkdagmbgjddopaaJPr
import Derived.Test.YtkdagmbgjddopaaJZb
namespace Go.Proofs.Ytkdagmbgjddopaa
open Go Go.Proofs Go.Shelf Go.RowKit Go.Lib Go.Sort

section
variable {n : Nat} (R : Nat → List Int) (B C : Nat → Nat)
def encR (i : Fin (n + 1)) : Value := .slice (some ⟨B i, 0, none⟩) (R i).length (C i)
theorem sw_other {α : Type} [Inhabited α] (enc : α → Value) (w : World) (blk off m : Nat) (dk : Array α) (os : Array Obj) (p : Addr) (hp : p.block ≠ blk) (hl : p.block < w.heap.size) : (sortWorld enc w blk off m dk os).cell? p = w.cell? p := by
  unfold sortWorld
  rw [cell?_grow _ _ _ (by rw [size_putRow]; exact hl), cell?_putRow_other _ _ _ _ _ _ (.inl hp)]; rfl
end
noncomputable def siT : TypeInfo := (Try.prog.info? 38).get (by kernel_rfl)
noncomputable def siE : TypeInfo := (Try.prog.info? 29).get (by kernel_rfl)
theorem siK (n : Nat) (h2 : 2 ≤ n) : Lib.swapperK n siE 23 = 9 := by
  have a : siE.hasPointers = true := by kernel_rfl
  have b : siE.bytes = 24 := by kernel_rfl
  have c : (n == 0) = false := by simp; omega
  have d : (n == 1) = false := by simp; omega
  simp [Lib.swapperK, a, b, c, d]
theorem swap_tiny (n : Nat) (hn : n ≤ 1) : ∃ f, Try.prog.funcs.findIdx? (·.name == "internal/reflectlite" ++ ".Swapper$" ++ toString (Lib.swapperK n siE 23)) = some f := by
  have : n = 0 ∨ n = 1 := by omega
  rcases this with rfl | rfl
  · exact ⟨111, by kernel_rfl⟩
  · exact ⟨112, by kernel_rfl⟩
end Go.Proofs.Ytkdagmbgjddopaa
/- sortRows as a call to which the rows are lent. -/
namespace Go.Proofs.Ytkdagmbgjddopaa
open Go Go.Proofs Go.Shelf Go.RowKit Go.Lib Go.Sort Go.Pv

theorem heap_grow_other (w : World) (q blk : Nat) {α : Type} [Inhabited α] (enc : α → Value) (d : Array α) (os : Array Obj) {k : Nat} (hk : k < w.heap.size) (hne : k ≠ blk) : (grow (putRow enc (Sort.ahead w q) blk 0 d) os).heap[k]? = w.heap[k]? := by
  show ((Array.modify w.heap blk _) ++ os)[k]? = _
  rw [Array.getElem?_append_left (by simpa using hk), Array.getElem?_modify]
  rw [if_neg (Ne.symm hne)]
theorem heap_grow_row (w : World) (q blk : Nat) {α : Type} [Inhabited α] (enc : α → Value) (d : Array α) (os : Array Obj) {cur : Array Value} {e : TypeId} {fz : Nat × Nat} (h : w.heap[blk]? = some (.cells cur e fz)) : (grow (putRow enc (Sort.ahead w q) blk 0 d) os).heap[blk]? = some (.cells (putCells enc 0 d cur) e fz) := by
  have hk : blk < w.heap.size := (Array.getElem?_eq_some_iff.1 h).1
  show ((Array.modify w.heap blk _) ++ os)[blk]? = _
  rw [Array.getElem?_append_left (by simpa using hk), Array.getElem?_modify, if_pos rfl, h]
  rfl
theorem putCells_at {α : Type} [Inhabited α] (enc : α → Value) (d : Array α) (cur : Array Value) (j : Nat) (hj : j < cur.size) : (putCells enc 0 d cur).getD j undef = if j < d.size then enc d[j]! else cur.getD j undef := by
  unfold putCells
  simp [Array.getD_eq_getD_getElem?, hj]
theorem size_putCells {α : Type} [Inhabited α] (enc : α → Value) (d : Array α) (cur : Array Value) : (putCells enc 0 d cur).size = cur.size := by simp [putCells]
theorem grow_below (w : World) (os : Array Obj) : RowKit.Below w.heap.size w (grow w os) :=
  ⟨rfl, rfl, rfl, by rw [size_grow]; omega, fun k hk => by
    show (w.heap ++ os)[k]? = _
    rw [Array.getElem?_append_left hk]⟩
theorem belowL_of {w0 : Ini} {w' : World} (h : RowKit.Below w0.w.heap.size w0.w w') : BelowL w0 w' := (BelowL.refl w0).step h
theorem row_cells {g : Ghost} {w : World} {D : Nat → Bool} {e1 e2 : TypeId} {rows : List (List Int)} {L : Pv.Loc} {cur : Array Value} {rc : Nat → Array Value} (hg : GridOwn g w D e1 e2 (rows.map fun r => r.map I).length (rows.map fun r => r.map I) L cur rc) {i : Nat} (hi : i < rows.length) :
    cur.getD i undef = .slice (some ⟨L.rows i, 0, none⟩) (rows.getD i []).length (L.caps i) ∧ w.heap[L.rows i]? = some (.cells (rc i) e2 (0, 0)) ∧ (rc i).size = L.caps i ∧ (rows.getD i []).length ≤ L.caps i ∧ L.caps i ≤ maxLen ∧ ∀ k, k < (rows.getD i []).length → (rc i).getD k undef = .int .i64 ((rows.getD i []).getD k 0) := by
  have hr : (rows.map fun r => r.map I)[i]? = some ((rows.getD i []).map I) := idx_gridI hi
  obtain ⟨a1, a2, a3, a4⟩ := hg.hrow i _ hr
  refine ⟨by simpa using a1, a3, a4, by simpa using a2.1, a2.2, fun k hk => ?_⟩
  have := (hg.hv i _ k (I ((rows.getD i []).getD k 0)) hr (idx_I hk)).2
  exact VR.val_inv this
end Go.Proofs.Ytkdagmbgjddopaa
/- The layer: structs with owned rows in drawn regions. -/
namespace Go.Pv
open Go
attribute [local semireducible] Go.Pv.Goal Go.Pv.Ops Go.Pv.PStep Go.Pv.EStep Go.Pv.KRets Go.Pv.PCalls Go.Pv.OpsG Go.Pv.RCalls
section
variable {P : Program} {o : Oper} {ev : Operand → PV} {hp : List HO}
theorem j_make {t e : TypeId} {s by_ : Nat} {zs : List Value} [ht : MkT P t e s by_ zs] {x y : Operand} {n : Int} {zp : PV} (ho : o.op = .makeSlice t x y) (h1 : ev x = I n) (h2 : ev y = I n) (h0 : 0 ≤ n) (hb : n * by_ ≤ 140737488355328) (hn : n ≤ 9223372036854775807)
    (hs : 0 < s) (hz : zp.flat = some (zs.map .val)) (hzs : zs.length = s) : JStep P o ev hp (some hp.length) (killH hp.length hp ++ [.arr true s e (List.replicate n.toNat zp)]) (.hp hp.length) := fun fr hfr =>
  e_make (S := ⟨fr, hp⟩) (ht := ht) ho ((hfr x (by simp [ho, Op.operands])).trans h1) ((hfr y (by simp [ho, Op.operands])).trans h2) h0 hb hn hs hz hzs
theorem j_lit1S {t e : TypeId} {by_ : Nat} [ht : SlT P t e 2 by_] {zs : List Value} [hz : ZeroT P e zs] {x : Operand} {k : Nat} {e2 : TypeId} {z0 : Value} {l : List PV} (ho : o.op = .buildSlice t 1 #[(0, x)]) (h2 : ev x = .agg [.val z0, .hp k]) (hk : hp[k]? = some (.arr true 1 e2 l)) (hone : l.all PV.one = true) (hu1 : (PV.val z0).one = true) :
    JStep P o ev hp (some hp.length) (killH hp.length (hp.set k .gone) ++ [.sg e e2 0 [.val z0 :: l]]) (.hp hp.length) := fun fr hfr =>
  e_lit1S (S := ⟨fr, hp⟩) (ht := ht) ho ((hfr x (by simp [ho, Op.operands])).trans h2) hk hone hu1
theorem j_append_sg {t e : TypeId} {by_ : Nat} {z0 z1 : Value} [ht : MkT P t e 2 by_ [z0, z1]] {x y : Operand} {tys : Array TypeId} {id k : Nat} {e' e2 : TypeId} {rows rows2 : List (List PV)} (ho : o.op = .call { callee := .builtin .append, args := #[x, y], argTypes := tys })
    (htys : tys = #[t, t]) (h1 : ev x = .hp id) (hh : hp[id]? = some (.sg e e2 0 rows)) (h2 : ev y = .hp k) (hk : hp[k]? = some (.sg e' e2 0 rows2)) (hne : (k == id) = false)
    (hb : (rows.length + rows2.length) * by_ ≤ 140737488355328) (hm : rows.length + rows2.length ≤ 9223372036854775807) : JStep P o ev hp (some id) ((killH id (hp.set k .gone)).set id (.sg e e2 0 (rows ++ rows2))) (.hp id) := fun fr hfr =>
  e_append_sg (S := ⟨fr, hp⟩) (ht := ht) ho htys ((hfr x (by simp [ho, Op.operands, Call.operands])).trans h1) hh ((hfr y (by simp [ho, Op.operands, Call.operands])).trans h2) hk hne hb hm
theorem j_appendRowS {t e : TypeId} {by_ : Nat} {z0 : Value} [ht : MkT P t e 1 by_ [z0]] {x y : Operand} {tys : Array TypeId} {id i : Nat} {e1 e2 : TypeId} {rows : List (List PV)} {h0 : PV} {r l2 : List PV} {nn : Option Bool} (ho : o.op = .call { callee := .builtin .append, args := #[x, y], argTypes := tys })
    (htys : tys = #[t, t]) (h1 : ev x = .gr id i) (hh : hp[id]? = some (.sg e1 e2 0 rows)) (he : e2 = e) (hr : rows[i]? = some (h0 :: r)) (h2 : view hp (ev y) = .sl 1 nn l2) (hone : ∀ p ∈ l2, p.one = true)
    (hb : (r.length + l2.length) * by_ ≤ 140737488355328) (hm : r.length + l2.length ≤ 9223372036854775807) : JStep P o ev hp none (hp.set id (.arr true 2 e1 (rows.map sgP))) (slR (r ++ l2)) := fun fr hfr =>
  e_appendRowS (S := ⟨fr, hp⟩) (ht := ht) ho htys ((hfr x (by simp [ho, Op.operands, Call.operands])).trans h1) hh he hr (by rw [show (St.mk fr hp).ev y = ev y from hfr y (by simp [ho, Op.operands, Call.operands])]; exact h2) hone hb hm
theorem j_store_sg0 {t : TypeId} [ht : CellT P t] {x v : Operand} {id i k : Nat} {e1 e2 : TypeId} {n : Nat} {rows : List (List PV)} {r : List PV} {h0 p : PV} (ho : o.op = .store t x v) (hd : o.dst = none) (h1 : ev x = .hat id k) (hh : hp[id]? = some (.sg e1 e2 n rows))
    (hk : k = i * 2) (hr : rows[i]? = some (h0 :: r)) (h2 : view hp (ev v) = p) (hp1 : p.one = true) : JStep P o ev hp none (hp.set id (.sg e1 e2 n (rows.set i (p :: r)))) .any :=
  j_store ho hd fun fr e1 e2 => e_store_sg0 (S := ⟨fr, hp⟩) ho hd (e1.trans h1) hh hk hr (by rw [e2]; exact h2) hp1
theorem j_store_sgr {t : TypeId} [ht : CellT P t] {x v : Operand} {id i j n : Nat} {e1 e2 : TypeId} {rows : List (List PV)} {h0 : PV} {r : List PV} {p : PV} (ho : o.op = .store t x v) (hd : o.dst = none) (h1 : ev x = .gat id i j) (hh : hp[id]? = some (.sg e1 e2 n rows))
    (hr : rows[i]? = some (h0 :: r)) (hj : j < r.length) (h2 : view hp (ev v) = p) (hp1 : p.one = true) : JStep P o ev hp none (hp.set id (.sg e1 e2 n (rows.set i (h0 :: r.set j p)))) .any :=
  j_store ho hd fun fr e1 e2 => e_store_sgr (S := ⟨fr, hp⟩) ho hd (e1.trans h1) hh hr hj (by rw [e2]; exact h2) hp1
theorem j_store_arrF {t : TypeId} [ht : CellT P t] {s : Nat} {x v : Operand} {id i j k : Nat} {e : TypeId} {l c : List PV} {p p' : PV} (ho : o.op = .store t x v) (hd : o.dst = none) (h1 : ev x = .hat id k) (hh : hp[id]? = some (.arr true s e l)) (hk : k = i * s + j) (hl : l[i]? = some (.agg c)) (hj : j < c.length)
    (h2 : view hp (ev v) = p) (hp1 : p.one = true) (hp' : p' = .agg (c.set j p)) : JStep P o ev hp none (hp.set id (.arr true s e (l.set i p'))) .any :=
  j_store ho hd fun fr e1 e2 => e_store_arrF (S := ⟨fr, hp⟩) ho hd (e1.trans h1) hh hk hl hj (by rw [e2]; exact h2) hp1 hp'
end
end Go.Pv
/- Walks: operations that the law owns, with their rows: made, marked. -/
namespace Go.Proofs.Ytkdagmbgjddopaa
open Go Go.Pv Go.Proofs

abbrev rowO (f : OpD) : List Int := f.ar :: f.tb
abbrev rowsO (L : List OpD) : List (List Int) := L.map rowO
abbrev sgI (rows : List (List Int)) : HO := .sg 79 3 0 (rows.map fun r => r.map I)
theorem rowsO_view (L : List OpD) : (PV.sl 2 none (((rowsO L).map fun r => r.map I).map sgP)) = opsP L := by
  rw [List.map_map, List.map_map]; rfl
theorem le_algG (n : Int) (L : List OpD) : (PV.agg [I n, PV.sl 2 none (((rowsO L).map fun r => r.map I).map sgP)]).le (algP n L) := by rw [rowsO_view]; exact PV.le_refl _
end Go.Proofs.Ytkdagmbgjddopaa
/- Walks: the cursor that reads choices from bytes. -/
namespace Go.Proofs.Ytkdagmbgjddopaa
open Go Go.Pv Go.Proofs
set_option maxHeartbeats 32000000
set_option maxRecDepth 100000
attribute [local bitvec_to_nat] St.put St.setObj St.ev killP killA killP1 killH mapHO renP renA ren1 killG killGA killG1 krowP krowA krow1 lendP lendA lend1 unv pinP pin1 elemsM viewM viewN viewV n_set_z n_set_s n_map_c n_map_n getD_z getD_s n_toNat n_cond_t n_cond_f n_len_c n_len_n n_app_c n_app_n n_take_s n_take_z n_drop_s n_drop_z n_get_z n_get_s view viewA view1 elems Nat.zero_add Nat.add_zero Bool.not_true Bool.not_false Nat.one_ne_zero Nat.mul_one

theorem seq_of {α : Type} (P : Nat → α → Prop) (R : Nat → α → α → Prop) (x0 : α) (n : Nat) (h0 : P 0 x0) (h : ∀ k x, k < n → P k x → ∃ x', P (k + 1) x' ∧ R k x x') : ∃ F : Nat → α, F 0 = x0 ∧ (∀ k, k ≤ n → P k (F k)) ∧ ∀ k, k < n → R k (F k) (F (k + 1)) := by
  obtain ⟨f, hf⟩ : ∃ f : Nat × α → α, ∀ p, p.1 < n → P p.1 p.2 → P (p.1 + 1) (f p) ∧ R p.1 p.2 (f p) := Classical.axiomOfChoice (r := fun (p : Nat × α) (x' : α) => p.1 < n → P p.1 p.2 → P (p.1 + 1) x' ∧ R p.1 p.2 x') fun (p : Nat × α) => by
    rcases Classical.em (p.1 < n ∧ P p.1 p.2) with hp | hp
    · obtain ⟨x', hx⟩ := h p.1 p.2 hp.1 hp.2
      exact ⟨x', fun _ _ => hx⟩
    · exact ⟨p.2, fun h1 h2 => absurd ⟨h1, h2⟩ hp⟩
  have hP : ∀ k, k ≤ n → P k (Nat.rec x0 (fun k x => f (k, x)) k) := fun k => by
    induction k with
    | zero => exact fun _ => h0
    | succ k ih => exact fun hk => (hf (k, _) hk (ih (by omega))).1
  exact ⟨fun k => Nat.rec x0 (fun k x => f (k, x)) k, rfl, hP, fun k hk => (hf (k, _) hk (hP k (by omega))).2⟩
abbrev bytesP (l : List Int) : PV := .sl 1 none (l.map Y)
structure Cu where
  code : List Int
  pos : Int
  sd : Int
structure Cu.ok (c : Cu) (m : Int) : Prop where
  len : c.code.length ≤ 65536
  byte : ∀ i, i < c.code.length → 0 ≤ c.code.getD i 0 ∧ c.code.getD i 0 ≤ 255
  lo : 0 ≤ c.pos
  hi : c.pos ≤ m
  sd0 : 0 ≤ c.sd
structure bytesOk (l : List Int) : Prop where
  len : l.length ≤ 65536
  byte : ∀ i, i < l.length → 0 ≤ l.getD i 0 ∧ l.getD i 0 ≤ 255
abbrev cu0 (l : List Int) : Cu := ⟨l, 0, 0⟩
theorem cu0_ok {l : List Int} (h : bytesOk l) : (cu0 l).ok 0 := ⟨h.len, h.byte, Int.le_refl _, Int.le_refl _, Int.le_refl _⟩
abbrev cuB (c : Cu) : HO := .box [bytesP c.code, I c.pos, U c.sd]
def nextB (c : Cu) : Int := if c.pos < (c.code.length : Int) then IntKind.i64.wrap (c.code.getD c.pos.toNat 0) else 0
def nextS (c : Cu) : Int := IntKind.u64.wrap (IntKind.u64.wrap (IntKind.u64.wrap (c.sd * 6364136223846793005) + IntKind.u64.wrap (nextB c)) + 550289)
def nextX (c : Cu) : Int := if c.pos + 1 ≤ (c.code.length : Int) then nextB c else IntKind.i64.wrap (bits .and .u64 (nextS c / 1099511627776) 255)
def nextC (c : Cu) : Cu := ⟨c.code, c.pos + 1, nextS c⟩
theorem wrap_u64 (a : Int) : 0 ≤ IntKind.u64.wrap a ∧ IntKind.u64.wrap a ≤ 18446744073709551615 := by
  simp [IntKind.wrap, IntKind.bits, IntKind.signed]; omega
theorem nextB_in {c : Cu} {m : Int} (h : c.ok m) : 0 ≤ nextB c ∧ nextB c ≤ 255 := by
  unfold nextB
  have := h.lo
  split
  · have := h.byte c.pos.toNat (by omega)
    rw [IntWalk.i64_in _ (by omega)]
    exact this
  · omega
theorem nextC_ok {c : Cu} {m : Int} (h : c.ok m) : (nextC c).ok (m + 1) := by
  have h1 := h.lo
  have h2 := h.hi
  exact ⟨h.len, h.byte, by show 0 ≤ c.pos + 1; omega, by show c.pos + 1 ≤ m + 1; omega, (wrap_u64 _).1⟩
theorem nextX_in {c : Cu} {m : Int} (h : c.ok m) : 0 ≤ nextX c ∧ nextX c ≤ 255 := by
  unfold nextX
  split
  · exact nextB_in h
  · obtain ⟨s0, s1⟩ := wrap_u64 (IntKind.u64.wrap (IntKind.u64.wrap (c.sd * 6364136223846793005) + IntKind.u64.wrap (nextB c)) + 550289)
    have s0 : 0 ≤ nextS c := s0
    have s1 : nextS c ≤ 18446744073709551615 := s1
    obtain ⟨n, hn⟩ : ∃ n : Nat, nextS c / 1099511627776 = (n : Int) := ⟨(nextS c / 1099511627776).toNat, by omega⟩
    rw [hn, show (255 : Int) = ((255 : Nat) : Int) by rfl, bits_and_u64_nat n 255 (by omega) (by omega)]
    have := Nat.and_le_right (n := n) (m := 255)
    rw [IntWalk.i64_in _ (by omega)]
    omega
theorem idx_Y {l : List Int} {k : Nat} (h : k < l.length) : (l.map Y)[k]? = some (Y (l.getD k 0)) := by simp [h]
theorem next_L {c : Cu} {m : Int} (h : c.ok m) (hm : m ≤ 1000000) : LCalls Try.prog 75 (cuB c) [.hat 0 0] (cuB (nextC c)) (I (nextX c)) := by
  refine pcallsL1 Try.func75 rfl Try.ntmps75 rfl rfl rfl (by simp) fun b d => ?_
  simp only [List.length_cons, List.length_nil, Nat.reduceAdd, Nat.reduceSub, List.replicate_succ, List.replicate_zero]
  have h1 := h.len
  have h2 := h.lo
  have h3 := h.hi
  repeat' (first
| refine g_seq ?_
| refine g_region ?_
| refine g_region_draw (by kernel_rfl) (by kernel_rfl) ?_
| (refine o_go rfl ?_; (first
| refine p_p (ps_unv (ps_nilCheck_hat rfl rfl)) ?_
| refine p_p (ps_unv (ps_fieldAddr_hat rfl rfl)) ?_
| refine p_p (ps_unv (ps_load_box rfl rfl rfl rfl)) ?_
| refine p_p (ps_conv rfl Try.underlying3 rfl rfl) ?_
| refine p_p (ps_conv rfl Try.underlying51 rfl rfl) ?_
| refine p_p (ps_mulU rfl rfl rfl) ?_
| refine p_p (ps_addU rfl rfl rfl) ?_
| refine p_p (ps_shrU rfl rfl rfl (by omega) (by omega)) ?_
| refine p_p (ps_andU rfl rfl rfl) ?_
| refine p_p (ps_index rfl rfl rfl (by omega) (by exact idx_Y (by omega)) (by exact rfl)) ?_
| refine p_p (ps_move rfl) ?_
| refine p_p (ps_assign rfl) ?_
| refine p_p (ps_load_cell rfl rfl) ?_
| refine p_p (ps_lenM rfl rfl rfl) ?_
| refine p_p (ps_lss rfl rfl rfl) ?_
| refine p_p (ps_add rfl rfl rfl aM) ?_
| refine p_p (ps_leq rfl rfl rfl) ?_
| refine p_e rfl (e_store_boxC rfl rfl rfl rfl aK rfl rfl) ?_); refine ⟨_, aA, ?_⟩)
| refine o_nil ?_
| (refine g_condD rfl (fun hc => ?_) (fun hc => ?_) <;> try (exfalso; omega))
| refine g_skip ?_
| refine g_ret ?_)
  · refine krlh 0 0 rfl ?_ rfl (krI rfl ?_)
    · unfold nextC nextS nextB; rw [if_pos (by assumption)]
    · unfold nextX nextB; rw [if_pos hc, if_pos (by assumption)]
  · refine krlh 0 0 rfl ?_ rfl (krI rfl ?_)
    · unfold nextC nextS nextB; rw [if_neg (by assumption)]
    · unfold nextX nextS nextB; rw [if_neg hc, if_neg (by assumption)]; rfl
theorem pick_L {c : Cu} {m : Int} (h : c.ok m) (hm : m ≤ 999000) (n : Int) (hn : n ≤ 1000000) : ∃ c' x, c'.ok (m + 2) ∧ 0 ≤ x ∧ (n ≤ 1 ∧ x = 0 ∨ x < n) ∧ LCalls Try.prog 45 (cuB c) [.hat 0 0, I n] (cuB c') (I x) := by
  by_cases h1 : n ≤ 1
  · refine ⟨c, 0, ⟨h.len, h.byte, h.lo, by have := h.hi; omega, h.sd0⟩, Int.le_refl _, .inl ⟨h1, rfl⟩, ?_⟩
    refine pcallsL1 Try.func45 rfl Try.ntmps45 rfl rfl rfl (by simp) fun b d => ?_
    simp only [List.length_cons, List.length_nil, Nat.reduceAdd, Nat.reduceSub, List.replicate_succ, List.replicate_zero]
    repeat' (first
| refine g_seq ?_
| refine g_region ?_
| (refine o_go rfl ?_; (first
| refine p_p (ps_move rfl) ?_
| refine p_p (ps_assign rfl) ?_
| refine p_p (ps_leq rfl rfl rfl) ?_); refine ⟨_, aA, ?_⟩)
| refine o_nil ?_
| (refine g_condD rfl (fun hc => ?_) (fun hc => ?_) <;> try (exfalso; omega))
| refine g_ret ?_)
    exact krlh 0 0 rfl rfl rfl (krI rfl rfl)
  · have n1 := next_L h (by omega)
    have k1 := nextC_ok h
    have x1 := nextX_in h
    by_cases h2 : 200 < n
    · have n2 := next_L k1 (by omega)
      have k2 := nextC_ok k1
      have x2 := nextX_in k1
      have e0 : 0 ≤ (nextX c * 256 + nextX (nextC c)) % n := Int.emod_nonneg _ (by omega)
      have e1 : (nextX c * 256 + nextX (nextC c)) % n < n := Int.emod_lt_of_pos _ (by omega)
      refine ⟨nextC (nextC c), (nextX c * 256 + nextX (nextC c)) % n, by rw [show m + 2 = m + 1 + 1 by omega]; exact k2, e0, .inr e1, ?_⟩
      refine pcallsL1 Try.func45 rfl Try.ntmps45 rfl rfl rfl (by simp) fun b d => ?_
      simp only [List.length_cons, List.length_nil, Nat.reduceAdd, Nat.reduceSub, List.replicate_succ, List.replicate_zero]
      repeat' (first
| refine g_seq ?_
| refine g_region ?_
| (refine o_go rfl ?_; (first
| refine p_e rfl (e_callL (n := 0) rfl rfl rfl aJ rfl (by rfl) aQ (n1)) ?_
| refine p_e rfl (e_callL (n := 0) rfl rfl rfl aJ rfl (by rfl) aQ (n2)) ?_
| refine p_p (ps_mul rfl rfl rfl aM) ?_
| refine p_p (ps_rem rfl rfl rfl (by omega) (by omega)) ?_
| refine p_p (ps_move rfl) ?_
| refine p_p (ps_assign rfl) ?_
| refine p_p (ps_add rfl rfl rfl aM) ?_
| refine p_p (ps_leq rfl rfl rfl) ?_
| refine p_p (ps_gtr rfl rfl rfl) ?_); refine ⟨_, aA, ?_⟩)
| refine o_nil ?_
| (refine g_condD rfl (fun hc => ?_) (fun hc => ?_) <;> try (exfalso; omega))
| refine g_skip ?_
| refine g_ret ?_)
      exact krlh 0 0 rfl rfl rfl (krI rfl rfl)
    · have e0 : 0 ≤ nextX c % n := Int.emod_nonneg _ (by omega)
      have e1 : nextX c % n < n := Int.emod_lt_of_pos _ (by omega)
      refine ⟨nextC c, nextX c % n, ⟨k1.len, k1.byte, k1.lo, by have := k1.hi; omega, k1.sd0⟩, e0, .inr e1, ?_⟩
      refine pcallsL1 Try.func45 rfl Try.ntmps45 rfl rfl rfl (by simp) fun b d => ?_
      simp only [List.length_cons, List.length_nil, Nat.reduceAdd, Nat.reduceSub, List.replicate_succ, List.replicate_zero]
      repeat' (first
| refine g_seq ?_
| refine g_region ?_
| (refine o_go rfl ?_; (first
| refine p_e rfl (e_callL (n := 0) rfl rfl rfl aJ rfl (by rfl) aQ (n1)) ?_
| refine p_p (ps_rem rfl rfl rfl (by omega) (by omega)) ?_
| refine p_p (ps_move rfl) ?_
| refine p_p (ps_assign rfl) ?_
| refine p_p (ps_leq rfl rfl rfl) ?_
| refine p_p (ps_gtr rfl rfl rfl) ?_); refine ⟨_, aA, ?_⟩)
| refine o_nil ?_
| (refine g_condD rfl (fun hc => ?_) (fun hc => ?_) <;> try (exfalso; omega))
| refine g_skip ?_
| refine g_ret ?_)
      exact krlh 0 0 rfl rfl rfl (krI rfl rfl)
theorem one_L {c : Cu} {m : Int} (h : c.ok m) (hm : m ≤ 999000) (n : Int) (hn : n ≤ 1000000) : ∃ c' b, c'.ok (m + 2) ∧ LCalls Try.prog 52 (cuB c) [.hat 0 0, I n] (cuB c') (B b) := by
  obtain ⟨c', x, k, x0, -, hc⟩ := pick_L h hm n hn
  refine ⟨c', decide (x = 0), k, ?_⟩
  refine pcallsL1 Try.func52 rfl Try.ntmps52 rfl rfl rfl (by simp) fun b d => ?_
  simp only [List.length_cons, List.length_nil, Nat.reduceAdd, Nat.reduceSub, List.replicate_succ, List.replicate_zero]
  repeat' (first
| refine g_seq ?_
| refine g_region ?_
| (refine o_go rfl ?_; (first
| refine p_e rfl (e_callL (n := 0) rfl rfl rfl aJ rfl (by rfl) aQ (hc)) ?_
| refine p_p (ps_move rfl) ?_
| refine p_p (ps_assign rfl) ?_
| refine p_p (ps_eql rfl rfl rfl) ?_); refine ⟨_, aA, ?_⟩)
| refine o_nil ?_
| refine g_ret ?_)
  exact krlh 0 0 rfl rfl rfl (krB rfl rfl)
theorem among_L {c : Cu} {m : Int} (h : c.ok m) (hm : m ≤ 999000) (l : List Int) (hl : 0 < l.length) (hl2 : l.length ≤ 1000) : ∃ c' x, c'.ok (m + 2) ∧ x ∈ l ∧ LCalls Try.prog 43 (cuB c) [.hat 0 0, ints l] (cuB c') (I x) := by
  obtain ⟨c', x, k, x0, x1, hc⟩ := pick_L h hm (l.length : Int) (by omega)
  have hx : x < (l.length : Int) := by omega
  refine ⟨c', l.getD x.toNat 0, k, ?_, ?_⟩
  · rw [List.getD_eq_getElem?_getD, List.getElem?_eq_getElem (show x.toNat < l.length by omega)]
    exact List.getElem_mem _
  refine pcallsL1 Try.func43 rfl Try.ntmps43 rfl rfl rfl (by simp) fun b d => ?_
  simp only [List.length_cons, List.length_nil, Nat.reduceAdd, Nat.reduceSub, List.replicate_succ, List.replicate_zero]
  repeat' (first
| refine g_seq ?_
| refine g_region ?_
| (refine o_go rfl ?_; (first
| refine p_e rfl (e_callL (n := 0) rfl rfl rfl aJ rfl (by rfl) aQ (hc)) ?_
| refine p_p (ps_index rfl rfl rfl (by omega) (by exact idx_I (by omega)) (by exact rfl)) ?_
| refine p_p (ps_move rfl) ?_
| refine p_p (ps_assign rfl) ?_
| refine p_p (ps_load_cell rfl rfl) ?_
| refine p_p (ps_lenM rfl rfl rfl) ?_); refine ⟨_, aA, ?_⟩)
| refine o_nil ?_
| refine g_ret ?_)
  exact krlh 0 0 rfl rfl rfl (krI rfl rfl)
end Go.Proofs.Ytkdagmbgjddopaa
