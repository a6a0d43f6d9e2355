/- The layer, more: the steps in the form in which a proof takes them, grids, calls that hand back an object or are lent one, bits, small literals. -/
import Derived.KernelRfl
import Derived.Laws.Shifts
import Derived.Laws.Small
import Derived.Laws.Bits64b
import Derived.Laws.Cover3
import Derived.Test.YtepjlgilopfnpaaGreatJPv
attribute [local semireducible] Go.Pv.Goal Go.Pv.Ops Go.Pv.PStep Go.Pv.EStep Go.Pv.KRets Go.Pv.PCalls
/- The steps in the form in which a proof takes them. -/
set_option linter.unusedSectionVars false
namespace Go.Pv
open Go

section
variable {P : Program} {dr : Bool} {ops : Array Oper} {K : St → Prop} {o : Oper} {r : List Oper} {k : Nat} {S S' : St}

theorem o_nil (hk : K S) : Ops P dr ops K [] k S := hk
theorem o_skip (hg : guardS ops S.fr o = some false) (hS : S.put o.dst (.val undef) = S') (hk : Ops P dr ops K r (k + 1) S') : Ops P dr ops K (o :: r) k S :=
 .inr ⟨hg, by rw [hS]; exact hk⟩
theorem o_split {t : Bool} (d : Nat) (hd : S.fr[d]? = some (B t)) (h1 : t = true → Ops P dr ops K (o :: r) k ⟨S.fr.set d (B true), S.hp⟩) (h2 : t = false → Ops P dr ops K (o :: r) k ⟨S.fr.set d (B false), S.hp⟩) : Ops P dr ops K (o :: r) k S := by
 have key : S.fr.set d (B t) = S.fr := by
  apply List.ext_getElem? 
  intro i
  rw [List.getElem?_set]
  split
  · rename_i e; subst e
    rw [hd]
    simp [(List.getElem?_eq_some_iff.1 hd).1]
  · rfl
 cases t
 · have := h2 rfl; rwa [key] at this
 · have := h1 rfl; rwa [key] at this
end

section
variable {P : Program} {dr : Bool} {ops : Array Oper} {K : St → Prop} {o : Oper} {r : List Oper} {k : Nat} {S : St} {j d : Nat} {want : Bool}
theorem o_splitD {φ : Prop} [Decidable φ] (_hg : o.guard = some (j, want)) (_hd : (ops[j]?).bind (·.dst) = some d) (ht : S.fr[d]? = some (B (decide φ))) (h1 : φ → Ops P dr ops K (o :: r) k ⟨S.fr.set d (B true), S.hp⟩)
 (h2 : ¬ φ → Ops P dr ops K (o :: r) k ⟨S.fr.set d (B false), S.hp⟩) : Ops P dr ops K (o :: r) k S := o_split d ht (fun h => h1 (of_decide_eq_true h)) (fun h => h2 (of_decide_eq_false h))
end

section
variable {P : Program} {K : Exit → St → Prop} {S : St}
def valsOk (fr : List PV) : List (Nat × PV) → Prop
 | [] => True
 | (i, p) :: r => fr[i]? = some p ∧ valsOk fr r

theorem frLe_set : ∀ {l m : List PV} {i : Nat} {p : PV}, frLe l m → l[i]? = some p → frLe l (m.set i p)
 | [], [], _, _, _, h => by simp at h
 | q :: l, q' :: m, i, p, h, hi => by
  cases i with
  | zero => simp at hi; subst hi; exact ⟨.inr rfl, h.2⟩
  | succ i => exact ⟨h.1, frLe_set h.2 (by simpa using hi)⟩
 | [], _ :: _, _, _, h, _ => h.elim
 | _ :: _, [], _, _, h, _ => h.elim
theorem frLe_setMany {l : List PV} : ∀ {v : List (Nat × PV)} {m : List PV}, frLe l m → valsOk l v → frLe l (zZ m v)
 | [], _, h, _ => h
 | (i, p) :: v, m, h, hv => frLe_setMany (v := v) (m := m.set i p) (frLe_set h hv.1) hv.2
theorem frLe_any : ∀ {l m : List PV} {i : Nat}, frLe l m → frLe l (m.set i .any)
 | [], [], _, _ => trivial
 | _ :: _, _ :: _, 0, h => ⟨.inl rfl, h.2⟩
 | _ :: _, _ :: _, _ + 1, h => ⟨h.1, frLe_any h.2⟩
 | [], _ :: _, _, h => h.elim
 | _ :: _, [], _, h => h.elim
theorem frLe_havoc (ds : List Tmp) : ∀ {l m : List PV}, frLe l m → frLe l (havoc ds m) := by
 induction ds with
 | nil => intro l m h; exact h
 | cons d ds ih => intro l m h; exact ih (frLe_any h)

def KLoopT {α : Type} (fr0 : List PV) (vals : α → List (Nat × PV)) (hps : α → List HO) (p : α → Prop) (m : α → Nat) (x : α) (K : Exit → St → Prop) : Exit → St → Prop :=
 KLoop (fun x => ⟨zZ fr0 (vals x), hps x⟩) p m x K

theorem g_loopT {α : Type} (vals : α → List (Nat × PV)) (hps : α → List HO) (p : α → Prop) (m : α → Nat) (x0 : α) {c : Code} {fr0 : List PV} (hfr : havoc (dsts c) S.fr = fr0) (h0 : p x0) (hv : valsOk S.fr (vals x0)) (hh : S.hp = hps x0)
 (round : ∀ x, p x → Goal P c (KLoopT fr0 vals hps p m x K) ⟨zZ fr0 (vals x), hps x⟩) : Goal P (.loop c) K S :=
 g_loop (fun x => ⟨zZ fr0 (vals x), hps x⟩) p m x0 h0 ⟨by subst hfr; exact frLe_setMany (frLe_havoc _ (frLe_refl _)) hv, by rw [hh]; exact hpLe_refl _⟩ round

theorem zT {α : Type} {vals : α → List (Nat × PV)} {hps : α → List HO} {p : α → Prop} {m : α → Nat} {x : α} {fr0 : List PV} (y : α) (hp : p y) (hm : m y < m x) (hf : frLe S.fr fr0) (hv : valsOk S.fr (vals y)) (hh : hpLe S.hp (hps y)) :
 KLoopT fr0 vals hps p m x K .normal S := ⟨y, hp, hm, frLe_setMany hf hv, hh⟩

theorem zX {c : Operand} {x y : Code} (hc : S.ev c = B true) (h : Goal P x K S) : Goal P (.cond c x y) K S := g_cond hc (fun _ => h) (fun h => by cases h)
theorem zW {c : Operand} {x y : Code} (hc : S.ev c = B false) (h : Goal P y K S) : Goal P (.cond c x y) K S := g_cond hc (fun h => by cases h) (fun _ => h)
theorem zK {φ : Prop} [Decidable φ] {c : Operand} {x y : Code} (hc : S.ev c = B (decide φ)) (ht : φ → Goal P x K S) (hf : ¬ φ → Goal P y K S) : Goal P (.cond c x y) K S :=
 g_cond hc (fun h => ht (of_decide_eq_true h)) (fun h => hf (of_decide_eq_false h))
theorem g_condN {φ : Prop} [Decidable φ] {c : Operand} {x y : Code} (hc : S.ev c = B (!decide φ)) (ht : ¬ φ → Goal P x K S) (hf : φ → Goal P y K S) : Goal P (.cond c x y) K S :=
 g_cond hc (fun h => ht (fun e => by simp [e] at h)) (fun h => hf (by simpa using h))
end
theorem kr {rs : List Tmp} {qs : List PV} {S : St} (h : argsLe (rs.map fun r => viewM S.hp (S.ev (.tmp r))) qs) : KRets rs qs .ret S := ⟨.inr rfl, h⟩
abbrev ints (l : List Int) : PV := .sl 1 none (l.map I)
abbrev bools (l : List Bool) : PV := .sl 1 none (l.map B)
abbrev intss (l : List (List Int)) : PV := .sl 1 none (l.map ints)
abbrev boolss (l : List (List Bool)) : PV := .sl 1 none (l.map bools)
end Go.Pv
namespace Go.Pv
theorem idx_I {l : List Int} {i : Nat} (h : i < l.length) : (l.map I)[i]? = some (I (l.getD i 0)) := by simp [h]
theorem idx_B {l : List Bool} {i : Nat} (h : i < l.length) : (l.map B)[i]? = some (B (l.getD i false)) := by simp [h]
theorem idx_ints {l : List (List Int)} {i : Nat} (h : i < l.length) : (l.map ints)[i]? = some (ints (l.getD i [])) := by simp [h]
theorem idx_bools {l : List (List Bool)} {i : Nat} (h : i < l.length) : (l.map bools)[i]? = some (bools (l.getD i [])) := by simp [h]
theorem idx_intss {l : List (List (List Int))} {i : Nat} (h : i < l.length) : (l.map intss)[i]? = some (intss (l.getD i [])) := by simp [h]
theorem zU {P : Program} {o : Oper} {ev : Operand → PV} {hp : List HO} {t e : TypeId} {s by_ : Nat} [ht : SlT P t e s by_] {x : Operand} {s' : Nat} {nn : Option Bool} {α : Type} {f : α → PV} {l : List α} {tys : Array TypeId} (ho : o.op = .call { callee := .builtin .len, args := #[x], argTypes := tys }) (htys : tys = #[t])
 (h1 : view hp (ev x) = .sl s' nn (l.map f)) : PStep P o ev hp (I l.length) := by
 have := ps_len (P := P) ho htys h1
 rwa [List.length_map] at this

def KR (S : St) (r : Tmp) (q : PV) : Prop := (viewM S.hp (S.ev (.tmp r))).le q
theorem kr1 {S : St} {r : Tmp} {q : PV} (h : KR S r q) : KRets [r] [q] .ret S := ⟨.inr rfl, h, trivial⟩
theorem kr2 {S : St} {r1 r2 : Tmp} {q1 q2 : PV} (h1 : KR S r1 q1) (h2 : KR S r2 q2) : KRets [r1, r2] [q1, q2] .ret S := ⟨.inr rfl, h1, h2, trivial⟩
theorem krB {S : St} {r : Tmp} {b b' : Bool} (h : viewM S.hp (S.ev (.tmp r)) = B b) (e : b = b') : KR S r (B b') := by unfold KR; rw [h, e]; exact PV.le_refl _
theorem krI {S : St} {r : Tmp} {b b' : Int} (h : viewM S.hp (S.ev (.tmp r)) = I b) (e : b = b') : KR S r (I b') := by unfold KR; rw [h, e]; exact PV.le_refl _
theorem krS {S : St} {r : Tmp} {s : Nat} {nn : Option Bool} {l l' : List PV} (h : viewM S.hp (S.ev (.tmp r)) = .sl s nn l) (e : l = l') : KR S r (.sl s none l') := by unfold KR; rw [h, e]; exact PV.le_nn _ _ _
theorem krAny {S : St} {r : Tmp} : KR S r .any := PV.le_any _
theorem zM (h : List HO) : hpLe h [] := fun id ho hid => by simp at hid
theorem zB {a b : HO} {h h' : List HO} (e : a = b) (k : hpLe h h') : hpLe (a :: h) (b :: h') := fun id ho hid => by
 cases id with
 | zero => right; simpa [e] using hid
 | succ id => simpa using k id ho (by simpa using hid)
theorem hpLe_gone {a : HO} {h h' : List HO} (k : hpLe h h') : hpLe (a :: h) (.gone :: h') := fun id ho hid => by
 cases id with
 | zero => left; simpa using hid.symm
 | succ id => simpa using k id ho (by simpa using hid)
theorem e_lit0 {P : Program} {o : Oper} {S : St} {t e : TypeId} {s by_ : Nat} [ht : SlT P t e s by_] {zs : List Value} [hz : ZeroT P e zs] (ho : o.op = .buildSlice t 0 #[]) (hs : 0 < s) :
 EStep P o S (S.setObj S.hp.length (killH S.hp.length S.hp ++ [.arr false s e []]) o.dst (.hp S.hp.length)) :=
 e_buildSlice (ht := ht) (hz := hz) ho rfl rfl rfl trivial hs (by omega)
theorem one_map {α : Type} {f : α → PV} (h : ∀ x, (f x).one = true) (l : List α) : ∀ p ∈ l.map f, ∀ c, p.flat = some c → (c.all PV.one) = true := fun p hp c hc => by
 obtain ⟨x, -, rfl⟩ := List.mem_map.1 hp
 rw [flat_one (h x)] at hc
 cases hc
 simp [h x]
theorem one_all {α : Type} {f : α → PV} (h : ∀ x, (f x).one = true) (l : List α) : (l.map f).all PV.one = true := by
 rw [List.all_eq_true]; intro p hp; obtain ⟨x, -, rfl⟩ := List.mem_map.1 hp; exact h x
theorem one_one {p : PV} (h : p.one = true) : ∀ q ∈ [p], ∀ c, q.flat = some c → (c.all PV.one) = true := fun q hq c hc => by
 simp at hq
 subst hq
 rw [flat_one h] at hc
 cases hc
 simp [h]

section
variable {P : Program} {o : Oper} {ev : Operand → PV} {hp : List HO} {S : St}
theorem e_make1 {t e : TypeId} {s by_ : Nat} {z : Value} [ht : MkT P t e s by_ [z]] {x y : Operand} {n : Int} (ho : o.op = .makeSlice t x y) (h1 : S.ev x = I n) (h2 : S.ev y = I n) (h0 : 0 ≤ n) (hb : n * by_ ≤ 140737488355328) (hn : n ≤ 9223372036854775807)
 (hs : s = 1) (hz : (PV.val z).one = true) : EStep P o S (S.setObj S.hp.length (killH S.hp.length S.hp ++ [.arr true 1 e (List.replicate n.toNat (.val z))]) o.dst (.hp S.hp.length)) := by
 subst hs
 exact e_make (ht := ht) ho h1 h2 h0 hb hn (by omega) (flat_one hz) rfl

theorem own_load {w : World} {b : Nat} {cur : Array Value} {e : TypeId} (hw : w.heap[b]? = some (.cells cur e (0, 0))) {i : Nat} (hi : i < cur.size) : w.cell? ⟨b, i, none⟩ = some (cur.getD i undef) := by
 rw [cell_of_row _ _ _ _ _ _ hw]; exact getElem?_getD hi

theorem zH {t : TypeId} [ht : CellT P t] {x : Operand} {id i : Nat} {l : List PV} {q : PV} (ho : o.op = .load t x) (h1 : ev x = .hat id i) (hh : hp[id]? = some (.box l)) (hq : l[i]? = some q) : PStep P o ev hp q :=
 .of_run fun w0 g ρ w av hb hx => by
  have ea : av x = .pointer (some ⟨(ρ id).blk, i, none⟩) := by have := hx x (by simp [ho, Op.operands]); rw [h1] at this; exact this
  obtain ⟨cur, e, hown⟩ := hb.own id _ hh
  have hi : i < cur.size := by rw [hown.hsz]; exact (List.getElem?_eq_some_iff.1 hq).1
  have hc := own_load hown.hw hi
  refine ⟨cur.getD i undef, ?_, .of_one (hown.hv i q hq)⟩
  simp only [execOp, ho, ea]
  refine run_value ?_
  unfold Instr.loadAt Instr.sureAddr loadVar
  simp only [Sem.run_bind, run_pure, Result.andThen, ht.ha]
  simp [load, Sem.run, hc]

theorem zY {t : TypeId} {n : Nat} [ht : AggT P t n] {x : Operand} {id i : Nat} {l : List PV} (ho : o.op = .load t x) (h1 : ev x = .hat id i) (hh : hp[id]? = some (.box l)) (hn : i + n ≤ l.length) : PStep P o ev hp (.agg ((l.drop i).take n)) :=
 .of_run fun w0 g ρ w av hb hx => by
  have ea : av x = .pointer (some ⟨(ρ id).blk, i, none⟩) := by have := hx x (by simp [ho, Op.operands]); rw [h1] at this; exact this
  obtain ⟨cur, e, hown⟩ := hb.own id _ hh
  have hl := run_loadCells (P := P) w ⟨(ρ id).blk, i, none⟩ n (fun j => cur.getD (i + j) undef) (fun j hj => by rw [Addr.add_n]; exact own_load hown.hw (by rw [hown.hsz]; omega))
  refine ⟨.agg (List.map (fun j => cur.getD (i + j) undef) (List.range n)).toArray, ?_, ⟨_, rfl, by simp; omega, fun k q hq => ?_⟩⟩
  · simp only [execOp, ho, ea]
    refine run_value ?_
    unfold Instr.loadAt Instr.sureAddr loadVar
    simp only [Sem.run_bind, run_pure, Result.andThen, ht.ha, ht.hs, hl, if_true]
  · rw [List.getElem?_take] at hq
    split at hq
    · rename_i hk
      rw [List.getElem?_drop] at hq
      have := hown.hv _ q hq
      simpa [hk] using this
    · cases hq

theorem ps_load_arr {t : TypeId} [ht : CellT P t] {x : Operand} {id i : Nat} {m : Bool} {e' : TypeId} {l : List PV} {q : PV} (ho : o.op = .load t x) (h1 : ev x = .hat id i) (hh : hp[id]? = some (.arr m 1 e' l)) (hq : l[i]? = some q) (hone : q.one = true) : PStep P o ev hp q :=
 .of_run fun w0 g ρ w av hb hx => by
  have ea : av x = .pointer (some ⟨(ρ id).blk, i, none⟩) := by have := hx x (by simp [ho, Op.operands]); rw [h1] at this; exact this
  obtain ⟨cur, c, hown⟩ := hb.own id _ hh
  have hil := (List.getElem?_eq_some_iff.1 hq).1
  have hi : i < cur.size := by rw [hown.hsz, Nat.mul_one]; exact Nat.lt_of_lt_of_le hil hown.hcap
  have hc := own_load hown.hw hi
  have hv : VR g (cur.getD i undef) q := by
   obtain ⟨f1, -⟩ := hown.hf i q hq
   rw [flat_one hone] at f1
   have := hown.hv i 0 q hil (by rw [← Option.some.inj f1]; rfl)
   simpa using this
  refine ⟨cur.getD i undef, ?_, .of_VR hv⟩
  simp only [execOp, ho, ea]
  refine run_value ?_
  unfold Instr.loadAt Instr.sureAddr loadVar
  simp only [Sem.run_bind, run_pure, Result.andThen, ht.ha]
  simp [load, Sem.run, hc]

theorem ps_load_row {t : TypeId} [ht : CellT P t] {x : Operand} {id i : Nat} {e1 e2 : TypeId} {rows : List (List PV)} (ho : o.op = .load t x) (h1 : ev x = .hat id i) (hh : hp[id]? = some (.grid e1 e2 rows)) (hi : i < rows.length) : PStep P o ev hp (.gr id i) :=
 .of_run fun w0 g ρ w av hb hx => by
  have ea : av x = .pointer (some ⟨(ρ id).blk, i, none⟩) := by have := hx x (by simp [ho, Op.operands]); rw [h1] at this; exact this
  obtain ⟨cur, rc, hown⟩ := hb.own id _ hh
  have hc := own_load hown.hw (i := i) (by rw [hown.hsz]; exact Nat.lt_of_lt_of_le hi hown.hcap)
  refine ⟨cur.getD i undef, ?_, (⟨⟨_, _, _, (hown.hrow i _ (List.getElem?_eq_getElem hi)).1⟩, fun e1' e2' rows' r hid hr => ?_, fun e1' e2' k rows' r hid hr => (by rw [hh] at hid; cases hid)⟩ : GrV _ _ _ _ _)⟩
  · simp only [execOp, ho, ea]
    refine run_value ?_
    unfold Instr.loadAt Instr.sureAddr loadVar
    simp only [Sem.run_bind, run_pure, Result.andThen, ht.ha]
    simp [load, Sem.run, hc]
  · rw [hh] at hid
    cases hid
    exact (hown.hrow i r hr).1

/-! ### Results that lie in memory -/
def KRC (S : St) (a : Tmp) (n : Nat) (q : PV) : Prop := ∃ l, viewM S.hp (S.ev (.tmp a)) = .ptr l ∧ n ≤ l.length ∧ (PV.agg (l.take n)).le q
theorem krC {S : St} {a : Tmp} {n : Nat} {l l' : List PV} (h : viewM S.hp (S.ev (.tmp a)) = .ptr l) (hn : n ≤ l.length) (e : l.take n = l') : KRC S a n (.agg l') := ⟨l, h, hn, e ▸ PV.le_refl _⟩
theorem load_res {t : TypeId} {n : Nat} [ht : AggT P t n] {w0 : Ini} {g : Ghost} {ρ : Nat → Loc} {a : Act} {w : World} (h : Rel w0 S g ρ a w) {r : Tmp} {q : PV} (hk : KRC S r n q) :
 ∃ ad v, a.tmps.getD r undef = .pointer (some ad) ∧ (loadVar t ad).run P w = .ok v w ∧ VR (snap g w w0.own) v q := by
 obtain ⟨l, hl, hn, hq⟩ := hk
 have hv := h.base.viewM (h.ev (.tmp r))
 rw [hl] at hv
 obtain ⟨b, o, cs, ea, hg, hcv⟩ := VR.ptr_inv hv
 have ea' : a.tmps.getD r undef = .pointer (some ⟨b, o, none⟩) := ea
 have hld := run_loadCells (P := P) w ⟨b, o, none⟩ n cs (fun j hj => by rw [Addr.add_n]; exact snap_agree h.base.agree _ _ _ _ (hg j (by omega)))
 refine ⟨⟨b, o, none⟩, .agg (List.map cs (List.range n)).toArray, ea', ?_, hq _ _ (.agg _ _ (by simp; omega) (fun i p hp => ?_))⟩
 · unfold loadVar
   simp only [Sem.run_bind, run_pure, Result.andThen, ht.ha, ht.hs, hld, if_true]
 · rw [List.getElem?_take] at hp
   split at hp
   · rename_i hi
     have := hcv i p hp
     simpa [hi] using this
   · cases hp

theorem pcalls_gen {f : FuncId} {fn : Func} {c : Code} {n : Nat} {args : List PV} {q : PV} (KE : St → Prop)
 (hres : ∀ (S : St) (w0 : Ini) (g : Ghost) (ρ : Nat → Loc) (a : Act) (w : World), KE S → Rel w0 S g ρ a w → ∃ v, (results fn a.tmps).run P w = .ok v w ∧ VR (snap g w w0.own) v q)
 (hf : P.funcs[f]? = some fn) (hb : fn.body = some c) (hn : fn.ntmps = n) (h : Goal P c (fun e S => (e = .normal ∨ e = .ret) ∧ KE S) ⟨args ++ List.replicate (n - args.length) (.val undef), []⟩) : PCalls P f args q := by
 intro g w vs ha hv
 refine calls_of_wp hf hb ?_
 subst hn
 refine h ⟨w, g, fun _ => false⟩ g (fun _ => ⟨0, 0, fun _ => 0, fun _ => 0⟩) _ w _ (rel_start ha hv fn.ntmps _) ?_
 intro e S g' ρ' a' w' hk hr
 obtain ⟨v, hrun, hvr⟩ := hres S _ _ _ _ _ hk.2 hr
 have hend : a'.defers = [] ∧ ∃ v, (results fn a'.tmps).run P w' = .ok v w' ∧ ∃ v' g'', Ending.returned v = .returned v' ∧ GExt g g'' ∧ (∀ b o, b < w.heap.size → g'' b o = g b o) ∧ RowKit.Below w.heap.size w w' ∧ Agree g'' w' ∧ VR g'' v' q := by
  have hno : ∀ b, b < w.heap.size → ¬ Ini.own ⟨w, g, fun _ => false⟩ b = true := fun b hb => Ini.own_old hb rfl
  refine ⟨hr.dead, _, hrun, _, snap g' w' (Ini.own ⟨w, g, fun _ => false⟩), rfl, fun b o v hv => ?_, fun b o hb => ?_, hr.base.below.plain, snap_agree hr.base.agree _, hvr⟩
  · rw [snap_old (hno b (ha.lt hv)), hr.base.old b o (hno b (ha.lt hv))]; exact hv
  · rw [snap_old (hno b hb)]; exact hr.base.old b o (hno b hb)
 rcases hk.1 with rfl | rfl
 · exact hend
 · exact hend

def KRetC (a : Tmp) (n : Nat) (q : PV) (e : Exit) (S : St) : Prop := (e = .normal ∨ e = .ret) ∧ KRC S a n q
theorem krc {a : Tmp} {n : Nat} {q : PV} (h : KRC S a n q) : KRetC a n q .ret S := ⟨.inr rfl, h⟩
theorem pcallsC {f : FuncId} {fn : Func} {c : Code} {n m : Nat} {args : List PV} {r : Tmp} {t : TypeId} [ht : AggT P t m] {q : PV} (hf : P.funcs[f]? = some fn) (hb : fn.body = some c) (hn : fn.ntmps = n) (hr : fn.results = #[.cell r t])
 (h : Goal P c (KRetC r m q) ⟨args ++ List.replicate (n - args.length) (.val undef), []⟩) : PCalls P f args q :=
 pcalls_gen (fun S => KRC S r m q) (fun S w0 g ρ a w hk hrel => by
  obtain ⟨ad, v, h0, h1, h2⟩ := load_res (P := P) (ht := ht) hrel hk
  refine ⟨v, ?_, h2⟩
  have h0' : a.tmps[r]?.getD undef = .pointer (some ad) := by simpa using h0
  unfold results
  rw [hr]
  generalize @loadVar = lv at h1 ⊢
  simp [h0', asAddr, h1, go_sem]) hf hb hn h
def KRetCT (a : Tmp) (n : Nat) (q : PV) (r : Tmp) (q2 : PV) (e : Exit) (S : St) : Prop := (e = .normal ∨ e = .ret) ∧ (KRC S a n q ∧ KR S r q2)
theorem krct {a r : Tmp} {n : Nat} {q q2 : PV} (h : KRC S a n q) (h2 : KR S r q2) : KRetCT a n q r q2 .ret S := ⟨.inr rfl, h, h2⟩
theorem pcallsCT {f : FuncId} {fn : Func} {c : Code} {n m : Nat} {args : List PV} {r r2 : Tmp} {t : TypeId} [ht : AggT P t m] {q q2 : PV} (hf : P.funcs[f]? = some fn) (hb : fn.body = some c) (hn : fn.ntmps = n) (hr : fn.results = #[.cell r t, .tmp r2])
 (h : Goal P c (KRetCT r m q r2 q2) ⟨args ++ List.replicate (n - args.length) (.val undef), []⟩) : PCalls P f args (.tup [q, q2]) :=
 pcalls_gen (fun S => KRC S r m q ∧ KR S r2 q2) (fun S w0 g ρ a w hk hrel => by
  obtain ⟨ad, v, h0, h1, h2⟩ := load_res (P := P) (ht := ht) hrel hk.1
  have h3 := hk.2 _ _ (hrel.base.viewM (hrel.ev (.tmp r2)))
  refine ⟨.tuple #[v, a.tmps.getD r2 undef], ?_, .tup _ _ rfl (fun i p hp => ?_)⟩
  · have h0' : a.tmps[r]?.getD undef = .pointer (some ad) := by simpa using h0
    unfold results
    rw [hr]
    generalize @loadVar = lv at h1 ⊢
    simp [h0', asAddr, h1, go_sem]
  · rcases i with _ | _ | i
    · simp at hp; subst hp; simpa using h2
    · simp at hp; subst hp; simpa [Act.eval] using h3
    · simp at hp) hf hb hn h
end
def OpsG (P : Program) (dr : Bool) (ops : Array Oper) (K : St → Prop) (o : Oper) (r : List Oper) (k : Nat) (S : St) : Prop :=
 (∃ q, PStep P o S.ev S.hp q ∧ Ops P dr ops K r (k + 1) (S.put o.dst q)) ∨ ((!dr || barrier ops k) = true ∧ ∃ S', EStep P o S S' ∧ Ops P dr ops K r (k + 1) S')
section
variable {P : Program} {dr : Bool} {ops : Array Oper} {K : St → Prop} {o : Oper} {r : List Oper} {k : Nat} {S S' : St}
theorem o_go (hg : guardS ops S.fr o = some true) (h : OpsG P dr ops K o r k S) : Ops P dr ops K (o :: r) k S := .inl ⟨hg, h⟩
theorem p_pure {q : PV} (h : PStep P o S.ev S.hp q) (hS : S.put o.dst q = S') (hk : Ops P dr ops K r (k + 1) S') : OpsG P dr ops K o r k S := .inl ⟨q, h, by rw [hS]; exact hk⟩
theorem p_eff {S1 : St} (hb : (!dr || barrier ops k) = true) (h : EStep P o S S1) (hS : S1 = S') (hk : Ops P dr ops K r (k + 1) S') : OpsG P dr ops K o r k S := .inr ⟨hb, S', hS ▸ h, hk⟩
end
section
variable {P : Program} {dr : Bool} {ops : Array Oper} {K : St → Prop} {o : Oper} {r : List Oper} {k : Nat} {S : St}
theorem p_p {q : PV} (h : PStep P o S.ev S.hp q) (hk : ∃ S', S.put o.dst q = S' ∧ Ops P dr ops K r (k + 1) S') : OpsG P dr ops K o r k S := hk.elim fun _ h' => p_pure h h'.1 h'.2
theorem p_e {S1 : St} (hb : (!dr || barrier ops k) = true) (h : EStep P o S S1) (hk : ∃ S', S1 = S' ∧ Ops P dr ops K r (k + 1) S') : OpsG P dr ops K o r k S := hk.elim fun _ h' => p_eff hb h h'.1 h'.2
theorem o_s (hg : guardS ops S.fr o = some false) (hk : ∃ S', S.put o.dst (.val undef) = S' ∧ Ops P dr ops K r (k + 1) S') : Ops P dr ops K (o :: r) k S := hk.elim fun _ h' => o_skip hg h'.1 h'.2
end
theorem getD_s (a : PV) (l : List PV) (n : Nat) (d : PV) : (a :: l).getD (n + 1) d = l.getD n d := rfl
theorem getD_z (a : PV) (l : List PV) (d : PV) : (a :: l).getD 0 d = a := rfl
section
variable {α β : Type}
theorem n_map_c (f : α → β) (a : α) (l : List α) : (a :: l).map f = f a :: l.map f := rfl
theorem n_map_n (f : α → β) : ([] : List α).map f = [] := rfl
theorem n_drop_s (a : α) (l : List α) (n : Nat) : (a :: l).drop (n + 1) = l.drop n := rfl
theorem n_drop_z (l : List α) : l.drop 0 = l := rfl
theorem n_take_s (a : α) (l : List α) (n : Nat) : (a :: l).take (n + 1) = a :: l.take n := rfl
theorem n_take_z (l : List α) : l.take 0 = [] := rfl
theorem n_app_c (a : α) (l m : List α) : (a :: l) ++ m = a :: (l ++ m) := rfl
theorem n_app_n (m : List α) : [] ++ m = m := rfl
theorem n_get_z (a : α) (l : List α) : (a :: l)[0]? = some a := rfl
theorem n_get_s (a : α) (l : List α) (n : Nat) : (a :: l)[n + 1]? = l[n]? := rfl
theorem n_set_z (a b : α) (l : List α) : (a :: l).set 0 b = b :: l := rfl
theorem n_set_s (a b : α) (l : List α) (n : Nat) : (a :: l).set (n + 1) b = a :: l.set n b := rfl
theorem n_len_c (a : α) (l : List α) : (a :: l).length = l.length + 1 := rfl
theorem n_len_n : ([] : List α).length = 0 := rfl
theorem n_cond_t (a b : α) : (bif true then a else b) = a := rfl
theorem n_cond_f (a b : α) : (bif false then a else b) = b := rfl
theorem n_toNat (k : Nat) : ((k : Int)).toNat = k := rfl
end
section
variable {P : Program} {o : Oper} {S : St}
theorem e_store_boxC {t : TypeId} [ht : CellT P t] {x v : Operand} {id i : Nat} {l : List PV} {p : PV} (ho : o.op = .store t x v) (hd : o.dst = none) (h1 : S.ev x = .hat id i) (hh : S.hp[id]? = some (.box l)) (hi : i + 1 ≤ l.length)
 (h2 : S.ev v = p) (hone : p.one = true) : EStep P o S ⟨S.fr, S.hp.set id (.box (l.take i ++ [p] ++ l.drop (i + 1)))⟩ :=
 e_store_box ht.hs ho hd h1 hh hi h2 (flat_one hone) rfl (by simp [hone])
theorem zO {t : TypeId} {n : Nat} [ht : AggT P t n] {x v : Operand} {id i : Nat} {l c : List PV} (ho : o.op = .store t x v) (hd : o.dst = none) (h1 : S.ev x = .hat id i) (hh : S.hp[id]? = some (.box l)) (hi : i + n ≤ l.length)
 (h2 : S.ev v = .agg c) (hcn : c.length = n) (hone : (c.all PV.one) = true) : EStep P o S ⟨S.fr, S.hp.set id (.box (l.take i ++ c ++ l.drop (i + n)))⟩ :=
 e_store_box ht.hs ho hd h1 hh hi h2 rfl hcn hone
end
end Go.Pv

/- Grids: a slice of slices that a call lays row by row, hands back, and that its caller goes on writing. -/
namespace Go.Pv
open Go
section
variable {P : Program} {o : Oper} {S : St}
section
variable {P : Program} {o : Oper} {ev : Operand → PV} {hp : List HO}
end

/-! ### A row moves into a grid -/
def killG1 (k : Nat) : PV → PV
 | .gat _ _ _ => .any
 | p => killP1 k p
def killGA (k : Nat) : PV → PV
 | .agg l => .agg (l.map (killG1 k))
 | p => killG1 k p
def killG (k : Nat) : PV → PV
 | .tup l => .tup (l.map (killGA k))
 | .agg l => .agg (l.map (killG1 k))
 | p => killG1 k p
theorem one_cell {g : Ghost} {w : World} {D : Nat → Bool} {mt : Bool} {e : TypeId} {l : List PV} {L : Loc} {cur : Array Value} {c : Nat → List PV} (h : ArrOwn g w D mt 1 e l L cur c) {j : Nat} {q : PV} (hj : l[j]? = some q) (h1 : q.one = true) : VR g (cur.getD j undef) q := by
 obtain ⟨f1, -⟩ := h.hf j q hj
 rw [flat_one h1] at f1
 have := h.hv j 0 q (List.getElem?_eq_some_iff.1 hj).1 (by rw [← Option.some.inj f1]; rfl)
 simpa using this

end
end Go.Pv

/- Calls that hand back an object of their own, and calls that are lent one. -/
namespace Go.Pv
open Go

def g0 : Ghost := fun _ _ => none
theorem g0_ext (g : Ghost) : GExt g0 g := fun _ _ _ h => by cases h

def PV.sc : PV → Bool
 | .val _ | .any => true
 | .agg l => l.all fun p => match p with | .val _ | .any => true | _ => false
 | _ => false
def scHO : HO → Bool
 | .arr _ _ _ l => l.all PV.sc
 | .grid _ _ rows | .pg _ _ _ rows | .sg _ _ _ rows => rows.all fun r => r.all PV.sc
 | .box _ | .gone | .mp _ _ | .pin _ _ => false
theorem sc_map {α : Type} {f : α → PV} (h : ∀ x, (f x).sc = true) (l : List α) : (l.map f).all PV.sc = true := by
 rw [List.all_eq_true]; intro p hp; obtain ⟨x, -, rfl⟩ := List.mem_map.1 hp; exact h x
theorem sc_maps {α β : Type} {f : α → PV} {h' : β → List α} (h : ∀ x, (f x).sc = true) (l : List β) : (l.map fun r => (h' r).map f).all (fun r => r.all PV.sc) = true := by
 rw [List.all_eq_true]; intro p hp; obtain ⟨x, -, rfl⟩ := List.mem_map.1 hp; exact sc_map h _
theorem sc_flat {p q : PV} {c : List PV} {j : Nat} (h : p.sc = true) (hc : p.flat = some c) (hj : c[j]? = some q) : q.scalar = true := by
 cases p with
 | val v =>
  simp only [PV.flat] at hc
  split at hc
  · cases hc
    rcases j with _ | j
    · simp at hj; subst hj; rfl
    · simp at hj
  · cases hc
 | any => simp [PV.flat, PV.one] at hc
 | agg l =>
  simp only [PV.flat, Option.some.injEq] at hc
  subst hc
  have := List.all_eq_true.1 h q (List.mem_of_getElem? hj)
  split at this
  · rfl
  · rfl
  · cases this
 | _ => simp [PV.sc] at h

def outHO : HO → HO → Prop
 | .arr _ s e l, ho => ho = .arr true s e l
 | .grid e1 e2 rows, ho => ho = .grid e1 e2 rows
 | .pg e1 e2 n rows, ho => rows.length = n ∧ ho = .grid e1 e2 rows
 | .sg e1 e2 n rows, ho => ho = .sg e1 e2 n rows
 | _, _ => False

theorem HOwn.out {g : Ghost} {ρ : Nat → Loc} {hp : List HO} {w : World} {D D' : Nat → Bool} {x ho : HO} {L : Loc} (h : HOwn g ρ hp w D x L) (hx : outHO x ho) (hs : scHO ho = true) (hD : ∀ b, foot x L b → D' b = true) (ρ' : Nat → Loc) (hp' : List HO) : HOwn g0 ρ' hp' w D' ho L := by
 have grid : ∀ {e1 e2 n rows cur rc}, GridOwn g w D e1 e2 n rows L cur rc → n = rows.length → (∀ b, foot (.grid e1 e2 rows) L b → D' b = true) → scHO (.grid e1 e2 rows) = true → HOwn g0 ρ' hp' w D' (.grid e1 e2 rows) L := fun {e1 e2 n rows cur rc} h hn hD hs => by
  subst hn
  refine ⟨cur, rc, { h with hB := hD _ (.inl rfl), hB' := fun i hi => hD _ (.inr ⟨i, hi, rfl⟩), hv := fun i r j q hr hq => ⟨(h.hv i r j q hr hq).1, ?_⟩, hg := fun _ => rfl, hg' := fun _ _ _ => rfl }⟩
  have h1 := (h.hv i r j q hr hq)
  have h2 := List.all_eq_true.1 (List.all_eq_true.1 hs r (List.mem_of_getElem? hr)) q (List.mem_of_getElem? hq)
  exact h1.2.scalar (sc_flat h2 (flat_one h1.1) (j := 0) rfl)
 cases x with
 | gone => exact hx.elim
 | box l => exact hx.elim
 | mp _ _ => exact hx.elim
 | pin _ _ => exact hx.elim
 | arr mt s e l =>
  have hx' : ho = .arr true s e l := hx
  subst hx'
  obtain ⟨cur, c, h⟩ := h
  refine ⟨cur, c, { h with hB := hD _ rfl, hv := fun i j q hi hq => ?_, hg := fun o => by simp [g0] }⟩
  have hf := h.hf i l[i] (List.getElem?_eq_getElem hi)
  exact (h.hv i j q hi hq).scalar (sc_flat (List.all_eq_true.1 hs _ (List.getElem_mem hi)) hf.1 hq)
 | grid e1 e2 rows =>
  have hx' : ho = .grid e1 e2 rows := hx
  subst hx'
  obtain ⟨cur, rc, h⟩ := h
  exact grid h rfl hD hs
 | pg e1 e2 n rows =>
  obtain ⟨h1, rfl⟩ : rows.length = n ∧ ho = .grid e1 e2 rows := hx
  obtain ⟨cur, rc, h⟩ := h
  exact grid h h1.symm hD hs
 | sg e1 e2 n rows =>
  have hx' : ho = .sg e1 e2 n rows := hx
  subst hx'
  obtain ⟨cur, rc, h⟩ := h
  refine ⟨cur, rc, { h with hB := hD _ (.inl rfl), hB' := fun i hi => hD _ (.inr ⟨i, hi, rfl⟩), hh := fun i r hr => ⟨(h.hh i r hr).1, ?_⟩, hv := fun i r j q hr hq => ⟨(h.hv i r j q hr hq).1, ?_⟩, hg := fun _ => rfl, hg' := fun _ _ _ => rfl }⟩
  · have h1 := h.hh i r hr
    have h2 := List.all_eq_true.1 hs r (List.mem_of_getElem? hr)
    cases r with
    | nil => exact .any _
    | cons a r => exact h1.2.scalar (sc_flat (List.all_eq_true.1 h2 a (List.mem_cons_self ..)) (flat_one h1.1) (j := 0) rfl)
  · have h1 := (h.hv i r j q hr hq)
    have h2 := List.all_eq_true.1 (List.all_eq_true.1 hs r (List.mem_of_getElem? hr)) q (List.mem_of_mem_tail (List.mem_of_getElem? hq))
    exact h1.2.scalar (sc_flat h2 (flat_one h1.1) (j := 0) rfl)

theorem HpV.out {ρ : Nat → Loc} {hp : List HO} {v : Value} {id : Nat} {x ho : HO} (h : HpV ρ hp v id) (hid : hp[id]? = some x) (hx : outHO x ho) : HpV (fun _ => ρ id) [ho] v 0 := by
 cases x with
 | gone => exact hx.elim
 | box l => exact hx.elim
 | mp _ _ => exact hx.elim
 | pin _ _ => exact hx.elim
 | arr mt s e l =>
  have hx' : ho = .arr true s e l := hx
  subst hx'
  exact { sl := h.sl, arr := fun m s' e' l' hh => by simp at hh; obtain ⟨-, rfl, rfl, rfl⟩ := hh; exact h.arr _ _ _ _ hid, grid := fun e1 e2 rows hh => by simp at hh, sg := fun e1 e2 n rows hh => by simp at hh, pg := fun e1 e2 n rows hh => by simp at hh, box := fun l hh => by simp at hh }
 | grid e1 e2 rows =>
  have hx' : ho = .grid e1 e2 rows := hx
  subst hx'
  exact { sl := h.sl, arr := fun m s' e' l' hh => by simp at hh, grid := fun f1 f2 rows' hh => by simp at hh; obtain ⟨rfl, rfl, rfl⟩ := hh; exact h.grid _ _ _ hid, sg := fun e1 e2 n rows hh => by simp at hh, pg := fun e1 e2 n rows hh => by simp at hh, box := fun l hh => by simp at hh }
 | pg e1 e2 n rows =>
  obtain ⟨h1, rfl⟩ : rows.length = n ∧ ho = .grid e1 e2 rows := hx
  exact { sl := h.sl, arr := fun m s' e' l' hh => by simp at hh, grid := fun f1 f2 rows' hh => by simp at hh; obtain ⟨rfl, rfl, rfl⟩ := hh; rw [h1]; exact h.pg _ _ _ _ hid, sg := fun e1 e2 n rows hh => by simp at hh, pg := fun e1 e2 n rows hh => by simp at hh, box := fun l hh => by simp at hh }
 | sg e1 e2 n rows =>
  have hx' : ho = .sg e1 e2 n rows := hx
  subst hx'
  exact { sl := h.sl, arr := fun m s' e' l' hh => by simp at hh, grid := fun f1 f2 rows' hh => by simp at hh, sg := fun f1 f2 n' rows' hh => by simp at hh; obtain ⟨rfl, rfl, rfl, rfl⟩ := hh; exact h.sg _ _ _ _ hid, pg := fun e1 e2 n rows hh => by simp at hh, box := fun l hh => by simp at hh }

def RCalls (P : Program) (f : FuncId) (args : List PV) (ho : HO) (q : PV) : Prop :=
 ∀ (g : Ghost) (w : World) (vs : List Value), Agree g w → VRl g vs args → Calls P f vs.toArray w fun e w' =>
  ∃ v L, e = .returned v ∧ RowKit.Below w.heap.size w w' ∧ HOwn g0 (fun _ => L) [ho] w' (fun b => decide (w.heap.size ≤ b)) ho L ∧ VRS g0 (fun _ => L) [ho] v q

def ren1 (n : Nat) : PV → PV
 | .hp j => bif j == 0 then .hp n else .any
 | .hat _ _ | .gr _ _ | .gat _ _ _ | .hpv _ _ _ | .hatv _ _ _ _ => .any
 | p => p
def renA (n : Nat) : PV → PV
 | .agg l => .agg (l.map (ren1 n))
 | p => ren1 n p
def renP (n : Nat) : PV → PV
 | .tup l => .tup (l.map (renA n))
 | .agg l => .agg (l.map (ren1 n))
 | p => ren1 n p
theorem renA_map (n : Nat) : renA n = mapA (ren1 n) := by funext p; cases p <;> rfl
theorem renP_map (n : Nat) (p : PV) : renP n p = mapT (ren1 n) p := by cases p <;> first | rfl | simp only [renP, mapT, renA_map]

def ownable : HO → Bool
 | .arr mt _ _ _ => mt
 | .grid _ _ _ | .sg _ _ _ _ => true
 | _ => false
theorem outHO.ownable {x ho : HO} (h : outHO x ho) : ownable ho = true := by
 cases x <;> first | exact h.elim | (have h' : ho = _ := h; subst h'; rfl) | (obtain ⟨-, rfl⟩ := h; rfl)

theorem HOwn.in {g : Ghost} {ρ ρ' : Nat → Loc} {hp hp' : List HO} {w : World} {D D' : Nat → Bool} {ho : HO} {L : Loc} (h : HOwn g0 ρ hp w D ho L) (ho' : ownable ho = true) (hD : ∀ b, D b = true → D' b = true ∧ ∀ o, g b o = none) : HOwn g ρ' hp' w D' ho L := by
 cases ho with
 | gone => trivial
 | box l => cases ho'
 | mp _ _ => cases ho'
 | pin _ _ => cases ho'
 | pg e1 e2 n rows => cases ho'
 | arr mt s e l =>
  have hm : mt = true := ho'
  subst hm
  obtain ⟨cur, c, h⟩ := h
  exact ⟨cur, c, { h with hB := (hD _ h.hB).1, hv := fun i j q hi hq => (h.hv i j q hi hq).mono (g0_ext g), hg := fun o => by simp [(hD _ h.hB).2 o] }⟩
 | sg e1 e2 n rows =>
  obtain ⟨cur, rc, h⟩ := h
  exact ⟨cur, rc, { h with hB := (hD _ h.hB).1, hB' := fun i hi => (hD _ (h.hB' i hi)).1, hh := fun i r hr => ⟨(h.hh i r hr).1, (h.hh i r hr).2.mono (g0_ext g)⟩, hv := fun i r j q hr hq => ⟨(h.hv i r j q hr hq).1, (h.hv i r j q hr hq).2.mono (g0_ext g)⟩, hg := fun o => (hD _ h.hB).2 o, hg' := fun i o hi => (hD _ (h.hB' i hi)).2 o }⟩
 | grid e1 e2 rows =>
  obtain ⟨cur, rc, h⟩ := h
  exact ⟨cur, rc, { h with hB := (hD _ h.hB).1, hB' := fun i hi => (hD _ (h.hB' i hi)).1, hv := fun i r j q hr hq => ⟨(h.hv i r j q hr hq).1, (h.hv i r j q hr hq).2.mono (g0_ext g)⟩, hg := fun o => (hD _ h.hB).2 o, hg' := fun i o hi => (hD _ (h.hB' i hi)).2 o }⟩

section
variable {P : Program} {o : Oper} {S : St}

theorem e_callR {x : Operand} {xs : Array Operand} {tys : Array TypeId} {f : FuncId} [hf : FnT P f] {first caps args : List PV} {ho : HO} {q : PV} (ho' : o.op = .call { callee := .value x, args := xs, argTypes := tys }) (h1 : S.ev x = .fn f first caps)
 (h2 : argsLe (first ++ elemsM S.hp S.ev xs.toList ++ caps) args) (hown : ownable ho = true) (hc : RCalls P f args ho q) : EStep P o S (S.setObj S.hp.length (killH S.hp.length S.hp ++ [ho]) o.dst (renP S.hp.length q)) := by
 intro w0 g ρ a w hr Q K hK
 have hb := hr.base
 have hx : ∀ x ∈ o.op.operands, VRS g ρ S.hp (a.eval x) (S.ev x) := fun x _ => hr.ev x
 have e1 := hr.ev x
 rw [h1] at e1
 obtain ⟨fs, cs, ea, l1, l2, v1, v2⟩ := VR.fn_inv e1
 unfold Oper.wp
 rw [run_call ho' ea]
 have hx' := snap_ext hb.agree w0.own
 have hargs : VRl (snap g w w0.own) (fs ++ xs.map a.eval ++ cs).toList args := by
  refine VRl.le h2 ?_
  rw [Array.toList_append, Array.toList_append]
  refine ((VRl.of_array l1 fun i q hq => (v1 i q hq).mono hx').append ?_).append (VRl.of_array l2 fun i q hq => (v2 i q hq).mono hx')
  refine ⟨by simp [elemsM], fun i q hq => ?_⟩
  simp only [elemsM, List.getElem?_map, Option.map_eq_some_iff, Array.getElem?_toList] at hq
  obtain ⟨y, hy, rfl⟩ := hq
  have : (xs.map a.eval).toList.getD i undef = a.eval y := by simp [List.getD_eq_getElem?_getD, hy]
  rw [this]
  exact hb.viewM (hr.ev y)
 have := hc _ w _ (snap_agree hb.agree w0.own) hargs
 rw [Array.toArray_toList] at this
 refine this.mono fun e w' h => ?_
 obtain ⟨v, L, rfl, hbl, hho, hv⟩ := h
 have hgn : ∀ b, decide (w.heap.size ≤ b) = true → w0.own b = true ∧ ∀ o, g b o = none := fun b hb' => by
  have hb' : w.heap.size ≤ b := by simpa using hb'
  refine ⟨Ini.own_new (Nat.le_trans hb.below.size hb'), fun o => ?_⟩
  cases hk : g b o with
  | none => rfl
  | some v => exact absurd (hb.agree.lt hk) (by omega)
 have hown' : ∀ ρ' hp', HOwn g ρ' hp' w' w0.own ho L := fun ρ' hp' => hho.in hown hgn
 have hbase := hb.push (x' := ho) L (GExt.refl g) (killP1 S.hp.length) (fun v p h => h.kill S.hp.length _ (GExt.refl g) (fun i hi => killH_push _ _ hi)) (hb.agree.below hbl) hbl (hown' _ _) (fun b hb' => by
  have := (hho.foot_lt hb').1; simpa using this) (fun b hb' k => rfl)
 refine hK g _ _ w' (GExt.refl g) (hr.setObj S.hp.length L hbase (GExt.refl g) (fun i hi => killH_push _ _ hi) ?_ o.dst)
 rw [renP_map]
 have hg : (killH S.hp.length S.hp ++ [ho])[S.hp.length]? = some ho := by
  rw [List.getElem?_append_right (by simp [killH])]; simp [killH]
 refine hv.map fun u p hu => ?_
 cases p with
 | hp j =>
  rcases j with _ | j
  · have hu' : HpV (fun _ => L) [ho] u 0 := hu
    have h' : HpV (upd ρ S.hp.length L) (killH S.hp.length S.hp ++ [ho]) u S.hp.length := { sl := hu'.sl, arr := fun m s e l hh => by rw [hg] at hh; rw [upd_same]; exact hu'.arr m s e l hh, grid := fun f1 f2 rows hh => by rw [hg] at hh; rw [upd_same]; exact hu'.grid f1 f2 rows hh, sg := fun f1 f2 n rows hh => by rw [hg] at hh; rw [upd_same]; exact hu'.sg f1 f2 n rows hh, pg := fun f1 f2 n rows hh => by rw [hg] at hh; rw [upd_same]; exact hu'.pg f1 f2 n rows hh, box := fun l hh => by rw [hg] at hh; rw [upd_same]; exact hu'.box l hh }
    exact h'
  · exact .any u
 | hat _ _ => exact .any u
 | gr _ _ => exact .any u
 | gat _ _ _ => exact .any u
 | hpv _ _ _ => exact .any u
 | hatv _ _ _ _ => exact .any u
 | _ => exact VR.mono (g0_ext g) hu
end

/-! ### The end of such a call -/
def HandOut (S : St) (id : Nat) (ho : HO) : Prop := scHO ho = true ∧ ∃ x, S.hp[id]? = some x ∧ outHO x ho
theorem HandOut.arr {S : St} {id : Nat} {m : Bool} {s : Nat} {e : TypeId} {l l' : List PV} (h : S.hp[id]? = some (.arr m s e l)) (e' : l = l') (hs : l'.all PV.sc = true) : HandOut S id (.arr true s e l') := by
 subst e'; exact ⟨hs, _, h, rfl⟩
theorem HandOut.grid {S : St} {id : Nat} {e1 e2 : TypeId} {l l' : List (List PV)} (h : S.hp[id]? = some (.grid e1 e2 l)) (e' : l = l') (hs : (l'.all fun r => r.all PV.sc) = true) : HandOut S id (.grid e1 e2 l') := by
 subst e'; exact ⟨hs, _, h, rfl⟩
theorem HandOut.sg {S : St} {id : Nat} {e1 e2 : TypeId} {n n' : Nat} {l l' : List (List PV)} (h : S.hp[id]? = some (.sg e1 e2 n l)) (e' : l = l') (hn : n = n') (hs : (l'.all fun r => r.all PV.sc) = true) : HandOut S id (.sg e1 e2 n' l') := by
 subst e'; subst hn; exact ⟨hs, _, h, rfl⟩
theorem HandOut.pg {S : St} {id : Nat} {e1 e2 : TypeId} {n : Nat} {l l' : List (List PV)} (h : S.hp[id]? = some (.pg e1 e2 n l)) (e' : l = l') (hn : l'.length = n) (hs : (l'.all fun r => r.all PV.sc) = true) : HandOut S id (.grid e1 e2 l') := by
 subst e'; exact ⟨hs, _, h, hn, rfl⟩

theorem pcallsR_gen {P : Program} {f : FuncId} {fn : Func} {c : Code} {n : Nat} {args : List PV} {ho : HO} {q : PV} (KE : St → Nat → Prop)
 (hres : ∀ (S : St) (id : Nat) (w0 : Ini) (g : Ghost) (ρ : Nat → Loc) (a : Act) (w : World), KE S id → Rel w0 S g ρ a w → ∃ v, (results fn a.tmps).run P w = .ok v w ∧ VRS g0 (fun _ => ρ id) [ho] v q)
 (hf : P.funcs[f]? = some fn) (hb : fn.body = some c) (hn : fn.ntmps = n) (h : Goal P c (fun e S => (e = .normal ∨ e = .ret) ∧ ∃ id, HandOut S id ho ∧ KE S id) ⟨args ++ List.replicate (n - args.length) (.val undef), []⟩) : RCalls P f args ho q := by
 intro g w vs ha hv
 refine calls_of_wp hf hb ?_
 subst hn
 refine h ⟨w, g, fun _ => false⟩ g (fun _ => ⟨0, 0, fun _ => 0, fun _ => 0⟩) _ w _ (rel_start ha hv fn.ntmps _) ?_
 intro e S g' ρ' a' w' hk hr
 obtain ⟨id, ⟨hs, x, hx1, hx2⟩, hke⟩ := hk.2
 obtain ⟨v, hrun, hvr⟩ := hres S id _ _ _ _ _ hke hr
 have hbl := hr.base.below.plain
 have hend : a'.defers = [] ∧ ∃ v, (results fn a'.tmps).run P w' = .ok v w' ∧ ∃ v' L, Ending.returned v = .returned v' ∧ RowKit.Below w.heap.size w w' ∧ HOwn g0 (fun _ => L) [ho] w' (fun b => decide (w.heap.size ≤ b)) ho L ∧ VRS g0 (fun _ => L) [ho] v' q := by
  refine ⟨hr.dead, _, hrun, _, ρ' id, rfl, hbl, (hr.base.own id x hx1).out hx2 hs (fun b hb => ?_) _ _, hvr⟩
  have h1 := ((hr.base.own id x hx1).foot_lt hb).1
  have : ¬ b < w.heap.size := fun hlt => Ini.own_old (w0 := ⟨w, g, fun _ => false⟩) hlt rfl h1
  simp only [decide_eq_true_eq]; omega
 rcases hk.1 with rfl | rfl
 · exact hend
 · exact hend

def KRR (r : Tmp) (ho : HO) (e : Exit) (S : St) : Prop := (e = .normal ∨ e = .ret) ∧ ∃ id, HandOut S id ho ∧ S.ev (.tmp r) = .hp id
theorem krr {r : Tmp} {ho : HO} {S : St} (id : Nat) (h : S.ev (.tmp r) = .hp id) (hh : HandOut S id ho) : KRR r ho .ret S := ⟨.inr rfl, id, hh, h⟩
def KRR2 (r r2 : Tmp) (ho : HO) (v2 : Value) (e : Exit) (S : St) : Prop := (e = .normal ∨ e = .ret) ∧ ∃ id, HandOut S id ho ∧ S.ev (.tmp r) = .hp id ∧ S.ev (.tmp r2) = .val v2
section
variable {P : Program} {f : FuncId} {fn : Func} {c : Code} {n : Nat} {args : List PV} {ho : HO}
theorem hp_out {w0 : Ini} {S : St} {g : Ghost} {ρ : Nat → Loc} {a : Act} {w : World} (hr : Rel w0 S g ρ a w) {r : Tmp} {id : Nat} (hh : HandOut S id ho) (h : S.ev (.tmp r) = .hp id) : HpV (fun _ => ρ id) [ho] (a.tmps.getD r undef) 0 := by
 have := hr.ev (.tmp r)
 rw [h] at this
 obtain ⟨-, x, h1, h2⟩ := hh
 exact HpV.out this h1 h2
theorem pcallsR1 {r : Tmp} (hf : P.funcs[f]? = some fn) (hb : fn.body = some c) (hn : fn.ntmps = n) (hr : fn.results = #[.tmp r])
 (h : Goal P c (KRR r ho) ⟨args ++ List.replicate (n - args.length) (.val undef), []⟩) : RCalls P f args ho (.hp 0) :=
 pcallsR_gen (fun S id => HandOut S id ho ∧ S.ev (.tmp r) = .hp id) (fun S id w0 g ρ a w hk hrel => ⟨a.tmps.getD r undef, by simp [results, hr], hp_out hrel hk.1 hk.2⟩) hf hb hn
  (fun w0 g ρ a w Q hrel hQ => h w0 g ρ a w Q hrel fun e S' g' ρ' a' w' hk => hQ e S' g' ρ' a' w' ⟨hk.1, hk.2.elim fun id h' => ⟨id, h'.1, h'.1, h'.2⟩⟩)
end

theorem RCalls.plain {P : Program} {f : FuncId} {args : List PV} {ho : HO} {q q' : PV} (h : RCalls P f args ho q) (ho' : ownable ho = true) (hq : viewM [ho] q = q') : PCalls P f args q' := by
 intro g w vs ha hv
 refine (h g w vs ha hv).mono fun e w' ⟨v, L, he, hbl, hho, hvr⟩ => ?_
 have hgn : ∀ b, decide (w.heap.size ≤ b) = true → Ini.own ⟨w, g, fun _ => false⟩ b = true ∧ ∀ o, g b o = none := fun b hb' => by
  have hb' : w.heap.size ≤ b := by simpa using hb'
  refine ⟨Ini.own_new hb', fun o => ?_⟩
  cases hk : g b o with
  | none => rfl
  | some v => exact absurd (ha.lt hk) (by omega)
 have hbase : Base ⟨w, g, fun _ => false⟩ [ho] g (fun _ => L) w' := by
  refine ⟨⟨hbl.os, hbl.tape, hbl.output, hbl.size, fun k hk => hbl.block k (Ini.old_lt hk)⟩, ha.below hbl, fun _ _ _ => rfl, fun id x hx => ?_, fun i j x y b hij hx hy => ?_⟩
  · rcases id with _ | id
    · simp at hx; subst hx; exact hho.in ho' hgn
    · simp at hx
  · rcases i with _ | i
    · rcases j with _ | j
      · exact absurd rfl hij
      · simp at hy
    · simp at hx
 have hv' : VRS g (fun _ => L) [ho] v q := hvr.mono (g0_ext g)
 refine ⟨v, snap g w' (Ini.own ⟨w, g, fun _ => false⟩), he, snap_ext (ha.below hbl) _, fun b o hb => snap_old (Ini.own_old hb rfl) o, hbl, snap_agree (ha.below hbl) _, ?_⟩
 rw [← hq]
 exact hbase.viewM hv'
end Go.Pv

/- Calls that are lent an object of the caller's: they may write it, and it stays where it lies. -/
namespace Go.Pv
open Go

def footB (ho : HO) (L : Loc) (b : Nat) : Bool :=
 match ho with
 | .gone => false
 | .arr .. | .box _ | .mp _ _ | .pin _ _ => b == L.blk
 | .grid _ _ rows | .pg _ _ _ rows | .sg _ _ _ rows => b == L.blk || (List.range rows.length).any fun i => b == L.rows i
theorem footB_iff {ho : HO} {L : Loc} {b : Nat} : footB ho L b = true ↔ foot ho L b := by
 cases ho with
 | gone => simp [footB, foot]
 | arr mt s e l => simp [footB, foot]
 | box l => simp [footB, foot]
 | grid e1 e2 rows => simp [footB, foot]
 | pg e1 e2 n rows => simp [footB, foot]
 | sg e1 e2 n rows => simp [footB, foot]
 | mp k l => simp [footB, foot]
 | pin k l => simp [footB, foot]

def aloneHO : HO → Bool
 | .arr mt _ _ _ => mt
 | .grid _ _ _ | .sg _ _ _ _ => true
 | .box l => l.all fun p => match p with | .hp _ | .hat _ _ | .gr _ _ | .gat _ _ _ | .hpv _ _ _ | .hatv _ _ _ _ => false | _ => true
 | _ => false
theorem plain_VRS1 {g : Ghost} {ρ ρ' : Nat → Loc} {hp hp' : List HO} {v : Value} {p : PV} (hp1 : (match p with | .hp _ | .hat _ _ | .gr _ _ | .gat _ _ _ | .hpv _ _ _ | .hatv _ _ _ _ => false | _ => true) = true) (h : VRS1 g ρ hp v p) : VRS1 g ρ' hp' v p := by
 cases p <;> first | (cases hp1; done) | exact h
theorem HOwn.alone {g : Ghost} {ρ ρ' : Nat → Loc} {hp hp' : List HO} {w : World} {D D' : Nat → Bool} {ho : HO} {L : Loc} (h : HOwn g ρ hp w D ho L) (ha : aloneHO ho = true) (hD : ∀ b, foot ho L b → D' b = true) : HOwn g ρ' hp' w D' ho L := by
 cases ho with
 | gone => cases ha
 | pg e1 e2 n rows => cases ha
 | mp k l => cases ha
 | pin k l => cases ha
 | arr mt s e l => obtain ⟨cur, c, h⟩ := h; exact ⟨cur, c, { h with hB := hD _ rfl }⟩
 | grid e1 e2 rows => obtain ⟨cur, rc, h⟩ := h; exact ⟨cur, rc, { h with hB := hD _ (.inl rfl), hB' := fun i hi => hD _ (.inr ⟨i, hi, rfl⟩) }⟩
 | sg e1 e2 n rows => obtain ⟨cur, rc, h⟩ := h; exact ⟨cur, rc, { h with hB := hD _ (.inl rfl), hB' := fun i hi => hD _ (.inr ⟨i, hi, rfl⟩) }⟩
 | box l =>
  obtain ⟨cur, e, h⟩ := h
  refine ⟨cur, e, ⟨hD _ rfl, h.hw, h.hsz, fun k q hq => plain_VRS1 ?_ (h.hv k q hq), h.hg⟩⟩
  exact List.all_eq_true.1 ha q (List.mem_of_getElem? hq)

def VRSl (g : Ghost) (ρ : Nat → Loc) (hp : List HO) (vs : List Value) (ps : List PV) : Prop := vs.length = ps.length ∧ ∀ (i : Nat) (q : PV), ps[i]? = some q → VRS g ρ hp (vs.getD i undef) q

def LCalls (P : Program) (f : FuncId) (ho : HO) (args : List PV) (ho' : HO) (q : PV) : Prop :=
 ∀ (g : Ghost) (w : World) (L : Loc) (vs : List Value), Agree g w → HOwn g (fun _ => L) [ho] w (fun _ => true) ho L → VRSl g (fun _ => L) [ho] vs args → Calls P f vs.toArray w fun e w' =>
  ∃ v g' L', e = .returned v ∧ GExt g g' ∧ (∀ b o, ¬ Ini.own ⟨w, g, footB ho L⟩ b = true → g' b o = g b o) ∧ BelowL ⟨w, g, footB ho L⟩ w' ∧ Agree g' w' ∧ HOwn g' (fun _ => L') [ho'] w' (Ini.own ⟨w, g, footB ho L⟩) ho' L' ∧ L'.blk = L.blk ∧ L'.cap = L.cap ∧ VR g' v q

def lend1 (n : Nat) (hp : List HO) : PV → PV
 | .hp j => bif j == n then .hp 0 else view1 hp (.hp j)
 | .hat j i => bif j == n then .hat 0 i else .any
 | .hpv j _ _ => bif j == n then .hp 0 else .any
 | .hatv j i _ _ => bif j == n then .hat 0 i else .any
 | .gr _ _ | .gat _ _ _ => .any
 | p => p
def lendA (n : Nat) (hp : List HO) : PV → PV
 | .agg l => .agg (l.map (lend1 n hp))
 | p => lend1 n hp p
def lendP (n : Nat) (hp : List HO) : PV → PV
 | .tup l => .tup (l.map (lendA n hp))
 | .agg l => .agg (l.map (lend1 n hp))
 | p => lend1 n hp p
theorem lendA_map (n : Nat) (hp : List HO) : lendA n hp = mapA (lend1 n hp) := by funext p; cases p <;> rfl
theorem lendP_map (n : Nat) (hp : List HO) (p : PV) : lendP n hp p = mapT (lend1 n hp) p := by cases p <;> first | rfl | simp only [lendP, mapT, lendA_map]

def leS (p q : PV) : Prop := ∀ g ρ hp v, VRS g ρ hp v p → VRS g ρ hp v q
theorem leS_refl (p : PV) : leS p p := fun _ _ _ _ h => h
theorem leS_any (p : PV) : leS p .any := fun _ _ _ v _ => VR.any v
theorem leS_nn (s : Nat) (nn : Option Bool) (l : List PV) : leS (.sl s nn l) (.sl s none l) := fun g _ _ v h => PV.le_nn s nn l g v h
theorem leS_nil (s : Nat) : leS nilV (.sl s none []) := fun g _ _ v h => PV.le_nil s g v h
def argsLS : List PV → List PV → Prop
 | [], [] => True
 | p :: l, q :: m => leS p q ∧ argsLS l m
 | _, _ => False
theorem VRSl.le {g : Ghost} {ρ : Nat → Loc} {hp : List HO} : ∀ {vs : List Value} {l m : List PV}, argsLS l m → VRSl g ρ hp vs l → VRSl g ρ hp vs m
 | [], [], [], _, h => h
 | v :: vs, p :: l, q :: m, hl, h => by
  have ih : VRSl g ρ hp vs m := VRSl.le hl.2 ⟨by simpa using h.1, fun i r hr => by simpa using h.2 (i + 1) r (by simpa using hr)⟩
  refine ⟨by simp [ih.1], fun i r hr => ?_⟩
  cases i with
  | zero => simp at hr; subst hr; simpa using hl.1 g ρ hp v (by simpa using h.2 0 p rfl)
  | succ i => simpa using ih.2 i r (by simpa using hr)
 | [], _ :: _, _, _, h => by simp [VRSl] at h
 | _ :: _, [], _, _, h => by simp [VRSl] at h
 | [], [], _ :: _, hl, _ => hl.elim
 | _ :: _, _ :: _, [], hl, _ => hl.elim

def krow1 (n : Nat) : PV → PV
 | .gr j i => bif j == n then .any else .gr j i
 | .gat j i k => bif j == n then .any else .gat j i k
 | p => p
def krowA (n : Nat) : PV → PV
 | .agg l => .agg (l.map (krow1 n))
 | p => krow1 n p
def krowP (n : Nat) : PV → PV
 | .tup l => .tup (l.map (krowA n))
 | .agg l => .agg (l.map (krow1 n))
 | p => krow1 n p
theorem krowA_map (n : Nat) : krowA n = mapA (krow1 n) := by funext p; cases p <;> rfl
theorem krowP_map (n : Nat) (p : PV) : krowP n p = mapT (krow1 n) p := by cases p <;> first | rfl | simp only [krowP, mapT, krowA_map]

def sameShape : HO → HO → Prop
 | .arr m s e l, .arr m' s' e' l' => m = m' ∧ s = s' ∧ e = e' ∧ l.length = l'.length
 | .grid e1 e2 rows, .grid e1' e2' rows' => e1 = e1' ∧ e2 = e2' ∧ rows.length = rows'.length
 | .sg e1 e2 n rows, .sg e1' e2' n' rows' => e1 = e1' ∧ e2 = e2' ∧ n = n' ∧ rows.length = rows'.length
 | .box l, .box l' => l.length = l'.length
 | _, _ => False

theorem VRS1.shape {g g' : Ghost} {ρ : Nat → Loc} {hp : List HO} {n : Nat} {ho ho' : HO} {L' : Loc} (hx : GExt g g') (hid : hp[n]? = some ho) (hsh : sameShape ho ho') (hb : L'.blk = (ρ n).blk) (hc : L'.cap = (ρ n).cap) {v : Value} {p : PV} (h : VRS1 g ρ hp v p) :
 VRS1 g' (upd ρ n L') ((hp.map (mapHO (krow1 n))).set n ho') v (krow1 n p) := by
 have hlt : n < hp.length := (List.getElem?_eq_some_iff.1 hid).1
 have blk : ∀ j, (upd ρ n L' j).blk = (ρ j).blk ∧ (upd ρ n L' j).cap = (ρ j).cap := fun j => by
  by_cases e : j = n
  · subst e; rw [upd_same]; exact ⟨hb, hc⟩
  · rw [upd_ne _ _ e]; exact ⟨rfl, rfl⟩
 have get : ∀ (j : Nat) (y : HO), ((hp.map (mapHO (krow1 n))).set n ho')[j]? = some y → (j = n ∧ y = ho') ∨ (j ≠ n ∧ (hp[j]?).map (mapHO (krow1 n)) = some y) := fun j y hj => by
  by_cases e : j = n
  · subst e; rw [List.getElem?_set_self (by simpa using hlt)] at hj; exact .inl ⟨rfl, (Option.some.inj hj).symm⟩
  · rw [List.getElem?_set_ne (Ne.symm e), List.getElem?_map] at hj; exact .inr ⟨e, hj⟩
 have key : ∀ {j}, HpV ρ hp v j → HpV (upd ρ n L') ((hp.map (mapHO (krow1 n))).set n ho') v j := fun {j} h =>
  { sl := h.sl
    arr := fun m s e l hj => by
     rw [(blk j).1, (blk j).2]
     rcases get j _ hj with ⟨rfl, rfl⟩ | ⟨-, h'⟩
     · cases ho with
       | arr m' s' e' l' => have := hsh; simp only [sameShape] at this; rw [← this.2.2.2]; exact h.arr _ _ _ _ hid
       | _ => exact hsh.elim
     · exact h.arr _ _ _ _ (mapHO_arr h')
    grid := fun e1 e2 rows hj => by
     rw [(blk j).1, (blk j).2]
     rcases get j _ hj with ⟨rfl, rfl⟩ | ⟨-, h'⟩
     · cases ho with
       | grid f1 f2 rows' => have := hsh; simp only [sameShape] at this; rw [← this.2.2]; exact h.grid _ _ _ hid
       | _ => exact hsh.elim
     · exact h.grid _ _ _ (mapHO_grid h')
    sg := fun e1 e2 m rows hj => by
     rw [(blk j).1, (blk j).2]
     rcases get j _ hj with ⟨rfl, rfl⟩ | ⟨-, h'⟩
     · cases ho with
       | sg f1 f2 m' rows' => have := hsh; simp only [sameShape] at this; rw [← this.2.2.2, ← this.2.2.1]; exact h.sg _ _ _ _ hid
       | _ => exact hsh.elim
     · exact h.sg _ _ _ _ (mapHO_sg h')
    pg := fun e1 e2 m rows hj => by
     rw [(blk j).1, (blk j).2]
     rcases get j _ hj with ⟨rfl, rfl⟩ | ⟨-, h'⟩
     · cases ho <;> exact hsh.elim
     · exact h.pg _ _ _ _ (mapHO_pg h')
    box := fun l hj => by
     rw [(blk j).1, (blk j).2]
     rcases get j _ hj with ⟨rfl, rfl⟩ | ⟨-, h'⟩
     · cases ho with
       | box l0 => have := hsh; simp only [sameShape] at this; rw [← this]; exact h.box _ hid
       | _ => exact hsh.elim
     · obtain ⟨l0, h0, hl⟩ := mapHO_box h'
       rw [← hl]; exact h.box _ h0 }
 cases p with
 | hp j => exact key h
 | hpv j b c => exact ⟨key h.1, by rw [(blk j).1, (blk j).2]; exact h.2⟩
 | hat j i => show v = _; rw [(blk j).1]; exact h
 | hatv j i b c => show v = _ ∧ _; rw [(blk j).1, (blk j).2]; exact h
 | gr j i =>
  simp only [krow1]
  cases hb : (j == n) with
  | true => exact .any v
  | false =>
   have e : j ≠ n := by simpa using hb
   refine (⟨GrV.sl h, fun e1 e2 rows r hj hr => ?_, fun e1 e2 _n rows r hj hr => ?_⟩ : GrV _ _ _ _ _)
   rotate_left
   · rcases get j _ hj with ⟨h', -⟩ | ⟨-, h'⟩
     · exact absurd h' e
     · rw [upd_ne _ _ e]; exact GrV.sg h _ _ _ _ _ (mapHO_sg h') hr
   rcases get j _ hj with ⟨h', -⟩ | ⟨-, h'⟩
   · exact absurd h' e
   · rw [upd_ne _ _ e]; exact GrV.grid h _ _ _ _ (mapHO_grid h') hr
 | gat j i k =>
  simp only [krow1]
  cases hb : (j == n) with
  | true => exact .any v
  | false =>
   have e : j ≠ n := by simpa using hb
   show v = _
   rw [upd_ne _ _ e]; exact h
 | _ => exact VR.mono hx h

section
variable {P : Program} {o : Oper} {S : St}

theorem e_callL {x : Operand} {xs : Array Operand} {tys : Array TypeId} {f : FuncId} [hf : FnT P f] {first caps args : List PV} {n : Nat} {ho ho' : HO} {q : PV} (hop : o.op = .call { callee := .value x, args := xs, argTypes := tys }) (h1 : S.ev x = .fn f first caps) (hn : S.hp[n]? = some ho)
 (h2 : argsLS (first ++ (xs.toList.map fun y => lendP n S.hp (S.ev y)) ++ caps) args) (ha : aloneHO ho = true) (ha' : aloneHO ho' = true) (hsh : sameShape ho ho') (hc : LCalls P f ho args ho' q) :
 EStep P o S (St.put ⟨S.fr.map (krowP n), (S.hp.map (mapHO (krow1 n))).set n ho'⟩ o.dst q) := by
 intro w0 g ρ a w hr Q K hK
 have hb := hr.base
 have e1 := hr.ev x
 rw [h1] at e1
 obtain ⟨fs, cs, ea, l1, l2, v1, v2⟩ := VR.fn_inv e1
 unfold Oper.wp
 rw [run_call hop ea]
 have hone : ∀ v p, VRS1 g ρ S.hp v p → VRS1 g (fun _ => ρ n) [ho] v (lend1 n S.hp p) := fun v p hv => by
  have keyH : ∀ {j}, j = n → HpV ρ S.hp v j → HpV (fun _ => ρ n) [ho] v 0 := fun {j} e h => by
   subst e
   exact { sl := h.sl, arr := fun m s e l hh => by simp at hh; subst hh; exact h.arr _ _ _ _ hn, grid := fun e1 e2 rows hh => by simp at hh; subst hh; exact h.grid _ _ _ hn, sg := fun e1 e2 m rows hh => by simp at hh; subst hh; exact h.sg _ _ _ _ hn, pg := fun e1 e2 m rows hh => by simp at hh; subst hh; exact h.pg _ _ _ _ hn, box := fun l hh => by simp at hh; subst hh; exact h.box _ hn }
  cases p with
  | hp j =>
   simp only [lend1]
   cases hbj : (j == n) with
   | true => exact keyH (by simpa using hbj) hv
   | false => exact .of_VR (hb.view1 (p := .hp j) hv)
  | hpv j b c =>
   simp only [lend1]
   cases hbj : (j == n) with
   | true => exact keyH (by simpa using hbj) hv.1
   | false => exact VR.any v
  | hat j i =>
   simp only [lend1]
   cases hbj : (j == n) with
   | true => have e : j = n := by simpa using hbj
             subst e; exact hv
   | false => exact VR.any v
  | hatv j i b c =>
   simp only [lend1]
   cases hbj : (j == n) with
   | true => have e : j = n := by simpa using hbj
             subst e; exact hv.1
   | false => exact VR.any v
  | gr _ _ => exact VR.any v
  | gat _ _ _ => exact VR.any v
  | _ => exact hv
 have hargs : VRSl g (fun _ => ρ n) [ho] (fs ++ xs.map a.eval ++ cs).toList args := by
  refine VRSl.le h2 ?_
  have app : ∀ {us vs : List Value} {l m : List PV}, VRSl g (fun _ => ρ n) [ho] us l → VRSl g (fun _ => ρ n) [ho] vs m → VRSl g (fun _ => ρ n) [ho] (us ++ vs) (l ++ m) := fun {us vs l m} h k => by
   refine ⟨by simp [h.1, k.1], fun i q hq => ?_⟩
   rcases Nat.lt_or_ge i l.length with hlt | hge
   · rw [List.getElem?_append_left hlt] at hq
     have := h.2 i q hq
     simpa [List.getD_eq_getElem?_getD, List.getElem?_append_left (show i < us.length by rw [h.1]; exact hlt)] using this
   · rw [List.getElem?_append_right hge] at hq
     have := k.2 _ q hq
     simpa [List.getD_eq_getElem?_getD, List.getElem?_append_right (show us.length ≤ i by rw [h.1]; exact hge), h.1] using this
  have arr : ∀ {us : Array Value} {l : List PV}, us.size = l.length → (∀ i q, l[i]? = some q → VR g (us.getD i undef) q) → VRSl g (fun _ => ρ n) [ho] us.toList l := fun {us l} h1 h2 => by
   have := VRl.of_array h1 h2
   exact ⟨this.1, fun i q hq => .of_VR (this.2 i q hq)⟩
  rw [Array.toList_append, Array.toList_append]
  refine app (app (arr l1 v1) ?_) (arr l2 v2)
  refine ⟨by simp, fun i q hq => ?_⟩
  simp only [List.getElem?_map, Option.map_eq_some_iff, Array.getElem?_toList] at hq
  obtain ⟨y, hy, rfl⟩ := hq
  have : (xs.map a.eval).toList.getD i undef = a.eval y := by simp [List.getD_eq_getElem?_getD, hy]
  rw [this, lendP_map]
  exact (hr.ev y).map hone
 have hlt : n < S.hp.length := (List.getElem?_eq_some_iff.1 hn).1
 have := hc g w (ρ n) _ hb.agree ((hb.own n ho hn).alone ha (fun _ _ => rfl)) hargs
 rw [Array.toArray_toList] at this
 refine this.mono fun e w' h => ?_
 obtain ⟨v, g', L', rfl, hx, hold, hbl, hag, hho, hb1, hc1, hv⟩ := h
 have hown : ∀ b, Ini.own ⟨w, g, footB ho (ρ n)⟩ b = true → foot ho (ρ n) b ∨ w.heap.size ≤ b := fun b hb' => by
  unfold Ini.own at hb'
  rw [Bool.or_eq_true] at hb'
  rcases hb' with h | h
  · right; simpa using h
  · left; exact footB_iff.1 h
 have hnot : ∀ b, b < w.heap.size → ¬ foot ho (ρ n) b → ¬ Ini.own ⟨w, g, footB ho (ρ n)⟩ b = true := fun b hb1 hb2 hb3 => by
  rcases hown b hb3 with h | h
  · exact hb2 h
  · omega
 have hφ := fun v p (h : VRS1 g ρ S.hp v p) => VRS1.shape (L' := L') hx hn hsh hb1 hc1 h
 have hw0 : ∀ b, ¬ w0.own b = true → ¬ Ini.own ⟨w, g, footB ho (ρ n)⟩ b = true := fun b hb' hb2 => by
  rcases hown b hb2 with h | h
  · exact hb' ((hb.own n ho hn).foot_lt h).1
  · exact hb' (Ini.own_new (Nat.le_trans hb.below.size h))
 have hD : ∀ b, foot ho' L' b → w0.own b = true := fun b hb' => by
  rcases hown b ((hho.foot_lt hb').1) with h | h
  · exact ((hb.own n ho hn).foot_lt h).1
  · exact Ini.own_new (Nat.le_trans hb.below.size h)
 have hbase := hb.upd hn (x' := ho') L' hx (krow1 n) hφ hag ⟨hbl.os.trans hb.below.os, hbl.tape.trans hb.below.tape, hbl.output.trans hb.below.output, Nat.le_trans hb.below.size hbl.size, fun k hk => (hbl.block k (hw0 k hk)).trans (hb.below.block k hk)⟩
  (fun b o hb' => hold b o (hw0 b hb')) (hho.alone ha' hD) (fun b hb' => by
   rcases hown b ((hho.foot_lt hb').1) with h | h
   · exact .inl h
   · exact .inr (.inl h)) (fun b hb1 hb2 => ⟨hbl.block b (hnot b hb1 hb2), fun o => hold b o (hnot b hb1 hb2)⟩)
 have hrel : Rel w0 ⟨S.fr.map (krowP n), (S.hp.map (mapHO (krow1 n))).set n ho'⟩ g' (upd ρ n L') a w' := ⟨hbase, hr.dead, by simp [hr.size], fun i p hp => by
  simp only [List.getElem?_map, Option.map_eq_some_iff] at hp
  obtain ⟨p, hp, rfl⟩ := hp
  rw [krowP_map]
  exact (hr.fr i p hp).map hφ⟩
 exact hK g' _ _ w' hx (hrel.put hbase (GExt.refl g') (.of_VR hv) o.dst)
end

/-! ### The end of such a call -/
def pin1 (b c : Nat) : PV → PV
 | .hp j => bif j == 0 then .hpv 0 b c else .hp j
 | .hat j i => bif j == 0 then .hatv 0 i b c else .hat j i
 | p => p
def pinP (b c : Nat) : PV → PV
 | .agg l => .agg (l.map (pin1 b c))
 | p => pin1 b c p
def Stays (S : St) (b c : Nat) : Prop := ∃ j, S.ev (.tmp j) = .hpv 0 b c ∨ ∃ i, S.ev (.tmp j) = .hatv 0 i b c

theorem pcallsL_gen {P : Program} {f : FuncId} {fn : Func} {c : Code} {n : Nat} {ho ho' : HO} {args : List PV} {q : PV} (KE : St → Prop)
 (hres : ∀ (S : St) (w0 : Ini) (g : Ghost) (ρ : Nat → Loc) (a : Act) (w : World) (D : Nat → Bool), KE S → Rel w0 S g ρ a w → (∀ id ho b, S.hp[id]? = some ho → foot ho (ρ id) b → D b = true) → ∃ v, (results fn a.tmps).run P w = .ok v w ∧ VR (snap g w D) v q)
 (hf : P.funcs[f]? = some fn) (hb : fn.body = some c) (hn : fn.ntmps = n) (hal : aloneHO ho = true) (hal' : aloneHO ho' = true)
 (h : ∀ b d, Goal P c (fun e S => (e = .normal ∨ e = .ret) ∧ S.hp[0]? = some ho' ∧ Stays S b d ∧ KE ⟨S.fr, S.hp.set 0 .gone⟩) ⟨args.map (pinP b d) ++ List.replicate (n - args.length) (.val undef), [ho]⟩) (hat : ∀ p ∈ args, ∀ l, p ≠ .tup l) : LCalls P f ho args ho' q := by
 intro g w L vs ha hho hv
 refine calls_of_wp hf hb ?_
 subst hn
 have hpin : ∀ v p, VRS1 g (fun _ => L) [ho] v p → VRS1 g (fun _ => L) [ho] v (pin1 L.blk L.cap p) := fun v p h => by
  cases p with
  | hp j => rcases j with _ | j; exact ⟨h, rfl, rfl⟩; exact h
  | hat j i => rcases j with _ | j; exact ⟨h, rfl, rfl⟩; exact h
  | _ => exact h
 have hrel : Rel ⟨w, g, footB ho L⟩ ⟨args.map (pinP L.blk L.cap) ++ List.replicate (fn.ntmps - args.length) (.val undef), [ho]⟩ g (fun _ => L) { tmps := vs.toArray ++ Array.replicate (fn.ntmps - vs.toArray.size) undef, defers := [] } w := by
  refine ⟨⟨BelowL.refl _, ha, fun _ _ _ => rfl, fun id x hx => ?_, fun i j x y b hij hx hy => ?_⟩, rfl, by simp [hv.1], fun i p hp => ?_⟩
  · rcases id with _ | id
    · simp at hx; subst hx; exact hho.alone hal (fun b hb => Ini.own_lent (footB_iff.2 hb))
    · simp at hx
  · rcases i with _ | i
    · rcases j with _ | j
      · exact absurd rfl hij
      · simp at hy
    · simp at hx
  · rcases Nat.lt_or_ge i args.length with hlt | hge
    · rw [List.getElem?_append_left (by simpa using hlt), List.getElem?_map, Option.map_eq_some_iff] at hp
      obtain ⟨p, hp, rfl⟩ := hp
      have := hv.2 i p hp
      have hlt' : i < vs.length := by rw [hv.1]; exact hlt
      have e : (vs.toArray ++ Array.replicate (fn.ntmps - vs.toArray.size) undef).getD i undef = vs.getD i undef := by
       simp [Array.getD_eq_getD_getElem?, Array.getElem?_append, List.getD_eq_getElem?_getD, hlt']
      show VRS g (fun _ => L) [ho] ((vs.toArray ++ Array.replicate (fn.ntmps - vs.toArray.size) undef).getD i undef) _
      rw [e]
      have hm : p ∈ args := List.mem_of_getElem? hp
      cases p with
      | tup l => exact absurd rfl (hat _ hm l)
      | agg l => exact VRS.map (φ := pin1 L.blk L.cap) hpin this
      | _ => exact VRS.of_one (hpin _ _ (VRS.to_one this (by simp) (by simp)))
    · rw [List.getElem?_append_right (by simpa using hge), List.getElem?_replicate] at hp
      split at hp
      · rename_i h'
        simp only [Option.some.injEq] at hp
        subst hp
        simp only [List.length_map] at h'
        have hge' : ¬ i < vs.length := by rw [hv.1]; omega
        have hlt2 : i - vs.length < fn.ntmps - vs.length := by rw [hv.1]; exact h'
        have e : (vs.toArray ++ Array.replicate (fn.ntmps - vs.toArray.size) undef).getD i undef = undef := by
         simp [Array.getD_eq_getD_getElem?, Array.getElem?_append, hge', hlt2]
        show VRS g (fun _ => L) [ho] ((vs.toArray ++ Array.replicate (fn.ntmps - vs.toArray.size) undef).getD i undef) _
        rw [e]; exact .of_VR (.val _)
      · cases hp
 refine h L.blk L.cap ⟨w, g, footB ho L⟩ g (fun _ => L) _ w _ hrel ?_
 intro e S g' ρ' a' w' hk hr
 obtain ⟨he, h0, ⟨j, hj⟩, hke⟩ := hk
 have hblk : (ρ' 0).blk = L.blk ∧ (ρ' 0).cap = L.cap := by
  have hs := hr.ev (.tmp j)
  rcases hj with hj | ⟨i, hj⟩
  · rw [hj] at hs; exact hs.2
  · rw [hj] at hs; exact hs.2
 have hw := hr.weaken (S' := ⟨S.fr, S.hp.set 0 .gone⟩) ⟨frLe_refl _, fun id x hx => by
  rw [List.getElem?_set] at hx
  split at hx
  · split at hx
    · left; exact (Option.some.inj hx).symm
    · cases hx
  · right; exact hx⟩
 let D : Nat → Bool := fun b => Ini.own ⟨w, g, footB ho L⟩ b && !footB ho' (ρ' 0) b
 have hD : ∀ id ho b, (S.hp.set 0 .gone)[id]? = some ho → foot ho (ρ' id) b → D b = true := fun id x b hx hf => by
  have h1 := hw.base.ownD id x b hx hf
  rw [List.getElem?_set] at hx
  split at hx
  · split at hx
    · cases hx; exact hf.elim
    · cases hx
  · rename_i hne
    have h2 : footB ho' (ρ' 0) b = false := by
     cases hc : footB ho' (ρ' 0) b with
     | false => rfl
     | true => exact (hr.base.sep 0 id _ _ b hne h0 hx (footB_iff.1 hc) hf).elim
    show (Ini.own ⟨w, g, footB ho L⟩ b && !footB ho' (ρ' 0) b) = true
    rw [h2, h1]; rfl
 obtain ⟨v, hrun, hvr⟩ := hres _ _ _ _ _ _ D hke hw hD
 have hend : a'.defers = [] ∧ ∃ v, (results fn a'.tmps).run P w' = .ok v w' ∧ ∃ v' g'' L', Ending.returned v = .returned v' ∧ GExt g g'' ∧ (∀ b o, ¬ Ini.own ⟨w, g, footB ho L⟩ b = true → g'' b o = g b o) ∧ BelowL ⟨w, g, footB ho L⟩ w' ∧ Agree g'' w' ∧ HOwn g'' (fun _ => L') [ho'] w' (Ini.own ⟨w, g, footB ho L⟩) ho' L' ∧ L'.blk = L.blk ∧ L'.cap = L.cap ∧ VR g'' v' q := by
  have hag := hr.base.agree
  have hnD : ∀ b, ¬ Ini.own ⟨w, g, footB ho L⟩ b = true → ¬ D b = true := fun b hb hd => by
   have hd' : (Ini.own ⟨w, g, footB ho L⟩ b && !footB ho' (ρ' 0) b) = true := hd
   rw [Bool.and_eq_true] at hd'
   exact hb hd'.1
  refine ⟨hr.dead, _, hrun, _, snap g' w' D, ρ' 0, rfl, ?_, fun b o hb => ?_, hr.base.below, snap_agree hag _, ?_, hblk.1, hblk.2, hvr⟩
  · -- the map has grown
    intro b o u hu
    by_cases hb : D b = true
    · unfold snap
      rw [if_pos hb]
      by_cases ho' : Ini.own ⟨w, g, footB ho L⟩ b = true
      · -- an own block: lent ones are not in the map, new ones neither
        have hlt := ha.lt hu
        have hlent : footB ho L b = true := by
         unfold Ini.own at ho'
         rw [decide_eq_false (show ¬ w.heap.size ≤ b by omega), Bool.false_or] at ho'
         exact ho'
        have hnone : g b o = none := by
         have hf := footB_iff.1 hlent
         cases ho with
         | gone => exact hf.elim
         | pg e1 e2 n rows => cases hal
         | mp k l => cases hal
         | pin k l => cases hal
         | arr mt s e l =>
          have hm : mt = true := hal
          subst hm
          obtain ⟨cur, c, h⟩ := hho
          have hf' : b = L.blk := hf
          rw [hf', h.hg o]; simp
         | box l =>
          obtain ⟨cur, e, h⟩ := hho
          have hf' : b = L.blk := hf
          rw [hf']; exact h.hg o
         | grid e1 e2 rows =>
          obtain ⟨cur, rc, h⟩ := hho
          rcases hf with rfl | ⟨i, hi, rfl⟩
          · exact h.hg o
          · exact h.hg' i o hi
         | sg e1 e2 n rows =>
          obtain ⟨cur, rc, h⟩ := hho
          rcases hf with rfl | ⟨i, hi, rfl⟩
          · exact h.hg o
          · exact h.hg' i o hi
        rw [hnone] at hu; cases hu
      · exact absurd hb (hnD b ho')
    · rw [snap_old hb]
      by_cases ho' : Ini.own ⟨w, g, footB ho L⟩ b = true
      · have hlt := ha.lt hu
        have hlent : footB ho L b = true := by
         unfold Ini.own at ho'
         rw [decide_eq_false (show ¬ w.heap.size ≤ b by omega), Bool.false_or] at ho'
         exact ho'
        have hnone : g b o = none := by
         have hf := footB_iff.1 hlent
         cases ho with
         | gone => exact hf.elim
         | pg e1 e2 n rows => cases hal
         | mp k l => cases hal
         | pin k l => cases hal
         | arr mt s e l =>
          have hm : mt = true := hal
          subst hm
          obtain ⟨cur, c, h⟩ := hho
          have hf' : b = L.blk := hf
          rw [hf', h.hg o]; simp
         | box l =>
          obtain ⟨cur, e, h⟩ := hho
          have hf' : b = L.blk := hf
          rw [hf']; exact h.hg o
         | grid e1 e2 rows =>
          obtain ⟨cur, rc, h⟩ := hho
          rcases hf with rfl | ⟨i, hi, rfl⟩
          · exact h.hg o
          · exact h.hg' i o hi
         | sg e1 e2 n rows =>
          obtain ⟨cur, rc, h⟩ := hho
          rcases hf with rfl | ⟨i, hi, rfl⟩
          · exact h.hg o
          · exact h.hg' i o hi
        rw [hnone] at hu; cases hu
      · rw [hr.base.old b o ho']; exact hu
  · rw [snap_old (hnD b hb)]; exact hr.base.old b o hb
  · have hfin := (hr.base.own 0 ho' h0)
    have hsn : ∀ b, foot ho' (ρ' 0) b → ∀ o, snap g' w' D b o = g' b o := fun b hb o => snap_old (fun hd => by
     have hd' : (Ini.own ⟨w, g, footB ho L⟩ b && !footB ho' (ρ' 0) b) = true := hd
     rw [footB_iff.2 hb] at hd'
     simp at hd') o
    have := hfin.keep (g' := snap g' w' D) (ρ' := ρ') (hp' := S.hp) (w' := w') (snap_ext hag D) _root_.id (fun v p h => VRS1.mono (snap_ext hag D) h) (fun b hb => ⟨rfl, hsn b hb⟩)
    rw [mapHO_id] at this
    exact this.alone hal' (fun b hb => (hfin.foot_lt hb).1)
 rcases he with rfl | rfl
 · exact hend
 · exact hend

def KRL (r : Tmp) (b d : Nat) (ho' : HO) (q : PV) (e : Exit) (S : St) : Prop := (e = .normal ∨ e = .ret) ∧ S.hp[0]? = some ho' ∧ Stays S b d ∧ KR ⟨S.fr, S.hp.set 0 .gone⟩ r q
theorem krl {r : Tmp} {b d : Nat} {ho' ho2 : HO} {q : PV} {S : St} (j : Nat) (h0 : S.hp[0]? = some ho2) (he : ho2 = ho') (hj : S.ev (.tmp j) = .hpv 0 b d) (hq : KR ⟨S.fr, S.hp.set 0 .gone⟩ r q) : KRL r b d ho' q .ret S := ⟨.inr rfl, he ▸ h0, ⟨j, .inl hj⟩, hq⟩
theorem krlh {r : Tmp} {b d : Nat} {ho' ho2 : HO} {q : PV} {S : St} (j i : Nat) (h0 : S.hp[0]? = some ho2) (he : ho2 = ho') (hj : S.ev (.tmp j) = .hatv 0 i b d) (hq : KR ⟨S.fr, S.hp.set 0 .gone⟩ r q) : KRL r b d ho' q .ret S := ⟨.inr rfl, he ▸ h0, ⟨j, .inr ⟨i, hj⟩⟩, hq⟩
theorem pcallsL1 {P : Program} {f : FuncId} {fn : Func} {c : Code} {n : Nat} {ho ho' : HO} {args : List PV} {r : Tmp} {q : PV} (hf : P.funcs[f]? = some fn) (hb : fn.body = some c) (hn : fn.ntmps = n) (hr : fn.results = #[.tmp r]) (hal : aloneHO ho = true) (hal' : aloneHO ho' = true) (hat : ∀ p ∈ args, ∀ l, p ≠ .tup l)
 (h : ∀ b d, Goal P c (KRL r b d ho' q) ⟨args.map (pinP b d) ++ List.replicate (n - args.length) (.val undef), [ho]⟩) : LCalls P f ho args ho' q :=
 pcallsL_gen (fun S => KR S r q) (fun S w0 g ρ a w D hk hrel hD => ⟨a.tmps.getD r undef, by simp [results, hr], hk _ _ (hrel.base.viewMD hD (hrel.ev (.tmp r)))⟩) hf hb hn hal hal' (fun b d => h b d) hat

/-! ### A row of a grid, lent by itself -/
section
variable {P : Program} {o : Oper} {S : St}
def unv : PV → PV
 | .hpv id _ _ => .hp id
 | .hatv id i _ _ => .hat id i
 | p => p
theorem unv_le (p : PV) : leS p (unv p) := fun g ρ hp v h => by
 cases p with
 | hpv id b c => exact h.1
 | hatv id i b c => exact h.1
 | _ => exact h
theorem ps_unv {ev : Operand → PV} {hp : List HO} {q : PV} (h : PStep P o (fun x => unv (ev x)) hp q) : PStep P o ev hp q :=
 fun w0 g ρ w a hb hx Q K hK => h w0 g ρ w a hb (fun x hm => unv_le _ _ _ _ _ (hx x hm)) Q K hK

end
end Go.Pv

/- Bits of numbers, Booleans, small literals; a variable that is written no more is handed over to the map. -/
namespace Go.Pv
open Go
theorem g_loopF {P : Program} {K : Exit → St → Prop} {S : St} {α : Type} (fg : List Nat) (vals : α → List (Nat × PV)) (hps : α → List HO) (p : α → Prop) (m : α → Nat) (x0 : α) {c : Code} {fr0 : List PV} (hfr : havoc (fg ++ dsts c) S.fr = fr0) (h0 : p x0) (hv : valsOk S.fr (vals x0)) (hh : S.hp = hps x0)
 (round : ∀ x, p x → Goal P c (KLoopT fr0 vals hps p m x K) ⟨zZ fr0 (vals x), hps x⟩) : Goal P (.loop c) K S :=
 g_loop (fun x => ⟨zZ fr0 (vals x), hps x⟩) p m x0 h0 ⟨by subst hfr; exact frLe_setMany (frLe_havoc _ (frLe_refl _)) hv, by rw [hh]; exact hpLe_refl _⟩ round
class BoolT (P : Program) (t : TypeId) : Prop where
 hu : P.underlying t = some .bool
section
variable {P : Program} {o : Oper} {ev : Operand → PV} {hp : List HO}
theorem ps_neqB {t rt : TypeId} [ht : BoolT P t] {x y : Operand} {a b : Bool} (ho : o.op = .binOp .neq t x y rt) (h1 : ev x = B a) (h2 : ev y = B b) : PStep P o ev hp (B (a != b)) :=
 ps_bin ho h1 h2 fun w => by
  have h := run_equal_bool (P := P) w t a b ht.hu
  simp [go_sem, binOp, h]; cases a <;> cases b <;> rfl
theorem ps_lit1 {t e : TypeId} {s by_ : Nat} [ht : SlT P t e s by_] {zs : List Value} [hz : ZeroT P e zs] {x : Operand} (ho : o.op = .buildSlice t 1 #[(0, x)]) {p : PV} (h1 : view hp (ev x) = p) (hf : p.one = true) (hs : s = 1) : PStep P o ev hp (.sl 1 none [p]) := by
 subst hs
 exact ps_buildSlice (ht := ht) (hz := hz) ho rfl rfl (by simp [elems, h1]) ⟨⟨[p], flat_one hf, rfl⟩, trivial⟩ (by omega) (by omega)
theorem ps_lit2 {t e : TypeId} {s by_ : Nat} [ht : SlT P t e s by_] {zs : List Value} [hz : ZeroT P e zs] {x y : Operand} (ho : o.op = .buildSlice t 2 #[(0, x), (1, y)]) {p q : PV} (h1 : view hp (ev x) = p) (h2 : view hp (ev y) = q) (hf : p.one = true) (hg : q.one = true) (hs : s = 1) :
 PStep P o ev hp (.sl 1 none [p, q]) := by
 subst hs
 exact ps_buildSlice (ht := ht) (hz := hz) ho rfl rfl (by simp [elems, h1, h2]) ⟨⟨[p], flat_one hf, rfl⟩, ⟨[q], flat_one hg, rfl⟩, trivial⟩ (by omega) (by omega)
theorem krV {S : St} {r : Tmp} {v : Value} (h : viewM S.hp (S.ev (.tmp r)) = .val v) : KR S r (.val v) := by unfold KR; rw [h]; exact PV.le_refl _
theorem ps_buildArr {t e : TypeId} {n s : Nat} {zs : List Value} [ht : ArrT P t n e s] [hz : ZeroT P t zs] {parts : Array (Nat × Operand)} (ho : o.op = .build t parts) {l : List PV}
 (hl : afill (fun i => some (i * s, s)) (zs.map .val) (parts.toList.map fun p => (p.1, ev p.2)) = some l) : PStep P o ev hp (.agg l) :=
 .of_run fun w0 g ρ w av hb hx => by
  obtain ⟨z, hz1, hz2⟩ := hz.hz
  obtain ⟨arr, h1, h2, h3⟩ := fill_rel (g := g) (ρ := ρ) (hp := hp) (fun i => some (i * s, s)) _ (parts.toList.map fun p => (p.1, av p.2)) _ l z.cells hl (by simp) (fun k p v hp' hv => by
   simp only [List.getElem?_map, Option.map_eq_some_iff] at hp' hv
   obtain ⟨x, hx1, rfl⟩ := hp'
   obtain ⟨y, hy1, rfl⟩ := hv
   rw [hx1] at hy1
   cases hy1
   exact ⟨rfl, hx x.2 (by
    simp only [ho, Op.operands]
    exact List.mem_toArray.2 (List.mem_map.2 ⟨x, List.mem_of_getElem? hx1, rfl⟩))⟩) (by rw [← hz2]; simp) (fun k q hq => by
   simp only [List.getElem?_map, Option.map_eq_some_iff] at hq
   obtain ⟨u, hu1, rfl⟩ := hq
   have : z.cells.getD k undef = u := by
    rw [← hz2] at hu1
    simp only [Array.getElem?_toList] at hu1
    simp [Array.getD_eq_getD_getElem?, hu1]
   rw [this]; exact .of_VR (.val u))
  refine ⟨.agg arr, ?_, ⟨arr, rfl, h2, h3⟩⟩
  simp only [execOp, ho]
  refine run_value ?_
  have hpt : (parts.map fun (i, x) => (i, av x)).toList = parts.toList.map fun p => (p.1, av p.2) := by simp
  unfold Instr.build
  simp only [Sem.run_bind, run_underlying ht.hu, Result.andThen, hz1, run_pure, ht.hs, hpt, h1]
end

def setl1 (n : Nat) (l : List PV) : PV → PV
 | .hat j i => bif j == n then .ptr (l.drop i) else .hat j i
 | .hatv j i b c => bif j == n then .ptr (l.drop i) else .hatv j i b c
 | p => p
def setlA (n : Nat) (l : List PV) : PV → PV
 | .agg m => .agg (m.map (setl1 n l))
 | p => setl1 n l p
def setlP (n : Nat) (l : List PV) : PV → PV
 | .tup m => .tup (m.map (setlA n l))
 | .agg m => .agg (m.map (setl1 n l))
 | p => setl1 n l p
theorem setlA_map (n : Nat) (l : List PV) : setlA n l = mapA (setl1 n l) := by funext p; cases p <;> rfl
theorem setlP_map (n : Nat) (l : List PV) (p : PV) : setlP n l p = mapT (setl1 n l) p := by cases p <;> first | rfl | simp only [setlP, mapT, setlA_map]
def setlH (n : Nat) (l : List PV) (hp : List HO) : List HO := (hp.map (mapHO (setl1 n l))).set n .gone

theorem rel_settle {w0 : Ini} {S : St} {g : Ghost} {ρ : Nat → Loc} {a : Act} {w : World} (h : Rel w0 S g ρ a w) {n : Nat} {l : List PV} (hn : S.hp[n]? = some (.box l)) :
 ∃ g', GExt g g' ∧ Rel w0 ⟨S.fr.map (setlP n (l.map (view1 S.hp))), setlH n (l.map (view1 S.hp)) S.hp⟩ g' ρ a w := by
 obtain ⟨cur, e, hown⟩ := h.base.own n _ hn
 let g' : Ghost := gset g (ρ n).blk (fun o => cur[o]?)
 have hx : GExt g g' := fun b o v hv => by
  show gset g (ρ n).blk _ b o = some v
  unfold gset
  split
  · rename_i e; subst e; rw [hown.hg] at hv; cases hv
  · exact hv
 have hag : Agree g' w := fun b o v hv => by
  have hv' : gset g (ρ n).blk (fun o => cur[o]?) b o = some v := hv
  unfold gset at hv'
  split at hv'
  · rename_i e; subst e
    rw [cell_of_row _ _ _ _ _ _ hown.hw]; exact hv'
  · exact h.base.agree b o v hv'
 have hlt : n < S.hp.length := (List.getElem?_eq_some_iff.1 hn).1
 have back : ∀ (i : Nat) (y : HO), ((S.hp.map (mapHO (setl1 n (l.map (view1 S.hp))))).set n .gone)[i]? = some y → y = .gone ∨ (S.hp[i]?).map (mapHO (setl1 n (l.map (view1 S.hp)))) = some y := fun i y hi => by
  rw [List.getElem?_set] at hi
  split at hi
  · split at hi
    · left; simpa using hi.symm
    · cases hi
  · right; rwa [List.getElem?_map] at hi
 have hφ : ∀ v p, VRS1 g ρ S.hp v p → VRS1 g' ρ ((S.hp.map (mapHO (setl1 n (l.map (view1 S.hp))))).set n .gone) v (setl1 n (l.map (view1 S.hp)) p) := fun v p hv => by
  have keyH : ∀ {j}, HpV ρ S.hp v j → HpV ρ ((S.hp.map (mapHO (setl1 n (l.map (view1 S.hp))))).set n .gone) v j := fun {j} hv =>
   { sl := hv.sl
     arr := fun m s e l' hid => by
      rcases back _ _ hid with h' | h'
      · cases h'
      · exact hv.arr _ _ _ _ (mapHO_arr h')
     grid := fun e1 e2 rows hid => by
      rcases back _ _ hid with h' | h'
      · cases h'
      · exact hv.grid _ _ _ (mapHO_grid h')
     sg := fun e1 e2 n rows hid => by
      rcases back _ _ hid with h' | h'
      · cases h'
      · exact hv.sg _ _ _ _ (mapHO_sg h')
     pg := fun e1 e2 n rows hid => by
      rcases back _ _ hid with h' | h'
      · cases h'
      · exact hv.pg _ _ _ _ (mapHO_pg h')
     box := fun l' hid => by
      rcases back _ _ hid with h' | h'
      · cases h'
      · obtain ⟨l0, h0, hl⟩ := mapHO_box h'
        rw [← hl]; exact hv.box _ h0 }
  have keyP : ∀ i, VR g' (.pointer (some ⟨(ρ n).blk, i, none⟩)) (.ptr ((l.map (view1 S.hp)).drop i)) := fun i => by
   refine VR.ptr _ i _ (fun k => cur.getD (i + k) undef) (fun k hk => ?_) (fun k q hq => ?_)
   · show gset g (ρ n).blk _ _ _ = _
     unfold gset
     rw [if_pos rfl]
     exact getElem?_getD (by rw [hown.hsz]; simp at hk; omega)
   · rw [List.getElem?_drop, List.getElem?_map, Option.map_eq_some_iff] at hq
     obtain ⟨p, hp, rfl⟩ := hq
     exact (h.base.view1 (hown.hv _ p hp)).mono hx
  cases p with
  | hat j i =>
   have hv : v = .pointer (some ⟨(ρ j).blk, i, none⟩) := hv
   simp only [setl1]
   cases hb : (j == n) with
   | false => exact hv
   | true =>
    have e : j = n := by simpa using hb
    subst e
    subst hv
    exact keyP i
  | hatv j i b c =>
   have hv : v = .pointer (some ⟨(ρ j).blk, i, none⟩) ∧ (ρ j).blk = b ∧ (ρ j).cap = c := hv
   simp only [setl1]
   cases hb : (j == n) with
   | false => exact hv
   | true =>
    have e : j = n := by simpa using hb
    subst e
    obtain ⟨rfl, -⟩ := hv
    exact keyP i
  | hp j => exact keyH hv
  | hpv j b c => exact ⟨keyH hv.1, hv.2⟩
  | gr j i =>
   refine (⟨GrV.sl hv, fun e1 e2 rows r hid hr => ?_, fun e1 e2 _n rows r hid hr => ?_⟩ : GrV _ _ _ _ _)
   rotate_left
   · rcases back _ _ hid with h' | h'
     · cases h'
     · exact GrV.sg hv _ _ _ _ _ (mapHO_sg h') hr
   rcases back _ _ hid with h' | h'
   · cases h'
   · exact GrV.grid hv _ _ _ _ (mapHO_grid h') hr
  | gat j i k => exact hv
  | _ => exact VR.mono hx hv
 have hbase := h.base.upd hn (x' := .gone) (ρ n) hx (setl1 n (l.map (view1 S.hp))) (by rw [upd_id]; exact hφ) hag h.base.below (fun b o hb => by
  show gset g (ρ n).blk _ b o = _
  unfold gset
  have hne : b ≠ (ρ n).blk := fun e => by subst e; exact hb hown.hB
  rw [if_neg hne]) trivial (fun b hb => hb.elim) (fun b hb hnf => ⟨rfl, fun o => by
  show gset g (ρ n).blk _ b o = _
  unfold gset
  have hne : b ≠ (ρ n).blk := fun e => hnf e
  rw [if_neg hne]⟩)
 rw [upd_id] at hbase
 refine ⟨g', hx, hbase, h.dead, by simpa using h.size, fun i p hp => ?_⟩
 simp only [List.getElem?_map, Option.map_eq_some_iff] at hp
 obtain ⟨p, hp, rfl⟩ := hp
 rw [setlP_map]
 exact (h.fr i p hp).map hφ

theorem g_settle {P : Program} {K : Exit → St → Prop} {S : St} {c : Code} (n : Nat) {l : List PV} {S' : St} (hn : S.hp[n]? = some (.box l)) (hS : St.mk (S.fr.map (setlP n (l.map (view1 S.hp)))) (setlH n (l.map (view1 S.hp)) S.hp) = S') (hk : Goal P c K S') : Goal P c K S := by
 unfold Goal at hk ⊢
 intro w0 g ρ a w Q hr hQ
 obtain ⟨g', -, hr'⟩ := rel_settle hr hn
 rw [hS] at hr'
 exact hk w0 g' ρ a w Q hr' hQ
end Go.Pv

namespace Go.Pv
attribute [irreducible] OpsG KRetC KRetCT KR KRC RCalls LCalls KRR KRR2 KRL
end Go.Pv
namespace Go.Pv
open Go
theorem aA {p : Prop} (h : p := by first | exact trivial | exact rfl | exact ⟨rfl, rfl⟩ | exact ⟨rfl, rfl, rfl⟩ | exact ⟨rfl, .inl ⟨_, rfl, by simp only [List.length_map]; omega⟩⟩ | exact ⟨rfl, .inr ⟨_, rfl, by simp only [List.length_map]; omega⟩⟩) : p := h
theorem aB {p : Prop} (h : p := by dsimp only [bitvec_to_nat, Nat.reduceAdd, Nat.reduceMul, Nat.reduceBEq, reduceCtorEq]) : p := h
theorem aC {p : Prop} (h : p := by first | exact fun _ _ => trivial | exact (by intro y hy; simp [Op.operands] at hy; first | (subst hy; repeat (first | exact trivial | refine ⟨rfl, ?_⟩)) | (rcases hy with rfl | rfl <;> repeat (first | exact trivial | refine ⟨rfl, ?_⟩)))) : p := h
theorem aD {p : Prop} (h : p := by (repeat (first | refine ⟨PV.le_refl _, ?_⟩ | refine ⟨PV.le_nn _ _ _, ?_⟩ | refine ⟨PV.le_nil _, ?_⟩ | refine ⟨PV.le_any _, ?_⟩)); exact trivial) : p := h
theorem aE {p : Prop} (h : p := by intro y hy; simp [Op.operands] at hy; first | (subst hy; repeat (first | exact trivial | refine ⟨rfl, ?_⟩)) | (rcases hy with rfl | rfl <;> repeat (first | exact trivial | refine ⟨rfl, ?_⟩))) : p := h
theorem aF {p : Prop} (h : p := by first | exact trivial | exact .inl ⟨rfl, rfl⟩ | exact .inr (.inl ⟨rfl, rfl⟩) | exact .inr (.inr (.inl ⟨rfl, rfl⟩)) | exact .inr (.inr (.inr (.inl ⟨rfl, rfl⟩)))) : p := h
theorem aG {p : Prop} (h : p := by first | exact .inr (by decide) | exact .inl (by first | exact trivial | exact rfl | exact ⟨rfl, rfl⟩ | exact ⟨rfl, rfl, rfl⟩ | exact ⟨rfl, .inl ⟨_, rfl, by simp only [List.length_map]; omega⟩⟩ | exact ⟨rfl, .inr ⟨_, rfl, by simp only [List.length_map]; omega⟩⟩)) : p := h
theorem aH {p : Prop} (h : p := by simp only [havoc, dsts, List.filterMap_cons, List.filterMap_nil, List.foldl_cons, List.foldl_nil, List.cons_append, List.nil_append, List.append_nil, List.set_cons_succ, List.set_cons_zero]; exact rfl) : p := h
theorem aI {p : Prop} (h : p := by repeat (first | exact trivial | refine ⟨.inl rfl, ?_⟩ | refine ⟨.inr rfl, ?_⟩)) : p := h
theorem aJ {p : Prop} (h : p := by repeat (first | exact trivial | refine ⟨rfl, ?_⟩)) : p := h
theorem aK {p : Prop} (h : p := by exact Nat.le_of_ble_eq_true rfl) : p := h
theorem aL {p : Prop} (h : p := by (repeat (first | refine ⟨leS_refl _, ?_⟩ | refine ⟨leS_nn _ _ _, ?_⟩ | refine ⟨leS_nil _, ?_⟩ | refine ⟨leS_any _, ?_⟩)); exact trivial) : p := h
theorem aM {p : Prop} (h : p := by intro y hy; simp [Op.operands, Call.operands] at hy; first | (rcases hy with rfl | rfl | rfl | rfl | rfl | rfl <;> (repeat (first | exact trivial | refine ⟨rfl, ?_⟩))) | (rcases hy with rfl | rfl | rfl | rfl | rfl <;> (repeat (first | exact trivial | refine ⟨rfl, ?_⟩))) | (rcases hy with rfl | rfl | rfl | rfl <;> (repeat (first | exact trivial | refine ⟨rfl, ?_⟩))) | (rcases hy with rfl | rfl | rfl <;> (repeat (first | exact trivial | refine ⟨rfl, ?_⟩))) | (rcases hy with rfl | rfl <;> (repeat (first | exact trivial | refine ⟨rfl, ?_⟩))) | (subst hy; (repeat (first | exact trivial | refine ⟨rfl, ?_⟩)))) : p := h
theorem aN {p : Prop} (h : p := by first | exact ⟨⟨_, rfl⟩, fun _ => rfl⟩ | exact ⟨⟨_, rfl⟩, fun h => absurd (by decide) h⟩) : p := h
theorem aO {p : Prop} (h : p := by constructor <;> omega) : p := h
theorem aP {p : Prop} (h : p := by dsimp only [appJ, killO, bitvec_to_nat, Nat.reduceAdd, Nat.reduceMul, Nat.reduceBEq, reduceCtorEq]) : p := h
theorem aQ {p : Prop} (h : p := by first | exact idx_I (by omega) | exact idx_B (by omega) | exact idx_ints (by omega) | exact idx_bools (by omega) | exact idx_intss (by omega) | rfl) : p := h
theorem aR {p : Prop} (h : p := by first | omega | (simp; done) | (simp; omega)) : p := h
theorem aS {p : Prop} (h : p := by first | exact sc_map (fun _ => rfl) _ | exact sc_maps (fun _ => rfl) _ | rfl) : p := h
theorem aT {p : Prop} (h : p := by first | exact ⟨rfl, rfl, rfl, by simp⟩ | exact ⟨rfl, rfl, by simp⟩ | trivial) : p := h
theorem aU {p : Prop} (h : p := by repeat (first | exact trivial | refine ⟨⟨_, rfl, rfl⟩, ?_⟩)) : p := h
end Go.Pv
namespace Go.Pv
open Go
theorem wS {p q : Prop} (h : q) (f : q → p := by first
 | exact fun h => p_p (zD rfl) h
 | exact fun h => p_p (zA rfl) h
 | exact fun h => p_p (zF rfl rfl) h
 | exact fun h => p_p (zU rfl rfl rfl) h
 | exact fun h => p_p (zS rfl rfl rfl) h
 | exact fun h => p_p (ps_add rfl rfl rfl aO) h
 | exact fun h => p_p (zL rfl rfl) h
 | exact fun h => p_p (ps_extract rfl rfl rfl) h
 | exact fun h => p_p (ps_not rfl rfl) h
 | exact fun h => p_p (zQ rfl rfl) h
 | exact fun h => p_p (ps_leq rfl rfl rfl) h
 | exact fun h => p_p (ps_gtr rfl rfl rfl) h
 | exact fun h => p_p (ps_geq rfl rfl rfl) h
 | exact fun h => p_p (ps_eql rfl rfl rfl) h
 | exact fun h => p_p (ps_neq rfl rfl rfl) h
 | exact fun h => p_p (ps_sub rfl rfl rfl aO) h
 | exact fun h => p_p (zH rfl rfl rfl rfl) h
 | exact fun h => p_p (zY rfl rfl rfl aK) h
 | exact fun h => p_p (zE rfl rfl) h
 | exact fun h => p_p (yA rfl rfl rfl rfl (by omega) aR) h) : p := f h
theorem wO {p q : Prop} (h : q) (f : q → p := by first
 | exact fun h => g_seq h
 | exact fun h => zJ h
 | exact fun h => zC h
 | exact fun h => o_nil h
 | exact fun h => zX rfl h
 | exact fun h => zW rfl h) : p := f h
theorem wE {p q : Prop} (h : q) (f : q → p := by first
 | exact fun h => zR h
 | exact fun h => g_exit h
 | exact fun h => g_ret h) : p := f h
theorem wF {p q : Prop} (h : q) (e : p = q := by simp only [List.length_cons, List.length_nil, Nat.reduceAdd, Nat.reduceSub, List.replicate_succ, List.replicate_zero, List.cons_append, List.nil_append]; rfl) : p := e.mpr h
end Go.Pv
namespace Go.Pv
open Go
attribute [bitvec_to_nat] St.put St.setObj St.ev killP killA killP1 killH mapHO renP renA ren1 killG killGA killG1 krowP krowA krow1 lendP lendA lend1 unv pinP pin1 elemsM viewM viewN viewV n_set_z n_set_s n_map_c n_map_n getD_z getD_s n_toNat n_cond_t n_cond_f n_len_c n_len_n n_app_c n_app_n n_take_s n_take_z n_drop_s n_drop_z n_get_z n_get_s view viewA view1 elems Nat.zero_add Nat.add_zero Bool.not_true Bool.not_false Nat.one_ne_zero Nat.mul_one
end Go.Pv
namespace Go.Pv
open Go
theorem wH {p q : Prop} (h : q) (e : p = q := by (dsimp only [zZ, List.set_cons_zero, List.set_cons_succ]) <;> rfl) : p := e.mpr h
end Go.Pv
namespace Go
theorem zz {p : Prop} (h : p := by omega) : p := h
theorem zd {p : Prop} (h : p := by decide) : p := h
theorem zk {p : Prop} (h : p := by kernel_rfl) : p := h
theorem ze {p : Prop} (h : p := by exact rfl) : p := h
theorem zn {p : Prop} (h : p := by rw [n_len_c, n_len_n]; omega) : p := h
end Go
