/- Walks: translated pairs, both sides. -/
import Derived.Test.YtbohjibbgppfaaaGreatRows
import Derived.ProofKit
import Derived.Test.YtbohjibbgppfaaaGreatJKn
import Derived.Test.YtbohjibbgppfaaaGreatJGb
import Derived.Test.YtbohjibbgppfaaaGreatJZb
import Derived.Test.YtbohjibbgppfaaaGreatJZa
import Derived.Test.YtbohjibbgppfaaaGreatJTy
set_option linter.unusedSectionVars false
namespace Go.Proofs.YtbohjibbgppfaaaGreat
open Go Go.Pv Go.Proofs

/-! ### Squares of Booleans -/
def Gw (L M : List (Nat × Nat)) : Prop := ∃ l, M = L ++ l
theorem Gw.refl (L : List (Nat × Nat)) : Gw L L := ⟨[], (List.append_nil _).symm⟩
theorem Gw.trans {L M N : List (Nat × Nat)} (h : Gw L M) (g : Gw M N) : Gw L N := by
  obtain ⟨a, rfl⟩ := h
  obtain ⟨b, rfl⟩ := g
  exact ⟨a ++ b, List.append_assoc ..⟩
theorem Gw.app (L : List (Nat × Nat)) (w : Nat × Nat) : Gw L (L ++ [w]) := ⟨[w], rfl⟩
theorem Gw.len {L M : List (Nat × Nat)} (h : Gw L M) : L.length ≤ M.length := by obtain ⟨l, rfl⟩ := h; simp
theorem Gw.at {L M : List (Nat × Nat)} (h : Gw L M) {i : Nat} (hi : i < L.length) : M.getD i (0, 0) = L.getD i (0, 0) := by
  obtain ⟨l, rfl⟩ := h
  rw [List.getD_eq_getElem?_getD, List.getElem?_append_left hi, List.getD_eq_getElem?_getD]
/-! ### The reference -/
end Go.Proofs.YtbohjibbgppfaaaGreat
/- The layer: the rest of a function's text, behind one of its statements. -/
namespace Go.Pv
open Go
attribute [local semireducible] Go.Pv.Goal
def headReg : Code → Option Nat
  | .region id _ _ => some id
  | .seq a _ => headReg a
  | .block _ c => headReg c
  | _ => none
def tailAt (id : Nat) : Code → Code
  | .seq a b => bif headReg a == some id then .seq a b else tailAt id b
  | .block _ c => tailAt id c
  | c => c
abbrev bodyC (f : Func) : Code := f.body.getD .skip
theorem g_tail {P : Program} {c c' : Code} {K : Exit → St → Prop} {S S' : St} (hc : c = c') (hl : S.le S') (h : Goal P c' K S') : Goal P c K S := hc ▸ g_weaken hl h
theorem at_reg1 {P : Program} {K : Exit → St → Prop} {S : St} {x : Code} {ops : Array Oper} {dr : Bool} (id : Nat) (h : Goal P ((Code.region id ops dr).seq x) K S) : Goal P ((Code.region id ops dr).seq x) K S := h
end Go.Pv
/- The layer: structs with owned rows in drawn regions. -/
namespace Go.Pv
open Go
attribute [local semireducible] Go.Pv.Goal Go.Pv.Ops Go.Pv.PStep Go.Pv.EStep Go.Pv.KRets Go.Pv.PCalls Go.Pv.OpsG Go.Pv.RCalls
section
variable {P : Program} {o : Oper} {ev : Operand → PV} {hp : List HO}
theorem j_make {t e : TypeId} {s by_ : Nat} {zs : List Value} [ht : MkT P t e s by_ zs] {x y : Operand} {n : Int} {zp : PV} (ho : o.op = .makeSlice t x y) (h1 : ev x = I n) (h2 : ev y = I n) (h0 : 0 ≤ n) (hb : n * by_ ≤ 140737488355328) (hn : n ≤ 9223372036854775807)
    (hs : 0 < s) (hz : zp.flat = some (zs.map .val)) (hzs : zs.length = s) : JStep P o ev hp (some hp.length) (killH hp.length hp ++ [.arr true s e (List.replicate n.toNat zp)]) (.hp hp.length) := fun fr hfr =>
  e_make (S := ⟨fr, hp⟩) (ht := ht) ho ((hfr x (by simp [ho, Op.operands])).trans h1) ((hfr y (by simp [ho, Op.operands])).trans h2) h0 hb hn hs hz hzs
theorem j_lit1S {t e : TypeId} {by_ : Nat} [ht : SlT P t e 2 by_] {zs : List Value} [hz : ZeroT P e zs] {x : Operand} {k : Nat} {e2 : TypeId} {z0 : Value} {l : List PV} (ho : o.op = .buildSlice t 1 #[(0, x)]) (h2 : ev x = .agg [.val z0, .hp k]) (hk : hp[k]? = some (.arr true 1 e2 l)) (hone : l.all PV.one = true) (hu1 : (PV.val z0).one = true) :
    JStep P o ev hp (some hp.length) (killH hp.length (hp.set k .gone) ++ [.sg e e2 0 [.val z0 :: l]]) (.hp hp.length) := fun fr hfr =>
  e_lit1S (S := ⟨fr, hp⟩) (ht := ht) ho ((hfr x (by simp [ho, Op.operands])).trans h2) hk hone hu1
theorem j_append_sg {t e : TypeId} {by_ : Nat} {z0 z1 : Value} [ht : MkT P t e 2 by_ [z0, z1]] {x y : Operand} {tys : Array TypeId} {id k : Nat} {e' e2 : TypeId} {rows rows2 : List (List PV)} (ho : o.op = .call { callee := .builtin .append, args := #[x, y], argTypes := tys })
    (htys : tys = #[t, t]) (h1 : ev x = .hp id) (hh : hp[id]? = some (.sg e e2 0 rows)) (h2 : ev y = .hp k) (hk : hp[k]? = some (.sg e' e2 0 rows2)) (hne : (k == id) = false)
    (hb : (rows.length + rows2.length) * by_ ≤ 140737488355328) (hm : rows.length + rows2.length ≤ 9223372036854775807) : JStep P o ev hp (some id) ((killH id (hp.set k .gone)).set id (.sg e e2 0 (rows ++ rows2))) (.hp id) := fun fr hfr =>
  e_append_sg (S := ⟨fr, hp⟩) (ht := ht) ho htys ((hfr x (by simp [ho, Op.operands, Call.operands])).trans h1) hh ((hfr y (by simp [ho, Op.operands, Call.operands])).trans h2) hk hne hb hm
theorem j_appendRowS {t e : TypeId} {by_ : Nat} {z0 : Value} [ht : MkT P t e 1 by_ [z0]] {x y : Operand} {tys : Array TypeId} {id i : Nat} {e1 e2 : TypeId} {rows : List (List PV)} {h0 : PV} {r l2 : List PV} {nn : Option Bool} (ho : o.op = .call { callee := .builtin .append, args := #[x, y], argTypes := tys })
    (htys : tys = #[t, t]) (h1 : ev x = .gr id i) (hh : hp[id]? = some (.sg e1 e2 0 rows)) (he : e2 = e) (hr : rows[i]? = some (h0 :: r)) (h2 : view hp (ev y) = .sl 1 nn l2) (hone : ∀ p ∈ l2, p.one = true)
    (hb : (r.length + l2.length) * by_ ≤ 140737488355328) (hm : r.length + l2.length ≤ 9223372036854775807) : JStep P o ev hp none (hp.set id (.arr true 2 e1 (rows.map sgP))) (slR (r ++ l2)) := fun fr hfr =>
  e_appendRowS (S := ⟨fr, hp⟩) (ht := ht) ho htys ((hfr x (by simp [ho, Op.operands, Call.operands])).trans h1) hh he hr (by rw [show (St.mk fr hp).ev y = ev y from hfr y (by simp [ho, Op.operands, Call.operands])]; exact h2) hone hb hm
theorem j_store_sg0 {t : TypeId} [ht : CellT P t] {x v : Operand} {id i k : Nat} {e1 e2 : TypeId} {n : Nat} {rows : List (List PV)} {r : List PV} {h0 p : PV} (ho : o.op = .store t x v) (hd : o.dst = none) (h1 : ev x = .hat id k) (hh : hp[id]? = some (.sg e1 e2 n rows))
    (hk : k = i * 2) (hr : rows[i]? = some (h0 :: r)) (h2 : view hp (ev v) = p) (hp1 : p.one = true) : JStep P o ev hp none (hp.set id (.sg e1 e2 n (rows.set i (p :: r)))) .any :=
  j_store ho hd fun fr e1 e2 => e_store_sg0 (S := ⟨fr, hp⟩) ho hd (e1.trans h1) hh hk hr (by rw [e2]; exact h2) hp1
theorem j_store_sgr {t : TypeId} [ht : CellT P t] {x v : Operand} {id i j n : Nat} {e1 e2 : TypeId} {rows : List (List PV)} {h0 : PV} {r : List PV} {p : PV} (ho : o.op = .store t x v) (hd : o.dst = none) (h1 : ev x = .gat id i j) (hh : hp[id]? = some (.sg e1 e2 n rows))
    (hr : rows[i]? = some (h0 :: r)) (hj : j < r.length) (h2 : view hp (ev v) = p) (hp1 : p.one = true) : JStep P o ev hp none (hp.set id (.sg e1 e2 n (rows.set i (h0 :: r.set j p)))) .any :=
  j_store ho hd fun fr e1 e2 => e_store_sgr (S := ⟨fr, hp⟩) ho hd (e1.trans h1) hh hr hj (by rw [e2]; exact h2) hp1
theorem j_store_arrF {t : TypeId} [ht : CellT P t] {s : Nat} {x v : Operand} {id i j k : Nat} {e : TypeId} {l c : List PV} {p p' : PV} (ho : o.op = .store t x v) (hd : o.dst = none) (h1 : ev x = .hat id k) (hh : hp[id]? = some (.arr true s e l)) (hk : k = i * s + j) (hl : l[i]? = some (.agg c)) (hj : j < c.length)
    (h2 : view hp (ev v) = p) (hp1 : p.one = true) (hp' : p' = .agg (c.set j p)) : JStep P o ev hp none (hp.set id (.arr true s e (l.set i p'))) .any :=
  j_store ho hd fun fr e1 e2 => e_store_arrF (S := ⟨fr, hp⟩) ho hd (e1.trans h1) hh hk hl hj (by rw [e2]; exact h2) hp1 hp'
end
end Go.Pv
/- The layer: drawn regions whose effects leave to each operation what it reads. -/
namespace Go.Pv
open Go
attribute [local semireducible] Go.Pv.Goal Go.Pv.Ops Go.Pv.PStep Go.Pv.EStep Go.Pv.KRets Go.Pv.PCalls Go.Pv.OpsG
section
variable {P : Program} {ops : Array Oper} {U : List Nat} {V : List (Nat × Nat)} {K : St → Prop} {H : List Nat → List HO → Prop}
theorem ZM.comm2 {H H' : List HO → Prop} {oi oj : Oper} {S : St} {qi qj : PV} {U' : List Nat} (hap : oi.apart ops oj = true) (hi : ZM P ops U H oi S qi) (hj : ZM P ops U' H' oj (S.put oi.dst qi) qj) :
    ZM P ops U' H' oj S qj ∧ ZM P ops U H oi (S.put oj.dst qj) qi ∧ (S.put oi.dst qi).put oj.dst qj = (S.put oj.dst qj).put oi.dst qi := by
  obtain ⟨h1, h2, h3⟩ := Oper.apart_spec hap
  have evj : ∀ y ∈ oj.op.operands, (S.put oi.dst qi).ev y = S.ev y := fun y hy => S.ev_put _ _ y fun t ht e => h1 t ht (mem_looksAt_op (e ▸ hy))
  have evi : ∀ y ∈ oi.op.operands, (S.put oj.dst qj).ev y = S.ev y := fun y hy => S.ev_put _ _ y fun t ht e => h3 t ht (mem_looksAt_op (e ▸ hy))
  refine ⟨?_, ?_, S.put_comm qi qj h2⟩
  · cases hj with
    | pure hg h hq ho => exact .pure (guardS_put h1 ▸ hg) (fun hp hH => (h hp hH).congr evj) hq (fun y hy => evj y hy ▸ ho y hy)
    | skip hg => exact .skip (guardS_put h1 ▸ hg)
  · cases hi with
    | pure hg h hq ho => exact .pure ((guardS_put h3).symm ▸ hg) (fun hp hH => (h hp hH).congr fun y hy => (evi y hy).symm) hq (fun y hy => (evi y hy).symm ▸ ho y hy)
    | skip hg => exact .skip ((guardS_put h3).symm ▸ hg)

def keepsU (V : List (Nat × Nat)) (H : List Nat → List HO → Prop) (i : Nat) (hp hp' : List HO) : Prop := ∀ U, (∀ n, (i, n) ∈ V → n ∈ U) → FIN ∉ U → H U hp → H U hp'
def aStU (P : Program) (ops : Array Oper) (V : List (Nat × Nat)) (H : List Nat → List HO → Prop) (i : Nat) (K : St → Prop) (S : St) : Prop :=
  match ops[i]? with
  | none => K S
  | some o => (∃ q U, ZM P ops U (H U) o S q ∧ H U S.hp ∧ K (S.put o.dst q)) ∨ (guardS ops S.fr o = some true ∧ ∃ n hp' r, inVo V i n ∧ keepsU V H i S.hp hp' ∧ JStep P o S.ev S.hp n hp' r ∧ K (appJ S o n hp' r))
def aAnyU (P : Program) (ops : Array Oper) (V : List (Nat × Nat)) (H : List Nat → List HO → Prop) (K : St → Prop) : Nat → Array Bool → St → Prop
  | 0, listed, S => Region.ready .any ops listed = [] ∧ K S
  | n + 1, listed, S => (Region.ready .any ops listed = [] → K S) ∧ ∀ i ∈ Region.ready .any ops listed, aStU P ops V H i (aAnyU P ops V H K n (listed.setIfInBounds i true)) S

theorem wpAny_of_aAnyU {Q : Exit → Act → World → Prop} {w0 : Ini} (hK : ∀ S g ρ a w, K S → Rel w0 S g ρ a w → Q .normal a w) :
    ∀ (n : Nat) (listed : Array Bool) (S : St) (g : Ghost) (ρ : Nat → Loc) (a : Act) (w : World), aAnyU P ops V H K n listed S → Rel w0 S g ρ a w → wpAny P .any ops Q n listed a w
  | 0, _, S, g, ρ, a, w, h, hr => ⟨h.1, hK S g ρ a w h.2 hr⟩
  | n + 1, listed, S, g, ρ, a, w, h, hr => by
    refine ⟨fun h0 => hK S g ρ a w (h.1 h0) hr, fun i hi => ?_⟩
    have h1 := h.2 i hi
    unfold aStU at h1
    unfold wpOp
    split
    · rename_i ho
      simp only [ho] at h1
      exact wpAny_of_aAnyU hK n _ S g ρ a w h1 hr
    · rename_i o ho
      simp only [ho] at h1
      rcases h1 with ⟨q, _, hy, hH, h1⟩ | ⟨hg, m, hp', r, _, _, hj, h1⟩
      · cases hy with
        | pure hg hp hq hop =>
          rw [if_pos (guardS_spec hr hg)]
          left
          exact hp S.hp hH w0 g ρ w a hr.base (fun x _ => hr.ev x) Q _ fun v g' w' hx hb hv => wpAny_of_aAnyU hK n _ _ g' ρ _ w' h1 (hr.put hb hx hv o.dst)
        | skip hg =>
          rw [if_neg (by rw [guardS_spec hr hg]; simp)]
          exact wpAny_of_aAnyU hK n _ _ g ρ _ w h1 (hr.put hr.base (GExt.refl g) (.of_VR (.val undef)) o.dst)
      · rw [if_pos (guardS_spec hr hg)]
        left
        exact hj S.fr (fun _ _ => rfl) w0 g ρ a w hr Q _ fun g' ρ' a' w' _ hr' => wpAny_of_aAnyU hK n _ _ g' ρ' a' w' h1 hr'

theorem aAnyU_first {i : Nat} {oi : Oper} {qi : PV} (hi : ops[i]? = some oi) (hU : FIN ∉ U) : ∀ (fuel : Nat) (listed : Array Bool) (S : St),
    (∀ j oj, ops[j]? = some oj → j ≠ i → listed.getD j true = false → (∀ e ∈ oj.after, Region.binds .any e = true → e.on ≠ i) → oi.apart ops oj = true ∧ ∀ n, (j, n) ∈ V → n ∈ U) →
    i ∈ Region.ready .any ops listed → ZM P ops U (H U) oi S qi → H U S.hp → aAnyU P ops V H K fuel (listed.setIfInBounds i true) (S.put oi.dst qi) → aAnyU P ops V H K (fuel + 1) listed S := by
  intro fuel
  induction fuel with
  | zero =>
    intro listed S _ hr hy hH H
    refine ⟨fun h => (by rw [h] at hr; cases hr), fun j hj => ?_⟩
    by_cases hji : j = i
    · subst hji; unfold aStU; simp only [hi]; exact .inl ⟨_, _, hy, hH, H⟩
    · have := ready_mono hj hji
      rw [H.1] at this
      cases this
  | succ fuel ih =>
    intro listed S hfree hr hy hH H
    refine ⟨fun h => (by rw [h] at hr; cases hr), fun j hj => ?_⟩
    by_cases hji : j = i
    · subst hji; unfold aStU; simp only [hi]; exact .inl ⟨_, _, hy, hH, H⟩
    · have h1 := H.2 j (ready_mono hj hji)
      obtain ⟨hjun, oj, hoj, hall⟩ := mem_ready.1 hj
      have hnot : ∀ e ∈ oj.after, Region.binds .any e = true → e.on ≠ i := fun e he hb heq => by
        have h1 := hall e he hb
        have h0 := (mem_ready.1 hr).1
        rw [heq] at h1
        rcases Nat.lt_or_ge i listed.size with h' | h'
        · simp [h'] at h0 h1; rw [h0] at h1; cases h1
        · simp [Array.getElem?_eq_none h'] at h1
      have hfree' : ∀ k ok, ops[k]? = some ok → k ≠ i → (listed.setIfInBounds j true).getD k true = false →
          (∀ e ∈ ok.after, Region.binds .any e = true → e.on ≠ i) → oi.apart ops ok = true ∧ ∀ n, (k, n) ∈ V → n ∈ U := fun k ok hk hki hun hno => by
        refine hfree k ok hk hki ?_ hno
        by_cases hjk : j = k
        · subst hjk; exact hjun
        · rw [getD_set_ne true hjk] at hun; exact hun
      obtain ⟨hap, hVU⟩ := hfree j oj hoj hji hjun hnot
      unfold aStU at h1 ⊢
      simp only [hoj] at h1 ⊢
      rcases h1 with ⟨qj, Uj, hyj, hHj, hk⟩ | ⟨hg, m, hp', r, hn, hH', hjs, hk⟩
      · obtain ⟨c1, c2, c3⟩ := ZM.comm2 hap hy hyj
        rw [put_hp] at hHj
        refine .inl ⟨qj, Uj, c1, hHj, ih (listed.setIfInBounds j true) _ hfree' (ready_mono hr (Ne.symm hji)) c2 (by rw [put_hp]; exact hH) ?_⟩
        rw [Array.setIfInBounds_comm _ _ hji, ← c3]
        exact hk
      · obtain ⟨c0, c1, c2, c3⟩ := hy.commJ hap (inVo_U hn hVU) hg hjs
        rw [put_hp] at hH'
        refine .inr ⟨c0, m, hp', r, hn, hH', c1, ih (listed.setIfInBounds j true) _ hfree' (ready_mono hr (Ne.symm hji)) c2 (by unfold appJ; rw [put_hp]; exact hH' U hVU hU hH) ?_⟩
        rw [Array.setIfInBounds_comm _ _ hji, ← c3]
        exact hk

def OpsU (P : Program) (ops : Array Oper) (V : List (Nat × Nat)) (H : List Nat → List HO → Prop) (K : St → Prop) : List (Nat × Option (List Nat)) → St → Prop
  | [], S => K S
  | (i, some U) :: r, S => ∃ o q, ops[i]? = some o ∧ FIN ∉ U ∧ H U S.hp ∧ ZM P ops U (H U) o S q ∧ OpsU P ops V H K r (S.put o.dst q)
  | (i, none) :: r, S => ∃ o, ops[i]? = some o ∧ guardS ops S.fr o = some true ∧ ∃ n hp' q, inVo V i n ∧ keepsU V H i S.hp hp' ∧ JStep P o S.ev S.hp n hp' q ∧ OpsU P ops V H K r (appJ S o n hp' q)

theorem aAnyU_ord : ∀ (l : List (Nat × Option (List Nat))) (listed : Array Bool) (S : St), ordB ops V l listed = true → OpsU P ops V H K l S → aAnyU P ops V H K l.length listed S
  | [], _, _, hB, h => ⟨by simpa [ordB] using hB, h⟩
  | (i, some U) :: l, listed, S, hB, h => by
    simp only [ordB, Bool.and_eq_true] at hB
    obtain ⟨⟨⟨hr, hf⟩, hs⟩, hB'⟩ := hB
    obtain ⟨o, q, h0, hU, hH, hy, h⟩ := h
    exact aAnyU_first h0 hU l.length listed S (fun j oj h1 h2 h3 h4 => ⟨Region.free_spec h0 hf j oj h1 h2 h3 h4, standB_spec hs j oj h1 h2 h3 h4⟩) (by simpa using hr) hy hH (aAnyU_ord l _ _ hB' h)
  | (i, none) :: l, listed, S, hB, h => by
    simp only [ordB, Bool.and_eq_true] at hB
    obtain ⟨hr, hB'⟩ := hB
    have hr' : Region.ready .any ops listed = [i] := by simpa using hr
    obtain ⟨o, h0, hg, n, hp', q, hn, hH', hj, h⟩ := h
    refine ⟨fun e => (by rw [hr'] at e; cases e), fun j hjr => ?_⟩
    rw [hr', List.mem_singleton] at hjr
    subst hjr
    unfold aStU
    simp only [h0]
    exact .inr ⟨hg, n, hp', q, hn, hH', hj, aAnyU_ord l _ _ hB' h⟩

theorem g_region_drawU {id : Nat} {l : List Oper} {K : Exit → St → Prop} {S : St} (ord : List (Nat × Option (List Nat))) (V : List (Nat × Nat)) (H : List Nat → List HO → Prop) (hm : P.follows .mixedOrders = true) (hl : ord.length = l.length) (hB : ordB l.toArray V ord (Array.replicate l.length false) = true)
    (h : OpsU P l.toArray V H (K .normal) ord S) : Goal P (.region id l.toArray true) K S := fun w0 g ρ a w Q hr hQ => by
  refine wp_region_any hm (wpAny_of_aAnyU (K := K .normal) (V := V) (H := H) (fun S' g' ρ' a' w' hk hr' => hQ .normal S' g' ρ' a' w' hk hr') _ _ S g ρ a _ ?_ hr.drew)
  have := aAnyU_ord (P := P) (V := V) (H := H) (K := K .normal) ord (Array.replicate l.length false) S hB h
  rw [hl] at this
  simpa using this
end

section
variable {P : Program} {ops : Array Oper} {U : List Nat} {V : List (Nat × Nat)} {K : St → Prop} {H : List Nat → List HO → Prop} {o : Oper} {i : Nat} {r : List (Nat × Option (List Nat))} {S : St}
theorem u_nil (hk : K S) : OpsU P ops V H K [] S := hk
theorem u_pure {l : List Oper} {q : PV} (h0 : l[i]? = some o) (hg : guardS l.toArray S.fr o = some true) (h : ∀ hp, H U hp → PStep P o S.ev hp q) (hq : okU U q) (ho : ∀ y ∈ o.op.operands, okU U (S.ev y)) (hU : FIN ∉ U) (hH : H U S.hp) (hk : ∃ S', S.put o.dst q = S' ∧ OpsU P l.toArray V H K r S') : OpsU P l.toArray V H K ((i, some U) :: r) S :=
  hk.elim fun _ h' => ⟨o, q, by simpa using h0, hU, hH, .pure hg h hq ho, h'.1 ▸ h'.2⟩
theorem u_eff {l : List Oper} {n : Option Nat} {hp' : List HO} {q : PV} (h0 : l[i]? = some o) (hg : guardS l.toArray S.fr o = some true) (hn : inVo V i n) (h : JStep P o S.ev S.hp n hp' q) (hH : keepsU V H i S.hp hp') (hk : ∃ S', appJ S o n hp' q = S' ∧ OpsU P l.toArray V H K r S') : OpsU P l.toArray V H K ((i, none) :: r) S :=
  hk.elim fun _ h' => ⟨o, by simpa using h0, hg, n, hp', q, hn, hH, h, h'.1 ▸ h'.2⟩
end
end Go.Pv
/- What a row asks, out of what a call comes to over plain values: the result 'true', and no old block turned. -/
namespace Go.Pv
open Go Go.ChangeShapes Go.WideShapes Go.RowKit

theorem trodAll_below {H : Type} {enc : TypeId × Value → H} {P : Program} (hl : laidOutB P = true) {W W' : World} (hb : Below W.heap.size W W') : ∀ {ts : List TypeId} {vs : List Value} {ds : List (DataW H)} {ps : List MemPlace},
    (ts.all fun t => P.readableRec t && decide (t < P.types.size)) = true → DataW.TrodAll enc P W 0 (fun _ => true) true ts vs ds ps → (∀ x ∈ ps, x.block < W.heap.size) →
    DataW.TrodAll enc P W' 0 (fun b => decide (b < W.heap.size)) true ts vs ds ps
  | [], [], [], _, _, h, _ => h
  | t :: ts, v :: vs, d :: ds, ps, hr, h, hlt => by
    obtain ⟨p, q, h1, h2, rfl⟩ := h
    simp only [List.all_cons, Bool.and_eq_true, decide_eq_true_eq] at hr
    exact ⟨p, q, Below.trod hl hr.1.1 hr.1.2 h1 hb (fun x hx => hlt x (List.mem_append_left _ hx)), trodAll_below hl hb hr.2 h2 (fun x hx => hlt x (List.mem_append_right _ hx)), rfl⟩
  | [], [], _ :: _, _, _, h, _ => h.elim
  | [], _ :: _, _, _, _, h, _ => h.elim
  | _ :: _, [], _, _, _, h, _ => h.elim
  | _ :: _, _ :: _, [], _, _, h, _ => h.elim

theorem law_post {H : Type} {enc : TypeId × Value → H} {P : Program} {f : Func} {s : ChangeSpec} {W W' : World} {args : Array Value} {ds gs : List (DataW H)} {before : List MemPlace} {tb : TypeId} (hl : laidOutB P = true) (hs : s.vars = [])
    (hread : (f.params.toList.all fun t => P.readableRec t && decide (t < P.types.size)) = true) (hr : f.resultTypes = #[tb]) (htb : P.underlying tb = some .bool) (hfn : s.fn H (ds ++ gs) = { results := [.lit (.bool true)], args := ds })
    (hW : DataW.Whole enc P f.params.toList s.vars false W args.toList ds gs before) (hb : Below W.heap.size W W') : s.post enc P f false true false false W args (.bool true) W' := by
  have hlt := hW.lt
  have hW0 := hW
  obtain ⟨p, q, hA, hV, rfl, hz, hn⟩ := hW
  refine ⟨ds, gs, p ++ q, [], p, q, hW0, ?_, ?_, ?_, hb.frame _, fun h => by cases h⟩
  · rw [hfn, hr]
    exact ⟨[], [], ⟨1, by simp [DataW.trod, Value.cells, htb]⟩, rfl, rfl⟩
  · rw [hfn]
    exact trodAll_below hl hb hread hA (fun x hx => hlt x (List.mem_append_left _ hx))
  · rw [hfn]
    rw [hs] at hV ⊢
    cases gs with
    | nil => exact hV
    | cons _ _ => exact hV.elim

theorem PCalls.use {P : Program} {f : FuncId} {args : List PV} {b : Bool} (h : PCalls P f args (B b)) {g : Ghost} {W : World} {vs : List Value} (ha : Agree g W) (hv : VRl g vs args) :
    Calls P f vs.toArray W fun e W' => e = .returned (.bool b) ∧ Below W.heap.size W W' := by
  unfold PCalls at h
  exact (h g W vs ha hv).mono fun e W' ⟨v, g', he, _, _, hb, _, hvr⟩ => ⟨by rw [he, VR.val_inv hvr], hb⟩
end Go.Pv
