/- The layer, more: drawn regions whose effects leave what is read as it was; pairs in arrays; rows of a grid that are settled. -/
import Derived.Test.YtogfibhhfimbjaaDMv
import Derived.Test.YtogfibhhfimbjaaDUq
namespace Go.Pv
open Go
attribute [local semireducible] Go.Pv.Goal Go.Pv.Ops Go.Pv.PStep Go.Pv.EStep Go.Pv.KRets Go.Pv.PCalls Go.Pv.OpsG

inductive ZM (P : Program) (ops : Array Oper) (U : List Nat) (H : List HO → Prop) (o : Oper) (S : St) : PV → Prop
  | pure {q : PV} (hg : guardS ops S.fr o = some true) (h : ∀ hp, H hp → PStep P o S.ev hp q) (hq : okU U q) (ho : ∀ y ∈ o.op.operands, okU U (S.ev y)) : ZM P ops U H o S q
  | skip (hg : guardS ops S.fr o = some false) : ZM P ops U H o S (.val undef)
theorem ZM.ok {P : Program} {ops : Array Oper} {U : List Nat} {H : List HO → Prop} {o : Oper} {S : St} {q : PV} (h : ZM P ops U H o S q) : ∀ i ∈ U, killP i q = q := by
  cases h with
  | pure hg h hq ho => exact okU_spec hq
  | skip hg => exact fun i _ => rfl

section
variable {P : Program} {ops : Array Oper} {U : List Nat} {V : List (Nat × Nat)} {K : St → Prop} {H : List HO → Prop}
theorem ZM.comm {oi oj : Oper} {S : St} {qi qj : PV} {U' : List Nat} (hap : oi.apart ops oj = true) (hi : ZM P ops U H oi S qi) (hj : ZM P ops U' H oj (S.put oi.dst qi) qj) :
    ZM P ops U' H oj S qj ∧ ZM P ops U H oi (S.put oj.dst qj) qi ∧ (S.put oi.dst qi).put oj.dst qj = (S.put oj.dst qj).put oi.dst qi := by
  obtain ⟨h1, h2, h3⟩ := Oper.apart_spec hap
  have evj : ∀ y ∈ oj.op.operands, (S.put oi.dst qi).ev y = S.ev y := fun y hy => S.ev_put _ _ y fun t ht e => h1 t ht (mem_looksAt_op (e ▸ hy))
  have evi : ∀ y ∈ oi.op.operands, (S.put oj.dst qj).ev y = S.ev y := fun y hy => S.ev_put _ _ y fun t ht e => h3 t ht (mem_looksAt_op (e ▸ hy))
  refine ⟨?_, ?_, S.put_comm qi qj h2⟩
  · cases hj with
    | pure hg h hq ho => exact .pure (guardS_put h1 ▸ hg) (fun hp hH => (h hp hH).congr evj) hq (fun y hy => evj y hy ▸ ho y hy)
    | skip hg => exact .skip (guardS_put h1 ▸ hg)
  · cases hi with
    | pure hg h hq ho => exact .pure ((guardS_put h3).symm ▸ hg) (fun hp hH => (h hp hH).congr fun y hy => (evi y hy).symm) hq (fun y hy => (evi y hy).symm ▸ ho y hy)
    | skip hg => exact .skip ((guardS_put h3).symm ▸ hg)

theorem ZM.commJ {oi oj : Oper} {S : St} {qi r : PV} {n : Option Nat} {hp' : List HO} (hap : oi.apart ops oj = true) (hn : inU U n) (hi : ZM P ops U H oi S qi) (hg : guardS ops (S.put oi.dst qi).fr oj = some true) (hj : JStep P oj (S.put oi.dst qi).ev (S.put oi.dst qi).hp n hp' r) :
    guardS ops S.fr oj = some true ∧ JStep P oj S.ev S.hp n hp' r ∧ ZM P ops U H oi (appJ S oj n hp' r) qi ∧ appJ (S.put oi.dst qi) oj n hp' r = (appJ S oj n hp' r).put oi.dst qi := by
  obtain ⟨h1, h2, h3⟩ := Oper.apart_spec hap
  have evj : ∀ y ∈ oj.op.operands, (S.put oi.dst qi).ev y = S.ev y := fun y hy => S.ev_put _ _ y fun t ht e => h1 t ht (mem_looksAt_op (e ▸ hy))
  refine ⟨guardS_put h1 ▸ hg, ?_, ?_, ?_⟩
  · rw [put_hp] at hj
    exact fun fr hfr => hj fr fun y hy => (hfr y hy).trans (evj y hy).symm
  · have hgi : guardS ops (appJ S oj n hp' r).fr oi = guardS ops S.fr oi := by
      unfold appJ
      rw [guardS_put (S := ⟨killO n S.fr, hp'⟩) h3]
      exact guard_killO n
    cases hi with
    | pure hg' h hq ho =>
      have evi : ∀ y ∈ oi.op.operands, (appJ S oj n hp' r).ev y = S.ev y := fun y hy => by
        unfold appJ
        rw [St.ev_put ⟨killO n S.fr, hp'⟩ _ _ y fun t ht e => h3 t ht (mem_looksAt_op (e ▸ hy))]
        exact ev_killO (fr := S.fr) (hp := S.hp) hn (ho y hy)
      exact .pure (hgi.symm ▸ hg') (fun hp hH => (h hp hH).congr fun y hy => (evi y hy).symm) hq (fun y hy => (evi y hy).symm ▸ ho y hy)
    | skip hg' => exact .skip (hgi.symm ▸ hg')
  · unfold appJ
    rw [show (St.mk (killO n (S.put oi.dst qi).fr) hp') = St.put ⟨killO n S.fr, hp'⟩ oi.dst qi from put_killO (fr := S.fr) (hp := S.hp) hn hi.ok]
    exact St.put_comm _ qi r h2

/-- The mark (in V) of an operation behind which no free one may come. -/
def FIN : Nat := 999999
def aStZ (P : Program) (ops : Array Oper) (V : List (Nat × Nat)) (H : List HO → Prop) (i : Nat) (K : St → Prop) (S : St) : Prop :=
  match ops[i]? with
  | none => K S
  | some o => (∃ q U, ZM P ops U H o S q ∧ H S.hp ∧ K (S.put o.dst q)) ∨ (guardS ops S.fr o = some true ∧ ∃ n hp' r, inVo V i n ∧ (H hp' ∨ (i, FIN) ∈ V) ∧ JStep P o S.ev S.hp n hp' r ∧ K (appJ S o n hp' r))
def aAnyZ (P : Program) (ops : Array Oper) (V : List (Nat × Nat)) (H : List HO → Prop) (K : St → Prop) : Nat → Array Bool → St → Prop
  | 0, listed, S => Region.ready .any ops listed = [] ∧ K S
  | n + 1, listed, S => (Region.ready .any ops listed = [] → K S) ∧ ∀ i ∈ Region.ready .any ops listed, aStZ P ops V H i (aAnyZ P ops V H K n (listed.setIfInBounds i true)) S

theorem wpAny_of_aAnyZ {Q : Exit → Act → World → Prop} {w0 : Ini} (hK : ∀ S g ρ a w, K S → Rel w0 S g ρ a w → Q .normal a w) :
    ∀ (n : Nat) (listed : Array Bool) (S : St) (g : Ghost) (ρ : Nat → Loc) (a : Act) (w : World), aAnyZ P ops V H K n listed S → Rel w0 S g ρ a w → wpAny P .any ops Q n listed a w
  | 0, _, S, g, ρ, a, w, h, hr => ⟨h.1, hK S g ρ a w h.2 hr⟩
  | n + 1, listed, S, g, ρ, a, w, h, hr => by
    refine ⟨fun h0 => hK S g ρ a w (h.1 h0) hr, fun i hi => ?_⟩
    have h1 := h.2 i hi
    unfold aStZ at h1
    unfold wpOp
    split
    · rename_i ho
      simp only [ho] at h1
      exact wpAny_of_aAnyZ hK n _ S g ρ a w h1 hr
    · rename_i o ho
      simp only [ho] at h1
      rcases h1 with ⟨q, _, hy, hH, h1⟩ | ⟨hg, m, hp', r, _, _, hj, h1⟩
      · cases hy with
        | pure hg hp hq hop =>
          rw [if_pos (guardS_spec hr hg)]
          left
          exact hp S.hp hH w0 g ρ w a hr.base (fun x _ => hr.ev x) Q _ fun v g' w' hx hb hv => wpAny_of_aAnyZ hK n _ _ g' ρ _ w' h1 (hr.put hb hx hv o.dst)
        | skip hg =>
          rw [if_neg (by rw [guardS_spec hr hg]; simp)]
          exact wpAny_of_aAnyZ hK n _ _ g ρ _ w h1 (hr.put hr.base (GExt.refl g) (.of_VR (.val undef)) o.dst)
      · rw [if_pos (guardS_spec hr hg)]
        left
        exact hj S.fr (fun _ _ => rfl) w0 g ρ a w hr Q _ fun g' ρ' a' w' _ hr' => wpAny_of_aAnyZ hK n _ _ g' ρ' a' w' h1 hr'

theorem aAnyZ_first {i : Nat} {oi : Oper} {qi : PV} (hi : ops[i]? = some oi) (hU : FIN ∉ U) : ∀ (fuel : Nat) (listed : Array Bool) (S : St),
    (∀ j oj, ops[j]? = some oj → j ≠ i → listed.getD j true = false → (∀ e ∈ oj.after, Region.binds .any e = true → e.on ≠ i) → oi.apart ops oj = true ∧ ∀ n, (j, n) ∈ V → n ∈ U) →
    i ∈ Region.ready .any ops listed → ZM P ops U H oi S qi → H S.hp → aAnyZ P ops V H K fuel (listed.setIfInBounds i true) (S.put oi.dst qi) → aAnyZ P ops V H K (fuel + 1) listed S := by
  intro fuel
  induction fuel with
  | zero =>
    intro listed S _ hr hy hH H
    refine ⟨fun h => (by rw [h] at hr; cases hr), fun j hj => ?_⟩
    by_cases hji : j = i
    · subst hji; unfold aStZ; simp only [hi]; exact .inl ⟨_, _, hy, hH, H⟩
    · have := ready_mono hj hji
      rw [H.1] at this
      cases this
  | succ fuel ih =>
    intro listed S hfree hr hy hH H
    refine ⟨fun h => (by rw [h] at hr; cases hr), fun j hj => ?_⟩
    by_cases hji : j = i
    · subst hji; unfold aStZ; simp only [hi]; exact .inl ⟨_, _, hy, hH, H⟩
    · have h1 := H.2 j (ready_mono hj hji)
      obtain ⟨hjun, oj, hoj, hall⟩ := mem_ready.1 hj
      have hnot : ∀ e ∈ oj.after, Region.binds .any e = true → e.on ≠ i := fun e he hb heq => by
        have h1 := hall e he hb
        have h0 := (mem_ready.1 hr).1
        rw [heq] at h1
        rcases Nat.lt_or_ge i listed.size with h' | h'
        · simp [h'] at h0 h1; rw [h0] at h1; cases h1
        · simp [Array.getElem?_eq_none h'] at h1
      have hfree' : ∀ k ok, ops[k]? = some ok → k ≠ i → (listed.setIfInBounds j true).getD k true = false →
          (∀ e ∈ ok.after, Region.binds .any e = true → e.on ≠ i) → oi.apart ops ok = true ∧ ∀ n, (k, n) ∈ V → n ∈ U := fun k ok hk hki hun hno => by
        refine hfree k ok hk hki ?_ hno
        by_cases hjk : j = k
        · subst hjk; exact hjun
        · rw [getD_set_ne true hjk] at hun; exact hun
      obtain ⟨hap, hVU⟩ := hfree j oj hoj hji hjun hnot
      unfold aStZ at h1 ⊢
      simp only [hoj] at h1 ⊢
      rcases h1 with ⟨qj, Uj, hyj, -, hk⟩ | ⟨hg, m, hp', r, hn, hH', hjs, hk⟩
      · obtain ⟨c1, c2, c3⟩ := hy.comm hap hyj
        refine .inl ⟨qj, Uj, c1, hH, ih (listed.setIfInBounds j true) _ hfree' (ready_mono hr (Ne.symm hji)) c2 (by rw [put_hp]; exact hH) ?_⟩
        rw [Array.setIfInBounds_comm _ _ hji, ← c3]
        exact hk
      · obtain ⟨c0, c1, c2, c3⟩ := hy.commJ hap (inVo_U hn hVU) hg hjs
        refine .inr ⟨c0, m, hp', r, hn, hH', c1, ih (listed.setIfInBounds j true) _ hfree' (ready_mono hr (Ne.symm hji)) c2 (by unfold appJ; rw [put_hp]; exact hH'.elim _root_.id (fun h => absurd (hVU FIN h) hU)) ?_⟩
        rw [Array.setIfInBounds_comm _ _ hji, ← c3]
        exact hk

def OpsZ (P : Program) (ops : Array Oper) (V : List (Nat × Nat)) (H : List HO → Prop) (K : St → Prop) : List (Nat × Option (List Nat)) → St → Prop
  | [], S => K S
  | (i, some U) :: r, S => ∃ o q, ops[i]? = some o ∧ FIN ∉ U ∧ H S.hp ∧ ZM P ops U H o S q ∧ OpsZ P ops V H K r (S.put o.dst q)
  | (i, none) :: r, S => ∃ o, ops[i]? = some o ∧ guardS ops S.fr o = some true ∧ ∃ n hp' q, inVo V i n ∧ (H hp' ∨ (i, FIN) ∈ V) ∧ JStep P o S.ev S.hp n hp' q ∧ OpsZ P ops V H K r (appJ S o n hp' q)

theorem aAnyZ_ord : ∀ (l : List (Nat × Option (List Nat))) (listed : Array Bool) (S : St), ordB ops V l listed = true → OpsZ P ops V H K l S → aAnyZ P ops V H K l.length listed S
  | [], _, _, hB, h => ⟨by simpa [ordB] using hB, h⟩
  | (i, some U) :: l, listed, S, hB, h => by
    simp only [ordB, Bool.and_eq_true] at hB
    obtain ⟨⟨⟨hr, hf⟩, hs⟩, hB'⟩ := hB
    obtain ⟨o, q, h0, hU, hH, hy, h⟩ := h
    exact aAnyZ_first h0 hU l.length listed S (fun j oj h1 h2 h3 h4 => ⟨Region.free_spec h0 hf j oj h1 h2 h3 h4, standB_spec hs j oj h1 h2 h3 h4⟩) (by simpa using hr) hy hH (aAnyZ_ord l _ _ hB' h)
  | (i, none) :: l, listed, S, hB, h => by
    simp only [ordB, Bool.and_eq_true] at hB
    obtain ⟨hr, hB'⟩ := hB
    have hr' : Region.ready .any ops listed = [i] := by simpa using hr
    obtain ⟨o, h0, hg, n, hp', q, hn, hH', hj, h⟩ := h
    refine ⟨fun e => (by rw [hr'] at e; cases e), fun j hjr => ?_⟩
    rw [hr', List.mem_singleton] at hjr
    subst hjr
    unfold aStZ
    simp only [h0]
    exact .inr ⟨hg, n, hp', q, hn, hH', hj, aAnyZ_ord l _ _ hB' h⟩

/-- A region in any order, walked in an order that is told. -/
theorem g_region_drawZ {id : Nat} {l : List Oper} {K : Exit → St → Prop} {S : St} (ord : List (Nat × Option (List Nat))) (V : List (Nat × Nat)) (H : List HO → Prop) (hm : P.follows .mixedOrders = true) (hl : ord.length = l.length) (hB : ordB l.toArray V ord (Array.replicate l.length false) = true)
    (h : OpsZ P l.toArray V H (K .normal) ord S) : Goal P (.region id l.toArray true) K S := fun w0 g ρ a w Q hr hQ => by
  refine wp_region_any hm (wpAny_of_aAnyZ (K := K .normal) (V := V) (H := H) (fun S' g' ρ' a' w' hk hr' => hQ .normal S' g' ρ' a' w' hk hr') _ _ S g ρ a _ ?_ hr.drew)
  have := aAnyZ_ord (P := P) (V := V) (H := H) (K := K .normal) ord (Array.replicate l.length false) S hB h
  rw [hl] at this
  simpa using this
end

section
variable {P : Program} {ops : Array Oper} {U : List Nat} {V : List (Nat × Nat)} {K : St → Prop} {H : List HO → Prop} {o : Oper} {i : Nat} {r : List (Nat × Option (List Nat))} {S : St}
theorem z_nil (hk : K S) : OpsZ P ops V H K [] S := hk
theorem z_pure {l : List Oper} {q : PV} (h0 : l[i]? = some o) (hg : guardS l.toArray S.fr o = some true) (h : ∀ hp, H hp → PStep P o S.ev hp q) (hq : okU U q) (ho : ∀ y ∈ o.op.operands, okU U (S.ev y)) (hU : FIN ∉ U) (hH : H S.hp) (hk : ∃ S', S.put o.dst q = S' ∧ OpsZ P l.toArray V H K r S') : OpsZ P l.toArray V H K ((i, some U) :: r) S :=
  hk.elim fun _ h' => ⟨o, q, by simpa using h0, hU, hH, .pure hg h hq ho, h'.1 ▸ h'.2⟩
theorem z_eff {l : List Oper} {n : Option Nat} {hp' : List HO} {q : PV} (h0 : l[i]? = some o) (hg : guardS l.toArray S.fr o = some true) (hn : inVo V i n) (h : JStep P o S.ev S.hp n hp' q) (hH : H hp' ∨ (i, FIN) ∈ V) (hk : ∃ S', appJ S o n hp' q = S' ∧ OpsZ P l.toArray V H K r S') : OpsZ P l.toArray V H K ((i, none) :: r) S :=
  hk.elim fun _ h' => ⟨o, by simpa using h0, hg, n, hp', q, hn, hH, h, h'.1 ▸ h'.2⟩
end
end Go.Pv

namespace Go.Pv
open Go
attribute [local semireducible] Go.Pv.Goal Go.Pv.Ops Go.Pv.PStep Go.Pv.EStep Go.Pv.KRets Go.Pv.PCalls Go.Pv.OpsG
section
variable {P : Program} {o : Oper} {S : St}
/-! #### Rows of a grid, settled -/
/-! #### Arrays of pairs -/
/-- A store of one element, of more than one cell, into an owned array. -/
theorem e_store_arrS {t : TypeId} {s : Nat} [ht : AggT P t s] {x v : Operand} {id i k : Nat} {e : TypeId} {l c : List PV} {p : PV} (ho : o.op = .store t x v) (hd : o.dst = none) (h1 : S.ev x = .hat id k) (hh : S.hp[id]? = some (.arr true s e l)) (hk : k = i * s) (hi : i < l.length)
    (h2 : view S.hp (S.ev v) = p) (hc : p.flat = some c) (hcn : c.length = s) (hone : (c.all PV.one) = true) : EStep P o S ⟨S.fr, S.hp.set id (.arr true s e (l.set i p))⟩ := by
  subst hk
  refine EStep.of_store ht.hs ho hd hh (fun m s e l h => by cases h; exact ⟨_, _, _, _, rfl, by simp⟩) (fun e1 e2 rows h => by cases h) (fun e1 e2 n rows h => by cases h) (fun L b h => h) fun w0 g ρ a w hr _ => ?_
  obtain ⟨cur, cc, hown⟩ := hr.base.own id _ hh
  have ea : a.eval x = .pointer (some ⟨(ρ id).blk, i * s, none⟩) := by have := hr.ev x; rw [h1] at this; exact this
  have ev := hr.base.view (hr.ev v)
  rw [h2] at ev
  obtain ⟨c1, c2⟩ := ev.cells hc
  have hsz : i * s + s ≤ cur.size := by
    have h1 : (i + 1) * s ≤ (ρ id).cap * s := Nat.mul_le_mul_right _ (Nat.le_trans hi hown.hcap)
    rw [Nat.add_mul, Nat.one_mul] at h1
    rw [hown.hsz]; exact h1
  have hgn : ∀ o, g (ρ id).blk o = none := fun o => by rw [hown.hg o]; simp
  refine ⟨_, i * s, cur, e, ea, rfl, hown.hB, hown.hw, hgn, hsz, c1.trans hcn, fun u hu => ?_, fun cur' hs' hk' => ?_⟩
  · obtain ⟨k, hk⟩ := List.getElem?_of_mem hu
    have hklt : k < c.length := by rw [← c1]; simpa using (List.getElem?_eq_some_iff.1 hk).1
    have hck : c[k]? = some c[k] := List.getElem?_eq_getElem hklt
    have hvr := c2 k _ hck
    have : (a.eval v).cells.getD k undef = u := by
      simp only [Array.getElem?_toList] at hk
      simp [Array.getD_eq_getD_getElem?, hk]
    rw [this] at hvr
    exact (hvr.oneCell (List.all_eq_true.1 hone _ (List.mem_of_getElem? hck))).2
  · refine ⟨cur', fun k => if k = i then c else cc k, ⟨hown.hs, hown.hB, by simpa using hown.hcap, hown.hmax, setRow_heap w _ _ _ _ _ hown.hw, hs'.trans hown.hsz, fun k p' hk => ?_, fun k j q hk hq => ?_, fun k => by rw [hgn k]; simp⟩⟩
    · rw [List.getElem?_set] at hk
      by_cases e : k = i
      · subst e
        simp [hi] at hk
        subst hk
        simp [hc, hcn]
      · rw [if_neg (Ne.symm e)] at hk
        rw [if_neg e]
        exact hown.hf k p' hk
    · simp only [List.length_set] at hk
      have hlen1 : (if k = i then c else cc k).length = s := by
        split
        · exact hcn
        · exact (hown.hf k l[k] (List.getElem?_eq_getElem hk)).2
      have hj : j < s := by rw [← hlen1]; exact (List.getElem?_eq_some_iff.1 hq).1
      rw [hk' _]
      by_cases e : k = i
      · subst e
        rw [if_pos rfl] at hq
        rw [if_pos (by omega), show k * s + j - k * s = j by omega]
        exact c2 j q hq
      · rw [if_neg e] at hq
        have hout : ¬ (i * s ≤ k * s + j ∧ k * s + j < i * s + s) := fun ⟨u1, u2⟩ => by
          rcases Nat.lt_or_gt_of_ne e with hlt | hgt
          · have h3 : (k + 1) * s ≤ i * s := Nat.mul_le_mul_right _ hlt
            rw [Nat.add_mul, Nat.one_mul] at h3
            omega
          · have h3 : (i + 1) * s ≤ k * s := Nat.mul_le_mul_right _ hgt
            rw [Nat.add_mul, Nat.one_mul] at h3
            omega
        rw [if_neg hout]
        exact hown.hv k j q hk hq
/-! #### Results of a lending call that lie in a variable -/
end
section
variable {P : Program} {o : Oper} {ev : Operand → PV} {hp : List HO}
theorem j_store {t : TypeId} {x v : Operand} (ho : o.op = .store t x v) (hd : o.dst = none) {hp' : List HO} (h : ∀ fr, (St.mk fr hp).ev x = ev x → (St.mk fr hp).ev v = ev v → EStep P o ⟨fr, hp⟩ ⟨fr, hp'⟩) : JStep P o ev hp none hp' .any := fun fr hfr => by
  have := h fr (hfr x (by simp [ho, Op.operands])) (hfr v (by simp [ho, Op.operands]))
  rw [show St.put ⟨killO none fr, hp'⟩ o.dst .any = ⟨fr, hp'⟩ by rw [hd]; rfl]
  exact this
/-- A literal by value, of any number of elements. -/
theorem ps_lits {t e : TypeId} {s by_ : Nat} [ht : SlT P t e s by_] {zs : List Value} [hz : ZeroT P e zs] {n : Nat} {ps : List (Nat × Operand)} (ho : o.op = .buildSlice t n (List.toArray ps)) (hparts : ps = zipFrom 0 (ps.map (·.2)))
    (hn : ps.length = n) (hok : elemsOk s (elems hp ev (ps.map (·.2)))) (hs : 0 < s) (hb : n * s ≤ 16777216) : PStep P o ev hp (.sl s none (elems hp ev (ps.map (·.2)))) :=
  ps_buildSlice (ht := ht) (hz := hz) (parts := List.toArray ps) ho hparts hn rfl hok hs hb
end
/-- What hands back an object of its own hands back its value. -/
theorem rcalls_P {P : Program} {f : FuncId} {args : List PV} {ho : HO} {q : PV} (hown : ownable ho = true) (hc : RCalls P f args ho q) : PCalls P f args (viewM [ho] q) := by
  unfold PCalls
  unfold RCalls at hc
  intro g w vs ha hv
  refine (hc g w vs ha hv).mono fun e w' h => ?_
  obtain ⟨v, L, rfl, hbl, hho, hv⟩ := h
  have hgn : ∀ b, decide (w.heap.size ≤ b) = true → Ini.own ⟨w, g, fun _ => false⟩ b = true ∧ ∀ o, g b o = none := fun b hb' => by
    have hb' : w.heap.size ≤ b := by simpa using hb'
    refine ⟨Ini.own_new hb', fun o => ?_⟩
    cases hk : g b o with
    | none => rfl
    | some v => exact absurd (ha.lt hk) (by omega)
  have hbase : Base ⟨w, g, fun _ => false⟩ [ho] g (fun _ => L) w' := by
    refine ⟨(BelowL.refl _).step hbl, ha.below hbl, fun _ _ _ => rfl, fun id x hx => ?_, fun i j x y b hij hx hy => ?_⟩
    · rcases id with _ | id
      · simp at hx; subst hx; exact hho.in hown hgn
      · simp at hx
    · rcases i with _ | i
      · rcases j with _ | j
        · exact absurd rfl hij
        · simp at hy
      · simp at hx
  exact ⟨v, snap g w' (Ini.own ⟨w, g, fun _ => false⟩), rfl, snap_ext hbase.agree _, fun b o hb => snap_old (Ini.own_old hb rfl) o, hbl, snap_agree hbase.agree _, hbase.viewM (hv.mono (g0_ext g))⟩
end Go.Pv
