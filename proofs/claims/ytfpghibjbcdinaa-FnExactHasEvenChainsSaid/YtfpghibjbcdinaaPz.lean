/- The layer, more: regions in any order in which one chain of effects stands amid steps that may come at any time. -/
import Derived.Test.YtfpghibjbcdinaaPy
namespace Go.Pv
open Go
attribute [local semireducible] Go.Pv.Goal Go.Pv.Ops Go.Pv.PStep Go.Pv.EStep Go.Pv.KRets Go.Pv.PCalls Go.Pv.OpsG

def killO : Option Nat → List PV → List PV
  | none, fr => fr
  | some n, fr => fr.map (killP n)
def appJ (S : St) (o : Oper) (n : Option Nat) (hp' : List HO) (r : PV) : St := St.put ⟨killO n S.fr, hp'⟩ o.dst r
def JStep (P : Program) (o : Oper) (ev : Operand → PV) (hp : List HO) (n : Option Nat) (hp' : List HO) (r : PV) : Prop :=
  ∀ fr : List PV, (∀ y ∈ o.op.operands, (St.mk fr hp).ev y = ev y) → EStep P o ⟨fr, hp⟩ (St.put ⟨killO n fr, hp'⟩ o.dst r)

inductive YM (P : Program) (ops : Array Oper) (U : List Nat) (o : Oper) (S : St) : PV → Prop
  | pure {q : PV} (hg : guardS ops S.fr o = some true) (h : ∀ hp, PStep P o S.ev hp q) (hq : okU U q) (ho : ∀ y ∈ o.op.operands, okU U (S.ev y)) : YM P ops U o S q
  | skip (hg : guardS ops S.fr o = some false) : YM P ops U o S (.val undef)
theorem YM.ok {P : Program} {ops : Array Oper} {U : List Nat} {o : Oper} {S : St} {q : PV} (h : YM P ops U o S q) : ∀ i ∈ U, killP i q = q := by
  cases h with
  | pure hg h hq ho => exact okU_spec hq
  | skip hg => exact fun i _ => rfl
def inU (U : List Nat) : Option Nat → Prop
  | none => True
  | some n => n ∈ U

/-- Which objects' names an operation of the chain may make forgotten. -/
def inV : List (Nat × Nat) → Nat → Nat → Prop
  | [], _, _ => False
  | (j, m) :: l, i, n => (j = i ∧ m = n) ∨ inV l i n
def inVo (V : List (Nat × Nat)) (i : Nat) : Option Nat → Prop
  | none => True
  | some n => inV V i n
theorem inV_mem {V : List (Nat × Nat)} {i n : Nat} : inV V i n → (i, n) ∈ V := by
  induction V with
  | nil => intro h; exact h.elim
  | cons p V ih =>
    obtain ⟨j, m⟩ := p
    rintro (⟨rfl, rfl⟩ | h)
    · simp
    · exact List.mem_cons_of_mem _ (ih h)
theorem inVo_U {V : List (Nat × Nat)} {U : List Nat} {i : Nat} {n : Option Nat} (h : inVo V i n) (hs : ∀ n, (i, n) ∈ V → n ∈ U) : inU U n := by
  cases n with
  | none => trivial
  | some n => exact hs n (inV_mem h)

section
variable {P : Program} {ops : Array Oper} {U : List Nat} {V : List (Nat × Nat)} {K : St → Prop}
theorem guard_kill {fr : List PV} {o : Oper} (n : Nat) : guardS ops (fr.map (killP n)) o = guardS ops fr o := by
  unfold guardS
  cases hg : o.guard with
  | none => rfl
  | some p =>
    obtain ⟨j, want⟩ := p
    simp only []
    cases hj : (ops[j]?).bind (·.dst) with
    | none => rfl
    | some d =>
      simp only [List.getElem?_map]
      cases hd : fr[d]? with
      | none => rfl
      | some p =>
        simp only [Option.map_some]
        cases p with
        | hp i => simp only [killP, killP1]; cases (i == n) <;> rfl
        | hat i k => simp only [killP, killP1]; cases (i == n) <;> rfl
        | gr i k => simp only [killP, killP1]; cases (i == n) <;> rfl
        | gat i k m => simp only [killP, killP1]; cases (i == n) <;> rfl
        | hpv i k m => simp only [killP, killP1]; cases (i == n) <;> rfl
        | hatv i k m l => simp only [killP, killP1]; cases (i == n) <;> rfl
        | _ => rfl
theorem guard_killO {fr : List PV} {o : Oper} (n : Option Nat) : guardS ops (killO n fr) o = guardS ops fr o := by
  cases n with
  | none => rfl
  | some n => exact guard_kill n
theorem ev_kill (fr : List PV) (hp hp' : List HO) (n : Nat) (y : Operand) : (St.mk (fr.map (killP n)) hp').ev y = killP n ((St.mk fr hp).ev y) := by
  cases y with
  | tmp t =>
    simp only [St.ev, List.getD_eq_getElem?_getD, List.getElem?_map]
    cases fr[t]? <;> rfl
  | _ => rfl
theorem ev_killO {fr : List PV} {hp hp' : List HO} {n : Option Nat} (hn : inU U n) {y : Operand} (h : okU U ((St.mk fr hp).ev y)) : (St.mk (killO n fr) hp').ev y = (St.mk fr hp).ev y := by
  cases n with
  | none => exact ev_fr rfl y
  | some n => exact (ev_kill fr hp hp' n y).trans (okU_spec h n hn)
theorem killO_set {fr : List PV} {n : Option Nat} (hn : inU U n) {d : Nat} {q : PV} (hq : ∀ i ∈ U, killP i q = q) : killO n (fr.set d q) = (killO n fr).set d q := by
  cases n with
  | none => rfl
  | some n => simp only [killO, List.map_set]; rw [hq n hn]
theorem put_killO {fr : List PV} {hp hp' : List HO} {n : Option Nat} (hn : inU U n) {d : Option Tmp} {q : PV} (hq : ∀ i ∈ U, killP i q = q) : (St.mk (killO n (St.put ⟨fr, hp⟩ d q).fr) hp') = St.put ⟨killO n fr, hp'⟩ d q := by
  cases d with
  | none => rfl
  | some d => simp only [St.put]; rw [killO_set hn hq]
theorem put_hp (S : St) (d : Option Tmp) (q : PV) : (S.put d q).hp = S.hp := by cases d <;> rfl

theorem YM.comm {oi oj : Oper} {S : St} {qi qj : PV} {U' : List Nat} (hap : oi.apart ops oj = true) (hi : YM P ops U oi S qi) (hj : YM P ops U' oj (S.put oi.dst qi) qj) :
    YM P ops U' oj S qj ∧ YM P ops U oi (S.put oj.dst qj) qi ∧ (S.put oi.dst qi).put oj.dst qj = (S.put oj.dst qj).put oi.dst qi := by
  obtain ⟨h1, h2, h3⟩ := Oper.apart_spec hap
  have evj : ∀ y ∈ oj.op.operands, (S.put oi.dst qi).ev y = S.ev y := fun y hy => S.ev_put _ _ y fun t ht e => h1 t ht (mem_looksAt_op (e ▸ hy))
  have evi : ∀ y ∈ oi.op.operands, (S.put oj.dst qj).ev y = S.ev y := fun y hy => S.ev_put _ _ y fun t ht e => h3 t ht (mem_looksAt_op (e ▸ hy))
  refine ⟨?_, ?_, S.put_comm qi qj h2⟩
  · cases hj with
    | pure hg h hq ho => exact .pure (guardS_put h1 ▸ hg) (fun hp => (h hp).congr evj) hq (fun y hy => evj y hy ▸ ho y hy)
    | skip hg => exact .skip (guardS_put h1 ▸ hg)
  · cases hi with
    | pure hg h hq ho => exact .pure ((guardS_put h3).symm ▸ hg) (fun hp => (h hp).congr fun y hy => (evi y hy).symm) hq (fun y hy => (evi y hy).symm ▸ ho y hy)
    | skip hg => exact .skip ((guardS_put h3).symm ▸ hg)

theorem YM.commJ {oi oj : Oper} {S : St} {qi r : PV} {n : Option Nat} {hp' : List HO} (hap : oi.apart ops oj = true) (hn : inU U n) (hi : YM P ops U oi S qi) (hg : guardS ops (S.put oi.dst qi).fr oj = some true) (hj : JStep P oj (S.put oi.dst qi).ev (S.put oi.dst qi).hp n hp' r) :
    guardS ops S.fr oj = some true ∧ JStep P oj S.ev S.hp n hp' r ∧ YM P ops U oi (appJ S oj n hp' r) qi ∧ appJ (S.put oi.dst qi) oj n hp' r = (appJ S oj n hp' r).put oi.dst qi := by
  obtain ⟨h1, h2, h3⟩ := Oper.apart_spec hap
  have evj : ∀ y ∈ oj.op.operands, (S.put oi.dst qi).ev y = S.ev y := fun y hy => S.ev_put _ _ y fun t ht e => h1 t ht (mem_looksAt_op (e ▸ hy))
  refine ⟨guardS_put h1 ▸ hg, ?_, ?_, ?_⟩
  · rw [put_hp] at hj
    exact fun fr hfr => hj fr fun y hy => (hfr y hy).trans (evj y hy).symm
  · have hgi : guardS ops (appJ S oj n hp' r).fr oi = guardS ops S.fr oi := by
      unfold appJ
      rw [guardS_put (S := ⟨killO n S.fr, hp'⟩) h3]
      exact guard_killO n
    cases hi with
    | pure hg' h hq ho =>
      have evi : ∀ y ∈ oi.op.operands, (appJ S oj n hp' r).ev y = S.ev y := fun y hy => by
        unfold appJ
        rw [St.ev_put ⟨killO n S.fr, hp'⟩ _ _ y fun t ht e => h3 t ht (mem_looksAt_op (e ▸ hy))]
        exact ev_killO (fr := S.fr) (hp := S.hp) hn (ho y hy)
      exact .pure (hgi.symm ▸ hg') (fun hp => (h hp).congr fun y hy => (evi y hy).symm) hq (fun y hy => (evi y hy).symm ▸ ho y hy)
    | skip hg' => exact .skip (hgi.symm ▸ hg')
  · unfold appJ
    rw [show (St.mk (killO n (S.put oi.dst qi).fr) hp') = St.put ⟨killO n S.fr, hp'⟩ oi.dst qi from put_killO (fr := S.fr) (hp := S.hp) hn hi.ok]
    exact St.put_comm _ qi r h2

def aStY (P : Program) (ops : Array Oper) (V : List (Nat × Nat)) (i : Nat) (K : St → Prop) (S : St) : Prop :=
  match ops[i]? with
  | none => K S
  | some o => (∃ q U, YM P ops U o S q ∧ K (S.put o.dst q)) ∨ (guardS ops S.fr o = some true ∧ ∃ n hp' r, inVo V i n ∧ JStep P o S.ev S.hp n hp' r ∧ K (appJ S o n hp' r))
def aAnyY (P : Program) (ops : Array Oper) (V : List (Nat × Nat)) (K : St → Prop) : Nat → Array Bool → St → Prop
  | 0, listed, S => Region.ready .any ops listed = [] ∧ K S
  | n + 1, listed, S => (Region.ready .any ops listed = [] → K S) ∧ ∀ i ∈ Region.ready .any ops listed, aStY P ops V i (aAnyY P ops V K n (listed.setIfInBounds i true)) S

theorem wpAny_of_aAnyY {Q : Exit → Act → World → Prop} {w0 : Ini} (hK : ∀ S g ρ a w, K S → Rel w0 S g ρ a w → Q .normal a w) :
    ∀ (n : Nat) (listed : Array Bool) (S : St) (g : Ghost) (ρ : Nat → Loc) (a : Act) (w : World), aAnyY P ops V K n listed S → Rel w0 S g ρ a w → wpAny P .any ops Q n listed a w
  | 0, _, S, g, ρ, a, w, h, hr => ⟨h.1, hK S g ρ a w h.2 hr⟩
  | n + 1, listed, S, g, ρ, a, w, h, hr => by
    refine ⟨fun h0 => hK S g ρ a w (h.1 h0) hr, fun i hi => ?_⟩
    have h1 := h.2 i hi
    unfold aStY at h1
    unfold wpOp
    split
    · rename_i ho
      simp only [ho] at h1
      exact wpAny_of_aAnyY hK n _ S g ρ a w h1 hr
    · rename_i o ho
      simp only [ho] at h1
      rcases h1 with ⟨q, _, hy, h1⟩ | ⟨hg, m, hp', r, _, hj, h1⟩
      · cases hy with
        | pure hg hp hq hop =>
          rw [if_pos (guardS_spec hr hg)]
          left
          exact hp S.hp w0 g ρ w a hr.base (fun x _ => hr.ev x) Q _ fun v g' w' hx hb hv => wpAny_of_aAnyY hK n _ _ g' ρ _ w' h1 (hr.put hb hx hv o.dst)
        | skip hg =>
          rw [if_neg (by rw [guardS_spec hr hg]; simp)]
          exact wpAny_of_aAnyY hK n _ _ g ρ _ w h1 (hr.put hr.base (GExt.refl g) (.of_VR (.val undef)) o.dst)
      · rw [if_pos (guardS_spec hr hg)]
        left
        exact hj S.fr (fun _ _ => rfl) w0 g ρ a w hr Q _ fun g' ρ' a' w' _ hr' => wpAny_of_aAnyY hK n _ _ g' ρ' a' w' h1 hr'

theorem aAnyY_first {i : Nat} {oi : Oper} {qi : PV} (hi : ops[i]? = some oi) : ∀ (fuel : Nat) (listed : Array Bool) (S : St),
    (∀ j oj, ops[j]? = some oj → j ≠ i → listed.getD j true = false → (∀ e ∈ oj.after, Region.binds .any e = true → e.on ≠ i) → oi.apart ops oj = true ∧ ∀ n, (j, n) ∈ V → n ∈ U) →
    i ∈ Region.ready .any ops listed → YM P ops U oi S qi → aAnyY P ops V K fuel (listed.setIfInBounds i true) (S.put oi.dst qi) → aAnyY P ops V K (fuel + 1) listed S := by
  intro fuel
  induction fuel with
  | zero =>
    intro listed S _ hr hy H
    refine ⟨fun h => (by rw [h] at hr; cases hr), fun j hj => ?_⟩
    by_cases hji : j = i
    · subst hji; unfold aStY; simp only [hi]; exact .inl ⟨_, _, hy, H⟩
    · have := ready_mono hj hji
      rw [H.1] at this
      cases this
  | succ fuel ih =>
    intro listed S hfree hr hy H
    refine ⟨fun h => (by rw [h] at hr; cases hr), fun j hj => ?_⟩
    by_cases hji : j = i
    · subst hji; unfold aStY; simp only [hi]; exact .inl ⟨_, _, hy, H⟩
    · have h1 := H.2 j (ready_mono hj hji)
      obtain ⟨hjun, oj, hoj, hall⟩ := mem_ready.1 hj
      have hnot : ∀ e ∈ oj.after, Region.binds .any e = true → e.on ≠ i := fun e he hb heq => by
        have h1 := hall e he hb
        have h0 := (mem_ready.1 hr).1
        rw [heq] at h1
        rcases Nat.lt_or_ge i listed.size with h' | h'
        · simp [h'] at h0 h1; rw [h0] at h1; cases h1
        · simp [Array.getElem?_eq_none h'] at h1
      have hfree' : ∀ k ok, ops[k]? = some ok → k ≠ i → (listed.setIfInBounds j true).getD k true = false →
          (∀ e ∈ ok.after, Region.binds .any e = true → e.on ≠ i) → oi.apart ops ok = true ∧ ∀ n, (k, n) ∈ V → n ∈ U := fun k ok hk hki hun hno => by
        refine hfree k ok hk hki ?_ hno
        by_cases hjk : j = k
        · subst hjk; exact hjun
        · rw [getD_set_ne true hjk] at hun; exact hun
      obtain ⟨hap, hVU⟩ := hfree j oj hoj hji hjun hnot
      unfold aStY at h1 ⊢
      simp only [hoj] at h1 ⊢
      rcases h1 with ⟨qj, Uj, hyj, hk⟩ | ⟨hg, m, hp', r, hn, hjs, hk⟩
      · obtain ⟨c1, c2, c3⟩ := hy.comm hap hyj
        refine .inl ⟨qj, Uj, c1, ih (listed.setIfInBounds j true) _ hfree' (ready_mono hr (Ne.symm hji)) c2 ?_⟩
        rw [Array.setIfInBounds_comm _ _ hji, ← c3]
        exact hk
      · obtain ⟨c0, c1, c2, c3⟩ := hy.commJ hap (inVo_U hn hVU) hg hjs
        refine .inr ⟨c0, m, hp', r, hn, c1, ih (listed.setIfInBounds j true) _ hfree' (ready_mono hr (Ne.symm hji)) c2 ?_⟩
        rw [Array.setIfInBounds_comm _ _ hji, ← c3]
        exact hk

/-- What an operation that may come at any time must withstand: what all do that need not wait for it. -/
def standB (ops : Array Oper) (V : List (Nat × Nat)) (U : List Nat) (listed : Array Bool) (i : Nat) : Bool :=
  (List.range ops.size).all fun j => j == i || listed.getD j true || (match ops[j]? with
    | some oj => oj.after.any (fun e => Region.binds .any e && e.on == i)
    | none => true) || V.all fun p => p.1 != j || U.contains p.2
theorem standB_spec {ops : Array Oper} {U : List Nat} {listed : Array Bool} {i : Nat} (h : standB ops V U listed i = true) (j : Nat) (oj : Oper) (hj : ops[j]? = some oj) (hne : j ≠ i) (hun : listed.getD j true = false)
    (hno : ∀ e ∈ oj.after, Region.binds .any e = true → e.on ≠ i) : ∀ n, (j, n) ∈ V → n ∈ U := fun n hn => by
  simp only [standB, List.all_eq_true, List.mem_range] at h
  have h1 := h j (Array.getElem?_eq_some_iff.1 hj).1
  simp only [hj, Bool.or_eq_true, beq_iff_eq, hne, false_or, hun, Bool.false_eq_true] at h1
  rcases h1 with h1 | h1
  · obtain ⟨e, he, hb⟩ := Array.any_eq_true'.1 h1
    simp only [Bool.and_eq_true, beq_iff_eq] at hb
    exact absurd hb.2 (hno e he hb.1)
  · have := List.all_eq_true.1 h1 (j, n) hn
    simpa using this

/-- An order in which the region may be walked: what may come at any time (some U: the objects that it must not name), and the chain's members (none), each ready alone. -/
def ordB (ops : Array Oper) (V : List (Nat × Nat)) : List (Nat × Option (List Nat)) → Array Bool → Bool
  | [], listed => (Region.ready .any ops listed).isEmpty
  | (i, some U) :: r, listed => (Region.ready .any ops listed).contains i && Region.free .any ops listed i && standB ops V U listed i && ordB ops V r (listed.setIfInBounds i true)
  | (i, none) :: r, listed => Region.ready .any ops listed == [i] && ordB ops V r (listed.setIfInBounds i true)
def OpsY (P : Program) (ops : Array Oper) (V : List (Nat × Nat)) (K : St → Prop) : List (Nat × Option (List Nat)) → St → Prop
  | [], S => K S
  | (i, some U) :: r, S => ∃ o q, ops[i]? = some o ∧ YM P ops U o S q ∧ OpsY P ops V K r (S.put o.dst q)
  | (i, none) :: r, S => ∃ o, ops[i]? = some o ∧ guardS ops S.fr o = some true ∧ ∃ n hp' q, inVo V i n ∧ JStep P o S.ev S.hp n hp' q ∧ OpsY P ops V K r (appJ S o n hp' q)

theorem aAnyY_ord : ∀ (l : List (Nat × Option (List Nat))) (listed : Array Bool) (S : St), ordB ops V l listed = true → OpsY P ops V K l S → aAnyY P ops V K l.length listed S
  | [], _, _, hB, h => ⟨by simpa [ordB] using hB, h⟩
  | (i, some U) :: l, listed, S, hB, h => by
    simp only [ordB, Bool.and_eq_true] at hB
    obtain ⟨⟨⟨hr, hf⟩, hs⟩, hB'⟩ := hB
    obtain ⟨o, q, h0, hy, h⟩ := h
    exact aAnyY_first h0 l.length listed S (fun j oj h1 h2 h3 h4 => ⟨Region.free_spec h0 hf j oj h1 h2 h3 h4, standB_spec hs j oj h1 h2 h3 h4⟩) (by simpa using hr) hy (aAnyY_ord l _ _ hB' h)
  | (i, none) :: l, listed, S, hB, h => by
    simp only [ordB, Bool.and_eq_true] at hB
    obtain ⟨hr, hB'⟩ := hB
    have hr' : Region.ready .any ops listed = [i] := by simpa using hr
    obtain ⟨o, h0, hg, n, hp', q, hn, hj, h⟩ := h
    refine ⟨fun e => (by rw [hr'] at e; cases e), fun j hjr => ?_⟩
    rw [hr', List.mem_singleton] at hjr
    subst hjr
    unfold aStY
    simp only [h0]
    exact .inr ⟨hg, n, hp', q, hn, hj, aAnyY_ord l _ _ hB' h⟩

/-- A region in any order, walked in an order that is told. -/
theorem g_region_drawY {id : Nat} {l : List Oper} {K : Exit → St → Prop} {S : St} (ord : List (Nat × Option (List Nat))) (V : List (Nat × Nat)) (hm : P.follows .mixedOrders = true) (hl : ord.length = l.length) (hB : ordB l.toArray V ord (Array.replicate l.length false) = true)
    (h : OpsY P l.toArray V (K .normal) ord S) : Goal P (.region id l.toArray true) K S := fun w0 g ρ a w Q hr hQ => by
  refine wp_region_any hm (wpAny_of_aAnyY (K := K .normal) (V := V) (fun S' g' ρ' a' w' hk hr' => hQ .normal S' g' ρ' a' w' hk hr') _ _ S g ρ a _ ?_ hr.drew)
  have := aAnyY_ord (P := P) (V := V) (K := K .normal) ord (Array.replicate l.length false) S hB h
  rw [hl] at this
  simpa using this
end

section
variable {P : Program} {ops : Array Oper} {U : List Nat} {V : List (Nat × Nat)} {K : St → Prop} {o : Oper} {i : Nat} {r : List (Nat × Option (List Nat))} {S : St}
theorem y_nil (hk : K S) : OpsY P ops V K [] S := hk
theorem y_pure {l : List Oper} {q : PV} (h0 : l[i]? = some o) (hg : guardS l.toArray S.fr o = some true) (h : ∀ hp, PStep P o S.ev hp q) (hq : okU U q) (ho : ∀ y ∈ o.op.operands, okU U (S.ev y)) (hk : ∃ S', S.put o.dst q = S' ∧ OpsY P l.toArray V K r S') : OpsY P l.toArray V K ((i, some U) :: r) S :=
  hk.elim fun _ h' => ⟨o, q, by simpa using h0, .pure hg h hq ho, h'.1 ▸ h'.2⟩
theorem y_eff {l : List Oper} {n : Option Nat} {hp' : List HO} {q : PV} (h0 : l[i]? = some o) (hg : guardS l.toArray S.fr o = some true) (hn : inVo V i n) (h : JStep P o S.ev S.hp n hp' q) (hk : ∃ S', appJ S o n hp' q = S' ∧ OpsY P l.toArray V K r S') : OpsY P l.toArray V K ((i, none) :: r) S :=
  hk.elim fun _ h' => ⟨o, by simpa using h0, hg, n, hp', q, hn, h, h'.1 ▸ h'.2⟩

theorem j_pure {ev : Operand → PV} {hp : List HO} {q : PV} (h : PStep P o ev hp q) : JStep P o ev hp none hp q := fun fr hfr => by
  have := e_of_p (S := ⟨fr, hp⟩) (h.congr fun y hy => (hfr y hy).symm)
  have e : St.put ⟨killO none fr, hp⟩ o.dst q = (St.mk fr hp).put o.dst q := rfl
  rw [e]; exact this
theorem j_callRF {ev : Operand → PV} {hp : List HO} {x : Operand} {xs : Array Operand} {tys : Array TypeId} {f : FuncId} [hf : FnT P f] {first caps args : List PV} {s : Nat} {e : TypeId} {l : List PV} {q : PV} (ho' : o.op = .call { callee := .value x, args := xs, argTypes := tys }) (h1 : ev x = .fn f first caps)
    (h2 : argsLe (first ++ elemsM hp ev xs.toList ++ caps) args) (hc : RCalls P f args (.arr true s e l) q) : JStep P o ev hp (some hp.length) (killH hp.length hp ++ [.arr false s e l]) (renP hp.length q) := fun fr hfr => by
  have hel : elemsM hp (St.mk fr hp).ev xs.toList = elemsM hp ev xs.toList := List.map_congr_left fun y hm => by
    rw [hfr y (by simp only [ho', Op.operands, Call.operands]; exact Array.mem_append.2 (.inr (by simpa using hm)))]
  exact e_callRF (S := ⟨fr, hp⟩) ho' ((hfr x (by simp [ho', Op.operands, Call.operands])).trans h1) (by rw [show elemsM (St.mk fr hp).hp (St.mk fr hp).ev xs.toList = elemsM hp ev xs.toList from hel]; exact h2) hc
theorem j_callR {ev : Operand → PV} {hp : List HO} {x : Operand} {xs : Array Operand} {tys : Array TypeId} {f : FuncId} [hf : FnT P f] {first caps args : List PV} {ho : HO} {q : PV} (ho' : o.op = .call { callee := .value x, args := xs, argTypes := tys }) (h1 : ev x = .fn f first caps)
    (h2 : argsLe (first ++ elemsM hp ev xs.toList ++ caps) args) (hown : ownable ho = true) (hc : RCalls P f args ho q) : JStep P o ev hp (some hp.length) (killH hp.length hp ++ [ho]) (renP hp.length q) := fun fr hfr => by
  have hel : elemsM hp (St.mk fr hp).ev xs.toList = elemsM hp ev xs.toList := List.map_congr_left fun y hm => by
    rw [hfr y (by simp only [ho', Op.operands, Call.operands]; exact Array.mem_append.2 (.inr (by simpa using hm)))]
  exact e_callR (S := ⟨fr, hp⟩) ho' ((hfr x (by simp [ho', Op.operands, Call.operands])).trans h1) (by rw [show elemsM (St.mk fr hp).hp (St.mk fr hp).ev xs.toList = elemsM hp ev xs.toList from hel]; exact h2) hown hc
theorem j_append {ev : Operand → PV} {hp : List HO} {t e : TypeId} {s by_ : Nat} {zs : List Value} [ht : MkT P t e s by_ zs] {x y : Operand} {tys : Array TypeId} {id : Nat} {mt : Bool} {e' : TypeId} {l l2 : List PV} {nn : Option Bool} (ho : o.op = .call { callee := .builtin .append, args := #[x, y], argTypes := tys })
    (htys : tys = #[t, t]) (h1 : ev x = .hp id) (hh : hp[id]? = some (.arr mt s e' l)) (he : e' = e) (h2 : view hp (ev y) = .sl s nn l2) (hone : ∀ p ∈ l2, ∀ c, p.flat = some c → (c.all PV.one) = true) (hzs : zs.length = s)
    (hb : (l.length + l2.length) * by_ ≤ 140737488355328) (hm : l.length + l2.length ≤ 9223372036854775807) : JStep P o ev hp (some id) ((killH id hp).set id (.arr mt s e (l ++ l2))) (.hp id) := fun fr hfr =>
  e_append (S := ⟨fr, hp⟩) (ht := ht) ho htys ((hfr x (by simp [ho, Op.operands, Call.operands])).trans h1) hh he (by rw [show (St.mk fr hp).ev y = ev y from hfr y (by simp [ho, Op.operands, Call.operands])]; exact h2) hone hzs hb hm
end
end Go.Pv
