/- The layer, more: regions in any order whose calls and variables lay objects of their own, in whatever order. -/
import Derived.Test.YtfpghibjbcdinaaPx
namespace Go.Pv
open Go
attribute [local semireducible] Go.Pv.Goal Go.Pv.Ops Go.Pv.PStep Go.Pv.EStep Go.Pv.KRets Go.Pv.PCalls Go.Pv.OpsG Go.Pv.RCalls

/-- No slot and no variable names the object i. -/
def NoM (i : Nat) (S : St) : Prop := S.fr.map (killP i) = S.fr ∧ S.hp.map (mapHO (killP1 i)) = S.hp
def InvU (U : List Nat) (S : St) : Prop := ∀ i ∈ U, S.hp[i]? = some .gone → NoM i S
def okU : List Nat → PV → Prop
  | [], _ => True
  | i :: U, q => killP i q = q ∧ okU U q
theorem okU_spec {q : PV} : ∀ {U : List Nat}, okU U q → ∀ i ∈ U, killP i q = q
  | [], _, i, hi => by simp at hi
  | j :: U, h, i, hi => by
    rcases List.mem_cons.1 hi with rfl | hi
    · exact h.1
    · exact okU_spec h.2 i hi
def okN (n : Nat) (q : PV) (x : HO) : List Nat → Prop
  | [] => True
  | i :: U => (i = n ∨ (killP i q = q ∧ mapHO (killP1 i) x = x)) ∧ okN n q x U
theorem okN_spec {n : Nat} {q : PV} {x : HO} : ∀ {U : List Nat}, okN n q x U → ∀ i ∈ U, i ≠ n → killP i q = q ∧ mapHO (killP1 i) x = x
  | [], _, i, hi, _ => by simp at hi
  | j :: U, h, i, hi, hne => by
    rcases List.mem_cons.1 hi with rfl | hi
    · rcases h.1 with h' | h'
      · exact absurd h' hne
      · exact h'
    · exact okN_spec h.2 i hi hne
def invL : List Nat → St → Prop
  | [], _ => True
  | i :: U, S => NoM i S ∧ invL U S
theorem invL_spec {S : St} : ∀ {U : List Nat}, invL U S → InvU U S
  | [], _, i, hi, _ => by simp at hi
  | j :: U, h, i, hi, hg => by
    rcases List.mem_cons.1 hi with rfl | hi
    · exact h.1
    · exact invL_spec h.2 i hi hg

def LStep (P : Program) (o : Oper) (ev : Operand → PV) (n : Nat) (x : HO) (q : PV) : Prop :=
  ∀ (fr : List PV) (hp : List HO), (∀ y ∈ o.op.operands, (St.mk fr hp).ev y = ev y) → hp[n]? = some .gone → NoM n ⟨fr, hp⟩ → EStep P o ⟨fr, hp⟩ (St.put ⟨fr, hp.set n x⟩ o.dst q)

inductive YX (P : Program) (ops : Array Oper) (U : List Nat) (o : Oper) (S : St) : Option (Nat × HO) → PV → Prop
  | pure {q : PV} (hg : guardS ops S.fr o = some true) (h : ∀ hp, PStep P o S.ev hp q) (hq : okU U q) : YX P ops U o S none q
  | eff {n : Nat} {x : HO} {q : PV} (hg : guardS ops S.fr o = some true) (h : LStep P o S.ev n x q) (h0 : S.hp[n]? = some .gone) (hx : x ≠ .gone) (hn : n ∈ U) (hq : okN n q x U) : YX P ops U o S (some (n, x)) q
  | skip (hg : guardS ops S.fr o = some false) : YX P ops U o S none (.val undef)

def hpC (hp : List HO) : Option (Nat × HO) → List HO
  | none => hp
  | some (n, x) => hp.set n x
def appC (S : St) (o : Oper) (e : Option (Nat × HO)) (q : PV) : St := St.put ⟨S.fr, hpC S.hp e⟩ o.dst q

section
variable {P : Program} {ops : Array Oper} {U : List Nat} {K : St → Prop}
theorem appC_fr (S : St) (o : Oper) (e : Option (Nat × HO)) (q : PV) : (appC S o e q).fr = (S.put o.dst q).fr := by unfold appC; cases o.dst <;> rfl
theorem appC_hp (S : St) (o : Oper) (e : Option (Nat × HO)) (q : PV) : (appC S o e q).hp = hpC S.hp e := by unfold appC; cases o.dst <;> rfl
theorem ev_fr {S T : St} (h : S.fr = T.fr) (y : Operand) : S.ev y = T.ev y := by cases y <;> simp only [St.ev, h]
theorem appC_ev {S : St} {o o' : Oper} {e : Option (Nat × HO)} {q : PV} (hd : ∀ t, o.dst = some t → t ∉ o'.looksAt ops) {y : Operand} (hy : y ∈ o'.op.operands) : (appC S o e q).ev y = S.ev y := by
  rw [ev_fr (appC_fr S o e q), S.ev_put o.dst q y fun t ht e' => hd t ht (mem_looksAt_op (e' ▸ hy))]
theorem appC_guard {S : St} {o o' : Oper} {e : Option (Nat × HO)} {q : PV} (hd : ∀ t, o.dst = some t → t ∉ o'.looksAt ops) : guardS ops (appC S o e q).fr o' = guardS ops S.fr o' := by
  rw [appC_fr, guardS_put hd]
theorem LStep.congr {o : Oper} {ev ev' : Operand → PV} {n : Nat} {x : HO} {q : PV} (h : ∀ y ∈ o.op.operands, ev y = ev' y) (hl : LStep P o ev n x q) : LStep P o ev' n x q :=
  fun fr hp hy h0 hn => hl fr hp (fun y hm => (hy y hm).trans (h y hm).symm) h0 hn
theorem hpC_at {hp : List HO} {e : Option (Nat × HO)} {n : Nat} (hne : ∀ m x, e = some (m, x) → m ≠ n) : (hpC hp e)[n]? = hp[n]? := by
  cases e with
  | none => rfl
  | some p => obtain ⟨m, x⟩ := p; exact List.getElem?_set_ne (hne m x rfl)

theorem YX.comm {oi oj : Oper} {S : St} {ei ej : Option (Nat × HO)} {qi qj : PV} (hap : oi.apart ops oj = true) (hi : YX P ops U oi S ei qi) (hj : YX P ops U oj (appC S oi ei qi) ej qj) :
    YX P ops U oj S ej qj ∧ YX P ops U oi (appC S oj ej qj) ei qi ∧ appC (appC S oi ei qi) oj ej qj = appC (appC S oj ej qj) oi ei qi := by
  obtain ⟨h1, h2, h3⟩ := Oper.apart_spec hap
  have gj : guardS ops (appC S oi ei qi).fr oj = guardS ops S.fr oj := appC_guard h1
  have gi : ∀ e q, guardS ops (appC S oj e q).fr oi = guardS ops S.fr oi := fun e q => appC_guard h3
  have evj : ∀ y ∈ oj.op.operands, (appC S oi ei qi).ev y = S.ev y := fun y hy => appC_ev h1 hy
  have evi : ∀ e q, ∀ y ∈ oi.op.operands, (appC S oj e q).ev y = S.ev y := fun e q y hy => appC_ev h3 hy
  -- the two objects are different ones
  have apart : ∀ m x n y, ei = some (m, x) → ej = some (n, y) → m ≠ n := fun m x n y e1 e2 e => by
    subst e
    cases hi with
    | eff hg h h0 hx hn hq =>
      cases e1
      cases hj with
      | eff hg' h' h0' hx' hn' hq' =>
        cases e2
        rw [appC_hp] at h0'
        have hlt : m < S.hp.length := (List.getElem?_eq_some_iff.1 h0).1
        have : (hpC S.hp (some (m, x)))[m]? = some x := List.getElem?_set_self hlt
        rw [this] at h0'
        exact hx (by simpa using h0')
      | _ => cases e2
    | _ => cases e1
  refine ⟨?_, ?_, ?_⟩
  · cases hj with
    | pure hg h hq => exact .pure (gj ▸ hg) (fun hp => (h hp).congr evj) hq
    | skip hg => exact .skip (gj ▸ hg)
    | eff hg h h0 hx hn hq =>
      refine .eff (gj ▸ hg) (h.congr evj) ?_ hx hn hq
      rw [appC_hp, hpC_at (fun m x e => apart m x _ _ e rfl)] at h0
      exact h0
  · cases hi with
    | pure hg h hq => exact .pure ((gi _ _).symm ▸ hg) (fun hp => (h hp).congr fun y hy => (evi _ _ y hy).symm) hq
    | skip hg => exact .skip ((gi _ _).symm ▸ hg)
    | eff hg h h0 hx hn hq =>
      refine .eff ((gi _ _).symm ▸ hg) (h.congr fun y hy => (evi _ _ y hy).symm) ?_ hx hn hq
      rw [appC_hp, hpC_at (fun m x e e' => apart _ _ m x rfl e e'.symm)]
      exact h0
  · have hfr : (appC (appC S oi ei qi) oj ej qj).fr = (appC (appC S oj ej qj) oi ei qi).fr := by
      have c := S.put_comm (x := oi.dst) (y := oj.dst) qi qj h2
      have f1 : ∀ (A B : St) (d : Option Tmp) (q : PV), A.fr = B.fr → (A.put d q).fr = (B.put d q).fr := fun A B d q h => by cases d <;> simp [St.put, h]
      rw [appC_fr, appC_fr, f1 _ _ oj.dst qj (appC_fr S oi ei qi), f1 _ _ oi.dst qi (appC_fr S oj ej qj), c]
    have hhp : (appC (appC S oi ei qi) oj ej qj).hp = (appC (appC S oj ej qj) oi ei qi).hp := by
      rw [appC_hp, appC_hp, appC_hp, appC_hp]
      cases ei with
      | none => rfl
      | some p =>
        obtain ⟨m, x⟩ := p
        cases ej with
        | none => rfl
        | some p' => obtain ⟨n, y⟩ := p'; exact List.set_comm _ _ (apart m x n y rfl rfl)
    revert hfr hhp
    generalize appC (appC S oi ei qi) oj ej qj = A
    generalize appC (appC S oj ej qj) oi ei qi = B
    intro h h'
    cases A; cases B; simp_all

theorem InvU.app {o : Oper} {S : St} {e : Option (Nat × HO)} {q : PV} (hI : InvU U S) (hy : YX P ops U o S e q) : InvU U (appC S o e q) := by
  intro i hiU hg
  have fr : ∀ (T : St), T.fr.map (killP i) = T.fr → killP i q = q → ((T.put o.dst q).fr).map (killP i) = (T.put o.dst q).fr := fun T h hq => by
    cases hd : o.dst with
    | none => simpa [St.put, hd] using h
    | some d => simp only [St.put]; rw [List.map_set, h, hq]
  rw [appC_hp] at hg
  refine ⟨?_, ?_⟩
  · rw [appC_fr]
    cases hy with
    | pure hg' h hq => exact fr S (hI i hiU hg).1 (okU_spec hq i hiU)
    | skip hg' => exact fr S (hI i hiU hg).1 rfl
    | eff hg' h h0 hx hn hq =>
      rename_i n x
      have hne : i ≠ n := fun e' => by
        subst e'
        have hlt : i < S.hp.length := (List.getElem?_eq_some_iff.1 h0).1
        have : (hpC S.hp (some (i, x)))[i]? = some x := List.getElem?_set_self hlt
        rw [this] at hg
        exact hx (by simpa using hg)
      rw [hpC_at (fun m y e' e2 => by cases e'; exact hne e2.symm)] at hg
      exact fr S (hI i hiU hg).1 (okN_spec hq i hiU hne).1
  · rw [appC_hp]
    cases hy with
    | pure hg' h hq => exact (hI i hiU hg).2
    | skip hg' => exact (hI i hiU hg).2
    | eff hg' h h0 hx hn hq =>
      rename_i n x
      have hne : i ≠ n := fun e' => by
        subst e'
        have hlt : i < S.hp.length := (List.getElem?_eq_some_iff.1 h0).1
        have : (hpC S.hp (some (i, x)))[i]? = some x := List.getElem?_set_self hlt
        rw [this] at hg
        exact hx (by simpa using hg)
      rw [hpC_at (fun m y e' e2 => by cases e'; exact hne e2.symm)] at hg
      show (S.hp.set n x).map _ = S.hp.set n x
      rw [List.map_set, (hI i hiU hg).2, (okN_spec hq i hiU hne).2]

def aStX (P : Program) (ops : Array Oper) (U : List Nat) (i : Nat) (K1 K2 : St → Prop) (S : St) : Prop :=
  match ops[i]? with
  | none => K1 S
  | some o => (∃ e q, YX P ops U o S e q ∧ K1 (appC S o e q)) ∨ (guardS ops S.fr o = some true ∧ barrier ops i = true ∧ ∃ S', EStep P o S S' ∧ K2 S')
def aAnyX (P : Program) (ops : Array Oper) (U : List Nat) (K : St → Prop) : Nat → Array Bool → St → Prop
  | 0, listed, S => Region.ready .any ops listed = [] ∧ K S
  | n + 1, listed, S => (Region.ready .any ops listed = [] → K S) ∧ ∀ i ∈ Region.ready .any ops listed, aStX P ops U i (aAnyX P ops U K n (listed.setIfInBounds i true)) (aAny P ops K n (listed.setIfInBounds i true)) S

theorem wpAny_of_aAnyX {Q : Exit → Act → World → Prop} {w0 : Ini} (hK : ∀ S g ρ a w, K S → Rel w0 S g ρ a w → Q .normal a w) :
    ∀ (n : Nat) (listed : Array Bool) (S : St) (g : Ghost) (ρ : Nat → Loc) (a : Act) (w : World), aAnyX P ops U K n listed S → InvU U S → Rel w0 S g ρ a w → wpAny P .any ops Q n listed a w
  | 0, _, S, g, ρ, a, w, h, _, hr => ⟨h.1, hK S g ρ a w h.2 hr⟩
  | n + 1, listed, S, g, ρ, a, w, h, hI, hr => by
    refine ⟨fun h0 => hK S g ρ a w (h.1 h0) hr, fun i hi => ?_⟩
    have h1 := h.2 i hi
    unfold aStX at h1
    unfold wpOp
    split
    · rename_i ho
      simp only [ho] at h1
      exact wpAny_of_aAnyX hK n _ S g ρ a w h1 hI hr
    · rename_i o ho
      simp only [ho] at h1
      rcases h1 with ⟨e, q, hy, h1⟩ | ⟨hg, _, S', hp, h1⟩
      · have hI' := hI.app hy
        cases hy with
        | pure hg hp hq =>
          rw [if_pos (guardS_spec hr hg)]
          left
          exact hp S.hp w0 g ρ w a hr.base (fun x _ => hr.ev x) Q _ fun v g' w' hx hb hv => wpAny_of_aAnyX hK n _ _ g' ρ _ w' h1 hI' (hr.put hb hx hv o.dst)
        | eff hg hl h0 hx hn hq =>
          rw [if_pos (guardS_spec hr hg)]
          left
          exact hl S.fr S.hp (fun _ _ => rfl) h0 (hI _ hn h0) w0 g ρ a w hr Q _ fun g' ρ' a' w' _ hr' => wpAny_of_aAnyX hK n _ _ g' ρ' a' w' h1 hI' hr'
        | skip hg =>
          rw [if_neg (by rw [guardS_spec hr hg]; simp)]
          exact wpAny_of_aAnyX hK n _ _ g ρ _ w h1 hI' (hr.put hr.base (GExt.refl g) (.of_VR (.val undef)) o.dst)
      · rw [if_pos (guardS_spec hr hg)]
        left
        exact hp w0 g ρ a w hr Q _ fun g' ρ' a' w' _ hr' => wpAny_of_aAny hK n _ S' g' ρ' a' w' h1 hr'

theorem aAnyX_first {i : Nat} {oi : Oper} {ei : Option (Nat × HO)} {qi : PV} (hi : ops[i]? = some oi) : ∀ (fuel : Nat) (listed : Array Bool) (S : St), Closed ops listed →
    (∀ j oj, ops[j]? = some oj → j ≠ i → listed.getD j true = false → (∀ e ∈ oj.after, Region.binds .any e = true → e.on ≠ i) → oi.apart ops oj = true) →
    i ∈ Region.ready .any ops listed → YX P ops U oi S ei qi → aAnyX P ops U K fuel (listed.setIfInBounds i true) (appC S oi ei qi) → aAnyX P ops U K (fuel + 1) listed S := by
  intro fuel
  induction fuel with
  | zero =>
    intro listed S _ _ hr hy H
    refine ⟨fun h => (by rw [h] at hr; cases hr), fun j hj => ?_⟩
    by_cases hji : j = i
    · subst hji; unfold aStX; simp only [hi]; exact .inl ⟨_, _, hy, H⟩
    · have := ready_mono hj hji
      rw [H.1] at this
      cases this
  | succ fuel ih =>
    intro listed S hc hfree hr hy H
    refine ⟨fun h => (by rw [h] at hr; cases hr), fun j hj => ?_⟩
    by_cases hji : j = i
    · subst hji; unfold aStX; simp only [hi]; exact .inl ⟨_, _, hy, H⟩
    · have h1 := H.2 j (ready_mono hj hji)
      obtain ⟨hjun, oj, hoj, hall⟩ := mem_ready.1 hj
      have hnot : ∀ e ∈ oj.after, Region.binds .any e = true → e.on ≠ i := fun e he hb heq => by
        have h1 := hall e he hb
        have h0 := (mem_ready.1 hr).1
        rw [heq] at h1
        rcases Nat.lt_or_ge i listed.size with h' | h'
        · simp [h'] at h0 h1; rw [h0] at h1; cases h1
        · simp [Array.getElem?_eq_none h'] at h1
      have hfree' : ∀ k ok, ops[k]? = some ok → k ≠ i → (listed.setIfInBounds j true).getD k true = false →
          (∀ e ∈ ok.after, Region.binds .any e = true → e.on ≠ i) → oi.apart ops ok = true := fun k ok hk hki hun hno => by
        refine hfree k ok hk hki ?_ hno
        by_cases hjk : j = k
        · subst hjk; exact hjun
        · rw [getD_set_ne true hjk] at hun; exact hun
      unfold aStX at h1 ⊢
      simp only [hoj] at h1 ⊢
      rcases h1 with ⟨ej, qj, hyj, hk⟩ | ⟨hg, hb, -⟩
      · obtain ⟨c1, c2, c3⟩ := hy.comm (hfree j oj hoj hji hjun hnot) hyj
        refine .inl ⟨ej, qj, c1, ih (listed.setIfInBounds j true) _ (hc.set hj) hfree' (ready_mono hr (Ne.symm hji)) c2 ?_⟩
        rw [Array.setIfInBounds_comm _ _ hji, ← c3]
        exact hk
      · exact (hji (barrier_alone hc hb hj hr).symm).elim

def OpsX (P : Program) (ops : Array Oper) (U : List Nat) (K : St → Prop) : List Oper → Nat → St → Prop
  | [], _, S => K S
  | o :: r, k, S => (∃ e q, YX P ops U o S e q ∧ OpsX P ops U K r (k + 1) (appC S o e q)) ∨ (guardS ops S.fr o = some true ∧ barrier ops k = true ∧ ∃ S', EStep P o S S' ∧ Ops P true ops K r (k + 1) S')

theorem aAnyX_lex : ∀ (l : List Oper) (k : Nat) (listed : Array Bool) (S : St), (∀ j, l[j]? = ops[k + j]?) → Closed ops listed →
    Region.lexFrom .any ops l.length k listed = true → OpsX P ops U K l k S → aAnyX P ops U K l.length listed S
  | [], _, _, _, _, _, hB, h => ⟨by simpa [Region.lexFrom] using hB, h⟩
  | o :: l, k, listed, S, hl, hc, hB, h => by
    have h0 : ops[k]? = some o := by simpa using (hl 0).symm
    simp only [List.length_cons, Region.lexFrom, Bool.and_eq_true] at hB
    obtain ⟨⟨hr, hf⟩, hB'⟩ := hB
    have hr' : k ∈ Region.ready .any ops listed := by simpa using hr
    have hl' : ∀ j, l[j]? = ops[k + 1 + j]? := fun j => by have := hl (j + 1); simpa [Nat.add_assoc, Nat.add_comm 1 j] using this
    rcases h with ⟨e, q, hy, h⟩ | ⟨hg, hb, S', hp, h⟩
    · exact aAnyX_first h0 l.length listed S hc (Region.free_spec h0 hf) hr' hy (aAnyX_lex l (k + 1) _ _ hl' (hc.set hr') hB' h)
    · refine ⟨fun e => (by rw [e] at hr'; cases hr'), fun i hi => ?_⟩
      obtain rfl := barrier_alone hc hb hr' hi
      unfold aStX
      simp only [h0]
      exact .inr ⟨hg, hb, S', hp, aAny_lex l (i + 1) _ _ hl' (hc.set hr') hB' h⟩

theorem hpLe_gones (h gs : List HO) (hgs : ∀ x ∈ gs, x = .gone) : hpLe h (h ++ gs) := fun id ho hid => by
  rcases Nat.lt_or_ge id h.length with hlt | hge
  · rw [List.getElem?_append_left hlt] at hid; exact .inr hid
  · rw [List.getElem?_append_right hge] at hid
    exact .inl (hgs _ (List.mem_of_getElem? hid))
def gones : List HO → Prop
  | [] => True
  | x :: l => x = .gone ∧ gones l
theorem gones_spec : ∀ {l : List HO}, gones l → ∀ x ∈ l, x = .gone
  | [], _, x, hx => by simp at hx
  | y :: l, h, x, hx => by
    rcases List.mem_cons.1 hx with rfl | hx
    · exact h.1
    · exact gones_spec h.2 x hx
/-- A region in any order, with new objects whose numbers are told beforehand. -/
theorem g_region_drawX {id : Nat} {l : List Oper} {K : Exit → St → Prop} {S : St} (gs : List HO) (U : List Nat) (hm : P.follows .mixedOrders = true) (hB : Region.lexFrom .any l.toArray l.length 0 (Array.replicate l.length false) = true)
    (hgs : gones gs) (h : ∃ S', St.mk S.fr (S.hp ++ gs) = S' ∧ invL U S' ∧ OpsX P l.toArray U (K .normal) l 0 S') : Goal P (.region id l.toArray true) K S := by
  obtain ⟨S', hS, hI, h⟩ := h
  subst hS
  refine g_weaken (S' := ⟨S.fr, S.hp ++ gs⟩) ⟨frLe_refl _, hpLe_gones _ _ (gones_spec hgs)⟩ fun w0 g ρ a w Q hr hQ => ?_
  refine wp_region_any hm (wpAny_of_aAnyX (K := K .normal) (U := U) (fun S' g' ρ' a' w' hk hr' => hQ .normal S' g' ρ' a' w' hk hr') _ _ _ g ρ a _ ?_ (invL_spec hI) hr.drew)
  have := aAnyX_lex (P := P) (U := U) (K := K .normal) l 0 (Array.replicate l.length false) _ (by simp) (fun j o _ hj => by
    rw [Array.getD_eq_getD_getElem?, Array.getElem?_replicate] at hj
    split at hj <;> simp at hj) hB h
  simpa using this
end

/-! ### The steps -/
section
variable {P : Program} {ops : Array Oper} {U : List Nat} {K : St → Prop} {o : Oper} {r : List Oper} {k : Nat} {S : St}
theorem x_nil (hk : K S) : OpsX P ops U K [] k S := hk
theorem x_pure {q : PV} (hg : guardS ops S.fr o = some true) (h : ∀ hp, PStep P o S.ev hp q) (hq : okU U q) (hk : ∃ S', appC S o none q = S' ∧ OpsX P ops U K r (k + 1) S') : OpsX P ops U K (o :: r) k S :=
  hk.elim fun _ h' => .inl ⟨none, q, .pure hg h hq, h'.1 ▸ h'.2⟩
theorem x_eff {n : Nat} {x : HO} {q : PV} (hg : guardS ops S.fr o = some true) (h : LStep P o S.ev n x q) (h0 : S.hp[n]? = some .gone) (hx : x ≠ .gone) (hn : n ∈ U) (hq : okN n q x U) (hk : ∃ S', appC S o (some (n, x)) q = S' ∧ OpsX P ops U K r (k + 1) S') : OpsX P ops U K (o :: r) k S :=
  hk.elim fun _ h' => .inl ⟨some (n, x), q, .eff hg h h0 hx hn hq, h'.1 ▸ h'.2⟩
theorem x_skip (hg : guardS ops S.fr o = some false) (hk : ∃ S', appC S o none (.val undef) = S' ∧ OpsX P ops U K r (k + 1) S') : OpsX P ops U K (o :: r) k S :=
  hk.elim fun _ h' => .inl ⟨none, _, .skip hg, h'.1 ▸ h'.2⟩
theorem x_bar {S1 : St} (hg : guardS ops S.fr o = some true) (hb : barrier ops k = true) (h : EStep P o S S1) (hk : ∃ S', S1 = S' ∧ Ops P true ops K r (k + 1) S') : OpsX P ops U K (o :: r) k S :=
  hk.elim fun S' h' => .inr ⟨hg, hb, S', h'.1 ▸ h, h'.2⟩
theorem e_of_p {q : PV} (h : PStep P o S.ev S.hp q) : EStep P o S (S.put o.dst q) := fun w0 g ρ a w hr Q K hK =>
  h w0 g ρ w a hr.base (fun x _ => hr.ev x) Q _ fun v g' w' hx hb hv => hK g' ρ _ w' hx (hr.put hb hx hv o.dst)

/-- A new object under a number that is free. -/
theorem LStep.of_new {n : Nat} {x : HO} {q : PV} {ev : Operand → PV} (h : ∀ (w0 : Ini) (S : St) (g : Ghost) (ρ : Nat → Loc) (a : Act) (w : World), Rel w0 S g ρ a w → (∀ y ∈ o.op.operands, S.ev y = ev y) → ∀ (Q : Exit → Act → World → Prop) (K : Act → World → Prop),
    (∀ v w' L, RowKit.Below w.heap.size w w' → (∀ ρ' hp', HOwn g ρ' hp' w' w0.own x L) → (∀ b, foot x L b → w.heap.size ≤ b) → (∀ hp', hp'[n]? = some x → VRS g (upd ρ n L) hp' v q) → K (a.put o.dst v) w') → o.wp P a w K Q) : LStep P o ev n x q := by
  intro fr hp hy h0 hN w0 g ρ a w hr Q K hK
  refine h w0 ⟨fr, hp⟩ g ρ a w hr hy Q K fun v w' L hbl hown hfoot hv => ?_
  have hlt : n < hp.length := (List.getElem?_eq_some_iff.1 h0).1
  have hh : ∀ i, i ≠ n → ((hp.map (mapHO (killP1 n))).set n x)[i]? = (hp[i]?).map (mapHO (killP1 n)) := fun i hi => by
    rw [List.getElem?_set_ne (Ne.symm hi), List.getElem?_map]
  have hbase := hr.base.upd h0 (x' := x) L (GExt.refl g) (killP1 n) (fun v p h => VRS1.kill n L (GExt.refl g) hh h) (hr.base.agree.below hbl) (hr.base.below.step hbl) (fun _ _ _ => rfl) (hown _ _)
    (fun b hb => .inr (.inl (hfoot b hb))) (fun b hb _ => ⟨hbl.block b hb, fun _ => rfl⟩)
  have hat : ((hp.map (mapHO (killP1 n))).set n x)[n]? = some x := List.getElem?_set_self (by simpa using hlt)
  have hrel := hr.setObj n L hbase (GExt.refl g) hh (hv _ hat) o.dst
  have e : St.setObj ⟨fr, hp⟩ n ((hp.map (mapHO (killP1 n))).set n x) o.dst q = St.put ⟨fr, hp.set n x⟩ o.dst q := by
    unfold St.setObj
    rw [show (St.mk fr hp).fr.map (killP n) = fr from hN.1, show hp.map (mapHO (killP1 n)) = hp from hN.2]
  rw [e] at hrel
  exact hK g (upd ρ n L) _ w' (GExt.refl g) hrel

theorem l_alloc {t : TypeId} {zs : List Value} [hz : ZeroT P t zs] {ev : Operand → PV} (n : Nat) (ho : o.op = .alloc t) : LStep P o ev n (.box (zs.map .val)) (.hat n 0) :=
  .of_new fun w0 S g ρ a w hr hy Q K hK => by
    obtain ⟨z, hz1, hz2⟩ := hz.hz
    unfold Oper.wp
    have hrun : (execOp a.eval o).run P w = .ok (.value (.pointer (some ⟨w.heap.size, 0, none⟩))) (w.alloc (.cells z.cells t)) := by
      simp only [execOp, ho]
      refine run_value ?_
      unfold Instr.alloc
      simp only [Sem.run_bind, hz1, Result.andThen]
      simp [newVar, newRow, go_sem]
    rw [hrun]
    have hgn : ∀ k, g w.heap.size k = none := fun k => by
      cases hk : g w.heap.size k with
      | none => rfl
      | some v => exact absurd (hr.base.agree.lt hk) (Nat.lt_irrefl _)
    refine hK _ _ ⟨w.heap.size, 0, fun _ => 0, fun _ => 0⟩ ((RowKit.Below.refl _ _).alloc (Nat.le_refl _) _) (fun ρ' hp' => ⟨z.cells, t, ⟨Ini.own_new hr.base.below.size, heap_alloc_new w _, by rw [← hz2]; simp, fun k q hq => by
      simp only [List.getElem?_map, Option.map_eq_some_iff] at hq
      obtain ⟨u, hu, rfl⟩ := hq
      have : z.cells.getD k undef = u := by
        rw [← hz2, Array.getElem?_toList] at hu
        simp [Array.getD_eq_getD_getElem?, hu]
      rw [this]; exact VRS1.of_VR (.val u), hgn⟩⟩) (fun b hb => by simp only [foot] at hb; omega) (fun hp' _ => by show _ = _; rw [upd_same])

theorem l_callR {ev : Operand → PV} (n : Nat) {x : Operand} {xs : Array Operand} {tys : Array TypeId} {f : FuncId} [hf : FnT P f] {first caps args : List PV} {ho : HO} {q : PV} (ho' : o.op = .call { callee := .value x, args := xs, argTypes := tys }) (h1 : ev x = .fn f first caps)
    (h2 : ∀ hp, argsLe (first ++ elemsM hp ev xs.toList ++ caps) args) (hown : ownable ho = true) (hc : RCalls P f args ho q) : LStep P o ev n ho (renP n q) :=
  .of_new fun w0 S g ρ a w hr hy Q K hK => by
    have hb := hr.base
    have e1 := hr.ev x
    rw [hy x (by simp [ho', Op.operands, Call.operands]), h1] at e1
    obtain ⟨fs, cs, ea, l1, l2, v1, v2⟩ := VR.fn_inv e1
    unfold Oper.wp
    rw [run_call ho' ea]
    have hx' := snap_ext hb.agree w0.own
    have hel : elemsM S.hp S.ev xs.toList = elemsM S.hp ev xs.toList := List.map_congr_left fun y hm => by
      rw [hy y (by simp only [ho', Op.operands, Call.operands]; exact Array.mem_append.2 (.inr (by simpa using hm)))]
    have hargs : VRl (snap g w w0.own) (fs ++ xs.map a.eval ++ cs).toList args := by
      refine VRl.le (h2 S.hp) ?_
      rw [← hel, Array.toList_append, Array.toList_append]
      refine ((VRl.of_array l1 fun i q hq => (v1 i q hq).mono hx').append ?_).append (VRl.of_array l2 fun i q hq => (v2 i q hq).mono hx')
      refine ⟨by simp [elemsM], fun i q hq => ?_⟩
      simp only [elemsM, List.getElem?_map, Option.map_eq_some_iff, Array.getElem?_toList] at hq
      obtain ⟨y, hy, rfl⟩ := hq
      have : (xs.map a.eval).toList.getD i undef = a.eval y := by simp [List.getD_eq_getElem?_getD, hy]
      rw [this]
      exact hb.viewM (hr.ev y)
    have := hc _ w _ (snap_agree hb.agree w0.own) hargs
    rw [Array.toArray_toList] at this
    refine this.mono fun e w' h => ?_
    obtain ⟨v, L, rfl, hbl, hho, hv⟩ := h
    have hgn : ∀ b, decide (w.heap.size ≤ b) = true → w0.own b = true ∧ ∀ o, g b o = none := fun b hb' => by
      have hb' : w.heap.size ≤ b := by simpa using hb'
      refine ⟨Ini.own_new (Nat.le_trans hb.below.size hb'), fun o => ?_⟩
      cases hk : g b o with
      | none => rfl
      | some v => exact absurd (hb.agree.lt hk) (by omega)
    refine hK v w' L hbl (fun ρ' hp' => hho.in hown hgn) (fun b hb' => by have := (hho.foot_lt hb').1; simpa using this) (fun hp' hg => ?_)
    rw [renP_map]
    refine hv.map fun u p hu => ?_
    cases p with
    | hp j =>
      rcases j with _ | j
      · have hu' : HpV (fun _ => L) [ho] u 0 := hu
        have h' : HpV (upd ρ n L) hp' u n := { sl := hu'.sl, arr := fun m s e l hh => (by rw [hg] at hh; rw [upd_same]; exact hu'.arr m s e l hh), grid := fun f1 f2 rows hh => (by rw [hg] at hh; rw [upd_same]; exact hu'.grid f1 f2 rows hh), pg := fun f1 f2 n rows hh => (by rw [hg] at hh; rw [upd_same]; exact hu'.pg f1 f2 n rows hh) }
        exact h'
      · exact .any u
    | hat _ _ => exact .any u
    | gr _ _ => exact .any u
    | gat _ _ _ => exact .any u
    | hpv _ _ _ => exact .any u
    | hatv _ _ _ _ => exact .any u
    | _ => exact VR.mono (g0_ext g) hu

theorem LStep.freeze {ev : Operand → PV} {n s : Nat} {e : TypeId} {l : List PV} {q : PV} (h : LStep P o ev n (.arr true s e l) q) : LStep P o ev n (.arr false s e l) q := fun fr hp hy h0 hN => by
  have hlt : n < hp.length := (List.getElem?_eq_some_iff.1 h0).1
  refine (h fr hp hy h0 hN).then fun w0 g ρ a w hr => ?_
  have hg : (St.put ⟨fr, hp.set n (.arr true s e l)⟩ o.dst q).hp[n]? = some (.arr true s e l) := by
    cases o.dst <;> exact List.getElem?_set_self hlt
  obtain ⟨g', hx, hr'⟩ := rel_freeze hr hg
  refine ⟨g', hx, ?_⟩
  have : (⟨(St.put ⟨fr, hp.set n (.arr true s e l)⟩ o.dst q).fr, (St.put ⟨fr, hp.set n (.arr true s e l)⟩ o.dst q).hp.set n (.arr false s e l)⟩ : St) = St.put ⟨fr, hp.set n (.arr false s e l)⟩ o.dst q := by
    cases o.dst <;> simp [St.put, List.set_set]
  rw [this] at hr'
  exact hr'
theorem l_callRF {ev : Operand → PV} (n : Nat) {x : Operand} {xs : Array Operand} {tys : Array TypeId} {f : FuncId} [hf : FnT P f] {first caps args : List PV} {s : Nat} {e : TypeId} {l : List PV} {q : PV} (ho' : o.op = .call { callee := .value x, args := xs, argTypes := tys }) (h1 : ev x = .fn f first caps)
    (h2 : ∀ hp, argsLe (first ++ elemsM hp ev xs.toList ++ caps) args) (hc : RCalls P f args (.arr true s e l) q) : LStep P o ev n (.arr false s e l) (renP n q) := (l_callR n ho' h1 h2 rfl hc).freeze
end
end Go.Pv
