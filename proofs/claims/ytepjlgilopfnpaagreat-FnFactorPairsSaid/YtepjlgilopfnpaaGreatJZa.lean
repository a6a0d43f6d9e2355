/- The layer, more: drawn regions whose effects leave what is read as it was; pairs in arrays; rows of a grid that are settled. -/
import Derived.Test.YtepjlgilopfnpaaGreatJSq
set_option linter.unusedSectionVars false
namespace Go.Pv
open Go
attribute [local semireducible] Go.Pv.Goal Go.Pv.Ops Go.Pv.PStep Go.Pv.EStep Go.Pv.KRets Go.Pv.PCalls Go.Pv.OpsG

inductive ZM (P : Program) (ops : Array Oper) (U : List Nat) (H : List HO → Prop) (o : Oper) (S : St) : PV → Prop
 | pure {q : PV} (hg : guardS ops S.fr o = some true) (h : ∀ hp, H hp → PStep P o S.ev hp q) (hq : okU U q) (ho : ∀ y ∈ o.op.operands, okU U (S.ev y)) : ZM P ops U H o S q
 | skip (hg : guardS ops S.fr o = some false) : ZM P ops U H o S (.val undef)
theorem ZM.ok {P : Program} {ops : Array Oper} {U : List Nat} {H : List HO → Prop} {o : Oper} {S : St} {q : PV} (h : ZM P ops U H o S q) : ∀ i ∈ U, killP i q = q := by
 cases h with
 | pure hg h hq ho => exact okU_spec hq
 | skip hg => exact fun i _ => rfl

section
variable {P : Program} {ops : Array Oper} {U : List Nat} {V : List (Nat × Nat)} {K : St → Prop} {H : List HO → Prop}
theorem ZM.comm {oi oj : Oper} {S : St} {qi qj : PV} {U' : List Nat} (hap : oi.apart ops oj = true) (hi : ZM P ops U H oi S qi) (hj : ZM P ops U' H oj (S.put oi.dst qi) qj) :
 ZM P ops U' H oj S qj ∧ ZM P ops U H oi (S.put oj.dst qj) qi ∧ (S.put oi.dst qi).put oj.dst qj = (S.put oj.dst qj).put oi.dst qi := by
 obtain ⟨h1, h2, h3⟩ := Oper.apart_spec hap
 have evj : ∀ y ∈ oj.op.operands, (S.put oi.dst qi).ev y = S.ev y := fun y hy => S.ev_put _ _ y fun t ht e => h1 t ht (mem_looksAt_op (e ▸ hy))
 have evi : ∀ y ∈ oi.op.operands, (S.put oj.dst qj).ev y = S.ev y := fun y hy => S.ev_put _ _ y fun t ht e => h3 t ht (mem_looksAt_op (e ▸ hy))
 refine ⟨?_, ?_, S.put_comm qi qj h2⟩
 · cases hj with
   | pure hg h hq ho => exact .pure (guardS_put h1 ▸ hg) (fun hp hH => (h hp hH).congr evj) hq (fun y hy => evj y hy ▸ ho y hy)
   | skip hg => exact .skip (guardS_put h1 ▸ hg)
 · cases hi with
   | pure hg h hq ho => exact .pure ((guardS_put h3).symm ▸ hg) (fun hp hH => (h hp hH).congr fun y hy => (evi y hy).symm) hq (fun y hy => (evi y hy).symm ▸ ho y hy)
   | skip hg => exact .skip ((guardS_put h3).symm ▸ hg)

theorem ZM.commJ {oi oj : Oper} {S : St} {qi r : PV} {n : Option Nat} {hp' : List HO} (hap : oi.apart ops oj = true) (hn : inU U n) (hi : ZM P ops U H oi S qi) (hg : guardS ops (S.put oi.dst qi).fr oj = some true) (hj : JStep P oj (S.put oi.dst qi).ev (S.put oi.dst qi).hp n hp' r) :
 guardS ops S.fr oj = some true ∧ JStep P oj S.ev S.hp n hp' r ∧ ZM P ops U H oi (appJ S oj n hp' r) qi ∧ appJ (S.put oi.dst qi) oj n hp' r = (appJ S oj n hp' r).put oi.dst qi := by
 obtain ⟨h1, h2, h3⟩ := Oper.apart_spec hap
 have evj : ∀ y ∈ oj.op.operands, (S.put oi.dst qi).ev y = S.ev y := fun y hy => S.ev_put _ _ y fun t ht e => h1 t ht (mem_looksAt_op (e ▸ hy))
 refine ⟨guardS_put h1 ▸ hg, ?_, ?_, ?_⟩
 · rw [put_hp] at hj
   exact fun fr hfr => hj fr fun y hy => (hfr y hy).trans (evj y hy).symm
 · have hgi : guardS ops (appJ S oj n hp' r).fr oi = guardS ops S.fr oi := by
    unfold appJ
    rw [guardS_put (S := ⟨killO n S.fr, hp'⟩) h3]
    exact guard_killO n
   cases hi with
   | pure hg' h hq ho =>
    have evi : ∀ y ∈ oi.op.operands, (appJ S oj n hp' r).ev y = S.ev y := fun y hy => by
     unfold appJ
     rw [St.ev_put ⟨killO n S.fr, hp'⟩ _ _ y fun t ht e => h3 t ht (mem_looksAt_op (e ▸ hy))]
     exact ev_killO (fr := S.fr) (hp := S.hp) hn (ho y hy)
    exact .pure (hgi.symm ▸ hg') (fun hp hH => (h hp hH).congr fun y hy => (evi y hy).symm) hq (fun y hy => (evi y hy).symm ▸ ho y hy)
   | skip hg' => exact .skip (hgi.symm ▸ hg')
 · unfold appJ
   rw [show (St.mk (killO n (S.put oi.dst qi).fr) hp') = St.put ⟨killO n S.fr, hp'⟩ oi.dst qi from put_killO (fr := S.fr) (hp := S.hp) hn hi.ok]
   exact St.put_comm _ qi r h2

def FIN : Nat := 999999
def aStZ (P : Program) (ops : Array Oper) (V : List (Nat × Nat)) (H : List HO → Prop) (i : Nat) (K : St → Prop) (S : St) : Prop :=
 match ops[i]? with
 | none => K S
 | some o => (∃ q U, ZM P ops U H o S q ∧ H S.hp ∧ K (S.put o.dst q)) ∨ (guardS ops S.fr o = some true ∧ ∃ n hp' r, inVo V i n ∧ (H hp' ∨ (i, FIN) ∈ V) ∧ JStep P o S.ev S.hp n hp' r ∧ K (appJ S o n hp' r))
def aAnyZ (P : Program) (ops : Array Oper) (V : List (Nat × Nat)) (H : List HO → Prop) (K : St → Prop) : Nat → Array Bool → St → Prop
 | 0, listed, S => Region.ready .any ops listed = [] ∧ K S
 | n + 1, listed, S => (Region.ready .any ops listed = [] → K S) ∧ ∀ i ∈ Region.ready .any ops listed, aStZ P ops V H i (aAnyZ P ops V H K n (listed.setIfInBounds i true)) S

theorem wpAny_of_aAnyZ {Q : Exit → Act → World → Prop} {w0 : Ini} (hK : ∀ S g ρ a w, K S → Rel w0 S g ρ a w → Q .normal a w) :
 ∀ (n : Nat) (listed : Array Bool) (S : St) (g : Ghost) (ρ : Nat → Loc) (a : Act) (w : World), aAnyZ P ops V H K n listed S → Rel w0 S g ρ a w → wpAny P .any ops Q n listed a w
 | 0, _, S, g, ρ, a, w, h, hr => ⟨h.1, hK S g ρ a w h.2 hr⟩
 | n + 1, listed, S, g, ρ, a, w, h, hr => by
  refine ⟨fun h0 => hK S g ρ a w (h.1 h0) hr, fun i hi => ?_⟩
  have h1 := h.2 i hi
  unfold aStZ at h1
  unfold wpOp
  split
  · rename_i ho
    simp only [ho] at h1
    exact wpAny_of_aAnyZ hK n _ S g ρ a w h1 hr
  · rename_i o ho
    simp only [ho] at h1
    rcases h1 with ⟨q, _, hy, hH, h1⟩ | ⟨hg, m, hp', r, _, _, hj, h1⟩
    · cases hy with
      | pure hg hp hq hop =>
       rw [if_pos (guardS_spec hr hg)]
       left
       exact hp S.hp hH w0 g ρ w a hr.base (fun x _ => hr.ev x) Q _ fun v g' w' hx hb hv => wpAny_of_aAnyZ hK n _ _ g' ρ _ w' h1 (hr.put hb hx hv o.dst)
      | skip hg =>
       rw [if_neg (by rw [guardS_spec hr hg]; simp)]
       exact wpAny_of_aAnyZ hK n _ _ g ρ _ w h1 (hr.put hr.base (GExt.refl g) (.of_VR (.val undef)) o.dst)
    · rw [if_pos (guardS_spec hr hg)]
      left
      exact hj S.fr (fun _ _ => rfl) w0 g ρ a w hr Q _ fun g' ρ' a' w' _ hr' => wpAny_of_aAnyZ hK n _ _ g' ρ' a' w' h1 hr'

theorem aAnyZ_first {i : Nat} {oi : Oper} {qi : PV} (hi : ops[i]? = some oi) (hU : FIN ∉ U) : ∀ (fuel : Nat) (listed : Array Bool) (S : St),
 (∀ j oj, ops[j]? = some oj → j ≠ i → listed.getD j true = false → (∀ e ∈ oj.after, Region.binds .any e = true → e.on ≠ i) → oi.apart ops oj = true ∧ ∀ n, (j, n) ∈ V → n ∈ U) →
 i ∈ Region.ready .any ops listed → ZM P ops U H oi S qi → H S.hp → aAnyZ P ops V H K fuel (listed.setIfInBounds i true) (S.put oi.dst qi) → aAnyZ P ops V H K (fuel + 1) listed S := by
 intro fuel
 induction fuel with
 | zero =>
  intro listed S _ hr hy hH H
  refine ⟨fun h => (by rw [h] at hr; cases hr), fun j hj => ?_⟩
  by_cases hji : j = i
  · subst hji; unfold aStZ; simp only [hi]; exact .inl ⟨_, _, hy, hH, H⟩
  · have := ready_mono hj hji
    rw [H.1] at this
    cases this
 | succ fuel ih =>
  intro listed S hfree hr hy hH H
  refine ⟨fun h => (by rw [h] at hr; cases hr), fun j hj => ?_⟩
  by_cases hji : j = i
  · subst hji; unfold aStZ; simp only [hi]; exact .inl ⟨_, _, hy, hH, H⟩
  · have h1 := H.2 j (ready_mono hj hji)
    obtain ⟨hjun, oj, hoj, hall⟩ := mem_ready.1 hj
    have hnot : ∀ e ∈ oj.after, Region.binds .any e = true → e.on ≠ i := fun e he hb heq => by
     have h1 := hall e he hb
     have h0 := (mem_ready.1 hr).1
     rw [heq] at h1
     rcases Nat.lt_or_ge i listed.size with h' | h'
     · simp [h'] at h0 h1; rw [h0] at h1; cases h1
     · simp [Array.getElem?_eq_none h'] at h1
    have hfree' : ∀ k ok, ops[k]? = some ok → k ≠ i → (listed.setIfInBounds j true).getD k true = false →
     (∀ e ∈ ok.after, Region.binds .any e = true → e.on ≠ i) → oi.apart ops ok = true ∧ ∀ n, (k, n) ∈ V → n ∈ U := fun k ok hk hki hun hno => by
     refine hfree k ok hk hki ?_ hno
     by_cases hjk : j = k
     · subst hjk; exact hjun
     · rw [getD_set_ne true hjk] at hun; exact hun
    obtain ⟨hap, hVU⟩ := hfree j oj hoj hji hjun hnot
    unfold aStZ at h1 ⊢
    simp only [hoj] at h1 ⊢
    rcases h1 with ⟨qj, Uj, hyj, -, hk⟩ | ⟨hg, m, hp', r, hn, hH', hjs, hk⟩
    · obtain ⟨c1, c2, c3⟩ := hy.comm hap hyj
      refine .inl ⟨qj, Uj, c1, hH, ih (listed.setIfInBounds j true) _ hfree' (ready_mono hr (Ne.symm hji)) c2 (by rw [put_hp]; exact hH) ?_⟩
      rw [Array.setIfInBounds_comm _ _ hji, ← c3]
      exact hk
    · obtain ⟨c0, c1, c2, c3⟩ := hy.commJ hap (inVo_U hn hVU) hg hjs
      refine .inr ⟨c0, m, hp', r, hn, hH', c1, ih (listed.setIfInBounds j true) _ hfree' (ready_mono hr (Ne.symm hji)) c2 (by unfold appJ; rw [put_hp]; exact hH'.elim _root_.id (fun h => absurd (hVU FIN h) hU)) ?_⟩
      rw [Array.setIfInBounds_comm _ _ hji, ← c3]
      exact hk

def OpsZ (P : Program) (ops : Array Oper) (V : List (Nat × Nat)) (H : List HO → Prop) (K : St → Prop) : List (Nat × Option (List Nat)) → St → Prop
 | [], S => K S
 | (i, some U) :: r, S => ∃ o q, ops[i]? = some o ∧ FIN ∉ U ∧ H S.hp ∧ ZM P ops U H o S q ∧ OpsZ P ops V H K r (S.put o.dst q)
 | (i, none) :: r, S => ∃ o, ops[i]? = some o ∧ guardS ops S.fr o = some true ∧ ∃ n hp' q, inVo V i n ∧ (H hp' ∨ (i, FIN) ∈ V) ∧ JStep P o S.ev S.hp n hp' q ∧ OpsZ P ops V H K r (appJ S o n hp' q)

theorem aAnyZ_ord : ∀ (l : List (Nat × Option (List Nat))) (listed : Array Bool) (S : St), ordB ops V l listed = true → OpsZ P ops V H K l S → aAnyZ P ops V H K l.length listed S
 | [], _, _, hB, h => ⟨by simpa [ordB] using hB, h⟩
 | (i, some U) :: l, listed, S, hB, h => by
  simp only [ordB, Bool.and_eq_true] at hB
  obtain ⟨⟨⟨hr, hf⟩, hs⟩, hB'⟩ := hB
  obtain ⟨o, q, h0, hU, hH, hy, h⟩ := h
  exact aAnyZ_first h0 hU l.length listed S (fun j oj h1 h2 h3 h4 => ⟨Region.free_spec h0 hf j oj h1 h2 h3 h4, standB_spec hs j oj h1 h2 h3 h4⟩) (by simpa using hr) hy hH (aAnyZ_ord l _ _ hB' h)
 | (i, none) :: l, listed, S, hB, h => by
  simp only [ordB, Bool.and_eq_true] at hB
  obtain ⟨hr, hB'⟩ := hB
  have hr' : Region.ready .any ops listed = [i] := by simpa using hr
  obtain ⟨o, h0, hg, n, hp', q, hn, hH', hj, h⟩ := h
  refine ⟨fun e => (by rw [hr'] at e; cases e), fun j hjr => ?_⟩
  rw [hr', List.mem_singleton] at hjr
  subst hjr
  unfold aStZ
  simp only [h0]
  exact .inr ⟨hg, n, hp', q, hn, hH', hj, aAnyZ_ord l _ _ hB' h⟩

theorem g_region_drawZ {id : Nat} {l : List Oper} {K : Exit → St → Prop} {S : St} (ord : List (Nat × Option (List Nat))) (V : List (Nat × Nat)) (H : List HO → Prop) (hm : P.follows .mixedOrders = true) (hl : ord.length = l.length) (hB : ordB l.toArray V ord (Array.replicate l.length false) = true)
 (h : OpsZ P l.toArray V H (K .normal) ord S) : Goal P (.region id l.toArray true) K S := fun w0 g ρ a w Q hr hQ => by
 refine wp_region_any hm (wpAny_of_aAnyZ (K := K .normal) (V := V) (H := H) (fun S' g' ρ' a' w' hk hr' => hQ .normal S' g' ρ' a' w' hk hr') _ _ S g ρ a _ ?_ hr.drew)
 have := aAnyZ_ord (P := P) (V := V) (H := H) (K := K .normal) ord (Array.replicate l.length false) S hB h
 rw [hl] at this
 simpa using this
end

section
variable {P : Program} {ops : Array Oper} {U : List Nat} {V : List (Nat × Nat)} {K : St → Prop} {H : List HO → Prop} {o : Oper} {i : Nat} {r : List (Nat × Option (List Nat))} {S : St}
theorem z_nil (hk : K S) : OpsZ P ops V H K [] S := hk
theorem zV {l : List Oper} {q : PV} (h0 : l[i]? = some o) (hg : guardS l.toArray S.fr o = some true) (h : ∀ hp, H hp → PStep P o S.ev hp q) (hq : okU U q) (ho : ∀ y ∈ o.op.operands, okU U (S.ev y)) (hU : FIN ∉ U) (hH : H S.hp) (hk : ∃ S', S.put o.dst q = S' ∧ OpsZ P l.toArray V H K r S') : OpsZ P l.toArray V H K ((i, some U) :: r) S :=
 hk.elim fun _ h' => ⟨o, q, by simpa using h0, hU, hH, .pure hg h hq ho, h'.1 ▸ h'.2⟩
theorem z_eff {l : List Oper} {n : Option Nat} {hp' : List HO} {q : PV} (h0 : l[i]? = some o) (hg : guardS l.toArray S.fr o = some true) (hn : inVo V i n) (h : JStep P o S.ev S.hp n hp' q) (hH : H hp' ∨ (i, FIN) ∈ V) (hk : ∃ S', appJ S o n hp' q = S' ∧ OpsZ P l.toArray V H K r S') : OpsZ P l.toArray V H K ((i, none) :: r) S :=
 hk.elim fun _ h' => ⟨o, by simpa using h0, hg, n, hp', q, hn, hH, h, h'.1 ▸ h'.2⟩
end
end Go.Pv

namespace Go.Pv
open Go
attribute [local semireducible] Go.Pv.Goal Go.Pv.Ops Go.Pv.PStep Go.Pv.EStep Go.Pv.KRets Go.Pv.PCalls Go.Pv.OpsG
section
variable {P : Program} {o : Oper} {S : St}
theorem append_ends {t e : TypeId} {s by_ : Nat} {zs : List Value} [ht : MkT P t e s by_ zs] {x y : Operand} {tys : Array TypeId} {mt : Bool} {e' : TypeId} {l l2 : List PV} {nn : Option Bool} {w0 : Ini} {g : Ghost} {w : World} {L : Loc} {cur : Array Value} {c : Nat → List PV} {av : Operand → Value} (ho : o.op = .call { callee := .builtin .append, args := #[x, y], argTypes := tys })
 (htys : tys = #[t, t]) (he : e' = e) (hown : ArrOwn g w w0.own mt s e' l L cur c) (hag : Agree g w) (hbel : BelowL w0 w) (ex : av x = .slice (some ⟨L.blk, 0, none⟩) l.length L.cap) (ey : VR g (av y) (.sl s nn l2)) (hone : ∀ p ∈ l2, ∀ c, p.flat = some c → (c.all PV.one) = true) (hzs : zs.length = s)
 (hb : (l.length + l2.length) * by_ ≤ 140737488355328) (hm : l.length + l2.length ≤ 9223372036854775807) : ∃ (c2 : Nat → List PV) (cs : Nat → Value), (∀ (i : Nat) (p : PV), l2[i]? = some p → p.flat = some (c2 i) ∧ (c2 i).length = s) ∧ (∀ (i j : Nat) (q : PV), i < l2.length → (c2 i)[j]? = some q → VR g (cs (i * s + j)) q) ∧ ∃ (blk cap : Nat) (cur' : Array Value) (w' : World) (g' : Ghost), (execOp av o).run P w = .ok (.value (.slice (some ⟨blk, 0, none⟩) (l.length + l2.length) cap)) w' ∧ GExt g g' ∧ Agree g' w' ∧ BelowL w0 w' ∧
  (∀ b o, ¬ w0.own b = true → g' b o = g b o) ∧ w0.own blk = true ∧ l.length + l2.length ≤ cap ∧ cap ≤ maxLen ∧ w'.heap[blk]? = some (.cells cur' e' (0, 0)) ∧ cur'.size = cap * s ∧
  (∀ k, k < l.length * s → cur'.getD k undef = cur.getD k undef) ∧ (∀ k, k < l2.length * s → cur'.getD (l.length * s + k) undef = cs k) ∧
  (∀ o, g' blk o = if mt = false ∧ o < (l.length + l2.length) * s then some (cur'.getD o undef) else none) ∧ (blk = L.blk ∨ w.heap.size ≤ blk) ∧
  (∀ b, b < w.heap.size → b ≠ L.blk → w'.heap[b]? = w.heap[b]? ∧ ∀ o, g' b o = g b o) ∧ (blk ≠ L.blk → w'.heap[L.blk]? = w.heap[L.blk]?) := by
 subst he
 subst htys
 have hblt : L.blk < w.heap.size := (Array.getElem?_eq_some_iff.1 hown.hw).1
 obtain ⟨i, z, hi, hi1, hi2, hi3, hi4⟩ := ht.hi
 have hzc : z.cells.size = s := by rw [← hzs, ← hi4]; simp
 have hmm : l.length + l2.length ≤ maxLen := by simp only [maxLen]; omega
 -- the appended cells
 have hsrc : ∃ (yv : Value) (c2 : Nat → List PV) (cs : Nat → Value), av y = yv ∧ (∀ (i : Nat) (p : PV), l2[i]? = some p → p.flat = some (c2 i) ∧ (c2 i).length = s) ∧ (∀ (i j : Nat) (q : PV), i < l2.length → (c2 i)[j]? = some q → VR g (cs (i * s + j)) q) ∧
  (((yv = .slice none 0 0 ∨ ∃ (a : Addr) (cap : Nat), yv = .slice (some a) 0 cap) ∧ l2 = []) ∨ ∃ b of_ cap, yv = .slice (some ⟨b, of_, none⟩) l2.length cap ∧ ∀ k, k < l2.length * s → g b (of_ + k) = some (cs k)) := by
  rcases VR.sl_inv ey with ⟨q1, rfl, _⟩ | ⟨a', cap', q1, rfl, _⟩ | ⟨b, of_, cap, c2, cs, q1, _, _, _, _, f1, f2, f3⟩
  · exact ⟨_, fun _ => [], fun _ => undef, rfl, fun i p h => by simp at h, fun i j q h => by simp at h, .inl ⟨.inl q1, rfl⟩⟩
  · exact ⟨_, fun _ => [], fun _ => undef, rfl, fun i p h => by simp at h, fun i j q h => by simp at h, .inl ⟨.inr ⟨a', cap', q1⟩, rfl⟩⟩
  · exact ⟨_, c2, cs, rfl, f1, f3, .inr ⟨b, of_, cap, q1, f2⟩⟩
 obtain ⟨yv, c2, cs, eav, hf2, hv2, hsrc⟩ := hsrc
 let news : List Value := (List.range (l2.length * s)).map cs
 have hnl : news.length = l2.length * s := by simp [news]
 have hnk : ∀ (k : Nat), k < l2.length * s → news.getD k undef = cs k := fun k hk => by simp [news, List.getD_eq_getElem?_getD, hk]
 have hone' : ∀ u ∈ news, u.oneCell' = true := fun u hu => by
  obtain ⟨k, hk, rfl⟩ := List.mem_map.1 hu
  have hk := List.mem_range.1 hk
  have hs := hown.hs
  have hks : k / s < l2.length := Nat.div_lt_of_lt_mul (by rw [Nat.mul_comm]; exact hk)
  obtain ⟨f1, f2⟩ := hf2 _ _ (List.getElem?_eq_getElem hks)
  have hms : k % s < (c2 (k / s)).length := by rw [f2]; exact Nat.mod_lt _ hs
  have hq := List.getElem?_eq_getElem hms
  have hvr := hv2 (k / s) (k % s) _ hks hq
  rw [show k / s * s + k % s = k by rw [Nat.mul_comm]; exact Nat.div_add_mod k s] at hvr
  exact (hvr.oneCell (List.all_eq_true.1 (hone _ (List.getElem_mem hks) _ f1) _ (List.getElem_mem hms))).2
 have hcursz := hown.hsz
 refine ⟨c2, cs, hf2, hv2, ?_⟩
 have hexec : ∀ {v : Value} {w' : World}, (Builtin.append_ #[t, t] o.type #[.slice (some ⟨L.blk, 0, none⟩) l.length L.cap, yv]).run P w = .ok v w' → (execOp av o).run P w = .ok (.value v) w' := fun {v w'} h => by
  simp only [execOp, ho, resolve, Sem.run_bind, run_pure, Result.andThen, invoke, builtin]
  have : (#[x, y].map av) = #[.slice (some ⟨L.blk, 0, none⟩) l.length L.cap, yv] := by simp [ex, eav]
  rw [this, h]
 have holdw : ∀ b, ¬ w0.own b = true → b ≠ L.blk := fun b hb e => hb (e ▸ hown.hB)
 rcases hsrc with ⟨hav, hl2⟩ | ⟨b, of_, capy, hav, hgk⟩
 · -- nothing is appended
   subst hl2
   have hroom' : l.length ≤ L.cap := hown.hcap
   refine ⟨L.blk, L.cap, cur, w, g, hexec ?_, GExt.refl g, hag, hbel, fun _ _ _ => rfl, hown.hB, by simpa using hroom', hown.hmax, hown.hw, hown.hsz, fun _ _ => rfl, fun k hk => by simp at hk, by simpa using hown.hg, .inl rfl, fun _ _ _ => ⟨rfl, fun _ => rfl⟩, fun h => absurd rfl h⟩
   rcases hav with hav | ⟨a', cap', hav⟩
   · subst hav
     simp [Builtin.append_, run_underlying ht.hu, Go.sizeOf, typeInfo, hi, Builtin.lenOf, Builtin.firstCells, hroom', go_sem, storeCells]
   · subst hav
     simp [Builtin.append_, run_underlying ht.hu, Go.sizeOf, typeInfo, hi, Builtin.lenOf, Builtin.firstCells, hroom', go_sem, storeCells, loadCells]
 have hcellsrc : ∀ (j : Nat) (u : Value), news[j]? = some u → w.cell? ((⟨b, of_, none⟩ : Addr).add j) = some u := fun j u hj => by
  rw [Addr.add_n]
  have hjl : j < l2.length * s := by rw [← hnl]; exact (List.getElem?_eq_some_iff.1 hj).1
  have : u = cs j := by rw [← hnk j hjl]; simp [List.getD_eq_getElem?_getD, hj]
  rw [this]; exact hag _ _ _ (hgk j hjl)
 have hltl : ∀ k, k < l.length * s → k < (l.length + l2.length) * s := fun k hk => Nat.lt_of_lt_of_le hk (Nat.mul_le_mul_right _ (by omega))
 by_cases hroom : l.length + l2.length ≤ L.cap
 · -- there is room
   have hfit : l.length * s + news.length ≤ cur.size := by rw [hnl, hcursz, ← Nat.add_mul]; exact Nat.mul_le_mul_right _ hroom
   have hsp := getD_splice cur (l.length * s) news hfit
   have hsps := size_splice cur (l.length * s) news hfit
   have hrun := run_append_room (P := P) w t o.type e' i ht.hu hi L.blk l.length L.cap cur hown.hw ⟨b, of_, none⟩ l2.length capy news (by rw [hi1]; exact hnl) hcellsrc hone' hroom (by rw [hi1]; exact hfit)
   rw [hi1, ← hav] at hrun
   generalize hcur : (cur.toList.take (l.length * s) ++ news ++ cur.toList.drop (l.length * s + news.length)).toArray = cur' at *
   have k1 : ∀ k, k < l.length * s → cur'.getD k undef = cur.getD k undef := fun k hk => by rw [hsp k, if_neg (by omega)]
   have k2 : ∀ k, k < l2.length * s → cur'.getD (l.length * s + k) undef = cs k := fun k hk => by
    rw [hsp, if_pos (by omega), show l.length * s + k - l.length * s = k by omega]; exact hnk k hk
   have hw' := setRow_heap w L.blk cur cur' e' (0, 0) hown.hw
   have hsz' : cur'.size = L.cap * s := hsps.trans hcursz
   let f : Nat → Option Value := fun o => if mt = false ∧ o < (l.length + l2.length) * s then some (cur'.getD o undef) else none
   have hx : GExt g (gset g L.blk f) := fun b' o' v hv => by
    unfold gset
    split
    · rename_i e
      subst e
      rw [hown.hg o'] at hv
      split at hv
      · rename_i hc
        simp only [f]
        rw [if_pos ⟨hc.1, hltl _ hc.2⟩, k1 _ hc.2]; exact hv
      · cases hv
    · exact hv
   refine ⟨L.blk, L.cap, cur', _, gset g L.blk f, hexec hrun, hx, fun b' o' v hv => ?_, hbel.setRow hown.hB cur', fun b' o' hb' => ?_, hown.hB, hroom, hown.hmax, hw', hsz', k1, k2, fun o' => by simp [gset, f], .inl rfl, fun b' hb' hne => ⟨setRow_other w _ _ _ hne, fun o' => ?_⟩, fun h => absurd rfl h⟩
   · unfold gset at hv
     split at hv
     · rename_i e
       subst e
       simp only [f] at hv
       split at hv
       · rename_i hc
         rw [cell_of_row _ _ _ _ _ _ hw', ← hv]
         exact getElem?_getD (by rw [hsz']; exact Nat.lt_of_lt_of_le hc.2 (Nat.mul_le_mul_right _ hroom))
       · cases hv
     · rename_i hne
       rw [cell_setRow_other w _ _ ⟨b', o', none⟩ hne]; exact hag b' o' v hv
   · unfold gset; rw [if_neg (holdw b' hb')]
   · unfold gset; rw [if_neg hne]
 · -- it grows into a new block
   let olds : List Value := cur.toList.take (l.length * s)
   have hlcur : l.length * s ≤ cur.size := by rw [hcursz]; exact Nat.mul_le_mul_right _ hown.hcap
   have hol : olds.length = l.length * s := by simp [olds]; omega
   have hrun := run_append_grow (P := P) w t o.type e' i z ht.hu hi hi3 ⟨L.blk, 0, none⟩ l.length L.cap olds (by rw [hi1]; exact hol) (fun j u hj => by
    rw [Addr.add_n, Nat.zero_add, cell_of_row _ _ _ _ _ _ hown.hw]
    simp only [olds] at hj
    rw [List.getElem?_take] at hj
    split at hj
    · simpa using hj
    · cases hj) ⟨b, of_, none⟩ l2.length capy news (by rw [hi1]; exact hnl) hcellsrc (by omega) (by omega) (growslice_fits (by omega) (by rw [hi2]; exact hb))
   rw [← hav] at hrun
   have hcapge : l.length + l2.length ≤ grownCap w (l.length + l2.length) L.cap e' := grownCap_ge w _ _ e'
   have hcapm : grownCap w (l.length + l2.length) L.cap e' ≤ maxLen := grownCap_le_maxLen w _ _ e' hmm
   generalize hcap' : grownCap w (l.length + l2.length) L.cap e' = cap' at *
   generalize hcur : olds.toArray ++ news.toArray ++ Builtin.zeroCells z.cells (cap' - (l.length + l2.length)) = cur' at *
   have hsz' : cur'.size = cap' * s := by
    rw [← hcur]
    simp only [Array.size_append, List.size_toArray, size_zeroCells, hzc, hol, hnl, ← Nat.add_mul]
    congr 1
    omega
   have k1 : ∀ k, k < l.length * s → cur'.getD k undef = cur.getD k undef := fun k hk => by
    rw [← hcur]
    have h1 : k < olds.length := by omega
    have h2 : (olds.toArray ++ news.toArray ++ Builtin.zeroCells z.cells (cap' - (l.length + l2.length)))[k]? = cur[k]? := by
     rw [Array.getElem?_append_left (by rw [Array.size_append, List.size_toArray, List.size_toArray]; omega), Array.getElem?_append_left (by rw [List.size_toArray]; exact h1), List.getElem?_toArray]
     simp only [olds]
     rw [List.getElem?_take_of_lt hk, Array.getElem?_toList]
    rw [Array.getD_eq_getD_getElem?, Array.getD_eq_getD_getElem?, h2]
   have k2 : ∀ k, k < l2.length * s → cur'.getD (l.length * s + k) undef = cs k := fun k hk => by
    rw [← hcur]
    have h3 : l.length * s + k - olds.length = k := by omega
    have h2 : (olds.toArray ++ news.toArray ++ Builtin.zeroCells z.cells (cap' - (l.length + l2.length)))[l.length * s + k]? = news[k]? := by
     rw [Array.getElem?_append_left (by rw [Array.size_append, List.size_toArray, List.size_toArray]; omega), Array.getElem?_append_right (by rw [List.size_toArray]; omega), List.getElem?_toArray, List.size_toArray, h3]
    rw [← hnk k hk, Array.getD_eq_getD_getElem?, List.getD_eq_getElem?_getD, h2]
   have hnew : (w.drew.alloc (.cells cur' e')).heap[w.heap.size]? = some (.cells cur' e' (0, 0)) := heap_alloc_new w.drew _
   have hbl1 : RowKit.Below w.heap.size w (w.drew.alloc (.cells cur' e')) := (RowKit.Below.refl _ _).drew.alloc (Nat.le_refl _) _
   let f : Nat → Option Value := fun o => if mt = false ∧ o < (l.length + l2.length) * s then some (cur'.getD o undef) else none
   have hx : GExt g (gset g w.heap.size f) := fun b' o' v hv => by
    have := hag.lt hv
    unfold gset
    rw [if_neg (by omega)]; exact hv
   have hB0 := hbel.size
   refine ⟨w.heap.size, cap', cur', _, gset g w.heap.size f, hexec hrun, hx, fun b' o' v hv => ?_, hbel.step hbl1, fun b' o' hb' => ?_, Ini.own_new hB0, hcapge, hcapm, hnew, hsz', k1, k2, fun o' => by simp [gset, f], .inr (Nat.le_refl _), fun b' hb' hne => ⟨hbl1.block b' hb', fun o' => ?_⟩, fun _ => hbl1.block _ hblt⟩
   · unfold gset at hv
     split at hv
     · rename_i e
       subst e
       simp only [f] at hv
       split at hv
       · rename_i hc
         rw [cell_of_row _ _ _ _ _ _ hnew, ← hv]
         exact getElem?_getD (by rw [hsz']; exact Nat.lt_of_lt_of_le hc.2 (Nat.mul_le_mul_right _ hcapge))
       · cases hv
     · rename_i hne
       exact hag.below hbl1 b' o' v hv
   · unfold gset; rw [if_neg (by have := Ini.old_lt hb'; omega)]
   · unfold gset; rw [if_neg (by omega)]
/-! #### Rows of a grid, settled -/
def rowD (L : Loc) (k : Nat) (b : Nat) : Bool := (List.range k).any fun i => b == L.rows i
theorem rowD_iff {L : Loc} {k b : Nat} : rowD L k b = true ↔ ∃ i, i < k ∧ b = L.rows i := by simp [rowD]
abbrev slR (r : List PV) : PV := .sl 1 none r
theorem VRS1.keepBox {g g' : Ghost} {ρ : Nat → Loc} {hp : List HO} {n : Nat} {bl bl' : List PV} {ho' : HO} {L2 : Loc} (hx : GExt g g') (hid : hp[n]? = some (.box bl)) (he : HO.box bl' = ho') (hb : L2.blk = (ρ n).blk) (hc : L2.cap = (ρ n).cap) (h1 : L2.rows = (ρ n).rows) (h2 : L2.caps = (ρ n).caps) (hlen : bl'.length = bl.length) {v : Value} {p : PV} (h : VRS1 g ρ hp v p) :
 VRS1 g' (upd ρ n L2) ((hp.map (mapHO id)).set n ho') v p := by
 subst he
 rw [map_mapHO_id]
 have hlt : n < hp.length := (List.getElem?_eq_some_iff.1 hid).1
 have hL : L2 = ρ n := by
  cases L2 with
  | mk b c r cs => simp only at hb hc h1 h2; subst hb hc h1 h2; rfl
 rw [hL, upd_self]
 have get : ∀ (j : Nat) (y : HO), (hp.set n (.box bl'))[j]? = some y → (y = .box bl') ∨ hp[j]? = some y := fun j y hj => by
  by_cases e : j = n
  · subst e; rw [List.getElem?_set_self hlt] at hj; exact .inl (Option.some.inj hj).symm
  · rw [List.getElem?_set_ne (Ne.symm e)] at hj; exact .inr hj
 have key : ∀ {j}, HpV ρ hp v j → HpV ρ (hp.set n (.box bl')) v j := fun {j} h =>
  { sl := h.sl
    arr := fun m s e l hj => (get j _ hj).elim (fun h' => by cases h') (h.arr _ _ _ _)
    grid := fun e1 e2 rows hj => (get j _ hj).elim (fun h' => by cases h') (h.grid _ _ _)
    sg := fun e1 e2 m rows hj => (get j _ hj).elim (fun h' => by cases h') (h.sg _ _ _ _)
    pg := fun e1 e2 m rows hj => (get j _ hj).elim (fun h' => by cases h') (h.pg _ _ _ _)
    box := fun l hj => by
     by_cases e : j = n
     · subst e
       rw [List.getElem?_set_self hlt] at hj
       cases hj
       rw [hlen]; exact h.box _ hid
     · rw [List.getElem?_set_ne (Ne.symm e)] at hj
       exact h.box _ hj }
 cases p with
 | hp j => exact key h
 | hpv j b c => exact ⟨key h.1, h.2⟩
 | hat j i => exact h
 | hatv j i b c => exact h
 | gr j i => exact (⟨GrV.sl h, fun e1 e2 rows r hj hr => (get j _ hj).elim (fun h' => by cases h') fun h' => GrV.grid h _ _ _ _ h' hr, fun e1 e2 k rows r hj hr => (get j _ hj).elim (fun h' => by cases h') fun h' => GrV.sg h _ _ _ _ _ h' hr⟩ : GrV _ _ _ _ _)
 | gat j i k => exact h
 | _ => exact VR.mono hx h
theorem e_callLB {x : Operand} {xs : Array Operand} {tys : Array TypeId} {f : FuncId} [hf : FnT P f] {first caps args : List PV} {n : Nat} {bl bl' : List PV} {q : PV} (hop : o.op = .call { callee := .value x, args := xs, argTypes := tys }) (h1 : S.ev x = .fn f first caps) (hn : S.hp[n]? = some (.box bl))
 (h2 : argsLS (first ++ (xs.toList.map fun y => lendP n S.hp (S.ev y)) ++ caps) args) (ha : aloneHO (.box bl) = true) (ha' : aloneHO (.box bl') = true) (hc : LCalls P f (.box bl) args (.box bl') q) (hlen : bl'.length = bl.length := by rfl) :
 EStep P o S (St.put ⟨S.fr, S.hp.set n (.box bl')⟩ o.dst q) := by
 generalize hho : (HO.box bl) = ho at hn ha hc
 generalize hho' : (HO.box bl') = ho' at ha' hc ⊢
 intro w0 g ρ a w hr Q K hK
 have hb := hr.base
 have e1 := hr.ev x
 rw [h1] at e1
 obtain ⟨fs, cs, ea, l1, l2, v1, v2⟩ := VR.fn_inv e1
 unfold Oper.wp
 rw [run_call hop ea]
 have hone : ∀ v p, VRS1 g ρ S.hp v p → VRS1 g (fun _ => ρ n) [ho] v (lend1 n S.hp p) := fun v p hv => by
  have keyH : ∀ {j}, j = n → HpV ρ S.hp v j → HpV (fun _ => ρ n) [ho] v 0 := fun {j} e h => by
   subst e
   exact { sl := h.sl, arr := fun m s e l hh => by simp at hh; subst hh; exact h.arr _ _ _ _ hn, grid := fun e1 e2 rows hh => by simp at hh; subst hh; exact h.grid _ _ _ hn, sg := fun e1 e2 m rows hh => by simp at hh; subst hh; exact h.sg _ _ _ _ hn, pg := fun e1 e2 m rows hh => by simp at hh; subst hh; exact h.pg _ _ _ _ hn, box := fun l hh => by simp at hh; subst hh; exact h.box _ hn }
  cases p with
  | hp j =>
   simp only [lend1]
   cases hbj : (j == n) with
   | true => exact keyH (by simpa using hbj) hv
   | false => exact .of_VR (hb.view1 (p := .hp j) hv)
  | hpv j b c =>
   simp only [lend1]
   cases hbj : (j == n) with
   | true => exact keyH (by simpa using hbj) hv.1
   | false => exact VR.any v
  | hat j i =>
   simp only [lend1]
   cases hbj : (j == n) with
   | true => have e : j = n := by simpa using hbj
             subst e; exact hv
   | false => exact VR.any v
  | hatv j i b c =>
   simp only [lend1]
   cases hbj : (j == n) with
   | true => have e : j = n := by simpa using hbj
             subst e; exact hv.1
   | false => exact VR.any v
  | gr _ _ => exact VR.any v
  | gat _ _ _ => exact VR.any v
  | _ => exact hv
 have hargs : VRSl g (fun _ => ρ n) [ho] (fs ++ xs.map a.eval ++ cs).toList args := by
  refine VRSl.le h2 ?_
  have app : ∀ {us vs : List Value} {l m : List PV}, VRSl g (fun _ => ρ n) [ho] us l → VRSl g (fun _ => ρ n) [ho] vs m → VRSl g (fun _ => ρ n) [ho] (us ++ vs) (l ++ m) := fun {us vs l m} h k => by
   refine ⟨by simp [h.1, k.1], fun i q hq => ?_⟩
   rcases Nat.lt_or_ge i l.length with hlt | hge
   · rw [List.getElem?_append_left hlt] at hq
     have := h.2 i q hq
     simpa [List.getD_eq_getElem?_getD, List.getElem?_append_left (show i < us.length by rw [h.1]; exact hlt)] using this
   · rw [List.getElem?_append_right hge] at hq
     have := k.2 _ q hq
     simpa [List.getD_eq_getElem?_getD, List.getElem?_append_right (show us.length ≤ i by rw [h.1]; exact hge), h.1] using this
  have arr : ∀ {us : Array Value} {l : List PV}, us.size = l.length → (∀ i q, l[i]? = some q → VR g (us.getD i undef) q) → VRSl g (fun _ => ρ n) [ho] us.toList l := fun {us l} h1 h2 => by
   have := VRl.of_array h1 h2
   exact ⟨this.1, fun i q hq => .of_VR (this.2 i q hq)⟩
  rw [Array.toList_append, Array.toList_append]
  refine app (app (arr l1 v1) ?_) (arr l2 v2)
  refine ⟨by simp, fun i q hq => ?_⟩
  simp only [List.getElem?_map, Option.map_eq_some_iff, Array.getElem?_toList] at hq
  obtain ⟨y, hy, rfl⟩ := hq
  have : (xs.map a.eval).toList.getD i undef = a.eval y := by simp [List.getD_eq_getElem?_getD, hy]
  rw [this, lendP_map]
  exact (hr.ev y).map hone
 have hlt : n < S.hp.length := (List.getElem?_eq_some_iff.1 hn).1
 unfold LCalls at hc
 have := hc g w (ρ n) _ hb.agree ((hb.own n ho hn).alone ha (fun _ _ => rfl)) hargs
 rw [Array.toArray_toList] at this
 refine this.mono fun e w' h => ?_
 obtain ⟨v, g', L', rfl, hx, hold, hbl, hag, hho0, hb1, hc1, hv⟩ := h
 have hown : ∀ b, Ini.own ⟨w, g, footB ho (ρ n)⟩ b = true → foot ho (ρ n) b ∨ w.heap.size ≤ b := fun b hb' => by
  unfold Ini.own at hb'
  rw [Bool.or_eq_true] at hb'
  rcases hb' with h | h
  · right; simpa using h
  · left; exact footB_iff.1 h
 have hnot : ∀ b, b < w.heap.size → ¬ foot ho (ρ n) b → ¬ Ini.own ⟨w, g, footB ho (ρ n)⟩ b = true := fun b hb1 hb2 hb3 => by
  rcases hown b hb3 with h | h
  · exact hb2 h
  · omega
 let L2 : Loc := ⟨L'.blk, L'.cap, (ρ n).rows, (ρ n).caps⟩
 have hφ : ∀ v p, VRS1 g ρ S.hp v p → VRS1 g' (upd ρ n L2) ((S.hp.map (mapHO id)).set n ho') v p := fun v p h => VRS1.keepBox (L2 := L2) hx (hho ▸ hn) hho' hb1 hc1 rfl rfl hlen h
 have hw0 : ∀ b, ¬ w0.own b = true → ¬ Ini.own ⟨w, g, footB ho (ρ n)⟩ b = true := fun b hb' hb2 => by
  rcases hown b hb2 with h | h
  · exact hb' ((hb.own n ho hn).foot_lt h).1
  · exact hb' (Ini.own_new (Nat.le_trans hb.below.size h))
 have hD : ∀ b, foot ho' L' b → w0.own b = true := fun b hb' => by
  rcases hown b ((hho0.foot_lt hb').1) with h | h
  · exact ((hb.own n ho hn).foot_lt h).1
  · exact Ini.own_new (Nat.le_trans hb.below.size h)
 have hho2 : HOwn g' (upd ρ n L2) ((S.hp.map (mapHO id)).set n ho') w' w0.own ho' L2 := by
  have := hho0.alone (ρ' := upd ρ n L2) (hp' := (S.hp.map (mapHO id)).set n ho') ha' hD
  subst hho'
  obtain ⟨cur, e, h⟩ := this
  exact ⟨cur, e, ⟨h.hB, h.hw, h.hsz, h.hv, h.hg⟩⟩
 have hft : ∀ b, foot ho' L2 b → foot ho' L' b := fun b hb' => by subst hho'; exact hb'
 have hbase := hb.upd hn (x' := ho') L2 hx id hφ hag ⟨hbl.os.trans hb.below.os, hbl.tape.trans hb.below.tape, hbl.output.trans hb.below.output, Nat.le_trans hb.below.size hbl.size, fun k hk => (hbl.block k (hw0 k hk)).trans (hb.below.block k hk)⟩
  (fun b o hb' => hold b o (hw0 b hb')) hho2 (fun b hb' => by
   rcases hown b ((hho0.foot_lt (hft b hb')).1) with h | h
   · exact .inl h
   · exact .inr (.inl h)) (fun b hb1 hb2 => ⟨hbl.block b (hnot b hb1 hb2), fun o => hold b o (hnot b hb1 hb2)⟩)
 rw [show (S.hp.map (mapHO id)).set n ho' = S.hp.set n ho' by rw [map_mapHO_id]] at hbase hφ
 have hrel : Rel w0 ⟨S.fr, S.hp.set n ho'⟩ g' (upd ρ n L2) a w' := ⟨hbase, hr.dead, hr.size, fun i p hp => (hr.fr i p hp).turn hφ⟩
 exact hK g' _ _ w' hx (hrel.put hbase (GExt.refl g') (.of_VR hv) o.dst)

/-! #### Arrays of pairs -/
section
variable {ev : Operand → PV} {hp : List HO}
theorem ps_index_hatarr {t e : TypeId} {n s : Nat} [ht : ArrT P t n e s] {x ix : Operand} {id k : Nat} {i : Int} (ho : o.op = .indexAddr t x ix) (h1 : ev x = .hat id k) (h2 : ev ix = I i) (h0 : 0 ≤ i) (hq : i.toNat < n) :
 PStep P o ev hp (.hat id (k + i.toNat * s)) :=
 .of_run fun w0 g ρ w av hb hx => by
  have e1 := hx x (by simp [ho, Op.operands])
  have e2 := val_of (hx ix (by simp [ho, Op.operands])) h2
  rw [h1] at e1
  have ea : av x = .pointer (some ⟨(ρ id).blk, k, none⟩) := e1
  have hi : i < (n : Int) := by omega
  refine ⟨.pointer (some ⟨(ρ id).blk, k + i.toNat * s, none⟩), ?_, rfl⟩
  simp [execOp, ho, ea, e2, Instr.indexAt, Instr.sureAddr, asIntOf, run_underlying ht.hu, ht.hs, h0, hi, Addr.add_n, go_sem]
end
/-! #### Results of a lending call that lie in a variable -/
def KRLC (r : Tmp) (m : Nat) (b d : Nat) (ho' : HO) (q : PV) (e : Exit) (S : St) : Prop := (e = .normal ∨ e = .ret) ∧ S.hp[0]? = some ho' ∧ Stays S b d ∧ KRC ⟨S.fr, S.hp.set 0 .gone⟩ r m q
theorem krlc {r : Tmp} {m b d : Nat} {ho' ho2 : HO} {q : PV} {S : St} (j i : Nat) (h0 : S.hp[0]? = some ho2) (he : ho2 = ho') (hj : S.ev (.tmp j) = .hatv 0 i b d) (hq : KRC ⟨S.fr, S.hp.set 0 .gone⟩ r m q) : KRLC r m b d ho' q .ret S := ⟨.inr rfl, he ▸ h0, ⟨j, .inr ⟨i, hj⟩⟩, hq⟩
theorem load_resD {t : TypeId} {n : Nat} [ht : AggT P t n] {w0 : Ini} {g : Ghost} {ρ : Nat → Loc} {a : Act} {w : World} (h : Rel w0 S g ρ a w) {r : Tmp} {q : PV} (hk : KRC S r n q) {D : Nat → Bool} (hD : ∀ id ho b, S.hp[id]? = some ho → foot ho (ρ id) b → D b = true) :
 ∃ ad v, a.tmps.getD r undef = .pointer (some ad) ∧ (loadVar t ad).run P w = .ok v w ∧ VR (snap g w D) v q := by
 unfold KRC at hk
 obtain ⟨l, hl, hn, hq⟩ := hk
 have hv := h.base.viewMD hD (h.ev (.tmp r))
 rw [hl] at hv
 obtain ⟨b, o, cs, ea, hg, hcv⟩ := VR.ptr_inv hv
 have ea' : a.tmps.getD r undef = .pointer (some ⟨b, o, none⟩) := ea
 have hld := run_loadCells (P := P) w ⟨b, o, none⟩ n cs (fun j hj => by rw [Addr.add_n]; exact snap_agree h.base.agree _ _ _ _ (hg j (by omega)))
 refine ⟨⟨b, o, none⟩, .agg (List.map cs (List.range n)).toArray, ea', ?_, hq _ _ (.agg _ _ (by simp; omega) (fun i p hp => ?_))⟩
 · unfold loadVar
   simp only [Sem.run_bind, run_pure, Result.andThen, ht.ha, ht.hs, hld, if_true]
 · rw [List.getElem?_take] at hp
   split at hp
   · rename_i hi
     have := hcv i p hp
     simpa [hi] using this
   · cases hp
theorem pcallsLC {f : FuncId} {fn : Func} {c : Code} {n m : Nat} {ho ho' : HO} {args : List PV} {r : Tmp} {t : TypeId} [ht : AggT P t m] {q : PV} (hf : P.funcs[f]? = some fn) (hb : fn.body = some c) (hn : fn.ntmps = n) (hr : fn.results = #[.cell r t]) (hal : aloneHO ho = true) (hal' : aloneHO ho' = true) (hat : ∀ p ∈ args, ∀ l, p ≠ .tup l)
 (h : ∀ b d, Goal P c (KRLC r m b d ho' q) ⟨args.map (pinP b d) ++ List.replicate (n - args.length) (.val undef), [ho]⟩) : LCalls P f ho args ho' q :=
 pcallsL_gen (fun S => KRC S r m q) (fun S w0 g ρ a w D hk hrel hD => by
  obtain ⟨ad, v, h0, h1, h2⟩ := load_resD (P := P) (ht := ht) hrel hk hD
  refine ⟨v, ?_, h2⟩
  have h0' : a.tmps[r]?.getD undef = .pointer (some ad) := by simpa using h0
  unfold results
  rw [hr]
  generalize @loadVar = lv at h1 ⊢
  simp [h0', asAddr, h1, go_sem]) hf hb hn hal hal' (fun b d => h b d) hat
end
section
variable {P : Program} {o : Oper} {ev : Operand → PV} {hp : List HO}
theorem j_callLB {x : Operand} {xs : Array Operand} {tys : Array TypeId} {f : FuncId} [hf : FnT P f] {first caps args : List PV} {n : Nat} {bl bl' : List PV} {q : PV} (hop : o.op = .call { callee := .value x, args := xs, argTypes := tys }) (h1 : ev x = .fn f first caps) (hn : hp[n]? = some (.box bl))
 (h2 : argsLS (first ++ (xs.toList.map fun y => lendP n hp (ev y)) ++ caps) args) (ha : aloneHO (.box bl) = true) (ha' : aloneHO (.box bl') = true) (hc : LCalls P f (.box bl) args (.box bl') q) (hlen : bl'.length = bl.length := by rfl) : JStep P o ev hp none (hp.set n (.box bl')) q := fun fr hfr => by
 have hel : (xs.toList.map fun y => lendP n hp ((St.mk fr hp).ev y)) = xs.toList.map fun y => lendP n hp (ev y) := List.map_congr_left fun y hm => by
  rw [hfr y (by simp only [hop, Op.operands, Call.operands]; exact Array.mem_append.2 (.inr (by simpa using hm)))]
 exact e_callLB (S := ⟨fr, hp⟩) hop ((hfr x (by simp [hop, Op.operands, Call.operands])).trans h1) hn (by rw [show (xs.toList.map fun y => lendP n (St.mk fr hp).hp ((St.mk fr hp).ev y)) = xs.toList.map fun y => lendP n hp (ev y) from hel]; exact h2) ha ha' hc hlen
theorem j_store {t : TypeId} {x v : Operand} (ho : o.op = .store t x v) (hd : o.dst = none) {hp' : List HO} (h : ∀ fr, (St.mk fr hp).ev x = ev x → (St.mk fr hp).ev v = ev v → EStep P o ⟨fr, hp⟩ ⟨fr, hp'⟩) : JStep P o ev hp none hp' .any := fun fr hfr => by
 have := h fr (hfr x (by simp [ho, Op.operands])) (hfr v (by simp [ho, Op.operands]))
 rw [show St.put ⟨killO none fr, hp'⟩ o.dst .any = ⟨fr, hp'⟩ by rw [hd]; rfl]
 exact this
theorem j_store_boxA {t : TypeId} {n : Nat} [ht : AggT P t n] {x v : Operand} {id i : Nat} {l c : List PV} (ho : o.op = .store t x v) (hd : o.dst = none) (h1 : ev x = .hat id i) (hh : hp[id]? = some (.box l)) (hi : i + n ≤ l.length)
 (h2 : ev v = .agg c) (hcn : c.length = n) (hone : (c.all PV.one) = true) : JStep P o ev hp none (hp.set id (.box (l.take i ++ c ++ l.drop (i + n)))) .any :=
 j_store ho hd fun fr e1 e2 => zO (S := ⟨fr, hp⟩) ho hd (e1.trans h1) hh hi (e2.trans h2) hcn hone
theorem ps_lits {t e : TypeId} {s by_ : Nat} [ht : SlT P t e s by_] {zs : List Value} [hz : ZeroT P e zs] {n : Nat} {ps : List (Nat × Operand)} (ho : o.op = .buildSlice t n (List.toArray ps)) (hparts : ps = zipFrom 0 (ps.map (·.2)))
 (hn : ps.length = n) (hok : elemsOk s (elems hp ev (ps.map (·.2)))) (hs : 0 < s) (hb : n * s ≤ 16777216) : PStep P o ev hp (.sl s none (elems hp ev (ps.map (·.2)))) :=
 ps_buildSlice (ht := ht) (hz := hz) (parts := List.toArray ps) ho hparts hn rfl hok hs hb
end
theorem rcalls_P {P : Program} {f : FuncId} {args : List PV} {ho : HO} {q : PV} (hown : ownable ho = true) (hc : RCalls P f args ho q) : PCalls P f args (viewM [ho] q) := by
 unfold PCalls
 unfold RCalls at hc
 intro g w vs ha hv
 refine (hc g w vs ha hv).mono fun e w' h => ?_
 obtain ⟨v, L, rfl, hbl, hho, hv⟩ := h
 have hgn : ∀ b, decide (w.heap.size ≤ b) = true → Ini.own ⟨w, g, fun _ => false⟩ b = true ∧ ∀ o, g b o = none := fun b hb' => by
  have hb' : w.heap.size ≤ b := by simpa using hb'
  refine ⟨Ini.own_new hb', fun o => ?_⟩
  cases hk : g b o with
  | none => rfl
  | some v => exact absurd (ha.lt hk) (by omega)
 have hbase : Base ⟨w, g, fun _ => false⟩ [ho] g (fun _ => L) w' := by
  refine ⟨(BelowL.refl _).step hbl, ha.below hbl, fun _ _ _ => rfl, fun id x hx => ?_, fun i j x y b hij hx hy => ?_⟩
  · rcases id with _ | id
    · simp at hx; subst hx; exact hho.in hown hgn
    · simp at hx
  · rcases i with _ | i
    · rcases j with _ | j
      · exact absurd rfl hij
      · simp at hy
    · simp at hx
 exact ⟨v, snap g w' (Ini.own ⟨w, g, fun _ => false⟩), rfl, snap_ext hbase.agree _, fun b o hb => snap_old (Ini.own_old hb rfl) o, hbl, snap_agree hbase.agree _, hbase.viewM (hv.mono (g0_ext g))⟩
end Go.Pv
