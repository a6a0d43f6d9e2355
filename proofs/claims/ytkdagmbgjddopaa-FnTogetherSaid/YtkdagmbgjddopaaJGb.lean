/- Algebras: arguments, places, compositions of tables on both sides. -/
import Derived.Test.YtkdagmbgjddopaaJGa
import Derived.Test.YtkdagmbgjddopaaJZa
namespace Go.Proofs.Ytkdagmbgjddopaa
open Go Go.Pv Go.Proofs
set_option maxHeartbeats 32000000
set_option maxRecDepth 100000
attribute [local bitvec_to_nat] St.put St.setObj St.ev killP killA killP1 killH mapHO renP renA ren1 killG killGA killG1 krowP krowA krow1 lendP lendA lend1 unv pinP pin1 elemsM viewM viewN viewV n_set_z n_set_s n_map_c n_map_n getD_z getD_s n_toNat n_cond_t n_cond_f n_len_c n_len_n n_app_c n_app_n n_take_s n_take_z n_drop_s n_drop_z n_get_z n_get_s view viewA view1 elems Nat.zero_add Nat.add_zero Bool.not_true Bool.not_false Nat.one_ne_zero Nat.mul_one

theorem gsame_c (xs ys : List Int) (hl : xs.length ≤ 9223372036854775807) : PCalls Try.prog 77 [ints xs, ints ys] (B (decide (xs = ys))) := by
  refine pcalls1 Try.func77 rfl Try.ntmps77 rfl ?_
  simp only [List.length_cons, List.length_nil, Nat.reduceAdd, Nat.reduceSub, List.replicate_succ, List.replicate_zero, List.cons_append, List.nil_append]
  repeat' (first
| refine g_seq ?_
| refine zJ ?_
| refine zC ?_
| (refine o_go rfl ?_; (first
| refine p_p (zD rfl) ?_
| refine p_p (zA rfl) ?_
| refine p_p (zU rfl rfl rfl) ?_
| refine p_p (ps_neq rfl rfl rfl) ?_); refine ⟨_, aA, ?_⟩)
| refine o_nil ?_
| (refine g_condN rfl (fun hc => ?_) (fun hc => ?_) <;> try (exfalso; omega))
| refine kr1 ?_
| refine krB rfl ?_
| refine zR ?_
| refine g_ret ?_)
  · exact Eq.symm (decide_eq_false fun e => hc (by rw [e]))
  have hlen : xs.length = ys.length := by omega
  refine g_loopT (α := Nat) (fun k => [(5, I k)]) (fun _ => []) (fun k => k ≤ xs.length ∧ xs.take k = ys.take k) (fun k => xs.length - k) 0 aH ⟨Nat.zero_le _, by simp⟩ ⟨rfl, trivial⟩ rfl ?_
  clear hc
  rintro k ⟨hk, hno⟩
  dsimp only [zZ, List.set_cons_zero, List.set_cons_succ]
  repeat' (first
| refine g_seq ?_
| refine zJ ?_
| refine zC ?_
| refine zP (by kernel_rfl) (by kernel_rfl) ?_
| (refine o_go rfl ?_; (first
| refine p_p (zD rfl) ?_
| refine p_p (zA rfl) ?_
| refine p_p (zF rfl rfl) ?_
| refine p_p (zN rfl rfl rfl (by omega) aN (by exact rfl)) ?_
| refine p_p (zU rfl rfl rfl) ?_
| refine p_p (zS rfl rfl rfl) ?_
| refine p_p (ps_add rfl rfl rfl aO) ?_
| refine p_p (ps_neq rfl rfl rfl) ?_); refine ⟨_, aA, ?_⟩)
| refine o_nil ?_
| (refine g_condN rfl (fun hc => ?_) (fun hc => ?_) <;> try (exfalso; omega))
| (refine zK rfl (fun hc => ?_) (fun hc => ?_) <;> try (exfalso; omega))
| refine kr1 ?_
| refine krB rfl ?_
| refine zR ?_
| refine g_exit ?_
| refine g_ret ?_)
  · exact Eq.symm (decide_eq_false (eq_at (k := k) 0 hc))
  · refine zT (k + 1) ⟨by omega, ?_⟩ (by omega) aJ ⟨rfl, trivial⟩ (zM _)
    rw [take_snoc 0 (by omega), take_snoc 0 (by omega), hno, hc]
  · rw [(take_full hk hc).1, show k = ys.length by omega, List.take_length] at hno
    exact Eq.symm (decide_eq_true hno)
theorem gisame_c (xs ys : List Int) (hl : xs.length ≤ 1048576) : PCalls Try.prog 97 [ints xs, ints ys] (B (decide (xs = ys))) := by
  refine pcalls1 Try.func97 rfl Try.ntmps97 rfl ?_
  simp only [List.length_cons, List.length_nil, Nat.reduceAdd, Nat.reduceSub, List.replicate_succ, List.replicate_zero, List.cons_append, List.nil_append]
  repeat' (first
| refine g_seq ?_
| refine zJ ?_
| refine zC ?_
| (refine o_go rfl ?_; (first
| refine p_p (zD rfl) ?_
| refine p_p (zA rfl) ?_
| refine p_p (zU rfl rfl rfl) ?_
| refine p_p (ps_neq rfl rfl rfl) ?_); refine ⟨_, aA, ?_⟩)
| refine o_nil ?_
| (refine g_condN rfl (fun hc => ?_) (fun hc => ?_) <;> try (exfalso; omega))
| refine kr1 ?_
| refine krB rfl ?_
| refine zR ?_
| refine g_ret ?_)
  · exact Eq.symm (decide_eq_false fun e => hc (by rw [e]))
  have hlen : xs.length = ys.length := by omega
  refine g_loopT (α := Nat) (fun k => [(14, I k)]) (fun _ => []) (fun k => k ≤ xs.length ∧ xs.take k = ys.take k) (fun k => xs.length - k) 0 aH ⟨Nat.zero_le _, by simp⟩ ⟨rfl, trivial⟩ rfl ?_
  clear hc
  rintro k ⟨hk, hno⟩
  dsimp only [zZ, List.set_cons_zero, List.set_cons_succ]
  repeat' (first
| refine g_seq ?_
| refine zJ ?_
| refine zC ?_
| (refine o_go rfl ?_; (first
| refine p_p (zD rfl) ?_
| refine p_p (zA rfl) ?_
| refine p_p (zF rfl rfl) ?_
| refine p_p (zN rfl rfl rfl (by omega) aN (by exact rfl)) ?_
| refine p_p (zS rfl rfl rfl) ?_
| refine p_p (ps_add rfl rfl rfl aO) ?_
| refine p_p (ps_neq rfl rfl rfl) ?_); refine ⟨_, aA, ?_⟩)
| refine o_nil ?_
| (refine g_condN rfl (fun hc => ?_) (fun hc => ?_) <;> try (exfalso; omega))
| (refine zK rfl (fun hc => ?_) (fun hc => ?_) <;> try (exfalso; omega))
| refine kr1 ?_
| refine krB rfl ?_
| refine zR ?_
| refine g_exit ?_
| refine g_ret ?_)
  · exact Eq.symm (decide_eq_false (eq_at (k := k) 0 fun e => hc e.symm))
  · refine zT (k + 1) ⟨by omega, ?_⟩ (by omega) aJ ⟨rfl, trivial⟩ (zM _)
    rw [take_snoc 0 (by omega), take_snoc 0 (by omega), hno, hc]
  · rw [(take_full hk hc).1, show k = ys.length by omega, List.take_length] at hno
    exact Eq.symm (decide_eq_true hno)
theorem mul_bound {a n b : Int} {N : Nat} (h0 : 0 ≤ a) (h1 : a ≤ 1000000000) (hn0 : 0 ≤ n) (hn : n ≤ 1000) (_hb : b = a * n) (_ : N = 0) : 0 ≤ a * n ∧ a * n ≤ 1000000000000 :=
  ⟨Int.mul_nonneg h0 hn0, by calc a * n ≤ 1000000000 * n := Int.mul_le_mul_of_nonneg_right h1 hn0
                              _ ≤ 1000000000 * 1000 := Int.mul_le_mul_of_nonneg_left hn (by decide)
                              _ = 1000000000000 := by decide⟩
theorem idxL_le {n : Nat} {l : List Int} (hn : n ≤ 1000) (hl : l.length ≤ 3) (h : ∀ x ∈ l, 0 ≤ x ∧ x < (n : Int)) : 0 ≤ idxL n l ∧ idxL n l ≤ 1000000000 := by
  obtain ⟨h1, h2⟩ := idxL_bound l h
  have := pow_le3 hn hl
  omega
theorem getD_at {l : List Int} {i : Nat} (h : i < l.length) : l.getD i 0 ∈ l := by
  rw [List.getD_eq_getElem?_getD, List.getElem?_eq_getElem h]; exact List.getElem_mem _
theorem drop_cons {α : Type} {l : List α} {i : Nat} (d : α) (h : i < l.length) : l.drop i = l.getD i d :: l.drop (i + 1) := by
  rw [List.drop_eq_getElem_cons h, List.getD_eq_getElem?_getD, List.getElem?_eq_getElem h]; rfl
def lenOk (T : List (List Int)) : Prop := T.length ≤ 1048576 ∧ ∀ t ∈ T, t.length ≤ 1048576
theorem lenOk.at {T : List (List Int)} (h : lenOk T) {i : Nat} (hi : i < T.length) : (T.getD i []).length ≤ 1048576 := by
  rw [List.getD_eq_getElem?_getD, List.getElem?_eq_getElem hi]; exact h.2 _ (List.getElem_mem _)
def prjL (n k place : Nat) : List Int := (List.range (n ^ k)).map fun i => (argsL n k i).getD place 0
theorem range_snoc {α : Type} (f : Nat → α) (i : Nat) : (List.range (i + 1)).map f = (List.range i).map f ++ [f i] := by rw [List.range_succ, List.map_append]; rfl
def rowAt (ts : List (List Int)) (i : Nat) : List Int := ts.map fun t => t.getD i 0
def cmpL (n : Int) (f : List Int) (ts : List (List Int)) (size : Nat) : List Int := (List.range size).map fun i => f.getD (idxL n (rowAt ts i)).toNat 0
def tabsOk (n size : Nat) (ts : List (List Int)) : Prop := ∀ t ∈ ts, t.length = size ∧ ∀ x ∈ t, 0 ≤ x ∧ x < (n : Int)
theorem tabsOk.row {n size i : Nat} {ts : List (List Int)} (h : tabsOk n size ts) (hi : i < size) : ∀ x ∈ rowAt ts i, 0 ≤ x ∧ x < (n : Int) := fun x hx => by
  obtain ⟨t, ht, rfl⟩ := List.mem_map.1 hx
  obtain ⟨h1, h2⟩ := h t ht
  exact h2 _ (getD_at (by omega))
end Go.Proofs.Ytkdagmbgjddopaa
/- The layer: drawn regions whose effects leave to each operation what it reads. -/
namespace Go.Pv
open Go
attribute [local semireducible] Go.Pv.Goal Go.Pv.Ops Go.Pv.PStep Go.Pv.EStep Go.Pv.KRets Go.Pv.PCalls Go.Pv.OpsG
section
variable {P : Program} {ops : Array Oper} {U : List Nat} {V : List (Nat × Nat)} {K : St → Prop} {H : List Nat → List HO → Prop}
theorem ZM.comm2 {H H' : List HO → Prop} {oi oj : Oper} {S : St} {qi qj : PV} {U' : List Nat} (hap : oi.apart ops oj = true) (hi : ZM P ops U H oi S qi) (hj : ZM P ops U' H' oj (S.put oi.dst qi) qj) :
    ZM P ops U' H' oj S qj ∧ ZM P ops U H oi (S.put oj.dst qj) qi ∧ (S.put oi.dst qi).put oj.dst qj = (S.put oj.dst qj).put oi.dst qi := by
  obtain ⟨h1, h2, h3⟩ := Oper.apart_spec hap
  have evj : ∀ y ∈ oj.op.operands, (S.put oi.dst qi).ev y = S.ev y := fun y hy => S.ev_put _ _ y fun t ht e => h1 t ht (mem_looksAt_op (e ▸ hy))
  have evi : ∀ y ∈ oi.op.operands, (S.put oj.dst qj).ev y = S.ev y := fun y hy => S.ev_put _ _ y fun t ht e => h3 t ht (mem_looksAt_op (e ▸ hy))
  refine ⟨?_, ?_, S.put_comm qi qj h2⟩
  · cases hj with
    | pure hg h hq ho => exact .pure (guardS_put h1 ▸ hg) (fun hp hH => (h hp hH).congr evj) hq (fun y hy => evj y hy ▸ ho y hy)
    | skip hg => exact .skip (guardS_put h1 ▸ hg)
  · cases hi with
    | pure hg h hq ho => exact .pure ((guardS_put h3).symm ▸ hg) (fun hp hH => (h hp hH).congr fun y hy => (evi y hy).symm) hq (fun y hy => (evi y hy).symm ▸ ho y hy)
    | skip hg => exact .skip ((guardS_put h3).symm ▸ hg)

def keepsU (V : List (Nat × Nat)) (H : List Nat → List HO → Prop) (i : Nat) (hp hp' : List HO) : Prop := ∀ U, (∀ n, (i, n) ∈ V → n ∈ U) → FIN ∉ U → H U hp → H U hp'
def aStU (P : Program) (ops : Array Oper) (V : List (Nat × Nat)) (H : List Nat → List HO → Prop) (i : Nat) (K : St → Prop) (S : St) : Prop :=
  match ops[i]? with
  | none => K S
  | some o => (∃ q U, ZM P ops U (H U) o S q ∧ H U S.hp ∧ K (S.put o.dst q)) ∨ (guardS ops S.fr o = some true ∧ ∃ n hp' r, inVo V i n ∧ keepsU V H i S.hp hp' ∧ JStep P o S.ev S.hp n hp' r ∧ K (appJ S o n hp' r))
def aAnyU (P : Program) (ops : Array Oper) (V : List (Nat × Nat)) (H : List Nat → List HO → Prop) (K : St → Prop) : Nat → Array Bool → St → Prop
  | 0, listed, S => Region.ready .any ops listed = [] ∧ K S
  | n + 1, listed, S => (Region.ready .any ops listed = [] → K S) ∧ ∀ i ∈ Region.ready .any ops listed, aStU P ops V H i (aAnyU P ops V H K n (listed.setIfInBounds i true)) S

theorem wpAny_of_aAnyU {Q : Exit → Act → World → Prop} {w0 : Ini} (hK : ∀ S g ρ a w, K S → Rel w0 S g ρ a w → Q .normal a w) :
    ∀ (n : Nat) (listed : Array Bool) (S : St) (g : Ghost) (ρ : Nat → Loc) (a : Act) (w : World), aAnyU P ops V H K n listed S → Rel w0 S g ρ a w → wpAny P .any ops Q n listed a w
  | 0, _, S, g, ρ, a, w, h, hr => ⟨h.1, hK S g ρ a w h.2 hr⟩
  | n + 1, listed, S, g, ρ, a, w, h, hr => by
    refine ⟨fun h0 => hK S g ρ a w (h.1 h0) hr, fun i hi => ?_⟩
    have h1 := h.2 i hi
    unfold aStU at h1
    unfold wpOp
    split
    · rename_i ho
      simp only [ho] at h1
      exact wpAny_of_aAnyU hK n _ S g ρ a w h1 hr
    · rename_i o ho
      simp only [ho] at h1
      rcases h1 with ⟨q, _, hy, hH, h1⟩ | ⟨hg, m, hp', r, _, _, hj, h1⟩
      · cases hy with
        | pure hg hp hq hop =>
          rw [if_pos (guardS_spec hr hg)]
          left
          exact hp S.hp hH w0 g ρ w a hr.base (fun x _ => hr.ev x) Q _ fun v g' w' hx hb hv => wpAny_of_aAnyU hK n _ _ g' ρ _ w' h1 (hr.put hb hx hv o.dst)
        | skip hg =>
          rw [if_neg (by rw [guardS_spec hr hg]; simp)]
          exact wpAny_of_aAnyU hK n _ _ g ρ _ w h1 (hr.put hr.base (GExt.refl g) (.of_VR (.val undef)) o.dst)
      · rw [if_pos (guardS_spec hr hg)]
        left
        exact hj S.fr (fun _ _ => rfl) w0 g ρ a w hr Q _ fun g' ρ' a' w' _ hr' => wpAny_of_aAnyU hK n _ _ g' ρ' a' w' h1 hr'

theorem aAnyU_first {i : Nat} {oi : Oper} {qi : PV} (hi : ops[i]? = some oi) (hU : FIN ∉ U) : ∀ (fuel : Nat) (listed : Array Bool) (S : St),
    (∀ j oj, ops[j]? = some oj → j ≠ i → listed.getD j true = false → (∀ e ∈ oj.after, Region.binds .any e = true → e.on ≠ i) → oi.apart ops oj = true ∧ ∀ n, (j, n) ∈ V → n ∈ U) →
    i ∈ Region.ready .any ops listed → ZM P ops U (H U) oi S qi → H U S.hp → aAnyU P ops V H K fuel (listed.setIfInBounds i true) (S.put oi.dst qi) → aAnyU P ops V H K (fuel + 1) listed S := by
  intro fuel
  induction fuel with
  | zero =>
    intro listed S _ hr hy hH H
    refine ⟨fun h => (by rw [h] at hr; cases hr), fun j hj => ?_⟩
    by_cases hji : j = i
    · subst hji; unfold aStU; simp only [hi]; exact .inl ⟨_, _, hy, hH, H⟩
    · have := ready_mono hj hji
      rw [H.1] at this
      cases this
  | succ fuel ih =>
    intro listed S hfree hr hy hH H
    refine ⟨fun h => (by rw [h] at hr; cases hr), fun j hj => ?_⟩
    by_cases hji : j = i
    · subst hji; unfold aStU; simp only [hi]; exact .inl ⟨_, _, hy, hH, H⟩
    · have h1 := H.2 j (ready_mono hj hji)
      obtain ⟨hjun, oj, hoj, hall⟩ := mem_ready.1 hj
      have hnot : ∀ e ∈ oj.after, Region.binds .any e = true → e.on ≠ i := fun e he hb heq => by
        have h1 := hall e he hb
        have h0 := (mem_ready.1 hr).1
        rw [heq] at h1
        rcases Nat.lt_or_ge i listed.size with h' | h'
        · simp [h'] at h0 h1; rw [h0] at h1; cases h1
        · simp [Array.getElem?_eq_none h'] at h1
      have hfree' : ∀ k ok, ops[k]? = some ok → k ≠ i → (listed.setIfInBounds j true).getD k true = false →
          (∀ e ∈ ok.after, Region.binds .any e = true → e.on ≠ i) → oi.apart ops ok = true ∧ ∀ n, (k, n) ∈ V → n ∈ U := fun k ok hk hki hun hno => by
        refine hfree k ok hk hki ?_ hno
        by_cases hjk : j = k
        · subst hjk; exact hjun
        · rw [getD_set_ne true hjk] at hun; exact hun
      obtain ⟨hap, hVU⟩ := hfree j oj hoj hji hjun hnot
      unfold aStU at h1 ⊢
      simp only [hoj] at h1 ⊢
      rcases h1 with ⟨qj, Uj, hyj, hHj, hk⟩ | ⟨hg, m, hp', r, hn, hH', hjs, hk⟩
      · obtain ⟨c1, c2, c3⟩ := ZM.comm2 hap hy hyj
        rw [put_hp] at hHj
        refine .inl ⟨qj, Uj, c1, hHj, ih (listed.setIfInBounds j true) _ hfree' (ready_mono hr (Ne.symm hji)) c2 (by rw [put_hp]; exact hH) ?_⟩
        rw [Array.setIfInBounds_comm _ _ hji, ← c3]
        exact hk
      · obtain ⟨c0, c1, c2, c3⟩ := hy.commJ hap (inVo_U hn hVU) hg hjs
        rw [put_hp] at hH'
        refine .inr ⟨c0, m, hp', r, hn, hH', c1, ih (listed.setIfInBounds j true) _ hfree' (ready_mono hr (Ne.symm hji)) c2 (by unfold appJ; rw [put_hp]; exact hH' U hVU hU hH) ?_⟩
        rw [Array.setIfInBounds_comm _ _ hji, ← c3]
        exact hk

def OpsU (P : Program) (ops : Array Oper) (V : List (Nat × Nat)) (H : List Nat → List HO → Prop) (K : St → Prop) : List (Nat × Option (List Nat)) → St → Prop
  | [], S => K S
  | (i, some U) :: r, S => ∃ o q, ops[i]? = some o ∧ FIN ∉ U ∧ H U S.hp ∧ ZM P ops U (H U) o S q ∧ OpsU P ops V H K r (S.put o.dst q)
  | (i, none) :: r, S => ∃ o, ops[i]? = some o ∧ guardS ops S.fr o = some true ∧ ∃ n hp' q, inVo V i n ∧ keepsU V H i S.hp hp' ∧ JStep P o S.ev S.hp n hp' q ∧ OpsU P ops V H K r (appJ S o n hp' q)

theorem aAnyU_ord : ∀ (l : List (Nat × Option (List Nat))) (listed : Array Bool) (S : St), ordB ops V l listed = true → OpsU P ops V H K l S → aAnyU P ops V H K l.length listed S
  | [], _, _, hB, h => ⟨by simpa [ordB] using hB, h⟩
  | (i, some U) :: l, listed, S, hB, h => by
    simp only [ordB, Bool.and_eq_true] at hB
    obtain ⟨⟨⟨hr, hf⟩, hs⟩, hB'⟩ := hB
    obtain ⟨o, q, h0, hU, hH, hy, h⟩ := h
    exact aAnyU_first h0 hU l.length listed S (fun j oj h1 h2 h3 h4 => ⟨Region.free_spec h0 hf j oj h1 h2 h3 h4, standB_spec hs j oj h1 h2 h3 h4⟩) (by simpa using hr) hy hH (aAnyU_ord l _ _ hB' h)
  | (i, none) :: l, listed, S, hB, h => by
    simp only [ordB, Bool.and_eq_true] at hB
    obtain ⟨hr, hB'⟩ := hB
    have hr' : Region.ready .any ops listed = [i] := by simpa using hr
    obtain ⟨o, h0, hg, n, hp', q, hn, hH', hj, h⟩ := h
    refine ⟨fun e => (by rw [hr'] at e; cases e), fun j hjr => ?_⟩
    rw [hr', List.mem_singleton] at hjr
    subst hjr
    unfold aStU
    simp only [h0]
    exact .inr ⟨hg, n, hp', q, hn, hH', hj, aAnyU_ord l _ _ hB' h⟩

theorem g_region_drawU {id : Nat} {l : List Oper} {K : Exit → St → Prop} {S : St} (ord : List (Nat × Option (List Nat))) (V : List (Nat × Nat)) (H : List Nat → List HO → Prop) (hm : P.follows .mixedOrders = true) (hl : ord.length = l.length) (hB : ordB l.toArray V ord (Array.replicate l.length false) = true)
    (h : OpsU P l.toArray V H (K .normal) ord S) : Goal P (.region id l.toArray true) K S := fun w0 g ρ a w Q hr hQ => by
  refine wp_region_any hm (wpAny_of_aAnyU (K := K .normal) (V := V) (H := H) (fun S' g' ρ' a' w' hk hr' => hQ .normal S' g' ρ' a' w' hk hr') _ _ S g ρ a _ ?_ hr.drew)
  have := aAnyU_ord (P := P) (V := V) (H := H) (K := K .normal) ord (Array.replicate l.length false) S hB h
  rw [hl] at this
  simpa using this
end

section
variable {P : Program} {ops : Array Oper} {U : List Nat} {V : List (Nat × Nat)} {K : St → Prop} {H : List Nat → List HO → Prop} {o : Oper} {i : Nat} {r : List (Nat × Option (List Nat))} {S : St}
theorem u_nil (hk : K S) : OpsU P ops V H K [] S := hk
theorem u_pure {l : List Oper} {q : PV} (h0 : l[i]? = some o) (hg : guardS l.toArray S.fr o = some true) (h : ∀ hp, H U hp → PStep P o S.ev hp q) (hq : okU U q) (ho : ∀ y ∈ o.op.operands, okU U (S.ev y)) (hU : FIN ∉ U) (hH : H U S.hp) (hk : ∃ S', S.put o.dst q = S' ∧ OpsU P l.toArray V H K r S') : OpsU P l.toArray V H K ((i, some U) :: r) S :=
  hk.elim fun _ h' => ⟨o, q, by simpa using h0, hU, hH, .pure hg h hq ho, h'.1 ▸ h'.2⟩
theorem u_eff {l : List Oper} {n : Option Nat} {hp' : List HO} {q : PV} (h0 : l[i]? = some o) (hg : guardS l.toArray S.fr o = some true) (hn : inVo V i n) (h : JStep P o S.ev S.hp n hp' q) (hH : keepsU V H i S.hp hp') (hk : ∃ S', appJ S o n hp' q = S' ∧ OpsU P l.toArray V H K r S') : OpsU P l.toArray V H K ((i, none) :: r) S :=
  hk.elim fun _ h' => ⟨o, by simpa using h0, hg, n, hp', q, hn, hH, h, h'.1 ▸ h'.2⟩
end
end Go.Pv
