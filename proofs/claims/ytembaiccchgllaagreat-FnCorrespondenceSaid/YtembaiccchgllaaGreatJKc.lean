/- Plain: translated pairs, Mal'cev chains, the shortest way between two elements. -/
import Derived.Test.YtembaiccchgllaaGreatJKb
import Derived.Test.YtembaiccchgllaaGreatJZb
import Derived.Test.YtembaiccchgllaaGreatJSq
import Derived.Test.YtembaiccchgllaaGreatJPq
import Derived.Test.YtembaiccchgllaaGreatJZa
set_option linter.unusedSectionVars false
namespace Go.Proofs.YtembaiccchgllaaGreat
open Go Go.Pv Go.Proofs

inductive TrP (n : Nat) (ops : List OpD) (x y : Nat) : Nat → Nat → Prop
  | base : TrP n ops x y x y
  | sym {s t : Nat} (h : TrP n ops x y s t) : TrP n ops x y t s
  | step {s t : Nat} (h : TrP n ops x y s t) (f : OpD) (hf : f ∈ ops) (i : Nat) (hi : i < n ^ f.ar.toNat) (j : Nat) (hj : j < f.ar.toNat) (hd : digN n i j = s) : TrP n ops x y (bk f.tb i) (bk f.tb (subN n i j t))
theorem TrP.lt {n : Nat} {ops : List OpD} (ho : opsIn n ops) {x y : Nat} (hx : x < n) (hy : y < n) {s t : Nat} (h : TrP n ops x y s t) : s < n ∧ t < n := by
  induction h with
  | base => exact ⟨hx, hy⟩
  | sym _ ih => exact ⟨ih.2, ih.1⟩
  | step _ f hf i hi j hj _ ih =>
    have h := (ho f hf).2.2.2
    exact ⟨(h i hi).2, (h _ (sub_lt hi hj ih.2)).2⟩
theorem TrP.cg {n : Nat} {ops : List OpD} (ho : opsIn n ops) {x y : Nat} (hx : x < n) (hy : y < n) {r : List Int} (hr : Pt n r) (hc : Cong n ops r) (he : bk r x = bk r y) {s t : Nat} (h : TrP n ops x y s t) : bk r s = bk r t := by
  induction h with
  | base => exact he
  | sym _ ih => exact ih.symm
  | step h f hf i hi j hj hd ih =>
    obtain ⟨hs, ht⟩ := h.lt ho hx hy
    have := (cong_keeps hr).1 hc f hf i hi j hj _ _ hs ht ih
    rw [← hd, subN_self] at this
    exact this
inductive Cn (lk : Nat → Nat → Prop) (u : Nat) : Nat → Prop
  | refl : Cn lk u u
  | step {w z : Nat} (h : Cn lk u w) (hl : lk w z) : Cn lk u z
theorem Cn.trans {lk : Nat → Nat → Prop} {u v w : Nat} (h : Cn lk u v) (g : Cn lk v w) : Cn lk u w := by
  induction g with
  | refl => exact h
  | step _ hl ih => exact .step ih hl
theorem Cn.symm {lk : Nat → Nat → Prop} (hs : ∀ a b, lk a b → lk b a) {u v : Nat} (h : Cn lk u v) : Cn lk v u := by
  induction h with
  | refl => exact .refl
  | step _ hl ih => exact (Cn.step .refl (hs _ _ hl)).trans ih
/-! ### Breadth first -/
section
variable (lk : Nat → Nat → Bool) (n v : Nat)
abbrev BSt := List Nat × List Int
def BLe (a b : BSt) : Prop := (∃ l, b.1 = a.1 ++ l) ∧ ∀ s, 0 ≤ a.2.getD s 0 → s < n → b.2.getD s 0 = a.2.getD s 0
variable {lk n v}
theorem BLe.refl (a : BSt) : BLe n a a := ⟨⟨[], (List.append_nil _).symm⟩, fun _ _ _ => rfl⟩
theorem BLe.trans {a b c : BSt} (h : BLe n a b) (g : BLe n b c) : BLe n a c := by
  obtain ⟨⟨l, h1⟩, h2⟩ := h
  obtain ⟨⟨m, g1⟩, g2⟩ := g
  exact ⟨⟨l ++ m, by rw [g1, h1, List.append_assoc]⟩, fun s hs hn => by rw [g2 s (by rw [h2 s hs hn]; exact hs) hn, h2 s hs hn]⟩
theorem nodup_lt_len : ∀ {l : List Nat} {n : Nat}, l.Nodup → (∀ s ∈ l, s < n) → l.length ≤ n := fun {l n} hd h => by
  have := len_le_sub hd (m := List.range n) fun a ha => List.mem_range.2 (h a ha)
  simpa using this
end
end Go.Proofs.YtembaiccchgllaaGreat
/- Plain: lists that are partitions; translated pairs in order. -/
namespace Go.Proofs.YtembaiccchgllaaGreat
open Go Go.Pv Go.Proofs

def ptX (p : List Int) (x : Nat) : Bool := decide (0 ≤ p.getD x 0) && (decide (p.getD x 0 ≤ (x : Int)) && decide (p.getD (p.getD x 0).toNat 0 = p.getD x 0))
def ptB (n : Nat) (p : List Int) : Bool := decide (p.length = n) && (List.range n).all (ptX p)
theorem ptX_iff {p : List Int} {x : Nat} : ptX p x = true ↔ 0 ≤ p.getD x 0 ∧ p.getD x 0 ≤ (x : Int) ∧ p.getD (p.getD x 0).toNat 0 = p.getD x 0 := by
  unfold ptX; simp only [Bool.and_eq_true, decide_eq_true_eq]
theorem ptB_iff {n : Nat} {p : List Int} : ptB n p = true ↔ Pt n p := by
  unfold ptB
  rw [Bool.and_eq_true, decide_eq_true_iff, List.all_eq_true]
  constructor
  · rintro ⟨h1, h2⟩
    have h := fun x (hx : x < n) => ptX_iff.1 (h2 x (List.mem_range.2 hx))
    refine ⟨h1, fun x hx => (h x hx).1, fun x hx => ?_, fun x hx => ?_⟩
    · have := h x hx; unfold bk; omega
    · have := (h x hx).2.2; unfold bk; rw [this]
  · intro h
    refine ⟨h.len, fun x hx => ptX_iff.2 ?_⟩
    have hx := List.mem_range.1 hx
    refine ⟨h.nn x hx, ?_, ?_⟩
    · have := h.le x hx; rw [h.val hx]; omega
    · have := h.id x hx
      rw [h.val hx, Int.toNat_natCast, h.val (h.lt hx), this]
end Go.Proofs.YtembaiccchgllaaGreat
/- Walks: the reference's lattice maps, points and chains. -/

namespace Go.Proofs.YtembaiccchgllaaGreat
open Go Go.Pv Go.Proofs
set_option maxHeartbeats 32000000
set_option maxRecDepth 100000
attribute [local bitvec_to_nat] St.put St.setObj St.ev killP killA killP1 killH mapHO renP renA ren1 killG killGA killG1 krowP krowA krow1 lendP lendA lend1 unv pinP pin1 elemsM viewM viewN viewV n_set_z n_set_s n_map_c n_map_n getD_z getD_s n_toNat n_cond_t n_cond_f n_len_c n_len_n n_app_c n_app_n n_take_s n_take_z n_drop_s n_drop_z n_get_z n_get_s view viewA view1 elems Nat.zero_add Nat.add_zero Bool.not_true Bool.not_false Nat.one_ne_zero Nat.mul_one
theorem own_R (l : List Int) (hl : l.length ≤ 1048576) : RCalls Tryz.prog 206 [ints l] (.arr true 1 3 (l.map I)) (.hp 0) := by
  refine pcallsR1 Tryz.func206 rfl Tryz.ntmps206 rfl ?_
  simp only [List.length_cons, List.length_nil, Nat.reduceAdd, Nat.reduceSub, List.replicate_succ, List.replicate_zero, List.cons_append, List.nil_append]
  repeat' (first
| refine g_seq ?_
| refine zC ?_
| (refine o_go rfl ?_; (first
| refine p_p (zD rfl) ?_
| refine p_p (zA rfl) ?_
| refine p_e rfl (e_lit0 rfl (by decide)) ?_
| refine p_e rfl (e_append rfl rfl rfl rfl rfl rfl (by first | exact one_one rfl | exact one_map (fun _ => rfl) _) rfl aT aT) ?_); refine ⟨_, aB, ?_⟩)
| refine o_nil ?_
| refine krr 0 rfl (HandOut.arr rfl ?_ aS)
| refine g_ret ?_)
  rfl
end Go.Proofs.YtembaiccchgllaaGreat
/- The layer: drawn regions whose effects leave to each operation what it reads. -/
namespace Go.Pv
open Go
attribute [local semireducible] Go.Pv.Goal Go.Pv.Ops Go.Pv.PStep Go.Pv.EStep Go.Pv.KRets Go.Pv.PCalls Go.Pv.OpsG
section
variable {P : Program} {ops : Array Oper} {U : List Nat} {V : List (Nat × Nat)} {K : St → Prop} {H : List Nat → List HO → Prop}
theorem ZM.comm2 {H H' : List HO → Prop} {oi oj : Oper} {S : St} {qi qj : PV} {U' : List Nat} (hap : oi.apart ops oj = true) (hi : ZM P ops U H oi S qi) (hj : ZM P ops U' H' oj (S.put oi.dst qi) qj) :
    ZM P ops U' H' oj S qj ∧ ZM P ops U H oi (S.put oj.dst qj) qi ∧ (S.put oi.dst qi).put oj.dst qj = (S.put oj.dst qj).put oi.dst qi := by
  obtain ⟨h1, h2, h3⟩ := Oper.apart_spec hap
  have evj : ∀ y ∈ oj.op.operands, (S.put oi.dst qi).ev y = S.ev y := fun y hy => S.ev_put _ _ y fun t ht e => h1 t ht (mem_looksAt_op (e ▸ hy))
  have evi : ∀ y ∈ oi.op.operands, (S.put oj.dst qj).ev y = S.ev y := fun y hy => S.ev_put _ _ y fun t ht e => h3 t ht (mem_looksAt_op (e ▸ hy))
  refine ⟨?_, ?_, S.put_comm qi qj h2⟩
  · cases hj with
    | pure hg h hq ho => exact .pure (guardS_put h1 ▸ hg) (fun hp hH => (h hp hH).congr evj) hq (fun y hy => evj y hy ▸ ho y hy)
    | skip hg => exact .skip (guardS_put h1 ▸ hg)
  · cases hi with
    | pure hg h hq ho => exact .pure ((guardS_put h3).symm ▸ hg) (fun hp hH => (h hp hH).congr fun y hy => (evi y hy).symm) hq (fun y hy => (evi y hy).symm ▸ ho y hy)
    | skip hg => exact .skip ((guardS_put h3).symm ▸ hg)

def keepsU (V : List (Nat × Nat)) (H : List Nat → List HO → Prop) (i : Nat) (hp hp' : List HO) : Prop := ∀ U, (∀ n, (i, n) ∈ V → n ∈ U) → FIN ∉ U → H U hp → H U hp'
def aStU (P : Program) (ops : Array Oper) (V : List (Nat × Nat)) (H : List Nat → List HO → Prop) (i : Nat) (K : St → Prop) (S : St) : Prop :=
  match ops[i]? with
  | none => K S
  | some o => (∃ q U, ZM P ops U (H U) o S q ∧ H U S.hp ∧ K (S.put o.dst q)) ∨ (guardS ops S.fr o = some true ∧ ∃ n hp' r, inVo V i n ∧ keepsU V H i S.hp hp' ∧ JStep P o S.ev S.hp n hp' r ∧ K (appJ S o n hp' r))
def aAnyU (P : Program) (ops : Array Oper) (V : List (Nat × Nat)) (H : List Nat → List HO → Prop) (K : St → Prop) : Nat → Array Bool → St → Prop
  | 0, listed, S => Region.ready .any ops listed = [] ∧ K S
  | n + 1, listed, S => (Region.ready .any ops listed = [] → K S) ∧ ∀ i ∈ Region.ready .any ops listed, aStU P ops V H i (aAnyU P ops V H K n (listed.setIfInBounds i true)) S

theorem wpAny_of_aAnyU {Q : Exit → Act → World → Prop} {w0 : Ini} (hK : ∀ S g ρ a w, K S → Rel w0 S g ρ a w → Q .normal a w) :
    ∀ (n : Nat) (listed : Array Bool) (S : St) (g : Ghost) (ρ : Nat → Loc) (a : Act) (w : World), aAnyU P ops V H K n listed S → Rel w0 S g ρ a w → wpAny P .any ops Q n listed a w
  | 0, _, S, g, ρ, a, w, h, hr => ⟨h.1, hK S g ρ a w h.2 hr⟩
  | n + 1, listed, S, g, ρ, a, w, h, hr => by
    refine ⟨fun h0 => hK S g ρ a w (h.1 h0) hr, fun i hi => ?_⟩
    have h1 := h.2 i hi
    unfold aStU at h1
    unfold wpOp
    split
    · rename_i ho
      simp only [ho] at h1
      exact wpAny_of_aAnyU hK n _ S g ρ a w h1 hr
    · rename_i o ho
      simp only [ho] at h1
      rcases h1 with ⟨q, _, hy, hH, h1⟩ | ⟨hg, m, hp', r, _, _, hj, h1⟩
      · cases hy with
        | pure hg hp hq hop =>
          rw [if_pos (guardS_spec hr hg)]
          left
          exact hp S.hp hH w0 g ρ w a hr.base (fun x _ => hr.ev x) Q _ fun v g' w' hx hb hv => wpAny_of_aAnyU hK n _ _ g' ρ _ w' h1 (hr.put hb hx hv o.dst)
        | skip hg =>
          rw [if_neg (by rw [guardS_spec hr hg]; simp)]
          exact wpAny_of_aAnyU hK n _ _ g ρ _ w h1 (hr.put hr.base (GExt.refl g) (.of_VR (.val undef)) o.dst)
      · rw [if_pos (guardS_spec hr hg)]
        left
        exact hj S.fr (fun _ _ => rfl) w0 g ρ a w hr Q _ fun g' ρ' a' w' _ hr' => wpAny_of_aAnyU hK n _ _ g' ρ' a' w' h1 hr'

theorem aAnyU_first {i : Nat} {oi : Oper} {qi : PV} (hi : ops[i]? = some oi) (hU : FIN ∉ U) : ∀ (fuel : Nat) (listed : Array Bool) (S : St),
    (∀ j oj, ops[j]? = some oj → j ≠ i → listed.getD j true = false → (∀ e ∈ oj.after, Region.binds .any e = true → e.on ≠ i) → oi.apart ops oj = true ∧ ∀ n, (j, n) ∈ V → n ∈ U) →
    i ∈ Region.ready .any ops listed → ZM P ops U (H U) oi S qi → H U S.hp → aAnyU P ops V H K fuel (listed.setIfInBounds i true) (S.put oi.dst qi) → aAnyU P ops V H K (fuel + 1) listed S := by
  intro fuel
  induction fuel with
  | zero =>
    intro listed S _ hr hy hH H
    refine ⟨fun h => (by rw [h] at hr; cases hr), fun j hj => ?_⟩
    by_cases hji : j = i
    · subst hji; unfold aStU; simp only [hi]; exact .inl ⟨_, _, hy, hH, H⟩
    · have := ready_mono hj hji
      rw [H.1] at this
      cases this
  | succ fuel ih =>
    intro listed S hfree hr hy hH H
    refine ⟨fun h => (by rw [h] at hr; cases hr), fun j hj => ?_⟩
    by_cases hji : j = i
    · subst hji; unfold aStU; simp only [hi]; exact .inl ⟨_, _, hy, hH, H⟩
    · have h1 := H.2 j (ready_mono hj hji)
      obtain ⟨hjun, oj, hoj, hall⟩ := mem_ready.1 hj
      have hnot : ∀ e ∈ oj.after, Region.binds .any e = true → e.on ≠ i := fun e he hb heq => by
        have h1 := hall e he hb
        have h0 := (mem_ready.1 hr).1
        rw [heq] at h1
        rcases Nat.lt_or_ge i listed.size with h' | h'
        · simp [h'] at h0 h1; rw [h0] at h1; cases h1
        · simp [Array.getElem?_eq_none h'] at h1
      have hfree' : ∀ k ok, ops[k]? = some ok → k ≠ i → (listed.setIfInBounds j true).getD k true = false →
          (∀ e ∈ ok.after, Region.binds .any e = true → e.on ≠ i) → oi.apart ops ok = true ∧ ∀ n, (k, n) ∈ V → n ∈ U := fun k ok hk hki hun hno => by
        refine hfree k ok hk hki ?_ hno
        by_cases hjk : j = k
        · subst hjk; exact hjun
        · rw [getD_set_ne true hjk] at hun; exact hun
      obtain ⟨hap, hVU⟩ := hfree j oj hoj hji hjun hnot
      unfold aStU at h1 ⊢
      simp only [hoj] at h1 ⊢
      rcases h1 with ⟨qj, Uj, hyj, hHj, hk⟩ | ⟨hg, m, hp', r, hn, hH', hjs, hk⟩
      · obtain ⟨c1, c2, c3⟩ := ZM.comm2 hap hy hyj
        rw [put_hp] at hHj
        refine .inl ⟨qj, Uj, c1, hHj, ih (listed.setIfInBounds j true) _ hfree' (ready_mono hr (Ne.symm hji)) c2 (by rw [put_hp]; exact hH) ?_⟩
        rw [Array.setIfInBounds_comm _ _ hji, ← c3]
        exact hk
      · obtain ⟨c0, c1, c2, c3⟩ := hy.commJ hap (inVo_U hn hVU) hg hjs
        rw [put_hp] at hH'
        refine .inr ⟨c0, m, hp', r, hn, hH', c1, ih (listed.setIfInBounds j true) _ hfree' (ready_mono hr (Ne.symm hji)) c2 (by unfold appJ; rw [put_hp]; exact hH' U hVU hU hH) ?_⟩
        rw [Array.setIfInBounds_comm _ _ hji, ← c3]
        exact hk

def OpsU (P : Program) (ops : Array Oper) (V : List (Nat × Nat)) (H : List Nat → List HO → Prop) (K : St → Prop) : List (Nat × Option (List Nat)) → St → Prop
  | [], S => K S
  | (i, some U) :: r, S => ∃ o q, ops[i]? = some o ∧ FIN ∉ U ∧ H U S.hp ∧ ZM P ops U (H U) o S q ∧ OpsU P ops V H K r (S.put o.dst q)
  | (i, none) :: r, S => ∃ o, ops[i]? = some o ∧ guardS ops S.fr o = some true ∧ ∃ n hp' q, inVo V i n ∧ keepsU V H i S.hp hp' ∧ JStep P o S.ev S.hp n hp' q ∧ OpsU P ops V H K r (appJ S o n hp' q)

theorem aAnyU_ord : ∀ (l : List (Nat × Option (List Nat))) (listed : Array Bool) (S : St), ordB ops V l listed = true → OpsU P ops V H K l S → aAnyU P ops V H K l.length listed S
  | [], _, _, hB, h => ⟨by simpa [ordB] using hB, h⟩
  | (i, some U) :: l, listed, S, hB, h => by
    simp only [ordB, Bool.and_eq_true] at hB
    obtain ⟨⟨⟨hr, hf⟩, hs⟩, hB'⟩ := hB
    obtain ⟨o, q, h0, hU, hH, hy, h⟩ := h
    exact aAnyU_first h0 hU l.length listed S (fun j oj h1 h2 h3 h4 => ⟨Region.free_spec h0 hf j oj h1 h2 h3 h4, standB_spec hs j oj h1 h2 h3 h4⟩) (by simpa using hr) hy hH (aAnyU_ord l _ _ hB' h)
  | (i, none) :: l, listed, S, hB, h => by
    simp only [ordB, Bool.and_eq_true] at hB
    obtain ⟨hr, hB'⟩ := hB
    have hr' : Region.ready .any ops listed = [i] := by simpa using hr
    obtain ⟨o, h0, hg, n, hp', q, hn, hH', hj, h⟩ := h
    refine ⟨fun e => (by rw [hr'] at e; cases e), fun j hjr => ?_⟩
    rw [hr', List.mem_singleton] at hjr
    subst hjr
    unfold aStU
    simp only [h0]
    exact .inr ⟨hg, n, hp', q, hn, hH', hj, aAnyU_ord l _ _ hB' h⟩

theorem g_region_drawU {id : Nat} {l : List Oper} {K : Exit → St → Prop} {S : St} (ord : List (Nat × Option (List Nat))) (V : List (Nat × Nat)) (H : List Nat → List HO → Prop) (hm : P.follows .mixedOrders = true) (hl : ord.length = l.length) (hB : ordB l.toArray V ord (Array.replicate l.length false) = true)
    (h : OpsU P l.toArray V H (K .normal) ord S) : Goal P (.region id l.toArray true) K S := fun w0 g ρ a w Q hr hQ => by
  refine wp_region_any hm (wpAny_of_aAnyU (K := K .normal) (V := V) (H := H) (fun S' g' ρ' a' w' hk hr' => hQ .normal S' g' ρ' a' w' hk hr') _ _ S g ρ a _ ?_ hr.drew)
  have := aAnyU_ord (P := P) (V := V) (H := H) (K := K .normal) ord (Array.replicate l.length false) S hB h
  rw [hl] at this
  simpa using this
end

section
variable {P : Program} {ops : Array Oper} {U : List Nat} {V : List (Nat × Nat)} {K : St → Prop} {H : List Nat → List HO → Prop} {o : Oper} {i : Nat} {r : List (Nat × Option (List Nat))} {S : St}
theorem u_nil (hk : K S) : OpsU P ops V H K [] S := hk
theorem u_pure {l : List Oper} {q : PV} (h0 : l[i]? = some o) (hg : guardS l.toArray S.fr o = some true) (h : ∀ hp, H U hp → PStep P o S.ev hp q) (hq : okU U q) (ho : ∀ y ∈ o.op.operands, okU U (S.ev y)) (hU : FIN ∉ U) (hH : H U S.hp) (hk : ∃ S', S.put o.dst q = S' ∧ OpsU P l.toArray V H K r S') : OpsU P l.toArray V H K ((i, some U) :: r) S :=
  hk.elim fun _ h' => ⟨o, q, by simpa using h0, hU, hH, .pure hg h hq ho, h'.1 ▸ h'.2⟩
theorem u_eff {l : List Oper} {n : Option Nat} {hp' : List HO} {q : PV} (h0 : l[i]? = some o) (hg : guardS l.toArray S.fr o = some true) (hn : inVo V i n) (h : JStep P o S.ev S.hp n hp' q) (hH : keepsU V H i S.hp hp') (hk : ∃ S', appJ S o n hp' q = S' ∧ OpsU P l.toArray V H K r S') : OpsU P l.toArray V H K ((i, none) :: r) S :=
  hk.elim fun _ h' => ⟨o, by simpa using h0, hg, n, hp', q, hn, hH, h, h'.1 ▸ h'.2⟩
end
end Go.Pv
