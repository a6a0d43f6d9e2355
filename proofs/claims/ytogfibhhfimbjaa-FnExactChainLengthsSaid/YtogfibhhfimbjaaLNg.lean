/- The layer: a small region in any order, each order walked. -/
import Derived.Test.YtogfibhhfimbjaaLNe
import Derived.Test.YtogfibhhfimbjaaLNf
namespace Go.Pv
open Go
attribute [local semireducible] Go.Pv.Goal Go.Pv.Ops Go.Pv.PStep Go.Pv.EStep Go.Pv.KRets Go.Pv.PCalls Go.Pv.OpsG
section
variable {P : Program} {ops : Array Oper} {K : St → Prop}
def aAnyB (P : Program) (ops : Array Oper) (K : St → Prop) : Nat → Array Bool → St → Prop
  | 0, listed, S => Region.ready .any ops listed = [] ∧ K S
  | n + 1, listed, S => (Region.ready .any ops listed = [] → K S) ∧ ∀ i ∈ Region.ready .any ops listed, ∃ o, ops[i]? = some o ∧ guardS ops S.fr o = some true ∧ ∃ S', EStep P o S S' ∧ aAnyB P ops K n (listed.setIfInBounds i true) S'
theorem wpAny_of_aAnyB {Q : Exit → Act → World → Prop} {w0 : Ini} (hK : ∀ S g ρ a w, K S → Rel w0 S g ρ a w → Q .normal a w) :
    ∀ (n : Nat) (listed : Array Bool) (S : St) (g : Ghost) (ρ : Nat → Loc) (a : Act) (w : World), aAnyB P ops K n listed S → Rel w0 S g ρ a w → wpAny P .any ops Q n listed a w
  | 0, _, S, g, ρ, a, w, h, hr => ⟨h.1, hK S g ρ a w h.2 hr⟩
  | n + 1, listed, S, g, ρ, a, w, h, hr => by
    refine ⟨fun h0 => hK S g ρ a w (h.1 h0) hr, fun i hi => ?_⟩
    obtain ⟨o, ho, hg, S', hp, h1⟩ := h.2 i hi
    unfold wpOp
    rw [ho]
    dsimp only
    rw [if_pos (guardS_spec hr hg)]
    left
    exact hp w0 g ρ a w hr Q _ fun g' ρ' a' w' _ hr' => wpAny_of_aAnyB hK n _ S' g' ρ' a' w' h1 hr'
theorem g_region_B {id : Nat} {l : List Oper} {K : Exit → St → Prop} {S : St} (hm : P.follows .mixedOrders = true) (n : Nat) (hn : l.length = n)
    (h : aAnyB P l.toArray (K .normal) n (Array.replicate n false) S) : Goal P (.region id l.toArray true) K S := fun w0 g ρ a w Q hr hQ => by
  refine wp_region_any hm (wpAny_of_aAnyB (K := K .normal) (fun S' g' ρ' a' w' hk hr' => hQ .normal S' g' ρ' a' w' hk hr') _ _ S g ρ a _ ?_ hr.drew)
  subst hn
  simpa using h
variable {n : Nat} {listed : Array Bool} {S : St}
theorem b_1 {l : List Oper} {i : Nat} {o : Oper} {S1 : St} (hl : Region.ready .any l.toArray listed = [i]) (ho : l[i]? = some o) (hg : guardS l.toArray S.fr o = some true) (hE : EStep P o S S1) (hk : ∃ S2, S1 = S2 ∧ aAnyB P l.toArray K n (listed.setIfInBounds i true) S2) : aAnyB P l.toArray K (n + 1) listed S := by
  refine ⟨fun h => (by rw [hl] at h; cases h), fun j hj => ?_⟩
  rw [hl, List.mem_singleton] at hj
  subst hj
  obtain ⟨S2, rfl, h⟩ := hk
  exact ⟨o, by simpa using ho, hg, S1, hE, h⟩
theorem b_2 {l : List Oper} {i j : Nat} {o o' : Oper} {S1 S1' : St} (hl : Region.ready .any l.toArray listed = [i, j]) (ho : l[i]? = some o) (hg : guardS l.toArray S.fr o = some true) (hE : EStep P o S S1) (ho' : l[j]? = some o') (hg' : guardS l.toArray S.fr o' = some true) (hE' : EStep P o' S S1')
    (hk : ∃ S2, S1 = S2 ∧ aAnyB P l.toArray K n (listed.setIfInBounds i true) S2) (hk' : ∃ S2, S1' = S2 ∧ aAnyB P l.toArray K n (listed.setIfInBounds j true) S2) : aAnyB P l.toArray K (n + 1) listed S := by
  refine ⟨fun h => (by rw [hl] at h; cases h), fun m hm => ?_⟩
  rw [hl, List.mem_cons, List.mem_singleton] at hm
  rcases hm with rfl | rfl
  · obtain ⟨S2, rfl, h⟩ := hk
    exact ⟨o, by simpa using ho, hg, S1, hE, h⟩
  · obtain ⟨S2, rfl, h⟩ := hk'
    exact ⟨o', by simpa using ho', hg', S1', hE', h⟩
theorem b_end (hl : Region.ready .any ops listed = []) (hk : K S) : aAnyB P ops K 0 listed S := ⟨hl, hk⟩
theorem g_region_BJ {id : Nat} {l : List Oper} {K : Exit → St → Prop} {S S1 : St} (hm : P.follows .mixedOrders = true) (n : Nat) (hn : l.length = n)
    (h : aAnyB P l.toArray (fun T => T = S1) n (Array.replicate n false) S) (hk : K .normal S1) : Goal P (.region id l.toArray true) K S := by
  refine g_region_B hm n hn ?_
  have key : ∀ (m : Nat) (listed : Array Bool) (T : St), aAnyB P l.toArray (fun T => T = S1) m listed T → aAnyB P l.toArray (K .normal) m listed T := by
    intro m
    induction m with
    | zero => exact fun listed T h => ⟨h.1, h.2 ▸ hk⟩
    | succ m ih =>
      intro listed T h
      refine ⟨fun e => h.1 e ▸ hk, fun i hi => ?_⟩
      obtain ⟨o, h1, h2, S', h3, h4⟩ := h.2 i hi
      exact ⟨o, h1, h2, S', h3, ih _ _ h4⟩
  exact key _ _ _ h
theorem g_region_BV {id : Nat} {l : List Oper} {K : Exit → St → Prop} {S : St} (vals : List (Nat × PV)) (hps : List HO) (hm : P.follows .mixedOrders = true) (n : Nat) (hn : l.length = n)
    (h : aAnyB P l.toArray (fun T => T = ⟨setMany S.fr vals, hps⟩) n (Array.replicate n false) S) (hk : ∃ S2, St.mk (setMany S.fr vals) hps = S2 ∧ K .normal S2) : Goal P (.region id l.toArray true) K S := by
  obtain ⟨S2, rfl, hk⟩ := hk
  exact g_region_BJ hm n hn h hk
theorem l_E {o : Oper} {m : Nat} {x : HO} {q : PV} {fr : List PV} {hp : List HO} (h : LStep P o (St.mk fr hp).ev m x q) (h0 : hp[m]? = some .gone) (h1 : fr.map (killP m) = fr) (h2 : hp.map (mapHO (killP1 m)) = hp) : EStep P o ⟨fr, hp⟩ (St.put ⟨fr, hp.set m x⟩ o.dst q) :=
  h fr hp (fun _ _ => rfl) h0 ⟨h1, h2⟩
end
end Go.Pv
