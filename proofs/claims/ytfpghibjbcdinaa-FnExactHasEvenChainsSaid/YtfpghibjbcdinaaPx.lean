/- The layer, more: an owned array is settled and goes on being appended to. -/
import Derived.Test.YtfpghibjbcdinaaPw
namespace Go.Pv
open Go
attribute [local semireducible] Go.Pv.Goal Go.Pv.Ops Go.Pv.PStep Go.Pv.EStep Go.Pv.KRets Go.Pv.PCalls Go.Pv.KRR2

section
variable {P : Program} {o : Oper} {S : St}
theorem EStep.then {S1 S2 : St} (h : EStep P o S S1) (hf : ∀ w0 g ρ a w, Rel w0 S1 g ρ a w → ∃ g', GExt g g' ∧ Rel w0 S2 g' ρ a w) : EStep P o S S2 := fun w0 g ρ a w hr Q K hK =>
  h w0 g ρ a w hr Q K fun _ ρ' a' w' hx hr' => by
    obtain ⟨g2, hx2, hr2⟩ := hf _ _ _ _ _ hr'
    exact hK g2 ρ' a' w' (hx.trans hx2) hr2

theorem upd_self (ρ : Nat → Loc) (n : Nat) : upd ρ n (ρ n) = ρ := by
  funext i
  by_cases e : i = n
  · subst e; rw [upd_same]
  · rw [upd_ne _ _ e]

theorem rel_freeze {w0 : Ini} {g : Ghost} {ρ : Nat → Loc} {a : Act} {w : World} (h : Rel w0 S g ρ a w) {n : Nat} {s : Nat} {e : TypeId} {l : List PV} (hn : S.hp[n]? = some (.arr true s e l)) :
    ∃ g', GExt g g' ∧ Rel w0 ⟨S.fr, S.hp.set n (.arr false s e l)⟩ g' ρ a w := by
  obtain ⟨cur, c, hown⟩ := h.base.own n _ hn
  have hnone : ∀ k, g (ρ n).blk k = none := fun k => by rw [hown.hg k]; simp
  have hlt : n < S.hp.length := (List.getElem?_eq_some_iff.1 hn).1
  let g' : Ghost := fun b k => if b = (ρ n).blk then (if k < l.length * s then some (cur.getD k undef) else none) else g b k
  have hx : GExt g g' := fun b k v hv => by
    show (if b = (ρ n).blk then _ else g b k) = some v
    split
    · rename_i hb; subst hb; rw [hnone k] at hv; cases hv
    · exact hv
  have hcap : l.length * s ≤ cur.size := by rw [hown.hsz]; exact Nat.mul_le_mul_right _ hown.hcap
  have ha : Agree g' w := fun b k v hv => by
    have hv' : (if b = (ρ n).blk then (if k < l.length * s then some (cur.getD k undef) else none) else g b k) = some v := hv
    split at hv'
    · rename_i hb
      subst hb
      split at hv'
      · rename_i hk
        cases hv'
        exact own_load hown.hw (by omega)
      · cases hv'
    · exact h.base.agree b k v hv'
  have hset : (S.hp.map (mapHO id)).set n (.arr false s e l) = S.hp.set n (.arr false s e l) := by rw [map_mapHO_id]
  have hat : ∀ i, i ≠ n → (S.hp.set n (.arr false s e l))[i]? = S.hp[i]? := fun i hi => List.getElem?_set_ne (Ne.symm hi)
  have hatn : (S.hp.set n (.arr false s e l))[n]? = some (.arr false s e l) := List.getElem?_set_self hlt
  have hφ : ∀ v p, VRS1 g ρ S.hp v p → VRS1 g' ρ (S.hp.set n (.arr false s e l)) v p := fun v p hv => by
    have keyH : ∀ {id}, HpV ρ S.hp v id → HpV ρ (S.hp.set n (.arr false s e l)) v id := fun {id} hh => by
      by_cases e' : id = n
      · subst e'
        exact { sl := hh.sl, arr := fun m s' e2 l' hid => (by rw [hatn] at hid; cases hid; exact hh.arr _ _ _ _ hn), grid := fun e1 e2 rows hid => (by rw [hatn] at hid; cases hid), pg := fun e1 e2 m rows hid => (by rw [hatn] at hid; cases hid) }
      · exact { sl := hh.sl, arr := fun m s' e2 l' hid => (by rw [hat _ e'] at hid; exact hh.arr _ _ _ _ hid), grid := fun e1 e2 rows hid => (by rw [hat _ e'] at hid; exact hh.grid _ _ _ hid), pg := fun e1 e2 m rows hid => (by rw [hat _ e'] at hid; exact hh.pg _ _ _ _ hid) }
    cases p with
    | hp id => exact keyH hv
    | hpv id b d => exact ⟨keyH hv.1, hv.2⟩
    | hat id i => exact hv
    | hatv id i b d => exact hv
    | gr j i =>
      refine (⟨GrV.sl hv, fun e1 e2 rows r hid hr => ?_⟩ : GrV _ _ _ _ _)
      by_cases e' : j = n
      · rw [e', hatn] at hid; cases hid
      · rw [hat _ e'] at hid; exact GrV.grid hv _ _ _ _ hid hr
    | gat id i j => exact hv
    | _ => exact VR.mono hx hv
  have hgn : ∀ k, g' (ρ n).blk k = if false = false ∧ k < l.length * s then some (cur.getD k undef) else none := fun k => by
    show (if (ρ n).blk = (ρ n).blk then _ else g _ k) = _
    rw [if_pos rfl]
    by_cases hk : k < l.length * s
    · rw [if_pos hk, if_pos ⟨rfl, hk⟩]
    · rw [if_neg hk, if_neg (fun h' => hk h'.2)]
  have hb := h.base.upd hn (x' := .arr false s e l) (ρ n) hx id (fun v p hv => by rw [upd_self, hset]; exact hφ v p hv) ha h.base.below
    (fun b k hb => by
      show (if b = (ρ n).blk then _ else g b k) = g b k
      split
      · rename_i e'; exact absurd (e' ▸ hown.hB) hb
      · rfl)
    ⟨cur, c, { hown with hv := fun i j q hi hq => (hown.hv i j q hi hq).mono hx, hg := hgn }⟩
    (fun b hb => .inl hb) (fun b _ hb => ⟨rfl, fun k => (by
      show (if b = (ρ n).blk then _ else g b k) = g b k
      split
      · rename_i e'; exact absurd e' hb
      · rfl)⟩)
  rw [upd_self, hset] at hb
  exact ⟨g', hx, ⟨hb, h.dead, h.size, fun i p hp => (h.fr i p hp).turn hφ⟩⟩

/-- A call that hands back an array of its own, which is settled at once. -/
theorem e_callRF {x : Operand} {xs : Array Operand} {tys : Array TypeId} {f : FuncId} [hf : FnT P f] {first caps args : List PV} {s : Nat} {e : TypeId} {l : List PV} {q : PV} (ho' : o.op = .call { callee := .value x, args := xs, argTypes := tys }) (h1 : S.ev x = .fn f first caps)
    (h2 : argsLe (first ++ elemsM S.hp S.ev xs.toList ++ caps) args) (hc : RCalls P f args (.arr true s e l) q) :
    EStep P o S (S.setObj S.hp.length (killH S.hp.length S.hp ++ [.arr false s e l]) o.dst (renP S.hp.length q)) := by
  refine (e_callR ho' h1 h2 rfl hc).then fun w0 g ρ a w hr => ?_
  have hk : (killH S.hp.length S.hp).length = S.hp.length := by simp [killH]
  have key : ∀ T : St, T.hp = killH S.hp.length S.hp ++ [.arr true s e l] → Rel w0 T g ρ a w → ∃ g', GExt g g' ∧ Rel w0 ⟨T.fr, killH S.hp.length S.hp ++ [.arr false s e l]⟩ g' ρ a w := fun T hT hr => by
    have hg : T.hp[S.hp.length]? = some (.arr true s e l) := by rw [hT, List.getElem?_append_right (by omega), hk]; simp
    obtain ⟨g', hx, hr'⟩ := rel_freeze hr hg
    have : T.hp.set S.hp.length (.arr false s e l) = killH S.hp.length S.hp ++ [.arr false s e l] := by
      rw [hT, List.set_append_right _ _ (by omega), hk]; simp
    rw [this] at hr'
    exact ⟨g', hx, hr'⟩
  have hset : (S.setObj S.hp.length (killH S.hp.length S.hp ++ [.arr false s e l]) o.dst (renP S.hp.length q)) = ⟨(S.setObj S.hp.length (killH S.hp.length S.hp ++ [.arr true s e l]) o.dst (renP S.hp.length q)).fr, killH S.hp.length S.hp ++ [.arr false s e l]⟩ := by
    unfold St.setObj; cases o.dst <;> rfl
  rw [hset]
  exact key _ (by unfold St.setObj; cases o.dst <;> rfl) hr
theorem krr2e {r r2 : Tmp} {ho : HO} {v v2 : Value} (id : Nat) (h : S.ev (.tmp r) = .hp id) (h2 : S.ev (.tmp r2) = .val v) (e : v = v2) (hh : HandOut S id ho) : KRR2 r r2 ho v2 .ret S := ⟨.inr rfl, id, hh, h, by rw [h2, e]⟩
theorem eB {a b : Bool} (h : a = b) : Value.bool a = .bool b := by rw [h]
end
end Go.Pv
