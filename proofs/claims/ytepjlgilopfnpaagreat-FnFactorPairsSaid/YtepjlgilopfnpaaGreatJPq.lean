/- The layer, more: arrays that are settled, regions in any order, grids that grow. -/
import Derived.Test.YtepjlgilopfnpaaGreatJPw
set_option linter.unusedSectionVars false
namespace Go.Pv
open Go
attribute [local semireducible] Go.Pv.Goal Go.Pv.Ops Go.Pv.PStep Go.Pv.EStep Go.Pv.KRets Go.Pv.PCalls Go.Pv.KRR2

section
variable {P : Program} {o : Oper} {S : St}
theorem EStep.then {S1 S2 : St} (h : EStep P o S S1) (hf : ∀ w0 g ρ a w, Rel w0 S1 g ρ a w → ∃ g', GExt g g' ∧ Rel w0 S2 g' ρ a w) : EStep P o S S2 := fun w0 g ρ a w hr Q K hK =>
 h w0 g ρ a w hr Q K fun _ ρ' a' w' hx hr' => by
  obtain ⟨g2, hx2, hr2⟩ := hf _ _ _ _ _ hr'
  exact hK g2 ρ' a' w' (hx.trans hx2) hr2

theorem upd_self (ρ : Nat → Loc) (n : Nat) : upd ρ n (ρ n) = ρ := by
 funext i
 by_cases e : i = n
 · subst e; rw [upd_same]
 · rw [upd_ne _ _ e]

theorem rel_freeze {w0 : Ini} {g : Ghost} {ρ : Nat → Loc} {a : Act} {w : World} (h : Rel w0 S g ρ a w) {n : Nat} {s : Nat} {e : TypeId} {l : List PV} (hn : S.hp[n]? = some (.arr true s e l)) :
 ∃ g', GExt g g' ∧ Rel w0 ⟨S.fr, S.hp.set n (.arr false s e l)⟩ g' ρ a w := by
 obtain ⟨cur, c, hown⟩ := h.base.own n _ hn
 have hnone : ∀ k, g (ρ n).blk k = none := fun k => by rw [hown.hg k]; simp
 have hlt : n < S.hp.length := (List.getElem?_eq_some_iff.1 hn).1
 let g' : Ghost := fun b k => if b = (ρ n).blk then (if k < l.length * s then some (cur.getD k undef) else none) else g b k
 have hx : GExt g g' := fun b k v hv => by
  show (if b = (ρ n).blk then _ else g b k) = some v
  split
  · rename_i hb; subst hb; rw [hnone k] at hv; cases hv
  · exact hv
 have hcap : l.length * s ≤ cur.size := by rw [hown.hsz]; exact Nat.mul_le_mul_right _ hown.hcap
 have ha : Agree g' w := fun b k v hv => by
  have hv' : (if b = (ρ n).blk then (if k < l.length * s then some (cur.getD k undef) else none) else g b k) = some v := hv
  split at hv'
  · rename_i hb
    subst hb
    split at hv'
    · rename_i hk
      cases hv'
      exact own_load hown.hw (by omega)
    · cases hv'
  · exact h.base.agree b k v hv'
 have hset : (S.hp.map (mapHO id)).set n (.arr false s e l) = S.hp.set n (.arr false s e l) := by rw [map_mapHO_id]
 have hat : ∀ i, i ≠ n → (S.hp.set n (.arr false s e l))[i]? = S.hp[i]? := fun i hi => List.getElem?_set_ne (Ne.symm hi)
 have hatn : (S.hp.set n (.arr false s e l))[n]? = some (.arr false s e l) := List.getElem?_set_self hlt
 have hφ : ∀ v p, VRS1 g ρ S.hp v p → VRS1 g' ρ (S.hp.set n (.arr false s e l)) v p := fun v p hv => by
  have keyH : ∀ {id}, HpV ρ S.hp v id → HpV ρ (S.hp.set n (.arr false s e l)) v id := fun {id} hh => by
   by_cases e' : id = n
   · subst e'
     exact { sl := hh.sl, arr := fun m s' e2 l' hid => (by rw [hatn] at hid; cases hid; exact hh.arr _ _ _ _ hn), grid := fun e1 e2 rows hid => (by rw [hatn] at hid; cases hid), sg := fun e1 e2 m rows hid => (by rw [hatn] at hid; cases hid), pg := fun e1 e2 m rows hid => (by rw [hatn] at hid; cases hid), box := fun l' hid => (by rw [hatn] at hid; cases hid) }
   · exact { sl := hh.sl, arr := fun m s' e2 l' hid => (by rw [hat _ e'] at hid; exact hh.arr _ _ _ _ hid), grid := fun e1 e2 rows hid => (by rw [hat _ e'] at hid; exact hh.grid _ _ _ hid), sg := fun e1 e2 m rows hid => (by rw [hat _ e'] at hid; exact hh.sg _ _ _ _ hid), pg := fun e1 e2 m rows hid => (by rw [hat _ e'] at hid; exact hh.pg _ _ _ _ hid), box := fun l' hid => (by rw [hat _ e'] at hid; exact hh.box _ hid) }
  cases p with
  | hp id => exact keyH hv
  | hpv id b d => exact ⟨keyH hv.1, hv.2⟩
  | hat id i => exact hv
  | hatv id i b d => exact hv
  | gr j i =>
   refine (⟨GrV.sl hv, fun e1 e2 rows r hid hr => ?_, fun e1 e2 _n rows r hid hr => ?_⟩ : GrV _ _ _ _ _)
   rotate_left
   · by_cases e' : j = n
     · rw [e', hatn] at hid; cases hid
     · rw [hat _ e'] at hid; exact GrV.sg hv _ _ _ _ _ hid hr
   by_cases e' : j = n
   · rw [e', hatn] at hid; cases hid
   · rw [hat _ e'] at hid; exact GrV.grid hv _ _ _ _ hid hr
  | gat id i j => exact hv
  | _ => exact VR.mono hx hv
 have hgn : ∀ k, g' (ρ n).blk k = if false = false ∧ k < l.length * s then some (cur.getD k undef) else none := fun k => by
  show (if (ρ n).blk = (ρ n).blk then _ else g _ k) = _
  rw [if_pos rfl]
  by_cases hk : k < l.length * s
  · rw [if_pos hk, if_pos ⟨rfl, hk⟩]
  · rw [if_neg hk, if_neg (fun h' => hk h'.2)]
 have hb := h.base.upd hn (x' := .arr false s e l) (ρ n) hx id (fun v p hv => by rw [upd_self, hset]; exact hφ v p hv) ha h.base.below
  (fun b k hb => by
   show (if b = (ρ n).blk then _ else g b k) = g b k
   split
   · rename_i e'; exact absurd (e' ▸ hown.hB) hb
   · rfl)
  ⟨cur, c, { hown with hv := fun i j q hi hq => (hown.hv i j q hi hq).mono hx, hg := hgn }⟩
  (fun b hb => .inl hb) (fun b _ hb => ⟨rfl, fun k => (by
   show (if b = (ρ n).blk then _ else g b k) = g b k
   split
   · rename_i e'; exact absurd e' hb
   · rfl)⟩)
 rw [upd_self, hset] at hb
 exact ⟨g', hx, ⟨hb, h.dead, h.size, fun i p hp => (h.fr i p hp).turn hφ⟩⟩

theorem e_callRF {x : Operand} {xs : Array Operand} {tys : Array TypeId} {f : FuncId} [hf : FnT P f] {first caps args : List PV} {s : Nat} {e : TypeId} {l : List PV} {q : PV} (ho' : o.op = .call { callee := .value x, args := xs, argTypes := tys }) (h1 : S.ev x = .fn f first caps)
 (h2 : argsLe (first ++ elemsM S.hp S.ev xs.toList ++ caps) args) (hc : RCalls P f args (.arr true s e l) q) :
 EStep P o S (S.setObj S.hp.length (killH S.hp.length S.hp ++ [.arr false s e l]) o.dst (renP S.hp.length q)) := by
 refine (e_callR ho' h1 h2 rfl hc).then fun w0 g ρ a w hr => ?_
 have hk : (killH S.hp.length S.hp).length = S.hp.length := by simp [killH]
 have key : ∀ T : St, T.hp = killH S.hp.length S.hp ++ [.arr true s e l] → Rel w0 T g ρ a w → ∃ g', GExt g g' ∧ Rel w0 ⟨T.fr, killH S.hp.length S.hp ++ [.arr false s e l]⟩ g' ρ a w := fun T hT hr => by
  have hg : T.hp[S.hp.length]? = some (.arr true s e l) := by rw [hT, List.getElem?_append_right (by omega), hk]; simp
  obtain ⟨g', hx, hr'⟩ := rel_freeze hr hg
  have : T.hp.set S.hp.length (.arr false s e l) = killH S.hp.length S.hp ++ [.arr false s e l] := by
   rw [hT, List.set_append_right _ _ (by omega), hk]; simp
  rw [this] at hr'
  exact ⟨g', hx, hr'⟩
 have hset : (S.setObj S.hp.length (killH S.hp.length S.hp ++ [.arr false s e l]) o.dst (renP S.hp.length q)) = ⟨(S.setObj S.hp.length (killH S.hp.length S.hp ++ [.arr true s e l]) o.dst (renP S.hp.length q)).fr, killH S.hp.length S.hp ++ [.arr false s e l]⟩ := by
  unfold St.setObj; cases o.dst <;> rfl
 rw [hset]
 exact key _ (by unfold St.setObj; cases o.dst <;> rfl) hr
end
end Go.Pv

namespace Go.Pv
open Go
attribute [local semireducible] Go.Pv.Goal Go.Pv.Ops Go.Pv.PStep Go.Pv.EStep Go.Pv.KRets Go.Pv.PCalls Go.Pv.OpsG Go.Pv.RCalls

def NoM (i : Nat) (S : St) : Prop := S.fr.map (killP i) = S.fr ∧ S.hp.map (mapHO (killP1 i)) = S.hp
def InvU (U : List Nat) (S : St) : Prop := ∀ i ∈ U, S.hp[i]? = some .gone → NoM i S
def okU : List Nat → PV → Prop
 | [], _ => True
 | i :: U, q => killP i q = q ∧ okU U q
theorem okU_spec {q : PV} : ∀ {U : List Nat}, okU U q → ∀ i ∈ U, killP i q = q
 | [], _, i, hi => by simp at hi
 | j :: U, h, i, hi => by
  rcases List.mem_cons.1 hi with rfl | hi
  · exact h.1
  · exact okU_spec h.2 i hi
def okN (n : Nat) (q : PV) (x : HO) : List Nat → Prop
 | [] => True
 | i :: U => (i = n ∨ (killP i q = q ∧ mapHO (killP1 i) x = x)) ∧ okN n q x U
theorem okN_spec {n : Nat} {q : PV} {x : HO} : ∀ {U : List Nat}, okN n q x U → ∀ i ∈ U, i ≠ n → killP i q = q ∧ mapHO (killP1 i) x = x
 | [], _, i, hi, _ => by simp at hi
 | j :: U, h, i, hi, hne => by
  rcases List.mem_cons.1 hi with rfl | hi
  · rcases h.1 with h' | h'
    · exact absurd h' hne
    · exact h'
  · exact okN_spec h.2 i hi hne
def LStep (P : Program) (o : Oper) (ev : Operand → PV) (n : Nat) (x : HO) (q : PV) : Prop :=
 ∀ (fr : List PV) (hp : List HO), (∀ y ∈ o.op.operands, (St.mk fr hp).ev y = ev y) → hp[n]? = some .gone → NoM n ⟨fr, hp⟩ → EStep P o ⟨fr, hp⟩ (St.put ⟨fr, hp.set n x⟩ o.dst q)

def okU2 (S : St) (o : Oper) : List Nat → PV → Prop
 | [], _ => True
 | i :: U, q => (killP i q = q ∨ ∃ y ∈ o.op.operands, killP i (S.ev y) ≠ S.ev y) ∧ okU2 S o U q
theorem okU2_spec {S : St} {o : Oper} {q : PV} : ∀ {U : List Nat}, okU2 S o U q → ∀ i ∈ U, killP i q = q ∨ ∃ y ∈ o.op.operands, killP i (S.ev y) ≠ S.ev y
 | [], _, i, hi => by simp at hi
 | j :: U, h, i, hi => by
  rcases List.mem_cons.1 hi with rfl | hi
  · exact h.1
  · exact okU2_spec h.2 i hi
theorem okU2_ev {S T : St} {o : Oper} {q : PV} (he : ∀ y ∈ o.op.operands, S.ev y = T.ev y) : ∀ {U : List Nat}, okU2 S o U q → okU2 T o U q
 | [], h => h
 | i :: U, h => ⟨h.1.imp id fun ⟨y, hy, hn⟩ => ⟨y, hy, by rw [← he y hy]; exact hn⟩, okU2_ev he h.2⟩
theorem NoM.ev {i : Nat} {S : St} (h : NoM i S) (y : Operand) : killP i (S.ev y) = S.ev y := by
 cases y with
 | tmp t =>
  have h1 := congrArg (fun l => l.getD t (.val undef)) h.1
  simp only [St.ev, List.getD_eq_getElem?_getD, List.getElem?_map] at h1 ⊢
  cases hf : S.fr[t]? with
  | none => rfl
  | some q => 
   have h2 := congrArg (fun l => l[t]?) h.1
   simp only [List.getElem?_map, hf, Option.map_some, Option.some.injEq] at h2
   exact h2
 | _ => rfl
inductive YX (P : Program) (ops : Array Oper) (U : List Nat) (o : Oper) (S : St) : Option (Nat × HO) → PV → Prop
 | pure {q : PV} (hg : guardS ops S.fr o = some true) (h : ∀ hp, PStep P o S.ev hp q) (hq : okU U q) : YX P ops U o S none q
 | eff {n : Nat} {x : HO} {q : PV} (hg : guardS ops S.fr o = some true) (h : LStep P o S.ev n x q) (h0 : S.hp[n]? = some .gone) (hx : x ≠ .gone) (hn : n ∈ U) (hq : okN n q x U) : YX P ops U o S (some (n, x)) q
 | skip (hg : guardS ops S.fr o = some false) : YX P ops U o S none (.val undef)
 | pure2 {q : PV} (hg : guardS ops S.fr o = some true) (h : ∀ hp, PStep P o S.ev hp q) (hq : okU2 S o U q) : YX P ops U o S none q

def hpC (hp : List HO) : Option (Nat × HO) → List HO
 | none => hp
 | some (n, x) => hp.set n x
def appC (S : St) (o : Oper) (e : Option (Nat × HO)) (q : PV) : St := St.put ⟨S.fr, hpC S.hp e⟩ o.dst q

section
variable {P : Program} {ops : Array Oper} {U : List Nat} {K : St → Prop}
theorem appC_fr (S : St) (o : Oper) (e : Option (Nat × HO)) (q : PV) : (appC S o e q).fr = (S.put o.dst q).fr := by unfold appC; cases o.dst <;> rfl
theorem appC_hp (S : St) (o : Oper) (e : Option (Nat × HO)) (q : PV) : (appC S o e q).hp = hpC S.hp e := by unfold appC; cases o.dst <;> rfl
theorem ev_fr {S T : St} (h : S.fr = T.fr) (y : Operand) : S.ev y = T.ev y := by cases y <;> simp only [St.ev, h]
theorem appC_ev {S : St} {o o' : Oper} {e : Option (Nat × HO)} {q : PV} (hd : ∀ t, o.dst = some t → t ∉ o'.looksAt ops) {y : Operand} (hy : y ∈ o'.op.operands) : (appC S o e q).ev y = S.ev y := by
 rw [ev_fr (appC_fr S o e q), S.ev_put o.dst q y fun t ht e' => hd t ht (mem_looksAt_op (e' ▸ hy))]
theorem appC_guard {S : St} {o o' : Oper} {e : Option (Nat × HO)} {q : PV} (hd : ∀ t, o.dst = some t → t ∉ o'.looksAt ops) : guardS ops (appC S o e q).fr o' = guardS ops S.fr o' := by
 rw [appC_fr, guardS_put hd]
theorem LStep.congr {o : Oper} {ev ev' : Operand → PV} {n : Nat} {x : HO} {q : PV} (h : ∀ y ∈ o.op.operands, ev y = ev' y) (hl : LStep P o ev n x q) : LStep P o ev' n x q :=
 fun fr hp hy h0 hn => hl fr hp (fun y hm => (hy y hm).trans (h y hm).symm) h0 hn
theorem hpC_at {hp : List HO} {e : Option (Nat × HO)} {n : Nat} (hne : ∀ m x, e = some (m, x) → m ≠ n) : (hpC hp e)[n]? = hp[n]? := by
 cases e with
 | none => rfl
 | some p => obtain ⟨m, x⟩ := p; exact List.getElem?_set_ne (hne m x rfl)

theorem YX.comm {oi oj : Oper} {S : St} {ei ej : Option (Nat × HO)} {qi qj : PV} (hap : oi.apart ops oj = true) (hi : YX P ops U oi S ei qi) (hj : YX P ops U oj (appC S oi ei qi) ej qj) :
 YX P ops U oj S ej qj ∧ YX P ops U oi (appC S oj ej qj) ei qi ∧ appC (appC S oi ei qi) oj ej qj = appC (appC S oj ej qj) oi ei qi := by
 obtain ⟨h1, h2, h3⟩ := Oper.apart_spec hap
 have gj : guardS ops (appC S oi ei qi).fr oj = guardS ops S.fr oj := appC_guard h1
 have gi : ∀ e q, guardS ops (appC S oj e q).fr oi = guardS ops S.fr oi := fun e q => appC_guard h3
 have evj : ∀ y ∈ oj.op.operands, (appC S oi ei qi).ev y = S.ev y := fun y hy => appC_ev h1 hy
 have evi : ∀ e q, ∀ y ∈ oi.op.operands, (appC S oj e q).ev y = S.ev y := fun e q y hy => appC_ev h3 hy
 -- the two objects are different ones
 have apart : ∀ m x n y, ei = some (m, x) → ej = some (n, y) → m ≠ n := fun m x n y e1 e2 e => by
  subst e
  cases hi with
  | eff hg h h0 hx hn hq =>
   cases e1
   cases hj with
   | eff hg' h' h0' hx' hn' hq' =>
    cases e2
    rw [appC_hp] at h0'
    have hlt : m < S.hp.length := (List.getElem?_eq_some_iff.1 h0).1
    have : (hpC S.hp (some (m, x)))[m]? = some x := List.getElem?_set_self hlt
    rw [this] at h0'
    exact hx (by simpa using h0')
   | _ => cases e2
  | _ => cases e1
 refine ⟨?_, ?_, ?_⟩
 · cases hj with
   | pure hg h hq => exact .pure (gj ▸ hg) (fun hp => (h hp).congr evj) hq
   | pure2 hg h hq => exact .pure2 (gj ▸ hg) (fun hp => (h hp).congr evj) (okU2_ev evj hq)
   | skip hg => exact .skip (gj ▸ hg)
   | eff hg h h0 hx hn hq =>
    refine .eff (gj ▸ hg) (h.congr evj) ?_ hx hn hq
    rw [appC_hp, hpC_at (fun m x e => apart m x _ _ e rfl)] at h0
    exact h0
 · cases hi with
   | pure hg h hq => exact .pure ((gi _ _).symm ▸ hg) (fun hp => (h hp).congr fun y hy => (evi _ _ y hy).symm) hq
   | pure2 hg h hq => exact .pure2 ((gi _ _).symm ▸ hg) (fun hp => (h hp).congr fun y hy => (evi _ _ y hy).symm) (okU2_ev (fun y hy => (evi _ _ y hy).symm) hq)
   | skip hg => exact .skip ((gi _ _).symm ▸ hg)
   | eff hg h h0 hx hn hq =>
    refine .eff ((gi _ _).symm ▸ hg) (h.congr fun y hy => (evi _ _ y hy).symm) ?_ hx hn hq
    rw [appC_hp, hpC_at (fun m x e e' => apart _ _ m x rfl e e'.symm)]
    exact h0
 · have hfr : (appC (appC S oi ei qi) oj ej qj).fr = (appC (appC S oj ej qj) oi ei qi).fr := by
    have c := S.put_comm (x := oi.dst) (y := oj.dst) qi qj h2
    have f1 : ∀ (A B : St) (d : Option Tmp) (q : PV), A.fr = B.fr → (A.put d q).fr = (B.put d q).fr := fun A B d q h => by cases d <;> simp [St.put, h]
    rw [appC_fr, appC_fr, f1 _ _ oj.dst qj (appC_fr S oi ei qi), f1 _ _ oi.dst qi (appC_fr S oj ej qj), c]
   have hhp : (appC (appC S oi ei qi) oj ej qj).hp = (appC (appC S oj ej qj) oi ei qi).hp := by
    rw [appC_hp, appC_hp, appC_hp, appC_hp]
    cases ei with
    | none => rfl
    | some p =>
     obtain ⟨m, x⟩ := p
     cases ej with
     | none => rfl
     | some p' => obtain ⟨n, y⟩ := p'; exact List.set_comm _ _ (apart m x n y rfl rfl)
   revert hfr hhp
   generalize appC (appC S oi ei qi) oj ej qj = A
   generalize appC (appC S oj ej qj) oi ei qi = B
   intro h h'
   cases A; cases B; simp_all

theorem InvU.app {o : Oper} {S : St} {e : Option (Nat × HO)} {q : PV} (hI : InvU U S) (hy : YX P ops U o S e q) : InvU U (appC S o e q) := by
 intro i hiU hg
 have fr : ∀ (T : St), T.fr.map (killP i) = T.fr → killP i q = q → ((T.put o.dst q).fr).map (killP i) = (T.put o.dst q).fr := fun T h hq => by
  cases hd : o.dst with
  | none => simpa [St.put, hd] using h
  | some d => simp only [St.put]; rw [List.map_set, h, hq]
 rw [appC_hp] at hg
 refine ⟨?_, ?_⟩
 · rw [appC_fr]
   cases hy with
   | pure hg' h hq => exact fr S (hI i hiU hg).1 (okU_spec hq i hiU)
   | pure2 hg' h hq =>
    have hN : NoM i S := hI i hiU hg
    exact fr S hN.1 ((okU2_spec hq i hiU).elim id fun ⟨y, _, hn⟩ => absurd (hN.ev y) hn)
   | skip hg' => exact fr S (hI i hiU hg).1 rfl
   | eff hg' h h0 hx hn hq =>
    rename_i n x
    have hne : i ≠ n := fun e' => by
     subst e'
     have hlt : i < S.hp.length := (List.getElem?_eq_some_iff.1 h0).1
     have : (hpC S.hp (some (i, x)))[i]? = some x := List.getElem?_set_self hlt
     rw [this] at hg
     exact hx (by simpa using hg)
    rw [hpC_at (fun m y e' e2 => by cases e'; exact hne e2.symm)] at hg
    exact fr S (hI i hiU hg).1 (okN_spec hq i hiU hne).1
 · rw [appC_hp]
   cases hy with
   | pure hg' h hq => exact (hI i hiU hg).2
   | pure2 hg' h hq => exact (hI i hiU hg).2
   | skip hg' => exact (hI i hiU hg).2
   | eff hg' h h0 hx hn hq =>
    rename_i n x
    have hne : i ≠ n := fun e' => by
     subst e'
     have hlt : i < S.hp.length := (List.getElem?_eq_some_iff.1 h0).1
     have : (hpC S.hp (some (i, x)))[i]? = some x := List.getElem?_set_self hlt
     rw [this] at hg
     exact hx (by simpa using hg)
    rw [hpC_at (fun m y e' e2 => by cases e'; exact hne e2.symm)] at hg
    show (S.hp.set n x).map _ = S.hp.set n x
    rw [List.map_set, (hI i hiU hg).2, (okN_spec hq i hiU hne).2]

theorem hpLe_gones (h gs : List HO) (hgs : ∀ x ∈ gs, x = .gone) : hpLe h (h ++ gs) := fun id ho hid => by
 rcases Nat.lt_or_ge id h.length with hlt | hge
 · rw [List.getElem?_append_left hlt] at hid; exact .inr hid
 · rw [List.getElem?_append_right hge] at hid
   exact .inl (hgs _ (List.mem_of_getElem? hid))
end

/-! ### The steps -/
section
variable {P : Program} {ops : Array Oper} {U : List Nat} {K : St → Prop} {o : Oper} {r : List Oper} {k : Nat} {S : St}
theorem e_of_p {q : PV} (h : PStep P o S.ev S.hp q) : EStep P o S (S.put o.dst q) := fun w0 g ρ a w hr Q _K hK =>
 h w0 g ρ w a hr.base (fun x _ => hr.ev x) Q _ fun _v g' w' hx hb hv => hK g' ρ _ w' hx (hr.put hb hx hv o.dst)

theorem LStep.freeze {ev : Operand → PV} {n s : Nat} {e : TypeId} {l : List PV} {q : PV} (h : LStep P o ev n (.arr true s e l) q) : LStep P o ev n (.arr false s e l) q := fun fr hp hy h0 hN => by
 have hlt : n < hp.length := (List.getElem?_eq_some_iff.1 h0).1
 refine (h fr hp hy h0 hN).then fun w0 g ρ a w hr => ?_
 have hg : (St.put ⟨fr, hp.set n (.arr true s e l)⟩ o.dst q).hp[n]? = some (.arr true s e l) := by
  cases o.dst <;> exact List.getElem?_set_self hlt
 obtain ⟨g', hx, hr'⟩ := rel_freeze hr hg
 refine ⟨g', hx, ?_⟩
 have : (⟨(St.put ⟨fr, hp.set n (.arr true s e l)⟩ o.dst q).fr, (St.put ⟨fr, hp.set n (.arr true s e l)⟩ o.dst q).hp.set n (.arr false s e l)⟩ : St) = St.put ⟨fr, hp.set n (.arr false s e l)⟩ o.dst q := by
  cases o.dst <;> simp [St.put, List.set_set]
 rw [this] at hr'
 exact hr'
end
end Go.Pv

namespace Go.Pv
open Go
attribute [local semireducible] Go.Pv.Goal Go.Pv.Ops Go.Pv.PStep Go.Pv.EStep Go.Pv.KRets Go.Pv.PCalls Go.Pv.OpsG

def killO : Option Nat → List PV → List PV
 | none, fr => fr
 | some n, fr => fr.map (killP n)
def appJ (S : St) (o : Oper) (n : Option Nat) (hp' : List HO) (r : PV) : St := St.put ⟨killO n S.fr, hp'⟩ o.dst r
def JStep (P : Program) (o : Oper) (ev : Operand → PV) (hp : List HO) (n : Option Nat) (hp' : List HO) (r : PV) : Prop :=
 ∀ fr : List PV, (∀ y ∈ o.op.operands, (St.mk fr hp).ev y = ev y) → EStep P o ⟨fr, hp⟩ (St.put ⟨killO n fr, hp'⟩ o.dst r)

inductive YM (P : Program) (ops : Array Oper) (U : List Nat) (o : Oper) (S : St) : PV → Prop
 | pure {q : PV} (hg : guardS ops S.fr o = some true) (h : ∀ hp, PStep P o S.ev hp q) (hq : okU U q) (ho : ∀ y ∈ o.op.operands, okU U (S.ev y)) : YM P ops U o S q
 | skip (hg : guardS ops S.fr o = some false) : YM P ops U o S (.val undef)
theorem YM.ok {P : Program} {ops : Array Oper} {U : List Nat} {o : Oper} {S : St} {q : PV} (h : YM P ops U o S q) : ∀ i ∈ U, killP i q = q := by
 cases h with
 | pure hg h hq ho => exact okU_spec hq
 | skip hg => exact fun i _ => rfl
def inU (U : List Nat) : Option Nat → Prop
 | none => True
 | some n => n ∈ U

def inV : List (Nat × Nat) → Nat → Nat → Prop
 | [], _, _ => False
 | (j, m) :: l, i, n => (j = i ∧ m = n) ∨ inV l i n
def inVo (V : List (Nat × Nat)) (i : Nat) : Option Nat → Prop
 | none => True
 | some n => inV V i n
theorem inV_mem {V : List (Nat × Nat)} {i n : Nat} : inV V i n → (i, n) ∈ V := by
 induction V with
 | nil => intro h; exact h.elim
 | cons p V ih =>
  obtain ⟨j, m⟩ := p
  rintro (⟨rfl, rfl⟩ | h)
  · simp
  · exact List.mem_cons_of_mem _ (ih h)
theorem inVo_U {V : List (Nat × Nat)} {U : List Nat} {i : Nat} {n : Option Nat} (h : inVo V i n) (hs : ∀ n, (i, n) ∈ V → n ∈ U) : inU U n := by
 cases n with
 | none => trivial
 | some n => exact hs n (inV_mem h)

section
variable {P : Program} {ops : Array Oper} {U : List Nat} {V : List (Nat × Nat)} {K : St → Prop}
theorem guard_kill {fr : List PV} {o : Oper} (n : Nat) : guardS ops (fr.map (killP n)) o = guardS ops fr o := by
 unfold guardS
 cases hg : o.guard with
 | none => rfl
 | some p =>
  obtain ⟨j, want⟩ := p
  simp only []
  cases hj : (ops[j]?).bind (·.dst) with
  | none => rfl
  | some d =>
   simp only [List.getElem?_map]
   cases hd : fr[d]? with
   | none => rfl
   | some p =>
    simp only [Option.map_some]
    cases p with
    | hp i => simp only [killP, killP1]; cases (i == n) <;> rfl
    | hat i k => simp only [killP, killP1]; cases (i == n) <;> rfl
    | gr i k => simp only [killP, killP1]; cases (i == n) <;> rfl
    | gat i k m => simp only [killP, killP1]; cases (i == n) <;> rfl
    | hpv i k m => simp only [killP, killP1]; cases (i == n) <;> rfl
    | hatv i k m l => simp only [killP, killP1]; cases (i == n) <;> rfl
    | _ => rfl
theorem guard_killO {fr : List PV} {o : Oper} (n : Option Nat) : guardS ops (killO n fr) o = guardS ops fr o := by
 cases n with
 | none => rfl
 | some n => exact guard_kill n
theorem ev_kill (fr : List PV) (hp hp' : List HO) (n : Nat) (y : Operand) : (St.mk (fr.map (killP n)) hp').ev y = killP n ((St.mk fr hp).ev y) := by
 cases y with
 | tmp t =>
  simp only [St.ev, List.getD_eq_getElem?_getD, List.getElem?_map]
  cases fr[t]? <;> rfl
 | _ => rfl
theorem ev_killO {fr : List PV} {hp hp' : List HO} {n : Option Nat} (hn : inU U n) {y : Operand} (h : okU U ((St.mk fr hp).ev y)) : (St.mk (killO n fr) hp').ev y = (St.mk fr hp).ev y := by
 cases n with
 | none => exact ev_fr rfl y
 | some n => exact (ev_kill fr hp hp' n y).trans (okU_spec h n hn)
theorem killO_set {fr : List PV} {n : Option Nat} (hn : inU U n) {d : Nat} {q : PV} (hq : ∀ i ∈ U, killP i q = q) : killO n (fr.set d q) = (killO n fr).set d q := by
 cases n with
 | none => rfl
 | some n => simp only [killO, List.map_set]; rw [hq n hn]
theorem put_killO {fr : List PV} {hp hp' : List HO} {n : Option Nat} (hn : inU U n) {d : Option Tmp} {q : PV} (hq : ∀ i ∈ U, killP i q = q) : (St.mk (killO n (St.put ⟨fr, hp⟩ d q).fr) hp') = St.put ⟨killO n fr, hp'⟩ d q := by
 cases d with
 | none => rfl
 | some d => simp only [St.put]; rw [killO_set hn hq]
theorem put_hp (S : St) (d : Option Tmp) (q : PV) : (S.put d q).hp = S.hp := by cases d <;> rfl

theorem YM.comm {oi oj : Oper} {S : St} {qi qj : PV} {U' : List Nat} (hap : oi.apart ops oj = true) (hi : YM P ops U oi S qi) (hj : YM P ops U' oj (S.put oi.dst qi) qj) :
 YM P ops U' oj S qj ∧ YM P ops U oi (S.put oj.dst qj) qi ∧ (S.put oi.dst qi).put oj.dst qj = (S.put oj.dst qj).put oi.dst qi := by
 obtain ⟨h1, h2, h3⟩ := Oper.apart_spec hap
 have evj : ∀ y ∈ oj.op.operands, (S.put oi.dst qi).ev y = S.ev y := fun y hy => S.ev_put _ _ y fun t ht e => h1 t ht (mem_looksAt_op (e ▸ hy))
 have evi : ∀ y ∈ oi.op.operands, (S.put oj.dst qj).ev y = S.ev y := fun y hy => S.ev_put _ _ y fun t ht e => h3 t ht (mem_looksAt_op (e ▸ hy))
 refine ⟨?_, ?_, S.put_comm qi qj h2⟩
 · cases hj with
   | pure hg h hq ho => exact .pure (guardS_put h1 ▸ hg) (fun hp => (h hp).congr evj) hq (fun y hy => evj y hy ▸ ho y hy)
   | skip hg => exact .skip (guardS_put h1 ▸ hg)
 · cases hi with
   | pure hg h hq ho => exact .pure ((guardS_put h3).symm ▸ hg) (fun hp => (h hp).congr fun y hy => (evi y hy).symm) hq (fun y hy => (evi y hy).symm ▸ ho y hy)
   | skip hg => exact .skip ((guardS_put h3).symm ▸ hg)

theorem YM.commJ {oi oj : Oper} {S : St} {qi r : PV} {n : Option Nat} {hp' : List HO} (hap : oi.apart ops oj = true) (hn : inU U n) (hi : YM P ops U oi S qi) (hg : guardS ops (S.put oi.dst qi).fr oj = some true) (hj : JStep P oj (S.put oi.dst qi).ev (S.put oi.dst qi).hp n hp' r) :
 guardS ops S.fr oj = some true ∧ JStep P oj S.ev S.hp n hp' r ∧ YM P ops U oi (appJ S oj n hp' r) qi ∧ appJ (S.put oi.dst qi) oj n hp' r = (appJ S oj n hp' r).put oi.dst qi := by
 obtain ⟨h1, h2, h3⟩ := Oper.apart_spec hap
 have evj : ∀ y ∈ oj.op.operands, (S.put oi.dst qi).ev y = S.ev y := fun y hy => S.ev_put _ _ y fun t ht e => h1 t ht (mem_looksAt_op (e ▸ hy))
 refine ⟨guardS_put h1 ▸ hg, ?_, ?_, ?_⟩
 · rw [put_hp] at hj
   exact fun fr hfr => hj fr fun y hy => (hfr y hy).trans (evj y hy).symm
 · have hgi : guardS ops (appJ S oj n hp' r).fr oi = guardS ops S.fr oi := by
    unfold appJ
    rw [guardS_put (S := ⟨killO n S.fr, hp'⟩) h3]
    exact guard_killO n
   cases hi with
   | pure hg' h hq ho =>
    have evi : ∀ y ∈ oi.op.operands, (appJ S oj n hp' r).ev y = S.ev y := fun y hy => by
     unfold appJ
     rw [St.ev_put ⟨killO n S.fr, hp'⟩ _ _ y fun t ht e => h3 t ht (mem_looksAt_op (e ▸ hy))]
     exact ev_killO (fr := S.fr) (hp := S.hp) hn (ho y hy)
    exact .pure (hgi.symm ▸ hg') (fun hp => (h hp).congr fun y hy => (evi y hy).symm) hq (fun y hy => (evi y hy).symm ▸ ho y hy)
   | skip hg' => exact .skip (hgi.symm ▸ hg')
 · unfold appJ
   rw [show (St.mk (killO n (S.put oi.dst qi).fr) hp') = St.put ⟨killO n S.fr, hp'⟩ oi.dst qi from put_killO (fr := S.fr) (hp := S.hp) hn hi.ok]
   exact St.put_comm _ qi r h2

def aStY (P : Program) (ops : Array Oper) (V : List (Nat × Nat)) (i : Nat) (K : St → Prop) (S : St) : Prop :=
 match ops[i]? with
 | none => K S
 | some o => (∃ q U, YM P ops U o S q ∧ K (S.put o.dst q)) ∨ (guardS ops S.fr o = some true ∧ ∃ n hp' r, inVo V i n ∧ JStep P o S.ev S.hp n hp' r ∧ K (appJ S o n hp' r))
def aAnyY (P : Program) (ops : Array Oper) (V : List (Nat × Nat)) (K : St → Prop) : Nat → Array Bool → St → Prop
 | 0, listed, S => Region.ready .any ops listed = [] ∧ K S
 | n + 1, listed, S => (Region.ready .any ops listed = [] → K S) ∧ ∀ i ∈ Region.ready .any ops listed, aStY P ops V i (aAnyY P ops V K n (listed.setIfInBounds i true)) S

theorem wpAny_of_aAnyY {Q : Exit → Act → World → Prop} {w0 : Ini} (hK : ∀ S g ρ a w, K S → Rel w0 S g ρ a w → Q .normal a w) :
 ∀ (n : Nat) (listed : Array Bool) (S : St) (g : Ghost) (ρ : Nat → Loc) (a : Act) (w : World), aAnyY P ops V K n listed S → Rel w0 S g ρ a w → wpAny P .any ops Q n listed a w
 | 0, _, S, g, ρ, a, w, h, hr => ⟨h.1, hK S g ρ a w h.2 hr⟩
 | n + 1, listed, S, g, ρ, a, w, h, hr => by
  refine ⟨fun h0 => hK S g ρ a w (h.1 h0) hr, fun i hi => ?_⟩
  have h1 := h.2 i hi
  unfold aStY at h1
  unfold wpOp
  split
  · rename_i ho
    simp only [ho] at h1
    exact wpAny_of_aAnyY hK n _ S g ρ a w h1 hr
  · rename_i o ho
    simp only [ho] at h1
    rcases h1 with ⟨q, _, hy, h1⟩ | ⟨hg, m, hp', r, _, hj, h1⟩
    · cases hy with
      | pure hg hp hq hop =>
       rw [if_pos (guardS_spec hr hg)]
       left
       exact hp S.hp w0 g ρ w a hr.base (fun x _ => hr.ev x) Q _ fun v g' w' hx hb hv => wpAny_of_aAnyY hK n _ _ g' ρ _ w' h1 (hr.put hb hx hv o.dst)
      | skip hg =>
       rw [if_neg (by rw [guardS_spec hr hg]; simp)]
       exact wpAny_of_aAnyY hK n _ _ g ρ _ w h1 (hr.put hr.base (GExt.refl g) (.of_VR (.val undef)) o.dst)
    · rw [if_pos (guardS_spec hr hg)]
      left
      exact hj S.fr (fun _ _ => rfl) w0 g ρ a w hr Q _ fun g' ρ' a' w' _ hr' => wpAny_of_aAnyY hK n _ _ g' ρ' a' w' h1 hr'

theorem aAnyY_first {i : Nat} {oi : Oper} {qi : PV} (hi : ops[i]? = some oi) : ∀ (fuel : Nat) (listed : Array Bool) (S : St),
 (∀ j oj, ops[j]? = some oj → j ≠ i → listed.getD j true = false → (∀ e ∈ oj.after, Region.binds .any e = true → e.on ≠ i) → oi.apart ops oj = true ∧ ∀ n, (j, n) ∈ V → n ∈ U) →
 i ∈ Region.ready .any ops listed → YM P ops U oi S qi → aAnyY P ops V K fuel (listed.setIfInBounds i true) (S.put oi.dst qi) → aAnyY P ops V K (fuel + 1) listed S := by
 intro fuel
 induction fuel with
 | zero =>
  intro listed S _ hr hy H
  refine ⟨fun h => (by rw [h] at hr; cases hr), fun j hj => ?_⟩
  by_cases hji : j = i
  · subst hji; unfold aStY; simp only [hi]; exact .inl ⟨_, _, hy, H⟩
  · have := ready_mono hj hji
    rw [H.1] at this
    cases this
 | succ fuel ih =>
  intro listed S hfree hr hy H
  refine ⟨fun h => (by rw [h] at hr; cases hr), fun j hj => ?_⟩
  by_cases hji : j = i
  · subst hji; unfold aStY; simp only [hi]; exact .inl ⟨_, _, hy, H⟩
  · have h1 := H.2 j (ready_mono hj hji)
    obtain ⟨hjun, oj, hoj, hall⟩ := mem_ready.1 hj
    have hnot : ∀ e ∈ oj.after, Region.binds .any e = true → e.on ≠ i := fun e he hb heq => by
     have h1 := hall e he hb
     have h0 := (mem_ready.1 hr).1
     rw [heq] at h1
     rcases Nat.lt_or_ge i listed.size with h' | h'
     · simp [h'] at h0 h1; rw [h0] at h1; cases h1
     · simp [Array.getElem?_eq_none h'] at h1
    have hfree' : ∀ k ok, ops[k]? = some ok → k ≠ i → (listed.setIfInBounds j true).getD k true = false →
     (∀ e ∈ ok.after, Region.binds .any e = true → e.on ≠ i) → oi.apart ops ok = true ∧ ∀ n, (k, n) ∈ V → n ∈ U := fun k ok hk hki hun hno => by
     refine hfree k ok hk hki ?_ hno
     by_cases hjk : j = k
     · subst hjk; exact hjun
     · rw [getD_set_ne true hjk] at hun; exact hun
    obtain ⟨hap, hVU⟩ := hfree j oj hoj hji hjun hnot
    unfold aStY at h1 ⊢
    simp only [hoj] at h1 ⊢
    rcases h1 with ⟨qj, Uj, hyj, hk⟩ | ⟨hg, m, hp', r, hn, hjs, hk⟩
    · obtain ⟨c1, c2, c3⟩ := hy.comm hap hyj
      refine .inl ⟨qj, Uj, c1, ih (listed.setIfInBounds j true) _ hfree' (ready_mono hr (Ne.symm hji)) c2 ?_⟩
      rw [Array.setIfInBounds_comm _ _ hji, ← c3]
      exact hk
    · obtain ⟨c0, c1, c2, c3⟩ := hy.commJ hap (inVo_U hn hVU) hg hjs
      refine .inr ⟨c0, m, hp', r, hn, c1, ih (listed.setIfInBounds j true) _ hfree' (ready_mono hr (Ne.symm hji)) c2 ?_⟩
      rw [Array.setIfInBounds_comm _ _ hji, ← c3]
      exact hk

def standB (ops : Array Oper) (V : List (Nat × Nat)) (U : List Nat) (listed : Array Bool) (i : Nat) : Bool :=
 (List.range ops.size).all fun j => j == i || listed.getD j true || (match ops[j]? with
  | some oj => oj.after.any (fun e => Region.binds .any e && e.on == i)
  | none => true) || V.all fun p => p.1 != j || U.contains p.2
theorem standB_spec {ops : Array Oper} {U : List Nat} {listed : Array Bool} {i : Nat} (h : standB ops V U listed i = true) (j : Nat) (oj : Oper) (hj : ops[j]? = some oj) (hne : j ≠ i) (hun : listed.getD j true = false)
 (hno : ∀ e ∈ oj.after, Region.binds .any e = true → e.on ≠ i) : ∀ n, (j, n) ∈ V → n ∈ U := fun n hn => by
 simp only [standB, List.all_eq_true, List.mem_range] at h
 have h1 := h j (Array.getElem?_eq_some_iff.1 hj).1
 simp only [hj, Bool.or_eq_true, beq_iff_eq, hne, false_or, hun, Bool.false_eq_true] at h1
 rcases h1 with h1 | h1
 · obtain ⟨e, he, hb⟩ := Array.any_eq_true'.1 h1
   simp only [Bool.and_eq_true, beq_iff_eq] at hb
   exact absurd hb.2 (hno e he hb.1)
 · have := List.all_eq_true.1 h1 (j, n) hn
   simpa using this

def ordB (ops : Array Oper) (V : List (Nat × Nat)) : List (Nat × Option (List Nat)) → Array Bool → Bool
 | [], listed => (Region.ready .any ops listed).isEmpty
 | (i, some U) :: r, listed => (Region.ready .any ops listed).contains i && Region.free .any ops listed i && standB ops V U listed i && ordB ops V r (listed.setIfInBounds i true)
 | (i, none) :: r, listed => Region.ready .any ops listed == [i] && ordB ops V r (listed.setIfInBounds i true)
def OpsY (P : Program) (ops : Array Oper) (V : List (Nat × Nat)) (K : St → Prop) : List (Nat × Option (List Nat)) → St → Prop
 | [], S => K S
 | (i, some U) :: r, S => ∃ o q, ops[i]? = some o ∧ YM P ops U o S q ∧ OpsY P ops V K r (S.put o.dst q)
 | (i, none) :: r, S => ∃ o, ops[i]? = some o ∧ guardS ops S.fr o = some true ∧ ∃ n hp' q, inVo V i n ∧ JStep P o S.ev S.hp n hp' q ∧ OpsY P ops V K r (appJ S o n hp' q)

theorem aAnyY_ord : ∀ (l : List (Nat × Option (List Nat))) (listed : Array Bool) (S : St), ordB ops V l listed = true → OpsY P ops V K l S → aAnyY P ops V K l.length listed S
 | [], _, _, hB, h => ⟨by simpa [ordB] using hB, h⟩
 | (i, some U) :: l, listed, S, hB, h => by
  simp only [ordB, Bool.and_eq_true] at hB
  obtain ⟨⟨⟨hr, hf⟩, hs⟩, hB'⟩ := hB
  obtain ⟨o, q, h0, hy, h⟩ := h
  exact aAnyY_first h0 l.length listed S (fun j oj h1 h2 h3 h4 => ⟨Region.free_spec h0 hf j oj h1 h2 h3 h4, standB_spec hs j oj h1 h2 h3 h4⟩) (by simpa using hr) hy (aAnyY_ord l _ _ hB' h)
 | (i, none) :: l, listed, S, hB, h => by
  simp only [ordB, Bool.and_eq_true] at hB
  obtain ⟨hr, hB'⟩ := hB
  have hr' : Region.ready .any ops listed = [i] := by simpa using hr
  obtain ⟨o, h0, hg, n, hp', q, hn, hj, h⟩ := h
  refine ⟨fun e => (by rw [hr'] at e; cases e), fun j hjr => ?_⟩
  rw [hr', List.mem_singleton] at hjr
  subst hjr
  unfold aStY
  simp only [h0]
  exact .inr ⟨hg, n, hp', q, hn, hj, aAnyY_ord l _ _ hB' h⟩

theorem g_region_drawY {id : Nat} {l : List Oper} {K : Exit → St → Prop} {S : St} (ord : List (Nat × Option (List Nat))) (V : List (Nat × Nat)) (hm : P.follows .mixedOrders = true) (hl : ord.length = l.length) (hB : ordB l.toArray V ord (Array.replicate l.length false) = true)
 (h : OpsY P l.toArray V (K .normal) ord S) : Goal P (.region id l.toArray true) K S := fun w0 g ρ a w Q hr hQ => by
 refine wp_region_any hm (wpAny_of_aAnyY (K := K .normal) (V := V) (fun S' g' ρ' a' w' hk hr' => hQ .normal S' g' ρ' a' w' hk hr') _ _ S g ρ a _ ?_ hr.drew)
 have := aAnyY_ord (P := P) (V := V) (K := K .normal) ord (Array.replicate l.length false) S hB h
 rw [hl] at this
 simpa using this
end

section
variable {P : Program} {ops : Array Oper} {U : List Nat} {V : List (Nat × Nat)} {K : St → Prop} {o : Oper} {i : Nat} {r : List (Nat × Option (List Nat))} {S : St}
theorem y_nil (hk : K S) : OpsY P ops V K [] S := hk
theorem y_pure {l : List Oper} {q : PV} (h0 : l[i]? = some o) (hg : guardS l.toArray S.fr o = some true) (h : ∀ hp, PStep P o S.ev hp q) (hq : okU U q) (ho : ∀ y ∈ o.op.operands, okU U (S.ev y)) (hk : ∃ S', S.put o.dst q = S' ∧ OpsY P l.toArray V K r S') : OpsY P l.toArray V K ((i, some U) :: r) S :=
 hk.elim fun _ h' => ⟨o, q, by simpa using h0, .pure hg h hq ho, h'.1 ▸ h'.2⟩
theorem y_eff {l : List Oper} {n : Option Nat} {hp' : List HO} {q : PV} (h0 : l[i]? = some o) (hg : guardS l.toArray S.fr o = some true) (hn : inVo V i n) (h : JStep P o S.ev S.hp n hp' q) (hk : ∃ S', appJ S o n hp' q = S' ∧ OpsY P l.toArray V K r S') : OpsY P l.toArray V K ((i, none) :: r) S :=
 hk.elim fun _ h' => ⟨o, by simpa using h0, hg, n, hp', q, hn, h, h'.1 ▸ h'.2⟩

theorem j_pure {ev : Operand → PV} {hp : List HO} {q : PV} (h : PStep P o ev hp q) : JStep P o ev hp none hp q := fun fr hfr => by
 have := e_of_p (S := ⟨fr, hp⟩) (h.congr fun y hy => (hfr y hy).symm)
 have e : St.put ⟨killO none fr, hp⟩ o.dst q = (St.mk fr hp).put o.dst q := rfl
 rw [e]; exact this
theorem j_callR {ev : Operand → PV} {hp : List HO} {x : Operand} {xs : Array Operand} {tys : Array TypeId} {f : FuncId} [hf : FnT P f] {first caps args : List PV} {ho : HO} {q : PV} (ho' : o.op = .call { callee := .value x, args := xs, argTypes := tys }) (h1 : ev x = .fn f first caps)
 (h2 : argsLe (first ++ elemsM hp ev xs.toList ++ caps) args) (hown : ownable ho = true) (hc : RCalls P f args ho q) : JStep P o ev hp (some hp.length) (killH hp.length hp ++ [ho]) (renP hp.length q) := fun fr hfr => by
 have hel : elemsM hp (St.mk fr hp).ev xs.toList = elemsM hp ev xs.toList := List.map_congr_left fun y hm => by
  rw [hfr y (by simp only [ho', Op.operands, Call.operands]; exact Array.mem_append.2 (.inr (by simpa using hm)))]
 exact e_callR (S := ⟨fr, hp⟩) ho' ((hfr x (by simp [ho', Op.operands, Call.operands])).trans h1) (by rw [show elemsM (St.mk fr hp).hp (St.mk fr hp).ev xs.toList = elemsM hp ev xs.toList from hel]; exact h2) hown hc
theorem j_append {ev : Operand → PV} {hp : List HO} {t e : TypeId} {s by_ : Nat} {zs : List Value} [ht : MkT P t e s by_ zs] {x y : Operand} {tys : Array TypeId} {id : Nat} {mt : Bool} {e' : TypeId} {l l2 : List PV} {nn : Option Bool} (ho : o.op = .call { callee := .builtin .append, args := #[x, y], argTypes := tys })
 (htys : tys = #[t, t]) (h1 : ev x = .hp id) (hh : hp[id]? = some (.arr mt s e' l)) (he : e' = e) (h2 : view hp (ev y) = .sl s nn l2) (hone : ∀ p ∈ l2, ∀ c, p.flat = some c → (c.all PV.one) = true) (hzs : zs.length = s)
 (hb : (l.length + l2.length) * by_ ≤ 140737488355328) (hm : l.length + l2.length ≤ 9223372036854775807) : JStep P o ev hp (some id) ((killH id hp).set id (.arr mt s e (l ++ l2))) (.hp id) := fun fr hfr =>
 e_append (S := ⟨fr, hp⟩) (ht := ht) ho htys ((hfr x (by simp [ho, Op.operands, Call.operands])).trans h1) hh he (by rw [show (St.mk fr hp).ev y = ev y from hfr y (by simp [ho, Op.operands, Call.operands])]; exact h2) hone hzs hb hm
end
end Go.Pv

namespace Go.Pv
open Go
attribute [local semireducible] Go.Pv.Goal Go.Pv.Ops Go.Pv.PStep Go.Pv.EStep Go.Pv.KRets Go.Pv.PCalls

section
variable {P : Program} {o : Oper} {S : St}
theorem rel_swap {w0 : Ini} {g : Ghost} {ρ : Nat → Loc} {a : Act} {w : World} (h : Rel w0 S g ρ a w) {n : Nat} {x x' : HO} (hn : S.hp[n]? = some x) (hown : ∀ hp', HOwn g ρ S.hp w w0.own x (ρ n) → HOwn g ρ hp' w w0.own x' (ρ n))
 (hf : ∀ b, foot x' (ρ n) b → foot x (ρ n) b) (hv : ∀ v hp', hp'[n]? = some x' → HpV ρ S.hp v n → HpV ρ hp' v n) (hgr : ∀ e1 e2 rows, x' = .grid e1 e2 rows → rows = []) (hsg : ∀ e1 e2 k rows, x' = .sg e1 e2 k rows → rows = [] := by intro e1 e2 k rows h; first | (cases h; done) | (cases h; rfl)) : Rel w0 ⟨S.fr, S.hp.set n x'⟩ g ρ a w := by
 have hlt : n < S.hp.length := (List.getElem?_eq_some_iff.1 hn).1
 have hset : (S.hp.map (mapHO id)).set n x' = S.hp.set n x' := by rw [map_mapHO_id]
 have hat : ∀ i, i ≠ n → (S.hp.set n x')[i]? = S.hp[i]? := fun i hi => List.getElem?_set_ne (Ne.symm hi)
 have hatn : (S.hp.set n x')[n]? = some x' := List.getElem?_set_self hlt
 have hφ : ∀ v p, VRS1 g ρ S.hp v p → VRS1 g ρ (S.hp.set n x') v p := fun v p hvp => by
  have keyH : ∀ {id}, HpV ρ S.hp v id → HpV ρ (S.hp.set n x') v id := fun {id} hh => by
   by_cases e' : id = n
   · subst e'; exact hv v _ hatn hh
   · exact { sl := hh.sl, arr := fun m s' e2 l' hid => (by rw [hat _ e'] at hid; exact hh.arr _ _ _ _ hid), grid := fun e1 e2 rows hid => (by rw [hat _ e'] at hid; exact hh.grid _ _ _ hid), sg := fun e1 e2 m rows hid => (by rw [hat _ e'] at hid; exact hh.sg _ _ _ _ hid), pg := fun e1 e2 m rows hid => (by rw [hat _ e'] at hid; exact hh.pg _ _ _ _ hid), box := fun l' hid => (by rw [hat _ e'] at hid; exact hh.box _ hid) }
  cases p with
  | hp id => exact keyH hvp
  | hpv id b d => exact ⟨keyH hvp.1, hvp.2⟩
  | hat id i => exact hvp
  | hatv id i b d => exact hvp
  | gr j i =>
   refine (⟨GrV.sl hvp, fun e1 e2 rows r hid hr => ?_, fun e1 e2 _n rows r hid hr => ?_⟩ : GrV _ _ _ _ _)
   rotate_left
   · by_cases e' : j = n
     · rw [e', hatn] at hid
       have := hsg _ _ _ _ (by simpa using hid)
       subst this
       simp at hr
     · rw [hat _ e'] at hid; exact GrV.sg hvp _ _ _ _ _ hid hr
   by_cases e' : j = n
   · rw [e', hatn] at hid
     have := hgr _ _ _ (by simpa using hid)
     subst this
     simp at hr
   · rw [hat _ e'] at hid; exact GrV.grid hvp _ _ _ _ hid hr
  | gat id i j => exact hvp
  | _ => exact hvp
 have hb := h.base.upd hn (x' := x') (ρ n) (GExt.refl g) id (fun v p hv => by rw [upd_self, hset]; exact hφ v p hv) h.base.agree h.base.below (fun _ _ _ => rfl)
  (by rw [upd_self]; exact hown _ (h.base.own n _ hn)) (fun b hb => .inl (hf b hb)) (fun b _ hb => ⟨rfl, fun _ => rfl⟩)
 rw [upd_self, hset] at hb
 exact ⟨hb, h.dead, h.size, fun i p hp => (h.fr i p hp).turn hφ⟩

theorem nil_true {g : Ghost} {ρ : Nat → Loc} {hp hp' : List HO} {w : World} {D : Nat → Bool} {s : Nat} {e : TypeId} {L : Loc} (h : HOwn g ρ hp w D (.arr false s e []) L) : HOwn g ρ hp' w D (.arr true s e []) L := by
 obtain ⟨cur, c, h⟩ := h
 exact ⟨cur, c, { h with hg := fun k => by rw [h.hg k]; simp }⟩

theorem e_lit0T {t e : TypeId} {s by_ : Nat} [ht : SlT P t e s by_] {zs : List Value} [hz : ZeroT P e zs] (ho : o.op = .buildSlice t 0 #[]) (hs : 0 < s) :
 EStep P o S (S.setObj S.hp.length (killH S.hp.length S.hp ++ [.arr true s e []]) o.dst (.hp S.hp.length)) := by
 refine (e_lit0 (ht := ht) (hz := hz) ho hs).then fun w0 g ρ a w hr => ⟨g, GExt.refl g, ?_⟩
 have hk : (killH S.hp.length S.hp).length = S.hp.length := by simp [killH]
 have key : ∀ T : St, T.hp = killH S.hp.length S.hp ++ [.arr false s e []] → Rel w0 T g ρ a w → Rel w0 ⟨T.fr, killH S.hp.length S.hp ++ [.arr true s e []]⟩ g ρ a w := fun T hT hr => by
  have hg : T.hp[S.hp.length]? = some (.arr false s e []) := by rw [hT, List.getElem?_append_right (by omega), hk]; simp
  have hr' := rel_swap hr hg (x' := .arr true s e []) (fun hp' h => nil_true h) (fun b hb => hb) (fun v hp' h' hh => { sl := hh.sl, arr := fun m s' e2 l' hid => (by rw [h'] at hid; cases hid; exact hh.arr _ _ _ _ hg), grid := fun e1 e2 rows hid => (by rw [h'] at hid; cases hid), sg := fun e1 e2 m rows hid => (by rw [h'] at hid; cases hid), pg := fun e1 e2 m rows hid => (by rw [h'] at hid; cases hid), box := fun l' hid => (by rw [h'] at hid; cases hid) }) (fun e1 e2 rows h => by cases h)
  have : T.hp.set S.hp.length (.arr true s e []) = killH S.hp.length S.hp ++ [.arr true s e []] := by
   rw [hT, List.set_append_right _ _ (by omega), hk]; simp
  rw [this] at hr'
  exact hr'
 have hset : (S.setObj S.hp.length (killH S.hp.length S.hp ++ [.arr true s e []]) o.dst (.hp S.hp.length)) = ⟨(S.setObj S.hp.length (killH S.hp.length S.hp ++ [.arr false s e []]) o.dst (.hp S.hp.length)).fr, killH S.hp.length S.hp ++ [.arr true s e []]⟩ := by
  unfold St.setObj; cases o.dst <;> rfl
 rw [hset]
 exact key _ (by unfold St.setObj; cases o.dst <;> rfl) hr
theorem rel_drop {w0 : Ini} {g : Ghost} {ρ : Nat → Loc} {a : Act} {w : World} (h : Rel w0 S g ρ a w) {k : Nat} {x : HO} (hk : S.hp[k]? = some x) : Rel w0 ⟨S.fr.map (killP k), (killH k S.hp).set k .gone⟩ g ρ a w := by
 have hh : ∀ i, i ≠ k → ((killH k S.hp).set k .gone)[i]? = (S.hp[i]?).map (mapHO (killP1 k)) := fun i hi => by
  rw [List.getElem?_set_ne (Ne.symm hi)]; simp [killH]
 have hb := h.base.upd hk (x' := .gone) (ρ k) (GExt.refl g) (killP1 k) (fun v p hv => VRS1.kill k (ρ k) (GExt.refl g) hh hv) h.base.agree h.base.below (fun _ _ _ => rfl) trivial (fun b hb => hb.elim) (fun b _ _ => ⟨rfl, fun _ => rfl⟩)
 have hr := fun i p hp => (h.fr i p hp)
 rw [upd_self] at hb
 refine ⟨hb, h.dead, by simpa using h.size, fun i p hp => ?_⟩
 simp only [List.getElem?_map, Option.map_eq_some_iff] at hp
 obtain ⟨q, hq, rfl⟩ := hp
 have := (h.fr i q hq).kill k (ρ k) (GExt.refl g) hh
 rwa [upd_self] at this

theorem run_lit1 {t e : TypeId} {by_ : Nat} (ht : SlT P t e 1 by_) {zs : List Value} (hz : ZeroT P e zs) {x : Operand} (ho : o.op = .buildSlice t 1 #[(0, x)]) {av : Operand → Value} (h1 : (av x).cells = #[av x]) (w : World) :
 ∃ cells : Array Value, (execOp av o).run P w = .ok (.value (.slice (some ⟨w.heap.size, 0, none⟩) 1 1)) (w.alloc (.cells cells e)) ∧ cells.size = 1 ∧ cells.getD 0 undef = av x := by
 obtain ⟨cells, r1, r2, r3⟩ := run_buildSlice ht hz 1 [av x] rfl (fun v hv => by simp at hv; subst hv; rw [h1]; rfl) (by omega) (by omega) #[(0, av x)] rfl w
 refine ⟨cells, ?_, by simpa using r2, ?_⟩
 · have e1 : (#[(0, x)] : Array (Nat × Operand)).map (fun p => (p.1, av p.2)) = #[(0, av x)] := by simp
   simp only [execOp, ho]
   rw [e1]
   exact run_value r1
 · have := r3 0 (av x) 0 rfl (by omega)
   simpa [h1] using this

theorem rel_gone {w0 : Ini} {g : Ghost} {ρ : Nat → Loc} {a : Act} {w : World} (h : Rel w0 S g ρ a w) (k : Nat) : Rel w0 ⟨S.fr, S.hp.set k .gone⟩ g ρ a w :=
 h.weaken ⟨frLe_refl _, fun id ho hid => by
  by_cases e : id = k
  · subst e
    rw [List.getElem?_set] at hid
    simp only [if_true] at hid
    split at hid
    · cases hid; exact .inl rfl
    · cases hid
  · rw [List.getElem?_set_ne (Ne.symm e)] at hid; exact .inr hid⟩

theorem e_lit1G {t e : TypeId} {by_ : Nat} [ht : SlT P t e 1 by_] {zs : List Value} [hz : ZeroT P e zs] {x : Operand} {k : Nat} {e2 : TypeId} {l : List PV} (ho : o.op = .buildSlice t 1 #[(0, x)]) (h2 : S.ev x = .hp k) (hk : S.hp[k]? = some (.arr true 1 e2 l)) (hone : l.all PV.one = true) :
 EStep P o S (S.setObj S.hp.length (killH S.hp.length (S.hp.set k .gone) ++ [.grid e e2 [l]]) o.dst (.hp S.hp.length)) := by
 intro w0 g ρ a w hr Q K hK
 obtain ⟨curk, ck, ok⟩ := hr.base.own k _ hk
 have ev : a.eval x = .slice (some ⟨(ρ k).blk, 0, none⟩) l.length (ρ k).cap := by have := hr.ev x; rw [h2] at this; exact HpV.arr this _ _ _ _ hk
 obtain ⟨cells, hrun, hsz, hc0⟩ := run_lit1 ht hz (av := a.eval) ho (by rw [ev]; rfl) w
 unfold Oper.wp
 rw [hrun]
 have hlen : (S.hp.set k .gone).length = S.hp.length := by simp
 have hd' := (rel_gone hr k).weaken (S' := ⟨S.fr, S.hp.set k .gone ++ [.gone]⟩) ⟨frLe_refl _, hpLe_gones _ [.gone] (by simp)⟩
 have hbl : RowKit.Below w.heap.size w (w.alloc (.cells cells e)) := (RowKit.Below.refl _ _).alloc (Nat.le_refl _) _
 have hkb : (ρ k).blk < w.heap.size := (Array.getElem?_eq_some_iff.1 ok.hw).1
 have hgn : ∀ o, g w.heap.size o = none := fun o => by
  cases hk : g w.heap.size o with
  | none => rfl
  | some v => exact absurd (hr.base.agree.lt hk) (Nat.lt_irrefl _)
 let L' : Loc := ⟨w.heap.size, 1, fun _ => (ρ k).blk, fun _ => (ρ k).cap⟩
 have hgrid : GridOwn g (w.alloc (.cells cells e)) w0.own e e2 1 [l] L' cells (fun _ => curk) :=
  { hB := Ini.own_new hr.base.below.size, hw := heap_alloc_new w _, hsz := hsz, hle := Nat.le_refl _, hcap := Nat.le_refl _, hmax := by simp [L', maxLen], hnil := fun i h1 h2 => by simp at h1; omega
    hB' := fun i hi => ok.hB
    hrow := fun i r hi => by
     have h0 : i = 0 := by have := (List.getElem?_eq_some_iff.1 hi).1; simp at this; exact this
     subst h0
     simp at hi
     subst hi
     refine ⟨hc0.trans ev, ⟨ok.hcap, ok.hmax⟩, ?_, by rw [ok.hsz, Nat.mul_one]⟩
     rw [hbl.block _ hkb]; exact ok.hw
    hv := fun i r j q hi hj => by
     have h0 : i = 0 := by have := (List.getElem?_eq_some_iff.1 hi).1; simp at this; exact this
     subst h0
     simp at hi
     subst hi
     have h1 := List.all_eq_true.1 hone q (List.mem_of_getElem? hj)
     exact ⟨h1, one_cell ok hj h1⟩
    hg := hgn
    hg' := fun i o _ => by have := ok.hg o; simpa using this
    hne := fun i _ => by show (ρ k).blk ≠ w.heap.size; omega
    hinj := fun i j hi hj _ => by simp at hi hj; omega }
 have hgone : (S.hp.set k .gone ++ [HO.gone])[S.hp.length]? = some HO.gone := by rw [List.getElem?_append_right (by omega), hlen]; simp
 have hh : ∀ i, i ≠ S.hp.length → (((S.hp.set k .gone ++ [HO.gone]).map (mapHO (killP1 S.hp.length))).set S.hp.length (.grid e e2 [l]))[i]? = ((S.hp.set k .gone ++ [HO.gone])[i]?).map (mapHO (killP1 S.hp.length)) := fun i hi => by
  rw [List.getElem?_set_ne (Ne.symm hi), List.getElem?_map]
 have hup := hd'.base.upd hgone (x' := .grid e e2 [l]) L' (GExt.refl g) (killP1 S.hp.length) (fun v p hv => VRS1.kill S.hp.length L' (GExt.refl g) hh hv) (hr.base.agree.below hbl) (hr.base.below.step hbl) (fun _ _ _ => rfl) ⟨cells, _, hgrid⟩
  (fun b hb => by
   simp only [foot] at hb
   rcases hb with hb | ⟨i, hi, hb⟩
   · right; left; rw [hb]; exact Nat.le_refl _
   · right; right
     intro j y hj hy hf
     have hb' : b = (ρ k).blk := hb
     rcases Nat.lt_or_ge j S.hp.length with hlt | hge
     · rw [List.getElem?_append_left (by omega)] at hy
       by_cases e' : j = k
       · subst e'
         rw [List.getElem?_set_self hlt] at hy
         cases hy
         exact hf
       · rw [List.getElem?_set_ne (Ne.symm e')] at hy
         exact hr.base.sep j k y _ b e' hy hk hf (by simp only [foot]; exact hb')
     · rw [List.getElem?_eq_none (by simp; omega)] at hy; cases hy) (fun b hb _ => ⟨hbl.block b hb, fun _ => rfl⟩)
 have hat : (((S.hp.set k .gone ++ [HO.gone]).map (mapHO (killP1 S.hp.length))).set S.hp.length (.grid e e2 [l]))[S.hp.length]? = some (.grid e e2 [l]) := List.getElem?_set_self (by simp)
 have hv : VRS g (upd ρ S.hp.length L') (((S.hp.set k .gone ++ [HO.gone]).map (mapHO (killP1 S.hp.length))).set S.hp.length (.grid e e2 [l])) (.slice (some ⟨w.heap.size, 0, none⟩) 1 1) (.hp S.hp.length) := by
  show HpV (upd ρ S.hp.length L') _ (.slice (some ⟨w.heap.size, 0, none⟩) 1 1) S.hp.length
  exact { sl := ⟨_, _, _, rfl⟩, arr := fun m s e' l' h => (by rw [hat] at h; cases h), grid := fun f1 f2 rows h => (by rw [hat] at h; cases h; rw [upd_same]; rfl), sg := fun f1 f2 n' rows h => (by rw [hat] at h; cases h), pg := fun f1 f2 n' rows h => (by rw [hat] at h; cases h), box := fun l' h => (by rw [hat] at h; cases h) }
 have hrel := hd'.setObj S.hp.length L' hup (GExt.refl g) hh hv o.dst
 have e1 : ((S.hp.set k .gone ++ [HO.gone]).map (mapHO (killP1 S.hp.length))).set S.hp.length (.grid e e2 [l]) = killH S.hp.length (S.hp.set k .gone) ++ [.grid e e2 [l]] := by
  rw [List.map_append, List.set_append_right _ _ (by simp)]
  simp [killH]
 rw [e1] at hrel
 exact hK g _ _ _ (GExt.refl g) hrel
theorem e_append_grid {t e : TypeId} {by_ : Nat} {z0 : Value} [ht : MkT P t e 1 by_ [z0]] {x y : Operand} {tys : Array TypeId} {id k : Nat} {e' e2 : TypeId} {rows rows2 : List (List PV)} (ho : o.op = .call { callee := .builtin .append, args := #[x, y], argTypes := tys })
 (htys : tys = #[t, t]) (h1 : S.ev x = .hp id) (hh : S.hp[id]? = some (.grid e e2 rows)) (h2 : S.ev y = .hp k) (hk : S.hp[k]? = some (.grid e' e2 rows2)) (hne : (k == id) = false)
 (hb : (rows.length + rows2.length) * by_ ≤ 140737488355328) (hm : rows.length + rows2.length ≤ 9223372036854775807) : EStep P o S (S.setObj id ((killH id (S.hp.set k .gone)).set id (.grid e e2 (rows ++ rows2))) o.dst (.hp id)) := by
 subst htys
 have hne : k ≠ id := by simpa using hne
 intro w0 g ρ a w hr Q K hK
 obtain ⟨cur, rc, hown⟩ := hr.base.own id _ hh
 obtain ⟨curk, rck, hownk⟩ := hr.base.own k _ hk
 have ex : a.eval x = .slice (some ⟨(ρ id).blk, 0, none⟩) rows.length (ρ id).cap := by have := hr.ev x; rw [h1] at this; exact HpV.grid this _ _ _ hh
 have ey : a.eval y = .slice (some ⟨(ρ k).blk, 0, none⟩) rows2.length (ρ k).cap := by have := hr.ev y; rw [h2] at this; exact HpV.grid this _ _ _ hk
 have hlt : id < S.hp.length := (List.getElem?_eq_some_iff.1 hh).1
 have hblt : (ρ id).blk < w.heap.size := (Array.getElem?_eq_some_iff.1 hown.hw).1
 obtain ⟨i, z, hi, hi1, hi2, hi3, hi4⟩ := ht.hi
 have hzc : z.cells.size = 1 := by have := congrArg List.length hi4; simpa using this
 have hmm : rows.length + rows2.length ≤ maxLen := by simp only [maxLen]; omega
 have hsep : ∀ b, foot (.grid e e2 rows) (ρ id) b → foot (.grid e' e2 rows2) (ρ k) b → False := fun b f1 f2 => hr.base.sep id k _ _ b (Ne.symm hne) hh hk f1 f2
 let n := rows.length
 let news : List Value := curk.toList.take rows2.length
 have hnl : news.length = rows2.length := by simp only [news, List.length_take, Array.length_toList, hownk.hsz]; exact Nat.min_eq_left hownk.hcap
 have hnk : ∀ j, j < rows2.length → news[j]? = some (curk.getD j undef) := fun j hj => by
  have : j < curk.size := by rw [hownk.hsz]; exact Nat.lt_of_lt_of_le hj hownk.hcap
  simp [news, hj, this]
 have hone' : ∀ u ∈ news, u.oneCell' = true := fun u hu => by
  obtain ⟨j, hj, rfl⟩ := List.getElem_of_mem hu
  have hj2 : j < rows2.length := by rw [← hnl]; exact hj
  have e1 : news[j] = curk.getD j undef := by have := hnk j hj2; rw [List.getElem?_eq_getElem hj] at this; exact Option.some.inj this
  rw [e1, (hownk.hrow j _ (List.getElem?_eq_getElem hj2)).1]
  rfl
 have hcellsrc : ∀ (j : Nat) (u : Value), news[j]? = some u → w.cell? ((⟨(ρ k).blk, 0, none⟩ : Addr).add j) = some u := fun j u hj => by
  have hj2 : j < rows2.length := by rw [← hnl]; exact (List.getElem?_eq_some_iff.1 hj).1
  rw [Addr.add_n, Nat.zero_add, own_load hownk.hw (by rw [hownk.hsz]; exact Nat.lt_of_lt_of_le hj2 hownk.hcap), ← hnk j hj2, hj]
 have hcursz := hown.hsz
 have hexec : ∀ {v : Value} {w' : World}, (Builtin.append_ #[t, t] o.type #[.slice (some ⟨(ρ id).blk, 0, none⟩) rows.length (ρ id).cap, .slice (some ⟨(ρ k).blk, 0, none⟩) rows2.length (ρ k).cap]).run P w = .ok v w' → (execOp a.eval o).run P w = .ok (.value v) w' := fun {v w'} h => by
  simp only [execOp, ho, resolve, Sem.run_bind, run_pure, Result.andThen, invoke, builtin]
  have : (#[x, y].map a.eval) = #[.slice (some ⟨(ρ id).blk, 0, none⟩) rows.length (ρ id).cap, .slice (some ⟨(ρ k).blk, 0, none⟩) rows2.length (ρ k).cap] := by simp [ex, ey]
  rw [this, h]
 -- how it ends, whichever way it goes
 suffices hend : ∃ (blk cap : Nat) (cur' : Array Value) (w' : World), (execOp a.eval o).run P w = .ok (.value (.slice (some ⟨blk, 0, none⟩) (rows.length + rows2.length) cap)) w' ∧ Agree g w' ∧ BelowL w0 w' ∧
  w0.own blk = true ∧ rows.length + rows2.length ≤ cap ∧ cap ≤ maxLen ∧ w'.heap[blk]? = some (.cells cur' e (0, 0)) ∧ cur'.size = cap ∧
  (∀ j, j < rows.length → cur'.getD j undef = cur.getD j undef) ∧ (∀ j, j < rows2.length → cur'.getD (rows.length + j) undef = curk.getD j undef) ∧ (blk = (ρ id).blk ∨ w.heap.size ≤ blk) ∧
  (∀ b, b < w.heap.size → b ≠ (ρ id).blk → w'.heap[b]? = w.heap[b]?) ∧ ∀ o, g blk o = none by
  obtain ⟨blk, cap, cur', w', hrun, hag, hbl, hB, hcap, hmax, hw', hsz', k1, k2, hblk, hkeep, hgn⟩ := hend
  unfold Oper.wp
  rw [hrun]
  have hd := rel_gone hr k
  have hh1 : (S.hp.set k .gone)[id]? = some (.grid e e2 rows) := by rw [List.getElem?_set_ne hne]; exact hh
  let L' : Loc := ⟨blk, cap, fun j => if j < n then (ρ id).rows j else (ρ k).rows (j - n), fun j => if j < n then (ρ id).caps j else (ρ k).caps (j - n)⟩
  have hLr : ∀ j, L'.rows j = if j < n then (ρ id).rows j else (ρ k).rows (j - n) := fun _ => rfl
  have hLc : ∀ j, L'.caps j = if j < n then (ρ id).caps j else (ρ k).caps (j - n) := fun _ => rfl
  have rlt : ∀ j, j < rows.length → (ρ id).rows j < w.heap.size := fun j hj => (Array.getElem?_eq_some_iff.1 (hown.hrow j _ (List.getElem?_eq_getElem hj)).2.2.1).1
  have rltk : ∀ j, j < rows2.length → (ρ k).rows j < w.heap.size := fun j hj => (Array.getElem?_eq_some_iff.1 (hownk.hrow j _ (List.getElem?_eq_getElem hj)).2.2.1).1
  have rne : ∀ j, j < rows2.length → (ρ k).rows j ≠ (ρ id).blk := fun j hj e => hsep _ (.inl e) (.inr ⟨j, hj, rfl⟩)
  have spl : ∀ (j : Nat) (r : List PV), (rows ++ rows2)[j]? = some r → (j < n ∧ rows[j]? = some r) ∨ (¬ j < n ∧ j - n < rows2.length ∧ rows2[j - n]? = some r) := fun j r hj => by
   by_cases hjn : j < rows.length
   · rw [List.getElem?_append_left hjn] at hj; exact .inl ⟨hjn, hj⟩
   · rw [List.getElem?_append_right (by omega)] at hj; exact .inr ⟨hjn, (List.getElem?_eq_some_iff.1 hj).1, hj⟩
  have hnew : GridOwn g w' w0.own e e2 (rows ++ rows2).length (rows ++ rows2) L' cur' (fun j => if j < n then rc j else rck (j - n)) :=
   { hB := hB, hw := hw', hsz := hsz', hle := Nat.le_refl _, hcap := by simpa using hcap, hmax := hmax, hnil := fun i h1 h2 => by omega
     hB' := fun j hj => by
      rw [hLr]
      simp only [List.length_append] at hj
      split
      · rename_i h; exact hown.hB' j h
      · rename_i h; exact hownk.hB' _ (by simp only [n] at h ⊢; omega)
     hrow := fun j r hj => by
      rcases spl j r hj with ⟨hjn, h⟩ | ⟨hjn, hj2, h⟩
      · obtain ⟨a1, a2, a3, a4⟩ := hown.hrow j r h
        rw [hLr, hLc]
        simp only [if_pos hjn]
        refine ⟨(k1 j hjn).trans a1, a2, ?_, a4⟩
        rw [hkeep _ (rlt j hjn) (hown.hne j hjn)]; exact a3
      · obtain ⟨a1, a2, a3, a4⟩ := hownk.hrow _ r h
        rw [hLr, hLc]
        simp only [if_neg hjn]
        refine ⟨?_, a2, ?_, a4⟩
        · have := k2 (j - n) hj2
          rw [show rows.length + (j - n) = j by simp only [n] at hjn ⊢; omega] at this
          rw [this]; exact a1
        · rw [hkeep _ (rltk _ hj2) (rne _ hj2)]; exact a3
     hv := fun j r m q hj hq => by
      rcases spl j r hj with ⟨hjn, h⟩ | ⟨hjn, hj2, h⟩
      · simp only [if_pos hjn]; exact hown.hv j r m q h hq
      · simp only [if_neg hjn]; exact hownk.hv _ r m q h hq
     hg := hgn
     hg' := fun j o hj => by
      rw [hLr]
      simp only [List.length_append] at hj
      split
      · rename_i h; exact hown.hg' j o h
      · rename_i h; exact hownk.hg' _ o (by simp only [n] at h ⊢; omega)
     hne := fun j hj => by
      rw [hLr]
      simp only [List.length_append] at hj
      show _ ≠ blk
      split
      · rename_i h
        rcases hblk with h' | h'
        · rw [h']; exact hown.hne j h
        · have := rlt j h; omega
      · rename_i h
        have hj2 : j - n < rows2.length := by simp only [n] at h ⊢; omega
        rcases hblk with h' | h'
        · rw [h']; exact rne _ hj2
        · have := rltk _ hj2; omega
     hinj := fun j m hj hm he => by
      rw [hLr, hLr] at he
      simp only [List.length_append] at hj hm
      split at he <;> split at he
      · rename_i h h'; exact hown.hinj j m h h' he
      · rename_i h h'; exact (hsep ((ρ id).rows j) (.inr ⟨j, h, rfl⟩) (.inr ⟨m - n, by simp only [n] at h' ⊢; omega, he⟩)).elim
      · rename_i h h'; exact (hsep ((ρ id).rows m) (.inr ⟨m, h', rfl⟩) (.inr ⟨j - n, by simp only [n] at h ⊢; omega, he.symm⟩)).elim
      · rename_i h h'
        have := hownk.hinj (j - n) (m - n) (by simp only [n] at h ⊢; omega) (by simp only [n] at h' ⊢; omega) he
        simp only [n] at *
        omega }
  have hhs : ∀ i, i ≠ id → ((killH id (S.hp.set k .gone)).set id (.grid e e2 (rows ++ rows2)))[i]? = ((S.hp.set k .gone)[i]?).map (mapHO (killP1 id)) := fun i hi => killH_set _ _ _ hi
  have hbase := hd.base.upd hh1 (x' := .grid e e2 (rows ++ rows2)) L' (GExt.refl g) (killP1 id) (fun v p h => h.kill id _ (GExt.refl g) hhs) hag hbl (fun _ _ _ => rfl) ⟨cur', _, hnew⟩ (fun b hb => by
   simp only [foot, List.length_append] at hb
   rcases hb with hb | ⟨j, hj, hb⟩
   · rcases hblk with h | h
     · left; left; rw [hb]; exact h
     · right; left; rw [hb]; exact h
   · rw [hLr] at hb
     split at hb
     · rename_i h; left; right; exact ⟨j, h, hb⟩
     · rename_i h
       right; right
       intro m y hm hy hf
       by_cases e1 : m = k
       · subst e1
         rw [List.getElem?_set_self (List.getElem?_eq_some_iff.1 hk).1] at hy
         cases hy
         exact hf
       · rw [List.getElem?_set_ne (Ne.symm e1)] at hy
         exact hr.base.sep m k y _ b e1 hy hk hf (.inr ⟨j - n, by simp only [n] at h ⊢; omega, hb⟩)) (fun b hb hnf => ⟨hkeep b hb (fun e => hnf (.inl e)), fun _ => rfl⟩)
  have hat : ((killH id (S.hp.set k .gone)).set id (.grid e e2 (rows ++ rows2)))[id]? = some (.grid e e2 (rows ++ rows2)) := List.getElem?_set_self (by simpa [killH] using hlt)
  have hv : VRS g (upd ρ id L') ((killH id (S.hp.set k .gone)).set id (.grid e e2 (rows ++ rows2))) (.slice (some ⟨blk, 0, none⟩) (rows.length + rows2.length) cap) (.hp id) := by
   show HpV (upd ρ id L') _ (.slice (some ⟨blk, 0, none⟩) (rows.length + rows2.length) cap) id
   exact { sl := ⟨_, _, _, rfl⟩, arr := fun m s e l' h => (by rw [hat] at h; cases h), grid := fun f1 f2 rows h => (by rw [hat] at h; cases h; rw [upd_same, List.length_append]), sg := fun f1 f2 n' rows h => (by rw [hat] at h; cases h), pg := fun f1 f2 n' rows h => (by rw [hat] at h; cases h), box := fun l' h => (by rw [hat] at h; cases h) }
  exact hK _ _ _ _ (GExt.refl g) (hd.setObj id _ hbase (GExt.refl g) hhs hv o.dst)
 by_cases hroom : rows.length + rows2.length ≤ (ρ id).cap
 · -- there is room
   have hfit : rows.length + news.length ≤ cur.size := by rw [hnl, hcursz]; exact hroom
   have hsp := getD_splice cur rows.length news hfit
   have hsps := size_splice cur rows.length news hfit
   have hrun := run_append_room (P := P) w t o.type e i ht.hu hi (ρ id).blk rows.length (ρ id).cap cur hown.hw ⟨(ρ k).blk, 0, none⟩ rows2.length (ρ k).cap news (by rw [hi1, Nat.mul_one]; exact hnl) hcellsrc hone' hroom (by rw [hi1, Nat.mul_one]; exact hfit)
   rw [hi1, Nat.mul_one] at hrun
   generalize hcur : (cur.toList.take rows.length ++ news ++ cur.toList.drop (rows.length + news.length)).toArray = cur' at *
   have k1 : ∀ j, j < rows.length → cur'.getD j undef = cur.getD j undef := fun j hj => by rw [hsp j, if_neg (by omega)]
   have k2 : ∀ j, j < rows2.length → cur'.getD (rows.length + j) undef = curk.getD j undef := fun j hj => by
    rw [hsp, if_pos (by omega), show rows.length + j - rows.length = j by omega, List.getD_eq_getElem?_getD, hnk j hj]; rfl
   have hw' := setRow_heap w (ρ id).blk cur cur' e (0, 0) hown.hw
   refine ⟨(ρ id).blk, (ρ id).cap, cur', _, hexec hrun, fun b' o' v hv => ?_, hr.base.below.setRow hown.hB cur', hown.hB, hroom, hown.hmax, hw', hsps.trans hcursz, k1, k2, .inl rfl, fun b' hb' hne => setRow_other w _ _ _ hne, hown.hg⟩
   have hne' : b' ≠ (ρ id).blk := fun e => by rw [e, hown.hg] at hv; cases hv
   rw [cell_setRow_other w _ _ ⟨b', o', none⟩ hne']; exact hr.base.agree b' o' v hv
 · -- it grows into a new block
   let olds : List Value := cur.toList.take rows.length
   have hlcur : rows.length ≤ cur.size := by rw [hcursz]; exact hown.hcap
   have hol : olds.length = rows.length := by simp [olds]; omega
   have hrun := run_append_grow (P := P) w t o.type e i z ht.hu hi hi3 ⟨(ρ id).blk, 0, none⟩ rows.length (ρ id).cap olds (by rw [hi1, Nat.mul_one]; exact hol) (fun j u hj => by
    rw [Addr.add_n, Nat.zero_add, cell_of_row _ _ _ _ _ _ hown.hw]
    simp only [olds] at hj
    rw [List.getElem?_take] at hj
    split at hj
    · simpa using hj
    · cases hj) ⟨(ρ k).blk, 0, none⟩ rows2.length (ρ k).cap news (by rw [hi1, Nat.mul_one]; exact hnl) hcellsrc (by omega) (by omega) (growslice_fits (by omega) (by rw [hi2]; exact hb))
   have hcapge : rows.length + rows2.length ≤ grownCap w (rows.length + rows2.length) (ρ id).cap e := grownCap_ge w _ _ e
   have hcapm : grownCap w (rows.length + rows2.length) (ρ id).cap e ≤ maxLen := grownCap_le_maxLen w _ _ e hmm
   generalize hcap' : grownCap w (rows.length + rows2.length) (ρ id).cap e = cap' at *
   generalize hcur : olds.toArray ++ news.toArray ++ Builtin.zeroCells z.cells (cap' - (rows.length + rows2.length)) = cur' at *
   have hsz' : cur'.size = cap' := by
    rw [← hcur]
    simp only [Array.size_append, List.size_toArray, size_zeroCells, hzc, hol, hnl]
    omega
   have k1 : ∀ j, j < rows.length → cur'.getD j undef = cur.getD j undef := fun j hj => by
    rw [← hcur]
    have h1 : j < olds.length := by omega
    have h2 : (olds.toArray ++ news.toArray ++ Builtin.zeroCells z.cells (cap' - (rows.length + rows2.length)))[j]? = cur[j]? := by
     rw [Array.getElem?_append_left (by rw [Array.size_append, List.size_toArray, List.size_toArray]; omega), Array.getElem?_append_left (by rw [List.size_toArray]; exact h1), List.getElem?_toArray]
     simp only [olds]
     rw [List.getElem?_take_of_lt hj, Array.getElem?_toList]
    rw [Array.getD_eq_getD_getElem?, Array.getD_eq_getD_getElem?, h2]
   have k2 : ∀ j, j < rows2.length → cur'.getD (rows.length + j) undef = curk.getD j undef := fun j hj => by
    rw [← hcur]
    have h3 : rows.length + j - olds.length = j := by omega
    have h2 : (olds.toArray ++ news.toArray ++ Builtin.zeroCells z.cells (cap' - (rows.length + rows2.length)))[rows.length + j]? = news[j]? := by
     rw [Array.getElem?_append_left (by rw [Array.size_append, List.size_toArray, List.size_toArray]; omega), Array.getElem?_append_right (by rw [List.size_toArray]; omega), List.getElem?_toArray, List.size_toArray, h3]
    rw [Array.getD_eq_getD_getElem?, h2, hnk j hj]; rfl
   have hnew : (w.drew.alloc (.cells cur' e)).heap[w.heap.size]? = some (.cells cur' e (0, 0)) := heap_alloc_new w.drew _
   have hbl1 : RowKit.Below w.heap.size w (w.drew.alloc (.cells cur' e)) := (RowKit.Below.refl _ _).drew.alloc (Nat.le_refl _) _
   have hB0 := hr.base.below.size
   refine ⟨w.heap.size, cap', cur', _, hexec hrun, hr.base.agree.below hbl1, hr.base.below.step hbl1, Ini.own_new hB0, hcapge, hcapm, hnew, hsz', k1, k2, .inr (Nat.le_refl _), fun b' hb' hne => hbl1.block b' hb', fun o' => ?_⟩
   cases hgo : g w.heap.size o' with
   | none => rfl
   | some v => exact absurd (hr.base.agree.lt hgo) (Nat.lt_irrefl _)

end
end Go.Pv
