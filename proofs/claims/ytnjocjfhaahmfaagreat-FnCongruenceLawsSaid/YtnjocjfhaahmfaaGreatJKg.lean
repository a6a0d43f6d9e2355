/- Plain: there is a list of all congruences, and on few elements it is short. -/
import Derived.Test.YtnjocjfhaahmfaaGreatJVi
import Derived.Test.YtnjocjfhaahmfaaGreatJSt
set_option linter.unusedSectionVars false
namespace Go.Proofs.YtnjocjfhaahmfaaGreat
open Go Go.Pv Go.Proofs

def ptAll : Nat → List (List Int)
  | 0 => [[]]
  | k + 1 => (ptAll k).flatMap fun l => (List.range (k + 1)).map fun (v : Nat) => l ++ [(v : Int)]
theorem ptAll_mem : ∀ (k : Nat) (l : List Int), l.length = k → (∀ x, x < k → 0 ≤ l.getD x 0 ∧ l.getD x 0 ≤ (x : Int)) → l ∈ ptAll k
  | 0, l, h, _ => by rw [List.length_eq_zero_iff.1 h]; exact List.mem_singleton.2 rfl
  | k + 1, l, h, hb => by
    obtain ⟨m, v, rfl⟩ : ∃ m v, l = m ++ [v] := ⟨l.dropLast, l.getLast (by intro e; rw [e] at h; simp at h), (List.dropLast_concat_getLast _).symm⟩
    have hm : m.length = k := by simpa using h
    have hlow : ∀ x, x < k → (m ++ [v]).getD x 0 = m.getD x 0 := fun x hx => by
      rw [List.getD_eq_getElem?_getD, List.getElem?_append_left (by omega), List.getD_eq_getElem?_getD]
    have hv : (m ++ [v]).getD k 0 = v := by
      rw [List.getD_eq_getElem?_getD, List.getElem?_append_right (by omega), hm, Nat.sub_self]; rfl
    have h2 := hb k (by omega)
    rw [hv] at h2
    refine List.mem_flatMap.2 ⟨m, ptAll_mem k m hm fun x hx => by have := hb x (by omega); rwa [hlow x hx] at this, List.mem_map.2 ⟨v.toNat, List.mem_range.2 (by omega), ?_⟩⟩
    rw [show ((v.toNat : Nat) : Int) = v by omega]
theorem pt_ptAll {n : Nat} {p : List Int} (h : Pt n p) : p ∈ ptAll n := ptAll_mem n p h.len fun x hx => ⟨h.nn x hx, by have := h.le x hx; rw [h.val hx]; omega⟩
theorem foldPut {n : Nat} : ∀ (M L : List (List Int)), AscC n L → AscC n (M.foldl (putC n) L) ∧ ∀ q, q ∈ M.foldl (putC n) L ↔ q ∈ L ∨ q ∈ M
  | [], L, h => ⟨h, fun q => by simp⟩
  | p :: M, L, h => by
    obtain ⟨h1, h2⟩ := foldPut M (putC n L p) (putC_asc h)
    refine ⟨h1, fun q => ?_⟩
    rw [List.foldl_cons, h2, putC_mem, List.mem_cons, or_assoc]
open Classical in
theorem allC_ex (n : Nat) (ops : List OpD) : ∃ L, AllC n ops L := by
  obtain ⟨h1, h2⟩ := foldPut (n := n) ((ptAll n).filter fun q => decide (Pt n q ∧ Cong n ops q)) [] List.Pairwise.nil
  refine ⟨_, h1, fun q => ?_⟩
  rw [h2, List.mem_filter, decide_eq_true_eq]
  constructor
  · rintro (h | h)
    · cases h
    · exact h.2
  · exact fun h => .inr ⟨pt_ptAll h.1, h⟩
noncomputable def allL (n : Nat) (ops : List OpD) : List (List Int) := (allC_ex n ops).choose
theorem allL_all (n : Nat) (ops : List OpD) : AllC n ops (allL n ops) := (allC_ex n ops).choose_spec
theorem AllC.eq {n : Nat} {ops : List OpD} {L : List (List Int)} (h : AllC n ops L) : L = allL n ops := h.unique (allL_all n ops)
theorem allL_mem {n : Nat} {ops : List OpD} {q : List Int} : q ∈ allL n ops ↔ Pt n q ∧ Cong n ops q := (allL_all n ops).2 q
end Go.Proofs.YtnjocjfhaahmfaaGreat
/- The layer: a small region in any order, each order walked. -/
namespace Go.Pv
open Go
attribute [local semireducible] Go.Pv.Goal Go.Pv.Ops Go.Pv.PStep Go.Pv.EStep Go.Pv.KRets Go.Pv.PCalls Go.Pv.OpsG
section
variable {P : Program} {ops : Array Oper} {K : St → Prop}
def aAnyB (P : Program) (ops : Array Oper) (K : St → Prop) : Nat → Array Bool → St → Prop
  | 0, listed, S => Region.ready .any ops listed = [] ∧ K S
  | n + 1, listed, S => (Region.ready .any ops listed = [] → K S) ∧ ∀ i ∈ Region.ready .any ops listed, ∃ o, ops[i]? = some o ∧ guardS ops S.fr o = some true ∧ ∃ S', EStep P o S S' ∧ aAnyB P ops K n (listed.setIfInBounds i true) S'
theorem wpAny_of_aAnyB {Q : Exit → Act → World → Prop} {w0 : Ini} (hK : ∀ S g ρ a w, K S → Rel w0 S g ρ a w → Q .normal a w) :
    ∀ (n : Nat) (listed : Array Bool) (S : St) (g : Ghost) (ρ : Nat → Loc) (a : Act) (w : World), aAnyB P ops K n listed S → Rel w0 S g ρ a w → wpAny P .any ops Q n listed a w
  | 0, _, S, g, ρ, a, w, h, hr => ⟨h.1, hK S g ρ a w h.2 hr⟩
  | n + 1, listed, S, g, ρ, a, w, h, hr => by
    refine ⟨fun h0 => hK S g ρ a w (h.1 h0) hr, fun i hi => ?_⟩
    obtain ⟨o, ho, hg, S', hp, h1⟩ := h.2 i hi
    unfold wpOp
    rw [ho]
    dsimp only
    rw [if_pos (guardS_spec hr hg)]
    left
    exact hp w0 g ρ a w hr Q _ fun g' ρ' a' w' _ hr' => wpAny_of_aAnyB hK n _ S' g' ρ' a' w' h1 hr'
theorem g_region_B {id : Nat} {l : List Oper} {K : Exit → St → Prop} {S : St} (hm : P.follows .mixedOrders = true) (n : Nat) (hn : l.length = n)
    (h : aAnyB P l.toArray (K .normal) n (Array.replicate n false) S) : Goal P (.region id l.toArray true) K S := fun w0 g ρ a w Q hr hQ => by
  refine wp_region_any hm (wpAny_of_aAnyB (K := K .normal) (fun S' g' ρ' a' w' hk hr' => hQ .normal S' g' ρ' a' w' hk hr') _ _ S g ρ a _ ?_ hr.drew)
  subst hn
  simpa using h
variable {n : Nat} {listed : Array Bool} {S : St}
theorem b_end (hl : Region.ready .any ops listed = []) (hk : K S) : aAnyB P ops K 0 listed S := ⟨hl, hk⟩
theorem g_region_BJ {id : Nat} {l : List Oper} {K : Exit → St → Prop} {S S1 : St} (hm : P.follows .mixedOrders = true) (n : Nat) (hn : l.length = n)
    (h : aAnyB P l.toArray (fun T => T = S1) n (Array.replicate n false) S) (hk : K .normal S1) : Goal P (.region id l.toArray true) K S := by
  refine g_region_B hm n hn ?_
  have key : ∀ (m : Nat) (listed : Array Bool) (T : St), aAnyB P l.toArray (fun T => T = S1) m listed T → aAnyB P l.toArray (K .normal) m listed T := by
    intro m
    induction m with
    | zero => exact fun listed T h => ⟨h.1, h.2 ▸ hk⟩
    | succ m ih =>
      intro listed T h
      refine ⟨fun e => h.1 e ▸ hk, fun i hi => ?_⟩
      obtain ⟨o, h1, h2, S', h3, h4⟩ := h.2 i hi
      exact ⟨o, h1, h2, S', h3, ih _ _ h4⟩
  exact key _ _ _ h
theorem l_E {o : Oper} {m : Nat} {x : HO} {q : PV} {fr : List PV} {hp : List HO} (h : LStep P o (St.mk fr hp).ev m x q) (h0 : hp[m]? = some .gone) (h1 : fr.map (killP m) = fr) (h2 : hp.map (mapHO (killP1 m)) = hp) : EStep P o ⟨fr, hp⟩ (St.put ⟨fr, hp.set m x⟩ o.dst q) :=
  h fr hp (fun _ _ => rfl) h0 ⟨h1, h2⟩
end
end Go.Pv
/- The layer: a slice of structs, each of a number and a row that the call owns. -/
namespace Go.Pv
open Go
attribute [local semireducible] Go.Pv.Goal Go.Pv.Ops Go.Pv.PStep Go.Pv.EStep Go.Pv.KRets Go.Pv.PCalls Go.Pv.OpsG Go.Pv.LCalls
def killR1 (k : Nat) : PV → PV
  | .gat _ _ _ => .any
  | .gr _ _ => .any
  | p => killP1 k p
def killRA (k : Nat) : PV → PV
  | .agg l => .agg (l.map (killR1 k))
  | p => killR1 k p
def killR (k : Nat) : PV → PV
  | .tup l => .tup (l.map (killRA k))
  | .agg l => .agg (l.map (killR1 k))
  | p => killR1 k p
section
variable {P : Program} {o : Oper} {S : St}
theorem e_store_sg0 {t : TypeId} [ht : CellT P t] {x v : Operand} {id i k : Nat} {e1 e2 : TypeId} {n : Nat} {rows : List (List PV)} {r : List PV} {h0 p : PV} (ho : o.op = .store t x v) (hd : o.dst = none) (h1 : S.ev x = .hat id k) (hh : S.hp[id]? = some (.sg e1 e2 n rows))
    (hk : k = i * 2) (hr : rows[i]? = some (h0 :: r)) (h2 : view S.hp (S.ev v) = p) (hp1 : p.one = true) : EStep P o S ⟨S.fr, S.hp.set id (.sg e1 e2 n (rows.set i (p :: r)))⟩ := by
  subst hk
  have hi : i < rows.length := (List.getElem?_eq_some_iff.1 hr).1
  have hrows : ∀ (k : Nat) (r' : List PV), (rows.set i (p :: r))[k]? = some r' → ∃ r'' : List PV, rows[k]? = some r'' ∧ r''.tail.length = r'.tail.length := fun k r' hk => by
    rw [List.getElem?_set] at hk
    split at hk
    · rename_i e; subst e
      simp only [Option.some.injEq] at hk
      subst hk
      exact ⟨_, hr, rfl⟩
    · exact ⟨r', hk, rfl⟩
  refine EStep.of_store ht.hs ho hd hh (fun m s e l h => by cases h) (fun e1' e2' rows' h => by cases h) (fun e1 e2 n rows h => by cases h) (fun L b h => by simpa [foot] using h) (fun w0 g ρ a w hrel _ => ?_) (fun l h => by cases h) (fun e1' e2' n' rows' h => by cases h; exact ⟨_, _, _, rfl, by simp, hrows⟩)
  obtain ⟨cur, rc, og⟩ := hrel.base.own id _ hh
  have ea : a.eval x = .pointer (some ⟨(ρ id).blk, i * 2, none⟩) := by have := hrel.ev x; rw [h1] at this; exact this
  have ev := hrel.base.view (hrel.ev v)
  rw [h2] at ev
  obtain ⟨hc1, hc2⟩ := ev.oneCell hp1
  have hcap := og.hcap
  refine ⟨_, i * 2, cur, e1, ea, .inl rfl, og.hB, og.hw, og.hg, by rw [og.hsz]; omega, by rw [hc1]; rfl, by rw [hc1]; simpa using hc2, fun cur' hs' hk' => ?_⟩
  refine ⟨cur', rc, og.hB, setRow_heap w _ _ _ _ _ og.hw, hs'.trans og.hsz, by simpa using og.hcap, og.hmax, fun k hk => og.hB' k (by simpa using hk), fun k r' hk => ?_, fun k r' hk => ?_, fun k r' m q hk hm => ?_, og.hg, fun k o hk => og.hg' k o (by simpa using hk), fun k hk => og.hne k (by simpa using hk), fun k m hk hm => og.hinj k m (by simpa using hk) (by simpa using hm)⟩
  · have hkl : k < rows.length := by simpa using (List.getElem?_eq_some_iff.1 hk).1
    rw [hk' (k * 2 + 1), if_neg (by omega)]
    have key : ∃ r'', rows[k]? = some r'' ∧ r''.tail = r'.tail := by
      by_cases e : k = i
      · subst e
        rw [List.getElem?_set_self hi] at hk
        cases hk
        exact ⟨_, hr, rfl⟩
      · rw [List.getElem?_set_ne (Ne.symm e)] at hk
        exact ⟨r', hk, rfl⟩
    obtain ⟨r'', hk2, het⟩ := key
    obtain ⟨b1, b2, b3, b4⟩ := og.hrow k r'' hk2
    rw [het] at b1 b2
    exact ⟨b1, b2, by rw [setRow_other w _ _ _ (og.hne k hkl)]; exact b3, b4⟩
  · by_cases e : k = i
    · subst e
      rw [List.getElem?_set_self hi] at hk
      cases hk
      rw [hk', if_pos (by omega)]
      refine ⟨hp1, ?_⟩
      rw [hc1]
      simpa using ev
    · rw [List.getElem?_set_ne (Ne.symm e)] at hk
      rw [hk', if_neg (by omega)]
      exact og.hh k r' hk
  · by_cases e : k = i
    · subst e
      rw [List.getElem?_set_self hi] at hk
      cases hk
      exact og.hv k _ m q hr hm
    · rw [List.getElem?_set_ne (Ne.symm e)] at hk
      exact og.hv k r' m q hk hm

end

section
variable {P : Program} {o : Oper} {ev : Operand → PV} {hp : List HO}
theorem ps_len_sg {t e : TypeId} {s by_ : Nat} [ht : SlT P t e s by_] {x : Operand} {e1 e2 id n : Nat} {rows : List (List PV)} {tys : Array TypeId} (ho : o.op = .call { callee := .builtin .len, args := #[x], argTypes := tys }) (htys : tys = #[t])
    (h1 : ev x = .hp id) (hh : hp[id]? = some (.sg e1 e2 n rows)) : PStep P o ev hp (I (rows.length + n : Nat)) :=
  .of_run fun w0 g ρ w av hb hx => by
    have e1 := hx x (by simp [ho, Op.operands, Call.operands])
    subst htys
    rw [h1] at e1
    have ea := HpV.sg e1 _ _ _ _ hh
    exact ⟨.int .i64 (rows.length + n : Nat), by simp [execOp, ho, resolve, invoke, builtin, Builtin.len_, ea, run_underlying ht.hu, goInt, go_sem], .val _⟩
theorem ps_index_sg {t e : TypeId} {by_ : Nat} [ht : SlT P t e 2 by_] {x ix : Operand} {e1 e2 : TypeId} {n : Nat} {rows : List (List PV)} {i : Int} {id : Nat} (ho : o.op = .indexAddr t x ix) (h1 : ev x = .hp id)
    (hh : hp[id]? = some (.sg e1 e2 n rows)) (h2 : ev ix = I i) (h0 : 0 ≤ i) (hq : i.toNat < rows.length + n) : PStep P o ev hp (.hat id (i.toNat * 2)) :=
  .of_run fun w0 g ρ w av hb hx => by
    have e1 := hx x (by simp [ho, Op.operands])
    have e2 := val_of (hx ix (by simp [ho, Op.operands])) h2
    rw [h1] at e1
    have ea := HpV.sg e1 _ _ _ _ hh
    refine ⟨.pointer (some ⟨(ρ id).blk, i.toNat * 2, none⟩), ?_, rfl⟩
    have hi : i < (rows.length : Int) + (n : Int) := by omega
    simp [execOp, ho, ea, e2, Instr.indexAt, asIntOf, run_underlying ht.hu, ht.hs, h0, hi, Addr.add_n, go_sem]
theorem ps_load_sg {t : TypeId} [ht : CellT P t] {x : Operand} {id i k n : Nat} {e1 e2 : TypeId} {rows : List (List PV)} (ho : o.op = .load t x) (h1 : ev x = .hat id k) (hh : hp[id]? = some (.sg e1 e2 n rows)) (hk : k = i * 2 + 1) (hi : i < rows.length) : PStep P o ev hp (.gr id i) :=
  .of_run fun w0 g ρ w av hb hx => by
    subst hk
    have ea : av x = .pointer (some ⟨(ρ id).blk, i * 2 + 1, none⟩) := by have := hx x (by simp [ho, Op.operands]); rw [h1] at this; exact this
    obtain ⟨cur, rc, hown⟩ := hb.own id _ hh
    have hcap := hown.hcap
    have hc := own_load hown.hw (i := i * 2 + 1) (by rw [hown.hsz]; omega)
    refine ⟨cur.getD (i * 2 + 1) undef, ?_, (⟨⟨_, _, _, (hown.hrow i _ (List.getElem?_eq_getElem hi)).1⟩, fun e1' e2' rows' r hid hr => (by rw [hh] at hid; cases hid), fun e1' e2' k' rows' r hid hr => ?_⟩ : GrV _ _ _ _ _)⟩
    · simp only [execOp, ho, ea]
      refine run_value ?_
      unfold Instr.loadAt Instr.sureAddr loadVar
      simp only [Sem.run_bind, run_pure, Result.andThen, ht.ha]
      simp [load, Sem.run, hc]
    · rw [hh] at hid
      cases hid
      exact (hown.hrow i r hr).1
end
end Go.Pv
