/- Plain: translated pairs, Mal'cev chains, the shortest way between two elements. -/
import Derived.Laws.Small
import Derived.Test.YtembaiccchgllaaGreatJKb
import Derived.Test.YtembaiccchgllaaGreatJGb
import Derived.Test.YtembaiccchgllaaGreatJMv
set_option linter.unusedSectionVars false
namespace Go.Proofs.YtembaiccchgllaaGreat
open Go Go.Pv Go.Proofs

inductive TrP (n : Nat) (ops : List OpD) (x y : Nat) : Nat → Nat → Prop
  | base : TrP n ops x y x y
  | sym {s t : Nat} (h : TrP n ops x y s t) : TrP n ops x y t s
  | step {s t : Nat} (h : TrP n ops x y s t) (f : OpD) (hf : f ∈ ops) (i : Nat) (hi : i < n ^ f.ar.toNat) (j : Nat) (hj : j < f.ar.toNat) (hd : digN n i j = s) : TrP n ops x y (bk f.tb i) (bk f.tb (subN n i j t))
theorem TrP.lt {n : Nat} {ops : List OpD} (ho : opsIn n ops) {x y : Nat} (hx : x < n) (hy : y < n) {s t : Nat} (h : TrP n ops x y s t) : s < n ∧ t < n := by
  induction h with
  | base => exact ⟨hx, hy⟩
  | sym _ ih => exact ⟨ih.2, ih.1⟩
  | step _ f hf i hi j hj _ ih =>
    have h := (ho f hf).2.2.2
    exact ⟨(h i hi).2, (h _ (sub_lt hi hj ih.2)).2⟩
inductive Cn (lk : Nat → Nat → Prop) (u : Nat) : Nat → Prop
  | refl : Cn lk u u
  | step {w z : Nat} (h : Cn lk u w) (hl : lk w z) : Cn lk u z
theorem Cn.trans {lk : Nat → Nat → Prop} {u v w : Nat} (h : Cn lk u v) (g : Cn lk v w) : Cn lk u w := by
  induction g with
  | refl => exact h
  | step _ hl ih => exact .step ih hl
theorem Cn.symm {lk : Nat → Nat → Prop} (hs : ∀ a b, lk a b → lk b a) {u v : Nat} (h : Cn lk u v) : Cn lk v u := by
  induction h with
  | refl => exact .refl
  | step _ hl ih => exact (Cn.step .refl (hs _ _ hl)).trans ih
/-! ### Breadth first -/
section
variable (lk : Nat → Nat → Bool) (n v : Nat)
abbrev BSt := List Nat × List Int
def BLe (a b : BSt) : Prop := (∃ l, b.1 = a.1 ++ l) ∧ ∀ s, 0 ≤ a.2.getD s 0 → s < n → b.2.getD s 0 = a.2.getD s 0
variable {lk n v}
theorem BLe.refl (a : BSt) : BLe n a a := ⟨⟨[], (List.append_nil _).symm⟩, fun _ _ _ => rfl⟩
theorem BLe.trans {a b c : BSt} (h : BLe n a b) (g : BLe n b c) : BLe n a c := by
  obtain ⟨⟨l, h1⟩, h2⟩ := h
  obtain ⟨⟨m, g1⟩, g2⟩ := g
  exact ⟨⟨l ++ m, by rw [g1, h1, List.append_assoc]⟩, fun s hs hn => by rw [g2 s (by rw [h2 s hs hn]; exact hs) hn, h2 s hs hn]⟩
theorem nodup_lt_len : ∀ {l : List Nat} {n : Nat}, l.Nodup → (∀ s ∈ l, s < n) → l.length ≤ n := fun {l n} hd h => by
  have := len_le_sub hd (m := List.range n) fun a ha => List.mem_range.2 (h a ha)
  simpa using this
end
end Go.Proofs.YtembaiccchgllaaGreat
/- Plain: lists that are partitions; translated pairs in order. -/
namespace Go.Proofs.YtembaiccchgllaaGreat
open Go Go.Pv Go.Proofs

def ptX (p : List Int) (x : Nat) : Bool := decide (0 ≤ p.getD x 0) && (decide (p.getD x 0 ≤ (x : Int)) && decide (p.getD (p.getD x 0).toNat 0 = p.getD x 0))
def ptB (n : Nat) (p : List Int) : Bool := decide (p.length = n) && (List.range n).all (ptX p)
theorem ptX_iff {p : List Int} {x : Nat} : ptX p x = true ↔ 0 ≤ p.getD x 0 ∧ p.getD x 0 ≤ (x : Int) ∧ p.getD (p.getD x 0).toNat 0 = p.getD x 0 := by
  unfold ptX; simp only [Bool.and_eq_true, decide_eq_true_eq]
theorem ptB_iff {n : Nat} {p : List Int} : ptB n p = true ↔ Pt n p := by
  unfold ptB
  rw [Bool.and_eq_true, decide_eq_true_iff, List.all_eq_true]
  constructor
  · rintro ⟨h1, h2⟩
    have h := fun x (hx : x < n) => ptX_iff.1 (h2 x (List.mem_range.2 hx))
    refine ⟨h1, fun x hx => (h x hx).1, fun x hx => ?_, fun x hx => ?_⟩
    · have := h x hx; unfold bk; omega
    · have := (h x hx).2.2; unfold bk; rw [this]
  · intro h
    refine ⟨h.len, fun x hx => ptX_iff.2 ?_⟩
    have hx := List.mem_range.1 hx
    refine ⟨h.nn x hx, ?_, ?_⟩
    · have := h.le x hx; rw [h.val hx]; omega
    · have := h.id x hx
      rw [h.val hx, Int.toNat_natCast, h.val (h.lt hx), this]
end Go.Proofs.YtembaiccchgllaaGreat
/- Clones: found tables, round by round (plain). -/
namespace Go.Proofs.YtembaiccchgllaaGreat
open Go Go.Pv Go.Proofs

abbrev Stp := Int × List Int
abbrev Ent := List Int × Stp
def entOk (n size : Nat) (e : Ent) : Prop := e.1.length = size ∧ ∀ x ∈ e.1, 0 ≤ x ∧ x < (n : Int)
/-! ### One round after another -/
/-! ### The reference's rounds -/
def closedT (n size : Nat) (ops : List OpD) (T : List (List Int)) (b : Nat) : Prop := ∀ f ∈ ops, ∀ args : List Int, args.length = f.ar.toNat → (∀ x ∈ args, 0 ≤ x ∧ x < (b : Int)) → cmpL n f.tb (args.map fun x => T.getD x.toNat []) size ∈ T
end Go.Proofs.YtembaiccchgllaaGreat
/- Walks: the reference's clones. -/
namespace Go.Proofs.YtembaiccchgllaaGreat
open Go Go.Pv Go.Proofs
theorem idx_ints {T : List (List Int)} {i : Nat} (hi : i < T.length) : (T.map ints)[i]? = some (ints (T.getD i [])) := by
  rw [List.getElem?_map, List.getElem?_eq_getElem hi, List.getD_eq_getElem?_getD, List.getElem?_eq_getElem hi]; rfl
end Go.Proofs.YtembaiccchgllaaGreat
/- The layer: a slice of structs, each of a number and a row that the call owns. -/
namespace Go.Pv
open Go
attribute [local semireducible] Go.Pv.Goal Go.Pv.Ops Go.Pv.PStep Go.Pv.EStep Go.Pv.KRets Go.Pv.PCalls Go.Pv.OpsG Go.Pv.LCalls
def killR1 (k : Nat) : PV → PV
  | .gat _ _ _ => .any
  | .gr _ _ => .any
  | p => killP1 k p
def killRA (k : Nat) : PV → PV
  | .agg l => .agg (l.map (killR1 k))
  | p => killR1 k p
def killR (k : Nat) : PV → PV
  | .tup l => .tup (l.map (killRA k))
  | .agg l => .agg (l.map (killR1 k))
  | p => killR1 k p
section
variable {P : Program} {o : Oper} {S : St}
theorem e_store_sg0 {t : TypeId} [ht : CellT P t] {x v : Operand} {id i k : Nat} {e1 e2 : TypeId} {n : Nat} {rows : List (List PV)} {r : List PV} {h0 p : PV} (ho : o.op = .store t x v) (hd : o.dst = none) (h1 : S.ev x = .hat id k) (hh : S.hp[id]? = some (.sg e1 e2 n rows))
    (hk : k = i * 2) (hr : rows[i]? = some (h0 :: r)) (h2 : view S.hp (S.ev v) = p) (hp1 : p.one = true) : EStep P o S ⟨S.fr, S.hp.set id (.sg e1 e2 n (rows.set i (p :: r)))⟩ := by
  subst hk
  have hi : i < rows.length := (List.getElem?_eq_some_iff.1 hr).1
  have hrows : ∀ (k : Nat) (r' : List PV), (rows.set i (p :: r))[k]? = some r' → ∃ r'' : List PV, rows[k]? = some r'' ∧ r''.tail.length = r'.tail.length := fun k r' hk => by
    rw [List.getElem?_set] at hk
    split at hk
    · rename_i e; subst e
      simp only [Option.some.injEq] at hk
      subst hk
      exact ⟨_, hr, rfl⟩
    · exact ⟨r', hk, rfl⟩
  refine EStep.of_store ht.hs ho hd hh (fun m s e l h => by cases h) (fun e1' e2' rows' h => by cases h) (fun e1 e2 n rows h => by cases h) (fun L b h => by simpa [foot] using h) (fun w0 g ρ a w hrel _ => ?_) (fun l h => by cases h) (fun e1' e2' n' rows' h => by cases h; exact ⟨_, _, _, rfl, by simp, hrows⟩)
  obtain ⟨cur, rc, og⟩ := hrel.base.own id _ hh
  have ea : a.eval x = .pointer (some ⟨(ρ id).blk, i * 2, none⟩) := by have := hrel.ev x; rw [h1] at this; exact this
  have ev := hrel.base.view (hrel.ev v)
  rw [h2] at ev
  obtain ⟨hc1, hc2⟩ := ev.oneCell hp1
  have hcap := og.hcap
  refine ⟨_, i * 2, cur, e1, ea, .inl rfl, og.hB, og.hw, og.hg, by rw [og.hsz]; omega, by rw [hc1]; rfl, by rw [hc1]; simpa using hc2, fun cur' hs' hk' => ?_⟩
  refine ⟨cur', rc, og.hB, setRow_heap w _ _ _ _ _ og.hw, hs'.trans og.hsz, by simpa using og.hcap, og.hmax, fun k hk => og.hB' k (by simpa using hk), fun k r' hk => ?_, fun k r' hk => ?_, fun k r' m q hk hm => ?_, og.hg, fun k o hk => og.hg' k o (by simpa using hk), fun k hk => og.hne k (by simpa using hk), fun k m hk hm => og.hinj k m (by simpa using hk) (by simpa using hm)⟩
  · have hkl : k < rows.length := by simpa using (List.getElem?_eq_some_iff.1 hk).1
    rw [hk' (k * 2 + 1), if_neg (by omega)]
    have key : ∃ r'', rows[k]? = some r'' ∧ r''.tail = r'.tail := by
      by_cases e : k = i
      · subst e
        rw [List.getElem?_set_self hi] at hk
        cases hk
        exact ⟨_, hr, rfl⟩
      · rw [List.getElem?_set_ne (Ne.symm e)] at hk
        exact ⟨r', hk, rfl⟩
    obtain ⟨r'', hk2, het⟩ := key
    obtain ⟨b1, b2, b3, b4⟩ := og.hrow k r'' hk2
    rw [het] at b1 b2
    exact ⟨b1, b2, by rw [setRow_other w _ _ _ (og.hne k hkl)]; exact b3, b4⟩
  · by_cases e : k = i
    · subst e
      rw [List.getElem?_set_self hi] at hk
      cases hk
      rw [hk', if_pos (by omega)]
      refine ⟨hp1, ?_⟩
      rw [hc1]
      simpa using ev
    · rw [List.getElem?_set_ne (Ne.symm e)] at hk
      rw [hk', if_neg (by omega)]
      exact og.hh k r' hk
  · by_cases e : k = i
    · subst e
      rw [List.getElem?_set_self hi] at hk
      cases hk
      exact og.hv k _ m q hr hm
    · rw [List.getElem?_set_ne (Ne.symm e)] at hk
      exact og.hv k r' m q hk hm

end

section
variable {P : Program} {o : Oper} {ev : Operand → PV} {hp : List HO}
theorem ps_len_sg {t e : TypeId} {s by_ : Nat} [ht : SlT P t e s by_] {x : Operand} {e1 e2 id n : Nat} {rows : List (List PV)} {tys : Array TypeId} (ho : o.op = .call { callee := .builtin .len, args := #[x], argTypes := tys }) (htys : tys = #[t])
    (h1 : ev x = .hp id) (hh : hp[id]? = some (.sg e1 e2 n rows)) : PStep P o ev hp (I (rows.length + n : Nat)) :=
  .of_run fun w0 g ρ w av hb hx => by
    have e1 := hx x (by simp [ho, Op.operands, Call.operands])
    subst htys
    rw [h1] at e1
    have ea := HpV.sg e1 _ _ _ _ hh
    exact ⟨.int .i64 (rows.length + n : Nat), by simp [execOp, ho, resolve, invoke, builtin, Builtin.len_, ea, run_underlying ht.hu, goInt, go_sem], .val _⟩
theorem ps_index_sg {t e : TypeId} {by_ : Nat} [ht : SlT P t e 2 by_] {x ix : Operand} {e1 e2 : TypeId} {n : Nat} {rows : List (List PV)} {i : Int} {id : Nat} (ho : o.op = .indexAddr t x ix) (h1 : ev x = .hp id)
    (hh : hp[id]? = some (.sg e1 e2 n rows)) (h2 : ev ix = I i) (h0 : 0 ≤ i) (hq : i.toNat < rows.length + n) : PStep P o ev hp (.hat id (i.toNat * 2)) :=
  .of_run fun w0 g ρ w av hb hx => by
    have e1 := hx x (by simp [ho, Op.operands])
    have e2 := val_of (hx ix (by simp [ho, Op.operands])) h2
    rw [h1] at e1
    have ea := HpV.sg e1 _ _ _ _ hh
    refine ⟨.pointer (some ⟨(ρ id).blk, i.toNat * 2, none⟩), ?_, rfl⟩
    have hi : i < (rows.length : Int) + (n : Int) := by omega
    simp [execOp, ho, ea, e2, Instr.indexAt, asIntOf, run_underlying ht.hu, ht.hs, h0, hi, Addr.add_n, go_sem]
theorem ps_load_sg {t : TypeId} [ht : CellT P t] {x : Operand} {id i k n : Nat} {e1 e2 : TypeId} {rows : List (List PV)} (ho : o.op = .load t x) (h1 : ev x = .hat id k) (hh : hp[id]? = some (.sg e1 e2 n rows)) (hk : k = i * 2 + 1) (hi : i < rows.length) : PStep P o ev hp (.gr id i) :=
  .of_run fun w0 g ρ w av hb hx => by
    subst hk
    have ea : av x = .pointer (some ⟨(ρ id).blk, i * 2 + 1, none⟩) := by have := hx x (by simp [ho, Op.operands]); rw [h1] at this; exact this
    obtain ⟨cur, rc, hown⟩ := hb.own id _ hh
    have hcap := hown.hcap
    have hc := own_load hown.hw (i := i * 2 + 1) (by rw [hown.hsz]; omega)
    refine ⟨cur.getD (i * 2 + 1) undef, ?_, (⟨⟨_, _, _, (hown.hrow i _ (List.getElem?_eq_getElem hi)).1⟩, fun e1' e2' rows' r hid hr => (by rw [hh] at hid; cases hid), fun e1' e2' k' rows' r hid hr => ?_⟩ : GrV _ _ _ _ _)⟩
    · simp only [execOp, ho, ea]
      refine run_value ?_
      unfold Instr.loadAt Instr.sureAddr loadVar
      simp only [Sem.run_bind, run_pure, Result.andThen, ht.ha]
      simp [load, Sem.run, hc]
    · rw [hh] at hid
      cases hid
      exact (hown.hrow i r hr).1
end
end Go.Pv
