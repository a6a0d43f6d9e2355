/- Plain: there is a list of all congruences, and on few elements it is short. -/
import Derived.Deep.QuietTactic
import Derived.Test.YtkdagmbgjddopaaJKf
import Derived.Test.YtkdagmbgjddopaaJKe
import Derived.Test.YtkdagmbgjddopaaJZb
import Derived.Test.YtkdagmbgjddopaaJSt
namespace Go.Proofs.Ytkdagmbgjddopaa
open Go Go.Pv Go.Proofs

def ptAll : Nat → List (List Int)
  | 0 => [[]]
  | k + 1 => (ptAll k).flatMap fun l => (List.range (k + 1)).map fun (v : Nat) => l ++ [(v : Int)]
theorem sum_const {α : Type} (c : Nat) : ∀ l : List α, (l.map fun _ => c).sum = l.length * c
  | [] => by simp
  | a :: l => by rw [List.map_cons, List.sum_cons, sum_const c l, List.length_cons, Nat.add_mul]; omega
theorem ptAll_len (k : Nat) : (ptAll (k + 1)).length = (ptAll k).length * (k + 1) := by
  show ((ptAll k).flatMap _).length = _
  rw [List.length_flatMap]
  simp only [List.length_map, List.length_range]
  exact sum_const _ _
theorem ptAll_0 : (ptAll 0).length = 1 := rfl
theorem ptAll_mem : ∀ (k : Nat) (l : List Int), l.length = k → (∀ x, x < k → 0 ≤ l.getD x 0 ∧ l.getD x 0 ≤ (x : Int)) → l ∈ ptAll k
  | 0, l, h, _ => by rw [List.length_eq_zero_iff.1 h]; exact List.mem_singleton.2 rfl
  | k + 1, l, h, hb => by
    obtain ⟨m, v, rfl⟩ : ∃ m v, l = m ++ [v] := ⟨l.dropLast, l.getLast (by intro e; rw [e] at h; simp at h), (List.dropLast_concat_getLast _).symm⟩
    have hm : m.length = k := by simpa using h
    have hlow : ∀ x, x < k → (m ++ [v]).getD x 0 = m.getD x 0 := fun x hx => by
      rw [List.getD_eq_getElem?_getD, List.getElem?_append_left (by omega), List.getD_eq_getElem?_getD]
    have hv : (m ++ [v]).getD k 0 = v := by
      rw [List.getD_eq_getElem?_getD, List.getElem?_append_right (by omega), hm, Nat.sub_self]; rfl
    have h2 := hb k (by omega)
    rw [hv] at h2
    refine List.mem_flatMap.2 ⟨m, ptAll_mem k m hm fun x hx => by have := hb x (by omega); rwa [hlow x hx] at this, List.mem_map.2 ⟨v.toNat, List.mem_range.2 (by omega), ?_⟩⟩
    rw [show ((v.toNat : Nat) : Int) = v by omega]
theorem pt_ptAll {n : Nat} {p : List Int} (h : Pt n p) : p ∈ ptAll n := ptAll_mem n p h.len fun x hx => ⟨h.nn x hx, by have := h.le x hx; rw [h.val hx]; omega⟩
theorem pt_few {n : Nat} (hn : n ≤ 5) {L : List (List Int)} (hd : L.Nodup) (h : ∀ q ∈ L, Pt n q) : L.length ≤ 120 := by
  refine Nat.le_trans (len_le_sub hd fun q hq => pt_ptAll (h q hq)) ?_
  have : n = 0 ∨ n = 1 ∨ n = 2 ∨ n = 3 ∨ n = 4 ∨ n = 5 := by omega
  rcases this with rfl | rfl | rfl | rfl | rfl | rfl <;> simp only [ptAll_len, ptAll_0, Nat.reduceMul, Nat.reduceAdd] <;> decide
theorem foldPut {n : Nat} : ∀ (M L : List (List Int)), AscC n L → AscC n (M.foldl (putC n) L) ∧ ∀ q, q ∈ M.foldl (putC n) L ↔ q ∈ L ∨ q ∈ M
  | [], L, h => ⟨h, fun q => by simp⟩
  | p :: M, L, h => by
    obtain ⟨h1, h2⟩ := foldPut M (putC n L p) (putC_asc h)
    refine ⟨h1, fun q => ?_⟩
    rw [List.foldl_cons, h2, putC_mem, List.mem_cons, or_assoc]
open Classical in
theorem allC_ex (n : Nat) (ops : List OpD) : ∃ L, AllC n ops L := by
  obtain ⟨h1, h2⟩ := foldPut (n := n) ((ptAll n).filter fun q => decide (Pt n q ∧ Cong n ops q)) [] List.Pairwise.nil
  refine ⟨_, h1, fun q => ?_⟩
  rw [h2, List.mem_filter, decide_eq_true_eq]
  constructor
  · rintro (h | h)
    · cases h
    · exact h.2
  · exact fun h => .inr ⟨pt_ptAll h.1, h⟩
noncomputable def allL (n : Nat) (ops : List OpD) : List (List Int) := (allC_ex n ops).choose
theorem allL_all (n : Nat) (ops : List OpD) : AllC n ops (allL n ops) := (allC_ex n ops).choose_spec
theorem AllC.eq {n : Nat} {ops : List OpD} {L : List (List Int)} (h : AllC n ops L) : L = allL n ops := h.unique (allL_all n ops)
theorem allL_mem {n : Nat} {ops : List OpD} {q : List Int} : q ∈ allL n ops ↔ Pt n q ∧ Cong n ops q := (allL_all n ops).2 q
theorem allL_few {n : Nat} (hn : n ≤ 5) (ops : List OpD) : (allL n ops).length ≤ 120 := pt_few hn (ascC_nodup (allL_all n ops).1) fun q hq => (allL_mem.1 hq).1
end Go.Proofs.Ytkdagmbgjddopaa
/- The layer: a slice of structs, each of a number and a row that the call owns. -/
namespace Go.Pv
open Go
attribute [local semireducible] Go.Pv.Goal Go.Pv.Ops Go.Pv.PStep Go.Pv.EStep Go.Pv.KRets Go.Pv.PCalls Go.Pv.OpsG Go.Pv.LCalls
def killR1 (k : Nat) : PV → PV
  | .gat _ _ _ => .any
  | .gr _ _ => .any
  | p => killP1 k p
def killRA (k : Nat) : PV → PV
  | .agg l => .agg (l.map (killR1 k))
  | p => killR1 k p
def killR (k : Nat) : PV → PV
  | .tup l => .tup (l.map (killRA k))
  | .agg l => .agg (l.map (killR1 k))
  | p => killR1 k p
section
variable {P : Program} {o : Oper} {S : St}
theorem e_store_sg0 {t : TypeId} [ht : CellT P t] {x v : Operand} {id i k : Nat} {e1 e2 : TypeId} {n : Nat} {rows : List (List PV)} {r : List PV} {h0 p : PV} (ho : o.op = .store t x v) (hd : o.dst = none) (h1 : S.ev x = .hat id k) (hh : S.hp[id]? = some (.sg e1 e2 n rows))
    (hk : k = i * 2) (hr : rows[i]? = some (h0 :: r)) (h2 : view S.hp (S.ev v) = p) (hp1 : p.one = true) : EStep P o S ⟨S.fr, S.hp.set id (.sg e1 e2 n (rows.set i (p :: r)))⟩ := by
  subst hk
  have hi : i < rows.length := (List.getElem?_eq_some_iff.1 hr).1
  have hrows : ∀ (k : Nat) (r' : List PV), (rows.set i (p :: r))[k]? = some r' → ∃ r'' : List PV, rows[k]? = some r'' ∧ r''.tail.length = r'.tail.length := fun k r' hk => by
    rw [List.getElem?_set] at hk
    split at hk
    · rename_i e; subst e
      simp only [Option.some.injEq] at hk
      subst hk
      exact ⟨_, hr, rfl⟩
    · exact ⟨r', hk, rfl⟩
  refine EStep.of_store ht.hs ho hd hh (fun m s e l h => by cases h) (fun e1' e2' rows' h => by cases h) (fun e1 e2 n rows h => by cases h) (fun L b h => by simpa [foot] using h) (fun w0 g ρ a w hrel _ => ?_) (fun l h => by cases h) (fun e1' e2' n' rows' h => by cases h; exact ⟨_, _, _, rfl, by simp, hrows⟩)
  obtain ⟨cur, rc, og⟩ := hrel.base.own id _ hh
  have ea : a.eval x = .pointer (some ⟨(ρ id).blk, i * 2, none⟩) := by have := hrel.ev x; rw [h1] at this; exact this
  have ev := hrel.base.view (hrel.ev v)
  rw [h2] at ev
  obtain ⟨hc1, hc2⟩ := ev.oneCell hp1
  have hcap := og.hcap
  refine ⟨_, i * 2, cur, e1, ea, .inl rfl, og.hB, og.hw, og.hg, by rw [og.hsz]; omega, by rw [hc1]; rfl, by rw [hc1]; simpa using hc2, fun cur' hs' hk' => ?_⟩
  refine ⟨cur', rc, og.hB, setRow_heap w _ _ _ _ _ og.hw, hs'.trans og.hsz, by simpa using og.hcap, og.hmax, fun k hk => og.hB' k (by simpa using hk), fun k r' hk => ?_, fun k r' hk => ?_, fun k r' m q hk hm => ?_, og.hg, fun k o hk => og.hg' k o (by simpa using hk), fun k hk => og.hne k (by simpa using hk), fun k m hk hm => og.hinj k m (by simpa using hk) (by simpa using hm)⟩
  · have hkl : k < rows.length := by simpa using (List.getElem?_eq_some_iff.1 hk).1
    rw [hk' (k * 2 + 1), if_neg (by omega)]
    have key : ∃ r'', rows[k]? = some r'' ∧ r''.tail = r'.tail := by
      by_cases e : k = i
      · subst e
        rw [List.getElem?_set_self hi] at hk
        cases hk
        exact ⟨_, hr, rfl⟩
      · rw [List.getElem?_set_ne (Ne.symm e)] at hk
        exact ⟨r', hk, rfl⟩
    obtain ⟨r'', hk2, het⟩ := key
    obtain ⟨b1, b2, b3, b4⟩ := og.hrow k r'' hk2
    rw [het] at b1 b2
    exact ⟨b1, b2, by rw [setRow_other w _ _ _ (og.hne k hkl)]; exact b3, b4⟩
  · by_cases e : k = i
    · subst e
      rw [List.getElem?_set_self hi] at hk
      cases hk
      rw [hk', if_pos (by omega)]
      refine ⟨hp1, ?_⟩
      rw [hc1]
      simpa using ev
    · rw [List.getElem?_set_ne (Ne.symm e)] at hk
      rw [hk', if_neg (by omega)]
      exact og.hh k r' hk
  · by_cases e : k = i
    · subst e
      rw [List.getElem?_set_self hi] at hk
      cases hk
      exact og.hv k _ m q hr hm
    · rw [List.getElem?_set_ne (Ne.symm e)] at hk
      exact og.hv k r' m q hk hm

end

section
variable {P : Program} {o : Oper} {S : St}
theorem e_lit1A {t e : TypeId} {s by_ : Nat} [ht : SlT P t e s by_] {zs : List Value} [hz : ZeroT P e zs] {x : Operand} (c : List PV) (ho : o.op = .buildSlice t 1 #[(0, x)]) (h1 : view S.hp (S.ev x) = .agg c) (hc : c.length = s) (hs : 0 < s) (hb : 1 * s ≤ 16777216) :
    EStep P o S (S.setObj S.hp.length (killH S.hp.length S.hp ++ [.arr false s e [.agg c]]) o.dst (.hp S.hp.length)) :=
  e_buildSlice (ht := ht) (hz := hz) ho rfl rfl (by simp [elems, h1]) ⟨⟨c, rfl, hc⟩, trivial⟩ hs hb
end
section
variable {P : Program} {o : Oper} {ev : Operand → PV} {hp : List HO}
theorem ps_len_sg {t e : TypeId} {s by_ : Nat} [ht : SlT P t e s by_] {x : Operand} {e1 e2 id n : Nat} {rows : List (List PV)} {tys : Array TypeId} (ho : o.op = .call { callee := .builtin .len, args := #[x], argTypes := tys }) (htys : tys = #[t])
    (h1 : ev x = .hp id) (hh : hp[id]? = some (.sg e1 e2 n rows)) : PStep P o ev hp (I (rows.length + n : Nat)) :=
  .of_run fun w0 g ρ w av hb hx => by
    have e1 := hx x (by simp [ho, Op.operands, Call.operands])
    subst htys
    rw [h1] at e1
    have ea := HpV.sg e1 _ _ _ _ hh
    exact ⟨.int .i64 (rows.length + n : Nat), by simp [execOp, ho, resolve, invoke, builtin, Builtin.len_, ea, run_underlying ht.hu, goInt, go_sem], .val _⟩
theorem ps_index_sg {t e : TypeId} {by_ : Nat} [ht : SlT P t e 2 by_] {x ix : Operand} {e1 e2 : TypeId} {n : Nat} {rows : List (List PV)} {i : Int} {id : Nat} (ho : o.op = .indexAddr t x ix) (h1 : ev x = .hp id)
    (hh : hp[id]? = some (.sg e1 e2 n rows)) (h2 : ev ix = I i) (h0 : 0 ≤ i) (hq : i.toNat < rows.length + n) : PStep P o ev hp (.hat id (i.toNat * 2)) :=
  .of_run fun w0 g ρ w av hb hx => by
    have e1 := hx x (by simp [ho, Op.operands])
    have e2 := val_of (hx ix (by simp [ho, Op.operands])) h2
    rw [h1] at e1
    have ea := HpV.sg e1 _ _ _ _ hh
    refine ⟨.pointer (some ⟨(ρ id).blk, i.toNat * 2, none⟩), ?_, rfl⟩
    have hi : i < (rows.length : Int) + (n : Int) := by omega
    simp [execOp, ho, ea, e2, Instr.indexAt, asIntOf, run_underlying ht.hu, ht.hs, h0, hi, Addr.add_n, go_sem]
theorem ps_load_sg {t : TypeId} [ht : CellT P t] {x : Operand} {id i k n : Nat} {e1 e2 : TypeId} {rows : List (List PV)} (ho : o.op = .load t x) (h1 : ev x = .hat id k) (hh : hp[id]? = some (.sg e1 e2 n rows)) (hk : k = i * 2 + 1) (hi : i < rows.length) : PStep P o ev hp (.gr id i) :=
  .of_run fun w0 g ρ w av hb hx => by
    subst hk
    have ea : av x = .pointer (some ⟨(ρ id).blk, i * 2 + 1, none⟩) := by have := hx x (by simp [ho, Op.operands]); rw [h1] at this; exact this
    obtain ⟨cur, rc, hown⟩ := hb.own id _ hh
    have hcap := hown.hcap
    have hc := own_load hown.hw (i := i * 2 + 1) (by rw [hown.hsz]; omega)
    refine ⟨cur.getD (i * 2 + 1) undef, ?_, (⟨⟨_, _, _, (hown.hrow i _ (List.getElem?_eq_getElem hi)).1⟩, fun e1' e2' rows' r hid hr => (by rw [hh] at hid; cases hid), fun e1' e2' k' rows' r hid hr => ?_⟩ : GrV _ _ _ _ _)⟩
    · simp only [execOp, ho, ea]
      refine run_value ?_
      unfold Instr.loadAt Instr.sureAddr loadVar
      simp only [Sem.run_bind, run_pure, Result.andThen, ht.ha]
      simp [load, Sem.run, hc]
    · rw [hh] at hid
      cases hid
      exact (hown.hrow i r hr).1
end
end Go.Pv
/- The comparison that the program sorts by: it reads and draws only. -/
namespace Go.Proofs.Ytkdagmbgjddopaa
open Go Go.Proofs Go.Shelf Go.RowKit Go.Lib Go.Sort
set_option maxHeartbeats 32000000
set_option maxRecDepth 100000

theorem one_one {p : Pv.PV} (h : p.one = true) : ∀ q ∈ [p], ∀ c, q.flat = some c → (c.all Pv.PV.one) = true := Pv.one_one h

theorem cmpLists_q (w : World) (bs bt cs ct : Nat) (s t : List Int) (hs : ∀ k, k < s.length → w.cell? ⟨bs, k, none⟩ = some (.int .i64 (s.getD k 0))) (ht : ∀ k, k < t.length → w.cell? ⟨bt, k, none⟩ = some (.int .i64 (t.getD k 0))) (hls : s.length ≤ 1048576) (hlt : t.length ≤ 1048576) :
    Calls Try.prog 102 #[.slice (some ⟨bs, 0, none⟩) s.length cs, .slice (some ⟨bt, 0, none⟩) t.length ct] w fun e w' => e = .returned (.int .i64 (cmpX s t)) ∧ ∃ q, w' = w.drewN q := by
  go_enter Try.func102, Try.ntmps102
  go_wp2
  go_loopw [5] (fun vi wr => ∃ (i n : Nat), vi = .int .i64 i ∧ i ≤ s.length ∧ i ≤ t.length ∧ wr = w.drewN n ∧ cmpX (s.drop i) (t.drop i) = cmpX s t) (fun vi _ => s.length - (intOf vi).toNat)
  case atStart => exact ⟨0, 0, by go_num, Nat.zero_le _, Nat.zero_le _, rfl, rfl⟩
  case round =>
    obtain ⟨i, n, rfl, hi, hj, rfl, hc⟩ := hrel
    by_cases h1 : i < s.length
    · have ci := hs i h1
      have es := drop_cons' 0 h1
      by_cases h2 : i < t.length
      · have cj := ht i h2
        have et := drop_cons' 0 h2
        rw [es, et] at hc
        generalize s.getD i 0 = x at ci hc
        generalize t.getD i 0 = y at cj hc
        have Hc : Hid (cmpX (x :: s.drop (i + 1)) (y :: t.drop (i + 1)) = cmpX s t) := hc
        clear hc es et hs ht
        by_cases he : x = y
        · subst he
          go_wp2
          go_quiet (fail)
          go_wp2
          case roundEnd => exact ⟨⟨i + 1, n + nq, by go_num, by omega, by omega, rfl, by have := Hc.out; simpa only [cmpX, if_true] using this⟩, by simp [intOf]; omega⟩
        · go_wp2
          go_quiet (fail)
          rw [show (x != y) = true by simp [he]]
          go_wp2
          go_quiet (fail)
          by_cases hlt : x < y
          · rw [decide_eq_true hlt]
            have hv : cmpX s t = -1 := by have := Hc.out; simp only [cmpX, if_neg he, if_pos hlt] at this; exact this.symm
            go_wp2
            go_ret
            try rw [hv]
            first | exact ⟨rfl, _, rfl⟩ | exact ⟨rfl, _, by rw [World.drewN_drewN, World.drewN_drewN]⟩
          · rw [decide_eq_false hlt]
            have hv : cmpX s t = 1 := by have := Hc.out; simp only [cmpX, if_neg he, if_neg hlt] at this; exact this.symm
            go_wp2
            go_ret
            try rw [hv]
            first | exact ⟨rfl, _, rfl⟩ | exact ⟨rfl, _, by rw [World.drewN_drewN, World.drewN_drewN]⟩
      · have hv : cmpX s t = 1 := by rw [es, List.drop_of_length_le (Nat.le_of_not_lt h2)] at hc; exact hc.symm
        clear hc es hs ht ci
        go_wp2
        all_goals first | (exfalso; omega) | (go_ret; rw [hv]; exact ⟨rfl, _, rfl⟩)
    · by_cases h2 : i < t.length
      · have hv : cmpX s t = -1 := by rw [drop_cons' 0 h2, List.drop_of_length_le (Nat.le_of_not_lt h1)] at hc; exact hc.symm
        clear hc hs ht
        go_wp2
        all_goals first | (exfalso; omega) | (go_ret; rw [hv]; exact ⟨rfl, _, rfl⟩)
      · have hv : cmpX s t = 0 := by rw [List.drop_of_length_le (Nat.le_of_not_lt h2), List.drop_of_length_le (Nat.le_of_not_lt h1)] at hc; exact hc.symm
        clear hc hs ht
        go_wp2
        all_goals first | (exfalso; omega) | (go_ret; rw [hv]; exact ⟨rfl, _, rfl⟩)
end Go.Proofs.Ytkdagmbgjddopaa
