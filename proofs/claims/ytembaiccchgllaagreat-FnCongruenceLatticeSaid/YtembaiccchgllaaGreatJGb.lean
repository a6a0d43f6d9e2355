/- Algebras: arguments, places, compositions of tables on both sides. -/
import Derived.Deep.QuietTactic
import Derived.Test.YtembaiccchgllaaGreatJGa
import Derived.Test.YtembaiccchgllaaGreatJNb
import Derived.Test.YtembaiccchgllaaGreatJLy
import Derived.Test.YtembaiccchgllaaGreatJPr
set_option linter.unusedSectionVars false
namespace Go.Proofs.YtembaiccchgllaaGreat
open Go Go.Pv Go.Proofs
set_option maxHeartbeats 32000000
set_option maxRecDepth 100000
attribute [local bitvec_to_nat] St.put St.setObj St.ev killP killA killP1 killH mapHO renP renA ren1 killG killGA killG1 krowP krowA krow1 lendP lendA lend1 unv pinP pin1 elemsM viewM viewN viewV n_set_z n_set_s n_map_c n_map_n getD_z getD_s n_toNat n_cond_t n_cond_f n_len_c n_len_n n_app_c n_app_n n_take_s n_take_z n_drop_s n_drop_z n_get_z n_get_s view viewA view1 elems Nat.zero_add Nat.add_zero Bool.not_true Bool.not_false Nat.one_ne_zero Nat.mul_one

theorem gsame_c (xs ys : List Int) (hl : xs.length ≤ 9223372036854775807) : PCalls Tryz.prog 257 [ints xs, ints ys] (B (decide (xs = ys))) := by
  refine pcalls1 Tryz.func257 rfl Tryz.ntmps257 rfl ?_
  simp only [List.length_cons, List.length_nil, Nat.reduceAdd, Nat.reduceSub, List.replicate_succ, List.replicate_zero, List.cons_append, List.nil_append]
  repeat' (first
| refine g_seq ?_
| refine zJ ?_
| refine zC ?_
| (refine o_go rfl ?_; (first
| refine p_p (zD rfl) ?_
| refine p_p (zA rfl) ?_
| refine p_p (zU rfl rfl rfl) ?_
| refine p_p (ps_neq rfl rfl rfl) ?_); refine ⟨_, aA, ?_⟩)
| refine o_nil ?_
| (refine g_condN rfl (fun hc => ?_) (fun hc => ?_) <;> try (exfalso; omega))
| refine kr1 ?_
| refine krB rfl ?_
| refine zR ?_
| refine g_ret ?_)
  · exact Eq.symm (decide_eq_false fun e => hc (by rw [e]))
  have hlen : xs.length = ys.length := by omega
  refine g_loopT (α := Nat) (fun k => [(5, I k)]) (fun _ => []) (fun k => k ≤ xs.length ∧ xs.take k = ys.take k) (fun k => xs.length - k) 0 aF ⟨Nat.zero_le _, by simp⟩ ⟨rfl, trivial⟩ rfl ?_
  clear hc
  rintro k ⟨hk, hno⟩
  dsimp only [zZ, List.set_cons_zero, List.set_cons_succ]
  repeat' (first
| refine g_seq ?_
| refine zJ ?_
| refine zC ?_
| refine zP (by kernel_rfl) (by kernel_rfl) ?_
| (refine o_go rfl ?_; (first
| refine p_p (zD rfl) ?_
| refine p_p (zA rfl) ?_
| refine p_p (zF rfl rfl) ?_
| refine p_p (zN rfl rfl rfl (by omega) aM (by exact rfl)) ?_
| refine p_p (zU rfl rfl rfl) ?_
| refine p_p (zS rfl rfl rfl) ?_
| refine p_p (ps_add rfl rfl rfl aN) ?_
| refine p_p (ps_neq rfl rfl rfl) ?_); refine ⟨_, aA, ?_⟩)
| refine o_nil ?_
| (refine g_condN rfl (fun hc => ?_) (fun hc => ?_) <;> try (exfalso; omega))
| (refine zK rfl (fun hc => ?_) (fun hc => ?_) <;> try (exfalso; omega))
| refine kr1 ?_
| refine krB rfl ?_
| refine zR ?_
| refine g_exit ?_
| refine g_ret ?_)
  · exact Eq.symm (decide_eq_false (eq_at (k := k) 0 hc))
  · refine zT (k + 1) ⟨by omega, ?_⟩ (by omega) aI ⟨rfl, trivial⟩ (zM _)
    rw [take_snoc 0 (by omega), take_snoc 0 (by omega), hno, hc]
  · rw [(take_full hk hc).1, show k = ys.length by omega, List.take_length] at hno
    exact Eq.symm (decide_eq_true hno)
theorem gisame_c (xs ys : List Int) (hl : xs.length ≤ 1048576) : PCalls Tryz.prog 256 [ints xs, ints ys] (B (decide (xs = ys))) := by
  refine pcalls1 Tryz.func256 rfl Tryz.ntmps256 rfl ?_
  simp only [List.length_cons, List.length_nil, Nat.reduceAdd, Nat.reduceSub, List.replicate_succ, List.replicate_zero, List.cons_append, List.nil_append]
  repeat' (first
| refine g_seq ?_
| refine zJ ?_
| refine zC ?_
| (refine o_go rfl ?_; (first
| refine p_p (zD rfl) ?_
| refine p_p (zA rfl) ?_
| refine p_p (zU rfl rfl rfl) ?_
| refine p_p (ps_neq rfl rfl rfl) ?_); refine ⟨_, aA, ?_⟩)
| refine o_nil ?_
| (refine g_condN rfl (fun hc => ?_) (fun hc => ?_) <;> try (exfalso; omega))
| refine kr1 ?_
| refine krB rfl ?_
| refine zR ?_
| refine g_ret ?_)
  · exact Eq.symm (decide_eq_false fun e => hc (by rw [e]))
  have hlen : xs.length = ys.length := by omega
  refine g_loopT (α := Nat) (fun k => [(14, I k)]) (fun _ => []) (fun k => k ≤ xs.length ∧ xs.take k = ys.take k) (fun k => xs.length - k) 0 aF ⟨Nat.zero_le _, by simp⟩ ⟨rfl, trivial⟩ rfl ?_
  clear hc
  rintro k ⟨hk, hno⟩
  dsimp only [zZ, List.set_cons_zero, List.set_cons_succ]
  repeat' (first
| refine g_seq ?_
| refine zJ ?_
| refine zC ?_
| (refine o_go rfl ?_; (first
| refine p_p (zD rfl) ?_
| refine p_p (zA rfl) ?_
| refine p_p (zF rfl rfl) ?_
| refine p_p (zN rfl rfl rfl (by omega) aM (by exact rfl)) ?_
| refine p_p (zS rfl rfl rfl) ?_
| refine p_p (ps_add rfl rfl rfl aN) ?_
| refine p_p (ps_neq rfl rfl rfl) ?_); refine ⟨_, aA, ?_⟩)
| refine o_nil ?_
| (refine g_condN rfl (fun hc => ?_) (fun hc => ?_) <;> try (exfalso; omega))
| (refine zK rfl (fun hc => ?_) (fun hc => ?_) <;> try (exfalso; omega))
| refine kr1 ?_
| refine krB rfl ?_
| refine zR ?_
| refine g_exit ?_
| refine g_ret ?_)
  · exact Eq.symm (decide_eq_false (eq_at (k := k) 0 fun e => hc e.symm))
  · refine zT (k + 1) ⟨by omega, ?_⟩ (by omega) aI ⟨rfl, trivial⟩ (zM _)
    rw [take_snoc 0 (by omega), take_snoc 0 (by omega), hno, hc]
  · rw [(take_full hk hc).1, show k = ys.length by omega, List.take_length] at hno
    exact Eq.symm (decide_eq_true hno)
theorem mul_bound {a n b : Int} {N : Nat} (h0 : 0 ≤ a) (h1 : a ≤ 1000000000) (hn0 : 0 ≤ n) (hn : n ≤ 1000) (_hb : b = a * n) (_ : N = 0) : 0 ≤ a * n ∧ a * n ≤ 1000000000000 :=
  ⟨Int.mul_nonneg h0 hn0, by calc a * n ≤ 1000000000 * n := Int.mul_le_mul_of_nonneg_right h1 hn0
                              _ ≤ 1000000000 * 1000 := Int.mul_le_mul_of_nonneg_left hn (by decide)
                              _ = 1000000000000 := by decide⟩
theorem idxL_le {n : Nat} {l : List Int} (hn : n ≤ 1000) (hl : l.length ≤ 3) (h : ∀ x ∈ l, 0 ≤ x ∧ x < (n : Int)) : 0 ≤ idxL n l ∧ idxL n l ≤ 1000000000 := by
  obtain ⟨h1, h2⟩ := idxL_bound l h
  have := pow_le3 hn hl
  omega
theorem getD_at {l : List Int} {i : Nat} (h : i < l.length) : l.getD i 0 ∈ l := by
  rw [List.getD_eq_getElem?_getD, List.getElem?_eq_getElem h]; exact List.getElem_mem _
theorem drop_cons {α : Type} {l : List α} {i : Nat} (d : α) (h : i < l.length) : l.drop i = l.getD i d :: l.drop (i + 1) := by
  rw [List.drop_eq_getElem_cons h, List.getD_eq_getElem?_getD, List.getElem?_eq_getElem h]; rfl
def lenOk (T : List (List Int)) : Prop := T.length ≤ 1048576 ∧ ∀ t ∈ T, t.length ≤ 1048576
theorem lenOk.at {T : List (List Int)} (h : lenOk T) {i : Nat} (hi : i < T.length) : (T.getD i []).length ≤ 1048576 := by
  rw [List.getD_eq_getElem?_getD, List.getElem?_eq_getElem hi]; exact h.2 _ (List.getElem_mem _)
def prjL (n k place : Nat) : List Int := (List.range (n ^ k)).map fun i => (argsL n k i).getD place 0
theorem range_snoc {α : Type} (f : Nat → α) (i : Nat) : (List.range (i + 1)).map f = (List.range i).map f ++ [f i] := by rw [List.range_succ, List.map_append]; rfl
def rowAt (ts : List (List Int)) (i : Nat) : List Int := ts.map fun t => t.getD i 0
def cmpL (n : Int) (f : List Int) (ts : List (List Int)) (size : Nat) : List Int := (List.range size).map fun i => f.getD (idxL n (rowAt ts i)).toNat 0
def tabsOk (n size : Nat) (ts : List (List Int)) : Prop := ∀ t ∈ ts, t.length = size ∧ ∀ x ∈ t, 0 ≤ x ∧ x < (n : Int)
theorem tabsOk.row {n size i : Nat} {ts : List (List Int)} (h : tabsOk n size ts) (hi : i < size) : ∀ x ∈ rowAt ts i, 0 ≤ x ∧ x < (n : Int) := fun x hx => by
  obtain ⟨t, ht, rfl⟩ := List.mem_map.1 hx
  obtain ⟨h1, h2⟩ := h t ht
  exact h2 _ (getD_at (by omega))
end Go.Proofs.YtembaiccchgllaaGreat
/- The layer: an owned block of cells that is reached by a slice: its cells may name other objects. -/
namespace Go.Pv
open Go
attribute [local semireducible] Go.Pv.Goal Go.Pv.Ops Go.Pv.PStep Go.Pv.EStep Go.Pv.KRets Go.Pv.PCalls Go.Pv.OpsG
section
variable {P : Program} {o : Oper} {S : St} {ev : Operand → PV} {hp : List HO}
theorem g_viewBox {c : Code} {K : Exit → St → Prop} (n : Nat) {l : List PV} (hn : S.hp[n]? = some (.box l)) (h : ∃ S', St.mk S.fr (S.hp.set n (.box (l.map (Pv.view1 S.hp)))) = S' ∧ Goal P c K S') : Goal P c K S := by
  obtain ⟨S', rfl, h⟩ := h
  unfold Goal at h ⊢
  intro w0 g ρ a w Q hr hQ
  refine h w0 g ρ a w Q (rel_swap hr hn (x' := .box (l.map (Pv.view1 S.hp))) (fun hp' hx => ?_) (fun b hb => hb) (fun v hp' h' hh => ?_) (fun e1 e2 rows h => by cases h)) hQ
  · obtain ⟨cur, e, h1, h2, h3, h4, h5⟩ := hx
    refine ⟨cur, e, h1, h2, by rw [List.length_map]; exact h3, fun k q hk => ?_, h5⟩
    rw [List.getElem?_map, Option.map_eq_some_iff] at hk
    obtain ⟨p, hp', rfl⟩ := hk
    exact .of_VR (hr.base.view1 (h4 k p hp'))
  · exact { sl := hh.sl, arr := fun m s' e2 l' hid => (by rw [h'] at hid; cases hid), grid := fun e1 e2 rows hid => (by rw [h'] at hid; cases hid), sg := fun e1 e2 m rows hid => (by rw [h'] at hid; cases hid),
            pg := fun e1 e2 m rows hid => (by rw [h'] at hid; cases hid),
            box := fun l' hid => (by rw [h'] at hid; cases hid; rw [List.length_map]; exact hh.box _ hn) }
theorem EStep.cast {S' S2 : St} (h : EStep P o S S') (e : S' = S2) : EStep P o S S2 := e ▸ h
end
end Go.Pv
/- The comparison that the program sorts by: it reads and draws only. -/
namespace Go.Proofs.YtembaiccchgllaaGreat
open Go Go.Proofs Go.Shelf Go.RowKit Go.Lib Go.Sort
set_option maxHeartbeats 32000000
set_option maxRecDepth 100000

theorem one_one {p : Pv.PV} (h : p.one = true) : ∀ q ∈ [p], ∀ c, q.flat = some c → (c.all Pv.PV.one) = true := Pv.one_one h

theorem cmpLists_q (w : World) (bs bt cs ct : Nat) (s t : List Int) (hs : ∀ k, k < s.length → w.cell? ⟨bs, k, none⟩ = some (.int .i64 (s.getD k 0))) (ht : ∀ k, k < t.length → w.cell? ⟨bt, k, none⟩ = some (.int .i64 (t.getD k 0))) (hls : s.length ≤ 1048576) (hlt : t.length ≤ 1048576) :
    Calls Tryz.prog 309 #[.slice (some ⟨bs, 0, none⟩) s.length cs, .slice (some ⟨bt, 0, none⟩) t.length ct] w fun e w' => e = .returned (.int .i64 (cmpX s t)) ∧ ∃ q, w' = w.drewN q := by
  go_enter Tryz.func309, Tryz.ntmps309
  go_wp2
  go_loopw [5] (fun vi wr => ∃ (i n : Nat), vi = .int .i64 i ∧ i ≤ s.length ∧ i ≤ t.length ∧ wr = w.drewN n ∧ cmpX (s.drop i) (t.drop i) = cmpX s t) (fun vi _ => s.length - (intOf vi).toNat)
  case atStart => exact ⟨0, 0, by go_num, Nat.zero_le _, Nat.zero_le _, rfl, rfl⟩
  case round =>
    obtain ⟨i, n, rfl, hi, hj, rfl, hc⟩ := hrel
    by_cases h1 : i < s.length
    · have ci := hs i h1
      have es := drop_cons' 0 h1
      by_cases h2 : i < t.length
      · have cj := ht i h2
        have et := drop_cons' 0 h2
        rw [es, et] at hc
        generalize s.getD i 0 = x at ci hc
        generalize t.getD i 0 = y at cj hc
        have Hc : Hid (cmpX (x :: s.drop (i + 1)) (y :: t.drop (i + 1)) = cmpX s t) := hc
        clear hc es et hs ht
        by_cases he : x = y
        · subst he
          go_wp2
          go_quiet (fail)
          go_wp2
          case roundEnd => exact ⟨⟨i + 1, n + nq, by go_num, by omega, by omega, rfl, by have := Hc.out; simpa only [cmpX, if_true] using this⟩, by simp [intOf]; omega⟩
        · go_wp2
          go_quiet (fail)
          rw [show (x != y) = true by simp [he]]
          go_wp2
          go_quiet (fail)
          by_cases hlt : x < y
          · rw [decide_eq_true hlt]
            have hv : cmpX s t = -1 := by have := Hc.out; simp only [cmpX, if_neg he, if_pos hlt] at this; exact this.symm
            go_wp2
            go_ret
            try rw [hv]
            first | exact ⟨rfl, _, rfl⟩ | exact ⟨rfl, _, by rw [World.drewN_drewN, World.drewN_drewN]⟩
          · rw [decide_eq_false hlt]
            have hv : cmpX s t = 1 := by have := Hc.out; simp only [cmpX, if_neg he, if_neg hlt] at this; exact this.symm
            go_wp2
            go_ret
            try rw [hv]
            first | exact ⟨rfl, _, rfl⟩ | exact ⟨rfl, _, by rw [World.drewN_drewN, World.drewN_drewN]⟩
      · have hv : cmpX s t = 1 := by rw [es, List.drop_of_length_le (Nat.le_of_not_lt h2)] at hc; exact hc.symm
        clear hc es hs ht ci
        go_wp2
        all_goals first | (exfalso; omega) | (go_ret; rw [hv]; exact ⟨rfl, _, rfl⟩)
    · by_cases h2 : i < t.length
      · have hv : cmpX s t = -1 := by rw [drop_cons' 0 h2, List.drop_of_length_le (Nat.le_of_not_lt h1)] at hc; exact hc.symm
        clear hc hs ht
        go_wp2
        all_goals first | (exfalso; omega) | (go_ret; rw [hv]; exact ⟨rfl, _, rfl⟩)
      · have hv : cmpX s t = 0 := by rw [List.drop_of_length_le (Nat.le_of_not_lt h2), List.drop_of_length_le (Nat.le_of_not_lt h1)] at hc; exact hc.symm
        clear hc hs ht
        go_wp2
        all_goals first | (exfalso; omega) | (go_ret; rw [hv]; exact ⟨rfl, _, rfl⟩)
end Go.Proofs.YtembaiccchgllaaGreat
/- The layer: the bytes of a text. -/
namespace Go.Pv
open Go
attribute [local semireducible] Go.Pv.Goal Go.Pv.Ops Go.Pv.PStep Go.Pv.EStep Go.Pv.KRets Go.Pv.PCalls Go.Pv.OpsG
section
variable {P : Program} {o : Oper} {ev : Operand → PV} {hp : List HO}
abbrev strP (s : ByteArray) : PV := .val (.string s)
def byteAt (s : ByteArray) (i : Nat) : Int := match s[i]? with
  | some b => (b.toNat : Int)
  | none => 0
theorem ps_len_str {t : TypeId} {x : Operand} {s : ByteArray} {tys : Array TypeId} (hu : P.underlying t = some .string) (ho : o.op = .call { callee := .builtin .len, args := #[x], argTypes := tys }) (htys : tys = #[t]) (h1 : ev x = strP s) : PStep P o ev hp (I s.size) :=
  .of_run fun w0 g ρ w av hb hx => by
    subst htys
    have e1 := val_of (hx x (by simp [ho, Op.operands, Call.operands])) h1
    exact ⟨.int .i64 s.size, by simp [execOp, ho, resolve, invoke, builtin, Builtin.len_, e1, run_underlying hu, goInt, go_sem], .val _⟩
theorem ps_index_str {t : TypeId} {x ix : Operand} {s : ByteArray} {i : Int} (hu : P.underlying t = some .string) (ho : o.op = .index t x ix) (h1 : ev x = strP s) (h2 : ev ix = I i) (h0 : 0 ≤ i) (hq : i.toNat < s.size) : PStep P o ev hp (Y (byteAt s i.toNat)) :=
  .of_run fun w0 g ρ w av hb hx => by
    have e1 := val_of (hx x (by simp [ho, Op.operands])) h1
    have e2 := val_of (hx ix (by simp [ho, Op.operands])) h2
    have e3 : s[i.toNat]? = some s[i.toNat] := getElem?_pos s i.toNat hq
    refine ⟨.int .u8 (byteAt s i.toNat), ?_, .val _⟩
    unfold byteAt
    rw [e3]
    simp [execOp, ho, e1, e2, Instr.index, asIntOf, run_underlying hu, h0, e3, go_sem]
theorem ps_subY {t rt : TypeId} {x y : Operand} {a b : Int} (ho : o.op = .binOp .sub t x y rt) (h1 : ev x = Y a) (h2 : ev y = Y b) : PStep P o ev hp (Y (IntKind.u8.wrap (a - b))) := ps_bin ho h1 h2 fun w => by simp [go_sem]
end
end Go.Pv
