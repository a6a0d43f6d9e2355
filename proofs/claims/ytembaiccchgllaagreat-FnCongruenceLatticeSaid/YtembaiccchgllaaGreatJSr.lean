/- Distributive lattices: irreducible elements are prime; point maps of lattice maps, lattice maps of point maps. No program here. -/
import Derived.Laws.Small
import Derived.Test.YtembaiccchgllaaGreatJSq
import Derived.Test.YtembaiccchgllaaGreatJKo
import Derived.Test.YtembaiccchgllaaGreatJPr
import Derived.Test.YtembaiccchgllaaGreatJAq
import Derived.Test.YtembaiccchgllaaGreatJNb
import Derived.Test.YtembaiccchgllaaGreatJGb
import Derived.Test.YtembaiccchgllaaGreatJZb
import Derived.Test.YtembaiccchgllaaGreatJZa
import Derived.Test.YtembaiccchgllaaGreatJHn
import Derived.Test.YtembaiccchgllaaGreatJCb
set_option linter.unusedSectionVars false
namespace Go.Proofs.YtembaiccchgllaaGreat
theorem inR_nat {rows : List (List Int)} {x : Int} (h : inR rows x) : ((x.toNat : Nat) : Int) = x ∧ x.toNat < rows.length := by unfold inR at h; omega
theorem less_iff {rows : List (List Int)} {x y : Int} : lessB rows x y = true ↔ x ≠ y ∧ leqB rows x y = true := by unfold lessB; simp
theorem cov_iff {rows : List (List Int)} {x y : Int} : coversB rows x y = true ↔ lessB rows x y = true ∧ ∀ z, inR rows z → lessB rows x z = true → lessB rows z y = true → False := by
  unfold coversB
  rw [Bool.and_eq_true, allN_iff]
  refine and_congr_right fun _ => ⟨fun h z hz h1 h2 => ?_, fun h k hk => ?_⟩
  · obtain ⟨e, l⟩ := inR_nat hz
    have := h z.toNat l
    unfold covP at this
    rw [e, h1, h2] at this
    exact absurd this (by decide)
  · unfold covP
    cases h1 : lessB rows x (k : Int) with
    | false => rfl
    | true =>
      cases h2 : lessB rows (k : Int) y with
      | false => rfl
      | true => exact (h (k : Int) ⟨by omega, by omega⟩ h1 h2).elim
structure LMap (p q : List (List Int)) (f : List Int) : Prop where
  len : f.length = p.length
  mem : ∀ x, inR p x → inR q (im f x)
  bot : im f (botL p) = botL q
  top : im f (topL p) = topL q
  meet : ∀ x y, inR p x → inR p y → im f (meetL p x y) = meetL q (im f x) (im f y)
  join : ∀ x y, inR p x → inR p y → im f (joinL p x y) = joinL q (im f x) (im f y)
theorem LMap.mono {p q : List (List Int)} {f : List Int} (F : LMap p q f) (Lp : Lat p) (Lq : Lat q) {x y : Int} (hx : inR p x) (hy : inR p y) (h : leqB p x y = true) : leqB q (im f x) (im f y) = true := by
  have e := F.meet x y hx hy
  rw [Lp.meet_le hx hy h] at e
  rw [e]
  exact Lq.meet2 _ _ (F.mem x hx) (F.mem y hy)
end Go.Proofs.YtembaiccchgllaaGreat
/- sortRows as a call to which the rows are lent. -/
namespace Go.Proofs.YtembaiccchgllaaGreat
open Go Go.Proofs Go.Shelf Go.RowKit Go.Lib Go.Sort Go.Pv

theorem heap_grow_other (w : World) (q blk : Nat) {α : Type} [Inhabited α] (enc : α → Value) (d : Array α) (os : Array Obj) {k : Nat} (hk : k < w.heap.size) (hne : k ≠ blk) : (grow (putRow enc (Sort.ahead w q) blk 0 d) os).heap[k]? = w.heap[k]? := by
  show ((Array.modify w.heap blk _) ++ os)[k]? = _
  rw [Array.getElem?_append_left (by simpa using hk), Array.getElem?_modify]
  rw [if_neg (Ne.symm hne)]
theorem heap_grow_row (w : World) (q blk : Nat) {α : Type} [Inhabited α] (enc : α → Value) (d : Array α) (os : Array Obj) {cur : Array Value} {e : TypeId} {fz : Nat × Nat} (h : w.heap[blk]? = some (.cells cur e fz)) : (grow (putRow enc (Sort.ahead w q) blk 0 d) os).heap[blk]? = some (.cells (putCells enc 0 d cur) e fz) := by
  have hk : blk < w.heap.size := (Array.getElem?_eq_some_iff.1 h).1
  show ((Array.modify w.heap blk _) ++ os)[blk]? = _
  rw [Array.getElem?_append_left (by simpa using hk), Array.getElem?_modify, if_pos rfl, h]
  rfl
theorem putCells_at {α : Type} [Inhabited α] (enc : α → Value) (d : Array α) (cur : Array Value) (j : Nat) (hj : j < cur.size) : (putCells enc 0 d cur).getD j undef = if j < d.size then enc d[j]! else cur.getD j undef := by
  unfold putCells
  simp [Array.getD_eq_getD_getElem?, hj]
theorem size_putCells {α : Type} [Inhabited α] (enc : α → Value) (d : Array α) (cur : Array Value) : (putCells enc 0 d cur).size = cur.size := by simp [putCells]
theorem grow_below (w : World) (os : Array Obj) : RowKit.Below w.heap.size w (grow w os) :=
  ⟨rfl, rfl, rfl, by rw [size_grow]; omega, fun k hk => by
    show (w.heap ++ os)[k]? = _
    rw [Array.getElem?_append_left hk]⟩
theorem belowL_of {w0 : Ini} {w' : World} (h : RowKit.Below w0.w.heap.size w0.w w') : BelowL w0 w' := (BelowL.refl w0).step h
theorem row_cells {g : Ghost} {w : World} {D : Nat → Bool} {e1 e2 : TypeId} {rows : List (List Int)} {L : Pv.Loc} {cur : Array Value} {rc : Nat → Array Value} (hg : GridOwn g w D e1 e2 (rows.map fun r => r.map I).length (rows.map fun r => r.map I) L cur rc) {i : Nat} (hi : i < rows.length) :
    cur.getD i undef = .slice (some ⟨L.rows i, 0, none⟩) (rows.getD i []).length (L.caps i) ∧ w.heap[L.rows i]? = some (.cells (rc i) e2 (0, 0)) ∧ (rc i).size = L.caps i ∧ (rows.getD i []).length ≤ L.caps i ∧ L.caps i ≤ maxLen ∧ ∀ k, k < (rows.getD i []).length → (rc i).getD k undef = .int .i64 ((rows.getD i []).getD k 0) := by
  have hr : (rows.map fun r => r.map I)[i]? = some ((rows.getD i []).map I) := idx_gridI hi
  obtain ⟨a1, a2, a3, a4⟩ := hg.hrow i _ hr
  refine ⟨by simpa using a1, a3, a4, by simpa using a2.1, a2.2, fun k hk => ?_⟩
  have := (hg.hv i _ k (I ((rows.getD i []).getD k 0)) hr (idx_I hk)).2
  exact VR.val_inv this
end Go.Proofs.YtembaiccchgllaaGreat
/- The layer: an entry of a map's literal. -/
namespace Go.Pv
open Go Go.MapKept
attribute [local semireducible] Go.Pv.Goal Go.Pv.PStep Go.Pv.EStep Go.Pv.KRets Go.Pv.PCalls Go.Pv.Ops Go.Pv.OpsG
section
variable {P : Program} {o : Oper} {S : St}
theorem e_mapInsert {t kt e : TypeId} {z : Value} [ht : MapT P t kt e z] {x y v : Operand} {b id : Nat} {l : List (ByteArray × PV)} {k : ByteArray} {p : PV} (ho : o.op = .insert t x y v) (hd : o.dst = none) (h1 : S.ev x = .val (.map (some b))) (hh : S.hp[id]? = some (.mp b l)) (h2 : S.ev y = .val (.string k)) (h3 : view S.hp (S.ev v) = p) :
    EStep P o S ⟨S.fr, S.hp.set id (.mp b (mpPut l k p))⟩ := by
  intro w0 g ρ a w hr Q K hK
  have e1 := val_of (hr.ev x) h1
  have e2 := val_of (hr.ev y) h2
  have ev3 := hr.base.view (hr.ev v)
  rw [h3] at ev3
  obtain ⟨es, cl, hm⟩ := hr.base.own id _ hh
  have hkey : IsKey .string (.string k) := trivial
  have hck : (Instr.checkKey false 10000 kt (.string k)).run P w = .ok () w := run_checkKey ht.hk hkey _ 9999
  have hsame : ∀ (l' : List (ByteArray × PV)) (v : Value) (p : PV), VRS1 g ρ S.hp v p → VRS1 g ρ (S.hp.set id (.mp b l')) v p := fun l' v p h => same_set hh (fun _ _ _ _ h => by cases h) (fun _ _ _ h => by cases h) (fun _ _ _ _ h => by cases h) (GExt.refl g) h
  have fin : ∀ (es' : Array MapEntry) (cl' : Nat) (l' : List (ByteArray × PV)), (Instr.mapUpdate t (.map (some b)) (.string k) (a.eval v)).run P w = .ok () { w with heap := w.heap.setIfInBounds b (.map es' cl') } → MpRel g es'.toList l' → mpPut l k p = l' → o.wp P a w K Q := fun es' cl' l' hrun hrel hl => by
    have hbase := hr.base.upd hh (x' := .mp b l') (ρ id) (GExt.refl g) _root_.id (by rw [upd_id, map_mapHO_id]; exact hsame l') (hr.base.agree.setB hm.hg hm.hw (y := .map es' cl')) (hr.base.below.setB hm.hB hm.hw) (fun _ _ _ => rfl)
      (by rw [upd_id, map_mapHO_id]; exact ⟨es', cl', hm.hblk, hm.hB, (heap_set hm.hw).1, hrel, hm.hg⟩) (fun b' hb' => .inl hb')
      (fun b' hb' hnf => ⟨(heap_set hm.hw).2 b' (fun e => hnf (by rw [e]; exact hm.hblk.symm)), fun _ => rfl⟩)
    rw [upd_id, map_mapHO_id] at hbase
    unfold Oper.wp
    simp only [execOp, ho, e1, e2]
    have hrun' : (do Instr.mapUpdate t (.map (some b)) (.string k) (a.eval v); pure Next.skip : Sem Next).run P w = .ok .skip { w with heap := w.heap.setIfInBounds b (.map es' cl') } := by
      rw [Sem.run_bind, hrun]; rfl
    rw [hrun']
    simp only [Oper.upon, hd]
    rw [hl] at hK
    exact hK g ρ a _ (GExt.refl g) (hr.same hbase (hsame l'))
  rcases findNow_mp k 0 hm.hk with ⟨q1, -, q3⟩ | ⟨j, en, p', q1, q2, q3, -, -, -, q7⟩
  · refine fin (es.push { key := .string k, val := a.eval v, born := cl }) (cl + 1) (l ++ [(k, p)]) ?_ ?_ (q3 p)
    · unfold Instr.mapUpdate
      simp [run_underlying ht.hu, Go.MapKept.run_getObj_map hm.hw, hck, Go.MapKept.run_findKey ht.hk q1, Go.MapKept.run_setObj_map _ hm.hw, Result.andThen]
    · rw [Array.toList_push]
      exact hm.hk.snoc rfl ev3
  · have hj : es[j]? = some en := by simpa using q2
    refine fin (es.modify j fun e => { e with key := .string k, val := a.eval v }) cl (l.set j (k, p)) ?_ ?_ (q7 p)
    · unfold Instr.mapUpdate
      simp [run_underlying ht.hu, Go.MapKept.run_getObj_map hm.hw, hck, Go.MapKept.run_findKey ht.hk q1, Go.MapKept.run_setObj_map _ hm.hw, Result.andThen, hj, q3, run_keyThatStays (P := P) (w := w) hkey]
    · have : (es.modify j fun e => { e with key := .string k, val := a.eval v }).toList = es.toList.set j { en with key := .string k, val := a.eval v } := by
        apply List.ext_getElem?
        intro i
        rw [Array.getElem?_toList, Array.getElem?_modify, List.getElem?_set, Array.getElem?_toList]
        by_cases e : j = i
        · subst e
          have hlt : j < es.toList.length := (List.getElem?_eq_some_iff.1 q2).1
          have hlt' : j < es.size := by simpa using hlt
          have hje : es[j] = en := by simpa [Array.getElem?_eq_getElem hlt'] using hj
          simp [hlt', hje]
        · simp [e]
      rw [this]
      exact MpRel.set (e := { en with key := .string k, val := a.eval v }) rfl ev3 j hm.hk
end
end Go.Pv
/- Walks: the shortest chain of translated pairs, the program's side. -/
namespace Go.Proofs.YtembaiccchgllaaGreat
open Go Go.Pv Go.Proofs
theorem hp2 {x y : HO} {a b : List HO} (h : hpLe a b) : hpLe (x :: y :: a) (x :: y :: b) := zB rfl (zB rfl h)
end Go.Proofs.YtembaiccchgllaaGreat
/- Walks: what the laws over drawn lattices call beyond the rows of their functions. -/
namespace Go.Proofs.YtembaiccchgllaaGreat
open Go Go.Pv Go.Proofs
set_option maxHeartbeats 32000000
set_option maxRecDepth 100000
attribute [local bitvec_to_nat] St.put St.setObj St.ev killP killA killP1 killH mapHO renP renA ren1 killG killGA killG1 krowP krowA krow1 lendP lendA lend1 unv pinP pin1 elemsM viewM viewN viewV n_set_z n_set_s n_map_c n_map_n getD_z getD_s n_toNat n_cond_t n_cond_f n_len_c n_len_n n_app_c n_app_n n_take_s n_take_z n_drop_s n_drop_z n_get_z n_get_s view viewA view1 elems Nat.zero_add Nat.add_zero Bool.not_true Bool.not_false Nat.one_ne_zero Nat.mul_one
theorem ijoin_yes (rows : List (List Int)) (x y : Int) (hok : okP rows) (hg : goodL rows = true) (hx : inR rows x) (hy : inR rows y) : PCalls Tryz.prog 20 [posetP rows, I x, I y] (.tup [I (joinL rows x y), B true]) := by
  refine pcalls2 Tryz.func20 rfl Tryz.ntmps20 rfl ?_
  simp only [List.length_cons, List.length_nil, Nat.reduceAdd, Nat.reduceSub, List.replicate_succ, List.replicate_zero, List.cons_append, List.nil_append]
  have hs := lhas_c rows [x, y] hg (by simp)
  rw [inSize2, isB_iff.2 hx, isB_iff.2 hy] at hs
  unfold inR at hx hy
  repeat' (first
| refine g_seq ?_
| refine zC ?_
| (refine o_go rfl ?_; (first
| refine p_p (zN rfl rfl rfl (by omega) (by exact idx_TI (by omega) (by omega)) (by exact rfl)) ?_
| refine p_p (zN rfl rfl rfl (by omega) (by exact idx_RI (by omega) (by omega)) (by exact rfl)) ?_
| refine p_p (zG rfl rfl aB (lat_yes rows hok hg)) ?_
| refine p_p (ps_callM rfl rfl aB (by rfl) (hs)) ?_
| refine p_p (zD rfl) ?_
| refine p_p (zA rfl) ?_
| refine p_p (zF rfl rfl) ?_
| refine p_p (ps_load_agg rfl rfl aJ) ?_
| refine p_p (zL rfl rfl) ?_
| refine p_p (ps_extract rfl rfl rfl) ?_
| refine p_p (ps_not rfl rfl) ?_
| refine p_p (zQ rfl rfl) ?_
| refine p_p (ps_nilCheck rfl rfl) ?_
| refine p_p (ps_box rfl rfl) ?_
| refine p_p (ps_lit2 rfl rfl rfl (by rfl) (by rfl) (by rfl)) ?_); refine ⟨_, aA, ?_⟩)
| refine o_nil ?_
| refine zW rfl ?_
| refine kr2 ?_ ?_
| refine krB rfl ?_
| refine krI rfl ?_
| refine zR ?_
| refine g_ret ?_)
  all_goals rfl
theorem imeet_yes (rows : List (List Int)) (x y : Int) (hok : okP rows) (hg : goodL rows = true) (hx : inR rows x) (hy : inR rows y) : PCalls Tryz.prog 19 [posetP rows, I x, I y] (.tup [I (meetL rows x y), B true]) := by
  refine pcalls2 Tryz.func19 rfl Tryz.ntmps19 rfl ?_
  simp only [List.length_cons, List.length_nil, Nat.reduceAdd, Nat.reduceSub, List.replicate_succ, List.replicate_zero, List.cons_append, List.nil_append]
  have hs := lhas_c rows [x, y] hg (by simp)
  rw [inSize2, isB_iff.2 hx, isB_iff.2 hy] at hs
  unfold inR at hx hy
  repeat' (first
| refine g_seq ?_
| refine zC ?_
| (refine o_go rfl ?_; (first
| refine p_p (zN rfl rfl rfl (by omega) (by exact idx_TI (by omega) (by omega)) (by exact rfl)) ?_
| refine p_p (zN rfl rfl rfl (by omega) (by exact idx_RI (by omega) (by omega)) (by exact rfl)) ?_
| refine p_p (zG rfl rfl aB (lat_yes rows hok hg)) ?_
| refine p_p (ps_callM rfl rfl aB (by rfl) (hs)) ?_
| refine p_p (zD rfl) ?_
| refine p_p (zA rfl) ?_
| refine p_p (zF rfl rfl) ?_
| refine p_p (ps_load_agg rfl rfl aJ) ?_
| refine p_p (zL rfl rfl) ?_
| refine p_p (ps_extract rfl rfl rfl) ?_
| refine p_p (ps_not rfl rfl) ?_
| refine p_p (zQ rfl rfl) ?_
| refine p_p (ps_nilCheck rfl rfl) ?_
| refine p_p (ps_box rfl rfl) ?_
| refine p_p (ps_lit2 rfl rfl rfl (by rfl) (by rfl) (by rfl)) ?_); refine ⟨_, aA, ?_⟩)
| refine o_nil ?_
| refine zW rfl ?_
| refine kr2 ?_ ?_
| refine krB rfl ?_
| refine krI rfl ?_
| refine zR ?_
| refine g_ret ?_)
  all_goals rfl
end Go.Proofs.YtembaiccchgllaaGreat
/- The reference's draw of an algebra: it is there, and small. -/
namespace Go.Proofs.YtembaiccchgllaaGreat
open Go Go.Pv Go.Proofs

theorem least_of {p : Nat → Prop} (h : ∃ n, p n) : ∃ n, p n ∧ ∀ m, m < n → ¬ p m := by
  obtain ⟨n, hn⟩ := h
  induction n using Nat.strongRecOn with
  | _ n ih =>
    by_cases hx : ∃ m, m < n ∧ p m
    · obtain ⟨m, h1, h2⟩ := hx; exact ih m h1 h2
    · exact ⟨n, hn, fun m hm hp => hx ⟨m, hm, hp⟩⟩
theorem smA_app {l : List OpD} (h1 : l.length ≤ 6) (h2 : ∀ f ∈ l, f.tb.length ≤ 30) : smA l := by
  refine ⟨?_, ?_⟩
  · omega
  · intro f hf; exact Nat.le_trans (h2 f hf) (by decide)
end Go.Proofs.YtembaiccchgllaaGreat
/- The layer: a drawn region walked in each order, states shared. -/
namespace Go.Pv
open Go
attribute [local semireducible] Go.Pv.Goal Go.Pv.Ops Go.Pv.PStep Go.Pv.EStep Go.Pv.KRets Go.Pv.PCalls Go.Pv.OpsG
theorem at_reg0 {P : Program} {K : Exit → St → Prop} {S : St} {ops : Array Oper} {dr : Bool} (id : Nat) (h : Goal P (Code.region id ops dr) K S) : Goal P (Code.region id ops dr) K S := h
end Go.Pv
