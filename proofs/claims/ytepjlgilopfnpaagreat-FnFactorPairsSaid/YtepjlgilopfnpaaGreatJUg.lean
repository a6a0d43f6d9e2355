/- The layer: a list that is cut at its length's limit and grows into a new one. -/
import Derived.Test.YtepjlgilopfnpaaGreatJUe
import Derived.Test.YtepjlgilopfnpaaGreatJSq
import Derived.Test.YtepjlgilopfnpaaGreatJTc
set_option linter.unusedSectionVars false
namespace Go.Pv
open Go
attribute [local semireducible] Go.Pv.PStep Go.Pv.EStep
section
variable {P : Program} {o : Oper} {S : St}
theorem g_pinH {K : Exit → St → Prop} {c : Code} (j i : Nat) (h : S.fr[j]? = some (.hp i)) (hk : ∀ b d, ∃ S', St.mk (S.fr.set j (.hpv i b d)) S.hp = S' ∧ Goal P c K S') : Goal P c K S := by
 unfold Goal
 intro w0 g ρ a w Q hr hQ
 obtain ⟨S', rfl, hg⟩ := hk (ρ i).blk (ρ i).cap
 unfold Goal at hg
 refine hg w0 g ρ a w Q ⟨hr.base, hr.dead, by simpa using hr.size, fun k p hp => ?_⟩ hQ
 rw [List.getElem?_set] at hp
 split at hp
 · rename_i e
   subst e
   split at hp
   · cases hp
     exact ⟨hr.fr j _ h, rfl, rfl⟩
   · cases hp
 · exact hr.fr k p hp
theorem EStep.move {S1 S2 : St} (h : EStep P o S S1) (i j : Nat) {m : Bool} {s : Nat} {e : TypeId} {l : List PV} (hij : i ≠ j) (hi : S1.hp[i]? = some (.arr m s e l)) (he : St.mk (S1.fr.map (mvP i j)) (mvH i j (.arr m s e l) S1.hp) = S2) : EStep P o S S2 := fun w0 g ρ a w hr Q K hK =>
 h w0 g ρ a w hr Q K fun g' _ a' w' hx hr' => hK g' _ a' w' hx (he ▸ rel_move hr' hij hi)
theorem EStep.freeze {S1 S2 : St} (h : EStep P o S S1) (n : Nat) {s : Nat} {e : TypeId} {l : List PV} (hn : S1.hp[n]? = some (.arr true s e l)) (he : St.mk S1.fr (S1.hp.set n (.arr false s e l)) = S2) : EStep P o S S2 :=
 EStep.then h fun w0 g ρ a w hr => by
  obtain ⟨g', hx, h2⟩ := rel_freeze hr hn
  exact ⟨g', hx, he ▸ h2⟩
theorem e_lit2N {t e : TypeId} {by_ : Nat} [ht : SlT P t e 1 by_] {zs : List Value} [hz : ZeroT P e zs] {x y : Operand} {p q : PV} (ho : o.op = .buildSlice t 2 #[(0, x), (1, y)]) (h1 : view S.hp (S.ev x) = p) (h2 : view S.hp (S.ev y) = q) (hp1 : p.one = true) (hq1 : q.one = true) :
 EStep P o S (S.setObj S.hp.length (killH S.hp.length S.hp ++ [.arr false 1 e [p, q]]) o.dst (.hp S.hp.length)) :=
 e_buildSlice (ht := ht) (hz := hz) ho rfl rfl (by simp [elems, h1, h2]) ⟨⟨[p], flat_one hp1, rfl⟩, ⟨[q], flat_one hq1, rfl⟩, trivial⟩ (by omega) (by omega)
theorem e_append3 {t e : TypeId} {s by_ : Nat} {zs : List Value} [ht : MkT P t e s by_ zs] {x y : Operand} {tys : Array TypeId} {id j b d i : Nat} {e' : TypeId} {l l2 : List PV} {nn : Option Bool} (ho : o.op = .call { callee := .builtin .append, args := #[x, y], argTypes := tys })
 (htys : tys = #[t, t]) (h1 : S.ev x = .val (.slice (some ⟨b, 0, none⟩) i i)) (hj : S.ev (.tmp j) = .hpv id b d) (hh : S.hp[id]? = some (.arr false s e' l)) (he : e' = e) (h2 : view S.hp (S.ev y) = .sl s nn l2) (hone : ∀ p ∈ l2, ∀ c, p.flat = some c → (c.all PV.one) = true) (hs : 0 < s) (hzs : zs.length = s) (hil : i ≤ l.length) (hl0 : 0 < l2.length)
 (hb : (i + l2.length) * by_ ≤ 140737488355328) (hm : i + l2.length ≤ 9223372036854775807) : EStep P o S (S.setObj S.hp.length (killH S.hp.length S.hp ++ [.arr true s e (l.take i ++ l2)]) o.dst (.hp S.hp.length)) := by
 subst he
 subst htys
 intro w0 g ρ a w hr Q K hK
 obtain ⟨cur, c, hown⟩ := hr.base.own id _ hh
 have ep := hr.ev (.tmp j)
 rw [hj] at ep
 have hbk : (ρ id).blk = b := (show VRS1 g ρ S.hp _ (.hpv id b d) from ep).2.1
 have ex : a.eval x = .slice (some ⟨b, 0, none⟩) i i := val_of (hr.ev x) h1
 have ey := hr.base.view (hr.ev y)
 rw [h2] at ey
 obtain ⟨ti, z, hi, hi1, hi2, hi3, hi4⟩ := ht.hi
 have hzc : z.cells.size = s := by rw [← hzs, ← hi4]; simp
 have hmm : i + l2.length ≤ maxLen := by simp only [maxLen]; omega
 rcases VR.sl_inv ey with ⟨-, rfl, -⟩ | ⟨-, -, -, rfl, -⟩ | ⟨b2, of_, capy, c2, cs, ea, -, -, -, -, hf2, hgk, hv2⟩
 · simp at hl0
 · simp at hl0
 let news : List Value := (List.range (l2.length * s)).map cs
 have hnl : news.length = l2.length * s := by simp [news]
 have hnk : ∀ (k : Nat), k < l2.length * s → news.getD k undef = cs k := fun k hk => by simp [news, List.getD_eq_getElem?_getD, hk]
 have hcellsrc : ∀ (j : Nat) (u : Value), news[j]? = some u → w.cell? ((⟨b2, of_, none⟩ : Addr).add j) = some u := fun j u hj => by
  rw [Addr.add_n]
  have hjl : j < l2.length * s := by rw [← hnl]; exact (List.getElem?_eq_some_iff.1 hj).1
  have : u = cs j := by rw [← hnk j hjl]; simp [List.getD_eq_getElem?_getD, hj]
  rw [this]; exact hr.base.agree _ _ _ (hgk j hjl)
 let olds : List Value := cur.toList.take (i * s)
 have hlcur : i * s ≤ cur.size := by rw [hown.hsz]; exact Nat.mul_le_mul_right _ (Nat.le_trans hil hown.hcap)
 have hol : olds.length = i * s := by simp [olds]; omega
 have hrun := run_append_grow (P := P) w t o.type e' ti z ht.hu hi hi3 ⟨b, 0, none⟩ i i olds (by rw [hi1]; exact hol) (fun j u hj => by
  rw [Addr.add_n, Nat.zero_add, cell_of_row _ _ _ _ _ _ (hbk ▸ hown.hw)]
  simp only [olds] at hj
  rw [List.getElem?_take] at hj
  split at hj
  · simpa using hj
  · cases hj) ⟨b2, of_, none⟩ l2.length capy news (by rw [hi1]; exact hnl) hcellsrc (by omega) (by omega) (growslice_fits (by omega) (by rw [hi2]; exact hb))
 have hcapge : i + l2.length ≤ grownCap w (i + l2.length) i e' := grownCap_ge w _ _ e'
 have hcapm : grownCap w (i + l2.length) i e' ≤ maxLen := grownCap_le_maxLen w _ _ e' hmm
 generalize hcap' : grownCap w (i + l2.length) i e' = cap' at *
 generalize hcur : olds.toArray ++ news.toArray ++ Builtin.zeroCells z.cells (cap' - (i + l2.length)) = cur' at *
 have hsz' : cur'.size = cap' * s := by
  rw [← hcur]
  simp only [Array.size_append, List.size_toArray, size_zeroCells, hzc, hol, hnl, ← Nat.add_mul]
  congr 1
  omega
 have k1 : ∀ k, k < i * s → cur'.getD k undef = cur.getD k undef := fun k hk => by
  rw [← hcur]
  have h1 : k < olds.length := by omega
  have h2 : (olds.toArray ++ news.toArray ++ Builtin.zeroCells z.cells (cap' - (i + l2.length)))[k]? = cur[k]? := by
   rw [Array.getElem?_append_left (by rw [Array.size_append, List.size_toArray, List.size_toArray]; omega), Array.getElem?_append_left (by rw [List.size_toArray]; exact h1), List.getElem?_toArray]
   simp only [olds]
   rw [List.getElem?_take_of_lt hk, Array.getElem?_toList]
  rw [Array.getD_eq_getD_getElem?, Array.getD_eq_getD_getElem?, h2]
 have k2 : ∀ k, k < l2.length * s → cur'.getD (i * s + k) undef = cs k := fun k hk => by
  rw [← hcur]
  have h3 : i * s + k - olds.length = k := by omega
  have h2 : (olds.toArray ++ news.toArray ++ Builtin.zeroCells z.cells (cap' - (i + l2.length)))[i * s + k]? = news[k]? := by
   rw [Array.getElem?_append_left (by rw [Array.size_append, List.size_toArray, List.size_toArray]; omega), Array.getElem?_append_right (by rw [List.size_toArray]; omega), List.getElem?_toArray, List.size_toArray, h3]
  rw [← hnk k hk, Array.getD_eq_getD_getElem?, List.getD_eq_getElem?_getD, h2]
 have hnew : (w.drew.alloc (.cells cur' e')).heap[w.heap.size]? = some (.cells cur' e' (0, 0)) := heap_alloc_new w.drew _
 have hbl : RowKit.Below w.heap.size w (w.drew.alloc (.cells cur' e')) := (RowKit.Below.refl _ _).drew.alloc (Nat.le_refl _) _
 have hgn : ∀ k, g w.heap.size k = none := fun k => by
  cases hk : g w.heap.size k with
  | none => rfl
  | some v => exact absurd (hr.base.agree.lt hk) (Nat.lt_irrefl _)
 have hexec : (execOp a.eval o).run P w = .ok (.value (.slice (some ⟨w.heap.size, 0, none⟩) (i + l2.length) cap')) (w.drew.alloc (.cells cur' e')) := by
  simp only [execOp, ho, resolve, Sem.run_bind, run_pure, Result.andThen, invoke, builtin]
  have : (#[x, y].map a.eval) = #[.slice (some ⟨b, 0, none⟩) i i, .slice (some ⟨b2, of_, none⟩) l2.length capy] := by simp [ex, ea]
  rw [this, hrun]
 have lt : ∀ {i j n : Nat} {x : List PV} {q : PV}, i < n → x.length = s → x[j]? = some q → i * s + j < n * s := fun {i j n x q} hi hx hq => by
  have hj := (List.getElem?_eq_some_iff.1 hq).1
  calc i * s + j < i * s + s := by omega
   _ = (i + 1) * s := by rw [Nat.add_mul]; omega
   _ ≤ n * s := Nat.mul_le_mul_right _ hi
 have htl : (l.take i).length = i := by simp; omega
 have hbase := hr.base.push (x' := .arr true s e' (l.take i ++ l2)) ⟨w.heap.size, cap', fun _ => 0, fun _ => 0⟩ (GExt.refl g) (killP1 S.hp.length) (fun v p h => h.kill S.hp.length _ (GExt.refl g) (fun i hi => killH_push _ _ hi)) (hr.base.agree.below hbl) hbl
  ⟨cur', fun k => if k < i then c k else c2 (k - i), ⟨hs, Ini.own_new hr.base.below.size, by rw [List.length_append, htl]; exact hcapge, hcapm, hnew, hsz', fun k p hk => by
   split
   · rename_i hlt
     rw [List.getElem?_append_left (by omega), List.getElem?_take_of_lt hlt] at hk
     exact hown.hf k p hk
   · rename_i hge
     rw [List.getElem?_append_right (by omega), htl] at hk
     exact hf2 _ p hk, fun k j q hk hq => by
   rw [List.length_append, htl] at hk
   split at hq
   · rename_i hlt
     rw [k1 _ (lt hlt (hown.hf k _ (List.getElem?_eq_getElem (show k < l.length by omega))).2 hq)]
     exact hown.hv k j q (by omega) hq
   · rename_i hge
     have hk2 : k - i < l2.length := by omega
     have he : k * s + j = i * s + ((k - i) * s + j) := by rw [← Nat.add_assoc, ← Nat.add_mul]; congr 2; omega
     rw [he, k2 _ (lt hk2 (hf2 _ _ (List.getElem?_eq_getElem hk2)).2 hq)]
     exact hv2 _ j q hk2 hq, fun k => by simp [hgn k]⟩⟩ (fun b hb => by simp only [foot] at hb; omega) (fun b hb k => rfl)
 have hv := VRS.hp_new g ρ S.hp true s e' (l.take i ++ l2) ⟨w.heap.size, cap', fun _ => 0, fun _ => 0⟩
 rw [List.length_append, htl] at hv
 unfold Oper.wp
 rw [hexec]
 exact hK _ _ _ _ (GExt.refl g) (hr.setObj S.hp.length _ hbase (GExt.refl g) (fun i hi => killH_push _ _ hi) hv o.dst)
end
section
variable {P : Program} {o : Oper} {ev : Operand → PV} {hp : List HO}
theorem ps_slice3 {t e : TypeId} {s by_ id b d : Nat} [ht : SlT P t e s by_] {x y z : Operand} {l : List PV} {e' : TypeId} {mt : Bool} {k : Int} (ho : o.op = .slice t x none (some y) (some z)) (h1 : ev x = .hpv id b d) (hh : hp[id]? = some (.arr mt s e' l)) (h2 : ev y = I k) (h3 : ev z = I k) (h0 : 0 ≤ k) (hk : k ≤ (l.length : Int)) :
 PStep P o ev hp (.val (.slice (some ⟨b, 0, none⟩) k.toNat k.toNat)) :=
 .of_run fun w0 g ρ w av hb hx => by
  have e1 := hx x (by simp [ho, Op.operands])
  rw [h1] at e1
  obtain ⟨f1, f2, f3⟩ := (show VRS1 g ρ hp _ (.hpv id b d) from e1)
  have ea := HpV.arr f1 _ _ _ _ hh
  rw [f2] at ea
  obtain ⟨cur, c, hown⟩ := hb.own id _ hh
  have e2 := val_of (hx y (by simp [ho, Op.operands])) h2
  have e3 := val_of (hx z (by simp [ho, Op.operands])) h3
  have hel := elem_slT ht
  have hu : P.underlying t = some (.slice (P.elem t)) := by rw [hel]; exact ht.hu
  have hsz := ht.hs w
  rw [← hel] at hsz
  have hc := hown.hcap
  refine ⟨.slice (some ⟨b, 0, none⟩) k.toNat k.toNat, ?_, .of_VR (.val _)⟩
  simp only [execOp, ho]
  refine run_value ?_
  show (Instr.sliceAt t (av x) none (some (av y)) (some (av z))).run P w = _
  rw [ea, e2, e3, run_sliceAt_slice (h := hu), run_slice_hm w t _ l.length (ρ id).cap hu _ _ k k h0 (Int.le_refl _) (by omega), hsz]
  simp [Result.andThen, sliced, Addr.add_n]
end
end Go.Pv
/- Plain: what is known of the quotients on the way of a division. -/
namespace Go.Proofs.YtepjlgilopfnpaaGreat
open Go Go.Pv Go.Proofs

theorem quo_few {n : Nat} {ops : List OpD} {p : List Int} (hn : 0 < n) (ho : opsIn n ops) (hp : p ∈ allL n ops) : (quV n ops p).length ≤ (allL n ops).length := by
 obtain ⟨pt, pc⟩ := allL_mem.1 hp
 have hnd : (quV n ops p).Nodup := ascC_nodup (allL_all _ _).1
 have h2 : ((quV n ops p).map (liftP n p)).Nodup := by
  unfold List.Nodup
  rw [List.pairwise_map]
  refine List.Pairwise.imp_of_mem (fun {a b} ha hb hab e => hab ?_) hnd
  have e2 : pushP n p (liftP n p a) = pushP n p (liftP n p b) := by rw [e]
  rwa [push_lift pt (allL_mem.1 ha).1, push_lift pt (allL_mem.1 hb).1] at e2
 have := len_le_sub h2 (m := allL n ops) fun r hr => ((lift_mem pt hn ho pc).1 hr).1
 rwa [List.length_map] at this
theorem quV_pt {n : Nat} {ops : List OpD} {p q : List Int} (hq : q ∈ quV n ops p) : Pt (lstN p n).length q := (allL_mem.1 hq).1
noncomputable def idcV (n : Nat) (ops : List OpD) : List (List Int) := if n = 1 then [] else idc n ops (idL n)
noncomputable def idcW (n : Int) (ops : List OpD) : List (List Int) := if acB n ops then idcV n.toNat ops else []
theorem wt_one {n : Nat} : wtL n [idL n] ≤ n := by
 have := cnt_le n (idL n)
 show (cnt n (idL n) - 1) + 0 ≤ n
 omega
structure IdS (n : Nat) (ops : List OpD) (s : List (List Int) × Nat) : Prop where
 inv : IdI n ops s.1
 le : s.2 ≤ s.1.length
 wt : wtL n s.1 ≤ 8
 low : ∀ j, j < s.2 → splO n ops (s.1.getD j []) = none
theorem IdS.len {n : Nat} {ops : List OpD} {s : List (List Int) × Nat} (h : IdS n ops s) : s.1.length ≤ 8 := Nat.le_trans (wt_len fun p hp => (h.inv.mem p hp).2) h.wt
theorem IdS.start {n : Nat} {ops : List OpD} (hn : 1 < n) (h8 : n ≤ 8) : IdS n ops ([idL n], 0) := ⟨.start hn, Nat.zero_le _, Nat.le_trans wt_one h8, fun j hj => absurd hj (Nat.not_lt_zero _)⟩
def IdM (n : Nat) (s : List (List Int) × Nat) : Nat := wtL n s.1 * 20 + (s.1.length - s.2)
theorem IdS.next {n : Nat} {ops : List OpD} {L : List (List Int)} {i : Nat} (h : IdS n ops (L, i)) (hi : i < L.length) (hs : splO n ops (L.getD i []) = none) : IdS n ops (L, i + 1) ∧ IdM n (L, i + 1) < IdM n (L, i) := by
 refine ⟨⟨h.inv, hi, h.wt, fun j hj => ?_⟩, ?_⟩
 · rcases Nat.lt_or_ge j i with hj2 | hj2
   · exact h.low j hj2
   · have hj : j < i + 1 := hj
     rw [show j = i by omega]; exact hs
 · unfold IdM
   show wtL n L * 20 + (L.length - (i + 1)) < wtL n L * 20 + (L.length - i)
   omega
theorem IdS.cut {n : Nat} {ops : List OpD} {L : List (List Int)} {i : Nat} (hn : 0 < n) (ho : opsIn n ops) (h : IdS n ops (L, i)) (hi : i < L.length) {a b : List Int} (hs : splO n ops (L.getD i []) = some (a, b)) :
 (IdS n ops (L.take i ++ a :: b :: L.drop (i + 1), i) ∧ IdM n (L.take i ++ a :: b :: L.drop (i + 1), i) < IdM n (L, i)) ∧ IdS n ops (L.take i ++ a :: b :: L.drop (i + 1), 0) ∧ IdM n (L.take i ++ a :: b :: L.drop (i + 1), 0) < IdM n (L, i) := by
 have hinv : IdI n ops L := h.inv
 obtain ⟨k1, k2⟩ := hinv.split hn ho hi hs
 have hl : (L.take i ++ a :: b :: L.drop (i + 1)).length = L.length + 1 := by simp; omega
 have hwt : wtL n L ≤ 8 := h.wt
 have hle : i ≤ L.length := h.le
 have he : ∀ j, j < i → (L.take i ++ a :: b :: L.drop (i + 1)).getD j [] = L.getD j [] := fun j hj => by
  rw [List.getD_eq_getElem?_getD, List.getD_eq_getElem?_getD, List.getElem?_append_left (by simp; omega), List.getElem?_take_of_lt hj]
 generalize L.take i ++ a :: b :: L.drop (i + 1) = M at *
 have hlen : M.length ≤ wtL n M := wt_len fun p hp => (k1.mem p hp).2
 have q1 : IdM n (M, i) = wtL n M * 20 + (M.length - i) := rfl
 have q2 : IdM n (M, 0) = wtL n M * 20 + (M.length - 0) := rfl
 have q3 : IdM n (L, i) = wtL n L * 20 + (L.length - i) := rfl
 rw [q1, q2, q3]
 refine ⟨⟨⟨k1, show i ≤ M.length by omega, show wtL n M ≤ 8 by omega, fun j hj => ?_⟩, by omega⟩, ⟨k1, Nat.zero_le _, show wtL n M ≤ 8 by omega, fun j hj => absurd hj (Nat.not_lt_zero _)⟩, by omega⟩
 have hj : j < i := hj
 have h2 := h.low j hj
 show splO n ops (M.getD j []) = none
 rw [he j hj]; exact h2
theorem IdS.done {n : Nat} {ops : List OpD} {L : List (List Int)} {i : Nat} (hn : 1 < n) (h : IdS n ops (L, i)) (hi : ¬ i < L.length) : idcV n ops = L := by
 unfold idcV
 rw [if_neg (by omega)]
 exact (IdI.done (L := L) (by omega) h.inv fun j hj => h.low j (show j < i by omega)).symm
theorem spl_none {n : Nat} {ops : List OpD} {p : List Int} (h : ppO (lstN p n).length (quV n ops p) = none) : splO n ops p = none := by unfold splO; rw [h]; rfl
theorem spl_some {n : Nat} {ops : List OpD} {p : List Int} {ik : Nat × Nat} (h : ppO (lstN p n).length (quV n ops p) = some ik) : splO n ops p = some (liftP n p ((quV n ops p).getD ik.1 []), liftP n p ((quV n ops p).getD ik.2 [])) ∧ ik.1 < (quV n ops p).length ∧ ik.2 < (quV n ops p).length := by
 refine ⟨by unfold splO; rw [h]; rfl, ?_⟩
 obtain ⟨h1, h2, -⟩ := fpLi_mem (List.mem_of_find?_eq_some (show (fpLi _ _).find? _ = some ik from h))
 omega
end Go.Proofs.YtepjlgilopfnpaaGreat
/- Plain: factor pairs are direct pairs; what is known of the division's congruences. -/
namespace Go.Proofs.YtepjlgilopfnpaaGreat
open Go Go.Pv Go.Proofs

theorem fp_dir {n : Nat} {p q : List Int} (hp : Pt n p) (hq : Pt n q) (h : fpB n p q = true) : dirB n p q = true := by
 have hpm := fp_prm hp hq h
 unfold fpB at h
 rw [Bool.and_eq_true, decide_eq_true_eq, decide_eq_true_eq] at h
 obtain ⟨h1, h2⟩ := h
 have e1 : meetP n p q = idL n := (cnt_idP meet_pt).1 h1
 have e2 : joinP n p q = fullL n := pt_R (join_pt hp hq) (full_pt n) fun x y hx hy => by
  rw [bk_full, bk_full]
  refine ⟨fun _ => rfl, fun _ => ?_⟩
  obtain ⟨z, hz, z1, z2⟩ := pair_all hp hq (meet_inj.1 h1) h2 x y hx hy
  exact (prm_join hp hq hpm hx hy).2 ⟨z, hz, z1, z2⟩
 unfold dirB cmpP
 rw [(prmB_iff hp hq).2 hpm, decide_eq_true e1, decide_eq_true e2]; rfl
theorem IdS.fin {n : Nat} {ops : List OpD} (hn : 0 < n) (ho : opsIn n ops) : ∀ m (s : List (List Int) × Nat), IdS n ops s → IdM n s ≤ m → ∃ t, IdS n ops t ∧ ¬ t.2 < t.1.length := by
 intro m
 induction m with
 | zero =>
  rintro ⟨L, i⟩ h hm
  refine ⟨(L, i), h, ?_⟩
  unfold IdM at hm
  have hm : wtL n L * 20 + (L.length - i) ≤ 0 := hm
  show ¬ i < L.length
  omega
 | succ m ih =>
  rintro ⟨L, i⟩ h hm
  by_cases hi : i < L.length
  · cases hs : splO n ops (L.getD i []) with
    | none =>
     obtain ⟨k1, k2⟩ := h.next hi hs
     exact ih _ k1 (by omega)
    | some ab =>
     obtain ⟨a, b⟩ := ab
     obtain ⟨⟨k1, k2⟩, -⟩ := h.cut hn ho hi hs
     exact ih _ k1 (by omega)
  · exact ⟨(L, i), h, hi⟩
theorem idcV_facts {n : Nat} {ops : List OpD} (hn : 0 < n) (h8 : n ≤ 8) (ho : opsIn n ops) : (∀ p ∈ idcV n ops, p ∈ allL n ops ∧ 1 < cnt n p ∧ splO n ops p = none) ∧ ((idcV n ops).map (cnt n)).foldr (· * ·) 1 = n ∧ (idcV n ops).length ≤ 8 := by
 by_cases h1 : n = 1
 · unfold idcV
   rw [if_pos h1]
   exact ⟨fun p hp => (List.not_mem_nil hp).elim, by simp [h1], by simp⟩
 · obtain ⟨⟨L, i⟩, hs, hi⟩ := IdS.fin hn ho _ _ (IdS.start (ops := ops) (by omega) h8) (Nat.le_refl _)
   have e := hs.done (by omega) hi
   rw [e]
   have hi : ¬ i < L.length := hi
   refine ⟨fun p hp => ?_, hs.inv.prod, hs.len⟩
   obtain ⟨k1, k2⟩ := hs.inv.mem p hp
   obtain ⟨j, hj, rfl⟩ := List.getElem_of_mem hp
   have := hs.low j (by show j < i; omega)
   have hg : L.getD j [] = L[j] := by rw [List.getD_eq_getElem?_getD, List.getElem?_eq_getElem hj]; rfl
   exact ⟨k1, k2, by rw [← hg]; exact this⟩
theorem foldr_pos : ∀ {l : List Nat}, (∀ x ∈ l, 0 < x) → 0 < l.foldr (· * ·) 1
 | [], _ => Nat.one_pos
 | a :: l, h => Nat.mul_pos (h a (List.mem_cons_self ..)) (foldr_pos fun x hx => h x (List.mem_cons_of_mem _ hx))
noncomputable def prU (n : Nat) (L : List (List Int)) (i : Nat) : Nat := ((L.take i).map (cnt n)).foldr (· * ·) 1
theorem prU_succ {n : Nat} {L : List (List Int)} {i : Nat} (hi : i < L.length) : prU n L (i + 1) = prU n L i * cnt n (L.getD i []) := by
 unfold prU
 have e : L.getD i [] = L[i] := by rw [List.getD_eq_getElem?_getD, List.getElem?_eq_getElem hi]; rfl
 rw [List.take_succ_eq_append_getElem hi, List.map_append, prod_app, e]
 simp
theorem prU_le {n m : Nat} {L : List (List Int)} (i : Nat) (h : ∀ p ∈ L, 0 < cnt n p) (hp : (L.map (cnt n)).foldr (· * ·) 1 = m) : prU n L i ≤ m := by
 unfold prU
 have e : L.map (cnt n) = (L.take i).map (cnt n) ++ (L.drop i).map (cnt n) := by rw [← List.map_append, List.take_append_drop]
 rw [← hp, e, prod_app]
 refine Nat.le_mul_of_pos_right _ (foldr_pos fun x hx => ?_)
 obtain ⟨p, hp, rfl⟩ := List.mem_map.1 hx
 exact h p (List.mem_of_mem_drop hp)
theorem prU_all {n : Nat} {L : List (List Int)} : prU n L L.length = (L.map (cnt n)).foldr (· * ·) 1 := by unfold prU; rw [List.take_length]
end Go.Proofs.YtepjlgilopfnpaaGreat
