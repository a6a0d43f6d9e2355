/- Walks: translated pairs, both sides. -/
import Derived.Laws.Small
import Derived.Deep.Matrix
import Derived.Test.YtepjlgilopfnpaaGreatJKn
import Derived.Test.YtepjlgilopfnpaaGreatJKi
import Derived.Test.YtepjlgilopfnpaaGreatJNb
import Derived.Test.YtepjlgilopfnpaaGreatJSt
import Derived.Test.YtepjlgilopfnpaaGreatJSq
import Derived.Test.YtepjlgilopfnpaaGreatJKc
import Derived.Test.YtepjlgilopfnpaaGreatJKf
import Derived.Test.YtepjlgilopfnpaaGreatJGf
import Derived.Test.YtepjlgilopfnpaaGreatJKh
import Derived.Test.YtepjlgilopfnpaaGreatJKb
set_option linter.unusedSectionVars false
namespace Go.Proofs.YtepjlgilopfnpaaGreat
open Go Go.Pv Go.Proofs

/-! ### Squares of Booleans -/
abbrev prP (xy : Nat × Nat) : PV := .agg [I (xy.1 : Int), I (xy.2 : Int)]
abbrev prOF (L : List (Nat × Nat)) : HO := .arr false 2 46 (L.map prP)
def Gw (L M : List (Nat × Nat)) : Prop := ∃ l, M = L ++ l
theorem Gw.refl (L : List (Nat × Nat)) : Gw L L := ⟨[], (List.append_nil _).symm⟩
theorem Gw.trans {L M N : List (Nat × Nat)} (h : Gw L M) (g : Gw M N) : Gw L N := by
 obtain ⟨a, rfl⟩ := h
 obtain ⟨b, rfl⟩ := g
 exact ⟨a ++ b, List.append_assoc ..⟩
theorem Gw.app (L : List (Nat × Nat)) (w : Nat × Nat) : Gw L (L ++ [w]) := ⟨[w], rfl⟩
theorem Gw.ti {n : Nat} {L M : List (Nat × Nat)} (h : Gw L M) {f : OpD} {s t k j : Nat} (g : Ti n L f s t k j) : Ti n M f s t k j := by obtain ⟨l, rfl⟩ := h; exact g.mono l
theorem Gw.len {L M : List (Nat × Nat)} (h : Gw L M) : L.length ≤ M.length := by obtain ⟨l, rfl⟩ := h; simp
theorem Gw.at {L M : List (Nat × Nat)} (h : Gw L M) {i : Nat} (hi : i < L.length) : M.getD i (0, 0) = L.getD i (0, 0) := by
 obtain ⟨l, rfl⟩ := h
 rw [List.getD_eq_getElem?_getD, List.getElem?_append_left hi, List.getD_eq_getElem?_getD]
/-! ### The reference -/
end Go.Proofs.YtepjlgilopfnpaaGreat
/- Walks: the shortest chain of translated pairs, the reference's side. -/
namespace Go.Pv
open Go
attribute [local semireducible] Go.Pv.EStep
section
variable {P : Program} {o : Oper} {S : St}
theorem e_lit1N {t e : TypeId} {by_ : Nat} [ht : SlT P t e 1 by_] {zs : List Value} [hz : ZeroT P e zs] {x : Operand} {p : PV} (ho : o.op = .buildSlice t 1 #[(0, x)]) (h1 : view S.hp (S.ev x) = p) (hp1 : p.one = true) :
 EStep P o S (S.setObj S.hp.length (killH S.hp.length S.hp ++ [.arr false 1 e [p]]) o.dst (.hp S.hp.length)) :=
 e_buildSlice (ht := ht) (hz := hz) ho rfl rfl (by simp [elems, h1]) ⟨⟨[p], flat_one hp1, rfl⟩, trivial⟩ (by decide) (by decide)
end
end Go.Pv
/- Walks: the reference's sorted lists of lists, lists of bits, prime filters. -/
namespace Go.Proofs.YtepjlgilopfnpaaGreat
open Go Go.Pv Go.Proofs
set_option maxHeartbeats 32000000
set_option maxRecDepth 100000

theorem less5_c (s t : List Int) (he : s.length = t.length) (hs : s.length ≤ 1048576) : PCalls Tryz.prog 186 [ints s, ints t] (B (decide (cmpX s t < 0))) := by
 refine pcalls1 Tryz.func186 rfl Tryz.ntmps186 rfl ?_
 refine wF ?_
 repeat' (first
| refine wO ?_
| (refine o_go rfl ?_; (first
| refine wS ?_); refine ⟨_, aB, ?_⟩))
 refine g_loopT (α := Nat) (fun i => [(5, I (i : Int))]) (fun _ => []) (fun i => i ≤ s.length ∧ cmpX (s.drop i) (t.drop i) = cmpX s t) (fun i => s.length - i) 0 aH ⟨Nat.zero_le _, rfl⟩ ⟨rfl, trivial⟩ rfl ?_
 rintro i ⟨hi, hcm⟩
 refine wH ?_
 by_cases hin : i < s.length
 · rw [drop_cons' 0 hin, drop_cons' 0 (show i < t.length by omega)] at hcm
   simp only [cmpX] at hcm
   repeat' (first
| refine wO ?_
| refine zP zk zk ?_
| (refine o_go rfl ?_; (first
| refine wS ?_
| refine p_p (zN rfl rfl rfl zz aQ ze) ?_); refine ⟨_, aB, ?_⟩)
| (refine g_condN rfl ?_ ?_ <;> intro hc <;> try omega)
| (refine zK rfl ?_ ?_ <;> intro hc <;> try omega)
| refine kr1 ?_
| refine krB rfl ?_
| refine wE ?_)
   · rw [if_neg hc] at hcm
     rw [← hcm]
     by_cases h : s.getD i 0 < t.getD i 0
     · rw [if_pos h, decide_eq_true h]; rfl
     · rw [if_neg h, decide_eq_false h]; rfl
   · rw [if_pos hc] at hcm
     exact zT (i + 1) ⟨by omega, hcm⟩ (by omega) aI ⟨rfl, trivial⟩ (zM _)
 · rw [List.drop_of_length_le (by omega), List.drop_of_length_le (by omega)] at hcm
   repeat' (first
| refine wO ?_
| (refine o_go rfl ?_; (first
| refine wS ?_); refine ⟨_, aB, ?_⟩)
| (refine zK rfl ?_ ?_ <;> intro hc <;> try omega)
| refine kr1 ?_
| refine krB rfl ?_
| refine wE ?_)
   rw [← hcm]; rfl
end Go.Proofs.YtepjlgilopfnpaaGreat
/- Walks: the shortest chain of translated pairs, the program's side. -/
namespace Go.Proofs.YtepjlgilopfnpaaGreat
open Go Go.Pv Go.Proofs
theorem hp2 {x y : HO} {a b : List HO} (h : hpLe a b) : hpLe (x :: y :: a) (x :: y :: b) := zB rfl (zB rfl h)
end Go.Proofs.YtepjlgilopfnpaaGreat
/- The layer: structs with owned rows in drawn regions. -/
namespace Go.Pv
open Go
attribute [local semireducible] Go.Pv.Goal Go.Pv.Ops Go.Pv.PStep Go.Pv.EStep Go.Pv.KRets Go.Pv.PCalls Go.Pv.OpsG Go.Pv.RCalls
section
variable {P : Program} {o : Oper} {ev : Operand → PV} {hp : List HO}
theorem j_make {t e : TypeId} {s by_ : Nat} {zs : List Value} [ht : MkT P t e s by_ zs] {x y : Operand} {n : Int} {zp : PV} (ho : o.op = .makeSlice t x y) (h1 : ev x = I n) (h2 : ev y = I n) (h0 : 0 ≤ n) (hb : n * by_ ≤ 140737488355328) (hn : n ≤ 9223372036854775807)
 (hs : 0 < s) (hz : zp.flat = some (zs.map .val)) (hzs : zs.length = s) : JStep P o ev hp (some hp.length) (killH hp.length hp ++ [.arr true s e (List.replicate n.toNat zp)]) (.hp hp.length) := fun fr hfr =>
 e_make (S := ⟨fr, hp⟩) (ht := ht) ho ((hfr x (by simp [ho, Op.operands])).trans h1) ((hfr y (by simp [ho, Op.operands])).trans h2) h0 hb hn hs hz hzs
theorem j_lit1S {t e : TypeId} {by_ : Nat} [ht : SlT P t e 2 by_] {zs : List Value} [hz : ZeroT P e zs] {x : Operand} {k : Nat} {e2 : TypeId} {z0 : Value} {l : List PV} (ho : o.op = .buildSlice t 1 #[(0, x)]) (h2 : ev x = .agg [.val z0, .hp k]) (hk : hp[k]? = some (.arr true 1 e2 l)) (hone : l.all PV.one = true) (hu1 : (PV.val z0).one = true) :
 JStep P o ev hp (some hp.length) (killH hp.length (hp.set k .gone) ++ [.sg e e2 0 [.val z0 :: l]]) (.hp hp.length) := fun fr hfr =>
 e_lit1S (S := ⟨fr, hp⟩) (ht := ht) ho ((hfr x (by simp [ho, Op.operands])).trans h2) hk hone hu1
theorem j_append_sg {t e : TypeId} {by_ : Nat} {z0 z1 : Value} [ht : MkT P t e 2 by_ [z0, z1]] {x y : Operand} {tys : Array TypeId} {id k : Nat} {e' e2 : TypeId} {rows rows2 : List (List PV)} (ho : o.op = .call { callee := .builtin .append, args := #[x, y], argTypes := tys })
 (htys : tys = #[t, t]) (h1 : ev x = .hp id) (hh : hp[id]? = some (.sg e e2 0 rows)) (h2 : ev y = .hp k) (hk : hp[k]? = some (.sg e' e2 0 rows2)) (hne : (k == id) = false)
 (hb : (rows.length + rows2.length) * by_ ≤ 140737488355328) (hm : rows.length + rows2.length ≤ 9223372036854775807) : JStep P o ev hp (some id) ((killH id (hp.set k .gone)).set id (.sg e e2 0 (rows ++ rows2))) (.hp id) := fun fr hfr =>
 e_append_sg (S := ⟨fr, hp⟩) (ht := ht) ho htys ((hfr x (by simp [ho, Op.operands, Call.operands])).trans h1) hh ((hfr y (by simp [ho, Op.operands, Call.operands])).trans h2) hk hne hb hm
theorem j_appendRowS {t e : TypeId} {by_ : Nat} {z0 : Value} [ht : MkT P t e 1 by_ [z0]] {x y : Operand} {tys : Array TypeId} {id i : Nat} {e1 e2 : TypeId} {rows : List (List PV)} {h0 : PV} {r l2 : List PV} {nn : Option Bool} (ho : o.op = .call { callee := .builtin .append, args := #[x, y], argTypes := tys })
 (htys : tys = #[t, t]) (h1 : ev x = .gr id i) (hh : hp[id]? = some (.sg e1 e2 0 rows)) (he : e2 = e) (hr : rows[i]? = some (h0 :: r)) (h2 : view hp (ev y) = .sl 1 nn l2) (hone : ∀ p ∈ l2, p.one = true)
 (hb : (r.length + l2.length) * by_ ≤ 140737488355328) (hm : r.length + l2.length ≤ 9223372036854775807) : JStep P o ev hp none (hp.set id (.arr true 2 e1 (rows.map sgP))) (slR (r ++ l2)) := fun fr hfr =>
 e_appendRowS (S := ⟨fr, hp⟩) (ht := ht) ho htys ((hfr x (by simp [ho, Op.operands, Call.operands])).trans h1) hh he hr (by rw [show (St.mk fr hp).ev y = ev y from hfr y (by simp [ho, Op.operands, Call.operands])]; exact h2) hone hb hm
theorem j_store_sg0 {t : TypeId} [ht : CellT P t] {x v : Operand} {id i k : Nat} {e1 e2 : TypeId} {n : Nat} {rows : List (List PV)} {r : List PV} {h0 p : PV} (ho : o.op = .store t x v) (hd : o.dst = none) (h1 : ev x = .hat id k) (hh : hp[id]? = some (.sg e1 e2 n rows))
 (hk : k = i * 2) (hr : rows[i]? = some (h0 :: r)) (h2 : view hp (ev v) = p) (hp1 : p.one = true) : JStep P o ev hp none (hp.set id (.sg e1 e2 n (rows.set i (p :: r)))) .any :=
 j_store ho hd fun fr e1 e2 => e_store_sg0 (S := ⟨fr, hp⟩) ho hd (e1.trans h1) hh hk hr (by rw [e2]; exact h2) hp1
theorem j_store_sgr {t : TypeId} [ht : CellT P t] {x v : Operand} {id i j n : Nat} {e1 e2 : TypeId} {rows : List (List PV)} {h0 : PV} {r : List PV} {p : PV} (ho : o.op = .store t x v) (hd : o.dst = none) (h1 : ev x = .gat id i j) (hh : hp[id]? = some (.sg e1 e2 n rows))
 (hr : rows[i]? = some (h0 :: r)) (hj : j < r.length) (h2 : view hp (ev v) = p) (hp1 : p.one = true) : JStep P o ev hp none (hp.set id (.sg e1 e2 n (rows.set i (h0 :: r.set j p)))) .any :=
 j_store ho hd fun fr e1 e2 => e_store_sgr (S := ⟨fr, hp⟩) ho hd (e1.trans h1) hh hr hj (by rw [e2]; exact h2) hp1
theorem j_store_arrF {t : TypeId} [ht : CellT P t] {s : Nat} {x v : Operand} {id i j k : Nat} {e : TypeId} {l c : List PV} {p p' : PV} (ho : o.op = .store t x v) (hd : o.dst = none) (h1 : ev x = .hat id k) (hh : hp[id]? = some (.arr true s e l)) (hk : k = i * s + j) (hl : l[i]? = some (.agg c)) (hj : j < c.length)
 (h2 : view hp (ev v) = p) (hp1 : p.one = true) (hp' : p' = .agg (c.set j p)) : JStep P o ev hp none (hp.set id (.arr true s e (l.set i p'))) .any :=
 j_store ho hd fun fr e1 e2 => e_store_arrF (S := ⟨fr, hp⟩) ho hd (e1.trans h1) hh hk hl hj (by rw [e2]; exact h2) hp1 hp'
end
end Go.Pv
/- Distributive lattices: irreducible elements are prime; point maps of lattice maps, lattice maps of point maps. No program here. -/
namespace Go.Proofs.YtepjlgilopfnpaaGreat
structure LMap (p q : List (List Int)) (f : List Int) : Prop where
 len : f.length = p.length
 mem : ∀ x, inR p x → inR q (im f x)
 bot : im f (botL p) = botL q
 top : im f (topL p) = topL q
 meet : ∀ x y, inR p x → inR p y → im f (meetL p x y) = meetL q (im f x) (im f y)
 join : ∀ x y, inR p x → inR p y → im f (joinL p x y) = joinL q (im f x) (im f y)
theorem LMap.mono {p q : List (List Int)} {f : List Int} (F : LMap p q f) (Lp : Lat p) (Lq : Lat q) {x y : Int} (hx : inR p x) (hy : inR p y) (h : leqB p x y = true) : leqB q (im f x) (im f y) = true := by
 have e := F.meet x y hx hy
 rw [Lp.meet_le hx hy h] at e
 rw [e]
 exact Lq.meet2 _ _ (F.mem x hx) (F.mem y hy)
end Go.Proofs.YtepjlgilopfnpaaGreat
/- Plain: products of algebras. -/
namespace Go.Proofs.YtepjlgilopfnpaaGreat
open Go Go.Pv Go.Proofs

def facQ (N m k i : Nat) : List Int := (argsL N k i).map fun x => x / (m : Int)
def facR (N m k i : Nat) : List Int := (argsL N k i).map fun x => x % (m : Int)
def prodC (N n m : Nat) (f g : OpD) (i : Nat) : Int := f.tb.getD (idxL n (facQ N m f.ar.toNat i)).toNat 0 * m + g.tb.getD (idxL m (facR N m f.ar.toNat i)).toNat 0
def prodT (N n m : Nat) (f g : OpD) (k : Nat) : List Int := (List.range k).map (prodC N n m f g)
def prodF (N n m : Nat) (f g : OpD) : OpD := ⟨f.ar, prodT N n m f g (N ^ f.ar.toNat)⟩
def prodK (N n m : Nat) (A B : List OpD) (k : Nat) : List OpD := (List.range k).map fun i => prodF N n m (A.getD i default) (B.getD i default)
def prodL (n m : Nat) (A B : List OpD) : List OpD := prodK (n * m) n m A B A.length
def sameT (A B : List OpD) : Prop := A.map (fun f => f.ar) = B.map (fun f => f.ar)
theorem sameT.len {A B : List OpD} (h : sameT A B) : A.length = B.length := by
 have := congrArg List.length h
 simpa using this
theorem sameT.at {A B : List OpD} (h : sameT A B) (i : Nat) : (A.getD i default).ar = (B.getD i default).ar := by
 have h1 : (A.map (fun f => f.ar)).getD i (default : OpD).ar = (B.map (fun f => f.ar)).getD i (default : OpD).ar := by rw [h]
 simp only [List.getD_eq_getElem?_getD, List.getElem?_map] at h1 ⊢
 cases ha : A[i]? <;> cases hb : B[i]? <;> simp_all
theorem facQ_len (N m k i : Nat) : (facQ N m k i).length = k := by unfold facQ; rw [List.length_map, argsL_len]
theorem facR_len (N m k i : Nat) : (facR N m k i).length = k := by unfold facR; rw [List.length_map, argsL_len]
theorem facQ_in {n m : Nat} (hn : 0 < n) (hm : 0 < m) (k i : Nat) : ∀ x ∈ facQ (n * m) m k i, 0 ≤ x ∧ x < (n : Int) := fun x hx => by
 obtain ⟨y, hy, rfl⟩ := List.mem_map.1 hx
 obtain ⟨y0, y1⟩ := argsL_in (Nat.mul_pos hn hm) k i y hy
 refine ⟨Int.ediv_nonneg y0 (by omega), Int.ediv_lt_of_lt_mul (by omega) ?_⟩
 rw [Int.natCast_mul] at y1; exact y1
theorem facR_in {n m : Nat} (hm : 0 < m) (k i : Nat) : ∀ x ∈ facR (n * m) m k i, 0 ≤ x ∧ x < (m : Int) := fun x hx => by
 obtain ⟨y, -, rfl⟩ := List.mem_map.1 hx
 exact ⟨Int.emod_nonneg _ (by omega), Int.emod_lt_of_pos _ (by omega)⟩
theorem tb_in {n : Nat} {f : OpD} (h : 0 ≤ f.ar ∧ f.ar ≤ 3 ∧ f.tb.length = n ^ f.ar.toNat ∧ ∀ i, i < n ^ f.ar.toNat → 0 ≤ f.tb.getD i 0 ∧ bk f.tb i < n) {l : List Int} (hl : l.length = f.ar.toNat) (hx : ∀ x ∈ l, 0 ≤ x ∧ x < (n : Int)) :
 0 ≤ f.tb.getD (idxL n l).toNat 0 ∧ f.tb.getD (idxL n l).toNat 0 < (n : Int) := by
 have hb := idxL_bound l hx
 rw [hl] at hb
 obtain ⟨h0, h1⟩ := h.2.2.2 (idxL n l).toNat (by omega)
 unfold bk at h1
 omega
theorem prodC_in {n m : Nat} (hn : 0 < n) (hm : 0 < m) {f g : OpD} (hf : 0 ≤ f.ar ∧ f.ar ≤ 3 ∧ f.tb.length = n ^ f.ar.toNat ∧ ∀ i, i < n ^ f.ar.toNat → 0 ≤ f.tb.getD i 0 ∧ bk f.tb i < n) (hg : 0 ≤ g.ar ∧ g.ar ≤ 3 ∧ g.tb.length = m ^ g.ar.toNat ∧ ∀ i, i < m ^ g.ar.toNat → 0 ≤ g.tb.getD i 0 ∧ bk g.tb i < m) (he : f.ar = g.ar) (i : Nat) :
 0 ≤ prodC (n * m) n m f g i ∧ prodC (n * m) n m f g i < ((n * m : Nat) : Int) := by
 obtain ⟨a0, a1⟩ := tb_in hf (facQ_len (n * m) m f.ar.toNat i) (facQ_in hn hm _ i)
 obtain ⟨b0, b1⟩ := tb_in hg (l := facR (n * m) m f.ar.toNat i) (by rw [facR_len, he]) (facR_in hm _ i)
 unfold prodC
 generalize f.tb.getD _ 0 = a at *
 generalize g.tb.getD _ 0 = b at *
 have h1 : 0 ≤ a * (m : Int) := Int.mul_nonneg a0 (by omega)
 have h2 : (a + 1) * (m : Int) ≤ (n : Int) * (m : Int) := Int.mul_le_mul_of_nonneg_right (by omega) (by omega)
 rw [Int.add_mul, Int.one_mul] at h2
 rw [Int.natCast_mul]
 omega
theorem prodK_succ (N n m : Nat) (A B : List OpD) (k : Nat) : prodK N n m A B (k + 1) = prodK N n m A B k ++ [prodF N n m (A.getD k default) (B.getD k default)] := by
 unfold prodK; rw [List.range_succ, List.map_append]; rfl
theorem prodT_succ (N n m : Nat) (f g : OpD) (k : Nat) : prodT N n m f g (k + 1) = prodT N n m f g k ++ [prodC N n m f g k] := by
 unfold prodT; rw [List.range_succ, List.map_append]; rfl
theorem prodK_len (N n m : Nat) (A B : List OpD) (k : Nat) : (prodK N n m A B k).length = k := by simp [prodK]
theorem prodT_len (N n m : Nat) (f g : OpD) (k : Nat) : (prodT N n m f g k).length = k := by simp [prodT]
theorem prod_in {n m : Nat} {A B : List OpD} (hn : 0 < n) (hm : 0 < m) (hA : opsIn n A) (hB : opsIn m B) (ht : sameT A B) : opsIn (n * m) (prodL n m A B) := fun F hF => by
 obtain ⟨i, hi, rfl⟩ := List.mem_map.1 hF
 have hi := List.mem_range.1 hi
 have hfa := hA _ (opsK_mem hi)
 have hfb := hB _ (opsK_mem (by rw [← ht.len]; exact hi))
 refine ⟨hfa.1, hfa.2.1, ?_, fun j hj => ?_⟩
 · show (prodT _ _ _ _ _ _).length = _
   rw [prodT_len]; rfl
 · have hj : j < (n * m) ^ (A.getD i default).ar.toNat := hj
   show 0 ≤ (prodT _ _ _ _ _ _).getD j 0 ∧ bk (prodT _ _ _ _ _ _) j < _
   have e : (prodT (n * m) n m (A.getD i default) (B.getD i default) ((n * m) ^ (A.getD i default).ar.toNat)).getD j 0 = prodC (n * m) n m (A.getD i default) (B.getD i default) j := by
    unfold prodT; rw [List.getD_eq_getElem?_getD, List.getElem?_map, List.getElem?_range hj]; rfl
   have := prodC_in hn hm hfa hfb (ht.at i) j
   unfold bk
   rw [e]; omega
theorem prod_type {n m : Nat} {A B : List OpD} : (prodL n m A B).map (fun f => f.ar) = A.map fun f => f.ar := by
 refine List.ext_getElem (by simp [prodL, prodK]) fun i h1 h2 => ?_
 simp [prodL, prodK, prodF, List.getD_eq_getElem?_getD]
 rw [List.getElem?_eq_getElem (by simpa using h2)]; rfl
theorem opsIn_sz {n : Nat} {A : List OpD} (hn : n ≤ 8) (hA : opsIn n A) (hl : A.length ≤ 1048576) : szOk A := ⟨hl, fun f hf => by
 obtain ⟨-, h1, h2, -⟩ := hA f hf
 rw [h2]
 calc n ^ f.ar.toNat ≤ 8 ^ f.ar.toNat := Nat.pow_le_pow_left hn _
  _ ≤ 8 ^ 3 := Nat.pow_le_pow_right (by decide) (by omega)
  _ ≤ 1048576 := by decide⟩
end Go.Proofs.YtepjlgilopfnpaaGreat
/- Walks: the program's clones, whole. -/
namespace Go.Proofs.YtepjlgilopfnpaaGreat
open Go Go.Pv Go.Proofs
theorem entOk.small {n size : Nat} (hn : n ≤ 8) {E : List Ent} (h : ∀ c ∈ E, entOk n size c) : smallE E := fun c hc x hx => by
 have := (h c hc).2 x hx
 omega
end Go.Proofs.YtepjlgilopfnpaaGreat
/- Walks: the ternary term functions of a small algebra, on both sides, with what is known of them. -/
namespace Go.Proofs.YtepjlgilopfnpaaGreat
open Go Go.Pv Go.Proofs
structure CT (n : Nat) (ops : List OpD) (T : List (List Int)) : Prop where
 n0 : 0 < n
 n3 : n ≤ 3
 ops4 : ops.length ≤ 4
 op : ∀ f ∈ ops, opOk n f = true
 len0 : 0 < T.length
 len : T.length ≤ 60
 row : ∀ t ∈ T, t.length = n ^ 3 ∧ ∀ x ∈ t, 0 ≤ x ∧ x < (n : Int)
 nd : T.Nodup
 prj : ∀ p, p < 3 → prjL n 3 p ∈ T
 clo : closedT n (n ^ 3) ops T T.length
theorem CT.lenOk {n : Nat} {ops : List OpD} {T : List (List Int)} (h : CT n ops T) : lenOk T := ⟨by have := h.len; omega, fun t ht => by
 have h27 : n ^ 3 ≤ 27 := Nat.pow_le_pow_left h.n3 3
 rw [(h.row t ht).1]; omega⟩
end Go.Proofs.YtepjlgilopfnpaaGreat
/- Walks: operations that the law owns, with their rows: made, marked. -/
namespace Go.Proofs.YtepjlgilopfnpaaGreat
open Go Go.Pv Go.Proofs

abbrev rowO (f : OpD) : List Int := f.ar :: f.tb
abbrev rowsO (L : List OpD) : List (List Int) := L.map rowO
abbrev sgI (rows : List (List Int)) : HO := .sg 89 3 0 (rows.map fun r => r.map I)
theorem rowsO_view (L : List OpD) : (PV.sl 2 none (((rowsO L).map fun r => r.map I).map sgP)) = opsP L := by
 rw [List.map_map, List.map_map]; rfl
theorem le_algG (n : Int) (L : List OpD) : (PV.agg [I n, PV.sl 2 none (((rowsO L).map fun r => r.map I).map sgP)]).le (algP n L) := by rw [rowsO_view]; exact PV.le_refl _
end Go.Proofs.YtepjlgilopfnpaaGreat
/- The layer: a variable's box whose block is told by a number: closures that are stored elsewhere name it. -/
namespace Go.Pv
open Go
attribute [local semireducible] Go.Pv.PStep Go.Pv.EStep
theorem VRS1.plain {g : Ghost} {ρ : Nat → Loc} {hp : List HO} {v : Value} {p : PV} (hp1 : (match p with | .hp _ | .hat _ _ | .gr _ _ | .gat _ _ _ | .hpv _ _ _ | .hatv _ _ _ _ => false | _ => true) = true) (h : VRS1 g ρ hp v p) : VR g v p := by
 cases p <;> first | (cases hp1; done) | exact h
section
variable {P : Program} {o : Oper} {S : St} {ev : Operand → PV} {hp : List HO}
theorem ps_loadP {t : TypeId} [ht : CellT P t] {x : Operand} {b id i : Nat} {l : List PV} {q : PV} (ho : o.op = .load t x) (h1 : ev x = .val (.pointer (some ⟨b, i, none⟩))) (hh : hp[id]? = some (.pin b l)) (hq : l[i]? = some q) : PStep P o ev hp q :=
 .of_run fun w0 g ρ w av hb hx => by
  have ea := val_of (hx x (by simp [ho, Op.operands])) h1
  obtain ⟨cur, e, hown⟩ := hb.own id _ hh
  have hi : i < cur.size := by rw [hown.hsz]; exact (List.getElem?_eq_some_iff.1 hq).1
  have hc := own_load hown.hw hi
  refine ⟨cur.getD i undef, ?_, .of_VR (hown.hv i q hq)⟩
  simp only [execOp, ho, ea]
  refine run_value ?_
  unfold Instr.loadAt Instr.sureAddr loadVar
  simp only [Sem.run_bind, run_pure, Result.andThen, ht.ha]
  simp [load, Sem.run, hc]
theorem e_storeP {t : TypeId} [ht : CellT P t] {x v : Operand} {b id i : Nat} {l : List PV} {p : PV} (ho : o.op = .store t x v) (hd : o.dst = none) (h1 : S.ev x = .val (.pointer (some ⟨b, i, none⟩))) (hh : S.hp[id]? = some (.pin b l)) (hi : i < l.length)
 (h2 : view S.hp (S.ev v) = p) (hone : p.one = true) : EStep P o S ⟨S.fr, S.hp.set id (.pin b (l.set i p))⟩ := by
 refine EStep.of_store ht.hs ho hd hh (fun m s e l h => by cases h) (fun e1 e2 rows h => by cases h) (fun e1 e2 n rows h => by cases h) (fun L b h => h) fun w0 g ρ a w hr hsame => ?_
 obtain ⟨cur, e, hown⟩ := hr.base.own id _ hh
 have ea : a.eval x = .pointer (some ⟨b, i, none⟩) := val_of (hr.ev x) h1
 have ev := hr.base.view (hr.ev v)
 rw [h2] at ev
 obtain ⟨hc1, hc2⟩ := ev.oneCell hone
 refine ⟨_, i, cur, e, ea, hown.hblk.symm, hown.hB, hown.hw, hown.hg, by rw [hown.hsz]; exact hi, by rw [hc1]; rfl, by rw [hc1]; simpa using hc2, fun cur' hs' hk' => ?_⟩
 refine ⟨cur', e, hown.hblk, hown.hB, setRow_heap w _ _ _ _ _ hown.hw, by rw [hs', hown.hsz]; simp, fun k q hq => ?_, hown.hg⟩
 rw [hk' k]
 rw [List.getElem?_set] at hq
 by_cases e : i = k
 · subst e
   rw [if_pos rfl, if_pos hi] at hq
   cases hq
   rw [if_pos (by omega), hc1]
   simpa using ev
 · rw [if_neg e] at hq
   rw [if_neg (by omega)]
   exact hown.hv k q hq
theorem g_pinB {K : Exit → St → Prop} {c : Code} (j i : Nat) {l : List PV} (h : S.fr[j]? = some (.hat i 0)) (h2 : S.hp[i]? = some (.box l)) (hl : aloneHO (.box l) = true) (hk : ∀ b, ∃ S', St.mk (S.fr.set j (.val (.pointer (some ⟨b, 0, none⟩)))) (S.hp.set i (.pin b l)) = S' ∧ Goal P c K S') : Goal P c K S := by
 unfold Goal
 intro w0 g ρ a w Q hr hQ
 obtain ⟨cur, e, hown⟩ := hr.base.own i _ h2
 obtain ⟨S', rfl, hg⟩ := hk (ρ i).blk
 unfold Goal at hg
 have hsame : ∀ v p, VRS1 g ρ S.hp v p → VRS1 g ρ (S.hp.set i (.pin (ρ i).blk l)) v p := fun v p h => same_set h2 (fun _ _ _ _ h => by cases h) (fun _ _ _ h => by cases h) (fun _ _ _ _ h => by cases h) (GExt.refl g) h
 have hbase := hr.base.upd h2 (x' := .pin (ρ i).blk l) (ρ i) (GExt.refl g) _root_.id (by rw [upd_id, map_mapHO_id]; exact hsame) hr.base.agree hr.base.below (fun _ _ _ => rfl)
  (by rw [upd_id, map_mapHO_id]; exact ⟨cur, e, rfl, hown.hB, hown.hw, hown.hsz, fun k q hq => VRS1.plain (List.all_eq_true.1 hl q (List.mem_of_getElem? hq)) (hown.hv k q hq), hown.hg⟩) (fun b' hb' => .inl hb') (fun b' hb' hnf => ⟨rfl, fun _ => rfl⟩)
 rw [upd_id, map_mapHO_id] at hbase
 have hr' := hr.same hbase hsame
 refine hg w0 g ρ a w Q ⟨hr'.base, hr'.dead, by simpa using hr'.size, fun k p hp => ?_⟩ hQ
 rw [List.getElem?_set] at hp
 split at hp
 · rename_i e
   subst e
   split at hp
   · cases hp
     have hv : VRS1 g ρ S.hp _ (.hat i 0) := hr.fr j _ h
     have hv : a.tmps.getD j undef = .pointer (some ⟨(ρ i).blk, 0, none⟩) := hv
     rw [hv]
     exact .of_VR (.val _)
   · cases hp
 · exact hr'.fr k p hp
end
end Go.Pv
/- What an argument reads as, by value: numbers, lists of numbers, rows of them, a struct of rows. -/
namespace Go.Pv
open Go Go.ChangeShapes Go.WideShapes Go.RowKit Go.Deep

def gW (W : World) : Ghost := fun b o => W.cell? ⟨b, o, none⟩
theorem gW_agree (W : World) : Agree (gW W) W := fun _ _ _ h => h
theorem cell_spot {w : World} {a : Addr} {v : Value} (h : w.cell? a = some v) : a.spot = none := by
 unfold World.cell? at h
 split at h
 · split at h
   · cases h
   · rename_i h'; simpa using h'
 · cases h
theorem addr_eq {a : Addr} (h : a.spot = none) : a = ⟨a.block, a.off, none⟩ := by cases a; simp_all
theorem add0 (a : Addr) : a.add 0 = a := by simp [Addr.add]

end Go.Pv
/- What an argument of bytes reads as, by value. -/
namespace Go.Pv
open Go Go.ChangeShapes Go.WideShapes Go.RowKit Go.Deep

theorem vr_rowY {w : World} {A : Option Addr} {L C : Nat} {zs : List Int} (h1 : L ≤ C) (h2 : C ≤ maxLen) (h3 : zs.length = C) (h4 : A = none → C = 0) (h5 : ∀ a', A = some a' → ∀ c, c < C → w.cell? (a'.add c) = some (.int .u8 (zs.getD c 0))) :
 VR (gW w) (.slice A L C) (.sl 1 none ((zs.take L).map Y)) := by
 cases A with
 | none =>
  have hC := h4 rfl
  have hL : L = 0 := by omega
  subst hC; subst hL
  exact .nilsl 1 none (by simp)
 | some a =>
  rcases Nat.eq_zero_or_pos L with h0 | hpos
  · subst h0; exact .esl 1 none a C (by simp)
  · have hc := h5 a rfl
    have hs : a.spot = none := by
     have := hc 0 (by omega)
     rw [add0] at this
     exact cell_spot this
    have key := VR.sl (g := gW w) 1 none a.block a.off C ((zs.take L).map Y) (fun i => [Y (zs.getD i 0)]) (fun k => .int .u8 (zs.getD k 0)) (by omega) (by simp) (by simp; omega) h2 (fun i p hi => ?_) (fun k hk => ?_) (fun i j q hi hq => ?_)
    · have hl : ((zs.take L).map Y).length = L := by simp; omega
      rw [hl, ← addr_eq hs] at key
      exact key
    · rw [List.getElem?_map, Option.map_eq_some_iff] at hi
      obtain ⟨z, hz, rfl⟩ := hi
      have hlt := (List.getElem?_eq_some_iff.1 hz).1
      simp only [List.length_take] at hlt
      rw [List.getElem?_take_of_lt (by omega)] at hz
      exact ⟨by simp [PV.flat, PV.one, List.getD_eq_getElem?_getD, hz], rfl⟩
    · simp only [List.length_map, List.length_take] at hk
      have := hc k (by omega)
      show w.cell? ⟨a.block, a.off + k, none⟩ = _
      rw [← this]
      rw [addr_eq hs, Addr.add_n]
    · have hj : j = 0 := by rcases j with _ | j; rfl; simp at hq
      subst hj
      simp at hq
      subst hq
      simp only [Nat.mul_one, Nat.add_zero]
      exact .val _
theorem wf_u8 {n : Int} (h : (Lit.int .u8 n).wf = true) : 0 ≤ n ∧ n ≤ 255 := by
 simp [Lit.wf] at h
 rw [show IntKind.u8.min = 0 by rfl, show IntKind.u8.max = 255 by rfl] at h
 exact h
section
variable {H : Type} {enc : TypeId × Value → H} {P : Program} {W : World} {held : Bool}
theorem ar_bytes {t e : TypeId} {v : Value} {d : DataW H} {ps : List MemPlace} (ht : P.underlying t = some (.slice e)) (he : P.underlying e = some (.int .u8)) (hc : P.cellsOf e = 1) (hval : ∃ r b, Value.okWide P W r b t v) (h : DataW.Trod enc P W 0 (fun _ => true) held t v d ps) :
 ∃ l : List Int, VR (gW W) v (.sl 1 none (l.map Y)) ∧ l.length ≤ maxLen ∧ ∀ i, i < l.length → 0 ≤ l.getD i 0 ∧ l.getD i 0 ≤ 255 := by
 obtain ⟨r, b, hval⟩ := hval
 obtain ⟨fuel, h⟩ := h
 have key : ∀ cs x, DataW.trod enc P W 0 (fun _ => true) held fuel t cs = some x → ∃ (u : Value) (l : List Int), cs = [u] ∧ VR (gW W) u (.sl 1 none (l.map Y)) ∧ l.length ≤ maxLen ∧ ∀ n ∈ l, (Lit.int .u8 n).wf = true := fun cs x h => by
  rcases open_ints ht he hc h with ⟨rfl, -⟩ | ⟨a, len, cap, zs, rfl, -, hl, hm, hz, -, hcell, hwf⟩
  · exact ⟨_, [], rfl, .nilsl 1 none (by simp), by simp, fun n hn => by simp at hn⟩
  · simp only [if_true] at hz
    refine ⟨_, zs.take len, rfl, vr_rowY hl hm hz (fun h => by cases h) (fun a' ha c hc => ?_), by simp; omega, fun n hn => hwf n (List.mem_of_mem_take hn)⟩
    cases ha
    exact hcell c (by omega)
 obtain ⟨u, l, hcs, h1, h2, h3⟩ := key _ _ h
 have e : v = u := by
  cases v with
  | agg cs => unfold Value.okWide at hval; rw [ht] at hval; simp [Cell.okWide, Cell.ok, ht] at hval
  | tuple cs => unfold Value.okWide at hval; rw [ht] at hval; simp [Cell.okWide, Cell.ok, ht] at hval
  | _ => exact (List.cons.inj hcs).1
 refine ⟨l, e ▸ h1, h2, fun i hi => ?_⟩
 rw [List.getD_eq_getElem?_getD, List.getElem?_eq_getElem hi]
 exact wf_u8 (h3 _ (List.getElem_mem hi))
end
end Go.Pv
