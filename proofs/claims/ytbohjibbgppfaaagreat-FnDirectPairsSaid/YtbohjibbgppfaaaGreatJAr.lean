/- Walks: the reference's lattice maps, points and chains. -/
import Derived.Laws.Small
import Derived.Test.YtbohjibbgppfaaaGreatJSq
import Derived.Test.YtbohjibbgppfaaaGreatJPq
import Derived.Test.YtbohjibbgppfaaaGreatJKb
import Derived.Test.YtbohjibbgppfaaaGreatJNb
import Derived.Test.YtbohjibbgppfaaaGreatJPr

set_option linter.unusedSectionVars false
namespace Go.Proofs.YtbohjibbgppfaaaGreat
open Go Go.Pv Go.Proofs
set_option maxHeartbeats 32000000
set_option maxRecDepth 100000
theorem own_R (l : List Int) (hl : l.length ≤ 1048576) : RCalls Tryz.prog 140 [ints l] (.arr true 1 3 (l.map I)) (.hp 0) := by
 refine pcallsR1 Tryz.func140 rfl Tryz.ntmps140 rfl ?_
 refine wF ?_
 repeat' (first
| refine wO ?_
| (refine o_go rfl ?_; (first
| refine wS ?_
| refine p_e rfl (e_lit0 rfl zd) ?_
| refine p_e rfl (e_append rfl rfl rfl rfl rfl rfl (by first | exact one_one rfl | exact one_map (fun _ => rfl) _) rfl aT aT) ?_); refine ⟨_, aA, ?_⟩)
| refine krr 0 rfl (HandOut.arr rfl ?_ aR)
| refine wE ?_)
 rfl
end Go.Proofs.YtbohjibbgppfaaaGreat
/- Clones: found tables, round by round (plain). -/
namespace Go.Proofs.YtbohjibbgppfaaaGreat
open Go Go.Pv Go.Proofs

abbrev Stp := Int × List Int
abbrev Ent := List Int × Stp
def entOk (n size : Nat) (e : Ent) : Prop := e.1.length = size ∧ ∀ x ∈ e.1, 0 ≤ x ∧ x < (n : Int)
/-! ### One round after another -/
/-! ### The reference's rounds -/
def closedT (n size : Nat) (ops : List OpD) (T : List (List Int)) (b : Nat) : Prop := ∀ f ∈ ops, ∀ args : List Int, args.length = f.ar.toNat → (∀ x ∈ args, 0 ≤ x ∧ x < (b : Int)) → cmpL n f.tb (args.map fun x => T.getD x.toNat []) size ∈ T
end Go.Proofs.YtbohjibbgppfaaaGreat
/- The layer: an owned block of cells that is reached by a slice: its cells may name other objects. -/
namespace Go.Pv
open Go
attribute [local semireducible] Go.Pv.Goal Go.Pv.Ops Go.Pv.PStep Go.Pv.EStep Go.Pv.KRets Go.Pv.PCalls Go.Pv.OpsG
section
variable {P : Program} {o : Oper} {S : St} {ev : Operand → PV} {hp : List HO}
theorem VRS.box_new (g : Ghost) (ρ : Nat → Loc) (hp : List HO) (l : List PV) (L : Loc) (hc1 : l.length ≤ L.cap) (hc2 : L.cap ≤ maxLen) : VRS g (upd ρ hp.length L) (killH hp.length hp ++ [.box l]) (.slice (some ⟨L.blk, 0, none⟩) l.length L.cap) (.hp hp.length) := by
 have hg : (killH hp.length hp ++ [HO.box l])[hp.length]? = some (.box l) := by
  rw [List.getElem?_append_right (by simp [killH])]; simp [killH]
 refine ⟨⟨_, _, _, rfl⟩, fun m s' e' l' hid => ?_, fun e1 e2 rows hid => ?_, fun e1 e2 n rows hid => ?_, fun l' hid => ?_, fun e1 e2 n rows hid => ?_⟩
 · rw [hg] at hid; cases hid
 · rw [hg] at hid; cases hid
 · rw [hg] at hid; cases hid
 · rw [hg] at hid; cases hid; rw [upd_same]; exact ⟨rfl, hc1, hc2⟩
 · rw [hg] at hid; cases hid
theorem e_makeBox {t e : TypeId} {s by_ : Nat} {zv : Value} [ht : MkT P t e s by_ [zv]] {x y : Operand} {n : Int} (ho : o.op = .makeSlice t x y) (h1 : S.ev x = I n) (h2 : S.ev y = I n) (h0 : 0 ≤ n) (hb : n * by_ ≤ 140737488355328) (hn : n ≤ 9223372036854775807)
 (hs : s = 1) : EStep P o S (S.setObj S.hp.length (killH S.hp.length S.hp ++ [.box (List.replicate n.toNat (.val zv))]) o.dst (.hp S.hp.length)) := by
 subst hs
 intro w0 g ρ a w hr Q K hK
 have e1 := val_of (hr.ev x) h1
 have e2 := val_of (hr.ev y) h2
 obtain ⟨i, z, hi, hi1, hi2, hi3, hi4⟩ := ht.hi
 have hrun := run_make (P := P) w t e i z ht.hu hi hi3 .i64 .i64 n n h0 (Int.le_refl _) (by rw [hi2, Int.mul_comm]; omega) hn
 rw [hi1] at hrun
 unfold Oper.wp
 simp only [execOp, ho, e1, e2]
 rw [run_value hrun]
 have hgn : ∀ k, g w.heap.size k = none := fun k => by
  cases hk : g w.heap.size k with
  | none => rfl
  | some v => exact absurd (hr.base.agree.lt hk) (Nat.lt_irrefl _)
 have hzc : z.cells.size = 1 := by rw [← Array.length_toList, hi4]; rfl
 have hbase := hr.base.push (x' := .box (List.replicate n.toNat (.val zv))) ⟨w.heap.size, n.toNat, fun _ => 0, fun _ => 0⟩ (GExt.refl g) (killP1 S.hp.length) (fun v p h => h.kill S.hp.length _ (GExt.refl g) (fun i hi => killH_push _ _ hi)) (hr.base.agree.below ((RowKit.Below.refl _ _).alloc (Nat.le_refl _) _)) ((RowKit.Below.refl _ _).alloc (Nat.le_refl _) _)
  ⟨madeCells z.cells (n.toNat * 1), e, Ini.own_new hr.base.below.size, heap_alloc_new w _, by simp [size_madeCells], fun k q hk => (by
   rw [List.getElem?_replicate] at hk
   split at hk
   · rename_i hlt
     cases hk
     have : (madeCells z.cells (n.toNat * 1)).getD k undef = zv := by
      have hz0 : z.cells[0]? = some zv := by rw [← Array.getElem?_toList, hi4]; rfl
      have hm : k % 1 = 0 := Nat.mod_one k
      have hlt' : k < n.toNat * 1 := by omega
      simp only [madeCells, Array.getD_eq_getD_getElem?, Array.getElem?_map, Array.getElem?_range, hlt', if_true, Option.map_some, Option.getD_some, hzc, hm]
      rw [getElem!_def, hz0]
     rw [this]; exact .of_VR (.val zv)
   · cases hk), fun k => hgn k⟩ (fun b hb => by simp only [foot] at hb; omega) (fun b hb k => rfl)
 have hv := VRS.box_new g ρ S.hp (List.replicate n.toNat (.val zv)) ⟨w.heap.size, n.toNat, fun _ => 0, fun _ => 0⟩ (by simp) (by simp only [maxLen]; omega)
 simp only [List.length_replicate] at hv
 exact hK _ _ _ _ (GExt.refl g) (hr.setObj S.hp.length _ hbase (GExt.refl g) (fun i hi => killH_push _ _ hi) hv o.dst)
theorem ps_index_box {t e : TypeId} {by_ : Nat} [ht : SlT P t e 1 by_] {x ix : Operand} {l : List PV} {i : Int} {id : Nat} (ho : o.op = .indexAddr t x ix) (h1 : ev x = .hp id)
 (hh : hp[id]? = some (.box l)) (h2 : ev ix = I i) (h0 : 0 ≤ i) (hq : i.toNat < l.length) : PStep P o ev hp (.hat id i.toNat) :=
 .of_run fun w0 g ρ w av hb hx => by
  have e1 := hx x (by simp [ho, Op.operands])
  have e2 := val_of (hx ix (by simp [ho, Op.operands])) h2
  rw [h1] at e1
  have ea := (HpV.box e1 _ hh).1
  refine ⟨.pointer (some ⟨(ρ id).blk, i.toNat, none⟩), ?_, rfl⟩
  have hi : i < (l.length : Int) := by omega
  simp [execOp, ho, ea, e2, Instr.indexAt, asIntOf, run_underlying ht.hu, ht.hs, h0, hi, Addr.add_n, go_sem]
theorem g_viewBox {c : Code} {K : Exit → St → Prop} (n : Nat) {l : List PV} (hn : S.hp[n]? = some (.box l)) (h : ∃ S', St.mk S.fr (S.hp.set n (.box (l.map (Pv.view1 S.hp)))) = S' ∧ Goal P c K S') : Goal P c K S := by
 obtain ⟨S', rfl, h⟩ := h
 unfold Goal at h ⊢
 intro w0 g ρ a w Q hr hQ
 refine h w0 g ρ a w Q (rel_swap hr hn (x' := .box (l.map (Pv.view1 S.hp))) (fun hp' hx => ?_) (fun b hb => hb) (fun v hp' h' hh => ?_) (fun e1 e2 rows h => by cases h)) hQ
 · obtain ⟨cur, e, h1, h2, h3, h4, h5⟩ := hx
   refine ⟨cur, e, h1, h2, by rw [List.length_map]; exact h3, fun k q hk => ?_, h5⟩
   rw [List.getElem?_map, Option.map_eq_some_iff] at hk
   obtain ⟨p, hp', rfl⟩ := hk
   exact .of_VR (hr.base.view1 (h4 k p hp'))
 · exact { sl := hh.sl, arr := fun m s' e2 l' hid => (by rw [h'] at hid; cases hid), grid := fun e1 e2 rows hid => (by rw [h'] at hid; cases hid), sg := fun e1 e2 m rows hid => (by rw [h'] at hid; cases hid),
           pg := fun e1 e2 m rows hid => (by rw [h'] at hid; cases hid),
           box := fun l' hid => (by rw [h'] at hid; cases hid; rw [List.length_map]; exact hh.box _ hn) }
theorem EStep.cast {S' S2 : St} (h : EStep P o S S') (e : S' = S2) : EStep P o S S2 := e ▸ h
theorem g_castH {c : Code} {K : Exit → St → Prop} {fr : List PV} {hp hp' : List HO} (e : hp = hp') (h : Goal P c K ⟨fr, hp'⟩) : Goal P c K ⟨fr, hp⟩ := e ▸ h
end
end Go.Pv
/- The layer: a small region in any order, each order walked. -/
namespace Go.Pv
open Go
attribute [local semireducible] Go.Pv.Goal Go.Pv.Ops Go.Pv.PStep Go.Pv.EStep Go.Pv.KRets Go.Pv.PCalls Go.Pv.OpsG
section
variable {P : Program} {ops : Array Oper} {K : St → Prop}
def aAnyB (P : Program) (ops : Array Oper) (K : St → Prop) : Nat → Array Bool → St → Prop
 | 0, listed, S => Region.ready .any ops listed = [] ∧ K S
 | n + 1, listed, S => (Region.ready .any ops listed = [] → K S) ∧ ∀ i ∈ Region.ready .any ops listed, ∃ o, ops[i]? = some o ∧ guardS ops S.fr o = some true ∧ ∃ S', EStep P o S S' ∧ aAnyB P ops K n (listed.setIfInBounds i true) S'
theorem wpAny_of_aAnyB {Q : Exit → Act → World → Prop} {w0 : Ini} (hK : ∀ S g ρ a w, K S → Rel w0 S g ρ a w → Q .normal a w) :
 ∀ (n : Nat) (listed : Array Bool) (S : St) (g : Ghost) (ρ : Nat → Loc) (a : Act) (w : World), aAnyB P ops K n listed S → Rel w0 S g ρ a w → wpAny P .any ops Q n listed a w
 | 0, _, S, g, ρ, a, w, h, hr => ⟨h.1, hK S g ρ a w h.2 hr⟩
 | n + 1, listed, S, g, ρ, a, w, h, hr => by
  refine ⟨fun h0 => hK S g ρ a w (h.1 h0) hr, fun i hi => ?_⟩
  obtain ⟨o, ho, hg, S', hp, h1⟩ := h.2 i hi
  unfold wpOp
  rw [ho]
  dsimp only
  rw [if_pos (guardS_spec hr hg)]
  left
  exact hp w0 g ρ a w hr Q _ fun g' ρ' a' w' _ hr' => wpAny_of_aAnyB hK n _ S' g' ρ' a' w' h1 hr'
theorem g_region_B {id : Nat} {l : List Oper} {K : Exit → St → Prop} {S : St} (hm : P.follows .mixedOrders = true) (n : Nat) (hn : l.length = n)
 (h : aAnyB P l.toArray (K .normal) n (Array.replicate n false) S) : Goal P (.region id l.toArray true) K S := fun w0 g ρ a w Q hr hQ => by
 refine wp_region_any hm (wpAny_of_aAnyB (K := K .normal) (fun S' g' ρ' a' w' hk hr' => hQ .normal S' g' ρ' a' w' hk hr') _ _ S g ρ a _ ?_ hr.drew)
 subst hn
 simpa using h
variable {n : Nat} {listed : Array Bool} {S : St}
theorem b_end (hl : Region.ready .any ops listed = []) (hk : K S) : aAnyB P ops K 0 listed S := ⟨hl, hk⟩
theorem g_region_BJ {id : Nat} {l : List Oper} {K : Exit → St → Prop} {S S1 : St} (hm : P.follows .mixedOrders = true) (n : Nat) (hn : l.length = n)
 (h : aAnyB P l.toArray (fun T => T = S1) n (Array.replicate n false) S) (hk : K .normal S1) : Goal P (.region id l.toArray true) K S := by
 refine g_region_B hm n hn ?_
 have key : ∀ (m : Nat) (listed : Array Bool) (T : St), aAnyB P l.toArray (fun T => T = S1) m listed T → aAnyB P l.toArray (K .normal) m listed T := by
  intro m
  induction m with
  | zero => exact fun listed T h => ⟨h.1, h.2 ▸ hk⟩
  | succ m ih =>
   intro listed T h
   refine ⟨fun e => h.1 e ▸ hk, fun i hi => ?_⟩
   obtain ⟨o, h1, h2, S', h3, h4⟩ := h.2 i hi
   exact ⟨o, h1, h2, S', h3, ih _ _ h4⟩
 exact key _ _ _ h
theorem l_E {o : Oper} {m : Nat} {x : HO} {q : PV} {fr : List PV} {hp : List HO} (h : LStep P o (St.mk fr hp).ev m x q) (h0 : hp[m]? = some .gone) (h1 : fr.map (killP m) = fr) (h2 : hp.map (mapHO (killP1 m)) = hp) : EStep P o ⟨fr, hp⟩ (St.put ⟨fr, hp.set m x⟩ o.dst q) :=
 h fr hp (fun _ _ => rfl) h0 ⟨h1, h2⟩
end
end Go.Pv
/- Distributive lattices: irreducible elements are prime; point maps of lattice maps, lattice maps of point maps. No program here. -/
namespace Go.Proofs.YtbohjibbgppfaaaGreat
structure LMap (p q : List (List Int)) (f : List Int) : Prop where
 len : f.length = p.length
 mem : ∀ x, inR p x → inR q (im f x)
 bot : im f (botL p) = botL q
 top : im f (topL p) = topL q
 meet : ∀ x y, inR p x → inR p y → im f (meetL p x y) = meetL q (im f x) (im f y)
 join : ∀ x y, inR p x → inR p y → im f (joinL p x y) = joinL q (im f x) (im f y)
theorem LMap.mono {p q : List (List Int)} {f : List Int} (F : LMap p q f) (Lp : Lat p) (Lq : Lat q) {x y : Int} (hx : inR p x) (hy : inR p y) (h : leqB p x y = true) : leqB q (im f x) (im f y) = true := by
 have e := F.meet x y hx hy
 rw [Lp.meet_le hx hy h] at e
 rw [e]
 exact Lq.meet2 _ _ (F.mem x hx) (F.mem y hy)
end Go.Proofs.YtbohjibbgppfaaaGreat
/- Walks: the cursor that reads choices from bytes. -/
namespace Go.Proofs.YtbohjibbgppfaaaGreat
open Go Go.Pv Go.Proofs
set_option maxHeartbeats 32000000
set_option maxRecDepth 100000

theorem seq_of {α : Type} (P : Nat → α → Prop) (R : Nat → α → α → Prop) (x0 : α) (n : Nat) (h0 : P 0 x0) (h : ∀ k x, k < n → P k x → ∃ x', P (k + 1) x' ∧ R k x x') : ∃ F : Nat → α, F 0 = x0 ∧ (∀ k, k ≤ n → P k (F k)) ∧ ∀ k, k < n → R k (F k) (F (k + 1)) := by
 obtain ⟨f, hf⟩ : ∃ f : Nat × α → α, ∀ p, p.1 < n → P p.1 p.2 → P (p.1 + 1) (f p) ∧ R p.1 p.2 (f p) := Classical.axiomOfChoice (r := fun (p : Nat × α) (x' : α) => p.1 < n → P p.1 p.2 → P (p.1 + 1) x' ∧ R p.1 p.2 x') fun (p : Nat × α) => by
  rcases Classical.em (p.1 < n ∧ P p.1 p.2) with hp | hp
  · obtain ⟨x', hx⟩ := h p.1 p.2 hp.1 hp.2
    exact ⟨x', fun _ _ => hx⟩
  · exact ⟨p.2, fun h1 h2 => absurd ⟨h1, h2⟩ hp⟩
 have hP : ∀ k, k ≤ n → P k (Nat.rec x0 (fun k x => f (k, x)) k) := fun k => by
  induction k with
  | zero => exact fun _ => h0
  | succ k ih => exact fun hk => (hf (k, _) hk (ih (by omega))).1
 exact ⟨fun k => Nat.rec x0 (fun k x => f (k, x)) k, rfl, hP, fun k hk => (hf (k, _) hk (hP k (by omega))).2⟩
abbrev bytesP (l : List Int) : PV := .sl 1 none (l.map Y)
structure Cu where
 code : List Int
 pos : Int
 sd : Int
structure Cu.ok (c : Cu) (m : Int) : Prop where
 len : c.code.length ≤ 65536
 byte : ∀ i, i < c.code.length → 0 ≤ c.code.getD i 0 ∧ c.code.getD i 0 ≤ 255
 lo : 0 ≤ c.pos
 hi : c.pos ≤ m
 sd0 : 0 ≤ c.sd
structure bytesOk (l : List Int) : Prop where
 len : l.length ≤ 65536
 byte : ∀ i, i < l.length → 0 ≤ l.getD i 0 ∧ l.getD i 0 ≤ 255
abbrev cu0 (l : List Int) : Cu := ⟨l, 0, 0⟩
theorem cu0_ok {l : List Int} (h : bytesOk l) : (cu0 l).ok 0 := ⟨h.len, h.byte, Int.le_refl _, Int.le_refl _, Int.le_refl _⟩
abbrev cuB (c : Cu) : HO := .box [bytesP c.code, I c.pos, U c.sd]
def nextB (c : Cu) : Int := if c.pos < (c.code.length : Int) then IntKind.i64.wrap (c.code.getD c.pos.toNat 0) else 0
def nextS (c : Cu) : Int := IntKind.u64.wrap (IntKind.u64.wrap (IntKind.u64.wrap (c.sd * 6364136223846793005) + IntKind.u64.wrap (nextB c)) + 550289)
def nextX (c : Cu) : Int := if c.pos + 1 ≤ (c.code.length : Int) then nextB c else IntKind.i64.wrap (bits .and .u64 (nextS c / 1099511627776) 255)
def nextC (c : Cu) : Cu := ⟨c.code, c.pos + 1, nextS c⟩
theorem wrap_u64 (a : Int) : 0 ≤ IntKind.u64.wrap a ∧ IntKind.u64.wrap a ≤ 18446744073709551615 := by
 simp [IntKind.wrap, IntKind.bits, IntKind.signed]; omega
theorem nextB_in {c : Cu} {m : Int} (h : c.ok m) : 0 ≤ nextB c ∧ nextB c ≤ 255 := by
 unfold nextB
 have := h.lo
 split
 · have := h.byte c.pos.toNat (by omega)
   rw [IntWalk.i64_in _ (by omega)]
   exact this
 · omega
theorem nextC_ok {c : Cu} {m : Int} (h : c.ok m) : (nextC c).ok (m + 1) := by
 have h1 := h.lo
 have h2 := h.hi
 exact ⟨h.len, h.byte, by show 0 ≤ c.pos + 1; omega, by show c.pos + 1 ≤ m + 1; omega, (wrap_u64 _).1⟩
theorem nextX_in {c : Cu} {m : Int} (h : c.ok m) : 0 ≤ nextX c ∧ nextX c ≤ 255 := by
 unfold nextX
 split
 · exact nextB_in h
 · obtain ⟨s0, s1⟩ := wrap_u64 (IntKind.u64.wrap (IntKind.u64.wrap (c.sd * 6364136223846793005) + IntKind.u64.wrap (nextB c)) + 550289)
   have s0 : 0 ≤ nextS c := s0
   have s1 : nextS c ≤ 18446744073709551615 := s1
   obtain ⟨n, hn⟩ : ∃ n : Nat, nextS c / 1099511627776 = (n : Int) := ⟨(nextS c / 1099511627776).toNat, by omega⟩
   rw [hn, show (255 : Int) = ((255 : Nat) : Int) by rfl, bits_and_u64_nat n 255 (by omega) (by omega)]
   have := Nat.and_le_right (n := n) (m := 255)
   rw [IntWalk.i64_in _ (by omega)]
   omega
theorem idx_Y {l : List Int} {k : Nat} (h : k < l.length) : (l.map Y)[k]? = some (Y (l.getD k 0)) := by simp [h]
theorem next_L {c : Cu} {m : Int} (h : c.ok m) (hm : m ≤ 1000000) : LCalls Tryz.prog 226 (cuB c) [.hat 0 0] (cuB (nextC c)) (I (nextX c)) := by
 refine pcallsL1 Tryz.func226 rfl Tryz.ntmps226 rfl rfl rfl (by simp) fun b d => ?_
 simp only [List.length_cons, List.length_nil, Nat.reduceAdd, Nat.reduceSub, List.replicate_succ, List.replicate_zero]
 have h1 := h.len
 have h2 := h.lo
 have h3 := h.hi
 repeat' (first
| refine wO ?_
| refine zP zk zk ?_
| (refine o_go rfl ?_; (first
| refine p_p (ps_unv (ps_nilCheck_hat rfl rfl)) ?_
| refine p_p (ps_unv (zE rfl rfl)) ?_
| refine p_p (ps_unv (zH rfl rfl rfl rfl)) ?_
| refine p_p (ps_conv rfl Tryz.underlying3 rfl rfl) ?_
| refine p_p (ps_conv rfl Tryz.underlying113 rfl rfl) ?_
| refine p_p (ps_mulU rfl rfl rfl) ?_
| refine p_p (ps_addU rfl rfl rfl) ?_
| refine p_p (ps_shrU rfl rfl rfl zz zz) ?_
| refine p_p (ps_andU rfl rfl rfl) ?_
| refine p_p (zN rfl rfl rfl zz (by exact idx_Y zz) ze) ?_
| refine wS ?_
| refine p_e rfl (e_store_boxC rfl rfl rfl rfl aK rfl rfl) ?_); refine ⟨_, aA, ?_⟩)
| (refine zK rfl ?_ ?_ <;> intro hc <;> try omega)
| refine wE ?_)
 · refine krlh 0 0 rfl ?_ rfl (krI rfl ?_)
   · unfold nextC nextS nextB; rw [if_pos (by assumption)]
   · unfold nextX nextB; rw [if_pos hc, if_pos (by assumption)]
 · refine krlh 0 0 rfl ?_ rfl (krI rfl ?_)
   · unfold nextC nextS nextB; rw [if_neg (by assumption)]
   · unfold nextX nextS nextB; rw [if_neg hc, if_neg (by assumption)]; rfl
theorem pick_L {c : Cu} {m : Int} (h : c.ok m) (hm : m ≤ 999000) (n : Int) (hn : n ≤ 1000000) : ∃ c' x, c'.ok (m + 2) ∧ 0 ≤ x ∧ (n ≤ 1 ∧ x = 0 ∨ x < n) ∧ LCalls Tryz.prog 186 (cuB c) [.hat 0 0, I n] (cuB c') (I x) := by
 by_cases h1 : n ≤ 1
 · refine ⟨c, 0, ⟨h.len, h.byte, h.lo, by have := h.hi; omega, h.sd0⟩, Int.le_refl _, .inl ⟨h1, rfl⟩, ?_⟩
   refine pcallsL1 Tryz.func186 rfl Tryz.ntmps186 rfl rfl rfl (by simp) fun b d => ?_
   simp only [List.length_cons, List.length_nil, Nat.reduceAdd, Nat.reduceSub, List.replicate_succ, List.replicate_zero]
   repeat' (first
| refine wO ?_
| (refine o_go rfl ?_; (first
| refine wS ?_); refine ⟨_, aA, ?_⟩)
| (refine zK rfl ?_ ?_ <;> intro hc <;> try omega)
| refine wE ?_)
   exact krlh 0 0 rfl rfl rfl (krI rfl rfl)
 · have n1 := next_L h (by omega)
   have k1 := nextC_ok h
   have x1 := nextX_in h
   by_cases h2 : 200 < n
   · have n2 := next_L k1 (by omega)
     have k2 := nextC_ok k1
     have x2 := nextX_in k1
     have e0 : 0 ≤ (nextX c * 256 + nextX (nextC c)) % n := Int.emod_nonneg _ (by omega)
     have e1 : (nextX c * 256 + nextX (nextC c)) % n < n := Int.emod_lt_of_pos _ (by omega)
     refine ⟨nextC (nextC c), (nextX c * 256 + nextX (nextC c)) % n, by rw [show m + 2 = m + 1 + 1 by omega]; exact k2, e0, .inr e1, ?_⟩
     refine pcallsL1 Tryz.func186 rfl Tryz.ntmps186 rfl rfl rfl (by simp) fun b d => ?_
     simp only [List.length_cons, List.length_nil, Nat.reduceAdd, Nat.reduceSub, List.replicate_succ, List.replicate_zero]
     repeat' (first
| refine wO ?_
| (refine o_go rfl ?_; (first
| refine p_e rfl (e_callL (n := 0) rfl rfl rfl aJ rfl (by rfl) aQ (n1)) ?_
| refine p_e rfl (e_callL (n := 0) rfl rfl rfl aJ rfl (by rfl) aQ (n2)) ?_
| refine p_p (ps_mul rfl rfl rfl aO) ?_
| refine p_p (ps_rem rfl rfl rfl zz zz) ?_
| refine wS ?_); refine ⟨_, aA, ?_⟩)
| (refine zK rfl ?_ ?_ <;> intro hc <;> try omega)
| refine wE ?_)
     exact krlh 0 0 rfl rfl rfl (krI rfl rfl)
   · have e0 : 0 ≤ nextX c % n := Int.emod_nonneg _ (by omega)
     have e1 : nextX c % n < n := Int.emod_lt_of_pos _ (by omega)
     refine ⟨nextC c, nextX c % n, ⟨k1.len, k1.byte, k1.lo, by have := k1.hi; omega, k1.sd0⟩, e0, .inr e1, ?_⟩
     refine pcallsL1 Tryz.func186 rfl Tryz.ntmps186 rfl rfl rfl (by simp) fun b d => ?_
     simp only [List.length_cons, List.length_nil, Nat.reduceAdd, Nat.reduceSub, List.replicate_succ, List.replicate_zero]
     repeat' (first
| refine wO ?_
| (refine o_go rfl ?_; (first
| refine p_e rfl (e_callL (n := 0) rfl rfl rfl aJ rfl (by rfl) aQ (n1)) ?_
| refine p_p (ps_rem rfl rfl rfl zz zz) ?_
| refine wS ?_); refine ⟨_, aA, ?_⟩)
| (refine zK rfl ?_ ?_ <;> intro hc <;> try omega)
| refine wE ?_)
     exact krlh 0 0 rfl rfl rfl (krI rfl rfl)
theorem one_L {c : Cu} {m : Int} (h : c.ok m) (hm : m ≤ 999000) (n : Int) (hn : n ≤ 1000000) : ∃ c' b, c'.ok (m + 2) ∧ LCalls Tryz.prog 185 (cuB c) [.hat 0 0, I n] (cuB c') (B b) := by
 obtain ⟨c', x, k, x0, -, hc⟩ := pick_L h hm n hn
 refine ⟨c', decide (x = 0), k, ?_⟩
 refine pcallsL1 Tryz.func185 rfl Tryz.ntmps185 rfl rfl rfl (by simp) fun b d => ?_
 simp only [List.length_cons, List.length_nil, Nat.reduceAdd, Nat.reduceSub, List.replicate_succ, List.replicate_zero]
 repeat' (first
| refine wO ?_
| (refine o_go rfl ?_; (first
| refine p_e rfl (e_callL (n := 0) rfl rfl rfl aJ rfl (by rfl) aQ (hc)) ?_
| refine wS ?_); refine ⟨_, aA, ?_⟩)
| refine wE ?_)
 exact krlh 0 0 rfl rfl rfl (krB rfl rfl)
theorem among_L {c : Cu} {m : Int} (h : c.ok m) (hm : m ≤ 999000) (l : List Int) (hl : 0 < l.length) (hl2 : l.length ≤ 1000) : ∃ c' x, c'.ok (m + 2) ∧ x ∈ l ∧ LCalls Tryz.prog 129 (cuB c) [.hat 0 0, ints l] (cuB c') (I x) := by
 obtain ⟨c', x, k, x0, x1, hc⟩ := pick_L h hm (l.length : Int) (by omega)
 have hx : x < (l.length : Int) := by omega
 refine ⟨c', l.getD x.toNat 0, k, ?_, ?_⟩
 · rw [List.getD_eq_getElem?_getD, List.getElem?_eq_getElem (show x.toNat < l.length by omega)]
   exact List.getElem_mem _
 refine pcallsL1 Tryz.func129 rfl Tryz.ntmps129 rfl rfl rfl (by simp) fun b d => ?_
 simp only [List.length_cons, List.length_nil, Nat.reduceAdd, Nat.reduceSub, List.replicate_succ, List.replicate_zero]
 repeat' (first
| refine wO ?_
| (refine o_go rfl ?_; (first
| refine p_e rfl (e_callL (n := 0) rfl rfl rfl aJ rfl (by rfl) aQ (hc)) ?_
| refine p_p (zN rfl rfl rfl zz (by exact idx_I zz) ze) ?_
| refine wS ?_); refine ⟨_, aA, ?_⟩)
| refine wE ?_)
 exact krlh 0 0 rfl rfl rfl (krI rfl rfl)
end Go.Proofs.YtbohjibbgppfaaaGreat
