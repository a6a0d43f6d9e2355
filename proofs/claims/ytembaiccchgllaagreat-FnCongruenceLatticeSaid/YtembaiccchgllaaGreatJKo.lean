/- Walks: translated pairs, both sides. -/
import Derived.Test.YtembaiccchgllaaGreatJKn
import Derived.Test.YtembaiccchgllaaGreatJKc
import Derived.Test.YtembaiccchgllaaGreatJZb
import Derived.Test.YtembaiccchgllaaGreatJNb
import Derived.Test.YtembaiccchgllaaGreatJGb
import Derived.Test.YtembaiccchgllaaGreatJMg
import Derived.Test.YtembaiccchgllaaGreatJBq
import Derived.Test.YtembaiccchgllaaGreatJSq
import Derived.Test.YtembaiccchgllaaGreatJPq
import Derived.Test.YtembaiccchgllaaGreatJQa
import Derived.Test.YtembaiccchgllaaGreatJMv
import Derived.Test.YtembaiccchgllaaGreatJGf
set_option linter.unusedSectionVars false
namespace Go.Proofs.YtembaiccchgllaaGreat
open Go Go.Pv Go.Proofs

/-! ### Squares of Booleans -/
def Gw (L M : List (Nat × Nat)) : Prop := ∃ l, M = L ++ l
theorem Gw.refl (L : List (Nat × Nat)) : Gw L L := ⟨[], (List.append_nil _).symm⟩
theorem Gw.trans {L M N : List (Nat × Nat)} (h : Gw L M) (g : Gw M N) : Gw L N := by
  obtain ⟨a, rfl⟩ := h
  obtain ⟨b, rfl⟩ := g
  exact ⟨a ++ b, List.append_assoc ..⟩
theorem Gw.app (L : List (Nat × Nat)) (w : Nat × Nat) : Gw L (L ++ [w]) := ⟨[w], rfl⟩
theorem Gw.len {L M : List (Nat × Nat)} (h : Gw L M) : L.length ≤ M.length := by obtain ⟨l, rfl⟩ := h; simp
theorem Gw.at {L M : List (Nat × Nat)} (h : Gw L M) {i : Nat} (hi : i < L.length) : M.getD i (0, 0) = L.getD i (0, 0) := by
  obtain ⟨l, rfl⟩ := h
  rw [List.getD_eq_getElem?_getD, List.getElem?_append_left hi, List.getD_eq_getElem?_getD]
/-! ### The reference -/
end Go.Proofs.YtembaiccchgllaaGreat
/- The layer: the rest of a function's text, behind one of its statements. -/
namespace Go.Pv
open Go
attribute [local semireducible] Go.Pv.Goal
def headReg : Code → Option Nat
  | .region id _ _ => some id
  | .seq a _ => headReg a
  | .block _ c => headReg c
  | _ => none
def tailAt (id : Nat) : Code → Code
  | .seq a b => bif headReg a == some id then .seq a b else tailAt id b
  | .block _ c => tailAt id c
  | c => c
abbrev bodyC (f : Func) : Code := f.body.getD .skip
theorem g_tail {P : Program} {c c' : Code} {K : Exit → St → Prop} {S S' : St} (hc : c = c') (hl : S.le S') (h : Goal P c' K S') : Goal P c K S := hc ▸ g_weaken hl h
theorem at_reg1 {P : Program} {K : Exit → St → Prop} {S : St} {x : Code} {ops : Array Oper} {dr : Bool} (id : Nat) (h : Goal P ((Code.region id ops dr).seq x) K S) : Goal P ((Code.region id ops dr).seq x) K S := h
end Go.Pv
/- Walks: the shortest chain of translated pairs, the reference's side. -/
namespace Go.Pv
open Go
attribute [local semireducible] Go.Pv.EStep
section
variable {P : Program} {o : Oper} {S : St}
theorem e_lit1N {t e : TypeId} {by_ : Nat} [ht : SlT P t e 1 by_] {zs : List Value} [hz : ZeroT P e zs] {x : Operand} {p : PV} (ho : o.op = .buildSlice t 1 #[(0, x)]) (h1 : view S.hp (S.ev x) = p) (hp1 : p.one = true) :
    EStep P o S (S.setObj S.hp.length (killH S.hp.length S.hp ++ [.arr false 1 e [p]]) o.dst (.hp S.hp.length)) :=
  e_buildSlice (ht := ht) (hz := hz) ho rfl rfl (by simp [elems, h1]) ⟨⟨[p], flat_one hp1, rfl⟩, trivial⟩ (by decide) (by decide)
end
end Go.Pv
/- What sortRows does to a row of lists, by the library's contract. -/
namespace Go.Proofs.YtembaiccchgllaaGreat
open Go Go.Proofs Go.Shelf Go.RowKit Go.Lib Go.Sort

section
variable {n : Nat} (R : Nat → List Int) (B C : Nat → Nat)
def encR (i : Fin (n + 1)) : Value := .slice (some ⟨B i, 0, none⟩) (R i).length (C i)
theorem sw_other {α : Type} [Inhabited α] (enc : α → Value) (w : World) (blk off m : Nat) (dk : Array α) (os : Array Obj) (p : Addr) (hp : p.block ≠ blk) (hl : p.block < w.heap.size) : (sortWorld enc w blk off m dk os).cell? p = w.cell? p := by
  unfold sortWorld
  rw [cell?_grow _ _ _ (by rw [size_putRow]; exact hl), cell?_putRow_other _ _ _ _ _ _ (.inl hp)]; rfl
end
noncomputable def siT : TypeInfo := (Tryz.prog.info? 28).get (by kernel_rfl)
noncomputable def siE : TypeInfo := (Tryz.prog.info? 34).get (by kernel_rfl)
theorem siK (n : Nat) (h2 : 2 ≤ n) : Lib.swapperK n siE 23 = 9 := by
  have a : siE.hasPointers = true := by kernel_rfl
  have b : siE.bytes = 24 := by kernel_rfl
  have c : (n == 0) = false := by simp; omega
  have d : (n == 1) = false := by simp; omega
  simp [Lib.swapperK, a, b, c, d]
theorem swap_tiny (n : Nat) (hn : n ≤ 1) : ∃ f, Tryz.prog.funcs.findIdx? (·.name == "internal/reflectlite" ++ ".Swapper$" ++ toString (Lib.swapperK n siE 23)) = some f := by
  have : n = 0 ∨ n = 1 := by omega
  rcases this with rfl | rfl
  · exact ⟨346, by kernel_rfl⟩
  · exact ⟨347, by kernel_rfl⟩
end Go.Proofs.YtembaiccchgllaaGreat
/- Walks: the program's lattice functions. -/
namespace Go.Proofs.YtembaiccchgllaaGreat
open Go Go.Pv Go.Proofs
set_option maxHeartbeats 32000000
set_option maxRecDepth 100000
attribute [local bitvec_to_nat] St.put St.setObj St.ev killP killA killP1 killH mapHO renP renA ren1 killG killGA killG1 krowP krowA krow1 lendP lendA lend1 unv pinP pin1 elemsM viewM viewN viewV n_set_z n_set_s n_map_c n_map_n getD_z getD_s n_toNat n_cond_t n_cond_f n_len_c n_len_n n_app_c n_app_n n_take_s n_take_z n_drop_s n_drop_z n_get_z n_get_s view viewA view1 elems Nat.zero_add Nat.add_zero Bool.not_true Bool.not_false Nat.one_ne_zero Nat.mul_one

theorem ibot_c (rows : List (List Int)) (hg : goodL rows = true) : PCalls Tryz.prog 231 [latP rows] (I (botL rows)) := by
  refine pcalls1 Tryz.func231 rfl Tryz.ntmps231 rfl ?_
  simp only [List.length_cons, List.length_nil, Nat.reduceAdd, Nat.reduceSub, List.replicate_succ, List.replicate_zero, List.cons_append, List.nil_append]
  have hL := goodL_lat hg
  have h0 := good_pos hg
  have h10 := good_10 hg
  have hlen := length_tabZ rows.length (leqB rows)
  repeat' (first
| refine g_seq ?_
| refine zJ ?_
| refine zC ?_
| (refine o_go rfl ?_; (first
| refine p_p (zD rfl) ?_
| refine p_p (zA rfl) ?_
| refine p_p (zF rfl rfl) ?_
| refine p_p (zU rfl rfl rfl) ?_
| refine p_p (zL rfl rfl) ?_
| refine p_p (ps_nilCheck rfl rfl) ?_); refine ⟨_, aA, ?_⟩)
| refine o_nil ?_)
  refine g_loopT (α := Nat) (fun x => [(3, I (botN rows x)), (10, I (x : Int))]) (fun _ => []) (fun x => x ≤ rows.length) (fun x => rows.length - x) 0 aF (Nat.zero_le _) ⟨rfl, rfl, trivial⟩ rfl ?_
  rintro x hx
  dsimp only [zZ, List.set_cons_zero, List.set_cons_succ]
  have hb := botN_in hL h0 x hx
  unfold inR at hb
  repeat' (first
| refine g_seq ?_
| refine zJ ?_
| refine zC ?_
| (refine o_go rfl ?_; (first
| refine p_p (zN rfl rfl rfl (by omega) (by exact idx_TI (by omega) (by omega)) (by exact rfl)) ?_
| refine p_p (zN rfl rfl rfl (by omega) (by exact idx_RI (by omega) (by omega)) (by exact rfl)) ?_
| refine p_p (zD rfl) ?_
| refine p_p (zA rfl) ?_
| refine p_p (zF rfl rfl) ?_
| refine p_p (zS rfl rfl rfl) ?_
| refine p_p (ps_add rfl rfl rfl aN) ?_
| refine p_p (zL rfl rfl) ?_
| refine p_p (ps_nilCheck rfl rfl) ?_); refine ⟨_, aA, ?_⟩)
| refine o_nil ?_
| (refine zK rfl (fun hc => ?_) (fun hc => ?_) <;> try (exfalso; omega))
| refine kr1 ?_
| refine krI rfl ?_
| refine zR ?_
| refine g_exit ?_
| refine g_ret ?_)
  · exact zT (x + 1) (by omega) (by omega) aI ⟨rfl, rfl, trivial⟩ (zM _)
  · rw [bot_eq hg, show x = rows.length by omega]


theorem iless_c (rows : List (List Int)) (x y : Int) (_hg : goodL rows = true) (hx : inR rows x) (hy : inR rows y) : PCalls Tryz.prog 300 [boolss (tabZ rows.length (leqB rows)), I x, I y] (B (lessB rows x y)) := by
  refine pcalls1 Tryz.func300 rfl Tryz.ntmps300 rfl ?_
  simp only [List.length_cons, List.length_nil, Nat.reduceAdd, Nat.reduceSub, List.replicate_succ, List.replicate_zero, List.cons_append, List.nil_append]
  unfold inR at hx hy
  unfold lessB
  repeat' (first
| refine g_seq ?_
| refine zC ?_
| (refine o_go rfl ?_; (first
| refine p_p (zN rfl rfl rfl (by omega) (by exact idx_TB (by omega) (by omega)) (by exact rfl)) ?_
| refine p_p (zN rfl rfl rfl (by omega) (by exact idx_RB (by omega) (by omega)) (by exact rfl)) ?_
| refine p_p (zD rfl) ?_
| refine p_p (zA rfl) ?_
| refine p_p (zF rfl rfl) ?_
| refine p_p (zQ rfl rfl) ?_
| refine p_p (ps_neq rfl rfl rfl) ?_); refine ⟨_, aA, ?_⟩)
| refine o_nil ?_
| (refine o_s rfl ?_; refine ⟨_, aA, ?_⟩)
| (refine o_splitN rfl rfl rfl (fun hc => ?_) (fun hc => ?_) <;> dsimp only [List.set_cons_zero, List.set_cons_succ])
| refine kr1 ?_
| refine krB rfl ?_
| refine g_ret ?_)
  all_goals simp [*]
theorem icov_c (rows : List (List Int)) (x y : Int) (hg : goodL rows = true) (hx : inR rows x) (hy : inR rows y) : PCalls Tryz.prog 230 [boolss (tabZ rows.length (leqB rows)), I x, I y] (B (coversB rows x y)) := by
  refine pcalls1 Tryz.func230 rfl Tryz.ntmps230 rfl ?_
  simp only [List.length_cons, List.length_nil, Nat.reduceAdd, Nat.reduceSub, List.replicate_succ, List.replicate_zero, List.cons_append, List.nil_append]
  have h10 := good_10 hg
  have hlen := length_tabZ rows.length (leqB rows)
  unfold coversB
  repeat' (first
| refine g_seq ?_
| refine zJ ?_
| refine zC ?_
| (refine o_go rfl ?_; (first
| refine p_p (zG rfl rfl aB (iless_c rows _ _ hg hx hy)) ?_
| refine p_p (zD rfl) ?_
| refine p_p (zA rfl) ?_
| refine p_p (zU rfl rfl rfl) ?_
| refine p_p (ps_not rfl rfl) ?_); refine ⟨_, aA, ?_⟩)
| refine o_nil ?_
| (refine g_condNB rfl (fun hc => ?_) (fun hc => ?_))
| refine kr1 ?_
| refine krB rfl ?_
| refine zR ?_
| refine g_ret ?_)
  · rw [hc]; rfl
  · rw [hc, Bool.true_and]
    refine g_loopT (α := Nat) (fun z => [(15, I (z : Int))]) (fun _ => []) (fun z => z ≤ rows.length ∧ (allN z (covP rows x y)) = true) (fun z => rows.length - z) 0 aF ⟨Nat.zero_le _, rfl⟩ ⟨rfl, trivial⟩ rfl ?_
    rintro z ⟨hz, hgz⟩
    dsimp only [zZ, List.set_cons_zero, List.set_cons_succ]
    repeat' (first
| refine g_seq ?_
| refine zJ ?_
| refine zC ?_
| (refine o_go rfl ?_; (first
| refine p_p (zG rfl rfl aB (iless_c rows _ (z : Int) hg hx ⟨by omega, by omega⟩)) ?_
| refine p_p (zG rfl rfl aB (iless_c rows (z : Int) _ hg ⟨by omega, by omega⟩ hy)) ?_
| refine p_p (zD rfl) ?_
| refine p_p (zA rfl) ?_
| refine p_p (zS rfl rfl rfl) ?_
| refine p_p (ps_add rfl rfl rfl aN) ?_
| refine p_p (zQ rfl rfl) ?_); refine ⟨_, aA, ?_⟩)
| refine o_nil ?_
| (refine o_s rfl ?_; refine ⟨_, aA, ?_⟩)
| (refine o_splitA rfl rfl rfl (fun hc => ?_) (fun hc => ?_) <;> dsimp only [List.set_cons_zero, List.set_cons_succ])
| refine zW rfl ?_
| (refine zK rfl (fun hc => ?_) (fun hc => ?_) <;> try (exfalso; omega))
| (refine g_cond rfl (fun hc => ?_) (fun hc => ?_))
| refine kr1 ?_
| refine krB rfl ?_
| refine zR ?_
| refine g_exit ?_
| refine g_ret ?_)
    · exact Eq.symm (allN_false (k := z) (by omega) (by unfold covP; simp [*]))
    · exact zT (z + 1) ⟨by omega, by rw [allN_succ, hgz]; unfold covP; simp [*]⟩ (by omega) aI ⟨rfl, trivial⟩ (by first | exact zM _ | exact hpLe_refl _)
    · exact zT (z + 1) ⟨by omega, by rw [allN_succ, hgz]; unfold covP; simp [*]⟩ (by omega) aI ⟨rfl, trivial⟩ (by first | exact zM _ | exact hpLe_refl _)
    · rw [show z = rows.length by omega] at hgz
      exact hgz.symm
theorem listOf_R (rows : List (List Int)) (f : FuncId) [FnT Tryz.prog f] (V : List Int) (hok : okP rows) (hf : goodL rows = true → RCalls Tryz.prog f ([] ++ [latP rows] ++ []) (.arr true 1 3 ((V).map I)) (.hp 0)) :
    RCalls Tryz.prog 124 [posetP rows, .fn f [] []] (.arr true 1 3 ((bif goodL rows then V else []).map I)) (.tup [.hp 0, B (goodL rows)]) := by
  refine pcallsR2 Tryz.func124 rfl Tryz.ntmps124 rfl ?_
  simp only [List.length_cons, List.length_nil, Nat.reduceAdd, Nat.reduceSub, List.replicate_succ, List.replicate_zero, List.cons_append, List.nil_append]
  cases hg : goodL rows with
  | false =>
    repeat' (first
| refine g_seq ?_
| refine zC ?_
| (refine o_go rfl ?_; (first
| refine p_p (zG rfl rfl aB (lat_no rows hok hg)) ?_
| refine p_p (zD rfl) ?_
| refine p_p (zA rfl) ?_
| refine p_p (ps_load_agg rfl rfl aJ) ?_
| refine p_p (ps_extract rfl rfl rfl) ?_
| refine p_p (ps_not rfl rfl) ?_
| refine p_e rfl (e_lit0 rfl (by decide)) ?_
| refine p_p (ps_box rfl rfl) ?_); refine ⟨_, aA, ?_⟩)
| refine o_nil ?_
| refine zX rfl ?_
| refine krr2 0 rfl rfl (HandOut.arr rfl ?_ aO)
| refine g_ret ?_)
    all_goals rfl
  | true =>
    repeat' (first
| refine g_seq ?_
| refine zC ?_
| (refine o_go rfl ?_; (first
| refine p_p (zG rfl rfl aB (lat_yes rows hok hg)) ?_
| refine p_e rfl (e_callR rfl rfl (argsLe_refl _) rfl (hf hg)) ?_
| refine p_p (zD rfl) ?_
| refine p_p (zA rfl) ?_
| refine p_p (ps_load_agg rfl rfl aJ) ?_
| refine p_p (ps_extract rfl rfl rfl) ?_
| refine p_p (ps_not rfl rfl) ?_
| refine p_p (ps_box rfl rfl) ?_); refine ⟨_, aA, ?_⟩)
| refine o_nil ?_
| refine zW rfl ?_
| refine krr2 0 rfl rfl (HandOut.arr rfl ?_ aO)
| refine zR ?_
| refine g_ret ?_)
    all_goals rfl
end Go.Proofs.YtembaiccchgllaaGreat
/- Walks: drawn names. -/
namespace Go.Proofs.YtembaiccchgllaaGreat
open Go Go.Pv Go.Proofs
theorem Cu.ok.le {c : Cu} {m m' : Int} (h : c.ok m) (hm : m ≤ m') : c.ok m' := ⟨h.len, h.byte, h.lo, Int.le_trans h.hi hm, h.sd0⟩
end Go.Proofs.YtembaiccchgllaaGreat
/- Walks: the program's clones, whole. -/
namespace Go.Proofs.YtembaiccchgllaaGreat
open Go Go.Pv Go.Proofs
theorem entOk.small {n size : Nat} (hn : n ≤ 8) {E : List Ent} (h : ∀ c ∈ E, entOk n size c) : smallE E := fun c hc x hx => by
  have := (h c hc).2 x hx
  omega
end Go.Proofs.YtembaiccchgllaaGreat
