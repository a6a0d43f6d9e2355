/- Plain: homomorphisms; the natural map of a congruence. -/
import Derived.Laws.Small
import Derived.Test.YtembaiccchgllaaGreatJYx
import Derived.Test.YtembaiccchgllaaGreatJPr
import Derived.Test.YtembaiccchgllaaGreatJZb
import Derived.Test.YtembaiccchgllaaGreatJKc
import Derived.Test.YtembaiccchgllaaGreatJKo
import Derived.Test.YtembaiccchgllaaGreatJGc
import Derived.Test.YtembaiccchgllaaGreatJKj
import Derived.Test.YtembaiccchgllaaGreatJHn
set_option linter.unusedSectionVars false
namespace Go.Proofs.YtembaiccchgllaaGreat
open Go Go.Pv Go.Proofs

def homC (m k : Nat) (g : List Int) (f f2 : OpD) (i : Nat) : Bool := decide (g.getD (bk f.tb i) 0 = f2.tb.getD (mapI m k (bk g) f.ar.toNat i) 0)
def homO (m k : Nat) (A B : List OpD) (g : List Int) (o : Nat) : Bool := (List.range (A.getD o default).tb.length).all (homC m k g (A.getD o default) (B.getD o default))
def mapB (m k : Nat) (g : List Int) : Bool := decide (g.length = m) && inSizeB g (k : Int)
def homB (m : Nat) (A : List OpD) (k : Nat) (B : List OpD) (g : List Int) : Bool := mapB m k g && (List.range A.length).all (homO m k A B g)
def imgL (g : List Int) (n : Nat) : List Int := upTo n fun y => g.contains (y : Int)
theorem bk_nat {n x : Nat} {p : List Int} (hx : x < n) : bk (natL n p) x = nmN p x := by unfold bk; rw [nat_getD hx]; rfl
theorem nat_len (n : Nat) (p : List Int) : (natL n p).length = n := by simp [natL]
section
variable {n : Nat} {p : List Int} (hp : Pt n p)
include hp
theorem nat_in : inSizeB (natL n p) ((lstN p n).length : Int) = true := by
  unfold inSizeB
  refine List.all_eq_true.2 fun v hv => ?_
  obtain ⟨x, hx, rfl⟩ := List.mem_map.1 hv
  have := nm_lt hp (List.mem_range.1 hx)
  simp only [Bool.not_eq_true', Bool.or_eq_false_iff, decide_eq_false_iff_not]
  omega
theorem nat_ker : kerL (natL n p) = p := pt_R (ker_pt (nat_len n p)) hp fun x y hx hy => by
  have hl := nat_len n p
  rw [ker_R (by omega) (by omega), nat_getD hx, nat_getD hy, ← nm_eq hp hx hy]
  omega
theorem nat_img : (imgL (natL n p) (lstN p n).length).length = (lstN p n).length := by
  have : ((List.range (lstN p n).length).filter fun y : Nat => (natL n p).contains ((y : Nat) : Int)) = List.range (lstN p n).length := List.filter_eq_self.2 fun y hy => by
    have hy := List.mem_range.1 hy
    refine List.contains_iff_mem.2 (List.mem_map.2 ⟨(lstN p n).getD y 0, List.mem_range.2 (lst_in hp hy).1, ?_⟩)
    rw [nm_lst hp hy]
  unfold imgL upTo
  rw [this]; simp
theorem nat_hom {ops : List OpD} (hn : 0 < n) (ho : opsIn n ops) (hc : Cong n ops p) : homB n ops (lstN p n).length (quoL n p ops) (natL n p) = true := by
  unfold homB mapB
  rw [decide_eq_true (nat_len n p), nat_in hp, Bool.true_and, Bool.true_and]
  refine List.all_eq_true.2 fun o hoo => List.all_eq_true.2 fun i hi => ?_
  have hoo := List.mem_range.1 hoo
  have hi := List.mem_range.1 hi
  have hf : ops.getD o default ∈ ops := by rw [List.getD_eq_getElem?_getD, List.getElem?_eq_getElem hoo]; exact List.getElem_mem _
  have hq : (quoL n p ops).getD o default = quoF n p (ops.getD o default) := by
    unfold quoL
    simp [List.getD_eq_getElem?_getD, hoo]
  rw [hq]
  generalize ops.getD o default = f at *
  obtain ⟨-, -, hl, hin⟩ := ho f hf
  rw [hl] at hi
  have hb := (hin i hi).2
  have h := quo_hom hn hp ho hc hf hi
  have hX : mapI n (lstN p n).length (bk (natL n p)) f.ar.toNat i = mapI n (lstN p n).length (nmN p) f.ar.toNat i := mapI_congr hn (fun x hx => bk_nat hx) _ _
  unfold homC
  rw [decide_eq_true_eq, nat_getD hb, hX]
  have hQ := (quo_in hn hp ho (quoF n p f) (List.mem_map.2 ⟨f, hf, rfl⟩)).2.2.2 _ (mapI_lt hn (fun x hx => nm_lt hp hx) f.ar.toNat i)
  have h0 := hQ.1
  unfold bk at h
  show ((nmN p (f.tb.getD i 0).toNat : Nat) : Int) = _
  rw [h]
  exact Int.toNat_of_nonneg h0
theorem above_len {ops : List OpD} (hn : 0 < n) (ho : opsIn n ops) (hc : Cong n ops p) {A : List (List Int)} (hA : A.Nodup) (hm : ∀ r, r ∈ A ↔ r ∈ allL n ops ∧ Fi n p r) : A.length = (allL (lstN p n).length (quoL n p ops)).length := by
  have hnd := ascC_nodup (allL_all (lstN p n).length (quoL n p ops)).1
  have h2 : ((allL (lstN p n).length (quoL n p ops)).map (liftP n p)).Nodup := by
    refine List.pairwise_map.2 (List.Pairwise.imp_of_mem (fun {a b} ha hb hne e => hne ?_) hnd)
    rw [← push_lift hp (allL_mem.1 ha).1, ← push_lift hp (allL_mem.1 hb).1, e]
  have := ((List.perm_ext_iff_of_nodup hA h2).2 fun r => by rw [hm, lift_mem hp hn ho hc]).length_eq
  rwa [List.length_map] at this
end
end Go.Proofs.YtembaiccchgllaaGreat
/- Walks: the reference's sorted lists of lists, lists of bits, prime filters. -/
namespace Go.Proofs.YtembaiccchgllaaGreat
open Go Go.Pv Go.Proofs
set_option maxHeartbeats 32000000
set_option maxRecDepth 100000
attribute [local bitvec_to_nat] St.put St.setObj St.ev killP killA killP1 killH mapHO renP renA ren1 killG killGA killG1 krowP krowA krow1 lendP lendA lend1 unv pinP pin1 elemsM viewM viewN viewV n_set_z n_set_s n_map_c n_map_n getD_z getD_s n_toNat n_cond_t n_cond_f n_len_c n_len_n n_app_c n_app_n n_take_s n_take_z n_drop_s n_drop_z n_get_z n_get_s view viewA view1 elems Nat.zero_add Nat.add_zero Bool.not_true Bool.not_false Nat.one_ne_zero Nat.mul_one

theorem less5_c (s t : List Int) (he : s.length = t.length) (hs : s.length ≤ 1048576) : PCalls Tryz.prog 329 [ints s, ints t] (B (decide (cmpX s t < 0))) := by
  refine pcalls1 Tryz.func329 rfl Tryz.ntmps329 rfl ?_
  simp only [List.length_cons, List.length_nil, Nat.reduceAdd, Nat.reduceSub, List.replicate_succ, List.replicate_zero, List.cons_append, List.nil_append]
  repeat' (first
| refine g_seq ?_
| refine zJ ?_
| refine zC ?_
| (refine o_go rfl ?_; (first
| refine p_p (zA rfl) ?_); refine ⟨_, aB, ?_⟩)
| refine o_nil ?_)
  refine g_loopT (α := Nat) (fun i => [(5, I (i : Int))]) (fun _ => []) (fun i => i ≤ s.length ∧ cmpX (s.drop i) (t.drop i) = cmpX s t) (fun i => s.length - i) 0 aH ⟨Nat.zero_le _, rfl⟩ ⟨rfl, trivial⟩ rfl ?_
  rintro i ⟨hi, hcm⟩
  dsimp only [zZ, List.set_cons_zero, List.set_cons_succ]
  by_cases hin : i < s.length
  · rw [drop_cons' 0 hin, drop_cons' 0 (show i < t.length by omega)] at hcm
    simp only [cmpX] at hcm
    repeat' (first
| refine g_seq ?_
| refine zJ ?_
| refine zC ?_
| refine zP (by kernel_rfl) (by kernel_rfl) ?_
| (refine o_go rfl ?_; (first
| refine p_p (zD rfl) ?_
| refine p_p (zA rfl) ?_
| refine p_p (zF rfl rfl) ?_
| refine p_p (zN rfl rfl rfl (by omega) aP (by exact rfl)) ?_
| refine p_p (zU rfl rfl rfl) ?_
| refine p_p (zS rfl rfl rfl) ?_
| refine p_p (ps_add rfl rfl rfl aO) ?_
| refine p_p (ps_neq rfl rfl rfl) ?_); refine ⟨_, aB, ?_⟩)
| refine o_nil ?_
| (refine g_condN rfl (fun hc => ?_) (fun hc => ?_) <;> try (exfalso; omega))
| (refine zK rfl (fun hc => ?_) (fun hc => ?_) <;> try (exfalso; omega))
| refine kr1 ?_
| refine krB rfl ?_
| refine zR ?_
| refine g_ret ?_)
    · rw [if_neg hc] at hcm
      rw [← hcm]
      by_cases h : s.getD i 0 < t.getD i 0
      · rw [if_pos h, decide_eq_true h]; rfl
      · rw [if_neg h, decide_eq_false h]; rfl
    · rw [if_pos hc] at hcm
      exact zT (i + 1) ⟨by omega, hcm⟩ (by omega) aI ⟨rfl, trivial⟩ (zM _)
  · rw [List.drop_of_length_le (by omega), List.drop_of_length_le (by omega)] at hcm
    repeat' (first
| refine g_seq ?_
| refine zC ?_
| (refine o_go rfl ?_; (first
| refine p_p (zD rfl) ?_
| refine p_p (zA rfl) ?_
| refine p_p (zU rfl rfl rfl) ?_
| refine p_p (zS rfl rfl rfl) ?_); refine ⟨_, aB, ?_⟩)
| refine o_nil ?_
| (refine zK rfl (fun hc => ?_) (fun hc => ?_) <;> try (exfalso; omega))
| refine kr1 ?_
| refine krB rfl ?_
| refine g_exit ?_
| refine g_ret ?_)
    rw [← hcm]; rfl
end Go.Proofs.YtembaiccchgllaaGreat
/- Walks: the shortest chain of translated pairs, the program's side. -/
namespace Go.Proofs.YtembaiccchgllaaGreat
open Go Go.Pv Go.Proofs
theorem hp2 {x y : HO} {a b : List HO} (h : hpLe a b) : hpLe (x :: y :: a) (x :: y :: b) := zB rfl (zB rfl h)
end Go.Proofs.YtembaiccchgllaaGreat
/- Walks: products and powers, the reference's side. -/
namespace Go.Proofs.YtembaiccchgllaaGreat
open Go Go.Pv Go.Proofs

theorem snoc_ops {L : List OpD} {f : OpD} : (rowsO (L ++ [f])).map (fun r => r.map I) = (rowsO L).map (fun r => r.map I) ++ [I f.ar :: f.tb.map I] := by
  simp only [rowsO, List.map_append, List.map_cons, List.map_nil]
theorem rowsO_len (L : List OpD) : ((rowsO L).map fun r => r.map I).length = L.length := by rw [List.length_map, List.length_map]
end Go.Proofs.YtembaiccchgllaaGreat
/- The layer: a drawn region walked in each order, states shared. -/
namespace Go.Pv
open Go
attribute [local semireducible] Go.Pv.Goal Go.Pv.Ops Go.Pv.PStep Go.Pv.EStep Go.Pv.KRets Go.Pv.PCalls Go.Pv.OpsG
theorem at_reg0 {P : Program} {K : Exit → St → Prop} {S : St} {ops : Array Oper} {dr : Bool} (id : Nat) (h : Goal P (Code.region id ops dr) K S) : Goal P (Code.region id ops dr) K S := h
end Go.Pv
/- The reference's draw of an algebra: it is there, and small. -/
namespace Go.Proofs.YtembaiccchgllaaGreat
open Go Go.Pv Go.Proofs

theorem least_of {p : Nat → Prop} (h : ∃ n, p n) : ∃ n, p n ∧ ∀ m, m < n → ¬ p m := by
  obtain ⟨n, hn⟩ := h
  induction n using Nat.strongRecOn with
  | _ n ih =>
    by_cases hx : ∃ m, m < n ∧ p m
    · obtain ⟨m, h1, h2⟩ := hx; exact ih m h1 h2
    · exact ⟨n, hn, fun m hm hp => hx ⟨m, hm, hp⟩⟩
theorem smA_app {l : List OpD} (h1 : l.length ≤ 6) (h2 : ∀ f ∈ l, f.tb.length ≤ 30) : smA l := by
  refine ⟨?_, ?_⟩
  · omega
  · intro f hf; exact Nat.le_trans (h2 f hf) (by decide)
end Go.Proofs.YtembaiccchgllaaGreat
/- What an argument of bytes reads as, by value. -/
namespace Go.Pv
open Go Go.ChangeShapes Go.WideShapes Go.RowKit Go.Deep

theorem vr_rowY {w : World} {A : Option Addr} {L C : Nat} {zs : List Int} (h1 : L ≤ C) (h2 : C ≤ maxLen) (h3 : zs.length = C) (h4 : A = none → C = 0) (h5 : ∀ a', A = some a' → ∀ c, c < C → w.cell? (a'.add c) = some (.int .u8 (zs.getD c 0))) :
    VR (gW w) (.slice A L C) (.sl 1 none ((zs.take L).map Y)) := by
  cases A with
  | none =>
    have hC := h4 rfl
    have hL : L = 0 := by omega
    subst hC; subst hL
    exact .nilsl 1 none (by simp)
  | some a =>
    rcases Nat.eq_zero_or_pos L with h0 | hpos
    · subst h0; exact .esl 1 none a C (by simp)
    · have hc := h5 a rfl
      have hs : a.spot = none := by
        have := hc 0 (by omega)
        rw [add0] at this
        exact cell_spot this
      have key := VR.sl (g := gW w) 1 none a.block a.off C ((zs.take L).map Y) (fun i => [Y (zs.getD i 0)]) (fun k => .int .u8 (zs.getD k 0)) (by omega) (by simp) (by simp; omega) h2 (fun i p hi => ?_) (fun k hk => ?_) (fun i j q hi hq => ?_)
      · have hl : ((zs.take L).map Y).length = L := by simp; omega
        rw [hl, ← addr_eq hs] at key
        exact key
      · rw [List.getElem?_map, Option.map_eq_some_iff] at hi
        obtain ⟨z, hz, rfl⟩ := hi
        have hlt := (List.getElem?_eq_some_iff.1 hz).1
        simp only [List.length_take] at hlt
        rw [List.getElem?_take_of_lt (by omega)] at hz
        exact ⟨by simp [PV.flat, PV.one, List.getD_eq_getElem?_getD, hz], rfl⟩
      · simp only [List.length_map, List.length_take] at hk
        have := hc k (by omega)
        show w.cell? ⟨a.block, a.off + k, none⟩ = _
        rw [← this]
        rw [addr_eq hs, Addr.add_n]
      · have hj : j = 0 := by rcases j with _ | j; rfl; simp at hq
        subst hj
        simp at hq
        subst hq
        simp only [Nat.mul_one, Nat.add_zero]
        exact .val _
theorem wf_u8 {n : Int} (h : (Lit.int .u8 n).wf = true) : 0 ≤ n ∧ n ≤ 255 := by
  simp [Lit.wf] at h
  rw [show IntKind.u8.min = 0 by rfl, show IntKind.u8.max = 255 by rfl] at h
  exact h
section
variable {H : Type} {enc : TypeId × Value → H} {P : Program} {W : World} {held : Bool}
theorem ar_bytes {t e : TypeId} {v : Value} {d : DataW H} {ps : List MemPlace} (ht : P.underlying t = some (.slice e)) (he : P.underlying e = some (.int .u8)) (hc : P.cellsOf e = 1) (hval : ∃ r b, Value.okWide P W r b t v) (h : DataW.Trod enc P W 0 (fun _ => true) held t v d ps) :
    ∃ l : List Int, VR (gW W) v (.sl 1 none (l.map Y)) ∧ l.length ≤ maxLen ∧ ∀ i, i < l.length → 0 ≤ l.getD i 0 ∧ l.getD i 0 ≤ 255 := by
  obtain ⟨r, b, hval⟩ := hval
  obtain ⟨fuel, h⟩ := h
  have key : ∀ cs x, DataW.trod enc P W 0 (fun _ => true) held fuel t cs = some x → ∃ (u : Value) (l : List Int), cs = [u] ∧ VR (gW W) u (.sl 1 none (l.map Y)) ∧ l.length ≤ maxLen ∧ ∀ n ∈ l, (Lit.int .u8 n).wf = true := fun cs x h => by
    rcases open_ints ht he hc h with ⟨rfl, -⟩ | ⟨a, len, cap, zs, rfl, -, hl, hm, hz, -, hcell, hwf⟩
    · exact ⟨_, [], rfl, .nilsl 1 none (by simp), by simp, fun n hn => by simp at hn⟩
    · simp only [if_true] at hz
      refine ⟨_, zs.take len, rfl, vr_rowY hl hm hz (fun h => by cases h) (fun a' ha c hc => ?_), by simp; omega, fun n hn => hwf n (List.mem_of_mem_take hn)⟩
      cases ha
      exact hcell c (by omega)
  obtain ⟨u, l, hcs, h1, h2, h3⟩ := key _ _ h
  have e : v = u := by
    cases v with
    | agg cs => unfold Value.okWide at hval; rw [ht] at hval; simp [Cell.okWide, Cell.ok, ht] at hval
    | tuple cs => unfold Value.okWide at hval; rw [ht] at hval; simp [Cell.okWide, Cell.ok, ht] at hval
    | _ => exact (List.cons.inj hcs).1
  refine ⟨l, e ▸ h1, h2, fun i hi => ?_⟩
  rw [List.getD_eq_getElem?_getD, List.getElem?_eq_getElem hi]
  exact wf_u8 (h3 _ (List.getElem_mem hi))
end
end Go.Pv
