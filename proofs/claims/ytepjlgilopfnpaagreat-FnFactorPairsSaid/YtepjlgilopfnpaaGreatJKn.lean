/- Walks: congruences of pairs, the program's side. -/
import Derived.Test.YtepjlgilopfnpaaGreatJKl
import Derived.Test.YtepjlgilopfnpaaGreatJKf
set_option linter.unusedSectionVars false
namespace Go.Proofs.YtepjlgilopfnpaaGreat
open Go Go.Pv Go.Proofs
set_option maxHeartbeats 32000000
set_option maxRecDepth 100000

theorem cg_close {n : Nat} {ops : List OpD} {p : List Int} (hn : 0 < n) (ho : opsIn n ops) : cgB n ops p = (ptB n p && !decide (closeL n ops p ≠ p)) := by
 unfold cgB
 cases hb : ptB n p with
 | false => rfl
 | true =>
  have hp := ptB_iff.1 hb
  rw [Bool.true_and, Bool.true_and]
  have h1 := push_same hn ho hp
  have h2 := close_same hn ho hp
  by_cases h : Cong n ops p
  · rw [decide_eq_true (h1.2 h), h2.2 h]; simp
  · rw [decide_eq_false (fun e => h (h1.1 e))]
    have : closeL n ops p ≠ p := fun e => h (h2.1 e)
    simp [this]
theorem iisc_c (n : Nat) (ops : List OpD) (p : List Int) (hn0 : 0 < n) (hn : n ≤ 8) (hl : ops.length ≤ 1048576) (ho : opsIn n ops) (hp : p.length ≤ 1048576) : PCalls Tryz.prog 54 [algP n ops, ints p] (B (cgB n ops p)) := by
 refine pcalls1 Tryz.func54 rfl Tryz.ntmps54 rfl ?_
 refine wF ?_
 rw [cg_close hn0 ho]
 have h1 := iptn_c n p (by omega) hp
 cases hb : ptB n p with
 | false =>
  rw [hb] at h1
  repeat' (first
| refine wO ?_
| refine zP zk zk ?_
| (refine o_go rfl ?_; (first
| refine p_p (zG rfl rfl aD (h1)) ?_
| refine wS ?_
| refine p_p (ps_box rfl rfl) ?_); refine ⟨_, aB, ?_⟩)
| (refine o_s rfl ?_; refine ⟨_, aB, ?_⟩)
| refine kr1 ?_
| refine krB rfl ?_
| refine wE ?_)
  all_goals first | rfl | (exfalso; omega)
 | true =>
  rw [hb] at h1
  have hpt := ptB_iff.1 hb
  have h2 := iclosep_L n ops p hn0 hn hl ho hpt
  have hcl := (close_lst hn0 ho hpt).pt.len
  have hpl := hpt.len
  repeat' (first
| refine wO ?_
| (refine o_go rfl ?_; (first
| refine wS ?_
| refine p_p (ps_box rfl rfl) ?_); refine ⟨_, aB, ?_⟩))
  refine g_region_drawZ [(0, some [0]), (1, some [0]), (2, some [0]), (3, some [0]), (4, some [0]), (5, some [0]), (6, some [0]), (7, none), (8, none), (9, none), (10, none), (11, none)] [(7, 0), (8, 0)] (fun _ => True) (by kernel_rfl) rfl (by kernel_rfl) ?_
  repeat' (first
| refine z_nil ?_
| ((first
| refine zV rfl rfl (fun hp hH => zG rfl rfl aD (h1)) aJ aM zd aA ?_
| refine zV rfl rfl (fun _ _ => zD rfl) aJ aC zd aA ?_
| refine zV rfl rfl (fun _ _ => zF rfl rfl) aJ aC zd aA ?_
| refine zV rfl rfl (fun _ _ => ps_load_agg rfl rfl aK) aJ aC zd aA ?_
| refine zV rfl rfl (fun _ _ => zL rfl rfl) aJ aC zd aA ?_
| refine z_eff rfl rfl aF (j_callR rfl rfl aD rfl (iclone_R p hp)) aG ?_
| refine z_eff rfl rfl aF (j_callLG (n := 0) rfl rfl rfl aL rfl (by rfl) (by first | exact ⟨rfl, rfl, rfl, by simp only [List.length_map, hcl, hpl]⟩ | exact ⟨rfl, rfl, by simp only [List.length_map, hcl, hpl]⟩) rfl h2) aG ?_
| refine z_eff rfl rfl aF (j_pure (zA rfl)) aG ?_
| refine z_eff rfl rfl aF (j_pure (ps_not rfl rfl)) aG ?_
| refine z_eff rfl rfl aF (j_pure (zQ rfl rfl)) aG ?_); refine ⟨_, aP, ?_⟩))
  repeat' (first
| refine kr1 ?_
| refine krB rfl ?_
| refine wE ?_)
  all_goals first | rfl | (exfalso; omega) | exact (Bool.true_and _).symm
abbrev prsP (L : List (Nat × Nat)) : PV := .sl 2 none (L.map fun xy => .agg [I (xy.1 : Int), I (xy.2 : Int)])
theorem icgo_R (n : Nat) (ops : List OpD) (L : List (Nat × Nat)) (hn0 : 0 < n) (hn : n ≤ 8) (hl : ops.length ≤ 1048576) (ho : opsIn n ops) (hL : L.length ≤ 1048576) (hxy : ∀ xy ∈ L, xy.1 < n ∧ xy.2 < n) :
 RCalls Tryz.prog 124 [algP n ops, prsP L] (.arr true 1 3 ((closeL n ops (foldU L (idL n))).map I)) (.hp 0) := by
 refine pcallsR1 Tryz.func124 rfl Tryz.ntmps124 rfl ?_
 refine wF ?_
 have h1 := ident_R n (by omega)
 have hid := idL_pt n
 repeat' (first
| refine wO ?_
| (refine o_go rfl ?_; (first
| refine p_e rfl (e_callR rfl rfl aD rfl (h1)) ?_
| refine wS ?_
| refine p_p (ps_box rfl rfl) ?_); refine ⟨_, aB, ?_⟩))
 refine g_loopT (α := Nat) (fun i => [(5, .hp 0), (13, I (i : Int))]) (fun i => [.arr true 1 3 ((foldU (L.take i) (idL n)).map I)]) (fun i => i ≤ L.length) (fun i => L.length - i) 0 aH (Nat.zero_le _) ⟨rfl, rfl, trivial⟩ rfl ?_
 rintro i hi
 refine wH ?_
 by_cases hil : i < L.length
 · have hxi := hxy (L.getD i (0, 0)) (by rw [List.getD_eq_getElem?_getD, List.getElem?_eq_getElem hil]; exact List.getElem_mem _)
   have htk : L.take (i + 1) = L.take i ++ [L.getD i (0, 0)] := take_snoc (0, 0) hil
   have hq : (L.map fun xy => PV.agg [I (xy.1 : Int), I (xy.2 : Int)])[((i : Nat) : Int).toNat]? = some (.agg [I ((L.getD i (0, 0)).1 : Int), I ((L.getD i (0, 0)).2 : Int)]) := by
    rw [Int.toNat_natCast, List.getElem?_map, List.getElem?_eq_getElem hil, List.getD_eq_getElem?_getD, List.getElem?_eq_getElem hil]; rfl
   obtain ⟨x, y, hxyd⟩ : ∃ x y, L.getD i (0, 0) = (x, y) := ⟨_, _, rfl⟩
   rw [hxyd] at htk hq hxi
   have hun := iun_L (foldU (L.take i) (idL n)) x y (by rw [foldU_len, hid.len]; omega) (by rw [foldU_len, hid.len]; exact hxi.1) (by rw [foldU_len, hid.len]; exact hxi.2)
   rw [← foldU_snoc, ← htk] at hun
   repeat' (first
| refine wO ?_
| (refine o_go rfl ?_; (first
| refine p_p (zN rfl rfl rfl zz hq ze) ?_
| refine p_p (ps_index_hatarr rfl rfl rfl zz zd) ?_
| refine p_e rfl (e_callL (n := 0) rfl rfl rfl aL rfl (by rfl) (by first | exact ⟨rfl, rfl, rfl, by simp only [List.length_map, foldU_len]⟩ | exact ⟨rfl, rfl, by simp only [List.length_map, foldU_len]⟩) hun) ?_
| refine wS ?_
| refine p_p (ps_load_agg rfl rfl aK) ?_
| refine p_e rfl (zO rfl rfl rfl rfl aK rfl rfl rfl) ?_
| refine p_e rfl (e_alloc rfl) ?_); refine ⟨_, aB, ?_⟩)
| (refine zK rfl ?_ ?_ <;> intro hc <;> try omega)
| refine wE ?_)
   all_goals try (exfalso; omega)
   exact zT (i + 1) (by omega) (by omega) aI ⟨rfl, rfl, trivial⟩ (zB rfl (zM _))
 · have hle : L.take i = L := List.take_of_length_le (by omega)
   rw [hle]
   have hpt := foldU_pt hid hxy
   have h2 := iclosep_L n ops (foldU L (idL n)) hn0 hn hl ho hpt
   have hcl := (close_lst hn0 ho hpt).pt.len
   have hpl := hpt.len
   repeat' (first
| refine wO ?_
| (refine o_go rfl ?_; (first
| refine p_e rfl (e_callL (n := 0) rfl rfl rfl aL rfl (by rfl) (by first | exact ⟨rfl, rfl, rfl, by simp only [List.length_map, hcl, hpl]⟩ | exact ⟨rfl, rfl, by simp only [List.length_map, hcl, hpl]⟩) h2) ?_
| refine wS ?_
| refine p_p (ps_load_agg rfl rfl aK) ?_); refine ⟨_, aB, ?_⟩)
| (refine zK rfl ?_ ?_ <;> intro hc <;> try omega)
| refine krr 0 rfl (HandOut.arr rfl ?_ aS)
| refine wE ?_)
   all_goals first | rfl | (exfalso; omega)
def twB (n : Int) (p q : List Int) : Bool := inB n 1 8 && (ptB n.toNat p && ptB n.toNat q)
theorem isizeK_c (n : Int) : PCalls Tryz.prog 122 [I n] (B (inB n 1 8)) := by
 refine pcalls1 Tryz.func122 rfl Tryz.ntmps122 rfl ?_
 refine wF ?_
 unfold inB
 repeat' (first
| refine wO ?_
| (refine o_go rfl ?_; (first
| refine wS ?_); refine ⟨_, aB, ?_⟩)
| (refine o_s rfl ?_; refine ⟨_, aB, ?_⟩)
| (refine o_splitD rfl rfl rfl ?_ ?_ <;> intro hc <;> first | omega | dsimp only [List.set_cons_zero, List.set_cons_succ])
| refine kr1 ?_
| refine krB rfl ?_
| refine wE ?_)
 · rw [decide_eq_true hc]; rfl
 · rw [decide_eq_false hc]; rfl
theorem iarep_c (n : Int) (p q : List Int) (hp : p.length ≤ 1048576) (hq : q.length ≤ 1048576) : PCalls Tryz.prog 69 [I n, ints p, ints q] (B (twB n p q)) := by
 refine pcalls1 Tryz.func69 rfl Tryz.ntmps69 rfl ?_
 refine wF ?_
 have h1 := isizeK_c n
 unfold twB
 cases hb : inB n 1 8 with
 | false =>
  rw [hb] at h1
  repeat' (first
| refine wO ?_
| (refine o_go rfl ?_; (first
| refine p_p (zG rfl rfl aD (h1)) ?_
| refine wS ?_); refine ⟨_, aB, ?_⟩)
| (refine o_s rfl ?_; refine ⟨_, aB, ?_⟩)
| refine kr1 ?_
| refine krB rfl ?_
| refine wE ?_)
  all_goals first | rfl | (exfalso; omega)
 | true =>
  rw [hb] at h1
  have hb' := inB_iff.1 hb
  obtain ⟨m, rfl⟩ : ∃ m : Nat, n = m := ⟨n.toNat, by omega⟩
  rw [Int.toNat_natCast]
  have h2 := iptn_c m p (by omega) hp
  have h3 := iptn_c m q (by omega) hq
  cases hb2 : ptB m p with
  | false =>
   rw [hb2] at h2
   repeat' (first
| refine wO ?_
| (refine o_go rfl ?_; (first
| refine p_p (zG rfl rfl aD (h1)) ?_
| refine p_p (zG rfl rfl aD (h2)) ?_
| refine wS ?_); refine ⟨_, aB, ?_⟩)
| (refine o_s rfl ?_; refine ⟨_, aB, ?_⟩)
| refine kr1 ?_
| refine krB rfl ?_
| refine wE ?_)
   all_goals first | rfl | (exfalso; omega)
  | true =>
   rw [hb2] at h2
   repeat' (first
| refine wO ?_
| (refine o_go rfl ?_; (first
| refine p_p (zG rfl rfl aD (h1)) ?_
| refine p_p (zG rfl rfl aD (h2)) ?_
| refine p_p (zG rfl rfl aD (h3)) ?_
| refine wS ?_); refine ⟨_, aB, ?_⟩)
| refine kr1 ?_
| refine krB rfl ?_
| refine wE ?_)
   all_goals first | rfl | (exfalso; omega)
end Go.Proofs.YtepjlgilopfnpaaGreat
/- Plain: the list of all congruences, as the reference grows it. -/
namespace Go.Proofs.YtepjlgilopfnpaaGreat
open Go Go.Pv Go.Proofs

def prPairs (n : Nat) : List (Nat × Nat) := (List.range n).flatMap fun x => (List.range x).map fun y => (x, y)
def prinF (n : Nat) (ops : List OpD) (L : List (List Int)) (xy : Nat × Nat) : List (List Int) := putC n L (cgL n ops xy.1 xy.2)
def prinL (n : Nat) (ops : List OpD) : List (List Int) := (prPairs n).foldl (prinF n ops) []
theorem prinF_mem {n : Nat} {ops : List OpD} : ∀ (P : List (Nat × Nat)) (L : List (List Int)) (q : List Int), q ∈ P.foldl (prinF n ops) L ↔ q ∈ L ∨ ∃ xy ∈ P, q = cgL n ops xy.1 xy.2
 | [], L, q => by simp
 | xy :: P, L, q => by
  rw [List.foldl_cons, prinF_mem P, prinF, putC_mem, or_assoc]
  simp only [List.mem_cons]
  constructor
  · rintro (h | h | ⟨xy', h, e⟩)
    · exact .inl h
    · exact .inr ⟨xy, .inl rfl, h⟩
    · exact .inr ⟨xy', .inr h, e⟩
  · rintro (h | ⟨xy', rfl | h, e⟩)
    · exact .inl h
    · exact .inr (.inl e)
    · exact .inr (.inr ⟨xy', h, e⟩)
theorem prin_Q (n : Nat) (ops : List OpD) : PrQ n ops (prinL n ops) := by
 have hm : ∀ q, q ∈ prinL n ops ↔ ∃ xy ∈ prPairs n, q = cgL n ops xy.1 xy.2 := fun q => by
  unfold prinL; rw [prinF_mem]; simp
 have hp : ∀ x y, (x, y) ∈ prPairs n ↔ x < n ∧ y < x := fun x y => by
  unfold prPairs
  simp only [List.mem_flatMap, List.mem_range, List.mem_map, Prod.mk.injEq]
  constructor
  · rintro ⟨a, ha, b, hb, rfl, rfl⟩; exact ⟨ha, hb⟩
  · rintro ⟨ha, hb⟩; exact ⟨x, ha, y, hb, rfl, rfl⟩
 refine ⟨fun q hq => ?_, fun x y hx hy => (hm _).2 ⟨(y, x), (hp _ _).2 ⟨hy, hx⟩, cg_comm ..⟩⟩
 obtain ⟨⟨x, y⟩, h, e⟩ := (hm q).1 hq
 obtain ⟨h1, h2⟩ := (hp _ _).1 h
 exact ⟨y, x, h2, h1, by rw [e]; exact cg_comm ..⟩
theorem prin_len {n : Nat} {ops : List OpD} : ∀ (P : List (Nat × Nat)) (L : List (List Int)), (P.foldl (prinF n ops) L).length ≤ L.length + P.length
 | [], L => by simp
 | xy :: P, L => by
  rw [List.foldl_cons]
  have h1 := prin_len (n := n) (ops := ops) P (prinF n ops L xy)
  have h2 : (prinF n ops L xy).length ≤ L.length + 1 := by
   unfold prinF putC
   split
   · omega
   · have := posC_le n (cgL n ops xy.1 xy.2) L
     simp [List.length_take, List.length_drop]; omega
  rw [List.length_cons]; omega
/-! ### The run -/
abbrev MSt := List (List Int) × List (List Int)
section
variable (n most : Nat) (Q : List (List Int))
def mStep (p : List Int) (st : MSt) (q : List Int) : MSt := if st.1.length ≤ most then (if joinP n p q ∈ st.1 then st else (putC n st.1 (joinP n p q), st.2 ++ [joinP n p q])) else st
def mInn (p : List Int) (st : MSt) (k : Nat) : MSt := (Q.take k).foldl (mStep n most p) st
def mRun : Nat → MSt
 | 0 => ([idL n], [idL n])
 | k + 1 => if k < (mRun k).2.length ∧ (mRun k).1.length ≤ most then mInn n most Q ((mRun k).2.getD k []) (mRun k) Q.length else mRun k
variable {n most Q}
theorem mInn_succ {p : List Int} {st : MSt} {k : Nat} (hk : k < Q.length) : mInn n most Q p st (k + 1) = mStep n most p (mInn n most Q p st k) (Q.getD k []) := by
 unfold mInn; rw [take_snoc [] hk, List.foldl_append]; rfl
structure MInv (ops : List OpD) (st : MSt) : Prop where
 asc : AscC n st.1
 inv : JInv n ops st.2
 mem : ∀ q, q ∈ st.1 ↔ q ∈ st.2
 len : st.1.length = st.2.length
 le : st.1.length ≤ most + 1
variable {ops : List OpD}
theorem MInv.start : MInv (n := n) (most := most) ops ([idL n], [idL n]) := ⟨by simp [AscC], .start n ops, fun _ => Iff.rfl, rfl, by simp⟩
theorem mStep_inv (ho : opsIn n ops) (hQ : PrQ n ops Q) {st : MSt} (h : MInv (n := n) (most := most) ops st) {p q : List Int} (hp : p ∈ st.2) (hq : q ∈ Q) :
 MInv (n := n) (most := most) ops (mStep n most p st q) ∧ (∃ l, (mStep n most p st q).2 = st.2 ++ l) ∧ (st.1.length ≤ most → joinP n p q ∈ (mStep n most p st q).2) := by
 unfold mStep
 split
 · next hle =>
   split
   · next hm => exact ⟨h, ⟨[], (List.append_nil _).symm⟩, fun _ => (h.mem _).1 hm⟩
   · next hm =>
     have hno : joinP n p q ∉ st.2 := fun e => hm ((h.mem _).2 e)
     refine ⟨⟨putC_asc h.asc, h.inv.add (h.inv.join hQ ho hp hq) hno, fun r => ?_, ?_, ?_⟩, ⟨[joinP n p q], rfl⟩, fun _ => by simp⟩
     · rw [putC_mem, List.mem_append, List.mem_singleton, h.mem]
     · rw [putC_len hm, List.length_append, h.len]; rfl
     · show (putC n st.1 _).length ≤ _
       rw [putC_len hm]; omega
 · next hle => exact ⟨h, ⟨[], (List.append_nil _).symm⟩, fun h => absurd h hle⟩
theorem mInn_inv (ho : opsIn n ops) (hQ : PrQ n ops Q) {st : MSt} (h : MInv (n := n) (most := most) ops st) {p : List Int} (hp : p ∈ st.2) : ∀ k, k ≤ Q.length →
 MInv (n := n) (most := most) ops (mInn n most Q p st k) ∧ (∃ l, (mInn n most Q p st k).2 = st.2 ++ l) ∧ ((mInn n most Q p st k).1.length ≤ most → ∀ i, i < k → joinP n p (Q.getD i []) ∈ (mInn n most Q p st k).2)
 | 0, _ => ⟨h, ⟨[], (List.append_nil _).symm⟩, fun _ i hi => absurd hi (Nat.not_lt_zero _)⟩
 | k + 1, hk => by
  obtain ⟨h1, ⟨l, h2⟩, h3⟩ := mInn_inv ho hQ h hp k (by omega)
  have hq : Q.getD k [] ∈ Q := by rw [List.getD_eq_getElem?_getD, List.getElem?_eq_getElem (by omega)]; exact List.getElem_mem _
  have hp' : p ∈ (mInn n most Q p st k).2 := by rw [h2]; exact List.mem_append.2 (.inl hp)
  rw [mInn_succ (by omega)]
  obtain ⟨g1, ⟨m, g2⟩, g3⟩ := mStep_inv ho hQ h1 hp' hq
  refine ⟨g1, ⟨l ++ m, by rw [g2, h2, List.append_assoc]⟩, fun hle i hi => ?_⟩
  have hmono : (mInn n most Q p st k).1.length ≤ most := by
   have : (mInn n most Q p st k).2.length ≤ (mStep n most p (mInn n most Q p st k) (Q.getD k [])).2.length := by rw [g2]; simp
   rw [← h1.len, ← g1.len] at this; omega
  rcases Nat.lt_or_ge i k with hlt | hge
  · rw [g2]; exact List.mem_append.2 (.inl (h3 hmono i hlt))
  · rw [show i = k by omega]; exact g3 hmono
theorem mRun_inv (ho : opsIn n ops) (hQ : PrQ n ops Q) : ∀ k, MInv (n := n) (most := most) ops (mRun n most Q k) ∧ ((mRun n most Q k).1.length ≤ most → ∀ j, j < k → j < (mRun n most Q k).2.length → ∀ q ∈ Q, joinP n ((mRun n most Q k).2.getD j []) q ∈ (mRun n most Q k).2)
 | 0 => ⟨.start, fun _ j hj => absurd hj (Nat.not_lt_zero _)⟩
 | k + 1 => by
  obtain ⟨h1, h2⟩ := mRun_inv ho hQ k
  rw [mRun]
  split
  · next hc =>
    have hp : (mRun n most Q k).2.getD k [] ∈ (mRun n most Q k).2 := by rw [List.getD_eq_getElem?_getD, List.getElem?_eq_getElem hc.1]; exact List.getElem_mem _
    obtain ⟨g1, ⟨l, g2⟩, g3⟩ := mInn_inv ho hQ h1 hp Q.length (Nat.le_refl _)
    refine ⟨g1, fun hle j hj hjl q hq => ?_⟩
    have hat : ∀ i, i < (mRun n most Q k).2.length → (mInn n most Q ((mRun n most Q k).2.getD k []) (mRun n most Q k) Q.length).2.getD i [] = (mRun n most Q k).2.getD i [] := fun i hi => by
     rw [g2, List.getD_eq_getElem?_getD, List.getElem?_append_left hi, List.getD_eq_getElem?_getD]
    obtain ⟨i, hi, rfl⟩ := List.getElem_of_mem hq
    rcases Nat.lt_or_ge j k with hlt | hge
    · rw [hat j (by omega), g2]
      exact List.mem_append.2 (.inl (h2 hc.2 j hlt (by omega) _ hq))
    · rw [show j = k by omega, hat k hc.1]
      have := g3 hle i hi
      have e : Q.getD i [] = Q[i] := by rw [List.getD_eq_getElem?_getD, List.getElem?_eq_getElem hi]; rfl
      rwa [e] at this
  · next hc =>
    refine ⟨h1, fun hle j hj hjl q hq => ?_⟩
    have : ¬ k < (mRun n most Q k).2.length := fun h => hc ⟨h, hle⟩
    exact h2 hle j (by omega) hjl q hq
theorem mRun_stay {k : Nat} (h : ¬ (k < (mRun n most Q k).2.length ∧ (mRun n most Q k).1.length ≤ most)) : ∀ m, mRun n most Q (k + m) = mRun n most Q k
 | 0 => rfl
 | m + 1 => by
  have ih := mRun_stay h m
  rw [← Nat.add_assoc, mRun, ih, if_neg (fun h' => h ⟨by omega, h'.2⟩)]
theorem mRun_end (ho : opsIn n ops) (hQ : PrQ n ops Q) {k : Nat} (h : ¬ (k < (mRun n most Q k).2.length ∧ (mRun n most Q k).1.length ≤ most)) : mRun n most Q k = mRun n most Q (most + 2) := by
 rcases Nat.lt_or_ge k (most + 2) with hlt | hge
 · have := mRun_stay h (most + 2 - k)
   rw [show k + (most + 2 - k) = most + 2 by omega] at this
   exact this.symm
 · have hI := (mRun_inv (most := most) ho hQ (most + 2)).1
   have := mRun_stay (n := n) (most := most) (Q := Q) (k := most + 2) (fun h' => by have := hI.len; have := hI.le; omega) (k - (most + 2))
   rwa [show most + 2 + (k - (most + 2)) = k by omega] at this
end
def mostV (n : Nat) (ops : List OpD) (most : Nat) : List (List Int) := (mRun n most (prinL n ops) (most + 2)).1
theorem mostV_inv {n most : Nat} {ops : List OpD} (ho : opsIn n ops) : AscC n (mostV n ops most) ∧ (∀ q ∈ mostV n ops most, Pt n q ∧ Cong n ops q) ∧ (mostV n ops most).length ≤ most + 1 ∧ ((mostV n ops most).length ≤ most → mostV n ops most = allL n ops) := by
 obtain ⟨h1, h2⟩ := mRun_inv (most := most) ho (prin_Q n ops) (most + 2)
 have hl := h1.len
 have hle := h1.le
 refine ⟨h1.asc, fun q hq => h1.inv.ok q ((h1.mem q).1 hq), h1.le, fun hm => ?_⟩
 refine AllC.eq ⟨h1.asc, fun q => ?_⟩
 refine (h1.mem q).trans (j_all h1.inv (prin_Q n ops) ho (fun p hp q hq => ?_) q)
 obtain ⟨i, hi, rfl⟩ := List.getElem_of_mem hp
 have := h2 hm i (by omega) hi q hq
 have e : ∀ L : List (List Int), ∀ hi : i < L.length, L.getD i [] = L[i] := fun L hi => by rw [List.getD_eq_getElem?_getD, List.getElem?_eq_getElem hi]; rfl
 rwa [e _ hi] at this
theorem mostV_len {n most : Nat} {ops : List OpD} (ho : opsIn n ops) : (mostV n ops most).length ≤ (allL n ops).length := by
 obtain ⟨h1, h2, -, -⟩ := mostV_inv (most := most) ho
 exact len_le_sub (ascC_nodup h1) fun q hq => allL_mem.2 (h2 q hq)
theorem mostV_all {n most : Nat} {ops : List OpD} (ho : opsIn n ops) (h : (allL n ops).length ≤ most) : mostV n ops most = allL n ops := (mostV_inv ho).2.2.2 (Nat.le_trans (mostV_len ho) h)
theorem mostV_few {n most : Nat} {ops : List OpD} (ho : opsIn n ops) : (mostV n ops most).length ≤ most ↔ (allL n ops).length ≤ most :=
 ⟨fun h => by rw [← (mostV_inv ho).2.2.2 h]; exact h, fun h => Nat.le_trans (mostV_len ho) h⟩
end Go.Proofs.YtepjlgilopfnpaaGreat
