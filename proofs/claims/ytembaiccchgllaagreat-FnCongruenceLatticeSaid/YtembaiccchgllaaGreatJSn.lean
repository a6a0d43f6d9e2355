/- The lattice of downsets of a poset: it is a distributive lattice whose irreducible elements are the downsets of single elements. No program here. -/
import Derived.Test.YtembaiccchgllaaGreatJSr
import Derived.Test.YtembaiccchgllaaGreatJPr
import Derived.Test.YtembaiccchgllaaGreatJCb
import Derived.Test.YtembaiccchgllaaGreatJYa
import Derived.Test.YtembaiccchgllaaGreatJKo
set_option linter.unusedSectionVars false
namespace Go.Proofs.YtembaiccchgllaaGreat

theorem sorted_getD {l : List Int} (h : l.Pairwise (· < ·)) {i j : Nat} (hij : i < j) (hj : j < l.length) : l.getD i 0 < l.getD j 0 := by
  rw [List.getD_eq_getElem?_getD, List.getD_eq_getElem?_getD, List.getElem?_eq_getElem hj, List.getElem?_eq_getElem (by omega)]
  exact List.pairwise_iff_getElem.1 h i j (by omega) hj hij
theorem ris_upTo (n : Nat) (p : Nat → Bool) : risB (upTo n p) 0 ((n : Int) - 1) = true := by
  unfold risB
  refine allN_iff.2 fun i hi => ?_
  have h1 := upTo_getD hi
  rw [Bool.and_eq_true]
  refine ⟨by unfold inB; rw [Bool.and_eq_true, decide_eq_true_eq, decide_eq_true_eq]; omega, ?_⟩
  cases i with
  | zero => rfl
  | succ i =>
    rw [Nat.add_sub_cancel, decide_eq_true (sorted_getD (upTo_sorted n p) (Nat.lt_succ_self i) hi), Bool.or_true]
theorem goodP_upTo {rows : List (List Int)} {f : Nat → Nat → Bool} (h10 : rows.length ≤ 10) (hr : ∀ x, x < rows.length → rows.getD x [] = upTo rows.length (f x)) (h1 : ∀ x, x < rows.length → f x x = true)
    (h2 : ∀ x y, x < rows.length → y < rows.length → f x y = true → f y x = true → x = y) (h3 : ∀ x y z, x < rows.length → y < rows.length → z < rows.length → f x y = true → f y z = true → f x z = true) : goodP rows = true := by
  unfold goodP
  rw [Bool.and_eq_true, Bool.and_eq_true, decide_eq_true_eq]
  refine ⟨h10, allN_iff.2 fun x hx => ?_, allN_iff.2 fun x hx => ?_⟩
  · unfold good1
    rw [hr x hx, ris_upTo, Bool.true_and, List.contains_iff_mem, upTo_mem]
    exact ⟨by omega, by omega, by simpa using h1 x hx⟩
  · unfold good2
    rw [hr x hx]
    refine List.all_eq_true.2 fun y hy => ?_
    obtain ⟨y0, y1, y2⟩ := upTo_mem.1 hy
    have hyl : y.toNat < rows.length := by omega
    rw [hr y.toNat hyl, Bool.and_eq_true]
    refine ⟨?_, List.all_eq_true.2 fun z hz => ?_⟩
    · rcases Classical.em (y = (x : Int)) with e | e
      · rw [decide_eq_true e]; rfl
      · rw [decide_eq_false e, Bool.not_false, Bool.true_and]
        cases hc : (upTo rows.length (f y.toNat)).contains (x : Int) with
        | false => rfl
        | true =>
          rw [List.contains_iff_mem, upTo_mem] at hc
          have := h2 x y.toNat hx hyl y2 (by simpa using hc.2.2)
          omega
    · obtain ⟨z0, z1, z2⟩ := upTo_mem.1 hz
      exact List.contains_iff_mem.2 (upTo_mem.2 ⟨z0, z1, h3 x y.toNat z.toNat hx hyl (by omega) y2 z2⟩)
theorem bound_nn {rows : List (List Int)} {l : List Int} {m : Int} (hm : inR rows m) (h1 : ∀ s ∈ l, leqB rows m s = true) (h2 : ∀ z, inR rows z → (∀ s ∈ l, leqB rows z s = true) → leqB rows z m = true) : 0 ≤ boundL rows l := by
  have hlow : m ∈ lowsB rows l rows.length := upTo_mem.2 ⟨hm.1, hm.2, by rw [(inR_nat hm).1]; exact List.all_eq_true.2 h1⟩
  have hw : withinB (lowsB rows l rows.length) (rows.getD m.toNat []) = true := List.all_eq_true.2 fun z hz => by
    obtain ⟨z0, z1, z2⟩ := upTo_mem.1 hz
    rw [show ((z.toNat : Nat) : Int) = z by omega] at z2
    exact h2 z ⟨z0, z1⟩ (List.all_eq_true.1 z2)
  rcases boundL_range rows l with h | h
  · exfalso
    unfold boundL at h
    cases hf : (lowsB rows l rows.length).find? fun l' => withinB (lowsB rows l rows.length) (rows.getD l'.toNat []) with
    | none => exact List.find?_eq_none.1 hf m hlow hw
    | some u =>
      rw [hf] at h
      have := (upTo_mem.1 (List.mem_of_find?_eq_some hf)).1
      simp at h; omega
  · exact h.1
end Go.Proofs.YtembaiccchgllaaGreat
/- Walks: lattices of few elements: whether one is there, meet-irreducible elements, atoms, the program's side. -/
namespace Go.Proofs.YtembaiccchgllaaGreat
open Go Go.Pv Go.Proofs
set_option maxHeartbeats 32000000
set_option maxRecDepth 100000
attribute [local bitvec_to_nat] St.put St.setObj St.ev killP killA killP1 killH mapHO renP renA ren1 killG killGA killG1 krowP krowA krow1 lendP lendA lend1 unv pinP pin1 elemsM viewM viewN viewV n_set_z n_set_s n_map_c n_map_n getD_z getD_s n_toNat n_cond_t n_cond_f n_len_c n_len_n n_app_c n_app_n n_take_s n_take_z n_drop_s n_drop_z n_get_z n_get_s view viewA view1 elems Nat.zero_add Nat.add_zero Bool.not_true Bool.not_false Nat.one_ne_zero Nat.mul_one

theorem iisl_c (rows : List (List Int)) (hok : okP rows) (hg : goodL rows = true) : PCalls Tryz.prog 17 [posetP rows] (B true) := by
  refine pcalls1 Tryz.func17 rfl Tryz.ntmps17 rfl ?_
  simp only [List.length_cons, List.length_nil, Nat.reduceAdd, Nat.reduceSub, List.replicate_succ, List.replicate_zero, List.cons_append, List.nil_append]
  repeat' (first
| refine g_seq ?_
| refine zC ?_
| (refine o_go rfl ?_; (first
| refine p_p (zG rfl rfl aB (lat_yes rows hok hg)) ?_
| refine p_p (zD rfl) ?_
| refine p_p (zA rfl) ?_
| refine p_p (ps_load_agg rfl rfl aJ) ?_
| refine p_p (ps_extract rfl rfl rfl) ?_
| refine p_p (ps_box rfl rfl) ?_); refine ⟨_, aA, ?_⟩)
| refine o_nil ?_
| refine kr1 ?_
| refine krB rfl ?_
| refine g_ret ?_)
  all_goals rfl
theorem sisl_c (rows : List (List Int)) (hok : okP rows) : PCalls Tryz.prog 18 [posetP rows] (B (goodL rows)) := by
  refine pcalls1 Tryz.func18 rfl Tryz.ntmps18 rfl ?_
  simp only [List.length_cons, List.length_nil, Nat.reduceAdd, Nat.reduceSub, List.replicate_succ, List.replicate_zero, List.cons_append, List.nil_append]
  repeat' (first
| refine g_seq ?_
| refine zC ?_
| (refine o_go rfl ?_; (first
| refine p_p (zG rfl rfl aB (goodL_c rows hok)) ?_
| refine p_p (zA rfl) ?_
| refine p_p (ps_load_agg rfl rfl aJ) ?_
| refine p_p (ps_box rfl rfl) ?_); refine ⟨_, aA, ?_⟩)
| refine o_nil ?_
| refine kr1 ?_
| refine krB rfl ?_
| refine g_ret ?_)
  all_goals rfl
def mirB (rows : List (List Int)) (x : Nat) : Bool := decide ((upsL rows (x : Int) rows.length).length = 1)
def mirL (rows : List (List Int)) : List Int := upTo rows.length (mirB rows)
theorem imir1_c (rows : List (List Int)) (x : Nat) (hg : goodL rows = true) (hx : x < rows.length) :
    PCalls Tryz.prog 127 ([] ++ [I (x : Int)] ++ [.ptr [latP rows]]) (B (mirB rows x)) := by
  refine pcalls1 Tryz.func127 rfl Tryz.ntmps127 rfl ?_
  simp only [List.length_cons, List.length_nil, Nat.reduceAdd, Nat.reduceSub, List.replicate_succ, List.replicate_zero, List.cons_append, List.nil_append]
  have h1 := iupc_c rows (x : Int) hg ⟨by omega, by omega⟩
  have hv : mirB rows x = decide (((upsL rows (x : Int) rows.length).length : Int) = 1) := by
    unfold mirB
    by_cases h : (upsL rows (x : Int) rows.length).length = 1
    · rw [decide_eq_true h, decide_eq_true (by omega)]
    · rw [decide_eq_false h, decide_eq_false (by omega)]
  rw [hv]
  repeat' (first
| refine g_seq ?_
| refine zC ?_
| (refine o_go rfl ?_; (first
| refine p_p (zG rfl rfl aB (h1)) ?_
| refine p_p (zD rfl) ?_
| refine p_p (zA rfl) ?_
| refine p_p (zF rfl rfl) ?_
| refine p_p (zU rfl rfl rfl) ?_
| refine p_p (zL rfl rfl) ?_
| refine p_p (ps_eql rfl rfl rfl) ?_
| refine p_p (ps_nilCheck rfl rfl) ?_); refine ⟨_, aA, ?_⟩)
| refine o_nil ?_
| refine kr1 ?_
| refine krB rfl ?_
| refine g_ret ?_)
  rfl
theorem imir_R (rows : List (List Int)) (hg : goodL rows = true) : RCalls Tryz.prog 125 [latP rows] (.arr true 1 3 ((mirL rows).map I)) (.hp 0) := by
  refine pcallsR1 Tryz.func125 rfl Tryz.ntmps125 rfl ?_
  simp only [List.length_cons, List.length_nil, Nat.reduceAdd, Nat.reduceSub, List.replicate_succ, List.replicate_zero, List.cons_append, List.nil_append]
  have hlen := length_tabZ rows.length (leqB rows)
  have h1 := thoseR_c (tabZ rows.length (leqB rows)) 127 [.ptr [latP rows]] (mirB rows) (okT_Z _ (good_10 hg)) (fun x hx => imir1_c rows x hg (by omega))
  rw [hlen] at h1
  repeat' (first
| refine g_seq ?_
| refine zC ?_
| (refine o_go rfl ?_; (first
| refine p_e rfl (e_callR rfl rfl aB rfl (h1)) ?_
| refine p_p (zA rfl) ?_
| refine p_p (zF rfl rfl) ?_
| refine p_p (zL rfl rfl) ?_
| refine p_p (ps_nilCheck rfl rfl) ?_
| refine p_p (ps_box rfl rfl) ?_
| refine p_p (ps_makeFunc rfl rfl rfl) ?_); refine ⟨_, aA, ?_⟩)
| refine o_nil ?_
| refine krr 0 rfl (HandOut.arr rfl ?_ aO)
| refine g_ret ?_)
  rfl
theorem imir_c (rows : List (List Int)) (hok : okP rows) (hg : goodL rows = true) : PCalls Tryz.prog 25 [posetP rows] (.tup [ints (mirL rows), B true]) := by
  have h1 := (listOf_R rows 125 (mirL rows) hok (imir_R rows)).plain rfl rfl
  rw [hg] at h1
  refine pcalls2 Tryz.func25 rfl Tryz.ntmps25 rfl ?_
  simp only [List.length_cons, List.length_nil, Nat.reduceAdd, Nat.reduceSub, List.replicate_succ, List.replicate_zero, List.cons_append, List.nil_append]
  repeat' (first
| refine g_seq ?_
| refine zC ?_
| (refine o_go rfl ?_; (first
| refine p_p (zG rfl rfl aB (h1)) ?_
| refine p_p (zA rfl) ?_
| refine p_p (ps_load_agg rfl rfl aJ) ?_
| refine p_p (ps_extract rfl rfl rfl) ?_
| refine p_p (ps_box rfl rfl) ?_); refine ⟨_, aA, ?_⟩)
| refine o_nil ?_
| refine kr2 ?_ ?_
| refine krB rfl ?_
| refine krS rfl ?_
| refine g_ret ?_)
  all_goals rfl
theorem iupc_R (rows : List (List Int)) (x : Int) (hg : goodL rows = true) (hx : inR rows x) : RCalls Tryz.prog 128 [boolss (tabZ rows.length (leqB rows)), I x] (.arr true 1 3 ((upsL rows x rows.length).map I)) (.hp 0) := by
  refine pcallsR1 Tryz.func128 rfl Tryz.ntmps128 rfl ?_
  simp only [List.length_cons, List.length_nil, Nat.reduceAdd, Nat.reduceSub, List.replicate_succ, List.replicate_zero, List.cons_append, List.nil_append]
  have hlen := length_tabZ rows.length (leqB rows)
  have h1 := thoseR_c (tabZ rows.length (leqB rows)) 229 [.ptr [boolss (tabZ rows.length (leqB rows))], .ptr [I x]] (fun y => coversB rows x (y : Int)) (okT_Z _ (good_10 hg)) (fun y hy => iuc1x_c rows x y hg hx (by omega))
  rw [hlen] at h1
  repeat' (first
| refine g_seq ?_
| refine zC ?_
| (refine o_go rfl ?_; (first
| refine p_e rfl (e_callR rfl rfl aB rfl (h1)) ?_
| refine p_p (zA rfl) ?_
| refine p_p (zF rfl rfl) ?_
| refine p_p (ps_box rfl rfl) ?_
| refine p_p (ps_makeFunc rfl rfl rfl) ?_); refine ⟨_, aA, ?_⟩)
| refine o_nil ?_
| refine krr 0 rfl (HandOut.arr rfl ?_ aO)
| refine g_ret ?_)
  rfl
theorem iatm_R (rows : List (List Int)) (hg : goodL rows = true) (hb : inR rows (botL rows)) : RCalls Tryz.prog 129 [latP rows] (.arr true 1 3 ((upsL rows (botL rows) rows.length).map I)) (.hp 0) := by
  refine pcallsR1 Tryz.func129 rfl Tryz.ntmps129 rfl ?_
  simp only [List.length_cons, List.length_nil, Nat.reduceAdd, Nat.reduceSub, List.replicate_succ, List.replicate_zero, List.cons_append, List.nil_append]
  have h1 := ibot_c rows hg
  have h2 := iupc_R rows (botL rows) hg hb
  repeat' (first
| refine g_seq ?_
| refine zC ?_
| refine zP (by kernel_rfl) (by kernel_rfl) ?_
| (refine o_go rfl ?_; (first
| refine p_p (zG rfl rfl aB (h1)) ?_
| refine p_e rfl (e_callR rfl rfl aB rfl (h2)) ?_
| refine p_p (zD rfl) ?_
| refine p_p (zA rfl) ?_
| refine p_p (zF rfl rfl) ?_
| refine p_p (zL rfl rfl) ?_
| refine p_p (ps_nilCheck rfl rfl) ?_); refine ⟨_, aA, ?_⟩)
| refine o_nil ?_
| refine krr 0 rfl (HandOut.arr rfl ?_ aO)
| refine g_ret ?_)
  rfl
theorem iatm_c (rows : List (List Int)) (hok : okP rows) (hg : goodL rows = true) (hb : inR rows (botL rows)) : PCalls Tryz.prog 26 [posetP rows] (.tup [ints (upsL rows (botL rows) rows.length), B true]) := by
  have h1 := (listOf_R rows 129 (upsL rows (botL rows) rows.length) hok (fun hg => iatm_R rows hg hb)).plain rfl rfl
  rw [hg] at h1
  refine pcalls2 Tryz.func26 rfl Tryz.ntmps26 rfl ?_
  simp only [List.length_cons, List.length_nil, Nat.reduceAdd, Nat.reduceSub, List.replicate_succ, List.replicate_zero, List.cons_append, List.nil_append]
  repeat' (first
| refine g_seq ?_
| refine zC ?_
| (refine o_go rfl ?_; (first
| refine p_p (zG rfl rfl aB (h1)) ?_
| refine p_p (zA rfl) ?_
| refine p_p (ps_load_agg rfl rfl aJ) ?_
| refine p_p (ps_extract rfl rfl rfl) ?_
| refine p_p (ps_box rfl rfl) ?_); refine ⟨_, aA, ?_⟩)
| refine o_nil ?_
| refine kr2 ?_ ?_
| refine krB rfl ?_
| refine krS rfl ?_
| refine g_ret ?_)
  all_goals rfl
end Go.Proofs.YtembaiccchgllaaGreat
/- The law of Mal'cev chains, its last part. -/
namespace Go.Pv
open Go
attribute [local semireducible] Go.Pv.PStep
section
variable {P : Program} {o : Oper} {ev : Operand → PV} {hp : List HO}
theorem ps_lssFY {t rt : TypeId} {x y : Operand} {a b : Int} {k : IntKind} (ho : o.op = .binOp .lss t x y rt) (h1 : ev x = .val (.int k a)) (h2 : ev y = .val (.int k b)) (h : ¬ a < b) : PStep P o ev hp (B false) := by
  have := zS (P := P) (hp := hp) ho h1 h2; rwa [decide_eq_false h] at this
theorem ps_neqBY {t rt : TypeId} [ht : BoolT P t] {x y : Operand} {a b c : Bool} (ho : o.op = .binOp .neq t x y rt) (h1 : ev x = B a) (h2 : ev y = B b) (h : (a != b) = c) : PStep P o ev hp (B c) := by
  have := ps_neqB (P := P) (hp := hp) (ht := ht) ho h1 h2; rwa [h] at this
end
end Go.Pv
namespace Go.Proofs.YtembaiccchgllaaGreat
open Go Go.Pv Go.Proofs

theorem inB_nat {m : Nat} (h0 : 0 < m) (h8 : m ≤ 8) : inB (m : Int) 1 8 = true := inB_iff.2 (by omega)
theorem ijpN_c {m : Nat} {p q : List Int} (h0 : 0 < m) (h8 : m ≤ 8) (hp : Pt m p) (hq : Pt m q) : PCalls Tryz.prog 22 [I (m : Int), ints p, ints q] (.tup [ints (joinP m p q), B true]) := by
  have h := ijp_c m p q (by rw [hp.len]; omega) (by rw [hq.len]; omega)
  have hb : twB m p q = true := by unfold twB; rw [inB_nat h0 h8, Int.toNat_natCast, ptB_iff.2 hp, ptB_iff.2 hq]; rfl
  unfold jnV at h
  rw [hb, if_pos rfl, Int.toNat_natCast] at h
  exact h
theorem impN_c {m : Nat} {p q : List Int} (h0 : 0 < m) (h8 : m ≤ 8) (hp : Pt m p) (hq : Pt m q) : PCalls Tryz.prog 21 [I (m : Int), ints p, ints q] (.tup [ints (meetP m p q), B true]) := by
  have h := imp_c m p q (by rw [hp.len]; omega) (by rw [hq.len]; omega)
  have hb : twB m p q = true := by unfold twB; rw [inB_nat h0 h8, Int.toNat_natCast, ptB_iff.2 hp, ptB_iff.2 hq]; rfl
  unfold mtV at h
  rw [hb, if_pos rfl, Int.toNat_natCast] at h
  exact h
end Go.Proofs.YtembaiccchgllaaGreat
