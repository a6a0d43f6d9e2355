/- Walks: congruences of pairs, the program's side. -/
import Derived.Test.YtembaiccchgllaaGreatJKm
namespace Go.Proofs.YtembaiccchgllaaGreat
open Go Go.Pv Go.Proofs
set_option maxHeartbeats 32000000
set_option maxRecDepth 100000
attribute [local bitvec_to_nat] St.put St.setObj St.ev killP killA killP1 killH mapHO renP renA ren1 killG killGA killG1 krowP krowA krow1 lendP lendA lend1 unv pinP pin1 elemsM viewM viewN viewV n_set_z n_set_s n_map_c n_map_n getD_z getD_s n_toNat n_cond_t n_cond_f n_len_c n_len_n n_app_c n_app_n n_take_s n_take_z n_drop_s n_drop_z n_get_z n_get_s view viewA view1 elems Nat.zero_add Nat.add_zero Bool.not_true Bool.not_false Nat.one_ne_zero Nat.mul_one
abbrev prsP (L : List (Nat × Nat)) : PV := .sl 2 none (L.map fun xy => .agg [I (xy.1 : Int), I (xy.2 : Int)])
theorem icgo_R (n : Nat) (ops : List OpD) (L : List (Nat × Nat)) (hn0 : 0 < n) (hn : n ≤ 8) (hl : ops.length ≤ 1048576) (ho : opsIn n ops) (hL : L.length ≤ 1048576) (hxy : ∀ xy ∈ L, xy.1 < n ∧ xy.2 < n) :
    RCalls Tryz.prog 251 [algP n ops, prsP L] (.arr true 1 3 ((closeL n ops (foldU L (idL n))).map I)) (.hp 0) := by
  refine pcallsR1 Tryz.func251 rfl Tryz.ntmps251 rfl ?_
  simp only [List.length_cons, List.length_nil, Nat.reduceAdd, Nat.reduceSub, List.replicate_succ, List.replicate_zero, List.cons_append, List.nil_append]
  have h1 := ident_R n (by omega)
  have hid := idL_pt n
  repeat' (first
| refine g_seq ?_
| refine zJ ?_
| refine zC ?_
| (refine o_go rfl ?_; (first
| refine p_e rfl (e_callR rfl rfl aB rfl (h1)) ?_
| refine p_p (zD rfl) ?_
| refine p_p (zA rfl) ?_
| refine p_p (zF rfl rfl) ?_
| refine p_p (zU rfl rfl rfl) ?_
| refine p_p (zL rfl rfl) ?_
| refine p_p (ps_box rfl rfl) ?_); refine ⟨_, aA, ?_⟩)
| refine o_nil ?_)
  refine g_loopT (α := Nat) (fun i => [(5, .hp 0), (13, I (i : Int))]) (fun i => [.arr true 1 3 ((foldU (L.take i) (idL n)).map I)]) (fun i => i ≤ L.length) (fun i => L.length - i) 0 aF (Nat.zero_le _) ⟨rfl, rfl, trivial⟩ rfl ?_
  rintro i hi
  dsimp only [zZ, List.set_cons_zero, List.set_cons_succ]
  by_cases hil : i < L.length
  · have hxi := hxy (L.getD i (0, 0)) (by rw [List.getD_eq_getElem?_getD, List.getElem?_eq_getElem hil]; exact List.getElem_mem _)
    have htk : L.take (i + 1) = L.take i ++ [L.getD i (0, 0)] := take_snoc (0, 0) hil
    have hq : (L.map fun xy => PV.agg [I (xy.1 : Int), I (xy.2 : Int)])[((i : Nat) : Int).toNat]? = some (.agg [I ((L.getD i (0, 0)).1 : Int), I ((L.getD i (0, 0)).2 : Int)]) := by
      rw [Int.toNat_natCast, List.getElem?_map, List.getElem?_eq_getElem hil, List.getD_eq_getElem?_getD, List.getElem?_eq_getElem hil]; rfl
    obtain ⟨x, y, hxyd⟩ : ∃ x y, L.getD i (0, 0) = (x, y) := ⟨_, _, rfl⟩
    rw [hxyd] at htk hq hxi
    have hun := iun_L (foldU (L.take i) (idL n)) x y (by rw [foldU_len, hid.len]; omega) (by rw [foldU_len, hid.len]; exact hxi.1) (by rw [foldU_len, hid.len]; exact hxi.2)
    rw [← foldU_snoc, ← htk] at hun
    repeat' (first
| refine g_seq ?_
| refine zJ ?_
| refine zC ?_
| (refine o_go rfl ?_; (first
| refine p_p (zN rfl rfl rfl (by omega) hq (by exact rfl)) ?_
| refine p_p (ps_index_hatarr rfl rfl rfl (by omega) (by decide)) ?_
| refine p_e rfl (e_callL (n := 0) rfl rfl rfl aK rfl (by rfl) (by first | exact ⟨rfl, rfl, rfl, by simp only [List.length_map, foldU_len]⟩ | exact ⟨rfl, rfl, by simp only [List.length_map, foldU_len]⟩) hun) ?_
| refine p_p (zD rfl) ?_
| refine p_p (ps_load_agg rfl rfl aJ) ?_
| refine p_p (zS rfl rfl rfl) ?_
| refine p_p (ps_add rfl rfl rfl aN) ?_
| refine p_p (zH rfl rfl rfl rfl) ?_
| refine p_e rfl (zO rfl rfl rfl rfl aJ rfl rfl rfl) ?_
| refine p_e rfl (e_alloc rfl) ?_); refine ⟨_, aA, ?_⟩)
| refine o_nil ?_
| (refine zK rfl (fun hc => ?_) (fun hc => ?_) <;> try (exfalso; omega))
| refine zR ?_)
    all_goals try (exfalso; omega)
    exact zT (i + 1) (by omega) (by omega) aI ⟨rfl, rfl, trivial⟩ (zB rfl (zM _))
  · have hle : L.take i = L := List.take_of_length_le (by omega)
    rw [hle]
    have hpt := foldU_pt hid hxy
    have h2 := iclosep_L n ops (foldU L (idL n)) hn0 hn hl ho hpt
    have hcl := (close_lst hn0 ho hpt).pt.len
    have hpl := hpt.len
    repeat' (first
| refine g_seq ?_
| refine zC ?_
| (refine o_go rfl ?_; (first
| refine p_e rfl (e_callL (n := 0) rfl rfl rfl aK rfl (by rfl) (by first | exact ⟨rfl, rfl, rfl, by simp only [List.length_map, hcl, hpl]⟩ | exact ⟨rfl, rfl, by simp only [List.length_map, hcl, hpl]⟩) h2) ?_
| refine p_p (zD rfl) ?_
| refine p_p (zA rfl) ?_
| refine p_p (ps_load_agg rfl rfl aJ) ?_
| refine p_p (zS rfl rfl rfl) ?_); refine ⟨_, aA, ?_⟩)
| refine o_nil ?_
| (refine zK rfl (fun hc => ?_) (fun hc => ?_) <;> try (exfalso; omega))
| refine krr 0 rfl (HandOut.arr rfl ?_ aO)
| refine g_exit ?_
| refine g_ret ?_)
    all_goals first | rfl | (exfalso; omega)
def twB (n : Int) (p q : List Int) : Bool := inB n 1 8 && (ptB n.toNat p && ptB n.toNat q)
def jnV (n : Int) (p q : List Int) : List Int := if twB n p q then joinP n.toNat p q else []
def mtV (n : Int) (p q : List Int) : List Int := if twB n p q then meetP n.toNat p q else []
theorem isizeK_c (n : Int) : PCalls Tryz.prog 218 [I n] (B (inB n 1 8)) := by
  refine pcalls1 Tryz.func218 rfl Tryz.ntmps218 rfl ?_
  simp only [List.length_cons, List.length_nil, Nat.reduceAdd, Nat.reduceSub, List.replicate_succ, List.replicate_zero, List.cons_append, List.nil_append]
  unfold inB
  repeat' (first
| refine g_seq ?_
| refine zC ?_
| (refine o_go rfl ?_; (first
| refine p_p (zD rfl) ?_
| refine p_p (zA rfl) ?_
| refine p_p (zQ rfl rfl) ?_
| refine p_p (ps_leq rfl rfl rfl) ?_
| refine p_p (ps_geq rfl rfl rfl) ?_); refine ⟨_, aA, ?_⟩)
| refine o_nil ?_
| (refine o_s rfl ?_; refine ⟨_, aA, ?_⟩)
| (refine o_splitD rfl rfl rfl (fun hc => ?_) (fun hc => ?_) <;> first | (exfalso; omega) | dsimp only [List.set_cons_zero, List.set_cons_succ])
| refine kr1 ?_
| refine krB rfl ?_
| refine g_ret ?_)
  · rw [decide_eq_true hc]; rfl
  · rw [decide_eq_false hc]; rfl
theorem iarep_c (n : Int) (p q : List Int) (hp : p.length ≤ 1048576) (hq : q.length ≤ 1048576) : PCalls Tryz.prog 116 [I n, ints p, ints q] (B (twB n p q)) := by
  refine pcalls1 Tryz.func116 rfl Tryz.ntmps116 rfl ?_
  simp only [List.length_cons, List.length_nil, Nat.reduceAdd, Nat.reduceSub, List.replicate_succ, List.replicate_zero, List.cons_append, List.nil_append]
  have h1 := isizeK_c n
  unfold twB
  cases hb : inB n 1 8 with
  | false =>
    rw [hb] at h1
    repeat' (first
| refine g_seq ?_
| refine zC ?_
| (refine o_go rfl ?_; (first
| refine p_p (zG rfl rfl aB (h1)) ?_
| refine p_p (zD rfl) ?_
| refine p_p (zA rfl) ?_
| refine p_p (zQ rfl rfl) ?_); refine ⟨_, aA, ?_⟩)
| refine o_nil ?_
| (refine o_s rfl ?_; refine ⟨_, aA, ?_⟩)
| refine kr1 ?_
| refine krB rfl ?_
| refine g_ret ?_)
    all_goals first | rfl | (exfalso; omega)
  | true =>
    rw [hb] at h1
    have hb' := inB_iff.1 hb
    obtain ⟨m, rfl⟩ : ∃ m : Nat, n = m := ⟨n.toNat, by omega⟩
    rw [Int.toNat_natCast]
    have h2 := iptn_c m p (by omega) hp
    have h3 := iptn_c m q (by omega) hq
    cases hb2 : ptB m p with
    | false =>
      rw [hb2] at h2
      repeat' (first
| refine g_seq ?_
| refine zC ?_
| (refine o_go rfl ?_; (first
| refine p_p (zG rfl rfl aB (h1)) ?_
| refine p_p (zG rfl rfl aB (h2)) ?_
| refine p_p (zD rfl) ?_
| refine p_p (zA rfl) ?_
| refine p_p (zQ rfl rfl) ?_); refine ⟨_, aA, ?_⟩)
| refine o_nil ?_
| (refine o_s rfl ?_; refine ⟨_, aA, ?_⟩)
| refine kr1 ?_
| refine krB rfl ?_
| refine g_ret ?_)
      all_goals first | rfl | (exfalso; omega)
    | true =>
      rw [hb2] at h2
      repeat' (first
| refine g_seq ?_
| refine zC ?_
| (refine o_go rfl ?_; (first
| refine p_p (zG rfl rfl aB (h1)) ?_
| refine p_p (zG rfl rfl aB (h2)) ?_
| refine p_p (zG rfl rfl aB (h3)) ?_
| refine p_p (zD rfl) ?_
| refine p_p (zA rfl) ?_
| refine p_p (zQ rfl rfl) ?_); refine ⟨_, aA, ?_⟩)
| refine o_nil ?_
| refine kr1 ?_
| refine krB rfl ?_
| refine g_ret ?_)
      all_goals first | rfl | (exfalso; omega)
theorem twB_facts {n : Int} {p q : List Int} (h : twB n p q = true) : ∃ m : Nat, n = m ∧ 0 < m ∧ m ≤ 8 ∧ Pt m p ∧ Pt m q := by
  unfold twB at h
  simp only [Bool.and_eq_true] at h
  have := inB_iff.1 h.1
  exact ⟨n.toNat, by omega, by omega, by omega, ptB_iff.1 h.2.1, ptB_iff.1 h.2.2⟩
theorem ijp_c (n : Int) (p q : List Int) (hp : p.length ≤ 1048576) (hq : q.length ≤ 1048576) : PCalls Tryz.prog 22 [I n, ints p, ints q] (.tup [ints (jnV n p q), B (twB n p q)]) := by
  refine pcalls2 Tryz.func22 rfl Tryz.ntmps22 rfl ?_
  simp only [List.length_cons, List.length_nil, Nat.reduceAdd, Nat.reduceSub, List.replicate_succ, List.replicate_zero, List.cons_append, List.nil_append]
  have h1 := iarep_c n p q hp hq
  unfold jnV
  cases hb : twB n p q with
  | false =>
    rw [hb] at h1
    repeat' (first
| refine g_seq ?_
| refine zC ?_
| (refine o_go rfl ?_; (first
| refine p_p (zG rfl rfl aB (h1)) ?_
| refine p_p (zD rfl) ?_
| refine p_p (zA rfl) ?_
| refine p_p (ps_not rfl rfl) ?_
| refine p_e rfl (e_lit0 rfl (by decide)) ?_); refine ⟨_, aA, ?_⟩)
| refine o_nil ?_
| refine zX rfl ?_
| refine kr2 ?_ ?_
| refine krB rfl ?_
| refine krS rfl ?_
| refine g_ret ?_)
    all_goals first | rfl | (exfalso; omega)
  | true =>
    rw [hb] at h1
    rw [if_pos rfl]
    obtain ⟨m, rfl, hm0, hm8, hpt, hqt⟩ := twB_facts hb
    have h2 := ijoin_R m p q (by omega) hpt.len hqt
    rw [Int.toNat_natCast]
    repeat' (first
| refine g_seq ?_
| refine zC ?_
| (refine o_go rfl ?_; (first
| refine p_p (zG rfl rfl aB (h1)) ?_
| refine p_e rfl (e_callR rfl rfl aB rfl (h2)) ?_
| refine p_p (zD rfl) ?_
| refine p_p (zA rfl) ?_
| refine p_p (ps_not rfl rfl) ?_); refine ⟨_, aA, ?_⟩)
| refine o_nil ?_
| refine zW rfl ?_
| refine kr2 ?_ ?_
| refine krB rfl ?_
| refine krS rfl ?_
| refine zR ?_
| refine g_ret ?_)
    all_goals first | rfl | (exfalso; omega)
theorem imp_c (n : Int) (p q : List Int) (hp : p.length ≤ 1048576) (hq : q.length ≤ 1048576) : PCalls Tryz.prog 21 [I n, ints p, ints q] (.tup [ints (mtV n p q), B (twB n p q)]) := by
  refine pcalls2 Tryz.func21 rfl Tryz.ntmps21 rfl ?_
  simp only [List.length_cons, List.length_nil, Nat.reduceAdd, Nat.reduceSub, List.replicate_succ, List.replicate_zero, List.cons_append, List.nil_append]
  have h1 := iarep_c n p q hp hq
  unfold mtV
  cases hb : twB n p q with
  | false =>
    rw [hb] at h1
    repeat' (first
| refine g_seq ?_
| refine zC ?_
| (refine o_go rfl ?_; (first
| refine p_p (zG rfl rfl aB (h1)) ?_
| refine p_p (zD rfl) ?_
| refine p_p (zA rfl) ?_
| refine p_p (ps_not rfl rfl) ?_
| refine p_e rfl (e_lit0 rfl (by decide)) ?_); refine ⟨_, aA, ?_⟩)
| refine o_nil ?_
| refine zX rfl ?_
| refine kr2 ?_ ?_
| refine krB rfl ?_
| refine krS rfl ?_
| refine g_ret ?_)
    all_goals first | rfl | (exfalso; omega)
  | true =>
    rw [hb] at h1
    rw [if_pos rfl]
    obtain ⟨m, rfl, hm0, hm8, hpt, hqt⟩ := twB_facts hb
    have h2 := imeet_R m p q (by omega) hpt hqt
    rw [Int.toNat_natCast]
    repeat' (first
| refine g_seq ?_
| refine zC ?_
| (refine o_go rfl ?_; (first
| refine p_p (zG rfl rfl aB (h1)) ?_
| refine p_e rfl (e_callR rfl rfl aB rfl (h2)) ?_
| refine p_p (zD rfl) ?_
| refine p_p (zA rfl) ?_
| refine p_p (ps_not rfl rfl) ?_); refine ⟨_, aA, ?_⟩)
| refine o_nil ?_
| refine zW rfl ?_
| refine kr2 ?_ ?_
| refine krB rfl ?_
| refine krS rfl ?_
| refine zR ?_
| refine g_ret ?_)
    all_goals first | rfl | (exfalso; omega)
end Go.Proofs.YtembaiccchgllaaGreat
