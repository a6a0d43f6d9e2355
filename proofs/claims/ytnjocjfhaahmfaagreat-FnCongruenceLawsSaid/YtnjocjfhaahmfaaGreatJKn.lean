/- Walks: congruences of pairs, the program's side. -/
import Derived.Test.YtnjocjfhaahmfaaGreatJKl
import Derived.Test.YtnjocjfhaahmfaaGreatJSq
namespace Go.Proofs.YtnjocjfhaahmfaaGreat
open Go Go.Pv Go.Proofs
set_option maxHeartbeats 32000000
set_option maxRecDepth 100000
attribute [local bitvec_to_nat] St.put St.setObj St.ev killP killA killP1 killH mapHO renP renA ren1 killG killGA killG1 krowP krowA krow1 lendP lendA lend1 unv pinP pin1 elemsM viewM viewN viewV n_set_z n_set_s n_map_c n_map_n getD_z getD_s n_toNat n_cond_t n_cond_f n_len_c n_len_n n_app_c n_app_n n_take_s n_take_z n_drop_s n_drop_z n_get_z n_get_s view viewA view1 elems Nat.zero_add Nat.add_zero Bool.not_true Bool.not_false Nat.one_ne_zero Nat.mul_one
abbrev prsP (L : List (Nat × Nat)) : PV := .sl 2 none (L.map fun xy => .agg [I (xy.1 : Int), I (xy.2 : Int)])
theorem icgo_R (n : Nat) (ops : List OpD) (L : List (Nat × Nat)) (hn0 : 0 < n) (hn : n ≤ 8) (hl : ops.length ≤ 1048576) (ho : opsIn n ops) (hL : L.length ≤ 1048576) (hxy : ∀ xy ∈ L, xy.1 < n ∧ xy.2 < n) :
    RCalls Tryz.prog 202 [algP n ops, prsP L] (.arr true 1 3 ((closeL n ops (foldU L (idL n))).map I)) (.hp 0) := by
  refine pcallsR1 Tryz.func202 rfl Tryz.ntmps202 rfl ?_
  refine wF ?_
  have h1 := ident_R n (by omega)
  have hid := idL_pt n
  repeat' (first
| refine wO ?_
| (refine o_go rfl ?_; (first
| refine p_e rfl (e_callR rfl rfl aB rfl (h1)) ?_
| refine wS ?_
| refine p_p (ps_box rfl rfl) ?_); refine ⟨_, aA, ?_⟩))
  refine g_loopT (α := Nat) (fun i => [(5, .hp 0), (13, I (i : Int))]) (fun i => [.arr true 1 3 ((foldU (L.take i) (idL n)).map I)]) (fun i => i ≤ L.length) (fun i => L.length - i) 0 aF (Nat.zero_le _) ⟨rfl, rfl, trivial⟩ rfl ?_
  rintro i hi
  dsimp only [zZ, List.set_cons_zero, List.set_cons_succ]
  by_cases hil : i < L.length
  · have hxi := hxy (L.getD i (0, 0)) (by rw [List.getD_eq_getElem?_getD, List.getElem?_eq_getElem hil]; exact List.getElem_mem _)
    have htk : L.take (i + 1) = L.take i ++ [L.getD i (0, 0)] := take_snoc (0, 0) hil
    have hq : (L.map fun xy => PV.agg [I (xy.1 : Int), I (xy.2 : Int)])[((i : Nat) : Int).toNat]? = some (.agg [I ((L.getD i (0, 0)).1 : Int), I ((L.getD i (0, 0)).2 : Int)]) := by
      rw [Int.toNat_natCast, List.getElem?_map, List.getElem?_eq_getElem hil, List.getD_eq_getElem?_getD, List.getElem?_eq_getElem hil]; rfl
    obtain ⟨x, y, hxyd⟩ : ∃ x y, L.getD i (0, 0) = (x, y) := ⟨_, _, rfl⟩
    rw [hxyd] at htk hq hxi
    have hun := iun_L (foldU (L.take i) (idL n)) x y (by rw [foldU_len, hid.len]; omega) (by rw [foldU_len, hid.len]; exact hxi.1) (by rw [foldU_len, hid.len]; exact hxi.2)
    rw [← foldU_snoc, ← htk] at hun
    repeat' (first
| refine wO ?_
| (refine o_go rfl ?_; (first
| refine p_p (zN rfl rfl rfl (by omega) hq (by exact rfl)) ?_
| refine p_p (ps_index_hatarr rfl rfl rfl (by omega) (by decide)) ?_
| refine p_e rfl (e_callL (n := 0) rfl rfl rfl aM rfl (by rfl) (by first | exact ⟨rfl, rfl, rfl, by simp only [List.length_map, foldU_len]⟩ | exact ⟨rfl, rfl, by simp only [List.length_map, foldU_len]⟩) hun) ?_
| refine wS ?_
| refine p_p (ps_load_agg rfl rfl aJ) ?_
| refine p_e rfl (zO rfl rfl rfl rfl aJ rfl rfl rfl) ?_
| refine p_e rfl (e_alloc rfl) ?_); refine ⟨_, aA, ?_⟩)
| (refine zK rfl (fun hc => ?_) (fun hc => ?_) <;> try (exfalso; omega))
| refine wE ?_)
    all_goals try (exfalso; omega)
    exact zT (i + 1) (by omega) (by omega) aI ⟨rfl, rfl, trivial⟩ (zB rfl (zM _))
  · have hle : L.take i = L := List.take_of_length_le (by omega)
    rw [hle]
    have hpt := foldU_pt hid hxy
    have h2 := iclosep_L n ops (foldU L (idL n)) hn0 hn hl ho hpt
    have hcl := (close_lst hn0 ho hpt).pt.len
    have hpl := hpt.len
    repeat' (first
| refine wO ?_
| (refine o_go rfl ?_; (first
| refine p_e rfl (e_callL (n := 0) rfl rfl rfl aM rfl (by rfl) (by first | exact ⟨rfl, rfl, rfl, by simp only [List.length_map, hcl, hpl]⟩ | exact ⟨rfl, rfl, by simp only [List.length_map, hcl, hpl]⟩) h2) ?_
| refine wS ?_
| refine p_p (ps_load_agg rfl rfl aJ) ?_); refine ⟨_, aA, ?_⟩)
| (refine zK rfl (fun hc => ?_) (fun hc => ?_) <;> try (exfalso; omega))
| refine krr 0 rfl (HandOut.arr rfl ?_ aK)
| refine wE ?_)
    all_goals first | rfl | (exfalso; omega)
def twB (n : Int) (p q : List Int) : Bool := inB n 1 8 && (ptB n.toNat p && ptB n.toNat q)
def jnV (n : Int) (p q : List Int) : List Int := if twB n p q then joinP n.toNat p q else []
def mtV (n : Int) (p q : List Int) : List Int := if twB n p q then meetP n.toNat p q else []
theorem isizeK_c (n : Int) : PCalls Tryz.prog 197 [I n] (B (inB n 1 8)) := by
  refine pcalls1 Tryz.func197 rfl Tryz.ntmps197 rfl ?_
  refine wF ?_
  unfold inB
  repeat' (first
| refine wO ?_
| (refine o_go rfl ?_; (first
| refine wS ?_
| refine p_p (ps_geq rfl rfl rfl) ?_); refine ⟨_, aA, ?_⟩)
| (refine o_s rfl ?_; refine ⟨_, aA, ?_⟩)
| (refine o_splitD rfl rfl rfl (fun hc => ?_) (fun hc => ?_) <;> first | (exfalso; omega) | dsimp only [List.set_cons_zero, List.set_cons_succ])
| refine kr1 ?_
| refine krB rfl ?_
| refine wE ?_)
  · rw [decide_eq_true hc]; rfl
  · rw [decide_eq_false hc]; rfl
theorem iarep_c (n : Int) (p q : List Int) (hp : p.length ≤ 1048576) (hq : q.length ≤ 1048576) : PCalls Tryz.prog 119 [I n, ints p, ints q] (B (twB n p q)) := by
  refine pcalls1 Tryz.func119 rfl Tryz.ntmps119 rfl ?_
  refine wF ?_
  have h1 := isizeK_c n
  unfold twB
  cases hb : inB n 1 8 with
  | false =>
    rw [hb] at h1
    repeat' (first
| refine wO ?_
| (refine o_go rfl ?_; (first
| refine p_p (zG rfl rfl aB (h1)) ?_
| refine wS ?_); refine ⟨_, aA, ?_⟩)
| (refine o_s rfl ?_; refine ⟨_, aA, ?_⟩)
| refine kr1 ?_
| refine krB rfl ?_
| refine wE ?_)
    all_goals first | rfl | (exfalso; omega)
  | true =>
    rw [hb] at h1
    have hb' := inB_iff.1 hb
    obtain ⟨m, rfl⟩ : ∃ m : Nat, n = m := ⟨n.toNat, by omega⟩
    rw [Int.toNat_natCast]
    have h2 := iptn_c m p (by omega) hp
    have h3 := iptn_c m q (by omega) hq
    cases hb2 : ptB m p with
    | false =>
      rw [hb2] at h2
      repeat' (first
| refine wO ?_
| (refine o_go rfl ?_; (first
| refine p_p (zG rfl rfl aB (h1)) ?_
| refine p_p (zG rfl rfl aB (h2)) ?_
| refine wS ?_); refine ⟨_, aA, ?_⟩)
| (refine o_s rfl ?_; refine ⟨_, aA, ?_⟩)
| refine kr1 ?_
| refine krB rfl ?_
| refine wE ?_)
      all_goals first | rfl | (exfalso; omega)
    | true =>
      rw [hb2] at h2
      repeat' (first
| refine wO ?_
| (refine o_go rfl ?_; (first
| refine p_p (zG rfl rfl aB (h1)) ?_
| refine p_p (zG rfl rfl aB (h2)) ?_
| refine p_p (zG rfl rfl aB (h3)) ?_
| refine wS ?_); refine ⟨_, aA, ?_⟩)
| refine kr1 ?_
| refine krB rfl ?_
| refine wE ?_)
      all_goals first | rfl | (exfalso; omega)
theorem twB_facts {n : Int} {p q : List Int} (h : twB n p q = true) : ∃ m : Nat, n = m ∧ 0 < m ∧ m ≤ 8 ∧ Pt m p ∧ Pt m q := by
  unfold twB at h
  simp only [Bool.and_eq_true] at h
  have := inB_iff.1 h.1
  exact ⟨n.toNat, by omega, by omega, by omega, ptB_iff.1 h.2.1, ptB_iff.1 h.2.2⟩
theorem ijp_c (n : Int) (p q : List Int) (hp : p.length ≤ 1048576) (hq : q.length ≤ 1048576) : PCalls Tryz.prog 56 [I n, ints p, ints q] (.tup [ints (jnV n p q), B (twB n p q)]) := by
  refine pcalls2 Tryz.func56 rfl Tryz.ntmps56 rfl ?_
  refine wF ?_
  have h1 := iarep_c n p q hp hq
  unfold jnV
  cases hb : twB n p q with
  | false =>
    rw [hb] at h1
    repeat' (first
| refine wO ?_
| (refine o_go rfl ?_; (first
| refine p_p (zG rfl rfl aB (h1)) ?_
| refine wS ?_
| refine p_e rfl (e_lit0 rfl (by decide)) ?_); refine ⟨_, aA, ?_⟩)
| refine kr2 ?_ ?_
| refine krB rfl ?_
| refine krS rfl ?_
| refine wE ?_)
    all_goals first | rfl | (exfalso; omega)
  | true =>
    rw [hb] at h1
    rw [if_pos rfl]
    obtain ⟨m, rfl, hm0, hm8, hpt, hqt⟩ := twB_facts hb
    have h2 := ijoin_R m p q (by omega) hpt.len hqt
    rw [Int.toNat_natCast]
    repeat' (first
| refine wO ?_
| (refine o_go rfl ?_; (first
| refine p_p (zG rfl rfl aB (h1)) ?_
| refine p_e rfl (e_callR rfl rfl aB rfl (h2)) ?_
| refine wS ?_); refine ⟨_, aA, ?_⟩)
| refine kr2 ?_ ?_
| refine krB rfl ?_
| refine krS rfl ?_
| refine wE ?_)
    all_goals first | rfl | (exfalso; omega)
theorem imp_c (n : Int) (p q : List Int) (hp : p.length ≤ 1048576) (hq : q.length ≤ 1048576) : PCalls Tryz.prog 57 [I n, ints p, ints q] (.tup [ints (mtV n p q), B (twB n p q)]) := by
  refine pcalls2 Tryz.func57 rfl Tryz.ntmps57 rfl ?_
  refine wF ?_
  have h1 := iarep_c n p q hp hq
  unfold mtV
  cases hb : twB n p q with
  | false =>
    rw [hb] at h1
    repeat' (first
| refine wO ?_
| (refine o_go rfl ?_; (first
| refine p_p (zG rfl rfl aB (h1)) ?_
| refine wS ?_
| refine p_e rfl (e_lit0 rfl (by decide)) ?_); refine ⟨_, aA, ?_⟩)
| refine kr2 ?_ ?_
| refine krB rfl ?_
| refine krS rfl ?_
| refine wE ?_)
    all_goals first | rfl | (exfalso; omega)
  | true =>
    rw [hb] at h1
    rw [if_pos rfl]
    obtain ⟨m, rfl, hm0, hm8, hpt, hqt⟩ := twB_facts hb
    have h2 := imeet_R m p q (by omega) hpt hqt
    rw [Int.toNat_natCast]
    repeat' (first
| refine wO ?_
| (refine o_go rfl ?_; (first
| refine p_p (zG rfl rfl aB (h1)) ?_
| refine p_e rfl (e_callR rfl rfl aB rfl (h2)) ?_
| refine wS ?_); refine ⟨_, aA, ?_⟩)
| refine kr2 ?_ ?_
| refine krB rfl ?_
| refine krS rfl ?_
| refine wE ?_)
    all_goals first | rfl | (exfalso; omega)
end Go.Proofs.YtnjocjfhaahmfaaGreat
/- Walks: the cursor that reads choices from bytes. -/
namespace Go.Proofs.YtnjocjfhaahmfaaGreat
open Go Go.Pv Go.Proofs
set_option maxHeartbeats 32000000
set_option maxRecDepth 100000
attribute [local bitvec_to_nat] St.put St.setObj St.ev killP killA killP1 killH mapHO renP renA ren1 killG killGA killG1 krowP krowA krow1 lendP lendA lend1 unv pinP pin1 elemsM viewM viewN viewV n_set_z n_set_s n_map_c n_map_n getD_z getD_s n_toNat n_cond_t n_cond_f n_len_c n_len_n n_app_c n_app_n n_take_s n_take_z n_drop_s n_drop_z n_get_z n_get_s view viewA view1 elems Nat.zero_add Nat.add_zero Bool.not_true Bool.not_false Nat.one_ne_zero Nat.mul_one

theorem seq_of {α : Type} (P : Nat → α → Prop) (R : Nat → α → α → Prop) (x0 : α) (n : Nat) (h0 : P 0 x0) (h : ∀ k x, k < n → P k x → ∃ x', P (k + 1) x' ∧ R k x x') : ∃ F : Nat → α, F 0 = x0 ∧ (∀ k, k ≤ n → P k (F k)) ∧ ∀ k, k < n → R k (F k) (F (k + 1)) := by
  obtain ⟨f, hf⟩ : ∃ f : Nat × α → α, ∀ p, p.1 < n → P p.1 p.2 → P (p.1 + 1) (f p) ∧ R p.1 p.2 (f p) := Classical.axiomOfChoice (r := fun (p : Nat × α) (x' : α) => p.1 < n → P p.1 p.2 → P (p.1 + 1) x' ∧ R p.1 p.2 x') fun (p : Nat × α) => by
    rcases Classical.em (p.1 < n ∧ P p.1 p.2) with hp | hp
    · obtain ⟨x', hx⟩ := h p.1 p.2 hp.1 hp.2
      exact ⟨x', fun _ _ => hx⟩
    · exact ⟨p.2, fun h1 h2 => absurd ⟨h1, h2⟩ hp⟩
  have hP : ∀ k, k ≤ n → P k (Nat.rec x0 (fun k x => f (k, x)) k) := fun k => by
    induction k with
    | zero => exact fun _ => h0
    | succ k ih => exact fun hk => (hf (k, _) hk (ih (by omega))).1
  exact ⟨fun k => Nat.rec x0 (fun k x => f (k, x)) k, rfl, hP, fun k hk => (hf (k, _) hk (hP k (by omega))).2⟩
abbrev bytesP (l : List Int) : PV := .sl 1 none (l.map Y)
structure Cu where
  code : List Int
  pos : Int
  sd : Int
structure Cu.ok (c : Cu) (m : Int) : Prop where
  len : c.code.length ≤ 65536
  byte : ∀ i, i < c.code.length → 0 ≤ c.code.getD i 0 ∧ c.code.getD i 0 ≤ 255
  lo : 0 ≤ c.pos
  hi : c.pos ≤ m
  sd0 : 0 ≤ c.sd
structure bytesOk (l : List Int) : Prop where
  len : l.length ≤ 65536
  byte : ∀ i, i < l.length → 0 ≤ l.getD i 0 ∧ l.getD i 0 ≤ 255
abbrev cu0 (l : List Int) : Cu := ⟨l, 0, 0⟩
theorem cu0_ok {l : List Int} (h : bytesOk l) : (cu0 l).ok 0 := ⟨h.len, h.byte, Int.le_refl _, Int.le_refl _, Int.le_refl _⟩
abbrev cuB (c : Cu) : HO := .box [bytesP c.code, I c.pos, U c.sd]
def nextB (c : Cu) : Int := if c.pos < (c.code.length : Int) then IntKind.i64.wrap (c.code.getD c.pos.toNat 0) else 0
def nextS (c : Cu) : Int := IntKind.u64.wrap (IntKind.u64.wrap (IntKind.u64.wrap (c.sd * 6364136223846793005) + IntKind.u64.wrap (nextB c)) + 550289)
def nextX (c : Cu) : Int := if c.pos + 1 ≤ (c.code.length : Int) then nextB c else IntKind.i64.wrap (bits .and .u64 (nextS c / 1099511627776) 255)
def nextC (c : Cu) : Cu := ⟨c.code, c.pos + 1, nextS c⟩
theorem wrap_u64 (a : Int) : 0 ≤ IntKind.u64.wrap a ∧ IntKind.u64.wrap a ≤ 18446744073709551615 := by
  simp [IntKind.wrap, IntKind.bits, IntKind.signed]; omega
theorem nextB_in {c : Cu} {m : Int} (h : c.ok m) : 0 ≤ nextB c ∧ nextB c ≤ 255 := by
  unfold nextB
  have := h.lo
  split
  · have := h.byte c.pos.toNat (by omega)
    rw [IntWalk.i64_in _ (by omega)]
    exact this
  · omega
theorem nextC_ok {c : Cu} {m : Int} (h : c.ok m) : (nextC c).ok (m + 1) := by
  have h1 := h.lo
  have h2 := h.hi
  exact ⟨h.len, h.byte, by show 0 ≤ c.pos + 1; omega, by show c.pos + 1 ≤ m + 1; omega, (wrap_u64 _).1⟩
theorem nextX_in {c : Cu} {m : Int} (h : c.ok m) : 0 ≤ nextX c ∧ nextX c ≤ 255 := by
  unfold nextX
  split
  · exact nextB_in h
  · obtain ⟨s0, s1⟩ := wrap_u64 (IntKind.u64.wrap (IntKind.u64.wrap (c.sd * 6364136223846793005) + IntKind.u64.wrap (nextB c)) + 550289)
    have s0 : 0 ≤ nextS c := s0
    have s1 : nextS c ≤ 18446744073709551615 := s1
    obtain ⟨n, hn⟩ : ∃ n : Nat, nextS c / 1099511627776 = (n : Int) := ⟨(nextS c / 1099511627776).toNat, by omega⟩
    rw [hn, show (255 : Int) = ((255 : Nat) : Int) by rfl, bits_and_u64_nat n 255 (by omega) (by omega)]
    have := Nat.and_le_right (n := n) (m := 255)
    rw [IntWalk.i64_in _ (by omega)]
    omega
theorem idx_Y {l : List Int} {k : Nat} (h : k < l.length) : (l.map Y)[k]? = some (Y (l.getD k 0)) := by simp [h]
theorem next_L {c : Cu} {m : Int} (h : c.ok m) (hm : m ≤ 1000000) : LCalls Tryz.prog 259 (cuB c) [.hat 0 0] (cuB (nextC c)) (I (nextX c)) := by
  refine pcallsL1 Tryz.func259 rfl Tryz.ntmps259 rfl rfl rfl (by simp) fun b d => ?_
  simp only [List.length_cons, List.length_nil, Nat.reduceAdd, Nat.reduceSub, List.replicate_succ, List.replicate_zero]
  have h1 := h.len
  have h2 := h.lo
  have h3 := h.hi
  repeat' (first
| refine wO ?_
| refine zP (by kernel_rfl) (by kernel_rfl) ?_
| (refine o_go rfl ?_; (first
| refine p_p (ps_unv (ps_nilCheck_hat rfl rfl)) ?_
| refine p_p (ps_unv (zE rfl rfl)) ?_
| refine p_p (ps_unv (zH rfl rfl rfl rfl)) ?_
| refine p_p (ps_conv rfl Tryz.underlying3 rfl rfl) ?_
| refine p_p (ps_conv rfl Tryz.underlying125 rfl rfl) ?_
| refine p_p (ps_mulU rfl rfl rfl) ?_
| refine p_p (ps_addU rfl rfl rfl) ?_
| refine p_p (ps_shrU rfl rfl rfl (by omega) (by omega)) ?_
| refine p_p (ps_andU rfl rfl rfl) ?_
| refine p_p (zN rfl rfl rfl (by omega) (by exact idx_Y (by omega)) (by exact rfl)) ?_
| refine wS ?_
| refine p_e rfl (e_store_boxC rfl rfl rfl rfl aJ rfl rfl) ?_); refine ⟨_, aA, ?_⟩)
| (refine zK rfl (fun hc => ?_) (fun hc => ?_) <;> try (exfalso; omega))
| refine wE ?_)
  · refine krlh 0 0 rfl ?_ rfl (krI rfl ?_)
    · unfold nextC nextS nextB; rw [if_pos (by assumption)]
    · unfold nextX nextB; rw [if_pos hc, if_pos (by assumption)]
  · refine krlh 0 0 rfl ?_ rfl (krI rfl ?_)
    · unfold nextC nextS nextB; rw [if_neg (by assumption)]
    · unfold nextX nextS nextB; rw [if_neg hc, if_neg (by assumption)]; rfl
theorem pick_L {c : Cu} {m : Int} (h : c.ok m) (hm : m ≤ 999000) (n : Int) (hn : n ≤ 1000000) : ∃ c' x, c'.ok (m + 2) ∧ 0 ≤ x ∧ (n ≤ 1 ∧ x = 0 ∨ x < n) ∧ LCalls Tryz.prog 218 (cuB c) [.hat 0 0, I n] (cuB c') (I x) := by
  by_cases h1 : n ≤ 1
  · refine ⟨c, 0, ⟨h.len, h.byte, h.lo, by have := h.hi; omega, h.sd0⟩, Int.le_refl _, .inl ⟨h1, rfl⟩, ?_⟩
    refine pcallsL1 Tryz.func218 rfl Tryz.ntmps218 rfl rfl rfl (by simp) fun b d => ?_
    simp only [List.length_cons, List.length_nil, Nat.reduceAdd, Nat.reduceSub, List.replicate_succ, List.replicate_zero]
    repeat' (first
| refine wO ?_
| (refine o_go rfl ?_; (first
| refine wS ?_); refine ⟨_, aA, ?_⟩)
| (refine zK rfl (fun hc => ?_) (fun hc => ?_) <;> try (exfalso; omega))
| refine wE ?_)
    exact krlh 0 0 rfl rfl rfl (krI rfl rfl)
  · have n1 := next_L h (by omega)
    have k1 := nextC_ok h
    have x1 := nextX_in h
    by_cases h2 : 200 < n
    · have n2 := next_L k1 (by omega)
      have k2 := nextC_ok k1
      have x2 := nextX_in k1
      have e0 : 0 ≤ (nextX c * 256 + nextX (nextC c)) % n := Int.emod_nonneg _ (by omega)
      have e1 : (nextX c * 256 + nextX (nextC c)) % n < n := Int.emod_lt_of_pos _ (by omega)
      refine ⟨nextC (nextC c), (nextX c * 256 + nextX (nextC c)) % n, by rw [show m + 2 = m + 1 + 1 by omega]; exact k2, e0, .inr e1, ?_⟩
      refine pcallsL1 Tryz.func218 rfl Tryz.ntmps218 rfl rfl rfl (by simp) fun b d => ?_
      simp only [List.length_cons, List.length_nil, Nat.reduceAdd, Nat.reduceSub, List.replicate_succ, List.replicate_zero]
      repeat' (first
| refine wO ?_
| (refine o_go rfl ?_; (first
| refine p_e rfl (e_callL (n := 0) rfl rfl rfl aM rfl (by rfl) aU (n1)) ?_
| refine p_e rfl (e_callL (n := 0) rfl rfl rfl aM rfl (by rfl) aU (n2)) ?_
| refine p_p (ps_mul rfl rfl rfl aO) ?_
| refine p_p (ps_rem rfl rfl rfl (by omega) (by omega)) ?_
| refine wS ?_); refine ⟨_, aA, ?_⟩)
| (refine zK rfl (fun hc => ?_) (fun hc => ?_) <;> try (exfalso; omega))
| refine wE ?_)
      exact krlh 0 0 rfl rfl rfl (krI rfl rfl)
    · have e0 : 0 ≤ nextX c % n := Int.emod_nonneg _ (by omega)
      have e1 : nextX c % n < n := Int.emod_lt_of_pos _ (by omega)
      refine ⟨nextC c, nextX c % n, ⟨k1.len, k1.byte, k1.lo, by have := k1.hi; omega, k1.sd0⟩, e0, .inr e1, ?_⟩
      refine pcallsL1 Tryz.func218 rfl Tryz.ntmps218 rfl rfl rfl (by simp) fun b d => ?_
      simp only [List.length_cons, List.length_nil, Nat.reduceAdd, Nat.reduceSub, List.replicate_succ, List.replicate_zero]
      repeat' (first
| refine wO ?_
| (refine o_go rfl ?_; (first
| refine p_e rfl (e_callL (n := 0) rfl rfl rfl aM rfl (by rfl) aU (n1)) ?_
| refine p_p (ps_rem rfl rfl rfl (by omega) (by omega)) ?_
| refine wS ?_); refine ⟨_, aA, ?_⟩)
| (refine zK rfl (fun hc => ?_) (fun hc => ?_) <;> try (exfalso; omega))
| refine wE ?_)
      exact krlh 0 0 rfl rfl rfl (krI rfl rfl)
theorem one_L {c : Cu} {m : Int} (h : c.ok m) (hm : m ≤ 999000) (n : Int) (hn : n ≤ 1000000) : ∃ c' b, c'.ok (m + 2) ∧ LCalls Tryz.prog 217 (cuB c) [.hat 0 0, I n] (cuB c') (B b) := by
  obtain ⟨c', x, k, x0, -, hc⟩ := pick_L h hm n hn
  refine ⟨c', decide (x = 0), k, ?_⟩
  refine pcallsL1 Tryz.func217 rfl Tryz.ntmps217 rfl rfl rfl (by simp) fun b d => ?_
  simp only [List.length_cons, List.length_nil, Nat.reduceAdd, Nat.reduceSub, List.replicate_succ, List.replicate_zero]
  repeat' (first
| refine wO ?_
| (refine o_go rfl ?_; (first
| refine p_e rfl (e_callL (n := 0) rfl rfl rfl aM rfl (by rfl) aU (hc)) ?_
| refine wS ?_); refine ⟨_, aA, ?_⟩)
| refine wE ?_)
  exact krlh 0 0 rfl rfl rfl (krB rfl rfl)
theorem among_L {c : Cu} {m : Int} (h : c.ok m) (hm : m ≤ 999000) (l : List Int) (hl : 0 < l.length) (hl2 : l.length ≤ 1000) : ∃ c' x, c'.ok (m + 2) ∧ x ∈ l ∧ LCalls Tryz.prog 160 (cuB c) [.hat 0 0, ints l] (cuB c') (I x) := by
  obtain ⟨c', x, k, x0, x1, hc⟩ := pick_L h hm (l.length : Int) (by omega)
  have hx : x < (l.length : Int) := by omega
  refine ⟨c', l.getD x.toNat 0, k, ?_, ?_⟩
  · rw [List.getD_eq_getElem?_getD, List.getElem?_eq_getElem (show x.toNat < l.length by omega)]
    exact List.getElem_mem _
  refine pcallsL1 Tryz.func160 rfl Tryz.ntmps160 rfl rfl rfl (by simp) fun b d => ?_
  simp only [List.length_cons, List.length_nil, Nat.reduceAdd, Nat.reduceSub, List.replicate_succ, List.replicate_zero]
  repeat' (first
| refine wO ?_
| (refine o_go rfl ?_; (first
| refine p_e rfl (e_callL (n := 0) rfl rfl rfl aM rfl (by rfl) aU (hc)) ?_
| refine p_p (zN rfl rfl rfl (by omega) (by exact idx_I (by omega)) (by exact rfl)) ?_
| refine wS ?_); refine ⟨_, aA, ?_⟩)
| refine wE ?_)
  exact krlh 0 0 rfl rfl rfl (krI rfl rfl)
end Go.Proofs.YtnjocjfhaahmfaaGreat
