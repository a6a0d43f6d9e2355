/- Walks: congruences that permute, triples, the program's side. -/
import Derived.Test.YtnjocjfhaahmfaaGreatJYa
import Derived.Test.YtnjocjfhaahmfaaGreatJKn
namespace Go.Proofs.YtnjocjfhaahmfaaGreat
open Go Go.Pv Go.Proofs
set_option maxHeartbeats 32000000
set_option maxRecDepth 100000
attribute [local bitvec_to_nat] St.put St.setObj St.ev killP killA killP1 killH mapHO renP renA ren1 killG killGA killG1 krowP krowA krow1 lendP lendA lend1 unv pinP pin1 elemsM viewM viewN viewV n_set_z n_set_s n_map_c n_map_n getD_z getD_s n_toNat n_cond_t n_cond_f n_len_c n_len_n n_app_c n_app_n n_take_s n_take_z n_drop_s n_drop_z n_get_z n_get_s view viewA view1 elems Nat.zero_add Nat.add_zero Bool.not_true Bool.not_false Nat.one_ne_zero Nat.mul_one

theorem range_findSome_none {β : Type} {f : Nat → Option β} {n : Nat} (h : ∀ i, i < n → f i = none) : (List.range n).findSome? f = none := List.findSome?_eq_none_iff.2 fun i hi => h i (List.mem_range.1 hi)
theorem range_findSome_at {β : Type} {f : Nat → Option β} {n k : Nat} {b : β} (hk : k < n) (hf : f k = some b) (h : ∀ i, i < k → f i = none) : (List.range n).findSome? f = some b := by
  have e : List.range n = List.range k ++ k :: (List.range (n - k - 1)).map (fun i => k + 1 + i) := by
    have h1 : n = k + (1 + (n - k - 1)) := by omega
    conv => lhs; rw [h1]
    rw [List.range_add, List.range_add, List.map_append, List.map_map]
    congr 1
    simp [Function.comp_def, Nat.add_assoc]
  rw [e, List.findSome?_append, range_findSome_none h, List.findSome?_cons, hf]; rfl
def prmX (p q : List Int) (n x : Nat) : Bool := (List.range n).all fun z => !prdK p q x z n || prdK q p x z n
def prmB (p q : List Int) (n : Nat) : Bool := (List.range n).all (prmX p q n)
theorem prdK_iff {n : Nat} {p q : List Int} (hp : Pt n p) (hq : Pt n q) {x z : Nat} (hx : x < n) (hz : z < n) : prdK p q x z n = true ↔ Prd n p q x z := by
  unfold prdK Prd
  rw [List.any_eq_true]
  constructor
  · rintro ⟨y, hy, h⟩
    rw [Bool.and_eq_true, decide_eq_true_eq, decide_eq_true_eq] at h
    have hy := List.mem_range.1 hy
    rw [hp.val hx, hp.val hy, hq.val hy, hq.val hz] at h
    exact ⟨y, hy, Int.ofNat.inj h.1, Int.ofNat.inj h.2⟩
  · rintro ⟨y, hy, h1, h2⟩
    refine ⟨y, List.mem_range.2 hy, ?_⟩
    rw [hp.val hx, hp.val hy, hq.val hy, hq.val hz, h1, h2]; simp
theorem prmB_iff {n : Nat} {p q : List Int} (hp : Pt n p) (hq : Pt n q) : prmB p q n = true ↔ Prm n p q := by
  unfold prmB prmX Prm
  constructor
  · intro h x z hx hz hpq
    have h1 := List.all_eq_true.1 (List.all_eq_true.1 h x (List.mem_range.2 hx)) z (List.mem_range.2 hz)
    rw [(prdK_iff hp hq hx hz).2 hpq] at h1
    exact (prdK_iff hq hp hx hz).1 (by simpa using h1)
  · intro h
    refine List.all_eq_true.2 fun x hx => List.all_eq_true.2 fun z hz => ?_
    have hx := List.mem_range.1 hx
    have hz := List.mem_range.1 hz
    cases hk : prdK p q x z n with
    | false => rfl
    | true => rw [(prdK_iff hq hp hx hz).2 (h x z hx hz ((prdK_iff hp hq hx hz).1 hk))]; rfl
theorem prdR_len (p q : List Int) (n x : Nat) : (prdR p q n x).length = n := by simp [prdR]
theorem prdT_at (p q : List Int) {n x : Nat} (h : x < n) : (((List.range n).map (prdR p q n)).map bools)[((x : Nat) : Int).toNat]? = some (bools (prdR p q n x)) := by
  rw [Int.toNat_natCast, List.getElem?_map, List.getElem?_map, List.getElem?_range h]; rfl
theorem prdR_at (p q : List Int) {n x z : Nat} (h : z < n) : ((prdR p q n x).map B)[((z : Nat) : Int).toNat]? = some (B (prdK p q x z n)) := by
  rw [Int.toNat_natCast, prdR, List.getElem?_map, List.getElem?_map, List.getElem?_range h]; rfl
theorem iunp_c (n : Nat) (p q : List Int) (hn : n ≤ 1000) (hp : p.length = n) (hq : q.length = n) : PCalls Tryz.prog 198 [ints p, ints q] (.tup [.any, B (!prmB p q n)]) := by
  refine pcalls2 Tryz.func198 rfl Tryz.ntmps198 rfl ?_
  refine wF ?_
  have h1 := iptab_c n p q hn hp hq
  have h2 := iptab_c n q p hn hq hp
  have hTl : ((List.range n).map (prdR p q n)).length = n := by simp
  have hUl : ((List.range n).map (prdR q p n)).length = n := by simp
  have t1 := fun x (h : x < n) => prdT_at p q h
  have t2 := fun x (h : x < n) => prdT_at q p h
  generalize (List.range n).map (prdR p q n) = T at *
  generalize (List.range n).map (prdR q p n) = U at *
  repeat' (first
| refine wO ?_
| (refine o_go rfl ?_; (first
| refine p_p (zG rfl rfl aB (h1)) ?_
| refine p_p (zG rfl rfl aB (h2)) ?_
| refine wS ?_); refine ⟨_, aA, ?_⟩))
  refine g_loopT (α := Nat) (fun x => [(20, I (x : Int))]) (fun _ => []) (fun x => x ≤ n ∧ ∀ y, y < x → prmX p q n y = true) (fun x => n - x) 0 aF ⟨Nat.zero_le _, fun j hj => absurd hj (Nat.not_lt_zero _)⟩ ⟨rfl, trivial⟩ rfl ?_
  rintro x ⟨hx, hno⟩
  dsimp only [zZ, List.set_cons_zero, List.set_cons_succ]
  by_cases hxn : x < n
  · have r1 := t1 x hxn
    have r2 := t2 x hxn
    have hRl := prdR_len p q n x
    have hSl := prdR_len q p n x
    have c1 := fun z (h : z < n) => prdR_at p q (x := x) h
    have c2 := fun z (h : z < n) => prdR_at q p (x := x) h
    generalize prdR p q n x = R at *
    generalize prdR q p n x = S at *
    repeat' (first
| refine wO ?_
| (refine o_go rfl ?_; (first
| refine p_p (zN rfl rfl rfl (by omega) r1 (by exact rfl)) ?_
| refine wS ?_); refine ⟨_, aA, ?_⟩)
| (refine zK rfl (fun hc => ?_) (fun hc => ?_) <;> try (exfalso; omega))
| refine wE ?_)
    all_goals try (exfalso; omega)
    refine g_loopT (α := Nat) (fun z => [(27, I (z : Int))]) (fun _ => []) (fun z => z ≤ n ∧ ∀ y, y < z → (!prdK p q x y n || prdK q p x y n) = true) (fun z => n - z) 0 aF ⟨Nat.zero_le _, fun j hj => absurd hj (Nat.not_lt_zero _)⟩ ⟨rfl, trivial⟩ rfl ?_
    rintro z ⟨hz, hnz⟩
    dsimp only [zZ, List.set_cons_zero, List.set_cons_succ]
    by_cases hzn : z < n
    · have d1 := c1 z hzn
      have d2 := c2 z hzn
      cases k1 : prdK p q x z n with
      | false =>
        rw [k1] at d1
        repeat' (first
| refine wO ?_
| (refine o_go rfl ?_; (first
| refine p_p (zN rfl rfl rfl (by omega) d1 (by exact rfl)) ?_
| refine wS ?_); refine ⟨_, aA, ?_⟩)
| (refine o_s rfl ?_; refine ⟨_, aA, ?_⟩)
| (refine zK rfl (fun hc => ?_) (fun hc => ?_) <;> try (exfalso; omega))
| refine wE ?_)
        all_goals try (exfalso; omega)
        refine zT (z + 1) ⟨by omega, fun y hy => ?_⟩ (by omega) aI ⟨rfl, trivial⟩ (zM _)
        rcases Nat.lt_or_ge y z with h | h
        · exact hnz y h
        · rw [show y = z by omega, k1]; rfl
      | true =>
        rw [k1] at d1
        cases k2 : prdK q p x z n with
        | true =>
          rw [k2] at d2
          repeat' (first
| refine wO ?_
| (refine o_go rfl ?_; (first
| refine p_p (zN rfl rfl rfl (by omega) d1 (by exact rfl)) ?_
| refine p_p (zN rfl rfl rfl (by omega) r2 (by exact rfl)) ?_
| refine p_p (zN rfl rfl rfl (by omega) d2 (by exact rfl)) ?_
| refine wS ?_); refine ⟨_, aA, ?_⟩)
| (refine zK rfl (fun hc => ?_) (fun hc => ?_) <;> try (exfalso; omega))
| refine wE ?_)
          all_goals try (exfalso; omega)
          refine zT (z + 1) ⟨by omega, fun y hy => ?_⟩ (by omega) aI ⟨rfl, trivial⟩ (zM _)
          rcases Nat.lt_or_ge y z with h | h
          · exact hnz y h
          · rw [show y = z by omega, k2, Bool.or_true]
        | false =>
          rw [k2] at d2
          have hv : prmB p q n = false := by
            rw [Bool.eq_false_iff]
            intro h
            have := List.all_eq_true.1 (List.all_eq_true.1 h x (List.mem_range.2 hxn)) z (List.mem_range.2 hzn)
            rw [k1, k2] at this; cases this
          rw [hv]
          repeat' (first
| refine wO ?_
| (refine o_go rfl ?_; (first
| refine p_p (zN rfl rfl rfl (by omega) d1 (by exact rfl)) ?_
| refine p_p (zN rfl rfl rfl (by omega) r2 (by exact rfl)) ?_
| refine p_p (zN rfl rfl rfl (by omega) d2 (by exact rfl)) ?_
| refine wS ?_
| refine p_p (ps_lit2 rfl rfl rfl (by rfl) (by rfl) (by rfl)) ?_); refine ⟨_, aA, ?_⟩)
| (refine zK rfl (fun hc => ?_) (fun hc => ?_) <;> try (exfalso; omega))
| refine kr2 ?_ ?_
| exact krAny
| refine krB rfl ?_
| refine wE ?_)
          all_goals first | rfl | (exfalso; omega)
    · repeat' (first
| refine wO ?_
| (refine o_go rfl ?_; (first
| refine wS ?_); refine ⟨_, aA, ?_⟩)
| (refine zK rfl (fun hc => ?_) (fun hc => ?_) <;> try (exfalso; omega))
| refine wE ?_)
      all_goals try (exfalso; omega)
      refine zT (K := fun _ _ => True) (x + 1) ⟨by omega, fun y hy => ?_⟩ (by omega) aI ⟨rfl, trivial⟩ (zM _)
      rcases Nat.lt_or_ge y x with h | h
      · exact hno y h
      · rw [show y = x by omega]
        exact List.all_eq_true.2 fun w hw => hnz w (by have := List.mem_range.1 hw; omega)
  · rw [show prmB p q n = true from List.all_eq_true.2 fun w hw => hno w (by have := List.mem_range.1 hw; omega)]
    repeat' (first
| refine wO ?_
| (refine o_go rfl ?_; (first
| refine wS ?_); refine ⟨_, aA, ?_⟩)
| (refine zK rfl (fun hc => ?_) (fun hc => ?_) <;> try (exfalso; omega))
| refine kr2 ?_ ?_
| exact krAny
| refine krB rfl ?_
| refine wE ?_)
    all_goals first | rfl | (exfalso; omega)
theorem iprm_c (n : Nat) (p q : List Int) (hn : n ≤ 1000) (hp : p.length = n) (hq : q.length = n) : PCalls Tryz.prog 120 [ints p, ints q] (B (prmB p q n)) := by
  refine pcalls1 Tryz.func120 rfl Tryz.ntmps120 rfl ?_
  refine wF ?_
  have h1 := iunp_c n p q hn hp hq
  cases h : prmB p q n with
  | true =>
    rw [h] at h1
    repeat' (first
| refine wO ?_
| (refine o_go rfl ?_; (first
| refine p_p (zG rfl rfl aB (h1)) ?_
| refine wS ?_); refine ⟨_, aA, ?_⟩)
| refine kr1 ?_
| refine krB rfl ?_
| refine wE ?_)
    all_goals rfl
  | false =>
    rw [h] at h1
    repeat' (first
| refine wO ?_
| (refine o_go rfl ?_; (first
| refine p_p (zG rfl rfl aB (h1)) ?_
| refine wS ?_); refine ⟨_, aA, ?_⟩)
| refine kr1 ?_
| refine krB rfl ?_
| refine wE ?_)
    all_goals rfl
def paX (n : Nat) (V : List (List Int)) (i : Nat) : Bool := (V.drop (i + 1)).all fun q => prmB (V.getD i []) q n
def paB (n : Nat) (V : List (List Int)) : Bool := (List.range V.length).all (paX n V)
theorem ipa_c (n : Nat) (V : List (List Int)) (hn : n ≤ 1000) (hV : ∀ p ∈ V, p.length = n) (hl : V.length ≤ 1048576) : PCalls Tryz.prog 135 [intss V] (.tup [.any, .any, B (!paB n V)]) := by
  refine pcalls3 Tryz.func135 rfl Tryz.ntmps135 rfl ?_
  refine wF ?_
  repeat' (first
| refine wO ?_
| (refine o_go rfl ?_; (first
| refine wS ?_); refine ⟨_, aA, ?_⟩))
  refine g_loopT (α := Nat) (fun x => [(11, I (x : Int))]) (fun _ => []) (fun x => x ≤ V.length ∧ ∀ y, y < x → paX n V y = true) (fun x => V.length - x) 0 aF ⟨Nat.zero_le _, fun j hj => absurd hj (Nat.not_lt_zero _)⟩ ⟨rfl, trivial⟩ rfl ?_
  rintro x ⟨hx, hno⟩
  dsimp only [zZ, List.set_cons_zero, List.set_cons_succ]
  by_cases hxn : x < V.length
  · have r1 := rows_at hxn
    have hpl := hV _ (rows_mem hxn)
    have hW : (V.drop (x + 1)).length = V.length - (x + 1) := List.length_drop ..
    have hWm : ∀ q ∈ V.drop (x + 1), q.length = n := fun q hq => hV q (List.mem_of_mem_drop hq)
    have hxX : paX n V x = (V.drop (x + 1)).all fun q => prmB (V.getD x []) q n := rfl
    have hidx : (x : Int) + 1 = ((x + 1 : Nat) : Int) := by omega
    repeat' (first
| refine wO ?_
| (refine o_go rfl ?_; (first
| refine p_p (zN rfl rfl rfl (by omega) r1 (by exact rfl)) ?_
| refine p_p (ps_addV rfl rfl rfl hidx (by omega)) ?_
| refine p_p (ps_sliceFromM rfl rfl rfl (by omega) (by omega)) ?_
| refine wS ?_); refine ⟨_, aA, ?_⟩)
| (refine zK rfl (fun hc => ?_) (fun hc => ?_) <;> try (exfalso; omega))
| refine wE ?_)
    all_goals try (exfalso; omega)
    try dsimp only [Int.toNat_natCast]
    generalize V.drop (x + 1) = W at *
    generalize V.getD x [] = p at *
    refine g_loopT (α := Nat) (fun z => [(21, I (z : Int))]) (fun _ => []) (fun z => z ≤ W.length ∧ ∀ y, y < z → prmB p (W.getD y []) n = true) (fun z => W.length - z) 0 aF ⟨Nat.zero_le _, fun j hj => absurd hj (Nat.not_lt_zero _)⟩ ⟨rfl, trivial⟩ rfl ?_
    rintro z ⟨hz, hnz⟩
    dsimp only [zZ, List.set_cons_zero, List.set_cons_succ]
    by_cases hzn : z < W.length
    · have r2 := rows_at hzn
      have h1 := iprm_c n p (W.getD z []) hn hpl (hWm _ (rows_mem hzn))
      cases k1 : prmB p (W.getD z []) n with
      | true =>
        rw [k1] at h1
        repeat' (first
| refine wO ?_
| (refine o_go rfl ?_; (first
| refine p_p (zG rfl rfl aB (h1)) ?_
| refine p_p (zN rfl rfl rfl (by omega) r2 (by exact rfl)) ?_
| refine wS ?_); refine ⟨_, aA, ?_⟩)
| (refine zK rfl (fun hc => ?_) (fun hc => ?_) <;> try (exfalso; omega))
| refine wE ?_)
        all_goals try (exfalso; omega)
        refine zT (z + 1) ⟨by omega, fun y hy => ?_⟩ (by omega) aI ⟨rfl, trivial⟩ (zM _)
        rcases Nat.lt_or_ge y z with h | h
        · exact hnz y h
        · rw [show y = z by omega]; exact k1
      | false =>
        rw [k1] at h1
        have hv : paB n V = false := by
          rw [Bool.eq_false_iff]
          intro h
          have := List.all_eq_true.1 h x (List.mem_range.2 hxn)
          rw [hxX] at this
          have := List.all_eq_true.1 this _ (rows_mem hzn)
          rw [k1] at this; cases this
        rw [hv]
        repeat' (first
| refine wO ?_
| (refine o_go rfl ?_; (first
| refine p_p (zG rfl rfl aB (h1)) ?_
| refine p_p (zN rfl rfl rfl (by omega) r2 (by exact rfl)) ?_
| refine wS ?_); refine ⟨_, aA, ?_⟩)
| (refine zK rfl (fun hc => ?_) (fun hc => ?_) <;> try (exfalso; omega))
| refine kr3 ?_ ?_ ?_
| exact krAny
| refine krB rfl ?_
| refine wE ?_)
        all_goals first | rfl | (exfalso; omega)
    · repeat' (first
| refine wO ?_
| (refine o_go rfl ?_; (first
| refine wS ?_); refine ⟨_, aA, ?_⟩)
| (refine zK rfl (fun hc => ?_) (fun hc => ?_) <;> try (exfalso; omega))
| refine wE ?_)
      all_goals try (exfalso; omega)
      refine zT (K := fun _ _ => True) (x + 1) ⟨by omega, fun y hy => ?_⟩ (by omega) aI ⟨rfl, trivial⟩ (zM _)
      rcases Nat.lt_or_ge y x with h | h
      · exact hno y h
      · rw [show y = x by omega, hxX]
        refine List.all_eq_true.2 fun w hw => ?_
        obtain ⟨i, hi, rfl⟩ := List.getElem_of_mem hw
        have := hnz i (by omega)
        rwa [List.getD_eq_getElem?_getD, List.getElem?_eq_getElem hi] at this
  · rw [show paB n V = true from List.all_eq_true.2 fun w hw => hno w (by have := List.mem_range.1 hw; omega)]
    repeat' (first
| refine wO ?_
| (refine o_go rfl ?_; (first
| refine wS ?_); refine ⟨_, aA, ?_⟩)
| (refine zK rfl (fun hc => ?_) (fun hc => ?_) <;> try (exfalso; omega))
| refine kr3 ?_ ?_ ?_
| exact krAny
| refine krB rfl ?_
| refine wE ?_)
    all_goals first | rfl | (exfalso; omega)
noncomputable def fcB (n : Int) (ops : List OpD) : Bool := acB n ops && decide ((acV n ops).length ≤ 60)
theorem ifew_c (n : Int) (ops : List OpD) (hs : szOk ops) : PCalls Tryz.prog 134 [algP n ops] (.tup [if fcB n ops then intss (acV n ops) else nilV, B (fcB n ops)]) := by
  refine pcalls2 Tryz.func134 rfl Tryz.ntmps134 rfl ?_
  refine wF ?_
  have h1 := icongs_c n ops hs
  unfold fcB
  cases ha : acB n ops with
  | false =>
    rw [ha, if_neg Bool.false_ne_true] at h1
    rw [Bool.false_and, if_neg Bool.false_ne_true]
    repeat' (first
| refine wO ?_
| (refine o_go rfl ?_; (first
| refine p_p (zG rfl rfl aB (h1)) ?_
| refine wS ?_
| refine p_p (ps_load_agg rfl rfl aJ) ?_
| refine p_p (ps_box rfl rfl) ?_); refine ⟨_, aA, ?_⟩)
| (refine o_s rfl ?_; refine ⟨_, aA, ?_⟩)
| refine kr2 ?_ ?_
| refine krB rfl ?_
| refine wE ?_)
    all_goals first | rfl | exact krV rfl
  | true =>
    rw [ha, if_pos rfl] at h1
    rw [Bool.true_and]
    have hl : (acV n ops).length ≤ 200 := by
      unfold acB at ha
      rw [Bool.and_eq_true, decide_eq_true_eq] at ha
      unfold acV
      split
      · exact ha.2
      · simp
    generalize acV n ops = V at *
    by_cases h6 : V.length ≤ 60
    · rw [decide_eq_true h6, if_pos rfl]
      repeat' (first
| refine wO ?_
| (refine o_go rfl ?_; (first
| refine p_p (zG rfl rfl aB (h1)) ?_
| refine wS ?_
| refine p_p (ps_load_agg rfl rfl aJ) ?_
| refine p_p (ps_box rfl rfl) ?_); refine ⟨_, aA, ?_⟩)
| (refine zK rfl (fun hc => ?_) (fun hc => ?_) <;> try (exfalso; omega))
| refine kr2 ?_ ?_
| refine krB rfl ?_
| refine krS rfl ?_
| refine wE ?_)
      all_goals first | rfl | exact krV rfl | (exfalso; omega)
    · rw [decide_eq_false h6, if_neg Bool.false_ne_true]
      repeat' (first
| refine wO ?_
| (refine o_go rfl ?_; (first
| refine p_p (zG rfl rfl aB (h1)) ?_
| refine wS ?_
| refine p_p (ps_load_agg rfl rfl aJ) ?_
| refine p_p (ps_box rfl rfl) ?_); refine ⟨_, aA, ?_⟩)
| (refine zK rfl (fun hc => ?_) (fun hc => ?_) <;> try (exfalso; omega))
| refine kr2 ?_ ?_
| refine krB rfl ?_
| refine wE ?_)
      all_goals first | rfl | exact krV rfl | (exfalso; omega)
end Go.Proofs.YtnjocjfhaahmfaaGreat
