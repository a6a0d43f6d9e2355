/- Walks: congruences by fineness, covers, the program's side. -/
import Derived.Test.YtbohjibbgppfaaaGreatJGb
import Derived.Test.YtbohjibbgppfaaaGreatJYa
import Derived.Test.YtbohjibbgppfaaaGreatJKn
import Derived.Test.YtbohjibbgppfaaaGreatJSq
namespace Go.Proofs.YtbohjibbgppfaaaGreat
open Go Go.Pv Go.Proofs
set_option maxHeartbeats 32000000
set_option maxRecDepth 100000
attribute [local bitvec_to_nat] St.put St.setObj St.ev killP killA killP1 killH mapHO renP renA ren1 killG killGA killG1 krowP krowA krow1 lendP lendA lend1 unv pinP pin1 elemsM viewM viewN viewV n_set_z n_set_s n_map_c n_map_n getD_z getD_s n_toNat n_cond_t n_cond_f n_len_c n_len_n n_app_c n_app_n n_take_s n_take_z n_drop_s n_drop_z n_get_z n_get_s view viewA view1 elems Nat.zero_add Nat.add_zero Bool.not_true Bool.not_false Nat.one_ne_zero Nat.mul_one

theorem row_atY {p : List Int} {x : Nat} (h : x < p.length) : (p.map I)[((x : Nat) : Int).toNat]? = some (I (p.getD x 0)) := by rw [Int.toNat_natCast]; exact idx_I h
theorem ifiner_c (n : Nat) (p q : List Int) (hn : n ≤ 1000) (hp : Pt n p) (hq : q.length = n) : PCalls Tryz.prog 173 [ints p, ints q] (B (fiB n p q)) := by
  refine pcalls1 Tryz.func173 rfl Tryz.ntmps173 rfl ?_
  refine wF ?_
  have hpl := hp.len
  repeat' (first
| refine wO ?_
| (refine o_go rfl ?_; (first
| refine wS ?_); refine ⟨_, aA, ?_⟩))
  refine g_loopT (α := Nat) (fun i => [(9, I (i : Int))]) (fun _ => []) (fun i => i ≤ n ∧ ∀ y, y < i → q.getD (bk p y) 0 = q.getD y 0) (fun i => n - i) 0 aF ⟨Nat.zero_le _, fun j hj => absurd hj (Nat.not_lt_zero _)⟩ ⟨rfl, trivial⟩ rfl ?_
  rintro i ⟨hi, hno⟩
  dsimp only [zZ, List.set_cons_zero, List.set_cons_succ]
  by_cases hil : i < n
  · have hb := hp.lt hil
    have i1 := row_atY (p := p) (x := i) (by omega)
    rw [hp.val hil] at i1
    have i2 := row_atY (p := q) (x := bk p i) (by omega)
    have i3 := row_atY (p := q) (x := i) (by omega)
    have hql : (q.map I).length = n := by rw [List.length_map, hq]
    by_cases he : q.getD (bk p i) 0 = q.getD i 0
    · repeat' (first
| refine wO ?_
| refine zP (by kernel_rfl) (by kernel_rfl) ?_
| (refine o_go rfl ?_; (first
| refine p_p (zN rfl rfl rfl (by omega) i1 (by exact rfl)) ?_
| refine p_p (zN rfl rfl rfl (by omega) i2 (by exact rfl)) ?_
| refine p_p (zN rfl rfl rfl (by omega) i3 (by exact rfl)) ?_
| refine wS ?_); refine ⟨_, aA, ?_⟩)
| (refine g_condN rfl (fun hc => ?_) (fun hc => ?_) <;> try (exfalso; omega))
| (refine zK rfl (fun hc => ?_) (fun hc => ?_) <;> try (exfalso; omega))
| refine wE ?_)
      all_goals try (exfalso; first | omega | exact hc he)
      refine zT (i + 1) ⟨by omega, fun y hy => ?_⟩ (by omega) aI ⟨rfl, trivial⟩ (zM _)
      rcases Nat.lt_or_ge y i with h | h
      · exact hno y h
      · rw [show y = i by omega]; exact he
    · have hv : fiB n p q = false := by
        rw [Bool.eq_false_iff]
        intro h
        have := List.all_eq_true.1 h i (List.mem_range.2 hil)
        exact he (by simpa using this)
      rw [hv]
      repeat' (first
| refine wO ?_
| refine zP (by kernel_rfl) (by kernel_rfl) ?_
| (refine o_go rfl ?_; (first
| refine p_p (zN rfl rfl rfl (by omega) i1 (by exact rfl)) ?_
| refine p_p (zN rfl rfl rfl (by omega) i2 (by exact rfl)) ?_
| refine p_p (zN rfl rfl rfl (by omega) i3 (by exact rfl)) ?_
| refine wS ?_); refine ⟨_, aA, ?_⟩)
| (refine g_condN rfl (fun hc => ?_) (fun hc => ?_) <;> try (exfalso; omega))
| (refine zK rfl (fun hc => ?_) (fun hc => ?_) <;> try (exfalso; omega))
| refine kr1 ?_
| refine krB rfl ?_
| refine wE ?_)
      all_goals first | rfl | (exfalso; first | omega | exact he hc)
  · rw [show fiB n p q = true from List.all_eq_true.2 fun y hy => decide_eq_true (hno y (by have := List.mem_range.1 hy; omega))]
    repeat' (first
| refine wO ?_
| (refine o_go rfl ?_; (first
| refine wS ?_); refine ⟨_, aA, ?_⟩)
| (refine zK rfl (fun hc => ?_) (fun hc => ?_) <;> try (exfalso; omega))
| refine kr1 ?_
| refine krB rfl ?_
| refine wE ?_)
    all_goals first | rfl | (exfalso; omega)
def extX (W : List (List Int)) (by_ : List Int → List Int → Bool) (i : Nat) : Bool := (List.range W.length).all fun k => k == i || !by_ (W.getD i []) (W.getD k [])
def extK (W : List (List Int)) (by_ : List Int → List Int → Bool) (i k : Nat) : Bool := (List.range k).all fun k => k == i || !by_ (W.getD i []) (W.getD k [])
def extP (W : List (List Int)) (by_ : List Int → List Int → Bool) (i : Nat) : List (List Int) := ((List.range i).filter (extX W by_)).map fun i => W.getD i []
theorem extK_succ (W : List (List Int)) (by_ : List Int → List Int → Bool) (i k : Nat) : extK W by_ i (k + 1) = (extK W by_ i k && (k == i || !by_ (W.getD i []) (W.getD k []))) := by
  unfold extK; rw [List.range_succ, List.all_append]; simp
theorem extP_succ (W : List (List Int)) (by_ : List Int → List Int → Bool) (i : Nat) : extP W by_ (i + 1) = extP W by_ i ++ if extX W by_ i then [W.getD i []] else [] := by
  unfold extP
  rw [List.range_succ, List.filter_append, List.map_append]
  congr 1
  cases h : extX W by_ i <;> simp [h]
theorem extP_len (W : List (List Int)) (by_ : List Int → List Int → Bool) (i : Nat) : (extP W by_ i).length ≤ i := by
  unfold extP; rw [List.length_map]; exact Nat.le_trans (List.length_filter_le _ _) (by simp)
theorem ext_min (n : Nat) (W : List (List Int)) : extP W (fun r o => fiB n o r) W.length = minL n W := rfl
theorem iext_c (W : List (List Int)) (f : Nat) [FnT Tryz.prog f] (by_ : List Int → List Int → Bool) (hl : W.length ≤ 1000000) (hW : ∀ r ∈ W, r.length ≤ 1048576) (hb : ∀ r ∈ W, ∀ s ∈ W, PCalls Tryz.prog f [ints r, ints s] (B (by_ r s))) :
    PCalls Tryz.prog 247 [intss W, .fn f [] []] (intss (extP W by_ W.length)) := by
  refine pcalls1 Tryz.func247 rfl Tryz.ntmps247 rfl ?_
  refine wF ?_
  repeat' (first
| refine wO ?_
| (refine o_go rfl ?_; (first
| refine p_e rfl (e_lit0T rfl (by decide)) ?_
| refine wS ?_); refine ⟨_, aA, ?_⟩))
  refine g_loopF (α := Nat) [11] (fun i => [(5, .hp 0), (14, I (i : Int))]) (fun i => [.arr true 1 27 ((extP W by_ i).map ints)]) (fun i => i ≤ W.length) (fun i => W.length - i) 0 aF (Nat.zero_le _) ⟨rfl, rfl, trivial⟩ rfl ?_
  rintro i hi
  dsimp only [zZ, List.set_cons_zero, List.set_cons_succ]
  have hel := extP_len W by_ i
  have hll : ((extP W by_ i).map ints).length = (extP W by_ i).length := List.length_map ..
  by_cases hil : i < W.length
  · have ri := rows_at hil
    have mi := rows_mem hil
    have hsn := extP_succ W by_ i
    repeat' (first
| refine wO ?_
| (refine o_go rfl ?_; (first
| refine p_p (zN rfl rfl rfl (by omega) ri (by exact rfl)) ?_
| refine wS ?_); refine ⟨_, aA, ?_⟩)
| (refine zK rfl (fun hc => ?_) (fun hc => ?_) <;> try (exfalso; omega))
| refine wE ?_)
    all_goals try (exfalso; omega)
    refine g_loopT (α := Nat) (fun k => [(8, B (extK W by_ i k)), (21, I (k : Int))]) (fun _ => [.arr true 1 27 ((extP W by_ i).map ints)]) (fun k => k ≤ W.length) (fun k => W.length - k) 0 aF (Nat.zero_le _) ⟨rfl, rfl, trivial⟩ rfl ?_
    rintro k hk
    dsimp only [zZ, List.set_cons_zero, List.set_cons_succ]
    by_cases hkl : k < W.length
    · have rk := rows_at hkl
      have mk := rows_mem hkl
      have h1 := hb _ mi _ mk
      have hks := extK_succ W by_ i k
      by_cases hki : k = i
      · rw [show (k == i) = true by simpa using hki, Bool.true_or, Bool.and_true] at hks
        repeat' (first
| refine wO ?_
| (refine o_go rfl ?_; (first
| refine p_p (zN rfl rfl rfl (by omega) rk (by exact rfl)) ?_
| refine p_p (zG rfl rfl aB (h1)) ?_
| refine wS ?_); refine ⟨_, aA, ?_⟩)
| (refine o_s rfl ?_; refine ⟨_, aA, ?_⟩)
| (refine o_splitN rfl rfl rfl (fun hc => ?_) (fun hc => ?_) <;> dsimp only [List.set_cons_zero, List.set_cons_succ])
| (refine zK rfl (fun hc => ?_) (fun hc => ?_) <;> try (exfalso; omega))
| (refine g_cond rfl (fun hc => ?_) (fun hc => ?_))
| refine wE ?_)
        all_goals try (exfalso; first | omega | (simp only [decide_eq_false_iff_not, decide_eq_true_eq] at *; omega))
        exact zT (k + 1) (by omega) (by omega) aI ⟨by rw [hks]; rfl, rfl, trivial⟩ (zB rfl (zM _))
      · rw [show (k == i) = false by simpa using hki, Bool.false_or] at hks
        cases hby : by_ (W.getD i []) (W.getD k []) with
        | true =>
          rw [hby] at h1 hks
          rw [Bool.not_true, Bool.and_false] at hks
          repeat' (first
| refine wO ?_
| (refine o_go rfl ?_; (first
| refine p_p (zN rfl rfl rfl (by omega) rk (by exact rfl)) ?_
| refine p_p (zG rfl rfl aB (h1)) ?_
| refine wS ?_); refine ⟨_, aA, ?_⟩)
| (refine o_s rfl ?_; refine ⟨_, aA, ?_⟩)
| (refine o_splitN rfl rfl rfl (fun hc => ?_) (fun hc => ?_) <;> dsimp only [List.set_cons_zero, List.set_cons_succ])
| (refine zK rfl (fun hc => ?_) (fun hc => ?_) <;> try (exfalso; omega))
| refine wE ?_)
          all_goals try (exfalso; first | omega | (simp only [decide_eq_false_iff_not, decide_eq_true_eq] at *; omega))
          exact zT (k + 1) (by omega) (by omega) aI ⟨by rw [hks]; rfl, rfl, trivial⟩ (zB rfl (zM _))
        | false =>
          rw [hby] at h1 hks
          rw [Bool.not_false, Bool.and_true] at hks
          repeat' (first
| refine wO ?_
| (refine o_go rfl ?_; (first
| refine p_p (zN rfl rfl rfl (by omega) rk (by exact rfl)) ?_
| refine p_p (zG rfl rfl aB (h1)) ?_
| refine wS ?_); refine ⟨_, aA, ?_⟩)
| (refine o_s rfl ?_; refine ⟨_, aA, ?_⟩)
| (refine o_splitN rfl rfl rfl (fun hc => ?_) (fun hc => ?_) <;> dsimp only [List.set_cons_zero, List.set_cons_succ])
| (refine zK rfl (fun hc => ?_) (fun hc => ?_) <;> try (exfalso; omega))
| refine wE ?_)
          all_goals try (exfalso; first | omega | (simp only [decide_eq_false_iff_not, decide_eq_true_eq] at *; omega))
          exact zT (k + 1) (by omega) (by omega) aI ⟨by rw [hks]; rfl, rfl, trivial⟩ (zB rfl (zM _))
    · rw [show k = W.length by omega]
      have hX : extK W by_ i W.length = extX W by_ i := rfl
      rw [hX]
      have h2 := iclone_c (W.getD i []) (hW _ mi)
      cases hx : extX W by_ i with
      | true =>
        rw [hx, if_pos rfl] at hsn
        repeat' (first
| refine wO ?_
| (refine o_go rfl ?_; (first
| refine p_p (zG rfl rfl aB (h2)) ?_
| refine p_e (by kernel_rfl) (e_append rfl rfl rfl rfl rfl rfl (one_one rfl) rfl (by rw [hll, n_len_c, n_len_n]; omega) (by rw [hll, n_len_c, n_len_n]; omega)) ?_
| refine wS ?_
| refine p_p (ps_lit1 rfl rfl (by rfl) (by rfl)) ?_); refine ⟨_, aA, ?_⟩)
| (refine zK rfl (fun hc => ?_) (fun hc => ?_) <;> try (exfalso; omega))
| refine wE ?_)
        all_goals try (exfalso; omega)
        exact zT (K := fun _ _ => True) (i + 1) (by omega) (by omega) aI ⟨rfl, rfl, trivial⟩ (zB (by rw [hsn, List.map_append]; rfl) (zM _))
      | false =>
        rw [hx, if_neg Bool.false_ne_true, List.append_nil] at hsn
        repeat' (first
| refine wO ?_
| (refine o_go rfl ?_; (first
| refine wS ?_); refine ⟨_, aA, ?_⟩)
| (refine zK rfl (fun hc => ?_) (fun hc => ?_) <;> try (exfalso; omega))
| refine wE ?_)
        all_goals try (exfalso; omega)
        exact zT (K := fun _ _ => True) (i + 1) (by omega) (by omega) aI ⟨rfl, rfl, trivial⟩ (zB (by rw [hsn]) (zM _))
  · rw [show i = W.length by omega]
    repeat' (first
| refine wO ?_
| (refine o_go rfl ?_; (first
| refine wS ?_); refine ⟨_, aA, ?_⟩)
| (refine zK rfl (fun hc => ?_) (fun hc => ?_) <;> try (exfalso; omega))
| refine kr1 ?_
| refine krS rfl ?_
| refine wE ?_)
    all_goals first | rfl | (exfalso; omega)
theorem icov1_c (n : Nat) (r s : List Int) (hn : n ≤ 1000) (hr : Pt n r) (hs : Pt n s) : PCalls Tryz.prog 248 [ints r, ints s] (B (fiB n s r)) := by
  refine pcalls1 Tryz.func248 rfl Tryz.ntmps248 rfl ?_
  refine wF ?_
  have h1 := ifiner_c n s r hn hs hr.len
  repeat' (first
| refine wO ?_
| (refine o_go rfl ?_; (first
| refine p_p (zG rfl rfl aB (h1)) ?_
| refine wS ?_); refine ⟨_, aA, ?_⟩)
| refine kr1 ?_
| refine krB rfl ?_
| refine wE ?_)
  all_goals rfl
theorem abvP_take (n : Nat) {V : List (List Int)} {p : List Int} {i : Nat} (hi : i < V.length) : abvP n (V.take (i + 1)) p = abvP n (V.take i) p ++ if (fiB n p (V.getD i []) && !decide (p = V.getD i [])) then [V.getD i []] else [] := by
  unfold abvP
  rw [take_snoc [] hi, List.filter_append]
  congr 1
  rw [List.filter_cons, List.filter_nil]
theorem icovP_c (n : Nat) (V : List (List Int)) (p : List Int) (hn : n ≤ 1000) (hl : V.length ≤ 1000000) (hV : ∀ q ∈ V, Pt n q) (hp : Pt n p) : PCalls Tryz.prog 217 [intss V, ints p] (intss (covP6 n V p)) := by
  refine pcalls1 Tryz.func217 rfl Tryz.ntmps217 rfl ?_
  refine wF ?_
  repeat' (first
| refine wO ?_
| (refine o_go rfl ?_; (first
| refine p_e rfl (e_lit0T rfl (by decide)) ?_
| refine wS ?_); refine ⟨_, aA, ?_⟩))
  refine g_loopF (α := Nat) [8] (fun i => [(5, .hp 0), (11, I (i : Int))]) (fun i => [.arr true 1 27 ((abvP n (V.take i) p).map ints)]) (fun i => i ≤ V.length) (fun i => V.length - i) 0 aF (Nat.zero_le _) ⟨rfl, rfl, trivial⟩ rfl ?_
  rintro i hi
  dsimp only [zZ, List.set_cons_zero, List.set_cons_succ]
  have hel : (abvP n (V.take i) p).length ≤ i := Nat.le_trans (List.length_filter_le _ _) (by simp; omega)
  have hll : ((abvP n (V.take i) p).map ints).length = (abvP n (V.take i) p).length := List.length_map ..
  by_cases hil : i < V.length
  · have ri := rows_at hil
    have hq := hV _ (rows_mem hil)
    have h1 := ifiner_c n p (V.getD i []) hn hp hq.len
    have h2 := gisame_c p (V.getD i []) (by rw [hp.len]; omega)
    have hsn := abvP_take n (p := p) hil
    cases hf : fiB n p (V.getD i []) with
    | false =>
      rw [hf] at h1 hsn
      rw [Bool.false_and, if_neg Bool.false_ne_true, List.append_nil] at hsn
      repeat' (first
| refine wO ?_
| (refine o_go rfl ?_; (first
| refine p_p (zN rfl rfl rfl (by omega) ri (by exact rfl)) ?_
| refine p_p (zG rfl rfl aB (h1)) ?_
| refine wS ?_); refine ⟨_, aA, ?_⟩)
| (refine o_s rfl ?_; refine ⟨_, aA, ?_⟩)
| (refine zK rfl (fun hc => ?_) (fun hc => ?_) <;> try (exfalso; omega))
| refine wE ?_)
      all_goals try (exfalso; omega)
      exact zT (i + 1) (by omega) (by omega) aI ⟨rfl, rfl, trivial⟩ (zB (by rw [hsn]) (zM _))
    | true =>
      rw [hf] at h1 hsn
      rw [Bool.true_and] at hsn
      by_cases he : p = V.getD i []
      · rw [decide_eq_true he] at h2 hsn
        rw [Bool.not_true, if_neg Bool.false_ne_true, List.append_nil] at hsn
        repeat' (first
| refine wO ?_
| (refine o_go rfl ?_; (first
| refine p_p (zN rfl rfl rfl (by omega) ri (by exact rfl)) ?_
| refine p_p (zG rfl rfl aB (h1)) ?_
| refine p_p (zG rfl rfl aB (h2)) ?_
| refine wS ?_); refine ⟨_, aA, ?_⟩)
| (refine zK rfl (fun hc => ?_) (fun hc => ?_) <;> try (exfalso; omega))
| refine wE ?_)
        all_goals try (exfalso; omega)
        exact zT (i + 1) (by omega) (by omega) aI ⟨rfl, rfl, trivial⟩ (zB (by rw [hsn]) (zM _))
      · rw [decide_eq_false he] at h2 hsn
        rw [Bool.not_false, if_pos rfl] at hsn
        repeat' (first
| refine wO ?_
| (refine o_go rfl ?_; (first
| refine p_p (zN rfl rfl rfl (by omega) ri (by exact rfl)) ?_
| refine p_p (zG rfl rfl aB (h1)) ?_
| refine p_p (zG rfl rfl aB (h2)) ?_
| refine p_e (by kernel_rfl) (e_append rfl rfl rfl rfl rfl rfl (one_one rfl) rfl (by rw [hll, n_len_c, n_len_n]; omega) (by rw [hll, n_len_c, n_len_n]; omega)) ?_
| refine wS ?_
| refine p_p (ps_lit1 rfl rfl (by rfl) (by rfl)) ?_); refine ⟨_, aA, ?_⟩)
| (refine zK rfl (fun hc => ?_) (fun hc => ?_) <;> try (exfalso; omega))
| refine wE ?_)
        all_goals try (exfalso; omega)
        exact zT (i + 1) (by omega) (by omega) aI ⟨rfl, rfl, trivial⟩ (zB (by rw [hsn, List.map_append]; rfl) (zM _))
  · rw [List.take_of_length_le (show V.length ≤ i by omega)] at hel hll ⊢
    have hA : ∀ q ∈ abvP n V p, Pt n q := fun q hq => hV q ((List.mem_filter.1 hq).1)
    have h3 := iext_c (abvP n V p) 248 (fun r o => fiB n o r) (by omega) (fun r hr => by rw [(hA r hr).len]; omega) fun r hr s hs => icov1_c n r s hn (hA r hr) (hA s hs)
    rw [ext_min] at h3
    refine g_freezeP 0 rfl ⟨_, aA, ?_⟩
    refine g_view1 5 ⟨_, aA, ?_⟩
    repeat' (first
| refine wO ?_
| (refine o_go rfl ?_; (first
| refine p_p (zG rfl rfl aB (h3)) ?_
| refine wS ?_); refine ⟨_, aA, ?_⟩)
| (refine zK rfl (fun hc => ?_) (fun hc => ?_) <;> try (exfalso; omega))
| refine kr1 ?_
| refine krS rfl ?_
| refine wE ?_)
    all_goals first | rfl | (exfalso; omega)
def irrC (n : Nat) (V : List (List Int)) (W : List (List Int)) : List (List Int) := W.filter fun p => decide ((covP6 n V p).length = 1)
theorem irrC_take (n : Nat) {V W : List (List Int)} {i : Nat} (hi : i < W.length) : irrC n V (W.take (i + 1)) = irrC n V (W.take i) ++ if decide ((covP6 n V (W.getD i [])).length = 1) then [W.getD i []] else [] := by
  unfold irrC
  rw [take_snoc [] hi, List.filter_append]
  congr 1
  rw [List.filter_cons, List.filter_nil]
theorem iirrC_c (n : Nat) (V : List (List Int)) (hn : n ≤ 1000) (hl : V.length ≤ 1000000) (hV : ∀ q ∈ V, Pt n q) : PCalls Tryz.prog 164 [intss V] (intss (irrC n V V)) := by
  refine pcalls1 Tryz.func164 rfl Tryz.ntmps164 rfl ?_
  refine wF ?_
  repeat' (first
| refine wO ?_
| (refine o_go rfl ?_; (first
| refine p_e rfl (e_lit0T rfl (by decide)) ?_
| refine wS ?_); refine ⟨_, aA, ?_⟩))
  refine g_loopF (α := Nat) [6] (fun i => [(3, .hp 0), (9, I (i : Int))]) (fun i => [.arr true 1 27 ((irrC n V (V.take i)).map ints)]) (fun i => i ≤ V.length) (fun i => V.length - i) 0 aF (Nat.zero_le _) ⟨rfl, rfl, trivial⟩ rfl ?_
  rintro i hi
  dsimp only [zZ, List.set_cons_zero, List.set_cons_succ]
  have hel : (irrC n V (V.take i)).length ≤ i := Nat.le_trans (List.length_filter_le _ _) (by simp; omega)
  have hll : ((irrC n V (V.take i)).map ints).length = (irrC n V (V.take i)).length := List.length_map ..
  by_cases hil : i < V.length
  · have ri := rows_at hil
    have hq := hV _ (rows_mem hil)
    have h1 := icovP_c n V (V.getD i []) hn hl hV hq
    have h2 := iclone_c (V.getD i []) (by rw [hq.len]; omega)
    have hsn := irrC_take n (V := V) hil
    generalize covP6 n V (V.getD i []) = K at *
    by_cases he : K.length = 1
    · rw [decide_eq_true he, if_pos rfl] at hsn
      repeat' (first
| refine wO ?_
| (refine o_go rfl ?_; (first
| refine p_p (zN rfl rfl rfl (by omega) ri (by exact rfl)) ?_
| refine p_p (zG rfl rfl aB (h1)) ?_
| refine p_p (zG rfl rfl aB (h2)) ?_
| refine p_e (by kernel_rfl) (e_append rfl rfl rfl rfl rfl rfl (one_one rfl) rfl (by rw [hll, n_len_c, n_len_n]; omega) (by rw [hll, n_len_c, n_len_n]; omega)) ?_
| refine wS ?_
| refine p_p (ps_lit1 rfl rfl (by rfl) (by rfl)) ?_); refine ⟨_, aA, ?_⟩)
| (refine zK rfl (fun hc => ?_) (fun hc => ?_) <;> try (exfalso; omega))
| refine wE ?_)
      all_goals try (exfalso; omega)
      exact zT (i + 1) (by omega) (by omega) aI ⟨rfl, rfl, trivial⟩ (zB (by rw [hsn, List.map_append]; rfl) (zM _))
    · rw [decide_eq_false he, if_neg Bool.false_ne_true, List.append_nil] at hsn
      repeat' (first
| refine wO ?_
| (refine o_go rfl ?_; (first
| refine p_p (zN rfl rfl rfl (by omega) ri (by exact rfl)) ?_
| refine p_p (zG rfl rfl aB (h1)) ?_
| refine wS ?_); refine ⟨_, aA, ?_⟩)
| (refine zK rfl (fun hc => ?_) (fun hc => ?_) <;> try (exfalso; omega))
| refine wE ?_)
      all_goals try (exfalso; omega)
      exact zT (i + 1) (by omega) (by omega) aI ⟨rfl, rfl, trivial⟩ (zB (by rw [hsn]) (zM _))
  · rw [List.take_of_length_le (show V.length ≤ i by omega)]
    repeat' (first
| refine wO ?_
| (refine o_go rfl ?_; (first
| refine wS ?_); refine ⟨_, aA, ?_⟩)
| (refine zK rfl (fun hc => ?_) (fun hc => ?_) <;> try (exfalso; omega))
| refine kr1 ?_
| refine krS rfl ?_
| refine wE ?_)
    all_goals first | rfl | (exfalso; omega)
theorem iirc_c (m : Nat) (ops : List OpD) (hs : szOk ops) (hb : acB m ops = true) : PCalls Tryz.prog 86 [algP m ops] (.tup [intss (irrC m (allL m ops) (allL m ops)), B true]) := by
  refine pcalls2 Tryz.func86 rfl Tryz.ntmps86 rfl ?_
  refine wF ?_
  have h1 := icongs_c m ops hs
  have hV : acV (m : Int) ops = allL m ops := by unfold acV; rw [hb, if_pos rfl, Int.toNat_natCast]
  have hg : algOk (m : Int) ops = true := by unfold acB at hb; rw [Bool.and_eq_true] at hb; exact hb.1
  obtain ⟨m', e, hm0, hm8, h4, ho⟩ := algOk_facts hg
  have hl : (allL m ops).length ≤ 200 := by unfold acB at hb; rw [Bool.and_eq_true, decide_eq_true_eq, Int.toNat_natCast] at hb; exact hb.2
  rw [hb, if_pos rfl, hV] at h1
  have h2 := iirrC_c m (allL m ops) (by omega) (by omega) fun q hq => (allL_mem.1 hq).1
  repeat' (first
| refine wO ?_
| (refine o_go rfl ?_; (first
| refine p_p (zG rfl rfl aB (h1)) ?_
| refine p_p (zG rfl rfl aB (h2)) ?_
| refine wS ?_
| refine p_p (ps_load_agg rfl rfl aK) ?_
| refine p_p (ps_box rfl rfl) ?_); refine ⟨_, aA, ?_⟩)
| refine kr2 ?_ ?_
| refine krB rfl ?_
| refine krS rfl ?_
| refine wE ?_)
  all_goals rfl
end Go.Proofs.YtbohjibbgppfaaaGreat
