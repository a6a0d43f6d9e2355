/- Plain: lists in order without repeats; pairs in order. -/
import Derived.Test.YtnjocjfhaahmfaaGreatJSt
import Derived.Test.YtnjocjfhaahmfaaGreatJKb
namespace Go.Proofs.YtnjocjfhaahmfaaGreat

def AscX (l : List (List Int)) : Prop := l.Pairwise fun a b => cmpX a b < 0
theorem ascX_mem_eq {V W : List (List Int)} (hV : AscX V) (hW : AscX W) (h : ∀ t, t ∈ V ↔ t ∈ W) : V = W := by
  have ne : ∀ {l : List (List Int)}, AscX l → l.Nodup := fun hl => hl.imp fun {a b} hab e => by rw [e, cmpX_self] at hab; omega
  exact List.Perm.eq_of_pairwise (fun a b _ _ h1 h2 => absurd (cmpX_trans h1 h2) (by rw [cmpX_self]; omega)) hV hW ((List.perm_ext_iff_of_nodup (ne hV) (ne hW)).2 h)
noncomputable def sortX (T : List (List Int)) : List (List Int) := T.mergeSort fun a b => !decide (cmpX b a < 0)
theorem sortX_perm (T : List (List Int)) : (sortX T).Perm T := List.mergeSort_perm _ _
theorem sortX_asc (T : List (List Int)) : (sortX T).Pairwise fun a b => ¬ cmpX b a < 0 := by
  have h := List.pairwise_mergeSort (le := fun a b : List Int => !decide (cmpX b a < 0)) (fun a b c h1 h2 => by
    simp only [Bool.not_eq_true', decide_eq_false_iff_not] at *
    intro h3
    by_cases e : cmpX a b = 0
    · rw [cmpX_eq e] at h3; exact h2 h3
    · have f := cmpX_flip a b
      exact h2 (cmpX_trans h3 (show cmpX a b < 0 by omega))) (fun a b => by
    have f := cmpX_flip a b
    by_cases h : cmpX b a < 0
    · simp only [h, decide_true, Bool.not_true, Bool.false_or, Bool.not_eq_true', decide_eq_false_iff_not]; omega
    · simp [h]) T
  exact h.imp fun {a b} hab => by simpa using hab
def difB (W : List (List Int)) (i : Nat) : Bool := i == 0 || !decide (W.getD (i - 1) [] = W.getD i [])
def difK (W : List (List Int)) (k : Nat) : List (List Int) := ((List.range k).filter (difB W)).map fun i => W.getD i []
def difL (W : List (List Int)) : List (List Int) := difK W W.length
theorem difK_succ (W : List (List Int)) (k : Nat) : difK W (k + 1) = difK W k ++ if difB W k then [W.getD k []] else [] := by
  unfold difK
  rw [List.range_succ, List.filter_append, List.map_append]
  congr 1
  rw [List.filter_cons, List.filter_nil]
  split <;> rfl
theorem difK_len (W : List (List Int)) (k : Nat) : (difK W k).length ≤ k := by
  unfold difK; rw [List.length_map]; exact Nat.le_trans (List.length_filter_le _ _) (by simp)
theorem srt_le {W : List (List Int)} (hW : W.Pairwise fun a b => ¬ cmpX b a < 0) {i j : Nat} (hij : i ≤ j) (hj : j < W.length) : ¬ cmpX (W.getD j []) (W.getD i []) < 0 := by
  rcases Nat.lt_or_ge i j with h | h
  · have := List.pairwise_iff_getElem.1 hW i j (by omega) hj h
    rw [List.getD_eq_getElem?_getD, List.getD_eq_getElem?_getD, List.getElem?_eq_getElem hj, List.getElem?_eq_getElem (by omega)]
    exact this
  · rw [show i = j by omega, cmpX_self]; omega
theorem difL_asc {W : List (List Int)} (hW : W.Pairwise fun a b => ¬ cmpX b a < 0) : AscX (difL W) := by
  unfold difL difK AscX
  refine List.pairwise_map.2 (List.Pairwise.imp_of_mem (R := fun a b => a < b) (fun {i j} hi hj hij => ?_) (List.pairwise_lt_range.sublist List.filter_sublist))
  obtain ⟨hjl, hjd⟩ := List.mem_filter.1 hj
  have hjl := List.mem_range.1 hjl
  have hne : W.getD (j - 1) [] ≠ W.getD j [] := by
    unfold difB at hjd
    simp only [Bool.or_eq_true, beq_iff_eq, Bool.not_eq_true', decide_eq_false_iff_not] at hjd
    exact hjd.resolve_left (by omega)
  have h1 := srt_le hW (show i ≤ j - 1 by omega) (by omega)
  have h2 := srt_le hW (show j - 1 ≤ j by omega) hjl
  have f1 := cmpX_flip (W.getD (j - 1) []) (W.getD j [])
  have h3 : cmpX (W.getD (j - 1) []) (W.getD j []) < 0 := by
    have : cmpX (W.getD (j - 1) []) (W.getD j []) ≠ 0 := fun e => hne (cmpX_eq e)
    omega
  by_cases e : cmpX (W.getD i []) (W.getD (j - 1) []) = 0
  · rw [cmpX_eq e]; exact h3
  · have f2 := cmpX_flip (W.getD (j - 1) []) (W.getD i [])
    exact cmpX_trans (show cmpX (W.getD i []) (W.getD (j - 1) []) < 0 by omega) h3
theorem difL_mem {W : List (List Int)} {t : List Int} : t ∈ difL W ↔ t ∈ W := by
  have key : ∀ k, k < W.length → W.getD k [] ∈ difL W := fun k => by
    induction k with
    | zero => intro h; exact List.mem_map.2 ⟨0, List.mem_filter.2 ⟨List.mem_range.2 h, rfl⟩, rfl⟩
    | succ k ih =>
      intro h
      by_cases e : W.getD k [] = W.getD (k + 1) []
      · rw [← e]; exact ih (by omega)
      · exact List.mem_map.2 ⟨k + 1, List.mem_filter.2 ⟨List.mem_range.2 h, by unfold difB; simpa using e⟩, rfl⟩
  constructor
  · intro h
    obtain ⟨i, hi, rfl⟩ := List.mem_map.1 h
    have hi := List.mem_range.1 (List.mem_filter.1 hi).1
    rw [List.getD_eq_getElem?_getD, List.getElem?_eq_getElem hi]
    exact List.getElem_mem _
  · intro h
    obtain ⟨i, hi, rfl⟩ := List.getElem_of_mem h
    have := key i hi
    rwa [List.getD_eq_getElem?_getD, List.getElem?_eq_getElem hi] at this
theorem dif_sort_mem {T : List (List Int)} {t : List Int} : t ∈ difL (sortX T) ↔ t ∈ T := by rw [difL_mem, (sortX_perm T).mem_iff]
theorem dif_sort_asc (T : List (List Int)) : AscX (difL (sortX T)) := difL_asc (sortX_asc T)
theorem dif_sort_eq {T V : List (List Int)} (hV : AscX V) (h : ∀ t, t ∈ T ↔ t ∈ V) : difL (sortX T) = V := ascX_mem_eq (dif_sort_asc T) hV fun t => by rw [dif_sort_mem, h]
/-! ### Pairs -/
def reR (R : Nat → Nat → Bool) (x k : Nat) : List (List Int) := ((List.range k).filter (R x)).map fun (y : Nat) => [(x : Int), (y : Int)]
def reP (n : Nat) (R : Nat → Nat → Bool) : Nat → List (List Int)
  | 0 => []
  | x + 1 => reP n R x ++ reR R x n
def reL (n : Nat) (R : Nat → Nat → Bool) : List (List Int) := reP n R n
theorem reR_succ (R : Nat → Nat → Bool) (x k : Nat) : reR R x (k + 1) = reR R x k ++ if R x k then [[(x : Int), (k : Int)]] else [] := by
  unfold reR
  rw [List.range_succ, List.filter_append, List.map_append]
  congr 1
  rw [List.filter_cons, List.filter_nil]
  split <;> rfl
theorem reR_len (R : Nat → Nat → Bool) (x k : Nat) : (reR R x k).length ≤ k := by
  unfold reR; rw [List.length_map]; exact Nat.le_trans (List.length_filter_le _ _) (by simp)
theorem reP_len (n : Nat) (R : Nat → Nat → Bool) : ∀ x, (reP n R x).length ≤ x * n
  | 0 => by simp [reP]
  | x + 1 => by
    have h1 := reP_len n R x
    have h2 := reR_len R x n
    show (reP n R x ++ reR R x n).length ≤ _
    rw [List.length_append, Nat.add_mul]; omega
theorem reR_mem {R : Nat → Nat → Bool} {x k : Nat} {t : List Int} : t ∈ reR R x k ↔ ∃ y, y < k ∧ R x y = true ∧ t = [(x : Int), (y : Int)] := by
  unfold reR
  rw [List.mem_map]
  constructor
  · rintro ⟨y, hy, rfl⟩
    obtain ⟨h1, h2⟩ := List.mem_filter.1 hy
    exact ⟨y, List.mem_range.1 h1, h2, rfl⟩
  · rintro ⟨y, h1, h2, rfl⟩
    exact ⟨y, List.mem_filter.2 ⟨List.mem_range.2 h1, h2⟩, rfl⟩
theorem reP_mem {n : Nat} {R : Nat → Nat → Bool} {t : List Int} : ∀ {k : Nat}, t ∈ reP n R k ↔ ∃ x y, x < k ∧ y < n ∧ R x y = true ∧ t = [(x : Int), (y : Int)]
  | 0 => by simp [reP]
  | k + 1 => by
    show t ∈ reP n R k ++ reR R k n ↔ _
    rw [List.mem_append, reP_mem, reR_mem]
    constructor
    · rintro (⟨x, y, h1, h2, h3, h4⟩ | ⟨y, h2, h3, h4⟩)
      · exact ⟨x, y, by omega, h2, h3, h4⟩
      · exact ⟨k, y, by omega, h2, h3, h4⟩
    · rintro ⟨x, y, h1, h2, h3, h4⟩
      rcases Nat.lt_or_ge x k with h | h
      · exact .inl ⟨x, y, h, h2, h3, h4⟩
      · obtain rfl : x = k := by omega
        exact .inr ⟨y, h2, h3, h4⟩
theorem cmpX_pair {a b c d : Int} : cmpX [a, b] [c, d] < 0 ↔ a < c ∨ (a = c ∧ b < d) := by
  simp only [cmpX]
  by_cases h : a = c
  · subst h
    rw [if_pos rfl]
    by_cases h2 : b = d
    · subst h2; rw [if_pos rfl]; omega
    · rw [if_neg h2]; split <;> omega
  · rw [if_neg h]; split <;> omega
theorem reR_asc (R : Nat → Nat → Bool) (x k : Nat) : AscX (reR R x k) := by
  unfold reR AscX
  exact List.pairwise_map.2 ((List.pairwise_lt_range.sublist List.filter_sublist).imp fun {a b} h => cmpX_pair.2 (.inr ⟨rfl, by omega⟩))
theorem reP_asc (n : Nat) (R : Nat → Nat → Bool) : ∀ k, AscX (reP n R k)
  | 0 => List.Pairwise.nil
  | k + 1 => List.pairwise_append.2 ⟨reP_asc n R k, reR_asc R k n, fun a ha b hb => by
    obtain ⟨x, y, h1, -, -, rfl⟩ := reP_mem.1 ha
    obtain ⟨z, -, -, rfl⟩ := reR_mem.1 hb
    exact cmpX_pair.2 (.inl (by omega))⟩
theorem reL_asc (n : Nat) (R : Nat → Nat → Bool) : AscX (reL n R) := reP_asc n R n
theorem reL_len (n : Nat) (R : Nat → Nat → Bool) : (reL n R).length ≤ n * n := reP_len n R n
theorem reL_mem {n : Nat} {R : Nat → Nat → Bool} {t : List Int} : t ∈ reL n R ↔ ∃ x y, x < n ∧ y < n ∧ R x y = true ∧ t = [(x : Int), (y : Int)] := reP_mem
theorem reL_pair {n : Nat} {R : Nat → Nat → Bool} {x y : Nat} (hx : x < n) (hy : y < n) : [(x : Int), (y : Int)] ∈ reL n R ↔ R x y = true := by
  rw [reL_mem]
  constructor
  · rintro ⟨a, b, -, -, h, e⟩
    injection e with e1 e2
    injection e2 with e2
    have e1 : x = a := by omega
    have e2 : y = b := by omega
    rw [e1, e2]; exact h
  · intro h; exact ⟨x, y, hx, hy, h, rfl⟩
theorem reL_congr {n : Nat} {R S : Nat → Nat → Bool} (h : ∀ x y, x < n → y < n → R x y = S x y) : reL n R = reL n S := ascX_mem_eq (reL_asc n R) (reL_asc n S) fun t => by
  rw [reL_mem, reL_mem]
  constructor <;> rintro ⟨x, y, h1, h2, h3, h4⟩
  · exact ⟨x, y, h1, h2, by rw [← h x y h1 h2]; exact h3, h4⟩
  · exact ⟨x, y, h1, h2, by rw [h x y h1 h2]; exact h3, h4⟩
theorem reL_iff {n : Nat} {R S : Nat → Nat → Bool} : reL n R = reL n S ↔ ∀ x y, x < n → y < n → R x y = S x y := by
  refine ⟨fun h x y hx hy => ?_, reL_congr⟩
  rw [Bool.eq_iff_iff, ← reL_pair hx hy, ← reL_pair hx hy, h]
theorem reR_sub {R S : Nat → Nat → Bool} {x k : Nat} (h : ∀ y, y < k → R x y = true → S x y = true) : (reR R x k).Sublist (reR S x k) := by
  unfold reR
  refine List.Sublist.map _ ?_
  have e : (List.range k).filter (R x) = ((List.range k).filter (S x)).filter (R x) := by
    rw [List.filter_filter]
    refine List.filter_congr fun y hy => ?_
    have := h y (List.mem_range.1 hy)
    cases hr : R x y with
    | false => rfl
    | true => rw [this hr]; rfl
  rw [e]
  exact List.filter_sublist
theorem reP_sub {n : Nat} {R S : Nat → Nat → Bool} (h : ∀ x y, x < n → y < n → R x y = true → S x y = true) : ∀ k, k ≤ n → (reP n R k).Sublist (reP n S k)
  | 0, _ => List.Sublist.refl _
  | k + 1, hk => (reP_sub h k (by omega)).append (reR_sub fun y hy => h k y (by omega) hy)
theorem reL_sub {n : Nat} {R S : Nat → Nat → Bool} (h : ∀ x y, x < n → y < n → R x y = true → S x y = true) : (reL n R).length ≤ (reL n S).length ∧ ((reL n R).length = (reL n S).length → reL n R = reL n S) :=
  ⟨(reP_sub h n (Nat.le_refl _)).length_le, fun e => (reP_sub h n (Nat.le_refl _)).eq_of_length e⟩
end Go.Proofs.YtnjocjfhaahmfaaGreat
/- Plain: lists of pairs and of congruences that grow until nothing is new. -/
namespace Go.Proofs.YtnjocjfhaahmfaaGreat
open Go Go.Pv Go.Proofs

def kyP (n s t : Nat) : Nat := min s t * n + max s t
theorem kyP_symm (n s t : Nat) : kyP n s t = kyP n t s := by unfold kyP; rw [Nat.min_comm, Nat.max_comm]
theorem kyP_lt {n s t : Nat} (hs : s < n) (ht : t < n) : kyP n s t < n * n := by
  unfold kyP
  have h1 : (min s t + 1) * n ≤ n * n := Nat.mul_le_mul_right _ (by omega)
  rw [Nat.add_mul, Nat.one_mul] at h1
  omega
def hasP (n : Nat) (L : List (Nat × Nat)) (s t : Nat) : Bool := (L.map fun pr => kyP n pr.1 pr.2).contains (kyP n s t)
theorem hasP_symm (n : Nat) (L : List (Nat × Nat)) (s t : Nat) : hasP n L s t = hasP n L t s := by unfold hasP; rw [kyP_symm]
theorem hasP_app {n : Nat} {L : List (Nat × Nat)} {s t u v : Nat} : hasP n (L ++ [(u, v)]) s t = (hasP n L s t || kyP n s t == kyP n u v) := by
  unfold hasP
  rw [List.map_append, List.contains_eq_mem, List.contains_eq_mem, Bool.eq_iff_iff]
  simp only [List.map_cons, List.map_nil, List.mem_append, List.mem_singleton, decide_eq_true_eq, Bool.or_eq_true, beq_iff_eq]
theorem hasP_mono {n : Nat} {L : List (Nat × Nat)} {s t : Nat} (l : List (Nat × Nat)) (h : hasP n L s t = true) : hasP n (L ++ l) s t = true := by
  unfold hasP at *
  rw [List.contains_eq_mem, decide_eq_true_eq] at *
  rw [List.map_append, List.mem_append]; exact .inl h
theorem mem_hasP {n : Nat} {L : List (Nat × Nat)} {s t : Nat} (h : (s, t) ∈ L) : hasP n L s t = true := by
  unfold hasP
  rw [List.contains_eq_mem, decide_eq_true_eq]
  exact List.mem_map.2 ⟨_, h, rfl⟩
structure TInv (n : Nat) (ops : List OpD) (x y : Nat) (L : List (Nat × Nat)) : Prop where
  nd : (L.map fun pr => kyP n pr.1 pr.2).Nodup
  ok : ∀ pr ∈ L, TrP n ops x y pr.1 pr.2
  mem : hasP n L x y = true
theorem TInv.lt {n : Nat} {ops : List OpD} {x y : Nat} {L : List (Nat × Nat)} (h : TInv n ops x y L) (ho : opsIn n ops) (hx : x < n) (hy : y < n) : ∀ pr ∈ L, pr.1 < n ∧ pr.2 < n := fun pr hp => (h.ok pr hp).lt ho hx hy
theorem TInv.len {n : Nat} {ops : List OpD} {x y : Nat} {L : List (Nat × Nat)} (h : TInv n ops x y L) (ho : opsIn n ops) (hx : x < n) (hy : y < n) : L.length ≤ n * n := by
  have := nodup_lt_len h.nd (n := n * n) fun k hk => by
    obtain ⟨pr, hp, rfl⟩ := List.mem_map.1 hk
    exact kyP_lt (h.lt ho hx hy pr hp).1 (h.lt ho hx hy pr hp).2
  rwa [List.length_map] at this
theorem TInv.start {n : Nat} {ops : List OpD} {x y u v : Nat} (h : (u, v) = (x, y) ∨ (u, v) = (y, x)) : TInv n ops x y [(u, v)] where
  nd := by simp
  ok := fun pr hp => by
    rw [List.mem_singleton] at hp
    subst hp
    rcases h with h | h <;> cases h
    · exact .base
    · exact .sym .base
  mem := by
    rcases h with h | h <;> cases h
    · exact mem_hasP (List.mem_singleton.2 rfl)
    · rw [hasP_symm]; exact mem_hasP (List.mem_singleton.2 rfl)
theorem TInv.add {n : Nat} {ops : List OpD} {x y u v a b : Nat} {L : List (Nat × Nat)} (h : TInv n ops x y L) (ht : TrP n ops x y u v) (hw : (a, b) = (u, v) ∨ (a, b) = (v, u)) (hno : hasP n L u v = false) : TInv n ops x y (L ++ [(a, b)]) ∧ hasP n (L ++ [(a, b)]) u v = true := by
  have hk : kyP n a b = kyP n u v := by
    rcases hw with hw | hw <;> cases hw
    · rfl
    · exact kyP_symm ..
  refine ⟨⟨?_, fun pr hp => ?_, hasP_mono _ h.mem⟩, by rw [hasP_app, hk]; simp⟩
  · rw [List.map_append, List.nodup_append]
    refine ⟨h.nd, by simp, fun k hk' m hm => ?_⟩
    simp only [List.map_cons, List.map_nil, List.mem_singleton] at hm
    subst hm
    intro e
    unfold hasP at hno
    rw [List.contains_eq_mem, decide_eq_false_iff_not] at hno
    exact hno (by rw [← hk, ← e]; exact hk')
  · rcases List.mem_append.1 hp with hp | hp
    · exact h.ok pr hp
    · rw [List.mem_singleton] at hp
      subst hp
      rcases hw with hw | hw <;> cases hw
      · exact ht
      · exact .sym ht
def Ti (n : Nat) (L : List (Nat × Nat)) (f : OpD) (s t k j : Nat) : Prop := digN n j k = s → hasP n L (bk f.tb j) (bk f.tb (subN n j k t)) = true
theorem Ti.mono {n : Nat} {L : List (Nat × Nat)} {f : OpD} {s t k j : Nat} (l : List (Nat × Nat)) (h : Ti n L f s t k j) : Ti n (L ++ l) f s t k j := fun hd => hasP_mono l (h hd)
def ClP (n : Nat) (ops : List OpD) (L : List (Nat × Nat)) (pr : Nat × Nat) : Prop := ∀ f ∈ ops, ∀ k, k < f.ar.toNat → ∀ j, j < n ^ f.ar.toNat → Ti n L f pr.1 pr.2 k j
theorem ClP.mono {n : Nat} {ops : List OpD} {L : List (Nat × Nat)} {pr : Nat × Nat} (l : List (Nat × Nat)) (h : ClP n ops L pr) : ClP n ops (L ++ l) pr := fun f hf k hk j hj => (h f hf k hk j hj).mono l
/-! ### All congruences, by joins with principal ones -/
def PrQ (n : Nat) (ops : List OpD) (Q : List (List Int)) : Prop := (∀ q ∈ Q, ∃ x y, x < y ∧ y < n ∧ q = cgL n ops x y) ∧ ∀ x y, x < y → y < n → cgL n ops x y ∈ Q
structure JInv (n : Nat) (ops : List OpD) (L : List (List Int)) : Prop where
  nd : L.Nodup
  ok : ∀ q ∈ L, Pt n q ∧ Cong n ops q
  id : idL n ∈ L
theorem JInv.start (n : Nat) (ops : List OpD) : JInv n ops [idL n] where
  nd := by simp
  ok := fun q hq => by rw [List.mem_singleton] at hq; subst hq; exact ⟨idL_pt n, idL_cong ops⟩
  id := by simp
theorem PrQ.cong {n : Nat} {ops : List OpD} {Q : List (List Int)} (h : PrQ n ops Q) (ho : opsIn n ops) {q : List Int} (hq : q ∈ Q) : Pt n q ∧ Cong n ops q := by
  obtain ⟨x, y, h1, h2, rfl⟩ := h.1 q hq
  have hg := cg_lst ho (show x < n by omega) h2
  exact ⟨hg.pt, hg.cong⟩
theorem JInv.join {n : Nat} {ops : List OpD} {L Q : List (List Int)} (h : JInv n ops L) (hQ : PrQ n ops Q) (ho : opsIn n ops) {p q : List Int} (hp : p ∈ L) (hq : q ∈ Q) : Pt n (joinP n p q) ∧ Cong n ops (joinP n p q) :=
  ⟨join_pt (h.ok p hp).1 (hQ.cong ho hq).1, join_cong ho (h.ok p hp).1 (hQ.cong ho hq).1 (h.ok p hp).2 (hQ.cong ho hq).2⟩
theorem JInv.add {n : Nat} {ops : List OpD} {L : List (List Int)} (h : JInv n ops L) {q : List Int} (hq : Pt n q ∧ Cong n ops q) (hno : q ∉ L) : JInv n ops (L ++ [q]) where
  nd := by
    rw [List.nodup_append]
    refine ⟨h.nd, by simp, fun a ha b hb e => hno ?_⟩
    rw [List.mem_singleton] at hb
    rw [← hb, ← e]; exact ha
  ok := fun r hr => by
    rcases List.mem_append.1 hr with hr | hr
    · exact h.ok r hr
    · rw [List.mem_singleton] at hr; subst hr; exact hq
  id := List.mem_append.2 (.inl h.id)
theorem j_all {n : Nat} {ops : List OpD} {L Q : List (List Int)} (h : JInv n ops L) (hQ : PrQ n ops Q) (ho : opsIn n ops) (hc : ∀ p ∈ L, ∀ q ∈ Q, joinP n p q ∈ L) (q : List Int) : q ∈ L ↔ Pt n q ∧ Cong n ops q := by
  refine ⟨h.ok q, fun ⟨hp, hq⟩ => ?_⟩
  have hj := cong_joinedC ho hp hq
  revert hp hq
  induction hj with
  | id => exact fun _ _ => h.id
  | join p x y hx hy hj' ih => exact fun _ _ => hc p (ih (joinedC_cong ho hj') (joinedC_cong ho hj').1 (joinedC_cong ho hj').2) _ (hQ.2 x y hx hy)
/-! ### A list in order, and one put into it -/
def posC (n : Nat) (p : List Int) : List (List Int) → Nat
  | [] => 0
  | a :: l => if cmpC n a p < 0 then posC n p l + 1 else 0
theorem posC_le (n : Nat) (p : List Int) : ∀ l, posC n p l ≤ l.length
  | [] => Nat.le_refl _
  | a :: l => by unfold posC; split <;> simp [posC_le n p l]
theorem posC_eq (n : Nat) (p : List Int) : ∀ (l : List (List Int)) (k : Nat), k ≤ l.length → (∀ i, i < k → cmpC n (l.getD i []) p < 0) → (k < l.length → ¬ cmpC n (l.getD k []) p < 0) → posC n p l = k
  | [], k, h, _, _ => by simp at h; simp [posC, h]
  | a :: l, k, h, h1, h2 => by
    unfold posC
    cases k with
    | zero => exact if_neg (h2 (by simp))
    | succ k =>
      rw [if_pos (show cmpC n a p < 0 from h1 0 (by omega)), posC_eq n p l k (by simpa using h) (fun i hi => h1 (i + 1) (by omega)) (fun hk => h2 (by simpa using hk))]
def putC (n : Nat) (l : List (List Int)) (p : List Int) : List (List Int) := if posC n p l < l.length ∧ l.getD (posC n p l) [] = p then l else l.take (posC n p l) ++ p :: l.drop (posC n p l)
theorem putC_cons {n : Nat} {a : List Int} {l : List (List Int)} {p : List Int} : putC n (a :: l) p = if cmpC n a p < 0 then a :: putC n l p else if a = p then a :: l else p :: a :: l := by
  by_cases h : cmpC n a p < 0
  · have hp : posC n p (a :: l) = posC n p l + 1 := if_pos h
    unfold putC
    rw [if_pos h, hp]
    simp only [List.length_cons, Nat.add_lt_add_iff_right, List.getD_cons_succ, List.take_succ_cons, List.drop_succ_cons]
    split <;> rfl
  · have hp : posC n p (a :: l) = 0 := if_neg h
    unfold putC
    rw [if_neg h, hp]
    simp
theorem putC_mem {n : Nat} : ∀ {l : List (List Int)} {p q : List Int}, q ∈ putC n l p ↔ q ∈ l ∨ q = p
  | [], p, q => by simp [putC, posC]
  | a :: l, p, q => by
    rw [putC_cons]
    split
    · rw [List.mem_cons, putC_mem, List.mem_cons, or_assoc]
    · split
      · next h =>
        subst h
        simp only [List.mem_cons]
        constructor
        · exact .inl
        · rintro (h | h)
          · exact h
          · exact .inl h
      · simp only [List.mem_cons]; constructor
        · rintro (h | h)
          · exact .inr h
          · exact .inl h
        · rintro (h | h)
          · exact .inr h
          · exact .inl h
theorem putC_asc {n : Nat} : ∀ {l : List (List Int)} {p : List Int}, AscC n l → AscC n (putC n l p)
  | [], p, _ => by simp [putC, posC, AscC]
  | a :: l, p, h => by
    obtain ⟨h1, h2⟩ := List.pairwise_cons.1 h
    rw [putC_cons]
    split
    · next hl =>
      refine List.pairwise_cons.2 ⟨fun b hb => ?_, putC_asc h2⟩
      rcases putC_mem.1 hb with hb | hb
      · exact h1 b hb
      · rw [hb]; exact hl
    · next hl =>
      split
      · exact h
      · next hne =>
        have hpa : cmpC n p a < 0 := by
          have h0 : cmpC n a p ≠ 0 := fun e => hne (cmpC_eq e)
          rw [cmpC_flip]; omega
        refine List.pairwise_cons.2 ⟨fun b hb => ?_, h⟩
        rcases List.mem_cons.1 hb with rfl | hb
        · exact hpa
        · exact cmpC_trans hpa (h1 b hb)
theorem putC_same {n : Nat} : ∀ {l : List (List Int)} {p : List Int}, AscC n l → p ∈ l → putC n l p = l
  | a :: l, p, h, hp => by
    obtain ⟨h1, h2⟩ := List.pairwise_cons.1 h
    rw [putC_cons]
    rcases List.mem_cons.1 hp with rfl | hp
    · rw [if_neg (by rw [cmpC_self]; omega), if_pos rfl]
    · rw [if_pos (h1 p hp), putC_same h2 hp]
theorem putC_len {n : Nat} {l : List (List Int)} {p : List Int} (hp : p ∉ l) : (putC n l p).length = l.length + 1 := by
  unfold putC
  rw [if_neg]
  · have := posC_le n p l
    simp [List.length_take, List.length_drop]; omega
  · rintro ⟨h1, h2⟩
    refine hp ?_
    rw [← h2, List.getD_eq_getElem?_getD, List.getElem?_eq_getElem h1]
    exact List.getElem_mem _
theorem ascC_nodup {n : Nat} {l : List (List Int)} (h : AscC n l) : l.Nodup := List.Pairwise.imp (fun {a b} h e => by rw [e, cmpC_self] at h; omega) h
end Go.Proofs.YtnjocjfhaahmfaaGreat
