/- Walks: the shortest chain, as the program finds it. -/
import Derived.Test.YtlgfniaakjchgaaGreatLGl
import Derived.Test.YtlgfniaakjchgaaGreatLNc
namespace Go.Proofs.YtlgfniaakjchgaaGreat
open Go Go.Pv Go.Proofs
set_option maxHeartbeats 32000000
set_option maxRecDepth 100000
attribute [local bitvec_to_nat] St.put St.setObj St.ev killP killA killP1 killH mapHO renP renA ren1 killG killGA killG1 krowP krowA krow1 lendP lendA lend1 unv pinP pin1 elemsM viewM viewN viewV n_set_z n_set_s n_map_c n_map_n getD_z getD_s n_toNat n_cond_t n_cond_f n_len_c n_len_n n_app_c n_app_n n_take_s n_take_z n_drop_s n_drop_z n_get_z n_get_s view viewA view1 elems Nat.zero_add Nat.add_zero Bool.not_true Bool.not_false Nat.one_ne_zero Nat.mul_one
attribute [local bitvec_to_nat] posI optP lendM1 lendMA lendMP killM1 killMA killMP hasI getO backM1 backMA backMP putL inpM pinM1 pinMA pinMP

section
variable (N : Nat) (bg en : Nat → Bool) (fo : Nat → Nat → Nat → Bool)
def rch : Nat → Nat → Nat → Bool
  | 0, _, f => en f
  | k + 1, i, f => (List.range N).any fun g => rch k (i + 1) g && fo i f g
def rowR (s i : Nat) : List Bool := (List.range N).map (rch N en fo (s - 1 - i) i)
def prC (s i : Nat) (c : List Nat) (f : Nat) : Bool := rch N en fo (s - 1 - i) i f && (bif i == 0 then bg f else fo (i - 1) (c.getD (i - 1) 0) f)
def chq (s : Nat) : Nat → Option (List Nat)
  | 0 => some []
  | i + 1 => (chq s i).bind fun c => ((List.range N).find? (prC N bg en fo s i c)).map fun f => c ++ [f]
def tryS (s : Nat) : Option (List Nat) := chq N bg en fo s s
def shV (least most : Nat) : Option (List Nat) := (List.range (most + 1 - least)).findSome? fun t => tryS N bg en fo (least + t)
theorem rowR_len (s i : Nat) : (rowR N en fo s i).length = N := by simp [rowR]
theorem chq_len {s : Nat} : ∀ {i : Nat} {c : List Nat}, chq N bg en fo s i = some c → c.length = i ∧ ∀ f ∈ c, f < N
  | 0, c, h => by cases h; simp
  | i + 1, c, h => by
    rw [chq] at h
    obtain ⟨d, h1, h2⟩ := Option.bind_eq_some_iff.1 h
    obtain ⟨f, h3, rfl⟩ := Option.map_eq_some_iff.1 h2
    obtain ⟨e1, e2⟩ := chq_len h1
    refine ⟨by simp [e1], fun g hg => ?_⟩
    rcases List.mem_append.1 hg with h' | h'
    · exact e2 g h'
    · rw [List.mem_singleton] at h'
      rw [h']
      exact List.mem_range.1 (List.mem_of_find?_eq_some h3)
theorem chq_none {s : Nat} : ∀ {i j : Nat}, chq N bg en fo s i = none → i ≤ j → chq N bg en fo s j = none
  | i, 0, h, hj => by rw [show (0 : Nat) = i by omega]; exact h
  | i, j + 1, h, hj => by
    rcases Nat.lt_or_ge j i with h' | h'
    · rw [show j + 1 = i by omega]; exact h
    · rw [chq, chq_none h h']; rfl
def cellsJ (s j : Nat) : List PV := (List.range s).map fun x => bif decide (x + j < s) then nilV else bools (rowR N en fo s x)
theorem cellsJ_len (s j : Nat) : (cellsJ N en fo s j).length = s := by simp [cellsJ]
theorem cellsJ_at {s j x : Nat} (hx : x < s) : (cellsJ N en fo s j)[x]? = some (bif decide (x + j < s) then nilV else bools (rowR N en fo s x)) := by
  unfold cellsJ
  rw [List.getElem?_map, List.getElem?_range hx]; rfl
theorem cellsJ_map {s j : Nat} {φ : PV → PV} (h1 : φ nilV = nilV) (h2 : ∀ l : List PV, φ (.sl 1 none l) = .sl 1 none l) : (cellsJ N en fo s j).map φ = cellsJ N en fo s j := by
  unfold cellsJ
  rw [List.map_map]
  refine List.map_congr_left fun x _ => ?_
  simp only [Function.comp]
  cases decide (x + j < s)
  · exact h2 _
  · exact h1
theorem cellsJ_zero (s : Nat) : List.replicate s (PV.val (Value.slice none 0 0)) = cellsJ N en fo s 0 := by
  refine List.ext_getElem? fun x => ?_
  rcases Nat.lt_or_ge x s with hx | hx
  · rw [cellsJ_at N en fo hx, List.getElem?_replicate, if_pos hx, decide_eq_true (by omega)]; rfl
  · rw [List.getElem?_eq_none (by simp; exact hx), List.getElem?_eq_none (by rw [cellsJ_len]; exact hx)]
theorem cellsJ_next {s j : Nat} (hj : j < s) : (cellsJ N en fo s j).set (s - 1 - j) (bools (rowR N en fo s (s - 1 - j))) = cellsJ N en fo s (j + 1) := by
  refine List.ext_getElem? fun x => ?_
  rcases Nat.lt_or_ge x s with hx | hx
  · rw [cellsJ_at N en fo hx]
    by_cases e : x = s - 1 - j
    · subst e
      rw [List.getElem?_set_self (by rw [cellsJ_len]; omega), decide_eq_false (by omega)]; rfl
    · rw [List.getElem?_set_ne (fun h => e h.symm), cellsJ_at N en fo hx]
      by_cases h : x + j < s
      · rw [decide_eq_true h, decide_eq_true (by omega)]
      · rw [decide_eq_false h, decide_eq_false (by omega)]
  · rw [List.getElem?_eq_none (by rw [List.length_set, cellsJ_len]; exact hx), List.getElem?_eq_none (by rw [cellsJ_len]; exact hx)]
theorem cells_view {s j i : Nat} {W : List PV} {H : List HO} (hj : j < s) (hi : i = s - 1 - j) (hW : W = (cellsJ N en fo s j).set i (.hp 1)) (h1 : view1 H (.hp 1) = bools (rowR N en fo s i)) : W.map (view1 H) = cellsJ N en fo s (j + 1) := by
  rw [hW, List.map_set, cellsJ_map N en fo rfl (fun _ => rfl), h1, hi, cellsJ_next N en fo hj]
end
theorem findSome_next {α : Type} {F : Nat → Option α} {t : Nat} (h1 : (List.range t).findSome? F = none) (h2 : F t = none) : (List.range (t + 1)).findSome? F = none := by
  rw [List.range_succ, List.findSome?_append, h1]
  simp [h2]
theorem findSome_at {α : Type} {F : Nat → Option α} {t K : Nat} {c : α} (h1 : (List.range t).findSome? F = none) (h2 : F t = some c) (h : t < K) : (List.range K).findSome? F = some c := by
  have h3 : List.range K = List.range t ++ (List.range (K - t)).map (t + ·) := by
    have := List.range_add (n := t) (m := K - t)
    rwa [show t + (K - t) = K by omega] at this
  obtain ⟨m, hm⟩ : ∃ m, K - t = m + 1 := ⟨K - t - 1, by omega⟩
  rw [h3, List.findSome?_append, h1, hm, List.range_succ_eq_map]
  simp [h2]
theorem fillB {A : List PV} {f N : Nat} {v x : PV} (hA : A.length = f) (hf : f < N) : (A ++ List.replicate (N - f) x).set f v = A ++ [v] ++ List.replicate (N - (f + 1)) x := by
  rw [List.set_append_right _ _ (by omega), hA, Nat.sub_self, show N - f = (N - (f + 1)) + 1 by omega, List.replicate_succ, List.set_cons_zero, List.append_assoc]; rfl
theorem find_next {p : Nat → Bool} {f : Nat} (h : ∀ g, g < f → p g = false) (hp : p f = false) : ∀ g, g < f + 1 → p g = false := fun g hg => by
  rcases Nat.lt_or_ge g f with h' | h'
  · exact h g h'
  · rw [show g = f by omega]; exact hp
theorem find_none {p : Nat → Bool} {N : Nat} (h : ∀ g, g < N → p g = false) : (List.range N).find? p = none := by
  rw [List.find?_eq_none]
  intro x hx
  rw [h x (List.mem_range.1 hx)]; decide
theorem find_at {p : Nat → Bool} {f N : Nat} (h : ∀ g, g < f → p g = false) (hp : p f = true) (hf : f < N) : (List.range N).find? p = some f := by
  have h3 : List.range N = List.range f ++ (List.range (N - f)).map (f + ·) := by
    have := List.range_add (n := f) (m := N - f)
    rwa [show f + (N - f) = N by omega] at this
  obtain ⟨m, hm⟩ : ∃ m, N - f = m + 1 := ⟨N - f - 1, by omega⟩
  rw [h3, List.find?_append, find_none h, hm, List.range_succ_eq_map]
  simp [hp]
abbrev Nn (f : Nat) : PV := I (f : Int)
def shP : Option (List Nat) → PV
  | none => nilV
  | some l => ints (l.map Int.ofNat)
abbrev linksP (least f1 f2 f3 : Nat) (c : PV) : PV := .agg [I (least : Int), .fn f1 [] [c], .fn f2 [] [c], .fn f3 [] [c]]
theorem short_c (n : Nat) (T : List (List Int)) (least most f1 f2 f3 : Nat) [FnT Tryz.prog f1] [FnT Tryz.prog f2] [FnT Tryz.prog f3] (c : PV) (bg en : Nat → Bool) (fo : Nat → Nat → Nat → Bool) (h0 : 0 < least) (hl : least ≤ 1000) (hm : most ≤ 1000) (hT : T.length ≤ 1000)
    (hb : ∀ f : Nat, f < T.length → PCalls Tryz.prog f1 [I (f : Int), c] (B (bg f))) (he : ∀ f : Nat, f < T.length → PCalls Tryz.prog f2 [I (f : Int), c] (B (en f)))
    (hf : ∀ i f g : Nat, i ≤ 1000 → f < T.length → g < T.length → PCalls Tryz.prog f3 [I (i : Int), I (f : Int), I (g : Int), c] (B (fo i f g))) :
    PCalls Tryz.prog 36 [chP n T, linksP least f1 f2 f3 c, I (most : Int)] (shP (shV T.length bg en fo least most)) := by
  refine pcalls1 Tryz.func36 rfl Tryz.ntmps36 rfl ?_
  simp only [List.length_cons, List.length_nil, Nat.reduceAdd, Nat.reduceSub, List.replicate_succ, List.replicate_zero, List.cons_append, List.nil_append]
  obtain ⟨N, hN⟩ : ∃ N, N = T.length := ⟨_, rfl⟩
  rw [← hN] at hb he hf hT ⊢
  have hNi : (T.length : Int) = (N : Int) := by rw [hN]
  repeat' (first
| refine g_seq ?_
| refine zJ ?_
| refine zC ?_
| (refine o_go rfl ?_; (first
| refine p_p (zD rfl) ?_
| refine p_p (zA rfl) ?_
| refine p_p (zF rfl rfl) ?_
| refine p_p (zU rfl rfl rfl) ?_
| refine p_p (zL rfl rfl) ?_
| refine p_p (ps_nilCheck rfl rfl) ?_
| refine p_p (ps_box rfl rfl) ?_); refine ⟨_, aB, ?_⟩)
| refine o_nil ?_)
  rw [hNi]
  refine g_loopT (α := Nat) (fun t => [(8, I ((least + t : Nat) : Int))]) (fun _ => []) (fun t => t ≤ most + 1 ∧ (least + t ≤ most + 1 ∨ t = 0) ∧ ((List.range t).findSome? fun t => tryS N bg en fo (least + t)) = none) (fun t => most + 1 - t) 0 aH ⟨Nat.zero_le _, .inr rfl, rfl⟩ ⟨rfl, trivial⟩ rfl ?_
  rintro t ⟨ht1, ht2, hno⟩
  dsimp only [zZ, List.set_cons_zero, List.set_cons_succ]
  obtain ⟨s, hs⟩ : ∃ s, s = least + t := ⟨_, rfl⟩
  rw [← hs]
  by_cases hsm : s ≤ most
  · repeat' (first
| refine g_seq ?_
| refine zJ ?_
| refine zC ?_
| (refine o_go rfl ?_; (first
| refine p_e rfl (e_makeBox rfl rfl rfl (by omega) (by omega) (by omega) (by rfl)) ?_
| refine p_p (zD rfl) ?_
| refine p_p (zA rfl) ?_
| refine p_p (ps_leq rfl rfl rfl) ?_
| refine p_p (ps_sub rfl rfl rfl aN) ?_); refine ⟨_, aB, ?_⟩)
| refine o_nil ?_
| (refine zK rfl (fun hc => ?_) (fun hc => ?_) <;> try (exfalso; omega))
| refine zR ?_)
    all_goals try (exfalso; omega)
    refine g_loopT (α := Nat) (fun j => [(10, I ((s : Int) - 1 - (j : Int)))]) (fun j => [.box (cellsJ N en fo s j)]) (fun j => j ≤ s) (fun j => s - j) 0 aH (Nat.zero_le _) ⟨vI (by omega), trivial⟩ (by rw [← cellsJ_zero]) ?_
    rintro j hj
    dsimp only [zZ, List.set_cons_zero, List.set_cons_succ]
    have hcl := cellsJ_len N en fo s j
    by_cases hjs : j < s
    · obtain ⟨i, hi⟩ : ∃ i, i = s - 1 - j := ⟨_, rfl⟩
      have hii : (s : Int) - 1 - (j : Int) = (i : Int) := by omega
      have hk1 : (cellsJ N en fo s j).map (killP1 1) = cellsJ N en fo s j := cellsJ_map N en fo rfl (fun _ => rfl)
      rw [hii]
      repeat' (first
| rw [hk1]
| refine g_seq ?_
| refine zJ ?_
| refine zC ?_
| (refine o_go rfl ?_; (first
| refine p_p (ps_index_box rfl rfl rfl rfl (by omega) (by omega)) ?_
| refine p_e (by kernel_rfl) (e_store_boxC rfl rfl rfl rfl (by omega) rfl rfl) ?_
| refine p_p (zD rfl) ?_
| refine p_p (zA rfl) ?_
| refine p_p (ps_geq rfl rfl rfl) ?_
| refine p_e rfl (e_make1 rfl rfl rfl (by omega) (by omega) (by omega) rfl rfl) ?_); refine ⟨_, aB, ?_⟩)
| refine o_nil ?_
| refine zX rfl ?_
| refine zR ?_)
      all_goals try (exfalso; omega)
      obtain ⟨W, hW⟩ : ∃ W, W = (cellsJ N en fo s j).take i ++ [PV.hp 1] ++ (cellsJ N en fo s j).drop (i + 1) := ⟨_, rfl⟩
      rw [← hW]
      have hWs : W = (cellsJ N en fo s j).set i (.hp 1) := by rw [hW, List.set_eq_take_append_cons_drop, if_pos (by omega), List.append_assoc]; rfl
      have hWl : W.length = s := by rw [hWs, List.length_set]; exact hcl
      have hWi : W[((i : Nat) : Int).toNat]? = some (.hp 1) := by rw [Int.toNat_natCast, hWs]; exact List.getElem?_set_self (by omega)
      have hWi' : W[i]? = some (.hp 1) := by rw [hWs]; exact List.getElem?_set_self (by omega)
      obtain ⟨R, hR⟩ : ∃ R, R = rch N en fo (s - 1 - i) i := ⟨_, rfl⟩
      refine g_loopT (α := Nat) (fun f => [(11, I (f : Int))]) (fun f => [.box W, .arr true 1 4 (((List.range f).map R).map B ++ List.replicate (N - f) (B false))]) (fun f => f ≤ N) (fun f => N - f) 0 aH (Nat.zero_le _) ⟨rfl, trivial⟩ rfl ?_
      rintro f hfN
      dsimp only [zZ, List.set_cons_zero, List.set_cons_succ]
      have hAl : (((List.range f).map R).map B).length = f := by simp
      have hll : (((List.range f).map R).map B ++ List.replicate (N - f) (B false)).length = N := by simp; omega
      by_cases hf1 : f < N
      · have hfill : ∀ v, (((List.range f).map R).map B ++ List.replicate (N - f) (B false)).set f v = ((List.range f).map R).map B ++ [v] ++ List.replicate (N - (f + 1)) (B false) := fun v => fillB hAl hf1
        have hnx : ((List.range f).map R).map B ++ [B (R f)] ++ List.replicate (N - (f + 1)) (B false) = ((List.range (f + 1)).map R).map B ++ List.replicate (N - (f + 1)) (B false) := by rw [range_snoc, List.map_append]; rfl
        generalize hA : ((List.range f).map R).map B = A at *
        by_cases hj0 : j = 0
        · have hRf : R f = en f := by rw [hR, show s - 1 - i = 0 by omega]; rfl
          have hef := he f hf1
          repeat' (first
| refine g_seq ?_
| refine zJ ?_
| refine zC ?_
| refine zP (by kernel_rfl) (by kernel_rfl) ?_
| (refine o_go rfl ?_; (first
| refine p_p (ps_index_box rfl rfl rfl rfl (by omega) (by omega)) ?_
| refine p_p (zH rfl rfl rfl hWi') ?_
| refine p_p (zG rfl rfl aC (hef)) ?_
| refine p_p (yA rfl rfl rfl rfl (by omega) (by omega)) ?_
| refine p_e (by kernel_rfl) (e_store_arr rfl rfl rfl rfl (by omega) rfl rfl) ?_
| refine p_p (zD rfl) ?_
| refine p_p (zA rfl) ?_
| refine p_p (zF rfl rfl) ?_
| refine p_p (zS rfl rfl rfl) ?_
| refine p_p (ps_add rfl rfl rfl aN) ?_
| refine p_p (zL rfl rfl) ?_
| refine p_p (ps_eql rfl rfl rfl) ?_
| refine p_p (ps_sub rfl rfl rfl aN) ?_); refine ⟨_, aB, ?_⟩)
| refine o_nil ?_
| (refine zK rfl (fun hc => ?_) (fun hc => ?_) <;> try (exfalso; omega))
| refine zR ?_
| refine g_exit ?_)
          all_goals try (exfalso; omega)
          refine zT (f + 1) (by omega) (by omega) aI ⟨rfl, trivial⟩ (zB rfl (zB ?_ (zM _)))
          rw [Nat.mul_one, hfill, ← hRf, hnx]
        · have hW1 : W[((i : Int) + 1).toNat]? = some (bools (rowR N en fo s (i + 1))) := by
            rw [show ((i : Int) + 1).toNat = i + 1 by omega, hWs, List.getElem?_set_ne (by omega), cellsJ_at N en fo (by omega), decide_eq_false (by omega)]; rfl
          obtain ⟨Q, hQ⟩ : ∃ Q : Nat → Bool, Q = fun g => rch N en fo (s - 1 - (i + 1)) (i + 1) g && fo i f g := ⟨_, rfl⟩
          have hRf : R f = (List.range N).any Q := by rw [hR, show s - 1 - i = (s - 1 - (i + 1)) + 1 by omega, hQ]; rfl
          have hrl := rowR_len N en fo s (i + 1)
          repeat' (first
| refine g_seq ?_
| refine zJ ?_
| refine zC ?_
| (refine o_go rfl ?_; (first
| refine p_p (zD rfl) ?_
| refine p_p (zA rfl) ?_
| refine p_p (zS rfl rfl rfl) ?_
| refine p_p (ps_eql rfl rfl rfl) ?_
| refine p_p (ps_sub rfl rfl rfl aN) ?_); refine ⟨_, aB, ?_⟩)
| refine o_nil ?_
| (refine zK rfl (fun hc => ?_) (fun hc => ?_) <;> try (exfalso; omega))
| refine zR ?_)
          all_goals try (exfalso; omega)
          refine g_loopT (α := Nat) (fun g => [(12, I (g : Int))]) (fun g => [.box W, .arr true 1 4 (A ++ [B ((List.range g).any Q)] ++ List.replicate (N - (f + 1)) (B false))]) (fun g => g ≤ N) (fun g => N - g) 0 aH (Nat.zero_le _) ⟨rfl, trivial⟩ (by rw [show N - f = (N - (f + 1)) + 1 by omega, List.replicate_succ, List.append_assoc]; rfl) ?_
          rintro g hgN
          dsimp only [zZ, List.set_cons_zero, List.set_cons_succ]
          obtain ⟨b, hb0⟩ : ∃ b, b = (List.range g).any Q := ⟨_, rfl⟩
          rw [← hb0]
          have hLl : (A ++ [B b] ++ List.replicate (N - (f + 1)) (B false)).length = N := by simp; omega
          have hLf : (A ++ [B b] ++ List.replicate (N - (f + 1)) (B false))[f * 1]? = some (B b) := by
            rw [Nat.mul_one, List.append_assoc, List.getElem?_append_right (by omega), hAl, Nat.sub_self]; rfl
          have hLs : ∀ v, (A ++ [B b] ++ List.replicate (N - (f + 1)) (B false)).set f v = A ++ [v] ++ List.replicate (N - (f + 1)) (B false) := fun v => by
            rw [List.append_assoc, List.set_append_right _ _ (by omega), hAl, Nat.sub_self, List.append_assoc]; rfl
          have hpn : (List.range (g + 1)).any Q = (b || Q g) := by rw [List.range_succ, any_snoc, hb0]
          by_cases hg1 : g < N
          · cases b
            · have hQg : Q g = (rch N en fo (s - 1 - (i + 1)) (i + 1) g && fo i f g) := by rw [hQ]
              have hrow : ((rowR N en fo s (i + 1)).map B)[((g : Nat) : Int).toNat]? = some (B (rch N en fo (s - 1 - (i + 1)) (i + 1) g)) := by
                rw [Int.toNat_natCast, List.getElem?_map, rowR, List.getElem?_map, List.getElem?_range hg1]; rfl
              have hfg := hf i f g (by omega) hf1 hg1
              generalize rch N en fo (s - 1 - (i + 1)) (i + 1) g = b1 at *
              cases b1
              · repeat' (first
| refine g_seq ?_
| refine zJ ?_
| refine zC ?_
| refine zP (by kernel_rfl) (by kernel_rfl) ?_
| (refine o_go rfl ?_; (first
| refine p_p (ps_index_box rfl rfl rfl rfl (by omega) (by omega)) ?_
| refine p_p (zH rfl rfl rfl hWi') ?_
| refine p_p (zH rfl rfl rfl hW1) ?_
| refine p_p (zN rfl rfl rfl (by omega) hrow (by exact rfl)) ?_
| refine p_p (yA rfl rfl rfl rfl (by omega) (by omega)) ?_
| refine p_p (ps_load_arr rfl rfl rfl (by exact hLf) rfl) ?_
| refine p_e (by kernel_rfl) (e_store_arr rfl rfl rfl rfl (by omega) rfl rfl) ?_
| refine p_p (zD rfl) ?_
| refine p_p (zA rfl) ?_
| refine p_p (zF rfl rfl) ?_
| refine p_p (zS rfl rfl rfl) ?_
| refine p_p (ps_add rfl rfl rfl aN) ?_
| refine p_p (ps_not rfl rfl) ?_
| refine p_p (zQ rfl rfl) ?_); refine ⟨_, aB, ?_⟩)
| refine o_nil ?_
| (refine o_s rfl ?_; refine ⟨_, aB, ?_⟩)
| (refine o_splitD rfl rfl rfl (fun hc => ?_) (fun hc => ?_) <;> first | (exfalso; omega) | dsimp only [List.set_cons_zero, List.set_cons_succ])
| refine zX rfl ?_
| refine zR ?_)
                all_goals try (exfalso; omega)
                refine zT (g + 1) (by omega) (by omega) aI ⟨rfl, trivial⟩ (zB rfl (zB ?_ (zM _)))
                rw [Nat.mul_one, hLs, hpn, hQg]; rfl
              · repeat' (first
| refine g_seq ?_
| refine zJ ?_
| refine zC ?_
| refine zP (by kernel_rfl) (by kernel_rfl) ?_
| (refine o_go rfl ?_; (first
| refine p_p (ps_index_box rfl rfl rfl rfl (by omega) (by omega)) ?_
| refine p_p (zH rfl rfl rfl hWi') ?_
| refine p_p (zH rfl rfl rfl hW1) ?_
| refine p_p (zN rfl rfl rfl (by omega) hrow (by exact rfl)) ?_
| refine p_p (zG rfl rfl aC (hfg)) ?_
| refine p_p (yA rfl rfl rfl rfl (by omega) (by omega)) ?_
| refine p_p (ps_load_arr rfl rfl rfl (by exact hLf) rfl) ?_
| refine p_e (by kernel_rfl) (e_store_arr rfl rfl rfl rfl (by omega) rfl rfl) ?_
| refine p_p (zD rfl) ?_
| refine p_p (zA rfl) ?_
| refine p_p (zF rfl rfl) ?_
| refine p_p (zS rfl rfl rfl) ?_
| refine p_p (ps_add rfl rfl rfl aN) ?_
| refine p_p (zL rfl rfl) ?_
| refine p_p (ps_not rfl rfl) ?_
| refine p_p (zQ rfl rfl) ?_); refine ⟨_, aB, ?_⟩)
| refine o_nil ?_
| (refine o_splitD rfl rfl rfl (fun hc => ?_) (fun hc => ?_) <;> first | (exfalso; omega) | dsimp only [List.set_cons_zero, List.set_cons_succ])
| refine zX rfl ?_
| refine zR ?_)
                all_goals try (exfalso; omega)
                refine zT (g + 1) (by omega) (by omega) aI ⟨rfl, trivial⟩ (zB rfl (zB ?_ (zM _)))
                rw [Nat.mul_one, hLs, hpn, hQg, Bool.false_or]; rfl
            · have hRt : R f = true := by
                rw [hRf, List.any_eq_true]
                obtain ⟨x, hx, hxq⟩ := List.any_eq_true.1 hb0.symm
                exact ⟨x, List.mem_range.2 (by have := List.mem_range.1 hx; omega), hxq⟩
              repeat' (first
| refine g_seq ?_
| refine zC ?_
| (refine o_go rfl ?_; (first
| refine p_p (ps_index_box rfl rfl rfl rfl (by omega) (by omega)) ?_
| refine p_p (zH rfl rfl rfl hWi') ?_
| refine p_p (yA rfl rfl rfl rfl (by omega) (by omega)) ?_
| refine p_p (ps_load_arr rfl rfl rfl (by exact hLf) rfl) ?_
| refine p_p (zD rfl) ?_
| refine p_p (zA rfl) ?_
| refine p_p (zS rfl rfl rfl) ?_
| refine p_p (ps_add rfl rfl rfl aN) ?_
| refine p_p (ps_not rfl rfl) ?_
| refine p_p (zQ rfl rfl) ?_); refine ⟨_, aB, ?_⟩)
| refine o_nil ?_
| (refine o_splitD rfl rfl rfl (fun hc => ?_) (fun hc => ?_) <;> first | (exfalso; omega) | dsimp only [List.set_cons_zero, List.set_cons_succ])
| refine zW rfl ?_
| refine g_exit ?_)
              all_goals try (exfalso; omega)
              exact zT (f + 1) (by omega) (by omega) aI ⟨rfl, trivial⟩ (zB rfl (zB (by rw [← hnx, hRt]) (zM _)))
          · obtain rfl : g = N := by omega
            rw [← hRf] at hb0
            repeat' (first
| refine g_seq ?_
| refine zC ?_
| (refine o_go rfl ?_; (first
| refine p_p (zD rfl) ?_
| refine p_p (zA rfl) ?_
| refine p_p (zS rfl rfl rfl) ?_
| refine p_p (ps_add rfl rfl rfl aN) ?_
| refine p_p (zQ rfl rfl) ?_); refine ⟨_, aB, ?_⟩)
| refine o_nil ?_
| (refine o_s rfl ?_; refine ⟨_, aB, ?_⟩)
| (refine o_splitD rfl rfl rfl (fun hc => ?_) (fun hc => ?_) <;> first | (exfalso; omega) | dsimp only [List.set_cons_zero, List.set_cons_succ])
| refine zW rfl ?_
| refine g_exit ?_)
            all_goals try (exfalso; omega)
            exact zT (f + 1) (by omega) (by omega) aI ⟨rfl, trivial⟩ (zB rfl (zB (by rw [← hnx, hb0]) (zM _)))
      · obtain rfl : f = N := by omega
        rw [Nat.sub_self, List.replicate_zero, List.append_nil]
        refine g_freezeP 1 rfl ⟨_, by dsimp only [bitvec_to_nat, Nat.reduceAdd, Nat.reduceMul, Nat.reduceBEq, reduceCtorEq, posI, optP, lendM1, lendMA, lendMP, killM1, killMA, killMP, hasI, getO, backM1, backMA, backMP, putL, inpM, pinM1, pinMA, pinMP], ?_⟩
        refine g_viewBox 0 rfl ⟨_, by dsimp only [bitvec_to_nat, Nat.reduceAdd, Nat.reduceMul, Nat.reduceBEq, reduceCtorEq, posI, optP, lendM1, lendMA, lendMP, killM1, killMA, killMP, hasI, getO, backM1, backMA, backMP, putL, inpM, pinM1, pinMA, pinMP], ?_⟩
        rw [cells_view f en fo hjs hi hWs (by rw [hR]; rfl)]
        repeat' (first
| refine g_seq ?_
| refine zC ?_
| (refine o_go rfl ?_; (first
| refine p_p (zD rfl) ?_
| refine p_p (zA rfl) ?_
| refine p_p (zS rfl rfl rfl) ?_
| refine p_p (ps_sub rfl rfl rfl aN) ?_); refine ⟨_, aB, ?_⟩)
| refine o_nil ?_
| (refine zK rfl (fun hc => ?_) (fun hc => ?_) <;> try (exfalso; omega))
| refine g_exit ?_)
        all_goals try (exfalso; omega)
        exact zT (j + 1) (by omega) (by omega) aI ⟨vI (by omega), trivial⟩ (zB rfl (zM _))
    · obtain rfl : j = s := by omega
      have hk1 : (cellsJ N en fo j j).map (killP1 1) = cellsJ N en fo j j := cellsJ_map N en fo rfl (fun _ => rfl)
      repeat' (first
| rw [hk1]
| refine g_seq ?_
| refine zJ ?_
| refine zC ?_
| (refine o_go rfl ?_; (first
| refine p_e rfl (e_lit0T rfl (by decide)) ?_
| refine p_p (zD rfl) ?_
| refine p_p (zA rfl) ?_
| refine p_p (ps_geq rfl rfl rfl) ?_); refine ⟨_, aB, ?_⟩)
| refine o_nil ?_
| (refine zK rfl (fun hc => ?_) (fun hc => ?_) <;> try (exfalso; omega))
| refine g_exit ?_)
      all_goals try (exfalso; omega)
      refine g_loopF (α := Nat × List Nat) [97] (fun x => [(13, .hp 1), (14, I (x.1 : Int))]) (fun x => [.box (cellsJ N en fo j j), .arr true 1 3 (x.2.map Nn)]) (fun x => x.1 ≤ j ∧ chq N bg en fo j x.1 = some x.2) (fun x => j - x.1) (0, []) aH ⟨Nat.zero_le _, rfl⟩ ⟨rfl, rfl, trivial⟩ rfl ?_
      rintro ⟨i, C⟩ ⟨hij, hC⟩
      dsimp only at hij hC
      dsimp only [zZ, List.set_cons_zero, List.set_cons_succ]
      obtain ⟨hCl, hCm⟩ := chq_len N bg en fo hC
      have hCi : (C.map Nn).length = i := by rw [List.length_map, hCl]
      by_cases hi1 : i < j
      · repeat' (first
| refine g_seq ?_
| refine zJ ?_
| refine zC ?_
| (refine o_go rfl ?_; (first
| refine p_p (zD rfl) ?_
| refine p_p (zA rfl) ?_
| refine p_p (zS rfl rfl rfl) ?_); refine ⟨_, aB, ?_⟩)
| refine o_nil ?_
| (refine zK rfl (fun hc => ?_) (fun hc => ?_) <;> try (exfalso; omega))
| refine zR ?_)
        all_goals try (exfalso; omega)
        have hcell : (cellsJ N en fo j j)[((i : Nat) : Int).toNat]? = some (bools (rowR N en fo j i)) := by
          rw [Int.toNat_natCast, cellsJ_at N en fo hi1, decide_eq_false (by omega)]; rfl
        have hcell' : (cellsJ N en fo j j)[i]? = some (bools (rowR N en fo j i)) := by
          rw [cellsJ_at N en fo hi1, decide_eq_false (by omega)]; rfl
        have hrl := rowR_len N en fo j i
        refine g_loopT (α := Nat) (fun f => [(13, .hp 1), (15, I (f : Int))]) (fun _ => [.box (cellsJ N en fo j j), .arr true 1 3 (C.map Nn)]) (fun f => f ≤ N ∧ ∀ g, g < f → prC N bg en fo j i C g = false) (fun f => N - f) 0 aH ⟨Nat.zero_le _, fun g hg => absurd hg (Nat.not_lt_zero g)⟩ ⟨rfl, rfl, trivial⟩ rfl ?_
        rintro f ⟨hfN, hfno⟩
        dsimp only [zZ, List.set_cons_zero, List.set_cons_succ]
        by_cases hf1 : f < N
        · have hP : prC N bg en fo j i C f = (rch N en fo (j - 1 - i) i f && (bif i == 0 then bg f else fo (i - 1) (C.getD (i - 1) 0) f)) := rfl
          have hrow : ((rowR N en fo j i).map B)[((f : Nat) : Int).toNat]? = some (B (rch N en fo (j - 1 - i) i f)) := by
            rw [Int.toNat_natCast, List.getElem?_map, rowR, List.getElem?_map, List.getElem?_range hf1]; rfl
          have hal : (C.map Nn ++ [I (f : Int)]).length = i + 1 := by simp; exact hCl
          have hap : C.map Nn ++ [I (f : Int)] = (C ++ [f]).map Nn := by rw [List.map_append]; rfl
          have hgo : prC N bg en fo j i C f = true → chq N bg en fo j (i + 1) = some (C ++ [f]) := fun h => by
            rw [chq, hC, Option.bind_some, find_at hfno h hf1]; rfl
          generalize rch N en fo (j - 1 - i) i f = gd at *
          cases gd
          · repeat' (first
| refine g_seq ?_
| refine zJ ?_
| refine zC ?_
| refine zP (by kernel_rfl) (by kernel_rfl) ?_
| (refine o_go rfl ?_; (first
| refine p_p (ps_index_box rfl rfl rfl rfl (by omega) (by omega)) ?_
| refine p_p (zH rfl rfl rfl hcell') ?_
| refine p_p (zN rfl rfl rfl (by omega) hrow (by exact rfl)) ?_
| refine p_p (zD rfl) ?_
| refine p_p (zA rfl) ?_
| refine p_p (zF rfl rfl) ?_
| refine p_p (zS rfl rfl rfl) ?_
| refine p_p (ps_add rfl rfl rfl aN) ?_
| refine p_p (zQ rfl rfl) ?_); refine ⟨_, aB, ?_⟩)
| refine o_nil ?_
| (refine o_s rfl ?_; refine ⟨_, aB, ?_⟩)
| refine zW rfl ?_
| (refine zK rfl (fun hc => ?_) (fun hc => ?_) <;> try (exfalso; omega))
| refine zR ?_)
            all_goals try (exfalso; omega)
            exact zT (f + 1) ⟨by omega, find_next hfno hP⟩ (by omega) aI ⟨rfl, rfl, trivial⟩ (zB rfl (zB rfl (zM _)))
          · rw [Bool.true_and] at hP
            by_cases hi0 : i = 0
            · have h2 := hb f hf1
              rw [show (i == 0) = true from by rw [hi0]; rfl, cond_true] at hP
              generalize bg f = b2 at *
              cases b2
              · repeat' (first
| refine g_seq ?_
| refine zJ ?_
| refine zC ?_
| refine zP (by kernel_rfl) (by kernel_rfl) ?_
| (refine o_go rfl ?_; (first
| refine p_p (ps_index_box rfl rfl rfl rfl (by omega) (by omega)) ?_
| refine p_p (zH rfl rfl rfl hcell') ?_
| refine p_p (zN rfl rfl rfl (by omega) hrow (by exact rfl)) ?_
| refine p_p (zG rfl rfl aC (h2)) ?_
| refine p_p (zD rfl) ?_
| refine p_p (zA rfl) ?_
| refine p_p (zF rfl rfl) ?_
| refine p_p (zS rfl rfl rfl) ?_
| refine p_p (ps_add rfl rfl rfl aN) ?_
| refine p_p (zL rfl rfl) ?_
| refine p_p (zQ rfl rfl) ?_
| refine p_p (ps_gtr rfl rfl rfl) ?_
| refine p_p (ps_eql rfl rfl rfl) ?_); refine ⟨_, aB, ?_⟩)
| refine o_nil ?_
| (refine o_s rfl ?_; refine ⟨_, aB, ?_⟩)
| (refine o_splitD rfl rfl rfl (fun hc => ?_) (fun hc => ?_) <;> first | (exfalso; omega) | dsimp only [List.set_cons_zero, List.set_cons_succ])
| refine zW rfl ?_
| (refine zK rfl (fun hc => ?_) (fun hc => ?_) <;> try (exfalso; omega))
| refine zR ?_)
                all_goals try (exfalso; omega)
                exact zT (f + 1) ⟨by omega, find_next hfno hP⟩ (by omega) aI ⟨rfl, rfl, trivial⟩ (zB rfl (zB rfl (zM _)))
              · repeat' (first
| rw [hk1]
| refine g_seq ?_
| refine zJ ?_
| refine zC ?_
| refine zP (by kernel_rfl) (by kernel_rfl) ?_
| (refine o_go rfl ?_; (first
| refine p_p (ps_index_box rfl rfl rfl rfl (by omega) (by omega)) ?_
| refine p_p (zH rfl rfl rfl hcell') ?_
| refine p_p (zN rfl rfl rfl (by omega) hrow (by exact rfl)) ?_
| refine p_p (zG rfl rfl aC (h2)) ?_
| refine p_e (by kernel_rfl) (e_append rfl rfl rfl rfl rfl rfl (one_one rfl) rfl aP aP) ?_
| refine p_p (zD rfl) ?_
| refine p_p (zA rfl) ?_
| refine p_p (zF rfl rfl) ?_
| refine p_p (zS rfl rfl rfl) ?_
| refine p_p (ps_add rfl rfl rfl aN) ?_
| refine p_p (zL rfl rfl) ?_
| refine p_p (zQ rfl rfl) ?_
| refine p_p (ps_eql rfl rfl rfl) ?_
| refine p_p (ps_len_mut rfl rfl rfl rfl) ?_
| refine p_p (ps_lit1 rfl rfl (by rfl) (by rfl)) ?_); refine ⟨_, aB, ?_⟩)
| refine o_nil ?_
| (refine o_s rfl ?_; refine ⟨_, aB, ?_⟩)
| (refine o_splitD rfl rfl rfl (fun hc => ?_) (fun hc => ?_) <;> first | (exfalso; omega) | dsimp only [List.set_cons_zero, List.set_cons_succ])
| refine zX rfl ?_
| (refine zK rfl (fun hc => ?_) (fun hc => ?_) <;> try (exfalso; omega))
| refine zR ?_
| refine g_exit ?_)
                all_goals try (exfalso; omega)
                exact zT (i + 1, C ++ [f]) ⟨by dsimp only; omega, hgo hP⟩ (by dsimp only; omega) aI ⟨rfl, rfl, trivial⟩ (zB rfl (zB (by rw [← hap]) (zM _)))
            · have hx := hCm _ (show C.getD (i - 1) 0 ∈ C by rw [List.getD_eq_getElem?_getD, List.getElem?_eq_getElem (show i - 1 < C.length by omega)]; exact List.getElem_mem _)
              have h2 := hf (i - 1) (C.getD (i - 1) 0) f (by omega) hx hf1
              rw [show (((i - 1 : Nat)) : Int) = (i : Int) - 1 by omega] at h2
              rw [show (i == 0) = false from by simpa using hi0, cond_false] at hP
              have hcx : (C.map Nn)[((i : Int) - 1).toNat * 1]? = some (I ((C.getD (i - 1) 0 : Nat) : Int)) := by
                rw [Nat.mul_one, show ((i : Int) - 1).toNat = i - 1 by omega, List.getElem?_map, List.getD_eq_getElem?_getD, List.getElem?_eq_getElem (show i - 1 < C.length by omega)]; rfl
              generalize fo (i - 1) (C.getD (i - 1) 0) f = b2 at *
              generalize C.getD (i - 1) 0 = pv at *
              cases b2
              · repeat' (first
| refine g_seq ?_
| refine zJ ?_
| refine zC ?_
| refine zP (by kernel_rfl) (by kernel_rfl) ?_
| (refine o_go rfl ?_; (first
| refine p_p (ps_index_box rfl rfl rfl rfl (by omega) (by omega)) ?_
| refine p_p (zH rfl rfl rfl hcell') ?_
| refine p_p (zN rfl rfl rfl (by omega) hrow (by exact rfl)) ?_
| refine p_p (yA rfl rfl rfl rfl (by omega) (by omega)) ?_
| refine p_p (ps_load_arr rfl rfl rfl (by exact hcx) rfl) ?_
| refine p_p (zG rfl rfl aC (h2)) ?_
| refine p_p (zD rfl) ?_
| refine p_p (zA rfl) ?_
| refine p_p (zF rfl rfl) ?_
| refine p_p (zS rfl rfl rfl) ?_
| refine p_p (ps_add rfl rfl rfl aN) ?_
| refine p_p (zL rfl rfl) ?_
| refine p_p (zQ rfl rfl) ?_
| refine p_p (ps_gtr rfl rfl rfl) ?_
| refine p_p (ps_eql rfl rfl rfl) ?_
| refine p_p (ps_sub rfl rfl rfl aN) ?_); refine ⟨_, aB, ?_⟩)
| refine o_nil ?_
| (refine o_s rfl ?_; refine ⟨_, aB, ?_⟩)
| (refine o_splitD rfl rfl rfl (fun hc => ?_) (fun hc => ?_) <;> first | (exfalso; omega) | dsimp only [List.set_cons_zero, List.set_cons_succ])
| refine zW rfl ?_
| (refine zK rfl (fun hc => ?_) (fun hc => ?_) <;> try (exfalso; omega))
| refine zR ?_)
                all_goals try (exfalso; omega)
                exact zT (f + 1) ⟨by omega, find_next hfno hP⟩ (by omega) aI ⟨rfl, rfl, trivial⟩ (zB rfl (zB rfl (zM _)))
              · repeat' (first
| rw [hk1]
| refine g_seq ?_
| refine zJ ?_
| refine zC ?_
| refine zP (by kernel_rfl) (by kernel_rfl) ?_
| (refine o_go rfl ?_; (first
| refine p_p (ps_index_box rfl rfl rfl rfl (by omega) (by omega)) ?_
| refine p_p (zH rfl rfl rfl hcell') ?_
| refine p_p (zN rfl rfl rfl (by omega) hrow (by exact rfl)) ?_
| refine p_p (yA rfl rfl rfl rfl (by omega) (by omega)) ?_
| refine p_p (ps_load_arr rfl rfl rfl (by exact hcx) rfl) ?_
| refine p_p (zG rfl rfl aC (h2)) ?_
| refine p_e (by kernel_rfl) (e_append rfl rfl rfl rfl rfl rfl (one_one rfl) rfl aP aP) ?_
| refine p_p (zD rfl) ?_
| refine p_p (zA rfl) ?_
| refine p_p (zF rfl rfl) ?_
| refine p_p (zS rfl rfl rfl) ?_
| refine p_p (ps_add rfl rfl rfl aN) ?_
| refine p_p (zL rfl rfl) ?_
| refine p_p (zQ rfl rfl) ?_
| refine p_p (ps_gtr rfl rfl rfl) ?_
| refine p_p (ps_eql rfl rfl rfl) ?_
| refine p_p (ps_sub rfl rfl rfl aN) ?_
| refine p_p (ps_len_mut rfl rfl rfl rfl) ?_
| refine p_p (ps_lit1 rfl rfl (by rfl) (by rfl)) ?_); refine ⟨_, aB, ?_⟩)
| refine o_nil ?_
| (refine o_s rfl ?_; refine ⟨_, aB, ?_⟩)
| (refine o_splitD rfl rfl rfl (fun hc => ?_) (fun hc => ?_) <;> first | (exfalso; omega) | dsimp only [List.set_cons_zero, List.set_cons_succ])
| refine zX rfl ?_
| (refine zK rfl (fun hc => ?_) (fun hc => ?_) <;> try (exfalso; omega))
| refine zR ?_
| refine g_exit ?_)
                all_goals try (exfalso; omega)
                exact zT (i + 1, C ++ [f]) ⟨by dsimp only; omega, hgo hP⟩ (by dsimp only; omega) aI ⟨rfl, rfl, trivial⟩ (zB rfl (zB (by rw [← hap]) (zM _)))
        · repeat' (first
| refine g_seq ?_
| refine zC ?_
| (refine o_go rfl ?_; (first
| refine p_p (zD rfl) ?_
| refine p_p (zA rfl) ?_
| refine p_p (zS rfl rfl rfl) ?_
| refine p_p (ps_add rfl rfl rfl aN) ?_
| refine p_p (ps_eql rfl rfl rfl) ?_
| refine p_p (ps_len_mut rfl rfl rfl rfl) ?_); refine ⟨_, aB, ?_⟩)
| refine o_nil ?_
| (refine zK rfl (fun hc => ?_) (fun hc => ?_) <;> try (exfalso; omega))
| refine zR ?_
| refine g_exit ?_)
          all_goals try (exfalso; omega)
          have hnone : chq N bg en fo j j = none := chq_none N bg en fo (i := i + 1) (by rw [chq, hC, Option.bind_some, find_none (fun g hg => hfno g (by omega))]; rfl) (by omega)
          exact zT (t + 1) ⟨by omega, .inl (by omega), findSome_next hno (by rw [← hs]; exact hnone)⟩ (by omega) aI ⟨vI (by omega), trivial⟩ (zM _)
      · obtain rfl : i = j := by omega
        repeat' (first
| refine g_seq ?_
| refine zC ?_
| (refine o_go rfl ?_; (first
| refine p_p (zD rfl) ?_
| refine p_p (zA rfl) ?_
| refine p_p (zS rfl rfl rfl) ?_
| refine p_p (ps_eql rfl rfl rfl) ?_
| refine p_p (ps_len_mut rfl rfl rfl rfl) ?_); refine ⟨_, aB, ?_⟩)
| refine o_nil ?_
| (refine zK rfl (fun hc => ?_) (fun hc => ?_) <;> try (exfalso; omega))
| refine kr1 ?_
| refine g_exit ?_
| refine g_ret ?_)
        all_goals try (exfalso; omega)
        rw [show shV N bg en fo least most = some C from findSome_at hno (by rw [← hs]; exact hC) (by omega)]
        exact kr_le (p := .sl 1 none (C.map Nn)) rfl (by show PV.le _ (.sl 1 none ((C.map Int.ofNat).map I)); rw [List.map_map]; exact PV.le_refl _)
  · repeat' (first
| refine g_seq ?_
| refine zC ?_
| (refine o_go rfl ?_; (first
| refine p_p (zD rfl) ?_
| refine p_p (zA rfl) ?_
| refine p_p (ps_leq rfl rfl rfl) ?_); refine ⟨_, aB, ?_⟩)
| refine o_nil ?_
| (refine zK rfl (fun hc => ?_) (fun hc => ?_) <;> try (exfalso; omega))
| refine kr1 ?_
| refine g_exit ?_
| refine g_ret ?_)
    all_goals try (exfalso; omega)
    rw [show shV N bg en fo least most = none from by
      unfold shV
      rw [show most + 1 - least = t by omega]; exact hno]
    exact kr_le (p := nilV) rfl (PV.le_refl _)
end Go.Proofs.YtlgfniaakjchgaaGreat
