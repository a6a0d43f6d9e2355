/- Walks: the reference's shortest chains. -/
import Derived.Test.YtlgfniaakjchgaaGreatLGu
import Derived.Test.YtlgfniaakjchgaaGreatLGv
namespace Go.Proofs.YtlgfniaakjchgaaGreat
open Go Go.Pv Go.Proofs
set_option maxHeartbeats 32000000
set_option maxRecDepth 100000
attribute [local bitvec_to_nat] St.put St.setObj St.ev killP killA killP1 killH mapHO renP renA ren1 killG killGA killG1 krowP krowA krow1 lendP lendA lend1 unv pinP pin1 elemsM viewM viewN viewV n_set_z n_set_s n_map_c n_map_n getD_z getD_s n_toNat n_cond_t n_cond_f n_len_c n_len_n n_app_c n_app_n n_take_s n_take_z n_drop_s n_drop_z n_get_z n_get_s view viewA view1 elems Nat.zero_add Nat.add_zero Bool.not_true Bool.not_false Nat.one_ne_zero Nat.mul_one
attribute [local bitvec_to_nat] posI optP lendM1 lendMA lendMP killM1 killMA killMP hasI getO backM1 backMA backMP putL inpM pinM1 pinMA pinMP

def opL : Option (List Nat) → List Int
  | none => []
  | some c => c.map Int.ofNat
theorem mayL_ok (n w1 w2 : Nat) (al : List Bool) (T : List (List Int)) (N : Nat) : (mayL n w1 w2 al T N).length = N ∧ ∀ r ∈ mayL n w1 w2 al T N, r.length = N := by
  refine ⟨by simp [mayL], fun r hr => ?_⟩
  obtain ⟨f, -, rfl⟩ := List.mem_map.1 hr
  simp
theorem mayL_get {n w1 w2 : Nat} {al : List Bool} {T : List (List Int)} {N f g : Nat} (hf : f < N) (hg : g < N) : ((mayL n w1 w2 al T N).getD f []).getD g false = mayB n w1 w2 al T f g := by
  unfold mayL
  simp [List.getD_eq_getElem?_getD, List.getElem?_map, List.getElem?_range hf, List.getElem?_range hg]
theorem allL_get {n : Nat} {b : Bool} {T : List (List Int)} {f : Nat} (hf : f < T.length) : (T.map (allB n b)).getD f false = (!b || fixB n (T.getD f [])) := by
  simp [List.getD_eq_getElem?_getD, List.getElem?_map, List.getElem?_eq_getElem hf, allB]
theorem onlyL_get {N p f : Nat} (hf : f < N) : (onlyL N p).getD f false = decide (f = p) := by
  unfold onlyL
  simp [List.getD_eq_getElem?_getD, List.getElem?_map, List.getElem?_range hf]
theorem onlyL_len (N p : Nat) : (onlyL N p).length = N := by simp [onlyL]
theorem filter_one {N p : Nat} (hp : p < N) : (List.range N).filter (fun (f : Nat) => decide ((f : Int) = (p : Int))) = [p] := by
  have h : ∀ m, (List.range m).filter (fun (f : Nat) => decide ((f : Int) = (p : Int))) = if p < m then [p] else [] := by
    intro m
    induction m with
    | zero => simp
    | succ m ih =>
      rw [List.range_succ, List.filter_append, ih]
      by_cases h1 : p < m
      · rw [if_pos h1, if_pos (by omega)]
        have : ¬ ((m : Int) = (p : Int)) := by omega
        simp [this]
      · by_cases h2 : p = m
        · subst h2; rw [if_neg h1, if_pos (by omega)]; simp
        · rw [if_neg h1, if_neg (by omega)]
          have : ¬ ((m : Int) = (p : Int)) := by omega
          simp [this]
  rw [h, if_pos hp]
theorem prj02_ne {n : Nat} (hn : 2 ≤ n) : prjL n 3 0 ≠ prjL n 3 2 := fun h => by
  have h1 := congrArg (fun l => l.getD (0 * n * n + 0 * n + 1) 0) h
  have hlt : 0 * n * n + 0 * n + 1 < n ^ 3 := at3_lt (x := 0) (y := 0) (z := 1) (by omega) (by omega) (by omega)
  have key : argsL n 3 (0 * n * n + 0 * n + 1) = [0, 0, 1] := by
    have := argsL_idxL (n := n) (by omega) 3 [0, 0, 1] rfl (by
      intro z hz
      simp only [List.mem_cons, List.not_mem_nil, or_false] at hz
      rcases hz with rfl | rfl | rfl <;> omega)
    have h2 : idxL n [0, 0, 1] = ((0 * n * n + 0 * n + 1 : Nat) : Int) := by
      unfold idxL
      simp
    rw [h2, Int.toNat_natCast] at this
    exact this
  simp only [prjL, List.getD_eq_getElem?_getD, List.getElem?_map, List.getElem?_range hlt, Option.map_some, Option.getD_some] at h1
  rw [key] at h1
  simp at h1
theorem one_T {ops : List OpD} {T : List (List Int)} (h : CT 1 ops T) : T = [[0]] := by
  have hr : ∀ t ∈ T, t = [0] := fun t ht => by
    obtain ⟨h1, h2⟩ := h.row t ht
    rcases t with _ | ⟨a, _ | ⟨b, l⟩⟩
    · simp at h1
    · have := h2 a (by simp)
      rw [show a = 0 by omega]
    · simp at h1
  have h0 := h.len0
  have hn := h.nd
  rcases T with _ | ⟨a, _ | ⟨b, l⟩⟩
  · simp at h0
  · rw [hr a (by simp)]
  · rw [hr a (by simp), hr b (by simp)] at hn
    simp at hn
section
variable {n : Nat} {ops : List OpD} {T : List (List Int)} (hC : CT n ops T) (hn : 2 ≤ n)
include hC hn
theorem ends_no : ∀ f, f < T.length → bgN n T f = true → enN n T f = false := fun f _ h => by
  have h1 : (f : Int) = placeT T (prjL n 3 0) := of_decide_eq_true h
  refine decide_eq_false fun h2 => ?_
  rw [h1] at h2
  exact prj02_ne hn ((place_eq (hC.prj 0 (by decide)) (hC.prj 2 (by decide))).1 h2)
theorem dS_eq {p0 p2 : Nat} (h0 : placeT T (prjL n 3 0) = (p0 : Int)) (h2 : placeT T (prjL n 3 2) = (p2 : Int)) (hp0 : p0 < T.length) :
    dS n T = bif (chainW T.length (fun f => (onlyL T.length p2).getD f false) (mayF (mayL n 1 1 (T.map (allB n true)) T T.length) (mayL n 2 2 (T.map (allB n true)) T T.length)) [p0] 12).2 then some (chainW T.length (fun f => (onlyL T.length p2).getD f false) (mayF (mayL n 1 1 (T.map (allB n true)) T T.length) (mayL n 2 2 (T.map (allB n true)) T T.length)) [p0] 12).1 else none := by
  obtain ⟨my, hmy⟩ : ∃ my, my = mayF (mayL n 1 1 (T.map (allB n true)) T T.length) (mayL n 2 2 (T.map (allB n true)) T T.length) := ⟨_, rfl⟩
  have hmp : ∀ i f g, my i f g = my (i % 2) f g := fun i f g => by rw [hmy]; unfold mayF; rw [Nat.mod_mod]
  have hen : ∀ f, f < T.length → enN n T f = (fun f => (onlyL T.length p2).getD f false) f := fun f hf => by
    show decide ((f : Int) = _) = (onlyL T.length p2).getD f false
    rw [onlyL_get hf, h2]
    exact decide_eq_decide.2 (by omega)
  have hfo : ∀ i f g, f < T.length → g < T.length → folD n T i f g = my i f g := fun i f g hf hg => by
    rw [hmy]
    unfold mayF folD nearB
    by_cases h : i % 2 = 0
    · rw [h, show ((0 : Nat) == 0) = true from rfl, cond_true, cond_true, mayL_get hf hg]
      unfold mayB
      rw [allL_get hf, allL_get hg, Bool.not_true, Bool.false_or, Bool.false_or, Bool.and_assoc]; rfl
    · rw [show (i % 2 == 0) = false by simpa using h, cond_false, cond_false, mayL_get hf hg]
      unfold mayB
      rw [allL_get hf, allL_get hg, Bool.not_true, Bool.false_or, Bool.false_or, Bool.and_assoc]; rfl
  rw [← hmy]
  unfold dS
  rw [shV_congr (bg' := bgN n T) (fun _ _ => rfl) hen hfo 2 13]
  rw [chain_same hmp 2 12 (.inr ⟨rfl, fun f hf hb => (hen f hf).symm.trans (ends_no hC hn f hf hb)⟩)]
  rw [show (List.range T.length).filter (bgN n T) = [p0] from by
    have := filter_one hp0
    rw [← this]
    congr 1
    funext f
    show decide ((f : Int) = placeT T (prjL n 3 0)) = _
    rw [h0]]
theorem pS_eq {p0 p2 : Nat} (h0 : placeT T (prjL n 3 0) = (p0 : Int)) (h2 : placeT T (prjL n 3 2) = (p2 : Int)) (hp0 : p0 < T.length) :
    pS n T = bif (chainW T.length (fun f => (onlyL T.length p2).getD f false) (mayF (mayL n 1 2 (T.map (allB n false)) T T.length) (mayL n 1 2 (T.map (allB n false)) T T.length)) [p0] 12).2 then some (chainW T.length (fun f => (onlyL T.length p2).getD f false) (mayF (mayL n 1 2 (T.map (allB n false)) T T.length) (mayL n 1 2 (T.map (allB n false)) T T.length)) [p0] 12).1 else none := by
  obtain ⟨my, hmy⟩ : ∃ my, my = mayF (mayL n 1 2 (T.map (allB n false)) T T.length) (mayL n 1 2 (T.map (allB n false)) T T.length) := ⟨_, rfl⟩
  have hmp : ∀ i f g, my i f g = my (i % 2) f g := fun i f g => by rw [hmy]; unfold mayF; rw [Nat.mod_mod]
  have hen : ∀ f, f < T.length → enN n T f = (fun f => (onlyL T.length p2).getD f false) f := fun f hf => by
    show decide ((f : Int) = _) = (onlyL T.length p2).getD f false
    rw [onlyL_get hf, h2]
    exact decide_eq_decide.2 (by omega)
  have hfo : ∀ i f g, f < T.length → g < T.length → (fun (_ : Nat) f g => folP n T f g) i f g = my i f g := fun i f g hf hg => by
    rw [hmy]
    show folP n T f g = _
    unfold mayF folP
    rw [show (bif i % 2 == 0 then mayL n 1 2 (T.map (allB n false)) T T.length else mayL n 1 2 (T.map (allB n false)) T T.length) = mayL n 1 2 (T.map (allB n false)) T T.length by cases (i % 2 == 0) <;> rfl, mayL_get hf hg]
    unfold mayB
    rw [allL_get hf, allL_get hg]; rfl
  rw [← hmy]
  unfold pS
  rw [shV_congr (bg' := bgN n T) (fun _ _ => rfl) hen hfo 2 13]
  rw [chain_same hmp 2 12 (.inr ⟨rfl, fun f hf hb => (hen f hf).symm.trans (ends_no hC hn f hf hb)⟩)]
  rw [show (List.range T.length).filter (bgN n T) = [p0] from by
    have := filter_one hp0
    rw [← this]
    congr 1
    funext f
    show decide ((f : Int) = placeT T (prjL n 3 0)) = _
    rw [h0]]
end
theorem opL_of {o : Option (List Nat)} {W : List Nat × Bool} (h : o = bif W.2 then some W.1 else none) (h2 : W.2 = false → W.1 = []) : W.1.map Int.ofNat = opL o ∧ W.2 = o.isSome := by
  obtain ⟨l, b⟩ := W
  cases b
  · subst h; rw [show l = [] from h2 rfl]; exact ⟨rfl, rfl⟩
  · subst h; exact ⟨rfl, rfl⟩
theorem chainW_no {N : Nat} {to : Nat → Bool} {may : Nat → Nat → Nat → Bool} {F : List Nat} {d : Nat} (h : (chainW N to may F d).2 = false) : (chainW N to may F d).1 = [] := by
  unfold chainW at h ⊢
  cases hb : decide (bestF N to may F d < 0) with
  | true => rfl
  | false => rw [hb] at h; cases h
theorem s17dist_c (n : Nat) (ops : List OpD) (T : List (List Int)) (hC : CT n ops T) : PCalls Tryz.prog 40 [I (n : Int), intss T] (.tup [ints (opL (dS n T)), B (dS n T).isSome]) := by
  refine pcalls2 Tryz.func40 rfl Tryz.ntmps40 rfl ?_
  simp only [List.length_cons, List.length_nil, Nat.reduceAdd, Nat.reduceSub, List.replicate_succ, List.replicate_zero, List.cons_append, List.nil_append]
  have hn8 : n ≤ 8 := by have := hC.n3; omega
  have hT := hC.len
  have ht : ∀ t ∈ T, t.length = n ^ 3 := fun t h => (hC.row t h).1
  obtain ⟨p0, hp0, -, e0⟩ := placeT_mem (hC.prj 0 (by decide))
  obtain ⟨p2, hp2, -, e2⟩ := placeT_mem (hC.prj 2 (by decide))
  have a1 := sallowed_c n T true hC.n0 hn8 (by omega) ht
  have a2 := smay_c n 1 1 T (T.map (allB n true)) hn8 (by decide) (by decide) (by omega) (List.length_map _) ht
  have a3 := smay_c n 2 2 T (T.map (allB n true)) hn8 (by decide) (by decide) (by omega) (List.length_map _) ht
  have a4 := sprj_c n 3 0 hC.n0 hn8 (by decide) (by decide)
  have a5 := sprj_c n 3 2 hC.n0 hn8 (by decide) (by decide)
  have a6 := splace_c T (prjL n 3 0) hC.lenOk
  have a7 := splace_c T (prjL n 3 2) hC.lenOk
  rw [e0] at a6
  rw [e2] at a7
  have a8 := sonly_c T.length p2 (by omega) hp2
  have a9 := schain_c T.length [p0] (onlyL T.length p2) (mayL n 1 1 (T.map (allB n true)) T T.length) (mayL n 2 2 (T.map (allB n true)) T T.length) 12 (by omega) (onlyL_len _ _) (mayL_ok ..) (mayL_ok ..) (fun x hx => by rw [List.mem_singleton] at hx; rw [hx]; exact hp0) (by simp) (by decide)
  by_cases h1 : n = 1
  · subst h1
    have hd : dS 1 T = some [0, 0] := by rw [one_T hC]; decide +kernel
    rw [hd]
    repeat' (first
| refine g_seq ?_
| refine zC ?_
| (refine o_go rfl ?_; (first
| refine p_p (zG rfl rfl aC (a1)) ?_
| refine p_p (zG rfl rfl aC (a2)) ?_
| refine p_p (zG rfl rfl aC (a3)) ?_
| refine p_p (zG rfl rfl aC (a4)) ?_
| refine p_p (zG rfl rfl aC (a5)) ?_
| refine p_p (zG rfl rfl aC (a6)) ?_
| refine p_p (zD rfl) ?_
| refine p_p (zA rfl) ?_
| refine p_p (ps_eql rfl rfl rfl) ?_
| refine p_p (ps_lit2 rfl rfl rfl (by rfl) (by rfl) (by rfl)) ?_); refine ⟨_, aB, ?_⟩)
| refine o_nil ?_
| refine zX rfl ?_
| refine kr2 ?_ ?_
| refine krB rfl ?_
| refine krS rfl ?_
| refine g_ret ?_)
    all_goals first | rfl | (exfalso; omega)
  · have hS := dS_eq hC (by have := hC.n0; omega) e0 e2 hp0
    obtain ⟨o1, o2⟩ := opL_of hS chainW_no
    rw [o1, o2] at a9
    repeat' (first
| refine g_seq ?_
| refine zC ?_
| (refine o_go rfl ?_; (first
| refine p_p (zG rfl rfl aC (a1)) ?_
| refine p_p (zG rfl rfl aC (a2)) ?_
| refine p_p (zG rfl rfl aC (a3)) ?_
| refine p_p (zG rfl rfl aC (a4)) ?_
| refine p_p (zG rfl rfl aC (a5)) ?_
| refine p_p (zG rfl rfl aC (a6)) ?_
| refine p_p (zG rfl rfl aC (a7)) ?_
| refine p_p (zG rfl rfl aC (a8)) ?_
| refine p_p (zG rfl rfl aC (a9)) ?_
| refine p_p (zD rfl) ?_
| refine p_p (zA rfl) ?_
| refine p_p (zU rfl rfl rfl) ?_
| refine p_p (ps_extract rfl rfl rfl) ?_
| refine p_p (ps_eql rfl rfl rfl) ?_
| refine p_p (ps_lit1 rfl rfl (by rfl) (by rfl)) ?_
| refine p_p (ps_lit2 rfl rfl rfl (by rfl) (by rfl) (by rfl)) ?_); refine ⟨_, aB, ?_⟩)
| refine o_nil ?_
| (refine zK rfl (fun hc => ?_) (fun hc => ?_) <;> try (exfalso; omega))
| refine kr2 ?_ ?_
| refine krB rfl ?_
| refine krS rfl ?_
| refine zR ?_
| refine g_ret ?_)
    all_goals first | rfl | (exfalso; omega)
end Go.Proofs.YtlgfniaakjchgaaGreat
