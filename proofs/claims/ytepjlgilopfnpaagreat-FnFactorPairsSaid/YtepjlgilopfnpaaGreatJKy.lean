/- Walks: all congruences, the reference's side. -/
import Derived.Test.YtepjlgilopfnpaaGreatJKo
import Derived.Test.YtepjlgilopfnpaaGreatJKn
import Derived.Test.YtepjlgilopfnpaaGreatJSq
import Derived.Test.YtepjlgilopfnpaaGreatJHk
namespace Go.Proofs.YtepjlgilopfnpaaGreat
open Go Go.Pv Go.Proofs
set_option maxHeartbeats 32000000
set_option maxRecDepth 100000

def okC (m : Nat) (r : List Int) : Prop := r.length = m ∧ ∀ k, k < m → 0 ≤ r.getD k 0
theorem Pt.okC {m : Nat} {p : List Int} (h : Pt m p) : okC m p := ⟨h.len, h.nn⟩
def cntK (p : List Int) (k : Nat) : Nat := ((List.range k).filter fun x => decide (bk p x = x)).length
theorem cntK_succ (p : List Int) (k : Nat) : cntK p (k + 1) = cntK p k + if bk p k = k then 1 else 0 := by
 unfold cntK
 rw [List.range_succ, List.filter_append, List.length_append, List.filter_cons]
 split
 · next h => rw [if_pos (of_decide_eq_true h)]; rfl
 · next h => rw [if_neg (fun e => h (decide_eq_true e))]; rfl
theorem cntK_le (p : List Int) (k : Nat) : cntK p k ≤ k := by
 unfold cntK; exact Nat.le_trans (List.length_filter_le ..) (by simp)
theorem scount_c (n : Nat) (p : List Int) (hn : n ≤ 1048576) (hp : okC n p) : PCalls Tryz.prog 185 [ints p] (I (cnt n p : Int)) := by
 refine pcalls1 Tryz.func185 rfl Tryz.ntmps185 rfl ?_
 refine wF ?_
 have hpl := hp.1
 repeat' (first
| refine wO ?_
| (refine o_go rfl ?_; (first
| refine wS ?_); refine ⟨_, aB, ?_⟩))
 refine g_loopT (α := Nat) (fun k => [(3, I (cntK p k : Int)), (4, I (k : Int))]) (fun _ => []) (fun k => k ≤ n) (fun k => n - k) 0 aH (Nat.zero_le _) ⟨rfl, rfl, trivial⟩ rfl ?_
 rintro k hk
 refine wH ?_
 have hc1 := cntK_le p k
 by_cases hkn : k < n
 · have hs := cntK_succ p k
   have hv : p.getD k 0 = (bk p k : Int) := by have := hp.2 k hkn; unfold bk; omega
   have hix : (p.map I)[((k : Nat) : Int).toNat]? = some (I (bk p k : Int)) := by rw [← hv]; exact idx_I (by omega)
   by_cases he : bk p k = k
   · rw [if_pos he] at hs
     repeat' (first
| refine wO ?_
| (refine o_go rfl ?_; (first
| refine p_p (zN rfl rfl rfl zz hix ze) ?_
| refine wS ?_); refine ⟨_, aB, ?_⟩)
| (refine zK rfl ?_ ?_ <;> intro hc <;> try omega)
| refine wE ?_)
     all_goals try (exfalso; omega)
     exact zT (k + 1) (by omega) (by omega) aI ⟨vI (by omega), rfl, trivial⟩ (zM _)
   · rw [if_neg he] at hs
     repeat' (first
| refine wO ?_
| (refine o_go rfl ?_; (first
| refine p_p (zN rfl rfl rfl zz hix ze) ?_
| refine wS ?_); refine ⟨_, aB, ?_⟩)
| (refine zK rfl ?_ ?_ <;> intro hc <;> try omega)
| refine wE ?_)
     all_goals try (exfalso; omega)
     exact zT (k + 1) (by omega) (by omega) aI ⟨vI (by omega), rfl, trivial⟩ (zM _)
 · repeat' (first
| refine wO ?_
| (refine o_go rfl ?_; (first
| refine wS ?_); refine ⟨_, aB, ?_⟩)
| (refine zK rfl ?_ ?_ <;> intro hc <;> try omega)
| refine kr1 ?_
| refine krI rfl ?_
| refine wE ?_)
   all_goals try (exfalso; omega)
   rw [show k = n by omega]; rfl
theorem rows_at {V : List (List Int)} {k : Nat} (h : k < V.length) : (V.map ints)[((k : Nat) : Int).toNat]? = some (ints (V.getD k [])) := by
 rw [Int.toNat_natCast, List.getElem?_map, List.getElem?_eq_getElem h, List.getD_eq_getElem?_getD, List.getElem?_eq_getElem h]; rfl
theorem rows_mem {V : List (List Int)} {k : Nat} (h : k < V.length) : V.getD k [] ∈ V := by
 rw [List.getD_eq_getElem?_getD, List.getElem?_eq_getElem h]; exact List.getElem_mem _
theorem sput_c (n : Nat) (V : List (List Int)) (p : List Int) (hn : n ≤ 1000) (hV : ∀ q ∈ V, okC n q) (hp : okC n p) (hl : V.length ≤ 100000) : PCalls Tryz.prog 161 [intss V, ints p] (intss (putC n V p)) := by
 refine pcalls1 Tryz.func161 rfl Tryz.ntmps161 rfl ?_
 refine wF ?_
 have hcp := scount_c n p (by omega) hp
 have hcl := cnt_le n p
 repeat' (first
| refine wO ?_
| (refine o_go rfl ?_; (first
| refine wS ?_); refine ⟨_, aB, ?_⟩))
 refine g_loopT (α := Nat) (fun k => [(5, I (k : Int))]) (fun _ => []) (fun k => k ≤ V.length ∧ ∀ i, i < k → cmpC n (V.getD i []) p < 0) (fun k => V.length - k) 0 aH ⟨Nat.zero_le _, fun i hi => absurd hi (Nat.not_lt_zero _)⟩ ⟨rfl, trivial⟩ rfl ?_
 rintro k ⟨hk, hlow⟩
 refine wH ?_
 by_cases hkl : k < V.length
 · have hrow := rows_at hkl
   have hok := hV _ (rows_mem hkl)
   have hca := scount_c n (V.getD k []) (by omega) hok
   have hcl2 := cnt_le n (V.getD k [])
   have hls := less5_c (V.getD k []) p (by rw [hok.1, hp.1]) (by rw [hok.1]; omega)
   have hsm := gsame_c (V.getD k []) p (by rw [hok.1]; omega)
   have hcc : cmpC n (V.getD k []) p = if cnt n p ≠ cnt n (V.getD k []) then (cnt n p : Int) - (cnt n (V.getD k []) : Int) else cmpX (V.getD k []) p := rfl
   by_cases h1 : cnt n p < cnt n (V.getD k [])
   · rw [if_pos (by omega)] at hcc
     repeat' (first
| refine wO ?_
| (refine o_go rfl ?_; (first
| refine p_p (zG rfl rfl aD (hca)) ?_
| refine p_p (zG rfl rfl aD (hcp)) ?_
| refine p_p (zN rfl rfl rfl zz hrow ze) ?_
| refine wS ?_); refine ⟨_, aB, ?_⟩)
| (refine o_s rfl ?_; refine ⟨_, aB, ?_⟩)
| (refine o_splitD rfl rfl rfl ?_ ?_ <;> intro hc <;> first | omega | dsimp only [List.set_cons_zero, List.set_cons_succ])
| refine wE ?_)
     all_goals try (exfalso; omega)
     refine zT (k + 1) ⟨by omega, fun i hi => ?_⟩ (by omega) aI ⟨rfl, trivial⟩ (zM _)
     rcases Nat.lt_or_ge i k with h | h
     · exact hlow i h
     · rw [show i = k by omega, hcc]; omega
   by_cases h2 : cnt n p = cnt n (V.getD k [])
   · rw [if_neg (fun h => h h2)] at hcc
     by_cases h3 : cmpX (V.getD k []) p < 0
     · rw [decide_eq_true h3] at hls
       repeat' (first
| refine wO ?_
| (refine o_go rfl ?_; (first
| refine p_p (zG rfl rfl aD (hca)) ?_
| refine p_p (zG rfl rfl aD (hcp)) ?_
| refine p_p (zG rfl rfl aD (hls)) ?_
| refine p_p (zN rfl rfl rfl zz hrow ze) ?_
| refine wS ?_); refine ⟨_, aB, ?_⟩)
| (refine o_splitD rfl rfl rfl ?_ ?_ <;> intro hc <;> first | omega | dsimp only [List.set_cons_zero, List.set_cons_succ])
| refine wE ?_)
       all_goals try (exfalso; omega)
       refine zT (k + 1) ⟨by omega, fun i hi => ?_⟩ (by omega) aI ⟨rfl, trivial⟩ (zM _)
       rcases Nat.lt_or_ge i k with h | h
       · exact hlow i h
       · rw [show i = k by omega, hcc]; exact h3
     · rw [decide_eq_false h3] at hls
       have hstop : k < V.length → ¬ cmpC n (V.getD k []) p < 0 := fun _ => by rw [hcc]; exact h3
       have hpos := posC_eq n p V k hk hlow hstop
       unfold putC
       rw [hpos]
       by_cases he : V.getD k [] = p
       · rw [decide_eq_true he] at hsm
         rw [if_pos ⟨hkl, he⟩]
         repeat' (first
| refine wO ?_
| (refine o_go rfl ?_; (first
| refine p_p (zG rfl rfl aD (hca)) ?_
| refine p_p (zG rfl rfl aD (hcp)) ?_
| refine p_p (zG rfl rfl aD (hls)) ?_
| refine p_p (zG rfl rfl aD (hsm)) ?_
| refine p_p (zN rfl rfl rfl zz hrow ze) ?_
| refine wS ?_); refine ⟨_, aB, ?_⟩)
| (refine o_splitD rfl rfl rfl ?_ ?_ <;> intro hc <;> first | omega | dsimp only [List.set_cons_zero, List.set_cons_succ])
| refine kr1 ?_
| refine krS rfl ?_
| refine wE ?_)
         all_goals first | rfl | (exfalso; omega)
       · rw [decide_eq_false he] at hsm
         rw [if_neg (fun h => he h.2)]
         repeat' (first
| refine wO ?_
| (refine o_go rfl ?_; (first
| refine p_p (zG rfl rfl aD (hca)) ?_
| refine p_p (zG rfl rfl aD (hcp)) ?_
| refine p_p (zG rfl rfl aD (hls)) ?_
| refine p_p (zG rfl rfl aD (hsm)) ?_
| refine p_p (zN rfl rfl rfl zz hrow ze) ?_
| refine wS ?_); refine ⟨_, aB, ?_⟩)
| (refine o_splitD rfl rfl rfl ?_ ?_ <;> intro hc <;> first | omega | dsimp only [List.set_cons_zero, List.set_cons_succ])
| refine wE ?_)
         all_goals try (exfalso; omega)
         refine g_region_drawY [(1, some [0]), (2, some [0]), (3, some [0]), (5, some [0]), (6, some [0]), (8, some [0]), (9, some [0]), (10, some [0]), (0, none), (4, none), (7, none), (11, none), (12, none)] [(0, 0), (4, 0), (7, 0), (11, 0)] (by kernel_rfl) rfl (by kernel_rfl) ?_
         repeat' (first
| refine y_nil ?_
| ((first
| refine y_pure rfl rfl (fun _ => ps_sliceToM rfl rfl rfl zz zz) aJ aE ?_
| refine y_pure rfl rfl (fun _ => ps_sliceFromM rfl rfl rfl zz zz) aJ aE ?_
| refine y_pure rfl rfl (fun _ => zD rfl) aJ aE ?_
| refine y_pure rfl rfl (fun _ => ps_lit1 rfl rfl (by rfl) (by rfl)) aJ aE ?_
| refine y_eff rfl rfl aF (j_lit0T rfl zd) ?_
| refine y_eff rfl rfl aF (j_pure (zA rfl)) ?_
| refine y_eff rfl rfl aF (j_append rfl rfl rfl rfl rfl rfl (by first | exact one_one rfl | exact one_map (fun _ => rfl) _) rfl aR aR) ?_); refine ⟨_, aP, ?_⟩))
         repeat' (first
| refine kr1 ?_
| refine krS rfl ?_
| refine wE ?_)
         all_goals first | (rw [List.map_append, List.map_cons, List.append_assoc]; done) | (simp; done) | (exfalso; omega)
   · rw [if_pos h2] at hcc
     have hstop : k < V.length → ¬ cmpC n (V.getD k []) p < 0 := fun _ => by rw [hcc]; omega
     have hpos := posC_eq n p V k hk hlow hstop
     unfold putC
     rw [hpos]
     by_cases he : V.getD k [] = p
     · rw [decide_eq_true he] at hsm
       rw [if_pos ⟨hkl, he⟩]
       repeat' (first
| refine wO ?_
| (refine o_go rfl ?_; (first
| refine p_p (zG rfl rfl aD (hca)) ?_
| refine p_p (zG rfl rfl aD (hcp)) ?_
| refine p_p (zG rfl rfl aD (hsm)) ?_
| refine p_p (zN rfl rfl rfl zz hrow ze) ?_
| refine wS ?_); refine ⟨_, aB, ?_⟩)
| (refine o_s rfl ?_; refine ⟨_, aB, ?_⟩)
| (refine o_splitD rfl rfl rfl ?_ ?_ <;> intro hc <;> first | omega | dsimp only [List.set_cons_zero, List.set_cons_succ])
| refine kr1 ?_
| refine krS rfl ?_
| refine wE ?_)
       all_goals first | rfl | (exfalso; omega)
     · rw [decide_eq_false he] at hsm
       rw [if_neg (fun h => he h.2)]
       repeat' (first
| refine wO ?_
| (refine o_go rfl ?_; (first
| refine p_p (zG rfl rfl aD (hca)) ?_
| refine p_p (zG rfl rfl aD (hcp)) ?_
| refine p_p (zG rfl rfl aD (hsm)) ?_
| refine p_p (zN rfl rfl rfl zz hrow ze) ?_
| refine wS ?_); refine ⟨_, aB, ?_⟩)
| (refine o_s rfl ?_; refine ⟨_, aB, ?_⟩)
| (refine o_splitD rfl rfl rfl ?_ ?_ <;> intro hc <;> first | omega | dsimp only [List.set_cons_zero, List.set_cons_succ])
| refine wE ?_)
       all_goals try (exfalso; omega)
       refine g_region_drawY [(1, some [0]), (2, some [0]), (3, some [0]), (5, some [0]), (6, some [0]), (8, some [0]), (9, some [0]), (10, some [0]), (0, none), (4, none), (7, none), (11, none), (12, none)] [(0, 0), (4, 0), (7, 0), (11, 0)] (by kernel_rfl) rfl (by kernel_rfl) ?_
       repeat' (first
| refine y_nil ?_
| ((first
| refine y_pure rfl rfl (fun _ => ps_sliceToM rfl rfl rfl zz zz) aJ aE ?_
| refine y_pure rfl rfl (fun _ => ps_sliceFromM rfl rfl rfl zz zz) aJ aE ?_
| refine y_pure rfl rfl (fun _ => zD rfl) aJ aE ?_
| refine y_pure rfl rfl (fun _ => ps_lit1 rfl rfl (by rfl) (by rfl)) aJ aE ?_
| refine y_eff rfl rfl aF (j_lit0T rfl zd) ?_
| refine y_eff rfl rfl aF (j_pure (zA rfl)) ?_
| refine y_eff rfl rfl aF (j_append rfl rfl rfl rfl rfl rfl (by first | exact one_one rfl | exact one_map (fun _ => rfl) _) rfl aR aR) ?_); refine ⟨_, aP, ?_⟩))
       repeat' (first
| refine kr1 ?_
| refine krS rfl ?_
| refine wE ?_)
       all_goals first | (rw [List.map_append, List.map_cons, List.append_assoc]; done) | (simp; done) | (exfalso; omega)
 · have hpos := posC_eq n p V k hk hlow (fun h => absurd h hkl)
   unfold putC
   rw [hpos, if_neg (fun h => hkl h.1)]
   repeat' (first
| refine wO ?_
| (refine o_go rfl ?_; (first
| refine wS ?_); refine ⟨_, aB, ?_⟩)
| (refine o_s rfl ?_; refine ⟨_, aB, ?_⟩)
| (refine o_splitD rfl rfl rfl ?_ ?_ <;> intro hc <;> first | omega | dsimp only [List.set_cons_zero, List.set_cons_succ])
| refine wE ?_)
   all_goals try (exfalso; omega)
   refine g_region_drawY [(1, some [0]), (2, some [0]), (3, some [0]), (5, some [0]), (6, some [0]), (8, some [0]), (9, some [0]), (10, some [0]), (0, none), (4, none), (7, none), (11, none), (12, none)] [(0, 0), (4, 0), (7, 0), (11, 0)] (by kernel_rfl) rfl (by kernel_rfl) ?_
   repeat' (first
| refine y_nil ?_
| ((first
| refine y_pure rfl rfl (fun _ => ps_sliceToM rfl rfl rfl zz zz) aJ aE ?_
| refine y_pure rfl rfl (fun _ => ps_sliceFromM rfl rfl rfl zz zz) aJ aE ?_
| refine y_pure rfl rfl (fun _ => zD rfl) aJ aE ?_
| refine y_pure rfl rfl (fun _ => ps_lit1 rfl rfl (by rfl) (by rfl)) aJ aE ?_
| refine y_eff rfl rfl aF (j_lit0T rfl zd) ?_
| refine y_eff rfl rfl aF (j_pure (zA rfl)) ?_
| refine y_eff rfl rfl aF (j_append rfl rfl rfl rfl rfl rfl (by first | exact one_one rfl | exact one_map (fun _ => rfl) _) rfl aR aR) ?_); refine ⟨_, aP, ?_⟩))
   repeat' (first
| refine kr1 ?_
| refine krS rfl ?_
| refine wE ?_)
   all_goals first | (rw [List.map_append, List.map_cons, List.append_assoc]; done) | (simp; done) | (exfalso; omega)
end Go.Proofs.YtepjlgilopfnpaaGreat
/- Walks: the reference's known algebras, each. -/
namespace Go.Proofs.YtepjlgilopfnpaaGreat
open Go Go.Pv Go.Proofs
set_option maxHeartbeats 32000000
set_option maxRecDepth 100000
attribute [local bitvec_to_nat] posI optP lendM1 lendMA lendMP killM1 killMA killMP hasI getO backM1 backMA backMP putL inpM pinM1 pinMA pinMP killR1 killRA killR

def smA (ops : List OpD) : Prop := ops.length ≤ 10 ∧ ∀ f ∈ ops, f.tb.length ≤ 100
theorem smA.ok {ops : List OpD} (h : smA ops) : szOk ops := ⟨by have := h.1; omega, fun f hf => by have := h.2 f hf; omega⟩
theorem smA_nil : smA [] := ⟨by decide, fun f hf => by simp at hf⟩
theorem smA_cons {f : OpD} {ops : List OpD} (h : smA ops) (hl : ops.length ≤ 9) (hf : f.tb.length ≤ 100) : smA (f :: ops) :=
 ⟨by rw [List.length_cons]; omega, fun g hg => by
  rcases List.mem_cons.1 hg with rfl | hg
  · exact hf
  · exact h.2 g hg⟩
theorem known0_c : PCalls Tryz.prog 142 [I 0] (algP 2 [binO ⟨#[48, 48, 48, 49]⟩]) := by
 refine pcallsC Tryz.func142 rfl Tryz.ntmps142 rfl ?_
 refine wF ?_
 repeat' (first
| refine wO ?_
| (refine o_go rfl ?_; (first
| refine p_p (zG rfl rfl aD (binary_c _ zd zd)) ?_
| refine p_p (ps_lits rfl ze ze aU zd zd) ?_
| refine wS ?_
| refine p_e rfl (zO rfl rfl rfl rfl aK rfl rfl rfl) ?_
| refine p_e rfl (e_alloc rfl) ?_
| refine p_p (ps_build rfl rfl) ?_); refine ⟨_, aB, ?_⟩)
| refine krc ?_
| refine krC rfl aK ?_
| refine wE ?_)
 all_goals first | rfl | (exfalso; omega)
theorem known1_c : PCalls Tryz.prog 142 [I 1] (algP 2 [binO ⟨#[48, 48, 48, 49]⟩, binO ⟨#[48, 49, 49, 49]⟩]) := by
 refine pcallsC Tryz.func142 rfl Tryz.ntmps142 rfl ?_
 refine wF ?_
 repeat' (first
| refine wO ?_
| (refine o_go rfl ?_; (first
| refine p_p (zG rfl rfl aD (binary_c _ zd zd)) ?_
| refine p_p (ps_lits rfl ze ze aU zd zd) ?_
| refine wS ?_
| refine p_e rfl (zO rfl rfl rfl rfl aK rfl rfl rfl) ?_
| refine p_e rfl (e_alloc rfl) ?_
| refine p_p (ps_build rfl rfl) ?_); refine ⟨_, aB, ?_⟩)
| refine krc ?_
| refine krC rfl aK ?_
| refine wE ?_)
 all_goals first | rfl | (exfalso; omega)
theorem known2_c : PCalls Tryz.prog 142 [I 2] (algP 2 [binO ⟨#[48, 48, 48, 49]⟩, binO ⟨#[48, 49, 49, 49]⟩, ⟨1, [1, 0]⟩]) := by
 refine pcallsC Tryz.func142 rfl Tryz.ntmps142 rfl ?_
 refine wF ?_
 repeat' (first
| refine wO ?_
| (refine o_go rfl ?_; (first
| refine p_p (zG rfl rfl aD (binary_c _ zd zd)) ?_
| refine p_p (ps_lits rfl ze ze aU zd zd) ?_
| refine wS ?_
| refine p_e rfl (zO rfl rfl rfl rfl aK rfl rfl rfl) ?_
| refine p_e rfl (e_alloc rfl) ?_
| refine p_p (ps_build rfl rfl) ?_); refine ⟨_, aB, ?_⟩)
| refine krc ?_
| refine krC rfl aK ?_
| refine wE ?_)
 all_goals first | rfl | (exfalso; omega)
theorem known3_c : PCalls Tryz.prog 142 [I 3] (algP 2 [affO 2]) := by
 refine pcallsC Tryz.func142 rfl Tryz.ntmps142 rfl ?_
 refine wF ?_
 repeat' (first
| refine wO ?_
| (refine o_go rfl ?_; (first
| refine p_p (zG rfl rfl aD (affine2_c)) ?_
| refine p_p (ps_lits rfl ze ze aU zd zd) ?_
| refine wS ?_
| refine p_e rfl (zO rfl rfl rfl rfl aK rfl rfl rfl) ?_
| refine p_e rfl (e_alloc rfl) ?_
| refine p_p (ps_build rfl rfl) ?_); refine ⟨_, aB, ?_⟩)
| refine krc ?_
| refine krC rfl aK ?_
| refine wE ?_)
 all_goals first | rfl | (exfalso; omega)
theorem known4_c : PCalls Tryz.prog 142 [I 4] (algP 3 [binO ⟨#[48, 49, 50, 49, 50, 48, 50, 48, 49]⟩]) := by
 refine pcallsC Tryz.func142 rfl Tryz.ntmps142 rfl ?_
 refine wF ?_
 repeat' (first
| refine wO ?_
| (refine o_go rfl ?_; (first
| refine p_p (zG rfl rfl aD (binary_c _ zd zd)) ?_
| refine p_p (ps_lits rfl ze ze aU zd zd) ?_
| refine wS ?_
| refine p_e rfl (zO rfl rfl rfl rfl aK rfl rfl rfl) ?_
| refine p_e rfl (e_alloc rfl) ?_
| refine p_p (ps_build rfl rfl) ?_); refine ⟨_, aB, ?_⟩)
| refine krc ?_
| refine krC rfl aK ?_
| refine wE ?_)
 all_goals first | rfl | (exfalso; omega)
theorem known5_c : PCalls Tryz.prog 142 [I 5] (algP 3 [binO ⟨#[48, 49, 48, 49, 49, 50, 48, 50, 50]⟩]) := by
 refine pcallsC Tryz.func142 rfl Tryz.ntmps142 rfl ?_
 refine wF ?_
 repeat' (first
| refine wO ?_
| (refine o_go rfl ?_; (first
| refine p_p (zG rfl rfl aD (binary_c _ zd zd)) ?_
| refine p_p (ps_lits rfl ze ze aU zd zd) ?_
| refine wS ?_
| refine p_e rfl (zO rfl rfl rfl rfl aK rfl rfl rfl) ?_
| refine p_e rfl (e_alloc rfl) ?_
| refine p_p (ps_build rfl rfl) ?_); refine ⟨_, aB, ?_⟩)
| refine krc ?_
| refine krC rfl aK ?_
| refine wE ?_)
 all_goals first | rfl | (exfalso; omega)
theorem known6_c : PCalls Tryz.prog 142 [I 6] (algP 4 [binO ⟨#[48, 49, 50, 51, 49, 48, 51, 50, 50, 51, 48, 49, 51, 50, 49, 48]⟩]) := by
 refine pcallsC Tryz.func142 rfl Tryz.ntmps142 rfl ?_
 refine wF ?_
 repeat' (first
| refine wO ?_
| (refine o_go rfl ?_; (first
| refine p_p (zG rfl rfl aD (binary_c _ zd zd)) ?_
| refine p_p (ps_lits rfl ze ze aU zd zd) ?_
| refine wS ?_
| refine p_e rfl (zO rfl rfl rfl rfl aK rfl rfl rfl) ?_
| refine p_e rfl (e_alloc rfl) ?_
| refine p_p (ps_build rfl rfl) ?_); refine ⟨_, aB, ?_⟩)
| refine krc ?_
| refine krC rfl aK ?_
| refine wE ?_)
 all_goals first | rfl | (exfalso; omega)
theorem known7_c : PCalls Tryz.prog 142 [I 7] (algP 3 [binO ⟨#[48, 48, 48, 48, 49, 49, 48, 49, 50]⟩, binO ⟨#[48, 49, 50, 49, 49, 50, 50, 50, 50]⟩]) := by
 refine pcallsC Tryz.func142 rfl Tryz.ntmps142 rfl ?_
 refine wF ?_
 repeat' (first
| refine wO ?_
| (refine o_go rfl ?_; (first
| refine p_p (zG rfl rfl aD (binary_c _ zd zd)) ?_
| refine p_p (ps_lits rfl ze ze aU zd zd) ?_
| refine wS ?_
| refine p_e rfl (zO rfl rfl rfl rfl aK rfl rfl rfl) ?_
| refine p_e rfl (e_alloc rfl) ?_
| refine p_p (ps_build rfl rfl) ?_); refine ⟨_, aB, ?_⟩)
| refine krc ?_
| refine krC rfl aK ?_
| refine wE ?_)
 all_goals first | rfl | (exfalso; omega)
theorem known8_c : PCalls Tryz.prog 142 [I 8] (algP 4 [⟨1, [1, 2, 3, 0]⟩]) := by
 refine pcallsC Tryz.func142 rfl Tryz.ntmps142 rfl ?_
 refine wF ?_
 repeat' (first
| refine wO ?_
| (refine o_go rfl ?_; (first
| refine p_p (ps_lits rfl ze ze aU zd zd) ?_
| refine wS ?_
| refine p_e rfl (zO rfl rfl rfl rfl aK rfl rfl rfl) ?_
| refine p_e rfl (e_alloc rfl) ?_
| refine p_p (ps_build rfl rfl) ?_); refine ⟨_, aB, ?_⟩)
| refine krc ?_
| refine krC rfl aK ?_
| refine wE ?_)
 all_goals first | rfl | (exfalso; omega)
theorem known9_c : PCalls Tryz.prog 142 [I 9] (algP 2 [⟨3, [0, 0, 0, 1, 0, 1, 1, 1]⟩]) := by
 refine pcallsC Tryz.func142 rfl Tryz.ntmps142 rfl ?_
 refine wF ?_
 repeat' (first
| refine wO ?_
| (refine o_go rfl ?_; (first
| refine p_p (ps_lits rfl ze ze aU zd zd) ?_
| refine wS ?_
| refine p_e rfl (zO rfl rfl rfl rfl aK rfl rfl rfl) ?_
| refine p_e rfl (e_alloc rfl) ?_
| refine p_p (ps_build rfl rfl) ?_); refine ⟨_, aB, ?_⟩)
| refine krc ?_
| refine krC rfl aK ?_
| refine wE ?_)
 all_goals first | rfl | (exfalso; omega)
theorem known10_c : PCalls Tryz.prog 142 [I 10] (algP 3 [binO ⟨#[48, 48, 48, 49, 49, 49, 50, 50, 50]⟩]) := by
 refine pcallsC Tryz.func142 rfl Tryz.ntmps142 rfl ?_
 refine wF ?_
 repeat' (first
| refine wO ?_
| (refine o_go rfl ?_; (first
| refine p_p (zG rfl rfl aD (binary_c _ zd zd)) ?_
| refine p_p (ps_lits rfl ze ze aU zd zd) ?_
| refine wS ?_
| refine p_e rfl (zO rfl rfl rfl rfl aK rfl rfl rfl) ?_
| refine p_e rfl (e_alloc rfl) ?_
| refine p_p (ps_build rfl rfl) ?_); refine ⟨_, aB, ?_⟩)
| refine krc ?_
| refine krC rfl aK ?_
| refine wE ?_)
 all_goals first | rfl | (exfalso; omega)
theorem known11_c : PCalls Tryz.prog 142 [I 11] (algP 5 [binO ⟨#[48, 48, 48, 48, 48, 48, 49, 48, 48, 49, 48, 48, 50, 48, 50, 48, 48, 48, 51, 51, 48, 49, 50, 51, 52]⟩, binO ⟨#[48, 49, 50, 51, 52, 49, 49, 52, 52, 52, 50, 52, 50, 52, 52, 51, 52, 52, 51, 52, 52, 52, 52, 52, 52]⟩]) := by
 refine pcallsC Tryz.func142 rfl Tryz.ntmps142 rfl ?_
 refine wF ?_
 repeat' (first
| refine wO ?_
| (refine o_go rfl ?_; (first
| refine p_p (zG rfl rfl aD (binary_c _ zd zd)) ?_
| refine p_p (ps_lits rfl ze ze aU zd zd) ?_
| refine wS ?_
| refine p_e rfl (zO rfl rfl rfl rfl aK rfl rfl rfl) ?_
| refine p_e rfl (e_alloc rfl) ?_
| refine p_p (ps_build rfl rfl) ?_); refine ⟨_, aB, ?_⟩)
| refine krc ?_
| refine krC rfl aK ?_
| refine wE ?_)
 all_goals first | rfl | (exfalso; omega)
theorem known12_c : PCalls Tryz.prog 142 [I 12] (algP 4 [binO ⟨#[48, 49, 50, 51, 49, 50, 51, 48, 50, 51, 48, 49, 51, 48, 49, 50]⟩]) := by
 refine pcallsC Tryz.func142 rfl Tryz.ntmps142 rfl ?_
 refine wF ?_
 repeat' (first
| refine wO ?_
| (refine o_go rfl ?_; (first
| refine p_p (zG rfl rfl aD (binary_c _ zd zd)) ?_
| refine p_p (ps_lits rfl ze ze aU zd zd) ?_
| refine wS ?_
| refine p_e rfl (zO rfl rfl rfl rfl aK rfl rfl rfl) ?_
| refine p_e rfl (e_alloc rfl) ?_
| refine p_p (ps_build rfl rfl) ?_); refine ⟨_, aB, ?_⟩)
| refine krc ?_
| refine krC rfl aK ?_
| refine wE ?_)
 all_goals first | rfl | (exfalso; omega)
theorem known13_c : PCalls Tryz.prog 142 [I 13] (algP 3 [⟨1, [0, 0, 1]⟩, ⟨0, [2]⟩]) := by
 refine pcallsC Tryz.func142 rfl Tryz.ntmps142 rfl ?_
 refine wF ?_
 repeat' (first
| refine wO ?_
| (refine o_go rfl ?_; (first
| refine p_p (ps_lits rfl ze ze aU zd zd) ?_
| refine wS ?_
| refine p_e rfl (zO rfl rfl rfl rfl aK rfl rfl rfl) ?_
| refine p_e rfl (e_alloc rfl) ?_
| refine p_p (ps_build rfl rfl) ?_); refine ⟨_, aB, ?_⟩)
| refine krc ?_
| refine krC rfl aK ?_
| refine wE ?_)
 all_goals first | rfl | (exfalso; omega)
theorem known14_c : PCalls Tryz.prog 142 [I 14] (algP 1 [binO ⟨#[48]⟩]) := by
 refine pcallsC Tryz.func142 rfl Tryz.ntmps142 rfl ?_
 refine wF ?_
 repeat' (first
| refine wO ?_
| (refine o_go rfl ?_; (first
| refine p_p (zG rfl rfl aD (binary_c _ zd zd)) ?_
| refine p_p (ps_lits rfl ze ze aU zd zd) ?_
| refine wS ?_
| refine p_e rfl (zO rfl rfl rfl rfl aK rfl rfl rfl) ?_
| refine p_e rfl (e_alloc rfl) ?_
| refine p_p (ps_build rfl rfl) ?_); refine ⟨_, aB, ?_⟩)
| refine krc ?_
| refine krC rfl aK ?_
| refine wE ?_)
 all_goals first | rfl | (exfalso; omega)
theorem known15_c : PCalls Tryz.prog 142 [I 15] (algP 3 [affO 3]) := by
 refine pcallsC Tryz.func142 rfl Tryz.ntmps142 rfl ?_
 refine wF ?_
 repeat' (first
| refine wO ?_
| (refine o_go rfl ?_; (first
| refine p_p (zG rfl rfl aD (affine3_c)) ?_
| refine p_p (ps_lits rfl ze ze aU zd zd) ?_
| refine wS ?_
| refine p_e rfl (zO rfl rfl rfl rfl aK rfl rfl rfl) ?_
| refine p_e rfl (e_alloc rfl) ?_
| refine p_p (ps_build rfl rfl) ?_); refine ⟨_, aB, ?_⟩)
| refine krc ?_
| refine krC rfl aK ?_
| refine wE ?_)
 all_goals first | rfl | (exfalso; omega)
theorem knownX_c (k : Int) (h : k < 0 ∨ 16 ≤ k) : PCalls Tryz.prog 142 [I k] (.agg [I 2, nilV]) := by
 refine pcallsC Tryz.func142 rfl Tryz.ntmps142 rfl ?_
 refine wF ?_
 repeat' (first
| refine wO ?_
| (refine o_go rfl ?_; (first
| refine wS ?_
| refine p_e rfl (zO rfl rfl rfl rfl aK rfl rfl rfl) ?_
| refine p_e rfl (e_alloc rfl) ?_
| refine p_p (ps_build rfl rfl) ?_); refine ⟨_, aB, ?_⟩)
| (refine zK rfl ?_ ?_ <;> intro hc <;> try omega)
| refine krc ?_
| refine krC rfl aK ?_
| refine wE ?_)
 all_goals first | rfl | (exfalso; omega)
end Go.Proofs.YtepjlgilopfnpaaGreat
