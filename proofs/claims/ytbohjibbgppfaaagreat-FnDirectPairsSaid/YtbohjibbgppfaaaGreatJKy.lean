/- Lemmas of the proof. No condition. -/
import Derived.Test.YtbohjibbgppfaaaGreatJKv
import Derived.Test.YtbohjibbgppfaaaGreatJKn
import Derived.Test.YtbohjibbgppfaaaGreatJPr
import Derived.Test.YtbohjibbgppfaaaGreatJNb
import Derived.Test.YtbohjibbgppfaaaGreatJKc
import Derived.Test.YtbohjibbgppfaaaGreatJAr
import Derived.Test.YtbohjibbgppfaaaGreatJSq
import Derived.Test.YtbohjibbgppfaaaGreatJHn
set_option linter.unusedSectionVars false
namespace Go.Proofs.YtbohjibbgppfaaaGreat
open Go Go.Pv Go.Proofs
set_option maxHeartbeats 32000000
set_option maxRecDepth 100000
def okC (m : Nat) (r : List Int) : Prop := r.length = m ∧ ∀ k, k < m → 0 ≤ r.getD k 0
theorem Pt.okC {m : Nat} {p : List Int} (h : Pt m p) : okC m p := ⟨h.len, h.nn⟩
def cntK (p : List Int) (k : Nat) : Nat := ((List.range k).filter fun x => decide (bk p x = x)).length
theorem cntK_succ (p : List Int) (k : Nat) : cntK p (k + 1) = cntK p k + if bk p k = k then 1 else 0 := by
 unfold cntK
 rw [List.range_succ, List.filter_append, List.length_append, List.filter_cons]
 split
 · next h => rw [if_pos (of_decide_eq_true h)]; rfl
 · next h => rw [if_neg (fun e => h (decide_eq_true e))]; rfl
theorem cntK_le (p : List Int) (k : Nat) : cntK p k ≤ k := by
 unfold cntK; exact Nat.le_trans (List.length_filter_le ..) (by simp)
theorem scount_c (n : Nat) (p : List Int) (hn : n ≤ 1048576) (hp : okC n p) : PCalls Tryz.prog 220 [ints p] (I (cnt n p : Int)) := by
 refine pcalls1 Tryz.func220 rfl Tryz.ntmps220 rfl ?_
 refine wF ?_
 have hpl := hp.1
 repeat' (first
| refine wO ?_
| (refine o_go rfl ?_; (first
| refine wS ?_); refine ⟨_, aA, ?_⟩))
 refine g_loopT (α := Nat) (fun k => [(3, I (cntK p k : Int)), (4, I (k : Int))]) (fun _ => []) (fun k => k ≤ n) (fun k => n - k) 0 aH (Nat.zero_le _) ⟨rfl, rfl, trivial⟩ rfl ?_
 rintro k hk
 refine wH ?_
 have hc1 := cntK_le p k
 by_cases hkn : k < n
 · have hs := cntK_succ p k
   have hv : p.getD k 0 = (bk p k : Int) := by have := hp.2 k hkn; unfold bk; omega
   have hix : (p.map I)[((k : Nat) : Int).toNat]? = some (I (bk p k : Int)) := by rw [← hv]; exact idx_I (by omega)
   by_cases he : bk p k = k
   · rw [if_pos he] at hs
     repeat' (first
| refine wO ?_
| (refine o_go rfl ?_; (first
| refine p_p (zN rfl rfl rfl zz hix ze) ?_
| refine wS ?_); refine ⟨_, aA, ?_⟩)
| (refine zK rfl ?_ ?_ <;> intro hc <;> try omega)
| refine wE ?_)
     all_goals try (exfalso; omega)
     exact zT (k + 1) (by omega) (by omega) aI ⟨vI (by omega), rfl, trivial⟩ (zM _)
   · rw [if_neg he] at hs
     repeat' (first
| refine wO ?_
| (refine o_go rfl ?_; (first
| refine p_p (zN rfl rfl rfl zz hix ze) ?_
| refine wS ?_); refine ⟨_, aA, ?_⟩)
| (refine zK rfl ?_ ?_ <;> intro hc <;> try omega)
| refine wE ?_)
     all_goals try (exfalso; omega)
     exact zT (k + 1) (by omega) (by omega) aI ⟨vI (by omega), rfl, trivial⟩ (zM _)
 · repeat' (first
| refine wO ?_
| (refine o_go rfl ?_; (first
| refine wS ?_); refine ⟨_, aA, ?_⟩)
| (refine zK rfl ?_ ?_ <;> intro hc <;> try omega)
| refine kr1 ?_
| refine krI rfl ?_
| refine wE ?_)
   all_goals try (exfalso; omega)
   rw [show k = n by omega]; rfl
theorem rows_at {V : List (List Int)} {k : Nat} (h : k < V.length) : (V.map ints)[((k : Nat) : Int).toNat]? = some (ints (V.getD k [])) := by
 rw [Int.toNat_natCast, List.getElem?_map, List.getElem?_eq_getElem h, List.getD_eq_getElem?_getD, List.getElem?_eq_getElem h]; rfl
theorem rows_mem {V : List (List Int)} {k : Nat} (h : k < V.length) : V.getD k [] ∈ V := by
 rw [List.getD_eq_getElem?_getD, List.getElem?_eq_getElem h]; exact List.getElem_mem _
theorem sput_c (n : Nat) (V : List (List Int)) (p : List Int) (hn : n ≤ 1000) (hV : ∀ q ∈ V, okC n q) (hp : okC n p) (hl : V.length ≤ 100000) : PCalls Tryz.prog 218 [intss V, ints p] (intss (putC n V p)) := by
 refine pcalls1 Tryz.func218 rfl Tryz.ntmps218 rfl ?_
 refine wF ?_
 have hcp := scount_c n p (by omega) hp
 have hcl := cnt_le n p
 repeat' (first
| refine wO ?_
| (refine o_go rfl ?_; (first
| refine wS ?_); refine ⟨_, aA, ?_⟩))
 refine g_loopT (α := Nat) (fun k => [(5, I (k : Int))]) (fun _ => []) (fun k => k ≤ V.length ∧ ∀ i, i < k → cmpC n (V.getD i []) p < 0) (fun k => V.length - k) 0 aH ⟨Nat.zero_le _, fun i hi => absurd hi (Nat.not_lt_zero _)⟩ ⟨rfl, trivial⟩ rfl ?_
 rintro k ⟨hk, hlow⟩
 refine wH ?_
 by_cases hkl : k < V.length
 · have hrow := rows_at hkl
   have hok := hV _ (rows_mem hkl)
   have hca := scount_c n (V.getD k []) (by omega) hok
   have hcl2 := cnt_le n (V.getD k [])
   have hls := less5_c (V.getD k []) p (by rw [hok.1, hp.1]) (by rw [hok.1]; omega)
   have hsm := gsame_c (V.getD k []) p (by rw [hok.1]; omega)
   have hcc : cmpC n (V.getD k []) p = if cnt n p ≠ cnt n (V.getD k []) then (cnt n p : Int) - (cnt n (V.getD k []) : Int) else cmpX (V.getD k []) p := rfl
   by_cases h1 : cnt n p < cnt n (V.getD k [])
   · rw [if_pos (by omega)] at hcc
     repeat' (first
| refine wO ?_
| (refine o_go rfl ?_; (first
| refine p_p (zG rfl rfl aD (hca)) ?_
| refine p_p (zG rfl rfl aD (hcp)) ?_
| refine p_p (zN rfl rfl rfl zz hrow ze) ?_
| refine wS ?_); refine ⟨_, aA, ?_⟩)
| (refine o_s rfl ?_; refine ⟨_, aA, ?_⟩)
| (refine o_splitD rfl rfl rfl ?_ ?_ <;> intro hc <;> first | omega | dsimp only [List.set_cons_zero, List.set_cons_succ])
| refine wE ?_)
     all_goals try (exfalso; omega)
     refine zT (k + 1) ⟨by omega, fun i hi => ?_⟩ (by omega) aI ⟨rfl, trivial⟩ (zM _)
     rcases Nat.lt_or_ge i k with h | h
     · exact hlow i h
     · rw [show i = k by omega, hcc]; omega
   by_cases h2 : cnt n p = cnt n (V.getD k [])
   · rw [if_neg (fun h => h h2)] at hcc
     by_cases h3 : cmpX (V.getD k []) p < 0
     · rw [decide_eq_true h3] at hls
       repeat' (first
| refine wO ?_
| (refine o_go rfl ?_; (first
| refine p_p (zG rfl rfl aD (hca)) ?_
| refine p_p (zG rfl rfl aD (hcp)) ?_
| refine p_p (zG rfl rfl aD (hls)) ?_
| refine p_p (zN rfl rfl rfl zz hrow ze) ?_
| refine wS ?_); refine ⟨_, aA, ?_⟩)
| (refine o_splitD rfl rfl rfl ?_ ?_ <;> intro hc <;> first | omega | dsimp only [List.set_cons_zero, List.set_cons_succ])
| refine wE ?_)
       all_goals try (exfalso; omega)
       refine zT (k + 1) ⟨by omega, fun i hi => ?_⟩ (by omega) aI ⟨rfl, trivial⟩ (zM _)
       rcases Nat.lt_or_ge i k with h | h
       · exact hlow i h
       · rw [show i = k by omega, hcc]; exact h3
     · rw [decide_eq_false h3] at hls
       have hstop : k < V.length → ¬ cmpC n (V.getD k []) p < 0 := fun _ => by rw [hcc]; exact h3
       have hpos := posC_eq n p V k hk hlow hstop
       unfold putC
       rw [hpos]
       by_cases he : V.getD k [] = p
       · rw [decide_eq_true he] at hsm
         rw [if_pos ⟨hkl, he⟩]
         repeat' (first
| refine wO ?_
| (refine o_go rfl ?_; (first
| refine p_p (zG rfl rfl aD (hca)) ?_
| refine p_p (zG rfl rfl aD (hcp)) ?_
| refine p_p (zG rfl rfl aD (hls)) ?_
| refine p_p (zG rfl rfl aD (hsm)) ?_
| refine p_p (zN rfl rfl rfl zz hrow ze) ?_
| refine wS ?_); refine ⟨_, aA, ?_⟩)
| (refine o_splitD rfl rfl rfl ?_ ?_ <;> intro hc <;> first | omega | dsimp only [List.set_cons_zero, List.set_cons_succ])
| refine kr1 ?_
| refine krS rfl ?_
| refine wE ?_)
         all_goals first | rfl | (exfalso; omega)
       · rw [decide_eq_false he] at hsm
         rw [if_neg (fun h => he h.2)]
         repeat' (first
| refine wO ?_
| (refine o_go rfl ?_; (first
| refine p_p (zG rfl rfl aD (hca)) ?_
| refine p_p (zG rfl rfl aD (hcp)) ?_
| refine p_p (zG rfl rfl aD (hls)) ?_
| refine p_p (zG rfl rfl aD (hsm)) ?_
| refine p_p (zN rfl rfl rfl zz hrow ze) ?_
| refine wS ?_); refine ⟨_, aA, ?_⟩)
| (refine o_splitD rfl rfl rfl ?_ ?_ <;> intro hc <;> first | omega | dsimp only [List.set_cons_zero, List.set_cons_succ])
| refine wE ?_)
         all_goals try (exfalso; omega)
         refine g_region_drawY [(1, some [0]), (2, some [0]), (3, some [0]), (5, some [0]), (6, some [0]), (8, some [0]), (9, some [0]), (10, some [0]), (0, none), (4, none), (7, none), (11, none), (12, none)] [(0, 0), (4, 0), (7, 0), (11, 0)] (by kernel_rfl) rfl (by kernel_rfl) ?_
         repeat' (first
| refine y_nil ?_
| ((first
| refine y_pure rfl rfl (fun _ => ps_sliceToM rfl rfl rfl zz zz) aL aE ?_
| refine y_pure rfl rfl (fun _ => ps_sliceFromM rfl rfl rfl zz zz) aL aE ?_
| refine y_pure rfl rfl (fun _ => zD rfl) aL aE ?_
| refine y_pure rfl rfl (fun _ => ps_lit1 rfl rfl (by rfl) (by rfl)) aL aE ?_
| refine y_eff rfl rfl aF (j_lit0T rfl zd) ?_
| refine y_eff rfl rfl aF (j_pure (zA rfl)) ?_
| refine y_eff rfl rfl aF (j_append rfl rfl rfl rfl rfl rfl (by first | exact one_one rfl | exact one_map (fun _ => rfl) _) rfl aT aT) ?_); refine ⟨_, aS, ?_⟩))
         repeat' (first
| refine kr1 ?_
| refine krS rfl ?_
| refine wE ?_)
         all_goals first | (rw [List.map_append, List.map_cons, List.append_assoc]; done) | (simp; done) | (exfalso; omega)
   · rw [if_pos h2] at hcc
     have hstop : k < V.length → ¬ cmpC n (V.getD k []) p < 0 := fun _ => by rw [hcc]; omega
     have hpos := posC_eq n p V k hk hlow hstop
     unfold putC
     rw [hpos]
     by_cases he : V.getD k [] = p
     · rw [decide_eq_true he] at hsm
       rw [if_pos ⟨hkl, he⟩]
       repeat' (first
| refine wO ?_
| (refine o_go rfl ?_; (first
| refine p_p (zG rfl rfl aD (hca)) ?_
| refine p_p (zG rfl rfl aD (hcp)) ?_
| refine p_p (zG rfl rfl aD (hsm)) ?_
| refine p_p (zN rfl rfl rfl zz hrow ze) ?_
| refine wS ?_); refine ⟨_, aA, ?_⟩)
| (refine o_s rfl ?_; refine ⟨_, aA, ?_⟩)
| (refine o_splitD rfl rfl rfl ?_ ?_ <;> intro hc <;> first | omega | dsimp only [List.set_cons_zero, List.set_cons_succ])
| refine kr1 ?_
| refine krS rfl ?_
| refine wE ?_)
       all_goals first | rfl | (exfalso; omega)
     · rw [decide_eq_false he] at hsm
       rw [if_neg (fun h => he h.2)]
       repeat' (first
| refine wO ?_
| (refine o_go rfl ?_; (first
| refine p_p (zG rfl rfl aD (hca)) ?_
| refine p_p (zG rfl rfl aD (hcp)) ?_
| refine p_p (zG rfl rfl aD (hsm)) ?_
| refine p_p (zN rfl rfl rfl zz hrow ze) ?_
| refine wS ?_); refine ⟨_, aA, ?_⟩)
| (refine o_s rfl ?_; refine ⟨_, aA, ?_⟩)
| (refine o_splitD rfl rfl rfl ?_ ?_ <;> intro hc <;> first | omega | dsimp only [List.set_cons_zero, List.set_cons_succ])
| refine wE ?_)
       all_goals try (exfalso; omega)
       refine g_region_drawY [(1, some [0]), (2, some [0]), (3, some [0]), (5, some [0]), (6, some [0]), (8, some [0]), (9, some [0]), (10, some [0]), (0, none), (4, none), (7, none), (11, none), (12, none)] [(0, 0), (4, 0), (7, 0), (11, 0)] (by kernel_rfl) rfl (by kernel_rfl) ?_
       repeat' (first
| refine y_nil ?_
| ((first
| refine y_pure rfl rfl (fun _ => ps_sliceToM rfl rfl rfl zz zz) aL aE ?_
| refine y_pure rfl rfl (fun _ => ps_sliceFromM rfl rfl rfl zz zz) aL aE ?_
| refine y_pure rfl rfl (fun _ => zD rfl) aL aE ?_
| refine y_pure rfl rfl (fun _ => ps_lit1 rfl rfl (by rfl) (by rfl)) aL aE ?_
| refine y_eff rfl rfl aF (j_lit0T rfl zd) ?_
| refine y_eff rfl rfl aF (j_pure (zA rfl)) ?_
| refine y_eff rfl rfl aF (j_append rfl rfl rfl rfl rfl rfl (by first | exact one_one rfl | exact one_map (fun _ => rfl) _) rfl aT aT) ?_); refine ⟨_, aS, ?_⟩))
       repeat' (first
| refine kr1 ?_
| refine krS rfl ?_
| refine wE ?_)
       all_goals first | (rw [List.map_append, List.map_cons, List.append_assoc]; done) | (simp; done) | (exfalso; omega)
 · have hpos := posC_eq n p V k hk hlow (fun h => absurd h hkl)
   unfold putC
   rw [hpos, if_neg (fun h => hkl h.1)]
   repeat' (first
| refine wO ?_
| (refine o_go rfl ?_; (first
| refine wS ?_); refine ⟨_, aA, ?_⟩)
| (refine o_s rfl ?_; refine ⟨_, aA, ?_⟩)
| (refine o_splitD rfl rfl rfl ?_ ?_ <;> intro hc <;> first | omega | dsimp only [List.set_cons_zero, List.set_cons_succ])
| refine wE ?_)
   all_goals try (exfalso; omega)
   refine g_region_drawY [(1, some [0]), (2, some [0]), (3, some [0]), (5, some [0]), (6, some [0]), (8, some [0]), (9, some [0]), (10, some [0]), (0, none), (4, none), (7, none), (11, none), (12, none)] [(0, 0), (4, 0), (7, 0), (11, 0)] (by kernel_rfl) rfl (by kernel_rfl) ?_
   repeat' (first
| refine y_nil ?_
| ((first
| refine y_pure rfl rfl (fun _ => ps_sliceToM rfl rfl rfl zz zz) aL aE ?_
| refine y_pure rfl rfl (fun _ => ps_sliceFromM rfl rfl rfl zz zz) aL aE ?_
| refine y_pure rfl rfl (fun _ => zD rfl) aL aE ?_
| refine y_pure rfl rfl (fun _ => ps_lit1 rfl rfl (by rfl) (by rfl)) aL aE ?_
| refine y_eff rfl rfl aF (j_lit0T rfl zd) ?_
| refine y_eff rfl rfl aF (j_pure (zA rfl)) ?_
| refine y_eff rfl rfl aF (j_append rfl rfl rfl rfl rfl rfl (by first | exact one_one rfl | exact one_map (fun _ => rfl) _) rfl aT aT) ?_); refine ⟨_, aS, ?_⟩))
   repeat' (first
| refine kr1 ?_
| refine krS rfl ?_
| refine wE ?_)
   all_goals first | (rw [List.map_append, List.map_cons, List.append_assoc]; done) | (simp; done) | (exfalso; omega)
end Go.Proofs.YtbohjibbgppfaaaGreat
namespace Go.Pv
open Go Go.MapKept
attribute [local semireducible] Go.Pv.Goal Go.Pv.PStep Go.Pv.EStep Go.Pv.KRets Go.Pv.PCalls Go.Pv.Ops Go.Pv.OpsG
section
variable {P : Program} {o : Oper} {S : St}
theorem e_mapInsert {t kt e : TypeId} {z : Value} [ht : MapT P t kt e z] {x y v : Operand} {b id : Nat} {l : List (ByteArray × PV)} {k : ByteArray} {p : PV} (ho : o.op = .insert t x y v) (hd : o.dst = none) (h1 : S.ev x = .val (.map (some b))) (hh : S.hp[id]? = some (.mp b l)) (h2 : S.ev y = .val (.string k)) (h3 : view S.hp (S.ev v) = p) :
 EStep P o S ⟨S.fr, S.hp.set id (.mp b (mpPut l k p))⟩ := by
 intro w0 g ρ a w hr Q K hK
 have e1 := val_of (hr.ev x) h1
 have e2 := val_of (hr.ev y) h2
 have ev3 := hr.base.view (hr.ev v)
 rw [h3] at ev3
 obtain ⟨es, cl, hm⟩ := hr.base.own id _ hh
 have hkey : IsKey .string (.string k) := trivial
 have hck : (Instr.checkKey false 10000 kt (.string k)).run P w = .ok () w := run_checkKey ht.hk hkey _ 9999
 have hsame : ∀ (l' : List (ByteArray × PV)) (v : Value) (p : PV), VRS1 g ρ S.hp v p → VRS1 g ρ (S.hp.set id (.mp b l')) v p := fun l' v p h => same_set hh (fun _ _ _ _ h => by cases h) (fun _ _ _ h => by cases h) (fun _ _ _ _ h => by cases h) (GExt.refl g) h
 have fin : ∀ (es' : Array MapEntry) (cl' : Nat) (l' : List (ByteArray × PV)), (Instr.mapUpdate t (.map (some b)) (.string k) (a.eval v)).run P w = .ok () { w with heap := w.heap.setIfInBounds b (.map es' cl') } → MpRel g es'.toList l' → mpPut l k p = l' → o.wp P a w K Q := fun es' cl' l' hrun hrel hl => by
  have hbase := hr.base.upd hh (x' := .mp b l') (ρ id) (GExt.refl g) _root_.id (by rw [upd_id, map_mapHO_id]; exact hsame l') (hr.base.agree.setB hm.hg hm.hw (y := .map es' cl')) (hr.base.below.setB hm.hB hm.hw) (fun _ _ _ => rfl)
   (by rw [upd_id, map_mapHO_id]; exact ⟨es', cl', hm.hblk, hm.hB, (heap_set hm.hw).1, hrel, hm.hg⟩) (fun b' hb' => .inl hb')
   (fun b' hb' hnf => ⟨(heap_set hm.hw).2 b' (fun e => hnf (by rw [e]; exact hm.hblk.symm)), fun _ => rfl⟩)
  rw [upd_id, map_mapHO_id] at hbase
  unfold Oper.wp
  simp only [execOp, ho, e1, e2]
  have hrun' : (do Instr.mapUpdate t (.map (some b)) (.string k) (a.eval v); pure Next.skip : Sem Next).run P w = .ok .skip { w with heap := w.heap.setIfInBounds b (.map es' cl') } := by
   rw [Sem.run_bind, hrun]; rfl
  rw [hrun']
  simp only [Oper.upon, hd]
  rw [hl] at hK
  exact hK g ρ a _ (GExt.refl g) (hr.same hbase (hsame l'))
 rcases findNow_mp k 0 hm.hk with ⟨q1, -, q3⟩ | ⟨j, en, p', q1, q2, q3, -, -, -, q7⟩
 · refine fin (es.push { key := .string k, val := a.eval v, born := cl }) (cl + 1) (l ++ [(k, p)]) ?_ ?_ (q3 p)
   · unfold Instr.mapUpdate
     simp [run_underlying ht.hu, Go.MapKept.run_getObj_map hm.hw, hck, Go.MapKept.run_findKey ht.hk q1, Go.MapKept.run_setObj_map _ hm.hw, Result.andThen]
   · rw [Array.toList_push]
     exact hm.hk.snoc rfl ev3
 · have hj : es[j]? = some en := by simpa using q2
   refine fin (es.modify j fun e => { e with key := .string k, val := a.eval v }) cl (l.set j (k, p)) ?_ ?_ (q7 p)
   · unfold Instr.mapUpdate
     simp [run_underlying ht.hu, Go.MapKept.run_getObj_map hm.hw, hck, Go.MapKept.run_findKey ht.hk q1, Go.MapKept.run_setObj_map _ hm.hw, Result.andThen, hj, q3, run_keyThatStays (P := P) (w := w) hkey]
   · have : (es.modify j fun e => { e with key := .string k, val := a.eval v }).toList = es.toList.set j { en with key := .string k, val := a.eval v } := by
      apply List.ext_getElem?
      intro i
      rw [Array.getElem?_toList, Array.getElem?_modify, List.getElem?_set, Array.getElem?_toList]
      by_cases e : j = i
      · subst e
        have hlt : j < es.toList.length := (List.getElem?_eq_some_iff.1 q2).1
        have hlt' : j < es.size := by simpa using hlt
        have hje : es[j] = en := by simpa [Array.getElem?_eq_getElem hlt'] using hj
        simp [hlt', hje]
      · simp [e]
     rw [this]
     exact MpRel.set (e := { en with key := .string k, val := a.eval v }) rfl ev3 j hm.hk
end
end Go.Pv
namespace Go.Pv
open Go
attribute [local semireducible] Go.Pv.Goal Go.Pv.Ops Go.Pv.PStep Go.Pv.EStep Go.Pv.KRets Go.Pv.PCalls Go.Pv.OpsG Go.Pv.RCalls
section
variable {P : Program} {o : Oper} {S : St}
theorem e_lit1T {t e : TypeId} {by_ : Nat} [ht : SlT P t e 1 by_] {zs : List Value} [hz : ZeroT P e zs] {x : Operand} {z : Value} (ho : o.op = .buildSlice t 1 #[(0, x)]) (h1 : S.ev x = .val z) (hp1 : (PV.val z).one = true) :
 EStep P o S (S.setObj S.hp.length (killH S.hp.length S.hp ++ [.arr true 1 e [.val z]]) o.dst (.hp S.hp.length)) := by
 intro w0 g ρ a w hr Q K hK
 have na : (∀ l, PV.val z ≠ .agg l) ∧ ∀ l, PV.val z ≠ .tup l := ⟨fun l e => (by cases e), fun l e => (by cases e)⟩
 have v1 : VRS1 g ρ S.hp (a.eval x) (.val z) := by have := hr.ev x; rw [h1] at this; exact this.to_one na.1 na.2
 have e1 : a.eval x = z := val_of (hr.ev x) h1
 obtain ⟨cells, hrun, hsz, hc0⟩ := run_lit1 ht hz (av := a.eval) ho (v1.oneCell hp1).1 w
 rw [e1] at hc0
 unfold Oper.wp
 rw [hrun]
 have hgn : ∀ o, g w.heap.size o = none := fun o => by
  cases hk : g w.heap.size o with
  | none => rfl
  | some v => exact absurd (hr.base.agree.lt hk) (Nat.lt_irrefl _)
 have hbl : RowKit.Below w.heap.size w (w.alloc (.cells cells e)) := (RowKit.Below.refl _ _).alloc (Nat.le_refl _) _
 have hbase := hr.base.push (x' := .arr true 1 e [.val z]) ⟨w.heap.size, 1, fun _ => 0, fun _ => 0⟩ (GExt.refl g) (killP1 S.hp.length) (fun v p h => h.kill S.hp.length _ (GExt.refl g) (fun i hi => killH_push _ _ hi)) (hr.base.agree.below hbl) hbl
  ⟨cells, fun _ => [.val z], ⟨by decide, Ini.own_new hr.base.below.size, by simp, by simp only [maxLen]; omega, heap_alloc_new w _, by simpa using hsz, fun k p hk => (by
   rcases k with _ | k
   · simp at hk; subst hk; exact ⟨flat_one hp1, rfl⟩
   · simp at hk), fun k j q hk hq => (by
   simp only [List.length_cons, List.length_nil] at hk
   have hk0 : k = 0 := by omega
   subst hk0
   rcases j with _ | j
   · simp at hq; subst hq; rw [Nat.zero_mul, Nat.add_zero, hc0]; exact .val z
   · simp at hq), fun k => by simp [hgn k]⟩⟩ (fun b hb => by simp only [foot] at hb; omega) (fun b hb k => rfl)
 have hv := VRS.hp_new g ρ S.hp true 1 e [.val z] ⟨w.heap.size, 1, fun _ => 0, fun _ => 0⟩
 exact hK _ _ _ _ (GExt.refl g) (hr.setObj S.hp.length _ hbase (GExt.refl g) (fun i hi => killH_push _ _ hi) hv o.dst)
theorem j_lit1T {ev : Operand → PV} {hp : List HO} {t e : TypeId} {by_ : Nat} [ht : SlT P t e 1 by_] {zs : List Value} [hz : ZeroT P e zs] {x : Operand} {z : Value} (ho : o.op = .buildSlice t 1 #[(0, x)]) (h1 : ev x = .val z) (hp1 : (PV.val z).one = true) :
 JStep P o ev hp (some hp.length) (killH hp.length hp ++ [.arr true 1 e [.val z]]) (.hp hp.length) := fun fr hfr =>
 e_lit1T (S := ⟨fr, hp⟩) (ht := ht) (hz := hz) ho ((hfr x (by simp [ho, Op.operands])).trans h1) hp1
end
end Go.Pv
namespace Go.Pv
open Go
attribute [local semireducible] Go.Pv.Goal Go.Pv.Ops Go.Pv.PStep Go.Pv.EStep Go.Pv.KRets Go.Pv.PCalls Go.Pv.OpsG
def regOps (id : Nat) : Code → List Oper
 | .region k l _ => bif k == id then l.toList else []
 | .seq a b => match regOps id a with
  | [] => regOps id b
  | x :: l => x :: l
 | .block _ c => regOps id c
 | .loop c => regOps id c
 | .cond _ a b => match regOps id a with
  | [] => regOps id b
  | x :: l => x :: l
 | _ => []
theorem at_reg0 {P : Program} {K : Exit → St → Prop} {S : St} {ops : Array Oper} {dr : Bool} (id : Nat) (h : Goal P (Code.region id ops dr) K S) : Goal P (Code.region id ops dr) K S := h
def allB (P : Program) (l : List Oper) (K : St → Prop) (n : Nat) (listed : Array Bool) (S : St) : List Nat → Prop
 | [] => True
 | i :: r => (∃ o, l[i]? = some o ∧ guardS l.toArray S.fr o = some true ∧ ∃ S1, EStep P o S S1 ∧ ∃ S2, S1 = S2 ∧ aAnyB P l.toArray K n (listed.setIfInBounds i true) S2) ∧ allB P l K n listed S r
theorem allB_mem {P : Program} {l : List Oper} {K : St → Prop} {n : Nat} {listed : Array Bool} {S : St} : ∀ {r : List Nat}, allB P l K n listed S r → ∀ i ∈ r, ∃ o, l[i]? = some o ∧ guardS l.toArray S.fr o = some true ∧ ∃ S1, EStep P o S S1 ∧ aAnyB P l.toArray K n (listed.setIfInBounds i true) S1
 | [], _, _, hi => by simp at hi
 | j :: r, h, i, hi => by
  rcases List.mem_cons.1 hi with rfl | hi
  · obtain ⟨⟨o, h1, h2, S1, h3, S2, rfl, h4⟩, -⟩ := h
    exact ⟨o, h1, h2, S1, h3, h4⟩
  · exact allB_mem h.2 i hi
theorem b_all {P : Program} {l : List Oper} {K : St → Prop} {n : Nat} {listed : Array Bool} {S : St} (rs : List Nat) (hl : Region.ready .any l.toArray listed = rs) (hne : rs.isEmpty = false) (h : allB P l K n listed S rs) : aAnyB P l.toArray K (n + 1) listed S := by
 refine ⟨fun e => ?_, fun i hi => ?_⟩
 · rw [e] at hl; subst hl; cases hne
 · rw [hl] at hi
   obtain ⟨o, h1, h2, S1, h3, h4⟩ := allB_mem h i hi
   exact ⟨o, by simpa using h1, h2, S1, h3, h4⟩
end Go.Pv
namespace Go.Proofs.YtbohjibbgppfaaaGreat
open Go Go.Pv Go.Proofs
theorem nat_len (n : Nat) (p : List Int) : (natL n p).length = n := by simp [natL]
end Go.Proofs.YtbohjibbgppfaaaGreat
namespace Go.Proofs.YtbohjibbgppfaaaGreat
open Go Go.Pv Go.Proofs
theorem least_of {p : Nat → Prop} (h : ∃ n, p n) : ∃ n, p n ∧ ∀ m, m < n → ¬ p m := by
 obtain ⟨n, hn⟩ := h
 induction n using Nat.strongRecOn with
 | _ n ih =>
  by_cases hx : ∃ m, m < n ∧ p m
  · obtain ⟨m, h1, h2⟩ := hx; exact ih m h1 h2
  · exact ⟨n, hn, fun m hm hp => hx ⟨m, hm, hp⟩⟩
theorem smA_app {l : List OpD} (h1 : l.length ≤ 6) (h2 : ∀ f ∈ l, f.tb.length ≤ 30) : smA l := by
 refine ⟨?_, ?_⟩
 · omega
 · intro f hf; exact Nat.le_trans (h2 f hf) (by decide)
end Go.Proofs.YtbohjibbgppfaaaGreat
namespace Go.Proofs.YtbohjibbgppfaaaGreat
open Go Go.Pv Go.Proofs
theorem Cu.ok.le {c : Cu} {m m' : Int} (h : c.ok m) (hm : m ≤ m') : c.ok m' := ⟨h.len, h.byte, h.lo, Int.le_trans h.hi hm, h.sd0⟩
end Go.Proofs.YtbohjibbgppfaaaGreat
namespace Go.Pv
open Go Go.ChangeShapes Go.WideShapes Go.RowKit Go.Deep
theorem vr_rowY {w : World} {A : Option Addr} {L C : Nat} {zs : List Int} (h1 : L ≤ C) (h2 : C ≤ maxLen) (h3 : zs.length = C) (h4 : A = none → C = 0) (h5 : ∀ a', A = some a' → ∀ c, c < C → w.cell? (a'.add c) = some (.int .u8 (zs.getD c 0))) :
 VR (gW w) (.slice A L C) (.sl 1 none ((zs.take L).map Y)) := by
 cases A with
 | none =>
  have hC := h4 rfl
  have hL : L = 0 := by omega
  subst hC; subst hL
  exact .nilsl 1 none (by simp)
 | some a =>
  rcases Nat.eq_zero_or_pos L with h0 | hpos
  · subst h0; exact .esl 1 none a C (by simp)
  · have hc := h5 a rfl
    have hs : a.spot = none := by
     have := hc 0 (by omega)
     rw [add0] at this
     exact cell_spot this
    have key := VR.sl (g := gW w) 1 none a.block a.off C ((zs.take L).map Y) (fun i => [Y (zs.getD i 0)]) (fun k => .int .u8 (zs.getD k 0)) (by omega) (by simp) (by simp; omega) h2 (fun i p hi => ?_) (fun k hk => ?_) (fun i j q hi hq => ?_)
    · have hl : ((zs.take L).map Y).length = L := by simp; omega
      rw [hl, ← addr_eq hs] at key
      exact key
    · rw [List.getElem?_map, Option.map_eq_some_iff] at hi
      obtain ⟨z, hz, rfl⟩ := hi
      have hlt := (List.getElem?_eq_some_iff.1 hz).1
      simp only [List.length_take] at hlt
      rw [List.getElem?_take_of_lt (by omega)] at hz
      exact ⟨by simp [PV.flat, PV.one, List.getD_eq_getElem?_getD, hz], rfl⟩
    · simp only [List.length_map, List.length_take] at hk
      have := hc k (by omega)
      show w.cell? ⟨a.block, a.off + k, none⟩ = _
      rw [← this]
      rw [addr_eq hs, Addr.add_n]
    · have hj : j = 0 := by rcases j with _ | j; rfl; simp at hq
      subst hj
      simp at hq
      subst hq
      simp only [Nat.mul_one, Nat.add_zero]
      exact .val _
theorem wf_u8 {n : Int} (h : (Lit.int .u8 n).wf = true) : 0 ≤ n ∧ n ≤ 255 := by
 simp [Lit.wf] at h
 rw [show IntKind.u8.min = 0 by rfl, show IntKind.u8.max = 255 by rfl] at h
 exact h
section
variable {H : Type} {enc : TypeId × Value → H} {P : Program} {W : World} {held : Bool}
theorem ar_bytes {t e : TypeId} {v : Value} {d : DataW H} {ps : List MemPlace} (ht : P.underlying t = some (.slice e)) (he : P.underlying e = some (.int .u8)) (hc : P.cellsOf e = 1) (hval : ∃ r b, Value.okWide P W r b t v) (h : DataW.Trod enc P W 0 (fun _ => true) held t v d ps) :
 ∃ l : List Int, VR (gW W) v (.sl 1 none (l.map Y)) ∧ l.length ≤ maxLen ∧ ∀ i, i < l.length → 0 ≤ l.getD i 0 ∧ l.getD i 0 ≤ 255 := by
 obtain ⟨r, b, hval⟩ := hval
 obtain ⟨fuel, h⟩ := h
 have key : ∀ cs x, DataW.trod enc P W 0 (fun _ => true) held fuel t cs = some x → ∃ (u : Value) (l : List Int), cs = [u] ∧ VR (gW W) u (.sl 1 none (l.map Y)) ∧ l.length ≤ maxLen ∧ ∀ n ∈ l, (Lit.int .u8 n).wf = true := fun cs x h => by
  rcases open_ints ht he hc h with ⟨rfl, -⟩ | ⟨a, len, cap, zs, rfl, -, hl, hm, hz, -, hcell, hwf⟩
  · exact ⟨_, [], rfl, .nilsl 1 none (by simp), by simp, fun n hn => by simp at hn⟩
  · simp only [if_true] at hz
    refine ⟨_, zs.take len, rfl, vr_rowY hl hm hz (fun h => by cases h) (fun a' ha c hc => ?_), by simp; omega, fun n hn => hwf n (List.mem_of_mem_take hn)⟩
    cases ha
    exact hcell c (by omega)
 obtain ⟨u, l, hcs, h1, h2, h3⟩ := key _ _ h
 have e : v = u := by
  cases v with
  | agg cs => unfold Value.okWide at hval; rw [ht] at hval; simp [Cell.okWide, Cell.ok, ht] at hval
  | tuple cs => unfold Value.okWide at hval; rw [ht] at hval; simp [Cell.okWide, Cell.ok, ht] at hval
  | _ => exact (List.cons.inj hcs).1
 refine ⟨l, e ▸ h1, h2, fun i hi => ?_⟩
 rw [List.getD_eq_getElem?_getD, List.getElem?_eq_getElem hi]
 exact wf_u8 (h3 _ (List.getElem_mem hi))
end
end Go.Pv
