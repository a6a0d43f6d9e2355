/- Walks: partitions, joins and closures, the reference's side. -/
import Derived.Test.YtepjlgilopfnpaaGreatJKf
import Derived.Test.YtepjlgilopfnpaaGreatJKc
namespace Go.Proofs.YtepjlgilopfnpaaGreat
open Go Go.Pv Go.Proofs
set_option maxHeartbeats 32000000
set_option maxRecDepth 100000

theorem sown_c (l : List Int) (hl : l.length ≤ 1048576) : PCalls Tryz.prog 150 [ints l] (ints l) := rcalls_P rfl (own_R l hl)
theorem opsK_at {L : List OpD} {i : Nat} (h : i < L.length) : (L.map opP)[((i : Nat) : Int).toNat]? = some (opP (L.getD i default)) := by
 rw [Int.toNat_natCast, List.getElem?_map, List.getElem?_eq_getElem h, List.getD_eq_getElem?_getD, List.getElem?_eq_getElem h]; rfl
theorem opsK_mem {L : List OpD} {i : Nat} (h : i < L.length) : L.getD i default ∈ L := by
 rw [List.getD_eq_getElem?_getD, List.getElem?_eq_getElem h]; exact List.getElem_mem _
theorem smst_c (a b : Int) : PCalls Tryz.prog 144 [I a, I b] (I (if b < a then a else b)) := by
 refine pcalls1 Tryz.func144 rfl Tryz.ntmps144 rfl ?_
 refine wF ?_
 by_cases h : b < a
 · rw [if_pos h]
   repeat' (first
| refine wO ?_
| (refine o_go rfl ?_; (first
| refine wS ?_); refine ⟨_, aB, ?_⟩)
| (refine zK rfl ?_ ?_ <;> intro hc <;> try omega)
| refine kr1 ?_
| refine krI rfl ?_
| refine wE ?_)
   all_goals first | rfl | (exfalso; omega)
 · rw [if_neg h]
   repeat' (first
| refine wO ?_
| (refine o_go rfl ?_; (first
| refine wS ?_); refine ⟨_, aB, ?_⟩)
| (refine zK rfl ?_ ?_ <;> intro hc <;> try omega)
| refine kr1 ?_
| refine krI rfl ?_
| refine wE ?_)
   all_goals first | rfl | (exfalso; omega)
theorem slst_c (a b : Int) : PCalls Tryz.prog 199 [I a, I b] (I (if a < b then a else b)) := by
 refine pcalls1 Tryz.func199 rfl Tryz.ntmps199 rfl ?_
 refine wF ?_
 by_cases h : a < b
 · rw [if_pos h]
   repeat' (first
| refine wO ?_
| (refine o_go rfl ?_; (first
| refine wS ?_); refine ⟨_, aB, ?_⟩)
| (refine zK rfl ?_ ?_ <;> intro hc <;> try omega)
| refine kr1 ?_
| refine krI rfl ?_
| refine wE ?_)
   all_goals first | rfl | (exfalso; omega)
 · rw [if_neg h]
   repeat' (first
| refine wO ?_
| (refine o_go rfl ?_; (first
| refine wS ?_); refine ⟨_, aB, ?_⟩)
| (refine zK rfl ?_ ?_ <;> intro hc <;> try omega)
| refine kr1 ?_
| refine krI rfl ?_
| refine wE ?_)
   all_goals first | rfl | (exfalso; omega)
theorem all_range_at {f : Nat → Bool} {n k : Nat} (hk : k < n) (h : f k = false) : (List.range n).all f = false := by
 rw [← Bool.not_eq_true, List.all_eq_true]
 intro hh
 rw [hh k (List.mem_range.2 hk)] at h; cases h
theorem all_range_succ {f : Nat → Bool} {n : Nat} : (List.range (n + 1)).all f = ((List.range n).all f && f n) := by
 rw [List.range_succ, List.all_append]; simp
theorem sident_c (n : Nat) (hn : n ≤ 1048576) : PCalls Tryz.prog 77 [I (n : Int)] (ints (idL n)) := by
 refine pcalls1 Tryz.func77 rfl Tryz.ntmps77 rfl ?_
 refine wF ?_
 repeat' (first
| refine wO ?_
| (refine o_go rfl ?_; (first
| refine p_e rfl (e_lit0T rfl zd) ?_
| refine wS ?_); refine ⟨_, aB, ?_⟩))
 refine g_loopF (α := Nat) [5] (fun x => [(3, .hp 0), (4, I (x : Int))]) (fun x => [.arr true 1 3 (((List.range x).map fun (y : Nat) => (y : Int)).map I)]) (fun x => x ≤ n) (fun x => n - x) 0 aH (Nat.zero_le _) ⟨rfl, rfl, trivial⟩ rfl ?_
 rintro x hx
 refine wH ?_
 have hll : (((List.range x).map fun (y : Nat) => (y : Int)).map I).length = x := by simp
 by_cases hxn : x < n
 · repeat' (first
| refine wO ?_
| (refine o_go rfl ?_; (first
| refine p_e zk (e_append rfl rfl rfl rfl rfl rfl (one_one rfl) rfl zn zn) ?_
| refine wS ?_
| refine p_p (ps_lit1 rfl rfl (by rfl) (by rfl)) ?_); refine ⟨_, aB, ?_⟩)
| (refine zK rfl ?_ ?_ <;> intro hc <;> try omega)
| refine wE ?_)
   all_goals try (exfalso; omega)
   refine zT (x + 1) (by omega) (by omega) aI ⟨rfl, rfl, trivial⟩ (zB ?_ (zM _))
   rw [range_snoc, List.map_append]; rfl
 · repeat' (first
| refine wO ?_
| (refine o_go rfl ?_; (first
| refine wS ?_); refine ⟨_, aB, ?_⟩)
| (refine zK rfl ?_ ?_ <;> intro hc <;> try omega)
| refine kr1 ?_
| refine krS rfl ?_
| refine wE ?_)
   all_goals try (exfalso; omega)
   rw [show x = n by omega]; rfl
theorem unL_eq (p : List Int) (x y : Nat) : unL p x y = p.map fun z => if z = (if p.getD x 0 < p.getD y 0 then p.getD y 0 else p.getD x 0) then (if p.getD x 0 < p.getD y 0 then p.getD x 0 else p.getD y 0) else z := by
 unfold unL
 congr 1
 funext z
 by_cases h : p.getD x 0 < p.getD y 0
 · rw [if_pos h, if_pos h, Int.max_eq_right (by omega), Int.min_eq_left (by omega)]
 · rw [if_neg h, if_neg h, Int.max_eq_left (by omega), Int.min_eq_right (by omega)]
theorem sun_c (p : List Int) (x y : Nat) (hp : p.length ≤ 1048576) (hx : x < p.length) (hy : y < p.length) : PCalls Tryz.prog 188 [ints p, I (x : Int), I (y : Int)] (ints (unL p x y)) := by
 refine pcalls1 Tryz.func188 rfl Tryz.ntmps188 rfl ?_
 refine wF ?_
 have h1 := slst_c (p.getD x 0) (p.getD y 0)
 have h2 := smst_c (p.getD x 0) (p.getD y 0)
 have hu : unL p x y = p.map fun z => if z = (if p.getD y 0 < p.getD x 0 then p.getD x 0 else p.getD y 0) then (if p.getD x 0 < p.getD y 0 then p.getD x 0 else p.getD y 0) else z := by
  rw [unL_eq]; congr 1; funext z
  rw [show (if p.getD x 0 < p.getD y 0 then p.getD y 0 else p.getD x 0) = (if p.getD y 0 < p.getD x 0 then p.getD x 0 else p.getD y 0) by split <;> split <;> omega]
 generalize hlo : (if p.getD x 0 < p.getD y 0 then p.getD x 0 else p.getD y 0) = lo at *
 generalize hhi : (if p.getD y 0 < p.getD x 0 then p.getD x 0 else p.getD y 0) = hi at *
 rw [hu]
 repeat' (first
| refine wO ?_
| refine zP zk zk ?_
| (refine o_go rfl ?_; (first
| refine p_p (zG rfl rfl aD (h1)) ?_
| refine p_p (zG rfl rfl aD (h2)) ?_
| refine p_e rfl (e_lit0T rfl zd) ?_
| refine wS ?_
| refine p_p (zN rfl rfl rfl zz aQ ze) ?_); refine ⟨_, aB, ?_⟩))
 refine g_loopF (α := Nat) [29] (fun z => [(9, .hp 0), (10, I (z : Int))]) (fun z => [.arr true 1 3 (((p.take z).map fun z => if z = hi then lo else z).map I)]) (fun z => z ≤ p.length) (fun z => p.length - z) 0 aH (Nat.zero_le _) ⟨rfl, rfl, trivial⟩ rfl ?_
 rintro z hz
 refine wH ?_
 have hll : (((p.take z).map fun z => if z = hi then lo else z).map I).length = z := by simp; omega
 by_cases hzl : z < p.length
 · have hs : (p.take (z + 1)).map (fun z => if z = hi then lo else z) = (p.take z).map (fun z => if z = hi then lo else z) ++ [if p.getD z 0 = hi then lo else p.getD z 0] := by
    rw [take_snoc 0 hzl, List.map_append]; rfl
   by_cases he : p.getD z 0 = hi
   · rw [if_pos he] at hs
     repeat' (first
| refine wO ?_
| (refine o_go rfl ?_; (first
| refine p_e zk (e_append rfl rfl rfl rfl rfl rfl (one_one rfl) rfl zn zn) ?_
| refine wS ?_
| refine p_p (zN rfl rfl rfl zz aQ ze) ?_
| refine p_p (ps_lit1 rfl rfl (by rfl) (by rfl)) ?_); refine ⟨_, aB, ?_⟩)
| (refine zK rfl ?_ ?_ <;> intro hc <;> try omega)
| refine wE ?_)
     all_goals try (exfalso; omega)
     refine zT (z + 1) (by omega) (by omega) aI ⟨rfl, rfl, trivial⟩ (zB ?_ (zM _))
     rw [hs, List.map_append]; rfl
   · rw [if_neg he] at hs
     repeat' (first
| refine wO ?_
| (refine o_go rfl ?_; (first
| refine p_e zk (e_append rfl rfl rfl rfl rfl rfl (one_one rfl) rfl zn zn) ?_
| refine wS ?_
| refine p_p (zN rfl rfl rfl zz aQ ze) ?_
| refine p_p (ps_lit1 rfl rfl (by rfl) (by rfl)) ?_); refine ⟨_, aB, ?_⟩)
| (refine zK rfl ?_ ?_ <;> intro hc <;> try omega)
| refine wE ?_)
     all_goals try (exfalso; omega)
     refine zT (z + 1) (by omega) (by omega) aI ⟨rfl, rfl, trivial⟩ (zB ?_ (zM _))
     rw [hs, List.map_append]; rfl
 · repeat' (first
| refine wO ?_
| (refine o_go rfl ?_; (first
| refine wS ?_); refine ⟨_, aB, ?_⟩)
| (refine zK rfl ?_ ?_ <;> intro hc <;> try omega)
| refine kr1 ?_
| refine krS rfl ?_
| refine wE ?_)
   all_goals try (exfalso; omega)
   rw [List.take_of_length_le (by omega)]
theorem foldU_len : ∀ (L : List (Nat × Nat)) (p : List Int), (foldU L p).length = p.length
 | [], _ => rfl
 | vw :: L, p => by show (foldU L (unL p vw.1 vw.2)).length = _; rw [foldU_len, unL_len]
theorem prs_take {n x : Nat} {q : List Int} (hx : x < n) : (prsL n q).take (x + 1) = (prsL n q).take x ++ [(x, bk q x)] := by
 rw [take_snoc (0, 0) (by simpa [prsL] using hx)]
 congr 2
 unfold prsL
 rw [List.getD_eq_getElem?_getD, List.getElem?_map, List.getElem?_range hx]; rfl
theorem sjoin_c (n : Nat) (p q : List Int) (hn : n ≤ 1048576) (hp : p.length = n) (hq : Pt n q) : PCalls Tryz.prog 163 [ints p, ints q] (ints (joinP n p q)) := by
 refine pcalls1 Tryz.func163 rfl Tryz.ntmps163 rfl ?_
 refine wF ?_
 have h1 := sown_c p (by omega)
 have hql := hq.len
 repeat' (first
| refine wO ?_
| (refine o_go rfl ?_; (first
| refine p_p (zG rfl rfl aD (h1)) ?_
| refine wS ?_); refine ⟨_, aB, ?_⟩))
 refine g_loopT (α := Nat) (fun x => [(5, ints (foldU ((prsL n q).take x) p)), (6, I (x : Int))]) (fun _ => []) (fun x => x ≤ n) (fun x => n - x) 0 aH (Nat.zero_le _) ⟨rfl, rfl, trivial⟩ rfl ?_
 rintro x hx
 refine wH ?_
 by_cases hxn : x < n
 · have hlt := hq.lt hxn
   have h2 := sun_c (foldU ((prsL n q).take x) p) x (bk q x) (by rw [foldU_len]; omega) (by rw [foldU_len]; omega) (by rw [foldU_len]; omega)
   rw [← foldU_snoc, ← prs_take hxn] at h2
   have hv := hq.val hxn
   have hix : (q.map I)[((x : Nat) : Int).toNat]? = some (I (bk q x : Int)) := by rw [← hv]; exact idx_I (by omega)
   repeat' (first
| refine wO ?_
| (refine o_go rfl ?_; (first
| refine p_p (zG rfl rfl aD (h2)) ?_
| refine p_p (zN rfl rfl rfl zz hix ze) ?_
| refine wS ?_); refine ⟨_, aB, ?_⟩)
| (refine zK rfl ?_ ?_ <;> intro hc <;> try omega)
| refine wE ?_)
   all_goals try (exfalso; omega)
   exact zT (x + 1) (by omega) (by omega) aI ⟨rfl, rfl, trivial⟩ (zM _)
 · repeat' (first
| refine wO ?_
| (refine o_go rfl ?_; (first
| refine wS ?_); refine ⟨_, aB, ?_⟩)
| (refine zK rfl ?_ ?_ <;> intro hc <;> try omega)
| refine kr1 ?_
| refine krS rfl ?_
| refine wE ?_)
   all_goals try (exfalso; omega)
   rw [List.take_of_length_le (by simp [prsL]; omega)]; rfl
theorem sval_c (n : Nat) (ops : List OpD) (o : Nat) (args : List Int) (hn : n ≤ 8) (hl : ops.length ≤ 1048576) (ho : o < ops.length) (ha : args.length ≤ 3) (hin : ∀ x ∈ args, 0 ≤ x ∧ x < (n : Int)) (ht : (ops.getD o default).tb.length = n ^ args.length) :
 PCalls Tryz.prog 132 [algP n ops, I (o : Int), ints args] (I ((ops.getD o default).tb.getD (idxL n args).toNat 0)) := by
 refine pcalls1 Tryz.func132 rfl Tryz.ntmps132 rfl ?_
 refine wF ?_
 repeat' (first
| refine wO ?_
| (refine o_go rfl ?_; (first
| refine wS ?_
| refine p_p (ps_box rfl rfl) ?_); refine ⟨_, aB, ?_⟩))
 refine g_loopT (α := Nat) (fun j => [(7, I (idxL n (args.take j))), (8, I (j : Int))]) (fun _ => []) (fun j => j ≤ args.length) (fun j => args.length - j) 0 aH (Nat.zero_le _) ⟨rfl, rfl, trivial⟩ rfl ?_
 rintro j hj
 refine wH ?_
 have hb := idxL_le (n := n) (l := args.take j) (by omega) (by rw [List.length_take]; omega) (fun x hx => hin x (List.mem_of_mem_take hx))
 by_cases hjl : j < args.length
 · have hx := hin _ (getD_at hjl)
   have hm := mul_bound (n := (n : Int)) hb.1 hb.2 (by omega) (by omega) rfl (N := 0) rfl
   have hsuc : idxL n (args.take (j + 1)) = idxL n (args.take j) * n + args.getD j 0 := by rw [take_snoc 0 hjl, idxL_snoc]
   generalize idxL n (args.take j) = q at *
   repeat' (first
| refine wO ?_
| refine zP zk zk ?_
| (refine o_go rfl ?_; (first
| refine p_p (ps_mul rfl rfl rfl zz) ?_
| refine wS ?_
| refine p_p (zN rfl rfl rfl zz aQ ze) ?_); refine ⟨_, aB, ?_⟩)
| (refine zK rfl ?_ ?_ <;> intro hc <;> try omega)
| refine wE ?_)
   all_goals try (exfalso; omega)
   exact zT (j + 1) (by omega) (by omega) aI ⟨vI hsuc.symm, rfl, trivial⟩ (zM _)
 · have hje : args.take j = args := List.take_of_length_le (by omega)
   rw [hje] at hb ⊢
   have hq := opsK_at ho
   have hrb := idxL_bound _ hin
   rw [← ht] at hrb
   have hix : ((ops.getD o default).tb.map I)[(idxL n args).toNat]? = some (I ((ops.getD o default).tb.getD (idxL n args).toNat 0)) := idx_I (by omega)
   repeat' (first
| refine wO ?_
| (refine o_go rfl ?_; (first
| refine p_p (zN rfl rfl rfl zz hq ze) ?_
| refine p_p (zN rfl rfl rfl zz hix ze) ?_
| refine wS ?_); refine ⟨_, aB, ?_⟩)
| (refine zK rfl ?_ ?_ <;> intro hc <;> try omega)
| refine kr1 ?_
| refine krI rfl ?_
| refine wE ?_)
   all_goals first | rfl | (exfalso; omega)
end Go.Proofs.YtepjlgilopfnpaaGreat
