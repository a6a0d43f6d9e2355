/- Walks: joins, meets and closures, the program's side. -/
import Derived.Test.YtepjlgilopfnpaaGreatJKj
namespace Go.Pv
open Go
theorem j_callLG {P : Program} {o : Oper} {ev : Operand → PV} {hp : List HO} {x : Operand} {xs : Array Operand} {tys : Array TypeId} {f : FuncId} [hf : FnT P f] {first caps args : List PV} {n : Nat} {ho ho' : HO} {q : PV} (hop : o.op = .call { callee := .value x, args := xs, argTypes := tys }) (h1 : ev x = .fn f first caps) (hn : hp[n]? = some ho)
 (h2 : argsLS (first ++ (xs.toList.map fun y => lendP n hp (ev y)) ++ caps) args) (ha : aloneHO ho = true) (ha' : aloneHO ho' = true) (hsh : sameShape ho ho') (hq : killP n q = q) (hc : LCalls P f ho args ho' q) :
 JStep P o ev hp (some n) ((killH n ((hp.map (mapHO (krow1 n))).set n ho')).set n .gone) q := fun fr hfr => by
 have hel : (xs.toList.map fun y => lendP n hp ((St.mk fr hp).ev y)) = xs.toList.map fun y => lendP n hp (ev y) := List.map_congr_left fun y hm => by
  rw [hfr y (by simp only [hop, Op.operands, Call.operands]; exact Array.mem_append.2 (.inr (by simpa using hm)))]
 have h := e_callL (S := ⟨fr, hp⟩) hop ((hfr x (by simp [hop, Op.operands, Call.operands])).trans h1) hn (by rw [show (xs.toList.map fun y => lendP n (St.mk fr hp).hp ((St.mk fr hp).ev y)) = xs.toList.map fun y => lendP n hp (ev y) from hel]; exact h2) ha ha' hsh hc
 refine h.then fun w0 g ρ a w hr => ⟨g, GExt.refl g, ?_⟩
 have hlt : n < hp.length := (List.getElem?_eq_some_iff.1 hn).1
 have := rel_drop (k := n) (x := ho') hr (by cases o.dst <;> simp [St.put, hlt])
 have e : (⟨(St.put ⟨fr.map (krowP n), (hp.map (mapHO (krow1 n))).set n ho'⟩ o.dst q).fr.map (killP n), (killH n (St.put ⟨fr.map (krowP n), (hp.map (mapHO (krow1 n))).set n ho'⟩ o.dst q).hp).set n .gone⟩ : St) = St.put ⟨killO (some n) fr, (killH n ((hp.map (mapHO (krow1 n))).set n ho')).set n .gone⟩ o.dst q := by
  have hk1 : ∀ p, killP1 n (krow1 n p) = killP1 n p := fun p => by
   cases p <;> try rfl
   all_goals (simp only [krow1, killP1]; cases hb : (_ == n : Bool) <;> simp [killP1, hb])
  have hkA : ∀ p, killA n (krowA n p) = killA n p := fun p => by
   cases p with
   | agg l => simp only [krowA, killA, List.map_map, PV.agg.injEq]; exact List.map_congr_left fun x _ => hk1 x
   | gr a b => simp only [krowA, krow1]; cases hb : (a == n : Bool) <;> simp [killA, killP1, hb]
   | gat a b c => simp only [krowA, krow1]; cases hb : (a == n : Bool) <;> simp [killA, killP1, hb]
   | _ => rfl
  have hkP : ∀ p, killP n (krowP n p) = killP n p := fun p => by
   cases p with
   | agg l => simp only [krowP, killP, List.map_map, PV.agg.injEq]; exact List.map_congr_left fun x _ => hk1 x
   | tup l => simp only [krowP, killP, List.map_map, PV.tup.injEq]; exact List.map_congr_left fun x _ => hkA x
   | gr a b => simp only [krowP, krow1]; cases hb : (a == n : Bool) <;> simp [killP, killP1, hb]
   | gat a b c => simp only [krowP, krow1]; cases hb : (a == n : Bool) <;> simp [killP, killP1, hb]
   | _ => rfl
  have hmm : (fr.map (krowP n)).map (killP n) = fr.map (killP n) := by rw [List.map_map]; exact List.map_congr_left fun p _ => hkP p
  cases hd : o.dst with
  | none => simp only [St.put, killO, hmm]
  | some d => simp only [St.put, killO, List.map_set, hmm, hq]
 rw [e] at this
 exact this
end Go.Pv
namespace Go.Proofs.YtepjlgilopfnpaaGreat
open Go Go.Pv Go.Proofs
set_option maxHeartbeats 32000000
set_option maxRecDepth 100000

theorem ijoin_R (n : Nat) (p q : List Int) (hn : n ≤ 1048576) (hp : p.length = n) (hq : Pt n q) : RCalls Tryz.prog 126 [ints p, ints q] (.arr true 1 3 ((joinP n p q).map I)) (.hp 0) := by
 refine pcallsR1 Tryz.func126 rfl Tryz.ntmps126 rfl ?_
 refine wF ?_
 have hql := hq.len
 repeat' (first
| refine wO ?_
| (refine o_go rfl ?_; (first
| refine p_e rfl (e_callR rfl rfl aD rfl (iclone_R p zz)) ?_
| refine wS ?_); refine ⟨_, aB, ?_⟩))
 refine g_loopT (α := Nat) (fun x => [(5, .hp 0), (12, I (x : Int))]) (fun x => [.arr true 1 3 ((foldU ((prsL n q).take x) p).map I)]) (fun x => x ≤ n) (fun x => n - x) 0 aH (Nat.zero_le _) ⟨rfl, rfl, trivial⟩ rfl ?_
 rintro x hx
 refine wH ?_
 by_cases hxn : x < n
 · have hlt := hq.lt hxn
   have h2 := iun_L (foldU ((prsL n q).take x) p) x (bk q x) (by rw [foldU_len]; omega) (by rw [foldU_len]; omega) (by rw [foldU_len]; omega)
   rw [← foldU_snoc, ← prs_take hxn] at h2
   have hv := hq.val hxn
   have hix : (q.map I)[((x : Nat) : Int).toNat]? = some (I (bk q x : Int)) := by rw [← hv]; exact idx_I (by omega)
   repeat' (first
| refine wO ?_
| (refine o_go rfl ?_; (first
| refine p_e rfl (e_callL (n := 0) rfl rfl rfl aL rfl (by rfl) (by first | exact ⟨rfl, rfl, rfl, by simp only [List.length_map, foldU_len]⟩ | exact ⟨rfl, rfl, by simp only [List.length_map, foldU_len]⟩) h2) ?_
| refine p_p (zN rfl rfl rfl zz hix ze) ?_
| refine wS ?_); refine ⟨_, aB, ?_⟩)
| (refine zK rfl ?_ ?_ <;> intro hc <;> try omega)
| refine wE ?_)
   all_goals try (exfalso; omega)
   exact zT (x + 1) (by omega) (by omega) aI ⟨rfl, rfl, trivial⟩ (zB rfl (zM _))
 · repeat' (first
| refine wO ?_
| (refine o_go rfl ?_; (first
| refine wS ?_); refine ⟨_, aB, ?_⟩)
| (refine zK rfl ?_ ?_ <;> intro hc <;> try omega)
| refine krr 0 rfl (HandOut.arr rfl ?_ aS)
| refine wE ?_)
   all_goals try (exfalso; omega)
   rw [List.take_of_length_le (by simp [prsL]; omega)]; rfl
/-! ### Meets -/
theorem fstN_congr {n : Nat} {P Q : Nat → Bool} (h : ∀ y, y < n → P y = Q y) : fstN n P = fstN n Q := by
 unfold fstN
 congr 1
 have : ∀ l : List Nat, (∀ y ∈ l, y < n) → l.find? P = l.find? Q := by
  intro l
  induction l with
  | nil => intro _; rfl
  | cons a l ih => intro hl; rw [List.find?_cons, List.find?_cons, h a (hl a (List.mem_cons_self ..)), ih fun y hy => hl y (List.mem_cons_of_mem _ hy)]
 exact this _ fun y hy => List.mem_range.1 hy
def kerE (l : List Int) (i : Nat) : Nat := fstN l.length fun y => decide (l.getD y 0 = l.getD i 0)
def kerL (l : List Int) : List Int := (List.range l.length).map fun i => ((kerE l i : Nat) : Int)
theorem kerE_eq {l : List Int} {i j : Nat} (hj : j < l.length) (he : l.getD j 0 = l.getD i 0) (hlow : ∀ y, y < j → l.getD y 0 ≠ l.getD i 0) : kerE l i = j :=
 fstN_eq hj (decide_eq_true he) fun y hy => decide_eq_false (hlow y hy)
theorem kernel_R (l : List Int) (hl : l.length ≤ 1048576) : RCalls Tryz.prog 47 [ints l] (.arr true 1 3 ((kerL l).map I)) (.hp 0) := by
 refine pcallsR1 Tryz.func47 rfl Tryz.ntmps47 rfl ?_
 refine wF ?_
 have hrep : (List.replicate l.length (PV.val (Value.int IntKind.i64 0))).length = l.length := List.length_replicate
 repeat' (first
| refine wO ?_
| (refine o_go rfl ?_; (first
| refine wS ?_
| refine p_e rfl (e_make1 rfl rfl rfl zz zz zz rfl rfl) ?_); refine ⟨_, aB, ?_⟩))
 refine g_loopT (α := Nat) (fun i => [(10, I (i : Int))]) (fun i => [.arr true 1 3 (((List.range i).map (fun i => ((kerE l i : Nat) : Int)) ++ List.replicate (l.length - i) 0).map I)]) (fun i => i ≤ l.length) (fun i => l.length - i) 0 aH (Nat.zero_le _) ⟨rfl, trivial⟩ (by simp) ?_
 rintro i hi
 refine wH ?_
 have hll : (((List.range i).map (fun i => ((kerE l i : Nat) : Int)) ++ List.replicate (l.length - i) 0).map I).length = l.length := by simp; omega
 have hrl : ((List.range i).map (fun i => ((kerE l i : Nat) : Int))).length = i := by simp
 by_cases hil : i < l.length
 · have hset : ∀ v : Int, (((List.range i).map (fun i => ((kerE l i : Nat) : Int)) ++ List.replicate (l.length - i) 0).map I).set (i * 1) (I v) = ((List.range i).map (fun i => ((kerE l i : Nat) : Int)) ++ v :: List.replicate (l.length - (i + 1)) 0).map I := fun v => by
    rw [Nat.mul_one, ← List.map_set, List.set_append_right _ _ (by omega), hrl, Nat.sub_self, show l.length - i = (l.length - (i + 1)) + 1 by omega, List.replicate_succ]; rfl
   have hat : ∀ v : Int, (((List.range i).map (fun i => ((kerE l i : Nat) : Int)) ++ v :: List.replicate (l.length - (i + 1)) 0).map I)[i * 1]? = some (I v) := fun v => by
    rw [Nat.mul_one, List.getElem?_map, List.getElem?_append_right (by omega), hrl, Nat.sub_self]; rfl
   have hset2 : ∀ v v' : Int, (((List.range i).map (fun i => ((kerE l i : Nat) : Int)) ++ v :: List.replicate (l.length - (i + 1)) 0).map I).set (i * 1) (I v') = ((List.range i).map (fun i => ((kerE l i : Nat) : Int)) ++ v' :: List.replicate (l.length - (i + 1)) 0).map I := fun v v' => by
    rw [Nat.mul_one, ← List.map_set, List.set_append_right _ _ (by omega), hrl, Nat.sub_self]; rfl
   have hlen2 : ∀ v : Int, (((List.range i).map (fun i => ((kerE l i : Nat) : Int)) ++ v :: List.replicate (l.length - (i + 1)) 0).map I).length = l.length := fun v => by simp; omega
   have hsn := range_snoc (fun i => ((kerE l i : Nat) : Int)) i
   generalize (List.range i).map (fun i => ((kerE l i : Nat) : Int)) = K at *
   repeat' (first
| refine wO ?_
| (refine o_go rfl ?_; (first
| refine p_e zk (e_store_arr rfl rfl rfl rfl zz rfl rfl) ?_
| refine wS ?_); refine ⟨_, aB, ?_⟩)
| (refine zK rfl ?_ ?_ <;> intro hc <;> try omega)
| refine wE ?_)
   all_goals try (exfalso; omega)
   refine g_loopT (α := Nat) (fun _ => []) (fun j => [.arr true 1 3 ((K ++ (j : Int) :: List.replicate (l.length - (i + 1)) 0).map I)]) (fun j => j ≤ i ∧ ∀ y, y < j → l.getD y 0 ≠ l.getD i 0) (fun j => i - j) 0 aH ⟨Nat.zero_le _, fun y hy => absurd hy (Nat.not_lt_zero _)⟩ trivial (by rw [hset 0]; rfl) ?_
   rintro j ⟨hj, hlow⟩
   refine wH ?_
   have hatj := hat (j : Int)
   have hlenj := hlen2 (j : Int)
   have hixj : (l.map I)[((j : Nat) : Int).toNat]? = some (I (l.getD j 0)) := idx_I (by omega)
   by_cases he : l.getD j 0 = l.getD i 0
   · have hk := kerE_eq (by omega) he hlow
     repeat' (first
| refine wO ?_
| refine zP zk zk ?_
| (refine o_go rfl ?_; (first
| refine p_p (ps_load_arr rfl rfl rfl hatj (by rfl)) ?_
| refine p_p (zN rfl rfl rfl zz hixj ze) ?_
| refine wS ?_
| refine p_p (zN rfl rfl rfl zz aQ ze) ?_); refine ⟨_, aB, ?_⟩)
| (refine g_condN rfl ?_ ?_ <;> intro hc <;> try omega)
| refine wE ?_)
     all_goals try (exfalso; omega)
     refine zT (i + 1) (by omega) (by omega) aI ⟨rfl, trivial⟩ (zB ?_ (zM _))
     rw [hsn, hk, List.append_assoc]; rfl
   · have hlt : j < i := by
      rcases Nat.lt_or_ge j i with h | h
      · exact h
      · exact absurd (by rw [show j = i by omega]) he
     have hs := hset2 (j : Int) ((j : Int) + 1)
     repeat' (first
| refine wO ?_
| refine zP zk zk ?_
| (refine o_go rfl ?_; (first
| refine p_p (ps_load_arr rfl rfl rfl hatj (by rfl)) ?_
| refine p_p (zN rfl rfl rfl zz hixj ze) ?_
| refine p_e zk (e_store_arr rfl rfl rfl rfl zz rfl rfl) ?_
| refine wS ?_
| refine p_p (zN rfl rfl rfl zz aQ ze) ?_); refine ⟨_, aB, ?_⟩)
| (refine g_condN rfl ?_ ?_ <;> intro hc <;> try omega)
| refine wE ?_)
     all_goals try (exfalso; omega)
     refine zT (j + 1) ⟨by omega, fun y hy => ?_⟩ (by omega) aI trivial (zB ?_ (zM _))
     · rcases Nat.lt_or_ge y j with h | h
       · exact hlow y h
       · rw [show y = j by omega]; exact he
     · rw [hs]; rfl
 · repeat' (first
| refine wO ?_
| (refine o_go rfl ?_; (first
| refine wS ?_); refine ⟨_, aB, ?_⟩)
| (refine zK rfl ?_ ?_ <;> intro hc <;> try omega)
| refine krr 0 rfl (HandOut.arr rfl ?_ aS)
| refine wE ?_)
   all_goals try (exfalso; omega)
   rw [show i = l.length by omega, Nat.sub_self]
   simp [kerL]
def prdL (n : Nat) (p q : List Int) : List Int := (List.range n).map fun i => p.getD i 0 * (n : Int) + q.getD i 0
theorem ker_meet {n : Nat} {p q : List Int} (hp : Pt n p) (hq : Pt n q) : kerL (prdL n p q) = meetP n p q := by
 unfold kerL meetP
 have hl : (prdL n p q).length = n := by simp [prdL]
 rw [hl]
 refine List.map_congr_left fun i hi => ?_
 have hi := List.mem_range.1 hi
 unfold kerE
 rw [hl]
 congr 1
 refine fstN_congr fun y hy => ?_
 have hat : ∀ y, y < n → (prdL n p q).getD y 0 = p.getD y 0 * (n : Int) + q.getD y 0 := fun y hy => by
  unfold prdL
  rw [List.getD_eq_getElem?_getD, List.getElem?_map, List.getElem?_range hy]; rfl
 rw [Bool.eq_iff_iff, decide_eq_true_eq, sameB_iff, hat y hy, hat i hi, hp.val hy, hp.val hi, hq.val hy, hq.val hi]
 have b1 := hq.lt hy
 have b2 := hq.lt hi
 constructor
 · intro h
   have h' : bk p y * n + bk q y = bk p i * n + bk q i := by exact_mod_cast h
   have d1 : (bk p y * n + bk q y) / n = bk p y := by rw [Nat.mul_comm, Nat.mul_add_div (by omega), Nat.div_eq_of_lt b1, Nat.add_zero]
   have d2 : (bk p i * n + bk q i) / n = bk p i := by rw [Nat.mul_comm, Nat.mul_add_div (by omega), Nat.div_eq_of_lt b2, Nat.add_zero]
   have e : bk p y = bk p i := by rw [← d1, ← d2, h']
   rw [e] at h'
   exact ⟨e, by omega⟩
 · rintro ⟨e1, e2⟩; rw [e1, e2]
theorem imeet_R (n : Nat) (p q : List Int) (hn : n ≤ 1000) (hp : Pt n p) (hq : Pt n q) : RCalls Tryz.prog 121 [ints p, ints q] (.arr true 1 3 ((meetP n p q).map I)) (.hp 0) := by
 refine pcallsR1 Tryz.func121 rfl Tryz.ntmps121 rfl ?_
 refine wF ?_
 have hpl := hp.len
 have hql := hq.len
 have hrep : (List.replicate p.length (PV.val (Value.int IntKind.i64 0))).length = n := by rw [List.length_replicate]; exact hpl
 repeat' (first
| refine wO ?_
| (refine o_go rfl ?_; (first
| refine wS ?_
| refine p_e rfl (e_make1 rfl rfl rfl zz zz zz rfl rfl) ?_); refine ⟨_, aB, ?_⟩))
 refine g_loopT (α := Nat) (fun i => [(12, I (i : Int))]) (fun i => [.arr true 1 3 (((List.range i).map (fun i => p.getD i 0 * (n : Int) + q.getD i 0) ++ List.replicate (n - i) 0).map I)]) (fun i => i ≤ n) (fun i => n - i) 0 aH (Nat.zero_le _) ⟨rfl, trivial⟩ (by simp [hpl]) ?_
 rintro i hi
 refine wH ?_
 have hll : (((List.range i).map (fun i => p.getD i 0 * (n : Int) + q.getD i 0) ++ List.replicate (n - i) 0).map I).length = n := by simp; omega
 have hrl : ((List.range i).map (fun i => p.getD i 0 * (n : Int) + q.getD i 0)).length = i := by simp
 by_cases hil : i < n
 · have hv := hp.val hil
   have hlt := hp.lt hil
   have hv2 := hq.val hil
   have hlt2 := hq.lt hil
   have hm : p.getD i 0 * (p.length : Int) = p.getD i 0 * (n : Int) := by rw [hpl]
   have hb : p.getD i 0 * (n : Int) ≤ 1000000 ∧ 0 ≤ p.getD i 0 * (n : Int) := by
    rw [hv]
    have : bk p i * n ≤ 1000 * 1000 := Nat.mul_le_mul (by omega) hn
    constructor
    · have : ((bk p i * n : Nat) : Int) ≤ 1000000 := by omega
      rw [← Int.natCast_mul]; exact this
    · exact Int.mul_nonneg (by omega) (by omega)
   have hsn := range_snoc (fun i => p.getD i 0 * (n : Int) + q.getD i 0) i
   generalize (List.range i).map (fun i => p.getD i 0 * (n : Int) + q.getD i 0) = K at *
   repeat' (first
| refine wO ?_
| refine zP zk zk ?_
| (refine o_go rfl ?_; (first
| refine p_p (ps_mulV rfl rfl rfl hm zz) ?_
| refine p_e zk (e_store_arr rfl rfl rfl rfl zz rfl rfl) ?_
| refine wS ?_
| refine p_p (zN rfl rfl rfl zz aQ ze) ?_); refine ⟨_, aB, ?_⟩)
| (refine zK rfl ?_ ?_ <;> intro hc <;> try omega)
| refine wE ?_)
   all_goals try (exfalso; omega)
   refine zT (i + 1) (by omega) (by omega) aI ⟨rfl, trivial⟩ (zB ?_ (zM _))
   rw [hsn, Nat.mul_one, ← List.map_set, List.set_append_right _ _ (by omega), hrl, Nat.sub_self, show n - i = (n - (i + 1)) + 1 by omega, List.replicate_succ, List.append_assoc]; rfl
 · have hke := ker_meet hp hq
   have hpr : (List.range i).map (fun i => p.getD i 0 * (n : Int) + q.getD i 0) ++ List.replicate (n - i) 0 = prdL n p q := by
    rw [show i = n by omega, Nat.sub_self]; simp [prdL]
   rw [hpr]
   have h1 := kernel_R (prdL n p q) (by simp [prdL]; omega)
   rw [hke] at h1
   repeat' (first
| refine wO ?_
| (refine o_go rfl ?_; (first
| refine p_e rfl (e_callR rfl rfl aD rfl (h1)) ?_
| refine wS ?_); refine ⟨_, aB, ?_⟩)
| (refine zK rfl ?_ ?_ <;> intro hc <;> try omega)
| refine krr 1 rfl (HandOut.arr rfl ?_ aS)
| refine wE ?_)
   all_goals first | rfl | (exfalso; omega)
end Go.Proofs.YtepjlgilopfnpaaGreat
/- Walks: closures of partitions, the program's side. -/
namespace Go.Proofs.YtepjlgilopfnpaaGreat
open Go Go.Pv Go.Proofs
set_option maxHeartbeats 32000000
set_option maxRecDepth 100000

theorem vB {a b : Bool} (h : a = b) : some (B a) = some (B b) := by rw [h]
structure CI (n : Nat) (ops : List OpD) (p q : List Int) : Prop where
 pt : Pt n q
 fi : Fi n p q
 least : ∀ r, Pt n r → Cong n ops r → Fi n p r → Fi n q r
theorem CI.start {n : Nat} {ops : List OpD} {p : List Int} (h : Pt n p) : CI n ops p p := ⟨h, fi_refl h, fun _ _ _ h => h⟩
theorem CI.step {n : Nat} {ops : List OpD} {p q : List Int} (h : CI n ops p q) (hp : Pt n p) (ho : opsIn n ops) (hn : 0 < n) {f : OpD} (hf : f ∈ ops) {i k : Nat} (hi : i < n ^ f.ar.toNat) (hk : k < f.ar.toNat) :
 CI n ops p (unL q (bk f.tb i) (bk f.tb (subN n i k (bk q (digN n i k))))) := by
 obtain ⟨-, -, -, hv⟩ := ho f hf
 have h1 := (hv i hi).2
 have h2 := (hv _ (sub_lt hi hk (h.pt.lt (dig_lt hn i k)))).2
 exact ⟨unL_pt h.pt h1 h2, fi_trans hp h.fi (fi_unL h.pt h1 h2), fun r hr hc hpr => un_least h.pt h1 h2 (h.least r hr hc hpr) (cong_fi h.pt hc (h.least r hr hc hpr) hf hi hk hn)⟩
theorem CI.close {n : Nat} {ops : List OpD} {p q : List Int} (h : CI n ops p q) (hp : Pt n p) (ho : opsIn n ops) (hn : 0 < n) (hc : Cong n ops q) : q = closeL n ops p :=
 Lst.unique { pt := h.pt, cong := hc, fi := h.fi, least := h.least } (close_lst hn ho hp)
def Dn (n : Nat) (q : List Int) (f : OpD) (k i : Nat) : Prop := bk q (bk f.tb i) = bk q (bk f.tb (subN n i k (bk q (digN n i k))))
def RS (n : Nat) (q0 q : List Int) (ch : Bool) : Prop := (ch = false → q = q0) ∧ (ch = true → cnt n q < cnt n q0)
theorem RS.start (n : Nat) (q : List Int) : RS n q q false := ⟨fun _ => rfl, fun h => by cases h⟩
theorem RS.up {n : Nat} {q0 q q' : List Int} {ch : Bool} (h : RS n q0 q ch) (hc : cnt n q' < cnt n q) : RS n q0 q' true := by
 refine ⟨fun h => (by cases h), fun _ => ?_⟩
 cases ch with
 | false => rw [h.1 rfl] at hc; exact hc
 | true => have := h.2 rfl; omega
theorem iclosep_L (n : Nat) (ops : List OpD) (p : List Int) (hn0 : 0 < n) (hn : n ≤ 8) (hl : ops.length ≤ 1048576) (ho : opsIn n ops) (hp : Pt n p) :
 LCalls Tryz.prog 108 (.arr true 1 3 (p.map I)) [algP n ops, .hp 0] (.arr true 1 3 ((closeL n ops p).map I)) (B (decide (closeL n ops p ≠ p))) := by
 refine pcallsL1 Tryz.func108 rfl Tryz.ntmps108 rfl rfl rfl (by simp) fun b d => ?_
 simp only [List.length_cons, List.length_nil, Nat.reduceAdd, Nat.reduceSub, List.replicate_succ, List.replicate_zero]
 repeat' (first
| refine wO ?_
| (refine o_go rfl ?_; (first
| refine wS ?_
| refine p_p (ps_box rfl rfl) ?_); refine ⟨_, aB, ?_⟩))
 refine g_loopT (α := List Int × Bool × Bool) (fun x => [(5, B x.2.1), (6, B x.2.2)]) (fun x => [.arr true 1 3 (x.1.map I)]) (fun x => CI n ops p x.1 ∧ (x.2.1 = false → x.1 = p) ∧ (x.2.1 = true → cnt n x.1 < cnt n p) ∧ (x.2.2 = false → Cong n ops x.1)) (fun x => cnt n x.1 + if x.2.2 then 1 else 0) (p, false, true) aH ⟨.start hp, fun _ => rfl, fun h => (by cases h), fun h => (by cases h)⟩ ⟨rfl, rfl, trivial⟩ rfl ?_
 rintro ⟨q0, was, ch0⟩ ⟨hI0, hw1, hw2, hc0⟩
 dsimp only at hI0 hw1 hw2 hc0
 refine wH ?_
 cases ch0 with
 | false =>
  repeat' (first
| refine wO ?_
| (refine o_go rfl ?_; (first
| refine wS ?_); refine ⟨_, aB, ?_⟩)
| refine wE ?_)
  all_goals try (exfalso; omega)
  have hcl := hI0.close hp ho hn0 (hc0 rfl)
  refine krl 1 rfl ?_ rfl (krB rfl ?_)
  · rw [hcl]
  · rw [← hcl]
    cases was with
    | false => rw [hw1 rfl]; simp
    | true =>
     have hne : q0 ≠ p := fun h => by have := hw2 rfl; rw [h] at this; omega
     simp [hne]
 | true =>
  clear hc0
  repeat' (first
| refine wO ?_
| (refine o_go rfl ?_; (first
| refine wS ?_); refine ⟨_, aB, ?_⟩)
| refine wE ?_)
  all_goals try (exfalso; omega)
  refine g_loopT (α := Nat × List Int × Bool) (fun x => [(18, I (x.1 : Int)), (5, B (was || x.2.2)), (6, B x.2.2)]) (fun x => [.arr true 1 3 (x.2.1.map I)]) (fun x => x.1 ≤ ops.length ∧ CI n ops p x.2.1 ∧ RS n q0 x.2.1 x.2.2 ∧ (x.2.2 = false → ∀ f ∈ ops.take x.1, ∀ k, k < f.ar.toNat → ∀ i, i < n ^ f.ar.toNat → Dn n q0 f k i)) (fun x => ops.length - x.1) (0, q0, false) aH ⟨Nat.zero_le _, hI0, .start n q0, fun _ f hf => (by simp at hf)⟩ ⟨rfl, vB (by simp), rfl, trivial⟩ rfl ?_
  rintro ⟨o, q1, ch1⟩ ⟨hol, hI1, hR1, hD1⟩
  dsimp only at hol hI1 hR1 hD1
  refine wH ?_
  by_cases hoi : o < ops.length
  · have hq := opsK_at hoi
    have hfm := opsK_mem hoi
    have htk : ops.take (o + 1) = ops.take o ++ [ops.getD o default] := take_snoc default hoi
    obtain ⟨ha0, ha3, htl, -⟩ := ho _ hfm
    generalize hf : ops.getD o default = f at *
    obtain ⟨a, ha⟩ : ∃ a : Nat, f.ar = a := ⟨f.ar.toNat, by omega⟩
    have haa : f.ar.toNat = a := by omega
    have hpw := pow_le3 (show n ≤ 1000 by omega) (show a ≤ 3 by omega)
    rw [haa] at htl
    repeat' (first
| refine wO ?_
| (refine o_go rfl ?_; (first
| refine p_p (zN rfl rfl rfl zz hq ze) ?_
| refine wS ?_
| refine p_p (ps_load_agg rfl rfl aK) ?_
| refine p_e rfl (zO rfl rfl rfl rfl aK rfl rfl rfl) ?_
| refine p_e rfl (e_alloc rfl) ?_); refine ⟨_, aB, ?_⟩)
| (refine zK rfl ?_ ?_ <;> intro hc <;> try omega)
| refine wE ?_)
    all_goals try (exfalso; omega)
    refine g_loopT (α := Nat × List Int × Bool) (fun x => [(9, I ((n ^ x.1 : Nat) : Int)), (10, I (x.1 : Int)), (5, B (was || x.2.2)), (6, B x.2.2)]) (fun x => [.arr true 1 3 (x.2.1.map I), .box [I f.ar, ints f.tb]]) (fun x => x.1 ≤ a ∧ CI n ops p x.2.1 ∧ RS n q0 x.2.1 x.2.2 ∧ (x.2.2 = false → ∀ k, k < x.1 → ∀ i, i < n ^ a → Dn n q0 f k i) ∧ (x.2.2 = false → ch1 = false)) (fun x => a - x.1) (0, q1, ch1) aH ⟨Nat.zero_le _, hI1, hR1, fun _ k hk => absurd hk (Nat.not_lt_zero _), fun h => h⟩ ⟨rfl, rfl, rfl, rfl, trivial⟩ rfl ?_
    rintro ⟨k, q2, ch2⟩ ⟨hk, hI2, hR2, hD2, hm2⟩
    dsimp only at hk hI2 hR2 hD2 hm2
    refine wH ?_
    have hpk := pow_le3 (show n ≤ 1000 by omega) (show k ≤ 3 by omega)
    have hpk0 : 0 < n ^ k := Nat.pow_pos hn0
    by_cases hka : k < a
    · have hpk1 := pow_le3 (show n ≤ 1000 by omega) (show k + 1 ≤ 3 by omega)
      have hps : ((n ^ k : Nat) : Int) * (n : Int) = ((n ^ (k + 1) : Nat) : Int) := by rw [Nat.pow_succ]; push_cast; rfl
      repeat' (first
| refine wO ?_
| (refine o_go rfl ?_; (first
| refine wS ?_); refine ⟨_, aB, ?_⟩)
| (refine zK rfl ?_ ?_ <;> intro hc <;> try omega)
| refine wE ?_)
      all_goals try (exfalso; omega)
      refine g_loopT (α := Nat × List Int × Bool) (fun x => [(31, I (x.1 : Int)), (5, B (was || x.2.2)), (6, B x.2.2)]) (fun x => [.arr true 1 3 (x.2.1.map I), .box [I f.ar, ints f.tb]]) (fun x => x.1 ≤ n ^ a ∧ CI n ops p x.2.1 ∧ RS n q0 x.2.1 x.2.2 ∧ (x.2.2 = false → ∀ i, i < x.1 → Dn n q0 f k i) ∧ (x.2.2 = false → ch2 = false)) (fun x => n ^ a - x.1) (0, q2, ch2) aH ⟨Nat.zero_le _, hI2, hR2, fun _ k hk => absurd hk (Nat.not_lt_zero _), fun h => h⟩ ⟨rfl, rfl, rfl, trivial⟩ rfl ?_
      rintro ⟨i, q, ch⟩ ⟨hi, hI, hR, hD, hm⟩
      dsimp only at hi hI hR hD hm
      refine wH ?_
      by_cases hil : i < n ^ a
      · have hql := hI.pt.len
        have hqml : (q.map I).length = n := by rw [List.length_map]; exact hql
        have hdl := dig_lt hn0 i k
        have hbl := hI.pt.lt hdl
        have hix1 : (f.tb.map I)[((i : Nat) : Int).toNat]? = some (I (bk f.tb i : Int)) := by rw [← tb_val ho hfm (by rw [haa]; exact hil)]; exact idx_I (by omega)
        have hix2 : (q.map I)[digN n i k * 1]? = some (I (bk q (digN n i k) : Int)) := by rw [Nat.mul_one, ← hI.pt.val hdl]; exact idx_I (by omega)
        have hsl := sub_lt hil hka hbl
        have hix3 : (f.tb.map I)[((subN n i k (bk q (digN n i k)) : Nat) : Int).toNat]? = some (I (bk f.tb (subN n i k (bk q (digN n i k))) : Int)) := by rw [← tb_val ho hfm (by rw [haa]; exact hsl)]; exact idx_I (by omega)
        have hq1 : (i : Int) / ((n ^ k : Nat) : Int) = ((i / n ^ k : Nat) : Int) := by omega
        have hq2 : ((i / n ^ k : Nat) : Int) % (n : Int) = (digN n i k : Int) := by unfold digN; omega
        have hdv := Nat.div_le_self i (n ^ k)
        have hsi := sub_int (n := n) i k (bk q (digN n i k))
        have hmul : ((bk q (digN n i k) : Int) - (digN n i k : Int)) * ((n ^ k : Nat) : Int) = (subN n i k (bk q (digN n i k)) : Int) - (i : Int) := by omega
        have hadd : (i : Int) + ((subN n i k (bk q (digN n i k)) : Int) - (i : Int)) = (subN n i k (bk q (digN n i k)) : Int) := by omega
        have hst := hI.step hp ho hn0 hfm (i := i) (k := k) (by rw [haa]; exact hil) (by rw [haa]; exact hka)
        obtain ⟨-, -, -, hv⟩ := ho f hfm
        rw [haa] at hv
        have hv1 := (hv i hil).2
        have hv2 := (hv _ hsl).2
        clear hv
        have hdn : Dn n q f k i ↔ bk q (bk f.tb i) = bk q (bk f.tb (subN n i k (bk q (digN n i k)))) := Iff.rfl
        have hcnt := fun hne => cnt_unL hI.pt hv1 hv2 hne
        have hun := iun_L q (bk f.tb i) (bk f.tb (subN n i k (bk q (digN n i k)))) (by omega) (by omega) (by omega)
        have hself := unL_self (p := q) (x := bk f.tb i) (y := bk f.tb (subN n i k (bk q (digN n i k))))
        have e1 := hI.pt.val hv1
        have e2 := hI.pt.val hv2
        have hsub9 : (subN n i k (bk q (digN n i k)) : Int) ≤ 1000000000 := by omega
        generalize subN n i k (bk q (digN n i k)) = sb at *
        generalize bk f.tb sb = w at *
        generalize bk f.tb i = v at *
        by_cases he : q.getD v 0 = q.getD w 0
        · rw [decide_eq_false (fun h => h he), hself he] at hun
          repeat' (first
| refine wO ?_
| refine zP zk zk ?_
| (refine o_go rfl ?_; (first
| refine p_p (ps_quoV rfl rfl rfl hq1 zz zz zz) ?_
| refine p_p (ps_remV rfl rfl rfl hq2 (Int.natCast_nonneg _) zz) ?_
| refine p_p (ps_mulV rfl rfl rfl hmul zz) ?_
| refine p_p (ps_addV rfl rfl rfl hadd zz) ?_
| refine p_p (zN rfl rfl rfl zz hix1 ze) ?_
| refine p_p (zN rfl rfl rfl zz hix3 ze) ?_
| refine p_p (ps_unv (yA rfl rfl rfl rfl zz (by rw [n_toNat]; omega))) ?_
| refine p_p (ps_load_arr rfl rfl rfl hix2 (by rfl)) ?_
| refine p_e rfl (e_callL (n := 0) rfl rfl rfl aL rfl (by rfl) aT (hun)) ?_
| refine wS ?_); refine ⟨_, aB, ?_⟩)
| (refine zK rfl ?_ ?_ <;> intro hc <;> try omega)
| refine wE ?_)
          all_goals try (exfalso; omega)
          refine zT (i + 1, q, ch) ⟨by dsimp only; omega, hI, hR, fun hch i' hi' => ?_, hm⟩ (by dsimp only; omega) aI ⟨rfl, rfl, rfl, trivial⟩ (hpLe_refl _)
          rcases Nat.lt_or_ge i' i with h | h
          · exact hD hch i' h
          · have : i' = i := by dsimp only at hi'; omega
            rw [this, ← hR.1 hch]
            exact hdn.2 (by omega)
        · rw [decide_eq_true he] at hun
          have hlt := hcnt (by omega)
          repeat' (first
| refine wO ?_
| refine zP zk zk ?_
| (refine o_go rfl ?_; (first
| refine p_p (ps_quoV rfl rfl rfl hq1 zz zz zz) ?_
| refine p_p (ps_remV rfl rfl rfl hq2 (Int.natCast_nonneg _) zz) ?_
| refine p_p (ps_mulV rfl rfl rfl hmul zz) ?_
| refine p_p (ps_addV rfl rfl rfl hadd zz) ?_
| refine p_p (zN rfl rfl rfl zz hix1 ze) ?_
| refine p_p (zN rfl rfl rfl zz hix3 ze) ?_
| refine p_p (ps_unv (yA rfl rfl rfl rfl zz (by rw [n_toNat]; omega))) ?_
| refine p_p (ps_load_arr rfl rfl rfl hix2 (by rfl)) ?_
| refine p_e rfl (e_callL (n := 0) rfl rfl rfl aL rfl (by rfl) (by first | exact ⟨rfl, rfl, rfl, by simp only [List.length_map, unL_len]⟩ | exact ⟨rfl, rfl, by simp only [List.length_map, unL_len]⟩) hun) ?_
| refine wS ?_); refine ⟨_, aB, ?_⟩)
| (refine zK rfl ?_ ?_ <;> intro hc <;> try omega)
| refine wE ?_)
          all_goals try (exfalso; omega)
          exact zT (i + 1, unL q v w, true) ⟨by dsimp only; omega, hst, hR.up hlt, fun h => (by cases h), fun h => (by cases h)⟩ (by dsimp only; omega) aI ⟨rfl, vB (by simp), rfl, trivial⟩ (hpLe_refl _)
      · repeat' (first
| refine wO ?_
| (refine o_go rfl ?_; (first
| refine p_p (ps_mulV rfl rfl rfl hps zz) ?_
| refine wS ?_); refine ⟨_, aB, ?_⟩)
| (refine zK rfl ?_ ?_ <;> intro hc <;> try omega)
| refine wE ?_)
        all_goals try (exfalso; omega)
        refine zT (k + 1, q, ch) ⟨by dsimp only; omega, hI, hR, fun hch k' hk' i' hi' => ?_, fun h => hm2 (hm h)⟩ (by dsimp only; omega) aI ⟨rfl, rfl, rfl, rfl, trivial⟩ (hpLe_refl _)
        rcases Nat.lt_or_ge k' k with h | h
        · exact hD2 (hm hch) k' h i' hi'
        · have : k' = k := by dsimp only at hk'; omega
          rw [this]; exact hD hch i' (by omega)
    · repeat' (first
| refine wO ?_
| (refine o_go rfl ?_; (first
| refine wS ?_); refine ⟨_, aB, ?_⟩)
| (refine zK rfl ?_ ?_ <;> intro hc <;> try omega)
| refine wE ?_)
      all_goals try (exfalso; omega)
      refine zT (o + 1, q2, ch2) ⟨by dsimp only; omega, hI2, hR2, fun hch g hg => ?_⟩ (by dsimp only; omega) aI ⟨rfl, rfl, rfl, trivial⟩ (zB rfl (zM _))
      dsimp only at hg
      rw [htk, List.mem_append, List.mem_singleton] at hg
      rcases hg with hg | rfl
      · exact hD1 (hm2 hch) g hg
      · rw [haa, show a = k by omega]
        intro k' hk' i' hi'
        exact hD2 hch k' hk' i' (by rw [show a = k by omega]; exact hi')
  · repeat' (first
| refine wO ?_
| (refine o_go rfl ?_; (first
| refine wS ?_); refine ⟨_, aB, ?_⟩)
| (refine zK rfl ?_ ?_ <;> intro hc <;> try omega)
| refine wE ?_)
    all_goals try (exfalso; omega)
    refine zT (K := fun _ _ => True) (q1, was || ch1, ch1) ⟨hI1, fun hw => ?_, fun hw => ?_, fun hch => ?_⟩ ?_ aI ⟨rfl, rfl, trivial⟩ (hpLe_refl _)
    · dsimp only at hw ⊢
      obtain ⟨h1, h2⟩ := Bool.or_eq_false_iff.1 hw
      rw [hR1.1 h2, hw1 h1]
    · dsimp only at hw ⊢
      cases ch1 with
      | false =>
       rw [Bool.or_false] at hw
       rw [hR1.1 rfl]; exact hw2 hw
      | true =>
       have h1 := hR1.2 rfl
       cases was with
       | false => rw [hw1 rfl] at h1; exact h1
       | true => have := hw2 rfl; omega
    · dsimp only at hch ⊢
      rw [hR1.1 hch]
      intro f hf i hi j hj
      exact hD1 hch f (by rw [List.take_of_length_le (by omega)]; exact hf) j hj i hi
    · dsimp only
      cases ch1 with
      | false => rw [hR1.1 rfl]; simp
      | true => have := hR1.2 rfl; simp; omega
end Go.Proofs.YtepjlgilopfnpaaGreat
