/- Walks: joins, meets and closures, the program's side. -/
import Derived.Test.YtbohjibbgppfaaaGreatJKj
namespace Go.Pv
open Go
theorem j_callLG {P : Program} {o : Oper} {ev : Operand → PV} {hp : List HO} {x : Operand} {xs : Array Operand} {tys : Array TypeId} {f : FuncId} [hf : FnT P f] {first caps args : List PV} {n : Nat} {ho ho' : HO} {q : PV} (hop : o.op = .call { callee := .value x, args := xs, argTypes := tys }) (h1 : ev x = .fn f first caps) (hn : hp[n]? = some ho)
    (h2 : argsLS (first ++ (xs.toList.map fun y => lendP n hp (ev y)) ++ caps) args) (ha : aloneHO ho = true) (ha' : aloneHO ho' = true) (hsh : sameShape ho ho') (hq : killP n q = q) (hc : LCalls P f ho args ho' q) :
    JStep P o ev hp (some n) ((killH n ((hp.map (mapHO (krow1 n))).set n ho')).set n .gone) q := fun fr hfr => by
  have hel : (xs.toList.map fun y => lendP n hp ((St.mk fr hp).ev y)) = xs.toList.map fun y => lendP n hp (ev y) := List.map_congr_left fun y hm => by
    rw [hfr y (by simp only [hop, Op.operands, Call.operands]; exact Array.mem_append.2 (.inr (by simpa using hm)))]
  have h := e_callL (S := ⟨fr, hp⟩) hop ((hfr x (by simp [hop, Op.operands, Call.operands])).trans h1) hn (by rw [show (xs.toList.map fun y => lendP n (St.mk fr hp).hp ((St.mk fr hp).ev y)) = xs.toList.map fun y => lendP n hp (ev y) from hel]; exact h2) ha ha' hsh hc
  refine h.then fun w0 g ρ a w hr => ⟨g, GExt.refl g, ?_⟩
  have hlt : n < hp.length := (List.getElem?_eq_some_iff.1 hn).1
  have := rel_drop (k := n) (x := ho') hr (by cases o.dst <;> simp [St.put, hlt])
  have e : (⟨(St.put ⟨fr.map (krowP n), (hp.map (mapHO (krow1 n))).set n ho'⟩ o.dst q).fr.map (killP n), (killH n (St.put ⟨fr.map (krowP n), (hp.map (mapHO (krow1 n))).set n ho'⟩ o.dst q).hp).set n .gone⟩ : St) = St.put ⟨killO (some n) fr, (killH n ((hp.map (mapHO (krow1 n))).set n ho')).set n .gone⟩ o.dst q := by
    have hk1 : ∀ p, killP1 n (krow1 n p) = killP1 n p := fun p => by
      cases p <;> try rfl
      all_goals (simp only [krow1, killP1]; cases hb : (_ == n : Bool) <;> simp [killP1, hb])
    have hkA : ∀ p, killA n (krowA n p) = killA n p := fun p => by
      cases p with
      | agg l => simp only [krowA, killA, List.map_map, PV.agg.injEq]; exact List.map_congr_left fun x _ => hk1 x
      | gr a b => simp only [krowA, krow1]; cases hb : (a == n : Bool) <;> simp [killA, killP1, hb]
      | gat a b c => simp only [krowA, krow1]; cases hb : (a == n : Bool) <;> simp [killA, killP1, hb]
      | _ => rfl
    have hkP : ∀ p, killP n (krowP n p) = killP n p := fun p => by
      cases p with
      | agg l => simp only [krowP, killP, List.map_map, PV.agg.injEq]; exact List.map_congr_left fun x _ => hk1 x
      | tup l => simp only [krowP, killP, List.map_map, PV.tup.injEq]; exact List.map_congr_left fun x _ => hkA x
      | gr a b => simp only [krowP, krow1]; cases hb : (a == n : Bool) <;> simp [killP, killP1, hb]
      | gat a b c => simp only [krowP, krow1]; cases hb : (a == n : Bool) <;> simp [killP, killP1, hb]
      | _ => rfl
    have hmm : (fr.map (krowP n)).map (killP n) = fr.map (killP n) := by rw [List.map_map]; exact List.map_congr_left fun p _ => hkP p
    cases hd : o.dst with
    | none => simp only [St.put, killO, hmm]
    | some d => simp only [St.put, killO, List.map_set, hmm, hq]
  rw [e] at this
  exact this
end Go.Pv
namespace Go.Proofs.YtbohjibbgppfaaaGreat
open Go Go.Pv Go.Proofs
set_option maxHeartbeats 32000000
set_option maxRecDepth 100000
attribute [local bitvec_to_nat] St.put St.setObj St.ev killP killA killP1 killH mapHO renP renA ren1 killG killGA killG1 krowP krowA krow1 lendP lendA lend1 unv pinP pin1 elemsM viewM viewN viewV n_set_z n_set_s n_map_c n_map_n getD_z getD_s n_toNat n_cond_t n_cond_f n_len_c n_len_n n_app_c n_app_n n_take_s n_take_z n_drop_s n_drop_z n_get_z n_get_s view viewA view1 elems Nat.zero_add Nat.add_zero Bool.not_true Bool.not_false Nat.one_ne_zero Nat.mul_one

theorem ijoin_R (n : Nat) (p q : List Int) (hn : n ≤ 1048576) (hp : p.length = n) (hq : Pt n q) : RCalls Tryz.prog 181 [ints p, ints q] (.arr true 1 3 ((joinP n p q).map I)) (.hp 0) := by
  refine pcallsR1 Tryz.func181 rfl Tryz.ntmps181 rfl ?_
  refine wF ?_
  have hql := hq.len
  repeat' (first
| refine wO ?_
| (refine o_go rfl ?_; (first
| refine p_e rfl (e_callR rfl rfl aB rfl (iclone_R p (by omega))) ?_
| refine wS ?_); refine ⟨_, aA, ?_⟩))
  refine g_loopT (α := Nat) (fun x => [(5, .hp 0), (12, I (x : Int))]) (fun x => [.arr true 1 3 ((foldU ((prsL n q).take x) p).map I)]) (fun x => x ≤ n) (fun x => n - x) 0 aF (Nat.zero_le _) ⟨rfl, rfl, trivial⟩ rfl ?_
  rintro x hx
  dsimp only [zZ, List.set_cons_zero, List.set_cons_succ]
  by_cases hxn : x < n
  · have hlt := hq.lt hxn
    have h2 := iun_L (foldU ((prsL n q).take x) p) x (bk q x) (by rw [foldU_len]; omega) (by rw [foldU_len]; omega) (by rw [foldU_len]; omega)
    rw [← foldU_snoc, ← prs_take hxn] at h2
    have hv := hq.val hxn
    have hix : (q.map I)[((x : Nat) : Int).toNat]? = some (I (bk q x : Int)) := by rw [← hv]; exact idx_I (by omega)
    repeat' (first
| refine wO ?_
| (refine o_go rfl ?_; (first
| refine p_e rfl (e_callL (n := 0) rfl rfl rfl aL rfl (by rfl) (by first | exact ⟨rfl, rfl, rfl, by simp only [List.length_map, foldU_len]⟩ | exact ⟨rfl, rfl, by simp only [List.length_map, foldU_len]⟩) h2) ?_
| refine p_p (zN rfl rfl rfl (by omega) hix (by exact rfl)) ?_
| refine wS ?_); refine ⟨_, aA, ?_⟩)
| (refine zK rfl (fun hc => ?_) (fun hc => ?_) <;> try (exfalso; omega))
| refine wE ?_)
    all_goals try (exfalso; omega)
    exact zT (x + 1) (by omega) (by omega) aI ⟨rfl, rfl, trivial⟩ (zB rfl (zM _))
  · repeat' (first
| refine wO ?_
| (refine o_go rfl ?_; (first
| refine wS ?_); refine ⟨_, aA, ?_⟩)
| (refine zK rfl (fun hc => ?_) (fun hc => ?_) <;> try (exfalso; omega))
| refine krr 0 rfl (HandOut.arr rfl ?_ aT)
| refine wE ?_)
    all_goals try (exfalso; omega)
    rw [List.take_of_length_le (by simp [prsL]; omega)]; rfl
/-! ### Meets -/
theorem fstN_congr {n : Nat} {P Q : Nat → Bool} (h : ∀ y, y < n → P y = Q y) : fstN n P = fstN n Q := by
  unfold fstN
  congr 1
  have : ∀ l : List Nat, (∀ y ∈ l, y < n) → l.find? P = l.find? Q := by
    intro l
    induction l with
    | nil => intro _; rfl
    | cons a l ih => intro hl; rw [List.find?_cons, List.find?_cons, h a (hl a (List.mem_cons_self ..)), ih fun y hy => hl y (List.mem_cons_of_mem _ hy)]
  exact this _ fun y hy => List.mem_range.1 hy
def kerE (l : List Int) (i : Nat) : Nat := fstN l.length fun y => decide (l.getD y 0 = l.getD i 0)
def kerL (l : List Int) : List Int := (List.range l.length).map fun i => ((kerE l i : Nat) : Int)
theorem kerE_eq {l : List Int} {i j : Nat} (hj : j < l.length) (he : l.getD j 0 = l.getD i 0) (hlow : ∀ y, y < j → l.getD y 0 ≠ l.getD i 0) : kerE l i = j :=
  fstN_eq hj (decide_eq_true he) fun y hy => decide_eq_false (hlow y hy)
theorem kernel_R (l : List Int) (hl : l.length ≤ 1048576) : RCalls Tryz.prog 72 [ints l] (.arr true 1 3 ((kerL l).map I)) (.hp 0) := by
  refine pcallsR1 Tryz.func72 rfl Tryz.ntmps72 rfl ?_
  refine wF ?_
  have hrep : (List.replicate l.length (PV.val (Value.int IntKind.i64 0))).length = l.length := List.length_replicate
  repeat' (first
| refine wO ?_
| (refine o_go rfl ?_; (first
| refine wS ?_
| refine p_e rfl (e_make1 rfl rfl rfl (by omega) (by omega) (by omega) rfl rfl) ?_); refine ⟨_, aA, ?_⟩))
  refine g_loopT (α := Nat) (fun i => [(10, I (i : Int))]) (fun i => [.arr true 1 3 (((List.range i).map (fun i => ((kerE l i : Nat) : Int)) ++ List.replicate (l.length - i) 0).map I)]) (fun i => i ≤ l.length) (fun i => l.length - i) 0 aF (Nat.zero_le _) ⟨rfl, trivial⟩ (by simp) ?_
  rintro i hi
  dsimp only [zZ, List.set_cons_zero, List.set_cons_succ]
  have hll : (((List.range i).map (fun i => ((kerE l i : Nat) : Int)) ++ List.replicate (l.length - i) 0).map I).length = l.length := by simp; omega
  have hrl : ((List.range i).map (fun i => ((kerE l i : Nat) : Int))).length = i := by simp
  by_cases hil : i < l.length
  · have hset : ∀ v : Int, (((List.range i).map (fun i => ((kerE l i : Nat) : Int)) ++ List.replicate (l.length - i) 0).map I).set (i * 1) (I v) = ((List.range i).map (fun i => ((kerE l i : Nat) : Int)) ++ v :: List.replicate (l.length - (i + 1)) 0).map I := fun v => by
      rw [Nat.mul_one, ← List.map_set, List.set_append_right _ _ (by omega), hrl, Nat.sub_self, show l.length - i = (l.length - (i + 1)) + 1 by omega, List.replicate_succ]; rfl
    have hat : ∀ v : Int, (((List.range i).map (fun i => ((kerE l i : Nat) : Int)) ++ v :: List.replicate (l.length - (i + 1)) 0).map I)[i * 1]? = some (I v) := fun v => by
      rw [Nat.mul_one, List.getElem?_map, List.getElem?_append_right (by omega), hrl, Nat.sub_self]; rfl
    have hset2 : ∀ v v' : Int, (((List.range i).map (fun i => ((kerE l i : Nat) : Int)) ++ v :: List.replicate (l.length - (i + 1)) 0).map I).set (i * 1) (I v') = ((List.range i).map (fun i => ((kerE l i : Nat) : Int)) ++ v' :: List.replicate (l.length - (i + 1)) 0).map I := fun v v' => by
      rw [Nat.mul_one, ← List.map_set, List.set_append_right _ _ (by omega), hrl, Nat.sub_self]; rfl
    have hlen2 : ∀ v : Int, (((List.range i).map (fun i => ((kerE l i : Nat) : Int)) ++ v :: List.replicate (l.length - (i + 1)) 0).map I).length = l.length := fun v => by simp; omega
    have hsn := range_snoc (fun i => ((kerE l i : Nat) : Int)) i
    generalize (List.range i).map (fun i => ((kerE l i : Nat) : Int)) = K at *
    repeat' (first
| refine wO ?_
| (refine o_go rfl ?_; (first
| refine p_e (by kernel_rfl) (e_store_arr rfl rfl rfl rfl (by omega) rfl rfl) ?_
| refine wS ?_); refine ⟨_, aA, ?_⟩)
| (refine zK rfl (fun hc => ?_) (fun hc => ?_) <;> try (exfalso; omega))
| refine wE ?_)
    all_goals try (exfalso; omega)
    refine g_loopT (α := Nat) (fun _ => []) (fun j => [.arr true 1 3 ((K ++ (j : Int) :: List.replicate (l.length - (i + 1)) 0).map I)]) (fun j => j ≤ i ∧ ∀ y, y < j → l.getD y 0 ≠ l.getD i 0) (fun j => i - j) 0 aF ⟨Nat.zero_le _, fun y hy => absurd hy (Nat.not_lt_zero _)⟩ trivial (by rw [hset 0]; rfl) ?_
    rintro j ⟨hj, hlow⟩
    dsimp only [zZ, List.set_cons_zero, List.set_cons_succ]
    have hatj := hat (j : Int)
    have hlenj := hlen2 (j : Int)
    have hixj : (l.map I)[((j : Nat) : Int).toNat]? = some (I (l.getD j 0)) := idx_I (by omega)
    by_cases he : l.getD j 0 = l.getD i 0
    · have hk := kerE_eq (by omega) he hlow
      repeat' (first
| refine wO ?_
| refine zP (by kernel_rfl) (by kernel_rfl) ?_
| (refine o_go rfl ?_; (first
| refine p_p (ps_load_arr rfl rfl rfl hatj (by rfl)) ?_
| refine p_p (zN rfl rfl rfl (by omega) hixj (by exact rfl)) ?_
| refine wS ?_
| refine p_p (zN rfl rfl rfl (by omega) aP (by exact rfl)) ?_); refine ⟨_, aA, ?_⟩)
| (refine g_condN rfl (fun hc => ?_) (fun hc => ?_) <;> try (exfalso; omega))
| refine wE ?_)
      all_goals try (exfalso; omega)
      refine zT (i + 1) (by omega) (by omega) aI ⟨rfl, trivial⟩ (zB ?_ (zM _))
      rw [hsn, hk, List.append_assoc]; rfl
    · have hlt : j < i := by
        rcases Nat.lt_or_ge j i with h | h
        · exact h
        · exact absurd (by rw [show j = i by omega]) he
      have hs := hset2 (j : Int) ((j : Int) + 1)
      repeat' (first
| refine wO ?_
| refine zP (by kernel_rfl) (by kernel_rfl) ?_
| (refine o_go rfl ?_; (first
| refine p_p (ps_load_arr rfl rfl rfl hatj (by rfl)) ?_
| refine p_p (zN rfl rfl rfl (by omega) hixj (by exact rfl)) ?_
| refine p_e (by kernel_rfl) (e_store_arr rfl rfl rfl rfl (by omega) rfl rfl) ?_
| refine wS ?_
| refine p_p (zN rfl rfl rfl (by omega) aP (by exact rfl)) ?_); refine ⟨_, aA, ?_⟩)
| (refine g_condN rfl (fun hc => ?_) (fun hc => ?_) <;> try (exfalso; omega))
| refine wE ?_)
      all_goals try (exfalso; omega)
      refine zT (j + 1) ⟨by omega, fun y hy => ?_⟩ (by omega) aI trivial (zB ?_ (zM _))
      · rcases Nat.lt_or_ge y j with h | h
        · exact hlow y h
        · rw [show y = j by omega]; exact he
      · rw [hs]; rfl
  · repeat' (first
| refine wO ?_
| (refine o_go rfl ?_; (first
| refine wS ?_); refine ⟨_, aA, ?_⟩)
| (refine zK rfl (fun hc => ?_) (fun hc => ?_) <;> try (exfalso; omega))
| refine krr 0 rfl (HandOut.arr rfl ?_ aT)
| refine wE ?_)
    all_goals try (exfalso; omega)
    rw [show i = l.length by omega, Nat.sub_self]
    simp [kerL]
def prdL (n : Nat) (p q : List Int) : List Int := (List.range n).map fun i => p.getD i 0 * (n : Int) + q.getD i 0
theorem ker_meet {n : Nat} {p q : List Int} (hp : Pt n p) (hq : Pt n q) : kerL (prdL n p q) = meetP n p q := by
  unfold kerL meetP
  have hl : (prdL n p q).length = n := by simp [prdL]
  rw [hl]
  refine List.map_congr_left fun i hi => ?_
  have hi := List.mem_range.1 hi
  unfold kerE
  rw [hl]
  congr 1
  refine fstN_congr fun y hy => ?_
  have hat : ∀ y, y < n → (prdL n p q).getD y 0 = p.getD y 0 * (n : Int) + q.getD y 0 := fun y hy => by
    unfold prdL
    rw [List.getD_eq_getElem?_getD, List.getElem?_map, List.getElem?_range hy]; rfl
  rw [Bool.eq_iff_iff, decide_eq_true_eq, sameB_iff, hat y hy, hat i hi, hp.val hy, hp.val hi, hq.val hy, hq.val hi]
  have b1 := hq.lt hy
  have b2 := hq.lt hi
  constructor
  · intro h
    have h' : bk p y * n + bk q y = bk p i * n + bk q i := by exact_mod_cast h
    have d1 : (bk p y * n + bk q y) / n = bk p y := by rw [Nat.mul_comm, Nat.mul_add_div (by omega), Nat.div_eq_of_lt b1, Nat.add_zero]
    have d2 : (bk p i * n + bk q i) / n = bk p i := by rw [Nat.mul_comm, Nat.mul_add_div (by omega), Nat.div_eq_of_lt b2, Nat.add_zero]
    have e : bk p y = bk p i := by rw [← d1, ← d2, h']
    rw [e] at h'
    exact ⟨e, by omega⟩
  · rintro ⟨e1, e2⟩; rw [e1, e2]
theorem imeet_R (n : Nat) (p q : List Int) (hn : n ≤ 1000) (hp : Pt n p) (hq : Pt n q) : RCalls Tryz.prog 165 [ints p, ints q] (.arr true 1 3 ((meetP n p q).map I)) (.hp 0) := by
  refine pcallsR1 Tryz.func165 rfl Tryz.ntmps165 rfl ?_
  refine wF ?_
  have hpl := hp.len
  have hql := hq.len
  have hrep : (List.replicate p.length (PV.val (Value.int IntKind.i64 0))).length = n := by rw [List.length_replicate]; exact hpl
  repeat' (first
| refine wO ?_
| (refine o_go rfl ?_; (first
| refine wS ?_
| refine p_e rfl (e_make1 rfl rfl rfl (by omega) (by omega) (by omega) rfl rfl) ?_); refine ⟨_, aA, ?_⟩))
  refine g_loopT (α := Nat) (fun i => [(12, I (i : Int))]) (fun i => [.arr true 1 3 (((List.range i).map (fun i => p.getD i 0 * (n : Int) + q.getD i 0) ++ List.replicate (n - i) 0).map I)]) (fun i => i ≤ n) (fun i => n - i) 0 aF (Nat.zero_le _) ⟨rfl, trivial⟩ (by simp [hpl]) ?_
  rintro i hi
  dsimp only [zZ, List.set_cons_zero, List.set_cons_succ]
  have hll : (((List.range i).map (fun i => p.getD i 0 * (n : Int) + q.getD i 0) ++ List.replicate (n - i) 0).map I).length = n := by simp; omega
  have hrl : ((List.range i).map (fun i => p.getD i 0 * (n : Int) + q.getD i 0)).length = i := by simp
  by_cases hil : i < n
  · have hv := hp.val hil
    have hlt := hp.lt hil
    have hv2 := hq.val hil
    have hlt2 := hq.lt hil
    have hm : p.getD i 0 * (p.length : Int) = p.getD i 0 * (n : Int) := by rw [hpl]
    have hb : p.getD i 0 * (n : Int) ≤ 1000000 ∧ 0 ≤ p.getD i 0 * (n : Int) := by
      rw [hv]
      have : bk p i * n ≤ 1000 * 1000 := Nat.mul_le_mul (by omega) hn
      constructor
      · have : ((bk p i * n : Nat) : Int) ≤ 1000000 := by omega
        rw [← Int.natCast_mul]; exact this
      · exact Int.mul_nonneg (by omega) (by omega)
    have hsn := range_snoc (fun i => p.getD i 0 * (n : Int) + q.getD i 0) i
    generalize (List.range i).map (fun i => p.getD i 0 * (n : Int) + q.getD i 0) = K at *
    repeat' (first
| refine wO ?_
| refine zP (by kernel_rfl) (by kernel_rfl) ?_
| (refine o_go rfl ?_; (first
| refine p_p (ps_mulV rfl rfl rfl hm (by omega)) ?_
| refine p_e (by kernel_rfl) (e_store_arr rfl rfl rfl rfl (by omega) rfl rfl) ?_
| refine wS ?_
| refine p_p (zN rfl rfl rfl (by omega) aP (by exact rfl)) ?_); refine ⟨_, aA, ?_⟩)
| (refine zK rfl (fun hc => ?_) (fun hc => ?_) <;> try (exfalso; omega))
| refine wE ?_)
    all_goals try (exfalso; omega)
    refine zT (i + 1) (by omega) (by omega) aI ⟨rfl, trivial⟩ (zB ?_ (zM _))
    rw [hsn, Nat.mul_one, ← List.map_set, List.set_append_right _ _ (by omega), hrl, Nat.sub_self, show n - i = (n - (i + 1)) + 1 by omega, List.replicate_succ, List.append_assoc]; rfl
  · have hke := ker_meet hp hq
    have hpr : (List.range i).map (fun i => p.getD i 0 * (n : Int) + q.getD i 0) ++ List.replicate (n - i) 0 = prdL n p q := by
      rw [show i = n by omega, Nat.sub_self]; simp [prdL]
    rw [hpr]
    have h1 := kernel_R (prdL n p q) (by simp [prdL]; omega)
    rw [hke] at h1
    repeat' (first
| refine wO ?_
| (refine o_go rfl ?_; (first
| refine p_e rfl (e_callR rfl rfl aB rfl (h1)) ?_
| refine wS ?_); refine ⟨_, aA, ?_⟩)
| (refine zK rfl (fun hc => ?_) (fun hc => ?_) <;> try (exfalso; omega))
| refine krr 1 rfl (HandOut.arr rfl ?_ aT)
| refine wE ?_)
    all_goals first | rfl | (exfalso; omega)
end Go.Proofs.YtbohjibbgppfaaaGreat
