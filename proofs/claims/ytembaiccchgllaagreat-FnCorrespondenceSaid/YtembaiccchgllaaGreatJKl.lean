/- Walks: joins, meets and closures, the program's side. -/
import Derived.Test.YtembaiccchgllaaGreatJKj
namespace Go.Pv
open Go
theorem j_callLG {P : Program} {o : Oper} {ev : Operand → PV} {hp : List HO} {x : Operand} {xs : Array Operand} {tys : Array TypeId} {f : FuncId} [hf : FnT P f] {first caps args : List PV} {n : Nat} {ho ho' : HO} {q : PV} (hop : o.op = .call { callee := .value x, args := xs, argTypes := tys }) (h1 : ev x = .fn f first caps) (hn : hp[n]? = some ho)
    (h2 : argsLS (first ++ (xs.toList.map fun y => lendP n hp (ev y)) ++ caps) args) (ha : aloneHO ho = true) (ha' : aloneHO ho' = true) (hsh : sameShape ho ho') (hq : killP n q = q) (hc : LCalls P f ho args ho' q) :
    JStep P o ev hp (some n) ((killH n ((hp.map (mapHO (krow1 n))).set n ho')).set n .gone) q := fun fr hfr => by
  have hel : (xs.toList.map fun y => lendP n hp ((St.mk fr hp).ev y)) = xs.toList.map fun y => lendP n hp (ev y) := List.map_congr_left fun y hm => by
    rw [hfr y (by simp only [hop, Op.operands, Call.operands]; exact Array.mem_append.2 (.inr (by simpa using hm)))]
  have h := e_callL (S := ⟨fr, hp⟩) hop ((hfr x (by simp [hop, Op.operands, Call.operands])).trans h1) hn (by rw [show (xs.toList.map fun y => lendP n (St.mk fr hp).hp ((St.mk fr hp).ev y)) = xs.toList.map fun y => lendP n hp (ev y) from hel]; exact h2) ha ha' hsh hc
  refine h.then fun w0 g ρ a w hr => ⟨g, GExt.refl g, ?_⟩
  have hlt : n < hp.length := (List.getElem?_eq_some_iff.1 hn).1
  have := rel_drop (k := n) (x := ho') hr (by cases o.dst <;> simp [St.put, hlt])
  have e : (⟨(St.put ⟨fr.map (krowP n), (hp.map (mapHO (krow1 n))).set n ho'⟩ o.dst q).fr.map (killP n), (killH n (St.put ⟨fr.map (krowP n), (hp.map (mapHO (krow1 n))).set n ho'⟩ o.dst q).hp).set n .gone⟩ : St) = St.put ⟨killO (some n) fr, (killH n ((hp.map (mapHO (krow1 n))).set n ho')).set n .gone⟩ o.dst q := by
    have hk1 : ∀ p, killP1 n (krow1 n p) = killP1 n p := fun p => by
      cases p <;> try rfl
      all_goals (simp only [krow1, killP1]; cases hb : (_ == n : Bool) <;> simp [killP1, hb])
    have hkA : ∀ p, killA n (krowA n p) = killA n p := fun p => by
      cases p with
      | agg l => simp only [krowA, killA, List.map_map, PV.agg.injEq]; exact List.map_congr_left fun x _ => hk1 x
      | gr a b => simp only [krowA, krow1]; cases hb : (a == n : Bool) <;> simp [killA, killP1, hb]
      | gat a b c => simp only [krowA, krow1]; cases hb : (a == n : Bool) <;> simp [killA, killP1, hb]
      | _ => rfl
    have hkP : ∀ p, killP n (krowP n p) = killP n p := fun p => by
      cases p with
      | agg l => simp only [krowP, killP, List.map_map, PV.agg.injEq]; exact List.map_congr_left fun x _ => hk1 x
      | tup l => simp only [krowP, killP, List.map_map, PV.tup.injEq]; exact List.map_congr_left fun x _ => hkA x
      | gr a b => simp only [krowP, krow1]; cases hb : (a == n : Bool) <;> simp [killP, killP1, hb]
      | gat a b c => simp only [krowP, krow1]; cases hb : (a == n : Bool) <;> simp [killP, killP1, hb]
      | _ => rfl
    have hmm : (fr.map (krowP n)).map (killP n) = fr.map (killP n) := by rw [List.map_map]; exact List.map_congr_left fun p _ => hkP p
    cases hd : o.dst with
    | none => simp only [St.put, killO, hmm]
    | some d => simp only [St.put, killO, List.map_set, hmm, hq]
  rw [e] at this
  exact this
end Go.Pv
namespace Go.Proofs.YtembaiccchgllaaGreat
open Go Go.Pv Go.Proofs
set_option maxHeartbeats 32000000
set_option maxRecDepth 100000
attribute [local bitvec_to_nat] St.put St.setObj St.ev killP killA killP1 killH mapHO renP renA ren1 killG killGA killG1 krowP krowA krow1 lendP lendA lend1 unv pinP pin1 elemsM viewM viewN viewV n_set_z n_set_s n_map_c n_map_n getD_z getD_s n_toNat n_cond_t n_cond_f n_len_c n_len_n n_app_c n_app_n n_take_s n_take_z n_drop_s n_drop_z n_get_z n_get_s view viewA view1 elems Nat.zero_add Nat.add_zero Bool.not_true Bool.not_false Nat.one_ne_zero Nat.mul_one

theorem ijoin_R (n : Nat) (p q : List Int) (hn : n ≤ 1048576) (hp : p.length = n) (hq : Pt n q) : RCalls Tryz.prog 122 [ints p, ints q] (.arr true 1 3 ((joinP n p q).map I)) (.hp 0) := by
  refine pcallsR1 Tryz.func122 rfl Tryz.ntmps122 rfl ?_
  simp only [List.length_cons, List.length_nil, Nat.reduceAdd, Nat.reduceSub, List.replicate_succ, List.replicate_zero, List.cons_append, List.nil_append]
  have hql := hq.len
  repeat' (first
| refine g_seq ?_
| refine zJ ?_
| refine zC ?_
| (refine o_go rfl ?_; (first
| refine p_e rfl (e_callR rfl rfl aC rfl (iclone_R p (by omega))) ?_
| refine p_p (zD rfl) ?_
| refine p_p (zA rfl) ?_
| refine p_p (zU rfl rfl rfl) ?_); refine ⟨_, aB, ?_⟩)
| refine o_nil ?_)
  refine g_loopT (α := Nat) (fun x => [(5, .hp 0), (12, I (x : Int))]) (fun x => [.arr true 1 3 ((foldU ((prsL n q).take x) p).map I)]) (fun x => x ≤ n) (fun x => n - x) 0 aH (Nat.zero_le _) ⟨rfl, rfl, trivial⟩ rfl ?_
  rintro x hx
  dsimp only [zZ, List.set_cons_zero, List.set_cons_succ]
  by_cases hxn : x < n
  · have hlt := hq.lt hxn
    have h2 := iun_L (foldU ((prsL n q).take x) p) x (bk q x) (by rw [foldU_len]; omega) (by rw [foldU_len]; omega) (by rw [foldU_len]; omega)
    rw [← foldU_snoc, ← prs_take hxn] at h2
    have hv := hq.val hxn
    have hix : (q.map I)[((x : Nat) : Int).toNat]? = some (I (bk q x : Int)) := by rw [← hv]; exact idx_I (by omega)
    repeat' (first
| refine g_seq ?_
| refine zJ ?_
| refine zC ?_
| (refine o_go rfl ?_; (first
| refine p_e rfl (e_callL (n := 0) rfl rfl rfl aK rfl (by rfl) (by first | exact ⟨rfl, rfl, rfl, by simp only [List.length_map, foldU_len]⟩ | exact ⟨rfl, rfl, by simp only [List.length_map, foldU_len]⟩) h2) ?_
| refine p_p (zN rfl rfl rfl (by omega) hix (by exact rfl)) ?_
| refine p_p (zD rfl) ?_
| refine p_p (zA rfl) ?_
| refine p_p (zF rfl rfl) ?_
| refine p_p (zS rfl rfl rfl) ?_
| refine p_p (ps_add rfl rfl rfl aO) ?_); refine ⟨_, aB, ?_⟩)
| refine o_nil ?_
| (refine zK rfl (fun hc => ?_) (fun hc => ?_) <;> try (exfalso; omega))
| refine zR ?_)
    all_goals try (exfalso; omega)
    exact zT (x + 1) (by omega) (by omega) aI ⟨rfl, rfl, trivial⟩ (zB rfl (zM _))
  · repeat' (first
| refine g_seq ?_
| refine zC ?_
| (refine o_go rfl ?_; (first
| refine p_p (zD rfl) ?_
| refine p_p (zA rfl) ?_
| refine p_p (zS rfl rfl rfl) ?_); refine ⟨_, aB, ?_⟩)
| refine o_nil ?_
| (refine zK rfl (fun hc => ?_) (fun hc => ?_) <;> try (exfalso; omega))
| refine krr 0 rfl (HandOut.arr rfl ?_ aS)
| refine g_exit ?_
| refine g_ret ?_)
    all_goals try (exfalso; omega)
    rw [List.take_of_length_le (by simp [prsL]; omega)]; rfl
/-! ### Meets -/
def kerE (l : List Int) (i : Nat) : Nat := fstN l.length fun y => decide (l.getD y 0 = l.getD i 0)
def kerL (l : List Int) : List Int := (List.range l.length).map fun i => ((kerE l i : Nat) : Int)
theorem kerE_eq {l : List Int} {i j : Nat} (hj : j < l.length) (he : l.getD j 0 = l.getD i 0) (hlow : ∀ y, y < j → l.getD y 0 ≠ l.getD i 0) : kerE l i = j :=
  fstN_eq hj (decide_eq_true he) fun y hy => decide_eq_false (hlow y hy)
theorem kernel_R (l : List Int) (hl : l.length ≤ 1048576) : RCalls Tryz.prog 142 [ints l] (.arr true 1 3 ((kerL l).map I)) (.hp 0) := by
  refine pcallsR1 Tryz.func142 rfl Tryz.ntmps142 rfl ?_
  simp only [List.length_cons, List.length_nil, Nat.reduceAdd, Nat.reduceSub, List.replicate_succ, List.replicate_zero, List.cons_append, List.nil_append]
  have hrep : (List.replicate l.length (PV.val (Value.int IntKind.i64 0))).length = l.length := List.length_replicate
  repeat' (first
| refine g_seq ?_
| refine zJ ?_
| refine zC ?_
| (refine o_go rfl ?_; (first
| refine p_p (zD rfl) ?_
| refine p_p (zA rfl) ?_
| refine p_p (zU rfl rfl rfl) ?_
| refine p_e rfl (e_make1 rfl rfl rfl (by omega) (by omega) (by omega) rfl rfl) ?_); refine ⟨_, aB, ?_⟩)
| refine o_nil ?_)
  refine g_loopT (α := Nat) (fun i => [(10, I (i : Int))]) (fun i => [.arr true 1 3 (((List.range i).map (fun i => ((kerE l i : Nat) : Int)) ++ List.replicate (l.length - i) 0).map I)]) (fun i => i ≤ l.length) (fun i => l.length - i) 0 aH (Nat.zero_le _) ⟨rfl, trivial⟩ (by simp) ?_
  rintro i hi
  dsimp only [zZ, List.set_cons_zero, List.set_cons_succ]
  have hll : (((List.range i).map (fun i => ((kerE l i : Nat) : Int)) ++ List.replicate (l.length - i) 0).map I).length = l.length := by simp; omega
  have hrl : ((List.range i).map (fun i => ((kerE l i : Nat) : Int))).length = i := by simp
  by_cases hil : i < l.length
  · have hset : ∀ v : Int, (((List.range i).map (fun i => ((kerE l i : Nat) : Int)) ++ List.replicate (l.length - i) 0).map I).set (i * 1) (I v) = ((List.range i).map (fun i => ((kerE l i : Nat) : Int)) ++ v :: List.replicate (l.length - (i + 1)) 0).map I := fun v => by
      rw [Nat.mul_one, ← List.map_set, List.set_append_right _ _ (by omega), hrl, Nat.sub_self, show l.length - i = (l.length - (i + 1)) + 1 by omega, List.replicate_succ]; rfl
    have hat : ∀ v : Int, (((List.range i).map (fun i => ((kerE l i : Nat) : Int)) ++ v :: List.replicate (l.length - (i + 1)) 0).map I)[i * 1]? = some (I v) := fun v => by
      rw [Nat.mul_one, List.getElem?_map, List.getElem?_append_right (by omega), hrl, Nat.sub_self]; rfl
    have hset2 : ∀ v v' : Int, (((List.range i).map (fun i => ((kerE l i : Nat) : Int)) ++ v :: List.replicate (l.length - (i + 1)) 0).map I).set (i * 1) (I v') = ((List.range i).map (fun i => ((kerE l i : Nat) : Int)) ++ v' :: List.replicate (l.length - (i + 1)) 0).map I := fun v v' => by
      rw [Nat.mul_one, ← List.map_set, List.set_append_right _ _ (by omega), hrl, Nat.sub_self]; rfl
    have hlen2 : ∀ v : Int, (((List.range i).map (fun i => ((kerE l i : Nat) : Int)) ++ v :: List.replicate (l.length - (i + 1)) 0).map I).length = l.length := fun v => by simp; omega
    have hsn := range_snoc (fun i => ((kerE l i : Nat) : Int)) i
    generalize (List.range i).map (fun i => ((kerE l i : Nat) : Int)) = K at *
    repeat' (first
| refine g_seq ?_
| refine zJ ?_
| refine zC ?_
| (refine o_go rfl ?_; (first
| refine p_e (by kernel_rfl) (e_store_arr rfl rfl rfl rfl (by omega) rfl rfl) ?_
| refine p_p (zD rfl) ?_
| refine p_p (zA rfl) ?_
| refine p_p (zS rfl rfl rfl) ?_
| refine p_p (yA rfl rfl rfl rfl (by omega) aT) ?_); refine ⟨_, aB, ?_⟩)
| refine o_nil ?_
| (refine zK rfl (fun hc => ?_) (fun hc => ?_) <;> try (exfalso; omega))
| refine zR ?_)
    all_goals try (exfalso; omega)
    refine g_loopT (α := Nat) (fun _ => []) (fun j => [.arr true 1 3 ((K ++ (j : Int) :: List.replicate (l.length - (i + 1)) 0).map I)]) (fun j => j ≤ i ∧ ∀ y, y < j → l.getD y 0 ≠ l.getD i 0) (fun j => i - j) 0 aH ⟨Nat.zero_le _, fun y hy => absurd hy (Nat.not_lt_zero _)⟩ trivial (by rw [hset 0]; rfl) ?_
    rintro j ⟨hj, hlow⟩
    dsimp only [zZ, List.set_cons_zero, List.set_cons_succ]
    have hatj := hat (j : Int)
    have hlenj := hlen2 (j : Int)
    have hixj : (l.map I)[((j : Nat) : Int).toNat]? = some (I (l.getD j 0)) := idx_I (by omega)
    by_cases he : l.getD j 0 = l.getD i 0
    · have hk := kerE_eq (by omega) he hlow
      repeat' (first
| refine g_seq ?_
| refine zC ?_
| refine zP (by kernel_rfl) (by kernel_rfl) ?_
| (refine o_go rfl ?_; (first
| refine p_p (ps_load_arr rfl rfl rfl hatj (by rfl)) ?_
| refine p_p (zN rfl rfl rfl (by omega) hixj (by exact rfl)) ?_
| refine p_p (zD rfl) ?_
| refine p_p (zF rfl rfl) ?_
| refine p_p (zN rfl rfl rfl (by omega) aP (by exact rfl)) ?_
| refine p_p (ps_add rfl rfl rfl aO) ?_
| refine p_p (ps_neq rfl rfl rfl) ?_
| refine p_p (yA rfl rfl rfl rfl (by omega) aT) ?_); refine ⟨_, aB, ?_⟩)
| refine o_nil ?_
| (refine g_condN rfl (fun hc => ?_) (fun hc => ?_) <;> try (exfalso; omega))
| refine g_exit ?_)
      all_goals try (exfalso; omega)
      refine zT (i + 1) (by omega) (by omega) aI ⟨rfl, trivial⟩ (zB ?_ (zM _))
      rw [hsn, hk, List.append_assoc]; rfl
    · have hlt : j < i := by
        rcases Nat.lt_or_ge j i with h | h
        · exact h
        · exact absurd (by rw [show j = i by omega]) he
      have hs := hset2 (j : Int) ((j : Int) + 1)
      repeat' (first
| refine g_seq ?_
| refine zJ ?_
| refine zC ?_
| refine zP (by kernel_rfl) (by kernel_rfl) ?_
| (refine o_go rfl ?_; (first
| refine p_p (ps_load_arr rfl rfl rfl hatj (by rfl)) ?_
| refine p_p (zN rfl rfl rfl (by omega) hixj (by exact rfl)) ?_
| refine p_e (by kernel_rfl) (e_store_arr rfl rfl rfl rfl (by omega) rfl rfl) ?_
| refine p_p (zD rfl) ?_
| refine p_p (zF rfl rfl) ?_
| refine p_p (zN rfl rfl rfl (by omega) aP (by exact rfl)) ?_
| refine p_p (ps_add rfl rfl rfl aO) ?_
| refine p_p (ps_neq rfl rfl rfl) ?_
| refine p_p (yA rfl rfl rfl rfl (by omega) aT) ?_); refine ⟨_, aB, ?_⟩)
| refine o_nil ?_
| (refine g_condN rfl (fun hc => ?_) (fun hc => ?_) <;> try (exfalso; omega))
| refine zR ?_)
      all_goals try (exfalso; omega)
      refine zT (j + 1) ⟨by omega, fun y hy => ?_⟩ (by omega) aI trivial (zB ?_ (zM _))
      · rcases Nat.lt_or_ge y j with h | h
        · exact hlow y h
        · rw [show y = j by omega]; exact he
      · rw [hs]; rfl
  · repeat' (first
| refine g_seq ?_
| refine zC ?_
| (refine o_go rfl ?_; (first
| refine p_p (zD rfl) ?_
| refine p_p (zA rfl) ?_
| refine p_p (zS rfl rfl rfl) ?_); refine ⟨_, aB, ?_⟩)
| refine o_nil ?_
| (refine zK rfl (fun hc => ?_) (fun hc => ?_) <;> try (exfalso; omega))
| refine krr 0 rfl (HandOut.arr rfl ?_ aS)
| refine g_exit ?_
| refine g_ret ?_)
    all_goals try (exfalso; omega)
    rw [show i = l.length by omega, Nat.sub_self]
    simp [kerL]
end Go.Proofs.YtembaiccchgllaaGreat
