/- Plain: there is a list of all congruences, and on few elements it is short. -/
import Derived.Test.YtembaiccchgllaaGreatJKf
import Derived.Test.YtembaiccchgllaaGreatJPr
import Derived.Test.YtembaiccchgllaaGreatJZb
import Derived.Test.YtembaiccchgllaaGreatJNk
set_option linter.unusedSectionVars false
namespace Go.Proofs.YtembaiccchgllaaGreat
open Go Go.Pv Go.Proofs

def ptAll : Nat → List (List Int)
  | 0 => [[]]
  | k + 1 => (ptAll k).flatMap fun l => (List.range (k + 1)).map fun (v : Nat) => l ++ [(v : Int)]
theorem ptAll_mem : ∀ (k : Nat) (l : List Int), l.length = k → (∀ x, x < k → 0 ≤ l.getD x 0 ∧ l.getD x 0 ≤ (x : Int)) → l ∈ ptAll k
  | 0, l, h, _ => by rw [List.length_eq_zero_iff.1 h]; exact List.mem_singleton.2 rfl
  | k + 1, l, h, hb => by
    obtain ⟨m, v, rfl⟩ : ∃ m v, l = m ++ [v] := ⟨l.dropLast, l.getLast (by intro e; rw [e] at h; simp at h), (List.dropLast_concat_getLast _).symm⟩
    have hm : m.length = k := by simpa using h
    have hlow : ∀ x, x < k → (m ++ [v]).getD x 0 = m.getD x 0 := fun x hx => by
      rw [List.getD_eq_getElem?_getD, List.getElem?_append_left (by omega), List.getD_eq_getElem?_getD]
    have hv : (m ++ [v]).getD k 0 = v := by
      rw [List.getD_eq_getElem?_getD, List.getElem?_append_right (by omega), hm, Nat.sub_self]; rfl
    have h2 := hb k (by omega)
    rw [hv] at h2
    refine List.mem_flatMap.2 ⟨m, ptAll_mem k m hm fun x hx => by have := hb x (by omega); rwa [hlow x hx] at this, List.mem_map.2 ⟨v.toNat, List.mem_range.2 (by omega), ?_⟩⟩
    rw [show ((v.toNat : Nat) : Int) = v by omega]
theorem pt_ptAll {n : Nat} {p : List Int} (h : Pt n p) : p ∈ ptAll n := ptAll_mem n p h.len fun x hx => ⟨h.nn x hx, by have := h.le x hx; rw [h.val hx]; omega⟩
theorem foldPut {n : Nat} : ∀ (M L : List (List Int)), AscC n L → AscC n (M.foldl (putC n) L) ∧ ∀ q, q ∈ M.foldl (putC n) L ↔ q ∈ L ∨ q ∈ M
  | [], L, h => ⟨h, fun q => by simp⟩
  | p :: M, L, h => by
    obtain ⟨h1, h2⟩ := foldPut M (putC n L p) (putC_asc h)
    refine ⟨h1, fun q => ?_⟩
    rw [List.foldl_cons, h2, putC_mem, List.mem_cons, or_assoc]
open Classical in
theorem allC_ex (n : Nat) (ops : List OpD) : ∃ L, AllC n ops L := by
  obtain ⟨h1, h2⟩ := foldPut (n := n) ((ptAll n).filter fun q => decide (Pt n q ∧ Cong n ops q)) [] List.Pairwise.nil
  refine ⟨_, h1, fun q => ?_⟩
  rw [h2, List.mem_filter, decide_eq_true_eq]
  constructor
  · rintro (h | h)
    · cases h
    · exact h.2
  · exact fun h => .inr ⟨pt_ptAll h.1, h⟩
noncomputable def allL (n : Nat) (ops : List OpD) : List (List Int) := (allC_ex n ops).choose
theorem allL_all (n : Nat) (ops : List OpD) : AllC n ops (allL n ops) := (allC_ex n ops).choose_spec
theorem AllC.eq {n : Nat} {ops : List OpD} {L : List (List Int)} (h : AllC n ops L) : L = allL n ops := h.unique (allL_all n ops)
theorem allL_mem {n : Nat} {ops : List OpD} {q : List Int} : q ∈ allL n ops ↔ Pt n q ∧ Cong n ops q := (allL_all n ops).2 q
end Go.Proofs.YtembaiccchgllaaGreat
/- Walks: the reference's sorted lists of lists, lists of bits, prime filters. -/
namespace Go.Proofs.YtembaiccchgllaaGreat
open Go Go.Pv Go.Proofs
set_option maxHeartbeats 32000000
set_option maxRecDepth 100000
attribute [local bitvec_to_nat] St.put St.setObj St.ev killP killA killP1 killH mapHO renP renA ren1 killG killGA killG1 krowP krowA krow1 lendP lendA lend1 unv pinP pin1 elemsM viewM viewN viewV n_set_z n_set_s n_map_c n_map_n getD_z getD_s n_toNat n_cond_t n_cond_f n_len_c n_len_n n_app_c n_app_n n_take_s n_take_z n_drop_s n_drop_z n_get_z n_get_s view viewA view1 elems Nat.zero_add Nat.add_zero Bool.not_true Bool.not_false Nat.one_ne_zero Nat.mul_one

theorem less5_c (s t : List Int) (he : s.length = t.length) (hs : s.length ≤ 1048576) : PCalls Tryz.prog 329 [ints s, ints t] (B (decide (cmpX s t < 0))) := by
  refine pcalls1 Tryz.func329 rfl Tryz.ntmps329 rfl ?_
  simp only [List.length_cons, List.length_nil, Nat.reduceAdd, Nat.reduceSub, List.replicate_succ, List.replicate_zero, List.cons_append, List.nil_append]
  repeat' (first
| refine g_seq ?_
| refine zJ ?_
| refine zC ?_
| (refine o_go rfl ?_; (first
| refine p_p (zA rfl) ?_); refine ⟨_, aA, ?_⟩)
| refine o_nil ?_)
  refine g_loopT (α := Nat) (fun i => [(5, I (i : Int))]) (fun _ => []) (fun i => i ≤ s.length ∧ cmpX (s.drop i) (t.drop i) = cmpX s t) (fun i => s.length - i) 0 aF ⟨Nat.zero_le _, rfl⟩ ⟨rfl, trivial⟩ rfl ?_
  rintro i ⟨hi, hcm⟩
  dsimp only [zZ, List.set_cons_zero, List.set_cons_succ]
  by_cases hin : i < s.length
  · rw [drop_cons' 0 hin, drop_cons' 0 (show i < t.length by omega)] at hcm
    simp only [cmpX] at hcm
    repeat' (first
| refine g_seq ?_
| refine zJ ?_
| refine zC ?_
| refine zP (by kernel_rfl) (by kernel_rfl) ?_
| (refine o_go rfl ?_; (first
| refine p_p (zD rfl) ?_
| refine p_p (zA rfl) ?_
| refine p_p (zF rfl rfl) ?_
| refine p_p (zN rfl rfl rfl (by omega) aM (by exact rfl)) ?_
| refine p_p (zU rfl rfl rfl) ?_
| refine p_p (zS rfl rfl rfl) ?_
| refine p_p (ps_add rfl rfl rfl aN) ?_
| refine p_p (ps_neq rfl rfl rfl) ?_); refine ⟨_, aA, ?_⟩)
| refine o_nil ?_
| (refine g_condN rfl (fun hc => ?_) (fun hc => ?_) <;> try (exfalso; omega))
| (refine zK rfl (fun hc => ?_) (fun hc => ?_) <;> try (exfalso; omega))
| refine kr1 ?_
| refine krB rfl ?_
| refine zR ?_
| refine g_ret ?_)
    · rw [if_neg hc] at hcm
      rw [← hcm]
      by_cases h : s.getD i 0 < t.getD i 0
      · rw [if_pos h, decide_eq_true h]; rfl
      · rw [if_neg h, decide_eq_false h]; rfl
    · rw [if_pos hc] at hcm
      exact zT (i + 1) ⟨by omega, hcm⟩ (by omega) aI ⟨rfl, trivial⟩ (zM _)
  · rw [List.drop_of_length_le (by omega), List.drop_of_length_le (by omega)] at hcm
    repeat' (first
| refine g_seq ?_
| refine zC ?_
| (refine o_go rfl ?_; (first
| refine p_p (zD rfl) ?_
| refine p_p (zA rfl) ?_
| refine p_p (zU rfl rfl rfl) ?_
| refine p_p (zS rfl rfl rfl) ?_); refine ⟨_, aA, ?_⟩)
| refine o_nil ?_
| (refine zK rfl (fun hc => ?_) (fun hc => ?_) <;> try (exfalso; omega))
| refine kr1 ?_
| refine krB rfl ?_
| refine g_exit ?_
| refine g_ret ?_)
    rw [← hcm]; rfl
end Go.Proofs.YtembaiccchgllaaGreat
/- The layer: the row of a struct grows. -/
namespace Go.Pv
open Go
attribute [local semireducible] Go.Pv.Goal Go.Pv.Ops Go.Pv.PStep Go.Pv.EStep Go.Pv.KRets Go.Pv.PCalls Go.Pv.OpsG Go.Pv.RCalls
section
variable {P : Program} {o : Oper} {S : St}
theorem thawS_VRS1 {g g' : Ghost} {ρ : Nat → Loc} {hp : List HO} {n : Nat} {e1 e2 : TypeId} {rows : List (List PV)} {l : List PV} (hx : GExt g g') (hn : hp[n]? = some (.sg e1 e2 0 rows)) (hl : l.length = rows.length) {v : Value} {p : PV} (h : VRS1 g ρ hp v p) :
    VRS1 g' ρ (hp.set n (.arr true 2 e1 l)) v p := by
  have hlt : n < hp.length := (List.getElem?_eq_some_iff.1 hn).1
  have hat : ∀ i, i ≠ n → (hp.set n (.arr true 2 e1 l))[i]? = hp[i]? := fun i hi => List.getElem?_set_ne (Ne.symm hi)
  have hatn : (hp.set n (.arr true 2 e1 l))[n]? = some (.arr true 2 e1 l) := List.getElem?_set_self hlt
  have keyH : ∀ {id}, HpV ρ hp v id → HpV ρ (hp.set n (.arr true 2 e1 l)) v id := fun {id} hh => by
    by_cases e' : id = n
    · subst e'
      refine ⟨hh.sl, fun m s e l' hid => ?_, fun e1 e2 rows hid => ?_, fun e1 e2 k rows hid => ?_, fun l' hid => ?_, fun e1 e2 k rows hid => ?_⟩
      · rw [hatn] at hid; cases hid; rw [hl, hh.sg _ _ _ _ hn, Nat.add_zero]
      · rw [hatn] at hid; cases hid
      · rw [hatn] at hid; cases hid
      · rw [hatn] at hid; cases hid
      · rw [hatn] at hid; cases hid
    · exact { sl := hh.sl, arr := fun m s' e2 l' hid => (by rw [hat _ e'] at hid; exact hh.arr _ _ _ _ hid), grid := fun e1 e2 rows hid => (by rw [hat _ e'] at hid; exact hh.grid _ _ _ hid), sg := fun e1 e2 m rows hid => (by rw [hat _ e'] at hid; exact hh.sg _ _ _ _ hid), pg := fun e1 e2 m rows hid => (by rw [hat _ e'] at hid; exact hh.pg _ _ _ _ hid), box := fun l' hid => (by rw [hat _ e'] at hid; exact hh.box _ hid) }
  cases p with
  | hp id => exact keyH h
  | hpv id b d => exact ⟨keyH h.1, h.2⟩
  | hat id i => exact h
  | hatv id i b d => exact h
  | gr j i =>
    refine (⟨GrV.sl h, fun e1' e2' rows' r hid hr => ?_, fun e1' e2' _n rows' r hid hr => ?_⟩ : GrV _ _ _ _ _)
    rotate_left
    · by_cases e' : j = n
      · rw [e', hatn] at hid; cases hid
      · rw [hat _ e'] at hid; exact GrV.sg h _ _ _ _ _ hid hr
    by_cases e' : j = n
    · rw [e', hatn] at hid; cases hid
    · rw [hat _ e'] at hid; exact GrV.grid h _ _ _ _ hid hr
  | gat id i j => exact h
  | _ => exact VR.mono hx h
theorem e_appendRowS {t e : TypeId} {by_ : Nat} {z0 : Value} [ht : MkT P t e 1 by_ [z0]] {x y : Operand} {tys : Array TypeId} {id i : Nat} {e1 e2 : TypeId} {rows : List (List PV)} {h0 : PV} {r l2 : List PV} {nn : Option Bool} (ho : o.op = .call { callee := .builtin .append, args := #[x, y], argTypes := tys })
    (htys : tys = #[t, t]) (h1 : S.ev x = .gr id i) (hh : S.hp[id]? = some (.sg e1 e2 0 rows)) (he : e2 = e) (hr : rows[i]? = some (h0 :: r)) (h2 : view S.hp (S.ev y) = .sl 1 nn l2) (hone : ∀ p ∈ l2, p.one = true)
    (hb : (r.length + l2.length) * by_ ≤ 140737488355328) (hm : r.length + l2.length ≤ 9223372036854775807) : EStep P o S (St.put ⟨S.fr, S.hp.set id (.arr true 2 e1 (rows.map sgP))⟩ o.dst (slR (r ++ l2))) := by
  intro w0 g ρ a w hrl Q K hK
  obtain ⟨cur, rc, og⟩ := hrl.base.own id _ hh
  obtain ⟨a1, a2, a3, a4⟩ := og.hrow i _ hr
  simp only [List.tail_cons] at a1 a2
  have hi : i < rows.length := (List.getElem?_eq_some_iff.1 hr).1
  have hrow : ArrOwn g w w0.own true 1 e2 r ⟨(ρ id).rows i, (ρ id).caps i, fun _ => 0, fun _ => 0⟩ (rc i) (fun j => [r.getD j .any]) := by
    refine ⟨by decide, og.hB' i hi, a2.1, a2.2, a3, by rw [a4, Nat.mul_one], fun j p hj => ?_, fun j k p hj hk => ?_, fun o' => by rw [og.hg' i o' hi]; simp⟩
    · have := (og.hv i _ j p hr hj).1
      simp [List.getD_eq_getElem?_getD, hj, flat_one this]
    · have hk0 : k = 0 := by rcases k with _ | k; rfl; simp at hk
      subst hk0
      simp only [List.getElem?_cons_zero, Option.some.injEq] at hk
      have hjr : r[j]? = some p := by rw [← hk]; simp [hj]
      simpa using (og.hv i _ j p hr hjr).2
  have ex : a.eval x = .slice (some ⟨(ρ id).rows i, 0, none⟩) r.length ((ρ id).caps i) := by have := hrl.ev x; rw [h1] at this; exact GrV.sg this _ _ _ _ _ hh hr
  have ey := hrl.base.view (hrl.ev y)
  rw [h2] at ey
  obtain ⟨c2, cs, hf2, hv2, blk, cap, cur', w', g', hrun, hx, hag, hbl, hold, hB, hcap, hmax, hw', hsz', k1, k2, hg', hblk, hkeep, hkeepI⟩ := append_ends (ht := ht) ho htys he hrow hrl.base.agree hrl.base.below ex ey (fun p hp c hc => by
    rw [flat_one (hone p hp)] at hc; cases hc; simp [hone p hp]) rfl hb hm
  unfold Oper.wp
  rw [hrun]
  have hlb : (ρ id).blk < w.heap.size := (Array.getElem?_eq_some_iff.1 og.hw).1
  let D : Nat → Bool := fun b => rowD (ρ id) rows.length b || b == blk
  have hDb : D blk = true := by simp [D]
  have hDr : ∀ k, k < rows.length → D ((ρ id).rows k) = true := fun k hk => by
    simp [D, rowD_iff.2 ⟨k, hk, rfl⟩]
  have hDs : ∀ b, D b = true → (∃ k, k < rows.length ∧ b = (ρ id).rows k) ∨ b = blk := fun b hd => by
    simp only [D, Bool.or_eq_true, beq_iff_eq] at hd
    rcases hd with hd | hd
    · exact .inl (rowD_iff.1 hd)
    · exact .inr hd
  have hx2 := snap_ext hag D
  have hset : (S.hp.map (mapHO _root_.id)).set id (.arr true 2 e1 (rows.map sgP)) = S.hp.set id (.arr true 2 e1 (rows.map sgP)) := by rw [map_mapHO_id]
  have hφ : ∀ v p, VRS1 g ρ S.hp v p → VRS1 (snap g' w' D) ρ (S.hp.set id (.arr true 2 e1 (rows.map sgP))) v p := fun v p hv => thawS_VRS1 (hx.trans hx2) hh (by simp) hv
  have hnb : ¬ D (ρ id).blk = true := fun hd => by
    rcases hDs _ hd with ⟨k, hk, e⟩ | e
    · exact og.hne k hk e.symm
    · rcases hblk with h | h
      · exact og.hne i hi (h.symm.trans e.symm)
      · omega
  have hbi : (ρ id).blk ≠ (ρ id).rows i := fun e => og.hne i hi e.symm
  have hbase := hrl.base.upd hh (x' := .arr true 2 e1 (rows.map sgP)) (ρ id) (hx.trans hx2) _root_.id (fun v p hv => by rw [upd_self, hset]; exact hφ v p hv) (snap_agree hag D) hbl
    (fun b k hb => (snap_old (fun hd => by
      rcases hDs b hd with ⟨k, hk, e⟩ | e
      · exact hb (e ▸ og.hB' k hk)
      · exact hb (e ▸ hB)) k).trans (hold b k hb))
    ⟨cur, fun k => [(rows.getD k []).headD .any, slR (rows.getD k []).tail], ⟨by decide, og.hB, by simpa using og.hcap, og.hmax, (hkeep _ hlb hbi).1.trans og.hw, og.hsz, fun k p hk => by
      simp only [List.getElem?_map, Option.map_eq_some_iff] at hk
      obtain ⟨r', hr', rfl⟩ := hk
      simp [sgP, PV.flat, List.getD_eq_getElem?_getD, hr'], fun k j q hk hq => by
      simp only [List.length_map] at hk
      have hr' : rows[k]? = some (rows.getD k []) := by simp [hk]
      rcases j with _ | _ | j
      · simp only [List.getElem?_cons_zero, Option.some.injEq] at hq
        subst hq
        rw [Nat.add_zero]
        exact (og.hh k _ hr').2.mono (hx.trans hx2)
      rotate_left
      · simp at hq
      simp only [Nat.zero_add, List.getElem?_cons_succ, List.getElem?_cons_zero, Option.some.injEq] at hq
      subst hq
      simp only [Nat.zero_add]
      rw [(og.hrow k _ hr').1]
      by_cases e : k = i ∧ blk = (ρ id).rows i
      · obtain ⟨rfl, eb⟩ := e
        have er : rows.getD k [] = h0 :: r := by rw [hr] at hr'; exact (Option.some.inj hr').symm
        rw [er, List.tail_cons]
        refine .sl 1 none _ 0 _ r (fun j => [r.getD j .any]) (fun k => cur'.getD k undef) (by decide) (by simp) a2.1 a2.2 hrow.hf (fun o' ho' => ?_) (fun j k' p hj hp => ?_)
        · rw [Nat.zero_add, ← eb]
          refine snap_cell hDb hw' o' ?_
          rw [hsz', Nat.mul_one]
          rw [Nat.mul_one] at ho'
          exact Nat.lt_of_lt_of_le ho' (Nat.le_trans (Nat.le_add_right _ _) hcap)
        · have := (hrow.hv j k' p hj hp).mono (hx.trans hx2)
          have hk' : k' = 0 := by rcases k' with _ | k'; rfl; simp at hp
          subst hk'
          rw [k1 _ (by omega)]
          exact this
      · have hw2 := (og.hrow k _ hr').2.2.1
        have hlt := (Array.getElem?_eq_some_iff.1 hw2).1
        have hw3 : w'.heap[(ρ id).rows k]? = some (.cells (rc k) e2 (0, 0)) := by
          by_cases e' : k = i
          · subst e'
            have hb' : w.heap.size ≤ blk := by
              rcases hblk with h | h
              · exact absurd ⟨rfl, h⟩ e
              · exact h
            exact (hkeepI (fun e3 => by have e3 : blk = (ρ id).rows k := e3; omega)).trans hw2
          · exact (hkeep _ hlt (fun e2 => e' (og.hinj k i hk hi e2))).1.trans hw2
        exact og.row (hx.trans hx2) hr' (fun o' ho' => snap_cell (hDr k hk) hw3 o' ho'), fun k => by rw [snap_old hnb, (hkeep _ hlb hbi).2 k, og.hg k]; simp⟩⟩
    (fun b hb => .inl (.inl hb)) (fun b hb1 hb2 => by
      have hne : b ≠ (ρ id).rows i := fun e => hb2 (.inr ⟨i, hi, e⟩)
      refine ⟨(hkeep b hb1 hne).1, fun k => (snap_old (fun hd => ?_) k).trans ((hkeep b hb1 hne).2 k)⟩
      rcases hDs b hd with ⟨k, hk, e⟩ | e
      · exact hb2 (.inr ⟨k, hk, e⟩)
      · rcases hblk with h | h
        · exact hne (e.trans h)
        · omega)
  rw [upd_self, hset] at hbase
  have hrel : Rel w0 ⟨S.fr, S.hp.set id (.arr true 2 e1 (rows.map sgP))⟩ (snap g' w' D) ρ a w' := ⟨hbase, hrl.dead, hrl.size, fun i p hp => (hrl.fr i p hp).turn hφ⟩
  have hnew := hrow.grow (L' := ⟨blk, cap, fun _ => 0, fun _ => 0⟩) hx hB hcap hmax hw' hsz' hf2 hv2 k1 k2 hg'
  have hvr : VR (snap g' w' D) (.slice (some ⟨blk, 0, none⟩) (r ++ l2).length cap) (slR (r ++ l2)) :=
    .sl 1 none blk 0 cap (r ++ l2) _ (fun k => cur'.getD k undef) (by decide) (by simp) (by simpa using hcap) hmax hnew.hf (fun k hk => by
      rw [Nat.zero_add]
      refine snap_cell hDb hw' k ?_
      rw [hsz']
      simp only [List.length_append, Nat.mul_one] at hk ⊢
      omega) (fun i j q hi hq => (hnew.hv i j q hi hq).mono hx2)
  rw [List.length_append] at hvr
  exact hK _ _ _ _ (hx.trans hx2) (hrel.put hbase (GExt.refl _) (.of_VR hvr) o.dst)
end
end Go.Pv
