/- Walks: congruences of pairs, the program's side. -/
import Derived.Test.YtbohjibbgppfaaaGreatJKm
import Derived.Test.YtbohjibbgppfaaaGreatJKi
set_option linter.unusedSectionVars false
namespace Go.Proofs.YtbohjibbgppfaaaGreat
open Go Go.Pv Go.Proofs
set_option maxHeartbeats 32000000
set_option maxRecDepth 100000
attribute [local bitvec_to_nat] St.put St.setObj St.ev killP killA killP1 killH mapHO renP renA ren1 killG killGA killG1 krowP krowA krow1 lendP lendA lend1 unv pinP pin1 elemsM viewM viewN viewV n_set_z n_set_s n_map_c n_map_n getD_z getD_s n_toNat n_cond_t n_cond_f n_len_c n_len_n n_app_c n_app_n n_take_s n_take_z n_drop_s n_drop_z n_get_z n_get_s view viewA view1 elems Nat.zero_add Nat.add_zero Bool.not_true Bool.not_false Nat.one_ne_zero Nat.mul_one

theorem cg_close {n : Nat} {ops : List OpD} {p : List Int} (hn : 0 < n) (ho : opsIn n ops) : cgB n ops p = (ptB n p && !decide (closeL n ops p ≠ p)) := by
  unfold cgB
  cases hb : ptB n p with
  | false => rfl
  | true =>
    have hp := ptB_iff.1 hb
    rw [Bool.true_and, Bool.true_and]
    have h1 := push_same hn ho hp
    have h2 := close_same hn ho hp
    by_cases h : Cong n ops p
    · rw [decide_eq_true (h1.2 h), h2.2 h]; simp
    · rw [decide_eq_false (fun e => h (h1.1 e))]
      have : closeL n ops p ≠ p := fun e => h (h2.1 e)
      simp [this]
theorem iisc_c (n : Nat) (ops : List OpD) (p : List Int) (hn0 : 0 < n) (hn : n ≤ 8) (hl : ops.length ≤ 1048576) (ho : opsIn n ops) (hp : p.length ≤ 1048576) : PCalls Tryz.prog 78 [algP n ops, ints p] (B (cgB n ops p)) := by
  refine pcalls1 Tryz.func78 rfl Tryz.ntmps78 rfl ?_
  refine wF ?_
  rw [cg_close hn0 ho]
  have h1 := iptn_c n p (by omega) hp
  cases hb : ptB n p with
  | false =>
    rw [hb] at h1
    repeat' (first
| refine wO ?_
| refine zP (by kernel_rfl) (by kernel_rfl) ?_
| (refine o_go rfl ?_; (first
| refine p_p (zG rfl rfl aB (h1)) ?_
| refine wS ?_
| refine p_p (ps_box rfl rfl) ?_); refine ⟨_, aA, ?_⟩)
| (refine o_s rfl ?_; refine ⟨_, aA, ?_⟩)
| refine kr1 ?_
| refine krB rfl ?_
| refine wE ?_)
    all_goals first | rfl | (exfalso; omega)
  | true =>
    rw [hb] at h1
    have hpt := ptB_iff.1 hb
    have h2 := iclosep_L n ops p hn0 hn hl ho hpt
    have hcl := (close_lst hn0 ho hpt).pt.len
    have hpl := hpt.len
    repeat' (first
| refine wO ?_
| (refine o_go rfl ?_; (first
| refine wS ?_
| refine p_p (ps_box rfl rfl) ?_); refine ⟨_, aA, ?_⟩))
    refine g_region_drawZ [(0, some [0]), (1, some [0]), (2, some [0]), (3, some [0]), (4, some [0]), (5, some [0]), (6, some [0]), (7, none), (8, none), (9, none), (10, none), (11, none)] [(7, 0), (8, 0)] (fun _ => True) (by kernel_rfl) rfl (by kernel_rfl) ?_
    repeat' (first
| refine z_nil ?_
| ((first
| refine zV rfl rfl (fun hp hH => zG rfl rfl aB (h1)) aJ aN (by decide) aC ?_
| refine zV rfl rfl (fun _ _ => zD rfl) aJ aD (by decide) aC ?_
| refine zV rfl rfl (fun _ _ => zF rfl rfl) aJ aD (by decide) aC ?_
| refine zV rfl rfl (fun _ _ => ps_load_agg rfl rfl aK) aJ aD (by decide) aC ?_
| refine zV rfl rfl (fun _ _ => zL rfl rfl) aJ aD (by decide) aC ?_
| refine z_eff rfl rfl aG (j_callR rfl rfl aB rfl (iclone_R p hp)) aH ?_
| refine z_eff rfl rfl aG (j_callLG (n := 0) rfl rfl rfl aL rfl (by rfl) (by first | exact ⟨rfl, rfl, rfl, by simp only [List.length_map, hcl, hpl]⟩ | exact ⟨rfl, rfl, by simp only [List.length_map, hcl, hpl]⟩) rfl h2) aH ?_
| refine z_eff rfl rfl aG (j_pure (zA rfl)) aH ?_
| refine z_eff rfl rfl aG (j_pure (ps_not rfl rfl)) aH ?_
| refine z_eff rfl rfl aG (j_pure (zQ rfl rfl)) aH ?_); refine ⟨_, aQ, ?_⟩))
    repeat' (first
| refine kr1 ?_
| refine krB rfl ?_
| refine wE ?_)
    all_goals first | rfl | (exfalso; omega) | exact (Bool.true_and _).symm
abbrev prsP (L : List (Nat × Nat)) : PV := .sl 2 none (L.map fun xy => .agg [I (xy.1 : Int), I (xy.2 : Int)])
theorem icgo_R (n : Nat) (ops : List OpD) (L : List (Nat × Nat)) (hn0 : 0 < n) (hn : n ≤ 8) (hl : ops.length ≤ 1048576) (ho : opsIn n ops) (hL : L.length ≤ 1048576) (hxy : ∀ xy ∈ L, xy.1 < n ∧ xy.2 < n) :
    RCalls Tryz.prog 179 [algP n ops, prsP L] (.arr true 1 3 ((closeL n ops (foldU L (idL n))).map I)) (.hp 0) := by
  refine pcallsR1 Tryz.func179 rfl Tryz.ntmps179 rfl ?_
  refine wF ?_
  have h1 := ident_R n (by omega)
  have hid := idL_pt n
  repeat' (first
| refine wO ?_
| (refine o_go rfl ?_; (first
| refine p_e rfl (e_callR rfl rfl aB rfl (h1)) ?_
| refine wS ?_
| refine p_p (ps_box rfl rfl) ?_); refine ⟨_, aA, ?_⟩))
  refine g_loopT (α := Nat) (fun i => [(5, .hp 0), (13, I (i : Int))]) (fun i => [.arr true 1 3 ((foldU (L.take i) (idL n)).map I)]) (fun i => i ≤ L.length) (fun i => L.length - i) 0 aF (Nat.zero_le _) ⟨rfl, rfl, trivial⟩ rfl ?_
  rintro i hi
  dsimp only [zZ, List.set_cons_zero, List.set_cons_succ]
  by_cases hil : i < L.length
  · have hxi := hxy (L.getD i (0, 0)) (by rw [List.getD_eq_getElem?_getD, List.getElem?_eq_getElem hil]; exact List.getElem_mem _)
    have htk : L.take (i + 1) = L.take i ++ [L.getD i (0, 0)] := take_snoc (0, 0) hil
    have hq : (L.map fun xy => PV.agg [I (xy.1 : Int), I (xy.2 : Int)])[((i : Nat) : Int).toNat]? = some (.agg [I ((L.getD i (0, 0)).1 : Int), I ((L.getD i (0, 0)).2 : Int)]) := by
      rw [Int.toNat_natCast, List.getElem?_map, List.getElem?_eq_getElem hil, List.getD_eq_getElem?_getD, List.getElem?_eq_getElem hil]; rfl
    obtain ⟨x, y, hxyd⟩ : ∃ x y, L.getD i (0, 0) = (x, y) := ⟨_, _, rfl⟩
    rw [hxyd] at htk hq hxi
    have hun := iun_L (foldU (L.take i) (idL n)) x y (by rw [foldU_len, hid.len]; omega) (by rw [foldU_len, hid.len]; exact hxi.1) (by rw [foldU_len, hid.len]; exact hxi.2)
    rw [← foldU_snoc, ← htk] at hun
    repeat' (first
| refine wO ?_
| (refine o_go rfl ?_; (first
| refine p_p (zN rfl rfl rfl (by omega) hq (by exact rfl)) ?_
| refine p_p (ps_index_hatarr rfl rfl rfl (by omega) (by decide)) ?_
| refine p_e rfl (e_callL (n := 0) rfl rfl rfl aL rfl (by rfl) (by first | exact ⟨rfl, rfl, rfl, by simp only [List.length_map, foldU_len]⟩ | exact ⟨rfl, rfl, by simp only [List.length_map, foldU_len]⟩) hun) ?_
| refine wS ?_
| refine p_p (ps_load_agg rfl rfl aK) ?_
| refine p_e rfl (zO rfl rfl rfl rfl aK rfl rfl rfl) ?_
| refine p_e rfl (e_alloc rfl) ?_); refine ⟨_, aA, ?_⟩)
| (refine zK rfl (fun hc => ?_) (fun hc => ?_) <;> try (exfalso; omega))
| refine wE ?_)
    all_goals try (exfalso; omega)
    exact zT (i + 1) (by omega) (by omega) aI ⟨rfl, rfl, trivial⟩ (zB rfl (zM _))
  · have hle : L.take i = L := List.take_of_length_le (by omega)
    rw [hle]
    have hpt := foldU_pt hid hxy
    have h2 := iclosep_L n ops (foldU L (idL n)) hn0 hn hl ho hpt
    have hcl := (close_lst hn0 ho hpt).pt.len
    have hpl := hpt.len
    repeat' (first
| refine wO ?_
| (refine o_go rfl ?_; (first
| refine p_e rfl (e_callL (n := 0) rfl rfl rfl aL rfl (by rfl) (by first | exact ⟨rfl, rfl, rfl, by simp only [List.length_map, hcl, hpl]⟩ | exact ⟨rfl, rfl, by simp only [List.length_map, hcl, hpl]⟩) h2) ?_
| refine wS ?_
| refine p_p (ps_load_agg rfl rfl aK) ?_); refine ⟨_, aA, ?_⟩)
| (refine zK rfl (fun hc => ?_) (fun hc => ?_) <;> try (exfalso; omega))
| refine krr 0 rfl (HandOut.arr rfl ?_ aT)
| refine wE ?_)
    all_goals first | rfl | (exfalso; omega)
end Go.Proofs.YtbohjibbgppfaaaGreat
/- The layer: the row of a struct grows. -/
namespace Go.Pv
open Go
attribute [local semireducible] Go.Pv.Goal Go.Pv.Ops Go.Pv.PStep Go.Pv.EStep Go.Pv.KRets Go.Pv.PCalls Go.Pv.OpsG Go.Pv.RCalls
section
variable {P : Program} {o : Oper} {S : St}
theorem thawS_VRS1 {g g' : Ghost} {ρ : Nat → Loc} {hp : List HO} {n : Nat} {e1 e2 : TypeId} {rows : List (List PV)} {l : List PV} (hx : GExt g g') (hn : hp[n]? = some (.sg e1 e2 0 rows)) (hl : l.length = rows.length) {v : Value} {p : PV} (h : VRS1 g ρ hp v p) :
    VRS1 g' ρ (hp.set n (.arr true 2 e1 l)) v p := by
  have hlt : n < hp.length := (List.getElem?_eq_some_iff.1 hn).1
  have hat : ∀ i, i ≠ n → (hp.set n (.arr true 2 e1 l))[i]? = hp[i]? := fun i hi => List.getElem?_set_ne (Ne.symm hi)
  have hatn : (hp.set n (.arr true 2 e1 l))[n]? = some (.arr true 2 e1 l) := List.getElem?_set_self hlt
  have keyH : ∀ {id}, HpV ρ hp v id → HpV ρ (hp.set n (.arr true 2 e1 l)) v id := fun {id} hh => by
    by_cases e' : id = n
    · subst e'
      refine ⟨hh.sl, fun m s e l' hid => ?_, fun e1 e2 rows hid => ?_, fun e1 e2 k rows hid => ?_, fun l' hid => ?_, fun e1 e2 k rows hid => ?_⟩
      · rw [hatn] at hid; cases hid; rw [hl, hh.sg _ _ _ _ hn, Nat.add_zero]
      · rw [hatn] at hid; cases hid
      · rw [hatn] at hid; cases hid
      · rw [hatn] at hid; cases hid
      · rw [hatn] at hid; cases hid
    · exact { sl := hh.sl, arr := fun m s' e2 l' hid => (by rw [hat _ e'] at hid; exact hh.arr _ _ _ _ hid), grid := fun e1 e2 rows hid => (by rw [hat _ e'] at hid; exact hh.grid _ _ _ hid), sg := fun e1 e2 m rows hid => (by rw [hat _ e'] at hid; exact hh.sg _ _ _ _ hid), pg := fun e1 e2 m rows hid => (by rw [hat _ e'] at hid; exact hh.pg _ _ _ _ hid), box := fun l' hid => (by rw [hat _ e'] at hid; exact hh.box _ hid) }
  cases p with
  | hp id => exact keyH h
  | hpv id b d => exact ⟨keyH h.1, h.2⟩
  | hat id i => exact h
  | hatv id i b d => exact h
  | gr j i =>
    refine (⟨GrV.sl h, fun e1' e2' rows' r hid hr => ?_, fun e1' e2' _n rows' r hid hr => ?_⟩ : GrV _ _ _ _ _)
    rotate_left
    · by_cases e' : j = n
      · rw [e', hatn] at hid; cases hid
      · rw [hat _ e'] at hid; exact GrV.sg h _ _ _ _ _ hid hr
    by_cases e' : j = n
    · rw [e', hatn] at hid; cases hid
    · rw [hat _ e'] at hid; exact GrV.grid h _ _ _ _ hid hr
  | gat id i j => exact h
  | _ => exact VR.mono hx h
theorem e_appendRowS {t e : TypeId} {by_ : Nat} {z0 : Value} [ht : MkT P t e 1 by_ [z0]] {x y : Operand} {tys : Array TypeId} {id i : Nat} {e1 e2 : TypeId} {rows : List (List PV)} {h0 : PV} {r l2 : List PV} {nn : Option Bool} (ho : o.op = .call { callee := .builtin .append, args := #[x, y], argTypes := tys })
    (htys : tys = #[t, t]) (h1 : S.ev x = .gr id i) (hh : S.hp[id]? = some (.sg e1 e2 0 rows)) (he : e2 = e) (hr : rows[i]? = some (h0 :: r)) (h2 : view S.hp (S.ev y) = .sl 1 nn l2) (hone : ∀ p ∈ l2, p.one = true)
    (hb : (r.length + l2.length) * by_ ≤ 140737488355328) (hm : r.length + l2.length ≤ 9223372036854775807) : EStep P o S (St.put ⟨S.fr, S.hp.set id (.arr true 2 e1 (rows.map sgP))⟩ o.dst (slR (r ++ l2))) := by
  intro w0 g ρ a w hrl Q K hK
  obtain ⟨cur, rc, og⟩ := hrl.base.own id _ hh
  obtain ⟨a1, a2, a3, a4⟩ := og.hrow i _ hr
  simp only [List.tail_cons] at a1 a2
  have hi : i < rows.length := (List.getElem?_eq_some_iff.1 hr).1
  have hrow : ArrOwn g w w0.own true 1 e2 r ⟨(ρ id).rows i, (ρ id).caps i, fun _ => 0, fun _ => 0⟩ (rc i) (fun j => [r.getD j .any]) := by
    refine ⟨by decide, og.hB' i hi, a2.1, a2.2, a3, by rw [a4, Nat.mul_one], fun j p hj => ?_, fun j k p hj hk => ?_, fun o' => by rw [og.hg' i o' hi]; simp⟩
    · have := (og.hv i _ j p hr hj).1
      simp [List.getD_eq_getElem?_getD, hj, flat_one this]
    · have hk0 : k = 0 := by rcases k with _ | k; rfl; simp at hk
      subst hk0
      simp only [List.getElem?_cons_zero, Option.some.injEq] at hk
      have hjr : r[j]? = some p := by rw [← hk]; simp [hj]
      simpa using (og.hv i _ j p hr hjr).2
  have ex : a.eval x = .slice (some ⟨(ρ id).rows i, 0, none⟩) r.length ((ρ id).caps i) := by have := hrl.ev x; rw [h1] at this; exact GrV.sg this _ _ _ _ _ hh hr
  have ey := hrl.base.view (hrl.ev y)
  rw [h2] at ey
  obtain ⟨c2, cs, hf2, hv2, blk, cap, cur', w', g', hrun, hx, hag, hbl, hold, hB, hcap, hmax, hw', hsz', k1, k2, hg', hblk, hkeep, hkeepI⟩ := append_ends (ht := ht) ho htys he hrow hrl.base.agree hrl.base.below ex ey (fun p hp c hc => by
    rw [flat_one (hone p hp)] at hc; cases hc; simp [hone p hp]) rfl hb hm
  unfold Oper.wp
  rw [hrun]
  have hlb : (ρ id).blk < w.heap.size := (Array.getElem?_eq_some_iff.1 og.hw).1
  let D : Nat → Bool := fun b => rowD (ρ id) rows.length b || b == blk
  have hDb : D blk = true := by simp [D]
  have hDr : ∀ k, k < rows.length → D ((ρ id).rows k) = true := fun k hk => by
    simp [D, rowD_iff.2 ⟨k, hk, rfl⟩]
  have hDs : ∀ b, D b = true → (∃ k, k < rows.length ∧ b = (ρ id).rows k) ∨ b = blk := fun b hd => by
    simp only [D, Bool.or_eq_true, beq_iff_eq] at hd
    rcases hd with hd | hd
    · exact .inl (rowD_iff.1 hd)
    · exact .inr hd
  have hx2 := snap_ext hag D
  have hset : (S.hp.map (mapHO _root_.id)).set id (.arr true 2 e1 (rows.map sgP)) = S.hp.set id (.arr true 2 e1 (rows.map sgP)) := by rw [map_mapHO_id]
  have hφ : ∀ v p, VRS1 g ρ S.hp v p → VRS1 (snap g' w' D) ρ (S.hp.set id (.arr true 2 e1 (rows.map sgP))) v p := fun v p hv => thawS_VRS1 (hx.trans hx2) hh (by simp) hv
  have hnb : ¬ D (ρ id).blk = true := fun hd => by
    rcases hDs _ hd with ⟨k, hk, e⟩ | e
    · exact og.hne k hk e.symm
    · rcases hblk with h | h
      · exact og.hne i hi (h.symm.trans e.symm)
      · omega
  have hbi : (ρ id).blk ≠ (ρ id).rows i := fun e => og.hne i hi e.symm
  have hbase := hrl.base.upd hh (x' := .arr true 2 e1 (rows.map sgP)) (ρ id) (hx.trans hx2) _root_.id (fun v p hv => by rw [upd_self, hset]; exact hφ v p hv) (snap_agree hag D) hbl
    (fun b k hb => (snap_old (fun hd => by
      rcases hDs b hd with ⟨k, hk, e⟩ | e
      · exact hb (e ▸ og.hB' k hk)
      · exact hb (e ▸ hB)) k).trans (hold b k hb))
    ⟨cur, fun k => [(rows.getD k []).headD .any, slR (rows.getD k []).tail], ⟨by decide, og.hB, by simpa using og.hcap, og.hmax, (hkeep _ hlb hbi).1.trans og.hw, og.hsz, fun k p hk => by
      simp only [List.getElem?_map, Option.map_eq_some_iff] at hk
      obtain ⟨r', hr', rfl⟩ := hk
      simp [sgP, PV.flat, List.getD_eq_getElem?_getD, hr'], fun k j q hk hq => by
      simp only [List.length_map] at hk
      have hr' : rows[k]? = some (rows.getD k []) := by simp [hk]
      rcases j with _ | _ | j
      · simp only [List.getElem?_cons_zero, Option.some.injEq] at hq
        subst hq
        rw [Nat.add_zero]
        exact (og.hh k _ hr').2.mono (hx.trans hx2)
      rotate_left
      · simp at hq
      simp only [Nat.zero_add, List.getElem?_cons_succ, List.getElem?_cons_zero, Option.some.injEq] at hq
      subst hq
      simp only [Nat.zero_add]
      rw [(og.hrow k _ hr').1]
      by_cases e : k = i ∧ blk = (ρ id).rows i
      · obtain ⟨rfl, eb⟩ := e
        have er : rows.getD k [] = h0 :: r := by rw [hr] at hr'; exact (Option.some.inj hr').symm
        rw [er, List.tail_cons]
        refine .sl 1 none _ 0 _ r (fun j => [r.getD j .any]) (fun k => cur'.getD k undef) (by decide) (by simp) a2.1 a2.2 hrow.hf (fun o' ho' => ?_) (fun j k' p hj hp => ?_)
        · rw [Nat.zero_add, ← eb]
          refine snap_cell hDb hw' o' ?_
          rw [hsz', Nat.mul_one]
          rw [Nat.mul_one] at ho'
          exact Nat.lt_of_lt_of_le ho' (Nat.le_trans (Nat.le_add_right _ _) hcap)
        · have := (hrow.hv j k' p hj hp).mono (hx.trans hx2)
          have hk' : k' = 0 := by rcases k' with _ | k'; rfl; simp at hp
          subst hk'
          rw [k1 _ (by omega)]
          exact this
      · have hw2 := (og.hrow k _ hr').2.2.1
        have hlt := (Array.getElem?_eq_some_iff.1 hw2).1
        have hw3 : w'.heap[(ρ id).rows k]? = some (.cells (rc k) e2 (0, 0)) := by
          by_cases e' : k = i
          · subst e'
            have hb' : w.heap.size ≤ blk := by
              rcases hblk with h | h
              · exact absurd ⟨rfl, h⟩ e
              · exact h
            exact (hkeepI (fun e3 => by have e3 : blk = (ρ id).rows k := e3; omega)).trans hw2
          · exact (hkeep _ hlt (fun e2 => e' (og.hinj k i hk hi e2))).1.trans hw2
        exact og.row (hx.trans hx2) hr' (fun o' ho' => snap_cell (hDr k hk) hw3 o' ho'), fun k => by rw [snap_old hnb, (hkeep _ hlb hbi).2 k, og.hg k]; simp⟩⟩
    (fun b hb => .inl (.inl hb)) (fun b hb1 hb2 => by
      have hne : b ≠ (ρ id).rows i := fun e => hb2 (.inr ⟨i, hi, e⟩)
      refine ⟨(hkeep b hb1 hne).1, fun k => (snap_old (fun hd => ?_) k).trans ((hkeep b hb1 hne).2 k)⟩
      rcases hDs b hd with ⟨k, hk, e⟩ | e
      · exact hb2 (.inr ⟨k, hk, e⟩)
      · rcases hblk with h | h
        · exact hne (e.trans h)
        · omega)
  rw [upd_self, hset] at hbase
  have hrel : Rel w0 ⟨S.fr, S.hp.set id (.arr true 2 e1 (rows.map sgP))⟩ (snap g' w' D) ρ a w' := ⟨hbase, hrl.dead, hrl.size, fun i p hp => (hrl.fr i p hp).turn hφ⟩
  have hnew := hrow.grow (L' := ⟨blk, cap, fun _ => 0, fun _ => 0⟩) hx hB hcap hmax hw' hsz' hf2 hv2 k1 k2 hg'
  have hvr : VR (snap g' w' D) (.slice (some ⟨blk, 0, none⟩) (r ++ l2).length cap) (slR (r ++ l2)) :=
    .sl 1 none blk 0 cap (r ++ l2) _ (fun k => cur'.getD k undef) (by decide) (by simp) (by simpa using hcap) hmax hnew.hf (fun k hk => by
      rw [Nat.zero_add]
      refine snap_cell hDb hw' k ?_
      rw [hsz']
      simp only [List.length_append, Nat.mul_one] at hk ⊢
      omega) (fun i j q hi hq => (hnew.hv i j q hi hq).mono hx2)
  rw [List.length_append] at hvr
  exact hK _ _ _ _ (hx.trans hx2) (hrel.put hbase (GExt.refl _) (.of_VR hvr) o.dst)
end
end Go.Pv
