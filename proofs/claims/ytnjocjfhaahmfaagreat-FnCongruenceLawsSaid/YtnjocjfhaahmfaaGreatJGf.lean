/- Walks: the program's clones. -/
import Derived.Test.YtnjocjfhaahmfaaGreatJKb
import Derived.Test.YtnjocjfhaahmfaaGreatJNk
set_option linter.unusedSectionVars false
namespace Go.Pv
open Go
attribute [local semireducible] Go.Pv.PStep
theorem one_l {l : List PV} (h : l.all PV.one = true) : ∀ p ∈ l, ∀ c, p.flat = some c → c.all PV.one = true := fun p hp c hc => by
  have := List.all_eq_true.1 h p hp
  rw [flat_one this] at hc
  cases hc
  simp [this]
section
variable {P : Program} {o : Oper} {ev : Operand → PV} {hp : List HO}
theorem ps_shrc {t rt : TypeId} {x y : Operand} {a : Nat} {b : Nat} (ho : o.op = .binOp .shr t x y rt) (h1 : ev x = I (a : Int)) (h2 : ev y = .val (.int .u64 (b : Int))) (hb : b ≤ 63) : PStep P o ev hp (I ((a >>> b : Nat) : Int)) :=
  ps_bin ho h1 h2 fun w => by
    have h := shift_shr .i64 .u64 (a : Int) (b : Int) (by omega) (by show (b : Int) ≤ (64 : Nat); omega)
    have e : (a : Int) / 2 ^ (b : Int).toNat = ((a >>> b : Nat) : Int) := by rw [Nat.shiftRight_eq_div_pow]; simp
    rw [← e]
    simp only [eqGuard_shr, binOp_shr, h, Sem.run_bind, run_pure, Result.andThen]
end
end Go.Pv
namespace Go.Proofs.YtnjocjfhaahmfaaGreat
open Go Go.Pv Go.Proofs
set_option maxHeartbeats 32000000
set_option maxRecDepth 100000
attribute [local bitvec_to_nat] St.put St.setObj St.ev killP killA killP1 killH mapHO renP renA ren1 killG killGA killG1 krowP krowA krow1 lendP lendA lend1 unv pinP pin1 elemsM viewM viewN viewV n_set_z n_set_s n_map_c n_map_n getD_z getD_s n_toNat n_cond_t n_cond_f n_len_c n_len_n n_app_c n_app_n n_take_s n_take_z n_drop_s n_drop_z n_get_z n_get_s view viewA view1 elems Nat.zero_add Nat.add_zero Bool.not_true Bool.not_false Nat.one_ne_zero Nat.mul_one
attribute [local bitvec_to_nat] posI optP lendM1 lendMA lendMP killM1 killMA killMP hasI getO backM1 backMA backMP putL inpM pinM1 pinMA pinMP

def keyN (l : List Int) : List Int := l.flatMap fun x => [((x.toNat >>> 8 : Nat) : Int) % 256, x % 256]
def keyB (l : List Int) : ByteArray := strOf (keyN l)
theorem keyN_snoc (l : List Int) (x : Int) : keyN (l ++ [x]) = keyN l ++ [((x.toNat >>> 8 : Nat) : Int) % 256, x % 256] := by unfold keyN; rw [List.flatMap_append]; rfl
theorem keyN_len (l : List Int) : (keyN l).length = 2 * l.length := by
  induction l with
  | nil => rfl
  | cons x l ih => show (_ ++ keyN l).length = _; rw [List.length_append, ih]; simp; omega
theorem strOf_data (ns : List Int) : (strOf ns).data.toList = ns.map fun n => UInt8.ofNat n.toNat := by
  have : ∀ (ns : List Int) (b : ByteArray), (ns.foldl (fun r n => r.push (UInt8.ofNat n.toNat)) b).data.toList = b.data.toList ++ ns.map fun n => UInt8.ofNat n.toNat := by
    intro ns
    induction ns with
    | nil => intro b; simp
    | cons n ns ih =>
      intro b
      rw [List.foldl_cons, ih]
      simp [ByteArray.push]
  have h := this ns ByteArray.empty
  unfold strOf
  rw [h]
  rfl
theorem keyN_inj : ∀ {l m : List Int}, (∀ x ∈ l, 0 ≤ x ∧ x < 65536) → (∀ x ∈ m, 0 ≤ x ∧ x < 65536) → (keyN l).map (fun n => UInt8.ofNat n.toNat) = (keyN m).map (fun n => UInt8.ofNat n.toNat) → l = m
  | [], [], _, _, _ => rfl
  | x :: l, [], _, _, h => by simp [keyN] at h
  | [], y :: m, _, _, h => by simp [keyN] at h
  | x :: l, y :: m, hl, hm, h => by
    have hx := hl x (by simp)
    have hy := hm y (by simp)
    have e : ∀ (z : Int) (r : List Int), (keyN (z :: r)).map (fun n => UInt8.ofNat n.toNat) = UInt8.ofNat (((z.toNat >>> 8 : Nat) : Int) % 256).toNat :: UInt8.ofNat (z % 256).toNat :: (keyN r).map (fun n => UInt8.ofNat n.toNat) := fun z r => rfl
    rw [e, e, List.cons.injEq, List.cons.injEq] at h
    obtain ⟨h1, h2, h3⟩ := h
    have key : ∀ (a b : Nat), a < 256 → b < 256 → UInt8.ofNat a = UInt8.ofNat b → a = b := fun a b ha hb h => by
      have := congrArg UInt8.toNat h
      simpa [Nat.mod_eq_of_lt ha, Nat.mod_eq_of_lt hb] using this
    have k1 := key _ _ (by rw [Nat.shiftRight_eq_div_pow]; omega) (by rw [Nat.shiftRight_eq_div_pow]; omega) h1
    have k2 := key _ _ (by omega) (by omega) h2
    rw [Nat.shiftRight_eq_div_pow, Nat.shiftRight_eq_div_pow] at k1
    have hxy : x = y := by omega
    rw [hxy, keyN_inj (fun z hz => hl z (by simp [hz])) (fun z hz => hm z (by simp [hz])) h3]
theorem keyB_inj {l m : List Int} (hl : ∀ x ∈ l, 0 ≤ x ∧ x < 65536) (hm : ∀ x ∈ m, 0 ≤ x ∧ x < 65536) (h : keyB l = keyB m) : l = m := by
  have := congrArg (fun b : ByteArray => b.data.toList) h
  unfold keyB at this
  simp only [strOf_data] at this
  exact keyN_inj hl hm this
abbrev W8 (n : Int) : PV := .val (.int .u8 n)
theorem key_c (l : List Int) (hl : l.length ≤ 1048576) (h : ∀ x ∈ l, 0 ≤ x ∧ x < 65536) : PCalls Tryz.prog 203 [ints l] (.val (.string (keyB l))) := by
  refine pcalls1 Tryz.func203 rfl Tryz.ntmps203 rfl ?_
  refine wF ?_
  repeat' (first
| refine wO ?_
| (refine o_go rfl ?_; (first
| refine p_p (ps_mul rfl rfl rfl (by omega)) ?_
| refine p_e rfl (e_makeCap rfl rfl rfl (by omega) (by omega) (by omega) (by decide) (by rfl)) ?_
| refine wS ?_); refine ⟨_, aA, ?_⟩))
  refine g_loopF (α := Nat) [9] (fun i => [(3, .hp 0), (12, I (i : Int))]) (fun i => [.arr true 1 5 ((keyN (l.take i)).map W8)]) (fun i => i ≤ l.length) (fun i => l.length - i) 0 aF (Nat.zero_le _) ⟨rfl, rfl, trivial⟩ rfl ?_
  rintro i hi
  dsimp only [zZ, List.set_cons_zero, List.set_cons_succ]
  have hkl : ((keyN (l.take i)).map W8).length = 2 * i := by rw [List.length_map, keyN_len, List.length_take]; omega
  by_cases hil : i < l.length
  · obtain ⟨x, hx⟩ : ∃ x : Nat, l.getD i 0 = x := ⟨(l.getD i 0).toNat, by have := h _ (getD_at hil); omega⟩
    have hx2 := h _ (getD_at hil)
    have hk := keyN_snoc (l.take i) (l.getD i 0)
    rw [← take_snoc 0 hil] at hk
    have hix : (l.map I)[i]? = some (I (x : Int)) := by rw [← hx]; exact idx_I hil
    rw [hx] at hk hx2
    rw [Int.toNat_natCast] at hk
    have hw1 : IntKind.u8.wrap ((x >>> 8 : Nat) : Int) = ((x >>> 8 : Nat) : Int) % 256 := by rw [IntKind.wrap_u8]
    have hw2 : IntKind.u8.wrap (x : Int) = (x : Int) % 256 := by rw [IntKind.wrap_u8]
    repeat' (first
| refine wO ?_
| (refine o_go rfl ?_; (first
| refine p_p (zN rfl rfl rfl (by omega) hix (by exact rfl)) ?_
| refine p_p (ps_shrc rfl rfl rfl (by decide)) ?_
| refine p_p (ps_conv (by rw [Tryz.underlying3]; rfl) Tryz.underlying5 rfl rfl) ?_
| refine p_p (ps_lits rfl (by exact rfl) (by exact rfl) aS (by decide) (by decide)) ?_
| refine p_e (by kernel_rfl) (e_append rfl rfl rfl rfl rfl rfl (one_l rfl) rfl (by rw [n_len_c, n_len_c, n_len_n]; omega) (by rw [n_len_c, n_len_c, n_len_n]; omega)) ?_
| refine wS ?_); refine ⟨_, aA, ?_⟩)
| (refine zK rfl (fun hc => ?_) (fun hc => ?_) <;> try (exfalso; omega))
| refine wE ?_)
    all_goals try (exfalso; omega)
    refine zT (i + 1) (by omega) (by omega) aI ⟨rfl, rfl, trivial⟩ (zB ?_ (zM _))
    rw [hk, List.map_append, hw1, hw2]; rfl
  · have hie : l.take i = l := List.take_of_length_le (by omega)
    rw [hie]
    repeat' (first
| refine wO ?_
| (refine o_go rfl ?_; (first
| refine p_p (ps_bytesString Tryz.underlying22 Tryz.underlying5 Tryz.underlying9 rfl rfl rfl) ?_
| refine wS ?_); refine ⟨_, aA, ?_⟩)
| (refine zK rfl (fun hc => ?_) (fun hc => ?_) <;> try (exfalso; omega))
| refine kr1 ?_
| refine wE ?_)
    all_goals try (exfalso; omega)
    exact krV rfl
/-! ### The list of what was found -/
instance : MapT Tryz.prog 151 9 4 (.bool false) := ⟨Tryz.underlying151, Tryz.underlying9, fun _ => by kernel_rfl⟩
def smallE (E : List Ent) : Prop := ∀ c ∈ E, ∀ x ∈ c.1, 0 ≤ x ∧ x < 65536
theorem mpGet_mem {t : List Int} (ht : ∀ x ∈ t, 0 ≤ x ∧ x < 65536) : ∀ {T : List (List Int)}, (∀ u ∈ T, ∀ x ∈ u, 0 ≤ x ∧ x < 65536) → mpGet (T.map fun t => (keyB t, B true)) (keyB t) (B false) = B (decide (t ∈ T))
  | [], _ => rfl
  | u :: T, h => by
    rw [List.map_cons, mpGet]
    by_cases e : keyB u = keyB t
    · rw [if_pos e, keyB_inj (h u (by simp)) ht e]; simp
    · rw [if_neg e, mpGet_mem ht (fun v hv => h v (by simp [hv]))]
      have : t ≠ u := fun h' => e (by rw [h'])
      simp [this]
theorem mpPut_new {t : List Int} (ht : ∀ x ∈ t, 0 ≤ x ∧ x < 65536) (p : PV) : ∀ {T : List (List Int)}, (∀ u ∈ T, ∀ x ∈ u, 0 ≤ x ∧ x < 65536) → t ∉ T → mpPut (T.map fun t => (keyB t, B true)) (keyB t) p = (T.map fun t => (keyB t, B true)) ++ [(keyB t, p)]
  | [], _, _ => rfl
  | u :: T, h, hn => by
    rw [List.map_cons, mpPut]
    have e : keyB u ≠ keyB t := fun e => hn (by rw [keyB_inj (h u (by simp)) ht e]; simp)
    rw [if_neg e, mpPut_new ht p (fun v hv => h v (by simp [hv])) (fun hm => hn (by simp [hm]))]; rfl
abbrev mapV (b : Nat) : PV := .val (.map (some b))
theorem iclone_R (l : List Int) (hl : l.length ≤ 1048576) : RCalls Tryz.prog 182 [ints l] (.arr true 1 3 (l.map I)) (.hp 0) := by
  refine pcallsR1 Tryz.func182 rfl Tryz.ntmps182 rfl ?_
  refine wF ?_
  repeat' (first
| refine wO ?_
| (refine o_go rfl ?_; (first
| refine wS ?_
| refine p_e rfl (e_lit0 rfl (by decide)) ?_
| refine p_e rfl (e_append rfl rfl rfl rfl rfl rfl (by first | exact one_one rfl | exact one_map (fun _ => rfl) _) rfl aT aT) ?_); refine ⟨_, aA, ?_⟩)
| refine krr 0 rfl (HandOut.arr rfl ?_ aK)
| refine wE ?_)
  rfl
theorem iclone_c (l : List Int) (hl : l.length ≤ 1048576) : PCalls Tryz.prog 182 [ints l] (ints l) := rcalls_P rfl (iclone_R l hl)
end Go.Proofs.YtnjocjfhaahmfaaGreat
/- The layer: the row of a struct grows. -/
namespace Go.Pv
open Go
attribute [local semireducible] Go.Pv.Goal Go.Pv.Ops Go.Pv.PStep Go.Pv.EStep Go.Pv.KRets Go.Pv.PCalls Go.Pv.OpsG Go.Pv.RCalls
section
variable {P : Program} {o : Oper} {S : St}
theorem thawS_VRS1 {g g' : Ghost} {ρ : Nat → Loc} {hp : List HO} {n : Nat} {e1 e2 : TypeId} {rows : List (List PV)} {l : List PV} (hx : GExt g g') (hn : hp[n]? = some (.sg e1 e2 0 rows)) (hl : l.length = rows.length) {v : Value} {p : PV} (h : VRS1 g ρ hp v p) :
    VRS1 g' ρ (hp.set n (.arr true 2 e1 l)) v p := by
  have hlt : n < hp.length := (List.getElem?_eq_some_iff.1 hn).1
  have hat : ∀ i, i ≠ n → (hp.set n (.arr true 2 e1 l))[i]? = hp[i]? := fun i hi => List.getElem?_set_ne (Ne.symm hi)
  have hatn : (hp.set n (.arr true 2 e1 l))[n]? = some (.arr true 2 e1 l) := List.getElem?_set_self hlt
  have keyH : ∀ {id}, HpV ρ hp v id → HpV ρ (hp.set n (.arr true 2 e1 l)) v id := fun {id} hh => by
    by_cases e' : id = n
    · subst e'
      refine ⟨hh.sl, fun m s e l' hid => ?_, fun e1 e2 rows hid => ?_, fun e1 e2 k rows hid => ?_, fun l' hid => ?_, fun e1 e2 k rows hid => ?_⟩
      · rw [hatn] at hid; cases hid; rw [hl, hh.sg _ _ _ _ hn, Nat.add_zero]
      · rw [hatn] at hid; cases hid
      · rw [hatn] at hid; cases hid
      · rw [hatn] at hid; cases hid
      · rw [hatn] at hid; cases hid
    · exact { sl := hh.sl, arr := fun m s' e2 l' hid => (by rw [hat _ e'] at hid; exact hh.arr _ _ _ _ hid), grid := fun e1 e2 rows hid => (by rw [hat _ e'] at hid; exact hh.grid _ _ _ hid), sg := fun e1 e2 m rows hid => (by rw [hat _ e'] at hid; exact hh.sg _ _ _ _ hid), pg := fun e1 e2 m rows hid => (by rw [hat _ e'] at hid; exact hh.pg _ _ _ _ hid), box := fun l' hid => (by rw [hat _ e'] at hid; exact hh.box _ hid) }
  cases p with
  | hp id => exact keyH h
  | hpv id b d => exact ⟨keyH h.1, h.2⟩
  | hat id i => exact h
  | hatv id i b d => exact h
  | gr j i =>
    refine (⟨GrV.sl h, fun e1' e2' rows' r hid hr => ?_, fun e1' e2' _n rows' r hid hr => ?_⟩ : GrV _ _ _ _ _)
    rotate_left
    · by_cases e' : j = n
      · rw [e', hatn] at hid; cases hid
      · rw [hat _ e'] at hid; exact GrV.sg h _ _ _ _ _ hid hr
    by_cases e' : j = n
    · rw [e', hatn] at hid; cases hid
    · rw [hat _ e'] at hid; exact GrV.grid h _ _ _ _ hid hr
  | gat id i j => exact h
  | _ => exact VR.mono hx h
theorem e_appendRowS {t e : TypeId} {by_ : Nat} {z0 : Value} [ht : MkT P t e 1 by_ [z0]] {x y : Operand} {tys : Array TypeId} {id i : Nat} {e1 e2 : TypeId} {rows : List (List PV)} {h0 : PV} {r l2 : List PV} {nn : Option Bool} (ho : o.op = .call { callee := .builtin .append, args := #[x, y], argTypes := tys })
    (htys : tys = #[t, t]) (h1 : S.ev x = .gr id i) (hh : S.hp[id]? = some (.sg e1 e2 0 rows)) (he : e2 = e) (hr : rows[i]? = some (h0 :: r)) (h2 : view S.hp (S.ev y) = .sl 1 nn l2) (hone : ∀ p ∈ l2, p.one = true)
    (hb : (r.length + l2.length) * by_ ≤ 140737488355328) (hm : r.length + l2.length ≤ 9223372036854775807) : EStep P o S (St.put ⟨S.fr, S.hp.set id (.arr true 2 e1 (rows.map sgP))⟩ o.dst (slR (r ++ l2))) := by
  intro w0 g ρ a w hrl Q K hK
  obtain ⟨cur, rc, og⟩ := hrl.base.own id _ hh
  obtain ⟨a1, a2, a3, a4⟩ := og.hrow i _ hr
  simp only [List.tail_cons] at a1 a2
  have hi : i < rows.length := (List.getElem?_eq_some_iff.1 hr).1
  have hrow : ArrOwn g w w0.own true 1 e2 r ⟨(ρ id).rows i, (ρ id).caps i, fun _ => 0, fun _ => 0⟩ (rc i) (fun j => [r.getD j .any]) := by
    refine ⟨by decide, og.hB' i hi, a2.1, a2.2, a3, by rw [a4, Nat.mul_one], fun j p hj => ?_, fun j k p hj hk => ?_, fun o' => by rw [og.hg' i o' hi]; simp⟩
    · have := (og.hv i _ j p hr hj).1
      simp [List.getD_eq_getElem?_getD, hj, flat_one this]
    · have hk0 : k = 0 := by rcases k with _ | k; rfl; simp at hk
      subst hk0
      simp only [List.getElem?_cons_zero, Option.some.injEq] at hk
      have hjr : r[j]? = some p := by rw [← hk]; simp [hj]
      simpa using (og.hv i _ j p hr hjr).2
  have ex : a.eval x = .slice (some ⟨(ρ id).rows i, 0, none⟩) r.length ((ρ id).caps i) := by have := hrl.ev x; rw [h1] at this; exact GrV.sg this _ _ _ _ _ hh hr
  have ey := hrl.base.view (hrl.ev y)
  rw [h2] at ey
  obtain ⟨c2, cs, hf2, hv2, blk, cap, cur', w', g', hrun, hx, hag, hbl, hold, hB, hcap, hmax, hw', hsz', k1, k2, hg', hblk, hkeep, hkeepI⟩ := append_ends (ht := ht) ho htys he hrow hrl.base.agree hrl.base.below ex ey (fun p hp c hc => by
    rw [flat_one (hone p hp)] at hc; cases hc; simp [hone p hp]) rfl hb hm
  unfold Oper.wp
  rw [hrun]
  have hlb : (ρ id).blk < w.heap.size := (Array.getElem?_eq_some_iff.1 og.hw).1
  let D : Nat → Bool := fun b => rowD (ρ id) rows.length b || b == blk
  have hDb : D blk = true := by simp [D]
  have hDr : ∀ k, k < rows.length → D ((ρ id).rows k) = true := fun k hk => by
    simp [D, rowD_iff.2 ⟨k, hk, rfl⟩]
  have hDs : ∀ b, D b = true → (∃ k, k < rows.length ∧ b = (ρ id).rows k) ∨ b = blk := fun b hd => by
    simp only [D, Bool.or_eq_true, beq_iff_eq] at hd
    rcases hd with hd | hd
    · exact .inl (rowD_iff.1 hd)
    · exact .inr hd
  have hx2 := snap_ext hag D
  have hset : (S.hp.map (mapHO _root_.id)).set id (.arr true 2 e1 (rows.map sgP)) = S.hp.set id (.arr true 2 e1 (rows.map sgP)) := by rw [map_mapHO_id]
  have hφ : ∀ v p, VRS1 g ρ S.hp v p → VRS1 (snap g' w' D) ρ (S.hp.set id (.arr true 2 e1 (rows.map sgP))) v p := fun v p hv => thawS_VRS1 (hx.trans hx2) hh (by simp) hv
  have hnb : ¬ D (ρ id).blk = true := fun hd => by
    rcases hDs _ hd with ⟨k, hk, e⟩ | e
    · exact og.hne k hk e.symm
    · rcases hblk with h | h
      · exact og.hne i hi (h.symm.trans e.symm)
      · omega
  have hbi : (ρ id).blk ≠ (ρ id).rows i := fun e => og.hne i hi e.symm
  have hbase := hrl.base.upd hh (x' := .arr true 2 e1 (rows.map sgP)) (ρ id) (hx.trans hx2) _root_.id (fun v p hv => by rw [upd_self, hset]; exact hφ v p hv) (snap_agree hag D) hbl
    (fun b k hb => (snap_old (fun hd => by
      rcases hDs b hd with ⟨k, hk, e⟩ | e
      · exact hb (e ▸ og.hB' k hk)
      · exact hb (e ▸ hB)) k).trans (hold b k hb))
    ⟨cur, fun k => [(rows.getD k []).headD .any, slR (rows.getD k []).tail], ⟨by decide, og.hB, by simpa using og.hcap, og.hmax, (hkeep _ hlb hbi).1.trans og.hw, og.hsz, fun k p hk => by
      simp only [List.getElem?_map, Option.map_eq_some_iff] at hk
      obtain ⟨r', hr', rfl⟩ := hk
      simp [sgP, PV.flat, List.getD_eq_getElem?_getD, hr'], fun k j q hk hq => by
      simp only [List.length_map] at hk
      have hr' : rows[k]? = some (rows.getD k []) := by simp [hk]
      rcases j with _ | _ | j
      · simp only [List.getElem?_cons_zero, Option.some.injEq] at hq
        subst hq
        rw [Nat.add_zero]
        exact (og.hh k _ hr').2.mono (hx.trans hx2)
      rotate_left
      · simp at hq
      simp only [Nat.zero_add, List.getElem?_cons_succ, List.getElem?_cons_zero, Option.some.injEq] at hq
      subst hq
      simp only [Nat.zero_add]
      rw [(og.hrow k _ hr').1]
      by_cases e : k = i ∧ blk = (ρ id).rows i
      · obtain ⟨rfl, eb⟩ := e
        have er : rows.getD k [] = h0 :: r := by rw [hr] at hr'; exact (Option.some.inj hr').symm
        rw [er, List.tail_cons]
        refine .sl 1 none _ 0 _ r (fun j => [r.getD j .any]) (fun k => cur'.getD k undef) (by decide) (by simp) a2.1 a2.2 hrow.hf (fun o' ho' => ?_) (fun j k' p hj hp => ?_)
        · rw [Nat.zero_add, ← eb]
          refine snap_cell hDb hw' o' ?_
          rw [hsz', Nat.mul_one]
          rw [Nat.mul_one] at ho'
          exact Nat.lt_of_lt_of_le ho' (Nat.le_trans (Nat.le_add_right _ _) hcap)
        · have := (hrow.hv j k' p hj hp).mono (hx.trans hx2)
          have hk' : k' = 0 := by rcases k' with _ | k'; rfl; simp at hp
          subst hk'
          rw [k1 _ (by omega)]
          exact this
      · have hw2 := (og.hrow k _ hr').2.2.1
        have hlt := (Array.getElem?_eq_some_iff.1 hw2).1
        have hw3 : w'.heap[(ρ id).rows k]? = some (.cells (rc k) e2 (0, 0)) := by
          by_cases e' : k = i
          · subst e'
            have hb' : w.heap.size ≤ blk := by
              rcases hblk with h | h
              · exact absurd ⟨rfl, h⟩ e
              · exact h
            exact (hkeepI (fun e3 => by have e3 : blk = (ρ id).rows k := e3; omega)).trans hw2
          · exact (hkeep _ hlt (fun e2 => e' (og.hinj k i hk hi e2))).1.trans hw2
        exact og.row (hx.trans hx2) hr' (fun o' ho' => snap_cell (hDr k hk) hw3 o' ho'), fun k => by rw [snap_old hnb, (hkeep _ hlb hbi).2 k, og.hg k]; simp⟩⟩
    (fun b hb => .inl (.inl hb)) (fun b hb1 hb2 => by
      have hne : b ≠ (ρ id).rows i := fun e => hb2 (.inr ⟨i, hi, e⟩)
      refine ⟨(hkeep b hb1 hne).1, fun k => (snap_old (fun hd => ?_) k).trans ((hkeep b hb1 hne).2 k)⟩
      rcases hDs b hd with ⟨k, hk, e⟩ | e
      · exact hb2 (.inr ⟨k, hk, e⟩)
      · rcases hblk with h | h
        · exact hne (e.trans h)
        · omega)
  rw [upd_self, hset] at hbase
  have hrel : Rel w0 ⟨S.fr, S.hp.set id (.arr true 2 e1 (rows.map sgP))⟩ (snap g' w' D) ρ a w' := ⟨hbase, hrl.dead, hrl.size, fun i p hp => (hrl.fr i p hp).turn hφ⟩
  have hnew := hrow.grow (L' := ⟨blk, cap, fun _ => 0, fun _ => 0⟩) hx hB hcap hmax hw' hsz' hf2 hv2 k1 k2 hg'
  have hvr : VR (snap g' w' D) (.slice (some ⟨blk, 0, none⟩) (r ++ l2).length cap) (slR (r ++ l2)) :=
    .sl 1 none blk 0 cap (r ++ l2) _ (fun k => cur'.getD k undef) (by decide) (by simp) (by simpa using hcap) hmax hnew.hf (fun k hk => by
      rw [Nat.zero_add]
      refine snap_cell hDb hw' k ?_
      rw [hsz']
      simp only [List.length_append, Nat.mul_one] at hk ⊢
      omega) (fun i j q hi hq => (hnew.hv i j q hi hq).mono hx2)
  rw [List.length_append] at hvr
  exact hK _ _ _ _ (hx.trans hx2) (hrel.put hbase (GExt.refl _) (.of_VR hvr) o.dst)
end
end Go.Pv
