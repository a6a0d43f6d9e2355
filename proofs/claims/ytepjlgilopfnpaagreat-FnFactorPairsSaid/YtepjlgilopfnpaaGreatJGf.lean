/- Walks: the program's clones. -/
import Derived.Test.YtepjlgilopfnpaaGreatJKc
import Derived.Test.YtepjlgilopfnpaaGreatJNj
set_option linter.unusedSectionVars false
namespace Go.Pv
open Go
attribute [local semireducible] Go.Pv.PStep
theorem one_l {l : List PV} (h : l.all PV.one = true) : ∀ p ∈ l, ∀ c, p.flat = some c → c.all PV.one = true := fun p hp c hc => by
 have := List.all_eq_true.1 h p hp
 rw [flat_one this] at hc
 cases hc
 simp [this]
section
variable {P : Program} {o : Oper} {ev : Operand → PV} {hp : List HO}
theorem ps_shrc {t rt : TypeId} {x y : Operand} {a : Nat} {b : Nat} (ho : o.op = .binOp .shr t x y rt) (h1 : ev x = I (a : Int)) (h2 : ev y = .val (.int .u64 (b : Int))) (hb : b ≤ 63) : PStep P o ev hp (I ((a >>> b : Nat) : Int)) :=
 ps_bin ho h1 h2 fun w => by
  have h := shift_shr .i64 .u64 (a : Int) (b : Int) (by omega) (by show (b : Int) ≤ (64 : Nat); omega)
  have e : (a : Int) / 2 ^ (b : Int).toNat = ((a >>> b : Nat) : Int) := by rw [Nat.shiftRight_eq_div_pow]; simp
  rw [← e]
  simp only [eqGuard_shr, binOp_shr, h, Sem.run_bind, run_pure, Result.andThen]
end
end Go.Pv
namespace Go.Proofs.YtepjlgilopfnpaaGreat
open Go Go.Pv Go.Proofs
set_option maxHeartbeats 32000000
set_option maxRecDepth 100000
attribute [local bitvec_to_nat] posI optP lendM1 lendMA lendMP killM1 killMA killMP hasI getO backM1 backMA backMP putL inpM pinM1 pinMA pinMP

def keyN (l : List Int) : List Int := l.flatMap fun x => [((x.toNat >>> 8 : Nat) : Int) % 256, x % 256]
def keyB (l : List Int) : ByteArray := strOf (keyN l)
theorem keyN_snoc (l : List Int) (x : Int) : keyN (l ++ [x]) = keyN l ++ [((x.toNat >>> 8 : Nat) : Int) % 256, x % 256] := by unfold keyN; rw [List.flatMap_append]; rfl
theorem keyN_len (l : List Int) : (keyN l).length = 2 * l.length := by
 induction l with
 | nil => rfl
 | cons x l ih => show (_ ++ keyN l).length = _; rw [List.length_append, ih]; simp; omega
theorem strOf_data (ns : List Int) : (strOf ns).data.toList = ns.map fun n => UInt8.ofNat n.toNat := by
 have : ∀ (ns : List Int) (b : ByteArray), (ns.foldl (fun r n => r.push (UInt8.ofNat n.toNat)) b).data.toList = b.data.toList ++ ns.map fun n => UInt8.ofNat n.toNat := by
  intro ns
  induction ns with
  | nil => intro b; simp
  | cons n ns ih =>
   intro b
   rw [List.foldl_cons, ih]
   simp [ByteArray.push]
 have h := this ns ByteArray.empty
 unfold strOf
 rw [h]
 rfl
theorem keyN_inj : ∀ {l m : List Int}, (∀ x ∈ l, 0 ≤ x ∧ x < 65536) → (∀ x ∈ m, 0 ≤ x ∧ x < 65536) → (keyN l).map (fun n => UInt8.ofNat n.toNat) = (keyN m).map (fun n => UInt8.ofNat n.toNat) → l = m
 | [], [], _, _, _ => rfl
 | x :: l, [], _, _, h => by simp [keyN] at h
 | [], y :: m, _, _, h => by simp [keyN] at h
 | x :: l, y :: m, hl, hm, h => by
  have hx := hl x (by simp)
  have hy := hm y (by simp)
  have e : ∀ (z : Int) (r : List Int), (keyN (z :: r)).map (fun n => UInt8.ofNat n.toNat) = UInt8.ofNat (((z.toNat >>> 8 : Nat) : Int) % 256).toNat :: UInt8.ofNat (z % 256).toNat :: (keyN r).map (fun n => UInt8.ofNat n.toNat) := fun z r => rfl
  rw [e, e, List.cons.injEq, List.cons.injEq] at h
  obtain ⟨h1, h2, h3⟩ := h
  have key : ∀ (a b : Nat), a < 256 → b < 256 → UInt8.ofNat a = UInt8.ofNat b → a = b := fun a b ha hb h => by
   have := congrArg UInt8.toNat h
   simpa [Nat.mod_eq_of_lt ha, Nat.mod_eq_of_lt hb] using this
  have k1 := key _ _ (by rw [Nat.shiftRight_eq_div_pow]; omega) (by rw [Nat.shiftRight_eq_div_pow]; omega) h1
  have k2 := key _ _ (by omega) (by omega) h2
  rw [Nat.shiftRight_eq_div_pow, Nat.shiftRight_eq_div_pow] at k1
  have hxy : x = y := by omega
  rw [hxy, keyN_inj (fun z hz => hl z (by simp [hz])) (fun z hz => hm z (by simp [hz])) h3]
theorem keyB_inj {l m : List Int} (hl : ∀ x ∈ l, 0 ≤ x ∧ x < 65536) (hm : ∀ x ∈ m, 0 ≤ x ∧ x < 65536) (h : keyB l = keyB m) : l = m := by
 have := congrArg (fun b : ByteArray => b.data.toList) h
 unfold keyB at this
 simp only [strOf_data] at this
 exact keyN_inj hl hm this
abbrev W8 (n : Int) : PV := .val (.int .u8 n)
theorem key_c (l : List Int) (hl : l.length ≤ 1048576) (h : ∀ x ∈ l, 0 ≤ x ∧ x < 65536) : PCalls Tryz.prog 125 [ints l] (.val (.string (keyB l))) := by
 refine pcalls1 Tryz.func125 rfl Tryz.ntmps125 rfl ?_
 refine wF ?_
 repeat' (first
| refine wO ?_
| (refine o_go rfl ?_; (first
| refine p_p (ps_mul rfl rfl rfl zz) ?_
| refine p_e rfl (e_makeCap rfl rfl rfl zz zz zz zd (by rfl)) ?_
| refine wS ?_); refine ⟨_, aB, ?_⟩))
 refine g_loopF (α := Nat) [9] (fun i => [(3, .hp 0), (12, I (i : Int))]) (fun i => [.arr true 1 5 ((keyN (l.take i)).map W8)]) (fun i => i ≤ l.length) (fun i => l.length - i) 0 aH (Nat.zero_le _) ⟨rfl, rfl, trivial⟩ rfl ?_
 rintro i hi
 refine wH ?_
 have hkl : ((keyN (l.take i)).map W8).length = 2 * i := by rw [List.length_map, keyN_len, List.length_take]; omega
 by_cases hil : i < l.length
 · obtain ⟨x, hx⟩ : ∃ x : Nat, l.getD i 0 = x := ⟨(l.getD i 0).toNat, by have := h _ (getD_at hil); omega⟩
   have hx2 := h _ (getD_at hil)
   have hk := keyN_snoc (l.take i) (l.getD i 0)
   rw [← take_snoc 0 hil] at hk
   have hix : (l.map I)[i]? = some (I (x : Int)) := by rw [← hx]; exact idx_I hil
   rw [hx] at hk hx2
   rw [Int.toNat_natCast] at hk
   have hw1 : IntKind.u8.wrap ((x >>> 8 : Nat) : Int) = ((x >>> 8 : Nat) : Int) % 256 := by rw [IntKind.wrap_u8]
   have hw2 : IntKind.u8.wrap (x : Int) = (x : Int) % 256 := by rw [IntKind.wrap_u8]
   repeat' (first
| refine wO ?_
| (refine o_go rfl ?_; (first
| refine p_p (zN rfl rfl rfl zz hix ze) ?_
| refine p_p (ps_shrc rfl rfl rfl zd) ?_
| refine p_p (ps_conv (by rw [Tryz.underlying3]; rfl) Tryz.underlying5 rfl rfl) ?_
| refine p_p (ps_lits rfl ze ze aU zd zd) ?_
| refine p_e zk (e_append rfl rfl rfl rfl rfl rfl (one_l rfl) rfl (by rw [n_len_c, n_len_c, n_len_n]; omega) (by rw [n_len_c, n_len_c, n_len_n]; omega)) ?_
| refine wS ?_); refine ⟨_, aB, ?_⟩)
| (refine zK rfl ?_ ?_ <;> intro hc <;> try omega)
| refine wE ?_)
   all_goals try (exfalso; omega)
   refine zT (i + 1) (by omega) (by omega) aI ⟨rfl, rfl, trivial⟩ (zB ?_ (zM _))
   rw [hk, List.map_append, hw1, hw2]; rfl
 · have hie : l.take i = l := List.take_of_length_le (by omega)
   rw [hie]
   repeat' (first
| refine wO ?_
| (refine o_go rfl ?_; (first
| refine p_p (ps_bytesString Tryz.underlying22 Tryz.underlying5 Tryz.underlying9 rfl rfl rfl) ?_
| refine wS ?_); refine ⟨_, aB, ?_⟩)
| (refine zK rfl ?_ ?_ <;> intro hc <;> try omega)
| refine kr1 ?_
| refine wE ?_)
   all_goals try (exfalso; omega)
   exact krV rfl
/-! ### The list of what was found -/
instance : MapT Tryz.prog 118 9 4 (.bool false) := ⟨Tryz.underlying118, Tryz.underlying9, fun _ => by kernel_rfl⟩
def smallE (E : List Ent) : Prop := ∀ c ∈ E, ∀ x ∈ c.1, 0 ≤ x ∧ x < 65536
theorem mpGet_mem {t : List Int} (ht : ∀ x ∈ t, 0 ≤ x ∧ x < 65536) : ∀ {T : List (List Int)}, (∀ u ∈ T, ∀ x ∈ u, 0 ≤ x ∧ x < 65536) → mpGet (T.map fun t => (keyB t, B true)) (keyB t) (B false) = B (decide (t ∈ T))
 | [], _ => rfl
 | u :: T, h => by
  rw [List.map_cons, mpGet]
  by_cases e : keyB u = keyB t
  · rw [if_pos e, keyB_inj (h u (by simp)) ht e]; simp
  · rw [if_neg e, mpGet_mem ht (fun v hv => h v (by simp [hv]))]
    have : t ≠ u := fun h' => e (by rw [h'])
    simp [this]
theorem mpPut_new {t : List Int} (ht : ∀ x ∈ t, 0 ≤ x ∧ x < 65536) (p : PV) : ∀ {T : List (List Int)}, (∀ u ∈ T, ∀ x ∈ u, 0 ≤ x ∧ x < 65536) → t ∉ T → mpPut (T.map fun t => (keyB t, B true)) (keyB t) p = (T.map fun t => (keyB t, B true)) ++ [(keyB t, p)]
 | [], _, _ => rfl
 | u :: T, h, hn => by
  rw [List.map_cons, mpPut]
  have e : keyB u ≠ keyB t := fun e => hn (by rw [keyB_inj (h u (by simp)) ht e]; simp)
  rw [if_neg e, mpPut_new ht p (fun v hv => h v (by simp [hv])) (fun hm => hn (by simp [hm]))]; rfl
abbrev mapV (b : Nat) : PV := .val (.map (some b))
theorem iclone_R (l : List Int) (hl : l.length ≤ 1048576) : RCalls Tryz.prog 109 [ints l] (.arr true 1 3 (l.map I)) (.hp 0) := by
 refine pcallsR1 Tryz.func109 rfl Tryz.ntmps109 rfl ?_
 refine wF ?_
 repeat' (first
| refine wO ?_
| (refine o_go rfl ?_; (first
| refine wS ?_
| refine p_e rfl (e_lit0 rfl zd) ?_
| refine p_e rfl (e_append rfl rfl rfl rfl rfl rfl (by first | exact one_one rfl | exact one_map (fun _ => rfl) _) rfl aR aR) ?_); refine ⟨_, aB, ?_⟩)
| refine krr 0 rfl (HandOut.arr rfl ?_ aS)
| refine wE ?_)
 rfl
end Go.Proofs.YtepjlgilopfnpaaGreat
/- The layer: structs with owned rows, more: appended to nothing, rows written and grown, fields of structs in arrays. -/
namespace Go.Pv
open Go
attribute [local semireducible] Go.Pv.Goal Go.Pv.Ops Go.Pv.PStep Go.Pv.EStep Go.Pv.KRets Go.Pv.PCalls Go.Pv.OpsG Go.Pv.RCalls
section
variable {P : Program} {o : Oper} {S : St}
theorem e_appendNilS {t e : TypeId} {by_ : Nat} {z0 z1 : Value} [ht : MkT P t e 2 by_ [z0, z1]] {x y : Operand} {tys : Array TypeId} {k : Nat} {e' e2 : TypeId} {rows2 : List (List PV)} (ho : o.op = .call { callee := .builtin .append, args := #[x, y], argTypes := tys })
 (htys : tys = #[t, t]) (h1 : S.ev x = nilV) (h2 : S.ev y = .hp k) (hk : S.hp[k]? = some (.sg e' e2 0 rows2)) (hl0 : 0 < rows2.length)
 (hb : rows2.length * by_ ≤ 140737488355328) (hm : rows2.length ≤ 9223372036854775807) : EStep P o S (S.setObj S.hp.length (killH S.hp.length (S.hp.set k .gone) ++ [.sg e e2 0 rows2]) o.dst (.hp S.hp.length)) := by
 subst htys
 intro w0 g ρ a w hr Q K hK
 obtain ⟨curk, rck, hownk⟩ := hr.base.own k _ hk
 have c2 := hownk.hcap
 rw [Nat.add_zero] at c2
 have ex : a.eval x = .slice none 0 0 := val_of (hr.ev x) h1
 have ey : a.eval y = .slice (some ⟨(ρ k).blk, 0, none⟩) rows2.length (ρ k).cap := by have := hr.ev y; rw [h2] at this; exact HpV.sg this _ _ _ _ hk
 obtain ⟨i, z, hi, hi1, hi2, hi3, hi4⟩ := ht.hi
 have hzc : z.cells.size = 2 := by have := congrArg List.length hi4; simpa using this
 have hmm : rows2.length ≤ maxLen := by simp only [maxLen]; omega
 let news : List Value := curk.toList.take (rows2.length * 2)
 have hnl : news.length = rows2.length * 2 := by simp only [news, List.length_take, Array.length_toList, hownk.hsz]; omega
 have hnk : ∀ j, j < rows2.length * 2 → news[j]? = some (curk.getD j undef) := fun j hj => by
  have : j < curk.size := by rw [hownk.hsz]; omega
  simp [news, hj, this]
 have hcellsrc : ∀ (j : Nat) (u : Value), news[j]? = some u → w.cell? ((⟨(ρ k).blk, 0, none⟩ : Addr).add j) = some u := fun j u hj => by
  have hj2 : j < rows2.length * 2 := by rw [← hnl]; exact (List.getElem?_eq_some_iff.1 hj).1
  rw [Addr.add_n, Nat.zero_add, own_load hownk.hw (by rw [hownk.hsz]; omega), ← hnk j hj2, hj]
 have hrun := run_append_nil (P := P) w t o.type e i z ht.hu hi hi3 ⟨(ρ k).blk, 0, none⟩ rows2.length (ρ k).cap news (by rw [hi1]; exact hnl) hcellsrc hl0 (by omega) (by rw [hi2]; omega)
 have hcapge : rows2.length ≤ grownCap w rows2.length 0 e := grownCap_ge w _ _ e
 have hcapm : grownCap w rows2.length 0 e ≤ maxLen := grownCap_le_maxLen w _ _ e hmm
 generalize hcap' : grownCap w rows2.length 0 e = cap' at *
 generalize hcur : news.toArray ++ Builtin.zeroCells z.cells (cap' - rows2.length) = cur' at *
 have hsz' : cur'.size = cap' * 2 := by
  rw [← hcur]
  simp only [Array.size_append, List.size_toArray, size_zeroCells, hzc, hnl]
  omega
 have k2 : ∀ j, j < rows2.length * 2 → cur'.getD j undef = curk.getD j undef := fun j hj => by
  rw [← hcur]
  have h2 : (news.toArray ++ Builtin.zeroCells z.cells (cap' - rows2.length))[j]? = news[j]? := by
   rw [Array.getElem?_append_left (by rw [List.size_toArray]; omega), List.getElem?_toArray]
  rw [Array.getD_eq_getD_getElem?, h2, hnk j hj]; rfl
 have hnew : (w.drew.alloc (.cells cur' e)).heap[w.heap.size]? = some (.cells cur' e (0, 0)) := heap_alloc_new w.drew _
 have hbl : RowKit.Below w.heap.size w (w.drew.alloc (.cells cur' e)) := (RowKit.Below.refl _ _).drew.alloc (Nat.le_refl _) _
 have hgn : ∀ k, g w.heap.size k = none := fun k => by
  cases hk : g w.heap.size k with
  | none => rfl
  | some v => exact absurd (hr.base.agree.lt hk) (Nat.lt_irrefl _)
 have hexec : (execOp a.eval o).run P w = .ok (.value (.slice (some ⟨w.heap.size, 0, none⟩) rows2.length cap')) (w.drew.alloc (.cells cur' e)) := by
  simp only [execOp, ho, resolve, Sem.run_bind, run_pure, Result.andThen, invoke, builtin]
  have : (#[x, y].map a.eval) = #[.slice none 0 0, .slice (some ⟨(ρ k).blk, 0, none⟩) rows2.length (ρ k).cap] := by simp [ex, ey]
  rw [this, hrun]
 unfold Oper.wp
 rw [hexec]
 have hlen : (S.hp.set k .gone).length = S.hp.length := by simp
 have hd' := (rel_gone hr k).weaken (S' := ⟨S.fr, S.hp.set k .gone ++ [.gone]⟩) ⟨frLe_refl _, hpLe_gones _ [.gone] (by simp)⟩
 let L' : Loc := ⟨w.heap.size, cap', (ρ k).rows, (ρ k).caps⟩
 have rltk : ∀ j, j < rows2.length → (ρ k).rows j < w.heap.size := fun j hj => (Array.getElem?_eq_some_iff.1 (hownk.hrow j _ (List.getElem?_eq_getElem hj)).2.2.1).1
 have hgrid : SgOwn g (w.drew.alloc (.cells cur' e)) w0.own e e2 0 rows2 L' cur' rck :=
  { hB := Ini.own_new hr.base.below.size, hw := hnew, hsz := hsz', hcap := hcapge, hmax := hcapm
    hB' := hownk.hB'
    hrow := fun j r hj => by
     have hjl := (List.getElem?_eq_some_iff.1 hj).1
     obtain ⟨a1, a2, a3, a4⟩ := hownk.hrow j r hj
     exact ⟨(k2 _ (by omega)).trans a1, a2, (hbl.block _ (rltk j hjl)).trans a3, a4⟩
    hh := fun j r hj => by
     have hjl := (List.getElem?_eq_some_iff.1 hj).1
     rw [k2 _ (by omega)]; exact hownk.hh j r hj
    hv := hownk.hv
    hg := hgn
    hg' := hownk.hg'
    hne := fun j hj => by show (ρ k).rows j ≠ w.heap.size; have := rltk j hj; omega
    hinj := hownk.hinj }
 have hgone : (S.hp.set k .gone ++ [HO.gone])[S.hp.length]? = some HO.gone := by rw [List.getElem?_append_right (by omega), hlen]; simp
 have hh : ∀ i, i ≠ S.hp.length → (((S.hp.set k .gone ++ [HO.gone]).map (mapHO (killP1 S.hp.length))).set S.hp.length (.sg e e2 0 rows2))[i]? = ((S.hp.set k .gone ++ [HO.gone])[i]?).map (mapHO (killP1 S.hp.length)) := fun i hi => by
  rw [List.getElem?_set_ne (Ne.symm hi), List.getElem?_map]
 have hup := hd'.base.upd hgone (x' := .sg e e2 0 rows2) L' (GExt.refl g) (killP1 S.hp.length) (fun v p hv => VRS1.kill S.hp.length L' (GExt.refl g) hh hv) (hr.base.agree.below hbl) (hr.base.below.step hbl) (fun _ _ _ => rfl) ⟨cur', _, hgrid⟩
  (fun b hb => by
   simp only [foot] at hb
   rcases hb with hb | ⟨i, hi, hb⟩
   · right; left; rw [hb]; exact Nat.le_refl _
   · right; right
     intro j y hj hy hf
     have hb' : b = (ρ k).rows i := hb
     rcases Nat.lt_or_ge j S.hp.length with hlt | hge
     · rw [List.getElem?_append_left (by omega)] at hy
       by_cases e' : j = k
       · subst e'
         rw [List.getElem?_set_self hlt] at hy
         cases hy
         exact hf
       · rw [List.getElem?_set_ne (Ne.symm e')] at hy
         exact hr.base.sep j k y _ b e' hy hk hf (by simp only [foot]; exact .inr ⟨i, hi, hb'⟩)
     · rw [List.getElem?_eq_none (by simp; omega)] at hy; cases hy) (fun b hb _ => ⟨hbl.block b hb, fun _ => rfl⟩)
 have hat : (((S.hp.set k .gone ++ [HO.gone]).map (mapHO (killP1 S.hp.length))).set S.hp.length (.sg e e2 0 rows2))[S.hp.length]? = some (.sg e e2 0 rows2) := List.getElem?_set_self (by simp)
 have hv : VRS g (upd ρ S.hp.length L') (((S.hp.set k .gone ++ [HO.gone]).map (mapHO (killP1 S.hp.length))).set S.hp.length (.sg e e2 0 rows2)) (.slice (some ⟨w.heap.size, 0, none⟩) rows2.length cap') (.hp S.hp.length) := by
  show HpV (upd ρ S.hp.length L') _ (.slice (some ⟨w.heap.size, 0, none⟩) rows2.length cap') S.hp.length
  exact { sl := ⟨_, _, _, rfl⟩, arr := fun m s e' l' h => (by rw [hat] at h; cases h), grid := fun f1 f2 rows h => (by rw [hat] at h; cases h), sg := fun f1 f2 n' rows h => (by rw [hat] at h; cases h; rw [upd_same, Nat.add_zero]), pg := fun f1 f2 n' rows h => (by rw [hat] at h; cases h), box := fun l' h => (by rw [hat] at h; cases h) }
 have hrel := hd'.setObj S.hp.length L' hup (GExt.refl g) hh hv o.dst
 have e1 : ((S.hp.set k .gone ++ [HO.gone]).map (mapHO (killP1 S.hp.length))).set S.hp.length (.sg e e2 0 rows2) = killH S.hp.length (S.hp.set k .gone) ++ [.sg e e2 0 rows2] := by
  rw [List.map_append, List.set_append_right _ _ (by simp)]
  simp [killH]
 rw [e1] at hrel
 exact hK g _ _ _ (GExt.refl g) hrel
end
section
variable {P : Program} {o : Oper} {ev : Operand → PV} {hp : List HO}
theorem ps_len_sgr {t e : TypeId} {s by_ : Nat} [ht : SlT P t e s by_] {x : Operand} {e1 e2 id i n : Nat} {rows : List (List PV)} {h0 : PV} {r : List PV} {tys : Array TypeId} (ho : o.op = .call { callee := .builtin .len, args := #[x], argTypes := tys }) (htys : tys = #[t])
 (h1 : ev x = .gr id i) (hh : hp[id]? = some (.sg e1 e2 n rows)) (hr : rows[i]? = some (h0 :: r)) : PStep P o ev hp (I r.length) :=
 .of_run fun w0 g ρ w av hb hx => by
  have e1 := hx x (by simp [ho, Op.operands, Call.operands])
  subst htys
  rw [h1] at e1
  have ea := GrV.sg e1 _ _ _ _ _ hh hr
  rw [List.tail_cons] at ea
  exact ⟨.int .i64 r.length, by simp [execOp, ho, resolve, invoke, builtin, Builtin.len_, ea, run_underlying ht.hu, goInt, go_sem], .val _⟩
theorem ps_index_sgr {t e : TypeId} {by_ : Nat} [ht : SlT P t e 1 by_] {x ix : Operand} {e1 e2 : TypeId} {n : Nat} {rows : List (List PV)} {h0 : PV} {r : List PV} {i : Int} {id k : Nat} (ho : o.op = .indexAddr t x ix) (h1 : ev x = .gr id k)
 (hh : hp[id]? = some (.sg e1 e2 n rows)) (hr : rows[k]? = some (h0 :: r)) (h2 : ev ix = I i) (hi0 : 0 ≤ i) (hq : i.toNat < r.length) : PStep P o ev hp (.gat id k i.toNat) :=
 .of_run fun w0 g ρ w av hb hx => by
  have e1 := hx x (by simp [ho, Op.operands])
  have e2 := val_of (hx ix (by simp [ho, Op.operands])) h2
  rw [h1] at e1
  have ea := GrV.sg e1 _ _ _ _ _ hh hr
  rw [List.tail_cons] at ea
  refine ⟨.pointer (some ⟨(ρ id).rows k, i.toNat, none⟩), ?_, rfl⟩
  have hi : i < (r.length : Int) := by omega
  simp [execOp, ho, ea, e2, Instr.indexAt, asIntOf, run_underlying ht.hu, ht.hs, hi0, hi, Addr.add_n, go_sem]
end
section
variable {P : Program} {o : Oper} {S : St}
theorem e_store_sgr {t : TypeId} [ht : CellT P t] {x v : Operand} {id i j n : Nat} {e1 e2 : TypeId} {rows : List (List PV)} {h0 : PV} {r : List PV} {p : PV} (ho : o.op = .store t x v) (hd : o.dst = none) (h1 : S.ev x = .gat id i j) (hh : S.hp[id]? = some (.sg e1 e2 n rows))
 (hr : rows[i]? = some (h0 :: r)) (hj : j < r.length) (h2 : view S.hp (S.ev v) = p) (hp1 : p.one = true) : EStep P o S ⟨S.fr, S.hp.set id (.sg e1 e2 n (rows.set i (h0 :: r.set j p)))⟩ := by
 have hi : i < rows.length := (List.getElem?_eq_some_iff.1 hr).1
 have hrows : ∀ (k : Nat) (r' : List PV), (rows.set i (h0 :: r.set j p))[k]? = some r' → ∃ r'' : List PV, rows[k]? = some r'' ∧ r''.tail.length = r'.tail.length := fun k r' hk => by
  rw [List.getElem?_set] at hk
  split at hk
  · rename_i e; subst e
    simp only [Option.some.injEq] at hk
    subst hk
    exact ⟨_, hr, by simp⟩
  · exact ⟨r', hk, rfl⟩
 refine EStep.of_store ht.hs ho hd hh (fun m s e l h => by cases h) (fun e1' e2' rows' h => by cases h) (fun e1 e2 n rows h => by cases h) (fun L b h => by simpa [foot] using h) (fun w0 g ρ a w hrel _ => ?_) (fun l h => by cases h) (fun e1' e2' n' rows' h => by cases h; exact ⟨_, _, _, rfl, by simp, hrows⟩)
 obtain ⟨cur, rc, og⟩ := hrel.base.own id _ hh
 have ea : a.eval x = .pointer (some ⟨(ρ id).rows i, j, none⟩) := by have := hrel.ev x; rw [h1] at this; exact this
 have ev := hrel.base.view (hrel.ev v)
 rw [h2] at ev
 obtain ⟨hc1, hc2⟩ := ev.oneCell hp1
 obtain ⟨a1, a2, a3, a4⟩ := og.hrow i _ hr
 simp only [List.tail_cons] at a1 a2
 refine ⟨_, j, rc i, e2, ea, .inr ⟨i, hi, rfl⟩, og.hB' i hi, a3, fun o => og.hg' i o hi, by omega, by rw [hc1]; rfl, by rw [hc1]; simpa using hc2, fun cur' hs' hk' => ?_⟩
 refine ⟨cur, fun k => if k = i then cur' else rc k, og.hB, ?_, og.hsz, by simpa using og.hcap, og.hmax, fun k hk => og.hB' k (by simpa using hk), fun k r' hk => ?_, fun k r' hk => ?_, fun k r' m q hk hm => ?_, og.hg, fun k o hk => og.hg' k o (by simpa using hk), fun k hk => og.hne k (by simpa using hk), fun k m hk hm => og.hinj k m (by simpa using hk) (by simpa using hm)⟩
 · rw [setRow_other w _ _ _ (fun e => og.hne i hi e.symm)]; exact og.hw
 · by_cases e : k = i
   · subst e
     rw [List.getElem?_set_self hi] at hk
     cases hk
     simp only [List.length_set, if_true, List.tail_cons]
     exact ⟨a1, a2, setRow_heap w _ _ _ _ _ a3, hs'.trans a4⟩
   · rw [List.getElem?_set_ne (Ne.symm e)] at hk
     rw [if_neg e]
     obtain ⟨b1, b2, b3, b4⟩ := og.hrow k r' hk
     refine ⟨b1, b2, ?_, b4⟩
     rw [setRow_other w _ _ _ (fun e' => e (og.hinj k i (List.getElem?_eq_some_iff.1 hk).1 hi e'))]; exact b3
 · by_cases e : k = i
   · subst e
     rw [List.getElem?_set_self hi] at hk
     cases hk
     exact og.hh k (h0 :: r) hr
   · rw [List.getElem?_set_ne (Ne.symm e)] at hk
     exact og.hh k r' hk
 · by_cases e : k = i
   · subst e
     rw [List.getElem?_set_self hi] at hk
     cases hk
     rw [List.tail_cons] at hm
     rw [if_pos rfl, hk' m]
     rw [List.getElem?_set] at hm
     by_cases e' : j = m
     · subst e'
       rw [if_pos rfl, if_pos hj] at hm
       cases hm
       rw [if_pos (by omega)]
       refine ⟨hp1, ?_⟩
       rw [hc1]
       simpa using ev
     · rw [if_neg e'] at hm
       rw [if_neg (by omega)]
       exact og.hv k _ m q hr hm
   · rw [List.getElem?_set_ne (Ne.symm e)] at hk
     rw [if_neg e]
     exact og.hv k r' m q hk hm
theorem e_store_arrF {t : TypeId} [ht : CellT P t] {s : Nat} {x v : Operand} {id i j k : Nat} {e : TypeId} {l c : List PV} {p p' : PV} (ho : o.op = .store t x v) (hd : o.dst = none) (h1 : S.ev x = .hat id k) (hh : S.hp[id]? = some (.arr true s e l)) (hk : k = i * s + j) (hl : l[i]? = some (.agg c)) (hj : j < c.length)
 (h2 : view S.hp (S.ev v) = p) (hp1 : p.one = true) (hp' : p' = .agg (c.set j p)) : EStep P o S ⟨S.fr, S.hp.set id (.arr true s e (l.set i p'))⟩ := by
 subst hk; subst hp'
 have hi : i < l.length := (List.getElem?_eq_some_iff.1 hl).1
 refine EStep.of_store ht.hs ho hd hh (fun m s e l h => by cases h; exact ⟨_, _, _, _, rfl, by simp⟩) (fun e1 e2 rows h => by cases h) (fun e1 e2 n rows h => by cases h) (fun L b h => h) fun w0 g ρ a w hr _ => ?_
 obtain ⟨cur, cc, hown⟩ := hr.base.own id _ hh
 have ea : a.eval x = .pointer (some ⟨(ρ id).blk, i * s + j, none⟩) := by have := hr.ev x; rw [h1] at this; exact this
 have ev := hr.base.view (hr.ev v)
 rw [h2] at ev
 obtain ⟨hc1, hc2⟩ := ev.oneCell hp1
 obtain ⟨f1, f2⟩ := hown.hf i _ hl
 have hcc : cc i = c := by simpa [PV.flat] using f1.symm
 rw [hcc] at f2
 have hsz : i * s + j + 1 ≤ cur.size := by
  have h3 : (i + 1) * s ≤ (ρ id).cap * s := Nat.mul_le_mul_right _ (Nat.le_trans hi hown.hcap)
  rw [Nat.add_mul, Nat.one_mul] at h3
  rw [hown.hsz]; omega
 have hgn : ∀ o, g (ρ id).blk o = none := fun o => by rw [hown.hg o]; simp
 refine ⟨_, i * s + j, cur, e, ea, rfl, hown.hB, hown.hw, hgn, hsz, by rw [hc1]; rfl, by rw [hc1]; simpa using hc2, fun cur' hs' hk' => ?_⟩
 refine ⟨cur', fun m => if m = i then c.set j p else cc m, ⟨hown.hs, hown.hB, by simpa using hown.hcap, hown.hmax, setRow_heap w _ _ _ _ _ hown.hw, hs'.trans hown.hsz, fun m p' hm => ?_, fun m q' q hm hq => ?_, fun k => by rw [hgn k]; simp⟩⟩
 · rw [List.getElem?_set] at hm
   by_cases e : m = i
   · subst e
     simp [hi] at hm
     subst hm
     simp [PV.flat, f2]
   · rw [if_neg (Ne.symm e)] at hm
     rw [if_neg e]
     exact hown.hf m p' hm
 · simp only [List.length_set] at hm
   have hlen1 : (if m = i then c.set j p else cc m).length = s := by
    split
    · rw [List.length_set]; exact f2
    · exact (hown.hf m l[m] (List.getElem?_eq_getElem hm)).2
   have hq1 : q' < s := by rw [← hlen1]; exact (List.getElem?_eq_some_iff.1 hq).1
   rw [hk' _]
   by_cases e : m = i
   · subst e
     rw [if_pos rfl, List.getElem?_set] at hq
     by_cases e2 : j = q'
     · subst e2
       rw [if_pos rfl, if_pos hj] at hq
       cases hq
       rw [if_pos (by omega), Nat.sub_self, hc1]
       simpa using ev
     · rw [if_neg e2] at hq
       rw [if_neg (by omega)]
       exact hown.hv m q' q hm (by rw [hcc]; exact hq)
   · rw [if_neg e] at hq
     have hne : ¬ (i * s + j ≤ m * s + q' ∧ m * s + q' < i * s + j + 1) := fun ⟨h3, h4⟩ => by
      have h5 : m * s + q' = i * s + j := by omega
      have hjs : j < s := by omega
      have h6 : (m * s + q') / s = (i * s + j) / s := by rw [h5]
      rw [Nat.mul_comm m, Nat.mul_comm i, Nat.mul_add_div (by omega), Nat.mul_add_div (by omega), Nat.div_eq_of_lt hq1, Nat.div_eq_of_lt hjs] at h6
      omega
     rw [if_neg hne]
     exact hown.hv m q' q hm hq
end
end Go.Pv
/- The layer: the row of a struct grows. -/
namespace Go.Pv
open Go
attribute [local semireducible] Go.Pv.Goal Go.Pv.Ops Go.Pv.PStep Go.Pv.EStep Go.Pv.KRets Go.Pv.PCalls Go.Pv.OpsG Go.Pv.RCalls
section
variable {P : Program} {o : Oper} {S : St}
theorem thawS_VRS1 {g g' : Ghost} {ρ : Nat → Loc} {hp : List HO} {n : Nat} {e1 e2 : TypeId} {rows : List (List PV)} {l : List PV} (hx : GExt g g') (hn : hp[n]? = some (.sg e1 e2 0 rows)) (hl : l.length = rows.length) {v : Value} {p : PV} (h : VRS1 g ρ hp v p) :
 VRS1 g' ρ (hp.set n (.arr true 2 e1 l)) v p := by
 have hlt : n < hp.length := (List.getElem?_eq_some_iff.1 hn).1
 have hat : ∀ i, i ≠ n → (hp.set n (.arr true 2 e1 l))[i]? = hp[i]? := fun i hi => List.getElem?_set_ne (Ne.symm hi)
 have hatn : (hp.set n (.arr true 2 e1 l))[n]? = some (.arr true 2 e1 l) := List.getElem?_set_self hlt
 have keyH : ∀ {id}, HpV ρ hp v id → HpV ρ (hp.set n (.arr true 2 e1 l)) v id := fun {id} hh => by
  by_cases e' : id = n
  · subst e'
    refine ⟨hh.sl, fun m s e l' hid => ?_, fun e1 e2 rows hid => ?_, fun e1 e2 k rows hid => ?_, fun l' hid => ?_, fun e1 e2 k rows hid => ?_⟩
    · rw [hatn] at hid; cases hid; rw [hl, hh.sg _ _ _ _ hn, Nat.add_zero]
    · rw [hatn] at hid; cases hid
    · rw [hatn] at hid; cases hid
    · rw [hatn] at hid; cases hid
    · rw [hatn] at hid; cases hid
  · exact { sl := hh.sl, arr := fun m s' e2 l' hid => (by rw [hat _ e'] at hid; exact hh.arr _ _ _ _ hid), grid := fun e1 e2 rows hid => (by rw [hat _ e'] at hid; exact hh.grid _ _ _ hid), sg := fun e1 e2 m rows hid => (by rw [hat _ e'] at hid; exact hh.sg _ _ _ _ hid), pg := fun e1 e2 m rows hid => (by rw [hat _ e'] at hid; exact hh.pg _ _ _ _ hid), box := fun l' hid => (by rw [hat _ e'] at hid; exact hh.box _ hid) }
 cases p with
 | hp id => exact keyH h
 | hpv id b d => exact ⟨keyH h.1, h.2⟩
 | hat id i => exact h
 | hatv id i b d => exact h
 | gr j i =>
  refine (⟨GrV.sl h, fun e1' e2' rows' r hid hr => ?_, fun e1' e2' _n rows' r hid hr => ?_⟩ : GrV _ _ _ _ _)
  rotate_left
  · by_cases e' : j = n
    · rw [e', hatn] at hid; cases hid
    · rw [hat _ e'] at hid; exact GrV.sg h _ _ _ _ _ hid hr
  by_cases e' : j = n
  · rw [e', hatn] at hid; cases hid
  · rw [hat _ e'] at hid; exact GrV.grid h _ _ _ _ hid hr
 | gat id i j => exact h
 | _ => exact VR.mono hx h
theorem e_appendRowS {t e : TypeId} {by_ : Nat} {z0 : Value} [ht : MkT P t e 1 by_ [z0]] {x y : Operand} {tys : Array TypeId} {id i : Nat} {e1 e2 : TypeId} {rows : List (List PV)} {h0 : PV} {r l2 : List PV} {nn : Option Bool} (ho : o.op = .call { callee := .builtin .append, args := #[x, y], argTypes := tys })
 (htys : tys = #[t, t]) (h1 : S.ev x = .gr id i) (hh : S.hp[id]? = some (.sg e1 e2 0 rows)) (he : e2 = e) (hr : rows[i]? = some (h0 :: r)) (h2 : view S.hp (S.ev y) = .sl 1 nn l2) (hone : ∀ p ∈ l2, p.one = true)
 (hb : (r.length + l2.length) * by_ ≤ 140737488355328) (hm : r.length + l2.length ≤ 9223372036854775807) : EStep P o S (St.put ⟨S.fr, S.hp.set id (.arr true 2 e1 (rows.map sgP))⟩ o.dst (slR (r ++ l2))) := by
 intro w0 g ρ a w hrl Q K hK
 obtain ⟨cur, rc, og⟩ := hrl.base.own id _ hh
 obtain ⟨a1, a2, a3, a4⟩ := og.hrow i _ hr
 simp only [List.tail_cons] at a1 a2
 have hi : i < rows.length := (List.getElem?_eq_some_iff.1 hr).1
 have hrow : ArrOwn g w w0.own true 1 e2 r ⟨(ρ id).rows i, (ρ id).caps i, fun _ => 0, fun _ => 0⟩ (rc i) (fun j => [r.getD j .any]) := by
  refine ⟨by decide, og.hB' i hi, a2.1, a2.2, a3, by rw [a4, Nat.mul_one], fun j p hj => ?_, fun j k p hj hk => ?_, fun o' => by rw [og.hg' i o' hi]; simp⟩
  · have := (og.hv i _ j p hr hj).1
    simp [List.getD_eq_getElem?_getD, hj, flat_one this]
  · have hk0 : k = 0 := by rcases k with _ | k; rfl; simp at hk
    subst hk0
    simp only [List.getElem?_cons_zero, Option.some.injEq] at hk
    have hjr : r[j]? = some p := by rw [← hk]; simp [hj]
    simpa using (og.hv i _ j p hr hjr).2
 have ex : a.eval x = .slice (some ⟨(ρ id).rows i, 0, none⟩) r.length ((ρ id).caps i) := by have := hrl.ev x; rw [h1] at this; exact GrV.sg this _ _ _ _ _ hh hr
 have ey := hrl.base.view (hrl.ev y)
 rw [h2] at ey
 obtain ⟨c2, cs, hf2, hv2, blk, cap, cur', w', g', hrun, hx, hag, hbl, hold, hB, hcap, hmax, hw', hsz', k1, k2, hg', hblk, hkeep, hkeepI⟩ := append_ends (ht := ht) ho htys he hrow hrl.base.agree hrl.base.below ex ey (fun p hp c hc => by
  rw [flat_one (hone p hp)] at hc; cases hc; simp [hone p hp]) rfl hb hm
 unfold Oper.wp
 rw [hrun]
 have hlb : (ρ id).blk < w.heap.size := (Array.getElem?_eq_some_iff.1 og.hw).1
 let D : Nat → Bool := fun b => rowD (ρ id) rows.length b || b == blk
 have hDb : D blk = true := by simp [D]
 have hDr : ∀ k, k < rows.length → D ((ρ id).rows k) = true := fun k hk => by
  simp [D, rowD_iff.2 ⟨k, hk, rfl⟩]
 have hDs : ∀ b, D b = true → (∃ k, k < rows.length ∧ b = (ρ id).rows k) ∨ b = blk := fun b hd => by
  simp only [D, Bool.or_eq_true, beq_iff_eq] at hd
  rcases hd with hd | hd
  · exact .inl (rowD_iff.1 hd)
  · exact .inr hd
 have hx2 := snap_ext hag D
 have hset : (S.hp.map (mapHO _root_.id)).set id (.arr true 2 e1 (rows.map sgP)) = S.hp.set id (.arr true 2 e1 (rows.map sgP)) := by rw [map_mapHO_id]
 have hφ : ∀ v p, VRS1 g ρ S.hp v p → VRS1 (snap g' w' D) ρ (S.hp.set id (.arr true 2 e1 (rows.map sgP))) v p := fun v p hv => thawS_VRS1 (hx.trans hx2) hh (by simp) hv
 have hnb : ¬ D (ρ id).blk = true := fun hd => by
  rcases hDs _ hd with ⟨k, hk, e⟩ | e
  · exact og.hne k hk e.symm
  · rcases hblk with h | h
    · exact og.hne i hi (h.symm.trans e.symm)
    · omega
 have hbi : (ρ id).blk ≠ (ρ id).rows i := fun e => og.hne i hi e.symm
 have hbase := hrl.base.upd hh (x' := .arr true 2 e1 (rows.map sgP)) (ρ id) (hx.trans hx2) _root_.id (fun v p hv => by rw [upd_self, hset]; exact hφ v p hv) (snap_agree hag D) hbl
  (fun b k hb => (snap_old (fun hd => by
   rcases hDs b hd with ⟨k, hk, e⟩ | e
   · exact hb (e ▸ og.hB' k hk)
   · exact hb (e ▸ hB)) k).trans (hold b k hb))
  ⟨cur, fun k => [(rows.getD k []).headD .any, slR (rows.getD k []).tail], ⟨by decide, og.hB, by simpa using og.hcap, og.hmax, (hkeep _ hlb hbi).1.trans og.hw, og.hsz, fun k p hk => by
   simp only [List.getElem?_map, Option.map_eq_some_iff] at hk
   obtain ⟨r', hr', rfl⟩ := hk
   simp [sgP, PV.flat, List.getD_eq_getElem?_getD, hr'], fun k j q hk hq => by
   simp only [List.length_map] at hk
   have hr' : rows[k]? = some (rows.getD k []) := by simp [hk]
   rcases j with _ | _ | j
   · simp only [List.getElem?_cons_zero, Option.some.injEq] at hq
     subst hq
     rw [Nat.add_zero]
     exact (og.hh k _ hr').2.mono (hx.trans hx2)
   rotate_left
   · simp at hq
   simp only [Nat.zero_add, List.getElem?_cons_succ, List.getElem?_cons_zero, Option.some.injEq] at hq
   subst hq
   simp only [Nat.zero_add]
   rw [(og.hrow k _ hr').1]
   by_cases e : k = i ∧ blk = (ρ id).rows i
   · obtain ⟨rfl, eb⟩ := e
     have er : rows.getD k [] = h0 :: r := by rw [hr] at hr'; exact (Option.some.inj hr').symm
     rw [er, List.tail_cons]
     refine .sl 1 none _ 0 _ r (fun j => [r.getD j .any]) (fun k => cur'.getD k undef) (by decide) (by simp) a2.1 a2.2 hrow.hf (fun o' ho' => ?_) (fun j k' p hj hp => ?_)
     · rw [Nat.zero_add, ← eb]
       refine snap_cell hDb hw' o' ?_
       rw [hsz', Nat.mul_one]
       rw [Nat.mul_one] at ho'
       exact Nat.lt_of_lt_of_le ho' (Nat.le_trans (Nat.le_add_right _ _) hcap)
     · have := (hrow.hv j k' p hj hp).mono (hx.trans hx2)
       have hk' : k' = 0 := by rcases k' with _ | k'; rfl; simp at hp
       subst hk'
       rw [k1 _ (by omega)]
       exact this
   · have hw2 := (og.hrow k _ hr').2.2.1
     have hlt := (Array.getElem?_eq_some_iff.1 hw2).1
     have hw3 : w'.heap[(ρ id).rows k]? = some (.cells (rc k) e2 (0, 0)) := by
      by_cases e' : k = i
      · subst e'
        have hb' : w.heap.size ≤ blk := by
         rcases hblk with h | h
         · exact absurd ⟨rfl, h⟩ e
         · exact h
        exact (hkeepI (fun e3 => by have e3 : blk = (ρ id).rows k := e3; omega)).trans hw2
      · exact (hkeep _ hlt (fun e2 => e' (og.hinj k i hk hi e2))).1.trans hw2
     exact og.row (hx.trans hx2) hr' (fun o' ho' => snap_cell (hDr k hk) hw3 o' ho'), fun k => by rw [snap_old hnb, (hkeep _ hlb hbi).2 k, og.hg k]; simp⟩⟩
  (fun b hb => .inl (.inl hb)) (fun b hb1 hb2 => by
   have hne : b ≠ (ρ id).rows i := fun e => hb2 (.inr ⟨i, hi, e⟩)
   refine ⟨(hkeep b hb1 hne).1, fun k => (snap_old (fun hd => ?_) k).trans ((hkeep b hb1 hne).2 k)⟩
   rcases hDs b hd with ⟨k, hk, e⟩ | e
   · exact hb2 (.inr ⟨k, hk, e⟩)
   · rcases hblk with h | h
     · exact hne (e.trans h)
     · omega)
 rw [upd_self, hset] at hbase
 have hrel : Rel w0 ⟨S.fr, S.hp.set id (.arr true 2 e1 (rows.map sgP))⟩ (snap g' w' D) ρ a w' := ⟨hbase, hrl.dead, hrl.size, fun i p hp => (hrl.fr i p hp).turn hφ⟩
 have hnew := hrow.grow (L' := ⟨blk, cap, fun _ => 0, fun _ => 0⟩) hx hB hcap hmax hw' hsz' hf2 hv2 k1 k2 hg'
 have hvr : VR (snap g' w' D) (.slice (some ⟨blk, 0, none⟩) (r ++ l2).length cap) (slR (r ++ l2)) :=
  .sl 1 none blk 0 cap (r ++ l2) _ (fun k => cur'.getD k undef) (by decide) (by simp) (by simpa using hcap) hmax hnew.hf (fun k hk => by
   rw [Nat.zero_add]
   refine snap_cell hDb hw' k ?_
   rw [hsz']
   simp only [List.length_append, Nat.mul_one] at hk ⊢
   omega) (fun i j q hi hq => (hnew.hv i j q hi hq).mono hx2)
 rw [List.length_append] at hvr
 exact hK _ _ _ _ (hx.trans hx2) (hrel.put hbase (GExt.refl _) (.of_VR hvr) o.dst)
end
end Go.Pv
