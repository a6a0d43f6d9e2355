/- Walks: the program's clones. -/
import Derived.Test.YtembaiccchgllaaGreatJGc
set_option linter.unusedSectionVars false
namespace Go.Pv
open Go
attribute [local semireducible] Go.Pv.PStep
theorem one_l {l : List PV} (h : l.all PV.one = true) : ∀ p ∈ l, ∀ c, p.flat = some c → c.all PV.one = true := fun p hp c hc => by
  have := List.all_eq_true.1 h p hp
  rw [flat_one this] at hc
  cases hc
  simp [this]
section
variable {P : Program} {o : Oper} {ev : Operand → PV} {hp : List HO}
theorem ps_shrc {t rt : TypeId} {x y : Operand} {a : Nat} {b : Nat} (ho : o.op = .binOp .shr t x y rt) (h1 : ev x = I (a : Int)) (h2 : ev y = .val (.int .u64 (b : Int))) (hb : b ≤ 63) : PStep P o ev hp (I ((a >>> b : Nat) : Int)) :=
  ps_bin ho h1 h2 fun w => by
    have h := shift_shr .i64 .u64 (a : Int) (b : Int) (by omega) (by show (b : Int) ≤ (64 : Nat); omega)
    have e : (a : Int) / 2 ^ (b : Int).toNat = ((a >>> b : Nat) : Int) := by rw [Nat.shiftRight_eq_div_pow]; simp
    rw [← e]
    simp only [eqGuard_shr, binOp_shr, h, Sem.run_bind, run_pure, Result.andThen]
end
end Go.Pv
namespace Go.Proofs.YtembaiccchgllaaGreat
open Go Go.Pv Go.Proofs
set_option maxHeartbeats 32000000
set_option maxRecDepth 100000
attribute [local bitvec_to_nat] St.put St.setObj St.ev killP killA killP1 killH mapHO renP renA ren1 killG killGA killG1 krowP krowA krow1 lendP lendA lend1 unv pinP pin1 elemsM viewM viewN viewV n_set_z n_set_s n_map_c n_map_n getD_z getD_s n_toNat n_cond_t n_cond_f n_len_c n_len_n n_app_c n_app_n n_take_s n_take_z n_drop_s n_drop_z n_get_z n_get_s view viewA view1 elems Nat.zero_add Nat.add_zero Bool.not_true Bool.not_false Nat.one_ne_zero Nat.mul_one
attribute [local bitvec_to_nat] posI optP lendM1 lendMA lendMP killM1 killMA killMP hasI getO backM1 backMA backMP putL inpM pinM1 pinMA pinMP

def keyN (l : List Int) : List Int := l.flatMap fun x => [((x.toNat >>> 8 : Nat) : Int) % 256, x % 256]
def keyB (l : List Int) : ByteArray := strOf (keyN l)
theorem keyN_snoc (l : List Int) (x : Int) : keyN (l ++ [x]) = keyN l ++ [((x.toNat >>> 8 : Nat) : Int) % 256, x % 256] := by unfold keyN; rw [List.flatMap_append]; rfl
theorem keyN_len (l : List Int) : (keyN l).length = 2 * l.length := by
  induction l with
  | nil => rfl
  | cons x l ih => show (_ ++ keyN l).length = _; rw [List.length_append, ih]; simp; omega
theorem strOf_data (ns : List Int) : (strOf ns).data.toList = ns.map fun n => UInt8.ofNat n.toNat := by
  have : ∀ (ns : List Int) (b : ByteArray), (ns.foldl (fun r n => r.push (UInt8.ofNat n.toNat)) b).data.toList = b.data.toList ++ ns.map fun n => UInt8.ofNat n.toNat := by
    intro ns
    induction ns with
    | nil => intro b; simp
    | cons n ns ih =>
      intro b
      rw [List.foldl_cons, ih]
      simp [ByteArray.push]
  have h := this ns ByteArray.empty
  unfold strOf
  rw [h]
  rfl
theorem keyN_inj : ∀ {l m : List Int}, (∀ x ∈ l, 0 ≤ x ∧ x < 65536) → (∀ x ∈ m, 0 ≤ x ∧ x < 65536) → (keyN l).map (fun n => UInt8.ofNat n.toNat) = (keyN m).map (fun n => UInt8.ofNat n.toNat) → l = m
  | [], [], _, _, _ => rfl
  | x :: l, [], _, _, h => by simp [keyN] at h
  | [], y :: m, _, _, h => by simp [keyN] at h
  | x :: l, y :: m, hl, hm, h => by
    have hx := hl x (by simp)
    have hy := hm y (by simp)
    have e : ∀ (z : Int) (r : List Int), (keyN (z :: r)).map (fun n => UInt8.ofNat n.toNat) = UInt8.ofNat (((z.toNat >>> 8 : Nat) : Int) % 256).toNat :: UInt8.ofNat (z % 256).toNat :: (keyN r).map (fun n => UInt8.ofNat n.toNat) := fun z r => rfl
    rw [e, e, List.cons.injEq, List.cons.injEq] at h
    obtain ⟨h1, h2, h3⟩ := h
    have key : ∀ (a b : Nat), a < 256 → b < 256 → UInt8.ofNat a = UInt8.ofNat b → a = b := fun a b ha hb h => by
      have := congrArg UInt8.toNat h
      simpa [Nat.mod_eq_of_lt ha, Nat.mod_eq_of_lt hb] using this
    have k1 := key _ _ (by rw [Nat.shiftRight_eq_div_pow]; omega) (by rw [Nat.shiftRight_eq_div_pow]; omega) h1
    have k2 := key _ _ (by omega) (by omega) h2
    rw [Nat.shiftRight_eq_div_pow, Nat.shiftRight_eq_div_pow] at k1
    have hxy : x = y := by omega
    rw [hxy, keyN_inj (fun z hz => hl z (by simp [hz])) (fun z hz => hm z (by simp [hz])) h3]
theorem keyB_inj {l m : List Int} (hl : ∀ x ∈ l, 0 ≤ x ∧ x < 65536) (hm : ∀ x ∈ m, 0 ≤ x ∧ x < 65536) (h : keyB l = keyB m) : l = m := by
  have := congrArg (fun b : ByteArray => b.data.toList) h
  unfold keyB at this
  simp only [strOf_data] at this
  exact keyN_inj hl hm this
abbrev W8 (n : Int) : PV := .val (.int .u8 n)
theorem key_c (l : List Int) (hl : l.length ≤ 1048576) (h : ∀ x ∈ l, 0 ≤ x ∧ x < 65536) : PCalls Tryz.prog 252 [ints l] (.val (.string (keyB l))) := by
  refine pcalls1 Tryz.func252 rfl Tryz.ntmps252 rfl ?_
  simp only [List.length_cons, List.length_nil, Nat.reduceAdd, Nat.reduceSub, List.replicate_succ, List.replicate_zero, List.cons_append, List.nil_append]
  repeat' (first
| refine g_seq ?_
| refine zJ ?_
| refine zC ?_
| (refine o_go rfl ?_; (first
| refine p_p (ps_mul rfl rfl rfl (by omega)) ?_
| refine p_e rfl (e_makeCap rfl rfl rfl (by omega) (by omega) (by omega) (by decide) (by rfl)) ?_
| refine p_p (zD rfl) ?_
| refine p_p (zA rfl) ?_
| refine p_p (zU rfl rfl rfl) ?_); refine ⟨_, aB, ?_⟩)
| refine o_nil ?_)
  refine g_loopF (α := Nat) [9] (fun i => [(3, .hp 0), (12, I (i : Int))]) (fun i => [.arr true 1 5 ((keyN (l.take i)).map W8)]) (fun i => i ≤ l.length) (fun i => l.length - i) 0 aH (Nat.zero_le _) ⟨rfl, rfl, trivial⟩ rfl ?_
  rintro i hi
  dsimp only [zZ, List.set_cons_zero, List.set_cons_succ]
  have hkl : ((keyN (l.take i)).map W8).length = 2 * i := by rw [List.length_map, keyN_len, List.length_take]; omega
  by_cases hil : i < l.length
  · obtain ⟨x, hx⟩ : ∃ x : Nat, l.getD i 0 = x := ⟨(l.getD i 0).toNat, by have := h _ (getD_at hil); omega⟩
    have hx2 := h _ (getD_at hil)
    have hk := keyN_snoc (l.take i) (l.getD i 0)
    rw [← take_snoc 0 hil] at hk
    have hix : (l.map I)[i]? = some (I (x : Int)) := by rw [← hx]; exact idx_I hil
    rw [hx] at hk hx2
    rw [Int.toNat_natCast] at hk
    have hw1 : IntKind.u8.wrap ((x >>> 8 : Nat) : Int) = ((x >>> 8 : Nat) : Int) % 256 := by rw [IntKind.wrap_u8]
    have hw2 : IntKind.u8.wrap (x : Int) = (x : Int) % 256 := by rw [IntKind.wrap_u8]
    repeat' (first
| refine g_seq ?_
| refine zJ ?_
| refine zC ?_
| (refine o_go rfl ?_; (first
| refine p_p (zN rfl rfl rfl (by omega) hix (by exact rfl)) ?_
| refine p_p (ps_shrc rfl rfl rfl (by decide)) ?_
| refine p_p (ps_conv (by rw [Tryz.underlying3]; rfl) Tryz.underlying5 rfl rfl) ?_
| refine p_p (ps_lits rfl (by exact rfl) (by exact rfl) aU (by decide) (by decide)) ?_
| refine p_e (by kernel_rfl) (e_append rfl rfl rfl rfl rfl rfl (one_l rfl) rfl (by rw [n_len_c, n_len_c, n_len_n]; omega) (by rw [n_len_c, n_len_c, n_len_n]; omega)) ?_
| refine p_p (zD rfl) ?_
| refine p_p (zA rfl) ?_
| refine p_p (zF rfl rfl) ?_
| refine p_p (zS rfl rfl rfl) ?_
| refine p_p (ps_add rfl rfl rfl aO) ?_); refine ⟨_, aB, ?_⟩)
| refine o_nil ?_
| (refine zK rfl (fun hc => ?_) (fun hc => ?_) <;> try (exfalso; omega))
| refine zR ?_)
    all_goals try (exfalso; omega)
    refine zT (i + 1) (by omega) (by omega) aI ⟨rfl, rfl, trivial⟩ (zB ?_ (zM _))
    rw [hk, List.map_append, hw1, hw2]; rfl
  · have hie : l.take i = l := List.take_of_length_le (by omega)
    rw [hie]
    repeat' (first
| refine g_seq ?_
| refine zC ?_
| (refine o_go rfl ?_; (first
| refine p_p (ps_bytesString Tryz.underlying22 Tryz.underlying5 Tryz.underlying9 rfl rfl rfl) ?_
| refine p_p (zD rfl) ?_
| refine p_p (zA rfl) ?_
| refine p_p (zS rfl rfl rfl) ?_); refine ⟨_, aB, ?_⟩)
| refine o_nil ?_
| (refine zK rfl (fun hc => ?_) (fun hc => ?_) <;> try (exfalso; omega))
| refine kr1 ?_
| refine g_exit ?_
| refine g_ret ?_)
    all_goals try (exfalso; omega)
    exact krV rfl
/-! ### The list of what was found -/
instance : MapT Tryz.prog 187 9 4 (.bool false) := ⟨Tryz.underlying187, Tryz.underlying9, fun _ => by kernel_rfl⟩
def smallE (E : List Ent) : Prop := ∀ c ∈ E, ∀ x ∈ c.1, 0 ≤ x ∧ x < 65536
theorem mpGet_mem {t : List Int} (ht : ∀ x ∈ t, 0 ≤ x ∧ x < 65536) : ∀ {T : List (List Int)}, (∀ u ∈ T, ∀ x ∈ u, 0 ≤ x ∧ x < 65536) → mpGet (T.map fun t => (keyB t, B true)) (keyB t) (B false) = B (decide (t ∈ T))
  | [], _ => rfl
  | u :: T, h => by
    rw [List.map_cons, mpGet]
    by_cases e : keyB u = keyB t
    · rw [if_pos e, keyB_inj (h u (by simp)) ht e]; simp
    · rw [if_neg e, mpGet_mem ht (fun v hv => h v (by simp [hv]))]
      have : t ≠ u := fun h' => e (by rw [h'])
      simp [this]
theorem mpPut_new {t : List Int} (ht : ∀ x ∈ t, 0 ≤ x ∧ x < 65536) (p : PV) : ∀ {T : List (List Int)}, (∀ u ∈ T, ∀ x ∈ u, 0 ≤ x ∧ x < 65536) → t ∉ T → mpPut (T.map fun t => (keyB t, B true)) (keyB t) p = (T.map fun t => (keyB t, B true)) ++ [(keyB t, p)]
  | [], _, _ => rfl
  | u :: T, h, hn => by
    rw [List.map_cons, mpPut]
    have e : keyB u ≠ keyB t := fun e => hn (by rw [keyB_inj (h u (by simp)) ht e]; simp)
    rw [if_neg e, mpPut_new ht p (fun v hv => h v (by simp [hv])) (fun hm => hn (by simp [hm]))]; rfl
abbrev mapV (b : Nat) : PV := .val (.map (some b))
theorem iclone_R (l : List Int) (hl : l.length ≤ 1048576) : RCalls Tryz.prog 226 [ints l] (.arr true 1 3 (l.map I)) (.hp 0) := by
  refine pcallsR1 Tryz.func226 rfl Tryz.ntmps226 rfl ?_
  simp only [List.length_cons, List.length_nil, Nat.reduceAdd, Nat.reduceSub, List.replicate_succ, List.replicate_zero, List.cons_append, List.nil_append]
  repeat' (first
| refine g_seq ?_
| refine zC ?_
| (refine o_go rfl ?_; (first
| refine p_p (zD rfl) ?_
| refine p_p (zA rfl) ?_
| refine p_e rfl (e_lit0 rfl (by decide)) ?_
| refine p_e rfl (e_append rfl rfl rfl rfl rfl rfl (by first | exact one_one rfl | exact one_map (fun _ => rfl) _) rfl aT aT) ?_); refine ⟨_, aB, ?_⟩)
| refine o_nil ?_
| refine krr 0 rfl (HandOut.arr rfl ?_ aS)
| refine g_ret ?_)
  rfl
end Go.Proofs.YtembaiccchgllaaGreat
