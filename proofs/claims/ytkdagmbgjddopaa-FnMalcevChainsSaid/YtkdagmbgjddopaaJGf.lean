/- Walks: the program's clones. -/
import Derived.Test.YtkdagmbgjddopaaJSt
import Derived.Test.YtkdagmbgjddopaaJZa
namespace Go.Pv
open Go
attribute [local semireducible] Go.Pv.PStep
theorem one_l {l : List PV} (h : l.all PV.one = true) : ∀ p ∈ l, ∀ c, p.flat = some c → c.all PV.one = true := fun p hp c hc => by
  have := List.all_eq_true.1 h p hp
  rw [flat_one this] at hc
  cases hc
  simp [this]
section
variable {P : Program} {o : Oper} {ev : Operand → PV} {hp : List HO}
theorem ps_shrc {t rt : TypeId} {x y : Operand} {a : Nat} {b : Nat} (ho : o.op = .binOp .shr t x y rt) (h1 : ev x = I (a : Int)) (h2 : ev y = .val (.int .u64 (b : Int))) (hb : b ≤ 63) : PStep P o ev hp (I ((a >>> b : Nat) : Int)) :=
  ps_bin ho h1 h2 fun w => by
    have h := shift_shr .i64 .u64 (a : Int) (b : Int) (by omega) (by show (b : Int) ≤ (64 : Nat); omega)
    have e : (a : Int) / 2 ^ (b : Int).toNat = ((a >>> b : Nat) : Int) := by rw [Nat.shiftRight_eq_div_pow]; simp
    rw [← e]
    simp only [eqGuard_shr, binOp_shr, h, Sem.run_bind, run_pure, Result.andThen]
end
end Go.Pv
namespace Go.Proofs.Ytkdagmbgjddopaa
open Go Go.Pv Go.Proofs
set_option maxHeartbeats 32000000
set_option maxRecDepth 100000
attribute [local bitvec_to_nat] St.put St.setObj St.ev killP killA killP1 killH mapHO renP renA ren1 killG killGA killG1 krowP krowA krow1 lendP lendA lend1 unv pinP pin1 elemsM viewM viewN viewV n_set_z n_set_s n_map_c n_map_n getD_z getD_s n_toNat n_cond_t n_cond_f n_len_c n_len_n n_app_c n_app_n n_take_s n_take_z n_drop_s n_drop_z n_get_z n_get_s view viewA view1 elems Nat.zero_add Nat.add_zero Bool.not_true Bool.not_false Nat.one_ne_zero Nat.mul_one
attribute [local bitvec_to_nat] posI optP lendM1 lendMA lendMP killM1 killMA killMP hasI getO backM1 backMA backMP putL inpM pinM1 pinMA pinMP

def keyN (l : List Int) : List Int := l.flatMap fun x => [((x.toNat >>> 8 : Nat) : Int) % 256, x % 256]
def keyB (l : List Int) : ByteArray := strOf (keyN l)
theorem keyN_snoc (l : List Int) (x : Int) : keyN (l ++ [x]) = keyN l ++ [((x.toNat >>> 8 : Nat) : Int) % 256, x % 256] := by unfold keyN; rw [List.flatMap_append]; rfl
theorem keyN_len (l : List Int) : (keyN l).length = 2 * l.length := by
  induction l with
  | nil => rfl
  | cons x l ih => show (_ ++ keyN l).length = _; rw [List.length_append, ih]; simp; omega
theorem strOf_data (ns : List Int) : (strOf ns).data.toList = ns.map fun n => UInt8.ofNat n.toNat := by
  have : ∀ (ns : List Int) (b : ByteArray), (ns.foldl (fun r n => r.push (UInt8.ofNat n.toNat)) b).data.toList = b.data.toList ++ ns.map fun n => UInt8.ofNat n.toNat := by
    intro ns
    induction ns with
    | nil => intro b; simp
    | cons n ns ih =>
      intro b
      rw [List.foldl_cons, ih]
      simp [ByteArray.push]
  have h := this ns ByteArray.empty
  unfold strOf
  rw [h]
  rfl
theorem keyN_inj : ∀ {l m : List Int}, (∀ x ∈ l, 0 ≤ x ∧ x < 65536) → (∀ x ∈ m, 0 ≤ x ∧ x < 65536) → (keyN l).map (fun n => UInt8.ofNat n.toNat) = (keyN m).map (fun n => UInt8.ofNat n.toNat) → l = m
  | [], [], _, _, _ => rfl
  | x :: l, [], _, _, h => by simp [keyN] at h
  | [], y :: m, _, _, h => by simp [keyN] at h
  | x :: l, y :: m, hl, hm, h => by
    have hx := hl x (by simp)
    have hy := hm y (by simp)
    have e : ∀ (z : Int) (r : List Int), (keyN (z :: r)).map (fun n => UInt8.ofNat n.toNat) = UInt8.ofNat (((z.toNat >>> 8 : Nat) : Int) % 256).toNat :: UInt8.ofNat (z % 256).toNat :: (keyN r).map (fun n => UInt8.ofNat n.toNat) := fun z r => rfl
    rw [e, e, List.cons.injEq, List.cons.injEq] at h
    obtain ⟨h1, h2, h3⟩ := h
    have key : ∀ (a b : Nat), a < 256 → b < 256 → UInt8.ofNat a = UInt8.ofNat b → a = b := fun a b ha hb h => by
      have := congrArg UInt8.toNat h
      simpa [Nat.mod_eq_of_lt ha, Nat.mod_eq_of_lt hb] using this
    have k1 := key _ _ (by rw [Nat.shiftRight_eq_div_pow]; omega) (by rw [Nat.shiftRight_eq_div_pow]; omega) h1
    have k2 := key _ _ (by omega) (by omega) h2
    rw [Nat.shiftRight_eq_div_pow, Nat.shiftRight_eq_div_pow] at k1
    have hxy : x = y := by omega
    rw [hxy, keyN_inj (fun z hz => hl z (by simp [hz])) (fun z hz => hm z (by simp [hz])) h3]
theorem keyB_inj {l m : List Int} (hl : ∀ x ∈ l, 0 ≤ x ∧ x < 65536) (hm : ∀ x ∈ m, 0 ≤ x ∧ x < 65536) (h : keyB l = keyB m) : l = m := by
  have := congrArg (fun b : ByteArray => b.data.toList) h
  unfold keyB at this
  simp only [strOf_data] at this
  exact keyN_inj hl hm this
abbrev W8 (n : Int) : PV := .val (.int .u8 n)
theorem key_c (l : List Int) (hl : l.length ≤ 1048576) (h : ∀ x ∈ l, 0 ≤ x ∧ x < 65536) : PCalls Try.prog 88 [ints l] (.val (.string (keyB l))) := by
  refine pcalls1 Try.func88 rfl Try.ntmps88 rfl ?_
  simp only [List.length_cons, List.length_nil, Nat.reduceAdd, Nat.reduceSub, List.replicate_succ, List.replicate_zero, List.cons_append, List.nil_append]
  repeat' (first
| refine g_seq ?_
| refine g_block ?_
| refine g_region ?_
| (refine o_go rfl ?_; (first
| refine p_p (ps_mul rfl rfl rfl (by omega)) ?_
| refine p_e rfl (e_makeCap rfl rfl rfl (by omega) (by omega) (by omega) (by decide) (by rfl)) ?_
| refine p_p (ps_move rfl) ?_
| refine p_p (ps_assign rfl) ?_
| refine p_p (ps_lenM rfl rfl rfl) ?_); refine ⟨_, aA, ?_⟩)
| refine o_nil ?_)
  refine g_loopF (α := Nat) [9] (fun i => [(3, .hp 0), (12, I (i : Int))]) (fun i => [.arr true 1 5 ((keyN (l.take i)).map W8)]) (fun i => i ≤ l.length) (fun i => l.length - i) 0 aH (Nat.zero_le _) ⟨rfl, rfl, trivial⟩ rfl ?_
  rintro i hi
  dsimp only [setMany, List.set_cons_zero, List.set_cons_succ]
  have hkl : ((keyN (l.take i)).map W8).length = 2 * i := by rw [List.length_map, keyN_len, List.length_take]; omega
  by_cases hil : i < l.length
  · obtain ⟨x, hx⟩ : ∃ x : Nat, l.getD i 0 = x := ⟨(l.getD i 0).toNat, by have := h _ (getD_at hil); omega⟩
    have hx2 := h _ (getD_at hil)
    have hk := keyN_snoc (l.take i) (l.getD i 0)
    rw [← take_snoc 0 hil] at hk
    have hix : (l.map I)[i]? = some (I (x : Int)) := by rw [← hx]; exact idx_I hil
    rw [hx] at hk hx2
    rw [Int.toNat_natCast] at hk
    have hw1 : IntKind.u8.wrap ((x >>> 8 : Nat) : Int) = ((x >>> 8 : Nat) : Int) % 256 := by rw [IntKind.wrap_u8]
    have hw2 : IntKind.u8.wrap (x : Int) = (x : Int) % 256 := by rw [IntKind.wrap_u8]
    repeat' (first
| refine g_seq ?_
| refine g_block ?_
| refine g_region ?_
| (refine o_go rfl ?_; (first
| refine p_p (ps_index rfl rfl rfl (by omega) hix (by exact rfl)) ?_
| refine p_p (ps_shrc rfl rfl rfl (by decide)) ?_
| refine p_p (ps_conv (by rw [Try.underlying3]; rfl) Try.underlying5 rfl rfl) ?_
| refine p_p (ps_lits rfl (by exact rfl) (by exact rfl) aS (by decide) (by decide)) ?_
| refine p_e (by kernel_rfl) (e_append rfl rfl rfl rfl rfl rfl (one_l rfl) rfl (by rw [n_len_c, n_len_c, n_len_n]; omega) (by rw [n_len_c, n_len_c, n_len_n]; omega)) ?_
| refine p_p (ps_move rfl) ?_
| refine p_p (ps_assign rfl) ?_
| refine p_p (ps_load_cell rfl rfl) ?_
| refine p_p (ps_lss rfl rfl rfl) ?_
| refine p_p (ps_add rfl rfl rfl aM) ?_); refine ⟨_, aA, ?_⟩)
| refine o_nil ?_
| (refine g_condD rfl (fun hc => ?_) (fun hc => ?_) <;> try (exfalso; omega))
| refine g_skip ?_)
    all_goals try (exfalso; omega)
    refine k_round (i + 1) (by omega) (by omega) aI ⟨rfl, rfl, trivial⟩ (hpLe_cons ?_ (hpLe_nil _))
    rw [hk, List.map_append, hw1, hw2]; rfl
  · have hie : l.take i = l := List.take_of_length_le (by omega)
    rw [hie]
    repeat' (first
| refine g_seq ?_
| refine g_region ?_
| (refine o_go rfl ?_; (first
| refine p_p (ps_bytesString Try.underlying22 Try.underlying5 Try.underlying9 rfl rfl rfl) ?_
| refine p_p (ps_move rfl) ?_
| refine p_p (ps_assign rfl) ?_
| refine p_p (ps_lss rfl rfl rfl) ?_); refine ⟨_, aA, ?_⟩)
| refine o_nil ?_
| (refine g_condD rfl (fun hc => ?_) (fun hc => ?_) <;> try (exfalso; omega))
| refine kr1 ?_
| refine g_exit ?_
| refine g_ret ?_)
    all_goals try (exfalso; omega)
    exact krV rfl
/-! ### The list of what was found -/
instance : MapT Try.prog 102 9 4 (.bool false) := ⟨Try.underlying102, Try.underlying9, fun _ => by kernel_rfl⟩
def smallE (E : List Ent) : Prop := ∀ c ∈ E, ∀ x ∈ c.1, 0 ≤ x ∧ x < 65536
theorem mpGet_mem {t : List Int} (ht : ∀ x ∈ t, 0 ≤ x ∧ x < 65536) : ∀ {T : List (List Int)}, (∀ u ∈ T, ∀ x ∈ u, 0 ≤ x ∧ x < 65536) → mpGet (T.map fun t => (keyB t, B true)) (keyB t) (B false) = B (decide (t ∈ T))
  | [], _ => rfl
  | u :: T, h => by
    rw [List.map_cons, mpGet]
    by_cases e : keyB u = keyB t
    · rw [if_pos e, keyB_inj (h u (by simp)) ht e]; simp
    · rw [if_neg e, mpGet_mem ht (fun v hv => h v (by simp [hv]))]
      have : t ≠ u := fun h' => e (by rw [h'])
      simp [this]
theorem mpPut_new {t : List Int} (ht : ∀ x ∈ t, 0 ≤ x ∧ x < 65536) (p : PV) : ∀ {T : List (List Int)}, (∀ u ∈ T, ∀ x ∈ u, 0 ≤ x ∧ x < 65536) → t ∉ T → mpPut (T.map fun t => (keyB t, B true)) (keyB t) p = (T.map fun t => (keyB t, B true)) ++ [(keyB t, p)]
  | [], _, _ => rfl
  | u :: T, h, hn => by
    rw [List.map_cons, mpPut]
    have e : keyB u ≠ keyB t := fun e => hn (by rw [keyB_inj (h u (by simp)) ht e]; simp)
    rw [if_neg e, mpPut_new ht p (fun v hv => h v (by simp [hv])) (fun hm => hn (by simp [hm]))]; rfl
abbrev mapV (b : Nat) : PV := .val (.map (some b))
theorem iclone_R (l : List Int) (hl : l.length ≤ 1048576) : RCalls Try.prog 71 [ints l] (.arr true 1 3 (l.map I)) (.hp 0) := by
  refine pcallsR1 Try.func71 rfl Try.ntmps71 rfl ?_
  simp only [List.length_cons, List.length_nil, Nat.reduceAdd, Nat.reduceSub, List.replicate_succ, List.replicate_zero, List.cons_append, List.nil_append]
  repeat' (first
| refine g_seq ?_
| refine g_region ?_
| (refine o_go rfl ?_; (first
| refine p_p (ps_move rfl) ?_
| refine p_p (ps_assign rfl) ?_
| refine p_e rfl (e_lit0 rfl (by decide)) ?_
| refine p_e rfl (e_append rfl rfl rfl rfl rfl rfl (by first | exact one_one rfl | exact one_map (fun _ => rfl) _) rfl aU aU) ?_); refine ⟨_, aA, ?_⟩)
| refine o_nil ?_
| refine krr 0 rfl (HandOut.arr rfl ?_ aR)
| refine g_ret ?_)
  rfl
end Go.Proofs.Ytkdagmbgjddopaa
/- The layer: drawn regions whose effects leave to each operation what it reads. -/
namespace Go.Pv
open Go
attribute [local semireducible] Go.Pv.Goal Go.Pv.Ops Go.Pv.PStep Go.Pv.EStep Go.Pv.KRets Go.Pv.PCalls Go.Pv.OpsG
section
variable {P : Program} {ops : Array Oper} {U : List Nat} {V : List (Nat × Nat)} {K : St → Prop} {H : List Nat → List HO → Prop}
theorem ZM.comm2 {H H' : List HO → Prop} {oi oj : Oper} {S : St} {qi qj : PV} {U' : List Nat} (hap : oi.apart ops oj = true) (hi : ZM P ops U H oi S qi) (hj : ZM P ops U' H' oj (S.put oi.dst qi) qj) :
    ZM P ops U' H' oj S qj ∧ ZM P ops U H oi (S.put oj.dst qj) qi ∧ (S.put oi.dst qi).put oj.dst qj = (S.put oj.dst qj).put oi.dst qi := by
  obtain ⟨h1, h2, h3⟩ := Oper.apart_spec hap
  have evj : ∀ y ∈ oj.op.operands, (S.put oi.dst qi).ev y = S.ev y := fun y hy => S.ev_put _ _ y fun t ht e => h1 t ht (mem_looksAt_op (e ▸ hy))
  have evi : ∀ y ∈ oi.op.operands, (S.put oj.dst qj).ev y = S.ev y := fun y hy => S.ev_put _ _ y fun t ht e => h3 t ht (mem_looksAt_op (e ▸ hy))
  refine ⟨?_, ?_, S.put_comm qi qj h2⟩
  · cases hj with
    | pure hg h hq ho => exact .pure (guardS_put h1 ▸ hg) (fun hp hH => (h hp hH).congr evj) hq (fun y hy => evj y hy ▸ ho y hy)
    | skip hg => exact .skip (guardS_put h1 ▸ hg)
  · cases hi with
    | pure hg h hq ho => exact .pure ((guardS_put h3).symm ▸ hg) (fun hp hH => (h hp hH).congr fun y hy => (evi y hy).symm) hq (fun y hy => (evi y hy).symm ▸ ho y hy)
    | skip hg => exact .skip ((guardS_put h3).symm ▸ hg)

def keepsU (V : List (Nat × Nat)) (H : List Nat → List HO → Prop) (i : Nat) (hp hp' : List HO) : Prop := ∀ U, (∀ n, (i, n) ∈ V → n ∈ U) → FIN ∉ U → H U hp → H U hp'
def aStU (P : Program) (ops : Array Oper) (V : List (Nat × Nat)) (H : List Nat → List HO → Prop) (i : Nat) (K : St → Prop) (S : St) : Prop :=
  match ops[i]? with
  | none => K S
  | some o => (∃ q U, ZM P ops U (H U) o S q ∧ H U S.hp ∧ K (S.put o.dst q)) ∨ (guardS ops S.fr o = some true ∧ ∃ n hp' r, inVo V i n ∧ keepsU V H i S.hp hp' ∧ JStep P o S.ev S.hp n hp' r ∧ K (appJ S o n hp' r))
def aAnyU (P : Program) (ops : Array Oper) (V : List (Nat × Nat)) (H : List Nat → List HO → Prop) (K : St → Prop) : Nat → Array Bool → St → Prop
  | 0, listed, S => Region.ready .any ops listed = [] ∧ K S
  | n + 1, listed, S => (Region.ready .any ops listed = [] → K S) ∧ ∀ i ∈ Region.ready .any ops listed, aStU P ops V H i (aAnyU P ops V H K n (listed.setIfInBounds i true)) S

theorem wpAny_of_aAnyU {Q : Exit → Act → World → Prop} {w0 : Ini} (hK : ∀ S g ρ a w, K S → Rel w0 S g ρ a w → Q .normal a w) :
    ∀ (n : Nat) (listed : Array Bool) (S : St) (g : Ghost) (ρ : Nat → Loc) (a : Act) (w : World), aAnyU P ops V H K n listed S → Rel w0 S g ρ a w → wpAny P .any ops Q n listed a w
  | 0, _, S, g, ρ, a, w, h, hr => ⟨h.1, hK S g ρ a w h.2 hr⟩
  | n + 1, listed, S, g, ρ, a, w, h, hr => by
    refine ⟨fun h0 => hK S g ρ a w (h.1 h0) hr, fun i hi => ?_⟩
    have h1 := h.2 i hi
    unfold aStU at h1
    unfold wpOp
    split
    · rename_i ho
      simp only [ho] at h1
      exact wpAny_of_aAnyU hK n _ S g ρ a w h1 hr
    · rename_i o ho
      simp only [ho] at h1
      rcases h1 with ⟨q, _, hy, hH, h1⟩ | ⟨hg, m, hp', r, _, _, hj, h1⟩
      · cases hy with
        | pure hg hp hq hop =>
          rw [if_pos (guardS_spec hr hg)]
          left
          exact hp S.hp hH w0 g ρ w a hr.base (fun x _ => hr.ev x) Q _ fun v g' w' hx hb hv => wpAny_of_aAnyU hK n _ _ g' ρ _ w' h1 (hr.put hb hx hv o.dst)
        | skip hg =>
          rw [if_neg (by rw [guardS_spec hr hg]; simp)]
          exact wpAny_of_aAnyU hK n _ _ g ρ _ w h1 (hr.put hr.base (GExt.refl g) (.of_VR (.val undef)) o.dst)
      · rw [if_pos (guardS_spec hr hg)]
        left
        exact hj S.fr (fun _ _ => rfl) w0 g ρ a w hr Q _ fun g' ρ' a' w' _ hr' => wpAny_of_aAnyU hK n _ _ g' ρ' a' w' h1 hr'

theorem aAnyU_first {i : Nat} {oi : Oper} {qi : PV} (hi : ops[i]? = some oi) (hU : FIN ∉ U) : ∀ (fuel : Nat) (listed : Array Bool) (S : St),
    (∀ j oj, ops[j]? = some oj → j ≠ i → listed.getD j true = false → (∀ e ∈ oj.after, Region.binds .any e = true → e.on ≠ i) → oi.apart ops oj = true ∧ ∀ n, (j, n) ∈ V → n ∈ U) →
    i ∈ Region.ready .any ops listed → ZM P ops U (H U) oi S qi → H U S.hp → aAnyU P ops V H K fuel (listed.setIfInBounds i true) (S.put oi.dst qi) → aAnyU P ops V H K (fuel + 1) listed S := by
  intro fuel
  induction fuel with
  | zero =>
    intro listed S _ hr hy hH H
    refine ⟨fun h => (by rw [h] at hr; cases hr), fun j hj => ?_⟩
    by_cases hji : j = i
    · subst hji; unfold aStU; simp only [hi]; exact .inl ⟨_, _, hy, hH, H⟩
    · have := ready_mono hj hji
      rw [H.1] at this
      cases this
  | succ fuel ih =>
    intro listed S hfree hr hy hH H
    refine ⟨fun h => (by rw [h] at hr; cases hr), fun j hj => ?_⟩
    by_cases hji : j = i
    · subst hji; unfold aStU; simp only [hi]; exact .inl ⟨_, _, hy, hH, H⟩
    · have h1 := H.2 j (ready_mono hj hji)
      obtain ⟨hjun, oj, hoj, hall⟩ := mem_ready.1 hj
      have hnot : ∀ e ∈ oj.after, Region.binds .any e = true → e.on ≠ i := fun e he hb heq => by
        have h1 := hall e he hb
        have h0 := (mem_ready.1 hr).1
        rw [heq] at h1
        rcases Nat.lt_or_ge i listed.size with h' | h'
        · simp [h'] at h0 h1; rw [h0] at h1; cases h1
        · simp [Array.getElem?_eq_none h'] at h1
      have hfree' : ∀ k ok, ops[k]? = some ok → k ≠ i → (listed.setIfInBounds j true).getD k true = false →
          (∀ e ∈ ok.after, Region.binds .any e = true → e.on ≠ i) → oi.apart ops ok = true ∧ ∀ n, (k, n) ∈ V → n ∈ U := fun k ok hk hki hun hno => by
        refine hfree k ok hk hki ?_ hno
        by_cases hjk : j = k
        · subst hjk; exact hjun
        · rw [getD_set_ne true hjk] at hun; exact hun
      obtain ⟨hap, hVU⟩ := hfree j oj hoj hji hjun hnot
      unfold aStU at h1 ⊢
      simp only [hoj] at h1 ⊢
      rcases h1 with ⟨qj, Uj, hyj, hHj, hk⟩ | ⟨hg, m, hp', r, hn, hH', hjs, hk⟩
      · obtain ⟨c1, c2, c3⟩ := ZM.comm2 hap hy hyj
        rw [put_hp] at hHj
        refine .inl ⟨qj, Uj, c1, hHj, ih (listed.setIfInBounds j true) _ hfree' (ready_mono hr (Ne.symm hji)) c2 (by rw [put_hp]; exact hH) ?_⟩
        rw [Array.setIfInBounds_comm _ _ hji, ← c3]
        exact hk
      · obtain ⟨c0, c1, c2, c3⟩ := hy.commJ hap (inVo_U hn hVU) hg hjs
        rw [put_hp] at hH'
        refine .inr ⟨c0, m, hp', r, hn, hH', c1, ih (listed.setIfInBounds j true) _ hfree' (ready_mono hr (Ne.symm hji)) c2 (by unfold appJ; rw [put_hp]; exact hH' U hVU hU hH) ?_⟩
        rw [Array.setIfInBounds_comm _ _ hji, ← c3]
        exact hk

def OpsU (P : Program) (ops : Array Oper) (V : List (Nat × Nat)) (H : List Nat → List HO → Prop) (K : St → Prop) : List (Nat × Option (List Nat)) → St → Prop
  | [], S => K S
  | (i, some U) :: r, S => ∃ o q, ops[i]? = some o ∧ FIN ∉ U ∧ H U S.hp ∧ ZM P ops U (H U) o S q ∧ OpsU P ops V H K r (S.put o.dst q)
  | (i, none) :: r, S => ∃ o, ops[i]? = some o ∧ guardS ops S.fr o = some true ∧ ∃ n hp' q, inVo V i n ∧ keepsU V H i S.hp hp' ∧ JStep P o S.ev S.hp n hp' q ∧ OpsU P ops V H K r (appJ S o n hp' q)

theorem aAnyU_ord : ∀ (l : List (Nat × Option (List Nat))) (listed : Array Bool) (S : St), ordB ops V l listed = true → OpsU P ops V H K l S → aAnyU P ops V H K l.length listed S
  | [], _, _, hB, h => ⟨by simpa [ordB] using hB, h⟩
  | (i, some U) :: l, listed, S, hB, h => by
    simp only [ordB, Bool.and_eq_true] at hB
    obtain ⟨⟨⟨hr, hf⟩, hs⟩, hB'⟩ := hB
    obtain ⟨o, q, h0, hU, hH, hy, h⟩ := h
    exact aAnyU_first h0 hU l.length listed S (fun j oj h1 h2 h3 h4 => ⟨Region.free_spec h0 hf j oj h1 h2 h3 h4, standB_spec hs j oj h1 h2 h3 h4⟩) (by simpa using hr) hy hH (aAnyU_ord l _ _ hB' h)
  | (i, none) :: l, listed, S, hB, h => by
    simp only [ordB, Bool.and_eq_true] at hB
    obtain ⟨hr, hB'⟩ := hB
    have hr' : Region.ready .any ops listed = [i] := by simpa using hr
    obtain ⟨o, h0, hg, n, hp', q, hn, hH', hj, h⟩ := h
    refine ⟨fun e => (by rw [hr'] at e; cases e), fun j hjr => ?_⟩
    rw [hr', List.mem_singleton] at hjr
    subst hjr
    unfold aStU
    simp only [h0]
    exact .inr ⟨hg, n, hp', q, hn, hH', hj, aAnyU_ord l _ _ hB' h⟩

theorem g_region_drawU {id : Nat} {l : List Oper} {K : Exit → St → Prop} {S : St} (ord : List (Nat × Option (List Nat))) (V : List (Nat × Nat)) (H : List Nat → List HO → Prop) (hm : P.follows .mixedOrders = true) (hl : ord.length = l.length) (hB : ordB l.toArray V ord (Array.replicate l.length false) = true)
    (h : OpsU P l.toArray V H (K .normal) ord S) : Goal P (.region id l.toArray true) K S := fun w0 g ρ a w Q hr hQ => by
  refine wp_region_any hm (wpAny_of_aAnyU (K := K .normal) (V := V) (H := H) (fun S' g' ρ' a' w' hk hr' => hQ .normal S' g' ρ' a' w' hk hr') _ _ S g ρ a _ ?_ hr.drew)
  have := aAnyU_ord (P := P) (V := V) (H := H) (K := K .normal) ord (Array.replicate l.length false) S hB h
  rw [hl] at this
  simpa using this
end

section
variable {P : Program} {ops : Array Oper} {U : List Nat} {V : List (Nat × Nat)} {K : St → Prop} {H : List Nat → List HO → Prop} {o : Oper} {i : Nat} {r : List (Nat × Option (List Nat))} {S : St}
theorem u_nil (hk : K S) : OpsU P ops V H K [] S := hk
theorem u_pure {l : List Oper} {q : PV} (h0 : l[i]? = some o) (hg : guardS l.toArray S.fr o = some true) (h : ∀ hp, H U hp → PStep P o S.ev hp q) (hq : okU U q) (ho : ∀ y ∈ o.op.operands, okU U (S.ev y)) (hU : FIN ∉ U) (hH : H U S.hp) (hk : ∃ S', S.put o.dst q = S' ∧ OpsU P l.toArray V H K r S') : OpsU P l.toArray V H K ((i, some U) :: r) S :=
  hk.elim fun _ h' => ⟨o, q, by simpa using h0, hU, hH, .pure hg h hq ho, h'.1 ▸ h'.2⟩
theorem u_eff {l : List Oper} {n : Option Nat} {hp' : List HO} {q : PV} (h0 : l[i]? = some o) (hg : guardS l.toArray S.fr o = some true) (hn : inVo V i n) (h : JStep P o S.ev S.hp n hp' q) (hH : keepsU V H i S.hp hp') (hk : ∃ S', appJ S o n hp' q = S' ∧ OpsU P l.toArray V H K r S') : OpsU P l.toArray V H K ((i, none) :: r) S :=
  hk.elim fun _ h' => ⟨o, by simpa using h0, hg, n, hp', q, hn, hH, h, h'.1 ▸ h'.2⟩
end
end Go.Pv
