/- The law of subdirect decompositions, put together. -/
import Derived.Test.YtbohjibbgppfaaaGreatJTi
namespace Go.Pv
open Go
attribute [local semireducible] Go.Pv.PStep
theorem ps_neqIT {P : Program} {o : Oper} {ev : Operand → PV} {hp : List HO} {t rt : TypeId} {x y : Operand} {a : Int} {k : IntKind} (ho : o.op = .binOp .neq t x y rt) (h1 : ev x = .val (.int k a)) (h2 : ev y = .val (.int k a)) : PStep P o ev hp (B false) := by
  have := ps_neq (P := P) (hp := hp) ho h1 h2
  rwa [decide_eq_true rfl] at this
end Go.Pv
namespace Go.Proofs.YtbohjibbgppfaaaGreat
open Go Go.Pv Go.Proofs
set_option maxHeartbeats 32000000
set_option maxRecDepth 100000
attribute [local bitvec_to_nat] St.put St.setObj St.ev killP killA killP1 killH mapHO renP renA ren1 killG killGA killG1 krowP krowA krow1 lendP lendA lend1 unv pinP pin1 elemsM viewM viewN viewV n_set_z n_set_s n_map_c n_map_n getD_z getD_s n_toNat n_cond_t n_cond_f n_len_c n_len_n n_app_c n_app_n n_take_s n_take_z n_drop_s n_drop_z n_get_z n_get_s view viewA view1 elems Nat.zero_add Nat.add_zero Bool.not_true Bool.not_false Nat.one_ne_zero Nat.mul_one

theorem map_getDT {α β : Type} {f : α → β} {l : List α} {d : α} {e : β} {k : Nat} (h : k < l.length) : (l.map f).getD k e = f (l.getD k d) := by
  rw [List.getD_eq_getElem?_getD, List.getElem?_map, List.getElem?_eq_getElem h, List.getD_eq_getElem?_getD, List.getElem?_eq_getElem h]; rfl
theorem sd_t27 (l : List Int) (hB : bytesOk l) (m : Nat) (ops : List OpD) (L : List (List Int)) (hs : szOk ops) (hm0 : 0 < m) (hm5 : m ≤ 5) (h4 : ops.length ≤ 4) (ho : opsIn m ops) (hg : algOk (m : Int) ops = true) (hL : ∀ p ∈ L, p ∈ irrC m (allL m ops) (allL m ops)) (hl : L.length ≤ m) (hcn : cnt m (mtF m (fullL m) L) = m) :
    Goal Tryz.prog (tailAt 27 (bodyC Tryz.f4)) (KRets [2] [B true]) ⟨zZ (List.replicate 331 .any) [(0, bytesP l), (3, .ptr [I (m : Int), opsP ops]), (8, facP m ops L), (17, intss (blR m L m))], []⟩ := by
  have hpart := sd_t48 l hB
  conv => arg 2; whnf
  simp only [List.replicate_succ, List.replicate_zero]
  dsimp only [zZ, List.set_cons_zero, List.set_cons_succ]
  have hPt : ∀ p ∈ L, Pt m p := fun p hp => fc_pt p (List.mem_filter.1 (hL p hp)).1
  have hRl : ((blR m L m).map ints).length = m := by simp [blR]
  have hRn : (blR m L m).length = m := by simp [blR]
  have hOl : (ops.map opP).length = ops.length := List.length_map _
  have hFl : (L.map fun p => algP ((lstN p m).length : Int) (quoL m p ops)).length = L.length := List.length_map _
  unfold facP
  repeat' (first
| refine wO ?_
| (refine o_go rfl ?_; (first
| refine wS ?_); refine ⟨_, aA, ?_⟩))
  refine g_loopT (α := Nat) (fun x => [(21, I (x : Int))]) (fun _ => []) (fun x => x ≤ m) (fun x => m - x) 0 aF (Nat.zero_le _) ⟨rfl, trivial⟩ rfl ?_
  rintro x hx
  dsimp only [zZ, List.set_cons_zero, List.set_cons_succ]
  by_cases hxm : x < m
  · have rx := rows_at (V := blR m L m) (k := x) (by simpa [blR] using hxm)
    rw [blR_get hxm] at rx
    repeat' (first
| refine wO ?_
| (refine o_go rfl ?_; (first
| refine wS ?_); refine ⟨_, aA, ?_⟩)
| (refine zK rfl (fun hc => ?_) (fun hc => ?_) <;> try (exfalso; omega))
| refine wE ?_)
    all_goals try (exfalso; omega)
    refine g_loopT (α := Nat) (fun y => [(22, I (y : Int))]) (fun _ => []) (fun y => y ≤ m) (fun y => m - y) 0 aF (Nat.zero_le _) ⟨rfl, trivial⟩ rfl ?_
    rintro y hy
    dsimp only [zZ, List.set_cons_zero, List.set_cons_succ]
    by_cases hym : y < m
    · have ry := rows_at (V := blR m L m) (k := y) (by simpa [blR] using hym)
      rw [blR_get hym] at ry
      have e1 := rintsY_c (blX m L x) (blX m L y) (by rw [blX_len]; omega) (by rw [blX_len]; omega)
      by_cases hxy : x = y
      · repeat' (first
| refine wO ?_
| refine zP (by kernel_rfl) (by kernel_rfl) ?_
| (refine o_go rfl ?_; (first
| refine wS ?_
| refine p_p (zN rfl rfl rfl (by omega) aP (by exact rfl)) ?_); refine ⟨_, aA, ?_⟩)
| (refine o_s rfl ?_; refine ⟨_, aA, ?_⟩)
| (refine o_splitN rfl rfl rfl (fun hc => ?_) (fun hc => ?_) <;> dsimp only [List.set_cons_zero, List.set_cons_succ])
| (refine zK rfl (fun hc => ?_) (fun hc => ?_) <;> try (exfalso; omega))
| refine wE ?_)
        all_goals try (exfalso; first | omega | (have hc2 := of_decide_eq_false hc; omega) | (have hc2 := of_decide_eq_true hc; omega))
        refine g_loopT (α := Nat) (fun o => [(23, I (o : Int))]) (fun _ => []) (fun o => o ≤ ops.length) (fun o => ops.length - o) 0 aF (Nat.zero_le _) ⟨rfl, trivial⟩ rfl ?_
        rintro o hoo
        dsimp only [zZ, List.set_cons_zero, List.set_cons_succ]
        by_cases hol : o < ops.length
        · have ro := ops_atT hol
          have hf : ops.getD o default ∈ ops := by rw [List.getD_eq_getElem?_getD, List.getElem?_eq_getElem hol]; exact List.getElem_mem hol
          by_cases h2 : (ops.getD o default).ar = 2
          · have v1 := ivo2_c m ops o x y hs hg hol h2 hxm hym
            obtain ⟨-, -, htl, htv⟩ := ho _ hf
            have hlt : x * m + y < m ^ (ops.getD o default).ar.toNat := by
              rw [h2]
              show x * m + y < m ^ 2
              rw [Nat.pow_two]
              calc x * m + y < x * m + m := by omega
                _ = (x + 1) * m := by rw [Nat.add_mul]; omega
                _ ≤ m * m := Nat.mul_le_mul_right _ hxm
            have hzm := (htv _ hlt).2
            have rz := rows_at (V := blR m L m) (k := bk (ops.getD o default).tb (x * m + y)) (by simpa [blR] using hzm)
            rw [blR_get hzm] at rz
            have step : ∀ i, i < L.length → ∃ (k : Int) (Q : List OpD), (L.map fun p => algP ((lstN p m).length : Int) (quoL m p ops))[((i : Nat) : Int).toNat]? = some (algP k Q) ∧ PCalls Tryz.prog 33 [algP k Q, I (o : Int), ints [(blX m L x).getD i 0, (blX m L y).getD i 0]] (.tup [I ((blX m L (bk (ops.getD o default).tb (x * m + y))).getD i 0), B true]) := fun i hi => by
              obtain ⟨pt, cg, k0, k5, qs, qg, -, -⟩ := fac_facts hm0 hm5 h4 ho (hL _ (rows_mem hi))
              refine ⟨_, _, fac_at hi, ?_⟩
              have hQo : (quoL m (L.getD i []) ops).getD o default = quoF m (L.getD i []) (ops.getD o default) := by
                exact map_getDT hol
              have hv := ivo2_c (lstN (L.getD i []) m).length (quoL m (L.getD i []) ops) o (nmN (L.getD i []) x) (nmN (L.getD i []) y) qs qg (by unfold quoL; rw [List.length_map]; exact hol) (by rw [hQo]; exact h2) (nm_lt pt hxm) (nm_lt pt hym)
              rw [hQo, ← quo_two hm0 pt ho cg hf h2 hxm hym] at hv
              rw [blX_get hxm hi, blX_get hym hi, blX_get hzm hi]
              exact hv
            have hXl := fun z => blX_len m L z
            have ix := fun i (h : i < L.length) => row_atY (p := blX m L x) (x := i) (by rw [hXl]; exact h)
            have iy := fun i (h : i < L.length) => row_atY (p := blX m L y) (x := i) (by rw [hXl]; exact h)
            have iz := fun i (h : i < L.length) => row_atY (p := blX m L (bk (ops.getD o default).tb (x * m + y))) (x := i) (by rw [hXl]; exact h)
            generalize hfe : ops.getD o default = f at *
            obtain ⟨ar, tb⟩ := f
            have h2' : ar = 2 := h2
            subst h2'
            dsimp only at *
            generalize bk tb (x * m + y) = z at *
            have hXx := hXl x
            have hXy := hXl y
            have hXz := hXl z
            have hmx : ((blX m L x).map I).length = L.length := by rw [List.length_map, hXx]
            have hmy : ((blX m L y).map I).length = L.length := by rw [List.length_map, hXy]
            have hmz : ((blX m L z).map I).length = L.length := by rw [List.length_map, hXz]
            generalize blX m L x = X at *
            generalize blX m L y = Y at *
            generalize blX m L z = Z at *
            generalize blR m L m = R at *
            generalize (L.map fun p => algP ((lstN p m).length : Int) (quoL m p ops)) = F at *
            repeat' (first
| refine wO ?_
| (refine o_go rfl ?_; (first
| refine p_p (zN rfl rfl rfl (by omega) ro (by exact rfl)) ?_
| refine p_p (zG rfl rfl aB (v1)) ?_
| refine wS ?_
| refine p_p (ps_load_agg rfl rfl aK) ?_
| refine p_p (ps_lit2 rfl rfl rfl (by rfl) (by rfl) (by rfl)) ?_); refine ⟨_, aA, ?_⟩)
| (refine zK rfl (fun hc => ?_) (fun hc => ?_) <;> try (exfalso; omega))
| refine wE ?_)
            all_goals try (exfalso; first | omega | (have hc2 := of_decide_eq_false hc; omega) | (have hc2 := of_decide_eq_true hc; omega))
            refine g_loopT (α := Nat) (fun i => [(26, I (i : Int))]) (fun _ => []) (fun i => i ≤ L.length) (fun i => L.length - i) 0 aF (Nat.zero_le _) ⟨rfl, trivial⟩ rfl ?_
            rintro i hi
            dsimp only [zZ, List.set_cons_zero, List.set_cons_succ]
            by_cases hil : i < L.length
            · obtain ⟨k, Q, rf, v2⟩ := step i hil
              have jx := ix i hil
              have jy := iy i hil
              have jz := iz i hil
              generalize X.getD i 0 = a at *
              generalize Y.getD i 0 = b at *
              generalize Z.getD i 0 = c at *
              repeat' (first
| refine wO ?_
| refine zP (by kernel_rfl) (by kernel_rfl) ?_
| (refine o_go rfl ?_; (first
| refine p_p (zN rfl rfl rfl (by omega) rf (by exact rfl)) ?_
| refine p_p (zN rfl rfl rfl (by omega) rx (by exact rfl)) ?_
| refine p_p (zN rfl rfl rfl (by omega) ry (by exact rfl)) ?_
| refine p_p (zN rfl rfl rfl (by omega) rz (by exact rfl)) ?_
| refine p_p (zN rfl rfl rfl (by omega) jx (by exact rfl)) ?_
| refine p_p (zN rfl rfl rfl (by omega) jy (by exact rfl)) ?_
| refine p_p (zN rfl rfl rfl (by omega) jz (by exact rfl)) ?_
| refine p_p (zG rfl rfl aB (v2)) ?_
| refine p_p (ps_neqIT rfl rfl rfl) ?_
| refine wS ?_
| refine p_p (ps_load_agg rfl rfl aK) ?_
| refine p_p (ps_len rfl rfl rfl) ?_
| refine p_p (ps_lit2 rfl rfl rfl (by rfl) (by rfl) (by rfl)) ?_); refine ⟨_, aA, ?_⟩)
| (refine zK rfl (fun hc => ?_) (fun hc => ?_) <;> try (exfalso; omega))
| refine wE ?_)
              all_goals try (exfalso; first | omega | (have hc2 := of_decide_eq_false hc; omega) | (have hc2 := of_decide_eq_true hc; omega))
              exact zT (i + 1) (by omega) (by omega) aI ⟨rfl, trivial⟩ (zM _)
            · repeat' (first
| refine wO ?_
| (refine o_go rfl ?_; (first
| refine wS ?_
| refine p_p (ps_len rfl rfl rfl) ?_); refine ⟨_, aA, ?_⟩)
| (refine zK rfl (fun hc => ?_) (fun hc => ?_) <;> try (exfalso; omega))
| refine wE ?_)
              all_goals try (exfalso; omega)
              exact zT (K := fun _ _ => True) (o + 1) (by omega) (by omega) aI ⟨rfl, trivial⟩ (zM _)
          · generalize hfe : ops.getD o default = f at *
            obtain ⟨ar, tb⟩ := f
            dsimp only at h2
            repeat' (first
| refine wO ?_
| (refine o_go rfl ?_; (first
| refine p_p (zN rfl rfl rfl (by omega) ro (by exact rfl)) ?_
| refine wS ?_); refine ⟨_, aA, ?_⟩)
| (refine g_condN rfl (fun hc => ?_) (fun hc => ?_) <;> try (exfalso; omega))
| (refine zK rfl (fun hc => ?_) (fun hc => ?_) <;> try (exfalso; omega))
| refine wE ?_)
            all_goals try (exfalso; omega)
            exact zT (K := fun _ _ => True) (o + 1) (by omega) (by omega) aI ⟨rfl, trivial⟩ (zM _)
        · repeat' (first
| refine wO ?_
| (refine o_go rfl ?_; (first
| refine wS ?_); refine ⟨_, aA, ?_⟩)
| (refine zK rfl (fun hc => ?_) (fun hc => ?_) <;> try (exfalso; omega))
| refine wE ?_)
          all_goals try (exfalso; omega)
          exact zT (K := fun _ _ => True) (y + 1) (by omega) (by omega) aI ⟨rfl, trivial⟩ (zM _)
      · rw [decide_eq_false (blX_ne hPt hcn hxm hym hxy)] at e1
        repeat' (first
| refine wO ?_
| refine zP (by kernel_rfl) (by kernel_rfl) ?_
| (refine o_go rfl ?_; (first
| refine p_p (zN rfl rfl rfl (by omega) rx (by exact rfl)) ?_
| refine p_p (zN rfl rfl rfl (by omega) ry (by exact rfl)) ?_
| refine p_p (zG rfl rfl aB (e1)) ?_
| refine wS ?_); refine ⟨_, aA, ?_⟩)
| (refine o_s rfl ?_; refine ⟨_, aA, ?_⟩)
| (refine o_splitN rfl rfl rfl (fun hc => ?_) (fun hc => ?_) <;> dsimp only [List.set_cons_zero, List.set_cons_succ])
| (refine zK rfl (fun hc => ?_) (fun hc => ?_) <;> try (exfalso; omega))
| refine wE ?_)
        all_goals try (exfalso; first | omega | (have hc2 := of_decide_eq_false hc; omega) | (have hc2 := of_decide_eq_true hc; omega))
        refine g_loopT (α := Nat) (fun o => [(23, I (o : Int))]) (fun _ => []) (fun o => o ≤ ops.length) (fun o => ops.length - o) 0 aF (Nat.zero_le _) ⟨rfl, trivial⟩ rfl ?_
        rintro o hoo
        dsimp only [zZ, List.set_cons_zero, List.set_cons_succ]
        by_cases hol : o < ops.length
        · have ro := ops_atT hol
          have hf : ops.getD o default ∈ ops := by rw [List.getD_eq_getElem?_getD, List.getElem?_eq_getElem hol]; exact List.getElem_mem hol
          by_cases h2 : (ops.getD o default).ar = 2
          · have v1 := ivo2_c m ops o x y hs hg hol h2 hxm hym
            obtain ⟨-, -, htl, htv⟩ := ho _ hf
            have hlt : x * m + y < m ^ (ops.getD o default).ar.toNat := by
              rw [h2]
              show x * m + y < m ^ 2
              rw [Nat.pow_two]
              calc x * m + y < x * m + m := by omega
                _ = (x + 1) * m := by rw [Nat.add_mul]; omega
                _ ≤ m * m := Nat.mul_le_mul_right _ hxm
            have hzm := (htv _ hlt).2
            have rz := rows_at (V := blR m L m) (k := bk (ops.getD o default).tb (x * m + y)) (by simpa [blR] using hzm)
            rw [blR_get hzm] at rz
            have step : ∀ i, i < L.length → ∃ (k : Int) (Q : List OpD), (L.map fun p => algP ((lstN p m).length : Int) (quoL m p ops))[((i : Nat) : Int).toNat]? = some (algP k Q) ∧ PCalls Tryz.prog 33 [algP k Q, I (o : Int), ints [(blX m L x).getD i 0, (blX m L y).getD i 0]] (.tup [I ((blX m L (bk (ops.getD o default).tb (x * m + y))).getD i 0), B true]) := fun i hi => by
              obtain ⟨pt, cg, k0, k5, qs, qg, -, -⟩ := fac_facts hm0 hm5 h4 ho (hL _ (rows_mem hi))
              refine ⟨_, _, fac_at hi, ?_⟩
              have hQo : (quoL m (L.getD i []) ops).getD o default = quoF m (L.getD i []) (ops.getD o default) := by
                exact map_getDT hol
              have hv := ivo2_c (lstN (L.getD i []) m).length (quoL m (L.getD i []) ops) o (nmN (L.getD i []) x) (nmN (L.getD i []) y) qs qg (by unfold quoL; rw [List.length_map]; exact hol) (by rw [hQo]; exact h2) (nm_lt pt hxm) (nm_lt pt hym)
              rw [hQo, ← quo_two hm0 pt ho cg hf h2 hxm hym] at hv
              rw [blX_get hxm hi, blX_get hym hi, blX_get hzm hi]
              exact hv
            have hXl := fun z => blX_len m L z
            have ix := fun i (h : i < L.length) => row_atY (p := blX m L x) (x := i) (by rw [hXl]; exact h)
            have iy := fun i (h : i < L.length) => row_atY (p := blX m L y) (x := i) (by rw [hXl]; exact h)
            have iz := fun i (h : i < L.length) => row_atY (p := blX m L (bk (ops.getD o default).tb (x * m + y))) (x := i) (by rw [hXl]; exact h)
            generalize hfe : ops.getD o default = f at *
            obtain ⟨ar, tb⟩ := f
            have h2' : ar = 2 := h2
            subst h2'
            dsimp only at *
            generalize bk tb (x * m + y) = z at *
            have hXx := hXl x
            have hXy := hXl y
            have hXz := hXl z
            have hmx : ((blX m L x).map I).length = L.length := by rw [List.length_map, hXx]
            have hmy : ((blX m L y).map I).length = L.length := by rw [List.length_map, hXy]
            have hmz : ((blX m L z).map I).length = L.length := by rw [List.length_map, hXz]
            generalize blX m L x = X at *
            generalize blX m L y = Y at *
            generalize blX m L z = Z at *
            generalize blR m L m = R at *
            generalize (L.map fun p => algP ((lstN p m).length : Int) (quoL m p ops)) = F at *
            repeat' (first
| refine wO ?_
| (refine o_go rfl ?_; (first
| refine p_p (zN rfl rfl rfl (by omega) ro (by exact rfl)) ?_
| refine p_p (zG rfl rfl aB (v1)) ?_
| refine wS ?_
| refine p_p (ps_load_agg rfl rfl aK) ?_
| refine p_p (ps_lit2 rfl rfl rfl (by rfl) (by rfl) (by rfl)) ?_); refine ⟨_, aA, ?_⟩)
| (refine zK rfl (fun hc => ?_) (fun hc => ?_) <;> try (exfalso; omega))
| refine wE ?_)
            all_goals try (exfalso; first | omega | (have hc2 := of_decide_eq_false hc; omega) | (have hc2 := of_decide_eq_true hc; omega))
            refine g_loopT (α := Nat) (fun i => [(26, I (i : Int))]) (fun _ => []) (fun i => i ≤ L.length) (fun i => L.length - i) 0 aF (Nat.zero_le _) ⟨rfl, trivial⟩ rfl ?_
            rintro i hi
            dsimp only [zZ, List.set_cons_zero, List.set_cons_succ]
            by_cases hil : i < L.length
            · obtain ⟨k, Q, rf, v2⟩ := step i hil
              have jx := ix i hil
              have jy := iy i hil
              have jz := iz i hil
              generalize X.getD i 0 = a at *
              generalize Y.getD i 0 = b at *
              generalize Z.getD i 0 = c at *
              repeat' (first
| refine wO ?_
| refine zP (by kernel_rfl) (by kernel_rfl) ?_
| (refine o_go rfl ?_; (first
| refine p_p (zN rfl rfl rfl (by omega) rf (by exact rfl)) ?_
| refine p_p (zN rfl rfl rfl (by omega) rx (by exact rfl)) ?_
| refine p_p (zN rfl rfl rfl (by omega) ry (by exact rfl)) ?_
| refine p_p (zN rfl rfl rfl (by omega) rz (by exact rfl)) ?_
| refine p_p (zN rfl rfl rfl (by omega) jx (by exact rfl)) ?_
| refine p_p (zN rfl rfl rfl (by omega) jy (by exact rfl)) ?_
| refine p_p (zN rfl rfl rfl (by omega) jz (by exact rfl)) ?_
| refine p_p (zG rfl rfl aB (v2)) ?_
| refine p_p (ps_neqIT rfl rfl rfl) ?_
| refine wS ?_
| refine p_p (ps_load_agg rfl rfl aK) ?_
| refine p_p (ps_len rfl rfl rfl) ?_
| refine p_p (ps_lit2 rfl rfl rfl (by rfl) (by rfl) (by rfl)) ?_); refine ⟨_, aA, ?_⟩)
| (refine zK rfl (fun hc => ?_) (fun hc => ?_) <;> try (exfalso; omega))
| refine wE ?_)
              all_goals try (exfalso; first | omega | (have hc2 := of_decide_eq_false hc; omega) | (have hc2 := of_decide_eq_true hc; omega))
              exact zT (i + 1) (by omega) (by omega) aI ⟨rfl, trivial⟩ (zM _)
            · repeat' (first
| refine wO ?_
| (refine o_go rfl ?_; (first
| refine wS ?_
| refine p_p (ps_len rfl rfl rfl) ?_); refine ⟨_, aA, ?_⟩)
| (refine zK rfl (fun hc => ?_) (fun hc => ?_) <;> try (exfalso; omega))
| refine wE ?_)
              all_goals try (exfalso; omega)
              exact zT (K := fun _ _ => True) (o + 1) (by omega) (by omega) aI ⟨rfl, trivial⟩ (zM _)
          · generalize hfe : ops.getD o default = f at *
            obtain ⟨ar, tb⟩ := f
            dsimp only at h2
            repeat' (first
| refine wO ?_
| (refine o_go rfl ?_; (first
| refine p_p (zN rfl rfl rfl (by omega) ro (by exact rfl)) ?_
| refine wS ?_); refine ⟨_, aA, ?_⟩)
| (refine g_condN rfl (fun hc => ?_) (fun hc => ?_) <;> try (exfalso; omega))
| (refine zK rfl (fun hc => ?_) (fun hc => ?_) <;> try (exfalso; omega))
| refine wE ?_)
            all_goals try (exfalso; omega)
            exact zT (K := fun _ _ => True) (o + 1) (by omega) (by omega) aI ⟨rfl, trivial⟩ (zM _)
        · repeat' (first
| refine wO ?_
| (refine o_go rfl ?_; (first
| refine wS ?_); refine ⟨_, aA, ?_⟩)
| (refine zK rfl (fun hc => ?_) (fun hc => ?_) <;> try (exfalso; omega))
| refine wE ?_)
          all_goals try (exfalso; omega)
          exact zT (K := fun _ _ => True) (y + 1) (by omega) (by omega) aI ⟨rfl, trivial⟩ (zM _)
    · repeat' (first
| refine wO ?_
| (refine o_go rfl ?_; (first
| refine wS ?_); refine ⟨_, aA, ?_⟩)
| (refine zK rfl (fun hc => ?_) (fun hc => ?_) <;> try (exfalso; omega))
| refine wE ?_)
      all_goals try (exfalso; omega)
      exact zT (K := fun _ _ => True) (x + 1) (by omega) (by omega) aI ⟨rfl, trivial⟩ (zM _)
  · repeat' ((fail_if_success (refine at_reg1 48 ?_)); (first
| refine wO ?_
| (refine o_go rfl ?_; (first
| refine wS ?_); refine ⟨_, aA, ?_⟩)
| (refine zK rfl (fun hc => ?_) (fun hc => ?_) <;> try (exfalso; omega))
| refine g_exit ?_))
    all_goals try (exfalso; omega)
    refine at_reg1 48 ?_
    exact g_tail rfl ⟨aI, zM _⟩ hpart
theorem sd_t22 (l : List Int) (hB : bytesOk l) (m : Nat) (ops : List OpD) (L : List (List Int)) (hs : szOk ops) (hm0 : 0 < m) (hm5 : m ≤ 5) (h4 : ops.length ≤ 4) (ho : opsIn m ops) (hg : algOk (m : Int) ops = true) (hL : ∀ p ∈ L, p ∈ irrC m (allL m ops) (allL m ops)) (hl : L.length ≤ m) (hcn : cnt m (mtF m (fullL m) L) = m) :
    Goal Tryz.prog (tailAt 22 (bodyC Tryz.f4)) (KRets [2] [B true]) ⟨zZ (List.replicate 331 .any) [(0, bytesP l), (3, .ptr [I (m : Int), opsP ops]), (4, intss L), (8, facP m ops L)], []⟩ := by
  have hpart := sd_t27 l hB m ops L hs hm0 hm5 h4 ho hg hL hl hcn
  conv => arg 2; whnf
  simp only [List.replicate_succ, List.replicate_zero]
  dsimp only [zZ, List.set_cons_zero, List.set_cons_succ]
  have hLV : ∀ p ∈ L, p ∈ allL m ops := fun p hp => (List.mem_filter.1 (hL p hp)).1
  have hPt : ∀ p ∈ L, Pt m p := fun p hp => fc_pt p (hLV p hp)
  have hb := acs_of hm0 ho hg (by omega) hLV
  have h1 := iissep_c m ops L hs (by omega) hb hPt (by omega)
  rw [decide_eq_true hcn] at h1
  have h2 := iblk_c m ops L hs hb hm0 hm5 hPt (by omega)
  have h3 := sblk_c m ops L hs hb hm0 (by omega) hLV ho
  have v1 := rtable_c (blR m L m) (by simp [blR]; omega) (fun r hr => by
    obtain ⟨x, -, rfl⟩ := List.mem_map.1 hr
    rw [blX_len]; omega)
  generalize blR m L m = R at *
  generalize facP m ops L = F at *
  repeat' ((fail_if_success (refine at_reg 27 ?_)); (first
| refine wO ?_
| (refine o_go rfl ?_; (first
| refine p_p (zG rfl rfl aB (h1)) ?_
| refine p_p (zG rfl rfl aB (h2)) ?_
| refine p_p (zG rfl rfl aB (h3)) ?_
| refine p_p (zG rfl rfl aB (v1)) ?_
| refine p_p (ps_neqBY rfl rfl rfl (by rfl)) ?_
| refine wS ?_
| refine p_p (ps_load_agg rfl rfl aK) ?_); refine ⟨_, aA, ?_⟩)
| refine zR ?_))
  refine at_reg 27 ?_
  exact g_tail rfl ⟨aI, zM _⟩ hpart
theorem sd_t14 (l : List Int) (hB : bytesOk l) (m : Nat) (ops : List OpD) (L : List (List Int)) (hs : szOk ops) (hm0 : 0 < m) (hm5 : m ≤ 5) (h4 : ops.length ≤ 4) (ho : opsIn m ops) (hg : algOk (m : Int) ops = true) (hL : ∀ p ∈ L, p ∈ irrC m (allL m ops) (allL m ops)) (hl : L.length ≤ m) (hcn : cnt m (mtF m (fullL m) L) = m) :
    Goal Tryz.prog (tailAt 14 (bodyC Tryz.f4)) (KRets [2] [B true]) ⟨zZ (List.replicate 331 .any) [(0, bytesP l), (3, .ptr [I (m : Int), opsP ops]), (4, intss L), (8, facP m ops L), (10, facP m ops L)], []⟩ := by
  have hpart := sd_t22 l hB m ops L hs hm0 hm5 h4 ho hg hL hl hcn
  conv => arg 2; whnf
  simp only [List.replicate_succ, List.replicate_zero]
  dsimp only [zZ, List.set_cons_zero, List.set_cons_succ]
  have hFl : (L.map fun p => algP ((lstN p m).length : Int) (quoL m p ops)).length = L.length := List.length_map _
  have step : ∀ i, i < L.length → ∃ (k : Int) (Q : List OpD), (L.map fun p => algP ((lstN p m).length : Int) (quoL m p ops))[((i : Nat) : Int).toNat]? = some (algP k Q) ∧ PCalls Tryz.prog 28 [algP k Q] (.tup [B true, B true]) ∧ PCalls Tryz.prog 27 [algP k Q, algP k Q] (B true) := fun i hi => by
    obtain ⟨pt, cg, k0, k5, qs, qg, qa, qm⟩ := fac_facts hm0 hm5 h4 ho (hL _ (rows_mem hi))
    exact ⟨_, _, fac_at hi, iirra_c _ _ qs qa qm, ralgV_c _ _ qs⟩
  unfold facP at hpart ⊢
  generalize (L.map fun p => algP ((lstN p m).length : Int) (quoL m p ops)) = F at *
  repeat' (first
| refine wO ?_
| (refine o_go rfl ?_; (first
| refine wS ?_); refine ⟨_, aA, ?_⟩))
  refine g_loopT (α := Nat) (fun i => [(12, I (i : Int))]) (fun _ => []) (fun i => i ≤ L.length) (fun i => L.length - i) 0 aF (Nat.zero_le _) ⟨rfl, trivial⟩ rfl ?_
  rintro i hi
  dsimp only [zZ, List.set_cons_zero, List.set_cons_succ]
  by_cases hil : i < L.length
  · obtain ⟨k, Q, rf, c1, c2⟩ := step i hil
    repeat' (first
| refine wO ?_
| refine zP (by kernel_rfl) (by kernel_rfl) ?_
| (refine o_go rfl ?_; (first
| refine p_p (zN rfl rfl rfl (by omega) rf (by exact rfl)) ?_
| refine p_p (zG rfl rfl aB (c1)) ?_
| refine p_p (zG rfl rfl aB (c2)) ?_
| refine wS ?_
| refine p_p (ps_load_agg rfl rfl aK) ?_
| refine p_p (ps_len rfl rfl rfl) ?_); refine ⟨_, aA, ?_⟩)
| (refine zK rfl (fun hc => ?_) (fun hc => ?_) <;> try (exfalso; omega))
| refine wE ?_)
    all_goals try (exfalso; omega)
    exact zT (i + 1) (by omega) (by omega) aI ⟨rfl, trivial⟩ (zM _)
  · repeat' ((fail_if_success (refine at_reg1 22 ?_)); (first
| refine wO ?_
| (refine o_go rfl ?_; (first
| refine wS ?_
| refine p_p (ps_len rfl rfl rfl) ?_); refine ⟨_, aA, ?_⟩)
| (refine zK rfl (fun hc => ?_) (fun hc => ?_) <;> try (exfalso; omega))
| refine g_exit ?_))
    all_goals try (exfalso; omega)
    refine at_reg1 22 ?_
    exact g_tail rfl ⟨aI, zM _⟩ hpart
theorem law_sd (l : List Int) (hl : l.length ≤ maxLen) (hby : ∀ i, i < l.length → 0 ≤ l.getD i 0 ∧ l.getD i 0 ≤ 255) : PCalls Tryz.prog 4 [bytesP l] (B true) := by
  refine pcalls1 Tryz.func4 rfl Tryz.ntmps4 rfl ?_
  refine wF ?_
  have hv := rbigV_c l (Nat.le_trans hl (by decide))
  by_cases hbig : 65536 < (l.length : Int)
  · rw [decide_eq_true hbig] at hv
    repeat' (first
| refine wO ?_
| (refine o_go rfl ?_; (first
| refine p_p (zG rfl rfl aB (hv)) ?_
| refine wS ?_); refine ⟨_, aA, ?_⟩)
| refine kr1 ?_
| refine krB rfl ?_
| refine wE ?_)
    all_goals rfl
  rw [decide_eq_false hbig] at hv
  have hB : bytesOk l := ⟨by omega, hby⟩
  obtain ⟨n, ops, hsm, hz, d1⟩ := drawSL_c hB
  have hs := hsm.ok
  have a1 := isdl_c n ops hs
  have a2 := ssdl_c n ops hs
  have a3 := isfac_c n ops hs
  have a4 := ssfac_c n ops hs
  cases hb : acB n ops with
  | false =>
    rw [hb] at a1 a2 a3 a4
    have e1 : sbV n ops = [] := by unfold sbV; rw [hb]; rfl
    have e2 : sfP n ops = .sl 2 none [] := by unfold sfP; rw [e1]; rfl
    have v1 := rtable_c [] (by simp) (fun r hr => by cases hr)
    rw [e1] at a1 a2
    rw [e2] at a3 a4
    repeat' (first
| refine g_settle 0 rfl (by dsimp only [setlP, setl1, setlH, bitvec_to_nat, Nat.reduceAdd, Nat.reduceMul, Nat.reduceBEq, reduceCtorEq]) ?_
| refine wO ?_
| (refine o_go rfl ?_; (first
| refine p_p (zG rfl rfl aB (hv)) ?_
| refine p_p (zG rfl rfl aB (d1)) ?_
| refine p_p (zG rfl rfl aB (a1)) ?_
| refine p_p (zG rfl rfl aB (a2)) ?_
| refine p_p (zG rfl rfl aB (a3)) ?_
| refine p_p (zG rfl rfl aB (a4)) ?_
| refine p_p (zG rfl rfl aB (v1)) ?_
| refine p_p (ps_neqBY rfl rfl rfl (by rfl)) ?_
| refine p_p (ps_neqIT rfl rfl rfl) ?_
| refine wS ?_
| refine p_p (ps_load_agg rfl rfl aK) ?_
| refine p_p (ps_len rfl rfl rfl) ?_
| refine p_e rfl (zO rfl rfl rfl rfl aK rfl rfl rfl) ?_
| refine p_e rfl (e_alloc rfl) ?_); refine ⟨_, aA, ?_⟩)
| refine kr1 ?_
| refine krB rfl ?_
| refine wE ?_)
    all_goals rfl
  | true =>
    rw [hb] at a1 a2 a3 a4
    obtain ⟨m, rfl, hm0, hm8, h4, ho, hg, h2⟩ := acB_facts hb
    have hm5 : m ≤ 5 := by unfold szN at hz; omega
    obtain ⟨f1, f2, f3⟩ := sbV_facts hb
    have hpart := sd_t14 l hB m ops (sbV (m : Int) ops) hs hm0 hm5 h4 ho hg f1 f2 f3
    unfold sfP at a3 a4
    rw [Int.toNat_natCast] at a3 a4
    have v1 := rtable_c (sbV (m : Int) ops) (by omega) (fun r hr => by rw [(fc_pt _ (List.mem_filter.1 (f1 r hr)).1).len]; omega)
    have hFl : (((sbV (m : Int) ops).map fun p => algP ((lstN p m).length : Int) (quoL m p ops)).length : Int) = ((sbV (m : Int) ops).length : Int) := by rw [List.length_map]
    unfold facP at a3 a4 hpart
    clear f1 f2 f3
    generalize (sbV (m : Int) ops).map (fun p => algP ((lstN p m).length : Int) (quoL m p ops)) = F at *
    generalize sbV (m : Int) ops = L at *
    repeat' ((fail_if_success (refine at_reg 14 ?_)); (first
| refine g_settle 0 rfl (by dsimp only [setlP, setl1, setlH, bitvec_to_nat, Nat.reduceAdd, Nat.reduceMul, Nat.reduceBEq, reduceCtorEq]) ?_
| refine wO ?_
| (refine o_go rfl ?_; (first
| refine p_p (zG rfl rfl aB (hv)) ?_
| refine p_p (zG rfl rfl aB (d1)) ?_
| refine p_p (zG rfl rfl aB (a1)) ?_
| refine p_p (zG rfl rfl aB (a2)) ?_
| refine p_p (zG rfl rfl aB (a3)) ?_
| refine p_p (zG rfl rfl aB (a4)) ?_
| refine p_p (zG rfl rfl aB (v1)) ?_
| refine p_p (ps_neqBY rfl rfl rfl (by rfl)) ?_
| refine p_p (ps_neqIT rfl rfl rfl) ?_
| refine wS ?_
| refine p_p (ps_load_agg rfl rfl aK) ?_
| refine p_p (ps_len rfl rfl rfl) ?_
| refine p_e rfl (zO rfl rfl rfl rfl aK rfl rfl rfl) ?_
| refine p_e rfl (e_alloc rfl) ?_); refine ⟨_, aA, ?_⟩)
| (refine g_condN rfl (fun hc => ?_) (fun hc => ?_) <;> try (exfalso; omega))
| refine zR ?_))
    all_goals try (exfalso; omega)
    refine at_reg 14 ?_
    exact g_tail rfl ⟨aI, zM _⟩ hpart
end Go.Proofs.YtbohjibbgppfaaaGreat
