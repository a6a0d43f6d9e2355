/- The layer, more: an object that takes another's place. -/
import Derived.Shelf.GgSortMore.Stable
import Derived.Test.YtkdagmbgjddopaaChecked
import Derived.Deep.QuietTactic
import Derived.Test.YtkdagmbgjddopaaJPr
namespace Go.Pv
open Go
attribute [local semireducible] Go.Pv.Goal

def mv1 (i j : Nat) : PV → PV
  | .hp k => bif k == i then .hp j else bif k == j then .any else .hp k
  | .hpv k b c => bif k == i || k == j then .any else .hpv k b c
  | .hat k l => bif k == i || k == j then .any else .hat k l
  | .hatv k l b c => bif k == i || k == j then .any else .hatv k l b c
  | .gr k l => bif k == i || k == j then .any else .gr k l
  | .gat k l m => bif k == i || k == j then .any else .gat k l m
  | p => p
def mvA (i j : Nat) : PV → PV
  | .agg l => .agg (l.map (mv1 i j))
  | p => mv1 i j p
def mvP (i j : Nat) : PV → PV
  | .tup l => .tup (l.map (mvA i j))
  | .agg l => .agg (l.map (mv1 i j))
  | p => mv1 i j p
theorem mvA_map (i j : Nat) : mvA i j = mapA (mv1 i j) := by funext p; cases p <;> rfl
theorem mvP_map (i j : Nat) (p : PV) : mvP i j p = mapT (mv1 i j) p := by cases p <;> first | rfl | simp only [mvP, mapT, mvA_map]
def mvH (i j : Nat) (ho : HO) (hp : List HO) : List HO := ((hp.map (mapHO (mv1 i j))).set j ho).set i .gone
theorem mvH_back {i j : Nat} {ho : HO} {hp : List HO} (hij : i ≠ j) {k : Nat} {y : HO} (h : (mvH i j ho hp)[k]? = some y) : (k = i ∧ y = .gone) ∨ (k = j ∧ y = ho) ∨ (k ≠ i ∧ k ≠ j ∧ ∃ y0, hp[k]? = some y0 ∧ mapHO (mv1 i j) y0 = y) := by
  unfold mvH at h
  by_cases e1 : k = i
  · subst e1
    rw [List.getElem?_set] at h
    simp only [if_true] at h
    split at h
    · exact .inl ⟨rfl, (Option.some.inj h).symm⟩
    · cases h
  · rw [List.getElem?_set_ne (Ne.symm e1)] at h
    by_cases e2 : k = j
    · subst e2
      rw [List.getElem?_set] at h
      simp only [if_true] at h
      split at h
      · exact .inr (.inl ⟨rfl, (Option.some.inj h).symm⟩)
      · cases h
    · rw [List.getElem?_set_ne (Ne.symm e2), List.getElem?_map, Option.map_eq_some_iff] at h
      exact .inr (.inr ⟨e1, e2, h⟩)
theorem mv_arr {i j : Nat} {y : HO} {m : Bool} {s : Nat} {e : TypeId} {l : List PV} (h : mapHO (mv1 i j) y = .arr m s e l) : y = .arr m s e l := by cases y <;> simp_all [mapHO]
theorem mv_grid {i j : Nat} {y : HO} {e1 e2 : TypeId} {l : List (List PV)} (h : mapHO (mv1 i j) y = .grid e1 e2 l) : y = .grid e1 e2 l := by cases y <;> simp_all [mapHO]
theorem mv_pg {i j n : Nat} {y : HO} {e1 e2 : TypeId} {l : List (List PV)} (h : mapHO (mv1 i j) y = .pg e1 e2 n l) : y = .pg e1 e2 n l := by cases y <;> simp_all [mapHO]
theorem mv_sg {i j n : Nat} {y : HO} {e1 e2 : TypeId} {l : List (List PV)} (h : mapHO (mv1 i j) y = .sg e1 e2 n l) : y = .sg e1 e2 n l := by cases y <;> simp_all [mapHO]
theorem mv_box {i j : Nat} {y : HO} {l : List PV} (h : mapHO (mv1 i j) y = .box l) : ∃ l0 : List PV, y = .box l0 ∧ l0.length = l.length := by
  cases y <;> simp [mapHO] at h
  subst h
  exact ⟨_, rfl, by simp⟩
theorem rel_move {w0 : Ini} {S : St} {g : Ghost} {ρ : Nat → Loc} {a : Act} {w : World} (h : Rel w0 S g ρ a w) {i j : Nat} (hij : i ≠ j) {m : Bool} {s : Nat} {e : TypeId} {l : List PV} (hi : S.hp[i]? = some (.arr m s e l)) :
    Rel w0 ⟨S.fr.map (mvP i j), mvH i j (.arr m s e l) S.hp⟩ g (upd ρ j (ρ i)) a w := by
  have hφ : ∀ v p, VRS1 g ρ S.hp v p → VRS1 g (upd ρ j (ρ i)) (mvH i j (.arr m s e l) S.hp) v (mv1 i j p) := fun v p hv => by
    have keep : ∀ {k}, k ≠ i → k ≠ j → HpV ρ S.hp v k → HpV (upd ρ j (ρ i)) (mvH i j (.arr m s e l) S.hp) v k := fun {k} k1 k2 hv =>
      { sl := hv.sl
        arr := fun m s e l hid => by
          rcases mvH_back hij hid with ⟨e, -⟩ | ⟨e, -⟩ | ⟨-, -, y0, h0, h1⟩
          · exact absurd e k1
          · exact absurd e k2
          · rw [upd_ne _ _ k2]; exact hv.arr _ _ _ _ (mv_arr h1 ▸ h0)
        grid := fun e1 e2 rows hid => by
          rcases mvH_back hij hid with ⟨e, -⟩ | ⟨e, -⟩ | ⟨-, -, y0, h0, h1⟩
          · exact absurd e k1
          · exact absurd e k2
          · rw [upd_ne _ _ k2]; exact hv.grid _ _ _ (mv_grid h1 ▸ h0)
        sg := fun e1 e2 n rows hid => by
          rcases mvH_back hij hid with ⟨e, -⟩ | ⟨e, -⟩ | ⟨-, -, y0, h0, h1⟩
          · exact absurd e k1
          · exact absurd e k2
          · rw [upd_ne _ _ k2]; exact hv.sg _ _ _ _ (mv_sg h1 ▸ h0)
        pg := fun e1 e2 n rows hid => by
          rcases mvH_back hij hid with ⟨e, -⟩ | ⟨e, -⟩ | ⟨-, -, y0, h0, h1⟩
          · exact absurd e k1
          · exact absurd e k2
          · rw [upd_ne _ _ k2]; exact hv.pg _ _ _ _ (mv_pg h1 ▸ h0)
        box := fun l' hid => by
          rcases mvH_back hij hid with ⟨e, -⟩ | ⟨e, -⟩ | ⟨-, -, y0, h0, h1⟩
          · exact absurd e k1
          · exact absurd e k2
          · obtain ⟨l0, rfl, hl⟩ := mv_box h1
            rw [upd_ne _ _ k2, ← hl]; exact hv.box _ h0 }
    cases p with
    | hp k =>
      simp only [mv1]
      cases h1 : (k == i) with
      | true =>
        have e1 : k = i := by simpa using h1
        subst e1
        refine (⟨HpV.sl hv, fun m' s' e' l' hid => ?_, fun e1 e2 rows hid => ?_, fun e1 e2 n rows hid => ?_, fun l' hid => ?_, fun e1 e2 n rows hid => ?_⟩ : HpV _ _ _ _)
        · rcases mvH_back hij hid with ⟨e, -⟩ | ⟨-, e⟩ | ⟨-, e, -⟩
          · exact absurd e.symm hij
          · cases e; rw [upd_same]; exact HpV.arr hv _ _ _ _ hi
          · exact absurd rfl e
        · rcases mvH_back hij hid with ⟨e, -⟩ | ⟨-, e⟩ | ⟨-, e, -⟩
          · exact absurd e.symm hij
          · cases e
          · exact absurd rfl e
        · rcases mvH_back hij hid with ⟨e, -⟩ | ⟨-, e⟩ | ⟨-, e, -⟩
          · exact absurd e.symm hij
          · cases e
          · exact absurd rfl e
        · rcases mvH_back hij hid with ⟨e, -⟩ | ⟨-, e⟩ | ⟨-, e, -⟩
          · exact absurd e.symm hij
          · cases e
          · exact absurd rfl e
        · rcases mvH_back hij hid with ⟨e, -⟩ | ⟨-, e⟩ | ⟨-, e, -⟩
          · exact absurd e.symm hij
          · cases e
          · exact absurd rfl e
      | false =>
        cases h2 : (k == j) with
        | true => exact .any v
        | false => exact keep (by simpa using h1) (by simpa using h2) hv
    | hpv k b c =>
      simp only [mv1]
      cases h1 : (k == i || k == j) with
      | true => exact .any v
      | false =>
        simp only [Bool.or_eq_false_iff, beq_eq_false_iff_ne] at h1
        exact ⟨keep h1.1 h1.2 hv.1, by rw [upd_ne _ _ h1.2]; exact hv.2⟩
    | hat k o =>
      simp only [mv1]
      cases h1 : (k == i || k == j) with
      | true => exact .any v
      | false =>
        simp only [Bool.or_eq_false_iff, beq_eq_false_iff_ne] at h1
        show v = _
        rw [upd_ne _ _ h1.2]; exact hv
    | hatv k o b c =>
      simp only [mv1]
      cases h1 : (k == i || k == j) with
      | true => exact .any v
      | false =>
        simp only [Bool.or_eq_false_iff, beq_eq_false_iff_ne] at h1
        show v = _ ∧ _
        rw [upd_ne _ _ h1.2]; exact hv
    | gr k o =>
      simp only [mv1]
      cases h1 : (k == i || k == j) with
      | true => exact .any v
      | false =>
        simp only [Bool.or_eq_false_iff, beq_eq_false_iff_ne] at h1
        refine (⟨GrV.sl hv, fun e1 e2 rows r hid hr => ?_, fun e1 e2 _n rows r hid hr => ?_⟩ : GrV _ _ _ _ _)
        rotate_left
        · rcases mvH_back hij hid with ⟨e, -⟩ | ⟨e, -⟩ | ⟨-, -, y0, h0, h2⟩
          · exact absurd e h1.1
          · exact absurd e h1.2
          · rw [upd_ne _ _ h1.2]; exact GrV.sg hv _ _ _ _ _ (mv_sg h2 ▸ h0) hr
        rcases mvH_back hij hid with ⟨e, -⟩ | ⟨e, -⟩ | ⟨-, -, y0, h0, h2⟩
        · exact absurd e h1.1
        · exact absurd e h1.2
        · rw [upd_ne _ _ h1.2]; exact GrV.grid hv _ _ _ _ (mv_grid h2 ▸ h0) hr
    | gat k o n =>
      simp only [mv1]
      cases h1 : (k == i || k == j) with
      | true => exact .any v
      | false =>
        simp only [Bool.or_eq_false_iff, beq_eq_false_iff_ne] at h1
        show v = _
        rw [upd_ne _ _ h1.2]; exact hv
    | _ => exact hv
  refine ⟨⟨h.base.below, h.base.agree, h.base.old, fun k y hk => ?_, fun k k' y z b hkk hy hz fy fz => ?_⟩, h.dead, by simpa using h.size, fun k p hp => ?_⟩
  · rcases mvH_back hij hk with ⟨-, rfl⟩ | ⟨rfl, rfl⟩ | ⟨k1, k2, y0, h0, rfl⟩
    · trivial
    · rw [upd_same]; exact h.base.own i _ hi
    · rw [upd_ne _ _ k2]
      exact (h.base.own k y0 h0).keep (GExt.refl g) (mv1 i j) hφ fun b _ => ⟨rfl, fun _ => rfl⟩
  · rcases mvH_back hij hy with ⟨-, rfl⟩ | ⟨rfl, rfl⟩ | ⟨k1, k2, y0, h0, rfl⟩
    · exact fy
    · rcases mvH_back hij hz with ⟨-, rfl⟩ | ⟨e', -⟩ | ⟨k1', k2', z0, h0', rfl⟩
      · exact fz
      · exact hkk e'.symm
      · rw [upd_same] at fy
        rw [upd_ne _ _ k2', foot_map] at fz
        exact h.base.sep i k' _ _ b (Ne.symm k1') hi h0' fy fz
    · rw [upd_ne _ _ k2, foot_map] at fy
      rcases mvH_back hij hz with ⟨-, rfl⟩ | ⟨rfl, rfl⟩ | ⟨k1', k2', z0, h0', rfl⟩
      · exact fz
      · rw [upd_same] at fz
        exact h.base.sep k i _ _ b k1 h0 hi fy fz
      · rw [upd_ne _ _ k2', foot_map] at fz
        exact h.base.sep k k' _ _ b hkk h0 h0' fy fz
  · simp only [List.getElem?_map, Option.map_eq_some_iff] at hp
    obtain ⟨p, hp, rfl⟩ := hp
    rw [mvP_map]
    exact (h.fr k p hp).map hφ
theorem g_move {P : Program} {c : Code} {K : Exit → St → Prop} {S : St} (i j : Nat) {m : Bool} {s : Nat} {e : TypeId} {l : List PV} (hij : i ≠ j) (hi : S.hp[i]? = some (.arr m s e l)) (h : ∃ S', St.mk (S.fr.map (mvP i j)) (mvH i j (.arr m s e l) S.hp) = S' ∧ Goal P c K S') : Goal P c K S := by
  obtain ⟨S', rfl, h⟩ := h
  unfold Goal at h ⊢
  intro w0 g ρ a w Q hr hQ
  exact h w0 g _ a w Q (rel_move hr hij hi) hQ
section
attribute [local semireducible] Go.Pv.PStep
theorem j_lit0T {P : Program} {o : Oper} {ev : Operand → PV} {hp : List HO} {t e : TypeId} {s by_ : Nat} [ht : SlT P t e s by_] {zs : List Value} [hz : ZeroT P e zs] (ho : o.op = .buildSlice t 0 #[]) (hs : 0 < s) : JStep P o ev hp (some hp.length) (killH hp.length hp ++ [.arr true s e []]) (.hp hp.length) := fun fr _ =>
  e_lit0T (S := ⟨fr, hp⟩) (ht := ht) ho hs
end
theorem g_freezeP {P : Program} {c : Code} {K : Exit → St → Prop} {S : St} (n : Nat) {s : Nat} {e : TypeId} {l : List PV} (hn : S.hp[n]? = some (.arr true s e l)) (h : ∃ S', St.mk S.fr (S.hp.set n (.arr false s e l)) = S' ∧ Goal P c K S') : Goal P c K S := by
  obtain ⟨S', rfl, h⟩ := h
  unfold Goal at h ⊢
  intro w0 g ρ a w Q hr hQ
  obtain ⟨g', -, hr'⟩ := rel_freeze hr hn
  exact h w0 g' ρ a w Q hr' hQ
theorem g_view1 {P : Program} {c : Code} {K : Exit → St → Prop} {S : St} (i : Nat) (h : ∃ S', St.mk (S.fr.set i (view S.hp (S.fr.getD i .any))) S.hp = S' ∧ Goal P c K S') : Goal P c K S := by
  obtain ⟨S', rfl, h⟩ := h
  unfold Goal at h ⊢
  intro w0 g ρ a w Q hr hQ
  refine h w0 g ρ a w Q ⟨hr.base, hr.dead, by simpa using hr.size, fun k p hp => ?_⟩ hQ
  rw [List.getElem?_set] at hp
  split at hp
  · rename_i e
    subst e
    split at hp
    · rename_i hlt
      cases hp
      have := hr.fr i _ (List.getElem?_eq_getElem hlt)
      rw [List.getD_eq_getElem?_getD, List.getElem?_eq_getElem hlt]
      exact .of_VR (hr.base.view this)
    · cases hp
  · exact hr.fr k p hp
end Go.Pv
/- The library's sort lies in this program: the numbers and the kit's list of facts. -/
namespace Go.Proofs.Ytkdagmbgjddopaa
open Go Go.Proofs Go.Shelf

def sl8_ren : Go.Shelf.Ren := ⟨fun | 8 => 99 | 13 => 106 | 14 => 107 | 16 => 109 | 15 => 108 | 29 => 120 | 30 => 121 | 42 => 122 | 49 => 123 | n => n, fun | 20 => 20 | 26 => 59 | 36 => 115 | 0 => 0 | 38 => 117 | 42 => 121 | 3 => 3 | 4 => 4 | 47 => 108 | 17 => 17 | 33 => 112 | 34 => 113 | 89 => 142 | 12 => 12 | 56 => 134 | 82 => 135 | 5 => 5 | 83 => 136 | 84 => 137 | 85 => 138 | 86 => 139 | 87 => 140 | n => n, fun  | n => n⟩
theorem sl8 : LaysGt.n8 Try.prog sl8_ren := {
  mixed := by kernel_rfl
  f8 := Try.func99.trans (congrArg some (by kernel_rfl))
  f13 := Try.func106.trans (congrArg some (by kernel_rfl))
  f14 := Try.func107.trans (congrArg some (by kernel_rfl))
  f15 := Try.func108.trans (congrArg some (by kernel_rfl))
  f16 := Try.func109.trans (congrArg some (by kernel_rfl))
  f29 := Try.func120.trans (congrArg some (by kernel_rfl))
  f30 := Try.func121.trans (congrArg some (by kernel_rfl))
  f42 := Try.func122.trans (congrArg some (by kernel_rfl))
  f49 := Try.func123.trans (congrArg some (by kernel_rfl))
  t0 := Try.underlying0
  a0 := Try.isAgg0
  z0 := Try.sizeOf0
  v0 := Try.zeroValue0
  i0 := by kernel_rfl
  t3 := Try.underlying3
  a3 := Try.isAgg3
  z3 := Try.sizeOf3
  v3 := Try.zeroValue3
  i3 := by kernel_rfl
  t4 := Try.underlying4
  a4 := Try.isAgg4
  z4 := Try.sizeOf4
  v4 := Try.zeroValue4
  i4 := by kernel_rfl
  t5 := Try.underlying5
  a5 := Try.isAgg5
  z5 := Try.sizeOf5
  v5 := Try.zeroValue5
  i5 := by kernel_rfl
  t12 := Try.underlying12
  a12 := Try.isAgg12
  z12 := Try.sizeOf12
  v12 := Try.zeroValue12
  i12 := by kernel_rfl
  t17 := Try.underlying17
  a17 := Try.isAgg17
  z17 := Try.sizeOf17
  v17 := Try.zeroValue17
  i17 := by kernel_rfl
  t20 := Try.underlying20
  a20 := Try.isAgg20
  z20 := Try.sizeOf20
  v20 := Try.zeroValue20
  i20 := by kernel_rfl
  t26 := Try.underlying59
  a26 := Try.isAgg59
  z26 := Try.sizeOf59
  v26 := Try.zeroValue59
  i26 := by kernel_rfl
  t33 := Try.underlying112
  a33 := Try.isAgg112
  z33 := Try.sizeOf112
  v33 := Try.zeroValue112
  i33 := by kernel_rfl
  t34 := Try.underlying113
  a34 := Try.isAgg113
  z34 := Try.sizeOf113
  v34 := Try.zeroValue113
  i34 := by kernel_rfl
  t36 := Try.underlying115
  a36 := Try.isAgg115
  z36 := Try.sizeOf115
  v36 := Try.zeroValue115
  i36 := by kernel_rfl
  t38 := Try.underlying117
  a38 := Try.isAgg117
  z38 := Try.sizeOf117
  v38 := Try.zeroValue117
  i38 := by kernel_rfl
  t42 := Try.underlying121
  a42 := Try.isAgg121
  z42 := Try.sizeOf121
  v42 := Try.zeroValue121
  i42 := by kernel_rfl
  t47 := Try.underlying108
  a47 := Try.isAgg108
  z47 := Try.sizeOf108
  v47 := Try.zeroValue108
  i47 := by kernel_rfl
  t56 := Try.underlying134
  a56 := Try.isAgg134
  z56 := Try.sizeOf134
  v56 := Try.zeroValue134
  i56 := by kernel_rfl
  t82 := Try.underlying135
  a82 := Try.isAgg135
  z82 := Try.sizeOf135
  v82 := Try.zeroValue135
  i82 := by kernel_rfl
  t83 := Try.underlying136
  a83 := Try.isAgg136
  z83 := Try.sizeOf136
  v83 := Try.zeroValue136
  i83 := by kernel_rfl
  t84 := Try.underlying137
  a84 := Try.isAgg137
  z84 := Try.sizeOf137
  v84 := Try.zeroValue137
  i84 := by kernel_rfl
  t85 := Try.underlying138
  a85 := Try.isAgg138
  z85 := Try.sizeOf138
  v85 := Try.zeroValue138
  i85 := by kernel_rfl
  t86 := Try.underlying139
  a86 := Try.isAgg139
  z86 := Try.sizeOf139
  v86 := Try.zeroValue139
  i86 := by kernel_rfl
  t87 := Try.underlying140
  a87 := Try.isAgg140
  z87 := Try.sizeOf140
  v87 := Try.zeroValue140
  i87 := by kernel_rfl
  t89 := Try.underlying142
  a89 := Try.isAgg142
  z89 := Try.sizeOf142
  v89 := Try.zeroValue142
  i89 := by kernel_rfl }
end Go.Proofs.Ytkdagmbgjddopaa
/- The comparison that the program sorts by: it reads and draws only. -/
namespace Go.Proofs.Ytkdagmbgjddopaa
open Go Go.Proofs Go.Shelf Go.RowKit Go.Lib Go.Sort
set_option maxHeartbeats 32000000
set_option maxRecDepth 100000

theorem one_one {p : Pv.PV} (h : p.one = true) : ∀ q ∈ [p], ∀ c, q.flat = some c → (c.all Pv.PV.one) = true := Pv.one_one h

theorem cmpLists_q (w : World) (bs bt cs ct : Nat) (s t : List Int) (hs : ∀ k, k < s.length → w.cell? ⟨bs, k, none⟩ = some (.int .i64 (s.getD k 0))) (ht : ∀ k, k < t.length → w.cell? ⟨bt, k, none⟩ = some (.int .i64 (t.getD k 0))) (hls : s.length ≤ 1048576) (hlt : t.length ≤ 1048576) :
    Calls Try.prog 102 #[.slice (some ⟨bs, 0, none⟩) s.length cs, .slice (some ⟨bt, 0, none⟩) t.length ct] w fun e w' => e = .returned (.int .i64 (cmpX s t)) ∧ ∃ q, w' = w.drewN q := by
  go_enter Try.func102, Try.ntmps102
  go_wp2
  go_loopw [5] (fun vi wr => ∃ (i n : Nat), vi = .int .i64 i ∧ i ≤ s.length ∧ i ≤ t.length ∧ wr = w.drewN n ∧ cmpX (s.drop i) (t.drop i) = cmpX s t) (fun vi _ => s.length - (intOf vi).toNat)
  case atStart => exact ⟨0, 0, by go_num, Nat.zero_le _, Nat.zero_le _, rfl, rfl⟩
  case round =>
    obtain ⟨i, n, rfl, hi, hj, rfl, hc⟩ := hrel
    by_cases h1 : i < s.length
    · have ci := hs i h1
      have es := drop_cons' 0 h1
      by_cases h2 : i < t.length
      · have cj := ht i h2
        have et := drop_cons' 0 h2
        rw [es, et] at hc
        generalize s.getD i 0 = x at ci hc
        generalize t.getD i 0 = y at cj hc
        have Hc : Hid (cmpX (x :: s.drop (i + 1)) (y :: t.drop (i + 1)) = cmpX s t) := hc
        clear hc es et hs ht
        by_cases he : x = y
        · subst he
          go_wp2
          go_quiet (fail)
          go_wp2
          case roundEnd => exact ⟨⟨i + 1, n + nq, by go_num, by omega, by omega, rfl, by have := Hc.out; simpa only [cmpX, if_true] using this⟩, by simp [intOf]; omega⟩
        · go_wp2
          go_quiet (fail)
          rw [show (x != y) = true by simp [he]]
          go_wp2
          go_quiet (fail)
          by_cases hlt : x < y
          · rw [decide_eq_true hlt]
            have hv : cmpX s t = -1 := by have := Hc.out; simp only [cmpX, if_neg he, if_pos hlt] at this; exact this.symm
            go_wp2
            go_ret
            try rw [hv]
            first | exact ⟨rfl, _, rfl⟩ | exact ⟨rfl, _, by rw [World.drewN_drewN, World.drewN_drewN]⟩
          · rw [decide_eq_false hlt]
            have hv : cmpX s t = 1 := by have := Hc.out; simp only [cmpX, if_neg he, if_neg hlt] at this; exact this.symm
            go_wp2
            go_ret
            try rw [hv]
            first | exact ⟨rfl, _, rfl⟩ | exact ⟨rfl, _, by rw [World.drewN_drewN, World.drewN_drewN]⟩
      · have hv : cmpX s t = 1 := by rw [es, List.drop_of_length_le (Nat.le_of_not_lt h2)] at hc; exact hc.symm
        clear hc es hs ht ci
        go_wp2
        all_goals first | (exfalso; omega) | (go_ret; rw [hv]; exact ⟨rfl, _, rfl⟩)
    · by_cases h2 : i < t.length
      · have hv : cmpX s t = -1 := by rw [drop_cons' 0 h2, List.drop_of_length_le (Nat.le_of_not_lt h1)] at hc; exact hc.symm
        clear hc hs ht
        go_wp2
        all_goals first | (exfalso; omega) | (go_ret; rw [hv]; exact ⟨rfl, _, rfl⟩)
      · have hv : cmpX s t = 0 := by rw [List.drop_of_length_le (Nat.le_of_not_lt h2), List.drop_of_length_le (Nat.le_of_not_lt h1)] at hc; exact hc.symm
        clear hc hs ht
        go_wp2
        all_goals first | (exfalso; omega) | (go_ret; rw [hv]; exact ⟨rfl, _, rfl⟩)
end Go.Proofs.Ytkdagmbgjddopaa
