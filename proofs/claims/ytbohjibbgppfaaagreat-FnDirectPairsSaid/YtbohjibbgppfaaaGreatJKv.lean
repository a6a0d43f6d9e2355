/- Lemmas of the proof. No condition. -/
import Derived.Laws.Small
import Derived.Test.YtbohjibbgppfaaaGreatJKn
import Derived.Test.YtbohjibbgppfaaaGreatJNb
import Derived.Test.YtbohjibbgppfaaaGreatJSq
import Derived.Test.YtbohjibbgppfaaaGreatJAr
import Derived.Test.YtbohjibbgppfaaaGreatJKd
import Derived.Test.YtbohjibbgppfaaaGreatJKl
import Derived.Test.YtbohjibbgppfaaaGreatJNh
set_option linter.unusedSectionVars false
namespace Go.Pv
open Go
attribute [local semireducible] Go.Pv.EStep
section
variable {P : Program} {o : Oper} {S : St}
theorem e_lit1N {t e : TypeId} {by_ : Nat} [ht : SlT P t e 1 by_] {zs : List Value} [hz : ZeroT P e zs] {x : Operand} {p : PV} (ho : o.op = .buildSlice t 1 #[(0, x)]) (h1 : view S.hp (S.ev x) = p) (hp1 : p.one = true) :
 EStep P o S (S.setObj S.hp.length (killH S.hp.length S.hp ++ [.arr false 1 e [p]]) o.dst (.hp S.hp.length)) :=
 e_buildSlice (ht := ht) (hz := hz) ho rfl rfl (by simp [elems, h1]) ⟨⟨[p], flat_one hp1, rfl⟩, trivial⟩ (by decide) (by decide)
end
end Go.Pv
namespace Go.Proofs.YtbohjibbgppfaaaGreat
open Go Go.Pv Go.Proofs
theorem hp2 {x y : HO} {a b : List HO} (h : hpLe a b) : hpLe (x :: y :: a) (x :: y :: b) := zB rfl (zB rfl h)
end Go.Proofs.YtbohjibbgppfaaaGreat
namespace Go.Proofs.YtbohjibbgppfaaaGreat
open Go Go.Pv Go.Proofs
def mapI (k m : Nat) (g : Nat → Nat) : Nat → Nat → Nat
 | 0, _ => 0
 | a + 1, i => mapI k m g a (i / k) * m + g (i % k)
theorem mapI_lt {k m : Nat} {g : Nat → Nat} (hk : 0 < k) (hg : ∀ x, x < k → g x < m) : ∀ a i, mapI k m g a i < m ^ a
 | 0, _ => by simp [mapI]
 | a + 1, i => by
  have h1 := mapI_lt hk hg a (i / k)
  have h2 := hg (i % k) (Nat.mod_lt _ hk)
  show mapI k m g a (i / k) * m + g (i % k) < m ^ (a + 1)
  calc mapI k m g a (i / k) * m + g (i % k) < mapI k m g a (i / k) * m + m := by omega
   _ = (mapI k m g a (i / k) + 1) * m := by rw [Nat.add_mul]; omega
   _ ≤ m ^ a * m := Nat.mul_le_mul_right _ h1
   _ = m ^ (a + 1) := by rw [Nat.pow_succ]
theorem mapI_div {k m : Nat} {g : Nat → Nat} (hk : 0 < k) (hg : ∀ x, x < k → g x < m) (a i : Nat) : mapI k m g (a + 1) i / m = mapI k m g a (i / k) := by
 have h2 := hg (i % k) (Nat.mod_lt _ hk)
 show (mapI k m g a (i / k) * m + g (i % k)) / m = _
 rw [Nat.mul_comm, Nat.mul_add_div (by omega), Nat.div_eq_of_lt h2, Nat.add_zero]
theorem mapI_mod {k m : Nat} {g : Nat → Nat} (hk : 0 < k) (hg : ∀ x, x < k → g x < m) (a i : Nat) : mapI k m g (a + 1) i % m = g (i % k) := by
 have h2 := hg (i % k) (Nat.mod_lt _ hk)
 show (mapI k m g a (i / k) * m + g (i % k)) % m = _
 rw [Nat.mul_comm, Nat.mul_add_mod, Nat.mod_eq_of_lt h2]
theorem dig_succ (n i j : Nat) : digN n i (j + 1) = digN n (i / n) j := by
 unfold digN
 rw [Nat.pow_succ', Nat.div_div_eq_div_mul]
theorem dig_zero (n i : Nat) : digN n i 0 = i % n := by unfold digN; rw [Nat.pow_zero, Nat.div_one]
theorem sub_zero (n i v : Nat) : subN n i 0 v = i / n * n + v := by
 unfold subN; rw [Nat.pow_zero, Nat.div_one, Nat.mul_one, Nat.mod_one, Nat.add_zero]
theorem mapI_map {k m l : Nat} {g h : Nat → Nat} (hk : 0 < k) (hg : ∀ x, x < k → g x < m) : ∀ a i, mapI m l h a (mapI k m g a i) = mapI k l (fun x => h (g x)) a i
 | 0, _ => rfl
 | a + 1, i => by
  show mapI m l h a (mapI k m g (a + 1) i / m) * l + h (mapI k m g (a + 1) i % m) = _
  rw [mapI_div hk hg, mapI_mod hk hg, mapI_map hk hg a (i / k)]; rfl
theorem mapI_congr {k m : Nat} {g h : Nat → Nat} (hk : 0 < k) (e : ∀ x, x < k → g x = h x) : ∀ a i, mapI k m g a i = mapI k m h a i
 | 0, _ => rfl
 | a + 1, i => by
  show mapI k m g a (i / k) * m + g (i % k) = mapI k m h a (i / k) * m + h (i % k)
  rw [mapI_congr hk e a (i / k), e _ (Nat.mod_lt _ hk)]
theorem idx_mapI {k m : Nat} {g : Nat → Nat} {G : Int → Int} (hk : 0 < k) (hG : ∀ x, x < k → G (x : Int) = (g x : Int)) : ∀ a i, idxL m ((argsL k a i).map G) = (mapI k m g a i : Int)
 | 0, _ => rfl
 | a + 1, i => by
  have e : argsL k (a + 1) i = argsL k a (i / k) ++ [((i % k : Nat) : Int)] := rfl
  rw [e, List.map_append, List.map_cons, List.map_nil, idxL_snoc, idx_mapI hk hG a (i / k), hG _ (Nat.mod_lt _ hk), ← Int.natCast_mul, ← Int.natCast_add]; rfl
theorem keeps_all {m : Nat} (hm : 0 < m) {R : Nat → Nat → Prop} {Q : Nat → Nat → Prop} (hQ : Equivalence Q) {g : Nat → Nat} (hg : ∀ x, x < m → g x < m) (hR : ∀ x, x < m → R x (g x)) :
 ∀ (a : Nat) (F : Nat → Nat), (∀ i, i < m ^ a → ∀ j, j < a → ∀ v, v < m → R (digN m i j) v → Q (F i) (F (subN m i j v))) → ∀ i, i < m ^ a → Q (F i) (F (mapI m m g a i))
 | 0, F, _, i, hi => by
  have : i = 0 := by simpa using hi
  subst this; exact hQ.refl _
 | a + 1, F, h, i, hi => by
  have hi' : i / m < m ^ a := Nat.div_lt_of_lt_mul (by rw [Nat.mul_comm, ← Nat.pow_succ]; exact hi)
  have hd : i % m < m := Nat.mod_lt _ hm
  have e0 : subN m i 0 (g (i % m)) = i / m * m + g (i % m) := sub_zero _ _ _
  have h1 := h i hi 0 (by omega) (g (i % m)) (hg _ hd) (by rw [dig_zero]; exact hR _ hd)
  rw [e0] at h1
  have hlo := hg _ hd
  have ih := keeps_all hm hQ hg hR a (fun q => F (q * m + g (i % m))) (fun q hq j hj v hv hr => by
   have hb : q * m + g (i % m) < m ^ (a + 1) := by
    calc q * m + g (i % m) < q * m + m := by omega
     _ = (q + 1) * m := by rw [Nat.add_mul]; omega
     _ ≤ m ^ a * m := Nat.mul_le_mul_right _ hq
     _ = m ^ (a + 1) := by rw [Nat.pow_succ]
   have hq1 : (q * m + g (i % m)) / m = q := by rw [Nat.mul_comm, Nat.mul_add_div hm, Nat.div_eq_of_lt hlo, Nat.add_zero]
   have hq2 : (q * m + g (i % m)) % m = g (i % m) := by rw [Nat.mul_comm, Nat.mul_add_mod, Nat.mod_eq_of_lt hlo]
   have := h _ hb (j + 1) (by omega) v hv (by rw [dig_succ, hq1]; exact hr)
   rw [← sub_succ, hq1, hq2] at this
   exact this) (i / m) hi'
  exact hQ.trans h1 ih
def lstN (p : List Int) (k : Nat) : List Nat := (List.range k).filter fun x => decide (bk p x = x)
def nmN (p : List Int) (x : Nat) : Nat := (lstN p (bk p x)).length
theorem lstN_succ (p : List Int) (k : Nat) : lstN p (k + 1) = lstN p k ++ if bk p k = k then [k] else [] := by
 unfold lstN
 rw [List.range_succ, List.filter_append]
 congr 1
 by_cases h : bk p k = k
 · rw [if_pos h]; simp [h]
 · rw [if_neg h]; simp [h]
theorem lstN_mem {p : List Int} {k x : Nat} : x ∈ lstN p k ↔ x < k ∧ bk p x = x := by
 unfold lstN; rw [List.mem_filter, List.mem_range, decide_eq_true_eq]
theorem lstN_le (p : List Int) (k : Nat) : (lstN p k).length ≤ k := by
 unfold lstN; exact Nat.le_trans (List.length_filter_le _ _) (by simp)
theorem lstN_split (p : List Int) {k n : Nat} (h : k ≤ n) : ∃ l, lstN p n = lstN p k ++ l := by
 induction n with
 | zero => obtain rfl : k = 0 := by omega
           exact ⟨[], by simp⟩
 | succ n ih =>
  by_cases e : k = n + 1
  · subst e; exact ⟨[], by simp⟩
  · obtain ⟨l, hl⟩ := ih (by omega)
    rw [lstN_succ, hl, List.append_assoc]
    exact ⟨_, rfl⟩
theorem lstN_at {p : List Int} {k n : Nat} (h : k < n) (hk : bk p k = k) : (lstN p n)[(lstN p k).length]? = some k := by
 obtain ⟨l, hl⟩ := lstN_split p (show k + 1 ≤ n by omega)
 rw [hl, lstN_succ, if_pos hk, List.append_assoc, List.getElem?_append_right (Nat.le_refl _), Nat.sub_self]; rfl
theorem lstN_getD {p : List Int} {k n : Nat} (h : k < n) (hk : bk p k = k) : (lstN p n).getD (lstN p k).length 0 = k := by
 rw [List.getD_eq_getElem?_getD, lstN_at h hk]; rfl
section
variable {n : Nat} {p : List Int} (hp : Pt n p)
include hp
theorem nm_lt {x : Nat} (hx : x < n) : nmN p x < (lstN p n).length := (List.getElem?_eq_some_iff.1 (lstN_at (hp.lt hx) (hp.id x hx))).1
theorem lst_nm {x : Nat} (hx : x < n) : (lstN p n).getD (nmN p x) 0 = bk p x := lstN_getD (hp.lt hx) (hp.id x hx)
theorem lst_in {i : Nat} (hi : i < (lstN p n).length) : (lstN p n).getD i 0 < n ∧ bk p ((lstN p n).getD i 0) = (lstN p n).getD i 0 := by
 have : (lstN p n).getD i 0 ∈ lstN p n := by rw [List.getD_eq_getElem?_getD, List.getElem?_eq_getElem hi]; exact List.getElem_mem _
 exact lstN_mem.1 this
theorem nm_lst {i : Nat} (hi : i < (lstN p n).length) : nmN p ((lstN p n).getD i 0) = i := by
 obtain ⟨h1, h2⟩ := lst_in hp hi
 have h3 := nm_lt hp h1
 have h4 := lst_nm hp h1
 rw [h2] at h4
 have hnd : (lstN p n).Nodup := List.nodup_range.sublist List.filter_sublist
 have hpw := List.pairwise_iff_getElem.1 hnd
 generalize nmN p ((lstN p n).getD i 0) = k at *
 have ek : (lstN p n).getD k 0 = (lstN p n)[k] := by rw [List.getD_eq_getElem?_getD, List.getElem?_eq_getElem h3]; rfl
 have ei : (lstN p n).getD i 0 = (lstN p n)[i] := by rw [List.getD_eq_getElem?_getD, List.getElem?_eq_getElem hi]; rfl
 rw [ek, ei] at h4
 rcases Nat.lt_trichotomy k i with h | h | h
 · exact absurd h4 (hpw _ _ h3 hi h)
 · exact h
 · exact absurd h4.symm (hpw _ _ hi h3 h)
theorem nm_eq {x y : Nat} (hx : x < n) (hy : y < n) : nmN p x = nmN p y ↔ bk p x = bk p y := by
 constructor
 · intro h
   rw [← lst_nm hp hx, ← lst_nm hp hy, h]
 · intro h; unfold nmN; rw [h]
theorem lst_pos (hn : 0 < n) : 0 < (lstN p n).length := Nat.lt_of_le_of_lt (Nat.zero_le _) (nm_lt hp hn)
end
def quoC (n : Nat) (p : List Int) (f : OpD) (i : Nat) : Nat := nmN p (bk f.tb (mapI (lstN p n).length n (fun x => (lstN p n).getD x 0) f.ar.toNat i))
def quoT (n : Nat) (p : List Int) (f : OpD) (k : Nat) : List Int := (List.range k).map fun i => (quoC n p f i : Int)
def quoF (n : Nat) (p : List Int) (f : OpD) : OpD := ⟨f.ar, quoT n p f ((lstN p n).length ^ f.ar.toNat)⟩
def quoL (n : Nat) (p : List Int) (ops : List OpD) : List OpD := ops.map (quoF n p)
theorem quoT_len (n : Nat) (p : List Int) (f : OpD) (k : Nat) : (quoT n p f k).length = k := by simp [quoT]
theorem quoT_succ (n : Nat) (p : List Int) (f : OpD) (k : Nat) : quoT n p f (k + 1) = quoT n p f k ++ [(quoC n p f k : Int)] := by
 unfold quoT; rw [List.range_succ, List.map_append]; rfl
section
variable {n : Nat} {p : List Int} {ops : List OpD} (hn : 0 < n) (hp : Pt n p) (ho : opsIn n ops)
include hn hp ho
omit hn ho in
theorem quo_g : ∀ x, x < (lstN p n).length → (fun x => (lstN p n).getD x 0) x < n := fun _ hx => (lst_in hp hx).1
omit ho in
theorem quo_idx (a i : Nat) : mapI (lstN p n).length n (fun x => (lstN p n).getD x 0) a i < n ^ a := mapI_lt (lst_pos hp hn) (quo_g hp) a i
theorem quoC_lt {f : OpD} (hf : f ∈ ops) (i : Nat) : quoC n p f i < (lstN p n).length := nm_lt hp (((ho f hf).2.2.2 _ (quo_idx hn hp _ i)).2)
omit hn hp ho in
theorem quo_bk {f : OpD} {i : Nat} (hi : i < (lstN p n).length ^ f.ar.toNat) : bk (quoF n p f).tb i = quoC n p f i := by
 unfold bk quoF quoT
 dsimp only
 rw [List.getD_eq_getElem?_getD, List.getElem?_map, List.getElem?_range hi]; rfl
theorem quo_in : opsIn (lstN p n).length (quoL n p ops) := fun F hF => by
 obtain ⟨f, hf, rfl⟩ := List.mem_map.1 hF
 obtain ⟨h0, h3, hl, -⟩ := ho f hf
 refine ⟨h0, h3, quoT_len _ _ _ _, fun i hi => ?_⟩
 have hi : i < (lstN p n).length ^ f.ar.toNat := hi
 rw [quo_bk hi]
 have hlt := quoC_lt hn hp ho hf i
 refine ⟨?_, hlt⟩
 show 0 ≤ (quoT _ _ _ _).getD i 0
 unfold quoT
 rw [List.getD_eq_getElem?_getD, List.getElem?_map, List.getElem?_range hi]
 exact Int.natCast_nonneg _
theorem quo_hom (hc : Cong n ops p) {f : OpD} (hf : f ∈ ops) {i : Nat} (hi : i < n ^ f.ar.toNat) : nmN p (bk f.tb i) = bk (quoF n p f).tb (mapI n (lstN p n).length (nmN p) f.ar.toNat i) := by
 have hk := lst_pos hp hn
 have hg := fun x (hx : x < n) => nm_lt hp hx
 have hin := fun i hi => ((ho f hf).2.2.2 i hi).2
 rw [quo_bk (mapI_lt hn hg _ i)]
 unfold quoC
 rw [mapI_map hn hg]
 have e : ∀ x, x < n → (fun x => (lstN p n).getD (nmN p x) 0) x = bk p x := fun x hx => lst_nm hp hx
 rw [mapI_congr hn e, nm_eq hp (hin i hi) (hin _ (mapI_lt hn (fun x hx => hp.lt hx) _ i))]
 exact keeps_all hn (R := fun a b => bk p a = bk p b) (Q := fun a b => bk p a = bk p b) ⟨fun _ => rfl, fun h => h.symm, fun h g => h.trans g⟩ (fun x hx => hp.lt hx) (fun x hx => (hp.id x hx).symm) f.ar.toNat (fun i => bk f.tb i) (fun i hi j hj v hv hr => by
  have h1 := (cong_keeps hp).1 hc f hf i hi j hj (digN n i j) v (Nat.mod_lt _ hn) hv hr
  rwa [subN_self] at h1) i hi
end
end Go.Proofs.YtbohjibbgppfaaaGreat
namespace Go.Proofs.YtbohjibbgppfaaaGreat
open Go Go.Pv Go.Proofs
theorem pt_R {n : Nat} {p q : List Int} (hp : Pt n p) (hq : Pt n q) (h : ∀ x y, x < n → y < n → (bk p x = bk p y ↔ bk q x = bk q y)) : p = q :=
 fi_antisymm hp hq ((fi_iff hp).2 fun x y hx hy he => (h x y hx hy).1 he) ((fi_iff hq).2 fun x y hx hy he => (h x y hx hy).2 he)
def natL (n : Nat) (p : List Int) : List Int := (List.range n).map fun x => (nmN p x : Int)
theorem nat_getD {n x : Nat} {p : List Int} (hx : x < n) : (natL n p).getD x 0 = (nmN p x : Int) := getD_map_range _ _ _ hx
end Go.Proofs.YtbohjibbgppfaaaGreat
namespace Go.Proofs.YtbohjibbgppfaaaGreat
open Go Go.Pv Go.Proofs
theorem entOk.small {n size : Nat} (hn : n ≤ 8) {E : List Ent} (h : ∀ c ∈ E, entOk n size c) : smallE E := fun c hc x hx => by
 have := (h c hc).2 x hx
 omega
end Go.Proofs.YtbohjibbgppfaaaGreat
namespace Go.Proofs.YtbohjibbgppfaaaGreat
open Go Go.Pv Go.Proofs
structure CT (n : Nat) (ops : List OpD) (T : List (List Int)) : Prop where
 n0 : 0 < n
 n3 : n ≤ 3
 ops4 : ops.length ≤ 4
 op : ∀ f ∈ ops, opOk n f = true
 len0 : 0 < T.length
 len : T.length ≤ 60
 row : ∀ t ∈ T, t.length = n ^ 3 ∧ ∀ x ∈ t, 0 ≤ x ∧ x < (n : Int)
 nd : T.Nodup
 prj : ∀ p, p < 3 → prjL n 3 p ∈ T
 clo : closedT n (n ^ 3) ops T T.length
theorem CT.lenOk {n : Nat} {ops : List OpD} {T : List (List Int)} (h : CT n ops T) : lenOk T := ⟨by have := h.len; omega, fun t ht => by
 have h27 : n ^ 3 ≤ 27 := Nat.pow_le_pow_left h.n3 3
 rw [(h.row t ht).1]; omega⟩
end Go.Proofs.YtbohjibbgppfaaaGreat
namespace Go.Proofs.YtbohjibbgppfaaaGreat
open Go Go.Pv Go.Proofs
abbrev rowO (f : OpD) : List Int := f.ar :: f.tb
abbrev rowsO (L : List OpD) : List (List Int) := L.map rowO
abbrev sgI (rows : List (List Int)) : HO := .sg 51 3 0 (rows.map fun r => r.map I)
theorem rowsO_view (L : List OpD) : (PV.sl 2 none (((rowsO L).map fun r => r.map I).map sgP)) = opsP L := by
 rw [List.map_map, List.map_map]; rfl
theorem le_algG (n : Int) (L : List OpD) : (PV.agg [I n, PV.sl 2 none (((rowsO L).map fun r => r.map I).map sgP)]).le (algP n L) := by rw [rowsO_view]; exact PV.le_refl _
end Go.Proofs.YtbohjibbgppfaaaGreat
namespace Go.Pv
open Go
attribute [local semireducible] Go.Pv.PStep Go.Pv.EStep
theorem VRS1.plain {g : Ghost} {ρ : Nat → Loc} {hp : List HO} {v : Value} {p : PV} (hp1 : (match p with | .hp _ | .hat _ _ | .gr _ _ | .gat _ _ _ | .hpv _ _ _ | .hatv _ _ _ _ => false | _ => true) = true) (h : VRS1 g ρ hp v p) : VR g v p := by
 cases p <;> first | (cases hp1; done) | exact h
section
variable {P : Program} {o : Oper} {S : St} {ev : Operand → PV} {hp : List HO}
theorem ps_loadP {t : TypeId} [ht : CellT P t] {x : Operand} {b id i : Nat} {l : List PV} {q : PV} (ho : o.op = .load t x) (h1 : ev x = .val (.pointer (some ⟨b, i, none⟩))) (hh : hp[id]? = some (.pin b l)) (hq : l[i]? = some q) : PStep P o ev hp q :=
 .of_run fun w0 g ρ w av hb hx => by
  have ea := val_of (hx x (by simp [ho, Op.operands])) h1
  obtain ⟨cur, e, hown⟩ := hb.own id _ hh
  have hi : i < cur.size := by rw [hown.hsz]; exact (List.getElem?_eq_some_iff.1 hq).1
  have hc := own_load hown.hw hi
  refine ⟨cur.getD i undef, ?_, .of_VR (hown.hv i q hq)⟩
  simp only [execOp, ho, ea]
  refine run_value ?_
  unfold Instr.loadAt Instr.sureAddr loadVar
  simp only [Sem.run_bind, run_pure, Result.andThen, ht.ha]
  simp [load, Sem.run, hc]
theorem e_storeP {t : TypeId} [ht : CellT P t] {x v : Operand} {b id i : Nat} {l : List PV} {p : PV} (ho : o.op = .store t x v) (hd : o.dst = none) (h1 : S.ev x = .val (.pointer (some ⟨b, i, none⟩))) (hh : S.hp[id]? = some (.pin b l)) (hi : i < l.length)
 (h2 : view S.hp (S.ev v) = p) (hone : p.one = true) : EStep P o S ⟨S.fr, S.hp.set id (.pin b (l.set i p))⟩ := by
 refine EStep.of_store ht.hs ho hd hh (fun m s e l h => by cases h) (fun e1 e2 rows h => by cases h) (fun e1 e2 n rows h => by cases h) (fun L b h => h) fun w0 g ρ a w hr hsame => ?_
 obtain ⟨cur, e, hown⟩ := hr.base.own id _ hh
 have ea : a.eval x = .pointer (some ⟨b, i, none⟩) := val_of (hr.ev x) h1
 have ev := hr.base.view (hr.ev v)
 rw [h2] at ev
 obtain ⟨hc1, hc2⟩ := ev.oneCell hone
 refine ⟨_, i, cur, e, ea, hown.hblk.symm, hown.hB, hown.hw, hown.hg, by rw [hown.hsz]; exact hi, by rw [hc1]; rfl, by rw [hc1]; simpa using hc2, fun cur' hs' hk' => ?_⟩
 refine ⟨cur', e, hown.hblk, hown.hB, setRow_heap w _ _ _ _ _ hown.hw, by rw [hs', hown.hsz]; simp, fun k q hq => ?_, hown.hg⟩
 rw [hk' k]
 rw [List.getElem?_set] at hq
 by_cases e : i = k
 · subst e
   rw [if_pos rfl, if_pos hi] at hq
   cases hq
   rw [if_pos (by omega), hc1]
   simpa using ev
 · rw [if_neg e] at hq
   rw [if_neg (by omega)]
   exact hown.hv k q hq
theorem g_pinB {K : Exit → St → Prop} {c : Code} (j i : Nat) {l : List PV} (h : S.fr[j]? = some (.hat i 0)) (h2 : S.hp[i]? = some (.box l)) (hl : aloneHO (.box l) = true) (hk : ∀ b, ∃ S', St.mk (S.fr.set j (.val (.pointer (some ⟨b, 0, none⟩)))) (S.hp.set i (.pin b l)) = S' ∧ Goal P c K S') : Goal P c K S := by
 unfold Goal
 intro w0 g ρ a w Q hr hQ
 obtain ⟨cur, e, hown⟩ := hr.base.own i _ h2
 obtain ⟨S', rfl, hg⟩ := hk (ρ i).blk
 unfold Goal at hg
 have hsame : ∀ v p, VRS1 g ρ S.hp v p → VRS1 g ρ (S.hp.set i (.pin (ρ i).blk l)) v p := fun v p h => same_set h2 (fun _ _ _ _ h => by cases h) (fun _ _ _ h => by cases h) (fun _ _ _ _ h => by cases h) (GExt.refl g) h
 have hbase := hr.base.upd h2 (x' := .pin (ρ i).blk l) (ρ i) (GExt.refl g) _root_.id (by rw [upd_id, map_mapHO_id]; exact hsame) hr.base.agree hr.base.below (fun _ _ _ => rfl)
  (by rw [upd_id, map_mapHO_id]; exact ⟨cur, e, rfl, hown.hB, hown.hw, hown.hsz, fun k q hq => VRS1.plain (List.all_eq_true.1 hl q (List.mem_of_getElem? hq)) (hown.hv k q hq), hown.hg⟩) (fun b' hb' => .inl hb') (fun b' hb' hnf => ⟨rfl, fun _ => rfl⟩)
 rw [upd_id, map_mapHO_id] at hbase
 have hr' := hr.same hbase hsame
 refine hg w0 g ρ a w Q ⟨hr'.base, hr'.dead, by simpa using hr'.size, fun k p hp => ?_⟩ hQ
 rw [List.getElem?_set] at hp
 split at hp
 · rename_i e
   subst e
   split at hp
   · cases hp
     have hv : VRS1 g ρ S.hp _ (.hat i 0) := hr.fr j _ h
     have hv : a.tmps.getD j undef = .pointer (some ⟨(ρ i).blk, 0, none⟩) := hv
     rw [hv]
     exact .of_VR (.val _)
   · cases hp
 · exact hr'.fr k p hp
end
end Go.Pv
