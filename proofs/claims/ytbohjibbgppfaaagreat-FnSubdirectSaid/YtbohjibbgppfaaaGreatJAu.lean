/- Walks: the reference's sorted lists of lists, lists of bits, prime filters. -/
import Derived.Laws.Small
import Derived.Test.YtbohjibbgppfaaaGreatJSq
import Derived.Test.YtbohjibbgppfaaaGreatJGb
import Derived.Test.YtbohjibbgppfaaaGreatJKo
import Derived.Test.YtbohjibbgppfaaaGreatJKv
import Derived.Test.YtbohjibbgppfaaaGreatJKd
import Derived.Test.YtbohjibbgppfaaaGreatJKg
import Derived.Test.YtbohjibbgppfaaaGreatJKl
import Derived.Test.YtbohjibbgppfaaaGreatJKj
import Derived.Test.YtbohjibbgppfaaaGreatJHn
import Derived.Test.YtbohjibbgppfaaaGreatJGf
set_option linter.unusedSectionVars false
namespace Go.Proofs.YtbohjibbgppfaaaGreat
open Go Go.Pv Go.Proofs
set_option maxHeartbeats 32000000
set_option maxRecDepth 100000
attribute [local bitvec_to_nat] St.put St.setObj St.ev killP killA killP1 killH mapHO renP renA ren1 killG killGA killG1 krowP krowA krow1 lendP lendA lend1 unv pinP pin1 elemsM viewM viewN viewV n_set_z n_set_s n_map_c n_map_n getD_z getD_s n_toNat n_cond_t n_cond_f n_len_c n_len_n n_app_c n_app_n n_take_s n_take_z n_drop_s n_drop_z n_get_z n_get_s view viewA view1 elems Nat.zero_add Nat.add_zero Bool.not_true Bool.not_false Nat.one_ne_zero Nat.mul_one

theorem less5_c (s t : List Int) (he : s.length = t.length) (hs : s.length ≤ 1048576) : PCalls Tryz.prog 249 [ints s, ints t] (B (decide (cmpX s t < 0))) := by
  refine pcalls1 Tryz.func249 rfl Tryz.ntmps249 rfl ?_
  refine wF ?_
  repeat' (first
| refine wO ?_
| (refine o_go rfl ?_; (first
| refine wS ?_); refine ⟨_, aA, ?_⟩))
  refine g_loopT (α := Nat) (fun i => [(5, I (i : Int))]) (fun _ => []) (fun i => i ≤ s.length ∧ cmpX (s.drop i) (t.drop i) = cmpX s t) (fun i => s.length - i) 0 aF ⟨Nat.zero_le _, rfl⟩ ⟨rfl, trivial⟩ rfl ?_
  rintro i ⟨hi, hcm⟩
  dsimp only [zZ, List.set_cons_zero, List.set_cons_succ]
  by_cases hin : i < s.length
  · rw [drop_cons' 0 hin, drop_cons' 0 (show i < t.length by omega)] at hcm
    simp only [cmpX] at hcm
    repeat' (first
| refine wO ?_
| refine zP (by kernel_rfl) (by kernel_rfl) ?_
| (refine o_go rfl ?_; (first
| refine wS ?_
| refine p_p (zN rfl rfl rfl (by omega) aP (by exact rfl)) ?_); refine ⟨_, aA, ?_⟩)
| (refine g_condN rfl (fun hc => ?_) (fun hc => ?_) <;> try (exfalso; omega))
| (refine zK rfl (fun hc => ?_) (fun hc => ?_) <;> try (exfalso; omega))
| refine kr1 ?_
| refine krB rfl ?_
| refine wE ?_)
    · rw [if_neg hc] at hcm
      rw [← hcm]
      by_cases h : s.getD i 0 < t.getD i 0
      · rw [if_pos h, decide_eq_true h]; rfl
      · rw [if_neg h, decide_eq_false h]; rfl
    · rw [if_pos hc] at hcm
      exact zT (i + 1) ⟨by omega, hcm⟩ (by omega) aI ⟨rfl, trivial⟩ (zM _)
  · rw [List.drop_of_length_le (by omega), List.drop_of_length_le (by omega)] at hcm
    repeat' (first
| refine wO ?_
| (refine o_go rfl ?_; (first
| refine wS ?_); refine ⟨_, aA, ?_⟩)
| (refine zK rfl (fun hc => ?_) (fun hc => ?_) <;> try (exfalso; omega))
| refine kr1 ?_
| refine krB rfl ?_
| refine wE ?_)
    rw [← hcm]; rfl
end Go.Proofs.YtbohjibbgppfaaaGreat
/- The layer: a drawn region walked in each order, states shared. -/
namespace Go.Pv
open Go
attribute [local semireducible] Go.Pv.Goal Go.Pv.Ops Go.Pv.PStep Go.Pv.EStep Go.Pv.KRets Go.Pv.PCalls Go.Pv.OpsG
theorem at_reg0 {P : Program} {K : Exit → St → Prop} {S : St} {ops : Array Oper} {dr : Bool} (id : Nat) (h : Goal P (Code.region id ops dr) K S) : Goal P (Code.region id ops dr) K S := h
end Go.Pv
/- Plain: quotients by a congruence; indices of tables, mapped digit by digit. -/
namespace Go.Proofs.YtbohjibbgppfaaaGreat
open Go Go.Pv Go.Proofs

def mapI (k m : Nat) (g : Nat → Nat) : Nat → Nat → Nat
  | 0, _ => 0
  | a + 1, i => mapI k m g a (i / k) * m + g (i % k)
theorem mapI_lt {k m : Nat} {g : Nat → Nat} (hk : 0 < k) (hg : ∀ x, x < k → g x < m) : ∀ a i, mapI k m g a i < m ^ a
  | 0, _ => by simp [mapI]
  | a + 1, i => by
    have h1 := mapI_lt hk hg a (i / k)
    have h2 := hg (i % k) (Nat.mod_lt _ hk)
    show mapI k m g a (i / k) * m + g (i % k) < m ^ (a + 1)
    calc mapI k m g a (i / k) * m + g (i % k) < mapI k m g a (i / k) * m + m := by omega
      _ = (mapI k m g a (i / k) + 1) * m := by rw [Nat.add_mul]; omega
      _ ≤ m ^ a * m := Nat.mul_le_mul_right _ h1
      _ = m ^ (a + 1) := by rw [Nat.pow_succ]
theorem mapI_div {k m : Nat} {g : Nat → Nat} (hk : 0 < k) (hg : ∀ x, x < k → g x < m) (a i : Nat) : mapI k m g (a + 1) i / m = mapI k m g a (i / k) := by
  have h2 := hg (i % k) (Nat.mod_lt _ hk)
  show (mapI k m g a (i / k) * m + g (i % k)) / m = _
  rw [Nat.mul_comm, Nat.mul_add_div (by omega), Nat.div_eq_of_lt h2, Nat.add_zero]
theorem mapI_mod {k m : Nat} {g : Nat → Nat} (hk : 0 < k) (hg : ∀ x, x < k → g x < m) (a i : Nat) : mapI k m g (a + 1) i % m = g (i % k) := by
  have h2 := hg (i % k) (Nat.mod_lt _ hk)
  show (mapI k m g a (i / k) * m + g (i % k)) % m = _
  rw [Nat.mul_comm, Nat.mul_add_mod, Nat.mod_eq_of_lt h2]
theorem dig_succ (n i j : Nat) : digN n i (j + 1) = digN n (i / n) j := by
  unfold digN
  rw [Nat.pow_succ', Nat.div_div_eq_div_mul]
theorem dig_zero (n i : Nat) : digN n i 0 = i % n := by unfold digN; rw [Nat.pow_zero, Nat.div_one]
theorem sub_div {n : Nat} (hn : 0 < n) (i j v : Nat) : subN n i (j + 1) v / n = subN n (i / n) j v := by
  rw [← sub_succ, Nat.mul_comm, Nat.mul_add_div hn, Nat.div_eq_of_lt (Nat.mod_lt _ hn), Nat.add_zero]
theorem sub_mod {n : Nat} (_hn : 0 < n) (i j v : Nat) : subN n i (j + 1) v % n = i % n := by
  rw [← sub_succ, Nat.mul_comm, Nat.mul_add_mod, Nat.mod_mod]
theorem sub_zero (n i v : Nat) : subN n i 0 v = i / n * n + v := by
  unfold subN; rw [Nat.pow_zero, Nat.div_one, Nat.mul_one, Nat.mod_one, Nat.add_zero]
theorem mapI_sub {k m : Nat} {g : Nat → Nat} (hk : 0 < k) (hg : ∀ x, x < k → g x < m) : ∀ a i j v, j < a → v < k → mapI k m g a (subN k i j v) = subN m (mapI k m g a i) j (g v)
  | 0, _, _, _, h, _ => absurd h (Nat.not_lt_zero _)
  | a + 1, i, 0, v, _, hv => by
    rw [sub_zero, sub_zero, mapI_div hk hg]
    show mapI k m g a ((i / k * k + v) / k) * m + g ((i / k * k + v) % k) = _
    rw [Nat.mul_comm (i / k) k, Nat.mul_add_div hk, Nat.div_eq_of_lt hv, Nat.add_zero, Nat.mul_add_mod, Nat.mod_eq_of_lt hv]
  | a + 1, i, j + 1, v, h, hv => by
    have ih := mapI_sub hk hg a (i / k) j v (by omega) hv
    show mapI k m g a (subN k i (j + 1) v / k) * m + g (subN k i (j + 1) v % k) = _
    rw [sub_div hk, sub_mod hk, ih, ← sub_succ, mapI_div hk hg, mapI_mod hk hg]
theorem mapI_map {k m l : Nat} {g h : Nat → Nat} (hk : 0 < k) (hg : ∀ x, x < k → g x < m) : ∀ a i, mapI m l h a (mapI k m g a i) = mapI k l (fun x => h (g x)) a i
  | 0, _ => rfl
  | a + 1, i => by
    show mapI m l h a (mapI k m g (a + 1) i / m) * l + h (mapI k m g (a + 1) i % m) = _
    rw [mapI_div hk hg, mapI_mod hk hg, mapI_map hk hg a (i / k)]; rfl
theorem mapI_congr {k m : Nat} {g h : Nat → Nat} (hk : 0 < k) (e : ∀ x, x < k → g x = h x) : ∀ a i, mapI k m g a i = mapI k m h a i
  | 0, _ => rfl
  | a + 1, i => by
    show mapI k m g a (i / k) * m + g (i % k) = mapI k m h a (i / k) * m + h (i % k)
    rw [mapI_congr hk e a (i / k), e _ (Nat.mod_lt _ hk)]
theorem idx_mapI {k m : Nat} {g : Nat → Nat} {G : Int → Int} (hk : 0 < k) (hG : ∀ x, x < k → G (x : Int) = (g x : Int)) : ∀ a i, idxL m ((argsL k a i).map G) = (mapI k m g a i : Int)
  | 0, _ => rfl
  | a + 1, i => by
    have e : argsL k (a + 1) i = argsL k a (i / k) ++ [((i % k : Nat) : Int)] := rfl
    rw [e, List.map_append, List.map_cons, List.map_nil, idxL_snoc, idx_mapI hk hG a (i / k), hG _ (Nat.mod_lt _ hk), ← Int.natCast_mul, ← Int.natCast_add]; rfl
theorem keeps_all {m : Nat} (hm : 0 < m) {R : Nat → Nat → Prop} {Q : Nat → Nat → Prop} (hQ : Equivalence Q) {g : Nat → Nat} (hg : ∀ x, x < m → g x < m) (hR : ∀ x, x < m → R x (g x)) :
    ∀ (a : Nat) (F : Nat → Nat), (∀ i, i < m ^ a → ∀ j, j < a → ∀ v, v < m → R (digN m i j) v → Q (F i) (F (subN m i j v))) → ∀ i, i < m ^ a → Q (F i) (F (mapI m m g a i))
  | 0, F, _, i, hi => by
    have : i = 0 := by simpa using hi
    subst this; exact hQ.refl _
  | a + 1, F, h, i, hi => by
    have hi' : i / m < m ^ a := Nat.div_lt_of_lt_mul (by rw [Nat.mul_comm, ← Nat.pow_succ]; exact hi)
    have hd : i % m < m := Nat.mod_lt _ hm
    have e0 : subN m i 0 (g (i % m)) = i / m * m + g (i % m) := sub_zero _ _ _
    have h1 := h i hi 0 (by omega) (g (i % m)) (hg _ hd) (by rw [dig_zero]; exact hR _ hd)
    rw [e0] at h1
    have hlo := hg _ hd
    have ih := keeps_all hm hQ hg hR a (fun q => F (q * m + g (i % m))) (fun q hq j hj v hv hr => by
      have hb : q * m + g (i % m) < m ^ (a + 1) := by
        calc q * m + g (i % m) < q * m + m := by omega
          _ = (q + 1) * m := by rw [Nat.add_mul]; omega
          _ ≤ m ^ a * m := Nat.mul_le_mul_right _ hq
          _ = m ^ (a + 1) := by rw [Nat.pow_succ]
      have hq1 : (q * m + g (i % m)) / m = q := by rw [Nat.mul_comm, Nat.mul_add_div hm, Nat.div_eq_of_lt hlo, Nat.add_zero]
      have hq2 : (q * m + g (i % m)) % m = g (i % m) := by rw [Nat.mul_comm, Nat.mul_add_mod, Nat.mod_eq_of_lt hlo]
      have := h _ hb (j + 1) (by omega) v hv (by rw [dig_succ, hq1]; exact hr)
      rw [← sub_succ, hq1, hq2] at this
      exact this) (i / m) hi'
    exact hQ.trans h1 ih
/-! ### Blocks, numbered -/
def lstN (p : List Int) (k : Nat) : List Nat := (List.range k).filter fun x => decide (bk p x = x)
def nmN (p : List Int) (x : Nat) : Nat := (lstN p (bk p x)).length
theorem lstN_succ (p : List Int) (k : Nat) : lstN p (k + 1) = lstN p k ++ if bk p k = k then [k] else [] := by
  unfold lstN
  rw [List.range_succ, List.filter_append]
  congr 1
  by_cases h : bk p k = k
  · rw [if_pos h]; simp [h]
  · rw [if_neg h]; simp [h]
theorem lstN_mem {p : List Int} {k x : Nat} : x ∈ lstN p k ↔ x < k ∧ bk p x = x := by
  unfold lstN; rw [List.mem_filter, List.mem_range, decide_eq_true_eq]
theorem lstN_le (p : List Int) (k : Nat) : (lstN p k).length ≤ k := by
  unfold lstN; exact Nat.le_trans (List.length_filter_le _ _) (by simp)
theorem lstN_split (p : List Int) {k n : Nat} (h : k ≤ n) : ∃ l, lstN p n = lstN p k ++ l := by
  induction n with
  | zero => obtain rfl : k = 0 := by omega
            exact ⟨[], by simp⟩
  | succ n ih =>
    by_cases e : k = n + 1
    · subst e; exact ⟨[], by simp⟩
    · obtain ⟨l, hl⟩ := ih (by omega)
      rw [lstN_succ, hl, List.append_assoc]
      exact ⟨_, rfl⟩
theorem lstN_at {p : List Int} {k n : Nat} (h : k < n) (hk : bk p k = k) : (lstN p n)[(lstN p k).length]? = some k := by
  obtain ⟨l, hl⟩ := lstN_split p (show k + 1 ≤ n by omega)
  rw [hl, lstN_succ, if_pos hk, List.append_assoc, List.getElem?_append_right (Nat.le_refl _), Nat.sub_self]; rfl
theorem lstN_getD {p : List Int} {k n : Nat} (h : k < n) (hk : bk p k = k) : (lstN p n).getD (lstN p k).length 0 = k := by
  rw [List.getD_eq_getElem?_getD, lstN_at h hk]; rfl
section
variable {n : Nat} {p : List Int} (hp : Pt n p)
include hp
theorem nm_lt {x : Nat} (hx : x < n) : nmN p x < (lstN p n).length := (List.getElem?_eq_some_iff.1 (lstN_at (hp.lt hx) (hp.id x hx))).1
theorem lst_nm {x : Nat} (hx : x < n) : (lstN p n).getD (nmN p x) 0 = bk p x := lstN_getD (hp.lt hx) (hp.id x hx)
theorem lst_in {i : Nat} (hi : i < (lstN p n).length) : (lstN p n).getD i 0 < n ∧ bk p ((lstN p n).getD i 0) = (lstN p n).getD i 0 := by
  have : (lstN p n).getD i 0 ∈ lstN p n := by rw [List.getD_eq_getElem?_getD, List.getElem?_eq_getElem hi]; exact List.getElem_mem _
  exact lstN_mem.1 this
theorem nm_lst {i : Nat} (hi : i < (lstN p n).length) : nmN p ((lstN p n).getD i 0) = i := by
  obtain ⟨h1, h2⟩ := lst_in hp hi
  have h3 := nm_lt hp h1
  have h4 := lst_nm hp h1
  rw [h2] at h4
  have hnd : (lstN p n).Nodup := List.nodup_range.sublist List.filter_sublist
  have hpw := List.pairwise_iff_getElem.1 hnd
  generalize nmN p ((lstN p n).getD i 0) = k at *
  have ek : (lstN p n).getD k 0 = (lstN p n)[k] := by rw [List.getD_eq_getElem?_getD, List.getElem?_eq_getElem h3]; rfl
  have ei : (lstN p n).getD i 0 = (lstN p n)[i] := by rw [List.getD_eq_getElem?_getD, List.getElem?_eq_getElem hi]; rfl
  rw [ek, ei] at h4
  rcases Nat.lt_trichotomy k i with h | h | h
  · exact absurd h4 (hpw _ _ h3 hi h)
  · exact h
  · exact absurd h4.symm (hpw _ _ hi h3 h)
theorem nm_eq {x y : Nat} (hx : x < n) (hy : y < n) : nmN p x = nmN p y ↔ bk p x = bk p y := by
  constructor
  · intro h
    rw [← lst_nm hp hx, ← lst_nm hp hy, h]
  · intro h; unfold nmN; rw [h]
theorem lst_pos (hn : 0 < n) : 0 < (lstN p n).length := Nat.lt_of_le_of_lt (Nat.zero_le _) (nm_lt hp hn)
end
/-! ### The quotient -/
def quoC (n : Nat) (p : List Int) (f : OpD) (i : Nat) : Nat := nmN p (bk f.tb (mapI (lstN p n).length n (fun x => (lstN p n).getD x 0) f.ar.toNat i))
def quoT (n : Nat) (p : List Int) (f : OpD) (k : Nat) : List Int := (List.range k).map fun i => (quoC n p f i : Int)
def quoF (n : Nat) (p : List Int) (f : OpD) : OpD := ⟨f.ar, quoT n p f ((lstN p n).length ^ f.ar.toNat)⟩
def quoL (n : Nat) (p : List Int) (ops : List OpD) : List OpD := ops.map (quoF n p)
theorem quoT_len (n : Nat) (p : List Int) (f : OpD) (k : Nat) : (quoT n p f k).length = k := by simp [quoT]
theorem quoT_succ (n : Nat) (p : List Int) (f : OpD) (k : Nat) : quoT n p f (k + 1) = quoT n p f k ++ [(quoC n p f k : Int)] := by
  unfold quoT; rw [List.range_succ, List.map_append]; rfl
section
variable {n : Nat} {p : List Int} {ops : List OpD} (hn : 0 < n) (hp : Pt n p) (ho : opsIn n ops)
include hn hp ho
omit hn ho in
theorem quo_g : ∀ x, x < (lstN p n).length → (fun x => (lstN p n).getD x 0) x < n := fun _ hx => (lst_in hp hx).1
omit ho in
theorem quo_idx (a i : Nat) : mapI (lstN p n).length n (fun x => (lstN p n).getD x 0) a i < n ^ a := mapI_lt (lst_pos hp hn) (quo_g hp) a i
theorem quoC_lt {f : OpD} (hf : f ∈ ops) (i : Nat) : quoC n p f i < (lstN p n).length := nm_lt hp (((ho f hf).2.2.2 _ (quo_idx hn hp _ i)).2)
omit hn hp ho in
theorem quo_bk {f : OpD} {i : Nat} (hi : i < (lstN p n).length ^ f.ar.toNat) : bk (quoF n p f).tb i = quoC n p f i := by
  unfold bk quoF quoT
  dsimp only
  rw [List.getD_eq_getElem?_getD, List.getElem?_map, List.getElem?_range hi]; rfl
theorem quo_in : opsIn (lstN p n).length (quoL n p ops) := fun F hF => by
  obtain ⟨f, hf, rfl⟩ := List.mem_map.1 hF
  obtain ⟨h0, h3, hl, -⟩ := ho f hf
  refine ⟨h0, h3, quoT_len _ _ _ _, fun i hi => ?_⟩
  have hi : i < (lstN p n).length ^ f.ar.toNat := hi
  rw [quo_bk hi]
  have hlt := quoC_lt hn hp ho hf i
  refine ⟨?_, hlt⟩
  show 0 ≤ (quoT _ _ _ _).getD i 0
  unfold quoT
  rw [List.getD_eq_getElem?_getD, List.getElem?_map, List.getElem?_range hi]
  exact Int.natCast_nonneg _
theorem quo_hom (hc : Cong n ops p) {f : OpD} (hf : f ∈ ops) {i : Nat} (hi : i < n ^ f.ar.toNat) : nmN p (bk f.tb i) = bk (quoF n p f).tb (mapI n (lstN p n).length (nmN p) f.ar.toNat i) := by
  have hk := lst_pos hp hn
  have hg := fun x (hx : x < n) => nm_lt hp hx
  have hin := fun i hi => ((ho f hf).2.2.2 i hi).2
  rw [quo_bk (mapI_lt hn hg _ i)]
  unfold quoC
  rw [mapI_map hn hg]
  have e : ∀ x, x < n → (fun x => (lstN p n).getD (nmN p x) 0) x = bk p x := fun x hx => lst_nm hp hx
  rw [mapI_congr hn e, nm_eq hp (hin i hi) (hin _ (mapI_lt hn (fun x hx => hp.lt hx) _ i))]
  exact keeps_all hn (R := fun a b => bk p a = bk p b) (Q := fun a b => bk p a = bk p b) ⟨fun _ => rfl, fun h => h.symm, fun h g => h.trans g⟩ (fun x hx => hp.lt hx) (fun x hx => (hp.id x hx).symm) f.ar.toNat (fun i => bk f.tb i) (fun i hi j hj v hv hr => by
    have h1 := (cong_keeps hp).1 hc f hf i hi j hj (digN n i j) v (Nat.mod_lt _ hn) hv hr
    rwa [subN_self] at h1) i hi
end
end Go.Proofs.YtbohjibbgppfaaaGreat
/- Plain: congruences of a quotient and those above the congruence. -/
namespace Go.Proofs.YtbohjibbgppfaaaGreat
open Go Go.Pv Go.Proofs

theorem kerE_facts {l : List Int} {x : Nat} (hx : x < l.length) : kerE l x ≤ x ∧ l.getD (kerE l x) 0 = l.getD x 0 ∧ ∀ y, y < kerE l x → l.getD y 0 ≠ l.getD x 0 := by
  unfold kerE
  obtain ⟨h1, h2, h3⟩ := fstN_spec (P := fun y => decide (l.getD y 0 = l.getD x 0)) hx (by simp)
  exact ⟨h1, by simpa using h2, fun y hy => by simpa using h3 y hy⟩
theorem ker_getD {l : List Int} {x : Nat} (hx : x < l.length) : (kerL l).getD x 0 = (kerE l x : Int) := by
  unfold kerL
  rw [List.getD_eq_getElem?_getD, List.getElem?_map, List.getElem?_range hx]; rfl
theorem ker_bk {l : List Int} {x : Nat} (hx : x < l.length) : bk (kerL l) x = kerE l x := by unfold bk; rw [ker_getD hx]; rfl
theorem kerE_same {l : List Int} {x y : Nat} (h : l.getD x 0 = l.getD y 0) : kerE l x = kerE l y := by unfold kerE; rw [h]
theorem ker_pt {n : Nat} {l : List Int} (hl : l.length = n) : Pt n (kerL l) := by
  refine ⟨by simp [kerL, hl], fun x hx => ?_, fun x hx => ?_, fun x hx => ?_⟩
  · rw [ker_getD (by omega)]; exact Int.natCast_nonneg _
  · rw [ker_bk (by omega)]; exact (kerE_facts (by omega)).1
  · obtain ⟨h1, h2, -⟩ := kerE_facts (l := l) (x := x) (by omega)
    rw [ker_bk (x := x) (by omega), ker_bk (by omega)]
    exact kerE_same h2
theorem ker_R {l : List Int} {x y : Nat} (hx : x < l.length) (hy : y < l.length) : bk (kerL l) x = bk (kerL l) y ↔ l.getD x 0 = l.getD y 0 := by
  rw [ker_bk hx, ker_bk hy]
  refine ⟨fun h => ?_, kerE_same⟩
  rw [← (kerE_facts hx).2.1, ← (kerE_facts hy).2.1, h]
theorem pt_R {n : Nat} {p q : List Int} (hp : Pt n p) (hq : Pt n q) (h : ∀ x y, x < n → y < n → (bk p x = bk p y ↔ bk q x = bk q y)) : p = q :=
  fi_antisymm hp hq ((fi_iff hp).2 fun x y hx hy he => (h x y hx hy).1 he) ((fi_iff hq).2 fun x y hx hy he => (h x y hx hy).2 he)
def natL (n : Nat) (p : List Int) : List Int := (List.range n).map fun x => (nmN p x : Int)
def lftV (n : Nat) (p q : List Int) : List Int := (List.range n).map fun x => q.getD (nmN p x) 0
def liftP (n : Nat) (p q : List Int) : List Int := kerL (lftV n p q)
def pshV (n : Nat) (p q : List Int) : List Int := (lstN p n).map fun x => q.getD x 0
def pushP (n : Nat) (p q : List Int) : List Int := kerL (pshV n p q)
theorem nat_getD {n x : Nat} {p : List Int} (hx : x < n) : (natL n p).getD x 0 = (nmN p x : Int) := getD_map_range _ _ _ hx
theorem lft_getD {n x : Nat} {p q : List Int} (hx : x < n) : (lftV n p q).getD x 0 = q.getD (nmN p x) 0 := getD_map_range _ _ _ hx
theorem psh_getD {n i : Nat} {p q : List Int} (hi : i < (lstN p n).length) : (pshV n p q).getD i 0 = q.getD ((lstN p n).getD i 0) 0 := by
  unfold pshV
  simp [List.getD_eq_getElem?_getD, hi]
theorem lift_pt {n : Nat} {p q : List Int} : Pt n (liftP n p q) := ker_pt (by simp [lftV])
theorem push_pt6 {n : Nat} {p q : List Int} : Pt (lstN p n).length (pushP n p q) := ker_pt (by simp [pshV])
section
variable {n : Nat} {p : List Int} (hp : Pt n p)
include hp
theorem lift_R {q : List Int} (hq : Pt (lstN p n).length q) {x y : Nat} (hx : x < n) (hy : y < n) : bk (liftP n p q) x = bk (liftP n p q) y ↔ bk q (nmN p x) = bk q (nmN p y) := by
  have hl : (lftV n p q).length = n := by simp [lftV]
  unfold liftP
  rw [ker_R (by omega) (by omega), lft_getD hx, lft_getD hy, hq.val (nm_lt hp hx), hq.val (nm_lt hp hy)]
  omega
theorem push_R {r : List Int} (hr : Pt n r) {i j : Nat} (hi : i < (lstN p n).length) (hj : j < (lstN p n).length) : bk (pushP n p r) i = bk (pushP n p r) j ↔ bk r ((lstN p n).getD i 0) = bk r ((lstN p n).getD j 0) := by
  have hl : (pshV n p r).length = (lstN p n).length := by simp [pshV]
  unfold pushP
  rw [ker_R (by omega) (by omega), psh_getD hi, psh_getD hj, hr.val (lst_in hp hi).1, hr.val (lst_in hp hj).1]
  omega
theorem lift_fi {q : List Int} (hq : Pt (lstN p n).length q) : Fi n p (liftP n p q) := (fi_iff hp).2 fun x y hx hy he => (lift_R hp hq hx hy).2 (by rw [(nm_eq hp hx hy).2 he])
theorem push_lift {q : List Int} (hq : Pt (lstN p n).length q) : pushP n p (liftP n p q) = q := pt_R push_pt6 hq fun i j hi hj => by
  rw [push_R hp lift_pt hi hj, lift_R hp hq (lst_in hp hi).1 (lst_in hp hj).1, nm_lst hp hi, nm_lst hp hj]
theorem lift_push {r : List Int} (hr : Pt n r) (hf : Fi n p r) : liftP n p (pushP n p r) = r := pt_R lift_pt hr fun x y hx hy => by
  rw [lift_R hp push_pt6 hx hy, push_R hp hr (nm_lt hp hx) (nm_lt hp hy), lst_nm hp hx, lst_nm hp hy, hf x hx, hf y hy]
variable {ops : List OpD} (hn : 0 < n) (ho : opsIn n ops) (hc : Cong n ops p)
include hn ho hc
theorem lift_cong {q : List Int} (hq : Pt (lstN p n).length q) (cq : Cong (lstN p n).length (quoL n p ops) q) : Cong n ops (liftP n p q) := by
  rw [cong_keeps lift_pt]
  intro f hf i hi j hj a b ha hb he
  have hin := fun i hi => ((ho f hf).2.2.2 i hi).2
  have hg := fun x (hx : x < n) => nm_lt hp hx
  rw [lift_R hp hq (hin _ (sub_lt hi hj ha)) (hin _ (sub_lt hi hj hb)), quo_hom hn hp ho hc hf (sub_lt hi hj ha), quo_hom hn hp ho hc hf (sub_lt hi hj hb), mapI_sub hn hg _ _ _ _ hj ha, mapI_sub hn hg _ _ _ _ hj hb]
  exact (cong_keeps hq).1 cq (quoF n p f) (List.mem_map.2 ⟨f, hf, rfl⟩) _ (mapI_lt hn hg _ i) j hj _ _ (hg a ha) (hg b hb) ((lift_R hp hq ha hb).1 he)
theorem push_cong {r : List Int} (hr : Pt n r) (hf : Fi n p r) (cr : Cong n ops r) : Cong (lstN p n).length (quoL n p ops) (pushP n p r) := by
  rw [cong_keeps push_pt6]
  intro F hF i hi j hj a b ha hb he
  obtain ⟨f, hfm, rfl⟩ := List.mem_map.1 hF
  have hi : i < (lstN p n).length ^ f.ar.toNat := hi
  have hj : j < f.ar.toNat := hj
  have hk := lst_pos hp hn
  have hg := quo_g hp
  have hin := fun i hi => ((ho f hfm).2.2.2 i hi).2
  have key : ∀ v, v < (lstN p n).length → bk r ((lstN p n).getD (bk (quoF n p f).tb (subN (lstN p n).length i j v)) 0) = bk r (bk f.tb (subN n (mapI (lstN p n).length n (fun x => (lstN p n).getD x 0) f.ar.toNat i) j ((lstN p n).getD v 0))) := fun v hv => by
    have hs := sub_lt hi hj hv
    rw [quo_bk hs]
    unfold quoC
    have hb := hin _ (quo_idx hn hp f.ar.toNat (subN (lstN p n).length i j v))
    rw [lst_nm hp hb, hf _ hb, mapI_sub hk hg _ _ _ _ hj hv]
  have hlt := fun v (hv : v < (lstN p n).length) => by
    have := quoC_lt hn hp ho hfm (subN (lstN p n).length i j v)
    rw [← quo_bk (sub_lt hi hj hv)] at this
    exact this
  rw [push_R hp hr (hlt a ha) (hlt b hb), key a ha, key b hb]
  exact (cong_keeps hr).1 cr f hfm _ (quo_idx hn hp _ i) j hj _ _ (lst_in hp ha).1 (lst_in hp hb).1 ((push_R hp hr ha hb).1 he)
end
/-! ### The quotient of a quotient -/
end Go.Proofs.YtbohjibbgppfaaaGreat
/- Plain: homomorphisms; the natural map of a congruence. -/
namespace Go.Proofs.YtbohjibbgppfaaaGreat
open Go Go.Pv Go.Proofs
theorem nat_len (n : Nat) (p : List Int) : (natL n p).length = n := by simp [natL]
end Go.Proofs.YtbohjibbgppfaaaGreat
/- Walks: products and powers, the reference's side. -/
namespace Go.Proofs.YtbohjibbgppfaaaGreat
open Go Go.Pv Go.Proofs

theorem snoc_ops {L : List OpD} {f : OpD} : (rowsO (L ++ [f])).map (fun r => r.map I) = (rowsO L).map (fun r => r.map I) ++ [I f.ar :: f.tb.map I] := by
  simp only [rowsO, List.map_append, List.map_cons, List.map_nil]
theorem rowsO_len (L : List OpD) : ((rowsO L).map fun r => r.map I).length = L.length := by rw [List.length_map, List.length_map]
end Go.Proofs.YtbohjibbgppfaaaGreat
/- The reference's draw of an algebra: it is there, and small. -/
namespace Go.Proofs.YtbohjibbgppfaaaGreat
open Go Go.Pv Go.Proofs

theorem least_of {p : Nat → Prop} (h : ∃ n, p n) : ∃ n, p n ∧ ∀ m, m < n → ¬ p m := by
  obtain ⟨n, hn⟩ := h
  induction n using Nat.strongRecOn with
  | _ n ih =>
    by_cases hx : ∃ m, m < n ∧ p m
    · obtain ⟨m, h1, h2⟩ := hx; exact ih m h1 h2
    · exact ⟨n, hn, fun m hm hp => hx ⟨m, hm, hp⟩⟩
theorem smA_app {l : List OpD} (h1 : l.length ≤ 6) (h2 : ∀ f ∈ l, f.tb.length ≤ 30) : smA l := by
  refine ⟨?_, ?_⟩
  · omega
  · intro f hf; exact Nat.le_trans (h2 f hf) (by decide)
end Go.Proofs.YtbohjibbgppfaaaGreat
/- Walks: drawn names. -/
namespace Go.Proofs.YtbohjibbgppfaaaGreat
open Go Go.Pv Go.Proofs
theorem Cu.ok.le {c : Cu} {m m' : Int} (h : c.ok m) (hm : m ≤ m') : c.ok m' := ⟨h.len, h.byte, h.lo, Int.le_trans h.hi hm, h.sd0⟩
end Go.Proofs.YtbohjibbgppfaaaGreat
