/- Plain: quotients by a congruence; indices of tables, mapped digit by digit. -/
import Derived.Test.YtepjlgilopfnpaaGreatJKf
import Derived.Test.YtepjlgilopfnpaaGreatJSq
set_option linter.unusedSectionVars false
namespace Go.Proofs.YtepjlgilopfnpaaGreat
open Go Go.Pv Go.Proofs

def mapI (k m : Nat) (g : Nat → Nat) : Nat → Nat → Nat
 | 0, _ => 0
 | a + 1, i => mapI k m g a (i / k) * m + g (i % k)
theorem mapI_lt {k m : Nat} {g : Nat → Nat} (hk : 0 < k) (hg : ∀ x, x < k → g x < m) : ∀ a i, mapI k m g a i < m ^ a
 | 0, _ => by simp [mapI]
 | a + 1, i => by
  have h1 := mapI_lt hk hg a (i / k)
  have h2 := hg (i % k) (Nat.mod_lt _ hk)
  show mapI k m g a (i / k) * m + g (i % k) < m ^ (a + 1)
  calc mapI k m g a (i / k) * m + g (i % k) < mapI k m g a (i / k) * m + m := by omega
   _ = (mapI k m g a (i / k) + 1) * m := by rw [Nat.add_mul]; omega
   _ ≤ m ^ a * m := Nat.mul_le_mul_right _ h1
   _ = m ^ (a + 1) := by rw [Nat.pow_succ]
theorem mapI_div {k m : Nat} {g : Nat → Nat} (hk : 0 < k) (hg : ∀ x, x < k → g x < m) (a i : Nat) : mapI k m g (a + 1) i / m = mapI k m g a (i / k) := by
 have h2 := hg (i % k) (Nat.mod_lt _ hk)
 show (mapI k m g a (i / k) * m + g (i % k)) / m = _
 rw [Nat.mul_comm, Nat.mul_add_div (by omega), Nat.div_eq_of_lt h2, Nat.add_zero]
theorem mapI_mod {k m : Nat} {g : Nat → Nat} (hk : 0 < k) (hg : ∀ x, x < k → g x < m) (a i : Nat) : mapI k m g (a + 1) i % m = g (i % k) := by
 have h2 := hg (i % k) (Nat.mod_lt _ hk)
 show (mapI k m g a (i / k) * m + g (i % k)) % m = _
 rw [Nat.mul_comm, Nat.mul_add_mod, Nat.mod_eq_of_lt h2]
theorem dig_succ (n i j : Nat) : digN n i (j + 1) = digN n (i / n) j := by
 unfold digN
 rw [Nat.pow_succ', Nat.div_div_eq_div_mul]
theorem dig_zero (n i : Nat) : digN n i 0 = i % n := by unfold digN; rw [Nat.pow_zero, Nat.div_one]
theorem sub_div {n : Nat} (hn : 0 < n) (i j v : Nat) : subN n i (j + 1) v / n = subN n (i / n) j v := by
 rw [← sub_succ, Nat.mul_comm, Nat.mul_add_div hn, Nat.div_eq_of_lt (Nat.mod_lt _ hn), Nat.add_zero]
theorem sub_mod {n : Nat} (_hn : 0 < n) (i j v : Nat) : subN n i (j + 1) v % n = i % n := by
 rw [← sub_succ, Nat.mul_comm, Nat.mul_add_mod, Nat.mod_mod]
theorem sub_zero (n i v : Nat) : subN n i 0 v = i / n * n + v := by
 unfold subN; rw [Nat.pow_zero, Nat.div_one, Nat.mul_one, Nat.mod_one, Nat.add_zero]
theorem mapI_sub {k m : Nat} {g : Nat → Nat} (hk : 0 < k) (hg : ∀ x, x < k → g x < m) : ∀ a i j v, j < a → v < k → mapI k m g a (subN k i j v) = subN m (mapI k m g a i) j (g v)
 | 0, _, _, _, h, _ => absurd h (Nat.not_lt_zero _)
 | a + 1, i, 0, v, _, hv => by
  rw [sub_zero, sub_zero, mapI_div hk hg]
  show mapI k m g a ((i / k * k + v) / k) * m + g ((i / k * k + v) % k) = _
  rw [Nat.mul_comm (i / k) k, Nat.mul_add_div hk, Nat.div_eq_of_lt hv, Nat.add_zero, Nat.mul_add_mod, Nat.mod_eq_of_lt hv]
 | a + 1, i, j + 1, v, h, hv => by
  have ih := mapI_sub hk hg a (i / k) j v (by omega) hv
  show mapI k m g a (subN k i (j + 1) v / k) * m + g (subN k i (j + 1) v % k) = _
  rw [sub_div hk, sub_mod hk, ih, ← sub_succ, mapI_div hk hg, mapI_mod hk hg]
theorem mapI_map {k m l : Nat} {g h : Nat → Nat} (hk : 0 < k) (hg : ∀ x, x < k → g x < m) : ∀ a i, mapI m l h a (mapI k m g a i) = mapI k l (fun x => h (g x)) a i
 | 0, _ => rfl
 | a + 1, i => by
  show mapI m l h a (mapI k m g (a + 1) i / m) * l + h (mapI k m g (a + 1) i % m) = _
  rw [mapI_div hk hg, mapI_mod hk hg, mapI_map hk hg a (i / k)]; rfl
theorem mapI_congr {k m : Nat} {g h : Nat → Nat} (hk : 0 < k) (e : ∀ x, x < k → g x = h x) : ∀ a i, mapI k m g a i = mapI k m h a i
 | 0, _ => rfl
 | a + 1, i => by
  show mapI k m g a (i / k) * m + g (i % k) = mapI k m h a (i / k) * m + h (i % k)
  rw [mapI_congr hk e a (i / k), e _ (Nat.mod_lt _ hk)]
theorem idx_mapI {k m : Nat} {g : Nat → Nat} {G : Int → Int} (hk : 0 < k) (hG : ∀ x, x < k → G (x : Int) = (g x : Int)) : ∀ a i, idxL m ((argsL k a i).map G) = (mapI k m g a i : Int)
 | 0, _ => rfl
 | a + 1, i => by
  have e : argsL k (a + 1) i = argsL k a (i / k) ++ [((i % k : Nat) : Int)] := rfl
  rw [e, List.map_append, List.map_cons, List.map_nil, idxL_snoc, idx_mapI hk hG a (i / k), hG _ (Nat.mod_lt _ hk), ← Int.natCast_mul, ← Int.natCast_add]; rfl
theorem keeps_all {m : Nat} (hm : 0 < m) {R : Nat → Nat → Prop} {Q : Nat → Nat → Prop} (hQ : Equivalence Q) {g : Nat → Nat} (hg : ∀ x, x < m → g x < m) (hR : ∀ x, x < m → R x (g x)) :
 ∀ (a : Nat) (F : Nat → Nat), (∀ i, i < m ^ a → ∀ j, j < a → ∀ v, v < m → R (digN m i j) v → Q (F i) (F (subN m i j v))) → ∀ i, i < m ^ a → Q (F i) (F (mapI m m g a i))
 | 0, F, _, i, hi => by
  have : i = 0 := by simpa using hi
  subst this; exact hQ.refl _
 | a + 1, F, h, i, hi => by
  have hi' : i / m < m ^ a := Nat.div_lt_of_lt_mul (by rw [Nat.mul_comm, ← Nat.pow_succ]; exact hi)
  have hd : i % m < m := Nat.mod_lt _ hm
  have e0 : subN m i 0 (g (i % m)) = i / m * m + g (i % m) := sub_zero _ _ _
  have h1 := h i hi 0 (by omega) (g (i % m)) (hg _ hd) (by rw [dig_zero]; exact hR _ hd)
  rw [e0] at h1
  have hlo := hg _ hd
  have ih := keeps_all hm hQ hg hR a (fun q => F (q * m + g (i % m))) (fun q hq j hj v hv hr => by
   have hb : q * m + g (i % m) < m ^ (a + 1) := by
    calc q * m + g (i % m) < q * m + m := by omega
     _ = (q + 1) * m := by rw [Nat.add_mul]; omega
     _ ≤ m ^ a * m := Nat.mul_le_mul_right _ hq
     _ = m ^ (a + 1) := by rw [Nat.pow_succ]
   have hq1 : (q * m + g (i % m)) / m = q := by rw [Nat.mul_comm, Nat.mul_add_div hm, Nat.div_eq_of_lt hlo, Nat.add_zero]
   have hq2 : (q * m + g (i % m)) % m = g (i % m) := by rw [Nat.mul_comm, Nat.mul_add_mod, Nat.mod_eq_of_lt hlo]
   have := h _ hb (j + 1) (by omega) v hv (by rw [dig_succ, hq1]; exact hr)
   rw [← sub_succ, hq1, hq2] at this
   exact this) (i / m) hi'
  exact hQ.trans h1 ih
/-! ### Blocks, numbered -/
def lstN (p : List Int) (k : Nat) : List Nat := (List.range k).filter fun x => decide (bk p x = x)
def nmN (p : List Int) (x : Nat) : Nat := (lstN p (bk p x)).length
theorem lstN_succ (p : List Int) (k : Nat) : lstN p (k + 1) = lstN p k ++ if bk p k = k then [k] else [] := by
 unfold lstN
 rw [List.range_succ, List.filter_append]
 congr 1
 by_cases h : bk p k = k
 · rw [if_pos h]; simp [h]
 · rw [if_neg h]; simp [h]
theorem lstN_mem {p : List Int} {k x : Nat} : x ∈ lstN p k ↔ x < k ∧ bk p x = x := by
 unfold lstN; rw [List.mem_filter, List.mem_range, decide_eq_true_eq]
theorem lstN_le (p : List Int) (k : Nat) : (lstN p k).length ≤ k := by
 unfold lstN; exact Nat.le_trans (List.length_filter_le _ _) (by simp)
theorem lstN_split (p : List Int) {k n : Nat} (h : k ≤ n) : ∃ l, lstN p n = lstN p k ++ l := by
 induction n with
 | zero => obtain rfl : k = 0 := by omega
           exact ⟨[], by simp⟩
 | succ n ih =>
  by_cases e : k = n + 1
  · subst e; exact ⟨[], by simp⟩
  · obtain ⟨l, hl⟩ := ih (by omega)
    rw [lstN_succ, hl, List.append_assoc]
    exact ⟨_, rfl⟩
theorem lstN_at {p : List Int} {k n : Nat} (h : k < n) (hk : bk p k = k) : (lstN p n)[(lstN p k).length]? = some k := by
 obtain ⟨l, hl⟩ := lstN_split p (show k + 1 ≤ n by omega)
 rw [hl, lstN_succ, if_pos hk, List.append_assoc, List.getElem?_append_right (Nat.le_refl _), Nat.sub_self]; rfl
theorem lstN_getD {p : List Int} {k n : Nat} (h : k < n) (hk : bk p k = k) : (lstN p n).getD (lstN p k).length 0 = k := by
 rw [List.getD_eq_getElem?_getD, lstN_at h hk]; rfl
section
variable {n : Nat} {p : List Int} (hp : Pt n p)
include hp
theorem nm_lt {x : Nat} (hx : x < n) : nmN p x < (lstN p n).length := (List.getElem?_eq_some_iff.1 (lstN_at (hp.lt hx) (hp.id x hx))).1
theorem lst_nm {x : Nat} (hx : x < n) : (lstN p n).getD (nmN p x) 0 = bk p x := lstN_getD (hp.lt hx) (hp.id x hx)
theorem lst_in {i : Nat} (hi : i < (lstN p n).length) : (lstN p n).getD i 0 < n ∧ bk p ((lstN p n).getD i 0) = (lstN p n).getD i 0 := by
 have : (lstN p n).getD i 0 ∈ lstN p n := by rw [List.getD_eq_getElem?_getD, List.getElem?_eq_getElem hi]; exact List.getElem_mem _
 exact lstN_mem.1 this
theorem nm_lst {i : Nat} (hi : i < (lstN p n).length) : nmN p ((lstN p n).getD i 0) = i := by
 obtain ⟨h1, h2⟩ := lst_in hp hi
 have h3 := nm_lt hp h1
 have h4 := lst_nm hp h1
 rw [h2] at h4
 have hnd : (lstN p n).Nodup := List.nodup_range.sublist List.filter_sublist
 have hpw := List.pairwise_iff_getElem.1 hnd
 generalize nmN p ((lstN p n).getD i 0) = k at *
 have ek : (lstN p n).getD k 0 = (lstN p n)[k] := by rw [List.getD_eq_getElem?_getD, List.getElem?_eq_getElem h3]; rfl
 have ei : (lstN p n).getD i 0 = (lstN p n)[i] := by rw [List.getD_eq_getElem?_getD, List.getElem?_eq_getElem hi]; rfl
 rw [ek, ei] at h4
 rcases Nat.lt_trichotomy k i with h | h | h
 · exact absurd h4 (hpw _ _ h3 hi h)
 · exact h
 · exact absurd h4.symm (hpw _ _ hi h3 h)
theorem nm_eq {x y : Nat} (hx : x < n) (hy : y < n) : nmN p x = nmN p y ↔ bk p x = bk p y := by
 constructor
 · intro h
   rw [← lst_nm hp hx, ← lst_nm hp hy, h]
 · intro h; unfold nmN; rw [h]
theorem lst_pos (hn : 0 < n) : 0 < (lstN p n).length := Nat.lt_of_le_of_lt (Nat.zero_le _) (nm_lt hp hn)
end
/-! ### The quotient -/
def quoC (n : Nat) (p : List Int) (f : OpD) (i : Nat) : Nat := nmN p (bk f.tb (mapI (lstN p n).length n (fun x => (lstN p n).getD x 0) f.ar.toNat i))
def quoT (n : Nat) (p : List Int) (f : OpD) (k : Nat) : List Int := (List.range k).map fun i => (quoC n p f i : Int)
def quoF (n : Nat) (p : List Int) (f : OpD) : OpD := ⟨f.ar, quoT n p f ((lstN p n).length ^ f.ar.toNat)⟩
def quoL (n : Nat) (p : List Int) (ops : List OpD) : List OpD := ops.map (quoF n p)
theorem quoT_len (n : Nat) (p : List Int) (f : OpD) (k : Nat) : (quoT n p f k).length = k := by simp [quoT]
theorem quoT_succ (n : Nat) (p : List Int) (f : OpD) (k : Nat) : quoT n p f (k + 1) = quoT n p f k ++ [(quoC n p f k : Int)] := by
 unfold quoT; rw [List.range_succ, List.map_append]; rfl
section
variable {n : Nat} {p : List Int} {ops : List OpD} (hn : 0 < n) (hp : Pt n p) (ho : opsIn n ops)
include hn hp ho
omit hn ho in
theorem quo_g : ∀ x, x < (lstN p n).length → (fun x => (lstN p n).getD x 0) x < n := fun _ hx => (lst_in hp hx).1
omit ho in
theorem quo_idx (a i : Nat) : mapI (lstN p n).length n (fun x => (lstN p n).getD x 0) a i < n ^ a := mapI_lt (lst_pos hp hn) (quo_g hp) a i
theorem quoC_lt {f : OpD} (hf : f ∈ ops) (i : Nat) : quoC n p f i < (lstN p n).length := nm_lt hp (((ho f hf).2.2.2 _ (quo_idx hn hp _ i)).2)
omit hn hp ho in
theorem quo_bk {f : OpD} {i : Nat} (hi : i < (lstN p n).length ^ f.ar.toNat) : bk (quoF n p f).tb i = quoC n p f i := by
 unfold bk quoF quoT
 dsimp only
 rw [List.getD_eq_getElem?_getD, List.getElem?_map, List.getElem?_range hi]; rfl
theorem quo_in : opsIn (lstN p n).length (quoL n p ops) := fun F hF => by
 obtain ⟨f, hf, rfl⟩ := List.mem_map.1 hF
 obtain ⟨h0, h3, hl, -⟩ := ho f hf
 refine ⟨h0, h3, quoT_len _ _ _ _, fun i hi => ?_⟩
 have hi : i < (lstN p n).length ^ f.ar.toNat := hi
 rw [quo_bk hi]
 have hlt := quoC_lt hn hp ho hf i
 refine ⟨?_, hlt⟩
 show 0 ≤ (quoT _ _ _ _).getD i 0
 unfold quoT
 rw [List.getD_eq_getElem?_getD, List.getElem?_map, List.getElem?_range hi]
 exact Int.natCast_nonneg _
theorem quo_hom (hc : Cong n ops p) {f : OpD} (hf : f ∈ ops) {i : Nat} (hi : i < n ^ f.ar.toNat) : nmN p (bk f.tb i) = bk (quoF n p f).tb (mapI n (lstN p n).length (nmN p) f.ar.toNat i) := by
 have hk := lst_pos hp hn
 have hg := fun x (hx : x < n) => nm_lt hp hx
 have hin := fun i hi => ((ho f hf).2.2.2 i hi).2
 rw [quo_bk (mapI_lt hn hg _ i)]
 unfold quoC
 rw [mapI_map hn hg]
 have e : ∀ x, x < n → (fun x => (lstN p n).getD (nmN p x) 0) x = bk p x := fun x hx => lst_nm hp hx
 rw [mapI_congr hn e, nm_eq hp (hin i hi) (hin _ (mapI_lt hn (fun x hx => hp.lt hx) _ i))]
 exact keeps_all hn (R := fun a b => bk p a = bk p b) (Q := fun a b => bk p a = bk p b) ⟨fun _ => rfl, fun h => h.symm, fun h g => h.trans g⟩ (fun x hx => hp.lt hx) (fun x hx => (hp.id x hx).symm) f.ar.toNat (fun i => bk f.tb i) (fun i hi j hj v hv hr => by
  have h1 := (cong_keeps hp).1 hc f hf i hi j hj (digN n i j) v (Nat.mod_lt _ hn) hv hr
  rwa [subN_self] at h1) i hi
end
end Go.Proofs.YtepjlgilopfnpaaGreat
/- Walks: the cursor that reads choices from bytes. -/
namespace Go.Proofs.YtepjlgilopfnpaaGreat
open Go Go.Pv Go.Proofs
set_option maxHeartbeats 32000000
set_option maxRecDepth 100000

theorem seq_of {α : Type} (P : Nat → α → Prop) (R : Nat → α → α → Prop) (x0 : α) (n : Nat) (h0 : P 0 x0) (h : ∀ k x, k < n → P k x → ∃ x', P (k + 1) x' ∧ R k x x') : ∃ F : Nat → α, F 0 = x0 ∧ (∀ k, k ≤ n → P k (F k)) ∧ ∀ k, k < n → R k (F k) (F (k + 1)) := by
 obtain ⟨f, hf⟩ : ∃ f : Nat × α → α, ∀ p, p.1 < n → P p.1 p.2 → P (p.1 + 1) (f p) ∧ R p.1 p.2 (f p) := Classical.axiomOfChoice (r := fun (p : Nat × α) (x' : α) => p.1 < n → P p.1 p.2 → P (p.1 + 1) x' ∧ R p.1 p.2 x') fun (p : Nat × α) => by
  rcases Classical.em (p.1 < n ∧ P p.1 p.2) with hp | hp
  · obtain ⟨x', hx⟩ := h p.1 p.2 hp.1 hp.2
    exact ⟨x', fun _ _ => hx⟩
  · exact ⟨p.2, fun h1 h2 => absurd ⟨h1, h2⟩ hp⟩
 have hP : ∀ k, k ≤ n → P k (Nat.rec x0 (fun k x => f (k, x)) k) := fun k => by
  induction k with
  | zero => exact fun _ => h0
  | succ k ih => exact fun hk => (hf (k, _) hk (ih (by omega))).1
 exact ⟨fun k => Nat.rec x0 (fun k x => f (k, x)) k, rfl, hP, fun k hk => (hf (k, _) hk (hP k (by omega))).2⟩
abbrev bytesP (l : List Int) : PV := .sl 1 none (l.map Y)
structure Cu where
 code : List Int
 pos : Int
 sd : Int
structure Cu.ok (c : Cu) (m : Int) : Prop where
 len : c.code.length ≤ 65536
 byte : ∀ i, i < c.code.length → 0 ≤ c.code.getD i 0 ∧ c.code.getD i 0 ≤ 255
 lo : 0 ≤ c.pos
 hi : c.pos ≤ m
 sd0 : 0 ≤ c.sd
structure bytesOk (l : List Int) : Prop where
 len : l.length ≤ 65536
 byte : ∀ i, i < l.length → 0 ≤ l.getD i 0 ∧ l.getD i 0 ≤ 255
abbrev cu0 (l : List Int) : Cu := ⟨l, 0, 0⟩
theorem cu0_ok {l : List Int} (h : bytesOk l) : (cu0 l).ok 0 := ⟨h.len, h.byte, Int.le_refl _, Int.le_refl _, Int.le_refl _⟩
abbrev cuB (c : Cu) : HO := .box [bytesP c.code, I c.pos, U c.sd]
def nextB (c : Cu) : Int := if c.pos < (c.code.length : Int) then IntKind.i64.wrap (c.code.getD c.pos.toNat 0) else 0
def nextS (c : Cu) : Int := IntKind.u64.wrap (IntKind.u64.wrap (IntKind.u64.wrap (c.sd * 6364136223846793005) + IntKind.u64.wrap (nextB c)) + 550289)
def nextX (c : Cu) : Int := if c.pos + 1 ≤ (c.code.length : Int) then nextB c else IntKind.i64.wrap (bits .and .u64 (nextS c / 1099511627776) 255)
def nextC (c : Cu) : Cu := ⟨c.code, c.pos + 1, nextS c⟩
theorem wrap_u64 (a : Int) : 0 ≤ IntKind.u64.wrap a ∧ IntKind.u64.wrap a ≤ 18446744073709551615 := by
 simp [IntKind.wrap, IntKind.bits, IntKind.signed]; omega
theorem nextB_in {c : Cu} {m : Int} (h : c.ok m) : 0 ≤ nextB c ∧ nextB c ≤ 255 := by
 unfold nextB
 have := h.lo
 split
 · have := h.byte c.pos.toNat (by omega)
   rw [IntWalk.i64_in _ (by omega)]
   exact this
 · omega
theorem nextC_ok {c : Cu} {m : Int} (h : c.ok m) : (nextC c).ok (m + 1) := by
 have h1 := h.lo
 have h2 := h.hi
 exact ⟨h.len, h.byte, by show 0 ≤ c.pos + 1; omega, by show c.pos + 1 ≤ m + 1; omega, (wrap_u64 _).1⟩
theorem nextX_in {c : Cu} {m : Int} (h : c.ok m) : 0 ≤ nextX c ∧ nextX c ≤ 255 := by
 unfold nextX
 split
 · exact nextB_in h
 · obtain ⟨s0, s1⟩ := wrap_u64 (IntKind.u64.wrap (IntKind.u64.wrap (c.sd * 6364136223846793005) + IntKind.u64.wrap (nextB c)) + 550289)
   have s0 : 0 ≤ nextS c := s0
   have s1 : nextS c ≤ 18446744073709551615 := s1
   obtain ⟨n, hn⟩ : ∃ n : Nat, nextS c / 1099511627776 = (n : Int) := ⟨(nextS c / 1099511627776).toNat, by omega⟩
   rw [hn, show (255 : Int) = ((255 : Nat) : Int) by rfl, bits_and_u64_nat n 255 (by omega) (by omega)]
   have := Nat.and_le_right (n := n) (m := 255)
   rw [IntWalk.i64_in _ (by omega)]
   omega
theorem idx_Y {l : List Int} {k : Nat} (h : k < l.length) : (l.map Y)[k]? = some (Y (l.getD k 0)) := by simp [h]
theorem next_L {c : Cu} {m : Int} (h : c.ok m) (hm : m ≤ 1000000) : LCalls Tryz.prog 168 (cuB c) [.hat 0 0] (cuB (nextC c)) (I (nextX c)) := by
 refine pcallsL1 Tryz.func168 rfl Tryz.ntmps168 rfl rfl rfl (by simp) fun b d => ?_
 simp only [List.length_cons, List.length_nil, Nat.reduceAdd, Nat.reduceSub, List.replicate_succ, List.replicate_zero]
 have h1 := h.len
 have h2 := h.lo
 have h3 := h.hi
 repeat' (first
| refine wO ?_
| refine zP zk zk ?_
| (refine o_go rfl ?_; (first
| refine p_p (ps_unv (ps_nilCheck_hat rfl rfl)) ?_
| refine p_p (ps_unv (zE rfl rfl)) ?_
| refine p_p (ps_unv (zH rfl rfl rfl rfl)) ?_
| refine p_p (ps_conv rfl Tryz.underlying3 rfl rfl) ?_
| refine p_p (ps_conv rfl Tryz.underlying84 rfl rfl) ?_
| refine p_p (ps_mulU rfl rfl rfl) ?_
| refine p_p (ps_addU rfl rfl rfl) ?_
| refine p_p (ps_shrU rfl rfl rfl zz zz) ?_
| refine p_p (ps_andU rfl rfl rfl) ?_
| refine p_p (zN rfl rfl rfl zz (by exact idx_Y zz) ze) ?_
| refine wS ?_
| refine p_e rfl (e_store_boxC rfl rfl rfl rfl aK rfl rfl) ?_); refine ⟨_, aB, ?_⟩)
| (refine zK rfl ?_ ?_ <;> intro hc <;> try omega)
| refine wE ?_)
 · refine krlh 0 0 rfl ?_ rfl (krI rfl ?_)
   · unfold nextC nextS nextB; rw [if_pos (by assumption)]
   · unfold nextX nextB; rw [if_pos hc, if_pos (by assumption)]
 · refine krlh 0 0 rfl ?_ rfl (krI rfl ?_)
   · unfold nextC nextS nextB; rw [if_neg (by assumption)]
   · unfold nextX nextS nextB; rw [if_neg hc, if_neg (by assumption)]; rfl
theorem pick_L {c : Cu} {m : Int} (h : c.ok m) (hm : m ≤ 999000) (n : Int) (hn : n ≤ 1000000) : ∃ c' x, c'.ok (m + 2) ∧ 0 ≤ x ∧ (n ≤ 1 ∧ x = 0 ∨ x < n) ∧ LCalls Tryz.prog 135 (cuB c) [.hat 0 0, I n] (cuB c') (I x) := by
 by_cases h1 : n ≤ 1
 · refine ⟨c, 0, ⟨h.len, h.byte, h.lo, by have := h.hi; omega, h.sd0⟩, Int.le_refl _, .inl ⟨h1, rfl⟩, ?_⟩
   refine pcallsL1 Tryz.func135 rfl Tryz.ntmps135 rfl rfl rfl (by simp) fun b d => ?_
   simp only [List.length_cons, List.length_nil, Nat.reduceAdd, Nat.reduceSub, List.replicate_succ, List.replicate_zero]
   repeat' (first
| refine wO ?_
| (refine o_go rfl ?_; (first
| refine wS ?_); refine ⟨_, aB, ?_⟩)
| (refine zK rfl ?_ ?_ <;> intro hc <;> try omega)
| refine wE ?_)
   exact krlh 0 0 rfl rfl rfl (krI rfl rfl)
 · have n1 := next_L h (by omega)
   have k1 := nextC_ok h
   have x1 := nextX_in h
   by_cases h2 : 200 < n
   · have n2 := next_L k1 (by omega)
     have k2 := nextC_ok k1
     have x2 := nextX_in k1
     have e0 : 0 ≤ (nextX c * 256 + nextX (nextC c)) % n := Int.emod_nonneg _ (by omega)
     have e1 : (nextX c * 256 + nextX (nextC c)) % n < n := Int.emod_lt_of_pos _ (by omega)
     refine ⟨nextC (nextC c), (nextX c * 256 + nextX (nextC c)) % n, by rw [show m + 2 = m + 1 + 1 by omega]; exact k2, e0, .inr e1, ?_⟩
     refine pcallsL1 Tryz.func135 rfl Tryz.ntmps135 rfl rfl rfl (by simp) fun b d => ?_
     simp only [List.length_cons, List.length_nil, Nat.reduceAdd, Nat.reduceSub, List.replicate_succ, List.replicate_zero]
     repeat' (first
| refine wO ?_
| (refine o_go rfl ?_; (first
| refine p_e rfl (e_callL (n := 0) rfl rfl rfl aL rfl (by rfl) aT (n1)) ?_
| refine p_e rfl (e_callL (n := 0) rfl rfl rfl aL rfl (by rfl) aT (n2)) ?_
| refine p_p (ps_mul rfl rfl rfl aO) ?_
| refine p_p (ps_rem rfl rfl rfl zz zz) ?_
| refine wS ?_); refine ⟨_, aB, ?_⟩)
| (refine zK rfl ?_ ?_ <;> intro hc <;> try omega)
| refine wE ?_)
     exact krlh 0 0 rfl rfl rfl (krI rfl rfl)
   · have e0 : 0 ≤ nextX c % n := Int.emod_nonneg _ (by omega)
     have e1 : nextX c % n < n := Int.emod_lt_of_pos _ (by omega)
     refine ⟨nextC c, nextX c % n, ⟨k1.len, k1.byte, k1.lo, by have := k1.hi; omega, k1.sd0⟩, e0, .inr e1, ?_⟩
     refine pcallsL1 Tryz.func135 rfl Tryz.ntmps135 rfl rfl rfl (by simp) fun b d => ?_
     simp only [List.length_cons, List.length_nil, Nat.reduceAdd, Nat.reduceSub, List.replicate_succ, List.replicate_zero]
     repeat' (first
| refine wO ?_
| (refine o_go rfl ?_; (first
| refine p_e rfl (e_callL (n := 0) rfl rfl rfl aL rfl (by rfl) aT (n1)) ?_
| refine p_p (ps_rem rfl rfl rfl zz zz) ?_
| refine wS ?_); refine ⟨_, aB, ?_⟩)
| (refine zK rfl ?_ ?_ <;> intro hc <;> try omega)
| refine wE ?_)
     exact krlh 0 0 rfl rfl rfl (krI rfl rfl)
theorem one_L {c : Cu} {m : Int} (h : c.ok m) (hm : m ≤ 999000) (n : Int) (hn : n ≤ 1000000) : ∃ c' b, c'.ok (m + 2) ∧ LCalls Tryz.prog 134 (cuB c) [.hat 0 0, I n] (cuB c') (B b) := by
 obtain ⟨c', x, k, x0, -, hc⟩ := pick_L h hm n hn
 refine ⟨c', decide (x = 0), k, ?_⟩
 refine pcallsL1 Tryz.func134 rfl Tryz.ntmps134 rfl rfl rfl (by simp) fun b d => ?_
 simp only [List.length_cons, List.length_nil, Nat.reduceAdd, Nat.reduceSub, List.replicate_succ, List.replicate_zero]
 repeat' (first
| refine wO ?_
| (refine o_go rfl ?_; (first
| refine p_e rfl (e_callL (n := 0) rfl rfl rfl aL rfl (by rfl) aT (hc)) ?_
| refine wS ?_); refine ⟨_, aB, ?_⟩)
| refine wE ?_)
 exact krlh 0 0 rfl rfl rfl (krB rfl rfl)
theorem among_L {c : Cu} {m : Int} (h : c.ok m) (hm : m ≤ 999000) (l : List Int) (hl : 0 < l.length) (hl2 : l.length ≤ 1000) : ∃ c' x, c'.ok (m + 2) ∧ x ∈ l ∧ LCalls Tryz.prog 89 (cuB c) [.hat 0 0, ints l] (cuB c') (I x) := by
 obtain ⟨c', x, k, x0, x1, hc⟩ := pick_L h hm (l.length : Int) (by omega)
 have hx : x < (l.length : Int) := by omega
 refine ⟨c', l.getD x.toNat 0, k, ?_, ?_⟩
 · rw [List.getD_eq_getElem?_getD, List.getElem?_eq_getElem (show x.toNat < l.length by omega)]
   exact List.getElem_mem _
 refine pcallsL1 Tryz.func89 rfl Tryz.ntmps89 rfl rfl rfl (by simp) fun b d => ?_
 simp only [List.length_cons, List.length_nil, Nat.reduceAdd, Nat.reduceSub, List.replicate_succ, List.replicate_zero]
 repeat' (first
| refine wO ?_
| (refine o_go rfl ?_; (first
| refine p_e rfl (e_callL (n := 0) rfl rfl rfl aL rfl (by rfl) aT (hc)) ?_
| refine p_p (zN rfl rfl rfl zz (by exact idx_I zz) ze) ?_
| refine wS ?_); refine ⟨_, aB, ?_⟩)
| refine wE ?_)
 exact krlh 0 0 rfl rfl rfl (krI rfl rfl)
end Go.Proofs.YtepjlgilopfnpaaGreat
