/- Plain: congruences that permute, distributive ones, elements that solve congruences together. -/
import Derived.Laws.Small
import Derived.Test.YtepjlgilopfnpaaGreatJKb
import Derived.Test.YtepjlgilopfnpaaGreatJKo
import Derived.Test.YtepjlgilopfnpaaGreatJKf
import Derived.Test.YtepjlgilopfnpaaGreatJSt
import Derived.Test.YtepjlgilopfnpaaGreatJYw
import Derived.Test.YtepjlgilopfnpaaGreatJKl
import Derived.Test.YtepjlgilopfnpaaGreatJKj
import Derived.Test.YtepjlgilopfnpaaGreatJHn
import Derived.Test.YtepjlgilopfnpaaGreatJKy
import Derived.Test.YtepjlgilopfnpaaGreatJSq
set_option linter.unusedSectionVars false
namespace Go.Proofs.YtepjlgilopfnpaaGreat
open Go Go.Pv Go.Proofs

def Prd (n : Nat) (p q : List Int) (x z : Nat) : Prop := ∃ y, y < n ∧ bk p x = bk p y ∧ bk q y = bk q z
def Prm (n : Nat) (p q : List Int) : Prop := ∀ x z, x < n → z < n → Prd n p q x z → Prd n q p x z
theorem Prd.swap {n : Nat} {p q : List Int} {x z : Nat} (h : Prd n p q x z) : Prd n q p z x := by
 obtain ⟨y, hy, h1, h2⟩ := h
 exact ⟨y, hy, h2.symm, h1.symm⟩
theorem Prm.symm {n : Nat} {p q : List Int} (h : Prm n p q) : Prm n q p := fun x z hx hz hp => (h z x hz hx hp.swap).swap
theorem prd_join {n : Nat} {p q : List Int} (hp : Pt n p) (hq : Pt n q) {x z : Nat} (hx : x < n) (hz : z < n) (h : Prd n p q x z) : bk (joinP n p q) x = bk (joinP n p q) z := by
 obtain ⟨y, hy, h1, h2⟩ := h
 exact (fi_R (join_fi1 hp hq) hx hy h1).trans (fi_R (join_fi2 hp hq) hy hz h2)
theorem prm_join {n : Nat} {p q : List Int} (hp : Pt n p) (hq : Pt n q) (h : Prm n p q) {x z : Nat} (hx : x < n) (hz : z < n) : bk (joinP n p q) x = bk (joinP n p q) z ↔ Prd n p q x z := by
 refine ⟨fun he => ?_, prd_join hp hq hx hz⟩
 let E : Nat → Nat → Prop := fun a b => (a < n ∧ b < n ∧ Prd n p q a b) ∨ a = b
 have hE : Equivalence E := by
  refine ⟨fun a => .inr rfl, fun {a b} hab => ?_, fun {a b c} hab hbc => ?_⟩
  · rcases hab with ⟨h1, h2, h3⟩ | rfl
    · exact .inl ⟨h2, h1, h.symm _ _ h2 h1 h3.swap⟩
    · exact .inr rfl
  · rcases hab with ⟨h1, h2, y, hy, y1, y2⟩ | rfl
    · rcases hbc with ⟨-, g2, w, hw, w1, w2⟩ | rfl
      · -- a p y q b p w q c : y (q p) w, so y (p q) w
        obtain ⟨u, hu, u1, u2⟩ := h.symm y w hy hw ⟨b, h2, y2, w1⟩
        exact .inl ⟨h1, g2, u, hu, y1.trans u1, u2.trans w2⟩
      · exact .inl ⟨h1, h2, y, hy, y1, y2⟩
    · exact hbc
 have key := join_leastE hp hq hE (fun z hz => .inl ⟨hp.lt hz, hz, z, hz, hp.id z hz, rfl⟩) (fun z hz => .inl ⟨hq.lt hz, hz, bk q z, hq.lt hz, rfl, hq.id z hz⟩)
 have h1 : E (bk (joinP n p q) x) x := key x hx
 have h2 : E (bk (joinP n p q) z) z := key z hz
 rw [he] at h1
 rcases hE.trans (hE.symm h1) h2 with ⟨-, -, h3⟩ | rfl
 · exact h3
 · exact ⟨x, hx, rfl, rfl⟩
/-! ### The partition with one block -/
def fullL (n : Nat) : List Int := List.replicate n 0
theorem bk_full (n x : Nat) : bk (fullL n) x = 0 := by
 unfold bk fullL
 rw [List.getD_eq_getElem?_getD, List.getElem?_replicate]
 split <;> rfl
theorem full_pt (n : Nat) : Pt n (fullL n) := by
 refine ⟨by simp [fullL], fun x hx => ?_, fun x _ => by rw [bk_full]; exact Nat.zero_le _, fun x _ => by rw [bk_full, bk_full]⟩
 unfold fullL
 rw [List.getD_eq_getElem?_getD, List.getElem?_replicate, if_pos hx]; exact Int.le_refl _
/-! ### Distributive congruences -/
end Go.Proofs.YtepjlgilopfnpaaGreat
/- The layer: a drawn region walked in each order, states shared. -/
namespace Go.Pv
open Go
attribute [local semireducible] Go.Pv.Goal Go.Pv.Ops Go.Pv.PStep Go.Pv.EStep Go.Pv.KRets Go.Pv.PCalls Go.Pv.OpsG
theorem at_reg0 {P : Program} {K : Exit → St → Prop} {S : St} {ops : Array Oper} {dr : Bool} (id : Nat) (h : Goal P (Code.region id ops dr) K S) : Goal P (Code.region id ops dr) K S := h
end Go.Pv
/- Plain: congruences of a quotient and those above the congruence. -/
namespace Go.Proofs.YtepjlgilopfnpaaGreat
open Go Go.Pv Go.Proofs

theorem kerE_facts {l : List Int} {x : Nat} (hx : x < l.length) : kerE l x ≤ x ∧ l.getD (kerE l x) 0 = l.getD x 0 ∧ ∀ y, y < kerE l x → l.getD y 0 ≠ l.getD x 0 := by
 unfold kerE
 obtain ⟨h1, h2, h3⟩ := fstN_spec (P := fun y => decide (l.getD y 0 = l.getD x 0)) hx (by simp)
 exact ⟨h1, by simpa using h2, fun y hy => by simpa using h3 y hy⟩
theorem ker_getD {l : List Int} {x : Nat} (hx : x < l.length) : (kerL l).getD x 0 = (kerE l x : Int) := by
 unfold kerL
 rw [List.getD_eq_getElem?_getD, List.getElem?_map, List.getElem?_range hx]; rfl
theorem ker_bk {l : List Int} {x : Nat} (hx : x < l.length) : bk (kerL l) x = kerE l x := by unfold bk; rw [ker_getD hx]; rfl
theorem kerE_same {l : List Int} {x y : Nat} (h : l.getD x 0 = l.getD y 0) : kerE l x = kerE l y := by unfold kerE; rw [h]
theorem ker_pt {n : Nat} {l : List Int} (hl : l.length = n) : Pt n (kerL l) := by
 refine ⟨by simp [kerL, hl], fun x hx => ?_, fun x hx => ?_, fun x hx => ?_⟩
 · rw [ker_getD (by omega)]; exact Int.natCast_nonneg _
 · rw [ker_bk (by omega)]; exact (kerE_facts (by omega)).1
 · obtain ⟨h1, h2, -⟩ := kerE_facts (l := l) (x := x) (by omega)
   rw [ker_bk (x := x) (by omega), ker_bk (by omega)]
   exact kerE_same h2
theorem ker_R {l : List Int} {x y : Nat} (hx : x < l.length) (hy : y < l.length) : bk (kerL l) x = bk (kerL l) y ↔ l.getD x 0 = l.getD y 0 := by
 rw [ker_bk hx, ker_bk hy]
 refine ⟨fun h => ?_, kerE_same⟩
 rw [← (kerE_facts hx).2.1, ← (kerE_facts hy).2.1, h]
theorem pt_R {n : Nat} {p q : List Int} (hp : Pt n p) (hq : Pt n q) (h : ∀ x y, x < n → y < n → (bk p x = bk p y ↔ bk q x = bk q y)) : p = q :=
 fi_antisymm hp hq ((fi_iff hp).2 fun x y hx hy he => (h x y hx hy).1 he) ((fi_iff hq).2 fun x y hx hy he => (h x y hx hy).2 he)
def natL (n : Nat) (p : List Int) : List Int := (List.range n).map fun x => (nmN p x : Int)
def lftV (n : Nat) (p q : List Int) : List Int := (List.range n).map fun x => q.getD (nmN p x) 0
def liftP (n : Nat) (p q : List Int) : List Int := kerL (lftV n p q)
def pshV (n : Nat) (p q : List Int) : List Int := (lstN p n).map fun x => q.getD x 0
def pushP (n : Nat) (p q : List Int) : List Int := kerL (pshV n p q)
theorem nat_getD {n x : Nat} {p : List Int} (hx : x < n) : (natL n p).getD x 0 = (nmN p x : Int) := getD_map_range _ _ _ hx
theorem lft_getD {n x : Nat} {p q : List Int} (hx : x < n) : (lftV n p q).getD x 0 = q.getD (nmN p x) 0 := getD_map_range _ _ _ hx
theorem psh_getD {n i : Nat} {p q : List Int} (hi : i < (lstN p n).length) : (pshV n p q).getD i 0 = q.getD ((lstN p n).getD i 0) 0 := by
 unfold pshV
 simp [List.getD_eq_getElem?_getD, hi]
theorem lift_pt {n : Nat} {p q : List Int} : Pt n (liftP n p q) := ker_pt (by simp [lftV])
theorem push_pt6 {n : Nat} {p q : List Int} : Pt (lstN p n).length (pushP n p q) := ker_pt (by simp [pshV])
section
variable {n : Nat} {p : List Int} (hp : Pt n p)
include hp
theorem lift_R {q : List Int} (hq : Pt (lstN p n).length q) {x y : Nat} (hx : x < n) (hy : y < n) : bk (liftP n p q) x = bk (liftP n p q) y ↔ bk q (nmN p x) = bk q (nmN p y) := by
 have hl : (lftV n p q).length = n := by simp [lftV]
 unfold liftP
 rw [ker_R (by omega) (by omega), lft_getD hx, lft_getD hy, hq.val (nm_lt hp hx), hq.val (nm_lt hp hy)]
 omega
theorem push_R {r : List Int} (hr : Pt n r) {i j : Nat} (hi : i < (lstN p n).length) (hj : j < (lstN p n).length) : bk (pushP n p r) i = bk (pushP n p r) j ↔ bk r ((lstN p n).getD i 0) = bk r ((lstN p n).getD j 0) := by
 have hl : (pshV n p r).length = (lstN p n).length := by simp [pshV]
 unfold pushP
 rw [ker_R (by omega) (by omega), psh_getD hi, psh_getD hj, hr.val (lst_in hp hi).1, hr.val (lst_in hp hj).1]
 omega
theorem lift_fi {q : List Int} (hq : Pt (lstN p n).length q) : Fi n p (liftP n p q) := (fi_iff hp).2 fun x y hx hy he => (lift_R hp hq hx hy).2 (by rw [(nm_eq hp hx hy).2 he])
theorem push_lift {q : List Int} (hq : Pt (lstN p n).length q) : pushP n p (liftP n p q) = q := pt_R push_pt6 hq fun i j hi hj => by
 rw [push_R hp lift_pt hi hj, lift_R hp hq (lst_in hp hi).1 (lst_in hp hj).1, nm_lst hp hi, nm_lst hp hj]
theorem lift_push {r : List Int} (hr : Pt n r) (hf : Fi n p r) : liftP n p (pushP n p r) = r := pt_R lift_pt hr fun x y hx hy => by
 rw [lift_R hp push_pt6 hx hy, push_R hp hr (nm_lt hp hx) (nm_lt hp hy), lst_nm hp hx, lst_nm hp hy, hf x hx, hf y hy]
variable {ops : List OpD} (hn : 0 < n) (ho : opsIn n ops) (hc : Cong n ops p)
include hn ho hc
theorem lift_cong {q : List Int} (hq : Pt (lstN p n).length q) (cq : Cong (lstN p n).length (quoL n p ops) q) : Cong n ops (liftP n p q) := by
 rw [cong_keeps lift_pt]
 intro f hf i hi j hj a b ha hb he
 have hin := fun i hi => ((ho f hf).2.2.2 i hi).2
 have hg := fun x (hx : x < n) => nm_lt hp hx
 rw [lift_R hp hq (hin _ (sub_lt hi hj ha)) (hin _ (sub_lt hi hj hb)), quo_hom hn hp ho hc hf (sub_lt hi hj ha), quo_hom hn hp ho hc hf (sub_lt hi hj hb), mapI_sub hn hg _ _ _ _ hj ha, mapI_sub hn hg _ _ _ _ hj hb]
 exact (cong_keeps hq).1 cq (quoF n p f) (List.mem_map.2 ⟨f, hf, rfl⟩) _ (mapI_lt hn hg _ i) j hj _ _ (hg a ha) (hg b hb) ((lift_R hp hq ha hb).1 he)
theorem push_cong {r : List Int} (hr : Pt n r) (hf : Fi n p r) (cr : Cong n ops r) : Cong (lstN p n).length (quoL n p ops) (pushP n p r) := by
 rw [cong_keeps push_pt6]
 intro F hF i hi j hj a b ha hb he
 obtain ⟨f, hfm, rfl⟩ := List.mem_map.1 hF
 have hi : i < (lstN p n).length ^ f.ar.toNat := hi
 have hj : j < f.ar.toNat := hj
 have hk := lst_pos hp hn
 have hg := quo_g hp
 have hin := fun i hi => ((ho f hfm).2.2.2 i hi).2
 have key : ∀ v, v < (lstN p n).length → bk r ((lstN p n).getD (bk (quoF n p f).tb (subN (lstN p n).length i j v)) 0) = bk r (bk f.tb (subN n (mapI (lstN p n).length n (fun x => (lstN p n).getD x 0) f.ar.toNat i) j ((lstN p n).getD v 0))) := fun v hv => by
  have hs := sub_lt hi hj hv
  rw [quo_bk hs]
  unfold quoC
  have hb := hin _ (quo_idx hn hp f.ar.toNat (subN (lstN p n).length i j v))
  rw [lst_nm hp hb, hf _ hb, mapI_sub hk hg _ _ _ _ hj hv]
 have hlt := fun v (hv : v < (lstN p n).length) => by
  have := quoC_lt hn hp ho hfm (subN (lstN p n).length i j v)
  rw [← quo_bk (sub_lt hi hj hv)] at this
  exact this
 rw [push_R hp hr (hlt a ha) (hlt b hb), key a ha, key b hb]
 exact (cong_keeps hr).1 cr f hfm _ (quo_idx hn hp _ i) j hj _ _ (lst_in hp ha).1 (lst_in hp hb).1 ((push_R hp hr ha hb).1 he)
theorem lift_mem {r : List Int} : r ∈ (allL (lstN p n).length (quoL n p ops)).map (liftP n p) ↔ r ∈ allL n ops ∧ Fi n p r := by
 rw [List.mem_map]
 constructor
 · rintro ⟨q, hq, rfl⟩
   obtain ⟨h1, h2⟩ := allL_mem.1 hq
   exact ⟨allL_mem.2 ⟨lift_pt, lift_cong hp hn ho hc h1 h2⟩, lift_fi hp h1⟩
 · rintro ⟨hr, hf⟩
   obtain ⟨h1, h2⟩ := allL_mem.1 hr
   exact ⟨pushP n p r, allL_mem.2 ⟨push_pt6, push_cong hp hn ho hc h1 hf h2⟩, lift_push hp h1 hf⟩
end
/-! ### The quotient of a quotient -/
section
variable {n : Nat} {p q : List Int} (hp : Pt n p) (hq : Pt (lstN p n).length q)
include hp
theorem lst_mono {i j : Nat} (hij : i < j) (hj : j < (lstN p n).length) : (lstN p n).getD i 0 < (lstN p n).getD j 0 := by
 have hpw : (lstN p n).Pairwise (· < ·) := List.pairwise_lt_range.sublist List.filter_sublist
 have := List.pairwise_iff_getElem.1 hpw i j (by omega) hj hij
 simpa [List.getD_eq_getElem?_getD, hj, show i < (lstN p n).length by omega] using this
include hq
theorem lift_bk {x : Nat} (hx : x < n) : bk (liftP n p q) x = (lstN p n).getD (bk q (nmN p x)) 0 := by
 have hl : (lftV n p q).length = n := by simp [lftV]
 have hnm := nm_lt hp hx
 have hqn := hq.lt hnm
 obtain ⟨h1, h2⟩ := lst_in hp hqn
 unfold liftP
 rw [ker_bk (by omega)]
 refine kerE_eq (by omega) ?_ fun y hy => ?_
 · rw [lft_getD h1, lft_getD hx, nm_lst hp hqn, hq.val hqn, hq.val hnm, hq.id _ hnm]
 · have hyn : y < n := by omega
   rw [lft_getD hyn, lft_getD hx, hq.val (nm_lt hp hyn), hq.val hnm]
   intro he
   have he : bk q (nmN p y) = bk q (nmN p x) := Int.ofNat.inj he
   have hle := hq.le _ (nm_lt hp hyn)
   rw [he] at hle
   have h3 : (lstN p n).getD (nmN p y) 0 ≤ y := by rw [lst_nm hp hyn]; exact hp.le y hyn
   rcases Nat.lt_or_ge (bk q (nmN p x)) (nmN p y) with h | h
   · have := lst_mono hp h (nm_lt hp hyn); omega
   · have : bk q (nmN p x) = nmN p y := by omega
     rw [this] at hy; omega
theorem lift_least {k : Nat} (hk : k ≤ (lstN p n).length) : lstN (liftP n p q) ((lstN p n).getD k n) = (lstN q k).map fun i => (lstN p n).getD i 0 := by
 have hpw : (lstN p n).Pairwise (· < ·) := List.pairwise_lt_range.sublist List.filter_sublist
 have hsub : ∀ i, i < k → i < (lstN p n).length := fun i hi => by omega
 have hin : ∀ i, i < (lstN p n).length → (lstN p n).getD i n = (lstN p n).getD i 0 := fun i hi => by simp [List.getD_eq_getElem?_getD, hi]
 have hkn : (lstN p n).getD k n ≤ n := by
  rcases Nat.lt_or_ge k (lstN p n).length with h | h
  · rw [hin k h]; have := (lst_in hp h).1; omega
  · rw [List.getD_eq_getElem?_getD, List.getElem?_eq_none h]; exact Nat.le_refl _
 -- both are ascending with the same members
 have a1 : (lstN (liftP n p q) ((lstN p n).getD k n)).Pairwise (· < ·) := List.pairwise_lt_range.sublist List.filter_sublist
 have a2 : ((lstN q k).map fun i => (lstN p n).getD i 0).Pairwise (· < ·) := by
  refine List.pairwise_map.2 (List.Pairwise.imp_of_mem (R := fun a b => a < b) (fun {a b} ha hb hab => ?_) (List.pairwise_lt_range.sublist List.filter_sublist))
  exact lst_mono hp hab (hsub b (lstN_mem.1 hb).1)
 refine List.Perm.eq_of_pairwise (fun a b _ _ h1 h2 => absurd (Nat.lt_trans h1 h2) (Nat.lt_irrefl _)) a1 a2 ((List.perm_ext_iff_of_nodup (a1.imp fun h => Nat.ne_of_lt h) (a2.imp fun h => Nat.ne_of_lt h)).2 fun x => ?_)
 rw [lstN_mem, List.mem_map]
 constructor
 · rintro ⟨h1, h2⟩
   have hxn : x < n := by omega
   rw [lift_bk hp hq hxn] at h2
   have hnm := nm_lt hp hxn
   have hqn := hq.lt hnm
   have hb : bk q (bk q (nmN p x)) = bk q (nmN p x) := hq.id _ hnm
   refine ⟨bk q (nmN p x), lstN_mem.2 ⟨?_, hb⟩, h2⟩
   rcases Nat.lt_or_ge (bk q (nmN p x)) k with h | h
   · exact h
   · exfalso
     have hkl : k < (lstN p n).length := by omega
     rw [hin k hkl] at h1
     rcases Nat.lt_or_ge k (bk q (nmN p x)) with h' | h'
     · have := lst_mono hp h' hqn; omega
     · have : bk q (nmN p x) = k := by omega
       rw [this] at h2; omega
 · rintro ⟨i, hi, rfl⟩
   obtain ⟨i1, i2⟩ := lstN_mem.1 hi
   have hil := hsub i i1
   obtain ⟨g1, g2⟩ := lst_in hp hil
   refine ⟨?_, ?_⟩
   · rcases Nat.lt_or_ge k (lstN p n).length with h | h
     · rw [hin k h]; exact lst_mono hp i1 h
     · rw [List.getD_eq_getElem?_getD (l := lstN p n) (i := k), List.getElem?_eq_none h]; exact g1
   · rw [lift_bk hp hq g1, nm_lst hp hil, i2]
theorem lift_lst : lstN (liftP n p q) n = (lstN q (lstN p n).length).map fun i => (lstN p n).getD i 0 := by
 have := lift_least hp hq (Nat.le_refl _)
 rwa [List.getD_eq_getElem?_getD, List.getElem?_eq_none (Nat.le_refl _)] at this
end
end Go.Proofs.YtepjlgilopfnpaaGreat
/- Plain: homomorphisms; the natural map of a congruence. -/
namespace Go.Proofs.YtepjlgilopfnpaaGreat
open Go Go.Pv Go.Proofs
theorem nat_len (n : Nat) (p : List Int) : (natL n p).length = n := by simp [natL]
end Go.Proofs.YtepjlgilopfnpaaGreat
/- Walks: products and powers, the reference's side. -/
namespace Go.Proofs.YtepjlgilopfnpaaGreat
open Go Go.Pv Go.Proofs

theorem snoc_ops {L : List OpD} {f : OpD} : (rowsO (L ++ [f])).map (fun r => r.map I) = (rowsO L).map (fun r => r.map I) ++ [I f.ar :: f.tb.map I] := by
 simp only [rowsO, List.map_append, List.map_cons, List.map_nil]
theorem rowsO_len (L : List OpD) : ((rowsO L).map fun r => r.map I).length = L.length := by rw [List.length_map, List.length_map]
end Go.Proofs.YtepjlgilopfnpaaGreat
/- Walks: the laws' looks at tables. -/
namespace Go.Proofs.YtepjlgilopfnpaaGreat
open Go Go.Pv Go.Proofs
set_option maxHeartbeats 32000000
set_option maxRecDepth 100000

theorem rintsY_c (xs ys : List Int) (hl : xs.length ≤ 9223372036854775807) (_hm : ys.length ≤ 9223372036854775807) : PCalls Tryz.prog 67 [ints xs, ints ys] (B (decide (xs = ys))) := by
 refine pcalls1 Tryz.func67 rfl Tryz.ntmps67 rfl ?_
 refine wF ?_
 repeat' (first
| refine wO ?_
| (refine o_go rfl ?_; (first
| refine wS ?_); refine ⟨_, aB, ?_⟩)
| (refine g_condN rfl ?_ ?_ <;> intro hc <;> try omega)
| refine kr1 ?_
| refine krB rfl ?_
| refine wE ?_)
 · exact Eq.symm (decide_eq_false fun e => hc (by rw [e]))
 have hlen : xs.length = ys.length := by omega
 refine g_loopT (α := Nat) (fun k => [(5, I k)]) (fun _ => []) (fun k => k ≤ xs.length ∧ xs.take k = ys.take k) (fun k => xs.length - k) 0 aH ⟨Nat.zero_le _, by simp⟩ ⟨rfl, trivial⟩ rfl ?_
 clear hc
 rintro k ⟨hk, hno⟩
 refine wH ?_
 repeat' (first
| refine wO ?_
| refine zP zk zk ?_
| (refine o_go rfl ?_; (first
| refine wS ?_
| refine p_p (zN rfl rfl rfl zz aQ ze) ?_); refine ⟨_, aB, ?_⟩)
| (refine g_condN rfl ?_ ?_ <;> intro hc <;> try omega)
| (refine zK rfl ?_ ?_ <;> intro hc <;> try omega)
| refine kr1 ?_
| refine krB rfl ?_
| refine wE ?_)
 · exact Eq.symm (decide_eq_false (eq_at (k := k) 0 hc))
 · refine zT (k + 1) ⟨by omega, ?_⟩ (by omega) aI ⟨rfl, trivial⟩ (zM _)
   rw [take_snoc 0 (by omega), take_snoc 0 (by omega), hno, hc]
 · rw [(take_full hk hc).1, show k = ys.length by omega, List.take_length] at hno
   exact Eq.symm (decide_eq_true hno)
theorem rtable_c (V : List (List Int)) (hl : V.length ≤ 1048576) (hV : ∀ r ∈ V, r.length ≤ 1048576) : PCalls Tryz.prog 24 [intss V, intss V] (B true) := by
 refine pcalls1 Tryz.func24 rfl Tryz.ntmps24 rfl ?_
 refine wF ?_
 repeat' (first
| refine wO ?_
| (refine o_go rfl ?_; (first
| refine wS ?_); refine ⟨_, aB, ?_⟩)
| (refine g_condN rfl ?_ ?_ <;> intro hc <;> try omega)
| refine wE ?_)
 all_goals try (exfalso; omega)
 refine g_loopT (α := Nat) (fun k => [(5, I (k : Int))]) (fun _ => []) (fun k => k ≤ V.length) (fun k => V.length - k) 0 aH (Nat.zero_le _) ⟨rfl, trivial⟩ rfl ?_
 rintro k hk
 refine wH ?_
 by_cases hkl : k < V.length
 · have hrow := rows_at hkl
   have hm := hV _ (rows_mem hkl)
   have h1 := rintsY_c (V.getD k []) (V.getD k []) (by omega) (by omega)
   rw [decide_eq_true rfl] at h1
   repeat' (first
| refine wO ?_
| refine zP zk zk ?_
| (refine o_go rfl ?_; (first
| refine p_p (zG rfl rfl aD (h1)) ?_
| refine p_p (zN rfl rfl rfl zz hrow ze) ?_
| refine wS ?_); refine ⟨_, aB, ?_⟩)
| (refine zK rfl ?_ ?_ <;> intro hc <;> try omega)
| refine wE ?_)
   all_goals try (exfalso; omega)
   exact zT (k + 1) (by omega) (by omega) aI ⟨rfl, trivial⟩ (zM _)
 · repeat' (first
| refine wO ?_
| (refine o_go rfl ?_; (first
| refine wS ?_); refine ⟨_, aB, ?_⟩)
| (refine zK rfl ?_ ?_ <;> intro hc <;> try omega)
| refine kr1 ?_
| refine krB rfl ?_
| refine wE ?_)
   all_goals first | rfl | (exfalso; omega)
end Go.Proofs.YtepjlgilopfnpaaGreat
/- The reference's draw of an algebra: it is there, and small. -/
namespace Go.Proofs.YtepjlgilopfnpaaGreat
open Go Go.Pv Go.Proofs

theorem least_of {p : Nat → Prop} (h : ∃ n, p n) : ∃ n, p n ∧ ∀ m, m < n → ¬ p m := by
 obtain ⟨n, hn⟩ := h
 induction n using Nat.strongRecOn with
 | _ n ih =>
  by_cases hx : ∃ m, m < n ∧ p m
  · obtain ⟨m, h1, h2⟩ := hx; exact ih m h1 h2
  · exact ⟨n, hn, fun m hm hp => hx ⟨m, hm, hp⟩⟩
theorem smA_app {l : List OpD} (h1 : l.length ≤ 6) (h2 : ∀ f ∈ l, f.tb.length ≤ 30) : smA l := by
 refine ⟨?_, ?_⟩
 · omega
 · intro f hf; exact Nat.le_trans (h2 f hf) (by decide)
end Go.Proofs.YtepjlgilopfnpaaGreat
/- Walks: drawn names. -/
namespace Go.Proofs.YtepjlgilopfnpaaGreat
open Go Go.Pv Go.Proofs
theorem Cu.ok.le {c : Cu} {m m' : Int} (h : c.ok m) (hm : m ≤ m') : c.ok m' := ⟨h.len, h.byte, h.lo, Int.le_trans h.hi hm, h.sd0⟩
end Go.Proofs.YtepjlgilopfnpaaGreat
