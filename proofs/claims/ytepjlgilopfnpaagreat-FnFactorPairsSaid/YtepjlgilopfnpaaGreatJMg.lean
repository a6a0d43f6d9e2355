/- Sorting: sort.SliceStable puts any number of elements in order (the library's merge with rotations, walked over any program). -/
import Derived.Shelf.GgSortMore.Stable
import Derived.Sort.LotA
import Derived.Sort.LotD2
import Derived.Sort.Lot0
set_option linter.unusedSectionVars false
namespace Go.Mrg
open Go.Sort
variable {α : Type} [Inhabited α] {lt : α → α → Bool}

def swapR (d : Array α) (a b : Nat) : Nat → Array α
 | 0 => d
 | n + 1 => swp (swapR d a b n) (a + n) (b + n)
theorem size_swapR (d : Array α) (a b : Nat) : ∀ n, (swapR d a b n).size = d.size
 | 0 => rfl
 | n + 1 => by rw [swapR, swp_size, size_swapR d a b n]
theorem get_swapR (d : Array α) {a b : Nat} : ∀ (n : Nat), a + n ≤ b → b + n ≤ d.size → ∀ k, (swapR d a b n)[k]! = if a ≤ k ∧ k < a + n then d[k - a + b]! else if b ≤ k ∧ k < b + n then d[k - b + a]! else d[k]!
 | 0, _, _, k => by rw [if_neg (by omega), if_neg (by omega)]; rfl
 | n + 1, h1, h2, k => by
  rw [swapR, swp_get _ (by rw [size_swapR]; omega) (by rw [size_swapR]; omega)]
  have ih := get_swapR d (a := a) (b := b) n (by omega) (by omega)
  by_cases e1 : k = a + n
  · subst e1
    first
    | rw [if_pos rfl, ih, if_neg (by omega), if_neg (by omega), if_pos (by omega)]; congr 1; omega
    | (rw [if_neg (by omega), if_pos rfl, ih, if_neg (by omega), if_neg (by omega), if_pos (by omega)]; congr 1; omega)
  · by_cases e2 : k = b + n
    · subst e2
      first
      | rw [if_pos rfl, ih, if_neg (by omega), if_neg (by omega), if_neg (by omega), if_pos (by omega)]; congr 1; omega
      | (rw [if_neg (by omega), if_pos rfl, ih, if_neg (by omega), if_neg (by omega), if_neg (by omega), if_pos (by omega)]; congr 1; omega)
    · simp only [e1, e2, if_false]
      rw [ih]
      repeat' split
      all_goals first | (exfalso; omega) | (congr 1; omega) | rfl
theorem swapR_perm (d : Array α) {a b lo hi : Nat} (h1 : lo ≤ a) (h2 : a ≤ b) (h4 : hi ≤ d.size) : ∀ (n : Nat), b + n ≤ hi → PermIn lo hi d (swapR d a b n)
 | 0, _ => permIn_refl d lo hi
 | n + 1, h3 => permIn_trans _ _ _ _ _ (swapR_perm d h1 h2 h4 n (by omega)) (swp_permIn _ _ _ _ _ (by omega) (by omega) (by omega) (by omega) (by rw [size_swapR]; omega))
def rotS (d : Array α) (a m b : Nat) : Array α := Array.ofFn fun k : Fin d.size => if a ≤ k.val ∧ k.val < a + (b - m) then d[k.val + (m - a)]! else if a + (b - m) ≤ k.val ∧ k.val < b then d[k.val - (b - m)]! else d[k.val]!
theorem size_rotS (d : Array α) (a m b : Nat) : (rotS d a m b).size = d.size := by simp [rotS]
theorem get_rotS (d : Array α) {a m b : Nat} (hm : a ≤ m) (hb : m ≤ b) (hs : b ≤ d.size) (k : Nat) : (rotS d a m b)[k]! = if a ≤ k ∧ k < a + (b - m) then d[k + (m - a)]! else if a + (b - m) ≤ k ∧ k < b then d[k - (b - m)]! else d[k]! := by
 by_cases hk : k < d.size
 · rw [getElem!_pos _ _ (by rw [size_rotS]; exact hk)]
   simp only [rotS, Array.getElem_ofFn]
 · rw [getElem!_neg (rotS d a m b) k (by rw [size_rotS]; exact hk), if_neg (by omega), if_neg (by omega), getElem!_neg d k hk]
theorem ext! {d e : Array α} (hs : d.size = e.size) (h : ∀ k : Nat, d[k]! = e[k]!) : d = e := by
 apply Array.ext hs
 intro i h1 h2
 have := h i
 rwa [getElem!_pos d i h1, getElem!_pos e i h2] at this
theorem rot_left (d : Array α) {m i j : Nat} (hi : i ≤ m) (hij : j ≤ i) (hs : m + j ≤ d.size) : rotS (swapR d (m - i) m j) (m - (i - j)) m (m + j) = rotS d (m - i) m (m + j) := by
 refine ext! (by rw [size_rotS, size_rotS, size_swapR]) fun k => ?_
 rw [get_rotS _ (by omega) (by omega) (by rw [size_swapR]; omega), get_rotS _ (by omega) (by omega) (by omega)]
 have hg := fun k => get_swapR d (a := m - i) (b := m) j (by omega) (by omega) k
 simp only [hg]
 repeat' split
 all_goals first | (exfalso; omega) | (congr 1; omega) | rfl
theorem rot_right (d : Array α) {m i j : Nat} (hi : i ≤ m) (hij : i ≤ j) (hs : m + j ≤ d.size) : rotS (swapR d (m - i) (m + j - i) i) (m - i) m (m + (j - i)) = rotS d (m - i) m (m + j) := by
 refine ext! (by rw [size_rotS, size_rotS, size_swapR]) fun k => ?_
 rw [get_rotS _ (by omega) (by omega) (by rw [size_swapR]; omega), get_rotS _ (by omega) (by omega) (by omega)]
 have hg := fun k => get_swapR d (a := m - i) (b := m + j - i) i (by omega) (by omega) k
 simp only [hg]
 repeat' split
 all_goals first | (exfalso; omega) | (congr 1; omega) | rfl
theorem rot_end (d : Array α) {m i : Nat} (hi : i ≤ m) (hs : m + i ≤ d.size) : swapR d (m - i) m i = rotS d (m - i) m (m + i) := by
 refine ext! (by rw [size_rotS, size_swapR]) fun k => ?_
 rw [get_rotS _ (by omega) (by omega) (by omega), get_swapR d (a := m - i) (b := m) i (by omega) (by omega) k]
 repeat' split
 all_goals first | (exfalso; omega) | (congr 1; omega) | rfl
theorem rot_same_l (d : Array α) {m e : Nat} (h : m ≤ e) (hs : e ≤ d.size) : rotS d m m e = d := by
 refine ext! (size_rotS ..) fun k => ?_
 rw [get_rotS _ (by omega) (by omega) (by omega)]
 repeat' split
 all_goals first | (exfalso; omega) | (congr 1; omega) | rfl
theorem rot_same_r (d : Array α) {s m : Nat} (h : s ≤ m) (hs : m ≤ d.size) : rotS d s m m = d := by
 refine ext! (size_rotS ..) fun k => ?_
 rw [get_rotS _ (by omega) (by omega) (by omega)]
 repeat' split
 all_goals first | (exfalso; omega) | (congr 1; omega) | rfl
theorem rot_up (d : Array α) {a k : Nat} (h : a ≤ k) (hs : k + 1 < d.size) : swp (rotS d a (a + 1) (k + 1)) k (k + 1) = rotS d a (a + 1) (k + 2) := by
 refine ext! (by rw [swp_size, size_rotS, size_rotS]) fun x => ?_
 rw [swp_get _ (by rw [size_rotS]; omega) (by rw [size_rotS]; omega)]
 have hg := fun x => get_rotS d (a := a) (m := a + 1) (b := k + 1) (by omega) (by omega) (by omega) x
 have hg' := fun x => get_rotS d (a := a) (m := a + 1) (b := k + 2) (by omega) (by omega) (by omega) x
 simp only [hg, hg']
 repeat' split
 all_goals first | (exfalso; omega) | (congr 1; omega) | rfl
theorem rot_down (d : Array α) {k m : Nat} (h0 : 0 < k) (h : k ≤ m) (hs : m + 1 ≤ d.size) : swp (rotS d k m (m + 1)) k (k - 1) = rotS d (k - 1) m (m + 1) := by
 refine ext! (by rw [swp_size, size_rotS, size_rotS]) fun x => ?_
 rw [swp_get _ (by rw [size_rotS]; omega) (by rw [size_rotS]; omega)]
 have hg := fun x => get_rotS d (a := k) (m := m) (b := m + 1) (by omega) (by omega) (by omega) x
 have hg' := fun x => get_rotS d (a := k - 1) (m := m) (b := m + 1) (by omega) (by omega) (by omega) x
 simp only [hg, hg']
 repeat' split
 all_goals first | (exfalso; omega) | (congr 1; omega) | rfl

structure Cut (lt : α → α → Bool) (d : Array α) (a s m e b : Nat) : Prop where
 h1 : a ≤ s
 h2 : s ≤ m
 h3 : m ≤ e
 h4 : e ≤ b
 sz : b ≤ d.size
 c1 : ∀ x y, a ≤ x → x < s → e ≤ y → y < b → lt d[y]! d[x]! = false
 c2 : ∀ x y, s ≤ x → x < m → m ≤ y → y < e → lt d[x]! d[y]! = false
structure Halves (lt : α → α → Bool) (d : Array α) (a s mid e b : Nat) : Prop where
 r1 : SortedIn lt a s d
 r2 : SortedIn lt s mid d
 r3 : SortedIn lt mid e d
 r4 : SortedIn lt e b d
 cross : ∀ x y, a ≤ x → x < mid → mid ≤ y → y < b → lt d[y]! d[x]! = false
theorem Cut.halves {d : Array α} {a s m e b : Nat} (C : Cut lt d a s m e b) (hl : SortedIn lt a m d) (hr : SortedIn lt m b d) : Halves lt (rotS d s m e) a s (s + (e - m)) e b := by
 obtain ⟨h1, h2, h3, h4, sz, c1, c2⟩ := C
 have hg := fun k => get_rotS d (a := s) (m := m) (b := e) h2 h3 (by omega) k
 refine ⟨fun i j hi hij hj => ?_, fun i j hi hij hj => ?_, fun i j hi hij hj => ?_, fun i j hi hij hj => ?_, fun x y hx hxm hy hyb => ?_⟩
 · rw [hg, hg, if_neg (by omega), if_neg (by omega), if_neg (by omega), if_neg (by omega)]
   exact hl i j hi hij (by omega)
 · rw [hg, hg, if_pos (by omega), if_pos (by omega)]
   exact hr _ _ (by omega) (by omega) (by omega)
 · rw [hg, hg, if_neg (by omega), if_pos (by omega), if_neg (by omega), if_pos (by omega)]
   exact hl _ _ (by omega) (by omega) (by omega)
 · rw [hg, hg, if_neg (by omega), if_neg (by omega), if_neg (by omega), if_neg (by omega)]
   exact hr i j (by omega) hij hj
 · rw [hg, hg]
   rw [if_neg (show ¬(s ≤ y ∧ y < s + (e - m)) by omega)]
   by_cases hye : y < e
   · rw [if_pos (show s + (e - m) ≤ y ∧ y < e by omega)]
     by_cases hxs : x < s
     · rw [if_neg (by omega), if_neg (by omega)]
       exact hl _ _ hx (by omega) (by omega)
     · rw [if_pos (by omega)]
       exact c2 _ _ (by omega) (by omega) (by omega) (by omega)
   · rw [if_neg (show ¬(s + (e - m) ≤ y ∧ y < e) by omega)]
     by_cases hxs : x < s
     · rw [if_neg (by omega), if_neg (by omega)]
       exact c1 _ _ hx hxs (by omega) hyb
     · rw [if_pos (by omega)]
       exact hr _ _ (by omega) (by omega) hyb
theorem glue {d1 d3 : Array α} {a mid b : Nat} (_ha : a ≤ mid) (_hb : mid ≤ b) (hsz : b ≤ d1.size) (cross : ∀ x y, a ≤ x → x < mid → mid ≤ y → y < b → lt d1[y]! d1[x]! = false) {d2 : Array α} (p1 : PermIn a mid d1 d2) (p2 : PermIn mid b d2 d3) (s1 : SortedIn lt a mid d2) (s2 : SortedIn lt mid b d3) : SortedIn lt a b d3 := by
 have hlow : ∀ x, x < mid → d3[x]! = d2[x]! := fun x hx => p2.2.1 x (.inl hx)
 have hhigh : ∀ y, mid ≤ y → d2[y]! = d1[y]! := fun y hy => p1.2.1 y (.inr hy)
 have hs2 : d2.size = d1.size := p1.1
 have c2 : ∀ x y, a ≤ x → x < mid → mid ≤ y → y < b → lt d2[y]! d2[x]! = false := fun x y hx hxm hy hyb => by
  rw [hhigh y hy]
  exact permIn_all d1 d2 a mid (fun v => lt d1[y]! v = false) (by omega) p1 (fun i h1 h2 => cross i y h1 h2 hy hyb) x hx hxm
 have c3 : ∀ x y, a ≤ x → x < mid → mid ≤ y → y < b → lt d3[y]! d3[x]! = false := fun x y hx hxm hy hyb => by
  rw [hlow x hxm]
  exact permIn_all d2 d3 mid b (fun v => lt v d2[x]! = false) (by omega) p2 (fun i h1 h2 => c2 x i hx hxm h1 h2) y hy hyb
 intro i j hi hij hj
 by_cases hjm : j < mid
 · rw [hlow i (by omega), hlow j hjm]
   exact s1 i j hi hij hjm
 · by_cases him : i < mid
   · exact c3 i j hi him (by omega) hj
   · exact s2 i j (by omega) hij hj
theorem sorted_small {d : Array α} {a b : Nat} (h : b ≤ a + 1) : SortedIn lt a b d := fun i j h1 h2 h3 => by omega
theorem sorted_cons {d : Array α} {a b : Nat} (hr : SortedIn lt (a + 1) b d) (h : ∀ k, a + 1 ≤ k → k < b → lt d[k]! d[a]! = false) : SortedIn lt a b d := fun i j h1 h2 h3 => by
 by_cases e : i = a
 · subst e; exact h j (by omega) h3
 · exact hr i j (by omega) h2 h3
theorem sorted_snoc {d : Array α} {a b : Nat} (hr : SortedIn lt a b d) (h : ∀ k, a ≤ k → k < b → lt d[b]! d[k]! = false) : SortedIn lt a (b + 1) d := fun i j h1 h2 h3 => by
 by_cases e : j = b
 · subst e; exact h i h1 h2
 · exact hr i j h1 h2 (by omega)
theorem merge_one_l (hS : SWO lt) {d : Array α} {a b i : Nat} (hb : b ≤ d.size) (hi : a + 1 ≤ i) (hib : i ≤ b) (hr : SortedIn lt (a + 1) b d) (h1 : ∀ k, a + 1 ≤ k → k < i → lt d[k]! d[a]! = true) (h2 : ∀ k, i ≤ k → k < b → lt d[k]! d[a]! = false) : SortedIn lt a b (rotS d a (a + 1) i) := by
 have C : Cut lt d a a (a + 1) i b := ⟨Nat.le_refl _, by omega, hi, hib, hb, fun x y h1 h2 => by omega, fun x y hx hxm hy hye => by
  have : x = a := by omega
  subst this
  exact hS.asymm (h1 y hy hye)⟩
 have H := C.halves (sorted_small (by omega)) hr
 refine glue (mid := a + (i - (a + 1))) (by omega) (by omega) (by rw [size_rotS]; omega) H.cross (permIn_refl _ _ _) (permIn_refl _ _ _) H.r2 ?_
 have hg := fun k => get_rotS d (a := a) (m := a + 1) (b := i) (by omega) hi (by omega) k
 have e0 : (rotS d a (a + 1) i)[a + (i - (a + 1))]! = d[a]! := by rw [hg, if_neg (by omega), if_pos (by omega)]; congr 1; omega
 refine sorted_cons (fun x y hx hxy hy => ?_) fun k hk hkb => ?_
 · exact H.r4 x y (by omega) hxy hy
 · rw [e0, hg, if_neg (by omega), if_neg (by omega)]
   exact h2 k (by omega) hkb
theorem merge_one_r (hS : SWO lt) {d : Array α} {a m i : Nat} (hb : m + 1 ≤ d.size) (hi : a ≤ i) (him : i ≤ m) (hl : SortedIn lt a m d) (h1 : ∀ k, a ≤ k → k < i → lt d[m]! d[k]! = false) (h2 : ∀ k, i ≤ k → k < m → lt d[m]! d[k]! = true) : SortedIn lt a (m + 1) (rotS d i m (m + 1)) := by
 have C : Cut lt d a i m (m + 1) (m + 1) := ⟨hi, him, by omega, Nat.le_refl _, hb, fun x y _ _ h3 h4 => by omega, fun x y hx hxm hy hye => by
  have : y = m := by omega
  subst this
  exact hS.asymm (h2 x hx hxm)⟩
 have H := C.halves hl (sorted_small (by omega))
 refine glue (mid := i + (m + 1 - m)) (by omega) (by omega) (by rw [size_rotS]; omega) H.cross (permIn_refl _ _ _) (permIn_refl _ _ _) ?_ H.r3
 have hg := fun k => get_rotS d (a := i) (m := m) (b := m + 1) (by omega) (by omega) (by omega) k
 rw [show i + (m + 1 - m) = i + 1 by omega]
 refine sorted_snoc H.r1 fun k hk hki => ?_
 rw [hg, hg, if_pos (by omega), if_neg (by omega), if_neg (by omega), show i + (m - i) = m by omega]
 exact h1 k hk hki
theorem cut_of (hS : SWO lt) {d : Array α} {a m b lo hi s n : Nat} (ham : a ≤ m) (hmb : m ≤ b) (hsz : b ≤ d.size) (hl : SortedIn lt a m d) (hr : SortedIn lt m b d)
 (hlo : lo ≤ s) (hhi : s ≤ hi) (hn : m ≤ n - s) (hsn : s ≤ n) (hal : a ≤ lo) (him : hi ≤ m) (hnb : n - lo ≤ b) (hlon : lo = a ∨ n - lo = b) (hhin : hi = m ∨ n - hi = m)
 (h1 : lo < s → lt d[n - s]! d[s - 1]! = false) (h2 : s < hi → lt d[n - 1 - s]! d[s]! = true) : Cut lt d a s m (n - s) b := by
 refine ⟨by omega, by omega, hn, by omega, hsz, fun x y hx hxs hy hyb => ?_, fun x y hx hxm hy hye => ?_⟩
 · rcases Nat.lt_or_ge lo s with h | h
   · have h0 := h1 h
     have e1 : lt d[y]! d[n - s]! = false := by
      rcases Nat.eq_or_lt_of_le hy with e | e
      · rw [← e]; exact hS.irrefl _
      · exact hr _ _ hn e hyb
     have e2 : lt d[s - 1]! d[x]! = false := by
      rcases Nat.eq_or_lt_of_le (show x ≤ s - 1 by omega) with e | e
      · rw [e]; exact hS.irrefl _
      · exact hl _ _ hx e (by omega)
     exact hS.ntrans _ _ _ (hS.ntrans _ _ _ e1 h0) e2
   · have : s = lo := by omega
     subst this
     rcases hlon with e | e <;> omega
 · rcases Nat.lt_or_ge s hi with h | h
   · have h0 := hS.asymm (h2 h)
     have e1 : lt d[x]! d[s]! = false := by
      rcases Nat.eq_or_lt_of_le hx with e | e
      · rw [← e]; exact hS.irrefl _
      · exact hl _ _ (by omega) e hxm
     have e2 : lt d[n - 1 - s]! d[y]! = false := by
      rcases Nat.eq_or_lt_of_le (show y ≤ n - 1 - s by omega) with e | e
      · rw [e]; exact hS.irrefl _
      · exact hr _ _ hy e (by omega)
     exact hS.ntrans _ _ _ (hS.ntrans _ _ _ e1 h0) e2
   · have : s = hi := by omega
     subst this
     rcases hhin with e | e <;> omega
end Go.Mrg
namespace Go.Proofs.Mrg
open Go Go.Shelf Go.RowKit Go.Lib Go.Sort Go.Mrg
set_option maxHeartbeats 32000000
set_option maxRecDepth 100000
variable {P : Program} {ρ : Ren} {α : Type} [Inhabited α]

theorem sw_cell {enc : α → Value} {w0 W : World} {blk off : Nat} {dk : Array α} (h : SW enc w0 blk off dk W) {p : Addr} (hp : p.block ≠ blk) (hl : p.block < w0.heap.size) : W.cell? p = w0.cell? p := by
 obtain ⟨n, os, rfl⟩ := h
 unfold sortWorld
 rw [cell?_grow _ _ _ (by rw [size_putRow]; exact hl), cell?_putRow_other _ _ _ _ _ _ (.inl hp)]; rfl
theorem sw_of_alloc {enc : α → Value} {w W : World} {blk off : Nat} {dk : Array α} {o : Obj} (h : SW enc (w.alloc o) blk off dk W) (hblk : blk < w.heap.size) : SW enc w blk off dk W := by
 obtain ⟨n, os, rfl⟩ := h
 exact ⟨n, _, sortWorld_alloc enc w o blk off n dk os hblk⟩
theorem sw_trans {enc : α → Value} {w0 w1 W : World} {blk off : Nat} {dk dk' : Array α} (h : SW enc w0 blk off dk w1) (hblk : blk < w0.heap.size) (h2 : SW enc w1 blk off dk' W) (hs : dk'.size = dk.size) : SW enc w0 blk off dk' W := by
 obtain ⟨n, os, rfl⟩ := h2
 exact h.on hblk n dk' os hs

theorem swapRange_w (L : LaysGt.n49 P ρ) (enc : α → Value) (lf : Fn) (la lb : Array Value) (sf : Nat) (sb : Array Value) (blk off a b n : Nat) (d : Array α) (w : World)
 (hswap : SwapSwaps P sf sb enc blk off d.size) (hH : Holds enc w blk off d) (hblk : blk < w.heap.size) (hab : a + n ≤ b) (hb : b + n ≤ d.size) (hsz : d.size < 4611686018427387904) :
 Calls P (ρ.f 49) #[.agg #[.func lf la lb, .func (.func sf) #[] sb], .int .i64 a, .int .i64 b, .int .i64 n] w fun e w' => e = .returned (.tuple #[]) ∧ SW enc w blk off (swapR d a b n) w' := by
 have mixed := L.mixed; have t0 := L.t0; have a0 := L.a0; have z0 := L.z0; have v0 := L.v0; have t3 := L.t3; have a3 := L.a3; have z3 := L.z3; have v3 := L.v3; have t4 := L.t4; have a4 := L.a4; have z4 := L.z4; have v4 := L.v4; have t26 := L.t26; have a26 := L.a26; have z26 := L.z26; have v26 := L.v26; have t38 := L.t38; have a38 := L.a38; have z38 := L.z38; have v38 := L.v38; have t42 := L.t42; have a42 := L.a42; have z42 := L.z42; have v42 := L.v42
 have u42 := run_underlying L.t42
 have hS := (SW.start hH).alloc (.cells #[.func lf la lb, .func (.func sf) #[] sb] (ρ.t 42))
 have hcell : ∀ {dk : Array α} {W : World}, SW enc w blk off dk W → True := fun _ => trivial
 go_enter L.f49, BodyGt.n49_ntmps ρ
 go_wp2
 go_loopw [8] (fun vi wr => ∃ (i : Nat), vi = .int .i64 i ∧ i ≤ n ∧ SW enc (w.alloc (.cells #[.func lf la lb, .func (.func sf) #[] sb] (ρ.t 42))) blk off (swapR d a b i) wr) (fun vi _ => n - (intOf vi).toNat)
 case atStart => exact ⟨0, by go_num, Nat.zero_le _, SW.start (by rw [alloc_eq_grow]; exact holds_grow enc w _ blk off d hblk hH)⟩
 case round =>
  obtain ⟨i, rfl, hi, hw⟩ := hrel
  have hsz' : blk < (w.alloc (.cells #[.func lf la lb, .func (.func sf) #[] sb] (ρ.t 42))).heap.size := by show blk < (w.heap.push _).size; simp; omega
  have c1 : wr.cell? ⟨w.heap.size, 1, none⟩ = some (.func (.func sf) #[] sb) := by
   rw [sw_cell hw (by show w.heap.size ≠ blk; omega) (by show w.heap.size < (w.heap.push _).size; simp)]; simp
  by_cases hlt : i < n
  · have hs := hswap wr (swapR d a b i) (hw.holds hsz' (by rw [alloc_eq_grow]; exact holds_grow enc w _ blk off d hblk hH) (size_swapR ..)) (size_swapR ..) (a + i) (b + i) (by omega) (by omega)
    have hw2 := hw.swap hsz' (a + i) (b + i) (by rw [size_swapR]; omega) (by rw [size_swapR]; omega)
    rw [Int.natCast_add, Int.natCast_add] at hs
    have HW : Hid _ := hw2
    clear hw hw2 hH hswap hS hcell
    go_wp2
    go_roundw
    case rel => exact ⟨i + 1, by go_num, by omega, HW.out⟩
    case measure => simp [intOf]; omega
  · have hin : i = n := by omega
    subst hin
    go_wp2
    go_end0
    exact ⟨rfl, sw_of_alloc hw hblk⟩

theorem rotate_w (L : LaysGt.n42 P ρ) (enc : α → Value) (lf : Fn) (la lb : Array Value) (sf : Nat) (sb : Array Value) (blk off a m b : Nat) (d : Array α) (w : World)
 (hswap : SwapSwaps P sf sb enc blk off d.size) (hH : Holds enc w blk off d) (hblk : blk < w.heap.size) (ham : a < m) (hmb : m < b) (hb : b ≤ d.size) (hsz : d.size < 4611686018427387904) :
 Calls P (ρ.f 42) #[.agg #[.func lf la lb, .func (.func sf) #[] sb], .int .i64 a, .int .i64 m, .int .i64 b] w fun e w' => e = .returned (.tuple #[]) ∧ SW enc w blk off (rotS d a m b) w' ∧ PermIn a b d (rotS d a m b) := by
 have mixed := L.mixed; have t0 := L.t0; have a0 := L.a0; have z0 := L.z0; have v0 := L.v0; have t3 := L.t3; have a3 := L.a3; have z3 := L.z3; have v3 := L.v3; have t4 := L.t4; have a4 := L.a4; have z4 := L.z4; have v4 := L.v4; have t26 := L.t26; have a26 := L.a26; have z26 := L.z26; have v26 := L.v26; have t38 := L.t38; have a38 := L.a38; have z38 := L.z38; have v38 := L.v38; have t42 := L.t42; have a42 := L.a42; have z42 := L.z42; have v42 := L.v42
 have u42 := run_underlying L.t42
 have e49 : ∀ args w, (callFunc (ρ.f 49) args).run P w = .ok (.enter (ρ.f 49) args) w := enters_of L.f49 (by kernel_rfl) rfl
 have L49 : LaysGt.n49 P ρ := { L with }
 have hH1 : Holds enc (w.alloc (.cells #[.func lf la lb, .func (.func sf) #[] sb] (ρ.t 42))) blk off d := by rw [alloc_eq_grow]; exact holds_grow enc w _ blk off d hblk hH
 have hsz' : blk < (w.alloc (.cells #[.func lf la lb, .func (.func sf) #[] sb] (ρ.t 42))).heap.size := by show blk < (w.heap.push _).size; simp; omega
 have hc : ∀ (wr : World) (dk : Array α) (x y n : Nat), SW enc (w.alloc (.cells #[.func lf la lb, .func (.func sf) #[] sb] (ρ.t 42))) blk off dk wr → dk.size = d.size → x + n ≤ y → y + n ≤ d.size →
  Calls P (ρ.f 49) #[.agg #[.func lf la lb, .func (.func sf) #[] sb], .int .i64 x, .int .i64 y, .int .i64 n] wr fun e w' => e = .returned (.tuple #[]) ∧ SW enc (w.alloc (.cells #[.func lf la lb, .func (.func sf) #[] sb] (ρ.t 42))) blk off (swapR dk x y n) w' := fun wr dk x y n hw hs h1 h2 =>
  (swapRange_w L49 enc lf la lb sf sb blk off x y n dk wr (by rw [hs]; exact hswap) (hw.holds hsz' hH1 hs) (hw.lt hsz') h1 (by omega) (by omega)).mono fun e w' ⟨he, h⟩ => ⟨he, sw_trans hw hsz' h (size_swapR ..)⟩
 have cell : ∀ (wr : World) (dk : Array α), SW enc (w.alloc (.cells #[.func lf la lb, .func (.func sf) #[] sb] (ρ.t 42))) blk off dk wr → wr.cell? ⟨w.heap.size, 0, none⟩ = some (.func lf la lb) ∧ wr.cell? ⟨w.heap.size, 1, none⟩ = some (.func (.func sf) #[] sb) := fun wr dk hw => by
  constructor <;> (rw [sw_cell hw (by show w.heap.size ≠ blk; omega) (by show w.heap.size < (w.heap.push _).size; simp)]; simp)
 have HC : Hid _ := hc
 have CELL : Hid _ := cell
 clear hc cell hswap
 go_enter L.f42, BodyGt.n42_ntmps ρ
 go_wp2
 go_loopg [8, 9] (b - a) (fun k s8 s9 wr => ∃ (i j : Nat) (dk : Array α), s8 = .int .i64 i ∧ s9 = .int .i64 j ∧ i + j ≤ k ∧ 0 < i ∧ 0 < j ∧ a + i ≤ m ∧ m + j ≤ b ∧ dk.size = d.size ∧ SW enc (w.alloc (.cells #[.func lf la lb, .func (.func sf) #[] sb] (ρ.t 42))) blk off dk wr ∧ PermIn a b d dk ∧ rotS dk (m - i) m (m + j) = rotS d a m b)
 case atStart => exact ⟨m - a, b - m, d, by go_num, by go_num, by omega, by omega, by omega, by omega, by omega, rfl, SW.start hH1, permIn_refl _ _ _, by rw [show m - (m - a) = a by omega, show m + (b - m) = b by omega]⟩
 case round =>
  obtain ⟨i, j, dk, rfl, rfl, hk, hi0, hj0, him, hjb, hds, hw, hp, hr⟩ := hrel
  obtain ⟨c0, c1⟩ := CELL.out wr dk hw
  have hmi : ((m - i : Nat) : Int) = (m : Int) - i := by omega
  rcases Nat.lt_trichotomy i j with hlt | heq | hgt
  · have hc := HC.out wr dk (m - i) (m + j - i) i hw hds (by omega) (by omega)
    rw [hmi, show ((m + j - i : Nat) : Int) = (m : Int) + j - i by omega] at hc
    have HR : Hid _ := rot_right dk (m := m) (i := i) (j := j) (by omega) (by omega) (by omega)
    have HP : Hid _ := swapR_perm dk (a := m - i) (b := m + j - i) (lo := a) (hi := b) (by omega) (by omega) (by omega) i (by omega)
    have HW : Hid _ := hw
    have HP0 : Hid _ := hp
    have HR0 : Hid _ := hr
    clear hw hp hr hH hH1
    go_wp2_with (go_at_fn (ρ.f 49); refine hc.mono ?_; rintro e w1 ⟨rfl, hw1⟩)
    go_roundg (i + (j - i))
    case measure => omega
    case rel => exact ⟨i, j - i, _, rfl, by go_num, Nat.le_refl _, hi0, by omega, him, by omega, by rw [size_swapR]; exact hds, hw1, permIn_trans _ _ _ _ _ HP0.out HP.out, HR.out.trans HR0.out⟩
  · subst heq
    have hc := HC.out wr dk (m - i) m i hw hds (by omega) (by omega)
    rw [hmi] at hc
    have HR : Hid _ := rot_end dk (m := m) (i := i) (by omega) (by omega)
    have HP : Hid _ := swapR_perm dk (a := m - i) (b := m) (lo := a) (hi := b) (by omega) (by omega) (by omega) i (by omega)
    have HW : Hid _ := hw
    have HP0 : Hid _ := hp
    have HR0 : Hid _ := hr
    clear hw hp hr hH hH1
    go_wp2_with (go_at_fn (ρ.f 49); refine hc.mono ?_; rintro e w1 ⟨rfl, hw1⟩)
    go_end0
    have e := HR.out.trans HR0.out
    exact ⟨rfl, by rw [← e]; exact sw_of_alloc hw1 hblk, by rw [← e]; exact permIn_trans _ _ _ _ _ HP0.out HP.out⟩
  · have hc := HC.out wr dk (m - i) m j hw hds (by omega) (by omega)
    rw [hmi] at hc
    have HR : Hid _ := rot_left dk (m := m) (i := i) (j := j) (by omega) (by omega) (by omega)
    have HP : Hid _ := swapR_perm dk (a := m - i) (b := m) (lo := a) (hi := b) (by omega) (by omega) (by omega) j (by omega)
    have HW : Hid _ := hw
    have HP0 : Hid _ := hp
    have HR0 : Hid _ := hr
    clear hw hp hr hH hH1
    go_wp2_with (go_at_fn (ρ.f 49); refine hc.mono ?_; rintro e w1 ⟨rfl, hw1⟩)
    go_roundg ((i - j) + j)
    case measure => omega
    case rel => exact ⟨i - j, j, _, by go_num, rfl, Nat.le_refl _, by omega, hj0, by omega, hjb, by rw [size_swapR]; exact hds, hw1, permIn_trans _ _ _ _ _ HP0.out HP.out, HR.out.trans HR0.out⟩
theorem symMerge_l (L : LaysGt.n30 P ρ) (enc : α → Value) (lt : α → α → Bool) (hS : SWO lt) (g : Nat) (lb : Array Value) (sf : Nat) (sb : Array Value) (blk off a m b : Nat) (d : Array α) (w : World) (hm1 : a < m) (hm2 : m < a + 2)
 (eg : ∀ args w, (callFunc g args).run P w = .ok (.enter g args) w) (hless : LessReads P g lb enc lt blk off d.size w) (hswap : SwapSwaps P sf sb enc blk off d.size)
 (hH : Holds enc w blk off d) (hblk : blk < w.heap.size) (hab : a + 1 ≤ b) (hb : b ≤ d.size) (hsz : d.size < 4611686018427387904) (hr : SortedIn lt (a + 1) b d) :
 Calls P (ρ.f 30) #[.agg #[.func (.func g) #[] lb, .func (.func sf) #[] sb], .int .i64 a, .int .i64 m, .int .i64 b] w fun e w' => e = .returned (.tuple #[]) ∧ ∃ d', SW enc w blk off d' w' ∧ PermIn a b d d' ∧ SortedIn lt a b d' := by
 have mixed := L.mixed; have t0 := L.t0; have a0 := L.a0; have z0 := L.z0; have v0 := L.v0; have t3 := L.t3; have a3 := L.a3; have z3 := L.z3; have v3 := L.v3; have t4 := L.t4; have a4 := L.a4; have z4 := L.z4; have v4 := L.v4; have t26 := L.t26; have a26 := L.a26; have z26 := L.z26; have v26 := L.v26; have t38 := L.t38; have a38 := L.a38; have z38 := L.z38; have v38 := L.v38; have t42 := L.t42; have a42 := L.a42; have z42 := L.z42; have v42 := L.v42; have t47 := L.t47; have a47 := L.a47; have z47 := L.z47; have v47 := L.v47
 have u42 := run_underlying L.t42
 have hsz' : blk < (w.alloc (.cells #[.func (.func g) #[] lb, .func (.func sf) #[] sb] (ρ.t 42))).heap.size := by show blk < (w.heap.push _).size; simp; omega
 have hH1 : Holds enc (w.alloc (.cells #[.func (.func g) #[] lb, .func (.func sf) #[] sb] (ρ.t 42))) blk off d := by rw [alloc_eq_grow]; exact holds_grow enc w _ blk off d hblk hH
 have hL1 : LessReads P g lb enc lt blk off d.size (w.alloc (.cells #[.func (.func g) #[] lb, .func (.func sf) #[] sb] (ρ.t 42))) := by rw [alloc_eq_grow]; exact hless.grow hblk _
 have cell : ∀ (wr : World) (dk : Array α), SW enc (w.alloc (.cells #[.func (.func g) #[] lb, .func (.func sf) #[] sb] (ρ.t 42))) blk off dk wr → wr.cell? ⟨w.heap.size, 0, none⟩ = some (.func (.func g) #[] lb) ∧ wr.cell? ⟨w.heap.size, 1, none⟩ = some (.func (.func sf) #[] sb) := fun wr dk hw => by
  constructor <;> (rw [sw_cell hw (by show w.heap.size ≠ blk; omega) (by show w.heap.size < (w.heap.push _).size; simp)]; simp)
 have less : ∀ (wr : World) (dk : Array α), SW enc (w.alloc (.cells #[.func (.func g) #[] lb, .func (.func sf) #[] sb] (ρ.t 42))) blk off dk wr → dk.size = d.size → ∀ i j : Nat, i < d.size → j < d.size → Calls P g (#[.int .i64 i, .int .i64 j] ++ lb) wr fun e w' => e = .returned (.bool (lt dk[i]! dk[j]!)) ∧ ∃ q, w' = wr.drewN q := fun wr dk hw hs i j hi hj => hw.less hL1 hs i j hi hj
 have CELL : Hid _ := cell
 have LESS : Hid _ := less
 have HS : Hid _ := SW.start hH1
 have swaps : ∀ (wr : World) (dk : Array α), SW enc (w.alloc (.cells #[.func (.func g) #[] lb, .func (.func sf) #[] sb] (ρ.t 42))) blk off dk wr → dk.size = d.size → ∀ i j : Nat, i < d.size → j < d.size → (callFunc sf (#[.int .i64 i, .int .i64 j] ++ sb)).run P wr = .ok (.value (.tuple #[])) ((wr.setCell ⟨blk, off + i, none⟩ (enc dk[j]!)).setCell ⟨blk, off + j, none⟩ (enc dk[i]!)) ∧ SW enc (w.alloc (.cells #[.func (.func g) #[] lb, .func (.func sf) #[] sb] (ρ.t 42))) blk off (swp dk i j) ((wr.setCell ⟨blk, off + i, none⟩ (enc dk[j]!)).setCell ⟨blk, off + j, none⟩ (enc dk[i]!)) := fun wr dk hw hs i j hi hj => ⟨hswap wr dk (hw.holds hsz' hH1 hs) hs i j hi hj, hw.swap hsz' i j (by omega) (by omega)⟩
 have SWAP : Hid _ := swaps
 clear cell less hless hL1 swaps
 go_enter L.f30, BodyGt.n30_ntmps ρ
 go_wp2
 rw [show ((m : Int) - a == 1) = true by rw [beq_iff_eq]; omega]
 go_loopg [8, 9] (b - a) (fun k s8 s9 wr => ∃ (i j : Nat), s8 = .int .i64 i ∧ s9 = .int .i64 j ∧ a + 1 ≤ i ∧ i ≤ j ∧ j ≤ b ∧ j - i ≤ k ∧ SW enc (w.alloc (.cells #[.func (.func g) #[] lb, .func (.func sf) #[] sb] (ρ.t 42))) blk off d wr ∧ (∀ x, a + 1 ≤ x → x < i → lt d[x]! d[a]! = true) ∧ ∀ x, j ≤ x → x < b → lt d[x]! d[a]! = false)
 case atStart => exact ⟨m, b, by go_num, by go_num, by omega, by omega, by omega, by omega, HS.out, fun x h1 h2 => by omega, fun x h1 h2 => by omega⟩
 case round =>
  obtain ⟨i, j, rfl, rfl, hi, hij, hj, hk, hw, h1, h2⟩ := hrel
  obtain ⟨c0, c1⟩ := CELL.out wr d hw
  have HW : Hid _ := hw
  have H1 : Hid _ := h1
  have H2 : Hid _ := h2
  by_cases hlt : i < j
  · have hl := LESS.out wr d hw rfl ((i + j) / 2) a (by omega) (by omega)
    have hm : ((i : Int) + j) / 2 = (((i + j) / 2 : Nat) : Int) := by omega
    rw [← hm] at hl
    clear hw h1 h2 hH hH1 hswap
    cases hv : lt d[(i + j) / 2]! d[a]! with
    | true =>
     rw [hv] at hl
     have HV : Hid _ := fun x (h1 : a + 1 ≤ x) (h2 : x < (i + j) / 2 + 1) => show lt d[x]! d[a]! = true from by
      rcases Nat.eq_or_lt_of_le (show x ≤ (i + j) / 2 by omega) with e | e
      · rw [e]; exact hv
      · have := hr x ((i + j) / 2) h1 e (by omega)
        cases hx : lt d[x]! d[a]! with
        | true => rfl
        | false => have := hS.ntrans _ _ _ this hx; rw [hv] at this; cases this
     clear hv hm
     go_wp2
     go_wp2_with (go_at_fn g; refine hl.mono ?_; rintro e w' ⟨rfl, q, rfl⟩)
     go_roundg (j - ((i + j) / 2 + 1))
     case measure => omega
     case rel => exact ⟨(i + j) / 2 + 1, j, by congr 1 <;> omega, rfl, by omega, by omega, hj, Nat.le_refl _, SW.drewN HW.out q, HV.out, H2.out⟩
    | false =>
     rw [hv] at hl
     have HV : Hid _ := fun x (h1 : (i + j) / 2 ≤ x) (h2 : x < b) => show lt d[x]! d[a]! = false from by
      rcases Nat.eq_or_lt_of_le h1 with e | e
      · rw [← e]; exact hv
      · exact hS.ntrans _ _ _ (hr _ x (by omega) e h2) hv
     clear hv hm
     go_wp2
     go_wp2_with (go_at_fn g; refine hl.mono ?_; rintro e w' ⟨rfl, q, rfl⟩)
     go_roundg ((i + j) / 2 - i)
     case measure => omega
     case rel => exact ⟨i, (i + j) / 2, rfl, by congr 1 <;> omega, hi, by omega, by omega, Nat.le_refl _, SW.drewN HW.out q, H1.out, HV.out⟩
  · have hin : i = j := by omega
    subst hin
    clear hw h1 h2 hH hH1 hswap
    go_wp2
    go_loopg [11] (i - a) (fun k s11 wr => ∃ (x : Nat), s11 = .int .i64 x ∧ a ≤ x ∧ x + 1 ≤ i ∧ i - x ≤ k ∧ SW enc (w.alloc (.cells #[.func (.func g) #[] lb, .func (.func sf) #[] sb] (ρ.t 42))) blk off (rotS d a (a + 1) (x + 1)) wr ∧ PermIn a b d (rotS d a (a + 1) (x + 1)))
    case atStart => exact ⟨a, rfl, Nat.le_refl _, hi, Nat.le_refl _, by rw [rot_same_r _ (by omega) (by omega)]; exact HW.out, by rw [rot_same_r _ (by omega) (by omega)]; exact permIn_refl _ _ _⟩
    case round =>
     obtain ⟨x, rfl, hx, hxi, hxk, hw, hp⟩ := hrel
     obtain ⟨c0, c1⟩ := CELL.out wr _ hw
     have HP : Hid _ := hp
     by_cases hlt : x + 1 < i
     · obtain ⟨hs, hw2⟩ := SWAP.out wr _ hw (size_rotS ..) x (x + 1) (by omega) (by omega)
       rw [rot_up d hx (by omega)] at hw2
       have hp2 : PermIn a b d (rotS d a (a + 1) (x + 2)) := by
        rw [← rot_up d hx (by omega)]
        exact permIn_trans _ _ _ _ _ hp (swp_permIn _ _ _ _ _ hx (by omega) (by omega) (by omega) (by rw [size_rotS]; exact hb))
       have HW2 : Hid _ := hw2
       have HP2 : Hid _ := hp2
       rw [show ((x + 1 : Nat) : Int) = (x : Int) + 1 by omega] at hs
       clear hw hw2 hp hp2
       go_wp2
       go_roundg (i - (x + 1))
       case measure => omega
       case rel => exact ⟨x + 1, by go_num, by omega, by omega, Nat.le_refl _, HW2.out, HP2.out⟩
     · have hxe : x + 1 = i := by omega
       subst hxe
       go_wp2
       (try simp only [Exit.inBlock, Exit.then])
       refine bodyPost_ret (results_none rfl _ _ _) rfl ?_
       exact ⟨rfl, _, sw_of_alloc hw hblk, hp, merge_one_l hS hb (by omega) hj hr H1.out H2.out⟩
theorem symMerge_r (L : LaysGt.n30 P ρ) (enc : α → Value) (lt : α → α → Bool) (hS : SWO lt) (g : Nat) (lb : Array Value) (sf : Nat) (sb : Array Value) (blk off a m b : Nat) (d : Array α) (w : World) (hm1 : a + 1 < m) (hm2 : m < b) (hm3 : b < m + 2)
 (eg : ∀ args w, (callFunc g args).run P w = .ok (.enter g args) w) (hless : LessReads P g lb enc lt blk off d.size w) (hswap : SwapSwaps P sf sb enc blk off d.size)
 (hH : Holds enc w blk off d) (hblk : blk < w.heap.size) (hb : b ≤ d.size) (hsz : d.size < 4611686018427387904) (hl : SortedIn lt a m d) :
 Calls P (ρ.f 30) #[.agg #[.func (.func g) #[] lb, .func (.func sf) #[] sb], .int .i64 a, .int .i64 m, .int .i64 b] w fun e w' => e = .returned (.tuple #[]) ∧ ∃ d', SW enc w blk off d' w' ∧ PermIn a b d d' ∧ SortedIn lt a b d' := by
 have mixed := L.mixed; have t0 := L.t0; have a0 := L.a0; have z0 := L.z0; have v0 := L.v0; have t3 := L.t3; have a3 := L.a3; have z3 := L.z3; have v3 := L.v3; have t4 := L.t4; have a4 := L.a4; have z4 := L.z4; have v4 := L.v4; have t26 := L.t26; have a26 := L.a26; have z26 := L.z26; have v26 := L.v26; have t38 := L.t38; have a38 := L.a38; have z38 := L.z38; have v38 := L.v38; have t42 := L.t42; have a42 := L.a42; have z42 := L.z42; have v42 := L.v42; have t47 := L.t47; have a47 := L.a47; have z47 := L.z47; have v47 := L.v47
 have u42 := run_underlying L.t42
 have hsz' : blk < (w.alloc (.cells #[.func (.func g) #[] lb, .func (.func sf) #[] sb] (ρ.t 42))).heap.size := by show blk < (w.heap.push _).size; simp; omega
 have hH1 : Holds enc (w.alloc (.cells #[.func (.func g) #[] lb, .func (.func sf) #[] sb] (ρ.t 42))) blk off d := by rw [alloc_eq_grow]; exact holds_grow enc w _ blk off d hblk hH
 have hL1 : LessReads P g lb enc lt blk off d.size (w.alloc (.cells #[.func (.func g) #[] lb, .func (.func sf) #[] sb] (ρ.t 42))) := by rw [alloc_eq_grow]; exact hless.grow hblk _
 have cell : ∀ (wr : World) (dk : Array α), SW enc (w.alloc (.cells #[.func (.func g) #[] lb, .func (.func sf) #[] sb] (ρ.t 42))) blk off dk wr → wr.cell? ⟨w.heap.size, 0, none⟩ = some (.func (.func g) #[] lb) ∧ wr.cell? ⟨w.heap.size, 1, none⟩ = some (.func (.func sf) #[] sb) := fun wr dk hw => by
  constructor <;> (rw [sw_cell hw (by show w.heap.size ≠ blk; omega) (by show w.heap.size < (w.heap.push _).size; simp)]; simp)
 have less : ∀ (wr : World) (dk : Array α), SW enc (w.alloc (.cells #[.func (.func g) #[] lb, .func (.func sf) #[] sb] (ρ.t 42))) blk off dk wr → dk.size = d.size → ∀ i j : Nat, i < d.size → j < d.size → Calls P g (#[.int .i64 i, .int .i64 j] ++ lb) wr fun e w' => e = .returned (.bool (lt dk[i]! dk[j]!)) ∧ ∃ q, w' = wr.drewN q := fun wr dk hw hs i j hi hj => hw.less hL1 hs i j hi hj
 have CELL : Hid _ := cell
 have LESS : Hid _ := less
 have HS : Hid _ := SW.start hH1
 have swaps : ∀ (wr : World) (dk : Array α), SW enc (w.alloc (.cells #[.func (.func g) #[] lb, .func (.func sf) #[] sb] (ρ.t 42))) blk off dk wr → dk.size = d.size → ∀ i j : Nat, i < d.size → j < d.size → (callFunc sf (#[.int .i64 i, .int .i64 j] ++ sb)).run P wr = .ok (.value (.tuple #[])) ((wr.setCell ⟨blk, off + i, none⟩ (enc dk[j]!)).setCell ⟨blk, off + j, none⟩ (enc dk[i]!)) ∧ SW enc (w.alloc (.cells #[.func (.func g) #[] lb, .func (.func sf) #[] sb] (ρ.t 42))) blk off (swp dk i j) ((wr.setCell ⟨blk, off + i, none⟩ (enc dk[j]!)).setCell ⟨blk, off + j, none⟩ (enc dk[i]!)) := fun wr dk hw hs i j hi hj => ⟨hswap wr dk (hw.holds hsz' hH1 hs) hs i j hi hj, hw.swap hsz' i j (by omega) (by omega)⟩
 have SWAP : Hid _ := swaps
 clear cell less hless hL1 swaps
 go_enter L.f30, BodyGt.n30_ntmps ρ
 go_wp2
 rw [show ((m : Int) - a == 1) = false by rw [beq_eq_false_iff_ne]; omega, show ((b : Int) - m == 1) = true by rw [beq_iff_eq]; omega]
 go_loopg [12, 13] (m - a) (fun k s12 s13 wr => ∃ (i j : Nat), s12 = .int .i64 i ∧ s13 = .int .i64 j ∧ a ≤ i ∧ i ≤ j ∧ j ≤ m ∧ j - i ≤ k ∧ SW enc (w.alloc (.cells #[.func (.func g) #[] lb, .func (.func sf) #[] sb] (ρ.t 42))) blk off d wr ∧ (∀ x, a ≤ x → x < i → lt d[m]! d[x]! = false) ∧ ∀ x, j ≤ x → x < m → lt d[m]! d[x]! = true)
 case atStart => exact ⟨a, m, by go_num, by go_num, Nat.le_refl _, by omega, Nat.le_refl _, by omega, HS.out, fun x h1 h2 => by omega, fun x h1 h2 => by omega⟩
 case round =>
  obtain ⟨i, j, rfl, rfl, hi, hij, hj, hk, hw, h1, h2⟩ := hrel
  obtain ⟨c0, c1⟩ := CELL.out wr d hw
  have HW : Hid _ := hw
  have H1 : Hid _ := h1
  have H2 : Hid _ := h2
  by_cases hlt : i < j
  · have hls := LESS.out wr d hw rfl m ((i + j) / 2) (by omega) (by omega)
    have hm : ((i : Int) + j) / 2 = (((i + j) / 2 : Nat) : Int) := by omega
    rw [← hm] at hls
    clear hw h1 h2 hH hH1 hswap
    cases hv : lt d[m]! d[(i + j) / 2]! with
    | false =>
     rw [hv] at hls
     have HV : Hid _ := fun x (h1 : a ≤ x) (h2 : x < (i + j) / 2 + 1) => show lt d[m]! d[x]! = false from by
      rcases Nat.eq_or_lt_of_le (show x ≤ (i + j) / 2 by omega) with e | e
      · rw [e]; exact hv
      · exact hS.ntrans _ _ _ hv (hl x ((i + j) / 2) h1 e (by omega))
     clear hv hm
     go_wp2
     go_wp2_with (go_at_fn g; refine hls.mono ?_; rintro e w' ⟨rfl, q, rfl⟩)
     go_roundg (j - ((i + j) / 2 + 1))
     case measure => omega
     case rel => exact ⟨(i + j) / 2 + 1, j, by congr 1 <;> omega, rfl, by omega, by omega, hj, Nat.le_refl _, SW.drewN HW.out q, HV.out, H2.out⟩
    | true =>
     rw [hv] at hls
     have HV : Hid _ := fun x (h1 : (i + j) / 2 ≤ x) (h2 : x < m) => show lt d[m]! d[x]! = true from by
      rcases Nat.eq_or_lt_of_le h1 with e | e
      · rw [← e]; exact hv
      · have h3 := hl ((i + j) / 2) x (by omega) e h2
        cases hx : lt d[m]! d[x]! with
        | true => rfl
        | false => have := hS.ntrans _ _ _ hx h3; rw [hv] at this; cases this
     clear hv hm
     go_wp2
     go_wp2_with (go_at_fn g; refine hls.mono ?_; rintro e w' ⟨rfl, q, rfl⟩)
     go_roundg ((i + j) / 2 - i)
     case measure => omega
     case rel => exact ⟨i, (i + j) / 2, rfl, by congr 1 <;> omega, hi, by omega, by omega, Nat.le_refl _, SW.drewN HW.out q, H1.out, HV.out⟩
  · have hin : i = j := by omega
    subst hin
    clear hw h1 h2 hH hH1 hswap
    go_wp2
    go_loopg [15] (m - i) (fun k s15 wr => ∃ (x : Nat), s15 = .int .i64 x ∧ i ≤ x ∧ x ≤ m ∧ x - i ≤ k ∧ SW enc (w.alloc (.cells #[.func (.func g) #[] lb, .func (.func sf) #[] sb] (ρ.t 42))) blk off (rotS d x m (m + 1)) wr ∧ PermIn a b d (rotS d x m (m + 1)))
    case atStart => exact ⟨m, rfl, by omega, Nat.le_refl _, Nat.le_refl _, by rw [rot_same_l _ (by omega) (by omega)]; exact HW.out, by rw [rot_same_l _ (by omega) (by omega)]; exact permIn_refl _ _ _⟩
    case round =>
     obtain ⟨x, rfl, hx, hxm, hxk, hw, hp⟩ := hrel
     obtain ⟨c0, c1⟩ := CELL.out wr _ hw
     have HP : Hid _ := hp
     by_cases hlt : i < x
     · obtain ⟨hs, hw2⟩ := SWAP.out wr _ hw (size_rotS ..) x (x - 1) (by omega) (by omega)
       rw [rot_down d (by omega) hxm (by omega)] at hw2
       have hp2 : PermIn a b d (rotS d (x - 1) m (m + 1)) := by
        rw [← rot_down d (by omega) hxm (by omega)]
        exact permIn_trans _ _ _ _ _ hp (swp_permIn _ _ _ _ _ (by omega) (by omega) (by omega) (by omega) (by rw [size_rotS]; exact hb))
       have HW2 : Hid _ := hw2
       have HP2 : Hid _ := hp2
       rw [show ((x - 1 : Nat) : Int) = (x : Int) - 1 by omega] at hs
       clear hw hw2 hp hp2
       go_wp2
       go_roundg (x - 1 - i)
       case measure => omega
       case rel => exact ⟨x - 1, by congr 1 <;> omega, by omega, by omega, Nat.le_refl _, HW2.out, HP2.out⟩
     · have hxe : x = i := by omega
       subst hxe
       go_wp2
       (try simp only [Exit.inBlock, Exit.then])
       refine bodyPost_ret (results_none rfl _ _ _) rfl ?_
       exact ⟨rfl, _, sw_of_alloc hw hblk, hp, by rw [show b = m + 1 by omega]; exact merge_one_r hS (by omega) (by omega) (by omega) hl H1.out H2.out⟩
structure Mid (lt : α → α → Bool) (d : Array α) (a s mid e b : Nat) (dk : Array α) : Prop where
 perm : PermIn a b d dk
 half : Halves lt dk a s mid e b
theorem mid_fin {lt : α → α → Bool} {d dk d2 d3 : Array α} {a s mid e b : Nat} (hM : Mid lt d a s mid e b dk) (h1 : a ≤ mid) (h2 : mid ≤ b) (hb : b ≤ d.size) (p1 : PermIn a mid dk d2) (s1 : SortedIn lt a mid d2) (p2 : PermIn mid b d2 d3) (s2 : SortedIn lt mid b d3) : PermIn a b d d3 ∧ SortedIn lt a b d3 := by
 have e1 := hM.perm.1
 have e2 := p1.1
 exact ⟨permIn_trans _ _ _ _ _ hM.perm (permIn_trans _ _ _ _ _ (permIn_mono _ _ _ _ _ _ (Nat.le_refl _) h2 (by omega) p1) (permIn_mono _ _ _ _ _ _ h1 (Nat.le_refl _) (by omega) p2)), glue h1 h2 (by omega) hM.half.cross p1 p2 s1 s2⟩
theorem high_kept {lt : α → α → Bool} {dk d2 : Array α} {a mid x b : Nat} (p : PermIn a mid dk d2) (hx : mid ≤ x) (h : SortedIn lt x b dk) : SortedIn lt x b d2 := h.congr fun i h1 _ => p.2.1 i (.inr (by omega))

theorem symMerge_g (L : LaysGt.n30 P ρ) (enc : α → Value) (lt : α → α → Bool) (hS : SWO lt) (g : Nat) (lb : Array Value) (sf : Nat) (sb : Array Value) (blk off a m b : Nat) (d : Array α) (w : World) (hm1 : a + 1 < m) (hm2 : m + 1 < b)
 (eg : ∀ args w, (callFunc g args).run P w = .ok (.enter g args) w) (hless : LessReads P g lb enc lt blk off d.size w) (hswap : SwapSwaps P sf sb enc blk off d.size)
 (hH : Holds enc w blk off d) (hblk : blk < w.heap.size) (hb : b ≤ d.size) (hsz : d.size < 4611686018427387904) (hl : SortedIn lt a m d) (hr : SortedIn lt m b d)
 (ih : ∀ (x y z : Nat) (dk : Array α) (wr : World), z - x < b - a → x < y → y < z → z ≤ dk.size → dk.size = d.size → LessReads P g lb enc lt blk off dk.size wr → SwapSwaps P sf sb enc blk off dk.size → Holds enc wr blk off dk → blk < wr.heap.size → SortedIn lt x y dk → SortedIn lt y z dk →
  Calls P (ρ.f 30) #[.agg #[.func (.func g) #[] lb, .func (.func sf) #[] sb], .int .i64 x, .int .i64 y, .int .i64 z] wr fun e w' => e = .returned (.tuple #[]) ∧ ∃ d', SW enc wr blk off d' w' ∧ PermIn x z dk d' ∧ SortedIn lt x z d') :
 Calls P (ρ.f 30) #[.agg #[.func (.func g) #[] lb, .func (.func sf) #[] sb], .int .i64 a, .int .i64 m, .int .i64 b] w fun e w' => e = .returned (.tuple #[]) ∧ ∃ d', SW enc w blk off d' w' ∧ PermIn a b d d' ∧ SortedIn lt a b d' := by
 have mixed := L.mixed; have t0 := L.t0; have a0 := L.a0; have z0 := L.z0; have v0 := L.v0; have t3 := L.t3; have a3 := L.a3; have z3 := L.z3; have v3 := L.v3; have t4 := L.t4; have a4 := L.a4; have z4 := L.z4; have v4 := L.v4; have t26 := L.t26; have a26 := L.a26; have z26 := L.z26; have v26 := L.v26; have t38 := L.t38; have a38 := L.a38; have z38 := L.z38; have v38 := L.v38; have t42 := L.t42; have a42 := L.a42; have z42 := L.z42; have v42 := L.v42; have t47 := L.t47; have a47 := L.a47; have z47 := L.z47; have v47 := L.v47
 have u42 := run_underlying L.t42
 have hsz' : blk < (w.alloc (.cells #[.func (.func g) #[] lb, .func (.func sf) #[] sb] (ρ.t 42))).heap.size := by show blk < (w.heap.push _).size; simp; omega
 have hH1 : Holds enc (w.alloc (.cells #[.func (.func g) #[] lb, .func (.func sf) #[] sb] (ρ.t 42))) blk off d := by rw [alloc_eq_grow]; exact holds_grow enc w _ blk off d hblk hH
 have hL1 : LessReads P g lb enc lt blk off d.size (w.alloc (.cells #[.func (.func g) #[] lb, .func (.func sf) #[] sb] (ρ.t 42))) := by rw [alloc_eq_grow]; exact hless.grow hblk _
 have cell : ∀ (wr : World) (dk : Array α), SW enc (w.alloc (.cells #[.func (.func g) #[] lb, .func (.func sf) #[] sb] (ρ.t 42))) blk off dk wr → wr.cell? ⟨w.heap.size, 0, none⟩ = some (.func (.func g) #[] lb) ∧ wr.cell? ⟨w.heap.size, 1, none⟩ = some (.func (.func sf) #[] sb) := fun wr dk hw => by
  constructor <;> (rw [sw_cell hw (by show w.heap.size ≠ blk; omega) (by show w.heap.size < (w.heap.push _).size; simp)]; simp)
 have less : ∀ (wr : World) (dk : Array α), SW enc (w.alloc (.cells #[.func (.func g) #[] lb, .func (.func sf) #[] sb] (ρ.t 42))) blk off dk wr → dk.size = d.size → ∀ i j : Nat, i < d.size → j < d.size → Calls P g (#[.int .i64 i, .int .i64 j] ++ lb) wr fun e w' => e = .returned (.bool (lt dk[i]! dk[j]!)) ∧ ∃ q, w' = wr.drewN q := fun wr dk hw hs i j hi hj => hw.less hL1 hs i j hi hj
 have e42 : ∀ args w, (callFunc (ρ.f 42) args).run P w = .ok (.enter (ρ.f 42) args) w := enters_of L.f42 (by kernel_rfl) rfl
 have e30 : ∀ args w, (callFunc (ρ.f 30) args).run P w = .ok (.enter (ρ.f 30) args) w := enters_of L.f30 (by kernel_rfl) rfl
 have L42 : LaysGt.n42 P ρ := { L with }
 have hrot : ∀ (wr : World) (x z : Nat), SW enc (w.alloc (.cells #[.func (.func g) #[] lb, .func (.func sf) #[] sb] (ρ.t 42))) blk off d wr → x < m → m < z → z ≤ d.size → Calls P (ρ.f 42) #[.agg #[.func (.func g) #[] lb, .func (.func sf) #[] sb], .int .i64 x, .int .i64 m, .int .i64 z] wr fun e w' => e = .returned (.tuple #[]) ∧ SW enc (w.alloc (.cells #[.func (.func g) #[] lb, .func (.func sf) #[] sb] (ρ.t 42))) blk off (rotS d x m z) w' ∧ PermIn x z d (rotS d x m z) := fun wr x z hw h1 h2 h3 =>
  (rotate_w L42 enc (.func g) #[] lb sf sb blk off x m z d wr hswap (hw.holds hsz' hH1 rfl) (hw.lt hsz') h1 h2 h3 hsz).mono fun e w' ⟨he, h, hp⟩ => ⟨he, sw_trans hw hsz' h (size_rotS ..), hp⟩
 have hrec : ∀ (wr : World) (dk : Array α) (x y z : Nat), SW enc (w.alloc (.cells #[.func (.func g) #[] lb, .func (.func sf) #[] sb] (ρ.t 42))) blk off dk wr → dk.size = d.size → z - x < b - a → x < y → y < z → z ≤ d.size → SortedIn lt x y dk → SortedIn lt y z dk → Calls P (ρ.f 30) #[.agg #[.func (.func g) #[] lb, .func (.func sf) #[] sb], .int .i64 x, .int .i64 y, .int .i64 z] wr fun e w' => e = .returned (.tuple #[]) ∧ ∃ d', SW enc (w.alloc (.cells #[.func (.func g) #[] lb, .func (.func sf) #[] sb] (ρ.t 42))) blk off d' w' ∧ PermIn x z dk d' ∧ SortedIn lt x z d' := fun wr dk x y z hw hs h0 h1 h2 h3 h4 h5 =>
  (ih x y z dk wr h0 h1 h2 (by omega) hs (by rw [hs]; exact hw.lessReads hL1 hsz' hs) (by rw [hs]; exact hswap) (hw.holds hsz' hH1 hs) (hw.lt hsz') h4 h5).mono fun e w' ⟨he, d', h, hp, hso⟩ => ⟨he, d', sw_trans hw hsz' h hp.1, hp, hso⟩
 have CELL : Hid _ := cell
 have LESS : Hid _ := less
 have HS : Hid _ := SW.start hH1
 have ROT : Hid _ := hrot
 have REC : Hid _ := hrec
 clear cell less hless hL1 hrot hrec ih
 obtain ⟨mid, hmid⟩ : ∃ mid, mid = (a + b) / 2 := ⟨_, rfl⟩
 have hmc : ((a : Int) + b) / 2 = (mid : Int) := by omega
 have HMC : Hid _ := hmc
 have hmid1 : 2 * mid ≤ a + b := by omega
 have hmid2 : a + b ≤ 2 * mid + 1 := by omega
 clear hmid hmc
 go_enter L.f30, BodyGt.n30_ntmps ρ
 rcases Nat.lt_or_ge mid m with hmm | hmm
 · obtain ⟨lo, hlo⟩ : ∃ lo, lo = mid + m - b := ⟨_, rfl⟩
   have h1 : a ≤ lo := by omega
   have h2 : lo ≤ mid := by omega
   have h4 : lo = a ∨ mid + m - lo = b := by omega
   have h5 : mid + m - lo ≤ b := by omega
   have H3 : Hid _ := hlo
   have H4 : Hid _ := h4
   clear hlo h4
   go_wp2
   simp only [HMC.out]
   rw [show ((m : Int) - a == 1) = false by rw [beq_eq_false_iff_ne]; omega]
   try rw [show ((b : Int) - m == 1) = false by rw [beq_eq_false_iff_ne]; omega]
   try rw [show decide ((mid : Int) < m) = true by rw [decide_eq_true_eq]; omega]
   go_loopg [18, 19] (mid - lo) (fun k s18 s19 wr => ∃ (s r : Nat), s18 = .int .i64 s ∧ s19 = .int .i64 r ∧ lo ≤ s ∧ s ≤ r ∧ r ≤ mid ∧ r - s ≤ k ∧ SW enc (w.alloc (.cells #[.func (.func g) #[] lb, .func (.func sf) #[] sb] (ρ.t 42))) blk off d wr ∧ (lo < s → lt d[mid + m - s]! d[s - 1]! = false) ∧ (r < mid → lt d[mid + m - 1 - r]! d[r]! = true))
   case atStart => exact ⟨lo, mid, by congr 1 <;> (have := H3.out; omega), by congr 1, Nat.le_refl _, h2, Nat.le_refl _, Nat.le_refl _, HS.out, fun h => by omega, fun h => by omega⟩
   case round =>
    obtain ⟨s, r, rfl, rfl, hs, hsr, hr', hk, hw, q1, q2⟩ := hrel
    obtain ⟨c0, c1⟩ := CELL.out wr d hw
    have HW : Hid _ := hw
    have Q1 : Hid _ := q1
    have Q2 : Hid _ := q2
    by_cases hlt : s < r
    · have hls := LESS.out wr d hw rfl (mid + m - 1 - (s + r) / 2) ((s + r) / 2) (by omega) (by omega)
      rw [show ((mid + m - 1 - (s + r) / 2 : Nat) : Int) = (mid : Int) + m - 1 - ((s : Int) + r) / 2 by omega, show (((s + r) / 2 : Nat) : Int) = ((s : Int) + r) / 2 by omega] at hls
      clear hw q1 q2 hH hH1 hswap hl hr
      cases hv : lt d[mid + m - 1 - (s + r) / 2]! d[(s + r) / 2]! with
      | false =>
       rw [hv] at hls
       have HV : Hid _ := hv
       clear hv
       go_wp2
       go_wp2_with (go_at_fn g; refine hls.mono ?_; rintro e w' ⟨rfl, q, rfl⟩)
       go_roundg (r - ((s + r) / 2 + 1))
       case measure => omega
       case rel => exact ⟨(s + r) / 2 + 1, r, by congr 1 <;> omega, rfl, by omega, by omega, hr', Nat.le_refl _, SW.drewN HW.out q, fun _ => by rw [show mid + m - ((s + r) / 2 + 1) = mid + m - 1 - (s + r) / 2 by omega, Nat.add_sub_cancel]; exact HV.out, Q2.out⟩
      | true =>
       rw [hv] at hls
       have HV : Hid _ := hv
       clear hv
       go_wp2
       go_wp2_with (go_at_fn g; refine hls.mono ?_; rintro e w' ⟨rfl, q, rfl⟩)
       go_roundg ((s + r) / 2 - s)
       case measure => omega
       case rel => exact ⟨s, (s + r) / 2, rfl, by congr 1 <;> omega, hs, by omega, by omega, Nat.le_refl _, SW.drewN HW.out q, Q1.out, fun _ => HV.out⟩
    · have hsre : s = r := by omega
      subst hsre
      have C : Cut lt d a s m (mid + m - s) b := cut_of hS (lo := lo) (hi := mid) (by omega) (by omega) hb hl hr hs hr' (by omega) (by omega) h1 (by omega) h5 H4.out (by omega) q1 q2
      obtain ⟨e, he⟩ : ∃ e, e = mid + m - s := ⟨_, rfl⟩
      have hec : (e : Int) = (mid : Int) + m - s := by omega
      rw [← he] at C
      have H := C.halves hl hr
      rw [show s + (e - m) = mid by omega] at H
      have hee1 : s + e ≤ mid + m := by omega
      have hee2 : mid + m ≤ s + e := by omega
      have HEC : Hid _ := hec
      clear C he hec q1 q2 hH hH1 hswap hl hr hlt hk
      rcases Nat.lt_or_ge s m with hsm | hsm
      · rcases Nat.lt_or_ge m e with hme | hme
        · have hrot := ROT.out wr s e hw hsm hme (by omega)
          have HR : Hid _ := fun (wr : World) (dk : Array α) hw hs h4 h5 => REC.out wr dk mid e b hw hs (by omega) (by omega) (show e < b from h5) (by omega) h4
          have hpm : PermIn s e d (rotS d s m e) → PermIn a b d (rotS d s m e) := permIn_mono _ _ _ _ _ _ (by omega) (by omega) (by omega)
          have HPM : Hid _ := hpm
          have HH : Hid _ := H
          rw [HEC.out] at hrot
          clear hw H hpm
          rcases Nat.lt_or_ge a s with has | has
          · rcases Nat.lt_or_ge e b with heb | heb
            · go_wp2_with (go_at_fn (ρ.f 42); refine hrot.mono ?_; rintro e1 w1 ⟨rfl, hw1, hp1⟩; obtain ⟨d0, d1⟩ := CELL.out w1 _ hw1)
              have hr1 := REC.out w1 _ a s mid hw1 (size_rotS ..) (by omega) has (by omega) (by omega) HH.out.r1 HH.out.r2
              have HM : Hid _ := Mid.mk (HPM.out hp1) HH.out
              clear hp1 hw1
              go_wp2_with (go_at_fn (ρ.f 30); refine hr1.mono ?_; rintro e2 w2 ⟨rfl, dk2, hw2, hp2, hs2⟩; obtain ⟨f0, f1⟩ := CELL.out w2 _ hw2)
              have hz2 : dk2.size = d.size := by rw [hp2.1, size_rotS]
              have hr2 := REC.out w2 dk2 mid e b hw2 hz2 (by omega) (by omega) heb (by omega) (high_kept hp2 (Nat.le_refl _) HH.out.r3) (high_kept hp2 (by omega) HH.out.r4)
              have HP2 : Hid _ := hp2
              have HS2 : Hid _ := hs2
              clear hp2 hs2 hw2 hr1 d0 d1 hz2
              rw [HEC.out] at hr2
              go_wp2_with (go_at_fn (ρ.f 30); refine hr2.mono ?_; rintro e3 w3 ⟨rfl, dk3, hw3, hp3, hs3⟩)
              go_end0
              exact ⟨rfl, _, sw_of_alloc hw3 hblk, mid_fin HM.out (by omega) (by omega) hb HP2.out HS2.out hp3 hs3⟩
            · go_wp2_with (go_at_fn (ρ.f 42); refine hrot.mono ?_; rintro e1 w1 ⟨rfl, hw1, hp1⟩; obtain ⟨d0, d1⟩ := CELL.out w1 _ hw1)
              have hr1 := REC.out w1 _ a s mid hw1 (size_rotS ..) (by omega) has (by omega) (by omega) HH.out.r1 HH.out.r2
              have HM : Hid _ := Mid.mk (HPM.out hp1) HH.out
              clear hp1 hw1
              go_wp2_with (go_at_fn (ρ.f 30); refine hr1.mono ?_; rintro e2 w2 ⟨rfl, dk2, hw2, hp2, hs2⟩; obtain ⟨f0, f1⟩ := CELL.out w2 _ hw2)
              go_end0
              exact ⟨rfl, _, sw_of_alloc hw2 hblk, mid_fin HM.out (by omega) (by omega) hb hp2 hs2 (permIn_refl _ _ _) (high_kept hp2 (Nat.le_refl _) (by rw [show b = e by omega]; exact HH.out.r3))⟩
          · have HS1 : Hid _ := show SortedIn lt a mid (rotS d s m e) from by rw [show a = s by omega]; exact HH.out.r2
            rcases Nat.lt_or_ge e b with heb | heb
            · exfalso; omega
            · go_wp2_with (go_at_fn (ρ.f 42); refine hrot.mono ?_; rintro e1 w1 ⟨rfl, hw1, hp1⟩; obtain ⟨d0, d1⟩ := CELL.out w1 _ hw1)
              have HM : Hid _ := Mid.mk (HPM.out hp1) HH.out
              go_end0
              exact ⟨rfl, _, sw_of_alloc hw1 hblk, mid_fin HM.out (by omega) (by omega) hb (permIn_refl _ _ _) HS1.out (permIn_refl _ _ _) (by rw [show b = e by omega]; exact HH.out.r3)⟩
        · have H' : Halves lt d a s mid e b := by
           rw [show rotS d s m e = d by rw [show e = m by omega]; exact rot_same_r _ (by omega) (by omega)] at H
           exact H
          have HM : Hid _ := Mid.mk (permIn_refl d a b) H'
          have HH : Hid _ := H'
          have hr2 := REC.out wr d mid e b hw rfl (by omega) (by omega) (by omega) (by omega) H'.r3 H'.r4
          rw [HEC.out] at hr2
          clear H H' hw
          go_wp2_with (go_at_fn (ρ.f 30); refine hr2.mono ?_; rintro e3 w3 ⟨rfl, dk3, hw3, hp3, hs3⟩)
          go_end0
          exact ⟨rfl, _, sw_of_alloc hw3 hblk, mid_fin HM.out (by omega) (by omega) hb (permIn_refl _ _ _) (by rw [show mid = s by omega]; exact HH.out.r1) hp3 hs3⟩
      · exfalso; omega
 · obtain ⟨lo, hlo⟩ : ∃ lo, lo = a := ⟨_, rfl⟩
   have h1 : a ≤ lo := by omega
   have h2 : lo ≤ m := by omega
   have h4 : lo = a ∨ mid + m - lo = b := by omega
   have h5 : mid + m - lo ≤ b := by omega
   have H3 : Hid _ := hlo
   have H4 : Hid _ := h4
   clear hlo h4
   go_wp2
   simp only [HMC.out]
   rw [show ((m : Int) - a == 1) = false by rw [beq_eq_false_iff_ne]; omega]
   try rw [show ((b : Int) - m == 1) = false by rw [beq_eq_false_iff_ne]; omega]
   try rw [show decide ((mid : Int) < m) = false by rw [decide_eq_false_iff_not]; omega]
   go_loopg [18, 19] (m - lo) (fun k s18 s19 wr => ∃ (s r : Nat), s18 = .int .i64 s ∧ s19 = .int .i64 r ∧ lo ≤ s ∧ s ≤ r ∧ r ≤ m ∧ r - s ≤ k ∧ SW enc (w.alloc (.cells #[.func (.func g) #[] lb, .func (.func sf) #[] sb] (ρ.t 42))) blk off d wr ∧ (lo < s → lt d[mid + m - s]! d[s - 1]! = false) ∧ (r < m → lt d[mid + m - 1 - r]! d[r]! = true))
   case atStart => exact ⟨lo, m, by congr 1 <;> (have := H3.out; omega), by congr 1, Nat.le_refl _, h2, Nat.le_refl _, Nat.le_refl _, HS.out, fun h => by omega, fun h => by omega⟩
   case round =>
    obtain ⟨s, r, rfl, rfl, hs, hsr, hr', hk, hw, q1, q2⟩ := hrel
    obtain ⟨c0, c1⟩ := CELL.out wr d hw
    have HW : Hid _ := hw
    have Q1 : Hid _ := q1
    have Q2 : Hid _ := q2
    by_cases hlt : s < r
    · have hls := LESS.out wr d hw rfl (mid + m - 1 - (s + r) / 2) ((s + r) / 2) (by omega) (by omega)
      rw [show ((mid + m - 1 - (s + r) / 2 : Nat) : Int) = (mid : Int) + m - 1 - ((s : Int) + r) / 2 by omega, show (((s + r) / 2 : Nat) : Int) = ((s : Int) + r) / 2 by omega] at hls
      clear hw q1 q2 hH hH1 hswap hl hr
      cases hv : lt d[mid + m - 1 - (s + r) / 2]! d[(s + r) / 2]! with
      | false =>
       rw [hv] at hls
       have HV : Hid _ := hv
       clear hv
       go_wp2
       go_wp2_with (go_at_fn g; refine hls.mono ?_; rintro e w' ⟨rfl, q, rfl⟩)
       go_roundg (r - ((s + r) / 2 + 1))
       case measure => omega
       case rel => exact ⟨(s + r) / 2 + 1, r, by congr 1 <;> omega, rfl, by omega, by omega, hr', Nat.le_refl _, SW.drewN HW.out q, fun _ => by rw [show mid + m - ((s + r) / 2 + 1) = mid + m - 1 - (s + r) / 2 by omega, Nat.add_sub_cancel]; exact HV.out, Q2.out⟩
      | true =>
       rw [hv] at hls
       have HV : Hid _ := hv
       clear hv
       go_wp2
       go_wp2_with (go_at_fn g; refine hls.mono ?_; rintro e w' ⟨rfl, q, rfl⟩)
       go_roundg ((s + r) / 2 - s)
       case measure => omega
       case rel => exact ⟨s, (s + r) / 2, rfl, by congr 1 <;> omega, hs, by omega, by omega, Nat.le_refl _, SW.drewN HW.out q, Q1.out, fun _ => HV.out⟩
    · have hsre : s = r := by omega
      subst hsre
      have C : Cut lt d a s m (mid + m - s) b := cut_of hS (lo := lo) (hi := m) (by omega) (by omega) hb hl hr hs hr' (by omega) (by omega) h1 (by omega) h5 H4.out (by omega) q1 q2
      obtain ⟨e, he⟩ : ∃ e, e = mid + m - s := ⟨_, rfl⟩
      have hec : (e : Int) = (mid : Int) + m - s := by omega
      rw [← he] at C
      have H := C.halves hl hr
      rw [show s + (e - m) = mid by omega] at H
      have hee1 : s + e ≤ mid + m := by omega
      have hee2 : mid + m ≤ s + e := by omega
      have HEC : Hid _ := hec
      clear C he hec q1 q2 hH hH1 hswap hl hr hlt hk
      rcases Nat.lt_or_ge s m with hsm | hsm
      · rcases Nat.lt_or_ge m e with hme | hme
        · have hrot := ROT.out wr s e hw hsm hme (by omega)
          have HR : Hid _ := fun (wr : World) (dk : Array α) hw hs h4 h5 => REC.out wr dk mid e b hw hs (by omega) (by omega) (show e < b from h5) (by omega) h4
          have hpm : PermIn s e d (rotS d s m e) → PermIn a b d (rotS d s m e) := permIn_mono _ _ _ _ _ _ (by omega) (by omega) (by omega)
          have HPM : Hid _ := hpm
          have HH : Hid _ := H
          rw [HEC.out] at hrot
          clear hw H hpm
          rcases Nat.lt_or_ge a s with has | has
          · rcases Nat.lt_or_ge e b with heb | heb
            · go_wp2_with (go_at_fn (ρ.f 42); refine hrot.mono ?_; rintro e1 w1 ⟨rfl, hw1, hp1⟩; obtain ⟨d0, d1⟩ := CELL.out w1 _ hw1)
              have hr1 := REC.out w1 _ a s mid hw1 (size_rotS ..) (by omega) has (by omega) (by omega) HH.out.r1 HH.out.r2
              have HM : Hid _ := Mid.mk (HPM.out hp1) HH.out
              clear hp1 hw1
              go_wp2_with (go_at_fn (ρ.f 30); refine hr1.mono ?_; rintro e2 w2 ⟨rfl, dk2, hw2, hp2, hs2⟩; obtain ⟨f0, f1⟩ := CELL.out w2 _ hw2)
              have hz2 : dk2.size = d.size := by rw [hp2.1, size_rotS]
              have hr2 := REC.out w2 dk2 mid e b hw2 hz2 (by omega) (by omega) heb (by omega) (high_kept hp2 (Nat.le_refl _) HH.out.r3) (high_kept hp2 (by omega) HH.out.r4)
              have HP2 : Hid _ := hp2
              have HS2 : Hid _ := hs2
              clear hp2 hs2 hw2 hr1 d0 d1 hz2
              rw [HEC.out] at hr2
              go_wp2_with (go_at_fn (ρ.f 30); refine hr2.mono ?_; rintro e3 w3 ⟨rfl, dk3, hw3, hp3, hs3⟩)
              go_end0
              exact ⟨rfl, _, sw_of_alloc hw3 hblk, mid_fin HM.out (by omega) (by omega) hb HP2.out HS2.out hp3 hs3⟩
            · exfalso; omega
          · have HS1 : Hid _ := show SortedIn lt a mid (rotS d s m e) from by rw [show a = s by omega]; exact HH.out.r2
            rcases Nat.lt_or_ge e b with heb | heb
            · go_wp2_with (go_at_fn (ρ.f 42); refine hrot.mono ?_; rintro e1 w1 ⟨rfl, hw1, hp1⟩; obtain ⟨d0, d1⟩ := CELL.out w1 _ hw1)
              have HM : Hid _ := Mid.mk (HPM.out hp1) HH.out
              have hr2 := REC.out w1 _ mid e b hw1 (size_rotS ..) (by omega) (by omega) heb (by omega) HH.out.r3 HH.out.r4
              clear hp1 hw1
              rw [HEC.out] at hr2
              go_wp2_with (go_at_fn (ρ.f 30); refine hr2.mono ?_; rintro e3 w3 ⟨rfl, dk3, hw3, hp3, hs3⟩)
              go_end0
              exact ⟨rfl, _, sw_of_alloc hw3 hblk, mid_fin HM.out (by omega) (by omega) hb (permIn_refl _ _ _) HS1.out hp3 hs3⟩
            · go_wp2_with (go_at_fn (ρ.f 42); refine hrot.mono ?_; rintro e1 w1 ⟨rfl, hw1, hp1⟩; obtain ⟨d0, d1⟩ := CELL.out w1 _ hw1)
              have HM : Hid _ := Mid.mk (HPM.out hp1) HH.out
              go_end0
              exact ⟨rfl, _, sw_of_alloc hw1 hblk, mid_fin HM.out (by omega) (by omega) hb (permIn_refl _ _ _) HS1.out (permIn_refl _ _ _) (by rw [show b = e by omega]; exact HH.out.r3)⟩
        · exfalso; omega
      · have H' : Halves lt d a s mid e b := by
         rw [show rotS d s m e = d by rw [show s = m by omega]; exact rot_same_l _ (by omega) (by omega)] at H
         exact H
        have HM : Hid _ := Mid.mk (permIn_refl d a b) H'
        have HH : Hid _ := H'
        clear H H'
        rcases Nat.lt_or_ge s mid with hlm | hlm
        · have hr1 := REC.out wr d a s mid hw rfl (by omega) (by omega) hlm (by omega) HH.out.r1 HH.out.r2
          clear hw
          go_wp2_with (go_at_fn (ρ.f 30); refine hr1.mono ?_; rintro e2 w2 ⟨rfl, dk2, hw2, hp2, hs2⟩; obtain ⟨f0, f1⟩ := CELL.out w2 _ hw2)
          go_end0
          exact ⟨rfl, _, sw_of_alloc hw2 hblk, mid_fin HM.out (by omega) (by omega) hb hp2 hs2 (permIn_refl _ _ _) (high_kept hp2 (Nat.le_refl _) (by rw [show mid = e by omega]; exact HH.out.r4))⟩
        · clear hw
          go_wp2
          go_end0
          exact ⟨rfl, _, sw_of_alloc HW.out hblk, mid_fin HM.out (by omega) (by omega) hb (permIn_refl _ _ _) (by rw [show mid = s by omega]; exact HH.out.r1) (permIn_refl _ _ _) (by rw [show mid = e by omega]; exact HH.out.r4)⟩
def Ru (lt : α → α → Bool) (B n : Nat) (d : Array α) (a : Nat) : Prop := ∀ k, SortedIn lt (a + k * B) (min (a + k * B + B) n) d
theorem Ru.head {lt : α → α → Bool} {B n : Nat} {d : Array α} {a : Nat} (h : Ru lt B n d a) : SortedIn lt a (min (a + B) n) d := by have := h 0; simpa using this
theorem Ru.tail {lt : α → α → Bool} {B n : Nat} {d : Array α} {a : Nat} (h : Ru lt B n d a) : Ru lt B n d (a + B) := fun k => by
 have := h (k + 1)
 rw [Nat.succ_mul, show a + (k * B + B) = a + B + k * B by omega] at this
 exact this
theorem ru_cons {lt : α → α → Bool} {B n : Nat} {d : Array α} {a : Nat} (h1 : SortedIn lt a (min (a + B) n) d) (h2 : Ru lt B n d (a + B)) : Ru lt B n d a := fun k => by
 cases k with
 | zero => simpa using h1
 | succ k =>
  have := h2 k
  rw [Nat.succ_mul, show a + (k * B + B) = a + B + k * B by omega]
  exact this
theorem Ru.congr {lt : α → α → Bool} {B n : Nat} {d d' : Array α} {a : Nat} (h : Ru lt B n d a) (he : ∀ i, a ≤ i → d'[i]! = d[i]!) : Ru lt B n d' a := fun k => (h k).congr fun i h1 _ => he i (Nat.le_trans (Nat.le_add_right _ _) h1)
theorem ru_none {lt : α → α → Bool} {B n : Nat} {d : Array α} {a : Nat} (h : n ≤ a) : Ru lt B n d a := fun k i j h1 h2 h3 => by
 have := Nat.le_add_right a (k * B)
 omega
def Pre (lt : α → α → Bool) (B n : Nat) (d : Array α) (a : Nat) : Prop := ∀ d', (∀ i, i < a → d'[i]! = d[i]!) → Ru lt B n d' a → Ru lt B n d' 0
theorem pre_zero {lt : α → α → Bool} {B n : Nat} {d : Array α} : Pre lt B n d 0 := fun _ _ h => h
theorem Pre.step {lt : α → α → Bool} {B n : Nat} {d d2 : Array α} {a : Nat} (h : Pre lt B n d a) (he : ∀ i, i < a → d2[i]! = d[i]!) (hs : SortedIn lt a (min (a + B) n) d2) : Pre lt B n d2 (a + B) := fun d' hd hr =>
 h d' (fun i hi => (hd i (by omega)).trans (he i hi)) (ru_cons (hs.congr fun i _ h2 => hd i (by omega)) hr)

theorem symMerge_w (L : LaysGt.n30 P ρ) (enc : α → Value) (lt : α → α → Bool) (hS : SWO lt) (g : Nat) (lb : Array Value) (sf : Nat) (sb : Array Value) (blk off : Nat) (eg : ∀ args w, (callFunc g args).run P w = .ok (.enter g args) w) :
 ∀ (N a m b : Nat) (d : Array α) (w : World), b - a ≤ N → a < m → m < b → b ≤ d.size → d.size < 4611686018427387904 → LessReads P g lb enc lt blk off d.size w → SwapSwaps P sf sb enc blk off d.size → Holds enc w blk off d → blk < w.heap.size → SortedIn lt a m d → SortedIn lt m b d →
  Calls P (ρ.f 30) #[.agg #[.func (.func g) #[] lb, .func (.func sf) #[] sb], .int .i64 a, .int .i64 m, .int .i64 b] w fun e w' => e = .returned (.tuple #[]) ∧ ∃ d', SW enc w blk off d' w' ∧ PermIn a b d d' ∧ SortedIn lt a b d'
 | 0, a, m, b, d, w, hN, h1, h2, hb, hsz, hless, hswap, hH, hblk, hl, hr => absurd hN (by omega)
 | N + 1, a, m, b, d, w, hN, h1, h2, hb, hsz, hless, hswap, hH, hblk, hl, hr => by
  by_cases e1 : m = a + 1
  · subst e1
    exact symMerge_l L enc lt hS g lb sf sb blk off a (a + 1) b d w (by omega) (by omega) eg hless hswap hH hblk (by omega) hb hsz hr
  · by_cases e2 : b = m + 1
    · exact symMerge_r L enc lt hS g lb sf sb blk off a m b d w (by omega) (by omega) (by omega) eg hless hswap hH hblk hb hsz hl
    · exact symMerge_g L enc lt hS g lb sf sb blk off a m b d w (by omega) (by omega) eg hless hswap hH hblk hb hsz hl hr fun x y z dk wr h0 k1 k2 k3 ks k4 k5 k6 k7 k8 k9 =>
       symMerge_w L enc lt hS g lb sf sb blk off eg N x y z dk wr (by omega) k1 k2 k3 (by omega) k4 k5 k6 k7 k8 k9

theorem stable_w (L : LaysGt.n15 P ρ) (enc : α → Value) (lt : α → α → Bool) (hS : SWO lt) (g : Nat) (lb : Array Value) (sf : Nat) (sb : Array Value) (blk off : Nat) (d : Array α) (w : World)
 (eg : ∀ args w, (callFunc g args).run P w = .ok (.enter g args) w) (hless : LessReads P g lb enc lt blk off d.size w) (hswap : SwapSwaps P sf sb enc blk off d.size)
 (hH : Holds enc w blk off d) (hblk : blk < w.heap.size) (hsz : d.size < 1152921504606846976) :
 Calls P (ρ.f 15) #[.agg #[.func (.func g) #[] lb, .func (.func sf) #[] sb], .int .i64 d.size] w fun e w' => e = .returned (.tuple #[]) ∧ ∃ d', SW enc w blk off d' w' ∧ PermIn 0 d.size d d' ∧ SortedIn lt 0 d.size d' := by
 have mixed := L.mixed; have t0 := L.t0; have a0 := L.a0; have z0 := L.z0; have v0 := L.v0; have t3 := L.t3; have a3 := L.a3; have z3 := L.z3; have v3 := L.v3; have t4 := L.t4; have a4 := L.a4; have z4 := L.z4; have v4 := L.v4; have t26 := L.t26; have a26 := L.a26; have z26 := L.z26; have v26 := L.v26; have t38 := L.t38; have a38 := L.a38; have z38 := L.z38; have v38 := L.v38; have t42 := L.t42; have a42 := L.a42; have z42 := L.z42; have v42 := L.v42; have t47 := L.t47; have a47 := L.a47; have z47 := L.z47; have v47 := L.v47
 have u42 := run_underlying L.t42
 have e29 : ∀ args w, (callFunc (ρ.f 29) args).run P w = .ok (.enter (ρ.f 29) args) w := enters_of L.f29 (by kernel_rfl) rfl
 have e30 : ∀ args w, (callFunc (ρ.f 30) args).run P w = .ok (.enter (ρ.f 30) args) w := enters_of L.f30 (by kernel_rfl) rfl
 have LI : LaysGg.n26 P ρ.viaGt := ({ L with } : LaysGt.n29 P ρ).elder
 have L30 : LaysGt.n30 P ρ := { L with }
 have hsz' : blk < (w.alloc (.cells #[.func (.func g) #[] lb, .func (.func sf) #[] sb] (ρ.t 42))).heap.size := by show blk < (w.heap.push _).size; simp; omega
 have hH1 : Holds enc (w.alloc (.cells #[.func (.func g) #[] lb, .func (.func sf) #[] sb] (ρ.t 42))) blk off d := by rw [alloc_eq_grow]; exact holds_grow enc w _ blk off d hblk hH
 have hL1 : LessReads P g lb enc lt blk off d.size (w.alloc (.cells #[.func (.func g) #[] lb, .func (.func sf) #[] sb] (ρ.t 42))) := by rw [alloc_eq_grow]; exact hless.grow hblk _
 have cell : ∀ (wr : World) (dk : Array α), SW enc (w.alloc (.cells #[.func (.func g) #[] lb, .func (.func sf) #[] sb] (ρ.t 42))) blk off dk wr → wr.cell? ⟨w.heap.size, 0, none⟩ = some (.func (.func g) #[] lb) ∧ wr.cell? ⟨w.heap.size, 1, none⟩ = some (.func (.func sf) #[] sb) := fun wr dk hw => by
  constructor <;> (rw [sw_cell hw (by show w.heap.size ≠ blk; omega) (by show w.heap.size < (w.heap.push _).size; simp)]; simp)
 have hins : ∀ (wr : World) (dk : Array α) (x y : Nat), SW enc (w.alloc (.cells #[.func (.func g) #[] lb, .func (.func sf) #[] sb] (ρ.t 42))) blk off dk wr → dk.size = d.size → x ≤ y → y ≤ d.size → Calls P (ρ.f 29) #[.agg #[.func (.func g) #[] lb, .func (.func sf) #[] sb], .int .i64 x, .int .i64 y] wr fun e w' => e = .returned (.tuple #[]) ∧ ∃ d', SW enc (w.alloc (.cells #[.func (.func g) #[] lb, .func (.func sf) #[] sb] (ρ.t 42))) blk off d' w' ∧ PermIn x y dk d' ∧ SortedIn lt x y d' := fun wr dk x y hw hs h1 h2 =>
  (Any.insertionSort_func_w LI enc lt g lb sf sb blk off x y dk wr eg (by rw [hs]; exact hw.lessReads hL1 hsz' hs) (by rw [hs]; exact hswap) (hw.holds hsz' hH1 hs) (hw.lt hsz') h1 (by omega) (by omega)).mono fun e w' ⟨he, n, os, h⟩ => by
   obtain ⟨p1, p2⟩ := insertionSort_holds hS dk x y h1 (by omega)
   exact ⟨he, _, sw_trans hw hsz' ⟨n, os, h⟩ p1.1, p1, p2⟩
 have hrec : ∀ (wr : World) (dk : Array α) (x y z : Nat), SW enc (w.alloc (.cells #[.func (.func g) #[] lb, .func (.func sf) #[] sb] (ρ.t 42))) blk off dk wr → dk.size = d.size → x < y → y < z → z ≤ d.size → SortedIn lt x y dk → SortedIn lt y z dk → Calls P (ρ.f 30) #[.agg #[.func (.func g) #[] lb, .func (.func sf) #[] sb], .int .i64 x, .int .i64 y, .int .i64 z] wr fun e w' => e = .returned (.tuple #[]) ∧ ∃ d', SW enc (w.alloc (.cells #[.func (.func g) #[] lb, .func (.func sf) #[] sb] (ρ.t 42))) blk off d' w' ∧ PermIn x z dk d' ∧ SortedIn lt x z d' := fun wr dk x y z hw hs h1 h2 h3 h4 h5 =>
  (symMerge_w L30 enc lt hS g lb sf sb blk off eg (z - x) x y z dk wr (Nat.le_refl _) h1 h2 (by omega) (by omega) (by rw [hs]; exact hw.lessReads hL1 hsz' hs) (by rw [hs]; exact hswap) (hw.holds hsz' hH1 hs) (hw.lt hsz') h4 h5).mono fun e w' ⟨he, d', h, hp, hso⟩ => ⟨he, d', sw_trans hw hsz' h hp.1, hp, hso⟩
 have CELL : Hid _ := cell
 have INS : Hid _ := hins
 have REC : Hid _ := hrec
 have HS : Hid _ := SW.start hH1
 clear cell hins hrec hless hswap hH hH1 hL1
 obtain ⟨n, hn1, hn2⟩ : ∃ n, n = d.size ∧ n ≤ d.size := ⟨_, rfl, Nat.le_refl _⟩
 have hn3 : d.size ≤ n := by omega
 rw [← hn1]
 clear hn1
 go_enter L.f15, BodyGt.n15_ntmps ρ
 go_wp2
 go_loopg [5, 6] n (fun k s5 s6 wr => ∃ (a b : Nat) (dk : Array α), s5 = .int .i64 a ∧ s6 = .int .i64 b ∧ a ≤ n ∧ b ≤ a + 20 ∧ a + 20 ≤ b ∧ n - a ≤ k ∧ dk.size = d.size ∧ SW enc (w.alloc (.cells #[.func (.func g) #[] lb, .func (.func sf) #[] sb] (ρ.t 42))) blk off dk wr ∧ PermIn 0 n d dk ∧ Pre lt 20 n dk a)
 case atStart => exact ⟨0, 20, d, by go_num, by go_num, Nat.zero_le _, by omega, by omega, Nat.le_refl _, rfl, HS.out, permIn_refl _ _ _, pre_zero⟩
 case round =>
  obtain ⟨a, b, dk, rfl, rfl, ha, hb1, hb2, hk, hds, hw, hp, hpre⟩ := hrel
  obtain ⟨c0, c1⟩ := CELL.out wr dk hw
  have HP : Hid _ := hp
  have HPRE : Hid _ := hpre
  by_cases hbn : b ≤ n
  · have hc := INS.out wr dk a b hw hds (by omega) (by omega)
    clear hp hpre hw
    go_wp2_with (go_at_fn (ρ.f 29); refine hc.mono ?_; rintro e w1 ⟨rfl, dk1, hw1, hp1, hs1⟩)
    go_roundg (n - b)
    case measure => omega
    case rel =>
     exact ⟨b, b + 20, dk1, rfl, by congr 1 <;> omega, hbn, by omega, by omega, Nat.le_refl _, hp1.1.trans hds, hw1, permIn_trans _ _ _ _ _ HP.out (permIn_mono _ _ _ _ _ _ (Nat.zero_le _) hbn (by omega) hp1), by
      have := Pre.step HPRE.out (d2 := dk1) (fun i hi => hp1.2.1 i (.inl hi)) (by rw [show min (a + 20) n = b by omega]; exact hs1)
      rwa [show a + 20 = b by omega] at this⟩
  · have hc := INS.out wr dk a n hw hds (by omega) (by omega)
    clear hp hpre hw
    go_wp2_with (go_at_fn (ρ.f 29); refine hc.mono ?_; rintro e w1 ⟨rfl, dk1, hw1, hp1, hs1⟩)
    have hru : Ru lt 20 n dk1 0 := HPRE.out dk1 (fun i hi => hp1.2.1 i (.inl hi)) (ru_cons (by rw [show min (a + 20) n = n by omega]; exact hs1) (ru_none (by omega)))
    have hp2 := permIn_trans _ _ _ _ _ HP.out (permIn_mono _ _ _ _ _ _ (Nat.zero_le _) (Nat.le_refl _) (by omega) hp1)
    have HST : Hid _ := (show dk1.size = d.size ∧ SW enc (w.alloc (.cells #[.func (.func g) #[] lb, .func (.func sf) #[] sb] (ρ.t 42))) blk off dk1 w1 ∧ PermIn 0 n d dk1 ∧ Ru lt 20 n dk1 0 from ⟨hp1.1.trans hds, hw1, hp2, hru⟩)
    clear hru hp1 hs1 hp2 hw1 c0 c1 hk
    go_loopg [4] n (fun k s4 wr => ∃ (B : Nat) (dk : Array α), s4 = .int .i64 B ∧ 20 ≤ B ∧ B ≤ 2 * n + 20 ∧ n - B ≤ k ∧ dk.size = d.size ∧ SW enc (w.alloc (.cells #[.func (.func g) #[] lb, .func (.func sf) #[] sb] (ρ.t 42))) blk off dk wr ∧ PermIn 0 n d dk ∧ Ru lt B n dk 0)
    case atStart => exact ⟨20, dk1, by go_num, by omega, by omega, by omega, HST.out⟩
    case round =>
     obtain ⟨B, dk2, rfl, hB, hB2, hk, hds2, hw2, hp2, hru2⟩ := hrel
     have HW2 : Hid _ := hw2
     have HP2 : Hid _ := hp2
     have HRU2 : Hid _ := hru2
     by_cases hBn : B < n
     · clear hw2 hp2 hru2
       go_wp2
       go_loopg [5, 6] n (fun k s5 s6 wr => ∃ (a b : Nat) (dk : Array α), s5 = .int .i64 a ∧ s6 = .int .i64 b ∧ a ≤ n ∧ b ≤ a + B + B ∧ a + B + B ≤ b ∧ n - a ≤ k ∧ dk.size = d.size ∧ SW enc (w.alloc (.cells #[.func (.func g) #[] lb, .func (.func sf) #[] sb] (ρ.t 42))) blk off dk wr ∧ PermIn 0 n d dk ∧ Pre lt (B + B) n dk a ∧ Ru lt B n dk a)
       case atStart => exact ⟨0, B + B, dk2, by go_num, by congr 1 <;> omega, Nat.zero_le _, by omega, by omega, Nat.le_refl _, hds2, HW2.out, HP2.out, pre_zero, HRU2.out⟩
       case round =>
        obtain ⟨a', b', dk3, rfl, rfl, ha3, hb3, hb4, hk3, hds3, hw3, hp3, hpre3, hru3⟩ := hrel
        obtain ⟨c0, c1⟩ := CELL.out _ dk3 hw3
        have HW3 : Hid _ := hw3
        have HP3 : Hid _ := hp3
        have HPRE3 : Hid _ := hpre3
        have HRU3 : Hid _ := hru3
        by_cases hbn3 : b' ≤ n
        · have hc := REC.out _ dk3 a' (a' + B) b' hw3 hds3 (by omega) (by omega) (by omega) (by have := hru3.head; rwa [show min (a' + B) n = a' + B by omega] at this) (by have := hru3.tail.head; rwa [show min (a' + B + B) n = b' by omega] at this)
          rw [Int.natCast_add] at hc
          clear hw3 hp3 hpre3 hru3
          go_wp2_with (go_at_fn (ρ.f 30); refine hc.mono ?_; rintro e w4 ⟨rfl, dk4, hw4, hp4, hs4⟩)
          go_roundg (n - b')
          case measure => omega
          case rel =>
           exact ⟨b', b' + B + B, dk4, rfl, by congr 1 <;> omega, hbn3, by omega, by omega, Nat.le_refl _, hp4.1.trans hds3, hw4, permIn_trans _ _ _ _ _ HP3.out (permIn_mono _ _ _ _ _ _ (Nat.zero_le _) hbn3 (by omega) hp4), by
            have := Pre.step HPRE3.out (d2 := dk4) (fun i hi => hp4.2.1 i (.inl hi)) (by rw [show min (a' + (B + B)) n = b' by omega]; exact hs4)
            rwa [show a' + (B + B) = b' by omega] at this, by
            have := (Ru.tail (Ru.tail HRU3.out)).congr (d' := dk4) fun i hi => hp4.2.1 i (.inr (by omega))
            rwa [show a' + B + B = b' by omega] at this⟩
        · by_cases hmn : a' + B < n
          · have hc := REC.out _ dk3 a' (a' + B) n hw3 hds3 (by omega) hmn (by omega) (by have := hru3.head; rwa [show min (a' + B) n = a' + B by omega] at this) (by have := hru3.tail.head; rwa [show min (a' + B + B) n = n by omega] at this)
            rw [Int.natCast_add] at hc
            clear hw3 hp3 hpre3 hru3
            go_wp2_with (go_at_fn (ρ.f 30); refine hc.mono ?_; rintro e w4 ⟨rfl, dk4, hw4, hp4, hs4⟩)
            go_roundg (n - (B + B))
            case measure => omega
            case rel =>
             exact ⟨B + B, dk4, by congr 1 <;> omega, by omega, by omega, Nat.le_refl _, hp4.1.trans hds3, hw4, permIn_trans _ _ _ _ _ HP3.out (permIn_mono _ _ _ _ _ _ (Nat.zero_le _) (Nat.le_refl _) (by omega) hp4), HPRE3.out dk4 (fun i hi => hp4.2.1 i (.inl hi)) (ru_cons (by rw [show min (a' + (B + B)) n = n by omega]; exact hs4) (ru_none (by omega)))⟩
          · have hso : SortedIn lt a' (min (a' + (B + B)) n) dk3 := by have := hru3.head; rwa [show min (a' + B) n = min (a' + (B + B)) n by omega] at this
            have HSO : Hid _ := hso
            clear hw3 hp3 hpre3 hru3 hso
            go_wp2
            go_roundg (n - (B + B))
            case measure => omega
            case rel => exact ⟨B + B, dk3, by congr 1 <;> omega, by omega, by omega, Nat.le_refl _, hds3, HW3.out, HP3.out, HPRE3.out dk3 (fun _ _ => rfl) (ru_cons HSO.out (ru_none (by omega)))⟩
     · have hso := hru2.head
       rw [show min (0 + B) n = n by omega] at hso
       have HSO : Hid _ := hso
       clear hso hw2 hp2 hru2
       go_wp2
       go_end0
       exact ⟨rfl, dk2, sw_of_alloc HW2.out hblk, HP2.out, HSO.out⟩

theorem sort_SliceStable_any (L : LaysGt.n8 P ρ) (t e : TypeId) (i ie : TypeInfo) (hi : P.info? t = some i) (hd : i.desc = .slice e) (hpk : P.packed t = false) (hie : P.info? e = some ie) (ke : Nat) (hke : ∀ w, (Extern.Rtype.kind e).run P w = .ok ke w)
 (hs1 : ie.size = 1) (hagg : ∀ w, (isAgg e).run P w = .ok false w) (enc : α → Value) (h1 : ∀ x, (enc x).oneCell' = true) (lt : α → α → Bool) (hO : SWO lt) (g : Nat) (lb : Array Value)
 (eg : ∀ args w, (callFunc g args).run P w = .ok (.enter g args) w) (blk off c : Nat) (d : Array α) (h2 : 2 ≤ d.size) (hsz : d.size < 1152921504606846976)
 (f : Nat) (hf : P.funcs.findIdx? (·.name == "internal/reflectlite" ++ ".Swapper$" ++ toString (swapperK d.size ie ke)) = some f)
 (gS : Bool) (hx : ∀ args W, (callFunc f args).run P W = ((Extern.ReflectliteSwapper.swap gS args).run P W).andThen fun v w' => .ok (.value v) w')
 (w : World) (hless : LessReads P g lb enc lt blk off d.size w) (hH : Holds enc w blk off d) (hblk : blk < w.heap.size) :
 Calls P (ρ.f 8) #[.iface t (.slice (some ⟨blk, off, none⟩) d.size c), .func (.func g) #[] lb] w fun e w' =>
  e = .returned (.tuple #[]) ∧ ∃ d' n os, PermIn 0 d.size d d' ∧ SortedIn lt 0 d.size d' ∧ w' = grow (putRow enc (Sort.ahead w n) blk off d') os := by
 refine Any.sort_SliceStable_of_stable L t e i ie hi hd hpk hie ke hke _ d.size c (by omega) f hf (.func g) #[] lb w _ ?_
 have hB : sliceBound P e ie ke (some ⟨blk, off, none⟩) d.size c = #[.slice (some ⟨blk, off, none⟩) d.size c, typeHandle P e] := by
  unfold sliceBound; rw [if_neg (swapperK_gt _ _ _ h2)]
 have hW : stableWorld P ρ t (some ⟨blk, off, none⟩) d.size c w = grow w #[.cells #[.slice (some ⟨blk, off, none⟩) d.size c] t, .cells #[.pointer (some ⟨P.globals.size, t, none⟩), .pointer (some ⟨w.heap.size, 0, none⟩), .int .u64 151] (ρ.t 36)] := by
  unfold stableWorld; rw [alloc_eq_grow, alloc_eq_grow, grow_grow]; rfl
 generalize (#[.cells #[.slice (some ⟨blk, off, none⟩) d.size c] t, .cells #[.pointer (some ⟨P.globals.size, t, none⟩), .pointer (some ⟨w.heap.size, 0, none⟩), .int .u64 151] (ρ.t 36)] : Array Obj) = os0 at hW
 rw [hB, hW]
 have hp := stable_w (P := P) (ρ := ρ) { L with } enc lt hO g lb f _ blk off d (grow w os0) eg (hless.grow hblk os0)
  (swapSwaps_of_literal gS f hx e ie hie hs1 hagg enc h1 blk off d.size c) (holds_grow enc w _ blk off d hblk hH) (by rw [size_grow]; omega) hsz
 refine hp.mono ?_
 rintro e w' ⟨rfl, d', ⟨n, os, rfl⟩, hpm, hso⟩
 exact ⟨rfl, d', n, _, hpm, hso, by unfold sortWorld; rw [ahead_grow, putRow_grow enc (Sort.ahead w n) _ blk off _ hblk, grow_grow]⟩
end Go.Proofs.Mrg
