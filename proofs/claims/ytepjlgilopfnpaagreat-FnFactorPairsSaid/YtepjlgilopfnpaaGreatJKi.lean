/- Walks: pushes and closures, the reference's side. -/
import Derived.Laws.Small
import Derived.Test.YtepjlgilopfnpaaGreatJKh
import Derived.Test.YtepjlgilopfnpaaGreatJKf
import Derived.Test.YtepjlgilopfnpaaGreatJSq
set_option linter.unusedSectionVars false
namespace Go.Proofs.YtepjlgilopfnpaaGreat
open Go Go.Pv Go.Proofs
set_option maxHeartbeats 32000000
set_option maxRecDepth 100000

theorem dig_lt {n : Nat} (hn : 0 < n) (i j : Nat) : digN n i j < n := Nat.mod_lt _ hn
theorem tb_val {n : Nat} {ops : List OpD} (ho : opsIn n ops) {f : OpD} (hf : f ∈ ops) {i : Nat} (hi : i < n ^ f.ar.toNat) : f.tb.getD i 0 = (bk f.tb i : Int) := by
 have := ((ho f hf).2.2.2 i hi).1; unfold bk; omega
theorem set_in {n : Nat} {l : List Int} {k : Nat} {v : Int} (h : ∀ x ∈ l, 0 ≤ x ∧ x < (n : Int)) (h0 : 0 ≤ v) (h1 : v < (n : Int)) : ∀ x ∈ l.set k v, 0 ≤ x ∧ x < (n : Int) := fun x hx => by
 rcases List.mem_or_eq_of_mem_set hx with hx | rfl
 · exact h x hx
 · exact ⟨h0, h1⟩
theorem ints_set {l : List Int} {k : Nat} {v : Int} : ints (l.set k v) = .sl 1 none ((l.map I).set (k * 1) (I v)) := by
 show PV.sl 1 none ((l.set k v).map I) = _
 rw [List.map_set, Nat.mul_one]
theorem spush_c (n : Nat) (ops : List OpD) (p : List Int) (hn0 : 0 < n) (hn : n ≤ 8) (hl : ops.length ≤ 1048576) (ho : opsIn n ops) (hp : Pt n p) : PCalls Tryz.prog 198 [algP n ops, ints p] (ints (pushL n ops p)) := by
 refine pcalls1 Tryz.func198 rfl Tryz.ntmps198 rfl ?_
 refine wF ?_
 have hpl := hp.len
 have h1 := sown_c p (by omega)
 repeat' (first
| refine wO ?_
| (refine o_go rfl ?_; (first
| refine p_p (zG rfl rfl aD (h1)) ?_
| refine wS ?_
| refine p_p (ps_box rfl rfl) ?_); refine ⟨_, aB, ?_⟩))
 refine g_loopT (α := Nat) (fun o => [(5, ints (foldU ((ops.take o).flatMap (stpsF n p)) p)), (6, I (o : Int))]) (fun _ => []) (fun o => o ≤ ops.length) (fun o => ops.length - o) 0 aH (Nat.zero_le _) ⟨rfl, rfl, trivial⟩ rfl ?_
 rintro o hol
 refine wH ?_
 by_cases hoi : o < ops.length
 · have hq := opsK_at hoi
   have hfm := opsK_mem hoi
   have hsn : foldU ((ops.take (o + 1)).flatMap (stpsF n p)) p = foldU (stpsF n p (ops.getD o default)) (foldU ((ops.take o).flatMap (stpsF n p)) p) := by
    rw [take_snoc default hoi, List.flatMap_append, foldU_app]; simp
   have hP0 : (foldU ((ops.take o).flatMap (stpsF n p)) p).length = n := by rw [foldU_len]; exact hpl
   obtain ⟨ha0, ha3, htl, -⟩ := ho _ hfm
   generalize hf : ops.getD o default = f at *
   generalize foldU ((ops.take o).flatMap (stpsF n p)) p = P0 at *
   obtain ⟨a, ha⟩ : ∃ a : Nat, f.ar = a := ⟨f.ar.toNat, by omega⟩
   have haa : f.ar.toNat = a := by omega
   have hpw := pow_le3 (show n ≤ 1000 by omega) (show a ≤ 3 by omega)
   rw [haa] at htl
   repeat' (first
| refine wO ?_
| (refine o_go rfl ?_; (first
| refine wS ?_); refine ⟨_, aB, ?_⟩)
| (refine zK rfl ?_ ?_ <;> intro hc <;> try omega)
| refine wE ?_)
   all_goals try (exfalso; omega)
   refine g_loopT (α := Nat) (fun i => [(5, ints (foldU ((List.range i).flatMap (stpsI n p f)) P0)), (7, I (i : Int))]) (fun _ => []) (fun i => i ≤ n ^ a) (fun i => n ^ a - i) 0 aH (Nat.zero_le _) ⟨rfl, rfl, trivial⟩ rfl ?_
   rintro i hi
   refine wH ?_
   by_cases hil : i < n ^ a
   · have hs2 : foldU ((List.range (i + 1)).flatMap (stpsI n p f)) P0 = foldU (stpsI n p f i) (foldU ((List.range i).flatMap (stpsI n p f)) P0) := by
      rw [List.range_succ, List.flatMap_append, foldU_app]; simp
     have hP1 : (foldU ((List.range i).flatMap (stpsI n p f)) P0).length = n := by rw [foldU_len]; exact hP0
     generalize foldU ((List.range i).flatMap (stpsI n p f)) P0 = P1 at *
     have h2 := sargs_c n a i hn0 (by omega) (by omega) (by omega)
     rw [← ha] at h2
     have hal := argsL_len n a i
     have hain := argsL_in hn0 a i
     repeat' (first
| refine wO ?_
| refine zP zk zk ?_
| (refine o_go rfl ?_; (first
| refine p_p (zG rfl rfl aD (h2)) ?_
| refine p_p (zN rfl rfl rfl zz hq ze) ?_
| refine wS ?_); refine ⟨_, aB, ?_⟩)
| (refine zK rfl ?_ ?_ <;> intro hc <;> try omega)
| refine wE ?_)
     all_goals try (exfalso; omega)
     refine g_loopT (α := Nat) (fun k => [(5, ints (foldU ((List.range k).map (stpF n p f i)) P1)), (9, I (k : Int))]) (fun _ => []) (fun k => k ≤ a) (fun k => a - k) 0 aH (Nat.zero_le _) ⟨rfl, rfl, trivial⟩ rfl ?_
     rintro k hk
     refine wH ?_
     by_cases hka : k < a
     · have hdl := dig_lt hn0 i (a - 1 - k)
       have hbl := hp.lt hdl
       have hix1 : ((argsL n a i).map I)[((k : Nat) : Int).toNat]? = some (I (digN n i (a - 1 - k) : Int)) := by rw [← args_at a i k hka]; exact idx_I (by omega)
       have hix2 : (p.map I)[((digN n i (a - 1 - k) : Nat) : Int).toNat]? = some (I (bk p (digN n i (a - 1 - k)) : Int)) := by rw [← hp.val hdl]; exact idx_I (by omega)
       have hix3 : (f.tb.map I)[((i : Nat) : Int).toNat]? = some (I (bk f.tb i : Int)) := by rw [← tb_val ho hfm (by rw [haa]; exact hil)]; exact idx_I (by omega)
       have hsl := sub_lt hil (show a - 1 - k < a by omega) hbl
       have hval := sval_c n ops o ((argsL n a i).set k (bk p (digN n i (a - 1 - k)) : Int)) hn hl hoi (by rw [List.length_set]; omega) (set_in hain (by omega) (by omega)) (by rw [List.length_set, hf, hal]; exact htl)
       rw [idx_set hn0 a i k _ hka hil, hf, Int.toNat_natCast, tb_val ho hfm (by rw [haa]; exact hsl), ints_set] at hval
       have hst : stpF n p f i k = (bk f.tb i, bk f.tb (subN n i (a - 1 - k) (bk p (digN n i (a - 1 - k))))) := by unfold stpF; rw [haa]
       have hlt := (stp_lt hn0 ho hp hfm (by rw [haa]; exact hil) (by rw [haa]; exact hka) : (stpF n p f i k).1 < n ∧ (stpF n p f i k).2 < n)
       rw [hst] at hlt
       have hun := sun_c (foldU ((List.range k).map (stpF n p f i)) P1) (bk f.tb i) (bk f.tb (subN n i (a - 1 - k) (bk p (digN n i (a - 1 - k))))) (by rw [foldU_len]; omega) (by rw [foldU_len]; omega) (by rw [foldU_len]; omega)
       have hs3 : foldU ((List.range (k + 1)).map (stpF n p f i)) P1 = unL (foldU ((List.range k).map (stpF n p f i)) P1) (bk f.tb i) (bk f.tb (subN n i (a - 1 - k) (bk p (digN n i (a - 1 - k))))) := by
        rw [range_snoc, foldU_app, hst]; rfl
       rw [← hs3] at hun
       repeat' (first
| refine wO ?_
| refine zP zk zk ?_
| (refine o_go rfl ?_; (first
| refine p_e rfl (e_callR rfl rfl aD rfl (own_R _ (by rw [argsL_len]; omega))) ?_
| refine p_p (zN rfl rfl rfl zz hix1 ze) ?_
| refine p_p (zN rfl rfl rfl zz hix2 ze) ?_
| refine p_e zk (e_store_arr rfl rfl rfl rfl (by simp; omega) rfl rfl) ?_
| refine p_p (zN rfl rfl rfl zz hq ze) ?_
| refine p_p (zN rfl rfl rfl zz hix3 ze) ?_
| refine p_p (ps_callM rfl rfl aD (by rfl) (hval)) ?_
| refine p_p (zG rfl rfl aD (hun)) ?_
| refine wS ?_
| refine p_p (ps_load_agg rfl rfl aK) ?_); refine ⟨_, aB, ?_⟩)
| (refine zK rfl ?_ ?_ <;> intro hc <;> try omega)
| refine wE ?_)
       all_goals try (exfalso; omega)
       exact zT (k + 1) (by omega) (by omega) aI ⟨rfl, rfl, trivial⟩ (zM _)
     · repeat' (first
| refine wO ?_
| (refine o_go rfl ?_; (first
| refine wS ?_); refine ⟨_, aB, ?_⟩)
| (refine zK rfl ?_ ?_ <;> intro hc <;> try omega)
| refine wE ?_)
       all_goals try (exfalso; omega)
       refine zT (i + 1) (by omega) (by omega) aI ⟨?_, rfl, trivial⟩ (zM _)
       rw [hs2, show k = a by omega]
       unfold stpsI
       rw [haa]; rfl
   · repeat' (first
| refine wO ?_
| (refine o_go rfl ?_; (first
| refine p_p (zN rfl rfl rfl zz hq ze) ?_
| refine wS ?_); refine ⟨_, aB, ?_⟩)
| (refine zK rfl ?_ ?_ <;> intro hc <;> try omega)
| refine wE ?_)
     all_goals try (exfalso; omega)
     refine zT (o + 1) (by omega) (by omega) aI ⟨?_, rfl, trivial⟩ (zM _)
     rw [hsn, show i = n ^ a by omega]
     unfold stpsF
     rw [haa]; rfl
 · repeat' (first
| refine wO ?_
| (refine o_go rfl ?_; (first
| refine wS ?_); refine ⟨_, aB, ?_⟩)
| (refine zK rfl ?_ ?_ <;> intro hc <;> try omega)
| refine kr1 ?_
| refine krS rfl ?_
| refine wE ?_)
   all_goals try (exfalso; omega)
   rw [List.take_of_length_le (by omega)]; rfl
def cgB (n : Nat) (ops : List OpD) (p : List Int) : Bool := ptB n p && decide (pushL n ops p = p)
theorem cgB_iff {n : Nat} {ops : List OpD} {p : List Int} (hn : 0 < n) (ho : opsIn n ops) : cgB n ops p = true ↔ Pt n p ∧ Cong n ops p := by
 unfold cgB
 rw [Bool.and_eq_true, ptB_iff, decide_eq_true_eq]
 exact ⟨fun ⟨h1, h2⟩ => ⟨h1, (push_same hn ho h1).1 h2⟩, fun ⟨h1, h2⟩ => ⟨h1, (push_same hn ho h1).2 h2⟩⟩
theorem iterP_len {n : Nat} {ops : List OpD} {p : List Int} (hn : 0 < n) (ho : opsIn n ops) (hp : Pt n p) (k : Nat) : Pt n (iterP n ops k p) := (iter_facts hn ho hp k).1
theorem iterP_succ (n : Nat) (ops : List OpD) : ∀ (k : Nat) (p : List Int), iterP n ops (k + 1) p = pushL n ops (iterP n ops k p) := by
 intro k p
 first
 | rfl
 | (induction k generalizing p with
  | zero => rfl
  | succ k ih => rw [show iterP n ops (k + 1 + 1) p = iterP n ops (k + 1) (pushL n ops p) from rfl, ih]; rfl)
theorem sclose_c (n : Nat) (ops : List OpD) (p : List Int) (hn0 : 0 < n) (hn : n ≤ 8) (hl : ops.length ≤ 1048576) (ho : opsIn n ops) (hp : Pt n p) : PCalls Tryz.prog 187 [algP n ops, ints p] (ints (closeL n ops p)) := by
 refine pcalls1 Tryz.func187 rfl Tryz.ntmps187 rfl ?_
 refine wF ?_
 repeat' (first
| refine wO ?_
| (refine o_go rfl ?_; (first
| refine wS ?_
| refine p_p (ps_box rfl rfl) ?_); refine ⟨_, aB, ?_⟩))
 refine g_loopT (α := Nat) (fun k => [(1, ints (iterP n ops k p)), (5, I (k : Int))]) (fun _ => []) (fun k => k ≤ n) (fun k => n - k) 0 aH (Nat.zero_le _) ⟨rfl, rfl, trivial⟩ rfl ?_
 rintro k hk
 refine wH ?_
 by_cases hkn : k < n
 · have h1 := spush_c n ops (iterP n ops k p) hn0 hn hl ho (iterP_len hn0 ho hp k)
   rw [← iterP_succ] at h1
   repeat' (first
| refine wO ?_
| (refine o_go rfl ?_; (first
| refine p_p (zG rfl rfl aD (h1)) ?_
| refine wS ?_
| refine p_p (ps_load_agg rfl rfl aK) ?_); refine ⟨_, aB, ?_⟩)
| (refine zK rfl ?_ ?_ <;> intro hc <;> try omega)
| refine wE ?_)
   all_goals try (exfalso; omega)
   exact zT (k + 1) (by omega) (by omega) aI ⟨rfl, rfl, trivial⟩ (zM _)
 · repeat' (first
| refine wO ?_
| (refine o_go rfl ?_; (first
| refine wS ?_); refine ⟨_, aB, ?_⟩)
| (refine zK rfl ?_ ?_ <;> intro hc <;> try omega)
| refine kr1 ?_
| refine krS rfl ?_
| refine wE ?_)
   all_goals try (exfalso; omega)
   rw [show k = n by omega]; rfl
theorem sprin_c (n : Nat) (ops : List OpD) (x y : Nat) (hn : n ≤ 8) (hl : ops.length ≤ 1048576) (ho : opsIn n ops) (hx : x < n) (hy : y < n) : PCalls Tryz.prog 162 [algP n ops, I (x : Int), I (y : Int)] (ints (cgL n ops x y)) := by
 refine pcalls1 Tryz.func162 rfl Tryz.ntmps162 rfl ?_
 refine wF ?_
 have h1 := sident_c n (by omega)
 have hid := idL_pt n
 have h2 := sun_c (idL n) x y (by rw [hid.len]; omega) (by rw [hid.len]; omega) (by rw [hid.len]; omega)
 have h3 := sclose_c n ops (unL (idL n) x y) (by omega) hn hl ho (unL_pt hid hx hy)
 repeat' (first
| refine wO ?_
| refine zP zk zk ?_
| (refine o_go rfl ?_; (first
| refine p_p (zG rfl rfl aD (h1)) ?_
| refine p_p (zG rfl rfl aD (h2)) ?_
| refine p_p (zG rfl rfl aD (h3)) ?_
| refine wS ?_
| refine p_p (ps_load_agg rfl rfl aK) ?_
| refine p_p (ps_box rfl rfl) ?_); refine ⟨_, aB, ?_⟩)
| refine kr1 ?_
| refine krS rfl ?_
| refine wE ?_)
 all_goals first | rfl | (exfalso; omega)
/-! ### What is told of a pair -/
theorem algOk_facts {n : Int} {ops : List OpD} (h : algOk n ops = true) : ∃ m : Nat, n = m ∧ 0 < m ∧ m ≤ 8 ∧ ops.length ≤ 4 ∧ opsIn m ops := by
 unfold algOk at h
 simp only [Bool.and_eq_true, decide_eq_true_eq] at h
 have h1 := inB_iff.1 h.1
 refine ⟨n.toNat, by omega, by omega, by omega, h.2.1, opsIn_of fun f hf => List.all_eq_true.1 h.2.2 f hf⟩
end Go.Proofs.YtepjlgilopfnpaaGreat
/- The layer: a slice of structs, each of a number and a row that the call owns. -/
namespace Go.Pv
open Go
attribute [local semireducible] Go.Pv.Goal Go.Pv.Ops Go.Pv.PStep Go.Pv.EStep Go.Pv.KRets Go.Pv.PCalls Go.Pv.OpsG Go.Pv.LCalls
def killR1 (k : Nat) : PV → PV
 | .gat _ _ _ => .any
 | .gr _ _ => .any
 | p => killP1 k p
def killRA (k : Nat) : PV → PV
 | .agg l => .agg (l.map (killR1 k))
 | p => killR1 k p
def killR (k : Nat) : PV → PV
 | .tup l => .tup (l.map (killRA k))
 | .agg l => .agg (l.map (killR1 k))
 | p => killR1 k p
section
variable {P : Program} {o : Oper} {S : St}
theorem e_store_sg0 {t : TypeId} [ht : CellT P t] {x v : Operand} {id i k : Nat} {e1 e2 : TypeId} {n : Nat} {rows : List (List PV)} {r : List PV} {h0 p : PV} (ho : o.op = .store t x v) (hd : o.dst = none) (h1 : S.ev x = .hat id k) (hh : S.hp[id]? = some (.sg e1 e2 n rows))
 (hk : k = i * 2) (hr : rows[i]? = some (h0 :: r)) (h2 : view S.hp (S.ev v) = p) (hp1 : p.one = true) : EStep P o S ⟨S.fr, S.hp.set id (.sg e1 e2 n (rows.set i (p :: r)))⟩ := by
 subst hk
 have hi : i < rows.length := (List.getElem?_eq_some_iff.1 hr).1
 have hrows : ∀ (k : Nat) (r' : List PV), (rows.set i (p :: r))[k]? = some r' → ∃ r'' : List PV, rows[k]? = some r'' ∧ r''.tail.length = r'.tail.length := fun k r' hk => by
  rw [List.getElem?_set] at hk
  split at hk
  · rename_i e; subst e
    simp only [Option.some.injEq] at hk
    subst hk
    exact ⟨_, hr, rfl⟩
  · exact ⟨r', hk, rfl⟩
 refine EStep.of_store ht.hs ho hd hh (fun m s e l h => by cases h) (fun e1' e2' rows' h => by cases h) (fun e1 e2 n rows h => by cases h) (fun L b h => by simpa [foot] using h) (fun w0 g ρ a w hrel _ => ?_) (fun l h => by cases h) (fun e1' e2' n' rows' h => by cases h; exact ⟨_, _, _, rfl, by simp, hrows⟩)
 obtain ⟨cur, rc, og⟩ := hrel.base.own id _ hh
 have ea : a.eval x = .pointer (some ⟨(ρ id).blk, i * 2, none⟩) := by have := hrel.ev x; rw [h1] at this; exact this
 have ev := hrel.base.view (hrel.ev v)
 rw [h2] at ev
 obtain ⟨hc1, hc2⟩ := ev.oneCell hp1
 have hcap := og.hcap
 refine ⟨_, i * 2, cur, e1, ea, .inl rfl, og.hB, og.hw, og.hg, by rw [og.hsz]; omega, by rw [hc1]; rfl, by rw [hc1]; simpa using hc2, fun cur' hs' hk' => ?_⟩
 refine ⟨cur', rc, og.hB, setRow_heap w _ _ _ _ _ og.hw, hs'.trans og.hsz, by simpa using og.hcap, og.hmax, fun k hk => og.hB' k (by simpa using hk), fun k r' hk => ?_, fun k r' hk => ?_, fun k r' m q hk hm => ?_, og.hg, fun k o hk => og.hg' k o (by simpa using hk), fun k hk => og.hne k (by simpa using hk), fun k m hk hm => og.hinj k m (by simpa using hk) (by simpa using hm)⟩
 · have hkl : k < rows.length := by simpa using (List.getElem?_eq_some_iff.1 hk).1
   rw [hk' (k * 2 + 1), if_neg (by omega)]
   have key : ∃ r'', rows[k]? = some r'' ∧ r''.tail = r'.tail := by
    by_cases e : k = i
    · subst e
      rw [List.getElem?_set_self hi] at hk
      cases hk
      exact ⟨_, hr, rfl⟩
    · rw [List.getElem?_set_ne (Ne.symm e)] at hk
      exact ⟨r', hk, rfl⟩
   obtain ⟨r'', hk2, het⟩ := key
   obtain ⟨b1, b2, b3, b4⟩ := og.hrow k r'' hk2
   rw [het] at b1 b2
   exact ⟨b1, b2, by rw [setRow_other w _ _ _ (og.hne k hkl)]; exact b3, b4⟩
 · by_cases e : k = i
   · subst e
     rw [List.getElem?_set_self hi] at hk
     cases hk
     rw [hk', if_pos (by omega)]
     refine ⟨hp1, ?_⟩
     rw [hc1]
     simpa using ev
   · rw [List.getElem?_set_ne (Ne.symm e)] at hk
     rw [hk', if_neg (by omega)]
     exact og.hh k r' hk
 · by_cases e : k = i
   · subst e
     rw [List.getElem?_set_self hi] at hk
     cases hk
     exact og.hv k _ m q hr hm
   · rw [List.getElem?_set_ne (Ne.symm e)] at hk
     exact og.hv k r' m q hk hm

end

section
variable {P : Program} {o : Oper} {ev : Operand → PV} {hp : List HO}
theorem ps_len_sg {t e : TypeId} {s by_ : Nat} [ht : SlT P t e s by_] {x : Operand} {e1 e2 id n : Nat} {rows : List (List PV)} {tys : Array TypeId} (ho : o.op = .call { callee := .builtin .len, args := #[x], argTypes := tys }) (htys : tys = #[t])
 (h1 : ev x = .hp id) (hh : hp[id]? = some (.sg e1 e2 n rows)) : PStep P o ev hp (I (rows.length + n : Nat)) :=
 .of_run fun w0 g ρ w av hb hx => by
  have e1 := hx x (by simp [ho, Op.operands, Call.operands])
  subst htys
  rw [h1] at e1
  have ea := HpV.sg e1 _ _ _ _ hh
  exact ⟨.int .i64 (rows.length + n : Nat), by simp [execOp, ho, resolve, invoke, builtin, Builtin.len_, ea, run_underlying ht.hu, goInt, go_sem], .val _⟩
theorem ps_index_sg {t e : TypeId} {by_ : Nat} [ht : SlT P t e 2 by_] {x ix : Operand} {e1 e2 : TypeId} {n : Nat} {rows : List (List PV)} {i : Int} {id : Nat} (ho : o.op = .indexAddr t x ix) (h1 : ev x = .hp id)
 (hh : hp[id]? = some (.sg e1 e2 n rows)) (h2 : ev ix = I i) (h0 : 0 ≤ i) (hq : i.toNat < rows.length + n) : PStep P o ev hp (.hat id (i.toNat * 2)) :=
 .of_run fun w0 g ρ w av hb hx => by
  have e1 := hx x (by simp [ho, Op.operands])
  have e2 := val_of (hx ix (by simp [ho, Op.operands])) h2
  rw [h1] at e1
  have ea := HpV.sg e1 _ _ _ _ hh
  refine ⟨.pointer (some ⟨(ρ id).blk, i.toNat * 2, none⟩), ?_, rfl⟩
  have hi : i < (rows.length : Int) + (n : Int) := by omega
  simp [execOp, ho, ea, e2, Instr.indexAt, asIntOf, run_underlying ht.hu, ht.hs, h0, hi, Addr.add_n, go_sem]
theorem ps_load_sg {t : TypeId} [ht : CellT P t] {x : Operand} {id i k n : Nat} {e1 e2 : TypeId} {rows : List (List PV)} (ho : o.op = .load t x) (h1 : ev x = .hat id k) (hh : hp[id]? = some (.sg e1 e2 n rows)) (hk : k = i * 2 + 1) (hi : i < rows.length) : PStep P o ev hp (.gr id i) :=
 .of_run fun w0 g ρ w av hb hx => by
  subst hk
  have ea : av x = .pointer (some ⟨(ρ id).blk, i * 2 + 1, none⟩) := by have := hx x (by simp [ho, Op.operands]); rw [h1] at this; exact this
  obtain ⟨cur, rc, hown⟩ := hb.own id _ hh
  have hcap := hown.hcap
  have hc := own_load hown.hw (i := i * 2 + 1) (by rw [hown.hsz]; omega)
  refine ⟨cur.getD (i * 2 + 1) undef, ?_, (⟨⟨_, _, _, (hown.hrow i _ (List.getElem?_eq_getElem hi)).1⟩, fun e1' e2' rows' r hid hr => (by rw [hh] at hid; cases hid), fun e1' e2' k' rows' r hid hr => ?_⟩ : GrV _ _ _ _ _)⟩
  · simp only [execOp, ho, ea]
    refine run_value ?_
    unfold Instr.loadAt Instr.sureAddr loadVar
    simp only [Sem.run_bind, run_pure, Result.andThen, ht.ha]
    simp [load, Sem.run, hc]
  · rw [hh] at hid
    cases hid
    exact (hown.hrow i r hr).1
end
end Go.Pv
/- The layer: a block of cells that is reached by a slice, settled when it is whole. -/
namespace Go.Pv
open Go
attribute [local semireducible] Go.Pv.Goal Go.Pv.Ops Go.Pv.PStep Go.Pv.EStep Go.Pv.KRets Go.Pv.PCalls Go.Pv.OpsG
section
variable {P : Program} {o : Oper} {ev : Operand → PV} {hp : List HO}
theorem ps_len_box {t e : TypeId} {s by_ : Nat} [ht : SlT P t e s by_] {x : Operand} {id : Nat} {l : List PV} {tys : Array TypeId} (ho : o.op = .call { callee := .builtin .len, args := #[x], argTypes := tys }) (htys : tys = #[t])
 (h1 : ev x = .hp id) (hh : hp[id]? = some (.box l)) : PStep P o ev hp (I l.length) :=
 .of_run fun w0 g ρ w av hb hx => by
  have e1 := hx x (by simp [ho, Op.operands, Call.operands])
  subst htys
  rw [h1] at e1
  have ea := (HpV.box e1 _ hh).1
  exact ⟨.int .i64 l.length, by simp [execOp, ho, resolve, invoke, builtin, Builtin.len_, ea, run_underlying ht.hu, goInt, go_sem], .val _⟩
end
def setS1 (n : Nat) (l : List PV) : PV → PV
 | .hp j => bif j == n then .sl 1 none l else .hp j
 | .hpv j b c => bif j == n then .sl 1 none l else .hpv j b c
 | p => p
def setSA (n : Nat) (l : List PV) : PV → PV
 | .agg m => .agg (m.map (setS1 n l))
 | p => setS1 n l p
def setSP (n : Nat) (l : List PV) : PV → PV
 | .tup m => .tup (m.map (setSA n l))
 | .agg m => .agg (m.map (setS1 n l))
 | p => setS1 n l p
theorem setSA_map (n : Nat) (l : List PV) : setSA n l = mapA (setS1 n l) := by funext p; cases p <;> rfl
theorem setSP_map (n : Nat) (l : List PV) (p : PV) : setSP n l p = mapT (setS1 n l) p := by cases p <;> first | rfl | simp only [setSP, mapT, setSA_map]
def setSH (n : Nat) (l : List PV) (hp : List HO) : List HO := (hp.map (mapHO (setS1 n l))).set n .gone

theorem rel_settleS {w0 : Ini} {S : St} {g : Ghost} {ρ : Nat → Loc} {a : Act} {w : World} (h : Rel w0 S g ρ a w) {n : Nat} {l : List PV} (hn : S.hp[n]? = some (.box l)) (hone : ∀ p ∈ l.map (view1 S.hp), p.one = true) :
 ∃ g', GExt g g' ∧ Rel w0 ⟨S.fr.map (setSP n (l.map (view1 S.hp))), setSH n (l.map (view1 S.hp)) S.hp⟩ g' ρ a w := by
 obtain ⟨cur, e, hown⟩ := h.base.own n _ hn
 let g' : Ghost := gset g (ρ n).blk (fun o => cur[o]?)
 have hx : GExt g g' := fun b o v hv => by
  show gset g (ρ n).blk _ b o = some v
  unfold gset
  split
  · rename_i e; subst e; rw [hown.hg] at hv; cases hv
  · exact hv
 have hag : Agree g' w := fun b o v hv => by
  have hv' : gset g (ρ n).blk (fun o => cur[o]?) b o = some v := hv
  unfold gset at hv'
  split at hv'
  · rename_i e; subst e
    rw [cell_of_row _ _ _ _ _ _ hown.hw]; exact hv'
  · exact h.base.agree b o v hv'
 have hlt : n < S.hp.length := (List.getElem?_eq_some_iff.1 hn).1
 have back : ∀ (i : Nat) (y : HO), ((S.hp.map (mapHO (setS1 n (l.map (view1 S.hp))))).set n .gone)[i]? = some y → y = .gone ∨ (S.hp[i]?).map (mapHO (setS1 n (l.map (view1 S.hp)))) = some y := fun i y hi => by
  rw [List.getElem?_set] at hi
  split at hi
  · split at hi
    · left; simpa using hi.symm
    · cases hi
  · right; rwa [List.getElem?_map] at hi
 have hφ : ∀ v p, VRS1 g ρ S.hp v p → VRS1 g' ρ ((S.hp.map (mapHO (setS1 n (l.map (view1 S.hp))))).set n .gone) v (setS1 n (l.map (view1 S.hp)) p) := fun v p hv => by
  have keyH : ∀ {j}, HpV ρ S.hp v j → HpV ρ ((S.hp.map (mapHO (setS1 n (l.map (view1 S.hp))))).set n .gone) v j := fun {j} hv =>
   { sl := hv.sl
     arr := fun m s e l' hid => by
      rcases back _ _ hid with h' | h'
      · cases h'
      · exact hv.arr _ _ _ _ (mapHO_arr h')
     grid := fun e1 e2 rows hid => by
      rcases back _ _ hid with h' | h'
      · cases h'
      · exact hv.grid _ _ _ (mapHO_grid h')
     sg := fun e1 e2 n rows hid => by
      rcases back _ _ hid with h' | h'
      · cases h'
      · exact hv.sg _ _ _ _ (mapHO_sg h')
     pg := fun e1 e2 n rows hid => by
      rcases back _ _ hid with h' | h'
      · cases h'
      · exact hv.pg _ _ _ _ (mapHO_pg h')
     box := fun l' hid => by
      rcases back _ _ hid with h' | h'
      · cases h'
      · obtain ⟨l0, h0, hl⟩ := mapHO_box h'
        rw [← hl]; exact hv.box _ h0 }
  have keyS : HpV ρ S.hp v n → VR g' v (.sl 1 none (l.map (view1 S.hp))) := fun hv => by
   obtain ⟨e0, h1, h2⟩ := hv.box _ hn
   have hll : (l.map (view1 S.hp)).length = l.length := List.length_map _
   rw [e0, ← hll]
   refine VR.sl 1 none _ 0 _ _ (fun i => [(l.map (view1 S.hp)).getD i .any]) (fun k => cur.getD k undef) (by decide) (by simp) (by rw [hll]; exact h1) h2 (fun i p hi => ?_) (fun k hk => ?_) (fun i j q hi hq => ?_)
   · have : (l.map (view1 S.hp)).getD i .any = p := by rw [List.getD_eq_getElem?_getD, hi]; rfl
     rw [this]
     exact ⟨flat_one (hone p (List.mem_of_getElem? hi)), rfl⟩
   · show gset g (ρ n).blk _ _ _ = _
     unfold gset
     rw [if_pos rfl, Nat.zero_add]
     rw [Nat.mul_one, hll] at hk
     exact getElem?_getD (by rw [hown.hsz]; exact hk)
   · rcases j with _ | j
     · simp only [List.getElem?_cons_zero, Option.some.injEq] at hq
       rw [hll] at hi
       rw [Nat.mul_one, Nat.add_zero, ← hq, List.getD_eq_getElem?_getD, List.getElem?_map, List.getElem?_eq_getElem hi]
       exact (h.base.view1 (hown.hv i _ (List.getElem?_eq_getElem hi))).mono hx
     · simp at hq
  cases p with
  | hp j =>
   simp only [setS1]
   cases hb : (j == n) with
   | false => exact keyH hv
   | true =>
    have e : j = n := by simpa using hb
    subst e
    exact .of_VR (keyS hv)
  | hpv j b c =>
   simp only [setS1]
   cases hb : (j == n) with
   | false => exact ⟨keyH hv.1, hv.2⟩
   | true =>
    have e : j = n := by simpa using hb
    subst e
    exact .of_VR (keyS hv.1)
  | hat j i => exact hv
  | hatv j i b c => exact hv
  | gr j i =>
   refine (⟨GrV.sl hv, fun e1 e2 rows r hid hr => ?_, fun e1 e2 _n rows r hid hr => ?_⟩ : GrV _ _ _ _ _)
   rotate_left
   · rcases back _ _ hid with h' | h'
     · cases h'
     · exact GrV.sg hv _ _ _ _ _ (mapHO_sg h') hr
   rcases back _ _ hid with h' | h'
   · cases h'
   · exact GrV.grid hv _ _ _ _ (mapHO_grid h') hr
  | gat j i k => exact hv
  | _ => exact VR.mono hx hv
 have hbase := h.base.upd hn (x' := .gone) (ρ n) hx (setS1 n (l.map (view1 S.hp))) (by rw [upd_id]; exact hφ) hag h.base.below (fun b o hb => by
  show gset g (ρ n).blk _ b o = _
  unfold gset
  have hne : b ≠ (ρ n).blk := fun e => by subst e; exact hb hown.hB
  rw [if_neg hne]) trivial (fun b hb => hb.elim) (fun b hb hnf => ⟨rfl, fun o => by
  show gset g (ρ n).blk _ b o = _
  unfold gset
  have hne : b ≠ (ρ n).blk := fun e => hnf e
  rw [if_neg hne]⟩)
 rw [upd_id] at hbase
 refine ⟨g', hx, hbase, h.dead, by simpa using h.size, fun i p hp => ?_⟩
 simp only [List.getElem?_map, Option.map_eq_some_iff] at hp
 obtain ⟨p, hp, rfl⟩ := hp
 rw [setSP_map]
 exact (h.fr i p hp).map hφ
theorem g_settleS {P : Program} {K : Exit → St → Prop} {S : St} {c : Code} (n : Nat) {l l' : List PV} {S' : St} (hn : S.hp[n]? = some (.box l)) (hl : l.map (view1 S.hp) = l') (hone : ∀ p ∈ l', p.one = true) (hS : St.mk (S.fr.map (setSP n l')) (setSH n l' S.hp) = S') (hk : Goal P c K S') : Goal P c K S := by
 subst hl
 unfold Goal at hk ⊢
 intro w0 g ρ a w Q hr hQ
 obtain ⟨g', -, hr'⟩ := rel_settleS hr hn hone
 rw [hS] at hr'
 exact hk w0 g' ρ a w Q hr' hQ
end Go.Pv
