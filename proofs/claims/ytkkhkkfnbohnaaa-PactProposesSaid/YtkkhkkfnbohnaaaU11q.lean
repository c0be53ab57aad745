import Derived.Test.YtkkhkkfnbohnaaaU11g
import Derived.Test.YtkkhkkfnbohnaaaV11e
set_option linter.unusedVariables false
set_option linter.unusedSimpArgs false
set_option maxRecDepth 10000
namespace Go.Proofs
open Go X RowKit
theorem c_rRightP (p : Pr) : Gives Try.prog 74 #[.agg p.row.toArray] (.bool p.ok) := fun w => x_rRightP _ _ w _ fun w1 h1 => ⟨by
  have : decide (p.l ≥ 1) = decide (p.l > 0) := decide_eq_decide.2 (by omega)
  rw [this]; rfl, hid_below h1 (by simp) (Nat.le_refl _)⟩
theorem c_rRank (q : Sl) (l : List Pr) (p : Pr) (hl : l.length ≤ 1000000) : Ctr Try.prog 66 #[slV q l.length, .agg p.row.toArray] (fun m => MSrc m 2 (slV q l.length) l.length (l.flatMap Pr.row)) [] (fun r : Int => .int .i64 r) (fun r _ => r < 0 ↔ p ∉ l) (fun _ => []) := by
  refine Ctr.mk fun w F m C hp => x_rRank _ _ _ _ _ w _ fun w1 L2 h1 g1 => ?_
  refine ⟨fun i w' L' => ∃ j : Nat, i = j ∧ j ≤ l.length ∧ p ∉ l.take j ∧ Ctx F m w w' L' m [], fun i _ => ((l.length : Int) - i).toNat, ⟨0, rfl, by omega, by simp, C.hidL h1 g1⟩, ?_⟩
  clear C
  rintro i w6 L7 _ ⟨j, rfl, hj, hn, D⟩
  by_cases hjl : j < l.length
  rotate_left
  · rw [if_neg (by simpa using hjl)]
    have hj2 : j = l.length := by omega
    rw [hj2, List.take_length] at hn
    exact Ctr.ret (-1) rfl ⟨fun _ => hn, fun _ => by omega⟩ D
  rw [if_pos (by simpa using hjl)]
  obtain ⟨a, ha, hc⟩ := hp.elem pr_len hjl
  have ha : q.1 = some a := ha
  refine ⟨by omega, by simpa using hjl, ?_⟩
  rw [ha, onSome_some, Int.toNat_natCast]
  refine ⟨_, _, D.cells hc, D.cellsL hc, ?_⟩
  rw [pr_eq]
  by_cases he : l[j] = p
  · rw [if_pos (by simp [he])]
    refine fun w13 h13 => Ctr.ret (m' := m) (L := []) (j : Int) rfl ⟨fun h => by omega, fun h => ?_⟩ (D.hid0 h13)
    exact absurd (by rw [← he]; exact List.getElem_mem hjl) h
  · rw [if_neg (by simp [he])]
    have e : IntKind.wrap .i64 ((j : Int) + 1) = ((j + 1 : Nat) : Int) := by rw [w_i64 (by omega) (by omega)]; omega
    rw [e]
    refine fun w11 L12 h11 g11 => ⟨rfl, ⟨j + 1, rfl, hjl, ?_, D.hidL h11 g11⟩, Nat.le_of_eq (by show ((l.length : Int) - ((j + 1 : Nat) : Int)).toNat + 1 = ((l.length : Int) - (j : Int)).toNat; omega)⟩
    rw [List.take_succ_eq_append_getElem hjl, List.mem_append, List.mem_singleton]
    rintro (h | h)
    · exact hn h
    · exact he h.symm
theorem c_rMajority (v : Vw) (hl : v.ms.length ≤ 1000000) : Gives Try.prog 82 #[.agg v.row.toArray] (.int .i64 v.maj) := fun w => x_rMajority _ _ _ _ _ w _ fun w1 h1 => by
  have e : (((v.ms.length : Nat) : Int)).tdiv 2 = ((v.ms.length / 2 : Nat) : Int) := by
    rw [Int.tdiv_eq_ediv_of_nonneg (by omega)]; omega
  rw [e, w_i64 (n := ((v.ms.length / 2 : Nat) : Int)) (by omega) (by omega), w_i64 (by omega) (by omega)]
  exact ⟨by rw [Vw.maj]; rfl, hid_below h1 (by simp) (Nat.le_refl _)⟩
theorem c_Own6 (v : Vw) (hl : v.ms.length ≤ 1000000) : Ctr Try.prog 24 #[.agg v.row.toArray] (fun m => VwM m v) [] (fun p : Sl => .agg (Vw.row { v with q := p }).toArray) (fun p m => VwM m { v with q := p }) (fun _ => []) := by
  refine Ctr.mk fun w F m C hv => x_Own6 _ _ _ _ _ w _ ⟨[], facts_nil _ _, fun w2 L3 h2 g2 => ?_⟩
  refine (c_Procs v.q v.ms (by omega)).call (As := []) (C.hidL h2 g2) hv fun p m1 w5 hk hm1 hp C => ⟨_, _, _, rfl, hk, facts_nil _ _, fun w9 h9 => ?_⟩
  exact Ctr.ret (m' := m1) (L := []) p rfl hp (C.hid0 h9)
def cntM (ms got : List Pr) : Nat := ms.countP fun p => decide (p ∈ got)
theorem c_rQuorum (v : Vw) (hl : v.ms.length ≤ 1000000) (gq : Sl) (got : List Pr) (hg : got.length ≤ 1000000) : Ctr Try.prog 60 #[.agg v.row.toArray, slV gq got.length] (fun m => VwM m v ∧ MSrc m 2 (slV gq got.length) got.length (got.flatMap Pr.row)) [] (fun b : Bool => .bool b) (fun b _ => b = decide ((cntM v.ms got : Int) ≥ v.maj)) (fun _ => []) := by
  refine Ctr.mk fun w F m C hp => x_rQuorum _ _ _ _ _ _ _ _ w _ fun w1 L2 h1 g1 => ?_
  obtain ⟨hv, hgm⟩ := hp
  refine ⟨fun n i w' L' => ∃ (j : Nat) (m' : Mem), i = j ∧ j ≤ v.ms.length ∧ n = (cntM (v.ms.take j) got : Int) ∧ cntM (v.ms.take j) got ≤ j ∧ m.le m' ∧ Ctx F m w w' L' m' [], fun _ i _ => ((v.ms.length : Int) - i).toNat, ⟨0, m, rfl, by omega, rfl, Nat.le_refl _, Mem.le_refl _, C.hidL h1 g1⟩, ?_⟩
  clear C
  rintro n i w7 L8 _ ⟨j, m', rfl, hj, rfl, hle, hm', D⟩
  by_cases hjl : j < v.ms.length
  rotate_left
  · rw [if_neg (by simpa using hjl)]
    have hj2 : j = v.ms.length := by omega
    rw [hj2, List.take_length]
    exact D.gives (c_rMajority v hl) fun w10 k10 D => ⟨_, rfl, k10, Ctr.ret (m' := m') (L := L8) _ rfl rfl D⟩
  rw [if_pos (by simpa using hjl)]
  obtain ⟨a, ha, hc⟩ := (MSrc.mono hv hm').elem pr_len hjl
  have ha : v.q.1 = some a := ha
  refine ⟨by omega, by simpa using hjl, ?_⟩
  rw [ha, onSome_some, Int.toNat_natCast]
  refine ⟨_, _, D.cells hc, D.cellsL hc, ?_⟩
  have e : IntKind.wrap .i64 ((j : Int) + 1) = ((j + 1 : Nat) : Int) := by rw [w_i64 (by omega) (by omega)]; omega
  have hst : cntM (v.ms.take (j + 1)) got = cntM (v.ms.take j) got + if v.ms[j] ∈ got then 1 else 0 := by
    rw [List.take_succ_eq_append_getElem hjl, cntM, List.countP_append]; simp [cntM, List.countP_cons]
  refine (c_rRank gq got v.ms[j] hg).call (As := []) D (hgm.mono hm') fun r m2 w16 hk hm2 hr D => ⟨_, rfl, hk, ?_⟩
  by_cases hin : v.ms[j] ∈ got
  · have : ¬ r < 0 := fun h => hr.1 h hin
    rw [if_pos (by simp; omega), e]
    rw [if_pos hin] at hst
    refine ⟨rfl, ⟨j + 1, m2, rfl, hjl, ?_, by omega, hm'.le_trans hm2, D⟩, Nat.le_of_eq (by show ((v.ms.length : Int) - ((j + 1 : Nat) : Int)).toNat + 1 = ((v.ms.length : Int) - (j : Int)).toNat; omega)⟩
    rw [w_i64 (by omega) (by omega), hst]; omega
  · have := hr.2 hin
    rw [if_neg (by simp; omega), e]
    rw [if_neg hin] at hst
    exact ⟨rfl, ⟨j + 1, m2, rfl, hjl, by rw [hst]; rfl, by omega, hm'.le_trans hm2, D⟩, Nat.le_of_eq (by show ((v.ms.length : Int) - ((j + 1 : Nat) : Int)).toNat + 1 = ((v.ms.length : Int) - (j : Int)).toNat; omega)⟩
/-- those who were heard, counted among the members -/
theorem cnt_eq : ∀ {got ms : List Pr}, got.Nodup → (∀ p ∈ got, p ∈ ms) → ms.Nodup → cntM ms got = got.length
  | got, ms, h1, h2, h3 => by
    rw [cntM, List.countP_eq_length_filter]
    refine (List.perm_ext_iff_of_nodup (h3.filter _) h1).2 (fun p => ?_) |>.length_eq
    simp only [List.mem_filter, decide_eq_true_eq]
    exact ⟨fun h => h.2, fun h => ⟨h2 p h, h⟩⟩
theorem nodup_of_nodes {l : List Pr} (h : (l.map Pr.n).Nodup) : l.Nodup := List.Pairwise.of_map Pr.n (fun a b hab e => hab (by rw [e])) h
theorem c_rRight (v : Vw) (hr : ∀ p ∈ v.ms, 0 ≤ p.n) (hn : 0 ≤ v.n) : Ctr Try.prog 54 #[.agg v.row.toArray] (fun m => VwM m v) [] (fun _ : Unit => .bool v.ok) (fun _ _ => True) (fun _ => []) := by
  refine Ctr.mk fun w F m C hv => x_rRight _ _ _ _ _ w _ ?_
  by_cases hg : (((decide (v.g ≥ 4) || decide (v.n < 1)) || decide (((v.ms.length : Nat) : Int) < 1)) || decide (((v.ms.length : Nat) : Int) > 8)) = true
  · rw [if_pos hg]
    intro w17 h17
    refine Ctr.ret () ?_ trivial (C.hid0 h17)
    have : v.ok = false := by
      simp only [Bool.or_eq_true, decide_eq_true_eq] at hg
      simp only [Vw.ok, decide_eq_false_iff_not]
      rintro ⟨h1, h2, h3, h4, _⟩; omega
    rw [this]
  rw [if_neg hg]
  have hg' : v.g < 4 ∧ v.n ≠ 0 ∧ v.ms.length ≠ 0 ∧ v.ms.length ≤ 8 := by
    simp only [Bool.or_eq_true, decide_eq_true_eq, not_or] at hg; omega
  have hok : v.ok = decide (okL v.ms) := by
    simp only [Vw.ok]
    congr 1
    exact propext ⟨fun h => h.2.2.2.2, fun h => ⟨hg'.1, hg'.2.1, hg'.2.2.1, hg'.2.2.2, h⟩⟩
  refine fun w1 L2 h1 g1 => ?_
  refine ⟨fun i w' L' => ∃ j : Nat, i = j ∧ j ≤ v.ms.length ∧ okL (v.ms.take j) ∧ Ctx F m w w' L' m [], fun i _ => ((v.ms.length : Int) - i).toNat, ⟨0, rfl, by omega, ⟨by simp, by simp⟩, C.hidL h1 g1⟩, ?_⟩
  clear C
  rintro i w6 L7 _ ⟨j, rfl, hj, hjo, D⟩
  by_cases hjl : j < v.ms.length
  rotate_left
  · rw [if_neg (by simpa using hjl)]
    have hj2 : j = v.ms.length := by omega
    rw [hj2, List.take_length] at hjo
    exact Ctr.ret () (by rw [hok, decide_eq_true hjo]) trivial D
  rw [if_pos (by simpa using hjl)]
  obtain ⟨a, ha, hc⟩ := hv.elem pr_len hjl
  have ha : v.q.1 = some a := ha
  refine ⟨by omega, by simpa using hjl, ?_⟩
  rw [ha, onSome_some, Int.toNat_natCast]
  refine ⟨_, _, D.cells hc, D.cellsL hc, ?_⟩
  have hsn : okL (v.ms.take (j + 1)) ↔ okL (v.ms.take j) ∧ v.ms[j].ok = true ∧ metB (v.ms.take j) v.ms[j].n = false := by
    rw [List.take_succ_eq_append_getElem hjl]; exact okL_snoc
  have no : ¬ (v.ms[j].ok = true ∧ metB (v.ms.take j) v.ms[j].n = false) → v.ok = false := fun h => by
    rw [hok, decide_eq_false]
    exact fun ho => h (hsn.1 (okL_take ho (j + 1))).2
  refine D.gives (c_rRightP v.ms[j]) fun w12 k12 D => ⟨_, rfl, k12, ?_⟩
  cases hpo : v.ms[j].ok with
  | false =>
    rw [if_pos (by decide)]
    exact Ctr.ret () (by rw [no (by simp [hpo])]) trivial D
  | true =>
  rw [if_neg (by decide)]
  refine ⟨fun i w' L' => ∃ k : Nat, i = k ∧ k ≤ j ∧ metB (v.ms.take k) v.ms[j].n = false ∧ Ctx F m w w' L' m [], fun i _ => ((j : Int) - i).toNat, ⟨0, rfl, by omega, rfl, D⟩, ?_⟩
  clear D
  rintro i w17 L18 _ ⟨k, rfl, hk, hkm, D⟩
  by_cases hkj : k < j
  rotate_left
  · rw [if_neg (by simpa using hkj)]
    have hk2 : k = j := by omega
    subst hk2
    have e : IntKind.wrap .i64 ((k : Int) + 1) = ((k + 1 : Nat) : Int) := by rw [w_i64 (by omega) (by omega)]; omega
    rw [e]
    exact ⟨rfl, ⟨k + 1, rfl, hjl, hsn.2 ⟨hjo, hpo, hkm⟩, D⟩, Nat.le_of_eq (by show ((v.ms.length : Int) - ((k + 1 : Nat) : Int)).toNat + 1 = ((v.ms.length : Int) - (k : Int)).toNat; omega)⟩
  rw [if_pos (by simpa using hkj)]
  have hkl : k < v.ms.length := by omega
  obtain ⟨a2, ha2, hc2⟩ := hv.elem pr_len hkl
  have e2 : a2 = a := by
    have : v.q.1 = some a2 := ha2
    rw [ha] at this; injection this with this; exact this.symm
  subst e2
  refine ⟨by omega, by omega, ?_⟩
  rw [onSome_some, Int.toNat_natCast]
  refine ⟨_, D.cells hc2 0 _ rfl, by rw [addr_block]; exact D.cellsL hc2, by omega, by omega, ?_⟩
  rw [onSome_some]
  refine ⟨_, D.cells hc 0 _ rfl, by rw [addr_block]; exact D.cellsL hc, ?_⟩
  have hmk : metB (v.ms.take (k + 1)) v.ms[j].n = (v.ms[k].n == v.ms[j].n) := by
    rw [List.take_succ_eq_append_getElem hkl]
    simp only [metB, List.map_append, List.any_append] at hkm ⊢
    rw [hkm]; simp
  by_cases he : v.ms[k].n = v.ms[j].n
  · rw [if_pos (by simp [he])]
    refine fun w25 h25 => Ctr.ret (m' := m) (L := []) () ?_ trivial (D.hid0 h25)
    rw [no]
    rintro ⟨_, h⟩
    have h3 : metB (v.ms.take j) v.ms[j].n = true := by
      rw [metB, List.any_eq_true]
      refine ⟨v.ms[k].n, List.mem_map.2 ⟨v.ms[k], ?_, rfl⟩, by simp [he]⟩
      exact List.mem_take_iff_getElem.2 ⟨k, by omega, rfl⟩
    rw [h3] at h; cases h
  · rw [if_neg (by simp [he])]
    have e : IntKind.wrap .i64 ((k : Int) + 1) = ((k + 1 : Nat) : Int) := by rw [w_i64 (by omega) (by omega)]; omega
    rw [e]
    exact fun w23 L24 h23 g23 => ⟨rfl, ⟨k + 1, rfl, hkj, by rw [hmk]; simp [he], D.hidL h23 g23⟩, Nat.le_of_eq (by show ((j : Int) - ((k + 1 : Nat) : Int)).toNat + 1 = ((j : Int) - (k : Int)).toNat; omega)⟩
end Go.Proofs
