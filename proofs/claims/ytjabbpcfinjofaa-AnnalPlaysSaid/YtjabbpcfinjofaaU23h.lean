import Derived.Test.YtjabbpcfinjofaaU23g
set_option linter.unusedVariables false
set_option linter.unusedSimpArgs false
set_option maxRecDepth 10000
namespace Go.Proofs
open Go X RowKit
theorem mnI (c : Int) (k : Nat) (hc : 0 ≤ c) : 0 ≤ (if c < (k : Int) then c else (k : Int)) ∧ (if c < (k : Int) then c else (k : Int)) ≤ c ∧ (if c < (k : Int) then c else (k : Int)) ≤ k := by split <;> omega
theorem c_Light3 (q : Sl) (l : List Pt) : Ctr Try.prog 20 #[slV q l.length] (fun m => MSrc m 5 (slV q l.length) l.length (l.flatMap Pt.row)) [] (fun b : Bool => .bool b) (fun _ _ => True) (fun _ => []) := by
  refine Ctr.mk fun w F m C hp => x_Light3 _ _ _ w _ ?_
  refine ⟨fun n i w' _ => ∃ j : Nat, i = j ∧ j ≤ 300 ∧ -9000 ≤ n ∧ n ≤ 3000 ∧ Ctx F m w w' [] m [], fun _ i _ => (300 - i).toNat, ⟨0, rfl, by omega, by omega, by omega, C⟩, ?_⟩
  clear C
  rintro n i w5 L6 _ ⟨j, rfl, hj, h1, h2, D⟩
  by_cases hg : ((decide ((j : Int) < ((l.length : Nat) : Int)) && decide ((j : Int) < 300)) && decide (n ≥ 0)) = true
  · rw [if_pos hg]
    simp only [Bool.and_eq_true, decide_eq_true_eq] at hg
    have hjl : j < l.length := by omega
    obtain ⟨a, ha, hc⟩ := hp.elem pt_len hjl
    refine ⟨by omega, by omega, ?_⟩
    rw [ha, onSome_some]
    have hcc := D.cells hc
    rw [Int.toNat_natCast]
    refine ⟨_, hcc 2 _ rfl, by omega, by omega, ?_⟩
    rw [onSome_some]
    refine ⟨_, hcc 3 _ rfl, fun w11 h11 => ?_⟩
    obtain ⟨a1, a2, _⟩ := mnI 4000 l[j].key.size (by omega)
    obtain ⟨b1, b2, _⟩ := mnI 4000 l[j].val.size (by omega)
    generalize (if (4000 : Int) < ((l[j].key.size : Nat) : Int) then (4000 : Int) else ((l[j].key.size : Nat) : Int)) = x at a1 a2 ⊢
    generalize (if (4000 : Int) < ((l[j].val.size : Nat) : Int) then (4000 : Int) else ((l[j].val.size : Nat) : Int)) = y at b1 b2 ⊢
    rw [w_i64 (n := n - 3) (by omega) (by omega), w_i64 (n := n - 3 - x) (by omega) (by omega), w_i64 (n := n - 3 - x - y) (by omega) (by omega), w_i64 (n := (j : Int) + 1) (by omega) (by omega)]
    exact ⟨⟨j + 1, by omega, by omega, by omega, by omega, D.hid0 h11⟩, Nat.le_of_eq (by show (300 - ((j : Int) + 1)).toNat + 1 = (300 - (j : Int)).toNat; omega)⟩
  · rw [if_neg hg]
    exact Ctr.ret (decide (n ≥ 0)) rfl trivial D
structure EnM0 (m : Mem) (e : En) : Prop where
  p : MSrc m 5 (slV e.pq e.ps.length) e.ps.length (e.ps.flatMap Pt.row)
  w : MSrc m 3 (slV e.wq e.ws.length) e.ws.length (e.ws.flatMap Wr.row)
theorem EnM0.mono {m m' : Mem} {e : En} (h : EnM0 m e) (hm : m.le m') : EnM0 m' e := ⟨h.p.mono hm, h.w.mono hm⟩
theorem c_Light5 (q : Sl) (l : List En) : Ctr Try.prog 21 #[slV q l.length] (fun m => MSrc m 18 (slV q l.length) l.length (l.flatMap En.row) ∧ ∀ e ∈ l, EnM0 m e) [] (fun b : Bool => .bool b) (fun b _ => b = true → l.length ≤ 150 ∧ ∀ e ∈ l, e.ps.length < 200 ∧ e.ws.length ≤ 300) (fun _ => []) := by
  refine Ctr.mk fun w F m C hp => x_Light5 _ _ _ w _ ?_
  obtain ⟨hp, he⟩ := hp
  refine ⟨fun n i w' _ => ∃ j : Nat, ∃ m' : Mem, i = j ∧ j ≤ 200 ∧ j ≤ l.length ∧ -10000000 ≤ n ∧ n ≤ 6000 ∧ m.le m' ∧ (0 ≤ n → ∀ e ∈ l.take j, e.ps.length < 200 ∧ e.ws.length ≤ 300) ∧ Ctx F m w w' [] m' [], fun _ i _ => (200 - i).toNat, ⟨0, m, rfl, by omega, by omega, by omega, by omega, Mem.le_refl _, by simp, C⟩, ?_⟩
  clear C
  rintro n i w5 L6 _ ⟨j, m', rfl, hj, hjl0, h1, h2, hm', hok, D⟩
  by_cases hg : ((decide ((j : Int) < ((l.length : Nat) : Int)) && decide ((j : Int) < 200)) && decide (n ≥ 0)) = true
  rotate_left
  · rw [if_neg hg]
    refine Ctr.ret (decide (n ≥ 0) && decide (((l.length : Nat) : Int) ≤ 150)) rfl (fun hb => ?_) D
    simp only [Bool.and_eq_true, decide_eq_true_eq] at hb hg
    refine ⟨by omega, ?_⟩
    have := hok (by omega)
    rwa [show j = l.length by omega, List.take_length] at this
  rw [if_pos hg]
  simp only [Bool.and_eq_true, decide_eq_true_eq] at hg
  have hjl : j < l.length := by omega
  obtain ⟨a, ha, hc⟩ := (hp.mono hm').elem en_len hjl
  refine ⟨by omega, by omega, ?_⟩
  rw [ha, onSome_some]
  have hem := (he _ (List.getElem_mem hjl)).mono hm'
  generalize he0 : l[j] = e at hc hem
  refine ⟨_, _, _, _, _, _, _, _, _, _, _, _, _, _, _, _, _, _, _, _, _, _, by rw [Int.toNat_natCast]; exact D.cells hc, fun w30 L31 h30 g30 => ?_⟩
  refine (c_Light3 e.pq e.ps).call (As := []) (D.hidL h30 g30) hem.p fun b3 m2 w33 hk hm2 _ D => ⟨_, rfl, hk, ?_⟩
  by_cases hbad : ((!b3) || decide (((e.ws.length : Nat) : Int) > 300)) = true
  · rw [if_pos hbad]
    exact Ctr.ret false rfl (by simp) D
  rw [if_neg hbad]
  simp only [Bool.or_eq_true, decide_eq_true_eq, not_or] at hbad
  have hwl : e.ws.length ≤ 300 := by omega
  obtain ⟨a1, a2, _⟩ := mnI 7000 e.rv.size (by omega)
  have b12 : 0 ≤ (if (200 : Int) < ((e.ps.length : Nat) : Int) then (200 : Int) else ((e.ps.length : Nat) : Int)) ∧ (if (200 : Int) < ((e.ps.length : Nat) : Int) then (200 : Int) else ((e.ps.length : Nat) : Int)) ≤ 200 ∧ ((if (200 : Int) < ((e.ps.length : Nat) : Int) then (200 : Int) else ((e.ps.length : Nat) : Int)) < 200 → e.ps.length < 200) := by
    split <;> omega
  obtain ⟨b1, b2, b3'⟩ := b12
  generalize (if (7000 : Int) < ((e.rv.size : Nat) : Int) then (7000 : Int) else ((e.rv.size : Nat) : Int)) = x at a1 a2 ⊢
  generalize (if (200 : Int) < ((e.ps.length : Nat) : Int) then (200 : Int) else ((e.ps.length : Nat) : Int)) = y at b1 b2 b3' ⊢
  rw [w_i64 (n := n - 10) (by omega) (by omega), w_i64 (n := n - 10 - x) (by omega) (by omega), w_i64 (n := 30 * y) (by omega) (by omega), w_i64 (n := n - 10 - x - 30 * y) (by omega) (by omega)]
  refine ⟨fun n' i' w' L' => ∃ k : Nat, i' = k ∧ k ≤ e.ws.length ∧ -20000 - 20000 * (k : Int) ≤ n' ∧ n' ≤ n - 10 - 30 * y ∧ Ctx F m w w' L' m2 [], fun _ i _ => ((e.ws.length : Int) - i).toNat, ⟨0, rfl, by omega, by omega, by omega, D⟩, ?_⟩
  clear D
  rintro n' i' w39 L40 _ ⟨k, rfl, hk1, hk2, hk3, D⟩
  by_cases hkl : k < e.ws.length
  rotate_left
  · rw [if_neg (by simpa using hkl), w_i64 (n := (j : Int) + 1) (by omega) (by omega)]
    refine ⟨⟨j + 1, m2, by omega, by omega, by omega, by omega, by omega, hm'.le_trans hm2, fun h0 e' h => ?_, D.noL⟩, Nat.le_of_eq (by show (200 - ((j : Int) + 1)).toNat + 1 = (200 - (j : Int)).toNat; omega)⟩
    rw [List.take_succ_eq_append_getElem hjl, he0] at h
    rcases List.mem_append.1 h with h | h
    · exact hok (by omega) e' h
    · simp only [List.mem_singleton] at h; subst h
      exact ⟨b3' (by omega), hwl⟩
  rw [if_pos (by simpa using hkl)]
  obtain ⟨p, hp1, hc1⟩ := (hem.w.mono hm2).elem wr_len hkl
  refine ⟨by omega, by omega, ?_⟩
  have hcc := D.cells hc1
  have hnl := D.cellsL hc1
  rw [hp1, onSome_some, Int.toNat_natCast]
  refine ⟨_, hcc 0 _ rfl, by rw [addr_block]; exact hnl, by omega, by omega, ?_⟩
  rw [onSome_some]
  refine ⟨_, hcc 1 _ rfl, by simpa using hnl, fun w45 L46 h45 g45 => ⟨rfl, ?_⟩⟩
  obtain ⟨c1, c2, _⟩ := mnI 7000 e.ws[k].key.size (by omega)
  obtain ⟨d1, d2, _⟩ := mnI 7000 e.ws[k].val.size (by omega)
  generalize (if (7000 : Int) < ((e.ws[k].key.size : Nat) : Int) then (7000 : Int) else ((e.ws[k].key.size : Nat) : Int)) = x' at c1 c2 ⊢
  generalize (if (7000 : Int) < ((e.ws[k].val.size : Nat) : Int) then (7000 : Int) else ((e.ws[k].val.size : Nat) : Int)) = y' at d1 d2 ⊢
  rw [w_i64 (n := n' - 1) (by omega) (by omega), w_i64 (n := n' - 1 - x') (by omega) (by omega), w_i64 (n := n' - 1 - x' - y') (by omega) (by omega), w_i64 (n := (k : Int) + 1) (by omega) (by omega)]
  exact ⟨⟨k + 1, by omega, by omega, by omega, by omega, D.hidL h45 g45⟩, Nat.le_of_eq (by show ((e.ws.length : Int) - ((k : Int) + 1)).toNat + 1 = ((e.ws.length : Int) - (k : Int)).toNat; omega)⟩
end Go.Proofs
