import Derived.Test.YtkkhkkfnbohnaaaU11c
import Derived.Test.YtkkhkkfnbohnaaaV11c
import Derived.Test.YtkkhkkfnbohnaaaXKey
import Derived.Test.YtkkhkkfnbohnaaaXClear
set_option linter.unusedVariables false
set_option linter.unusedSimpArgs false
set_option maxRecDepth 10000
namespace Go.Proofs
open Go X RowKit
/-! ### views -/
structure Vw where (g n : Int) (q : Sl) (ms : List Pr)
@[reducible] def Vw.row (v : Vw) : List Value := [.int .u8 v.g, .int .u32 v.n, slV v.q v.ms.length]
def VwM (m : Mem) (v : Vw) : Prop := MSrc m 2 (slV v.q v.ms.length) v.ms.length (v.ms.flatMap Pr.row)
def Pr.ok (p : Pr) : Bool := decide (p.n < 16) && decide (p.l > 0)
theorem c_pRight (p : Pr) : Gives Try.prog 73 #[.agg p.row.toArray] (.bool p.ok) := fun w => x_pRight _ _ w _ fun w1 h1 => ⟨rfl, hid_below h1 (by simp) (Nat.le_refl _)⟩
/-- all may be, no node twice -/
abbrev okL (l : List Pr) : Prop := (∀ p ∈ l, p.ok = true) ∧ (l.map Pr.n).Nodup
def Vw.ok (v : Vw) : Bool := decide (v.g < 4 ∧ v.n ≠ 0 ∧ v.ms.length ≠ 0 ∧ v.ms.length ≤ 8 ∧ okL v.ms)
def metB (l : List Pr) (k : Int) : Bool := (l.map Pr.n).any (· == k)
def metL (l : List Pr) : List Value := [.bool (metB l 0), .bool (metB l 1), .bool (metB l 2), .bool (metB l 3), .bool (metB l 4), .bool (metB l 5), .bool (metB l 6), .bool (metB l 7), .bool (metB l 8), .bool (metB l 9), .bool (metB l 10), .bool (metB l 11), .bool (metB l 12), .bool (metB l 13), .bool (metB l 14), .bool (metB l 15)]
theorem metL_get (l : List Pr) {k : Int} (h0 : 0 ≤ k) (h1 : k < 16) : (metL l)[k.toNat]? = some (.bool (metB l k)) := by
  obtain ⟨i, rfl⟩ := Int.eq_ofNat_of_zero_le h0
  have hi : i < 16 := by omega
  match i, hi with
  | 0, _ | 1, _ | 2, _ | 3, _ | 4, _ | 5, _ | 6, _ | 7, _ | 8, _ | 9, _ | 10, _ | 11, _ | 12, _ | 13, _ | 14, _ | 15, _ => rfl
  | k + 16, h => exact absurd h (by omega)
theorem metL_put (l : List Pr) (p : Pr) (h0 : 0 ≤ p.n) (h1 : p.n < 16) : splice (metL l) p.n.toNat [.bool true] = metL (l ++ [p]) := by
  have key : ∀ i : Int, metB (l ++ [p]) i = (metB l i || (p.n == i)) := by intro i; simp [metB]
  obtain ⟨i, hk⟩ := Int.eq_ofNat_of_zero_le h0
  have hi : i < 16 := by omega
  simp only [metL, key, hk]
  match i, hi with
  | 0, _ | 1, _ | 2, _ | 3, _ | 4, _ | 5, _ | 6, _ | 7, _ | 8, _ | 9, _ | 10, _ | 11, _ | 12, _ | 13, _ | 14, _ | 15, _ => simp [splice]
  | k + 16, h => exact absurd h (by omega)
theorem okL_snoc {l : List Pr} {p : Pr} : okL (l ++ [p]) ↔ okL l ∧ p.ok = true ∧ metB l p.n = false := by
  have e : metB l p.n = false ↔ p.n ∉ l.map Pr.n := by
    rw [← Bool.not_eq_true, metB, List.any_eq_true]
    constructor
    · intro h hm; exact h ⟨_, hm, by simp⟩
    · rintro h ⟨x, hx, he⟩; exact h (by rw [← beq_iff_eq.1 he]; exact hx)
  rw [e]
  simp only [okL, List.mem_append, List.mem_singleton, List.map_append, List.map_cons, List.map_nil, List.nodup_append]
  constructor
  · rintro ⟨h1, h2, _, h3⟩
    exact ⟨⟨fun x hx => h1 x (.inl hx), h2⟩, h1 p (.inr rfl), fun hm => h3 p.n hm p.n (by simp) rfl⟩
  · rintro ⟨⟨h1, h2⟩, h3, h4⟩
    refine ⟨fun x hx => by rcases hx with hx | rfl; exact h1 x hx; exact h3, h2, by simp, fun a ha b hb hab => ?_⟩
    have hb : b = p.n := by simpa using hb
    subst hab; subst hb; exact h4 ha
theorem okL_take {l : List Pr} (h : okL l) (j : Nat) : okL (l.take j) := ⟨fun p hp => h.1 p (List.mem_of_mem_take hp), by
  rw [List.map_take]; exact h.2.sublist (List.take_sublist _ _)⟩
theorem c_vRight (v : Vw) (hr : ∀ p ∈ v.ms, 0 ≤ p.n) : Ctr Try.prog 52 #[.agg v.row.toArray] (fun m => VwM m v) [] (fun _ : Unit => .bool v.ok) (fun _ _ => True) (fun _ => []) := by
  refine Ctr.mk fun w F m C hv => x_vRight _ _ _ _ _ w _ ?_
  by_cases hg : (((decide (v.g ≥ 4) || (v.n == 0)) || (((v.ms.length : Nat) : Int) == 0)) || decide (((v.ms.length : Nat) : Int) > 8)) = true
  · rw [if_pos hg]
    intro w17 h17
    refine Ctr.ret () ?_ trivial (C.hid0 h17)
    have : v.ok = false := by
      simp only [Bool.or_eq_true, decide_eq_true_eq, beq_iff_eq] at hg
      simp only [Vw.ok, decide_eq_false_iff_not]
      rintro ⟨h1, h2, h3, h4, _⟩; omega
    rw [this]
  rw [if_neg hg]
  have hg' : v.g < 4 ∧ v.n ≠ 0 ∧ v.ms.length ≠ 0 ∧ v.ms.length ≤ 8 := by
    simp only [Bool.or_eq_true, decide_eq_true_eq, beq_iff_eq, not_or] at hg; omega
  have hok : v.ok = decide (okL v.ms) := by
    simp only [Vw.ok]
    congr 1
    exact propext ⟨fun h => h.2.2.2.2, fun h => ⟨hg'.1, hg'.2.1, hg'.2.2.1, hg'.2.2.2, h⟩⟩
  refine fun w1 L2 h1 g1 => ?_
  have C1 := (C.hidL h1 g1).alloc (metL []) 152
  refine ⟨fun i w' L' => ∃ j : Nat, i = j ∧ j ≤ v.ms.length ∧ okL (v.ms.take j) ∧ Ctx F m w w' L' m [blk w1.heap.size (metL (v.ms.take j)) 152], fun i _ => ((v.ms.length : Int) - i).toNat, ⟨0, rfl, by omega, ⟨by simp, by simp⟩, C1⟩, ?_⟩
  clear C C1
  rintro i w6 L7 _ ⟨j, rfl, hj, hjo, D⟩
  have bad : okL v.ms → ∀ {w' L'}, okL v.ms → Ctx F m w w' L' m [blk w1.heap.size (metL (v.ms.take j)) 152] → True := fun _ _ _ _ _ => trivial
  by_cases hjl : j < v.ms.length
  rotate_left
  · rw [if_neg (by simpa using hjl)]
    have hj2 : j = v.ms.length := by omega
    rw [hj2, List.take_length] at hjo
    exact Ctr.ret () (by rw [hok, decide_eq_true hjo]) trivial D.drop
  rw [if_pos (by simpa using hjl)]
  obtain ⟨a, ha, hc⟩ := hv.elem pr_len hjl
  have ha : v.q.1 = some a := ha
  refine ⟨by omega, by simpa using hjl, ?_⟩
  rw [ha, onSome_some, Int.toNat_natCast]
  have hr0 := hr _ (List.getElem_mem hjl)
  refine ⟨_, _, D.cells hc, D.cellsL hc, fun w11 L12 h11 g11 => ?_⟩
  have hsn : okL (v.ms.take (j + 1)) ↔ okL (v.ms.take j) ∧ v.ms[j].ok = true ∧ metB (v.ms.take j) v.ms[j].n = false := by
    rw [List.take_succ_eq_append_getElem hjl]; exact okL_snoc
  have no : ¬ (v.ms[j].ok = true ∧ metB (v.ms.take j) v.ms[j].n = false) → v.ok = false := fun h => by
    rw [hok, decide_eq_false]
    exact fun ho => h (hsn.1 (okL_take ho (j + 1))).2
  have hst : v.ms.take (j + 1) = v.ms.take j ++ [v.ms[j]] := List.take_succ_eq_append_getElem hjl
  generalize v.ms[j] = p at hc hr0 no hsn hst
  refine (D.hidL h11 g11).gives (c_pRight p) fun w14 k14 D => ⟨_, rfl, k14, ?_⟩
  cases hpo : p.ok with
  | false =>
    rw [if_neg (by decide)]
    exact Ctr.ret () (by rw [no (by simp [hpo])]) trivial D.drop
  | true =>
  rw [if_pos (by decide)]
  have h16 : p.n < 16 := by simp only [Pr.ok, Bool.and_eq_true, decide_eq_true_eq] at hpo; exact hpo.1
  refine ⟨hr0, h16, metB (v.ms.take j) p.n, ?_, by rw [addr_block]; exact D.blkAt.2, ?_⟩
  · rw [Nat.mul_one, Addr.add_mid]
    exact D.blkCell (j := 0 + p.n.toNat) (by rw [Nat.zero_add]; exact metL_get _ hr0 h16)
  cases hmb : metB (v.ms.take j) p.n with
  | true =>
    rw [if_pos (by decide)]
    exact Ctr.ret () (by rw [no (by simp [hmb])]) trivial D.drop
  | false =>
  rw [if_neg (by decide), Nat.mul_one, Addr.add_mid]
  have hk : p.n.toNat < 16 := by omega
  have hlen : 0 + p.n.toNat + 1 ≤ (metL (v.ms.take j)).length := by show 0 + p.n.toNat + 1 ≤ 16; omega
  have e : IntKind.wrap .i64 ((j : Int) + 1) = ((j + 1 : Nat) : Int) := by rw [w_i64 (by omega) (by omega)]; omega
  refine ⟨hr0, h16, rfl, D.there _ _ hlen, D.blkAt.2, rfl, ⟨j + 1, e, hjl, hsn.2 ⟨hjo, hpo, hmb⟩, ?_⟩, Nat.le_of_eq (by rw [e]; show ((v.ms.length : Int) - ((j + 1 : Nat) : Int)).toNat + 1 = ((v.ms.length : Int) - (j : Int)).toNat; omega)⟩
  have E := D.store (0 + p.n.toNat) [.bool true] hlen
  rw [Nat.zero_add, metL_put _ p hr0 h16, ← hst] at E
  rw [Nat.zero_add]
  exact E
theorem c_Index (q : Sl) (l : List Pr) (p : Pr) (hl : l.length ≤ 1000000) : Ctr Try.prog 92 #[slV q l.length, .agg p.row.toArray] (fun m => MSrc m 2 (slV q l.length) l.length (l.flatMap Pr.row)) [] (fun r : Int => .int .i64 r) (fun r _ => r < 0 ↔ p ∉ l) (fun _ => []) := by
  refine Ctr.mk fun w F m C hp => x_Index _ _ _ _ _ w _ fun w1 L2 h1 g1 => ?_
  refine ⟨fun i w' L' => ∃ j : Nat, i = j ∧ j ≤ l.length ∧ p ∉ l.take j ∧ Ctx F m w w' L' m [], fun i _ => ((l.length : Int) - i).toNat, ⟨0, rfl, by omega, by simp, C.hidL h1 g1⟩, ?_⟩
  clear C
  rintro i w6 L7 _ ⟨j, rfl, hj, hn, D⟩
  by_cases hjl : j < l.length
  rotate_left
  · rw [if_neg (by simpa using hjl)]
    have hj2 : j = l.length := by omega
    rw [hj2, List.take_length] at hn
    exact Ctr.ret (-1) rfl ⟨fun _ => hn, fun _ => by omega⟩ D
  rw [if_pos (by simpa using hjl)]
  obtain ⟨a, ha, hc⟩ := hp.elem pr_len hjl
  have ha : q.1 = some a := ha
  refine ⟨by omega, by simpa using hjl, ?_⟩
  rw [ha, onSome_some, Int.toNat_natCast]
  refine ⟨_, _, D.cells hc, D.cellsL hc, ?_⟩
  rw [pr_eq]
  by_cases he : p = l[j]
  · rw [if_pos (by simp [he])]
    refine fun w13 h13 => Ctr.ret (m' := m) (L := []) (j : Int) rfl ⟨fun h => by omega, fun h => ?_⟩ (D.hid0 h13)
    exact absurd (by rw [he]; exact List.getElem_mem hjl) h
  · rw [if_neg (by simp [he])]
    have e : IntKind.wrap .i64 ((j : Int) + 1) = ((j + 1 : Nat) : Int) := by rw [w_i64 (by omega) (by omega)]; omega
    rw [e]
    refine fun w11 L12 h11 g11 => ⟨rfl, ⟨j + 1, rfl, hjl, ?_, D.hidL h11 g11⟩, Nat.le_of_eq (by show ((l.length : Int) - ((j + 1 : Nat) : Int)).toNat + 1 = ((l.length : Int) - (j : Int)).toNat; omega)⟩
    rw [List.take_succ_eq_append_getElem hjl, List.mem_append, List.mem_singleton]
    rintro (h | h)
    · exact hn h
    · exact he h
theorem c_Rank (v : Vw) (p : Pr) (hl : v.ms.length ≤ 1000000) : Ctr Try.prog 75 #[.agg v.row.toArray, .agg p.row.toArray] (fun m => VwM m v) [] (fun r : Int => .int .i64 r) (fun r _ => r < 0 ↔ p ∉ v.ms) (fun _ => []) := by
  refine Ctr.mk fun w F m C hp => x_Rank _ _ _ _ _ _ _ w _ fun w1 L2 h1 g1 => ?_
  exact (c_Index v.q v.ms p hl).call (As := []) (C.hidL h1 g1) hp fun r m1 w4 hk hm hr C => ⟨_, rfl, hk, Ctr.ret (m' := m1) r rfl hr C⟩
def Vw.maj (v : Vw) : Int := ((v.ms.length / 2 + 1 : Nat) : Int)
theorem c_Majority (v : Vw) (hl : v.ms.length ≤ 1000000) : Gives Try.prog 81 #[.agg v.row.toArray] (.int .i64 v.maj) := fun w => x_Majority _ _ _ _ _ w _ fun w1 h1 => by
  have e : (((v.ms.length : Nat) : Int)).tdiv 2 = ((v.ms.length / 2 : Nat) : Int) := by
    rw [Int.tdiv_eq_ediv_of_nonneg (by omega)]; omega
  rw [e, w_i64 (n := ((v.ms.length / 2 : Nat) : Int)) (by omega) (by omega), w_i64 (by omega) (by omega)]
  exact ⟨by rw [Vw.maj]; rfl, hid_below h1 (by simp) (Nat.le_refl _)⟩
theorem c_CloneVw (v : Vw) (hl : v.ms.length ≤ 1000000) : Ctr Try.prog 53 #[.agg v.row.toArray] (fun m => VwM m v) [] (fun p : Sl => .agg (Vw.row { v with q := p }).toArray) (fun p m => VwM m { v with q := p }) (fun _ => []) := by
  refine Ctr.mk fun w F m C hv => x_CloneVw _ _ _ _ _ w _ fun w1 L2 h1 g1 => ?_
  refine (c_ClonePr v.q v.ms (by omega)).call (As := []) (C.hidL h1 g1) hv fun p m1 w4 hk hm hp C => ⟨_, _, _, rfl, hk, fun w8 h8 => ?_⟩
  exact Ctr.ret (m' := m1) (L := []) p rfl hp (C.hid0 h8)
end Go.Proofs
