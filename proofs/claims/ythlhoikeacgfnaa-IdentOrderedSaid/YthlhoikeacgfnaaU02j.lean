import Derived.Test.YthlhoikeacgfnaaU02i
set_option linter.unusedVariables false
set_option linter.unusedSimpArgs false
set_option maxRecDepth 10000
namespace Go.Proofs
open Go X RowKit
instance : DecidableEq I := fun a b => decidable_of_iff (a.n = b.n ∧ a.l = b.l ∧ a.s = b.s ∧ a.d = b.d ∧ a.g0 = b.g0 ∧ a.i0 = b.i0 ∧ a.g1 = b.g1 ∧ a.i1 = b.i1 ∧ a.g2 = b.g2 ∧ a.i2 = b.i2) (by cases a; cases b; simp)
theorem i_eqd (a d : I) : (((a.n == d.n) && (a.l == d.l)) && ((a.s == d.s) && ((a.d == d.d) && (((a.g0 == d.g0) && (a.i0 == d.i0)) && (((a.g1 == d.g1) && (a.i1 == d.i1)) && ((a.g2 == d.g2) && (a.i2 == d.i2))))))) = decide (a = d) := by
  rw [Bool.eq_iff_iff, decide_eq_true_eq]
  simp only [Bool.and_eq_true, beq_iff_eq]
  constructor
  · rintro ⟨⟨h1, h2⟩, h3, h4, ⟨h5, h6⟩, ⟨h7, h8⟩, h9, h10⟩
    exact I.ext' ⟨h1, h2, h3, h4, h5, h6, h7, h8, h9, h10⟩
  · rintro rfl; simp
def upK : Nat → I → I → I
  | 0, x, _ => x
  | k + 1, x, z => if x.d > z.d then upK k x.parent.1 z else x
theorem parent_in {x : I} (h : x.In) : x.parent.1.In := by
  have := h.n; have := h.l; have := h.s; have := h.d; have := h.g0; have := h.i0; have := h.g1; have := h.i1; have := h.g2; have := h.i2
  unfold I.parent
  split
  · exact ⟨by decide, by decide, by decide, by decide, by decide, by decide, by decide, by decide, by decide, by decide⟩
  · split
    · exact ⟨by decide, by decide, by decide, by decide, by decide, by decide, by decide, by decide, by decide, by decide⟩
    · split
      · constructor <;> simp only <;> omega
      · split
        · constructor <;> simp only <;> omega
        · constructor <;> simp only <;> omega
theorem c_under (x z : I) (hx : x.In) : Gives Try.prog 27 #[x.V, z.V] (.bool (decide (upK 4 x z = z))) := by
  intro w
  refine x_gemotlaw02_under _ _ _ _ _ _ _ _ _ _ _ _ _ _ _ _ _ _ _ _ w _ fun w1 L2 h1 g1 => ?_
  have A := at_start h1 g1
  refine ⟨fun n a0 a1 a2 a3 a4 a5 a6 a7 a8 a9 w' L' => ∃ j : Nat, n = j ∧ j ≤ 4 ∧ I.In ⟨a0, a1, a2, a3, a4, a5, a6, a7, a8, a9⟩ ∧ upK (4 - j) ⟨a0, a1, a2, a3, a4, a5, a6, a7, a8, a9⟩ z = upK 4 x z ∧ At w.heap.size w w' L', fun n _ _ _ _ _ _ _ _ _ _ _ => (4 - n).toNat,
    ⟨0, rfl, by omega, hx, rfl, A⟩, ?_⟩
  clear A h1 g1
  rintro n a0 a1 a2 a3 a4 a5 a6 a7 a8 a9 w16 L17 _ ⟨j, rfl, hj, hin, hu, A⟩
  generalize hy : (⟨a0, a1, a2, a3, a4, a5, a6, a7, a8, a9⟩ : I) = y at hin hu
  have e0 : a0 = y.n := by rw [← hy]
  have e1 : a1 = y.l := by rw [← hy]
  have e2 : a2 = y.s := by rw [← hy]
  have e3 : a3 = y.d := by rw [← hy]
  have e4 : a4 = y.g0 := by rw [← hy]
  have e5 : a5 = y.i0 := by rw [← hy]
  have e6 : a6 = y.g1 := by rw [← hy]
  have e7 : a7 = y.i1 := by rw [← hy]
  have e8 : a8 = y.g2 := by rw [← hy]
  have e9 : a9 = y.i2 := by rw [← hy]
  clear hy
  subst e0 e1 e2 e3 e4 e5 e6 e7 e8 e9
  by_cases hc : j < 4 ∧ y.d > z.d
  · rw [if_pos (by simp; omega)]
    refine (c_Parent y hin).call fun w19 h19 => ⟨_, _, _, _, _, _, _, _, _, _, _, rfl, at_kept A h19, fun w31 L32 h31 g31 => ⟨rfl, ⟨j + 1, ?_, by omega, parent_in hin, ?_, at_hid (at_call A (Nat.le_refl _) h19) (Nat.le_refl _) h31 g31⟩, ?_⟩⟩
    · rw [w_i64 (by omega) (by omega)]; omega
    · rw [← hu, show 4 - j = (4 - (j + 1)) + 1 by omega, upK, if_pos hc.2]
    · rw [w_i64 (by omega) (by omega)]; exact Nat.le_of_eq (by show ((4 : Int) - ((j : Int) + 1)).toNat + 1 = ((4 : Int) - (j : Int)).toNat; omega)
  · rw [if_neg (by simp; omega), i_eqd]
    have e : upK 4 x z = y := by
      rw [← hu]
      cases hk : 4 - j with
      | zero => rfl
      | succ k => rw [upK, if_neg (fun h => hc ⟨by omega, h⟩)]
    rw [e]
    exact ⟨rfl, A.bel⟩
/-! ### what it says -/
theorem stepIn_iff (j d g i : Int) : stepIn j d g i = true ↔ (j < d ∧ g < 4) ∨ (j ≥ d ∧ g = 0 ∧ i = 0) := by simp [stepIn]
structure I.Rt (x : I) : Prop where
  d : x.d ≤ 3
  s0 : (0 < x.d) ∨ (x.g0 = 0 ∧ x.i0 = 0)
  s1 : (1 < x.d) ∨ (x.g1 = 0 ∧ x.i1 = 0)
  s2 : (2 < x.d) ∨ (x.g2 = 0 ∧ x.i2 = 0)
theorem right_rt {x : I} (h : x.right = true) : x.Rt := by
  simp only [I.right, Bool.and_eq_true, decide_eq_true_eq, stepIn_iff] at h
  exact ⟨by omega, by omega, by omega, by omega⟩
theorem right_up {x : I} (h : x.right = true) : (x.d = 1 → I.right { x with d := 0, g0 := 0, i0 := 0 } = true) ∧ (x.d = 2 → I.right { x with d := 1, g1 := 0, i1 := 0 } = true) ∧ (x.d = 3 → I.right { x with d := 2, g2 := 0, i2 := 0 } = true) := by
  simp only [I.right, Bool.and_eq_true, decide_eq_true_eq, stepIn_iff] at h ⊢
  obtain ⟨⟨⟨⟨⟨⟨r, s1⟩, s2⟩, dd⟩, t0⟩, t1⟩, t2⟩ := h
  refine ⟨fun hd => ⟨⟨⟨⟨⟨⟨r, s1⟩, s2⟩, ?_⟩, ?_⟩, ?_⟩, ?_⟩, fun hd => ⟨⟨⟨⟨⟨⟨r, s1⟩, s2⟩, ?_⟩, ?_⟩, ?_⟩, ?_⟩, fun hd => ⟨⟨⟨⟨⟨⟨r, s1⟩, s2⟩, ?_⟩, ?_⟩, ?_⟩, ?_⟩⟩
  all_goals (try dsimp only)
  all_goals first | omega | decide
def cutI (x : I) (k : Int) : I := ⟨x.n, x.l, x.s, k, if 0 < k then x.g0 else 0, if 0 < k then x.i0 else 0, if 1 < k then x.g1 else 0, if 1 < k then x.i1 else 0, if 2 < k then x.g2 else 0, if 2 < k then x.i2 else 0⟩
theorem parent1 {x : I} (h : x.right = true) (hd : x.d = 1) : x.parent.1 = { x with d := 0, g0 := 0, i0 := 0 } := by
  unfold I.parent; rw [h, if_neg (by decide), if_neg (by omega), if_pos hd]
theorem parent2 {x : I} (h : x.right = true) (hd : x.d = 2) : x.parent.1 = { x with d := 1, g1 := 0, i1 := 0 } := by
  unfold I.parent; rw [h, if_neg (by decide), if_neg (by omega), if_neg (by omega), if_pos hd]
theorem parent3 {x : I} (h : x.right = true) (hd : x.d = 3) : x.parent.1 = { x with d := 2, g2 := 0, i2 := 0 } := by
  unfold I.parent; rw [h, if_neg (by decide), if_neg (by omega), if_neg (by omega), if_neg (by omega)]
theorem up1 {x z : I} (hz : 0 ≤ z.d) (h : x.right = true) (hd : x.d = 1) (k : Nat) (hlt : z.d < x.d) : upK (k + 1) x z = cutI x z.d := by
  have hr := right_rt h
  have hz0 : z.d = 0 := by omega
  rw [upK, if_pos hlt, parent1 h hd]
  have e : ∀ k, upK k ({ x with d := 0, g0 := 0, i0 := 0 } : I) z = { x with d := 0, g0 := 0, i0 := 0 } := fun k => by
    cases k with
    | zero => rfl
    | succ k => rw [upK, if_neg (by simp only; omega)]
  rw [e, cutI, hz0]
  apply I.ext'
  have := hr.s1; have := hr.s2
  simp
  omega
theorem up2 {x z : I} (hz : 0 ≤ z.d) (h : x.right = true) (hd : x.d = 2) (k : Nat) (hlt : z.d < x.d) : upK (k + 2) x z = cutI x z.d := by
  have hr := right_rt h
  have hu := (right_up h).2.1 hd
  rw [upK, if_pos hlt, parent2 h hd]
  by_cases h1 : z.d < 1
  · rw [up1 hz hu rfl k h1]
    apply I.ext'
    have : z.d = 0 := by omega
    simp [cutI, this]
  · have hz1 : z.d = 1 := by omega
    rw [upK, if_neg (by simp only; omega), cutI, hz1]
    apply I.ext'
    have := hr.s2
    simp
    omega
theorem up3 {x z : I} (hz : 0 ≤ z.d) (h : x.right = true) (hd : x.d = 3) (k : Nat) (hlt : z.d < x.d) : upK (k + 3) x z = cutI x z.d := by
  have hr := right_rt h
  have hu := (right_up h).2.2 hd
  rw [upK, if_pos hlt, parent3 h hd]
  by_cases h1 : z.d < 2
  · rw [up2 hz hu rfl k h1]
    apply I.ext'
    rcases (show z.d = 0 ∨ z.d = 1 by omega) with e | e <;> simp [cutI, e]
  · have hz1 : z.d = 2 := by omega
    rw [upK, if_neg (by simp only; omega), cutI, hz1]
    apply I.ext'
    simp
structure UnderP (x z : I) : Prop where
  n : z.n = x.n
  l : z.l = x.l
  s : z.s = x.s
  d : z.d ≤ x.d
  s0 : 0 < z.d → z.g0 = x.g0 ∧ z.i0 = x.i0
  s1 : 1 < z.d → z.g1 = x.g1 ∧ z.i1 = x.i1
  s2 : 2 < z.d → z.g2 = x.g2 ∧ z.i2 = x.i2
theorem under_iff {x z : I} (hx : x.right = true) (hz : z.right = true) (hix : x.In) (hiz : z.In) : upK 4 x z = z ↔ UnderP x z := by
  have rx := right_rt hx
  have rz := right_rt hz
  have h0 := hix.d; have h1 := hiz.d
  by_cases hle : x.d ≤ z.d
  · rw [upK, if_neg (by omega)]
    constructor
    · rintro rfl; exact ⟨rfl, rfl, rfl, Int.le_refl _, fun _ => ⟨rfl, rfl⟩, fun _ => ⟨rfl, rfl⟩, fun _ => ⟨rfl, rfl⟩⟩
    · rintro ⟨a1, a2, a3, a4, a5, a6, a7⟩
      have hd := rx.d; have := rx.s0; have := rx.s1; have := rx.s2; have := rz.s0; have := rz.s1; have := rz.s2
      apply I.ext'
      refine ⟨a1.symm, a2.symm, a3.symm, by omega, ?_, ?_, ?_, ?_, ?_, ?_⟩ <;> omega
  · have hup : upK 4 x z = cutI x z.d := by
      have hd := rx.d
      rcases (show x.d = 1 ∨ x.d = 2 ∨ x.d = 3 by omega) with e | e | e
      · exact up1 h1.1 hx e 3 (by omega)
      · exact up2 h1.1 hx e 2 (by omega)
      · exact up3 h1.1 hx e 1 (by omega)
    rw [hup]
    have := rz.s0; have := rz.s1; have := rz.s2
    constructor
    · intro e
      rw [← e]
      refine ⟨rfl, rfl, rfl, by simp only [cutI]; omega, fun h => ?_, fun h => ?_, fun h => ?_⟩
      all_goals simp only [cutI] at h ⊢; simp [h]
    · rintro ⟨a1, a2, a3, a4, a5, a6, a7⟩
      apply I.ext'
      simp only [cutI]
      refine ⟨a1.symm, a2.symm, a3.symm, trivial, ?_, ?_, ?_, ?_, ?_, ?_⟩ <;> split <;> omega
end Go.Proofs
