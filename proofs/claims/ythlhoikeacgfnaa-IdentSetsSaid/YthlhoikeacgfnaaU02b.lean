import Derived.Test.YthlhoikeacgfnaaU02a
set_option linter.unusedVariables false
set_option maxRecDepth 10000
namespace Go.Proofs
open Go X RowKit
theorem c_num (n : Int) : Gives Try.prog 14 #[.int .i64 n] (.int .i64 n) := fun w => x_gemotlaw02_num n w _ ⟨rfl, ⟨rfl, rfl, rfl, Nat.le_refl _, Nat.le_refl _, fun _ _ => rfl⟩⟩
theorem c_Proc (n l : Int) : Gives Try.prog 19 #[PV n l] (PV n l) := fun w => x_gemotlaw02_Proc n l w _ fun w1 h1 => ⟨rfl, hid_below h1 (by simp) (Nat.le_refl _)⟩
theorem c_RefProc (n l : Int) : Gives Try.prog 41 #[PV n l] (PV n l) := fun w => x_gemotlaw02_RefProc n l w _ fun w1 h1 => ⟨rfl, hid_below h1 (by simp) (Nat.le_refl _)⟩

theorem c_ID (x : I) : Gives Try.prog 9 #[x.V] x.V := by
  intro w
  refine x_gemotlaw02_ID _ _ _ _ _ _ _ _ _ _ w _ ⟨[], facts_nil _ _, ?_, ?_⟩
  all_goals
    intro w2 L h1 h2
    have A := at_start h1 h2
    refine (c_Proc x.n x.l).call fun w5 h5 => ⟨_, _, rfl, at_kept A h5, facts_nil _ _, [], facts_nil _ _, [], facts_nil _ _, [], facts_nil _ _, fun w11 h11 => ⟨rfl, ?_⟩⟩
    exact at_end (at_call A (Nat.le_refl _) h5) (Nat.le_refl _) h11

theorem c_RefID (x : I) : Gives Try.prog 13 #[x.V] x.V := by
  intro w
  refine x_gemotlaw02_RefID _ _ _ _ _ _ _ _ _ _ w _ ⟨[], facts_nil _ _, ?_, ?_⟩
  all_goals
    intro w2 L h1 h2
    have A := at_start h1 h2
    refine (c_RefProc x.n x.l).call fun w5 h5 => ⟨_, _, rfl, at_kept A h5, facts_nil _ _, [], facts_nil _ _, [], facts_nil _ _, [], facts_nil _ _, fun w11 h11 => ⟨rfl, ?_⟩⟩
    exact at_end (at_call A (Nat.le_refl _) h5) (Nat.le_refl _) h11

theorem c_ref_Child (x : I) (hx : x.In) (b c : Int) : Gives Try.prog 10 #[x.V, .int .u8 b, .int .u8 c] (.tuple #[(x.child b c).1.V, .int .i64 (x.child b c).2]) := by
  intro w
  refine x_gemotref02_Child _ _ _ _ _ _ _ _ _ _ b c w _ fun w1 L h1 h2 => ?_
  have A := at_start h1 h2
  refine (c_ref_Right x hx).call fun w4 h4 => ⟨_, rfl, at_kept A h4, ?_⟩
  have A4 := at_call A (Nat.le_refl _) h4
  have E : ∀ {V : Value} {V'}, V = V' → ∀ w9, X.Hid L w4 w9 → Ending.returned V = .returned V' ∧ Bel w.heap.size w w9 := fun hv w9 h9 => ⟨by rw [hv], at_end A4 (Nat.le_refl _) h9⟩
  unfold I.child
  split
  · exact E rfl
  · rename_i hr
    have hd := I.right_d (x := x) (by simp only [Bool.or_eq_true, not_or] at hr; simpa using hr.1)
    have hd0 := hx.d
    split
    · rename_i h3
      have h3 : x.d = 3 := by simpa using h3
      rw [if_pos h3]
      exact E rfl
    · rename_i h3
      have h3 : ¬ x.d = 3 := by simpa using h3
      rw [if_neg h3]
      refine ⟨by omega, by omega, ⟨fun h0 => ?_, fun h0 => ?_⟩, fun h0 => ?_⟩
      · rw [if_pos h0, h0]; exact E rfl
      · rw [if_neg (by omega), if_pos h0, h0]; exact E rfl
      · rw [if_neg (by omega), if_neg (by omega), h0]; exact E rfl
theorem c_ref_Parent (x : I) (hx : x.In) : Gives Try.prog 12 #[x.V] (.tuple #[x.parent.1.V, .int .i64 x.parent.2]) := by
  intro w
  refine x_gemotref02_Parent _ _ _ _ _ _ _ _ _ _ w _ fun w1 L h1 h2 => ?_
  have A := at_start h1 h2
  refine (c_ref_Right x hx).call fun w4 h4 => ⟨_, rfl, at_kept A h4, ?_⟩
  have A4 := at_call A (Nat.le_refl _) h4
  have E : ∀ {V : Value} {V'}, V = V' → ∀ w9, X.Hid L w4 w9 → Ending.returned V = .returned V' ∧ Bel w.heap.size w w9 := fun hv w9 h9 => ⟨by rw [hv], at_end A4 (Nat.le_refl _) h9⟩
  unfold I.parent
  split
  · exact E rfl
  · rename_i hr
    have hd := I.right_d (x := x) (by simpa using hr)
    have hd0 := hx.d
    split
    · rename_i h3
      have h3 : x.d = 0 := by simpa using h3
      rw [if_pos h3]
      exact E rfl
    · rename_i h3
      have h3 : ¬ x.d = 0 := by simpa using h3
      rw [if_neg h3, w_u8 (by omega) (by omega)]
      refine ⟨by omega, by omega, ⟨fun h0 => ?_, fun h0 => ?_⟩, fun h0 => ?_⟩
      · rw [if_pos (by omega), h0]; exact E rfl
      · rw [if_neg (by omega), if_pos (by omega), h0]; exact E rfl
      · rw [if_neg (by omega), if_neg (by omega), h0]; exact E rfl

theorem c_knows : Gives Try.prog 22 #[] (.bool true) := by
  intro w
  refine x_gemotlaw02_knows w _ ?_
  have A := at_same w
  refine (c_Child ⟨1, 1, 5, 0, 0, 0, 0, 0, 0, 0⟩ ⟨by decide, by decide, by decide, by decide, by decide, by decide, by decide, by decide, by decide, by decide⟩ 2 1).call fun w2 h2 => ⟨_, _, _, _, _, _, _, _, _, _, _, rfl, h2.size, fun w14 L h14 hL => ?_⟩
  have A2 := at_hid (at_call A (Nat.le_refl _) h2) (Nat.le_refl _) h14 hL
  refine (c_num _).call fun w17 h17 => ⟨_, rfl, at_kept A2 h17, ?_⟩
  have A3 := at_call A2 (Nat.le_refl _) h17
  rw [if_pos (by decide)]
  refine (c_Right ⟨1, 1, 5, 1, 2, 1, 0, 0, 0, 0⟩ ⟨by decide, by decide, by decide, by decide, by decide, by decide, by decide, by decide, by decide, by decide⟩).call fun w20 h20 => ⟨_, rfl, at_kept A3 h20, ?_⟩
  exact ⟨rfl, (at_call A3 (Nat.le_refl _) h20).bel⟩

end Go.Proofs
