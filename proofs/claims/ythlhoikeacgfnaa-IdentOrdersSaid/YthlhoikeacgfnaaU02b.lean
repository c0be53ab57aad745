import Derived.Test.YthlhoikeacgfnaaU02a
set_option linter.unusedVariables false
set_option maxRecDepth 10000
namespace Go.Proofs
open Go X RowKit
theorem c_num (n : Int) : Gives Try.prog 14 #[.int .i64 n] (.int .i64 n) := fun w => x_gemotlaw02_num n w _ ⟨rfl, ⟨rfl, rfl, rfl, Nat.le_refl _, fun _ _ => rfl⟩⟩
theorem c_Proc (n l : Int) : Gives Try.prog 19 #[PV n l] (PV n l) := fun w => x_gemotlaw02_Proc n l w _ fun w1 h1 => ⟨rfl, hid_below h1 (by simp) (Nat.le_refl _)⟩
theorem c_RefProc (n l : Int) : Gives Try.prog 41 #[PV n l] (PV n l) := fun w => x_gemotlaw02_RefProc n l w _ fun w1 h1 => ⟨rfl, hid_below h1 (by simp) (Nat.le_refl _)⟩

theorem c_ID (x : I) : Gives Try.prog 9 #[x.V] x.V := by
  intro w
  refine x_gemotlaw02_ID _ _ _ _ _ _ _ _ _ _ w _ ⟨[], facts_nil _ _, ?_, ?_⟩
  all_goals
    intro w2 L h1 h2
    have A := at_start h1 h2
    refine (c_Proc x.n x.l).call fun w5 h5 => ⟨_, _, rfl, at_kept A h5, facts_nil _ _, [], facts_nil _ _, [], facts_nil _ _, [], facts_nil _ _, fun w11 h11 => ⟨rfl, ?_⟩⟩
    exact at_end (at_call A (Nat.le_refl _) h5) (Nat.le_refl _) h11

theorem c_RefID (x : I) : Gives Try.prog 13 #[x.V] x.V := by
  intro w
  refine x_gemotlaw02_RefID _ _ _ _ _ _ _ _ _ _ w _ ⟨[], facts_nil _ _, ?_, ?_⟩
  all_goals
    intro w2 L h1 h2
    have A := at_start h1 h2
    refine (c_RefProc x.n x.l).call fun w5 h5 => ⟨_, _, rfl, at_kept A h5, facts_nil _ _, [], facts_nil _ _, [], facts_nil _ _, [], facts_nil _ _, fun w11 h11 => ⟨rfl, ?_⟩⟩
    exact at_end (at_call A (Nat.le_refl _) h5) (Nat.le_refl _) h11

theorem c_ref_Child (x : I) (hx : x.In) (b c : Int) : Gives Try.prog 10 #[x.V, .int .u8 b, .int .u8 c] (.tuple #[(x.child b c).1.V, .int .i64 (x.child b c).2]) := by
  intro w
  refine x_gemotref02_Child _ _ _ _ _ _ _ _ _ _ b c w _ fun w1 L h1 h2 => ?_
  have A := at_start h1 h2
  refine (c_ref_Right x hx).call fun w4 h4 => ⟨_, rfl, at_kept A h4, ?_⟩
  have A4 := at_call A (Nat.le_refl _) h4
  have E : ∀ {V : Value} {V'}, V = V' → ∀ w9, X.Hid L w4 w9 → Ending.returned V = .returned V' ∧ Below w.heap.size w w9 := fun hv w9 h9 => ⟨by rw [hv], at_end A4 (Nat.le_refl _) h9⟩
  unfold I.child
  split
  · exact E rfl
  · rename_i hr
    have hd := I.right_d (x := x) (by simp only [Bool.or_eq_true, not_or] at hr; simpa using hr.1)
    have hd0 := hx.d
    split
    · rename_i h3
      have h3 : x.d = 3 := by simpa using h3
      rw [if_pos h3]
      exact E rfl
    · rename_i h3
      have h3 : ¬ x.d = 3 := by simpa using h3
      rw [if_neg h3]
      refine ⟨by omega, by omega, ⟨fun h0 => ?_, fun h0 => ?_⟩, fun h0 => ?_⟩
      · rw [if_pos h0, h0]; exact E rfl
      · rw [if_neg (by omega), if_pos h0, h0]; exact E rfl
      · rw [if_neg (by omega), if_neg (by omega), h0]; exact E rfl
theorem c_ref_Parent (x : I) (hx : x.In) : Gives Try.prog 12 #[x.V] (.tuple #[x.parent.1.V, .int .i64 x.parent.2]) := by
  intro w
  refine x_gemotref02_Parent _ _ _ _ _ _ _ _ _ _ w _ fun w1 L h1 h2 => ?_
  have A := at_start h1 h2
  refine (c_ref_Right x hx).call fun w4 h4 => ⟨_, rfl, at_kept A h4, ?_⟩
  have A4 := at_call A (Nat.le_refl _) h4
  have E : ∀ {V : Value} {V'}, V = V' → ∀ w9, X.Hid L w4 w9 → Ending.returned V = .returned V' ∧ Below w.heap.size w w9 := fun hv w9 h9 => ⟨by rw [hv], at_end A4 (Nat.le_refl _) h9⟩
  unfold I.parent
  split
  · exact E rfl
  · rename_i hr
    have hd := I.right_d (x := x) (by simpa using hr)
    have hd0 := hx.d
    split
    · rename_i h3
      have h3 : x.d = 0 := by simpa using h3
      rw [if_pos h3]
      exact E rfl
    · rename_i h3
      have h3 : ¬ x.d = 0 := by simpa using h3
      rw [if_neg h3, w_u8 (by omega) (by omega)]
      refine ⟨by omega, by omega, ⟨fun h0 => ?_, fun h0 => ?_⟩, fun h0 => ?_⟩
      · rw [if_pos (by omega), h0]; exact E rfl
      · rw [if_neg (by omega), if_pos (by omega), h0]; exact E rfl
      · rw [if_neg (by omega), if_neg (by omega), h0]; exact E rfl

theorem c_knows : Gives Try.prog 22 #[] (.bool true) := by
  intro w
  refine x_gemotlaw02_knows w _ ?_
  have A := at_same w
  refine (c_Child ⟨1, 1, 5, 0, 0, 0, 0, 0, 0, 0⟩ ⟨by decide, by decide, by decide, by decide, by decide, by decide, by decide, by decide, by decide, by decide⟩ 2 1).call fun w2 h2 => ⟨_, _, _, _, _, _, _, _, _, _, _, rfl, h2.size, fun w14 L h14 hL => ?_⟩
  have A2 := at_hid (at_call A (Nat.le_refl _) h2) (Nat.le_refl _) h14 hL
  refine (c_num _).call fun w17 h17 => ⟨_, rfl, at_kept A2 h17, ?_⟩
  have A3 := at_call A2 (Nat.le_refl _) h17
  rw [if_pos (by decide)]
  refine (c_Right ⟨1, 1, 5, 1, 2, 1, 0, 0, 0, 0⟩ ⟨by decide, by decide, by decide, by decide, by decide, by decide, by decide, by decide, by decide, by decide⟩).call fun w20 h20 => ⟨_, rfl, at_kept A3 h20, ?_⟩
  exact ⟨rfl, (at_call A3 (Nat.le_refl _) h20).bel⟩

theorem c_IdentSteps (x : I) (hx : x.In) (b c : Int) : Gives Try.prog 3 #[x.V, .int .u8 b, .int .u8 c] (.bool true) := by
  intro w
  refine x_gemotlaw02_IdentSteps _ _ _ _ _ _ _ _ _ _ b c w _ fun w1 L1 h1 hL1 => ?_
  have A := at_start h1 hL1
  refine (c_ID x).call fun v1 g1 => ⟨_, _, _, _, _, _, _, _, _, _, rfl, at_kept A g1, ?_⟩
  replace A := at_call A (Nat.le_refl _) g1
  refine (c_Child x hx b c).call fun v2 g2 => ⟨_, _, _, _, _, _, _, _, _, _, _, rfl, at_kept A g2, ?_⟩
  replace A := at_call A (Nat.le_refl _) g2
  intro v3 L3 g3 gL3
  replace A := at_hid A (Nat.le_refl _) g3 gL3
  refine (c_ref_Child x hx b c).call fun v4 g4 => ⟨_, _, _, _, _, _, _, _, _, _, _, rfl, at_kept A g4, ?_⟩
  replace A := at_call A (Nat.le_refl _) g4
  intro v5 L5 g5 gL5
  replace A := at_hid A (Nat.le_refl _) g5 gL5
  refine (c_ID x).call fun v6 g6 => ⟨_, _, _, _, _, _, _, _, _, _, rfl, at_kept A g6, ?_⟩
  replace A := at_call A (Nat.le_refl _) g6
  refine (c_Parent x hx).call fun v7 g7 => ⟨_, _, _, _, _, _, _, _, _, _, _, rfl, at_kept A g7, ?_⟩
  replace A := at_call A (Nat.le_refl _) g7
  intro v8 L8 g8 gL8
  replace A := at_hid A (Nat.le_refl _) g8 gL8
  refine (c_ref_Parent x hx).call fun v9 g9 => ⟨_, _, _, _, _, _, _, _, _, _, _, rfl, at_kept A g9, ?_⟩
  replace A := at_call A (Nat.le_refl _) g9
  refine ⟨[], facts_nil _ _, ?_⟩
  intro v10 L10 g10 gL10
  replace A := at_hid A (Nat.le_refl _) g10 gL10
  refine (c_RefID (x.child b c).1).call fun v11 g11 => ⟨_, _, _, _, _, _, _, _, _, _, rfl, at_kept A g11, facts_nil _ _, ?_⟩
  replace A := at_call A (Nat.le_refl _) g11
  rw [if_pos (by simp)]
  refine (c_num _).call fun v12 g12 => ⟨_, rfl, at_kept A g12, facts_nil _ _, ?_⟩
  replace A := at_call A (Nat.le_refl _) g12
  rw [if_pos (by simp)]
  refine (c_RefID x.parent.1).call fun v13 g13 => ⟨_, _, _, _, _, _, _, _, _, _, rfl, at_kept A g13, facts_nil _ _, ?_⟩
  replace A := at_call A (Nat.le_refl _) g13
  rw [if_pos (by simp)]
  refine (c_num _).call fun v14 g14 => ⟨_, rfl, at_kept A g14, facts_nil _ _, ?_⟩
  replace A := at_call A (Nat.le_refl _) g14
  rw [if_pos (by simp)]
  refine (c_ID x).call fun v15 g15 => ⟨_, _, _, _, _, _, _, _, _, _, rfl, at_kept A g15, facts_nil _ _, ?_⟩
  replace A := at_call A (Nat.le_refl _) g15
  refine (c_Root x).call fun v16 g16 => ⟨_, _, _, _, _, _, _, _, _, _, rfl, at_kept A g16, facts_nil _ _, ?_⟩
  replace A := at_call A (Nat.le_refl _) g16
  refine (c_RefID x.root).call fun v17 g17 => ⟨_, _, _, _, _, _, _, _, _, _, rfl, at_kept A g17, facts_nil _ _, ?_⟩
  replace A := at_call A (Nat.le_refl _) g17
  refine (c_ref_Root x).call fun v18 g18 => ⟨_, _, _, _, _, _, _, _, _, _, rfl, at_kept A g18, facts_nil _ _, ?_⟩
  replace A := at_call A (Nat.le_refl _) g18
  rw [if_pos (by simp)]
  refine (c_ID x).call fun v19 g19 => ⟨_, _, _, _, _, _, _, _, _, _, rfl, at_kept A g19, facts_nil _ _, ?_⟩
  replace A := at_call A (Nat.le_refl _) g19
  refine (c_Right x hx).call fun v20 g20 => ⟨_, rfl, at_kept A g20, facts_nil _ _, ?_⟩
  replace A := at_call A (Nat.le_refl _) g20
  refine (c_ref_Right x hx).call fun v21 g21 => ⟨_, rfl, at_kept A g21, facts_nil _ _, ?_⟩
  replace A := at_call A (Nat.le_refl _) g21
  rw [if_pos (by simp)]
  refine (c_Proc x.n x.l).call fun v22 g22 => ⟨_, _, rfl, at_kept A g22, facts_nil _ _, ?_⟩
  replace A := at_call A (Nat.le_refl _) g22
  refine (c_Proc_Right x.n x.l).call fun v23 g23 => ⟨_, rfl, at_kept A g23, facts_nil _ _, ?_⟩
  replace A := at_call A (Nat.le_refl _) g23
  refine (c_ref_RightProc x.n x.l).call fun v24 g24 => ⟨_, rfl, at_kept A g24, facts_nil _ _, ?_⟩
  replace A := at_call A (Nat.le_refl _) g24
  rw [if_pos (by simp)]
  refine (c_knows).call fun v25 g25 => ⟨_, rfl, at_kept A g25, facts_nil _ _, ?_⟩
  replace A := at_call A (Nat.le_refl _) g25
  exact ⟨rfl, A.bel⟩

end Go.Proofs
