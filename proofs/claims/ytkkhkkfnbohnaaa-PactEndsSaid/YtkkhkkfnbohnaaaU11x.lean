import Derived.Test.YtkkhkkfnbohnaaaU11c
import Derived.Test.YtkkhkkfnbohnaaaRows
import Derived.Test.YtkkhkkfnbohnaaaChecked
set_option linter.unusedVariables false
set_option maxRecDepth 100000
namespace Go.Proofs.Ytkkhkkfnbohnaaa
open Go X RowKit Go.ChangeShapes Go.WideShapes Go.ChangeAt Go.Proofs
theorem own : ownKnob Try.prog.godebug = none := by kernel_rfl
theorem wf_u64 {n : Int} (h : (Lit.int .u64 n).wf = true) : 0 ≤ n ∧ n < 18446744073709551616 := by
  simp [Lit.wf, IntKind.min, IntKind.max, IntKind.bits, IntKind.signed] at h; omega
structure PrW (p : Pr) : Prop where
  n : 0 ≤ p.n ∧ p.n < 256
  l : 0 ≤ p.l ∧ p.l < 65536
structure AvW (a : Av) : Prop where
  bn : 0 ≤ a.bn ∧ a.bn < 18446744073709551616
  p : PrW a.p
  ms : ∀ p ∈ a.v.ms, PrW p
section
variable {H : Type} {enc : TypeId × Value → H} {W : World} {sp : Nat → Bool} {fuel : Nat} {cs : List Value} {x : DataW H × List MemPlace}
theorem open_Pt (h : DataW.trod enc Try.prog W 0 sp true fuel 164 cs = some x) : ∃ a : Pt, cs = a.row ∧ True := by
  have F := fit_of_trod 60 fuel 164 _ _ (by kernel_rfl) h
  have E : cellTys Try.prog 60 164 = [.int .u8, .int .u8, .str, .str, .int .i64] := by kernel_rfl
  rw [E] at F
  obtain ⟨_, l0, rfl, ⟨a0, rfl, w0⟩, F1⟩ := fit_cons F
  obtain ⟨_, l1, rfl, ⟨a1, rfl, w1⟩, F2⟩ := fit_cons F1
  obtain ⟨_, l2, rfl, ⟨a2, rfl, w2⟩, F3⟩ := fit_cons F2
  obtain ⟨_, l3, rfl, ⟨a3, rfl, w3⟩, F4⟩ := fit_cons F3
  obtain ⟨_, l4, rfl, ⟨a4, rfl, w4⟩, F5⟩ := fit_cons F4
  obtain rfl := fit_nil F5
  exact ⟨⟨a0, a1, a2, a3, a4⟩, rfl, trivial⟩
theorem open_Pr (h : DataW.trod enc Try.prog W 0 sp true fuel 38 cs = some x) : ∃ a : Pr, cs = a.row ∧ PrW a := by
  have F := fit_of_trod 60 fuel 38 _ _ (by kernel_rfl) h
  have E : cellTys Try.prog 60 38 = [.int .u8, .int .u16] := by kernel_rfl
  rw [E] at F
  obtain ⟨_, l0, rfl, ⟨a0, rfl, w0⟩, F1⟩ := fit_cons F
  obtain ⟨_, l1, rfl, ⟨a1, rfl, w1⟩, F2⟩ := fit_cons F1
  obtain rfl := fit_nil F2
  exact ⟨⟨a0, a1⟩, rfl, ⟨wf_u8 w0, wf_u16 w1⟩⟩
theorem open_Wr (h : DataW.trod enc Try.prog W 0 sp true fuel 149 cs = some x) : ∃ a : Wr, cs = a.row ∧ True := by
  have F := fit_of_trod 60 fuel 149 _ _ (by kernel_rfl) h
  have E : cellTys Try.prog 60 149 = [.str, .str, .bool] := by kernel_rfl
  rw [E] at F
  obtain ⟨_, l0, rfl, ⟨a0, rfl, w0⟩, F1⟩ := fit_cons F
  obtain ⟨_, l1, rfl, ⟨a1, rfl, w1⟩, F2⟩ := fit_cons F1
  obtain ⟨_, l2, rfl, ⟨a2, rfl⟩, F3⟩ := fit_cons F2
  obtain rfl := fit_nil F3
  exact ⟨⟨a0, a1, a2⟩, rfl, trivial⟩
theorem open_En (h : DataW.trod enc Try.prog W 0 sp true fuel 137 cs = some x) : ∃ a : En, cs = a.row ∧ EnM0 (memOf W) a := by
  have F := fit_of_trod 60 fuel 137 _ _ (by kernel_rfl) h
  have E : cellTys Try.prog 60 137 = [.int .u8, .int .u8, .int .u16, .int .u32, .int .u8, .int .u8, .int .u8, .int .u8, .int .u8, .int .u8, .int .u8, .int .u32, .slice, .int .u8, .str, .slice, .int .u8, .int .u16] := by kernel_rfl
  rw [E] at F
  obtain ⟨_, l0, rfl, ⟨a0, rfl, w0⟩, F1⟩ := fit_cons F
  obtain ⟨_, l1, rfl, ⟨a1, rfl, w1⟩, F2⟩ := fit_cons F1
  obtain ⟨_, l2, rfl, ⟨a2, rfl, w2⟩, F3⟩ := fit_cons F2
  obtain ⟨_, l3, rfl, ⟨a3, rfl, w3⟩, F4⟩ := fit_cons F3
  obtain ⟨_, l4, rfl, ⟨a4, rfl, w4⟩, F5⟩ := fit_cons F4
  obtain ⟨_, l5, rfl, ⟨a5, rfl, w5⟩, F6⟩ := fit_cons F5
  obtain ⟨_, l6, rfl, ⟨a6, rfl, w6⟩, F7⟩ := fit_cons F6
  obtain ⟨_, l7, rfl, ⟨a7, rfl, w7⟩, F8⟩ := fit_cons F7
  obtain ⟨_, l8, rfl, ⟨a8, rfl, w8⟩, F9⟩ := fit_cons F8
  obtain ⟨_, l9, rfl, ⟨a9, rfl, w9⟩, F10⟩ := fit_cons F9
  obtain ⟨_, l10, rfl, ⟨a10, rfl, w10⟩, F11⟩ := fit_cons F10
  obtain ⟨_, l11, rfl, ⟨a11, rfl, w11⟩, F12⟩ := fit_cons F11
  obtain ⟨_, l12, rfl, ⟨q12, n12, c12, rfl, w12, z12⟩, F13⟩ := fit_cons F12
  obtain ⟨_, l13, rfl, ⟨a13, rfl, w13⟩, F14⟩ := fit_cons F13
  obtain ⟨_, l14, rfl, ⟨a14, rfl, w14⟩, F15⟩ := fit_cons F14
  obtain ⟨_, l15, rfl, ⟨q15, n15, c15, rfl, w15, z15⟩, F16⟩ := fit_cons F15
  obtain ⟨_, l16, rfl, ⟨a16, rfl, w16⟩, F17⟩ := fit_cons F16
  obtain ⟨_, l17, rfl, ⟨a17, rfl, w17⟩, F18⟩ := fit_cons F17
  obtain rfl := fit_nil F18
  obtain ⟨_, _, h3⟩ := trod_field Try.underlying137 h 3 133 12 1 (by rfl) (by kernel_rfl)
  obtain ⟨q12', c12', s12, e12, b12, m12, p12⟩ := trod_list Try.underlying133 (k := 5) (by kernel_rfl) (by omega) h3 pt_len (φ := fun _ : Pt => True) (fun g ec y h => open_Pt h)
  have e12' : [Value.slice q12 n12 c12] = [Value.slice q12' s12.length c12'] := e12
  injection e12' with e12' _
  injection e12' with f12 g12 k12
  subst f12; subst g12; subst k12
  obtain ⟨_, _, h5⟩ := trod_field Try.underlying137 h 5 135 15 1 (by rfl) (by kernel_rfl)
  obtain ⟨q15', c15', s15, e15, b15, m15, p15⟩ := trod_list Try.underlying135 (k := 3) (by kernel_rfl) (by omega) h5 wr_len (φ := fun _ : Wr => True) (fun g ec y h => open_Wr h)
  have e15' : [Value.slice q15 n15 c15] = [Value.slice q15' s15.length c15'] := e15
  injection e15' with e15' _
  injection e15' with f15 g15 k15
  subst f15; subst g15; subst k15
  exact ⟨⟨a0, ⟨a1, a2, a3, a4, a5, a6, a7, a8, a9, a10⟩, a11, (q12, c12), s12, a13, a14, (q15, c15), s15, a16, a17⟩, rfl, ⟨m12, m15⟩⟩
theorem open_Av (h : DataW.trod enc Try.prog W 0 sp true fuel 40 cs = some x) : ∃ a : Av, cs = a.row ∧ (AvM (memOf W) a ∧ AvW a) := by
  have F := fit_of_trod 60 fuel 40 _ _ (by kernel_rfl) h
  have E : cellTys Try.prog 60 40 = [.int .i64, .int .u64, .int .u8, .int .u16, .slice, .slice, .slice, .bool] := by kernel_rfl
  rw [E] at F
  obtain ⟨_, l0, rfl, ⟨a0, rfl, w0⟩, F1⟩ := fit_cons F
  obtain ⟨_, l1, rfl, ⟨a1, rfl, w1⟩, F2⟩ := fit_cons F1
  obtain ⟨_, l2, rfl, ⟨a2, rfl, w2⟩, F3⟩ := fit_cons F2
  obtain ⟨_, l3, rfl, ⟨a3, rfl, w3⟩, F4⟩ := fit_cons F3
  obtain ⟨_, l4, rfl, ⟨q4, n4, c4, rfl, w4, z4⟩, F5⟩ := fit_cons F4
  obtain ⟨_, l5, rfl, ⟨q5, n5, c5, rfl, w5, z5⟩, F6⟩ := fit_cons F5
  obtain ⟨_, l6, rfl, ⟨q6, n6, c6, rfl, w6, z6⟩, F7⟩ := fit_cons F6
  obtain ⟨_, l7, rfl, ⟨a7, rfl⟩, F8⟩ := fit_cons F7
  obtain rfl := fit_nil F8
  obtain ⟨_, _, h3⟩ := trod_field Try.underlying40 h 3 31 4 1 (by rfl) (by kernel_rfl)
  obtain ⟨q4', c4', s4, e4, b4, m4, p4⟩ := trod_list Try.underlying31 (k := 18) (by kernel_rfl) (by omega) h3 en_len (φ := EnM0 (memOf W)) (fun g ec y h => open_En h)
  have e4' : [Value.slice q4 n4 c4] = [Value.slice q4' s4.length c4'] := e4
  injection e4' with e4' _
  injection e4' with f4 g4 k4
  subst f4; subst g4; subst k4
  obtain ⟨_, _, h4⟩ := trod_field Try.underlying40 h 4 33 5 2 (by rfl) (by kernel_rfl)
  obtain ⟨_, _, h4_0⟩ := trod_field Try.underlying33 h4 0 30 0 1 (by rfl) (by kernel_rfl)
  obtain ⟨q5', c5', s5, e5, b5, m5, p5⟩ := trod_list Try.underlying30 (k := 2) (by kernel_rfl) (by omega) h4_0 pr_len (φ := PrW) (fun g ec y h => open_Pr h)
  have e5' : [Value.slice q5 n5 c5] = [Value.slice q5' s5.length c5'] := e5
  injection e5' with e5' _
  injection e5' with f5 g5 k5
  subst f5; subst g5; subst k5
  obtain ⟨_, _, h4_1⟩ := trod_field Try.underlying33 h4 1 31 1 1 (by rfl) (by kernel_rfl)
  obtain ⟨q6', c6', s6, e6, b6, m6, p6⟩ := trod_list Try.underlying31 (k := 18) (by kernel_rfl) (by omega) h4_1 en_len (φ := EnM0 (memOf W)) (fun g ec y h => open_En h)
  have e6' : [Value.slice q6 n6 c6] = [Value.slice q6' s6.length c6'] := e6
  injection e6' with e6' _
  injection e6' with f6 g6 k6
  subst f6; subst g6; subst k6
  exact ⟨⟨a0, a1, ⟨a2, a3⟩, (q4, c4), s4, ⟨(q5, c5), s5, (q6, c6), s6⟩, a7⟩, rfl, ⟨⟨m4, p4⟩, m5, ⟨m6, p6⟩⟩, wf_u64 w1, ⟨wf_u8 w2, wf_u16 w3⟩, p5⟩
end
end Go.Proofs.Ytkkhkkfnbohnaaa
