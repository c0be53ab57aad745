import Derived.Test.YtjabbpcfinjofaaU23j
import Derived.Test.YtjabbpcfinjofaaXSized
import Derived.Test.YtjabbpcfinjofaaRows
import Derived.Test.YtjabbpcfinjofaaChecked
set_option linter.unusedVariables false
set_option maxRecDepth 100000
namespace Go.Proofs.Ytjabbpcfinjofaa
open Go X RowKit Go.ChangeShapes Go.WideShapes Go.ChangeAt Go.Proofs
theorem own : ownKnob Try.prog.godebug = none := by kernel_rfl
structure AcW (a : Ac) : Prop where
  at_ : -9223372036854775808 ≤ a.at_ ∧ a.at_ < 9223372036854775808
  g : 0 ≤ a.g ∧ a.g < 256
  bl : a.b.ps.length * 48 ≤ reachBytes
section
variable {H : Type} {enc : TypeId × Value → H} {W : World} {sp : Nat → Bool} {fuel : Nat} {cs : List Value} {x : DataW H × List MemPlace}
theorem open_Pt (h : DataW.trod enc Try.prog W 0 sp true fuel 150 cs = some x) : ∃ a : Pt, cs = a.row ∧ True := by
  have F := fit_of_trod 60 fuel 150 _ _ (by kernel_rfl) h
  have E : cellTys Try.prog 60 150 = [.int .u8, .int .u8, .str, .str, .int .i64] := by kernel_rfl
  rw [E] at F
  obtain ⟨_, l0, rfl, ⟨a0, rfl, w0⟩, F1⟩ := fit_cons F
  obtain ⟨_, l1, rfl, ⟨a1, rfl, w1⟩, F2⟩ := fit_cons F1
  obtain ⟨_, l2, rfl, ⟨a2, rfl, w2⟩, F3⟩ := fit_cons F2
  obtain ⟨_, l3, rfl, ⟨a3, rfl, w3⟩, F4⟩ := fit_cons F3
  obtain ⟨_, l4, rfl, ⟨a4, rfl, w4⟩, F5⟩ := fit_cons F4
  obtain rfl := fit_nil F5
  exact ⟨⟨a0, a1, a2, a3, a4⟩, rfl, trivial⟩
theorem open_Pr (h : DataW.trod enc Try.prog W 0 sp true fuel 29 cs = some x) : ∃ a : Pr, cs = a.row ∧ True := by
  have F := fit_of_trod 60 fuel 29 _ _ (by kernel_rfl) h
  have E : cellTys Try.prog 60 29 = [.int .u8, .int .u16] := by kernel_rfl
  rw [E] at F
  obtain ⟨_, l0, rfl, ⟨a0, rfl, w0⟩, F1⟩ := fit_cons F
  obtain ⟨_, l1, rfl, ⟨a1, rfl, w1⟩, F2⟩ := fit_cons F1
  obtain rfl := fit_nil F2
  exact ⟨⟨a0, a1⟩, rfl, trivial⟩
theorem open_Wr (h : DataW.trod enc Try.prog W 0 sp true fuel 152 cs = some x) : ∃ a : Wr, cs = a.row ∧ True := by
  have F := fit_of_trod 60 fuel 152 _ _ (by kernel_rfl) h
  have E : cellTys Try.prog 60 152 = [.str, .str, .bool] := by kernel_rfl
  rw [E] at F
  obtain ⟨_, l0, rfl, ⟨a0, rfl, w0⟩, F1⟩ := fit_cons F
  obtain ⟨_, l1, rfl, ⟨a1, rfl, w1⟩, F2⟩ := fit_cons F1
  obtain ⟨_, l2, rfl, ⟨a2, rfl⟩, F3⟩ := fit_cons F2
  obtain rfl := fit_nil F3
  exact ⟨⟨a0, a1, a2⟩, rfl, trivial⟩
theorem open_Ac (h : DataW.trod enc Try.prog W 0 sp true fuel 54 cs = some x) (hs : Small Try.prog 54 x.1) : ∃ a : Ac, cs = a.row ∧ (AcM (memOf W) a ∧ AcW a) := by
  have F := fit_of_trod 60 fuel 54 _ _ (by kernel_rfl) h
  have E : cellTys Try.prog 60 54 = [.int .i64, .int .i64, .int .u8, .int .u8, .int .u16, .int .u32, .int .u8, .int .u8, .int .u8, .int .u8, .int .u8, .int .u8, .int .u8, .int .u8, .int .i64, .int .i64, .slice, .int .u8, .int .u16, .int .u32, .int .u8, .int .u8, .int .u8, .int .u8, .int .u8, .int .u8, .int .u8, .int .u8, .int .i64, .int .i64, .int .i64, .int .i64, .int .u8, .str, .int .u8, .int .u16, .int .u8, .int .u16, .int .u32, .int .u8, .int .u8, .int .u8, .int .u8, .int .u8, .int .u8, .int .u8, .int .u8, .str, .int .u8, .int .u32, .slice, .int .u8, .int .u16, .int .u8, .int .u32, .slice, .int .u8, .int .u8, .int .u16, .int .u32, .int .u8, .int .u8, .int .u8, .int .u8, .int .u8, .int .u8, .int .u8, .int .u32, .slice, .int .u8, .str, .slice, .int .u8, .int .u16] := by kernel_rfl
  rw [E] at F
  obtain ⟨_, l0, rfl, ⟨a0, rfl, w0⟩, F1⟩ := fit_cons F
  obtain ⟨_, l1, rfl, ⟨a1, rfl, w1⟩, F2⟩ := fit_cons F1
  obtain ⟨_, l2, rfl, ⟨a2, rfl, w2⟩, F3⟩ := fit_cons F2
  obtain ⟨_, l3, rfl, ⟨a3, rfl, w3⟩, F4⟩ := fit_cons F3
  obtain ⟨_, l4, rfl, ⟨a4, rfl, w4⟩, F5⟩ := fit_cons F4
  obtain ⟨_, l5, rfl, ⟨a5, rfl, w5⟩, F6⟩ := fit_cons F5
  obtain ⟨_, l6, rfl, ⟨a6, rfl, w6⟩, F7⟩ := fit_cons F6
  obtain ⟨_, l7, rfl, ⟨a7, rfl, w7⟩, F8⟩ := fit_cons F7
  obtain ⟨_, l8, rfl, ⟨a8, rfl, w8⟩, F9⟩ := fit_cons F8
  obtain ⟨_, l9, rfl, ⟨a9, rfl, w9⟩, F10⟩ := fit_cons F9
  obtain ⟨_, l10, rfl, ⟨a10, rfl, w10⟩, F11⟩ := fit_cons F10
  obtain ⟨_, l11, rfl, ⟨a11, rfl, w11⟩, F12⟩ := fit_cons F11
  obtain ⟨_, l12, rfl, ⟨a12, rfl, w12⟩, F13⟩ := fit_cons F12
  obtain ⟨_, l13, rfl, ⟨a13, rfl, w13⟩, F14⟩ := fit_cons F13
  obtain ⟨_, l14, rfl, ⟨a14, rfl, w14⟩, F15⟩ := fit_cons F14
  obtain ⟨_, l15, rfl, ⟨a15, rfl, w15⟩, F16⟩ := fit_cons F15
  obtain ⟨_, l16, rfl, ⟨q16, n16, c16, rfl, w16, z16⟩, F17⟩ := fit_cons F16
  obtain ⟨_, l17, rfl, ⟨a17, rfl, w17⟩, F18⟩ := fit_cons F17
  obtain ⟨_, l18, rfl, ⟨a18, rfl, w18⟩, F19⟩ := fit_cons F18
  obtain ⟨_, l19, rfl, ⟨a19, rfl, w19⟩, F20⟩ := fit_cons F19
  obtain ⟨_, l20, rfl, ⟨a20, rfl, w20⟩, F21⟩ := fit_cons F20
  obtain ⟨_, l21, rfl, ⟨a21, rfl, w21⟩, F22⟩ := fit_cons F21
  obtain ⟨_, l22, rfl, ⟨a22, rfl, w22⟩, F23⟩ := fit_cons F22
  obtain ⟨_, l23, rfl, ⟨a23, rfl, w23⟩, F24⟩ := fit_cons F23
  obtain ⟨_, l24, rfl, ⟨a24, rfl, w24⟩, F25⟩ := fit_cons F24
  obtain ⟨_, l25, rfl, ⟨a25, rfl, w25⟩, F26⟩ := fit_cons F25
  obtain ⟨_, l26, rfl, ⟨a26, rfl, w26⟩, F27⟩ := fit_cons F26
  obtain ⟨_, l27, rfl, ⟨a27, rfl, w27⟩, F28⟩ := fit_cons F27
  obtain ⟨_, l28, rfl, ⟨a28, rfl, w28⟩, F29⟩ := fit_cons F28
  obtain ⟨_, l29, rfl, ⟨a29, rfl, w29⟩, F30⟩ := fit_cons F29
  obtain ⟨_, l30, rfl, ⟨a30, rfl, w30⟩, F31⟩ := fit_cons F30
  obtain ⟨_, l31, rfl, ⟨a31, rfl, w31⟩, F32⟩ := fit_cons F31
  obtain ⟨_, l32, rfl, ⟨a32, rfl, w32⟩, F33⟩ := fit_cons F32
  obtain ⟨_, l33, rfl, ⟨a33, rfl, w33⟩, F34⟩ := fit_cons F33
  obtain ⟨_, l34, rfl, ⟨a34, rfl, w34⟩, F35⟩ := fit_cons F34
  obtain ⟨_, l35, rfl, ⟨a35, rfl, w35⟩, F36⟩ := fit_cons F35
  obtain ⟨_, l36, rfl, ⟨a36, rfl, w36⟩, F37⟩ := fit_cons F36
  obtain ⟨_, l37, rfl, ⟨a37, rfl, w37⟩, F38⟩ := fit_cons F37
  obtain ⟨_, l38, rfl, ⟨a38, rfl, w38⟩, F39⟩ := fit_cons F38
  obtain ⟨_, l39, rfl, ⟨a39, rfl, w39⟩, F40⟩ := fit_cons F39
  obtain ⟨_, l40, rfl, ⟨a40, rfl, w40⟩, F41⟩ := fit_cons F40
  obtain ⟨_, l41, rfl, ⟨a41, rfl, w41⟩, F42⟩ := fit_cons F41
  obtain ⟨_, l42, rfl, ⟨a42, rfl, w42⟩, F43⟩ := fit_cons F42
  obtain ⟨_, l43, rfl, ⟨a43, rfl, w43⟩, F44⟩ := fit_cons F43
  obtain ⟨_, l44, rfl, ⟨a44, rfl, w44⟩, F45⟩ := fit_cons F44
  obtain ⟨_, l45, rfl, ⟨a45, rfl, w45⟩, F46⟩ := fit_cons F45
  obtain ⟨_, l46, rfl, ⟨a46, rfl, w46⟩, F47⟩ := fit_cons F46
  obtain ⟨_, l47, rfl, ⟨a47, rfl, w47⟩, F48⟩ := fit_cons F47
  obtain ⟨_, l48, rfl, ⟨a48, rfl, w48⟩, F49⟩ := fit_cons F48
  obtain ⟨_, l49, rfl, ⟨a49, rfl, w49⟩, F50⟩ := fit_cons F49
  obtain ⟨_, l50, rfl, ⟨q50, n50, c50, rfl, w50, z50⟩, F51⟩ := fit_cons F50
  obtain ⟨_, l51, rfl, ⟨a51, rfl, w51⟩, F52⟩ := fit_cons F51
  obtain ⟨_, l52, rfl, ⟨a52, rfl, w52⟩, F53⟩ := fit_cons F52
  obtain ⟨_, l53, rfl, ⟨a53, rfl, w53⟩, F54⟩ := fit_cons F53
  obtain ⟨_, l54, rfl, ⟨a54, rfl, w54⟩, F55⟩ := fit_cons F54
  obtain ⟨_, l55, rfl, ⟨q55, n55, c55, rfl, w55, z55⟩, F56⟩ := fit_cons F55
  obtain ⟨_, l56, rfl, ⟨a56, rfl, w56⟩, F57⟩ := fit_cons F56
  obtain ⟨_, l57, rfl, ⟨a57, rfl, w57⟩, F58⟩ := fit_cons F57
  obtain ⟨_, l58, rfl, ⟨a58, rfl, w58⟩, F59⟩ := fit_cons F58
  obtain ⟨_, l59, rfl, ⟨a59, rfl, w59⟩, F60⟩ := fit_cons F59
  obtain ⟨_, l60, rfl, ⟨a60, rfl, w60⟩, F61⟩ := fit_cons F60
  obtain ⟨_, l61, rfl, ⟨a61, rfl, w61⟩, F62⟩ := fit_cons F61
  obtain ⟨_, l62, rfl, ⟨a62, rfl, w62⟩, F63⟩ := fit_cons F62
  obtain ⟨_, l63, rfl, ⟨a63, rfl, w63⟩, F64⟩ := fit_cons F63
  obtain ⟨_, l64, rfl, ⟨a64, rfl, w64⟩, F65⟩ := fit_cons F64
  obtain ⟨_, l65, rfl, ⟨a65, rfl, w65⟩, F66⟩ := fit_cons F65
  obtain ⟨_, l66, rfl, ⟨a66, rfl, w66⟩, F67⟩ := fit_cons F66
  obtain ⟨_, l67, rfl, ⟨a67, rfl, w67⟩, F68⟩ := fit_cons F67
  obtain ⟨_, l68, rfl, ⟨q68, n68, c68, rfl, w68, z68⟩, F69⟩ := fit_cons F68
  obtain ⟨_, l69, rfl, ⟨a69, rfl, w69⟩, F70⟩ := fit_cons F69
  obtain ⟨_, l70, rfl, ⟨a70, rfl, w70⟩, F71⟩ := fit_cons F70
  obtain ⟨_, l71, rfl, ⟨q71, n71, c71, rfl, w71, z71⟩, F72⟩ := fit_cons F71
  obtain ⟨_, l72, rfl, ⟨a72, rfl, w72⟩, F73⟩ := fit_cons F72
  obtain ⟨_, l73, rfl, ⟨a73, rfl, w73⟩, F74⟩ := fit_cons F73
  obtain rfl := fit_nil F74
  obtain ⟨_, _, h3, h3s⟩ := trod_fieldS Try.underlying54 h hs 3 38 3 14 (by rfl) (by kernel_rfl)
  obtain ⟨_, _, h3_4, h3_4s⟩ := trod_fieldS Try.underlying38 h3 h3s 4 36 13 1 (by rfl) (by kernel_rfl)
  obtain ⟨q16', c16', s16, e16, b16, m16, p16⟩ := trod_listS Try.underlying36 (k := 5) (by kernel_rfl) (by omega) h3_4 h3_4s (B := 48) (by kernel_rfl) pt_len (φ := fun _ : Pt => True) (fun g ec y h hs => open_Pt h)
  have e16' : [Value.slice q16 n16 c16] = [Value.slice q16' s16.length c16'] := e16
  injection e16' with e16' _
  injection e16' with f16 g16 k16
  subst f16; subst g16; subst k16
  obtain ⟨_, _, h5, h5s⟩ := trod_fieldS Try.underlying54 h hs 5 47 34 17 (by rfl) (by kernel_rfl)
  obtain ⟨_, _, h5_3, h5_3s⟩ := trod_fieldS Try.underlying47 h5 h5s 3 45 14 3 (by rfl) (by kernel_rfl)
  obtain ⟨_, _, h5_3_2, h5_3_2s⟩ := trod_fieldS Try.underlying45 h5_3 h5_3s 2 43 2 1 (by rfl) (by kernel_rfl)
  obtain ⟨q50', c50', s50, e50, b50, m50, p50⟩ := trod_listS Try.underlying43 (k := 2) (by kernel_rfl) (by omega) h5_3_2 h5_3_2s (B := 4) (by kernel_rfl) pr_len (φ := fun _ : Pr => True) (fun g ec y h hs => open_Pr h)
  have e50' : [Value.slice q50 n50 c50] = [Value.slice q50' s50.length c50'] := e50
  injection e50' with e50' _
  injection e50' with f50 g50 k50
  subst f50; subst g50; subst k50
  obtain ⟨_, _, h6, h6s⟩ := trod_fieldS Try.underlying54 h hs 6 49 51 5 (by rfl) (by kernel_rfl)
  obtain ⟨_, _, h6_1, h6_1s⟩ := trod_fieldS Try.underlying49 h6 h6s 1 45 2 3 (by rfl) (by kernel_rfl)
  obtain ⟨_, _, h6_1_2, h6_1_2s⟩ := trod_fieldS Try.underlying45 h6_1 h6_1s 2 43 2 1 (by rfl) (by kernel_rfl)
  obtain ⟨q55', c55', s55, e55, b55, m55, p55⟩ := trod_listS Try.underlying43 (k := 2) (by kernel_rfl) (by omega) h6_1_2 h6_1_2s (B := 4) (by kernel_rfl) pr_len (φ := fun _ : Pr => True) (fun g ec y h hs => open_Pr h)
  have e55' : [Value.slice q55 n55 c55] = [Value.slice q55' s55.length c55'] := e55
  injection e55' with e55' _
  injection e55' with f55 g55 k55
  subst f55; subst g55; subst k55
  obtain ⟨_, _, h7, h7s⟩ := trod_fieldS Try.underlying54 h hs 7 52 56 18 (by rfl) (by kernel_rfl)
  obtain ⟨_, _, h7_3, h7_3s⟩ := trod_fieldS Try.underlying52 h7 h7s 3 36 12 1 (by rfl) (by kernel_rfl)
  obtain ⟨q68', c68', s68, e68, b68, m68, p68⟩ := trod_listS Try.underlying36 (k := 5) (by kernel_rfl) (by omega) h7_3 h7_3s (B := 48) (by kernel_rfl) pt_len (φ := fun _ : Pt => True) (fun g ec y h hs => open_Pt h)
  have e68' : [Value.slice q68 n68 c68] = [Value.slice q68' s68.length c68'] := e68
  injection e68' with e68' _
  injection e68' with f68 g68 k68
  subst f68; subst g68; subst k68
  obtain ⟨_, _, h7_5, h7_5s⟩ := trod_fieldS Try.underlying52 h7 h7s 5 50 15 1 (by rfl) (by kernel_rfl)
  obtain ⟨q71', c71', s71, e71, b71, m71, p71⟩ := trod_listS Try.underlying50 (k := 3) (by kernel_rfl) (by omega) h7_5 h7_5s (B := 40) (by kernel_rfl) wr_len (φ := fun _ : Wr => True) (fun g ec y h hs => open_Wr h)
  have e71' : [Value.slice q71 n71 c71] = [Value.slice q71' s71.length c71'] := e71
  injection e71' with e71' _
  injection e71' with f71 g71 k71
  subst f71; subst g71; subst k71
  exact ⟨⟨a0, a1, a2, ⟨⟨a3, a4, a5, a6, a7, a8, a9, a10, a11, a12⟩, a13, a14, a15, (q16, c16), s16⟩, ⟨⟨a17, a18, a19, a20, a21, a22, a23, a24, a25, a26⟩, a27, a28, a29, a30, a31, a32, a33⟩, ⟨⟨a34, a35⟩, ⟨a36, a37, a38, a39, a40, a41, a42, a43, a44, a45⟩, a46, a47, ⟨a48, a49, (q50, c50), s50⟩⟩, ⟨⟨a51, a52⟩, ⟨a53, a54, (q55, c55), s55⟩⟩, ⟨a56, ⟨a57, a58, a59, a60, a61, a62, a63, a64, a65, a66⟩, a67, (q68, c68), s68, a69, a70, (q71, c71), s71, a72, a73⟩⟩, rfl, ⟨m16, m50, m55, ⟨m68, m71⟩⟩, wf_i64 w1, wf_u8 w2, b16.2⟩
end
end Go.Proofs.Ytjabbpcfinjofaa
