import Derived.Test.YtdlfcgkjjlkmgaaU15m6
import Derived.Test.YtdlfcgkjjlkmgaaXSized
import Derived.Test.YtdlfcgkjjlkmgaaRows
import Derived.Test.YtdlfcgkjjlkmgaaChecked
set_option linter.unusedVariables false
set_option maxRecDepth 100000
/- PROVED: gemotlaw15.ContPlays: for every group, every number of continuations that are in before, and every list of acts, a table does and tells what the document says, call by call: the law returns true; its inputs read as they did. Conditions: none. -/
namespace Go.Proofs.Ytdlfcgkjjlkmgaa
open Go X RowKit Go.ChangeShapes Go.WideShapes Go.ChangeAt Go.Proofs
theorem own : ownKnob Try.prog.godebug = none := by kernel_rfl
section
variable {H : Type} {enc : TypeId × Value → H} {W : World} {sp : Nat → Bool} {fuel : Nat} {cs : List Value} {x : DataW H × List MemPlace}
theorem wf_u8 {n : Int} (h : (Lit.int .u8 n).wf = true) : 0 ≤ n ∧ n < 256 := by
  simp [Lit.wf, IntKind.min, IntKind.max, IntKind.bits, IntKind.signed] at h; omega
theorem wf_u16 {n : Int} (h : (Lit.int .u16 n).wf = true) : 0 ≤ n ∧ n < 65536 := by
  simp [Lit.wf, IntKind.min, IntKind.max, IntKind.bits, IntKind.signed] at h; omega
theorem wf_u32 {n : Int} (h : (Lit.int .u32 n).wf = true) : 0 ≤ n ∧ n < 4294967296 := by
  simp [Lit.wf, IntKind.min, IntKind.max, IntKind.bits, IntKind.signed] at h; omega
theorem open_Pt (h : DataW.trod enc Try.prog W 0 sp true fuel 35 cs = some x) : ∃ a : Pt, cs = a.row ∧ 0 ≤ a.k := by
  have F := fit_of_trod 60 fuel 35 _ _ (by kernel_rfl) h
  have E : cellTys Try.prog 60 35 = [.int .u8, .int .u8, .str, .str, .int .i64] := by kernel_rfl
  rw [E] at F
  obtain ⟨_, l0, rfl, ⟨a0, rfl, w0⟩, F1⟩ := fit_cons F
  obtain ⟨_, l1, rfl, ⟨a1, rfl, w1⟩, F2⟩ := fit_cons F1
  obtain ⟨_, l2, rfl, ⟨a2, rfl, w2⟩, F3⟩ := fit_cons F2
  obtain ⟨_, l3, rfl, ⟨a3, rfl, w3⟩, F4⟩ := fit_cons F3
  obtain ⟨_, l4, rfl, ⟨a4, rfl, w4⟩, F5⟩ := fit_cons F4
  obtain rfl := fit_nil F5
  exact ⟨⟨a0, a1, a2, a3, a4⟩, rfl, (wf_u8 w1).1⟩
theorem open_Ac (h : DataW.trod enc Try.prog W 0 sp true fuel 44 cs = some x) (hs : Small Try.prog 44 x.1) : ∃ a : Ac, cs = a.row ∧ (CtM (memOf W) a.c ∧ CtIn a.c) := by
  have F := fit_of_trod 60 fuel 44 _ _ (by kernel_rfl) h
  have E : cellTys Try.prog 60 44 = [.int .i64, .int .u8, .int .u16, .int .u32, .int .u8, .int .u8, .int .u8, .int .u8, .int .u8, .int .u8, .int .u8, .int .u8, .int .u8, .str, .str, .int .i64, .slice, .int .u8, .str, .str, .str, .bool, .int .u32, .int .u8, .int .u16, .int .u32, .int .u8, .int .u8, .int .u8, .int .u8, .int .u8, .int .u8, .int .u8] := by kernel_rfl
  rw [E] at F
  obtain ⟨_, l0, rfl, ⟨a0, rfl, w0⟩, F1⟩ := fit_cons F
  obtain ⟨_, l1, rfl, ⟨a1, rfl, w1⟩, F2⟩ := fit_cons F1
  obtain ⟨_, l2, rfl, ⟨a2, rfl, w2⟩, F3⟩ := fit_cons F2
  obtain ⟨_, l3, rfl, ⟨a3, rfl, w3⟩, F4⟩ := fit_cons F3
  obtain ⟨_, l4, rfl, ⟨a4, rfl, w4⟩, F5⟩ := fit_cons F4
  obtain ⟨_, l5, rfl, ⟨a5, rfl, w5⟩, F6⟩ := fit_cons F5
  obtain ⟨_, l6, rfl, ⟨a6, rfl, w6⟩, F7⟩ := fit_cons F6
  obtain ⟨_, l7, rfl, ⟨a7, rfl, w7⟩, F8⟩ := fit_cons F7
  obtain ⟨_, l8, rfl, ⟨a8, rfl, w8⟩, F9⟩ := fit_cons F8
  obtain ⟨_, l9, rfl, ⟨a9, rfl, w9⟩, F10⟩ := fit_cons F9
  obtain ⟨_, l10, rfl, ⟨a10, rfl, w10⟩, F11⟩ := fit_cons F10
  obtain ⟨_, l11, rfl, ⟨a11, rfl, w11⟩, F12⟩ := fit_cons F11
  obtain ⟨_, l12, rfl, ⟨a12, rfl, w12⟩, F13⟩ := fit_cons F12
  obtain ⟨_, l13, rfl, ⟨a13, rfl, w13⟩, F14⟩ := fit_cons F13
  obtain ⟨_, l14, rfl, ⟨a14, rfl, w14⟩, F15⟩ := fit_cons F14
  obtain ⟨_, l15, rfl, ⟨a15, rfl, w15⟩, F16⟩ := fit_cons F15
  obtain ⟨_, l16, rfl, ⟨q16, n16, c16, rfl, w16, z16⟩, F17⟩ := fit_cons F16
  obtain ⟨_, l17, rfl, ⟨a17, rfl, w17⟩, F18⟩ := fit_cons F17
  obtain ⟨_, l18, rfl, ⟨a18, rfl, w18⟩, F19⟩ := fit_cons F18
  obtain ⟨_, l19, rfl, ⟨a19, rfl, w19⟩, F20⟩ := fit_cons F19
  obtain ⟨_, l20, rfl, ⟨a20, rfl, w20⟩, F21⟩ := fit_cons F20
  obtain ⟨_, l21, rfl, ⟨a21, rfl⟩, F22⟩ := fit_cons F21
  obtain ⟨_, l22, rfl, ⟨a22, rfl, w22⟩, F23⟩ := fit_cons F22
  obtain ⟨_, l23, rfl, ⟨a23, rfl, w23⟩, F24⟩ := fit_cons F23
  obtain ⟨_, l24, rfl, ⟨a24, rfl, w24⟩, F25⟩ := fit_cons F24
  obtain ⟨_, l25, rfl, ⟨a25, rfl, w25⟩, F26⟩ := fit_cons F25
  obtain ⟨_, l26, rfl, ⟨a26, rfl, w26⟩, F27⟩ := fit_cons F26
  obtain ⟨_, l27, rfl, ⟨a27, rfl, w27⟩, F28⟩ := fit_cons F27
  obtain ⟨_, l28, rfl, ⟨a28, rfl, w28⟩, F29⟩ := fit_cons F28
  obtain ⟨_, l29, rfl, ⟨a29, rfl, w29⟩, F30⟩ := fit_cons F29
  obtain ⟨_, l30, rfl, ⟨a30, rfl, w30⟩, F31⟩ := fit_cons F30
  obtain ⟨_, l31, rfl, ⟨a31, rfl, w31⟩, F32⟩ := fit_cons F31
  obtain ⟨_, l32, rfl, ⟨a32, rfl, w32⟩, F33⟩ := fit_cons F32
  obtain rfl := fit_nil F33
  obtain ⟨_, _, h1, h1s⟩ := trod_fieldS Try.underlying44 h hs 1 42 1 22 (by rfl) (by kernel_rfl)
  obtain ⟨_, _, h1_2, h1_2s⟩ := trod_fieldS Try.underlying42 h1 h1s 2 36 15 1 (by rfl) (by kernel_rfl)
  obtain ⟨q16', c16', s16, e16, b16, m16, p16⟩ := trod_listS Try.underlying36 (k := 5) (by kernel_rfl) (by omega) h1_2 h1_2s (B := 48) (by kernel_rfl) pt_len (φ := fun a : Pt => 0 ≤ a.k) (fun g ec y h hs => open_Pt h)
  have e16' : [Value.slice q16 n16 c16] = [Value.slice q16' s16.length c16'] := e16
  injection e16' with e16' _
  injection e16' with f16 g16 k16
  subst f16; subst g16; subst k16
  exact ⟨⟨a0, ⟨⟨⟨a1, a2, a3, a4, a5, a6, a7, a8, a9, a10⟩, ⟨wf_u8 w1, wf_u16 w2, wf_u32 w3, wf_u8 w4, wf_u8 w5, wf_u8 w6, wf_u8 w7, wf_u8 w8, wf_u8 w9, wf_u8 w10⟩⟩, ⟨a11, a12, a13, a14, a15⟩, (q16, c16), s16, a17, a18, a19, a20, a21, a22⟩, ⟨⟨a23, a24, a25, a26, a27, a28, a29, a30, a31, a32⟩, ⟨wf_u8 w23, wf_u16 w24, wf_u32 w25, wf_u8 w26, wf_u8 w27, wf_u8 w28, wf_u8 w29, wf_u8 w30, wf_u8 w31, wf_u8 w32⟩⟩⟩, rfl, ⟨⟨m16, by have := b16.2; have := reach_lt; show s16.length * 48 ≤ _; omega⟩, (wf_u8 w12).1, p16⟩⟩
end
theorem lifted3 (os : Os) (started : os.Started) (H : Type) (enc : TypeId × Value → H) :
    ReturnsInHanded {} Try.checked os 3 .any (Rows.contPlaysSpec.pre6 enc Try.prog Try.f3 Rows.contPlaysRow.domain false) (Rows.contPlaysSpec.post enc Try.prog Try.f3 false true false false) := by
  refine returnsInHanded_of_change_sized (C := Try.checked) own started (by kernel_rfl) Try.func3
    (ChangeSpec.witness6 (enc := enc) (C := Try.checked) false ⟨#[], #[.int .u8 0, .int .i64 0, .slice none 0 0], []⟩ 8 (by kernel_rfl) (by kernel_rfl) (by kernel_rfl) (by kernel_rfl)) ?_
  intro W base args ds gs before hval0 hW hcnd hsz0 _
  have hval : ∀ (j : Nat) t v, Try.f3.params[j]? = some t → args[j]? = some v → Value.okWide Try.prog W .any base t v := hval0
  have hsz : (DataW.weightsEach Try.prog (Try.f3.params.toList ++ Rows.contPlaysSpec.plain.varTypes Try.prog) (ds ++ gs)).all (· ≤ reachBytes) = true := hsz0
  have hW' := hW
  obtain ⟨p, q, hA0, hV, rfl, hfz, hnd⟩ := hW
  have hA : DataW.TrodAll enc Try.prog W 0 (fun _ => true) true Try.f3.params.toList args.toList ds p := hA0
  rw [Try.params3] at hA hval hsz
  obtain ⟨v0, vs0, d0, ds0, p0, q0, hargs, rfl, rfl, h0, r0⟩ := trodAll_cons hA
  obtain ⟨v1, vs1, d1, ds1, p1, q1, rfl, rfl, rfl, h1, r1⟩ := trodAll_cons r0
  obtain ⟨v2, vs2, d2, ds2, p2, q2, rfl, rfl, rfl, h2, r2⟩ := trodAll_cons r1
  obtain ⟨rfl, rfl, rfl⟩ := trodAll_nil r2
  obtain rfl : args = #[v0, v1, v2] := by cases args; simp_all
  obtain ⟨rfl, rfl⟩ := trodVars_none hV
  obtain ⟨g, rfl, rfl, rfl, wg⟩ := open_int Try.underlying5 (hval 0 5 v0 rfl rfl) h0
  obtain ⟨k, rfl, rfl, rfl, wk⟩ := open_int Try.underlying3 (hval 1 3 v1 rfl rfl) h1
  obtain ⟨q', n', c', rfl⟩ := okWide_slice Try.underlying22 (hval 2 22 v2 rfl rfl)
  obtain ⟨n, hn⟩ := h2
  obtain ⟨qa, ca, l, hcs, hl, hm, hok⟩ := trod_listS Try.underlying22 (k := 33) (by kernel_rfl) (by omega) hn (small_each hsz (j := 2) rfl rfl) (B := 184) (by kernel_rfl) ac_len (φ := fun a : Ac => CtM (memOf W) a.c ∧ CtIn a.c) (fun g ec y h hs => open_Ac h hs)
  have hcs' : [Value.slice q' n' c'] = [.slice qa l.length ca] := hcs
  injection hcs' with hcs' _
  rw [hcs'] at hW' ⊢
  refine (l_ContPlays W g (wf_u8 wg) k qa ca l hm hok).mono fun e W' ⟨he, hg⟩ => ?_
  subst he
  exact ⟨_, rfl, post_law (by kernel_rfl) rfl hW' rfl rfl rfl hg⟩
theorem contPlays_proved : Rows.ContPlaysSaid :=
  OpenClaim.holds_of_wide 3 Try.f3 rfl rfl rfl rfl rfl rfl rfl ⟨rfl, rfl, rfl, rfl, rfl⟩ rfl rfl rfl rfl rfl (by kernel_rfl) Try.func3 (by kernel_rfl)
    (of_decide_eq_true (by kernel_rfl)) (by unfold Func.isWrapper; first | (rw [if_pos (by decide +kernel)]; kernel_rfl) | (rw [if_neg (by decide +kernel)]; exact ⟨rfl, rfl⟩))
    (fun os started H enc _ => lifted3 os started H enc)
#print axioms contPlays_proved
end Go.Proofs.Ytdlfcgkjjlkmgaa
