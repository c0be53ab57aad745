import Derived.Test.YtamnhlkaknjcaaaU09m
import Derived.Test.YtamnhlkaknjcaaaXElems
import Derived.Test.YtamnhlkaknjcaaaRows
import Derived.Test.YtamnhlkaknjcaaaChecked
set_option linter.unusedVariables false
set_option maxRecDepth 100000
namespace Go.Proofs.Ytamnhlkaknjcaaa
open Go X RowKit Go.ChangeShapes Go.WideShapes Go.ChangeAt Go.Proofs
theorem own : ownKnob Try.prog.godebug = none := by kernel_rfl
section
variable {H : Type} {enc : TypeId × Value → H}
theorem open_J {W : World} {base : Nat} {sp : Nat → Bool} {v : Value} {d : DataW H} {p : List MemPlace} (hv : Value.okWide Try.prog W .any base 32 v) (h : DataW.Trod enc Try.prog W 0 sp true 32 v d p) : ∃ x : J, v = jV x := by
  obtain ⟨cs, rfl, _⟩ := okWide_struct Try.underlying32 hv
  obtain ⟨n, hn⟩ := h
  have F := fit_of_trod 60 n 32 _ _ (by kernel_rfl) hn
  have E : cellTys Try.prog 60 32 = [.int .u8, .int .u8, .int .u16, .int .u8, .int .u16, .int .u32, .int .u8, .int .u8, .int .u8, .int .u8, .int .u8, .int .u8, .int .u8] := by kernel_rfl
  rw [E] at F
  have hc : (Value.agg cs).cells.toList = cs.toList := rfl
  rw [hc] at F
  obtain ⟨_, l0, e0, ⟨a0, rfl, w0⟩, F0⟩ := fit_cons F
  obtain ⟨_, l1, rfl, ⟨a1, rfl, w1⟩, F1⟩ := fit_cons F0
  obtain ⟨_, l2, rfl, ⟨a2, rfl, w2⟩, F2⟩ := fit_cons F1
  obtain ⟨_, l3, rfl, ⟨a3, rfl, w3⟩, F3⟩ := fit_cons F2
  obtain ⟨_, l4, rfl, ⟨a4, rfl, w4⟩, F4⟩ := fit_cons F3
  obtain ⟨_, l5, rfl, ⟨a5, rfl, w5⟩, F5⟩ := fit_cons F4
  obtain ⟨_, l6, rfl, ⟨a6, rfl, w6⟩, F6⟩ := fit_cons F5
  obtain ⟨_, l7, rfl, ⟨a7, rfl, w7⟩, F7⟩ := fit_cons F6
  obtain ⟨_, l8, rfl, ⟨a8, rfl, w8⟩, F8⟩ := fit_cons F7
  obtain ⟨_, l9, rfl, ⟨a9, rfl, w9⟩, F9⟩ := fit_cons F8
  obtain ⟨_, l10, rfl, ⟨a10, rfl, w10⟩, F10⟩ := fit_cons F9
  obtain ⟨_, l11, rfl, ⟨a11, rfl, w11⟩, F11⟩ := fit_cons F10
  obtain ⟨_, l12, rfl, ⟨a12, rfl, w12⟩, F12⟩ := fit_cons F11
  obtain rfl := fit_nil F12
  have hcs : cs = #[.int .u8 a0, .int .u8 a1, .int .u16 a2, .int .u8 a3, .int .u16 a4, .int .u32 a5, .int .u8 a6, .int .u8 a7, .int .u8 a8, .int .u8 a9, .int .u8 a10, .int .u8 a11, .int .u8 a12] := Array.toList_inj.1 e0
  subst hcs
  exact ⟨⟨⟨a0, a1, a2, ⟨a3, a4, a5, a6, a7, a8, a9, a10, a11, a12⟩⟩, ⟨wf_u8 w0, wf_u8 w1, wf_u16 w2, ⟨wf_u8 w3, wf_u16 w4, wf_u32 w5, wf_u8 w6, wf_u8 w7, wf_u8 w8, wf_u8 w9, wf_u8 w10, wf_u8 w11, wf_u8 w12⟩⟩⟩, rfl⟩
theorem row_Ac {W : World} {sp : Nat → Bool} {fuel : Nat} {cs : List Value} {x : DataW H × List MemPlace} (h : DataW.trod enc Try.prog W 0 sp true fuel 59 cs = some x) : ∃ s : Ac, cs = s.row ∧ True := by
  have F := fit_of_trod 60 fuel 59 _ _ (by kernel_rfl) h
  have E : cellTys Try.prog 60 59 = [.int .i64, .int .i64, .int .u8, .int .u8, .int .u16, .int .u8, .int .u16, .int .u32, .int .u8, .int .u8, .int .u8, .int .u8, .int .u8, .int .u8, .int .u8] := by kernel_rfl
  rw [E] at F
  obtain ⟨_, l0, rfl, ⟨k0, rfl, u0⟩, G0⟩ := fit_cons F
  obtain ⟨_, l1, rfl, ⟨k1, rfl, u1⟩, G1⟩ := fit_cons G0
  obtain ⟨_, m0, rfl, ⟨a0, rfl, w0⟩, F0⟩ := fit_cons G1
  obtain ⟨_, m1, rfl, ⟨a1, rfl, w1⟩, F1⟩ := fit_cons F0
  obtain ⟨_, m2, rfl, ⟨a2, rfl, w2⟩, F2⟩ := fit_cons F1
  obtain ⟨_, m3, rfl, ⟨a3, rfl, w3⟩, F3⟩ := fit_cons F2
  obtain ⟨_, m4, rfl, ⟨a4, rfl, w4⟩, F4⟩ := fit_cons F3
  obtain ⟨_, m5, rfl, ⟨a5, rfl, w5⟩, F5⟩ := fit_cons F4
  obtain ⟨_, m6, rfl, ⟨a6, rfl, w6⟩, F6⟩ := fit_cons F5
  obtain ⟨_, m7, rfl, ⟨a7, rfl, w7⟩, F7⟩ := fit_cons F6
  obtain ⟨_, m8, rfl, ⟨a8, rfl, w8⟩, F8⟩ := fit_cons F7
  obtain ⟨_, m9, rfl, ⟨a9, rfl, w9⟩, F9⟩ := fit_cons F8
  obtain ⟨_, m10, rfl, ⟨a10, rfl, w10⟩, F10⟩ := fit_cons F9
  obtain ⟨_, m11, rfl, ⟨a11, rfl, w11⟩, F11⟩ := fit_cons F10
  obtain ⟨_, m12, rfl, ⟨a12, rfl, w12⟩, F12⟩ := fit_cons F11
  obtain rfl := fit_nil F12
  exact ⟨⟨k0, k1, ⟨⟨a0, a1, a2, ⟨a3, a4, a5, a6, a7, a8, a9, a10, a11, a12⟩⟩, ⟨wf_u8 w0, wf_u8 w1, wf_u16 w2, ⟨wf_u8 w3, wf_u16 w4, wf_u32 w5, wf_u8 w6, wf_u8 w7, wf_u8 w8, wf_u8 w9, wf_u8 w10, wf_u8 w11, wf_u8 w12⟩⟩⟩⟩, rfl, trivial⟩
theorem open_Ac {W : World} {base : Nat} {sp : Nat → Bool} {v : Value} {d : DataW H} {p : List MemPlace} (hv : Value.okWide Try.prog W .any base 59 v) (h : DataW.Trod enc Try.prog W 0 sp true 59 v d p) : ∃ x : Ac, v = .agg x.row.toArray := by
  obtain ⟨cs, rfl, _⟩ := okWide_struct Try.underlying59 hv
  obtain ⟨n, hn⟩ := h
  have hc : (Value.agg cs).cells.toList = cs.toList := rfl
  rw [hc] at hn
  obtain ⟨s, hs, _⟩ := row_Ac hn
  exact ⟨s, by rw [← hs]⟩
end
end Go.Proofs.Ytamnhlkaknjcaaa
