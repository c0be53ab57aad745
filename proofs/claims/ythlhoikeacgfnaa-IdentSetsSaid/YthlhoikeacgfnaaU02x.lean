import Derived.Test.YthlhoikeacgfnaaU02b
import Derived.Test.YthlhoikeacgfnaaXFit
import Derived.Test.YthlhoikeacgfnaaRows
import Derived.Test.YthlhoikeacgfnaaChecked
set_option linter.unusedVariables false
set_option maxRecDepth 100000
namespace Go.Proofs.Ythlhoikeacgfnaa
open Go X RowKit Go.ChangeShapes Go.WideShapes Go.ChangeAt
theorem fit_cons {t : Ty} {ts : List Ty} {l : List Value} (h : Fit (t :: ts) l) : ∃ v vs, l = v :: vs ∧ Fit1 t v ∧ Fit ts vs := by
  cases l with
  | nil => exact h.elim
  | cons v vs => exact ⟨v, vs, rfl, h⟩
theorem fit_nil {l : List Value} (h : Fit [] l) : l = [] := by
  cases l with
  | nil => rfl
  | cons v vs => exact h.elim
theorem wf_u8 {n : Int} (h : (Lit.int .u8 n).wf = true) : 0 ≤ n ∧ n < 256 := by
  simp [Lit.wf, IntKind.min, IntKind.max, IntKind.bits, IntKind.signed] at h; omega
theorem wf_u16 {n : Int} (h : (Lit.int .u16 n).wf = true) : 0 ≤ n ∧ n < 65536 := by
  simp [Lit.wf, IntKind.min, IntKind.max, IntKind.bits, IntKind.signed] at h; omega
theorem wf_u32 {n : Int} (h : (Lit.int .u32 n).wf = true) : 0 ≤ n ∧ n < 4294967296 := by
  simp [Lit.wf, IntKind.min, IntKind.max, IntKind.bits, IntKind.signed] at h; omega
section
variable {H : Type} {enc : TypeId × Value → H}
theorem open_I {W : World} {base : Nat} {sp : Nat → Bool} {v : Value} {d : DataW H} {p : List MemPlace} (hv : Value.okWide Try.prog W .any base 30 v) (h : DataW.Trod enc Try.prog W 0 sp true 30 v d p) : ∃ x : I, v = x.V ∧ x.In := by
  obtain ⟨cs, rfl, _⟩ := okWide_struct Try.underlying30 hv
  obtain ⟨n, hn⟩ := h
  have F := fit_of_trod 60 n 30 _ _ (by kernel_rfl) hn
  have E : cellTys Try.prog 60 30 = [.int .u8, .int .u16, .int .u32, .int .u8, .int .u8, .int .u8, .int .u8, .int .u8, .int .u8, .int .u8] := by kernel_rfl
  rw [E] at F
  have hc : (Value.agg cs).cells.toList = cs.toList := rfl
  rw [hc] at F
  obtain ⟨_, l0, e0, ⟨a0, rfl, w0⟩, F0⟩ := fit_cons F
  obtain ⟨_, l1, rfl, ⟨a1, rfl, w1⟩, F1⟩ := fit_cons F0
  obtain ⟨_, l2, rfl, ⟨a2, rfl, w2⟩, F2⟩ := fit_cons F1
  obtain ⟨_, l3, rfl, ⟨a3, rfl, w3⟩, F3⟩ := fit_cons F2
  obtain ⟨_, l4, rfl, ⟨a4, rfl, w4⟩, F4⟩ := fit_cons F3
  obtain ⟨_, l5, rfl, ⟨a5, rfl, w5⟩, F5⟩ := fit_cons F4
  obtain ⟨_, l6, rfl, ⟨a6, rfl, w6⟩, F6⟩ := fit_cons F5
  obtain ⟨_, l7, rfl, ⟨a7, rfl, w7⟩, F7⟩ := fit_cons F6
  obtain ⟨_, l8, rfl, ⟨a8, rfl, w8⟩, F8⟩ := fit_cons F7
  obtain ⟨_, l9, rfl, ⟨a9, rfl, w9⟩, F9⟩ := fit_cons F8
  obtain rfl := fit_nil F9
  have hcs : cs = #[.int .u8 a0, .int .u16 a1, .int .u32 a2, .int .u8 a3, .int .u8 a4, .int .u8 a5, .int .u8 a6, .int .u8 a7, .int .u8 a8, .int .u8 a9] := Array.toList_inj.1 e0
  subst hcs
  exact ⟨⟨a0, a1, a2, a3, a4, a5, a6, a7, a8, a9⟩, rfl, ⟨wf_u8 w0, wf_u16 w1, wf_u32 w2, wf_u8 w3, wf_u8 w4, wf_u8 w5, wf_u8 w6, wf_u8 w7, wf_u8 w8, wf_u8 w9⟩⟩
end
theorem own : ownKnob Try.prog.godebug = none := by kernel_rfl
end Go.Proofs.Ythlhoikeacgfnaa
