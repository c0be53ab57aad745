import Derived.Test.YtfhjpjkecjlmjaaU08e
import Derived.Test.YtfhjpjkecjlmjaaRows
import Derived.Test.YtfhjpjkecjlmjaaChecked
set_option linter.unusedVariables false
set_option maxRecDepth 100000
namespace Go.Proofs.Ytfhjpjkecjlmjaa
open Go X RowKit Go.ChangeShapes Go.WideShapes Go.ChangeAt Go.Proofs
section
variable {H : Type} {enc : TypeId × Value → H} {W : World} {sp : Nat → Bool} {fuel : Nat} {cs : List Value} {x : DataW H × List MemPlace}
theorem open_Pc (h : DataW.trod enc Try.prog W 0 sp true fuel 34 cs = some x) : ∃ p q c, cs = Pc.row p q c ∧ MSrc (memOf W) 1 (.slice q p.bs.length c) p.bs.length (byV p.bs) := by
  have F := fit_of_trod 60 fuel 34 _ _ (by kernel_rfl) h
  have E : cellTys Try.prog 60 34 = [.int .u8, .int .u16, .int .u8, .int .u16, .slice, .bool] := by kernel_rfl
  rw [E] at F
  obtain ⟨_, l0, rfl, ⟨a0, rfl, w0⟩, F0⟩ := fit_cons F
  obtain ⟨_, l1, rfl, ⟨a1, rfl, w1⟩, F1⟩ := fit_cons F0
  obtain ⟨_, l2, rfl, ⟨a2, rfl, w2⟩, F2⟩ := fit_cons F1
  obtain ⟨_, l3, rfl, ⟨a3, rfl, w3⟩, F3⟩ := fit_cons F2
  obtain ⟨_, l4, rfl, ⟨q, l, c, rfl, _, _⟩, F4⟩ := fit_cons F3
  obtain ⟨_, l5, rfl, ⟨a5, rfl⟩, F5⟩ := fit_cons F4
  obtain rfl := fit_nil F5
  obtain ⟨g, y, hy⟩ := trod_field Try.underlying34 h 2 32 4 1 (by rfl) (by kernel_rfl)
  obtain ⟨q', c', bs, e, _, hm⟩ := trod_bytes Try.underlying32 Try.underlying5 (by kernel_rfl) hy
  have e' : [Value.slice q l c] = [Value.slice q' bs.length c'] := e
  injection e' with e' _
  injection e' with e1 e2 e3
  subst e1; subst e2; subst e3
  exact ⟨⟨a0, a1, a2, a3, bs, a5⟩, q, c, rfl, hm⟩
/-- an act -/
structure Ac where (kd i at_ mask : Int) (p : Pc)
def Ac.row (a : Ac) (q : Option Addr) (c : Nat) : List Value := [.int .i64 a.kd, .int .i64 a.i, .int .i64 a.at_, .int .u32 a.mask, .int .u8 a.p.fn, .int .u16 a.p.fl, .int .u8 a.p.tn, .int .u16 a.p.tl, .slice q a.p.bs.length c, .bool a.p.bad]
structure Ac.In (a : Ac) : Prop where
  kd : -9223372036854775808 ≤ a.kd ∧ a.kd < 9223372036854775808
  i : -9223372036854775808 ≤ a.i ∧ a.i < 9223372036854775808
  at_ : -9223372036854775808 ≤ a.at_ ∧ a.at_ < 9223372036854775808
  mask : 0 ≤ a.mask ∧ a.mask < 4294967296
theorem open_Ac (h : DataW.trod enc Try.prog W 0 sp true fuel 36 cs = some x) : ∃ a q c, cs = Ac.row a q c ∧ a.In ∧ MSrc (memOf W) 1 (.slice q a.p.bs.length c) a.p.bs.length (byV a.p.bs) := by
  have F := fit_of_trod 60 fuel 36 _ _ (by kernel_rfl) h
  have E : cellTys Try.prog 60 36 = [.int .i64, .int .i64, .int .i64, .int .u32, .int .u8, .int .u16, .int .u8, .int .u16, .slice, .bool] := by kernel_rfl
  rw [E] at F
  obtain ⟨_, l0, rfl, ⟨a0, rfl, w0⟩, F0⟩ := fit_cons F
  obtain ⟨_, l1, rfl, ⟨a1, rfl, w1⟩, F1⟩ := fit_cons F0
  obtain ⟨_, l2, rfl, ⟨a2, rfl, w2⟩, F2⟩ := fit_cons F1
  obtain ⟨_, l3, rfl, ⟨a3, rfl, w3⟩, F3⟩ := fit_cons F2
  obtain ⟨g, y, hy⟩ := trod_field Try.underlying36 h 4 34 4 6 (by rfl) (by kernel_rfl)
  obtain ⟨p, q, c, e, hm⟩ := open_Pc hy
  have hl : l3.length = 6 := by
    have := trod_len Try.underlying36 h
    have hc : Try.prog.cellsOf 36 = 10 := by kernel_rfl
    rw [hc] at this; simpa using this
  have e' : l3 = Pc.row p q c := by
    rw [← e]; show l3 = l3.take 6
    rw [List.take_of_length_le (by omega)]
  subst e'
  exact ⟨⟨a0, a1, a2, a3, p⟩, q, c, rfl, ⟨wf_i64 w0, wf_i64 w1, wf_i64 w2, wf_u32 w3⟩, hm⟩
end
theorem own : ownKnob Try.prog.godebug = none := by kernel_rfl
end Go.Proofs.Ytfhjpjkecjlmjaa
