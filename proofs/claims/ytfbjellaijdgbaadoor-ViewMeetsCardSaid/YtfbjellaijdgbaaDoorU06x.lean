import Derived.Test.YtfbjellaijdgbaaDoorU06m
import Derived.Test.YtfbjellaijdgbaaDoorXSmall
import Derived.Test.YtfbjellaijdgbaaDoorRows
import Derived.Test.YtfbjellaijdgbaaDoorCards
import Derived.Test.YtfbjellaijdgbaaDoorTie
import Derived.Test.YtfbjellaijdgbaaDoorChecked
import Derived.LaidMore
import Derived.Lay
import Derived.LaidOnce
import Derived.SevenTiedAt
import Derived.Lib.LaidTab
set_option linter.unusedVariables false
set_option maxRecDepth 100000
namespace Go.Proofs.YtfbjellaijdgbaaDoor
open Go X RowKit Go.ChangeShapes Go.WideShapes Go.ChangeAt Go.Proofs
theorem own : ownKnob Tryd.prog.godebug = none := by kernel_rfl
/-- the listed tables, as every row of this seat lists them -/
abbrev laidL : List (String × DataW Unit) := [("math/bits.deBruijn32tab", Rows.laid_math_bits_deBruijn32tab), ("math/bits.deBruijn64tab", Rows.laid_math_bits_deBruijn64tab), ("internal/strconv.uint64pow10", Rows.laid_internal_strconv_uint64pow10)]
theorem laid_met (os : Os) (args : Array Value) : laidMetH Tryd.prog laidL ((World.laidAll Tryd.prog os laidL).forCall (fun _ _ => 0) ⟨#[], args, []⟩).memory := by
  rw [MakeChecks.laidMetH_plain _ _ _ (by kernel_rfl)]; exact laidMet_laidAll _ (by kernel_rfl) (by kernel_rfl)
theorem wf_u8 {n : Int} (h : (Lit.int .u8 n).wf = true) : 0 ≤ n ∧ n < 256 := by
  simp [Lit.wf, IntKind.min, IntKind.max, IntKind.bits, IntKind.signed] at h; omega
theorem wf_u32 {n : Int} (h : (Lit.int .u32 n).wf = true) : 0 ≤ n ∧ n < 4294967296 := by
  simp [Lit.wf, IntKind.min, IntKind.max, IntKind.bits, IntKind.signed] at h; omega
section
variable {H : Type} {enc : TypeId × Value → H} {W : World} {sp : Nat → Bool} {fuel : Nat} {cs : List Value} {x : DataW H × List MemPlace}
theorem open_Pr (h : DataW.trod enc Tryd.prog W 0 sp true fuel 46 cs = some x) : ∃ a : Pr, cs = a.row ∧ 0 ≤ a.n := by
  have F := fit_of_trod 60 fuel 46 _ _ (by kernel_rfl) h
  have E : cellTys Tryd.prog 60 46 = [.int .u8, .int .u16] := by kernel_rfl
  rw [E] at F
  obtain ⟨_, l0, rfl, ⟨a0, rfl, w0⟩, F1⟩ := fit_cons F
  obtain ⟨_, l1, rfl, ⟨a1, rfl, w1⟩, F2⟩ := fit_cons F1
  obtain rfl := fit_nil F2
  exact ⟨⟨a0, a1⟩, rfl, (wf_u8 w0).1⟩
theorem open_Prs (h : DataW.trod enc Tryd.prog W 0 sp true fuel 23 cs = some x) (hs : Small Tryd.prog 23 x.1) : ∃ (q : Sl) (l : List Pr), cs = [slV q l.length] ∧ l.length * 4 ≤ reachBytes ∧ PM q l (memOf W) ∧ ∀ p ∈ l, 0 ≤ p.n := by
  obtain ⟨q, c, l, e, b, m, p⟩ := trod_listS Tryd.underlying23 (k := 2) (by kernel_rfl) (by omega) h hs (B := 4) (by kernel_rfl) pr_len (φ := fun p : Pr => 0 ≤ p.n) (fun g ec y h _ => open_Pr h)
  exact ⟨(q, c), l, e, b.2, m, p⟩
theorem open_Vw (h : DataW.trod enc Tryd.prog W 0 sp true fuel 25 cs = some x) (hs : Small Tryd.prog 25 x.1) : ∃ a : Vw, cs = a.row ∧ (VwM (memOf W) a ∧ (∀ p ∈ a.ms, 0 ≤ p.n) ∧ a.ms.length * 4 ≤ reachBytes) ∧ 0 ≤ a.n ∧ a.n ≤ 4294967295 := by
  have F := fit_of_trod 60 fuel 25 _ _ (by kernel_rfl) h
  have E : cellTys Tryd.prog 60 25 = [.int .u8, .int .u32, .slice] := by kernel_rfl
  rw [E] at F
  obtain ⟨_, l0, rfl, ⟨a0, rfl, w0⟩, F1⟩ := fit_cons F
  obtain ⟨_, l1, rfl, ⟨a1, rfl, w1⟩, F2⟩ := fit_cons F1
  obtain ⟨_, l2, rfl, ⟨q2, n2, c2, rfl, w2, z2⟩, F3⟩ := fit_cons F2
  obtain rfl := fit_nil F3
  obtain ⟨_, _, h2, h2s⟩ := trod_fieldS Tryd.underlying25 h hs 2 23 2 1 (by rfl) (by kernel_rfl)
  obtain ⟨q, s, e, b, m, p⟩ := open_Prs h2 h2s
  have e2 : [Value.slice q2 n2 c2] = [Value.slice q.1 s.length q.2] := e
  injection e2 with e2 _
  injection e2 with f2 g2 k2
  subst f2; subst g2; subst k2
  exact ⟨⟨a0, a1, q, s⟩, rfl, ⟨m, p, b⟩, (wf_u32 w1).1, by have := (wf_u32 w1).2; show a1 ≤ 4294967295; omega⟩
end
end Go.Proofs.YtfbjellaijdgbaaDoor
