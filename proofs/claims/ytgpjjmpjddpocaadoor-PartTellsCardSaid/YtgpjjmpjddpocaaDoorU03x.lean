import Derived.Test.YtgpjjmpjddpocaaDoorU03t
import Derived.Test.YtgpjjmpjddpocaaDoorXSmall
import Derived.Test.YtgpjjmpjddpocaaDoorRows
import Derived.Test.YtgpjjmpjddpocaaDoorCards
import Derived.Test.YtgpjjmpjddpocaaDoorTie
import Derived.Test.YtgpjjmpjddpocaaDoorChecked
import Derived.LaidMore
import Derived.Lay
import Derived.LaidOnce
import Derived.SevenTiedAt
import Derived.Lib.LaidTab
set_option linter.unusedVariables false
set_option maxRecDepth 100000
namespace Go.Proofs.YtgpjjmpjddpocaaDoor
open Go X RowKit Go.ChangeShapes Go.WideShapes Go.ChangeAt Go.Proofs
theorem own : ownKnob Tryd.prog.godebug = none := by kernel_rfl
/-- the listed tables, as every row of this seat lists them -/
abbrev laidL : List (String × DataW Unit) := [("math/bits.deBruijn32tab", Rows.laid_math_bits_deBruijn32tab), ("math/bits.deBruijn64tab", Rows.laid_math_bits_deBruijn64tab), ("internal/strconv.uint64pow10", Rows.laid_internal_strconv_uint64pow10)]
theorem pow_data : (Rows.laid_internal_strconv_uint64pow10 : DataW Unit) = Lib.tabData .u64 Lib.pow10Tab := by
  simp [Rows.laid_internal_strconv_uint64pow10, Lib.tabData, Lib.pow10Tab, List.range, List.range.loop]
theorem tab_of {W : World} (h : laidMetH Tryd.prog laidL W) : Tab W := by
  rw [MakeChecks.laidMetH_plain _ _ _ (by kernel_rfl)] at h
  obtain ⟨ps, ⟨g0, t0, cs0, f0, p0, q0, hg0, ht0, hv0, hd0, ⟨g1, t1, cs1, f1, p1, q1, hg1, ht1, hv1, hd1, ⟨g2, t2, cs2, f2, p2, q2, hg2, ht2, hv2, hd2, _, _⟩, _⟩, _⟩, _, _⟩ := h
  obtain rfl := Option.some.inj ((show Tryd.prog.globalNamed "internal/strconv.uint64pow10" = some 0 by kernel_rfl).symm.trans hg2)
  obtain rfl := Option.some.inj ((show (Tryd.prog.globals[0]?).map (·.type) = some 64 by kernel_rfl).symm.trans ht2)
  rw [pow_data] at hd2
  have := Lib.cells_of_tab (n := 20) (k := .u64) (zs := Lib.pow10Tab) Tryd.underlying64 Tryd.underlying57 (by kernel_rfl) (by kernel_rfl) hd2
  show W.var? Tryd.prog "internal/strconv.uint64pow10" = _
  rw [hv2, ← this]
theorem laid_met (os : Os) (args : Array Value) : laidMetH Tryd.prog laidL ((World.laidAll Tryd.prog os laidL).forCall (fun _ _ => 0) ⟨#[], args, []⟩).memory := by
  rw [MakeChecks.laidMetH_plain _ _ _ (by kernel_rfl)]; exact laidMet_laidAll _ (by kernel_rfl) (by kernel_rfl)
theorem wf_u8 {n : Int} (h : (Lit.int .u8 n).wf = true) : 0 ≤ n ∧ n < 256 := by
  simp [Lit.wf, IntKind.min, IntKind.max, IntKind.bits, IntKind.signed] at h; omega
theorem wf_i64 {n : Int} (h : (Lit.int .i64 n).wf = true) : -9223372036854775808 ≤ n ∧ n ≤ 9223372036854775807 := by
  simp [Lit.wf, IntKind.min, IntKind.max, IntKind.bits, IntKind.signed] at h; omega
theorem wf_len {n : Nat} (h : n ≤ reachBytes) : n ≤ 281474976710656 := Nat.le_trans h (by decide)
section
variable {H : Type} {enc : TypeId × Value → H} {W : World} {sp : Nat → Bool} {fuel : Nat} {cs : List Value} {x : DataW H × List MemPlace}
theorem open_Pt (h : DataW.trod enc Tryd.prog W 0 sp true fuel 23 cs = some x) (hs : Small Tryd.prog 23 x.1) : ∃ a : Pt, cs = a.row ∧ PtIn a := by
  have F := fit_of_trod 60 fuel 23 _ _ (by kernel_rfl) h
  have E : cellTys Tryd.prog 60 23 = [.int .u8, .int .u8, .str, .str, .int .i64] := by kernel_rfl
  rw [E] at F
  obtain ⟨_, l0, rfl, ⟨a0, rfl, w0⟩, F1⟩ := fit_cons F
  obtain ⟨_, l1, rfl, ⟨a1, rfl, w1⟩, F2⟩ := fit_cons F1
  obtain ⟨_, l2, rfl, ⟨a2, rfl, w2⟩, F3⟩ := fit_cons F2
  obtain ⟨_, l3, rfl, ⟨a3, rfl, w3⟩, F4⟩ := fit_cons F3
  obtain ⟨_, l4, rfl, ⟨a4, rfl, w4⟩, F5⟩ := fit_cons F4
  obtain rfl := fit_nil F5
  obtain ⟨_, _, h2, h2s⟩ := trod_fieldS Tryd.underlying23 h hs 2 9 2 1 (by rfl) (by kernel_rfl)
  have b2 := small_str (s := a2) Tryd.underlying9 h2 h2s
  obtain ⟨_, _, h3, h3s⟩ := trod_fieldS Tryd.underlying23 h hs 3 9 3 1 (by rfl) (by kernel_rfl)
  have b3 := small_str (s := a3) Tryd.underlying9 h3 h3s
  exact ⟨⟨a0, a1, a2, a3, a4⟩, rfl, ⟨wf_u8 w0, wf_u8 w1, wf_i64 w4, wf_len b2, wf_len b3⟩⟩
theorem open_Rs (h : DataW.trod enc Tryd.prog W 0 sp true fuel 32 cs = some x) (hs : Small Tryd.prog 32 x.1) : ∃ a : Rs, cs = a.row ∧ a.v.size ≤ 281474976710656 := by
  have F := fit_of_trod 60 fuel 32 _ _ (by kernel_rfl) h
  have E : cellTys Tryd.prog 60 32 = [.int .u8, .str] := by kernel_rfl
  rw [E] at F
  obtain ⟨_, l0, rfl, ⟨a0, rfl, w0⟩, F1⟩ := fit_cons F
  obtain ⟨_, l1, rfl, ⟨a1, rfl, w1⟩, F2⟩ := fit_cons F1
  obtain rfl := fit_nil F2
  obtain ⟨_, _, h1, h1s⟩ := trod_fieldS Tryd.underlying32 h hs 1 9 1 1 (by rfl) (by kernel_rfl)
  have b1 := small_str (s := a1) Tryd.underlying9 h1 h1s
  exact ⟨⟨a0, a1⟩, rfl, wf_len b1⟩
end
end Go.Proofs.YtgpjjmpjddpocaaDoor
