import Derived.Test.YtdmiblfckigjoaaDoorU05h
import Derived.Test.YtdmiblfckigjoaaDoorXSmall
import Derived.Test.YtdmiblfckigjoaaDoorRows
import Derived.Test.YtdmiblfckigjoaaDoorCards
import Derived.Test.YtdmiblfckigjoaaDoorTie
import Derived.Test.YtdmiblfckigjoaaDoorChecked
import Derived.LaidMore
import Derived.Lay
import Derived.LaidOnce
import Derived.SevenTiedAt
import Derived.Lib.LaidTab
set_option linter.unusedVariables false
set_option maxRecDepth 100000
namespace Go.Proofs.YtdmiblfckigjoaaDoor
open Go X RowKit Go.ChangeShapes Go.WideShapes Go.ChangeAt Go.Proofs
theorem own : ownKnob Tryd.prog.godebug = none := by kernel_rfl
/-- the listed tables, as every row of this seat lists them -/
abbrev laidL : List (String × DataW Unit) := [("math/bits.deBruijn32tab", Rows.laid_math_bits_deBruijn32tab), ("math/bits.deBruijn64tab", Rows.laid_math_bits_deBruijn64tab), ("internal/strconv.uint64pow10", Rows.laid_internal_strconv_uint64pow10)]
theorem pow_data : (Rows.laid_internal_strconv_uint64pow10 : DataW Unit) = Lib.tabData .u64 Lib.pow10Tab := by
  simp [Rows.laid_internal_strconv_uint64pow10, Lib.tabData, Lib.pow10Tab, List.range, List.range.loop]
theorem tab_of {W : World} (h : laidMetH Tryd.prog laidL W) : Tab W := by
  rw [MakeChecks.laidMetH_plain _ _ _ (by kernel_rfl)] at h
  obtain ⟨ps, ⟨g0, t0, cs0, f0, p0, q0, hg0, ht0, hv0, hd0, ⟨g1, t1, cs1, f1, p1, q1, hg1, ht1, hv1, hd1, ⟨g2, t2, cs2, f2, p2, q2, hg2, ht2, hv2, hd2, _, _⟩, _⟩, _⟩, _, _⟩ := h
  obtain rfl := Option.some.inj ((show Tryd.prog.globalNamed "internal/strconv.uint64pow10" = some 0 by kernel_rfl).symm.trans hg2)
  obtain rfl := Option.some.inj ((show (Tryd.prog.globals[0]?).map (·.type) = some 116 by kernel_rfl).symm.trans ht2)
  rw [pow_data] at hd2
  have := Lib.cells_of_tab (n := 20) (k := .u64) (zs := Lib.pow10Tab) Tryd.underlying116 Tryd.underlying109 (by kernel_rfl) (by kernel_rfl) hd2
  show W.var? Tryd.prog "internal/strconv.uint64pow10" = _
  rw [hv2, ← this]
theorem laid_met (os : Os) (args : Array Value) : laidMetH Tryd.prog laidL ((World.laidAll Tryd.prog os laidL).forCall (fun _ _ => 0) ⟨#[], args, []⟩).memory := by
  rw [MakeChecks.laidMetH_plain _ _ _ (by kernel_rfl)]; exact laidMet_laidAll _ (by kernel_rfl) (by kernel_rfl)
theorem wf_u8 {n : Int} (h : (Lit.int .u8 n).wf = true) : 0 ≤ n ∧ n < 256 := by
  simp [Lit.wf, IntKind.min, IntKind.max, IntKind.bits, IntKind.signed] at h; omega
theorem wf_i64 {n : Int} (h : (Lit.int .i64 n).wf = true) : -9223372036854775808 ≤ n ∧ n ≤ 9223372036854775807 := by
  simp [Lit.wf, IntKind.min, IntKind.max, IntKind.bits, IntKind.signed] at h; omega
theorem wf_u16 {n : Int} (h : (Lit.int .u16 n).wf = true) : 0 ≤ n ∧ n < 65536 := by
  simp [Lit.wf, IntKind.min, IntKind.max, IntKind.bits, IntKind.signed] at h; omega
theorem wf_u32 {n : Int} (h : (Lit.int .u32 n).wf = true) : 0 ≤ n ∧ n < 4294967296 := by
  simp [Lit.wf, IntKind.min, IntKind.max, IntKind.bits, IntKind.signed] at h; omega
structure WrIn (x : Wr) : Prop where
  val : x.val.size ≤ 281474976710656
structure EnIn (m : Mem) (a : En) : Prop where
  m : EnM0 m a
  i : EvIn a.er
  w : ∀ x ∈ a.ws, WrIn x
theorem wf_len {n : Nat} (h : n ≤ reachBytes) : n ≤ 281474976710656 := Nat.le_trans h (by decide)
section
variable {H : Type} {enc : TypeId × Value → H} {W : World} {sp : Nat → Bool} {fuel : Nat} {cs : List Value} {x : DataW H × List MemPlace}
theorem open_Pt (h : DataW.trod enc Tryd.prog W 0 sp true fuel 94 cs = some x) (hs : Small Tryd.prog 94 x.1) : ∃ a : Pt, cs = a.row ∧ PtIn a := by
  have F := fit_of_trod 60 fuel 94 _ _ (by kernel_rfl) h
  have E : cellTys Tryd.prog 60 94 = [.int .u8, .int .u8, .str, .str, .int .i64] := by kernel_rfl
  rw [E] at F
  obtain ⟨_, l0, rfl, ⟨a0, rfl, w0⟩, F1⟩ := fit_cons F
  obtain ⟨_, l1, rfl, ⟨a1, rfl, w1⟩, F2⟩ := fit_cons F1
  obtain ⟨_, l2, rfl, ⟨a2, rfl, w2⟩, F3⟩ := fit_cons F2
  obtain ⟨_, l3, rfl, ⟨a3, rfl, w3⟩, F4⟩ := fit_cons F3
  obtain ⟨_, l4, rfl, ⟨a4, rfl, w4⟩, F5⟩ := fit_cons F4
  obtain rfl := fit_nil F5
  obtain ⟨_, _, h2, h2s⟩ := trod_fieldS Tryd.underlying94 h hs 2 9 2 1 (by rfl) (by kernel_rfl)
  have b2 := small_str (s := a2) Tryd.underlying9 h2 h2s
  obtain ⟨_, _, h3, h3s⟩ := trod_fieldS Tryd.underlying94 h hs 3 9 3 1 (by rfl) (by kernel_rfl)
  have b3 := small_str (s := a3) Tryd.underlying9 h3 h3s
  exact ⟨⟨a0, a1, a2, a3, a4⟩, rfl, ⟨wf_u8 w0, wf_u8 w1, wf_i64 w4, wf_len b2, wf_len b3⟩⟩
theorem open_Wr (h : DataW.trod enc Tryd.prog W 0 sp true fuel 69 cs = some x) (hs : Small Tryd.prog 69 x.1) : ∃ a : Wr, cs = a.row ∧ WrIn a := by
  have F := fit_of_trod 60 fuel 69 _ _ (by kernel_rfl) h
  have E : cellTys Tryd.prog 60 69 = [.str, .str, .bool] := by kernel_rfl
  rw [E] at F
  obtain ⟨_, l0, rfl, ⟨a0, rfl, w0⟩, F1⟩ := fit_cons F
  obtain ⟨_, l1, rfl, ⟨a1, rfl, w1⟩, F2⟩ := fit_cons F1
  obtain ⟨_, l2, rfl, ⟨a2, rfl⟩, F3⟩ := fit_cons F2
  obtain rfl := fit_nil F3
  obtain ⟨_, _, h0, h0s⟩ := trod_fieldS Tryd.underlying69 h hs 0 9 0 1 (by rfl) (by kernel_rfl)
  have b0 := small_str (s := a0) Tryd.underlying9 h0 h0s
  obtain ⟨_, _, h1, h1s⟩ := trod_fieldS Tryd.underlying69 h hs 1 9 1 1 (by rfl) (by kernel_rfl)
  have b1 := small_str (s := a1) Tryd.underlying9 h1 h1s
  exact ⟨⟨a0, a1, a2⟩, rfl, ⟨wf_len b1⟩⟩
theorem open_En (h : DataW.trod enc Tryd.prog W 0 sp true fuel 36 cs = some x) (hs : Small Tryd.prog 36 x.1) : ∃ a : En, cs = a.row ∧ EnIn (memOf W) a := by
  have F := fit_of_trod 60 fuel 36 _ _ (by kernel_rfl) h
  have E : cellTys Tryd.prog 60 36 = [.int .u8, .int .u8, .int .u16, .int .u32, .int .u8, .int .u8, .int .u8, .int .u8, .int .u8, .int .u8, .int .u8, .int .u32, .slice, .int .u8, .str, .slice, .int .u8, .int .u16] := by kernel_rfl
  rw [E] at F
  obtain ⟨_, l0, rfl, ⟨a0, rfl, w0⟩, F1⟩ := fit_cons F
  obtain ⟨_, l1, rfl, ⟨a1, rfl, w1⟩, F2⟩ := fit_cons F1
  obtain ⟨_, l2, rfl, ⟨a2, rfl, w2⟩, F3⟩ := fit_cons F2
  obtain ⟨_, l3, rfl, ⟨a3, rfl, w3⟩, F4⟩ := fit_cons F3
  obtain ⟨_, l4, rfl, ⟨a4, rfl, w4⟩, F5⟩ := fit_cons F4
  obtain ⟨_, l5, rfl, ⟨a5, rfl, w5⟩, F6⟩ := fit_cons F5
  obtain ⟨_, l6, rfl, ⟨a6, rfl, w6⟩, F7⟩ := fit_cons F6
  obtain ⟨_, l7, rfl, ⟨a7, rfl, w7⟩, F8⟩ := fit_cons F7
  obtain ⟨_, l8, rfl, ⟨a8, rfl, w8⟩, F9⟩ := fit_cons F8
  obtain ⟨_, l9, rfl, ⟨a9, rfl, w9⟩, F10⟩ := fit_cons F9
  obtain ⟨_, l10, rfl, ⟨a10, rfl, w10⟩, F11⟩ := fit_cons F10
  obtain ⟨_, l11, rfl, ⟨a11, rfl, w11⟩, F12⟩ := fit_cons F11
  obtain ⟨_, l12, rfl, ⟨q12, n12, c12, rfl, w12, z12⟩, F13⟩ := fit_cons F12
  obtain ⟨_, l13, rfl, ⟨a13, rfl, w13⟩, F14⟩ := fit_cons F13
  obtain ⟨_, l14, rfl, ⟨a14, rfl, w14⟩, F15⟩ := fit_cons F14
  obtain ⟨_, l15, rfl, ⟨q15, n15, c15, rfl, w15, z15⟩, F16⟩ := fit_cons F15
  obtain ⟨_, l16, rfl, ⟨a16, rfl, w16⟩, F17⟩ := fit_cons F16
  obtain ⟨_, l17, rfl, ⟨a17, rfl, w17⟩, F18⟩ := fit_cons F17
  obtain rfl := fit_nil F18
  obtain ⟨_, _, h3, h3s⟩ := trod_fieldS Tryd.underlying36 h hs 3 31 12 1 (by rfl) (by kernel_rfl)
  obtain ⟨q12', c12', s12, e12, b12, m12, p12⟩ := trod_listS Tryd.underlying31 (k := 5) (by kernel_rfl) (by omega) h3 h3s (B := 48) (by kernel_rfl) pt_len (φ := PtIn) (fun g ec y h hs => open_Pt h hs)
  have e12' : [Value.slice q12 n12 c12] = [Value.slice q12' s12.length c12'] := e12
  injection e12' with e12' _
  injection e12' with f12 g12 k12
  subst f12; subst g12; subst k12
  obtain ⟨_, _, h4, h4s⟩ := trod_fieldS Tryd.underlying36 h hs 4 33 13 2 (by rfl) (by kernel_rfl)
  obtain ⟨_, _, h4_1, h4_1s⟩ := trod_fieldS Tryd.underlying33 h4 h4s 1 9 1 1 (by rfl) (by kernel_rfl)
  have b14 := small_str (s := a14) Tryd.underlying9 h4_1 h4_1s
  obtain ⟨_, _, h5, h5s⟩ := trod_fieldS Tryd.underlying36 h hs 5 34 15 1 (by rfl) (by kernel_rfl)
  obtain ⟨q15', c15', s15, e15, b15, m15, p15⟩ := trod_listS Tryd.underlying34 (k := 3) (by kernel_rfl) (by omega) h5 h5s (B := 40) (by kernel_rfl) wr_len (φ := WrIn) (fun g ec y h hs => open_Wr h hs)
  have e15' : [Value.slice q15 n15 c15] = [Value.slice q15' s15.length c15'] := e15
  injection e15' with e15' _
  injection e15' with f15 g15 k15
  subst f15; subst g15; subst k15
  exact ⟨⟨a0, ⟨a1, a2, a3, a4, a5, a6, a7, a8, a9, a10⟩, a11, (q12, c12), s12, a13, a14, (q15, c15), s15, a16, a17⟩, rfl, ⟨⟨m12, m15⟩, ⟨wf_u8 w0, ⟨wf_u8 w1, wf_u16 w2, wf_u32 w3, wf_u8 w4, wf_u8 w5, wf_u8 w6, wf_u8 w7, wf_u8 w8, wf_u8 w9, wf_u8 w10⟩, wf_u32 w11, p12, wf_u8 w13, wf_len b14, wf_u8 w16, wf_u16 w17⟩, p15⟩⟩
end
end Go.Proofs.YtdmiblfckigjoaaDoor
