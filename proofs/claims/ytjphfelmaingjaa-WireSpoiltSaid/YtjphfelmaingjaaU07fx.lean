import Derived.Test.YtjphfelmaingjaaU07fe
import Derived.Test.YtjphfelmaingjaaRows
import Derived.Test.YtjphfelmaingjaaChecked
import Derived.Test.YtjphfelmaingjaaU07fr
set_option linter.unusedVariables false
set_option maxRecDepth 100000
namespace Go.Proofs.Ytjphfelmaingjaa
open Go X RowKit Go.ChangeShapes Go.WideShapes Go.ChangeAt Go.Proofs
theorem own : ownKnob Try.prog.godebug = none := by kernel_rfl
theorem wf_u8 {n : Int} (h : (Lit.int .u8 n).wf = true) : 0 ≤ n ∧ n < 256 := by
  simp [Lit.wf, IntKind.min, IntKind.max, IntKind.bits, IntKind.signed] at h; omega
theorem wf_u16 {n : Int} (h : (Lit.int .u16 n).wf = true) : 0 ≤ n ∧ n < 65536 := by
  simp [Lit.wf, IntKind.min, IntKind.max, IntKind.bits, IntKind.signed] at h; omega
theorem wf_u32 {n : Int} (h : (Lit.int .u32 n).wf = true) : 0 ≤ n ∧ n < 4294967296 := by
  simp [Lit.wf, IntKind.min, IntKind.max, IntKind.bits, IntKind.signed] at h; omega
theorem wf_u64 {n : Int} (h : (Lit.int .u64 n).wf = true) : 0 ≤ n ∧ n < 18446744073709551616 := by
  simp [Lit.wf, IntKind.min, IntKind.max, IntKind.bits, IntKind.signed] at h; omega
theorem wf_i64 {n : Int} (h : (Lit.int .i64 n).wf = true) : -9223372036854775808 ≤ n ∧ n ≤ 9223372036854775807 := by
  simp [Lit.wf, IntKind.min, IntKind.max, IntKind.bits, IntKind.signed] at h; omega
theorem wf_len {n : Nat} (h : n ≤ reachBytes) : n ≤ 281474976710656 := Nat.le_trans h (by decide)
structure PrW (p : Pr) : Prop where
  n : 0 ≤ p.n ∧ p.n < 256
  l : 0 ≤ p.l ∧ p.l < 65536
structure EnIn (m : Mem) (a : En) : Prop where
  m : EnM0 m a
  i : EvIn a.er
structure MgIn (m : Mem) (a : Mg) : Prop where
  m : MgM0 m a
  i : MvIn a.er
theorem in_map {W : Mem} {l : List En} (h : ∀ e ∈ l, EnIn W e) : ∀ e ∈ l.map En.er, EvIn e := fun e he => by
  obtain ⟨y, hy, rfl⟩ := List.mem_map.1 he
  exact (h y hy).i
section
variable {H : Type} {enc : TypeId × Value → H} {W : World} {sp : Nat → Bool} {fuel : Nat} {cs : List Value} {x : DataW H × List MemPlace}
theorem open_Pt (h : DataW.trod enc Try.prog W 0 sp true fuel 150 cs = some x) (hs : Small Try.prog 150 x.1) : ∃ a : Pt, cs = a.row ∧ PtIn a := by
  have F := fit_of_trod 60 fuel 150 _ _ (by kernel_rfl) h
  have E : cellTys Try.prog 60 150 = [.int .u8, .int .u8, .str, .str, .int .i64] := by kernel_rfl
  rw [E] at F
  obtain ⟨_, l0, rfl, ⟨a0, rfl, w0⟩, F1⟩ := fit_cons F
  obtain ⟨_, l1, rfl, ⟨a1, rfl, w1⟩, F2⟩ := fit_cons F1
  obtain ⟨_, l2, rfl, ⟨a2, rfl, w2⟩, F3⟩ := fit_cons F2
  obtain ⟨_, l3, rfl, ⟨a3, rfl, w3⟩, F4⟩ := fit_cons F3
  obtain ⟨_, l4, rfl, ⟨a4, rfl, w4⟩, F5⟩ := fit_cons F4
  obtain rfl := fit_nil F5
  obtain ⟨_, _, h2, h2s⟩ := trod_fieldS Try.underlying150 h hs 2 9 2 1 (by rfl) (by kernel_rfl)
  have b2 := small_str (s := a2) Try.underlying9 h2 h2s
  obtain ⟨_, _, h3, h3s⟩ := trod_fieldS Try.underlying150 h hs 3 9 3 1 (by rfl) (by kernel_rfl)
  have b3 := small_str (s := a3) Try.underlying9 h3 h3s
  exact ⟨⟨a0, a1, a2, a3, a4⟩, rfl, ⟨wf_u8 w0, wf_u8 w1, wf_i64 w4, wf_len b2, wf_len b3⟩⟩
theorem open_Wr (h : DataW.trod enc Try.prog W 0 sp true fuel 110 cs = some x) : ∃ a : Wr, cs = a.row ∧ True := by
  have F := fit_of_trod 60 fuel 110 _ _ (by kernel_rfl) h
  have E : cellTys Try.prog 60 110 = [.str, .str, .bool] := by kernel_rfl
  rw [E] at F
  obtain ⟨_, l0, rfl, ⟨a0, rfl, w0⟩, F1⟩ := fit_cons F
  obtain ⟨_, l1, rfl, ⟨a1, rfl, w1⟩, F2⟩ := fit_cons F1
  obtain ⟨_, l2, rfl, ⟨a2, rfl⟩, F3⟩ := fit_cons F2
  obtain rfl := fit_nil F3
  exact ⟨⟨a0, a1, a2⟩, rfl, trivial⟩
theorem open_Pr (h : DataW.trod enc Try.prog W 0 sp true fuel 26 cs = some x) : ∃ a : Pr, cs = a.row ∧ PrW a := by
  have F := fit_of_trod 60 fuel 26 _ _ (by kernel_rfl) h
  have E : cellTys Try.prog 60 26 = [.int .u8, .int .u16] := by kernel_rfl
  rw [E] at F
  obtain ⟨_, l0, rfl, ⟨a0, rfl, w0⟩, F1⟩ := fit_cons F
  obtain ⟨_, l1, rfl, ⟨a1, rfl, w1⟩, F2⟩ := fit_cons F1
  obtain rfl := fit_nil F2
  exact ⟨⟨a0, a1⟩, rfl, ⟨wf_u8 w0, wf_u16 w1⟩⟩
theorem open_En (h : DataW.trod enc Try.prog W 0 sp true fuel 62 cs = some x) (hs : Small Try.prog 62 x.1) : ∃ a : En, cs = a.row ∧ EnIn (memOf W) a := by
  have F := fit_of_trod 60 fuel 62 _ _ (by kernel_rfl) h
  have E : cellTys Try.prog 60 62 = [.int .u8, .int .u8, .int .u16, .int .u32, .int .u8, .int .u8, .int .u8, .int .u8, .int .u8, .int .u8, .int .u8, .int .u32, .slice, .int .u8, .str, .slice, .int .u8, .int .u16] := by kernel_rfl
  rw [E] at F
  obtain ⟨_, l0, rfl, ⟨a0, rfl, w0⟩, F1⟩ := fit_cons F
  obtain ⟨_, l1, rfl, ⟨a1, rfl, w1⟩, F2⟩ := fit_cons F1
  obtain ⟨_, l2, rfl, ⟨a2, rfl, w2⟩, F3⟩ := fit_cons F2
  obtain ⟨_, l3, rfl, ⟨a3, rfl, w3⟩, F4⟩ := fit_cons F3
  obtain ⟨_, l4, rfl, ⟨a4, rfl, w4⟩, F5⟩ := fit_cons F4
  obtain ⟨_, l5, rfl, ⟨a5, rfl, w5⟩, F6⟩ := fit_cons F5
  obtain ⟨_, l6, rfl, ⟨a6, rfl, w6⟩, F7⟩ := fit_cons F6
  obtain ⟨_, l7, rfl, ⟨a7, rfl, w7⟩, F8⟩ := fit_cons F7
  obtain ⟨_, l8, rfl, ⟨a8, rfl, w8⟩, F9⟩ := fit_cons F8
  obtain ⟨_, l9, rfl, ⟨a9, rfl, w9⟩, F10⟩ := fit_cons F9
  obtain ⟨_, l10, rfl, ⟨a10, rfl, w10⟩, F11⟩ := fit_cons F10
  obtain ⟨_, l11, rfl, ⟨a11, rfl, w11⟩, F12⟩ := fit_cons F11
  obtain ⟨_, l12, rfl, ⟨q12, n12, c12, rfl, w12, z12⟩, F13⟩ := fit_cons F12
  obtain ⟨_, l13, rfl, ⟨a13, rfl, w13⟩, F14⟩ := fit_cons F13
  obtain ⟨_, l14, rfl, ⟨a14, rfl, w14⟩, F15⟩ := fit_cons F14
  obtain ⟨_, l15, rfl, ⟨q15, n15, c15, rfl, w15, z15⟩, F16⟩ := fit_cons F15
  obtain ⟨_, l16, rfl, ⟨a16, rfl, w16⟩, F17⟩ := fit_cons F16
  obtain ⟨_, l17, rfl, ⟨a17, rfl, w17⟩, F18⟩ := fit_cons F17
  obtain rfl := fit_nil F18
  obtain ⟨_, _, h3, h3s⟩ := trod_fieldS Try.underlying62 h hs 3 32 12 1 (by rfl) (by kernel_rfl)
  obtain ⟨q12', c12', s12, e12, b12, m12, p12⟩ := trod_listS Try.underlying32 (k := 5) (by kernel_rfl) (by omega) h3 h3s (B := 48) (by kernel_rfl) pt_len (φ := PtIn) (fun g ec y h hs => open_Pt h hs)
  have e12' : [Value.slice q12 n12 c12] = [Value.slice q12' s12.length c12'] := e12
  injection e12' with e12' _
  injection e12' with f12 g12 k12
  subst f12; subst g12; subst k12
  obtain ⟨_, _, h4, h4s⟩ := trod_fieldS Try.underlying62 h hs 4 34 13 2 (by rfl) (by kernel_rfl)
  obtain ⟨_, _, h4_1, h4_1s⟩ := trod_fieldS Try.underlying34 h4 h4s 1 9 1 1 (by rfl) (by kernel_rfl)
  have b14 := small_str (s := a14) Try.underlying9 h4_1 h4_1s
  obtain ⟨_, _, h5, h5s⟩ := trod_fieldS Try.underlying62 h hs 5 60 15 1 (by rfl) (by kernel_rfl)
  obtain ⟨q15', c15', s15, e15, b15, m15, p15⟩ := trod_listS Try.underlying60 (k := 3) (by kernel_rfl) (by omega) h5 h5s (B := 40) (by kernel_rfl) wr_len (φ := fun _ : Wr => True) (fun g ec y h hs => open_Wr h)
  have e15' : [Value.slice q15 n15 c15] = [Value.slice q15' s15.length c15'] := e15
  injection e15' with e15' _
  injection e15' with f15 g15 k15
  subst f15; subst g15; subst k15
  exact ⟨⟨a0, ⟨a1, a2, a3, a4, a5, a6, a7, a8, a9, a10⟩, a11, (q12, c12), s12, a13, a14, (q15, c15), s15, a16, a17⟩, rfl, ⟨⟨m12, m15⟩, ⟨wf_u8 w0, ⟨wf_u8 w1, wf_u16 w2, wf_u32 w3, wf_u8 w4, wf_u8 w5, wf_u8 w6, wf_u8 w7, wf_u8 w8, wf_u8 w9, wf_u8 w10⟩, wf_u32 w11, p12, wf_u8 w13, wf_len b14, wf_u8 w16, wf_u16 w17⟩⟩⟩
theorem open_Mg (h : DataW.trod enc Try.prog W 0 sp true fuel 40 cs = some x) (hs : Small Try.prog 40 x.1) : ∃ a : Mg, cs = a.row ∧ MgIn (memOf W) a := by
  have F := fit_of_trod 60 fuel 40 _ _ (by kernel_rfl) h
  have E : cellTys Try.prog 60 40 = [.int .u8, .int .u8, .int .u8, .int .u32, .int .u32, .int .u32, .int .u32, .int .u64, .int .u64, .int .u8, .int .u16, .int .u32, .int .u8, .int .u8, .int .u8, .int .u8, .int .u8, .int .u8, .int .u8, .slice, .int .u8, .str, .int .u8, .int .u32, .slice, .int .u8, .int .u16, .bool, .slice, .slice, .slice] := by kernel_rfl
  rw [E] at F
  obtain ⟨_, l0, rfl, ⟨a0, rfl, w0⟩, F1⟩ := fit_cons F
  obtain ⟨_, l1, rfl, ⟨a1, rfl, w1⟩, F2⟩ := fit_cons F1
  obtain ⟨_, l2, rfl, ⟨a2, rfl, w2⟩, F3⟩ := fit_cons F2
  obtain ⟨_, l3, rfl, ⟨a3, rfl, w3⟩, F4⟩ := fit_cons F3
  obtain ⟨_, l4, rfl, ⟨a4, rfl, w4⟩, F5⟩ := fit_cons F4
  obtain ⟨_, l5, rfl, ⟨a5, rfl, w5⟩, F6⟩ := fit_cons F5
  obtain ⟨_, l6, rfl, ⟨a6, rfl, w6⟩, F7⟩ := fit_cons F6
  obtain ⟨_, l7, rfl, ⟨a7, rfl, w7⟩, F8⟩ := fit_cons F7
  obtain ⟨_, l8, rfl, ⟨a8, rfl, w8⟩, F9⟩ := fit_cons F8
  obtain ⟨_, l9, rfl, ⟨a9, rfl, w9⟩, F10⟩ := fit_cons F9
  obtain ⟨_, l10, rfl, ⟨a10, rfl, w10⟩, F11⟩ := fit_cons F10
  obtain ⟨_, l11, rfl, ⟨a11, rfl, w11⟩, F12⟩ := fit_cons F11
  obtain ⟨_, l12, rfl, ⟨a12, rfl, w12⟩, F13⟩ := fit_cons F12
  obtain ⟨_, l13, rfl, ⟨a13, rfl, w13⟩, F14⟩ := fit_cons F13
  obtain ⟨_, l14, rfl, ⟨a14, rfl, w14⟩, F15⟩ := fit_cons F14
  obtain ⟨_, l15, rfl, ⟨a15, rfl, w15⟩, F16⟩ := fit_cons F15
  obtain ⟨_, l16, rfl, ⟨a16, rfl, w16⟩, F17⟩ := fit_cons F16
  obtain ⟨_, l17, rfl, ⟨a17, rfl, w17⟩, F18⟩ := fit_cons F17
  obtain ⟨_, l18, rfl, ⟨a18, rfl, w18⟩, F19⟩ := fit_cons F18
  obtain ⟨_, l19, rfl, ⟨q19, n19, c19, rfl, w19, z19⟩, F20⟩ := fit_cons F19
  obtain ⟨_, l20, rfl, ⟨a20, rfl, w20⟩, F21⟩ := fit_cons F20
  obtain ⟨_, l21, rfl, ⟨a21, rfl, w21⟩, F22⟩ := fit_cons F21
  obtain ⟨_, l22, rfl, ⟨a22, rfl, w22⟩, F23⟩ := fit_cons F22
  obtain ⟨_, l23, rfl, ⟨a23, rfl, w23⟩, F24⟩ := fit_cons F23
  obtain ⟨_, l24, rfl, ⟨q24, n24, c24, rfl, w24, z24⟩, F25⟩ := fit_cons F24
  obtain ⟨_, l25, rfl, ⟨a25, rfl, w25⟩, F26⟩ := fit_cons F25
  obtain ⟨_, l26, rfl, ⟨a26, rfl, w26⟩, F27⟩ := fit_cons F26
  obtain ⟨_, l27, rfl, ⟨a27, rfl⟩, F28⟩ := fit_cons F27
  obtain ⟨_, l28, rfl, ⟨q28, n28, c28, rfl, w28, z28⟩, F29⟩ := fit_cons F28
  obtain ⟨_, l29, rfl, ⟨q29, n29, c29, rfl, w29, z29⟩, F30⟩ := fit_cons F29
  obtain ⟨_, l30, rfl, ⟨q30, n30, c30, rfl, w30, z30⟩, F31⟩ := fit_cons F30
  obtain rfl := fit_nil F31
  obtain ⟨_, _, h10, h10s⟩ := trod_fieldS Try.underlying40 h hs 10 32 19 1 (by rfl) (by kernel_rfl)
  obtain ⟨q19', c19', s19, e19, b19, m19, p19⟩ := trod_listS Try.underlying32 (k := 5) (by kernel_rfl) (by omega) h10 h10s (B := 48) (by kernel_rfl) pt_len (φ := PtIn) (fun g ec y h hs => open_Pt h hs)
  have e19' : [Value.slice q19 n19 c19] = [Value.slice q19' s19.length c19'] := e19
  injection e19' with e19' _
  injection e19' with f19 g19 k19
  subst f19; subst g19; subst k19
  obtain ⟨_, _, h11, h11s⟩ := trod_fieldS Try.underlying40 h hs 11 34 20 2 (by rfl) (by kernel_rfl)
  obtain ⟨_, _, h11_1, h11_1s⟩ := trod_fieldS Try.underlying34 h11 h11s 1 9 1 1 (by rfl) (by kernel_rfl)
  have b21 := small_str (s := a21) Try.underlying9 h11_1 h11_1s
  obtain ⟨_, _, h12, h12s⟩ := trod_fieldS Try.underlying40 h hs 12 37 22 3 (by rfl) (by kernel_rfl)
  obtain ⟨_, _, h12_2, h12_2s⟩ := trod_fieldS Try.underlying37 h12 h12s 2 35 2 1 (by rfl) (by kernel_rfl)
  obtain ⟨q24', c24', s24, e24, b24, m24, p24⟩ := trod_listS Try.underlying35 (k := 2) (by kernel_rfl) (by omega) h12_2 h12_2s (B := 4) (by kernel_rfl) pr_len (φ := PrW) (fun g ec y h hs => open_Pr h)
  have e24' : [Value.slice q24 n24 c24] = [Value.slice q24' s24.length c24'] := e24
  injection e24' with e24' _
  injection e24' with f24 g24 k24
  subst f24; subst g24; subst k24
  obtain ⟨_, _, h15, h15s⟩ := trod_fieldS Try.underlying40 h hs 15 35 28 1 (by rfl) (by kernel_rfl)
  obtain ⟨q28', c28', s28, e28, b28, m28, p28⟩ := trod_listS Try.underlying35 (k := 2) (by kernel_rfl) (by omega) h15 h15s (B := 4) (by kernel_rfl) pr_len (φ := PrW) (fun g ec y h hs => open_Pr h)
  have e28' : [Value.slice q28 n28 c28] = [Value.slice q28' s28.length c28'] := e28
  injection e28' with e28' _
  injection e28' with f28 g28 k28
  subst f28; subst g28; subst k28
  obtain ⟨_, _, h16, h16s⟩ := trod_fieldS Try.underlying40 h hs 16 38 29 1 (by rfl) (by kernel_rfl)
  obtain ⟨q29', c29', s29, e29, b29, m29, p29⟩ := trod_listS Try.underlying38 (k := 18) (by kernel_rfl) (by omega) h16 h16s (B := 104) (by kernel_rfl) en_len (φ := EnIn (memOf W)) (fun g ec y h hs => open_En h hs)
  have e29' : [Value.slice q29 n29 c29] = [Value.slice q29' s29.length c29'] := e29
  injection e29' with e29' _
  injection e29' with f29 g29 k29
  subst f29; subst g29; subst k29
  obtain ⟨_, _, h17, h17s⟩ := trod_fieldS Try.underlying40 h hs 17 38 30 1 (by rfl) (by kernel_rfl)
  obtain ⟨q30', c30', s30, e30, b30, m30, p30⟩ := trod_listS Try.underlying38 (k := 18) (by kernel_rfl) (by omega) h17 h17s (B := 104) (by kernel_rfl) en_len (φ := EnIn (memOf W)) (fun g ec y h hs => open_En h hs)
  have e30' : [Value.slice q30 n30 c30] = [Value.slice q30' s30.length c30'] := e30
  injection e30' with e30' _
  injection e30' with f30 g30 k30
  subst f30; subst g30; subst k30
  exact ⟨⟨a0, a1, a2, a3, a4, a5, a6, a7, a8, ⟨a9, a10, a11, a12, a13, a14, a15, a16, a17, a18⟩, (q19, c19), s19, a20, a21, a22, a23, (q24, c24), s24, a25, a26, a27, (q28, c28), s28, (q29, c29), s29, (q30, c30), s30⟩, rfl, ⟨⟨m19, m24, m28, ⟨m29, fun e he => (p29 e he).m⟩, ⟨m30, fun e he => (p30 e he).m⟩, by have := b19.2; have := reach_lt; show s19.length ≤ _; omega⟩, ⟨⟨wf_u8 w9, wf_u16 w10, wf_u32 w11, wf_u8 w12, wf_u8 w13, wf_u8 w14, wf_u8 w15, wf_u8 w16, wf_u8 w17, wf_u8 w18⟩, p19, fun p hp => (p24 p hp).n.1, fun p hp => (p28 p hp).n.1, in_map p29, in_map p30, wf_u8 w1, (wf_u32 w23).1, wf_u32 w4, wf_u8 w0, ⟨(wf_u32 w3).1, by have := (wf_u32 w3).2; show a3 < _; omega⟩, wf_u64 w7⟩⟩⟩
end
end Go.Proofs.Ytjphfelmaingjaa
namespace Go.Proofs.Ytjphfelmaingjaa
open Go X RowKit Go.ChangeShapes Go.WideShapes Go.ChangeAt Go.Proofs
structure PkIn (m : Mem) (a : Pk) : Prop where
  m : bsM m a.q a.body
  i : PeIn a.er
section
variable {H : Type} {enc : TypeId × Value → H} {W : World} {sp : Nat → Bool} {fuel : Nat} {cs : List Value} {x : DataW H × List MemPlace}
theorem open_Pk (h : DataW.trod enc Try.prog W 0 sp true fuel 68 cs = some x) (hs : Small Try.prog 68 x.1) : ∃ a : Pk, cs = a.row ∧ PkIn (memOf W) a := by
  have F := fit_of_trod 60 fuel 68 _ _ (by kernel_rfl) h
  have E : cellTys Try.prog 60 68 = [.int .u8, .int .u16, .int .u8, .int .u16, .int .u64, .int .u64, .bool, .slice] := by kernel_rfl
  rw [E] at F
  obtain ⟨_, l0, rfl, ⟨a0, rfl, w0⟩, F1⟩ := fit_cons F
  obtain ⟨_, l1, rfl, ⟨a1, rfl, w1⟩, F2⟩ := fit_cons F1
  obtain ⟨_, l2, rfl, ⟨a2, rfl, w2⟩, F3⟩ := fit_cons F2
  obtain ⟨_, l3, rfl, ⟨a3, rfl, w3⟩, F4⟩ := fit_cons F3
  obtain ⟨_, l4, rfl, ⟨a4, rfl, w4⟩, F5⟩ := fit_cons F4
  obtain ⟨_, l5, rfl, ⟨a5, rfl, w5⟩, F6⟩ := fit_cons F5
  obtain ⟨_, l6, rfl, ⟨a6, rfl⟩, F7⟩ := fit_cons F6
  obtain ⟨_, l7, rfl, ⟨q7, n7, c7, rfl, w7, z7⟩, F8⟩ := fit_cons F7
  obtain rfl := fit_nil F8
  obtain ⟨_, _, h5, h5s⟩ := trod_fieldS Try.underlying68 h hs 5 66 7 1 (by rfl) (by kernel_rfl)
  obtain ⟨q7', c7', s7, e7, b7, m7⟩ := trod_bytesS Try.underlying66 Try.underlying5 (by kernel_rfl) h5 h5s (by kernel_rfl)
  have e7' : [Value.slice q7 n7 c7] = [Value.slice q7' s7.length c7'] := e7
  injection e7' with e7' _
  injection e7' with f7 g7 k7
  subst f7; subst g7; subst k7
  obtain ⟨n4, rfl⟩ : ∃ n : Nat, a4 = n := ⟨a4.toNat, by have := (wf_u64 w4).1; omega⟩
  obtain ⟨n5, rfl⟩ : ∃ n : Nat, a5 = n := ⟨a5.toNat, by have := (wf_u64 w5).1; omega⟩
  exact ⟨⟨a0, a1, a2, a3, n4, n5, a6, (q7, c7), s7⟩, rfl, ⟨m7, ⟨wf_u8 w0, wf_u16 w1, wf_u8 w2, wf_u16 w3, by have := (wf_u64 w4).2; show n4 < _; omega, by have := (wf_u64 w5).2; show n5 < _; omega, b7.2⟩⟩⟩
theorem trod_cap {t e : TypeId} {q : Option Addr} {n c : Nat} (ht : Try.prog.underlying t = some (.slice e)) (h : DataW.trod enc Try.prog W 0 sp true fuel t [.slice q n c] = some x) : n ≤ c := by
  rcases DataW.trod_slice ht h with ⟨e, _⟩ | ⟨a, len, cap, elems, rest, n', _, e, _, _, hl, _⟩
  · injection e with e _
    injection e with _ e2 e3
    omega
  · injection e with e _
    injection e with _ e2 e3
    omega
end
end Go.Proofs.Ytjphfelmaingjaa
