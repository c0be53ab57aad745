import Derived.Test.YtmfmihkjkgifiaaU10y
import Derived.Test.YtmfmihkjkgifiaaU10t
import Derived.Test.YtmfmihkjkgifiaaXElems
/- PROVED: gemotlaw10.LinkPlays: for every two processes, first number, delay and list of acts, an end of a link does and tells what the document's link does and tells, call by call: the law returns true; its inputs read as they did. Conditions: none. -/
set_option linter.unusedVariables false
set_option maxRecDepth 100000
namespace Go.Proofs.Ytmfmihkjkgifiaa
open Go X RowKit Go.ChangeShapes Go.WideShapes Go.ChangeAt Go.Proofs
section
variable {H : Type} {enc : TypeId × Value → H} {W : World} {sp : Nat → Bool} {fuel : Nat} {cs : List Value} {x : DataW H × List MemPlace}
theorem open_Proc (h : DataW.trod enc Try.prog W 0 sp true fuel 24 cs = some x) : ∃ n l : Int, cs = [.int .u8 n, .int .u16 l] := by
  have F := fit_of_trod 60 fuel 24 _ _ (by kernel_rfl) h
  have E : cellTys Try.prog 60 24 = [.int .u8, .int .u16] := by kernel_rfl
  rw [E] at F
  obtain ⟨_, l0, rfl, ⟨a0, rfl, w0⟩, F0⟩ := fit_cons F
  obtain ⟨_, l1, rfl, ⟨a1, rfl, w1⟩, F1⟩ := fit_cons F0
  obtain rfl := fit_nil F1
  exact ⟨a0, a1, rfl⟩
theorem wf_u64 {n : Int} (h : (Lit.int .u64 n).wf = true) : 0 ≤ n ∧ n < 18446744073709551616 := by
  simp [Lit.wf, IntKind.min, IntKind.max, IntKind.bits, IntKind.signed] at h; omega
theorem open_Pa (h : DataW.trod enc Try.prog W 0 sp true fuel 37 cs = some x) : ∃ p : Pk, cs = p.row ∧ MSrc (memOf W) 1 p.b.V p.b.bs.length (byV p.b.bs) ∧ 0 ≤ p.seq ∧ p.seq < 18446744073709551616 := by
  have F := fit_of_trod 60 fuel 37 _ _ (by kernel_rfl) h
  have E : cellTys Try.prog 60 37 = [.int .u8, .int .u16, .int .u8, .int .u16, .int .u64, .int .u64, .bool, .slice] := by kernel_rfl
  rw [E] at F
  obtain ⟨_, l0, rfl, ⟨a0, rfl, w0⟩, F0⟩ := fit_cons F
  obtain ⟨_, l1, rfl, ⟨a1, rfl, w1⟩, F1⟩ := fit_cons F0
  obtain ⟨_, l2, rfl, ⟨a2, rfl, w2⟩, F2⟩ := fit_cons F1
  obtain ⟨_, l3, rfl, ⟨a3, rfl, w3⟩, F3⟩ := fit_cons F2
  obtain ⟨_, l4, rfl, ⟨a4, rfl, w4⟩, F4⟩ := fit_cons F3
  obtain ⟨_, l5, rfl, ⟨a5, rfl, w5⟩, F5⟩ := fit_cons F4
  obtain ⟨_, l6, rfl, ⟨a6, rfl⟩, F6⟩ := fit_cons F5
  obtain ⟨_, l7, rfl, ⟨q, l, c, rfl, _, _⟩, F7⟩ := fit_cons F6
  obtain rfl := fit_nil F7
  obtain ⟨g, y, hy⟩ := trod_field Try.underlying37 h 5 35 7 1 (by rfl) (by kernel_rfl)
  obtain ⟨q', c', bs, e, _, hm⟩ := trod_bytes Try.underlying35 Try.underlying5 (by kernel_rfl) hy
  have e' : [Value.slice q l c] = [Value.slice q' bs.length c'] := e
  injection e' with e' _
  injection e' with e1 e2 e3
  subst e1; subst e2; subst e3
  exact ⟨⟨a0, a1, a2, a3, a4, a5, a6, ⟨bs, q, c⟩⟩, rfl, hm, wf_u64 w4⟩
theorem open_Al (h : DataW.trod enc Try.prog W 0 sp true fuel 39 cs = some x) : ∃ a : Al, cs = a.row ∧ AlM (memOf W) a := by
  have F := fit_of_trod 60 fuel 39 _ _ (by kernel_rfl) h
  have E : cellTys Try.prog 60 39 = [.int .i64, .int .i64, .slice, .int .u8, .int .u16, .int .u8, .int .u16, .int .u64, .int .u64, .bool, .slice] := by kernel_rfl
  rw [E] at F
  obtain ⟨_, l0, rfl, ⟨a0, rfl, w0⟩, F0⟩ := fit_cons F
  obtain ⟨_, l1, rfl, ⟨a1, rfl, w1⟩, F1⟩ := fit_cons F0
  obtain ⟨_, l2, rfl, ⟨q, l, c, rfl, _, _⟩, F2⟩ := fit_cons F1
  obtain ⟨g, y, hy⟩ := trod_field Try.underlying39 h 2 35 2 1 (by rfl) (by kernel_rfl)
  obtain ⟨q', c', bs, e, _, hm⟩ := trod_bytes Try.underlying35 Try.underlying5 (by kernel_rfl) hy
  have e' : [Value.slice q l c] = [Value.slice q' bs.length c'] := e
  injection e' with e' _
  injection e' with e1 e2 e3
  subst e1; subst e2; subst e3
  obtain ⟨g2, y2, hy2⟩ := trod_field Try.underlying39 h 3 37 3 8 (by rfl) (by kernel_rfl)
  obtain ⟨p, ep, hp, hs0, hs1⟩ := open_Pa hy2
  have hl : l2.length = 8 := by
    have := trod_len Try.underlying39 h
    have hc : Try.prog.cellsOf 39 = 11 := by kernel_rfl
    rw [hc] at this; simpa using this
  have e4 : l2 = p.row := by
    rw [← ep]; show l2 = l2.take 8
    rw [List.take_of_length_le (by omega)]
  subst e4
  exact ⟨⟨a0, a1, ⟨bs, q, c⟩, p⟩, rfl, hm, hp, hs0, hs1⟩
end
theorem lifted3 (os : Os) (started : os.Started) (H : Type) (enc : TypeId × Value → H) :
    ReturnsInHanded {} Try.checked os 3 .any (Rows.linkPlaysSpec.pre6 enc Try.prog Try.f3 Rows.linkPlaysRow.domain false) (Rows.linkPlaysSpec.post enc Try.prog Try.f3 false true false false) := by
  refine returnsInHanded_of_change (C := Try.checked) own started (by kernel_rfl) Try.func3
    (ChangeSpec.witness6 (enc := enc) (C := Try.checked) false ⟨#[], #[.agg #[.int .u8 0, .int .u16 0], .agg #[.int .u8 0, .int .u16 0], .int .u64 0, .int .i64 0, .slice none 0 0], []⟩ 8 (by kernel_rfl) (by kernel_rfl) (by kernel_rfl) (by kernel_rfl)) ?_
  intro W base args ds gs before hval0 hW hcnd _
  have hval : ∀ (j : Nat) t v, Try.f3.params[j]? = some t → args[j]? = some v → Value.okWide Try.prog W .any base t v := hval0
  have hW' := hW
  obtain ⟨p, q, hA0, hV, rfl, hfz, hnd⟩ := hW
  have hA : DataW.TrodAll enc Try.prog W 0 (fun _ => true) true Try.f3.params.toList args.toList ds p := hA0
  rw [Try.params3] at hA hval
  obtain ⟨v0, vs0, d0, ds0, p0, q0, hargs, rfl, rfl, h0, r0⟩ := trodAll_cons hA
  obtain ⟨v1, vs1, d1, ds1, p1, q1, rfl, rfl, rfl, h1, r1⟩ := trodAll_cons r0
  obtain ⟨v2, vs2, d2, ds2, p2, q2, rfl, rfl, rfl, h2, r2⟩ := trodAll_cons r1
  obtain ⟨v3, vs3, d3, ds3, p3, q3, rfl, rfl, rfl, h3, r3⟩ := trodAll_cons r2
  obtain ⟨v4, vs4, d4, ds4, p4, q4, rfl, rfl, rfl, h4, r4⟩ := trodAll_cons r3
  obtain ⟨rfl, rfl, rfl⟩ := trodAll_nil r4
  obtain rfl : args = #[v0, v1, v2, v3, v4] := by cases args; simp_all
  obtain ⟨rfl, rfl⟩ := trodVars_none hV
  obtain ⟨c0, rfl, _⟩ := okWide_struct Try.underlying24 (hval 0 24 v0 rfl rfl)
  obtain ⟨c1, rfl, _⟩ := okWide_struct Try.underlying24 (hval 1 24 v1 rfl rfl)
  obtain ⟨f, rfl, rfl, rfl, wf⟩ := open_int Try.underlying25 (hval 2 25 v2 rfl rfl) h2
  obtain ⟨k, rfl, rfl, rfl, wk⟩ := open_int Try.underlying3 (hval 3 3 v3 rfl rfl) h3
  obtain ⟨q', n', c', rfl⟩ := okWide_slice Try.underlying26 (hval 4 26 v4 rfl rfl)
  obtain ⟨n0, hn0⟩ := h0
  obtain ⟨n1, hn1⟩ := h1
  obtain ⟨n4, hn4⟩ := h4
  obtain ⟨a0, a1, e0⟩ := open_Proc hn0
  obtain ⟨b0, b1, e1⟩ := open_Proc hn1
  have e0' : c0 = #[.int .u8 a0, .int .u16 a1] := Array.toList_inj.1 e0
  have e1' : c1 = #[.int .u8 b0, .int .u16 b1] := Array.toList_inj.1 e1
  subst e0'; subst e1'
  obtain ⟨qa, ca, l, hcs, hl, hm, hok⟩ := trod_list Try.underlying26 (k := 11) (by kernel_rfl) (by omega) hn4 al_len (φ := AlM (memOf W)) (fun g ec y h => open_Al h)
  have hcs' : [Value.slice q' n' c'] = [.slice qa l.length ca] := hcs
  injection hcs' with hcs' _
  rw [hcs'] at hW' ⊢
  refine (l_LinkPlays W a0 a1 b0 b1 f k (wf_u64 wf).1 (wf_u64 wf).2 qa ca l hok hm).mono fun e W' ⟨he, hg⟩ => ?_
  subst he
  exact ⟨_, rfl, post_law (by kernel_rfl) rfl hW' rfl rfl rfl hg⟩
theorem linkPlays_proved : Rows.LinkPlaysSaid :=
  OpenClaim.holds_of_wide 3 Try.f3 rfl rfl rfl rfl rfl rfl rfl ⟨rfl, rfl, rfl, rfl, rfl⟩ rfl rfl rfl rfl rfl (by kernel_rfl) Try.func3 (by kernel_rfl)
    (of_decide_eq_true (by kernel_rfl)) (by unfold Func.isWrapper; first | (rw [if_pos (by decide +kernel)]; kernel_rfl) | (rw [if_neg (by decide +kernel)]; exact ⟨rfl, rfl⟩))
    (fun os started H enc _ => lifted3 os started H enc)
#print axioms linkPlays_proved
end Go.Proofs.Ytmfmihkjkgifiaa
