import Derived.Test.YtjphfelmaingjaaU07fx
set_option linter.unusedVariables false
set_option maxRecDepth 100000
/- PROVED: gemotlaw07.WireFrames: a packet as bytes, and bytes as a packet, are as the document says, and both ways there and back, of at most 2000 bytes: the law returns true; its inputs read as they did. Conditions: none. -/
namespace Go.Proofs.Ytjphfelmaingjaa
open Go X RowKit Go.ChangeShapes Go.WideShapes Go.ChangeAt Go.Proofs
theorem lifted5 (os : Os) (started : os.Started) (H : Type) (enc : TypeId × Value → H) :
    ReturnsInHanded {} Try.checked os 5 .any (Rows.wireFramesSpec.pre6 enc Try.prog Try.f5 Rows.wireFramesRow.domain false) (Rows.wireFramesSpec.post enc Try.prog Try.f5 false true false false) := by
  refine returnsInHanded_of_change_sized (C := Try.checked) own started (by kernel_rfl) Try.func5
    (ChangeSpec.witness6 (enc := enc) (C := Try.checked) false ⟨#[], #[.agg #[.int .u8 0, .int .u16 0, .int .u8 0, .int .u16 0, .int .u64 0, .int .u64 0, .bool false, .slice none 0 0], .slice none 0 0], []⟩ 8 (by kernel_rfl) (by kernel_rfl) (by kernel_rfl) (by kernel_rfl)) ?_
  intro W base args ds gs before hval0 hW hcnd hsz0 _
  have hval : ∀ (j : Nat) t v, Try.f5.params[j]? = some t → args[j]? = some v → Value.okWide Try.prog W .any base t v := hval0
  have hsz : (DataW.weightsEach Try.prog (Try.f5.params.toList ++ Rows.wireFramesSpec.plain.varTypes Try.prog) (ds ++ gs)).all (· ≤ reachBytes) = true := hsz0
  have hW' := hW
  obtain ⟨p, q, hA0, hV, rfl, hfz, hnd⟩ := hW
  have hA : DataW.TrodAll enc Try.prog W 0 (fun _ => true) true Try.f5.params.toList args.toList ds p := hA0
  rw [Try.params5] at hA hval hsz
  obtain ⟨v0, vs0, d0, ds0, p0, q0, hargs, rfl, rfl, h0, r0⟩ := trodAll_cons hA
  obtain ⟨v1, vs1, d1, ds1, p1, q1, rfl, rfl, rfl, h1, r1⟩ := trodAll_cons r0
  obtain ⟨rfl, rfl, rfl⟩ := trodAll_nil r1
  obtain rfl : args = #[v0, v1] := by cases args; simp_all
  obtain ⟨rfl, rfl⟩ := trodVars_none hV
  obtain ⟨cs0, rfl, _⟩ := okWide_struct Try.underlying68 (hval 0 68 v0 rfl rfl)
  obtain ⟨n0, hn0⟩ := h0
  obtain ⟨p, ha0, hp⟩ := open_Pk hn0 (small_each hsz (j := 0) rfl rfl)
  have hcs0 : cs0 = p.row.toArray := Array.toList_inj.1 ha0
  subst hcs0
  obtain ⟨q', n', c', rfl⟩ := okWide_slice Try.underlying66 (hval 1 66 v1 rfl rfl)
  obtain ⟨n1, hn1⟩ := h1
  have hcap1 : n' ≤ c' := trod_cap Try.underlying66 hn1
  obtain ⟨q1, c1, b, e1, b1, hb⟩ := trod_bytesS Try.underlying66 Try.underlying5 (by kernel_rfl) hn1 (small_each hsz (j := 1) rfl rfl) (by kernel_rfl)
  have e1' : [Value.slice q' n' c'] = [Value.slice q1 b.length c1] := e1
  injection e1' with e1' _
  injection e1' with f1 g1 k1
  subst f1; subst g1; subst k1
  refine (l_WireFrames W p (q', c') b hp.m hb hp.i hcap1).mono fun e W' ⟨he, hg⟩ => ?_
  subst he
  exact ⟨_, rfl, post_law (by kernel_rfl) rfl hW' rfl rfl rfl hg⟩
theorem wireFrames_proved : Rows.WireFramesSaid :=
  OpenClaim.holds_of_wide 5 Try.f5 rfl rfl rfl rfl rfl rfl rfl ⟨rfl, rfl, rfl, rfl, rfl⟩ rfl rfl rfl rfl rfl (by kernel_rfl) Try.func5 (by kernel_rfl)
    (of_decide_eq_true (by kernel_rfl)) (by unfold Func.isWrapper; first | (rw [if_pos (by decide +kernel)]; kernel_rfl) | (rw [if_neg (by decide +kernel)]; exact ⟨rfl, rfl⟩))
    (fun os started H enc _ => lifted5 os started H enc)
#print axioms wireFrames_proved
end Go.Proofs.Ytjphfelmaingjaa
