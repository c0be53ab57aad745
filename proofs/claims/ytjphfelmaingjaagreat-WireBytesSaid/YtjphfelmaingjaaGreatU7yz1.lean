import Derived.Test.YtjphfelmaingjaaGreatUwbf
set_option linter.unusedVariables false
set_option maxHeartbeats 1000000
set_option maxRecDepth 100000
/- PROVED: gemotlaw07.WireBytes: any short message as bytes, and any bytes (at most 4000) as a message, are as the document says: the law returns true; its inputs read as they did. Conditions: none. -/
namespace Go.Proofs.YtjphfelmaingjaaGreat
open Go X RowKit Go.ChangeShapes Go.WideShapes Go.ChangeAt Go.Proofs
theorem lifted3 (os : Os) (started : os.Started) (H : Type) (enc : TypeId × Value → H) :
    ReturnsInHanded {} Tryz.checked os 3 .any (Rows.wireBytesSpec.pre6 enc Tryz.prog Tryz.f3 Rows.wireBytesRow.domain false) (Rows.wireBytesSpec.post enc Tryz.prog Tryz.f3 false true false false) := by
  refine returnsInHanded_of_change_sized (C := Tryz.checked) own started (by kernel_rfl) Tryz.func3
    (ChangeSpec.witness6 (enc := enc) (C := Tryz.checked) false ⟨#[], #[.agg #[.int .u8 0, .int .u8 0, .int .u8 0, .int .u32 0, .int .u32 0, .int .u32 0, .int .u32 0, .int .u64 0, .int .u64 0, .int .u8 0, .int .u16 0, .int .u32 0, .int .u8 0, .int .u8 0, .int .u8 0, .int .u8 0, .int .u8 0, .int .u8 0, .int .u8 0, .slice none 0 0, .int .u8 0, .string ⟨#[]⟩, .int .u8 0, .int .u32 0, .slice none 0 0, .int .u8 0, .int .u16 0, .bool false, .slice none 0 0, .slice none 0 0, .slice none 0 0], .slice none 0 0], []⟩ 8 (by kernel_rfl) (by kernel_rfl) (by kernel_rfl) (by kernel_rfl)) ?_
  intro W base args ds gs before hval0 hW hcnd hsz0 _
  have hval : ∀ (j : Nat) t v, Tryz.f3.params[j]? = some t → args[j]? = some v → Value.okWide Tryz.prog W .any base t v := hval0
  have hsz : (DataW.weightsEach Tryz.prog (Tryz.f3.params.toList ++ Rows.wireBytesSpec.plain.varTypes Tryz.prog) (ds ++ gs)).all (· ≤ reachBytes) = true := hsz0
  have hW' := hW
  obtain ⟨p, q, hA0, hV, rfl, hfz, hnd⟩ := hW
  have hA : DataW.TrodAll enc Tryz.prog W 0 (fun _ => true) true Tryz.f3.params.toList args.toList ds p := hA0
  rw [Tryz.params3] at hA hval hsz
  obtain ⟨v0, vs0, d0, ds0, p0, q0, hargs, rfl, rfl, h0, r0⟩ := trodAll_cons hA
  obtain ⟨v1, vs1, d1, ds1, p1, q1, rfl, rfl, rfl, h1, r1⟩ := trodAll_cons r0
  obtain ⟨rfl, rfl, rfl⟩ := trodAll_nil r1
  obtain rfl : args = #[v0, v1] := by cases args; simp_all
  obtain ⟨rfl, rfl⟩ := trodVars_none hV
  obtain ⟨cs0, rfl, _⟩ := okWide_struct Tryz.underlying40 (hval 0 40 v0 rfl rfl)
  obtain ⟨n0, hn0⟩ := h0
  obtain ⟨a, ha0, ha⟩ := open_Mg hn0 (small_each hsz (j := 0) rfl rfl)
  have hcs0 : cs0 = a.row.toArray := Array.toList_inj.1 ha0
  subst hcs0
  obtain ⟨q', n', c', rfl⟩ := okWide_slice Tryz.underlying41 (hval 1 41 v1 rfl rfl)
  obtain ⟨n1, hn1⟩ := h1
  obtain ⟨q1, c1, b, e1, b1, hb⟩ := trod_bytesS Tryz.underlying41 Tryz.underlying5 (by kernel_rfl) hn1 (small_each hsz (j := 1) rfl rfl) (by kernel_rfl)
  have e1' : [Value.slice q' n' c'] = [Value.slice q1 b.length c1] := e1
  injection e1' with e1' _
  injection e1' with f1 g1 k1
  subst f1; subst g1; subst k1
  refine (l_WireBytes W a (q', c') b ha.m hb ha.i).mono fun e W' ⟨he, hg⟩ => ?_
  subst he
  exact ⟨_, rfl, post_law (by kernel_rfl) rfl hW' rfl rfl rfl hg⟩
theorem wireBytes_proved : Rows.WireBytesSaid :=
  OpenClaim.holds_of_wide 3 Tryz.f3 rfl rfl rfl rfl rfl rfl rfl ⟨rfl, rfl, rfl, rfl, rfl⟩ rfl rfl rfl rfl rfl (by kernel_rfl) Tryz.func3 (by kernel_rfl)
    (of_decide_eq_true (by kernel_rfl)) (by unfold Func.isWrapper; first | (rw [if_pos (by decide +kernel)]; kernel_rfl) | (rw [if_neg (by decide +kernel)]; exact ⟨rfl, rfl⟩))
    (fun os started H enc _ => lifted3 os started H enc)
#print axioms wireBytes_proved
end Go.Proofs.YtjphfelmaingjaaGreat
