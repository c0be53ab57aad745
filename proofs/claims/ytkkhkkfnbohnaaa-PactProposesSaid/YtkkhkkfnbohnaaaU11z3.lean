import Derived.Test.YtkkhkkfnbohnaaaU11x
import Derived.Test.YtkkhkkfnbohnaaaU11u
/- PROVED: gemotlaw11.PactProposes: for every view, ballot number and list of acts, a proposer does and tells what the document says, call by call: the law returns true; its inputs read as they did. Conditions: none. -/
set_option linter.unusedVariables false
set_option maxRecDepth 100000
namespace Go.Proofs.Ytkkhkkfnbohnaaa
open Go X RowKit Go.ChangeShapes Go.WideShapes Go.ChangeAt Go.Proofs
section
variable {H : Type} {enc : TypeId × Value → H} {W : World} {sp : Nat → Bool} {fuel : Nat} {cs : List Value} {x : DataW H × List MemPlace}
theorem open_Vw (h : DataW.trod enc Try.prog W 0 sp true fuel 58 cs = some x) : ∃ a : Vw, cs = a.row ∧ (VwM (memOf W) a ∧ (∀ p ∈ a.ms, PrW p) ∧ 0 ≤ a.n) := by
  have F := fit_of_trod 60 fuel 58 _ _ (by kernel_rfl) h
  have E : cellTys Try.prog 60 58 = [.int .u8, .int .u32, .slice] := by kernel_rfl
  rw [E] at F
  obtain ⟨_, l0, rfl, ⟨a0, rfl, w0⟩, F1⟩ := fit_cons F
  obtain ⟨_, l1, rfl, ⟨a1, rfl, w1⟩, F2⟩ := fit_cons F1
  obtain ⟨_, l2, rfl, ⟨q2, n2, c2, rfl, w2, z2⟩, F3⟩ := fit_cons F2
  obtain rfl := fit_nil F3
  obtain ⟨_, _, h2⟩ := trod_field Try.underlying58 h 2 30 2 1 (by rfl) (by kernel_rfl)
  obtain ⟨q2', c2', s2, e2, b2, m2, p2⟩ := trod_list Try.underlying30 (k := 2) (by kernel_rfl) (by omega) h2 pr_len (φ := PrW) (fun g ec y h => open_Pr h)
  have e2' : [Value.slice q2 n2 c2] = [Value.slice q2' s2.length c2'] := e2
  injection e2' with e2' _
  injection e2' with f2 g2 k2
  subst f2; subst g2; subst k2
  exact ⟨⟨a0, a1, (q2, c2), s2⟩, rfl, ⟨m2, p2, (wf_u32 w1).1⟩⟩
end
theorem lifted4 (os : Os) (started : os.Started) (H : Type) (enc : TypeId × Value → H) :
    ReturnsInHanded {} Try.checked os 4 .any (Rows.pactProposesSpec.pre6 enc Try.prog Try.f4 Rows.pactProposesRow.domain false) (Rows.pactProposesSpec.post enc Try.prog Try.f4 false true false false) := by
  refine returnsInHanded_of_change (C := Try.checked) own started (by kernel_rfl) Try.func4
    (ChangeSpec.witness6 (enc := enc) (C := Try.checked) false ⟨#[], #[.agg #[.int .u8 0, .int .u32 0, .slice none 0 0], .int .u64 0, .slice none 0 0], []⟩ 8 (by kernel_rfl) (by kernel_rfl) (by kernel_rfl) (by kernel_rfl)) ?_
  intro W base args ds gs before hval0 hW hcnd _
  have hval : ∀ (j : Nat) t v, Try.f4.params[j]? = some t → args[j]? = some v → Value.okWide Try.prog W .any base t v := hval0
  have hW' := hW
  obtain ⟨p, q, hA0, hV, rfl, hfz, hnd⟩ := hW
  have hA : DataW.TrodAll enc Try.prog W 0 (fun _ => true) true Try.f4.params.toList args.toList ds p := hA0
  rw [Try.params4] at hA hval
  obtain ⟨v0, vs0, d0, ds0, p0, q0, hargs, rfl, rfl, h0, r0⟩ := trodAll_cons hA
  obtain ⟨v1, vs1, d1, ds1, p1, q1, rfl, rfl, rfl, h1, r1⟩ := trodAll_cons r0
  obtain ⟨v2, vs2, d2, ds2, p2, q2, rfl, rfl, rfl, h2, r2⟩ := trodAll_cons r1
  obtain ⟨rfl, rfl, rfl⟩ := trodAll_nil r2
  obtain rfl : args = #[v0, v1, v2] := by cases args; simp_all
  obtain ⟨rfl, rfl⟩ := trodVars_none hV
  obtain ⟨cs, rfl, _⟩ := okWide_struct Try.underlying58 (hval 0 58 v0 rfl rfl)
  obtain ⟨r, rfl, rfl, rfl, wr⟩ := open_int Try.underlying29 (hval 1 29 v1 rfl rfl) h1
  obtain ⟨q', n', c', rfl⟩ := okWide_slice Try.underlying22 (hval 2 22 v2 rfl rfl)
  obtain ⟨_, hv0⟩ := h0
  obtain ⟨v, ha, hvm, hvp, hvn⟩ := open_Vw hv0
  have hcs : cs = v.row.toArray := Array.toList_inj.1 ha
  subst hcs
  obtain ⟨n, hn⟩ := h2
  obtain ⟨qa, ca, l, hcs, hl, hm, hok⟩ := trod_list Try.underlying22 (k := 8) (by kernel_rfl) (by omega) hn av_len (φ := fun a : Av => AvM (memOf W) a ∧ AvW a) (fun g ec y h => open_Av h)
  have hcs' : [Value.slice q' n' c'] = [.slice qa l.length ca] := hcs
  injection hcs' with hcs' _
  rw [hcs'] at hW' ⊢
  refine (l_PactProposes W v r (qa, ca) l hvm (fun p h => (hvp p h).n.1) hvn hm (fun a h => (hok a h).1)).mono fun e W' ⟨he, hg⟩ => ?_
  subst he
  exact ⟨_, rfl, post_law (by kernel_rfl) rfl hW' rfl rfl rfl hg⟩
theorem pactProposes_proved : Rows.PactProposesSaid :=
  OpenClaim.holds_of_wide 4 Try.f4 rfl rfl rfl rfl rfl rfl rfl ⟨rfl, rfl, rfl, rfl, rfl⟩ rfl rfl rfl rfl rfl (by kernel_rfl) Try.func4 (by kernel_rfl)
    (of_decide_eq_true (by kernel_rfl)) (by unfold Func.isWrapper; first | (rw [if_pos (by decide +kernel)]; kernel_rfl) | (rw [if_neg (by decide +kernel)]; exact ⟨rfl, rfl⟩))
    (fun os started H enc _ => lifted4 os started H enc)
#print axioms pactProposes_proved
end Go.Proofs.Ytkkhkkfnbohnaaa
