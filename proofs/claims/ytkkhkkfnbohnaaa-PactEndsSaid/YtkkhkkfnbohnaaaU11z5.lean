import Derived.Test.YtkkhkkfnbohnaaaU11x
import Derived.Test.YtkkhkkfnbohnaaaU11zb
/- PROVED: gemotlaw11.PactEnds: for every number, list of steps and wish, a proposer whose ballot is the greatest, and who is heard by all, decides: the law returns true; its inputs read as they did. Conditions: none. -/
set_option linter.unusedVariables false
set_option maxRecDepth 100000
namespace Go.Proofs.Ytkkhkkfnbohnaaa
open Go X RowKit Go.ChangeShapes Go.WideShapes Go.ChangeAt Go.Proofs
section
variable {H : Type} {enc : TypeId × Value → H} {W : World} {sp : Nat → Bool} {fuel : Nat} {cs : List Value} {x : DataW H × List MemPlace}
theorem open_St (h : DataW.trod enc Try.prog W 0 sp true fuel 97 cs = some x) : ∃ a : St, cs = a.row ∧ True := by
  have F := fit_of_trod 60 fuel 97 _ _ (by kernel_rfl) h
  have E : cellTys Try.prog 60 97 = [.int .i64, .int .i64, .int .i64, .int .i64, .int .i64] := by kernel_rfl
  rw [E] at F
  obtain ⟨_, l0, rfl, ⟨a0, rfl, w0⟩, F1⟩ := fit_cons F
  obtain ⟨_, l1, rfl, ⟨a1, rfl, w1⟩, F2⟩ := fit_cons F1
  obtain ⟨_, l2, rfl, ⟨a2, rfl, w2⟩, F3⟩ := fit_cons F2
  obtain ⟨_, l3, rfl, ⟨a3, rfl, w3⟩, F4⟩ := fit_cons F3
  obtain ⟨_, l4, rfl, ⟨a4, rfl, w4⟩, F5⟩ := fit_cons F4
  obtain rfl := fit_nil F5
  exact ⟨⟨a0, a1, a2, a3, a4⟩, rfl, trivial⟩
end
theorem lifted5 (os : Os) (started : os.Started) (H : Type) (enc : TypeId × Value → H) :
    ReturnsInHanded {} Try.checked os 5 .any (Rows.pactEndsSpec.pre6 enc Try.prog Try.f5 Rows.pactEndsRow.domain false) (Rows.pactEndsSpec.post enc Try.prog Try.f5 false true false false) := by
  refine returnsInHanded_of_change (C := Try.checked) own started (by kernel_rfl) Try.func5
    (ChangeSpec.witness6 (enc := enc) (C := Try.checked) false ⟨#[], #[.int .i64 0, .slice none 0 0, .int .i64 0], []⟩ 8 (by kernel_rfl) (by kernel_rfl) (by kernel_rfl) (by kernel_rfl)) ?_
  intro W base args ds gs before hval0 hW hcnd _
  have hval : ∀ (j : Nat) t v, Try.f5.params[j]? = some t → args[j]? = some v → Value.okWide Try.prog W .any base t v := hval0
  have hW' := hW
  obtain ⟨p, q, hA0, hV, rfl, hfz, hnd⟩ := hW
  have hA : DataW.TrodAll enc Try.prog W 0 (fun _ => true) true Try.f5.params.toList args.toList ds p := hA0
  rw [Try.params5] at hA hval
  obtain ⟨v0, vs0, d0, ds0, p0, q0, hargs, rfl, rfl, h0, r0⟩ := trodAll_cons hA
  obtain ⟨v1, vs1, d1, ds1, p1, q1, rfl, rfl, rfl, h1, r1⟩ := trodAll_cons r0
  obtain ⟨v2, vs2, d2, ds2, p2, q2, rfl, rfl, rfl, h2, r2⟩ := trodAll_cons r1
  obtain ⟨rfl, rfl, rfl⟩ := trodAll_nil r2
  obtain rfl : args = #[v0, v1, v2] := by cases args; simp_all
  obtain ⟨rfl, rfl⟩ := trodVars_none hV
  obtain ⟨k, rfl, rfl, rfl, wk⟩ := open_int Try.underlying3 (hval 0 3 v0 rfl rfl) h0
  obtain ⟨q', n0, c', rfl⟩ := okWide_slice Try.underlying87 (hval 1 87 v1 rfl rfl)
  obtain ⟨r, rfl, rfl, rfl, wr⟩ := open_int Try.underlying3 (hval 2 3 v2 rfl rfl) h2
  obtain ⟨n', hn⟩ := h1
  obtain ⟨qa, ca, l, hcs, hl, hm, hok⟩ := trod_list Try.underlying87 (k := 5) (by kernel_rfl) (by omega) hn st_len (φ := fun _ : St => True) (fun g ec y h => open_St h)
  have hcs' : [Value.slice q' n0 c'] = [.slice qa l.length ca] := hcs
  injection hcs' with hcs' _
  rw [hcs'] at hW' ⊢
  refine (l_PactEnds W k (qa, ca) l r hm).mono fun e W' ⟨he, hg⟩ => ?_
  subst he
  exact ⟨_, rfl, post_law (by kernel_rfl) rfl hW' rfl rfl rfl hg⟩
theorem pactEnds_proved : Rows.PactEndsSaid :=
  OpenClaim.holds_of_wide 5 Try.f5 rfl rfl rfl rfl rfl rfl rfl ⟨rfl, rfl, rfl, rfl, rfl⟩ rfl rfl rfl rfl rfl (by kernel_rfl) Try.func5 (by kernel_rfl)
    (of_decide_eq_true (by kernel_rfl)) (by unfold Func.isWrapper; first | (rw [if_pos (by decide +kernel)]; kernel_rfl) | (rw [if_neg (by decide +kernel)]; exact ⟨rfl, rfl⟩))
    (fun os started H enc _ => lifted5 os started H enc)
#print axioms pactEnds_proved
end Go.Proofs.Ytkkhkkfnbohnaaa
