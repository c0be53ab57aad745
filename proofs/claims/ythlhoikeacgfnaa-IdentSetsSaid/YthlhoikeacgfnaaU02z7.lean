import Derived.Test.YthlhoikeacgfnaaU02rs
import Derived.Test.YthlhoikeacgfnaaU02x
import Derived.Test.YthlhoikeacgfnaaXElems
/- IdentSets is proved: a set does and tells what the document says, call by call: for every bound and every list of acts the law gives true and changes nothing. No conditions. -/
set_option linter.unusedVariables false
set_option maxRecDepth 100000
namespace Go.Proofs.Ythlhoikeacgfnaa
open Go X RowKit Go.ChangeShapes Go.WideShapes Go.ChangeAt Go.Proofs
section
variable {H : Type} {enc : TypeId × Value → H} {W : World} {sp : Nat → Bool} {fuel : Nat} {cs : List Value} {x : DataW H × List MemPlace}
theorem open_Ac (h : DataW.trod enc Try.prog W 0 sp true fuel 77 cs = some x) : ∃ s : Ac, cs = s.row ∧ True := by
  have F := fit_of_trod 60 fuel 77 _ _ (by kernel_rfl) h
  have E : cellTys Try.prog 60 77 = [.int .i64, .int .u8, .int .u16, .int .u32, .int .u8, .int .u8, .int .u8, .int .u8, .int .u8, .int .u8, .int .u8] := by kernel_rfl
  rw [E] at F
  obtain ⟨_, l0, rfl, ⟨a0, rfl, w0⟩, F1⟩ := X.fit_cons F
  obtain ⟨_, l1, rfl, ⟨a1, rfl, w1⟩, F2⟩ := X.fit_cons F1
  obtain ⟨_, l2, rfl, ⟨a2, rfl, w2⟩, F3⟩ := X.fit_cons F2
  obtain ⟨_, l3, rfl, ⟨a3, rfl, w3⟩, F4⟩ := X.fit_cons F3
  obtain ⟨_, l4, rfl, ⟨a4, rfl, w4⟩, F5⟩ := X.fit_cons F4
  obtain ⟨_, l5, rfl, ⟨a5, rfl, w5⟩, F6⟩ := X.fit_cons F5
  obtain ⟨_, l6, rfl, ⟨a6, rfl, w6⟩, F7⟩ := X.fit_cons F6
  obtain ⟨_, l7, rfl, ⟨a7, rfl, w7⟩, F8⟩ := X.fit_cons F7
  obtain ⟨_, l8, rfl, ⟨a8, rfl, w8⟩, F9⟩ := X.fit_cons F8
  obtain ⟨_, l9, rfl, ⟨a9, rfl, w9⟩, F10⟩ := X.fit_cons F9
  obtain ⟨_, l10, rfl, ⟨a10, rfl, w10⟩, F11⟩ := X.fit_cons F10
  obtain rfl := X.fit_nil F11
  exact ⟨⟨a0, ⟨⟨a1, a2, a3, a4, a5, a6, a7, a8, a9, a10⟩, ⟨X.wf_u8 w1, X.wf_u16 w2, X.wf_u32 w3, X.wf_u8 w4, X.wf_u8 w5, X.wf_u8 w6, X.wf_u8 w7, X.wf_u8 w8, X.wf_u8 w9, X.wf_u8 w10⟩⟩⟩, rfl, trivial⟩
end
theorem lifted7 (os : Os) (started : os.Started) (H : Type) (enc : TypeId × Value → H) :
    ReturnsInHanded {} Try.checked os 7 .any (Rows.identSetsSpec.pre6 enc Try.prog Try.f7 Rows.identSetsRow.domain false) (Rows.identSetsSpec.post enc Try.prog Try.f7 false true false false) := by
  refine returnsInHanded_of_change (C := Try.checked) own started (by kernel_rfl) Try.func7
    (ChangeSpec.witness6 (enc := enc) (C := Try.checked) false ⟨#[], #[.int .i64 0, .slice none 0 0], []⟩ 8 (by kernel_rfl) (by kernel_rfl) (by kernel_rfl) (by kernel_rfl)) ?_
  intro W base args ds gs before hval0 hW hcnd _
  have hval : ∀ (j : Nat) t v, Try.f7.params[j]? = some t → args[j]? = some v → Value.okWide Try.prog W .any base t v := hval0
  have hW' := hW
  obtain ⟨p, q, hA0, hV, rfl, hfz, hnd⟩ := hW
  have hA : DataW.TrodAll enc Try.prog W 0 (fun _ => true) true Try.f7.params.toList args.toList ds p := hA0
  rw [Try.params7] at hA hval
  obtain ⟨v0, vs0, d0, ds0, p0, q0, hargs, rfl, rfl, h0, r0⟩ := trodAll_cons hA
  obtain ⟨v1, vs1, d1, ds1, p1, q1, rfl, rfl, rfl, h1, r1⟩ := trodAll_cons r0
  obtain ⟨rfl, rfl, rfl⟩ := trodAll_nil r1
  obtain rfl : args = #[v0, v1] := by cases args; simp_all
  obtain ⟨rfl, rfl⟩ := trodVars_none hV
  obtain ⟨k, rfl, rfl, rfl, wk⟩ := open_int Try.underlying3 (hval 0 3 v0 rfl rfl) h0
  obtain ⟨q', n', c', rfl⟩ := okWide_slice Try.underlying70 (hval 1 70 v1 rfl rfl)
  obtain ⟨n, hn⟩ := h1
  obtain ⟨qa, ca, l, hcs, hl, hm, hok⟩ := trod_list Try.underlying70 (k := 11) (by kernel_rfl) (by omega) hn ac_len (φ := fun a : Ac => True) (fun g ec y h => open_Ac h)
  have hcs' : [Value.slice q' n' c'] = [.slice qa l.length ca] := hcs
  injection hcs' with hcs' _
  rw [hcs'] at hW' ⊢
  refine (l_IdentSets W k qa ca l hm).mono fun e W' ⟨he, hg⟩ => ?_
  subst he
  exact ⟨_, rfl, post_law (by kernel_rfl) rfl hW' rfl rfl rfl hg⟩
theorem identSets_proved : Rows.IdentSetsSaid :=
  OpenClaim.holds_of_wide 7 Try.f7 rfl rfl rfl rfl rfl rfl rfl ⟨rfl, rfl, rfl, rfl, rfl⟩ rfl rfl rfl rfl rfl (by kernel_rfl) Try.func7 (by kernel_rfl)
    (of_decide_eq_true (by kernel_rfl)) (by unfold Func.isWrapper; first | (rw [if_pos (by decide +kernel)]; kernel_rfl) | (rw [if_neg (by decide +kernel)]; exact ⟨rfl, rfl⟩))
    (fun os started H enc _ => lifted7 os started H enc)
#print axioms identSets_proved
end Go.Proofs.Ythlhoikeacgfnaa
