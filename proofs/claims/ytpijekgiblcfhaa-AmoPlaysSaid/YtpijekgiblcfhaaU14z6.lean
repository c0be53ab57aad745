import Derived.Test.YtpijekgiblcfhaaU14x
import Derived.Test.YtpijekgiblcfhaaU14bbc
/- PROVED: gemotlaw14.AmoPlays: whatever is asked of a table of calls and of the document's table, in any order and with any window, both answer alike, and stand alike after each act: the law returns true for every window and every list of acts; its inputs read as they did. Conditions: none. -/
set_option linter.unusedVariables false
set_option maxRecDepth 100000
namespace Go.Proofs.Ytpijekgiblcfhaa
open Go X RowKit Go.ChangeShapes Go.WideShapes Go.ChangeAt Go.Proofs
theorem lifted6 (os : Os) (started : os.Started) (H : Type) (enc : TypeId × Value → H) :
    ReturnsInHanded {} Try.checked os 6 .any (Rows.amoPlaysSpec.pre6 enc Try.prog Try.f6 Rows.amoPlaysRow.domain false) (Rows.amoPlaysSpec.post enc Try.prog Try.f6 false true false false) := by
  refine returnsInHanded_of_change (C := Try.checked) own started (by kernel_rfl) Try.func6
    (ChangeSpec.witness6 (enc := enc) (C := Try.checked) false ⟨#[], #[.int .i64 0, .slice none 0 0], []⟩ 8 (by kernel_rfl) (by kernel_rfl) (by kernel_rfl) (by kernel_rfl)) ?_
  intro W base args ds gs before hval0 hW hcnd _
  have hval : ∀ (j : Nat) t v, Try.f6.params[j]? = some t → args[j]? = some v → Value.okWide Try.prog W .any base t v := hval0
  have hW' := hW
  obtain ⟨p, q, hA0, hV, rfl, hfz, hnd⟩ := hW
  have hA : DataW.TrodAll enc Try.prog W 0 (fun _ => true) true Try.f6.params.toList args.toList ds p := hA0
  rw [Try.params6] at hA hval
  obtain ⟨v0, vs0, d0, ds0, p0, q0, hargs, rfl, rfl, h0, r0⟩ := trodAll_cons hA
  obtain ⟨v1, vs1, d1, ds1, p1, q1, rfl, rfl, rfl, h1, r1⟩ := trodAll_cons r0
  obtain ⟨rfl, rfl, rfl⟩ := trodAll_nil r1
  obtain rfl : args = #[v0, v1] := by cases args; simp_all
  obtain ⟨rfl, rfl⟩ := trodVars_none hV
  obtain ⟨k, rfl, rfl, rfl, wk⟩ := open_int Try.underlying3 (hval 0 3 v0 rfl rfl) h0
  obtain ⟨q', n', c', rfl⟩ := okWide_slice Try.underlying22 (hval 1 22 v1 rfl rfl)
  obtain ⟨n, hn⟩ := h1
  obtain ⟨qa, ca, l, hcs, hl, hm, hok⟩ := trod_list Try.underlying22 (k := 14) (by kernel_rfl) (by omega) hn ac_len (φ := fun a : Ac => a.d.In) (fun g ec y h => open_Ac h)
  have hcs' : [Value.slice q' n' c'] = [.slice qa l.length ca] := hcs
  injection hcs' with hcs' _
  rw [hcs'] at hW' ⊢
  refine (l_AmoPlays W k qa ca l hok hm).mono fun e W' ⟨he, hg⟩ => ?_
  subst he
  exact ⟨_, rfl, post_law (by kernel_rfl) rfl hW' rfl rfl rfl hg⟩
theorem amoPlays_proved : Rows.AmoPlaysSaid :=
  OpenClaim.holds_of_wide 6 Try.f6 rfl rfl rfl rfl rfl rfl rfl ⟨rfl, rfl, rfl, rfl, rfl⟩ rfl rfl rfl rfl rfl (by kernel_rfl) Try.func6 (by kernel_rfl)
    (of_decide_eq_true (by kernel_rfl)) (by unfold Func.isWrapper; first | (rw [if_pos (by decide +kernel)]; kernel_rfl) | (rw [if_neg (by decide +kernel)]; exact ⟨rfl, rfl⟩))
    (fun os started H enc _ => lifted6 os started H enc)
#print axioms amoPlays_proved
end Go.Proofs.Ytpijekgiblcfhaa
