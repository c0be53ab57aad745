import Derived.Test.YtamnhlkaknjcaaaU09x
import Derived.Test.YtamnhlkaknjcaaaU09o
/- WheelOnce is proved: timers that are set once are each due once, at the first Due that is not ahead of their time: for every two lists of times the law gives true and changes nothing. No conditions. -/
set_option linter.unusedVariables false
set_option maxRecDepth 100000
namespace Go.Proofs.Ytamnhlkaknjcaaa
open Go X RowKit Go.ChangeShapes Go.WideShapes Go.ChangeAt Go.Proofs
theorem row_int {H : Type} {enc : TypeId × Value → H} {W : World} {sp : Nat → Bool} {fuel : Nat} {cs : List Value} {x : DataW H × List MemPlace} (h : DataW.trod enc Try.prog W 0 sp true fuel 3 cs = some x) : ∃ t : Int, cs = iR t ∧ True := by
  have F := fit_of_trod 60 fuel 3 _ _ (by kernel_rfl) h
  have E : cellTys Try.prog 60 3 = [.int .i64] := by kernel_rfl
  rw [E] at F
  obtain ⟨_, l0, rfl, ⟨k0, rfl, u0⟩, G0⟩ := fit_cons F
  obtain rfl := fit_nil G0
  exact ⟨k0, rfl, trivial⟩
theorem lifted4 (os : Os) (started : os.Started) (H : Type) (enc : TypeId × Value → H) :
    ReturnsInHanded {} Try.checked os 4 .any (Rows.wheelOnceSpec.pre6 enc Try.prog Try.f4 Rows.wheelOnceRow.domain false) (Rows.wheelOnceSpec.post enc Try.prog Try.f4 false true false false) := by
  refine returnsInHanded_of_change (C := Try.checked) own started (by kernel_rfl) Try.func4
    (ChangeSpec.witness6 (enc := enc) (C := Try.checked) false ⟨#[], #[.slice none 0 0, .slice none 0 0], []⟩ 8 (by kernel_rfl) (by kernel_rfl) (by kernel_rfl) (by kernel_rfl)) ?_
  intro W base args ds gs before hval0 hW hcnd _
  have hval : ∀ (j : Nat) t v, Try.f4.params[j]? = some t → args[j]? = some v → Value.okWide Try.prog W .any base t v := hval0
  have hW' := hW
  obtain ⟨p, q, hA0, hV, rfl, hfz, hnd⟩ := hW
  have hA : DataW.TrodAll enc Try.prog W 0 (fun _ => true) true Try.f4.params.toList args.toList ds p := hA0
  rw [Try.params4] at hA hval
  obtain ⟨v1, vs1, d1, ds1, p1, q1, hargs, rfl, rfl, h1, r1⟩ := trodAll_cons hA
  obtain ⟨v2, vs2, d2, ds2, p2, q2, rfl, rfl, rfl, h2, r2⟩ := trodAll_cons r1
  obtain ⟨rfl, rfl, rfl⟩ := trodAll_nil r2
  obtain rfl : args = #[v1, v2] := by cases args; simp_all
  obtain ⟨rfl, rfl⟩ := trodVars_none hV
  obtain ⟨q', n', c', rfl⟩ := okWide_slice Try.underlying45 (hval 0 45 v1 rfl rfl)
  obtain ⟨q2', n2', c2', rfl⟩ := okWide_slice Try.underlying45 (hval 1 45 v2 rfl rfl)
  obtain ⟨n, hn⟩ := h1
  obtain ⟨qa, ca, l, hcs, hl, hm, hok⟩ := trod_list Try.underlying45 (k := 1) (by kernel_rfl) (by omega) hn iR_len (φ := fun a : Int => True) (fun g ec y h => row_int h)
  have hcs' : [Value.slice q' n' c'] = [.slice qa l.length ca] := hcs
  injection hcs' with hcs' _
  obtain ⟨n2, hn2⟩ := h2
  obtain ⟨qb, cb, l2, hds, hl2, hm2, hok2⟩ := trod_list Try.underlying45 (k := 1) (by kernel_rfl) (by omega) hn2 iR_len (φ := fun a : Int => True) (fun g ec y h => row_int h)
  have hds' : [Value.slice q2' n2' c2'] = [.slice qb l2.length cb] := hds
  injection hds' with hds' _
  rw [hcs', hds'] at hW' ⊢
  refine (l_WheelOnce W qa qb ca cb l l2 hm hm2).mono fun e W' ⟨he, hg⟩ => ?_
  subst he
  exact ⟨_, rfl, post_law (by kernel_rfl) rfl hW' rfl rfl rfl hg⟩
theorem wheelOnce_proved : Rows.WheelOnceSaid :=
  OpenClaim.holds_of_wide 4 Try.f4 rfl rfl rfl rfl rfl rfl rfl ⟨rfl, rfl, rfl, rfl, rfl⟩ rfl rfl rfl rfl rfl (by kernel_rfl) Try.func4 (by kernel_rfl)
    (of_decide_eq_true (by kernel_rfl)) (by unfold Func.isWrapper; first | (rw [if_pos (by decide +kernel)]; kernel_rfl) | (rw [if_neg (by decide +kernel)]; exact ⟨rfl, rfl⟩))
    (fun os started H enc _ => lifted4 os started H enc)
#print axioms wheelOnce_proved
end Go.Proofs.Ytamnhlkaknjcaaa
