import Derived.Test.YtfbjellaijdgbaaDoorU06x
set_option linter.unusedVariables false
set_option maxRecDepth 100000
/- PROVED: gemotlaw06.ViewMeets (a tied card): two quorums of a right view share a member; a view and its next one share more than half of it: the law returns true; its inputs read as they did. Conditions: the three listed tables of the library start as the program lays them (the card ties them to its text). -/
namespace Go.Proofs.YtfbjellaijdgbaaDoor
open Go X RowKit Go.ChangeShapes Go.WideShapes Go.ChangeAt Go.Proofs
theorem l_ViewMeets (w : World) (v : Vw) (dq : Sl) (drop : List Pr) (aq : Sl) (add : List Pr) (hv : VwM (memOf w) v) (hr : ∀ p ∈ v.ms, 0 ≤ p.n) (hn : 0 ≤ v.n ∧ v.n ≤ 4294967295) (hb : v.ms.length * 4 ≤ reachBytes) (hd : PM dq drop (memOf w)) (ha : PM aq add (memOf w)) (hra : ∀ p ∈ add, 0 ≤ p.n) :
    Calls Tryd.prog 4 #[.agg v.row.toArray, slV dq drop.length, slV aq add.length] w (LawR w) :=
  (c_ViewMeets v hr hn dq drop aq add hra (by have := reach_lt; omega) w [] (memOf w) (by simp) (fun a v h => ⟨h, by simp⟩) rfl ⟨hv, hd, ha⟩).mono fun e w' ⟨_, m', L, he, _, C⟩ => ⟨he, C.at_⟩
theorem lifted4 (os : Os) (started : os.Started) (H : Type) (enc : TypeId × Value → H) :
    ReturnsInHanded {} Tryd.checked os 4 .any (fun w args => (Rows.viewMeetsSpec.pre enc Tryd.prog Tryd.f4 [] false w args ∧ laidMetH Tryd.prog laidL w) ∧ sizedMet enc Tryd.prog Tryd.f4 (OpenSpec.ofChange Rows.viewMeetsSpec) false w args)
      (Rows.viewMeetsSpec.post enc Tryd.prog Tryd.f4 false true false false) := by
  refine returnsInHanded_of_change_and (C := Tryd.checked) (X := fun w _ => laidMetH Tryd.prog laidL w) (fun _ _ _ hh h => h.of_heap hh) own started (by kernel_rfl) Tryd.func4
    (ChangeSpec.witness_shaped (enc := enc) (C := Tryd.checked) (os := os) (X := fun w _ => laidMetH Tryd.prog laidL w) false (World.laidAll Tryd.prog os laidL) #[.agg #[.int .u8 0, .int .u32 0, .slice none 0 0], .slice none 0 0, .slice none 0 0] 8 (World.laidAll_os _ _ _) (World.shaped_of_ZipB (by kernel_rfl) (by kernel_rfl)) (by kernel_rfl) (by kernel_rfl) (by kernel_rfl) (laid_met os _)) ?_
  intro W base args ds gs before hval0 hW hcnd hsz0 hL _
  have hval : ∀ (j : Nat) t v, Tryd.f4.params[j]? = some t → args[j]? = some v → Value.okWide Tryd.prog W .any base t v := hval0
  have hsz : (DataW.weightsEach Tryd.prog (Tryd.f4.params.toList ++ Rows.viewMeetsSpec.plain.varTypes Tryd.prog) (ds ++ gs)).all (· ≤ reachBytes) = true := hsz0
  have hW' := hW
  obtain ⟨p, q, hA0, hV, rfl, hfz, hnd⟩ := hW
  have hA : DataW.TrodAll enc Tryd.prog W 0 (fun _ => true) true Tryd.f4.params.toList args.toList ds p := hA0
  rw [Tryd.params4] at hA hval hsz
  obtain ⟨v0, vs0, d0, ds0, p0, q0, hargs, rfl, rfl, h0, r0⟩ := trodAll_cons hA
  obtain ⟨v1, vs1, d1, ds1, p1, q1, rfl, rfl, rfl, h1, r1⟩ := trodAll_cons r0
  obtain ⟨v2, vs2, d2, ds2, p2, q2, rfl, rfl, rfl, h2, r2⟩ := trodAll_cons r1
  obtain ⟨rfl, rfl, rfl⟩ := trodAll_nil r2
  obtain rfl : args = #[v0, v1, v2] := by cases args; simp_all
  obtain ⟨rfl, rfl⟩ := trodVars_none hV
  obtain ⟨cs, rfl, _⟩ := okWide_struct Tryd.underlying25 (hval 0 25 v0 rfl rfl)
  obtain ⟨q', n', c', rfl⟩ := okWide_slice Tryd.underlying23 (hval 1 23 v1 rfl rfl)
  obtain ⟨q'', n'', c'', rfl⟩ := okWide_slice Tryd.underlying23 (hval 2 23 v2 rfl rfl)
  obtain ⟨n0, hn0⟩ := h0
  obtain ⟨v, ha0, ⟨hvm, hvr, hvb⟩, hvn⟩ := open_Vw hn0 (small_each hsz (j := 0) rfl rfl)
  have hcs : cs = v.row.toArray := Array.toList_inj.1 ha0
  subst hcs
  obtain ⟨n1, hn1⟩ := h1
  obtain ⟨dq, drop, hd0, -, hdm, -⟩ := open_Prs hn1 (small_each hsz (j := 1) rfl rfl)
  have hd1 : [Value.slice q' n' c'] = [slV dq drop.length] := hd0
  injection hd1 with hd1 _
  obtain ⟨n2, hn2⟩ := h2
  obtain ⟨aq, add, he0, -, ham, har⟩ := open_Prs hn2 (small_each hsz (j := 2) rfl rfl)
  have he1 : [Value.slice q'' n'' c''] = [slV aq add.length] := he0
  injection he1 with he1 _
  rw [hd1, he1] at hW' ⊢
  refine (l_ViewMeets W v dq drop aq add hvm hvr hvn hvb hdm ham har).mono fun e W' ⟨he, hg⟩ => ?_
  subst he
  exact ⟨_, rfl, post_law (by kernel_rfl) rfl hW' rfl rfl rfl hg⟩
theorem viewMeets_holds : Rows.ViewMeetsSaid :=
  OpenClaim.holds_of_wide 4 Tryd.f4 rfl rfl rfl rfl rfl rfl rfl ⟨rfl, rfl, rfl, rfl, rfl⟩ rfl rfl rfl rfl rfl (by kernel_rfl) Tryd.func4 (by kernel_rfl)
    (of_decide_eq_true (by kernel_rfl)) (by unfold Func.isWrapper; first | (rw [if_pos (by decide +kernel)]; kernel_rfl) | (rw [if_neg (by decide +kernel)]; exact ⟨rfl, rfl⟩))
    (fun os started H enc _ => lifted4 os started H enc)
/-- the card -/
theorem viewMeets_proved : Rows.ViewMeetsCardSaid :=
  Claim7.holds_tied_plain_at .later [] [.data, .data, .data] true (true, "d7cecf545bd781875a0d79f22c4ba84e6b8275a34798a5cafd3ee4d57d6d7496") false
    viewMeets_holds (fun _ h => by cases h) (by kernel_rfl) (fun _ h => by cases h) viewMeets_row_tie rfl ⟨rfl, rfl⟩ (by kernel_rfl) rfl
    (fun f fn hf hfn => by
      obtain rfl : f = 4 := Option.some.inj ((show Tryd.prog.funcNamed "gemot/gemotlaw06.ViewMeets" = some 4 by kernel_rfl).symm.trans hf) |>.symm
      obtain rfl : fn = Tryd.f4 := (Option.some.inj (Tryd.func4.symm.trans hfn)).symm
      exact ⟨by kernel_rfl, fun j t ht => by
        rw [Tryd.params4] at ht
        have hm : t ∈ [25, 23, 23] := by simpa using Array.mem_of_getElem? ht
        have hall : ([25, 23, 23].all fun u => !Tryd.prog.wantsStandIn u) = true := by kernel_rfl
        exact (show Tryd.prog.wantsStandIn t = false by simpa using List.all_eq_true.1 hall t hm)⟩)
    (by kernel_rfl)
#print axioms viewMeets_proved
end Go.Proofs.YtfbjellaijdgbaaDoor
