import Derived.Test.YtgpjjmpjddpocaaDoorU03x
import Derived.Test.YtgpjjmpjddpocaaDoorU03w
/- PROVED: gemotlaw03.PartTells (a tied card): any part as text, any two results together, any two lists of parts held against each other are as the document says: the law returns true; its inputs read as they did. Conditions: the three listed tables of the library start as the program lays them (the card ties them to its text). -/
set_option linter.unusedVariables false
set_option maxRecDepth 100000
namespace Go.Proofs.YtgpjjmpjddpocaaDoor
open Go X RowKit Go.ChangeShapes Go.WideShapes Go.ChangeAt Go.Proofs
theorem lifted5 (os : Os) (started : os.Started) (H : Type) (enc : TypeId × Value → H) :
    ReturnsInHanded {} Tryd.checked os 5 .any (fun w args => (Rows.partTellsSpec.pre enc Tryd.prog Tryd.f5 [] false w args ∧ laidMetH Tryd.prog laidL w) ∧ sizedMet enc Tryd.prog Tryd.f5 (OpenSpec.ofChange Rows.partTellsSpec) false w args)
      (Rows.partTellsSpec.post enc Tryd.prog Tryd.f5 false true false false) := by
  refine returnsInHanded_of_change_and (C := Tryd.checked) (X := fun w _ => laidMetH Tryd.prog laidL w) (fun _ _ _ hh h => h.of_heap hh) own started (by kernel_rfl) Tryd.func5
    (ChangeSpec.witness_shaped (enc := enc) (C := Tryd.checked) (os := os) (X := fun w _ => laidMetH Tryd.prog laidL w) false (World.laidAll Tryd.prog os laidL) #[.agg #[.int .u8 0, .int .u8 0, .string ⟨#[]⟩, .string ⟨#[]⟩, .int .i64 0], .agg #[.int .u8 0, .string ⟨#[]⟩], .agg #[.int .u8 0, .string ⟨#[]⟩], .slice none 0 0] 8 (World.laidAll_os _ _ _) (World.shaped_of_ZipB (by kernel_rfl) (by kernel_rfl)) (by kernel_rfl) (by kernel_rfl) (by kernel_rfl) (laid_met os _)) ?_
  intro W base args ds gs before hval0 hW hcnd hsz0 hL _
  have hT : Tab W := tab_of hL
  have hval : ∀ (j : Nat) t v, Tryd.f5.params[j]? = some t → args[j]? = some v → Value.okWide Tryd.prog W .any base t v := hval0
  have hsz : (DataW.weightsEach Tryd.prog (Tryd.f5.params.toList ++ Rows.partTellsSpec.plain.varTypes Tryd.prog) (ds ++ gs)).all (· ≤ reachBytes) = true := hsz0
  have hW' := hW
  obtain ⟨p, q, hA0, hV, rfl, hfz, hnd⟩ := hW
  have hA : DataW.TrodAll enc Tryd.prog W 0 (fun _ => true) true Tryd.f5.params.toList args.toList ds p := hA0
  rw [Tryd.params5] at hA hval hsz
  obtain ⟨v0, vs0, d0, ds0, p0, q0, hargs, rfl, rfl, h0, r0⟩ := trodAll_cons hA
  obtain ⟨v1, vs1, d1, ds1, p1, q1, rfl, rfl, rfl, h1, r1⟩ := trodAll_cons r0
  obtain ⟨v2, vs2, d2, ds2, p2, q2, rfl, rfl, rfl, h2, r2⟩ := trodAll_cons r1
  obtain ⟨v3, vs3, d3, ds3, p3, q3, rfl, rfl, rfl, h3, r3⟩ := trodAll_cons r2
  obtain ⟨rfl, rfl, rfl⟩ := trodAll_nil r3
  obtain rfl : args = #[v0, v1, v2, v3] := by cases args; simp_all
  obtain ⟨rfl, rfl⟩ := trodVars_none hV
  obtain ⟨cs0, rfl, _⟩ := okWide_struct Tryd.underlying23 (hval 0 23 v0 rfl rfl)
  obtain ⟨n0, hn0⟩ := h0
  obtain ⟨p, ha0, hp⟩ := open_Pt hn0 (small_each hsz (j := 0) rfl rfl)
  have hcs0 : cs0 = p.row.toArray := Array.toList_inj.1 ha0
  subst hcs0
  obtain ⟨cs1, rfl, _⟩ := okWide_struct Tryd.underlying32 (hval 1 32 v1 rfl rfl)
  obtain ⟨n1, hn1⟩ := h1
  obtain ⟨a, ha1, ha⟩ := open_Rs hn1 (small_each hsz (j := 1) rfl rfl)
  have hcs1 : cs1 = a.row.toArray := Array.toList_inj.1 ha1
  subst hcs1
  obtain ⟨cs2, rfl, _⟩ := okWide_struct Tryd.underlying32 (hval 2 32 v2 rfl rfl)
  obtain ⟨n2, hn2⟩ := h2
  obtain ⟨b, ha2, hb⟩ := open_Rs hn2 (small_each hsz (j := 2) rfl rfl)
  have hcs2 : cs2 = b.row.toArray := Array.toList_inj.1 ha2
  subst hcs2
  obtain ⟨q', n', c', rfl⟩ := okWide_slice Tryd.underlying30 (hval 3 30 v3 rfl rfl)
  obtain ⟨n3, hn3⟩ := h3
  obtain ⟨qa, ca, l, hcs, hl, hm, hok⟩ := trod_listS Tryd.underlying30 (k := 5) (by kernel_rfl) (by omega) hn3 (small_each hsz (j := 3) rfl rfl) (B := 48) (by kernel_rfl) pt_len (φ := PtIn) (fun g ec y h hs => open_Pt h hs)
  have hcs' : [Value.slice q' n' c'] = [.slice qa l.length ca] := hcs
  injection hcs' with hcs' _
  rw [hcs'] at hW' ⊢
  refine (l_PartTells W hT p a b qa ca l hp ha hb hm hl.2).mono fun e W' ⟨he, hg⟩ => ?_
  subst he
  exact ⟨_, rfl, post_law (by kernel_rfl) rfl hW' rfl rfl rfl hg⟩
theorem partTells_holds : Rows.PartTellsSaid :=
  OpenClaim.holds_of_wide 5 Tryd.f5 rfl rfl rfl rfl rfl rfl rfl ⟨rfl, rfl, rfl, rfl, rfl⟩ rfl rfl rfl rfl rfl (by kernel_rfl) Tryd.func5 (by kernel_rfl)
    (of_decide_eq_true (by kernel_rfl)) (by unfold Func.isWrapper; first | (rw [if_pos (by decide +kernel)]; kernel_rfl) | (rw [if_neg (by decide +kernel)]; exact ⟨rfl, rfl⟩))
    (fun os started H enc _ => lifted5 os started H enc)
/-- the card -/
theorem partTells_proved : Rows.PartTellsCardSaid :=
  Claim7.holds_tied_plain_at .later [] [.data, .data, .data] true (true, "5cd4582d261f57d72b28af772104a9649a9af4223555dcbca5318bd4d8b422f0") false
    partTells_holds (fun _ h => by cases h) (by kernel_rfl) (fun _ h => by cases h) partTells_row_tie rfl ⟨rfl, rfl⟩ (by kernel_rfl) rfl
    (fun f fn hf hfn => by
      obtain rfl : f = 5 := Option.some.inj ((show Tryd.prog.funcNamed "gemot/gemotlaw03.PartTells" = some 5 by kernel_rfl).symm.trans hf) |>.symm
      obtain rfl : fn = Tryd.f5 := (Option.some.inj (Tryd.func5.symm.trans hfn)).symm
      exact ⟨by kernel_rfl, fun j t ht => by
        rw [Tryd.params5] at ht
        have hm : t ∈ [23, 32, 32, 30] := by simpa using Array.mem_of_getElem? ht
        have hall : ([23, 32, 32, 30].all fun u => !Tryd.prog.wantsStandIn u) = true := by kernel_rfl
        exact (show Tryd.prog.wantsStandIn t = false by simpa using List.all_eq_true.1 hall t hm)⟩)
    (by kernel_rfl)
#print axioms partTells_proved
end Go.Proofs.YtgpjjmpjddpocaaDoor
