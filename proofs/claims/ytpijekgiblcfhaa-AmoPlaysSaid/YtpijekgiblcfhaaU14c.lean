import Derived.Test.YtpijekgiblcfhaaU14b
set_option linter.unusedVariables false
set_option linter.unusedSimpArgs false
set_option maxRecDepth 10000
namespace Go.Proofs
open Go X RowKit
abbrev z0A (z : Nat) (p : Int × Int) : Asn := blk z [.int .u8 p.1, .int .u16 p.2] 50
abbrev z1A (z b : Nat) : Asn := blk z [.pointer (some ⟨b, 0, none⟩)] 25
abbrev pastV (z0 z1 : Nat) : Value := .func (.func 70) #[] #[.pointer (some ⟨z0, 0, none⟩), .pointer (some ⟨z1, 0, none⟩)]
theorem c_past (b : Nat) (p : Int × Int) : Ctr Try.prog 54 #[.pointer (some ⟨b, 0, none⟩), pkV p] noMem [] (fun z : Nat × Nat => pastV z.1 z.2) (fun _ _ => True) (fun z => [z0A z.1 p, z1A z.2 b]) := by
  refine Ctr.mk fun w F m C _ => x_amo_Table_past _ _ _ w _ ?_
  have C1 := (C.alloc [.pointer (some ⟨b, 0, none⟩)] 25).alloc [.int .u8 p.1, .int .u16 p.2] 50
  exact Ctr.ret (_, _) rfl trivial C1
theorem c_past1 (b win z0 z1 : Nat) (wn : Int) (mr mf : Nat) (Fl : List ((Int × Int) × Int)) (p : Int × Int) (d : I) (r : Rw) :
    Ctr Try.prog 70 #[d.V, r.V, .pointer (some ⟨z0, 0, none⟩), .pointer (some ⟨z1, 0, none⟩)] noMem [z0A z0 p, z1A z1 b, tbB b wn mr mf, flA mf Fl] (fun _ : Unit => .bool (pastF Fl p d r)) (fun _ _ => True) (fun _ => [z0A z0 p, z1A z1 b, tbB b wn mr mf, flA mf Fl]) := by
  refine Ctr.mk fun w F m C _ => x_past1 _ _ _ _ _ _ _ _ _ _ _ _ _ _ _ _ _ _ _ _ _ _ _ _ _ w _ ?_
  refine ⟨p.1, p.2, C.blkCells (o := 0) fun j v e => by match j, e with | 0, e => exact e | 1, e => exact e, ?_⟩
  by_cases h : (((d.n == p.1) && (d.l == p.2)) && r.ended) = true
  · rw [if_pos (by rw [h]; rfl)]
    refine ⟨_, C.swap.blkCell (j := 0) rfl, fun w5 L6 h5 g5 => ?_⟩
    replace C := (C.hidL h5 g5).pm [2, 3, 0, 1] rfl
    refine (c_old b wn mr mf Fl d).call (As := [z0A z0 p, z1A z1 b]) C trivial fun _ m2 w8 hk hm _ C => ⟨_, rfl, hk, ?_⟩
    exact Ctr.ret () (by rw [pastF, h]) trivial (C.pm [2, 3, 0, 1] rfl)
  · rw [if_neg (by simpa using h)]
    intro w3 h3
    exact Ctr.ret () (by simp only [Bool.not_eq_true] at h; rw [pastF, h]; rfl) trivial (C.hid0 h3)
theorem c_DeleteFunc (b z0 z1 : Nat) (wn : Int) (mr mf : Nat) (Fl : List ((Int × Int) × Int)) (p : Int × Int) (R : List (I × Rw)) :
    Ctr Try.prog 53 #[.map (some mr), pastV z0 z1] noMem [rwA mr R, z0A z0 p, z1A z1 b, tbB b wn mr mf, flA mf Fl] (fun _ : Unit => .tuple #[]) (fun _ _ => True) (fun _ => [rwA mr (R.filter fun x => !pastF Fl p x.1 x.2), z0A z0 p, z1A z1 b, tbB b wn mr mf, flA mf Fl]) := by
  refine Ctr.mk fun w F m C _ => x_DeleteFunc _ _ _ w _ ?_
  obtain ⟨zs, clock, hzs, hnd, C⟩ := C.mapZI
  obtain ⟨hr, hk, C1⟩ := C.mrange (P := Try.prog) t84
  refine ⟨_, _, hr, hk.size, ?_⟩
  generalize hit : w.heap.size = it at C1 ⊢
  refine ⟨fun w' L' => ∃ (seen : Array Nat) (last : Nat) (m' : Mem), clock ≤ last ∧ seen.toList.Nodup ∧ (∀ s ∈ seen.toList, s ∈ zs.map Prod.snd) ∧
    Ctx F m w w' [] m' [iterA it mr clock seen last, mapZ mr I.V Rw.V (leftZ (pastF Fl p) zs seen.toList) clock, z0A z0 p, z1A z1 b, tbB b wn mr mf, flA mf Fl], fun w' => zs.length + 1 - seenN w' it,
    ⟨#[], clock, m, Nat.le_refl _, by simp, by simp, by rw [leftZ_nil]; exact C1⟩, ?_⟩
  clear C1 hr hk C
  rintro w5 L6 _ ⟨seen, last, m', hl, hn, hin, D⟩
  have hsz0 := seenN_obj D.objAt.1
  rcases Ctx.mnext (P := Try.prog) 0 rfl hl D with ⟨hall, hnx⟩ | ⟨i, hi, w9, hns, hnx, hk9, D9⟩
  · refine ⟨false, [], w5, hnx, Nat.le_refl _, ?_⟩
    rw [if_neg (by decide)]
    refine Ctr.ret (m' := m') (L := []) () rfl trivial ?_
    have D2 := D.drop.mapZA
    rw [leftZ_all (fun z hz => by simpa using hall z hz), hzs] at D2
    exact D2
  · refine ⟨true, [_, _], w9, hnx, hk9.size, ?_⟩
    rw [if_pos rfl]
    have hent := Ctx.mentry (P := Try.prog) hi D9
    refine ⟨_, _, _, _, _, _, _, _, _, _, _, _, _, _, _, _, _, _, _, _, _, _, _, w9, hent, Nat.le_refl _, fun w34 L35 h34 g34 => ?_⟩
    have D10 := (D9.hidL h34 (by rw [hit]; exact g34)).pm [2, 3, 4, 5, 0, 1] rfl
    have hz := List.getElem_mem hi
    have hzm : (leftZ (pastF Fl p) zs seen.toList)[i].2 ∈ zs.map Prod.snd := List.mem_map.2 ⟨_, (List.mem_filter.1 hz).1, rfl⟩
    have hstep := leftZ_step (p := pastF Fl p) (seen := seen.toList) hnd hi
    have hn2 : (seen.push (leftZ (pastF Fl p) zs seen.toList)[i].2).toList.Nodup := by
      rw [Array.toList_push]
      refine List.nodup_append.2 ⟨hn, by simp, ?_⟩
      intro a ha c hc
      simp only [List.mem_singleton] at hc
      subst hc
      intro e; subst e
      exact hns (by simpa using ha)
    have hin2 : ∀ s ∈ (seen.push (leftZ (pastF Fl p) zs seen.toList)[i].2).toList, s ∈ zs.map Prod.snd := by
      intro s hs
      rw [Array.toList_push] at hs
      rcases List.mem_append.1 hs with hs | hs
      · exact hin s hs
      · simp only [List.mem_singleton] at hs; subst hs; exact hzm
    have hcount := nodup_le _ _ hn2 hin2
    have hc2 : seen.size + 1 ≤ zs.length := by simpa using hcount
    refine (c_past1 b 0 z0 z1 wn mr mf Fl p (leftZ (pastF Fl p) zs seen.toList)[i].1.1 (leftZ (pastF Fl p) zs seen.toList)[i].1.2).call (As := [iterA it mr clock (seen.push (leftZ (pastF Fl p) zs seen.toList)[i].2) clock, mapZ mr I.V Rw.V (leftZ (pastF Fl p) zs seen.toList) clock]) D10 trivial fun _ m37 w37 hk37 hm37 _ D11 => ⟨_, rfl, hk37, ?_⟩
    have hmeas : ∀ {w' : World}, w'.heap[it]? = some (.mapIter (some mr) clock (seen.push (leftZ (pastF Fl p) zs seen.toList)[i].2) clock) → Nat.le (zs.length + 1 - seenN w' it + 1) (zs.length + 1 - seenN w5 it) := fun h => by
      rw [seenN_obj h, hsz0, Array.size_push]; exact Nat.le_of_eq (by omega)
    by_cases hp : pastF Fl p (leftZ (pastF Fl p) zs seen.toList)[i].1.1 (leftZ (pastF Fl p) zs seen.toList)[i].1.2 = true
    · rw [if_pos hp]
      rw [if_pos hp] at hstep
      have D12 := D11.pm [5, 4, 0, 1, 2, 3] rfl
      obtain ⟨w39, hr39, hk39, D13⟩ := Ctx.mdelZ (P := Try.prog) (ty := 0) t84 key54 hi D12
      have D14 := D13.pm [1, 0, 2, 3, 4, 5] rfl
      refine ⟨w39, hr39, hk39, ⟨_, clock, m37, Nat.le_refl _, hn2, hin2, ?_⟩, hmeas (Ctx.objAt D14).1⟩
      rw [Array.toList_push, hstep]
      exact Ctx.noL D14
    · rw [if_neg hp]
      rw [if_neg hp] at hstep
      have D14 := D11.pm [4, 5, 0, 1, 2, 3] rfl
      refine ⟨⟨_, clock, m37, Nat.le_refl _, hn2, hin2, ?_⟩, hmeas (Ctx.objAt D14).1⟩
      rw [Array.toList_push, hstep]
      exact Ctx.noL D14
theorem c_Raise (b : Nat) (t : Tb) (p : Int × Int) (n : Int) : Ctr Try.prog 26 #[.pointer (some ⟨b, 0, none⟩), pkV p, .int .u32 n] noMem [tbA b t] (fun _ : Unit => .tuple #[]) (fun _ _ => True) (fun _ => [tbA b (raiseF t p n)]) := by
  refine Ctr.mk fun w F m C _ => x_amo_Table_Raise _ _ _ _ w _ ?_
  obtain ⟨mr, mf, C⟩ := tbO C
  have hf : ∀ {w' L' m'} {As' : List Asn}, Ctx F m w w' L' m' (tbB b t.win mr mf :: As') → FactsW [(⟨b, 2, none⟩, [.map (some mf)])] w' L' := fun C => C.blkFact1 2 _ rfl (facts_nil _ _)
  refine ⟨_, hf C, fun w2 L3 h2 g2 => ?_⟩
  have C1 := C.hidL h2 g2
  refine Ctr.call (As := []) (show Ctr Try.prog 36 #[.pointer (some ⟨b, 0, none⟩)] noMem (tbAs b t mr mf) (fun _ : Unit => .bool false) (fun _ _ => True) (fun _ => tbAs b t mr mf) from Ctr.mk fun w F m C _ => x_amo_Table_none _ w _ ⟨some mr, C.blkCell (j := 1) rfl, Ctr.ret () rfl trivial C⟩) C1 trivial fun _ m5 w5 hk5 hm5 _ C5 => ⟨_, rfl, hk5, hf C5, _, hf C5, fun _ h => h, ?_⟩
  rw [if_pos (by decide)]
  refine C5.gives (c_Proc_Right p.1 p.2) fun w14 k14 C6 => ⟨_, rfl, k14, hf C6, _, hf C6, fun _ h => h, ?_⟩
  by_cases h1 : rightP p.1 p.2 = true ∧ n ≤ 1048576
  rotate_left
  · have hcond : ¬ ((((false || (!rightP p.1 p.2)) || decide (n > 1048576)) == false) = true) := by
      intro hc
      apply h1
      simp only [Bool.false_or, beq_iff_eq, Bool.or_eq_false_iff, Bool.not_eq_false', decide_eq_false_iff_not] at hc
      exact ⟨hc.1, by omega⟩
    rw [if_neg hcond]
    have e : raiseF t p n = t := by
      rw [raiseF, if_neg]
      intro hc
      simp only [Bool.and_eq_true, decide_eq_true_eq] at hc
      exact h1 hc.1
    rw [e]
    exact Ctr.ret () rfl trivial (tbI mr mf C6)
  obtain ⟨h1, h2'⟩ := h1
  rw [if_pos (by rw [h1]; simp; omega)]
  refine ⟨some mf, by simp [Addr.add_mid], _, w14, look_fl (C6.pm [2, 0, 1] rfl) p, kept_refl _ _, hf C6, ?_⟩
  by_cases h3 : n ≤ floorF t.Fl p
  · rw [if_pos (by simpa using h3)]
    have e : raiseF t p n = t := by
      rw [raiseF, if_neg]
      intro hc
      simp only [Bool.and_eq_true, decide_eq_true_eq] at hc
      have := hc.2; omega
    rw [e]
    exact Ctr.ret () rfl trivial (tbI mr mf C6)
  rw [if_neg (by simpa using h3)]
  have e : raiseF t p n = { t with R := t.R.filter (fun x => !pastF (X.mput p n t.Fl) p x.1 x.2), Fl := X.mput p n t.Fl } := by
    rw [raiseF, if_pos]
    simp only [Bool.and_eq_true, decide_eq_true_eq]
    exact ⟨⟨h1, h2'⟩, by omega⟩
  rw [e]
  refine ⟨_, hf C6, some mf, by simp [Addr.add_mid], fun w23 L24 h23 g23 => ?_⟩
  obtain ⟨w25, hr, hk25, C7⟩ := Ctx.mput (P := Try.prog) t85 key50 ((C6.hidL h23 g23).pm [2, 0, 1] rfl) p n
  refine ⟨w25, hr, hk25, ?_⟩
  have C8 : Ctx F m w w25 L24 m5 [tbB b t.win mr mf, rwA mr t.R, flA mf (X.mput p n t.Fl)] := C7.pm [1, 2, 0] rfl
  have hf2 : ∀ {w' L' m'} {As' : List Asn}, Ctx F m w w' L' m' (tbB b t.win mr mf :: As') → FactsW [(⟨b, 1, none⟩, [.map (some mr)])] w' L' := fun C => C.blkFact1 1 _ rfl (facts_nil _ _)
  refine ⟨_, hf2 C8, some mr, by simp [Addr.add_mid], fun w28 L29 h28 g28 => ?_⟩
  refine (c_past b p).call (As := [tbB b t.win mr mf, rwA mr t.R, flA mf (X.mput p n t.Fl)]) (C8.hidL h28 g28) trivial fun z m31 w31 hk31 hm31 _ C9 => ⟨_, rfl, hk31, hf2 (C9.pm [2, 0, 1, 3, 4] rfl), ?_⟩
  obtain ⟨z0, z1⟩ := z
  have C10 := C9.pm [3, 0, 1, 2, 4] rfl
  refine (c_DeleteFunc b z0 z1 t.win mr mf (X.mput p n t.Fl) p t.R).call (As := []) C10 trivial fun _ m34 w34 hk34 hm34 _ C11 => ⟨rfl, hk34, hf2 (C11.pm [3, 0, 1, 2, 4] rfl), ?_⟩
  exact Ctr.ret () rfl trivial (tbI mr mf (C11.pk [3, 0, 4] [1, 2] rfl))
end Go.Proofs
