import Derived.Test.YtpijekgiblcfhaaU14c
import Derived.Test.YtpijekgiblcfhaaV14e
import Derived.Shelf.SlMaps.Clone
import Derived.Test.YtpijekgiblcfhaaU14m
set_option linter.unusedVariables false
set_option linter.unusedSimpArgs false
set_option maxRecDepth 10000
namespace Go.Proofs
open Go X RowKit Go.Shelf
set_option maxHeartbeats 1000000 in
theorem q37 (b : Nat) (es : Array MapEntry) (clock : Nat) (w : World) (hb : w.heap[b]? = some (.map es clock)) :
    Calls Try.prog 37 #[.map (some b)] w fun e w' => e = .returned (.map (some w.heap.size)) ∧ w' = w.alloc (.map es clock) := by
  have hq := fun w => run_eql_map_nil_sl (P := Try.prog) w 84 _ _ (some b) t84
  go_enter Try.func37, Try.ntmps37
  go_wp2
  rw [run_callFunc_extern Try.func57 (by kernel_rfl) (by kernel_rfl) (by kernel_rfl) (e := Extern.MapsClone.clone) (by kernel_rfl), run_maps_clone_sl w 84 hb]
  simp only [Result.andThen]
  rw [Oper.upon_value]
  go_wp2
  rw [run_typeAssert_map_sl _ 84 20 _ _ _ t84]
  simp only [Result.andThen]
  rw [Oper.upon_value]
  go_wp2
  go_ret
  exact ⟨rfl, rfl⟩
set_option maxHeartbeats 1000000 in
theorem q38 (b : Nat) (es : Array MapEntry) (clock : Nat) (w : World) (hb : w.heap[b]? = some (.map es clock)) :
    Calls Try.prog 38 #[.map (some b)] w fun e w' => e = .returned (.map (some w.heap.size)) ∧ w' = w.alloc (.map es clock) := by
  have hq := fun w => run_eql_map_nil_sl (P := Try.prog) w 85 _ _ (some b) t85
  go_enter Try.func38, Try.ntmps38
  go_wp2
  rw [run_callFunc_extern Try.func57 (by kernel_rfl) (by kernel_rfl) (by kernel_rfl) (e := Extern.MapsClone.clone) (by kernel_rfl), run_maps_clone_sl w 85 hb]
  simp only [Result.andThen]
  rw [Oper.upon_value]
  go_wp2
  rw [run_typeAssert_map_sl _ 85 20 _ _ _ t85]
  simp only [Result.andThen]
  rw [Oper.upon_value]
  go_wp2
  go_ret
  exact ⟨rfl, rfl⟩
section
variable {α β : Type} [DecidableEq α] {enc : α → Value} {encV : β → Value}
theorem cloneC {k : Nat} (h : ∀ (b : Nat) (es : Array MapEntry) (clock : Nat) (w : World), w.heap[b]? = some (.map es clock) → Calls Try.prog k #[.map (some b)] w fun e w' => e = .returned (.map (some w.heap.size)) ∧ w' = w.alloc (.map es clock)) (b : Nat) (l : List (α × β)) :
    Ctr Try.prog k #[.map (some b)] (fun _ => True) [mapA b enc encV l] (fun b' : Nat => .map (some b')) (fun _ _ => True) (fun b' => [mapA b enc encV l, mapA b' enc encV l]) := by
  refine Ctr.mk fun w F m C _ => ?_
  obtain ⟨es, clock, hb, hm⟩ := C.mapO
  refine (h b es clock w hb).mono fun e w' ⟨he, hw⟩ => ?_
  subst he; subst hw
  exact ⟨w.heap.size, m, [], rfl, trivial, (C.newO (A := mapA w.heap.size enc encV l) _ ⟨rfl, es, clock, heap_alloc_new w _, hm⟩).swap⟩
end
theorem c_Clone (b : Nat) (t : Tb) : Ctr Try.prog 12 #[.pointer (some ⟨b, 0, none⟩)] noMem [tbA b t] (fun b' : Nat => .pointer (some ⟨b', 0, none⟩)) (fun _ _ => True) (fun b' => [tbA b t, tbA b' t]) := by
  refine Ctr.mk fun w F m C _ => x_amo_Table_Clone _ w _ ?_
  refine (c_none b t).call (As := []) C trivial fun _ m2 w2 hk hm _ C => ⟨_, rfl, hk.size, ?_⟩
  rw [if_neg (by decide)]
  obtain ⟨mr, mf, C⟩ := tbO C
  have hf : ∀ {w' L' m'} {As' : List Asn}, Ctx F m w w' L' m' (tbB b t.win mr mf :: As') → FactsW [(⟨b, 0, none⟩, [.int .u32 t.win]), (⟨b, 1, none⟩, [.map (some mr)]), (⟨b, 2, none⟩, [.map (some mf)])] w' L' := fun C => C.blkFact1 0 _ rfl (C.blkFact1 1 _ rfl (C.blkFact1 2 _ rfl (facts_nil _ _)))
  refine ⟨_, hf C.noL, t.win, by simp [Addr.add_mid], some mr, by simp [Addr.add_mid], some mf, by simp [Addr.add_mid], fun w8 h8 => ?_⟩
  replace C := (C.hid0 h8).pm [1, 0, 2] rfl
  refine (cloneC (enc := I.V) (encV := Rw.V) q37 mr t.R).call (As := [tbB b t.win mr mf, flA mf t.Fl]) C trivial fun mr' m3 w10 hk hm _ C => ⟨_, rfl, hk.size, ?_⟩
  replace C := C.pm [2, 0, 1, 3] rfl
  refine ⟨hf C.noL, ?_⟩
  refine (cloneC (enc := pkV) (encV := nV) q38 mf t.Fl).call (As := [tbB b t.win mr mf, rwA mr t.R, rwA mr' t.R]) (C.pm [3, 0, 1, 2] rfl) trivial fun mf' m4 w13 hk hm _ C => ⟨_, rfl, hk.size, ?_⟩
  replace C := C.pm [2, 3, 0, 4, 1] rfl
  refine ⟨hf C.noL, ?_⟩
  have C2 := C.alloc [.int .u32 t.win, .map (some mr'), .map (some mf')] 87
  refine ⟨hf (C2.pm [1, 2, 3, 4, 5, 0] rfl).noL, ?_⟩
  refine Ctr.ret (m' := m4) (L := []) w13.heap.size rfl trivial ?_
  have C3 : Ctx F m w _ [] m4 (tbAs b t mr mf ++ tbAs w13.heap.size t mr' mf') := (C2.pm [1, 2, 3, 0, 4, 5] rfl).noL
  have C4 := tbI mr mf C3
  exact (tbI mr' mf' (C4.pm [1, 2, 3, 0] rfl)).swap
end Go.Proofs
namespace Go.Proofs
open Go X RowKit
def eqMap {α β : Type} [DecidableEq α] [DecidableEq β] (l1 l2 : List (α × β)) : Bool := decide (l1.length = l2.length ∧ ∀ x ∈ l1, fnd x.1 l2 = some x.2)
theorem eqMap_no {α β : Type} [DecidableEq α] [DecidableEq β] {l1 l2 : List (α × β)} (h : ¬ (l1.length = l2.length ∧ ∀ x ∈ l1, fnd x.1 l2 = some x.2)) : eqMap l1 l2 = false := by rw [eqMap, decide_eq_false_iff_not]; exact h
theorem c_EqR (a b : Nat) (l1 l2 : List (I × Rw)) : Ctr Try.prog 39 #[.map (some a), .map (some b)] noMem [rwA a l1, rwA b l2] (fun _ : Unit => .bool (eqMap l1 l2)) (fun _ _ => True) (fun _ => [rwA a l1, rwA b l2]) := by
  refine Ctr.mk fun w F m C _ => x_EqR _ _ w _ ⟨_, w, Ctx.mlen (P := Try.prog) (ty := 3) t84 C, Nat.le_refl _, _, w, Ctx.mlen (P := Try.prog) (ty := 3) t84 C.swap, Nat.le_refl _, ?_⟩
  by_cases hl : l1.length = l2.length
  rotate_left
  · rw [if_pos (by simp; omega)]
    exact Ctr.ret () (by rw [eqMap_no fun h => hl h.1]) trivial C
  rw [if_neg (by simp [hl])]
  obtain ⟨zs, clock, hzs, hnd, C⟩ := C.mapZI
  obtain ⟨hr, hk, C1⟩ := C.mrange (P := Try.prog) t84
  refine ⟨_, _, hr, hk.size, ?_⟩
  generalize hit : w.heap.size = it at C1 ⊢
  refine ⟨fun w' L' => ∃ (seen : Array Nat) (last : Nat) (m' : Mem), clock ≤ last ∧ seen.toList.Nodup ∧ (∀ s ∈ seen.toList, s ∈ zs.map Prod.snd) ∧ (∀ z ∈ zs, z.2 ∈ seen → fnd z.1.1 l2 = some z.1.2) ∧
    Ctx F m w w' [] m' [iterA it a clock seen last, mapZ a I.V Rw.V zs clock, rwA b l2], fun w' => zs.length + 1 - seenN w' it,
    ⟨#[], clock, m, Nat.le_refl _, by simp, by simp, by simp, C1⟩, ?_⟩
  clear C1 hr hk C
  rintro w9 L10 _ ⟨seen, last, m', hlast, hn, hin, hgood, D⟩
  have hsz0 := seenN_obj D.objAt.1
  rcases Ctx.mnext (P := Try.prog) 0 rfl hlast D with ⟨hall, hnx⟩ | ⟨i, hi, w13, hns, hnx, hk9, D9⟩
  · refine ⟨false, [], w9, hnx, Nat.le_refl _, ?_⟩
    rw [if_neg (by decide)]
    have D2 := D.drop.mapZA
    rw [hzs] at D2
    refine Ctr.ret (m' := m') (L := []) () ?_ trivial D2
    rw [show eqMap l1 l2 = true from decide_eq_true ⟨hl, fun x hx => ?_⟩]
    rw [← hzs] at hx
    obtain ⟨z, hz, rfl⟩ := List.mem_map.1 hx
    exact hgood z hz (hall z hz)
  · refine ⟨true, [_, _], w13, hnx, hk9.size, ?_⟩
    rw [if_pos rfl]
    have hent := Ctx.mentry (P := Try.prog) hi D9
    refine ⟨_, _, _, _, _, _, _, _, _, _, _, _, _, _, _, _, _, _, _, _, _, _, _, w13, hent, Nat.le_refl _, fun w38 L39 h38 g38 => ?_⟩
    have D10 := D9.hidL h38 (by rw [hit]; exact g38)
    have hlk := look_rw (D10.pm [2, 0, 1] rfl) zs[i].1.1
    refine ⟨_, _, _, _, _, _, _, _, _, _, _, _, _, _, w38, hlk, kept_refl _ _, ?_⟩
    have hin2 : zs[i] ∈ zs := List.getElem_mem hi
    have hxm : zs[i].1 ∈ l1 := by rw [← hzs]; exact List.mem_map.2 ⟨_, hin2, rfl⟩
    rw [rw_eq]
    by_cases hg : fnd zs[i].1.1 l2 = some zs[i].1.2
    · rw [if_neg (by rw [hg]; simp)]
      intro w55 L56 h55 g55
      have hn2 : (seen.push zs[i].2).toList.Nodup := by
        rw [Array.toList_push]
        refine List.nodup_append.2 ⟨hn, by simp, ?_⟩
        intro x hx c hc
        simp only [List.mem_singleton] at hc
        subst hc
        intro e; subst e
        exact hns (by simpa using hx)
      have hin3 : ∀ s ∈ (seen.push zs[i].2).toList, s ∈ zs.map Prod.snd := by
        intro s hs
        rw [Array.toList_push] at hs
        rcases List.mem_append.1 hs with hs | hs
        · exact hin s hs
        · simp only [List.mem_singleton] at hs; subst hs; exact List.mem_map.2 ⟨_, hin2, rfl⟩
      have hcount := nodup_le _ _ hn2 hin3
      have hc2 : seen.size + 1 ≤ zs.length := by simpa using hcount
      have D11 := D10.hidL h55 (by rw [hit]; exact g55)
      refine ⟨⟨_, clock, m', Nat.le_refl _, hn2, hin3, fun z hz hs => ?_, Ctx.noL D11⟩, ?_⟩
      · rw [Array.mem_push] at hs
        rcases hs with hs | hs
        · exact hgood z hz hs
        · have : z = zs[i] := nodup_get hnd hz hin2 hs
          rw [this]; exact hg
      · show Nat.le (zs.length + 1 - seenN w55 it + 1) (zs.length + 1 - seenN w9 it)
        rw [seenN_obj D11.objAt.1, hsz0, Array.size_push]; exact Nat.le_of_eq (by omega)
    · rw [if_pos (by
        cases hfd : fnd zs[i].1.1 l2 with
        | none => simp
        | some r =>
          rw [hfd] at hg
          have : ¬ zs[i].1.2 = r := fun e => hg (by rw [e])
          simp [this])]
      intro w57 h57
      have D2 := (D10.hid0 h57).drop.mapZA
      rw [hzs] at D2
      refine Ctr.ret (m' := m') (L := []) () ?_ trivial D2
      rw [eqMap_no fun h => hg (h.2 _ hxm)]
theorem look_fl2 {F0 : List Nat} {m0 : Mem} {w0 w : World} {L : List Nat} {m : Mem} {As : List Asn} {mf : Nat} {Fl : List Fr} (C : Ctx F0 m0 w0 w L m (flA mf Fl :: As)) (p : Int × Int) : (Instr.lookup 85 (.map (some mf)) (pkV p) true).run Try.prog w = .ok (.tuple #[nV ((fnd p Fl).getD 0), .bool (fnd p Fl).isSome]) w := by
  obtain ⟨i, hi, hz⟩ := Option.bind_eq_some_iff.1 z32
  have := Ctx.mlook (P := Try.prog) t85 key50 hi hz C p true
  rw [this]
  cases fnd p Fl <;> rfl
theorem c_EqF (a b : Nat) (l1 l2 : List Fr) : Ctr Try.prog 40 #[.map (some a), .map (some b)] noMem [flA a l1, flA b l2] (fun _ : Unit => .bool (eqMap l1 l2)) (fun _ _ => True) (fun _ => [flA a l1, flA b l2]) := by
  refine Ctr.mk fun w F m C _ => x_EqF _ _ w _ ⟨_, w, Ctx.mlen (P := Try.prog) (ty := 3) t85 C, Nat.le_refl _, _, w, Ctx.mlen (P := Try.prog) (ty := 3) t85 C.swap, Nat.le_refl _, ?_⟩
  by_cases hl : l1.length = l2.length
  rotate_left
  · rw [if_pos (by simp; omega)]
    exact Ctr.ret () (by rw [eqMap_no fun h => hl h.1]) trivial C
  rw [if_neg (by simp [hl])]
  obtain ⟨zs, clock, hzs, hnd, C⟩ := C.mapZI
  obtain ⟨hr, hk, C1⟩ := C.mrange (P := Try.prog) t85
  refine ⟨_, _, hr, hk.size, ?_⟩
  generalize hit : w.heap.size = it at C1 ⊢
  refine ⟨fun w' L' => ∃ (seen : Array Nat) (last : Nat) (m' : Mem), clock ≤ last ∧ seen.toList.Nodup ∧ (∀ s ∈ seen.toList, s ∈ zs.map Prod.snd) ∧ (∀ z ∈ zs, z.2 ∈ seen → fnd z.1.1 l2 = some z.1.2) ∧
    Ctx F m w w' [] m' [iterA it a clock seen last, mapZ a pkV nV zs clock, flA b l2], fun w' => zs.length + 1 - seenN w' it,
    ⟨#[], clock, m, Nat.le_refl _, by simp, by simp, by simp, C1⟩, ?_⟩
  clear C1 hr hk C
  rintro w9 L10 _ ⟨seen, last, m', hlast, hn, hin, hgood, D⟩
  have hsz0 := seenN_obj D.objAt.1
  rcases Ctx.mnext (P := Try.prog) 0 rfl hlast D with ⟨hall, hnx⟩ | ⟨i, hi, w13, hns, hnx, hk9, D9⟩
  · refine ⟨false, [], w9, hnx, Nat.le_refl _, ?_⟩
    rw [if_neg (by decide)]
    have D2 := D.drop.mapZA
    rw [hzs] at D2
    refine Ctr.ret (m' := m') (L := []) () ?_ trivial D2
    rw [show eqMap l1 l2 = true from decide_eq_true ⟨hl, fun x hx => ?_⟩]
    rw [← hzs] at hx
    obtain ⟨z, hz, rfl⟩ := List.mem_map.1 hx
    exact hgood z hz (hall z hz)
  · refine ⟨true, [_, _], w13, hnx, hk9.size, ?_⟩
    rw [if_pos rfl]
    have hent := Ctx.mentry (P := Try.prog) hi D9
    refine ⟨_, _, _, w13, hent, Nat.le_refl _, fun w38 L39 h38 g38 => ?_⟩
    have D10 := D9.hidL h38 (by rw [hit]; exact g38)
    have hlk := look_fl2 (D10.pm [2, 0, 1] rfl) zs[i].1.1
    refine ⟨_, _, w38, hlk, kept_refl _ _, ?_⟩
    have hin2 : zs[i] ∈ zs := List.getElem_mem hi
    have hxm : zs[i].1 ∈ l1 := by rw [← hzs]; exact List.mem_map.2 ⟨_, hin2, rfl⟩
    by_cases hg : fnd zs[i].1.1 l2 = some zs[i].1.2
    · rw [if_neg (by rw [hg]; simp)]
      have hn2 : (seen.push zs[i].2).toList.Nodup := by
        rw [Array.toList_push]
        refine List.nodup_append.2 ⟨hn, by simp, ?_⟩
        intro x hx c hc
        simp only [List.mem_singleton] at hc
        subst hc
        intro e; subst e
        exact hns (by simpa using hx)
      have hin3 : ∀ s ∈ (seen.push zs[i].2).toList, s ∈ zs.map Prod.snd := by
        intro s hs
        rw [Array.toList_push] at hs
        rcases List.mem_append.1 hs with hs | hs
        · exact hin s hs
        · simp only [List.mem_singleton] at hs; subst hs; exact List.mem_map.2 ⟨_, hin2, rfl⟩
      have hcount := nodup_le _ _ hn2 hin3
      have hc2 : seen.size + 1 ≤ zs.length := by simpa using hcount
      have D11 := D10
      refine ⟨⟨_, clock, m', Nat.le_refl _, hn2, hin3, fun z hz hs => ?_, Ctx.noL D11⟩, ?_⟩
      · rw [Array.mem_push] at hs
        rcases hs with hs | hs
        · exact hgood z hz hs
        · have : z = zs[i] := nodup_get hnd hz hin2 hs
          rw [this]; exact hg
      · show Nat.le (zs.length + 1 - seenN w38 it + 1) (zs.length + 1 - seenN w9 it)
        rw [seenN_obj D11.objAt.1, hsz0, Array.size_push]; exact Nat.le_of_eq (by omega)
    · rw [if_pos (by
        cases hfd : fnd zs[i].1.1 l2 with
        | none => simp
        | some r =>
          rw [hfd] at hg
          have : ¬ zs[i].1.2 = r := fun e => hg (by rw [e])
          simp [this])]
      have D2 := D10.drop.mapZA
      rw [hzs] at D2
      refine Ctr.ret (m' := m') (L := []) () ?_ trivial D2.noL
      rw [eqMap_no fun h => hg (h.2 _ hxm)]
theorem c_Same (b b' : Nat) (t u : Tb) : Ctr Try.prog 13 #[.pointer (some ⟨b, 0, none⟩), .pointer (some ⟨b', 0, none⟩)] noMem [tbA b t, tbA b' u] (fun _ : Unit => .bool (decide (t.win = u.win) && eqMap t.R u.R && eqMap t.Fl u.Fl)) (fun _ _ => True) (fun _ => [tbA b t, tbA b' u]) := by
  refine Ctr.mk fun w F m C _ => x_amo_Table_Same _ _ w _ ?_
  refine (c_none b t).call (As := [tbA b' u]) C trivial fun _ m2 w2 hk hm _ C => ⟨_, rfl, hk.size, ?_⟩
  rw [if_pos (by decide)]
  refine (c_none b' u).call (As := [tbA b t]) C.swap trivial fun _ m3 w11 hk hm _ C => ⟨_, rfl, hk.size, ?_⟩
  rw [if_neg (by decide)]
  obtain ⟨mr', mf', C⟩ := tbO C
  obtain ⟨mr, mf, C⟩ := tbO (C.pm [3, 0, 1, 2] rfl)
  replace C : Ctx F m w w11 [] m3 [tbB b t.win mr mf, rwA mr t.R, flA mf t.Fl, tbB b' u.win mr' mf', rwA mr' u.R, flA mf' u.Fl] := C.noL
  have hf : ∀ {w' m'} {As' : List Asn}, Ctx F m w w' [] m' (tbB b t.win mr mf :: tbB b' u.win mr' mf' :: As') → FactsW [(⟨b, 0, none⟩, [.int .u32 t.win]), (⟨b, 1, none⟩, [.map (some mr)]), (⟨b, 2, none⟩, [.map (some mf)]), (⟨b', 0, none⟩, [.int .u32 u.win]), (⟨b', 1, none⟩, [.map (some mr')]), (⟨b', 2, none⟩, [.map (some mf')])] w' [] := fun C => C.blkFact1 0 _ rfl (C.blkFact1 1 _ rfl (C.blkFact1 2 _ rfl (C.swap.blkFact1 0 _ rfl (C.swap.blkFact1 1 _ rfl (C.swap.blkFact1 2 _ rfl (facts_nil _ _))))))
  have bk : ∀ {w' m'}, Ctx F m w w' [] m' [tbB b t.win mr mf, tbB b' u.win mr' mf', rwA mr t.R, rwA mr' u.R, flA mf t.Fl, flA mf' u.Fl] → Ctx F m w w' [] m' [tbA b t, tbA b' u] := fun D => by
    have D1 : Ctx F m w _ _ _ (tbAs b' u mr' mf' ++ tbAs b t mr mf) := D.pm [1, 3, 5, 0, 2, 4] rfl
    have D2 := tbI mr' mf' D1
    exact tbI mr mf (D2.pm [1, 2, 3, 0] rfl)
  replace C := C.pm [0, 3, 1, 4, 2, 5] rfl
  refine ⟨_, hf C, t.win, by simp [Addr.add_mid], u.win, by simp [Addr.add_mid], ?_⟩
  by_cases hw : t.win = u.win
  rotate_left
  · rw [if_neg (by simpa using hw)]
    exact ⟨_, hf C, fun _ h => h, fun w18 h18 => Ctr.ret () (by simp [hw]) trivial (bk (C.hid0 h18))⟩
  rw [if_pos (by simp [hw])]
  refine ⟨some mr, by simp [Addr.add_mid], some mr', by simp [Addr.add_mid], fun w21 h21 => ?_⟩
  replace C := C.hid0 h21
  refine (c_EqR mr mr' t.R u.R).call (As := [tbB b t.win mr mf, tbB b' u.win mr' mf', flA mf t.Fl, flA mf' u.Fl]) (C.pm [2, 3, 0, 1, 4, 5] rfl) trivial fun _ m4 w23 hk hm _ C => ⟨_, rfl, hk.size, ?_⟩
  replace C := (C.pm [2, 3, 0, 1, 4, 5] rfl).noL
  refine ⟨hf C, _, hf C, fun _ h => h, ?_⟩
  cases hR : eqMap t.R u.R with
  | false =>
    rw [if_neg (by simp)]
    exact Ctr.ret () (by simp [hw, hR]) trivial (bk C)
  | true =>
    rw [if_pos (by simp)]
    refine ⟨some mf, by simp [Addr.add_mid], some mf', by simp [Addr.add_mid], ?_⟩
    refine (c_EqF mf mf' t.Fl u.Fl).call (As := [tbB b t.win mr mf, tbB b' u.win mr' mf', rwA mr t.R, rwA mr' u.R]) (C.pm [4, 5, 0, 1, 2, 3] rfl) trivial fun _ m5 w30 hk hm _ C => ⟨_, rfl, hk.size, ?_⟩
    replace C := (C.pm [2, 3, 4, 5, 0, 1] rfl).noL
    refine ⟨hf C, ?_⟩
    exact Ctr.ret () (by simp [hw, hR]) trivial (bk C)
end Go.Proofs
