import Derived.Test.YtfbjellaijdgbaaDoorXKey
import Derived.Laws.IdiomRangeMap
set_option linter.unusedVariables false
set_option linter.unusedSimpArgs false
set_option linter.unusedSectionVars false
/- The engine, part 25: loops over maps. -/
namespace Go.X
open Go RowKit
section
variable {α β : Type} [DecidableEq α]
/-- an owned map, with its entries' stamps -/
def mapZ (b : Nat) (enc : α → Value) (encV : β → Value) (zs : List ((α × β) × Nat)) (clock : Nat) : Asn :=
  ⟨fun w F => F = [b] ∧ ∃ es : Array MapEntry, w.heap[b]? = some (.map es clock) ∧ MapIs enc encV (zs.map Prod.fst) es.toList clock ∧ es.toList.map (·.born) = zs.map Prod.snd, fun w w' F hk ⟨h1, es, h2, h3⟩ => ⟨h1, es, by rw [hk b (by rw [h1]; simp)]; exact h2, h3⟩⟩
/-- an iterator over it -/
abbrev iterA (it b since : Nat) (seen : Array Nat) (last : Nat) : Asn := objB it (.mapIter (some b) since seen last)
theorem map_erase {γ δ : Type} (f : γ → δ) : ∀ (l : List γ) (i : Nat), (l.eraseIdx i).map f = (l.map f).eraseIdx i
  | [], i => by simp
  | a :: l, 0 => rfl
  | a :: l, i + 1 => by simp [map_erase f l i]
theorem scan_at {x : α} : ∀ {ks : List α} {es : List MapEntry} {i n : Nat} (hl : ks.length = es.length) (hi : i < ks.length), ks[i] = x → (∀ j (hj : j < ks.length), j < i → ks[j] ≠ x) → scan x ks es n = some (n + i, (es[i]'(by omega)).val)
  | k :: ks, e :: es, 0, n, hl, hi, h1, h2 => by simp only [List.getElem_cons_zero] at h1; simp [scan, h1]
  | k :: ks, e :: es, i + 1, n, hl, hi, h1, h2 => by
    have h0 := h2 0 (by simp) (by omega)
    simp only [List.getElem_cons_zero] at h0
    have h0' : ¬ x = k := fun h => h0 h.symm
    simp only [scan, if_neg h0', List.getElem_cons_succ] at h1 ⊢
    rw [scan_at (i := i) (n := n + 1) (by simpa using hl) (by simpa using hi) h1 (fun j hj hlt => by have := h2 (j + 1) (by simpa using hj) (by omega); simpa using this)]
    congr 2; omega
section
variable {P : Program} {F0 : List Nat} {m0 : Mem} {w0 w : World} {L : List Nat} {m : Mem} {As : List Asn} {enc : α → Value} {encV : β → Value} {l : List (α × β)} {zs : List ((α × β) × Nat)} {b clock : Nat}
theorem Ctx.mapZI (C : Ctx F0 m0 w0 w L m (mapA b enc encV l :: As)) : ∃ zs clock, zs.map Prod.fst = l ∧ (zs.map Prod.snd).Nodup ∧ Ctx F0 m0 w0 w L m (mapZ b enc encV zs clock :: As) := by
  obtain ⟨es, clock, hb, hm⟩ := C.mapO
  have hl : es.toList.length = l.length := by have := congrArg List.length hm.keys; simpa using this
  have e1 : (l.zip (es.toList.map (·.born))).map Prod.fst = l := List.map_fst_zip (by simp at hl ⊢; omega)
  have e2 : (l.zip (es.toList.map (·.born))).map Prod.snd = es.toList.map (·.born) := List.map_snd_zip (by simp at hl ⊢; omega)
  refine ⟨l.zip (es.toList.map (·.born)), clock, e1, by rw [e2]; exact hm.nodup, C.sub fun F hF _ => ?_⟩
  obtain ⟨F1, F2, rfl, hd, ⟨rfl, h⟩, h2⟩ := hF
  exact ⟨_, ⟨[b], F2, rfl, hd, ⟨rfl, es, hb, by rw [e1]; exact hm, e2.symm⟩, h2⟩, fun b hb => hb⟩
theorem Ctx.mapZO (C : Ctx F0 m0 w0 w L m (mapZ b enc encV zs clock :: As)) : ∃ es : Array MapEntry, w.heap[b]? = some (.map es clock) ∧ MapIs enc encV (zs.map Prod.fst) es.toList clock ∧ es.toList.map (·.born) = zs.map Prod.snd := by
  obtain ⟨F, hF, ho⟩ := C.own
  obtain ⟨F1, F2, rfl, hd, ⟨rfl, h⟩, h2⟩ := hF
  exact h
theorem Ctx.mapZA (C : Ctx F0 m0 w0 w L m (mapZ b enc encV zs clock :: As)) : Ctx F0 m0 w0 w L m (mapA b enc encV (zs.map Prod.fst) :: As) :=
  C.sub fun F hF _ => by
    obtain ⟨F1, F2, rfl, hd, ⟨rfl, es, h, h1, _⟩, h2⟩ := hF
    exact ⟨_, ⟨[b], F2, rfl, hd, ⟨rfl, es, clock, h, h1⟩, h2⟩, fun b hb => hb⟩
theorem Ctx.mrange {t kt et : TypeId} (ht : P.underlying t = some (.map kt et)) (C : Ctx F0 m0 w0 w L m (mapZ b enc encV zs clock :: As)) :
    (Instr.range t (.map (some b))).run P w = .ok (.pointer (some ⟨w.heap.size, 0, none⟩)) (w.alloc (.mapIter (some b) clock #[] clock)) ∧ Kept L w (w.alloc (.mapIter (some b) clock #[] clock)) ∧
      Ctx F0 m0 w0 (w.alloc (.mapIter (some b) clock #[] clock)) L m (iterA w.heap.size b clock #[] clock :: mapZ b enc encV zs clock :: As) := by
  obtain ⟨es, hb, hm, hs⟩ := C.mapZO
  exact ⟨run_range_map w t kt et b es clock ht hb, alloc_keptL C _, C.newO _ ⟨rfl, heap_alloc_new w _⟩⟩
theorem getObj_iter {w : World} {r since last : Nat} {b : Option Nat} {seen : Array Nat} (hb : w.heap[r]? = some (.mapIter b since seen last)) : (getObj r).run P w = .ok (.mapIter b since seen last) w := by simp [getObj, Sem.run, hb]
theorem setObj_iter {w : World} {r since last : Nat} {b : Option Nat} {seen : Array Nat} {o' : Obj} (hb : w.heap[r]? = some (.mapIter b since seen last)) : (setObj r o').run P w = .ok () { w with heap := w.heap.setIfInBounds r o' } := by simp [setObj, Sem.run, hb]
theorem Ctx.objTurn {o o' : Obj} {it : Nat} (C : Ctx F0 m0 w0 w L m (objB it o :: As)) : Kept L w { w with heap := w.heap.setIfInBounds it o' } ∧ Ctx F0 m0 w0 { w with heap := w.heap.setIfInBounds it o' } L m (objB it o' :: As) := by
  have hb := C.objAt.1
  have hlt := (Array.getElem?_eq_some_iff.1 hb).1
  have := C.turn (b := it) (B := objB it o') (fun F hF => hF.1) (setObj_hid w it o') ⟨rfl, by simp [hlt]⟩
  exact ⟨this.2, this.1⟩
/-- the next one -/
theorem Ctx.mnext {it since last : Nat} {seen : Array Nat} (ty : TypeId) (hs : since = clock) (hl : clock ≤ last) (C : Ctx F0 m0 w0 w L m (iterA it b since seen last :: mapZ b enc encV zs clock :: As)) :
    ((∀ z ∈ zs, z.2 ∈ seen) ∧ (Instr.next (.pointer (some ⟨it, 0, none⟩)) false ty).run P w = .ok (.tuple #[.bool false]) w) ∨
    ∃ (i : Nat) (hi : i < zs.length) (w' : World), zs[i].2 ∉ seen ∧ (Instr.next (.pointer (some ⟨it, 0, none⟩)) false ty).run P w = .ok (.tuple #[.bool true, enc zs[i].1.1, encV zs[i].1.2]) w' ∧ Kept L w w' ∧
      Ctx F0 m0 w0 w' L m (iterA it b since (seen.push zs[i].2) clock :: mapZ b enc encV zs clock :: As) := by
  subst hs
  have hit := C.objAt.1
  obtain ⟨es, hb, hm, hst⟩ := C.swap.mapZO
  have hold : ∀ x ∈ es.toList, x.born < since := fun x hx => hm.born x hx
  have hlen : es.toList.length = zs.length := by have := congrArg List.length hst; simpa using this
  have hrun : (Instr.next (.pointer (some ⟨it, 0, none⟩)) false ty).run P w = ((choose (Question.mapNext ((if (es.filter fun e => !seen.contains e.born).isEmpty then 1 else 0) + (es.filter fun e => !seen.contains e.born).size)) : Sem Nat).run P w).andThen fun c w1 =>
      (match ((if (es.filter fun e => !seen.contains e.born).isEmpty then #[none] else #[]) ++ (es.filter fun e => !seen.contains e.born).map some)[c]? with
        | some (some e) => do setObj it (.mapIter (some b) since (seen.push e.born) since); pure (Value.tuple #[.bool true, e.key, e.val])
        | some none => pure (.tuple #[.bool false])
        | none => stuck "Next: no such candidate" : Sem Value).run P w1 := by
    simp only [Instr.next, Sem.run_bind, getObj_iter hit, getObj_map hb, Result.andThen_ok, next_test_false seen es since last hold hl, Bool.false_eq_true, if_false]
    have hmem : ∀ x ∈ (Array.filter (fun e => !seen.contains e.born) es).toList, x.born < since := fun x hx => hold x (by simp at hx ⊢; exact hx.1)
    generalize Array.filter (fun e => !seen.contains e.born) es = Lf at hmem ⊢
    have e1 : Lf.filter (fun x => decide (x.born < since)) = Lf := Array.filter_eq_self.2 (fun x hx => by simpa using hmem x (by simpa using hx))
    have e2 : Lf.filter (fun x => decide (x.born ≥ since)) = #[] := by
      rw [Array.filter_eq_empty_iff]
      intro x hx
      have := hmem x (by simpa using hx)
      simp
      omega
    simp only [e1, e2, Array.append_empty]
    have hsz : ((if Lf.isEmpty = true then #[none] else #[]) ++ Lf.map some).size = (if Lf.isEmpty = true then 1 else 0) + Lf.size := by split <;> simp
    rw [hsz]
    rfl
  by_cases h0 : (es.filter fun e => !seen.contains e.born).size = 0
  · left
    have hnil : (es.filter fun e => !seen.contains e.born) = #[] := Array.eq_empty_of_size_eq_zero h0
    refine ⟨fun z hz => ?_, ?_⟩
    · have hz2 : z.2 ∈ es.toList.map (·.born) := by rw [hst]; exact List.mem_map_of_mem hz
      obtain ⟨e, he, hez⟩ := List.mem_map.1 hz2
      rw [Array.filter_eq_empty_iff] at hnil
      have := hnil e (by simpa using he)
      simp at this
      rw [← hez]; exact this
    · rw [hrun, hnil]
      simp [choose, Sem.run, Question.forced]
  · right
    rw [hrun]
    generalize hLf : (es.filter fun e => !seen.contains e.born) = Lf at h0 ⊢
    have hne : Lf.isEmpty = false := by simp [Array.isEmpty, h0]
    rw [hne]
    simp only [Bool.false_eq_true, if_false, Array.empty_append, Nat.zero_add]
    have hch : ∃ (j : Nat) (w1 : World), j < Lf.size ∧ (w1 = w ∨ w1 = w.drew) ∧ (choose (Question.mapNext Lf.size) : Sem Nat).run P w = .ok j w1 := by
      by_cases hf : Lf.size ≤ 1
      · exact ⟨0, w, by omega, .inl rfl, by simp [choose, Sem.run, Question.forced, hf]⟩
      · exact ⟨_, w.drew, Nat.mod_lt _ (by omega), .inr rfl, by
          simp only [choose, Sem.run, Question.forced, decide_eq_true_eq, hf, if_false, Question.cut]
          rfl⟩
    obtain ⟨j, w1, hj, hw1, hcr⟩ := hch
    have hmem : Lf[j] ∈ es.toList ∧ Lf[j].born ∉ seen := by
      have h0 : Lf[j] ∈ Lf := Array.getElem_mem hj
      have h1 : Lf[j] ∈ (es.filter fun e => !seen.contains e.born) := by rw [hLf]; exact h0
      simp only [Array.mem_filter] at h1
      exact ⟨by simpa using h1.1, by simpa using h1.2⟩
    obtain ⟨i, hi, hie⟩ := List.getElem_of_mem hmem.1
    have hiz : i < zs.length := by omega
    have hb1 : Lf[j].born = zs[i].2 := by
      have := congrArg (fun l => l[i]?) hst
      simp only [List.getElem?_map, List.getElem?_eq_getElem hi, List.getElem?_eq_getElem hiz, Option.map_some, Option.some.injEq] at this
      rw [← hie]; exact this
    have hk1 : Lf[j].key = enc zs[i].1.1 := by
      have := congrArg (fun l => l[i]?) hm.keys
      simp only [List.getElem?_map, List.getElem?_eq_getElem hi, List.getElem?_eq_getElem hiz, Option.map_some, Option.some.injEq] at this
      rw [← hie]; exact this
    have hv1 : Lf[j].val = encV zs[i].1.2 := by
      have := congrArg (fun l => l[i]?) hm.vals
      simp only [List.getElem?_map, List.getElem?_eq_getElem hi, List.getElem?_eq_getElem hiz, Option.map_some, Option.some.injEq] at this
      rw [← hie]; exact this
    have C1 : Ctx F0 m0 w0 w1 L m (iterA it b since seen last :: mapZ b enc encV zs since :: As) := by
      rcases hw1 with rfl | rfl
      · exact C
      · exact C.drew
    have hk : Kept L w w1 := by
      rcases hw1 with rfl | rfl
      · exact kept_refl _ _
      · exact ⟨Nat.le_refl _, fun _ _ => rfl⟩
    obtain ⟨k1, C2⟩ := C1.objTurn (o' := .mapIter (some b) since (seen.push Lf[j].born) since)
    refine ⟨i, hiz, _, by rw [← hb1]; exact hmem.2, ?_, ⟨Nat.le_trans hk.size k1.size, fun x hx => (k1.block x hx).trans (hk.block x hx)⟩, by rw [← hb1]; exact C2⟩
    simp only [hcr, Result.andThen_ok, Array.getElem?_map, Array.getElem?_eq_getElem hj, Option.map_some, Sem.run_bind, setObj_iter C1.objAt.1, Sem.run_pure, hk1, hv1]
/-- what it is -/
theorem Ctx.mentry {it since : Nat} {seen : Array Nat} {i : Nat} (hi : i < zs.length) (C : Ctx F0 m0 w0 w L m (iterA it b since (seen.push zs[i].2) clock :: mapZ b enc encV zs clock :: As)) :
    (Instr.entry (.pointer (some ⟨it, 0, none⟩))).run P w = .ok (.tuple #[enc zs[i].1.1, encV zs[i].1.2]) w := by
  have hit := C.objAt.1
  obtain ⟨es, hb, hm, hst⟩ := C.swap.mapZO
  have hlen : es.toList.length = zs.length := by have := congrArg List.length hst; simpa using this
  have hie : i < es.toList.length := by omega
  have hb1 : es.toList[i].born = zs[i].2 := by
    have := congrArg (fun l => l[i]?) hst
    simpa only [List.getElem?_map, List.getElem?_eq_getElem hie, List.getElem?_eq_getElem hi, Option.map_some, Option.some.injEq] using this
  have hk1 : es.toList[i].key = enc zs[i].1.1 := by
    have := congrArg (fun l => l[i]?) hm.keys
    simpa only [List.getElem?_map, List.getElem?_eq_getElem hie, List.getElem?_eq_getElem hi, Option.map_some, Option.some.injEq] using this
  have hv1 : es.toList[i].val = encV zs[i].1.2 := by
    have := congrArg (fun l => l[i]?) hm.vals
    simpa only [List.getElem?_map, List.getElem?_eq_getElem hie, List.getElem?_eq_getElem hi, Option.map_some, Option.some.injEq] using this
  have hf : es.find? (fun x => x.born == zs[i].2) = some es.toList[i] := by
    rw [← hb1, ← Array.find?_toList]; exact find_born es.toList[i] es.toList hm.nodup (List.getElem_mem hie)
  simp only [Instr.entry, Sem.run_bind, getObj_iter hit, getObj_map hb, Result.andThen_ok, Array.back?_push, bne_self_eq_false, Bool.false_eq_true, if_false, hf, Sem.run_pure, hk1, hv1]
/-- the one at hand is taken out -/
theorem Ctx.mdelZ {t kt et ty : TypeId} (ht : P.underlying t = some (.map kt et)) (K : KeyT P kt enc) {i : Nat} (hi : i < zs.length) (C : Ctx F0 m0 w0 w L m (mapZ b enc encV zs clock :: As)) :
    ∃ w', (Builtin.delete_ #[t, kt] ty #[.map (some b), enc zs[i].1.1]).run P w = .ok (.tuple #[]) w' ∧ Kept L w w' ∧ Ctx F0 m0 w0 w' L m (mapZ b enc encV (zs.eraseIdx i) clock :: As) := by
  obtain ⟨es, hb, hm, hst⟩ := C.mapZO
  have hlen : es.toList.length = zs.length := by have := congrArg List.length hst; simpa using this
  have hkl : ((zs.map Prod.fst).map Prod.fst).length = es.toList.length := by simp [← hlen]
  have hsc : scan zs[i].1.1 ((zs.map Prod.fst).map Prod.fst) es.toList 0 = some (i, (es.toList[i]'(by omega)).val) := by
    rw [scan_at hkl (i := i) (by simpa using hi) (by simp) (fun j hj hlt he => ?_), Nat.zero_add]
    have hn := hm.once
    rw [List.nodup_iff_pairwise_ne, List.pairwise_iff_getElem] at hn
    exact hn j i (by simpa using hj) (by simpa using hi) hlt (by rw [he]; simp)
  have hf := K.find zs[i].1.1 es.toList ((zs.map Prod.fst).map Prod.fst) (by rw [hm.keys]; simp) w
  rw [hsc] at hf
  have hsz : i < es.size := by have : es.toList.length = es.size := by simp
                               omega
  have he : (es.eraseIdxIfInBounds i).toList = es.toList.eraseIdx i := by simp [Array.eraseIdxIfInBounds, hsz]
  have hnew : MapIs enc encV ((zs.eraseIdx i).map Prod.fst) (es.eraseIdxIfInBounds i).toList clock := by
    rw [he]
    refine ⟨?_, ?_, fun e h => hm.born e (List.mem_of_mem_eraseIdx h), hm.nodup.sublist ((List.eraseIdx_sublist ..).map _), hm.once.sublist (((List.eraseIdx_sublist ..).map _).map _)⟩
    · rw [map_erase, map_erase, map_erase, hm.keys]
    · rw [map_erase, map_erase, map_erase, hm.vals]
  have hlt := (Array.getElem?_eq_some_iff.1 hb).1
  have := C.turn (b := b) (B := mapZ b enc encV (zs.eraseIdx i) clock) (fun F hF => hF.1) (setObj_hid w b (.map (es.eraseIdxIfInBounds i) clock)) ⟨rfl, es.eraseIdxIfInBounds i, by simp [hlt], hnew, by rw [he, map_erase, hst, map_erase]⟩
  refine ⟨_, ?_, this.2, this.1⟩
  simp [Builtin.delete_, run_underlying ht, getObj_map hb, K.check, hf, setObj_map _ hb]
end
theorem nodup_le {γ : Type} [DecidableEq γ] : ∀ (l l' : List γ), l.Nodup → (∀ x ∈ l, x ∈ l') → l.length ≤ l'.length
  | [], l', _, _ => by simp
  | a :: l, l', hn, h => by
    have hn' := List.nodup_cons.1 hn
    have h1 := nodup_le l (l'.erase a) hn'.2 (fun x hx => by
      have hne : x ≠ a := fun e => hn'.1 (e ▸ hx)
      exact (List.mem_erase_of_ne hne).2 (h x (List.mem_cons_of_mem _ hx)))
    have h2 := List.length_erase_of_mem (h a List.mem_cons_self)
    have h3 := List.length_pos_of_mem (h a List.mem_cons_self)
    simp only [List.length_cons]; omega
/-- all that answer are taken out: what is left -/
def leftZ (p : α → β → Bool) (zs : List ((α × β) × Nat)) (seen : List Nat) : List ((α × β) × Nat) := zs.filter fun z => !(seen.contains z.2 && p z.1.1 z.1.2)
theorem leftZ_nil (p : α → β → Bool) (zs : List ((α × β) × Nat)) : leftZ p zs [] = zs := by simp [leftZ]
theorem nodup_get {γ : Type} {f : γ → Nat} {l : List γ} (hn : (l.map f).Nodup) {a b : γ} (ha : a ∈ l) (hb : b ∈ l) (h : f a = f b) : a = b := by
  induction l with
  | nil => cases ha
  | cons x l ih =>
    have hn' := List.nodup_cons.1 (by simpa using hn : (f x :: l.map f).Nodup)
    rcases List.mem_cons.1 ha with e1 | h1
    · rcases List.mem_cons.1 hb with e2 | h2
      · exact e1.trans e2.symm
      · exact absurd (List.mem_map.2 ⟨b, h2, by rw [← h, e1]⟩) hn'.1
    · rcases List.mem_cons.1 hb with e2 | h2
      · exact absurd (List.mem_map.2 ⟨a, h1, by rw [h, e2]⟩) hn'.1
      · exact ih hn'.2 h1 h2
theorem filter_erase {γ : Type} {f : γ → Nat} : ∀ {l : List γ} (hn : (l.map f).Nodup) {i : Nat} (hi : i < l.length), (l.filter fun y => !(f y == f l[i])) = l.eraseIdx i
  | x :: l, hn, 0, hi => by
    have hn' := List.nodup_cons.1 (by simpa using hn : (f x :: l.map f).Nodup)
    simp only [List.getElem_cons_zero, List.filter_cons, beq_self_eq_true, Bool.not_true, Bool.false_eq_true, if_false, List.eraseIdx_cons_zero]
    refine List.filter_eq_self.2 fun y hy => ?_
    have : ¬ f y = f x := fun e => hn'.1 (List.mem_map.2 ⟨y, hy, e⟩)
    simpa using this
  | x :: l, hn, i + 1, hi => by
    have hn' := List.nodup_cons.1 (by simpa using hn : (f x :: l.map f).Nodup)
    have hi' : i < l.length := by simpa using hi
    have hne : ¬ f x = f l[i] := fun e => hn'.1 (List.mem_map.2 ⟨l[i], List.getElem_mem hi', e.symm⟩)
    have hne' : (f x == f l[i]) = false := by simpa using hne
    simp only [List.getElem_cons_succ, List.filter_cons, hne', Bool.not_false, if_true, List.eraseIdx_cons_succ]
    rw [filter_erase hn'.2 hi']
theorem leftZ_step {p : α → β → Bool} {zs : List ((α × β) × Nat)} {seen : List Nat} (hn : (zs.map Prod.snd).Nodup) {i : Nat} (hi : i < (leftZ p zs seen).length) :
    leftZ p zs (seen ++ [(leftZ p zs seen)[i].2]) = if p (leftZ p zs seen)[i].1.1 (leftZ p zs seen)[i].1.2 then (leftZ p zs seen).eraseIdx i else leftZ p zs seen := by
  have hz := List.getElem_mem hi
  have hsub : ((leftZ p zs seen).map Prod.snd).Nodup := hn.sublist ((List.filter_sublist).map _)
  generalize hzz : (leftZ p zs seen)[i] = z at hz ⊢
  have e1 : leftZ p zs (seen ++ [z.2]) = (leftZ p zs seen).filter fun y => !((y.2 == z.2) && p y.1.1 y.1.2) := by
    unfold leftZ
    rw [List.filter_filter]
    refine List.filter_congr fun y _ => ?_
    simp only [List.contains_append, List.contains_cons, List.contains_nil, Bool.or_false]
    cases seen.contains y.2 <;> cases (y.2 == z.2) <;> cases p y.1.1 y.1.2 <;> rfl
  rw [e1]
  by_cases hp : p z.1.1 z.1.2 = true
  · rw [if_pos hp]
    have e2 := filter_erase hsub hi
    rw [hzz] at e2
    rw [← e2]
    refine List.filter_congr fun y hy => ?_
    by_cases hy2 : y.2 = z.2
    · have : y = z := nodup_get hsub hy hz hy2
      subst this; simp [hp]
    · have : (y.2 == z.2) = false := by simpa using hy2
      simp [this]
  · rw [if_neg hp]
    refine List.filter_eq_self.2 fun y hy => ?_
    by_cases hy2 : y.2 = z.2
    · have : y = z := nodup_get hsub hy hz hy2
      subst this
      have : p y.1.1 y.1.2 = false := by simpa using hp
      simp [this]
    · have : (y.2 == z.2) = false := by simpa using hy2
      simp [this]
theorem leftZ_all {p : α → β → Bool} {zs : List ((α × β) × Nat)} {seen : List Nat} (h : ∀ z ∈ leftZ p zs seen, z.2 ∈ seen) : (leftZ p zs seen).map Prod.fst = (zs.map Prod.fst).filter fun x => !p x.1 x.2 := by
  have e : leftZ p zs seen = zs.filter fun z => !p z.1.1 z.1.2 := by
    unfold leftZ
    refine List.filter_congr fun z hz => ?_
    by_cases hs : z.2 ∈ seen
    · have : seen.contains z.2 = true := by simpa using hs
      rw [this]; rfl
    · have hc : seen.contains z.2 = false := by simpa using hs
      exact absurd (h z (List.mem_filter.2 ⟨hz, by rw [hc]; rfl⟩)) hs
  rw [e, List.filter_map]
  rfl
/-- how many have been seen -/
def seenN (w : World) (it : Nat) : Nat := match w.heap[it]? with
  | some (Obj.mapIter _ _ seen _) => seen.size
  | _ => 0
theorem seenN_obj {w : World} {it since last : Nat} {b : Option Nat} {seen : Array Nat} (h : w.heap[it]? = some (.mapIter b since seen last)) : seenN w it = seen.size := by simp [seenN, h]
end
end Go.X
