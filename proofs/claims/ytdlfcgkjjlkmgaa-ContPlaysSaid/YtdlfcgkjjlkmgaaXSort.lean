import Derived.Test.YtdlfcgkjjlkmgaaXSub
import Derived.Shelf.SlSortCmp.NoneTotal
import Derived.Laws.MakeOwn
/- The engine, part: slices.SortFunc over an owned slice of structs. -/
set_option linter.unusedVariables false
set_option linter.unusedSimpArgs false
namespace Go.X
open Go RowKit Go.Sort Go.Proofs
theorem bel_grow {w w' : World} (h : Bel w.heap.size w w') : ∃ q os, w' = grow (w.drewN q) os := by
  refine ⟨w'.drawn - w.drawn, w'.heap.extract w.heap.size w'.heap.size, ?_⟩
  obtain ⟨hp, tp, dr, o, ou⟩ := w
  obtain ⟨hp', tp', dr', o', ou'⟩ := w'
  obtain ⟨h1, h2, h3, h4, h5, h6⟩ := h
  simp only at h1 h2 h3 h4 h5 h6
  subst h1; subst h2; subst h3
  simp only [grow, World.drewN]
  congr 1
  · apply Array.ext_getElem?
    intro i
    rw [Array.getElem?_append]
    by_cases hi : i < hp.size
    · rw [if_pos hi, h6 i hi]
    · rw [if_neg hi, Array.getElem?_extract]
      split
      · congr 1; omega
      · rw [Array.getElem?_eq_none]; omega
  · omega
variable {α : Type} [Inhabited α]
theorem flatK_list (enc : α → List Value) (k : Nat) (hk : ∀ x, (enc x).length = k) (l : List α) : (flatK enc k l.toArray).toList = l.flatMap enc := by
  apply List.ext_getElem?
  intro t
  have hlen : (l.flatMap enc).length = l.length * k := flat_len hk l
  by_cases ht : t < l.length * k
  · have hk0 : 0 < k := by rcases Nat.eq_zero_or_pos k with h | h
                           · subst h; simp at ht
                           · exact h
    have h1 : t / k < l.length := (Nat.div_lt_iff_lt_mul hk0).2 ht
    have h2 : t % k < k := Nat.mod_lt _ hk0
    have e : (enc l[t / k])[t % k]? = some ((enc l[t / k])[t % k]'(by rw [hk]; exact h2)) := by simp [hk, h2]
    have hf := flat_at hk l (t / k) h1 (t % k) _ e
    have hd : t / k * k + t % k = t := by rw [Nat.mul_comm]; exact Nat.div_add_mod t k
    rw [hd] at hf
    rw [hf]
    have hs : t < (flatK enc k l.toArray).size := by simpa using ht
    have g := get_flatK enc k l.toArray t (by simpa using ht)
    rw [Array.getElem?_toList, Array.getElem?_eq_getElem hs]
    rw [getElem!_pos _ t hs] at g
    rw [g]
    have e1 : l.toArray[t / k]! = l[t / k] := by simp [h1]
    rw [e1, getElem!_pos _ _ (by rw [hk]; exact h2)]
  · rw [List.getElem?_eq_none (by simpa using ht), List.getElem?_eq_none (by omega)]
theorem sort_hid (enc : α → List Value) (k : Nat) (w : World) (b off n : Nat) (d : Array α) (os : Array Obj) : Hid [b] w (sortWorldK enc k w b off n d os) := by
  refine ⟨rfl, rfl, rfl, ?_, ?_, fun i hi hn => ?_⟩
  · simp [sortWorldK, putRowK, putRow, mapBlock, grow]
  · simp [sortWorldK, putRowK, putRow, mapBlock, grow]
  · have : b ≠ i := fun e => hn (by simp [e])
    rw [sortWorldK, heap_grow_old _ _ (by simpa [putRowK, putRow, mapBlock] using hi)]
    simp only [putRowK, putRow, mapBlock, heap_ahead, Array.getElem?_modify]
    rw [if_neg this]
theorem putCells_mid (pre cs rest : List Value) (F : Array Value) (h : F.size = cs.length) : putCells id pre.length F (pre ++ cs ++ rest).toArray = (pre ++ F.toList ++ rest).toArray := by
  have hF : F.toList.length = F.size := Array.length_toList
  apply Array.ext'
  apply List.ext_getElem?
  intro t
  simp only [putCells, Array.toList_mapIdx, List.getElem?_mapIdx]
  by_cases h1 : t < pre.length
  · rw [List.append_assoc, List.getElem?_append_left h1, List.append_assoc, List.getElem?_append_left h1, List.getElem?_eq_getElem h1]
    simp only [Option.map_some]; rw [if_neg (by omega)]
  · by_cases h2 : t < pre.length + F.size
    · rw [List.append_assoc, List.getElem?_append_right (by omega), List.getElem?_append_left (by omega), List.append_assoc, List.getElem?_append_right (by omega), List.getElem?_append_left (by omega)]
      rw [List.getElem?_eq_getElem (by omega : t - pre.length < cs.length), List.getElem?_eq_getElem (by omega : t - pre.length < F.toList.length)]
      simp only [Option.map_some]; rw [if_pos (by omega)]
      rw [getElem!_pos F (t - pre.length) (by omega)]
      simp
    · have ha : (pre ++ cs).length ≤ t := by simp; omega
      have hb : (pre ++ F.toList).length ≤ t := by simp; omega
      rw [List.getElem?_append_right ha, List.getElem?_append_right hb]
      have e : t - (pre ++ cs).length = t - (pre ++ F.toList).length := by simp [h]
      rw [e]
      cases (rest[t - (pre ++ F.toList).length]?) with
      | none => rfl
      | some v => simp only [Option.map_some]; rw [if_neg (by omega)]
theorem sort_block (enc : α → List Value) (k : Nat) (hk : ∀ x, (enc x).length = k) (w : World) (b n : Nat) (l l' : List α) (hl : l'.length = l.length) (pre rest : List Value) (ty : TypeId) (os : Array Obj)
    (hb : w.heap[b]? = some (.cells (pre ++ l.flatMap enc ++ rest).toArray ty (0, 0))) :
    (sortWorldK enc k w b pre.length n l'.toArray os).heap[b]? = some (.cells (pre ++ l'.flatMap enc ++ rest).toArray ty (0, 0)) := by
  have hlt := (Array.getElem?_eq_some_iff.1 hb).1
  rw [sortWorldK, heap_grow_old _ _ (by simpa [putRowK, putRow, mapBlock] using hlt)]
  simp only [putRowK, putRow, mapBlock, heap_ahead, Array.getElem?_modify, if_true, hb, Option.map_some, onCells]
  rw [putCells_mid _ _ _ _ (by rw [flat_len hk, size_flatK]; simp [hl]), flatK_list enc k hk]
theorem sort_holds (enc : α → List Value) (k : Nat) (hk : ∀ x, (enc x).length = k) (w : World) (b : Nat) (l : List α) (pre rest : List Value) (ty : TypeId)
    (hb : w.heap[b]? = some (.cells (pre ++ l.flatMap enc ++ rest).toArray ty (0, 0))) : HoldsK enc k w b pre.length l.toArray := by
  intro j hj
  have hj' : j < (l.flatMap enc).length := by rw [flat_len hk]; simpa using hj
  refine ⟨?_, by simp [World.frozen?, hb]⟩
  rw [cellsAt_of_block hb]
  simp only [List.getElem?_toArray, id]
  rw [List.append_assoc, List.getElem?_append_right (by omega), List.getElem?_append_left (by omega), Nat.add_sub_cancel_left]
  rw [getElem!_pos _ j hj, ← flatK_list enc k hk l, Array.getElem?_toList, Array.getElem?_eq_getElem hj]
/-- the sorted list -/
def sortBy (cf : α → α → Int) (l : List α) : List α := l.mergeSort fun x y => !(ltOf cf) y x
omit [Inhabited α] in
theorem sortBy_perm (cf : α → α → Int) (l : List α) : (sortBy cf l).Perm l := List.mergeSort_perm ..
omit [Inhabited α] in
theorem sortBy_len (cf : α → α → Int) (l : List α) : (sortBy cf l).length = l.length := (sortBy_perm cf l).length_eq
omit [Inhabited α] in
theorem sortBy_sorted (cf : α → α → Int) (hO : SWO (ltOf cf)) (l : List α) : (sortBy cf l).Pairwise fun x y => 0 ≤ cf y x := by
  have h := List.pairwise_mergeSort (le := fun x y => !(ltOf cf) y x) (fun a b c h1 h2 => ?_) (fun a b => ?_) l
  · refine h.imp fun {a b} hab => ?_
    simp only [ltOf, Bool.not_eq_true', decide_eq_false_iff_not] at hab
    omega
  · simp only [Bool.not_eq_true'] at h1 h2 ⊢
    exact hO.ntrans _ _ _ h2 h1
  · simp only [Bool.or_eq_true, Bool.not_eq_true']
    cases hab : ltOf cf b a with
    | false => exact .inl rfl
    | true =>
      right
      cases hba : ltOf cf a b with
      | false => rfl
      | true => have := hO.trans _ _ _ hab hba; rw [hO.irrefl] at this; exact this.symm
omit [Inhabited α] in
theorem sorted_one {cf : α → α → Int} (hT : ∀ x y, (ltOf cf) x y = false → (ltOf cf) y x = false → x = y) : ∀ {l l' : List α}, l.Perm l' → (l.Pairwise fun x y => 0 ≤ cf y x) → (l'.Pairwise fun x y => 0 ≤ cf y x) → l = l'
  | [], l', hp, _, _ => by rw [hp.nil_eq]
  | a :: l, [], hp, _, _ => by have := hp.length_eq; simp at this
  | a :: l, b :: l', hp, h1, h2 => by
    have hab : a = b := by
      have ha : a ∈ b :: l' := hp.subset (by simp)
      have hb : b ∈ a :: l := hp.symm.subset (by simp)
      rcases List.mem_cons.1 ha with e | ha
      · exact e
      rcases List.mem_cons.1 hb with e | hb
      · exact e.symm
      have g1 := (List.pairwise_cons.1 h1).1 b hb
      have g2 := (List.pairwise_cons.1 h2).1 a ha
      exact hT a b (by simp [ltOf]; omega) (by simp [ltOf]; omega)
    subst hab
    rw [sorted_one hT hp.cons_inv (List.pairwise_cons.1 h1).2 (List.pairwise_cons.1 h2).2]
omit [Inhabited α] in
theorem sortBy_eq {cf : α → α → Int} (hO : SWO (ltOf cf)) (hT : ∀ x y, (ltOf cf) x y = false → (ltOf cf) y x = false → x = y) {l l' : List α} (hp : l.Perm l') : sortBy cf l = sortBy cf l' :=
  sorted_one hT (((sortBy_perm cf l).trans hp).trans (sortBy_perm cf l').symm) (sortBy_sorted cf hO l) (sortBy_sorted cf hO l')
/-- slices.SortFunc as a contract; Cs: what 'cmp' reads -/
theorem sortFunc_ctr {P : Program} {ρ : Go.Shelf.Ren} (Lay : SlLaysF0.n6 P ρ) {k : Nat} (aE : ∀ w, (isAgg (ρ.t 24)).run P w = .ok true w) (zE : ∀ w, (Go.sizeOf (ρ.t 24)).run P w = .ok k w)
    {enc : α → List Value} (hk : ∀ x, (enc x).length = k) (h1 : ∀ x, ∀ v ∈ enc x, oneC v = true) {cf : α → α → Int} (hO : SWO (ltOf cf)) (hT : ∀ x y, (ltOf cf) x y = false → (ltOf cf) y x = false → x = y)
    {g : Nat} {cb : Array Value} (eg : ∀ args w, (callFunc g args).run P w = .ok (.enter g args) w) {Cs : List Asn}
    (hcmp : ∀ w1 F, Sat w1 Cs F → (∀ b, b ∈ F → b < w1.heap.size) → ∀ x y, Calls P g (#[.agg (enc x).toArray, .agg (enc y).toArray] ++ cb) w1 fun e w' => e = .returned (.int .i64 (cf x y)) ∧ Bel w1.heap.size w1 w')
    (l : List α) (v : Value) (ty : TypeId) :
    Ctr P (ρ.f 6) #[v, .func (.func g) #[] cb] (fun _ => l.length < 4611686018427387904) (slA v l.length (l.flatMap enc) ty k :: Cs) (fun _ : Unit => .tuple #[]) (fun _ _ => True) (fun _ => slA v l.length ((sortBy cf l).flatMap enc) ty k :: Cs) := by
  refine Ctr.mk fun w F m C hsz => ?_
  obtain ⟨q, cap, rfl, h2, h3, h4, h⟩ := C.slO
  by_cases hl : l = []
  · subst hl
    refine (AnyF.slices_SortFunc_none Lay q cap _ w).mono fun e w' ⟨he, hw⟩ => ⟨(), m, [], he, trivial, ?_⟩
    subst hw
    have : sortBy cf ([] : List α) = [] := List.mergeSort_nil
    rw [this]; exact C
  · rcases h with ⟨rfl, _⟩ | ⟨b, pre, rest, rfl, hr, C'⟩
    · exact absurd (List.length_pos_iff.2 hl) (by omega)
    · have hb := C'.blkAt.1
      have hlt := (Array.getElem?_eq_some_iff.1 hb).1
      obtain ⟨F', hF', ho⟩ := C'.own
      obtain ⟨F1, F2, rfl, hd, ⟨rfl, hb1⟩, hs2⟩ := hF'
      have hS := AnyQ.slices_SortFunc_total Lay k aE zE enc hk (fun x v hv => by rw [← oneC_eq]; exact h1 x v hv) cf hO g cb b pre.length cap l.toArray w eg ?_ (sort_holds enc k hk w b l pre rest ty hb) hlt (by simpa using hsz) hT
      · refine Calls.mono hS ?_
        rintro e w' ⟨he, n, os, hw⟩
        refine ⟨(), m, [], he, trivial, ?_⟩
        have hw : w' = sortWorldK enc k w b pre.length n (sortBy cf l).toArray os := hw
        subst hw
        refine (C'.turn (b := b) (B := slA (.slice (some ⟨b, pre.length, none⟩) l.length cap) l.length ((sortBy cf l).flatMap enc) ty k) (fun F hF => hF.1) (sort_hid ..) ?_).1
        exact ⟨_, cap, rfl, by rw [flat_len hk, sortBy_len], h3, h4, .inr ⟨b, pre, rest, rfl, rfl, sort_block enc k hk w b n l _ (sortBy_len cf l) pre rest ty os hb, hr⟩⟩
      · intro n os dk hdk x y
        have hh := sort_hid enc k w b pre.length n dk os
        have hb2 : ∀ c, c ∈ F2 → c < w.heap.size := fun c hc => (ho.inF c (by simp [hc])).1
        refine (hcmp _ F2 (hs2.frame fun c hc => hh.block c (hb2 c hc) (fun hm => ?_)) (fun c hc => Nat.lt_of_lt_of_le (hb2 c hc) hh.size) x y).mono fun e w' ⟨he, hbel⟩ => ⟨he, bel_grow hbel⟩
        simp only [List.mem_singleton] at hm; subst hm; exact hd c (by simp) hc
section
variable {P : Program} {F0 : List Nat} {m0 : Mem} {w0 w : World} {L : List Nat} {m : Mem} {As : List Asn}
/-- make([]T, 0, c) -/
theorem Ctx.slMake {t e : TypeId} {sz bytes : Nat} (hB : appB P t t e sz bytes = true) (C : Ctx F0 m0 w0 w L m As) (c : Nat) (h : c * (bytes + 1) ≤ 140737488355328) :
    ∃ w', (Instr.makeSlice t (.int .i64 0) (.int .i64 c)).run P w = .ok (.slice (some ⟨w.heap.size, 0, none⟩) 0 c) w' ∧ Kept L w w' ∧ Ctx F0 m0 w0 w' L m (slA (.slice (some ⟨w.heap.size, 0, none⟩) 0 c) 0 [] e sz :: As) := by
  obtain ⟨ht, _, i, z, hi, hs, hb, hz, hzs⟩ := appB_spec hB
  have hle : c * i.bytes ≤ c * (bytes + 1) := Nat.mul_le_mul_left _ (by omega)
  have hle2 : c * 1 ≤ c * (bytes + 1) := Nat.mul_le_mul_left _ (by omega)
  have hbi : (i.bytes : Int) * (c : Int) ≤ 281474976710656 := by
    have : ((i.bytes * c : Nat) : Int) ≤ 281474976710656 := by rw [Nat.mul_comm]; omega
    rwa [Int.natCast_mul] at this
  have hr := run_make (P := P) w t e i z ht hi hz .i64 .i64 0 c (Int.le_refl _) (by omega) hbi (by omega)
  simp only [Int.toNat_zero, Int.toNat_natCast] at hr
  refine ⟨_, hr, C.kept ⟨rfl, rfl, rfl, by simp, Nat.le_refl _, fun b hb => heap_alloc_old w _ hb⟩, ?_⟩
  have C1 := C.alloc (madeCells z.cells (c * i.size)).toList e
  have C2 := Ctx.slI (pre := []) (cs := []) (rest := (madeCells z.cells (c * i.size)).toList) (n := 0) (cap := c) (sz := sz) (by simp) (by simp) (Nat.zero_le _) (by unfold maxLen; omega) (by simp [size_madeCells, hs]) C1
  simpa using C2
end
end Go.X
