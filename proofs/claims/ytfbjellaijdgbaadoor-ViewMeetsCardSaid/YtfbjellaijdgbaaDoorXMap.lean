import Derived.Test.YtfbjellaijdgbaaDoorXElems
import Derived.MapKept
set_option linter.unusedVariables false
set_option linter.unusedSimpArgs false
set_option linter.unusedSectionVars false
/- The engine, part 22: maps that are owned. -/
namespace Go.X
open Go RowKit
/-- the first entry whose key is x -/
def scan {α : Type} [DecidableEq α] (x : α) : List α → List MapEntry → Nat → Option (Nat × Value)
  | k :: ks, e :: es, i => if x = k then some (i, e.val) else scan x ks es (i + 1)
  | _, _, _ => none
/-- a key's type: how keys are held against each other -/
structure KeyT (P : Program) (kt : TypeId) {α : Type} [DecidableEq α] (enc : α → Value) : Prop where
  check : ∀ e x w, (Instr.checkKey e 10000 kt (enc x)).run P w = .ok () w
  find : ∀ x (es : List MapEntry) (ks : List α), es.map (·.key) = ks.map enc → ∀ w, (Instr.findKey kt (enc x) es).run P w = .ok (scan x ks es 0) w
  same : ∀ x, Instr.sameBits 10000 (enc x) (enc x) = true
theorem sameBits_int (k : IntKind) (x : Int) (n : Nat) : Instr.sameBits n (.int k x) (.int k x) = true := by
  cases n <;> simp [Instr.sameBits]
theorem checkKey_int {P : Program} {kt : TypeId} {k : IntKind} (h : P.underlying kt = some (.int k)) (e : Bool) (n : Nat) (x : Int) (w : World) : (Instr.checkKey e (n + 1) kt (.int k x)).run P w = .ok () w := by
  simp [Instr.checkKey, run_underlying h]
/-- keys that are numbers -/
theorem keyInt {P : Program} {kt : TypeId} {k : IntKind} (h : P.underlying kt = some (.int k)) : KeyT P kt (fun n : Int => Value.int k n) := by
  refine ⟨fun e x w => checkKey_int h e 9999 x w, fun x es ks hk w => ?_, fun x => sameBits_int k x 10000⟩
  have key : ∀ (es : List MapEntry) (ks : List Int), es.map (·.key) = ks.map (fun n : Int => Value.int k n) → ∀ i, Instr.findNow (.int k) (.int k x) es i = some (scan x ks es i) := by
    intro es
    induction es with
    | nil => intro ks hk i; cases ks <;> rfl
    | cons e es ih =>
      intro ks hk i
      cases ks with
      | nil => simp at hk
      | cons n ks =>
        simp only [List.map_cons, List.cons.injEq] at hk
        simp only [Instr.findNow, hk.1, Instr.sameNow, if_true, scan]
        by_cases hx : x = n
        · simp [hx]
        · have : (x == n) = false := by simpa using hx
          simp only [this, if_neg hx]
          exact ih ks hk.2 _
  simp [Instr.findKey, run_underlying h, key es ks hk 0]
theorem getObj_map {P : Program} {w : World} {r : Nat} {es : Array MapEntry} {clock : Nat} (hb : w.heap[r]? = some (.map es clock)) : (getObj r).run P w = .ok (.map es clock) w := by simp [getObj, Sem.run, hb]
theorem setObj_map {P : Program} {w : World} {r : Nat} {es : Array MapEntry} {clock : Nat} (o : Obj) (hb : w.heap[r]? = some (.map es clock)) : (setObj r o).run P w = .ok () { w with heap := w.heap.setIfInBounds r o } := by simp [setObj, Sem.run, hb]
section
variable {α β : Type} [DecidableEq α]
/-- what a map says of a key -/
def fnd (x : α) : List (α × β) → Option β
  | [] => none
  | (k, v) :: l => if x = k then some v else fnd x l
def mput (x : α) (v : β) : List (α × β) → List (α × β)
  | [] => [(x, v)]
  | (k, u) :: l => if x = k then (k, v) :: l else (k, u) :: mput x v l
def mdel (x : α) : List (α × β) → List (α × β)
  | [] => []
  | (k, u) :: l => if x = k then l else (k, u) :: mdel x l
theorem fnd_mem {x : α} {v : β} : ∀ {l : List (α × β)}, fnd x l = some v → (x, v) ∈ l
  | (k, u) :: l, h => by
    simp only [fnd] at h
    split at h
    · rename_i hx; injection h with h; subst hx; subst h; simp
    · exact List.mem_cons_of_mem _ (fnd_mem h)
theorem fnd_none {x : α} : ∀ {l : List (α × β)}, fnd x l = none ↔ x ∉ l.map (·.1)
  | [] => by simp [fnd]
  | (k, u) :: l => by
    simp only [fnd]
    by_cases hx : x = k
    · simp [hx]
    · simp [hx, fnd_none (l := l)]
theorem mput_keys_in {x : α} {v : β} : ∀ {l : List (α × β)}, x ∈ l.map (·.1) → (mput x v l).map (·.1) = l.map (·.1)
  | [], h => by simp at h
  | (k, u) :: l, h => by
    simp only [mput]
    by_cases hx : x = k
    · simp [hx]
    · rw [if_neg hx]
      have h2 : x ∈ l.map (·.1) := by
        simp only [List.map_cons, List.mem_cons] at h
        rcases h with h | h
        · exact absurd h hx
        · exact h
      simp [mput_keys_in h2]
theorem mput_out {x : α} {v : β} : ∀ {l : List (α × β)}, x ∉ l.map (·.1) → mput x v l = l ++ [(x, v)]
  | [], h => rfl
  | (k, u) :: l, h => by
    simp only [List.map_cons, List.mem_cons, not_or] at h
    simp only [mput, if_neg h.1, mput_out h.2, List.cons_append]
theorem mput_nodup {x : α} {v : β} {l : List (α × β)} (h : (l.map (·.1)).Nodup) : ((mput x v l).map (·.1)).Nodup := by
  by_cases hx : x ∈ l.map (·.1)
  · rw [mput_keys_in hx]; exact h
  · rw [mput_out hx, List.map_append]
    refine List.nodup_append.2 ⟨h, by simp, ?_⟩
    intro a ha b hb
    simp only [List.map_cons, List.map_nil, List.mem_singleton] at hb
    subst hb; exact fun e => hx (e ▸ ha)
theorem mdel_sub {x : α} : ∀ {l : List (α × β)}, (mdel x l).Sublist l
  | [] => List.Sublist.refl _
  | (k, u) :: l => by
    simp only [mdel]
    split
    · exact List.sublist_cons_self ..
    · exact mdel_sub.cons_cons _
theorem mdel_nodup {x : α} {l : List (α × β)} (h : (l.map (·.1)).Nodup) : ((mdel x l).map (·.1)).Nodup := h.sublist (mdel_sub.map _)
theorem fnd_mput {x y : α} {v : β} : ∀ {l : List (α × β)}, fnd y (mput x v l) = if y = x then some v else fnd y l
  | [] => by simp [mput, fnd]
  | (k, u) :: l => by
    simp only [mput]
    by_cases hx : x = k
    · subst hx
      rw [if_pos rfl]
      simp only [fnd]
      split <;> rfl
    · rw [if_neg hx]
      simp only [fnd, fnd_mput (l := l)]
      by_cases hy : y = k
      · subst hy
        rw [if_pos rfl, if_neg (fun e => hx e.symm), if_pos rfl]
      · simp [hy]
theorem fnd_mdel {x y : α} : ∀ {l : List (α × β)}, (l.map (·.1)).Nodup → fnd y (mdel x l) = if y = x then none else fnd y l
  | [], _ => by simp [mdel, fnd]
  | (k, u) :: l, h => by
    simp only [List.map_cons, List.nodup_cons] at h
    simp only [mdel]
    by_cases hx : x = k
    · subst hx
      rw [if_pos rfl]
      simp only [fnd]
      by_cases hy : y = x
      · subst hy; simp [fnd_none.2 h.1]
      · simp [hy]
    · rw [if_neg hx]
      simp only [fnd, fnd_mdel h.2]
      by_cases hy : y = k
      · subst hy
        rw [if_pos rfl, if_neg (fun e => hx e.symm), if_pos rfl]
      · simp [hy]
/-- a map's entries -/
structure MapIs (enc : α → Value) (encV : β → Value) (l : List (α × β)) (es : List MapEntry) (clock : Nat) : Prop where
  keys : es.map (·.key) = l.map fun x => enc x.1
  vals : es.map (·.val) = l.map fun x => encV x.2
  born : ∀ e ∈ es, e.born < clock
  nodup : (es.map (·.born)).Nodup
  once : (l.map (·.1)).Nodup
theorem scan_spec {enc : α → Value} {encV : β → Value} (x : α) : ∀ (l : List (α × β)) (es : List MapEntry) (i : Nat), es.map (·.key) = l.map (fun x => enc x.1) → es.map (·.val) = l.map (fun x => encV x.2) →
    (scan x (l.map (·.1)) es i = none ∧ fnd x l = none) ∨ ∃ (j : Nat) (v : β), scan x (l.map (·.1)) es i = some (i + j, encV v) ∧ fnd x l = some v ∧ j < es.length ∧
      (∀ v', (es.modify j fun e => { e with key := enc x, val := encV v' }).map (·.key) = (mput x v' l).map (fun x => enc x.1) ∧ (es.modify j fun e => { e with key := enc x, val := encV v' }).map (·.val) = (mput x v' l).map (fun x => encV x.2) ∧
        (es.modify j fun e => { e with key := enc x, val := encV v' }).map (·.born) = es.map (·.born)) ∧
      (es.eraseIdx j).map (·.key) = (mdel x l).map (fun x => enc x.1) ∧ (es.eraseIdx j).map (·.val) = (mdel x l).map (fun x => encV x.2)
  | [], es, i, hk, hv => by
    cases es with
    | nil => exact .inl ⟨rfl, rfl⟩
    | cons e es => simp at hk
  | (k, u) :: l, [], i, hk, hv => by simp at hk
  | (k, u) :: l, e :: es, i, hk, hv => by
    simp only [List.map_cons, List.cons.injEq] at hk hv
    by_cases hx : x = k
    · subst hx
      refine .inr ⟨0, u, by simp [scan, hv.1], by simp [fnd], by simp, fun v' => ?_, ?_, ?_⟩
      · simp [mput, hk.2, hv.2]
      · simp [mdel, hk.2]
      · simp [mdel, hv.2]
    · rcases scan_spec x l es (i + 1) hk.2 hv.2 with ⟨h1, h2⟩ | ⟨j, v, h1, h2, h3, h4, h5, h6⟩
      · exact .inl ⟨by simp [scan, hx, h1], by simp [fnd, hx, h2]⟩
      · refine .inr ⟨j + 1, v, by simp [scan, hx, h1]; omega, by simp [fnd, hx, h2], by simp; omega, fun v' => ?_, ?_, ?_⟩
        · obtain ⟨g1, g2, g3⟩ := h4 v'
          simp only [List.modify_succ_cons, List.map_cons, mput, if_neg hx, g1, g2, g3, hk.1, hv.1]
          exact ⟨trivial, trivial, trivial⟩
        · simp [mdel, hx, h5, hk.1]
        · simp [mdel, hx, h6, hv.1]
theorem scan_key {enc : α → Value} (x : α) : ∀ (l : List (α × β)) (es : List MapEntry) (i : Nat), es.map (·.key) = l.map (fun x => enc x.1) → ∀ j, (scan x (l.map (·.1)) es i).map (·.1) = some (i + j) → es[j]?.map (·.key) = some (enc x)
  | [], es, i, hk, j, h => by cases es <;> simp [scan] at h
  | (k, u) :: l, [], i, hk, j, h => by simp at hk
  | (k, u) :: l, e :: es, i, hk, j, h => by
    simp only [List.map_cons, List.cons.injEq] at hk
    by_cases hx : x = k
    · subst hx
      simp [scan] at h
      obtain rfl : j = 0 := by omega
      simp [hk.1]
    · simp only [List.map_cons, scan, if_neg hx] at h
      cases j with
      | zero =>
        have hge : ∀ (ks : List α) (es : List MapEntry) (i : Nat) (p : Nat × Value), scan x ks es i = some p → i ≤ p.1 := by
          intro ks
          induction ks with
          | nil => intro es i p h; simp [scan] at h
          | cons a ks ih =>
            intro es i p h
            cases es with
            | nil => simp [scan] at h
            | cons e es =>
              simp only [scan] at h
              split at h
              · injection h with h; subst h; exact Nat.le_refl _
              · have := ih es (i + 1) p h; omega
        cases hs : scan x (l.map (·.1)) es (i + 1) with
        | none => rw [hs] at h; cases h
        | some p =>
          rw [hs] at h
          have := hge _ _ _ _ hs
          simp at h; omega
      | succ j =>
        have := scan_key x l es (i + 1) hk.2 j (by rw [h]; congr 1; omega)
        simpa using this
/-- an owned map -/
def mapA (b : Nat) (enc : α → Value) (encV : β → Value) (l : List (α × β)) : Asn :=
  ⟨fun w F => F = [b] ∧ ∃ es clock, w.heap[b]? = some (.map es clock) ∧ MapIs enc encV l es.toList clock, fun w w' F hk ⟨h1, es, c, h2, h3⟩ => ⟨h1, es, c, by rw [hk b (by rw [h1]; simp)]; exact h2, h3⟩⟩
section
variable {P : Program} {F0 : List Nat} {m0 : Mem} {w0 w : World} {L : List Nat} {m : Mem} {As : List Asn} {enc : α → Value} {encV : β → Value} {l : List (α × β)} {b : Nat}
theorem Ctx.mapO (C : Ctx F0 m0 w0 w L m (mapA b enc encV l :: As)) : ∃ es clock, w.heap[b]? = some (.map es clock) ∧ MapIs enc encV l es.toList clock := by
  obtain ⟨F, hF, ho⟩ := C.own
  obtain ⟨F1, F2, rfl, hd, ⟨rfl, h⟩, h2⟩ := hF
  exact h
theorem setObj_hid (w : World) (b : Nat) (o : Obj) : Hid [b] w { w with heap := w.heap.setIfInBounds b o } :=
  ⟨rfl, rfl, rfl, by simp, Nat.le_refl _, fun x hx hn => by
    have : b ≠ x := fun e => hn (by simp [e])
    simp [this]⟩
theorem Ctx.mapTurn {l' : List (α × β)} {es : Array MapEntry} {clock : Nat} (C : Ctx F0 m0 w0 w L m (mapA b enc encV l :: As)) (h : MapIs enc encV l' es.toList clock) :
    Kept L w { w with heap := w.heap.setIfInBounds b (.map es clock) } ∧ Ctx F0 m0 w0 { w with heap := w.heap.setIfInBounds b (.map es clock) } L m (mapA b enc encV l' :: As) := by
  obtain ⟨es0, c0, hb, _⟩ := C.mapO
  have hlt := (Array.getElem?_eq_some_iff.1 hb).1
  have := C.turn (b := b) (B := mapA b enc encV l') (fun F hF => hF.1) (setObj_hid w b (.map es clock)) ⟨rfl, es, clock, by simp [hlt], h⟩
  exact ⟨this.2, this.1⟩
theorem Ctx.mapNew (enc : α → Value) (encV : β → Value) (C : Ctx F0 m0 w0 w L m As) : Ctx F0 m0 w0 (w.alloc (.map #[] 0)) L m (mapA w.heap.size enc encV ([] : List (α × β)) :: As) :=
  C.newO _ ⟨rfl, #[], 0, heap_alloc_new w _, ⟨rfl, rfl, by simp, by simp, by simp⟩⟩
theorem Ctx.mlook {t kt et : TypeId} (ht : P.underlying t = some (.map kt et)) (K : KeyT P kt enc) {i : TypeInfo} {z : Value} (hi : P.info? et = some i) (hz : i.zero = some z) (C : Ctx F0 m0 w0 w L m (mapA b enc encV l :: As)) (x : α) (ok : Bool) :
    (Instr.lookup t (.map (some b)) (enc x) ok).run P w = .ok (match fnd x l with
      | some v => if ok then .tuple #[encV v, .bool true] else encV v
      | none => if ok then .tuple #[z, .bool false] else z) w := by
  obtain ⟨es, clock, hb, hm⟩ := C.mapO
  have hs := scan_spec (enc := enc) (encV := encV) x l es.toList 0 hm.keys hm.vals
  have hf := K.find x es.toList (l.map (·.1)) (by rw [hm.keys]; simp)
  rcases hs with ⟨h1, h2⟩ | ⟨j, v, h1, h2, _⟩
  · rw [h2]
    simp only [Instr.lookup, Sem.run_bind, run_underlying ht, Result.andThen_ok, getObj_map hb, Sem.run_pure, K.check, hf, h1, zeroValue, typeInfo, run_program, hi, hz]
  · rw [h2]
    simp only [Instr.lookup, Sem.run_bind, run_underlying ht, Result.andThen_ok, getObj_map hb, Sem.run_pure, K.check, hf, h1]
theorem Ctx.mput {t kt et : TypeId} (ht : P.underlying t = some (.map kt et)) (K : KeyT P kt enc) (C : Ctx F0 m0 w0 w L m (mapA b enc encV l :: As)) (x : α) (v : β) :
    ∃ w', (Instr.mapUpdate t (.map (some b)) (enc x) (encV v)).run P w = .ok () w' ∧ Kept L w w' ∧ Ctx F0 m0 w0 w' L m (mapA b enc encV (X.mput x v l) :: As) := by
  obtain ⟨es, clock, hb, hm⟩ := C.mapO
  have hs := scan_spec (enc := enc) (encV := encV) x l es.toList 0 hm.keys hm.vals
  have hf := K.find x es.toList (l.map (·.1)) (by rw [hm.keys]; simp)
  rcases hs with ⟨h1, h2⟩ | ⟨j, u, h1, h2, h3, h4, _⟩
  · have hx : x ∉ l.map (·.1) := fnd_none.1 h2
    have hnew : MapIs enc encV (X.mput x v l) (es.push { key := enc x, val := encV v, born := clock }).toList (clock + 1) := by
      refine ⟨?_, ?_, fun e he => ?_, ?_, mput_nodup hm.once⟩
      · rw [mput_out hx]; simp [hm.keys]
      · rw [mput_out hx]; simp [hm.vals]
      · simp only [Array.toList_push, List.mem_append, List.mem_singleton] at he
        rcases he with he | rfl
        · have := hm.born e he; omega
        · exact Nat.lt_succ_self _
      · simp only [Array.toList_push, List.map_append, List.map_cons, List.map_nil]
        refine List.nodup_append.2 ⟨hm.nodup, by simp, ?_⟩
        intro a ha c hc
        simp only [List.mem_singleton] at hc
        subst hc
        obtain ⟨e, he, rfl⟩ := List.mem_map.1 ha
        exact Nat.ne_of_lt (hm.born e he)
    obtain ⟨k1, k2⟩ := C.mapTurn hnew
    refine ⟨_, ?_, k1, k2⟩
    simp only [Instr.mapUpdate, Sem.run_bind, run_underlying ht, Result.andThen_ok, getObj_map hb, Sem.run_pure, K.check, hf, h1, setObj_map _ hb]
  · have hnew : MapIs enc encV (X.mput x v l) (es.modify j fun e => { e with key := enc x, val := encV v }).toList clock := by
      obtain ⟨g1, g2, g3⟩ := h4 v
      rw [Array.toList_modify]
      refine ⟨g1, g2, fun e he => ?_, by rw [g3]; exact hm.nodup, mput_nodup hm.once⟩
      have : e.born ∈ (es.toList.modify j fun e => { e with key := enc x, val := encV v }).map (·.born) := List.mem_map_of_mem he
      rw [g3] at this
      obtain ⟨e', he', h'⟩ := List.mem_map.1 this
      rw [← h']; exact hm.born e' he'
    obtain ⟨k1, k2⟩ := C.mapTurn hnew
    refine ⟨_, ?_, k1, k2⟩
    have hj : j < es.size := by simpa using h3
    have hkey : (es.toList.map (·.key))[j]? = some (enc x) := by
      obtain ⟨g1, _, _⟩ := h4 v
      -- the key at j is x's own
      have hks : es.toList[j]?.map (·.key) = some (enc x) := scan_key x l es.toList 0 hm.keys j (by rw [h1]; simp)
      rw [List.getElem?_map]; exact hks
    have hk2 : ((es[j]?).map (·.key)).getD (enc x) = enc x := by
      rw [List.getElem?_map] at hkey
      have : es[j]? = es.toList[j]? := by simp
      rw [this, hkey]; rfl
    rw [Nat.zero_add] at h1
    simp only [Instr.mapUpdate, Sem.run_bind, run_underlying ht, Result.andThen_ok, getObj_map hb, Sem.run_pure, K.check, hf, h1, hk2, Instr.keyThatStays, K.same, if_true, setObj_map _ hb]
theorem Ctx.mdel {t kt et ty : TypeId} (ht : P.underlying t = some (.map kt et)) (K : KeyT P kt enc) (C : Ctx F0 m0 w0 w L m (mapA b enc encV l :: As)) (x : α) :
    ∃ w', (Builtin.delete_ #[t, kt] ty #[.map (some b), enc x]).run P w = .ok (.tuple #[]) w' ∧ Kept L w w' ∧ Ctx F0 m0 w0 w' L m (mapA b enc encV (X.mdel x l) :: As) := by
  obtain ⟨es, clock, hb, hm⟩ := C.mapO
  have hs := scan_spec (enc := enc) (encV := encV) x l es.toList 0 hm.keys hm.vals
  have hf := K.find x es.toList (l.map (·.1)) (by rw [hm.keys]; simp)
  rcases hs with ⟨h1, h2⟩ | ⟨j, u, h1, h2, h3, _, h5, h6⟩
  · have hx : x ∉ l.map (·.1) := fnd_none.1 h2
    have hd : ∀ {l : List (α × β)}, x ∉ l.map (·.1) → X.mdel x l = l := by
      intro l
      induction l with
      | nil => intro _; rfl
      | cons p l ih =>
        intro h
        simp only [List.map_cons, List.mem_cons, not_or] at h
        simp only [X.mdel, if_neg h.1, ih h.2]
    obtain ⟨k1, k2⟩ := C.mapTurn (l' := X.mdel x l) (es := es) (clock := clock) (by rw [hd hx]; exact hm)
    refine ⟨_, ?_, k1, k2⟩
    simp only [Builtin.delete_, Sem.run_bind, run_underlying ht, Result.andThen_ok, getObj_map hb, Sem.run_pure, K.check, hf, h1, setObj_map _ hb]
    simp [run_underlying ht, getObj_map hb, K.check, hf, h1, setObj_map _ hb]
  · have hnew : MapIs enc encV (X.mdel x l) (es.eraseIdxIfInBounds j).toList clock := by
      have hsz : j < es.size := by simpa using h3
      have he : (es.eraseIdxIfInBounds j).toList = es.toList.eraseIdx j := by
        simp [Array.eraseIdxIfInBounds, hsz]
      rw [he]
      refine ⟨h5, h6, fun e he => hm.born e (List.mem_of_mem_eraseIdx he), ?_, mdel_nodup hm.once⟩
      exact hm.nodup.sublist ((List.eraseIdx_sublist ..).map _)
    obtain ⟨k1, k2⟩ := C.mapTurn hnew
    refine ⟨_, ?_, k1, k2⟩
    rw [Nat.zero_add] at h1
    simp [Builtin.delete_, run_underlying ht, getObj_map hb, K.check, hf, h1, setObj_map _ hb]
theorem Ctx.mlen {t kt et ty : TypeId} (ht : P.underlying t = some (.map kt et)) (C : Ctx F0 m0 w0 w L m (mapA b enc encV l :: As)) : (Builtin.len_ #[t] ty #[.map (some b)]).run P w = .ok (.int .i64 l.length) w := by
  obtain ⟨es, clock, hb, hm⟩ := C.mapO
  have : es.size = l.length := by have := congrArg List.length hm.keys; simpa using this
  simp [Builtin.len_, run_underlying ht, getObj_map hb, goInt, this]
end
end
end Go.X
