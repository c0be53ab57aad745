import Derived.Test.YtfbjellaijdgbaaDoorXDel
set_option linter.unusedVariables false
set_option linter.unusedSimpArgs false
/- The engine, part 19: lists of elements of one width; small things. -/
namespace Go.X
open Go RowKit
section
variable {α : Type} {f : α → List Value} {k : Nat}
theorem flat_len (hk : ∀ a, (f a).length = k) (l : List α) : (l.flatMap f).length = l.length * k := by
  induction l with
  | nil => simp
  | cons a l ih => rw [List.flatMap_cons, List.length_append, hk, ih, List.length_cons, Nat.add_mul]; omega
theorem flat_drop (hk : ∀ a, (f a).length = k) (l : List α) (i : Nat) : (l.flatMap f).drop (i * k) = (l.drop i).flatMap f := by
  induction l generalizing i with
  | nil => simp
  | cons a l ih =>
    cases i with
    | zero => simp
    | succ i =>
      rw [List.flatMap_cons, Nat.add_mul, Nat.one_mul, Nat.add_comm, ← List.drop_drop, ← hk a, List.drop_left, hk a, ih]
      rfl
theorem flat_take (hk : ∀ a, (f a).length = k) (l : List α) (i : Nat) : (l.flatMap f).take (i * k) = (l.take i).flatMap f := by
  induction l generalizing i with
  | nil => simp
  | cons a l ih =>
    cases i with
    | zero => simp
    | succ i =>
      rw [List.flatMap_cons, List.take_append, hk a]
      have e1 : (i + 1) * k - k = i * k := by rw [Nat.add_mul]; omega
      have e2 : (f a).take ((i + 1) * k) = f a := List.take_of_length_le (by rw [hk, Nat.add_mul]; omega)
      rw [e1, e2, ih]
      rfl
theorem flat_at (hk : ∀ a, (f a).length = k) (l : List α) (i : Nat) (hi : i < l.length) (j : Nat) (v : Value) (h : (f l[i])[j]? = some v) : (l.flatMap f)[i * k + j]? = some v := by
  have : (l.flatMap f)[i * k + j]? = ((l.flatMap f).drop (i * k))[j]? := by rw [List.getElem?_drop]
  rw [this, flat_drop hk, List.drop_eq_getElem_cons hi, List.flatMap_cons, List.getElem?_append_left (List.getElem?_eq_some_iff.1 h).1]
  exact h
theorem flat_one (h1 : ∀ a, ∀ u ∈ f a, oneC u = true) (l : List α) : ∀ u ∈ l.flatMap f, oneC u = true := by
  intro u hu
  obtain ⟨a, _, h⟩ := List.mem_flatMap.1 hu
  exact h1 a u h
/-- the cells of element i -/
theorem cells_elem {w : World} {a : Addr} (hk : ∀ a, (f a).length = k) {l : List α} (h : Cells w a (l.flatMap f)) (i : Nat) (hi : i < l.length) : Cells w (a.add (i * k)) (f l[i]) := fun j v e => by
  rw [Addr.add_add]; exact h _ _ (flat_at hk l i hi j v e)
theorem mcells_elem {m : Mem} {a : Addr} (hk : ∀ a, (f a).length = k) {l : List α} (h : MCells m a (l.flatMap f)) (i : Nat) (hi : i < l.length) : MCells m (a.add (i * k)) (f l[i]) := fun j v e => by
  rw [Addr.add_add]; exact h _ _ (flat_at hk l i hi j v e)
theorem cells_part {w : World} {a : Addr} {cs : List Value} (h : Cells w a cs) (o : Nat) (us : List Value) (hu : ∀ j v, us[j]? = some v → cs[o + j]? = some v) : Cells w (a.add o) us := fun j v e => by
  rw [Addr.add_add]; exact h _ _ (hu j v e)
end
theorem MSrc.elem {α : Type} {f : α → List Value} {k : Nat} (hk : ∀ a, (f a).length = k) {m : Mem} {q : Option Addr} {c : Nat} {l : List α} (h : MSrc m k (.slice q l.length c) l.length (l.flatMap f)) {i : Nat} (hi : i < l.length) : ∃ a, q = some a ∧ MCells m (a.add (i * k)) (f l[i]) := by
  obtain ⟨a, rfl, ha⟩ := h.cells hi
  exact ⟨a, rfl, fun j v hj => ha j v (by rw [List.getElem?_take, if_pos (by rw [← hk l[i]]; exact (List.getElem?_eq_some_iff.1 hj).1), List.getElem?_drop]; exact flat_at hk l i hi j v hj)⟩
/-- a call by its contract, not at a call's own place -/
theorem Ctr.calls {F0 : List Nat} {m0 : Mem} {w0 w : World} {L : List Nat} {m : Mem} {As : List Asn} {P : Program} {f : FuncId} {args : Array Value} {pre : Mem → Prop} {Cs : List Asn} {ι : Type} {r : ι → Value} {post : ι → Mem → Prop} {Bs : ι → List Asn} {R : Ending → World → Prop}
    (s : Ctr P f args pre Cs r post Bs) (C : Ctx F0 m0 w0 w L m (Cs ++ As)) (hp : pre m)
    (k : ∀ i m' w', Kept L w w' → m.le m' → post i m' → Ctx F0 m0 w0 w' L m' (Bs i ++ As) → R (.returned (r i)) w') : Calls P f args w R := (s.call C hp k).h
theorem map_elem_perm {α β : Type} (f : α → β) (l : List α) (i : Nat) (hi : i < l.length) : (l.map f).Perm (f l[i] :: (l.eraseIdx i).map f) := by
  have h1 : l = l.take i ++ l[i] :: l.drop (i + 1) := by rw [← List.drop_eq_getElem_cons hi, List.take_append_drop]
  have h2 : l.Perm (l[i] :: l.eraseIdx i) := by
    rw [List.eraseIdx_eq_take_drop_succ]
    conv => lhs; rw [h1]
    exact List.perm_middle
  simpa using h2.map f
/-! ### shapes, ranges -/
theorem fit_cons {t : Ty} {ts : List Ty} {l : List Value} (h : Fit (t :: ts) l) : ∃ v vs, l = v :: vs ∧ Fit1 t v ∧ Fit ts vs := by
  cases l with
  | nil => exact h.elim
  | cons v vs => exact ⟨v, vs, rfl, h⟩
theorem fit_nil {l : List Value} (h : Fit [] l) : l = [] := by
  cases l with
  | nil => rfl
  | cons v vs => exact h.elim
theorem wf_i64 {n : Int} (h : (Lit.int .i64 n).wf = true) : -9223372036854775808 ≤ n ∧ n < 9223372036854775808 := by
  simp [Lit.wf, IntKind.min, IntKind.max, IntKind.bits, IntKind.signed] at h; omega
theorem wf_u8 {n : Int} (h : (Lit.int .u8 n).wf = true) : 0 ≤ n ∧ n < 256 := by
  simp [Lit.wf, IntKind.min, IntKind.max, IntKind.bits, IntKind.signed] at h; omega
theorem wf_u16 {n : Int} (h : (Lit.int .u16 n).wf = true) : 0 ≤ n ∧ n < 65536 := by
  simp [Lit.wf, IntKind.min, IntKind.max, IntKind.bits, IntKind.signed] at h; omega
theorem wf_u32 {n : Int} (h : (Lit.int .u32 n).wf = true) : 0 ≤ n ∧ n < 4294967296 := by
  simp [Lit.wf, IntKind.min, IntKind.max, IntKind.bits, IntKind.signed] at h; omega
/-- a law's start: nothing is owned; what is there is read -/
theorem lawStart (w : World) : Ctx [] (memOf w) w w [] (memOf w) [] := Ctx.start (F := []) rfl (by simp) (fun a v h => ⟨h, by simp⟩)
def LawR (w : World) (e : Ending) (w' : World) : Prop := e = .returned (.bool true) ∧ Below w.heap.size w w'
theorem kept_refl (L : List Nat) (w : World) : Kept L w w := ⟨Nat.le_refl _, fun _ _ => rfl⟩
end Go.X
