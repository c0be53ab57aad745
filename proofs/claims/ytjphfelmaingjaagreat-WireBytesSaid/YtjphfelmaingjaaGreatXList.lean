import Derived.Test.YtjphfelmaingjaaGreatXArgs
set_option linter.unusedVariables false
set_option linter.unusedSimpArgs false
/- The engine, part 19: lists of elements of one width; small things. -/
namespace Go.X
open Go RowKit
section
variable {α : Type} {f : α → List Value} {k : Nat}
theorem flat_len (hk : ∀ a, (f a).length = k) (l : List α) : (l.flatMap f).length = l.length * k := by
  induction l with
  | nil => simp
  | cons a l ih => rw [List.flatMap_cons, List.length_append, hk, ih, List.length_cons, Nat.add_mul]; omega
theorem flat_drop (hk : ∀ a, (f a).length = k) (l : List α) (i : Nat) : (l.flatMap f).drop (i * k) = (l.drop i).flatMap f := by
  induction l generalizing i with
  | nil => simp
  | cons a l ih =>
    cases i with
    | zero => simp
    | succ i =>
      rw [List.flatMap_cons, Nat.add_mul, Nat.one_mul, Nat.add_comm, ← List.drop_drop, ← hk a, List.drop_left, hk a, ih]
      rfl
theorem flat_at (hk : ∀ a, (f a).length = k) (l : List α) (i : Nat) (hi : i < l.length) (j : Nat) (v : Value) (h : (f l[i])[j]? = some v) : (l.flatMap f)[i * k + j]? = some v := by
  have : (l.flatMap f)[i * k + j]? = ((l.flatMap f).drop (i * k))[j]? := by rw [List.getElem?_drop]
  rw [this, flat_drop hk, List.drop_eq_getElem_cons hi, List.flatMap_cons, List.getElem?_append_left (List.getElem?_eq_some_iff.1 h).1]
  exact h
end
theorem MSrc.elem {α : Type} {f : α → List Value} {k : Nat} (hk : ∀ a, (f a).length = k) {m : Mem} {q : Option Addr} {c : Nat} {l : List α} (h : MSrc m k (.slice q l.length c) l.length (l.flatMap f)) {i : Nat} (hi : i < l.length) : ∃ a, q = some a ∧ MCells m (a.add (i * k)) (f l[i]) := by
  obtain ⟨a, rfl, ha⟩ := h.cells hi
  exact ⟨a, rfl, fun j v hj => ha j v (by rw [List.getElem?_take, if_pos (by rw [← hk l[i]]; exact (List.getElem?_eq_some_iff.1 hj).1), List.getElem?_drop]; exact flat_at hk l i hi j v hj)⟩
theorem fit_cons {t : Ty} {ts : List Ty} {l : List Value} (h : Fit (t :: ts) l) : ∃ v vs, l = v :: vs ∧ Fit1 t v ∧ Fit ts vs := by
  cases l with
  | nil => exact h.elim
  | cons v vs => exact ⟨v, vs, rfl, h⟩
theorem fit_nil {l : List Value} (h : Fit [] l) : l = [] := by
  cases l with
  | nil => rfl
  | cons v vs => exact h.elim
theorem wf_i64 {n : Int} (h : (Lit.int .i64 n).wf = true) : -9223372036854775808 ≤ n ∧ n < 9223372036854775808 := by
  simp [Lit.wf, IntKind.min, IntKind.max, IntKind.bits, IntKind.signed] at h; omega
theorem wf_u8 {n : Int} (h : (Lit.int .u8 n).wf = true) : 0 ≤ n ∧ n < 256 := by
  simp [Lit.wf, IntKind.min, IntKind.max, IntKind.bits, IntKind.signed] at h; omega
theorem wf_u16 {n : Int} (h : (Lit.int .u16 n).wf = true) : 0 ≤ n ∧ n < 65536 := by
  simp [Lit.wf, IntKind.min, IntKind.max, IntKind.bits, IntKind.signed] at h; omega
theorem wf_u32 {n : Int} (h : (Lit.int .u32 n).wf = true) : 0 ≤ n ∧ n < 4294967296 := by
  simp [Lit.wf, IntKind.min, IntKind.max, IntKind.bits, IntKind.signed] at h; omega
theorem lawStart (w : World) : Ctx [] (memOf w) w w [] (memOf w) [] := Ctx.start (F := []) rfl (by simp) (fun a v h => ⟨h, by simp⟩)
def LawR (w : World) (e : Ending) (w' : World) : Prop := e = .returned (.bool true) ∧ Below w.heap.size w w'
theorem kept_refl (L : List Nat) (w : World) : Kept L w w := ⟨Nat.le_refl _, fun _ _ => rfl⟩
end Go.X
