import Derived.Test.YtfbjellaijdgbaaDoorXMap
set_option linter.unusedVariables false
set_option linter.unusedSimpArgs false
/- The engine, part 23: the order of pieces, by numbers; facts of owned slices. -/
namespace Go.X
open Go RowKit
def nth : List Asn → Nat → Asn
  | [], _ => Asn.emp
  | a :: _, 0 => a
  | _ :: l, n + 1 => nth l n
def sel (As : List Asn) : List Nat → List Asn
  | [] => []
  | i :: is => nth As i :: sel As is
theorem sel_map (As : List Asn) : ∀ is : List Nat, sel As is = is.map (nth As)
  | [] => rfl
  | i :: is => by simp [sel, sel_map As is]
theorem nth_range : ∀ As : List Asn, (List.range As.length).map (nth As) = As
  | [] => rfl
  | a :: l => by
    rw [List.length_cons, List.range_succ_eq_map, List.map_cons, List.map_map]
    have : (nth (a :: l) ∘ Nat.succ) = nth l := rfl
    rw [this, nth_range l]; rfl
section
variable {F0 : List Nat} {m0 : Mem} {w0 w : World} {L : List Nat} {m : Mem} {A : Asn} {As : List Asn}
/-- the pieces, in another order -/
theorem Ctx.pm (C : Ctx F0 m0 w0 w L m As) (is : List Nat) (hl : is.length = As.length) (h : is.isPerm (List.range is.length) = true := by decide +kernel) : Ctx F0 m0 w0 w L m (sel As is) :=
  C.perm (by
    have h2 := (List.isPerm_iff.1 h).map (nth As)
    rw [hl, nth_range, ← sel_map] at h2
    exact h2.symm)
theorem Ctx.left {Bs : List Asn} (C : Ctx F0 m0 w0 w L m (As ++ Bs)) : Ctx F0 m0 w0 w L m As :=
  C.sub fun F hF _ => by obtain ⟨F1, F2, rfl, _, h1, _⟩ := hF.split; exact ⟨F1, h1, fun b hb => by simp [hb]⟩
theorem sel_append (As : List Asn) : ∀ (is js : List Nat), sel As (is ++ js) = sel As is ++ sel As js
  | [], js => rfl
  | i :: is, js => by simp [sel, sel_append As is js]
/-- .. and some are let go -/
theorem Ctx.pk (C : Ctx F0 m0 w0 w L m As) (is js : List Nat) (hl : (is ++ js).length = As.length) (h : (is ++ js).isPerm (List.range (is ++ js).length) = true := by decide +kernel) : Ctx F0 m0 w0 w L m (sel As is) := by
  have := C.pm (is ++ js) hl h
  rw [sel_append] at this
  exact this.left
/-- a fact of an owned slice -/
theorem Ctx.slFact {a : Addr} {n c : Nat} {cs : List Value} {ty : TypeId} {sz : Nat} (C : Ctx F0 m0 w0 w L m (slA (.slice (some a) n c) n cs ty sz :: As)) (o : Nat) (v : Value) (vs : List Value) (h : ∀ j u, (v :: vs)[j]? = some u → cs[o + j]? = some u) {F : Facts} (k : FactsW F w L) : FactsW ((a.add o, v :: vs) :: F) w L := by
  have h1 := C.slCells.1 a rfl
  have hne : cs ≠ [] := fun e => by have := h 0 v rfl; rw [e] at this; simp at this
  have hc := cells_part h1.1 o (v :: vs) h
  have h0 := hc 0 v rfl
  have hlt := World.block_lt_of_cell? w _ h0
  rw [addr_block] at hlt
  exact factsMore hc hlt (by rw [addr_block]; exact h1.2 hne) k
end
end Go.X
