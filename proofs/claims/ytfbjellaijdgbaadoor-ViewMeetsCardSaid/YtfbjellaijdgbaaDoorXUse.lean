import Derived.Test.YtfbjellaijdgbaaDoorXFn
set_option linter.unusedVariables false
set_option linter.unusedSimpArgs false
/- The engine, part 12: what its users need. -/
namespace Go.X
open Go RowKit
/-- of what lay below n nothing has turned, and draws only grew -/
structure Bel (n : Nat) (w w' : World) : Prop where
  os : w'.os = w.os
  tape : w'.tape = w.tape
  output : w'.output = w.output
  size : w.heap.size ≤ w'.heap.size
  drawn : w.drawn ≤ w'.drawn
  block : ∀ b, b < n → w'.heap[b]? = w.heap[b]?
theorem Bel.toBelow {n : Nat} {w w' : World} (h : Bel n w w') : Below n w w' := ⟨h.os, h.tape, h.output, h.size, h.block⟩
/-- what has been kept since w, and where the locals lie -/
structure At (n : Nat) (w wk : World) (L : List Nat) : Prop where
  bel : Bel n w wk
  loc : ∀ b, b ∈ L → n ≤ b ∧ b < wk.heap.size
theorem below_mono {n m : Nat} {w w' : World} (h : Bel m w w') (hn : n ≤ m) : Bel n w w' := ⟨h.os, h.tape, h.output, h.size, h.drawn, fun b hb => h.block b (by omega)⟩
theorem below_trans {n : Nat} {a b c : World} (h : Bel n a b) (k : Bel n b c) : Bel n a c :=
  ⟨k.os.trans h.os, k.tape.trans h.tape, k.output.trans h.output, Nat.le_trans h.size k.size, Nat.le_trans h.drawn k.drawn, fun i hi => (k.block i hi).trans (h.block i hi)⟩
theorem hid_below {n : Nat} {L : List Nat} {a b : World} (h : Hid L a b) (hl : ∀ i, i ∈ L → n ≤ i) (hn : n ≤ a.heap.size) : Bel n a b :=
  ⟨h.os, h.tape, h.output, h.size, h.drawn, fun i hi => h.block i (by omega) (fun hm => by have := hl i hm; omega)⟩
theorem at_start {w w1 : World} {L : List Nat} (h : Hid [] w w1) (hn : NewL w.heap.size [] w w1 L) : At w.heap.size w w1 L :=
  ⟨hid_below h (by simp) (Nat.le_refl _), fun b hb => ⟨(hn b hb).2.1, (hn b hb).1⟩⟩
theorem at_same (w : World) : At w.heap.size w w [] := ⟨⟨rfl, rfl, rfl, Nat.le_refl _, Nat.le_refl _, fun _ _ => rfl⟩, by simp⟩
theorem at_hid {n : Nat} {w wk wj : World} {L L' : List Nat} (a : At n w wk L) (hw : n ≤ w.heap.size) (h : Hid L wk wj) (hn : NewL n L wk wj L') : At n w wj L' :=
  ⟨below_trans a.bel (hid_below h (fun i hi => (a.loc i hi).1) (Nat.le_trans hw a.bel.size)), fun b hb => ⟨(hn b hb).2.1, (hn b hb).1⟩⟩
theorem at_end {n : Nat} {w wk wj : World} {L : List Nat} (a : At n w wk L) (hw : n ≤ w.heap.size) (h : Hid L wk wj) : Bel n w wj :=
  below_trans a.bel (hid_below h (fun i hi => (a.loc i hi).1) (Nat.le_trans hw a.bel.size))
theorem at_call {n : Nat} {w wk wj : World} {L : List Nat} (a : At n w wk L) (hw : n ≤ w.heap.size) (h : Bel wk.heap.size wk wj) : At n w wj L :=
  ⟨below_trans a.bel (below_mono h (Nat.le_trans hw a.bel.size)), fun b hb => ⟨(a.loc b hb).1, Nat.lt_of_lt_of_le (a.loc b hb).2 h.size⟩⟩
theorem at_kept {n : Nat} {w wk wj : World} {L : List Nat} (a : At n w wk L) (h : Bel wk.heap.size wk wj) : Kept L wk wj :=
  ⟨h.size, fun b hb => h.block b (a.loc b hb).2⟩
theorem facts_nil (u : World) (L : List Nat) : FactsW [] u L := fun _ _ h => by cases h
/-- a function's contract: it gives V and changes nothing that stood -/
def Gives (P : Program) (f : FuncId) (args : Array Value) (V : Value) : Prop :=
  ∀ w, Calls P f args w fun e w' => e = .returned V ∧ Bel w.heap.size w w'
/-- a call by its contract -/
theorem Gives.call {P : Program} {f : FuncId} {args : Array Value} {V : Value} (h : Gives P f args V) {w : World} {R : Ending → World → Prop}
    (k : ∀ w', Bel w.heap.size w w' → R (.returned V) w') : CallX P f args w R :=
  ⟨(h w).mono fun e w' he => by obtain ⟨rfl, hb⟩ := he; exact k w' hb⟩
/-- the same, in one world -/
def GivesAt (P : Program) (f : FuncId) (args : Array Value) (w : World) (V : Value) : Prop := Calls P f args w fun e w' => e = .returned V ∧ Bel w.heap.size w w'
theorem GivesAt.call {P : Program} {f : FuncId} {args : Array Value} {V : Value} {w : World} (h : GivesAt P f args w V) {R : Ending → World → Prop}
    (k : ∀ w', Bel w.heap.size w w' → R (.returned V) w') : CallX P f args w R :=
  ⟨h.mono fun e w' he => by obtain ⟨rfl, hb⟩ := he; exact k w' hb⟩
theorem onSome_some {α : Type} (a : α) (k : α → Prop) : onSome (some a) k = k a := rfl
theorem below_cell {n : Nat} {w w' : World} (h : Bel n w w') {a : Addr} (ha : a.block < n) : w'.cell? a = w.cell? a := by
  simp only [World.cell?, h.block _ ha]
theorem below_refl (n : Nat) (w : World) : Bel n w w := ⟨rfl, rfl, rfl, Nat.le_refl _, Nat.le_refl _, fun _ _ => rfl⟩
theorem w_i64 {n : Int} (h0 : -9223372036854775808 ≤ n) (h1 : n < 9223372036854775808) : IntKind.i64.wrap n = n := by
  simp [IntKind.wrap, IntKind.bits, IntKind.signed]
  split <;> omega
theorem w_u8 {n : Int} (h0 : 0 ≤ n) (h1 : n < 256) : IntKind.u8.wrap n = n := by simp [IntKind.wrap, IntKind.bits, IntKind.signed]; omega
theorem w_u16 {n : Int} (h0 : 0 ≤ n) (h1 : n < 65536) : IntKind.u16.wrap n = n := by simp [IntKind.wrap, IntKind.bits, IntKind.signed]; omega
theorem w_u32 {n : Int} (h0 : 0 ≤ n) (h1 : n < 4294967296) : IntKind.u32.wrap n = n := by simp [IntKind.wrap, IntKind.bits, IntKind.signed]; omega
theorem w_u64 {n : Int} (h0 : 0 ≤ n) (h1 : n < 18446744073709551616) : IntKind.u64.wrap n = n := by simp [IntKind.wrap, IntKind.bits, IntKind.signed]; omega
end Go.X
