import Derived.Test.YtjabbpcfinjofaaXFn
import Derived.Test.YtjabbpcfinjofaaProg
/- The verification conditions of this seat's functions, as the engine has them: printed by a program of the bench; checked by the kernel. -/
set_option maxRecDepth 100000
set_option linter.unusedVariables false
namespace Go.Proofs
open Go
abbrev fn_noteB : Nat := 54
theorem x_noteB (a : Addr) (b_0 b_1 b_2 b_3 b_4 b_5 b_6 b_7 b_8 b_9 c_0 c_1 c_2 c_3 c_4 c_5 c_6 c_7 c_8 c_9 c_10 c_11 c_12 : Int) (c_13 : Option Addr) (c_13l c_13c : Nat) (w : World) (R : Ending → World → Prop) (h :
  ∃ x1 : X.Facts, (X.FactsW x1 w []) ∧
  ∃ q2 : Option Nat, (((a.add 0), [(.map (q2))]) ∈ x1) ∧
  ∀ w3 : World, ∀ L4 : List Nat, (X.Hid [] w w3) →
  (X.NewL (w).heap.size [] w w3 L4) →
  ∃ b5 : Bool, ∃ w6 : World, (Sem.run Try.prog (Go.Instr.lookup 79 (.map (q2)) (.agg #[(.int .u8 b_0), (.int .u16 b_1), (.int .u32 b_2), (.int .u8 b_3), (.int .u8 b_4), (.int .u8 b_5), (.int .u8 b_6), (.int .u8 b_7), (.int .u8 b_8), (.int .u8 b_9)]) false) w3 = .ok (.bool b5) w6) ∧
  (X.Kept L4 w3 w6) ∧
  (X.FactsW x1 w6 (L4)) ∧
  if b5 = true then
   R (.returned (.bool false)) w6
  else
   ∃ q7 : Option Nat, (World.cell? w6 (a.add 0) = some (.map (q7))) ∧
   (¬ (((a.add 0).block) ∈ L4)) ∧
   if (q7.isNone) = true then
    (((a.add 0).spot) = none) ∧
    (World.there (w6.alloc (.map #[] 0)) ((a.add 0).block) ((a.add 0).off) 1) ∧
    (¬ (((a.add 0).block) ∈ L4)) ∧
    ∃ x23 : X.Facts, (X.FactsW x23 ((w6.alloc (.map #[] 0)).setCells ((a.add 0).block) ((a.add 0).off) [(.map (some (w6).heap.size))]) (L4)) ∧
    ∃ q24 : Option Nat, (((a.add 0), [(.map (q24))]) ∈ x23) ∧
    ∀ w25 : World, ∀ L26 : List Nat, (X.Hid (L4) ((w6.alloc (.map #[] 0)).setCells ((a.add 0).block) ((a.add 0).off) [(.map (some (w6).heap.size))]) w25) →
    (X.NewL (w).heap.size (L4) ((w6.alloc (.map #[] 0)).setCells ((a.add 0).block) ((a.add 0).off) [(.map (some (w6).heap.size))]) w25 L26) →
    ∃ w27 : World, (Sem.run Try.prog (Go.Instr.mapUpdate 79 (.map (q24)) (.agg #[(.int .u8 b_0), (.int .u16 b_1), (.int .u32 b_2), (.int .u8 b_3), (.int .u8 b_4), (.int .u8 b_5), (.int .u8 b_6), (.int .u8 b_7), (.int .u8 b_8), (.int .u8 b_9)]) (.bool true)) w25 = .ok (PUnit.unit) w27) ∧
    (X.Kept L26 w25 w27) ∧
    ∃ x28 : X.Facts, (X.FactsW x28 w27 (L26)) ∧
    ∃ q29 : Option Addr, ∃ k30 : Nat, ∃ k31 : Nat, (((a.add 1), [(.slice (q29) k30 k31)]) ∈ x28) ∧
    ∀ w32 : World, ∀ L33 : List Nat, (X.Hid (L26) w27 w32) →
    (X.NewL (w).heap.size (L26) w27 w32 L33) →
    (X.FactsW x28 (w32.alloc (.cells #[(.int .u8 c_0), (.int .u16 c_1), (.int .u32 c_2), (.int .u8 c_3), (.int .u8 c_4), (.int .u8 c_5), (.int .u8 c_6), (.int .u8 c_7), (.int .u8 c_8), (.int .u8 c_9), (.int .u8 c_10), (.int .i64 c_11), (.int .i64 c_12), (.slice (c_13) c_13l c_13c)] 112)) (L33)) ∧
    ∃ q34 : Option Addr, ∃ k35 : Nat, ∃ k36 : Nat, ∃ w37 : World, (Sem.run Try.prog (Go.Builtin.append_ #[71, 71] 71 #[(.slice (q29) k30 k31), (.slice (some ⟨(w32).heap.size, 0, none⟩) 1 1)]) (w32.alloc (.cells #[(.int .u8 c_0), (.int .u16 c_1), (.int .u32 c_2), (.int .u8 c_3), (.int .u8 c_4), (.int .u8 c_5), (.int .u8 c_6), (.int .u8 c_7), (.int .u8 c_8), (.int .u8 c_9), (.int .u8 c_10), (.int .i64 c_11), (.int .i64 c_12), (.slice (c_13) c_13l c_13c)] 112)) = .ok (.slice (q34) k35 k36) w37) ∧
    (X.Kept L33 (w32.alloc (.cells #[(.int .u8 c_0), (.int .u16 c_1), (.int .u32 c_2), (.int .u8 c_3), (.int .u8 c_4), (.int .u8 c_5), (.int .u8 c_6), (.int .u8 c_7), (.int .u8 c_8), (.int .u8 c_9), (.int .u8 c_10), (.int .i64 c_11), (.int .i64 c_12), (.slice (c_13) c_13l c_13c)] 112)) w37) ∧
    (X.FactsW x28 w37 (L33)) ∧
    ((none : Option Nat) = none) ∧
    (World.there w37 (a.block) ((a.off) + 1) 1) ∧
    (¬ ((a.block) ∈ L33)) ∧
    R (.returned (.bool true)) (w37.setCells (a.block) ((a.off) + 1) [(.slice (q34) k35 k36)])
   else
    ∃ x8 : X.Facts, (X.FactsW x8 w6 (L4)) ∧
    ∃ q9 : Option Nat, (((a.add 0), [(.map (q9))]) ∈ x8) ∧
    ∀ w10 : World, ∀ L11 : List Nat, (X.Hid (L4) w6 w10) →
    (X.NewL (w).heap.size (L4) w6 w10 L11) →
    ∃ w12 : World, (Sem.run Try.prog (Go.Instr.mapUpdate 79 (.map (q9)) (.agg #[(.int .u8 b_0), (.int .u16 b_1), (.int .u32 b_2), (.int .u8 b_3), (.int .u8 b_4), (.int .u8 b_5), (.int .u8 b_6), (.int .u8 b_7), (.int .u8 b_8), (.int .u8 b_9)]) (.bool true)) w10 = .ok (PUnit.unit) w12) ∧
    (X.Kept L11 w10 w12) ∧
    ∃ x13 : X.Facts, (X.FactsW x13 w12 (L11)) ∧
    ∃ q14 : Option Addr, ∃ k15 : Nat, ∃ k16 : Nat, (((a.add 1), [(.slice (q14) k15 k16)]) ∈ x13) ∧
    ∀ w17 : World, ∀ L18 : List Nat, (X.Hid (L11) w12 w17) →
    (X.NewL (w).heap.size (L11) w12 w17 L18) →
    (X.FactsW x13 (w17.alloc (.cells #[(.int .u8 c_0), (.int .u16 c_1), (.int .u32 c_2), (.int .u8 c_3), (.int .u8 c_4), (.int .u8 c_5), (.int .u8 c_6), (.int .u8 c_7), (.int .u8 c_8), (.int .u8 c_9), (.int .u8 c_10), (.int .i64 c_11), (.int .i64 c_12), (.slice (c_13) c_13l c_13c)] 112)) (L18)) ∧
    ∃ q19 : Option Addr, ∃ k20 : Nat, ∃ k21 : Nat, ∃ w22 : World, (Sem.run Try.prog (Go.Builtin.append_ #[71, 71] 71 #[(.slice (q14) k15 k16), (.slice (some ⟨(w17).heap.size, 0, none⟩) 1 1)]) (w17.alloc (.cells #[(.int .u8 c_0), (.int .u16 c_1), (.int .u32 c_2), (.int .u8 c_3), (.int .u8 c_4), (.int .u8 c_5), (.int .u8 c_6), (.int .u8 c_7), (.int .u8 c_8), (.int .u8 c_9), (.int .u8 c_10), (.int .i64 c_11), (.int .i64 c_12), (.slice (c_13) c_13l c_13c)] 112)) = .ok (.slice (q19) k20 k21) w22) ∧
    (X.Kept L18 (w17.alloc (.cells #[(.int .u8 c_0), (.int .u16 c_1), (.int .u32 c_2), (.int .u8 c_3), (.int .u8 c_4), (.int .u8 c_5), (.int .u8 c_6), (.int .u8 c_7), (.int .u8 c_8), (.int .u8 c_9), (.int .u8 c_10), (.int .i64 c_11), (.int .i64 c_12), (.slice (c_13) c_13l c_13c)] 112)) w22) ∧
    (X.FactsW x13 w22 (L18)) ∧
    ((none : Option Nat) = none) ∧
    (World.there w22 (a.block) ((a.off) + 1) 1) ∧
    (¬ ((a.block) ∈ L18)) ∧
    R (.returned (.bool true)) (w22.setCells (a.block) ((a.off) + 1) [(.slice (q19) k20 k21)])) :
    Calls Try.prog 54 #[.pointer (some a), .agg #[.int .u8 b_0, .int .u16 b_1, .int .u32 b_2, .int .u8 b_3, .int .u8 b_4, .int .u8 b_5, .int .u8 b_6, .int .u8 b_7, .int .u8 b_8, .int .u8 b_9], .agg #[.int .u8 c_0, .int .u16 c_1, .int .u32 c_2, .int .u8 c_3, .int .u8 c_4, .int .u8 c_5, .int .u8 c_6, .int .u8 c_7, .int .u8 c_8, .int .u8 c_9, .int .u8 c_10, .int .i64 c_11, .int .i64 c_12, .slice c_13 c_13l c_13c]] w R :=
  X.calls_of { isLoc := [4, 5], sym := [], loops := [], joins := [] } Try.func54 (by kernel_rfl) h
abbrev fn_noteE : Nat := 57
theorem x_noteE (a : Addr) (b_0 b_1 b_2 b_3 b_4 b_5 b_6 b_7 b_8 b_9 c_0 c_1 c_2 c_3 c_4 c_5 c_6 c_7 c_8 c_9 c_10 c_11 c_12 c_13 c_14 c_15 : Int) (c_16 : ByteArray) (w : World) (R : Ending → World → Prop) (h :
  ∃ x1 : X.Facts, (X.FactsW x1 w []) ∧
  ∃ q2 : Option Nat, (((a.add 0), [(.map (q2))]) ∈ x1) ∧
  ∀ w3 : World, ∀ L4 : List Nat, (X.Hid [] w w3) →
  (X.NewL (w).heap.size [] w w3 L4) →
  ∃ b5 : Bool, ∃ w6 : World, (Sem.run Try.prog (Go.Instr.lookup 79 (.map (q2)) (.agg #[(.int .u8 b_0), (.int .u16 b_1), (.int .u32 b_2), (.int .u8 b_3), (.int .u8 b_4), (.int .u8 b_5), (.int .u8 b_6), (.int .u8 b_7), (.int .u8 b_8), (.int .u8 b_9)]) false) w3 = .ok (.bool b5) w6) ∧
  (X.Kept L4 w3 w6) ∧
  (X.FactsW x1 w6 (L4)) ∧
  if b5 = true then
   R (.returned (.bool false)) w6
  else
   ∃ q7 : Option Nat, (World.cell? w6 (a.add 0) = some (.map (q7))) ∧
   (¬ (((a.add 0).block) ∈ L4)) ∧
   if (q7.isNone) = true then
    (((a.add 0).spot) = none) ∧
    (World.there (w6.alloc (.map #[] 0)) ((a.add 0).block) ((a.add 0).off) 1) ∧
    (¬ (((a.add 0).block) ∈ L4)) ∧
    ∃ x23 : X.Facts, (X.FactsW x23 ((w6.alloc (.map #[] 0)).setCells ((a.add 0).block) ((a.add 0).off) [(.map (some (w6).heap.size))]) (L4)) ∧
    ∃ q24 : Option Nat, (((a.add 0), [(.map (q24))]) ∈ x23) ∧
    ∀ w25 : World, ∀ L26 : List Nat, (X.Hid (L4) ((w6.alloc (.map #[] 0)).setCells ((a.add 0).block) ((a.add 0).off) [(.map (some (w6).heap.size))]) w25) →
    (X.NewL (w).heap.size (L4) ((w6.alloc (.map #[] 0)).setCells ((a.add 0).block) ((a.add 0).off) [(.map (some (w6).heap.size))]) w25 L26) →
    ∃ w27 : World, (Sem.run Try.prog (Go.Instr.mapUpdate 79 (.map (q24)) (.agg #[(.int .u8 b_0), (.int .u16 b_1), (.int .u32 b_2), (.int .u8 b_3), (.int .u8 b_4), (.int .u8 b_5), (.int .u8 b_6), (.int .u8 b_7), (.int .u8 b_8), (.int .u8 b_9)]) (.bool true)) w25 = .ok (PUnit.unit) w27) ∧
    (X.Kept L26 w25 w27) ∧
    ∃ x28 : X.Facts, (X.FactsW x28 w27 (L26)) ∧
    ∃ q29 : Option Addr, ∃ k30 : Nat, ∃ k31 : Nat, (((a.add 1), [(.slice (q29) k30 k31)]) ∈ x28) ∧
    ∀ w32 : World, ∀ L33 : List Nat, (X.Hid (L26) w27 w32) →
    (X.NewL (w).heap.size (L26) w27 w32 L33) →
    (X.FactsW x28 (w32.alloc (.cells #[(.int .u8 c_0), (.int .u16 c_1), (.int .u32 c_2), (.int .u8 c_3), (.int .u8 c_4), (.int .u8 c_5), (.int .u8 c_6), (.int .u8 c_7), (.int .u8 c_8), (.int .u8 c_9), (.int .u8 c_10), (.int .i64 c_11), (.int .i64 c_12), (.int .i64 c_13), (.int .i64 c_14), (.int .u8 c_15), (.string c_16)] 116)) (L33)) ∧
    ∃ q34 : Option Addr, ∃ k35 : Nat, ∃ k36 : Nat, ∃ w37 : World, (Sem.run Try.prog (Go.Builtin.append_ #[73, 73] 73 #[(.slice (q29) k30 k31), (.slice (some ⟨(w32).heap.size, 0, none⟩) 1 1)]) (w32.alloc (.cells #[(.int .u8 c_0), (.int .u16 c_1), (.int .u32 c_2), (.int .u8 c_3), (.int .u8 c_4), (.int .u8 c_5), (.int .u8 c_6), (.int .u8 c_7), (.int .u8 c_8), (.int .u8 c_9), (.int .u8 c_10), (.int .i64 c_11), (.int .i64 c_12), (.int .i64 c_13), (.int .i64 c_14), (.int .u8 c_15), (.string c_16)] 116)) = .ok (.slice (q34) k35 k36) w37) ∧
    (X.Kept L33 (w32.alloc (.cells #[(.int .u8 c_0), (.int .u16 c_1), (.int .u32 c_2), (.int .u8 c_3), (.int .u8 c_4), (.int .u8 c_5), (.int .u8 c_6), (.int .u8 c_7), (.int .u8 c_8), (.int .u8 c_9), (.int .u8 c_10), (.int .i64 c_11), (.int .i64 c_12), (.int .i64 c_13), (.int .i64 c_14), (.int .u8 c_15), (.string c_16)] 116)) w37) ∧
    (X.FactsW x28 w37 (L33)) ∧
    ((none : Option Nat) = none) ∧
    (World.there w37 (a.block) ((a.off) + 1) 1) ∧
    (¬ ((a.block) ∈ L33)) ∧
    R (.returned (.bool true)) (w37.setCells (a.block) ((a.off) + 1) [(.slice (q34) k35 k36)])
   else
    ∃ x8 : X.Facts, (X.FactsW x8 w6 (L4)) ∧
    ∃ q9 : Option Nat, (((a.add 0), [(.map (q9))]) ∈ x8) ∧
    ∀ w10 : World, ∀ L11 : List Nat, (X.Hid (L4) w6 w10) →
    (X.NewL (w).heap.size (L4) w6 w10 L11) →
    ∃ w12 : World, (Sem.run Try.prog (Go.Instr.mapUpdate 79 (.map (q9)) (.agg #[(.int .u8 b_0), (.int .u16 b_1), (.int .u32 b_2), (.int .u8 b_3), (.int .u8 b_4), (.int .u8 b_5), (.int .u8 b_6), (.int .u8 b_7), (.int .u8 b_8), (.int .u8 b_9)]) (.bool true)) w10 = .ok (PUnit.unit) w12) ∧
    (X.Kept L11 w10 w12) ∧
    ∃ x13 : X.Facts, (X.FactsW x13 w12 (L11)) ∧
    ∃ q14 : Option Addr, ∃ k15 : Nat, ∃ k16 : Nat, (((a.add 1), [(.slice (q14) k15 k16)]) ∈ x13) ∧
    ∀ w17 : World, ∀ L18 : List Nat, (X.Hid (L11) w12 w17) →
    (X.NewL (w).heap.size (L11) w12 w17 L18) →
    (X.FactsW x13 (w17.alloc (.cells #[(.int .u8 c_0), (.int .u16 c_1), (.int .u32 c_2), (.int .u8 c_3), (.int .u8 c_4), (.int .u8 c_5), (.int .u8 c_6), (.int .u8 c_7), (.int .u8 c_8), (.int .u8 c_9), (.int .u8 c_10), (.int .i64 c_11), (.int .i64 c_12), (.int .i64 c_13), (.int .i64 c_14), (.int .u8 c_15), (.string c_16)] 116)) (L18)) ∧
    ∃ q19 : Option Addr, ∃ k20 : Nat, ∃ k21 : Nat, ∃ w22 : World, (Sem.run Try.prog (Go.Builtin.append_ #[73, 73] 73 #[(.slice (q14) k15 k16), (.slice (some ⟨(w17).heap.size, 0, none⟩) 1 1)]) (w17.alloc (.cells #[(.int .u8 c_0), (.int .u16 c_1), (.int .u32 c_2), (.int .u8 c_3), (.int .u8 c_4), (.int .u8 c_5), (.int .u8 c_6), (.int .u8 c_7), (.int .u8 c_8), (.int .u8 c_9), (.int .u8 c_10), (.int .i64 c_11), (.int .i64 c_12), (.int .i64 c_13), (.int .i64 c_14), (.int .u8 c_15), (.string c_16)] 116)) = .ok (.slice (q19) k20 k21) w22) ∧
    (X.Kept L18 (w17.alloc (.cells #[(.int .u8 c_0), (.int .u16 c_1), (.int .u32 c_2), (.int .u8 c_3), (.int .u8 c_4), (.int .u8 c_5), (.int .u8 c_6), (.int .u8 c_7), (.int .u8 c_8), (.int .u8 c_9), (.int .u8 c_10), (.int .i64 c_11), (.int .i64 c_12), (.int .i64 c_13), (.int .i64 c_14), (.int .u8 c_15), (.string c_16)] 116)) w22) ∧
    (X.FactsW x13 w22 (L18)) ∧
    ((none : Option Nat) = none) ∧
    (World.there w22 (a.block) ((a.off) + 1) 1) ∧
    (¬ ((a.block) ∈ L18)) ∧
    R (.returned (.bool true)) (w22.setCells (a.block) ((a.off) + 1) [(.slice (q19) k20 k21)])) :
    Calls Try.prog 57 #[.pointer (some a), .agg #[.int .u8 b_0, .int .u16 b_1, .int .u32 b_2, .int .u8 b_3, .int .u8 b_4, .int .u8 b_5, .int .u8 b_6, .int .u8 b_7, .int .u8 b_8, .int .u8 b_9], .agg #[.int .u8 c_0, .int .u16 c_1, .int .u32 c_2, .int .u8 c_3, .int .u8 c_4, .int .u8 c_5, .int .u8 c_6, .int .u8 c_7, .int .u8 c_8, .int .u8 c_9, .int .u8 c_10, .int .i64 c_11, .int .i64 c_12, .int .i64 c_13, .int .i64 c_14, .int .u8 c_15, .string c_16]] w R :=
  X.calls_of { isLoc := [4, 5], sym := [], loops := [], joins := [] } Try.func57 (by kernel_rfl) h
abbrev fn_noteT : Nat := 61
theorem x_noteT (a : Addr) (b_0 b_1 b_2 b_3 b_4 b_5 b_6 b_7 b_8 b_9 b_10 b_11 b_12 : Int) (b_13 : ByteArray) (b_14 b_15 c_0 c_1 c_2 c_3 c_4 c_5 c_6 c_7 c_8 c_9 c_10 c_11 c_12 : Int) (c_13 : ByteArray) (c_14 c_15 : Int) (c_16 : Option Addr) (c_16l c_16c : Nat) (w : World) (R : Ending → World → Prop) (h :
  ∃ x1 : X.Facts, (X.FactsW x1 w []) ∧
  ∃ q2 : Option Nat, (((a.add 0), [(.map (q2))]) ∈ x1) ∧
  ∀ w3 : World, ∀ L4 : List Nat, (X.Hid [] w w3) →
  (X.NewL (w).heap.size [] w w3 L4) →
  ∃ b5 : Bool, ∃ w6 : World, (Sem.run Try.prog (Go.Instr.lookup 84 (.map (q2)) (.agg #[(.int .u8 b_0), (.int .u16 b_1), (.int .u8 b_2), (.int .u16 b_3), (.int .u32 b_4), (.int .u8 b_5), (.int .u8 b_6), (.int .u8 b_7), (.int .u8 b_8), (.int .u8 b_9), (.int .u8 b_10), (.int .u8 b_11), (.int .u8 b_12), (.string b_13), (.int .u8 b_14), (.int .u32 b_15)]) false) w3 = .ok (.bool b5) w6) ∧
  (X.Kept L4 w3 w6) ∧
  (X.FactsW x1 w6 (L4)) ∧
  if b5 = true then
   R (.returned (.bool false)) w6
  else
   ∃ q7 : Option Nat, (World.cell? w6 (a.add 0) = some (.map (q7))) ∧
   (¬ (((a.add 0).block) ∈ L4)) ∧
   if (q7.isNone) = true then
    (((a.add 0).spot) = none) ∧
    (World.there (w6.alloc (.map #[] 0)) ((a.add 0).block) ((a.add 0).off) 1) ∧
    (¬ (((a.add 0).block) ∈ L4)) ∧
    ∃ x23 : X.Facts, (X.FactsW x23 ((w6.alloc (.map #[] 0)).setCells ((a.add 0).block) ((a.add 0).off) [(.map (some (w6).heap.size))]) (L4)) ∧
    ∃ q24 : Option Nat, (((a.add 0), [(.map (q24))]) ∈ x23) ∧
    ∀ w25 : World, ∀ L26 : List Nat, (X.Hid (L4) ((w6.alloc (.map #[] 0)).setCells ((a.add 0).block) ((a.add 0).off) [(.map (some (w6).heap.size))]) w25) →
    (X.NewL (w).heap.size (L4) ((w6.alloc (.map #[] 0)).setCells ((a.add 0).block) ((a.add 0).off) [(.map (some (w6).heap.size))]) w25 L26) →
    ∃ w27 : World, (Sem.run Try.prog (Go.Instr.mapUpdate 84 (.map (q24)) (.agg #[(.int .u8 b_0), (.int .u16 b_1), (.int .u8 b_2), (.int .u16 b_3), (.int .u32 b_4), (.int .u8 b_5), (.int .u8 b_6), (.int .u8 b_7), (.int .u8 b_8), (.int .u8 b_9), (.int .u8 b_10), (.int .u8 b_11), (.int .u8 b_12), (.string b_13), (.int .u8 b_14), (.int .u32 b_15)]) (.bool true)) w25 = .ok (PUnit.unit) w27) ∧
    (X.Kept L26 w25 w27) ∧
    ∃ x28 : X.Facts, (X.FactsW x28 w27 (L26)) ∧
    ∃ q29 : Option Addr, ∃ k30 : Nat, ∃ k31 : Nat, (((a.add 1), [(.slice (q29) k30 k31)]) ∈ x28) ∧
    ∀ w32 : World, ∀ L33 : List Nat, (X.Hid (L26) w27 w32) →
    (X.NewL (w).heap.size (L26) w27 w32 L33) →
    (X.FactsW x28 (w32.alloc (.cells #[(.int .u8 c_0), (.int .u16 c_1), (.int .u8 c_2), (.int .u16 c_3), (.int .u32 c_4), (.int .u8 c_5), (.int .u8 c_6), (.int .u8 c_7), (.int .u8 c_8), (.int .u8 c_9), (.int .u8 c_10), (.int .u8 c_11), (.int .u8 c_12), (.string c_13), (.int .u8 c_14), (.int .u32 c_15), (.slice (c_16) c_16l c_16c)] 124)) (L33)) ∧
    ∃ q34 : Option Addr, ∃ k35 : Nat, ∃ k36 : Nat, ∃ w37 : World, (Sem.run Try.prog (Go.Builtin.append_ #[75, 75] 75 #[(.slice (q29) k30 k31), (.slice (some ⟨(w32).heap.size, 0, none⟩) 1 1)]) (w32.alloc (.cells #[(.int .u8 c_0), (.int .u16 c_1), (.int .u8 c_2), (.int .u16 c_3), (.int .u32 c_4), (.int .u8 c_5), (.int .u8 c_6), (.int .u8 c_7), (.int .u8 c_8), (.int .u8 c_9), (.int .u8 c_10), (.int .u8 c_11), (.int .u8 c_12), (.string c_13), (.int .u8 c_14), (.int .u32 c_15), (.slice (c_16) c_16l c_16c)] 124)) = .ok (.slice (q34) k35 k36) w37) ∧
    (X.Kept L33 (w32.alloc (.cells #[(.int .u8 c_0), (.int .u16 c_1), (.int .u8 c_2), (.int .u16 c_3), (.int .u32 c_4), (.int .u8 c_5), (.int .u8 c_6), (.int .u8 c_7), (.int .u8 c_8), (.int .u8 c_9), (.int .u8 c_10), (.int .u8 c_11), (.int .u8 c_12), (.string c_13), (.int .u8 c_14), (.int .u32 c_15), (.slice (c_16) c_16l c_16c)] 124)) w37) ∧
    (X.FactsW x28 w37 (L33)) ∧
    ((none : Option Nat) = none) ∧
    (World.there w37 (a.block) ((a.off) + 1) 1) ∧
    (¬ ((a.block) ∈ L33)) ∧
    R (.returned (.bool true)) (w37.setCells (a.block) ((a.off) + 1) [(.slice (q34) k35 k36)])
   else
    ∃ x8 : X.Facts, (X.FactsW x8 w6 (L4)) ∧
    ∃ q9 : Option Nat, (((a.add 0), [(.map (q9))]) ∈ x8) ∧
    ∀ w10 : World, ∀ L11 : List Nat, (X.Hid (L4) w6 w10) →
    (X.NewL (w).heap.size (L4) w6 w10 L11) →
    ∃ w12 : World, (Sem.run Try.prog (Go.Instr.mapUpdate 84 (.map (q9)) (.agg #[(.int .u8 b_0), (.int .u16 b_1), (.int .u8 b_2), (.int .u16 b_3), (.int .u32 b_4), (.int .u8 b_5), (.int .u8 b_6), (.int .u8 b_7), (.int .u8 b_8), (.int .u8 b_9), (.int .u8 b_10), (.int .u8 b_11), (.int .u8 b_12), (.string b_13), (.int .u8 b_14), (.int .u32 b_15)]) (.bool true)) w10 = .ok (PUnit.unit) w12) ∧
    (X.Kept L11 w10 w12) ∧
    ∃ x13 : X.Facts, (X.FactsW x13 w12 (L11)) ∧
    ∃ q14 : Option Addr, ∃ k15 : Nat, ∃ k16 : Nat, (((a.add 1), [(.slice (q14) k15 k16)]) ∈ x13) ∧
    ∀ w17 : World, ∀ L18 : List Nat, (X.Hid (L11) w12 w17) →
    (X.NewL (w).heap.size (L11) w12 w17 L18) →
    (X.FactsW x13 (w17.alloc (.cells #[(.int .u8 c_0), (.int .u16 c_1), (.int .u8 c_2), (.int .u16 c_3), (.int .u32 c_4), (.int .u8 c_5), (.int .u8 c_6), (.int .u8 c_7), (.int .u8 c_8), (.int .u8 c_9), (.int .u8 c_10), (.int .u8 c_11), (.int .u8 c_12), (.string c_13), (.int .u8 c_14), (.int .u32 c_15), (.slice (c_16) c_16l c_16c)] 124)) (L18)) ∧
    ∃ q19 : Option Addr, ∃ k20 : Nat, ∃ k21 : Nat, ∃ w22 : World, (Sem.run Try.prog (Go.Builtin.append_ #[75, 75] 75 #[(.slice (q14) k15 k16), (.slice (some ⟨(w17).heap.size, 0, none⟩) 1 1)]) (w17.alloc (.cells #[(.int .u8 c_0), (.int .u16 c_1), (.int .u8 c_2), (.int .u16 c_3), (.int .u32 c_4), (.int .u8 c_5), (.int .u8 c_6), (.int .u8 c_7), (.int .u8 c_8), (.int .u8 c_9), (.int .u8 c_10), (.int .u8 c_11), (.int .u8 c_12), (.string c_13), (.int .u8 c_14), (.int .u32 c_15), (.slice (c_16) c_16l c_16c)] 124)) = .ok (.slice (q19) k20 k21) w22) ∧
    (X.Kept L18 (w17.alloc (.cells #[(.int .u8 c_0), (.int .u16 c_1), (.int .u8 c_2), (.int .u16 c_3), (.int .u32 c_4), (.int .u8 c_5), (.int .u8 c_6), (.int .u8 c_7), (.int .u8 c_8), (.int .u8 c_9), (.int .u8 c_10), (.int .u8 c_11), (.int .u8 c_12), (.string c_13), (.int .u8 c_14), (.int .u32 c_15), (.slice (c_16) c_16l c_16c)] 124)) w22) ∧
    (X.FactsW x13 w22 (L18)) ∧
    ((none : Option Nat) = none) ∧
    (World.there w22 (a.block) ((a.off) + 1) 1) ∧
    (¬ ((a.block) ∈ L18)) ∧
    R (.returned (.bool true)) (w22.setCells (a.block) ((a.off) + 1) [(.slice (q19) k20 k21)])) :
    Calls Try.prog 61 #[.pointer (some a), .agg #[.int .u8 b_0, .int .u16 b_1, .int .u8 b_2, .int .u16 b_3, .int .u32 b_4, .int .u8 b_5, .int .u8 b_6, .int .u8 b_7, .int .u8 b_8, .int .u8 b_9, .int .u8 b_10, .int .u8 b_11, .int .u8 b_12, .string b_13, .int .u8 b_14, .int .u32 b_15], .agg #[.int .u8 c_0, .int .u16 c_1, .int .u8 c_2, .int .u16 c_3, .int .u32 c_4, .int .u8 c_5, .int .u8 c_6, .int .u8 c_7, .int .u8 c_8, .int .u8 c_9, .int .u8 c_10, .int .u8 c_11, .int .u8 c_12, .string c_13, .int .u8 c_14, .int .u32 c_15, .slice c_16 c_16l c_16c]] w R :=
  X.calls_of { isLoc := [4, 5], sym := [], loops := [], joins := [] } Try.func61 (by kernel_rfl) h
abbrev fn_noteS : Nat := 64
theorem x_noteS (a : Addr) (b_0 b_1 b_2 b_3 c_0 c_1 c_2 c_3 : Int) (c_4 : Option Addr) (c_4l c_4c : Nat) (w : World) (R : Ending → World → Prop) (h :
  ∃ x1 : X.Facts, (X.FactsW x1 w []) ∧
  ∃ q2 : Option Nat, (((a.add 0), [(.map (q2))]) ∈ x1) ∧
  ∀ w3 : World, ∀ L4 : List Nat, (X.Hid [] w w3) →
  (X.NewL (w).heap.size [] w w3 L4) →
  ∃ b5 : Bool, ∃ w6 : World, (Sem.run Try.prog (Go.Instr.lookup 87 (.map (q2)) (.agg #[(.int .u8 b_0), (.int .u16 b_1), (.int .u8 b_2), (.int .u32 b_3)]) false) w3 = .ok (.bool b5) w6) ∧
  (X.Kept L4 w3 w6) ∧
  (X.FactsW x1 w6 (L4)) ∧
  if b5 = true then
   R (.returned (.bool false)) w6
  else
   ∃ q7 : Option Nat, (World.cell? w6 (a.add 0) = some (.map (q7))) ∧
   (¬ (((a.add 0).block) ∈ L4)) ∧
   if (q7.isNone) = true then
    (((a.add 0).spot) = none) ∧
    (World.there (w6.alloc (.map #[] 0)) ((a.add 0).block) ((a.add 0).off) 1) ∧
    (¬ (((a.add 0).block) ∈ L4)) ∧
    ∃ x23 : X.Facts, (X.FactsW x23 ((w6.alloc (.map #[] 0)).setCells ((a.add 0).block) ((a.add 0).off) [(.map (some (w6).heap.size))]) (L4)) ∧
    ∃ q24 : Option Nat, (((a.add 0), [(.map (q24))]) ∈ x23) ∧
    ∀ w25 : World, ∀ L26 : List Nat, (X.Hid (L4) ((w6.alloc (.map #[] 0)).setCells ((a.add 0).block) ((a.add 0).off) [(.map (some (w6).heap.size))]) w25) →
    (X.NewL (w).heap.size (L4) ((w6.alloc (.map #[] 0)).setCells ((a.add 0).block) ((a.add 0).off) [(.map (some (w6).heap.size))]) w25 L26) →
    ∃ w27 : World, (Sem.run Try.prog (Go.Instr.mapUpdate 87 (.map (q24)) (.agg #[(.int .u8 b_0), (.int .u16 b_1), (.int .u8 b_2), (.int .u32 b_3)]) (.bool true)) w25 = .ok (PUnit.unit) w27) ∧
    (X.Kept L26 w25 w27) ∧
    ∃ x28 : X.Facts, (X.FactsW x28 w27 (L26)) ∧
    ∃ q29 : Option Addr, ∃ k30 : Nat, ∃ k31 : Nat, (((a.add 1), [(.slice (q29) k30 k31)]) ∈ x28) ∧
    ∀ w32 : World, ∀ L33 : List Nat, (X.Hid (L26) w27 w32) →
    (X.NewL (w).heap.size (L26) w27 w32 L33) →
    (X.FactsW x28 (w32.alloc (.cells #[(.int .u8 c_0), (.int .u16 c_1), (.int .u8 c_2), (.int .u32 c_3), (.slice (c_4) c_4l c_4c)] 128)) (L33)) ∧
    ∃ q34 : Option Addr, ∃ k35 : Nat, ∃ k36 : Nat, ∃ w37 : World, (Sem.run Try.prog (Go.Builtin.append_ #[77, 77] 77 #[(.slice (q29) k30 k31), (.slice (some ⟨(w32).heap.size, 0, none⟩) 1 1)]) (w32.alloc (.cells #[(.int .u8 c_0), (.int .u16 c_1), (.int .u8 c_2), (.int .u32 c_3), (.slice (c_4) c_4l c_4c)] 128)) = .ok (.slice (q34) k35 k36) w37) ∧
    (X.Kept L33 (w32.alloc (.cells #[(.int .u8 c_0), (.int .u16 c_1), (.int .u8 c_2), (.int .u32 c_3), (.slice (c_4) c_4l c_4c)] 128)) w37) ∧
    (X.FactsW x28 w37 (L33)) ∧
    ((none : Option Nat) = none) ∧
    (World.there w37 (a.block) ((a.off) + 1) 1) ∧
    (¬ ((a.block) ∈ L33)) ∧
    R (.returned (.bool true)) (w37.setCells (a.block) ((a.off) + 1) [(.slice (q34) k35 k36)])
   else
    ∃ x8 : X.Facts, (X.FactsW x8 w6 (L4)) ∧
    ∃ q9 : Option Nat, (((a.add 0), [(.map (q9))]) ∈ x8) ∧
    ∀ w10 : World, ∀ L11 : List Nat, (X.Hid (L4) w6 w10) →
    (X.NewL (w).heap.size (L4) w6 w10 L11) →
    ∃ w12 : World, (Sem.run Try.prog (Go.Instr.mapUpdate 87 (.map (q9)) (.agg #[(.int .u8 b_0), (.int .u16 b_1), (.int .u8 b_2), (.int .u32 b_3)]) (.bool true)) w10 = .ok (PUnit.unit) w12) ∧
    (X.Kept L11 w10 w12) ∧
    ∃ x13 : X.Facts, (X.FactsW x13 w12 (L11)) ∧
    ∃ q14 : Option Addr, ∃ k15 : Nat, ∃ k16 : Nat, (((a.add 1), [(.slice (q14) k15 k16)]) ∈ x13) ∧
    ∀ w17 : World, ∀ L18 : List Nat, (X.Hid (L11) w12 w17) →
    (X.NewL (w).heap.size (L11) w12 w17 L18) →
    (X.FactsW x13 (w17.alloc (.cells #[(.int .u8 c_0), (.int .u16 c_1), (.int .u8 c_2), (.int .u32 c_3), (.slice (c_4) c_4l c_4c)] 128)) (L18)) ∧
    ∃ q19 : Option Addr, ∃ k20 : Nat, ∃ k21 : Nat, ∃ w22 : World, (Sem.run Try.prog (Go.Builtin.append_ #[77, 77] 77 #[(.slice (q14) k15 k16), (.slice (some ⟨(w17).heap.size, 0, none⟩) 1 1)]) (w17.alloc (.cells #[(.int .u8 c_0), (.int .u16 c_1), (.int .u8 c_2), (.int .u32 c_3), (.slice (c_4) c_4l c_4c)] 128)) = .ok (.slice (q19) k20 k21) w22) ∧
    (X.Kept L18 (w17.alloc (.cells #[(.int .u8 c_0), (.int .u16 c_1), (.int .u8 c_2), (.int .u32 c_3), (.slice (c_4) c_4l c_4c)] 128)) w22) ∧
    (X.FactsW x13 w22 (L18)) ∧
    ((none : Option Nat) = none) ∧
    (World.there w22 (a.block) ((a.off) + 1) 1) ∧
    (¬ ((a.block) ∈ L18)) ∧
    R (.returned (.bool true)) (w22.setCells (a.block) ((a.off) + 1) [(.slice (q19) k20 k21)])) :
    Calls Try.prog 64 #[.pointer (some a), .agg #[.int .u8 b_0, .int .u16 b_1, .int .u8 b_2, .int .u32 b_3], .agg #[.int .u8 c_0, .int .u16 c_1, .int .u8 c_2, .int .u32 c_3, .slice c_4 c_4l c_4c]] w R :=
  X.calls_of { isLoc := [4, 5], sym := [], loops := [], joins := [] } Try.func64 (by kernel_rfl) h
abbrev fn_rBegun : Nat := 65
theorem x_rBegun (a : Addr) (b_0 b_1 b_2 b_3 b_4 b_5 b_6 b_7 b_8 b_9 : Int) (w : World) (R : Ending → World → Prop) (h :
  ∀ w1 : World, ∀ L2 : List Nat, (X.Hid [] w w1) →
  (X.NewL (w).heap.size [] w w1 L2) →
  ∃ x3 : Int → World → List Nat → Prop, ∃ x4 : Int → World → Nat, (x3 0 w1 (L2)) ∧
  ∀ n5 : Int, ∀ w6 : World, ∀ L7 : List Nat, (X.LF (w).heap.size w6 L7) →
  (x3 n5 w6 L7) →
  ∃ q8 : Option Addr, ∃ k9 : Nat, ∃ k10 : Nat, (World.cell? w6 (a.add 0) = some (.slice (q8) k9 k10)) ∧
  (¬ (((a.add 0).block) ∈ L7)) ∧
  if (decide (n5 < ((k9 : Nat) : Int))) = true then
   ∃ q11 : Option Addr, ∃ k12 : Nat, ∃ k13 : Nat, (World.cell? w6 (a.add 0) = some (.slice (q11) k12 k13)) ∧
   (¬ (((a.add 0).block) ∈ L7)) ∧
   ((0 : Int) ≤ n5) ∧
   (n5 < ((k12 : Nat) : Int)) ∧
   X.onSome (q11) fun p14 =>
   ∃ n15 : Int, ∃ n16 : Int, ∃ n17 : Int, ∃ n18 : Int, ∃ n19 : Int, ∃ n20 : Int, ∃ n21 : Int, ∃ n22 : Int, ∃ n23 : Int, ∃ n24 : Int, (X.Cells w6 ((p14.add ((n5).toNat * 14)).add 0) [(.int .u8 n15), (.int .u16 n16), (.int .u32 n17), (.int .u8 n18), (.int .u8 n19), (.int .u8 n20), (.int .u8 n21), (.int .u8 n22), (.int .u8 n23), (.int .u8 n24)]) ∧
   (¬ ((((p14.add (n5.toNat * 14)).add 0).block) ∈ L7)) ∧
   if (((n15 == b_0) && (n16 == b_1)) && ((n17 == b_2) && ((n18 == b_3) && (((n19 == b_4) && (n20 == b_5)) && (((n21 == b_6) && (n22 == b_7)) && ((n23 == b_8) && (n24 == b_9))))))) = true then
    ∀ w27 : World, (X.Hid (L7) w6 w27) →
    R (.returned (.int .i64 n5)) w27
   else
    ∀ w25 : World, ∀ L26 : List Nat, (X.Hid (L7) w6 w25) →
    (X.NewL (w).heap.size (L7) w6 w25 L26) →
    (([(.int .u8 b_0), (.int .u16 b_1), (.int .u32 b_2), (.int .u8 b_3), (.int .u8 b_4), (.int .u8 b_5), (.int .u8 b_6), (.int .u8 b_7), (.int .u8 b_8), (.int .u8 b_9)] : List Value) = [(.int .u8 b_0), (.int .u16 b_1), (.int .u32 b_2), (.int .u8 b_3), (.int .u8 b_4), (.int .u8 b_5), (.int .u8 b_6), (.int .u8 b_7), (.int .u8 b_8), (.int .u8 b_9)]) ∧
    (x3 (IntKind.wrap .i64 (n5 + 1)) w25 (L26)) ∧
    Nat.le ((x4 (IntKind.wrap .i64 (n5 + 1)) w25) + 1) (x4 n5 w6)
  else
   R (.returned (.int .i64 (-1))) w6) :
    Calls Try.prog 65 #[.pointer (some a), .agg #[.int .u8 b_0, .int .u16 b_1, .int .u32 b_2, .int .u8 b_3, .int .u8 b_4, .int .u8 b_5, .int .u8 b_6, .int .u8 b_7, .int .u8 b_8, .int .u8 b_9]] w R :=
  X.calls_of { isLoc := [3], sym := [], loops := [(2, .inv [(5, .int .i64)] [] true)], joins := [] } Try.func65 (by kernel_rfl) h
abbrev fn_rBegin : Nat := 36
theorem x_rBegin (a : Addr) (b_0 b_1 b_2 b_3 b_4 b_5 b_6 b_7 b_8 b_9 b_10 b_11 b_12 : Int) (b_13 : Option Addr) (b_13l b_13c : Nat) (w : World) (R : Ending → World → Prop) (h :
  ∀ w1 : World, ∀ L2 : List Nat, (X.Hid [] w w1) →
  (X.NewL (w).heap.size [] w w1 L2) →
  X.CallX Try.prog 65 #[(.pointer (some a)), (.agg #[(.int .u8 b_0), (.int .u16 b_1), (.int .u32 b_2), (.int .u8 b_3), (.int .u8 b_4), (.int .u8 b_5), (.int .u8 b_6), (.int .u8 b_7), (.int .u8 b_8), (.int .u8 b_9)])] w1 fun e3 w4 =>
   ∃ n5 : Int, (e3 = .returned (.int .i64 n5)) ∧
   (X.Kept L2 w1 w4) ∧
   if (decide (n5 ≥ 0)) = true then
    R (.returned (.bool false)) w4
   else
    ∃ x6 : X.Facts, (X.FactsW x6 w4 (L2)) ∧
    ∃ q7 : Option Addr, ∃ k8 : Nat, ∃ k9 : Nat, (((a.add 0), [(.slice (q7) k8 k9)]) ∈ x6) ∧
    ∀ w10 : World, ∀ L11 : List Nat, (X.Hid (L2) w4 w10) →
    (X.NewL (w).heap.size (L2) w4 w10 L11) →
    (X.FactsW x6 (w10.alloc (.cells #[(.int .u8 b_0), (.int .u16 b_1), (.int .u32 b_2), (.int .u8 b_3), (.int .u8 b_4), (.int .u8 b_5), (.int .u8 b_6), (.int .u8 b_7), (.int .u8 b_8), (.int .u8 b_9), (.int .u8 b_10), (.int .i64 b_11), (.int .i64 b_12), (.slice (b_13) b_13l b_13c)] 38)) (L11)) ∧
    ∃ q12 : Option Addr, ∃ k13 : Nat, ∃ k14 : Nat, ∃ w15 : World, (Sem.run Try.prog (Go.Builtin.append_ #[61, 61] 61 #[(.slice (q7) k8 k9), (.slice (some ⟨(w10).heap.size, 0, none⟩) 1 1)]) (w10.alloc (.cells #[(.int .u8 b_0), (.int .u16 b_1), (.int .u32 b_2), (.int .u8 b_3), (.int .u8 b_4), (.int .u8 b_5), (.int .u8 b_6), (.int .u8 b_7), (.int .u8 b_8), (.int .u8 b_9), (.int .u8 b_10), (.int .i64 b_11), (.int .i64 b_12), (.slice (b_13) b_13l b_13c)] 38)) = .ok (.slice (q12) k13 k14) w15) ∧
    (X.Kept L11 (w10.alloc (.cells #[(.int .u8 b_0), (.int .u16 b_1), (.int .u32 b_2), (.int .u8 b_3), (.int .u8 b_4), (.int .u8 b_5), (.int .u8 b_6), (.int .u8 b_7), (.int .u8 b_8), (.int .u8 b_9), (.int .u8 b_10), (.int .i64 b_11), (.int .i64 b_12), (.slice (b_13) b_13l b_13c)] 38)) w15) ∧
    (X.FactsW x6 w15 (L11)) ∧
    (((a.add 0).spot) = none) ∧
    (World.there w15 ((a.add 0).block) ((a.add 0).off) 1) ∧
    (¬ (((a.add 0).block) ∈ L11)) ∧
    R (.returned (.bool true)) (w15.setCells ((a.add 0).block) ((a.add 0).off) [(.slice (q12) k13 k14)])) :
    Calls Try.prog 36 #[.pointer (some a), .agg #[.int .u8 b_0, .int .u16 b_1, .int .u32 b_2, .int .u8 b_3, .int .u8 b_4, .int .u8 b_5, .int .u8 b_6, .int .u8 b_7, .int .u8 b_8, .int .u8 b_9, .int .u8 b_10, .int .i64 b_11, .int .i64 b_12, .slice b_13 b_13l b_13c]] w R :=
  X.calls_of { isLoc := [3], sym := [], loops := [], joins := [] } Try.func36 (by kernel_rfl) h
abbrev fn_rEnd : Nat := 37
theorem x_rEnd (a : Addr) (b_0 b_1 b_2 b_3 b_4 b_5 b_6 b_7 b_8 b_9 b_10 b_11 b_12 b_13 b_14 b_15 : Int) (b_16 : ByteArray) (w : World) (R : Ending → World → Prop) (h :
  ∀ w1 : World, ∀ L2 : List Nat, (X.Hid [] w w1) →
  (X.NewL (w).heap.size [] w w1 L2) →
  ∃ x3 : Int → World → List Nat → Prop, ∃ x4 : Int → World → Nat, (x3 0 w1 (L2)) ∧
  ∀ n5 : Int, ∀ w6 : World, ∀ L7 : List Nat, (X.LF (w).heap.size w6 L7) →
  (x3 n5 w6 L7) →
  ∃ q8 : Option Addr, ∃ k9 : Nat, ∃ k10 : Nat, (World.cell? w6 (a.add 1) = some (.slice (q8) k9 k10)) ∧
  (¬ ((a.block) ∈ L7)) ∧
  if (decide (n5 < ((k9 : Nat) : Int))) = true then
   ∃ q24 : Option Addr, ∃ k25 : Nat, ∃ k26 : Nat, (World.cell? w6 (a.add 1) = some (.slice (q24) k25 k26)) ∧
   (¬ ((a.block) ∈ L7)) ∧
   ((0 : Int) ≤ n5) ∧
   (n5 < ((k25 : Nat) : Int)) ∧
   X.onSome (q24) fun p27 =>
   ∃ n28 : Int, ∃ n29 : Int, ∃ n30 : Int, ∃ n31 : Int, ∃ n32 : Int, ∃ n33 : Int, ∃ n34 : Int, ∃ n35 : Int, ∃ n36 : Int, ∃ n37 : Int, (X.Cells w6 ((p27.add ((n5).toNat * 17)).add 0) [(.int .u8 n28), (.int .u16 n29), (.int .u32 n30), (.int .u8 n31), (.int .u8 n32), (.int .u8 n33), (.int .u8 n34), (.int .u8 n35), (.int .u8 n36), (.int .u8 n37)]) ∧
   (¬ ((((p27.add (n5.toNat * 17)).add 0).block) ∈ L7)) ∧
   if (((n28 == b_0) && (n29 == b_1)) && ((n30 == b_2) && ((n31 == b_3) && (((n32 == b_4) && (n33 == b_5)) && (((n34 == b_6) && (n35 == b_7)) && ((n36 == b_8) && (n37 == b_9))))))) = true then
    ∀ w40 : World, (X.Hid (L7) w6 w40) →
    R (.returned (.bool false)) w40
   else
    ∀ w38 : World, ∀ L39 : List Nat, (X.Hid (L7) w6 w38) →
    (X.NewL (w).heap.size (L7) w6 w38 L39) →
    (([(.int .u8 b_0), (.int .u16 b_1), (.int .u32 b_2), (.int .u8 b_3), (.int .u8 b_4), (.int .u8 b_5), (.int .u8 b_6), (.int .u8 b_7), (.int .u8 b_8), (.int .u8 b_9), (.int .u8 b_10), (.int .i64 b_11), (.int .i64 b_12), (.int .i64 b_13), (.int .i64 b_14), (.int .u8 b_15), (.string b_16)] : List Value) = [(.int .u8 b_0), (.int .u16 b_1), (.int .u32 b_2), (.int .u8 b_3), (.int .u8 b_4), (.int .u8 b_5), (.int .u8 b_6), (.int .u8 b_7), (.int .u8 b_8), (.int .u8 b_9), (.int .u8 b_10), (.int .i64 b_11), (.int .i64 b_12), (.int .i64 b_13), (.int .i64 b_14), (.int .u8 b_15), (.string b_16)]) ∧
    (x3 (IntKind.wrap .i64 (n5 + 1)) w38 (L39)) ∧
    Nat.le ((x4 (IntKind.wrap .i64 (n5 + 1)) w38) + 1) (x4 n5 w6)
  else
   X.CallX Try.prog 65 #[(.pointer (some a)), (.agg #[(.int .u8 b_0), (.int .u16 b_1), (.int .u32 b_2), (.int .u8 b_3), (.int .u8 b_4), (.int .u8 b_5), (.int .u8 b_6), (.int .u8 b_7), (.int .u8 b_8), (.int .u8 b_9)])] w6 fun e11 w12 =>
    ∃ n13 : Int, (e11 = .returned (.int .i64 n13)) ∧
    (X.Kept L7 w6 w12) ∧
    if (decide (n13 < 0)) = true then
     R (.returned (.bool false)) w12
    else
     ∃ x14 : X.Facts, (X.FactsW x14 w12 (L7)) ∧
     ∃ q15 : Option Addr, ∃ k16 : Nat, ∃ k17 : Nat, (((a.add 1), [(.slice (q15) k16 k17)]) ∈ x14) ∧
     ∀ w18 : World, ∀ L19 : List Nat, (X.Hid (L7) w12 w18) →
     (X.NewL (w).heap.size (L7) w12 w18 L19) →
     (X.FactsW x14 (w18.alloc (.cells #[(.int .u8 b_0), (.int .u16 b_1), (.int .u32 b_2), (.int .u8 b_3), (.int .u8 b_4), (.int .u8 b_5), (.int .u8 b_6), (.int .u8 b_7), (.int .u8 b_8), (.int .u8 b_9), (.int .u8 b_10), (.int .i64 b_11), (.int .i64 b_12), (.int .i64 b_13), (.int .i64 b_14), (.int .u8 b_15), (.string b_16)] 42)) (L19)) ∧
     ∃ q20 : Option Addr, ∃ k21 : Nat, ∃ k22 : Nat, ∃ w23 : World, (Sem.run Try.prog (Go.Builtin.append_ #[62, 62] 62 #[(.slice (q15) k16 k17), (.slice (some ⟨(w18).heap.size, 0, none⟩) 1 1)]) (w18.alloc (.cells #[(.int .u8 b_0), (.int .u16 b_1), (.int .u32 b_2), (.int .u8 b_3), (.int .u8 b_4), (.int .u8 b_5), (.int .u8 b_6), (.int .u8 b_7), (.int .u8 b_8), (.int .u8 b_9), (.int .u8 b_10), (.int .i64 b_11), (.int .i64 b_12), (.int .i64 b_13), (.int .i64 b_14), (.int .u8 b_15), (.string b_16)] 42)) = .ok (.slice (q20) k21 k22) w23) ∧
     (X.Kept L19 (w18.alloc (.cells #[(.int .u8 b_0), (.int .u16 b_1), (.int .u32 b_2), (.int .u8 b_3), (.int .u8 b_4), (.int .u8 b_5), (.int .u8 b_6), (.int .u8 b_7), (.int .u8 b_8), (.int .u8 b_9), (.int .u8 b_10), (.int .i64 b_11), (.int .i64 b_12), (.int .i64 b_13), (.int .i64 b_14), (.int .u8 b_15), (.string b_16)] 42)) w23) ∧
     (X.FactsW x14 w23 (L19)) ∧
     ((none : Option Nat) = none) ∧
     (World.there w23 (a.block) ((a.off) + 1) 1) ∧
     (¬ ((a.block) ∈ L19)) ∧
     R (.returned (.bool true)) (w23.setCells (a.block) ((a.off) + 1) [(.slice (q20) k21 k22)])) :
    Calls Try.prog 37 #[.pointer (some a), .agg #[.int .u8 b_0, .int .u16 b_1, .int .u32 b_2, .int .u8 b_3, .int .u8 b_4, .int .u8 b_5, .int .u8 b_6, .int .u8 b_7, .int .u8 b_8, .int .u8 b_9, .int .u8 b_10, .int .i64 b_11, .int .i64 b_12, .int .i64 b_13, .int .i64 b_14, .int .u8 b_15, .string b_16]] w R :=
  X.calls_of { isLoc := [3], sym := [], loops := [(2, .inv [(5, .int .i64)] [] true)], joins := [] } Try.func37 (by kernel_rfl) h
abbrev fn_rCommit : Nat := 38
theorem x_rCommit (a : Addr) (b c d_0 d_1 d_2 d_3 d_4 d_5 d_6 d_7 d_8 d_9 d_10 d_11 : Int) (d_12 : Option Addr) (d_12l d_12c : Nat) (d_13 : Int) (d_14 : ByteArray) (d_15 : Option Addr) (d_15l d_15c : Nat) (d_16 d_17 : Int) (w : World) (R : Ending → World → Prop) (h :
  if ((decide (b > 3) || decide (c < 0)) == false) = true then
   ((0 : Int) ≤ b) ∧
   (b < 4) ∧
   ∃ q2 : Option Addr, ∃ k3 : Nat, ∃ k4 : Nat, (World.cell? w ((a.add 4).add ((b).toNat * 1)) = some (.slice (q2) k3 k4)) ∧
   if (false || decide (c > ((k3 : Nat) : Int))) = true then
    ∀ w51 : World, (X.Hid [] w w51) →
    R (.returned (.bool false)) w51
   else
    ((0 : Int) ≤ b) ∧
    (b < 4) ∧
    ∃ q5 : Option Addr, ∃ k6 : Nat, ∃ k7 : Nat, (World.cell? w ((a.add 4).add ((b).toNat * 1)) = some (.slice (q5) k6 k7)) ∧
    if (c == ((k6 : Nat) : Int)) = true then
     ∃ x41 : X.Facts, (X.FactsW x41 w []) ∧
     ((0 : Int) ≤ b) ∧
     (b < 4) ∧
     ∃ q42 : Option Addr, ∃ k43 : Nat, ∃ k44 : Nat, ((((a.add 4).add ((b).toNat * 1)), [(.slice (q42) k43 k44)]) ∈ x41) ∧
     ∀ w45 : World, ∀ L46 : List Nat, (X.Hid [] w w45) →
     (X.NewL (w).heap.size [] w w45 L46) →
     (X.FactsW x41 (w45.alloc (.cells #[(.int .u8 d_0), (.int .u8 d_1), (.int .u16 d_2), (.int .u32 d_3), (.int .u8 d_4), (.int .u8 d_5), (.int .u8 d_6), (.int .u8 d_7), (.int .u8 d_8), (.int .u8 d_9), (.int .u8 d_10), (.int .u32 d_11), (.slice (d_12) d_12l d_12c), (.int .u8 d_13), (.string d_14), (.slice (d_15) d_15l d_15c), (.int .u8 d_16), (.int .u16 d_17)] 52)) (L46)) ∧
     ∃ q47 : Option Addr, ∃ k48 : Nat, ∃ k49 : Nat, ∃ w50 : World, (Sem.run Try.prog (Go.Builtin.append_ #[65, 65] 65 #[(.slice (q42) k43 k44), (.slice (some ⟨(w45).heap.size, 0, none⟩) 1 1)]) (w45.alloc (.cells #[(.int .u8 d_0), (.int .u8 d_1), (.int .u16 d_2), (.int .u32 d_3), (.int .u8 d_4), (.int .u8 d_5), (.int .u8 d_6), (.int .u8 d_7), (.int .u8 d_8), (.int .u8 d_9), (.int .u8 d_10), (.int .u32 d_11), (.slice (d_12) d_12l d_12c), (.int .u8 d_13), (.string d_14), (.slice (d_15) d_15l d_15c), (.int .u8 d_16), (.int .u16 d_17)] 52)) = .ok (.slice (q47) k48 k49) w50) ∧
     (X.Kept L46 (w45.alloc (.cells #[(.int .u8 d_0), (.int .u8 d_1), (.int .u16 d_2), (.int .u32 d_3), (.int .u8 d_4), (.int .u8 d_5), (.int .u8 d_6), (.int .u8 d_7), (.int .u8 d_8), (.int .u8 d_9), (.int .u8 d_10), (.int .u32 d_11), (.slice (d_12) d_12l d_12c), (.int .u8 d_13), (.string d_14), (.slice (d_15) d_15l d_15c), (.int .u8 d_16), (.int .u16 d_17)] 52)) w50) ∧
     (X.FactsW x41 w50 (L46)) ∧
     ((0 : Int) ≤ b) ∧
     (b < 4) ∧
     ((((a.add 4).add (b.toNat * 1)).spot) = none) ∧
     (World.there w50 (((a.add 4).add (b.toNat * 1)).block) (((a.add 4).add (b.toNat * 1)).off) 1) ∧
     (¬ ((((a.add 4).add (b.toNat * 1)).block) ∈ L46)) ∧
     R (.returned (.bool true)) (w50.setCells (((a.add 4).add (b.toNat * 1)).block) (((a.add 4).add (b.toNat * 1)).off) [(.slice (q47) k48 k49)])
    else
     ∃ x8 : X.Facts, (X.FactsW x8 w []) ∧
     ((0 : Int) ≤ b) ∧
     (b < 4) ∧
     ∃ q9 : Option Addr, ∃ k10 : Nat, ∃ k11 : Nat, ((((a.add 4).add ((b).toNat * 1)), [(.slice (q9) k10 k11)]) ∈ x8) ∧
     ((0 : Int) ≤ c) ∧
     (c < ((k10 : Nat) : Int)) ∧
     X.onSome (q9) fun p12 =>
     ∃ n13 : Int, ∃ n14 : Int, ∃ n15 : Int, ∃ n16 : Int, ∃ n17 : Int, ∃ n18 : Int, ∃ n19 : Int, ∃ n20 : Int, ∃ n21 : Int, ∃ n22 : Int, ∃ n23 : Int, ∃ n24 : Int, ∃ q25 : Option Addr, ∃ k26 : Nat, ∃ k27 : Nat, ∃ n28 : Int, ∃ s29 : ByteArray, ∃ q30 : Option Addr, ∃ k31 : Nat, ∃ k32 : Nat, ∃ n33 : Int, ∃ n34 : Int, (((p12.add ((c).toNat * 18)), [(.int .u8 n13), (.int .u8 n14), (.int .u16 n15), (.int .u32 n16), (.int .u8 n17), (.int .u8 n18), (.int .u8 n19), (.int .u8 n20), (.int .u8 n21), (.int .u8 n22), (.int .u8 n23), (.int .u32 n24), (.slice (q25) k26 k27), (.int .u8 n28), (.string s29), (.slice (q30) k31 k32), (.int .u8 n33), (.int .u16 n34)]) ∈ x8) ∧
     ∀ w35 : World, ∀ L36 : List Nat, (X.Hid [] w w35) →
     (X.NewL (w).heap.size [] w w35 L36) →
     X.CallX Try.prog 11 #[(.agg #[(.int .u8 n13), (.int .u8 n14), (.int .u16 n15), (.int .u32 n16), (.int .u8 n17), (.int .u8 n18), (.int .u8 n19), (.int .u8 n20), (.int .u8 n21), (.int .u8 n22), (.int .u8 n23), (.int .u32 n24), (.slice (q25) k26 k27), (.int .u8 n28), (.string s29), (.slice (q30) k31 k32), (.int .u8 n33), (.int .u16 n34)]), (.agg #[(.int .u8 d_0), (.int .u8 d_1), (.int .u16 d_2), (.int .u32 d_3), (.int .u8 d_4), (.int .u8 d_5), (.int .u8 d_6), (.int .u8 d_7), (.int .u8 d_8), (.int .u8 d_9), (.int .u8 d_10), (.int .u32 d_11), (.slice (d_12) d_12l d_12c), (.int .u8 d_13), (.string d_14), (.slice (d_15) d_15l d_15c), (.int .u8 d_16), (.int .u16 d_17)])] w35 fun e37 w38 =>
      ∃ b39 : Bool, (e37 = .returned (.bool b39)) ∧
      (X.Kept L36 w35 w38) ∧
      (X.FactsW x8 w38 (L36)) ∧
      if b39 = true then
       R (.returned (.bool true)) w38
      else
       ∃ n40 : Int, (World.cell? w38 (a.add 8) = some (.int .i64 n40)) ∧
       (¬ ((a.block) ∈ L36)) ∧
       ((none : Option Nat) = none) ∧
       (World.there w38 (a.block) ((a.off) + 8) 1) ∧
       (¬ ((a.block) ∈ L36)) ∧
       R (.returned (.bool false)) (w38.setCells (a.block) ((a.off) + 8) [(.int .i64 (IntKind.wrap .i64 (n40 + 1)))])
  else
   ∀ w1 : World, (X.Hid [] w w1) →
   R (.returned (.bool false)) w1) :
    Calls Try.prog 38 #[.pointer (some a), .int .u8 b, .int .i64 c, .agg #[.int .u8 d_0, .int .u8 d_1, .int .u16 d_2, .int .u32 d_3, .int .u8 d_4, .int .u8 d_5, .int .u8 d_6, .int .u8 d_7, .int .u8 d_8, .int .u8 d_9, .int .u8 d_10, .int .u32 d_11, .slice d_12 d_12l d_12c, .int .u8 d_13, .string d_14, .slice d_15 d_15l d_15c, .int .u8 d_16, .int .u16 d_17]] w R :=
  X.calls_of { isLoc := [7], sym := [21, 31, 41, 48, 53], loops := [], joins := [] } Try.func38 (by kernel_rfl) h
abbrev fn_rTell : Nat := 39
theorem x_rTell (a : Addr) (b_0 b_1 b_2 b_3 b_4 b_5 b_6 b_7 b_8 b_9 b_10 b_11 b_12 : Int) (b_13 : ByteArray) (b_14 b_15 : Int) (b_16 : Option Addr) (b_16l b_16c : Nat) (w : World) (R : Ending → World → Prop) (h :
  ∀ w1 : World, ∀ L2 : List Nat, (X.Hid [] w w1) →
  (X.NewL (w).heap.size [] w w1 L2) →
  ∃ x3 : Int → World → List Nat → Prop, ∃ x4 : Int → World → Nat, (x3 0 w1 (L2)) ∧
  ∀ n5 : Int, ∀ w6 : World, ∀ L7 : List Nat, (X.LF (w).heap.size w6 L7) →
  (x3 n5 w6 L7) →
  ∃ q8 : Option Addr, ∃ k9 : Nat, ∃ k10 : Nat, (World.cell? w6 (a.add 2) = some (.slice (q8) k9 k10)) ∧
  (¬ ((a.block) ∈ L7)) ∧
  if (decide (n5 < ((k9 : Nat) : Int))) = true then
   ∃ q21 : Option Addr, ∃ k22 : Nat, ∃ k23 : Nat, (World.cell? w6 (a.add 2) = some (.slice (q21) k22 k23)) ∧
   (¬ ((a.block) ∈ L7)) ∧
   ((0 : Int) ≤ n5) ∧
   (n5 < ((k22 : Nat) : Int)) ∧
   X.onSome (q21) fun p24 =>
   ∃ n25 : Int, ∃ n26 : Int, ∃ n27 : Int, ∃ n28 : Int, ∃ n29 : Int, ∃ n30 : Int, ∃ n31 : Int, ∃ n32 : Int, ∃ n33 : Int, ∃ n34 : Int, ∃ n35 : Int, ∃ n36 : Int, ∃ n37 : Int, ∃ s38 : ByteArray, ∃ n39 : Int, ∃ n40 : Int, ∃ q41 : Option Addr, ∃ k42 : Nat, ∃ k43 : Nat, (X.Cells w6 (p24.add ((n5).toNat * 17)) [(.int .u8 n25), (.int .u16 n26), (.int .u8 n27), (.int .u16 n28), (.int .u32 n29), (.int .u8 n30), (.int .u8 n31), (.int .u8 n32), (.int .u8 n33), (.int .u8 n34), (.int .u8 n35), (.int .u8 n36), (.int .u8 n37), (.string s38), (.int .u8 n39), (.int .u32 n40), (.slice (q41) k42 k43)]) ∧
   (¬ (((p24.add (n5.toNat * 17)).block) ∈ L7)) ∧
   if ((((((n25 == b_0) && (n26 == b_1)) && (((n27 == b_2) && (n28 == b_3)) && ((n29 == b_4) && ((n30 == b_5) && (((n31 == b_6) && (n32 == b_7)) && (((n33 == b_8) && (n34 == b_9)) && ((n35 == b_10) && (n36 == b_11)))))))) && ((n37 == b_12) && (s38 == b_13))) && (n39 == b_14)) && (n40 == b_15)) = true then
    ∀ w46 : World, (X.Hid (L7) w6 w46) →
    R (.returned (.bool false)) w46
   else
    ∀ w44 : World, ∀ L45 : List Nat, (X.Hid (L7) w6 w44) →
    (X.NewL (w).heap.size (L7) w6 w44 L45) →
    (([(.int .u8 b_0), (.int .u16 b_1), (.int .u8 b_2), (.int .u16 b_3), (.int .u32 b_4), (.int .u8 b_5), (.int .u8 b_6), (.int .u8 b_7), (.int .u8 b_8), (.int .u8 b_9), (.int .u8 b_10), (.int .u8 b_11), (.int .u8 b_12), (.string b_13), (.int .u8 b_14), (.int .u32 b_15), (.slice (b_16) b_16l b_16c)] : List Value) = [(.int .u8 b_0), (.int .u16 b_1), (.int .u8 b_2), (.int .u16 b_3), (.int .u32 b_4), (.int .u8 b_5), (.int .u8 b_6), (.int .u8 b_7), (.int .u8 b_8), (.int .u8 b_9), (.int .u8 b_10), (.int .u8 b_11), (.int .u8 b_12), (.string b_13), (.int .u8 b_14), (.int .u32 b_15), (.slice (b_16) b_16l b_16c)]) ∧
    (x3 (IntKind.wrap .i64 (n5 + 1)) w44 (L45)) ∧
    Nat.le ((x4 (IntKind.wrap .i64 (n5 + 1)) w44) + 1) (x4 n5 w6)
  else
   ∃ x11 : X.Facts, (X.FactsW x11 w6 (L7)) ∧
   ∃ q12 : Option Addr, ∃ k13 : Nat, ∃ k14 : Nat, (((a.add 2), [(.slice (q12) k13 k14)]) ∈ x11) ∧
   ∀ w15 : World, ∀ L16 : List Nat, (X.Hid (L7) w6 w15) →
   (X.NewL (w).heap.size (L7) w6 w15 L16) →
   (X.FactsW x11 (w15.alloc (.cells #[(.int .u8 b_0), (.int .u16 b_1), (.int .u8 b_2), (.int .u16 b_3), (.int .u32 b_4), (.int .u8 b_5), (.int .u8 b_6), (.int .u8 b_7), (.int .u8 b_8), (.int .u8 b_9), (.int .u8 b_10), (.int .u8 b_11), (.int .u8 b_12), (.string b_13), (.int .u8 b_14), (.int .u32 b_15), (.slice (b_16) b_16l b_16c)] 47)) (L16)) ∧
   ∃ q17 : Option Addr, ∃ k18 : Nat, ∃ k19 : Nat, ∃ w20 : World, (Sem.run Try.prog (Go.Builtin.append_ #[63, 63] 63 #[(.slice (q12) k13 k14), (.slice (some ⟨(w15).heap.size, 0, none⟩) 1 1)]) (w15.alloc (.cells #[(.int .u8 b_0), (.int .u16 b_1), (.int .u8 b_2), (.int .u16 b_3), (.int .u32 b_4), (.int .u8 b_5), (.int .u8 b_6), (.int .u8 b_7), (.int .u8 b_8), (.int .u8 b_9), (.int .u8 b_10), (.int .u8 b_11), (.int .u8 b_12), (.string b_13), (.int .u8 b_14), (.int .u32 b_15), (.slice (b_16) b_16l b_16c)] 47)) = .ok (.slice (q17) k18 k19) w20) ∧
   (X.Kept L16 (w15.alloc (.cells #[(.int .u8 b_0), (.int .u16 b_1), (.int .u8 b_2), (.int .u16 b_3), (.int .u32 b_4), (.int .u8 b_5), (.int .u8 b_6), (.int .u8 b_7), (.int .u8 b_8), (.int .u8 b_9), (.int .u8 b_10), (.int .u8 b_11), (.int .u8 b_12), (.string b_13), (.int .u8 b_14), (.int .u32 b_15), (.slice (b_16) b_16l b_16c)] 47)) w20) ∧
   (X.FactsW x11 w20 (L16)) ∧
   ((none : Option Nat) = none) ∧
   (World.there w20 (a.block) ((a.off) + 2) 1) ∧
   (¬ ((a.block) ∈ L16)) ∧
   R (.returned (.bool true)) (w20.setCells (a.block) ((a.off) + 2) [(.slice (q17) k18 k19)])) :
    Calls Try.prog 39 #[.pointer (some a), .agg #[.int .u8 b_0, .int .u16 b_1, .int .u8 b_2, .int .u16 b_3, .int .u32 b_4, .int .u8 b_5, .int .u8 b_6, .int .u8 b_7, .int .u8 b_8, .int .u8 b_9, .int .u8 b_10, .int .u8 b_11, .int .u8 b_12, .string b_13, .int .u8 b_14, .int .u32 b_15, .slice b_16 b_16l b_16c]] w R :=
  X.calls_of { isLoc := [3, 6], sym := [], loops := [(2, .inv [(5, .int .i64)] [] true)], joins := [] } Try.func39 (by kernel_rfl) h
abbrev fn_rSit : Nat := 40
theorem x_rSit (a : Addr) (b_0 b_1 b_2 b_3 : Int) (b_4 : Option Addr) (b_4l b_4c : Nat) (w : World) (R : Ending → World → Prop) (h :
  ∀ w1 : World, ∀ L2 : List Nat, (X.Hid [] w w1) →
  (X.NewL (w).heap.size [] w w1 L2) →
  ∃ x3 : Int → World → List Nat → Prop, ∃ x4 : Int → World → Nat, (x3 0 w1 (L2)) ∧
  ∀ n5 : Int, ∀ w6 : World, ∀ L7 : List Nat, (X.LF (w).heap.size w6 L7) →
  (x3 n5 w6 L7) →
  ∃ q8 : Option Addr, ∃ k9 : Nat, ∃ k10 : Nat, (World.cell? w6 (a.add 3) = some (.slice (q8) k9 k10)) ∧
  (¬ ((a.block) ∈ L7)) ∧
  if (decide (n5 < ((k9 : Nat) : Int))) = true then
   ∃ q21 : Option Addr, ∃ k22 : Nat, ∃ k23 : Nat, (World.cell? w6 (a.add 3) = some (.slice (q21) k22 k23)) ∧
   (¬ ((a.block) ∈ L7)) ∧
   ((0 : Int) ≤ n5) ∧
   (n5 < ((k22 : Nat) : Int)) ∧
   X.onSome (q21) fun p24 =>
   ∃ n25 : Int, ∃ n26 : Int, ∃ n27 : Int, ∃ n28 : Int, ∃ q29 : Option Addr, ∃ k30 : Nat, ∃ k31 : Nat, (X.Cells w6 (p24.add ((n5).toNat * 5)) [(.int .u8 n25), (.int .u16 n26), (.int .u8 n27), (.int .u32 n28), (.slice (q29) k30 k31)]) ∧
   (¬ (((p24.add (n5.toNat * 5)).block) ∈ L7)) ∧
   if ((((n25 == b_0) && (n26 == b_1)) && (n27 == b_2)) && (n28 == b_3)) = true then
    ∀ w34 : World, (X.Hid (L7) w6 w34) →
    R (.returned (.bool false)) w34
   else
    ∀ w32 : World, ∀ L33 : List Nat, (X.Hid (L7) w6 w32) →
    (X.NewL (w).heap.size (L7) w6 w32 L33) →
    (([(.int .u8 b_0), (.int .u16 b_1), (.int .u8 b_2), (.int .u32 b_3), (.slice (b_4) b_4l b_4c)] : List Value) = [(.int .u8 b_0), (.int .u16 b_1), (.int .u8 b_2), (.int .u32 b_3), (.slice (b_4) b_4l b_4c)]) ∧
    (x3 (IntKind.wrap .i64 (n5 + 1)) w32 (L33)) ∧
    Nat.le ((x4 (IntKind.wrap .i64 (n5 + 1)) w32) + 1) (x4 n5 w6)
  else
   ∃ x11 : X.Facts, (X.FactsW x11 w6 (L7)) ∧
   ∃ q12 : Option Addr, ∃ k13 : Nat, ∃ k14 : Nat, (((a.add 3), [(.slice (q12) k13 k14)]) ∈ x11) ∧
   ∀ w15 : World, ∀ L16 : List Nat, (X.Hid (L7) w6 w15) →
   (X.NewL (w).heap.size (L7) w6 w15 L16) →
   (X.FactsW x11 (w15.alloc (.cells #[(.int .u8 b_0), (.int .u16 b_1), (.int .u8 b_2), (.int .u32 b_3), (.slice (b_4) b_4l b_4c)] 49)) (L16)) ∧
   ∃ q17 : Option Addr, ∃ k18 : Nat, ∃ k19 : Nat, ∃ w20 : World, (Sem.run Try.prog (Go.Builtin.append_ #[64, 64] 64 #[(.slice (q12) k13 k14), (.slice (some ⟨(w15).heap.size, 0, none⟩) 1 1)]) (w15.alloc (.cells #[(.int .u8 b_0), (.int .u16 b_1), (.int .u8 b_2), (.int .u32 b_3), (.slice (b_4) b_4l b_4c)] 49)) = .ok (.slice (q17) k18 k19) w20) ∧
   (X.Kept L16 (w15.alloc (.cells #[(.int .u8 b_0), (.int .u16 b_1), (.int .u8 b_2), (.int .u32 b_3), (.slice (b_4) b_4l b_4c)] 49)) w20) ∧
   (X.FactsW x11 w20 (L16)) ∧
   ((none : Option Nat) = none) ∧
   (World.there w20 (a.block) ((a.off) + 3) 1) ∧
   (¬ ((a.block) ∈ L16)) ∧
   R (.returned (.bool true)) (w20.setCells (a.block) ((a.off) + 3) [(.slice (q17) k18 k19)])) :
    Calls Try.prog 40 #[.pointer (some a), .agg #[.int .u8 b_0, .int .u16 b_1, .int .u8 b_2, .int .u32 b_3, .slice b_4 b_4l b_4c]] w R :=
  X.calls_of { isLoc := [3, 6], sym := [], loops := [(2, .inv [(5, .int .i64)] [] true)], joins := [] } Try.func40 (by kernel_rfl) h
abbrev fn_RefID : Nat := 41
theorem x_RefID (a_0 a_1 a_2 a_3 a_4 a_5 a_6 a_7 a_8 a_9 : Int) (w : World) (R : Ending → World → Prop) (h :
  ∃ x1 : X.Facts, (X.FactsW x1 w []) ∧
  (∀ w2 : World, ∀ L3 : List Nat, (X.Hid [] w w2) →
   (X.NewL (w).heap.size [] w w2 L3) →
   X.CallX Try.prog 43 #[(.agg #[(.int .u8 a_0), (.int .u16 a_1)])] w2 fun e4 w5 =>
    ∃ n6 : Int, ∃ n7 : Int, (e4 = .returned (.agg #[(.int .u8 n6), (.int .u16 n7)])) ∧
    (X.Kept L3 w2 w5) ∧
    (X.FactsW x1 w5 (L3)) ∧
    ∃ x8 : X.Facts, (X.FactsW x8 w5 (L3)) ∧
    ∃ x9 : X.Facts, (X.FactsW x9 w5 (L3)) ∧
    ∃ x10 : X.Facts, (X.FactsW x10 w5 (L3)) ∧
    ∀ w11 : World, (X.Hid (L3) w5 w11) →
    R (.returned (.agg #[(.int .u8 n6), (.int .u16 n7), (.int .u32 a_2), (.int .u8 a_3), (.int .u8 a_4), (.int .u8 a_5), (.int .u8 a_6), (.int .u8 a_7), (.int .u8 a_8), (.int .u8 a_9)])) w11) ∧
  ∀ w12 : World, ∀ L13 : List Nat, (X.Hid [] w w12) →
  (X.NewL (w).heap.size [] w w12 L13) →
  X.CallX Try.prog 43 #[(.agg #[(.int .u8 a_0), (.int .u16 a_1)])] w12 fun e14 w15 =>
   ∃ n16 : Int, ∃ n17 : Int, (e14 = .returned (.agg #[(.int .u8 n16), (.int .u16 n17)])) ∧
   (X.Kept L13 w12 w15) ∧
   (X.FactsW x1 w15 (L13)) ∧
   ∃ x18 : X.Facts, (X.FactsW x18 w15 (L13)) ∧
   ∃ x19 : X.Facts, (X.FactsW x19 w15 (L13)) ∧
   ∃ x20 : X.Facts, (X.FactsW x20 w15 (L13)) ∧
   ∀ w21 : World, (X.Hid (L13) w15 w21) →
   R (.returned (.agg #[(.int .u8 n16), (.int .u16 n17), (.int .u32 a_2), (.int .u8 a_3), (.int .u8 a_4), (.int .u8 a_5), (.int .u8 a_6), (.int .u8 a_7), (.int .u8 a_8), (.int .u8 a_9)])) w21) :
    Calls Try.prog 41 #[.agg #[.int .u8 a_0, .int .u16 a_1, .int .u32 a_2, .int .u8 a_3, .int .u8 a_4, .int .u8 a_5, .int .u8 a_6, .int .u8 a_7, .int .u8 a_8, .int .u8 a_9]] w R :=
  X.calls_of { isLoc := [1, 2, 3], sym := [], loops := [(3, .unroll 4)], joins := [], stored := [(1, [3]), (5, [3])] } Try.func41 (by kernel_rfl) h
abbrev fn_RefParts : Nat := 42
theorem x_RefParts (a : Option Addr) (al ac : Nat) (w : World) (R : Ending → World → Prop) (h :
  ∃ x1 : Option Addr → Nat → Nat → Int → World → List Nat → Prop, ∃ x2 : Option Addr → Nat → Nat → Int → World → Nat, (x1 (none) 0 0 0 w []) ∧
  ∀ q3 : Option Addr, ∀ k4 : Nat, ∀ k5 : Nat, ∀ n6 : Int, ∀ w7 : World, ∀ L8 : List Nat, (X.LF (w).heap.size w7 L8) →
  (x1 q3 k4 k5 n6 w7 L8) →
  if (decide (n6 < ((al : Nat) : Int))) = true then
   ((0 : Int) ≤ n6) ∧
   (n6 < ((al : Nat) : Int)) ∧
   X.onSome (a) fun p9 =>
   ∃ n10 : Int, ∃ n11 : Int, ∃ s12 : ByteArray, ∃ s13 : ByteArray, ∃ n14 : Int, (X.Cells w7 (p9.add ((n6).toNat * 5)) [(.int .u8 n10), (.int .u8 n11), (.string s12), (.string s13), (.int .i64 n14)]) ∧
   X.CallX Try.prog 66 #[(.agg #[(.int .u8 n10), (.int .u8 n11), (.string s12), (.string s13), (.int .i64 n14)])] w7 fun e15 w16 =>
    ∃ n17 : Int, ∃ n18 : Int, ∃ s19 : ByteArray, ∃ s20 : ByteArray, ∃ n21 : Int, (e15 = .returned (.agg #[(.int .u8 n17), (.int .u8 n18), (.string s19), (.string s20), (.int .i64 n21)])) ∧
    ((w7).heap.size ≤ (w16).heap.size) ∧
    ∃ q22 : Option Addr, ∃ k23 : Nat, ∃ k24 : Nat, ∃ w25 : World, (Sem.run Try.prog (Go.Builtin.append_ #[36, 36] 36 #[(.slice (q3) k4 k5), (.slice (some ⟨(w16).heap.size, 0, none⟩) 1 1)]) (w16.alloc (.cells #[(.int .u8 n17), (.int .u8 n18), (.string s19), (.string s20), (.int .i64 n21)] 150)) = .ok (.slice (q22) k23 k24) w25) ∧
    (((w16.alloc (.cells #[(.int .u8 n17), (.int .u8 n18), (.string s19), (.string s20), (.int .i64 n21)] 150))).heap.size ≤ (w25).heap.size) ∧
    (x1 q22 k23 k24 (IntKind.wrap .i64 (n6 + 1)) w25 []) ∧
    Nat.le ((x2 q22 k23 k24 (IntKind.wrap .i64 (n6 + 1)) w25) + 1) (x2 q3 k4 k5 n6 w7)
  else
   R (.returned (.slice (q3) k4 k5)) w7) :
    Calls Try.prog 42 #[.slice a al ac] w R :=
  X.calls_of { isLoc := [], sym := [], loops := [(3, .inv [(3, .slice), (4, .int .i64)] [] true)], joins := [] } Try.func42 (by kernel_rfl) h
abbrev fn_RefProc : Nat := 43
theorem x_RefProc (a_0 a_1 : Int) (w : World) (R : Ending → World → Prop) (h :
  ∀ w1 : World, (X.Hid [] w w1) →
  R (.returned (.agg #[(.int .u8 a_0), (.int .u16 a_1)])) w1) :
    Calls Try.prog 43 #[.agg #[.int .u8 a_0, .int .u16 a_1]] w R :=
  X.calls_of { isLoc := [1, 2], sym := [], loops := [], joins := [] } Try.func43 (by kernel_rfl) h
abbrev fn_RefRes : Nat := 44
theorem x_RefRes (a_0 : Int) (a_1 : ByteArray) (w : World) (R : Ending → World → Prop) (h :
  ∀ w1 : World, (X.Hid [] w w1) →
  R (.returned (.agg #[(.int .u8 a_0), (.string a_1)])) w1) :
    Calls Try.prog 44 #[.agg #[.int .u8 a_0, .string a_1]] w R :=
  X.calls_of { isLoc := [1, 2], sym := [], loops := [], joins := [] } Try.func44 (by kernel_rfl) h
abbrev fn_RefPart : Nat := 66
theorem x_RefPart (a_0 a_1 : Int) (a_2 a_3 : ByteArray) (a_4 : Int) (w : World) (R : Ending → World → Prop) (h :
  ∀ w1 : World, (X.Hid [] w w1) →
  R (.returned (.agg #[(.int .u8 a_0), (.int .u8 a_1), (.string a_2), (.string a_3), (.int .i64 a_4)])) w1) :
    Calls Try.prog 66 #[.agg #[.int .u8 a_0, .int .u8 a_1, .string a_2, .string a_3, .int .i64 a_4]] w R :=
  X.calls_of { isLoc := [1, 2], sym := [], loops := [], joins := [] } Try.func66 (by kernel_rfl) h
abbrev fn_r6Same : Nat := 45
theorem x_r6Same (a_0 a_1 : Int) (a_2 : Option Addr) (a_2l a_2c : Nat) (b_0 b_1 : Int) (b_2 : Option Addr) (b_2l b_2c : Nat) (w : World) (R : Ending → World → Prop) (h :
  if (((a_0 == b_0) && (a_1 == b_1)) == true) = true then
   ∀ w2 : World, ∀ L3 : List Nat, (X.Hid [] w w2) →
   (X.NewL (w).heap.size [] w w2 L3) →
   X.CallX Try.prog 67 #[(.slice (a_2) a_2l a_2c), (.slice (b_2) b_2l b_2c)] w2 fun e4 w5 =>
    ∃ b6 : Bool, (e4 = .returned (.bool b6)) ∧
    (X.Kept L3 w2 w5) ∧
    R (.returned (.bool (true && b6))) w5
  else
   ∀ w1 : World, (X.Hid [] w w1) →
   R (.returned (.bool false)) w1) :
    Calls Try.prog 45 #[.agg #[.int .u8 a_0, .int .u32 a_1, .slice a_2 a_2l a_2c], .agg #[.int .u8 b_0, .int .u32 b_1, .slice b_2 b_2l b_2c]] w R :=
  X.calls_of { isLoc := [2, 3], sym := [], loops := [], joins := [] } Try.func45 (by kernel_rfl) h
abbrev fn_Ref6 : Nat := 46
theorem x_Ref6 (a_0 a_1 : Int) (a_2 : Option Addr) (a_2l a_2c : Nat) (w : World) (R : Ending → World → Prop) (h :
  ∃ x1 : X.Facts, (X.FactsW x1 w []) ∧
  ∀ w2 : World, ∀ L3 : List Nat, (X.Hid [] w w2) →
  (X.NewL (w).heap.size [] w w2 L3) →
  X.CallX Try.prog 68 #[(.slice (a_2) a_2l a_2c)] w2 fun e4 w5 =>
   ∃ q6 : Option Addr, ∃ k7 : Nat, ∃ k8 : Nat, (e4 = .returned (.slice (q6) k7 k8)) ∧
   (X.Kept L3 w2 w5) ∧
   (X.FactsW x1 w5 (L3)) ∧
   ∀ w9 : World, (X.Hid (L3) w5 w9) →
   R (.returned (.agg #[(.int .u8 a_0), (.int .u32 a_1), (.slice (q6) k7 k8)])) w9) :
    Calls Try.prog 46 #[.agg #[.int .u8 a_0, .int .u32 a_1, .slice a_2 a_2l a_2c]] w R :=
  X.calls_of { isLoc := [1, 2], sym := [], loops := [], joins := [], stored := [(1, [2])] } Try.func46 (by kernel_rfl) h
abbrev fn_SameAll : Nat := 47
theorem x_SameAll (a : Option Addr) (al ac : Nat) (b : Option Addr) (bl bc : Nat) (w : World) (R : Ending → World → Prop) (h :
  if (((al : Nat) : Int) != ((bl : Nat) : Int)) = true then
   R (.returned (.bool false)) w
  else
   ∃ x1 : Int → World → List Nat → Prop, ∃ x2 : Int → World → Nat, (x1 0 w []) ∧
   ∀ n3 : Int, ∀ w4 : World, ∀ L5 : List Nat, (X.LF (w).heap.size w4 L5) →
   (x1 n3 w4 L5) →
   if (decide (n3 < ((al : Nat) : Int))) = true then
    ∃ x6 : X.Facts, (X.FactsW x6 w4 []) ∧
    ((0 : Int) ≤ n3) ∧
    (n3 < ((al : Nat) : Int)) ∧
    X.onSome (a) fun p7 =>
    ∃ n8 : Int, ∃ n9 : Int, ∃ n10 : Int, ∃ n11 : Int, ∃ n12 : Int, ∃ n13 : Int, ∃ n14 : Int, ∃ n15 : Int, ∃ n16 : Int, ∃ n17 : Int, ∃ n18 : Int, ∃ n19 : Int, ∃ q20 : Option Addr, ∃ k21 : Nat, ∃ k22 : Nat, ∃ n23 : Int, ∃ s24 : ByteArray, ∃ q25 : Option Addr, ∃ k26 : Nat, ∃ k27 : Nat, ∃ n28 : Int, ∃ n29 : Int, (((p7.add ((n3).toNat * 18)), [(.int .u8 n8), (.int .u8 n9), (.int .u16 n10), (.int .u32 n11), (.int .u8 n12), (.int .u8 n13), (.int .u8 n14), (.int .u8 n15), (.int .u8 n16), (.int .u8 n17), (.int .u8 n18), (.int .u32 n19), (.slice (q20) k21 k22), (.int .u8 n23), (.string s24), (.slice (q25) k26 k27), (.int .u8 n28), (.int .u16 n29)]) ∈ x6) ∧
    ((0 : Int) ≤ n3) ∧
    (n3 < ((bl : Nat) : Int)) ∧
    X.onSome (b) fun p30 =>
    ∃ n31 : Int, ∃ n32 : Int, ∃ n33 : Int, ∃ n34 : Int, ∃ n35 : Int, ∃ n36 : Int, ∃ n37 : Int, ∃ n38 : Int, ∃ n39 : Int, ∃ n40 : Int, ∃ n41 : Int, ∃ n42 : Int, ∃ q43 : Option Addr, ∃ k44 : Nat, ∃ k45 : Nat, ∃ n46 : Int, ∃ s47 : ByteArray, ∃ q48 : Option Addr, ∃ k49 : Nat, ∃ k50 : Nat, ∃ n51 : Int, ∃ n52 : Int, (((p30.add ((n3).toNat * 18)), [(.int .u8 n31), (.int .u8 n32), (.int .u16 n33), (.int .u32 n34), (.int .u8 n35), (.int .u8 n36), (.int .u8 n37), (.int .u8 n38), (.int .u8 n39), (.int .u8 n40), (.int .u8 n41), (.int .u32 n42), (.slice (q43) k44 k45), (.int .u8 n46), (.string s47), (.slice (q48) k49 k50), (.int .u8 n51), (.int .u16 n52)]) ∈ x6) ∧
    ∀ w53 : World, (X.Hid [] w4 w53) →
    X.CallX Try.prog 11 #[(.agg #[(.int .u8 n8), (.int .u8 n9), (.int .u16 n10), (.int .u32 n11), (.int .u8 n12), (.int .u8 n13), (.int .u8 n14), (.int .u8 n15), (.int .u8 n16), (.int .u8 n17), (.int .u8 n18), (.int .u32 n19), (.slice (q20) k21 k22), (.int .u8 n23), (.string s24), (.slice (q25) k26 k27), (.int .u8 n28), (.int .u16 n29)]), (.agg #[(.int .u8 n31), (.int .u8 n32), (.int .u16 n33), (.int .u32 n34), (.int .u8 n35), (.int .u8 n36), (.int .u8 n37), (.int .u8 n38), (.int .u8 n39), (.int .u8 n40), (.int .u8 n41), (.int .u32 n42), (.slice (q43) k44 k45), (.int .u8 n46), (.string s47), (.slice (q48) k49 k50), (.int .u8 n51), (.int .u16 n52)])] w53 fun e54 w55 =>
     ∃ b56 : Bool, (e54 = .returned (.bool b56)) ∧
     ((w53).heap.size ≤ (w55).heap.size) ∧
     if (!b56) = true then
      R (.returned (.bool false)) w55
     else
      (x1 (IntKind.wrap .i64 (n3 + 1)) w55 []) ∧
      Nat.le ((x2 (IntKind.wrap .i64 (n3 + 1)) w55) + 1) (x2 n3 w4)
   else
    R (.returned (.bool true)) w4) :
    Calls Try.prog 47 #[.slice a al ac, .slice b bl bc] w R :=
  X.calls_of { isLoc := [], sym := [], loops := [(4, .inv [(5, .int .i64)] [] true)], joins := [] } Try.func47 (by kernel_rfl) h
abbrev fn_Refs : Nat := 48
theorem x_Refs (a : Option Addr) (al ac : Nat) (w : World) (R : Ending → World → Prop) (h :
  ∃ x1 : Option Addr → Nat → Nat → Int → World → List Nat → Prop, ∃ x2 : Option Addr → Nat → Nat → Int → World → Nat, (x1 (none) 0 0 0 w []) ∧
  ∀ q3 : Option Addr, ∀ k4 : Nat, ∀ k5 : Nat, ∀ n6 : Int, ∀ w7 : World, ∀ L8 : List Nat, (X.LF (w).heap.size w7 L8) →
  (x1 q3 k4 k5 n6 w7 L8) →
  if (decide (n6 < ((al : Nat) : Int))) = true then
   ((0 : Int) ≤ n6) ∧
   (n6 < ((al : Nat) : Int)) ∧
   X.onSome (a) fun p9 =>
   ∃ n10 : Int, ∃ n11 : Int, ∃ n12 : Int, ∃ n13 : Int, ∃ n14 : Int, ∃ n15 : Int, ∃ n16 : Int, ∃ n17 : Int, ∃ n18 : Int, ∃ n19 : Int, ∃ n20 : Int, ∃ n21 : Int, ∃ q22 : Option Addr, ∃ k23 : Nat, ∃ k24 : Nat, ∃ n25 : Int, ∃ s26 : ByteArray, ∃ q27 : Option Addr, ∃ k28 : Nat, ∃ k29 : Nat, ∃ n30 : Int, ∃ n31 : Int, (X.Cells w7 (p9.add ((n6).toNat * 18)) [(.int .u8 n10), (.int .u8 n11), (.int .u16 n12), (.int .u32 n13), (.int .u8 n14), (.int .u8 n15), (.int .u8 n16), (.int .u8 n17), (.int .u8 n18), (.int .u8 n19), (.int .u8 n20), (.int .u32 n21), (.slice (q22) k23 k24), (.int .u8 n25), (.string s26), (.slice (q27) k28 k29), (.int .u8 n30), (.int .u16 n31)]) ∧
   X.CallX Try.prog 69 #[(.agg #[(.int .u8 n10), (.int .u8 n11), (.int .u16 n12), (.int .u32 n13), (.int .u8 n14), (.int .u8 n15), (.int .u8 n16), (.int .u8 n17), (.int .u8 n18), (.int .u8 n19), (.int .u8 n20), (.int .u32 n21), (.slice (q22) k23 k24), (.int .u8 n25), (.string s26), (.slice (q27) k28 k29), (.int .u8 n30), (.int .u16 n31)])] w7 fun e32 w33 =>
    ∃ n34 : Int, ∃ n35 : Int, ∃ n36 : Int, ∃ n37 : Int, ∃ n38 : Int, ∃ n39 : Int, ∃ n40 : Int, ∃ n41 : Int, ∃ n42 : Int, ∃ n43 : Int, ∃ n44 : Int, ∃ n45 : Int, ∃ q46 : Option Addr, ∃ k47 : Nat, ∃ k48 : Nat, ∃ n49 : Int, ∃ s50 : ByteArray, ∃ q51 : Option Addr, ∃ k52 : Nat, ∃ k53 : Nat, ∃ n54 : Int, ∃ n55 : Int, (e32 = .returned (.agg #[(.int .u8 n34), (.int .u8 n35), (.int .u16 n36), (.int .u32 n37), (.int .u8 n38), (.int .u8 n39), (.int .u8 n40), (.int .u8 n41), (.int .u8 n42), (.int .u8 n43), (.int .u8 n44), (.int .u32 n45), (.slice (q46) k47 k48), (.int .u8 n49), (.string s50), (.slice (q51) k52 k53), (.int .u8 n54), (.int .u16 n55)])) ∧
    ((w7).heap.size ≤ (w33).heap.size) ∧
    ∃ q56 : Option Addr, ∃ k57 : Nat, ∃ k58 : Nat, ∃ w59 : World, (Sem.run Try.prog (Go.Builtin.append_ #[65, 65] 65 #[(.slice (q3) k4 k5), (.slice (some ⟨(w33).heap.size, 0, none⟩) 1 1)]) (w33.alloc (.cells #[(.int .u8 n34), (.int .u8 n35), (.int .u16 n36), (.int .u32 n37), (.int .u8 n38), (.int .u8 n39), (.int .u8 n40), (.int .u8 n41), (.int .u8 n42), (.int .u8 n43), (.int .u8 n44), (.int .u32 n45), (.slice (q46) k47 k48), (.int .u8 n49), (.string s50), (.slice (q51) k52 k53), (.int .u8 n54), (.int .u16 n55)] 52)) = .ok (.slice (q56) k57 k58) w59) ∧
    (((w33.alloc (.cells #[(.int .u8 n34), (.int .u8 n35), (.int .u16 n36), (.int .u32 n37), (.int .u8 n38), (.int .u8 n39), (.int .u8 n40), (.int .u8 n41), (.int .u8 n42), (.int .u8 n43), (.int .u8 n44), (.int .u32 n45), (.slice (q46) k47 k48), (.int .u8 n49), (.string s50), (.slice (q51) k52 k53), (.int .u8 n54), (.int .u16 n55)] 52))).heap.size ≤ (w59).heap.size) ∧
    (x1 q56 k57 k58 (IntKind.wrap .i64 (n6 + 1)) w59 []) ∧
    Nat.le ((x2 q56 k57 k58 (IntKind.wrap .i64 (n6 + 1)) w59) + 1) (x2 q3 k4 k5 n6 w7)
  else
   R (.returned (.slice (q3) k4 k5)) w7) :
    Calls Try.prog 48 #[.slice a al ac] w R :=
  X.calls_of { isLoc := [], sym := [], loops := [(3, .inv [(3, .slice), (4, .int .i64)] [] true)], joins := [] } Try.func48 (by kernel_rfl) h
abbrev fn_SameProcs : Nat := 67
theorem x_SameProcs (a : Option Addr) (al ac : Nat) (b : Option Addr) (bl bc : Nat) (w : World) (R : Ending → World → Prop) (h :
  if (((al : Nat) : Int) != ((bl : Nat) : Int)) = true then
   R (.returned (.bool false)) w
  else
   ∃ x1 : Int → World → List Nat → Prop, ∃ x2 : Int → World → Nat, (x1 0 w []) ∧
   ∀ n3 : Int, ∀ w4 : World, ∀ L5 : List Nat, (X.LF (w).heap.size w4 L5) →
   (x1 n3 w4 L5) →
   if (decide (n3 < ((al : Nat) : Int))) = true then
    ((0 : Int) ≤ n3) ∧
    (n3 < ((al : Nat) : Int)) ∧
    X.onSome (a) fun p6 =>
    ∃ n7 : Int, ∃ n8 : Int, (X.Cells w4 (p6.add ((n3).toNat * 2)) [(.int .u8 n7), (.int .u16 n8)]) ∧
    ((0 : Int) ≤ n3) ∧
    (n3 < ((bl : Nat) : Int)) ∧
    X.onSome (b) fun p9 =>
    ∃ n10 : Int, ∃ n11 : Int, (X.Cells w4 (p9.add ((n3).toNat * 2)) [(.int .u8 n10), (.int .u16 n11)]) ∧
    if (!((n7 == n10) && (n8 == n11))) = true then
     ∀ w13 : World, (X.Hid [] w4 w13) →
     R (.returned (.bool false)) w13
    else
     ∀ w12 : World, (X.Hid [] w4 w12) →
     (x1 (IntKind.wrap .i64 (n3 + 1)) w12 []) ∧
     Nat.le ((x2 (IntKind.wrap .i64 (n3 + 1)) w12) + 1) (x2 n3 w4)
   else
    R (.returned (.bool true)) w4) :
    Calls Try.prog 67 #[.slice a al ac, .slice b bl bc] w R :=
  X.calls_of { isLoc := [], sym := [], loops := [(4, .inv [(5, .int .i64)] [] true)], joins := [] } Try.func67 (by kernel_rfl) h
abbrev fn_RefProcs : Nat := 68
theorem x_RefProcs (a : Option Addr) (al ac : Nat) (w : World) (R : Ending → World → Prop) (h :
  ∃ x1 : Option Addr → Nat → Nat → Int → World → List Nat → Prop, ∃ x2 : Option Addr → Nat → Nat → Int → World → Nat, (x1 (none) 0 0 0 w []) ∧
  ∀ q3 : Option Addr, ∀ k4 : Nat, ∀ k5 : Nat, ∀ n6 : Int, ∀ w7 : World, ∀ L8 : List Nat, (X.LF (w).heap.size w7 L8) →
  (x1 q3 k4 k5 n6 w7 L8) →
  if (decide (n6 < ((al : Nat) : Int))) = true then
   ((0 : Int) ≤ n6) ∧
   (n6 < ((al : Nat) : Int)) ∧
   X.onSome (a) fun p9 =>
   ∃ n10 : Int, ∃ n11 : Int, (X.Cells w7 (p9.add ((n6).toNat * 2)) [(.int .u8 n10), (.int .u16 n11)]) ∧
   X.CallX Try.prog 43 #[(.agg #[(.int .u8 n10), (.int .u16 n11)])] w7 fun e12 w13 =>
    ∃ n14 : Int, ∃ n15 : Int, (e12 = .returned (.agg #[(.int .u8 n14), (.int .u16 n15)])) ∧
    ((w7).heap.size ≤ (w13).heap.size) ∧
    ∃ q16 : Option Addr, ∃ k17 : Nat, ∃ k18 : Nat, ∃ w19 : World, (Sem.run Try.prog (Go.Builtin.append_ #[43, 43] 43 #[(.slice (q3) k4 k5), (.slice (some ⟨(w13).heap.size, 0, none⟩) 1 1)]) (w13.alloc (.cells #[(.int .u8 n14), (.int .u16 n15)] 29)) = .ok (.slice (q16) k17 k18) w19) ∧
    (((w13.alloc (.cells #[(.int .u8 n14), (.int .u16 n15)] 29))).heap.size ≤ (w19).heap.size) ∧
    (x1 q16 k17 k18 (IntKind.wrap .i64 (n6 + 1)) w19 []) ∧
    Nat.le ((x2 q16 k17 k18 (IntKind.wrap .i64 (n6 + 1)) w19) + 1) (x2 q3 k4 k5 n6 w7)
  else
   R (.returned (.slice (q3) k4 k5)) w7) :
    Calls Try.prog 68 #[.slice a al ac] w R :=
  X.calls_of { isLoc := [], sym := [], loops := [(3, .inv [(3, .slice), (4, .int .i64)] [] true)], joins := [] } Try.func68 (by kernel_rfl) h
abbrev fn_Ref5 : Nat := 69
theorem x_Ref5 (a_0 a_1 a_2 a_3 a_4 a_5 a_6 a_7 a_8 a_9 a_10 a_11 : Int) (a_12 : Option Addr) (a_12l a_12c : Nat) (a_13 : Int) (a_14 : ByteArray) (a_15 : Option Addr) (a_15l a_15c : Nat) (a_16 a_17 : Int) (w : World) (R : Ending → World → Prop) (h :
  ∃ x1 : X.Facts, (X.FactsW x1 w []) ∧
  ∀ w2 : World, ∀ L3 : List Nat, (X.Hid [] w w2) →
  (X.NewL (w).heap.size [] w w2 L3) →
  X.CallX Try.prog 41 #[(.agg #[(.int .u8 a_1), (.int .u16 a_2), (.int .u32 a_3), (.int .u8 a_4), (.int .u8 a_5), (.int .u8 a_6), (.int .u8 a_7), (.int .u8 a_8), (.int .u8 a_9), (.int .u8 a_10)])] w2 fun e4 w5 =>
   ∃ n6 : Int, ∃ n7 : Int, ∃ n8 : Int, ∃ n9 : Int, ∃ n10 : Int, ∃ n11 : Int, ∃ n12 : Int, ∃ n13 : Int, ∃ n14 : Int, ∃ n15 : Int, (e4 = .returned (.agg #[(.int .u8 n6), (.int .u16 n7), (.int .u32 n8), (.int .u8 n9), (.int .u8 n10), (.int .u8 n11), (.int .u8 n12), (.int .u8 n13), (.int .u8 n14), (.int .u8 n15)])) ∧
   (X.Kept L3 w2 w5) ∧
   (X.FactsW x1 w5 (L3)) ∧
   X.CallX Try.prog 42 #[(.slice (a_12) a_12l a_12c)] w5 fun e16 w17 =>
    ∃ q18 : Option Addr, ∃ k19 : Nat, ∃ k20 : Nat, (e16 = .returned (.slice (q18) k19 k20)) ∧
    (X.Kept L3 w5 w17) ∧
    (X.FactsW x1 w17 (L3)) ∧
    X.CallX Try.prog 44 #[(.agg #[(.int .u8 a_13), (.string a_14)])] w17 fun e21 w22 =>
     ∃ n23 : Int, ∃ s24 : ByteArray, (e21 = .returned (.agg #[(.int .u8 n23), (.string s24)])) ∧
     (X.Kept L3 w17 w22) ∧
     (X.FactsW x1 w22 (L3)) ∧
     X.CallX Try.prog 75 #[(.slice (a_15) a_15l a_15c)] w22 fun e25 w26 =>
      ∃ q27 : Option Addr, ∃ k28 : Nat, ∃ k29 : Nat, (e25 = .returned (.slice (q27) k28 k29)) ∧
      (X.Kept L3 w22 w26) ∧
      (X.FactsW x1 w26 (L3)) ∧
      X.CallX Try.prog 43 #[(.agg #[(.int .u8 a_16), (.int .u16 a_17)])] w26 fun e30 w31 =>
       ∃ n32 : Int, ∃ n33 : Int, (e30 = .returned (.agg #[(.int .u8 n32), (.int .u16 n33)])) ∧
       (X.Kept L3 w26 w31) ∧
       (X.FactsW x1 w31 (L3)) ∧
       ∀ w34 : World, (X.Hid (L3) w31 w34) →
       R (.returned (.agg #[(.int .u8 a_0), (.int .u8 n6), (.int .u16 n7), (.int .u32 n8), (.int .u8 n9), (.int .u8 n10), (.int .u8 n11), (.int .u8 n12), (.int .u8 n13), (.int .u8 n14), (.int .u8 n15), (.int .u32 a_11), (.slice (q18) k19 k20), (.int .u8 n23), (.string s24), (.slice (q27) k28 k29), (.int .u8 n32), (.int .u16 n33)])) w34) :
    Calls Try.prog 69 #[.agg #[.int .u8 a_0, .int .u8 a_1, .int .u16 a_2, .int .u32 a_3, .int .u8 a_4, .int .u8 a_5, .int .u8 a_6, .int .u8 a_7, .int .u8 a_8, .int .u8 a_9, .int .u8 a_10, .int .u32 a_11, .slice a_12 a_12l a_12c, .int .u8 a_13, .string a_14, .slice a_15 a_15l a_15c, .int .u8 a_16, .int .u16 a_17]] w R :=
  X.calls_of { isLoc := [1, 2], sym := [], loops := [], joins := [], stored := [(1, [2])] } Try.func69 (by kernel_rfl) h
abbrev fn_Ref4 : Nat := 75
theorem x_Ref4 (a : Option Addr) (al ac : Nat) (w : World) (R : Ending → World → Prop) (h :
  ∃ x1 : Option Addr → Nat → Nat → Int → World → List Nat → Prop, ∃ x2 : Option Addr → Nat → Nat → Int → World → Nat, (x1 (none) 0 0 0 w []) ∧
  ∀ q3 : Option Addr, ∀ k4 : Nat, ∀ k5 : Nat, ∀ n6 : Int, ∀ w7 : World, ∀ L8 : List Nat, (X.LF (w).heap.size w7 L8) →
  (x1 q3 k4 k5 n6 w7 L8) →
  if (decide (n6 < ((al : Nat) : Int))) = true then
   ∃ x9 : X.Facts, (X.FactsW x9 w7 []) ∧
   ((0 : Int) ≤ n6) ∧
   (n6 < ((al : Nat) : Int)) ∧
   X.onSome (a) fun p10 =>
   ∃ s11 : ByteArray, ((((p10.add ((n6).toNat * 3)).add 0), [(.string s11)]) ∈ x9) ∧
   ((0 : Int) ≤ n6) ∧
   (n6 < ((al : Nat) : Int)) ∧
   X.onSome (a) fun p12 =>
   ∃ s13 : ByteArray, ((((p12.add ((n6).toNat * 3)).add 1), [(.string s13)]) ∈ x9) ∧
   ((0 : Int) ≤ n6) ∧
   (n6 < ((al : Nat) : Int)) ∧
   X.onSome (a) fun p14 =>
   ∃ b15 : Bool, ((((p14.add ((n6).toNat * 3)).add 2), [(.bool b15)]) ∈ x9) ∧
   ∀ w16 : World, (X.Hid [] w7 w16) →
   (X.FactsW x9 (w16.alloc (.cells #[(.string s11), (.string s13), (.bool b15)] 152)) []) ∧
   ∃ q17 : Option Addr, ∃ k18 : Nat, ∃ k19 : Nat, ∃ w20 : World, (Sem.run Try.prog (Go.Builtin.append_ #[50, 50] 50 #[(.slice (q3) k4 k5), (.slice (some ⟨(w16).heap.size, 0, none⟩) 1 1)]) (w16.alloc (.cells #[(.string s11), (.string s13), (.bool b15)] 152)) = .ok (.slice (q17) k18 k19) w20) ∧
   (((w16.alloc (.cells #[(.string s11), (.string s13), (.bool b15)] 152))).heap.size ≤ (w20).heap.size) ∧
   (X.FactsW x9 w20 []) ∧
   (x1 q17 k18 k19 (IntKind.wrap .i64 (n6 + 1)) w20 []) ∧
   Nat.le ((x2 q17 k18 k19 (IntKind.wrap .i64 (n6 + 1)) w20) + 1) (x2 q3 k4 k5 n6 w7)
  else
   R (.returned (.slice (q3) k4 k5)) w7) :
    Calls Try.prog 75 #[.slice a al ac] w R :=
  X.calls_of { isLoc := [], sym := [], loops := [(3, .inv [(3, .slice), (4, .int .i64)] [] true)], joins := [] } Try.func75 (by kernel_rfl) h
end Go.Proofs
