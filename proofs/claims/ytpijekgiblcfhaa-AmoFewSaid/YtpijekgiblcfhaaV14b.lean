import Derived.Test.YtpijekgiblcfhaaXFn
import Derived.Test.YtpijekgiblcfhaaProg
/- The verification conditions of this seat's functions, as the engine has them: printed by a program of the bench; checked by the kernel. -/
set_option maxRecDepth 100000
set_option linter.unusedVariables false
namespace Go.Proofs
open Go
abbrev fn_DeleteFunc : Nat := 53
theorem x_DeleteFunc (a : Option Nat) (z0 z1 : Addr) (w : World) (R : Ending → World → Prop) (h :
  ∃ q1 : Option Addr, ∃ w2 : World, (Sem.run Try.prog (Go.Instr.range 84 (.map (a))) w = .ok (.pointer (q1)) w2) ∧
  ((w).heap.size ≤ (w2).heap.size) ∧
  ∃ x3 : World → List Nat → Prop, ∃ x4 : World → Nat, (x3 w2 []) ∧
  ∀ w5 : World, ∀ L6 : List Nat, (X.LF (w).heap.size w5 L6) →
  (x3 w5 L6) →
  ∃ b7 : Bool, ∃ L8 : List Value, ∃ w9 : World, (Sem.run Try.prog (Go.Instr.next (.pointer (q1)) false 0) w5 = .ok (.tuple ((Value.bool b7 :: L8).toArray)) w9) ∧
  ((w5).heap.size ≤ (w9).heap.size) ∧
  if b7 = true then
   ∃ n10 : Int, ∃ n11 : Int, ∃ n12 : Int, ∃ n13 : Int, ∃ n14 : Int, ∃ n15 : Int, ∃ n16 : Int, ∃ n17 : Int, ∃ n18 : Int, ∃ n19 : Int, ∃ n20 : Int, ∃ n21 : Int, ∃ n22 : Int, ∃ n23 : Int, ∃ n24 : Int, ∃ n25 : Int, ∃ n26 : Int, ∃ n27 : Int, ∃ n28 : Int, ∃ n29 : Int, ∃ b30 : Bool, ∃ n31 : Int, ∃ s32 : ByteArray, ∃ w33 : World, (Sem.run Try.prog (Go.Instr.entry (.pointer (q1))) w9 = .ok (.tuple #[(.agg #[(.int .u8 n10), (.int .u16 n11), (.int .u32 n12), (.int .u8 n13), (.int .u8 n14), (.int .u8 n15), (.int .u8 n16), (.int .u8 n17), (.int .u8 n18), (.int .u8 n19)]), (.agg #[(.int .u8 n20), (.int .u16 n21), (.int .u32 n22), (.int .u8 n23), (.int .u8 n24), (.int .u8 n25), (.int .u8 n26), (.int .u8 n27), (.int .u8 n28), (.int .u8 n29), (.bool b30), (.int .u8 n31), (.string s32)])]) w33) ∧
   ((w9).heap.size ≤ (w33).heap.size) ∧
   ∀ w34 : World, ∀ L35 : List Nat, (X.Hid [] w33 w34) →
   (X.NewL (w).heap.size [] w33 w34 L35) →
   X.CallX Try.prog (OfNat.ofNat 70) #[(.agg #[(.int .u8 n10), (.int .u16 n11), (.int .u32 n12), (.int .u8 n13), (.int .u8 n14), (.int .u8 n15), (.int .u8 n16), (.int .u8 n17), (.int .u8 n18), (.int .u8 n19)]), (.agg #[(.int .u8 n20), (.int .u16 n21), (.int .u32 n22), (.int .u8 n23), (.int .u8 n24), (.int .u8 n25), (.int .u8 n26), (.int .u8 n27), (.int .u8 n28), (.int .u8 n29), (.bool b30), (.int .u8 n31), (.string s32)]), (.pointer (some z0)), (.pointer (some z1))] w34 fun e36 w37 =>
    ∃ b38 : Bool, (e36 = .returned (.bool b38)) ∧
    (X.Kept L35 w34 w37) ∧
    if b38 = true then
     ∃ w39 : World, (Sem.run Try.prog (Go.Builtin.delete_ #[84, 54] 0 #[(.map (a)), (.agg #[(.int .u8 n10), (.int .u16 n11), (.int .u32 n12), (.int .u8 n13), (.int .u8 n14), (.int .u8 n15), (.int .u8 n16), (.int .u8 n17), (.int .u8 n18), (.int .u8 n19)])]) w37 = .ok (.tuple #[]) w39) ∧
     (X.Kept L35 w37 w39) ∧
     (x3 w39 (L35)) ∧
     Nat.le ((x4 w39) + 1) (x4 w5)
    else
     (x3 w37 (L35)) ∧
     Nat.le ((x4 w37) + 1) (x4 w5)
  else
   R (.returned (.tuple #[])) w9) :
    Calls Try.prog 53 #[.map a, .func (.func 70) #[] #[.pointer (some z0), .pointer (some z1)]] w R :=
  X.calls_of { isLoc := [4, 5], sym := [], loops := [(1, .inv [] [] true)], joins := [], ents := [(10, [54, 60])] } Try.func53 (by kernel_rfl) h
abbrev fn_amo_Table_past : Nat := 54
theorem x_amo_Table_past (a : Addr) (b_0 b_1 : Int) (w : World) (R : Ending → World → Prop) (h :
  R (.returned (.func (.func 70) #[] #[(.pointer (some ⟨((w.alloc (.cells #[(.pointer (some a))] 25))).heap.size, 0, none⟩)), (.pointer (some ⟨(w).heap.size, 0, none⟩))])) ((w.alloc (.cells #[(.pointer (some a))] 25)).alloc (.cells #[(.int .u8 b_0), (.int .u16 b_1)] 50))) :
    Calls Try.prog 54 #[.pointer (some a), .agg #[.int .u8 b_0, .int .u16 b_1]] w R :=
  X.calls_of { isLoc := [], sym := [], loops := [], joins := [] } Try.func54 (by kernel_rfl) h
abbrev fn_past1 : Nat := 70
theorem x_past1 (a_0 a_1 a_2 a_3 a_4 a_5 a_6 a_7 a_8 a_9 b_0 b_1 b_2 b_3 b_4 b_5 b_6 b_7 b_8 b_9 : Int) (b_10 : Bool) (b_11 : Int) (b_12 : ByteArray) (z0 z1 : Addr) (w : World) (R : Ending → World → Prop) (h :
  ∃ n1 : Int, ∃ n2 : Int, (X.Cells w z0 [(.int .u8 n1), (.int .u16 n2)]) ∧
  if ((((a_0 == n1) && (a_1 == n2)) && b_10) == true) = true then
   ∃ q4 : Option Addr, (World.cell? w z1 = some (.pointer (q4))) ∧
   ∀ w5 : World, ∀ L6 : List Nat, (X.Hid [] w w5) →
   (X.NewL (w).heap.size [] w w5 L6) →
   X.CallX Try.prog 50 #[(.pointer (q4)), (.agg #[(.int .u8 a_0), (.int .u16 a_1), (.int .u32 a_2), (.int .u8 a_3), (.int .u8 a_4), (.int .u8 a_5), (.int .u8 a_6), (.int .u8 a_7), (.int .u8 a_8), (.int .u8 a_9)])] w5 fun e7 w8 =>
    ∃ b9 : Bool, (e7 = .returned (.bool b9)) ∧
    (X.Kept L6 w5 w8) ∧
    R (.returned (.bool (true && b9))) w8
  else
   ∀ w3 : World, (X.Hid [] w w3) →
   R (.returned (.bool false)) w3) :
    Calls Try.prog 70 #[.agg #[.int .u8 a_0, .int .u16 a_1, .int .u32 a_2, .int .u8 a_3, .int .u8 a_4, .int .u8 a_5, .int .u8 a_6, .int .u8 a_7, .int .u8 a_8, .int .u8 a_9], .agg #[.int .u8 b_0, .int .u16 b_1, .int .u32 b_2, .int .u8 b_3, .int .u8 b_4, .int .u8 b_5, .int .u8 b_6, .int .u8 b_7, .int .u8 b_8, .int .u8 b_9, .bool b_10, .int .u8 b_11, .string b_12], .pointer (some z0), .pointer (some z1)] w R :=
  X.calls_of { isLoc := [4, 5], sym := [], loops := [], joins := [] } Try.func70 (by kernel_rfl) h
end Go.Proofs
