import Derived.Test.YtgpjjmpjddpocaaDoorXFn
import Derived.Test.YtgpjjmpjddpocaaDoorProg
/- The verification conditions of this seat's functions, as the engine has them: printed by a program of the bench; checked by the kernel. -/
set_option maxRecDepth 100000
set_option linter.unusedVariables false
namespace Go.Proofs
open Go
abbrev fn_Show : Nat := 10
theorem x_Show (a_0 a_1 : Int) (a_2 a_3 : ByteArray) (a_4 : Int) (w : World) (R : Ending → World → Prop) (h :
  ∀ w1 : World, ∀ L2 : List Nat, (X.Hid [] w w1) →
  (X.NewL (w).heap.size [] w w1 L2) →
  X.CallX Tryd.prog 26 #[(.int .i64 (IntKind.wrap .i64 a_0))] w1 fun e3 w4 =>
   ∃ s5 : ByteArray, (e3 = .returned (.string s5)) ∧
   (X.Kept L2 w1 w4) ∧
   (((((s5.size) + 1) : Nat) : Int) ≤ 9223372036854775807) ∧
   X.CallX Tryd.prog 27 #[(.int .i64 a_4), (.int .i64 10)] w4 fun e6 w7 =>
    ∃ s8 : ByteArray, (e6 = .returned (.string s8)) ∧
    (X.Kept L2 w4 w7) ∧
    if (a_1 == 0) = true then
     ((((((s5 ++ ByteArray.mk #[OfNat.ofNat 58]).size) + 5) : Nat) : Int) ≤ 9223372036854775807) ∧
     ((((((s5 ++ ByteArray.mk #[OfNat.ofNat 58] ++ ByteArray.mk #[OfNat.ofNat 82, OfNat.ofNat 101, OfNat.ofNat 97, OfNat.ofNat 100, OfNat.ofNat 40]).size) + (a_2.size)) : Nat) : Int) ≤ 9223372036854775807) ∧
     ((((((s5 ++ ByteArray.mk #[OfNat.ofNat 58] ++ ByteArray.mk #[OfNat.ofNat 82, OfNat.ofNat 101, OfNat.ofNat 97, OfNat.ofNat 100, OfNat.ofNat 40] ++ a_2).size) + 1) : Nat) : Int) ≤ 9223372036854775807) ∧
     R (.returned (.string (s5 ++ ByteArray.mk #[OfNat.ofNat 58] ++ ByteArray.mk #[OfNat.ofNat 82, OfNat.ofNat 101, OfNat.ofNat 97, OfNat.ofNat 100, OfNat.ofNat 40] ++ a_2 ++ ByteArray.mk #[OfNat.ofNat 41]))) w7
    else
     if (a_1 == 1) = true then
      ((((((s5 ++ ByteArray.mk #[OfNat.ofNat 58]).size) + 6) : Nat) : Int) ≤ 9223372036854775807) ∧
      ((((((s5 ++ ByteArray.mk #[OfNat.ofNat 58] ++ ByteArray.mk #[OfNat.ofNat 87, OfNat.ofNat 114, OfNat.ofNat 105, OfNat.ofNat 116, OfNat.ofNat 101, OfNat.ofNat 40]).size) + (a_2.size)) : Nat) : Int) ≤ 9223372036854775807) ∧
      ((((((s5 ++ ByteArray.mk #[OfNat.ofNat 58] ++ ByteArray.mk #[OfNat.ofNat 87, OfNat.ofNat 114, OfNat.ofNat 105, OfNat.ofNat 116, OfNat.ofNat 101, OfNat.ofNat 40] ++ a_2).size) + 1) : Nat) : Int) ≤ 9223372036854775807) ∧
      ((((((s5 ++ ByteArray.mk #[OfNat.ofNat 58] ++ ByteArray.mk #[OfNat.ofNat 87, OfNat.ofNat 114, OfNat.ofNat 105, OfNat.ofNat 116, OfNat.ofNat 101, OfNat.ofNat 40] ++ a_2 ++ ByteArray.mk #[OfNat.ofNat 61]).size) + (a_3.size)) : Nat) : Int) ≤ 9223372036854775807) ∧
      ((((((s5 ++ ByteArray.mk #[OfNat.ofNat 58] ++ ByteArray.mk #[OfNat.ofNat 87, OfNat.ofNat 114, OfNat.ofNat 105, OfNat.ofNat 116, OfNat.ofNat 101, OfNat.ofNat 40] ++ a_2 ++ ByteArray.mk #[OfNat.ofNat 61] ++ a_3).size) + 1) : Nat) : Int) ≤ 9223372036854775807) ∧
      R (.returned (.string (s5 ++ ByteArray.mk #[OfNat.ofNat 58] ++ ByteArray.mk #[OfNat.ofNat 87, OfNat.ofNat 114, OfNat.ofNat 105, OfNat.ofNat 116, OfNat.ofNat 101, OfNat.ofNat 40] ++ a_2 ++ ByteArray.mk #[OfNat.ofNat 61] ++ a_3 ++ ByteArray.mk #[OfNat.ofNat 41]))) w7
     else
      if (a_1 == 2) = true then
       ((((((s5 ++ ByteArray.mk #[OfNat.ofNat 58]).size) + 4) : Nat) : Int) ≤ 9223372036854775807) ∧
       ((((((s5 ++ ByteArray.mk #[OfNat.ofNat 58] ++ ByteArray.mk #[OfNat.ofNat 65, OfNat.ofNat 100, OfNat.ofNat 100, OfNat.ofNat 40]).size) + (a_2.size)) : Nat) : Int) ≤ 9223372036854775807) ∧
       ((((((s5 ++ ByteArray.mk #[OfNat.ofNat 58] ++ ByteArray.mk #[OfNat.ofNat 65, OfNat.ofNat 100, OfNat.ofNat 100, OfNat.ofNat 40] ++ a_2).size) + 1) : Nat) : Int) ≤ 9223372036854775807) ∧
       ((((((s5 ++ ByteArray.mk #[OfNat.ofNat 58] ++ ByteArray.mk #[OfNat.ofNat 65, OfNat.ofNat 100, OfNat.ofNat 100, OfNat.ofNat 40] ++ a_2 ++ ByteArray.mk #[OfNat.ofNat 43]).size) + (s8.size)) : Nat) : Int) ≤ 9223372036854775807) ∧
       ((((((s5 ++ ByteArray.mk #[OfNat.ofNat 58] ++ ByteArray.mk #[OfNat.ofNat 65, OfNat.ofNat 100, OfNat.ofNat 100, OfNat.ofNat 40] ++ a_2 ++ ByteArray.mk #[OfNat.ofNat 43] ++ s8).size) + 1) : Nat) : Int) ≤ 9223372036854775807) ∧
       R (.returned (.string (s5 ++ ByteArray.mk #[OfNat.ofNat 58] ++ ByteArray.mk #[OfNat.ofNat 65, OfNat.ofNat 100, OfNat.ofNat 100, OfNat.ofNat 40] ++ a_2 ++ ByteArray.mk #[OfNat.ofNat 43] ++ s8 ++ ByteArray.mk #[OfNat.ofNat 41]))) w7
      else
       if (a_1 == 3) = true then
        ((((((s5 ++ ByteArray.mk #[OfNat.ofNat 58]).size) + 5) : Nat) : Int) ≤ 9223372036854775807) ∧
        ((((((s5 ++ ByteArray.mk #[OfNat.ofNat 58] ++ ByteArray.mk #[OfNat.ofNat 84, OfNat.ofNat 97, OfNat.ofNat 107, OfNat.ofNat 101, OfNat.ofNat 40]).size) + (a_2.size)) : Nat) : Int) ≤ 9223372036854775807) ∧
        ((((((s5 ++ ByteArray.mk #[OfNat.ofNat 58] ++ ByteArray.mk #[OfNat.ofNat 84, OfNat.ofNat 97, OfNat.ofNat 107, OfNat.ofNat 101, OfNat.ofNat 40] ++ a_2).size) + 1) : Nat) : Int) ≤ 9223372036854775807) ∧
        ((((((s5 ++ ByteArray.mk #[OfNat.ofNat 58] ++ ByteArray.mk #[OfNat.ofNat 84, OfNat.ofNat 97, OfNat.ofNat 107, OfNat.ofNat 101, OfNat.ofNat 40] ++ a_2 ++ ByteArray.mk #[OfNat.ofNat 45]).size) + (s8.size)) : Nat) : Int) ≤ 9223372036854775807) ∧
        ((((((s5 ++ ByteArray.mk #[OfNat.ofNat 58] ++ ByteArray.mk #[OfNat.ofNat 84, OfNat.ofNat 97, OfNat.ofNat 107, OfNat.ofNat 101, OfNat.ofNat 40] ++ a_2 ++ ByteArray.mk #[OfNat.ofNat 45] ++ s8).size) + 1) : Nat) : Int) ≤ 9223372036854775807) ∧
        R (.returned (.string (s5 ++ ByteArray.mk #[OfNat.ofNat 58] ++ ByteArray.mk #[OfNat.ofNat 84, OfNat.ofNat 97, OfNat.ofNat 107, OfNat.ofNat 101, OfNat.ofNat 40] ++ a_2 ++ ByteArray.mk #[OfNat.ofNat 45] ++ s8 ++ ByteArray.mk #[OfNat.ofNat 41]))) w7
       else
        if (a_1 == 4) = true then
         ((((((s5 ++ ByteArray.mk #[OfNat.ofNat 58]).size) + 6) : Nat) : Int) ≤ 9223372036854775807) ∧
         ((((((s5 ++ ByteArray.mk #[OfNat.ofNat 58] ++ ByteArray.mk #[OfNat.ofNat 69, OfNat.ofNat 114, OfNat.ofNat 97, OfNat.ofNat 115, OfNat.ofNat 101, OfNat.ofNat 40]).size) + (a_2.size)) : Nat) : Int) ≤ 9223372036854775807) ∧
         ((((((s5 ++ ByteArray.mk #[OfNat.ofNat 58] ++ ByteArray.mk #[OfNat.ofNat 69, OfNat.ofNat 114, OfNat.ofNat 97, OfNat.ofNat 115, OfNat.ofNat 101, OfNat.ofNat 40] ++ a_2).size) + 1) : Nat) : Int) ≤ 9223372036854775807) ∧
         R (.returned (.string (s5 ++ ByteArray.mk #[OfNat.ofNat 58] ++ ByteArray.mk #[OfNat.ofNat 69, OfNat.ofNat 114, OfNat.ofNat 97, OfNat.ofNat 115, OfNat.ofNat 101, OfNat.ofNat 40] ++ a_2 ++ ByteArray.mk #[OfNat.ofNat 41]))) w7
        else
         ((((((s5 ++ ByteArray.mk #[OfNat.ofNat 58]).size) + 1) : Nat) : Int) ≤ 9223372036854775807) ∧
         R (.returned (.string (s5 ++ ByteArray.mk #[OfNat.ofNat 58] ++ ByteArray.mk #[OfNat.ofNat 63]))) w7) :
    Calls Tryd.prog 10 #[.agg #[.int .u8 a_0, .int .u8 a_1, .string a_2, .string a_3, .int .i64 a_4]] w R :=
  X.calls_of { isLoc := [1], sym := [], loops := [], joins := [] } Tryd.func10 (by kernel_rfl) h
abbrev fn_rShow : Nat := 19
theorem x_rShow (a_0 a_1 : Int) (a_2 a_3 : ByteArray) (a_4 : Int) (w : World) (R : Ending → World → Prop) (h :
  ∀ w1 : World, ∀ L2 : List Nat, (X.Hid [] w w1) →
  (X.NewL (w).heap.size [] w w1 L2) →
  X.CallX Tryd.prog 30 #[(.int .i64 (IntKind.wrap .i64 a_0))] w1 fun e3 w4 =>
   ∃ s5 : ByteArray, (e3 = .returned (.string s5)) ∧
   (X.Kept L2 w1 w4) ∧
   (((((s5.size) + 1) : Nat) : Int) ≤ 9223372036854775807) ∧
   if (a_1 == 0) = true then
    ((((((s5 ++ ByteArray.mk #[OfNat.ofNat 58]).size) + 5) : Nat) : Int) ≤ 9223372036854775807) ∧
    ((((((s5 ++ ByteArray.mk #[OfNat.ofNat 58] ++ ByteArray.mk #[OfNat.ofNat 82, OfNat.ofNat 101, OfNat.ofNat 97, OfNat.ofNat 100, OfNat.ofNat 40]).size) + (a_2.size)) : Nat) : Int) ≤ 9223372036854775807) ∧
    ((((((s5 ++ ByteArray.mk #[OfNat.ofNat 58] ++ ByteArray.mk #[OfNat.ofNat 82, OfNat.ofNat 101, OfNat.ofNat 97, OfNat.ofNat 100, OfNat.ofNat 40] ++ a_2).size) + 1) : Nat) : Int) ≤ 9223372036854775807) ∧
    R (.returned (.string (s5 ++ ByteArray.mk #[OfNat.ofNat 58] ++ ByteArray.mk #[OfNat.ofNat 82, OfNat.ofNat 101, OfNat.ofNat 97, OfNat.ofNat 100, OfNat.ofNat 40] ++ a_2 ++ ByteArray.mk #[OfNat.ofNat 41]))) w4
   else
    if (a_1 == 1) = true then
     ((((((s5 ++ ByteArray.mk #[OfNat.ofNat 58]).size) + 6) : Nat) : Int) ≤ 9223372036854775807) ∧
     ((((((s5 ++ ByteArray.mk #[OfNat.ofNat 58] ++ ByteArray.mk #[OfNat.ofNat 87, OfNat.ofNat 114, OfNat.ofNat 105, OfNat.ofNat 116, OfNat.ofNat 101, OfNat.ofNat 40]).size) + (a_2.size)) : Nat) : Int) ≤ 9223372036854775807) ∧
     ((((((s5 ++ ByteArray.mk #[OfNat.ofNat 58] ++ ByteArray.mk #[OfNat.ofNat 87, OfNat.ofNat 114, OfNat.ofNat 105, OfNat.ofNat 116, OfNat.ofNat 101, OfNat.ofNat 40] ++ a_2).size) + 1) : Nat) : Int) ≤ 9223372036854775807) ∧
     ((((((s5 ++ ByteArray.mk #[OfNat.ofNat 58] ++ ByteArray.mk #[OfNat.ofNat 87, OfNat.ofNat 114, OfNat.ofNat 105, OfNat.ofNat 116, OfNat.ofNat 101, OfNat.ofNat 40] ++ a_2 ++ ByteArray.mk #[OfNat.ofNat 61]).size) + (a_3.size)) : Nat) : Int) ≤ 9223372036854775807) ∧
     ((((((s5 ++ ByteArray.mk #[OfNat.ofNat 58] ++ ByteArray.mk #[OfNat.ofNat 87, OfNat.ofNat 114, OfNat.ofNat 105, OfNat.ofNat 116, OfNat.ofNat 101, OfNat.ofNat 40] ++ a_2 ++ ByteArray.mk #[OfNat.ofNat 61] ++ a_3).size) + 1) : Nat) : Int) ≤ 9223372036854775807) ∧
     R (.returned (.string (s5 ++ ByteArray.mk #[OfNat.ofNat 58] ++ ByteArray.mk #[OfNat.ofNat 87, OfNat.ofNat 114, OfNat.ofNat 105, OfNat.ofNat 116, OfNat.ofNat 101, OfNat.ofNat 40] ++ a_2 ++ ByteArray.mk #[OfNat.ofNat 61] ++ a_3 ++ ByteArray.mk #[OfNat.ofNat 41]))) w4
    else
     if (a_1 == 2) = true then
      ∃ x12 : X.Facts, (X.FactsW x12 w4 (L2)) ∧
      ((((((s5 ++ ByteArray.mk #[OfNat.ofNat 58]).size) + 4) : Nat) : Int) ≤ 9223372036854775807) ∧
      ((((((s5 ++ ByteArray.mk #[OfNat.ofNat 58] ++ ByteArray.mk #[OfNat.ofNat 65, OfNat.ofNat 100, OfNat.ofNat 100, OfNat.ofNat 40]).size) + (a_2.size)) : Nat) : Int) ≤ 9223372036854775807) ∧
      ((((((s5 ++ ByteArray.mk #[OfNat.ofNat 58] ++ ByteArray.mk #[OfNat.ofNat 65, OfNat.ofNat 100, OfNat.ofNat 100, OfNat.ofNat 40] ++ a_2).size) + 1) : Nat) : Int) ≤ 9223372036854775807) ∧
      ∀ w13 : World, ∀ L14 : List Nat, (X.Hid (L2) w4 w13) →
      (X.NewL (w).heap.size (L2) w4 w13 L14) →
      X.CallX Tryd.prog 30 #[(.int .i64 a_4)] w13 fun e15 w16 =>
       ∃ s17 : ByteArray, (e15 = .returned (.string s17)) ∧
       (X.Kept L14 w13 w16) ∧
       (X.FactsW x12 w16 (L14)) ∧
       ((((((s5 ++ ByteArray.mk #[OfNat.ofNat 58] ++ ByteArray.mk #[OfNat.ofNat 65, OfNat.ofNat 100, OfNat.ofNat 100, OfNat.ofNat 40] ++ a_2 ++ ByteArray.mk #[OfNat.ofNat 43]).size) + (s17.size)) : Nat) : Int) ≤ 9223372036854775807) ∧
       ((((((s5 ++ ByteArray.mk #[OfNat.ofNat 58] ++ ByteArray.mk #[OfNat.ofNat 65, OfNat.ofNat 100, OfNat.ofNat 100, OfNat.ofNat 40] ++ a_2 ++ ByteArray.mk #[OfNat.ofNat 43] ++ s17).size) + 1) : Nat) : Int) ≤ 9223372036854775807) ∧
       R (.returned (.string (s5 ++ ByteArray.mk #[OfNat.ofNat 58] ++ ByteArray.mk #[OfNat.ofNat 65, OfNat.ofNat 100, OfNat.ofNat 100, OfNat.ofNat 40] ++ a_2 ++ ByteArray.mk #[OfNat.ofNat 43] ++ s17 ++ ByteArray.mk #[OfNat.ofNat 41]))) w16
     else
      if (a_1 == 3) = true then
       ∃ x6 : X.Facts, (X.FactsW x6 w4 (L2)) ∧
       ((((((s5 ++ ByteArray.mk #[OfNat.ofNat 58]).size) + 5) : Nat) : Int) ≤ 9223372036854775807) ∧
       ((((((s5 ++ ByteArray.mk #[OfNat.ofNat 58] ++ ByteArray.mk #[OfNat.ofNat 84, OfNat.ofNat 97, OfNat.ofNat 107, OfNat.ofNat 101, OfNat.ofNat 40]).size) + (a_2.size)) : Nat) : Int) ≤ 9223372036854775807) ∧
       ((((((s5 ++ ByteArray.mk #[OfNat.ofNat 58] ++ ByteArray.mk #[OfNat.ofNat 84, OfNat.ofNat 97, OfNat.ofNat 107, OfNat.ofNat 101, OfNat.ofNat 40] ++ a_2).size) + 1) : Nat) : Int) ≤ 9223372036854775807) ∧
       ∀ w7 : World, ∀ L8 : List Nat, (X.Hid (L2) w4 w7) →
       (X.NewL (w).heap.size (L2) w4 w7 L8) →
       X.CallX Tryd.prog 30 #[(.int .i64 a_4)] w7 fun e9 w10 =>
        ∃ s11 : ByteArray, (e9 = .returned (.string s11)) ∧
        (X.Kept L8 w7 w10) ∧
        (X.FactsW x6 w10 (L8)) ∧
        ((((((s5 ++ ByteArray.mk #[OfNat.ofNat 58] ++ ByteArray.mk #[OfNat.ofNat 84, OfNat.ofNat 97, OfNat.ofNat 107, OfNat.ofNat 101, OfNat.ofNat 40] ++ a_2 ++ ByteArray.mk #[OfNat.ofNat 45]).size) + (s11.size)) : Nat) : Int) ≤ 9223372036854775807) ∧
        ((((((s5 ++ ByteArray.mk #[OfNat.ofNat 58] ++ ByteArray.mk #[OfNat.ofNat 84, OfNat.ofNat 97, OfNat.ofNat 107, OfNat.ofNat 101, OfNat.ofNat 40] ++ a_2 ++ ByteArray.mk #[OfNat.ofNat 45] ++ s11).size) + 1) : Nat) : Int) ≤ 9223372036854775807) ∧
        R (.returned (.string (s5 ++ ByteArray.mk #[OfNat.ofNat 58] ++ ByteArray.mk #[OfNat.ofNat 84, OfNat.ofNat 97, OfNat.ofNat 107, OfNat.ofNat 101, OfNat.ofNat 40] ++ a_2 ++ ByteArray.mk #[OfNat.ofNat 45] ++ s11 ++ ByteArray.mk #[OfNat.ofNat 41]))) w10
      else
       if (a_1 == 4) = true then
        ((((((s5 ++ ByteArray.mk #[OfNat.ofNat 58]).size) + 6) : Nat) : Int) ≤ 9223372036854775807) ∧
        ((((((s5 ++ ByteArray.mk #[OfNat.ofNat 58] ++ ByteArray.mk #[OfNat.ofNat 69, OfNat.ofNat 114, OfNat.ofNat 97, OfNat.ofNat 115, OfNat.ofNat 101, OfNat.ofNat 40]).size) + (a_2.size)) : Nat) : Int) ≤ 9223372036854775807) ∧
        ((((((s5 ++ ByteArray.mk #[OfNat.ofNat 58] ++ ByteArray.mk #[OfNat.ofNat 69, OfNat.ofNat 114, OfNat.ofNat 97, OfNat.ofNat 115, OfNat.ofNat 101, OfNat.ofNat 40] ++ a_2).size) + 1) : Nat) : Int) ≤ 9223372036854775807) ∧
        R (.returned (.string (s5 ++ ByteArray.mk #[OfNat.ofNat 58] ++ ByteArray.mk #[OfNat.ofNat 69, OfNat.ofNat 114, OfNat.ofNat 97, OfNat.ofNat 115, OfNat.ofNat 101, OfNat.ofNat 40] ++ a_2 ++ ByteArray.mk #[OfNat.ofNat 41]))) w4
       else
        ((((((s5 ++ ByteArray.mk #[OfNat.ofNat 58]).size) + 1) : Nat) : Int) ≤ 9223372036854775807) ∧
        R (.returned (.string (s5 ++ ByteArray.mk #[OfNat.ofNat 58] ++ ByteArray.mk #[OfNat.ofNat 63]))) w4) :
    Calls Tryd.prog 19 #[.agg #[.int .u8 a_0, .int .u8 a_1, .string a_2, .string a_3, .int .i64 a_4]] w R :=
  X.calls_of { isLoc := [1], sym := [], loops := [], joins := [] } Tryd.func19 (by kernel_rfl) h
abbrev fn_Digits : Nat := 30
theorem x_Digits (a : Int) (w : World) (R : Ending → World → Prop) (h :
  if (decide (a < 0)) = true then
   if (decide (a < (-9))) = true then
    X.CallX Tryd.prog 30 #[(.int .i64 (IntKind.wrap .i64 (0 - (IntKind.wrap .i64 (a.tdiv 10)))))] w fun e12 w13 =>
     ∃ s14 : ByteArray, (e12 = .returned (.string s14)) ∧
     ((w).heap.size ≤ (w13).heap.size) ∧
     ((((1 + (s14.size)) : Nat) : Int) ≤ 9223372036854775807) ∧
     X.CallX Tryd.prog 30 #[(.int .i64 (IntKind.wrap .i64 (0 - (a.tmod 10))))] w13 fun e15 w16 =>
      ∃ s17 : ByteArray, (e15 = .returned (.string s17)) ∧
      ((w13).heap.size ≤ (w16).heap.size) ∧
      ((((((ByteArray.mk #[OfNat.ofNat 45] ++ s14).size) + (s17.size)) : Nat) : Int) ≤ 9223372036854775807) ∧
      R (.returned (.string (ByteArray.mk #[OfNat.ofNat 45] ++ s14 ++ s17))) w16
   else
    X.CallX Tryd.prog 30 #[(.int .i64 (IntKind.wrap .i64 (0 - a)))] w fun e9 w10 =>
     ∃ s11 : ByteArray, (e9 = .returned (.string s11)) ∧
     ((w).heap.size ≤ (w10).heap.size) ∧
     ((((1 + (s11.size)) : Nat) : Int) ≤ 9223372036854775807) ∧
     R (.returned (.string (ByteArray.mk #[OfNat.ofNat 45] ++ s11))) w10
  else
   if (decide (a < 10)) = true then
    ∃ s7 : ByteArray, ∃ w8 : World, (Sem.run Tryd.prog (Go.convert 55 9 (.slice (some ⟨(w).heap.size, 0, none⟩) 1 1)) (w.alloc (.cells #[(.int .u8 (IntKind.wrap .u8 (IntKind.wrap .i64 (48 + a))))] 5)) = .ok (.string s7) w8) ∧
    (((w.alloc (.cells #[(.int .u8 (IntKind.wrap .u8 (IntKind.wrap .i64 (48 + a))))] 5))).heap.size ≤ (w8).heap.size) ∧
    R (.returned (.string s7)) w8
   else
    X.CallX Tryd.prog 30 #[(.int .i64 (IntKind.wrap .i64 (a.tdiv 10)))] w fun e1 w2 =>
     ∃ s3 : ByteArray, (e1 = .returned (.string s3)) ∧
     ((w).heap.size ≤ (w2).heap.size) ∧
     X.CallX Tryd.prog 30 #[(.int .i64 (a.tmod 10))] w2 fun e4 w5 =>
      ∃ s6 : ByteArray, (e4 = .returned (.string s6)) ∧
      ((w2).heap.size ≤ (w5).heap.size) ∧
      (((((s3.size) + (s6.size)) : Nat) : Int) ≤ 9223372036854775807) ∧
      R (.returned (.string (s3 ++ s6))) w5) :
    Calls Tryd.prog 30 #[.int .i64 a] w R :=
  X.calls_of { isLoc := [], sym := [], loops := [], joins := [] } Tryd.func30 (by kernel_rfl) h
abbrev fn_knows : Nat := 9
theorem x_knows  (w : World) (R : Ending → World → Prop) (h :
  ∀ w1 : World, ∀ L2 : List Nat, (X.Hid [] w w1) →
  (X.NewL (w).heap.size [] w w1 L2) →
  X.CallX Tryd.prog 10 #[(.agg #[(.int .u8 1), (.int .u8 3), (.string (ByteArray.mk #[OfNat.ofNat 97])), (.string (ByteArray.mk #[])), (.int .i64 5)])] w1 fun e3 w4 =>
   ∃ s5 : ByteArray, (e3 = .returned (.string s5)) ∧
   (X.Kept L2 w1 w4) ∧
   if (((s5.toList) == ((ByteArray.mk #[OfNat.ofNat 49, OfNat.ofNat 58, OfNat.ofNat 84, OfNat.ofNat 97, OfNat.ofNat 107, OfNat.ofNat 101, OfNat.ofNat 40, OfNat.ofNat 97, OfNat.ofNat 45, OfNat.ofNat 53, OfNat.ofNat 41]).toList)) == true) = true then
    X.CallX Tryd.prog 7 #[(.agg #[(.int .u8 1), (.int .u8 3), (.string (ByteArray.mk #[OfNat.ofNat 97])), (.string (ByteArray.mk #[])), (.int .i64 5)])] w4 fun e6 w7 =>
     ∃ b8 : Bool, (e6 = .returned (.bool b8)) ∧
     (X.Kept L2 w4 w7) ∧
     if ((true && b8) == true) = true then
      X.CallX Tryd.prog 13 #[(.slice (some ⟨(w7).heap.size, 0, none⟩) 1 1)] (w7.alloc (.cells #[(.int .u8 1), (.int .u8 3), (.string (ByteArray.mk #[OfNat.ofNat 97])), (.string (ByteArray.mk #[])), (.int .i64 5)] 24)) fun e9 w10 =>
       ∃ b11 : Bool, (e9 = .returned (.bool b11)) ∧
       (X.Kept L2 (w7.alloc (.cells #[(.int .u8 1), (.int .u8 3), (.string (ByteArray.mk #[OfNat.ofNat 97])), (.string (ByteArray.mk #[])), (.int .i64 5)] 24)) w10) ∧
       if ((true && b11) == true) = true then
        X.CallX Tryd.prog 21 #[(.agg #[(.int .u8 0), (.string (ByteArray.mk #[OfNat.ofNat 120]))]), (.agg #[(.int .u8 0), (.string (ByteArray.mk #[OfNat.ofNat 121]))])] w10 fun e12 w13 =>
         ∃ n14 : Int, ∃ s15 : ByteArray, (e12 = .returned (.agg #[(.int .u8 n14), (.string s15)])) ∧
         (X.Kept L2 w10 w13) ∧
         R (.returned (.bool (true && ((s15.toList) == ((ByteArray.mk #[OfNat.ofNat 120, OfNat.ofNat 44, OfNat.ofNat 121]).toList))))) w13
       else
        R (.returned (.bool false)) w10
     else
      R (.returned (.bool false)) w7
   else
    R (.returned (.bool false)) w4) :
    Calls Tryd.prog 9 #[] w R :=
  X.calls_of { isLoc := [1], sym := [], loops := [], joins := [] } Tryd.func9 (by kernel_rfl) h
abbrev fn_PartRights : Nat := 4
theorem x_PartRights (a : Option Addr) (al ac : Nat) (b_0 : Int) (b_1 : ByteArray) (w : World) (R : Ending → World → Prop) (h :
  ∀ w1 : World, ∀ L2 : List Nat, (X.Hid [] w w1) →
  (X.NewL (w).heap.size [] w w1 L2) →
  X.CallX Tryd.prog 11 #[(.slice (a) al ac)] w1 fun e3 w4 =>
   ∃ b5 : Bool, (e3 = .returned (.bool b5)) ∧
   (X.Kept L2 w1 w4) ∧
   if ((!b5) || decide ((((b_1.size) : Nat) : Int) > 3000)) = true then
    X.CallX Tryd.prog 9 #[] w4 fun e72 w73 =>
     ∃ b74 : Bool, (e72 = .returned (.bool b74)) ∧
     (X.Kept L2 w4 w73) ∧
     R (.returned (.bool b74)) w73
   else
    ∃ x6 : Int → World → List Nat → Prop, ∃ x7 : Int → World → Nat, (x6 0 w4 (L2)) ∧
    ∀ n8 : Int, ∀ w9 : World, ∀ L10 : List Nat, (X.LF (w).heap.size w9 L10) →
    (x6 n8 w9 L10) →
    if (decide (n8 < ((al : Nat) : Int))) = true then
     ∃ x44 : X.Facts, (X.FactsW x44 w9 (L10)) ∧
     ((0 : Int) ≤ n8) ∧
     (n8 < ((al : Nat) : Int)) ∧
     X.onSome (a) fun p45 =>
     ∃ n46 : Int, ∃ n47 : Int, ∃ s48 : ByteArray, ∃ s49 : ByteArray, ∃ n50 : Int, (((p45.add ((n8).toNat * 5)), [(.int .u8 n46), (.int .u8 n47), (.string s48), (.string s49), (.int .i64 n50)]) ∈ x44) ∧
     ((0 : Int) ≤ n8) ∧
     (n8 < ((al : Nat) : Int)) ∧
     X.onSome (a) fun p51 =>
     ∃ n52 : Int, ∃ n53 : Int, ∃ s54 : ByteArray, ∃ s55 : ByteArray, ∃ n56 : Int, (((p51.add ((n8).toNat * 5)), [(.int .u8 n52), (.int .u8 n53), (.string s54), (.string s55), (.int .i64 n56)]) ∈ x44) ∧
     ∀ w57 : World, ∀ L58 : List Nat, (X.Hid (L10) w9 w57) →
     (X.NewL (w).heap.size (L10) w9 w57 L58) →
     X.CallX Tryd.prog 6 #[(.agg #[(.int .u8 n46), (.int .u8 n47), (.string s48), (.string s49), (.int .i64 n50)])] w57 fun e59 w60 =>
      ∃ n61 : Int, ∃ n62 : Int, ∃ s63 : ByteArray, ∃ s64 : ByteArray, ∃ n65 : Int, (e59 = .returned (.agg #[(.int .u8 n61), (.int .u8 n62), (.string s63), (.string s64), (.int .i64 n65)])) ∧
      (X.Kept L58 w57 w60) ∧
      (X.FactsW x44 w60 (L58)) ∧
      X.CallX Tryd.prog 7 #[(.agg #[(.int .u8 n61), (.int .u8 n62), (.string s63), (.string s64), (.int .i64 n65)])] w60 fun e66 w67 =>
       ∃ b68 : Bool, (e66 = .returned (.bool b68)) ∧
       (X.Kept L58 w60 w67) ∧
       (X.FactsW x44 w67 (L58)) ∧
       X.CallX Tryd.prog 12 #[(.agg #[(.int .u8 n52), (.int .u8 n53), (.string s54), (.string s55), (.int .i64 n56)])] w67 fun e69 w70 =>
        ∃ b71 : Bool, (e69 = .returned (.bool b71)) ∧
        (X.Kept L58 w67 w70) ∧
        (X.FactsW x44 w70 (L58)) ∧
        if (!(b68 == b71)) = true then
         R (.returned (.bool false)) w70
        else
         (([(.int .u8 b_0), (.string b_1)] : List Value) = [(.int .u8 b_0), (.string b_1)]) ∧
         (x6 (IntKind.wrap .i64 (n8 + 1)) w70 (L58)) ∧
         Nat.le ((x7 (IntKind.wrap .i64 (n8 + 1)) w70) + 1) (x7 n8 w9)
    else
     ∃ x11 : X.Facts, (X.FactsW x11 w9 (L10)) ∧
     ∀ w12 : World, ∀ L13 : List Nat, (X.Hid (L10) w9 w12) →
     (X.NewL (w).heap.size (L10) w9 w12 L13) →
     X.CallX Tryd.prog 14 #[(.slice (a) al ac)] w12 fun e14 w15 =>
      ∃ q16 : Option Addr, ∃ k17 : Nat, ∃ k18 : Nat, (e14 = .returned (.slice (q16) k17 k18)) ∧
      (X.Kept L13 w12 w15) ∧
      (X.FactsW x11 w15 (L13)) ∧
      ∃ x19 : X.Facts, (X.FactsW x19 w15 (L13)) ∧
      (∀ x20 : Addr × List Value, (x20 ∈ x11) →
       x20 ∈ x19) ∧
      X.CallX Tryd.prog 13 #[(.slice (q16) k17 k18)] w15 fun e21 w22 =>
       ∃ b23 : Bool, (e21 = .returned (.bool b23)) ∧
       (X.Kept L13 w15 w22) ∧
       (X.FactsW x19 w22 (L13)) ∧
       ∃ x24 : X.Facts, (X.FactsW x24 w22 (L13)) ∧
       (∀ x25 : Addr × List Value, (x25 ∈ x19) →
        x25 ∈ x24) ∧
       X.CallX Tryd.prog 15 #[(.slice (a) al ac)] w22 fun e26 w27 =>
        ∃ b28 : Bool, (e26 = .returned (.bool b28)) ∧
        (X.Kept L13 w22 w27) ∧
        (X.FactsW x24 w27 (L13)) ∧
        ∃ x29 : X.Facts, (X.FactsW x29 w27 (L13)) ∧
        (∀ x30 : Addr × List Value, (x30 ∈ x24) →
         x30 ∈ x29) ∧
        if ((b23 == b28) == true) = true then
         X.CallX Tryd.prog 16 #[(.agg #[(.int .u8 b_0), (.string b_1)])] w27 fun e31 w32 =>
          ∃ n33 : Int, ∃ s34 : ByteArray, (e31 = .returned (.agg #[(.int .u8 n33), (.string s34)])) ∧
          (X.Kept L13 w27 w32) ∧
          (X.FactsW x29 w32 (L13)) ∧
          X.CallX Tryd.prog 17 #[(.agg #[(.int .u8 n33), (.string s34)])] w32 fun e35 w36 =>
           ∃ b37 : Bool, (e35 = .returned (.bool b37)) ∧
           (X.Kept L13 w32 w36) ∧
           (X.FactsW x29 w36 (L13)) ∧
           X.CallX Tryd.prog 18 #[(.agg #[(.int .u8 b_0), (.string b_1)])] w36 fun e38 w39 =>
            ∃ b40 : Bool, (e38 = .returned (.bool b40)) ∧
            (X.Kept L13 w36 w39) ∧
            (X.FactsW x29 w39 (L13)) ∧
            if ((true && (b37 == b40)) == true) = true then
             X.CallX Tryd.prog 9 #[] w39 fun e41 w42 =>
              ∃ b43 : Bool, (e41 = .returned (.bool b43)) ∧
              (X.Kept L13 w39 w42) ∧
              (X.FactsW x29 w42 (L13)) ∧
              R (.returned (.bool (true && b43))) w42
            else
             R (.returned (.bool false)) w39
        else
         R (.returned (.bool false)) w27) :
    Calls Tryd.prog 4 #[.slice a al ac, .agg #[.int .u8 b_0, .string b_1]] w R :=
  X.calls_of { isLoc := [3], sym := [], loops := [(4, .inv [(5, .int .i64)] [] true)], joins := [] } Tryd.func4 (by kernel_rfl) h
abbrev fn_PartShown : Nat := 3
theorem x_PartShown (a_0 a_1 : Int) (a_2 a_3 : ByteArray) (a_4 b_0 b_1 : Int) (b_2 b_3 : ByteArray) (b_4 : Int) (w : World) (R : Ending → World → Prop) (h :
  ∀ w1 : World, ∀ L2 : List Nat, (X.Hid [] w w1) →
  (X.NewL (w).heap.size [] w w1 L2) →
  X.CallX Tryd.prog 6 #[(.agg #[(.int .u8 a_0), (.int .u8 a_1), (.string a_2), (.string a_3), (.int .i64 a_4)])] w1 fun e3 w4 =>
   ∃ n5 : Int, ∃ n6 : Int, ∃ s7 : ByteArray, ∃ s8 : ByteArray, ∃ n9 : Int, (e3 = .returned (.agg #[(.int .u8 n5), (.int .u8 n6), (.string s7), (.string s8), (.int .i64 n9)])) ∧
   (X.Kept L2 w1 w4) ∧
   ∀ w10 : World, ∀ L11 : List Nat, (X.Hid (L2) w4 w10) →
   (X.NewL (w).heap.size (L2) w4 w10 L11) →
   X.CallX Tryd.prog 6 #[(.agg #[(.int .u8 b_0), (.int .u8 b_1), (.string b_2), (.string b_3), (.int .i64 b_4)])] w10 fun e12 w13 =>
    ∃ n14 : Int, ∃ n15 : Int, ∃ s16 : ByteArray, ∃ s17 : ByteArray, ∃ n18 : Int, (e12 = .returned (.agg #[(.int .u8 n14), (.int .u8 n15), (.string s16), (.string s17), (.int .i64 n18)])) ∧
    (X.Kept L11 w10 w13) ∧
    ∀ w19 : World, ∀ L20 : List Nat, (X.Hid (L11) w13 w19) →
    (X.NewL (w).heap.size (L11) w13 w19 L20) →
    X.CallX Tryd.prog 7 #[(.agg #[(.int .u8 n5), (.int .u8 n6), (.string s7), (.string s8), (.int .i64 n9)])] w19 fun e21 w22 =>
     ∃ b23 : Bool, (e21 = .returned (.bool b23)) ∧
     (X.Kept L20 w19 w22) ∧
     if ((!b23) == false) = true then
      X.CallX Tryd.prog 7 #[(.agg #[(.int .u8 n14), (.int .u8 n15), (.string s16), (.string s17), (.int .i64 n18)])] w22 fun e27 w28 =>
       ∃ b29 : Bool, (e27 = .returned (.bool b29)) ∧
       (X.Kept L20 w22 w28) ∧
       if ((false || (!b29)) == false) = true then
        (((((a_2.size) + (a_3.size)) : Nat) : Int) ≤ 9223372036854775807) ∧
        X.CallX Tryd.prog 8 #[(.string (a_2 ++ a_3))] w28 fun e33 w34 =>
         ∃ b35 : Bool, (e33 = .returned (.bool b35)) ∧
         (X.Kept L20 w28 w34) ∧
         if ((false || (!b35)) == false) = true then
          (((((b_2.size) + (b_3.size)) : Nat) : Int) ≤ 9223372036854775807) ∧
          X.CallX Tryd.prog 8 #[(.string (b_2 ++ b_3))] w34 fun e39 w40 =>
           ∃ b41 : Bool, (e39 = .returned (.bool b41)) ∧
           (X.Kept L20 w34 w40) ∧
           if ((false || (!b41)) == false) = true then
            X.CallX Tryd.prog 9 #[] w40 fun e45 w46 =>
             ∃ b47 : Bool, (e45 = .returned (.bool b47)) ∧
             (X.Kept L20 w40 w46) ∧
             if (false || (!b47)) = true then
              X.CallX Tryd.prog 9 #[] w46 fun e57 w58 =>
               ∃ b59 : Bool, (e57 = .returned (.bool b59)) ∧
               (X.Kept L20 w46 w58) ∧
               R (.returned (.bool b59)) w58
             else
              ∃ x48 : X.Facts, (X.FactsW x48 w46 (L20)) ∧
              ∀ w49 : World, ∀ L50 : List Nat, (X.Hid (L20) w46 w49) →
              (X.NewL (w).heap.size (L20) w46 w49 L50) →
              X.CallX Tryd.prog 10 #[(.agg #[(.int .u8 n5), (.int .u8 n6), (.string s7), (.string s8), (.int .i64 n9)])] w49 fun e51 w52 =>
               ∃ s53 : ByteArray, (e51 = .returned (.string s53)) ∧
               (X.Kept L50 w49 w52) ∧
               (X.FactsW x48 w52 (L50)) ∧
               X.CallX Tryd.prog 10 #[(.agg #[(.int .u8 n14), (.int .u8 n15), (.string s16), (.string s17), (.int .i64 n18)])] w52 fun e54 w55 =>
                ∃ s56 : ByteArray, (e54 = .returned (.string s56)) ∧
                (X.Kept L50 w52 w55) ∧
                (X.FactsW x48 w55 (L50)) ∧
                R (.returned (.bool (((s53.toList) == (s56.toList)) == ((n5 == n14) && ((n6 == n15) && ((s7 == s16) && ((s8 == s17) && (n9 == n18)))))))) w55
           else
            X.CallX Tryd.prog 9 #[] w40 fun e42 w43 =>
             ∃ b44 : Bool, (e42 = .returned (.bool b44)) ∧
             (X.Kept L20 w40 w43) ∧
             R (.returned (.bool b44)) w43
         else
          X.CallX Tryd.prog 9 #[] w34 fun e36 w37 =>
           ∃ b38 : Bool, (e36 = .returned (.bool b38)) ∧
           (X.Kept L20 w34 w37) ∧
           R (.returned (.bool b38)) w37
       else
        X.CallX Tryd.prog 9 #[] w28 fun e30 w31 =>
         ∃ b32 : Bool, (e30 = .returned (.bool b32)) ∧
         (X.Kept L20 w28 w31) ∧
         R (.returned (.bool b32)) w31
     else
      X.CallX Tryd.prog 9 #[] w22 fun e24 w25 =>
       ∃ b26 : Bool, (e24 = .returned (.bool b26)) ∧
       (X.Kept L20 w22 w25) ∧
       R (.returned (.bool b26)) w25) :
    Calls Tryd.prog 3 #[.agg #[.int .u8 a_0, .int .u8 a_1, .string a_2, .string a_3, .int .i64 a_4], .agg #[.int .u8 b_0, .int .u8 b_1, .string b_2, .string b_3, .int .i64 b_4]] w R :=
  X.calls_of { isLoc := [2, 3, 5, 6], sym := [], loops := [], joins := [] } Tryd.func3 (by kernel_rfl) h
end Go.Proofs
