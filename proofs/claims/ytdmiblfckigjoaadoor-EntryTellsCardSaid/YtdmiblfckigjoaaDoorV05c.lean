import Derived.Test.YtdmiblfckigjoaaDoorXFn
import Derived.Test.YtdmiblfckigjoaaDoorProg
/- The verification conditions of this seat's functions, as the engine has them: printed by a program of the bench; checked by the kernel. -/
set_option maxRecDepth 100000
set_option linter.unusedVariables false
namespace Go.Proofs
open Go
abbrev fn_Show : Nat := 50
theorem x_Show (a_0 a_1 : Int) (a_2 a_3 : ByteArray) (a_4 : Int) (w : World) (R : Ending → World → Prop) (h :
  ∀ w1 : World, ∀ L2 : List Nat, (X.Hid [] w w1) →
  (X.NewL (w).heap.size [] w w1 L2) →
  X.CallX Tryd.prog 60 #[(.int .i64 (IntKind.wrap .i64 a_0))] w1 fun e3 w4 =>
   ∃ s5 : ByteArray, (e3 = .returned (.string s5)) ∧
   (X.Kept L2 w1 w4) ∧
   (((((s5.size) + 1) : Nat) : Int) ≤ 9223372036854775807) ∧
   X.CallX Tryd.prog 61 #[(.int .i64 a_4), (.int .i64 10)] w4 fun e6 w7 =>
    ∃ s8 : ByteArray, (e6 = .returned (.string s8)) ∧
    (X.Kept L2 w4 w7) ∧
    if (a_1 == 0) = true then
     ((((((s5 ++ ByteArray.mk #[OfNat.ofNat 58]).size) + 5) : Nat) : Int) ≤ 9223372036854775807) ∧
     ((((((s5 ++ ByteArray.mk #[OfNat.ofNat 58] ++ ByteArray.mk #[OfNat.ofNat 82, OfNat.ofNat 101, OfNat.ofNat 97, OfNat.ofNat 100, OfNat.ofNat 40]).size) + (a_2.size)) : Nat) : Int) ≤ 9223372036854775807) ∧
     ((((((s5 ++ ByteArray.mk #[OfNat.ofNat 58] ++ ByteArray.mk #[OfNat.ofNat 82, OfNat.ofNat 101, OfNat.ofNat 97, OfNat.ofNat 100, OfNat.ofNat 40] ++ a_2).size) + 1) : Nat) : Int) ≤ 9223372036854775807) ∧
     R (.returned (.string (s5 ++ ByteArray.mk #[OfNat.ofNat 58] ++ ByteArray.mk #[OfNat.ofNat 82, OfNat.ofNat 101, OfNat.ofNat 97, OfNat.ofNat 100, OfNat.ofNat 40] ++ a_2 ++ ByteArray.mk #[OfNat.ofNat 41]))) w7
    else
     if (a_1 == 1) = true then
      ((((((s5 ++ ByteArray.mk #[OfNat.ofNat 58]).size) + 6) : Nat) : Int) ≤ 9223372036854775807) ∧
      ((((((s5 ++ ByteArray.mk #[OfNat.ofNat 58] ++ ByteArray.mk #[OfNat.ofNat 87, OfNat.ofNat 114, OfNat.ofNat 105, OfNat.ofNat 116, OfNat.ofNat 101, OfNat.ofNat 40]).size) + (a_2.size)) : Nat) : Int) ≤ 9223372036854775807) ∧
      ((((((s5 ++ ByteArray.mk #[OfNat.ofNat 58] ++ ByteArray.mk #[OfNat.ofNat 87, OfNat.ofNat 114, OfNat.ofNat 105, OfNat.ofNat 116, OfNat.ofNat 101, OfNat.ofNat 40] ++ a_2).size) + 1) : Nat) : Int) ≤ 9223372036854775807) ∧
      ((((((s5 ++ ByteArray.mk #[OfNat.ofNat 58] ++ ByteArray.mk #[OfNat.ofNat 87, OfNat.ofNat 114, OfNat.ofNat 105, OfNat.ofNat 116, OfNat.ofNat 101, OfNat.ofNat 40] ++ a_2 ++ ByteArray.mk #[OfNat.ofNat 61]).size) + (a_3.size)) : Nat) : Int) ≤ 9223372036854775807) ∧
      ((((((s5 ++ ByteArray.mk #[OfNat.ofNat 58] ++ ByteArray.mk #[OfNat.ofNat 87, OfNat.ofNat 114, OfNat.ofNat 105, OfNat.ofNat 116, OfNat.ofNat 101, OfNat.ofNat 40] ++ a_2 ++ ByteArray.mk #[OfNat.ofNat 61] ++ a_3).size) + 1) : Nat) : Int) ≤ 9223372036854775807) ∧
      R (.returned (.string (s5 ++ ByteArray.mk #[OfNat.ofNat 58] ++ ByteArray.mk #[OfNat.ofNat 87, OfNat.ofNat 114, OfNat.ofNat 105, OfNat.ofNat 116, OfNat.ofNat 101, OfNat.ofNat 40] ++ a_2 ++ ByteArray.mk #[OfNat.ofNat 61] ++ a_3 ++ ByteArray.mk #[OfNat.ofNat 41]))) w7
     else
      if (a_1 == 2) = true then
       ((((((s5 ++ ByteArray.mk #[OfNat.ofNat 58]).size) + 4) : Nat) : Int) ≤ 9223372036854775807) ∧
       ((((((s5 ++ ByteArray.mk #[OfNat.ofNat 58] ++ ByteArray.mk #[OfNat.ofNat 65, OfNat.ofNat 100, OfNat.ofNat 100, OfNat.ofNat 40]).size) + (a_2.size)) : Nat) : Int) ≤ 9223372036854775807) ∧
       ((((((s5 ++ ByteArray.mk #[OfNat.ofNat 58] ++ ByteArray.mk #[OfNat.ofNat 65, OfNat.ofNat 100, OfNat.ofNat 100, OfNat.ofNat 40] ++ a_2).size) + 1) : Nat) : Int) ≤ 9223372036854775807) ∧
       ((((((s5 ++ ByteArray.mk #[OfNat.ofNat 58] ++ ByteArray.mk #[OfNat.ofNat 65, OfNat.ofNat 100, OfNat.ofNat 100, OfNat.ofNat 40] ++ a_2 ++ ByteArray.mk #[OfNat.ofNat 43]).size) + (s8.size)) : Nat) : Int) ≤ 9223372036854775807) ∧
       ((((((s5 ++ ByteArray.mk #[OfNat.ofNat 58] ++ ByteArray.mk #[OfNat.ofNat 65, OfNat.ofNat 100, OfNat.ofNat 100, OfNat.ofNat 40] ++ a_2 ++ ByteArray.mk #[OfNat.ofNat 43] ++ s8).size) + 1) : Nat) : Int) ≤ 9223372036854775807) ∧
       R (.returned (.string (s5 ++ ByteArray.mk #[OfNat.ofNat 58] ++ ByteArray.mk #[OfNat.ofNat 65, OfNat.ofNat 100, OfNat.ofNat 100, OfNat.ofNat 40] ++ a_2 ++ ByteArray.mk #[OfNat.ofNat 43] ++ s8 ++ ByteArray.mk #[OfNat.ofNat 41]))) w7
      else
       if (a_1 == 3) = true then
        ((((((s5 ++ ByteArray.mk #[OfNat.ofNat 58]).size) + 5) : Nat) : Int) ≤ 9223372036854775807) ∧
        ((((((s5 ++ ByteArray.mk #[OfNat.ofNat 58] ++ ByteArray.mk #[OfNat.ofNat 84, OfNat.ofNat 97, OfNat.ofNat 107, OfNat.ofNat 101, OfNat.ofNat 40]).size) + (a_2.size)) : Nat) : Int) ≤ 9223372036854775807) ∧
        ((((((s5 ++ ByteArray.mk #[OfNat.ofNat 58] ++ ByteArray.mk #[OfNat.ofNat 84, OfNat.ofNat 97, OfNat.ofNat 107, OfNat.ofNat 101, OfNat.ofNat 40] ++ a_2).size) + 1) : Nat) : Int) ≤ 9223372036854775807) ∧
        ((((((s5 ++ ByteArray.mk #[OfNat.ofNat 58] ++ ByteArray.mk #[OfNat.ofNat 84, OfNat.ofNat 97, OfNat.ofNat 107, OfNat.ofNat 101, OfNat.ofNat 40] ++ a_2 ++ ByteArray.mk #[OfNat.ofNat 45]).size) + (s8.size)) : Nat) : Int) ≤ 9223372036854775807) ∧
        ((((((s5 ++ ByteArray.mk #[OfNat.ofNat 58] ++ ByteArray.mk #[OfNat.ofNat 84, OfNat.ofNat 97, OfNat.ofNat 107, OfNat.ofNat 101, OfNat.ofNat 40] ++ a_2 ++ ByteArray.mk #[OfNat.ofNat 45] ++ s8).size) + 1) : Nat) : Int) ≤ 9223372036854775807) ∧
        R (.returned (.string (s5 ++ ByteArray.mk #[OfNat.ofNat 58] ++ ByteArray.mk #[OfNat.ofNat 84, OfNat.ofNat 97, OfNat.ofNat 107, OfNat.ofNat 101, OfNat.ofNat 40] ++ a_2 ++ ByteArray.mk #[OfNat.ofNat 45] ++ s8 ++ ByteArray.mk #[OfNat.ofNat 41]))) w7
       else
        if (a_1 == 4) = true then
         ((((((s5 ++ ByteArray.mk #[OfNat.ofNat 58]).size) + 6) : Nat) : Int) ≤ 9223372036854775807) ∧
         ((((((s5 ++ ByteArray.mk #[OfNat.ofNat 58] ++ ByteArray.mk #[OfNat.ofNat 69, OfNat.ofNat 114, OfNat.ofNat 97, OfNat.ofNat 115, OfNat.ofNat 101, OfNat.ofNat 40]).size) + (a_2.size)) : Nat) : Int) ≤ 9223372036854775807) ∧
         ((((((s5 ++ ByteArray.mk #[OfNat.ofNat 58] ++ ByteArray.mk #[OfNat.ofNat 69, OfNat.ofNat 114, OfNat.ofNat 97, OfNat.ofNat 115, OfNat.ofNat 101, OfNat.ofNat 40] ++ a_2).size) + 1) : Nat) : Int) ≤ 9223372036854775807) ∧
         R (.returned (.string (s5 ++ ByteArray.mk #[OfNat.ofNat 58] ++ ByteArray.mk #[OfNat.ofNat 69, OfNat.ofNat 114, OfNat.ofNat 97, OfNat.ofNat 115, OfNat.ofNat 101, OfNat.ofNat 40] ++ a_2 ++ ByteArray.mk #[OfNat.ofNat 41]))) w7
        else
         ((((((s5 ++ ByteArray.mk #[OfNat.ofNat 58]).size) + 1) : Nat) : Int) ≤ 9223372036854775807) ∧
         R (.returned (.string (s5 ++ ByteArray.mk #[OfNat.ofNat 58] ++ ByteArray.mk #[OfNat.ofNat 63]))) w7) :
    Calls Tryd.prog 50 #[.agg #[.int .u8 a_0, .int .u8 a_1, .string a_2, .string a_3, .int .i64 a_4]] w R :=
  X.calls_of { isLoc := [1], sym := [], loops := [], joins := [] } Tryd.func50 (by kernel_rfl) h
abbrev fn_rShow : Nat := 52
theorem x_rShow (a_0 a_1 : Int) (a_2 a_3 : ByteArray) (a_4 : Int) (w : World) (R : Ending → World → Prop) (h :
  ∀ w1 : World, ∀ L2 : List Nat, (X.Hid [] w w1) →
  (X.NewL (w).heap.size [] w w1 L2) →
  X.CallX Tryd.prog 53 #[(.int .i64 (IntKind.wrap .i64 a_0))] w1 fun e3 w4 =>
   ∃ s5 : ByteArray, (e3 = .returned (.string s5)) ∧
   (X.Kept L2 w1 w4) ∧
   (((((s5.size) + 1) : Nat) : Int) ≤ 9223372036854775807) ∧
   if (a_1 == 0) = true then
    ((((((s5 ++ ByteArray.mk #[OfNat.ofNat 58]).size) + 5) : Nat) : Int) ≤ 9223372036854775807) ∧
    ((((((s5 ++ ByteArray.mk #[OfNat.ofNat 58] ++ ByteArray.mk #[OfNat.ofNat 82, OfNat.ofNat 101, OfNat.ofNat 97, OfNat.ofNat 100, OfNat.ofNat 40]).size) + (a_2.size)) : Nat) : Int) ≤ 9223372036854775807) ∧
    ((((((s5 ++ ByteArray.mk #[OfNat.ofNat 58] ++ ByteArray.mk #[OfNat.ofNat 82, OfNat.ofNat 101, OfNat.ofNat 97, OfNat.ofNat 100, OfNat.ofNat 40] ++ a_2).size) + 1) : Nat) : Int) ≤ 9223372036854775807) ∧
    R (.returned (.string (s5 ++ ByteArray.mk #[OfNat.ofNat 58] ++ ByteArray.mk #[OfNat.ofNat 82, OfNat.ofNat 101, OfNat.ofNat 97, OfNat.ofNat 100, OfNat.ofNat 40] ++ a_2 ++ ByteArray.mk #[OfNat.ofNat 41]))) w4
   else
    if (a_1 == 1) = true then
     ((((((s5 ++ ByteArray.mk #[OfNat.ofNat 58]).size) + 6) : Nat) : Int) ≤ 9223372036854775807) ∧
     ((((((s5 ++ ByteArray.mk #[OfNat.ofNat 58] ++ ByteArray.mk #[OfNat.ofNat 87, OfNat.ofNat 114, OfNat.ofNat 105, OfNat.ofNat 116, OfNat.ofNat 101, OfNat.ofNat 40]).size) + (a_2.size)) : Nat) : Int) ≤ 9223372036854775807) ∧
     ((((((s5 ++ ByteArray.mk #[OfNat.ofNat 58] ++ ByteArray.mk #[OfNat.ofNat 87, OfNat.ofNat 114, OfNat.ofNat 105, OfNat.ofNat 116, OfNat.ofNat 101, OfNat.ofNat 40] ++ a_2).size) + 1) : Nat) : Int) ≤ 9223372036854775807) ∧
     ((((((s5 ++ ByteArray.mk #[OfNat.ofNat 58] ++ ByteArray.mk #[OfNat.ofNat 87, OfNat.ofNat 114, OfNat.ofNat 105, OfNat.ofNat 116, OfNat.ofNat 101, OfNat.ofNat 40] ++ a_2 ++ ByteArray.mk #[OfNat.ofNat 61]).size) + (a_3.size)) : Nat) : Int) ≤ 9223372036854775807) ∧
     ((((((s5 ++ ByteArray.mk #[OfNat.ofNat 58] ++ ByteArray.mk #[OfNat.ofNat 87, OfNat.ofNat 114, OfNat.ofNat 105, OfNat.ofNat 116, OfNat.ofNat 101, OfNat.ofNat 40] ++ a_2 ++ ByteArray.mk #[OfNat.ofNat 61] ++ a_3).size) + 1) : Nat) : Int) ≤ 9223372036854775807) ∧
     R (.returned (.string (s5 ++ ByteArray.mk #[OfNat.ofNat 58] ++ ByteArray.mk #[OfNat.ofNat 87, OfNat.ofNat 114, OfNat.ofNat 105, OfNat.ofNat 116, OfNat.ofNat 101, OfNat.ofNat 40] ++ a_2 ++ ByteArray.mk #[OfNat.ofNat 61] ++ a_3 ++ ByteArray.mk #[OfNat.ofNat 41]))) w4
    else
     if (a_1 == 2) = true then
      ∃ x12 : X.Facts, (X.FactsW x12 w4 (L2)) ∧
      ((((((s5 ++ ByteArray.mk #[OfNat.ofNat 58]).size) + 4) : Nat) : Int) ≤ 9223372036854775807) ∧
      ((((((s5 ++ ByteArray.mk #[OfNat.ofNat 58] ++ ByteArray.mk #[OfNat.ofNat 65, OfNat.ofNat 100, OfNat.ofNat 100, OfNat.ofNat 40]).size) + (a_2.size)) : Nat) : Int) ≤ 9223372036854775807) ∧
      ((((((s5 ++ ByteArray.mk #[OfNat.ofNat 58] ++ ByteArray.mk #[OfNat.ofNat 65, OfNat.ofNat 100, OfNat.ofNat 100, OfNat.ofNat 40] ++ a_2).size) + 1) : Nat) : Int) ≤ 9223372036854775807) ∧
      ∀ w13 : World, ∀ L14 : List Nat, (X.Hid (L2) w4 w13) →
      (X.NewL (w).heap.size (L2) w4 w13 L14) →
      X.CallX Tryd.prog 53 #[(.int .i64 a_4)] w13 fun e15 w16 =>
       ∃ s17 : ByteArray, (e15 = .returned (.string s17)) ∧
       (X.Kept L14 w13 w16) ∧
       (X.FactsW x12 w16 (L14)) ∧
       ((((((s5 ++ ByteArray.mk #[OfNat.ofNat 58] ++ ByteArray.mk #[OfNat.ofNat 65, OfNat.ofNat 100, OfNat.ofNat 100, OfNat.ofNat 40] ++ a_2 ++ ByteArray.mk #[OfNat.ofNat 43]).size) + (s17.size)) : Nat) : Int) ≤ 9223372036854775807) ∧
       ((((((s5 ++ ByteArray.mk #[OfNat.ofNat 58] ++ ByteArray.mk #[OfNat.ofNat 65, OfNat.ofNat 100, OfNat.ofNat 100, OfNat.ofNat 40] ++ a_2 ++ ByteArray.mk #[OfNat.ofNat 43] ++ s17).size) + 1) : Nat) : Int) ≤ 9223372036854775807) ∧
       R (.returned (.string (s5 ++ ByteArray.mk #[OfNat.ofNat 58] ++ ByteArray.mk #[OfNat.ofNat 65, OfNat.ofNat 100, OfNat.ofNat 100, OfNat.ofNat 40] ++ a_2 ++ ByteArray.mk #[OfNat.ofNat 43] ++ s17 ++ ByteArray.mk #[OfNat.ofNat 41]))) w16
     else
      if (a_1 == 3) = true then
       ∃ x6 : X.Facts, (X.FactsW x6 w4 (L2)) ∧
       ((((((s5 ++ ByteArray.mk #[OfNat.ofNat 58]).size) + 5) : Nat) : Int) ≤ 9223372036854775807) ∧
       ((((((s5 ++ ByteArray.mk #[OfNat.ofNat 58] ++ ByteArray.mk #[OfNat.ofNat 84, OfNat.ofNat 97, OfNat.ofNat 107, OfNat.ofNat 101, OfNat.ofNat 40]).size) + (a_2.size)) : Nat) : Int) ≤ 9223372036854775807) ∧
       ((((((s5 ++ ByteArray.mk #[OfNat.ofNat 58] ++ ByteArray.mk #[OfNat.ofNat 84, OfNat.ofNat 97, OfNat.ofNat 107, OfNat.ofNat 101, OfNat.ofNat 40] ++ a_2).size) + 1) : Nat) : Int) ≤ 9223372036854775807) ∧
       ∀ w7 : World, ∀ L8 : List Nat, (X.Hid (L2) w4 w7) →
       (X.NewL (w).heap.size (L2) w4 w7 L8) →
       X.CallX Tryd.prog 53 #[(.int .i64 a_4)] w7 fun e9 w10 =>
        ∃ s11 : ByteArray, (e9 = .returned (.string s11)) ∧
        (X.Kept L8 w7 w10) ∧
        (X.FactsW x6 w10 (L8)) ∧
        ((((((s5 ++ ByteArray.mk #[OfNat.ofNat 58] ++ ByteArray.mk #[OfNat.ofNat 84, OfNat.ofNat 97, OfNat.ofNat 107, OfNat.ofNat 101, OfNat.ofNat 40] ++ a_2 ++ ByteArray.mk #[OfNat.ofNat 45]).size) + (s11.size)) : Nat) : Int) ≤ 9223372036854775807) ∧
        ((((((s5 ++ ByteArray.mk #[OfNat.ofNat 58] ++ ByteArray.mk #[OfNat.ofNat 84, OfNat.ofNat 97, OfNat.ofNat 107, OfNat.ofNat 101, OfNat.ofNat 40] ++ a_2 ++ ByteArray.mk #[OfNat.ofNat 45] ++ s11).size) + 1) : Nat) : Int) ≤ 9223372036854775807) ∧
        R (.returned (.string (s5 ++ ByteArray.mk #[OfNat.ofNat 58] ++ ByteArray.mk #[OfNat.ofNat 84, OfNat.ofNat 97, OfNat.ofNat 107, OfNat.ofNat 101, OfNat.ofNat 40] ++ a_2 ++ ByteArray.mk #[OfNat.ofNat 45] ++ s11 ++ ByteArray.mk #[OfNat.ofNat 41]))) w10
      else
       if (a_1 == 4) = true then
        ((((((s5 ++ ByteArray.mk #[OfNat.ofNat 58]).size) + 6) : Nat) : Int) ≤ 9223372036854775807) ∧
        ((((((s5 ++ ByteArray.mk #[OfNat.ofNat 58] ++ ByteArray.mk #[OfNat.ofNat 69, OfNat.ofNat 114, OfNat.ofNat 97, OfNat.ofNat 115, OfNat.ofNat 101, OfNat.ofNat 40]).size) + (a_2.size)) : Nat) : Int) ≤ 9223372036854775807) ∧
        ((((((s5 ++ ByteArray.mk #[OfNat.ofNat 58] ++ ByteArray.mk #[OfNat.ofNat 69, OfNat.ofNat 114, OfNat.ofNat 97, OfNat.ofNat 115, OfNat.ofNat 101, OfNat.ofNat 40] ++ a_2).size) + 1) : Nat) : Int) ≤ 9223372036854775807) ∧
        R (.returned (.string (s5 ++ ByteArray.mk #[OfNat.ofNat 58] ++ ByteArray.mk #[OfNat.ofNat 69, OfNat.ofNat 114, OfNat.ofNat 97, OfNat.ofNat 115, OfNat.ofNat 101, OfNat.ofNat 40] ++ a_2 ++ ByteArray.mk #[OfNat.ofNat 41]))) w4
       else
        ((((((s5 ++ ByteArray.mk #[OfNat.ofNat 58]).size) + 1) : Nat) : Int) ≤ 9223372036854775807) ∧
        R (.returned (.string (s5 ++ ByteArray.mk #[OfNat.ofNat 58] ++ ByteArray.mk #[OfNat.ofNat 63]))) w4) :
    Calls Tryd.prog 52 #[.agg #[.int .u8 a_0, .int .u8 a_1, .string a_2, .string a_3, .int .i64 a_4]] w R :=
  X.calls_of { isLoc := [1], sym := [], loops := [], joins := [] } Tryd.func52 (by kernel_rfl) h
abbrev fn_Digits : Nat := 53
theorem x_Digits (a : Int) (w : World) (R : Ending → World → Prop) (h :
  if (decide (a < 0)) = true then
   if (decide (a < (-9))) = true then
    X.CallX Tryd.prog 53 #[(.int .i64 (IntKind.wrap .i64 (0 - (IntKind.wrap .i64 (a.tdiv 10)))))] w fun e12 w13 =>
     ∃ s14 : ByteArray, (e12 = .returned (.string s14)) ∧
     ((w).heap.size ≤ (w13).heap.size) ∧
     ((((1 + (s14.size)) : Nat) : Int) ≤ 9223372036854775807) ∧
     X.CallX Tryd.prog 53 #[(.int .i64 (IntKind.wrap .i64 (0 - (a.tmod 10))))] w13 fun e15 w16 =>
      ∃ s17 : ByteArray, (e15 = .returned (.string s17)) ∧
      ((w13).heap.size ≤ (w16).heap.size) ∧
      ((((((ByteArray.mk #[OfNat.ofNat 45] ++ s14).size) + (s17.size)) : Nat) : Int) ≤ 9223372036854775807) ∧
      R (.returned (.string (ByteArray.mk #[OfNat.ofNat 45] ++ s14 ++ s17))) w16
   else
    X.CallX Tryd.prog 53 #[(.int .i64 (IntKind.wrap .i64 (0 - a)))] w fun e9 w10 =>
     ∃ s11 : ByteArray, (e9 = .returned (.string s11)) ∧
     ((w).heap.size ≤ (w10).heap.size) ∧
     ((((1 + (s11.size)) : Nat) : Int) ≤ 9223372036854775807) ∧
     R (.returned (.string (ByteArray.mk #[OfNat.ofNat 45] ++ s11))) w10
  else
   if (decide (a < 10)) = true then
    ∃ s7 : ByteArray, ∃ w8 : World, (Sem.run Tryd.prog (Go.convert 103 9 (.slice (some ⟨(w).heap.size, 0, none⟩) 1 1)) (w.alloc (.cells #[(.int .u8 (IntKind.wrap .u8 (IntKind.wrap .i64 (48 + a))))] 5)) = .ok (.string s7) w8) ∧
    (((w.alloc (.cells #[(.int .u8 (IntKind.wrap .u8 (IntKind.wrap .i64 (48 + a))))] 5))).heap.size ≤ (w8).heap.size) ∧
    R (.returned (.string s7)) w8
   else
    X.CallX Tryd.prog 53 #[(.int .i64 (IntKind.wrap .i64 (a.tdiv 10)))] w fun e1 w2 =>
     ∃ s3 : ByteArray, (e1 = .returned (.string s3)) ∧
     ((w).heap.size ≤ (w2).heap.size) ∧
     X.CallX Tryd.prog 53 #[(.int .i64 (a.tmod 10))] w2 fun e4 w5 =>
      ∃ s6 : ByteArray, (e4 = .returned (.string s6)) ∧
      ((w2).heap.size ≤ (w5).heap.size) ∧
      (((((s3.size) + (s6.size)) : Nat) : Int) ≤ 9223372036854775807) ∧
      R (.returned (.string (s3 ++ s6))) w5) :
    Calls Tryd.prog 53 #[.int .i64 a] w R :=
  X.calls_of { isLoc := [], sym := [], loops := [], joins := [] } Tryd.func53 (by kernel_rfl) h
abbrev fn_pair : Nat := 48
theorem x_pair (a b : Int) (w : World) (R : Ending → World → Prop) (h :
  X.CallX Tryd.prog 60 #[(.int .i64 a)] w fun e1 w2 =>
   ∃ s3 : ByteArray, (e1 = .returned (.string s3)) ∧
   ((w).heap.size ≤ (w2).heap.size) ∧
   (((((s3.size) + 1) : Nat) : Int) ≤ 9223372036854775807) ∧
   X.CallX Tryd.prog 60 #[(.int .i64 b)] w2 fun e4 w5 =>
    ∃ s6 : ByteArray, (e4 = .returned (.string s6)) ∧
    ((w2).heap.size ≤ (w5).heap.size) ∧
    ((((((s3 ++ ByteArray.mk #[OfNat.ofNat 46]).size) + (s6.size)) : Nat) : Int) ≤ 9223372036854775807) ∧
    R (.returned (.string (s3 ++ ByteArray.mk #[OfNat.ofNat 46] ++ s6))) w5) :
    Calls Tryd.prog 48 #[.int .i64 a, .int .i64 b] w R :=
  X.calls_of { isLoc := [], sym := [], loops := [], joins := [] } Tryd.func48 (by kernel_rfl) h
abbrev fn_ename : Nat := 49
theorem x_ename (a_0 a_1 a_2 a_3 a_4 a_5 a_6 a_7 a_8 a_9 : Int) (w : World) (R : Ending → World → Prop) (h :
  ∃ x1 : X.Facts, (X.FactsW x1 (w.alloc (.cells #[(.int .u8 a_0), (.int .u16 a_1), (.int .u32 a_2), (.int .u8 a_3), (.int .u8 a_4), (.int .u8 a_5), (.int .u8 a_6), (.int .u8 a_7), (.int .u8 a_8), (.int .u8 a_9)] 44)) []) ∧
  ∃ n2 : Int, ((⟨(w).heap.size, 0, none⟩, [(.int .u8 n2)]) ∈ x1) ∧
  ∃ n3 : Int, ((⟨(w).heap.size, (0 + 1), none⟩, [(.int .u16 n3)]) ∈ x1) ∧
  ∃ n4 : Int, ((⟨(w).heap.size, (0 + 2), none⟩, [(.int .u32 n4)]) ∈ x1) ∧
  ∀ w5 : World, (X.Hid [] (w.alloc (.cells #[(.int .u8 a_0), (.int .u16 a_1), (.int .u32 a_2), (.int .u8 a_3), (.int .u8 a_4), (.int .u8 a_5), (.int .u8 a_6), (.int .u8 a_7), (.int .u8 a_8), (.int .u8 a_9)] 44)) w5) →
  X.CallX Tryd.prog 48 #[(.int .i64 (IntKind.wrap .i64 n2)), (.int .i64 (IntKind.wrap .i64 n3))] w5 fun e6 w7 =>
   ∃ s8 : ByteArray, (e6 = .returned (.string s8)) ∧
   ((w5).heap.size ≤ (w7).heap.size) ∧
   (X.FactsW x1 w7 []) ∧
   (((((s8.size) + 1) : Nat) : Int) ≤ 9223372036854775807) ∧
   X.CallX Tryd.prog 60 #[(.int .i64 (IntKind.wrap .i64 n4))] w7 fun e9 w10 =>
    ∃ s11 : ByteArray, (e9 = .returned (.string s11)) ∧
    ((w7).heap.size ≤ (w10).heap.size) ∧
    (X.FactsW x1 w10 []) ∧
    ((((((s8 ++ ByteArray.mk #[OfNat.ofNat 47]).size) + (s11.size)) : Nat) : Int) ≤ 9223372036854775807) ∧
    ∃ n12 : Int, (World.cell? w10 ⟨(w).heap.size, (0 + 3), none⟩ = some (.int .u8 n12)) ∧
    ((0 : Int) ≤ (if (3 : Int) < (IntKind.wrap .i64 n12) then 3 else (IntKind.wrap .i64 n12))) ∧
    ((if (3 : Int) < (IntKind.wrap .i64 n12) then 3 else (IntKind.wrap .i64 n12)) ≤ 3) ∧
    ∃ x13 : ByteArray → Int → World → List Nat → Prop, ∃ x14 : ByteArray → Int → World → Nat, (x13 (s8 ++ ByteArray.mk #[OfNat.ofNat 47] ++ s11) 0 w10 []) ∧
    ∀ s15 : ByteArray, ∀ n16 : Int, ∀ w17 : World, ∀ L18 : List Nat, (X.LF (w).heap.size w17 L18) →
    (x13 s15 n16 w17 L18) →
    if (decide (n16 < ((((if (3 : Int) < (IntKind.wrap .i64 n12) then 3 else (IntKind.wrap .i64 n12))).toNat : Nat) : Int))) = true then
     ((0 : Int) ≤ n16) ∧
     (n16 < ((((if (3 : Int) < (IntKind.wrap .i64 n12) then 3 else (IntKind.wrap .i64 n12))).toNat : Nat) : Int)) ∧
     ∃ n19 : Int, ∃ n20 : Int, (X.Cells w17 ((⟨(w).heap.size, (0 + 4), none⟩ : Addr).add ((n16).toNat * 2)) [(.int .u8 n19), (.int .u8 n20)]) ∧
     ∀ w21 : World, ∀ L22 : List Nat, (X.Hid [] w17 w21) →
     (X.NewL (w).heap.size [] w17 w21 L22) →
     X.CallX Tryd.prog 48 #[(.int .i64 (IntKind.wrap .i64 n19)), (.int .i64 (IntKind.wrap .i64 n20))] w21 fun e23 w24 =>
      ∃ s25 : ByteArray, (e23 = .returned (.string s25)) ∧
      (X.Kept L22 w21 w24) ∧
      ((((1 + (s25.size)) : Nat) : Int) ≤ 9223372036854775807) ∧
      (((((s15.size) + ((ByteArray.mk #[OfNat.ofNat 47] ++ s25).size)) : Nat) : Int) ≤ 9223372036854775807) ∧
      (x13 (s15 ++ (ByteArray.mk #[OfNat.ofNat 47] ++ s25)) (IntKind.wrap .i64 (n16 + 1)) w24 (L22)) ∧
      Nat.le ((x14 (s15 ++ (ByteArray.mk #[OfNat.ofNat 47] ++ s25)) (IntKind.wrap .i64 (n16 + 1)) w24) + 1) (x14 s15 n16 w17)
    else
     R (.returned (.string s15)) w17) :
    Calls Tryd.prog 49 #[.agg #[.int .u8 a_0, .int .u16 a_1, .int .u32 a_2, .int .u8 a_3, .int .u8 a_4, .int .u8 a_5, .int .u8 a_6, .int .u8 a_7, .int .u8 a_8, .int .u8 a_9]] w R :=
  X.calls_of { isLoc := [5], sym := [], loops := [(3, .inv [(3, .str), (28, .int .i64)] [] true)], joins := [] } Tryd.func49 (by kernel_rfl) h
abbrev fn_eShow : Nat := 15
theorem x_eShow (a_0 a_1 a_2 a_3 a_4 a_5 a_6 a_7 a_8 a_9 a_10 a_11 : Int) (a_12 : Option Addr) (a_12l a_12c : Nat) (a_13 : Int) (a_14 : ByteArray) (a_15 : Option Addr) (a_15l a_15c : Nat) (a_16 a_17 : Int) (w : World) (R : Ending → World → Prop) (h :
  if (a_0 == 2) = true then
   ∀ w51 : World, ∀ L52 : List Nat, (X.Hid [] w w51) →
   (X.NewL (w).heap.size [] w w51 L52) →
   X.CallX Tryd.prog 48 #[(.int .i64 (IntKind.wrap .i64 a_16)), (.int .i64 (IntKind.wrap .i64 a_17))] w51 fun e53 w54 =>
    ∃ s55 : ByteArray, (e53 = .returned (.string s55)) ∧
    (X.Kept L52 w51 w54) ∧
    ((((5 + (s55.size)) : Nat) : Int) ≤ 9223372036854775807) ∧
    R (.returned (.string (ByteArray.mk #[OfNat.ofNat 75, OfNat.ofNat 105, OfNat.ofNat 108, OfNat.ofNat 108, OfNat.ofNat 32] ++ s55))) w54
  else
   if (a_0 == 1) = true then
    ∀ w46 : World, ∀ L47 : List Nat, (X.Hid [] w w46) →
    (X.NewL (w).heap.size [] w w46 L47) →
    X.CallX Tryd.prog 49 #[(.agg #[(.int .u8 a_1), (.int .u16 a_2), (.int .u32 a_3), (.int .u8 a_4), (.int .u8 a_5), (.int .u8 a_6), (.int .u8 a_7), (.int .u8 a_8), (.int .u8 a_9), (.int .u8 a_10)])] w46 fun e48 w49 =>
     ∃ s50 : ByteArray, (e48 = .returned (.string s50)) ∧
     (X.Kept L47 w46 w49) ∧
     ((((5 + (s50.size)) : Nat) : Int) ≤ 9223372036854775807) ∧
     R (.returned (.string (ByteArray.mk #[OfNat.ofNat 66, OfNat.ofNat 97, OfNat.ofNat 99, OfNat.ofNat 107, OfNat.ofNat 32] ++ s50))) w49
   else
    if (a_0 == 3) = true then
     ∀ w24 : World, ∀ L25 : List Nat, (X.Hid [] w w24) →
     (X.NewL (w).heap.size [] w w24 L25) →
     X.CallX Tryd.prog 49 #[(.agg #[(.int .u8 a_1), (.int .u16 a_2), (.int .u32 a_3), (.int .u8 a_4), (.int .u8 a_5), (.int .u8 a_6), (.int .u8 a_7), (.int .u8 a_8), (.int .u8 a_9), (.int .u8 a_10)])] w24 fun e26 w27 =>
      ∃ s28 : ByteArray, (e26 = .returned (.string s28)) ∧
      (X.Kept L25 w24 w27) ∧
      ((((6 + (s28.size)) : Nat) : Int) ≤ 9223372036854775807) ∧
      ∃ x29 : ByteArray → Int → World → List Nat → Prop, ∃ x30 : ByteArray → Int → World → Nat, (x29 (ByteArray.mk #[OfNat.ofNat 67, OfNat.ofNat 104, OfNat.ofNat 101, OfNat.ofNat 99, OfNat.ofNat 107, OfNat.ofNat 32] ++ s28) 0 w27 (L25)) ∧
      ∀ s31 : ByteArray, ∀ n32 : Int, ∀ w33 : World, ∀ L34 : List Nat, (X.LF (w).heap.size w33 L34) →
      (x29 s31 n32 w33 L34) →
      if (decide (n32 < ((a_12l : Nat) : Int))) = true then
       ((0 : Int) ≤ n32) ∧
       (n32 < ((a_12l : Nat) : Int)) ∧
       X.onSome (a_12) fun p35 =>
       ∃ n36 : Int, ∃ n37 : Int, ∃ s38 : ByteArray, ∃ s39 : ByteArray, ∃ n40 : Int, (X.Cells w33 (p35.add ((n32).toNat * 5)) [(.int .u8 n36), (.int .u8 n37), (.string s38), (.string s39), (.int .i64 n40)]) ∧
       (¬ (((p35.add (n32.toNat * 5)).block) ∈ L34)) ∧
       ∀ w41 : World, ∀ L42 : List Nat, (X.Hid (L34) w33 w41) →
       (X.NewL (w).heap.size (L34) w33 w41 L42) →
       X.CallX Tryd.prog 50 #[(.agg #[(.int .u8 n36), (.int .u8 n37), (.string s38), (.string s39), (.int .i64 n40)])] w41 fun e43 w44 =>
        ∃ s45 : ByteArray, (e43 = .returned (.string s45)) ∧
        (X.Kept L42 w41 w44) ∧
        ((((1 + (s45.size)) : Nat) : Int) ≤ 9223372036854775807) ∧
        (((((s31.size) + ((ByteArray.mk #[OfNat.ofNat 32] ++ s45).size)) : Nat) : Int) ≤ 9223372036854775807) ∧
        (([(.int .u8 a_0), (.int .u8 a_1), (.int .u16 a_2), (.int .u32 a_3), (.int .u8 a_4), (.int .u8 a_5), (.int .u8 a_6), (.int .u8 a_7), (.int .u8 a_8), (.int .u8 a_9), (.int .u8 a_10), (.int .u32 a_11), (.slice (a_12) a_12l a_12c), (.int .u8 a_13), (.string a_14), (.slice (a_15) a_15l a_15c), (.int .u8 a_16), (.int .u16 a_17)] : List Value) = [(.int .u8 a_0), (.int .u8 a_1), (.int .u16 a_2), (.int .u32 a_3), (.int .u8 a_4), (.int .u8 a_5), (.int .u8 a_6), (.int .u8 a_7), (.int .u8 a_8), (.int .u8 a_9), (.int .u8 a_10), (.int .u32 a_11), (.slice (a_12) a_12l a_12c), (.int .u8 a_13), (.string a_14), (.slice (a_15) a_15l a_15c), (.int .u8 a_16), (.int .u16 a_17)]) ∧
        (x29 (s31 ++ (ByteArray.mk #[OfNat.ofNat 32] ++ s45)) (IntKind.wrap .i64 (n32 + 1)) w44 (L42)) ∧
        Nat.le ((x30 (s31 ++ (ByteArray.mk #[OfNat.ofNat 32] ++ s45)) (IntKind.wrap .i64 (n32 + 1)) w44) + 1) (x30 s31 n32 w33)
      else
       R (.returned (.string s31)) w33
    else
     if (a_0 == 0) = true then
      ∀ w2 : World, ∀ L3 : List Nat, (X.Hid [] w w2) →
      (X.NewL (w).heap.size [] w w2 L3) →
      X.CallX Tryd.prog 49 #[(.agg #[(.int .u8 a_1), (.int .u16 a_2), (.int .u32 a_3), (.int .u8 a_4), (.int .u8 a_5), (.int .u8 a_6), (.int .u8 a_7), (.int .u8 a_8), (.int .u8 a_9), (.int .u8 a_10)])] w2 fun e4 w5 =>
       ∃ s6 : ByteArray, (e4 = .returned (.string s6)) ∧
       (X.Kept L3 w2 w5) ∧
       ((((5 + (s6.size)) : Nat) : Int) ≤ 9223372036854775807) ∧
       ∃ x7 : ByteArray → Int → World → List Nat → Prop, ∃ x8 : ByteArray → Int → World → Nat, (x7 (ByteArray.mk #[OfNat.ofNat 67, OfNat.ofNat 97, OfNat.ofNat 108, OfNat.ofNat 108, OfNat.ofNat 32] ++ s6) 0 w5 (L3)) ∧
       ∀ s9 : ByteArray, ∀ n10 : Int, ∀ w11 : World, ∀ L12 : List Nat, (X.LF (w).heap.size w11 L12) →
       (x7 s9 n10 w11 L12) →
       if (decide (n10 < ((a_12l : Nat) : Int))) = true then
        ((0 : Int) ≤ n10) ∧
        (n10 < ((a_12l : Nat) : Int)) ∧
        X.onSome (a_12) fun p13 =>
        ∃ n14 : Int, ∃ n15 : Int, ∃ s16 : ByteArray, ∃ s17 : ByteArray, ∃ n18 : Int, (X.Cells w11 (p13.add ((n10).toNat * 5)) [(.int .u8 n14), (.int .u8 n15), (.string s16), (.string s17), (.int .i64 n18)]) ∧
        (¬ (((p13.add (n10.toNat * 5)).block) ∈ L12)) ∧
        ∀ w19 : World, ∀ L20 : List Nat, (X.Hid (L12) w11 w19) →
        (X.NewL (w).heap.size (L12) w11 w19 L20) →
        X.CallX Tryd.prog 50 #[(.agg #[(.int .u8 n14), (.int .u8 n15), (.string s16), (.string s17), (.int .i64 n18)])] w19 fun e21 w22 =>
         ∃ s23 : ByteArray, (e21 = .returned (.string s23)) ∧
         (X.Kept L20 w19 w22) ∧
         ((((1 + (s23.size)) : Nat) : Int) ≤ 9223372036854775807) ∧
         (((((s9.size) + ((ByteArray.mk #[OfNat.ofNat 32] ++ s23).size)) : Nat) : Int) ≤ 9223372036854775807) ∧
         (([(.int .u8 a_0), (.int .u8 a_1), (.int .u16 a_2), (.int .u32 a_3), (.int .u8 a_4), (.int .u8 a_5), (.int .u8 a_6), (.int .u8 a_7), (.int .u8 a_8), (.int .u8 a_9), (.int .u8 a_10), (.int .u32 a_11), (.slice (a_12) a_12l a_12c), (.int .u8 a_13), (.string a_14), (.slice (a_15) a_15l a_15c), (.int .u8 a_16), (.int .u16 a_17)] : List Value) = [(.int .u8 a_0), (.int .u8 a_1), (.int .u16 a_2), (.int .u32 a_3), (.int .u8 a_4), (.int .u8 a_5), (.int .u8 a_6), (.int .u8 a_7), (.int .u8 a_8), (.int .u8 a_9), (.int .u8 a_10), (.int .u32 a_11), (.slice (a_12) a_12l a_12c), (.int .u8 a_13), (.string a_14), (.slice (a_15) a_15l a_15c), (.int .u8 a_16), (.int .u16 a_17)]) ∧
         (x7 (s9 ++ (ByteArray.mk #[OfNat.ofNat 32] ++ s23)) (IntKind.wrap .i64 (n10 + 1)) w22 (L20)) ∧
         Nat.le ((x8 (s9 ++ (ByteArray.mk #[OfNat.ofNat 32] ++ s23)) (IntKind.wrap .i64 (n10 + 1)) w22) + 1) (x8 s9 n10 w11)
       else
        R (.returned (.string s9)) w11
     else
      ∀ w1 : World, (X.Hid [] w w1) →
      R (.returned (.string (ByteArray.mk #[]))) w1) :
    Calls Tryd.prog 15 #[.agg #[.int .u8 a_0, .int .u8 a_1, .int .u16 a_2, .int .u32 a_3, .int .u8 a_4, .int .u8 a_5, .int .u8 a_6, .int .u8 a_7, .int .u8 a_8, .int .u8 a_9, .int .u8 a_10, .int .u32 a_11, .slice a_12 a_12l a_12c, .int .u8 a_13, .string a_14, .slice a_15 a_15l a_15c, .int .u8 a_16, .int .u16 a_17]] w R :=
  X.calls_of { isLoc := [1, 6], sym := [], loops := [(12, .inv [(4, .str), (39, .int .i64)] [] true)], joins := [] } Tryd.func15 (by kernel_rfl) h
abbrev fn_ShowID : Nat := 51
theorem x_ShowID (a_0 a_1 a_2 a_3 a_4 a_5 a_6 a_7 a_8 a_9 : Int) (w : World) (R : Ending → World → Prop) (h :
  ∃ x1 : X.Facts, (X.FactsW x1 (w.alloc (.cells #[(.int .u8 a_0), (.int .u16 a_1), (.int .u32 a_2), (.int .u8 a_3), (.int .u8 a_4), (.int .u8 a_5), (.int .u8 a_6), (.int .u8 a_7), (.int .u8 a_8), (.int .u8 a_9)] 30)) []) ∧
  ∃ n2 : Int, ((⟨(w).heap.size, 0, none⟩, [(.int .u8 n2)]) ∈ x1) ∧
  ∃ n3 : Int, ((⟨(w).heap.size, (0 + 1), none⟩, [(.int .u16 n3)]) ∈ x1) ∧
  ∃ n4 : Int, ((⟨(w).heap.size, (0 + 2), none⟩, [(.int .u32 n4)]) ∈ x1) ∧
  ∀ w5 : World, (X.Hid [] (w.alloc (.cells #[(.int .u8 a_0), (.int .u16 a_1), (.int .u32 a_2), (.int .u8 a_3), (.int .u8 a_4), (.int .u8 a_5), (.int .u8 a_6), (.int .u8 a_7), (.int .u8 a_8), (.int .u8 a_9)] 30)) w5) →
  X.CallX Tryd.prog 53 #[(.int .i64 (IntKind.wrap .i64 n2))] w5 fun e6 w7 =>
   ∃ s8 : ByteArray, (e6 = .returned (.string s8)) ∧
   ((w5).heap.size ≤ (w7).heap.size) ∧
   (X.FactsW x1 w7 []) ∧
   (((((s8.size) + 1) : Nat) : Int) ≤ 9223372036854775807) ∧
   X.CallX Tryd.prog 53 #[(.int .i64 (IntKind.wrap .i64 n3))] w7 fun e9 w10 =>
    ∃ s11 : ByteArray, (e9 = .returned (.string s11)) ∧
    ((w7).heap.size ≤ (w10).heap.size) ∧
    (X.FactsW x1 w10 []) ∧
    ((((((s8 ++ ByteArray.mk #[OfNat.ofNat 46]).size) + (s11.size)) : Nat) : Int) ≤ 9223372036854775807) ∧
    ((((((s8 ++ ByteArray.mk #[OfNat.ofNat 46] ++ s11).size) + 1) : Nat) : Int) ≤ 9223372036854775807) ∧
    X.CallX Tryd.prog 53 #[(.int .i64 (IntKind.wrap .i64 n4))] w10 fun e12 w13 =>
     ∃ s14 : ByteArray, (e12 = .returned (.string s14)) ∧
     ((w10).heap.size ≤ (w13).heap.size) ∧
     (X.FactsW x1 w13 []) ∧
     ((((((s8 ++ ByteArray.mk #[OfNat.ofNat 46] ++ s11 ++ ByteArray.mk #[OfNat.ofNat 47]).size) + (s14.size)) : Nat) : Int) ≤ 9223372036854775807) ∧
     ∃ x15 : ByteArray → Int → World → List Nat → Prop, ∃ x16 : ByteArray → Int → World → Nat, (x15 (s8 ++ ByteArray.mk #[OfNat.ofNat 46] ++ s11 ++ ByteArray.mk #[OfNat.ofNat 47] ++ s14) 0 w13 []) ∧
     ∀ s17 : ByteArray, ∀ n18 : Int, ∀ w19 : World, ∀ L20 : List Nat, (X.LF (w).heap.size w19 L20) →
     (x15 s17 n18 w19 L20) →
     if ((decide (n18 < 3)) == true) = true then
      ∃ n21 : Int, (World.cell? w19 ⟨(w).heap.size, (0 + 3), none⟩ = some (.int .u8 n21)) ∧
      if (true && decide (n18 < (IntKind.wrap .i64 n21))) = true then
       ∃ x22 : X.Facts, (X.FactsW x22 w19 []) ∧
       (((((s17.size) + 1) : Nat) : Int) ≤ 9223372036854775807) ∧
       ((0 : Int) ≤ n18) ∧
       (n18 < 3) ∧
       ∃ n23 : Int, (((((⟨(w).heap.size, (0 + 4), none⟩ : Addr).add ((n18).toNat * 2)).add 0), [(.int .u8 n23)]) ∈ x22) ∧
       ((0 : Int) ≤ n18) ∧
       (n18 < 3) ∧
       ∃ n24 : Int, (((((⟨(w).heap.size, (0 + 4), none⟩ : Addr).add ((n18).toNat * 2)).add 1), [(.int .u8 n24)]) ∈ x22) ∧
       ∀ w25 : World, (X.Hid [] w19 w25) →
       X.CallX Tryd.prog 53 #[(.int .i64 (IntKind.wrap .i64 n23))] w25 fun e26 w27 =>
        ∃ s28 : ByteArray, (e26 = .returned (.string s28)) ∧
        ((w25).heap.size ≤ (w27).heap.size) ∧
        (X.FactsW x22 w27 []) ∧
        ((((((s17 ++ ByteArray.mk #[OfNat.ofNat 47]).size) + (s28.size)) : Nat) : Int) ≤ 9223372036854775807) ∧
        ((((((s17 ++ ByteArray.mk #[OfNat.ofNat 47] ++ s28).size) + 1) : Nat) : Int) ≤ 9223372036854775807) ∧
        X.CallX Tryd.prog 53 #[(.int .i64 (IntKind.wrap .i64 n24))] w27 fun e29 w30 =>
         ∃ s31 : ByteArray, (e29 = .returned (.string s31)) ∧
         ((w27).heap.size ≤ (w30).heap.size) ∧
         (X.FactsW x22 w30 []) ∧
         ((((((s17 ++ ByteArray.mk #[OfNat.ofNat 47] ++ s28 ++ ByteArray.mk #[OfNat.ofNat 46]).size) + (s31.size)) : Nat) : Int) ≤ 9223372036854775807) ∧
         (x15 (s17 ++ ByteArray.mk #[OfNat.ofNat 47] ++ s28 ++ ByteArray.mk #[OfNat.ofNat 46] ++ s31) (IntKind.wrap .i64 (n18 + 1)) w30 []) ∧
         Nat.le ((x16 (s17 ++ ByteArray.mk #[OfNat.ofNat 47] ++ s28 ++ ByteArray.mk #[OfNat.ofNat 46] ++ s31) (IntKind.wrap .i64 (n18 + 1)) w30) + 1) (x16 s17 n18 w19)
      else
       R (.returned (.string s17)) w19
     else
      R (.returned (.string s17)) w19) :
    Calls Tryd.prog 51 #[.agg #[.int .u8 a_0, .int .u16 a_1, .int .u32 a_2, .int .u8 a_3, .int .u8 a_4, .int .u8 a_5, .int .u8 a_6, .int .u8 a_7, .int .u8 a_8, .int .u8 a_9]] w R :=
  X.calls_of { isLoc := [], sym := [38, 47], loops := [(3, .inv [(3, .str), (4, .int .i64)] [] true)], joins := [] } Tryd.func51 (by kernel_rfl) h
abbrev fn_r5Show : Nat := 16
theorem x_r5Show (a_0 a_1 a_2 a_3 a_4 a_5 a_6 a_7 a_8 a_9 a_10 a_11 : Int) (a_12 : Option Addr) (a_12l a_12c : Nat) (a_13 : Int) (a_14 : ByteArray) (a_15 : Option Addr) (a_15l a_15c : Nat) (a_16 a_17 : Int) (w : World) (R : Ending → World → Prop) (h :
  if (a_0 == 0) = true then
   if (a_0 == 0) = true then
    ∀ w69 : World, ∀ L70 : List Nat, (X.Hid [] w w69) →
    (X.NewL (w).heap.size [] w w69 L70) →
    X.CallX Tryd.prog 51 #[(.agg #[(.int .u8 a_1), (.int .u16 a_2), (.int .u32 a_3), (.int .u8 a_4), (.int .u8 a_5), (.int .u8 a_6), (.int .u8 a_7), (.int .u8 a_8), (.int .u8 a_9), (.int .u8 a_10)])] w69 fun e71 w72 =>
     ∃ s73 : ByteArray, (e71 = .returned (.string s73)) ∧
     (X.Kept L70 w69 w72) ∧
     ((((5 + (s73.size)) : Nat) : Int) ≤ 9223372036854775807) ∧
     if (a_0 == 3) = true then
      X.CallX Tryd.prog 51 #[(.agg #[(.int .u8 a_1), (.int .u16 a_2), (.int .u32 a_3), (.int .u8 a_4), (.int .u8 a_5), (.int .u8 a_6), (.int .u8 a_7), (.int .u8 a_8), (.int .u8 a_9), (.int .u8 a_10)])] w72 fun e89 w90 =>
       ∃ s91 : ByteArray, (e89 = .returned (.string s91)) ∧
       (X.Kept L70 w72 w90) ∧
       ((((6 + (s91.size)) : Nat) : Int) ≤ 9223372036854775807) ∧
       ∃ x92 : ByteArray → Int → World → List Nat → Prop, ∃ x93 : ByteArray → Int → World → Nat, (x92 (ByteArray.mk #[OfNat.ofNat 67, OfNat.ofNat 104, OfNat.ofNat 101, OfNat.ofNat 99, OfNat.ofNat 107, OfNat.ofNat 32] ++ s91) 0 w90 (L70)) ∧
       ∀ s94 : ByteArray, ∀ n95 : Int, ∀ w96 : World, ∀ L97 : List Nat, (X.LF (w).heap.size w96 L97) →
       (x92 s94 n95 w96 L97) →
       if (decide (n95 < ((a_12l : Nat) : Int))) = true then
        (((((s94.size) + 1) : Nat) : Int) ≤ 9223372036854775807) ∧
        ((0 : Int) ≤ n95) ∧
        (n95 < ((a_12l : Nat) : Int)) ∧
        X.onSome (a_12) fun p98 =>
        ∃ n99 : Int, ∃ n100 : Int, ∃ s101 : ByteArray, ∃ s102 : ByteArray, ∃ n103 : Int, (X.Cells w96 (p98.add ((n95).toNat * 5)) [(.int .u8 n99), (.int .u8 n100), (.string s101), (.string s102), (.int .i64 n103)]) ∧
        (¬ (((p98.add (n95.toNat * 5)).block) ∈ L97)) ∧
        X.CallX Tryd.prog 52 #[(.agg #[(.int .u8 n99), (.int .u8 n100), (.string s101), (.string s102), (.int .i64 n103)])] w96 fun e104 w105 =>
         ∃ s106 : ByteArray, (e104 = .returned (.string s106)) ∧
         (X.Kept L97 w96 w105) ∧
         ((((((s94 ++ ByteArray.mk #[OfNat.ofNat 32]).size) + (s106.size)) : Nat) : Int) ≤ 9223372036854775807) ∧
         (([(.int .u8 a_0), (.int .u8 a_1), (.int .u16 a_2), (.int .u32 a_3), (.int .u8 a_4), (.int .u8 a_5), (.int .u8 a_6), (.int .u8 a_7), (.int .u8 a_8), (.int .u8 a_9), (.int .u8 a_10), (.int .u32 a_11), (.slice (a_12) a_12l a_12c), (.int .u8 a_13), (.string a_14), (.slice (a_15) a_15l a_15c), (.int .u8 a_16), (.int .u16 a_17)] : List Value) = [(.int .u8 a_0), (.int .u8 a_1), (.int .u16 a_2), (.int .u32 a_3), (.int .u8 a_4), (.int .u8 a_5), (.int .u8 a_6), (.int .u8 a_7), (.int .u8 a_8), (.int .u8 a_9), (.int .u8 a_10), (.int .u32 a_11), (.slice (a_12) a_12l a_12c), (.int .u8 a_13), (.string a_14), (.slice (a_15) a_15l a_15c), (.int .u8 a_16), (.int .u16 a_17)]) ∧
         (x92 (s94 ++ ByteArray.mk #[OfNat.ofNat 32] ++ s106) (IntKind.wrap .i64 (n95 + 1)) w105 (L97)) ∧
         Nat.le ((x93 (s94 ++ ByteArray.mk #[OfNat.ofNat 32] ++ s106) (IntKind.wrap .i64 (n95 + 1)) w105) + 1) (x93 s94 n95 w96)
       else
        R (.returned (.string s94)) w96
     else
      ∃ x74 : ByteArray → Int → World → List Nat → Prop, ∃ x75 : ByteArray → Int → World → Nat, (x74 (ByteArray.mk #[OfNat.ofNat 67, OfNat.ofNat 97, OfNat.ofNat 108, OfNat.ofNat 108, OfNat.ofNat 32] ++ s73) 0 w72 (L70)) ∧
      ∀ s76 : ByteArray, ∀ n77 : Int, ∀ w78 : World, ∀ L79 : List Nat, (X.LF (w).heap.size w78 L79) →
      (x74 s76 n77 w78 L79) →
      if (decide (n77 < ((a_12l : Nat) : Int))) = true then
       (((((s76.size) + 1) : Nat) : Int) ≤ 9223372036854775807) ∧
       ((0 : Int) ≤ n77) ∧
       (n77 < ((a_12l : Nat) : Int)) ∧
       X.onSome (a_12) fun p80 =>
       ∃ n81 : Int, ∃ n82 : Int, ∃ s83 : ByteArray, ∃ s84 : ByteArray, ∃ n85 : Int, (X.Cells w78 (p80.add ((n77).toNat * 5)) [(.int .u8 n81), (.int .u8 n82), (.string s83), (.string s84), (.int .i64 n85)]) ∧
       (¬ (((p80.add (n77.toNat * 5)).block) ∈ L79)) ∧
       X.CallX Tryd.prog 52 #[(.agg #[(.int .u8 n81), (.int .u8 n82), (.string s83), (.string s84), (.int .i64 n85)])] w78 fun e86 w87 =>
        ∃ s88 : ByteArray, (e86 = .returned (.string s88)) ∧
        (X.Kept L79 w78 w87) ∧
        ((((((s76 ++ ByteArray.mk #[OfNat.ofNat 32]).size) + (s88.size)) : Nat) : Int) ≤ 9223372036854775807) ∧
        (([(.int .u8 a_0), (.int .u8 a_1), (.int .u16 a_2), (.int .u32 a_3), (.int .u8 a_4), (.int .u8 a_5), (.int .u8 a_6), (.int .u8 a_7), (.int .u8 a_8), (.int .u8 a_9), (.int .u8 a_10), (.int .u32 a_11), (.slice (a_12) a_12l a_12c), (.int .u8 a_13), (.string a_14), (.slice (a_15) a_15l a_15c), (.int .u8 a_16), (.int .u16 a_17)] : List Value) = [(.int .u8 a_0), (.int .u8 a_1), (.int .u16 a_2), (.int .u32 a_3), (.int .u8 a_4), (.int .u8 a_5), (.int .u8 a_6), (.int .u8 a_7), (.int .u8 a_8), (.int .u8 a_9), (.int .u8 a_10), (.int .u32 a_11), (.slice (a_12) a_12l a_12c), (.int .u8 a_13), (.string a_14), (.slice (a_15) a_15l a_15c), (.int .u8 a_16), (.int .u16 a_17)]) ∧
        (x74 (s76 ++ ByteArray.mk #[OfNat.ofNat 32] ++ s88) (IntKind.wrap .i64 (n77 + 1)) w87 (L79)) ∧
        Nat.le ((x75 (s76 ++ ByteArray.mk #[OfNat.ofNat 32] ++ s88) (IntKind.wrap .i64 (n77 + 1)) w87) + 1) (x75 s76 n77 w78)
      else
       R (.returned (.string s76)) w78
   else
    if (a_0 == 1) = true then
     ∀ w64 : World, ∀ L65 : List Nat, (X.Hid [] w w64) →
     (X.NewL (w).heap.size [] w w64 L65) →
     X.CallX Tryd.prog 51 #[(.agg #[(.int .u8 a_1), (.int .u16 a_2), (.int .u32 a_3), (.int .u8 a_4), (.int .u8 a_5), (.int .u8 a_6), (.int .u8 a_7), (.int .u8 a_8), (.int .u8 a_9), (.int .u8 a_10)])] w64 fun e66 w67 =>
      ∃ s68 : ByteArray, (e66 = .returned (.string s68)) ∧
      (X.Kept L65 w64 w67) ∧
      ((((5 + (s68.size)) : Nat) : Int) ≤ 9223372036854775807) ∧
      R (.returned (.string (ByteArray.mk #[OfNat.ofNat 66, OfNat.ofNat 97, OfNat.ofNat 99, OfNat.ofNat 107, OfNat.ofNat 32] ++ s68))) w67
    else
     if (a_0 == 2) = true then
      ∃ x55 : X.Facts, (X.FactsW x55 w []) ∧
      ∀ w56 : World, ∀ L57 : List Nat, (X.Hid [] w w56) →
      (X.NewL (w).heap.size [] w w56 L57) →
      X.CallX Tryd.prog 53 #[(.int .i64 (IntKind.wrap .i64 a_16))] w56 fun e58 w59 =>
       ∃ s60 : ByteArray, (e58 = .returned (.string s60)) ∧
       (X.Kept L57 w56 w59) ∧
       (X.FactsW x55 w59 (L57)) ∧
       ((((5 + (s60.size)) : Nat) : Int) ≤ 9223372036854775807) ∧
       ((((((ByteArray.mk #[OfNat.ofNat 75, OfNat.ofNat 105, OfNat.ofNat 108, OfNat.ofNat 108, OfNat.ofNat 32] ++ s60).size) + 1) : Nat) : Int) ≤ 9223372036854775807) ∧
       X.CallX Tryd.prog 53 #[(.int .i64 (IntKind.wrap .i64 a_17))] w59 fun e61 w62 =>
        ∃ s63 : ByteArray, (e61 = .returned (.string s63)) ∧
        (X.Kept L57 w59 w62) ∧
        (X.FactsW x55 w62 (L57)) ∧
        ((((((ByteArray.mk #[OfNat.ofNat 75, OfNat.ofNat 105, OfNat.ofNat 108, OfNat.ofNat 108, OfNat.ofNat 32] ++ s60 ++ ByteArray.mk #[OfNat.ofNat 46]).size) + (s63.size)) : Nat) : Int) ≤ 9223372036854775807) ∧
        R (.returned (.string (ByteArray.mk #[OfNat.ofNat 75, OfNat.ofNat 105, OfNat.ofNat 108, OfNat.ofNat 108, OfNat.ofNat 32] ++ s60 ++ ByteArray.mk #[OfNat.ofNat 46] ++ s63))) w62
     else
      ∀ w54 : World, (X.Hid [] w w54) →
      R (.returned (.string (ByteArray.mk #[]))) w54
  else
   if (a_0 == 3) = true then
    ∀ w16 : World, ∀ L17 : List Nat, (X.Hid [] w w16) →
    (X.NewL (w).heap.size [] w w16 L17) →
    X.CallX Tryd.prog 51 #[(.agg #[(.int .u8 a_1), (.int .u16 a_2), (.int .u32 a_3), (.int .u8 a_4), (.int .u8 a_5), (.int .u8 a_6), (.int .u8 a_7), (.int .u8 a_8), (.int .u8 a_9), (.int .u8 a_10)])] w16 fun e18 w19 =>
     ∃ s20 : ByteArray, (e18 = .returned (.string s20)) ∧
     (X.Kept L17 w16 w19) ∧
     ((((5 + (s20.size)) : Nat) : Int) ≤ 9223372036854775807) ∧
     if (a_0 == 3) = true then
      X.CallX Tryd.prog 51 #[(.agg #[(.int .u8 a_1), (.int .u16 a_2), (.int .u32 a_3), (.int .u8 a_4), (.int .u8 a_5), (.int .u8 a_6), (.int .u8 a_7), (.int .u8 a_8), (.int .u8 a_9), (.int .u8 a_10)])] w19 fun e36 w37 =>
       ∃ s38 : ByteArray, (e36 = .returned (.string s38)) ∧
       (X.Kept L17 w19 w37) ∧
       ((((6 + (s38.size)) : Nat) : Int) ≤ 9223372036854775807) ∧
       ∃ x39 : ByteArray → Int → World → List Nat → Prop, ∃ x40 : ByteArray → Int → World → Nat, (x39 (ByteArray.mk #[OfNat.ofNat 67, OfNat.ofNat 104, OfNat.ofNat 101, OfNat.ofNat 99, OfNat.ofNat 107, OfNat.ofNat 32] ++ s38) 0 w37 (L17)) ∧
       ∀ s41 : ByteArray, ∀ n42 : Int, ∀ w43 : World, ∀ L44 : List Nat, (X.LF (w).heap.size w43 L44) →
       (x39 s41 n42 w43 L44) →
       if (decide (n42 < ((a_12l : Nat) : Int))) = true then
        (((((s41.size) + 1) : Nat) : Int) ≤ 9223372036854775807) ∧
        ((0 : Int) ≤ n42) ∧
        (n42 < ((a_12l : Nat) : Int)) ∧
        X.onSome (a_12) fun p45 =>
        ∃ n46 : Int, ∃ n47 : Int, ∃ s48 : ByteArray, ∃ s49 : ByteArray, ∃ n50 : Int, (X.Cells w43 (p45.add ((n42).toNat * 5)) [(.int .u8 n46), (.int .u8 n47), (.string s48), (.string s49), (.int .i64 n50)]) ∧
        (¬ (((p45.add (n42.toNat * 5)).block) ∈ L44)) ∧
        X.CallX Tryd.prog 52 #[(.agg #[(.int .u8 n46), (.int .u8 n47), (.string s48), (.string s49), (.int .i64 n50)])] w43 fun e51 w52 =>
         ∃ s53 : ByteArray, (e51 = .returned (.string s53)) ∧
         (X.Kept L44 w43 w52) ∧
         ((((((s41 ++ ByteArray.mk #[OfNat.ofNat 32]).size) + (s53.size)) : Nat) : Int) ≤ 9223372036854775807) ∧
         (([(.int .u8 a_0), (.int .u8 a_1), (.int .u16 a_2), (.int .u32 a_3), (.int .u8 a_4), (.int .u8 a_5), (.int .u8 a_6), (.int .u8 a_7), (.int .u8 a_8), (.int .u8 a_9), (.int .u8 a_10), (.int .u32 a_11), (.slice (a_12) a_12l a_12c), (.int .u8 a_13), (.string a_14), (.slice (a_15) a_15l a_15c), (.int .u8 a_16), (.int .u16 a_17)] : List Value) = [(.int .u8 a_0), (.int .u8 a_1), (.int .u16 a_2), (.int .u32 a_3), (.int .u8 a_4), (.int .u8 a_5), (.int .u8 a_6), (.int .u8 a_7), (.int .u8 a_8), (.int .u8 a_9), (.int .u8 a_10), (.int .u32 a_11), (.slice (a_12) a_12l a_12c), (.int .u8 a_13), (.string a_14), (.slice (a_15) a_15l a_15c), (.int .u8 a_16), (.int .u16 a_17)]) ∧
         (x39 (s41 ++ ByteArray.mk #[OfNat.ofNat 32] ++ s53) (IntKind.wrap .i64 (n42 + 1)) w52 (L44)) ∧
         Nat.le ((x40 (s41 ++ ByteArray.mk #[OfNat.ofNat 32] ++ s53) (IntKind.wrap .i64 (n42 + 1)) w52) + 1) (x40 s41 n42 w43)
       else
        R (.returned (.string s41)) w43
     else
      ∃ x21 : ByteArray → Int → World → List Nat → Prop, ∃ x22 : ByteArray → Int → World → Nat, (x21 (ByteArray.mk #[OfNat.ofNat 67, OfNat.ofNat 97, OfNat.ofNat 108, OfNat.ofNat 108, OfNat.ofNat 32] ++ s20) 0 w19 (L17)) ∧
      ∀ s23 : ByteArray, ∀ n24 : Int, ∀ w25 : World, ∀ L26 : List Nat, (X.LF (w).heap.size w25 L26) →
      (x21 s23 n24 w25 L26) →
      if (decide (n24 < ((a_12l : Nat) : Int))) = true then
       (((((s23.size) + 1) : Nat) : Int) ≤ 9223372036854775807) ∧
       ((0 : Int) ≤ n24) ∧
       (n24 < ((a_12l : Nat) : Int)) ∧
       X.onSome (a_12) fun p27 =>
       ∃ n28 : Int, ∃ n29 : Int, ∃ s30 : ByteArray, ∃ s31 : ByteArray, ∃ n32 : Int, (X.Cells w25 (p27.add ((n24).toNat * 5)) [(.int .u8 n28), (.int .u8 n29), (.string s30), (.string s31), (.int .i64 n32)]) ∧
       (¬ (((p27.add (n24.toNat * 5)).block) ∈ L26)) ∧
       X.CallX Tryd.prog 52 #[(.agg #[(.int .u8 n28), (.int .u8 n29), (.string s30), (.string s31), (.int .i64 n32)])] w25 fun e33 w34 =>
        ∃ s35 : ByteArray, (e33 = .returned (.string s35)) ∧
        (X.Kept L26 w25 w34) ∧
        ((((((s23 ++ ByteArray.mk #[OfNat.ofNat 32]).size) + (s35.size)) : Nat) : Int) ≤ 9223372036854775807) ∧
        (([(.int .u8 a_0), (.int .u8 a_1), (.int .u16 a_2), (.int .u32 a_3), (.int .u8 a_4), (.int .u8 a_5), (.int .u8 a_6), (.int .u8 a_7), (.int .u8 a_8), (.int .u8 a_9), (.int .u8 a_10), (.int .u32 a_11), (.slice (a_12) a_12l a_12c), (.int .u8 a_13), (.string a_14), (.slice (a_15) a_15l a_15c), (.int .u8 a_16), (.int .u16 a_17)] : List Value) = [(.int .u8 a_0), (.int .u8 a_1), (.int .u16 a_2), (.int .u32 a_3), (.int .u8 a_4), (.int .u8 a_5), (.int .u8 a_6), (.int .u8 a_7), (.int .u8 a_8), (.int .u8 a_9), (.int .u8 a_10), (.int .u32 a_11), (.slice (a_12) a_12l a_12c), (.int .u8 a_13), (.string a_14), (.slice (a_15) a_15l a_15c), (.int .u8 a_16), (.int .u16 a_17)]) ∧
        (x21 (s23 ++ ByteArray.mk #[OfNat.ofNat 32] ++ s35) (IntKind.wrap .i64 (n24 + 1)) w34 (L26)) ∧
        Nat.le ((x22 (s23 ++ ByteArray.mk #[OfNat.ofNat 32] ++ s35) (IntKind.wrap .i64 (n24 + 1)) w34) + 1) (x22 s23 n24 w25)
      else
       R (.returned (.string s23)) w25
   else
    if (a_0 == 1) = true then
     ∀ w11 : World, ∀ L12 : List Nat, (X.Hid [] w w11) →
     (X.NewL (w).heap.size [] w w11 L12) →
     X.CallX Tryd.prog 51 #[(.agg #[(.int .u8 a_1), (.int .u16 a_2), (.int .u32 a_3), (.int .u8 a_4), (.int .u8 a_5), (.int .u8 a_6), (.int .u8 a_7), (.int .u8 a_8), (.int .u8 a_9), (.int .u8 a_10)])] w11 fun e13 w14 =>
      ∃ s15 : ByteArray, (e13 = .returned (.string s15)) ∧
      (X.Kept L12 w11 w14) ∧
      ((((5 + (s15.size)) : Nat) : Int) ≤ 9223372036854775807) ∧
      R (.returned (.string (ByteArray.mk #[OfNat.ofNat 66, OfNat.ofNat 97, OfNat.ofNat 99, OfNat.ofNat 107, OfNat.ofNat 32] ++ s15))) w14
    else
     if (a_0 == 2) = true then
      ∃ x2 : X.Facts, (X.FactsW x2 w []) ∧
      ∀ w3 : World, ∀ L4 : List Nat, (X.Hid [] w w3) →
      (X.NewL (w).heap.size [] w w3 L4) →
      X.CallX Tryd.prog 53 #[(.int .i64 (IntKind.wrap .i64 a_16))] w3 fun e5 w6 =>
       ∃ s7 : ByteArray, (e5 = .returned (.string s7)) ∧
       (X.Kept L4 w3 w6) ∧
       (X.FactsW x2 w6 (L4)) ∧
       ((((5 + (s7.size)) : Nat) : Int) ≤ 9223372036854775807) ∧
       ((((((ByteArray.mk #[OfNat.ofNat 75, OfNat.ofNat 105, OfNat.ofNat 108, OfNat.ofNat 108, OfNat.ofNat 32] ++ s7).size) + 1) : Nat) : Int) ≤ 9223372036854775807) ∧
       X.CallX Tryd.prog 53 #[(.int .i64 (IntKind.wrap .i64 a_17))] w6 fun e8 w9 =>
        ∃ s10 : ByteArray, (e8 = .returned (.string s10)) ∧
        (X.Kept L4 w6 w9) ∧
        (X.FactsW x2 w9 (L4)) ∧
        ((((((ByteArray.mk #[OfNat.ofNat 75, OfNat.ofNat 105, OfNat.ofNat 108, OfNat.ofNat 108, OfNat.ofNat 32] ++ s7 ++ ByteArray.mk #[OfNat.ofNat 46]).size) + (s10.size)) : Nat) : Int) ≤ 9223372036854775807) ∧
        R (.returned (.string (ByteArray.mk #[OfNat.ofNat 75, OfNat.ofNat 105, OfNat.ofNat 108, OfNat.ofNat 108, OfNat.ofNat 32] ++ s7 ++ ByteArray.mk #[OfNat.ofNat 46] ++ s10))) w9
     else
      ∀ w1 : World, (X.Hid [] w w1) →
      R (.returned (.string (ByteArray.mk #[]))) w1) :
    Calls Tryd.prog 16 #[.agg #[.int .u8 a_0, .int .u8 a_1, .int .u16 a_2, .int .u32 a_3, .int .u8 a_4, .int .u8 a_5, .int .u8 a_6, .int .u8 a_7, .int .u8 a_8, .int .u8 a_9, .int .u8 a_10, .int .u32 a_11, .slice a_12 a_12l a_12c, .int .u8 a_13, .string a_14, .slice a_15 a_15l a_15c, .int .u8 a_16, .int .u16 a_17]] w R :=
  X.calls_of { isLoc := [1], sym := [], loops := [(9, .inv [(3, .str), (4, .int .i64)] [] true)], joins := [] } Tryd.func16 (by kernel_rfl) h
abbrev fn_knows : Nat := 7
theorem x_knows  (w : World) (R : Ending → World → Prop) (h :
  ∃ x1 : X.Facts, (X.FactsW x1 (w.alloc (.cells #[(.int .u8 0), (.int .u8 3), (.string (ByteArray.mk #[OfNat.ofNat 97])), (.string (ByteArray.mk #[])), (.int .i64 5)] 56)) []) ∧
  ∀ w2 : World, ∀ L3 : List Nat, (X.Hid [] (w.alloc (.cells #[(.int .u8 0), (.int .u8 3), (.string (ByteArray.mk #[OfNat.ofNat 97])), (.string (ByteArray.mk #[])), (.int .i64 5)] 56)) w2) →
  (X.NewL (w).heap.size [] (w.alloc (.cells #[(.int .u8 0), (.int .u8 3), (.string (ByteArray.mk #[OfNat.ofNat 97])), (.string (ByteArray.mk #[])), (.int .i64 5)] 56)) w2 L3) →
  X.CallX Tryd.prog 15 #[(.agg #[(.int .u8 0), (.int .u8 1), (.int .u16 1), (.int .u32 5), (.int .u8 0), (.int .u8 0), (.int .u8 0), (.int .u8 0), (.int .u8 0), (.int .u8 0), (.int .u8 0), (.int .u32 0), (.slice (some ⟨(w).heap.size, 0, none⟩) 1 1), (.int .u8 0), (.string (ByteArray.mk #[])), (.slice none 0 0), (.int .u8 0), (.int .u16 0)])] w2 fun e4 w5 =>
   ∃ s6 : ByteArray, (e4 = .returned (.string s6)) ∧
   (X.Kept L3 w2 w5) ∧
   (X.FactsW x1 w5 (L3)) ∧
   ∃ x7 : X.Facts, (X.FactsW x7 w5 (L3)) ∧
   (∀ x8 : Addr × List Value, (x8 ∈ x1) →
    x8 ∈ x7) ∧
   if (((s6.toList) == ((ByteArray.mk #[OfNat.ofNat 67, OfNat.ofNat 97, OfNat.ofNat 108, OfNat.ofNat 108, OfNat.ofNat 32, OfNat.ofNat 49, OfNat.ofNat 46, OfNat.ofNat 49, OfNat.ofNat 47, OfNat.ofNat 53, OfNat.ofNat 32, OfNat.ofNat 48, OfNat.ofNat 58, OfNat.ofNat 84, OfNat.ofNat 97, OfNat.ofNat 107, OfNat.ofNat 101, OfNat.ofNat 40, OfNat.ofNat 97, OfNat.ofNat 45, OfNat.ofNat 53, OfNat.ofNat 41]).toList)) == true) = true then
    X.CallX Tryd.prog 9 #[(.agg #[(.int .u8 0), (.int .u8 1), (.int .u16 1), (.int .u32 5), (.int .u8 0), (.int .u8 0), (.int .u8 0), (.int .u8 0), (.int .u8 0), (.int .u8 0), (.int .u8 0), (.int .u32 0), (.slice (some ⟨(w).heap.size, 0, none⟩) 1 1), (.int .u8 0), (.string (ByteArray.mk #[])), (.slice none 0 0), (.int .u8 0), (.int .u16 0)]), (.int .u8 0)] w5 fun e13 w14 =>
     ∃ b15 : Bool, (e13 = .returned (.bool b15)) ∧
     (X.Kept L3 w5 w14) ∧
     (X.FactsW x7 w14 (L3)) ∧
     ∃ x16 : X.Facts, (X.FactsW x16 w14 (L3)) ∧
     (∀ x17 : Addr × List Value, (x17 ∈ x7) →
      x17 ∈ x16) ∧
     if ((true && b15) == true) = true then
      X.CallX Tryd.prog 9 #[(.agg #[(.int .u8 0), (.int .u8 1), (.int .u16 1), (.int .u32 5), (.int .u8 0), (.int .u8 0), (.int .u8 0), (.int .u8 0), (.int .u8 0), (.int .u8 0), (.int .u8 0), (.int .u32 0), (.slice (some ⟨(w).heap.size, 0, none⟩) 1 1), (.int .u8 0), (.string (ByteArray.mk #[])), (.slice none 0 0), (.int .u8 0), (.int .u16 0)]), (.int .u8 1)] w14 fun e20 w21 =>
       ∃ b22 : Bool, (e20 = .returned (.bool b22)) ∧
       (X.Kept L3 w14 w21) ∧
       (X.FactsW x16 w21 (L3)) ∧
       ∃ x23 : X.Facts, (X.FactsW x23 w21 (L3)) ∧
       (∀ x24 : Addr × List Value, (x24 ∈ x16) →
        x24 ∈ x23) ∧
       if ((true && (!b22)) == true) = true then
        X.CallX Tryd.prog 11 #[(.agg #[(.int .u8 0), (.int .u8 1), (.int .u16 1), (.int .u32 5), (.int .u8 0), (.int .u8 0), (.int .u8 0), (.int .u8 0), (.int .u8 0), (.int .u8 0), (.int .u8 0), (.int .u32 0), (.slice (some ⟨(w).heap.size, 0, none⟩) 1 1), (.int .u8 0), (.string (ByteArray.mk #[])), (.slice none 0 0), (.int .u8 0), (.int .u16 0)])] w21 fun e25 w26 =>
         ∃ n27 : Int, ∃ n28 : Int, ∃ n29 : Int, ∃ n30 : Int, ∃ n31 : Int, ∃ n32 : Int, ∃ n33 : Int, ∃ n34 : Int, ∃ n35 : Int, ∃ n36 : Int, ∃ n37 : Int, ∃ n38 : Int, ∃ q39 : Option Addr, ∃ k40 : Nat, ∃ k41 : Nat, ∃ n42 : Int, ∃ s43 : ByteArray, ∃ q44 : Option Addr, ∃ k45 : Nat, ∃ k46 : Nat, ∃ n47 : Int, ∃ n48 : Int, (e25 = .returned (.agg #[(.int .u8 n27), (.int .u8 n28), (.int .u16 n29), (.int .u32 n30), (.int .u8 n31), (.int .u8 n32), (.int .u8 n33), (.int .u8 n34), (.int .u8 n35), (.int .u8 n36), (.int .u8 n37), (.int .u32 n38), (.slice (q39) k40 k41), (.int .u8 n42), (.string s43), (.slice (q44) k45 k46), (.int .u8 n47), (.int .u16 n48)])) ∧
         (X.Kept L3 w21 w26) ∧
         (X.FactsW x23 w26 (L3)) ∧
         X.CallX Tryd.prog 12 #[(.agg #[(.int .u8 0), (.int .u8 1), (.int .u16 1), (.int .u32 5), (.int .u8 0), (.int .u8 0), (.int .u8 0), (.int .u8 0), (.int .u8 0), (.int .u8 0), (.int .u8 0), (.int .u32 0), (.slice (some ⟨(w).heap.size, 0, none⟩) 1 1), (.int .u8 0), (.string (ByteArray.mk #[])), (.slice none 0 0), (.int .u8 0), (.int .u16 0)]), (.agg #[(.int .u8 n27), (.int .u8 n28), (.int .u16 n29), (.int .u32 n30), (.int .u8 n31), (.int .u8 n32), (.int .u8 n33), (.int .u8 n34), (.int .u8 n35), (.int .u8 n36), (.int .u8 n37), (.int .u32 n38), (.slice (q39) k40 k41), (.int .u8 n42), (.string s43), (.slice (q44) k45 k46), (.int .u8 n47), (.int .u16 n48)])] w26 fun e49 w50 =>
          ∃ b51 : Bool, (e49 = .returned (.bool b51)) ∧
          (X.Kept L3 w26 w50) ∧
          (X.FactsW x23 w50 (L3)) ∧
          R (.returned (.bool (true && b51))) w50
       else
        R (.returned (.bool false)) w21
     else
      ∃ x18 : X.Facts, (X.FactsW x18 w14 (L3)) ∧
      (∀ x19 : Addr × List Value, (x19 ∈ x16) →
       x19 ∈ x18) ∧
      R (.returned (.bool false)) w14
   else
    ∃ x9 : X.Facts, (X.FactsW x9 w5 (L3)) ∧
    (∀ x10 : Addr × List Value, (x10 ∈ x7) →
     x10 ∈ x9) ∧
    ∃ x11 : X.Facts, (X.FactsW x11 w5 (L3)) ∧
    (∀ x12 : Addr × List Value, (x12 ∈ x9) →
     x12 ∈ x11) ∧
    R (.returned (.bool false)) w5) :
    Calls Tryd.prog 7 #[] w R :=
  X.calls_of { isLoc := [1], sym := [], loops := [], joins := [] } Tryd.func7 (by kernel_rfl) h
end Go.Proofs
