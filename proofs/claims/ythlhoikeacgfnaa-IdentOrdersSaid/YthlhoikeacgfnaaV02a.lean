import Derived.Test.YthlhoikeacgfnaaXFn
import Derived.Test.YthlhoikeacgfnaaProg
/- The verification conditions of this seat's functions, as the engine has them: printed by a program of the bench; checked by the kernel. -/
set_option maxRecDepth 100000
set_option linter.unusedVariables false
namespace Go.Proofs
open Go
abbrev fn_ident_Proc_Right : Nat := 20
theorem x_ident_Proc_Right (a0 a1 : Int) (w : World) (R : Ending → World → Prop) (h :
  ∀ w1 : World, (X.Hid [] w w1) →
  R (.returned (.bool (decide (a0 < 16) && decide (a1 > 0)))) w1) :
    Calls Try.prog 20 #[.agg #[.int .u8 a0, .int .u16 a1]] w R :=
  X.calls_of { isLoc := [1], sym := [], loops := [], joins := [] } Try.func20 (by kernel_rfl) h
abbrev fn_ident_ID_Right : Nat := 17
theorem x_ident_ID_Right (a0 a1 a2 a3 a4 a5 a6 a7 a8 a9 : Int) (w : World) (R : Ending → World → Prop) (h :
  ∀ w1 : World, ∀ L2 : List Nat, (X.Hid [] w w1) →
  (X.NewL (w).heap.size [] w w1 L2) →
  X.CallX Try.prog 20 #[(.agg #[(.int .u8 a0), (.int .u16 a1)])] w1 fun e3 w4 =>
   ∃ b5 : Bool, (e3 = .returned (.bool b5)) ∧
   (X.Kept L2 w1 w4) ∧
   if ((((!b5) || (a2 == 0)) || decide (a2 > 1048576)) || decide (a3 > 3)) = true then
    R (.returned (.bool false)) w4
   else
    if ((decide (0 < (IntKind.wrap .i64 a3)) && decide (a4 ≥ 4)) || ((!decide (0 < (IntKind.wrap .i64 a3))) && (!((a4 == 0) && (a5 == 0))))) = true then
     ∀ w9 : World, (X.Hid (L2) w4 w9) →
     R (.returned (.bool false)) w9
    else
     if ((decide (1 < (IntKind.wrap .i64 a3)) && decide (a6 ≥ 4)) || ((!decide (1 < (IntKind.wrap .i64 a3))) && (!((a6 == 0) && (a7 == 0))))) = true then
      ∀ w8 : World, (X.Hid (L2) w4 w8) →
      R (.returned (.bool false)) w8
     else
      if ((decide (2 < (IntKind.wrap .i64 a3)) && decide (a8 ≥ 4)) || ((!decide (2 < (IntKind.wrap .i64 a3))) && (!((a8 == 0) && (a9 == 0))))) = true then
       ∀ w7 : World, (X.Hid (L2) w4 w7) →
       R (.returned (.bool false)) w7
      else
       ∀ w6 : World, (X.Hid (L2) w4 w6) →
       R (.returned (.bool true)) w6) :
    Calls Try.prog 17 #[.agg #[.int .u8 a0, .int .u16 a1, .int .u32 a2, .int .u8 a3, .int .u8 a4, .int .u8 a5, .int .u8 a6, .int .u8 a7, .int .u8 a8, .int .u8 a9]] w R :=
  X.calls_of { isLoc := [1, 4], sym := [], loops := [(4, .unroll 4)], joins := [] } Try.func17 (by kernel_rfl) h
abbrev fn_ident_Child : Nat := 8
theorem x_ident_Child (a0 a1 a2 a3 a4 a5 a6 a7 a8 a9 b c : Int) (w : World) (R : Ending → World → Prop) (h :
  ∀ w1 : World, ∀ L2 : List Nat, (X.Hid [] w w1) →
  (X.NewL (w).heap.size [] w w1 L2) →
  X.CallX Try.prog 17 #[(.agg #[(.int .u8 a0), (.int .u16 a1), (.int .u32 a2), (.int .u8 a3), (.int .u8 a4), (.int .u8 a5), (.int .u8 a6), (.int .u8 a7), (.int .u8 a8), (.int .u8 a9)])] w1 fun e3 w4 =>
   ∃ b5 : Bool, (e3 = .returned (.bool b5)) ∧
   (X.Kept L2 w1 w4) ∧
   if ((!b5) || decide (b ≥ 4)) = true then
    ∀ w10 : World, (X.Hid (L2) w4 w10) →
    R (.returned (.tuple #[(.agg #[(.int .u8 0), (.int .u16 0), (.int .u32 0), (.int .u8 0), (.int .u8 0), (.int .u8 0), (.int .u8 0), (.int .u8 0), (.int .u8 0), (.int .u8 0)]), (.int .i64 1)])) w10
   else
    if (a3 == 3) = true then
     ∀ w9 : World, (X.Hid (L2) w4 w9) →
     R (.returned (.tuple #[(.agg #[(.int .u8 0), (.int .u16 0), (.int .u32 0), (.int .u8 0), (.int .u8 0), (.int .u8 0), (.int .u8 0), (.int .u8 0), (.int .u8 0), (.int .u8 0)]), (.int .i64 18)])) w9
    else
     (0 ≤ a3) ∧
     (a3 < 3) ∧
     (((a3 = 0) →
       ∀ w6 : World, (X.Hid (L2) w4 w6) →
       R (.returned (.tuple #[(.agg #[(.int .u8 a0), (.int .u16 a1), (.int .u32 a2), (.int .u8 (IntKind.wrap .u8 (a3 + 1))), (.int .u8 b), (.int .u8 c), (.int .u8 a6), (.int .u8 a7), (.int .u8 a8), (.int .u8 a9)]), (.int .i64 0)])) w6) ∧
      ((a3 = 1) →
      ∀ w7 : World, (X.Hid (L2) w4 w7) →
      R (.returned (.tuple #[(.agg #[(.int .u8 a0), (.int .u16 a1), (.int .u32 a2), (.int .u8 (IntKind.wrap .u8 (a3 + 1))), (.int .u8 a4), (.int .u8 a5), (.int .u8 b), (.int .u8 c), (.int .u8 a8), (.int .u8 a9)]), (.int .i64 0)])) w7)) ∧
     ((a3 = 2) →
     ∀ w8 : World, (X.Hid (L2) w4 w8) →
     R (.returned (.tuple #[(.agg #[(.int .u8 a0), (.int .u16 a1), (.int .u32 a2), (.int .u8 (IntKind.wrap .u8 (a3 + 1))), (.int .u8 a4), (.int .u8 a5), (.int .u8 a6), (.int .u8 a7), (.int .u8 b), (.int .u8 c)]), (.int .i64 0)])) w8)) :
    Calls Try.prog 8 #[.agg #[.int .u8 a0, .int .u16 a1, .int .u32 a2, .int .u8 a3, .int .u8 a4, .int .u8 a5, .int .u8 a6, .int .u8 a7, .int .u8 a8, .int .u8 a9], .int .u8 b, .int .u8 c] w R :=
  X.calls_of { isLoc := [3, 6], sym := [28], loops := [], joins := [] } Try.func8 (by kernel_rfl) h
abbrev fn_ident_Parent : Nat := 11
theorem x_ident_Parent (a0 a1 a2 a3 a4 a5 a6 a7 a8 a9 : Int) (w : World) (R : Ending → World → Prop) (h :
  ∀ w1 : World, ∀ L2 : List Nat, (X.Hid [] w w1) →
  (X.NewL (w).heap.size [] w w1 L2) →
  X.CallX Try.prog 17 #[(.agg #[(.int .u8 a0), (.int .u16 a1), (.int .u32 a2), (.int .u8 a3), (.int .u8 a4), (.int .u8 a5), (.int .u8 a6), (.int .u8 a7), (.int .u8 a8), (.int .u8 a9)])] w1 fun e3 w4 =>
   ∃ b5 : Bool, (e3 = .returned (.bool b5)) ∧
   (X.Kept L2 w1 w4) ∧
   if (!b5) = true then
    ∀ w10 : World, (X.Hid (L2) w4 w10) →
    R (.returned (.tuple #[(.agg #[(.int .u8 0), (.int .u16 0), (.int .u32 0), (.int .u8 0), (.int .u8 0), (.int .u8 0), (.int .u8 0), (.int .u8 0), (.int .u8 0), (.int .u8 0)]), (.int .i64 1)])) w10
   else
    if (a3 == 0) = true then
     ∀ w9 : World, (X.Hid (L2) w4 w9) →
     R (.returned (.tuple #[(.agg #[(.int .u8 0), (.int .u16 0), (.int .u32 0), (.int .u8 0), (.int .u8 0), (.int .u8 0), (.int .u8 0), (.int .u8 0), (.int .u8 0), (.int .u8 0)]), (.int .i64 3)])) w9
    else
     (0 ≤ (IntKind.wrap .u8 (a3 - 1))) ∧
     ((IntKind.wrap .u8 (a3 - 1)) < 3) ∧
     ((((IntKind.wrap .u8 (a3 - 1)) = 0) →
       ∀ w6 : World, (X.Hid (L2) w4 w6) →
       R (.returned (.tuple #[(.agg #[(.int .u8 a0), (.int .u16 a1), (.int .u32 a2), (.int .u8 (IntKind.wrap .u8 (a3 - 1))), (.int .u8 0), (.int .u8 0), (.int .u8 a6), (.int .u8 a7), (.int .u8 a8), (.int .u8 a9)]), (.int .i64 0)])) w6) ∧
      (((IntKind.wrap .u8 (a3 - 1)) = 1) →
      ∀ w7 : World, (X.Hid (L2) w4 w7) →
      R (.returned (.tuple #[(.agg #[(.int .u8 a0), (.int .u16 a1), (.int .u32 a2), (.int .u8 (IntKind.wrap .u8 (a3 - 1))), (.int .u8 a4), (.int .u8 a5), (.int .u8 0), (.int .u8 0), (.int .u8 a8), (.int .u8 a9)]), (.int .i64 0)])) w7)) ∧
     (((IntKind.wrap .u8 (a3 - 1)) = 2) →
     ∀ w8 : World, (X.Hid (L2) w4 w8) →
     R (.returned (.tuple #[(.agg #[(.int .u8 a0), (.int .u16 a1), (.int .u32 a2), (.int .u8 (IntKind.wrap .u8 (a3 - 1))), (.int .u8 a4), (.int .u8 a5), (.int .u8 a6), (.int .u8 a7), (.int .u8 0), (.int .u8 0)]), (.int .i64 0)])) w8)) :
    Calls Try.prog 11 #[.agg #[.int .u8 a0, .int .u16 a1, .int .u32 a2, .int .u8 a3, .int .u8 a4, .int .u8 a5, .int .u8 a6, .int .u8 a7, .int .u8 a8, .int .u8 a9]] w R :=
  X.calls_of { isLoc := [1, 2], sym := [22], loops := [], joins := [] } Try.func11 (by kernel_rfl) h
abbrev fn_ident_Root : Nat := 15
theorem x_ident_Root (a0 a1 a2 a3 a4 a5 a6 a7 a8 a9 : Int) (w : World) (R : Ending → World → Prop) (h :
  ∀ w1 : World, (X.Hid [] w w1) →
  R (.returned (.agg #[(.int .u8 a0), (.int .u16 a1), (.int .u32 a2), (.int .u8 0), (.int .u8 0), (.int .u8 0), (.int .u8 0), (.int .u8 0), (.int .u8 0), (.int .u8 0)])) w1) :
    Calls Try.prog 15 #[.agg #[.int .u8 a0, .int .u16 a1, .int .u32 a2, .int .u8 a3, .int .u8 a4, .int .u8 a5, .int .u8 a6, .int .u8 a7, .int .u8 a8, .int .u8 a9]] w R :=
  X.calls_of { isLoc := [1, 2], sym := [], loops := [], joins := [] } Try.func15 (by kernel_rfl) h
abbrev fn_gemotref02_Root : Nat := 16
theorem x_gemotref02_Root (a0 a1 a2 a3 a4 a5 a6 a7 a8 a9 : Int) (w : World) (R : Ending → World → Prop) (h :
  ∀ w1 : World, (X.Hid [] w w1) →
  R (.returned (.agg #[(.int .u8 a0), (.int .u16 a1), (.int .u32 a2), (.int .u8 0), (.int .u8 0), (.int .u8 0), (.int .u8 0), (.int .u8 0), (.int .u8 0), (.int .u8 0)])) w1) :
    Calls Try.prog 16 #[.agg #[.int .u8 a0, .int .u16 a1, .int .u32 a2, .int .u8 a3, .int .u8 a4, .int .u8 a5, .int .u8 a6, .int .u8 a7, .int .u8 a8, .int .u8 a9]] w R :=
  X.calls_of { isLoc := [1, 2], sym := [], loops := [], joins := [] } Try.func16 (by kernel_rfl) h
abbrev fn_gemotref02_RightProc : Nat := 21
theorem x_gemotref02_RightProc (a0 a1 : Int) (w : World) (R : Ending → World → Prop) (h :
  ∀ w1 : World, (X.Hid [] w w1) →
  R (.returned (.bool (decide (a0 < 16) && decide (a1 ≥ 1)))) w1) :
    Calls Try.prog 21 #[.agg #[.int .u8 a0, .int .u16 a1]] w R :=
  X.calls_of { isLoc := [1], sym := [], loops := [], joins := [] } Try.func21 (by kernel_rfl) h
abbrev fn_gemotref02_Right : Nat := 18
theorem x_gemotref02_Right (a0 a1 a2 a3 a4 a5 a6 a7 a8 a9 : Int) (w : World) (R : Ending → World → Prop) (h :
  ∀ w1 : World, ∀ L2 : List Nat, (X.Hid [] w w1) →
  (X.NewL (w).heap.size [] w w1 L2) →
  X.CallX Try.prog 21 #[(.agg #[(.int .u8 a0), (.int .u16 a1)])] w1 fun e3 w4 =>
   ∃ b5 : Bool, (e3 = .returned (.bool b5)) ∧
   (X.Kept L2 w1 w4) ∧
   if ((((!b5) || decide (a2 < 1)) || decide (a2 > 1048576)) || decide (a3 > 3)) = true then
    R (.returned (.bool false)) w4
   else
    if ((decide (0 < (IntKind.wrap .i64 a3)) && decide (a4 ≥ 4)) || (decide (0 ≥ (IntKind.wrap .i64 a3)) && (!((a4 == 0) && (a5 == 0))))) = true then
     R (.returned (.bool false)) w4
    else
     if ((decide (1 < (IntKind.wrap .i64 a3)) && decide (a6 ≥ 4)) || (decide (1 ≥ (IntKind.wrap .i64 a3)) && (!((a6 == 0) && (a7 == 0))))) = true then
      R (.returned (.bool false)) w4
     else
      if ((decide (2 < (IntKind.wrap .i64 a3)) && decide (a8 ≥ 4)) || (decide (2 ≥ (IntKind.wrap .i64 a3)) && (!((a8 == 0) && (a9 == 0))))) = true then
       R (.returned (.bool false)) w4
      else
       R (.returned (.bool true)) w4) :
    Calls Try.prog 18 #[.agg #[.int .u8 a0, .int .u16 a1, .int .u32 a2, .int .u8 a3, .int .u8 a4, .int .u8 a5, .int .u8 a6, .int .u8 a7, .int .u8 a8, .int .u8 a9]] w R :=
  X.calls_of { isLoc := [1], sym := [], loops := [(4, .unroll 4)], joins := [] } Try.func18 (by kernel_rfl) h
abbrev fn_gemotlaw02_num : Nat := 14
theorem x_gemotlaw02_num (a : Int) (w : World) (R : Ending → World → Prop) (h :
  R (.returned (.int .i64 a)) w) :
    Calls Try.prog 14 #[.int .i64 a] w R :=
  X.calls_of { isLoc := [], sym := [], loops := [], joins := [] } Try.func14 (by kernel_rfl) h
abbrev fn_gemotlaw02_Proc : Nat := 19
theorem x_gemotlaw02_Proc (a0 a1 : Int) (w : World) (R : Ending → World → Prop) (h :
  ∀ w1 : World, (X.Hid [] w w1) →
  R (.returned (.agg #[(.int .u8 a0), (.int .u16 a1)])) w1) :
    Calls Try.prog 19 #[.agg #[.int .u8 a0, .int .u16 a1]] w R :=
  X.calls_of { isLoc := [1, 2], sym := [], loops := [], joins := [] } Try.func19 (by kernel_rfl) h
abbrev fn_gemotlaw02_RefProc : Nat := 41
theorem x_gemotlaw02_RefProc (a0 a1 : Int) (w : World) (R : Ending → World → Prop) (h :
  ∀ w1 : World, (X.Hid [] w w1) →
  R (.returned (.agg #[(.int .u8 a0), (.int .u16 a1)])) w1) :
    Calls Try.prog 41 #[.agg #[.int .u8 a0, .int .u16 a1]] w R :=
  X.calls_of { isLoc := [1, 2], sym := [], loops := [], joins := [] } Try.func41 (by kernel_rfl) h
abbrev fn_gemotlaw02_ID : Nat := 9
theorem x_gemotlaw02_ID (a0 a1 a2 a3 a4 a5 a6 a7 a8 a9 : Int) (w : World) (R : Ending → World → Prop) (h :
  ∃ x1 : X.Facts, (X.FactsW x1 w []) ∧
  (∀ w2 : World, ∀ L3 : List Nat, (X.Hid [] w w2) →
   (X.NewL (w).heap.size [] w w2 L3) →
   X.CallX Try.prog 19 #[(.agg #[(.int .u8 a0), (.int .u16 a1)])] w2 fun e4 w5 =>
    ∃ n6 : Int, ∃ n7 : Int, (e4 = .returned (.agg #[(.int .u8 n6), (.int .u16 n7)])) ∧
    (X.Kept L3 w2 w5) ∧
    (X.FactsW x1 w5 (L3)) ∧
    ∃ x8 : X.Facts, (X.FactsW x8 w5 (L3)) ∧
    ∃ x9 : X.Facts, (X.FactsW x9 w5 (L3)) ∧
    ∃ x10 : X.Facts, (X.FactsW x10 w5 (L3)) ∧
    ∀ w11 : World, (X.Hid (L3) w5 w11) →
    R (.returned (.agg #[(.int .u8 n6), (.int .u16 n7), (.int .u32 a2), (.int .u8 a3), (.int .u8 a4), (.int .u8 a5), (.int .u8 a6), (.int .u8 a7), (.int .u8 a8), (.int .u8 a9)])) w11) ∧
  ∀ w12 : World, ∀ L13 : List Nat, (X.Hid [] w w12) →
  (X.NewL (w).heap.size [] w w12 L13) →
  X.CallX Try.prog 19 #[(.agg #[(.int .u8 a0), (.int .u16 a1)])] w12 fun e14 w15 =>
   ∃ n16 : Int, ∃ n17 : Int, (e14 = .returned (.agg #[(.int .u8 n16), (.int .u16 n17)])) ∧
   (X.Kept L13 w12 w15) ∧
   (X.FactsW x1 w15 (L13)) ∧
   ∃ x18 : X.Facts, (X.FactsW x18 w15 (L13)) ∧
   ∃ x19 : X.Facts, (X.FactsW x19 w15 (L13)) ∧
   ∃ x20 : X.Facts, (X.FactsW x20 w15 (L13)) ∧
   ∀ w21 : World, (X.Hid (L13) w15 w21) →
   R (.returned (.agg #[(.int .u8 n16), (.int .u16 n17), (.int .u32 a2), (.int .u8 a3), (.int .u8 a4), (.int .u8 a5), (.int .u8 a6), (.int .u8 a7), (.int .u8 a8), (.int .u8 a9)])) w21) :
    Calls Try.prog 9 #[.agg #[.int .u8 a0, .int .u16 a1, .int .u32 a2, .int .u8 a3, .int .u8 a4, .int .u8 a5, .int .u8 a6, .int .u8 a7, .int .u8 a8, .int .u8 a9]] w R :=
  X.calls_of { isLoc := [1, 2, 3], sym := [], loops := [(3, .unroll 4)], joins := [], stored := [(1, [3]), (5, [3])] } Try.func9 (by kernel_rfl) h
abbrev fn_gemotlaw02_RefID : Nat := 13
theorem x_gemotlaw02_RefID (a0 a1 a2 a3 a4 a5 a6 a7 a8 a9 : Int) (w : World) (R : Ending → World → Prop) (h :
  ∃ x1 : X.Facts, (X.FactsW x1 w []) ∧
  (∀ w2 : World, ∀ L3 : List Nat, (X.Hid [] w w2) →
   (X.NewL (w).heap.size [] w w2 L3) →
   X.CallX Try.prog 41 #[(.agg #[(.int .u8 a0), (.int .u16 a1)])] w2 fun e4 w5 =>
    ∃ n6 : Int, ∃ n7 : Int, (e4 = .returned (.agg #[(.int .u8 n6), (.int .u16 n7)])) ∧
    (X.Kept L3 w2 w5) ∧
    (X.FactsW x1 w5 (L3)) ∧
    ∃ x8 : X.Facts, (X.FactsW x8 w5 (L3)) ∧
    ∃ x9 : X.Facts, (X.FactsW x9 w5 (L3)) ∧
    ∃ x10 : X.Facts, (X.FactsW x10 w5 (L3)) ∧
    ∀ w11 : World, (X.Hid (L3) w5 w11) →
    R (.returned (.agg #[(.int .u8 n6), (.int .u16 n7), (.int .u32 a2), (.int .u8 a3), (.int .u8 a4), (.int .u8 a5), (.int .u8 a6), (.int .u8 a7), (.int .u8 a8), (.int .u8 a9)])) w11) ∧
  ∀ w12 : World, ∀ L13 : List Nat, (X.Hid [] w w12) →
  (X.NewL (w).heap.size [] w w12 L13) →
  X.CallX Try.prog 41 #[(.agg #[(.int .u8 a0), (.int .u16 a1)])] w12 fun e14 w15 =>
   ∃ n16 : Int, ∃ n17 : Int, (e14 = .returned (.agg #[(.int .u8 n16), (.int .u16 n17)])) ∧
   (X.Kept L13 w12 w15) ∧
   (X.FactsW x1 w15 (L13)) ∧
   ∃ x18 : X.Facts, (X.FactsW x18 w15 (L13)) ∧
   ∃ x19 : X.Facts, (X.FactsW x19 w15 (L13)) ∧
   ∃ x20 : X.Facts, (X.FactsW x20 w15 (L13)) ∧
   ∀ w21 : World, (X.Hid (L13) w15 w21) →
   R (.returned (.agg #[(.int .u8 n16), (.int .u16 n17), (.int .u32 a2), (.int .u8 a3), (.int .u8 a4), (.int .u8 a5), (.int .u8 a6), (.int .u8 a7), (.int .u8 a8), (.int .u8 a9)])) w21) :
    Calls Try.prog 13 #[.agg #[.int .u8 a0, .int .u16 a1, .int .u32 a2, .int .u8 a3, .int .u8 a4, .int .u8 a5, .int .u8 a6, .int .u8 a7, .int .u8 a8, .int .u8 a9]] w R :=
  X.calls_of { isLoc := [1, 2, 3], sym := [], loops := [(3, .unroll 4)], joins := [], stored := [(1, [3]), (5, [3])] } Try.func13 (by kernel_rfl) h
abbrev fn_gemotlaw02_knows : Nat := 22
theorem x_gemotlaw02_knows  (w : World) (R : Ending → World → Prop) (h :
  X.CallX Try.prog 8 #[(.agg #[(.int .u8 1), (.int .u16 1), (.int .u32 5), (.int .u8 0), (.int .u8 0), (.int .u8 0), (.int .u8 0), (.int .u8 0), (.int .u8 0), (.int .u8 0)]), (.int .u8 2), (.int .u8 1)] w fun e1 w2 =>
   ∃ n3 : Int, ∃ n4 : Int, ∃ n5 : Int, ∃ n6 : Int, ∃ n7 : Int, ∃ n8 : Int, ∃ n9 : Int, ∃ n10 : Int, ∃ n11 : Int, ∃ n12 : Int, ∃ n13 : Int, (e1 = .returned (.tuple #[(.agg #[(.int .u8 n3), (.int .u16 n4), (.int .u32 n5), (.int .u8 n6), (.int .u8 n7), (.int .u8 n8), (.int .u8 n9), (.int .u8 n10), (.int .u8 n11), (.int .u8 n12)]), (.int .i64 n13)])) ∧
   ((w).heap.size ≤ (w2).heap.size) ∧
   ∀ w14 : World, ∀ L15 : List Nat, (X.Hid [] w2 w14) →
   (X.NewL (w).heap.size [] w2 w14 L15) →
   X.CallX Try.prog 14 #[(.int .i64 n13)] w14 fun e16 w17 =>
    ∃ n18 : Int, (e16 = .returned (.int .i64 n18)) ∧
    (X.Kept L15 w14 w17) ∧
    if ((((n18 == 0) && (n6 == 1)) && ((n7 == 2) && (n8 == 1))) == true) = true then
     X.CallX Try.prog 17 #[(.agg #[(.int .u8 n3), (.int .u16 n4), (.int .u32 n5), (.int .u8 n6), (.int .u8 n7), (.int .u8 n8), (.int .u8 n9), (.int .u8 n10), (.int .u8 n11), (.int .u8 n12)])] w17 fun e19 w20 =>
      ∃ b21 : Bool, (e19 = .returned (.bool b21)) ∧
      (X.Kept L15 w17 w20) ∧
      R (.returned (.bool (true && b21))) w20
    else
     R (.returned (.bool false)) w17) :
    Calls Try.prog 22 #[] w R :=
  X.calls_of { isLoc := [1], sym := [], loops := [], joins := [] } Try.func22 (by kernel_rfl) h
abbrev fn_gemotref02_Child : Nat := 10
theorem x_gemotref02_Child (a0 a1 a2 a3 a4 a5 a6 a7 a8 a9 b c : Int) (w : World) (R : Ending → World → Prop) (h :
  ∀ w1 : World, ∀ L2 : List Nat, (X.Hid [] w w1) →
  (X.NewL (w).heap.size [] w w1 L2) →
  X.CallX Try.prog 18 #[(.agg #[(.int .u8 a0), (.int .u16 a1), (.int .u32 a2), (.int .u8 a3), (.int .u8 a4), (.int .u8 a5), (.int .u8 a6), (.int .u8 a7), (.int .u8 a8), (.int .u8 a9)])] w1 fun e3 w4 =>
   ∃ b5 : Bool, (e3 = .returned (.bool b5)) ∧
   (X.Kept L2 w1 w4) ∧
   if ((!b5) || decide (b ≥ 4)) = true then
    ∀ w10 : World, (X.Hid (L2) w4 w10) →
    R (.returned (.tuple #[(.agg #[(.int .u8 0), (.int .u16 0), (.int .u32 0), (.int .u8 0), (.int .u8 0), (.int .u8 0), (.int .u8 0), (.int .u8 0), (.int .u8 0), (.int .u8 0)]), (.int .i64 1)])) w10
   else
    if (a3 == 3) = true then
     ∀ w9 : World, (X.Hid (L2) w4 w9) →
     R (.returned (.tuple #[(.agg #[(.int .u8 0), (.int .u16 0), (.int .u32 0), (.int .u8 0), (.int .u8 0), (.int .u8 0), (.int .u8 0), (.int .u8 0), (.int .u8 0), (.int .u8 0)]), (.int .i64 18)])) w9
    else
     (0 ≤ a3) ∧
     (a3 < 3) ∧
     (((a3 = 0) →
       ∀ w6 : World, (X.Hid (L2) w4 w6) →
       R (.returned (.tuple #[(.agg #[(.int .u8 a0), (.int .u16 a1), (.int .u32 a2), (.int .u8 (IntKind.wrap .u8 (a3 + 1))), (.int .u8 b), (.int .u8 c), (.int .u8 a6), (.int .u8 a7), (.int .u8 a8), (.int .u8 a9)]), (.int .i64 0)])) w6) ∧
      ((a3 = 1) →
      ∀ w7 : World, (X.Hid (L2) w4 w7) →
      R (.returned (.tuple #[(.agg #[(.int .u8 a0), (.int .u16 a1), (.int .u32 a2), (.int .u8 (IntKind.wrap .u8 (a3 + 1))), (.int .u8 a4), (.int .u8 a5), (.int .u8 b), (.int .u8 c), (.int .u8 a8), (.int .u8 a9)]), (.int .i64 0)])) w7)) ∧
     ((a3 = 2) →
     ∀ w8 : World, (X.Hid (L2) w4 w8) →
     R (.returned (.tuple #[(.agg #[(.int .u8 a0), (.int .u16 a1), (.int .u32 a2), (.int .u8 (IntKind.wrap .u8 (a3 + 1))), (.int .u8 a4), (.int .u8 a5), (.int .u8 a6), (.int .u8 a7), (.int .u8 b), (.int .u8 c)]), (.int .i64 0)])) w8)) :
    Calls Try.prog 10 #[.agg #[.int .u8 a0, .int .u16 a1, .int .u32 a2, .int .u8 a3, .int .u8 a4, .int .u8 a5, .int .u8 a6, .int .u8 a7, .int .u8 a8, .int .u8 a9], .int .u8 b, .int .u8 c] w R :=
  X.calls_of { isLoc := [3, 6], sym := [26], loops := [], joins := [] } Try.func10 (by kernel_rfl) h
abbrev fn_gemotref02_Parent : Nat := 12
theorem x_gemotref02_Parent (a0 a1 a2 a3 a4 a5 a6 a7 a8 a9 : Int) (w : World) (R : Ending → World → Prop) (h :
  ∀ w1 : World, ∀ L2 : List Nat, (X.Hid [] w w1) →
  (X.NewL (w).heap.size [] w w1 L2) →
  X.CallX Try.prog 18 #[(.agg #[(.int .u8 a0), (.int .u16 a1), (.int .u32 a2), (.int .u8 a3), (.int .u8 a4), (.int .u8 a5), (.int .u8 a6), (.int .u8 a7), (.int .u8 a8), (.int .u8 a9)])] w1 fun e3 w4 =>
   ∃ b5 : Bool, (e3 = .returned (.bool b5)) ∧
   (X.Kept L2 w1 w4) ∧
   if (!b5) = true then
    ∀ w10 : World, (X.Hid (L2) w4 w10) →
    R (.returned (.tuple #[(.agg #[(.int .u8 0), (.int .u16 0), (.int .u32 0), (.int .u8 0), (.int .u8 0), (.int .u8 0), (.int .u8 0), (.int .u8 0), (.int .u8 0), (.int .u8 0)]), (.int .i64 1)])) w10
   else
    if (a3 == 0) = true then
     ∀ w9 : World, (X.Hid (L2) w4 w9) →
     R (.returned (.tuple #[(.agg #[(.int .u8 0), (.int .u16 0), (.int .u32 0), (.int .u8 0), (.int .u8 0), (.int .u8 0), (.int .u8 0), (.int .u8 0), (.int .u8 0), (.int .u8 0)]), (.int .i64 3)])) w9
    else
     (0 ≤ (IntKind.wrap .u8 (a3 - 1))) ∧
     ((IntKind.wrap .u8 (a3 - 1)) < 3) ∧
     ((((IntKind.wrap .u8 (a3 - 1)) = 0) →
       ∀ w6 : World, (X.Hid (L2) w4 w6) →
       R (.returned (.tuple #[(.agg #[(.int .u8 a0), (.int .u16 a1), (.int .u32 a2), (.int .u8 (IntKind.wrap .u8 (a3 - 1))), (.int .u8 0), (.int .u8 0), (.int .u8 a6), (.int .u8 a7), (.int .u8 a8), (.int .u8 a9)]), (.int .i64 0)])) w6) ∧
      (((IntKind.wrap .u8 (a3 - 1)) = 1) →
      ∀ w7 : World, (X.Hid (L2) w4 w7) →
      R (.returned (.tuple #[(.agg #[(.int .u8 a0), (.int .u16 a1), (.int .u32 a2), (.int .u8 (IntKind.wrap .u8 (a3 - 1))), (.int .u8 a4), (.int .u8 a5), (.int .u8 0), (.int .u8 0), (.int .u8 a8), (.int .u8 a9)]), (.int .i64 0)])) w7)) ∧
     (((IntKind.wrap .u8 (a3 - 1)) = 2) →
     ∀ w8 : World, (X.Hid (L2) w4 w8) →
     R (.returned (.tuple #[(.agg #[(.int .u8 a0), (.int .u16 a1), (.int .u32 a2), (.int .u8 (IntKind.wrap .u8 (a3 - 1))), (.int .u8 a4), (.int .u8 a5), (.int .u8 a6), (.int .u8 a7), (.int .u8 0), (.int .u8 0)]), (.int .i64 0)])) w8)) :
    Calls Try.prog 12 #[.agg #[.int .u8 a0, .int .u16 a1, .int .u32 a2, .int .u8 a3, .int .u8 a4, .int .u8 a5, .int .u8 a6, .int .u8 a7, .int .u8 a8, .int .u8 a9]] w R :=
  X.calls_of { isLoc := [1, 2], sym := [20], loops := [], joins := [] } Try.func12 (by kernel_rfl) h
abbrev fn_gemotlaw02_IdentSteps : Nat := 3
theorem x_gemotlaw02_IdentSteps (a0 a1 a2 a3 a4 a5 a6 a7 a8 a9 b c : Int) (w : World) (R : Ending → World → Prop) (h :
  ∀ w1 : World, ∀ L2 : List Nat, (X.Hid [] w w1) →
  (X.NewL (w).heap.size [] w w1 L2) →
  X.CallX Try.prog 9 #[(.agg #[(.int .u8 a0), (.int .u16 a1), (.int .u32 a2), (.int .u8 a3), (.int .u8 a4), (.int .u8 a5), (.int .u8 a6), (.int .u8 a7), (.int .u8 a8), (.int .u8 a9)])] w1 fun e3 w4 =>
   ∃ n5 : Int, ∃ n6 : Int, ∃ n7 : Int, ∃ n8 : Int, ∃ n9 : Int, ∃ n10 : Int, ∃ n11 : Int, ∃ n12 : Int, ∃ n13 : Int, ∃ n14 : Int, (e3 = .returned (.agg #[(.int .u8 n5), (.int .u16 n6), (.int .u32 n7), (.int .u8 n8), (.int .u8 n9), (.int .u8 n10), (.int .u8 n11), (.int .u8 n12), (.int .u8 n13), (.int .u8 n14)])) ∧
   (X.Kept L2 w1 w4) ∧
   X.CallX Try.prog 8 #[(.agg #[(.int .u8 n5), (.int .u16 n6), (.int .u32 n7), (.int .u8 n8), (.int .u8 n9), (.int .u8 n10), (.int .u8 n11), (.int .u8 n12), (.int .u8 n13), (.int .u8 n14)]), (.int .u8 b), (.int .u8 c)] w4 fun e15 w16 =>
    ∃ n17 : Int, ∃ n18 : Int, ∃ n19 : Int, ∃ n20 : Int, ∃ n21 : Int, ∃ n22 : Int, ∃ n23 : Int, ∃ n24 : Int, ∃ n25 : Int, ∃ n26 : Int, ∃ n27 : Int, (e15 = .returned (.tuple #[(.agg #[(.int .u8 n17), (.int .u16 n18), (.int .u32 n19), (.int .u8 n20), (.int .u8 n21), (.int .u8 n22), (.int .u8 n23), (.int .u8 n24), (.int .u8 n25), (.int .u8 n26)]), (.int .i64 n27)])) ∧
    (X.Kept L2 w4 w16) ∧
    ∀ w28 : World, ∀ L29 : List Nat, (X.Hid (L2) w16 w28) →
    (X.NewL (w).heap.size (L2) w16 w28 L29) →
    X.CallX Try.prog 10 #[(.agg #[(.int .u8 a0), (.int .u16 a1), (.int .u32 a2), (.int .u8 a3), (.int .u8 a4), (.int .u8 a5), (.int .u8 a6), (.int .u8 a7), (.int .u8 a8), (.int .u8 a9)]), (.int .u8 b), (.int .u8 c)] w28 fun e30 w31 =>
     ∃ n32 : Int, ∃ n33 : Int, ∃ n34 : Int, ∃ n35 : Int, ∃ n36 : Int, ∃ n37 : Int, ∃ n38 : Int, ∃ n39 : Int, ∃ n40 : Int, ∃ n41 : Int, ∃ n42 : Int, (e30 = .returned (.tuple #[(.agg #[(.int .u8 n32), (.int .u16 n33), (.int .u32 n34), (.int .u8 n35), (.int .u8 n36), (.int .u8 n37), (.int .u8 n38), (.int .u8 n39), (.int .u8 n40), (.int .u8 n41)]), (.int .i64 n42)])) ∧
     (X.Kept L29 w28 w31) ∧
     ∀ w43 : World, ∀ L44 : List Nat, (X.Hid (L29) w31 w43) →
     (X.NewL (w).heap.size (L29) w31 w43 L44) →
     X.CallX Try.prog 9 #[(.agg #[(.int .u8 a0), (.int .u16 a1), (.int .u32 a2), (.int .u8 a3), (.int .u8 a4), (.int .u8 a5), (.int .u8 a6), (.int .u8 a7), (.int .u8 a8), (.int .u8 a9)])] w43 fun e45 w46 =>
      ∃ n47 : Int, ∃ n48 : Int, ∃ n49 : Int, ∃ n50 : Int, ∃ n51 : Int, ∃ n52 : Int, ∃ n53 : Int, ∃ n54 : Int, ∃ n55 : Int, ∃ n56 : Int, (e45 = .returned (.agg #[(.int .u8 n47), (.int .u16 n48), (.int .u32 n49), (.int .u8 n50), (.int .u8 n51), (.int .u8 n52), (.int .u8 n53), (.int .u8 n54), (.int .u8 n55), (.int .u8 n56)])) ∧
      (X.Kept L44 w43 w46) ∧
      X.CallX Try.prog 11 #[(.agg #[(.int .u8 n47), (.int .u16 n48), (.int .u32 n49), (.int .u8 n50), (.int .u8 n51), (.int .u8 n52), (.int .u8 n53), (.int .u8 n54), (.int .u8 n55), (.int .u8 n56)])] w46 fun e57 w58 =>
       ∃ n59 : Int, ∃ n60 : Int, ∃ n61 : Int, ∃ n62 : Int, ∃ n63 : Int, ∃ n64 : Int, ∃ n65 : Int, ∃ n66 : Int, ∃ n67 : Int, ∃ n68 : Int, ∃ n69 : Int, (e57 = .returned (.tuple #[(.agg #[(.int .u8 n59), (.int .u16 n60), (.int .u32 n61), (.int .u8 n62), (.int .u8 n63), (.int .u8 n64), (.int .u8 n65), (.int .u8 n66), (.int .u8 n67), (.int .u8 n68)]), (.int .i64 n69)])) ∧
       (X.Kept L44 w46 w58) ∧
       ∀ w70 : World, ∀ L71 : List Nat, (X.Hid (L44) w58 w70) →
       (X.NewL (w).heap.size (L44) w58 w70 L71) →
       X.CallX Try.prog 12 #[(.agg #[(.int .u8 a0), (.int .u16 a1), (.int .u32 a2), (.int .u8 a3), (.int .u8 a4), (.int .u8 a5), (.int .u8 a6), (.int .u8 a7), (.int .u8 a8), (.int .u8 a9)])] w70 fun e72 w73 =>
        ∃ n74 : Int, ∃ n75 : Int, ∃ n76 : Int, ∃ n77 : Int, ∃ n78 : Int, ∃ n79 : Int, ∃ n80 : Int, ∃ n81 : Int, ∃ n82 : Int, ∃ n83 : Int, ∃ n84 : Int, (e72 = .returned (.tuple #[(.agg #[(.int .u8 n74), (.int .u16 n75), (.int .u32 n76), (.int .u8 n77), (.int .u8 n78), (.int .u8 n79), (.int .u8 n80), (.int .u8 n81), (.int .u8 n82), (.int .u8 n83)]), (.int .i64 n84)])) ∧
        (X.Kept L71 w70 w73) ∧
        ∃ x85 : X.Facts, (X.FactsW x85 w73 (L71)) ∧
        ∀ w86 : World, ∀ L87 : List Nat, (X.Hid (L71) w73 w86) →
        (X.NewL (w).heap.size (L71) w73 w86 L87) →
        X.CallX Try.prog 13 #[(.agg #[(.int .u8 n17), (.int .u16 n18), (.int .u32 n19), (.int .u8 n20), (.int .u8 n21), (.int .u8 n22), (.int .u8 n23), (.int .u8 n24), (.int .u8 n25), (.int .u8 n26)])] w86 fun e88 w89 =>
         ∃ n90 : Int, ∃ n91 : Int, ∃ n92 : Int, ∃ n93 : Int, ∃ n94 : Int, ∃ n95 : Int, ∃ n96 : Int, ∃ n97 : Int, ∃ n98 : Int, ∃ n99 : Int, (e88 = .returned (.agg #[(.int .u8 n90), (.int .u16 n91), (.int .u32 n92), (.int .u8 n93), (.int .u8 n94), (.int .u8 n95), (.int .u8 n96), (.int .u8 n97), (.int .u8 n98), (.int .u8 n99)])) ∧
         (X.Kept L87 w86 w89) ∧
         (X.FactsW x85 w89 (L87)) ∧
         if ((((n90 == n32) && (n91 == n33)) && ((n92 == n34) && ((n93 == n35) && (((n94 == n36) && (n95 == n37)) && (((n96 == n38) && (n97 == n39)) && ((n98 == n40) && (n99 == n41))))))) == true) = true then
          X.CallX Try.prog 14 #[(.int .i64 n27)] w89 fun e100 w101 =>
           ∃ n102 : Int, (e100 = .returned (.int .i64 n102)) ∧
           (X.Kept L87 w89 w101) ∧
           (X.FactsW x85 w101 (L87)) ∧
           if ((true && (n102 == n42)) == true) = true then
            X.CallX Try.prog 13 #[(.agg #[(.int .u8 n59), (.int .u16 n60), (.int .u32 n61), (.int .u8 n62), (.int .u8 n63), (.int .u8 n64), (.int .u8 n65), (.int .u8 n66), (.int .u8 n67), (.int .u8 n68)])] w101 fun e103 w104 =>
             ∃ n105 : Int, ∃ n106 : Int, ∃ n107 : Int, ∃ n108 : Int, ∃ n109 : Int, ∃ n110 : Int, ∃ n111 : Int, ∃ n112 : Int, ∃ n113 : Int, ∃ n114 : Int, (e103 = .returned (.agg #[(.int .u8 n105), (.int .u16 n106), (.int .u32 n107), (.int .u8 n108), (.int .u8 n109), (.int .u8 n110), (.int .u8 n111), (.int .u8 n112), (.int .u8 n113), (.int .u8 n114)])) ∧
             (X.Kept L87 w101 w104) ∧
             (X.FactsW x85 w104 (L87)) ∧
             if ((true && (((n105 == n74) && (n106 == n75)) && ((n107 == n76) && ((n108 == n77) && (((n109 == n78) && (n110 == n79)) && (((n111 == n80) && (n112 == n81)) && ((n113 == n82) && (n114 == n83)))))))) == true) = true then
              X.CallX Try.prog 14 #[(.int .i64 n69)] w104 fun e115 w116 =>
               ∃ n117 : Int, (e115 = .returned (.int .i64 n117)) ∧
               (X.Kept L87 w104 w116) ∧
               (X.FactsW x85 w116 (L87)) ∧
               if ((true && (n117 == n84)) == true) = true then
                X.CallX Try.prog 9 #[(.agg #[(.int .u8 a0), (.int .u16 a1), (.int .u32 a2), (.int .u8 a3), (.int .u8 a4), (.int .u8 a5), (.int .u8 a6), (.int .u8 a7), (.int .u8 a8), (.int .u8 a9)])] w116 fun e118 w119 =>
                 ∃ n120 : Int, ∃ n121 : Int, ∃ n122 : Int, ∃ n123 : Int, ∃ n124 : Int, ∃ n125 : Int, ∃ n126 : Int, ∃ n127 : Int, ∃ n128 : Int, ∃ n129 : Int, (e118 = .returned (.agg #[(.int .u8 n120), (.int .u16 n121), (.int .u32 n122), (.int .u8 n123), (.int .u8 n124), (.int .u8 n125), (.int .u8 n126), (.int .u8 n127), (.int .u8 n128), (.int .u8 n129)])) ∧
                 (X.Kept L87 w116 w119) ∧
                 (X.FactsW x85 w119 (L87)) ∧
                 X.CallX Try.prog 15 #[(.agg #[(.int .u8 n120), (.int .u16 n121), (.int .u32 n122), (.int .u8 n123), (.int .u8 n124), (.int .u8 n125), (.int .u8 n126), (.int .u8 n127), (.int .u8 n128), (.int .u8 n129)])] w119 fun e130 w131 =>
                  ∃ n132 : Int, ∃ n133 : Int, ∃ n134 : Int, ∃ n135 : Int, ∃ n136 : Int, ∃ n137 : Int, ∃ n138 : Int, ∃ n139 : Int, ∃ n140 : Int, ∃ n141 : Int, (e130 = .returned (.agg #[(.int .u8 n132), (.int .u16 n133), (.int .u32 n134), (.int .u8 n135), (.int .u8 n136), (.int .u8 n137), (.int .u8 n138), (.int .u8 n139), (.int .u8 n140), (.int .u8 n141)])) ∧
                  (X.Kept L87 w119 w131) ∧
                  (X.FactsW x85 w131 (L87)) ∧
                  X.CallX Try.prog 13 #[(.agg #[(.int .u8 n132), (.int .u16 n133), (.int .u32 n134), (.int .u8 n135), (.int .u8 n136), (.int .u8 n137), (.int .u8 n138), (.int .u8 n139), (.int .u8 n140), (.int .u8 n141)])] w131 fun e142 w143 =>
                   ∃ n144 : Int, ∃ n145 : Int, ∃ n146 : Int, ∃ n147 : Int, ∃ n148 : Int, ∃ n149 : Int, ∃ n150 : Int, ∃ n151 : Int, ∃ n152 : Int, ∃ n153 : Int, (e142 = .returned (.agg #[(.int .u8 n144), (.int .u16 n145), (.int .u32 n146), (.int .u8 n147), (.int .u8 n148), (.int .u8 n149), (.int .u8 n150), (.int .u8 n151), (.int .u8 n152), (.int .u8 n153)])) ∧
                   (X.Kept L87 w131 w143) ∧
                   (X.FactsW x85 w143 (L87)) ∧
                   X.CallX Try.prog 16 #[(.agg #[(.int .u8 a0), (.int .u16 a1), (.int .u32 a2), (.int .u8 a3), (.int .u8 a4), (.int .u8 a5), (.int .u8 a6), (.int .u8 a7), (.int .u8 a8), (.int .u8 a9)])] w143 fun e154 w155 =>
                    ∃ n156 : Int, ∃ n157 : Int, ∃ n158 : Int, ∃ n159 : Int, ∃ n160 : Int, ∃ n161 : Int, ∃ n162 : Int, ∃ n163 : Int, ∃ n164 : Int, ∃ n165 : Int, (e154 = .returned (.agg #[(.int .u8 n156), (.int .u16 n157), (.int .u32 n158), (.int .u8 n159), (.int .u8 n160), (.int .u8 n161), (.int .u8 n162), (.int .u8 n163), (.int .u8 n164), (.int .u8 n165)])) ∧
                    (X.Kept L87 w143 w155) ∧
                    (X.FactsW x85 w155 (L87)) ∧
                    if ((true && (((n144 == n156) && (n145 == n157)) && ((n146 == n158) && ((n147 == n159) && (((n148 == n160) && (n149 == n161)) && (((n150 == n162) && (n151 == n163)) && ((n152 == n164) && (n153 == n165)))))))) == true) = true then
                     X.CallX Try.prog 9 #[(.agg #[(.int .u8 a0), (.int .u16 a1), (.int .u32 a2), (.int .u8 a3), (.int .u8 a4), (.int .u8 a5), (.int .u8 a6), (.int .u8 a7), (.int .u8 a8), (.int .u8 a9)])] w155 fun e166 w167 =>
                      ∃ n168 : Int, ∃ n169 : Int, ∃ n170 : Int, ∃ n171 : Int, ∃ n172 : Int, ∃ n173 : Int, ∃ n174 : Int, ∃ n175 : Int, ∃ n176 : Int, ∃ n177 : Int, (e166 = .returned (.agg #[(.int .u8 n168), (.int .u16 n169), (.int .u32 n170), (.int .u8 n171), (.int .u8 n172), (.int .u8 n173), (.int .u8 n174), (.int .u8 n175), (.int .u8 n176), (.int .u8 n177)])) ∧
                      (X.Kept L87 w155 w167) ∧
                      (X.FactsW x85 w167 (L87)) ∧
                      X.CallX Try.prog 17 #[(.agg #[(.int .u8 n168), (.int .u16 n169), (.int .u32 n170), (.int .u8 n171), (.int .u8 n172), (.int .u8 n173), (.int .u8 n174), (.int .u8 n175), (.int .u8 n176), (.int .u8 n177)])] w167 fun e178 w179 =>
                       ∃ b180 : Bool, (e178 = .returned (.bool b180)) ∧
                       (X.Kept L87 w167 w179) ∧
                       (X.FactsW x85 w179 (L87)) ∧
                       X.CallX Try.prog 18 #[(.agg #[(.int .u8 a0), (.int .u16 a1), (.int .u32 a2), (.int .u8 a3), (.int .u8 a4), (.int .u8 a5), (.int .u8 a6), (.int .u8 a7), (.int .u8 a8), (.int .u8 a9)])] w179 fun e181 w182 =>
                        ∃ b183 : Bool, (e181 = .returned (.bool b183)) ∧
                        (X.Kept L87 w179 w182) ∧
                        (X.FactsW x85 w182 (L87)) ∧
                        if ((true && (b180 == b183)) == true) = true then
                         X.CallX Try.prog 19 #[(.agg #[(.int .u8 a0), (.int .u16 a1)])] w182 fun e184 w185 =>
                          ∃ n186 : Int, ∃ n187 : Int, (e184 = .returned (.agg #[(.int .u8 n186), (.int .u16 n187)])) ∧
                          (X.Kept L87 w182 w185) ∧
                          (X.FactsW x85 w185 (L87)) ∧
                          X.CallX Try.prog 20 #[(.agg #[(.int .u8 n186), (.int .u16 n187)])] w185 fun e188 w189 =>
                           ∃ b190 : Bool, (e188 = .returned (.bool b190)) ∧
                           (X.Kept L87 w185 w189) ∧
                           (X.FactsW x85 w189 (L87)) ∧
                           X.CallX Try.prog 21 #[(.agg #[(.int .u8 a0), (.int .u16 a1)])] w189 fun e191 w192 =>
                            ∃ b193 : Bool, (e191 = .returned (.bool b193)) ∧
                            (X.Kept L87 w189 w192) ∧
                            (X.FactsW x85 w192 (L87)) ∧
                            if ((true && (b190 == b193)) == true) = true then
                             X.CallX Try.prog 22 #[] w192 fun e194 w195 =>
                              ∃ b196 : Bool, (e194 = .returned (.bool b196)) ∧
                              (X.Kept L87 w192 w195) ∧
                              (X.FactsW x85 w195 (L87)) ∧
                              R (.returned (.bool (true && b196))) w195
                            else
                             R (.returned (.bool false)) w192
                        else
                         R (.returned (.bool false)) w182
                    else
                     R (.returned (.bool false)) w155
               else
                R (.returned (.bool false)) w116
             else
              R (.returned (.bool false)) w104
           else
            R (.returned (.bool false)) w101
         else
          R (.returned (.bool false)) w89) :
    Calls Try.prog 3 #[.agg #[.int .u8 a0, .int .u16 a1, .int .u32 a2, .int .u8 a3, .int .u8 a4, .int .u8 a5, .int .u8 a6, .int .u8 a7, .int .u8 a8, .int .u8 a9], .int .u8 b, .int .u8 c] w R :=
  X.calls_of { isLoc := [3, 7, 9, 11, 13], sym := [], loops := [], joins := [] } Try.func3 (by kernel_rfl) h
end Go.Proofs
