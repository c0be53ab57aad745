import Derived.Test.YtdmiblfckigjoaaDoorXFn
import Derived.Test.YtdmiblfckigjoaaDoorProg
/- The verification conditions of this seat's functions, as the engine has them: printed by a program of the bench; checked by the kernel. -/
set_option maxRecDepth 100000
set_option linter.unusedVariables false
namespace Go.Proofs
open Go
abbrev fn_part_Part_Right : Nat := 64
theorem x_part_Part_Right (a_0 a_1 : Int) (a_2 a_3 : ByteArray) (a_4 : Int) (w : World) (R : Ending → World → Prop) (h :
  if (((decide (a_0 < 4) && (!((a_2.toList) == ((ByteArray.mk #[]).toList)))) && decide ((((a_2.size) : Nat) : Int) ≤ 16)) == true) = true then
   ∀ w2 : World, ∀ L3 : List Nat, (X.Hid [] w w2) →
   (X.NewL (w).heap.size [] w w2 L3) →
   X.CallX Tryd.prog 69 #[(.agg #[(.int .u8 a_0), (.int .u8 a_1), (.string a_2), (.string a_3), (.int .i64 a_4)])] w2 fun e4 w5 =>
    ∃ b6 : Bool, (e4 = .returned (.bool b6)) ∧
    (X.Kept L3 w2 w5) ∧
    R (.returned (.bool (true && b6))) w5
  else
   ∀ w1 : World, (X.Hid [] w w1) →
   R (.returned (.bool false)) w1) :
    Calls Tryd.prog 64 #[.agg #[.int .u8 a_0, .int .u8 a_1, .string a_2, .string a_3, .int .i64 a_4]] w R :=
  X.calls_of { isLoc := [1], sym := [], loops := [], joins := [] } Tryd.func64 (by kernel_rfl) h
abbrev fn_part_Part_fits : Nat := 69
theorem x_part_Part_fits (a_0 a_1 : Int) (a_2 a_3 : ByteArray) (a_4 : Int) (w : World) (R : Ending → World → Prop) (h :
  if (a_1 == 1) = true then
   ∀ w9 : World, (X.Hid [] w w9) →
   R (.returned (.bool (decide ((((a_3.size) : Nat) : Int) ≤ 64) && (a_4 == 0)))) w9
  else
   if (a_1 == 2) = true then
    if (a_1 == 2) = true then
     ∀ w8 : World, (X.Hid [] w w8) →
     R (.returned (.bool (((a_3.toList) == ((ByteArray.mk #[]).toList)) && decide (a_4 ≥ 0)))) w8
    else
     if (a_1 == 0) = true then
      ∀ w7 : World, (X.Hid [] w w7) →
      R (.returned (.bool (((a_3.toList) == ((ByteArray.mk #[]).toList)) && (a_4 == 0)))) w7
     else
      if (a_1 == 4) = true then
       ∀ w6 : World, (X.Hid [] w w6) →
       R (.returned (.bool (((a_3.toList) == ((ByteArray.mk #[]).toList)) && (a_4 == 0)))) w6
      else
       ∀ w5 : World, (X.Hid [] w w5) →
       R (.returned (.bool false)) w5
   else
    if (a_1 == 3) = true then
     ∀ w4 : World, (X.Hid [] w w4) →
     R (.returned (.bool (((a_3.toList) == ((ByteArray.mk #[]).toList)) && decide (a_4 ≥ 0)))) w4
    else
     if (a_1 == 0) = true then
      ∀ w3 : World, (X.Hid [] w w3) →
      R (.returned (.bool (((a_3.toList) == ((ByteArray.mk #[]).toList)) && (a_4 == 0)))) w3
     else
      if (a_1 == 4) = true then
       ∀ w2 : World, (X.Hid [] w w2) →
       R (.returned (.bool (((a_3.toList) == ((ByteArray.mk #[]).toList)) && (a_4 == 0)))) w2
      else
       ∀ w1 : World, (X.Hid [] w w1) →
       R (.returned (.bool false)) w1) :
    Calls Tryd.prog 69 #[.agg #[.int .u8 a_0, .int .u8 a_1, .string a_2, .string a_3, .int .i64 a_4]] w R :=
  X.calls_of { isLoc := [1], sym := [], loops := [], joins := [] } Tryd.func69 (by kernel_rfl) h
abbrev fn_part_Right_1 : Nat := 63
theorem x_part_Right_1 (a_0 a_1 : Int) (a_2 a_3 : ByteArray) (a_4 : Int) (w : World) (R : Ending → World → Prop) (h :
  ∀ w1 : World, ∀ L2 : List Nat, (X.Hid [] w w1) →
  (X.NewL (w).heap.size [] w w1 L2) →
  X.CallX Tryd.prog 64 #[(.agg #[(.int .u8 a_0), (.int .u8 a_1), (.string a_2), (.string a_3), (.int .i64 a_4)])] w1 fun e3 w4 =>
   ∃ b5 : Bool, (e3 = .returned (.bool b5)) ∧
   (X.Kept L2 w1 w4) ∧
   R (.returned (.bool (!b5))) w4) :
    Calls Tryd.prog 63 #[.agg #[.int .u8 a_0, .int .u8 a_1, .string a_2, .string a_3, .int .i64 a_4]] w R :=
  X.calls_of { isLoc := [1], sym := [], loops := [], joins := [] } Tryd.func63 (by kernel_rfl) h
abbrev fn_part_Right : Nat := 56
theorem x_part_Right (a : Option Addr) (al ac : Nat) (w : World) (R : Ending → World → Prop) (h :
  if (decide (((al : Nat) : Int) < 1) || decide (((al : Nat) : Int) > 4)) = true then
   R (.returned (.bool false)) w
  else
   X.CallX Tryd.prog 62 #[(.slice (a) al ac), (.func (.func 63) #[] #[])] w fun e1 w2 =>
    ∃ b3 : Bool, (e1 = .returned (.bool b3)) ∧
    ((w).heap.size ≤ (w2).heap.size) ∧
    R (.returned (.bool (!b3))) w2) :
    Calls Tryd.prog 56 #[.slice a al ac] w R :=
  X.calls_of { isLoc := [], sym := [], loops := [], joins := [] } Tryd.func56 (by kernel_rfl) h
abbrev fn_ContainsF : Nat := 62
theorem x_ContainsF (a : Option Addr) (al ac : Nat) (w : World) (R : Ending → World → Prop) (h :
  X.CallX Tryd.prog 68 #[(.slice (a) al ac), (.func (.func (OfNat.ofNat 63)) #[] #[])] w fun e1 w2 =>
   ∃ n3 : Int, (e1 = .returned (.int .i64 n3)) ∧
   ((w).heap.size ≤ (w2).heap.size) ∧
   R (.returned (.bool (decide (n3 ≥ 0)))) w2) :
    Calls Tryd.prog 62 #[.slice a al ac, .func (.func 63) #[] #[]] w R :=
  X.calls_of { isLoc := [], sym := [], loops := [], joins := [] } Tryd.func62 (by kernel_rfl) h
abbrev fn_IndexF : Nat := 68
theorem x_IndexF (a : Option Addr) (al ac : Nat) (w : World) (R : Ending → World → Prop) (h :
  ∃ x1 : Int → World → List Nat → Prop, ∃ x2 : Int → World → Nat, (x1 0 w []) ∧
  ∀ n3 : Int, ∀ w4 : World, ∀ L5 : List Nat, (X.LF (w).heap.size w4 L5) →
  (x1 n3 w4 L5) →
  if (decide (n3 < ((al : Nat) : Int))) = true then
   ((0 : Int) ≤ n3) ∧
   (n3 < ((al : Nat) : Int)) ∧
   X.onSome (a) fun p6 =>
   ∃ n7 : Int, ∃ n8 : Int, ∃ s9 : ByteArray, ∃ s10 : ByteArray, ∃ n11 : Int, (X.Cells w4 (p6.add ((n3).toNat * 5)) [(.int .u8 n7), (.int .u8 n8), (.string s9), (.string s10), (.int .i64 n11)]) ∧
   X.CallX Tryd.prog (OfNat.ofNat 63) #[(.agg #[(.int .u8 n7), (.int .u8 n8), (.string s9), (.string s10), (.int .i64 n11)])] w4 fun e12 w13 =>
    ∃ b14 : Bool, (e12 = .returned (.bool b14)) ∧
    ((w4).heap.size ≤ (w13).heap.size) ∧
    if b14 = true then
     R (.returned (.int .i64 n3)) w13
    else
     (x1 (IntKind.wrap .i64 (n3 + 1)) w13 []) ∧
     Nat.le ((x2 (IntKind.wrap .i64 (n3 + 1)) w13) + 1) (x2 n3 w4)
  else
   R (.returned (.int .i64 (-1))) w4) :
    Calls Tryd.prog 68 #[.slice a al ac, .func (.func 63) #[] #[]] w R :=
  X.calls_of { isLoc := [], sym := [], loops := [(2, .inv [(8, .int .i64)] [] true)], joins := [] } Tryd.func68 (by kernel_rfl) h
abbrev fn_r3Right : Nat := 65
theorem x_r3Right (a_0 a_1 : Int) (a_2 a_3 : ByteArray) (a_4 : Int) (w : World) (R : Ending → World → Prop) (h :
  ∀ w1 : World, (X.Hid [] w w1) →
  R (.returned (.bool (((((((decide (a_0 < 4) && decide (a_1 ≤ 4)) && decide ((((a_2.size) : Nat) : Int) ≥ 1)) && decide ((((a_2.size) : Nat) : Int) ≤ 16)) && decide ((((a_3.size) : Nat) : Int) ≤ 64)) && ((a_1 == 1) || ((a_3.toList) == ((ByteArray.mk #[]).toList)))) && decide (a_4 ≥ 0)) && (((a_1 == 2) || (a_1 == 3)) || (a_4 == 0))))) w1) :
    Calls Tryd.prog 65 #[.agg #[.int .u8 a_0, .int .u8 a_1, .string a_2, .string a_3, .int .i64 a_4]] w R :=
  X.calls_of { isLoc := [1], sym := [], loops := [], joins := [] } Tryd.func65 (by kernel_rfl) h
abbrev fn_r3RightAll : Nat := 57
theorem x_r3RightAll (a : Option Addr) (al ac : Nat) (w : World) (R : Ending → World → Prop) (h :
  ∃ x1 : Int → World → List Nat → Prop, ∃ x2 : Int → World → Nat, (x1 0 w []) ∧
  ∀ n3 : Int, ∀ w4 : World, ∀ L5 : List Nat, (X.LF (w).heap.size w4 L5) →
  (x1 n3 w4 L5) →
  if (decide (n3 < ((al : Nat) : Int)) && decide (n3 < 10)) = true then
   ((0 : Int) ≤ n3) ∧
   (n3 < ((al : Nat) : Int)) ∧
   X.onSome (a) fun p6 =>
   ∃ n7 : Int, ∃ n8 : Int, ∃ s9 : ByteArray, ∃ s10 : ByteArray, ∃ n11 : Int, (X.Cells w4 (p6.add ((n3).toNat * 5)) [(.int .u8 n7), (.int .u8 n8), (.string s9), (.string s10), (.int .i64 n11)]) ∧
   X.CallX Tryd.prog 65 #[(.agg #[(.int .u8 n7), (.int .u8 n8), (.string s9), (.string s10), (.int .i64 n11)])] w4 fun e12 w13 =>
    ∃ b14 : Bool, (e12 = .returned (.bool b14)) ∧
    ((w4).heap.size ≤ (w13).heap.size) ∧
    if (!b14) = true then
     R (.returned (.bool false)) w13
    else
     (x1 (IntKind.wrap .i64 (n3 + 1)) w13 []) ∧
     Nat.le ((x2 (IntKind.wrap .i64 (n3 + 1)) w13) + 1) (x2 n3 w4)
  else
   R (.returned (.bool (decide (((al : Nat) : Int) ≥ 1) && decide (((al : Nat) : Int) ≤ 4)))) w4) :
    Calls Tryd.prog 57 #[.slice a al ac] w R :=
  X.calls_of { isLoc := [], sym := [], loops := [(2, .inv [(3, .int .i64)] [] true)], joins := [] } Tryd.func57 (by kernel_rfl) h
abbrev fn_ResRight : Nat := 27
theorem x_ResRight (a_0 : Int) (a_1 : ByteArray) (w : World) (R : Ending → World → Prop) (h :
  ∀ w1 : World, (X.Hid [] w w1) →
  R (.returned (.bool (decide (a_0 ≤ 5) && decide ((((a_1.size) : Nat) : Int) ≤ 1000)))) w1) :
    Calls Tryd.prog 27 #[.agg #[.int .u8 a_0, .string a_1]] w R :=
  X.calls_of { isLoc := [1], sym := [], loops := [], joins := [] } Tryd.func27 (by kernel_rfl) h
abbrev fn_rRightRes : Nat := 35
theorem x_rRightRes (a_0 : Int) (a_1 : ByteArray) (w : World) (R : Ending → World → Prop) (h :
  ∀ w1 : World, (X.Hid [] w w1) →
  R (.returned (.bool (decide (a_0 ≤ 5) && decide ((((a_1.size) : Nat) : Int) ≤ 1000)))) w1) :
    Calls Tryd.prog 35 #[.agg #[.int .u8 a_0, .string a_1]] w R :=
  X.calls_of { isLoc := [1], sym := [], loops := [], joins := [] } Tryd.func35 (by kernel_rfl) h
abbrev fn_ProcRight : Nat := 31
theorem x_ProcRight (a_0 a_1 : Int) (w : World) (R : Ending → World → Prop) (h :
  ∀ w1 : World, (X.Hid [] w w1) →
  R (.returned (.bool (decide (a_0 < 16) && decide (a_1 > 0)))) w1) :
    Calls Tryd.prog 31 #[.agg #[.int .u8 a_0, .int .u16 a_1]] w R :=
  X.calls_of { isLoc := [1], sym := [], loops := [], joins := [] } Tryd.func31 (by kernel_rfl) h
abbrev fn_IDRight : Nat := 29
theorem x_IDRight (a_0 a_1 a_2 a_3 a_4 a_5 a_6 a_7 a_8 a_9 : Int) (w : World) (R : Ending → World → Prop) (h :
  ∀ w1 : World, ∀ L2 : List Nat, (X.Hid [] w w1) →
  (X.NewL (w).heap.size [] w w1 L2) →
  X.CallX Tryd.prog 31 #[(.agg #[(.int .u8 a_0), (.int .u16 a_1)])] w1 fun e3 w4 =>
   ∃ b5 : Bool, (e3 = .returned (.bool b5)) ∧
   (X.Kept L2 w1 w4) ∧
   if ((((!b5) || (a_2 == 0)) || decide (a_2 > 1048576)) || decide (a_3 > 3)) = true then
    R (.returned (.bool false)) w4
   else
    if ((decide ((0 : Int) < (IntKind.wrap .i64 a_3)) && decide (a_4 ≥ 4)) || ((!decide ((0 : Int) < (IntKind.wrap .i64 a_3))) && (!((a_4 == 0) && (a_5 == 0))))) = true then
     ∀ w9 : World, (X.Hid (L2) w4 w9) →
     R (.returned (.bool false)) w9
    else
     if ((decide ((1 : Int) < (IntKind.wrap .i64 a_3)) && decide (a_6 ≥ 4)) || ((!decide ((1 : Int) < (IntKind.wrap .i64 a_3))) && (!((a_6 == 0) && (a_7 == 0))))) = true then
      ∀ w8 : World, (X.Hid (L2) w4 w8) →
      R (.returned (.bool false)) w8
     else
      if ((decide ((2 : Int) < (IntKind.wrap .i64 a_3)) && decide (a_8 ≥ 4)) || ((!decide ((2 : Int) < (IntKind.wrap .i64 a_3))) && (!((a_8 == 0) && (a_9 == 0))))) = true then
       ∀ w7 : World, (X.Hid (L2) w4 w7) →
       R (.returned (.bool false)) w7
      else
       ∀ w6 : World, (X.Hid (L2) w4 w6) →
       R (.returned (.bool true)) w6) :
    Calls Tryd.prog 29 #[.agg #[.int .u8 a_0, .int .u16 a_1, .int .u32 a_2, .int .u8 a_3, .int .u8 a_4, .int .u8 a_5, .int .u8 a_6, .int .u8 a_7, .int .u8 a_8, .int .u8 a_9]] w R :=
  X.calls_of { isLoc := [1, 4], sym := [], loops := [(4, .unroll 4)], joins := [] } Tryd.func29 (by kernel_rfl) h
abbrev fn_rRightProc : Nat := 36
theorem x_rRightProc (a_0 a_1 : Int) (w : World) (R : Ending → World → Prop) (h :
  ∀ w1 : World, (X.Hid [] w w1) →
  R (.returned (.bool (decide (a_0 < 16) && decide (a_1 ≥ 1)))) w1) :
    Calls Tryd.prog 36 #[.agg #[.int .u8 a_0, .int .u16 a_1]] w R :=
  X.calls_of { isLoc := [1], sym := [], loops := [], joins := [] } Tryd.func36 (by kernel_rfl) h
abbrev fn_r2Right : Nat := 34
theorem x_r2Right (a_0 a_1 a_2 a_3 a_4 a_5 a_6 a_7 a_8 a_9 : Int) (w : World) (R : Ending → World → Prop) (h :
  ∀ w1 : World, ∀ L2 : List Nat, (X.Hid [] w w1) →
  (X.NewL (w).heap.size [] w w1 L2) →
  X.CallX Tryd.prog 36 #[(.agg #[(.int .u8 a_0), (.int .u16 a_1)])] w1 fun e3 w4 =>
   ∃ b5 : Bool, (e3 = .returned (.bool b5)) ∧
   (X.Kept L2 w1 w4) ∧
   if ((((!b5) || decide (a_2 < 1)) || decide (a_2 > 1048576)) || decide (a_3 > 3)) = true then
    R (.returned (.bool false)) w4
   else
    if ((decide ((0 : Int) < (IntKind.wrap .i64 a_3)) && decide (a_4 ≥ 4)) || (decide ((0 : Int) ≥ (IntKind.wrap .i64 a_3)) && (!((a_4 == 0) && (a_5 == 0))))) = true then
     R (.returned (.bool false)) w4
    else
     if ((decide ((1 : Int) < (IntKind.wrap .i64 a_3)) && decide (a_6 ≥ 4)) || (decide ((1 : Int) ≥ (IntKind.wrap .i64 a_3)) && (!((a_6 == 0) && (a_7 == 0))))) = true then
      R (.returned (.bool false)) w4
     else
      if ((decide ((2 : Int) < (IntKind.wrap .i64 a_3)) && decide (a_8 ≥ 4)) || (decide ((2 : Int) ≥ (IntKind.wrap .i64 a_3)) && (!((a_8 == 0) && (a_9 == 0))))) = true then
       R (.returned (.bool false)) w4
      else
       R (.returned (.bool true)) w4) :
    Calls Tryd.prog 34 #[.agg #[.int .u8 a_0, .int .u16 a_1, .int .u32 a_2, .int .u8 a_3, .int .u8 a_4, .int .u8 a_5, .int .u8 a_6, .int .u8 a_7, .int .u8 a_8, .int .u8 a_9]] w R :=
  X.calls_of { isLoc := [1], sym := [], loops := [(4, .unroll 4)], joins := [] } Tryd.func34 (by kernel_rfl) h
abbrev fn_asked : Nat := 26
theorem x_asked (a_0 a_1 a_2 a_3 a_4 a_5 a_6 a_7 a_8 a_9 a_10 a_11 : Int) (a_12 : Option Addr) (a_12l a_12c : Nat) (a_13 : Int) (a_14 : ByteArray) (a_15 : Option Addr) (a_15l a_15c : Nat) (a_16 a_17 b : Int) (w : World) (R : Ending → World → Prop) (h :
  ∀ w1 : World, ∀ L2 : List Nat, (X.Hid [] w w1) →
  (X.NewL (w).heap.size [] w w1 L2) →
  X.CallX Tryd.prog 29 #[(.agg #[(.int .u8 a_1), (.int .u16 a_2), (.int .u32 a_3), (.int .u8 a_4), (.int .u8 a_5), (.int .u8 a_6), (.int .u8 a_7), (.int .u8 a_8), (.int .u8 a_9), (.int .u8 a_10)])] w1 fun e3 w4 =>
   ∃ b5 : Bool, (e3 = .returned (.bool b5)) ∧
   (X.Kept L2 w1 w4) ∧
   if (b5 == true) = true then
    X.CallX Tryd.prog 56 #[(.slice (a_12) a_12l a_12c)] w4 fun e6 w7 =>
     ∃ b8 : Bool, (e6 = .returned (.bool b8)) ∧
     (X.Kept L2 w4 w7) ∧
     if ((true && b8) == true) = true then
      ((0 : Int) ≤ 0) ∧
      ((0 : Int) < ((a_12l : Nat) : Int)) ∧
      X.onSome (a_12) fun p9 =>
      ∃ n10 : Int, (World.cell? w7 ((p9.add 0).add 0) = some (.int .u8 n10)) ∧
      (¬ ((((p9.add 0).add 0).block) ∈ L2)) ∧
      R (.returned (.bool ((((true && (n10 == b)) && decide ((IntKind.wrap .i64 ((IntKind.wrap .i64 a_4) + ((a_12l : Nat) : Int))) ≤ 4)) && decide (a_11 < a_3)) && ((a_16 == 0) && (a_17 == 0))))) w7
     else
      R (.returned (.bool (((false && decide ((IntKind.wrap .i64 ((IntKind.wrap .i64 a_4) + ((a_12l : Nat) : Int))) ≤ 4)) && decide (a_11 < a_3)) && ((a_16 == 0) && (a_17 == 0))))) w7
   else
    R (.returned (.bool (((false && decide ((IntKind.wrap .i64 ((IntKind.wrap .i64 a_4) + ((a_12l : Nat) : Int))) ≤ 4)) && decide (a_11 < a_3)) && ((a_16 == 0) && (a_17 == 0))))) w4) :
    Calls Tryd.prog 26 #[.agg #[.int .u8 a_0, .int .u8 a_1, .int .u16 a_2, .int .u32 a_3, .int .u8 a_4, .int .u8 a_5, .int .u8 a_6, .int .u8 a_7, .int .u8 a_8, .int .u8 a_9, .int .u8 a_10, .int .u32 a_11, .slice a_12 a_12l a_12c, .int .u8 a_13, .string a_14, .slice a_15 a_15l a_15c, .int .u8 a_16, .int .u16 a_17], .int .u8 b] w R :=
  X.calls_of { isLoc := [2], sym := [], loops := [], joins := [] } Tryd.func26 (by kernel_rfl) h
abbrev fn_wrote : Nat := 28
theorem x_wrote (a_0 a_1 a_2 a_3 a_4 a_5 a_6 a_7 a_8 a_9 a_10 a_11 : Int) (a_12 : Option Addr) (a_12l a_12c : Nat) (a_13 : Int) (a_14 : ByteArray) (a_15 : Option Addr) (a_15l a_15c : Nat) (a_16 a_17 : Int) (w : World) (R : Ending → World → Prop) (h :
  ((0 : Int) ≤ 0) ∧
  ((0 : Int) < ((a_12l : Nat) : Int)) ∧
  X.onSome (a_12) fun p1 =>
  ∃ n2 : Int, ∃ n3 : Int, ∃ s4 : ByteArray, ∃ s5 : ByteArray, ∃ n6 : Int, (X.Cells w (p1.add 0) [(.int .u8 n2), (.int .u8 n3), (.string s4), (.string s5), (.int .i64 n6)]) ∧
  if ((a_13 != 0) || (n3 == 0)) = true then
   ∀ w13 : World, (X.Hid [] w w13) →
   R (.returned (.bool (((a_15l : Nat) : Int) == 0))) w13
  else
   if (((a_15l : Nat) : Int) != 1) = true then
    ∀ w12 : World, (X.Hid [] w w12) →
    R (.returned (.bool false)) w12
   else
    ((0 : Int) ≤ 0) ∧
    ((0 : Int) < ((a_15l : Nat) : Int)) ∧
    X.onSome (a_15) fun p7 =>
    ∃ s8 : ByteArray, ∃ s9 : ByteArray, ∃ b10 : Bool, (X.Cells w (p7.add 0) [(.string s8), (.string s9), (.bool b10)]) ∧
    ∀ w11 : World, (X.Hid [] w w11) →
    R (.returned (.bool ((((s8.toList) == (s4.toList)) && decide ((((s9.size) : Nat) : Int) ≤ 64)) && (b10 || ((s9.toList) == ((ByteArray.mk #[]).toList)))))) w11) :
    Calls Tryd.prog 28 #[.agg #[.int .u8 a_0, .int .u8 a_1, .int .u16 a_2, .int .u32 a_3, .int .u8 a_4, .int .u8 a_5, .int .u8 a_6, .int .u8 a_7, .int .u8 a_8, .int .u8 a_9, .int .u8 a_10, .int .u32 a_11, .slice a_12 a_12l a_12c, .int .u8 a_13, .string a_14, .slice a_15 a_15l a_15c, .int .u8 a_16, .int .u16 a_17]] w R :=
  X.calls_of { isLoc := [1, 3, 4], sym := [], loops := [], joins := [] } Tryd.func28 (by kernel_rfl) h
abbrev fn_bare : Nat := 30
theorem x_bare (a_0 a_1 a_2 a_3 a_4 a_5 a_6 a_7 a_8 a_9 a_10 a_11 : Int) (a_12 : Option Addr) (a_12l a_12c : Nat) (a_13 : Int) (a_14 : ByteArray) (a_15 : Option Addr) (a_15l a_15c : Nat) (a_16 a_17 : Int) (w : World) (R : Ending → World → Prop) (h :
  ∀ w1 : World, (X.Hid [] w w1) →
  R (.returned (.bool (((a_11 == 0) && (((a_12l : Nat) : Int) == 0)) && (((a_15l : Nat) : Int) == 0)))) w1) :
    Calls Tryd.prog 30 #[.agg #[.int .u8 a_0, .int .u8 a_1, .int .u16 a_2, .int .u32 a_3, .int .u8 a_4, .int .u8 a_5, .int .u8 a_6, .int .u8 a_7, .int .u8 a_8, .int .u8 a_9, .int .u8 a_10, .int .u32 a_11, .slice a_12 a_12l a_12c, .int .u8 a_13, .string a_14, .slice a_15 a_15l a_15c, .int .u8 a_16, .int .u16 a_17]] w R :=
  X.calls_of { isLoc := [1], sym := [], loops := [], joins := [] } Tryd.func30 (by kernel_rfl) h
abbrev fn_eRight : Nat := 9
theorem x_eRight (a_0 a_1 a_2 a_3 a_4 a_5 a_6 a_7 a_8 a_9 a_10 a_11 : Int) (a_12 : Option Addr) (a_12l a_12c : Nat) (a_13 : Int) (a_14 : ByteArray) (a_15 : Option Addr) (a_15l a_15c : Nat) (a_16 a_17 b : Int) (w : World) (R : Ending → World → Prop) (h :
  if (a_0 == 0) = true then
   ∀ w44 : World, ∀ L45 : List Nat, (X.Hid [] w w44) →
   (X.NewL (w).heap.size [] w w44 L45) →
   X.CallX Tryd.prog 26 #[(.agg #[(.int .u8 a_0), (.int .u8 a_1), (.int .u16 a_2), (.int .u32 a_3), (.int .u8 a_4), (.int .u8 a_5), (.int .u8 a_6), (.int .u8 a_7), (.int .u8 a_8), (.int .u8 a_9), (.int .u8 a_10), (.int .u32 a_11), (.slice (a_12) a_12l a_12c), (.int .u8 a_13), (.string a_14), (.slice (a_15) a_15l a_15c), (.int .u8 a_16), (.int .u16 a_17)]), (.int .u8 b)] w44 fun e46 w47 =>
    ∃ b48 : Bool, (e46 = .returned (.bool b48)) ∧
    (X.Kept L45 w44 w47) ∧
    R (.returned (.bool ((b48 && ((a_13 == 0) && (a_14 == (ByteArray.mk #[])))) && (((a_15l : Nat) : Int) == 0)))) w47
  else
   if (a_0 == 3) = true then
    ∀ w33 : World, ∀ L34 : List Nat, (X.Hid [] w w33) →
    (X.NewL (w).heap.size [] w w33 L34) →
    X.CallX Tryd.prog 26 #[(.agg #[(.int .u8 a_0), (.int .u8 a_1), (.int .u16 a_2), (.int .u32 a_3), (.int .u8 a_4), (.int .u8 a_5), (.int .u8 a_6), (.int .u8 a_7), (.int .u8 a_8), (.int .u8 a_9), (.int .u8 a_10), (.int .u32 a_11), (.slice (a_12) a_12l a_12c), (.int .u8 a_13), (.string a_14), (.slice (a_15) a_15l a_15c), (.int .u8 a_16), (.int .u16 a_17)]), (.int .u8 b)] w33 fun e35 w36 =>
     ∃ b37 : Bool, (e35 = .returned (.bool b37)) ∧
     (X.Kept L34 w33 w36) ∧
     if (b37 == true) = true then
      X.CallX Tryd.prog 27 #[(.agg #[(.int .u8 a_13), (.string a_14)])] w36 fun e38 w39 =>
       ∃ b40 : Bool, (e38 = .returned (.bool b40)) ∧
       (X.Kept L34 w36 w39) ∧
       if ((((true && b40) && (a_13 != 4)) && (a_13 != 3)) == true) = true then
        X.CallX Tryd.prog 28 #[(.agg #[(.int .u8 a_0), (.int .u8 a_1), (.int .u16 a_2), (.int .u32 a_3), (.int .u8 a_4), (.int .u8 a_5), (.int .u8 a_6), (.int .u8 a_7), (.int .u8 a_8), (.int .u8 a_9), (.int .u8 a_10), (.int .u32 a_11), (.slice (a_12) a_12l a_12c), (.int .u8 a_13), (.string a_14), (.slice (a_15) a_15l a_15c), (.int .u8 a_16), (.int .u16 a_17)])] w39 fun e41 w42 =>
         ∃ b43 : Bool, (e41 = .returned (.bool b43)) ∧
         (X.Kept L34 w39 w42) ∧
         R (.returned (.bool (true && b43))) w42
       else
        R (.returned (.bool false)) w39
     else
      R (.returned (.bool false)) w36
   else
    if (a_0 == 1) = true then
     ∀ w10 : World, ∀ L11 : List Nat, (X.Hid [] w w10) →
     (X.NewL (w).heap.size [] w w10 L11) →
     X.CallX Tryd.prog 29 #[(.agg #[(.int .u8 a_1), (.int .u16 a_2), (.int .u32 a_3), (.int .u8 a_4), (.int .u8 a_5), (.int .u8 a_6), (.int .u8 a_7), (.int .u8 a_8), (.int .u8 a_9), (.int .u8 a_10)])] w10 fun e12 w13 =>
      ∃ b14 : Bool, (e12 = .returned (.bool b14)) ∧
      (X.Kept L11 w10 w13) ∧
      if ((b14 && decide (a_4 > 0)) == true) = true then
       ((0 : Int) ≤ (IntKind.wrap .u8 (a_4 - 1))) ∧
       ((IntKind.wrap .u8 (a_4 - 1)) < 3) ∧
       ((((IntKind.wrap .u8 (a_4 - 1)) = 0) →
         if ((true && (a_5 == b)) == true) = true then
          X.CallX Tryd.prog 27 #[(.agg #[(.int .u8 a_13), (.string a_14)])] w13 fun e15 w16 =>
           ∃ b17 : Bool, (e15 = .returned (.bool b17)) ∧
           (X.Kept L11 w13 w16) ∧
           if ((true && b17) == true) = true then
            X.CallX Tryd.prog 30 #[(.agg #[(.int .u8 a_0), (.int .u8 a_1), (.int .u16 a_2), (.int .u32 a_3), (.int .u8 a_4), (.int .u8 a_5), (.int .u8 a_6), (.int .u8 a_7), (.int .u8 a_8), (.int .u8 a_9), (.int .u8 a_10), (.int .u32 a_11), (.slice (a_12) a_12l a_12c), (.int .u8 a_13), (.string a_14), (.slice (a_15) a_15l a_15c), (.int .u8 a_16), (.int .u16 a_17)])] w16 fun e18 w19 =>
             ∃ b20 : Bool, (e18 = .returned (.bool b20)) ∧
             (X.Kept L11 w16 w19) ∧
             R (.returned (.bool ((true && b20) && ((a_16 == 0) && (a_17 == 0))))) w19
           else
            R (.returned (.bool (false && ((a_16 == 0) && (a_17 == 0))))) w16
         else
          R (.returned (.bool (false && ((a_16 == 0) && (a_17 == 0))))) w13) ∧
        (((IntKind.wrap .u8 (a_4 - 1)) = 1) →
        if ((true && (a_7 == b)) == true) = true then
         X.CallX Tryd.prog 27 #[(.agg #[(.int .u8 a_13), (.string a_14)])] w13 fun e21 w22 =>
          ∃ b23 : Bool, (e21 = .returned (.bool b23)) ∧
          (X.Kept L11 w13 w22) ∧
          if ((true && b23) == true) = true then
           X.CallX Tryd.prog 30 #[(.agg #[(.int .u8 a_0), (.int .u8 a_1), (.int .u16 a_2), (.int .u32 a_3), (.int .u8 a_4), (.int .u8 a_5), (.int .u8 a_6), (.int .u8 a_7), (.int .u8 a_8), (.int .u8 a_9), (.int .u8 a_10), (.int .u32 a_11), (.slice (a_12) a_12l a_12c), (.int .u8 a_13), (.string a_14), (.slice (a_15) a_15l a_15c), (.int .u8 a_16), (.int .u16 a_17)])] w22 fun e24 w25 =>
            ∃ b26 : Bool, (e24 = .returned (.bool b26)) ∧
            (X.Kept L11 w22 w25) ∧
            R (.returned (.bool ((true && b26) && ((a_16 == 0) && (a_17 == 0))))) w25
          else
           R (.returned (.bool (false && ((a_16 == 0) && (a_17 == 0))))) w22
        else
         R (.returned (.bool (false && ((a_16 == 0) && (a_17 == 0))))) w13)) ∧
       (((IntKind.wrap .u8 (a_4 - 1)) = 2) →
       if ((true && (a_9 == b)) == true) = true then
        X.CallX Tryd.prog 27 #[(.agg #[(.int .u8 a_13), (.string a_14)])] w13 fun e27 w28 =>
         ∃ b29 : Bool, (e27 = .returned (.bool b29)) ∧
         (X.Kept L11 w13 w28) ∧
         if ((true && b29) == true) = true then
          X.CallX Tryd.prog 30 #[(.agg #[(.int .u8 a_0), (.int .u8 a_1), (.int .u16 a_2), (.int .u32 a_3), (.int .u8 a_4), (.int .u8 a_5), (.int .u8 a_6), (.int .u8 a_7), (.int .u8 a_8), (.int .u8 a_9), (.int .u8 a_10), (.int .u32 a_11), (.slice (a_12) a_12l a_12c), (.int .u8 a_13), (.string a_14), (.slice (a_15) a_15l a_15c), (.int .u8 a_16), (.int .u16 a_17)])] w28 fun e30 w31 =>
           ∃ b32 : Bool, (e30 = .returned (.bool b32)) ∧
           (X.Kept L11 w28 w31) ∧
           R (.returned (.bool ((true && b32) && ((a_16 == 0) && (a_17 == 0))))) w31
         else
          R (.returned (.bool (false && ((a_16 == 0) && (a_17 == 0))))) w28
       else
        R (.returned (.bool (false && ((a_16 == 0) && (a_17 == 0))))) w13)
      else
       R (.returned (.bool (false && ((a_16 == 0) && (a_17 == 0))))) w13
    else
     if (a_0 == 2) = true then
      ∀ w2 : World, ∀ L3 : List Nat, (X.Hid [] w w2) →
      (X.NewL (w).heap.size [] w w2 L3) →
      X.CallX Tryd.prog 31 #[(.agg #[(.int .u8 a_16), (.int .u16 a_17)])] w2 fun e4 w5 =>
       ∃ b6 : Bool, (e4 = .returned (.bool b6)) ∧
       (X.Kept L3 w2 w5) ∧
       if (((b6 && ((a_13 == 0) && (a_14 == (ByteArray.mk #[])))) && (((a_1 == 0) && (a_2 == 0)) && ((a_3 == 0) && ((a_4 == 0) && (((a_5 == 0) && (a_6 == 0)) && (((a_7 == 0) && (a_8 == 0)) && ((a_9 == 0) && (a_10 == 0)))))))) == true) = true then
        X.CallX Tryd.prog 30 #[(.agg #[(.int .u8 a_0), (.int .u8 a_1), (.int .u16 a_2), (.int .u32 a_3), (.int .u8 a_4), (.int .u8 a_5), (.int .u8 a_6), (.int .u8 a_7), (.int .u8 a_8), (.int .u8 a_9), (.int .u8 a_10), (.int .u32 a_11), (.slice (a_12) a_12l a_12c), (.int .u8 a_13), (.string a_14), (.slice (a_15) a_15l a_15c), (.int .u8 a_16), (.int .u16 a_17)])] w5 fun e7 w8 =>
         ∃ b9 : Bool, (e7 = .returned (.bool b9)) ∧
         (X.Kept L3 w5 w8) ∧
         R (.returned (.bool (true && b9))) w8
       else
        R (.returned (.bool false)) w5
     else
      ∀ w1 : World, (X.Hid [] w w1) →
      R (.returned (.bool false)) w1) :
    Calls Tryd.prog 9 #[.agg #[.int .u8 a_0, .int .u8 a_1, .int .u16 a_2, .int .u32 a_3, .int .u8 a_4, .int .u8 a_5, .int .u8 a_6, .int .u8 a_7, .int .u8 a_8, .int .u8 a_9, .int .u8 a_10, .int .u32 a_11, .slice a_12 a_12l a_12c, .int .u8 a_13, .string a_14, .slice a_15 a_15l a_15c, .int .u8 a_16, .int .u16 a_17], .int .u8 b] w R :=
  X.calls_of { isLoc := [2, 5, 6], sym := [69], loops := [], joins := [] } Tryd.func9 (by kernel_rfl) h
abbrev fn_rcall : Nat := 32
theorem x_rcall (a_0 a_1 a_2 a_3 a_4 a_5 a_6 a_7 a_8 a_9 a_10 a_11 : Int) (a_12 : Option Addr) (a_12l a_12c : Nat) (a_13 : Int) (a_14 : ByteArray) (a_15 : Option Addr) (a_15l a_15c : Nat) (a_16 a_17 b : Int) (w : World) (R : Ending → World → Prop) (h :
  ∀ w1 : World, ∀ L2 : List Nat, (X.Hid [] w w1) →
  (X.NewL (w).heap.size [] w w1 L2) →
  X.CallX Tryd.prog 34 #[(.agg #[(.int .u8 a_1), (.int .u16 a_2), (.int .u32 a_3), (.int .u8 a_4), (.int .u8 a_5), (.int .u8 a_6), (.int .u8 a_7), (.int .u8 a_8), (.int .u8 a_9), (.int .u8 a_10)])] w1 fun e3 w4 =>
   ∃ b5 : Bool, (e3 = .returned (.bool b5)) ∧
   (X.Kept L2 w1 w4) ∧
   if (b5 == true) = true then
    X.CallX Tryd.prog 57 #[(.slice (a_12) a_12l a_12c)] w4 fun e6 w7 =>
     ∃ b8 : Bool, (e6 = .returned (.bool b8)) ∧
     (X.Kept L2 w4 w7) ∧
     if ((true && b8) == true) = true then
      ((0 : Int) ≤ 0) ∧
      ((0 : Int) < ((a_12l : Nat) : Int)) ∧
      X.onSome (a_12) fun p9 =>
      ∃ n10 : Int, (World.cell? w7 ((p9.add 0).add 0) = some (.int .u8 n10)) ∧
      (¬ ((((p9.add 0).add 0).block) ∈ L2)) ∧
      R (.returned (.bool ((((true && (n10 == b)) && decide ((IntKind.wrap .i64 ((IntKind.wrap .i64 a_4) + ((a_12l : Nat) : Int))) ≤ 4)) && decide (a_11 < a_3)) && ((a_16 == 0) && (a_17 == 0))))) w7
     else
      R (.returned (.bool (((false && decide ((IntKind.wrap .i64 ((IntKind.wrap .i64 a_4) + ((a_12l : Nat) : Int))) ≤ 4)) && decide (a_11 < a_3)) && ((a_16 == 0) && (a_17 == 0))))) w7
   else
    R (.returned (.bool (((false && decide ((IntKind.wrap .i64 ((IntKind.wrap .i64 a_4) + ((a_12l : Nat) : Int))) ≤ 4)) && decide (a_11 < a_3)) && ((a_16 == 0) && (a_17 == 0))))) w4) :
    Calls Tryd.prog 32 #[.agg #[.int .u8 a_0, .int .u8 a_1, .int .u16 a_2, .int .u32 a_3, .int .u8 a_4, .int .u8 a_5, .int .u8 a_6, .int .u8 a_7, .int .u8 a_8, .int .u8 a_9, .int .u8 a_10, .int .u32 a_11, .slice a_12 a_12l a_12c, .int .u8 a_13, .string a_14, .slice a_15 a_15l a_15c, .int .u8 a_16, .int .u16 a_17], .int .u8 b] w R :=
  X.calls_of { isLoc := [2], sym := [], loops := [], joins := [] } Tryd.func32 (by kernel_rfl) h
abbrev fn_rcheck : Nat := 33
theorem x_rcheck (a_0 a_1 a_2 a_3 a_4 a_5 a_6 a_7 a_8 a_9 a_10 a_11 : Int) (a_12 : Option Addr) (a_12l a_12c : Nat) (a_13 : Int) (a_14 : ByteArray) (a_15 : Option Addr) (a_15l a_15c : Nat) (a_16 a_17 : Int) (w : World) (R : Ending → World → Prop) (h :
  ((0 : Int) ≤ 0) ∧
  ((0 : Int) < ((a_12l : Nat) : Int)) ∧
  X.onSome (a_12) fun p1 =>
  ∃ n2 : Int, ∃ n3 : Int, ∃ s4 : ByteArray, ∃ s5 : ByteArray, ∃ n6 : Int, (X.Cells w (p1.add 0) [(.int .u8 n2), (.int .u8 n3), (.string s4), (.string s5), (.int .i64 n6)]) ∧
  ∀ w7 : World, ∀ L8 : List Nat, (X.Hid [] w w7) →
  (X.NewL (w).heap.size [] w w7 L8) →
  X.CallX Tryd.prog 35 #[(.agg #[(.int .u8 a_13), (.string a_14)])] w7 fun e9 w10 =>
   ∃ b11 : Bool, (e9 = .returned (.bool b11)) ∧
   (X.Kept L8 w7 w10) ∧
   if (((((!b11) || (a_13 == 4)) || (a_13 == 3)) || decide (((a_15l : Nat) : Int) > 1)) || (!((((a_15l : Nat) : Int) == 1) == ((a_13 == 0) && (n3 != 0))))) = true then
    R (.returned (.bool false)) w10
   else
    ∃ x12 : Int → World → List Nat → Prop, ∃ x13 : Int → World → Nat, (x12 0 w10 (L8)) ∧
    ∀ n14 : Int, ∀ w15 : World, ∀ L16 : List Nat, (X.LF (w).heap.size w15 L16) →
    (x12 n14 w15 L16) →
    if (decide (n14 < ((a_15l : Nat) : Int))) = true then
     ((0 : Int) ≤ n14) ∧
     (n14 < ((a_15l : Nat) : Int)) ∧
     X.onSome (a_15) fun p17 =>
     ∃ s18 : ByteArray, ∃ s19 : ByteArray, ∃ b20 : Bool, (X.Cells w15 (p17.add ((n14).toNat * 3)) [(.string s18), (.string s19), (.bool b20)]) ∧
     (¬ (((p17.add (n14.toNat * 3)).block) ∈ L16)) ∧
     if (((!((s18.toList) == (s4.toList))) || decide ((((s19.size) : Nat) : Int) > 64)) || ((!b20) && (!((s19.toList) == ((ByteArray.mk #[]).toList))))) = true then
      ∀ w23 : World, (X.Hid (L16) w15 w23) →
      R (.returned (.bool false)) w23
     else
      ∀ w21 : World, ∀ L22 : List Nat, (X.Hid (L16) w15 w21) →
      (X.NewL (w).heap.size (L16) w15 w21 L22) →
      (([(.int .u8 a_0), (.int .u8 a_1), (.int .u16 a_2), (.int .u32 a_3), (.int .u8 a_4), (.int .u8 a_5), (.int .u8 a_6), (.int .u8 a_7), (.int .u8 a_8), (.int .u8 a_9), (.int .u8 a_10), (.int .u32 a_11), (.slice (a_12) a_12l a_12c), (.int .u8 a_13), (.string a_14), (.slice (a_15) a_15l a_15c), (.int .u8 a_16), (.int .u16 a_17)] : List Value) = [(.int .u8 a_0), (.int .u8 a_1), (.int .u16 a_2), (.int .u32 a_3), (.int .u8 a_4), (.int .u8 a_5), (.int .u8 a_6), (.int .u8 a_7), (.int .u8 a_8), (.int .u8 a_9), (.int .u8 a_10), (.int .u32 a_11), (.slice (a_12) a_12l a_12c), (.int .u8 a_13), (.string a_14), (.slice (a_15) a_15l a_15c), (.int .u8 a_16), (.int .u16 a_17)]) ∧
      (([(.int .u8 n2), (.int .u8 n3), (.string s4), (.string s5), (.int .i64 n6)] : List Value) = [(.int .u8 n2), (.int .u8 n3), (.string s4), (.string s5), (.int .i64 n6)]) ∧
      (x12 (IntKind.wrap .i64 (n14 + 1)) w21 (L22)) ∧
      Nat.le ((x13 (IntKind.wrap .i64 (n14 + 1)) w21) + 1) (x13 n14 w15)
    else
     R (.returned (.bool true)) w15) :
    Calls Tryd.prog 33 #[.agg #[.int .u8 a_0, .int .u8 a_1, .int .u16 a_2, .int .u32 a_3, .int .u8 a_4, .int .u8 a_5, .int .u8 a_6, .int .u8 a_7, .int .u8 a_8, .int .u8 a_9, .int .u8 a_10, .int .u32 a_11, .slice a_12 a_12l a_12c, .int .u8 a_13, .string a_14, .slice a_15 a_15l a_15c, .int .u8 a_16, .int .u16 a_17]] w R :=
  X.calls_of { isLoc := [1, 3, 6], sym := [], loops := [(6, .inv [(5, .int .i64)] [] true)], joins := [] } Tryd.func33 (by kernel_rfl) h
abbrev fn_r5Right : Nat := 10
theorem x_r5Right (a_0 a_1 a_2 a_3 a_4 a_5 a_6 a_7 a_8 a_9 a_10 a_11 : Int) (a_12 : Option Addr) (a_12l a_12c : Nat) (a_13 : Int) (a_14 : ByteArray) (a_15 : Option Addr) (a_15l a_15c : Nat) (a_16 a_17 b : Int) (w : World) (R : Ending → World → Prop) (h :
  if (a_0 == 0) = true then
   ∀ w29 : World, ∀ L30 : List Nat, (X.Hid [] w w29) →
   (X.NewL (w).heap.size [] w w29 L30) →
   X.CallX Tryd.prog 32 #[(.agg #[(.int .u8 a_0), (.int .u8 a_1), (.int .u16 a_2), (.int .u32 a_3), (.int .u8 a_4), (.int .u8 a_5), (.int .u8 a_6), (.int .u8 a_7), (.int .u8 a_8), (.int .u8 a_9), (.int .u8 a_10), (.int .u32 a_11), (.slice (a_12) a_12l a_12c), (.int .u8 a_13), (.string a_14), (.slice (a_15) a_15l a_15c), (.int .u8 a_16), (.int .u16 a_17)]), (.int .u8 b)] w29 fun e31 w32 =>
    ∃ b33 : Bool, (e31 = .returned (.bool b33)) ∧
    (X.Kept L30 w29 w32) ∧
    R (.returned (.bool ((b33 && ((a_13 == 0) && (a_14 == (ByteArray.mk #[])))) && (((a_15l : Nat) : Int) == 0)))) w32
  else
   if (a_0 == 3) = true then
    ∀ w21 : World, ∀ L22 : List Nat, (X.Hid [] w w21) →
    (X.NewL (w).heap.size [] w w21 L22) →
    X.CallX Tryd.prog 32 #[(.agg #[(.int .u8 a_0), (.int .u8 a_1), (.int .u16 a_2), (.int .u32 a_3), (.int .u8 a_4), (.int .u8 a_5), (.int .u8 a_6), (.int .u8 a_7), (.int .u8 a_8), (.int .u8 a_9), (.int .u8 a_10), (.int .u32 a_11), (.slice (a_12) a_12l a_12c), (.int .u8 a_13), (.string a_14), (.slice (a_15) a_15l a_15c), (.int .u8 a_16), (.int .u16 a_17)]), (.int .u8 b)] w21 fun e23 w24 =>
     ∃ b25 : Bool, (e23 = .returned (.bool b25)) ∧
     (X.Kept L22 w21 w24) ∧
     if (b25 == true) = true then
      X.CallX Tryd.prog 33 #[(.agg #[(.int .u8 a_0), (.int .u8 a_1), (.int .u16 a_2), (.int .u32 a_3), (.int .u8 a_4), (.int .u8 a_5), (.int .u8 a_6), (.int .u8 a_7), (.int .u8 a_8), (.int .u8 a_9), (.int .u8 a_10), (.int .u32 a_11), (.slice (a_12) a_12l a_12c), (.int .u8 a_13), (.string a_14), (.slice (a_15) a_15l a_15c), (.int .u8 a_16), (.int .u16 a_17)])] w24 fun e26 w27 =>
       ∃ b28 : Bool, (e26 = .returned (.bool b28)) ∧
       (X.Kept L22 w24 w27) ∧
       R (.returned (.bool (true && b28))) w27
     else
      R (.returned (.bool false)) w24
   else
    if (a_0 == 1) = true then
     ∀ w7 : World, ∀ L8 : List Nat, (X.Hid [] w w7) →
     (X.NewL (w).heap.size [] w w7 L8) →
     X.CallX Tryd.prog 34 #[(.agg #[(.int .u8 a_1), (.int .u16 a_2), (.int .u32 a_3), (.int .u8 a_4), (.int .u8 a_5), (.int .u8 a_6), (.int .u8 a_7), (.int .u8 a_8), (.int .u8 a_9), (.int .u8 a_10)])] w7 fun e9 w10 =>
      ∃ b11 : Bool, (e9 = .returned (.bool b11)) ∧
      (X.Kept L8 w7 w10) ∧
      if ((b11 && decide (a_4 > 0)) == true) = true then
       ((0 : Int) ≤ (IntKind.wrap .u8 (a_4 - 1))) ∧
       ((IntKind.wrap .u8 (a_4 - 1)) < 3) ∧
       ((((IntKind.wrap .u8 (a_4 - 1)) = 0) →
         if ((true && (a_5 == b)) == true) = true then
          X.CallX Tryd.prog 35 #[(.agg #[(.int .u8 a_13), (.string a_14)])] w10 fun e12 w13 =>
           ∃ b14 : Bool, (e12 = .returned (.bool b14)) ∧
           (X.Kept L8 w10 w13) ∧
           R (.returned (.bool ((((true && b14) && (a_11 == 0)) && ((IntKind.wrap .i64 (((a_12l : Nat) : Int) + ((a_15l : Nat) : Int))) == 0)) && ((a_16 == 0) && (a_17 == 0))))) w13
         else
          R (.returned (.bool (((false && (a_11 == 0)) && ((IntKind.wrap .i64 (((a_12l : Nat) : Int) + ((a_15l : Nat) : Int))) == 0)) && ((a_16 == 0) && (a_17 == 0))))) w10) ∧
        (((IntKind.wrap .u8 (a_4 - 1)) = 1) →
        if ((true && (a_7 == b)) == true) = true then
         X.CallX Tryd.prog 35 #[(.agg #[(.int .u8 a_13), (.string a_14)])] w10 fun e15 w16 =>
          ∃ b17 : Bool, (e15 = .returned (.bool b17)) ∧
          (X.Kept L8 w10 w16) ∧
          R (.returned (.bool ((((true && b17) && (a_11 == 0)) && ((IntKind.wrap .i64 (((a_12l : Nat) : Int) + ((a_15l : Nat) : Int))) == 0)) && ((a_16 == 0) && (a_17 == 0))))) w16
        else
         R (.returned (.bool (((false && (a_11 == 0)) && ((IntKind.wrap .i64 (((a_12l : Nat) : Int) + ((a_15l : Nat) : Int))) == 0)) && ((a_16 == 0) && (a_17 == 0))))) w10)) ∧
       (((IntKind.wrap .u8 (a_4 - 1)) = 2) →
       if ((true && (a_9 == b)) == true) = true then
        X.CallX Tryd.prog 35 #[(.agg #[(.int .u8 a_13), (.string a_14)])] w10 fun e18 w19 =>
         ∃ b20 : Bool, (e18 = .returned (.bool b20)) ∧
         (X.Kept L8 w10 w19) ∧
         R (.returned (.bool ((((true && b20) && (a_11 == 0)) && ((IntKind.wrap .i64 (((a_12l : Nat) : Int) + ((a_15l : Nat) : Int))) == 0)) && ((a_16 == 0) && (a_17 == 0))))) w19
       else
        R (.returned (.bool (((false && (a_11 == 0)) && ((IntKind.wrap .i64 (((a_12l : Nat) : Int) + ((a_15l : Nat) : Int))) == 0)) && ((a_16 == 0) && (a_17 == 0))))) w10)
      else
       R (.returned (.bool (((false && (a_11 == 0)) && ((IntKind.wrap .i64 (((a_12l : Nat) : Int) + ((a_15l : Nat) : Int))) == 0)) && ((a_16 == 0) && (a_17 == 0))))) w10
    else
     if (a_0 == 2) = true then
      ∀ w2 : World, ∀ L3 : List Nat, (X.Hid [] w w2) →
      (X.NewL (w).heap.size [] w w2 L3) →
      X.CallX Tryd.prog 36 #[(.agg #[(.int .u8 a_16), (.int .u16 a_17)])] w2 fun e4 w5 =>
       ∃ b6 : Bool, (e4 = .returned (.bool b6)) ∧
       (X.Kept L3 w2 w5) ∧
       R (.returned (.bool ((((b6 && ((a_13 == 0) && (a_14 == (ByteArray.mk #[])))) && (((a_1 == 0) && (a_2 == 0)) && ((a_3 == 0) && ((a_4 == 0) && (((a_5 == 0) && (a_6 == 0)) && (((a_7 == 0) && (a_8 == 0)) && ((a_9 == 0) && (a_10 == 0)))))))) && (a_11 == 0)) && ((IntKind.wrap .i64 (((a_12l : Nat) : Int) + ((a_15l : Nat) : Int))) == 0)))) w5
     else
      ∀ w1 : World, (X.Hid [] w w1) →
      R (.returned (.bool false)) w1) :
    Calls Tryd.prog 10 #[.agg #[.int .u8 a_0, .int .u8 a_1, .int .u16 a_2, .int .u32 a_3, .int .u8 a_4, .int .u8 a_5, .int .u8 a_6, .int .u8 a_7, .int .u8 a_8, .int .u8 a_9, .int .u8 a_10, .int .u32 a_11, .slice a_12 a_12l a_12c, .int .u8 a_13, .string a_14, .slice a_15 a_15l a_15c, .int .u8 a_16, .int .u16 a_17], .int .u8 b] w R :=
  X.calls_of { isLoc := [2, 6], sym := [52], loops := [], joins := [] } Tryd.func10 (by kernel_rfl) h
end Go.Proofs
