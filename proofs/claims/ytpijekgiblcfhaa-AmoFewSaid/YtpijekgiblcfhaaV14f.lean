import Derived.Test.YtpijekgiblcfhaaXFn
import Derived.Test.YtpijekgiblcfhaaProg
/- The verification conditions of this seat's functions, as the engine has them: printed by a program of the bench; checked by the kernel. -/
set_option maxRecDepth 100000
set_option linter.unusedVariables false
namespace Go.Proofs
open Go
abbrev fn_nil_none : Nat := 36
theorem x_nil_none  (w : World) (R : Ending → World → Prop) (h :
  R (.returned (.bool true)) w) :
    Calls Try.prog 36 #[.pointer none] w R :=
  X.calls_of { isLoc := [], sym := [], loops := [], joins := [] } Try.func36 (by kernel_rfl) h
abbrev fn_nil_State : Nat := 31
theorem x_nil_State (b_0 b_1 b_2 b_3 b_4 b_5 b_6 b_7 b_8 b_9 : Int) (w : World) (R : Ending → World → Prop) (h :
  ∀ w1 : World, ∀ L2 : List Nat, (X.Hid [] w w1) →
  (X.NewL (w).heap.size [] w w1 L2) →
  X.CallX Try.prog 36 #[(.pointer none)] w1 fun e3 w4 =>
   ∃ b5 : Bool, (e3 = .returned (.bool b5)) ∧
   (X.Kept L2 w1 w4) ∧
   if b5 = true then
    R (.returned (.int .i64 3)) w4
   else
    ∃ x6 : X.Facts, (X.FactsW x6 w4 (L2)) ∧
    False) :
    Calls Try.prog 31 #[.pointer none, .agg #[.int .u8 b_0, .int .u16 b_1, .int .u32 b_2, .int .u8 b_3, .int .u8 b_4, .int .u8 b_5, .int .u8 b_6, .int .u8 b_7, .int .u8 b_8, .int .u8 b_9]] w R :=
  X.calls_of { isLoc := [3, 5], sym := [], loops := [], joins := [], stored := [(3, [5])] } Try.func31 (by kernel_rfl) h
abbrev fn_nil_Begin : Nat := 21
theorem x_nil_Begin (b_0 b_1 b_2 b_3 b_4 b_5 b_6 b_7 b_8 b_9 : Int) (w : World) (R : Ending → World → Prop) (h :
  ∀ w1 : World, ∀ L2 : List Nat, (X.Hid [] w w1) →
  (X.NewL (w).heap.size [] w w1 L2) →
  X.CallX Try.prog 36 #[(.pointer none)] w1 fun e3 w4 =>
   ∃ b5 : Bool, (e3 = .returned (.bool b5)) ∧
   (X.Kept L2 w1 w4) ∧
   if (b5 == false) = true then
    X.CallX Try.prog 47 #[(.agg #[(.int .u8 b_0), (.int .u16 b_1), (.int .u32 b_2), (.int .u8 b_3), (.int .u8 b_4), (.int .u8 b_5), (.int .u8 b_6), (.int .u8 b_7), (.int .u8 b_8), (.int .u8 b_9)])] w4 fun e6 w7 =>
     ∃ b8 : Bool, (e6 = .returned (.bool b8)) ∧
     (X.Kept L2 w4 w7) ∧
     if (false || (!b8)) = true then
      R (.returned (.int .i64 1)) w7
     else
      X.CallX Try.prog 31 #[(.pointer none), (.agg #[(.int .u8 b_0), (.int .u16 b_1), (.int .u32 b_2), (.int .u8 b_3), (.int .u8 b_4), (.int .u8 b_5), (.int .u8 b_6), (.int .u8 b_7), (.int .u8 b_8), (.int .u8 b_9)])] w7 fun e9 w10 =>
       ∃ n11 : Int, (e9 = .returned (.int .i64 n11)) ∧
       (X.Kept L2 w7 w10) ∧
       if (n11 == 3) = true then
        R (.returned (.int .i64 16)) w10
       else
        if (n11 == 4) = true then
         R (.returned (.int .i64 10)) w10
        else
         if (n11 == 0) = true then
          ∃ x12 : X.Facts, (X.FactsW x12 w10 (L2)) ∧
          False
         else
          R (.returned (.int .i64 4)) w10
   else
    R (.returned (.int .i64 1)) w4) :
    Calls Try.prog 21 #[.pointer none, .agg #[.int .u8 b_0, .int .u16 b_1, .int .u32 b_2, .int .u8 b_3, .int .u8 b_4, .int .u8 b_5, .int .u8 b_6, .int .u8 b_7, .int .u8 b_8, .int .u8 b_9]] w R :=
  X.calls_of { isLoc := [3], sym := [], loops := [], joins := [] } Try.func21 (by kernel_rfl) h
abbrev fn_nil_End : Nat := 23
theorem x_nil_End (b_0 b_1 b_2 b_3 b_4 b_5 b_6 b_7 b_8 b_9 c_0 : Int) (c_1 : ByteArray) (w : World) (R : Ending → World → Prop) (h :
  ∀ w1 : World, ∀ L2 : List Nat, (X.Hid [] w w1) →
  (X.NewL (w).heap.size [] w w1 L2) →
  X.CallX Try.prog 31 #[(.pointer none), (.agg #[(.int .u8 b_0), (.int .u16 b_1), (.int .u32 b_2), (.int .u8 b_3), (.int .u8 b_4), (.int .u8 b_5), (.int .u8 b_6), (.int .u8 b_7), (.int .u8 b_8), (.int .u8 b_9)])] w1 fun e3 w4 =>
   ∃ n5 : Int, (e3 = .returned (.int .i64 n5)) ∧
   (X.Kept L2 w1 w4) ∧
   if (n5 != 1) = true then
    R (.returned (.bool false)) w4
   else
    X.CallX Try.prog 50 #[(.pointer none), (.agg #[(.int .u8 b_0), (.int .u16 b_1), (.int .u32 b_2), (.int .u8 b_3), (.int .u8 b_4), (.int .u8 b_5), (.int .u8 b_6), (.int .u8 b_7), (.int .u8 b_8), (.int .u8 b_9)])] w4 fun e6 w7 =>
     ∃ b8 : Bool, (e6 = .returned (.bool b8)) ∧
     (X.Kept L2 w4 w7) ∧
     if b8 = true then
      ∃ x10 : X.Facts, (X.FactsW x10 w7 (L2)) ∧
      False
     else
      ∃ x9 : X.Facts, (X.FactsW x9 w7 (L2)) ∧
      False) :
    Calls Try.prog 23 #[.pointer none, .agg #[.int .u8 b_0, .int .u16 b_1, .int .u32 b_2, .int .u8 b_3, .int .u8 b_4, .int .u8 b_5, .int .u8 b_6, .int .u8 b_7, .int .u8 b_8, .int .u8 b_9], .agg #[.int .u8 c_0, .string c_1]] w R :=
  X.calls_of { isLoc := [4, 5], sym := [], loops := [], joins := [] } Try.func23 (by kernel_rfl) h
abbrev fn_nil_Raise : Nat := 26
theorem x_nil_Raise (b_0 b_1 c : Int) (w : World) (R : Ending → World → Prop) (h :
  ∃ x1 : X.Facts, (X.FactsW x1 w []) ∧
  ∀ w2 : World, ∀ L3 : List Nat, (X.Hid [] w w2) →
  (X.NewL (w).heap.size [] w w2 L3) →
  X.CallX Try.prog 36 #[(.pointer none)] w2 fun e4 w5 =>
   ∃ b6 : Bool, (e4 = .returned (.bool b6)) ∧
   (X.Kept L3 w2 w5) ∧
   (X.FactsW x1 w5 (L3)) ∧
   ∃ x7 : X.Facts, (X.FactsW x7 w5 (L3)) ∧
   (∀ x8 : Addr × List Value, (x8 ∈ x1) →
    x8 ∈ x7) ∧
   if (b6 == false) = true then
    X.CallX Try.prog 52 #[(.agg #[(.int .u8 b_0), (.int .u16 b_1)])] w5 fun e11 w12 =>
     ∃ b13 : Bool, (e11 = .returned (.bool b13)) ∧
     (X.Kept L3 w5 w12) ∧
     (X.FactsW x7 w12 (L3)) ∧
     ∃ x14 : X.Facts, (X.FactsW x14 w12 (L3)) ∧
     (∀ x15 : Addr × List Value, (x15 ∈ x7) →
      x15 ∈ x14) ∧
     if (((false || (!b13)) || decide (c > 1048576)) == false) = true then
      False
     else
      R (.returned (.tuple #[])) w12
   else
    ∃ x9 : X.Facts, (X.FactsW x9 w5 (L3)) ∧
    (∀ x10 : Addr × List Value, (x10 ∈ x7) →
     x10 ∈ x9) ∧
    R (.returned (.tuple #[])) w5) :
    Calls Try.prog 26 #[.pointer none, .agg #[.int .u8 b_0, .int .u16 b_1], .int .u32 c] w R :=
  X.calls_of { isLoc := [4], sym := [], loops := [], joins := [] } Try.func26 (by kernel_rfl) h
abbrev fn_nil_Res : Nat := 28
theorem x_nil_Res (b_0 b_1 b_2 b_3 b_4 b_5 b_6 b_7 b_8 b_9 : Int) (w : World) (R : Ending → World → Prop) (h :
  ∀ w1 : World, ∀ L2 : List Nat, (X.Hid [] w w1) →
  (X.NewL (w).heap.size [] w w1 L2) →
  X.CallX Try.prog 31 #[(.pointer none), (.agg #[(.int .u8 b_0), (.int .u16 b_1), (.int .u32 b_2), (.int .u8 b_3), (.int .u8 b_4), (.int .u8 b_5), (.int .u8 b_6), (.int .u8 b_7), (.int .u8 b_8), (.int .u8 b_9)])] w1 fun e3 w4 =>
   ∃ n5 : Int, (e3 = .returned (.int .i64 n5)) ∧
   (X.Kept L2 w1 w4) ∧
   if (n5 != 2) = true then
    ∀ w7 : World, (X.Hid (L2) w4 w7) →
    R (.returned (.tuple #[(.agg #[(.int .u8 0), (.string (ByteArray.mk #[]))]), (.bool false)])) w7
   else
    ∃ x6 : X.Facts, (X.FactsW x6 w4 (L2)) ∧
    False) :
    Calls Try.prog 28 #[.pointer none, .agg #[.int .u8 b_0, .int .u16 b_1, .int .u32 b_2, .int .u8 b_3, .int .u8 b_4, .int .u8 b_5, .int .u8 b_6, .int .u8 b_7, .int .u8 b_8, .int .u8 b_9]] w R :=
  X.calls_of { isLoc := [3, 4], sym := [], loops := [], joins := [], stored := [(3, [4])] } Try.func28 (by kernel_rfl) h
abbrev fn_nil_Len : Nat := 34
theorem x_nil_Len  (w : World) (R : Ending → World → Prop) (h :
  X.CallX Try.prog 36 #[(.pointer none)] w fun e1 w2 =>
   ∃ b3 : Bool, (e1 = .returned (.bool b3)) ∧
   ((w).heap.size ≤ (w2).heap.size) ∧
   if b3 = true then
    R (.returned (.int .i64 0)) w2
   else
    False) :
    Calls Try.prog 34 #[.pointer none] w R :=
  X.calls_of { isLoc := [], sym := [9], loops := [], joins := [] } Try.func34 (by kernel_rfl) h
abbrev fn_nil_Floor : Nat := 19
theorem x_nil_Floor (b_0 b_1 : Int) (w : World) (R : Ending → World → Prop) (h :
  ∀ w1 : World, ∀ L2 : List Nat, (X.Hid [] w w1) →
  (X.NewL (w).heap.size [] w w1 L2) →
  X.CallX Try.prog 36 #[(.pointer none)] w1 fun e3 w4 =>
   ∃ b5 : Bool, (e3 = .returned (.bool b5)) ∧
   (X.Kept L2 w1 w4) ∧
   if b5 = true then
    R (.returned (.int .u32 0)) w4
   else
    ∃ x6 : X.Facts, (X.FactsW x6 w4 (L2)) ∧
    False) :
    Calls Try.prog 19 #[.pointer none, .agg #[.int .u8 b_0, .int .u16 b_1]] w R :=
  X.calls_of { isLoc := [3], sym := [], loops := [], joins := [] } Try.func19 (by kernel_rfl) h
abbrev fn_nil_All : Nat := 18
theorem x_nil_All  (w : World) (R : Ending → World → Prop) (h :
  X.CallX Try.prog 36 #[(.pointer none)] w fun e1 w2 =>
   ∃ b3 : Bool, (e1 = .returned (.bool b3)) ∧
   ((w).heap.size ≤ (w2).heap.size) ∧
   if b3 = true then
    R (.returned (.slice none 0 0)) w2
   else
    False) :
    Calls Try.prog 18 #[.pointer none] w R :=
  X.calls_of { isLoc := [], sym := [], loops := [], joins := [] } Try.func18 (by kernel_rfl) h
abbrev fn_nil_Clone : Nat := 12
theorem x_nil_Clone  (w : World) (R : Ending → World → Prop) (h :
  X.CallX Try.prog 36 #[(.pointer none)] w fun e1 w2 =>
   ∃ b3 : Bool, (e1 = .returned (.bool b3)) ∧
   ((w).heap.size ≤ (w2).heap.size) ∧
   if b3 = true then
    R (.returned (.pointer none)) w2
   else
    ∃ x4 : X.Facts, (X.FactsW x4 w2 []) ∧
    False) :
    Calls Try.prog 12 #[.pointer none] w R :=
  X.calls_of { isLoc := [], sym := [], loops := [], joins := [] } Try.func12 (by kernel_rfl) h
abbrev fn_Floor : Nat := 19
theorem x_Floor (a : Addr) (b_0 b_1 : Int) (w : World) (R : Ending → World → Prop) (h :
  ∀ w1 : World, ∀ L2 : List Nat, (X.Hid [] w w1) →
  (X.NewL (w).heap.size [] w w1 L2) →
  X.CallX Try.prog 36 #[(.pointer (some a))] w1 fun e3 w4 =>
   ∃ b5 : Bool, (e3 = .returned (.bool b5)) ∧
   (X.Kept L2 w1 w4) ∧
   if b5 = true then
    R (.returned (.int .u32 0)) w4
   else
    ∃ x6 : X.Facts, (X.FactsW x6 w4 (L2)) ∧
    ∃ q7 : Option Nat, (((a.add 2), [(.map (q7))]) ∈ x6) ∧
    ∀ w8 : World, ∀ L9 : List Nat, (X.Hid (L2) w4 w8) →
    (X.NewL (w).heap.size (L2) w4 w8 L9) →
    ∃ n10 : Int, ∃ w11 : World, (Sem.run Try.prog (Go.Instr.lookup 85 (.map (q7)) (.agg #[(.int .u8 b_0), (.int .u16 b_1)]) false) w8 = .ok (.int .u32 n10) w11) ∧
    (X.Kept L9 w8 w11) ∧
    (X.FactsW x6 w11 (L9)) ∧
    R (.returned (.int .u32 n10)) w11) :
    Calls Try.prog 19 #[.pointer (some a), .agg #[.int .u8 b_0, .int .u16 b_1]] w R :=
  X.calls_of { isLoc := [3], sym := [], loops := [], joins := [] } Try.func19 (by kernel_rfl) h
abbrev fn_All : Nat := 18
theorem x_All (a : Addr) (w : World) (R : Ending → World → Prop) (h :
  X.CallX Try.prog 36 #[(.pointer (some a))] w fun e1 w2 =>
   ∃ b3 : Bool, (e1 = .returned (.bool b3)) ∧
   ((w).heap.size ≤ (w2).heap.size) ∧
   if b3 = true then
    R (.returned (.slice none 0 0)) w2
   else
    ∃ q4 : Option Nat, (World.cell? w2 (a.add 1) = some (.map (q4))) ∧
    X.CallX Try.prog 43 #[(.map (q4))] w2 fun e5 w6 =>
     ∃ v7 : Value, (e5 = .returned (v7)) ∧
     ((w2).heap.size ≤ (w6).heap.size) ∧
     X.CallX Try.prog 42 #[(v7)] w6 fun e8 w9 =>
      ∃ q10 : Option Addr, ∃ k11 : Nat, ∃ k12 : Nat, (e8 = .returned (.slice (q10) k11 k12)) ∧
      ((w6).heap.size ≤ (w9).heap.size) ∧
      X.CallX Try.prog 44 #[(.slice (q10) k11 k12), (.func (.func 45) #[] #[])] w9 fun e13 w14 =>
       (e13 = .returned (.tuple #[])) ∧
       ((w9).heap.size ≤ (w14).heap.size) ∧
       R (.returned (.slice (q10) k11 k12)) w14) :
    Calls Try.prog 18 #[.pointer (some a)] w R :=
  X.calls_of { isLoc := [], sym := [], loops := [], joins := [] } Try.func18 (by kernel_rfl) h
abbrev fn_nil_nil_Same : Nat := 13
theorem x_nil_nil_Same  (w : World) (R : Ending → World → Prop) (h :
  X.CallX Try.prog 36 #[(.pointer none)] w fun e1 w2 =>
   ∃ b3 : Bool, (e1 = .returned (.bool b3)) ∧
   ((w).heap.size ≤ (w2).heap.size) ∧
   if (b3 == false) = true then
    X.CallX Try.prog 36 #[(.pointer none)] w2 fun e10 w11 =>
     ∃ b12 : Bool, (e10 = .returned (.bool b12)) ∧
     ((w2).heap.size ≤ (w11).heap.size) ∧
     if (false || b12) = true then
      X.CallX Try.prog 36 #[(.pointer none)] w11 fun e14 w15 =>
       ∃ b16 : Bool, (e14 = .returned (.bool b16)) ∧
       ((w11).heap.size ≤ (w15).heap.size) ∧
       if (b16 == true) = true then
        X.CallX Try.prog 36 #[(.pointer none)] w15 fun e17 w18 =>
         ∃ b19 : Bool, (e17 = .returned (.bool b19)) ∧
         ((w15).heap.size ≤ (w18).heap.size) ∧
         R (.returned (.bool (true && b19))) w18
       else
        R (.returned (.bool false)) w15
     else
      ∃ x13 : X.Facts, (X.FactsW x13 w11 []) ∧
      False
   else
    X.CallX Try.prog 36 #[(.pointer none)] w2 fun e4 w5 =>
     ∃ b6 : Bool, (e4 = .returned (.bool b6)) ∧
     ((w2).heap.size ≤ (w5).heap.size) ∧
     if (b6 == true) = true then
      X.CallX Try.prog 36 #[(.pointer none)] w5 fun e7 w8 =>
       ∃ b9 : Bool, (e7 = .returned (.bool b9)) ∧
       ((w5).heap.size ≤ (w8).heap.size) ∧
       R (.returned (.bool (true && b9))) w8
     else
      R (.returned (.bool false)) w5) :
    Calls Try.prog 13 #[.pointer none, .pointer none] w R :=
  X.calls_of { isLoc := [], sym := [], loops := [], joins := [] } Try.func13 (by kernel_rfl) h
abbrev fn_nil_Same : Nat := 13
theorem x_nil_Same (b : Addr) (w : World) (R : Ending → World → Prop) (h :
  X.CallX Try.prog 36 #[(.pointer none)] w fun e1 w2 =>
   ∃ b3 : Bool, (e1 = .returned (.bool b3)) ∧
   ((w).heap.size ≤ (w2).heap.size) ∧
   if (b3 == false) = true then
    X.CallX Try.prog 36 #[(.pointer (some b))] w2 fun e10 w11 =>
     ∃ b12 : Bool, (e10 = .returned (.bool b12)) ∧
     ((w2).heap.size ≤ (w11).heap.size) ∧
     if (false || b12) = true then
      X.CallX Try.prog 36 #[(.pointer none)] w11 fun e14 w15 =>
       ∃ b16 : Bool, (e14 = .returned (.bool b16)) ∧
       ((w11).heap.size ≤ (w15).heap.size) ∧
       if (b16 == true) = true then
        X.CallX Try.prog 36 #[(.pointer (some b))] w15 fun e17 w18 =>
         ∃ b19 : Bool, (e17 = .returned (.bool b19)) ∧
         ((w15).heap.size ≤ (w18).heap.size) ∧
         R (.returned (.bool (true && b19))) w18
       else
        R (.returned (.bool false)) w15
     else
      ∃ x13 : X.Facts, (X.FactsW x13 w11 []) ∧
      False
   else
    X.CallX Try.prog 36 #[(.pointer none)] w2 fun e4 w5 =>
     ∃ b6 : Bool, (e4 = .returned (.bool b6)) ∧
     ((w2).heap.size ≤ (w5).heap.size) ∧
     if (b6 == true) = true then
      X.CallX Try.prog 36 #[(.pointer (some b))] w5 fun e7 w8 =>
       ∃ b9 : Bool, (e7 = .returned (.bool b9)) ∧
       ((w5).heap.size ≤ (w8).heap.size) ∧
       R (.returned (.bool (true && b9))) w8
     else
      R (.returned (.bool false)) w5) :
    Calls Try.prog 13 #[.pointer none, .pointer (some b)] w R :=
  X.calls_of { isLoc := [], sym := [], loops := [], joins := [] } Try.func13 (by kernel_rfl) h
abbrev fn_Same_nil : Nat := 13
theorem x_Same_nil (a : Addr) (w : World) (R : Ending → World → Prop) (h :
  X.CallX Try.prog 36 #[(.pointer (some a))] w fun e1 w2 =>
   ∃ b3 : Bool, (e1 = .returned (.bool b3)) ∧
   ((w).heap.size ≤ (w2).heap.size) ∧
   if (b3 == false) = true then
    X.CallX Try.prog 36 #[(.pointer none)] w2 fun e10 w11 =>
     ∃ b12 : Bool, (e10 = .returned (.bool b12)) ∧
     ((w2).heap.size ≤ (w11).heap.size) ∧
     if (false || b12) = true then
      X.CallX Try.prog 36 #[(.pointer (some a))] w11 fun e15 w16 =>
       ∃ b17 : Bool, (e15 = .returned (.bool b17)) ∧
       ((w11).heap.size ≤ (w16).heap.size) ∧
       if (b17 == true) = true then
        X.CallX Try.prog 36 #[(.pointer none)] w16 fun e18 w19 =>
         ∃ b20 : Bool, (e18 = .returned (.bool b20)) ∧
         ((w16).heap.size ≤ (w19).heap.size) ∧
         R (.returned (.bool (true && b20))) w19
       else
        R (.returned (.bool false)) w16
     else
      ∃ x13 : X.Facts, (X.FactsW x13 w11 []) ∧
      ∃ n14 : Int, (((a.add 0), [(.int .u32 n14)]) ∈ x13) ∧
      False
   else
    X.CallX Try.prog 36 #[(.pointer (some a))] w2 fun e4 w5 =>
     ∃ b6 : Bool, (e4 = .returned (.bool b6)) ∧
     ((w2).heap.size ≤ (w5).heap.size) ∧
     if (b6 == true) = true then
      X.CallX Try.prog 36 #[(.pointer none)] w5 fun e7 w8 =>
       ∃ b9 : Bool, (e7 = .returned (.bool b9)) ∧
       ((w5).heap.size ≤ (w8).heap.size) ∧
       R (.returned (.bool (true && b9))) w8
     else
      R (.returned (.bool false)) w5) :
    Calls Try.prog 13 #[.pointer (some a), .pointer none] w R :=
  X.calls_of { isLoc := [], sym := [], loops := [], joins := [] } Try.func13 (by kernel_rfl) h
abbrev fn_AmoNil : Nat := 7
theorem x_AmoNil (a_0 a_1 a_2 a_3 a_4 a_5 a_6 a_7 a_8 a_9 a_10 a_11 : Int) (a_12 : ByteArray) (a_13 : Int) (w : World) (R : Ending → World → Prop) (h :
  ∀ w1 : World, ∀ L2 : List Nat, (X.Hid [] w w1) →
  (X.NewL (w).heap.size [] w w1 L2) →
  X.CallX Try.prog 8 #[(.slice (some ⟨(w1).heap.size, 0, none⟩) 1 1)] (w1.alloc (.cells #[(.int .i64 a_0), (.int .u8 a_1), (.int .u16 a_2), (.int .u32 a_3), (.int .u8 a_4), (.int .u8 a_5), (.int .u8 a_6), (.int .u8 a_7), (.int .u8 a_8), (.int .u8 a_9), (.int .u8 a_10), (.int .u8 a_11), (.string a_12), (.int .u32 a_13)] 41)) fun e3 w4 =>
   ∃ b5 : Bool, (e3 = .returned (.bool b5)) ∧
   (X.Kept L2 (w1.alloc (.cells #[(.int .i64 a_0), (.int .u8 a_1), (.int .u16 a_2), (.int .u32 a_3), (.int .u8 a_4), (.int .u8 a_5), (.int .u8 a_6), (.int .u8 a_7), (.int .u8 a_8), (.int .u8 a_9), (.int .u8 a_10), (.int .u8 a_11), (.string a_12), (.int .u32 a_13)] 41)) w4) ∧
   if (!b5) = true then
    X.CallX Try.prog 9 #[] w4 fun e79 w80 =>
     ∃ b81 : Bool, (e79 = .returned (.bool b81)) ∧
     (X.Kept L2 w4 w80) ∧
     R (.returned (.bool b81)) w80
   else
    X.CallX Try.prog 17 #[(.agg #[(.int .u8 a_1), (.int .u16 a_2), (.int .u32 a_3), (.int .u8 a_4), (.int .u8 a_5), (.int .u8 a_6), (.int .u8 a_7), (.int .u8 a_8), (.int .u8 a_9), (.int .u8 a_10)])] w4 fun e6 w7 =>
     ∃ n8 : Int, ∃ n9 : Int, ∃ n10 : Int, ∃ n11 : Int, ∃ n12 : Int, ∃ n13 : Int, ∃ n14 : Int, ∃ n15 : Int, ∃ n16 : Int, ∃ n17 : Int, (e6 = .returned (.agg #[(.int .u8 n8), (.int .u16 n9), (.int .u32 n10), (.int .u8 n11), (.int .u8 n12), (.int .u8 n13), (.int .u8 n14), (.int .u8 n15), (.int .u8 n16), (.int .u8 n17)])) ∧
     (X.Kept L2 w4 w7) ∧
     ∀ w18 : World, ∀ L19 : List Nat, (X.Hid (L2) w7 w18) →
     (X.NewL (w).heap.size (L2) w7 w18 L19) →
     ∃ x20 : Option Addr → Int → World → List Nat → Prop, ∃ x21 : Option Addr → Int → World → Nat, (x20 (none) 0 w18 (L19)) ∧
     ∀ q22 : Option Addr, ∀ n23 : Int, ∀ w24 : World, ∀ L25 : List Nat, (X.LF (w).heap.size w24 L25) →
     (x20 q22 n23 w24 L25) →
     if (decide (n23 < 2)) = true then
      X.CallX Try.prog 26 #[(.pointer (q22)), (.agg #[(.int .u8 n8), (.int .u16 n9)]), (.int .u32 a_13)] w24 fun e29 w30 =>
       (e29 = .returned (.tuple #[])) ∧
       (X.Kept L25 w24 w30) ∧
       X.CallX Try.prog 28 #[(.pointer (q22)), (.agg #[(.int .u8 n8), (.int .u16 n9), (.int .u32 n10), (.int .u8 n11), (.int .u8 n12), (.int .u8 n13), (.int .u8 n14), (.int .u8 n15), (.int .u8 n16), (.int .u8 n17)])] w30 fun e31 w32 =>
        ∃ n33 : Int, ∃ s34 : ByteArray, ∃ b35 : Bool, (e31 = .returned (.tuple #[(.agg #[(.int .u8 n33), (.string s34)]), (.bool b35)])) ∧
        (X.Kept L25 w30 w32) ∧
        ∀ w36 : World, ∀ L37 : List Nat, (X.Hid (L25) w32 w36) →
        (X.NewL (w).heap.size (L25) w32 w36 L37) →
        X.CallX Try.prog 31 #[(.pointer (q22)), (.agg #[(.int .u8 n8), (.int .u16 n9), (.int .u32 n10), (.int .u8 n11), (.int .u8 n12), (.int .u8 n13), (.int .u8 n14), (.int .u8 n15), (.int .u8 n16), (.int .u8 n17)])] w36 fun e38 w39 =>
         ∃ n40 : Int, (e38 = .returned (.int .i64 n40)) ∧
         (X.Kept L37 w36 w39) ∧
         if ((n40 != 3) == false) = true then
          X.CallX Try.prog 21 #[(.pointer (q22)), (.agg #[(.int .u8 n8), (.int .u16 n9), (.int .u32 n10), (.int .u8 n11), (.int .u8 n12), (.int .u8 n13), (.int .u8 n14), (.int .u8 n15), (.int .u8 n16), (.int .u8 n17)])] w39 fun e41 w42 =>
           ∃ n43 : Int, (e41 = .returned (.int .i64 n43)) ∧
           (X.Kept L37 w39 w42) ∧
           X.CallX Try.prog 20 #[(.int .i64 n43)] w42 fun e44 w45 =>
            ∃ n46 : Int, (e44 = .returned (.int .i64 n46)) ∧
            (X.Kept L37 w42 w45) ∧
            if ((false || (n46 != 1)) == false) = true then
             X.CallX Try.prog 23 #[(.pointer (q22)), (.agg #[(.int .u8 n8), (.int .u16 n9), (.int .u32 n10), (.int .u8 n11), (.int .u8 n12), (.int .u8 n13), (.int .u8 n14), (.int .u8 n15), (.int .u8 n16), (.int .u8 n17)]), (.agg #[(.int .u8 0), (.string (ByteArray.mk #[]))])] w45 fun e47 w48 =>
              ∃ b49 : Bool, (e47 = .returned (.bool b49)) ∧
              (X.Kept L37 w45 w48) ∧
              if ((false || b49) == false) = true then
               X.CallX Try.prog 19 #[(.pointer (q22)), (.agg #[(.int .u8 n8), (.int .u16 n9)])] w48 fun e50 w51 =>
                ∃ n52 : Int, (e50 = .returned (.int .u32 n52)) ∧
                (X.Kept L37 w48 w51) ∧
                if (((false || (n52 != 0)) || b35) == false) = true then
                 X.CallX Try.prog 34 #[(.pointer (q22))] w51 fun e53 w54 =>
                  ∃ n55 : Int, (e53 = .returned (.int .i64 n55)) ∧
                  (X.Kept L37 w51 w54) ∧
                  X.CallX Try.prog 18 #[(.pointer (q22))] w54 fun e56 w57 =>
                   ∃ q58 : Option Addr, ∃ k59 : Nat, ∃ k60 : Nat, (e56 = .returned (.slice (q58) k59 k60)) ∧
                   (X.Kept L37 w54 w57) ∧
                   if ((false || ((IntKind.wrap .i64 (n55 + ((k59 : Nat) : Int))) != 0)) == false) = true then
                    X.CallX Try.prog 12 #[(.pointer (q22))] w57 fun e61 w62 =>
                     ∃ q63 : Option Addr, (e61 = .returned (.pointer (q63))) ∧
                     (X.Kept L37 w57 w62) ∧
                     if ((false || (!(q63.isNone))) == false) = true then
                      X.CallX Try.prog 13 #[(.pointer (q22)), (.pointer none)] w62 fun e64 w65 =>
                       ∃ b66 : Bool, (e64 = .returned (.bool b66)) ∧
                       (X.Kept L37 w62 w65) ∧
                       if ((false || (!b66)) == false) = true then
                        X.CallX Try.prog 10 #[(.int .i64 1)] w65 fun e67 w68 =>
                         ∃ q69 : Option Addr, (e67 = .returned (.pointer (q69))) ∧
                         (X.Kept L37 w65 w68) ∧
                         X.CallX Try.prog 13 #[(.pointer (q22)), (.pointer (q69))] w68 fun e70 w71 =>
                          ∃ b72 : Bool, (e70 = .returned (.bool b72)) ∧
                          (X.Kept L37 w68 w71) ∧
                          if ((false || b72) == false) = true then
                           X.CallX Try.prog 10 #[(.int .i64 1)] w71 fun e73 w74 =>
                            ∃ q75 : Option Addr, (e73 = .returned (.pointer (q75))) ∧
                            (X.Kept L37 w71 w74) ∧
                            X.CallX Try.prog 13 #[(.pointer (q75)), (.pointer (q22))] w74 fun e76 w77 =>
                             ∃ b78 : Bool, (e76 = .returned (.bool b78)) ∧
                             (X.Kept L37 w74 w77) ∧
                             if (false || b78) = true then
                              R (.returned (.bool false)) w77
                             else
                              (([(.int .i64 a_0), (.int .u8 a_1), (.int .u16 a_2), (.int .u32 a_3), (.int .u8 a_4), (.int .u8 a_5), (.int .u8 a_6), (.int .u8 a_7), (.int .u8 a_8), (.int .u8 a_9), (.int .u8 a_10), (.int .u8 a_11), (.string a_12), (.int .u32 a_13)] : List Value) = [(.int .i64 a_0), (.int .u8 a_1), (.int .u16 a_2), (.int .u32 a_3), (.int .u8 a_4), (.int .u8 a_5), (.int .u8 a_6), (.int .u8 a_7), (.int .u8 a_8), (.int .u8 a_9), (.int .u8 a_10), (.int .u8 a_11), (.string a_12), (.int .u32 a_13)]) ∧
                              (([(.int .u8 n8), (.int .u16 n9), (.int .u32 n10), (.int .u8 n11), (.int .u8 n12), (.int .u8 n13), (.int .u8 n14), (.int .u8 n15), (.int .u8 n16), (.int .u8 n17)] : List Value) = [(.int .u8 n8), (.int .u16 n9), (.int .u32 n10), (.int .u8 n11), (.int .u8 n12), (.int .u8 n13), (.int .u8 n14), (.int .u8 n15), (.int .u8 n16), (.int .u8 n17)]) ∧
                              (x20 (some (Addr.mk w77.heap.size 0 none)) (IntKind.wrap .i64 (n23 + 1)) (w77.alloc (.cells #[(.int .u32 0), (.map none), (.map none)] 87)) (L37)) ∧
                              Nat.le ((x21 (some (Addr.mk w77.heap.size 0 none)) (IntKind.wrap .i64 (n23 + 1)) (w77.alloc (.cells #[(.int .u32 0), (.map none), (.map none)] 87))) + 1) (x21 q22 n23 w24)
                          else
                           R (.returned (.bool false)) w71
                       else
                        R (.returned (.bool false)) w65
                     else
                      R (.returned (.bool false)) w62
                   else
                    R (.returned (.bool false)) w57
                else
                 R (.returned (.bool false)) w51
              else
               R (.returned (.bool false)) w48
            else
             R (.returned (.bool false)) w45
         else
          R (.returned (.bool false)) w39
     else
      X.CallX Try.prog 9 #[] w24 fun e26 w27 =>
       ∃ b28 : Bool, (e26 = .returned (.bool b28)) ∧
       (X.Kept L25 w24 w27) ∧
       R (.returned (.bool b28)) w27) :
    Calls Try.prog 7 #[.agg #[.int .i64 a_0, .int .u8 a_1, .int .u16 a_2, .int .u32 a_3, .int .u8 a_4, .int .u8 a_5, .int .u8 a_6, .int .u8 a_7, .int .u8 a_8, .int .u8 a_9, .int .u8 a_10, .int .u8 a_11, .string a_12, .int .u32 a_13]] w R :=
  X.calls_of { isLoc := [1, 3, 6], sym := [], loops := [(6, .inv [(4, .ptr), (5, .int .i64)] [] true)], joins := [] } Try.func7 (by kernel_rfl) h
end Go.Proofs
