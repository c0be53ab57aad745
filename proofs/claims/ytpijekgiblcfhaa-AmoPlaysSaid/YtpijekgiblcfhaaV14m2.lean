import Derived.Test.YtpijekgiblcfhaaXFn
import Derived.Test.YtpijekgiblcfhaaProg
set_option maxRecDepth 100000
set_option linter.unusedVariables false
/- The verification conditions of this seat's functions, as the engine has them: printed by a program of the bench; checked by the kernel. -/
namespace Go.Proofs
open Go
abbrev fn_nil_none : Nat := 36
theorem x_nil_none  (w : World) (R : Ending → World → Prop) (h :
  R (.returned (.bool true)) w) :
    Calls Try.prog 36 #[.pointer none] w R :=
  X.calls_of { isLoc := [], sym := [], loops := [], joins := [] } Try.func36 (by kernel_rfl) h
abbrev fn_nil_State : Nat := 31
theorem x_nil_State (b_0 b_1 b_2 b_3 b_4 b_5 b_6 b_7 b_8 b_9 : Int) (w : World) (R : Ending → World → Prop) (h :
  ∀ w1 : World, ∀ L2 : List Nat, (X.Hid [] w w1) →
  (X.NewL (w).heap.size [] w w1 L2) →
  X.CallX Try.prog 36 #[(.pointer none)] w1 fun e3 w4 =>
   ∃ b5 : Bool, (e3 = .returned (.bool b5)) ∧
   (X.Kept L2 w1 w4) ∧
   if b5 = true then
    R (.returned (.int .i64 3)) w4
   else
    ∃ x6 : X.Facts, (X.FactsW x6 w4 (L2)) ∧
    False) :
    Calls Try.prog 31 #[.pointer none, .agg #[.int .u8 b_0, .int .u16 b_1, .int .u32 b_2, .int .u8 b_3, .int .u8 b_4, .int .u8 b_5, .int .u8 b_6, .int .u8 b_7, .int .u8 b_8, .int .u8 b_9]] w R :=
  X.calls_of { isLoc := [3, 5], sym := [], loops := [], joins := [], stored := [(3, [5])] } Try.func31 (by kernel_rfl) h
abbrev fn_nil_Begin : Nat := 21
theorem x_nil_Begin (b_0 b_1 b_2 b_3 b_4 b_5 b_6 b_7 b_8 b_9 : Int) (w : World) (R : Ending → World → Prop) (h :
  ∀ w1 : World, ∀ L2 : List Nat, (X.Hid [] w w1) →
  (X.NewL (w).heap.size [] w w1 L2) →
  X.CallX Try.prog 36 #[(.pointer none)] w1 fun e3 w4 =>
   ∃ b5 : Bool, (e3 = .returned (.bool b5)) ∧
   (X.Kept L2 w1 w4) ∧
   if (b5 == false) = true then
    X.CallX Try.prog 47 #[(.agg #[(.int .u8 b_0), (.int .u16 b_1), (.int .u32 b_2), (.int .u8 b_3), (.int .u8 b_4), (.int .u8 b_5), (.int .u8 b_6), (.int .u8 b_7), (.int .u8 b_8), (.int .u8 b_9)])] w4 fun e6 w7 =>
     ∃ b8 : Bool, (e6 = .returned (.bool b8)) ∧
     (X.Kept L2 w4 w7) ∧
     if (false || (!b8)) = true then
      R (.returned (.int .i64 1)) w7
     else
      X.CallX Try.prog 31 #[(.pointer none), (.agg #[(.int .u8 b_0), (.int .u16 b_1), (.int .u32 b_2), (.int .u8 b_3), (.int .u8 b_4), (.int .u8 b_5), (.int .u8 b_6), (.int .u8 b_7), (.int .u8 b_8), (.int .u8 b_9)])] w7 fun e9 w10 =>
       ∃ n11 : Int, (e9 = .returned (.int .i64 n11)) ∧
       (X.Kept L2 w7 w10) ∧
       if (n11 == 3) = true then
        R (.returned (.int .i64 16)) w10
       else
        if (n11 == 4) = true then
         R (.returned (.int .i64 10)) w10
        else
         if (n11 == 0) = true then
          ∃ x12 : X.Facts, (X.FactsW x12 w10 (L2)) ∧
          False
         else
          R (.returned (.int .i64 4)) w10
   else
    R (.returned (.int .i64 1)) w4) :
    Calls Try.prog 21 #[.pointer none, .agg #[.int .u8 b_0, .int .u16 b_1, .int .u32 b_2, .int .u8 b_3, .int .u8 b_4, .int .u8 b_5, .int .u8 b_6, .int .u8 b_7, .int .u8 b_8, .int .u8 b_9]] w R :=
  X.calls_of { isLoc := [3], sym := [], loops := [], joins := [] } Try.func21 (by kernel_rfl) h
abbrev fn_nil_End : Nat := 23
theorem x_nil_End (b_0 b_1 b_2 b_3 b_4 b_5 b_6 b_7 b_8 b_9 c_0 : Int) (c_1 : ByteArray) (w : World) (R : Ending → World → Prop) (h :
  ∀ w1 : World, ∀ L2 : List Nat, (X.Hid [] w w1) →
  (X.NewL (w).heap.size [] w w1 L2) →
  X.CallX Try.prog 31 #[(.pointer none), (.agg #[(.int .u8 b_0), (.int .u16 b_1), (.int .u32 b_2), (.int .u8 b_3), (.int .u8 b_4), (.int .u8 b_5), (.int .u8 b_6), (.int .u8 b_7), (.int .u8 b_8), (.int .u8 b_9)])] w1 fun e3 w4 =>
   ∃ n5 : Int, (e3 = .returned (.int .i64 n5)) ∧
   (X.Kept L2 w1 w4) ∧
   if (n5 != 1) = true then
    R (.returned (.bool false)) w4
   else
    X.CallX Try.prog 50 #[(.pointer none), (.agg #[(.int .u8 b_0), (.int .u16 b_1), (.int .u32 b_2), (.int .u8 b_3), (.int .u8 b_4), (.int .u8 b_5), (.int .u8 b_6), (.int .u8 b_7), (.int .u8 b_8), (.int .u8 b_9)])] w4 fun e6 w7 =>
     ∃ b8 : Bool, (e6 = .returned (.bool b8)) ∧
     (X.Kept L2 w4 w7) ∧
     if b8 = true then
      ∃ x10 : X.Facts, (X.FactsW x10 w7 (L2)) ∧
      False
     else
      ∃ x9 : X.Facts, (X.FactsW x9 w7 (L2)) ∧
      False) :
    Calls Try.prog 23 #[.pointer none, .agg #[.int .u8 b_0, .int .u16 b_1, .int .u32 b_2, .int .u8 b_3, .int .u8 b_4, .int .u8 b_5, .int .u8 b_6, .int .u8 b_7, .int .u8 b_8, .int .u8 b_9], .agg #[.int .u8 c_0, .string c_1]] w R :=
  X.calls_of { isLoc := [4, 5], sym := [], loops := [], joins := [] } Try.func23 (by kernel_rfl) h
abbrev fn_nil_Raise : Nat := 26
theorem x_nil_Raise (b_0 b_1 c : Int) (w : World) (R : Ending → World → Prop) (h :
  ∃ x1 : X.Facts, (X.FactsW x1 w []) ∧
  ∀ w2 : World, ∀ L3 : List Nat, (X.Hid [] w w2) →
  (X.NewL (w).heap.size [] w w2 L3) →
  X.CallX Try.prog 36 #[(.pointer none)] w2 fun e4 w5 =>
   ∃ b6 : Bool, (e4 = .returned (.bool b6)) ∧
   (X.Kept L3 w2 w5) ∧
   (X.FactsW x1 w5 (L3)) ∧
   ∃ x7 : X.Facts, (X.FactsW x7 w5 (L3)) ∧
   (∀ x8 : Addr × List Value, (x8 ∈ x1) →
    x8 ∈ x7) ∧
   if (b6 == false) = true then
    X.CallX Try.prog 52 #[(.agg #[(.int .u8 b_0), (.int .u16 b_1)])] w5 fun e11 w12 =>
     ∃ b13 : Bool, (e11 = .returned (.bool b13)) ∧
     (X.Kept L3 w5 w12) ∧
     (X.FactsW x7 w12 (L3)) ∧
     ∃ x14 : X.Facts, (X.FactsW x14 w12 (L3)) ∧
     (∀ x15 : Addr × List Value, (x15 ∈ x7) →
      x15 ∈ x14) ∧
     if (((false || (!b13)) || decide (c > 1048576)) == false) = true then
      False
     else
      R (.returned (.tuple #[])) w12
   else
    ∃ x9 : X.Facts, (X.FactsW x9 w5 (L3)) ∧
    (∀ x10 : Addr × List Value, (x10 ∈ x7) →
     x10 ∈ x9) ∧
    R (.returned (.tuple #[])) w5) :
    Calls Try.prog 26 #[.pointer none, .agg #[.int .u8 b_0, .int .u16 b_1], .int .u32 c] w R :=
  X.calls_of { isLoc := [4], sym := [], loops := [], joins := [] } Try.func26 (by kernel_rfl) h
abbrev fn_nil_Res : Nat := 28
theorem x_nil_Res (b_0 b_1 b_2 b_3 b_4 b_5 b_6 b_7 b_8 b_9 : Int) (w : World) (R : Ending → World → Prop) (h :
  ∀ w1 : World, ∀ L2 : List Nat, (X.Hid [] w w1) →
  (X.NewL (w).heap.size [] w w1 L2) →
  X.CallX Try.prog 31 #[(.pointer none), (.agg #[(.int .u8 b_0), (.int .u16 b_1), (.int .u32 b_2), (.int .u8 b_3), (.int .u8 b_4), (.int .u8 b_5), (.int .u8 b_6), (.int .u8 b_7), (.int .u8 b_8), (.int .u8 b_9)])] w1 fun e3 w4 =>
   ∃ n5 : Int, (e3 = .returned (.int .i64 n5)) ∧
   (X.Kept L2 w1 w4) ∧
   if (n5 != 2) = true then
    ∀ w7 : World, (X.Hid (L2) w4 w7) →
    R (.returned (.tuple #[(.agg #[(.int .u8 0), (.string (ByteArray.mk #[]))]), (.bool false)])) w7
   else
    ∃ x6 : X.Facts, (X.FactsW x6 w4 (L2)) ∧
    False) :
    Calls Try.prog 28 #[.pointer none, .agg #[.int .u8 b_0, .int .u16 b_1, .int .u32 b_2, .int .u8 b_3, .int .u8 b_4, .int .u8 b_5, .int .u8 b_6, .int .u8 b_7, .int .u8 b_8, .int .u8 b_9]] w R :=
  X.calls_of { isLoc := [3, 4], sym := [], loops := [], joins := [], stored := [(3, [4])] } Try.func28 (by kernel_rfl) h
abbrev fn_nil_Len : Nat := 34
theorem x_nil_Len  (w : World) (R : Ending → World → Prop) (h :
  X.CallX Try.prog 36 #[(.pointer none)] w fun e1 w2 =>
   ∃ b3 : Bool, (e1 = .returned (.bool b3)) ∧
   ((w).heap.size ≤ (w2).heap.size) ∧
   if b3 = true then
    R (.returned (.int .i64 0)) w2
   else
    False) :
    Calls Try.prog 34 #[.pointer none] w R :=
  X.calls_of { isLoc := [], sym := [9], loops := [], joins := [] } Try.func34 (by kernel_rfl) h
abbrev fn_nil_Floor : Nat := 19
theorem x_nil_Floor (b_0 b_1 : Int) (w : World) (R : Ending → World → Prop) (h :
  ∀ w1 : World, ∀ L2 : List Nat, (X.Hid [] w w1) →
  (X.NewL (w).heap.size [] w w1 L2) →
  X.CallX Try.prog 36 #[(.pointer none)] w1 fun e3 w4 =>
   ∃ b5 : Bool, (e3 = .returned (.bool b5)) ∧
   (X.Kept L2 w1 w4) ∧
   if b5 = true then
    R (.returned (.int .u32 0)) w4
   else
    ∃ x6 : X.Facts, (X.FactsW x6 w4 (L2)) ∧
    False) :
    Calls Try.prog 19 #[.pointer none, .agg #[.int .u8 b_0, .int .u16 b_1]] w R :=
  X.calls_of { isLoc := [3], sym := [], loops := [], joins := [] } Try.func19 (by kernel_rfl) h
abbrev fn_nil_All : Nat := 18
theorem x_nil_All  (w : World) (R : Ending → World → Prop) (h :
  X.CallX Try.prog 36 #[(.pointer none)] w fun e1 w2 =>
   ∃ b3 : Bool, (e1 = .returned (.bool b3)) ∧
   ((w).heap.size ≤ (w2).heap.size) ∧
   if b3 = true then
    R (.returned (.slice none 0 0)) w2
   else
    False) :
    Calls Try.prog 18 #[.pointer none] w R :=
  X.calls_of { isLoc := [], sym := [], loops := [], joins := [] } Try.func18 (by kernel_rfl) h
abbrev fn_nil_Clone : Nat := 12
theorem x_nil_Clone  (w : World) (R : Ending → World → Prop) (h :
  X.CallX Try.prog 36 #[(.pointer none)] w fun e1 w2 =>
   ∃ b3 : Bool, (e1 = .returned (.bool b3)) ∧
   ((w).heap.size ≤ (w2).heap.size) ∧
   if b3 = true then
    R (.returned (.pointer none)) w2
   else
    ∃ x4 : X.Facts, (X.FactsW x4 w2 []) ∧
    False) :
    Calls Try.prog 12 #[.pointer none] w R :=
  X.calls_of { isLoc := [], sym := [], loops := [], joins := [] } Try.func12 (by kernel_rfl) h
abbrev fn_Floor : Nat := 19
theorem x_Floor (a : Addr) (b_0 b_1 : Int) (w : World) (R : Ending → World → Prop) (h :
  ∀ w1 : World, ∀ L2 : List Nat, (X.Hid [] w w1) →
  (X.NewL (w).heap.size [] w w1 L2) →
  X.CallX Try.prog 36 #[(.pointer (some a))] w1 fun e3 w4 =>
   ∃ b5 : Bool, (e3 = .returned (.bool b5)) ∧
   (X.Kept L2 w1 w4) ∧
   if b5 = true then
    R (.returned (.int .u32 0)) w4
   else
    ∃ x6 : X.Facts, (X.FactsW x6 w4 (L2)) ∧
    ∃ q7 : Option Nat, (((a.add 2), [(.map (q7))]) ∈ x6) ∧
    ∀ w8 : World, ∀ L9 : List Nat, (X.Hid (L2) w4 w8) →
    (X.NewL (w).heap.size (L2) w4 w8 L9) →
    ∃ n10 : Int, ∃ w11 : World, (Sem.run Try.prog (Go.Instr.lookup 85 (.map (q7)) (.agg #[(.int .u8 b_0), (.int .u16 b_1)]) false) w8 = .ok (.int .u32 n10) w11) ∧
    (X.Kept L9 w8 w11) ∧
    (X.FactsW x6 w11 (L9)) ∧
    R (.returned (.int .u32 n10)) w11) :
    Calls Try.prog 19 #[.pointer (some a), .agg #[.int .u8 b_0, .int .u16 b_1]] w R :=
  X.calls_of { isLoc := [3], sym := [], loops := [], joins := [] } Try.func19 (by kernel_rfl) h
abbrev fn_All : Nat := 18
theorem x_All (a : Addr) (w : World) (R : Ending → World → Prop) (h :
  X.CallX Try.prog 36 #[(.pointer (some a))] w fun e1 w2 =>
   ∃ b3 : Bool, (e1 = .returned (.bool b3)) ∧
   ((w).heap.size ≤ (w2).heap.size) ∧
   if b3 = true then
    R (.returned (.slice none 0 0)) w2
   else
    ∃ q4 : Option Nat, (World.cell? w2 (a.add 1) = some (.map (q4))) ∧
    X.CallX Try.prog 43 #[(.map (q4))] w2 fun e5 w6 =>
     ∃ v7 : Value, (e5 = .returned (v7)) ∧
     ((w2).heap.size ≤ (w6).heap.size) ∧
     X.CallX Try.prog 42 #[(v7)] w6 fun e8 w9 =>
      ∃ q10 : Option Addr, ∃ k11 : Nat, ∃ k12 : Nat, (e8 = .returned (.slice (q10) k11 k12)) ∧
      ((w6).heap.size ≤ (w9).heap.size) ∧
      X.CallX Try.prog 44 #[(.slice (q10) k11 k12), (.func (.func 45) #[] #[])] w9 fun e13 w14 =>
       (e13 = .returned (.tuple #[])) ∧
       ((w9).heap.size ≤ (w14).heap.size) ∧
       R (.returned (.slice (q10) k11 k12)) w14) :
    Calls Try.prog 18 #[.pointer (some a)] w R :=
  X.calls_of { isLoc := [], sym := [], loops := [], joins := [] } Try.func18 (by kernel_rfl) h
abbrev fn_nil_nil_Same : Nat := 13
theorem x_nil_nil_Same  (w : World) (R : Ending → World → Prop) (h :
  X.CallX Try.prog 36 #[(.pointer none)] w fun e1 w2 =>
   ∃ b3 : Bool, (e1 = .returned (.bool b3)) ∧
   ((w).heap.size ≤ (w2).heap.size) ∧
   if (b3 == false) = true then
    X.CallX Try.prog 36 #[(.pointer none)] w2 fun e10 w11 =>
     ∃ b12 : Bool, (e10 = .returned (.bool b12)) ∧
     ((w2).heap.size ≤ (w11).heap.size) ∧
     if (false || b12) = true then
      X.CallX Try.prog 36 #[(.pointer none)] w11 fun e14 w15 =>
       ∃ b16 : Bool, (e14 = .returned (.bool b16)) ∧
       ((w11).heap.size ≤ (w15).heap.size) ∧
       if (b16 == true) = true then
        X.CallX Try.prog 36 #[(.pointer none)] w15 fun e17 w18 =>
         ∃ b19 : Bool, (e17 = .returned (.bool b19)) ∧
         ((w15).heap.size ≤ (w18).heap.size) ∧
         R (.returned (.bool (true && b19))) w18
       else
        R (.returned (.bool false)) w15
     else
      ∃ x13 : X.Facts, (X.FactsW x13 w11 []) ∧
      False
   else
    X.CallX Try.prog 36 #[(.pointer none)] w2 fun e4 w5 =>
     ∃ b6 : Bool, (e4 = .returned (.bool b6)) ∧
     ((w2).heap.size ≤ (w5).heap.size) ∧
     if (b6 == true) = true then
      X.CallX Try.prog 36 #[(.pointer none)] w5 fun e7 w8 =>
       ∃ b9 : Bool, (e7 = .returned (.bool b9)) ∧
       ((w5).heap.size ≤ (w8).heap.size) ∧
       R (.returned (.bool (true && b9))) w8
     else
      R (.returned (.bool false)) w5) :
    Calls Try.prog 13 #[.pointer none, .pointer none] w R :=
  X.calls_of { isLoc := [], sym := [], loops := [], joins := [] } Try.func13 (by kernel_rfl) h
abbrev fn_nil_Same : Nat := 13
theorem x_nil_Same (b : Addr) (w : World) (R : Ending → World → Prop) (h :
  X.CallX Try.prog 36 #[(.pointer none)] w fun e1 w2 =>
   ∃ b3 : Bool, (e1 = .returned (.bool b3)) ∧
   ((w).heap.size ≤ (w2).heap.size) ∧
   if (b3 == false) = true then
    X.CallX Try.prog 36 #[(.pointer (some b))] w2 fun e10 w11 =>
     ∃ b12 : Bool, (e10 = .returned (.bool b12)) ∧
     ((w2).heap.size ≤ (w11).heap.size) ∧
     if (false || b12) = true then
      X.CallX Try.prog 36 #[(.pointer none)] w11 fun e14 w15 =>
       ∃ b16 : Bool, (e14 = .returned (.bool b16)) ∧
       ((w11).heap.size ≤ (w15).heap.size) ∧
       if (b16 == true) = true then
        X.CallX Try.prog 36 #[(.pointer (some b))] w15 fun e17 w18 =>
         ∃ b19 : Bool, (e17 = .returned (.bool b19)) ∧
         ((w15).heap.size ≤ (w18).heap.size) ∧
         R (.returned (.bool (true && b19))) w18
       else
        R (.returned (.bool false)) w15
     else
      ∃ x13 : X.Facts, (X.FactsW x13 w11 []) ∧
      False
   else
    X.CallX Try.prog 36 #[(.pointer none)] w2 fun e4 w5 =>
     ∃ b6 : Bool, (e4 = .returned (.bool b6)) ∧
     ((w2).heap.size ≤ (w5).heap.size) ∧
     if (b6 == true) = true then
      X.CallX Try.prog 36 #[(.pointer (some b))] w5 fun e7 w8 =>
       ∃ b9 : Bool, (e7 = .returned (.bool b9)) ∧
       ((w5).heap.size ≤ (w8).heap.size) ∧
       R (.returned (.bool (true && b9))) w8
     else
      R (.returned (.bool false)) w5) :
    Calls Try.prog 13 #[.pointer none, .pointer (some b)] w R :=
  X.calls_of { isLoc := [], sym := [], loops := [], joins := [] } Try.func13 (by kernel_rfl) h
abbrev fn_Same_nil : Nat := 13
theorem x_Same_nil (a : Addr) (w : World) (R : Ending → World → Prop) (h :
  X.CallX Try.prog 36 #[(.pointer (some a))] w fun e1 w2 =>
   ∃ b3 : Bool, (e1 = .returned (.bool b3)) ∧
   ((w).heap.size ≤ (w2).heap.size) ∧
   if (b3 == false) = true then
    X.CallX Try.prog 36 #[(.pointer none)] w2 fun e10 w11 =>
     ∃ b12 : Bool, (e10 = .returned (.bool b12)) ∧
     ((w2).heap.size ≤ (w11).heap.size) ∧
     if (false || b12) = true then
      X.CallX Try.prog 36 #[(.pointer (some a))] w11 fun e15 w16 =>
       ∃ b17 : Bool, (e15 = .returned (.bool b17)) ∧
       ((w11).heap.size ≤ (w16).heap.size) ∧
       if (b17 == true) = true then
        X.CallX Try.prog 36 #[(.pointer none)] w16 fun e18 w19 =>
         ∃ b20 : Bool, (e18 = .returned (.bool b20)) ∧
         ((w16).heap.size ≤ (w19).heap.size) ∧
         R (.returned (.bool (true && b20))) w19
       else
        R (.returned (.bool false)) w16
     else
      ∃ x13 : X.Facts, (X.FactsW x13 w11 []) ∧
      ∃ n14 : Int, (((a.add 0), [(.int .u32 n14)]) ∈ x13) ∧
      False
   else
    X.CallX Try.prog 36 #[(.pointer (some a))] w2 fun e4 w5 =>
     ∃ b6 : Bool, (e4 = .returned (.bool b6)) ∧
     ((w2).heap.size ≤ (w5).heap.size) ∧
     if (b6 == true) = true then
      X.CallX Try.prog 36 #[(.pointer none)] w5 fun e7 w8 =>
       ∃ b9 : Bool, (e7 = .returned (.bool b9)) ∧
       ((w5).heap.size ≤ (w8).heap.size) ∧
       R (.returned (.bool (true && b9))) w8
     else
      R (.returned (.bool false)) w5) :
    Calls Try.prog 13 #[.pointer (some a), .pointer none] w R :=
  X.calls_of { isLoc := [], sym := [], loops := [], joins := [] } Try.func13 (by kernel_rfl) h
abbrev fn_AmoNil : Nat := 7
theorem x_AmoNil (a_0 a_1 a_2 a_3 a_4 a_5 a_6 a_7 a_8 a_9 a_10 a_11 : Int) (a_12 : ByteArray) (a_13 : Int) (w : World) (R : Ending → World → Prop) (h :
  ∀ w1 : World, ∀ L2 : List Nat, (X.Hid [] w w1) →
  (X.NewL (w).heap.size [] w w1 L2) →
  X.CallX Try.prog 8 #[(.slice (some ⟨(w1).heap.size, 0, none⟩) 1 1)] (w1.alloc (.cells #[(.int .i64 a_0), (.int .u8 a_1), (.int .u16 a_2), (.int .u32 a_3), (.int .u8 a_4), (.int .u8 a_5), (.int .u8 a_6), (.int .u8 a_7), (.int .u8 a_8), (.int .u8 a_9), (.int .u8 a_10), (.int .u8 a_11), (.string a_12), (.int .u32 a_13)] 41)) fun e3 w4 =>
   ∃ b5 : Bool, (e3 = .returned (.bool b5)) ∧
   (X.Kept L2 (w1.alloc (.cells #[(.int .i64 a_0), (.int .u8 a_1), (.int .u16 a_2), (.int .u32 a_3), (.int .u8 a_4), (.int .u8 a_5), (.int .u8 a_6), (.int .u8 a_7), (.int .u8 a_8), (.int .u8 a_9), (.int .u8 a_10), (.int .u8 a_11), (.string a_12), (.int .u32 a_13)] 41)) w4) ∧
   if (!b5) = true then
    X.CallX Try.prog 9 #[] w4 fun e79 w80 =>
     ∃ b81 : Bool, (e79 = .returned (.bool b81)) ∧
     (X.Kept L2 w4 w80) ∧
     R (.returned (.bool b81)) w80
   else
    X.CallX Try.prog 17 #[(.agg #[(.int .u8 a_1), (.int .u16 a_2), (.int .u32 a_3), (.int .u8 a_4), (.int .u8 a_5), (.int .u8 a_6), (.int .u8 a_7), (.int .u8 a_8), (.int .u8 a_9), (.int .u8 a_10)])] w4 fun e6 w7 =>
     ∃ n8 : Int, ∃ n9 : Int, ∃ n10 : Int, ∃ n11 : Int, ∃ n12 : Int, ∃ n13 : Int, ∃ n14 : Int, ∃ n15 : Int, ∃ n16 : Int, ∃ n17 : Int, (e6 = .returned (.agg #[(.int .u8 n8), (.int .u16 n9), (.int .u32 n10), (.int .u8 n11), (.int .u8 n12), (.int .u8 n13), (.int .u8 n14), (.int .u8 n15), (.int .u8 n16), (.int .u8 n17)])) ∧
     (X.Kept L2 w4 w7) ∧
     ∀ w18 : World, ∀ L19 : List Nat, (X.Hid (L2) w7 w18) →
     (X.NewL (w).heap.size (L2) w7 w18 L19) →
     ∃ x20 : Option Addr → Int → World → List Nat → Prop, ∃ x21 : Option Addr → Int → World → Nat, (x20 (none) 0 w18 (L19)) ∧
     ∀ q22 : Option Addr, ∀ n23 : Int, ∀ w24 : World, ∀ L25 : List Nat, (X.LF (w).heap.size w24 L25) →
     (x20 q22 n23 w24 L25) →
     if (decide (n23 < 2)) = true then
      X.CallX Try.prog 26 #[(.pointer (q22)), (.agg #[(.int .u8 n8), (.int .u16 n9)]), (.int .u32 a_13)] w24 fun e29 w30 =>
       (e29 = .returned (.tuple #[])) ∧
       (X.Kept L25 w24 w30) ∧
       X.CallX Try.prog 28 #[(.pointer (q22)), (.agg #[(.int .u8 n8), (.int .u16 n9), (.int .u32 n10), (.int .u8 n11), (.int .u8 n12), (.int .u8 n13), (.int .u8 n14), (.int .u8 n15), (.int .u8 n16), (.int .u8 n17)])] w30 fun e31 w32 =>
        ∃ n33 : Int, ∃ s34 : ByteArray, ∃ b35 : Bool, (e31 = .returned (.tuple #[(.agg #[(.int .u8 n33), (.string s34)]), (.bool b35)])) ∧
        (X.Kept L25 w30 w32) ∧
        ∀ w36 : World, ∀ L37 : List Nat, (X.Hid (L25) w32 w36) →
        (X.NewL (w).heap.size (L25) w32 w36 L37) →
        X.CallX Try.prog 31 #[(.pointer (q22)), (.agg #[(.int .u8 n8), (.int .u16 n9), (.int .u32 n10), (.int .u8 n11), (.int .u8 n12), (.int .u8 n13), (.int .u8 n14), (.int .u8 n15), (.int .u8 n16), (.int .u8 n17)])] w36 fun e38 w39 =>
         ∃ n40 : Int, (e38 = .returned (.int .i64 n40)) ∧
         (X.Kept L37 w36 w39) ∧
         if ((n40 != 3) == false) = true then
          X.CallX Try.prog 21 #[(.pointer (q22)), (.agg #[(.int .u8 n8), (.int .u16 n9), (.int .u32 n10), (.int .u8 n11), (.int .u8 n12), (.int .u8 n13), (.int .u8 n14), (.int .u8 n15), (.int .u8 n16), (.int .u8 n17)])] w39 fun e41 w42 =>
           ∃ n43 : Int, (e41 = .returned (.int .i64 n43)) ∧
           (X.Kept L37 w39 w42) ∧
           X.CallX Try.prog 20 #[(.int .i64 n43)] w42 fun e44 w45 =>
            ∃ n46 : Int, (e44 = .returned (.int .i64 n46)) ∧
            (X.Kept L37 w42 w45) ∧
            if ((false || (n46 != 1)) == false) = true then
             X.CallX Try.prog 23 #[(.pointer (q22)), (.agg #[(.int .u8 n8), (.int .u16 n9), (.int .u32 n10), (.int .u8 n11), (.int .u8 n12), (.int .u8 n13), (.int .u8 n14), (.int .u8 n15), (.int .u8 n16), (.int .u8 n17)]), (.agg #[(.int .u8 0), (.string (ByteArray.mk #[]))])] w45 fun e47 w48 =>
              ∃ b49 : Bool, (e47 = .returned (.bool b49)) ∧
              (X.Kept L37 w45 w48) ∧
              if ((false || b49) == false) = true then
               X.CallX Try.prog 19 #[(.pointer (q22)), (.agg #[(.int .u8 n8), (.int .u16 n9)])] w48 fun e50 w51 =>
                ∃ n52 : Int, (e50 = .returned (.int .u32 n52)) ∧
                (X.Kept L37 w48 w51) ∧
                if (((false || (n52 != 0)) || b35) == false) = true then
                 X.CallX Try.prog 34 #[(.pointer (q22))] w51 fun e53 w54 =>
                  ∃ n55 : Int, (e53 = .returned (.int .i64 n55)) ∧
                  (X.Kept L37 w51 w54) ∧
                  X.CallX Try.prog 18 #[(.pointer (q22))] w54 fun e56 w57 =>
                   ∃ q58 : Option Addr, ∃ k59 : Nat, ∃ k60 : Nat, (e56 = .returned (.slice (q58) k59 k60)) ∧
                   (X.Kept L37 w54 w57) ∧
                   if ((false || ((IntKind.wrap .i64 (n55 + ((k59 : Nat) : Int))) != 0)) == false) = true then
                    X.CallX Try.prog 12 #[(.pointer (q22))] w57 fun e61 w62 =>
                     ∃ q63 : Option Addr, (e61 = .returned (.pointer (q63))) ∧
                     (X.Kept L37 w57 w62) ∧
                     if ((false || (!(q63.isNone))) == false) = true then
                      X.CallX Try.prog 13 #[(.pointer (q22)), (.pointer none)] w62 fun e64 w65 =>
                       ∃ b66 : Bool, (e64 = .returned (.bool b66)) ∧
                       (X.Kept L37 w62 w65) ∧
                       if ((false || (!b66)) == false) = true then
                        X.CallX Try.prog 10 #[(.int .i64 1)] w65 fun e67 w68 =>
                         ∃ q69 : Option Addr, (e67 = .returned (.pointer (q69))) ∧
                         (X.Kept L37 w65 w68) ∧
                         X.CallX Try.prog 13 #[(.pointer (q22)), (.pointer (q69))] w68 fun e70 w71 =>
                          ∃ b72 : Bool, (e70 = .returned (.bool b72)) ∧
                          (X.Kept L37 w68 w71) ∧
                          if ((false || b72) == false) = true then
                           X.CallX Try.prog 10 #[(.int .i64 1)] w71 fun e73 w74 =>
                            ∃ q75 : Option Addr, (e73 = .returned (.pointer (q75))) ∧
                            (X.Kept L37 w71 w74) ∧
                            X.CallX Try.prog 13 #[(.pointer (q75)), (.pointer (q22))] w74 fun e76 w77 =>
                             ∃ b78 : Bool, (e76 = .returned (.bool b78)) ∧
                             (X.Kept L37 w74 w77) ∧
                             if (false || b78) = true then
                              R (.returned (.bool false)) w77
                             else
                              (([(.int .i64 a_0), (.int .u8 a_1), (.int .u16 a_2), (.int .u32 a_3), (.int .u8 a_4), (.int .u8 a_5), (.int .u8 a_6), (.int .u8 a_7), (.int .u8 a_8), (.int .u8 a_9), (.int .u8 a_10), (.int .u8 a_11), (.string a_12), (.int .u32 a_13)] : List Value) = [(.int .i64 a_0), (.int .u8 a_1), (.int .u16 a_2), (.int .u32 a_3), (.int .u8 a_4), (.int .u8 a_5), (.int .u8 a_6), (.int .u8 a_7), (.int .u8 a_8), (.int .u8 a_9), (.int .u8 a_10), (.int .u8 a_11), (.string a_12), (.int .u32 a_13)]) ∧
                              (([(.int .u8 n8), (.int .u16 n9), (.int .u32 n10), (.int .u8 n11), (.int .u8 n12), (.int .u8 n13), (.int .u8 n14), (.int .u8 n15), (.int .u8 n16), (.int .u8 n17)] : List Value) = [(.int .u8 n8), (.int .u16 n9), (.int .u32 n10), (.int .u8 n11), (.int .u8 n12), (.int .u8 n13), (.int .u8 n14), (.int .u8 n15), (.int .u8 n16), (.int .u8 n17)]) ∧
                              (x20 (some (Addr.mk w77.heap.size 0 none)) (IntKind.wrap .i64 (n23 + 1)) (w77.alloc (.cells #[(.int .u32 0), (.map none), (.map none)] 87)) (L37)) ∧
                              Nat.le ((x21 (some (Addr.mk w77.heap.size 0 none)) (IntKind.wrap .i64 (n23 + 1)) (w77.alloc (.cells #[(.int .u32 0), (.map none), (.map none)] 87))) + 1) (x21 q22 n23 w24)
                          else
                           R (.returned (.bool false)) w71
                       else
                        R (.returned (.bool false)) w65
                     else
                      R (.returned (.bool false)) w62
                   else
                    R (.returned (.bool false)) w57
                else
                 R (.returned (.bool false)) w51
              else
               R (.returned (.bool false)) w48
            else
             R (.returned (.bool false)) w45
         else
          R (.returned (.bool false)) w39
     else
      X.CallX Try.prog 9 #[] w24 fun e26 w27 =>
       ∃ b28 : Bool, (e26 = .returned (.bool b28)) ∧
       (X.Kept L25 w24 w27) ∧
       R (.returned (.bool b28)) w27) :
    Calls Try.prog 7 #[.agg #[.int .i64 a_0, .int .u8 a_1, .int .u16 a_2, .int .u32 a_3, .int .u8 a_4, .int .u8 a_5, .int .u8 a_6, .int .u8 a_7, .int .u8 a_8, .int .u8 a_9, .int .u8 a_10, .int .u8 a_11, .string a_12, .int .u32 a_13]] w R :=
  X.calls_of { isLoc := [1, 3, 6], sym := [], loops := [(6, .inv [(4, .ptr), (5, .int .i64)] [] true)], joins := [] } Try.func7 (by kernel_rfl) h
end Go.Proofs
/- The verification conditions of this seat's functions, as the engine has them: printed by a program of the bench; checked by the kernel. -/
namespace Go.Proofs
open Go
abbrev fn_ident_Compare : Nat := 46
theorem x_ident_Compare (a_0 a_1 a_2 a_3 a_4 a_5 a_6 a_7 a_8 a_9 b_0 b_1 b_2 b_3 b_4 b_5 b_6 b_7 b_8 b_9 : Int) (w : World) (R : Ending → World → Prop) (h :
  ∃ x1 : X.Facts, (X.FactsW x1 ((w.alloc (.cells #[(.int .u8 a_0), (.int .u16 a_1), (.int .u32 a_2), (.int .u8 a_3), (.int .u8 a_4), (.int .u8 a_5), (.int .u8 a_6), (.int .u8 a_7), (.int .u8 a_8), (.int .u8 a_9)] 54)).alloc (.cells #[(.int .u8 b_0), (.int .u16 b_1), (.int .u32 b_2), (.int .u8 b_3), (.int .u8 b_4), (.int .u8 b_5), (.int .u8 b_6), (.int .u8 b_7), (.int .u8 b_8), (.int .u8 b_9)] 54)) []) ∧
  ∃ n2 : Int, ∃ n3 : Int, ∃ n4 : Int, ∃ n5 : Int, ∃ n6 : Int, ∃ n7 : Int, ∃ n8 : Int, ∃ n9 : Int, ∃ n10 : Int, ∃ n11 : Int, ((⟨(w).heap.size, 0, none⟩, [(.int .u8 n2), (.int .u16 n3), (.int .u32 n4), (.int .u8 n5), (.int .u8 n6), (.int .u8 n7), (.int .u8 n8), (.int .u8 n9), (.int .u8 n10), (.int .u8 n11)]) ∈ x1) ∧
  ∃ n12 : Int, ∃ n13 : Int, ∃ n14 : Int, ∃ n15 : Int, ∃ n16 : Int, ∃ n17 : Int, ∃ n18 : Int, ∃ n19 : Int, ∃ n20 : Int, ∃ n21 : Int, ((⟨((w.alloc (.cells #[(.int .u8 a_0), (.int .u16 a_1), (.int .u32 a_2), (.int .u8 a_3), (.int .u8 a_4), (.int .u8 a_5), (.int .u8 a_6), (.int .u8 a_7), (.int .u8 a_8), (.int .u8 a_9)] 54))).heap.size, 0, none⟩, [(.int .u8 n12), (.int .u16 n13), (.int .u32 n14), (.int .u8 n15), (.int .u8 n16), (.int .u8 n17), (.int .u8 n18), (.int .u8 n19), (.int .u8 n20), (.int .u8 n21)]) ∈ x1) ∧
  ∀ w22 : World, (X.Hid [] ((w.alloc (.cells #[(.int .u8 a_0), (.int .u16 a_1), (.int .u32 a_2), (.int .u8 a_3), (.int .u8 a_4), (.int .u8 a_5), (.int .u8 a_6), (.int .u8 a_7), (.int .u8 a_8), (.int .u8 a_9)] 54)).alloc (.cells #[(.int .u8 b_0), (.int .u16 b_1), (.int .u32 b_2), (.int .u8 b_3), (.int .u8 b_4), (.int .u8 b_5), (.int .u8 b_6), (.int .u8 b_7), (.int .u8 b_8), (.int .u8 b_9)] 54)) w22) →
  X.CallX Try.prog 62 #[(.agg #[(.int .u8 n2), (.int .u16 n3), (.int .u32 n4), (.int .u8 n5), (.int .u8 n6), (.int .u8 n7), (.int .u8 n8), (.int .u8 n9), (.int .u8 n10), (.int .u8 n11)])] w22 fun e23 w24 =>
   ∃ q25 : Option Addr, ∃ k26 : Nat, ∃ k27 : Nat, (e23 = .returned (.slice (q25) k26 k27)) ∧
   ((w22).heap.size ≤ (w24).heap.size) ∧
   (X.FactsW x1 w24 []) ∧
   X.CallX Try.prog 62 #[(.agg #[(.int .u8 n12), (.int .u16 n13), (.int .u32 n14), (.int .u8 n15), (.int .u8 n16), (.int .u8 n17), (.int .u8 n18), (.int .u8 n19), (.int .u8 n20), (.int .u8 n21)])] w24 fun e28 w29 =>
    ∃ q30 : Option Addr, ∃ k31 : Nat, ∃ k32 : Nat, (e28 = .returned (.slice (q30) k31 k32)) ∧
    ((w24).heap.size ≤ (w29).heap.size) ∧
    (X.FactsW x1 w29 []) ∧
    ∃ x33 : X.Facts, (X.FactsW x33 w29 []) ∧
    ∃ n34 : Int, ∃ n35 : Int, ((⟨(w).heap.size, 0, none⟩, [(.int .u8 n34), (.int .u16 n35)]) ∈ x33) ∧
    ∃ n36 : Int, ∃ n37 : Int, ((⟨((w.alloc (.cells #[(.int .u8 a_0), (.int .u16 a_1), (.int .u32 a_2), (.int .u8 a_3), (.int .u8 a_4), (.int .u8 a_5), (.int .u8 a_6), (.int .u8 a_7), (.int .u8 a_8), (.int .u8 a_9)] 54))).heap.size, 0, none⟩, [(.int .u8 n36), (.int .u16 n37)]) ∈ x33) ∧
    ∃ n38 : Int, ((⟨(w).heap.size, (0 + 2), none⟩, [(.int .u32 n38)]) ∈ x33) ∧
    ∃ n39 : Int, ((⟨((w.alloc (.cells #[(.int .u8 a_0), (.int .u16 a_1), (.int .u32 a_2), (.int .u8 a_3), (.int .u8 a_4), (.int .u8 a_5), (.int .u8 a_6), (.int .u8 a_7), (.int .u8 a_8), (.int .u8 a_9)] 54))).heap.size, (0 + 2), none⟩, [(.int .u32 n39)]) ∈ x33) ∧
    ((0 : Int) ≤ (if ((k31 : Nat) : Int) < ((k26 : Nat) : Int) then ((k31 : Nat) : Int) else ((k26 : Nat) : Int))) ∧
    ((if ((k31 : Nat) : Int) < ((k26 : Nat) : Int) then ((k31 : Nat) : Int) else ((k26 : Nat) : Int)) ≤ ((k27 : Nat) : Int)) ∧
    ((0 : Int) ≤ (if ((k31 : Nat) : Int) < ((k26 : Nat) : Int) then ((k31 : Nat) : Int) else ((k26 : Nat) : Int))) ∧
    ((if ((k31 : Nat) : Int) < ((k26 : Nat) : Int) then ((k31 : Nat) : Int) else ((k26 : Nat) : Int)) ≤ ((k32 : Nat) : Int)) ∧
    ∃ n40 : Int, ((⟨(w).heap.size, (0 + 3), none⟩, [(.int .u8 n40)]) ∈ x33) ∧
    ∃ n41 : Int, ((⟨((w.alloc (.cells #[(.int .u8 a_0), (.int .u16 a_1), (.int .u32 a_2), (.int .u8 a_3), (.int .u8 a_4), (.int .u8 a_5), (.int .u8 a_6), (.int .u8 a_7), (.int .u8 a_8), (.int .u8 a_9)] 54))).heap.size, (0 + 3), none⟩, [(.int .u8 n41)]) ∈ x33) ∧
    ∀ w42 : World, (X.Hid [] w29 w42) →
    X.CallX Try.prog 64 #[(.agg #[(.int .u8 n34), (.int .u16 n35)]), (.agg #[(.int .u8 n36), (.int .u16 n37)])] w42 fun e43 w44 =>
     ∃ n45 : Int, (e43 = .returned (.int .i64 n45)) ∧
     ((w42).heap.size ≤ (w44).heap.size) ∧
     (X.FactsW x33 w44 []) ∧
     X.CallX Try.prog 65 #[(.int .u32 n38), (.int .u32 n39)] w44 fun e46 w47 =>
      ∃ n48 : Int, (e46 = .returned (.int .i64 n48)) ∧
      ((w44).heap.size ≤ (w47).heap.size) ∧
      (X.FactsW x33 w47 []) ∧
      X.CallX Try.prog 66 #[(.slice (X.cutA (q25) k27 0 2) ((if ((k31 : Nat) : Int) < ((k26 : Nat) : Int) then ((k31 : Nat) : Int) else ((k26 : Nat) : Int))).toNat k27), (.slice (X.cutA (q30) k32 0 2) ((if ((k31 : Nat) : Int) < ((k26 : Nat) : Int) then ((k31 : Nat) : Int) else ((k26 : Nat) : Int))).toNat k32), (.func (.func 67) #[] #[])] w47 fun e49 w50 =>
       ∃ n51 : Int, (e49 = .returned (.int .i64 n51)) ∧
       ((w47).heap.size ≤ (w50).heap.size) ∧
       (X.FactsW x33 w50 []) ∧
       X.CallX Try.prog 68 #[(.int .u8 n40), (.int .u8 n41)] w50 fun e52 w53 =>
        ∃ n54 : Int, (e52 = .returned (.int .i64 n54)) ∧
        ((w50).heap.size ≤ (w53).heap.size) ∧
        (X.FactsW x33 w53 []) ∧
        X.CallX Try.prog 66 #[(.slice (some ⟨(w).heap.size, (0 + 4), none⟩) 3 3), (.slice (some ⟨((w.alloc (.cells #[(.int .u8 a_0), (.int .u16 a_1), (.int .u32 a_2), (.int .u8 a_3), (.int .u8 a_4), (.int .u8 a_5), (.int .u8 a_6), (.int .u8 a_7), (.int .u8 a_8), (.int .u8 a_9)] 54))).heap.size, (0 + 4), none⟩) 3 3), (.func (.func 67) #[] #[])] w53 fun e55 w56 =>
         ∃ n57 : Int, (e55 = .returned (.int .i64 n57)) ∧
         ((w53).heap.size ≤ (w56).heap.size) ∧
         (X.FactsW x33 w56 []) ∧
         (X.FactsW x33 (w56.alloc (.cells #[(.int .i64 n45), (.int .i64 n48), (.int .i64 n51), (.int .i64 n54), (.int .i64 n57)] 3)) []) ∧
         X.CallX Try.prog 63 #[(.slice (some ⟨(w56).heap.size, 0, none⟩) 5 5)] (w56.alloc (.cells #[(.int .i64 n45), (.int .i64 n48), (.int .i64 n51), (.int .i64 n54), (.int .i64 n57)] 3)) fun e58 w59 =>
          ∃ n60 : Int, (e58 = .returned (.int .i64 n60)) ∧
          (((w56.alloc (.cells #[(.int .i64 n45), (.int .i64 n48), (.int .i64 n51), (.int .i64 n54), (.int .i64 n57)] 3))).heap.size ≤ (w59).heap.size) ∧
          (X.FactsW x33 w59 []) ∧
          R (.returned (.int .i64 n60)) w59) :
    Calls Try.prog 46 #[.agg #[.int .u8 a_0, .int .u16 a_1, .int .u32 a_2, .int .u8 a_3, .int .u8 a_4, .int .u8 a_5, .int .u8 a_6, .int .u8 a_7, .int .u8 a_8, .int .u8 a_9], .agg #[.int .u8 b_0, .int .u16 b_1, .int .u32 b_2, .int .u8 b_3, .int .u8 b_4, .int .u8 b_5, .int .u8 b_6, .int .u8 b_7, .int .u8 b_8, .int .u8 b_9]] w R :=
  X.calls_of { isLoc := [], sym := [], loops := [], joins := [] } Try.func46 (by kernel_rfl) h
abbrev fn_ident_CompareProcs : Nat := 64
theorem x_ident_CompareProcs (a_0 a_1 b_0 b_1 : Int) (w : World) (R : Ending → World → Prop) (h :
  ∃ x1 : X.Facts, (X.FactsW x1 w []) ∧
  ∀ w2 : World, ∀ L3 : List Nat, (X.Hid [] w w2) →
  (X.NewL (w).heap.size [] w w2 L3) →
  X.CallX Try.prog 68 #[(.int .u8 a_0), (.int .u8 b_0)] w2 fun e4 w5 =>
   ∃ n6 : Int, (e4 = .returned (.int .i64 n6)) ∧
   (X.Kept L3 w2 w5) ∧
   (X.FactsW x1 w5 (L3)) ∧
   X.CallX Try.prog 82 #[(.int .u16 a_1), (.int .u16 b_1)] w5 fun e7 w8 =>
    ∃ n9 : Int, (e7 = .returned (.int .i64 n9)) ∧
    (X.Kept L3 w5 w8) ∧
    (X.FactsW x1 w8 (L3)) ∧
    (X.FactsW x1 (w8.alloc (.cells #[(.int .i64 n6), (.int .i64 n9)] 3)) (L3)) ∧
    X.CallX Try.prog 63 #[(.slice (some ⟨(w8).heap.size, 0, none⟩) 2 2)] (w8.alloc (.cells #[(.int .i64 n6), (.int .i64 n9)] 3)) fun e10 w11 =>
     ∃ n12 : Int, (e10 = .returned (.int .i64 n12)) ∧
     (X.Kept L3 (w8.alloc (.cells #[(.int .i64 n6), (.int .i64 n9)] 3)) w11) ∧
     (X.FactsW x1 w11 (L3)) ∧
     R (.returned (.int .i64 n12)) w11) :
    Calls Try.prog 64 #[.agg #[.int .u8 a_0, .int .u16 a_1], .agg #[.int .u8 b_0, .int .u16 b_1]] w R :=
  X.calls_of { isLoc := [2, 3], sym := [], loops := [], joins := [] } Try.func64 (by kernel_rfl) h
abbrev fn_ident_ID_steps : Nat := 62
theorem x_ident_ID_steps (a_0 a_1 a_2 a_3 a_4 a_5 a_6 a_7 a_8 a_9 : Int) (w : World) (R : Ending → World → Prop) (h :
  ∀ w1 : World, ∀ L2 : List Nat, (X.Hid [] w w1) →
  (X.NewL (w).heap.size [] w w1 L2) →
  ((none : Option Nat) = none) ∧
  (World.there (w1.alloc (.cells #[(.int .u8 0), (.int .u8 0), (.int .u8 0), (.int .u8 0), (.int .u8 0), (.int .u8 0)] 52)) (w1).heap.size 0 6) ∧
  (¬ ((w1).heap.size ∈ L2)) ∧
  ((0 : Int) ≤ (if (3 : Int) < (IntKind.wrap .i64 a_3) then 3 else (IntKind.wrap .i64 a_3))) ∧
  ((if (3 : Int) < (IntKind.wrap .i64 a_3) then 3 else (IntKind.wrap .i64 a_3)) ≤ 3) ∧
  R (.returned (.slice (some ⟨(w1).heap.size, 0, none⟩) ((if (3 : Int) < (IntKind.wrap .i64 a_3) then 3 else (IntKind.wrap .i64 a_3))).toNat 3)) ((w1.alloc (.cells #[(.int .u8 0), (.int .u8 0), (.int .u8 0), (.int .u8 0), (.int .u8 0), (.int .u8 0)] 52)).setCells (w1).heap.size 0 [(.int .u8 a_4), (.int .u8 a_5), (.int .u8 a_6), (.int .u8 a_7), (.int .u8 a_8), (.int .u8 a_9)])) :
    Calls Try.prog 62 #[.agg #[.int .u8 a_0, .int .u16 a_1, .int .u32 a_2, .int .u8 a_3, .int .u8 a_4, .int .u8 a_5, .int .u8 a_6, .int .u8 a_7, .int .u8 a_8, .int .u8 a_9]] w R :=
  X.calls_of { isLoc := [1], sym := [], loops := [], joins := [] } Try.func62 (by kernel_rfl) h
abbrev fn_cmp_Or_int : Nat := 63
theorem x_cmp_Or_int (a : Option Addr) (al ac : Nat) (w : World) (R : Ending → World → Prop) (h :
  ∃ x1 : Int → World → List Nat → Prop, ∃ x2 : Int → World → Nat, (x1 0 w []) ∧
  ∀ n3 : Int, ∀ w4 : World, ∀ L5 : List Nat, (X.LF (w).heap.size w4 L5) →
  (x1 n3 w4 L5) →
  if (decide (n3 < ((al : Nat) : Int))) = true then
   ((0 : Int) ≤ n3) ∧
   (n3 < ((al : Nat) : Int)) ∧
   X.onSome (a) fun p6 =>
   ∃ n7 : Int, (World.cell? w4 (p6.add ((n3).toNat * 1)) = some (.int .i64 n7)) ∧
   if (n7 != 0) = true then
    R (.returned (.int .i64 n7)) w4
   else
    (x1 (IntKind.wrap .i64 (n3 + 1)) w4 []) ∧
    Nat.le ((x2 (IntKind.wrap .i64 (n3 + 1)) w4) + 1) (x2 n3 w4)
  else
   R (.returned (.int .i64 0)) w4) :
    Calls Try.prog 63 #[.slice a al ac] w R :=
  X.calls_of { isLoc := [], sym := [], loops := [(3, .inv [(8, .int .i64)] [] true)], joins := [] } Try.func63 (by kernel_rfl) h
abbrev fn_ident_compareSteps : Nat := 67
theorem x_ident_compareSteps (a_0 a_1 b_0 b_1 : Int) (w : World) (R : Ending → World → Prop) (h :
  ∃ x1 : X.Facts, (X.FactsW x1 w []) ∧
  ∀ w2 : World, ∀ L3 : List Nat, (X.Hid [] w w2) →
  (X.NewL (w).heap.size [] w w2 L3) →
  X.CallX Try.prog 68 #[(.int .u8 a_0), (.int .u8 b_0)] w2 fun e4 w5 =>
   ∃ n6 : Int, (e4 = .returned (.int .i64 n6)) ∧
   (X.Kept L3 w2 w5) ∧
   (X.FactsW x1 w5 (L3)) ∧
   X.CallX Try.prog 68 #[(.int .u8 a_1), (.int .u8 b_1)] w5 fun e7 w8 =>
    ∃ n9 : Int, (e7 = .returned (.int .i64 n9)) ∧
    (X.Kept L3 w5 w8) ∧
    (X.FactsW x1 w8 (L3)) ∧
    (X.FactsW x1 (w8.alloc (.cells #[(.int .i64 n6), (.int .i64 n9)] 3)) (L3)) ∧
    X.CallX Try.prog 63 #[(.slice (some ⟨(w8).heap.size, 0, none⟩) 2 2)] (w8.alloc (.cells #[(.int .i64 n6), (.int .i64 n9)] 3)) fun e10 w11 =>
     ∃ n12 : Int, (e10 = .returned (.int .i64 n12)) ∧
     (X.Kept L3 (w8.alloc (.cells #[(.int .i64 n6), (.int .i64 n9)] 3)) w11) ∧
     (X.FactsW x1 w11 (L3)) ∧
     R (.returned (.int .i64 n12)) w11) :
    Calls Try.prog 67 #[.agg #[.int .u8 a_0, .int .u8 a_1], .agg #[.int .u8 b_0, .int .u8 b_1]] w R :=
  X.calls_of { isLoc := [2, 3], sym := [], loops := [], joins := [] } Try.func67 (by kernel_rfl) h
abbrev fn_cmp_Compare_uint8 : Nat := 68
theorem x_cmp_Compare_uint8 (a b : Int) (w : World) (R : Ending → World → Prop) (h :
  X.CallX Try.prog 84 #[(.int .u8 a)] w fun e1 w2 =>
   ∃ b3 : Bool, (e1 = .returned (.bool b3)) ∧
   ((w).heap.size ≤ (w2).heap.size) ∧
   X.CallX Try.prog 84 #[(.int .u8 b)] w2 fun e4 w5 =>
    ∃ b6 : Bool, (e4 = .returned (.bool b6)) ∧
    ((w2).heap.size ≤ (w5).heap.size) ∧
    if b3 = true then
     if b6 = true then
      R (.returned (.int .i64 0)) w5
     else
      R (.returned (.int .i64 (-1))) w5
    else
     if b6 = true then
      R (.returned (.int .i64 1)) w5
     else
      if (decide (a < b)) = true then
       R (.returned (.int .i64 (-1))) w5
      else
       if (decide (a > b)) = true then
        R (.returned (.int .i64 1)) w5
       else
        R (.returned (.int .i64 0)) w5) :
    Calls Try.prog 68 #[.int .u8 a, .int .u8 b] w R :=
  X.calls_of { isLoc := [], sym := [], loops := [], joins := [] } Try.func68 (by kernel_rfl) h
abbrev fn_cmp_Compare_uint16 : Nat := 82
theorem x_cmp_Compare_uint16 (a b : Int) (w : World) (R : Ending → World → Prop) (h :
  X.CallX Try.prog 92 #[(.int .u16 a)] w fun e1 w2 =>
   ∃ b3 : Bool, (e1 = .returned (.bool b3)) ∧
   ((w).heap.size ≤ (w2).heap.size) ∧
   X.CallX Try.prog 92 #[(.int .u16 b)] w2 fun e4 w5 =>
    ∃ b6 : Bool, (e4 = .returned (.bool b6)) ∧
    ((w2).heap.size ≤ (w5).heap.size) ∧
    if b3 = true then
     if b6 = true then
      R (.returned (.int .i64 0)) w5
     else
      R (.returned (.int .i64 (-1))) w5
    else
     if b6 = true then
      R (.returned (.int .i64 1)) w5
     else
      if (decide (a < b)) = true then
       R (.returned (.int .i64 (-1))) w5
      else
       if (decide (a > b)) = true then
        R (.returned (.int .i64 1)) w5
       else
        R (.returned (.int .i64 0)) w5) :
    Calls Try.prog 82 #[.int .u16 a, .int .u16 b] w R :=
  X.calls_of { isLoc := [], sym := [], loops := [], joins := [] } Try.func82 (by kernel_rfl) h
abbrev fn_cmp_Compare_uint32 : Nat := 65
theorem x_cmp_Compare_uint32 (a b : Int) (w : World) (R : Ending → World → Prop) (h :
  X.CallX Try.prog 83 #[(.int .u32 a)] w fun e1 w2 =>
   ∃ b3 : Bool, (e1 = .returned (.bool b3)) ∧
   ((w).heap.size ≤ (w2).heap.size) ∧
   X.CallX Try.prog 83 #[(.int .u32 b)] w2 fun e4 w5 =>
    ∃ b6 : Bool, (e4 = .returned (.bool b6)) ∧
    ((w2).heap.size ≤ (w5).heap.size) ∧
    if b3 = true then
     if b6 = true then
      R (.returned (.int .i64 0)) w5
     else
      R (.returned (.int .i64 (-1))) w5
    else
     if b6 = true then
      R (.returned (.int .i64 1)) w5
     else
      if (decide (a < b)) = true then
       R (.returned (.int .i64 (-1))) w5
      else
       if (decide (a > b)) = true then
        R (.returned (.int .i64 1)) w5
       else
        R (.returned (.int .i64 0)) w5) :
    Calls Try.prog 65 #[.int .u32 a, .int .u32 b] w R :=
  X.calls_of { isLoc := [], sym := [], loops := [], joins := [] } Try.func65 (by kernel_rfl) h
abbrev fn_slices_CompareFunc_ident_Step_ident_Step_ident_Step_ident_Step : Nat := 66
theorem x_slices_CompareFunc_ident_Step_ident_Step_ident_Step_ident_Step (a : Option Addr) (al ac : Nat) (b : Option Addr) (bl bc : Nat) (w : World) (R : Ending → World → Prop) (h :
  ∃ x1 : Int → World → List Nat → Prop, ∃ x2 : Int → World → Nat, (x1 0 w []) ∧
  ∀ n3 : Int, ∀ w4 : World, ∀ L5 : List Nat, (X.LF (w).heap.size w4 L5) →
  (x1 n3 w4 L5) →
  if (decide (n3 < ((al : Nat) : Int))) = true then
   ((0 : Int) ≤ n3) ∧
   (n3 < ((al : Nat) : Int)) ∧
   X.onSome (a) fun p6 =>
   ∃ n7 : Int, ∃ n8 : Int, (X.Cells w4 (p6.add ((n3).toNat * 2)) [(.int .u8 n7), (.int .u8 n8)]) ∧
   if (decide (n3 ≥ ((bl : Nat) : Int))) = true then
    ∀ w17 : World, (X.Hid [] w4 w17) →
    R (.returned (.int .i64 1)) w17
   else
    ((0 : Int) ≤ n3) ∧
    (n3 < ((bl : Nat) : Int)) ∧
    X.onSome (b) fun p9 =>
    ∃ n10 : Int, ∃ n11 : Int, (X.Cells w4 (p9.add ((n3).toNat * 2)) [(.int .u8 n10), (.int .u8 n11)]) ∧
    ∀ w12 : World, ∀ L13 : List Nat, (X.Hid [] w4 w12) →
    (X.NewL (w).heap.size [] w4 w12 L13) →
    X.CallX Try.prog (OfNat.ofNat 67) #[(.agg #[(.int .u8 n7), (.int .u8 n8)]), (.agg #[(.int .u8 n10), (.int .u8 n11)])] w12 fun e14 w15 =>
     ∃ n16 : Int, (e14 = .returned (.int .i64 n16)) ∧
     (X.Kept L13 w12 w15) ∧
     if (n16 != 0) = true then
      R (.returned (.int .i64 n16)) w15
     else
      (x1 (IntKind.wrap .i64 (n3 + 1)) w15 (L13)) ∧
      Nat.le ((x2 (IntKind.wrap .i64 (n3 + 1)) w15) + 1) (x2 n3 w4)
  else
   if (decide (((al : Nat) : Int) < ((bl : Nat) : Int))) = true then
    R (.returned (.int .i64 (-1))) w4
   else
    R (.returned (.int .i64 0)) w4) :
    Calls Try.prog 66 #[.slice a al ac, .slice b bl bc, .func (.func 67) #[] #[]] w R :=
  X.calls_of { isLoc := [8, 9], sym := [], loops := [(2, .inv [(13, .int .i64)] [] true)], joins := [] } Try.func66 (by kernel_rfl) h
abbrev fn_cmp_isNaN_uint8 : Nat := 84
theorem x_cmp_isNaN_uint8 (a : Int) (w : World) (R : Ending → World → Prop) (h :
  R (.returned (.bool (a != a))) w) :
    Calls Try.prog 84 #[.int .u8 a] w R :=
  X.calls_of { isLoc := [], sym := [], loops := [], joins := [] } Try.func84 (by kernel_rfl) h
abbrev fn_cmp_isNaN_uint16 : Nat := 92
theorem x_cmp_isNaN_uint16 (a : Int) (w : World) (R : Ending → World → Prop) (h :
  R (.returned (.bool (a != a))) w) :
    Calls Try.prog 92 #[.int .u16 a] w R :=
  X.calls_of { isLoc := [], sym := [], loops := [], joins := [] } Try.func92 (by kernel_rfl) h
abbrev fn_cmp_isNaN_uint32 : Nat := 83
theorem x_cmp_isNaN_uint32 (a : Int) (w : World) (R : Ending → World → Prop) (h :
  R (.returned (.bool (a != a))) w) :
    Calls Try.prog 83 #[.int .u32 a] w R :=
  X.calls_of { isLoc := [], sym := [], loops := [], joins := [] } Try.func83 (by kernel_rfl) h
abbrev fn_amo_Table_All_1 : Nat := 45
theorem x_amo_Table_All_1 (a_0 a_1 a_2 a_3 a_4 a_5 a_6 a_7 a_8 a_9 : Int) (a_10 : Bool) (a_11 : Int) (a_12 : ByteArray) (b_0 b_1 b_2 b_3 b_4 b_5 b_6 b_7 b_8 b_9 : Int) (b_10 : Bool) (b_11 : Int) (b_12 : ByteArray) (w : World) (R : Ending → World → Prop) (h :
  ∀ w1 : World, ∀ L2 : List Nat, (X.Hid [] w w1) →
  (X.NewL (w).heap.size [] w w1 L2) →
  X.CallX Try.prog 46 #[(.agg #[(.int .u8 a_0), (.int .u16 a_1), (.int .u32 a_2), (.int .u8 a_3), (.int .u8 a_4), (.int .u8 a_5), (.int .u8 a_6), (.int .u8 a_7), (.int .u8 a_8), (.int .u8 a_9)]), (.agg #[(.int .u8 b_0), (.int .u16 b_1), (.int .u32 b_2), (.int .u8 b_3), (.int .u8 b_4), (.int .u8 b_5), (.int .u8 b_6), (.int .u8 b_7), (.int .u8 b_8), (.int .u8 b_9)])] w1 fun e3 w4 =>
   ∃ n5 : Int, (e3 = .returned (.int .i64 n5)) ∧
   (X.Kept L2 w1 w4) ∧
   R (.returned (.int .i64 n5)) w4) :
    Calls Try.prog 45 #[.agg #[.int .u8 a_0, .int .u16 a_1, .int .u32 a_2, .int .u8 a_3, .int .u8 a_4, .int .u8 a_5, .int .u8 a_6, .int .u8 a_7, .int .u8 a_8, .int .u8 a_9, .bool a_10, .int .u8 a_11, .string a_12], .agg #[.int .u8 b_0, .int .u16 b_1, .int .u32 b_2, .int .u8 b_3, .int .u8 b_4, .int .u8 b_5, .int .u8 b_6, .int .u8 b_7, .int .u8 b_8, .int .u8 b_9, .bool b_10, .int .u8 b_11, .string b_12]] w R :=
  X.calls_of { isLoc := [2, 3], sym := [], loops := [], joins := [] } Try.func45 (by kernel_rfl) h
end Go.Proofs
/- The verification conditions of this seat's functions, as the engine has them: printed by a program of the bench; checked by the kernel. -/
namespace Go.Proofs
open Go
abbrev fn_gemotlaw14_AmoFew : Nat := 5
theorem x_gemotlaw14_AmoFew (a : Int) (b : Option Addr) (bl bc : Nat) (w : World) (R : Ending → World → Prop) (h :
  X.CallX Try.prog 8 #[(.slice (b) bl bc)] w fun e1 w2 =>
   ∃ b3 : Bool, (e1 = .returned (.bool b3)) ∧
   ((w).heap.size ≤ (w2).heap.size) ∧
   if ((!b3) == false) = true then
    X.CallX Try.prog 9 #[] w2 fun e7 w8 =>
     ∃ b9 : Bool, (e7 = .returned (.bool b9)) ∧
     ((w2).heap.size ≤ (w8).heap.size) ∧
     if (false || (!b9)) = true then
      X.CallX Try.prog 9 #[] w8 fun e95 w96 =>
       ∃ b97 : Bool, (e95 = .returned (.bool b97)) ∧
       ((w8).heap.size ≤ (w96).heap.size) ∧
       R (.returned (.bool b97)) w96
     else
      X.CallX Try.prog 10 #[(.int .i64 a)] w8 fun e10 w11 =>
       ∃ q12 : Option Addr, (e10 = .returned (.pointer (q12))) ∧
       ((w8).heap.size ≤ (w11).heap.size) ∧
       ∃ x13 : Int → World → List Nat → Prop, ∃ x14 : Int → World → Nat, (x13 0 w11 []) ∧
       ∀ n15 : Int, ∀ w16 : World, ∀ L17 : List Nat, (X.LF (w).heap.size w16 L17) →
       (x13 n15 w16 L17) →
       if (decide (n15 < ((bl : Nat) : Int))) = true then
        ((0 : Int) ≤ n15) ∧
        (n15 < ((bl : Nat) : Int)) ∧
        X.onSome (b) fun p18 =>
        ∃ n19 : Int, ∃ n20 : Int, ∃ n21 : Int, ∃ n22 : Int, ∃ n23 : Int, ∃ n24 : Int, ∃ n25 : Int, ∃ n26 : Int, ∃ n27 : Int, ∃ n28 : Int, ∃ n29 : Int, ∃ n30 : Int, ∃ s31 : ByteArray, ∃ n32 : Int, (X.Cells w16 (p18.add ((n15).toNat * 14)) [(.int .i64 n19), (.int .u8 n20), (.int .u16 n21), (.int .u32 n22), (.int .u8 n23), (.int .u8 n24), (.int .u8 n25), (.int .u8 n26), (.int .u8 n27), (.int .u8 n28), (.int .u8 n29), (.int .u8 n30), (.string s31), (.int .u32 n32)]) ∧
        X.CallX Try.prog 11 #[(.pointer (q12)), (.agg #[(.int .i64 n19), (.int .u8 n20), (.int .u16 n21), (.int .u32 n22), (.int .u8 n23), (.int .u8 n24), (.int .u8 n25), (.int .u8 n26), (.int .u8 n27), (.int .u8 n28), (.int .u8 n29), (.int .u8 n30), (.string s31), (.int .u32 n32)])] w16 fun e33 w34 =>
         ∃ b35 : Bool, (e33 = .returned (.bool b35)) ∧
         ((w16).heap.size ≤ (w34).heap.size) ∧
         ((0 : Int) ≤ n15) ∧
         (n15 < ((bl : Nat) : Int)) ∧
         X.onSome (b) fun p36 =>
         ∃ n37 : Int, ∃ n38 : Int, ∃ n39 : Int, ∃ n40 : Int, ∃ n41 : Int, ∃ n42 : Int, ∃ n43 : Int, ∃ n44 : Int, ∃ n45 : Int, ∃ n46 : Int, (X.Cells w34 ((p36.add ((n15).toNat * 14)).add 1) [(.int .u8 n37), (.int .u16 n38), (.int .u32 n39), (.int .u8 n40), (.int .u8 n41), (.int .u8 n42), (.int .u8 n43), (.int .u8 n44), (.int .u8 n45), (.int .u8 n46)]) ∧
         X.CallX Try.prog 17 #[(.agg #[(.int .u8 n37), (.int .u16 n38), (.int .u32 n39), (.int .u8 n40), (.int .u8 n41), (.int .u8 n42), (.int .u8 n43), (.int .u8 n44), (.int .u8 n45), (.int .u8 n46)])] w34 fun e47 w48 =>
          ∃ n49 : Int, ∃ n50 : Int, ∃ n51 : Int, ∃ n52 : Int, ∃ n53 : Int, ∃ n54 : Int, ∃ n55 : Int, ∃ n56 : Int, ∃ n57 : Int, ∃ n58 : Int, (e47 = .returned (.agg #[(.int .u8 n49), (.int .u16 n50), (.int .u32 n51), (.int .u8 n52), (.int .u8 n53), (.int .u8 n54), (.int .u8 n55), (.int .u8 n56), (.int .u8 n57), (.int .u8 n58)])) ∧
          ((w34).heap.size ≤ (w48).heap.size) ∧
          ∀ w59 : World, ∀ L60 : List Nat, (X.Hid [] w48 w59) →
          (X.NewL (w).heap.size [] w48 w59 L60) →
          X.CallX Try.prog 18 #[(.pointer (q12))] w59 fun e61 w62 =>
           ∃ q63 : Option Addr, ∃ k64 : Nat, ∃ k65 : Nat, (e61 = .returned (.slice (q63) k64 k65)) ∧
           (X.Kept L60 w59 w62) ∧
           ∃ x66 : Int → Int → World → List Nat → Prop, ∃ x67 : Int → Int → World → Nat, (x66 0 0 w62 (L60)) ∧
           ∀ n68 : Int, ∀ n69 : Int, ∀ w70 : World, ∀ L71 : List Nat, (X.LF (w).heap.size w70 L71) →
           (x66 n68 n69 w70 L71) →
           if (decide (n69 < ((k64 : Nat) : Int))) = true then
            ((0 : Int) ≤ n69) ∧
            (n69 < ((k64 : Nat) : Int)) ∧
            X.onSome (q63) fun p72 =>
            ∃ n73 : Int, ∃ n74 : Int, ∃ n75 : Int, ∃ n76 : Int, ∃ n77 : Int, ∃ n78 : Int, ∃ n79 : Int, ∃ n80 : Int, ∃ n81 : Int, ∃ n82 : Int, (X.Cells w70 ((p72.add ((n69).toNat * 13)).add 0) [(.int .u8 n73), (.int .u16 n74), (.int .u32 n75), (.int .u8 n76), (.int .u8 n77), (.int .u8 n78), (.int .u8 n79), (.int .u8 n80), (.int .u8 n81), (.int .u8 n82)]) ∧
            (¬ ((((p72.add (n69.toNat * 13)).add 0).block) ∈ L71)) ∧
            ∃ x83 : X.Facts, (X.FactsW x83 w70 (L71)) ∧
            if ((((n73 == n49) && (n74 == n50)) && (n76 == 0)) == true) = true then
             ((0 : Int) ≤ n69) ∧
             (n69 < ((k64 : Nat) : Int)) ∧
             X.onSome (q63) fun p86 =>
             ∃ b87 : Bool, ((((p86.add ((n69).toNat * 13)).add 10), [(.bool b87)]) ∈ x83) ∧
             if (b87 == false) = true then
              ∀ w90 : World, ∀ L91 : List Nat, (X.Hid (L71) w70 w90) →
              (X.NewL (w).heap.size (L71) w70 w90 L91) →
              X.CallX Try.prog 19 #[(.pointer (q12)), (.agg #[(.int .u8 n73), (.int .u16 n74)])] w90 fun e92 w93 =>
               ∃ n94 : Int, (e92 = .returned (.int .u32 n94)) ∧
               (X.Kept L91 w90 w93) ∧
               (X.FactsW x83 w93 (L91)) ∧
               if (true && (false || decide (n75 > n94))) = true then
                (([(.int .u8 n49), (.int .u16 n50), (.int .u32 n51), (.int .u8 n52), (.int .u8 n53), (.int .u8 n54), (.int .u8 n55), (.int .u8 n56), (.int .u8 n57), (.int .u8 n58)] : List Value) = [(.int .u8 n49), (.int .u16 n50), (.int .u32 n51), (.int .u8 n52), (.int .u8 n53), (.int .u8 n54), (.int .u8 n55), (.int .u8 n56), (.int .u8 n57), (.int .u8 n58)]) ∧
                (x66 (IntKind.wrap .i64 (n68 + 1)) (IntKind.wrap .i64 (n69 + 1)) w93 (L91)) ∧
                Nat.le ((x67 (IntKind.wrap .i64 (n68 + 1)) (IntKind.wrap .i64 (n69 + 1)) w93) + 1) (x67 n68 n69 w70)
               else
                (([(.int .u8 n49), (.int .u16 n50), (.int .u32 n51), (.int .u8 n52), (.int .u8 n53), (.int .u8 n54), (.int .u8 n55), (.int .u8 n56), (.int .u8 n57), (.int .u8 n58)] : List Value) = [(.int .u8 n49), (.int .u16 n50), (.int .u32 n51), (.int .u8 n52), (.int .u8 n53), (.int .u8 n54), (.int .u8 n55), (.int .u8 n56), (.int .u8 n57), (.int .u8 n58)]) ∧
                (x66 n68 (IntKind.wrap .i64 (n69 + 1)) w93 (L91)) ∧
                Nat.le ((x67 n68 (IntKind.wrap .i64 (n69 + 1)) w93) + 1) (x67 n68 n69 w70)
             else
              ∀ w88 : World, ∀ L89 : List Nat, (X.Hid (L71) w70 w88) →
              (X.NewL (w).heap.size (L71) w70 w88 L89) →
              (([(.int .u8 n49), (.int .u16 n50), (.int .u32 n51), (.int .u8 n52), (.int .u8 n53), (.int .u8 n54), (.int .u8 n55), (.int .u8 n56), (.int .u8 n57), (.int .u8 n58)] : List Value) = [(.int .u8 n49), (.int .u16 n50), (.int .u32 n51), (.int .u8 n52), (.int .u8 n53), (.int .u8 n54), (.int .u8 n55), (.int .u8 n56), (.int .u8 n57), (.int .u8 n58)]) ∧
              (x66 (IntKind.wrap .i64 (n68 + 1)) (IntKind.wrap .i64 (n69 + 1)) w88 (L89)) ∧
              Nat.le ((x67 (IntKind.wrap .i64 (n68 + 1)) (IntKind.wrap .i64 (n69 + 1)) w88) + 1) (x67 n68 n69 w70)
            else
             ∀ w84 : World, ∀ L85 : List Nat, (X.Hid (L71) w70 w84) →
             (X.NewL (w).heap.size (L71) w70 w84 L85) →
             (([(.int .u8 n49), (.int .u16 n50), (.int .u32 n51), (.int .u8 n52), (.int .u8 n53), (.int .u8 n54), (.int .u8 n55), (.int .u8 n56), (.int .u8 n57), (.int .u8 n58)] : List Value) = [(.int .u8 n49), (.int .u16 n50), (.int .u32 n51), (.int .u8 n52), (.int .u8 n53), (.int .u8 n54), (.int .u8 n55), (.int .u8 n56), (.int .u8 n57), (.int .u8 n58)]) ∧
             (x66 n68 (IntKind.wrap .i64 (n69 + 1)) w84 (L85)) ∧
             Nat.le ((x67 n68 (IntKind.wrap .i64 (n69 + 1)) w84) + 1) (x67 n68 n69 w70)
           else
            if (decide (n68 > (if (16 : Int) < (if (1 : Int) > a then 1 else a) then 16 else (if (1 : Int) > a then 1 else a)))) = true then
             R (.returned (.bool false)) w70
            else
             (x13 (IntKind.wrap .i64 (n15 + 1)) w70 (L71)) ∧
             Nat.le ((x14 (IntKind.wrap .i64 (n15 + 1)) w70) + 1) (x14 n15 w16)
       else
        R (.returned (.bool true)) w16
   else
    X.CallX Try.prog 9 #[] w2 fun e4 w5 =>
     ∃ b6 : Bool, (e4 = .returned (.bool b6)) ∧
     ((w2).heap.size ≤ (w5).heap.size) ∧
     R (.returned (.bool b6)) w5) :
    Calls Try.prog 5 #[.int .i64 a, .slice b bl bc] w R :=
  X.calls_of { isLoc := [8, 12], sym := [], loops := [(6, .inv [(7, .int .i64)] [] true), (13, .inv [(10, .int .i64), (11, .int .i64)] [] true)], joins := [] } Try.func5 (by kernel_rfl) h
end Go.Proofs
/- The verification conditions of this seat's functions, as the engine has them: printed by a program of the bench; checked by the kernel. -/
namespace Go.Proofs
open Go
abbrev fn_rRes : Nat := 29
theorem x_rRes (a : Addr) (b_0 b_1 b_2 b_3 b_4 b_5 b_6 b_7 b_8 b_9 : Int) (w : World) (R : Ending → World → Prop) (h :
  ∀ w1 : World, ∀ L2 : List Nat, (X.Hid [] w w1) →
  (X.NewL (w).heap.size [] w w1 L2) →
  X.CallX Try.prog 49 #[(.pointer (some a)), (.agg #[(.int .u8 b_0), (.int .u16 b_1), (.int .u32 b_2), (.int .u8 b_3), (.int .u8 b_4), (.int .u8 b_5), (.int .u8 b_6), (.int .u8 b_7), (.int .u8 b_8), (.int .u8 b_9)])] w1 fun e3 w4 =>
   ∃ n5 : Int, ∃ b6 : Bool, (e3 = .returned (.tuple #[(.int .i64 n5), (.bool b6)])) ∧
   (X.Kept L2 w1 w4) ∧
   if ((!b6) == false) = true then
    ∃ q8 : Option Addr, ∃ k9 : Nat, ∃ k10 : Nat, (World.cell? w4 (a.add 1) = some (.slice (q8) k9 k10)) ∧
    (¬ ((a.block) ∈ L2)) ∧
    ((0 : Int) ≤ n5) ∧
    (n5 < ((k9 : Nat) : Int)) ∧
    X.onSome (q8) fun p11 =>
    ∃ b12 : Bool, (World.cell? w4 ((p11.add ((n5).toNat * 13)).add 10) = some (.bool b12)) ∧
    (¬ (((p11.add (n5.toNat * 13)).block) ∈ L2)) ∧
    if (false || (!b12)) = true then
     ∀ w20 : World, (X.Hid (L2) w4 w20) →
     R (.returned (.tuple #[(.agg #[(.int .u8 0), (.string (ByteArray.mk #[]))]), (.bool false)])) w20
    else
     ∃ q13 : Option Addr, ∃ k14 : Nat, ∃ k15 : Nat, (World.cell? w4 (a.add 1) = some (.slice (q13) k14 k15)) ∧
     (¬ ((a.block) ∈ L2)) ∧
     ((0 : Int) ≤ n5) ∧
     (n5 < ((k14 : Nat) : Int)) ∧
     X.onSome (q13) fun p16 =>
     ∃ n17 : Int, ∃ s18 : ByteArray, (X.Cells w4 ((p16.add ((n5).toNat * 13)).add 11) [(.int .u8 n17), (.string s18)]) ∧
     (¬ (((p16.add (n5.toNat * 13)).block) ∈ L2)) ∧
     ∀ w19 : World, (X.Hid (L2) w4 w19) →
     R (.returned (.tuple #[(.agg #[(.int .u8 n17), (.string s18)]), (.bool true)])) w19
   else
    ∀ w7 : World, (X.Hid (L2) w4 w7) →
    R (.returned (.tuple #[(.agg #[(.int .u8 0), (.string (ByteArray.mk #[]))]), (.bool false)])) w7) :
    Calls Try.prog 29 #[.pointer (some a), .agg #[.int .u8 b_0, .int .u16 b_1, .int .u32 b_2, .int .u8 b_3, .int .u8 b_4, .int .u8 b_5, .int .u8 b_6, .int .u8 b_7, .int .u8 b_8, .int .u8 b_9]] w R :=
  X.calls_of { isLoc := [3, 4], sym := [], loops := [], joins := [] } Try.func29 (by kernel_rfl) h
abbrev fn_gemotlaw03_RefRes : Nat := 30
theorem x_gemotlaw03_RefRes (a_0 : Int) (a_1 : ByteArray) (w : World) (R : Ending → World → Prop) (h :
  ∀ w1 : World, (X.Hid [] w w1) →
  R (.returned (.agg #[(.int .u8 a_0), (.string a_1)])) w1) :
    Calls Try.prog 30 #[.agg #[.int .u8 a_0, .string a_1]] w R :=
  X.calls_of { isLoc := [1, 2], sym := [], loops := [], joins := [] } Try.func30 (by kernel_rfl) h
abbrev fn_gemotlaw02_RefProc : Nat := 71
theorem x_gemotlaw02_RefProc (a_0 a_1 : Int) (w : World) (R : Ending → World → Prop) (h :
  ∀ w1 : World, (X.Hid [] w w1) →
  R (.returned (.agg #[(.int .u8 a_0), (.int .u16 a_1)])) w1) :
    Calls Try.prog 71 #[.agg #[.int .u8 a_0, .int .u16 a_1]] w R :=
  X.calls_of { isLoc := [1, 2], sym := [], loops := [], joins := [] } Try.func71 (by kernel_rfl) h
abbrev fn_gemotlaw02_RefID : Nat := 56
theorem x_gemotlaw02_RefID (a_0 a_1 a_2 a_3 a_4 a_5 a_6 a_7 a_8 a_9 : Int) (w : World) (R : Ending → World → Prop) (h :
  ∃ x1 : X.Facts, (X.FactsW x1 w []) ∧
  (∀ w2 : World, ∀ L3 : List Nat, (X.Hid [] w w2) →
   (X.NewL (w).heap.size [] w w2 L3) →
   X.CallX Try.prog 71 #[(.agg #[(.int .u8 a_0), (.int .u16 a_1)])] w2 fun e4 w5 =>
    ∃ n6 : Int, ∃ n7 : Int, (e4 = .returned (.agg #[(.int .u8 n6), (.int .u16 n7)])) ∧
    (X.Kept L3 w2 w5) ∧
    (X.FactsW x1 w5 (L3)) ∧
    ∃ x8 : X.Facts, (X.FactsW x8 w5 (L3)) ∧
    ∃ x9 : X.Facts, (X.FactsW x9 w5 (L3)) ∧
    ∃ x10 : X.Facts, (X.FactsW x10 w5 (L3)) ∧
    ∀ w11 : World, (X.Hid (L3) w5 w11) →
    R (.returned (.agg #[(.int .u8 n6), (.int .u16 n7), (.int .u32 a_2), (.int .u8 a_3), (.int .u8 a_4), (.int .u8 a_5), (.int .u8 a_6), (.int .u8 a_7), (.int .u8 a_8), (.int .u8 a_9)])) w11) ∧
  ∀ w12 : World, ∀ L13 : List Nat, (X.Hid [] w w12) →
  (X.NewL (w).heap.size [] w w12 L13) →
  X.CallX Try.prog 71 #[(.agg #[(.int .u8 a_0), (.int .u16 a_1)])] w12 fun e14 w15 =>
   ∃ n16 : Int, ∃ n17 : Int, (e14 = .returned (.agg #[(.int .u8 n16), (.int .u16 n17)])) ∧
   (X.Kept L13 w12 w15) ∧
   (X.FactsW x1 w15 (L13)) ∧
   ∃ x18 : X.Facts, (X.FactsW x18 w15 (L13)) ∧
   ∃ x19 : X.Facts, (X.FactsW x19 w15 (L13)) ∧
   ∃ x20 : X.Facts, (X.FactsW x20 w15 (L13)) ∧
   ∀ w21 : World, (X.Hid (L13) w15 w21) →
   R (.returned (.agg #[(.int .u8 n16), (.int .u16 n17), (.int .u32 a_2), (.int .u8 a_3), (.int .u8 a_4), (.int .u8 a_5), (.int .u8 a_6), (.int .u8 a_7), (.int .u8 a_8), (.int .u8 a_9)])) w21) :
    Calls Try.prog 56 #[.agg #[.int .u8 a_0, .int .u16 a_1, .int .u32 a_2, .int .u8 a_3, .int .u8 a_4, .int .u8 a_5, .int .u8 a_6, .int .u8 a_7, .int .u8 a_8, .int .u8 a_9]] w R :=
  X.calls_of { isLoc := [1, 2, 3], sym := [], loops := [(3, .unroll 4)], joins := [], stored := [(1, [3]), (5, [3])] } Try.func56 (by kernel_rfl) h
abbrev fn_gemotlaw14_rows : Nat := 35
theorem x_gemotlaw14_rows (a : Option Addr) (al ac : Nat) (b : Option Addr) (bl bc : Nat) (w : World) (R : Ending → World → Prop) (h :
  if (((al : Nat) : Int) != ((bl : Nat) : Int)) = true then
   R (.returned (.bool false)) w
  else
   ∃ x1 : Int → World → List Nat → Prop, ∃ x2 : Int → World → Nat, (x1 0 w []) ∧
   ∀ n3 : Int, ∀ w4 : World, ∀ L5 : List Nat, (X.LF (w).heap.size w4 L5) →
   (x1 n3 w4 L5) →
   if (decide (n3 < ((al : Nat) : Int))) = true then
    ∃ x6 : X.Facts, (X.FactsW x6 w4 []) ∧
    ((0 : Int) ≤ n3) ∧
    (n3 < ((al : Nat) : Int)) ∧
    X.onSome (a) fun p7 =>
    ∃ n8 : Int, ∃ n9 : Int, ∃ n10 : Int, ∃ n11 : Int, ∃ n12 : Int, ∃ n13 : Int, ∃ n14 : Int, ∃ n15 : Int, ∃ n16 : Int, ∃ n17 : Int, ((((p7.add ((n3).toNat * 13)).add 0), [(.int .u8 n8), (.int .u16 n9), (.int .u32 n10), (.int .u8 n11), (.int .u8 n12), (.int .u8 n13), (.int .u8 n14), (.int .u8 n15), (.int .u8 n16), (.int .u8 n17)]) ∈ x6) ∧
    ((0 : Int) ≤ n3) ∧
    (n3 < ((bl : Nat) : Int)) ∧
    X.onSome (b) fun p18 =>
    ∃ n19 : Int, ∃ n20 : Int, ∃ n21 : Int, ∃ n22 : Int, ∃ n23 : Int, ∃ n24 : Int, ∃ n25 : Int, ∃ n26 : Int, ∃ n27 : Int, ∃ n28 : Int, ((((p18.add ((n3).toNat * 13)).add 0), [(.int .u8 n19), (.int .u16 n20), (.int .u32 n21), (.int .u8 n22), (.int .u8 n23), (.int .u8 n24), (.int .u8 n25), (.int .u8 n26), (.int .u8 n27), (.int .u8 n28)]) ∈ x6) ∧
    ∀ w29 : World, (X.Hid [] w4 w29) →
    X.CallX Try.prog 56 #[(.agg #[(.int .u8 n8), (.int .u16 n9), (.int .u32 n10), (.int .u8 n11), (.int .u8 n12), (.int .u8 n13), (.int .u8 n14), (.int .u8 n15), (.int .u8 n16), (.int .u8 n17)])] w29 fun e30 w31 =>
     ∃ n32 : Int, ∃ n33 : Int, ∃ n34 : Int, ∃ n35 : Int, ∃ n36 : Int, ∃ n37 : Int, ∃ n38 : Int, ∃ n39 : Int, ∃ n40 : Int, ∃ n41 : Int, (e30 = .returned (.agg #[(.int .u8 n32), (.int .u16 n33), (.int .u32 n34), (.int .u8 n35), (.int .u8 n36), (.int .u8 n37), (.int .u8 n38), (.int .u8 n39), (.int .u8 n40), (.int .u8 n41)])) ∧
     ((w29).heap.size ≤ (w31).heap.size) ∧
     (X.FactsW x6 w31 []) ∧
     ∃ x42 : X.Facts, (X.FactsW x42 w31 []) ∧
     (∀ x43 : Addr × List Value, (x43 ∈ x6) →
      x43 ∈ x42) ∧
     if ((!(((n32 == n19) && (n33 == n20)) && ((n34 == n21) && ((n35 == n22) && (((n36 == n23) && (n37 == n24)) && (((n38 == n25) && (n39 == n26)) && ((n40 == n27) && (n41 == n28)))))))) == false) = true then
      ((0 : Int) ≤ n3) ∧
      (n3 < ((al : Nat) : Int)) ∧
      X.onSome (a) fun p46 =>
      ∃ b47 : Bool, ((((p46.add ((n3).toNat * 13)).add 10), [(.bool b47)]) ∈ x42) ∧
      ((0 : Int) ≤ n3) ∧
      (n3 < ((bl : Nat) : Int)) ∧
      X.onSome (b) fun p48 =>
      ∃ b49 : Bool, ((((p48.add ((n3).toNat * 13)).add 10), [(.bool b49)]) ∈ x42) ∧
      if ((false || (!(b47 == b49))) == false) = true then
       ((0 : Int) ≤ n3) ∧
       (n3 < ((al : Nat) : Int)) ∧
       X.onSome (a) fun p50 =>
       ∃ n51 : Int, ∃ s52 : ByteArray, ((((p50.add ((n3).toNat * 13)).add 11), [(.int .u8 n51), (.string s52)]) ∈ x42) ∧
       ((0 : Int) ≤ n3) ∧
       (n3 < ((bl : Nat) : Int)) ∧
       X.onSome (b) fun p53 =>
       ∃ n54 : Int, ∃ s55 : ByteArray, ((((p53.add ((n3).toNat * 13)).add 11), [(.int .u8 n54), (.string s55)]) ∈ x42) ∧
       X.CallX Try.prog 30 #[(.agg #[(.int .u8 n51), (.string s52)])] w31 fun e56 w57 =>
        ∃ n58 : Int, ∃ s59 : ByteArray, (e56 = .returned (.agg #[(.int .u8 n58), (.string s59)])) ∧
        ((w31).heap.size ≤ (w57).heap.size) ∧
        (X.FactsW x42 w57 []) ∧
        if (false || (!((n58 == n54) && (s59 == s55)))) = true then
         R (.returned (.bool false)) w57
        else
         (x1 (IntKind.wrap .i64 (n3 + 1)) w57 []) ∧
         Nat.le ((x2 (IntKind.wrap .i64 (n3 + 1)) w57) + 1) (x2 n3 w4)
      else
       R (.returned (.bool false)) w31
     else
      ∃ x44 : X.Facts, (X.FactsW x44 w31 []) ∧
      (∀ x45 : Addr × List Value, (x45 ∈ x42) →
       x45 ∈ x44) ∧
      R (.returned (.bool false)) w31
   else
    R (.returned (.bool true)) w4) :
    Calls Try.prog 35 #[.slice a al ac, .slice b bl bc] w R :=
  X.calls_of { isLoc := [], sym := [], loops := [(4, .inv [(5, .int .i64)] [] true)], joins := [] } Try.func35 (by kernel_rfl) h
end Go.Proofs
/- The verification conditions of this seat's functions, as the engine has them: printed by a program of the bench; checked by the kernel. -/
namespace Go.Proofs
open Go
abbrev fn_gemotlaw14_AmoPlays : Nat := 6
theorem x_gemotlaw14_AmoPlays (a : Int) (b : Option Addr) (bl bc : Nat) (w : World) (R : Ending → World → Prop) (h :
  X.CallX Try.prog 8 #[(.slice (b) bl bc)] w fun e1 w2 =>
   ∃ b3 : Bool, (e1 = .returned (.bool b3)) ∧
   ((w).heap.size ≤ (w2).heap.size) ∧
   if ((!b3) == false) = true then
    X.CallX Try.prog 9 #[] w2 fun e7 w8 =>
     ∃ b9 : Bool, (e7 = .returned (.bool b9)) ∧
     ((w2).heap.size ≤ (w8).heap.size) ∧
     if (false || (!b9)) = true then
      X.CallX Try.prog 9 #[] w8 fun e580 w581 =>
       ∃ b582 : Bool, (e580 = .returned (.bool b582)) ∧
       ((w8).heap.size ≤ (w581).heap.size) ∧
       R (.returned (.bool b582)) w581
     else
      X.CallX Try.prog 10 #[(.int .i64 a)] w8 fun e10 w11 =>
       ∃ q12 : Option Addr, (e10 = .returned (.pointer (q12))) ∧
       ((w8).heap.size ≤ (w11).heap.size) ∧
       X.CallX Try.prog 14 #[(.int .i64 a)] w11 fun e13 w14 =>
        ∃ q15 : Option Addr, (e13 = .returned (.pointer (q15))) ∧
        ((w11).heap.size ≤ (w14).heap.size) ∧
        ∃ x16 : Option Addr → Int → World → List Nat → Prop, ∃ x17 : Option Addr → Int → World → Nat, (x16 q12 0 w14 []) ∧
        ∀ q18 : Option Addr, ∀ n19 : Int, ∀ w20 : World, ∀ L21 : List Nat, (X.LF (w).heap.size w20 L21) →
        (x16 q18 n19 w20 L21) →
        if (decide (n19 < ((bl : Nat) : Int))) = true then
         ((0 : Int) ≤ n19) ∧
         (n19 < ((bl : Nat) : Int)) ∧
         X.onSome (b) fun p22 =>
         ∃ n23 : Int, ∃ n24 : Int, ∃ n25 : Int, ∃ n26 : Int, ∃ n27 : Int, ∃ n28 : Int, ∃ n29 : Int, ∃ n30 : Int, ∃ n31 : Int, ∃ n32 : Int, (X.Cells w20 ((p22.add ((n19).toNat * 14)).add 1) [(.int .u8 n23), (.int .u16 n24), (.int .u32 n25), (.int .u8 n26), (.int .u8 n27), (.int .u8 n28), (.int .u8 n29), (.int .u8 n30), (.int .u8 n31), (.int .u8 n32)]) ∧
         X.CallX Try.prog 17 #[(.agg #[(.int .u8 n23), (.int .u16 n24), (.int .u32 n25), (.int .u8 n26), (.int .u8 n27), (.int .u8 n28), (.int .u8 n29), (.int .u8 n30), (.int .u8 n31), (.int .u8 n32)])] w20 fun e33 w34 =>
          ∃ n35 : Int, ∃ n36 : Int, ∃ n37 : Int, ∃ n38 : Int, ∃ n39 : Int, ∃ n40 : Int, ∃ n41 : Int, ∃ n42 : Int, ∃ n43 : Int, ∃ n44 : Int, (e33 = .returned (.agg #[(.int .u8 n35), (.int .u16 n36), (.int .u32 n37), (.int .u8 n38), (.int .u8 n39), (.int .u8 n40), (.int .u8 n41), (.int .u8 n42), (.int .u8 n43), (.int .u8 n44)])) ∧
          ((w20).heap.size ≤ (w34).heap.size) ∧
          ((0 : Int) ≤ n19) ∧
          (n19 < ((bl : Nat) : Int)) ∧
          X.onSome (b) fun p45 =>
          ∃ n46 : Int, (World.cell? w34 ((p45.add ((n19).toNat * 14)).add 0) = some (.int .i64 n46)) ∧
          ∃ x47 : Option Addr → Bool → World → List Nat → Prop, (if (n46 == 0) = true then
            if (n46 == 0) = true then
             ∃ x418 : X.Facts, (X.FactsW x418 w34 []) ∧
             ((0 : Int) ≤ n19) ∧
             (n19 < ((bl : Nat) : Int)) ∧
             X.onSome (b) fun p419 =>
             ∃ n420 : Int, ∃ n421 : Int, ∃ n422 : Int, ∃ n423 : Int, ∃ n424 : Int, ∃ n425 : Int, ∃ n426 : Int, ∃ n427 : Int, ∃ n428 : Int, ∃ n429 : Int, ((((p419.add ((n19).toNat * 14)).add 1), [(.int .u8 n420), (.int .u16 n421), (.int .u32 n422), (.int .u8 n423), (.int .u8 n424), (.int .u8 n425), (.int .u8 n426), (.int .u8 n427), (.int .u8 n428), (.int .u8 n429)]) ∈ x418) ∧
             ∀ w430 : World, ∀ L431 : List Nat, (X.Hid [] w34 w430) →
             (X.NewL (w).heap.size [] w34 w430 L431) →
             X.CallX Try.prog 21 #[(.pointer (q18)), (.agg #[(.int .u8 n35), (.int .u16 n36), (.int .u32 n37), (.int .u8 n38), (.int .u8 n39), (.int .u8 n40), (.int .u8 n41), (.int .u8 n42), (.int .u8 n43), (.int .u8 n44)])] w430 fun e432 w433 =>
              ∃ n434 : Int, (e432 = .returned (.int .i64 n434)) ∧
              (X.Kept L431 w430 w433) ∧
              (X.FactsW x418 w433 (L431)) ∧
              X.CallX Try.prog 20 #[(.int .i64 n434)] w433 fun e435 w436 =>
               ∃ n437 : Int, (e435 = .returned (.int .i64 n437)) ∧
               (X.Kept L431 w433 w436) ∧
               (X.FactsW x418 w436 (L431)) ∧
               X.CallX Try.prog 22 #[(.pointer (q15)), (.agg #[(.int .u8 n420), (.int .u16 n421), (.int .u32 n422), (.int .u8 n423), (.int .u8 n424), (.int .u8 n425), (.int .u8 n426), (.int .u8 n427), (.int .u8 n428), (.int .u8 n429)])] w436 fun e438 w439 =>
                ∃ n440 : Int, (e438 = .returned (.int .i64 n440)) ∧
                (X.Kept L431 w436 w439) ∧
                (X.FactsW x418 w439 (L431)) ∧
                (([(.int .u8 n35), (.int .u16 n36), (.int .u32 n37), (.int .u8 n38), (.int .u8 n39), (.int .u8 n40), (.int .u8 n41), (.int .u8 n42), (.int .u8 n43), (.int .u8 n44)] : List Value) = [(.int .u8 n35), (.int .u16 n36), (.int .u32 n37), (.int .u8 n38), (.int .u8 n39), (.int .u8 n40), (.int .u8 n41), (.int .u8 n42), (.int .u8 n43), (.int .u8 n44)]) ∧
                x47 q18 (n437 == n440) w439 (L431)
            else
             if (n46 == 3) = true then
              if (n46 == 3) = true then
               ∃ x388 : X.Facts, (X.FactsW x388 w34 []) ∧
               ((0 : Int) ≤ n19) ∧
               (n19 < ((bl : Nat) : Int)) ∧
               X.onSome (b) fun p389 =>
               ∃ n390 : Int, ∃ s391 : ByteArray, ((((p389.add ((n19).toNat * 14)).add 11), [(.int .u8 n390), (.string s391)]) ∈ x388) ∧
               ((0 : Int) ≤ n19) ∧
               (n19 < ((bl : Nat) : Int)) ∧
               X.onSome (b) fun p392 =>
               ∃ n393 : Int, ∃ n394 : Int, ∃ n395 : Int, ∃ n396 : Int, ∃ n397 : Int, ∃ n398 : Int, ∃ n399 : Int, ∃ n400 : Int, ∃ n401 : Int, ∃ n402 : Int, ((((p392.add ((n19).toNat * 14)).add 1), [(.int .u8 n393), (.int .u16 n394), (.int .u32 n395), (.int .u8 n396), (.int .u8 n397), (.int .u8 n398), (.int .u8 n399), (.int .u8 n400), (.int .u8 n401), (.int .u8 n402)]) ∈ x388) ∧
               ((0 : Int) ≤ n19) ∧
               (n19 < ((bl : Nat) : Int)) ∧
               X.onSome (b) fun p403 =>
               ∃ n404 : Int, ∃ s405 : ByteArray, ((((p403.add ((n19).toNat * 14)).add 11), [(.int .u8 n404), (.string s405)]) ∈ x388) ∧
               ∀ w406 : World, ∀ L407 : List Nat, (X.Hid [] w34 w406) →
               (X.NewL (w).heap.size [] w34 w406 L407) →
               X.CallX Try.prog 24 #[(.agg #[(.int .u8 n390), (.string s391)])] w406 fun e408 w409 =>
                ∃ n410 : Int, ∃ s411 : ByteArray, (e408 = .returned (.agg #[(.int .u8 n410), (.string s411)])) ∧
                (X.Kept L407 w406 w409) ∧
                (X.FactsW x388 w409 (L407)) ∧
                X.CallX Try.prog 23 #[(.pointer (q18)), (.agg #[(.int .u8 n35), (.int .u16 n36), (.int .u32 n37), (.int .u8 n38), (.int .u8 n39), (.int .u8 n40), (.int .u8 n41), (.int .u8 n42), (.int .u8 n43), (.int .u8 n44)]), (.agg #[(.int .u8 n410), (.string s411)])] w409 fun e412 w413 =>
                 ∃ b414 : Bool, (e412 = .returned (.bool b414)) ∧
                 (X.Kept L407 w409 w413) ∧
                 (X.FactsW x388 w413 (L407)) ∧
                 X.CallX Try.prog 25 #[(.pointer (q15)), (.agg #[(.int .u8 n393), (.int .u16 n394), (.int .u32 n395), (.int .u8 n396), (.int .u8 n397), (.int .u8 n398), (.int .u8 n399), (.int .u8 n400), (.int .u8 n401), (.int .u8 n402)]), (.agg #[(.int .u8 n404), (.string s405)])] w413 fun e415 w416 =>
                  ∃ b417 : Bool, (e415 = .returned (.bool b417)) ∧
                  (X.Kept L407 w413 w416) ∧
                  (X.FactsW x388 w416 (L407)) ∧
                  (([(.int .u8 n35), (.int .u16 n36), (.int .u32 n37), (.int .u8 n38), (.int .u8 n39), (.int .u8 n40), (.int .u8 n41), (.int .u8 n42), (.int .u8 n43), (.int .u8 n44)] : List Value) = [(.int .u8 n35), (.int .u16 n36), (.int .u32 n37), (.int .u8 n38), (.int .u8 n39), (.int .u8 n40), (.int .u8 n41), (.int .u8 n42), (.int .u8 n43), (.int .u8 n44)]) ∧
                  x47 q18 (b414 == b417) w416 (L407)
              else
               if (n46 == 5) = true then
                ∃ x371 : X.Facts, (X.FactsW x371 w34 []) ∧
                ((0 : Int) ≤ n19) ∧
                (n19 < ((bl : Nat) : Int)) ∧
                X.onSome (b) fun p372 =>
                ∃ n373 : Int, ((((p372.add ((n19).toNat * 14)).add 13), [(.int .u32 n373)]) ∈ x371) ∧
                ∀ w374 : World, ∀ L375 : List Nat, (X.Hid [] w34 w374) →
                (X.NewL (w).heap.size [] w34 w374 L375) →
                X.CallX Try.prog 26 #[(.pointer (q18)), (.agg #[(.int .u8 n35), (.int .u16 n36)]), (.int .u32 n373)] w374 fun e376 w377 =>
                 (e376 = .returned (.tuple #[])) ∧
                 (X.Kept L375 w374 w377) ∧
                 ∃ x378 : X.Facts, (X.FactsW x378 w377 (L375)) ∧
                 ((0 : Int) ≤ n19) ∧
                 (n19 < ((bl : Nat) : Int)) ∧
                 X.onSome (b) fun p379 =>
                 ∃ n380 : Int, ∃ n381 : Int, ((⟨((p379.add (n19.toNat * 14)).block), (((p379.add (n19.toNat * 14)).off) + 1), none⟩, [(.int .u8 n380), (.int .u16 n381)]) ∈ x378) ∧
                 ((0 : Int) ≤ n19) ∧
                 (n19 < ((bl : Nat) : Int)) ∧
                 X.onSome (b) fun p382 =>
                 ∃ n383 : Int, ((((p382.add ((n19).toNat * 14)).add 13), [(.int .u32 n383)]) ∈ x378) ∧
                 ∀ w384 : World, ∀ L385 : List Nat, (X.Hid (L375) w377 w384) →
                 (X.NewL (w).heap.size (L375) w377 w384 L385) →
                 X.CallX Try.prog 27 #[(.pointer (q15)), (.agg #[(.int .u8 n380), (.int .u16 n381)]), (.int .u32 n383)] w384 fun e386 w387 =>
                  (e386 = .returned (.tuple #[])) ∧
                  (X.Kept L385 w384 w387) ∧
                  (([(.int .u8 n35), (.int .u16 n36), (.int .u32 n37), (.int .u8 n38), (.int .u8 n39), (.int .u8 n40), (.int .u8 n41), (.int .u8 n42), (.int .u8 n43), (.int .u8 n44)] : List Value) = [(.int .u8 n35), (.int .u16 n36), (.int .u32 n37), (.int .u8 n38), (.int .u8 n39), (.int .u8 n40), (.int .u8 n41), (.int .u8 n42), (.int .u8 n43), (.int .u8 n44)]) ∧
                  x47 q18 true w387 (L385)
               else
                if (n46 == 6) = true then
                 ∀ w366 : World, ∀ L367 : List Nat, (X.Hid [] w34 w366) →
                 (X.NewL (w).heap.size [] w34 w366 L367) →
                 X.CallX Try.prog 12 #[(.pointer (q18))] w366 fun e368 w369 =>
                  ∃ q370 : Option Addr, (e368 = .returned (.pointer (q370))) ∧
                  (X.Kept L367 w366 w369) ∧
                  (([(.int .u8 n35), (.int .u16 n36), (.int .u32 n37), (.int .u8 n38), (.int .u8 n39), (.int .u8 n40), (.int .u8 n41), (.int .u8 n42), (.int .u8 n43), (.int .u8 n44)] : List Value) = [(.int .u8 n35), (.int .u16 n36), (.int .u32 n37), (.int .u8 n38), (.int .u8 n39), (.int .u8 n40), (.int .u8 n41), (.int .u8 n42), (.int .u8 n43), (.int .u8 n44)]) ∧
                  x47 q370 true w369 (L367)
                else
                 ∀ w364 : World, ∀ L365 : List Nat, (X.Hid [] w34 w364) →
                 (X.NewL (w).heap.size [] w34 w364 L365) →
                 (([(.int .u8 n35), (.int .u16 n36), (.int .u32 n37), (.int .u8 n38), (.int .u8 n39), (.int .u8 n40), (.int .u8 n41), (.int .u8 n42), (.int .u8 n43), (.int .u8 n44)] : List Value) = [(.int .u8 n35), (.int .u16 n36), (.int .u32 n37), (.int .u8 n38), (.int .u8 n39), (.int .u8 n40), (.int .u8 n41), (.int .u8 n42), (.int .u8 n43), (.int .u8 n44)]) ∧
                 x47 q18 true w364 (L365)
             else
              if (n46 == 4) = true then
               ∃ x334 : X.Facts, (X.FactsW x334 w34 []) ∧
               ((0 : Int) ≤ n19) ∧
               (n19 < ((bl : Nat) : Int)) ∧
               X.onSome (b) fun p335 =>
               ∃ n336 : Int, ∃ s337 : ByteArray, ((((p335.add ((n19).toNat * 14)).add 11), [(.int .u8 n336), (.string s337)]) ∈ x334) ∧
               ((0 : Int) ≤ n19) ∧
               (n19 < ((bl : Nat) : Int)) ∧
               X.onSome (b) fun p338 =>
               ∃ n339 : Int, ∃ n340 : Int, ∃ n341 : Int, ∃ n342 : Int, ∃ n343 : Int, ∃ n344 : Int, ∃ n345 : Int, ∃ n346 : Int, ∃ n347 : Int, ∃ n348 : Int, ((((p338.add ((n19).toNat * 14)).add 1), [(.int .u8 n339), (.int .u16 n340), (.int .u32 n341), (.int .u8 n342), (.int .u8 n343), (.int .u8 n344), (.int .u8 n345), (.int .u8 n346), (.int .u8 n347), (.int .u8 n348)]) ∈ x334) ∧
               ((0 : Int) ≤ n19) ∧
               (n19 < ((bl : Nat) : Int)) ∧
               X.onSome (b) fun p349 =>
               ∃ n350 : Int, ∃ s351 : ByteArray, ((((p349.add ((n19).toNat * 14)).add 11), [(.int .u8 n350), (.string s351)]) ∈ x334) ∧
               ∀ w352 : World, ∀ L353 : List Nat, (X.Hid [] w34 w352) →
               (X.NewL (w).heap.size [] w34 w352 L353) →
               X.CallX Try.prog 24 #[(.agg #[(.int .u8 n336), (.string s337)])] w352 fun e354 w355 =>
                ∃ n356 : Int, ∃ s357 : ByteArray, (e354 = .returned (.agg #[(.int .u8 n356), (.string s357)])) ∧
                (X.Kept L353 w352 w355) ∧
                (X.FactsW x334 w355 (L353)) ∧
                X.CallX Try.prog 23 #[(.pointer (q18)), (.agg #[(.int .u8 n35), (.int .u16 n36), (.int .u32 n37), (.int .u8 n38), (.int .u8 n39), (.int .u8 n40), (.int .u8 n41), (.int .u8 n42), (.int .u8 n43), (.int .u8 n44)]), (.agg #[(.int .u8 n356), (.string s357)])] w355 fun e358 w359 =>
                 ∃ b360 : Bool, (e358 = .returned (.bool b360)) ∧
                 (X.Kept L353 w355 w359) ∧
                 (X.FactsW x334 w359 (L353)) ∧
                 X.CallX Try.prog 25 #[(.pointer (q15)), (.agg #[(.int .u8 n339), (.int .u16 n340), (.int .u32 n341), (.int .u8 n342), (.int .u8 n343), (.int .u8 n344), (.int .u8 n345), (.int .u8 n346), (.int .u8 n347), (.int .u8 n348)]), (.agg #[(.int .u8 n350), (.string s351)])] w359 fun e361 w362 =>
                  ∃ b363 : Bool, (e361 = .returned (.bool b363)) ∧
                  (X.Kept L353 w359 w362) ∧
                  (X.FactsW x334 w362 (L353)) ∧
                  (([(.int .u8 n35), (.int .u16 n36), (.int .u32 n37), (.int .u8 n38), (.int .u8 n39), (.int .u8 n40), (.int .u8 n41), (.int .u8 n42), (.int .u8 n43), (.int .u8 n44)] : List Value) = [(.int .u8 n35), (.int .u16 n36), (.int .u32 n37), (.int .u8 n38), (.int .u8 n39), (.int .u8 n40), (.int .u8 n41), (.int .u8 n42), (.int .u8 n43), (.int .u8 n44)]) ∧
                  x47 q18 (b360 == b363) w362 (L353)
              else
               if (n46 == 5) = true then
                ∃ x317 : X.Facts, (X.FactsW x317 w34 []) ∧
                ((0 : Int) ≤ n19) ∧
                (n19 < ((bl : Nat) : Int)) ∧
                X.onSome (b) fun p318 =>
                ∃ n319 : Int, ((((p318.add ((n19).toNat * 14)).add 13), [(.int .u32 n319)]) ∈ x317) ∧
                ∀ w320 : World, ∀ L321 : List Nat, (X.Hid [] w34 w320) →
                (X.NewL (w).heap.size [] w34 w320 L321) →
                X.CallX Try.prog 26 #[(.pointer (q18)), (.agg #[(.int .u8 n35), (.int .u16 n36)]), (.int .u32 n319)] w320 fun e322 w323 =>
                 (e322 = .returned (.tuple #[])) ∧
                 (X.Kept L321 w320 w323) ∧
                 ∃ x324 : X.Facts, (X.FactsW x324 w323 (L321)) ∧
                 ((0 : Int) ≤ n19) ∧
                 (n19 < ((bl : Nat) : Int)) ∧
                 X.onSome (b) fun p325 =>
                 ∃ n326 : Int, ∃ n327 : Int, ((⟨((p325.add (n19.toNat * 14)).block), (((p325.add (n19.toNat * 14)).off) + 1), none⟩, [(.int .u8 n326), (.int .u16 n327)]) ∈ x324) ∧
                 ((0 : Int) ≤ n19) ∧
                 (n19 < ((bl : Nat) : Int)) ∧
                 X.onSome (b) fun p328 =>
                 ∃ n329 : Int, ((((p328.add ((n19).toNat * 14)).add 13), [(.int .u32 n329)]) ∈ x324) ∧
                 ∀ w330 : World, ∀ L331 : List Nat, (X.Hid (L321) w323 w330) →
                 (X.NewL (w).heap.size (L321) w323 w330 L331) →
                 X.CallX Try.prog 27 #[(.pointer (q15)), (.agg #[(.int .u8 n326), (.int .u16 n327)]), (.int .u32 n329)] w330 fun e332 w333 =>
                  (e332 = .returned (.tuple #[])) ∧
                  (X.Kept L331 w330 w333) ∧
                  (([(.int .u8 n35), (.int .u16 n36), (.int .u32 n37), (.int .u8 n38), (.int .u8 n39), (.int .u8 n40), (.int .u8 n41), (.int .u8 n42), (.int .u8 n43), (.int .u8 n44)] : List Value) = [(.int .u8 n35), (.int .u16 n36), (.int .u32 n37), (.int .u8 n38), (.int .u8 n39), (.int .u8 n40), (.int .u8 n41), (.int .u8 n42), (.int .u8 n43), (.int .u8 n44)]) ∧
                  x47 q18 true w333 (L331)
               else
                if (n46 == 6) = true then
                 ∀ w312 : World, ∀ L313 : List Nat, (X.Hid [] w34 w312) →
                 (X.NewL (w).heap.size [] w34 w312 L313) →
                 X.CallX Try.prog 12 #[(.pointer (q18))] w312 fun e314 w315 =>
                  ∃ q316 : Option Addr, (e314 = .returned (.pointer (q316))) ∧
                  (X.Kept L313 w312 w315) ∧
                  (([(.int .u8 n35), (.int .u16 n36), (.int .u32 n37), (.int .u8 n38), (.int .u8 n39), (.int .u8 n40), (.int .u8 n41), (.int .u8 n42), (.int .u8 n43), (.int .u8 n44)] : List Value) = [(.int .u8 n35), (.int .u16 n36), (.int .u32 n37), (.int .u8 n38), (.int .u8 n39), (.int .u8 n40), (.int .u8 n41), (.int .u8 n42), (.int .u8 n43), (.int .u8 n44)]) ∧
                  x47 q316 true w315 (L313)
                else
                 ∀ w310 : World, ∀ L311 : List Nat, (X.Hid [] w34 w310) →
                 (X.NewL (w).heap.size [] w34 w310 L311) →
                 (([(.int .u8 n35), (.int .u16 n36), (.int .u32 n37), (.int .u8 n38), (.int .u8 n39), (.int .u8 n40), (.int .u8 n41), (.int .u8 n42), (.int .u8 n43), (.int .u8 n44)] : List Value) = [(.int .u8 n35), (.int .u16 n36), (.int .u32 n37), (.int .u8 n38), (.int .u8 n39), (.int .u8 n40), (.int .u8 n41), (.int .u8 n42), (.int .u8 n43), (.int .u8 n44)]) ∧
                 x47 q18 true w310 (L311)
           else
            if (n46 == 1) = true then
             if (n46 == 1) = true then
              ∃ x287 : X.Facts, (X.FactsW x287 w34 []) ∧
              ((0 : Int) ≤ n19) ∧
              (n19 < ((bl : Nat) : Int)) ∧
              X.onSome (b) fun p288 =>
              ∃ n289 : Int, ∃ n290 : Int, ∃ n291 : Int, ∃ n292 : Int, ∃ n293 : Int, ∃ n294 : Int, ∃ n295 : Int, ∃ n296 : Int, ∃ n297 : Int, ∃ n298 : Int, ((((p288.add ((n19).toNat * 14)).add 1), [(.int .u8 n289), (.int .u16 n290), (.int .u32 n291), (.int .u8 n292), (.int .u8 n293), (.int .u8 n294), (.int .u8 n295), (.int .u8 n296), (.int .u8 n297), (.int .u8 n298)]) ∈ x287) ∧
              ∀ w299 : World, ∀ L300 : List Nat, (X.Hid [] w34 w299) →
              (X.NewL (w).heap.size [] w34 w299 L300) →
              X.CallX Try.prog 21 #[(.pointer (q18)), (.agg #[(.int .u8 n35), (.int .u16 n36), (.int .u32 n37), (.int .u8 n38), (.int .u8 n39), (.int .u8 n40), (.int .u8 n41), (.int .u8 n42), (.int .u8 n43), (.int .u8 n44)])] w299 fun e301 w302 =>
               ∃ n303 : Int, (e301 = .returned (.int .i64 n303)) ∧
               (X.Kept L300 w299 w302) ∧
               (X.FactsW x287 w302 (L300)) ∧
               X.CallX Try.prog 20 #[(.int .i64 n303)] w302 fun e304 w305 =>
                ∃ n306 : Int, (e304 = .returned (.int .i64 n306)) ∧
                (X.Kept L300 w302 w305) ∧
                (X.FactsW x287 w305 (L300)) ∧
                X.CallX Try.prog 22 #[(.pointer (q15)), (.agg #[(.int .u8 n289), (.int .u16 n290), (.int .u32 n291), (.int .u8 n292), (.int .u8 n293), (.int .u8 n294), (.int .u8 n295), (.int .u8 n296), (.int .u8 n297), (.int .u8 n298)])] w305 fun e307 w308 =>
                 ∃ n309 : Int, (e307 = .returned (.int .i64 n309)) ∧
                 (X.Kept L300 w305 w308) ∧
                 (X.FactsW x287 w308 (L300)) ∧
                 (([(.int .u8 n35), (.int .u16 n36), (.int .u32 n37), (.int .u8 n38), (.int .u8 n39), (.int .u8 n40), (.int .u8 n41), (.int .u8 n42), (.int .u8 n43), (.int .u8 n44)] : List Value) = [(.int .u8 n35), (.int .u16 n36), (.int .u32 n37), (.int .u8 n38), (.int .u8 n39), (.int .u8 n40), (.int .u8 n41), (.int .u8 n42), (.int .u8 n43), (.int .u8 n44)]) ∧
                 x47 q18 (n306 == n309) w308 (L300)
             else
              if (n46 == 3) = true then
               if (n46 == 3) = true then
                ∃ x257 : X.Facts, (X.FactsW x257 w34 []) ∧
                ((0 : Int) ≤ n19) ∧
                (n19 < ((bl : Nat) : Int)) ∧
                X.onSome (b) fun p258 =>
                ∃ n259 : Int, ∃ s260 : ByteArray, ((((p258.add ((n19).toNat * 14)).add 11), [(.int .u8 n259), (.string s260)]) ∈ x257) ∧
                ((0 : Int) ≤ n19) ∧
                (n19 < ((bl : Nat) : Int)) ∧
                X.onSome (b) fun p261 =>
                ∃ n262 : Int, ∃ n263 : Int, ∃ n264 : Int, ∃ n265 : Int, ∃ n266 : Int, ∃ n267 : Int, ∃ n268 : Int, ∃ n269 : Int, ∃ n270 : Int, ∃ n271 : Int, ((((p261.add ((n19).toNat * 14)).add 1), [(.int .u8 n262), (.int .u16 n263), (.int .u32 n264), (.int .u8 n265), (.int .u8 n266), (.int .u8 n267), (.int .u8 n268), (.int .u8 n269), (.int .u8 n270), (.int .u8 n271)]) ∈ x257) ∧
                ((0 : Int) ≤ n19) ∧
                (n19 < ((bl : Nat) : Int)) ∧
                X.onSome (b) fun p272 =>
                ∃ n273 : Int, ∃ s274 : ByteArray, ((((p272.add ((n19).toNat * 14)).add 11), [(.int .u8 n273), (.string s274)]) ∈ x257) ∧
                ∀ w275 : World, ∀ L276 : List Nat, (X.Hid [] w34 w275) →
                (X.NewL (w).heap.size [] w34 w275 L276) →
                X.CallX Try.prog 24 #[(.agg #[(.int .u8 n259), (.string s260)])] w275 fun e277 w278 =>
                 ∃ n279 : Int, ∃ s280 : ByteArray, (e277 = .returned (.agg #[(.int .u8 n279), (.string s280)])) ∧
                 (X.Kept L276 w275 w278) ∧
                 (X.FactsW x257 w278 (L276)) ∧
                 X.CallX Try.prog 23 #[(.pointer (q18)), (.agg #[(.int .u8 n35), (.int .u16 n36), (.int .u32 n37), (.int .u8 n38), (.int .u8 n39), (.int .u8 n40), (.int .u8 n41), (.int .u8 n42), (.int .u8 n43), (.int .u8 n44)]), (.agg #[(.int .u8 n279), (.string s280)])] w278 fun e281 w282 =>
                  ∃ b283 : Bool, (e281 = .returned (.bool b283)) ∧
                  (X.Kept L276 w278 w282) ∧
                  (X.FactsW x257 w282 (L276)) ∧
                  X.CallX Try.prog 25 #[(.pointer (q15)), (.agg #[(.int .u8 n262), (.int .u16 n263), (.int .u32 n264), (.int .u8 n265), (.int .u8 n266), (.int .u8 n267), (.int .u8 n268), (.int .u8 n269), (.int .u8 n270), (.int .u8 n271)]), (.agg #[(.int .u8 n273), (.string s274)])] w282 fun e284 w285 =>
                   ∃ b286 : Bool, (e284 = .returned (.bool b286)) ∧
                   (X.Kept L276 w282 w285) ∧
                   (X.FactsW x257 w285 (L276)) ∧
                   (([(.int .u8 n35), (.int .u16 n36), (.int .u32 n37), (.int .u8 n38), (.int .u8 n39), (.int .u8 n40), (.int .u8 n41), (.int .u8 n42), (.int .u8 n43), (.int .u8 n44)] : List Value) = [(.int .u8 n35), (.int .u16 n36), (.int .u32 n37), (.int .u8 n38), (.int .u8 n39), (.int .u8 n40), (.int .u8 n41), (.int .u8 n42), (.int .u8 n43), (.int .u8 n44)]) ∧
                   x47 q18 (b283 == b286) w285 (L276)
               else
                if (n46 == 5) = true then
                 ∃ x240 : X.Facts, (X.FactsW x240 w34 []) ∧
                 ((0 : Int) ≤ n19) ∧
                 (n19 < ((bl : Nat) : Int)) ∧
                 X.onSome (b) fun p241 =>
                 ∃ n242 : Int, ((((p241.add ((n19).toNat * 14)).add 13), [(.int .u32 n242)]) ∈ x240) ∧
                 ∀ w243 : World, ∀ L244 : List Nat, (X.Hid [] w34 w243) →
                 (X.NewL (w).heap.size [] w34 w243 L244) →
                 X.CallX Try.prog 26 #[(.pointer (q18)), (.agg #[(.int .u8 n35), (.int .u16 n36)]), (.int .u32 n242)] w243 fun e245 w246 =>
                  (e245 = .returned (.tuple #[])) ∧
                  (X.Kept L244 w243 w246) ∧
                  ∃ x247 : X.Facts, (X.FactsW x247 w246 (L244)) ∧
                  ((0 : Int) ≤ n19) ∧
                  (n19 < ((bl : Nat) : Int)) ∧
                  X.onSome (b) fun p248 =>
                  ∃ n249 : Int, ∃ n250 : Int, ((⟨((p248.add (n19.toNat * 14)).block), (((p248.add (n19.toNat * 14)).off) + 1), none⟩, [(.int .u8 n249), (.int .u16 n250)]) ∈ x247) ∧
                  ((0 : Int) ≤ n19) ∧
                  (n19 < ((bl : Nat) : Int)) ∧
                  X.onSome (b) fun p251 =>
                  ∃ n252 : Int, ((((p251.add ((n19).toNat * 14)).add 13), [(.int .u32 n252)]) ∈ x247) ∧
                  ∀ w253 : World, ∀ L254 : List Nat, (X.Hid (L244) w246 w253) →
                  (X.NewL (w).heap.size (L244) w246 w253 L254) →
                  X.CallX Try.prog 27 #[(.pointer (q15)), (.agg #[(.int .u8 n249), (.int .u16 n250)]), (.int .u32 n252)] w253 fun e255 w256 =>
                   (e255 = .returned (.tuple #[])) ∧
                   (X.Kept L254 w253 w256) ∧
                   (([(.int .u8 n35), (.int .u16 n36), (.int .u32 n37), (.int .u8 n38), (.int .u8 n39), (.int .u8 n40), (.int .u8 n41), (.int .u8 n42), (.int .u8 n43), (.int .u8 n44)] : List Value) = [(.int .u8 n35), (.int .u16 n36), (.int .u32 n37), (.int .u8 n38), (.int .u8 n39), (.int .u8 n40), (.int .u8 n41), (.int .u8 n42), (.int .u8 n43), (.int .u8 n44)]) ∧
                   x47 q18 true w256 (L254)
                else
                 if (n46 == 6) = true then
                  ∀ w235 : World, ∀ L236 : List Nat, (X.Hid [] w34 w235) →
                  (X.NewL (w).heap.size [] w34 w235 L236) →
                  X.CallX Try.prog 12 #[(.pointer (q18))] w235 fun e237 w238 =>
                   ∃ q239 : Option Addr, (e237 = .returned (.pointer (q239))) ∧
                   (X.Kept L236 w235 w238) ∧
                   (([(.int .u8 n35), (.int .u16 n36), (.int .u32 n37), (.int .u8 n38), (.int .u8 n39), (.int .u8 n40), (.int .u8 n41), (.int .u8 n42), (.int .u8 n43), (.int .u8 n44)] : List Value) = [(.int .u8 n35), (.int .u16 n36), (.int .u32 n37), (.int .u8 n38), (.int .u8 n39), (.int .u8 n40), (.int .u8 n41), (.int .u8 n42), (.int .u8 n43), (.int .u8 n44)]) ∧
                   x47 q239 true w238 (L236)
                 else
                  ∀ w233 : World, ∀ L234 : List Nat, (X.Hid [] w34 w233) →
                  (X.NewL (w).heap.size [] w34 w233 L234) →
                  (([(.int .u8 n35), (.int .u16 n36), (.int .u32 n37), (.int .u8 n38), (.int .u8 n39), (.int .u8 n40), (.int .u8 n41), (.int .u8 n42), (.int .u8 n43), (.int .u8 n44)] : List Value) = [(.int .u8 n35), (.int .u16 n36), (.int .u32 n37), (.int .u8 n38), (.int .u8 n39), (.int .u8 n40), (.int .u8 n41), (.int .u8 n42), (.int .u8 n43), (.int .u8 n44)]) ∧
                  x47 q18 true w233 (L234)
              else
               if (n46 == 4) = true then
                ∃ x203 : X.Facts, (X.FactsW x203 w34 []) ∧
                ((0 : Int) ≤ n19) ∧
                (n19 < ((bl : Nat) : Int)) ∧
                X.onSome (b) fun p204 =>
                ∃ n205 : Int, ∃ s206 : ByteArray, ((((p204.add ((n19).toNat * 14)).add 11), [(.int .u8 n205), (.string s206)]) ∈ x203) ∧
                ((0 : Int) ≤ n19) ∧
                (n19 < ((bl : Nat) : Int)) ∧
                X.onSome (b) fun p207 =>
                ∃ n208 : Int, ∃ n209 : Int, ∃ n210 : Int, ∃ n211 : Int, ∃ n212 : Int, ∃ n213 : Int, ∃ n214 : Int, ∃ n215 : Int, ∃ n216 : Int, ∃ n217 : Int, ((((p207.add ((n19).toNat * 14)).add 1), [(.int .u8 n208), (.int .u16 n209), (.int .u32 n210), (.int .u8 n211), (.int .u8 n212), (.int .u8 n213), (.int .u8 n214), (.int .u8 n215), (.int .u8 n216), (.int .u8 n217)]) ∈ x203) ∧
                ((0 : Int) ≤ n19) ∧
                (n19 < ((bl : Nat) : Int)) ∧
                X.onSome (b) fun p218 =>
                ∃ n219 : Int, ∃ s220 : ByteArray, ((((p218.add ((n19).toNat * 14)).add 11), [(.int .u8 n219), (.string s220)]) ∈ x203) ∧
                ∀ w221 : World, ∀ L222 : List Nat, (X.Hid [] w34 w221) →
                (X.NewL (w).heap.size [] w34 w221 L222) →
                X.CallX Try.prog 24 #[(.agg #[(.int .u8 n205), (.string s206)])] w221 fun e223 w224 =>
                 ∃ n225 : Int, ∃ s226 : ByteArray, (e223 = .returned (.agg #[(.int .u8 n225), (.string s226)])) ∧
                 (X.Kept L222 w221 w224) ∧
                 (X.FactsW x203 w224 (L222)) ∧
                 X.CallX Try.prog 23 #[(.pointer (q18)), (.agg #[(.int .u8 n35), (.int .u16 n36), (.int .u32 n37), (.int .u8 n38), (.int .u8 n39), (.int .u8 n40), (.int .u8 n41), (.int .u8 n42), (.int .u8 n43), (.int .u8 n44)]), (.agg #[(.int .u8 n225), (.string s226)])] w224 fun e227 w228 =>
                  ∃ b229 : Bool, (e227 = .returned (.bool b229)) ∧
                  (X.Kept L222 w224 w228) ∧
                  (X.FactsW x203 w228 (L222)) ∧
                  X.CallX Try.prog 25 #[(.pointer (q15)), (.agg #[(.int .u8 n208), (.int .u16 n209), (.int .u32 n210), (.int .u8 n211), (.int .u8 n212), (.int .u8 n213), (.int .u8 n214), (.int .u8 n215), (.int .u8 n216), (.int .u8 n217)]), (.agg #[(.int .u8 n219), (.string s220)])] w228 fun e230 w231 =>
                   ∃ b232 : Bool, (e230 = .returned (.bool b232)) ∧
                   (X.Kept L222 w228 w231) ∧
                   (X.FactsW x203 w231 (L222)) ∧
                   (([(.int .u8 n35), (.int .u16 n36), (.int .u32 n37), (.int .u8 n38), (.int .u8 n39), (.int .u8 n40), (.int .u8 n41), (.int .u8 n42), (.int .u8 n43), (.int .u8 n44)] : List Value) = [(.int .u8 n35), (.int .u16 n36), (.int .u32 n37), (.int .u8 n38), (.int .u8 n39), (.int .u8 n40), (.int .u8 n41), (.int .u8 n42), (.int .u8 n43), (.int .u8 n44)]) ∧
                   x47 q18 (b229 == b232) w231 (L222)
               else
                if (n46 == 5) = true then
                 ∃ x186 : X.Facts, (X.FactsW x186 w34 []) ∧
                 ((0 : Int) ≤ n19) ∧
                 (n19 < ((bl : Nat) : Int)) ∧
                 X.onSome (b) fun p187 =>
                 ∃ n188 : Int, ((((p187.add ((n19).toNat * 14)).add 13), [(.int .u32 n188)]) ∈ x186) ∧
                 ∀ w189 : World, ∀ L190 : List Nat, (X.Hid [] w34 w189) →
                 (X.NewL (w).heap.size [] w34 w189 L190) →
                 X.CallX Try.prog 26 #[(.pointer (q18)), (.agg #[(.int .u8 n35), (.int .u16 n36)]), (.int .u32 n188)] w189 fun e191 w192 =>
                  (e191 = .returned (.tuple #[])) ∧
                  (X.Kept L190 w189 w192) ∧
                  ∃ x193 : X.Facts, (X.FactsW x193 w192 (L190)) ∧
                  ((0 : Int) ≤ n19) ∧
                  (n19 < ((bl : Nat) : Int)) ∧
                  X.onSome (b) fun p194 =>
                  ∃ n195 : Int, ∃ n196 : Int, ((⟨((p194.add (n19.toNat * 14)).block), (((p194.add (n19.toNat * 14)).off) + 1), none⟩, [(.int .u8 n195), (.int .u16 n196)]) ∈ x193) ∧
                  ((0 : Int) ≤ n19) ∧
                  (n19 < ((bl : Nat) : Int)) ∧
                  X.onSome (b) fun p197 =>
                  ∃ n198 : Int, ((((p197.add ((n19).toNat * 14)).add 13), [(.int .u32 n198)]) ∈ x193) ∧
                  ∀ w199 : World, ∀ L200 : List Nat, (X.Hid (L190) w192 w199) →
                  (X.NewL (w).heap.size (L190) w192 w199 L200) →
                  X.CallX Try.prog 27 #[(.pointer (q15)), (.agg #[(.int .u8 n195), (.int .u16 n196)]), (.int .u32 n198)] w199 fun e201 w202 =>
                   (e201 = .returned (.tuple #[])) ∧
                   (X.Kept L200 w199 w202) ∧
                   (([(.int .u8 n35), (.int .u16 n36), (.int .u32 n37), (.int .u8 n38), (.int .u8 n39), (.int .u8 n40), (.int .u8 n41), (.int .u8 n42), (.int .u8 n43), (.int .u8 n44)] : List Value) = [(.int .u8 n35), (.int .u16 n36), (.int .u32 n37), (.int .u8 n38), (.int .u8 n39), (.int .u8 n40), (.int .u8 n41), (.int .u8 n42), (.int .u8 n43), (.int .u8 n44)]) ∧
                   x47 q18 true w202 (L200)
                else
                 if (n46 == 6) = true then
                  ∀ w181 : World, ∀ L182 : List Nat, (X.Hid [] w34 w181) →
                  (X.NewL (w).heap.size [] w34 w181 L182) →
                  X.CallX Try.prog 12 #[(.pointer (q18))] w181 fun e183 w184 =>
                   ∃ q185 : Option Addr, (e183 = .returned (.pointer (q185))) ∧
                   (X.Kept L182 w181 w184) ∧
                   (([(.int .u8 n35), (.int .u16 n36), (.int .u32 n37), (.int .u8 n38), (.int .u8 n39), (.int .u8 n40), (.int .u8 n41), (.int .u8 n42), (.int .u8 n43), (.int .u8 n44)] : List Value) = [(.int .u8 n35), (.int .u16 n36), (.int .u32 n37), (.int .u8 n38), (.int .u8 n39), (.int .u8 n40), (.int .u8 n41), (.int .u8 n42), (.int .u8 n43), (.int .u8 n44)]) ∧
                   x47 q185 true w184 (L182)
                 else
                  ∀ w179 : World, ∀ L180 : List Nat, (X.Hid [] w34 w179) →
                  (X.NewL (w).heap.size [] w34 w179 L180) →
                  (([(.int .u8 n35), (.int .u16 n36), (.int .u32 n37), (.int .u8 n38), (.int .u8 n39), (.int .u8 n40), (.int .u8 n41), (.int .u8 n42), (.int .u8 n43), (.int .u8 n44)] : List Value) = [(.int .u8 n35), (.int .u16 n36), (.int .u32 n37), (.int .u8 n38), (.int .u8 n39), (.int .u8 n40), (.int .u8 n41), (.int .u8 n42), (.int .u8 n43), (.int .u8 n44)]) ∧
                  x47 q18 true w179 (L180)
            else
             if (n46 == 2) = true then
              ∃ x156 : X.Facts, (X.FactsW x156 w34 []) ∧
              ((0 : Int) ≤ n19) ∧
              (n19 < ((bl : Nat) : Int)) ∧
              X.onSome (b) fun p157 =>
              ∃ n158 : Int, ∃ n159 : Int, ∃ n160 : Int, ∃ n161 : Int, ∃ n162 : Int, ∃ n163 : Int, ∃ n164 : Int, ∃ n165 : Int, ∃ n166 : Int, ∃ n167 : Int, ((((p157.add ((n19).toNat * 14)).add 1), [(.int .u8 n158), (.int .u16 n159), (.int .u32 n160), (.int .u8 n161), (.int .u8 n162), (.int .u8 n163), (.int .u8 n164), (.int .u8 n165), (.int .u8 n166), (.int .u8 n167)]) ∈ x156) ∧
              ∀ w168 : World, ∀ L169 : List Nat, (X.Hid [] w34 w168) →
              (X.NewL (w).heap.size [] w34 w168 L169) →
              X.CallX Try.prog 21 #[(.pointer (q18)), (.agg #[(.int .u8 n35), (.int .u16 n36), (.int .u32 n37), (.int .u8 n38), (.int .u8 n39), (.int .u8 n40), (.int .u8 n41), (.int .u8 n42), (.int .u8 n43), (.int .u8 n44)])] w168 fun e170 w171 =>
               ∃ n172 : Int, (e170 = .returned (.int .i64 n172)) ∧
               (X.Kept L169 w168 w171) ∧
               (X.FactsW x156 w171 (L169)) ∧
               X.CallX Try.prog 20 #[(.int .i64 n172)] w171 fun e173 w174 =>
                ∃ n175 : Int, (e173 = .returned (.int .i64 n175)) ∧
                (X.Kept L169 w171 w174) ∧
                (X.FactsW x156 w174 (L169)) ∧
                X.CallX Try.prog 22 #[(.pointer (q15)), (.agg #[(.int .u8 n158), (.int .u16 n159), (.int .u32 n160), (.int .u8 n161), (.int .u8 n162), (.int .u8 n163), (.int .u8 n164), (.int .u8 n165), (.int .u8 n166), (.int .u8 n167)])] w174 fun e176 w177 =>
                 ∃ n178 : Int, (e176 = .returned (.int .i64 n178)) ∧
                 (X.Kept L169 w174 w177) ∧
                 (X.FactsW x156 w177 (L169)) ∧
                 (([(.int .u8 n35), (.int .u16 n36), (.int .u32 n37), (.int .u8 n38), (.int .u8 n39), (.int .u8 n40), (.int .u8 n41), (.int .u8 n42), (.int .u8 n43), (.int .u8 n44)] : List Value) = [(.int .u8 n35), (.int .u16 n36), (.int .u32 n37), (.int .u8 n38), (.int .u8 n39), (.int .u8 n40), (.int .u8 n41), (.int .u8 n42), (.int .u8 n43), (.int .u8 n44)]) ∧
                 x47 q18 (n175 == n178) w177 (L169)
             else
              if (n46 == 3) = true then
               if (n46 == 3) = true then
                ∃ x126 : X.Facts, (X.FactsW x126 w34 []) ∧
                ((0 : Int) ≤ n19) ∧
                (n19 < ((bl : Nat) : Int)) ∧
                X.onSome (b) fun p127 =>
                ∃ n128 : Int, ∃ s129 : ByteArray, ((((p127.add ((n19).toNat * 14)).add 11), [(.int .u8 n128), (.string s129)]) ∈ x126) ∧
                ((0 : Int) ≤ n19) ∧
                (n19 < ((bl : Nat) : Int)) ∧
                X.onSome (b) fun p130 =>
                ∃ n131 : Int, ∃ n132 : Int, ∃ n133 : Int, ∃ n134 : Int, ∃ n135 : Int, ∃ n136 : Int, ∃ n137 : Int, ∃ n138 : Int, ∃ n139 : Int, ∃ n140 : Int, ((((p130.add ((n19).toNat * 14)).add 1), [(.int .u8 n131), (.int .u16 n132), (.int .u32 n133), (.int .u8 n134), (.int .u8 n135), (.int .u8 n136), (.int .u8 n137), (.int .u8 n138), (.int .u8 n139), (.int .u8 n140)]) ∈ x126) ∧
                ((0 : Int) ≤ n19) ∧
                (n19 < ((bl : Nat) : Int)) ∧
                X.onSome (b) fun p141 =>
                ∃ n142 : Int, ∃ s143 : ByteArray, ((((p141.add ((n19).toNat * 14)).add 11), [(.int .u8 n142), (.string s143)]) ∈ x126) ∧
                ∀ w144 : World, ∀ L145 : List Nat, (X.Hid [] w34 w144) →
                (X.NewL (w).heap.size [] w34 w144 L145) →
                X.CallX Try.prog 24 #[(.agg #[(.int .u8 n128), (.string s129)])] w144 fun e146 w147 =>
                 ∃ n148 : Int, ∃ s149 : ByteArray, (e146 = .returned (.agg #[(.int .u8 n148), (.string s149)])) ∧
                 (X.Kept L145 w144 w147) ∧
                 (X.FactsW x126 w147 (L145)) ∧
                 X.CallX Try.prog 23 #[(.pointer (q18)), (.agg #[(.int .u8 n35), (.int .u16 n36), (.int .u32 n37), (.int .u8 n38), (.int .u8 n39), (.int .u8 n40), (.int .u8 n41), (.int .u8 n42), (.int .u8 n43), (.int .u8 n44)]), (.agg #[(.int .u8 n148), (.string s149)])] w147 fun e150 w151 =>
                  ∃ b152 : Bool, (e150 = .returned (.bool b152)) ∧
                  (X.Kept L145 w147 w151) ∧
                  (X.FactsW x126 w151 (L145)) ∧
                  X.CallX Try.prog 25 #[(.pointer (q15)), (.agg #[(.int .u8 n131), (.int .u16 n132), (.int .u32 n133), (.int .u8 n134), (.int .u8 n135), (.int .u8 n136), (.int .u8 n137), (.int .u8 n138), (.int .u8 n139), (.int .u8 n140)]), (.agg #[(.int .u8 n142), (.string s143)])] w151 fun e153 w154 =>
                   ∃ b155 : Bool, (e153 = .returned (.bool b155)) ∧
                   (X.Kept L145 w151 w154) ∧
                   (X.FactsW x126 w154 (L145)) ∧
                   (([(.int .u8 n35), (.int .u16 n36), (.int .u32 n37), (.int .u8 n38), (.int .u8 n39), (.int .u8 n40), (.int .u8 n41), (.int .u8 n42), (.int .u8 n43), (.int .u8 n44)] : List Value) = [(.int .u8 n35), (.int .u16 n36), (.int .u32 n37), (.int .u8 n38), (.int .u8 n39), (.int .u8 n40), (.int .u8 n41), (.int .u8 n42), (.int .u8 n43), (.int .u8 n44)]) ∧
                   x47 q18 (b152 == b155) w154 (L145)
               else
                if (n46 == 5) = true then
                 ∃ x109 : X.Facts, (X.FactsW x109 w34 []) ∧
                 ((0 : Int) ≤ n19) ∧
                 (n19 < ((bl : Nat) : Int)) ∧
                 X.onSome (b) fun p110 =>
                 ∃ n111 : Int, ((((p110.add ((n19).toNat * 14)).add 13), [(.int .u32 n111)]) ∈ x109) ∧
                 ∀ w112 : World, ∀ L113 : List Nat, (X.Hid [] w34 w112) →
                 (X.NewL (w).heap.size [] w34 w112 L113) →
                 X.CallX Try.prog 26 #[(.pointer (q18)), (.agg #[(.int .u8 n35), (.int .u16 n36)]), (.int .u32 n111)] w112 fun e114 w115 =>
                  (e114 = .returned (.tuple #[])) ∧
                  (X.Kept L113 w112 w115) ∧
                  ∃ x116 : X.Facts, (X.FactsW x116 w115 (L113)) ∧
                  ((0 : Int) ≤ n19) ∧
                  (n19 < ((bl : Nat) : Int)) ∧
                  X.onSome (b) fun p117 =>
                  ∃ n118 : Int, ∃ n119 : Int, ((⟨((p117.add (n19.toNat * 14)).block), (((p117.add (n19.toNat * 14)).off) + 1), none⟩, [(.int .u8 n118), (.int .u16 n119)]) ∈ x116) ∧
                  ((0 : Int) ≤ n19) ∧
                  (n19 < ((bl : Nat) : Int)) ∧
                  X.onSome (b) fun p120 =>
                  ∃ n121 : Int, ((((p120.add ((n19).toNat * 14)).add 13), [(.int .u32 n121)]) ∈ x116) ∧
                  ∀ w122 : World, ∀ L123 : List Nat, (X.Hid (L113) w115 w122) →
                  (X.NewL (w).heap.size (L113) w115 w122 L123) →
                  X.CallX Try.prog 27 #[(.pointer (q15)), (.agg #[(.int .u8 n118), (.int .u16 n119)]), (.int .u32 n121)] w122 fun e124 w125 =>
                   (e124 = .returned (.tuple #[])) ∧
                   (X.Kept L123 w122 w125) ∧
                   (([(.int .u8 n35), (.int .u16 n36), (.int .u32 n37), (.int .u8 n38), (.int .u8 n39), (.int .u8 n40), (.int .u8 n41), (.int .u8 n42), (.int .u8 n43), (.int .u8 n44)] : List Value) = [(.int .u8 n35), (.int .u16 n36), (.int .u32 n37), (.int .u8 n38), (.int .u8 n39), (.int .u8 n40), (.int .u8 n41), (.int .u8 n42), (.int .u8 n43), (.int .u8 n44)]) ∧
                   x47 q18 true w125 (L123)
                else
                 if (n46 == 6) = true then
                  ∀ w104 : World, ∀ L105 : List Nat, (X.Hid [] w34 w104) →
                  (X.NewL (w).heap.size [] w34 w104 L105) →
                  X.CallX Try.prog 12 #[(.pointer (q18))] w104 fun e106 w107 =>
                   ∃ q108 : Option Addr, (e106 = .returned (.pointer (q108))) ∧
                   (X.Kept L105 w104 w107) ∧
                   (([(.int .u8 n35), (.int .u16 n36), (.int .u32 n37), (.int .u8 n38), (.int .u8 n39), (.int .u8 n40), (.int .u8 n41), (.int .u8 n42), (.int .u8 n43), (.int .u8 n44)] : List Value) = [(.int .u8 n35), (.int .u16 n36), (.int .u32 n37), (.int .u8 n38), (.int .u8 n39), (.int .u8 n40), (.int .u8 n41), (.int .u8 n42), (.int .u8 n43), (.int .u8 n44)]) ∧
                   x47 q108 true w107 (L105)
                 else
                  ∀ w102 : World, ∀ L103 : List Nat, (X.Hid [] w34 w102) →
                  (X.NewL (w).heap.size [] w34 w102 L103) →
                  (([(.int .u8 n35), (.int .u16 n36), (.int .u32 n37), (.int .u8 n38), (.int .u8 n39), (.int .u8 n40), (.int .u8 n41), (.int .u8 n42), (.int .u8 n43), (.int .u8 n44)] : List Value) = [(.int .u8 n35), (.int .u16 n36), (.int .u32 n37), (.int .u8 n38), (.int .u8 n39), (.int .u8 n40), (.int .u8 n41), (.int .u8 n42), (.int .u8 n43), (.int .u8 n44)]) ∧
                  x47 q18 true w102 (L103)
              else
               if (n46 == 4) = true then
                ∃ x72 : X.Facts, (X.FactsW x72 w34 []) ∧
                ((0 : Int) ≤ n19) ∧
                (n19 < ((bl : Nat) : Int)) ∧
                X.onSome (b) fun p73 =>
                ∃ n74 : Int, ∃ s75 : ByteArray, ((((p73.add ((n19).toNat * 14)).add 11), [(.int .u8 n74), (.string s75)]) ∈ x72) ∧
                ((0 : Int) ≤ n19) ∧
                (n19 < ((bl : Nat) : Int)) ∧
                X.onSome (b) fun p76 =>
                ∃ n77 : Int, ∃ n78 : Int, ∃ n79 : Int, ∃ n80 : Int, ∃ n81 : Int, ∃ n82 : Int, ∃ n83 : Int, ∃ n84 : Int, ∃ n85 : Int, ∃ n86 : Int, ((((p76.add ((n19).toNat * 14)).add 1), [(.int .u8 n77), (.int .u16 n78), (.int .u32 n79), (.int .u8 n80), (.int .u8 n81), (.int .u8 n82), (.int .u8 n83), (.int .u8 n84), (.int .u8 n85), (.int .u8 n86)]) ∈ x72) ∧
                ((0 : Int) ≤ n19) ∧
                (n19 < ((bl : Nat) : Int)) ∧
                X.onSome (b) fun p87 =>
                ∃ n88 : Int, ∃ s89 : ByteArray, ((((p87.add ((n19).toNat * 14)).add 11), [(.int .u8 n88), (.string s89)]) ∈ x72) ∧
                ∀ w90 : World, ∀ L91 : List Nat, (X.Hid [] w34 w90) →
                (X.NewL (w).heap.size [] w34 w90 L91) →
                X.CallX Try.prog 24 #[(.agg #[(.int .u8 n74), (.string s75)])] w90 fun e92 w93 =>
                 ∃ n94 : Int, ∃ s95 : ByteArray, (e92 = .returned (.agg #[(.int .u8 n94), (.string s95)])) ∧
                 (X.Kept L91 w90 w93) ∧
                 (X.FactsW x72 w93 (L91)) ∧
                 X.CallX Try.prog 23 #[(.pointer (q18)), (.agg #[(.int .u8 n35), (.int .u16 n36), (.int .u32 n37), (.int .u8 n38), (.int .u8 n39), (.int .u8 n40), (.int .u8 n41), (.int .u8 n42), (.int .u8 n43), (.int .u8 n44)]), (.agg #[(.int .u8 n94), (.string s95)])] w93 fun e96 w97 =>
                  ∃ b98 : Bool, (e96 = .returned (.bool b98)) ∧
                  (X.Kept L91 w93 w97) ∧
                  (X.FactsW x72 w97 (L91)) ∧
                  X.CallX Try.prog 25 #[(.pointer (q15)), (.agg #[(.int .u8 n77), (.int .u16 n78), (.int .u32 n79), (.int .u8 n80), (.int .u8 n81), (.int .u8 n82), (.int .u8 n83), (.int .u8 n84), (.int .u8 n85), (.int .u8 n86)]), (.agg #[(.int .u8 n88), (.string s89)])] w97 fun e99 w100 =>
                   ∃ b101 : Bool, (e99 = .returned (.bool b101)) ∧
                   (X.Kept L91 w97 w100) ∧
                   (X.FactsW x72 w100 (L91)) ∧
                   (([(.int .u8 n35), (.int .u16 n36), (.int .u32 n37), (.int .u8 n38), (.int .u8 n39), (.int .u8 n40), (.int .u8 n41), (.int .u8 n42), (.int .u8 n43), (.int .u8 n44)] : List Value) = [(.int .u8 n35), (.int .u16 n36), (.int .u32 n37), (.int .u8 n38), (.int .u8 n39), (.int .u8 n40), (.int .u8 n41), (.int .u8 n42), (.int .u8 n43), (.int .u8 n44)]) ∧
                   x47 q18 (b98 == b101) w100 (L91)
               else
                if (n46 == 5) = true then
                 ∃ x55 : X.Facts, (X.FactsW x55 w34 []) ∧
                 ((0 : Int) ≤ n19) ∧
                 (n19 < ((bl : Nat) : Int)) ∧
                 X.onSome (b) fun p56 =>
                 ∃ n57 : Int, ((((p56.add ((n19).toNat * 14)).add 13), [(.int .u32 n57)]) ∈ x55) ∧
                 ∀ w58 : World, ∀ L59 : List Nat, (X.Hid [] w34 w58) →
                 (X.NewL (w).heap.size [] w34 w58 L59) →
                 X.CallX Try.prog 26 #[(.pointer (q18)), (.agg #[(.int .u8 n35), (.int .u16 n36)]), (.int .u32 n57)] w58 fun e60 w61 =>
                  (e60 = .returned (.tuple #[])) ∧
                  (X.Kept L59 w58 w61) ∧
                  ∃ x62 : X.Facts, (X.FactsW x62 w61 (L59)) ∧
                  ((0 : Int) ≤ n19) ∧
                  (n19 < ((bl : Nat) : Int)) ∧
                  X.onSome (b) fun p63 =>
                  ∃ n64 : Int, ∃ n65 : Int, ((⟨((p63.add (n19.toNat * 14)).block), (((p63.add (n19.toNat * 14)).off) + 1), none⟩, [(.int .u8 n64), (.int .u16 n65)]) ∈ x62) ∧
                  ((0 : Int) ≤ n19) ∧
                  (n19 < ((bl : Nat) : Int)) ∧
                  X.onSome (b) fun p66 =>
                  ∃ n67 : Int, ((((p66.add ((n19).toNat * 14)).add 13), [(.int .u32 n67)]) ∈ x62) ∧
                  ∀ w68 : World, ∀ L69 : List Nat, (X.Hid (L59) w61 w68) →
                  (X.NewL (w).heap.size (L59) w61 w68 L69) →
                  X.CallX Try.prog 27 #[(.pointer (q15)), (.agg #[(.int .u8 n64), (.int .u16 n65)]), (.int .u32 n67)] w68 fun e70 w71 =>
                   (e70 = .returned (.tuple #[])) ∧
                   (X.Kept L69 w68 w71) ∧
                   (([(.int .u8 n35), (.int .u16 n36), (.int .u32 n37), (.int .u8 n38), (.int .u8 n39), (.int .u8 n40), (.int .u8 n41), (.int .u8 n42), (.int .u8 n43), (.int .u8 n44)] : List Value) = [(.int .u8 n35), (.int .u16 n36), (.int .u32 n37), (.int .u8 n38), (.int .u8 n39), (.int .u8 n40), (.int .u8 n41), (.int .u8 n42), (.int .u8 n43), (.int .u8 n44)]) ∧
                   x47 q18 true w71 (L69)
                else
                 if (n46 == 6) = true then
                  ∀ w50 : World, ∀ L51 : List Nat, (X.Hid [] w34 w50) →
                  (X.NewL (w).heap.size [] w34 w50 L51) →
                  X.CallX Try.prog 12 #[(.pointer (q18))] w50 fun e52 w53 =>
                   ∃ q54 : Option Addr, (e52 = .returned (.pointer (q54))) ∧
                   (X.Kept L51 w50 w53) ∧
                   (([(.int .u8 n35), (.int .u16 n36), (.int .u32 n37), (.int .u8 n38), (.int .u8 n39), (.int .u8 n40), (.int .u8 n41), (.int .u8 n42), (.int .u8 n43), (.int .u8 n44)] : List Value) = [(.int .u8 n35), (.int .u16 n36), (.int .u32 n37), (.int .u8 n38), (.int .u8 n39), (.int .u8 n40), (.int .u8 n41), (.int .u8 n42), (.int .u8 n43), (.int .u8 n44)]) ∧
                   x47 q54 true w53 (L51)
                 else
                  ∀ w48 : World, ∀ L49 : List Nat, (X.Hid [] w34 w48) →
                  (X.NewL (w).heap.size [] w34 w48 L49) →
                  (([(.int .u8 n35), (.int .u16 n36), (.int .u32 n37), (.int .u8 n38), (.int .u8 n39), (.int .u8 n40), (.int .u8 n41), (.int .u8 n42), (.int .u8 n43), (.int .u8 n44)] : List Value) = [(.int .u8 n35), (.int .u16 n36), (.int .u32 n37), (.int .u8 n38), (.int .u8 n39), (.int .u8 n40), (.int .u8 n41), (.int .u8 n42), (.int .u8 n43), (.int .u8 n44)]) ∧
                  x47 q18 true w48 (L49)) ∧
          ∀ q441 : Option Addr, ∀ b442 : Bool, ∀ w443 : World, ∀ L444 : List Nat, (X.LF (w).heap.size w443 L444) →
          (x47 q441 b442 w443 L444) →
          X.CallX Try.prog 28 #[(.pointer (q441)), (.agg #[(.int .u8 n35), (.int .u16 n36), (.int .u32 n37), (.int .u8 n38), (.int .u8 n39), (.int .u8 n40), (.int .u8 n41), (.int .u8 n42), (.int .u8 n43), (.int .u8 n44)])] w443 fun e445 w446 =>
           ∃ n447 : Int, ∃ s448 : ByteArray, ∃ b449 : Bool, (e445 = .returned (.tuple #[(.agg #[(.int .u8 n447), (.string s448)]), (.bool b449)])) ∧
           (X.Kept L444 w443 w446) ∧
           ((0 : Int) ≤ n19) ∧
           (n19 < ((bl : Nat) : Int)) ∧
           X.onSome (b) fun p450 =>
           ∃ n451 : Int, ∃ n452 : Int, ∃ n453 : Int, ∃ n454 : Int, ∃ n455 : Int, ∃ n456 : Int, ∃ n457 : Int, ∃ n458 : Int, ∃ n459 : Int, ∃ n460 : Int, (X.Cells w446 ((p450.add ((n19).toNat * 14)).add 1) [(.int .u8 n451), (.int .u16 n452), (.int .u32 n453), (.int .u8 n454), (.int .u8 n455), (.int .u8 n456), (.int .u8 n457), (.int .u8 n458), (.int .u8 n459), (.int .u8 n460)]) ∧
           (¬ (((p450.add (n19.toNat * 14)).block) ∈ L444)) ∧
           ∀ w461 : World, ∀ L462 : List Nat, (X.Hid (L444) w446 w461) →
           (X.NewL (w).heap.size (L444) w446 w461 L462) →
           X.CallX Try.prog 29 #[(.pointer (q15)), (.agg #[(.int .u8 n451), (.int .u16 n452), (.int .u32 n453), (.int .u8 n454), (.int .u8 n455), (.int .u8 n456), (.int .u8 n457), (.int .u8 n458), (.int .u8 n459), (.int .u8 n460)])] w461 fun e463 w464 =>
            ∃ n465 : Int, ∃ s466 : ByteArray, ∃ b467 : Bool, (e463 = .returned (.tuple #[(.agg #[(.int .u8 n465), (.string s466)]), (.bool b467)])) ∧
            (X.Kept L462 w461 w464) ∧
            ∃ x468 : X.Facts, (X.FactsW x468 w464 (L462)) ∧
            if ((!b442) == false) = true then
             ∀ w487 : World, ∀ L488 : List Nat, (X.Hid (L462) w464 w487) →
             (X.NewL (w).heap.size (L462) w464 w487 L488) →
             X.CallX Try.prog 30 #[(.agg #[(.int .u8 n447), (.string s448)])] w487 fun e489 w490 =>
              ∃ n491 : Int, ∃ s492 : ByteArray, (e489 = .returned (.agg #[(.int .u8 n491), (.string s492)])) ∧
              (X.Kept L488 w487 w490) ∧
              (X.FactsW x468 w490 (L488)) ∧
              ∃ x493 : X.Facts, (X.FactsW x493 w490 (L488)) ∧
              (∀ x494 : Addr × List Value, (x494 ∈ x468) →
               x494 ∈ x493) ∧
              if (((false || (!((n491 == n465) && (s492 == s466)))) || (!(b449 == b467))) == false) = true then
               ((0 : Int) ≤ n19) ∧
               (n19 < ((bl : Nat) : Int)) ∧
               X.onSome (b) fun p509 =>
               ∃ n510 : Int, ∃ n511 : Int, ∃ n512 : Int, ∃ n513 : Int, ∃ n514 : Int, ∃ n515 : Int, ∃ n516 : Int, ∃ n517 : Int, ∃ n518 : Int, ∃ n519 : Int, ((((p509.add ((n19).toNat * 14)).add 1), [(.int .u8 n510), (.int .u16 n511), (.int .u32 n512), (.int .u8 n513), (.int .u8 n514), (.int .u8 n515), (.int .u8 n516), (.int .u8 n517), (.int .u8 n518), (.int .u8 n519)]) ∈ x493) ∧
               X.CallX Try.prog 31 #[(.pointer (q441)), (.agg #[(.int .u8 n35), (.int .u16 n36), (.int .u32 n37), (.int .u8 n38), (.int .u8 n39), (.int .u8 n40), (.int .u8 n41), (.int .u8 n42), (.int .u8 n43), (.int .u8 n44)])] w490 fun e520 w521 =>
                ∃ n522 : Int, (e520 = .returned (.int .i64 n522)) ∧
                (X.Kept L488 w490 w521) ∧
                (X.FactsW x493 w521 (L488)) ∧
                ∃ x523 : X.Facts, (X.FactsW x523 w521 (L488)) ∧
                (∀ x524 : Addr × List Value, (x524 ∈ x493) →
                 x524 ∈ x523) ∧
                X.CallX Try.prog 32 #[(.pointer (q15)), (.agg #[(.int .u8 n510), (.int .u16 n511), (.int .u32 n512), (.int .u8 n513), (.int .u8 n514), (.int .u8 n515), (.int .u8 n516), (.int .u8 n517), (.int .u8 n518), (.int .u8 n519)])] w521 fun e525 w526 =>
                 ∃ n527 : Int, (e525 = .returned (.int .i64 n527)) ∧
                 (X.Kept L488 w521 w526) ∧
                 (X.FactsW x523 w526 (L488)) ∧
                 ∃ x528 : X.Facts, (X.FactsW x528 w526 (L488)) ∧
                 (∀ x529 : Addr × List Value, (x529 ∈ x523) →
                  x529 ∈ x528) ∧
                 if ((false || (n522 != n527)) == false) = true then
                  ((0 : Int) ≤ n19) ∧
                  (n19 < ((bl : Nat) : Int)) ∧
                  X.onSome (b) fun p540 =>
                  ∃ n541 : Int, ∃ n542 : Int, ((⟨((p540.add (n19.toNat * 14)).block), (((p540.add (n19.toNat * 14)).off) + 1), none⟩, [(.int .u8 n541), (.int .u16 n542)]) ∈ x528) ∧
                  X.CallX Try.prog 19 #[(.pointer (q441)), (.agg #[(.int .u8 n35), (.int .u16 n36)])] w526 fun e543 w544 =>
                   ∃ n545 : Int, (e543 = .returned (.int .u32 n545)) ∧
                   (X.Kept L488 w526 w544) ∧
                   (X.FactsW x528 w544 (L488)) ∧
                   ∃ x546 : X.Facts, (X.FactsW x546 w544 (L488)) ∧
                   (∀ x547 : Addr × List Value, (x547 ∈ x528) →
                    x547 ∈ x546) ∧
                   X.CallX Try.prog 33 #[(.pointer (q15)), (.agg #[(.int .u8 n541), (.int .u16 n542)])] w544 fun e548 w549 =>
                    ∃ n550 : Int, (e548 = .returned (.int .u32 n550)) ∧
                    (X.Kept L488 w544 w549) ∧
                    (X.FactsW x546 w549 (L488)) ∧
                    ∃ x551 : X.Facts, (X.FactsW x551 w549 (L488)) ∧
                    (∀ x552 : Addr × List Value, (x552 ∈ x546) →
                     x552 ∈ x551) ∧
                    if ((false || (n545 != n550)) == false) = true then
                     X.onSome (q15) fun p559 =>
                     ∃ q560 : Option Addr, ∃ k561 : Nat, ∃ k562 : Nat, (((p559.add 1), [(.slice (q560) k561 k562)]) ∈ x551) ∧
                     X.CallX Try.prog 34 #[(.pointer (q441))] w549 fun e563 w564 =>
                      ∃ n565 : Int, (e563 = .returned (.int .i64 n565)) ∧
                      (X.Kept L488 w549 w564) ∧
                      (X.FactsW x551 w564 (L488)) ∧
                      ∃ x566 : X.Facts, (X.FactsW x566 w564 (L488)) ∧
                      (∀ x567 : Addr × List Value, (x567 ∈ x551) →
                       x567 ∈ x566) ∧
                      if ((false || (n565 != ((k561 : Nat) : Int))) == false) = true then
                       X.onSome (q15) fun p568 =>
                       ∃ q569 : Option Addr, ∃ k570 : Nat, ∃ k571 : Nat, (((p568.add 1), [(.slice (q569) k570 k571)]) ∈ x566) ∧
                       X.CallX Try.prog 18 #[(.pointer (q441))] w564 fun e572 w573 =>
                        ∃ q574 : Option Addr, ∃ k575 : Nat, ∃ k576 : Nat, (e572 = .returned (.slice (q574) k575 k576)) ∧
                        (X.Kept L488 w564 w573) ∧
                        (X.FactsW x566 w573 (L488)) ∧
                        X.CallX Try.prog 35 #[(.slice (q574) k575 k576), (.slice (q569) k570 k571)] w573 fun e577 w578 =>
                         ∃ b579 : Bool, (e577 = .returned (.bool b579)) ∧
                         (X.Kept L488 w573 w578) ∧
                         (X.FactsW x566 w578 (L488)) ∧
                         if (false || (!b579)) = true then
                          R (.returned (.bool false)) w578
                         else
                          (x16 q441 (IntKind.wrap .i64 (n19 + 1)) w578 (L488)) ∧
                          Nat.le ((x17 q441 (IntKind.wrap .i64 (n19 + 1)) w578) + 1) (x17 q18 n19 w20)
                      else
                       R (.returned (.bool false)) w564
                    else
                     (∃ x553 : X.Facts, (X.FactsW x553 w549 (L488)) ∧
                      (∀ x554 : Addr × List Value, (x554 ∈ x551) →
                       x554 ∈ x553) ∧
                      R (.returned (.bool false)) w549) ∧
                     ∃ x555 : X.Facts, (X.FactsW x555 w549 (L488)) ∧
                     (∀ x556 : Addr × List Value, (x556 ∈ x551) →
                      x556 ∈ x555) ∧
                     ∃ x557 : X.Facts, (X.FactsW x557 w549 (L488)) ∧
                     (∀ x558 : Addr × List Value, (x558 ∈ x555) →
                      x558 ∈ x557) ∧
                     R (.returned (.bool false)) w549
                 else
                  ∃ x530 : X.Facts, (X.FactsW x530 w526 (L488)) ∧
                  (∀ x531 : Addr × List Value, (x531 ∈ x528) →
                   x531 ∈ x530) ∧
                  ∃ x532 : X.Facts, (X.FactsW x532 w526 (L488)) ∧
                  (∀ x533 : Addr × List Value, (x533 ∈ x530) →
                   x533 ∈ x532) ∧
                  (∃ x534 : X.Facts, (X.FactsW x534 w526 (L488)) ∧
                   (∀ x535 : Addr × List Value, (x535 ∈ x532) →
                    x535 ∈ x534) ∧
                   R (.returned (.bool false)) w526) ∧
                  ∃ x536 : X.Facts, (X.FactsW x536 w526 (L488)) ∧
                  (∀ x537 : Addr × List Value, (x537 ∈ x532) →
                   x537 ∈ x536) ∧
                  ∃ x538 : X.Facts, (X.FactsW x538 w526 (L488)) ∧
                  (∀ x539 : Addr × List Value, (x539 ∈ x536) →
                   x539 ∈ x538) ∧
                  R (.returned (.bool false)) w526
              else
               ∃ x495 : X.Facts, (X.FactsW x495 w490 (L488)) ∧
               (∀ x496 : Addr × List Value, (x496 ∈ x493) →
                x496 ∈ x495) ∧
               ∃ x497 : X.Facts, (X.FactsW x497 w490 (L488)) ∧
               (∀ x498 : Addr × List Value, (x498 ∈ x495) →
                x498 ∈ x497) ∧
               ∃ x499 : X.Facts, (X.FactsW x499 w490 (L488)) ∧
               (∀ x500 : Addr × List Value, (x500 ∈ x497) →
                x500 ∈ x499) ∧
               ∃ x501 : X.Facts, (X.FactsW x501 w490 (L488)) ∧
               (∀ x502 : Addr × List Value, (x502 ∈ x499) →
                x502 ∈ x501) ∧
               (∃ x503 : X.Facts, (X.FactsW x503 w490 (L488)) ∧
                (∀ x504 : Addr × List Value, (x504 ∈ x501) →
                 x504 ∈ x503) ∧
                R (.returned (.bool false)) w490) ∧
               ∃ x505 : X.Facts, (X.FactsW x505 w490 (L488)) ∧
               (∀ x506 : Addr × List Value, (x506 ∈ x501) →
                x506 ∈ x505) ∧
               ∃ x507 : X.Facts, (X.FactsW x507 w490 (L488)) ∧
               (∀ x508 : Addr × List Value, (x508 ∈ x505) →
                x508 ∈ x507) ∧
               R (.returned (.bool false)) w490
            else
             ∃ x469 : X.Facts, (X.FactsW x469 w464 (L462)) ∧
             (∀ x470 : Addr × List Value, (x470 ∈ x468) →
              x470 ∈ x469) ∧
             ∃ x471 : X.Facts, (X.FactsW x471 w464 (L462)) ∧
             (∀ x472 : Addr × List Value, (x472 ∈ x469) →
              x472 ∈ x471) ∧
             ∃ x473 : X.Facts, (X.FactsW x473 w464 (L462)) ∧
             (∀ x474 : Addr × List Value, (x474 ∈ x471) →
              x474 ∈ x473) ∧
             ∃ x475 : X.Facts, (X.FactsW x475 w464 (L462)) ∧
             (∀ x476 : Addr × List Value, (x476 ∈ x473) →
              x476 ∈ x475) ∧
             ∃ x477 : X.Facts, (X.FactsW x477 w464 (L462)) ∧
             (∀ x478 : Addr × List Value, (x478 ∈ x475) →
              x478 ∈ x477) ∧
             (∃ x479 : X.Facts, (X.FactsW x479 w464 (L462)) ∧
              (∀ x480 : Addr × List Value, (x480 ∈ x477) →
               x480 ∈ x479) ∧
              ∀ w481 : World, (X.Hid (L462) w464 w481) →
              R (.returned (.bool false)) w481) ∧
             ∃ x482 : X.Facts, (X.FactsW x482 w464 (L462)) ∧
             (∀ x483 : Addr × List Value, (x483 ∈ x477) →
              x483 ∈ x482) ∧
             ∃ x484 : X.Facts, (X.FactsW x484 w464 (L462)) ∧
             (∀ x485 : Addr × List Value, (x485 ∈ x482) →
              x485 ∈ x484) ∧
             ∀ w486 : World, (X.Hid (L462) w464 w486) →
             R (.returned (.bool false)) w486
        else
         R (.returned (.bool true)) w20
   else
    X.CallX Try.prog 9 #[] w2 fun e4 w5 =>
     ∃ b6 : Bool, (e4 = .returned (.bool b6)) ∧
     ((w2).heap.size ≤ (w5).heap.size) ∧
     R (.returned (.bool b6)) w5) :
    Calls Try.prog 6 #[.int .i64 a, .slice b bl bc] w R :=
  X.calls_of { isLoc := [8, 10, 12], sym := [], loops := [(6, .inv [(5, .ptr), (7, .int .i64)] [] true)], joins := [(2, ([(5, .ptr), (9, .bool)], []))] } Try.func6 (by kernel_rfl) h
end Go.Proofs
