import Derived.Test.YtpijekgiblcfhaaXFn
import Derived.Test.YtpijekgiblcfhaaProg
set_option maxRecDepth 100000
set_option linter.unusedVariables false
/- The verification conditions of this seat's functions, as the engine has them: printed by a program of the bench; checked by the kernel. -/
namespace Go.Proofs
open Go
abbrev fn_amo_New : Nat := 10
theorem x_amo_New (a : Int) (w : World) (R : Ending → World → Prop) (h :
  R (.returned (.pointer (some ⟨(((w.alloc (.map #[] 0)).alloc (.map #[] 0))).heap.size, 0, none⟩))) (((w.alloc (.map #[] 0)).alloc (.map #[] 0)).alloc (.cells #[(.int .u32 (IntKind.wrap .u32 (if (16 : Int) < (if (1 : Int) > a then 1 else a) then 16 else (if (1 : Int) > a then 1 else a)))), (.map (some (w).heap.size)), (.map (some ((w.alloc (.map #[] 0))).heap.size))] 87))) :
    Calls Try.prog 10 #[.int .i64 a] w R :=
  X.calls_of { isLoc := [], sym := [], loops := [], joins := [] } Try.func10 (by kernel_rfl) h
abbrev fn_amo_Table_none : Nat := 36
theorem x_amo_Table_none (a : Addr) (w : World) (R : Ending → World → Prop) (h :
  ∃ q1 : Option Nat, (World.cell? w (a.add 1) = some (.map (q1))) ∧
  R (.returned (.bool (false || (q1.isNone)))) w) :
    Calls Try.prog 36 #[.pointer (some a)] w R :=
  X.calls_of { isLoc := [], sym := [], loops := [], joins := [] } Try.func36 (by kernel_rfl) h
abbrev fn_amo_Table_old : Nat := 50
theorem x_amo_Table_old (a : Addr) (b_0 b_1 b_2 b_3 b_4 b_5 b_6 b_7 b_8 b_9 : Int) (w : World) (R : Ending → World → Prop) (h :
  ∃ x1 : X.Facts, (X.FactsW x1 w []) ∧
  if ((b_3 == 0) == true) = true then
   ∃ q3 : Option Nat, (((a.add 2), [(.map (q3))]) ∈ x1) ∧
   ∀ w4 : World, ∀ L5 : List Nat, (X.Hid [] w w4) →
   (X.NewL (w).heap.size [] w w4 L5) →
   ∃ n6 : Int, ∃ w7 : World, (Sem.run Try.prog (Go.Instr.lookup 85 (.map (q3)) (.agg #[(.int .u8 b_0), (.int .u16 b_1)]) false) w4 = .ok (.int .u32 n6) w7) ∧
   (X.Kept L5 w4 w7) ∧
   (X.FactsW x1 w7 (L5)) ∧
   R (.returned (.bool (true && decide (b_2 ≤ n6)))) w7
  else
   ∀ w2 : World, (X.Hid [] w w2) →
   R (.returned (.bool false)) w2) :
    Calls Try.prog 50 #[.pointer (some a), .agg #[.int .u8 b_0, .int .u16 b_1, .int .u32 b_2, .int .u8 b_3, .int .u8 b_4, .int .u8 b_5, .int .u8 b_6, .int .u8 b_7, .int .u8 b_8, .int .u8 b_9]] w R :=
  X.calls_of { isLoc := [3], sym := [], loops := [], joins := [] } Try.func50 (by kernel_rfl) h
abbrev fn_amo_Table_State : Nat := 31
theorem x_amo_Table_State (a : Addr) (b_0 b_1 b_2 b_3 b_4 b_5 b_6 b_7 b_8 b_9 : Int) (w : World) (R : Ending → World → Prop) (h :
  ∀ w1 : World, ∀ L2 : List Nat, (X.Hid [] w w1) →
  (X.NewL (w).heap.size [] w w1 L2) →
  X.CallX Try.prog 36 #[(.pointer (some a))] w1 fun e3 w4 =>
   ∃ b5 : Bool, (e3 = .returned (.bool b5)) ∧
   (X.Kept L2 w1 w4) ∧
   if b5 = true then
    R (.returned (.int .i64 3)) w4
   else
    ∃ x6 : X.Facts, (X.FactsW x6 w4 (L2)) ∧
    ∃ q7 : Option Nat, (((a.add 1), [(.map (q7))]) ∈ x6) ∧
    (∀ w8 : World, ∀ L9 : List Nat, (X.Hid (L2) w4 w8) →
     (X.NewL (w).heap.size (L2) w4 w8 L9) →
     ∃ n10 : Int, ∃ n11 : Int, ∃ n12 : Int, ∃ n13 : Int, ∃ n14 : Int, ∃ n15 : Int, ∃ n16 : Int, ∃ n17 : Int, ∃ n18 : Int, ∃ n19 : Int, ∃ b20 : Bool, ∃ n21 : Int, ∃ s22 : ByteArray, ∃ b23 : Bool, ∃ w24 : World, (Sem.run Try.prog (Go.Instr.lookup 84 (.map (q7)) (.agg #[(.int .u8 b_0), (.int .u16 b_1), (.int .u32 b_2), (.int .u8 b_3), (.int .u8 b_4), (.int .u8 b_5), (.int .u8 b_6), (.int .u8 b_7), (.int .u8 b_8), (.int .u8 b_9)]) true) w8 = .ok (.tuple #[(.agg #[(.int .u8 n10), (.int .u16 n11), (.int .u32 n12), (.int .u8 n13), (.int .u8 n14), (.int .u8 n15), (.int .u8 n16), (.int .u8 n17), (.int .u8 n18), (.int .u8 n19), (.bool b20), (.int .u8 n21), (.string s22)]), (.bool b23)]) w24) ∧
     (X.Kept L9 w8 w24) ∧
     (X.FactsW x6 w24 (L9)) ∧
     if (b23 && b20) = true then
      ∀ w39 : World, (X.Hid (L9) w24 w39) →
      R (.returned (.int .i64 2)) w39
     else
      if b23 = true then
       ∀ w38 : World, (X.Hid (L9) w24 w38) →
       R (.returned (.int .i64 1)) w38
      else
       ∀ w25 : World, ∀ L26 : List Nat, (X.Hid (L9) w24 w25) →
       (X.NewL (w).heap.size (L9) w24 w25 L26) →
       X.CallX Try.prog 50 #[(.pointer (some a)), (.agg #[(.int .u8 b_0), (.int .u16 b_1), (.int .u32 b_2), (.int .u8 b_3), (.int .u8 b_4), (.int .u8 b_5), (.int .u8 b_6), (.int .u8 b_7), (.int .u8 b_8), (.int .u8 b_9)])] w25 fun e27 w28 =>
        ∃ b29 : Bool, (e27 = .returned (.bool b29)) ∧
        (X.Kept L26 w25 w28) ∧
        if b29 = true then
         R (.returned (.int .i64 3)) w28
        else
         ∃ x30 : X.Facts, (X.FactsW x30 w28 (L26)) ∧
         if ((b_3 == 0) == true) = true then
          ∃ q32 : Option Nat, (((a.add 2), [(.map (q32))]) ∈ x30) ∧
          ∃ n33 : Int, (((a.add 0), [(.int .u32 n33)]) ∈ x30) ∧
          ∀ w34 : World, ∀ L35 : List Nat, (X.Hid (L26) w28 w34) →
          (X.NewL (w).heap.size (L26) w28 w34 L35) →
          ∃ n36 : Int, ∃ w37 : World, (Sem.run Try.prog (Go.Instr.lookup 85 (.map (q32)) (.agg #[(.int .u8 b_0), (.int .u16 b_1)]) false) w34 = .ok (.int .u32 n36) w37) ∧
          (X.Kept L35 w34 w37) ∧
          (X.FactsW x30 w37 (L35)) ∧
          if (true && decide ((IntKind.wrap .u32 (b_2 - n36)) > n33)) = true then
           R (.returned (.int .i64 4)) w37
          else
           R (.returned (.int .i64 0)) w37
         else
          ∀ w31 : World, (X.Hid (L26) w28 w31) →
          R (.returned (.int .i64 0)) w31) ∧
    ∀ w40 : World, ∀ L41 : List Nat, (X.Hid (L2) w4 w40) →
    (X.NewL (w).heap.size (L2) w4 w40 L41) →
    ∃ n42 : Int, ∃ n43 : Int, ∃ n44 : Int, ∃ n45 : Int, ∃ n46 : Int, ∃ n47 : Int, ∃ n48 : Int, ∃ n49 : Int, ∃ n50 : Int, ∃ n51 : Int, ∃ b52 : Bool, ∃ n53 : Int, ∃ s54 : ByteArray, ∃ b55 : Bool, ∃ w56 : World, (Sem.run Try.prog (Go.Instr.lookup 84 (.map (q7)) (.agg #[(.int .u8 b_0), (.int .u16 b_1), (.int .u32 b_2), (.int .u8 b_3), (.int .u8 b_4), (.int .u8 b_5), (.int .u8 b_6), (.int .u8 b_7), (.int .u8 b_8), (.int .u8 b_9)]) true) w40 = .ok (.tuple #[(.agg #[(.int .u8 n42), (.int .u16 n43), (.int .u32 n44), (.int .u8 n45), (.int .u8 n46), (.int .u8 n47), (.int .u8 n48), (.int .u8 n49), (.int .u8 n50), (.int .u8 n51), (.bool b52), (.int .u8 n53), (.string s54)]), (.bool b55)]) w56) ∧
    (X.Kept L41 w40 w56) ∧
    (X.FactsW x6 w56 (L41)) ∧
    if (b55 && b52) = true then
     ∀ w71 : World, (X.Hid (L41) w56 w71) →
     R (.returned (.int .i64 2)) w71
    else
     if b55 = true then
      ∀ w70 : World, (X.Hid (L41) w56 w70) →
      R (.returned (.int .i64 1)) w70
     else
      ∀ w57 : World, ∀ L58 : List Nat, (X.Hid (L41) w56 w57) →
      (X.NewL (w).heap.size (L41) w56 w57 L58) →
      X.CallX Try.prog 50 #[(.pointer (some a)), (.agg #[(.int .u8 b_0), (.int .u16 b_1), (.int .u32 b_2), (.int .u8 b_3), (.int .u8 b_4), (.int .u8 b_5), (.int .u8 b_6), (.int .u8 b_7), (.int .u8 b_8), (.int .u8 b_9)])] w57 fun e59 w60 =>
       ∃ b61 : Bool, (e59 = .returned (.bool b61)) ∧
       (X.Kept L58 w57 w60) ∧
       if b61 = true then
        R (.returned (.int .i64 3)) w60
       else
        ∃ x62 : X.Facts, (X.FactsW x62 w60 (L58)) ∧
        if ((b_3 == 0) == true) = true then
         ∃ q64 : Option Nat, (((a.add 2), [(.map (q64))]) ∈ x62) ∧
         ∃ n65 : Int, (((a.add 0), [(.int .u32 n65)]) ∈ x62) ∧
         ∀ w66 : World, ∀ L67 : List Nat, (X.Hid (L58) w60 w66) →
         (X.NewL (w).heap.size (L58) w60 w66 L67) →
         ∃ n68 : Int, ∃ w69 : World, (Sem.run Try.prog (Go.Instr.lookup 85 (.map (q64)) (.agg #[(.int .u8 b_0), (.int .u16 b_1)]) false) w66 = .ok (.int .u32 n68) w69) ∧
         (X.Kept L67 w66 w69) ∧
         (X.FactsW x62 w69 (L67)) ∧
         if (true && decide ((IntKind.wrap .u32 (b_2 - n68)) > n65)) = true then
          R (.returned (.int .i64 4)) w69
         else
          R (.returned (.int .i64 0)) w69
        else
         ∀ w63 : World, (X.Hid (L58) w60 w63) →
         R (.returned (.int .i64 0)) w63) :
    Calls Try.prog 31 #[.pointer (some a), .agg #[.int .u8 b_0, .int .u16 b_1, .int .u32 b_2, .int .u8 b_3, .int .u8 b_4, .int .u8 b_5, .int .u8 b_6, .int .u8 b_7, .int .u8 b_8, .int .u8 b_9]] w R :=
  X.calls_of { isLoc := [3, 5], sym := [], loops := [], joins := [], stored := [(3, [5])] } Try.func31 (by kernel_rfl) h
abbrev fn_amo_Table_Begin : Nat := 21
theorem x_amo_Table_Begin (a : Addr) (b_0 b_1 b_2 b_3 b_4 b_5 b_6 b_7 b_8 b_9 : Int) (w : World) (R : Ending → World → Prop) (h :
  ∀ w1 : World, ∀ L2 : List Nat, (X.Hid [] w w1) →
  (X.NewL (w).heap.size [] w w1 L2) →
  X.CallX Try.prog 36 #[(.pointer (some a))] w1 fun e3 w4 =>
   ∃ b5 : Bool, (e3 = .returned (.bool b5)) ∧
   (X.Kept L2 w1 w4) ∧
   if (b5 == false) = true then
    X.CallX Try.prog 47 #[(.agg #[(.int .u8 b_0), (.int .u16 b_1), (.int .u32 b_2), (.int .u8 b_3), (.int .u8 b_4), (.int .u8 b_5), (.int .u8 b_6), (.int .u8 b_7), (.int .u8 b_8), (.int .u8 b_9)])] w4 fun e6 w7 =>
     ∃ b8 : Bool, (e6 = .returned (.bool b8)) ∧
     (X.Kept L2 w4 w7) ∧
     if (false || (!b8)) = true then
      R (.returned (.int .i64 1)) w7
     else
      X.CallX Try.prog 31 #[(.pointer (some a)), (.agg #[(.int .u8 b_0), (.int .u16 b_1), (.int .u32 b_2), (.int .u8 b_3), (.int .u8 b_4), (.int .u8 b_5), (.int .u8 b_6), (.int .u8 b_7), (.int .u8 b_8), (.int .u8 b_9)])] w7 fun e9 w10 =>
       ∃ n11 : Int, (e9 = .returned (.int .i64 n11)) ∧
       (X.Kept L2 w7 w10) ∧
       if (n11 == 3) = true then
        R (.returned (.int .i64 16)) w10
       else
        if (n11 == 4) = true then
         R (.returned (.int .i64 10)) w10
        else
         if (n11 == 0) = true then
          ∃ x12 : X.Facts, (X.FactsW x12 w10 (L2)) ∧
          ∃ q13 : Option Nat, (((a.add 1), [(.map (q13))]) ∈ x12) ∧
          ∀ w14 : World, ∀ L15 : List Nat, (X.Hid (L2) w10 w14) →
          (X.NewL (w).heap.size (L2) w10 w14 L15) →
          ∃ w16 : World, (Sem.run Try.prog (Go.Instr.mapUpdate 84 (.map (q13)) (.agg #[(.int .u8 b_0), (.int .u16 b_1), (.int .u32 b_2), (.int .u8 b_3), (.int .u8 b_4), (.int .u8 b_5), (.int .u8 b_6), (.int .u8 b_7), (.int .u8 b_8), (.int .u8 b_9)]) (.agg #[(.int .u8 b_0), (.int .u16 b_1), (.int .u32 b_2), (.int .u8 b_3), (.int .u8 b_4), (.int .u8 b_5), (.int .u8 b_6), (.int .u8 b_7), (.int .u8 b_8), (.int .u8 b_9), (.bool false), (.int .u8 0), (.string (ByteArray.mk #[]))])) w14 = .ok (PUnit.unit) w16) ∧
          (X.Kept L15 w14 w16) ∧
          R (.returned (.int .i64 0)) w16
         else
          R (.returned (.int .i64 4)) w10
   else
    R (.returned (.int .i64 1)) w4) :
    Calls Try.prog 21 #[.pointer (some a), .agg #[.int .u8 b_0, .int .u16 b_1, .int .u32 b_2, .int .u8 b_3, .int .u8 b_4, .int .u8 b_5, .int .u8 b_6, .int .u8 b_7, .int .u8 b_8, .int .u8 b_9]] w R :=
  X.calls_of { isLoc := [3], sym := [], loops := [], joins := [] } Try.func21 (by kernel_rfl) h
abbrev fn_amo_Table_End : Nat := 23
theorem x_amo_Table_End (a : Addr) (b_0 b_1 b_2 b_3 b_4 b_5 b_6 b_7 b_8 b_9 c_0 : Int) (c_1 : ByteArray) (w : World) (R : Ending → World → Prop) (h :
  ∀ w1 : World, ∀ L2 : List Nat, (X.Hid [] w w1) →
  (X.NewL (w).heap.size [] w w1 L2) →
  X.CallX Try.prog 31 #[(.pointer (some a)), (.agg #[(.int .u8 b_0), (.int .u16 b_1), (.int .u32 b_2), (.int .u8 b_3), (.int .u8 b_4), (.int .u8 b_5), (.int .u8 b_6), (.int .u8 b_7), (.int .u8 b_8), (.int .u8 b_9)])] w1 fun e3 w4 =>
   ∃ n5 : Int, (e3 = .returned (.int .i64 n5)) ∧
   (X.Kept L2 w1 w4) ∧
   if (n5 != 1) = true then
    R (.returned (.bool false)) w4
   else
    X.CallX Try.prog 50 #[(.pointer (some a)), (.agg #[(.int .u8 b_0), (.int .u16 b_1), (.int .u32 b_2), (.int .u8 b_3), (.int .u8 b_4), (.int .u8 b_5), (.int .u8 b_6), (.int .u8 b_7), (.int .u8 b_8), (.int .u8 b_9)])] w4 fun e6 w7 =>
     ∃ b8 : Bool, (e6 = .returned (.bool b8)) ∧
     (X.Kept L2 w4 w7) ∧
     if b8 = true then
      ∃ x14 : X.Facts, (X.FactsW x14 w7 (L2)) ∧
      ∃ q15 : Option Nat, (((a.add 1), [(.map (q15))]) ∈ x14) ∧
      ∀ w16 : World, ∀ L17 : List Nat, (X.Hid (L2) w7 w16) →
      (X.NewL (w).heap.size (L2) w7 w16 L17) →
      ∃ w18 : World, (Sem.run Try.prog (Go.Builtin.delete_ #[84, 54] 0 #[(.map (q15)), (.agg #[(.int .u8 b_0), (.int .u16 b_1), (.int .u32 b_2), (.int .u8 b_3), (.int .u8 b_4), (.int .u8 b_5), (.int .u8 b_6), (.int .u8 b_7), (.int .u8 b_8), (.int .u8 b_9)])]) w16 = .ok (.tuple #[]) w18) ∧
      (X.Kept L17 w16 w18) ∧
      R (.returned (.bool true)) w18
     else
      ∃ x9 : X.Facts, (X.FactsW x9 w7 (L2)) ∧
      ∃ q10 : Option Nat, (((a.add 1), [(.map (q10))]) ∈ x9) ∧
      ∀ w11 : World, ∀ L12 : List Nat, (X.Hid (L2) w7 w11) →
      (X.NewL (w).heap.size (L2) w7 w11 L12) →
      ∃ w13 : World, (Sem.run Try.prog (Go.Instr.mapUpdate 84 (.map (q10)) (.agg #[(.int .u8 b_0), (.int .u16 b_1), (.int .u32 b_2), (.int .u8 b_3), (.int .u8 b_4), (.int .u8 b_5), (.int .u8 b_6), (.int .u8 b_7), (.int .u8 b_8), (.int .u8 b_9)]) (.agg #[(.int .u8 b_0), (.int .u16 b_1), (.int .u32 b_2), (.int .u8 b_3), (.int .u8 b_4), (.int .u8 b_5), (.int .u8 b_6), (.int .u8 b_7), (.int .u8 b_8), (.int .u8 b_9), (.bool true), (.int .u8 c_0), (.string c_1)])) w11 = .ok (PUnit.unit) w13) ∧
      (X.Kept L12 w11 w13) ∧
      R (.returned (.bool true)) w13) :
    Calls Try.prog 23 #[.pointer (some a), .agg #[.int .u8 b_0, .int .u16 b_1, .int .u32 b_2, .int .u8 b_3, .int .u8 b_4, .int .u8 b_5, .int .u8 b_6, .int .u8 b_7, .int .u8 b_8, .int .u8 b_9], .agg #[.int .u8 c_0, .string c_1]] w R :=
  X.calls_of { isLoc := [4, 5], sym := [], loops := [], joins := [] } Try.func23 (by kernel_rfl) h
abbrev fn_amo_Table_Raise : Nat := 26
theorem x_amo_Table_Raise (a : Addr) (b_0 b_1 c : Int) (w : World) (R : Ending → World → Prop) (h :
  ∃ x1 : X.Facts, (X.FactsW x1 w []) ∧
  ∀ w2 : World, ∀ L3 : List Nat, (X.Hid [] w w2) →
  (X.NewL (w).heap.size [] w w2 L3) →
  X.CallX Try.prog 36 #[(.pointer (some a))] w2 fun e4 w5 =>
   ∃ b6 : Bool, (e4 = .returned (.bool b6)) ∧
   (X.Kept L3 w2 w5) ∧
   (X.FactsW x1 w5 (L3)) ∧
   ∃ x7 : X.Facts, (X.FactsW x7 w5 (L3)) ∧
   (∀ x8 : Addr × List Value, (x8 ∈ x1) →
    x8 ∈ x7) ∧
   if (b6 == false) = true then
    X.CallX Try.prog 52 #[(.agg #[(.int .u8 b_0), (.int .u16 b_1)])] w5 fun e11 w12 =>
     ∃ b13 : Bool, (e11 = .returned (.bool b13)) ∧
     (X.Kept L3 w5 w12) ∧
     (X.FactsW x7 w12 (L3)) ∧
     ∃ x14 : X.Facts, (X.FactsW x14 w12 (L3)) ∧
     (∀ x15 : Addr × List Value, (x15 ∈ x7) →
      x15 ∈ x14) ∧
     if (((false || (!b13)) || decide (c > 1048576)) == false) = true then
      ∃ q16 : Option Nat, (((a.add 2), [(.map (q16))]) ∈ x14) ∧
      ∃ n17 : Int, ∃ w18 : World, (Sem.run Try.prog (Go.Instr.lookup 85 (.map (q16)) (.agg #[(.int .u8 b_0), (.int .u16 b_1)]) false) w12 = .ok (.int .u32 n17) w18) ∧
      (X.Kept L3 w12 w18) ∧
      (X.FactsW x14 w18 (L3)) ∧
      if (false || decide (c ≤ n17)) = true then
       R (.returned (.tuple #[])) w18
      else
       ∃ x19 : X.Facts, (X.FactsW x19 w18 (L3)) ∧
       ∃ q20 : Option Nat, (((a.add 2), [(.map (q20))]) ∈ x19) ∧
       ∀ w21 : World, ∀ L22 : List Nat, (X.Hid (L3) w18 w21) →
       (X.NewL (w).heap.size (L3) w18 w21 L22) →
       ∃ w23 : World, (Sem.run Try.prog (Go.Instr.mapUpdate 85 (.map (q20)) (.agg #[(.int .u8 b_0), (.int .u16 b_1)]) (.int .u32 c)) w21 = .ok (PUnit.unit) w23) ∧
       (X.Kept L22 w21 w23) ∧
       ∃ x24 : X.Facts, (X.FactsW x24 w23 (L22)) ∧
       ∃ q25 : Option Nat, (((a.add 1), [(.map (q25))]) ∈ x24) ∧
       ∀ w26 : World, ∀ L27 : List Nat, (X.Hid (L22) w23 w26) →
       (X.NewL (w).heap.size (L22) w23 w26 L27) →
       X.CallX Try.prog 54 #[(.pointer (some a)), (.agg #[(.int .u8 b_0), (.int .u16 b_1)])] w26 fun e28 w29 =>
        ∃ v30 : Value, (e28 = .returned (v30)) ∧
        (X.Kept L27 w26 w29) ∧
        (X.FactsW x24 w29 (L27)) ∧
        X.CallX Try.prog 53 #[(.map (q25)), (v30)] w29 fun e31 w32 =>
         (e31 = .returned (.tuple #[])) ∧
         (X.Kept L27 w29 w32) ∧
         (X.FactsW x24 w32 (L27)) ∧
         R (.returned (.tuple #[])) w32
     else
      R (.returned (.tuple #[])) w12
   else
    ∃ x9 : X.Facts, (X.FactsW x9 w5 (L3)) ∧
    (∀ x10 : Addr × List Value, (x10 ∈ x7) →
     x10 ∈ x9) ∧
    R (.returned (.tuple #[])) w5) :
    Calls Try.prog 26 #[.pointer (some a), .agg #[.int .u8 b_0, .int .u16 b_1], .int .u32 c] w R :=
  X.calls_of { isLoc := [4], sym := [], loops := [], joins := [] } Try.func26 (by kernel_rfl) h
abbrev fn_amo_Table_Res : Nat := 28
theorem x_amo_Table_Res (a : Addr) (b_0 b_1 b_2 b_3 b_4 b_5 b_6 b_7 b_8 b_9 : Int) (w : World) (R : Ending → World → Prop) (h :
  ∀ w1 : World, ∀ L2 : List Nat, (X.Hid [] w w1) →
  (X.NewL (w).heap.size [] w w1 L2) →
  X.CallX Try.prog 31 #[(.pointer (some a)), (.agg #[(.int .u8 b_0), (.int .u16 b_1), (.int .u32 b_2), (.int .u8 b_3), (.int .u8 b_4), (.int .u8 b_5), (.int .u8 b_6), (.int .u8 b_7), (.int .u8 b_8), (.int .u8 b_9)])] w1 fun e3 w4 =>
   ∃ n5 : Int, (e3 = .returned (.int .i64 n5)) ∧
   (X.Kept L2 w1 w4) ∧
   if (n5 != 2) = true then
    ∀ w25 : World, (X.Hid (L2) w4 w25) →
    R (.returned (.tuple #[(.agg #[(.int .u8 0), (.string (ByteArray.mk #[]))]), (.bool false)])) w25
   else
    ∃ x6 : X.Facts, (X.FactsW x6 w4 (L2)) ∧
    ∃ q7 : Option Nat, (((a.add 1), [(.map (q7))]) ∈ x6) ∧
    ∀ w8 : World, ∀ L9 : List Nat, (X.Hid (L2) w4 w8) →
    (X.NewL (w).heap.size (L2) w4 w8 L9) →
    ∃ n10 : Int, ∃ n11 : Int, ∃ n12 : Int, ∃ n13 : Int, ∃ n14 : Int, ∃ n15 : Int, ∃ n16 : Int, ∃ n17 : Int, ∃ n18 : Int, ∃ n19 : Int, ∃ b20 : Bool, ∃ n21 : Int, ∃ s22 : ByteArray, ∃ w23 : World, (Sem.run Try.prog (Go.Instr.lookup 84 (.map (q7)) (.agg #[(.int .u8 b_0), (.int .u16 b_1), (.int .u32 b_2), (.int .u8 b_3), (.int .u8 b_4), (.int .u8 b_5), (.int .u8 b_6), (.int .u8 b_7), (.int .u8 b_8), (.int .u8 b_9)]) false) w8 = .ok (.agg #[(.int .u8 n10), (.int .u16 n11), (.int .u32 n12), (.int .u8 n13), (.int .u8 n14), (.int .u8 n15), (.int .u8 n16), (.int .u8 n17), (.int .u8 n18), (.int .u8 n19), (.bool b20), (.int .u8 n21), (.string s22)]) w23) ∧
    (X.Kept L9 w8 w23) ∧
    (X.FactsW x6 w23 (L9)) ∧
    ∀ w24 : World, (X.Hid (L9) w23 w24) →
    R (.returned (.tuple #[(.agg #[(.int .u8 n21), (.string s22)]), (.bool true)])) w24) :
    Calls Try.prog 28 #[.pointer (some a), .agg #[.int .u8 b_0, .int .u16 b_1, .int .u32 b_2, .int .u8 b_3, .int .u8 b_4, .int .u8 b_5, .int .u8 b_6, .int .u8 b_7, .int .u8 b_8, .int .u8 b_9]] w R :=
  X.calls_of { isLoc := [3, 4], sym := [], loops := [], joins := [], stored := [(3, [4])] } Try.func28 (by kernel_rfl) h
abbrev fn_amo_Table_Len : Nat := 34
theorem x_amo_Table_Len (a : Addr) (w : World) (R : Ending → World → Prop) (h :
  X.CallX Try.prog 36 #[(.pointer (some a))] w fun e1 w2 =>
   ∃ b3 : Bool, (e1 = .returned (.bool b3)) ∧
   ((w).heap.size ≤ (w2).heap.size) ∧
   if b3 = true then
    R (.returned (.int .i64 0)) w2
   else
    ∃ q4 : Option Nat, (World.cell? w2 (a.add 1) = some (.map (q4))) ∧
    ∃ n5 : Int, ∃ w6 : World, (Sem.run Try.prog (Go.Builtin.len_ #[84] 3 #[(.map (q4))]) w2 = .ok (.int .i64 n5) w6) ∧
    ((w2).heap.size ≤ (w6).heap.size) ∧
    R (.returned (.int .i64 n5)) w6) :
    Calls Try.prog 34 #[.pointer (some a)] w R :=
  X.calls_of { isLoc := [], sym := [9], loops := [], joins := [] } Try.func34 (by kernel_rfl) h
abbrev fn_ident_ID_Right : Nat := 47
theorem x_ident_ID_Right (a_0 a_1 a_2 a_3 a_4 a_5 a_6 a_7 a_8 a_9 : Int) (w : World) (R : Ending → World → Prop) (h :
  ∀ w1 : World, ∀ L2 : List Nat, (X.Hid [] w w1) →
  (X.NewL (w).heap.size [] w w1 L2) →
  X.CallX Try.prog 52 #[(.agg #[(.int .u8 a_0), (.int .u16 a_1)])] w1 fun e3 w4 =>
   ∃ b5 : Bool, (e3 = .returned (.bool b5)) ∧
   (X.Kept L2 w1 w4) ∧
   if ((((!b5) || (a_2 == 0)) || decide (a_2 > 1048576)) || decide (a_3 > 3)) = true then
    R (.returned (.bool false)) w4
   else
    if ((decide ((0 : Int) < (IntKind.wrap .i64 a_3)) && decide (a_4 ≥ 4)) || ((!decide ((0 : Int) < (IntKind.wrap .i64 a_3))) && (!((a_4 == 0) && (a_5 == 0))))) = true then
     ∀ w9 : World, (X.Hid (L2) w4 w9) →
     R (.returned (.bool false)) w9
    else
     if ((decide ((1 : Int) < (IntKind.wrap .i64 a_3)) && decide (a_6 ≥ 4)) || ((!decide ((1 : Int) < (IntKind.wrap .i64 a_3))) && (!((a_6 == 0) && (a_7 == 0))))) = true then
      ∀ w8 : World, (X.Hid (L2) w4 w8) →
      R (.returned (.bool false)) w8
     else
      if ((decide ((2 : Int) < (IntKind.wrap .i64 a_3)) && decide (a_8 ≥ 4)) || ((!decide ((2 : Int) < (IntKind.wrap .i64 a_3))) && (!((a_8 == 0) && (a_9 == 0))))) = true then
       ∀ w7 : World, (X.Hid (L2) w4 w7) →
       R (.returned (.bool false)) w7
      else
       ∀ w6 : World, (X.Hid (L2) w4 w6) →
       R (.returned (.bool true)) w6) :
    Calls Try.prog 47 #[.agg #[.int .u8 a_0, .int .u16 a_1, .int .u32 a_2, .int .u8 a_3, .int .u8 a_4, .int .u8 a_5, .int .u8 a_6, .int .u8 a_7, .int .u8 a_8, .int .u8 a_9]] w R :=
  X.calls_of { isLoc := [1, 4], sym := [], loops := [(4, .unroll 4)], joins := [] } Try.func47 (by kernel_rfl) h
abbrev fn_ident_Proc_Right : Nat := 52
theorem x_ident_Proc_Right (a_0 a_1 : Int) (w : World) (R : Ending → World → Prop) (h :
  ∀ w1 : World, (X.Hid [] w w1) →
  R (.returned (.bool (decide (a_0 < 16) && decide (a_1 > 0)))) w1) :
    Calls Try.prog 52 #[.agg #[.int .u8 a_0, .int .u16 a_1]] w R :=
  X.calls_of { isLoc := [1], sym := [], loops := [], joins := [] } Try.func52 (by kernel_rfl) h
abbrev fn_gemotlaw14_num : Nat := 20
theorem x_gemotlaw14_num (a : Int) (w : World) (R : Ending → World → Prop) (h :
  R (.returned (.int .i64 a)) w) :
    Calls Try.prog 20 #[.int .i64 a] w R :=
  X.calls_of { isLoc := [], sym := [], loops := [], joins := [] } Try.func20 (by kernel_rfl) h
abbrev fn_gemotlaw02_ID : Nat := 17
theorem x_gemotlaw02_ID (a_0 a_1 a_2 a_3 a_4 a_5 a_6 a_7 a_8 a_9 : Int) (w : World) (R : Ending → World → Prop) (h :
  ∃ x1 : X.Facts, (X.FactsW x1 w []) ∧
  (∀ w2 : World, ∀ L3 : List Nat, (X.Hid [] w w2) →
   (X.NewL (w).heap.size [] w w2 L3) →
   X.CallX Try.prog 41 #[(.agg #[(.int .u8 a_0), (.int .u16 a_1)])] w2 fun e4 w5 =>
    ∃ n6 : Int, ∃ n7 : Int, (e4 = .returned (.agg #[(.int .u8 n6), (.int .u16 n7)])) ∧
    (X.Kept L3 w2 w5) ∧
    (X.FactsW x1 w5 (L3)) ∧
    ∃ x8 : X.Facts, (X.FactsW x8 w5 (L3)) ∧
    ∃ x9 : X.Facts, (X.FactsW x9 w5 (L3)) ∧
    ∃ x10 : X.Facts, (X.FactsW x10 w5 (L3)) ∧
    ∀ w11 : World, (X.Hid (L3) w5 w11) →
    R (.returned (.agg #[(.int .u8 n6), (.int .u16 n7), (.int .u32 a_2), (.int .u8 a_3), (.int .u8 a_4), (.int .u8 a_5), (.int .u8 a_6), (.int .u8 a_7), (.int .u8 a_8), (.int .u8 a_9)])) w11) ∧
  ∀ w12 : World, ∀ L13 : List Nat, (X.Hid [] w w12) →
  (X.NewL (w).heap.size [] w w12 L13) →
  X.CallX Try.prog 41 #[(.agg #[(.int .u8 a_0), (.int .u16 a_1)])] w12 fun e14 w15 =>
   ∃ n16 : Int, ∃ n17 : Int, (e14 = .returned (.agg #[(.int .u8 n16), (.int .u16 n17)])) ∧
   (X.Kept L13 w12 w15) ∧
   (X.FactsW x1 w15 (L13)) ∧
   ∃ x18 : X.Facts, (X.FactsW x18 w15 (L13)) ∧
   ∃ x19 : X.Facts, (X.FactsW x19 w15 (L13)) ∧
   ∃ x20 : X.Facts, (X.FactsW x20 w15 (L13)) ∧
   ∀ w21 : World, (X.Hid (L13) w15 w21) →
   R (.returned (.agg #[(.int .u8 n16), (.int .u16 n17), (.int .u32 a_2), (.int .u8 a_3), (.int .u8 a_4), (.int .u8 a_5), (.int .u8 a_6), (.int .u8 a_7), (.int .u8 a_8), (.int .u8 a_9)])) w21) :
    Calls Try.prog 17 #[.agg #[.int .u8 a_0, .int .u16 a_1, .int .u32 a_2, .int .u8 a_3, .int .u8 a_4, .int .u8 a_5, .int .u8 a_6, .int .u8 a_7, .int .u8 a_8, .int .u8 a_9]] w R :=
  X.calls_of { isLoc := [1, 2, 3], sym := [], loops := [(3, .unroll 4)], joins := [], stored := [(1, [3]), (5, [3])] } Try.func17 (by kernel_rfl) h
abbrev fn_gemotlaw02_Proc : Nat := 41
theorem x_gemotlaw02_Proc (a_0 a_1 : Int) (w : World) (R : Ending → World → Prop) (h :
  ∀ w1 : World, (X.Hid [] w w1) →
  R (.returned (.agg #[(.int .u8 a_0), (.int .u16 a_1)])) w1) :
    Calls Try.prog 41 #[.agg #[.int .u8 a_0, .int .u16 a_1]] w R :=
  X.calls_of { isLoc := [1, 2], sym := [], loops := [], joins := [] } Try.func41 (by kernel_rfl) h
abbrev fn_gemotlaw03_Res : Nat := 24
theorem x_gemotlaw03_Res (a_0 : Int) (a_1 : ByteArray) (w : World) (R : Ending → World → Prop) (h :
  ∀ w1 : World, (X.Hid [] w w1) →
  R (.returned (.agg #[(.int .u8 a_0), (.string a_1)])) w1) :
    Calls Try.prog 24 #[.agg #[.int .u8 a_0, .string a_1]] w R :=
  X.calls_of { isLoc := [1, 2], sym := [], loops := [], joins := [] } Try.func24 (by kernel_rfl) h
abbrev fn_gemotlaw14_light : Nat := 8
theorem x_gemotlaw14_light (a : Option Addr) (al ac : Nat) (w : World) (R : Ending → World → Prop) (h :
  ∃ x1 : Int → Int → World → List Nat → Prop, ∃ x2 : Int → Int → World → Nat, (x1 4000 0 w []) ∧
  ∀ n3 : Int, ∀ n4 : Int, ∀ w5 : World, ∀ L6 : List Nat, (X.LF (w).heap.size w5 L6) →
  (x1 n3 n4 w5 L6) →
  if (decide (n4 < ((al : Nat) : Int)) && decide (n4 < 200)) = true then
   ((0 : Int) ≤ n4) ∧
   (n4 < ((al : Nat) : Int)) ∧
   X.onSome (a) fun p7 =>
   ∃ s8 : ByteArray, (World.cell? w5 ⟨((p7.add (n4.toNat * 14)).block), ((((p7.add (n4.toNat * 14)).off) + 11) + 1), none⟩ = some (.string s8)) ∧
   (x1 (IntKind.wrap .i64 (n3 - (if (5000 : Int) < (((s8.size) : Nat) : Int) then 5000 else (((s8.size) : Nat) : Int)))) (IntKind.wrap .i64 (n4 + 1)) w5 []) ∧
   Nat.le ((x2 (IntKind.wrap .i64 (n3 - (if (5000 : Int) < (((s8.size) : Nat) : Int) then 5000 else (((s8.size) : Nat) : Int)))) (IntKind.wrap .i64 (n4 + 1)) w5) + 1) (x2 n3 n4 w5)
  else
   R (.returned (.bool (decide (((al : Nat) : Int) ≤ 100) && decide (n3 ≥ 0)))) w5) :
    Calls Try.prog 8 #[.slice a al ac] w R :=
  X.calls_of { isLoc := [], sym := [], loops := [(3, .inv [(3, .int .i64), (4, .int .i64)] [] true)], joins := [] } Try.func8 (by kernel_rfl) h
abbrev fn_gemotlaw14_knows : Nat := 9
theorem x_gemotlaw14_knows  (w : World) (R : Ending → World → Prop) (h :
  X.CallX Try.prog 10 #[(.int .i64 2)] w fun e1 w2 =>
   ∃ q3 : Option Addr, (e1 = .returned (.pointer (q3))) ∧
   ((w).heap.size ≤ (w2).heap.size) ∧
   ∀ w4 : World, ∀ L5 : List Nat, (X.Hid [] w2 w4) →
   (X.NewL (w).heap.size [] w2 w4 L5) →
   X.CallX Try.prog 21 #[(.pointer (q3)), (.agg #[(.int .u8 1), (.int .u16 1), (.int .u32 1), (.int .u8 0), (.int .u8 0), (.int .u8 0), (.int .u8 0), (.int .u8 0), (.int .u8 0), (.int .u8 0)])] w4 fun e6 w7 =>
    ∃ n8 : Int, (e6 = .returned (.int .i64 n8)) ∧
    (X.Kept L5 w4 w7) ∧
    X.CallX Try.prog 21 #[(.pointer (q3)), (.agg #[(.int .u8 1), (.int .u16 1), (.int .u32 1), (.int .u8 0), (.int .u8 0), (.int .u8 0), (.int .u8 0), (.int .u8 0), (.int .u8 0), (.int .u8 0)])] w7 fun e9 w10 =>
     ∃ n11 : Int, (e9 = .returned (.int .i64 n11)) ∧
     (X.Kept L5 w7 w10) ∧
     X.CallX Try.prog 23 #[(.pointer (q3)), (.agg #[(.int .u8 1), (.int .u16 1), (.int .u32 1), (.int .u8 0), (.int .u8 0), (.int .u8 0), (.int .u8 0), (.int .u8 0), (.int .u8 0), (.int .u8 0)]), (.agg #[(.int .u8 0), (.string (ByteArray.mk #[OfNat.ofNat 120]))])] w10 fun e12 w13 =>
      ∃ b14 : Bool, (e12 = .returned (.bool b14)) ∧
      (X.Kept L5 w10 w13) ∧
      X.CallX Try.prog 28 #[(.pointer (q3)), (.agg #[(.int .u8 1), (.int .u16 1), (.int .u32 1), (.int .u8 0), (.int .u8 0), (.int .u8 0), (.int .u8 0), (.int .u8 0), (.int .u8 0), (.int .u8 0)])] w13 fun e15 w16 =>
       ∃ n17 : Int, ∃ s18 : ByteArray, ∃ b19 : Bool, (e15 = .returned (.tuple #[(.agg #[(.int .u8 n17), (.string s18)]), (.bool b19)])) ∧
       (X.Kept L5 w13 w16) ∧
       ∀ w20 : World, ∀ L21 : List Nat, (X.Hid (L5) w16 w20) →
       (X.NewL (w).heap.size (L5) w16 w20 L21) →
       X.CallX Try.prog 20 #[(.int .i64 n8)] w20 fun e22 w23 =>
        ∃ n24 : Int, (e22 = .returned (.int .i64 n24)) ∧
        (X.Kept L21 w20 w23) ∧
        if ((n24 == 0) == true) = true then
         X.CallX Try.prog 20 #[(.int .i64 n11)] w23 fun e25 w26 =>
          ∃ n27 : Int, (e25 = .returned (.int .i64 n27)) ∧
          (X.Kept L21 w23 w26) ∧
          if (((((true && (n27 == 4)) && b14) && b19) && ((s18.toList) == ((ByteArray.mk #[OfNat.ofNat 120]).toList))) == true) = true then
           X.CallX Try.prog 34 #[(.pointer (q3))] w26 fun e28 w29 =>
            ∃ n30 : Int, (e28 = .returned (.int .i64 n30)) ∧
            (X.Kept L21 w26 w29) ∧
            R (.returned (.bool (true && (n30 == 1)))) w29
          else
           R (.returned (.bool false)) w26
        else
         R (.returned (.bool false)) w23) :
    Calls Try.prog 9 #[] w R :=
  X.calls_of { isLoc := [2, 6], sym := [], loops := [], joins := [] } Try.func9 (by kernel_rfl) h
abbrev fn_gemotlaw14_do : Nat := 11
theorem x_gemotlaw14_do (a : Addr) (b_0 b_1 b_2 b_3 b_4 b_5 b_6 b_7 b_8 b_9 b_10 b_11 : Int) (b_12 : ByteArray) (b_13 : Int) (w : World) (R : Ending → World → Prop) (h :
  ∀ w1 : World, ∀ L2 : List Nat, (X.Hid [] w w1) →
  (X.NewL (w).heap.size [] w w1 L2) →
  X.CallX Try.prog 17 #[(.agg #[(.int .u8 b_1), (.int .u16 b_2), (.int .u32 b_3), (.int .u8 b_4), (.int .u8 b_5), (.int .u8 b_6), (.int .u8 b_7), (.int .u8 b_8), (.int .u8 b_9), (.int .u8 b_10)])] w1 fun e3 w4 =>
   ∃ n5 : Int, ∃ n6 : Int, ∃ n7 : Int, ∃ n8 : Int, ∃ n9 : Int, ∃ n10 : Int, ∃ n11 : Int, ∃ n12 : Int, ∃ n13 : Int, ∃ n14 : Int, (e3 = .returned (.agg #[(.int .u8 n5), (.int .u16 n6), (.int .u32 n7), (.int .u8 n8), (.int .u8 n9), (.int .u8 n10), (.int .u8 n11), (.int .u8 n12), (.int .u8 n13), (.int .u8 n14)])) ∧
   (X.Kept L2 w1 w4) ∧
   if (b_0 == 0) = true then
    if (b_0 == 0) = true then
     ∀ w121 : World, ∀ L122 : List Nat, (X.Hid (L2) w4 w121) →
     (X.NewL (w).heap.size (L2) w4 w121 L122) →
     X.CallX Try.prog 21 #[(.pointer (some a)), (.agg #[(.int .u8 n5), (.int .u16 n6), (.int .u32 n7), (.int .u8 n8), (.int .u8 n9), (.int .u8 n10), (.int .u8 n11), (.int .u8 n12), (.int .u8 n13), (.int .u8 n14)])] w121 fun e123 w124 =>
      ∃ n125 : Int, (e123 = .returned (.int .i64 n125)) ∧
      (X.Kept L122 w121 w124) ∧
      X.CallX Try.prog 20 #[(.int .i64 n125)] w124 fun e126 w127 =>
       ∃ n128 : Int, (e126 = .returned (.int .i64 n128)) ∧
       (X.Kept L122 w124 w127) ∧
       R (.returned (.bool (n128 == 0))) w127
    else
     if (b_0 == 3) = true then
      if (b_0 == 3) = true then
       ∃ x111 : X.Facts, (X.FactsW x111 w4 (L2)) ∧
       ∀ w112 : World, ∀ L113 : List Nat, (X.Hid (L2) w4 w112) →
       (X.NewL (w).heap.size (L2) w4 w112 L113) →
       X.CallX Try.prog 24 #[(.agg #[(.int .u8 b_11), (.string b_12)])] w112 fun e114 w115 =>
        ∃ n116 : Int, ∃ s117 : ByteArray, (e114 = .returned (.agg #[(.int .u8 n116), (.string s117)])) ∧
        (X.Kept L113 w112 w115) ∧
        (X.FactsW x111 w115 (L113)) ∧
        X.CallX Try.prog 23 #[(.pointer (some a)), (.agg #[(.int .u8 n5), (.int .u16 n6), (.int .u32 n7), (.int .u8 n8), (.int .u8 n9), (.int .u8 n10), (.int .u8 n11), (.int .u8 n12), (.int .u8 n13), (.int .u8 n14)]), (.agg #[(.int .u8 n116), (.string s117)])] w115 fun e118 w119 =>
         ∃ b120 : Bool, (e118 = .returned (.bool b120)) ∧
         (X.Kept L113 w115 w119) ∧
         (X.FactsW x111 w119 (L113)) ∧
         R (.returned (.bool false)) w119
      else
       if (b_0 == 5) = true then
        ∀ w107 : World, ∀ L108 : List Nat, (X.Hid (L2) w4 w107) →
        (X.NewL (w).heap.size (L2) w4 w107 L108) →
        X.CallX Try.prog 26 #[(.pointer (some a)), (.agg #[(.int .u8 n5), (.int .u16 n6)]), (.int .u32 b_13)] w107 fun e109 w110 =>
         (e109 = .returned (.tuple #[])) ∧
         (X.Kept L108 w107 w110) ∧
         R (.returned (.bool false)) w110
       else
        ∀ w106 : World, (X.Hid (L2) w4 w106) →
        R (.returned (.bool false)) w106
     else
      if (b_0 == 4) = true then
       ∃ x96 : X.Facts, (X.FactsW x96 w4 (L2)) ∧
       ∀ w97 : World, ∀ L98 : List Nat, (X.Hid (L2) w4 w97) →
       (X.NewL (w).heap.size (L2) w4 w97 L98) →
       X.CallX Try.prog 24 #[(.agg #[(.int .u8 b_11), (.string b_12)])] w97 fun e99 w100 =>
        ∃ n101 : Int, ∃ s102 : ByteArray, (e99 = .returned (.agg #[(.int .u8 n101), (.string s102)])) ∧
        (X.Kept L98 w97 w100) ∧
        (X.FactsW x96 w100 (L98)) ∧
        X.CallX Try.prog 23 #[(.pointer (some a)), (.agg #[(.int .u8 n5), (.int .u16 n6), (.int .u32 n7), (.int .u8 n8), (.int .u8 n9), (.int .u8 n10), (.int .u8 n11), (.int .u8 n12), (.int .u8 n13), (.int .u8 n14)]), (.agg #[(.int .u8 n101), (.string s102)])] w100 fun e103 w104 =>
         ∃ b105 : Bool, (e103 = .returned (.bool b105)) ∧
         (X.Kept L98 w100 w104) ∧
         (X.FactsW x96 w104 (L98)) ∧
         R (.returned (.bool false)) w104
      else
       if (b_0 == 5) = true then
        ∀ w92 : World, ∀ L93 : List Nat, (X.Hid (L2) w4 w92) →
        (X.NewL (w).heap.size (L2) w4 w92 L93) →
        X.CallX Try.prog 26 #[(.pointer (some a)), (.agg #[(.int .u8 n5), (.int .u16 n6)]), (.int .u32 b_13)] w92 fun e94 w95 =>
         (e94 = .returned (.tuple #[])) ∧
         (X.Kept L93 w92 w95) ∧
         R (.returned (.bool false)) w95
       else
        ∀ w91 : World, (X.Hid (L2) w4 w91) →
        R (.returned (.bool false)) w91
   else
    if (b_0 == 1) = true then
     if (b_0 == 1) = true then
      ∀ w83 : World, ∀ L84 : List Nat, (X.Hid (L2) w4 w83) →
      (X.NewL (w).heap.size (L2) w4 w83 L84) →
      X.CallX Try.prog 21 #[(.pointer (some a)), (.agg #[(.int .u8 n5), (.int .u16 n6), (.int .u32 n7), (.int .u8 n8), (.int .u8 n9), (.int .u8 n10), (.int .u8 n11), (.int .u8 n12), (.int .u8 n13), (.int .u8 n14)])] w83 fun e85 w86 =>
       ∃ n87 : Int, (e85 = .returned (.int .i64 n87)) ∧
       (X.Kept L84 w83 w86) ∧
       X.CallX Try.prog 20 #[(.int .i64 n87)] w86 fun e88 w89 =>
        ∃ n90 : Int, (e88 = .returned (.int .i64 n90)) ∧
        (X.Kept L84 w86 w89) ∧
        R (.returned (.bool (n90 == 0))) w89
     else
      if (b_0 == 3) = true then
       if (b_0 == 3) = true then
        ∃ x73 : X.Facts, (X.FactsW x73 w4 (L2)) ∧
        ∀ w74 : World, ∀ L75 : List Nat, (X.Hid (L2) w4 w74) →
        (X.NewL (w).heap.size (L2) w4 w74 L75) →
        X.CallX Try.prog 24 #[(.agg #[(.int .u8 b_11), (.string b_12)])] w74 fun e76 w77 =>
         ∃ n78 : Int, ∃ s79 : ByteArray, (e76 = .returned (.agg #[(.int .u8 n78), (.string s79)])) ∧
         (X.Kept L75 w74 w77) ∧
         (X.FactsW x73 w77 (L75)) ∧
         X.CallX Try.prog 23 #[(.pointer (some a)), (.agg #[(.int .u8 n5), (.int .u16 n6), (.int .u32 n7), (.int .u8 n8), (.int .u8 n9), (.int .u8 n10), (.int .u8 n11), (.int .u8 n12), (.int .u8 n13), (.int .u8 n14)]), (.agg #[(.int .u8 n78), (.string s79)])] w77 fun e80 w81 =>
          ∃ b82 : Bool, (e80 = .returned (.bool b82)) ∧
          (X.Kept L75 w77 w81) ∧
          (X.FactsW x73 w81 (L75)) ∧
          R (.returned (.bool false)) w81
       else
        if (b_0 == 5) = true then
         ∀ w69 : World, ∀ L70 : List Nat, (X.Hid (L2) w4 w69) →
         (X.NewL (w).heap.size (L2) w4 w69 L70) →
         X.CallX Try.prog 26 #[(.pointer (some a)), (.agg #[(.int .u8 n5), (.int .u16 n6)]), (.int .u32 b_13)] w69 fun e71 w72 =>
          (e71 = .returned (.tuple #[])) ∧
          (X.Kept L70 w69 w72) ∧
          R (.returned (.bool false)) w72
        else
         ∀ w68 : World, (X.Hid (L2) w4 w68) →
         R (.returned (.bool false)) w68
      else
       if (b_0 == 4) = true then
        ∃ x58 : X.Facts, (X.FactsW x58 w4 (L2)) ∧
        ∀ w59 : World, ∀ L60 : List Nat, (X.Hid (L2) w4 w59) →
        (X.NewL (w).heap.size (L2) w4 w59 L60) →
        X.CallX Try.prog 24 #[(.agg #[(.int .u8 b_11), (.string b_12)])] w59 fun e61 w62 =>
         ∃ n63 : Int, ∃ s64 : ByteArray, (e61 = .returned (.agg #[(.int .u8 n63), (.string s64)])) ∧
         (X.Kept L60 w59 w62) ∧
         (X.FactsW x58 w62 (L60)) ∧
         X.CallX Try.prog 23 #[(.pointer (some a)), (.agg #[(.int .u8 n5), (.int .u16 n6), (.int .u32 n7), (.int .u8 n8), (.int .u8 n9), (.int .u8 n10), (.int .u8 n11), (.int .u8 n12), (.int .u8 n13), (.int .u8 n14)]), (.agg #[(.int .u8 n63), (.string s64)])] w62 fun e65 w66 =>
          ∃ b67 : Bool, (e65 = .returned (.bool b67)) ∧
          (X.Kept L60 w62 w66) ∧
          (X.FactsW x58 w66 (L60)) ∧
          R (.returned (.bool false)) w66
       else
        if (b_0 == 5) = true then
         ∀ w54 : World, ∀ L55 : List Nat, (X.Hid (L2) w4 w54) →
         (X.NewL (w).heap.size (L2) w4 w54 L55) →
         X.CallX Try.prog 26 #[(.pointer (some a)), (.agg #[(.int .u8 n5), (.int .u16 n6)]), (.int .u32 b_13)] w54 fun e56 w57 =>
          (e56 = .returned (.tuple #[])) ∧
          (X.Kept L55 w54 w57) ∧
          R (.returned (.bool false)) w57
        else
         ∀ w53 : World, (X.Hid (L2) w4 w53) →
         R (.returned (.bool false)) w53
    else
     if (b_0 == 2) = true then
      ∀ w45 : World, ∀ L46 : List Nat, (X.Hid (L2) w4 w45) →
      (X.NewL (w).heap.size (L2) w4 w45 L46) →
      X.CallX Try.prog 21 #[(.pointer (some a)), (.agg #[(.int .u8 n5), (.int .u16 n6), (.int .u32 n7), (.int .u8 n8), (.int .u8 n9), (.int .u8 n10), (.int .u8 n11), (.int .u8 n12), (.int .u8 n13), (.int .u8 n14)])] w45 fun e47 w48 =>
       ∃ n49 : Int, (e47 = .returned (.int .i64 n49)) ∧
       (X.Kept L46 w45 w48) ∧
       X.CallX Try.prog 20 #[(.int .i64 n49)] w48 fun e50 w51 =>
        ∃ n52 : Int, (e50 = .returned (.int .i64 n52)) ∧
        (X.Kept L46 w48 w51) ∧
        R (.returned (.bool (n52 == 0))) w51
     else
      if (b_0 == 3) = true then
       if (b_0 == 3) = true then
        ∃ x35 : X.Facts, (X.FactsW x35 w4 (L2)) ∧
        ∀ w36 : World, ∀ L37 : List Nat, (X.Hid (L2) w4 w36) →
        (X.NewL (w).heap.size (L2) w4 w36 L37) →
        X.CallX Try.prog 24 #[(.agg #[(.int .u8 b_11), (.string b_12)])] w36 fun e38 w39 =>
         ∃ n40 : Int, ∃ s41 : ByteArray, (e38 = .returned (.agg #[(.int .u8 n40), (.string s41)])) ∧
         (X.Kept L37 w36 w39) ∧
         (X.FactsW x35 w39 (L37)) ∧
         X.CallX Try.prog 23 #[(.pointer (some a)), (.agg #[(.int .u8 n5), (.int .u16 n6), (.int .u32 n7), (.int .u8 n8), (.int .u8 n9), (.int .u8 n10), (.int .u8 n11), (.int .u8 n12), (.int .u8 n13), (.int .u8 n14)]), (.agg #[(.int .u8 n40), (.string s41)])] w39 fun e42 w43 =>
          ∃ b44 : Bool, (e42 = .returned (.bool b44)) ∧
          (X.Kept L37 w39 w43) ∧
          (X.FactsW x35 w43 (L37)) ∧
          R (.returned (.bool false)) w43
       else
        if (b_0 == 5) = true then
         ∀ w31 : World, ∀ L32 : List Nat, (X.Hid (L2) w4 w31) →
         (X.NewL (w).heap.size (L2) w4 w31 L32) →
         X.CallX Try.prog 26 #[(.pointer (some a)), (.agg #[(.int .u8 n5), (.int .u16 n6)]), (.int .u32 b_13)] w31 fun e33 w34 =>
          (e33 = .returned (.tuple #[])) ∧
          (X.Kept L32 w31 w34) ∧
          R (.returned (.bool false)) w34
        else
         ∀ w30 : World, (X.Hid (L2) w4 w30) →
         R (.returned (.bool false)) w30
      else
       if (b_0 == 4) = true then
        ∃ x20 : X.Facts, (X.FactsW x20 w4 (L2)) ∧
        ∀ w21 : World, ∀ L22 : List Nat, (X.Hid (L2) w4 w21) →
        (X.NewL (w).heap.size (L2) w4 w21 L22) →
        X.CallX Try.prog 24 #[(.agg #[(.int .u8 b_11), (.string b_12)])] w21 fun e23 w24 =>
         ∃ n25 : Int, ∃ s26 : ByteArray, (e23 = .returned (.agg #[(.int .u8 n25), (.string s26)])) ∧
         (X.Kept L22 w21 w24) ∧
         (X.FactsW x20 w24 (L22)) ∧
         X.CallX Try.prog 23 #[(.pointer (some a)), (.agg #[(.int .u8 n5), (.int .u16 n6), (.int .u32 n7), (.int .u8 n8), (.int .u8 n9), (.int .u8 n10), (.int .u8 n11), (.int .u8 n12), (.int .u8 n13), (.int .u8 n14)]), (.agg #[(.int .u8 n25), (.string s26)])] w24 fun e27 w28 =>
          ∃ b29 : Bool, (e27 = .returned (.bool b29)) ∧
          (X.Kept L22 w24 w28) ∧
          (X.FactsW x20 w28 (L22)) ∧
          R (.returned (.bool false)) w28
       else
        if (b_0 == 5) = true then
         ∀ w16 : World, ∀ L17 : List Nat, (X.Hid (L2) w4 w16) →
         (X.NewL (w).heap.size (L2) w4 w16 L17) →
         X.CallX Try.prog 26 #[(.pointer (some a)), (.agg #[(.int .u8 n5), (.int .u16 n6)]), (.int .u32 b_13)] w16 fun e18 w19 =>
          (e18 = .returned (.tuple #[])) ∧
          (X.Kept L17 w16 w19) ∧
          R (.returned (.bool false)) w19
        else
         ∀ w15 : World, (X.Hid (L2) w4 w15) →
         R (.returned (.bool false)) w15) :
    Calls Try.prog 11 #[.pointer (some a), .agg #[.int .i64 b_0, .int .u8 b_1, .int .u16 b_2, .int .u32 b_3, .int .u8 b_4, .int .u8 b_5, .int .u8 b_6, .int .u8 b_7, .int .u8 b_8, .int .u8 b_9, .int .u8 b_10, .int .u8 b_11, .string b_12, .int .u32 b_13]] w R :=
  X.calls_of { isLoc := [3, 5], sym := [], loops := [], joins := [] } Try.func11 (by kernel_rfl) h
abbrev fn_gemotlaw14_AmoOnce : Nat := 3
theorem x_gemotlaw14_AmoOnce (a : Int) (b : Option Addr) (bl bc : Nat) (w : World) (R : Ending → World → Prop) (h :
  X.CallX Try.prog 8 #[(.slice (b) bl bc)] w fun e1 w2 =>
   ∃ b3 : Bool, (e1 = .returned (.bool b3)) ∧
   ((w).heap.size ≤ (w2).heap.size) ∧
   if ((!b3) == false) = true then
    X.CallX Try.prog 9 #[] w2 fun e7 w8 =>
     ∃ b9 : Bool, (e7 = .returned (.bool b9)) ∧
     ((w2).heap.size ≤ (w8).heap.size) ∧
     if (false || (!b9)) = true then
      X.CallX Try.prog 9 #[] w8 fun e83 w84 =>
       ∃ b85 : Bool, (e83 = .returned (.bool b85)) ∧
       ((w8).heap.size ≤ (w84).heap.size) ∧
       R (.returned (.bool b85)) w84
     else
      X.CallX Try.prog 10 #[(.int .i64 a)] w8 fun e10 w11 =>
       ∃ q12 : Option Addr, (e10 = .returned (.pointer (q12))) ∧
       ((w8).heap.size ≤ (w11).heap.size) ∧
       ∃ x13 : Option Addr → Nat → Nat → Int → World → List Nat → Prop, ∃ x14 : Option Addr → Nat → Nat → Int → World → Nat, (x13 (none) 0 0 0 w11 []) ∧
       ∀ q15 : Option Addr, ∀ k16 : Nat, ∀ k17 : Nat, ∀ n18 : Int, ∀ w19 : World, ∀ L20 : List Nat, (X.LF (w).heap.size w19 L20) →
       (x13 q15 k16 k17 n18 w19 L20) →
       if (decide (n18 < ((bl : Nat) : Int))) = true then
        ((0 : Int) ≤ n18) ∧
        (n18 < ((bl : Nat) : Int)) ∧
        X.onSome (b) fun p21 =>
        ∃ n22 : Int, ∃ n23 : Int, ∃ n24 : Int, ∃ n25 : Int, ∃ n26 : Int, ∃ n27 : Int, ∃ n28 : Int, ∃ n29 : Int, ∃ n30 : Int, ∃ n31 : Int, ∃ n32 : Int, ∃ n33 : Int, ∃ s34 : ByteArray, ∃ n35 : Int, (X.Cells w19 (p21.add ((n18).toNat * 14)) [(.int .i64 n22), (.int .u8 n23), (.int .u16 n24), (.int .u32 n25), (.int .u8 n26), (.int .u8 n27), (.int .u8 n28), (.int .u8 n29), (.int .u8 n30), (.int .u8 n31), (.int .u8 n32), (.int .u8 n33), (.string s34), (.int .u32 n35)]) ∧
        X.CallX Try.prog 11 #[(.pointer (q12)), (.agg #[(.int .i64 n22), (.int .u8 n23), (.int .u16 n24), (.int .u32 n25), (.int .u8 n26), (.int .u8 n27), (.int .u8 n28), (.int .u8 n29), (.int .u8 n30), (.int .u8 n31), (.int .u8 n32), (.int .u8 n33), (.string s34), (.int .u32 n35)])] w19 fun e36 w37 =>
         ∃ b38 : Bool, (e36 = .returned (.bool b38)) ∧
         ((w19).heap.size ≤ (w37).heap.size) ∧
         if (!b38) = true then
          (x13 q15 k16 k17 (IntKind.wrap .i64 (n18 + 1)) w37 []) ∧
          Nat.le ((x14 q15 k16 k17 (IntKind.wrap .i64 (n18 + 1)) w37) + 1) (x14 q15 k16 k17 n18 w19)
         else
          ∃ x39 : Int → World → List Nat → Prop, ∃ x40 : Int → World → Nat, (x39 0 w37 []) ∧
          ∀ n41 : Int, ∀ w42 : World, ∀ L43 : List Nat, (X.LF (w).heap.size w42 L43) →
          (x39 n41 w42 L43) →
          if (decide (n41 < ((k16 : Nat) : Int))) = true then
           ((0 : Int) ≤ n41) ∧
           (n41 < ((k16 : Nat) : Int)) ∧
           X.onSome (q15) fun p59 =>
           ∃ n60 : Int, ∃ n61 : Int, ∃ n62 : Int, ∃ n63 : Int, ∃ n64 : Int, ∃ n65 : Int, ∃ n66 : Int, ∃ n67 : Int, ∃ n68 : Int, ∃ n69 : Int, (X.Cells w42 (p59.add ((n41).toNat * 10)) [(.int .u8 n60), (.int .u16 n61), (.int .u32 n62), (.int .u8 n63), (.int .u8 n64), (.int .u8 n65), (.int .u8 n66), (.int .u8 n67), (.int .u8 n68), (.int .u8 n69)]) ∧
           ((0 : Int) ≤ n18) ∧
           (n18 < ((bl : Nat) : Int)) ∧
           X.onSome (b) fun p70 =>
           ∃ n71 : Int, ∃ n72 : Int, ∃ n73 : Int, ∃ n74 : Int, ∃ n75 : Int, ∃ n76 : Int, ∃ n77 : Int, ∃ n78 : Int, ∃ n79 : Int, ∃ n80 : Int, (X.Cells w42 ((p70.add ((n18).toNat * 14)).add 1) [(.int .u8 n71), (.int .u16 n72), (.int .u32 n73), (.int .u8 n74), (.int .u8 n75), (.int .u8 n76), (.int .u8 n77), (.int .u8 n78), (.int .u8 n79), (.int .u8 n80)]) ∧
           if (((n60 == n71) && (n61 == n72)) && ((n62 == n73) && ((n63 == n74) && (((n64 == n75) && (n65 == n76)) && (((n66 == n77) && (n67 == n78)) && ((n68 == n79) && (n69 == n80))))))) = true then
            ∀ w82 : World, (X.Hid [] w42 w82) →
            R (.returned (.bool false)) w82
           else
            ∀ w81 : World, (X.Hid [] w42 w81) →
            (x39 (IntKind.wrap .i64 (n41 + 1)) w81 []) ∧
            Nat.le ((x40 (IntKind.wrap .i64 (n41 + 1)) w81) + 1) (x40 n41 w42)
          else
           ((0 : Int) ≤ n18) ∧
           (n18 < ((bl : Nat) : Int)) ∧
           X.onSome (b) fun p44 =>
           ∃ n45 : Int, ∃ n46 : Int, ∃ n47 : Int, ∃ n48 : Int, ∃ n49 : Int, ∃ n50 : Int, ∃ n51 : Int, ∃ n52 : Int, ∃ n53 : Int, ∃ n54 : Int, (X.Cells w42 ((p44.add ((n18).toNat * 14)).add 1) [(.int .u8 n45), (.int .u16 n46), (.int .u32 n47), (.int .u8 n48), (.int .u8 n49), (.int .u8 n50), (.int .u8 n51), (.int .u8 n52), (.int .u8 n53), (.int .u8 n54)]) ∧
           ∃ q55 : Option Addr, ∃ k56 : Nat, ∃ k57 : Nat, ∃ w58 : World, (Sem.run Try.prog (Go.Builtin.append_ #[27, 27] 27 #[(.slice (q15) k16 k17), (.slice (some ⟨(w42).heap.size, 0, none⟩) 1 1)]) (w42.alloc (.cells #[(.int .u8 n45), (.int .u16 n46), (.int .u32 n47), (.int .u8 n48), (.int .u8 n49), (.int .u8 n50), (.int .u8 n51), (.int .u8 n52), (.int .u8 n53), (.int .u8 n54)] 37)) = .ok (.slice (q55) k56 k57) w58) ∧
           (((w42.alloc (.cells #[(.int .u8 n45), (.int .u16 n46), (.int .u32 n47), (.int .u8 n48), (.int .u8 n49), (.int .u8 n50), (.int .u8 n51), (.int .u8 n52), (.int .u8 n53), (.int .u8 n54)] 37))).heap.size ≤ (w58).heap.size) ∧
           (x13 q55 k56 k57 (IntKind.wrap .i64 (n18 + 1)) w58 []) ∧
           Nat.le ((x14 q55 k56 k57 (IntKind.wrap .i64 (n18 + 1)) w58) + 1) (x14 q15 k16 k17 n18 w19)
       else
        R (.returned (.bool true)) w19
   else
    X.CallX Try.prog 9 #[] w2 fun e4 w5 =>
     ∃ b6 : Bool, (e4 = .returned (.bool b6)) ∧
     ((w2).heap.size ≤ (w5).heap.size) ∧
     R (.returned (.bool b6)) w5) :
    Calls Try.prog 3 #[.int .i64 a, .slice b bl bc] w R :=
  X.calls_of { isLoc := [], sym := [], loops := [(6, .inv [(6, .slice), (7, .int .i64)] [] true), (10, .inv [(8, .int .i64)] [] true)], joins := [] } Try.func3 (by kernel_rfl) h
end Go.Proofs
/- The verification conditions of this seat's functions, as the engine has them: printed by a program of the bench; checked by the kernel. -/
namespace Go.Proofs
open Go
abbrev fn_DeleteFunc : Nat := 53
theorem x_DeleteFunc (a : Option Nat) (z0 z1 : Addr) (w : World) (R : Ending → World → Prop) (h :
  ∃ q1 : Option Addr, ∃ w2 : World, (Sem.run Try.prog (Go.Instr.range 84 (.map (a))) w = .ok (.pointer (q1)) w2) ∧
  ((w).heap.size ≤ (w2).heap.size) ∧
  ∃ x3 : World → List Nat → Prop, ∃ x4 : World → Nat, (x3 w2 []) ∧
  ∀ w5 : World, ∀ L6 : List Nat, (X.LF (w).heap.size w5 L6) →
  (x3 w5 L6) →
  ∃ b7 : Bool, ∃ L8 : List Value, ∃ w9 : World, (Sem.run Try.prog (Go.Instr.next (.pointer (q1)) false 0) w5 = .ok (.tuple ((Value.bool b7 :: L8).toArray)) w9) ∧
  ((w5).heap.size ≤ (w9).heap.size) ∧
  if b7 = true then
   ∃ n10 : Int, ∃ n11 : Int, ∃ n12 : Int, ∃ n13 : Int, ∃ n14 : Int, ∃ n15 : Int, ∃ n16 : Int, ∃ n17 : Int, ∃ n18 : Int, ∃ n19 : Int, ∃ n20 : Int, ∃ n21 : Int, ∃ n22 : Int, ∃ n23 : Int, ∃ n24 : Int, ∃ n25 : Int, ∃ n26 : Int, ∃ n27 : Int, ∃ n28 : Int, ∃ n29 : Int, ∃ b30 : Bool, ∃ n31 : Int, ∃ s32 : ByteArray, ∃ w33 : World, (Sem.run Try.prog (Go.Instr.entry (.pointer (q1))) w9 = .ok (.tuple #[(.agg #[(.int .u8 n10), (.int .u16 n11), (.int .u32 n12), (.int .u8 n13), (.int .u8 n14), (.int .u8 n15), (.int .u8 n16), (.int .u8 n17), (.int .u8 n18), (.int .u8 n19)]), (.agg #[(.int .u8 n20), (.int .u16 n21), (.int .u32 n22), (.int .u8 n23), (.int .u8 n24), (.int .u8 n25), (.int .u8 n26), (.int .u8 n27), (.int .u8 n28), (.int .u8 n29), (.bool b30), (.int .u8 n31), (.string s32)])]) w33) ∧
   ((w9).heap.size ≤ (w33).heap.size) ∧
   ∀ w34 : World, ∀ L35 : List Nat, (X.Hid [] w33 w34) →
   (X.NewL (w).heap.size [] w33 w34 L35) →
   X.CallX Try.prog (OfNat.ofNat 70) #[(.agg #[(.int .u8 n10), (.int .u16 n11), (.int .u32 n12), (.int .u8 n13), (.int .u8 n14), (.int .u8 n15), (.int .u8 n16), (.int .u8 n17), (.int .u8 n18), (.int .u8 n19)]), (.agg #[(.int .u8 n20), (.int .u16 n21), (.int .u32 n22), (.int .u8 n23), (.int .u8 n24), (.int .u8 n25), (.int .u8 n26), (.int .u8 n27), (.int .u8 n28), (.int .u8 n29), (.bool b30), (.int .u8 n31), (.string s32)]), (.pointer (some z0)), (.pointer (some z1))] w34 fun e36 w37 =>
    ∃ b38 : Bool, (e36 = .returned (.bool b38)) ∧
    (X.Kept L35 w34 w37) ∧
    if b38 = true then
     ∃ w39 : World, (Sem.run Try.prog (Go.Builtin.delete_ #[84, 54] 0 #[(.map (a)), (.agg #[(.int .u8 n10), (.int .u16 n11), (.int .u32 n12), (.int .u8 n13), (.int .u8 n14), (.int .u8 n15), (.int .u8 n16), (.int .u8 n17), (.int .u8 n18), (.int .u8 n19)])]) w37 = .ok (.tuple #[]) w39) ∧
     (X.Kept L35 w37 w39) ∧
     (x3 w39 (L35)) ∧
     Nat.le ((x4 w39) + 1) (x4 w5)
    else
     (x3 w37 (L35)) ∧
     Nat.le ((x4 w37) + 1) (x4 w5)
  else
   R (.returned (.tuple #[])) w9) :
    Calls Try.prog 53 #[.map a, .func (.func 70) #[] #[.pointer (some z0), .pointer (some z1)]] w R :=
  X.calls_of { isLoc := [4, 5], sym := [], loops := [(1, .inv [] [] true)], joins := [], ents := [(10, [54, 60])] } Try.func53 (by kernel_rfl) h
abbrev fn_amo_Table_past : Nat := 54
theorem x_amo_Table_past (a : Addr) (b_0 b_1 : Int) (w : World) (R : Ending → World → Prop) (h :
  R (.returned (.func (.func 70) #[] #[(.pointer (some ⟨((w.alloc (.cells #[(.pointer (some a))] 25))).heap.size, 0, none⟩)), (.pointer (some ⟨(w).heap.size, 0, none⟩))])) ((w.alloc (.cells #[(.pointer (some a))] 25)).alloc (.cells #[(.int .u8 b_0), (.int .u16 b_1)] 50))) :
    Calls Try.prog 54 #[.pointer (some a), .agg #[.int .u8 b_0, .int .u16 b_1]] w R :=
  X.calls_of { isLoc := [], sym := [], loops := [], joins := [] } Try.func54 (by kernel_rfl) h
abbrev fn_past1 : Nat := 70
theorem x_past1 (a_0 a_1 a_2 a_3 a_4 a_5 a_6 a_7 a_8 a_9 b_0 b_1 b_2 b_3 b_4 b_5 b_6 b_7 b_8 b_9 : Int) (b_10 : Bool) (b_11 : Int) (b_12 : ByteArray) (z0 z1 : Addr) (w : World) (R : Ending → World → Prop) (h :
  ∃ n1 : Int, ∃ n2 : Int, (X.Cells w z0 [(.int .u8 n1), (.int .u16 n2)]) ∧
  if ((((a_0 == n1) && (a_1 == n2)) && b_10) == true) = true then
   ∃ q4 : Option Addr, (World.cell? w z1 = some (.pointer (q4))) ∧
   ∀ w5 : World, ∀ L6 : List Nat, (X.Hid [] w w5) →
   (X.NewL (w).heap.size [] w w5 L6) →
   X.CallX Try.prog 50 #[(.pointer (q4)), (.agg #[(.int .u8 a_0), (.int .u16 a_1), (.int .u32 a_2), (.int .u8 a_3), (.int .u8 a_4), (.int .u8 a_5), (.int .u8 a_6), (.int .u8 a_7), (.int .u8 a_8), (.int .u8 a_9)])] w5 fun e7 w8 =>
    ∃ b9 : Bool, (e7 = .returned (.bool b9)) ∧
    (X.Kept L6 w5 w8) ∧
    R (.returned (.bool (true && b9))) w8
  else
   ∀ w3 : World, (X.Hid [] w w3) →
   R (.returned (.bool false)) w3) :
    Calls Try.prog 70 #[.agg #[.int .u8 a_0, .int .u16 a_1, .int .u32 a_2, .int .u8 a_3, .int .u8 a_4, .int .u8 a_5, .int .u8 a_6, .int .u8 a_7, .int .u8 a_8, .int .u8 a_9], .agg #[.int .u8 b_0, .int .u16 b_1, .int .u32 b_2, .int .u8 b_3, .int .u8 b_4, .int .u8 b_5, .int .u8 b_6, .int .u8 b_7, .int .u8 b_8, .int .u8 b_9, .bool b_10, .int .u8 b_11, .string b_12], .pointer (some z0), .pointer (some z1)] w R :=
  X.calls_of { isLoc := [4, 5], sym := [], loops := [], joins := [] } Try.func70 (by kernel_rfl) h
end Go.Proofs
/- The verification conditions of this seat's functions, as the engine has them: printed by a program of the bench; checked by the kernel. -/
namespace Go.Proofs
open Go
abbrev fn_gemotref02_number : Nat := 86
theorem x_gemotref02_number (a b : Int) (w : World) (R : Ending → World → Prop) (h :
  if (decide (a < b)) = true then
   R (.returned (.int .i64 (-1))) w
  else
   if (decide (a > b)) = true then
    R (.returned (.int .i64 1)) w
   else
    R (.returned (.int .i64 0)) w) :
    Calls Try.prog 86 #[.int .i64 a, .int .i64 b] w R :=
  X.calls_of { isLoc := [], sym := [], loops := [], joins := [] } Try.func86 (by kernel_rfl) h
abbrev fn_gemotref02_CompareProcs : Nat := 85
theorem x_gemotref02_CompareProcs (a_0 a_1 b_0 b_1 : Int) (w : World) (R : Ending → World → Prop) (h :
  if (a_0 != b_0) = true then
   ∀ w6 : World, ∀ L7 : List Nat, (X.Hid [] w w6) →
   (X.NewL (w).heap.size [] w w6 L7) →
   X.CallX Try.prog 86 #[(.int .i64 (IntKind.wrap .i64 a_0)), (.int .i64 (IntKind.wrap .i64 b_0))] w6 fun e8 w9 =>
    ∃ n10 : Int, (e8 = .returned (.int .i64 n10)) ∧
    (X.Kept L7 w6 w9) ∧
    R (.returned (.int .i64 n10)) w9
  else
   ∀ w1 : World, ∀ L2 : List Nat, (X.Hid [] w w1) →
   (X.NewL (w).heap.size [] w w1 L2) →
   X.CallX Try.prog 86 #[(.int .i64 (IntKind.wrap .i64 a_1)), (.int .i64 (IntKind.wrap .i64 b_1))] w1 fun e3 w4 =>
    ∃ n5 : Int, (e3 = .returned (.int .i64 n5)) ∧
    (X.Kept L2 w1 w4) ∧
    R (.returned (.int .i64 n5)) w4) :
    Calls Try.prog 85 #[.agg #[.int .u8 a_0, .int .u16 a_1], .agg #[.int .u8 b_0, .int .u16 b_1]] w R :=
  X.calls_of { isLoc := [2, 3], sym := [], loops := [], joins := [] } Try.func85 (by kernel_rfl) h
abbrev fn_gemotref02_Compare : Nat := 69
theorem x_gemotref02_Compare (a_0 a_1 a_2 a_3 a_4 a_5 a_6 a_7 a_8 a_9 b_0 b_1 b_2 b_3 b_4 b_5 b_6 b_7 b_8 b_9 : Int) (w : World) (R : Ending → World → Prop) (h :
  ∀ w1 : World, ∀ L2 : List Nat, (X.Hid [] w w1) →
  (X.NewL (w).heap.size [] w w1 L2) →
  X.CallX Try.prog 85 #[(.agg #[(.int .u8 a_0), (.int .u16 a_1)]), (.agg #[(.int .u8 b_0), (.int .u16 b_1)])] w1 fun e3 w4 =>
   ∃ n5 : Int, (e3 = .returned (.int .i64 n5)) ∧
   (X.Kept L2 w1 w4) ∧
   if (n5 != 0) = true then
    R (.returned (.int .i64 n5)) w4
   else
    if (a_2 != b_2) = true then
     X.CallX Try.prog 86 #[(.int .i64 (IntKind.wrap .i64 a_2)), (.int .i64 (IntKind.wrap .i64 b_2))] w4 fun e208 w209 =>
      ∃ n210 : Int, (e208 = .returned (.int .i64 n210)) ∧
      (X.Kept L2 w4 w209) ∧
      R (.returned (.int .i64 n210)) w209
    else
     if ((true && decide ((0 : Int) < (IntKind.wrap .i64 a_3))) && decide ((0 : Int) < (IntKind.wrap .i64 b_3))) = true then
      if (a_4 != b_4) = true then
       ∃ x202 : X.Facts, (X.FactsW x202 w4 (L2)) ∧
       ∀ w203 : World, ∀ L204 : List Nat, (X.Hid (L2) w4 w203) →
       (X.NewL (w).heap.size (L2) w4 w203 L204) →
       X.CallX Try.prog 86 #[(.int .i64 (IntKind.wrap .i64 a_4)), (.int .i64 (IntKind.wrap .i64 b_4))] w203 fun e205 w206 =>
        ∃ n207 : Int, (e205 = .returned (.int .i64 n207)) ∧
        (X.Kept L204 w203 w206) ∧
        (X.FactsW x202 w206 (L204)) ∧
        R (.returned (.int .i64 n207)) w206
      else
       if (a_5 != b_5) = true then
        ∃ x196 : X.Facts, (X.FactsW x196 w4 (L2)) ∧
        ∀ w197 : World, ∀ L198 : List Nat, (X.Hid (L2) w4 w197) →
        (X.NewL (w).heap.size (L2) w4 w197 L198) →
        X.CallX Try.prog 86 #[(.int .i64 (IntKind.wrap .i64 a_5)), (.int .i64 (IntKind.wrap .i64 b_5))] w197 fun e199 w200 =>
         ∃ n201 : Int, (e199 = .returned (.int .i64 n201)) ∧
         (X.Kept L198 w197 w200) ∧
         (X.FactsW x196 w200 (L198)) ∧
         R (.returned (.int .i64 n201)) w200
       else
        if ((true && decide ((1 : Int) < (IntKind.wrap .i64 a_3))) && decide ((1 : Int) < (IntKind.wrap .i64 b_3))) = true then
         if (a_6 != b_6) = true then
          ∃ x190 : X.Facts, (X.FactsW x190 w4 (L2)) ∧
          ∀ w191 : World, ∀ L192 : List Nat, (X.Hid (L2) w4 w191) →
          (X.NewL (w).heap.size (L2) w4 w191 L192) →
          X.CallX Try.prog 86 #[(.int .i64 (IntKind.wrap .i64 a_6)), (.int .i64 (IntKind.wrap .i64 b_6))] w191 fun e193 w194 =>
           ∃ n195 : Int, (e193 = .returned (.int .i64 n195)) ∧
           (X.Kept L192 w191 w194) ∧
           (X.FactsW x190 w194 (L192)) ∧
           R (.returned (.int .i64 n195)) w194
         else
          if (a_7 != b_7) = true then
           ∃ x184 : X.Facts, (X.FactsW x184 w4 (L2)) ∧
           ∀ w185 : World, ∀ L186 : List Nat, (X.Hid (L2) w4 w185) →
           (X.NewL (w).heap.size (L2) w4 w185 L186) →
           X.CallX Try.prog 86 #[(.int .i64 (IntKind.wrap .i64 a_7)), (.int .i64 (IntKind.wrap .i64 b_7))] w185 fun e187 w188 =>
            ∃ n189 : Int, (e187 = .returned (.int .i64 n189)) ∧
            (X.Kept L186 w185 w188) ∧
            (X.FactsW x184 w188 (L186)) ∧
            R (.returned (.int .i64 n189)) w188
          else
           if ((true && decide ((2 : Int) < (IntKind.wrap .i64 a_3))) && decide ((2 : Int) < (IntKind.wrap .i64 b_3))) = true then
            if (a_8 != b_8) = true then
             ∃ x178 : X.Facts, (X.FactsW x178 w4 (L2)) ∧
             ∀ w179 : World, ∀ L180 : List Nat, (X.Hid (L2) w4 w179) →
             (X.NewL (w).heap.size (L2) w4 w179 L180) →
             X.CallX Try.prog 86 #[(.int .i64 (IntKind.wrap .i64 a_8)), (.int .i64 (IntKind.wrap .i64 b_8))] w179 fun e181 w182 =>
              ∃ n183 : Int, (e181 = .returned (.int .i64 n183)) ∧
              (X.Kept L180 w179 w182) ∧
              (X.FactsW x178 w182 (L180)) ∧
              R (.returned (.int .i64 n183)) w182
            else
             if (a_9 != b_9) = true then
              ∃ x172 : X.Facts, (X.FactsW x172 w4 (L2)) ∧
              ∀ w173 : World, ∀ L174 : List Nat, (X.Hid (L2) w4 w173) →
              (X.NewL (w).heap.size (L2) w4 w173 L174) →
              X.CallX Try.prog 86 #[(.int .i64 (IntKind.wrap .i64 a_9)), (.int .i64 (IntKind.wrap .i64 b_9))] w173 fun e175 w176 =>
               ∃ n177 : Int, (e175 = .returned (.int .i64 n177)) ∧
               (X.Kept L174 w173 w176) ∧
               (X.FactsW x172 w176 (L174)) ∧
               R (.returned (.int .i64 n177)) w176
             else
              if (a_3 != b_3) = true then
               ∀ w167 : World, ∀ L168 : List Nat, (X.Hid (L2) w4 w167) →
               (X.NewL (w).heap.size (L2) w4 w167 L168) →
               X.CallX Try.prog 86 #[(.int .i64 (IntKind.wrap .i64 a_3)), (.int .i64 (IntKind.wrap .i64 b_3))] w167 fun e169 w170 =>
                ∃ n171 : Int, (e169 = .returned (.int .i64 n171)) ∧
                (X.Kept L168 w167 w170) ∧
                R (.returned (.int .i64 n171)) w170
              else
               if (a_4 != b_4) = true then
                ∃ x161 : X.Facts, (X.FactsW x161 w4 (L2)) ∧
                ∀ w162 : World, ∀ L163 : List Nat, (X.Hid (L2) w4 w162) →
                (X.NewL (w).heap.size (L2) w4 w162 L163) →
                X.CallX Try.prog 86 #[(.int .i64 (IntKind.wrap .i64 a_4)), (.int .i64 (IntKind.wrap .i64 b_4))] w162 fun e164 w165 =>
                 ∃ n166 : Int, (e164 = .returned (.int .i64 n166)) ∧
                 (X.Kept L163 w162 w165) ∧
                 (X.FactsW x161 w165 (L163)) ∧
                 R (.returned (.int .i64 n166)) w165
               else
                if (a_5 != b_5) = true then
                 ∃ x155 : X.Facts, (X.FactsW x155 w4 (L2)) ∧
                 ∀ w156 : World, ∀ L157 : List Nat, (X.Hid (L2) w4 w156) →
                 (X.NewL (w).heap.size (L2) w4 w156 L157) →
                 X.CallX Try.prog 86 #[(.int .i64 (IntKind.wrap .i64 a_5)), (.int .i64 (IntKind.wrap .i64 b_5))] w156 fun e158 w159 =>
                  ∃ n160 : Int, (e158 = .returned (.int .i64 n160)) ∧
                  (X.Kept L157 w156 w159) ∧
                  (X.FactsW x155 w159 (L157)) ∧
                  R (.returned (.int .i64 n160)) w159
                else
                 if (a_6 != b_6) = true then
                  ∃ x149 : X.Facts, (X.FactsW x149 w4 (L2)) ∧
                  ∀ w150 : World, ∀ L151 : List Nat, (X.Hid (L2) w4 w150) →
                  (X.NewL (w).heap.size (L2) w4 w150 L151) →
                  X.CallX Try.prog 86 #[(.int .i64 (IntKind.wrap .i64 a_6)), (.int .i64 (IntKind.wrap .i64 b_6))] w150 fun e152 w153 =>
                   ∃ n154 : Int, (e152 = .returned (.int .i64 n154)) ∧
                   (X.Kept L151 w150 w153) ∧
                   (X.FactsW x149 w153 (L151)) ∧
                   R (.returned (.int .i64 n154)) w153
                 else
                  if (a_7 != b_7) = true then
                   ∃ x143 : X.Facts, (X.FactsW x143 w4 (L2)) ∧
                   ∀ w144 : World, ∀ L145 : List Nat, (X.Hid (L2) w4 w144) →
                   (X.NewL (w).heap.size (L2) w4 w144 L145) →
                   X.CallX Try.prog 86 #[(.int .i64 (IntKind.wrap .i64 a_7)), (.int .i64 (IntKind.wrap .i64 b_7))] w144 fun e146 w147 =>
                    ∃ n148 : Int, (e146 = .returned (.int .i64 n148)) ∧
                    (X.Kept L145 w144 w147) ∧
                    (X.FactsW x143 w147 (L145)) ∧
                    R (.returned (.int .i64 n148)) w147
                  else
                   if (a_8 != b_8) = true then
                    ∃ x137 : X.Facts, (X.FactsW x137 w4 (L2)) ∧
                    ∀ w138 : World, ∀ L139 : List Nat, (X.Hid (L2) w4 w138) →
                    (X.NewL (w).heap.size (L2) w4 w138 L139) →
                    X.CallX Try.prog 86 #[(.int .i64 (IntKind.wrap .i64 a_8)), (.int .i64 (IntKind.wrap .i64 b_8))] w138 fun e140 w141 =>
                     ∃ n142 : Int, (e140 = .returned (.int .i64 n142)) ∧
                     (X.Kept L139 w138 w141) ∧
                     (X.FactsW x137 w141 (L139)) ∧
                     R (.returned (.int .i64 n142)) w141
                   else
                    if (a_9 != b_9) = true then
                     ∃ x131 : X.Facts, (X.FactsW x131 w4 (L2)) ∧
                     ∀ w132 : World, ∀ L133 : List Nat, (X.Hid (L2) w4 w132) →
                     (X.NewL (w).heap.size (L2) w4 w132 L133) →
                     X.CallX Try.prog 86 #[(.int .i64 (IntKind.wrap .i64 a_9)), (.int .i64 (IntKind.wrap .i64 b_9))] w132 fun e134 w135 =>
                      ∃ n136 : Int, (e134 = .returned (.int .i64 n136)) ∧
                      (X.Kept L133 w132 w135) ∧
                      (X.FactsW x131 w135 (L133)) ∧
                      R (.returned (.int .i64 n136)) w135
                    else
                     ∀ w130 : World, (X.Hid (L2) w4 w130) →
                     R (.returned (.int .i64 0)) w130
           else
            if (a_3 != b_3) = true then
             ∀ w125 : World, ∀ L126 : List Nat, (X.Hid (L2) w4 w125) →
             (X.NewL (w).heap.size (L2) w4 w125 L126) →
             X.CallX Try.prog 86 #[(.int .i64 (IntKind.wrap .i64 a_3)), (.int .i64 (IntKind.wrap .i64 b_3))] w125 fun e127 w128 =>
              ∃ n129 : Int, (e127 = .returned (.int .i64 n129)) ∧
              (X.Kept L126 w125 w128) ∧
              R (.returned (.int .i64 n129)) w128
            else
             if (a_4 != b_4) = true then
              ∃ x119 : X.Facts, (X.FactsW x119 w4 (L2)) ∧
              ∀ w120 : World, ∀ L121 : List Nat, (X.Hid (L2) w4 w120) →
              (X.NewL (w).heap.size (L2) w4 w120 L121) →
              X.CallX Try.prog 86 #[(.int .i64 (IntKind.wrap .i64 a_4)), (.int .i64 (IntKind.wrap .i64 b_4))] w120 fun e122 w123 =>
               ∃ n124 : Int, (e122 = .returned (.int .i64 n124)) ∧
               (X.Kept L121 w120 w123) ∧
               (X.FactsW x119 w123 (L121)) ∧
               R (.returned (.int .i64 n124)) w123
             else
              if (a_5 != b_5) = true then
               ∃ x113 : X.Facts, (X.FactsW x113 w4 (L2)) ∧
               ∀ w114 : World, ∀ L115 : List Nat, (X.Hid (L2) w4 w114) →
               (X.NewL (w).heap.size (L2) w4 w114 L115) →
               X.CallX Try.prog 86 #[(.int .i64 (IntKind.wrap .i64 a_5)), (.int .i64 (IntKind.wrap .i64 b_5))] w114 fun e116 w117 =>
                ∃ n118 : Int, (e116 = .returned (.int .i64 n118)) ∧
                (X.Kept L115 w114 w117) ∧
                (X.FactsW x113 w117 (L115)) ∧
                R (.returned (.int .i64 n118)) w117
              else
               if (a_6 != b_6) = true then
                ∃ x107 : X.Facts, (X.FactsW x107 w4 (L2)) ∧
                ∀ w108 : World, ∀ L109 : List Nat, (X.Hid (L2) w4 w108) →
                (X.NewL (w).heap.size (L2) w4 w108 L109) →
                X.CallX Try.prog 86 #[(.int .i64 (IntKind.wrap .i64 a_6)), (.int .i64 (IntKind.wrap .i64 b_6))] w108 fun e110 w111 =>
                 ∃ n112 : Int, (e110 = .returned (.int .i64 n112)) ∧
                 (X.Kept L109 w108 w111) ∧
                 (X.FactsW x107 w111 (L109)) ∧
                 R (.returned (.int .i64 n112)) w111
               else
                if (a_7 != b_7) = true then
                 ∃ x101 : X.Facts, (X.FactsW x101 w4 (L2)) ∧
                 ∀ w102 : World, ∀ L103 : List Nat, (X.Hid (L2) w4 w102) →
                 (X.NewL (w).heap.size (L2) w4 w102 L103) →
                 X.CallX Try.prog 86 #[(.int .i64 (IntKind.wrap .i64 a_7)), (.int .i64 (IntKind.wrap .i64 b_7))] w102 fun e104 w105 =>
                  ∃ n106 : Int, (e104 = .returned (.int .i64 n106)) ∧
                  (X.Kept L103 w102 w105) ∧
                  (X.FactsW x101 w105 (L103)) ∧
                  R (.returned (.int .i64 n106)) w105
                else
                 if (a_8 != b_8) = true then
                  ∃ x95 : X.Facts, (X.FactsW x95 w4 (L2)) ∧
                  ∀ w96 : World, ∀ L97 : List Nat, (X.Hid (L2) w4 w96) →
                  (X.NewL (w).heap.size (L2) w4 w96 L97) →
                  X.CallX Try.prog 86 #[(.int .i64 (IntKind.wrap .i64 a_8)), (.int .i64 (IntKind.wrap .i64 b_8))] w96 fun e98 w99 =>
                   ∃ n100 : Int, (e98 = .returned (.int .i64 n100)) ∧
                   (X.Kept L97 w96 w99) ∧
                   (X.FactsW x95 w99 (L97)) ∧
                   R (.returned (.int .i64 n100)) w99
                 else
                  if (a_9 != b_9) = true then
                   ∃ x89 : X.Facts, (X.FactsW x89 w4 (L2)) ∧
                   ∀ w90 : World, ∀ L91 : List Nat, (X.Hid (L2) w4 w90) →
                   (X.NewL (w).heap.size (L2) w4 w90 L91) →
                   X.CallX Try.prog 86 #[(.int .i64 (IntKind.wrap .i64 a_9)), (.int .i64 (IntKind.wrap .i64 b_9))] w90 fun e92 w93 =>
                    ∃ n94 : Int, (e92 = .returned (.int .i64 n94)) ∧
                    (X.Kept L91 w90 w93) ∧
                    (X.FactsW x89 w93 (L91)) ∧
                    R (.returned (.int .i64 n94)) w93
                  else
                   ∀ w88 : World, (X.Hid (L2) w4 w88) →
                   R (.returned (.int .i64 0)) w88
        else
         if (a_3 != b_3) = true then
          ∀ w83 : World, ∀ L84 : List Nat, (X.Hid (L2) w4 w83) →
          (X.NewL (w).heap.size (L2) w4 w83 L84) →
          X.CallX Try.prog 86 #[(.int .i64 (IntKind.wrap .i64 a_3)), (.int .i64 (IntKind.wrap .i64 b_3))] w83 fun e85 w86 =>
           ∃ n87 : Int, (e85 = .returned (.int .i64 n87)) ∧
           (X.Kept L84 w83 w86) ∧
           R (.returned (.int .i64 n87)) w86
         else
          if (a_4 != b_4) = true then
           ∃ x77 : X.Facts, (X.FactsW x77 w4 (L2)) ∧
           ∀ w78 : World, ∀ L79 : List Nat, (X.Hid (L2) w4 w78) →
           (X.NewL (w).heap.size (L2) w4 w78 L79) →
           X.CallX Try.prog 86 #[(.int .i64 (IntKind.wrap .i64 a_4)), (.int .i64 (IntKind.wrap .i64 b_4))] w78 fun e80 w81 =>
            ∃ n82 : Int, (e80 = .returned (.int .i64 n82)) ∧
            (X.Kept L79 w78 w81) ∧
            (X.FactsW x77 w81 (L79)) ∧
            R (.returned (.int .i64 n82)) w81
          else
           if (a_5 != b_5) = true then
            ∃ x71 : X.Facts, (X.FactsW x71 w4 (L2)) ∧
            ∀ w72 : World, ∀ L73 : List Nat, (X.Hid (L2) w4 w72) →
            (X.NewL (w).heap.size (L2) w4 w72 L73) →
            X.CallX Try.prog 86 #[(.int .i64 (IntKind.wrap .i64 a_5)), (.int .i64 (IntKind.wrap .i64 b_5))] w72 fun e74 w75 =>
             ∃ n76 : Int, (e74 = .returned (.int .i64 n76)) ∧
             (X.Kept L73 w72 w75) ∧
             (X.FactsW x71 w75 (L73)) ∧
             R (.returned (.int .i64 n76)) w75
           else
            if (a_6 != b_6) = true then
             ∃ x65 : X.Facts, (X.FactsW x65 w4 (L2)) ∧
             ∀ w66 : World, ∀ L67 : List Nat, (X.Hid (L2) w4 w66) →
             (X.NewL (w).heap.size (L2) w4 w66 L67) →
             X.CallX Try.prog 86 #[(.int .i64 (IntKind.wrap .i64 a_6)), (.int .i64 (IntKind.wrap .i64 b_6))] w66 fun e68 w69 =>
              ∃ n70 : Int, (e68 = .returned (.int .i64 n70)) ∧
              (X.Kept L67 w66 w69) ∧
              (X.FactsW x65 w69 (L67)) ∧
              R (.returned (.int .i64 n70)) w69
            else
             if (a_7 != b_7) = true then
              ∃ x59 : X.Facts, (X.FactsW x59 w4 (L2)) ∧
              ∀ w60 : World, ∀ L61 : List Nat, (X.Hid (L2) w4 w60) →
              (X.NewL (w).heap.size (L2) w4 w60 L61) →
              X.CallX Try.prog 86 #[(.int .i64 (IntKind.wrap .i64 a_7)), (.int .i64 (IntKind.wrap .i64 b_7))] w60 fun e62 w63 =>
               ∃ n64 : Int, (e62 = .returned (.int .i64 n64)) ∧
               (X.Kept L61 w60 w63) ∧
               (X.FactsW x59 w63 (L61)) ∧
               R (.returned (.int .i64 n64)) w63
             else
              if (a_8 != b_8) = true then
               ∃ x53 : X.Facts, (X.FactsW x53 w4 (L2)) ∧
               ∀ w54 : World, ∀ L55 : List Nat, (X.Hid (L2) w4 w54) →
               (X.NewL (w).heap.size (L2) w4 w54 L55) →
               X.CallX Try.prog 86 #[(.int .i64 (IntKind.wrap .i64 a_8)), (.int .i64 (IntKind.wrap .i64 b_8))] w54 fun e56 w57 =>
                ∃ n58 : Int, (e56 = .returned (.int .i64 n58)) ∧
                (X.Kept L55 w54 w57) ∧
                (X.FactsW x53 w57 (L55)) ∧
                R (.returned (.int .i64 n58)) w57
              else
               if (a_9 != b_9) = true then
                ∃ x47 : X.Facts, (X.FactsW x47 w4 (L2)) ∧
                ∀ w48 : World, ∀ L49 : List Nat, (X.Hid (L2) w4 w48) →
                (X.NewL (w).heap.size (L2) w4 w48 L49) →
                X.CallX Try.prog 86 #[(.int .i64 (IntKind.wrap .i64 a_9)), (.int .i64 (IntKind.wrap .i64 b_9))] w48 fun e50 w51 =>
                 ∃ n52 : Int, (e50 = .returned (.int .i64 n52)) ∧
                 (X.Kept L49 w48 w51) ∧
                 (X.FactsW x47 w51 (L49)) ∧
                 R (.returned (.int .i64 n52)) w51
               else
                ∀ w46 : World, (X.Hid (L2) w4 w46) →
                R (.returned (.int .i64 0)) w46
     else
      if (a_3 != b_3) = true then
       X.CallX Try.prog 86 #[(.int .i64 (IntKind.wrap .i64 a_3)), (.int .i64 (IntKind.wrap .i64 b_3))] w4 fun e43 w44 =>
        ∃ n45 : Int, (e43 = .returned (.int .i64 n45)) ∧
        (X.Kept L2 w4 w44) ∧
        R (.returned (.int .i64 n45)) w44
      else
       if (a_4 != b_4) = true then
        ∃ x37 : X.Facts, (X.FactsW x37 w4 (L2)) ∧
        ∀ w38 : World, ∀ L39 : List Nat, (X.Hid (L2) w4 w38) →
        (X.NewL (w).heap.size (L2) w4 w38 L39) →
        X.CallX Try.prog 86 #[(.int .i64 (IntKind.wrap .i64 a_4)), (.int .i64 (IntKind.wrap .i64 b_4))] w38 fun e40 w41 =>
         ∃ n42 : Int, (e40 = .returned (.int .i64 n42)) ∧
         (X.Kept L39 w38 w41) ∧
         (X.FactsW x37 w41 (L39)) ∧
         R (.returned (.int .i64 n42)) w41
       else
        if (a_5 != b_5) = true then
         ∃ x31 : X.Facts, (X.FactsW x31 w4 (L2)) ∧
         ∀ w32 : World, ∀ L33 : List Nat, (X.Hid (L2) w4 w32) →
         (X.NewL (w).heap.size (L2) w4 w32 L33) →
         X.CallX Try.prog 86 #[(.int .i64 (IntKind.wrap .i64 a_5)), (.int .i64 (IntKind.wrap .i64 b_5))] w32 fun e34 w35 =>
          ∃ n36 : Int, (e34 = .returned (.int .i64 n36)) ∧
          (X.Kept L33 w32 w35) ∧
          (X.FactsW x31 w35 (L33)) ∧
          R (.returned (.int .i64 n36)) w35
        else
         if (a_6 != b_6) = true then
          ∃ x25 : X.Facts, (X.FactsW x25 w4 (L2)) ∧
          ∀ w26 : World, ∀ L27 : List Nat, (X.Hid (L2) w4 w26) →
          (X.NewL (w).heap.size (L2) w4 w26 L27) →
          X.CallX Try.prog 86 #[(.int .i64 (IntKind.wrap .i64 a_6)), (.int .i64 (IntKind.wrap .i64 b_6))] w26 fun e28 w29 =>
           ∃ n30 : Int, (e28 = .returned (.int .i64 n30)) ∧
           (X.Kept L27 w26 w29) ∧
           (X.FactsW x25 w29 (L27)) ∧
           R (.returned (.int .i64 n30)) w29
         else
          if (a_7 != b_7) = true then
           ∃ x19 : X.Facts, (X.FactsW x19 w4 (L2)) ∧
           ∀ w20 : World, ∀ L21 : List Nat, (X.Hid (L2) w4 w20) →
           (X.NewL (w).heap.size (L2) w4 w20 L21) →
           X.CallX Try.prog 86 #[(.int .i64 (IntKind.wrap .i64 a_7)), (.int .i64 (IntKind.wrap .i64 b_7))] w20 fun e22 w23 =>
            ∃ n24 : Int, (e22 = .returned (.int .i64 n24)) ∧
            (X.Kept L21 w20 w23) ∧
            (X.FactsW x19 w23 (L21)) ∧
            R (.returned (.int .i64 n24)) w23
          else
           if (a_8 != b_8) = true then
            ∃ x13 : X.Facts, (X.FactsW x13 w4 (L2)) ∧
            ∀ w14 : World, ∀ L15 : List Nat, (X.Hid (L2) w4 w14) →
            (X.NewL (w).heap.size (L2) w4 w14 L15) →
            X.CallX Try.prog 86 #[(.int .i64 (IntKind.wrap .i64 a_8)), (.int .i64 (IntKind.wrap .i64 b_8))] w14 fun e16 w17 =>
             ∃ n18 : Int, (e16 = .returned (.int .i64 n18)) ∧
             (X.Kept L15 w14 w17) ∧
             (X.FactsW x13 w17 (L15)) ∧
             R (.returned (.int .i64 n18)) w17
           else
            if (a_9 != b_9) = true then
             ∃ x7 : X.Facts, (X.FactsW x7 w4 (L2)) ∧
             ∀ w8 : World, ∀ L9 : List Nat, (X.Hid (L2) w4 w8) →
             (X.NewL (w).heap.size (L2) w4 w8 L9) →
             X.CallX Try.prog 86 #[(.int .i64 (IntKind.wrap .i64 a_9)), (.int .i64 (IntKind.wrap .i64 b_9))] w8 fun e10 w11 =>
              ∃ n12 : Int, (e10 = .returned (.int .i64 n12)) ∧
              (X.Kept L9 w8 w11) ∧
              (X.FactsW x7 w11 (L9)) ∧
              R (.returned (.int .i64 n12)) w11
            else
             ∀ w6 : World, (X.Hid (L2) w4 w6) →
             R (.returned (.int .i64 0)) w6) :
    Calls Try.prog 69 #[.agg #[.int .u8 a_0, .int .u16 a_1, .int .u32 a_2, .int .u8 a_3, .int .u8 a_4, .int .u8 a_5, .int .u8 a_6, .int .u8 a_7, .int .u8 a_8, .int .u8 a_9], .agg #[.int .u8 b_0, .int .u16 b_1, .int .u32 b_2, .int .u8 b_3, .int .u8 b_4, .int .u8 b_5, .int .u8 b_6, .int .u8 b_7, .int .u8 b_8, .int .u8 b_9]] w R :=
  X.calls_of { isLoc := [2, 3], sym := [], loops := [(7, .unroll 4), (16, .unroll 4)], joins := [] } Try.func69 (by kernel_rfl) h
abbrev fn_gemotref02_Right : Nat := 48
theorem x_gemotref02_Right (a_0 a_1 a_2 a_3 a_4 a_5 a_6 a_7 a_8 a_9 : Int) (w : World) (R : Ending → World → Prop) (h :
  ∀ w1 : World, ∀ L2 : List Nat, (X.Hid [] w w1) →
  (X.NewL (w).heap.size [] w w1 L2) →
  X.CallX Try.prog 55 #[(.agg #[(.int .u8 a_0), (.int .u16 a_1)])] w1 fun e3 w4 =>
   ∃ b5 : Bool, (e3 = .returned (.bool b5)) ∧
   (X.Kept L2 w1 w4) ∧
   if ((((!b5) || decide (a_2 < 1)) || decide (a_2 > 1048576)) || decide (a_3 > 3)) = true then
    R (.returned (.bool false)) w4
   else
    if ((decide ((0 : Int) < (IntKind.wrap .i64 a_3)) && decide (a_4 ≥ 4)) || (decide ((0 : Int) ≥ (IntKind.wrap .i64 a_3)) && (!((a_4 == 0) && (a_5 == 0))))) = true then
     R (.returned (.bool false)) w4
    else
     if ((decide ((1 : Int) < (IntKind.wrap .i64 a_3)) && decide (a_6 ≥ 4)) || (decide ((1 : Int) ≥ (IntKind.wrap .i64 a_3)) && (!((a_6 == 0) && (a_7 == 0))))) = true then
      R (.returned (.bool false)) w4
     else
      if ((decide ((2 : Int) < (IntKind.wrap .i64 a_3)) && decide (a_8 ≥ 4)) || (decide ((2 : Int) ≥ (IntKind.wrap .i64 a_3)) && (!((a_8 == 0) && (a_9 == 0))))) = true then
       R (.returned (.bool false)) w4
      else
       R (.returned (.bool true)) w4) :
    Calls Try.prog 48 #[.agg #[.int .u8 a_0, .int .u16 a_1, .int .u32 a_2, .int .u8 a_3, .int .u8 a_4, .int .u8 a_5, .int .u8 a_6, .int .u8 a_7, .int .u8 a_8, .int .u8 a_9]] w R :=
  X.calls_of { isLoc := [1], sym := [], loops := [(4, .unroll 4)], joins := [] } Try.func48 (by kernel_rfl) h
abbrev fn_gemotref02_RightProc : Nat := 55
theorem x_gemotref02_RightProc (a_0 a_1 : Int) (w : World) (R : Ending → World → Prop) (h :
  ∀ w1 : World, (X.Hid [] w w1) →
  R (.returned (.bool (decide (a_0 < 16) && decide (a_1 ≥ 1)))) w1) :
    Calls Try.prog 55 #[.agg #[.int .u8 a_0, .int .u16 a_1]] w R :=
  X.calls_of { isLoc := [1], sym := [], loops := [], joins := [] } Try.func55 (by kernel_rfl) h
end Go.Proofs
/- The verification conditions of this seat's functions, as the engine has them: printed by a program of the bench; checked by the kernel. -/
namespace Go.Proofs
open Go
abbrev fn_rNew : Nat := 14
theorem x_rNew (a : Int) (w : World) (R : Ending → World → Prop) (h :
  R (.returned (.pointer (some ⟨(w).heap.size, 0, none⟩))) (w.alloc (.cells #[(.int .i64 (if (16 : Int) < (if (1 : Int) > a then 1 else a) then 16 else (if (1 : Int) > a then 1 else a))), (.slice none 0 0), (.slice none 0 0)] 82))) :
    Calls Try.prog 14 #[.int .i64 a] w R :=
  X.calls_of { isLoc := [], sym := [], loops := [], joins := [] } Try.func14 (by kernel_rfl) h
abbrev fn_rfind : Nat := 49
theorem x_rfind (a : Addr) (b_0 b_1 b_2 b_3 b_4 b_5 b_6 b_7 b_8 b_9 : Int) (w : World) (R : Ending → World → Prop) (h :
  ∀ w1 : World, ∀ L2 : List Nat, (X.Hid [] w w1) →
  (X.NewL (w).heap.size [] w w1 L2) →
  ∃ x3 : Int → World → List Nat → Prop, ∃ x4 : Int → World → Nat, (x3 0 w1 (L2)) ∧
  ∀ n5 : Int, ∀ w6 : World, ∀ L7 : List Nat, (X.LF (w).heap.size w6 L7) →
  (x3 n5 w6 L7) →
  ∃ x8 : X.Facts, (X.FactsW x8 w6 (L7)) ∧
  ∃ q9 : Option Addr, ∃ k10 : Nat, ∃ k11 : Nat, (((a.add 1), [(.slice (q9) k10 k11)]) ∈ x8) ∧
  if ((decide (n5 < ((k10 : Nat) : Int))) == true) = true then
   ∃ q31 : Option Addr, ∃ k32 : Nat, ∃ k33 : Nat, (((a.add 1), [(.slice (q31) k32 k33)]) ∈ x8) ∧
   ((0 : Int) ≤ n5) ∧
   (n5 < ((k32 : Nat) : Int)) ∧
   X.onSome (q31) fun p34 =>
   ∃ n35 : Int, ∃ n36 : Int, ∃ n37 : Int, ∃ n38 : Int, ∃ n39 : Int, ∃ n40 : Int, ∃ n41 : Int, ∃ n42 : Int, ∃ n43 : Int, ∃ n44 : Int, ((((p34.add ((n5).toNat * 13)).add 0), [(.int .u8 n35), (.int .u16 n36), (.int .u32 n37), (.int .u8 n38), (.int .u8 n39), (.int .u8 n40), (.int .u8 n41), (.int .u8 n42), (.int .u8 n43), (.int .u8 n44)]) ∈ x8) ∧
   ∀ w45 : World, ∀ L46 : List Nat, (X.Hid (L7) w6 w45) →
   (X.NewL (w).heap.size (L7) w6 w45 L46) →
   X.CallX Try.prog 69 #[(.agg #[(.int .u8 n35), (.int .u16 n36), (.int .u32 n37), (.int .u8 n38), (.int .u8 n39), (.int .u8 n40), (.int .u8 n41), (.int .u8 n42), (.int .u8 n43), (.int .u8 n44)]), (.agg #[(.int .u8 b_0), (.int .u16 b_1), (.int .u32 b_2), (.int .u8 b_3), (.int .u8 b_4), (.int .u8 b_5), (.int .u8 b_6), (.int .u8 b_7), (.int .u8 b_8), (.int .u8 b_9)])] w45 fun e47 w48 =>
    ∃ n49 : Int, (e47 = .returned (.int .i64 n49)) ∧
    (X.Kept L46 w45 w48) ∧
    (X.FactsW x8 w48 (L46)) ∧
    if (true && decide (n49 < 0)) = true then
     (([(.int .u8 b_0), (.int .u16 b_1), (.int .u32 b_2), (.int .u8 b_3), (.int .u8 b_4), (.int .u8 b_5), (.int .u8 b_6), (.int .u8 b_7), (.int .u8 b_8), (.int .u8 b_9)] : List Value) = [(.int .u8 b_0), (.int .u16 b_1), (.int .u32 b_2), (.int .u8 b_3), (.int .u8 b_4), (.int .u8 b_5), (.int .u8 b_6), (.int .u8 b_7), (.int .u8 b_8), (.int .u8 b_9)]) ∧
     (x3 (IntKind.wrap .i64 (n5 + 1)) w48 (L46)) ∧
     Nat.le ((x4 (IntKind.wrap .i64 (n5 + 1)) w48) + 1) (x4 n5 w6)
    else
     ∃ q50 : Option Addr, ∃ k51 : Nat, ∃ k52 : Nat, (World.cell? w48 (a.add 1) = some (.slice (q50) k51 k52)) ∧
     (¬ ((a.block) ∈ L46)) ∧
     if ((decide (n5 < ((k51 : Nat) : Int))) == true) = true then
      ∃ q54 : Option Addr, ∃ k55 : Nat, ∃ k56 : Nat, (World.cell? w48 (a.add 1) = some (.slice (q54) k55 k56)) ∧
      (¬ ((a.block) ∈ L46)) ∧
      ((0 : Int) ≤ n5) ∧
      (n5 < ((k55 : Nat) : Int)) ∧
      X.onSome (q54) fun p57 =>
      ∃ n58 : Int, ∃ n59 : Int, ∃ n60 : Int, ∃ n61 : Int, ∃ n62 : Int, ∃ n63 : Int, ∃ n64 : Int, ∃ n65 : Int, ∃ n66 : Int, ∃ n67 : Int, (X.Cells w48 ((p57.add ((n5).toNat * 13)).add 0) [(.int .u8 n58), (.int .u16 n59), (.int .u32 n60), (.int .u8 n61), (.int .u8 n62), (.int .u8 n63), (.int .u8 n64), (.int .u8 n65), (.int .u8 n66), (.int .u8 n67)]) ∧
      (¬ ((((p57.add (n5.toNat * 13)).add 0).block) ∈ L46)) ∧
      ∀ w68 : World, (X.Hid (L46) w48 w68) →
      R (.returned (.tuple #[(.int .i64 n5), (.bool (true && (((n58 == b_0) && (n59 == b_1)) && ((n60 == b_2) && ((n61 == b_3) && (((n62 == b_4) && (n63 == b_5)) && (((n64 == b_6) && (n65 == b_7)) && ((n66 == b_8) && (n67 == b_9)))))))))])) w68
     else
      ∀ w53 : World, (X.Hid (L46) w48 w53) →
      R (.returned (.tuple #[(.int .i64 n5), (.bool false)])) w53
  else
   ∃ q12 : Option Addr, ∃ k13 : Nat, ∃ k14 : Nat, (World.cell? w6 (a.add 1) = some (.slice (q12) k13 k14)) ∧
   (¬ ((a.block) ∈ L7)) ∧
   if ((decide (n5 < ((k13 : Nat) : Int))) == true) = true then
    ∃ q16 : Option Addr, ∃ k17 : Nat, ∃ k18 : Nat, (World.cell? w6 (a.add 1) = some (.slice (q16) k17 k18)) ∧
    (¬ ((a.block) ∈ L7)) ∧
    ((0 : Int) ≤ n5) ∧
    (n5 < ((k17 : Nat) : Int)) ∧
    X.onSome (q16) fun p19 =>
    ∃ n20 : Int, ∃ n21 : Int, ∃ n22 : Int, ∃ n23 : Int, ∃ n24 : Int, ∃ n25 : Int, ∃ n26 : Int, ∃ n27 : Int, ∃ n28 : Int, ∃ n29 : Int, (X.Cells w6 ((p19.add ((n5).toNat * 13)).add 0) [(.int .u8 n20), (.int .u16 n21), (.int .u32 n22), (.int .u8 n23), (.int .u8 n24), (.int .u8 n25), (.int .u8 n26), (.int .u8 n27), (.int .u8 n28), (.int .u8 n29)]) ∧
    (¬ ((((p19.add (n5.toNat * 13)).add 0).block) ∈ L7)) ∧
    ∀ w30 : World, (X.Hid (L7) w6 w30) →
    R (.returned (.tuple #[(.int .i64 n5), (.bool (true && (((n20 == b_0) && (n21 == b_1)) && ((n22 == b_2) && ((n23 == b_3) && (((n24 == b_4) && (n25 == b_5)) && (((n26 == b_6) && (n27 == b_7)) && ((n28 == b_8) && (n29 == b_9)))))))))])) w30
   else
    ∀ w15 : World, (X.Hid (L7) w6 w15) →
    R (.returned (.tuple #[(.int .i64 n5), (.bool false)])) w15) :
    Calls Try.prog 49 #[.pointer (some a), .agg #[.int .u8 b_0, .int .u16 b_1, .int .u32 b_2, .int .u8 b_3, .int .u8 b_4, .int .u8 b_5, .int .u8 b_6, .int .u8 b_7, .int .u8 b_8, .int .u8 b_9]] w R :=
  X.calls_of { isLoc := [3], sym := [], loops := [(2, .inv [(6, .int .i64)] [] true)], joins := [] } Try.func49 (by kernel_rfl) h
abbrev fn_rFloor : Nat := 33
theorem x_rFloor (a : Addr) (b_0 b_1 : Int) (w : World) (R : Ending → World → Prop) (h :
  ∀ w1 : World, ∀ L2 : List Nat, (X.Hid [] w w1) →
  (X.NewL (w).heap.size [] w w1 L2) →
  ∃ x3 : Int → World → List Nat → Prop, ∃ x4 : Int → World → Nat, (x3 0 w1 (L2)) ∧
  ∀ n5 : Int, ∀ w6 : World, ∀ L7 : List Nat, (X.LF (w).heap.size w6 L7) →
  (x3 n5 w6 L7) →
  ∃ q8 : Option Addr, ∃ k9 : Nat, ∃ k10 : Nat, (World.cell? w6 (a.add 2) = some (.slice (q8) k9 k10)) ∧
  (¬ ((a.block) ∈ L7)) ∧
  if (decide (n5 < ((k9 : Nat) : Int))) = true then
   ∃ q11 : Option Addr, ∃ k12 : Nat, ∃ k13 : Nat, (World.cell? w6 (a.add 2) = some (.slice (q11) k12 k13)) ∧
   (¬ ((a.block) ∈ L7)) ∧
   ((0 : Int) ≤ n5) ∧
   (n5 < ((k12 : Nat) : Int)) ∧
   X.onSome (q11) fun p14 =>
   ∃ n15 : Int, ∃ n16 : Int, (X.Cells w6 ((p14.add ((n5).toNat * 3)).add 0) [(.int .u8 n15), (.int .u16 n16)]) ∧
   (¬ ((((p14.add (n5.toNat * 3)).add 0).block) ∈ L7)) ∧
   if ((n15 == b_0) && (n16 == b_1)) = true then
    ∃ q19 : Option Addr, ∃ k20 : Nat, ∃ k21 : Nat, (World.cell? w6 (a.add 2) = some (.slice (q19) k20 k21)) ∧
    (¬ ((a.block) ∈ L7)) ∧
    ((0 : Int) ≤ n5) ∧
    (n5 < ((k20 : Nat) : Int)) ∧
    X.onSome (q19) fun p22 =>
    ∃ n23 : Int, (World.cell? w6 ((p22.add ((n5).toNat * 3)).add 2) = some (.int .u32 n23)) ∧
    (¬ (((p22.add (n5.toNat * 3)).block) ∈ L7)) ∧
    ∀ w24 : World, (X.Hid (L7) w6 w24) →
    R (.returned (.int .u32 n23)) w24
   else
    ∀ w17 : World, ∀ L18 : List Nat, (X.Hid (L7) w6 w17) →
    (X.NewL (w).heap.size (L7) w6 w17 L18) →
    (([(.int .u8 b_0), (.int .u16 b_1)] : List Value) = [(.int .u8 b_0), (.int .u16 b_1)]) ∧
    (x3 (IntKind.wrap .i64 (n5 + 1)) w17 (L18)) ∧
    Nat.le ((x4 (IntKind.wrap .i64 (n5 + 1)) w17) + 1) (x4 n5 w6)
  else
   R (.returned (.int .u32 0)) w6) :
    Calls Try.prog 33 #[.pointer (some a), .agg #[.int .u8 b_0, .int .u16 b_1]] w R :=
  X.calls_of { isLoc := [3], sym := [], loops := [(2, .inv [(5, .int .i64)] [] true)], joins := [] } Try.func33 (by kernel_rfl) h
abbrev fn_rold : Nat := 51
theorem x_rold (a : Addr) (b_0 b_1 b_2 b_3 b_4 b_5 b_6 b_7 b_8 b_9 : Int) (w : World) (R : Ending → World → Prop) (h :
  ∃ x1 : X.Facts, (X.FactsW x1 w []) ∧
  if ((b_3 == 0) == true) = true then
   ∀ w3 : World, ∀ L4 : List Nat, (X.Hid [] w w3) →
   (X.NewL (w).heap.size [] w w3 L4) →
   X.CallX Try.prog 33 #[(.pointer (some a)), (.agg #[(.int .u8 b_0), (.int .u16 b_1)])] w3 fun e5 w6 =>
    ∃ n7 : Int, (e5 = .returned (.int .u32 n7)) ∧
    (X.Kept L4 w3 w6) ∧
    (X.FactsW x1 w6 (L4)) ∧
    R (.returned (.bool (true && decide (b_2 ≤ n7)))) w6
  else
   ∀ w2 : World, (X.Hid [] w w2) →
   R (.returned (.bool false)) w2) :
    Calls Try.prog 51 #[.pointer (some a), .agg #[.int .u8 b_0, .int .u16 b_1, .int .u32 b_2, .int .u8 b_3, .int .u8 b_4, .int .u8 b_5, .int .u8 b_6, .int .u8 b_7, .int .u8 b_8, .int .u8 b_9]] w R :=
  X.calls_of { isLoc := [3], sym := [], loops := [], joins := [] } Try.func51 (by kernel_rfl) h
abbrev fn_rState : Nat := 32
theorem x_rState (a : Addr) (b_0 b_1 b_2 b_3 b_4 b_5 b_6 b_7 b_8 b_9 : Int) (w : World) (R : Ending → World → Prop) (h :
  ∀ w1 : World, ∀ L2 : List Nat, (X.Hid [] w w1) →
  (X.NewL (w).heap.size [] w w1 L2) →
  X.CallX Try.prog 49 #[(.pointer (some a)), (.agg #[(.int .u8 b_0), (.int .u16 b_1), (.int .u32 b_2), (.int .u8 b_3), (.int .u8 b_4), (.int .u8 b_5), (.int .u8 b_6), (.int .u8 b_7), (.int .u8 b_8), (.int .u8 b_9)])] w1 fun e3 w4 =>
   ∃ n5 : Int, ∃ b6 : Bool, (e3 = .returned (.tuple #[(.int .i64 n5), (.bool b6)])) ∧
   (X.Kept L2 w1 w4) ∧
   if (b6 == true) = true then
    ∃ q18 : Option Addr, ∃ k19 : Nat, ∃ k20 : Nat, (World.cell? w4 (a.add 1) = some (.slice (q18) k19 k20)) ∧
    (¬ ((a.block) ∈ L2)) ∧
    ((0 : Int) ≤ n5) ∧
    (n5 < ((k19 : Nat) : Int)) ∧
    X.onSome (q18) fun p21 =>
    ∃ b22 : Bool, (World.cell? w4 ((p21.add ((n5).toNat * 13)).add 10) = some (.bool b22)) ∧
    (¬ (((p21.add (n5.toNat * 13)).block) ∈ L2)) ∧
    if (true && b22) = true then
     R (.returned (.int .i64 2)) w4
    else
     if b6 = true then
      R (.returned (.int .i64 1)) w4
     else
      X.CallX Try.prog 51 #[(.pointer (some a)), (.agg #[(.int .u8 b_0), (.int .u16 b_1), (.int .u32 b_2), (.int .u8 b_3), (.int .u8 b_4), (.int .u8 b_5), (.int .u8 b_6), (.int .u8 b_7), (.int .u8 b_8), (.int .u8 b_9)])] w4 fun e23 w24 =>
       ∃ b25 : Bool, (e23 = .returned (.bool b25)) ∧
       (X.Kept L2 w4 w24) ∧
       if b25 = true then
        R (.returned (.int .i64 3)) w24
       else
        ∃ x26 : X.Facts, (X.FactsW x26 w24 (L2)) ∧
        if ((b_3 == 0) == true) = true then
         ∃ n28 : Int, (((a.add 0), [(.int .i64 n28)]) ∈ x26) ∧
         ∀ w29 : World, ∀ L30 : List Nat, (X.Hid (L2) w24 w29) →
         (X.NewL (w).heap.size (L2) w24 w29 L30) →
         X.CallX Try.prog 33 #[(.pointer (some a)), (.agg #[(.int .u8 b_0), (.int .u16 b_1)])] w29 fun e31 w32 =>
          ∃ n33 : Int, (e31 = .returned (.int .u32 n33)) ∧
          (X.Kept L30 w29 w32) ∧
          (X.FactsW x26 w32 (L30)) ∧
          if (true && decide ((IntKind.wrap .i64 ((IntKind.wrap .i64 b_2) - (IntKind.wrap .i64 n33))) > n28)) = true then
           R (.returned (.int .i64 4)) w32
          else
           R (.returned (.int .i64 0)) w32
        else
         ∀ w27 : World, (X.Hid (L2) w24 w27) →
         R (.returned (.int .i64 0)) w27
   else
    if b6 = true then
     R (.returned (.int .i64 1)) w4
    else
     X.CallX Try.prog 51 #[(.pointer (some a)), (.agg #[(.int .u8 b_0), (.int .u16 b_1), (.int .u32 b_2), (.int .u8 b_3), (.int .u8 b_4), (.int .u8 b_5), (.int .u8 b_6), (.int .u8 b_7), (.int .u8 b_8), (.int .u8 b_9)])] w4 fun e7 w8 =>
      ∃ b9 : Bool, (e7 = .returned (.bool b9)) ∧
      (X.Kept L2 w4 w8) ∧
      if b9 = true then
       R (.returned (.int .i64 3)) w8
      else
       ∃ x10 : X.Facts, (X.FactsW x10 w8 (L2)) ∧
       if ((b_3 == 0) == true) = true then
        ∃ n12 : Int, (((a.add 0), [(.int .i64 n12)]) ∈ x10) ∧
        ∀ w13 : World, ∀ L14 : List Nat, (X.Hid (L2) w8 w13) →
        (X.NewL (w).heap.size (L2) w8 w13 L14) →
        X.CallX Try.prog 33 #[(.pointer (some a)), (.agg #[(.int .u8 b_0), (.int .u16 b_1)])] w13 fun e15 w16 =>
         ∃ n17 : Int, (e15 = .returned (.int .u32 n17)) ∧
         (X.Kept L14 w13 w16) ∧
         (X.FactsW x10 w16 (L14)) ∧
         if (true && decide ((IntKind.wrap .i64 ((IntKind.wrap .i64 b_2) - (IntKind.wrap .i64 n17))) > n12)) = true then
          R (.returned (.int .i64 4)) w16
         else
          R (.returned (.int .i64 0)) w16
       else
        ∀ w11 : World, (X.Hid (L2) w8 w11) →
        R (.returned (.int .i64 0)) w11) :
    Calls Try.prog 32 #[.pointer (some a), .agg #[.int .u8 b_0, .int .u16 b_1, .int .u32 b_2, .int .u8 b_3, .int .u8 b_4, .int .u8 b_5, .int .u8 b_6, .int .u8 b_7, .int .u8 b_8, .int .u8 b_9]] w R :=
  X.calls_of { isLoc := [3], sym := [], loops := [], joins := [] } Try.func32 (by kernel_rfl) h
abbrev fn_rBegin : Nat := 22
theorem x_rBegin (a : Addr) (b_0 b_1 b_2 b_3 b_4 b_5 b_6 b_7 b_8 b_9 : Int) (w : World) (R : Ending → World → Prop) (h :
  ∀ w1 : World, ∀ L2 : List Nat, (X.Hid [] w w1) →
  (X.NewL (w).heap.size [] w w1 L2) →
  X.CallX Try.prog 48 #[(.agg #[(.int .u8 b_0), (.int .u16 b_1), (.int .u32 b_2), (.int .u8 b_3), (.int .u8 b_4), (.int .u8 b_5), (.int .u8 b_6), (.int .u8 b_7), (.int .u8 b_8), (.int .u8 b_9)])] w1 fun e3 w4 =>
   ∃ b5 : Bool, (e3 = .returned (.bool b5)) ∧
   (X.Kept L2 w1 w4) ∧
   if (!b5) = true then
    R (.returned (.int .i64 1)) w4
   else
    X.CallX Try.prog 32 #[(.pointer (some a)), (.agg #[(.int .u8 b_0), (.int .u16 b_1), (.int .u32 b_2), (.int .u8 b_3), (.int .u8 b_4), (.int .u8 b_5), (.int .u8 b_6), (.int .u8 b_7), (.int .u8 b_8), (.int .u8 b_9)])] w4 fun e6 w7 =>
     ∃ n8 : Int, (e6 = .returned (.int .i64 n8)) ∧
     (X.Kept L2 w4 w7) ∧
     if (n8 == 1) = true then
      if (n8 == 1) = true then
       R (.returned (.int .i64 4)) w7
      else
       if (n8 == 3) = true then
        R (.returned (.int .i64 16)) w7
       else
        if (n8 == 4) = true then
         R (.returned (.int .i64 10)) w7
        else
         X.CallX Try.prog 49 #[(.pointer (some a)), (.agg #[(.int .u8 b_0), (.int .u16 b_1), (.int .u32 b_2), (.int .u8 b_3), (.int .u8 b_4), (.int .u8 b_5), (.int .u8 b_6), (.int .u8 b_7), (.int .u8 b_8), (.int .u8 b_9)])] w7 fun e60 w61 =>
          ∃ n62 : Int, ∃ b63 : Bool, (e60 = .returned (.tuple #[(.int .i64 n62), (.bool b63)])) ∧
          (X.Kept L2 w7 w61) ∧
          ∃ x64 : X.Facts, (X.FactsW x64 w61 (L2)) ∧
          ∃ q65 : Option Addr, ∃ k66 : Nat, ∃ k67 : Nat, (((a.add 1), [(.slice (q65) k66 k67)]) ∈ x64) ∧
          ((0 : Int) ≤ n62) ∧
          (n62 ≤ ((k67 : Nat) : Int)) ∧
          ∃ q68 : Option Addr, ∃ k69 : Nat, ∃ k70 : Nat, (((a.add 1), [(.slice (q68) k69 k70)]) ∈ x64) ∧
          ((0 : Int) ≤ n62) ∧
          (n62 ≤ ((k69 : Nat) : Int)) ∧
          (∀ w71 : World, ∀ L72 : List Nat, (X.Hid (L2) w61 w71) →
           (X.NewL (w).heap.size (L2) w61 w71 L72) →
           (X.FactsW x64 (w71.alloc (.cells #[] 94)) (L72)) ∧
           (∃ q73 : Option Addr, ∃ k74 : Nat, ∃ k75 : Nat, ∃ w76 : World, (Sem.run Try.prog (Go.Builtin.append_ #[79, 79] 79 #[(.slice (some ⟨(w71).heap.size, 0, none⟩) 0 0), (.slice (X.cutA (q65) k67 0 13) (n62).toNat k67)]) (w71.alloc (.cells #[] 94)) = .ok (.slice (q73) k74 k75) w76) ∧
            (X.Kept L72 (w71.alloc (.cells #[] 94)) w76) ∧
            (X.FactsW x64 w76 (L72)) ∧
            (X.FactsW x64 (w76.alloc (.cells #[(.int .u8 b_0), (.int .u16 b_1), (.int .u32 b_2), (.int .u8 b_3), (.int .u8 b_4), (.int .u8 b_5), (.int .u8 b_6), (.int .u8 b_7), (.int .u8 b_8), (.int .u8 b_9), (.bool false), (.int .u8 0), (.string (ByteArray.mk #[]))] 94)) (L72)) ∧
            ∃ q77 : Option Addr, ∃ k78 : Nat, ∃ k79 : Nat, ∃ w80 : World, (Sem.run Try.prog (Go.Builtin.append_ #[79, 79] 79 #[(.slice (q73) k74 k75), (.slice (some ⟨(w76).heap.size, 0, none⟩) 1 1)]) (w76.alloc (.cells #[(.int .u8 b_0), (.int .u16 b_1), (.int .u32 b_2), (.int .u8 b_3), (.int .u8 b_4), (.int .u8 b_5), (.int .u8 b_6), (.int .u8 b_7), (.int .u8 b_8), (.int .u8 b_9), (.bool false), (.int .u8 0), (.string (ByteArray.mk #[]))] 94)) = .ok (.slice (q77) k78 k79) w80) ∧
            (X.Kept L72 (w76.alloc (.cells #[(.int .u8 b_0), (.int .u16 b_1), (.int .u32 b_2), (.int .u8 b_3), (.int .u8 b_4), (.int .u8 b_5), (.int .u8 b_6), (.int .u8 b_7), (.int .u8 b_8), (.int .u8 b_9), (.bool false), (.int .u8 0), (.string (ByteArray.mk #[]))] 94)) w80) ∧
            (X.FactsW x64 w80 (L72)) ∧
            ∃ q81 : Option Addr, ∃ k82 : Nat, ∃ k83 : Nat, ∃ w84 : World, (Sem.run Try.prog (Go.Builtin.append_ #[79, 79] 79 #[(.slice (q77) k78 k79), (.slice (X.cutA (q68) k70 (n62).toNat 13) (k69 - (n62).toNat) (k70 - (n62).toNat))]) w80 = .ok (.slice (q81) k82 k83) w84) ∧
            (X.Kept L72 w80 w84) ∧
            (X.FactsW x64 w84 (L72)) ∧
            ((none : Option Nat) = none) ∧
            (World.there w84 (a.block) ((a.off) + 1) 1) ∧
            (¬ ((a.block) ∈ L72)) ∧
            R (.returned (.int .i64 0)) (w84.setCells (a.block) ((a.off) + 1) [(.slice (q81) k82 k83)])) ∧
           (X.FactsW x64 ((w71.alloc (.cells #[] 94)).alloc (.cells #[(.int .u8 b_0), (.int .u16 b_1), (.int .u32 b_2), (.int .u8 b_3), (.int .u8 b_4), (.int .u8 b_5), (.int .u8 b_6), (.int .u8 b_7), (.int .u8 b_8), (.int .u8 b_9), (.bool false), (.int .u8 0), (.string (ByteArray.mk #[]))] 94)) (L72)) ∧
           ∃ q85 : Option Addr, ∃ k86 : Nat, ∃ k87 : Nat, ∃ w88 : World, (Sem.run Try.prog (Go.Builtin.append_ #[79, 79] 79 #[(.slice (some ⟨(w71).heap.size, 0, none⟩) 0 0), (.slice (X.cutA (q65) k67 0 13) (n62).toNat k67)]) ((w71.alloc (.cells #[] 94)).alloc (.cells #[(.int .u8 b_0), (.int .u16 b_1), (.int .u32 b_2), (.int .u8 b_3), (.int .u8 b_4), (.int .u8 b_5), (.int .u8 b_6), (.int .u8 b_7), (.int .u8 b_8), (.int .u8 b_9), (.bool false), (.int .u8 0), (.string (ByteArray.mk #[]))] 94)) = .ok (.slice (q85) k86 k87) w88) ∧
           (X.Kept L72 ((w71.alloc (.cells #[] 94)).alloc (.cells #[(.int .u8 b_0), (.int .u16 b_1), (.int .u32 b_2), (.int .u8 b_3), (.int .u8 b_4), (.int .u8 b_5), (.int .u8 b_6), (.int .u8 b_7), (.int .u8 b_8), (.int .u8 b_9), (.bool false), (.int .u8 0), (.string (ByteArray.mk #[]))] 94)) w88) ∧
           (X.FactsW x64 w88 (L72)) ∧
           ∃ q89 : Option Addr, ∃ k90 : Nat, ∃ k91 : Nat, ∃ w92 : World, (Sem.run Try.prog (Go.Builtin.append_ #[79, 79] 79 #[(.slice (q85) k86 k87), (.slice (some ⟨((w71.alloc (.cells #[] 94))).heap.size, 0, none⟩) 1 1)]) w88 = .ok (.slice (q89) k90 k91) w92) ∧
           (X.Kept L72 w88 w92) ∧
           (X.FactsW x64 w92 (L72)) ∧
           ∃ q93 : Option Addr, ∃ k94 : Nat, ∃ k95 : Nat, ∃ w96 : World, (Sem.run Try.prog (Go.Builtin.append_ #[79, 79] 79 #[(.slice (q89) k90 k91), (.slice (X.cutA (q68) k70 (n62).toNat 13) (k69 - (n62).toNat) (k70 - (n62).toNat))]) w92 = .ok (.slice (q93) k94 k95) w96) ∧
           (X.Kept L72 w92 w96) ∧
           (X.FactsW x64 w96 (L72)) ∧
           ((none : Option Nat) = none) ∧
           (World.there w96 (a.block) ((a.off) + 1) 1) ∧
           (¬ ((a.block) ∈ L72)) ∧
           R (.returned (.int .i64 0)) (w96.setCells (a.block) ((a.off) + 1) [(.slice (q93) k94 k95)])) ∧
          ∀ w97 : World, ∀ L98 : List Nat, (X.Hid (L2) w61 w97) →
          (X.NewL (w).heap.size (L2) w61 w97 L98) →
          (X.FactsW x64 (w97.alloc (.cells #[(.int .u8 b_0), (.int .u16 b_1), (.int .u32 b_2), (.int .u8 b_3), (.int .u8 b_4), (.int .u8 b_5), (.int .u8 b_6), (.int .u8 b_7), (.int .u8 b_8), (.int .u8 b_9), (.bool false), (.int .u8 0), (.string (ByteArray.mk #[]))] 94)) (L98)) ∧
          (X.FactsW x64 ((w97.alloc (.cells #[(.int .u8 b_0), (.int .u16 b_1), (.int .u32 b_2), (.int .u8 b_3), (.int .u8 b_4), (.int .u8 b_5), (.int .u8 b_6), (.int .u8 b_7), (.int .u8 b_8), (.int .u8 b_9), (.bool false), (.int .u8 0), (.string (ByteArray.mk #[]))] 94)).alloc (.cells #[] 94)) (L98)) ∧
          ∃ q99 : Option Addr, ∃ k100 : Nat, ∃ k101 : Nat, ∃ w102 : World, (Sem.run Try.prog (Go.Builtin.append_ #[79, 79] 79 #[(.slice (some ⟨((w97.alloc (.cells #[(.int .u8 b_0), (.int .u16 b_1), (.int .u32 b_2), (.int .u8 b_3), (.int .u8 b_4), (.int .u8 b_5), (.int .u8 b_6), (.int .u8 b_7), (.int .u8 b_8), (.int .u8 b_9), (.bool false), (.int .u8 0), (.string (ByteArray.mk #[]))] 94))).heap.size, 0, none⟩) 0 0), (.slice (X.cutA (q65) k67 0 13) (n62).toNat k67)]) ((w97.alloc (.cells #[(.int .u8 b_0), (.int .u16 b_1), (.int .u32 b_2), (.int .u8 b_3), (.int .u8 b_4), (.int .u8 b_5), (.int .u8 b_6), (.int .u8 b_7), (.int .u8 b_8), (.int .u8 b_9), (.bool false), (.int .u8 0), (.string (ByteArray.mk #[]))] 94)).alloc (.cells #[] 94)) = .ok (.slice (q99) k100 k101) w102) ∧
          (X.Kept L98 ((w97.alloc (.cells #[(.int .u8 b_0), (.int .u16 b_1), (.int .u32 b_2), (.int .u8 b_3), (.int .u8 b_4), (.int .u8 b_5), (.int .u8 b_6), (.int .u8 b_7), (.int .u8 b_8), (.int .u8 b_9), (.bool false), (.int .u8 0), (.string (ByteArray.mk #[]))] 94)).alloc (.cells #[] 94)) w102) ∧
          (X.FactsW x64 w102 (L98)) ∧
          ∃ q103 : Option Addr, ∃ k104 : Nat, ∃ k105 : Nat, ∃ w106 : World, (Sem.run Try.prog (Go.Builtin.append_ #[79, 79] 79 #[(.slice (q99) k100 k101), (.slice (some ⟨(w97).heap.size, 0, none⟩) 1 1)]) w102 = .ok (.slice (q103) k104 k105) w106) ∧
          (X.Kept L98 w102 w106) ∧
          (X.FactsW x64 w106 (L98)) ∧
          ∃ q107 : Option Addr, ∃ k108 : Nat, ∃ k109 : Nat, ∃ w110 : World, (Sem.run Try.prog (Go.Builtin.append_ #[79, 79] 79 #[(.slice (q103) k104 k105), (.slice (X.cutA (q68) k70 (n62).toNat 13) (k69 - (n62).toNat) (k70 - (n62).toNat))]) w106 = .ok (.slice (q107) k108 k109) w110) ∧
          (X.Kept L98 w106 w110) ∧
          (X.FactsW x64 w110 (L98)) ∧
          ((none : Option Nat) = none) ∧
          (World.there w110 (a.block) ((a.off) + 1) 1) ∧
          (¬ ((a.block) ∈ L98)) ∧
          R (.returned (.int .i64 0)) (w110.setCells (a.block) ((a.off) + 1) [(.slice (q107) k108 k109)])
     else
      if (n8 == 2) = true then
       R (.returned (.int .i64 4)) w7
      else
       if (n8 == 3) = true then
        R (.returned (.int .i64 16)) w7
       else
        if (n8 == 4) = true then
         R (.returned (.int .i64 10)) w7
        else
         X.CallX Try.prog 49 #[(.pointer (some a)), (.agg #[(.int .u8 b_0), (.int .u16 b_1), (.int .u32 b_2), (.int .u8 b_3), (.int .u8 b_4), (.int .u8 b_5), (.int .u8 b_6), (.int .u8 b_7), (.int .u8 b_8), (.int .u8 b_9)])] w7 fun e9 w10 =>
          ∃ n11 : Int, ∃ b12 : Bool, (e9 = .returned (.tuple #[(.int .i64 n11), (.bool b12)])) ∧
          (X.Kept L2 w7 w10) ∧
          ∃ x13 : X.Facts, (X.FactsW x13 w10 (L2)) ∧
          ∃ q14 : Option Addr, ∃ k15 : Nat, ∃ k16 : Nat, (((a.add 1), [(.slice (q14) k15 k16)]) ∈ x13) ∧
          ((0 : Int) ≤ n11) ∧
          (n11 ≤ ((k16 : Nat) : Int)) ∧
          ∃ q17 : Option Addr, ∃ k18 : Nat, ∃ k19 : Nat, (((a.add 1), [(.slice (q17) k18 k19)]) ∈ x13) ∧
          ((0 : Int) ≤ n11) ∧
          (n11 ≤ ((k18 : Nat) : Int)) ∧
          (∀ w20 : World, ∀ L21 : List Nat, (X.Hid (L2) w10 w20) →
           (X.NewL (w).heap.size (L2) w10 w20 L21) →
           (X.FactsW x13 (w20.alloc (.cells #[] 94)) (L21)) ∧
           (∃ q22 : Option Addr, ∃ k23 : Nat, ∃ k24 : Nat, ∃ w25 : World, (Sem.run Try.prog (Go.Builtin.append_ #[79, 79] 79 #[(.slice (some ⟨(w20).heap.size, 0, none⟩) 0 0), (.slice (X.cutA (q14) k16 0 13) (n11).toNat k16)]) (w20.alloc (.cells #[] 94)) = .ok (.slice (q22) k23 k24) w25) ∧
            (X.Kept L21 (w20.alloc (.cells #[] 94)) w25) ∧
            (X.FactsW x13 w25 (L21)) ∧
            (X.FactsW x13 (w25.alloc (.cells #[(.int .u8 b_0), (.int .u16 b_1), (.int .u32 b_2), (.int .u8 b_3), (.int .u8 b_4), (.int .u8 b_5), (.int .u8 b_6), (.int .u8 b_7), (.int .u8 b_8), (.int .u8 b_9), (.bool false), (.int .u8 0), (.string (ByteArray.mk #[]))] 94)) (L21)) ∧
            ∃ q26 : Option Addr, ∃ k27 : Nat, ∃ k28 : Nat, ∃ w29 : World, (Sem.run Try.prog (Go.Builtin.append_ #[79, 79] 79 #[(.slice (q22) k23 k24), (.slice (some ⟨(w25).heap.size, 0, none⟩) 1 1)]) (w25.alloc (.cells #[(.int .u8 b_0), (.int .u16 b_1), (.int .u32 b_2), (.int .u8 b_3), (.int .u8 b_4), (.int .u8 b_5), (.int .u8 b_6), (.int .u8 b_7), (.int .u8 b_8), (.int .u8 b_9), (.bool false), (.int .u8 0), (.string (ByteArray.mk #[]))] 94)) = .ok (.slice (q26) k27 k28) w29) ∧
            (X.Kept L21 (w25.alloc (.cells #[(.int .u8 b_0), (.int .u16 b_1), (.int .u32 b_2), (.int .u8 b_3), (.int .u8 b_4), (.int .u8 b_5), (.int .u8 b_6), (.int .u8 b_7), (.int .u8 b_8), (.int .u8 b_9), (.bool false), (.int .u8 0), (.string (ByteArray.mk #[]))] 94)) w29) ∧
            (X.FactsW x13 w29 (L21)) ∧
            ∃ q30 : Option Addr, ∃ k31 : Nat, ∃ k32 : Nat, ∃ w33 : World, (Sem.run Try.prog (Go.Builtin.append_ #[79, 79] 79 #[(.slice (q26) k27 k28), (.slice (X.cutA (q17) k19 (n11).toNat 13) (k18 - (n11).toNat) (k19 - (n11).toNat))]) w29 = .ok (.slice (q30) k31 k32) w33) ∧
            (X.Kept L21 w29 w33) ∧
            (X.FactsW x13 w33 (L21)) ∧
            ((none : Option Nat) = none) ∧
            (World.there w33 (a.block) ((a.off) + 1) 1) ∧
            (¬ ((a.block) ∈ L21)) ∧
            R (.returned (.int .i64 0)) (w33.setCells (a.block) ((a.off) + 1) [(.slice (q30) k31 k32)])) ∧
           (X.FactsW x13 ((w20.alloc (.cells #[] 94)).alloc (.cells #[(.int .u8 b_0), (.int .u16 b_1), (.int .u32 b_2), (.int .u8 b_3), (.int .u8 b_4), (.int .u8 b_5), (.int .u8 b_6), (.int .u8 b_7), (.int .u8 b_8), (.int .u8 b_9), (.bool false), (.int .u8 0), (.string (ByteArray.mk #[]))] 94)) (L21)) ∧
           ∃ q34 : Option Addr, ∃ k35 : Nat, ∃ k36 : Nat, ∃ w37 : World, (Sem.run Try.prog (Go.Builtin.append_ #[79, 79] 79 #[(.slice (some ⟨(w20).heap.size, 0, none⟩) 0 0), (.slice (X.cutA (q14) k16 0 13) (n11).toNat k16)]) ((w20.alloc (.cells #[] 94)).alloc (.cells #[(.int .u8 b_0), (.int .u16 b_1), (.int .u32 b_2), (.int .u8 b_3), (.int .u8 b_4), (.int .u8 b_5), (.int .u8 b_6), (.int .u8 b_7), (.int .u8 b_8), (.int .u8 b_9), (.bool false), (.int .u8 0), (.string (ByteArray.mk #[]))] 94)) = .ok (.slice (q34) k35 k36) w37) ∧
           (X.Kept L21 ((w20.alloc (.cells #[] 94)).alloc (.cells #[(.int .u8 b_0), (.int .u16 b_1), (.int .u32 b_2), (.int .u8 b_3), (.int .u8 b_4), (.int .u8 b_5), (.int .u8 b_6), (.int .u8 b_7), (.int .u8 b_8), (.int .u8 b_9), (.bool false), (.int .u8 0), (.string (ByteArray.mk #[]))] 94)) w37) ∧
           (X.FactsW x13 w37 (L21)) ∧
           ∃ q38 : Option Addr, ∃ k39 : Nat, ∃ k40 : Nat, ∃ w41 : World, (Sem.run Try.prog (Go.Builtin.append_ #[79, 79] 79 #[(.slice (q34) k35 k36), (.slice (some ⟨((w20.alloc (.cells #[] 94))).heap.size, 0, none⟩) 1 1)]) w37 = .ok (.slice (q38) k39 k40) w41) ∧
           (X.Kept L21 w37 w41) ∧
           (X.FactsW x13 w41 (L21)) ∧
           ∃ q42 : Option Addr, ∃ k43 : Nat, ∃ k44 : Nat, ∃ w45 : World, (Sem.run Try.prog (Go.Builtin.append_ #[79, 79] 79 #[(.slice (q38) k39 k40), (.slice (X.cutA (q17) k19 (n11).toNat 13) (k18 - (n11).toNat) (k19 - (n11).toNat))]) w41 = .ok (.slice (q42) k43 k44) w45) ∧
           (X.Kept L21 w41 w45) ∧
           (X.FactsW x13 w45 (L21)) ∧
           ((none : Option Nat) = none) ∧
           (World.there w45 (a.block) ((a.off) + 1) 1) ∧
           (¬ ((a.block) ∈ L21)) ∧
           R (.returned (.int .i64 0)) (w45.setCells (a.block) ((a.off) + 1) [(.slice (q42) k43 k44)])) ∧
          ∀ w46 : World, ∀ L47 : List Nat, (X.Hid (L2) w10 w46) →
          (X.NewL (w).heap.size (L2) w10 w46 L47) →
          (X.FactsW x13 (w46.alloc (.cells #[(.int .u8 b_0), (.int .u16 b_1), (.int .u32 b_2), (.int .u8 b_3), (.int .u8 b_4), (.int .u8 b_5), (.int .u8 b_6), (.int .u8 b_7), (.int .u8 b_8), (.int .u8 b_9), (.bool false), (.int .u8 0), (.string (ByteArray.mk #[]))] 94)) (L47)) ∧
          (X.FactsW x13 ((w46.alloc (.cells #[(.int .u8 b_0), (.int .u16 b_1), (.int .u32 b_2), (.int .u8 b_3), (.int .u8 b_4), (.int .u8 b_5), (.int .u8 b_6), (.int .u8 b_7), (.int .u8 b_8), (.int .u8 b_9), (.bool false), (.int .u8 0), (.string (ByteArray.mk #[]))] 94)).alloc (.cells #[] 94)) (L47)) ∧
          ∃ q48 : Option Addr, ∃ k49 : Nat, ∃ k50 : Nat, ∃ w51 : World, (Sem.run Try.prog (Go.Builtin.append_ #[79, 79] 79 #[(.slice (some ⟨((w46.alloc (.cells #[(.int .u8 b_0), (.int .u16 b_1), (.int .u32 b_2), (.int .u8 b_3), (.int .u8 b_4), (.int .u8 b_5), (.int .u8 b_6), (.int .u8 b_7), (.int .u8 b_8), (.int .u8 b_9), (.bool false), (.int .u8 0), (.string (ByteArray.mk #[]))] 94))).heap.size, 0, none⟩) 0 0), (.slice (X.cutA (q14) k16 0 13) (n11).toNat k16)]) ((w46.alloc (.cells #[(.int .u8 b_0), (.int .u16 b_1), (.int .u32 b_2), (.int .u8 b_3), (.int .u8 b_4), (.int .u8 b_5), (.int .u8 b_6), (.int .u8 b_7), (.int .u8 b_8), (.int .u8 b_9), (.bool false), (.int .u8 0), (.string (ByteArray.mk #[]))] 94)).alloc (.cells #[] 94)) = .ok (.slice (q48) k49 k50) w51) ∧
          (X.Kept L47 ((w46.alloc (.cells #[(.int .u8 b_0), (.int .u16 b_1), (.int .u32 b_2), (.int .u8 b_3), (.int .u8 b_4), (.int .u8 b_5), (.int .u8 b_6), (.int .u8 b_7), (.int .u8 b_8), (.int .u8 b_9), (.bool false), (.int .u8 0), (.string (ByteArray.mk #[]))] 94)).alloc (.cells #[] 94)) w51) ∧
          (X.FactsW x13 w51 (L47)) ∧
          ∃ q52 : Option Addr, ∃ k53 : Nat, ∃ k54 : Nat, ∃ w55 : World, (Sem.run Try.prog (Go.Builtin.append_ #[79, 79] 79 #[(.slice (q48) k49 k50), (.slice (some ⟨(w46).heap.size, 0, none⟩) 1 1)]) w51 = .ok (.slice (q52) k53 k54) w55) ∧
          (X.Kept L47 w51 w55) ∧
          (X.FactsW x13 w55 (L47)) ∧
          ∃ q56 : Option Addr, ∃ k57 : Nat, ∃ k58 : Nat, ∃ w59 : World, (Sem.run Try.prog (Go.Builtin.append_ #[79, 79] 79 #[(.slice (q52) k53 k54), (.slice (X.cutA (q17) k19 (n11).toNat 13) (k18 - (n11).toNat) (k19 - (n11).toNat))]) w55 = .ok (.slice (q56) k57 k58) w59) ∧
          (X.Kept L47 w55 w59) ∧
          (X.FactsW x13 w59 (L47)) ∧
          ((none : Option Nat) = none) ∧
          (World.there w59 (a.block) ((a.off) + 1) 1) ∧
          (¬ ((a.block) ∈ L47)) ∧
          R (.returned (.int .i64 0)) (w59.setCells (a.block) ((a.off) + 1) [(.slice (q56) k57 k58)])) :
    Calls Try.prog 22 #[.pointer (some a), .agg #[.int .u8 b_0, .int .u16 b_1, .int .u32 b_2, .int .u8 b_3, .int .u8 b_4, .int .u8 b_5, .int .u8 b_6, .int .u8 b_7, .int .u8 b_8, .int .u8 b_9]] w R :=
  X.calls_of { isLoc := [3], sym := [], loops := [], joins := [] } Try.func22 (by kernel_rfl) h
abbrev fn_rEnd : Nat := 25
theorem x_rEnd (a : Addr) (b_0 b_1 b_2 b_3 b_4 b_5 b_6 b_7 b_8 b_9 c_0 : Int) (c_1 : ByteArray) (w : World) (R : Ending → World → Prop) (h :
  ∀ w1 : World, ∀ L2 : List Nat, (X.Hid [] w w1) →
  (X.NewL (w).heap.size [] w w1 L2) →
  X.CallX Try.prog 49 #[(.pointer (some a)), (.agg #[(.int .u8 b_0), (.int .u16 b_1), (.int .u32 b_2), (.int .u8 b_3), (.int .u8 b_4), (.int .u8 b_5), (.int .u8 b_6), (.int .u8 b_7), (.int .u8 b_8), (.int .u8 b_9)])] w1 fun e3 w4 =>
   ∃ n5 : Int, ∃ b6 : Bool, (e3 = .returned (.tuple #[(.int .i64 n5), (.bool b6)])) ∧
   (X.Kept L2 w1 w4) ∧
   if ((!b6) == false) = true then
    ∃ q7 : Option Addr, ∃ k8 : Nat, ∃ k9 : Nat, (World.cell? w4 (a.add 1) = some (.slice (q7) k8 k9)) ∧
    (¬ ((a.block) ∈ L2)) ∧
    ((0 : Int) ≤ n5) ∧
    (n5 < ((k8 : Nat) : Int)) ∧
    X.onSome (q7) fun p10 =>
    ∃ b11 : Bool, (World.cell? w4 ((p10.add ((n5).toNat * 13)).add 10) = some (.bool b11)) ∧
    (¬ (((p10.add (n5.toNat * 13)).block) ∈ L2)) ∧
    if (false || b11) = true then
     R (.returned (.bool false)) w4
    else
     ∃ q12 : Option Addr, ∃ k13 : Nat, ∃ k14 : Nat, (World.cell? (w4.alloc (.cells #[] 94)) (a.add 1) = some (.slice (q12) k13 k14)) ∧
     (¬ ((a.block) ∈ L2)) ∧
     ∃ q15 : Option Addr, ∃ k16 : Nat, ∃ k17 : Nat, ∃ w18 : World, (Sem.run Try.prog (Go.Builtin.append_ #[79, 79] 79 #[(.slice (some ⟨(w4).heap.size, 0, none⟩) 0 0), (.slice (q12) k13 k14)]) (w4.alloc (.cells #[] 94)) = .ok (.slice (q15) k16 k17) w18) ∧
     (X.Kept L2 (w4.alloc (.cells #[] 94)) w18) ∧
     X.CallX Try.prog 51 #[(.pointer (some a)), (.agg #[(.int .u8 b_0), (.int .u16 b_1), (.int .u32 b_2), (.int .u8 b_3), (.int .u8 b_4), (.int .u8 b_5), (.int .u8 b_6), (.int .u8 b_7), (.int .u8 b_8), (.int .u8 b_9)])] w18 fun e19 w20 =>
      ∃ b21 : Bool, (e19 = .returned (.bool b21)) ∧
      (X.Kept L2 w18 w20) ∧
      if b21 = true then
       ∃ x24 : X.Facts, (X.FactsW x24 w20 (L2)) ∧
       ((0 : Int) ≤ n5) ∧
       (n5 ≤ ((k17 : Nat) : Int)) ∧
       ((0 : Int) ≤ (IntKind.wrap .i64 (n5 + 1))) ∧
       ((IntKind.wrap .i64 (n5 + 1)) ≤ ((k16 : Nat) : Int)) ∧
       ∀ w25 : World, ∀ L26 : List Nat, (X.Hid (L2) w20 w25) →
       (X.NewL (w).heap.size (L2) w20 w25 L26) →
       ∃ q27 : Option Addr, ∃ k28 : Nat, ∃ k29 : Nat, ∃ w30 : World, (Sem.run Try.prog (Go.Builtin.append_ #[79, 79] 79 #[(.slice (X.cutA (q15) k17 0 13) (n5).toNat k17), (.slice (X.cutA (q15) k17 ((IntKind.wrap .i64 (n5 + 1))).toNat 13) (k16 - ((IntKind.wrap .i64 (n5 + 1))).toNat) (k17 - ((IntKind.wrap .i64 (n5 + 1))).toNat))]) w25 = .ok (.slice (q27) k28 k29) w30) ∧
       (X.Kept L26 w25 w30) ∧
       ((none : Option Nat) = none) ∧
       (World.there w30 (a.block) ((a.off) + 1) 1) ∧
       (¬ ((a.block) ∈ L26)) ∧
       R (.returned (.bool true)) (w30.setCells (a.block) ((a.off) + 1) [(.slice (q27) k28 k29)])
      else
       ((0 : Int) ≤ n5) ∧
       (n5 < ((k16 : Nat) : Int)) ∧
       X.onSome (q15) fun p22 =>
       ((none : Option Nat) = none) ∧
       (World.there w20 ((p22.add (n5.toNat * 13)).block) (((p22.add (n5.toNat * 13)).off) + 10) 1) ∧
       (¬ (((p22.add (n5.toNat * 13)).block) ∈ L2)) ∧
       ((0 : Int) ≤ n5) ∧
       (n5 < ((k16 : Nat) : Int)) ∧
       X.onSome (q15) fun p23 =>
       ((none : Option Nat) = none) ∧
       (World.there (w20.setCells ((p22.add (n5.toNat * 13)).block) (((p22.add (n5.toNat * 13)).off) + 10) [(.bool true)]) ((p23.add (n5.toNat * 13)).block) (((p23.add (n5.toNat * 13)).off) + 11) 2) ∧
       (¬ (((p23.add (n5.toNat * 13)).block) ∈ L2)) ∧
       ((none : Option Nat) = none) ∧
       (World.there ((w20.setCells ((p22.add (n5.toNat * 13)).block) (((p22.add (n5.toNat * 13)).off) + 10) [(.bool true)]).setCells ((p23.add (n5.toNat * 13)).block) (((p23.add (n5.toNat * 13)).off) + 11) [(.int .u8 c_0), (.string c_1)]) (a.block) ((a.off) + 1) 1) ∧
       (¬ ((a.block) ∈ L2)) ∧
       R (.returned (.bool true)) (((w20.setCells ((p22.add (n5.toNat * 13)).block) (((p22.add (n5.toNat * 13)).off) + 10) [(.bool true)]).setCells ((p23.add (n5.toNat * 13)).block) (((p23.add (n5.toNat * 13)).off) + 11) [(.int .u8 c_0), (.string c_1)]).setCells (a.block) ((a.off) + 1) [(.slice (q15) k16 k17)])
   else
    R (.returned (.bool false)) w4) :
    Calls Try.prog 25 #[.pointer (some a), .agg #[.int .u8 b_0, .int .u16 b_1, .int .u32 b_2, .int .u8 b_3, .int .u8 b_4, .int .u8 b_5, .int .u8 b_6, .int .u8 b_7, .int .u8 b_8, .int .u8 b_9], .agg #[.int .u8 c_0, .string c_1]] w R :=
  X.calls_of { isLoc := [4, 5], sym := [], loops := [], joins := [] } Try.func25 (by kernel_rfl) h
abbrev fn_rRaise : Nat := 27
theorem x_rRaise (a : Addr) (b_0 b_1 c : Int) (w : World) (R : Ending → World → Prop) (h :
  ∀ w1 : World, ∀ L2 : List Nat, (X.Hid [] w w1) →
  (X.NewL (w).heap.size [] w w1 L2) →
  X.CallX Try.prog 55 #[(.agg #[(.int .u8 b_0), (.int .u16 b_1)])] w1 fun e3 w4 =>
   ∃ b5 : Bool, (e3 = .returned (.bool b5)) ∧
   (X.Kept L2 w1 w4) ∧
   if (((!b5) || decide (c > 1048576)) == false) = true then
    X.CallX Try.prog 33 #[(.pointer (some a)), (.agg #[(.int .u8 b_0), (.int .u16 b_1)])] w4 fun e6 w7 =>
     ∃ n8 : Int, (e6 = .returned (.int .u32 n8)) ∧
     (X.Kept L2 w4 w7) ∧
     if (false || decide (c ≤ n8)) = true then
      R (.returned (.tuple #[])) w7
     else
      ∃ x9 : Option Addr → Nat → Nat → Int → World → List Nat → Prop, ∃ x10 : Option Addr → Nat → Nat → Int → World → Nat, (x9 (some (Addr.mk w7.heap.size 0 none)) 1 1 0 (w7.alloc (.cells #[(.int .u8 b_0), (.int .u16 b_1), (.int .u32 c)] 96)) (L2)) ∧
      ∀ q11 : Option Addr, ∀ k12 : Nat, ∀ k13 : Nat, ∀ n14 : Int, ∀ w15 : World, ∀ L16 : List Nat, (X.LF (w).heap.size w15 L16) →
      (x9 q11 k12 k13 n14 w15 L16) →
      ∃ q17 : Option Addr, ∃ k18 : Nat, ∃ k19 : Nat, (World.cell? w15 (a.add 2) = some (.slice (q17) k18 k19)) ∧
      (¬ ((a.block) ∈ L16)) ∧
      if (decide (n14 < ((k18 : Nat) : Int))) = true then
       ∃ q63 : Option Addr, ∃ k64 : Nat, ∃ k65 : Nat, (World.cell? w15 (a.add 2) = some (.slice (q63) k64 k65)) ∧
       (¬ ((a.block) ∈ L16)) ∧
       ((0 : Int) ≤ n14) ∧
       (n14 < ((k64 : Nat) : Int)) ∧
       X.onSome (q63) fun p66 =>
       ∃ n67 : Int, ∃ n68 : Int, (X.Cells w15 ((p66.add ((n14).toNat * 3)).add 0) [(.int .u8 n67), (.int .u16 n68)]) ∧
       (¬ ((((p66.add (n14.toNat * 3)).add 0).block) ∈ L16)) ∧
       if (!((n67 == b_0) && (n68 == b_1))) = true then
        ∃ q71 : Option Addr, ∃ k72 : Nat, ∃ k73 : Nat, (World.cell? w15 (a.add 2) = some (.slice (q71) k72 k73)) ∧
        (¬ ((a.block) ∈ L16)) ∧
        ((0 : Int) ≤ n14) ∧
        (n14 < ((k72 : Nat) : Int)) ∧
        X.onSome (q71) fun p74 =>
        ∃ n75 : Int, ∃ n76 : Int, ∃ n77 : Int, (X.Cells w15 (p74.add ((n14).toNat * 3)) [(.int .u8 n75), (.int .u16 n76), (.int .u32 n77)]) ∧
        (¬ (((p74.add (n14.toNat * 3)).block) ∈ L16)) ∧
        ∀ w78 : World, ∀ L79 : List Nat, (X.Hid (L16) w15 w78) →
        (X.NewL (w).heap.size (L16) w15 w78 L79) →
        ∃ q80 : Option Addr, ∃ k81 : Nat, ∃ k82 : Nat, ∃ w83 : World, (Sem.run Try.prog (Go.Builtin.append_ #[80, 80] 80 #[(.slice (q11) k12 k13), (.slice (some ⟨(w78).heap.size, 0, none⟩) 1 1)]) (w78.alloc (.cells #[(.int .u8 n75), (.int .u16 n76), (.int .u32 n77)] 96)) = .ok (.slice (q80) k81 k82) w83) ∧
        (X.Kept L79 (w78.alloc (.cells #[(.int .u8 n75), (.int .u16 n76), (.int .u32 n77)] 96)) w83) ∧
        (([(.int .u8 b_0), (.int .u16 b_1)] : List Value) = [(.int .u8 b_0), (.int .u16 b_1)]) ∧
        (x9 q80 k81 k82 (IntKind.wrap .i64 (n14 + 1)) w83 (L79)) ∧
        Nat.le ((x10 q80 k81 k82 (IntKind.wrap .i64 (n14 + 1)) w83) + 1) (x10 q11 k12 k13 n14 w15)
       else
        ∀ w69 : World, ∀ L70 : List Nat, (X.Hid (L16) w15 w69) →
        (X.NewL (w).heap.size (L16) w15 w69 L70) →
        (([(.int .u8 b_0), (.int .u16 b_1)] : List Value) = [(.int .u8 b_0), (.int .u16 b_1)]) ∧
        (x9 q11 k12 k13 (IntKind.wrap .i64 (n14 + 1)) w69 (L70)) ∧
        Nat.le ((x10 q11 k12 k13 (IntKind.wrap .i64 (n14 + 1)) w69) + 1) (x10 q11 k12 k13 n14 w15)
      else
       ((none : Option Nat) = none) ∧
       (World.there w15 (a.block) ((a.off) + 2) 1) ∧
       (¬ ((a.block) ∈ L16)) ∧
       ∃ x20 : Option Addr → Nat → Nat → Int → World → List Nat → Prop, ∃ x21 : Option Addr → Nat → Nat → Int → World → Nat, (x20 (none) 0 0 0 (w15.setCells (a.block) ((a.off) + 2) [(.slice (q11) k12 k13)]) (L16)) ∧
       ∀ q22 : Option Addr, ∀ k23 : Nat, ∀ k24 : Nat, ∀ n25 : Int, ∀ w26 : World, ∀ L27 : List Nat, (X.LF (w).heap.size w26 L27) →
       (x20 q22 k23 k24 n25 w26 L27) →
       ∃ q28 : Option Addr, ∃ k29 : Nat, ∃ k30 : Nat, (World.cell? w26 (a.add 1) = some (.slice (q28) k29 k30)) ∧
       (¬ ((a.block) ∈ L27)) ∧
       if (decide (n25 < ((k29 : Nat) : Int))) = true then
        ∃ q31 : Option Addr, ∃ k32 : Nat, ∃ k33 : Nat, (World.cell? w26 (a.add 1) = some (.slice (q31) k32 k33)) ∧
        (¬ ((a.block) ∈ L27)) ∧
        ((0 : Int) ≤ n25) ∧
        (n25 < ((k32 : Nat) : Int)) ∧
        X.onSome (q31) fun p34 =>
        ∃ n35 : Int, ∃ n36 : Int, ∃ n37 : Int, ∃ n38 : Int, ∃ n39 : Int, ∃ n40 : Int, ∃ n41 : Int, ∃ n42 : Int, ∃ n43 : Int, ∃ n44 : Int, ∃ b45 : Bool, ∃ n46 : Int, ∃ s47 : ByteArray, (X.Cells w26 (p34.add ((n25).toNat * 13)) [(.int .u8 n35), (.int .u16 n36), (.int .u32 n37), (.int .u8 n38), (.int .u8 n39), (.int .u8 n40), (.int .u8 n41), (.int .u8 n42), (.int .u8 n43), (.int .u8 n44), (.bool b45), (.int .u8 n46), (.string s47)]) ∧
        (¬ (((p34.add (n25.toNat * 13)).block) ∈ L27)) ∧
        if (((!((n35 == b_0) && (n36 == b_1))) || (!b45)) == false) = true then
         ∀ w54 : World, ∀ L55 : List Nat, (X.Hid (L27) w26 w54) →
         (X.NewL (w).heap.size (L27) w26 w54 L55) →
         X.CallX Try.prog 51 #[(.pointer (some a)), (.agg #[(.int .u8 n35), (.int .u16 n36), (.int .u32 n37), (.int .u8 n38), (.int .u8 n39), (.int .u8 n40), (.int .u8 n41), (.int .u8 n42), (.int .u8 n43), (.int .u8 n44)])] w54 fun e56 w57 =>
          ∃ b58 : Bool, (e56 = .returned (.bool b58)) ∧
          (X.Kept L55 w54 w57) ∧
          if (false || (!b58)) = true then
           ∃ q59 : Option Addr, ∃ k60 : Nat, ∃ k61 : Nat, ∃ w62 : World, (Sem.run Try.prog (Go.Builtin.append_ #[79, 79] 79 #[(.slice (q22) k23 k24), (.slice (some ⟨(w57).heap.size, 0, none⟩) 1 1)]) (w57.alloc (.cells #[(.int .u8 n35), (.int .u16 n36), (.int .u32 n37), (.int .u8 n38), (.int .u8 n39), (.int .u8 n40), (.int .u8 n41), (.int .u8 n42), (.int .u8 n43), (.int .u8 n44), (.bool b45), (.int .u8 n46), (.string s47)] 94)) = .ok (.slice (q59) k60 k61) w62) ∧
           (X.Kept L55 (w57.alloc (.cells #[(.int .u8 n35), (.int .u16 n36), (.int .u32 n37), (.int .u8 n38), (.int .u8 n39), (.int .u8 n40), (.int .u8 n41), (.int .u8 n42), (.int .u8 n43), (.int .u8 n44), (.bool b45), (.int .u8 n46), (.string s47)] 94)) w62) ∧
           (([(.int .u8 b_0), (.int .u16 b_1)] : List Value) = [(.int .u8 b_0), (.int .u16 b_1)]) ∧
           (x20 q59 k60 k61 (IntKind.wrap .i64 (n25 + 1)) w62 (L55)) ∧
           Nat.le ((x21 q59 k60 k61 (IntKind.wrap .i64 (n25 + 1)) w62) + 1) (x21 q22 k23 k24 n25 w26)
          else
           (([(.int .u8 b_0), (.int .u16 b_1)] : List Value) = [(.int .u8 b_0), (.int .u16 b_1)]) ∧
           (x20 q22 k23 k24 (IntKind.wrap .i64 (n25 + 1)) w57 (L55)) ∧
           Nat.le ((x21 q22 k23 k24 (IntKind.wrap .i64 (n25 + 1)) w57) + 1) (x21 q22 k23 k24 n25 w26)
        else
         ∀ w48 : World, ∀ L49 : List Nat, (X.Hid (L27) w26 w48) →
         (X.NewL (w).heap.size (L27) w26 w48 L49) →
         ∃ q50 : Option Addr, ∃ k51 : Nat, ∃ k52 : Nat, ∃ w53 : World, (Sem.run Try.prog (Go.Builtin.append_ #[79, 79] 79 #[(.slice (q22) k23 k24), (.slice (some ⟨(w48).heap.size, 0, none⟩) 1 1)]) (w48.alloc (.cells #[(.int .u8 n35), (.int .u16 n36), (.int .u32 n37), (.int .u8 n38), (.int .u8 n39), (.int .u8 n40), (.int .u8 n41), (.int .u8 n42), (.int .u8 n43), (.int .u8 n44), (.bool b45), (.int .u8 n46), (.string s47)] 94)) = .ok (.slice (q50) k51 k52) w53) ∧
         (X.Kept L49 (w48.alloc (.cells #[(.int .u8 n35), (.int .u16 n36), (.int .u32 n37), (.int .u8 n38), (.int .u8 n39), (.int .u8 n40), (.int .u8 n41), (.int .u8 n42), (.int .u8 n43), (.int .u8 n44), (.bool b45), (.int .u8 n46), (.string s47)] 94)) w53) ∧
         (([(.int .u8 b_0), (.int .u16 b_1)] : List Value) = [(.int .u8 b_0), (.int .u16 b_1)]) ∧
         (x20 q50 k51 k52 (IntKind.wrap .i64 (n25 + 1)) w53 (L49)) ∧
         Nat.le ((x21 q50 k51 k52 (IntKind.wrap .i64 (n25 + 1)) w53) + 1) (x21 q22 k23 k24 n25 w26)
       else
        ((none : Option Nat) = none) ∧
        (World.there w26 (a.block) ((a.off) + 1) 1) ∧
        (¬ ((a.block) ∈ L27)) ∧
        R (.returned (.tuple #[])) (w26.setCells (a.block) ((a.off) + 1) [(.slice (q22) k23 k24)])
   else
    R (.returned (.tuple #[])) w4) :
    Calls Try.prog 27 #[.pointer (some a), .agg #[.int .u8 b_0, .int .u16 b_1], .int .u32 c] w R :=
  X.calls_of { isLoc := [4, 10], sym := [], loops := [(4, .inv [(6, .slice), (7, .int .i64)] [] true), (11, .inv [(8, .slice), (9, .int .i64)] [] true)], joins := [] } Try.func27 (by kernel_rfl) h
abbrev fn_rSame : Nat := 16
theorem x_rSame (a b : Addr) (w : World) (R : Ending → World → Prop) (h :
  ∃ n1 : Int, (World.cell? w (a.add 0) = some (.int .i64 n1)) ∧
  ∃ n2 : Int, (World.cell? w (b.add 0) = some (.int .i64 n2)) ∧
  if ((n1 != n2) == false) = true then
   ∃ q4 : Option Addr, ∃ k5 : Nat, ∃ k6 : Nat, (World.cell? w (a.add 1) = some (.slice (q4) k5 k6)) ∧
   ∃ q7 : Option Addr, ∃ k8 : Nat, ∃ k9 : Nat, (World.cell? w (b.add 1) = some (.slice (q7) k8 k9)) ∧
   if ((false || (((k5 : Nat) : Int) != ((k8 : Nat) : Int))) == false) = true then
    ∃ q11 : Option Addr, ∃ k12 : Nat, ∃ k13 : Nat, (World.cell? w (a.add 2) = some (.slice (q11) k12 k13)) ∧
    ∃ q14 : Option Addr, ∃ k15 : Nat, ∃ k16 : Nat, (World.cell? w (b.add 2) = some (.slice (q14) k15 k16)) ∧
    if (false || (((k12 : Nat) : Int) != ((k15 : Nat) : Int))) = true then
     ∀ w86 : World, (X.Hid [] w w86) →
     R (.returned (.bool false)) w86
    else
     ∀ w17 : World, (X.Hid [] w w17) →
     ∃ x18 : Int → World → List Nat → Prop, ∃ x19 : Int → World → Nat, (x18 0 w17 []) ∧
     ∀ n20 : Int, ∀ w21 : World, ∀ L22 : List Nat, (X.LF (w).heap.size w21 L22) →
     (x18 n20 w21 L22) →
     ∃ q23 : Option Addr, ∃ k24 : Nat, ∃ k25 : Nat, (World.cell? w21 (a.add 1) = some (.slice (q23) k24 k25)) ∧
     if (decide (n20 < ((k24 : Nat) : Int))) = true then
      ∃ q50 : Option Addr, ∃ k51 : Nat, ∃ k52 : Nat, (World.cell? w21 (a.add 1) = some (.slice (q50) k51 k52)) ∧
      ((0 : Int) ≤ n20) ∧
      (n20 < ((k51 : Nat) : Int)) ∧
      X.onSome (q50) fun p53 =>
      ∃ n54 : Int, ∃ n55 : Int, ∃ n56 : Int, ∃ n57 : Int, ∃ n58 : Int, ∃ n59 : Int, ∃ n60 : Int, ∃ n61 : Int, ∃ n62 : Int, ∃ n63 : Int, ∃ b64 : Bool, ∃ n65 : Int, ∃ s66 : ByteArray, (X.Cells w21 (p53.add ((n20).toNat * 13)) [(.int .u8 n54), (.int .u16 n55), (.int .u32 n56), (.int .u8 n57), (.int .u8 n58), (.int .u8 n59), (.int .u8 n60), (.int .u8 n61), (.int .u8 n62), (.int .u8 n63), (.bool b64), (.int .u8 n65), (.string s66)]) ∧
      ∃ q67 : Option Addr, ∃ k68 : Nat, ∃ k69 : Nat, (World.cell? w21 (b.add 1) = some (.slice (q67) k68 k69)) ∧
      ((0 : Int) ≤ n20) ∧
      (n20 < ((k68 : Nat) : Int)) ∧
      X.onSome (q67) fun p70 =>
      ∃ n71 : Int, ∃ n72 : Int, ∃ n73 : Int, ∃ n74 : Int, ∃ n75 : Int, ∃ n76 : Int, ∃ n77 : Int, ∃ n78 : Int, ∃ n79 : Int, ∃ n80 : Int, ∃ b81 : Bool, ∃ n82 : Int, ∃ s83 : ByteArray, (X.Cells w21 (p70.add ((n20).toNat * 13)) [(.int .u8 n71), (.int .u16 n72), (.int .u32 n73), (.int .u8 n74), (.int .u8 n75), (.int .u8 n76), (.int .u8 n77), (.int .u8 n78), (.int .u8 n79), (.int .u8 n80), (.bool b81), (.int .u8 n82), (.string s83)]) ∧
      if (!((((n54 == n71) && (n55 == n72)) && ((n56 == n73) && ((n57 == n74) && (((n58 == n75) && (n59 == n76)) && (((n60 == n77) && (n61 == n78)) && ((n62 == n79) && (n63 == n80))))))) && ((b64 == b81) && ((n65 == n82) && (s66 == s83))))) = true then
       ∀ w85 : World, (X.Hid [] w21 w85) →
       R (.returned (.bool false)) w85
      else
       ∀ w84 : World, (X.Hid [] w21 w84) →
       (x18 (IntKind.wrap .i64 (n20 + 1)) w84 []) ∧
       Nat.le ((x19 (IntKind.wrap .i64 (n20 + 1)) w84) + 1) (x19 n20 w21)
     else
      ∃ x26 : Int → World → List Nat → Prop, ∃ x27 : Int → World → Nat, (x26 0 w21 []) ∧
      ∀ n28 : Int, ∀ w29 : World, ∀ L30 : List Nat, (X.LF (w).heap.size w29 L30) →
      (x26 n28 w29 L30) →
      ∃ q31 : Option Addr, ∃ k32 : Nat, ∃ k33 : Nat, (World.cell? w29 (a.add 2) = some (.slice (q31) k32 k33)) ∧
      if (decide (n28 < ((k32 : Nat) : Int))) = true then
       ∃ x34 : X.Facts, (X.FactsW x34 w29 []) ∧
       ∃ q35 : Option Addr, ∃ k36 : Nat, ∃ k37 : Nat, (((a.add 2), [(.slice (q35) k36 k37)]) ∈ x34) ∧
       ((0 : Int) ≤ n28) ∧
       (n28 < ((k36 : Nat) : Int)) ∧
       X.onSome (q35) fun p38 =>
       ∃ n39 : Int, ∃ n40 : Int, ((((p38.add ((n28).toNat * 3)).add 0), [(.int .u8 n39), (.int .u16 n40)]) ∈ x34) ∧
       ∃ q41 : Option Addr, ∃ k42 : Nat, ∃ k43 : Nat, (((a.add 2), [(.slice (q41) k42 k43)]) ∈ x34) ∧
       ((0 : Int) ≤ n28) ∧
       (n28 < ((k42 : Nat) : Int)) ∧
       X.onSome (q41) fun p44 =>
       ∃ n45 : Int, ((((p44.add ((n28).toNat * 3)).add 2), [(.int .u32 n45)]) ∈ x34) ∧
       ∀ w46 : World, (X.Hid [] w29 w46) →
       X.CallX Try.prog 33 #[(.pointer (some b)), (.agg #[(.int .u8 n39), (.int .u16 n40)])] w46 fun e47 w48 =>
        ∃ n49 : Int, (e47 = .returned (.int .u32 n49)) ∧
        ((w46).heap.size ≤ (w48).heap.size) ∧
        (X.FactsW x34 w48 []) ∧
        if (n49 != n45) = true then
         R (.returned (.bool false)) w48
        else
         (x26 (IntKind.wrap .i64 (n28 + 1)) w48 []) ∧
         Nat.le ((x27 (IntKind.wrap .i64 (n28 + 1)) w48) + 1) (x27 n28 w29)
      else
       R (.returned (.bool true)) w29
   else
    ∀ w10 : World, (X.Hid [] w w10) →
    R (.returned (.bool false)) w10
  else
   ∀ w3 : World, (X.Hid [] w w3) →
   R (.returned (.bool false)) w3) :
    Calls Try.prog 16 #[.pointer (some a), .pointer (some b)] w R :=
  X.calls_of { isLoc := [], sym := [], loops := [(4, .inv [(5, .int .i64)] [] true), (9, .inv [(6, .int .i64)] [] true)], joins := [] } Try.func16 (by kernel_rfl) h
abbrev fn_gemotlaw14_play : Nat := 15
theorem x_gemotlaw14_play (a : Addr) (b_0 b_1 b_2 b_3 b_4 b_5 b_6 b_7 b_8 b_9 b_10 b_11 : Int) (b_12 : ByteArray) (b_13 : Int) (w : World) (R : Ending → World → Prop) (h :
  if (b_0 == 0) = true then
   if (b_0 == 0) = true then
    ∀ w71 : World, ∀ L72 : List Nat, (X.Hid [] w w71) →
    (X.NewL (w).heap.size [] w w71 L72) →
    X.CallX Try.prog 22 #[(.pointer (some a)), (.agg #[(.int .u8 b_1), (.int .u16 b_2), (.int .u32 b_3), (.int .u8 b_4), (.int .u8 b_5), (.int .u8 b_6), (.int .u8 b_7), (.int .u8 b_8), (.int .u8 b_9), (.int .u8 b_10)])] w71 fun e73 w74 =>
     ∃ n75 : Int, (e73 = .returned (.int .i64 n75)) ∧
     (X.Kept L72 w71 w74) ∧
     R (.returned (.tuple #[])) w74
   else
    if (b_0 == 3) = true then
     if (b_0 == 3) = true then
      ∀ w66 : World, ∀ L67 : List Nat, (X.Hid [] w w66) →
      (X.NewL (w).heap.size [] w w66 L67) →
      X.CallX Try.prog 25 #[(.pointer (some a)), (.agg #[(.int .u8 b_1), (.int .u16 b_2), (.int .u32 b_3), (.int .u8 b_4), (.int .u8 b_5), (.int .u8 b_6), (.int .u8 b_7), (.int .u8 b_8), (.int .u8 b_9), (.int .u8 b_10)]), (.agg #[(.int .u8 b_11), (.string b_12)])] w66 fun e68 w69 =>
       ∃ b70 : Bool, (e68 = .returned (.bool b70)) ∧
       (X.Kept L67 w66 w69) ∧
       R (.returned (.tuple #[])) w69
     else
      if (b_0 == 5) = true then
       ∀ w62 : World, ∀ L63 : List Nat, (X.Hid [] w w62) →
       (X.NewL (w).heap.size [] w w62 L63) →
       X.CallX Try.prog 27 #[(.pointer (some a)), (.agg #[(.int .u8 b_1), (.int .u16 b_2)]), (.int .u32 b_13)] w62 fun e64 w65 =>
        (e64 = .returned (.tuple #[])) ∧
        (X.Kept L63 w62 w65) ∧
        R (.returned (.tuple #[])) w65
      else
       ∀ w61 : World, (X.Hid [] w w61) →
       R (.returned (.tuple #[])) w61
    else
     if (b_0 == 4) = true then
      ∀ w56 : World, ∀ L57 : List Nat, (X.Hid [] w w56) →
      (X.NewL (w).heap.size [] w w56 L57) →
      X.CallX Try.prog 25 #[(.pointer (some a)), (.agg #[(.int .u8 b_1), (.int .u16 b_2), (.int .u32 b_3), (.int .u8 b_4), (.int .u8 b_5), (.int .u8 b_6), (.int .u8 b_7), (.int .u8 b_8), (.int .u8 b_9), (.int .u8 b_10)]), (.agg #[(.int .u8 b_11), (.string b_12)])] w56 fun e58 w59 =>
       ∃ b60 : Bool, (e58 = .returned (.bool b60)) ∧
       (X.Kept L57 w56 w59) ∧
       R (.returned (.tuple #[])) w59
     else
      if (b_0 == 5) = true then
       ∀ w52 : World, ∀ L53 : List Nat, (X.Hid [] w w52) →
       (X.NewL (w).heap.size [] w w52 L53) →
       X.CallX Try.prog 27 #[(.pointer (some a)), (.agg #[(.int .u8 b_1), (.int .u16 b_2)]), (.int .u32 b_13)] w52 fun e54 w55 =>
        (e54 = .returned (.tuple #[])) ∧
        (X.Kept L53 w52 w55) ∧
        R (.returned (.tuple #[])) w55
      else
       ∀ w51 : World, (X.Hid [] w w51) →
       R (.returned (.tuple #[])) w51
  else
   if (b_0 == 1) = true then
    if (b_0 == 1) = true then
     ∀ w46 : World, ∀ L47 : List Nat, (X.Hid [] w w46) →
     (X.NewL (w).heap.size [] w w46 L47) →
     X.CallX Try.prog 22 #[(.pointer (some a)), (.agg #[(.int .u8 b_1), (.int .u16 b_2), (.int .u32 b_3), (.int .u8 b_4), (.int .u8 b_5), (.int .u8 b_6), (.int .u8 b_7), (.int .u8 b_8), (.int .u8 b_9), (.int .u8 b_10)])] w46 fun e48 w49 =>
      ∃ n50 : Int, (e48 = .returned (.int .i64 n50)) ∧
      (X.Kept L47 w46 w49) ∧
      R (.returned (.tuple #[])) w49
    else
     if (b_0 == 3) = true then
      if (b_0 == 3) = true then
       ∀ w41 : World, ∀ L42 : List Nat, (X.Hid [] w w41) →
       (X.NewL (w).heap.size [] w w41 L42) →
       X.CallX Try.prog 25 #[(.pointer (some a)), (.agg #[(.int .u8 b_1), (.int .u16 b_2), (.int .u32 b_3), (.int .u8 b_4), (.int .u8 b_5), (.int .u8 b_6), (.int .u8 b_7), (.int .u8 b_8), (.int .u8 b_9), (.int .u8 b_10)]), (.agg #[(.int .u8 b_11), (.string b_12)])] w41 fun e43 w44 =>
        ∃ b45 : Bool, (e43 = .returned (.bool b45)) ∧
        (X.Kept L42 w41 w44) ∧
        R (.returned (.tuple #[])) w44
      else
       if (b_0 == 5) = true then
        ∀ w37 : World, ∀ L38 : List Nat, (X.Hid [] w w37) →
        (X.NewL (w).heap.size [] w w37 L38) →
        X.CallX Try.prog 27 #[(.pointer (some a)), (.agg #[(.int .u8 b_1), (.int .u16 b_2)]), (.int .u32 b_13)] w37 fun e39 w40 =>
         (e39 = .returned (.tuple #[])) ∧
         (X.Kept L38 w37 w40) ∧
         R (.returned (.tuple #[])) w40
       else
        ∀ w36 : World, (X.Hid [] w w36) →
        R (.returned (.tuple #[])) w36
     else
      if (b_0 == 4) = true then
       ∀ w31 : World, ∀ L32 : List Nat, (X.Hid [] w w31) →
       (X.NewL (w).heap.size [] w w31 L32) →
       X.CallX Try.prog 25 #[(.pointer (some a)), (.agg #[(.int .u8 b_1), (.int .u16 b_2), (.int .u32 b_3), (.int .u8 b_4), (.int .u8 b_5), (.int .u8 b_6), (.int .u8 b_7), (.int .u8 b_8), (.int .u8 b_9), (.int .u8 b_10)]), (.agg #[(.int .u8 b_11), (.string b_12)])] w31 fun e33 w34 =>
        ∃ b35 : Bool, (e33 = .returned (.bool b35)) ∧
        (X.Kept L32 w31 w34) ∧
        R (.returned (.tuple #[])) w34
      else
       if (b_0 == 5) = true then
        ∀ w27 : World, ∀ L28 : List Nat, (X.Hid [] w w27) →
        (X.NewL (w).heap.size [] w w27 L28) →
        X.CallX Try.prog 27 #[(.pointer (some a)), (.agg #[(.int .u8 b_1), (.int .u16 b_2)]), (.int .u32 b_13)] w27 fun e29 w30 =>
         (e29 = .returned (.tuple #[])) ∧
         (X.Kept L28 w27 w30) ∧
         R (.returned (.tuple #[])) w30
       else
        ∀ w26 : World, (X.Hid [] w w26) →
        R (.returned (.tuple #[])) w26
   else
    if (b_0 == 2) = true then
     ∀ w21 : World, ∀ L22 : List Nat, (X.Hid [] w w21) →
     (X.NewL (w).heap.size [] w w21 L22) →
     X.CallX Try.prog 22 #[(.pointer (some a)), (.agg #[(.int .u8 b_1), (.int .u16 b_2), (.int .u32 b_3), (.int .u8 b_4), (.int .u8 b_5), (.int .u8 b_6), (.int .u8 b_7), (.int .u8 b_8), (.int .u8 b_9), (.int .u8 b_10)])] w21 fun e23 w24 =>
      ∃ n25 : Int, (e23 = .returned (.int .i64 n25)) ∧
      (X.Kept L22 w21 w24) ∧
      R (.returned (.tuple #[])) w24
    else
     if (b_0 == 3) = true then
      if (b_0 == 3) = true then
       ∀ w16 : World, ∀ L17 : List Nat, (X.Hid [] w w16) →
       (X.NewL (w).heap.size [] w w16 L17) →
       X.CallX Try.prog 25 #[(.pointer (some a)), (.agg #[(.int .u8 b_1), (.int .u16 b_2), (.int .u32 b_3), (.int .u8 b_4), (.int .u8 b_5), (.int .u8 b_6), (.int .u8 b_7), (.int .u8 b_8), (.int .u8 b_9), (.int .u8 b_10)]), (.agg #[(.int .u8 b_11), (.string b_12)])] w16 fun e18 w19 =>
        ∃ b20 : Bool, (e18 = .returned (.bool b20)) ∧
        (X.Kept L17 w16 w19) ∧
        R (.returned (.tuple #[])) w19
      else
       if (b_0 == 5) = true then
        ∀ w12 : World, ∀ L13 : List Nat, (X.Hid [] w w12) →
        (X.NewL (w).heap.size [] w w12 L13) →
        X.CallX Try.prog 27 #[(.pointer (some a)), (.agg #[(.int .u8 b_1), (.int .u16 b_2)]), (.int .u32 b_13)] w12 fun e14 w15 =>
         (e14 = .returned (.tuple #[])) ∧
         (X.Kept L13 w12 w15) ∧
         R (.returned (.tuple #[])) w15
       else
        ∀ w11 : World, (X.Hid [] w w11) →
        R (.returned (.tuple #[])) w11
     else
      if (b_0 == 4) = true then
       ∀ w6 : World, ∀ L7 : List Nat, (X.Hid [] w w6) →
       (X.NewL (w).heap.size [] w w6 L7) →
       X.CallX Try.prog 25 #[(.pointer (some a)), (.agg #[(.int .u8 b_1), (.int .u16 b_2), (.int .u32 b_3), (.int .u8 b_4), (.int .u8 b_5), (.int .u8 b_6), (.int .u8 b_7), (.int .u8 b_8), (.int .u8 b_9), (.int .u8 b_10)]), (.agg #[(.int .u8 b_11), (.string b_12)])] w6 fun e8 w9 =>
        ∃ b10 : Bool, (e8 = .returned (.bool b10)) ∧
        (X.Kept L7 w6 w9) ∧
        R (.returned (.tuple #[])) w9
      else
       if (b_0 == 5) = true then
        ∀ w2 : World, ∀ L3 : List Nat, (X.Hid [] w w2) →
        (X.NewL (w).heap.size [] w w2 L3) →
        X.CallX Try.prog 27 #[(.pointer (some a)), (.agg #[(.int .u8 b_1), (.int .u16 b_2)]), (.int .u32 b_13)] w2 fun e4 w5 =>
         (e4 = .returned (.tuple #[])) ∧
         (X.Kept L3 w2 w5) ∧
         R (.returned (.tuple #[])) w5
       else
        ∀ w1 : World, (X.Hid [] w w1) →
        R (.returned (.tuple #[])) w1) :
    Calls Try.prog 15 #[.pointer (some a), .agg #[.int .i64 b_0, .int .u8 b_1, .int .u16 b_2, .int .u32 b_3, .int .u8 b_4, .int .u8 b_5, .int .u8 b_6, .int .u8 b_7, .int .u8 b_8, .int .u8 b_9, .int .u8 b_10, .int .u8 b_11, .string b_12, .int .u32 b_13]] w R :=
  X.calls_of { isLoc := [3], sym := [], loops := [], joins := [] } Try.func15 (by kernel_rfl) h
end Go.Proofs
/- The verification conditions of this seat's functions, as the engine has them: printed by a program of the bench; checked by the kernel. -/
namespace Go.Proofs
open Go
abbrev fn_amo_Table_Clone : Nat := 12
theorem x_amo_Table_Clone (a : Addr) (w : World) (R : Ending → World → Prop) (h :
  X.CallX Try.prog 36 #[(.pointer (some a))] w fun e1 w2 =>
   ∃ b3 : Bool, (e1 = .returned (.bool b3)) ∧
   ((w).heap.size ≤ (w2).heap.size) ∧
   if b3 = true then
    R (.returned (.pointer none)) w2
   else
    ∃ x4 : X.Facts, (X.FactsW x4 w2 []) ∧
    ∃ n5 : Int, (((a.add 0), [(.int .u32 n5)]) ∈ x4) ∧
    ∃ q6 : Option Nat, (((a.add 1), [(.map (q6))]) ∈ x4) ∧
    ∃ q7 : Option Nat, (((a.add 2), [(.map (q7))]) ∈ x4) ∧
    ∀ w8 : World, (X.Hid [] w2 w8) →
    X.CallX Try.prog 37 #[(.map (q6))] w8 fun e9 w10 =>
     ∃ q11 : Option Nat, (e9 = .returned (.map (q11))) ∧
     ((w8).heap.size ≤ (w10).heap.size) ∧
     (X.FactsW x4 w10 []) ∧
     X.CallX Try.prog 38 #[(.map (q7))] w10 fun e12 w13 =>
      ∃ q14 : Option Nat, (e12 = .returned (.map (q14))) ∧
      ((w10).heap.size ≤ (w13).heap.size) ∧
      (X.FactsW x4 w13 []) ∧
      (X.FactsW x4 (w13.alloc (.cells #[(.int .u32 n5), (.map (q11)), (.map (q14))] 87)) []) ∧
      R (.returned (.pointer (some ⟨(w13).heap.size, 0, none⟩))) (w13.alloc (.cells #[(.int .u32 n5), (.map (q11)), (.map (q14))] 87))) :
    Calls Try.prog 12 #[.pointer (some a)] w R :=
  X.calls_of { isLoc := [], sym := [], loops := [], joins := [] } Try.func12 (by kernel_rfl) h
abbrev fn_amo_Table_Same : Nat := 13
theorem x_amo_Table_Same (a b : Addr) (w : World) (R : Ending → World → Prop) (h :
  X.CallX Try.prog 36 #[(.pointer (some a))] w fun e1 w2 =>
   ∃ b3 : Bool, (e1 = .returned (.bool b3)) ∧
   ((w).heap.size ≤ (w2).heap.size) ∧
   if (b3 == false) = true then
    X.CallX Try.prog 36 #[(.pointer (some b))] w2 fun e10 w11 =>
     ∃ b12 : Bool, (e10 = .returned (.bool b12)) ∧
     ((w2).heap.size ≤ (w11).heap.size) ∧
     if (false || b12) = true then
      X.CallX Try.prog 36 #[(.pointer (some a))] w11 fun e32 w33 =>
       ∃ b34 : Bool, (e32 = .returned (.bool b34)) ∧
       ((w11).heap.size ≤ (w33).heap.size) ∧
       if (b34 == true) = true then
        X.CallX Try.prog 36 #[(.pointer (some b))] w33 fun e35 w36 =>
         ∃ b37 : Bool, (e35 = .returned (.bool b37)) ∧
         ((w33).heap.size ≤ (w36).heap.size) ∧
         R (.returned (.bool (true && b37))) w36
       else
        R (.returned (.bool false)) w33
     else
      ∃ x13 : X.Facts, (X.FactsW x13 w11 []) ∧
      ∃ n14 : Int, (((a.add 0), [(.int .u32 n14)]) ∈ x13) ∧
      ∃ n15 : Int, (((b.add 0), [(.int .u32 n15)]) ∈ x13) ∧
      if ((n14 == n15) == true) = true then
       ∃ q19 : Option Nat, (((a.add 1), [(.map (q19))]) ∈ x13) ∧
       ∃ q20 : Option Nat, (((b.add 1), [(.map (q20))]) ∈ x13) ∧
       ∀ w21 : World, (X.Hid [] w11 w21) →
       X.CallX Try.prog 39 #[(.map (q19)), (.map (q20))] w21 fun e22 w23 =>
        ∃ b24 : Bool, (e22 = .returned (.bool b24)) ∧
        ((w21).heap.size ≤ (w23).heap.size) ∧
        (X.FactsW x13 w23 []) ∧
        ∃ x25 : X.Facts, (X.FactsW x25 w23 []) ∧
        (∀ x26 : Addr × List Value, (x26 ∈ x13) →
         x26 ∈ x25) ∧
        if ((true && b24) == true) = true then
         ∃ q27 : Option Nat, (((a.add 2), [(.map (q27))]) ∈ x25) ∧
         ∃ q28 : Option Nat, (((b.add 2), [(.map (q28))]) ∈ x25) ∧
         X.CallX Try.prog 40 #[(.map (q27)), (.map (q28))] w23 fun e29 w30 =>
          ∃ b31 : Bool, (e29 = .returned (.bool b31)) ∧
          ((w23).heap.size ≤ (w30).heap.size) ∧
          (X.FactsW x25 w30 []) ∧
          R (.returned (.bool (true && b31))) w30
        else
         R (.returned (.bool false)) w23
      else
       ∃ x16 : X.Facts, (X.FactsW x16 w11 []) ∧
       (∀ x17 : Addr × List Value, (x17 ∈ x13) →
        x17 ∈ x16) ∧
       ∀ w18 : World, (X.Hid [] w11 w18) →
       R (.returned (.bool false)) w18
   else
    X.CallX Try.prog 36 #[(.pointer (some a))] w2 fun e4 w5 =>
     ∃ b6 : Bool, (e4 = .returned (.bool b6)) ∧
     ((w2).heap.size ≤ (w5).heap.size) ∧
     if (b6 == true) = true then
      X.CallX Try.prog 36 #[(.pointer (some b))] w5 fun e7 w8 =>
       ∃ b9 : Bool, (e7 = .returned (.bool b9)) ∧
       ((w5).heap.size ≤ (w8).heap.size) ∧
       R (.returned (.bool (true && b9))) w8
     else
      R (.returned (.bool false)) w5) :
    Calls Try.prog 13 #[.pointer (some a), .pointer (some b)] w R :=
  X.calls_of { isLoc := [], sym := [], loops := [], joins := [] } Try.func13 (by kernel_rfl) h
abbrev fn_EqR : Nat := 39
theorem x_EqR (a b : Option Nat) (w : World) (R : Ending → World → Prop) (h :
  ∃ n1 : Int, ∃ w2 : World, (Sem.run Try.prog (Go.Builtin.len_ #[84] 3 #[(.map (a))]) w = .ok (.int .i64 n1) w2) ∧
  ((w).heap.size ≤ (w2).heap.size) ∧
  ∃ n3 : Int, ∃ w4 : World, (Sem.run Try.prog (Go.Builtin.len_ #[84] 3 #[(.map (b))]) w2 = .ok (.int .i64 n3) w4) ∧
  ((w2).heap.size ≤ (w4).heap.size) ∧
  if (n1 != n3) = true then
   R (.returned (.bool false)) w4
  else
   ∃ q5 : Option Addr, ∃ w6 : World, (Sem.run Try.prog (Go.Instr.range 84 (.map (a))) w4 = .ok (.pointer (q5)) w6) ∧
   ((w4).heap.size ≤ (w6).heap.size) ∧
   ∃ x7 : World → List Nat → Prop, ∃ x8 : World → Nat, (x7 w6 []) ∧
   ∀ w9 : World, ∀ L10 : List Nat, (X.LF (w).heap.size w9 L10) →
   (x7 w9 L10) →
   ∃ b11 : Bool, ∃ L12 : List Value, ∃ w13 : World, (Sem.run Try.prog (Go.Instr.next (.pointer (q5)) false 0) w9 = .ok (.tuple ((Value.bool b11 :: L12).toArray)) w13) ∧
   ((w9).heap.size ≤ (w13).heap.size) ∧
   if b11 = true then
    ∃ n14 : Int, ∃ n15 : Int, ∃ n16 : Int, ∃ n17 : Int, ∃ n18 : Int, ∃ n19 : Int, ∃ n20 : Int, ∃ n21 : Int, ∃ n22 : Int, ∃ n23 : Int, ∃ n24 : Int, ∃ n25 : Int, ∃ n26 : Int, ∃ n27 : Int, ∃ n28 : Int, ∃ n29 : Int, ∃ n30 : Int, ∃ n31 : Int, ∃ n32 : Int, ∃ n33 : Int, ∃ b34 : Bool, ∃ n35 : Int, ∃ s36 : ByteArray, ∃ w37 : World, (Sem.run Try.prog (Go.Instr.entry (.pointer (q5))) w13 = .ok (.tuple #[(.agg #[(.int .u8 n14), (.int .u16 n15), (.int .u32 n16), (.int .u8 n17), (.int .u8 n18), (.int .u8 n19), (.int .u8 n20), (.int .u8 n21), (.int .u8 n22), (.int .u8 n23)]), (.agg #[(.int .u8 n24), (.int .u16 n25), (.int .u32 n26), (.int .u8 n27), (.int .u8 n28), (.int .u8 n29), (.int .u8 n30), (.int .u8 n31), (.int .u8 n32), (.int .u8 n33), (.bool b34), (.int .u8 n35), (.string s36)])]) w37) ∧
    ((w13).heap.size ≤ (w37).heap.size) ∧
    ∀ w38 : World, ∀ L39 : List Nat, (X.Hid [] w37 w38) →
    (X.NewL (w).heap.size [] w37 w38 L39) →
    ∃ n40 : Int, ∃ n41 : Int, ∃ n42 : Int, ∃ n43 : Int, ∃ n44 : Int, ∃ n45 : Int, ∃ n46 : Int, ∃ n47 : Int, ∃ n48 : Int, ∃ n49 : Int, ∃ b50 : Bool, ∃ n51 : Int, ∃ s52 : ByteArray, ∃ b53 : Bool, ∃ w54 : World, (Sem.run Try.prog (Go.Instr.lookup 84 (.map (b)) (.agg #[(.int .u8 n14), (.int .u16 n15), (.int .u32 n16), (.int .u8 n17), (.int .u8 n18), (.int .u8 n19), (.int .u8 n20), (.int .u8 n21), (.int .u8 n22), (.int .u8 n23)]) true) w38 = .ok (.tuple #[(.agg #[(.int .u8 n40), (.int .u16 n41), (.int .u32 n42), (.int .u8 n43), (.int .u8 n44), (.int .u8 n45), (.int .u8 n46), (.int .u8 n47), (.int .u8 n48), (.int .u8 n49), (.bool b50), (.int .u8 n51), (.string s52)]), (.bool b53)]) w54) ∧
    (X.Kept L39 w38 w54) ∧
    if ((!b53) || (!((((n24 == n40) && (n25 == n41)) && ((n26 == n42) && ((n27 == n43) && (((n28 == n44) && (n29 == n45)) && (((n30 == n46) && (n31 == n47)) && ((n32 == n48) && (n33 == n49))))))) && ((b34 == b50) && ((n35 == n51) && (s36 == s52)))))) = true then
     ∀ w57 : World, (X.Hid (L39) w54 w57) →
     R (.returned (.bool false)) w57
    else
     ∀ w55 : World, ∀ L56 : List Nat, (X.Hid (L39) w54 w55) →
     (X.NewL (w).heap.size (L39) w54 w55 L56) →
     (x7 w55 (L56)) ∧
     Nat.le ((x8 w55) + 1) (x8 w9)
   else
    R (.returned (.bool true)) w13) :
    Calls Try.prog 39 #[.map a, .map b] w R :=
  X.calls_of { isLoc := [5, 6, 7], sym := [10, 12], loops := [(4, .inv [] [] true)], joins := [], ents := [(18, [54, 60])] } Try.func39 (by kernel_rfl) h
abbrev fn_EqF : Nat := 40
theorem x_EqF (a b : Option Nat) (w : World) (R : Ending → World → Prop) (h :
  ∃ n1 : Int, ∃ w2 : World, (Sem.run Try.prog (Go.Builtin.len_ #[85] 3 #[(.map (a))]) w = .ok (.int .i64 n1) w2) ∧
  ((w).heap.size ≤ (w2).heap.size) ∧
  ∃ n3 : Int, ∃ w4 : World, (Sem.run Try.prog (Go.Builtin.len_ #[85] 3 #[(.map (b))]) w2 = .ok (.int .i64 n3) w4) ∧
  ((w2).heap.size ≤ (w4).heap.size) ∧
  if (n1 != n3) = true then
   R (.returned (.bool false)) w4
  else
   ∃ q5 : Option Addr, ∃ w6 : World, (Sem.run Try.prog (Go.Instr.range 85 (.map (a))) w4 = .ok (.pointer (q5)) w6) ∧
   ((w4).heap.size ≤ (w6).heap.size) ∧
   ∃ x7 : World → List Nat → Prop, ∃ x8 : World → Nat, (x7 w6 []) ∧
   ∀ w9 : World, ∀ L10 : List Nat, (X.LF (w).heap.size w9 L10) →
   (x7 w9 L10) →
   ∃ b11 : Bool, ∃ L12 : List Value, ∃ w13 : World, (Sem.run Try.prog (Go.Instr.next (.pointer (q5)) false 0) w9 = .ok (.tuple ((Value.bool b11 :: L12).toArray)) w13) ∧
   ((w9).heap.size ≤ (w13).heap.size) ∧
   if b11 = true then
    ∃ n14 : Int, ∃ n15 : Int, ∃ n16 : Int, ∃ w17 : World, (Sem.run Try.prog (Go.Instr.entry (.pointer (q5))) w13 = .ok (.tuple #[(.agg #[(.int .u8 n14), (.int .u16 n15)]), (.int .u32 n16)]) w17) ∧
    ((w13).heap.size ≤ (w17).heap.size) ∧
    ∀ w18 : World, ∀ L19 : List Nat, (X.Hid [] w17 w18) →
    (X.NewL (w).heap.size [] w17 w18 L19) →
    ∃ n20 : Int, ∃ b21 : Bool, ∃ w22 : World, (Sem.run Try.prog (Go.Instr.lookup 85 (.map (b)) (.agg #[(.int .u8 n14), (.int .u16 n15)]) true) w18 = .ok (.tuple #[(.int .u32 n20), (.bool b21)]) w22) ∧
    (X.Kept L19 w18 w22) ∧
    if ((!b21) || (n16 != n20)) = true then
     R (.returned (.bool false)) w22
    else
     (x7 w22 (L19)) ∧
     Nat.le ((x8 w22) + 1) (x8 w9)
   else
    R (.returned (.bool true)) w13) :
    Calls Try.prog 40 #[.map a, .map b] w R :=
  X.calls_of { isLoc := [5], sym := [10, 12], loops := [(4, .inv [] [] true)], joins := [], ents := [(18, [50, 32])] } Try.func40 (by kernel_rfl) h
abbrev fn_gemotlaw14_AmoApart : Nat := 4
theorem x_gemotlaw14_AmoApart (a : Int) (b : Option Addr) (bl bc : Nat) (c : Option Addr) (cl cc : Nat) (w : World) (R : Ending → World → Prop) (h :
  X.CallX Try.prog 8 #[(.slice (b) bl bc)] w fun e1 w2 =>
   ∃ b3 : Bool, (e1 = .returned (.bool b3)) ∧
   ((w).heap.size ≤ (w2).heap.size) ∧
   if ((!b3) == false) = true then
    X.CallX Try.prog 8 #[(.slice (c) cl cc)] w2 fun e7 w8 =>
     ∃ b9 : Bool, (e7 = .returned (.bool b9)) ∧
     ((w2).heap.size ≤ (w8).heap.size) ∧
     if ((false || (!b9)) == false) = true then
      X.CallX Try.prog 9 #[] w8 fun e13 w14 =>
       ∃ b15 : Bool, (e13 = .returned (.bool b15)) ∧
       ((w8).heap.size ≤ (w14).heap.size) ∧
       if (false || (!b15)) = true then
        X.CallX Try.prog 9 #[] w14 fun e174 w175 =>
         ∃ b176 : Bool, (e174 = .returned (.bool b176)) ∧
         ((w14).heap.size ≤ (w175).heap.size) ∧
         R (.returned (.bool b176)) w175
       else
        X.CallX Try.prog 10 #[(.int .i64 a)] w14 fun e16 w17 =>
         ∃ q18 : Option Addr, (e16 = .returned (.pointer (q18))) ∧
         ((w14).heap.size ≤ (w17).heap.size) ∧
         X.CallX Try.prog 10 #[(.int .i64 a)] w17 fun e19 w20 =>
          ∃ q21 : Option Addr, (e19 = .returned (.pointer (q21))) ∧
          ((w17).heap.size ≤ (w20).heap.size) ∧
          ∃ x22 : Int → World → List Nat → Prop, ∃ x23 : Int → World → Nat, (x22 0 w20 []) ∧
          ∀ n24 : Int, ∀ w25 : World, ∀ L26 : List Nat, (X.LF (w).heap.size w25 L26) →
          (x22 n24 w25 L26) →
          if (decide (n24 < ((bl : Nat) : Int))) = true then
           ((0 : Int) ≤ n24) ∧
           (n24 < ((bl : Nat) : Int)) ∧
           X.onSome (b) fun p138 =>
           ∃ n139 : Int, ∃ n140 : Int, ∃ n141 : Int, ∃ n142 : Int, ∃ n143 : Int, ∃ n144 : Int, ∃ n145 : Int, ∃ n146 : Int, ∃ n147 : Int, ∃ n148 : Int, ∃ n149 : Int, ∃ n150 : Int, ∃ s151 : ByteArray, ∃ n152 : Int, (X.Cells w25 (p138.add ((n24).toNat * 14)) [(.int .i64 n139), (.int .u8 n140), (.int .u16 n141), (.int .u32 n142), (.int .u8 n143), (.int .u8 n144), (.int .u8 n145), (.int .u8 n146), (.int .u8 n147), (.int .u8 n148), (.int .u8 n149), (.int .u8 n150), (.string s151), (.int .u32 n152)]) ∧
           X.CallX Try.prog 11 #[(.pointer (q18)), (.agg #[(.int .i64 n139), (.int .u8 n140), (.int .u16 n141), (.int .u32 n142), (.int .u8 n143), (.int .u8 n144), (.int .u8 n145), (.int .u8 n146), (.int .u8 n147), (.int .u8 n148), (.int .u8 n149), (.int .u8 n150), (.string s151), (.int .u32 n152)])] w25 fun e153 w154 =>
            ∃ b155 : Bool, (e153 = .returned (.bool b155)) ∧
            ((w25).heap.size ≤ (w154).heap.size) ∧
            ((0 : Int) ≤ n24) ∧
            (n24 < ((bl : Nat) : Int)) ∧
            X.onSome (b) fun p156 =>
            ∃ n157 : Int, ∃ n158 : Int, ∃ n159 : Int, ∃ n160 : Int, ∃ n161 : Int, ∃ n162 : Int, ∃ n163 : Int, ∃ n164 : Int, ∃ n165 : Int, ∃ n166 : Int, ∃ n167 : Int, ∃ n168 : Int, ∃ s169 : ByteArray, ∃ n170 : Int, (X.Cells w154 (p156.add ((n24).toNat * 14)) [(.int .i64 n157), (.int .u8 n158), (.int .u16 n159), (.int .u32 n160), (.int .u8 n161), (.int .u8 n162), (.int .u8 n163), (.int .u8 n164), (.int .u8 n165), (.int .u8 n166), (.int .u8 n167), (.int .u8 n168), (.string s169), (.int .u32 n170)]) ∧
            X.CallX Try.prog 11 #[(.pointer (q21)), (.agg #[(.int .i64 n157), (.int .u8 n158), (.int .u16 n159), (.int .u32 n160), (.int .u8 n161), (.int .u8 n162), (.int .u8 n163), (.int .u8 n164), (.int .u8 n165), (.int .u8 n166), (.int .u8 n167), (.int .u8 n168), (.string s169), (.int .u32 n170)])] w154 fun e171 w172 =>
             ∃ b173 : Bool, (e171 = .returned (.bool b173)) ∧
             ((w154).heap.size ≤ (w172).heap.size) ∧
             (x22 (IntKind.wrap .i64 (n24 + 1)) w172 []) ∧
             Nat.le ((x23 (IntKind.wrap .i64 (n24 + 1)) w172) + 1) (x23 n24 w25)
          else
           X.CallX Try.prog 12 #[(.pointer (q18))] w25 fun e27 w28 =>
            ∃ q29 : Option Addr, (e27 = .returned (.pointer (q29))) ∧
            ((w25).heap.size ≤ (w28).heap.size) ∧
            X.CallX Try.prog 13 #[(.pointer (q29)), (.pointer (q18))] w28 fun e30 w31 =>
             ∃ b32 : Bool, (e30 = .returned (.bool b32)) ∧
             ((w28).heap.size ≤ (w31).heap.size) ∧
             if ((!b32) == false) = true then
              X.CallX Try.prog 13 #[(.pointer (q18)), (.pointer (q21))] w31 fun e33 w34 =>
               ∃ b35 : Bool, (e33 = .returned (.bool b35)) ∧
               ((w31).heap.size ≤ (w34).heap.size) ∧
               if ((false || (!b35)) == false) = true then
                X.CallX Try.prog 13 #[(.pointer (q21)), (.pointer (q29))] w34 fun e36 w37 =>
                 ∃ b38 : Bool, (e36 = .returned (.bool b38)) ∧
                 ((w34).heap.size ≤ (w37).heap.size) ∧
                 if (false || (!b38)) = true then
                  R (.returned (.bool false)) w37
                 else
                  ∃ x39 : Int → World → List Nat → Prop, ∃ x40 : Int → World → Nat, (x39 0 w37 []) ∧
                  ∀ n41 : Int, ∀ w42 : World, ∀ L43 : List Nat, (X.LF (w).heap.size w42 L43) →
                  (x39 n41 w42 L43) →
                  if (decide (n41 < ((cl : Nat) : Int))) = true then
                   ((0 : Int) ≤ n41) ∧
                   (n41 < ((cl : Nat) : Int)) ∧
                   X.onSome (c) fun p120 =>
                   ∃ n121 : Int, ∃ n122 : Int, ∃ n123 : Int, ∃ n124 : Int, ∃ n125 : Int, ∃ n126 : Int, ∃ n127 : Int, ∃ n128 : Int, ∃ n129 : Int, ∃ n130 : Int, ∃ n131 : Int, ∃ n132 : Int, ∃ s133 : ByteArray, ∃ n134 : Int, (X.Cells w42 (p120.add ((n41).toNat * 14)) [(.int .i64 n121), (.int .u8 n122), (.int .u16 n123), (.int .u32 n124), (.int .u8 n125), (.int .u8 n126), (.int .u8 n127), (.int .u8 n128), (.int .u8 n129), (.int .u8 n130), (.int .u8 n131), (.int .u8 n132), (.string s133), (.int .u32 n134)]) ∧
                   X.CallX Try.prog 11 #[(.pointer (q18)), (.agg #[(.int .i64 n121), (.int .u8 n122), (.int .u16 n123), (.int .u32 n124), (.int .u8 n125), (.int .u8 n126), (.int .u8 n127), (.int .u8 n128), (.int .u8 n129), (.int .u8 n130), (.int .u8 n131), (.int .u8 n132), (.string s133), (.int .u32 n134)])] w42 fun e135 w136 =>
                    ∃ b137 : Bool, (e135 = .returned (.bool b137)) ∧
                    ((w42).heap.size ≤ (w136).heap.size) ∧
                    (x39 (IntKind.wrap .i64 (n41 + 1)) w136 []) ∧
                    Nat.le ((x40 (IntKind.wrap .i64 (n41 + 1)) w136) + 1) (x40 n41 w42)
                  else
                   X.CallX Try.prog 14 #[(.int .i64 a)] w42 fun e44 w45 =>
                    ∃ q46 : Option Addr, (e44 = .returned (.pointer (q46))) ∧
                    ((w42).heap.size ≤ (w45).heap.size) ∧
                    X.CallX Try.prog 14 #[(.int .i64 a)] w45 fun e47 w48 =>
                     ∃ q49 : Option Addr, (e47 = .returned (.pointer (q49))) ∧
                     ((w45).heap.size ≤ (w48).heap.size) ∧
                     ∃ x50 : Int → World → List Nat → Prop, ∃ x51 : Int → World → Nat, (x50 0 w48 []) ∧
                     ∀ n52 : Int, ∀ w53 : World, ∀ L54 : List Nat, (X.LF (w).heap.size w53 L54) →
                     (x50 n52 w53 L54) →
                     if (decide (n52 < ((bl : Nat) : Int))) = true then
                      ((0 : Int) ≤ n52) ∧
                      (n52 < ((bl : Nat) : Int)) ∧
                      X.onSome (b) fun p86 =>
                      ∃ n87 : Int, ∃ n88 : Int, ∃ n89 : Int, ∃ n90 : Int, ∃ n91 : Int, ∃ n92 : Int, ∃ n93 : Int, ∃ n94 : Int, ∃ n95 : Int, ∃ n96 : Int, ∃ n97 : Int, ∃ n98 : Int, ∃ s99 : ByteArray, ∃ n100 : Int, (X.Cells w53 (p86.add ((n52).toNat * 14)) [(.int .i64 n87), (.int .u8 n88), (.int .u16 n89), (.int .u32 n90), (.int .u8 n91), (.int .u8 n92), (.int .u8 n93), (.int .u8 n94), (.int .u8 n95), (.int .u8 n96), (.int .u8 n97), (.int .u8 n98), (.string s99), (.int .u32 n100)]) ∧
                      X.CallX Try.prog 15 #[(.pointer (q46)), (.agg #[(.int .i64 n87), (.int .u8 n88), (.int .u16 n89), (.int .u32 n90), (.int .u8 n91), (.int .u8 n92), (.int .u8 n93), (.int .u8 n94), (.int .u8 n95), (.int .u8 n96), (.int .u8 n97), (.int .u8 n98), (.string s99), (.int .u32 n100)])] w53 fun e101 w102 =>
                       (e101 = .returned (.tuple #[])) ∧
                       ((w53).heap.size ≤ (w102).heap.size) ∧
                       ((0 : Int) ≤ n52) ∧
                       (n52 < ((bl : Nat) : Int)) ∧
                       X.onSome (b) fun p103 =>
                       ∃ n104 : Int, ∃ n105 : Int, ∃ n106 : Int, ∃ n107 : Int, ∃ n108 : Int, ∃ n109 : Int, ∃ n110 : Int, ∃ n111 : Int, ∃ n112 : Int, ∃ n113 : Int, ∃ n114 : Int, ∃ n115 : Int, ∃ s116 : ByteArray, ∃ n117 : Int, (X.Cells w102 (p103.add ((n52).toNat * 14)) [(.int .i64 n104), (.int .u8 n105), (.int .u16 n106), (.int .u32 n107), (.int .u8 n108), (.int .u8 n109), (.int .u8 n110), (.int .u8 n111), (.int .u8 n112), (.int .u8 n113), (.int .u8 n114), (.int .u8 n115), (.string s116), (.int .u32 n117)]) ∧
                       X.CallX Try.prog 15 #[(.pointer (q49)), (.agg #[(.int .i64 n104), (.int .u8 n105), (.int .u16 n106), (.int .u32 n107), (.int .u8 n108), (.int .u8 n109), (.int .u8 n110), (.int .u8 n111), (.int .u8 n112), (.int .u8 n113), (.int .u8 n114), (.int .u8 n115), (.string s116), (.int .u32 n117)])] w102 fun e118 w119 =>
                        (e118 = .returned (.tuple #[])) ∧
                        ((w102).heap.size ≤ (w119).heap.size) ∧
                        (x50 (IntKind.wrap .i64 (n52 + 1)) w119 []) ∧
                        Nat.le ((x51 (IntKind.wrap .i64 (n52 + 1)) w119) + 1) (x51 n52 w53)
                     else
                      ∃ x55 : Int → World → List Nat → Prop, ∃ x56 : Int → World → Nat, (x55 0 w53 []) ∧
                      ∀ n57 : Int, ∀ w58 : World, ∀ L59 : List Nat, (X.LF (w).heap.size w58 L59) →
                      (x55 n57 w58 L59) →
                      if (decide (n57 < ((cl : Nat) : Int))) = true then
                       ((0 : Int) ≤ n57) ∧
                       (n57 < ((cl : Nat) : Int)) ∧
                       X.onSome (c) fun p69 =>
                       ∃ n70 : Int, ∃ n71 : Int, ∃ n72 : Int, ∃ n73 : Int, ∃ n74 : Int, ∃ n75 : Int, ∃ n76 : Int, ∃ n77 : Int, ∃ n78 : Int, ∃ n79 : Int, ∃ n80 : Int, ∃ n81 : Int, ∃ s82 : ByteArray, ∃ n83 : Int, (X.Cells w58 (p69.add ((n57).toNat * 14)) [(.int .i64 n70), (.int .u8 n71), (.int .u16 n72), (.int .u32 n73), (.int .u8 n74), (.int .u8 n75), (.int .u8 n76), (.int .u8 n77), (.int .u8 n78), (.int .u8 n79), (.int .u8 n80), (.int .u8 n81), (.string s82), (.int .u32 n83)]) ∧
                       X.CallX Try.prog 15 #[(.pointer (q49)), (.agg #[(.int .i64 n70), (.int .u8 n71), (.int .u16 n72), (.int .u32 n73), (.int .u8 n74), (.int .u8 n75), (.int .u8 n76), (.int .u8 n77), (.int .u8 n78), (.int .u8 n79), (.int .u8 n80), (.int .u8 n81), (.string s82), (.int .u32 n83)])] w58 fun e84 w85 =>
                        (e84 = .returned (.tuple #[])) ∧
                        ((w58).heap.size ≤ (w85).heap.size) ∧
                        (x55 (IntKind.wrap .i64 (n57 + 1)) w85 []) ∧
                        Nat.le ((x56 (IntKind.wrap .i64 (n57 + 1)) w85) + 1) (x56 n57 w58)
                      else
                       X.CallX Try.prog 13 #[(.pointer (q29)), (.pointer (q21))] w58 fun e60 w61 =>
                        ∃ b62 : Bool, (e60 = .returned (.bool b62)) ∧
                        ((w58).heap.size ≤ (w61).heap.size) ∧
                        if (b62 == true) = true then
                         X.CallX Try.prog 13 #[(.pointer (q18)), (.pointer (q21))] w61 fun e63 w64 =>
                          ∃ b65 : Bool, (e63 = .returned (.bool b65)) ∧
                          ((w61).heap.size ≤ (w64).heap.size) ∧
                          X.CallX Try.prog 16 #[(.pointer (q46)), (.pointer (q49))] w64 fun e66 w67 =>
                           ∃ b68 : Bool, (e66 = .returned (.bool b68)) ∧
                           ((w64).heap.size ≤ (w67).heap.size) ∧
                           R (.returned (.bool (true && (b65 == b68)))) w67
                        else
                         R (.returned (.bool false)) w61
               else
                R (.returned (.bool false)) w34
             else
              R (.returned (.bool false)) w31
     else
      X.CallX Try.prog 9 #[] w8 fun e10 w11 =>
       ∃ b12 : Bool, (e10 = .returned (.bool b12)) ∧
       ((w8).heap.size ≤ (w11).heap.size) ∧
       R (.returned (.bool b12)) w11
   else
    X.CallX Try.prog 9 #[] w2 fun e4 w5 =>
     ∃ b6 : Bool, (e4 = .returned (.bool b6)) ∧
     ((w2).heap.size ≤ (w5).heap.size) ∧
     R (.returned (.bool b6)) w5) :
    Calls Try.prog 4 #[.int .i64 a, .slice b bl bc, .slice c cl cc] w R :=
  X.calls_of { isLoc := [], sym := [], loops := [(6, .inv [(9, .int .i64)] [] true), (14, .inv [(11, .int .i64)] [] true), (20, .inv [(14, .int .i64)] [] true), (25, .inv [(15, .int .i64)] [] true)], joins := [] } Try.func4 (by kernel_rfl) h
end Go.Proofs
