import Derived.Test.YtpijekgiblcfhaaXFn
import Derived.Test.YtpijekgiblcfhaaProg
/- The verification conditions of this seat's functions, as the engine has them: printed by a program of the bench; checked by the kernel. -/
set_option maxRecDepth 100000
set_option linter.unusedVariables false
namespace Go.Proofs
open Go
abbrev fn_amo_New : Nat := 10
theorem x_amo_New (a : Int) (w : World) (R : Ending → World → Prop) (h :
  R (.returned (.pointer (some ⟨(((w.alloc (.map #[] 0)).alloc (.map #[] 0))).heap.size, 0, none⟩))) (((w.alloc (.map #[] 0)).alloc (.map #[] 0)).alloc (.cells #[(.int .u32 (IntKind.wrap .u32 (if (16 : Int) < (if (1 : Int) > a then 1 else a) then 16 else (if (1 : Int) > a then 1 else a)))), (.map (some (w).heap.size)), (.map (some ((w.alloc (.map #[] 0))).heap.size))] 87))) :
    Calls Try.prog 10 #[.int .i64 a] w R :=
  X.calls_of { isLoc := [], sym := [], loops := [], joins := [] } Try.func10 (by kernel_rfl) h
abbrev fn_amo_Table_none : Nat := 36
theorem x_amo_Table_none (a : Addr) (w : World) (R : Ending → World → Prop) (h :
  ∃ q1 : Option Nat, (World.cell? w (a.add 1) = some (.map (q1))) ∧
  R (.returned (.bool (false || (q1.isNone)))) w) :
    Calls Try.prog 36 #[.pointer (some a)] w R :=
  X.calls_of { isLoc := [], sym := [], loops := [], joins := [] } Try.func36 (by kernel_rfl) h
abbrev fn_amo_Table_old : Nat := 50
theorem x_amo_Table_old (a : Addr) (b_0 b_1 b_2 b_3 b_4 b_5 b_6 b_7 b_8 b_9 : Int) (w : World) (R : Ending → World → Prop) (h :
  ∃ x1 : X.Facts, (X.FactsW x1 w []) ∧
  if ((b_3 == 0) == true) = true then
   ∃ q3 : Option Nat, (((a.add 2), [(.map (q3))]) ∈ x1) ∧
   ∀ w4 : World, ∀ L5 : List Nat, (X.Hid [] w w4) →
   (X.NewL (w).heap.size [] w w4 L5) →
   ∃ n6 : Int, ∃ w7 : World, (Sem.run Try.prog (Go.Instr.lookup 85 (.map (q3)) (.agg #[(.int .u8 b_0), (.int .u16 b_1)]) false) w4 = .ok (.int .u32 n6) w7) ∧
   (X.Kept L5 w4 w7) ∧
   (X.FactsW x1 w7 (L5)) ∧
   R (.returned (.bool (true && decide (b_2 ≤ n6)))) w7
  else
   ∀ w2 : World, (X.Hid [] w w2) →
   R (.returned (.bool false)) w2) :
    Calls Try.prog 50 #[.pointer (some a), .agg #[.int .u8 b_0, .int .u16 b_1, .int .u32 b_2, .int .u8 b_3, .int .u8 b_4, .int .u8 b_5, .int .u8 b_6, .int .u8 b_7, .int .u8 b_8, .int .u8 b_9]] w R :=
  X.calls_of { isLoc := [3], sym := [], loops := [], joins := [] } Try.func50 (by kernel_rfl) h
abbrev fn_amo_Table_State : Nat := 31
theorem x_amo_Table_State (a : Addr) (b_0 b_1 b_2 b_3 b_4 b_5 b_6 b_7 b_8 b_9 : Int) (w : World) (R : Ending → World → Prop) (h :
  ∀ w1 : World, ∀ L2 : List Nat, (X.Hid [] w w1) →
  (X.NewL (w).heap.size [] w w1 L2) →
  X.CallX Try.prog 36 #[(.pointer (some a))] w1 fun e3 w4 =>
   ∃ b5 : Bool, (e3 = .returned (.bool b5)) ∧
   (X.Kept L2 w1 w4) ∧
   if b5 = true then
    R (.returned (.int .i64 3)) w4
   else
    ∃ x6 : X.Facts, (X.FactsW x6 w4 (L2)) ∧
    ∃ q7 : Option Nat, (((a.add 1), [(.map (q7))]) ∈ x6) ∧
    (∀ w8 : World, ∀ L9 : List Nat, (X.Hid (L2) w4 w8) →
     (X.NewL (w).heap.size (L2) w4 w8 L9) →
     ∃ n10 : Int, ∃ n11 : Int, ∃ n12 : Int, ∃ n13 : Int, ∃ n14 : Int, ∃ n15 : Int, ∃ n16 : Int, ∃ n17 : Int, ∃ n18 : Int, ∃ n19 : Int, ∃ b20 : Bool, ∃ n21 : Int, ∃ s22 : ByteArray, ∃ b23 : Bool, ∃ w24 : World, (Sem.run Try.prog (Go.Instr.lookup 84 (.map (q7)) (.agg #[(.int .u8 b_0), (.int .u16 b_1), (.int .u32 b_2), (.int .u8 b_3), (.int .u8 b_4), (.int .u8 b_5), (.int .u8 b_6), (.int .u8 b_7), (.int .u8 b_8), (.int .u8 b_9)]) true) w8 = .ok (.tuple #[(.agg #[(.int .u8 n10), (.int .u16 n11), (.int .u32 n12), (.int .u8 n13), (.int .u8 n14), (.int .u8 n15), (.int .u8 n16), (.int .u8 n17), (.int .u8 n18), (.int .u8 n19), (.bool b20), (.int .u8 n21), (.string s22)]), (.bool b23)]) w24) ∧
     (X.Kept L9 w8 w24) ∧
     (X.FactsW x6 w24 (L9)) ∧
     if (b23 && b20) = true then
      ∀ w39 : World, (X.Hid (L9) w24 w39) →
      R (.returned (.int .i64 2)) w39
     else
      if b23 = true then
       ∀ w38 : World, (X.Hid (L9) w24 w38) →
       R (.returned (.int .i64 1)) w38
      else
       ∀ w25 : World, ∀ L26 : List Nat, (X.Hid (L9) w24 w25) →
       (X.NewL (w).heap.size (L9) w24 w25 L26) →
       X.CallX Try.prog 50 #[(.pointer (some a)), (.agg #[(.int .u8 b_0), (.int .u16 b_1), (.int .u32 b_2), (.int .u8 b_3), (.int .u8 b_4), (.int .u8 b_5), (.int .u8 b_6), (.int .u8 b_7), (.int .u8 b_8), (.int .u8 b_9)])] w25 fun e27 w28 =>
        ∃ b29 : Bool, (e27 = .returned (.bool b29)) ∧
        (X.Kept L26 w25 w28) ∧
        if b29 = true then
         R (.returned (.int .i64 3)) w28
        else
         ∃ x30 : X.Facts, (X.FactsW x30 w28 (L26)) ∧
         if ((b_3 == 0) == true) = true then
          ∃ q32 : Option Nat, (((a.add 2), [(.map (q32))]) ∈ x30) ∧
          ∃ n33 : Int, (((a.add 0), [(.int .u32 n33)]) ∈ x30) ∧
          ∀ w34 : World, ∀ L35 : List Nat, (X.Hid (L26) w28 w34) →
          (X.NewL (w).heap.size (L26) w28 w34 L35) →
          ∃ n36 : Int, ∃ w37 : World, (Sem.run Try.prog (Go.Instr.lookup 85 (.map (q32)) (.agg #[(.int .u8 b_0), (.int .u16 b_1)]) false) w34 = .ok (.int .u32 n36) w37) ∧
          (X.Kept L35 w34 w37) ∧
          (X.FactsW x30 w37 (L35)) ∧
          if (true && decide ((IntKind.wrap .u32 (b_2 - n36)) > n33)) = true then
           R (.returned (.int .i64 4)) w37
          else
           R (.returned (.int .i64 0)) w37
         else
          ∀ w31 : World, (X.Hid (L26) w28 w31) →
          R (.returned (.int .i64 0)) w31) ∧
    ∀ w40 : World, ∀ L41 : List Nat, (X.Hid (L2) w4 w40) →
    (X.NewL (w).heap.size (L2) w4 w40 L41) →
    ∃ n42 : Int, ∃ n43 : Int, ∃ n44 : Int, ∃ n45 : Int, ∃ n46 : Int, ∃ n47 : Int, ∃ n48 : Int, ∃ n49 : Int, ∃ n50 : Int, ∃ n51 : Int, ∃ b52 : Bool, ∃ n53 : Int, ∃ s54 : ByteArray, ∃ b55 : Bool, ∃ w56 : World, (Sem.run Try.prog (Go.Instr.lookup 84 (.map (q7)) (.agg #[(.int .u8 b_0), (.int .u16 b_1), (.int .u32 b_2), (.int .u8 b_3), (.int .u8 b_4), (.int .u8 b_5), (.int .u8 b_6), (.int .u8 b_7), (.int .u8 b_8), (.int .u8 b_9)]) true) w40 = .ok (.tuple #[(.agg #[(.int .u8 n42), (.int .u16 n43), (.int .u32 n44), (.int .u8 n45), (.int .u8 n46), (.int .u8 n47), (.int .u8 n48), (.int .u8 n49), (.int .u8 n50), (.int .u8 n51), (.bool b52), (.int .u8 n53), (.string s54)]), (.bool b55)]) w56) ∧
    (X.Kept L41 w40 w56) ∧
    (X.FactsW x6 w56 (L41)) ∧
    if (b55 && b52) = true then
     ∀ w71 : World, (X.Hid (L41) w56 w71) →
     R (.returned (.int .i64 2)) w71
    else
     if b55 = true then
      ∀ w70 : World, (X.Hid (L41) w56 w70) →
      R (.returned (.int .i64 1)) w70
     else
      ∀ w57 : World, ∀ L58 : List Nat, (X.Hid (L41) w56 w57) →
      (X.NewL (w).heap.size (L41) w56 w57 L58) →
      X.CallX Try.prog 50 #[(.pointer (some a)), (.agg #[(.int .u8 b_0), (.int .u16 b_1), (.int .u32 b_2), (.int .u8 b_3), (.int .u8 b_4), (.int .u8 b_5), (.int .u8 b_6), (.int .u8 b_7), (.int .u8 b_8), (.int .u8 b_9)])] w57 fun e59 w60 =>
       ∃ b61 : Bool, (e59 = .returned (.bool b61)) ∧
       (X.Kept L58 w57 w60) ∧
       if b61 = true then
        R (.returned (.int .i64 3)) w60
       else
        ∃ x62 : X.Facts, (X.FactsW x62 w60 (L58)) ∧
        if ((b_3 == 0) == true) = true then
         ∃ q64 : Option Nat, (((a.add 2), [(.map (q64))]) ∈ x62) ∧
         ∃ n65 : Int, (((a.add 0), [(.int .u32 n65)]) ∈ x62) ∧
         ∀ w66 : World, ∀ L67 : List Nat, (X.Hid (L58) w60 w66) →
         (X.NewL (w).heap.size (L58) w60 w66 L67) →
         ∃ n68 : Int, ∃ w69 : World, (Sem.run Try.prog (Go.Instr.lookup 85 (.map (q64)) (.agg #[(.int .u8 b_0), (.int .u16 b_1)]) false) w66 = .ok (.int .u32 n68) w69) ∧
         (X.Kept L67 w66 w69) ∧
         (X.FactsW x62 w69 (L67)) ∧
         if (true && decide ((IntKind.wrap .u32 (b_2 - n68)) > n65)) = true then
          R (.returned (.int .i64 4)) w69
         else
          R (.returned (.int .i64 0)) w69
        else
         ∀ w63 : World, (X.Hid (L58) w60 w63) →
         R (.returned (.int .i64 0)) w63) :
    Calls Try.prog 31 #[.pointer (some a), .agg #[.int .u8 b_0, .int .u16 b_1, .int .u32 b_2, .int .u8 b_3, .int .u8 b_4, .int .u8 b_5, .int .u8 b_6, .int .u8 b_7, .int .u8 b_8, .int .u8 b_9]] w R :=
  X.calls_of { isLoc := [3, 5], sym := [], loops := [], joins := [], stored := [(3, [5])] } Try.func31 (by kernel_rfl) h
abbrev fn_amo_Table_Begin : Nat := 21
theorem x_amo_Table_Begin (a : Addr) (b_0 b_1 b_2 b_3 b_4 b_5 b_6 b_7 b_8 b_9 : Int) (w : World) (R : Ending → World → Prop) (h :
  ∀ w1 : World, ∀ L2 : List Nat, (X.Hid [] w w1) →
  (X.NewL (w).heap.size [] w w1 L2) →
  X.CallX Try.prog 36 #[(.pointer (some a))] w1 fun e3 w4 =>
   ∃ b5 : Bool, (e3 = .returned (.bool b5)) ∧
   (X.Kept L2 w1 w4) ∧
   if (b5 == false) = true then
    X.CallX Try.prog 47 #[(.agg #[(.int .u8 b_0), (.int .u16 b_1), (.int .u32 b_2), (.int .u8 b_3), (.int .u8 b_4), (.int .u8 b_5), (.int .u8 b_6), (.int .u8 b_7), (.int .u8 b_8), (.int .u8 b_9)])] w4 fun e6 w7 =>
     ∃ b8 : Bool, (e6 = .returned (.bool b8)) ∧
     (X.Kept L2 w4 w7) ∧
     if (false || (!b8)) = true then
      R (.returned (.int .i64 1)) w7
     else
      X.CallX Try.prog 31 #[(.pointer (some a)), (.agg #[(.int .u8 b_0), (.int .u16 b_1), (.int .u32 b_2), (.int .u8 b_3), (.int .u8 b_4), (.int .u8 b_5), (.int .u8 b_6), (.int .u8 b_7), (.int .u8 b_8), (.int .u8 b_9)])] w7 fun e9 w10 =>
       ∃ n11 : Int, (e9 = .returned (.int .i64 n11)) ∧
       (X.Kept L2 w7 w10) ∧
       if (n11 == 3) = true then
        R (.returned (.int .i64 16)) w10
       else
        if (n11 == 4) = true then
         R (.returned (.int .i64 10)) w10
        else
         if (n11 == 0) = true then
          ∃ x12 : X.Facts, (X.FactsW x12 w10 (L2)) ∧
          ∃ q13 : Option Nat, (((a.add 1), [(.map (q13))]) ∈ x12) ∧
          ∀ w14 : World, ∀ L15 : List Nat, (X.Hid (L2) w10 w14) →
          (X.NewL (w).heap.size (L2) w10 w14 L15) →
          ∃ w16 : World, (Sem.run Try.prog (Go.Instr.mapUpdate 84 (.map (q13)) (.agg #[(.int .u8 b_0), (.int .u16 b_1), (.int .u32 b_2), (.int .u8 b_3), (.int .u8 b_4), (.int .u8 b_5), (.int .u8 b_6), (.int .u8 b_7), (.int .u8 b_8), (.int .u8 b_9)]) (.agg #[(.int .u8 b_0), (.int .u16 b_1), (.int .u32 b_2), (.int .u8 b_3), (.int .u8 b_4), (.int .u8 b_5), (.int .u8 b_6), (.int .u8 b_7), (.int .u8 b_8), (.int .u8 b_9), (.bool false), (.int .u8 0), (.string (ByteArray.mk #[]))])) w14 = .ok (PUnit.unit) w16) ∧
          (X.Kept L15 w14 w16) ∧
          R (.returned (.int .i64 0)) w16
         else
          R (.returned (.int .i64 4)) w10
   else
    R (.returned (.int .i64 1)) w4) :
    Calls Try.prog 21 #[.pointer (some a), .agg #[.int .u8 b_0, .int .u16 b_1, .int .u32 b_2, .int .u8 b_3, .int .u8 b_4, .int .u8 b_5, .int .u8 b_6, .int .u8 b_7, .int .u8 b_8, .int .u8 b_9]] w R :=
  X.calls_of { isLoc := [3], sym := [], loops := [], joins := [] } Try.func21 (by kernel_rfl) h
abbrev fn_amo_Table_End : Nat := 23
theorem x_amo_Table_End (a : Addr) (b_0 b_1 b_2 b_3 b_4 b_5 b_6 b_7 b_8 b_9 c_0 : Int) (c_1 : ByteArray) (w : World) (R : Ending → World → Prop) (h :
  ∀ w1 : World, ∀ L2 : List Nat, (X.Hid [] w w1) →
  (X.NewL (w).heap.size [] w w1 L2) →
  X.CallX Try.prog 31 #[(.pointer (some a)), (.agg #[(.int .u8 b_0), (.int .u16 b_1), (.int .u32 b_2), (.int .u8 b_3), (.int .u8 b_4), (.int .u8 b_5), (.int .u8 b_6), (.int .u8 b_7), (.int .u8 b_8), (.int .u8 b_9)])] w1 fun e3 w4 =>
   ∃ n5 : Int, (e3 = .returned (.int .i64 n5)) ∧
   (X.Kept L2 w1 w4) ∧
   if (n5 != 1) = true then
    R (.returned (.bool false)) w4
   else
    X.CallX Try.prog 50 #[(.pointer (some a)), (.agg #[(.int .u8 b_0), (.int .u16 b_1), (.int .u32 b_2), (.int .u8 b_3), (.int .u8 b_4), (.int .u8 b_5), (.int .u8 b_6), (.int .u8 b_7), (.int .u8 b_8), (.int .u8 b_9)])] w4 fun e6 w7 =>
     ∃ b8 : Bool, (e6 = .returned (.bool b8)) ∧
     (X.Kept L2 w4 w7) ∧
     if b8 = true then
      ∃ x14 : X.Facts, (X.FactsW x14 w7 (L2)) ∧
      ∃ q15 : Option Nat, (((a.add 1), [(.map (q15))]) ∈ x14) ∧
      ∀ w16 : World, ∀ L17 : List Nat, (X.Hid (L2) w7 w16) →
      (X.NewL (w).heap.size (L2) w7 w16 L17) →
      ∃ w18 : World, (Sem.run Try.prog (Go.Builtin.delete_ #[84, 54] 0 #[(.map (q15)), (.agg #[(.int .u8 b_0), (.int .u16 b_1), (.int .u32 b_2), (.int .u8 b_3), (.int .u8 b_4), (.int .u8 b_5), (.int .u8 b_6), (.int .u8 b_7), (.int .u8 b_8), (.int .u8 b_9)])]) w16 = .ok (.tuple #[]) w18) ∧
      (X.Kept L17 w16 w18) ∧
      R (.returned (.bool true)) w18
     else
      ∃ x9 : X.Facts, (X.FactsW x9 w7 (L2)) ∧
      ∃ q10 : Option Nat, (((a.add 1), [(.map (q10))]) ∈ x9) ∧
      ∀ w11 : World, ∀ L12 : List Nat, (X.Hid (L2) w7 w11) →
      (X.NewL (w).heap.size (L2) w7 w11 L12) →
      ∃ w13 : World, (Sem.run Try.prog (Go.Instr.mapUpdate 84 (.map (q10)) (.agg #[(.int .u8 b_0), (.int .u16 b_1), (.int .u32 b_2), (.int .u8 b_3), (.int .u8 b_4), (.int .u8 b_5), (.int .u8 b_6), (.int .u8 b_7), (.int .u8 b_8), (.int .u8 b_9)]) (.agg #[(.int .u8 b_0), (.int .u16 b_1), (.int .u32 b_2), (.int .u8 b_3), (.int .u8 b_4), (.int .u8 b_5), (.int .u8 b_6), (.int .u8 b_7), (.int .u8 b_8), (.int .u8 b_9), (.bool true), (.int .u8 c_0), (.string c_1)])) w11 = .ok (PUnit.unit) w13) ∧
      (X.Kept L12 w11 w13) ∧
      R (.returned (.bool true)) w13) :
    Calls Try.prog 23 #[.pointer (some a), .agg #[.int .u8 b_0, .int .u16 b_1, .int .u32 b_2, .int .u8 b_3, .int .u8 b_4, .int .u8 b_5, .int .u8 b_6, .int .u8 b_7, .int .u8 b_8, .int .u8 b_9], .agg #[.int .u8 c_0, .string c_1]] w R :=
  X.calls_of { isLoc := [4, 5], sym := [], loops := [], joins := [] } Try.func23 (by kernel_rfl) h
abbrev fn_amo_Table_Raise : Nat := 26
theorem x_amo_Table_Raise (a : Addr) (b_0 b_1 c : Int) (w : World) (R : Ending → World → Prop) (h :
  ∃ x1 : X.Facts, (X.FactsW x1 w []) ∧
  ∀ w2 : World, ∀ L3 : List Nat, (X.Hid [] w w2) →
  (X.NewL (w).heap.size [] w w2 L3) →
  X.CallX Try.prog 36 #[(.pointer (some a))] w2 fun e4 w5 =>
   ∃ b6 : Bool, (e4 = .returned (.bool b6)) ∧
   (X.Kept L3 w2 w5) ∧
   (X.FactsW x1 w5 (L3)) ∧
   ∃ x7 : X.Facts, (X.FactsW x7 w5 (L3)) ∧
   (∀ x8 : Addr × List Value, (x8 ∈ x1) →
    x8 ∈ x7) ∧
   if (b6 == false) = true then
    X.CallX Try.prog 52 #[(.agg #[(.int .u8 b_0), (.int .u16 b_1)])] w5 fun e11 w12 =>
     ∃ b13 : Bool, (e11 = .returned (.bool b13)) ∧
     (X.Kept L3 w5 w12) ∧
     (X.FactsW x7 w12 (L3)) ∧
     ∃ x14 : X.Facts, (X.FactsW x14 w12 (L3)) ∧
     (∀ x15 : Addr × List Value, (x15 ∈ x7) →
      x15 ∈ x14) ∧
     if (((false || (!b13)) || decide (c > 1048576)) == false) = true then
      ∃ q16 : Option Nat, (((a.add 2), [(.map (q16))]) ∈ x14) ∧
      ∃ n17 : Int, ∃ w18 : World, (Sem.run Try.prog (Go.Instr.lookup 85 (.map (q16)) (.agg #[(.int .u8 b_0), (.int .u16 b_1)]) false) w12 = .ok (.int .u32 n17) w18) ∧
      (X.Kept L3 w12 w18) ∧
      (X.FactsW x14 w18 (L3)) ∧
      if (false || decide (c ≤ n17)) = true then
       R (.returned (.tuple #[])) w18
      else
       ∃ x19 : X.Facts, (X.FactsW x19 w18 (L3)) ∧
       ∃ q20 : Option Nat, (((a.add 2), [(.map (q20))]) ∈ x19) ∧
       ∀ w21 : World, ∀ L22 : List Nat, (X.Hid (L3) w18 w21) →
       (X.NewL (w).heap.size (L3) w18 w21 L22) →
       ∃ w23 : World, (Sem.run Try.prog (Go.Instr.mapUpdate 85 (.map (q20)) (.agg #[(.int .u8 b_0), (.int .u16 b_1)]) (.int .u32 c)) w21 = .ok (PUnit.unit) w23) ∧
       (X.Kept L22 w21 w23) ∧
       ∃ x24 : X.Facts, (X.FactsW x24 w23 (L22)) ∧
       ∃ q25 : Option Nat, (((a.add 1), [(.map (q25))]) ∈ x24) ∧
       ∀ w26 : World, ∀ L27 : List Nat, (X.Hid (L22) w23 w26) →
       (X.NewL (w).heap.size (L22) w23 w26 L27) →
       X.CallX Try.prog 54 #[(.pointer (some a)), (.agg #[(.int .u8 b_0), (.int .u16 b_1)])] w26 fun e28 w29 =>
        ∃ v30 : Value, (e28 = .returned (v30)) ∧
        (X.Kept L27 w26 w29) ∧
        (X.FactsW x24 w29 (L27)) ∧
        X.CallX Try.prog 53 #[(.map (q25)), (v30)] w29 fun e31 w32 =>
         (e31 = .returned (.tuple #[])) ∧
         (X.Kept L27 w29 w32) ∧
         (X.FactsW x24 w32 (L27)) ∧
         R (.returned (.tuple #[])) w32
     else
      R (.returned (.tuple #[])) w12
   else
    ∃ x9 : X.Facts, (X.FactsW x9 w5 (L3)) ∧
    (∀ x10 : Addr × List Value, (x10 ∈ x7) →
     x10 ∈ x9) ∧
    R (.returned (.tuple #[])) w5) :
    Calls Try.prog 26 #[.pointer (some a), .agg #[.int .u8 b_0, .int .u16 b_1], .int .u32 c] w R :=
  X.calls_of { isLoc := [4], sym := [], loops := [], joins := [] } Try.func26 (by kernel_rfl) h
abbrev fn_amo_Table_Res : Nat := 28
theorem x_amo_Table_Res (a : Addr) (b_0 b_1 b_2 b_3 b_4 b_5 b_6 b_7 b_8 b_9 : Int) (w : World) (R : Ending → World → Prop) (h :
  ∀ w1 : World, ∀ L2 : List Nat, (X.Hid [] w w1) →
  (X.NewL (w).heap.size [] w w1 L2) →
  X.CallX Try.prog 31 #[(.pointer (some a)), (.agg #[(.int .u8 b_0), (.int .u16 b_1), (.int .u32 b_2), (.int .u8 b_3), (.int .u8 b_4), (.int .u8 b_5), (.int .u8 b_6), (.int .u8 b_7), (.int .u8 b_8), (.int .u8 b_9)])] w1 fun e3 w4 =>
   ∃ n5 : Int, (e3 = .returned (.int .i64 n5)) ∧
   (X.Kept L2 w1 w4) ∧
   if (n5 != 2) = true then
    ∀ w25 : World, (X.Hid (L2) w4 w25) →
    R (.returned (.tuple #[(.agg #[(.int .u8 0), (.string (ByteArray.mk #[]))]), (.bool false)])) w25
   else
    ∃ x6 : X.Facts, (X.FactsW x6 w4 (L2)) ∧
    ∃ q7 : Option Nat, (((a.add 1), [(.map (q7))]) ∈ x6) ∧
    ∀ w8 : World, ∀ L9 : List Nat, (X.Hid (L2) w4 w8) →
    (X.NewL (w).heap.size (L2) w4 w8 L9) →
    ∃ n10 : Int, ∃ n11 : Int, ∃ n12 : Int, ∃ n13 : Int, ∃ n14 : Int, ∃ n15 : Int, ∃ n16 : Int, ∃ n17 : Int, ∃ n18 : Int, ∃ n19 : Int, ∃ b20 : Bool, ∃ n21 : Int, ∃ s22 : ByteArray, ∃ w23 : World, (Sem.run Try.prog (Go.Instr.lookup 84 (.map (q7)) (.agg #[(.int .u8 b_0), (.int .u16 b_1), (.int .u32 b_2), (.int .u8 b_3), (.int .u8 b_4), (.int .u8 b_5), (.int .u8 b_6), (.int .u8 b_7), (.int .u8 b_8), (.int .u8 b_9)]) false) w8 = .ok (.agg #[(.int .u8 n10), (.int .u16 n11), (.int .u32 n12), (.int .u8 n13), (.int .u8 n14), (.int .u8 n15), (.int .u8 n16), (.int .u8 n17), (.int .u8 n18), (.int .u8 n19), (.bool b20), (.int .u8 n21), (.string s22)]) w23) ∧
    (X.Kept L9 w8 w23) ∧
    (X.FactsW x6 w23 (L9)) ∧
    ∀ w24 : World, (X.Hid (L9) w23 w24) →
    R (.returned (.tuple #[(.agg #[(.int .u8 n21), (.string s22)]), (.bool true)])) w24) :
    Calls Try.prog 28 #[.pointer (some a), .agg #[.int .u8 b_0, .int .u16 b_1, .int .u32 b_2, .int .u8 b_3, .int .u8 b_4, .int .u8 b_5, .int .u8 b_6, .int .u8 b_7, .int .u8 b_8, .int .u8 b_9]] w R :=
  X.calls_of { isLoc := [3, 4], sym := [], loops := [], joins := [], stored := [(3, [4])] } Try.func28 (by kernel_rfl) h
abbrev fn_amo_Table_Len : Nat := 34
theorem x_amo_Table_Len (a : Addr) (w : World) (R : Ending → World → Prop) (h :
  X.CallX Try.prog 36 #[(.pointer (some a))] w fun e1 w2 =>
   ∃ b3 : Bool, (e1 = .returned (.bool b3)) ∧
   ((w).heap.size ≤ (w2).heap.size) ∧
   if b3 = true then
    R (.returned (.int .i64 0)) w2
   else
    ∃ q4 : Option Nat, (World.cell? w2 (a.add 1) = some (.map (q4))) ∧
    ∃ n5 : Int, ∃ w6 : World, (Sem.run Try.prog (Go.Builtin.len_ #[84] 3 #[(.map (q4))]) w2 = .ok (.int .i64 n5) w6) ∧
    ((w2).heap.size ≤ (w6).heap.size) ∧
    R (.returned (.int .i64 n5)) w6) :
    Calls Try.prog 34 #[.pointer (some a)] w R :=
  X.calls_of { isLoc := [], sym := [9], loops := [], joins := [] } Try.func34 (by kernel_rfl) h
abbrev fn_ident_ID_Right : Nat := 47
theorem x_ident_ID_Right (a_0 a_1 a_2 a_3 a_4 a_5 a_6 a_7 a_8 a_9 : Int) (w : World) (R : Ending → World → Prop) (h :
  ∀ w1 : World, ∀ L2 : List Nat, (X.Hid [] w w1) →
  (X.NewL (w).heap.size [] w w1 L2) →
  X.CallX Try.prog 52 #[(.agg #[(.int .u8 a_0), (.int .u16 a_1)])] w1 fun e3 w4 =>
   ∃ b5 : Bool, (e3 = .returned (.bool b5)) ∧
   (X.Kept L2 w1 w4) ∧
   if ((((!b5) || (a_2 == 0)) || decide (a_2 > 1048576)) || decide (a_3 > 3)) = true then
    R (.returned (.bool false)) w4
   else
    if ((decide ((0 : Int) < (IntKind.wrap .i64 a_3)) && decide (a_4 ≥ 4)) || ((!decide ((0 : Int) < (IntKind.wrap .i64 a_3))) && (!((a_4 == 0) && (a_5 == 0))))) = true then
     ∀ w9 : World, (X.Hid (L2) w4 w9) →
     R (.returned (.bool false)) w9
    else
     if ((decide ((1 : Int) < (IntKind.wrap .i64 a_3)) && decide (a_6 ≥ 4)) || ((!decide ((1 : Int) < (IntKind.wrap .i64 a_3))) && (!((a_6 == 0) && (a_7 == 0))))) = true then
      ∀ w8 : World, (X.Hid (L2) w4 w8) →
      R (.returned (.bool false)) w8
     else
      if ((decide ((2 : Int) < (IntKind.wrap .i64 a_3)) && decide (a_8 ≥ 4)) || ((!decide ((2 : Int) < (IntKind.wrap .i64 a_3))) && (!((a_8 == 0) && (a_9 == 0))))) = true then
       ∀ w7 : World, (X.Hid (L2) w4 w7) →
       R (.returned (.bool false)) w7
      else
       ∀ w6 : World, (X.Hid (L2) w4 w6) →
       R (.returned (.bool true)) w6) :
    Calls Try.prog 47 #[.agg #[.int .u8 a_0, .int .u16 a_1, .int .u32 a_2, .int .u8 a_3, .int .u8 a_4, .int .u8 a_5, .int .u8 a_6, .int .u8 a_7, .int .u8 a_8, .int .u8 a_9]] w R :=
  X.calls_of { isLoc := [1, 4], sym := [], loops := [(4, .unroll 4)], joins := [] } Try.func47 (by kernel_rfl) h
abbrev fn_ident_Proc_Right : Nat := 52
theorem x_ident_Proc_Right (a_0 a_1 : Int) (w : World) (R : Ending → World → Prop) (h :
  ∀ w1 : World, (X.Hid [] w w1) →
  R (.returned (.bool (decide (a_0 < 16) && decide (a_1 > 0)))) w1) :
    Calls Try.prog 52 #[.agg #[.int .u8 a_0, .int .u16 a_1]] w R :=
  X.calls_of { isLoc := [1], sym := [], loops := [], joins := [] } Try.func52 (by kernel_rfl) h
abbrev fn_gemotlaw14_num : Nat := 20
theorem x_gemotlaw14_num (a : Int) (w : World) (R : Ending → World → Prop) (h :
  R (.returned (.int .i64 a)) w) :
    Calls Try.prog 20 #[.int .i64 a] w R :=
  X.calls_of { isLoc := [], sym := [], loops := [], joins := [] } Try.func20 (by kernel_rfl) h
abbrev fn_gemotlaw02_ID : Nat := 17
theorem x_gemotlaw02_ID (a_0 a_1 a_2 a_3 a_4 a_5 a_6 a_7 a_8 a_9 : Int) (w : World) (R : Ending → World → Prop) (h :
  ∃ x1 : X.Facts, (X.FactsW x1 w []) ∧
  (∀ w2 : World, ∀ L3 : List Nat, (X.Hid [] w w2) →
   (X.NewL (w).heap.size [] w w2 L3) →
   X.CallX Try.prog 41 #[(.agg #[(.int .u8 a_0), (.int .u16 a_1)])] w2 fun e4 w5 =>
    ∃ n6 : Int, ∃ n7 : Int, (e4 = .returned (.agg #[(.int .u8 n6), (.int .u16 n7)])) ∧
    (X.Kept L3 w2 w5) ∧
    (X.FactsW x1 w5 (L3)) ∧
    ∃ x8 : X.Facts, (X.FactsW x8 w5 (L3)) ∧
    ∃ x9 : X.Facts, (X.FactsW x9 w5 (L3)) ∧
    ∃ x10 : X.Facts, (X.FactsW x10 w5 (L3)) ∧
    ∀ w11 : World, (X.Hid (L3) w5 w11) →
    R (.returned (.agg #[(.int .u8 n6), (.int .u16 n7), (.int .u32 a_2), (.int .u8 a_3), (.int .u8 a_4), (.int .u8 a_5), (.int .u8 a_6), (.int .u8 a_7), (.int .u8 a_8), (.int .u8 a_9)])) w11) ∧
  ∀ w12 : World, ∀ L13 : List Nat, (X.Hid [] w w12) →
  (X.NewL (w).heap.size [] w w12 L13) →
  X.CallX Try.prog 41 #[(.agg #[(.int .u8 a_0), (.int .u16 a_1)])] w12 fun e14 w15 =>
   ∃ n16 : Int, ∃ n17 : Int, (e14 = .returned (.agg #[(.int .u8 n16), (.int .u16 n17)])) ∧
   (X.Kept L13 w12 w15) ∧
   (X.FactsW x1 w15 (L13)) ∧
   ∃ x18 : X.Facts, (X.FactsW x18 w15 (L13)) ∧
   ∃ x19 : X.Facts, (X.FactsW x19 w15 (L13)) ∧
   ∃ x20 : X.Facts, (X.FactsW x20 w15 (L13)) ∧
   ∀ w21 : World, (X.Hid (L13) w15 w21) →
   R (.returned (.agg #[(.int .u8 n16), (.int .u16 n17), (.int .u32 a_2), (.int .u8 a_3), (.int .u8 a_4), (.int .u8 a_5), (.int .u8 a_6), (.int .u8 a_7), (.int .u8 a_8), (.int .u8 a_9)])) w21) :
    Calls Try.prog 17 #[.agg #[.int .u8 a_0, .int .u16 a_1, .int .u32 a_2, .int .u8 a_3, .int .u8 a_4, .int .u8 a_5, .int .u8 a_6, .int .u8 a_7, .int .u8 a_8, .int .u8 a_9]] w R :=
  X.calls_of { isLoc := [1, 2, 3], sym := [], loops := [(3, .unroll 4)], joins := [], stored := [(1, [3]), (5, [3])] } Try.func17 (by kernel_rfl) h
abbrev fn_gemotlaw02_Proc : Nat := 41
theorem x_gemotlaw02_Proc (a_0 a_1 : Int) (w : World) (R : Ending → World → Prop) (h :
  ∀ w1 : World, (X.Hid [] w w1) →
  R (.returned (.agg #[(.int .u8 a_0), (.int .u16 a_1)])) w1) :
    Calls Try.prog 41 #[.agg #[.int .u8 a_0, .int .u16 a_1]] w R :=
  X.calls_of { isLoc := [1, 2], sym := [], loops := [], joins := [] } Try.func41 (by kernel_rfl) h
abbrev fn_gemotlaw03_Res : Nat := 24
theorem x_gemotlaw03_Res (a_0 : Int) (a_1 : ByteArray) (w : World) (R : Ending → World → Prop) (h :
  ∀ w1 : World, (X.Hid [] w w1) →
  R (.returned (.agg #[(.int .u8 a_0), (.string a_1)])) w1) :
    Calls Try.prog 24 #[.agg #[.int .u8 a_0, .string a_1]] w R :=
  X.calls_of { isLoc := [1, 2], sym := [], loops := [], joins := [] } Try.func24 (by kernel_rfl) h
abbrev fn_gemotlaw14_light : Nat := 8
theorem x_gemotlaw14_light (a : Option Addr) (al ac : Nat) (w : World) (R : Ending → World → Prop) (h :
  ∃ x1 : Int → Int → World → List Nat → Prop, ∃ x2 : Int → Int → World → Nat, (x1 4000 0 w []) ∧
  ∀ n3 : Int, ∀ n4 : Int, ∀ w5 : World, ∀ L6 : List Nat, (X.LF (w).heap.size w5 L6) →
  (x1 n3 n4 w5 L6) →
  if (decide (n4 < ((al : Nat) : Int)) && decide (n4 < 200)) = true then
   ((0 : Int) ≤ n4) ∧
   (n4 < ((al : Nat) : Int)) ∧
   X.onSome (a) fun p7 =>
   ∃ s8 : ByteArray, (World.cell? w5 ⟨((p7.add (n4.toNat * 14)).block), ((((p7.add (n4.toNat * 14)).off) + 11) + 1), none⟩ = some (.string s8)) ∧
   (x1 (IntKind.wrap .i64 (n3 - (if (5000 : Int) < (((s8.size) : Nat) : Int) then 5000 else (((s8.size) : Nat) : Int)))) (IntKind.wrap .i64 (n4 + 1)) w5 []) ∧
   Nat.le ((x2 (IntKind.wrap .i64 (n3 - (if (5000 : Int) < (((s8.size) : Nat) : Int) then 5000 else (((s8.size) : Nat) : Int)))) (IntKind.wrap .i64 (n4 + 1)) w5) + 1) (x2 n3 n4 w5)
  else
   R (.returned (.bool (decide (((al : Nat) : Int) ≤ 100) && decide (n3 ≥ 0)))) w5) :
    Calls Try.prog 8 #[.slice a al ac] w R :=
  X.calls_of { isLoc := [], sym := [], loops := [(3, .inv [(3, .int .i64), (4, .int .i64)] [] true)], joins := [] } Try.func8 (by kernel_rfl) h
abbrev fn_gemotlaw14_knows : Nat := 9
theorem x_gemotlaw14_knows  (w : World) (R : Ending → World → Prop) (h :
  X.CallX Try.prog 10 #[(.int .i64 2)] w fun e1 w2 =>
   ∃ q3 : Option Addr, (e1 = .returned (.pointer (q3))) ∧
   ((w).heap.size ≤ (w2).heap.size) ∧
   ∀ w4 : World, ∀ L5 : List Nat, (X.Hid [] w2 w4) →
   (X.NewL (w).heap.size [] w2 w4 L5) →
   X.CallX Try.prog 21 #[(.pointer (q3)), (.agg #[(.int .u8 1), (.int .u16 1), (.int .u32 1), (.int .u8 0), (.int .u8 0), (.int .u8 0), (.int .u8 0), (.int .u8 0), (.int .u8 0), (.int .u8 0)])] w4 fun e6 w7 =>
    ∃ n8 : Int, (e6 = .returned (.int .i64 n8)) ∧
    (X.Kept L5 w4 w7) ∧
    X.CallX Try.prog 21 #[(.pointer (q3)), (.agg #[(.int .u8 1), (.int .u16 1), (.int .u32 1), (.int .u8 0), (.int .u8 0), (.int .u8 0), (.int .u8 0), (.int .u8 0), (.int .u8 0), (.int .u8 0)])] w7 fun e9 w10 =>
     ∃ n11 : Int, (e9 = .returned (.int .i64 n11)) ∧
     (X.Kept L5 w7 w10) ∧
     X.CallX Try.prog 23 #[(.pointer (q3)), (.agg #[(.int .u8 1), (.int .u16 1), (.int .u32 1), (.int .u8 0), (.int .u8 0), (.int .u8 0), (.int .u8 0), (.int .u8 0), (.int .u8 0), (.int .u8 0)]), (.agg #[(.int .u8 0), (.string (ByteArray.mk #[OfNat.ofNat 120]))])] w10 fun e12 w13 =>
      ∃ b14 : Bool, (e12 = .returned (.bool b14)) ∧
      (X.Kept L5 w10 w13) ∧
      X.CallX Try.prog 28 #[(.pointer (q3)), (.agg #[(.int .u8 1), (.int .u16 1), (.int .u32 1), (.int .u8 0), (.int .u8 0), (.int .u8 0), (.int .u8 0), (.int .u8 0), (.int .u8 0), (.int .u8 0)])] w13 fun e15 w16 =>
       ∃ n17 : Int, ∃ s18 : ByteArray, ∃ b19 : Bool, (e15 = .returned (.tuple #[(.agg #[(.int .u8 n17), (.string s18)]), (.bool b19)])) ∧
       (X.Kept L5 w13 w16) ∧
       ∀ w20 : World, ∀ L21 : List Nat, (X.Hid (L5) w16 w20) →
       (X.NewL (w).heap.size (L5) w16 w20 L21) →
       X.CallX Try.prog 20 #[(.int .i64 n8)] w20 fun e22 w23 =>
        ∃ n24 : Int, (e22 = .returned (.int .i64 n24)) ∧
        (X.Kept L21 w20 w23) ∧
        if ((n24 == 0) == true) = true then
         X.CallX Try.prog 20 #[(.int .i64 n11)] w23 fun e25 w26 =>
          ∃ n27 : Int, (e25 = .returned (.int .i64 n27)) ∧
          (X.Kept L21 w23 w26) ∧
          if (((((true && (n27 == 4)) && b14) && b19) && ((s18.toList) == ((ByteArray.mk #[OfNat.ofNat 120]).toList))) == true) = true then
           X.CallX Try.prog 34 #[(.pointer (q3))] w26 fun e28 w29 =>
            ∃ n30 : Int, (e28 = .returned (.int .i64 n30)) ∧
            (X.Kept L21 w26 w29) ∧
            R (.returned (.bool (true && (n30 == 1)))) w29
          else
           R (.returned (.bool false)) w26
        else
         R (.returned (.bool false)) w23) :
    Calls Try.prog 9 #[] w R :=
  X.calls_of { isLoc := [2, 6], sym := [], loops := [], joins := [] } Try.func9 (by kernel_rfl) h
abbrev fn_gemotlaw14_do : Nat := 11
theorem x_gemotlaw14_do (a : Addr) (b_0 b_1 b_2 b_3 b_4 b_5 b_6 b_7 b_8 b_9 b_10 b_11 : Int) (b_12 : ByteArray) (b_13 : Int) (w : World) (R : Ending → World → Prop) (h :
  ∀ w1 : World, ∀ L2 : List Nat, (X.Hid [] w w1) →
  (X.NewL (w).heap.size [] w w1 L2) →
  X.CallX Try.prog 17 #[(.agg #[(.int .u8 b_1), (.int .u16 b_2), (.int .u32 b_3), (.int .u8 b_4), (.int .u8 b_5), (.int .u8 b_6), (.int .u8 b_7), (.int .u8 b_8), (.int .u8 b_9), (.int .u8 b_10)])] w1 fun e3 w4 =>
   ∃ n5 : Int, ∃ n6 : Int, ∃ n7 : Int, ∃ n8 : Int, ∃ n9 : Int, ∃ n10 : Int, ∃ n11 : Int, ∃ n12 : Int, ∃ n13 : Int, ∃ n14 : Int, (e3 = .returned (.agg #[(.int .u8 n5), (.int .u16 n6), (.int .u32 n7), (.int .u8 n8), (.int .u8 n9), (.int .u8 n10), (.int .u8 n11), (.int .u8 n12), (.int .u8 n13), (.int .u8 n14)])) ∧
   (X.Kept L2 w1 w4) ∧
   if (b_0 == 0) = true then
    if (b_0 == 0) = true then
     ∀ w121 : World, ∀ L122 : List Nat, (X.Hid (L2) w4 w121) →
     (X.NewL (w).heap.size (L2) w4 w121 L122) →
     X.CallX Try.prog 21 #[(.pointer (some a)), (.agg #[(.int .u8 n5), (.int .u16 n6), (.int .u32 n7), (.int .u8 n8), (.int .u8 n9), (.int .u8 n10), (.int .u8 n11), (.int .u8 n12), (.int .u8 n13), (.int .u8 n14)])] w121 fun e123 w124 =>
      ∃ n125 : Int, (e123 = .returned (.int .i64 n125)) ∧
      (X.Kept L122 w121 w124) ∧
      X.CallX Try.prog 20 #[(.int .i64 n125)] w124 fun e126 w127 =>
       ∃ n128 : Int, (e126 = .returned (.int .i64 n128)) ∧
       (X.Kept L122 w124 w127) ∧
       R (.returned (.bool (n128 == 0))) w127
    else
     if (b_0 == 3) = true then
      if (b_0 == 3) = true then
       ∃ x111 : X.Facts, (X.FactsW x111 w4 (L2)) ∧
       ∀ w112 : World, ∀ L113 : List Nat, (X.Hid (L2) w4 w112) →
       (X.NewL (w).heap.size (L2) w4 w112 L113) →
       X.CallX Try.prog 24 #[(.agg #[(.int .u8 b_11), (.string b_12)])] w112 fun e114 w115 =>
        ∃ n116 : Int, ∃ s117 : ByteArray, (e114 = .returned (.agg #[(.int .u8 n116), (.string s117)])) ∧
        (X.Kept L113 w112 w115) ∧
        (X.FactsW x111 w115 (L113)) ∧
        X.CallX Try.prog 23 #[(.pointer (some a)), (.agg #[(.int .u8 n5), (.int .u16 n6), (.int .u32 n7), (.int .u8 n8), (.int .u8 n9), (.int .u8 n10), (.int .u8 n11), (.int .u8 n12), (.int .u8 n13), (.int .u8 n14)]), (.agg #[(.int .u8 n116), (.string s117)])] w115 fun e118 w119 =>
         ∃ b120 : Bool, (e118 = .returned (.bool b120)) ∧
         (X.Kept L113 w115 w119) ∧
         (X.FactsW x111 w119 (L113)) ∧
         R (.returned (.bool false)) w119
      else
       if (b_0 == 5) = true then
        ∀ w107 : World, ∀ L108 : List Nat, (X.Hid (L2) w4 w107) →
        (X.NewL (w).heap.size (L2) w4 w107 L108) →
        X.CallX Try.prog 26 #[(.pointer (some a)), (.agg #[(.int .u8 n5), (.int .u16 n6)]), (.int .u32 b_13)] w107 fun e109 w110 =>
         (e109 = .returned (.tuple #[])) ∧
         (X.Kept L108 w107 w110) ∧
         R (.returned (.bool false)) w110
       else
        ∀ w106 : World, (X.Hid (L2) w4 w106) →
        R (.returned (.bool false)) w106
     else
      if (b_0 == 4) = true then
       ∃ x96 : X.Facts, (X.FactsW x96 w4 (L2)) ∧
       ∀ w97 : World, ∀ L98 : List Nat, (X.Hid (L2) w4 w97) →
       (X.NewL (w).heap.size (L2) w4 w97 L98) →
       X.CallX Try.prog 24 #[(.agg #[(.int .u8 b_11), (.string b_12)])] w97 fun e99 w100 =>
        ∃ n101 : Int, ∃ s102 : ByteArray, (e99 = .returned (.agg #[(.int .u8 n101), (.string s102)])) ∧
        (X.Kept L98 w97 w100) ∧
        (X.FactsW x96 w100 (L98)) ∧
        X.CallX Try.prog 23 #[(.pointer (some a)), (.agg #[(.int .u8 n5), (.int .u16 n6), (.int .u32 n7), (.int .u8 n8), (.int .u8 n9), (.int .u8 n10), (.int .u8 n11), (.int .u8 n12), (.int .u8 n13), (.int .u8 n14)]), (.agg #[(.int .u8 n101), (.string s102)])] w100 fun e103 w104 =>
         ∃ b105 : Bool, (e103 = .returned (.bool b105)) ∧
         (X.Kept L98 w100 w104) ∧
         (X.FactsW x96 w104 (L98)) ∧
         R (.returned (.bool false)) w104
      else
       if (b_0 == 5) = true then
        ∀ w92 : World, ∀ L93 : List Nat, (X.Hid (L2) w4 w92) →
        (X.NewL (w).heap.size (L2) w4 w92 L93) →
        X.CallX Try.prog 26 #[(.pointer (some a)), (.agg #[(.int .u8 n5), (.int .u16 n6)]), (.int .u32 b_13)] w92 fun e94 w95 =>
         (e94 = .returned (.tuple #[])) ∧
         (X.Kept L93 w92 w95) ∧
         R (.returned (.bool false)) w95
       else
        ∀ w91 : World, (X.Hid (L2) w4 w91) →
        R (.returned (.bool false)) w91
   else
    if (b_0 == 1) = true then
     if (b_0 == 1) = true then
      ∀ w83 : World, ∀ L84 : List Nat, (X.Hid (L2) w4 w83) →
      (X.NewL (w).heap.size (L2) w4 w83 L84) →
      X.CallX Try.prog 21 #[(.pointer (some a)), (.agg #[(.int .u8 n5), (.int .u16 n6), (.int .u32 n7), (.int .u8 n8), (.int .u8 n9), (.int .u8 n10), (.int .u8 n11), (.int .u8 n12), (.int .u8 n13), (.int .u8 n14)])] w83 fun e85 w86 =>
       ∃ n87 : Int, (e85 = .returned (.int .i64 n87)) ∧
       (X.Kept L84 w83 w86) ∧
       X.CallX Try.prog 20 #[(.int .i64 n87)] w86 fun e88 w89 =>
        ∃ n90 : Int, (e88 = .returned (.int .i64 n90)) ∧
        (X.Kept L84 w86 w89) ∧
        R (.returned (.bool (n90 == 0))) w89
     else
      if (b_0 == 3) = true then
       if (b_0 == 3) = true then
        ∃ x73 : X.Facts, (X.FactsW x73 w4 (L2)) ∧
        ∀ w74 : World, ∀ L75 : List Nat, (X.Hid (L2) w4 w74) →
        (X.NewL (w).heap.size (L2) w4 w74 L75) →
        X.CallX Try.prog 24 #[(.agg #[(.int .u8 b_11), (.string b_12)])] w74 fun e76 w77 =>
         ∃ n78 : Int, ∃ s79 : ByteArray, (e76 = .returned (.agg #[(.int .u8 n78), (.string s79)])) ∧
         (X.Kept L75 w74 w77) ∧
         (X.FactsW x73 w77 (L75)) ∧
         X.CallX Try.prog 23 #[(.pointer (some a)), (.agg #[(.int .u8 n5), (.int .u16 n6), (.int .u32 n7), (.int .u8 n8), (.int .u8 n9), (.int .u8 n10), (.int .u8 n11), (.int .u8 n12), (.int .u8 n13), (.int .u8 n14)]), (.agg #[(.int .u8 n78), (.string s79)])] w77 fun e80 w81 =>
          ∃ b82 : Bool, (e80 = .returned (.bool b82)) ∧
          (X.Kept L75 w77 w81) ∧
          (X.FactsW x73 w81 (L75)) ∧
          R (.returned (.bool false)) w81
       else
        if (b_0 == 5) = true then
         ∀ w69 : World, ∀ L70 : List Nat, (X.Hid (L2) w4 w69) →
         (X.NewL (w).heap.size (L2) w4 w69 L70) →
         X.CallX Try.prog 26 #[(.pointer (some a)), (.agg #[(.int .u8 n5), (.int .u16 n6)]), (.int .u32 b_13)] w69 fun e71 w72 =>
          (e71 = .returned (.tuple #[])) ∧
          (X.Kept L70 w69 w72) ∧
          R (.returned (.bool false)) w72
        else
         ∀ w68 : World, (X.Hid (L2) w4 w68) →
         R (.returned (.bool false)) w68
      else
       if (b_0 == 4) = true then
        ∃ x58 : X.Facts, (X.FactsW x58 w4 (L2)) ∧
        ∀ w59 : World, ∀ L60 : List Nat, (X.Hid (L2) w4 w59) →
        (X.NewL (w).heap.size (L2) w4 w59 L60) →
        X.CallX Try.prog 24 #[(.agg #[(.int .u8 b_11), (.string b_12)])] w59 fun e61 w62 =>
         ∃ n63 : Int, ∃ s64 : ByteArray, (e61 = .returned (.agg #[(.int .u8 n63), (.string s64)])) ∧
         (X.Kept L60 w59 w62) ∧
         (X.FactsW x58 w62 (L60)) ∧
         X.CallX Try.prog 23 #[(.pointer (some a)), (.agg #[(.int .u8 n5), (.int .u16 n6), (.int .u32 n7), (.int .u8 n8), (.int .u8 n9), (.int .u8 n10), (.int .u8 n11), (.int .u8 n12), (.int .u8 n13), (.int .u8 n14)]), (.agg #[(.int .u8 n63), (.string s64)])] w62 fun e65 w66 =>
          ∃ b67 : Bool, (e65 = .returned (.bool b67)) ∧
          (X.Kept L60 w62 w66) ∧
          (X.FactsW x58 w66 (L60)) ∧
          R (.returned (.bool false)) w66
       else
        if (b_0 == 5) = true then
         ∀ w54 : World, ∀ L55 : List Nat, (X.Hid (L2) w4 w54) →
         (X.NewL (w).heap.size (L2) w4 w54 L55) →
         X.CallX Try.prog 26 #[(.pointer (some a)), (.agg #[(.int .u8 n5), (.int .u16 n6)]), (.int .u32 b_13)] w54 fun e56 w57 =>
          (e56 = .returned (.tuple #[])) ∧
          (X.Kept L55 w54 w57) ∧
          R (.returned (.bool false)) w57
        else
         ∀ w53 : World, (X.Hid (L2) w4 w53) →
         R (.returned (.bool false)) w53
    else
     if (b_0 == 2) = true then
      ∀ w45 : World, ∀ L46 : List Nat, (X.Hid (L2) w4 w45) →
      (X.NewL (w).heap.size (L2) w4 w45 L46) →
      X.CallX Try.prog 21 #[(.pointer (some a)), (.agg #[(.int .u8 n5), (.int .u16 n6), (.int .u32 n7), (.int .u8 n8), (.int .u8 n9), (.int .u8 n10), (.int .u8 n11), (.int .u8 n12), (.int .u8 n13), (.int .u8 n14)])] w45 fun e47 w48 =>
       ∃ n49 : Int, (e47 = .returned (.int .i64 n49)) ∧
       (X.Kept L46 w45 w48) ∧
       X.CallX Try.prog 20 #[(.int .i64 n49)] w48 fun e50 w51 =>
        ∃ n52 : Int, (e50 = .returned (.int .i64 n52)) ∧
        (X.Kept L46 w48 w51) ∧
        R (.returned (.bool (n52 == 0))) w51
     else
      if (b_0 == 3) = true then
       if (b_0 == 3) = true then
        ∃ x35 : X.Facts, (X.FactsW x35 w4 (L2)) ∧
        ∀ w36 : World, ∀ L37 : List Nat, (X.Hid (L2) w4 w36) →
        (X.NewL (w).heap.size (L2) w4 w36 L37) →
        X.CallX Try.prog 24 #[(.agg #[(.int .u8 b_11), (.string b_12)])] w36 fun e38 w39 =>
         ∃ n40 : Int, ∃ s41 : ByteArray, (e38 = .returned (.agg #[(.int .u8 n40), (.string s41)])) ∧
         (X.Kept L37 w36 w39) ∧
         (X.FactsW x35 w39 (L37)) ∧
         X.CallX Try.prog 23 #[(.pointer (some a)), (.agg #[(.int .u8 n5), (.int .u16 n6), (.int .u32 n7), (.int .u8 n8), (.int .u8 n9), (.int .u8 n10), (.int .u8 n11), (.int .u8 n12), (.int .u8 n13), (.int .u8 n14)]), (.agg #[(.int .u8 n40), (.string s41)])] w39 fun e42 w43 =>
          ∃ b44 : Bool, (e42 = .returned (.bool b44)) ∧
          (X.Kept L37 w39 w43) ∧
          (X.FactsW x35 w43 (L37)) ∧
          R (.returned (.bool false)) w43
       else
        if (b_0 == 5) = true then
         ∀ w31 : World, ∀ L32 : List Nat, (X.Hid (L2) w4 w31) →
         (X.NewL (w).heap.size (L2) w4 w31 L32) →
         X.CallX Try.prog 26 #[(.pointer (some a)), (.agg #[(.int .u8 n5), (.int .u16 n6)]), (.int .u32 b_13)] w31 fun e33 w34 =>
          (e33 = .returned (.tuple #[])) ∧
          (X.Kept L32 w31 w34) ∧
          R (.returned (.bool false)) w34
        else
         ∀ w30 : World, (X.Hid (L2) w4 w30) →
         R (.returned (.bool false)) w30
      else
       if (b_0 == 4) = true then
        ∃ x20 : X.Facts, (X.FactsW x20 w4 (L2)) ∧
        ∀ w21 : World, ∀ L22 : List Nat, (X.Hid (L2) w4 w21) →
        (X.NewL (w).heap.size (L2) w4 w21 L22) →
        X.CallX Try.prog 24 #[(.agg #[(.int .u8 b_11), (.string b_12)])] w21 fun e23 w24 =>
         ∃ n25 : Int, ∃ s26 : ByteArray, (e23 = .returned (.agg #[(.int .u8 n25), (.string s26)])) ∧
         (X.Kept L22 w21 w24) ∧
         (X.FactsW x20 w24 (L22)) ∧
         X.CallX Try.prog 23 #[(.pointer (some a)), (.agg #[(.int .u8 n5), (.int .u16 n6), (.int .u32 n7), (.int .u8 n8), (.int .u8 n9), (.int .u8 n10), (.int .u8 n11), (.int .u8 n12), (.int .u8 n13), (.int .u8 n14)]), (.agg #[(.int .u8 n25), (.string s26)])] w24 fun e27 w28 =>
          ∃ b29 : Bool, (e27 = .returned (.bool b29)) ∧
          (X.Kept L22 w24 w28) ∧
          (X.FactsW x20 w28 (L22)) ∧
          R (.returned (.bool false)) w28
       else
        if (b_0 == 5) = true then
         ∀ w16 : World, ∀ L17 : List Nat, (X.Hid (L2) w4 w16) →
         (X.NewL (w).heap.size (L2) w4 w16 L17) →
         X.CallX Try.prog 26 #[(.pointer (some a)), (.agg #[(.int .u8 n5), (.int .u16 n6)]), (.int .u32 b_13)] w16 fun e18 w19 =>
          (e18 = .returned (.tuple #[])) ∧
          (X.Kept L17 w16 w19) ∧
          R (.returned (.bool false)) w19
        else
         ∀ w15 : World, (X.Hid (L2) w4 w15) →
         R (.returned (.bool false)) w15) :
    Calls Try.prog 11 #[.pointer (some a), .agg #[.int .i64 b_0, .int .u8 b_1, .int .u16 b_2, .int .u32 b_3, .int .u8 b_4, .int .u8 b_5, .int .u8 b_6, .int .u8 b_7, .int .u8 b_8, .int .u8 b_9, .int .u8 b_10, .int .u8 b_11, .string b_12, .int .u32 b_13]] w R :=
  X.calls_of { isLoc := [3, 5], sym := [], loops := [], joins := [] } Try.func11 (by kernel_rfl) h
abbrev fn_gemotlaw14_AmoOnce : Nat := 3
theorem x_gemotlaw14_AmoOnce (a : Int) (b : Option Addr) (bl bc : Nat) (w : World) (R : Ending → World → Prop) (h :
  X.CallX Try.prog 8 #[(.slice (b) bl bc)] w fun e1 w2 =>
   ∃ b3 : Bool, (e1 = .returned (.bool b3)) ∧
   ((w).heap.size ≤ (w2).heap.size) ∧
   if ((!b3) == false) = true then
    X.CallX Try.prog 9 #[] w2 fun e7 w8 =>
     ∃ b9 : Bool, (e7 = .returned (.bool b9)) ∧
     ((w2).heap.size ≤ (w8).heap.size) ∧
     if (false || (!b9)) = true then
      X.CallX Try.prog 9 #[] w8 fun e83 w84 =>
       ∃ b85 : Bool, (e83 = .returned (.bool b85)) ∧
       ((w8).heap.size ≤ (w84).heap.size) ∧
       R (.returned (.bool b85)) w84
     else
      X.CallX Try.prog 10 #[(.int .i64 a)] w8 fun e10 w11 =>
       ∃ q12 : Option Addr, (e10 = .returned (.pointer (q12))) ∧
       ((w8).heap.size ≤ (w11).heap.size) ∧
       ∃ x13 : Option Addr → Nat → Nat → Int → World → List Nat → Prop, ∃ x14 : Option Addr → Nat → Nat → Int → World → Nat, (x13 (none) 0 0 0 w11 []) ∧
       ∀ q15 : Option Addr, ∀ k16 : Nat, ∀ k17 : Nat, ∀ n18 : Int, ∀ w19 : World, ∀ L20 : List Nat, (X.LF (w).heap.size w19 L20) →
       (x13 q15 k16 k17 n18 w19 L20) →
       if (decide (n18 < ((bl : Nat) : Int))) = true then
        ((0 : Int) ≤ n18) ∧
        (n18 < ((bl : Nat) : Int)) ∧
        X.onSome (b) fun p21 =>
        ∃ n22 : Int, ∃ n23 : Int, ∃ n24 : Int, ∃ n25 : Int, ∃ n26 : Int, ∃ n27 : Int, ∃ n28 : Int, ∃ n29 : Int, ∃ n30 : Int, ∃ n31 : Int, ∃ n32 : Int, ∃ n33 : Int, ∃ s34 : ByteArray, ∃ n35 : Int, (X.Cells w19 (p21.add ((n18).toNat * 14)) [(.int .i64 n22), (.int .u8 n23), (.int .u16 n24), (.int .u32 n25), (.int .u8 n26), (.int .u8 n27), (.int .u8 n28), (.int .u8 n29), (.int .u8 n30), (.int .u8 n31), (.int .u8 n32), (.int .u8 n33), (.string s34), (.int .u32 n35)]) ∧
        X.CallX Try.prog 11 #[(.pointer (q12)), (.agg #[(.int .i64 n22), (.int .u8 n23), (.int .u16 n24), (.int .u32 n25), (.int .u8 n26), (.int .u8 n27), (.int .u8 n28), (.int .u8 n29), (.int .u8 n30), (.int .u8 n31), (.int .u8 n32), (.int .u8 n33), (.string s34), (.int .u32 n35)])] w19 fun e36 w37 =>
         ∃ b38 : Bool, (e36 = .returned (.bool b38)) ∧
         ((w19).heap.size ≤ (w37).heap.size) ∧
         if (!b38) = true then
          (x13 q15 k16 k17 (IntKind.wrap .i64 (n18 + 1)) w37 []) ∧
          Nat.le ((x14 q15 k16 k17 (IntKind.wrap .i64 (n18 + 1)) w37) + 1) (x14 q15 k16 k17 n18 w19)
         else
          ∃ x39 : Int → World → List Nat → Prop, ∃ x40 : Int → World → Nat, (x39 0 w37 []) ∧
          ∀ n41 : Int, ∀ w42 : World, ∀ L43 : List Nat, (X.LF (w).heap.size w42 L43) →
          (x39 n41 w42 L43) →
          if (decide (n41 < ((k16 : Nat) : Int))) = true then
           ((0 : Int) ≤ n41) ∧
           (n41 < ((k16 : Nat) : Int)) ∧
           X.onSome (q15) fun p59 =>
           ∃ n60 : Int, ∃ n61 : Int, ∃ n62 : Int, ∃ n63 : Int, ∃ n64 : Int, ∃ n65 : Int, ∃ n66 : Int, ∃ n67 : Int, ∃ n68 : Int, ∃ n69 : Int, (X.Cells w42 (p59.add ((n41).toNat * 10)) [(.int .u8 n60), (.int .u16 n61), (.int .u32 n62), (.int .u8 n63), (.int .u8 n64), (.int .u8 n65), (.int .u8 n66), (.int .u8 n67), (.int .u8 n68), (.int .u8 n69)]) ∧
           ((0 : Int) ≤ n18) ∧
           (n18 < ((bl : Nat) : Int)) ∧
           X.onSome (b) fun p70 =>
           ∃ n71 : Int, ∃ n72 : Int, ∃ n73 : Int, ∃ n74 : Int, ∃ n75 : Int, ∃ n76 : Int, ∃ n77 : Int, ∃ n78 : Int, ∃ n79 : Int, ∃ n80 : Int, (X.Cells w42 ((p70.add ((n18).toNat * 14)).add 1) [(.int .u8 n71), (.int .u16 n72), (.int .u32 n73), (.int .u8 n74), (.int .u8 n75), (.int .u8 n76), (.int .u8 n77), (.int .u8 n78), (.int .u8 n79), (.int .u8 n80)]) ∧
           if (((n60 == n71) && (n61 == n72)) && ((n62 == n73) && ((n63 == n74) && (((n64 == n75) && (n65 == n76)) && (((n66 == n77) && (n67 == n78)) && ((n68 == n79) && (n69 == n80))))))) = true then
            ∀ w82 : World, (X.Hid [] w42 w82) →
            R (.returned (.bool false)) w82
           else
            ∀ w81 : World, (X.Hid [] w42 w81) →
            (x39 (IntKind.wrap .i64 (n41 + 1)) w81 []) ∧
            Nat.le ((x40 (IntKind.wrap .i64 (n41 + 1)) w81) + 1) (x40 n41 w42)
          else
           ((0 : Int) ≤ n18) ∧
           (n18 < ((bl : Nat) : Int)) ∧
           X.onSome (b) fun p44 =>
           ∃ n45 : Int, ∃ n46 : Int, ∃ n47 : Int, ∃ n48 : Int, ∃ n49 : Int, ∃ n50 : Int, ∃ n51 : Int, ∃ n52 : Int, ∃ n53 : Int, ∃ n54 : Int, (X.Cells w42 ((p44.add ((n18).toNat * 14)).add 1) [(.int .u8 n45), (.int .u16 n46), (.int .u32 n47), (.int .u8 n48), (.int .u8 n49), (.int .u8 n50), (.int .u8 n51), (.int .u8 n52), (.int .u8 n53), (.int .u8 n54)]) ∧
           ∃ q55 : Option Addr, ∃ k56 : Nat, ∃ k57 : Nat, ∃ w58 : World, (Sem.run Try.prog (Go.Builtin.append_ #[27, 27] 27 #[(.slice (q15) k16 k17), (.slice (some ⟨(w42).heap.size, 0, none⟩) 1 1)]) (w42.alloc (.cells #[(.int .u8 n45), (.int .u16 n46), (.int .u32 n47), (.int .u8 n48), (.int .u8 n49), (.int .u8 n50), (.int .u8 n51), (.int .u8 n52), (.int .u8 n53), (.int .u8 n54)] 37)) = .ok (.slice (q55) k56 k57) w58) ∧
           (((w42.alloc (.cells #[(.int .u8 n45), (.int .u16 n46), (.int .u32 n47), (.int .u8 n48), (.int .u8 n49), (.int .u8 n50), (.int .u8 n51), (.int .u8 n52), (.int .u8 n53), (.int .u8 n54)] 37))).heap.size ≤ (w58).heap.size) ∧
           (x13 q55 k56 k57 (IntKind.wrap .i64 (n18 + 1)) w58 []) ∧
           Nat.le ((x14 q55 k56 k57 (IntKind.wrap .i64 (n18 + 1)) w58) + 1) (x14 q15 k16 k17 n18 w19)
       else
        R (.returned (.bool true)) w19
   else
    X.CallX Try.prog 9 #[] w2 fun e4 w5 =>
     ∃ b6 : Bool, (e4 = .returned (.bool b6)) ∧
     ((w2).heap.size ≤ (w5).heap.size) ∧
     R (.returned (.bool b6)) w5) :
    Calls Try.prog 3 #[.int .i64 a, .slice b bl bc] w R :=
  X.calls_of { isLoc := [], sym := [], loops := [(6, .inv [(6, .slice), (7, .int .i64)] [] true), (10, .inv [(8, .int .i64)] [] true)], joins := [] } Try.func3 (by kernel_rfl) h
end Go.Proofs
