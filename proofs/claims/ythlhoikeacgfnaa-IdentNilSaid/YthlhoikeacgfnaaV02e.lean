import Derived.Test.YthlhoikeacgfnaaXFn
import Derived.Test.YthlhoikeacgfnaaProg
/- The verification conditions of this seat's functions, as the engine has them: printed by a program of the bench; checked by the kernel. -/
set_option maxRecDepth 100000
set_option linter.unusedVariables false
namespace Go.Proofs
open Go
abbrev fn_ident_Set_none : Nat := 50
theorem x_ident_Set_none (a : Addr) (w : World) (R : Ending → World → Prop) (h :
  ∃ q1 : Option Nat, (World.cell? w (a.add 0) = some (.map (q1))) ∧
  R (.returned (.bool (false || (q1.isNone)))) w) :
    Calls Try.prog 50 #[.pointer (some a)] w R :=
  X.calls_of { isLoc := [], sym := [], loops := [], joins := [] } Try.func50 (by kernel_rfl) h
abbrev fn_none_nil : Nat := 50
theorem x_none_nil  (w : World) (R : Ending → World → Prop) (h :
  R (.returned (.bool true)) w) :
    Calls Try.prog 50 #[.pointer none] w R :=
  X.calls_of { isLoc := [], sym := [], loops := [], joins := [] } Try.func50 (by kernel_rfl) h
abbrev fn_ident_NewSet : Nat := 34
theorem x_ident_NewSet (a : Int) (w : World) (R : Ending → World → Prop) (h :
  R (.returned (.pointer (some ⟨((w.alloc (.map #[] 0))).heap.size, 0, none⟩))) ((w.alloc (.map #[] 0)).alloc (.cells #[(.map (some (w).heap.size)), (.int .i64 (if (0 : Int) > a then 0 else a))] 69))) :
    Calls Try.prog 34 #[.int .i64 a] w R :=
  X.calls_of { isLoc := [], sym := [], loops := [], joins := [] } Try.func34 (by kernel_rfl) h
abbrev fn_ident_Set_Add : Nat := 28
theorem x_ident_Set_Add (a : Addr) (b_0 b_1 b_2 b_3 b_4 b_5 b_6 b_7 b_8 b_9 : Int) (w : World) (R : Ending → World → Prop) (h :
  ∀ w1 : World, ∀ L2 : List Nat, (X.Hid [] w w1) →
  (X.NewL (w).heap.size [] w w1 L2) →
  X.CallX Try.prog 50 #[(.pointer (some a))] w1 fun e3 w4 =>
   ∃ b5 : Bool, (e3 = .returned (.bool b5)) ∧
   (X.Kept L2 w1 w4) ∧
   if (b5 == false) = true then
    X.CallX Try.prog 17 #[(.agg #[(.int .u8 b_0), (.int .u16 b_1), (.int .u32 b_2), (.int .u8 b_3), (.int .u8 b_4), (.int .u8 b_5), (.int .u8 b_6), (.int .u8 b_7), (.int .u8 b_8), (.int .u8 b_9)])] w4 fun e6 w7 =>
     ∃ b8 : Bool, (e6 = .returned (.bool b8)) ∧
     (X.Kept L2 w4 w7) ∧
     if (false || (!b8)) = true then
      R (.returned (.int .i64 1)) w7
     else
      X.CallX Try.prog 30 #[(.pointer (some a)), (.agg #[(.int .u8 b_0), (.int .u16 b_1), (.int .u32 b_2), (.int .u8 b_3), (.int .u8 b_4), (.int .u8 b_5), (.int .u8 b_6), (.int .u8 b_7), (.int .u8 b_8), (.int .u8 b_9)])] w7 fun e9 w10 =>
       ∃ b11 : Bool, (e9 = .returned (.bool b11)) ∧
       (X.Kept L2 w7 w10) ∧
       if b11 = true then
        R (.returned (.int .i64 4)) w10
       else
        ∃ x12 : X.Facts, (X.FactsW x12 w10 (L2)) ∧
        ∃ q13 : Option Nat, (((a.add 0), [(.map (q13))]) ∈ x12) ∧
        ∃ n14 : Int, (((a.add 1), [(.int .i64 n14)]) ∈ x12) ∧
        ∀ w15 : World, ∀ L16 : List Nat, (X.Hid (L2) w10 w15) →
        (X.NewL (w).heap.size (L2) w10 w15 L16) →
        ∃ n17 : Int, ∃ w18 : World, (Sem.run Try.prog (Go.Builtin.len_ #[67] 3 #[(.map (q13))]) w15 = .ok (.int .i64 n17) w18) ∧
        (X.Kept L16 w15 w18) ∧
        (X.FactsW x12 w18 (L16)) ∧
        if (decide (n17 ≥ n14)) = true then
         R (.returned (.int .i64 11)) w18
        else
         ∃ x19 : X.Facts, (X.FactsW x19 w18 (L16)) ∧
         ∃ q20 : Option Nat, (((a.add 0), [(.map (q20))]) ∈ x19) ∧
         ∀ w21 : World, ∀ L22 : List Nat, (X.Hid (L16) w18 w21) →
         (X.NewL (w).heap.size (L16) w18 w21 L22) →
         ∃ w23 : World, (Sem.run Try.prog (Go.Instr.mapUpdate 67 (.map (q20)) (.agg #[(.int .u8 b_0), (.int .u16 b_1), (.int .u32 b_2), (.int .u8 b_3), (.int .u8 b_4), (.int .u8 b_5), (.int .u8 b_6), (.int .u8 b_7), (.int .u8 b_8), (.int .u8 b_9)]) (.agg #[])) w21 = .ok (PUnit.unit) w23) ∧
         (X.Kept L22 w21 w23) ∧
         R (.returned (.int .i64 0)) w23
   else
    R (.returned (.int .i64 1)) w4) :
    Calls Try.prog 28 #[.pointer (some a), .agg #[.int .u8 b_0, .int .u16 b_1, .int .u32 b_2, .int .u8 b_3, .int .u8 b_4, .int .u8 b_5, .int .u8 b_6, .int .u8 b_7, .int .u8 b_8, .int .u8 b_9]] w R :=
  X.calls_of { isLoc := [3], sym := [22], loops := [], joins := [] } Try.func28 (by kernel_rfl) h
abbrev fn_Add_nil : Nat := 28
theorem x_Add_nil (b_0 b_1 b_2 b_3 b_4 b_5 b_6 b_7 b_8 b_9 : Int) (w : World) (R : Ending → World → Prop) (h :
  ∀ w1 : World, ∀ L2 : List Nat, (X.Hid [] w w1) →
  (X.NewL (w).heap.size [] w w1 L2) →
  X.CallX Try.prog 50 #[(.pointer none)] w1 fun e3 w4 =>
   ∃ b5 : Bool, (e3 = .returned (.bool b5)) ∧
   (X.Kept L2 w1 w4) ∧
   if (b5 == false) = true then
    X.CallX Try.prog 17 #[(.agg #[(.int .u8 b_0), (.int .u16 b_1), (.int .u32 b_2), (.int .u8 b_3), (.int .u8 b_4), (.int .u8 b_5), (.int .u8 b_6), (.int .u8 b_7), (.int .u8 b_8), (.int .u8 b_9)])] w4 fun e6 w7 =>
     ∃ b8 : Bool, (e6 = .returned (.bool b8)) ∧
     (X.Kept L2 w4 w7) ∧
     if (false || (!b8)) = true then
      R (.returned (.int .i64 1)) w7
     else
      X.CallX Try.prog 30 #[(.pointer none), (.agg #[(.int .u8 b_0), (.int .u16 b_1), (.int .u32 b_2), (.int .u8 b_3), (.int .u8 b_4), (.int .u8 b_5), (.int .u8 b_6), (.int .u8 b_7), (.int .u8 b_8), (.int .u8 b_9)])] w7 fun e9 w10 =>
       ∃ b11 : Bool, (e9 = .returned (.bool b11)) ∧
       (X.Kept L2 w7 w10) ∧
       if b11 = true then
        R (.returned (.int .i64 4)) w10
       else
        ∃ x12 : X.Facts, (X.FactsW x12 w10 (L2)) ∧
        False
   else
    R (.returned (.int .i64 1)) w4) :
    Calls Try.prog 28 #[.pointer none, .agg #[.int .u8 b_0, .int .u16 b_1, .int .u32 b_2, .int .u8 b_3, .int .u8 b_4, .int .u8 b_5, .int .u8 b_6, .int .u8 b_7, .int .u8 b_8, .int .u8 b_9]] w R :=
  X.calls_of { isLoc := [3], sym := [22], loops := [], joins := [] } Try.func28 (by kernel_rfl) h
abbrev fn_ident_Set_Remove : Nat := 29
theorem x_ident_Set_Remove (a : Addr) (b_0 b_1 b_2 b_3 b_4 b_5 b_6 b_7 b_8 b_9 : Int) (w : World) (R : Ending → World → Prop) (h :
  ∀ w1 : World, ∀ L2 : List Nat, (X.Hid [] w w1) →
  (X.NewL (w).heap.size [] w w1 L2) →
  X.CallX Try.prog 30 #[(.pointer (some a)), (.agg #[(.int .u8 b_0), (.int .u16 b_1), (.int .u32 b_2), (.int .u8 b_3), (.int .u8 b_4), (.int .u8 b_5), (.int .u8 b_6), (.int .u8 b_7), (.int .u8 b_8), (.int .u8 b_9)])] w1 fun e3 w4 =>
   ∃ b5 : Bool, (e3 = .returned (.bool b5)) ∧
   (X.Kept L2 w1 w4) ∧
   if b5 = true then
    ∃ x6 : X.Facts, (X.FactsW x6 w4 (L2)) ∧
    ∃ q7 : Option Nat, (((a.add 0), [(.map (q7))]) ∈ x6) ∧
    ∀ w8 : World, ∀ L9 : List Nat, (X.Hid (L2) w4 w8) →
    (X.NewL (w).heap.size (L2) w4 w8 L9) →
    ∃ w10 : World, (Sem.run Try.prog (Go.Builtin.delete_ #[67, 35] 0 #[(.map (q7)), (.agg #[(.int .u8 b_0), (.int .u16 b_1), (.int .u32 b_2), (.int .u8 b_3), (.int .u8 b_4), (.int .u8 b_5), (.int .u8 b_6), (.int .u8 b_7), (.int .u8 b_8), (.int .u8 b_9)])]) w8 = .ok (.tuple #[]) w10) ∧
    (X.Kept L9 w8 w10) ∧
    R (.returned (.bool b5)) w10
   else
    R (.returned (.bool b5)) w4) :
    Calls Try.prog 29 #[.pointer (some a), .agg #[.int .u8 b_0, .int .u16 b_1, .int .u32 b_2, .int .u8 b_3, .int .u8 b_4, .int .u8 b_5, .int .u8 b_6, .int .u8 b_7, .int .u8 b_8, .int .u8 b_9]] w R :=
  X.calls_of { isLoc := [3], sym := [], loops := [], joins := [] } Try.func29 (by kernel_rfl) h
abbrev fn_Remove_nil : Nat := 29
theorem x_Remove_nil (b_0 b_1 b_2 b_3 b_4 b_5 b_6 b_7 b_8 b_9 : Int) (w : World) (R : Ending → World → Prop) (h :
  ∀ w1 : World, ∀ L2 : List Nat, (X.Hid [] w w1) →
  (X.NewL (w).heap.size [] w w1 L2) →
  X.CallX Try.prog 30 #[(.pointer none), (.agg #[(.int .u8 b_0), (.int .u16 b_1), (.int .u32 b_2), (.int .u8 b_3), (.int .u8 b_4), (.int .u8 b_5), (.int .u8 b_6), (.int .u8 b_7), (.int .u8 b_8), (.int .u8 b_9)])] w1 fun e3 w4 =>
   ∃ b5 : Bool, (e3 = .returned (.bool b5)) ∧
   (X.Kept L2 w1 w4) ∧
   if b5 = true then
    ∃ x6 : X.Facts, (X.FactsW x6 w4 (L2)) ∧
    False
   else
    R (.returned (.bool b5)) w4) :
    Calls Try.prog 29 #[.pointer none, .agg #[.int .u8 b_0, .int .u16 b_1, .int .u32 b_2, .int .u8 b_3, .int .u8 b_4, .int .u8 b_5, .int .u8 b_6, .int .u8 b_7, .int .u8 b_8, .int .u8 b_9]] w R :=
  X.calls_of { isLoc := [3], sym := [], loops := [], joins := [] } Try.func29 (by kernel_rfl) h
abbrev fn_ident_Set_Has : Nat := 30
theorem x_ident_Set_Has (a : Addr) (b_0 b_1 b_2 b_3 b_4 b_5 b_6 b_7 b_8 b_9 : Int) (w : World) (R : Ending → World → Prop) (h :
  ∀ w1 : World, ∀ L2 : List Nat, (X.Hid [] w w1) →
  (X.NewL (w).heap.size [] w w1 L2) →
  X.CallX Try.prog 50 #[(.pointer (some a))] w1 fun e3 w4 =>
   ∃ b5 : Bool, (e3 = .returned (.bool b5)) ∧
   (X.Kept L2 w1 w4) ∧
   if b5 = true then
    R (.returned (.bool false)) w4
   else
    ∃ x6 : X.Facts, (X.FactsW x6 w4 (L2)) ∧
    ∃ q7 : Option Nat, (((a.add 0), [(.map (q7))]) ∈ x6) ∧
    (∀ w8 : World, ∀ L9 : List Nat, (X.Hid (L2) w4 w8) →
     (X.NewL (w).heap.size (L2) w4 w8 L9) →
     ∃ b10 : Bool, ∃ w11 : World, (Sem.run Try.prog (Go.Instr.lookup 67 (.map (q7)) (.agg #[(.int .u8 b_0), (.int .u16 b_1), (.int .u32 b_2), (.int .u8 b_3), (.int .u8 b_4), (.int .u8 b_5), (.int .u8 b_6), (.int .u8 b_7), (.int .u8 b_8), (.int .u8 b_9)]) true) w8 = .ok (.tuple #[(.agg #[]), (.bool b10)]) w11) ∧
     (X.Kept L9 w8 w11) ∧
     (X.FactsW x6 w11 (L9)) ∧
     (X.FactsW x6 (w11.alloc (.cells #[] 95)) (L9)) ∧
     ((none : Option Nat) = none) ∧
     (World.there (w11.alloc (.cells #[] 95)) (w11).heap.size 0 0) ∧
     (¬ ((w11).heap.size ∈ L9)) ∧
     R (.returned (.bool b10)) ((w11.alloc (.cells #[] 95)).setCells (w11).heap.size 0 [])) ∧
    ∀ w12 : World, ∀ L13 : List Nat, (X.Hid (L2) w4 w12) →
    (X.NewL (w).heap.size (L2) w4 w12 L13) →
    (X.FactsW x6 (w12.alloc (.cells #[] 95)) (L13)) ∧
    ∃ b14 : Bool, ∃ w15 : World, (Sem.run Try.prog (Go.Instr.lookup 67 (.map (q7)) (.agg #[(.int .u8 b_0), (.int .u16 b_1), (.int .u32 b_2), (.int .u8 b_3), (.int .u8 b_4), (.int .u8 b_5), (.int .u8 b_6), (.int .u8 b_7), (.int .u8 b_8), (.int .u8 b_9)]) true) (w12.alloc (.cells #[] 95)) = .ok (.tuple #[(.agg #[]), (.bool b14)]) w15) ∧
    (X.Kept L13 (w12.alloc (.cells #[] 95)) w15) ∧
    (X.FactsW x6 w15 (L13)) ∧
    ((none : Option Nat) = none) ∧
    (World.there w15 (w12).heap.size 0 0) ∧
    (¬ ((w12).heap.size ∈ L13)) ∧
    R (.returned (.bool b14)) (w15.setCells (w12).heap.size 0 [])) :
    Calls Try.prog 30 #[.pointer (some a), .agg #[.int .u8 b_0, .int .u16 b_1, .int .u32 b_2, .int .u8 b_3, .int .u8 b_4, .int .u8 b_5, .int .u8 b_6, .int .u8 b_7, .int .u8 b_8, .int .u8 b_9]] w R :=
  X.calls_of { isLoc := [3], sym := [], loops := [], joins := [] } Try.func30 (by kernel_rfl) h
abbrev fn_Has_nil : Nat := 30
theorem x_Has_nil (b_0 b_1 b_2 b_3 b_4 b_5 b_6 b_7 b_8 b_9 : Int) (w : World) (R : Ending → World → Prop) (h :
  ∀ w1 : World, ∀ L2 : List Nat, (X.Hid [] w w1) →
  (X.NewL (w).heap.size [] w w1 L2) →
  X.CallX Try.prog 50 #[(.pointer none)] w1 fun e3 w4 =>
   ∃ b5 : Bool, (e3 = .returned (.bool b5)) ∧
   (X.Kept L2 w1 w4) ∧
   if b5 = true then
    R (.returned (.bool false)) w4
   else
    ∃ x6 : X.Facts, (X.FactsW x6 w4 (L2)) ∧
    False) :
    Calls Try.prog 30 #[.pointer none, .agg #[.int .u8 b_0, .int .u16 b_1, .int .u32 b_2, .int .u8 b_3, .int .u8 b_4, .int .u8 b_5, .int .u8 b_6, .int .u8 b_7, .int .u8 b_8, .int .u8 b_9]] w R :=
  X.calls_of { isLoc := [3], sym := [], loops := [], joins := [] } Try.func30 (by kernel_rfl) h
abbrev fn_ident_Set_Len : Nat := 31
theorem x_ident_Set_Len (a : Addr) (w : World) (R : Ending → World → Prop) (h :
  X.CallX Try.prog 50 #[(.pointer (some a))] w fun e1 w2 =>
   ∃ b3 : Bool, (e1 = .returned (.bool b3)) ∧
   ((w).heap.size ≤ (w2).heap.size) ∧
   if b3 = true then
    R (.returned (.int .i64 0)) w2
   else
    ∃ q4 : Option Nat, (World.cell? w2 (a.add 0) = some (.map (q4))) ∧
    ∃ n5 : Int, ∃ w6 : World, (Sem.run Try.prog (Go.Builtin.len_ #[67] 3 #[(.map (q4))]) w2 = .ok (.int .i64 n5) w6) ∧
    ((w2).heap.size ≤ (w6).heap.size) ∧
    R (.returned (.int .i64 n5)) w6) :
    Calls Try.prog 31 #[.pointer (some a)] w R :=
  X.calls_of { isLoc := [], sym := [9], loops := [], joins := [] } Try.func31 (by kernel_rfl) h
abbrev fn_Len_nil : Nat := 31
theorem x_Len_nil  (w : World) (R : Ending → World → Prop) (h :
  X.CallX Try.prog 50 #[(.pointer none)] w fun e1 w2 =>
   ∃ b3 : Bool, (e1 = .returned (.bool b3)) ∧
   ((w).heap.size ≤ (w2).heap.size) ∧
   if b3 = true then
    R (.returned (.int .i64 0)) w2
   else
    False) :
    Calls Try.prog 31 #[.pointer none] w R :=
  X.calls_of { isLoc := [], sym := [9], loops := [], joins := [] } Try.func31 (by kernel_rfl) h
abbrev fn_ident_Set_All : Nat := 32
theorem x_ident_Set_All (a : Addr) (w : World) (R : Ending → World → Prop) (h :
  X.CallX Try.prog 50 #[(.pointer (some a))] w fun e1 w2 =>
   ∃ b3 : Bool, (e1 = .returned (.bool b3)) ∧
   ((w).heap.size ≤ (w2).heap.size) ∧
   if b3 = true then
    R (.returned (.slice none 0 0)) w2
   else
    ∃ q4 : Option Nat, (World.cell? w2 (a.add 0) = some (.map (q4))) ∧
    ∃ n5 : Int, ∃ w6 : World, (Sem.run Try.prog (Go.Builtin.len_ #[67] 3 #[(.map (q4))]) w2 = .ok (.int .i64 n5) w6) ∧
    ((w2).heap.size ≤ (w6).heap.size) ∧
    ∃ q7 : Option Addr, ∃ k8 : Nat, ∃ k9 : Nat, ∃ w10 : World, (Sem.run Try.prog (Go.Instr.makeSlice 64 (.int .i64 0) (.int .i64 n5)) w6 = .ok (.slice (q7) k8 k9) w10) ∧
    ((w6).heap.size ≤ (w10).heap.size) ∧
    ∃ q11 : Option Nat, (World.cell? w10 (a.add 0) = some (.map (q11))) ∧
    ∃ q12 : Option Addr, ∃ w13 : World, (Sem.run Try.prog (Go.Instr.range 67 (.map (q11))) w10 = .ok (.pointer (q12)) w13) ∧
    ((w10).heap.size ≤ (w13).heap.size) ∧
    ∃ x14 : Option Addr → Nat → Nat → World → List Nat → Prop, ∃ x15 : Option Addr → Nat → Nat → World → Nat, (x14 q7 k8 k9 w13 []) ∧
    ∀ q16 : Option Addr, ∀ k17 : Nat, ∀ k18 : Nat, ∀ w19 : World, ∀ L20 : List Nat, (X.LF (w).heap.size w19 L20) →
    (x14 q16 k17 k18 w19 L20) →
    ∃ b21 : Bool, ∃ L22 : List Value, ∃ w23 : World, (Sem.run Try.prog (Go.Instr.next (.pointer (q12)) false 0) w19 = .ok (.tuple ((Value.bool b21 :: L22).toArray)) w23) ∧
    ((w19).heap.size ≤ (w23).heap.size) ∧
    if b21 = true then
     ∃ n26 : Int, ∃ n27 : Int, ∃ n28 : Int, ∃ n29 : Int, ∃ n30 : Int, ∃ n31 : Int, ∃ n32 : Int, ∃ n33 : Int, ∃ n34 : Int, ∃ n35 : Int, ∃ w36 : World, (Sem.run Try.prog (Go.Instr.entry (.pointer (q12))) w23 = .ok (.tuple #[(.agg #[(.int .u8 n26), (.int .u16 n27), (.int .u32 n28), (.int .u8 n29), (.int .u8 n30), (.int .u8 n31), (.int .u8 n32), (.int .u8 n33), (.int .u8 n34), (.int .u8 n35)]), (.agg #[])]) w36) ∧
     ((w23).heap.size ≤ (w36).heap.size) ∧
     ∀ w37 : World, ∀ L38 : List Nat, (X.Hid [] w36 w37) →
     (X.NewL (w).heap.size [] w36 w37 L38) →
     ∃ q39 : Option Addr, ∃ k40 : Nat, ∃ k41 : Nat, ∃ w42 : World, (Sem.run Try.prog (Go.Builtin.append_ #[64, 64] 64 #[(.slice (q16) k17 k18), (.slice (some ⟨(w37).heap.size, 0, none⟩) 1 1)]) (w37.alloc (.cells #[(.int .u8 n26), (.int .u16 n27), (.int .u32 n28), (.int .u8 n29), (.int .u8 n30), (.int .u8 n31), (.int .u8 n32), (.int .u8 n33), (.int .u8 n34), (.int .u8 n35)] 35)) = .ok (.slice (q39) k40 k41) w42) ∧
     (X.Kept L38 (w37.alloc (.cells #[(.int .u8 n26), (.int .u16 n27), (.int .u32 n28), (.int .u8 n29), (.int .u8 n30), (.int .u8 n31), (.int .u8 n32), (.int .u8 n33), (.int .u8 n34), (.int .u8 n35)] 35)) w42) ∧
     (x14 q39 k40 k41 w42 (L38)) ∧
     Nat.le ((x15 q39 k40 k41 w42) + 1) (x15 q16 k17 k18 w19)
    else
     X.CallX Try.prog 51 #[(.slice (q16) k17 k18), (.func (.func 23) #[] #[])] w23 fun e24 w25 =>
      (e24 = .returned (.tuple #[])) ∧
      ((w23).heap.size ≤ (w25).heap.size) ∧
      R (.returned (.slice (q16) k17 k18)) w25) :
    Calls Try.prog 32 #[.pointer (some a)] w R :=
  X.calls_of { isLoc := [4], sym := [11], loops := [(5, .inv [(3, .slice)] [] true)], joins := [], ents := [(20, [35, 95])] } Try.func32 (by kernel_rfl) h
abbrev fn_All_nil : Nat := 32
theorem x_All_nil  (w : World) (R : Ending → World → Prop) (h :
  X.CallX Try.prog 50 #[(.pointer none)] w fun e1 w2 =>
   ∃ b3 : Bool, (e1 = .returned (.bool b3)) ∧
   ((w).heap.size ≤ (w2).heap.size) ∧
   if b3 = true then
    R (.returned (.slice none 0 0)) w2
   else
    False) :
    Calls Try.prog 32 #[.pointer none] w R :=
  X.calls_of { isLoc := [4], sym := [11], loops := [(5, .inv [(3, .slice)] [] true)], joins := [], ents := [(20, [35, 95])] } Try.func32 (by kernel_rfl) h
abbrev fn_ident_Set_Under : Nat := 33
theorem x_ident_Set_Under (a : Addr) (b_0 b_1 : Int) (w : World) (R : Ending → World → Prop) (h :
  X.CallX Try.prog 32 #[(.pointer (some a))] (w.alloc (.cells #[(.int .u8 b_0), (.int .u16 b_1)] 31)) fun e1 w2 =>
   ∃ q3 : Option Addr, ∃ k4 : Nat, ∃ k5 : Nat, (e1 = .returned (.slice (q3) k4 k5)) ∧
   (((w.alloc (.cells #[(.int .u8 b_0), (.int .u16 b_1)] 31))).heap.size ≤ (w2).heap.size) ∧
   X.CallX Try.prog 52 #[(.slice (q3) k4 k5), (.func (.func 53) #[] #[(.pointer (some ⟨(w).heap.size, 0, none⟩))])] w2 fun e6 w7 =>
    ∃ q8 : Option Addr, ∃ k9 : Nat, ∃ k10 : Nat, (e6 = .returned (.slice (q8) k9 k10)) ∧
    ((w2).heap.size ≤ (w7).heap.size) ∧
    R (.returned (.slice (q8) k9 k10)) w7) :
    Calls Try.prog 33 #[.pointer (some a), .agg #[.int .u8 b_0, .int .u16 b_1]] w R :=
  X.calls_of { isLoc := [], sym := [], loops := [], joins := [] } Try.func33 (by kernel_rfl) h
abbrev fn_Under_nil : Nat := 33
theorem x_Under_nil (b_0 b_1 : Int) (w : World) (R : Ending → World → Prop) (h :
  X.CallX Try.prog 32 #[(.pointer none)] (w.alloc (.cells #[(.int .u8 b_0), (.int .u16 b_1)] 31)) fun e1 w2 =>
   ∃ q3 : Option Addr, ∃ k4 : Nat, ∃ k5 : Nat, (e1 = .returned (.slice (q3) k4 k5)) ∧
   (((w.alloc (.cells #[(.int .u8 b_0), (.int .u16 b_1)] 31))).heap.size ≤ (w2).heap.size) ∧
   X.CallX Try.prog 52 #[(.slice (q3) k4 k5), (.func (.func 53) #[] #[(.pointer (some ⟨(w).heap.size, 0, none⟩))])] w2 fun e6 w7 =>
    ∃ q8 : Option Addr, ∃ k9 : Nat, ∃ k10 : Nat, (e6 = .returned (.slice (q8) k9 k10)) ∧
    ((w2).heap.size ≤ (w7).heap.size) ∧
    R (.returned (.slice (q8) k9 k10)) w7) :
    Calls Try.prog 33 #[.pointer none, .agg #[.int .u8 b_0, .int .u16 b_1]] w R :=
  X.calls_of { isLoc := [], sym := [], loops := [], joins := [] } Try.func33 (by kernel_rfl) h
abbrev fn_gemotref02_Set_Add : Nat := 35
theorem x_gemotref02_Set_Add (a : Addr) (b_0 b_1 b_2 b_3 b_4 b_5 b_6 b_7 b_8 b_9 : Int) (w : World) (R : Ending → World → Prop) (h :
  ∀ w1 : World, ∀ L2 : List Nat, (X.Hid [] w w1) →
  (X.NewL (w).heap.size [] w w1 L2) →
  X.CallX Try.prog 18 #[(.agg #[(.int .u8 b_0), (.int .u16 b_1), (.int .u32 b_2), (.int .u8 b_3), (.int .u8 b_4), (.int .u8 b_5), (.int .u8 b_6), (.int .u8 b_7), (.int .u8 b_8), (.int .u8 b_9)])] w1 fun e3 w4 =>
   ∃ b5 : Bool, (e3 = .returned (.bool b5)) ∧
   (X.Kept L2 w1 w4) ∧
   if (!b5) = true then
    R (.returned (.int .i64 1)) w4
   else
    X.CallX Try.prog 37 #[(.pointer (some a)), (.agg #[(.int .u8 b_0), (.int .u16 b_1), (.int .u32 b_2), (.int .u8 b_3), (.int .u8 b_4), (.int .u8 b_5), (.int .u8 b_6), (.int .u8 b_7), (.int .u8 b_8), (.int .u8 b_9)])] w4 fun e6 w7 =>
     ∃ n8 : Int, ∃ b9 : Bool, (e6 = .returned (.tuple #[(.int .i64 n8), (.bool b9)])) ∧
     (X.Kept L2 w4 w7) ∧
     if b9 = true then
      R (.returned (.int .i64 4)) w7
     else
      ∃ q10 : Option Addr, ∃ k11 : Nat, ∃ k12 : Nat, (World.cell? w7 (a.add 0) = some (.slice (q10) k11 k12)) ∧
      (¬ (((a.add 0).block) ∈ L2)) ∧
      ∃ n13 : Int, (World.cell? w7 (a.add 1) = some (.int .i64 n13)) ∧
      (¬ ((a.block) ∈ L2)) ∧
      if (decide (((k11 : Nat) : Int) ≥ (if n13 > 0 then n13 else 0))) = true then
       ∀ w61 : World, (X.Hid (L2) w7 w61) →
       R (.returned (.int .i64 11)) w61
      else
       ∃ x14 : X.Facts, (X.FactsW x14 w7 (L2)) ∧
       ∃ q15 : Option Addr, ∃ k16 : Nat, ∃ k17 : Nat, (((a.add 0), [(.slice (q15) k16 k17)]) ∈ x14) ∧
       ((0 : Int) ≤ n8) ∧
       (n8 ≤ ((k17 : Nat) : Int)) ∧
       ∃ q18 : Option Addr, ∃ k19 : Nat, ∃ k20 : Nat, (((a.add 0), [(.slice (q18) k19 k20)]) ∈ x14) ∧
       ((0 : Int) ≤ n8) ∧
       (n8 ≤ ((k19 : Nat) : Int)) ∧
       (∀ w21 : World, ∀ L22 : List Nat, (X.Hid (L2) w7 w21) →
        (X.NewL (w).heap.size (L2) w7 w21 L22) →
        (X.FactsW x14 (w21.alloc (.cells #[] 30)) (L22)) ∧
        (∃ q23 : Option Addr, ∃ k24 : Nat, ∃ k25 : Nat, ∃ w26 : World, (Sem.run Try.prog (Go.Builtin.append_ #[73, 73] 73 #[(.slice (some ⟨(w21).heap.size, 0, none⟩) 0 0), (.slice (X.cutA (q15) k17 0 10) (n8).toNat k17)]) (w21.alloc (.cells #[] 30)) = .ok (.slice (q23) k24 k25) w26) ∧
         (X.Kept L22 (w21.alloc (.cells #[] 30)) w26) ∧
         (X.FactsW x14 w26 (L22)) ∧
         (X.FactsW x14 (w26.alloc (.cells #[(.int .u8 b_0), (.int .u16 b_1), (.int .u32 b_2), (.int .u8 b_3), (.int .u8 b_4), (.int .u8 b_5), (.int .u8 b_6), (.int .u8 b_7), (.int .u8 b_8), (.int .u8 b_9)] 30)) (L22)) ∧
         ∃ q27 : Option Addr, ∃ k28 : Nat, ∃ k29 : Nat, ∃ w30 : World, (Sem.run Try.prog (Go.Builtin.append_ #[73, 73] 73 #[(.slice (q23) k24 k25), (.slice (some ⟨(w26).heap.size, 0, none⟩) 1 1)]) (w26.alloc (.cells #[(.int .u8 b_0), (.int .u16 b_1), (.int .u32 b_2), (.int .u8 b_3), (.int .u8 b_4), (.int .u8 b_5), (.int .u8 b_6), (.int .u8 b_7), (.int .u8 b_8), (.int .u8 b_9)] 30)) = .ok (.slice (q27) k28 k29) w30) ∧
         (X.Kept L22 (w26.alloc (.cells #[(.int .u8 b_0), (.int .u16 b_1), (.int .u32 b_2), (.int .u8 b_3), (.int .u8 b_4), (.int .u8 b_5), (.int .u8 b_6), (.int .u8 b_7), (.int .u8 b_8), (.int .u8 b_9)] 30)) w30) ∧
         (X.FactsW x14 w30 (L22)) ∧
         ∃ q31 : Option Addr, ∃ k32 : Nat, ∃ k33 : Nat, ∃ w34 : World, (Sem.run Try.prog (Go.Builtin.append_ #[73, 73] 73 #[(.slice (q27) k28 k29), (.slice (X.cutA (q18) k20 (n8).toNat 10) (k19 - (n8).toNat) (k20 - (n8).toNat))]) w30 = .ok (.slice (q31) k32 k33) w34) ∧
         (X.Kept L22 w30 w34) ∧
         (X.FactsW x14 w34 (L22)) ∧
         (((a.add 0).spot) = none) ∧
         (World.there w34 ((a.add 0).block) ((a.add 0).off) 1) ∧
         (¬ (((a.add 0).block) ∈ L22)) ∧
         R (.returned (.int .i64 0)) (w34.setCells ((a.add 0).block) ((a.add 0).off) [(.slice (q31) k32 k33)])) ∧
        (X.FactsW x14 ((w21.alloc (.cells #[] 30)).alloc (.cells #[(.int .u8 b_0), (.int .u16 b_1), (.int .u32 b_2), (.int .u8 b_3), (.int .u8 b_4), (.int .u8 b_5), (.int .u8 b_6), (.int .u8 b_7), (.int .u8 b_8), (.int .u8 b_9)] 30)) (L22)) ∧
        ∃ q35 : Option Addr, ∃ k36 : Nat, ∃ k37 : Nat, ∃ w38 : World, (Sem.run Try.prog (Go.Builtin.append_ #[73, 73] 73 #[(.slice (some ⟨(w21).heap.size, 0, none⟩) 0 0), (.slice (X.cutA (q15) k17 0 10) (n8).toNat k17)]) ((w21.alloc (.cells #[] 30)).alloc (.cells #[(.int .u8 b_0), (.int .u16 b_1), (.int .u32 b_2), (.int .u8 b_3), (.int .u8 b_4), (.int .u8 b_5), (.int .u8 b_6), (.int .u8 b_7), (.int .u8 b_8), (.int .u8 b_9)] 30)) = .ok (.slice (q35) k36 k37) w38) ∧
        (X.Kept L22 ((w21.alloc (.cells #[] 30)).alloc (.cells #[(.int .u8 b_0), (.int .u16 b_1), (.int .u32 b_2), (.int .u8 b_3), (.int .u8 b_4), (.int .u8 b_5), (.int .u8 b_6), (.int .u8 b_7), (.int .u8 b_8), (.int .u8 b_9)] 30)) w38) ∧
        (X.FactsW x14 w38 (L22)) ∧
        ∃ q39 : Option Addr, ∃ k40 : Nat, ∃ k41 : Nat, ∃ w42 : World, (Sem.run Try.prog (Go.Builtin.append_ #[73, 73] 73 #[(.slice (q35) k36 k37), (.slice (some ⟨((w21.alloc (.cells #[] 30))).heap.size, 0, none⟩) 1 1)]) w38 = .ok (.slice (q39) k40 k41) w42) ∧
        (X.Kept L22 w38 w42) ∧
        (X.FactsW x14 w42 (L22)) ∧
        ∃ q43 : Option Addr, ∃ k44 : Nat, ∃ k45 : Nat, ∃ w46 : World, (Sem.run Try.prog (Go.Builtin.append_ #[73, 73] 73 #[(.slice (q39) k40 k41), (.slice (X.cutA (q18) k20 (n8).toNat 10) (k19 - (n8).toNat) (k20 - (n8).toNat))]) w42 = .ok (.slice (q43) k44 k45) w46) ∧
        (X.Kept L22 w42 w46) ∧
        (X.FactsW x14 w46 (L22)) ∧
        (((a.add 0).spot) = none) ∧
        (World.there w46 ((a.add 0).block) ((a.add 0).off) 1) ∧
        (¬ (((a.add 0).block) ∈ L22)) ∧
        R (.returned (.int .i64 0)) (w46.setCells ((a.add 0).block) ((a.add 0).off) [(.slice (q43) k44 k45)])) ∧
       ∀ w47 : World, ∀ L48 : List Nat, (X.Hid (L2) w7 w47) →
       (X.NewL (w).heap.size (L2) w7 w47 L48) →
       (X.FactsW x14 (w47.alloc (.cells #[(.int .u8 b_0), (.int .u16 b_1), (.int .u32 b_2), (.int .u8 b_3), (.int .u8 b_4), (.int .u8 b_5), (.int .u8 b_6), (.int .u8 b_7), (.int .u8 b_8), (.int .u8 b_9)] 30)) (L48)) ∧
       (X.FactsW x14 ((w47.alloc (.cells #[(.int .u8 b_0), (.int .u16 b_1), (.int .u32 b_2), (.int .u8 b_3), (.int .u8 b_4), (.int .u8 b_5), (.int .u8 b_6), (.int .u8 b_7), (.int .u8 b_8), (.int .u8 b_9)] 30)).alloc (.cells #[] 30)) (L48)) ∧
       ∃ q49 : Option Addr, ∃ k50 : Nat, ∃ k51 : Nat, ∃ w52 : World, (Sem.run Try.prog (Go.Builtin.append_ #[73, 73] 73 #[(.slice (some ⟨((w47.alloc (.cells #[(.int .u8 b_0), (.int .u16 b_1), (.int .u32 b_2), (.int .u8 b_3), (.int .u8 b_4), (.int .u8 b_5), (.int .u8 b_6), (.int .u8 b_7), (.int .u8 b_8), (.int .u8 b_9)] 30))).heap.size, 0, none⟩) 0 0), (.slice (X.cutA (q15) k17 0 10) (n8).toNat k17)]) ((w47.alloc (.cells #[(.int .u8 b_0), (.int .u16 b_1), (.int .u32 b_2), (.int .u8 b_3), (.int .u8 b_4), (.int .u8 b_5), (.int .u8 b_6), (.int .u8 b_7), (.int .u8 b_8), (.int .u8 b_9)] 30)).alloc (.cells #[] 30)) = .ok (.slice (q49) k50 k51) w52) ∧
       (X.Kept L48 ((w47.alloc (.cells #[(.int .u8 b_0), (.int .u16 b_1), (.int .u32 b_2), (.int .u8 b_3), (.int .u8 b_4), (.int .u8 b_5), (.int .u8 b_6), (.int .u8 b_7), (.int .u8 b_8), (.int .u8 b_9)] 30)).alloc (.cells #[] 30)) w52) ∧
       (X.FactsW x14 w52 (L48)) ∧
       ∃ q53 : Option Addr, ∃ k54 : Nat, ∃ k55 : Nat, ∃ w56 : World, (Sem.run Try.prog (Go.Builtin.append_ #[73, 73] 73 #[(.slice (q49) k50 k51), (.slice (some ⟨(w47).heap.size, 0, none⟩) 1 1)]) w52 = .ok (.slice (q53) k54 k55) w56) ∧
       (X.Kept L48 w52 w56) ∧
       (X.FactsW x14 w56 (L48)) ∧
       ∃ q57 : Option Addr, ∃ k58 : Nat, ∃ k59 : Nat, ∃ w60 : World, (Sem.run Try.prog (Go.Builtin.append_ #[73, 73] 73 #[(.slice (q53) k54 k55), (.slice (X.cutA (q18) k20 (n8).toNat 10) (k19 - (n8).toNat) (k20 - (n8).toNat))]) w56 = .ok (.slice (q57) k58 k59) w60) ∧
       (X.Kept L48 w56 w60) ∧
       (X.FactsW x14 w60 (L48)) ∧
       (((a.add 0).spot) = none) ∧
       (World.there w60 ((a.add 0).block) ((a.add 0).off) 1) ∧
       (¬ (((a.add 0).block) ∈ L48)) ∧
       R (.returned (.int .i64 0)) (w60.setCells ((a.add 0).block) ((a.add 0).off) [(.slice (q57) k58 k59)])) :
    Calls Try.prog 35 #[.pointer (some a), .agg #[.int .u8 b_0, .int .u16 b_1, .int .u32 b_2, .int .u8 b_3, .int .u8 b_4, .int .u8 b_5, .int .u8 b_6, .int .u8 b_7, .int .u8 b_8, .int .u8 b_9]] w R :=
  X.calls_of { isLoc := [3], sym := [], loops := [], joins := [] } Try.func35 (by kernel_rfl) h
abbrev fn_gemotref02_Set_Remove : Nat := 36
theorem x_gemotref02_Set_Remove (a : Addr) (b_0 b_1 b_2 b_3 b_4 b_5 b_6 b_7 b_8 b_9 : Int) (w : World) (R : Ending → World → Prop) (h :
  ∀ w1 : World, ∀ L2 : List Nat, (X.Hid [] w w1) →
  (X.NewL (w).heap.size [] w w1 L2) →
  X.CallX Try.prog 37 #[(.pointer (some a)), (.agg #[(.int .u8 b_0), (.int .u16 b_1), (.int .u32 b_2), (.int .u8 b_3), (.int .u8 b_4), (.int .u8 b_5), (.int .u8 b_6), (.int .u8 b_7), (.int .u8 b_8), (.int .u8 b_9)])] w1 fun e3 w4 =>
   ∃ n5 : Int, ∃ b6 : Bool, (e3 = .returned (.tuple #[(.int .i64 n5), (.bool b6)])) ∧
   (X.Kept L2 w1 w4) ∧
   if b6 = true then
    ∃ x7 : X.Facts, (X.FactsW x7 w4 (L2)) ∧
    ∃ q8 : Option Addr, ∃ k9 : Nat, ∃ k10 : Nat, (((a.add 0), [(.slice (q8) k9 k10)]) ∈ x7) ∧
    ((0 : Int) ≤ n5) ∧
    (n5 ≤ ((k10 : Nat) : Int)) ∧
    ∃ q11 : Option Addr, ∃ k12 : Nat, ∃ k13 : Nat, (((a.add 0), [(.slice (q11) k12 k13)]) ∈ x7) ∧
    ((0 : Int) ≤ (IntKind.wrap .i64 (n5 + 1))) ∧
    ((IntKind.wrap .i64 (n5 + 1)) ≤ ((k12 : Nat) : Int)) ∧
    ∀ w14 : World, ∀ L15 : List Nat, (X.Hid (L2) w4 w14) →
    (X.NewL (w).heap.size (L2) w4 w14 L15) →
    (X.FactsW x7 (w14.alloc (.cells #[] 30)) (L15)) ∧
    ∃ q16 : Option Addr, ∃ k17 : Nat, ∃ k18 : Nat, ∃ w19 : World, (Sem.run Try.prog (Go.Builtin.append_ #[73, 73] 73 #[(.slice (some ⟨(w14).heap.size, 0, none⟩) 0 0), (.slice (X.cutA (q8) k10 0 10) (n5).toNat k10)]) (w14.alloc (.cells #[] 30)) = .ok (.slice (q16) k17 k18) w19) ∧
    (X.Kept L15 (w14.alloc (.cells #[] 30)) w19) ∧
    (X.FactsW x7 w19 (L15)) ∧
    ∃ q20 : Option Addr, ∃ k21 : Nat, ∃ k22 : Nat, ∃ w23 : World, (Sem.run Try.prog (Go.Builtin.append_ #[73, 73] 73 #[(.slice (q16) k17 k18), (.slice (X.cutA (q11) k13 ((IntKind.wrap .i64 (n5 + 1))).toNat 10) (k12 - ((IntKind.wrap .i64 (n5 + 1))).toNat) (k13 - ((IntKind.wrap .i64 (n5 + 1))).toNat))]) w19 = .ok (.slice (q20) k21 k22) w23) ∧
    (X.Kept L15 w19 w23) ∧
    (X.FactsW x7 w23 (L15)) ∧
    (((a.add 0).spot) = none) ∧
    (World.there w23 ((a.add 0).block) ((a.add 0).off) 1) ∧
    (¬ (((a.add 0).block) ∈ L15)) ∧
    R (.returned (.bool b6)) (w23.setCells ((a.add 0).block) ((a.add 0).off) [(.slice (q20) k21 k22)])
   else
    R (.returned (.bool b6)) w4) :
    Calls Try.prog 36 #[.pointer (some a), .agg #[.int .u8 b_0, .int .u16 b_1, .int .u32 b_2, .int .u8 b_3, .int .u8 b_4, .int .u8 b_5, .int .u8 b_6, .int .u8 b_7, .int .u8 b_8, .int .u8 b_9]] w R :=
  X.calls_of { isLoc := [3], sym := [], loops := [], joins := [] } Try.func36 (by kernel_rfl) h
abbrev fn_gemotref02_Set_Find : Nat := 37
theorem x_gemotref02_Set_Find (a : Addr) (b_0 b_1 b_2 b_3 b_4 b_5 b_6 b_7 b_8 b_9 : Int) (w : World) (R : Ending → World → Prop) (h :
  ∀ w1 : World, ∀ L2 : List Nat, (X.Hid [] w w1) →
  (X.NewL (w).heap.size [] w w1 L2) →
  ∃ x3 : Int → World → List Nat → Prop, ∃ x4 : Int → World → Nat, (x3 0 w1 (L2)) ∧
  ∀ n5 : Int, ∀ w6 : World, ∀ L7 : List Nat, (X.LF (w).heap.size w6 L7) →
  (x3 n5 w6 L7) →
  ∃ x8 : X.Facts, (X.FactsW x8 w6 (L7)) ∧
  ∃ q9 : Option Addr, ∃ k10 : Nat, ∃ k11 : Nat, (((a.add 0), [(.slice (q9) k10 k11)]) ∈ x8) ∧
  if ((decide (n5 < ((k10 : Nat) : Int))) == true) = true then
   ∃ q31 : Option Addr, ∃ k32 : Nat, ∃ k33 : Nat, (((a.add 0), [(.slice (q31) k32 k33)]) ∈ x8) ∧
   ((0 : Int) ≤ n5) ∧
   (n5 < ((k32 : Nat) : Int)) ∧
   X.onSome (q31) fun p34 =>
   ∃ n35 : Int, ∃ n36 : Int, ∃ n37 : Int, ∃ n38 : Int, ∃ n39 : Int, ∃ n40 : Int, ∃ n41 : Int, ∃ n42 : Int, ∃ n43 : Int, ∃ n44 : Int, (((p34.add ((n5).toNat * 10)), [(.int .u8 n35), (.int .u16 n36), (.int .u32 n37), (.int .u8 n38), (.int .u8 n39), (.int .u8 n40), (.int .u8 n41), (.int .u8 n42), (.int .u8 n43), (.int .u8 n44)]) ∈ x8) ∧
   ∀ w45 : World, ∀ L46 : List Nat, (X.Hid (L7) w6 w45) →
   (X.NewL (w).heap.size (L7) w6 w45 L46) →
   X.CallX Try.prog 24 #[(.agg #[(.int .u8 n35), (.int .u16 n36), (.int .u32 n37), (.int .u8 n38), (.int .u8 n39), (.int .u8 n40), (.int .u8 n41), (.int .u8 n42), (.int .u8 n43), (.int .u8 n44)]), (.agg #[(.int .u8 b_0), (.int .u16 b_1), (.int .u32 b_2), (.int .u8 b_3), (.int .u8 b_4), (.int .u8 b_5), (.int .u8 b_6), (.int .u8 b_7), (.int .u8 b_8), (.int .u8 b_9)])] w45 fun e47 w48 =>
    ∃ n49 : Int, (e47 = .returned (.int .i64 n49)) ∧
    (X.Kept L46 w45 w48) ∧
    (X.FactsW x8 w48 (L46)) ∧
    if (true && decide (n49 < 0)) = true then
     (([(.int .u8 b_0), (.int .u16 b_1), (.int .u32 b_2), (.int .u8 b_3), (.int .u8 b_4), (.int .u8 b_5), (.int .u8 b_6), (.int .u8 b_7), (.int .u8 b_8), (.int .u8 b_9)] : List Value) = [(.int .u8 b_0), (.int .u16 b_1), (.int .u32 b_2), (.int .u8 b_3), (.int .u8 b_4), (.int .u8 b_5), (.int .u8 b_6), (.int .u8 b_7), (.int .u8 b_8), (.int .u8 b_9)]) ∧
     (x3 (IntKind.wrap .i64 (n5 + 1)) w48 (L46)) ∧
     Nat.le ((x4 (IntKind.wrap .i64 (n5 + 1)) w48) + 1) (x4 n5 w6)
    else
     ∃ q50 : Option Addr, ∃ k51 : Nat, ∃ k52 : Nat, (World.cell? w48 (a.add 0) = some (.slice (q50) k51 k52)) ∧
     (¬ (((a.add 0).block) ∈ L46)) ∧
     if ((decide (n5 < ((k51 : Nat) : Int))) == true) = true then
      ∃ q54 : Option Addr, ∃ k55 : Nat, ∃ k56 : Nat, (World.cell? w48 (a.add 0) = some (.slice (q54) k55 k56)) ∧
      (¬ (((a.add 0).block) ∈ L46)) ∧
      ((0 : Int) ≤ n5) ∧
      (n5 < ((k55 : Nat) : Int)) ∧
      X.onSome (q54) fun p57 =>
      ∃ n58 : Int, ∃ n59 : Int, ∃ n60 : Int, ∃ n61 : Int, ∃ n62 : Int, ∃ n63 : Int, ∃ n64 : Int, ∃ n65 : Int, ∃ n66 : Int, ∃ n67 : Int, (X.Cells w48 (p57.add ((n5).toNat * 10)) [(.int .u8 n58), (.int .u16 n59), (.int .u32 n60), (.int .u8 n61), (.int .u8 n62), (.int .u8 n63), (.int .u8 n64), (.int .u8 n65), (.int .u8 n66), (.int .u8 n67)]) ∧
      (¬ (((p57.add (n5.toNat * 10)).block) ∈ L46)) ∧
      ∀ w68 : World, (X.Hid (L46) w48 w68) →
      R (.returned (.tuple #[(.int .i64 n5), (.bool (true && (((n58 == b_0) && (n59 == b_1)) && ((n60 == b_2) && ((n61 == b_3) && (((n62 == b_4) && (n63 == b_5)) && (((n64 == b_6) && (n65 == b_7)) && ((n66 == b_8) && (n67 == b_9)))))))))])) w68
     else
      ∀ w53 : World, (X.Hid (L46) w48 w53) →
      R (.returned (.tuple #[(.int .i64 n5), (.bool false)])) w53
  else
   ∃ q12 : Option Addr, ∃ k13 : Nat, ∃ k14 : Nat, (World.cell? w6 (a.add 0) = some (.slice (q12) k13 k14)) ∧
   (¬ (((a.add 0).block) ∈ L7)) ∧
   if ((decide (n5 < ((k13 : Nat) : Int))) == true) = true then
    ∃ q16 : Option Addr, ∃ k17 : Nat, ∃ k18 : Nat, (World.cell? w6 (a.add 0) = some (.slice (q16) k17 k18)) ∧
    (¬ (((a.add 0).block) ∈ L7)) ∧
    ((0 : Int) ≤ n5) ∧
    (n5 < ((k17 : Nat) : Int)) ∧
    X.onSome (q16) fun p19 =>
    ∃ n20 : Int, ∃ n21 : Int, ∃ n22 : Int, ∃ n23 : Int, ∃ n24 : Int, ∃ n25 : Int, ∃ n26 : Int, ∃ n27 : Int, ∃ n28 : Int, ∃ n29 : Int, (X.Cells w6 (p19.add ((n5).toNat * 10)) [(.int .u8 n20), (.int .u16 n21), (.int .u32 n22), (.int .u8 n23), (.int .u8 n24), (.int .u8 n25), (.int .u8 n26), (.int .u8 n27), (.int .u8 n28), (.int .u8 n29)]) ∧
    (¬ (((p19.add (n5.toNat * 10)).block) ∈ L7)) ∧
    ∀ w30 : World, (X.Hid (L7) w6 w30) →
    R (.returned (.tuple #[(.int .i64 n5), (.bool (true && (((n20 == b_0) && (n21 == b_1)) && ((n22 == b_2) && ((n23 == b_3) && (((n24 == b_4) && (n25 == b_5)) && (((n26 == b_6) && (n27 == b_7)) && ((n28 == b_8) && (n29 == b_9)))))))))])) w30
   else
    ∀ w15 : World, (X.Hid (L7) w6 w15) →
    R (.returned (.tuple #[(.int .i64 n5), (.bool false)])) w15) :
    Calls Try.prog 37 #[.pointer (some a), .agg #[.int .u8 b_0, .int .u16 b_1, .int .u32 b_2, .int .u8 b_3, .int .u8 b_4, .int .u8 b_5, .int .u8 b_6, .int .u8 b_7, .int .u8 b_8, .int .u8 b_9]] w R :=
  X.calls_of { isLoc := [3], sym := [], loops := [(2, .inv [(6, .int .i64)] [] true)], joins := [] } Try.func37 (by kernel_rfl) h
abbrev fn_gemotref02_Set_Under : Nat := 40
theorem x_gemotref02_Set_Under (a : Addr) (b_0 b_1 : Int) (w : World) (R : Ending → World → Prop) (h :
  ∀ w1 : World, ∀ L2 : List Nat, (X.Hid [] w w1) →
  (X.NewL (w).heap.size [] w w1 L2) →
  ∃ x3 : Option Addr → Nat → Nat → Int → World → List Nat → Prop, ∃ x4 : Option Addr → Nat → Nat → Int → World → Nat, (x3 (none) 0 0 0 w1 (L2)) ∧
  ∀ q5 : Option Addr, ∀ k6 : Nat, ∀ k7 : Nat, ∀ n8 : Int, ∀ w9 : World, ∀ L10 : List Nat, (X.LF (w).heap.size w9 L10) →
  (x3 q5 k6 k7 n8 w9 L10) →
  ∃ q11 : Option Addr, ∃ k12 : Nat, ∃ k13 : Nat, (World.cell? w9 (a.add 0) = some (.slice (q11) k12 k13)) ∧
  (¬ (((a.add 0).block) ∈ L10)) ∧
  if (decide (n8 < ((k12 : Nat) : Int))) = true then
   ∃ q14 : Option Addr, ∃ k15 : Nat, ∃ k16 : Nat, (World.cell? w9 (a.add 0) = some (.slice (q14) k15 k16)) ∧
   (¬ (((a.add 0).block) ∈ L10)) ∧
   ((0 : Int) ≤ n8) ∧
   (n8 < ((k15 : Nat) : Int)) ∧
   X.onSome (q14) fun p17 =>
   ∃ n18 : Int, ∃ n19 : Int, (X.Cells w9 ((p17.add ((n8).toNat * 10)).add 0) [(.int .u8 n18), (.int .u16 n19)]) ∧
   (¬ ((((p17.add (n8.toNat * 10)).add 0).block) ∈ L10)) ∧
   if ((n18 == b_0) && (n19 == b_1)) = true then
    ∃ q22 : Option Addr, ∃ k23 : Nat, ∃ k24 : Nat, (World.cell? w9 (a.add 0) = some (.slice (q22) k23 k24)) ∧
    (¬ (((a.add 0).block) ∈ L10)) ∧
    ((0 : Int) ≤ n8) ∧
    (n8 < ((k23 : Nat) : Int)) ∧
    X.onSome (q22) fun p25 =>
    ∃ n26 : Int, ∃ n27 : Int, ∃ n28 : Int, ∃ n29 : Int, ∃ n30 : Int, ∃ n31 : Int, ∃ n32 : Int, ∃ n33 : Int, ∃ n34 : Int, ∃ n35 : Int, (X.Cells w9 (p25.add ((n8).toNat * 10)) [(.int .u8 n26), (.int .u16 n27), (.int .u32 n28), (.int .u8 n29), (.int .u8 n30), (.int .u8 n31), (.int .u8 n32), (.int .u8 n33), (.int .u8 n34), (.int .u8 n35)]) ∧
    (¬ (((p25.add (n8.toNat * 10)).block) ∈ L10)) ∧
    ∀ w36 : World, ∀ L37 : List Nat, (X.Hid (L10) w9 w36) →
    (X.NewL (w).heap.size (L10) w9 w36 L37) →
    ∃ q38 : Option Addr, ∃ k39 : Nat, ∃ k40 : Nat, ∃ w41 : World, (Sem.run Try.prog (Go.Builtin.append_ #[73, 73] 73 #[(.slice (q5) k6 k7), (.slice (some ⟨(w36).heap.size, 0, none⟩) 1 1)]) (w36.alloc (.cells #[(.int .u8 n26), (.int .u16 n27), (.int .u32 n28), (.int .u8 n29), (.int .u8 n30), (.int .u8 n31), (.int .u8 n32), (.int .u8 n33), (.int .u8 n34), (.int .u8 n35)] 30)) = .ok (.slice (q38) k39 k40) w41) ∧
    (X.Kept L37 (w36.alloc (.cells #[(.int .u8 n26), (.int .u16 n27), (.int .u32 n28), (.int .u8 n29), (.int .u8 n30), (.int .u8 n31), (.int .u8 n32), (.int .u8 n33), (.int .u8 n34), (.int .u8 n35)] 30)) w41) ∧
    (([(.int .u8 b_0), (.int .u16 b_1)] : List Value) = [(.int .u8 b_0), (.int .u16 b_1)]) ∧
    (x3 q38 k39 k40 (IntKind.wrap .i64 (n8 + 1)) w41 (L37)) ∧
    Nat.le ((x4 q38 k39 k40 (IntKind.wrap .i64 (n8 + 1)) w41) + 1) (x4 q5 k6 k7 n8 w9)
   else
    ∀ w20 : World, ∀ L21 : List Nat, (X.Hid (L10) w9 w20) →
    (X.NewL (w).heap.size (L10) w9 w20 L21) →
    (([(.int .u8 b_0), (.int .u16 b_1)] : List Value) = [(.int .u8 b_0), (.int .u16 b_1)]) ∧
    (x3 q5 k6 k7 (IntKind.wrap .i64 (n8 + 1)) w20 (L21)) ∧
    Nat.le ((x4 q5 k6 k7 (IntKind.wrap .i64 (n8 + 1)) w20) + 1) (x4 q5 k6 k7 n8 w9)
  else
   R (.returned (.slice (q5) k6 k7)) w9) :
    Calls Try.prog 40 #[.pointer (some a), .agg #[.int .u8 b_0, .int .u16 b_1]] w R :=
  X.calls_of { isLoc := [3], sym := [], loops := [(3, .inv [(5, .slice), (6, .int .i64)] [] true)], joins := [] } Try.func40 (by kernel_rfl) h
abbrev fn_gemotlaw02_Same : Nat := 38
theorem x_gemotlaw02_Same (a : Option Addr) (al ac : Nat) (b : Option Addr) (bl bc : Nat) (w : World) (R : Ending → World → Prop) (h :
  if (((al : Nat) : Int) != ((bl : Nat) : Int)) = true then
   R (.returned (.bool false)) w
  else
   ∃ x1 : Int → World → List Nat → Prop, ∃ x2 : Int → World → Nat, (x1 0 w []) ∧
   ∀ n3 : Int, ∀ w4 : World, ∀ L5 : List Nat, (X.LF (w).heap.size w4 L5) →
   (x1 n3 w4 L5) →
   if (decide (n3 < ((al : Nat) : Int))) = true then
    ((0 : Int) ≤ n3) ∧
    (n3 < ((al : Nat) : Int)) ∧
    X.onSome (a) fun p6 =>
    ∃ n7 : Int, ∃ n8 : Int, ∃ n9 : Int, ∃ n10 : Int, ∃ n11 : Int, ∃ n12 : Int, ∃ n13 : Int, ∃ n14 : Int, ∃ n15 : Int, ∃ n16 : Int, (X.Cells w4 (p6.add ((n3).toNat * 10)) [(.int .u8 n7), (.int .u16 n8), (.int .u32 n9), (.int .u8 n10), (.int .u8 n11), (.int .u8 n12), (.int .u8 n13), (.int .u8 n14), (.int .u8 n15), (.int .u8 n16)]) ∧
    ((0 : Int) ≤ n3) ∧
    (n3 < ((bl : Nat) : Int)) ∧
    X.onSome (b) fun p17 =>
    ∃ n18 : Int, ∃ n19 : Int, ∃ n20 : Int, ∃ n21 : Int, ∃ n22 : Int, ∃ n23 : Int, ∃ n24 : Int, ∃ n25 : Int, ∃ n26 : Int, ∃ n27 : Int, (X.Cells w4 (p17.add ((n3).toNat * 10)) [(.int .u8 n18), (.int .u16 n19), (.int .u32 n20), (.int .u8 n21), (.int .u8 n22), (.int .u8 n23), (.int .u8 n24), (.int .u8 n25), (.int .u8 n26), (.int .u8 n27)]) ∧
    if (!(((n7 == n18) && (n8 == n19)) && ((n9 == n20) && ((n10 == n21) && (((n11 == n22) && (n12 == n23)) && (((n13 == n24) && (n14 == n25)) && ((n15 == n26) && (n16 == n27)))))))) = true then
     ∀ w29 : World, (X.Hid [] w4 w29) →
     R (.returned (.bool false)) w29
    else
     ∀ w28 : World, (X.Hid [] w4 w28) →
     (x1 (IntKind.wrap .i64 (n3 + 1)) w28 []) ∧
     Nat.le ((x2 (IntKind.wrap .i64 (n3 + 1)) w28) + 1) (x2 n3 w4)
   else
    R (.returned (.bool true)) w4) :
    Calls Try.prog 38 #[.slice a al ac, .slice b bl bc] w R :=
  X.calls_of { isLoc := [], sym := [], loops := [(4, .inv [(5, .int .i64)] [] true)], joins := [] } Try.func38 (by kernel_rfl) h
abbrev fn_gemotlaw02_RefIDs : Nat := 39
theorem x_gemotlaw02_RefIDs (a : Option Addr) (al ac : Nat) (w : World) (R : Ending → World → Prop) (h :
  ∃ x1 : Option Addr → Nat → Nat → Int → World → List Nat → Prop, ∃ x2 : Option Addr → Nat → Nat → Int → World → Nat, (x1 (none) 0 0 0 w []) ∧
  ∀ q3 : Option Addr, ∀ k4 : Nat, ∀ k5 : Nat, ∀ n6 : Int, ∀ w7 : World, ∀ L8 : List Nat, (X.LF (w).heap.size w7 L8) →
  (x1 q3 k4 k5 n6 w7 L8) →
  if (decide (n6 < ((al : Nat) : Int))) = true then
   ((0 : Int) ≤ n6) ∧
   (n6 < ((al : Nat) : Int)) ∧
   X.onSome (a) fun p9 =>
   ∃ n10 : Int, ∃ n11 : Int, ∃ n12 : Int, ∃ n13 : Int, ∃ n14 : Int, ∃ n15 : Int, ∃ n16 : Int, ∃ n17 : Int, ∃ n18 : Int, ∃ n19 : Int, (X.Cells w7 (p9.add ((n6).toNat * 10)) [(.int .u8 n10), (.int .u16 n11), (.int .u32 n12), (.int .u8 n13), (.int .u8 n14), (.int .u8 n15), (.int .u8 n16), (.int .u8 n17), (.int .u8 n18), (.int .u8 n19)]) ∧
   X.CallX Try.prog 13 #[(.agg #[(.int .u8 n10), (.int .u16 n11), (.int .u32 n12), (.int .u8 n13), (.int .u8 n14), (.int .u8 n15), (.int .u8 n16), (.int .u8 n17), (.int .u8 n18), (.int .u8 n19)])] w7 fun e20 w21 =>
    ∃ n22 : Int, ∃ n23 : Int, ∃ n24 : Int, ∃ n25 : Int, ∃ n26 : Int, ∃ n27 : Int, ∃ n28 : Int, ∃ n29 : Int, ∃ n30 : Int, ∃ n31 : Int, (e20 = .returned (.agg #[(.int .u8 n22), (.int .u16 n23), (.int .u32 n24), (.int .u8 n25), (.int .u8 n26), (.int .u8 n27), (.int .u8 n28), (.int .u8 n29), (.int .u8 n30), (.int .u8 n31)])) ∧
    ((w7).heap.size ≤ (w21).heap.size) ∧
    ∃ q32 : Option Addr, ∃ k33 : Nat, ∃ k34 : Nat, ∃ w35 : World, (Sem.run Try.prog (Go.Builtin.append_ #[73, 73] 73 #[(.slice (q3) k4 k5), (.slice (some ⟨(w21).heap.size, 0, none⟩) 1 1)]) (w21.alloc (.cells #[(.int .u8 n22), (.int .u16 n23), (.int .u32 n24), (.int .u8 n25), (.int .u8 n26), (.int .u8 n27), (.int .u8 n28), (.int .u8 n29), (.int .u8 n30), (.int .u8 n31)] 30)) = .ok (.slice (q32) k33 k34) w35) ∧
    (((w21.alloc (.cells #[(.int .u8 n22), (.int .u16 n23), (.int .u32 n24), (.int .u8 n25), (.int .u8 n26), (.int .u8 n27), (.int .u8 n28), (.int .u8 n29), (.int .u8 n30), (.int .u8 n31)] 30))).heap.size ≤ (w35).heap.size) ∧
    (x1 q32 k33 k34 (IntKind.wrap .i64 (n6 + 1)) w35 []) ∧
    Nat.le ((x2 q32 k33 k34 (IntKind.wrap .i64 (n6 + 1)) w35) + 1) (x2 q3 k4 k5 n6 w7)
  else
   R (.returned (.slice (q3) k4 k5)) w7) :
    Calls Try.prog 39 #[.slice a al ac] w R :=
  X.calls_of { isLoc := [], sym := [], loops := [(3, .inv [(3, .slice), (4, .int .i64)] [] true)], joins := [] } Try.func39 (by kernel_rfl) h
abbrev fn_gemotlaw02_IdentNil : Nat := 6
theorem x_gemotlaw02_IdentNil (a_0 a_1 a_2 a_3 a_4 a_5 a_6 a_7 a_8 a_9 : Int) (w : World) (R : Ending → World → Prop) (h :
  ∀ w1 : World, ∀ L2 : List Nat, (X.Hid [] w w1) →
  (X.NewL (w).heap.size [] w w1 L2) →
  ∃ x3 : Option Addr → Int → World → List Nat → Prop, ∃ x4 : Option Addr → Int → World → Nat, (x3 (none) 0 w1 (L2)) ∧
  ∀ q5 : Option Addr, ∀ n6 : Int, ∀ w7 : World, ∀ L8 : List Nat, (X.LF (w).heap.size w7 L8) →
  (x3 q5 n6 w7 L8) →
  if (decide (n6 < 2)) = true then
   X.CallX Try.prog 9 #[(.agg #[(.int .u8 a_0), (.int .u16 a_1), (.int .u32 a_2), (.int .u8 a_3), (.int .u8 a_4), (.int .u8 a_5), (.int .u8 a_6), (.int .u8 a_7), (.int .u8 a_8), (.int .u8 a_9)])] w7 fun e12 w13 =>
    ∃ n14 : Int, ∃ n15 : Int, ∃ n16 : Int, ∃ n17 : Int, ∃ n18 : Int, ∃ n19 : Int, ∃ n20 : Int, ∃ n21 : Int, ∃ n22 : Int, ∃ n23 : Int, (e12 = .returned (.agg #[(.int .u8 n14), (.int .u16 n15), (.int .u32 n16), (.int .u8 n17), (.int .u8 n18), (.int .u8 n19), (.int .u8 n20), (.int .u8 n21), (.int .u8 n22), (.int .u8 n23)])) ∧
    (X.Kept L8 w7 w13) ∧
    X.CallX Try.prog 28 #[(.pointer (q5)), (.agg #[(.int .u8 n14), (.int .u16 n15), (.int .u32 n16), (.int .u8 n17), (.int .u8 n18), (.int .u8 n19), (.int .u8 n20), (.int .u8 n21), (.int .u8 n22), (.int .u8 n23)])] w13 fun e24 w25 =>
     ∃ n26 : Int, (e24 = .returned (.int .i64 n26)) ∧
     (X.Kept L8 w13 w25) ∧
     X.CallX Try.prog 14 #[(.int .i64 n26)] w25 fun e27 w28 =>
      ∃ n29 : Int, (e27 = .returned (.int .i64 n29)) ∧
      (X.Kept L8 w25 w28) ∧
      if ((n29 != 1) == false) = true then
       X.CallX Try.prog 9 #[(.agg #[(.int .u8 a_0), (.int .u16 a_1), (.int .u32 a_2), (.int .u8 a_3), (.int .u8 a_4), (.int .u8 a_5), (.int .u8 a_6), (.int .u8 a_7), (.int .u8 a_8), (.int .u8 a_9)])] w28 fun e30 w31 =>
        ∃ n32 : Int, ∃ n33 : Int, ∃ n34 : Int, ∃ n35 : Int, ∃ n36 : Int, ∃ n37 : Int, ∃ n38 : Int, ∃ n39 : Int, ∃ n40 : Int, ∃ n41 : Int, (e30 = .returned (.agg #[(.int .u8 n32), (.int .u16 n33), (.int .u32 n34), (.int .u8 n35), (.int .u8 n36), (.int .u8 n37), (.int .u8 n38), (.int .u8 n39), (.int .u8 n40), (.int .u8 n41)])) ∧
        (X.Kept L8 w28 w31) ∧
        X.CallX Try.prog 29 #[(.pointer (q5)), (.agg #[(.int .u8 n32), (.int .u16 n33), (.int .u32 n34), (.int .u8 n35), (.int .u8 n36), (.int .u8 n37), (.int .u8 n38), (.int .u8 n39), (.int .u8 n40), (.int .u8 n41)])] w31 fun e42 w43 =>
         ∃ b44 : Bool, (e42 = .returned (.bool b44)) ∧
         (X.Kept L8 w31 w43) ∧
         if ((false || b44) == false) = true then
          X.CallX Try.prog 9 #[(.agg #[(.int .u8 a_0), (.int .u16 a_1), (.int .u32 a_2), (.int .u8 a_3), (.int .u8 a_4), (.int .u8 a_5), (.int .u8 a_6), (.int .u8 a_7), (.int .u8 a_8), (.int .u8 a_9)])] w43 fun e45 w46 =>
           ∃ n47 : Int, ∃ n48 : Int, ∃ n49 : Int, ∃ n50 : Int, ∃ n51 : Int, ∃ n52 : Int, ∃ n53 : Int, ∃ n54 : Int, ∃ n55 : Int, ∃ n56 : Int, (e45 = .returned (.agg #[(.int .u8 n47), (.int .u16 n48), (.int .u32 n49), (.int .u8 n50), (.int .u8 n51), (.int .u8 n52), (.int .u8 n53), (.int .u8 n54), (.int .u8 n55), (.int .u8 n56)])) ∧
           (X.Kept L8 w43 w46) ∧
           X.CallX Try.prog 30 #[(.pointer (q5)), (.agg #[(.int .u8 n47), (.int .u16 n48), (.int .u32 n49), (.int .u8 n50), (.int .u8 n51), (.int .u8 n52), (.int .u8 n53), (.int .u8 n54), (.int .u8 n55), (.int .u8 n56)])] w46 fun e57 w58 =>
            ∃ b59 : Bool, (e57 = .returned (.bool b59)) ∧
            (X.Kept L8 w46 w58) ∧
            if ((false || b59) == false) = true then
             X.CallX Try.prog 31 #[(.pointer (q5))] w58 fun e60 w61 =>
              ∃ n62 : Int, (e60 = .returned (.int .i64 n62)) ∧
              (X.Kept L8 w58 w61) ∧
              if ((false || (n62 != 0)) == false) = true then
               X.CallX Try.prog 32 #[(.pointer (q5))] w61 fun e63 w64 =>
                ∃ q65 : Option Addr, ∃ k66 : Nat, ∃ k67 : Nat, (e63 = .returned (.slice (q65) k66 k67)) ∧
                (X.Kept L8 w61 w64) ∧
                if ((false || (((k66 : Nat) : Int) != 0)) == false) = true then
                 X.CallX Try.prog 19 #[(.agg #[(.int .u8 a_0), (.int .u16 a_1)])] w64 fun e68 w69 =>
                  ∃ n70 : Int, ∃ n71 : Int, (e68 = .returned (.agg #[(.int .u8 n70), (.int .u16 n71)])) ∧
                  (X.Kept L8 w64 w69) ∧
                  X.CallX Try.prog 33 #[(.pointer (q5)), (.agg #[(.int .u8 n70), (.int .u16 n71)])] w69 fun e72 w73 =>
                   ∃ q74 : Option Addr, ∃ k75 : Nat, ∃ k76 : Nat, (e72 = .returned (.slice (q74) k75 k76)) ∧
                   (X.Kept L8 w69 w73) ∧
                   if (false || (((k75 : Nat) : Int) != 0)) = true then
                    R (.returned (.bool false)) w73
                   else
                    (([(.int .u8 a_0), (.int .u16 a_1), (.int .u32 a_2), (.int .u8 a_3), (.int .u8 a_4), (.int .u8 a_5), (.int .u8 a_6), (.int .u8 a_7), (.int .u8 a_8), (.int .u8 a_9)] : List Value) = [(.int .u8 a_0), (.int .u16 a_1), (.int .u32 a_2), (.int .u8 a_3), (.int .u8 a_4), (.int .u8 a_5), (.int .u8 a_6), (.int .u8 a_7), (.int .u8 a_8), (.int .u8 a_9)]) ∧
                    (x3 (some (Addr.mk w73.heap.size 0 none)) (IntKind.wrap .i64 (n6 + 1)) (w73.alloc (.cells #[(.map none), (.int .i64 0)] 69)) (L8)) ∧
                    Nat.le ((x4 (some (Addr.mk w73.heap.size 0 none)) (IntKind.wrap .i64 (n6 + 1)) (w73.alloc (.cells #[(.map none), (.int .i64 0)] 69))) + 1) (x4 q5 n6 w7)
                else
                 R (.returned (.bool false)) w64
              else
               R (.returned (.bool false)) w61
            else
             R (.returned (.bool false)) w58
         else
          R (.returned (.bool false)) w43
      else
       R (.returned (.bool false)) w28
  else
   X.CallX Try.prog 22 #[] w7 fun e9 w10 =>
    ∃ b11 : Bool, (e9 = .returned (.bool b11)) ∧
    (X.Kept L8 w7 w10) ∧
    R (.returned (.bool b11)) w10) :
    Calls Try.prog 6 #[.agg #[.int .u8 a_0, .int .u16 a_1, .int .u32 a_2, .int .u8 a_3, .int .u8 a_4, .int .u8 a_5, .int .u8 a_6, .int .u8 a_7, .int .u8 a_8, .int .u8 a_9]] w R :=
  X.calls_of { isLoc := [1], sym := [], loops := [(3, .inv [(3, .ptr), (4, .int .i64)] [] true)], joins := [] } Try.func6 (by kernel_rfl) h
abbrev fn_gemotlaw02_IdentSets : Nat := 7
theorem x_gemotlaw02_IdentSets (a : Int) (b : Option Addr) (bl bc : Nat) (w : World) (R : Ending → World → Prop) (h :
  if ((decide (((bl : Nat) : Int) > 100)) == false) = true then
   X.CallX Try.prog 22 #[] w fun e4 w5 =>
    ∃ b6 : Bool, (e4 = .returned (.bool b6)) ∧
    ((w).heap.size ≤ (w5).heap.size) ∧
    if (false || (!b6)) = true then
     X.CallX Try.prog 22 #[] w5 fun e544 w545 =>
      ∃ b546 : Bool, (e544 = .returned (.bool b546)) ∧
      ((w5).heap.size ≤ (w545).heap.size) ∧
      R (.returned (.bool b546)) w545
    else
     X.CallX Try.prog 34 #[(.int .i64 a)] w5 fun e7 w8 =>
      ∃ q9 : Option Addr, (e7 = .returned (.pointer (q9))) ∧
      ((w5).heap.size ≤ (w8).heap.size) ∧
      ∃ x10 : Int → World → List Nat → Prop, ∃ x11 : Int → World → Nat, (x10 0 (w8.alloc (.cells #[(.slice none 0 0), (.int .i64 a)] 75)) []) ∧
      ∀ n12 : Int, ∀ w13 : World, ∀ L14 : List Nat, (X.LF (w).heap.size w13 L14) →
      (x10 n12 w13 L14) →
      if (decide (n12 < ((bl : Nat) : Int))) = true then
       ((0 : Int) ≤ n12) ∧
       (n12 < ((bl : Nat) : Int)) ∧
       X.onSome (b) fun p15 =>
       ∃ n16 : Int, ∃ n17 : Int, ∃ n18 : Int, ∃ n19 : Int, ∃ n20 : Int, ∃ n21 : Int, ∃ n22 : Int, ∃ n23 : Int, ∃ n24 : Int, ∃ n25 : Int, (X.Cells w13 ((p15.add ((n12).toNat * 11)).add 1) [(.int .u8 n16), (.int .u16 n17), (.int .u32 n18), (.int .u8 n19), (.int .u8 n20), (.int .u8 n21), (.int .u8 n22), (.int .u8 n23), (.int .u8 n24), (.int .u8 n25)]) ∧
       ((0 : Int) ≤ n12) ∧
       (n12 < ((bl : Nat) : Int)) ∧
       X.onSome (b) fun p26 =>
       ∃ n27 : Int, (World.cell? w13 ((p26.add ((n12).toNat * 11)).add 0) = some (.int .i64 n27)) ∧
       if (n27 == 0) = true then
        if (n27 == 0) = true then
         ∃ x485 : X.Facts, (X.FactsW x485 w13 []) ∧
         ∀ w486 : World, ∀ L487 : List Nat, (X.Hid [] w13 w486) →
         (X.NewL (w).heap.size [] w13 w486 L487) →
         X.CallX Try.prog 9 #[(.agg #[(.int .u8 n16), (.int .u16 n17), (.int .u32 n18), (.int .u8 n19), (.int .u8 n20), (.int .u8 n21), (.int .u8 n22), (.int .u8 n23), (.int .u8 n24), (.int .u8 n25)])] w486 fun e488 w489 =>
          ∃ n490 : Int, ∃ n491 : Int, ∃ n492 : Int, ∃ n493 : Int, ∃ n494 : Int, ∃ n495 : Int, ∃ n496 : Int, ∃ n497 : Int, ∃ n498 : Int, ∃ n499 : Int, (e488 = .returned (.agg #[(.int .u8 n490), (.int .u16 n491), (.int .u32 n492), (.int .u8 n493), (.int .u8 n494), (.int .u8 n495), (.int .u8 n496), (.int .u8 n497), (.int .u8 n498), (.int .u8 n499)])) ∧
          (X.Kept L487 w486 w489) ∧
          (X.FactsW x485 w489 (L487)) ∧
          X.CallX Try.prog 28 #[(.pointer (q9)), (.agg #[(.int .u8 n490), (.int .u16 n491), (.int .u32 n492), (.int .u8 n493), (.int .u8 n494), (.int .u8 n495), (.int .u8 n496), (.int .u8 n497), (.int .u8 n498), (.int .u8 n499)])] w489 fun e500 w501 =>
           ∃ n502 : Int, (e500 = .returned (.int .i64 n502)) ∧
           (X.Kept L487 w489 w501) ∧
           (X.FactsW x485 w501 (L487)) ∧
           X.CallX Try.prog 14 #[(.int .i64 n502)] w501 fun e503 w504 =>
            ∃ n505 : Int, (e503 = .returned (.int .i64 n505)) ∧
            (X.Kept L487 w501 w504) ∧
            (X.FactsW x485 w504 (L487)) ∧
            X.CallX Try.prog 35 #[(.pointer (some ⟨(w8).heap.size, 0, none⟩)), (.agg #[(.int .u8 n16), (.int .u16 n17), (.int .u32 n18), (.int .u8 n19), (.int .u8 n20), (.int .u8 n21), (.int .u8 n22), (.int .u8 n23), (.int .u8 n24), (.int .u8 n25)])] w504 fun e506 w507 =>
             ∃ n508 : Int, (e506 = .returned (.int .i64 n508)) ∧
             (X.Kept L487 w504 w507) ∧
             (X.FactsW x485 w507 (L487)) ∧
             ∃ x509 : X.Facts, (X.FactsW x509 w507 (L487)) ∧
             if ((!(n505 == n508)) == false) = true then
              ∃ q518 : Option Addr, ∃ k519 : Nat, ∃ k520 : Nat, ((⟨(w8).heap.size, 0, none⟩, [(.slice (q518) k519 k520)]) ∈ x509) ∧
              ∀ w521 : World, ∀ L522 : List Nat, (X.Hid (L487) w507 w521) →
              (X.NewL (w).heap.size (L487) w507 w521 L522) →
              X.CallX Try.prog 31 #[(.pointer (q9))] w521 fun e523 w524 =>
               ∃ n525 : Int, (e523 = .returned (.int .i64 n525)) ∧
               (X.Kept L522 w521 w524) ∧
               (X.FactsW x509 w524 (L522)) ∧
               ∃ x526 : X.Facts, (X.FactsW x526 w524 (L522)) ∧
               (∀ x527 : Addr × List Value, (x527 ∈ x509) →
                x527 ∈ x526) ∧
               if ((false || (n525 != ((k519 : Nat) : Int))) == false) = true then
                ∃ q528 : Option Addr, ∃ k529 : Nat, ∃ k530 : Nat, ((⟨(w8).heap.size, 0, none⟩, [(.slice (q528) k529 k530)]) ∈ x526) ∧
                X.CallX Try.prog 32 #[(.pointer (q9))] w524 fun e531 w532 =>
                 ∃ q533 : Option Addr, ∃ k534 : Nat, ∃ k535 : Nat, (e531 = .returned (.slice (q533) k534 k535)) ∧
                 (X.Kept L522 w524 w532) ∧
                 (X.FactsW x526 w532 (L522)) ∧
                 X.CallX Try.prog 39 #[(.slice (q533) k534 k535)] w532 fun e536 w537 =>
                  ∃ q538 : Option Addr, ∃ k539 : Nat, ∃ k540 : Nat, (e536 = .returned (.slice (q538) k539 k540)) ∧
                  (X.Kept L522 w532 w537) ∧
                  (X.FactsW x526 w537 (L522)) ∧
                  X.CallX Try.prog 38 #[(.slice (q538) k539 k540), (.slice (q528) k529 k530)] w537 fun e541 w542 =>
                   ∃ b543 : Bool, (e541 = .returned (.bool b543)) ∧
                   (X.Kept L522 w537 w542) ∧
                   (X.FactsW x526 w542 (L522)) ∧
                   if (false || (!b543)) = true then
                    R (.returned (.bool false)) w542
                   else
                    (x10 (IntKind.wrap .i64 (n12 + 1)) w542 (L522)) ∧
                    Nat.le ((x11 (IntKind.wrap .i64 (n12 + 1)) w542) + 1) (x11 n12 w13)
               else
                R (.returned (.bool false)) w524
             else
              (∃ x510 : X.Facts, (X.FactsW x510 w507 (L487)) ∧
               (∀ x511 : Addr × List Value, (x511 ∈ x509) →
                x511 ∈ x510) ∧
               ∀ w512 : World, (X.Hid (L487) w507 w512) →
               R (.returned (.bool false)) w512) ∧
              ∃ x513 : X.Facts, (X.FactsW x513 w507 (L487)) ∧
              (∀ x514 : Addr × List Value, (x514 ∈ x509) →
               x514 ∈ x513) ∧
              ∃ x515 : X.Facts, (X.FactsW x515 w507 (L487)) ∧
              (∀ x516 : Addr × List Value, (x516 ∈ x513) →
               x516 ∈ x515) ∧
              ∀ w517 : World, (X.Hid (L487) w507 w517) →
              R (.returned (.bool false)) w517
        else
         if (n27 == 2) = true then
          ∃ x429 : X.Facts, (X.FactsW x429 w13 []) ∧
          ∀ w430 : World, ∀ L431 : List Nat, (X.Hid [] w13 w430) →
          (X.NewL (w).heap.size [] w13 w430 L431) →
          X.CallX Try.prog 9 #[(.agg #[(.int .u8 n16), (.int .u16 n17), (.int .u32 n18), (.int .u8 n19), (.int .u8 n20), (.int .u8 n21), (.int .u8 n22), (.int .u8 n23), (.int .u8 n24), (.int .u8 n25)])] w430 fun e432 w433 =>
           ∃ n434 : Int, ∃ n435 : Int, ∃ n436 : Int, ∃ n437 : Int, ∃ n438 : Int, ∃ n439 : Int, ∃ n440 : Int, ∃ n441 : Int, ∃ n442 : Int, ∃ n443 : Int, (e432 = .returned (.agg #[(.int .u8 n434), (.int .u16 n435), (.int .u32 n436), (.int .u8 n437), (.int .u8 n438), (.int .u8 n439), (.int .u8 n440), (.int .u8 n441), (.int .u8 n442), (.int .u8 n443)])) ∧
           (X.Kept L431 w430 w433) ∧
           (X.FactsW x429 w433 (L431)) ∧
           X.CallX Try.prog 29 #[(.pointer (q9)), (.agg #[(.int .u8 n434), (.int .u16 n435), (.int .u32 n436), (.int .u8 n437), (.int .u8 n438), (.int .u8 n439), (.int .u8 n440), (.int .u8 n441), (.int .u8 n442), (.int .u8 n443)])] w433 fun e444 w445 =>
            ∃ b446 : Bool, (e444 = .returned (.bool b446)) ∧
            (X.Kept L431 w433 w445) ∧
            (X.FactsW x429 w445 (L431)) ∧
            X.CallX Try.prog 36 #[(.pointer (some ⟨(w8).heap.size, 0, none⟩)), (.agg #[(.int .u8 n16), (.int .u16 n17), (.int .u32 n18), (.int .u8 n19), (.int .u8 n20), (.int .u8 n21), (.int .u8 n22), (.int .u8 n23), (.int .u8 n24), (.int .u8 n25)])] w445 fun e447 w448 =>
             ∃ b449 : Bool, (e447 = .returned (.bool b449)) ∧
             (X.Kept L431 w445 w448) ∧
             (X.FactsW x429 w448 (L431)) ∧
             ∃ x450 : X.Facts, (X.FactsW x450 w448 (L431)) ∧
             if ((!(b446 == b449)) == false) = true then
              ∃ q459 : Option Addr, ∃ k460 : Nat, ∃ k461 : Nat, ((⟨(w8).heap.size, 0, none⟩, [(.slice (q459) k460 k461)]) ∈ x450) ∧
              ∀ w462 : World, ∀ L463 : List Nat, (X.Hid (L431) w448 w462) →
              (X.NewL (w).heap.size (L431) w448 w462 L463) →
              X.CallX Try.prog 31 #[(.pointer (q9))] w462 fun e464 w465 =>
               ∃ n466 : Int, (e464 = .returned (.int .i64 n466)) ∧
               (X.Kept L463 w462 w465) ∧
               (X.FactsW x450 w465 (L463)) ∧
               ∃ x467 : X.Facts, (X.FactsW x467 w465 (L463)) ∧
               (∀ x468 : Addr × List Value, (x468 ∈ x450) →
                x468 ∈ x467) ∧
               if ((false || (n466 != ((k460 : Nat) : Int))) == false) = true then
                ∃ q469 : Option Addr, ∃ k470 : Nat, ∃ k471 : Nat, ((⟨(w8).heap.size, 0, none⟩, [(.slice (q469) k470 k471)]) ∈ x467) ∧
                X.CallX Try.prog 32 #[(.pointer (q9))] w465 fun e472 w473 =>
                 ∃ q474 : Option Addr, ∃ k475 : Nat, ∃ k476 : Nat, (e472 = .returned (.slice (q474) k475 k476)) ∧
                 (X.Kept L463 w465 w473) ∧
                 (X.FactsW x467 w473 (L463)) ∧
                 X.CallX Try.prog 39 #[(.slice (q474) k475 k476)] w473 fun e477 w478 =>
                  ∃ q479 : Option Addr, ∃ k480 : Nat, ∃ k481 : Nat, (e477 = .returned (.slice (q479) k480 k481)) ∧
                  (X.Kept L463 w473 w478) ∧
                  (X.FactsW x467 w478 (L463)) ∧
                  X.CallX Try.prog 38 #[(.slice (q479) k480 k481), (.slice (q469) k470 k471)] w478 fun e482 w483 =>
                   ∃ b484 : Bool, (e482 = .returned (.bool b484)) ∧
                   (X.Kept L463 w478 w483) ∧
                   (X.FactsW x467 w483 (L463)) ∧
                   if (false || (!b484)) = true then
                    R (.returned (.bool false)) w483
                   else
                    (x10 (IntKind.wrap .i64 (n12 + 1)) w483 (L463)) ∧
                    Nat.le ((x11 (IntKind.wrap .i64 (n12 + 1)) w483) + 1) (x11 n12 w13)
               else
                R (.returned (.bool false)) w465
             else
              (∃ x451 : X.Facts, (X.FactsW x451 w448 (L431)) ∧
               (∀ x452 : Addr × List Value, (x452 ∈ x450) →
                x452 ∈ x451) ∧
               ∀ w453 : World, (X.Hid (L431) w448 w453) →
               R (.returned (.bool false)) w453) ∧
              ∃ x454 : X.Facts, (X.FactsW x454 w448 (L431)) ∧
              (∀ x455 : Addr × List Value, (x455 ∈ x450) →
               x455 ∈ x454) ∧
              ∃ x456 : X.Facts, (X.FactsW x456 w448 (L431)) ∧
              (∀ x457 : Addr × List Value, (x457 ∈ x454) →
               x457 ∈ x456) ∧
              ∀ w458 : World, (X.Hid (L431) w448 w458) →
              R (.returned (.bool false)) w458
         else
          if (n27 == 3) = true then
           ∀ w373 : World, ∀ L374 : List Nat, (X.Hid [] w13 w373) →
           (X.NewL (w).heap.size [] w13 w373 L374) →
           X.CallX Try.prog 37 #[(.pointer (some ⟨(w8).heap.size, 0, none⟩)), (.agg #[(.int .u8 n16), (.int .u16 n17), (.int .u32 n18), (.int .u8 n19), (.int .u8 n20), (.int .u8 n21), (.int .u8 n22), (.int .u8 n23), (.int .u8 n24), (.int .u8 n25)])] w373 fun e375 w376 =>
            ∃ n377 : Int, ∃ b378 : Bool, (e375 = .returned (.tuple #[(.int .i64 n377), (.bool b378)])) ∧
            (X.Kept L374 w373 w376) ∧
            X.CallX Try.prog 9 #[(.agg #[(.int .u8 n16), (.int .u16 n17), (.int .u32 n18), (.int .u8 n19), (.int .u8 n20), (.int .u8 n21), (.int .u8 n22), (.int .u8 n23), (.int .u8 n24), (.int .u8 n25)])] w376 fun e379 w380 =>
             ∃ n381 : Int, ∃ n382 : Int, ∃ n383 : Int, ∃ n384 : Int, ∃ n385 : Int, ∃ n386 : Int, ∃ n387 : Int, ∃ n388 : Int, ∃ n389 : Int, ∃ n390 : Int, (e379 = .returned (.agg #[(.int .u8 n381), (.int .u16 n382), (.int .u32 n383), (.int .u8 n384), (.int .u8 n385), (.int .u8 n386), (.int .u8 n387), (.int .u8 n388), (.int .u8 n389), (.int .u8 n390)])) ∧
             (X.Kept L374 w376 w380) ∧
             X.CallX Try.prog 30 #[(.pointer (q9)), (.agg #[(.int .u8 n381), (.int .u16 n382), (.int .u32 n383), (.int .u8 n384), (.int .u8 n385), (.int .u8 n386), (.int .u8 n387), (.int .u8 n388), (.int .u8 n389), (.int .u8 n390)])] w380 fun e391 w392 =>
              ∃ b393 : Bool, (e391 = .returned (.bool b393)) ∧
              (X.Kept L374 w380 w392) ∧
              ∃ x394 : X.Facts, (X.FactsW x394 w392 (L374)) ∧
              if ((!(b393 == b378)) == false) = true then
               ∃ q403 : Option Addr, ∃ k404 : Nat, ∃ k405 : Nat, ((⟨(w8).heap.size, 0, none⟩, [(.slice (q403) k404 k405)]) ∈ x394) ∧
               ∀ w406 : World, ∀ L407 : List Nat, (X.Hid (L374) w392 w406) →
               (X.NewL (w).heap.size (L374) w392 w406 L407) →
               X.CallX Try.prog 31 #[(.pointer (q9))] w406 fun e408 w409 =>
                ∃ n410 : Int, (e408 = .returned (.int .i64 n410)) ∧
                (X.Kept L407 w406 w409) ∧
                (X.FactsW x394 w409 (L407)) ∧
                ∃ x411 : X.Facts, (X.FactsW x411 w409 (L407)) ∧
                (∀ x412 : Addr × List Value, (x412 ∈ x394) →
                 x412 ∈ x411) ∧
                if ((false || (n410 != ((k404 : Nat) : Int))) == false) = true then
                 ∃ q413 : Option Addr, ∃ k414 : Nat, ∃ k415 : Nat, ((⟨(w8).heap.size, 0, none⟩, [(.slice (q413) k414 k415)]) ∈ x411) ∧
                 X.CallX Try.prog 32 #[(.pointer (q9))] w409 fun e416 w417 =>
                  ∃ q418 : Option Addr, ∃ k419 : Nat, ∃ k420 : Nat, (e416 = .returned (.slice (q418) k419 k420)) ∧
                  (X.Kept L407 w409 w417) ∧
                  (X.FactsW x411 w417 (L407)) ∧
                  X.CallX Try.prog 39 #[(.slice (q418) k419 k420)] w417 fun e421 w422 =>
                   ∃ q423 : Option Addr, ∃ k424 : Nat, ∃ k425 : Nat, (e421 = .returned (.slice (q423) k424 k425)) ∧
                   (X.Kept L407 w417 w422) ∧
                   (X.FactsW x411 w422 (L407)) ∧
                   X.CallX Try.prog 38 #[(.slice (q423) k424 k425), (.slice (q413) k414 k415)] w422 fun e426 w427 =>
                    ∃ b428 : Bool, (e426 = .returned (.bool b428)) ∧
                    (X.Kept L407 w422 w427) ∧
                    (X.FactsW x411 w427 (L407)) ∧
                    if (false || (!b428)) = true then
                     R (.returned (.bool false)) w427
                    else
                     (x10 (IntKind.wrap .i64 (n12 + 1)) w427 (L407)) ∧
                     Nat.le ((x11 (IntKind.wrap .i64 (n12 + 1)) w427) + 1) (x11 n12 w13)
                else
                 R (.returned (.bool false)) w409
              else
               (∃ x395 : X.Facts, (X.FactsW x395 w392 (L374)) ∧
                (∀ x396 : Addr × List Value, (x396 ∈ x394) →
                 x396 ∈ x395) ∧
                ∀ w397 : World, (X.Hid (L374) w392 w397) →
                R (.returned (.bool false)) w397) ∧
               ∃ x398 : X.Facts, (X.FactsW x398 w392 (L374)) ∧
               (∀ x399 : Addr × List Value, (x399 ∈ x394) →
                x399 ∈ x398) ∧
               ∃ x400 : X.Facts, (X.FactsW x400 w392 (L374)) ∧
               (∀ x401 : Addr × List Value, (x401 ∈ x398) →
                x401 ∈ x400) ∧
               ∀ w402 : World, (X.Hid (L374) w392 w402) →
               R (.returned (.bool false)) w402
          else
           if (n27 == 4) = true then
            ∃ x313 : X.Facts, (X.FactsW x313 w13 []) ∧
            ∀ w314 : World, ∀ L315 : List Nat, (X.Hid [] w13 w314) →
            (X.NewL (w).heap.size [] w13 w314 L315) →
            X.CallX Try.prog 19 #[(.agg #[(.int .u8 n16), (.int .u16 n17)])] w314 fun e316 w317 =>
             ∃ n318 : Int, ∃ n319 : Int, (e316 = .returned (.agg #[(.int .u8 n318), (.int .u16 n319)])) ∧
             (X.Kept L315 w314 w317) ∧
             (X.FactsW x313 w317 (L315)) ∧
             X.CallX Try.prog 33 #[(.pointer (q9)), (.agg #[(.int .u8 n318), (.int .u16 n319)])] w317 fun e320 w321 =>
              ∃ q322 : Option Addr, ∃ k323 : Nat, ∃ k324 : Nat, (e320 = .returned (.slice (q322) k323 k324)) ∧
              (X.Kept L315 w317 w321) ∧
              (X.FactsW x313 w321 (L315)) ∧
              X.CallX Try.prog 39 #[(.slice (q322) k323 k324)] w321 fun e325 w326 =>
               ∃ q327 : Option Addr, ∃ k328 : Nat, ∃ k329 : Nat, (e325 = .returned (.slice (q327) k328 k329)) ∧
               (X.Kept L315 w321 w326) ∧
               (X.FactsW x313 w326 (L315)) ∧
               X.CallX Try.prog 40 #[(.pointer (some ⟨(w8).heap.size, 0, none⟩)), (.agg #[(.int .u8 n16), (.int .u16 n17)])] w326 fun e330 w331 =>
                ∃ q332 : Option Addr, ∃ k333 : Nat, ∃ k334 : Nat, (e330 = .returned (.slice (q332) k333 k334)) ∧
                (X.Kept L315 w326 w331) ∧
                (X.FactsW x313 w331 (L315)) ∧
                X.CallX Try.prog 38 #[(.slice (q327) k328 k329), (.slice (q332) k333 k334)] w331 fun e335 w336 =>
                 ∃ b337 : Bool, (e335 = .returned (.bool b337)) ∧
                 (X.Kept L315 w331 w336) ∧
                 (X.FactsW x313 w336 (L315)) ∧
                 ∃ x338 : X.Facts, (X.FactsW x338 w336 (L315)) ∧
                 if ((!b337) == false) = true then
                  ∃ q347 : Option Addr, ∃ k348 : Nat, ∃ k349 : Nat, ((⟨(w8).heap.size, 0, none⟩, [(.slice (q347) k348 k349)]) ∈ x338) ∧
                  ∀ w350 : World, ∀ L351 : List Nat, (X.Hid (L315) w336 w350) →
                  (X.NewL (w).heap.size (L315) w336 w350 L351) →
                  X.CallX Try.prog 31 #[(.pointer (q9))] w350 fun e352 w353 =>
                   ∃ n354 : Int, (e352 = .returned (.int .i64 n354)) ∧
                   (X.Kept L351 w350 w353) ∧
                   (X.FactsW x338 w353 (L351)) ∧
                   ∃ x355 : X.Facts, (X.FactsW x355 w353 (L351)) ∧
                   (∀ x356 : Addr × List Value, (x356 ∈ x338) →
                    x356 ∈ x355) ∧
                   if ((false || (n354 != ((k348 : Nat) : Int))) == false) = true then
                    ∃ q357 : Option Addr, ∃ k358 : Nat, ∃ k359 : Nat, ((⟨(w8).heap.size, 0, none⟩, [(.slice (q357) k358 k359)]) ∈ x355) ∧
                    X.CallX Try.prog 32 #[(.pointer (q9))] w353 fun e360 w361 =>
                     ∃ q362 : Option Addr, ∃ k363 : Nat, ∃ k364 : Nat, (e360 = .returned (.slice (q362) k363 k364)) ∧
                     (X.Kept L351 w353 w361) ∧
                     (X.FactsW x355 w361 (L351)) ∧
                     X.CallX Try.prog 39 #[(.slice (q362) k363 k364)] w361 fun e365 w366 =>
                      ∃ q367 : Option Addr, ∃ k368 : Nat, ∃ k369 : Nat, (e365 = .returned (.slice (q367) k368 k369)) ∧
                      (X.Kept L351 w361 w366) ∧
                      (X.FactsW x355 w366 (L351)) ∧
                      X.CallX Try.prog 38 #[(.slice (q367) k368 k369), (.slice (q357) k358 k359)] w366 fun e370 w371 =>
                       ∃ b372 : Bool, (e370 = .returned (.bool b372)) ∧
                       (X.Kept L351 w366 w371) ∧
                       (X.FactsW x355 w371 (L351)) ∧
                       if (false || (!b372)) = true then
                        R (.returned (.bool false)) w371
                       else
                        (x10 (IntKind.wrap .i64 (n12 + 1)) w371 (L351)) ∧
                        Nat.le ((x11 (IntKind.wrap .i64 (n12 + 1)) w371) + 1) (x11 n12 w13)
                   else
                    R (.returned (.bool false)) w353
                 else
                  (∃ x339 : X.Facts, (X.FactsW x339 w336 (L315)) ∧
                   (∀ x340 : Addr × List Value, (x340 ∈ x338) →
                    x340 ∈ x339) ∧
                   ∀ w341 : World, (X.Hid (L315) w336 w341) →
                   R (.returned (.bool false)) w341) ∧
                  ∃ x342 : X.Facts, (X.FactsW x342 w336 (L315)) ∧
                  (∀ x343 : Addr × List Value, (x343 ∈ x338) →
                   x343 ∈ x342) ∧
                  ∃ x344 : X.Facts, (X.FactsW x344 w336 (L315)) ∧
                  (∀ x345 : Addr × List Value, (x345 ∈ x342) →
                   x345 ∈ x344) ∧
                  ∀ w346 : World, (X.Hid (L315) w336 w346) →
                  R (.returned (.bool false)) w346
           else
            ∃ x286 : X.Facts, (X.FactsW x286 w13 []) ∧
            ∃ q287 : Option Addr, ∃ k288 : Nat, ∃ k289 : Nat, ((⟨(w8).heap.size, 0, none⟩, [(.slice (q287) k288 k289)]) ∈ x286) ∧
            ∀ w290 : World, ∀ L291 : List Nat, (X.Hid [] w13 w290) →
            (X.NewL (w).heap.size [] w13 w290 L291) →
            X.CallX Try.prog 31 #[(.pointer (q9))] w290 fun e292 w293 =>
             ∃ n294 : Int, (e292 = .returned (.int .i64 n294)) ∧
             (X.Kept L291 w290 w293) ∧
             (X.FactsW x286 w293 (L291)) ∧
             ∃ x295 : X.Facts, (X.FactsW x295 w293 (L291)) ∧
             (∀ x296 : Addr × List Value, (x296 ∈ x286) →
              x296 ∈ x295) ∧
             if ((false || (n294 != ((k288 : Nat) : Int))) == false) = true then
              ∃ q297 : Option Addr, ∃ k298 : Nat, ∃ k299 : Nat, ((⟨(w8).heap.size, 0, none⟩, [(.slice (q297) k298 k299)]) ∈ x295) ∧
              X.CallX Try.prog 32 #[(.pointer (q9))] w293 fun e300 w301 =>
               ∃ q302 : Option Addr, ∃ k303 : Nat, ∃ k304 : Nat, (e300 = .returned (.slice (q302) k303 k304)) ∧
               (X.Kept L291 w293 w301) ∧
               (X.FactsW x295 w301 (L291)) ∧
               X.CallX Try.prog 39 #[(.slice (q302) k303 k304)] w301 fun e305 w306 =>
                ∃ q307 : Option Addr, ∃ k308 : Nat, ∃ k309 : Nat, (e305 = .returned (.slice (q307) k308 k309)) ∧
                (X.Kept L291 w301 w306) ∧
                (X.FactsW x295 w306 (L291)) ∧
                X.CallX Try.prog 38 #[(.slice (q307) k308 k309), (.slice (q297) k298 k299)] w306 fun e310 w311 =>
                 ∃ b312 : Bool, (e310 = .returned (.bool b312)) ∧
                 (X.Kept L291 w306 w311) ∧
                 (X.FactsW x295 w311 (L291)) ∧
                 if (false || (!b312)) = true then
                  R (.returned (.bool false)) w311
                 else
                  (x10 (IntKind.wrap .i64 (n12 + 1)) w311 (L291)) ∧
                  Nat.le ((x11 (IntKind.wrap .i64 (n12 + 1)) w311) + 1) (x11 n12 w13)
             else
              R (.returned (.bool false)) w293
       else
        if (n27 == 1) = true then
         ∃ x227 : X.Facts, (X.FactsW x227 w13 []) ∧
         ∀ w228 : World, ∀ L229 : List Nat, (X.Hid [] w13 w228) →
         (X.NewL (w).heap.size [] w13 w228 L229) →
         X.CallX Try.prog 9 #[(.agg #[(.int .u8 n16), (.int .u16 n17), (.int .u32 n18), (.int .u8 n19), (.int .u8 n20), (.int .u8 n21), (.int .u8 n22), (.int .u8 n23), (.int .u8 n24), (.int .u8 n25)])] w228 fun e230 w231 =>
          ∃ n232 : Int, ∃ n233 : Int, ∃ n234 : Int, ∃ n235 : Int, ∃ n236 : Int, ∃ n237 : Int, ∃ n238 : Int, ∃ n239 : Int, ∃ n240 : Int, ∃ n241 : Int, (e230 = .returned (.agg #[(.int .u8 n232), (.int .u16 n233), (.int .u32 n234), (.int .u8 n235), (.int .u8 n236), (.int .u8 n237), (.int .u8 n238), (.int .u8 n239), (.int .u8 n240), (.int .u8 n241)])) ∧
          (X.Kept L229 w228 w231) ∧
          (X.FactsW x227 w231 (L229)) ∧
          X.CallX Try.prog 28 #[(.pointer (q9)), (.agg #[(.int .u8 n232), (.int .u16 n233), (.int .u32 n234), (.int .u8 n235), (.int .u8 n236), (.int .u8 n237), (.int .u8 n238), (.int .u8 n239), (.int .u8 n240), (.int .u8 n241)])] w231 fun e242 w243 =>
           ∃ n244 : Int, (e242 = .returned (.int .i64 n244)) ∧
           (X.Kept L229 w231 w243) ∧
           (X.FactsW x227 w243 (L229)) ∧
           X.CallX Try.prog 14 #[(.int .i64 n244)] w243 fun e245 w246 =>
            ∃ n247 : Int, (e245 = .returned (.int .i64 n247)) ∧
            (X.Kept L229 w243 w246) ∧
            (X.FactsW x227 w246 (L229)) ∧
            X.CallX Try.prog 35 #[(.pointer (some ⟨(w8).heap.size, 0, none⟩)), (.agg #[(.int .u8 n16), (.int .u16 n17), (.int .u32 n18), (.int .u8 n19), (.int .u8 n20), (.int .u8 n21), (.int .u8 n22), (.int .u8 n23), (.int .u8 n24), (.int .u8 n25)])] w246 fun e248 w249 =>
             ∃ n250 : Int, (e248 = .returned (.int .i64 n250)) ∧
             (X.Kept L229 w246 w249) ∧
             (X.FactsW x227 w249 (L229)) ∧
             ∃ x251 : X.Facts, (X.FactsW x251 w249 (L229)) ∧
             if ((!(n247 == n250)) == false) = true then
              ∃ q260 : Option Addr, ∃ k261 : Nat, ∃ k262 : Nat, ((⟨(w8).heap.size, 0, none⟩, [(.slice (q260) k261 k262)]) ∈ x251) ∧
              ∀ w263 : World, ∀ L264 : List Nat, (X.Hid (L229) w249 w263) →
              (X.NewL (w).heap.size (L229) w249 w263 L264) →
              X.CallX Try.prog 31 #[(.pointer (q9))] w263 fun e265 w266 =>
               ∃ n267 : Int, (e265 = .returned (.int .i64 n267)) ∧
               (X.Kept L264 w263 w266) ∧
               (X.FactsW x251 w266 (L264)) ∧
               ∃ x268 : X.Facts, (X.FactsW x268 w266 (L264)) ∧
               (∀ x269 : Addr × List Value, (x269 ∈ x251) →
                x269 ∈ x268) ∧
               if ((false || (n267 != ((k261 : Nat) : Int))) == false) = true then
                ∃ q270 : Option Addr, ∃ k271 : Nat, ∃ k272 : Nat, ((⟨(w8).heap.size, 0, none⟩, [(.slice (q270) k271 k272)]) ∈ x268) ∧
                X.CallX Try.prog 32 #[(.pointer (q9))] w266 fun e273 w274 =>
                 ∃ q275 : Option Addr, ∃ k276 : Nat, ∃ k277 : Nat, (e273 = .returned (.slice (q275) k276 k277)) ∧
                 (X.Kept L264 w266 w274) ∧
                 (X.FactsW x268 w274 (L264)) ∧
                 X.CallX Try.prog 39 #[(.slice (q275) k276 k277)] w274 fun e278 w279 =>
                  ∃ q280 : Option Addr, ∃ k281 : Nat, ∃ k282 : Nat, (e278 = .returned (.slice (q280) k281 k282)) ∧
                  (X.Kept L264 w274 w279) ∧
                  (X.FactsW x268 w279 (L264)) ∧
                  X.CallX Try.prog 38 #[(.slice (q280) k281 k282), (.slice (q270) k271 k272)] w279 fun e283 w284 =>
                   ∃ b285 : Bool, (e283 = .returned (.bool b285)) ∧
                   (X.Kept L264 w279 w284) ∧
                   (X.FactsW x268 w284 (L264)) ∧
                   if (false || (!b285)) = true then
                    R (.returned (.bool false)) w284
                   else
                    (x10 (IntKind.wrap .i64 (n12 + 1)) w284 (L264)) ∧
                    Nat.le ((x11 (IntKind.wrap .i64 (n12 + 1)) w284) + 1) (x11 n12 w13)
               else
                R (.returned (.bool false)) w266
             else
              (∃ x252 : X.Facts, (X.FactsW x252 w249 (L229)) ∧
               (∀ x253 : Addr × List Value, (x253 ∈ x251) →
                x253 ∈ x252) ∧
               ∀ w254 : World, (X.Hid (L229) w249 w254) →
               R (.returned (.bool false)) w254) ∧
              ∃ x255 : X.Facts, (X.FactsW x255 w249 (L229)) ∧
              (∀ x256 : Addr × List Value, (x256 ∈ x251) →
               x256 ∈ x255) ∧
              ∃ x257 : X.Facts, (X.FactsW x257 w249 (L229)) ∧
              (∀ x258 : Addr × List Value, (x258 ∈ x255) →
               x258 ∈ x257) ∧
              ∀ w259 : World, (X.Hid (L229) w249 w259) →
              R (.returned (.bool false)) w259
        else
         if (n27 == 2) = true then
          ∃ x171 : X.Facts, (X.FactsW x171 w13 []) ∧
          ∀ w172 : World, ∀ L173 : List Nat, (X.Hid [] w13 w172) →
          (X.NewL (w).heap.size [] w13 w172 L173) →
          X.CallX Try.prog 9 #[(.agg #[(.int .u8 n16), (.int .u16 n17), (.int .u32 n18), (.int .u8 n19), (.int .u8 n20), (.int .u8 n21), (.int .u8 n22), (.int .u8 n23), (.int .u8 n24), (.int .u8 n25)])] w172 fun e174 w175 =>
           ∃ n176 : Int, ∃ n177 : Int, ∃ n178 : Int, ∃ n179 : Int, ∃ n180 : Int, ∃ n181 : Int, ∃ n182 : Int, ∃ n183 : Int, ∃ n184 : Int, ∃ n185 : Int, (e174 = .returned (.agg #[(.int .u8 n176), (.int .u16 n177), (.int .u32 n178), (.int .u8 n179), (.int .u8 n180), (.int .u8 n181), (.int .u8 n182), (.int .u8 n183), (.int .u8 n184), (.int .u8 n185)])) ∧
           (X.Kept L173 w172 w175) ∧
           (X.FactsW x171 w175 (L173)) ∧
           X.CallX Try.prog 29 #[(.pointer (q9)), (.agg #[(.int .u8 n176), (.int .u16 n177), (.int .u32 n178), (.int .u8 n179), (.int .u8 n180), (.int .u8 n181), (.int .u8 n182), (.int .u8 n183), (.int .u8 n184), (.int .u8 n185)])] w175 fun e186 w187 =>
            ∃ b188 : Bool, (e186 = .returned (.bool b188)) ∧
            (X.Kept L173 w175 w187) ∧
            (X.FactsW x171 w187 (L173)) ∧
            X.CallX Try.prog 36 #[(.pointer (some ⟨(w8).heap.size, 0, none⟩)), (.agg #[(.int .u8 n16), (.int .u16 n17), (.int .u32 n18), (.int .u8 n19), (.int .u8 n20), (.int .u8 n21), (.int .u8 n22), (.int .u8 n23), (.int .u8 n24), (.int .u8 n25)])] w187 fun e189 w190 =>
             ∃ b191 : Bool, (e189 = .returned (.bool b191)) ∧
             (X.Kept L173 w187 w190) ∧
             (X.FactsW x171 w190 (L173)) ∧
             ∃ x192 : X.Facts, (X.FactsW x192 w190 (L173)) ∧
             if ((!(b188 == b191)) == false) = true then
              ∃ q201 : Option Addr, ∃ k202 : Nat, ∃ k203 : Nat, ((⟨(w8).heap.size, 0, none⟩, [(.slice (q201) k202 k203)]) ∈ x192) ∧
              ∀ w204 : World, ∀ L205 : List Nat, (X.Hid (L173) w190 w204) →
              (X.NewL (w).heap.size (L173) w190 w204 L205) →
              X.CallX Try.prog 31 #[(.pointer (q9))] w204 fun e206 w207 =>
               ∃ n208 : Int, (e206 = .returned (.int .i64 n208)) ∧
               (X.Kept L205 w204 w207) ∧
               (X.FactsW x192 w207 (L205)) ∧
               ∃ x209 : X.Facts, (X.FactsW x209 w207 (L205)) ∧
               (∀ x210 : Addr × List Value, (x210 ∈ x192) →
                x210 ∈ x209) ∧
               if ((false || (n208 != ((k202 : Nat) : Int))) == false) = true then
                ∃ q211 : Option Addr, ∃ k212 : Nat, ∃ k213 : Nat, ((⟨(w8).heap.size, 0, none⟩, [(.slice (q211) k212 k213)]) ∈ x209) ∧
                X.CallX Try.prog 32 #[(.pointer (q9))] w207 fun e214 w215 =>
                 ∃ q216 : Option Addr, ∃ k217 : Nat, ∃ k218 : Nat, (e214 = .returned (.slice (q216) k217 k218)) ∧
                 (X.Kept L205 w207 w215) ∧
                 (X.FactsW x209 w215 (L205)) ∧
                 X.CallX Try.prog 39 #[(.slice (q216) k217 k218)] w215 fun e219 w220 =>
                  ∃ q221 : Option Addr, ∃ k222 : Nat, ∃ k223 : Nat, (e219 = .returned (.slice (q221) k222 k223)) ∧
                  (X.Kept L205 w215 w220) ∧
                  (X.FactsW x209 w220 (L205)) ∧
                  X.CallX Try.prog 38 #[(.slice (q221) k222 k223), (.slice (q211) k212 k213)] w220 fun e224 w225 =>
                   ∃ b226 : Bool, (e224 = .returned (.bool b226)) ∧
                   (X.Kept L205 w220 w225) ∧
                   (X.FactsW x209 w225 (L205)) ∧
                   if (false || (!b226)) = true then
                    R (.returned (.bool false)) w225
                   else
                    (x10 (IntKind.wrap .i64 (n12 + 1)) w225 (L205)) ∧
                    Nat.le ((x11 (IntKind.wrap .i64 (n12 + 1)) w225) + 1) (x11 n12 w13)
               else
                R (.returned (.bool false)) w207
             else
              (∃ x193 : X.Facts, (X.FactsW x193 w190 (L173)) ∧
               (∀ x194 : Addr × List Value, (x194 ∈ x192) →
                x194 ∈ x193) ∧
               ∀ w195 : World, (X.Hid (L173) w190 w195) →
               R (.returned (.bool false)) w195) ∧
              ∃ x196 : X.Facts, (X.FactsW x196 w190 (L173)) ∧
              (∀ x197 : Addr × List Value, (x197 ∈ x192) →
               x197 ∈ x196) ∧
              ∃ x198 : X.Facts, (X.FactsW x198 w190 (L173)) ∧
              (∀ x199 : Addr × List Value, (x199 ∈ x196) →
               x199 ∈ x198) ∧
              ∀ w200 : World, (X.Hid (L173) w190 w200) →
              R (.returned (.bool false)) w200
         else
          if (n27 == 3) = true then
           ∀ w115 : World, ∀ L116 : List Nat, (X.Hid [] w13 w115) →
           (X.NewL (w).heap.size [] w13 w115 L116) →
           X.CallX Try.prog 37 #[(.pointer (some ⟨(w8).heap.size, 0, none⟩)), (.agg #[(.int .u8 n16), (.int .u16 n17), (.int .u32 n18), (.int .u8 n19), (.int .u8 n20), (.int .u8 n21), (.int .u8 n22), (.int .u8 n23), (.int .u8 n24), (.int .u8 n25)])] w115 fun e117 w118 =>
            ∃ n119 : Int, ∃ b120 : Bool, (e117 = .returned (.tuple #[(.int .i64 n119), (.bool b120)])) ∧
            (X.Kept L116 w115 w118) ∧
            X.CallX Try.prog 9 #[(.agg #[(.int .u8 n16), (.int .u16 n17), (.int .u32 n18), (.int .u8 n19), (.int .u8 n20), (.int .u8 n21), (.int .u8 n22), (.int .u8 n23), (.int .u8 n24), (.int .u8 n25)])] w118 fun e121 w122 =>
             ∃ n123 : Int, ∃ n124 : Int, ∃ n125 : Int, ∃ n126 : Int, ∃ n127 : Int, ∃ n128 : Int, ∃ n129 : Int, ∃ n130 : Int, ∃ n131 : Int, ∃ n132 : Int, (e121 = .returned (.agg #[(.int .u8 n123), (.int .u16 n124), (.int .u32 n125), (.int .u8 n126), (.int .u8 n127), (.int .u8 n128), (.int .u8 n129), (.int .u8 n130), (.int .u8 n131), (.int .u8 n132)])) ∧
             (X.Kept L116 w118 w122) ∧
             X.CallX Try.prog 30 #[(.pointer (q9)), (.agg #[(.int .u8 n123), (.int .u16 n124), (.int .u32 n125), (.int .u8 n126), (.int .u8 n127), (.int .u8 n128), (.int .u8 n129), (.int .u8 n130), (.int .u8 n131), (.int .u8 n132)])] w122 fun e133 w134 =>
              ∃ b135 : Bool, (e133 = .returned (.bool b135)) ∧
              (X.Kept L116 w122 w134) ∧
              ∃ x136 : X.Facts, (X.FactsW x136 w134 (L116)) ∧
              if ((!(b135 == b120)) == false) = true then
               ∃ q145 : Option Addr, ∃ k146 : Nat, ∃ k147 : Nat, ((⟨(w8).heap.size, 0, none⟩, [(.slice (q145) k146 k147)]) ∈ x136) ∧
               ∀ w148 : World, ∀ L149 : List Nat, (X.Hid (L116) w134 w148) →
               (X.NewL (w).heap.size (L116) w134 w148 L149) →
               X.CallX Try.prog 31 #[(.pointer (q9))] w148 fun e150 w151 =>
                ∃ n152 : Int, (e150 = .returned (.int .i64 n152)) ∧
                (X.Kept L149 w148 w151) ∧
                (X.FactsW x136 w151 (L149)) ∧
                ∃ x153 : X.Facts, (X.FactsW x153 w151 (L149)) ∧
                (∀ x154 : Addr × List Value, (x154 ∈ x136) →
                 x154 ∈ x153) ∧
                if ((false || (n152 != ((k146 : Nat) : Int))) == false) = true then
                 ∃ q155 : Option Addr, ∃ k156 : Nat, ∃ k157 : Nat, ((⟨(w8).heap.size, 0, none⟩, [(.slice (q155) k156 k157)]) ∈ x153) ∧
                 X.CallX Try.prog 32 #[(.pointer (q9))] w151 fun e158 w159 =>
                  ∃ q160 : Option Addr, ∃ k161 : Nat, ∃ k162 : Nat, (e158 = .returned (.slice (q160) k161 k162)) ∧
                  (X.Kept L149 w151 w159) ∧
                  (X.FactsW x153 w159 (L149)) ∧
                  X.CallX Try.prog 39 #[(.slice (q160) k161 k162)] w159 fun e163 w164 =>
                   ∃ q165 : Option Addr, ∃ k166 : Nat, ∃ k167 : Nat, (e163 = .returned (.slice (q165) k166 k167)) ∧
                   (X.Kept L149 w159 w164) ∧
                   (X.FactsW x153 w164 (L149)) ∧
                   X.CallX Try.prog 38 #[(.slice (q165) k166 k167), (.slice (q155) k156 k157)] w164 fun e168 w169 =>
                    ∃ b170 : Bool, (e168 = .returned (.bool b170)) ∧
                    (X.Kept L149 w164 w169) ∧
                    (X.FactsW x153 w169 (L149)) ∧
                    if (false || (!b170)) = true then
                     R (.returned (.bool false)) w169
                    else
                     (x10 (IntKind.wrap .i64 (n12 + 1)) w169 (L149)) ∧
                     Nat.le ((x11 (IntKind.wrap .i64 (n12 + 1)) w169) + 1) (x11 n12 w13)
                else
                 R (.returned (.bool false)) w151
              else
               (∃ x137 : X.Facts, (X.FactsW x137 w134 (L116)) ∧
                (∀ x138 : Addr × List Value, (x138 ∈ x136) →
                 x138 ∈ x137) ∧
                ∀ w139 : World, (X.Hid (L116) w134 w139) →
                R (.returned (.bool false)) w139) ∧
               ∃ x140 : X.Facts, (X.FactsW x140 w134 (L116)) ∧
               (∀ x141 : Addr × List Value, (x141 ∈ x136) →
                x141 ∈ x140) ∧
               ∃ x142 : X.Facts, (X.FactsW x142 w134 (L116)) ∧
               (∀ x143 : Addr × List Value, (x143 ∈ x140) →
                x143 ∈ x142) ∧
               ∀ w144 : World, (X.Hid (L116) w134 w144) →
               R (.returned (.bool false)) w144
          else
           if (n27 == 4) = true then
            ∃ x55 : X.Facts, (X.FactsW x55 w13 []) ∧
            ∀ w56 : World, ∀ L57 : List Nat, (X.Hid [] w13 w56) →
            (X.NewL (w).heap.size [] w13 w56 L57) →
            X.CallX Try.prog 19 #[(.agg #[(.int .u8 n16), (.int .u16 n17)])] w56 fun e58 w59 =>
             ∃ n60 : Int, ∃ n61 : Int, (e58 = .returned (.agg #[(.int .u8 n60), (.int .u16 n61)])) ∧
             (X.Kept L57 w56 w59) ∧
             (X.FactsW x55 w59 (L57)) ∧
             X.CallX Try.prog 33 #[(.pointer (q9)), (.agg #[(.int .u8 n60), (.int .u16 n61)])] w59 fun e62 w63 =>
              ∃ q64 : Option Addr, ∃ k65 : Nat, ∃ k66 : Nat, (e62 = .returned (.slice (q64) k65 k66)) ∧
              (X.Kept L57 w59 w63) ∧
              (X.FactsW x55 w63 (L57)) ∧
              X.CallX Try.prog 39 #[(.slice (q64) k65 k66)] w63 fun e67 w68 =>
               ∃ q69 : Option Addr, ∃ k70 : Nat, ∃ k71 : Nat, (e67 = .returned (.slice (q69) k70 k71)) ∧
               (X.Kept L57 w63 w68) ∧
               (X.FactsW x55 w68 (L57)) ∧
               X.CallX Try.prog 40 #[(.pointer (some ⟨(w8).heap.size, 0, none⟩)), (.agg #[(.int .u8 n16), (.int .u16 n17)])] w68 fun e72 w73 =>
                ∃ q74 : Option Addr, ∃ k75 : Nat, ∃ k76 : Nat, (e72 = .returned (.slice (q74) k75 k76)) ∧
                (X.Kept L57 w68 w73) ∧
                (X.FactsW x55 w73 (L57)) ∧
                X.CallX Try.prog 38 #[(.slice (q69) k70 k71), (.slice (q74) k75 k76)] w73 fun e77 w78 =>
                 ∃ b79 : Bool, (e77 = .returned (.bool b79)) ∧
                 (X.Kept L57 w73 w78) ∧
                 (X.FactsW x55 w78 (L57)) ∧
                 ∃ x80 : X.Facts, (X.FactsW x80 w78 (L57)) ∧
                 if ((!b79) == false) = true then
                  ∃ q89 : Option Addr, ∃ k90 : Nat, ∃ k91 : Nat, ((⟨(w8).heap.size, 0, none⟩, [(.slice (q89) k90 k91)]) ∈ x80) ∧
                  ∀ w92 : World, ∀ L93 : List Nat, (X.Hid (L57) w78 w92) →
                  (X.NewL (w).heap.size (L57) w78 w92 L93) →
                  X.CallX Try.prog 31 #[(.pointer (q9))] w92 fun e94 w95 =>
                   ∃ n96 : Int, (e94 = .returned (.int .i64 n96)) ∧
                   (X.Kept L93 w92 w95) ∧
                   (X.FactsW x80 w95 (L93)) ∧
                   ∃ x97 : X.Facts, (X.FactsW x97 w95 (L93)) ∧
                   (∀ x98 : Addr × List Value, (x98 ∈ x80) →
                    x98 ∈ x97) ∧
                   if ((false || (n96 != ((k90 : Nat) : Int))) == false) = true then
                    ∃ q99 : Option Addr, ∃ k100 : Nat, ∃ k101 : Nat, ((⟨(w8).heap.size, 0, none⟩, [(.slice (q99) k100 k101)]) ∈ x97) ∧
                    X.CallX Try.prog 32 #[(.pointer (q9))] w95 fun e102 w103 =>
                     ∃ q104 : Option Addr, ∃ k105 : Nat, ∃ k106 : Nat, (e102 = .returned (.slice (q104) k105 k106)) ∧
                     (X.Kept L93 w95 w103) ∧
                     (X.FactsW x97 w103 (L93)) ∧
                     X.CallX Try.prog 39 #[(.slice (q104) k105 k106)] w103 fun e107 w108 =>
                      ∃ q109 : Option Addr, ∃ k110 : Nat, ∃ k111 : Nat, (e107 = .returned (.slice (q109) k110 k111)) ∧
                      (X.Kept L93 w103 w108) ∧
                      (X.FactsW x97 w108 (L93)) ∧
                      X.CallX Try.prog 38 #[(.slice (q109) k110 k111), (.slice (q99) k100 k101)] w108 fun e112 w113 =>
                       ∃ b114 : Bool, (e112 = .returned (.bool b114)) ∧
                       (X.Kept L93 w108 w113) ∧
                       (X.FactsW x97 w113 (L93)) ∧
                       if (false || (!b114)) = true then
                        R (.returned (.bool false)) w113
                       else
                        (x10 (IntKind.wrap .i64 (n12 + 1)) w113 (L93)) ∧
                        Nat.le ((x11 (IntKind.wrap .i64 (n12 + 1)) w113) + 1) (x11 n12 w13)
                   else
                    R (.returned (.bool false)) w95
                 else
                  (∃ x81 : X.Facts, (X.FactsW x81 w78 (L57)) ∧
                   (∀ x82 : Addr × List Value, (x82 ∈ x80) →
                    x82 ∈ x81) ∧
                   ∀ w83 : World, (X.Hid (L57) w78 w83) →
                   R (.returned (.bool false)) w83) ∧
                  ∃ x84 : X.Facts, (X.FactsW x84 w78 (L57)) ∧
                  (∀ x85 : Addr × List Value, (x85 ∈ x80) →
                   x85 ∈ x84) ∧
                  ∃ x86 : X.Facts, (X.FactsW x86 w78 (L57)) ∧
                  (∀ x87 : Addr × List Value, (x87 ∈ x84) →
                   x87 ∈ x86) ∧
                  ∀ w88 : World, (X.Hid (L57) w78 w88) →
                  R (.returned (.bool false)) w88
           else
            ∃ x28 : X.Facts, (X.FactsW x28 w13 []) ∧
            ∃ q29 : Option Addr, ∃ k30 : Nat, ∃ k31 : Nat, ((⟨(w8).heap.size, 0, none⟩, [(.slice (q29) k30 k31)]) ∈ x28) ∧
            ∀ w32 : World, ∀ L33 : List Nat, (X.Hid [] w13 w32) →
            (X.NewL (w).heap.size [] w13 w32 L33) →
            X.CallX Try.prog 31 #[(.pointer (q9))] w32 fun e34 w35 =>
             ∃ n36 : Int, (e34 = .returned (.int .i64 n36)) ∧
             (X.Kept L33 w32 w35) ∧
             (X.FactsW x28 w35 (L33)) ∧
             ∃ x37 : X.Facts, (X.FactsW x37 w35 (L33)) ∧
             (∀ x38 : Addr × List Value, (x38 ∈ x28) →
              x38 ∈ x37) ∧
             if ((false || (n36 != ((k30 : Nat) : Int))) == false) = true then
              ∃ q39 : Option Addr, ∃ k40 : Nat, ∃ k41 : Nat, ((⟨(w8).heap.size, 0, none⟩, [(.slice (q39) k40 k41)]) ∈ x37) ∧
              X.CallX Try.prog 32 #[(.pointer (q9))] w35 fun e42 w43 =>
               ∃ q44 : Option Addr, ∃ k45 : Nat, ∃ k46 : Nat, (e42 = .returned (.slice (q44) k45 k46)) ∧
               (X.Kept L33 w35 w43) ∧
               (X.FactsW x37 w43 (L33)) ∧
               X.CallX Try.prog 39 #[(.slice (q44) k45 k46)] w43 fun e47 w48 =>
                ∃ q49 : Option Addr, ∃ k50 : Nat, ∃ k51 : Nat, (e47 = .returned (.slice (q49) k50 k51)) ∧
                (X.Kept L33 w43 w48) ∧
                (X.FactsW x37 w48 (L33)) ∧
                X.CallX Try.prog 38 #[(.slice (q49) k50 k51), (.slice (q39) k40 k41)] w48 fun e52 w53 =>
                 ∃ b54 : Bool, (e52 = .returned (.bool b54)) ∧
                 (X.Kept L33 w48 w53) ∧
                 (X.FactsW x37 w53 (L33)) ∧
                 if (false || (!b54)) = true then
                  R (.returned (.bool false)) w53
                 else
                  (x10 (IntKind.wrap .i64 (n12 + 1)) w53 (L33)) ∧
                  Nat.le ((x11 (IntKind.wrap .i64 (n12 + 1)) w53) + 1) (x11 n12 w13)
             else
              R (.returned (.bool false)) w35
      else
       R (.returned (.bool true)) w13
  else
   X.CallX Try.prog 22 #[] w fun e1 w2 =>
    ∃ b3 : Bool, (e1 = .returned (.bool b3)) ∧
    ((w).heap.size ≤ (w2).heap.size) ∧
    R (.returned (.bool b3)) w2) :
    Calls Try.prog 7 #[.int .i64 a, .slice b bl bc] w R :=
  X.calls_of { isLoc := [8], sym := [], loops := [(6, .inv [(7, .int .i64)] [] true)], joins := [] } Try.func7 (by kernel_rfl) h
abbrev fn_slices_DeleteFunc_ident_ID_ident_ID : Nat := 52
theorem x_slices_DeleteFunc_ident_ID_ident_ID (a : Option Addr) (al ac : Nat) (z : Addr) (w : World) (R : Ending → World → Prop) (h :
  X.CallX Try.prog 59 #[(.slice (a) al ac), (.func (.func (OfNat.ofNat 53)) #[] #[(.pointer (some z))])] w fun e1 w2 =>
   ∃ n3 : Int, (e1 = .returned (.int .i64 n3)) ∧
   ((w).heap.size ≤ (w2).heap.size) ∧
   if (n3 == (-1)) = true then
    R (.returned (.slice (a) al ac)) w2
   else
    ∃ x4 : Int → Int → World → List Nat → Prop, ∃ x5 : Int → Int → World → Nat, (x4 n3 (IntKind.wrap .i64 (n3 + 1)) w2 []) ∧
    ∀ n6 : Int, ∀ n7 : Int, ∀ w8 : World, ∀ L9 : List Nat, (X.LF (w).heap.size w8 L9) →
    (x4 n6 n7 w8 L9) →
    if (decide (n7 < ((al : Nat) : Int))) = true then
     ((0 : Int) ≤ n7) ∧
     (n7 < ((al : Nat) : Int)) ∧
     X.onSome (a) fun p11 =>
     ∃ n12 : Int, ∃ n13 : Int, ∃ n14 : Int, ∃ n15 : Int, ∃ n16 : Int, ∃ n17 : Int, ∃ n18 : Int, ∃ n19 : Int, ∃ n20 : Int, ∃ n21 : Int, (X.Cells w8 (p11.add ((n7).toNat * 10)) [(.int .u8 n12), (.int .u16 n13), (.int .u32 n14), (.int .u8 n15), (.int .u8 n16), (.int .u8 n17), (.int .u8 n18), (.int .u8 n19), (.int .u8 n20), (.int .u8 n21)]) ∧
     ∀ w22 : World, ∀ L23 : List Nat, (X.Hid [] w8 w22) →
     (X.NewL (w).heap.size [] w8 w22 L23) →
     X.CallX Try.prog (OfNat.ofNat 53) #[(.agg #[(.int .u8 n12), (.int .u16 n13), (.int .u32 n14), (.int .u8 n15), (.int .u8 n16), (.int .u8 n17), (.int .u8 n18), (.int .u8 n19), (.int .u8 n20), (.int .u8 n21)]), (.pointer (some z))] w22 fun e24 w25 =>
      ∃ b26 : Bool, (e24 = .returned (.bool b26)) ∧
      (X.Kept L23 w22 w25) ∧
      if (!b26) = true then
       ((0 : Int) ≤ n6) ∧
       (n6 < ((al : Nat) : Int)) ∧
       X.onSome (a) fun p27 =>
       (((p27.add (n6.toNat * 10)).spot) = none) ∧
       (World.there w25 ((p27.add (n6.toNat * 10)).block) ((p27.add (n6.toNat * 10)).off) 10) ∧
       (¬ (((p27.add (n6.toNat * 10)).block) ∈ L23)) ∧
       (x4 (IntKind.wrap .i64 (n6 + 1)) (IntKind.wrap .i64 (n7 + 1)) (w25.setCells ((p27.add (n6.toNat * 10)).block) ((p27.add (n6.toNat * 10)).off) [(.int .u8 n12), (.int .u16 n13), (.int .u32 n14), (.int .u8 n15), (.int .u8 n16), (.int .u8 n17), (.int .u8 n18), (.int .u8 n19), (.int .u8 n20), (.int .u8 n21)]) (L23)) ∧
       Nat.le ((x5 (IntKind.wrap .i64 (n6 + 1)) (IntKind.wrap .i64 (n7 + 1)) (w25.setCells ((p27.add (n6.toNat * 10)).block) ((p27.add (n6.toNat * 10)).off) [(.int .u8 n12), (.int .u16 n13), (.int .u32 n14), (.int .u8 n15), (.int .u8 n16), (.int .u8 n17), (.int .u8 n18), (.int .u8 n19), (.int .u8 n20), (.int .u8 n21)])) + 1) (x5 n6 n7 w8)
      else
       (x4 n6 (IntKind.wrap .i64 (n7 + 1)) w25 (L23)) ∧
       Nat.le ((x5 n6 (IntKind.wrap .i64 (n7 + 1)) w25) + 1) (x5 n6 n7 w8)
    else
     ((0 : Int) ≤ n6) ∧
     (n6 ≤ ((al : Nat) : Int)) ∧
     ∃ w10 : World, (Sem.run Try.prog (Go.Builtin.clear_ #[64] 0 #[(.slice (X.cutA (a) ac (n6).toNat 10) (al - (n6).toNat) (ac - (n6).toNat))]) w8 = .ok (.tuple #[]) w10) ∧
     ((w8).heap.size ≤ (w10).heap.size) ∧
     ((0 : Int) ≤ n6) ∧
     (n6 ≤ ((ac : Nat) : Int)) ∧
     R (.returned (.slice (X.cutA (a) ac 0 10) (n6).toNat ac)) w10) :
    Calls Try.prog 52 #[.slice a al ac, .func (.func 53) #[] #[.pointer (some z)]] w R :=
  X.calls_of { isLoc := [7], sym := [], loops := [(5, .inv [(5, .int .i64), (6, .int .i64)] [] true)], joins := [] } Try.func52 (by kernel_rfl) h
abbrev fn_slices_IndexFunc_ident_ID_ident_ID : Nat := 59
theorem x_slices_IndexFunc_ident_ID_ident_ID (a : Option Addr) (al ac : Nat) (z : Addr) (w : World) (R : Ending → World → Prop) (h :
  ∃ x1 : Int → World → List Nat → Prop, ∃ x2 : Int → World → Nat, (x1 0 w []) ∧
  ∀ n3 : Int, ∀ w4 : World, ∀ L5 : List Nat, (X.LF (w).heap.size w4 L5) →
  (x1 n3 w4 L5) →
  if (decide (n3 < ((al : Nat) : Int))) = true then
   ((0 : Int) ≤ n3) ∧
   (n3 < ((al : Nat) : Int)) ∧
   X.onSome (a) fun p6 =>
   ∃ n7 : Int, ∃ n8 : Int, ∃ n9 : Int, ∃ n10 : Int, ∃ n11 : Int, ∃ n12 : Int, ∃ n13 : Int, ∃ n14 : Int, ∃ n15 : Int, ∃ n16 : Int, (X.Cells w4 (p6.add ((n3).toNat * 10)) [(.int .u8 n7), (.int .u16 n8), (.int .u32 n9), (.int .u8 n10), (.int .u8 n11), (.int .u8 n12), (.int .u8 n13), (.int .u8 n14), (.int .u8 n15), (.int .u8 n16)]) ∧
   X.CallX Try.prog (OfNat.ofNat 53) #[(.agg #[(.int .u8 n7), (.int .u16 n8), (.int .u32 n9), (.int .u8 n10), (.int .u8 n11), (.int .u8 n12), (.int .u8 n13), (.int .u8 n14), (.int .u8 n15), (.int .u8 n16)]), (.pointer (some z))] w4 fun e17 w18 =>
    ∃ b19 : Bool, (e17 = .returned (.bool b19)) ∧
    ((w4).heap.size ≤ (w18).heap.size) ∧
    if b19 = true then
     R (.returned (.int .i64 n3)) w18
    else
     (x1 (IntKind.wrap .i64 (n3 + 1)) w18 []) ∧
     Nat.le ((x2 (IntKind.wrap .i64 (n3 + 1)) w18) + 1) (x2 n3 w4)
  else
   R (.returned (.int .i64 (-1))) w4) :
    Calls Try.prog 59 #[.slice a al ac, .func (.func 53) #[] #[.pointer (some z)]] w R :=
  X.calls_of { isLoc := [], sym := [], loops := [(2, .inv [(8, .int .i64)] [] true)], joins := [] } Try.func59 (by kernel_rfl) h
abbrev fn_ident_Set_Under_1 : Nat := 53
theorem x_ident_Set_Under_1 (a_0 a_1 a_2 a_3 a_4 a_5 a_6 a_7 a_8 a_9 : Int) (z0 : Addr) (w : World) (R : Ending → World → Prop) (h :
  ∃ n1 : Int, ∃ n2 : Int, (X.Cells w z0 [(.int .u8 n1), (.int .u16 n2)]) ∧
  ∀ w3 : World, (X.Hid [] w w3) →
  R (.returned (.bool (!((a_0 == n1) && (a_1 == n2))))) w3) :
    Calls Try.prog 53 #[.agg #[.int .u8 a_0, .int .u16 a_1, .int .u32 a_2, .int .u8 a_3, .int .u8 a_4, .int .u8 a_5, .int .u8 a_6, .int .u8 a_7, .int .u8 a_8, .int .u8 a_9], .pointer (some z0)] w R :=
  X.calls_of { isLoc := [2], sym := [], loops := [], joins := [] } Try.func53 (by kernel_rfl) h
end Go.Proofs
