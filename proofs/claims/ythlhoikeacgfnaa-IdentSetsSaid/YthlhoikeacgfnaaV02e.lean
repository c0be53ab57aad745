import Derived.Test.YthlhoikeacgfnaaXFn
import Derived.Test.YthlhoikeacgfnaaProg
/- The verification conditions of this seat's functions, as the engine has them: printed by a program of the bench; checked by the kernel. -/
set_option maxRecDepth 100000
set_option linter.unusedVariables false
namespace Go.Proofs
open Go
abbrev fn_ident_Set_none : Nat := 50
theorem x_ident_Set_none (a : Addr) (w : World) (R : Ending → World → Prop) (h :
  ∃ q1 : Option Nat, (World.cell? w (a.add 0) = some (.map (q1))) ∧
  R (.returned (.bool (false || (q1.isNone)))) w) :
    Calls Try.prog 50 #[.pointer (some a)] w R :=
  X.calls_of { isLoc := [], sym := [], loops := [], joins := [] } Try.func50 (by kernel_rfl) h
abbrev fn_none_nil : Nat := 50
theorem x_none_nil  (w : World) (R : Ending → World → Prop) (h :
  R (.returned (.bool true)) w) :
    Calls Try.prog 50 #[.pointer none] w R :=
  X.calls_of { isLoc := [], sym := [], loops := [], joins := [] } Try.func50 (by kernel_rfl) h
abbrev fn_ident_NewSet : Nat := 34
theorem x_ident_NewSet (a : Int) (w : World) (R : Ending → World → Prop) (h :
  R (.returned (.pointer (some ⟨((w.alloc (.map #[] 0))).heap.size, 0, none⟩))) ((w.alloc (.map #[] 0)).alloc (.cells #[(.map (some (w).heap.size)), (.int .i64 (if (0 : Int) > a then 0 else a))] 69))) :
    Calls Try.prog 34 #[.int .i64 a] w R :=
  X.calls_of { isLoc := [], sym := [], loops := [], joins := [] } Try.func34 (by kernel_rfl) h
abbrev fn_ident_Set_Add : Nat := 28
theorem x_ident_Set_Add (a : Addr) (b_0 b_1 b_2 b_3 b_4 b_5 b_6 b_7 b_8 b_9 : Int) (w : World) (R : Ending → World → Prop) (h :
  ∀ w1 : World, ∀ L2 : List Nat, (X.Hid [] w w1) →
  (X.NewL (w).heap.size [] w w1 L2) →
  X.CallX Try.prog 50 #[(.pointer (some a))] w1 fun e3 w4 =>
   ∃ b5 : Bool, (e3 = .returned (.bool b5)) ∧
   (X.Kept L2 w1 w4) ∧
   if (b5 == false) = true then
    X.CallX Try.prog 17 #[(.agg #[(.int .u8 b_0), (.int .u16 b_1), (.int .u32 b_2), (.int .u8 b_3), (.int .u8 b_4), (.int .u8 b_5), (.int .u8 b_6), (.int .u8 b_7), (.int .u8 b_8), (.int .u8 b_9)])] w4 fun e6 w7 =>
     ∃ b8 : Bool, (e6 = .returned (.bool b8)) ∧
     (X.Kept L2 w4 w7) ∧
     if (false || (!b8)) = true then
      R (.returned (.int .i64 1)) w7
     else
      X.CallX Try.prog 30 #[(.pointer (some a)), (.agg #[(.int .u8 b_0), (.int .u16 b_1), (.int .u32 b_2), (.int .u8 b_3), (.int .u8 b_4), (.int .u8 b_5), (.int .u8 b_6), (.int .u8 b_7), (.int .u8 b_8), (.int .u8 b_9)])] w7 fun e9 w10 =>
       ∃ b11 : Bool, (e9 = .returned (.bool b11)) ∧
       (X.Kept L2 w7 w10) ∧
       if b11 = true then
        R (.returned (.int .i64 4)) w10
       else
        ∃ x12 : X.Facts, (X.FactsW x12 w10 (L2)) ∧
        ∃ q13 : Option Nat, (((a.add 0), [(.map (q13))]) ∈ x12) ∧
        ∃ n14 : Int, (((a.add 1), [(.int .i64 n14)]) ∈ x12) ∧
        ∀ w15 : World, ∀ L16 : List Nat, (X.Hid (L2) w10 w15) →
        (X.NewL (w).heap.size (L2) w10 w15 L16) →
        ∃ n17 : Int, ∃ w18 : World, (Sem.run Try.prog (Go.Builtin.len_ #[67] 3 #[(.map (q13))]) w15 = .ok (.int .i64 n17) w18) ∧
        (X.Kept L16 w15 w18) ∧
        (X.FactsW x12 w18 (L16)) ∧
        if (decide (n17 ≥ n14)) = true then
         R (.returned (.int .i64 11)) w18
        else
         ∃ x19 : X.Facts, (X.FactsW x19 w18 (L16)) ∧
         ∃ q20 : Option Nat, (((a.add 0), [(.map (q20))]) ∈ x19) ∧
         ∀ w21 : World, ∀ L22 : List Nat, (X.Hid (L16) w18 w21) →
         (X.NewL (w).heap.size (L16) w18 w21 L22) →
         ∃ w23 : World, (Sem.run Try.prog (Go.Instr.mapUpdate 67 (.map (q20)) (.agg #[(.int .u8 b_0), (.int .u16 b_1), (.int .u32 b_2), (.int .u8 b_3), (.int .u8 b_4), (.int .u8 b_5), (.int .u8 b_6), (.int .u8 b_7), (.int .u8 b_8), (.int .u8 b_9)]) (.agg #[])) w21 = .ok (PUnit.unit) w23) ∧
         (X.Kept L22 w21 w23) ∧
         R (.returned (.int .i64 0)) w23
   else
    R (.returned (.int .i64 1)) w4) :
    Calls Try.prog 28 #[.pointer (some a), .agg #[.int .u8 b_0, .int .u16 b_1, .int .u32 b_2, .int .u8 b_3, .int .u8 b_4, .int .u8 b_5, .int .u8 b_6, .int .u8 b_7, .int .u8 b_8, .int .u8 b_9]] w R :=
  X.calls_of { isLoc := [3], sym := [22], loops := [], joins := [] } Try.func28 (by kernel_rfl) h
abbrev fn_Add_nil : Nat := 28
theorem x_Add_nil (b_0 b_1 b_2 b_3 b_4 b_5 b_6 b_7 b_8 b_9 : Int) (w : World) (R : Ending → World → Prop) (h :
  ∀ w1 : World, ∀ L2 : List Nat, (X.Hid [] w w1) →
  (X.NewL (w).heap.size [] w w1 L2) →
  X.CallX Try.prog 50 #[(.pointer none)] w1 fun e3 w4 =>
   ∃ b5 : Bool, (e3 = .returned (.bool b5)) ∧
   (X.Kept L2 w1 w4) ∧
   if (b5 == false) = true then
    X.CallX Try.prog 17 #[(.agg #[(.int .u8 b_0), (.int .u16 b_1), (.int .u32 b_2), (.int .u8 b_3), (.int .u8 b_4), (.int .u8 b_5), (.int .u8 b_6), (.int .u8 b_7), (.int .u8 b_8), (.int .u8 b_9)])] w4 fun e6 w7 =>
     ∃ b8 : Bool, (e6 = .returned (.bool b8)) ∧
     (X.Kept L2 w4 w7) ∧
     if (false || (!b8)) = true then
      R (.returned (.int .i64 1)) w7
     else
      X.CallX Try.prog 30 #[(.pointer none), (.agg #[(.int .u8 b_0), (.int .u16 b_1), (.int .u32 b_2), (.int .u8 b_3), (.int .u8 b_4), (.int .u8 b_5), (.int .u8 b_6), (.int .u8 b_7), (.int .u8 b_8), (.int .u8 b_9)])] w7 fun e9 w10 =>
       ∃ b11 : Bool, (e9 = .returned (.bool b11)) ∧
       (X.Kept L2 w7 w10) ∧
       if b11 = true then
        R (.returned (.int .i64 4)) w10
       else
        ∃ x12 : X.Facts, (X.FactsW x12 w10 (L2)) ∧
        False
   else
    R (.returned (.int .i64 1)) w4) :
    Calls Try.prog 28 #[.pointer none, .agg #[.int .u8 b_0, .int .u16 b_1, .int .u32 b_2, .int .u8 b_3, .int .u8 b_4, .int .u8 b_5, .int .u8 b_6, .int .u8 b_7, .int .u8 b_8, .int .u8 b_9]] w R :=
  X.calls_of { isLoc := [3], sym := [22], loops := [], joins := [] } Try.func28 (by kernel_rfl) h
abbrev fn_ident_Set_Remove : Nat := 29
theorem x_ident_Set_Remove (a : Addr) (b_0 b_1 b_2 b_3 b_4 b_5 b_6 b_7 b_8 b_9 : Int) (w : World) (R : Ending → World → Prop) (h :
  ∀ w1 : World, ∀ L2 : List Nat, (X.Hid [] w w1) →
  (X.NewL (w).heap.size [] w w1 L2) →
  X.CallX Try.prog 30 #[(.pointer (some a)), (.agg #[(.int .u8 b_0), (.int .u16 b_1), (.int .u32 b_2), (.int .u8 b_3), (.int .u8 b_4), (.int .u8 b_5), (.int .u8 b_6), (.int .u8 b_7), (.int .u8 b_8), (.int .u8 b_9)])] w1 fun e3 w4 =>
   ∃ b5 : Bool, (e3 = .returned (.bool b5)) ∧
   (X.Kept L2 w1 w4) ∧
   if b5 = true then
    ∃ x6 : X.Facts, (X.FactsW x6 w4 (L2)) ∧
    ∃ q7 : Option Nat, (((a.add 0), [(.map (q7))]) ∈ x6) ∧
    ∀ w8 : World, ∀ L9 : List Nat, (X.Hid (L2) w4 w8) →
    (X.NewL (w).heap.size (L2) w4 w8 L9) →
    ∃ w10 : World, (Sem.run Try.prog (Go.Builtin.delete_ #[67, 35] 0 #[(.map (q7)), (.agg #[(.int .u8 b_0), (.int .u16 b_1), (.int .u32 b_2), (.int .u8 b_3), (.int .u8 b_4), (.int .u8 b_5), (.int .u8 b_6), (.int .u8 b_7), (.int .u8 b_8), (.int .u8 b_9)])]) w8 = .ok (.tuple #[]) w10) ∧
    (X.Kept L9 w8 w10) ∧
    R (.returned (.bool b5)) w10
   else
    R (.returned (.bool b5)) w4) :
    Calls Try.prog 29 #[.pointer (some a), .agg #[.int .u8 b_0, .int .u16 b_1, .int .u32 b_2, .int .u8 b_3, .int .u8 b_4, .int .u8 b_5, .int .u8 b_6, .int .u8 b_7, .int .u8 b_8, .int .u8 b_9]] w R :=
  X.calls_of { isLoc := [3], sym := [], loops := [], joins := [] } Try.func29 (by kernel_rfl) h
abbrev fn_Remove_nil : Nat := 29
theorem x_Remove_nil (b_0 b_1 b_2 b_3 b_4 b_5 b_6 b_7 b_8 b_9 : Int) (w : World) (R : Ending → World → Prop) (h :
  ∀ w1 : World, ∀ L2 : List Nat, (X.Hid [] w w1) →
  (X.NewL (w).heap.size [] w w1 L2) →
  X.CallX Try.prog 30 #[(.pointer none), (.agg #[(.int .u8 b_0), (.int .u16 b_1), (.int .u32 b_2), (.int .u8 b_3), (.int .u8 b_4), (.int .u8 b_5), (.int .u8 b_6), (.int .u8 b_7), (.int .u8 b_8), (.int .u8 b_9)])] w1 fun e3 w4 =>
   ∃ b5 : Bool, (e3 = .returned (.bool b5)) ∧
   (X.Kept L2 w1 w4) ∧
   if b5 = true then
    ∃ x6 : X.Facts, (X.FactsW x6 w4 (L2)) ∧
    False
   else
    R (.returned (.bool b5)) w4) :
    Calls Try.prog 29 #[.pointer none, .agg #[.int .u8 b_0, .int .u16 b_1, .int .u32 b_2, .int .u8 b_3, .int .u8 b_4, .int .u8 b_5, .int .u8 b_6, .int .u8 b_7, .int .u8 b_8, .int .u8 b_9]] w R :=
  X.calls_of { isLoc := [3], sym := [], loops := [], joins := [] } Try.func29 (by kernel_rfl) h
abbrev fn_ident_Set_Has : Nat := 30
theorem x_ident_Set_Has (a : Addr) (b_0 b_1 b_2 b_3 b_4 b_5 b_6 b_7 b_8 b_9 : Int) (w : World) (R : Ending → World → Prop) (h :
  ∀ w1 : World, ∀ L2 : List Nat, (X.Hid [] w w1) →
  (X.NewL (w).heap.size [] w w1 L2) →
  X.CallX Try.prog 50 #[(.pointer (some a))] w1 fun e3 w4 =>
   ∃ b5 : Bool, (e3 = .returned (.bool b5)) ∧
   (X.Kept L2 w1 w4) ∧
   if b5 = true then
    R (.returned (.bool false)) w4
   else
    ∃ x6 : X.Facts, (X.FactsW x6 w4 (L2)) ∧
    ∃ q7 : Option Nat, (((a.add 0), [(.map (q7))]) ∈ x6) ∧
    (∀ w8 : World, ∀ L9 : List Nat, (X.Hid (L2) w4 w8) →
     (X.NewL (w).heap.size (L2) w4 w8 L9) →
     ∃ b10 : Bool, ∃ w11 : World, (Sem.run Try.prog (Go.Instr.lookup 67 (.map (q7)) (.agg #[(.int .u8 b_0), (.int .u16 b_1), (.int .u32 b_2), (.int .u8 b_3), (.int .u8 b_4), (.int .u8 b_5), (.int .u8 b_6), (.int .u8 b_7), (.int .u8 b_8), (.int .u8 b_9)]) true) w8 = .ok (.tuple #[(.agg #[]), (.bool b10)]) w11) ∧
     (X.Kept L9 w8 w11) ∧
     (X.FactsW x6 w11 (L9)) ∧
     (X.FactsW x6 (w11.alloc (.cells #[] 95)) (L9)) ∧
     ((none : Option Nat) = none) ∧
     (World.there (w11.alloc (.cells #[] 95)) (w11).heap.size 0 0) ∧
     (¬ ((w11).heap.size ∈ L9)) ∧
     R (.returned (.bool b10)) ((w11.alloc (.cells #[] 95)).setCells (w11).heap.size 0 [])) ∧
    ∀ w12 : World, ∀ L13 : List Nat, (X.Hid (L2) w4 w12) →
    (X.NewL (w).heap.size (L2) w4 w12 L13) →
    (X.FactsW x6 (w12.alloc (.cells #[] 95)) (L13)) ∧
    ∃ b14 : Bool, ∃ w15 : World, (Sem.run Try.prog (Go.Instr.lookup 67 (.map (q7)) (.agg #[(.int .u8 b_0), (.int .u16 b_1), (.int .u32 b_2), (.int .u8 b_3), (.int .u8 b_4), (.int .u8 b_5), (.int .u8 b_6), (.int .u8 b_7), (.int .u8 b_8), (.int .u8 b_9)]) true) (w12.alloc (.cells #[] 95)) = .ok (.tuple #[(.agg #[]), (.bool b14)]) w15) ∧
    (X.Kept L13 (w12.alloc (.cells #[] 95)) w15) ∧
    (X.FactsW x6 w15 (L13)) ∧
    ((none : Option Nat) = none) ∧
    (World.there w15 (w12).heap.size 0 0) ∧
    (¬ ((w12).heap.size ∈ L13)) ∧
    R (.returned (.bool b14)) (w15.setCells (w12).heap.size 0 [])) :
    Calls Try.prog 30 #[.pointer (some a), .agg #[.int .u8 b_0, .int .u16 b_1, .int .u32 b_2, .int .u8 b_3, .int .u8 b_4, .int .u8 b_5, .int .u8 b_6, .int .u8 b_7, .int .u8 b_8, .int .u8 b_9]] w R :=
  X.calls_of { isLoc := [3], sym := [], loops := [], joins := [] } Try.func30 (by kernel_rfl) h
abbrev fn_Has_nil : Nat := 30
theorem x_Has_nil (b_0 b_1 b_2 b_3 b_4 b_5 b_6 b_7 b_8 b_9 : Int) (w : World) (R : Ending → World → Prop) (h :
  ∀ w1 : World, ∀ L2 : List Nat, (X.Hid [] w w1) →
  (X.NewL (w).heap.size [] w w1 L2) →
  X.CallX Try.prog 50 #[(.pointer none)] w1 fun e3 w4 =>
   ∃ b5 : Bool, (e3 = .returned (.bool b5)) ∧
   (X.Kept L2 w1 w4) ∧
   if b5 = true then
    R (.returned (.bool false)) w4
   else
    ∃ x6 : X.Facts, (X.FactsW x6 w4 (L2)) ∧
    False) :
    Calls Try.prog 30 #[.pointer none, .agg #[.int .u8 b_0, .int .u16 b_1, .int .u32 b_2, .int .u8 b_3, .int .u8 b_4, .int .u8 b_5, .int .u8 b_6, .int .u8 b_7, .int .u8 b_8, .int .u8 b_9]] w R :=
  X.calls_of { isLoc := [3], sym := [], loops := [], joins := [] } Try.func30 (by kernel_rfl) h
abbrev fn_ident_Set_Len : Nat := 31
theorem x_ident_Set_Len (a : Addr) (w : World) (R : Ending → World → Prop) (h :
  X.CallX Try.prog 50 #[(.pointer (some a))] w fun e1 w2 =>
   ∃ b3 : Bool, (e1 = .returned (.bool b3)) ∧
   ((w).heap.size ≤ (w2).heap.size) ∧
   if b3 = true then
    R (.returned (.int .i64 0)) w2
   else
    ∃ q4 : Option Nat, (World.cell? w2 (a.add 0) = some (.map (q4))) ∧
    ∃ n5 : Int, ∃ w6 : World, (Sem.run Try.prog (Go.Builtin.len_ #[67] 3 #[(.map (q4))]) w2 = .ok (.int .i64 n5) w6) ∧
    ((w2).heap.size ≤ (w6).heap.size) ∧
    R (.returned (.int .i64 n5)) w6) :
    Calls Try.prog 31 #[.pointer (some a)] w R :=
  X.calls_of { isLoc := [], sym := [9], loops := [], joins := [] } Try.func31 (by kernel_rfl) h
abbrev fn_Len_nil : Nat := 31
theorem x_Len_nil  (w : World) (R : Ending → World → Prop) (h :
  X.CallX Try.prog 50 #[(.pointer none)] w fun e1 w2 =>
   ∃ b3 : Bool, (e1 = .returned (.bool b3)) ∧
   ((w).heap.size ≤ (w2).heap.size) ∧
   if b3 = true then
    R (.returned (.int .i64 0)) w2
   else
    False) :
    Calls Try.prog 31 #[.pointer none] w R :=
  X.calls_of { isLoc := [], sym := [9], loops := [], joins := [] } Try.func31 (by kernel_rfl) h
abbrev fn_ident_Set_All : Nat := 32
theorem x_ident_Set_All (a : Addr) (w : World) (R : Ending → World → Prop) (h :
  X.CallX Try.prog 50 #[(.pointer (some a))] w fun e1 w2 =>
   ∃ b3 : Bool, (e1 = .returned (.bool b3)) ∧
   ((w).heap.size ≤ (w2).heap.size) ∧
   if b3 = true then
    R (.returned (.slice none 0 0)) w2
   else
    ∃ q4 : Option Nat, (World.cell? w2 (a.add 0) = some (.map (q4))) ∧
    ∃ n5 : Int, ∃ w6 : World, (Sem.run Try.prog (Go.Builtin.len_ #[67] 3 #[(.map (q4))]) w2 = .ok (.int .i64 n5) w6) ∧
    ((w2).heap.size ≤ (w6).heap.size) ∧
    ∃ q7 : Option Addr, ∃ k8 : Nat, ∃ k9 : Nat, ∃ w10 : World, (Sem.run Try.prog (Go.Instr.makeSlice 64 (.int .i64 0) (.int .i64 n5)) w6 = .ok (.slice (q7) k8 k9) w10) ∧
    ((w6).heap.size ≤ (w10).heap.size) ∧
    ∃ q11 : Option Nat, (World.cell? w10 (a.add 0) = some (.map (q11))) ∧
    ∃ q12 : Option Addr, ∃ w13 : World, (Sem.run Try.prog (Go.Instr.range 67 (.map (q11))) w10 = .ok (.pointer (q12)) w13) ∧
    ((w10).heap.size ≤ (w13).heap.size) ∧
    ∃ x14 : Option Addr → Nat → Nat → World → List Nat → Prop, ∃ x15 : Option Addr → Nat → Nat → World → Nat, (x14 q7 k8 k9 w13 []) ∧
    ∀ q16 : Option Addr, ∀ k17 : Nat, ∀ k18 : Nat, ∀ w19 : World, ∀ L20 : List Nat, (X.LF (w).heap.size w19 L20) →
    (x14 q16 k17 k18 w19 L20) →
    ∃ b21 : Bool, ∃ L22 : List Value, ∃ w23 : World, (Sem.run Try.prog (Go.Instr.next (.pointer (q12)) false 0) w19 = .ok (.tuple ((Value.bool b21 :: L22).toArray)) w23) ∧
    ((w19).heap.size ≤ (w23).heap.size) ∧
    if b21 = true then
     ∃ n26 : Int, ∃ n27 : Int, ∃ n28 : Int, ∃ n29 : Int, ∃ n30 : Int, ∃ n31 : Int, ∃ n32 : Int, ∃ n33 : Int, ∃ n34 : Int, ∃ n35 : Int, ∃ w36 : World, (Sem.run Try.prog (Go.Instr.entry (.pointer (q12))) w23 = .ok (.tuple #[(.agg #[(.int .u8 n26), (.int .u16 n27), (.int .u32 n28), (.int .u8 n29), (.int .u8 n30), (.int .u8 n31), (.int .u8 n32), (.int .u8 n33), (.int .u8 n34), (.int .u8 n35)]), (.agg #[])]) w36) ∧
     ((w23).heap.size ≤ (w36).heap.size) ∧
     ∀ w37 : World, ∀ L38 : List Nat, (X.Hid [] w36 w37) →
     (X.NewL (w).heap.size [] w36 w37 L38) →
     ∃ q39 : Option Addr, ∃ k40 : Nat, ∃ k41 : Nat, ∃ w42 : World, (Sem.run Try.prog (Go.Builtin.append_ #[64, 64] 64 #[(.slice (q16) k17 k18), (.slice (some ⟨(w37).heap.size, 0, none⟩) 1 1)]) (w37.alloc (.cells #[(.int .u8 n26), (.int .u16 n27), (.int .u32 n28), (.int .u8 n29), (.int .u8 n30), (.int .u8 n31), (.int .u8 n32), (.int .u8 n33), (.int .u8 n34), (.int .u8 n35)] 35)) = .ok (.slice (q39) k40 k41) w42) ∧
     (X.Kept L38 (w37.alloc (.cells #[(.int .u8 n26), (.int .u16 n27), (.int .u32 n28), (.int .u8 n29), (.int .u8 n30), (.int .u8 n31), (.int .u8 n32), (.int .u8 n33), (.int .u8 n34), (.int .u8 n35)] 35)) w42) ∧
     (x14 q39 k40 k41 w42 (L38)) ∧
     Nat.le ((x15 q39 k40 k41 w42) + 1) (x15 q16 k17 k18 w19)
    else
     X.CallX Try.prog 51 #[(.slice (q16) k17 k18), (.func (.func 23) #[] #[])] w23 fun e24 w25 =>
      (e24 = .returned (.tuple #[])) ∧
      ((w23).heap.size ≤ (w25).heap.size) ∧
      R (.returned (.slice (q16) k17 k18)) w25) :
    Calls Try.prog 32 #[.pointer (some a)] w R :=
  X.calls_of { isLoc := [4], sym := [11], loops := [(5, .inv [(3, .slice)] [] true)], joins := [], ents := [(20, [35, 95])] } Try.func32 (by kernel_rfl) h
abbrev fn_All_nil : Nat := 32
theorem x_All_nil  (w : World) (R : Ending → World → Prop) (h :
  X.CallX Try.prog 50 #[(.pointer none)] w fun e1 w2 =>
   ∃ b3 : Bool, (e1 = .returned (.bool b3)) ∧
   ((w).heap.size ≤ (w2).heap.size) ∧
   if b3 = true then
    R (.returned (.slice none 0 0)) w2
   else
    False) :
    Calls Try.prog 32 #[.pointer none] w R :=
  X.calls_of { isLoc := [4], sym := [11], loops := [(5, .inv [(3, .slice)] [] true)], joins := [], ents := [(20, [35, 95])] } Try.func32 (by kernel_rfl) h
abbrev fn_ident_Set_Under : Nat := 33
theorem x_ident_Set_Under (a : Addr) (b_0 b_1 : Int) (w : World) (R : Ending → World → Prop) (h :
  X.CallX Try.prog 32 #[(.pointer (some a))] (w.alloc (.cells #[(.int .u8 b_0), (.int .u16 b_1)] 31)) fun e1 w2 =>
   ∃ q3 : Option Addr, ∃ k4 : Nat, ∃ k5 : Nat, (e1 = .returned (.slice (q3) k4 k5)) ∧
   (((w.alloc (.cells #[(.int .u8 b_0), (.int .u16 b_1)] 31))).heap.size ≤ (w2).heap.size) ∧
   X.CallX Try.prog 52 #[(.slice (q3) k4 k5), (.func (.func 53) #[] #[(.pointer (some ⟨(w).heap.size, 0, none⟩))])] w2 fun e6 w7 =>
    ∃ q8 : Option Addr, ∃ k9 : Nat, ∃ k10 : Nat, (e6 = .returned (.slice (q8) k9 k10)) ∧
    ((w2).heap.size ≤ (w7).heap.size) ∧
    R (.returned (.slice (q8) k9 k10)) w7) :
    Calls Try.prog 33 #[.pointer (some a), .agg #[.int .u8 b_0, .int .u16 b_1]] w R :=
  X.calls_of { isLoc := [], sym := [], loops := [], joins := [] } Try.func33 (by kernel_rfl) h
abbrev fn_Under_nil : Nat := 33
theorem x_Under_nil (b_0 b_1 : Int) (w : World) (R : Ending → World → Prop) (h :
  X.CallX Try.prog 32 #[(.pointer none)] (w.alloc (.cells #[(.int .u8 b_0), (.int .u16 b_1)] 31)) fun e1 w2 =>
   ∃ q3 : Option Addr, ∃ k4 : Nat, ∃ k5 : Nat, (e1 = .returned (.slice (q3) k4 k5)) ∧
   (((w.alloc (.cells #[(.int .u8 b_0), (.int .u16 b_1)] 31))).heap.size ≤ (w2).heap.size) ∧
   X.CallX Try.prog 52 #[(.slice (q3) k4 k5), (.func (.func 53) #[] #[(.pointer (some ⟨(w).heap.size, 0, none⟩))])] w2 fun e6 w7 =>
    ∃ q8 : Option Addr, ∃ k9 : Nat, ∃ k10 : Nat, (e6 = .returned (.slice (q8) k9 k10)) ∧
    ((w2).heap.size ≤ (w7).heap.size) ∧
    R (.returned (.slice (q8) k9 k10)) w7) :
    Calls Try.prog 33 #[.pointer none, .agg #[.int .u8 b_0, .int .u16 b_1]] w R :=
  X.calls_of { isLoc := [], sym := [], loops := [], joins := [] } Try.func33 (by kernel_rfl) h
abbrev fn_gemotref02_Set_Add : Nat := 35
theorem x_gemotref02_Set_Add (a : Addr) (b_0 b_1 b_2 b_3 b_4 b_5 b_6 b_7 b_8 b_9 : Int) (w : World) (R : Ending → World → Prop) (h :
  ∀ w1 : World, ∀ L2 : List Nat, (X.Hid [] w w1) →
  (X.NewL (w).heap.size [] w w1 L2) →
  X.CallX Try.prog 18 #[(.agg #[(.int .u8 b_0), (.int .u16 b_1), (.int .u32 b_2), (.int .u8 b_3), (.int .u8 b_4), (.int .u8 b_5), (.int .u8 b_6), (.int .u8 b_7), (.int .u8 b_8), (.int .u8 b_9)])] w1 fun e3 w4 =>
   ∃ b5 : Bool, (e3 = .returned (.bool b5)) ∧
   (X.Kept L2 w1 w4) ∧
   if (!b5) = true then
    R (.returned (.int .i64 1)) w4
   else
    X.CallX Try.prog 37 #[(.pointer (some a)), (.agg #[(.int .u8 b_0), (.int .u16 b_1), (.int .u32 b_2), (.int .u8 b_3), (.int .u8 b_4), (.int .u8 b_5), (.int .u8 b_6), (.int .u8 b_7), (.int .u8 b_8), (.int .u8 b_9)])] w4 fun e6 w7 =>
     ∃ n8 : Int, ∃ b9 : Bool, (e6 = .returned (.tuple #[(.int .i64 n8), (.bool b9)])) ∧
     (X.Kept L2 w4 w7) ∧
     if b9 = true then
      R (.returned (.int .i64 4)) w7
     else
      ∃ q10 : Option Addr, ∃ k11 : Nat, ∃ k12 : Nat, (World.cell? w7 (a.add 0) = some (.slice (q10) k11 k12)) ∧
      (¬ (((a.add 0).block) ∈ L2)) ∧
      ∃ n13 : Int, (World.cell? w7 (a.add 1) = some (.int .i64 n13)) ∧
      (¬ ((a.block) ∈ L2)) ∧
      if (decide (((k11 : Nat) : Int) ≥ (if n13 > 0 then n13 else 0))) = true then
       ∀ w61 : World, (X.Hid (L2) w7 w61) →
       R (.returned (.int .i64 11)) w61
      else
       ∃ x14 : X.Facts, (X.FactsW x14 w7 (L2)) ∧
       ∃ q15 : Option Addr, ∃ k16 : Nat, ∃ k17 : Nat, (((a.add 0), [(.slice (q15) k16 k17)]) ∈ x14) ∧
       ((0 : Int) ≤ n8) ∧
       (n8 ≤ ((k17 : Nat) : Int)) ∧
       ∃ q18 : Option Addr, ∃ k19 : Nat, ∃ k20 : Nat, (((a.add 0), [(.slice (q18) k19 k20)]) ∈ x14) ∧
       ((0 : Int) ≤ n8) ∧
       (n8 ≤ ((k19 : Nat) : Int)) ∧
       (∀ w21 : World, ∀ L22 : List Nat, (X.Hid (L2) w7 w21) →
        (X.NewL (w).heap.size (L2) w7 w21 L22) →
        (X.FactsW x14 (w21.alloc (.cells #[] 30)) (L22)) ∧
        (∃ q23 : Option Addr, ∃ k24 : Nat, ∃ k25 : Nat, ∃ w26 : World, (Sem.run Try.prog (Go.Builtin.append_ #[73, 73] 73 #[(.slice (some ⟨(w21).heap.size, 0, none⟩) 0 0), (.slice (X.cutA (q15) k17 0 10) (n8).toNat k17)]) (w21.alloc (.cells #[] 30)) = .ok (.slice (q23) k24 k25) w26) ∧
         (X.Kept L22 (w21.alloc (.cells #[] 30)) w26) ∧
         (X.FactsW x14 w26 (L22)) ∧
         (X.FactsW x14 (w26.alloc (.cells #[(.int .u8 b_0), (.int .u16 b_1), (.int .u32 b_2), (.int .u8 b_3), (.int .u8 b_4), (.int .u8 b_5), (.int .u8 b_6), (.int .u8 b_7), (.int .u8 b_8), (.int .u8 b_9)] 30)) (L22)) ∧
         ∃ q27 : Option Addr, ∃ k28 : Nat, ∃ k29 : Nat, ∃ w30 : World, (Sem.run Try.prog (Go.Builtin.append_ #[73, 73] 73 #[(.slice (q23) k24 k25), (.slice (some ⟨(w26).heap.size, 0, none⟩) 1 1)]) (w26.alloc (.cells #[(.int .u8 b_0), (.int .u16 b_1), (.int .u32 b_2), (.int .u8 b_3), (.int .u8 b_4), (.int .u8 b_5), (.int .u8 b_6), (.int .u8 b_7), (.int .u8 b_8), (.int .u8 b_9)] 30)) = .ok (.slice (q27) k28 k29) w30) ∧
         (X.Kept L22 (w26.alloc (.cells #[(.int .u8 b_0), (.int .u16 b_1), (.int .u32 b_2), (.int .u8 b_3), (.int .u8 b_4), (.int .u8 b_5), (.int .u8 b_6), (.int .u8 b_7), (.int .u8 b_8), (.int .u8 b_9)] 30)) w30) ∧
         (X.FactsW x14 w30 (L22)) ∧
         ∃ q31 : Option Addr, ∃ k32 : Nat, ∃ k33 : Nat, ∃ w34 : World, (Sem.run Try.prog (Go.Builtin.append_ #[73, 73] 73 #[(.slice (q27) k28 k29), (.slice (X.cutA (q18) k20 (n8).toNat 10) (k19 - (n8).toNat) (k20 - (n8).toNat))]) w30 = .ok (.slice (q31) k32 k33) w34) ∧
         (X.Kept L22 w30 w34) ∧
         (X.FactsW x14 w34 (L22)) ∧
         (((a.add 0).spot) = none) ∧
         (World.there w34 ((a.add 0).block) ((a.add 0).off) 1) ∧
         (¬ (((a.add 0).block) ∈ L22)) ∧
         R (.returned (.int .i64 0)) (w34.setCells ((a.add 0).block) ((a.add 0).off) [(.slice (q31) k32 k33)])) ∧
        (X.FactsW x14 ((w21.alloc (.cells #[] 30)).alloc (.cells #[(.int .u8 b_0), (.int .u16 b_1), (.int .u32 b_2), (.int .u8 b_3), (.int .u8 b_4), (.int .u8 b_5), (.int .u8 b_6), (.int .u8 b_7), (.int .u8 b_8), (.int .u8 b_9)] 30)) (L22)) ∧
        ∃ q35 : Option Addr, ∃ k36 : Nat, ∃ k37 : Nat, ∃ w38 : World, (Sem.run Try.prog (Go.Builtin.append_ #[73, 73] 73 #[(.slice (some ⟨(w21).heap.size, 0, none⟩) 0 0), (.slice (X.cutA (q15) k17 0 10) (n8).toNat k17)]) ((w21.alloc (.cells #[] 30)).alloc (.cells #[(.int .u8 b_0), (.int .u16 b_1), (.int .u32 b_2), (.int .u8 b_3), (.int .u8 b_4), (.int .u8 b_5), (.int .u8 b_6), (.int .u8 b_7), (.int .u8 b_8), (.int .u8 b_9)] 30)) = .ok (.slice (q35) k36 k37) w38) ∧
        (X.Kept L22 ((w21.alloc (.cells #[] 30)).alloc (.cells #[(.int .u8 b_0), (.int .u16 b_1), (.int .u32 b_2), (.int .u8 b_3), (.int .u8 b_4), (.int .u8 b_5), (.int .u8 b_6), (.int .u8 b_7), (.int .u8 b_8), (.int .u8 b_9)] 30)) w38) ∧
        (X.FactsW x14 w38 (L22)) ∧
        ∃ q39 : Option Addr, ∃ k40 : Nat, ∃ k41 : Nat, ∃ w42 : World, (Sem.run Try.prog (Go.Builtin.append_ #[73, 73] 73 #[(.slice (q35) k36 k37), (.slice (some ⟨((w21.alloc (.cells #[] 30))).heap.size, 0, none⟩) 1 1)]) w38 = .ok (.slice (q39) k40 k41) w42) ∧
        (X.Kept L22 w38 w42) ∧
        (X.FactsW x14 w42 (L22)) ∧
        ∃ q43 : Option Addr, ∃ k44 : Nat, ∃ k45 : Nat, ∃ w46 : World, (Sem.run Try.prog (Go.Builtin.append_ #[73, 73] 73 #[(.slice (q39) k40 k41), (.slice (X.cutA (q18) k20 (n8).toNat 10) (k19 - (n8).toNat) (k20 - (n8).toNat))]) w42 = .ok (.slice (q43) k44 k45) w46) ∧
        (X.Kept L22 w42 w46) ∧
        (X.FactsW x14 w46 (L22)) ∧
        (((a.add 0).spot) = none) ∧
        (World.there w46 ((a.add 0).block) ((a.add 0).off) 1) ∧
        (¬ (((a.add 0).block) ∈ L22)) ∧
        R (.returned (.int .i64 0)) (w46.setCells ((a.add 0).block) ((a.add 0).off) [(.slice (q43) k44 k45)])) ∧
       ∀ w47 : World, ∀ L48 : List Nat, (X.Hid (L2) w7 w47) →
       (X.NewL (w).heap.size (L2) w7 w47 L48) →
       (X.FactsW x14 (w47.alloc (.cells #[(.int .u8 b_0), (.int .u16 b_1), (.int .u32 b_2), (.int .u8 b_3), (.int .u8 b_4), (.int .u8 b_5), (.int .u8 b_6), (.int .u8 b_7), (.int .u8 b_8), (.int .u8 b_9)] 30)) (L48)) ∧
       (X.FactsW x14 ((w47.alloc (.cells #[(.int .u8 b_0), (.int .u16 b_1), (.int .u32 b_2), (.int .u8 b_3), (.int .u8 b_4), (.int .u8 b_5), (.int .u8 b_6), (.int .u8 b_7), (.int .u8 b_8), (.int .u8 b_9)] 30)).alloc (.cells #[] 30)) (L48)) ∧
       ∃ q49 : Option Addr, ∃ k50 : Nat, ∃ k51 : Nat, ∃ w52 : World, (Sem.run Try.prog (Go.Builtin.append_ #[73, 73] 73 #[(.slice (some ⟨((w47.alloc (.cells #[(.int .u8 b_0), (.int .u16 b_1), (.int .u32 b_2), (.int .u8 b_3), (.int .u8 b_4), (.int .u8 b_5), (.int .u8 b_6), (.int .u8 b_7), (.int .u8 b_8), (.int .u8 b_9)] 30))).heap.size, 0, none⟩) 0 0), (.slice (X.cutA (q15) k17 0 10) (n8).toNat k17)]) ((w47.alloc (.cells #[(.int .u8 b_0), (.int .u16 b_1), (.int .u32 b_2), (.int .u8 b_3), (.int .u8 b_4), (.int .u8 b_5), (.int .u8 b_6), (.int .u8 b_7), (.int .u8 b_8), (.int .u8 b_9)] 30)).alloc (.cells #[] 30)) = .ok (.slice (q49) k50 k51) w52) ∧
       (X.Kept L48 ((w47.alloc (.cells #[(.int .u8 b_0), (.int .u16 b_1), (.int .u32 b_2), (.int .u8 b_3), (.int .u8 b_4), (.int .u8 b_5), (.int .u8 b_6), (.int .u8 b_7), (.int .u8 b_8), (.int .u8 b_9)] 30)).alloc (.cells #[] 30)) w52) ∧
       (X.FactsW x14 w52 (L48)) ∧
       ∃ q53 : Option Addr, ∃ k54 : Nat, ∃ k55 : Nat, ∃ w56 : World, (Sem.run Try.prog (Go.Builtin.append_ #[73, 73] 73 #[(.slice (q49) k50 k51), (.slice (some ⟨(w47).heap.size, 0, none⟩) 1 1)]) w52 = .ok (.slice (q53) k54 k55) w56) ∧
       (X.Kept L48 w52 w56) ∧
       (X.FactsW x14 w56 (L48)) ∧
       ∃ q57 : Option Addr, ∃ k58 : Nat, ∃ k59 : Nat, ∃ w60 : World, (Sem.run Try.prog (Go.Builtin.append_ #[73, 73] 73 #[(.slice (q53) k54 k55), (.slice (X.cutA (q18) k20 (n8).toNat 10) (k19 - (n8).toNat) (k20 - (n8).toNat))]) w56 = .ok (.slice (q57) k58 k59) w60) ∧
       (X.Kept L48 w56 w60) ∧
       (X.FactsW x14 w60 (L48)) ∧
       (((a.add 0).spot) = none) ∧
       (World.there w60 ((a.add 0).block) ((a.add 0).off) 1) ∧
       (¬ (((a.add 0).block) ∈ L48)) ∧
       R (.returned (.int .i64 0)) (w60.setCells ((a.add 0).block) ((a.add 0).off) [(.slice (q57) k58 k59)])) :
    Calls Try.prog 35 #[.pointer (some a), .agg #[.int .u8 b_0, .int .u16 b_1, .int .u32 b_2, .int .u8 b_3, .int .u8 b_4, .int .u8 b_5, .int .u8 b_6, .int .u8 b_7, .int .u8 b_8, .int .u8 b_9]] w R :=
  X.calls_of { isLoc := [3], sym := [], loops := [], joins := [] } Try.func35 (by kernel_rfl) h
abbrev fn_gemotref02_Set_Remove : Nat := 36
theorem x_gemotref02_Set_Remove (a : Addr) (b_0 b_1 b_2 b_3 b_4 b_5 b_6 b_7 b_8 b_9 : Int) (w : World) (R : Ending → World → Prop) (h :
  ∀ w1 : World, ∀ L2 : List Nat, (X.Hid [] w w1) →
  (X.NewL (w).heap.size [] w w1 L2) →
  X.CallX Try.prog 37 #[(.pointer (some a)), (.agg #[(.int .u8 b_0), (.int .u16 b_1), (.int .u32 b_2), (.int .u8 b_3), (.int .u8 b_4), (.int .u8 b_5), (.int .u8 b_6), (.int .u8 b_7), (.int .u8 b_8), (.int .u8 b_9)])] w1 fun e3 w4 =>
   ∃ n5 : Int, ∃ b6 : Bool, (e3 = .returned (.tuple #[(.int .i64 n5), (.bool b6)])) ∧
   (X.Kept L2 w1 w4) ∧
   if b6 = true then
    ∃ x7 : X.Facts, (X.FactsW x7 w4 (L2)) ∧
    ∃ q8 : Option Addr, ∃ k9 : Nat, ∃ k10 : Nat, (((a.add 0), [(.slice (q8) k9 k10)]) ∈ x7) ∧
    ((0 : Int) ≤ n5) ∧
    (n5 ≤ ((k10 : Nat) : Int)) ∧
    ∃ q11 : Option Addr, ∃ k12 : Nat, ∃ k13 : Nat, (((a.add 0), [(.slice (q11) k12 k13)]) ∈ x7) ∧
    ((0 : Int) ≤ (IntKind.wrap .i64 (n5 + 1))) ∧
    ((IntKind.wrap .i64 (n5 + 1)) ≤ ((k12 : Nat) : Int)) ∧
    ∀ w14 : World, ∀ L15 : List Nat, (X.Hid (L2) w4 w14) →
    (X.NewL (w).heap.size (L2) w4 w14 L15) →
    (X.FactsW x7 (w14.alloc (.cells #[] 30)) (L15)) ∧
    ∃ q16 : Option Addr, ∃ k17 : Nat, ∃ k18 : Nat, ∃ w19 : World, (Sem.run Try.prog (Go.Builtin.append_ #[73, 73] 73 #[(.slice (some ⟨(w14).heap.size, 0, none⟩) 0 0), (.slice (X.cutA (q8) k10 0 10) (n5).toNat k10)]) (w14.alloc (.cells #[] 30)) = .ok (.slice (q16) k17 k18) w19) ∧
    (X.Kept L15 (w14.alloc (.cells #[] 30)) w19) ∧
    (X.FactsW x7 w19 (L15)) ∧
    ∃ q20 : Option Addr, ∃ k21 : Nat, ∃ k22 : Nat, ∃ w23 : World, (Sem.run Try.prog (Go.Builtin.append_ #[73, 73] 73 #[(.slice (q16) k17 k18), (.slice (X.cutA (q11) k13 ((IntKind.wrap .i64 (n5 + 1))).toNat 10) (k12 - ((IntKind.wrap .i64 (n5 + 1))).toNat) (k13 - ((IntKind.wrap .i64 (n5 + 1))).toNat))]) w19 = .ok (.slice (q20) k21 k22) w23) ∧
    (X.Kept L15 w19 w23) ∧
    (X.FactsW x7 w23 (L15)) ∧
    (((a.add 0).spot) = none) ∧
    (World.there w23 ((a.add 0).block) ((a.add 0).off) 1) ∧
    (¬ (((a.add 0).block) ∈ L15)) ∧
    R (.returned (.bool b6)) (w23.setCells ((a.add 0).block) ((a.add 0).off) [(.slice (q20) k21 k22)])
   else
    R (.returned (.bool b6)) w4) :
    Calls Try.prog 36 #[.pointer (some a), .agg #[.int .u8 b_0, .int .u16 b_1, .int .u32 b_2, .int .u8 b_3, .int .u8 b_4, .int .u8 b_5, .int .u8 b_6, .int .u8 b_7, .int .u8 b_8, .int .u8 b_9]] w R :=
  X.calls_of { isLoc := [3], sym := [], loops := [], joins := [] } Try.func36 (by kernel_rfl) h
abbrev fn_gemotref02_Set_Find : Nat := 37
theorem x_gemotref02_Set_Find (a : Addr) (b_0 b_1 b_2 b_3 b_4 b_5 b_6 b_7 b_8 b_9 : Int) (w : World) (R : Ending → World → Prop) (h :
  ∀ w1 : World, ∀ L2 : List Nat, (X.Hid [] w w1) →
  (X.NewL (w).heap.size [] w w1 L2) →
  ∃ x3 : Int → World → List Nat → Prop, ∃ x4 : Int → World → Nat, (x3 0 w1 (L2)) ∧
  ∀ n5 : Int, ∀ w6 : World, ∀ L7 : List Nat, (X.LF (w).heap.size w6 L7) →
  (x3 n5 w6 L7) →
  ∃ x8 : X.Facts, (X.FactsW x8 w6 (L7)) ∧
  ∃ q9 : Option Addr, ∃ k10 : Nat, ∃ k11 : Nat, (((a.add 0), [(.slice (q9) k10 k11)]) ∈ x8) ∧
  if ((decide (n5 < ((k10 : Nat) : Int))) == true) = true then
   ∃ q31 : Option Addr, ∃ k32 : Nat, ∃ k33 : Nat, (((a.add 0), [(.slice (q31) k32 k33)]) ∈ x8) ∧
   ((0 : Int) ≤ n5) ∧
   (n5 < ((k32 : Nat) : Int)) ∧
   X.onSome (q31) fun p34 =>
   ∃ n35 : Int, ∃ n36 : Int, ∃ n37 : Int, ∃ n38 : Int, ∃ n39 : Int, ∃ n40 : Int, ∃ n41 : Int, ∃ n42 : Int, ∃ n43 : Int, ∃ n44 : Int, (((p34.add ((n5).toNat * 10)), [(.int .u8 n35), (.int .u16 n36), (.int .u32 n37), (.int .u8 n38), (.int .u8 n39), (.int .u8 n40), (.int .u8 n41), (.int .u8 n42), (.int .u8 n43), (.int .u8 n44)]) ∈ x8) ∧
   ∀ w45 : World, ∀ L46 : List Nat, (X.Hid (L7) w6 w45) →
   (X.NewL (w).heap.size (L7) w6 w45 L46) →
   X.CallX Try.prog 24 #[(.agg #[(.int .u8 n35), (.int .u16 n36), (.int .u32 n37), (.int .u8 n38), (.int .u8 n39), (.int .u8 n40), (.int .u8 n41), (.int .u8 n42), (.int .u8 n43), (.int .u8 n44)]), (.agg #[(.int .u8 b_0), (.int .u16 b_1), (.int .u32 b_2), (.int .u8 b_3), (.int .u8 b_4), (.int .u8 b_5), (.int .u8 b_6), (.int .u8 b_7), (.int .u8 b_8), (.int .u8 b_9)])] w45 fun e47 w48 =>
    ∃ n49 : Int, (e47 = .returned (.int .i64 n49)) ∧
    (X.Kept L46 w45 w48) ∧
    (X.FactsW x8 w48 (L46)) ∧
    if (true && decide (n49 < 0)) = true then
     (([(.int .u8 b_0), (.int .u16 b_1), (.int .u32 b_2), (.int .u8 b_3), (.int .u8 b_4), (.int .u8 b_5), (.int .u8 b_6), (.int .u8 b_7), (.int .u8 b_8), (.int .u8 b_9)] : List Value) = [(.int .u8 b_0), (.int .u16 b_1), (.int .u32 b_2), (.int .u8 b_3), (.int .u8 b_4), (.int .u8 b_5), (.int .u8 b_6), (.int .u8 b_7), (.int .u8 b_8), (.int .u8 b_9)]) ∧
     (x3 (IntKind.wrap .i64 (n5 + 1)) w48 (L46)) ∧
     Nat.le ((x4 (IntKind.wrap .i64 (n5 + 1)) w48) + 1) (x4 n5 w6)
    else
     ∃ q50 : Option Addr, ∃ k51 : Nat, ∃ k52 : Nat, (World.cell? w48 (a.add 0) = some (.slice (q50) k51 k52)) ∧
     (¬ (((a.add 0).block) ∈ L46)) ∧
     if ((decide (n5 < ((k51 : Nat) : Int))) == true) = true then
      ∃ q54 : Option Addr, ∃ k55 : Nat, ∃ k56 : Nat, (World.cell? w48 (a.add 0) = some (.slice (q54) k55 k56)) ∧
      (¬ (((a.add 0).block) ∈ L46)) ∧
      ((0 : Int) ≤ n5) ∧
      (n5 < ((k55 : Nat) : Int)) ∧
      X.onSome (q54) fun p57 =>
      ∃ n58 : Int, ∃ n59 : Int, ∃ n60 : Int, ∃ n61 : Int, ∃ n62 : Int, ∃ n63 : Int, ∃ n64 : Int, ∃ n65 : Int, ∃ n66 : Int, ∃ n67 : Int, (X.Cells w48 (p57.add ((n5).toNat * 10)) [(.int .u8 n58), (.int .u16 n59), (.int .u32 n60), (.int .u8 n61), (.int .u8 n62), (.int .u8 n63), (.int .u8 n64), (.int .u8 n65), (.int .u8 n66), (.int .u8 n67)]) ∧
      (¬ (((p57.add (n5.toNat * 10)).block) ∈ L46)) ∧
      ∀ w68 : World, (X.Hid (L46) w48 w68) →
      R (.returned (.tuple #[(.int .i64 n5), (.bool (true && (((n58 == b_0) && (n59 == b_1)) && ((n60 == b_2) && ((n61 == b_3) && (((n62 == b_4) && (n63 == b_5)) && (((n64 == b_6) && (n65 == b_7)) && ((n66 == b_8) && (n67 == b_9)))))))))])) w68
     else
      ∀ w53 : World, (X.Hid (L46) w48 w53) →
      R (.returned (.tuple #[(.int .i64 n5), (.bool false)])) w53
  else
   ∃ q12 : Option Addr, ∃ k13 : Nat, ∃ k14 : Nat, (World.cell? w6 (a.add 0) = some (.slice (q12) k13 k14)) ∧
   (¬ (((a.add 0).block) ∈ L7)) ∧
   if ((decide (n5 < ((k13 : Nat) : Int))) == true) = true then
    ∃ q16 : Option Addr, ∃ k17 : Nat, ∃ k18 : Nat, (World.cell? w6 (a.add 0) = some (.slice (q16) k17 k18)) ∧
    (¬ (((a.add 0).block) ∈ L7)) ∧
    ((0 : Int) ≤ n5) ∧
    (n5 < ((k17 : Nat) : Int)) ∧
    X.onSome (q16) fun p19 =>
    ∃ n20 : Int, ∃ n21 : Int, ∃ n22 : Int, ∃ n23 : Int, ∃ n24 : Int, ∃ n25 : Int, ∃ n26 : Int, ∃ n27 : Int, ∃ n28 : Int, ∃ n29 : Int, (X.Cells w6 (p19.add ((n5).toNat * 10)) [(.int .u8 n20), (.int .u16 n21), (.int .u32 n22), (.int .u8 n23), (.int .u8 n24), (.int .u8 n25), (.int .u8 n26), (.int .u8 n27), (.int .u8 n28), (.int .u8 n29)]) ∧
    (¬ (((p19.add (n5.toNat * 10)).block) ∈ L7)) ∧
    ∀ w30 : World, (X.Hid (L7) w6 w30) →
    R (.returned (.tuple #[(.int .i64 n5), (.bool (true && (((n20 == b_0) && (n21 == b_1)) && ((n22 == b_2) && ((n23 == b_3) && (((n24 == b_4) && (n25 == b_5)) && (((n26 == b_6) && (n27 == b_7)) && ((n28 == b_8) && (n29 == b_9)))))))))])) w30
   else
    ∀ w15 : World, (X.Hid (L7) w6 w15) →
    R (.returned (.tuple #[(.int .i64 n5), (.bool false)])) w15) :
    Calls Try.prog 37 #[.pointer (some a), .agg #[.int .u8 b_0, .int .u16 b_1, .int .u32 b_2, .int .u8 b_3, .int .u8 b_4, .int .u8 b_5, .int .u8 b_6, .int .u8 b_7, .int .u8 b_8, .int .u8 b_9]] w R :=
  X.calls_of { isLoc := [3], sym := [], loops := [(2, .inv [(6, .int .i64)] [] true)], joins := [] } Try.func37 (by kernel_rfl) h
abbrev fn_gemotref02_Set_Under : Nat := 40
theorem x_gemotref02_Set_Under (a : Addr) (b_0 b_1 : Int) (w : World) (R : Ending → World → Prop) (h :
  ∀ w1 : World, ∀ L2 : List Nat, (X.Hid [] w w1) →
  (X.NewL (w).heap.size [] w w1 L2) →
  ∃ x3 : Option Addr → Nat → Nat → Int → World → List Nat → Prop, ∃ x4 : Option Addr → Nat → Nat → Int → World → Nat, (x3 (none) 0 0 0 w1 (L2)) ∧
  ∀ q5 : Option Addr, ∀ k6 : Nat, ∀ k7 : Nat, ∀ n8 : Int, ∀ w9 : World, ∀ L10 : List Nat, (X.LF (w).heap.size w9 L10) →
  (x3 q5 k6 k7 n8 w9 L10) →
  ∃ q11 : Option Addr, ∃ k12 : Nat, ∃ k13 : Nat, (World.cell? w9 (a.add 0) = some (.slice (q11) k12 k13)) ∧
  (¬ (((a.add 0).block) ∈ L10)) ∧
  if (decide (n8 < ((k12 : Nat) : Int))) = true then
   ∃ q14 : Option Addr, ∃ k15 : Nat, ∃ k16 : Nat, (World.cell? w9 (a.add 0) = some (.slice (q14) k15 k16)) ∧
   (¬ (((a.add 0).block) ∈ L10)) ∧
   ((0 : Int) ≤ n8) ∧
   (n8 < ((k15 : Nat) : Int)) ∧
   X.onSome (q14) fun p17 =>
   ∃ n18 : Int, ∃ n19 : Int, (X.Cells w9 ((p17.add ((n8).toNat * 10)).add 0) [(.int .u8 n18), (.int .u16 n19)]) ∧
   (¬ ((((p17.add (n8.toNat * 10)).add 0).block) ∈ L10)) ∧
   if ((n18 == b_0) && (n19 == b_1)) = true then
    ∃ q22 : Option Addr, ∃ k23 : Nat, ∃ k24 : Nat, (World.cell? w9 (a.add 0) = some (.slice (q22) k23 k24)) ∧
    (¬ (((a.add 0).block) ∈ L10)) ∧
    ((0 : Int) ≤ n8) ∧
    (n8 < ((k23 : Nat) : Int)) ∧
    X.onSome (q22) fun p25 =>
    ∃ n26 : Int, ∃ n27 : Int, ∃ n28 : Int, ∃ n29 : Int, ∃ n30 : Int, ∃ n31 : Int, ∃ n32 : Int, ∃ n33 : Int, ∃ n34 : Int, ∃ n35 : Int, (X.Cells w9 (p25.add ((n8).toNat * 10)) [(.int .u8 n26), (.int .u16 n27), (.int .u32 n28), (.int .u8 n29), (.int .u8 n30), (.int .u8 n31), (.int .u8 n32), (.int .u8 n33), (.int .u8 n34), (.int .u8 n35)]) ∧
    (¬ (((p25.add (n8.toNat * 10)).block) ∈ L10)) ∧
    ∀ w36 : World, ∀ L37 : List Nat, (X.Hid (L10) w9 w36) →
    (X.NewL (w).heap.size (L10) w9 w36 L37) →
    ∃ q38 : Option Addr, ∃ k39 : Nat, ∃ k40 : Nat, ∃ w41 : World, (Sem.run Try.prog (Go.Builtin.append_ #[73, 73] 73 #[(.slice (q5) k6 k7), (.slice (some ⟨(w36).heap.size, 0, none⟩) 1 1)]) (w36.alloc (.cells #[(.int .u8 n26), (.int .u16 n27), (.int .u32 n28), (.int .u8 n29), (.int .u8 n30), (.int .u8 n31), (.int .u8 n32), (.int .u8 n33), (.int .u8 n34), (.int .u8 n35)] 30)) = .ok (.slice (q38) k39 k40) w41) ∧
    (X.Kept L37 (w36.alloc (.cells #[(.int .u8 n26), (.int .u16 n27), (.int .u32 n28), (.int .u8 n29), (.int .u8 n30), (.int .u8 n31), (.int .u8 n32), (.int .u8 n33), (.int .u8 n34), (.int .u8 n35)] 30)) w41) ∧
    (([(.int .u8 b_0), (.int .u16 b_1)] : List Value) = [(.int .u8 b_0), (.int .u16 b_1)]) ∧
    (x3 q38 k39 k40 (IntKind.wrap .i64 (n8 + 1)) w41 (L37)) ∧
    Nat.le ((x4 q38 k39 k40 (IntKind.wrap .i64 (n8 + 1)) w41) + 1) (x4 q5 k6 k7 n8 w9)
   else
    ∀ w20 : World, ∀ L21 : List Nat, (X.Hid (L10) w9 w20) →
    (X.NewL (w).heap.size (L10) w9 w20 L21) →
    (([(.int .u8 b_0), (.int .u16 b_1)] : List Value) = [(.int .u8 b_0), (.int .u16 b_1)]) ∧
    (x3 q5 k6 k7 (IntKind.wrap .i64 (n8 + 1)) w20 (L21)) ∧
    Nat.le ((x4 q5 k6 k7 (IntKind.wrap .i64 (n8 + 1)) w20) + 1) (x4 q5 k6 k7 n8 w9)
  else
   R (.returned (.slice (q5) k6 k7)) w9) :
    Calls Try.prog 40 #[.pointer (some a), .agg #[.int .u8 b_0, .int .u16 b_1]] w R :=
  X.calls_of { isLoc := [3], sym := [], loops := [(3, .inv [(5, .slice), (6, .int .i64)] [] true)], joins := [] } Try.func40 (by kernel_rfl) h
abbrev fn_gemotlaw02_Same : Nat := 38
theorem x_gemotlaw02_Same (a : Option Addr) (al ac : Nat) (b : Option Addr) (bl bc : Nat) (w : World) (R : Ending → World → Prop) (h :
  if (((al : Nat) : Int) != ((bl : Nat) : Int)) = true then
   R (.returned (.bool false)) w
  else
   ∃ x1 : Int → World → List Nat → Prop, ∃ x2 : Int → World → Nat, (x1 0 w []) ∧
   ∀ n3 : Int, ∀ w4 : World, ∀ L5 : List Nat, (X.LF (w).heap.size w4 L5) →
   (x1 n3 w4 L5) →
   if (decide (n3 < ((al : Nat) : Int))) = true then
    ((0 : Int) ≤ n3) ∧
    (n3 < ((al : Nat) : Int)) ∧
    X.onSome (a) fun p6 =>
    ∃ n7 : Int, ∃ n8 : Int, ∃ n9 : Int, ∃ n10 : Int, ∃ n11 : Int, ∃ n12 : Int, ∃ n13 : Int, ∃ n14 : Int, ∃ n15 : Int, ∃ n16 : Int, (X.Cells w4 (p6.add ((n3).toNat * 10)) [(.int .u8 n7), (.int .u16 n8), (.int .u32 n9), (.int .u8 n10), (.int .u8 n11), (.int .u8 n12), (.int .u8 n13), (.int .u8 n14), (.int .u8 n15), (.int .u8 n16)]) ∧
    ((0 : Int) ≤ n3) ∧
    (n3 < ((bl : Nat) : Int)) ∧
    X.onSome (b) fun p17 =>
    ∃ n18 : Int, ∃ n19 : Int, ∃ n20 : Int, ∃ n21 : Int, ∃ n22 : Int, ∃ n23 : Int, ∃ n24 : Int, ∃ n25 : Int, ∃ n26 : Int, ∃ n27 : Int, (X.Cells w4 (p17.add ((n3).toNat * 10)) [(.int .u8 n18), (.int .u16 n19), (.int .u32 n20), (.int .u8 n21), (.int .u8 n22), (.int .u8 n23), (.int .u8 n24), (.int .u8 n25), (.int .u8 n26), (.int .u8 n27)]) ∧
    if (!(((n7 == n18) && (n8 == n19)) && ((n9 == n20) && ((n10 == n21) && (((n11 == n22) && (n12 == n23)) && (((n13 == n24) && (n14 == n25)) && ((n15 == n26) && (n16 == n27)))))))) = true then
     ∀ w29 : World, (X.Hid [] w4 w29) →
     R (.returned (.bool false)) w29
    else
     ∀ w28 : World, (X.Hid [] w4 w28) →
     (x1 (IntKind.wrap .i64 (n3 + 1)) w28 []) ∧
     Nat.le ((x2 (IntKind.wrap .i64 (n3 + 1)) w28) + 1) (x2 n3 w4)
   else
    R (.returned (.bool true)) w4) :
    Calls Try.prog 38 #[.slice a al ac, .slice b bl bc] w R :=
  X.calls_of { isLoc := [], sym := [], loops := [(4, .inv [(5, .int .i64)] [] true)], joins := [] } Try.func38 (by kernel_rfl) h
abbrev fn_gemotlaw02_RefIDs : Nat := 39
theorem x_gemotlaw02_RefIDs (a : Option Addr) (al ac : Nat) (w : World) (R : Ending → World → Prop) (h :
  ∃ x1 : Option Addr → Nat → Nat → Int → World → List Nat → Prop, ∃ x2 : Option Addr → Nat → Nat → Int → World → Nat, (x1 (none) 0 0 0 w []) ∧
  ∀ q3 : Option Addr, ∀ k4 : Nat, ∀ k5 : Nat, ∀ n6 : Int, ∀ w7 : World, ∀ L8 : List Nat, (X.LF (w).heap.size w7 L8) →
  (x1 q3 k4 k5 n6 w7 L8) →
  if (decide (n6 < ((al : Nat) : Int))) = true then
   ((0 : Int) ≤ n6) ∧
   (n6 < ((al : Nat) : Int)) ∧
   X.onSome (a) fun p9 =>
   ∃ n10 : Int, ∃ n11 : Int, ∃ n12 : Int, ∃ n13 : Int, ∃ n14 : Int, ∃ n15 : Int, ∃ n16 : Int, ∃ n17 : Int, ∃ n18 : Int, ∃ n19 : Int, (X.Cells w7 (p9.add ((n6).toNat * 10)) [(.int .u8 n10), (.int .u16 n11), (.int .u32 n12), (.int .u8 n13), (.int .u8 n14), (.int .u8 n15), (.int .u8 n16), (.int .u8 n17), (.int .u8 n18), (.int .u8 n19)]) ∧
   X.CallX Try.prog 13 #[(.agg #[(.int .u8 n10), (.int .u16 n11), (.int .u32 n12), (.int .u8 n13), (.int .u8 n14), (.int .u8 n15), (.int .u8 n16), (.int .u8 n17), (.int .u8 n18), (.int .u8 n19)])] w7 fun e20 w21 =>
    ∃ n22 : Int, ∃ n23 : Int, ∃ n24 : Int, ∃ n25 : Int, ∃ n26 : Int, ∃ n27 : Int, ∃ n28 : Int, ∃ n29 : Int, ∃ n30 : Int, ∃ n31 : Int, (e20 = .returned (.agg #[(.int .u8 n22), (.int .u16 n23), (.int .u32 n24), (.int .u8 n25), (.int .u8 n26), (.int .u8 n27), (.int .u8 n28), (.int .u8 n29), (.int .u8 n30), (.int .u8 n31)])) ∧
    ((w7).heap.size ≤ (w21).heap.size) ∧
    ∃ q32 : Option Addr, ∃ k33 : Nat, ∃ k34 : Nat, ∃ w35 : World, (Sem.run Try.prog (Go.Builtin.append_ #[73, 73] 73 #[(.slice (q3) k4 k5), (.slice (some ⟨(w21).heap.size, 0, none⟩) 1 1)]) (w21.alloc (.cells #[(.int .u8 n22), (.int .u16 n23), (.int .u32 n24), (.int .u8 n25), (.int .u8 n26), (.int .u8 n27), (.int .u8 n28), (.int .u8 n29), (.int .u8 n30), (.int .u8 n31)] 30)) = .ok (.slice (q32) k33 k34) w35) ∧
    (((w21.alloc (.cells #[(.int .u8 n22), (.int .u16 n23), (.int .u32 n24), (.int .u8 n25), (.int .u8 n26), (.int .u8 n27), (.int .u8 n28), (.int .u8 n29), (.int .u8 n30), (.int .u8 n31)] 30))).heap.size ≤ (w35).heap.size) ∧
    (x1 q32 k33 k34 (IntKind.wrap .i64 (n6 + 1)) w35 []) ∧
    Nat.le ((x2 q32 k33 k34 (IntKind.wrap .i64 (n6 + 1)) w35) + 1) (x2 q3 k4 k5 n6 w7)
  else
   R (.returned (.slice (q3) k4 k5)) w7) :
    Calls Try.prog 39 #[.slice a al ac] w R :=
  X.calls_of { isLoc := [], sym := [], loops := [(3, .inv [(3, .slice), (4, .int .i64)] [] true)], joins := [] } Try.func39 (by kernel_rfl) h
abbrev fn_gemotlaw02_IdentNil : Nat := 6
theorem x_gemotlaw02_IdentNil (a_0 a_1 a_2 a_3 a_4 a_5 a_6 a_7 a_8 a_9 : Int) (w : World) (R : Ending → World → Prop) (h :
  ∀ w1 : World, ∀ L2 : List Nat, (X.Hid [] w w1) →
  (X.NewL (w).heap.size [] w w1 L2) →
  ∃ x3 : Option Addr → Int → World → List Nat → Prop, ∃ x4 : Option Addr → Int → World → Nat, (x3 (none) 0 w1 (L2)) ∧
  ∀ q5 : Option Addr, ∀ n6 : Int, ∀ w7 : World, ∀ L8 : List Nat, (X.LF (w).heap.size w7 L8) →
  (x3 q5 n6 w7 L8) →
  if (decide (n6 < 2)) = true then
   X.CallX Try.prog 9 #[(.agg #[(.int .u8 a_0), (.int .u16 a_1), (.int .u32 a_2), (.int .u8 a_3), (.int .u8 a_4), (.int .u8 a_5), (.int .u8 a_6), (.int .u8 a_7), (.int .u8 a_8), (.int .u8 a_9)])] w7 fun e12 w13 =>
    ∃ n14 : Int, ∃ n15 : Int, ∃ n16 : Int, ∃ n17 : Int, ∃ n18 : Int, ∃ n19 : Int, ∃ n20 : Int, ∃ n21 : Int, ∃ n22 : Int, ∃ n23 : Int, (e12 = .returned (.agg #[(.int .u8 n14), (.int .u16 n15), (.int .u32 n16), (.int .u8 n17), (.int .u8 n18), (.int .u8 n19), (.int .u8 n20), (.int .u8 n21), (.int .u8 n22), (.int .u8 n23)])) ∧
    (X.Kept L8 w7 w13) ∧
    X.CallX Try.prog 28 #[(.pointer (q5)), (.agg #[(.int .u8 n14), (.int .u16 n15), (.int .u32 n16), (.int .u8 n17), (.int .u8 n18), (.int .u8 n19), (.int .u8 n20), (.int .u8 n21), (.int .u8 n22), (.int .u8 n23)])] w13 fun e24 w25 =>
     ∃ n26 : Int, (e24 = .returned (.int .i64 n26)) ∧
     (X.Kept L8 w13 w25) ∧
     X.CallX Try.prog 14 #[(.int .i64 n26)] w25 fun e27 w28 =>
      ∃ n29 : Int, (e27 = .returned (.int .i64 n29)) ∧
      (X.Kept L8 w25 w28) ∧
      if ((n29 != 1) == false) = true then
       X.CallX Try.prog 9 #[(.agg #[(.int .u8 a_0), (.int .u16 a_1), (.int .u32 a_2), (.int .u8 a_3), (.int .u8 a_4), (.int .u8 a_5), (.int .u8 a_6), (.int .u8 a_7), (.int .u8 a_8), (.int .u8 a_9)])] w28 fun e30 w31 =>
        ∃ n32 : Int, ∃ n33 : Int, ∃ n34 : Int, ∃ n35 : Int, ∃ n36 : Int, ∃ n37 : Int, ∃ n38 : Int, ∃ n39 : Int, ∃ n40 : Int, ∃ n41 : Int, (e30 = .returned (.agg #[(.int .u8 n32), (.int .u16 n33), (.int .u32 n34), (.int .u8 n35), (.int .u8 n36), (.int .u8 n37), (.int .u8 n38), (.int .u8 n39), (.int .u8 n40), (.int .u8 n41)])) ∧
        (X.Kept L8 w28 w31) ∧
        X.CallX Try.prog 29 #[(.pointer (q5)), (.agg #[(.int .u8 n32), (.int .u16 n33), (.int .u32 n34), (.int .u8 n35), (.int .u8 n36), (.int .u8 n37), (.int .u8 n38), (.int .u8 n39), (.int .u8 n40), (.int .u8 n41)])] w31 fun e42 w43 =>
         ∃ b44 : Bool, (e42 = .returned (.bool b44)) ∧
         (X.Kept L8 w31 w43) ∧
         if ((false || b44) == false) = true then
          X.CallX Try.prog 9 #[(.agg #[(.int .u8 a_0), (.int .u16 a_1), (.int .u32 a_2), (.int .u8 a_3), (.int .u8 a_4), (.int .u8 a_5), (.int .u8 a_6), (.int .u8 a_7), (.int .u8 a_8), (.int .u8 a_9)])] w43 fun e45 w46 =>
           ∃ n47 : Int, ∃ n48 : Int, ∃ n49 : Int, ∃ n50 : Int, ∃ n51 : Int, ∃ n52 : Int, ∃ n53 : Int, ∃ n54 : Int, ∃ n55 : Int, ∃ n56 : Int, (e45 = .returned (.agg #[(.int .u8 n47), (.int .u16 n48), (.int .u32 n49), (.int .u8 n50), (.int .u8 n51), (.int .u8 n52), (.int .u8 n53), (.int .u8 n54), (.int .u8 n55), (.int .u8 n56)])) ∧
           (X.Kept L8 w43 w46) ∧
           X.CallX Try.prog 30 #[(.pointer (q5)), (.agg #[(.int .u8 n47), (.int .u16 n48), (.int .u32 n49), (.int .u8 n50), (.int .u8 n51), (.int .u8 n52), (.int .u8 n53), (.int .u8 n54), (.int .u8 n55), (.int .u8 n56)])] w46 fun e57 w58 =>
            ∃ b59 : Bool, (e57 = .returned (.bool b59)) ∧
            (X.Kept L8 w46 w58) ∧
            if ((false || b59) == false) = true then
             X.CallX Try.prog 31 #[(.pointer (q5))] w58 fun e60 w61 =>
              ∃ n62 : Int, (e60 = .returned (.int .i64 n62)) ∧
              (X.Kept L8 w58 w61) ∧
              if ((false || (n62 != 0)) == false) = true then
               X.CallX Try.prog 32 #[(.pointer (q5))] w61 fun e63 w64 =>
                ∃ q65 : Option Addr, ∃ k66 : Nat, ∃ k67 : Nat, (e63 = .returned (.slice (q65) k66 k67)) ∧
                (X.Kept L8 w61 w64) ∧
                if ((false || (((k66 : Nat) : Int) != 0)) == false) = true then
                 X.CallX Try.prog 19 #[(.agg #[(.int .u8 a_0), (.int .u16 a_1)])] w64 fun e68 w69 =>
                  ∃ n70 : Int, ∃ n71 : Int, (e68 = .returned (.agg #[(.int .u8 n70), (.int .u16 n71)])) ∧
                  (X.Kept L8 w64 w69) ∧
                  X.CallX Try.prog 33 #[(.pointer (q5)), (.agg #[(.int .u8 n70), (.int .u16 n71)])] w69 fun e72 w73 =>
                   ∃ q74 : Option Addr, ∃ k75 : Nat, ∃ k76 : Nat, (e72 = .returned (.slice (q74) k75 k76)) ∧
                   (X.Kept L8 w69 w73) ∧
                   if (false || (((k75 : Nat) : Int) != 0)) = true then
                    R (.returned (.bool false)) w73
                   else
                    (([(.int .u8 a_0), (.int .u16 a_1), (.int .u32 a_2), (.int .u8 a_3), (.int .u8 a_4), (.int .u8 a_5), (.int .u8 a_6), (.int .u8 a_7), (.int .u8 a_8), (.int .u8 a_9)] : List Value) = [(.int .u8 a_0), (.int .u16 a_1), (.int .u32 a_2), (.int .u8 a_3), (.int .u8 a_4), (.int .u8 a_5), (.int .u8 a_6), (.int .u8 a_7), (.int .u8 a_8), (.int .u8 a_9)]) ∧
                    (x3 (some (Addr.mk w73.heap.size 0 none)) (IntKind.wrap .i64 (n6 + 1)) (w73.alloc (.cells #[(.map none), (.int .i64 0)] 69)) (L8)) ∧
                    Nat.le ((x4 (some (Addr.mk w73.heap.size 0 none)) (IntKind.wrap .i64 (n6 + 1)) (w73.alloc (.cells #[(.map none), (.int .i64 0)] 69))) + 1) (x4 q5 n6 w7)
                else
                 R (.returned (.bool false)) w64
              else
               R (.returned (.bool false)) w61
            else
             R (.returned (.bool false)) w58
         else
          R (.returned (.bool false)) w43
      else
       R (.returned (.bool false)) w28
  else
   X.CallX Try.prog 22 #[] w7 fun e9 w10 =>
    ∃ b11 : Bool, (e9 = .returned (.bool b11)) ∧
    (X.Kept L8 w7 w10) ∧
    R (.returned (.bool b11)) w10) :
    Calls Try.prog 6 #[.agg #[.int .u8 a_0, .int .u16 a_1, .int .u32 a_2, .int .u8 a_3, .int .u8 a_4, .int .u8 a_5, .int .u8 a_6, .int .u8 a_7, .int .u8 a_8, .int .u8 a_9]] w R :=
  X.calls_of { isLoc := [1], sym := [], loops := [(3, .inv [(3, .ptr), (4, .int .i64)] [] true)], joins := [] } Try.func6 (by kernel_rfl) h
abbrev fn_slices_DeleteFunc_ident_ID_ident_ID : Nat := 52
theorem x_slices_DeleteFunc_ident_ID_ident_ID (a : Option Addr) (al ac : Nat) (z : Addr) (w : World) (R : Ending → World → Prop) (h :
  X.CallX Try.prog 59 #[(.slice (a) al ac), (.func (.func (OfNat.ofNat 53)) #[] #[(.pointer (some z))])] w fun e1 w2 =>
   ∃ n3 : Int, (e1 = .returned (.int .i64 n3)) ∧
   ((w).heap.size ≤ (w2).heap.size) ∧
   if (n3 == (-1)) = true then
    R (.returned (.slice (a) al ac)) w2
   else
    ∃ x4 : Int → Int → World → List Nat → Prop, ∃ x5 : Int → Int → World → Nat, (x4 n3 (IntKind.wrap .i64 (n3 + 1)) w2 []) ∧
    ∀ n6 : Int, ∀ n7 : Int, ∀ w8 : World, ∀ L9 : List Nat, (X.LF (w).heap.size w8 L9) →
    (x4 n6 n7 w8 L9) →
    if (decide (n7 < ((al : Nat) : Int))) = true then
     ((0 : Int) ≤ n7) ∧
     (n7 < ((al : Nat) : Int)) ∧
     X.onSome (a) fun p11 =>
     ∃ n12 : Int, ∃ n13 : Int, ∃ n14 : Int, ∃ n15 : Int, ∃ n16 : Int, ∃ n17 : Int, ∃ n18 : Int, ∃ n19 : Int, ∃ n20 : Int, ∃ n21 : Int, (X.Cells w8 (p11.add ((n7).toNat * 10)) [(.int .u8 n12), (.int .u16 n13), (.int .u32 n14), (.int .u8 n15), (.int .u8 n16), (.int .u8 n17), (.int .u8 n18), (.int .u8 n19), (.int .u8 n20), (.int .u8 n21)]) ∧
     ∀ w22 : World, ∀ L23 : List Nat, (X.Hid [] w8 w22) →
     (X.NewL (w).heap.size [] w8 w22 L23) →
     X.CallX Try.prog (OfNat.ofNat 53) #[(.agg #[(.int .u8 n12), (.int .u16 n13), (.int .u32 n14), (.int .u8 n15), (.int .u8 n16), (.int .u8 n17), (.int .u8 n18), (.int .u8 n19), (.int .u8 n20), (.int .u8 n21)]), (.pointer (some z))] w22 fun e24 w25 =>
      ∃ b26 : Bool, (e24 = .returned (.bool b26)) ∧
      (X.Kept L23 w22 w25) ∧
      if (!b26) = true then
       ((0 : Int) ≤ n6) ∧
       (n6 < ((al : Nat) : Int)) ∧
       X.onSome (a) fun p27 =>
       (((p27.add (n6.toNat * 10)).spot) = none) ∧
       (World.there w25 ((p27.add (n6.toNat * 10)).block) ((p27.add (n6.toNat * 10)).off) 10) ∧
       (¬ (((p27.add (n6.toNat * 10)).block) ∈ L23)) ∧
       (x4 (IntKind.wrap .i64 (n6 + 1)) (IntKind.wrap .i64 (n7 + 1)) (w25.setCells ((p27.add (n6.toNat * 10)).block) ((p27.add (n6.toNat * 10)).off) [(.int .u8 n12), (.int .u16 n13), (.int .u32 n14), (.int .u8 n15), (.int .u8 n16), (.int .u8 n17), (.int .u8 n18), (.int .u8 n19), (.int .u8 n20), (.int .u8 n21)]) (L23)) ∧
       Nat.le ((x5 (IntKind.wrap .i64 (n6 + 1)) (IntKind.wrap .i64 (n7 + 1)) (w25.setCells ((p27.add (n6.toNat * 10)).block) ((p27.add (n6.toNat * 10)).off) [(.int .u8 n12), (.int .u16 n13), (.int .u32 n14), (.int .u8 n15), (.int .u8 n16), (.int .u8 n17), (.int .u8 n18), (.int .u8 n19), (.int .u8 n20), (.int .u8 n21)])) + 1) (x5 n6 n7 w8)
      else
       (x4 n6 (IntKind.wrap .i64 (n7 + 1)) w25 (L23)) ∧
       Nat.le ((x5 n6 (IntKind.wrap .i64 (n7 + 1)) w25) + 1) (x5 n6 n7 w8)
    else
     ((0 : Int) ≤ n6) ∧
     (n6 ≤ ((al : Nat) : Int)) ∧
     ∃ w10 : World, (Sem.run Try.prog (Go.Builtin.clear_ #[64] 0 #[(.slice (X.cutA (a) ac (n6).toNat 10) (al - (n6).toNat) (ac - (n6).toNat))]) w8 = .ok (.tuple #[]) w10) ∧
     ((w8).heap.size ≤ (w10).heap.size) ∧
     ((0 : Int) ≤ n6) ∧
     (n6 ≤ ((ac : Nat) : Int)) ∧
     R (.returned (.slice (X.cutA (a) ac 0 10) (n6).toNat ac)) w10) :
    Calls Try.prog 52 #[.slice a al ac, .func (.func 53) #[] #[.pointer (some z)]] w R :=
  X.calls_of { isLoc := [7], sym := [], loops := [(5, .inv [(5, .int .i64), (6, .int .i64)] [] true)], joins := [] } Try.func52 (by kernel_rfl) h
abbrev fn_slices_IndexFunc_ident_ID_ident_ID : Nat := 59
theorem x_slices_IndexFunc_ident_ID_ident_ID (a : Option Addr) (al ac : Nat) (z : Addr) (w : World) (R : Ending → World → Prop) (h :
  ∃ x1 : Int → World → List Nat → Prop, ∃ x2 : Int → World → Nat, (x1 0 w []) ∧
  ∀ n3 : Int, ∀ w4 : World, ∀ L5 : List Nat, (X.LF (w).heap.size w4 L5) →
  (x1 n3 w4 L5) →
  if (decide (n3 < ((al : Nat) : Int))) = true then
   ((0 : Int) ≤ n3) ∧
   (n3 < ((al : Nat) : Int)) ∧
   X.onSome (a) fun p6 =>
   ∃ n7 : Int, ∃ n8 : Int, ∃ n9 : Int, ∃ n10 : Int, ∃ n11 : Int, ∃ n12 : Int, ∃ n13 : Int, ∃ n14 : Int, ∃ n15 : Int, ∃ n16 : Int, (X.Cells w4 (p6.add ((n3).toNat * 10)) [(.int .u8 n7), (.int .u16 n8), (.int .u32 n9), (.int .u8 n10), (.int .u8 n11), (.int .u8 n12), (.int .u8 n13), (.int .u8 n14), (.int .u8 n15), (.int .u8 n16)]) ∧
   X.CallX Try.prog (OfNat.ofNat 53) #[(.agg #[(.int .u8 n7), (.int .u16 n8), (.int .u32 n9), (.int .u8 n10), (.int .u8 n11), (.int .u8 n12), (.int .u8 n13), (.int .u8 n14), (.int .u8 n15), (.int .u8 n16)]), (.pointer (some z))] w4 fun e17 w18 =>
    ∃ b19 : Bool, (e17 = .returned (.bool b19)) ∧
    ((w4).heap.size ≤ (w18).heap.size) ∧
    if b19 = true then
     R (.returned (.int .i64 n3)) w18
    else
     (x1 (IntKind.wrap .i64 (n3 + 1)) w18 []) ∧
     Nat.le ((x2 (IntKind.wrap .i64 (n3 + 1)) w18) + 1) (x2 n3 w4)
  else
   R (.returned (.int .i64 (-1))) w4) :
    Calls Try.prog 59 #[.slice a al ac, .func (.func 53) #[] #[.pointer (some z)]] w R :=
  X.calls_of { isLoc := [], sym := [], loops := [(2, .inv [(8, .int .i64)] [] true)], joins := [] } Try.func59 (by kernel_rfl) h
abbrev fn_ident_Set_Under_1 : Nat := 53
theorem x_ident_Set_Under_1 (a_0 a_1 a_2 a_3 a_4 a_5 a_6 a_7 a_8 a_9 : Int) (z0 : Addr) (w : World) (R : Ending → World → Prop) (h :
  ∃ n1 : Int, ∃ n2 : Int, (X.Cells w z0 [(.int .u8 n1), (.int .u16 n2)]) ∧
  ∀ w3 : World, (X.Hid [] w w3) →
  R (.returned (.bool (!((a_0 == n1) && (a_1 == n2))))) w3) :
    Calls Try.prog 53 #[.agg #[.int .u8 a_0, .int .u16 a_1, .int .u32 a_2, .int .u8 a_3, .int .u8 a_4, .int .u8 a_5, .int .u8 a_6, .int .u8 a_7, .int .u8 a_8, .int .u8 a_9], .pointer (some z0)] w R :=
  X.calls_of { isLoc := [2], sym := [], loops := [], joins := [] } Try.func53 (by kernel_rfl) h
end Go.Proofs
