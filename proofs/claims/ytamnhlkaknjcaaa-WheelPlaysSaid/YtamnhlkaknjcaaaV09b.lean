import Derived.Test.YtamnhlkaknjcaaaXFn
import Derived.Test.YtamnhlkaknjcaaaProg
/- The verification conditions of this seat's functions, as the engine has them: printed by a program of the bench; checked by the kernel. -/
set_option maxRecDepth 100000
set_option linter.unusedVariables false
namespace Go.Proofs
open Go
abbrev fn_wheel_Compare : Nat := 7
theorem x_wheel_Compare (a_0 a_1 a_2 a_3 a_4 a_5 a_6 a_7 a_8 a_9 a_10 a_11 a_12 b_0 b_1 b_2 b_3 b_4 b_5 b_6 b_7 b_8 b_9 b_10 b_11 b_12 : Int) (w : World) (R : Ending → World → Prop) (h :
  ∃ x1 : X.Facts, (X.FactsW x1 w []) ∧
  ∀ w2 : World, ∀ L3 : List Nat, (X.Hid [] w w2) →
  (X.NewL (w).heap.size [] w w2 L3) →
  X.CallX Try.prog 28 #[(.int .u8 a_0), (.int .u8 b_0)] w2 fun e4 w5 =>
   ∃ n6 : Int, (e4 = .returned (.int .i64 n6)) ∧
   (X.Kept L3 w2 w5) ∧
   (X.FactsW x1 w5 (L3)) ∧
   X.CallX Try.prog 29 #[(.agg #[(.int .u8 a_1), (.int .u16 a_2)]), (.agg #[(.int .u8 b_1), (.int .u16 b_2)])] w5 fun e7 w8 =>
    ∃ n9 : Int, (e7 = .returned (.int .i64 n9)) ∧
    (X.Kept L3 w5 w8) ∧
    (X.FactsW x1 w8 (L3)) ∧
    X.CallX Try.prog 30 #[(.agg #[(.int .u8 a_3), (.int .u16 a_4), (.int .u32 a_5), (.int .u8 a_6), (.int .u8 a_7), (.int .u8 a_8), (.int .u8 a_9), (.int .u8 a_10), (.int .u8 a_11), (.int .u8 a_12)]), (.agg #[(.int .u8 b_3), (.int .u16 b_4), (.int .u32 b_5), (.int .u8 b_6), (.int .u8 b_7), (.int .u8 b_8), (.int .u8 b_9), (.int .u8 b_10), (.int .u8 b_11), (.int .u8 b_12)])] w8 fun e10 w11 =>
     ∃ n12 : Int, (e10 = .returned (.int .i64 n12)) ∧
     (X.Kept L3 w8 w11) ∧
     (X.FactsW x1 w11 (L3)) ∧
     (X.FactsW x1 (w11.alloc (.cells #[(.int .i64 n6), (.int .i64 n9), (.int .i64 n12)] 3)) (L3)) ∧
     X.CallX Try.prog 27 #[(.slice (some ⟨(w11).heap.size, 0, none⟩) 3 3)] (w11.alloc (.cells #[(.int .i64 n6), (.int .i64 n9), (.int .i64 n12)] 3)) fun e13 w14 =>
      ∃ n15 : Int, (e13 = .returned (.int .i64 n15)) ∧
      (X.Kept L3 (w11.alloc (.cells #[(.int .i64 n6), (.int .i64 n9), (.int .i64 n12)] 3)) w14) ∧
      (X.FactsW x1 w14 (L3)) ∧
      R (.returned (.int .i64 n15)) w14) :
    Calls Try.prog 7 #[.agg #[.int .u8 a_0, .int .u8 a_1, .int .u16 a_2, .int .u8 a_3, .int .u16 a_4, .int .u32 a_5, .int .u8 a_6, .int .u8 a_7, .int .u8 a_8, .int .u8 a_9, .int .u8 a_10, .int .u8 a_11, .int .u8 a_12], .agg #[.int .u8 b_0, .int .u8 b_1, .int .u16 b_2, .int .u8 b_3, .int .u16 b_4, .int .u32 b_5, .int .u8 b_6, .int .u8 b_7, .int .u8 b_8, .int .u8 b_9, .int .u8 b_10, .int .u8 b_11, .int .u8 b_12]] w R :=
  X.calls_of { isLoc := [2, 3], sym := [], loops := [], joins := [] } Try.func7 (by kernel_rfl) h
abbrev fn_gemotlaw09_Key : Nat := 8
theorem x_gemotlaw09_Key (a_0 a_1 a_2 a_3 a_4 a_5 a_6 a_7 a_8 a_9 a_10 a_11 a_12 : Int) (w : World) (R : Ending → World → Prop) (h :
  ∃ x1 : X.Facts, (X.FactsW x1 w []) ∧
  ∀ w2 : World, ∀ L3 : List Nat, (X.Hid [] w w2) →
  (X.NewL (w).heap.size [] w w2 L3) →
  X.CallX Try.prog 31 #[(.agg #[(.int .u8 a_1), (.int .u16 a_2)])] w2 fun e4 w5 =>
   ∃ n6 : Int, ∃ n7 : Int, (e4 = .returned (.agg #[(.int .u8 n6), (.int .u16 n7)])) ∧
   (X.Kept L3 w2 w5) ∧
   (X.FactsW x1 w5 (L3)) ∧
   X.CallX Try.prog 32 #[(.agg #[(.int .u8 a_3), (.int .u16 a_4), (.int .u32 a_5), (.int .u8 a_6), (.int .u8 a_7), (.int .u8 a_8), (.int .u8 a_9), (.int .u8 a_10), (.int .u8 a_11), (.int .u8 a_12)])] w5 fun e8 w9 =>
    ∃ n10 : Int, ∃ n11 : Int, ∃ n12 : Int, ∃ n13 : Int, ∃ n14 : Int, ∃ n15 : Int, ∃ n16 : Int, ∃ n17 : Int, ∃ n18 : Int, ∃ n19 : Int, (e8 = .returned (.agg #[(.int .u8 n10), (.int .u16 n11), (.int .u32 n12), (.int .u8 n13), (.int .u8 n14), (.int .u8 n15), (.int .u8 n16), (.int .u8 n17), (.int .u8 n18), (.int .u8 n19)])) ∧
    (X.Kept L3 w5 w9) ∧
    (X.FactsW x1 w9 (L3)) ∧
    ∀ w20 : World, (X.Hid (L3) w9 w20) →
    R (.returned (.agg #[(.int .u8 a_0), (.int .u8 n6), (.int .u16 n7), (.int .u8 n10), (.int .u16 n11), (.int .u32 n12), (.int .u8 n13), (.int .u8 n14), (.int .u8 n15), (.int .u8 n16), (.int .u8 n17), (.int .u8 n18), (.int .u8 n19)])) w20) :
    Calls Try.prog 8 #[.agg #[.int .u8 a_0, .int .u8 a_1, .int .u16 a_2, .int .u8 a_3, .int .u16 a_4, .int .u32 a_5, .int .u8 a_6, .int .u8 a_7, .int .u8 a_8, .int .u8 a_9, .int .u8 a_10, .int .u8 a_11, .int .u8 a_12]] w R :=
  X.calls_of { isLoc := [1, 2], sym := [], loops := [], joins := [], stored := [(1, [2])] } Try.func8 (by kernel_rfl) h
abbrev fn_gemotref09_Compare : Nat := 9
theorem x_gemotref09_Compare (a_0 a_1 a_2 a_3 a_4 a_5 a_6 a_7 a_8 a_9 a_10 a_11 a_12 b_0 b_1 b_2 b_3 b_4 b_5 b_6 b_7 b_8 b_9 b_10 b_11 b_12 : Int) (w : World) (R : Ending → World → Prop) (h :
  if (a_0 != b_0) = true then
   if (decide (a_0 < b_0)) = true then
    ∀ w10 : World, (X.Hid [] w w10) →
    R (.returned (.int .i64 (-1))) w10
   else
    ∀ w9 : World, (X.Hid [] w w9) →
    R (.returned (.int .i64 1)) w9
  else
   ∀ w1 : World, ∀ L2 : List Nat, (X.Hid [] w w1) →
   (X.NewL (w).heap.size [] w w1 L2) →
   X.CallX Try.prog 33 #[(.agg #[(.int .u8 a_1), (.int .u16 a_2)]), (.agg #[(.int .u8 b_1), (.int .u16 b_2)])] w1 fun e3 w4 =>
    ∃ n5 : Int, (e3 = .returned (.int .i64 n5)) ∧
    (X.Kept L2 w1 w4) ∧
    if (n5 != 0) = true then
     R (.returned (.int .i64 n5)) w4
    else
     X.CallX Try.prog 34 #[(.agg #[(.int .u8 a_3), (.int .u16 a_4), (.int .u32 a_5), (.int .u8 a_6), (.int .u8 a_7), (.int .u8 a_8), (.int .u8 a_9), (.int .u8 a_10), (.int .u8 a_11), (.int .u8 a_12)]), (.agg #[(.int .u8 b_3), (.int .u16 b_4), (.int .u32 b_5), (.int .u8 b_6), (.int .u8 b_7), (.int .u8 b_8), (.int .u8 b_9), (.int .u8 b_10), (.int .u8 b_11), (.int .u8 b_12)])] w4 fun e6 w7 =>
      ∃ n8 : Int, (e6 = .returned (.int .i64 n8)) ∧
      (X.Kept L2 w4 w7) ∧
      R (.returned (.int .i64 n8)) w7) :
    Calls Try.prog 9 #[.agg #[.int .u8 a_0, .int .u8 a_1, .int .u16 a_2, .int .u8 a_3, .int .u16 a_4, .int .u32 a_5, .int .u8 a_6, .int .u8 a_7, .int .u8 a_8, .int .u8 a_9, .int .u8 a_10, .int .u8 a_11, .int .u8 a_12], .agg #[.int .u8 b_0, .int .u8 b_1, .int .u16 b_2, .int .u8 b_3, .int .u16 b_4, .int .u32 b_5, .int .u8 b_6, .int .u8 b_7, .int .u8 b_8, .int .u8 b_9, .int .u8 b_10, .int .u8 b_11, .int .u8 b_12]] w R :=
  X.calls_of { isLoc := [2, 3], sym := [], loops := [], joins := [] } Try.func9 (by kernel_rfl) h
abbrev fn_gemotlaw09_num : Nat := 12
theorem x_gemotlaw09_num (a : Int) (w : World) (R : Ending → World → Prop) (h :
  R (.returned (.int .i64 a)) w) :
    Calls Try.prog 12 #[.int .i64 a] w R :=
  X.calls_of { isLoc := [], sym := [], loops := [], joins := [] } Try.func12 (by kernel_rfl) h
abbrev fn_gemotlaw09_knows : Nat := 10
theorem x_gemotlaw09_knows  (w : World) (R : Ending → World → Prop) (h :
  X.CallX Try.prog 11 #[(.int .i64 2)] w fun e1 w2 =>
   ∃ q3 : Option Addr, (e1 = .returned (.pointer (q3))) ∧
   ((w).heap.size ≤ (w2).heap.size) ∧
   X.CallX Try.prog 13 #[(.pointer (q3)), (.agg #[(.int .u8 1), (.int .u8 0), (.int .u16 0), (.int .u8 0), (.int .u16 0), (.int .u32 0), (.int .u8 0), (.int .u8 0), (.int .u8 0), (.int .u8 0), (.int .u8 0), (.int .u8 0), (.int .u8 0)]), (.int .i64 5)] w2 fun e4 w5 =>
    ∃ n6 : Int, (e4 = .returned (.int .i64 n6)) ∧
    ((w2).heap.size ≤ (w5).heap.size) ∧
    X.CallX Try.prog 13 #[(.pointer (q3)), (.agg #[(.int .u8 2), (.int .u8 0), (.int .u16 0), (.int .u8 0), (.int .u16 0), (.int .u32 0), (.int .u8 0), (.int .u8 0), (.int .u8 0), (.int .u8 0), (.int .u8 0), (.int .u8 0), (.int .u8 0)]), (.int .i64 3)] w5 fun e7 w8 =>
     ∃ n9 : Int, (e7 = .returned (.int .i64 n9)) ∧
     ((w5).heap.size ≤ (w8).heap.size) ∧
     X.CallX Try.prog 14 #[(.pointer (q3)), (.int .i64 4)] w8 fun e10 w11 =>
      ∃ q12 : Option Addr, ∃ k13 : Nat, ∃ k14 : Nat, (e10 = .returned (.slice (q12) k13 k14)) ∧
      ((w8).heap.size ≤ (w11).heap.size) ∧
      X.CallX Try.prog 12 #[(.int .i64 n6)] w11 fun e15 w16 =>
       ∃ n17 : Int, (e15 = .returned (.int .i64 n17)) ∧
       ((w11).heap.size ≤ (w16).heap.size) ∧
       X.CallX Try.prog 12 #[(.int .i64 n9)] w16 fun e18 w19 =>
        ∃ n20 : Int, (e18 = .returned (.int .i64 n20)) ∧
        ((w16).heap.size ≤ (w19).heap.size) ∧
        if ((((IntKind.wrap .i64 (n17 + n20)) == 0) && (((k13 : Nat) : Int) == 1)) == true) = true then
         ((0 : Int) ≤ 0) ∧
         ((0 : Int) < ((k13 : Nat) : Int)) ∧
         X.onSome (q12) fun p21 =>
         ∃ n22 : Int, (World.cell? w19 ((p21.add 0).add 0) = some (.int .u8 n22)) ∧
         if ((true && (n22 == 2)) == true) = true then
          X.CallX Try.prog 25 #[(.pointer (q3))] w19 fun e23 w24 =>
           ∃ n25 : Int, (e23 = .returned (.int .i64 n25)) ∧
           ((w19).heap.size ≤ (w24).heap.size) ∧
           R (.returned (.bool (true && (n25 == 1)))) w24
         else
          R (.returned (.bool false)) w19
        else
         R (.returned (.bool false)) w19) :
    Calls Try.prog 10 #[] w R :=
  X.calls_of { isLoc := [], sym := [], loops := [], joins := [] } Try.func10 (by kernel_rfl) h
abbrev fn_wheel_New : Nat := 11
theorem x_wheel_New (a : Int) (w : World) (R : Ending → World → Prop) (h :
  R (.returned (.pointer (some ⟨((w.alloc (.map #[] 0))).heap.size, 0, none⟩))) ((w.alloc (.map #[] 0)).alloc (.cells #[(.map (some (w).heap.size)), (.int .i64 (if (512 : Int) < (if (0 : Int) > a then 0 else a) then 512 else (if (0 : Int) > a then 0 else a)))] 74))) :
    Calls Try.prog 11 #[.int .i64 a] w R :=
  X.calls_of { isLoc := [], sym := [], loops := [], joins := [] } Try.func11 (by kernel_rfl) h
abbrev fn_cmp_Compare_int : Nat := 50
theorem x_cmp_Compare_int (a b : Int) (w : World) (R : Ending → World → Prop) (h :
  X.CallX Try.prog 63 #[(.int .i64 a)] w fun e1 w2 =>
   ∃ b3 : Bool, (e1 = .returned (.bool b3)) ∧
   ((w).heap.size ≤ (w2).heap.size) ∧
   X.CallX Try.prog 63 #[(.int .i64 b)] w2 fun e4 w5 =>
    ∃ b6 : Bool, (e4 = .returned (.bool b6)) ∧
    ((w2).heap.size ≤ (w5).heap.size) ∧
    if b3 = true then
     if b6 = true then
      R (.returned (.int .i64 0)) w5
     else
      R (.returned (.int .i64 (-1))) w5
    else
     if b6 = true then
      R (.returned (.int .i64 1)) w5
     else
      if (decide (a < b)) = true then
       R (.returned (.int .i64 (-1))) w5
      else
       if (decide (a > b)) = true then
        R (.returned (.int .i64 1)) w5
       else
        R (.returned (.int .i64 0)) w5) :
    Calls Try.prog 50 #[.int .i64 a, .int .i64 b] w R :=
  X.calls_of { isLoc := [], sym := [], loops := [], joins := [] } Try.func50 (by kernel_rfl) h
abbrev fn_cmp_isNaN_int : Nat := 63
theorem x_cmp_isNaN_int (a : Int) (w : World) (R : Ending → World → Prop) (h :
  R (.returned (.bool (a != a))) w) :
    Calls Try.prog 63 #[.int .i64 a] w R :=
  X.calls_of { isLoc := [], sym := [], loops := [], joins := [] } Try.func63 (by kernel_rfl) h
abbrev fn_gemotlaw09_WheelOrders : Nat := 3
theorem x_gemotlaw09_WheelOrders (a_0 a_1 a_2 a_3 a_4 a_5 a_6 a_7 a_8 a_9 a_10 a_11 a_12 b_0 b_1 b_2 b_3 b_4 b_5 b_6 b_7 b_8 b_9 b_10 b_11 b_12 : Int) (w : World) (R : Ending → World → Prop) (h :
  ∃ x1 : X.Facts, (X.FactsW x1 w []) ∧
  ∀ w2 : World, ∀ L3 : List Nat, (X.Hid [] w w2) →
  (X.NewL (w).heap.size [] w w2 L3) →
  X.CallX Try.prog 8 #[(.agg #[(.int .u8 a_0), (.int .u8 a_1), (.int .u16 a_2), (.int .u8 a_3), (.int .u16 a_4), (.int .u32 a_5), (.int .u8 a_6), (.int .u8 a_7), (.int .u8 a_8), (.int .u8 a_9), (.int .u8 a_10), (.int .u8 a_11), (.int .u8 a_12)])] w2 fun e4 w5 =>
   ∃ n6 : Int, ∃ n7 : Int, ∃ n8 : Int, ∃ n9 : Int, ∃ n10 : Int, ∃ n11 : Int, ∃ n12 : Int, ∃ n13 : Int, ∃ n14 : Int, ∃ n15 : Int, ∃ n16 : Int, ∃ n17 : Int, ∃ n18 : Int, (e4 = .returned (.agg #[(.int .u8 n6), (.int .u8 n7), (.int .u16 n8), (.int .u8 n9), (.int .u16 n10), (.int .u32 n11), (.int .u8 n12), (.int .u8 n13), (.int .u8 n14), (.int .u8 n15), (.int .u8 n16), (.int .u8 n17), (.int .u8 n18)])) ∧
   (X.Kept L3 w2 w5) ∧
   (X.FactsW x1 w5 (L3)) ∧
   ∃ x19 : X.Facts, (X.FactsW x19 w5 (L3)) ∧
   (∀ x20 : Addr × List Value, (x20 ∈ x1) →
    x20 ∈ x19) ∧
   X.CallX Try.prog 8 #[(.agg #[(.int .u8 b_0), (.int .u8 b_1), (.int .u16 b_2), (.int .u8 b_3), (.int .u16 b_4), (.int .u32 b_5), (.int .u8 b_6), (.int .u8 b_7), (.int .u8 b_8), (.int .u8 b_9), (.int .u8 b_10), (.int .u8 b_11), (.int .u8 b_12)])] w5 fun e21 w22 =>
    ∃ n23 : Int, ∃ n24 : Int, ∃ n25 : Int, ∃ n26 : Int, ∃ n27 : Int, ∃ n28 : Int, ∃ n29 : Int, ∃ n30 : Int, ∃ n31 : Int, ∃ n32 : Int, ∃ n33 : Int, ∃ n34 : Int, ∃ n35 : Int, (e21 = .returned (.agg #[(.int .u8 n23), (.int .u8 n24), (.int .u16 n25), (.int .u8 n26), (.int .u16 n27), (.int .u32 n28), (.int .u8 n29), (.int .u8 n30), (.int .u8 n31), (.int .u8 n32), (.int .u8 n33), (.int .u8 n34), (.int .u8 n35)])) ∧
    (X.Kept L3 w5 w22) ∧
    (X.FactsW x19 w22 (L3)) ∧
    ∃ x36 : X.Facts, (X.FactsW x36 w22 (L3)) ∧
    (∀ x37 : Addr × List Value, (x37 ∈ x19) →
     x37 ∈ x36) ∧
    X.CallX Try.prog 7 #[(.agg #[(.int .u8 n6), (.int .u8 n7), (.int .u16 n8), (.int .u8 n9), (.int .u16 n10), (.int .u32 n11), (.int .u8 n12), (.int .u8 n13), (.int .u8 n14), (.int .u8 n15), (.int .u8 n16), (.int .u8 n17), (.int .u8 n18)]), (.agg #[(.int .u8 n23), (.int .u8 n24), (.int .u16 n25), (.int .u8 n26), (.int .u16 n27), (.int .u32 n28), (.int .u8 n29), (.int .u8 n30), (.int .u8 n31), (.int .u8 n32), (.int .u8 n33), (.int .u8 n34), (.int .u8 n35)])] w22 fun e38 w39 =>
     ∃ n40 : Int, (e38 = .returned (.int .i64 n40)) ∧
     (X.Kept L3 w22 w39) ∧
     (X.FactsW x36 w39 (L3)) ∧
     ∃ x41 : X.Facts, (X.FactsW x41 w39 (L3)) ∧
     (∀ x42 : Addr × List Value, (x42 ∈ x36) →
      x42 ∈ x41) ∧
     X.CallX Try.prog 9 #[(.agg #[(.int .u8 a_0), (.int .u8 a_1), (.int .u16 a_2), (.int .u8 a_3), (.int .u16 a_4), (.int .u32 a_5), (.int .u8 a_6), (.int .u8 a_7), (.int .u8 a_8), (.int .u8 a_9), (.int .u8 a_10), (.int .u8 a_11), (.int .u8 a_12)]), (.agg #[(.int .u8 b_0), (.int .u8 b_1), (.int .u16 b_2), (.int .u8 b_3), (.int .u16 b_4), (.int .u32 b_5), (.int .u8 b_6), (.int .u8 b_7), (.int .u8 b_8), (.int .u8 b_9), (.int .u8 b_10), (.int .u8 b_11), (.int .u8 b_12)])] w39 fun e43 w44 =>
      ∃ n45 : Int, (e43 = .returned (.int .i64 n45)) ∧
      (X.Kept L3 w39 w44) ∧
      (X.FactsW x41 w44 (L3)) ∧
      ∃ x46 : X.Facts, (X.FactsW x46 w44 (L3)) ∧
      (∀ x47 : Addr × List Value, (x47 ∈ x41) →
       x47 ∈ x46) ∧
      if ((n40 == n45) == true) = true then
       X.CallX Try.prog 8 #[(.agg #[(.int .u8 b_0), (.int .u8 b_1), (.int .u16 b_2), (.int .u8 b_3), (.int .u16 b_4), (.int .u32 b_5), (.int .u8 b_6), (.int .u8 b_7), (.int .u8 b_8), (.int .u8 b_9), (.int .u8 b_10), (.int .u8 b_11), (.int .u8 b_12)])] w44 fun e48 w49 =>
        ∃ n50 : Int, ∃ n51 : Int, ∃ n52 : Int, ∃ n53 : Int, ∃ n54 : Int, ∃ n55 : Int, ∃ n56 : Int, ∃ n57 : Int, ∃ n58 : Int, ∃ n59 : Int, ∃ n60 : Int, ∃ n61 : Int, ∃ n62 : Int, (e48 = .returned (.agg #[(.int .u8 n50), (.int .u8 n51), (.int .u16 n52), (.int .u8 n53), (.int .u16 n54), (.int .u32 n55), (.int .u8 n56), (.int .u8 n57), (.int .u8 n58), (.int .u8 n59), (.int .u8 n60), (.int .u8 n61), (.int .u8 n62)])) ∧
        (X.Kept L3 w44 w49) ∧
        (X.FactsW x46 w49 (L3)) ∧
        X.CallX Try.prog 8 #[(.agg #[(.int .u8 a_0), (.int .u8 a_1), (.int .u16 a_2), (.int .u8 a_3), (.int .u16 a_4), (.int .u32 a_5), (.int .u8 a_6), (.int .u8 a_7), (.int .u8 a_8), (.int .u8 a_9), (.int .u8 a_10), (.int .u8 a_11), (.int .u8 a_12)])] w49 fun e63 w64 =>
         ∃ n65 : Int, ∃ n66 : Int, ∃ n67 : Int, ∃ n68 : Int, ∃ n69 : Int, ∃ n70 : Int, ∃ n71 : Int, ∃ n72 : Int, ∃ n73 : Int, ∃ n74 : Int, ∃ n75 : Int, ∃ n76 : Int, ∃ n77 : Int, (e63 = .returned (.agg #[(.int .u8 n65), (.int .u8 n66), (.int .u16 n67), (.int .u8 n68), (.int .u16 n69), (.int .u32 n70), (.int .u8 n71), (.int .u8 n72), (.int .u8 n73), (.int .u8 n74), (.int .u8 n75), (.int .u8 n76), (.int .u8 n77)])) ∧
         (X.Kept L3 w49 w64) ∧
         (X.FactsW x46 w64 (L3)) ∧
         X.CallX Try.prog 7 #[(.agg #[(.int .u8 n50), (.int .u8 n51), (.int .u16 n52), (.int .u8 n53), (.int .u16 n54), (.int .u32 n55), (.int .u8 n56), (.int .u8 n57), (.int .u8 n58), (.int .u8 n59), (.int .u8 n60), (.int .u8 n61), (.int .u8 n62)]), (.agg #[(.int .u8 n65), (.int .u8 n66), (.int .u16 n67), (.int .u8 n68), (.int .u16 n69), (.int .u32 n70), (.int .u8 n71), (.int .u8 n72), (.int .u8 n73), (.int .u8 n74), (.int .u8 n75), (.int .u8 n76), (.int .u8 n77)])] w64 fun e78 w79 =>
          ∃ n80 : Int, (e78 = .returned (.int .i64 n80)) ∧
          (X.Kept L3 w64 w79) ∧
          (X.FactsW x46 w79 (L3)) ∧
          X.CallX Try.prog 9 #[(.agg #[(.int .u8 a_0), (.int .u8 a_1), (.int .u16 a_2), (.int .u8 a_3), (.int .u16 a_4), (.int .u32 a_5), (.int .u8 a_6), (.int .u8 a_7), (.int .u8 a_8), (.int .u8 a_9), (.int .u8 a_10), (.int .u8 a_11), (.int .u8 a_12)]), (.agg #[(.int .u8 b_0), (.int .u8 b_1), (.int .u16 b_2), (.int .u8 b_3), (.int .u16 b_4), (.int .u32 b_5), (.int .u8 b_6), (.int .u8 b_7), (.int .u8 b_8), (.int .u8 b_9), (.int .u8 b_10), (.int .u8 b_11), (.int .u8 b_12)])] w79 fun e81 w82 =>
           ∃ n83 : Int, (e81 = .returned (.int .i64 n83)) ∧
           (X.Kept L3 w79 w82) ∧
           (X.FactsW x46 w82 (L3)) ∧
           if ((true && (n80 == (IntKind.wrap .i64 (0 - n83)))) == true) = true then
            X.CallX Try.prog 10 #[] w82 fun e84 w85 =>
             ∃ b86 : Bool, (e84 = .returned (.bool b86)) ∧
             (X.Kept L3 w82 w85) ∧
             (X.FactsW x46 w85 (L3)) ∧
             R (.returned (.bool (true && b86))) w85
           else
            R (.returned (.bool false)) w82
      else
       R (.returned (.bool false)) w44) :
    Calls Try.prog 3 #[.agg #[.int .u8 a_0, .int .u8 a_1, .int .u16 a_2, .int .u8 a_3, .int .u16 a_4, .int .u32 a_5, .int .u8 a_6, .int .u8 a_7, .int .u8 a_8, .int .u8 a_9, .int .u8 a_10, .int .u8 a_11, .int .u8 a_12], .agg #[.int .u8 b_0, .int .u8 b_1, .int .u16 b_2, .int .u8 b_3, .int .u16 b_4, .int .u32 b_5, .int .u8 b_6, .int .u8 b_7, .int .u8 b_8, .int .u8 b_9, .int .u8 b_10, .int .u8 b_11, .int .u8 b_12]] w R :=
  X.calls_of { isLoc := [2, 3], sym := [], loops := [], joins := [] } Try.func3 (by kernel_rfl) h
abbrev fn_gemotref09_ahead : Nat := 39
theorem x_gemotref09_ahead (a_0 a_1 a_2 a_3 a_4 a_5 a_6 a_7 a_8 a_9 a_10 a_11 a_12 a_13 b_0 b_1 b_2 b_3 b_4 b_5 b_6 b_7 b_8 b_9 b_10 b_11 b_12 b_13 : Int) (w : World) (R : Ending → World → Prop) (h :
  if ((decide (a_13 < b_13)) == false) = true then
   if ((a_13 == b_13) == true) = true then
    ∀ w3 : World, ∀ L4 : List Nat, (X.Hid [] w w3) →
    (X.NewL (w).heap.size [] w w3 L4) →
    X.CallX Try.prog 9 #[(.agg #[(.int .u8 a_0), (.int .u8 a_1), (.int .u16 a_2), (.int .u8 a_3), (.int .u16 a_4), (.int .u32 a_5), (.int .u8 a_6), (.int .u8 a_7), (.int .u8 a_8), (.int .u8 a_9), (.int .u8 a_10), (.int .u8 a_11), (.int .u8 a_12)]), (.agg #[(.int .u8 b_0), (.int .u8 b_1), (.int .u16 b_2), (.int .u8 b_3), (.int .u16 b_4), (.int .u32 b_5), (.int .u8 b_6), (.int .u8 b_7), (.int .u8 b_8), (.int .u8 b_9), (.int .u8 b_10), (.int .u8 b_11), (.int .u8 b_12)])] w3 fun e5 w6 =>
     ∃ n7 : Int, (e5 = .returned (.int .i64 n7)) ∧
     (X.Kept L4 w3 w6) ∧
     R (.returned (.bool (false || (true && decide (n7 < 0))))) w6
   else
    ∀ w2 : World, (X.Hid [] w w2) →
    R (.returned (.bool false)) w2
  else
   ∀ w1 : World, (X.Hid [] w w1) →
   R (.returned (.bool true)) w1) :
    Calls Try.prog 39 #[.agg #[.int .u8 a_0, .int .u8 a_1, .int .u16 a_2, .int .u8 a_3, .int .u16 a_4, .int .u32 a_5, .int .u8 a_6, .int .u8 a_7, .int .u8 a_8, .int .u8 a_9, .int .u8 a_10, .int .u8 a_11, .int .u8 a_12, .int .i64 a_13], .agg #[.int .u8 b_0, .int .u8 b_1, .int .u16 b_2, .int .u8 b_3, .int .u16 b_4, .int .u32 b_5, .int .u8 b_6, .int .u8 b_7, .int .u8 b_8, .int .u8 b_9, .int .u8 b_10, .int .u8 b_11, .int .u8 b_12, .int .i64 b_13]] w R :=
  X.calls_of { isLoc := [2, 3], sym := [], loops := [], joins := [] } Try.func39 (by kernel_rfl) h
abbrev fn_wheel_Wheel_none : Nat := 35
theorem x_wheel_Wheel_none (a : Addr) (w : World) (R : Ending → World → Prop) (h :
  ∃ q1 : Option Nat, (World.cell? w (a.add 0) = some (.map (q1))) ∧
  R (.returned (.bool (false || (q1.isNone)))) w) :
    Calls Try.prog 35 #[.pointer (some a)] w R :=
  X.calls_of { isLoc := [], sym := [], loops := [], joins := [] } Try.func35 (by kernel_rfl) h
abbrev fn_nil_none : Nat := 35
theorem x_nil_none  (w : World) (R : Ending → World → Prop) (h :
  R (.returned (.bool true)) w) :
    Calls Try.prog 35 #[.pointer none] w R :=
  X.calls_of { isLoc := [], sym := [], loops := [], joins := [] } Try.func35 (by kernel_rfl) h
abbrev fn_wheel_Wheel_Set : Nat := 13
theorem x_wheel_Wheel_Set (a : Addr) (b_0 b_1 b_2 b_3 b_4 b_5 b_6 b_7 b_8 b_9 b_10 b_11 b_12 c : Int) (w : World) (R : Ending → World → Prop) (h :
  ∀ w1 : World, ∀ L2 : List Nat, (X.Hid [] w w1) →
  (X.NewL (w).heap.size [] w w1 L2) →
  X.CallX Try.prog 35 #[(.pointer (some a))] w1 fun e3 w4 =>
   ∃ b5 : Bool, (e3 = .returned (.bool b5)) ∧
   (X.Kept L2 w1 w4) ∧
   if b5 = true then
    R (.returned (.int .i64 1)) w4
   else
    ∃ x6 : X.Facts, (X.FactsW x6 w4 (L2)) ∧
    ∃ q7 : Option Nat, (((a.add 0), [(.map (q7))]) ∈ x6) ∧
    ∀ w8 : World, ∀ L9 : List Nat, (X.Hid (L2) w4 w8) →
    (X.NewL (w).heap.size (L2) w4 w8 L9) →
    ∃ n10 : Int, ∃ b11 : Bool, ∃ w12 : World, (Sem.run Try.prog (Go.Instr.lookup 72 (.map (q7)) (.agg #[(.int .u8 b_0), (.int .u8 b_1), (.int .u16 b_2), (.int .u8 b_3), (.int .u16 b_4), (.int .u32 b_5), (.int .u8 b_6), (.int .u8 b_7), (.int .u8 b_8), (.int .u8 b_9), (.int .u8 b_10), (.int .u8 b_11), (.int .u8 b_12)]) true) w8 = .ok (.tuple #[(.int .i64 n10), (.bool b11)]) w12) ∧
    (X.Kept L9 w8 w12) ∧
    (X.FactsW x6 w12 (L9)) ∧
    ∃ x13 : X.Facts, (X.FactsW x13 w12 (L9)) ∧
    if ((!b11) == true) = true then
     ∃ q19 : Option Nat, (((a.add 0), [(.map (q19))]) ∈ x13) ∧
     ∃ n20 : Int, (((a.add 1), [(.int .i64 n20)]) ∈ x13) ∧
     ∀ w21 : World, ∀ L22 : List Nat, (X.Hid (L9) w12 w21) →
     (X.NewL (w).heap.size (L9) w12 w21 L22) →
     ∃ n23 : Int, ∃ w24 : World, (Sem.run Try.prog (Go.Builtin.len_ #[72] 3 #[(.map (q19))]) w21 = .ok (.int .i64 n23) w24) ∧
     (X.Kept L22 w21 w24) ∧
     (X.FactsW x13 w24 (L22)) ∧
     if (true && decide (n23 ≥ n20)) = true then
      R (.returned (.int .i64 11)) w24
     else
      ∃ x25 : X.Facts, (X.FactsW x25 w24 (L22)) ∧
      ∃ q26 : Option Nat, (((a.add 0), [(.map (q26))]) ∈ x25) ∧
      ∀ w27 : World, ∀ L28 : List Nat, (X.Hid (L22) w24 w27) →
      (X.NewL (w).heap.size (L22) w24 w27 L28) →
      ∃ w29 : World, (Sem.run Try.prog (Go.Instr.mapUpdate 72 (.map (q26)) (.agg #[(.int .u8 b_0), (.int .u8 b_1), (.int .u16 b_2), (.int .u8 b_3), (.int .u16 b_4), (.int .u32 b_5), (.int .u8 b_6), (.int .u8 b_7), (.int .u8 b_8), (.int .u8 b_9), (.int .u8 b_10), (.int .u8 b_11), (.int .u8 b_12)]) (.int .i64 c)) w27 = .ok (PUnit.unit) w29) ∧
      (X.Kept L28 w27 w29) ∧
      R (.returned (.int .i64 0)) w29
    else
     ∃ x14 : X.Facts, (X.FactsW x14 w12 (L9)) ∧
     ∃ q15 : Option Nat, (((a.add 0), [(.map (q15))]) ∈ x14) ∧
     ∀ w16 : World, ∀ L17 : List Nat, (X.Hid (L9) w12 w16) →
     (X.NewL (w).heap.size (L9) w12 w16 L17) →
     ∃ w18 : World, (Sem.run Try.prog (Go.Instr.mapUpdate 72 (.map (q15)) (.agg #[(.int .u8 b_0), (.int .u8 b_1), (.int .u16 b_2), (.int .u8 b_3), (.int .u16 b_4), (.int .u32 b_5), (.int .u8 b_6), (.int .u8 b_7), (.int .u8 b_8), (.int .u8 b_9), (.int .u8 b_10), (.int .u8 b_11), (.int .u8 b_12)]) (.int .i64 c)) w16 = .ok (PUnit.unit) w18) ∧
     (X.Kept L17 w16 w18) ∧
     R (.returned (.int .i64 0)) w18) :
    Calls Try.prog 13 #[.pointer (some a), .agg #[.int .u8 b_0, .int .u8 b_1, .int .u16 b_2, .int .u8 b_3, .int .u16 b_4, .int .u32 b_5, .int .u8 b_6, .int .u8 b_7, .int .u8 b_8, .int .u8 b_9, .int .u8 b_10, .int .u8 b_11, .int .u8 b_12], .int .i64 c] w R :=
  X.calls_of { isLoc := [4], sym := [27], loops := [], joins := [] } Try.func13 (by kernel_rfl) h
abbrev fn_nil_Set : Nat := 13
theorem x_nil_Set (b_0 b_1 b_2 b_3 b_4 b_5 b_6 b_7 b_8 b_9 b_10 b_11 b_12 c : Int) (w : World) (R : Ending → World → Prop) (h :
  ∀ w1 : World, ∀ L2 : List Nat, (X.Hid [] w w1) →
  (X.NewL (w).heap.size [] w w1 L2) →
  X.CallX Try.prog 35 #[(.pointer none)] w1 fun e3 w4 =>
   ∃ b5 : Bool, (e3 = .returned (.bool b5)) ∧
   (X.Kept L2 w1 w4) ∧
   if b5 = true then
    R (.returned (.int .i64 1)) w4
   else
    ∃ x6 : X.Facts, (X.FactsW x6 w4 (L2)) ∧
    False) :
    Calls Try.prog 13 #[.pointer none, .agg #[.int .u8 b_0, .int .u8 b_1, .int .u16 b_2, .int .u8 b_3, .int .u16 b_4, .int .u32 b_5, .int .u8 b_6, .int .u8 b_7, .int .u8 b_8, .int .u8 b_9, .int .u8 b_10, .int .u8 b_11, .int .u8 b_12], .int .i64 c] w R :=
  X.calls_of { isLoc := [4], sym := [27], loops := [], joins := [] } Try.func13 (by kernel_rfl) h
abbrev fn_wheel_Wheel_Cancel : Nat := 17
theorem x_wheel_Wheel_Cancel (a : Addr) (b_0 b_1 b_2 b_3 b_4 b_5 b_6 b_7 b_8 b_9 b_10 b_11 b_12 : Int) (w : World) (R : Ending → World → Prop) (h :
  ∀ w1 : World, ∀ L2 : List Nat, (X.Hid [] w w1) →
  (X.NewL (w).heap.size [] w w1 L2) →
  X.CallX Try.prog 19 #[(.pointer (some a)), (.agg #[(.int .u8 b_0), (.int .u8 b_1), (.int .u16 b_2), (.int .u8 b_3), (.int .u16 b_4), (.int .u32 b_5), (.int .u8 b_6), (.int .u8 b_7), (.int .u8 b_8), (.int .u8 b_9), (.int .u8 b_10), (.int .u8 b_11), (.int .u8 b_12)])] w1 fun e3 w4 =>
   ∃ n5 : Int, ∃ b6 : Bool, (e3 = .returned (.tuple #[(.int .i64 n5), (.bool b6)])) ∧
   (X.Kept L2 w1 w4) ∧
   if b6 = true then
    ∃ x7 : X.Facts, (X.FactsW x7 w4 (L2)) ∧
    ∃ q8 : Option Nat, (((a.add 0), [(.map (q8))]) ∈ x7) ∧
    ∀ w9 : World, ∀ L10 : List Nat, (X.Hid (L2) w4 w9) →
    (X.NewL (w).heap.size (L2) w4 w9 L10) →
    ∃ w11 : World, (Sem.run Try.prog (Go.Builtin.delete_ #[72, 40] 0 #[(.map (q8)), (.agg #[(.int .u8 b_0), (.int .u8 b_1), (.int .u16 b_2), (.int .u8 b_3), (.int .u16 b_4), (.int .u32 b_5), (.int .u8 b_6), (.int .u8 b_7), (.int .u8 b_8), (.int .u8 b_9), (.int .u8 b_10), (.int .u8 b_11), (.int .u8 b_12)])]) w9 = .ok (.tuple #[]) w11) ∧
    (X.Kept L10 w9 w11) ∧
    R (.returned (.bool b6)) w11
   else
    R (.returned (.bool b6)) w4) :
    Calls Try.prog 17 #[.pointer (some a), .agg #[.int .u8 b_0, .int .u8 b_1, .int .u16 b_2, .int .u8 b_3, .int .u16 b_4, .int .u32 b_5, .int .u8 b_6, .int .u8 b_7, .int .u8 b_8, .int .u8 b_9, .int .u8 b_10, .int .u8 b_11, .int .u8 b_12]] w R :=
  X.calls_of { isLoc := [3], sym := [], loops := [], joins := [] } Try.func17 (by kernel_rfl) h
abbrev fn_nil_Cancel : Nat := 17
theorem x_nil_Cancel (b_0 b_1 b_2 b_3 b_4 b_5 b_6 b_7 b_8 b_9 b_10 b_11 b_12 : Int) (w : World) (R : Ending → World → Prop) (h :
  ∀ w1 : World, ∀ L2 : List Nat, (X.Hid [] w w1) →
  (X.NewL (w).heap.size [] w w1 L2) →
  X.CallX Try.prog 19 #[(.pointer none), (.agg #[(.int .u8 b_0), (.int .u8 b_1), (.int .u16 b_2), (.int .u8 b_3), (.int .u16 b_4), (.int .u32 b_5), (.int .u8 b_6), (.int .u8 b_7), (.int .u8 b_8), (.int .u8 b_9), (.int .u8 b_10), (.int .u8 b_11), (.int .u8 b_12)])] w1 fun e3 w4 =>
   ∃ n5 : Int, ∃ b6 : Bool, (e3 = .returned (.tuple #[(.int .i64 n5), (.bool b6)])) ∧
   (X.Kept L2 w1 w4) ∧
   if b6 = true then
    ∃ x7 : X.Facts, (X.FactsW x7 w4 (L2)) ∧
    False
   else
    R (.returned (.bool b6)) w4) :
    Calls Try.prog 17 #[.pointer none, .agg #[.int .u8 b_0, .int .u8 b_1, .int .u16 b_2, .int .u8 b_3, .int .u16 b_4, .int .u32 b_5, .int .u8 b_6, .int .u8 b_7, .int .u8 b_8, .int .u8 b_9, .int .u8 b_10, .int .u8 b_11, .int .u8 b_12]] w R :=
  X.calls_of { isLoc := [3], sym := [], loops := [], joins := [] } Try.func17 (by kernel_rfl) h
abbrev fn_wheel_Wheel_At : Nat := 19
theorem x_wheel_Wheel_At (a : Addr) (b_0 b_1 b_2 b_3 b_4 b_5 b_6 b_7 b_8 b_9 b_10 b_11 b_12 : Int) (w : World) (R : Ending → World → Prop) (h :
  ∀ w1 : World, ∀ L2 : List Nat, (X.Hid [] w w1) →
  (X.NewL (w).heap.size [] w w1 L2) →
  X.CallX Try.prog 35 #[(.pointer (some a))] w1 fun e3 w4 =>
   ∃ b5 : Bool, (e3 = .returned (.bool b5)) ∧
   (X.Kept L2 w1 w4) ∧
   if b5 = true then
    R (.returned (.tuple #[(.int .i64 0), (.bool false)])) w4
   else
    ∃ x6 : X.Facts, (X.FactsW x6 w4 (L2)) ∧
    ∃ q7 : Option Nat, (((a.add 0), [(.map (q7))]) ∈ x6) ∧
    ∀ w8 : World, ∀ L9 : List Nat, (X.Hid (L2) w4 w8) →
    (X.NewL (w).heap.size (L2) w4 w8 L9) →
    ∃ n10 : Int, ∃ b11 : Bool, ∃ w12 : World, (Sem.run Try.prog (Go.Instr.lookup 72 (.map (q7)) (.agg #[(.int .u8 b_0), (.int .u8 b_1), (.int .u16 b_2), (.int .u8 b_3), (.int .u16 b_4), (.int .u32 b_5), (.int .u8 b_6), (.int .u8 b_7), (.int .u8 b_8), (.int .u8 b_9), (.int .u8 b_10), (.int .u8 b_11), (.int .u8 b_12)]) true) w8 = .ok (.tuple #[(.int .i64 n10), (.bool b11)]) w12) ∧
    (X.Kept L9 w8 w12) ∧
    (X.FactsW x6 w12 (L9)) ∧
    R (.returned (.tuple #[(.int .i64 n10), (.bool b11)])) w12) :
    Calls Try.prog 19 #[.pointer (some a), .agg #[.int .u8 b_0, .int .u8 b_1, .int .u16 b_2, .int .u8 b_3, .int .u16 b_4, .int .u32 b_5, .int .u8 b_6, .int .u8 b_7, .int .u8 b_8, .int .u8 b_9, .int .u8 b_10, .int .u8 b_11, .int .u8 b_12]] w R :=
  X.calls_of { isLoc := [3], sym := [], loops := [], joins := [] } Try.func19 (by kernel_rfl) h
abbrev fn_nil_At : Nat := 19
theorem x_nil_At (b_0 b_1 b_2 b_3 b_4 b_5 b_6 b_7 b_8 b_9 b_10 b_11 b_12 : Int) (w : World) (R : Ending → World → Prop) (h :
  ∀ w1 : World, ∀ L2 : List Nat, (X.Hid [] w w1) →
  (X.NewL (w).heap.size [] w w1 L2) →
  X.CallX Try.prog 35 #[(.pointer none)] w1 fun e3 w4 =>
   ∃ b5 : Bool, (e3 = .returned (.bool b5)) ∧
   (X.Kept L2 w1 w4) ∧
   if b5 = true then
    R (.returned (.tuple #[(.int .i64 0), (.bool false)])) w4
   else
    ∃ x6 : X.Facts, (X.FactsW x6 w4 (L2)) ∧
    False) :
    Calls Try.prog 19 #[.pointer none, .agg #[.int .u8 b_0, .int .u8 b_1, .int .u16 b_2, .int .u8 b_3, .int .u16 b_4, .int .u32 b_5, .int .u8 b_6, .int .u8 b_7, .int .u8 b_8, .int .u8 b_9, .int .u8 b_10, .int .u8 b_11, .int .u8 b_12]] w R :=
  X.calls_of { isLoc := [3], sym := [], loops := [], joins := [] } Try.func19 (by kernel_rfl) h
abbrev fn_wheel_Wheel_Due : Nat := 14
theorem x_wheel_Wheel_Due (a : Addr) (b : Int) (w : World) (R : Ending → World → Prop) (h :
  X.CallX Try.prog 35 #[(.pointer (some a))] w fun e1 w2 =>
   ∃ b3 : Bool, (e1 = .returned (.bool b3)) ∧
   ((w).heap.size ≤ (w2).heap.size) ∧
   if b3 = true then
    R (.returned (.slice none 0 0)) w2
   else
    ∃ q4 : Option Nat, (World.cell? w2 (a.add 0) = some (.map (q4))) ∧
    ∃ q5 : Option Addr, ∃ w6 : World, (Sem.run Try.prog (Go.Instr.range 72 (.map (q4))) w2 = .ok (.pointer (q5)) w6) ∧
    ((w2).heap.size ≤ (w6).heap.size) ∧
    ∃ x7 : Option Addr → Nat → Nat → World → List Nat → Prop, ∃ x8 : Option Addr → Nat → Nat → World → Nat, (x7 (none) 0 0 w6 []) ∧
    ∀ q9 : Option Addr, ∀ k10 : Nat, ∀ k11 : Nat, ∀ w12 : World, ∀ L13 : List Nat, (X.LF (w).heap.size w12 L13) →
    (x7 q9 k10 k11 w12 L13) →
    ∃ b14 : Bool, ∃ L15 : List Value, ∃ w16 : World, (Sem.run Try.prog (Go.Instr.next (.pointer (q5)) false 0) w12 = .ok (.tuple ((Value.bool b14 :: L15).toArray)) w16) ∧
    ((w12).heap.size ≤ (w16).heap.size) ∧
    if b14 = true then
     ∃ n46 : Int, ∃ n47 : Int, ∃ n48 : Int, ∃ n49 : Int, ∃ n50 : Int, ∃ n51 : Int, ∃ n52 : Int, ∃ n53 : Int, ∃ n54 : Int, ∃ n55 : Int, ∃ n56 : Int, ∃ n57 : Int, ∃ n58 : Int, ∃ n59 : Int, ∃ w60 : World, (Sem.run Try.prog (Go.Instr.entry (.pointer (q5))) w16 = .ok (.tuple #[(.agg #[(.int .u8 n46), (.int .u8 n47), (.int .u16 n48), (.int .u8 n49), (.int .u16 n50), (.int .u32 n51), (.int .u8 n52), (.int .u8 n53), (.int .u8 n54), (.int .u8 n55), (.int .u8 n56), (.int .u8 n57), (.int .u8 n58)]), (.int .i64 n59)]) w60) ∧
     ((w16).heap.size ≤ (w60).heap.size) ∧
     if (decide (n59 ≤ b)) = true then
      ∀ w63 : World, ∀ L64 : List Nat, (X.Hid [] w60 w63) →
      (X.NewL (w).heap.size [] w60 w63 L64) →
      ∃ q65 : Option Addr, ∃ k66 : Nat, ∃ k67 : Nat, ∃ w68 : World, (Sem.run Try.prog (Go.Builtin.append_ #[52, 52] 52 #[(.slice (q9) k10 k11), (.slice (some ⟨(w63).heap.size, 0, none⟩) 1 1)]) (w63.alloc (.cells #[(.int .u8 n46), (.int .u8 n47), (.int .u16 n48), (.int .u8 n49), (.int .u16 n50), (.int .u32 n51), (.int .u8 n52), (.int .u8 n53), (.int .u8 n54), (.int .u8 n55), (.int .u8 n56), (.int .u8 n57), (.int .u8 n58)] 40)) = .ok (.slice (q65) k66 k67) w68) ∧
      (X.Kept L64 (w63.alloc (.cells #[(.int .u8 n46), (.int .u8 n47), (.int .u16 n48), (.int .u8 n49), (.int .u16 n50), (.int .u32 n51), (.int .u8 n52), (.int .u8 n53), (.int .u8 n54), (.int .u8 n55), (.int .u8 n56), (.int .u8 n57), (.int .u8 n58)] 40)) w68) ∧
      (x7 q65 k66 k67 w68 (L64)) ∧
      Nat.le ((x8 q65 k66 k67 w68) + 1) (x8 q9 k10 k11 w12)
     else
      ∀ w61 : World, ∀ L62 : List Nat, (X.Hid [] w60 w61) →
      (X.NewL (w).heap.size [] w60 w61 L62) →
      (x7 q9 k10 k11 w61 (L62)) ∧
      Nat.le ((x8 q9 k10 k11 w61) + 1) (x8 q9 k10 k11 w12)
    else
     X.CallX Try.prog 37 #[(.pointer (some a))] w16 fun e17 w18 =>
      ∃ v19 : Value, (e17 = .returned (v19)) ∧
      ((w16).heap.size ≤ (w18).heap.size) ∧
      X.CallX Try.prog 36 #[(.slice (q9) k10 k11), (v19)] w18 fun e20 w21 =>
       (e20 = .returned (.tuple #[])) ∧
       ((w18).heap.size ≤ (w21).heap.size) ∧
       ∃ x22 : Int → World → List Nat → Prop, ∃ x23 : Int → World → Nat, (x22 0 w21 []) ∧
       ∀ n24 : Int, ∀ w25 : World, ∀ L26 : List Nat, (X.LF (w).heap.size w25 L26) →
       (x22 n24 w25 L26) →
       if (decide (n24 < ((k10 : Nat) : Int))) = true then
        ((0 : Int) ≤ n24) ∧
        (n24 < ((k10 : Nat) : Int)) ∧
        X.onSome (q9) fun p27 =>
        ∃ n28 : Int, ∃ n29 : Int, ∃ n30 : Int, ∃ n31 : Int, ∃ n32 : Int, ∃ n33 : Int, ∃ n34 : Int, ∃ n35 : Int, ∃ n36 : Int, ∃ n37 : Int, ∃ n38 : Int, ∃ n39 : Int, ∃ n40 : Int, (X.Cells w25 (p27.add ((n24).toNat * 13)) [(.int .u8 n28), (.int .u8 n29), (.int .u16 n30), (.int .u8 n31), (.int .u16 n32), (.int .u32 n33), (.int .u8 n34), (.int .u8 n35), (.int .u8 n36), (.int .u8 n37), (.int .u8 n38), (.int .u8 n39), (.int .u8 n40)]) ∧
        ∃ x41 : X.Facts, (X.FactsW x41 w25 []) ∧
        ∃ q42 : Option Nat, (((a.add 0), [(.map (q42))]) ∈ x41) ∧
        ∀ w43 : World, ∀ L44 : List Nat, (X.Hid [] w25 w43) →
        (X.NewL (w).heap.size [] w25 w43 L44) →
        ∃ w45 : World, (Sem.run Try.prog (Go.Builtin.delete_ #[72, 40] 0 #[(.map (q42)), (.agg #[(.int .u8 n28), (.int .u8 n29), (.int .u16 n30), (.int .u8 n31), (.int .u16 n32), (.int .u32 n33), (.int .u8 n34), (.int .u8 n35), (.int .u8 n36), (.int .u8 n37), (.int .u8 n38), (.int .u8 n39), (.int .u8 n40)])]) w43 = .ok (.tuple #[]) w45) ∧
        (X.Kept L44 w43 w45) ∧
        (x22 (IntKind.wrap .i64 (n24 + 1)) w45 (L44)) ∧
        Nat.le ((x23 (IntKind.wrap .i64 (n24 + 1)) w45) + 1) (x23 n24 w25)
       else
        R (.returned (.slice (q9) k10 k11)) w25) :
    Calls Try.prog 14 #[.pointer (some a), .int .i64 b] w R :=
  X.calls_of { isLoc := [6, 9], sym := [], loops := [(5, .inv [(5, .slice)] [] true), (11, .inv [(35, .int .i64)] [] true)], joins := [], ents := [(19, [40, 3])] } Try.func14 (by kernel_rfl) h
abbrev fn_nil_Due : Nat := 14
theorem x_nil_Due (b : Int) (w : World) (R : Ending → World → Prop) (h :
  X.CallX Try.prog 35 #[(.pointer none)] w fun e1 w2 =>
   ∃ b3 : Bool, (e1 = .returned (.bool b3)) ∧
   ((w).heap.size ≤ (w2).heap.size) ∧
   if b3 = true then
    R (.returned (.slice none 0 0)) w2
   else
    False) :
    Calls Try.prog 14 #[.pointer none, .int .i64 b] w R :=
  X.calls_of { isLoc := [6, 9], sym := [], loops := [(5, .inv [(5, .slice)] [] true), (11, .inv [(35, .int .i64)] [] true)], joins := [], ents := [(19, [40, 3])] } Try.func14 (by kernel_rfl) h
abbrev fn_wheel_Wheel_Next : Nat := 23
theorem x_wheel_Wheel_Next (a : Addr) (w : World) (R : Ending → World → Prop) (h :
  X.CallX Try.prog 35 #[(.pointer (some a))] w fun e1 w2 =>
   ∃ b3 : Bool, (e1 = .returned (.bool b3)) ∧
   ((w).heap.size ≤ (w2).heap.size) ∧
   if b3 = true then
    R (.returned (.tuple #[(.int .i64 0), (.bool false)])) w2
   else
    ∃ q4 : Option Nat, (World.cell? w2 (a.add 0) = some (.map (q4))) ∧
    ∃ q5 : Option Addr, ∃ w6 : World, (Sem.run Try.prog (Go.Instr.range 72 (.map (q4))) w2 = .ok (.pointer (q5)) w6) ∧
    ((w2).heap.size ≤ (w6).heap.size) ∧
    ∃ x7 : Int → Bool → World → List Nat → Prop, ∃ x8 : Int → Bool → World → Nat, (x7 0 false w6 []) ∧
    ∀ n9 : Int, ∀ b10 : Bool, ∀ w11 : World, ∀ L12 : List Nat, (X.LF (w).heap.size w11 L12) →
    (x7 n9 b10 w11 L12) →
    ∃ b13 : Bool, ∃ L14 : List Value, ∃ w15 : World, (Sem.run Try.prog (Go.Instr.next (.pointer (q5)) false 0) w11 = .ok (.tuple ((Value.bool b13 :: L14).toArray)) w15) ∧
    ((w11).heap.size ≤ (w15).heap.size) ∧
    if b13 = true then
     ∃ n16 : Int, ∃ n17 : Int, ∃ n18 : Int, ∃ n19 : Int, ∃ n20 : Int, ∃ n21 : Int, ∃ n22 : Int, ∃ n23 : Int, ∃ n24 : Int, ∃ n25 : Int, ∃ n26 : Int, ∃ n27 : Int, ∃ n28 : Int, ∃ n29 : Int, ∃ w30 : World, (Sem.run Try.prog (Go.Instr.entry (.pointer (q5))) w15 = .ok (.tuple #[(.agg #[(.int .u8 n16), (.int .u8 n17), (.int .u16 n18), (.int .u8 n19), (.int .u16 n20), (.int .u32 n21), (.int .u8 n22), (.int .u8 n23), (.int .u8 n24), (.int .u8 n25), (.int .u8 n26), (.int .u8 n27), (.int .u8 n28)]), (.int .i64 n29)]) w30) ∧
     ((w15).heap.size ≤ (w30).heap.size) ∧
     if ((!b10) || decide (n29 < n9)) = true then
      (x7 n29 true w30 []) ∧
      Nat.le ((x8 n29 true w30) + 1) (x8 n9 b10 w11)
     else
      (x7 n9 b10 w30 []) ∧
      Nat.le ((x8 n9 b10 w30) + 1) (x8 n9 b10 w11)
    else
     R (.returned (.tuple #[(.int .i64 n9), (.bool b10)])) w15) :
    Calls Try.prog 23 #[.pointer (some a)] w R :=
  X.calls_of { isLoc := [], sym := [], loops := [(5, .inv [(4, .int .i64), (5, .bool)] [] true)], joins := [], ents := [(19, [40, 3])] } Try.func23 (by kernel_rfl) h
abbrev fn_nil_Next : Nat := 23
theorem x_nil_Next  (w : World) (R : Ending → World → Prop) (h :
  X.CallX Try.prog 35 #[(.pointer none)] w fun e1 w2 =>
   ∃ b3 : Bool, (e1 = .returned (.bool b3)) ∧
   ((w).heap.size ≤ (w2).heap.size) ∧
   if b3 = true then
    R (.returned (.tuple #[(.int .i64 0), (.bool false)])) w2
   else
    False) :
    Calls Try.prog 23 #[.pointer none] w R :=
  X.calls_of { isLoc := [], sym := [], loops := [(5, .inv [(4, .int .i64), (5, .bool)] [] true)], joins := [], ents := [(19, [40, 3])] } Try.func23 (by kernel_rfl) h
abbrev fn_wheel_Wheel_Len : Nat := 25
theorem x_wheel_Wheel_Len (a : Addr) (w : World) (R : Ending → World → Prop) (h :
  X.CallX Try.prog 35 #[(.pointer (some a))] w fun e1 w2 =>
   ∃ b3 : Bool, (e1 = .returned (.bool b3)) ∧
   ((w).heap.size ≤ (w2).heap.size) ∧
   if b3 = true then
    R (.returned (.int .i64 0)) w2
   else
    ∃ q4 : Option Nat, (World.cell? w2 (a.add 0) = some (.map (q4))) ∧
    ∃ n5 : Int, ∃ w6 : World, (Sem.run Try.prog (Go.Builtin.len_ #[72] 3 #[(.map (q4))]) w2 = .ok (.int .i64 n5) w6) ∧
    ((w2).heap.size ≤ (w6).heap.size) ∧
    R (.returned (.int .i64 n5)) w6) :
    Calls Try.prog 25 #[.pointer (some a)] w R :=
  X.calls_of { isLoc := [], sym := [9], loops := [], joins := [] } Try.func25 (by kernel_rfl) h
abbrev fn_nil_Len : Nat := 25
theorem x_nil_Len  (w : World) (R : Ending → World → Prop) (h :
  X.CallX Try.prog 35 #[(.pointer none)] w fun e1 w2 =>
   ∃ b3 : Bool, (e1 = .returned (.bool b3)) ∧
   ((w).heap.size ≤ (w2).heap.size) ∧
   if b3 = true then
    R (.returned (.int .i64 0)) w2
   else
    False) :
    Calls Try.prog 25 #[.pointer none] w R :=
  X.calls_of { isLoc := [], sym := [9], loops := [], joins := [] } Try.func25 (by kernel_rfl) h
abbrev fn_wheel_Wheel_order : Nat := 37
theorem x_wheel_Wheel_order (a : Addr) (w : World) (R : Ending → World → Prop) (h :
  R (.returned (.func (.func 49) #[] #[(.pointer (some ⟨(w).heap.size, 0, none⟩))])) (w.alloc (.cells #[(.pointer (some a))] 46))) :
    Calls Try.prog 37 #[.pointer (some a)] w R :=
  X.calls_of { isLoc := [], sym := [], loops := [], joins := [] } Try.func37 (by kernel_rfl) h
abbrev fn_wheel_Wheel_order_1 : Nat := 49
theorem x_wheel_Wheel_order_1 (a_0 a_1 a_2 a_3 a_4 a_5 a_6 a_7 a_8 a_9 a_10 a_11 a_12 b_0 b_1 b_2 b_3 b_4 b_5 b_6 b_7 b_8 b_9 b_10 b_11 b_12 : Int) (z0 : Addr) (w : World) (R : Ending → World → Prop) (h :
  ∃ x1 : X.Facts, (X.FactsW x1 w []) ∧
  ∃ q2 : Option Addr, ((z0, [(.pointer (q2))]) ∈ x1) ∧
  X.onSome (q2) fun p3 =>
  ∃ q4 : Option Nat, (((p3.add 0), [(.map (q4))]) ∈ x1) ∧
  ∃ q5 : Option Addr, ((z0, [(.pointer (q5))]) ∈ x1) ∧
  X.onSome (q5) fun p6 =>
  ∃ q7 : Option Nat, (((p6.add 0), [(.map (q7))]) ∈ x1) ∧
  (∀ w8 : World, ∀ L9 : List Nat, (X.Hid [] w w8) →
   (X.NewL (w).heap.size [] w w8 L9) →
   ∃ n10 : Int, ∃ w11 : World, (Sem.run Try.prog (Go.Instr.lookup 72 (.map (q4)) (.agg #[(.int .u8 a_0), (.int .u8 a_1), (.int .u16 a_2), (.int .u8 a_3), (.int .u16 a_4), (.int .u32 a_5), (.int .u8 a_6), (.int .u8 a_7), (.int .u8 a_8), (.int .u8 a_9), (.int .u8 a_10), (.int .u8 a_11), (.int .u8 a_12)]) false) w8 = .ok (.int .i64 n10) w11) ∧
   (X.Kept L9 w8 w11) ∧
   (X.FactsW x1 w11 (L9)) ∧
   ∃ n12 : Int, ∃ w13 : World, (Sem.run Try.prog (Go.Instr.lookup 72 (.map (q7)) (.agg #[(.int .u8 b_0), (.int .u8 b_1), (.int .u16 b_2), (.int .u8 b_3), (.int .u16 b_4), (.int .u32 b_5), (.int .u8 b_6), (.int .u8 b_7), (.int .u8 b_8), (.int .u8 b_9), (.int .u8 b_10), (.int .u8 b_11), (.int .u8 b_12)]) false) w11 = .ok (.int .i64 n12) w13) ∧
   (X.Kept L9 w11 w13) ∧
   (X.FactsW x1 w13 (L9)) ∧
   X.CallX Try.prog 50 #[(.int .i64 n10), (.int .i64 n12)] w13 fun e14 w15 =>
    ∃ n16 : Int, (e14 = .returned (.int .i64 n16)) ∧
    (X.Kept L9 w13 w15) ∧
    (X.FactsW x1 w15 (L9)) ∧
    X.CallX Try.prog 7 #[(.agg #[(.int .u8 a_0), (.int .u8 a_1), (.int .u16 a_2), (.int .u8 a_3), (.int .u16 a_4), (.int .u32 a_5), (.int .u8 a_6), (.int .u8 a_7), (.int .u8 a_8), (.int .u8 a_9), (.int .u8 a_10), (.int .u8 a_11), (.int .u8 a_12)]), (.agg #[(.int .u8 b_0), (.int .u8 b_1), (.int .u16 b_2), (.int .u8 b_3), (.int .u16 b_4), (.int .u32 b_5), (.int .u8 b_6), (.int .u8 b_7), (.int .u8 b_8), (.int .u8 b_9), (.int .u8 b_10), (.int .u8 b_11), (.int .u8 b_12)])] w15 fun e17 w18 =>
     ∃ n19 : Int, (e17 = .returned (.int .i64 n19)) ∧
     (X.Kept L9 w15 w18) ∧
     (X.FactsW x1 w18 (L9)) ∧
     (X.FactsW x1 (w18.alloc (.cells #[(.int .i64 n16), (.int .i64 n19)] 3)) (L9)) ∧
     X.CallX Try.prog 27 #[(.slice (some ⟨(w18).heap.size, 0, none⟩) 2 2)] (w18.alloc (.cells #[(.int .i64 n16), (.int .i64 n19)] 3)) fun e20 w21 =>
      ∃ n22 : Int, (e20 = .returned (.int .i64 n22)) ∧
      (X.Kept L9 (w18.alloc (.cells #[(.int .i64 n16), (.int .i64 n19)] 3)) w21) ∧
      (X.FactsW x1 w21 (L9)) ∧
      R (.returned (.int .i64 n22)) w21) ∧
  ∀ w23 : World, ∀ L24 : List Nat, (X.Hid [] w w23) →
  (X.NewL (w).heap.size [] w w23 L24) →
  ∃ n25 : Int, ∃ w26 : World, (Sem.run Try.prog (Go.Instr.lookup 72 (.map (q7)) (.agg #[(.int .u8 b_0), (.int .u8 b_1), (.int .u16 b_2), (.int .u8 b_3), (.int .u16 b_4), (.int .u32 b_5), (.int .u8 b_6), (.int .u8 b_7), (.int .u8 b_8), (.int .u8 b_9), (.int .u8 b_10), (.int .u8 b_11), (.int .u8 b_12)]) false) w23 = .ok (.int .i64 n25) w26) ∧
  (X.Kept L24 w23 w26) ∧
  (X.FactsW x1 w26 (L24)) ∧
  ∃ n27 : Int, ∃ w28 : World, (Sem.run Try.prog (Go.Instr.lookup 72 (.map (q4)) (.agg #[(.int .u8 a_0), (.int .u8 a_1), (.int .u16 a_2), (.int .u8 a_3), (.int .u16 a_4), (.int .u32 a_5), (.int .u8 a_6), (.int .u8 a_7), (.int .u8 a_8), (.int .u8 a_9), (.int .u8 a_10), (.int .u8 a_11), (.int .u8 a_12)]) false) w26 = .ok (.int .i64 n27) w28) ∧
  (X.Kept L24 w26 w28) ∧
  (X.FactsW x1 w28 (L24)) ∧
  X.CallX Try.prog 50 #[(.int .i64 n27), (.int .i64 n25)] w28 fun e29 w30 =>
   ∃ n31 : Int, (e29 = .returned (.int .i64 n31)) ∧
   (X.Kept L24 w28 w30) ∧
   (X.FactsW x1 w30 (L24)) ∧
   X.CallX Try.prog 7 #[(.agg #[(.int .u8 a_0), (.int .u8 a_1), (.int .u16 a_2), (.int .u8 a_3), (.int .u16 a_4), (.int .u32 a_5), (.int .u8 a_6), (.int .u8 a_7), (.int .u8 a_8), (.int .u8 a_9), (.int .u8 a_10), (.int .u8 a_11), (.int .u8 a_12)]), (.agg #[(.int .u8 b_0), (.int .u8 b_1), (.int .u16 b_2), (.int .u8 b_3), (.int .u16 b_4), (.int .u32 b_5), (.int .u8 b_6), (.int .u8 b_7), (.int .u8 b_8), (.int .u8 b_9), (.int .u8 b_10), (.int .u8 b_11), (.int .u8 b_12)])] w30 fun e32 w33 =>
    ∃ n34 : Int, (e32 = .returned (.int .i64 n34)) ∧
    (X.Kept L24 w30 w33) ∧
    (X.FactsW x1 w33 (L24)) ∧
    (X.FactsW x1 (w33.alloc (.cells #[(.int .i64 n31), (.int .i64 n34)] 3)) (L24)) ∧
    X.CallX Try.prog 27 #[(.slice (some ⟨(w33).heap.size, 0, none⟩) 2 2)] (w33.alloc (.cells #[(.int .i64 n31), (.int .i64 n34)] 3)) fun e35 w36 =>
     ∃ n37 : Int, (e35 = .returned (.int .i64 n37)) ∧
     (X.Kept L24 (w33.alloc (.cells #[(.int .i64 n31), (.int .i64 n34)] 3)) w36) ∧
     (X.FactsW x1 w36 (L24)) ∧
     R (.returned (.int .i64 n37)) w36) :
    Calls Try.prog 49 #[.agg #[.int .u8 a_0, .int .u8 a_1, .int .u16 a_2, .int .u8 a_3, .int .u16 a_4, .int .u32 a_5, .int .u8 a_6, .int .u8 a_7, .int .u8 a_8, .int .u8 a_9, .int .u8 a_10, .int .u8 a_11, .int .u8 a_12], .agg #[.int .u8 b_0, .int .u8 b_1, .int .u16 b_2, .int .u8 b_3, .int .u16 b_4, .int .u32 b_5, .int .u8 b_6, .int .u8 b_7, .int .u8 b_8, .int .u8 b_9, .int .u8 b_10, .int .u8 b_11, .int .u8 b_12], .pointer (some z0)] w R :=
  X.calls_of { isLoc := [3, 4], sym := [], loops := [], joins := [] } Try.func49 (by kernel_rfl) h
end Go.Proofs
