import Derived.Test.YtdlfcgkjjlkmgaaXFn
import Derived.Test.YtdlfcgkjjlkmgaaProg
set_option maxRecDepth 100000
set_option linter.unusedVariables false
/- The verification conditions of this seat's functions, as the engine has them: printed by a program of the bench; checked by the kernel. -/
namespace Go.Proofs
open Go
abbrev fn_ident_Proc_Right : Nat := 62
theorem x_ident_Proc_Right (a_0 a_1 : Int) (w : World) (R : Ending → World → Prop) (h :
  ∀ w1 : World, (X.Hid [] w w1) →
  R (.returned (.bool (decide (a_0 < 16) && decide (a_1 > 0)))) w1) :
    Calls Try.prog 62 #[.agg #[.int .u8 a_0, .int .u16 a_1]] w R :=
  X.calls_of { isLoc := [1], sym := [], loops := [], joins := [] } Try.func62 (by kernel_rfl) h
abbrev fn_ident_ID_Right : Nat := 50
theorem x_ident_ID_Right (a_0 a_1 a_2 a_3 a_4 a_5 a_6 a_7 a_8 a_9 : Int) (w : World) (R : Ending → World → Prop) (h :
  ∀ w1 : World, ∀ L2 : List Nat, (X.Hid [] w w1) →
  (X.NewL (w).heap.size [] w w1 L2) →
  X.CallX Try.prog 62 #[(.agg #[(.int .u8 a_0), (.int .u16 a_1)])] w1 fun e3 w4 =>
   ∃ b5 : Bool, (e3 = .returned (.bool b5)) ∧
   (X.Kept L2 w1 w4) ∧
   if ((((!b5) || (a_2 == 0)) || decide (a_2 > 1048576)) || decide (a_3 > 3)) = true then
    R (.returned (.bool false)) w4
   else
    if ((decide ((0 : Int) < (IntKind.wrap .i64 a_3)) && decide (a_4 ≥ 4)) || ((!decide ((0 : Int) < (IntKind.wrap .i64 a_3))) && (!((a_4 == 0) && (a_5 == 0))))) = true then
     ∀ w9 : World, (X.Hid (L2) w4 w9) →
     R (.returned (.bool false)) w9
    else
     if ((decide ((1 : Int) < (IntKind.wrap .i64 a_3)) && decide (a_6 ≥ 4)) || ((!decide ((1 : Int) < (IntKind.wrap .i64 a_3))) && (!((a_6 == 0) && (a_7 == 0))))) = true then
      ∀ w8 : World, (X.Hid (L2) w4 w8) →
      R (.returned (.bool false)) w8
     else
      if ((decide ((2 : Int) < (IntKind.wrap .i64 a_3)) && decide (a_8 ≥ 4)) || ((!decide ((2 : Int) < (IntKind.wrap .i64 a_3))) && (!((a_8 == 0) && (a_9 == 0))))) = true then
       ∀ w7 : World, (X.Hid (L2) w4 w7) →
       R (.returned (.bool false)) w7
      else
       ∀ w6 : World, (X.Hid (L2) w4 w6) →
       R (.returned (.bool true)) w6) :
    Calls Try.prog 50 #[.agg #[.int .u8 a_0, .int .u16 a_1, .int .u32 a_2, .int .u8 a_3, .int .u8 a_4, .int .u8 a_5, .int .u8 a_6, .int .u8 a_7, .int .u8 a_8, .int .u8 a_9]] w R :=
  X.calls_of { isLoc := [1, 4], sym := [], loops := [(4, .unroll 4)], joins := [] } Try.func50 (by kernel_rfl) h
abbrev fn_gemotlaw02_Proc : Nat := 46
theorem x_gemotlaw02_Proc (a_0 a_1 : Int) (w : World) (R : Ending → World → Prop) (h :
  ∀ w1 : World, (X.Hid [] w w1) →
  R (.returned (.agg #[(.int .u8 a_0), (.int .u16 a_1)])) w1) :
    Calls Try.prog 46 #[.agg #[.int .u8 a_0, .int .u16 a_1]] w R :=
  X.calls_of { isLoc := [1, 2], sym := [], loops := [], joins := [] } Try.func46 (by kernel_rfl) h
abbrev fn_gemotlaw02_ID : Nat := 17
theorem x_gemotlaw02_ID (a_0 a_1 a_2 a_3 a_4 a_5 a_6 a_7 a_8 a_9 : Int) (w : World) (R : Ending → World → Prop) (h :
  ∃ x1 : X.Facts, (X.FactsW x1 w []) ∧
  (∀ w2 : World, ∀ L3 : List Nat, (X.Hid [] w w2) →
   (X.NewL (w).heap.size [] w w2 L3) →
   X.CallX Try.prog 46 #[(.agg #[(.int .u8 a_0), (.int .u16 a_1)])] w2 fun e4 w5 =>
    ∃ n6 : Int, ∃ n7 : Int, (e4 = .returned (.agg #[(.int .u8 n6), (.int .u16 n7)])) ∧
    (X.Kept L3 w2 w5) ∧
    (X.FactsW x1 w5 (L3)) ∧
    ∃ x8 : X.Facts, (X.FactsW x8 w5 (L3)) ∧
    ∃ x9 : X.Facts, (X.FactsW x9 w5 (L3)) ∧
    ∃ x10 : X.Facts, (X.FactsW x10 w5 (L3)) ∧
    ∀ w11 : World, (X.Hid (L3) w5 w11) →
    R (.returned (.agg #[(.int .u8 n6), (.int .u16 n7), (.int .u32 a_2), (.int .u8 a_3), (.int .u8 a_4), (.int .u8 a_5), (.int .u8 a_6), (.int .u8 a_7), (.int .u8 a_8), (.int .u8 a_9)])) w11) ∧
  ∀ w12 : World, ∀ L13 : List Nat, (X.Hid [] w w12) →
  (X.NewL (w).heap.size [] w w12 L13) →
  X.CallX Try.prog 46 #[(.agg #[(.int .u8 a_0), (.int .u16 a_1)])] w12 fun e14 w15 =>
   ∃ n16 : Int, ∃ n17 : Int, (e14 = .returned (.agg #[(.int .u8 n16), (.int .u16 n17)])) ∧
   (X.Kept L13 w12 w15) ∧
   (X.FactsW x1 w15 (L13)) ∧
   ∃ x18 : X.Facts, (X.FactsW x18 w15 (L13)) ∧
   ∃ x19 : X.Facts, (X.FactsW x19 w15 (L13)) ∧
   ∃ x20 : X.Facts, (X.FactsW x20 w15 (L13)) ∧
   ∀ w21 : World, (X.Hid (L13) w15 w21) →
   R (.returned (.agg #[(.int .u8 n16), (.int .u16 n17), (.int .u32 a_2), (.int .u8 a_3), (.int .u8 a_4), (.int .u8 a_5), (.int .u8 a_6), (.int .u8 a_7), (.int .u8 a_8), (.int .u8 a_9)])) w21) :
    Calls Try.prog 17 #[.agg #[.int .u8 a_0, .int .u16 a_1, .int .u32 a_2, .int .u8 a_3, .int .u8 a_4, .int .u8 a_5, .int .u8 a_6, .int .u8 a_7, .int .u8 a_8, .int .u8 a_9]] w R :=
  X.calls_of { isLoc := [1, 2, 3], sym := [], loops := [(3, .unroll 4)], joins := [], stored := [(1, [3]), (5, [3])] } Try.func17 (by kernel_rfl) h
abbrev fn_ident_Compare : Nat := 61
theorem x_ident_Compare (a_0 a_1 a_2 a_3 a_4 a_5 a_6 a_7 a_8 a_9 b_0 b_1 b_2 b_3 b_4 b_5 b_6 b_7 b_8 b_9 : Int) (w : World) (R : Ending → World → Prop) (h :
  ∃ x1 : X.Facts, (X.FactsW x1 ((w.alloc (.cells #[(.int .u8 a_0), (.int .u16 a_1), (.int .u32 a_2), (.int .u8 a_3), (.int .u8 a_4), (.int .u8 a_5), (.int .u8 a_6), (.int .u8 a_7), (.int .u8 a_8), (.int .u8 a_9)] 53)).alloc (.cells #[(.int .u8 b_0), (.int .u16 b_1), (.int .u32 b_2), (.int .u8 b_3), (.int .u8 b_4), (.int .u8 b_5), (.int .u8 b_6), (.int .u8 b_7), (.int .u8 b_8), (.int .u8 b_9)] 53)) []) ∧
  ∃ n2 : Int, ∃ n3 : Int, ∃ n4 : Int, ∃ n5 : Int, ∃ n6 : Int, ∃ n7 : Int, ∃ n8 : Int, ∃ n9 : Int, ∃ n10 : Int, ∃ n11 : Int, ((⟨(w).heap.size, 0, none⟩, [(.int .u8 n2), (.int .u16 n3), (.int .u32 n4), (.int .u8 n5), (.int .u8 n6), (.int .u8 n7), (.int .u8 n8), (.int .u8 n9), (.int .u8 n10), (.int .u8 n11)]) ∈ x1) ∧
  ∃ n12 : Int, ∃ n13 : Int, ∃ n14 : Int, ∃ n15 : Int, ∃ n16 : Int, ∃ n17 : Int, ∃ n18 : Int, ∃ n19 : Int, ∃ n20 : Int, ∃ n21 : Int, ((⟨((w.alloc (.cells #[(.int .u8 a_0), (.int .u16 a_1), (.int .u32 a_2), (.int .u8 a_3), (.int .u8 a_4), (.int .u8 a_5), (.int .u8 a_6), (.int .u8 a_7), (.int .u8 a_8), (.int .u8 a_9)] 53))).heap.size, 0, none⟩, [(.int .u8 n12), (.int .u16 n13), (.int .u32 n14), (.int .u8 n15), (.int .u8 n16), (.int .u8 n17), (.int .u8 n18), (.int .u8 n19), (.int .u8 n20), (.int .u8 n21)]) ∈ x1) ∧
  ∀ w22 : World, (X.Hid [] ((w.alloc (.cells #[(.int .u8 a_0), (.int .u16 a_1), (.int .u32 a_2), (.int .u8 a_3), (.int .u8 a_4), (.int .u8 a_5), (.int .u8 a_6), (.int .u8 a_7), (.int .u8 a_8), (.int .u8 a_9)] 53)).alloc (.cells #[(.int .u8 b_0), (.int .u16 b_1), (.int .u32 b_2), (.int .u8 b_3), (.int .u8 b_4), (.int .u8 b_5), (.int .u8 b_6), (.int .u8 b_7), (.int .u8 b_8), (.int .u8 b_9)] 53)) w22) →
  X.CallX Try.prog 69 #[(.agg #[(.int .u8 n2), (.int .u16 n3), (.int .u32 n4), (.int .u8 n5), (.int .u8 n6), (.int .u8 n7), (.int .u8 n8), (.int .u8 n9), (.int .u8 n10), (.int .u8 n11)])] w22 fun e23 w24 =>
   ∃ q25 : Option Addr, ∃ k26 : Nat, ∃ k27 : Nat, (e23 = .returned (.slice (q25) k26 k27)) ∧
   ((w22).heap.size ≤ (w24).heap.size) ∧
   (X.FactsW x1 w24 []) ∧
   X.CallX Try.prog 69 #[(.agg #[(.int .u8 n12), (.int .u16 n13), (.int .u32 n14), (.int .u8 n15), (.int .u8 n16), (.int .u8 n17), (.int .u8 n18), (.int .u8 n19), (.int .u8 n20), (.int .u8 n21)])] w24 fun e28 w29 =>
    ∃ q30 : Option Addr, ∃ k31 : Nat, ∃ k32 : Nat, (e28 = .returned (.slice (q30) k31 k32)) ∧
    ((w24).heap.size ≤ (w29).heap.size) ∧
    (X.FactsW x1 w29 []) ∧
    ∃ x33 : X.Facts, (X.FactsW x33 w29 []) ∧
    ∃ n34 : Int, ∃ n35 : Int, ((⟨(w).heap.size, 0, none⟩, [(.int .u8 n34), (.int .u16 n35)]) ∈ x33) ∧
    ∃ n36 : Int, ∃ n37 : Int, ((⟨((w.alloc (.cells #[(.int .u8 a_0), (.int .u16 a_1), (.int .u32 a_2), (.int .u8 a_3), (.int .u8 a_4), (.int .u8 a_5), (.int .u8 a_6), (.int .u8 a_7), (.int .u8 a_8), (.int .u8 a_9)] 53))).heap.size, 0, none⟩, [(.int .u8 n36), (.int .u16 n37)]) ∈ x33) ∧
    ∃ n38 : Int, ((⟨(w).heap.size, (0 + 2), none⟩, [(.int .u32 n38)]) ∈ x33) ∧
    ∃ n39 : Int, ((⟨((w.alloc (.cells #[(.int .u8 a_0), (.int .u16 a_1), (.int .u32 a_2), (.int .u8 a_3), (.int .u8 a_4), (.int .u8 a_5), (.int .u8 a_6), (.int .u8 a_7), (.int .u8 a_8), (.int .u8 a_9)] 53))).heap.size, (0 + 2), none⟩, [(.int .u32 n39)]) ∈ x33) ∧
    ((0 : Int) ≤ (if ((k31 : Nat) : Int) < ((k26 : Nat) : Int) then ((k31 : Nat) : Int) else ((k26 : Nat) : Int))) ∧
    ((if ((k31 : Nat) : Int) < ((k26 : Nat) : Int) then ((k31 : Nat) : Int) else ((k26 : Nat) : Int)) ≤ ((k27 : Nat) : Int)) ∧
    ((0 : Int) ≤ (if ((k31 : Nat) : Int) < ((k26 : Nat) : Int) then ((k31 : Nat) : Int) else ((k26 : Nat) : Int))) ∧
    ((if ((k31 : Nat) : Int) < ((k26 : Nat) : Int) then ((k31 : Nat) : Int) else ((k26 : Nat) : Int)) ≤ ((k32 : Nat) : Int)) ∧
    ∃ n40 : Int, ((⟨(w).heap.size, (0 + 3), none⟩, [(.int .u8 n40)]) ∈ x33) ∧
    ∃ n41 : Int, ((⟨((w.alloc (.cells #[(.int .u8 a_0), (.int .u16 a_1), (.int .u32 a_2), (.int .u8 a_3), (.int .u8 a_4), (.int .u8 a_5), (.int .u8 a_6), (.int .u8 a_7), (.int .u8 a_8), (.int .u8 a_9)] 53))).heap.size, (0 + 3), none⟩, [(.int .u8 n41)]) ∈ x33) ∧
    ∀ w42 : World, (X.Hid [] w29 w42) →
    X.CallX Try.prog 71 #[(.agg #[(.int .u8 n34), (.int .u16 n35)]), (.agg #[(.int .u8 n36), (.int .u16 n37)])] w42 fun e43 w44 =>
     ∃ n45 : Int, (e43 = .returned (.int .i64 n45)) ∧
     ((w42).heap.size ≤ (w44).heap.size) ∧
     (X.FactsW x33 w44 []) ∧
     X.CallX Try.prog 72 #[(.int .u32 n38), (.int .u32 n39)] w44 fun e46 w47 =>
      ∃ n48 : Int, (e46 = .returned (.int .i64 n48)) ∧
      ((w44).heap.size ≤ (w47).heap.size) ∧
      (X.FactsW x33 w47 []) ∧
      X.CallX Try.prog 73 #[(.slice (X.cutA (q25) k27 0 2) ((if ((k31 : Nat) : Int) < ((k26 : Nat) : Int) then ((k31 : Nat) : Int) else ((k26 : Nat) : Int))).toNat k27), (.slice (X.cutA (q30) k32 0 2) ((if ((k31 : Nat) : Int) < ((k26 : Nat) : Int) then ((k31 : Nat) : Int) else ((k26 : Nat) : Int))).toNat k32), (.func (.func 74) #[] #[])] w47 fun e49 w50 =>
       ∃ n51 : Int, (e49 = .returned (.int .i64 n51)) ∧
       ((w47).heap.size ≤ (w50).heap.size) ∧
       (X.FactsW x33 w50 []) ∧
       X.CallX Try.prog 75 #[(.int .u8 n40), (.int .u8 n41)] w50 fun e52 w53 =>
        ∃ n54 : Int, (e52 = .returned (.int .i64 n54)) ∧
        ((w50).heap.size ≤ (w53).heap.size) ∧
        (X.FactsW x33 w53 []) ∧
        X.CallX Try.prog 73 #[(.slice (some ⟨(w).heap.size, (0 + 4), none⟩) 3 3), (.slice (some ⟨((w.alloc (.cells #[(.int .u8 a_0), (.int .u16 a_1), (.int .u32 a_2), (.int .u8 a_3), (.int .u8 a_4), (.int .u8 a_5), (.int .u8 a_6), (.int .u8 a_7), (.int .u8 a_8), (.int .u8 a_9)] 53))).heap.size, (0 + 4), none⟩) 3 3), (.func (.func 74) #[] #[])] w53 fun e55 w56 =>
         ∃ n57 : Int, (e55 = .returned (.int .i64 n57)) ∧
         ((w53).heap.size ≤ (w56).heap.size) ∧
         (X.FactsW x33 w56 []) ∧
         (X.FactsW x33 (w56.alloc (.cells #[(.int .i64 n45), (.int .i64 n48), (.int .i64 n51), (.int .i64 n54), (.int .i64 n57)] 3)) []) ∧
         X.CallX Try.prog 70 #[(.slice (some ⟨(w56).heap.size, 0, none⟩) 5 5)] (w56.alloc (.cells #[(.int .i64 n45), (.int .i64 n48), (.int .i64 n51), (.int .i64 n54), (.int .i64 n57)] 3)) fun e58 w59 =>
          ∃ n60 : Int, (e58 = .returned (.int .i64 n60)) ∧
          (((w56.alloc (.cells #[(.int .i64 n45), (.int .i64 n48), (.int .i64 n51), (.int .i64 n54), (.int .i64 n57)] 3))).heap.size ≤ (w59).heap.size) ∧
          (X.FactsW x33 w59 []) ∧
          R (.returned (.int .i64 n60)) w59) :
    Calls Try.prog 61 #[.agg #[.int .u8 a_0, .int .u16 a_1, .int .u32 a_2, .int .u8 a_3, .int .u8 a_4, .int .u8 a_5, .int .u8 a_6, .int .u8 a_7, .int .u8 a_8, .int .u8 a_9], .agg #[.int .u8 b_0, .int .u16 b_1, .int .u32 b_2, .int .u8 b_3, .int .u8 b_4, .int .u8 b_5, .int .u8 b_6, .int .u8 b_7, .int .u8 b_8, .int .u8 b_9]] w R :=
  X.calls_of { isLoc := [], sym := [], loops := [], joins := [] } Try.func61 (by kernel_rfl) h
abbrev fn_ident_CompareProcs : Nat := 71
theorem x_ident_CompareProcs (a_0 a_1 b_0 b_1 : Int) (w : World) (R : Ending → World → Prop) (h :
  ∃ x1 : X.Facts, (X.FactsW x1 w []) ∧
  ∀ w2 : World, ∀ L3 : List Nat, (X.Hid [] w w2) →
  (X.NewL (w).heap.size [] w w2 L3) →
  X.CallX Try.prog 75 #[(.int .u8 a_0), (.int .u8 b_0)] w2 fun e4 w5 =>
   ∃ n6 : Int, (e4 = .returned (.int .i64 n6)) ∧
   (X.Kept L3 w2 w5) ∧
   (X.FactsW x1 w5 (L3)) ∧
   X.CallX Try.prog 80 #[(.int .u16 a_1), (.int .u16 b_1)] w5 fun e7 w8 =>
    ∃ n9 : Int, (e7 = .returned (.int .i64 n9)) ∧
    (X.Kept L3 w5 w8) ∧
    (X.FactsW x1 w8 (L3)) ∧
    (X.FactsW x1 (w8.alloc (.cells #[(.int .i64 n6), (.int .i64 n9)] 3)) (L3)) ∧
    X.CallX Try.prog 70 #[(.slice (some ⟨(w8).heap.size, 0, none⟩) 2 2)] (w8.alloc (.cells #[(.int .i64 n6), (.int .i64 n9)] 3)) fun e10 w11 =>
     ∃ n12 : Int, (e10 = .returned (.int .i64 n12)) ∧
     (X.Kept L3 (w8.alloc (.cells #[(.int .i64 n6), (.int .i64 n9)] 3)) w11) ∧
     (X.FactsW x1 w11 (L3)) ∧
     R (.returned (.int .i64 n12)) w11) :
    Calls Try.prog 71 #[.agg #[.int .u8 a_0, .int .u16 a_1], .agg #[.int .u8 b_0, .int .u16 b_1]] w R :=
  X.calls_of { isLoc := [2, 3], sym := [], loops := [], joins := [] } Try.func71 (by kernel_rfl) h
abbrev fn_gemotref02_CompareProcs : Nat := 55
theorem x_gemotref02_CompareProcs (a_0 a_1 b_0 b_1 : Int) (w : World) (R : Ending → World → Prop) (h :
  if (a_0 != b_0) = true then
   ∀ w6 : World, ∀ L7 : List Nat, (X.Hid [] w w6) →
   (X.NewL (w).heap.size [] w w6 L7) →
   X.CallX Try.prog 56 #[(.int .i64 (IntKind.wrap .i64 a_0)), (.int .i64 (IntKind.wrap .i64 b_0))] w6 fun e8 w9 =>
    ∃ n10 : Int, (e8 = .returned (.int .i64 n10)) ∧
    (X.Kept L7 w6 w9) ∧
    R (.returned (.int .i64 n10)) w9
  else
   ∀ w1 : World, ∀ L2 : List Nat, (X.Hid [] w w1) →
   (X.NewL (w).heap.size [] w w1 L2) →
   X.CallX Try.prog 56 #[(.int .i64 (IntKind.wrap .i64 a_1)), (.int .i64 (IntKind.wrap .i64 b_1))] w1 fun e3 w4 =>
    ∃ n5 : Int, (e3 = .returned (.int .i64 n5)) ∧
    (X.Kept L2 w1 w4) ∧
    R (.returned (.int .i64 n5)) w4) :
    Calls Try.prog 55 #[.agg #[.int .u8 a_0, .int .u16 a_1], .agg #[.int .u8 b_0, .int .u16 b_1]] w R :=
  X.calls_of { isLoc := [2, 3], sym := [], loops := [], joins := [] } Try.func55 (by kernel_rfl) h
abbrev fn_ident_ID_steps : Nat := 69
theorem x_ident_ID_steps (a_0 a_1 a_2 a_3 a_4 a_5 a_6 a_7 a_8 a_9 : Int) (w : World) (R : Ending → World → Prop) (h :
  ∀ w1 : World, ∀ L2 : List Nat, (X.Hid [] w w1) →
  (X.NewL (w).heap.size [] w w1 L2) →
  ((none : Option Nat) = none) ∧
  (World.there (w1.alloc (.cells #[(.int .u8 0), (.int .u8 0), (.int .u8 0), (.int .u8 0), (.int .u8 0), (.int .u8 0)] 51)) (w1).heap.size 0 6) ∧
  (¬ ((w1).heap.size ∈ L2)) ∧
  ((0 : Int) ≤ (if (3 : Int) < (IntKind.wrap .i64 a_3) then 3 else (IntKind.wrap .i64 a_3))) ∧
  ((if (3 : Int) < (IntKind.wrap .i64 a_3) then 3 else (IntKind.wrap .i64 a_3)) ≤ 3) ∧
  R (.returned (.slice (some ⟨(w1).heap.size, 0, none⟩) ((if (3 : Int) < (IntKind.wrap .i64 a_3) then 3 else (IntKind.wrap .i64 a_3))).toNat 3)) ((w1.alloc (.cells #[(.int .u8 0), (.int .u8 0), (.int .u8 0), (.int .u8 0), (.int .u8 0), (.int .u8 0)] 51)).setCells (w1).heap.size 0 [(.int .u8 a_4), (.int .u8 a_5), (.int .u8 a_6), (.int .u8 a_7), (.int .u8 a_8), (.int .u8 a_9)])) :
    Calls Try.prog 69 #[.agg #[.int .u8 a_0, .int .u16 a_1, .int .u32 a_2, .int .u8 a_3, .int .u8 a_4, .int .u8 a_5, .int .u8 a_6, .int .u8 a_7, .int .u8 a_8, .int .u8 a_9]] w R :=
  X.calls_of { isLoc := [1], sym := [], loops := [], joins := [] } Try.func69 (by kernel_rfl) h
abbrev fn_cmp_Or_int : Nat := 70
theorem x_cmp_Or_int (a : Option Addr) (al ac : Nat) (w : World) (R : Ending → World → Prop) (h :
  ∃ x1 : Int → World → List Nat → Prop, ∃ x2 : Int → World → Nat, (x1 0 w []) ∧
  ∀ n3 : Int, ∀ w4 : World, ∀ L5 : List Nat, (X.LF (w).heap.size w4 L5) →
  (x1 n3 w4 L5) →
  if (decide (n3 < ((al : Nat) : Int))) = true then
   ((0 : Int) ≤ n3) ∧
   (n3 < ((al : Nat) : Int)) ∧
   X.onSome (a) fun p6 =>
   ∃ n7 : Int, (World.cell? w4 (p6.add ((n3).toNat * 1)) = some (.int .i64 n7)) ∧
   if (n7 != 0) = true then
    R (.returned (.int .i64 n7)) w4
   else
    (x1 (IntKind.wrap .i64 (n3 + 1)) w4 []) ∧
    Nat.le ((x2 (IntKind.wrap .i64 (n3 + 1)) w4) + 1) (x2 n3 w4)
  else
   R (.returned (.int .i64 0)) w4) :
    Calls Try.prog 70 #[.slice a al ac] w R :=
  X.calls_of { isLoc := [], sym := [], loops := [(3, .inv [(8, .int .i64)] [] true)], joins := [] } Try.func70 (by kernel_rfl) h
abbrev fn_ident_compareSteps : Nat := 74
theorem x_ident_compareSteps (a_0 a_1 b_0 b_1 : Int) (w : World) (R : Ending → World → Prop) (h :
  ∃ x1 : X.Facts, (X.FactsW x1 w []) ∧
  ∀ w2 : World, ∀ L3 : List Nat, (X.Hid [] w w2) →
  (X.NewL (w).heap.size [] w w2 L3) →
  X.CallX Try.prog 75 #[(.int .u8 a_0), (.int .u8 b_0)] w2 fun e4 w5 =>
   ∃ n6 : Int, (e4 = .returned (.int .i64 n6)) ∧
   (X.Kept L3 w2 w5) ∧
   (X.FactsW x1 w5 (L3)) ∧
   X.CallX Try.prog 75 #[(.int .u8 a_1), (.int .u8 b_1)] w5 fun e7 w8 =>
    ∃ n9 : Int, (e7 = .returned (.int .i64 n9)) ∧
    (X.Kept L3 w5 w8) ∧
    (X.FactsW x1 w8 (L3)) ∧
    (X.FactsW x1 (w8.alloc (.cells #[(.int .i64 n6), (.int .i64 n9)] 3)) (L3)) ∧
    X.CallX Try.prog 70 #[(.slice (some ⟨(w8).heap.size, 0, none⟩) 2 2)] (w8.alloc (.cells #[(.int .i64 n6), (.int .i64 n9)] 3)) fun e10 w11 =>
     ∃ n12 : Int, (e10 = .returned (.int .i64 n12)) ∧
     (X.Kept L3 (w8.alloc (.cells #[(.int .i64 n6), (.int .i64 n9)] 3)) w11) ∧
     (X.FactsW x1 w11 (L3)) ∧
     R (.returned (.int .i64 n12)) w11) :
    Calls Try.prog 74 #[.agg #[.int .u8 a_0, .int .u8 a_1], .agg #[.int .u8 b_0, .int .u8 b_1]] w R :=
  X.calls_of { isLoc := [2, 3], sym := [], loops := [], joins := [] } Try.func74 (by kernel_rfl) h
abbrev fn_cmp_Compare_uint8 : Nat := 75
theorem x_cmp_Compare_uint8 (a b : Int) (w : World) (R : Ending → World → Prop) (h :
  X.CallX Try.prog 82 #[(.int .u8 a)] w fun e1 w2 =>
   ∃ b3 : Bool, (e1 = .returned (.bool b3)) ∧
   ((w).heap.size ≤ (w2).heap.size) ∧
   X.CallX Try.prog 82 #[(.int .u8 b)] w2 fun e4 w5 =>
    ∃ b6 : Bool, (e4 = .returned (.bool b6)) ∧
    ((w2).heap.size ≤ (w5).heap.size) ∧
    if b3 = true then
     if b6 = true then
      R (.returned (.int .i64 0)) w5
     else
      R (.returned (.int .i64 (-1))) w5
    else
     if b6 = true then
      R (.returned (.int .i64 1)) w5
     else
      if (decide (a < b)) = true then
       R (.returned (.int .i64 (-1))) w5
      else
       if (decide (a > b)) = true then
        R (.returned (.int .i64 1)) w5
       else
        R (.returned (.int .i64 0)) w5) :
    Calls Try.prog 75 #[.int .u8 a, .int .u8 b] w R :=
  X.calls_of { isLoc := [], sym := [], loops := [], joins := [] } Try.func75 (by kernel_rfl) h
abbrev fn_cmp_Compare_uint16 : Nat := 80
theorem x_cmp_Compare_uint16 (a b : Int) (w : World) (R : Ending → World → Prop) (h :
  X.CallX Try.prog 93 #[(.int .u16 a)] w fun e1 w2 =>
   ∃ b3 : Bool, (e1 = .returned (.bool b3)) ∧
   ((w).heap.size ≤ (w2).heap.size) ∧
   X.CallX Try.prog 93 #[(.int .u16 b)] w2 fun e4 w5 =>
    ∃ b6 : Bool, (e4 = .returned (.bool b6)) ∧
    ((w2).heap.size ≤ (w5).heap.size) ∧
    if b3 = true then
     if b6 = true then
      R (.returned (.int .i64 0)) w5
     else
      R (.returned (.int .i64 (-1))) w5
    else
     if b6 = true then
      R (.returned (.int .i64 1)) w5
     else
      if (decide (a < b)) = true then
       R (.returned (.int .i64 (-1))) w5
      else
       if (decide (a > b)) = true then
        R (.returned (.int .i64 1)) w5
       else
        R (.returned (.int .i64 0)) w5) :
    Calls Try.prog 80 #[.int .u16 a, .int .u16 b] w R :=
  X.calls_of { isLoc := [], sym := [], loops := [], joins := [] } Try.func80 (by kernel_rfl) h
abbrev fn_cmp_Compare_uint32 : Nat := 72
theorem x_cmp_Compare_uint32 (a b : Int) (w : World) (R : Ending → World → Prop) (h :
  X.CallX Try.prog 81 #[(.int .u32 a)] w fun e1 w2 =>
   ∃ b3 : Bool, (e1 = .returned (.bool b3)) ∧
   ((w).heap.size ≤ (w2).heap.size) ∧
   X.CallX Try.prog 81 #[(.int .u32 b)] w2 fun e4 w5 =>
    ∃ b6 : Bool, (e4 = .returned (.bool b6)) ∧
    ((w2).heap.size ≤ (w5).heap.size) ∧
    if b3 = true then
     if b6 = true then
      R (.returned (.int .i64 0)) w5
     else
      R (.returned (.int .i64 (-1))) w5
    else
     if b6 = true then
      R (.returned (.int .i64 1)) w5
     else
      if (decide (a < b)) = true then
       R (.returned (.int .i64 (-1))) w5
      else
       if (decide (a > b)) = true then
        R (.returned (.int .i64 1)) w5
       else
        R (.returned (.int .i64 0)) w5) :
    Calls Try.prog 72 #[.int .u32 a, .int .u32 b] w R :=
  X.calls_of { isLoc := [], sym := [], loops := [], joins := [] } Try.func72 (by kernel_rfl) h
abbrev fn_gemotref02_number : Nat := 56
theorem x_gemotref02_number (a b : Int) (w : World) (R : Ending → World → Prop) (h :
  if (decide (a < b)) = true then
   R (.returned (.int .i64 (-1))) w
  else
   if (decide (a > b)) = true then
    R (.returned (.int .i64 1)) w
   else
    R (.returned (.int .i64 0)) w) :
    Calls Try.prog 56 #[.int .i64 a, .int .i64 b] w R :=
  X.calls_of { isLoc := [], sym := [], loops := [], joins := [] } Try.func56 (by kernel_rfl) h
abbrev fn_slices_CompareFunc_ident_Step_ident_Step_ident_Step_ident_Step : Nat := 73
theorem x_slices_CompareFunc_ident_Step_ident_Step_ident_Step_ident_Step (a : Option Addr) (al ac : Nat) (b : Option Addr) (bl bc : Nat) (w : World) (R : Ending → World → Prop) (h :
  ∃ x1 : Int → World → List Nat → Prop, ∃ x2 : Int → World → Nat, (x1 0 w []) ∧
  ∀ n3 : Int, ∀ w4 : World, ∀ L5 : List Nat, (X.LF (w).heap.size w4 L5) →
  (x1 n3 w4 L5) →
  if (decide (n3 < ((al : Nat) : Int))) = true then
   ((0 : Int) ≤ n3) ∧
   (n3 < ((al : Nat) : Int)) ∧
   X.onSome (a) fun p6 =>
   ∃ n7 : Int, ∃ n8 : Int, (X.Cells w4 (p6.add ((n3).toNat * 2)) [(.int .u8 n7), (.int .u8 n8)]) ∧
   if (decide (n3 ≥ ((bl : Nat) : Int))) = true then
    ∀ w17 : World, (X.Hid [] w4 w17) →
    R (.returned (.int .i64 1)) w17
   else
    ((0 : Int) ≤ n3) ∧
    (n3 < ((bl : Nat) : Int)) ∧
    X.onSome (b) fun p9 =>
    ∃ n10 : Int, ∃ n11 : Int, (X.Cells w4 (p9.add ((n3).toNat * 2)) [(.int .u8 n10), (.int .u8 n11)]) ∧
    ∀ w12 : World, ∀ L13 : List Nat, (X.Hid [] w4 w12) →
    (X.NewL (w).heap.size [] w4 w12 L13) →
    X.CallX Try.prog (OfNat.ofNat 74) #[(.agg #[(.int .u8 n7), (.int .u8 n8)]), (.agg #[(.int .u8 n10), (.int .u8 n11)])] w12 fun e14 w15 =>
     ∃ n16 : Int, (e14 = .returned (.int .i64 n16)) ∧
     (X.Kept L13 w12 w15) ∧
     if (n16 != 0) = true then
      R (.returned (.int .i64 n16)) w15
     else
      (x1 (IntKind.wrap .i64 (n3 + 1)) w15 (L13)) ∧
      Nat.le ((x2 (IntKind.wrap .i64 (n3 + 1)) w15) + 1) (x2 n3 w4)
  else
   if (decide (((al : Nat) : Int) < ((bl : Nat) : Int))) = true then
    R (.returned (.int .i64 (-1))) w4
   else
    R (.returned (.int .i64 0)) w4) :
    Calls Try.prog 73 #[.slice a al ac, .slice b bl bc, .func (.func 74) #[] #[]] w R :=
  X.calls_of { isLoc := [8, 9], sym := [], loops := [(2, .inv [(13, .int .i64)] [] true)], joins := [] } Try.func73 (by kernel_rfl) h
abbrev fn_gemotref02_Compare : Nat := 35
theorem x_gemotref02_Compare (a_0 a_1 a_2 a_3 a_4 a_5 a_6 a_7 a_8 a_9 b_0 b_1 b_2 b_3 b_4 b_5 b_6 b_7 b_8 b_9 : Int) (w : World) (R : Ending → World → Prop) (h :
  ∀ w1 : World, ∀ L2 : List Nat, (X.Hid [] w w1) →
  (X.NewL (w).heap.size [] w w1 L2) →
  X.CallX Try.prog 55 #[(.agg #[(.int .u8 a_0), (.int .u16 a_1)]), (.agg #[(.int .u8 b_0), (.int .u16 b_1)])] w1 fun e3 w4 =>
   ∃ n5 : Int, (e3 = .returned (.int .i64 n5)) ∧
   (X.Kept L2 w1 w4) ∧
   if (n5 != 0) = true then
    R (.returned (.int .i64 n5)) w4
   else
    if (a_2 != b_2) = true then
     X.CallX Try.prog 56 #[(.int .i64 (IntKind.wrap .i64 a_2)), (.int .i64 (IntKind.wrap .i64 b_2))] w4 fun e208 w209 =>
      ∃ n210 : Int, (e208 = .returned (.int .i64 n210)) ∧
      (X.Kept L2 w4 w209) ∧
      R (.returned (.int .i64 n210)) w209
    else
     if ((true && decide ((0 : Int) < (IntKind.wrap .i64 a_3))) && decide ((0 : Int) < (IntKind.wrap .i64 b_3))) = true then
      if (a_4 != b_4) = true then
       ∃ x202 : X.Facts, (X.FactsW x202 w4 (L2)) ∧
       ∀ w203 : World, ∀ L204 : List Nat, (X.Hid (L2) w4 w203) →
       (X.NewL (w).heap.size (L2) w4 w203 L204) →
       X.CallX Try.prog 56 #[(.int .i64 (IntKind.wrap .i64 a_4)), (.int .i64 (IntKind.wrap .i64 b_4))] w203 fun e205 w206 =>
        ∃ n207 : Int, (e205 = .returned (.int .i64 n207)) ∧
        (X.Kept L204 w203 w206) ∧
        (X.FactsW x202 w206 (L204)) ∧
        R (.returned (.int .i64 n207)) w206
      else
       if (a_5 != b_5) = true then
        ∃ x196 : X.Facts, (X.FactsW x196 w4 (L2)) ∧
        ∀ w197 : World, ∀ L198 : List Nat, (X.Hid (L2) w4 w197) →
        (X.NewL (w).heap.size (L2) w4 w197 L198) →
        X.CallX Try.prog 56 #[(.int .i64 (IntKind.wrap .i64 a_5)), (.int .i64 (IntKind.wrap .i64 b_5))] w197 fun e199 w200 =>
         ∃ n201 : Int, (e199 = .returned (.int .i64 n201)) ∧
         (X.Kept L198 w197 w200) ∧
         (X.FactsW x196 w200 (L198)) ∧
         R (.returned (.int .i64 n201)) w200
       else
        if ((true && decide ((1 : Int) < (IntKind.wrap .i64 a_3))) && decide ((1 : Int) < (IntKind.wrap .i64 b_3))) = true then
         if (a_6 != b_6) = true then
          ∃ x190 : X.Facts, (X.FactsW x190 w4 (L2)) ∧
          ∀ w191 : World, ∀ L192 : List Nat, (X.Hid (L2) w4 w191) →
          (X.NewL (w).heap.size (L2) w4 w191 L192) →
          X.CallX Try.prog 56 #[(.int .i64 (IntKind.wrap .i64 a_6)), (.int .i64 (IntKind.wrap .i64 b_6))] w191 fun e193 w194 =>
           ∃ n195 : Int, (e193 = .returned (.int .i64 n195)) ∧
           (X.Kept L192 w191 w194) ∧
           (X.FactsW x190 w194 (L192)) ∧
           R (.returned (.int .i64 n195)) w194
         else
          if (a_7 != b_7) = true then
           ∃ x184 : X.Facts, (X.FactsW x184 w4 (L2)) ∧
           ∀ w185 : World, ∀ L186 : List Nat, (X.Hid (L2) w4 w185) →
           (X.NewL (w).heap.size (L2) w4 w185 L186) →
           X.CallX Try.prog 56 #[(.int .i64 (IntKind.wrap .i64 a_7)), (.int .i64 (IntKind.wrap .i64 b_7))] w185 fun e187 w188 =>
            ∃ n189 : Int, (e187 = .returned (.int .i64 n189)) ∧
            (X.Kept L186 w185 w188) ∧
            (X.FactsW x184 w188 (L186)) ∧
            R (.returned (.int .i64 n189)) w188
          else
           if ((true && decide ((2 : Int) < (IntKind.wrap .i64 a_3))) && decide ((2 : Int) < (IntKind.wrap .i64 b_3))) = true then
            if (a_8 != b_8) = true then
             ∃ x178 : X.Facts, (X.FactsW x178 w4 (L2)) ∧
             ∀ w179 : World, ∀ L180 : List Nat, (X.Hid (L2) w4 w179) →
             (X.NewL (w).heap.size (L2) w4 w179 L180) →
             X.CallX Try.prog 56 #[(.int .i64 (IntKind.wrap .i64 a_8)), (.int .i64 (IntKind.wrap .i64 b_8))] w179 fun e181 w182 =>
              ∃ n183 : Int, (e181 = .returned (.int .i64 n183)) ∧
              (X.Kept L180 w179 w182) ∧
              (X.FactsW x178 w182 (L180)) ∧
              R (.returned (.int .i64 n183)) w182
            else
             if (a_9 != b_9) = true then
              ∃ x172 : X.Facts, (X.FactsW x172 w4 (L2)) ∧
              ∀ w173 : World, ∀ L174 : List Nat, (X.Hid (L2) w4 w173) →
              (X.NewL (w).heap.size (L2) w4 w173 L174) →
              X.CallX Try.prog 56 #[(.int .i64 (IntKind.wrap .i64 a_9)), (.int .i64 (IntKind.wrap .i64 b_9))] w173 fun e175 w176 =>
               ∃ n177 : Int, (e175 = .returned (.int .i64 n177)) ∧
               (X.Kept L174 w173 w176) ∧
               (X.FactsW x172 w176 (L174)) ∧
               R (.returned (.int .i64 n177)) w176
             else
              if (a_3 != b_3) = true then
               ∀ w167 : World, ∀ L168 : List Nat, (X.Hid (L2) w4 w167) →
               (X.NewL (w).heap.size (L2) w4 w167 L168) →
               X.CallX Try.prog 56 #[(.int .i64 (IntKind.wrap .i64 a_3)), (.int .i64 (IntKind.wrap .i64 b_3))] w167 fun e169 w170 =>
                ∃ n171 : Int, (e169 = .returned (.int .i64 n171)) ∧
                (X.Kept L168 w167 w170) ∧
                R (.returned (.int .i64 n171)) w170
              else
               if (a_4 != b_4) = true then
                ∃ x161 : X.Facts, (X.FactsW x161 w4 (L2)) ∧
                ∀ w162 : World, ∀ L163 : List Nat, (X.Hid (L2) w4 w162) →
                (X.NewL (w).heap.size (L2) w4 w162 L163) →
                X.CallX Try.prog 56 #[(.int .i64 (IntKind.wrap .i64 a_4)), (.int .i64 (IntKind.wrap .i64 b_4))] w162 fun e164 w165 =>
                 ∃ n166 : Int, (e164 = .returned (.int .i64 n166)) ∧
                 (X.Kept L163 w162 w165) ∧
                 (X.FactsW x161 w165 (L163)) ∧
                 R (.returned (.int .i64 n166)) w165
               else
                if (a_5 != b_5) = true then
                 ∃ x155 : X.Facts, (X.FactsW x155 w4 (L2)) ∧
                 ∀ w156 : World, ∀ L157 : List Nat, (X.Hid (L2) w4 w156) →
                 (X.NewL (w).heap.size (L2) w4 w156 L157) →
                 X.CallX Try.prog 56 #[(.int .i64 (IntKind.wrap .i64 a_5)), (.int .i64 (IntKind.wrap .i64 b_5))] w156 fun e158 w159 =>
                  ∃ n160 : Int, (e158 = .returned (.int .i64 n160)) ∧
                  (X.Kept L157 w156 w159) ∧
                  (X.FactsW x155 w159 (L157)) ∧
                  R (.returned (.int .i64 n160)) w159
                else
                 if (a_6 != b_6) = true then
                  ∃ x149 : X.Facts, (X.FactsW x149 w4 (L2)) ∧
                  ∀ w150 : World, ∀ L151 : List Nat, (X.Hid (L2) w4 w150) →
                  (X.NewL (w).heap.size (L2) w4 w150 L151) →
                  X.CallX Try.prog 56 #[(.int .i64 (IntKind.wrap .i64 a_6)), (.int .i64 (IntKind.wrap .i64 b_6))] w150 fun e152 w153 =>
                   ∃ n154 : Int, (e152 = .returned (.int .i64 n154)) ∧
                   (X.Kept L151 w150 w153) ∧
                   (X.FactsW x149 w153 (L151)) ∧
                   R (.returned (.int .i64 n154)) w153
                 else
                  if (a_7 != b_7) = true then
                   ∃ x143 : X.Facts, (X.FactsW x143 w4 (L2)) ∧
                   ∀ w144 : World, ∀ L145 : List Nat, (X.Hid (L2) w4 w144) →
                   (X.NewL (w).heap.size (L2) w4 w144 L145) →
                   X.CallX Try.prog 56 #[(.int .i64 (IntKind.wrap .i64 a_7)), (.int .i64 (IntKind.wrap .i64 b_7))] w144 fun e146 w147 =>
                    ∃ n148 : Int, (e146 = .returned (.int .i64 n148)) ∧
                    (X.Kept L145 w144 w147) ∧
                    (X.FactsW x143 w147 (L145)) ∧
                    R (.returned (.int .i64 n148)) w147
                  else
                   if (a_8 != b_8) = true then
                    ∃ x137 : X.Facts, (X.FactsW x137 w4 (L2)) ∧
                    ∀ w138 : World, ∀ L139 : List Nat, (X.Hid (L2) w4 w138) →
                    (X.NewL (w).heap.size (L2) w4 w138 L139) →
                    X.CallX Try.prog 56 #[(.int .i64 (IntKind.wrap .i64 a_8)), (.int .i64 (IntKind.wrap .i64 b_8))] w138 fun e140 w141 =>
                     ∃ n142 : Int, (e140 = .returned (.int .i64 n142)) ∧
                     (X.Kept L139 w138 w141) ∧
                     (X.FactsW x137 w141 (L139)) ∧
                     R (.returned (.int .i64 n142)) w141
                   else
                    if (a_9 != b_9) = true then
                     ∃ x131 : X.Facts, (X.FactsW x131 w4 (L2)) ∧
                     ∀ w132 : World, ∀ L133 : List Nat, (X.Hid (L2) w4 w132) →
                     (X.NewL (w).heap.size (L2) w4 w132 L133) →
                     X.CallX Try.prog 56 #[(.int .i64 (IntKind.wrap .i64 a_9)), (.int .i64 (IntKind.wrap .i64 b_9))] w132 fun e134 w135 =>
                      ∃ n136 : Int, (e134 = .returned (.int .i64 n136)) ∧
                      (X.Kept L133 w132 w135) ∧
                      (X.FactsW x131 w135 (L133)) ∧
                      R (.returned (.int .i64 n136)) w135
                    else
                     ∀ w130 : World, (X.Hid (L2) w4 w130) →
                     R (.returned (.int .i64 0)) w130
           else
            if (a_3 != b_3) = true then
             ∀ w125 : World, ∀ L126 : List Nat, (X.Hid (L2) w4 w125) →
             (X.NewL (w).heap.size (L2) w4 w125 L126) →
             X.CallX Try.prog 56 #[(.int .i64 (IntKind.wrap .i64 a_3)), (.int .i64 (IntKind.wrap .i64 b_3))] w125 fun e127 w128 =>
              ∃ n129 : Int, (e127 = .returned (.int .i64 n129)) ∧
              (X.Kept L126 w125 w128) ∧
              R (.returned (.int .i64 n129)) w128
            else
             if (a_4 != b_4) = true then
              ∃ x119 : X.Facts, (X.FactsW x119 w4 (L2)) ∧
              ∀ w120 : World, ∀ L121 : List Nat, (X.Hid (L2) w4 w120) →
              (X.NewL (w).heap.size (L2) w4 w120 L121) →
              X.CallX Try.prog 56 #[(.int .i64 (IntKind.wrap .i64 a_4)), (.int .i64 (IntKind.wrap .i64 b_4))] w120 fun e122 w123 =>
               ∃ n124 : Int, (e122 = .returned (.int .i64 n124)) ∧
               (X.Kept L121 w120 w123) ∧
               (X.FactsW x119 w123 (L121)) ∧
               R (.returned (.int .i64 n124)) w123
             else
              if (a_5 != b_5) = true then
               ∃ x113 : X.Facts, (X.FactsW x113 w4 (L2)) ∧
               ∀ w114 : World, ∀ L115 : List Nat, (X.Hid (L2) w4 w114) →
               (X.NewL (w).heap.size (L2) w4 w114 L115) →
               X.CallX Try.prog 56 #[(.int .i64 (IntKind.wrap .i64 a_5)), (.int .i64 (IntKind.wrap .i64 b_5))] w114 fun e116 w117 =>
                ∃ n118 : Int, (e116 = .returned (.int .i64 n118)) ∧
                (X.Kept L115 w114 w117) ∧
                (X.FactsW x113 w117 (L115)) ∧
                R (.returned (.int .i64 n118)) w117
              else
               if (a_6 != b_6) = true then
                ∃ x107 : X.Facts, (X.FactsW x107 w4 (L2)) ∧
                ∀ w108 : World, ∀ L109 : List Nat, (X.Hid (L2) w4 w108) →
                (X.NewL (w).heap.size (L2) w4 w108 L109) →
                X.CallX Try.prog 56 #[(.int .i64 (IntKind.wrap .i64 a_6)), (.int .i64 (IntKind.wrap .i64 b_6))] w108 fun e110 w111 =>
                 ∃ n112 : Int, (e110 = .returned (.int .i64 n112)) ∧
                 (X.Kept L109 w108 w111) ∧
                 (X.FactsW x107 w111 (L109)) ∧
                 R (.returned (.int .i64 n112)) w111
               else
                if (a_7 != b_7) = true then
                 ∃ x101 : X.Facts, (X.FactsW x101 w4 (L2)) ∧
                 ∀ w102 : World, ∀ L103 : List Nat, (X.Hid (L2) w4 w102) →
                 (X.NewL (w).heap.size (L2) w4 w102 L103) →
                 X.CallX Try.prog 56 #[(.int .i64 (IntKind.wrap .i64 a_7)), (.int .i64 (IntKind.wrap .i64 b_7))] w102 fun e104 w105 =>
                  ∃ n106 : Int, (e104 = .returned (.int .i64 n106)) ∧
                  (X.Kept L103 w102 w105) ∧
                  (X.FactsW x101 w105 (L103)) ∧
                  R (.returned (.int .i64 n106)) w105
                else
                 if (a_8 != b_8) = true then
                  ∃ x95 : X.Facts, (X.FactsW x95 w4 (L2)) ∧
                  ∀ w96 : World, ∀ L97 : List Nat, (X.Hid (L2) w4 w96) →
                  (X.NewL (w).heap.size (L2) w4 w96 L97) →
                  X.CallX Try.prog 56 #[(.int .i64 (IntKind.wrap .i64 a_8)), (.int .i64 (IntKind.wrap .i64 b_8))] w96 fun e98 w99 =>
                   ∃ n100 : Int, (e98 = .returned (.int .i64 n100)) ∧
                   (X.Kept L97 w96 w99) ∧
                   (X.FactsW x95 w99 (L97)) ∧
                   R (.returned (.int .i64 n100)) w99
                 else
                  if (a_9 != b_9) = true then
                   ∃ x89 : X.Facts, (X.FactsW x89 w4 (L2)) ∧
                   ∀ w90 : World, ∀ L91 : List Nat, (X.Hid (L2) w4 w90) →
                   (X.NewL (w).heap.size (L2) w4 w90 L91) →
                   X.CallX Try.prog 56 #[(.int .i64 (IntKind.wrap .i64 a_9)), (.int .i64 (IntKind.wrap .i64 b_9))] w90 fun e92 w93 =>
                    ∃ n94 : Int, (e92 = .returned (.int .i64 n94)) ∧
                    (X.Kept L91 w90 w93) ∧
                    (X.FactsW x89 w93 (L91)) ∧
                    R (.returned (.int .i64 n94)) w93
                  else
                   ∀ w88 : World, (X.Hid (L2) w4 w88) →
                   R (.returned (.int .i64 0)) w88
        else
         if (a_3 != b_3) = true then
          ∀ w83 : World, ∀ L84 : List Nat, (X.Hid (L2) w4 w83) →
          (X.NewL (w).heap.size (L2) w4 w83 L84) →
          X.CallX Try.prog 56 #[(.int .i64 (IntKind.wrap .i64 a_3)), (.int .i64 (IntKind.wrap .i64 b_3))] w83 fun e85 w86 =>
           ∃ n87 : Int, (e85 = .returned (.int .i64 n87)) ∧
           (X.Kept L84 w83 w86) ∧
           R (.returned (.int .i64 n87)) w86
         else
          if (a_4 != b_4) = true then
           ∃ x77 : X.Facts, (X.FactsW x77 w4 (L2)) ∧
           ∀ w78 : World, ∀ L79 : List Nat, (X.Hid (L2) w4 w78) →
           (X.NewL (w).heap.size (L2) w4 w78 L79) →
           X.CallX Try.prog 56 #[(.int .i64 (IntKind.wrap .i64 a_4)), (.int .i64 (IntKind.wrap .i64 b_4))] w78 fun e80 w81 =>
            ∃ n82 : Int, (e80 = .returned (.int .i64 n82)) ∧
            (X.Kept L79 w78 w81) ∧
            (X.FactsW x77 w81 (L79)) ∧
            R (.returned (.int .i64 n82)) w81
          else
           if (a_5 != b_5) = true then
            ∃ x71 : X.Facts, (X.FactsW x71 w4 (L2)) ∧
            ∀ w72 : World, ∀ L73 : List Nat, (X.Hid (L2) w4 w72) →
            (X.NewL (w).heap.size (L2) w4 w72 L73) →
            X.CallX Try.prog 56 #[(.int .i64 (IntKind.wrap .i64 a_5)), (.int .i64 (IntKind.wrap .i64 b_5))] w72 fun e74 w75 =>
             ∃ n76 : Int, (e74 = .returned (.int .i64 n76)) ∧
             (X.Kept L73 w72 w75) ∧
             (X.FactsW x71 w75 (L73)) ∧
             R (.returned (.int .i64 n76)) w75
           else
            if (a_6 != b_6) = true then
             ∃ x65 : X.Facts, (X.FactsW x65 w4 (L2)) ∧
             ∀ w66 : World, ∀ L67 : List Nat, (X.Hid (L2) w4 w66) →
             (X.NewL (w).heap.size (L2) w4 w66 L67) →
             X.CallX Try.prog 56 #[(.int .i64 (IntKind.wrap .i64 a_6)), (.int .i64 (IntKind.wrap .i64 b_6))] w66 fun e68 w69 =>
              ∃ n70 : Int, (e68 = .returned (.int .i64 n70)) ∧
              (X.Kept L67 w66 w69) ∧
              (X.FactsW x65 w69 (L67)) ∧
              R (.returned (.int .i64 n70)) w69
            else
             if (a_7 != b_7) = true then
              ∃ x59 : X.Facts, (X.FactsW x59 w4 (L2)) ∧
              ∀ w60 : World, ∀ L61 : List Nat, (X.Hid (L2) w4 w60) →
              (X.NewL (w).heap.size (L2) w4 w60 L61) →
              X.CallX Try.prog 56 #[(.int .i64 (IntKind.wrap .i64 a_7)), (.int .i64 (IntKind.wrap .i64 b_7))] w60 fun e62 w63 =>
               ∃ n64 : Int, (e62 = .returned (.int .i64 n64)) ∧
               (X.Kept L61 w60 w63) ∧
               (X.FactsW x59 w63 (L61)) ∧
               R (.returned (.int .i64 n64)) w63
             else
              if (a_8 != b_8) = true then
               ∃ x53 : X.Facts, (X.FactsW x53 w4 (L2)) ∧
               ∀ w54 : World, ∀ L55 : List Nat, (X.Hid (L2) w4 w54) →
               (X.NewL (w).heap.size (L2) w4 w54 L55) →
               X.CallX Try.prog 56 #[(.int .i64 (IntKind.wrap .i64 a_8)), (.int .i64 (IntKind.wrap .i64 b_8))] w54 fun e56 w57 =>
                ∃ n58 : Int, (e56 = .returned (.int .i64 n58)) ∧
                (X.Kept L55 w54 w57) ∧
                (X.FactsW x53 w57 (L55)) ∧
                R (.returned (.int .i64 n58)) w57
              else
               if (a_9 != b_9) = true then
                ∃ x47 : X.Facts, (X.FactsW x47 w4 (L2)) ∧
                ∀ w48 : World, ∀ L49 : List Nat, (X.Hid (L2) w4 w48) →
                (X.NewL (w).heap.size (L2) w4 w48 L49) →
                X.CallX Try.prog 56 #[(.int .i64 (IntKind.wrap .i64 a_9)), (.int .i64 (IntKind.wrap .i64 b_9))] w48 fun e50 w51 =>
                 ∃ n52 : Int, (e50 = .returned (.int .i64 n52)) ∧
                 (X.Kept L49 w48 w51) ∧
                 (X.FactsW x47 w51 (L49)) ∧
                 R (.returned (.int .i64 n52)) w51
               else
                ∀ w46 : World, (X.Hid (L2) w4 w46) →
                R (.returned (.int .i64 0)) w46
     else
      if (a_3 != b_3) = true then
       X.CallX Try.prog 56 #[(.int .i64 (IntKind.wrap .i64 a_3)), (.int .i64 (IntKind.wrap .i64 b_3))] w4 fun e43 w44 =>
        ∃ n45 : Int, (e43 = .returned (.int .i64 n45)) ∧
        (X.Kept L2 w4 w44) ∧
        R (.returned (.int .i64 n45)) w44
      else
       if (a_4 != b_4) = true then
        ∃ x37 : X.Facts, (X.FactsW x37 w4 (L2)) ∧
        ∀ w38 : World, ∀ L39 : List Nat, (X.Hid (L2) w4 w38) →
        (X.NewL (w).heap.size (L2) w4 w38 L39) →
        X.CallX Try.prog 56 #[(.int .i64 (IntKind.wrap .i64 a_4)), (.int .i64 (IntKind.wrap .i64 b_4))] w38 fun e40 w41 =>
         ∃ n42 : Int, (e40 = .returned (.int .i64 n42)) ∧
         (X.Kept L39 w38 w41) ∧
         (X.FactsW x37 w41 (L39)) ∧
         R (.returned (.int .i64 n42)) w41
       else
        if (a_5 != b_5) = true then
         ∃ x31 : X.Facts, (X.FactsW x31 w4 (L2)) ∧
         ∀ w32 : World, ∀ L33 : List Nat, (X.Hid (L2) w4 w32) →
         (X.NewL (w).heap.size (L2) w4 w32 L33) →
         X.CallX Try.prog 56 #[(.int .i64 (IntKind.wrap .i64 a_5)), (.int .i64 (IntKind.wrap .i64 b_5))] w32 fun e34 w35 =>
          ∃ n36 : Int, (e34 = .returned (.int .i64 n36)) ∧
          (X.Kept L33 w32 w35) ∧
          (X.FactsW x31 w35 (L33)) ∧
          R (.returned (.int .i64 n36)) w35
        else
         if (a_6 != b_6) = true then
          ∃ x25 : X.Facts, (X.FactsW x25 w4 (L2)) ∧
          ∀ w26 : World, ∀ L27 : List Nat, (X.Hid (L2) w4 w26) →
          (X.NewL (w).heap.size (L2) w4 w26 L27) →
          X.CallX Try.prog 56 #[(.int .i64 (IntKind.wrap .i64 a_6)), (.int .i64 (IntKind.wrap .i64 b_6))] w26 fun e28 w29 =>
           ∃ n30 : Int, (e28 = .returned (.int .i64 n30)) ∧
           (X.Kept L27 w26 w29) ∧
           (X.FactsW x25 w29 (L27)) ∧
           R (.returned (.int .i64 n30)) w29
         else
          if (a_7 != b_7) = true then
           ∃ x19 : X.Facts, (X.FactsW x19 w4 (L2)) ∧
           ∀ w20 : World, ∀ L21 : List Nat, (X.Hid (L2) w4 w20) →
           (X.NewL (w).heap.size (L2) w4 w20 L21) →
           X.CallX Try.prog 56 #[(.int .i64 (IntKind.wrap .i64 a_7)), (.int .i64 (IntKind.wrap .i64 b_7))] w20 fun e22 w23 =>
            ∃ n24 : Int, (e22 = .returned (.int .i64 n24)) ∧
            (X.Kept L21 w20 w23) ∧
            (X.FactsW x19 w23 (L21)) ∧
            R (.returned (.int .i64 n24)) w23
          else
           if (a_8 != b_8) = true then
            ∃ x13 : X.Facts, (X.FactsW x13 w4 (L2)) ∧
            ∀ w14 : World, ∀ L15 : List Nat, (X.Hid (L2) w4 w14) →
            (X.NewL (w).heap.size (L2) w4 w14 L15) →
            X.CallX Try.prog 56 #[(.int .i64 (IntKind.wrap .i64 a_8)), (.int .i64 (IntKind.wrap .i64 b_8))] w14 fun e16 w17 =>
             ∃ n18 : Int, (e16 = .returned (.int .i64 n18)) ∧
             (X.Kept L15 w14 w17) ∧
             (X.FactsW x13 w17 (L15)) ∧
             R (.returned (.int .i64 n18)) w17
           else
            if (a_9 != b_9) = true then
             ∃ x7 : X.Facts, (X.FactsW x7 w4 (L2)) ∧
             ∀ w8 : World, ∀ L9 : List Nat, (X.Hid (L2) w4 w8) →
             (X.NewL (w).heap.size (L2) w4 w8 L9) →
             X.CallX Try.prog 56 #[(.int .i64 (IntKind.wrap .i64 a_9)), (.int .i64 (IntKind.wrap .i64 b_9))] w8 fun e10 w11 =>
              ∃ n12 : Int, (e10 = .returned (.int .i64 n12)) ∧
              (X.Kept L9 w8 w11) ∧
              (X.FactsW x7 w11 (L9)) ∧
              R (.returned (.int .i64 n12)) w11
            else
             ∀ w6 : World, (X.Hid (L2) w4 w6) →
             R (.returned (.int .i64 0)) w6) :
    Calls Try.prog 35 #[.agg #[.int .u8 a_0, .int .u16 a_1, .int .u32 a_2, .int .u8 a_3, .int .u8 a_4, .int .u8 a_5, .int .u8 a_6, .int .u8 a_7, .int .u8 a_8, .int .u8 a_9], .agg #[.int .u8 b_0, .int .u16 b_1, .int .u32 b_2, .int .u8 b_3, .int .u8 b_4, .int .u8 b_5, .int .u8 b_6, .int .u8 b_7, .int .u8 b_8, .int .u8 b_9]] w R :=
  X.calls_of { isLoc := [2, 3], sym := [], loops := [(7, .unroll 4), (16, .unroll 4)], joins := [] } Try.func35 (by kernel_rfl) h
abbrev fn_cmp_isNaN_uint8 : Nat := 82
theorem x_cmp_isNaN_uint8 (a : Int) (w : World) (R : Ending → World → Prop) (h :
  R (.returned (.bool (a != a))) w) :
    Calls Try.prog 82 #[.int .u8 a] w R :=
  X.calls_of { isLoc := [], sym := [], loops := [], joins := [] } Try.func82 (by kernel_rfl) h
abbrev fn_cmp_isNaN_uint16 : Nat := 93
theorem x_cmp_isNaN_uint16 (a : Int) (w : World) (R : Ending → World → Prop) (h :
  R (.returned (.bool (a != a))) w) :
    Calls Try.prog 93 #[.int .u16 a] w R :=
  X.calls_of { isLoc := [], sym := [], loops := [], joins := [] } Try.func93 (by kernel_rfl) h
abbrev fn_cmp_isNaN_uint32 : Nat := 81
theorem x_cmp_isNaN_uint32 (a : Int) (w : World) (R : Ending → World → Prop) (h :
  R (.returned (.bool (a != a))) w) :
    Calls Try.prog 81 #[.int .u32 a] w R :=
  X.calls_of { isLoc := [], sym := [], loops := [], joins := [] } Try.func81 (by kernel_rfl) h
abbrev fn_gemotlaw02_RefID : Nat := 13
theorem x_gemotlaw02_RefID (a_0 a_1 a_2 a_3 a_4 a_5 a_6 a_7 a_8 a_9 : Int) (w : World) (R : Ending → World → Prop) (h :
  ∃ x1 : X.Facts, (X.FactsW x1 w []) ∧
  (∀ w2 : World, ∀ L3 : List Nat, (X.Hid [] w w2) →
   (X.NewL (w).heap.size [] w w2 L3) →
   X.CallX Try.prog 44 #[(.agg #[(.int .u8 a_0), (.int .u16 a_1)])] w2 fun e4 w5 =>
    ∃ n6 : Int, ∃ n7 : Int, (e4 = .returned (.agg #[(.int .u8 n6), (.int .u16 n7)])) ∧
    (X.Kept L3 w2 w5) ∧
    (X.FactsW x1 w5 (L3)) ∧
    ∃ x8 : X.Facts, (X.FactsW x8 w5 (L3)) ∧
    ∃ x9 : X.Facts, (X.FactsW x9 w5 (L3)) ∧
    ∃ x10 : X.Facts, (X.FactsW x10 w5 (L3)) ∧
    ∀ w11 : World, (X.Hid (L3) w5 w11) →
    R (.returned (.agg #[(.int .u8 n6), (.int .u16 n7), (.int .u32 a_2), (.int .u8 a_3), (.int .u8 a_4), (.int .u8 a_5), (.int .u8 a_6), (.int .u8 a_7), (.int .u8 a_8), (.int .u8 a_9)])) w11) ∧
  ∀ w12 : World, ∀ L13 : List Nat, (X.Hid [] w w12) →
  (X.NewL (w).heap.size [] w w12 L13) →
  X.CallX Try.prog 44 #[(.agg #[(.int .u8 a_0), (.int .u16 a_1)])] w12 fun e14 w15 =>
   ∃ n16 : Int, ∃ n17 : Int, (e14 = .returned (.agg #[(.int .u8 n16), (.int .u16 n17)])) ∧
   (X.Kept L13 w12 w15) ∧
   (X.FactsW x1 w15 (L13)) ∧
   ∃ x18 : X.Facts, (X.FactsW x18 w15 (L13)) ∧
   ∃ x19 : X.Facts, (X.FactsW x19 w15 (L13)) ∧
   ∃ x20 : X.Facts, (X.FactsW x20 w15 (L13)) ∧
   ∀ w21 : World, (X.Hid (L13) w15 w21) →
   R (.returned (.agg #[(.int .u8 n16), (.int .u16 n17), (.int .u32 a_2), (.int .u8 a_3), (.int .u8 a_4), (.int .u8 a_5), (.int .u8 a_6), (.int .u8 a_7), (.int .u8 a_8), (.int .u8 a_9)])) w21) :
    Calls Try.prog 13 #[.agg #[.int .u8 a_0, .int .u16 a_1, .int .u32 a_2, .int .u8 a_3, .int .u8 a_4, .int .u8 a_5, .int .u8 a_6, .int .u8 a_7, .int .u8 a_8, .int .u8 a_9]] w R :=
  X.calls_of { isLoc := [1, 2, 3], sym := [], loops := [(3, .unroll 4)], joins := [], stored := [(1, [3]), (5, [3])] } Try.func13 (by kernel_rfl) h
abbrev fn_gemotlaw02_RefProc : Nat := 44
theorem x_gemotlaw02_RefProc (a_0 a_1 : Int) (w : World) (R : Ending → World → Prop) (h :
  ∀ w1 : World, (X.Hid [] w w1) →
  R (.returned (.agg #[(.int .u8 a_0), (.int .u16 a_1)])) w1) :
    Calls Try.prog 44 #[.agg #[.int .u8 a_0, .int .u16 a_1]] w R :=
  X.calls_of { isLoc := [1, 2], sym := [], loops := [], joins := [] } Try.func44 (by kernel_rfl) h
abbrev fn_gemotref02_Right : Nat := 32
theorem x_gemotref02_Right (a_0 a_1 a_2 a_3 a_4 a_5 a_6 a_7 a_8 a_9 : Int) (w : World) (R : Ending → World → Prop) (h :
  ∀ w1 : World, ∀ L2 : List Nat, (X.Hid [] w w1) →
  (X.NewL (w).heap.size [] w w1 L2) →
  X.CallX Try.prog 54 #[(.agg #[(.int .u8 a_0), (.int .u16 a_1)])] w1 fun e3 w4 =>
   ∃ b5 : Bool, (e3 = .returned (.bool b5)) ∧
   (X.Kept L2 w1 w4) ∧
   if ((((!b5) || decide (a_2 < 1)) || decide (a_2 > 1048576)) || decide (a_3 > 3)) = true then
    R (.returned (.bool false)) w4
   else
    if ((decide ((0 : Int) < (IntKind.wrap .i64 a_3)) && decide (a_4 ≥ 4)) || (decide ((0 : Int) ≥ (IntKind.wrap .i64 a_3)) && (!((a_4 == 0) && (a_5 == 0))))) = true then
     R (.returned (.bool false)) w4
    else
     if ((decide ((1 : Int) < (IntKind.wrap .i64 a_3)) && decide (a_6 ≥ 4)) || (decide ((1 : Int) ≥ (IntKind.wrap .i64 a_3)) && (!((a_6 == 0) && (a_7 == 0))))) = true then
      R (.returned (.bool false)) w4
     else
      if ((decide ((2 : Int) < (IntKind.wrap .i64 a_3)) && decide (a_8 ≥ 4)) || (decide ((2 : Int) ≥ (IntKind.wrap .i64 a_3)) && (!((a_8 == 0) && (a_9 == 0))))) = true then
       R (.returned (.bool false)) w4
      else
       R (.returned (.bool true)) w4) :
    Calls Try.prog 32 #[.agg #[.int .u8 a_0, .int .u16 a_1, .int .u32 a_2, .int .u8 a_3, .int .u8 a_4, .int .u8 a_5, .int .u8 a_6, .int .u8 a_7, .int .u8 a_8, .int .u8 a_9]] w R :=
  X.calls_of { isLoc := [1], sym := [], loops := [(4, .unroll 4)], joins := [] } Try.func32 (by kernel_rfl) h
abbrev fn_gemotref02_RightProc : Nat := 54
theorem x_gemotref02_RightProc (a_0 a_1 : Int) (w : World) (R : Ending → World → Prop) (h :
  ∀ w1 : World, (X.Hid [] w w1) →
  R (.returned (.bool (decide (a_0 < 16) && decide (a_1 ≥ 1)))) w1) :
    Calls Try.prog 54 #[.agg #[.int .u8 a_0, .int .u16 a_1]] w R :=
  X.calls_of { isLoc := [1], sym := [], loops := [], joins := [] } Try.func54 (by kernel_rfl) h
abbrev fn_ident_Child : Nat := 30
theorem x_ident_Child (a_0 a_1 a_2 a_3 a_4 a_5 a_6 a_7 a_8 a_9 b c : Int) (w : World) (R : Ending → World → Prop) (h :
  ∀ w1 : World, ∀ L2 : List Nat, (X.Hid [] w w1) →
  (X.NewL (w).heap.size [] w w1 L2) →
  X.CallX Try.prog 50 #[(.agg #[(.int .u8 a_0), (.int .u16 a_1), (.int .u32 a_2), (.int .u8 a_3), (.int .u8 a_4), (.int .u8 a_5), (.int .u8 a_6), (.int .u8 a_7), (.int .u8 a_8), (.int .u8 a_9)])] w1 fun e3 w4 =>
   ∃ b5 : Bool, (e3 = .returned (.bool b5)) ∧
   (X.Kept L2 w1 w4) ∧
   if ((!b5) || decide (b ≥ 4)) = true then
    ∀ w10 : World, (X.Hid (L2) w4 w10) →
    R (.returned (.tuple #[(.agg #[(.int .u8 0), (.int .u16 0), (.int .u32 0), (.int .u8 0), (.int .u8 0), (.int .u8 0), (.int .u8 0), (.int .u8 0), (.int .u8 0), (.int .u8 0)]), (.int .i64 1)])) w10
   else
    if (a_3 == 3) = true then
     ∀ w9 : World, (X.Hid (L2) w4 w9) →
     R (.returned (.tuple #[(.agg #[(.int .u8 0), (.int .u16 0), (.int .u32 0), (.int .u8 0), (.int .u8 0), (.int .u8 0), (.int .u8 0), (.int .u8 0), (.int .u8 0), (.int .u8 0)]), (.int .i64 18)])) w9
    else
     ((0 : Int) ≤ a_3) ∧
     (a_3 < 3) ∧
     (((a_3 = 0) →
       ∀ w6 : World, (X.Hid (L2) w4 w6) →
       R (.returned (.tuple #[(.agg #[(.int .u8 a_0), (.int .u16 a_1), (.int .u32 a_2), (.int .u8 (IntKind.wrap .u8 (a_3 + 1))), (.int .u8 b), (.int .u8 c), (.int .u8 a_6), (.int .u8 a_7), (.int .u8 a_8), (.int .u8 a_9)]), (.int .i64 0)])) w6) ∧
      ((a_3 = 1) →
      ∀ w7 : World, (X.Hid (L2) w4 w7) →
      R (.returned (.tuple #[(.agg #[(.int .u8 a_0), (.int .u16 a_1), (.int .u32 a_2), (.int .u8 (IntKind.wrap .u8 (a_3 + 1))), (.int .u8 a_4), (.int .u8 a_5), (.int .u8 b), (.int .u8 c), (.int .u8 a_8), (.int .u8 a_9)]), (.int .i64 0)])) w7)) ∧
     ((a_3 = 2) →
     ∀ w8 : World, (X.Hid (L2) w4 w8) →
     R (.returned (.tuple #[(.agg #[(.int .u8 a_0), (.int .u16 a_1), (.int .u32 a_2), (.int .u8 (IntKind.wrap .u8 (a_3 + 1))), (.int .u8 a_4), (.int .u8 a_5), (.int .u8 a_6), (.int .u8 a_7), (.int .u8 b), (.int .u8 c)]), (.int .i64 0)])) w8)) :
    Calls Try.prog 30 #[.agg #[.int .u8 a_0, .int .u16 a_1, .int .u32 a_2, .int .u8 a_3, .int .u8 a_4, .int .u8 a_5, .int .u8 a_6, .int .u8 a_7, .int .u8 a_8, .int .u8 a_9], .int .u8 b, .int .u8 c] w R :=
  X.calls_of { isLoc := [3, 6], sym := [28], loops := [], joins := [] } Try.func30 (by kernel_rfl) h
abbrev fn_gemotref02_Child : Nat := 45
theorem x_gemotref02_Child (a_0 a_1 a_2 a_3 a_4 a_5 a_6 a_7 a_8 a_9 b c : Int) (w : World) (R : Ending → World → Prop) (h :
  ∀ w1 : World, ∀ L2 : List Nat, (X.Hid [] w w1) →
  (X.NewL (w).heap.size [] w w1 L2) →
  X.CallX Try.prog 32 #[(.agg #[(.int .u8 a_0), (.int .u16 a_1), (.int .u32 a_2), (.int .u8 a_3), (.int .u8 a_4), (.int .u8 a_5), (.int .u8 a_6), (.int .u8 a_7), (.int .u8 a_8), (.int .u8 a_9)])] w1 fun e3 w4 =>
   ∃ b5 : Bool, (e3 = .returned (.bool b5)) ∧
   (X.Kept L2 w1 w4) ∧
   if ((!b5) || decide (b ≥ 4)) = true then
    ∀ w10 : World, (X.Hid (L2) w4 w10) →
    R (.returned (.tuple #[(.agg #[(.int .u8 0), (.int .u16 0), (.int .u32 0), (.int .u8 0), (.int .u8 0), (.int .u8 0), (.int .u8 0), (.int .u8 0), (.int .u8 0), (.int .u8 0)]), (.int .i64 1)])) w10
   else
    if (a_3 == 3) = true then
     ∀ w9 : World, (X.Hid (L2) w4 w9) →
     R (.returned (.tuple #[(.agg #[(.int .u8 0), (.int .u16 0), (.int .u32 0), (.int .u8 0), (.int .u8 0), (.int .u8 0), (.int .u8 0), (.int .u8 0), (.int .u8 0), (.int .u8 0)]), (.int .i64 18)])) w9
    else
     ((0 : Int) ≤ a_3) ∧
     (a_3 < 3) ∧
     (((a_3 = 0) →
       ∀ w6 : World, (X.Hid (L2) w4 w6) →
       R (.returned (.tuple #[(.agg #[(.int .u8 a_0), (.int .u16 a_1), (.int .u32 a_2), (.int .u8 (IntKind.wrap .u8 (a_3 + 1))), (.int .u8 b), (.int .u8 c), (.int .u8 a_6), (.int .u8 a_7), (.int .u8 a_8), (.int .u8 a_9)]), (.int .i64 0)])) w6) ∧
      ((a_3 = 1) →
      ∀ w7 : World, (X.Hid (L2) w4 w7) →
      R (.returned (.tuple #[(.agg #[(.int .u8 a_0), (.int .u16 a_1), (.int .u32 a_2), (.int .u8 (IntKind.wrap .u8 (a_3 + 1))), (.int .u8 a_4), (.int .u8 a_5), (.int .u8 b), (.int .u8 c), (.int .u8 a_8), (.int .u8 a_9)]), (.int .i64 0)])) w7)) ∧
     ((a_3 = 2) →
     ∀ w8 : World, (X.Hid (L2) w4 w8) →
     R (.returned (.tuple #[(.agg #[(.int .u8 a_0), (.int .u16 a_1), (.int .u32 a_2), (.int .u8 (IntKind.wrap .u8 (a_3 + 1))), (.int .u8 a_4), (.int .u8 a_5), (.int .u8 a_6), (.int .u8 a_7), (.int .u8 b), (.int .u8 c)]), (.int .i64 0)])) w8)) :
    Calls Try.prog 45 #[.agg #[.int .u8 a_0, .int .u16 a_1, .int .u32 a_2, .int .u8 a_3, .int .u8 a_4, .int .u8 a_5, .int .u8 a_6, .int .u8 a_7, .int .u8 a_8, .int .u8 a_9], .int .u8 b, .int .u8 c] w R :=
  X.calls_of { isLoc := [3, 6], sym := [26], loops := [], joins := [] } Try.func45 (by kernel_rfl) h
end Go.Proofs
/- The verification conditions of this seat's functions, as the engine has them: printed by a program of the bench; checked by the kernel. -/
namespace Go.Proofs
open Go
abbrev fn_cont_New : Nat := 6
theorem x_cont_New (a : Int) (w : World) (R : Ending → World → Prop) (h :
  if (decide (a ≥ 4)) = true then
   R (.returned (.pointer none)) w
  else
   R (.returned (.pointer (some ⟨((w.alloc (.map #[] 0))).heap.size, 0, none⟩))) ((w.alloc (.map #[] 0)).alloc (.cells #[(.int .u8 a), (.map (some (w).heap.size))] 91))) :
    Calls Try.prog 6 #[.int .u8 a] w R :=
  X.calls_of { isLoc := [], sym := [], loops := [], joins := [] } Try.func6 (by kernel_rfl) h
abbrev fn_cont_Table_none : Nat := 28
theorem x_cont_Table_none (a : Addr) (w : World) (R : Ending → World → Prop) (h :
  ∃ q1 : Option Nat, (World.cell? w (a.add 1) = some (.map (q1))) ∧
  R (.returned (.bool (false || (q1.isNone)))) w) :
    Calls Try.prog 28 #[.pointer (some a)] w R :=
  X.calls_of { isLoc := [], sym := [], loops := [], joins := [] } Try.func28 (by kernel_rfl) h
abbrev fn_cont_Cont_right : Nat := 29
theorem x_cont_Cont_right (a_0 a_1 a_2 a_3 a_4 a_5 a_6 a_7 a_8 a_9 a_10 a_11 : Int) (a_12 a_13 : ByteArray) (a_14 : Int) (a_15 : Option Addr) (a_15l a_15c : Nat) (a_16 : Int) (a_17 a_18 a_19 : ByteArray) (a_20 : Bool) (a_21 : Int) (w : World) (R : Ending → World → Prop) (h :
  ∀ w1 : World, ∀ L2 : List Nat, (X.Hid [] w w1) →
  (X.NewL (w).heap.size [] w w1 L2) →
  X.CallX Try.prog 50 #[(.agg #[(.int .u8 a_0), (.int .u16 a_1), (.int .u32 a_2), (.int .u8 a_3), (.int .u8 a_4), (.int .u8 a_5), (.int .u8 a_6), (.int .u8 a_7), (.int .u8 a_8), (.int .u8 a_9)])] w1 fun e3 w4 =>
   ∃ b5 : Bool, (e3 = .returned (.bool b5)) ∧
   (X.Kept L2 w1 w4) ∧
   if (b5 == true) = true then
    X.CallX Try.prog 51 #[(.agg #[(.int .u8 a_10), (.int .u8 a_11), (.string a_12), (.string a_13), (.int .i64 a_14)])] w4 fun e6 w7 =>
     ∃ b8 : Bool, (e6 = .returned (.bool b8)) ∧
     (X.Kept L2 w4 w7) ∧
     if ((true && b8) == true) = true then
      X.CallX Try.prog 52 #[(.slice (a_15) a_15l a_15c)] w7 fun e9 w10 =>
       ∃ b11 : Bool, (e9 = .returned (.bool b11)) ∧
       (X.Kept L2 w7 w10) ∧
       R (.returned (.bool ((true && b11) && decide ((IntKind.wrap .i64 ((IntKind.wrap .i64 (1 + ((a_15l : Nat) : Int))) + (IntKind.wrap .i64 a_3))) ≤ 4)))) w10
     else
      R (.returned (.bool (false && decide ((IntKind.wrap .i64 ((IntKind.wrap .i64 (1 + ((a_15l : Nat) : Int))) + (IntKind.wrap .i64 a_3))) ≤ 4)))) w7
   else
    R (.returned (.bool (false && decide ((IntKind.wrap .i64 ((IntKind.wrap .i64 (1 + ((a_15l : Nat) : Int))) + (IntKind.wrap .i64 a_3))) ≤ 4)))) w4) :
    Calls Try.prog 29 #[.agg #[.int .u8 a_0, .int .u16 a_1, .int .u32 a_2, .int .u8 a_3, .int .u8 a_4, .int .u8 a_5, .int .u8 a_6, .int .u8 a_7, .int .u8 a_8, .int .u8 a_9, .int .u8 a_10, .int .u8 a_11, .string a_12, .string a_13, .int .i64 a_14, .slice a_15 a_15l a_15c, .int .u8 a_16, .string a_17, .string a_18, .string a_19, .bool a_20, .int .u32 a_21]] w R :=
  X.calls_of { isLoc := [1], sym := [], loops := [], joins := [] } Try.func29 (by kernel_rfl) h
abbrev fn_cont_Cont_clone : Nat := 31
theorem x_cont_Cont_clone (a_0 a_1 a_2 a_3 a_4 a_5 a_6 a_7 a_8 a_9 a_10 a_11 : Int) (a_12 a_13 : ByteArray) (a_14 : Int) (a_15 : Option Addr) (a_15l a_15c : Nat) (a_16 : Int) (a_17 a_18 a_19 : ByteArray) (a_20 : Bool) (a_21 : Int) (w : World) (R : Ending → World → Prop) (h :
  ∀ w1 : World, ∀ L2 : List Nat, (X.Hid [] w w1) →
  (X.NewL (w).heap.size [] w w1 L2) →
  X.CallX Try.prog 53 #[(.slice (a_15) a_15l a_15c)] w1 fun e3 w4 =>
   ∃ q5 : Option Addr, ∃ k6 : Nat, ∃ k7 : Nat, (e3 = .returned (.slice (q5) k6 k7)) ∧
   (X.Kept L2 w1 w4) ∧
   ∀ w8 : World, (X.Hid (L2) w4 w8) →
   R (.returned (.agg #[(.int .u8 a_0), (.int .u16 a_1), (.int .u32 a_2), (.int .u8 a_3), (.int .u8 a_4), (.int .u8 a_5), (.int .u8 a_6), (.int .u8 a_7), (.int .u8 a_8), (.int .u8 a_9), (.int .u8 a_10), (.int .u8 a_11), (.string a_12), (.string a_13), (.int .i64 a_14), (.slice (q5) k6 k7), (.int .u8 a_16), (.string a_17), (.string a_18), (.string a_19), (.bool a_20), (.int .u32 a_21)])) w8) :
    Calls Try.prog 31 #[.agg #[.int .u8 a_0, .int .u16 a_1, .int .u32 a_2, .int .u8 a_3, .int .u8 a_4, .int .u8 a_5, .int .u8 a_6, .int .u8 a_7, .int .u8 a_8, .int .u8 a_9, .int .u8 a_10, .int .u8 a_11, .string a_12, .string a_13, .int .i64 a_14, .slice a_15 a_15l a_15c, .int .u8 a_16, .string a_17, .string a_18, .string a_19, .bool a_20, .int .u32 a_21]] w R :=
  X.calls_of { isLoc := [1, 2], sym := [], loops := [], joins := [] } Try.func31 (by kernel_rfl) h
abbrev fn_ClonePs : Nat := 53
theorem x_ClonePs (a : Option Addr) (al ac : Nat) (w : World) (R : Ending → World → Prop) (h :
  if (a.isNone) = true then
   R (.returned (.slice none 0 0)) w
  else
   ∃ q1 : Option Addr, ∃ k2 : Nat, ∃ k3 : Nat, ∃ w4 : World, (Sem.run Try.prog (Go.Builtin.append_ #[58, 58] 58 #[(.slice (some ⟨(w).heap.size, 0, none⟩) 0 0), (.slice (a) al ac)]) (w.alloc (.cells #[] 57)) = .ok (.slice (q1) k2 k3) w4) ∧
   (((w.alloc (.cells #[] 57))).heap.size ≤ (w4).heap.size) ∧
   R (.returned (.slice (q1) k2 k3)) w4) :
    Calls Try.prog 53 #[.slice a al ac] w R :=
  X.calls_of { isLoc := [], sym := [], loops := [], joins := [] } Try.func53 (by kernel_rfl) h
abbrev fn_cont_Table_Len : Nat := 21
theorem x_cont_Table_Len (a : Addr) (w : World) (R : Ending → World → Prop) (h :
  X.CallX Try.prog 28 #[(.pointer (some a))] w fun e1 w2 =>
   ∃ b3 : Bool, (e1 = .returned (.bool b3)) ∧
   ((w).heap.size ≤ (w2).heap.size) ∧
   if b3 = true then
    R (.returned (.int .i64 0)) w2
   else
    ∃ q4 : Option Nat, (World.cell? w2 (a.add 1) = some (.map (q4))) ∧
    ∃ n5 : Int, ∃ w6 : World, (Sem.run Try.prog (Go.Builtin.len_ #[89] 3 #[(.map (q4))]) w2 = .ok (.int .i64 n5) w6) ∧
    ((w2).heap.size ≤ (w6).heap.size) ∧
    R (.returned (.int .i64 n5)) w6) :
    Calls Try.prog 21 #[.pointer (some a)] w R :=
  X.calls_of { isLoc := [], sym := [9], loops := [], joins := [] } Try.func21 (by kernel_rfl) h
abbrev fn_cont_Table_Has : Nat := 25
theorem x_cont_Table_Has (a : Addr) (b_0 b_1 b_2 b_3 b_4 b_5 b_6 b_7 b_8 b_9 : Int) (w : World) (R : Ending → World → Prop) (h :
  ∀ w1 : World, ∀ L2 : List Nat, (X.Hid [] w w1) →
  (X.NewL (w).heap.size [] w w1 L2) →
  X.CallX Try.prog 28 #[(.pointer (some a))] w1 fun e3 w4 =>
   ∃ b5 : Bool, (e3 = .returned (.bool b5)) ∧
   (X.Kept L2 w1 w4) ∧
   if b5 = true then
    R (.returned (.bool false)) w4
   else
    ∃ x6 : X.Facts, (X.FactsW x6 w4 (L2)) ∧
    ∃ q7 : Option Nat, (((a.add 1), [(.map (q7))]) ∈ x6) ∧
    (∀ w8 : World, ∀ L9 : List Nat, (X.Hid (L2) w4 w8) →
     (X.NewL (w).heap.size (L2) w4 w8 L9) →
     ∃ n10 : Int, ∃ n11 : Int, ∃ n12 : Int, ∃ n13 : Int, ∃ n14 : Int, ∃ n15 : Int, ∃ n16 : Int, ∃ n17 : Int, ∃ n18 : Int, ∃ n19 : Int, ∃ n20 : Int, ∃ n21 : Int, ∃ s22 : ByteArray, ∃ s23 : ByteArray, ∃ n24 : Int, ∃ q25 : Option Addr, ∃ k26 : Nat, ∃ k27 : Nat, ∃ n28 : Int, ∃ s29 : ByteArray, ∃ s30 : ByteArray, ∃ s31 : ByteArray, ∃ b32 : Bool, ∃ n33 : Int, ∃ b34 : Bool, ∃ w35 : World, (Sem.run Try.prog (Go.Instr.lookup 89 (.map (q7)) (.agg #[(.int .u8 b_0), (.int .u16 b_1), (.int .u32 b_2), (.int .u8 b_3), (.int .u8 b_4), (.int .u8 b_5), (.int .u8 b_6), (.int .u8 b_7), (.int .u8 b_8), (.int .u8 b_9)]) true) w8 = .ok (.tuple #[(.agg #[(.int .u8 n10), (.int .u16 n11), (.int .u32 n12), (.int .u8 n13), (.int .u8 n14), (.int .u8 n15), (.int .u8 n16), (.int .u8 n17), (.int .u8 n18), (.int .u8 n19), (.int .u8 n20), (.int .u8 n21), (.string s22), (.string s23), (.int .i64 n24), (.slice (q25) k26 k27), (.int .u8 n28), (.string s29), (.string s30), (.string s31), (.bool b32), (.int .u32 n33)]), (.bool b34)]) w35) ∧
     (X.Kept L9 w8 w35) ∧
     (X.FactsW x6 w35 (L9)) ∧
     ∀ w36 : World, (X.Hid (L9) w35 w36) →
     R (.returned (.bool b34)) w36) ∧
    ∀ w37 : World, ∀ L38 : List Nat, (X.Hid (L2) w4 w37) →
    (X.NewL (w).heap.size (L2) w4 w37 L38) →
    ∃ n39 : Int, ∃ n40 : Int, ∃ n41 : Int, ∃ n42 : Int, ∃ n43 : Int, ∃ n44 : Int, ∃ n45 : Int, ∃ n46 : Int, ∃ n47 : Int, ∃ n48 : Int, ∃ n49 : Int, ∃ n50 : Int, ∃ s51 : ByteArray, ∃ s52 : ByteArray, ∃ n53 : Int, ∃ q54 : Option Addr, ∃ k55 : Nat, ∃ k56 : Nat, ∃ n57 : Int, ∃ s58 : ByteArray, ∃ s59 : ByteArray, ∃ s60 : ByteArray, ∃ b61 : Bool, ∃ n62 : Int, ∃ b63 : Bool, ∃ w64 : World, (Sem.run Try.prog (Go.Instr.lookup 89 (.map (q7)) (.agg #[(.int .u8 b_0), (.int .u16 b_1), (.int .u32 b_2), (.int .u8 b_3), (.int .u8 b_4), (.int .u8 b_5), (.int .u8 b_6), (.int .u8 b_7), (.int .u8 b_8), (.int .u8 b_9)]) true) w37 = .ok (.tuple #[(.agg #[(.int .u8 n39), (.int .u16 n40), (.int .u32 n41), (.int .u8 n42), (.int .u8 n43), (.int .u8 n44), (.int .u8 n45), (.int .u8 n46), (.int .u8 n47), (.int .u8 n48), (.int .u8 n49), (.int .u8 n50), (.string s51), (.string s52), (.int .i64 n53), (.slice (q54) k55 k56), (.int .u8 n57), (.string s58), (.string s59), (.string s60), (.bool b61), (.int .u32 n62)]), (.bool b63)]) w64) ∧
    (X.Kept L38 w37 w64) ∧
    (X.FactsW x6 w64 (L38)) ∧
    ∀ w65 : World, (X.Hid (L38) w64 w65) →
    R (.returned (.bool b63)) w65) :
    Calls Try.prog 25 #[.pointer (some a), .agg #[.int .u8 b_0, .int .u16 b_1, .int .u32 b_2, .int .u8 b_3, .int .u8 b_4, .int .u8 b_5, .int .u8 b_6, .int .u8 b_7, .int .u8 b_8, .int .u8 b_9]] w R :=
  X.calls_of { isLoc := [3, 5], sym := [], loops := [], joins := [], stored := [(3, [5])] } Try.func25 (by kernel_rfl) h
abbrev fn_cont_Table_Take : Nat := 16
theorem x_cont_Table_Take (a : Addr) (b_0 b_1 b_2 b_3 b_4 b_5 b_6 b_7 b_8 b_9 : Int) (w : World) (R : Ending → World → Prop) (h :
  ∀ w1 : World, ∀ L2 : List Nat, (X.Hid [] w w1) →
  (X.NewL (w).heap.size [] w w1 L2) →
  X.CallX Try.prog 25 #[(.pointer (some a)), (.agg #[(.int .u8 b_0), (.int .u16 b_1), (.int .u32 b_2), (.int .u8 b_3), (.int .u8 b_4), (.int .u8 b_5), (.int .u8 b_6), (.int .u8 b_7), (.int .u8 b_8), (.int .u8 b_9)])] w1 fun e3 w4 =>
   ∃ b5 : Bool, (e3 = .returned (.bool b5)) ∧
   (X.Kept L2 w1 w4) ∧
   if (!b5) = true then
    ∀ w74 : World, (X.Hid (L2) w4 w74) →
    R (.returned (.tuple #[(.agg #[(.int .u8 0), (.int .u16 0), (.int .u32 0), (.int .u8 0), (.int .u8 0), (.int .u8 0), (.int .u8 0), (.int .u8 0), (.int .u8 0), (.int .u8 0), (.int .u8 0), (.int .u8 0), (.string (ByteArray.mk #[])), (.string (ByteArray.mk #[])), (.int .i64 0), (.slice none 0 0), (.int .u8 0), (.string (ByteArray.mk #[])), (.string (ByteArray.mk #[])), (.string (ByteArray.mk #[])), (.bool false), (.int .u32 0)]), (.bool false)])) w74
   else
    ∃ x6 : X.Facts, (X.FactsW x6 w4 (L2)) ∧
    ∃ q7 : Option Nat, (((a.add 1), [(.map (q7))]) ∈ x6) ∧
    (∀ w8 : World, ∀ L9 : List Nat, (X.Hid (L2) w4 w8) →
     (X.NewL (w).heap.size (L2) w4 w8 L9) →
     ∃ n10 : Int, ∃ n11 : Int, ∃ n12 : Int, ∃ n13 : Int, ∃ n14 : Int, ∃ n15 : Int, ∃ n16 : Int, ∃ n17 : Int, ∃ n18 : Int, ∃ n19 : Int, ∃ n20 : Int, ∃ n21 : Int, ∃ s22 : ByteArray, ∃ s23 : ByteArray, ∃ n24 : Int, ∃ q25 : Option Addr, ∃ k26 : Nat, ∃ k27 : Nat, ∃ n28 : Int, ∃ s29 : ByteArray, ∃ s30 : ByteArray, ∃ s31 : ByteArray, ∃ b32 : Bool, ∃ n33 : Int, ∃ w34 : World, (Sem.run Try.prog (Go.Instr.lookup 89 (.map (q7)) (.agg #[(.int .u8 b_0), (.int .u16 b_1), (.int .u32 b_2), (.int .u8 b_3), (.int .u8 b_4), (.int .u8 b_5), (.int .u8 b_6), (.int .u8 b_7), (.int .u8 b_8), (.int .u8 b_9)]) false) w8 = .ok (.agg #[(.int .u8 n10), (.int .u16 n11), (.int .u32 n12), (.int .u8 n13), (.int .u8 n14), (.int .u8 n15), (.int .u8 n16), (.int .u8 n17), (.int .u8 n18), (.int .u8 n19), (.int .u8 n20), (.int .u8 n21), (.string s22), (.string s23), (.int .i64 n24), (.slice (q25) k26 k27), (.int .u8 n28), (.string s29), (.string s30), (.string s31), (.bool b32), (.int .u32 n33)]) w34) ∧
     (X.Kept L9 w8 w34) ∧
     (X.FactsW x6 w34 (L9)) ∧
     ∃ x35 : X.Facts, (X.FactsW x35 w34 (L9)) ∧
     ∃ q36 : Option Nat, (((a.add 1), [(.map (q36))]) ∈ x35) ∧
     ∀ w37 : World, ∀ L38 : List Nat, (X.Hid (L9) w34 w37) →
     (X.NewL (w).heap.size (L9) w34 w37 L38) →
     ∃ w39 : World, (Sem.run Try.prog (Go.Builtin.delete_ #[89, 53] 0 #[(.map (q36)), (.agg #[(.int .u8 b_0), (.int .u16 b_1), (.int .u32 b_2), (.int .u8 b_3), (.int .u8 b_4), (.int .u8 b_5), (.int .u8 b_6), (.int .u8 b_7), (.int .u8 b_8), (.int .u8 b_9)])]) w37 = .ok (.tuple #[]) w39) ∧
     (X.Kept L38 w37 w39) ∧
     ∀ w40 : World, (X.Hid (L38) w39 w40) →
     R (.returned (.tuple #[(.agg #[(.int .u8 n10), (.int .u16 n11), (.int .u32 n12), (.int .u8 n13), (.int .u8 n14), (.int .u8 n15), (.int .u8 n16), (.int .u8 n17), (.int .u8 n18), (.int .u8 n19), (.int .u8 n20), (.int .u8 n21), (.string s22), (.string s23), (.int .i64 n24), (.slice (q25) k26 k27), (.int .u8 n28), (.string s29), (.string s30), (.string s31), (.bool b32), (.int .u32 n33)]), (.bool true)])) w40) ∧
    ∀ w41 : World, ∀ L42 : List Nat, (X.Hid (L2) w4 w41) →
    (X.NewL (w).heap.size (L2) w4 w41 L42) →
    ∃ n43 : Int, ∃ n44 : Int, ∃ n45 : Int, ∃ n46 : Int, ∃ n47 : Int, ∃ n48 : Int, ∃ n49 : Int, ∃ n50 : Int, ∃ n51 : Int, ∃ n52 : Int, ∃ n53 : Int, ∃ n54 : Int, ∃ s55 : ByteArray, ∃ s56 : ByteArray, ∃ n57 : Int, ∃ q58 : Option Addr, ∃ k59 : Nat, ∃ k60 : Nat, ∃ n61 : Int, ∃ s62 : ByteArray, ∃ s63 : ByteArray, ∃ s64 : ByteArray, ∃ b65 : Bool, ∃ n66 : Int, ∃ w67 : World, (Sem.run Try.prog (Go.Instr.lookup 89 (.map (q7)) (.agg #[(.int .u8 b_0), (.int .u16 b_1), (.int .u32 b_2), (.int .u8 b_3), (.int .u8 b_4), (.int .u8 b_5), (.int .u8 b_6), (.int .u8 b_7), (.int .u8 b_8), (.int .u8 b_9)]) false) w41 = .ok (.agg #[(.int .u8 n43), (.int .u16 n44), (.int .u32 n45), (.int .u8 n46), (.int .u8 n47), (.int .u8 n48), (.int .u8 n49), (.int .u8 n50), (.int .u8 n51), (.int .u8 n52), (.int .u8 n53), (.int .u8 n54), (.string s55), (.string s56), (.int .i64 n57), (.slice (q58) k59 k60), (.int .u8 n61), (.string s62), (.string s63), (.string s64), (.bool b65), (.int .u32 n66)]) w67) ∧
    (X.Kept L42 w41 w67) ∧
    (X.FactsW x6 w67 (L42)) ∧
    ∃ x68 : X.Facts, (X.FactsW x68 w67 (L42)) ∧
    ∃ q69 : Option Nat, (((a.add 1), [(.map (q69))]) ∈ x68) ∧
    ∀ w70 : World, ∀ L71 : List Nat, (X.Hid (L42) w67 w70) →
    (X.NewL (w).heap.size (L42) w67 w70 L71) →
    ∃ w72 : World, (Sem.run Try.prog (Go.Builtin.delete_ #[89, 53] 0 #[(.map (q69)), (.agg #[(.int .u8 b_0), (.int .u16 b_1), (.int .u32 b_2), (.int .u8 b_3), (.int .u8 b_4), (.int .u8 b_5), (.int .u8 b_6), (.int .u8 b_7), (.int .u8 b_8), (.int .u8 b_9)])]) w70 = .ok (.tuple #[]) w72) ∧
    (X.Kept L71 w70 w72) ∧
    ∀ w73 : World, (X.Hid (L71) w72 w73) →
    R (.returned (.tuple #[(.agg #[(.int .u8 n43), (.int .u16 n44), (.int .u32 n45), (.int .u8 n46), (.int .u8 n47), (.int .u8 n48), (.int .u8 n49), (.int .u8 n50), (.int .u8 n51), (.int .u8 n52), (.int .u8 n53), (.int .u8 n54), (.string s55), (.string s56), (.int .i64 n57), (.slice (q58) k59 k60), (.int .u8 n61), (.string s62), (.string s63), (.string s64), (.bool b65), (.int .u32 n66)]), (.bool true)])) w73) :
    Calls Try.prog 16 #[.pointer (some a), .agg #[.int .u8 b_0, .int .u16 b_1, .int .u32 b_2, .int .u8 b_3, .int .u8 b_4, .int .u8 b_5, .int .u8 b_6, .int .u8 b_7, .int .u8 b_8, .int .u8 b_9]] w R :=
  X.calls_of { isLoc := [3, 4, 6], sym := [], loops := [], joins := [], stored := [(3, [6])] } Try.func16 (by kernel_rfl) h
abbrev fn_cont_Table_Add : Nat := 8
theorem x_cont_Table_Add (a : Addr) (b_0 b_1 b_2 b_3 b_4 b_5 b_6 b_7 b_8 b_9 b_10 b_11 : Int) (b_12 b_13 : ByteArray) (b_14 : Int) (b_15 : Option Addr) (b_15l b_15c : Nat) (b_16 : Int) (b_17 b_18 b_19 : ByteArray) (b_20 : Bool) (b_21 : Int) (w : World) (R : Ending → World → Prop) (h :
  ∀ w1 : World, ∀ L2 : List Nat, (X.Hid [] w w1) →
  (X.NewL (w).heap.size [] w w1 L2) →
  X.CallX Try.prog 28 #[(.pointer (some a))] w1 fun e3 w4 =>
   ∃ b5 : Bool, (e3 = .returned (.bool b5)) ∧
   (X.Kept L2 w1 w4) ∧
   if (b5 == false) = true then
    X.CallX Try.prog 29 #[(.agg #[(.int .u8 b_0), (.int .u16 b_1), (.int .u32 b_2), (.int .u8 b_3), (.int .u8 b_4), (.int .u8 b_5), (.int .u8 b_6), (.int .u8 b_7), (.int .u8 b_8), (.int .u8 b_9), (.int .u8 b_10), (.int .u8 b_11), (.string b_12), (.string b_13), (.int .i64 b_14), (.slice (b_15) b_15l b_15c), (.int .u8 b_16), (.string b_17), (.string b_18), (.string b_19), (.bool b_20), (.int .u32 b_21)])] w4 fun e7 w8 =>
     ∃ b9 : Bool, (e7 = .returned (.bool b9)) ∧
     (X.Kept L2 w4 w8) ∧
     if (false || (!b9)) = true then
      ∀ w128 : World, (X.Hid (L2) w8 w128) →
      R (.returned (.tuple #[(.agg #[(.int .u8 0), (.int .u16 0), (.int .u32 0), (.int .u8 0), (.int .u8 0), (.int .u8 0), (.int .u8 0), (.int .u8 0), (.int .u8 0), (.int .u8 0)]), (.int .i64 1)])) w128
     else
      ∃ x10 : X.Facts, (X.FactsW x10 w8 (L2)) ∧
      ∃ n11 : Int, (((a.add 0), [(.int .u8 n11)]) ∈ x10) ∧
      (∀ w12 : World, ∀ L13 : List Nat, (X.Hid (L2) w8 w12) →
       (X.NewL (w).heap.size (L2) w8 w12 L13) →
       X.CallX Try.prog 30 #[(.agg #[(.int .u8 b_0), (.int .u16 b_1), (.int .u32 b_2), (.int .u8 b_3), (.int .u8 b_4), (.int .u8 b_5), (.int .u8 b_6), (.int .u8 b_7), (.int .u8 b_8), (.int .u8 b_9)]), (.int .u8 n11), (.int .u8 0)] w12 fun e14 w15 =>
        ∃ n16 : Int, ∃ n17 : Int, ∃ n18 : Int, ∃ n19 : Int, ∃ n20 : Int, ∃ n21 : Int, ∃ n22 : Int, ∃ n23 : Int, ∃ n24 : Int, ∃ n25 : Int, ∃ n26 : Int, (e14 = .returned (.tuple #[(.agg #[(.int .u8 n16), (.int .u16 n17), (.int .u32 n18), (.int .u8 n19), (.int .u8 n20), (.int .u8 n21), (.int .u8 n22), (.int .u8 n23), (.int .u8 n24), (.int .u8 n25)]), (.int .i64 n26)])) ∧
        (X.Kept L13 w12 w15) ∧
        if (n26 != 0) = true then
         ∀ w69 : World, (X.Hid (L13) w15 w69) →
         R (.returned (.tuple #[(.agg #[(.int .u8 0), (.int .u16 0), (.int .u32 0), (.int .u8 0), (.int .u8 0), (.int .u8 0), (.int .u8 0), (.int .u8 0), (.int .u8 0), (.int .u8 0)]), (.int .i64 n26)])) w69
        else
         ∀ w27 : World, ∀ L28 : List Nat, (X.Hid (L13) w15 w27) →
         (X.NewL (w).heap.size (L13) w15 w27 L28) →
         X.CallX Try.prog 25 #[(.pointer (some a)), (.agg #[(.int .u8 n16), (.int .u16 n17), (.int .u32 n18), (.int .u8 n19), (.int .u8 n20), (.int .u8 n21), (.int .u8 n22), (.int .u8 n23), (.int .u8 n24), (.int .u8 n25)])] w27 fun e29 w30 =>
          ∃ b31 : Bool, (e29 = .returned (.bool b31)) ∧
          (X.Kept L28 w27 w30) ∧
          if b31 = true then
           ∀ w68 : World, (X.Hid (L28) w30 w68) →
           R (.returned (.tuple #[(.agg #[(.int .u8 0), (.int .u16 0), (.int .u32 0), (.int .u8 0), (.int .u8 0), (.int .u8 0), (.int .u8 0), (.int .u8 0), (.int .u8 0), (.int .u8 0)]), (.int .i64 4)])) w68
          else
           ∃ q32 : Option Nat, (World.cell? w30 (a.add 1) = some (.map (q32))) ∧
           (¬ ((a.block) ∈ L28)) ∧
           ∃ n33 : Int, ∃ w34 : World, (Sem.run Try.prog (Go.Builtin.len_ #[89] 3 #[(.map (q32))]) w30 = .ok (.int .i64 n33) w34) ∧
           (X.Kept L28 w30 w34) ∧
           if (decide (n33 ≥ 64)) = true then
            ∀ w67 : World, (X.Hid (L28) w34 w67) →
            R (.returned (.tuple #[(.agg #[(.int .u8 0), (.int .u16 0), (.int .u32 0), (.int .u8 0), (.int .u8 0), (.int .u8 0), (.int .u8 0), (.int .u8 0), (.int .u8 0), (.int .u8 0)]), (.int .i64 11)])) w67
           else
            ∃ x35 : X.Facts, (X.FactsW x35 w34 (L28)) ∧
            ∃ q36 : Option Nat, (((a.add 1), [(.map (q36))]) ∈ x35) ∧
            ∀ w37 : World, ∀ L38 : List Nat, (X.Hid (L28) w34 w37) →
            (X.NewL (w).heap.size (L28) w34 w37 L38) →
            X.CallX Try.prog 31 #[(.agg #[(.int .u8 b_0), (.int .u16 b_1), (.int .u32 b_2), (.int .u8 b_3), (.int .u8 b_4), (.int .u8 b_5), (.int .u8 b_6), (.int .u8 b_7), (.int .u8 b_8), (.int .u8 b_9), (.int .u8 b_10), (.int .u8 b_11), (.string b_12), (.string b_13), (.int .i64 b_14), (.slice (b_15) b_15l b_15c), (.int .u8 b_16), (.string b_17), (.string b_18), (.string b_19), (.bool b_20), (.int .u32 b_21)])] w37 fun e39 w40 =>
             ∃ n41 : Int, ∃ n42 : Int, ∃ n43 : Int, ∃ n44 : Int, ∃ n45 : Int, ∃ n46 : Int, ∃ n47 : Int, ∃ n48 : Int, ∃ n49 : Int, ∃ n50 : Int, ∃ n51 : Int, ∃ n52 : Int, ∃ s53 : ByteArray, ∃ s54 : ByteArray, ∃ n55 : Int, ∃ q56 : Option Addr, ∃ k57 : Nat, ∃ k58 : Nat, ∃ n59 : Int, ∃ s60 : ByteArray, ∃ s61 : ByteArray, ∃ s62 : ByteArray, ∃ b63 : Bool, ∃ n64 : Int, (e39 = .returned (.agg #[(.int .u8 n41), (.int .u16 n42), (.int .u32 n43), (.int .u8 n44), (.int .u8 n45), (.int .u8 n46), (.int .u8 n47), (.int .u8 n48), (.int .u8 n49), (.int .u8 n50), (.int .u8 n51), (.int .u8 n52), (.string s53), (.string s54), (.int .i64 n55), (.slice (q56) k57 k58), (.int .u8 n59), (.string s60), (.string s61), (.string s62), (.bool b63), (.int .u32 n64)])) ∧
             (X.Kept L38 w37 w40) ∧
             (X.FactsW x35 w40 (L38)) ∧
             ∃ w65 : World, (Sem.run Try.prog (Go.Instr.mapUpdate 89 (.map (q36)) (.agg #[(.int .u8 n16), (.int .u16 n17), (.int .u32 n18), (.int .u8 n19), (.int .u8 n20), (.int .u8 n21), (.int .u8 n22), (.int .u8 n23), (.int .u8 n24), (.int .u8 n25)]) (.agg #[(.int .u8 n41), (.int .u16 n42), (.int .u32 n43), (.int .u8 n44), (.int .u8 n45), (.int .u8 n46), (.int .u8 n47), (.int .u8 n48), (.int .u8 n49), (.int .u8 n50), (.int .u8 n51), (.int .u8 n52), (.string s53), (.string s54), (.int .i64 n55), (.slice (q56) k57 k58), (.int .u8 n59), (.string s60), (.string s61), (.string s62), (.bool b63), (.int .u32 n64)])) w40 = .ok (PUnit.unit) w65) ∧
             (X.Kept L38 w40 w65) ∧
             ∀ w66 : World, (X.Hid (L38) w65 w66) →
             R (.returned (.tuple #[(.agg #[(.int .u8 n16), (.int .u16 n17), (.int .u32 n18), (.int .u8 n19), (.int .u8 n20), (.int .u8 n21), (.int .u8 n22), (.int .u8 n23), (.int .u8 n24), (.int .u8 n25)]), (.int .i64 0)])) w66) ∧
      ∀ w70 : World, ∀ L71 : List Nat, (X.Hid (L2) w8 w70) →
      (X.NewL (w).heap.size (L2) w8 w70 L71) →
      X.CallX Try.prog 30 #[(.agg #[(.int .u8 b_0), (.int .u16 b_1), (.int .u32 b_2), (.int .u8 b_3), (.int .u8 b_4), (.int .u8 b_5), (.int .u8 b_6), (.int .u8 b_7), (.int .u8 b_8), (.int .u8 b_9)]), (.int .u8 n11), (.int .u8 0)] w70 fun e72 w73 =>
       ∃ n74 : Int, ∃ n75 : Int, ∃ n76 : Int, ∃ n77 : Int, ∃ n78 : Int, ∃ n79 : Int, ∃ n80 : Int, ∃ n81 : Int, ∃ n82 : Int, ∃ n83 : Int, ∃ n84 : Int, (e72 = .returned (.tuple #[(.agg #[(.int .u8 n74), (.int .u16 n75), (.int .u32 n76), (.int .u8 n77), (.int .u8 n78), (.int .u8 n79), (.int .u8 n80), (.int .u8 n81), (.int .u8 n82), (.int .u8 n83)]), (.int .i64 n84)])) ∧
       (X.Kept L71 w70 w73) ∧
       if (n84 != 0) = true then
        ∀ w127 : World, (X.Hid (L71) w73 w127) →
        R (.returned (.tuple #[(.agg #[(.int .u8 0), (.int .u16 0), (.int .u32 0), (.int .u8 0), (.int .u8 0), (.int .u8 0), (.int .u8 0), (.int .u8 0), (.int .u8 0), (.int .u8 0)]), (.int .i64 n84)])) w127
       else
        ∀ w85 : World, ∀ L86 : List Nat, (X.Hid (L71) w73 w85) →
        (X.NewL (w).heap.size (L71) w73 w85 L86) →
        X.CallX Try.prog 25 #[(.pointer (some a)), (.agg #[(.int .u8 n74), (.int .u16 n75), (.int .u32 n76), (.int .u8 n77), (.int .u8 n78), (.int .u8 n79), (.int .u8 n80), (.int .u8 n81), (.int .u8 n82), (.int .u8 n83)])] w85 fun e87 w88 =>
         ∃ b89 : Bool, (e87 = .returned (.bool b89)) ∧
         (X.Kept L86 w85 w88) ∧
         if b89 = true then
          ∀ w126 : World, (X.Hid (L86) w88 w126) →
          R (.returned (.tuple #[(.agg #[(.int .u8 0), (.int .u16 0), (.int .u32 0), (.int .u8 0), (.int .u8 0), (.int .u8 0), (.int .u8 0), (.int .u8 0), (.int .u8 0), (.int .u8 0)]), (.int .i64 4)])) w126
         else
          ∃ q90 : Option Nat, (World.cell? w88 (a.add 1) = some (.map (q90))) ∧
          (¬ ((a.block) ∈ L86)) ∧
          ∃ n91 : Int, ∃ w92 : World, (Sem.run Try.prog (Go.Builtin.len_ #[89] 3 #[(.map (q90))]) w88 = .ok (.int .i64 n91) w92) ∧
          (X.Kept L86 w88 w92) ∧
          if (decide (n91 ≥ 64)) = true then
           ∀ w125 : World, (X.Hid (L86) w92 w125) →
           R (.returned (.tuple #[(.agg #[(.int .u8 0), (.int .u16 0), (.int .u32 0), (.int .u8 0), (.int .u8 0), (.int .u8 0), (.int .u8 0), (.int .u8 0), (.int .u8 0), (.int .u8 0)]), (.int .i64 11)])) w125
          else
           ∃ x93 : X.Facts, (X.FactsW x93 w92 (L86)) ∧
           ∃ q94 : Option Nat, (((a.add 1), [(.map (q94))]) ∈ x93) ∧
           ∀ w95 : World, ∀ L96 : List Nat, (X.Hid (L86) w92 w95) →
           (X.NewL (w).heap.size (L86) w92 w95 L96) →
           X.CallX Try.prog 31 #[(.agg #[(.int .u8 b_0), (.int .u16 b_1), (.int .u32 b_2), (.int .u8 b_3), (.int .u8 b_4), (.int .u8 b_5), (.int .u8 b_6), (.int .u8 b_7), (.int .u8 b_8), (.int .u8 b_9), (.int .u8 b_10), (.int .u8 b_11), (.string b_12), (.string b_13), (.int .i64 b_14), (.slice (b_15) b_15l b_15c), (.int .u8 b_16), (.string b_17), (.string b_18), (.string b_19), (.bool b_20), (.int .u32 b_21)])] w95 fun e97 w98 =>
            ∃ n99 : Int, ∃ n100 : Int, ∃ n101 : Int, ∃ n102 : Int, ∃ n103 : Int, ∃ n104 : Int, ∃ n105 : Int, ∃ n106 : Int, ∃ n107 : Int, ∃ n108 : Int, ∃ n109 : Int, ∃ n110 : Int, ∃ s111 : ByteArray, ∃ s112 : ByteArray, ∃ n113 : Int, ∃ q114 : Option Addr, ∃ k115 : Nat, ∃ k116 : Nat, ∃ n117 : Int, ∃ s118 : ByteArray, ∃ s119 : ByteArray, ∃ s120 : ByteArray, ∃ b121 : Bool, ∃ n122 : Int, (e97 = .returned (.agg #[(.int .u8 n99), (.int .u16 n100), (.int .u32 n101), (.int .u8 n102), (.int .u8 n103), (.int .u8 n104), (.int .u8 n105), (.int .u8 n106), (.int .u8 n107), (.int .u8 n108), (.int .u8 n109), (.int .u8 n110), (.string s111), (.string s112), (.int .i64 n113), (.slice (q114) k115 k116), (.int .u8 n117), (.string s118), (.string s119), (.string s120), (.bool b121), (.int .u32 n122)])) ∧
            (X.Kept L96 w95 w98) ∧
            (X.FactsW x93 w98 (L96)) ∧
            ∃ w123 : World, (Sem.run Try.prog (Go.Instr.mapUpdate 89 (.map (q94)) (.agg #[(.int .u8 n74), (.int .u16 n75), (.int .u32 n76), (.int .u8 n77), (.int .u8 n78), (.int .u8 n79), (.int .u8 n80), (.int .u8 n81), (.int .u8 n82), (.int .u8 n83)]) (.agg #[(.int .u8 n99), (.int .u16 n100), (.int .u32 n101), (.int .u8 n102), (.int .u8 n103), (.int .u8 n104), (.int .u8 n105), (.int .u8 n106), (.int .u8 n107), (.int .u8 n108), (.int .u8 n109), (.int .u8 n110), (.string s111), (.string s112), (.int .i64 n113), (.slice (q114) k115 k116), (.int .u8 n117), (.string s118), (.string s119), (.string s120), (.bool b121), (.int .u32 n122)])) w98 = .ok (PUnit.unit) w123) ∧
            (X.Kept L96 w98 w123) ∧
            ∀ w124 : World, (X.Hid (L96) w123 w124) →
            R (.returned (.tuple #[(.agg #[(.int .u8 n74), (.int .u16 n75), (.int .u32 n76), (.int .u8 n77), (.int .u8 n78), (.int .u8 n79), (.int .u8 n80), (.int .u8 n81), (.int .u8 n82), (.int .u8 n83)]), (.int .i64 0)])) w124
   else
    ∀ w6 : World, (X.Hid (L2) w4 w6) →
    R (.returned (.tuple #[(.agg #[(.int .u8 0), (.int .u16 0), (.int .u32 0), (.int .u8 0), (.int .u8 0), (.int .u8 0), (.int .u8 0), (.int .u8 0), (.int .u8 0), (.int .u8 0)]), (.int .i64 1)])) w6) :
    Calls Try.prog 8 #[.pointer (some a), .agg #[.int .u8 b_0, .int .u16 b_1, .int .u32 b_2, .int .u8 b_3, .int .u8 b_4, .int .u8 b_5, .int .u8 b_6, .int .u8 b_7, .int .u8 b_8, .int .u8 b_9, .int .u8 b_10, .int .u8 b_11, .string b_12, .string b_13, .int .i64 b_14, .slice b_15 b_15l b_15c, .int .u8 b_16, .string b_17, .string b_18, .string b_19, .bool b_20, .int .u32 b_21]] w R :=
  X.calls_of { isLoc := [3, 4, 6], sym := [41], loops := [], joins := [], stored := [(3, [6])] } Try.func8 (by kernel_rfl) h
abbrev fn_cont_Table_All : Nat := 24
theorem x_cont_Table_All (a : Addr) (w : World) (R : Ending → World → Prop) (h :
  X.CallX Try.prog 28 #[(.pointer (some a))] w fun e1 w2 =>
   ∃ b3 : Bool, (e1 = .returned (.bool b3)) ∧
   ((w).heap.size ≤ (w2).heap.size) ∧
   if b3 = true then
    R (.returned (.slice none 0 0)) w2
   else
    X.CallX Try.prog 49 #[(.pointer (some a))] w2 fun e4 w5 =>
     ∃ v6 : Value, (e4 = .returned (v6)) ∧
     ((w2).heap.size ≤ (w5).heap.size) ∧
     X.CallX Try.prog 48 #[(v6)] w5 fun e7 w8 =>
      ∃ q9 : Option Addr, ∃ k10 : Nat, ∃ k11 : Nat, (e7 = .returned (.slice (q9) k10 k11)) ∧
      ((w5).heap.size ≤ (w8).heap.size) ∧
      R (.returned (.slice (q9) k10 k11)) w8) :
    Calls Try.prog 24 #[.pointer (some a)] w R :=
  X.calls_of { isLoc := [], sym := [], loops := [], joins := [] } Try.func24 (by kernel_rfl) h
abbrev fn_cont_Table_each : Nat := 49
theorem x_cont_Table_each (a : Addr) (w : World) (R : Ending → World → Prop) (h :
  R (.returned (.func (.func 58) #[] #[(.pointer (some ⟨(w).heap.size, 0, none⟩))])) (w.alloc (.cells #[(.pointer (some a))] 45))) :
    Calls Try.prog 49 #[.pointer (some a)] w R :=
  X.calls_of { isLoc := [], sym := [], loops := [], joins := [] } Try.func49 (by kernel_rfl) h
abbrev fn_part_Part_Right : Nat := 51
theorem x_part_Part_Right (a_0 a_1 : Int) (a_2 a_3 : ByteArray) (a_4 : Int) (w : World) (R : Ending → World → Prop) (h :
  if (((decide (a_0 < 4) && (!((a_2.toList) == ((ByteArray.mk #[]).toList)))) && decide ((((a_2.size) : Nat) : Int) ≤ 16)) == true) = true then
   ∀ w2 : World, ∀ L3 : List Nat, (X.Hid [] w w2) →
   (X.NewL (w).heap.size [] w w2 L3) →
   X.CallX Try.prog 63 #[(.agg #[(.int .u8 a_0), (.int .u8 a_1), (.string a_2), (.string a_3), (.int .i64 a_4)])] w2 fun e4 w5 =>
    ∃ b6 : Bool, (e4 = .returned (.bool b6)) ∧
    (X.Kept L3 w2 w5) ∧
    R (.returned (.bool (true && b6))) w5
  else
   ∀ w1 : World, (X.Hid [] w w1) →
   R (.returned (.bool false)) w1) :
    Calls Try.prog 51 #[.agg #[.int .u8 a_0, .int .u8 a_1, .string a_2, .string a_3, .int .i64 a_4]] w R :=
  X.calls_of { isLoc := [1], sym := [], loops := [], joins := [] } Try.func51 (by kernel_rfl) h
abbrev fn_part_Part_fits : Nat := 63
theorem x_part_Part_fits (a_0 a_1 : Int) (a_2 a_3 : ByteArray) (a_4 : Int) (w : World) (R : Ending → World → Prop) (h :
  if (a_1 == 1) = true then
   ∀ w9 : World, (X.Hid [] w w9) →
   R (.returned (.bool (decide ((((a_3.size) : Nat) : Int) ≤ 64) && (a_4 == 0)))) w9
  else
   if (a_1 == 2) = true then
    if (a_1 == 2) = true then
     ∀ w8 : World, (X.Hid [] w w8) →
     R (.returned (.bool (((a_3.toList) == ((ByteArray.mk #[]).toList)) && decide (a_4 ≥ 0)))) w8
    else
     if (a_1 == 0) = true then
      ∀ w7 : World, (X.Hid [] w w7) →
      R (.returned (.bool (((a_3.toList) == ((ByteArray.mk #[]).toList)) && (a_4 == 0)))) w7
     else
      if (a_1 == 4) = true then
       ∀ w6 : World, (X.Hid [] w w6) →
       R (.returned (.bool (((a_3.toList) == ((ByteArray.mk #[]).toList)) && (a_4 == 0)))) w6
      else
       ∀ w5 : World, (X.Hid [] w w5) →
       R (.returned (.bool false)) w5
   else
    if (a_1 == 3) = true then
     ∀ w4 : World, (X.Hid [] w w4) →
     R (.returned (.bool (((a_3.toList) == ((ByteArray.mk #[]).toList)) && decide (a_4 ≥ 0)))) w4
    else
     if (a_1 == 0) = true then
      ∀ w3 : World, (X.Hid [] w w3) →
      R (.returned (.bool (((a_3.toList) == ((ByteArray.mk #[]).toList)) && (a_4 == 0)))) w3
     else
      if (a_1 == 4) = true then
       ∀ w2 : World, (X.Hid [] w w2) →
       R (.returned (.bool (((a_3.toList) == ((ByteArray.mk #[]).toList)) && (a_4 == 0)))) w2
      else
       ∀ w1 : World, (X.Hid [] w w1) →
       R (.returned (.bool false)) w1) :
    Calls Try.prog 63 #[.agg #[.int .u8 a_0, .int .u8 a_1, .string a_2, .string a_3, .int .i64 a_4]] w R :=
  X.calls_of { isLoc := [1], sym := [], loops := [], joins := [] } Try.func63 (by kernel_rfl) h
abbrev fn_part_Right_1 : Nat := 65
theorem x_part_Right_1 (a_0 a_1 : Int) (a_2 a_3 : ByteArray) (a_4 : Int) (w : World) (R : Ending → World → Prop) (h :
  ∀ w1 : World, ∀ L2 : List Nat, (X.Hid [] w w1) →
  (X.NewL (w).heap.size [] w w1 L2) →
  X.CallX Try.prog 51 #[(.agg #[(.int .u8 a_0), (.int .u8 a_1), (.string a_2), (.string a_3), (.int .i64 a_4)])] w1 fun e3 w4 =>
   ∃ b5 : Bool, (e3 = .returned (.bool b5)) ∧
   (X.Kept L2 w1 w4) ∧
   R (.returned (.bool (!b5))) w4) :
    Calls Try.prog 65 #[.agg #[.int .u8 a_0, .int .u8 a_1, .string a_2, .string a_3, .int .i64 a_4]] w R :=
  X.calls_of { isLoc := [1], sym := [], loops := [], joins := [] } Try.func65 (by kernel_rfl) h
abbrev fn_part_Right : Nat := 52
theorem x_part_Right (a : Option Addr) (al ac : Nat) (w : World) (R : Ending → World → Prop) (h :
  if (decide (((al : Nat) : Int) < 1) || decide (((al : Nat) : Int) > 4)) = true then
   R (.returned (.bool false)) w
  else
   X.CallX Try.prog 64 #[(.slice (a) al ac), (.func (.func 65) #[] #[])] w fun e1 w2 =>
    ∃ b3 : Bool, (e1 = .returned (.bool b3)) ∧
    ((w).heap.size ≤ (w2).heap.size) ∧
    R (.returned (.bool (!b3))) w2) :
    Calls Try.prog 52 #[.slice a al ac] w R :=
  X.calls_of { isLoc := [], sym := [], loops := [], joins := [] } Try.func52 (by kernel_rfl) h
abbrev fn_ContainsF : Nat := 64
theorem x_ContainsF (a : Option Addr) (al ac : Nat) (w : World) (R : Ending → World → Prop) (h :
  X.CallX Try.prog 76 #[(.slice (a) al ac), (.func (.func (OfNat.ofNat 65)) #[] #[])] w fun e1 w2 =>
   ∃ n3 : Int, (e1 = .returned (.int .i64 n3)) ∧
   ((w).heap.size ≤ (w2).heap.size) ∧
   R (.returned (.bool (decide (n3 ≥ 0)))) w2) :
    Calls Try.prog 64 #[.slice a al ac, .func (.func 65) #[] #[]] w R :=
  X.calls_of { isLoc := [], sym := [], loops := [], joins := [] } Try.func64 (by kernel_rfl) h
abbrev fn_IndexF : Nat := 76
theorem x_IndexF (a : Option Addr) (al ac : Nat) (w : World) (R : Ending → World → Prop) (h :
  ∃ x1 : Int → World → List Nat → Prop, ∃ x2 : Int → World → Nat, (x1 0 w []) ∧
  ∀ n3 : Int, ∀ w4 : World, ∀ L5 : List Nat, (X.LF (w).heap.size w4 L5) →
  (x1 n3 w4 L5) →
  if (decide (n3 < ((al : Nat) : Int))) = true then
   ((0 : Int) ≤ n3) ∧
   (n3 < ((al : Nat) : Int)) ∧
   X.onSome (a) fun p6 =>
   ∃ n7 : Int, ∃ n8 : Int, ∃ s9 : ByteArray, ∃ s10 : ByteArray, ∃ n11 : Int, (X.Cells w4 (p6.add ((n3).toNat * 5)) [(.int .u8 n7), (.int .u8 n8), (.string s9), (.string s10), (.int .i64 n11)]) ∧
   X.CallX Try.prog (OfNat.ofNat 65) #[(.agg #[(.int .u8 n7), (.int .u8 n8), (.string s9), (.string s10), (.int .i64 n11)])] w4 fun e12 w13 =>
    ∃ b14 : Bool, (e12 = .returned (.bool b14)) ∧
    ((w4).heap.size ≤ (w13).heap.size) ∧
    if b14 = true then
     R (.returned (.int .i64 n3)) w13
    else
     (x1 (IntKind.wrap .i64 (n3 + 1)) w13 []) ∧
     Nat.le ((x2 (IntKind.wrap .i64 (n3 + 1)) w13) + 1) (x2 n3 w4)
  else
   R (.returned (.int .i64 (-1))) w4) :
    Calls Try.prog 76 #[.slice a al ac, .func (.func 65) #[] #[]] w R :=
  X.calls_of { isLoc := [], sym := [], loops := [(2, .inv [(8, .int .i64)] [] true)], joins := [] } Try.func76 (by kernel_rfl) h
end Go.Proofs
