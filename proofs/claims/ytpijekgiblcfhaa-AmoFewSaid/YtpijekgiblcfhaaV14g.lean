import Derived.Test.YtpijekgiblcfhaaXFn
import Derived.Test.YtpijekgiblcfhaaProg
/- The verification conditions of this seat's functions, as the engine has them: printed by a program of the bench; checked by the kernel. -/
set_option maxRecDepth 100000
set_option linter.unusedVariables false
namespace Go.Proofs
open Go
abbrev fn_ident_Compare : Nat := 46
theorem x_ident_Compare (a_0 a_1 a_2 a_3 a_4 a_5 a_6 a_7 a_8 a_9 b_0 b_1 b_2 b_3 b_4 b_5 b_6 b_7 b_8 b_9 : Int) (w : World) (R : Ending → World → Prop) (h :
  ∃ x1 : X.Facts, (X.FactsW x1 ((w.alloc (.cells #[(.int .u8 a_0), (.int .u16 a_1), (.int .u32 a_2), (.int .u8 a_3), (.int .u8 a_4), (.int .u8 a_5), (.int .u8 a_6), (.int .u8 a_7), (.int .u8 a_8), (.int .u8 a_9)] 54)).alloc (.cells #[(.int .u8 b_0), (.int .u16 b_1), (.int .u32 b_2), (.int .u8 b_3), (.int .u8 b_4), (.int .u8 b_5), (.int .u8 b_6), (.int .u8 b_7), (.int .u8 b_8), (.int .u8 b_9)] 54)) []) ∧
  ∃ n2 : Int, ∃ n3 : Int, ∃ n4 : Int, ∃ n5 : Int, ∃ n6 : Int, ∃ n7 : Int, ∃ n8 : Int, ∃ n9 : Int, ∃ n10 : Int, ∃ n11 : Int, ((⟨(w).heap.size, 0, none⟩, [(.int .u8 n2), (.int .u16 n3), (.int .u32 n4), (.int .u8 n5), (.int .u8 n6), (.int .u8 n7), (.int .u8 n8), (.int .u8 n9), (.int .u8 n10), (.int .u8 n11)]) ∈ x1) ∧
  ∃ n12 : Int, ∃ n13 : Int, ∃ n14 : Int, ∃ n15 : Int, ∃ n16 : Int, ∃ n17 : Int, ∃ n18 : Int, ∃ n19 : Int, ∃ n20 : Int, ∃ n21 : Int, ((⟨((w.alloc (.cells #[(.int .u8 a_0), (.int .u16 a_1), (.int .u32 a_2), (.int .u8 a_3), (.int .u8 a_4), (.int .u8 a_5), (.int .u8 a_6), (.int .u8 a_7), (.int .u8 a_8), (.int .u8 a_9)] 54))).heap.size, 0, none⟩, [(.int .u8 n12), (.int .u16 n13), (.int .u32 n14), (.int .u8 n15), (.int .u8 n16), (.int .u8 n17), (.int .u8 n18), (.int .u8 n19), (.int .u8 n20), (.int .u8 n21)]) ∈ x1) ∧
  ∀ w22 : World, (X.Hid [] ((w.alloc (.cells #[(.int .u8 a_0), (.int .u16 a_1), (.int .u32 a_2), (.int .u8 a_3), (.int .u8 a_4), (.int .u8 a_5), (.int .u8 a_6), (.int .u8 a_7), (.int .u8 a_8), (.int .u8 a_9)] 54)).alloc (.cells #[(.int .u8 b_0), (.int .u16 b_1), (.int .u32 b_2), (.int .u8 b_3), (.int .u8 b_4), (.int .u8 b_5), (.int .u8 b_6), (.int .u8 b_7), (.int .u8 b_8), (.int .u8 b_9)] 54)) w22) →
  X.CallX Try.prog 62 #[(.agg #[(.int .u8 n2), (.int .u16 n3), (.int .u32 n4), (.int .u8 n5), (.int .u8 n6), (.int .u8 n7), (.int .u8 n8), (.int .u8 n9), (.int .u8 n10), (.int .u8 n11)])] w22 fun e23 w24 =>
   ∃ q25 : Option Addr, ∃ k26 : Nat, ∃ k27 : Nat, (e23 = .returned (.slice (q25) k26 k27)) ∧
   ((w22).heap.size ≤ (w24).heap.size) ∧
   (X.FactsW x1 w24 []) ∧
   X.CallX Try.prog 62 #[(.agg #[(.int .u8 n12), (.int .u16 n13), (.int .u32 n14), (.int .u8 n15), (.int .u8 n16), (.int .u8 n17), (.int .u8 n18), (.int .u8 n19), (.int .u8 n20), (.int .u8 n21)])] w24 fun e28 w29 =>
    ∃ q30 : Option Addr, ∃ k31 : Nat, ∃ k32 : Nat, (e28 = .returned (.slice (q30) k31 k32)) ∧
    ((w24).heap.size ≤ (w29).heap.size) ∧
    (X.FactsW x1 w29 []) ∧
    ∃ x33 : X.Facts, (X.FactsW x33 w29 []) ∧
    ∃ n34 : Int, ∃ n35 : Int, ((⟨(w).heap.size, 0, none⟩, [(.int .u8 n34), (.int .u16 n35)]) ∈ x33) ∧
    ∃ n36 : Int, ∃ n37 : Int, ((⟨((w.alloc (.cells #[(.int .u8 a_0), (.int .u16 a_1), (.int .u32 a_2), (.int .u8 a_3), (.int .u8 a_4), (.int .u8 a_5), (.int .u8 a_6), (.int .u8 a_7), (.int .u8 a_8), (.int .u8 a_9)] 54))).heap.size, 0, none⟩, [(.int .u8 n36), (.int .u16 n37)]) ∈ x33) ∧
    ∃ n38 : Int, ((⟨(w).heap.size, (0 + 2), none⟩, [(.int .u32 n38)]) ∈ x33) ∧
    ∃ n39 : Int, ((⟨((w.alloc (.cells #[(.int .u8 a_0), (.int .u16 a_1), (.int .u32 a_2), (.int .u8 a_3), (.int .u8 a_4), (.int .u8 a_5), (.int .u8 a_6), (.int .u8 a_7), (.int .u8 a_8), (.int .u8 a_9)] 54))).heap.size, (0 + 2), none⟩, [(.int .u32 n39)]) ∈ x33) ∧
    ((0 : Int) ≤ (if ((k31 : Nat) : Int) < ((k26 : Nat) : Int) then ((k31 : Nat) : Int) else ((k26 : Nat) : Int))) ∧
    ((if ((k31 : Nat) : Int) < ((k26 : Nat) : Int) then ((k31 : Nat) : Int) else ((k26 : Nat) : Int)) ≤ ((k27 : Nat) : Int)) ∧
    ((0 : Int) ≤ (if ((k31 : Nat) : Int) < ((k26 : Nat) : Int) then ((k31 : Nat) : Int) else ((k26 : Nat) : Int))) ∧
    ((if ((k31 : Nat) : Int) < ((k26 : Nat) : Int) then ((k31 : Nat) : Int) else ((k26 : Nat) : Int)) ≤ ((k32 : Nat) : Int)) ∧
    ∃ n40 : Int, ((⟨(w).heap.size, (0 + 3), none⟩, [(.int .u8 n40)]) ∈ x33) ∧
    ∃ n41 : Int, ((⟨((w.alloc (.cells #[(.int .u8 a_0), (.int .u16 a_1), (.int .u32 a_2), (.int .u8 a_3), (.int .u8 a_4), (.int .u8 a_5), (.int .u8 a_6), (.int .u8 a_7), (.int .u8 a_8), (.int .u8 a_9)] 54))).heap.size, (0 + 3), none⟩, [(.int .u8 n41)]) ∈ x33) ∧
    ∀ w42 : World, (X.Hid [] w29 w42) →
    X.CallX Try.prog 64 #[(.agg #[(.int .u8 n34), (.int .u16 n35)]), (.agg #[(.int .u8 n36), (.int .u16 n37)])] w42 fun e43 w44 =>
     ∃ n45 : Int, (e43 = .returned (.int .i64 n45)) ∧
     ((w42).heap.size ≤ (w44).heap.size) ∧
     (X.FactsW x33 w44 []) ∧
     X.CallX Try.prog 65 #[(.int .u32 n38), (.int .u32 n39)] w44 fun e46 w47 =>
      ∃ n48 : Int, (e46 = .returned (.int .i64 n48)) ∧
      ((w44).heap.size ≤ (w47).heap.size) ∧
      (X.FactsW x33 w47 []) ∧
      X.CallX Try.prog 66 #[(.slice (X.cutA (q25) k27 0 2) ((if ((k31 : Nat) : Int) < ((k26 : Nat) : Int) then ((k31 : Nat) : Int) else ((k26 : Nat) : Int))).toNat k27), (.slice (X.cutA (q30) k32 0 2) ((if ((k31 : Nat) : Int) < ((k26 : Nat) : Int) then ((k31 : Nat) : Int) else ((k26 : Nat) : Int))).toNat k32), (.func (.func 67) #[] #[])] w47 fun e49 w50 =>
       ∃ n51 : Int, (e49 = .returned (.int .i64 n51)) ∧
       ((w47).heap.size ≤ (w50).heap.size) ∧
       (X.FactsW x33 w50 []) ∧
       X.CallX Try.prog 68 #[(.int .u8 n40), (.int .u8 n41)] w50 fun e52 w53 =>
        ∃ n54 : Int, (e52 = .returned (.int .i64 n54)) ∧
        ((w50).heap.size ≤ (w53).heap.size) ∧
        (X.FactsW x33 w53 []) ∧
        X.CallX Try.prog 66 #[(.slice (some ⟨(w).heap.size, (0 + 4), none⟩) 3 3), (.slice (some ⟨((w.alloc (.cells #[(.int .u8 a_0), (.int .u16 a_1), (.int .u32 a_2), (.int .u8 a_3), (.int .u8 a_4), (.int .u8 a_5), (.int .u8 a_6), (.int .u8 a_7), (.int .u8 a_8), (.int .u8 a_9)] 54))).heap.size, (0 + 4), none⟩) 3 3), (.func (.func 67) #[] #[])] w53 fun e55 w56 =>
         ∃ n57 : Int, (e55 = .returned (.int .i64 n57)) ∧
         ((w53).heap.size ≤ (w56).heap.size) ∧
         (X.FactsW x33 w56 []) ∧
         (X.FactsW x33 (w56.alloc (.cells #[(.int .i64 n45), (.int .i64 n48), (.int .i64 n51), (.int .i64 n54), (.int .i64 n57)] 3)) []) ∧
         X.CallX Try.prog 63 #[(.slice (some ⟨(w56).heap.size, 0, none⟩) 5 5)] (w56.alloc (.cells #[(.int .i64 n45), (.int .i64 n48), (.int .i64 n51), (.int .i64 n54), (.int .i64 n57)] 3)) fun e58 w59 =>
          ∃ n60 : Int, (e58 = .returned (.int .i64 n60)) ∧
          (((w56.alloc (.cells #[(.int .i64 n45), (.int .i64 n48), (.int .i64 n51), (.int .i64 n54), (.int .i64 n57)] 3))).heap.size ≤ (w59).heap.size) ∧
          (X.FactsW x33 w59 []) ∧
          R (.returned (.int .i64 n60)) w59) :
    Calls Try.prog 46 #[.agg #[.int .u8 a_0, .int .u16 a_1, .int .u32 a_2, .int .u8 a_3, .int .u8 a_4, .int .u8 a_5, .int .u8 a_6, .int .u8 a_7, .int .u8 a_8, .int .u8 a_9], .agg #[.int .u8 b_0, .int .u16 b_1, .int .u32 b_2, .int .u8 b_3, .int .u8 b_4, .int .u8 b_5, .int .u8 b_6, .int .u8 b_7, .int .u8 b_8, .int .u8 b_9]] w R :=
  X.calls_of { isLoc := [], sym := [], loops := [], joins := [] } Try.func46 (by kernel_rfl) h
abbrev fn_ident_CompareProcs : Nat := 64
theorem x_ident_CompareProcs (a_0 a_1 b_0 b_1 : Int) (w : World) (R : Ending → World → Prop) (h :
  ∃ x1 : X.Facts, (X.FactsW x1 w []) ∧
  ∀ w2 : World, ∀ L3 : List Nat, (X.Hid [] w w2) →
  (X.NewL (w).heap.size [] w w2 L3) →
  X.CallX Try.prog 68 #[(.int .u8 a_0), (.int .u8 b_0)] w2 fun e4 w5 =>
   ∃ n6 : Int, (e4 = .returned (.int .i64 n6)) ∧
   (X.Kept L3 w2 w5) ∧
   (X.FactsW x1 w5 (L3)) ∧
   X.CallX Try.prog 82 #[(.int .u16 a_1), (.int .u16 b_1)] w5 fun e7 w8 =>
    ∃ n9 : Int, (e7 = .returned (.int .i64 n9)) ∧
    (X.Kept L3 w5 w8) ∧
    (X.FactsW x1 w8 (L3)) ∧
    (X.FactsW x1 (w8.alloc (.cells #[(.int .i64 n6), (.int .i64 n9)] 3)) (L3)) ∧
    X.CallX Try.prog 63 #[(.slice (some ⟨(w8).heap.size, 0, none⟩) 2 2)] (w8.alloc (.cells #[(.int .i64 n6), (.int .i64 n9)] 3)) fun e10 w11 =>
     ∃ n12 : Int, (e10 = .returned (.int .i64 n12)) ∧
     (X.Kept L3 (w8.alloc (.cells #[(.int .i64 n6), (.int .i64 n9)] 3)) w11) ∧
     (X.FactsW x1 w11 (L3)) ∧
     R (.returned (.int .i64 n12)) w11) :
    Calls Try.prog 64 #[.agg #[.int .u8 a_0, .int .u16 a_1], .agg #[.int .u8 b_0, .int .u16 b_1]] w R :=
  X.calls_of { isLoc := [2, 3], sym := [], loops := [], joins := [] } Try.func64 (by kernel_rfl) h
abbrev fn_ident_ID_steps : Nat := 62
theorem x_ident_ID_steps (a_0 a_1 a_2 a_3 a_4 a_5 a_6 a_7 a_8 a_9 : Int) (w : World) (R : Ending → World → Prop) (h :
  ∀ w1 : World, ∀ L2 : List Nat, (X.Hid [] w w1) →
  (X.NewL (w).heap.size [] w w1 L2) →
  ((none : Option Nat) = none) ∧
  (World.there (w1.alloc (.cells #[(.int .u8 0), (.int .u8 0), (.int .u8 0), (.int .u8 0), (.int .u8 0), (.int .u8 0)] 52)) (w1).heap.size 0 6) ∧
  (¬ ((w1).heap.size ∈ L2)) ∧
  ((0 : Int) ≤ (if (3 : Int) < (IntKind.wrap .i64 a_3) then 3 else (IntKind.wrap .i64 a_3))) ∧
  ((if (3 : Int) < (IntKind.wrap .i64 a_3) then 3 else (IntKind.wrap .i64 a_3)) ≤ 3) ∧
  R (.returned (.slice (some ⟨(w1).heap.size, 0, none⟩) ((if (3 : Int) < (IntKind.wrap .i64 a_3) then 3 else (IntKind.wrap .i64 a_3))).toNat 3)) ((w1.alloc (.cells #[(.int .u8 0), (.int .u8 0), (.int .u8 0), (.int .u8 0), (.int .u8 0), (.int .u8 0)] 52)).setCells (w1).heap.size 0 [(.int .u8 a_4), (.int .u8 a_5), (.int .u8 a_6), (.int .u8 a_7), (.int .u8 a_8), (.int .u8 a_9)])) :
    Calls Try.prog 62 #[.agg #[.int .u8 a_0, .int .u16 a_1, .int .u32 a_2, .int .u8 a_3, .int .u8 a_4, .int .u8 a_5, .int .u8 a_6, .int .u8 a_7, .int .u8 a_8, .int .u8 a_9]] w R :=
  X.calls_of { isLoc := [1], sym := [], loops := [], joins := [] } Try.func62 (by kernel_rfl) h
abbrev fn_cmp_Or_int : Nat := 63
theorem x_cmp_Or_int (a : Option Addr) (al ac : Nat) (w : World) (R : Ending → World → Prop) (h :
  ∃ x1 : Int → World → List Nat → Prop, ∃ x2 : Int → World → Nat, (x1 0 w []) ∧
  ∀ n3 : Int, ∀ w4 : World, ∀ L5 : List Nat, (X.LF (w).heap.size w4 L5) →
  (x1 n3 w4 L5) →
  if (decide (n3 < ((al : Nat) : Int))) = true then
   ((0 : Int) ≤ n3) ∧
   (n3 < ((al : Nat) : Int)) ∧
   X.onSome (a) fun p6 =>
   ∃ n7 : Int, (World.cell? w4 (p6.add ((n3).toNat * 1)) = some (.int .i64 n7)) ∧
   if (n7 != 0) = true then
    R (.returned (.int .i64 n7)) w4
   else
    (x1 (IntKind.wrap .i64 (n3 + 1)) w4 []) ∧
    Nat.le ((x2 (IntKind.wrap .i64 (n3 + 1)) w4) + 1) (x2 n3 w4)
  else
   R (.returned (.int .i64 0)) w4) :
    Calls Try.prog 63 #[.slice a al ac] w R :=
  X.calls_of { isLoc := [], sym := [], loops := [(3, .inv [(8, .int .i64)] [] true)], joins := [] } Try.func63 (by kernel_rfl) h
abbrev fn_ident_compareSteps : Nat := 67
theorem x_ident_compareSteps (a_0 a_1 b_0 b_1 : Int) (w : World) (R : Ending → World → Prop) (h :
  ∃ x1 : X.Facts, (X.FactsW x1 w []) ∧
  ∀ w2 : World, ∀ L3 : List Nat, (X.Hid [] w w2) →
  (X.NewL (w).heap.size [] w w2 L3) →
  X.CallX Try.prog 68 #[(.int .u8 a_0), (.int .u8 b_0)] w2 fun e4 w5 =>
   ∃ n6 : Int, (e4 = .returned (.int .i64 n6)) ∧
   (X.Kept L3 w2 w5) ∧
   (X.FactsW x1 w5 (L3)) ∧
   X.CallX Try.prog 68 #[(.int .u8 a_1), (.int .u8 b_1)] w5 fun e7 w8 =>
    ∃ n9 : Int, (e7 = .returned (.int .i64 n9)) ∧
    (X.Kept L3 w5 w8) ∧
    (X.FactsW x1 w8 (L3)) ∧
    (X.FactsW x1 (w8.alloc (.cells #[(.int .i64 n6), (.int .i64 n9)] 3)) (L3)) ∧
    X.CallX Try.prog 63 #[(.slice (some ⟨(w8).heap.size, 0, none⟩) 2 2)] (w8.alloc (.cells #[(.int .i64 n6), (.int .i64 n9)] 3)) fun e10 w11 =>
     ∃ n12 : Int, (e10 = .returned (.int .i64 n12)) ∧
     (X.Kept L3 (w8.alloc (.cells #[(.int .i64 n6), (.int .i64 n9)] 3)) w11) ∧
     (X.FactsW x1 w11 (L3)) ∧
     R (.returned (.int .i64 n12)) w11) :
    Calls Try.prog 67 #[.agg #[.int .u8 a_0, .int .u8 a_1], .agg #[.int .u8 b_0, .int .u8 b_1]] w R :=
  X.calls_of { isLoc := [2, 3], sym := [], loops := [], joins := [] } Try.func67 (by kernel_rfl) h
abbrev fn_cmp_Compare_uint8 : Nat := 68
theorem x_cmp_Compare_uint8 (a b : Int) (w : World) (R : Ending → World → Prop) (h :
  X.CallX Try.prog 84 #[(.int .u8 a)] w fun e1 w2 =>
   ∃ b3 : Bool, (e1 = .returned (.bool b3)) ∧
   ((w).heap.size ≤ (w2).heap.size) ∧
   X.CallX Try.prog 84 #[(.int .u8 b)] w2 fun e4 w5 =>
    ∃ b6 : Bool, (e4 = .returned (.bool b6)) ∧
    ((w2).heap.size ≤ (w5).heap.size) ∧
    if b3 = true then
     if b6 = true then
      R (.returned (.int .i64 0)) w5
     else
      R (.returned (.int .i64 (-1))) w5
    else
     if b6 = true then
      R (.returned (.int .i64 1)) w5
     else
      if (decide (a < b)) = true then
       R (.returned (.int .i64 (-1))) w5
      else
       if (decide (a > b)) = true then
        R (.returned (.int .i64 1)) w5
       else
        R (.returned (.int .i64 0)) w5) :
    Calls Try.prog 68 #[.int .u8 a, .int .u8 b] w R :=
  X.calls_of { isLoc := [], sym := [], loops := [], joins := [] } Try.func68 (by kernel_rfl) h
abbrev fn_cmp_Compare_uint16 : Nat := 82
theorem x_cmp_Compare_uint16 (a b : Int) (w : World) (R : Ending → World → Prop) (h :
  X.CallX Try.prog 92 #[(.int .u16 a)] w fun e1 w2 =>
   ∃ b3 : Bool, (e1 = .returned (.bool b3)) ∧
   ((w).heap.size ≤ (w2).heap.size) ∧
   X.CallX Try.prog 92 #[(.int .u16 b)] w2 fun e4 w5 =>
    ∃ b6 : Bool, (e4 = .returned (.bool b6)) ∧
    ((w2).heap.size ≤ (w5).heap.size) ∧
    if b3 = true then
     if b6 = true then
      R (.returned (.int .i64 0)) w5
     else
      R (.returned (.int .i64 (-1))) w5
    else
     if b6 = true then
      R (.returned (.int .i64 1)) w5
     else
      if (decide (a < b)) = true then
       R (.returned (.int .i64 (-1))) w5
      else
       if (decide (a > b)) = true then
        R (.returned (.int .i64 1)) w5
       else
        R (.returned (.int .i64 0)) w5) :
    Calls Try.prog 82 #[.int .u16 a, .int .u16 b] w R :=
  X.calls_of { isLoc := [], sym := [], loops := [], joins := [] } Try.func82 (by kernel_rfl) h
abbrev fn_cmp_Compare_uint32 : Nat := 65
theorem x_cmp_Compare_uint32 (a b : Int) (w : World) (R : Ending → World → Prop) (h :
  X.CallX Try.prog 83 #[(.int .u32 a)] w fun e1 w2 =>
   ∃ b3 : Bool, (e1 = .returned (.bool b3)) ∧
   ((w).heap.size ≤ (w2).heap.size) ∧
   X.CallX Try.prog 83 #[(.int .u32 b)] w2 fun e4 w5 =>
    ∃ b6 : Bool, (e4 = .returned (.bool b6)) ∧
    ((w2).heap.size ≤ (w5).heap.size) ∧
    if b3 = true then
     if b6 = true then
      R (.returned (.int .i64 0)) w5
     else
      R (.returned (.int .i64 (-1))) w5
    else
     if b6 = true then
      R (.returned (.int .i64 1)) w5
     else
      if (decide (a < b)) = true then
       R (.returned (.int .i64 (-1))) w5
      else
       if (decide (a > b)) = true then
        R (.returned (.int .i64 1)) w5
       else
        R (.returned (.int .i64 0)) w5) :
    Calls Try.prog 65 #[.int .u32 a, .int .u32 b] w R :=
  X.calls_of { isLoc := [], sym := [], loops := [], joins := [] } Try.func65 (by kernel_rfl) h
abbrev fn_slices_CompareFunc_ident_Step_ident_Step_ident_Step_ident_Step : Nat := 66
theorem x_slices_CompareFunc_ident_Step_ident_Step_ident_Step_ident_Step (a : Option Addr) (al ac : Nat) (b : Option Addr) (bl bc : Nat) (w : World) (R : Ending → World → Prop) (h :
  ∃ x1 : Int → World → List Nat → Prop, ∃ x2 : Int → World → Nat, (x1 0 w []) ∧
  ∀ n3 : Int, ∀ w4 : World, ∀ L5 : List Nat, (X.LF (w).heap.size w4 L5) →
  (x1 n3 w4 L5) →
  if (decide (n3 < ((al : Nat) : Int))) = true then
   ((0 : Int) ≤ n3) ∧
   (n3 < ((al : Nat) : Int)) ∧
   X.onSome (a) fun p6 =>
   ∃ n7 : Int, ∃ n8 : Int, (X.Cells w4 (p6.add ((n3).toNat * 2)) [(.int .u8 n7), (.int .u8 n8)]) ∧
   if (decide (n3 ≥ ((bl : Nat) : Int))) = true then
    ∀ w17 : World, (X.Hid [] w4 w17) →
    R (.returned (.int .i64 1)) w17
   else
    ((0 : Int) ≤ n3) ∧
    (n3 < ((bl : Nat) : Int)) ∧
    X.onSome (b) fun p9 =>
    ∃ n10 : Int, ∃ n11 : Int, (X.Cells w4 (p9.add ((n3).toNat * 2)) [(.int .u8 n10), (.int .u8 n11)]) ∧
    ∀ w12 : World, ∀ L13 : List Nat, (X.Hid [] w4 w12) →
    (X.NewL (w).heap.size [] w4 w12 L13) →
    X.CallX Try.prog (OfNat.ofNat 67) #[(.agg #[(.int .u8 n7), (.int .u8 n8)]), (.agg #[(.int .u8 n10), (.int .u8 n11)])] w12 fun e14 w15 =>
     ∃ n16 : Int, (e14 = .returned (.int .i64 n16)) ∧
     (X.Kept L13 w12 w15) ∧
     if (n16 != 0) = true then
      R (.returned (.int .i64 n16)) w15
     else
      (x1 (IntKind.wrap .i64 (n3 + 1)) w15 (L13)) ∧
      Nat.le ((x2 (IntKind.wrap .i64 (n3 + 1)) w15) + 1) (x2 n3 w4)
  else
   if (decide (((al : Nat) : Int) < ((bl : Nat) : Int))) = true then
    R (.returned (.int .i64 (-1))) w4
   else
    R (.returned (.int .i64 0)) w4) :
    Calls Try.prog 66 #[.slice a al ac, .slice b bl bc, .func (.func 67) #[] #[]] w R :=
  X.calls_of { isLoc := [8, 9], sym := [], loops := [(2, .inv [(13, .int .i64)] [] true)], joins := [] } Try.func66 (by kernel_rfl) h
abbrev fn_cmp_isNaN_uint8 : Nat := 84
theorem x_cmp_isNaN_uint8 (a : Int) (w : World) (R : Ending → World → Prop) (h :
  R (.returned (.bool (a != a))) w) :
    Calls Try.prog 84 #[.int .u8 a] w R :=
  X.calls_of { isLoc := [], sym := [], loops := [], joins := [] } Try.func84 (by kernel_rfl) h
abbrev fn_cmp_isNaN_uint16 : Nat := 92
theorem x_cmp_isNaN_uint16 (a : Int) (w : World) (R : Ending → World → Prop) (h :
  R (.returned (.bool (a != a))) w) :
    Calls Try.prog 92 #[.int .u16 a] w R :=
  X.calls_of { isLoc := [], sym := [], loops := [], joins := [] } Try.func92 (by kernel_rfl) h
abbrev fn_cmp_isNaN_uint32 : Nat := 83
theorem x_cmp_isNaN_uint32 (a : Int) (w : World) (R : Ending → World → Prop) (h :
  R (.returned (.bool (a != a))) w) :
    Calls Try.prog 83 #[.int .u32 a] w R :=
  X.calls_of { isLoc := [], sym := [], loops := [], joins := [] } Try.func83 (by kernel_rfl) h
abbrev fn_amo_Table_All_1 : Nat := 45
theorem x_amo_Table_All_1 (a_0 a_1 a_2 a_3 a_4 a_5 a_6 a_7 a_8 a_9 : Int) (a_10 : Bool) (a_11 : Int) (a_12 : ByteArray) (b_0 b_1 b_2 b_3 b_4 b_5 b_6 b_7 b_8 b_9 : Int) (b_10 : Bool) (b_11 : Int) (b_12 : ByteArray) (w : World) (R : Ending → World → Prop) (h :
  ∀ w1 : World, ∀ L2 : List Nat, (X.Hid [] w w1) →
  (X.NewL (w).heap.size [] w w1 L2) →
  X.CallX Try.prog 46 #[(.agg #[(.int .u8 a_0), (.int .u16 a_1), (.int .u32 a_2), (.int .u8 a_3), (.int .u8 a_4), (.int .u8 a_5), (.int .u8 a_6), (.int .u8 a_7), (.int .u8 a_8), (.int .u8 a_9)]), (.agg #[(.int .u8 b_0), (.int .u16 b_1), (.int .u32 b_2), (.int .u8 b_3), (.int .u8 b_4), (.int .u8 b_5), (.int .u8 b_6), (.int .u8 b_7), (.int .u8 b_8), (.int .u8 b_9)])] w1 fun e3 w4 =>
   ∃ n5 : Int, (e3 = .returned (.int .i64 n5)) ∧
   (X.Kept L2 w1 w4) ∧
   R (.returned (.int .i64 n5)) w4) :
    Calls Try.prog 45 #[.agg #[.int .u8 a_0, .int .u16 a_1, .int .u32 a_2, .int .u8 a_3, .int .u8 a_4, .int .u8 a_5, .int .u8 a_6, .int .u8 a_7, .int .u8 a_8, .int .u8 a_9, .bool a_10, .int .u8 a_11, .string a_12], .agg #[.int .u8 b_0, .int .u16 b_1, .int .u32 b_2, .int .u8 b_3, .int .u8 b_4, .int .u8 b_5, .int .u8 b_6, .int .u8 b_7, .int .u8 b_8, .int .u8 b_9, .bool b_10, .int .u8 b_11, .string b_12]] w R :=
  X.calls_of { isLoc := [2, 3], sym := [], loops := [], joins := [] } Try.func45 (by kernel_rfl) h
end Go.Proofs
