import Derived.Test.YtjabbpcfinjofaaXFn
import Derived.Test.YtjabbpcfinjofaaProg
/- The verification conditions of this seat's functions, as the engine has them: printed by a program of the bench; checked by the kernel. -/
set_option maxRecDepth 100000
set_option linter.unusedVariables false
namespace Go.Proofs
open Go
abbrev fn_lBegun : Nat := 26
theorem x_lBegun (a_0 a_1 a_2 a_3 a_4 a_5 a_6 a_7 a_8 a_9 a_10 a_11 a_12 : Int) (a_13 : Option Addr) (a_13l a_13c : Nat) (w : World) (R : Ending → World → Prop) (h :
  ∃ x1 : X.Facts, (X.FactsW x1 w []) ∧
  ∀ w2 : World, ∀ L3 : List Nat, (X.Hid [] w w2) →
  (X.NewL (w).heap.size [] w w2 L3) →
  X.CallX Try.prog 55 #[(.agg #[(.int .u8 a_0), (.int .u16 a_1), (.int .u32 a_2), (.int .u8 a_3), (.int .u8 a_4), (.int .u8 a_5), (.int .u8 a_6), (.int .u8 a_7), (.int .u8 a_8), (.int .u8 a_9)])] w2 fun e4 w5 =>
   ∃ n6 : Int, ∃ n7 : Int, ∃ n8 : Int, ∃ n9 : Int, ∃ n10 : Int, ∃ n11 : Int, ∃ n12 : Int, ∃ n13 : Int, ∃ n14 : Int, ∃ n15 : Int, (e4 = .returned (.agg #[(.int .u8 n6), (.int .u16 n7), (.int .u32 n8), (.int .u8 n9), (.int .u8 n10), (.int .u8 n11), (.int .u8 n12), (.int .u8 n13), (.int .u8 n14), (.int .u8 n15)])) ∧
   (X.Kept L3 w2 w5) ∧
   (X.FactsW x1 w5 (L3)) ∧
   X.CallX Try.prog 56 #[(.slice (a_13) a_13l a_13c)] w5 fun e16 w17 =>
    ∃ q18 : Option Addr, ∃ k19 : Nat, ∃ k20 : Nat, (e16 = .returned (.slice (q18) k19 k20)) ∧
    (X.Kept L3 w5 w17) ∧
    (X.FactsW x1 w17 (L3)) ∧
    ∀ w21 : World, (X.Hid (L3) w17 w21) →
    R (.returned (.agg #[(.int .u8 n6), (.int .u16 n7), (.int .u32 n8), (.int .u8 n9), (.int .u8 n10), (.int .u8 n11), (.int .u8 n12), (.int .u8 n13), (.int .u8 n14), (.int .u8 n15), (.int .u8 a_10), (.int .i64 a_11), (.int .i64 a_12), (.slice (q18) k19 k20)])) w21) :
    Calls Try.prog 26 #[.agg #[.int .u8 a_0, .int .u16 a_1, .int .u32 a_2, .int .u8 a_3, .int .u8 a_4, .int .u8 a_5, .int .u8 a_6, .int .u8 a_7, .int .u8 a_8, .int .u8 a_9, .int .u8 a_10, .int .i64 a_11, .int .i64 a_12, .slice a_13 a_13l a_13c]] w R :=
  X.calls_of { isLoc := [1, 2], sym := [], loops := [], joins := [], stored := [(1, [2])] } Try.func26 (by kernel_rfl) h
abbrev fn_lEnd : Nat := 28
theorem x_lEnd (a_0 a_1 a_2 a_3 a_4 a_5 a_6 a_7 a_8 a_9 a_10 a_11 a_12 a_13 a_14 a_15 : Int) (a_16 : ByteArray) (w : World) (R : Ending → World → Prop) (h :
  ∃ x1 : X.Facts, (X.FactsW x1 w []) ∧
  ∀ w2 : World, ∀ L3 : List Nat, (X.Hid [] w w2) →
  (X.NewL (w).heap.size [] w w2 L3) →
  X.CallX Try.prog 55 #[(.agg #[(.int .u8 a_0), (.int .u16 a_1), (.int .u32 a_2), (.int .u8 a_3), (.int .u8 a_4), (.int .u8 a_5), (.int .u8 a_6), (.int .u8 a_7), (.int .u8 a_8), (.int .u8 a_9)])] w2 fun e4 w5 =>
   ∃ n6 : Int, ∃ n7 : Int, ∃ n8 : Int, ∃ n9 : Int, ∃ n10 : Int, ∃ n11 : Int, ∃ n12 : Int, ∃ n13 : Int, ∃ n14 : Int, ∃ n15 : Int, (e4 = .returned (.agg #[(.int .u8 n6), (.int .u16 n7), (.int .u32 n8), (.int .u8 n9), (.int .u8 n10), (.int .u8 n11), (.int .u8 n12), (.int .u8 n13), (.int .u8 n14), (.int .u8 n15)])) ∧
   (X.Kept L3 w2 w5) ∧
   (X.FactsW x1 w5 (L3)) ∧
   X.CallX Try.prog 58 #[(.agg #[(.int .u8 a_15), (.string a_16)])] w5 fun e16 w17 =>
    ∃ n18 : Int, ∃ s19 : ByteArray, (e16 = .returned (.agg #[(.int .u8 n18), (.string s19)])) ∧
    (X.Kept L3 w5 w17) ∧
    (X.FactsW x1 w17 (L3)) ∧
    ∀ w20 : World, (X.Hid (L3) w17 w20) →
    R (.returned (.agg #[(.int .u8 n6), (.int .u16 n7), (.int .u32 n8), (.int .u8 n9), (.int .u8 n10), (.int .u8 n11), (.int .u8 n12), (.int .u8 n13), (.int .u8 n14), (.int .u8 n15), (.int .u8 a_10), (.int .i64 a_11), (.int .i64 a_12), (.int .i64 a_13), (.int .i64 a_14), (.int .u8 n18), (.string s19)])) w20) :
    Calls Try.prog 28 #[.agg #[.int .u8 a_0, .int .u16 a_1, .int .u32 a_2, .int .u8 a_3, .int .u8 a_4, .int .u8 a_5, .int .u8 a_6, .int .u8 a_7, .int .u8 a_8, .int .u8 a_9, .int .u8 a_10, .int .i64 a_11, .int .i64 a_12, .int .i64 a_13, .int .i64 a_14, .int .u8 a_15, .string a_16]] w R :=
  X.calls_of { isLoc := [1, 2], sym := [], loops := [], joins := [], stored := [(1, [2])] } Try.func28 (by kernel_rfl) h
abbrev fn_lTold : Nat := 31
theorem x_lTold (a_0 a_1 a_2 a_3 a_4 a_5 a_6 a_7 a_8 a_9 a_10 a_11 a_12 : Int) (a_13 : ByteArray) (a_14 a_15 : Int) (a_16 : Option Addr) (a_16l a_16c : Nat) (w : World) (R : Ending → World → Prop) (h :
  ∃ x1 : X.Facts, (X.FactsW x1 w []) ∧
  ∀ w2 : World, ∀ L3 : List Nat, (X.Hid [] w w2) →
  (X.NewL (w).heap.size [] w w2 L3) →
  X.CallX Try.prog 60 #[(.agg #[(.int .u8 a_0), (.int .u16 a_1)])] w2 fun e4 w5 =>
   ∃ n6 : Int, ∃ n7 : Int, (e4 = .returned (.agg #[(.int .u8 n6), (.int .u16 n7)])) ∧
   (X.Kept L3 w2 w5) ∧
   (X.FactsW x1 w5 (L3)) ∧
   X.CallX Try.prog 55 #[(.agg #[(.int .u8 a_2), (.int .u16 a_3), (.int .u32 a_4), (.int .u8 a_5), (.int .u8 a_6), (.int .u8 a_7), (.int .u8 a_8), (.int .u8 a_9), (.int .u8 a_10), (.int .u8 a_11)])] w5 fun e8 w9 =>
    ∃ n10 : Int, ∃ n11 : Int, ∃ n12 : Int, ∃ n13 : Int, ∃ n14 : Int, ∃ n15 : Int, ∃ n16 : Int, ∃ n17 : Int, ∃ n18 : Int, ∃ n19 : Int, (e8 = .returned (.agg #[(.int .u8 n10), (.int .u16 n11), (.int .u32 n12), (.int .u8 n13), (.int .u8 n14), (.int .u8 n15), (.int .u8 n16), (.int .u8 n17), (.int .u8 n18), (.int .u8 n19)])) ∧
    (X.Kept L3 w5 w9) ∧
    (X.FactsW x1 w9 (L3)) ∧
    X.CallX Try.prog 58 #[(.agg #[(.int .u8 a_12), (.string a_13)])] w9 fun e20 w21 =>
     ∃ n22 : Int, ∃ s23 : ByteArray, (e20 = .returned (.agg #[(.int .u8 n22), (.string s23)])) ∧
     (X.Kept L3 w9 w21) ∧
     (X.FactsW x1 w21 (L3)) ∧
     X.CallX Try.prog 63 #[(.agg #[(.int .u8 a_14), (.int .u32 a_15), (.slice (a_16) a_16l a_16c)])] w21 fun e24 w25 =>
      ∃ n26 : Int, ∃ n27 : Int, ∃ q28 : Option Addr, ∃ k29 : Nat, ∃ k30 : Nat, (e24 = .returned (.agg #[(.int .u8 n26), (.int .u32 n27), (.slice (q28) k29 k30)])) ∧
      (X.Kept L3 w21 w25) ∧
      (X.FactsW x1 w25 (L3)) ∧
      ∀ w31 : World, (X.Hid (L3) w25 w31) →
      R (.returned (.agg #[(.int .u8 n6), (.int .u16 n7), (.int .u8 n10), (.int .u16 n11), (.int .u32 n12), (.int .u8 n13), (.int .u8 n14), (.int .u8 n15), (.int .u8 n16), (.int .u8 n17), (.int .u8 n18), (.int .u8 n19), (.int .u8 n22), (.string s23), (.int .u8 n26), (.int .u32 n27), (.slice (q28) k29 k30)])) w31) :
    Calls Try.prog 31 #[.agg #[.int .u8 a_0, .int .u16 a_1, .int .u8 a_2, .int .u16 a_3, .int .u32 a_4, .int .u8 a_5, .int .u8 a_6, .int .u8 a_7, .int .u8 a_8, .int .u8 a_9, .int .u8 a_10, .int .u8 a_11, .int .u8 a_12, .string a_13, .int .u8 a_14, .int .u32 a_15, .slice a_16 a_16l a_16c]] w R :=
  X.calls_of { isLoc := [1, 2], sym := [], loops := [], joins := [], stored := [(1, [2])] } Try.func31 (by kernel_rfl) h
abbrev fn_lSat : Nat := 33
theorem x_lSat (a_0 a_1 a_2 a_3 : Int) (a_4 : Option Addr) (a_4l a_4c : Nat) (w : World) (R : Ending → World → Prop) (h :
  ∃ x1 : X.Facts, (X.FactsW x1 w []) ∧
  ∀ w2 : World, ∀ L3 : List Nat, (X.Hid [] w w2) →
  (X.NewL (w).heap.size [] w w2 L3) →
  X.CallX Try.prog 60 #[(.agg #[(.int .u8 a_0), (.int .u16 a_1)])] w2 fun e4 w5 =>
   ∃ n6 : Int, ∃ n7 : Int, (e4 = .returned (.agg #[(.int .u8 n6), (.int .u16 n7)])) ∧
   (X.Kept L3 w2 w5) ∧
   (X.FactsW x1 w5 (L3)) ∧
   X.CallX Try.prog 63 #[(.agg #[(.int .u8 a_2), (.int .u32 a_3), (.slice (a_4) a_4l a_4c)])] w5 fun e8 w9 =>
    ∃ n10 : Int, ∃ n11 : Int, ∃ q12 : Option Addr, ∃ k13 : Nat, ∃ k14 : Nat, (e8 = .returned (.agg #[(.int .u8 n10), (.int .u32 n11), (.slice (q12) k13 k14)])) ∧
    (X.Kept L3 w5 w9) ∧
    (X.FactsW x1 w9 (L3)) ∧
    ∀ w15 : World, (X.Hid (L3) w9 w15) →
    R (.returned (.agg #[(.int .u8 n6), (.int .u16 n7), (.int .u8 n10), (.int .u32 n11), (.slice (q12) k13 k14)])) w15) :
    Calls Try.prog 33 #[.agg #[.int .u8 a_0, .int .u16 a_1, .int .u8 a_2, .int .u32 a_3, .slice a_4 a_4l a_4c]] w R :=
  X.calls_of { isLoc := [1, 2], sym := [], loops := [], joins := [], stored := [(1, [2])] } Try.func33 (by kernel_rfl) h
abbrev fn_Own6 : Nat := 63
theorem x_Own6 (a_0 a_1 : Int) (a_2 : Option Addr) (a_2l a_2c : Nat) (w : World) (R : Ending → World → Prop) (h :
  ∃ x1 : X.Facts, (X.FactsW x1 w []) ∧
  ∀ w2 : World, ∀ L3 : List Nat, (X.Hid [] w w2) →
  (X.NewL (w).heap.size [] w w2 L3) →
  X.CallX Try.prog 74 #[(.slice (a_2) a_2l a_2c)] w2 fun e4 w5 =>
   ∃ q6 : Option Addr, ∃ k7 : Nat, ∃ k8 : Nat, (e4 = .returned (.slice (q6) k7 k8)) ∧
   (X.Kept L3 w2 w5) ∧
   (X.FactsW x1 w5 (L3)) ∧
   ∀ w9 : World, (X.Hid (L3) w5 w9) →
   R (.returned (.agg #[(.int .u8 a_0), (.int .u32 a_1), (.slice (q6) k7 k8)])) w9) :
    Calls Try.prog 63 #[.agg #[.int .u8 a_0, .int .u32 a_1, .slice a_2 a_2l a_2c]] w R :=
  X.calls_of { isLoc := [1, 2], sym := [], loops := [], joins := [], stored := [(1, [2])] } Try.func63 (by kernel_rfl) h
abbrev fn_Procs : Nat := 74
theorem x_Procs (a : Option Addr) (al ac : Nat) (w : World) (R : Ending → World → Prop) (h :
  ∃ x1 : Option Addr → Nat → Nat → Int → World → List Nat → Prop, ∃ x2 : Option Addr → Nat → Nat → Int → World → Nat, (x1 (none) 0 0 0 w []) ∧
  ∀ q3 : Option Addr, ∀ k4 : Nat, ∀ k5 : Nat, ∀ n6 : Int, ∀ w7 : World, ∀ L8 : List Nat, (X.LF (w).heap.size w7 L8) →
  (x1 q3 k4 k5 n6 w7 L8) →
  if (decide (n6 < ((al : Nat) : Int))) = true then
   ((0 : Int) ≤ n6) ∧
   (n6 < ((al : Nat) : Int)) ∧
   X.onSome (a) fun p9 =>
   ∃ n10 : Int, ∃ n11 : Int, (X.Cells w7 (p9.add ((n6).toNat * 2)) [(.int .u8 n10), (.int .u16 n11)]) ∧
   X.CallX Try.prog 60 #[(.agg #[(.int .u8 n10), (.int .u16 n11)])] w7 fun e12 w13 =>
    ∃ n14 : Int, ∃ n15 : Int, (e12 = .returned (.agg #[(.int .u8 n14), (.int .u16 n15)])) ∧
    ((w7).heap.size ≤ (w13).heap.size) ∧
    ∃ q16 : Option Addr, ∃ k17 : Nat, ∃ k18 : Nat, ∃ w19 : World, (Sem.run Try.prog (Go.Builtin.append_ #[120, 120] 120 #[(.slice (q3) k4 k5), (.slice (some ⟨(w13).heap.size, 0, none⟩) 1 1)]) (w13.alloc (.cells #[(.int .u8 n14), (.int .u16 n15)] 98)) = .ok (.slice (q16) k17 k18) w19) ∧
    (((w13.alloc (.cells #[(.int .u8 n14), (.int .u16 n15)] 98))).heap.size ≤ (w19).heap.size) ∧
    (x1 q16 k17 k18 (IntKind.wrap .i64 (n6 + 1)) w19 []) ∧
    Nat.le ((x2 q16 k17 k18 (IntKind.wrap .i64 (n6 + 1)) w19) + 1) (x2 q3 k4 k5 n6 w7)
  else
   R (.returned (.slice (q3) k4 k5)) w7) :
    Calls Try.prog 74 #[.slice a al ac] w R :=
  X.calls_of { isLoc := [], sym := [], loops := [(3, .inv [(3, .slice), (4, .int .i64)] [] true)], joins := [] } Try.func74 (by kernel_rfl) h
abbrev fn_CloneV : Nat := 51
theorem x_CloneV (a_0 a_1 : Int) (a_2 : Option Addr) (a_2l a_2c : Nat) (w : World) (R : Ending → World → Prop) (h :
  ∀ w1 : World, ∀ L2 : List Nat, (X.Hid [] w w1) →
  (X.NewL (w).heap.size [] w w1 L2) →
  X.CallX Try.prog 70 #[(.slice (a_2) a_2l a_2c)] w1 fun e3 w4 =>
   ∃ q5 : Option Addr, ∃ k6 : Nat, ∃ k7 : Nat, (e3 = .returned (.slice (q5) k6 k7)) ∧
   (X.Kept L2 w1 w4) ∧
   ∀ w8 : World, (X.Hid (L2) w4 w8) →
   R (.returned (.agg #[(.int .u8 a_0), (.int .u32 a_1), (.slice (q5) k6 k7)])) w8) :
    Calls Try.prog 51 #[.agg #[.int .u8 a_0, .int .u32 a_1, .slice a_2 a_2l a_2c]] w R :=
  X.calls_of { isLoc := [1, 2], sym := [], loops := [], joins := [] } Try.func51 (by kernel_rfl) h
abbrev fn_ClonePr : Nat := 70
theorem x_ClonePr (a : Option Addr) (al ac : Nat) (w : World) (R : Ending → World → Prop) (h :
  if (a.isNone) = true then
   R (.returned (.slice none 0 0)) w
  else
   ∃ q1 : Option Addr, ∃ k2 : Nat, ∃ k3 : Nat, ∃ w4 : World, (Sem.run Try.prog (Go.Builtin.append_ #[120, 120] 120 #[(.slice (some ⟨(w).heap.size, 0, none⟩) 0 0), (.slice (a) al ac)]) (w.alloc (.cells #[] 98)) = .ok (.slice (q1) k2 k3) w4) ∧
   (((w.alloc (.cells #[] 98))).heap.size ≤ (w4).heap.size) ∧
   R (.returned (.slice (q1) k2 k3)) w4) :
    Calls Try.prog 70 #[.slice a al ac] w R :=
  X.calls_of { isLoc := [], sym := [], loops := [], joins := [] } Try.func70 (by kernel_rfl) h
abbrev fn_CloneEd : Nat := 50
theorem x_CloneEd (a : Option Addr) (al ac : Nat) (w : World) (R : Ending → World → Prop) (h :
  if (a.isNone) = true then
   R (.returned (.slice none 0 0)) w
  else
   ∃ q1 : Option Addr, ∃ k2 : Nat, ∃ k3 : Nat, ∃ w4 : World, (Sem.run Try.prog (Go.Builtin.append_ #[73, 73] 73 #[(.slice (some ⟨(w).heap.size, 0, none⟩) 0 0), (.slice (a) al ac)]) (w.alloc (.cells #[] 116)) = .ok (.slice (q1) k2 k3) w4) ∧
   (((w.alloc (.cells #[] 116))).heap.size ≤ (w4).heap.size) ∧
   R (.returned (.slice (q1) k2 k3)) w4) :
    Calls Try.prog 50 #[.slice a al ac] w R :=
  X.calls_of { isLoc := [], sym := [], loops := [], joins := [] } Try.func50 (by kernel_rfl) h
abbrev fn_of : Nat := 62
theorem x_of (a_0 a_1 : Int) (a_2 : Option Addr) (a_2l a_2c : Nat) (w : World) (R : Ending → World → Prop) (h :
  ∀ w1 : World, (X.Hid [] w w1) →
  R (.returned (.agg #[(.int .u8 a_0), (.int .u32 a_1)])) w1) :
    Calls Try.prog 62 #[.agg #[.int .u8 a_0, .int .u32 a_1, .slice a_2 a_2l a_2c]] w R :=
  X.calls_of { isLoc := [1, 2], sym := [], loops := [], joins := [] } Try.func62 (by kernel_rfl) h
abbrev fn_Begin : Nat := 25
theorem x_Begin (a : Addr) (b_0 b_1 b_2 b_3 b_4 b_5 b_6 b_7 b_8 b_9 b_10 b_11 b_12 : Int) (b_13 : Option Addr) (b_13l b_13c : Nat) (w : World) (R : Ending → World → Prop) (h :
  ∀ w1 : World, ∀ L2 : List Nat, (X.Hid [] w w1) →
  (X.NewL (w).heap.size [] w w1 L2) →
  X.CallX Try.prog 49 #[(.slice (b_13) b_13l b_13c)] w1 fun e3 w4 =>
   ∃ q5 : Option Addr, ∃ k6 : Nat, ∃ k7 : Nat, (e3 = .returned (.slice (q5) k6 k7)) ∧
   (X.Kept L2 w1 w4) ∧
   ∃ x8 : X.Facts, (X.FactsW x8 w4 (L2)) ∧
   ∀ w9 : World, ∀ L10 : List Nat, (X.Hid (L2) w4 w9) →
   (X.NewL (w).heap.size (L2) w4 w9 L10) →
   X.CallX Try.prog 23 #[(.pointer (some a))] w9 fun e11 w12 =>
    ∃ b13 : Bool, (e11 = .returned (.bool b13)) ∧
    (X.Kept L10 w9 w12) ∧
    (X.FactsW x8 w12 (L10)) ∧
    ∃ x14 : X.Facts, (X.FactsW x14 w12 (L10)) ∧
    (∀ x15 : Addr × List Value, (x15 ∈ x8) →
     x15 ∈ x14) ∧
    if ((!b13) == true) = true then
     X.CallX Try.prog 54 #[(.pointer (some (a.add 0))), (.agg #[(.int .u8 b_0), (.int .u16 b_1), (.int .u32 b_2), (.int .u8 b_3), (.int .u8 b_4), (.int .u8 b_5), (.int .u8 b_6), (.int .u8 b_7), (.int .u8 b_8), (.int .u8 b_9)]), (.agg #[(.int .u8 b_0), (.int .u16 b_1), (.int .u32 b_2), (.int .u8 b_3), (.int .u8 b_4), (.int .u8 b_5), (.int .u8 b_6), (.int .u8 b_7), (.int .u8 b_8), (.int .u8 b_9), (.int .u8 b_10), (.int .i64 b_11), (.int .i64 b_12), (.slice (q5) k6 k7)])] w12 fun e16 w17 =>
      ∃ b18 : Bool, (e16 = .returned (.bool b18)) ∧
      (X.Kept L10 w12 w17) ∧
      R (.returned (.bool (true && b18))) w17
    else
     R (.returned (.bool false)) w12) :
    Calls Try.prog 25 #[.pointer (some a), .agg #[.int .u8 b_0, .int .u16 b_1, .int .u32 b_2, .int .u8 b_3, .int .u8 b_4, .int .u8 b_5, .int .u8 b_6, .int .u8 b_7, .int .u8 b_8, .int .u8 b_9, .int .u8 b_10, .int .i64 b_11, .int .i64 b_12, .slice b_13 b_13l b_13c]] w R :=
  X.calls_of { isLoc := [3], sym := [], loops := [], joins := [] } Try.func25 (by kernel_rfl) h
abbrev fn_End : Nat := 27
theorem x_End (a : Addr) (b_0 b_1 b_2 b_3 b_4 b_5 b_6 b_7 b_8 b_9 b_10 b_11 b_12 b_13 b_14 b_15 : Int) (b_16 : ByteArray) (w : World) (R : Ending → World → Prop) (h :
  ∃ x1 : X.Facts, (X.FactsW x1 w []) ∧
  ∀ w2 : World, ∀ L3 : List Nat, (X.Hid [] w w2) →
  (X.NewL (w).heap.size [] w w2 L3) →
  X.CallX Try.prog 23 #[(.pointer (some a))] w2 fun e4 w5 =>
   ∃ b6 : Bool, (e4 = .returned (.bool b6)) ∧
   (X.Kept L3 w2 w5) ∧
   (X.FactsW x1 w5 (L3)) ∧
   ∃ x7 : X.Facts, (X.FactsW x7 w5 (L3)) ∧
   (∀ x8 : Addr × List Value, (x8 ∈ x1) →
    x8 ∈ x7) ∧
   if ((!b6) == true) = true then
    ∃ q11 : Option Nat, ((((a.add 0).add 0), [(.map (q11))]) ∈ x7) ∧
    ∃ b12 : Bool, ∃ w13 : World, (Sem.run Try.prog (Go.Instr.lookup 79 (.map (q11)) (.agg #[(.int .u8 b_0), (.int .u16 b_1), (.int .u32 b_2), (.int .u8 b_3), (.int .u8 b_4), (.int .u8 b_5), (.int .u8 b_6), (.int .u8 b_7), (.int .u8 b_8), (.int .u8 b_9)]) false) w5 = .ok (.bool b12) w13) ∧
    (X.Kept L3 w5 w13) ∧
    (X.FactsW x7 w13 (L3)) ∧
    ∃ x14 : X.Facts, (X.FactsW x14 w13 (L3)) ∧
    (∀ x15 : Addr × List Value, (x15 ∈ x7) →
     x15 ∈ x14) ∧
    if ((true && b12) == true) = true then
     X.CallX Try.prog 57 #[(.pointer (some (a.add 2))), (.agg #[(.int .u8 b_0), (.int .u16 b_1), (.int .u32 b_2), (.int .u8 b_3), (.int .u8 b_4), (.int .u8 b_5), (.int .u8 b_6), (.int .u8 b_7), (.int .u8 b_8), (.int .u8 b_9)]), (.agg #[(.int .u8 b_0), (.int .u16 b_1), (.int .u32 b_2), (.int .u8 b_3), (.int .u8 b_4), (.int .u8 b_5), (.int .u8 b_6), (.int .u8 b_7), (.int .u8 b_8), (.int .u8 b_9), (.int .u8 b_10), (.int .i64 b_11), (.int .i64 b_12), (.int .i64 b_13), (.int .i64 b_14), (.int .u8 b_15), (.string b_16)])] w13 fun e16 w17 =>
      ∃ b18 : Bool, (e16 = .returned (.bool b18)) ∧
      (X.Kept L3 w13 w17) ∧
      (X.FactsW x14 w17 (L3)) ∧
      R (.returned (.bool (true && b18))) w17
    else
     R (.returned (.bool false)) w13
   else
    ∃ x9 : X.Facts, (X.FactsW x9 w5 (L3)) ∧
    (∀ x10 : Addr × List Value, (x10 ∈ x7) →
     x10 ∈ x9) ∧
    R (.returned (.bool false)) w5) :
    Calls Try.prog 27 #[.pointer (some a), .agg #[.int .u8 b_0, .int .u16 b_1, .int .u32 b_2, .int .u8 b_3, .int .u8 b_4, .int .u8 b_5, .int .u8 b_6, .int .u8 b_7, .int .u8 b_8, .int .u8 b_9, .int .u8 b_10, .int .i64 b_11, .int .i64 b_12, .int .i64 b_13, .int .i64 b_14, .int .u8 b_15, .string b_16]] w R :=
  X.calls_of { isLoc := [3], sym := [], loops := [], joins := [] } Try.func27 (by kernel_rfl) h
abbrev fn_Tell : Nat := 30
theorem x_Tell (a : Addr) (b_0 b_1 b_2 b_3 b_4 b_5 b_6 b_7 b_8 b_9 b_10 b_11 b_12 : Int) (b_13 : ByteArray) (b_14 b_15 : Int) (b_16 : Option Addr) (b_16l b_16c : Nat) (w : World) (R : Ending → World → Prop) (h :
  ∀ w1 : World, ∀ L2 : List Nat, (X.Hid [] w w1) →
  (X.NewL (w).heap.size [] w w1 L2) →
  X.CallX Try.prog 51 #[(.agg #[(.int .u8 b_14), (.int .u32 b_15), (.slice (b_16) b_16l b_16c)])] w1 fun e3 w4 =>
   ∃ n5 : Int, ∃ n6 : Int, ∃ q7 : Option Addr, ∃ k8 : Nat, ∃ k9 : Nat, (e3 = .returned (.agg #[(.int .u8 n5), (.int .u32 n6), (.slice (q7) k8 k9)])) ∧
   (X.Kept L2 w1 w4) ∧
   ∃ x10 : X.Facts, (X.FactsW x10 w4 (L2)) ∧
   ∀ w11 : World, ∀ L12 : List Nat, (X.Hid (L2) w4 w11) →
   (X.NewL (w).heap.size (L2) w4 w11 L12) →
   X.CallX Try.prog 23 #[(.pointer (some a))] w11 fun e13 w14 =>
    ∃ b15 : Bool, (e13 = .returned (.bool b15)) ∧
    (X.Kept L12 w11 w14) ∧
    (X.FactsW x10 w14 (L12)) ∧
    ∃ x16 : X.Facts, (X.FactsW x16 w14 (L12)) ∧
    (∀ x17 : Addr × List Value, (x17 ∈ x10) →
     x17 ∈ x16) ∧
    if ((!b15) == true) = true then
     X.CallX Try.prog 62 #[(.agg #[(.int .u8 n5), (.int .u32 n6), (.slice (q7) k8 k9)])] w14 fun e18 w19 =>
      ∃ n20 : Int, ∃ n21 : Int, (e18 = .returned (.agg #[(.int .u8 n20), (.int .u32 n21)])) ∧
      (X.Kept L12 w14 w19) ∧
      (X.FactsW x16 w19 (L12)) ∧
      X.CallX Try.prog 61 #[(.pointer (some (a.add 4))), (.agg #[(.int .u8 b_0), (.int .u16 b_1), (.int .u8 b_2), (.int .u16 b_3), (.int .u32 b_4), (.int .u8 b_5), (.int .u8 b_6), (.int .u8 b_7), (.int .u8 b_8), (.int .u8 b_9), (.int .u8 b_10), (.int .u8 b_11), (.int .u8 b_12), (.string b_13), (.int .u8 n20), (.int .u32 n21)]), (.agg #[(.int .u8 b_0), (.int .u16 b_1), (.int .u8 b_2), (.int .u16 b_3), (.int .u32 b_4), (.int .u8 b_5), (.int .u8 b_6), (.int .u8 b_7), (.int .u8 b_8), (.int .u8 b_9), (.int .u8 b_10), (.int .u8 b_11), (.int .u8 b_12), (.string b_13), (.int .u8 n5), (.int .u32 n6), (.slice (q7) k8 k9)])] w19 fun e22 w23 =>
       ∃ b24 : Bool, (e22 = .returned (.bool b24)) ∧
       (X.Kept L12 w19 w23) ∧
       (X.FactsW x16 w23 (L12)) ∧
       R (.returned (.bool (true && b24))) w23
    else
     R (.returned (.bool false)) w14) :
    Calls Try.prog 30 #[.pointer (some a), .agg #[.int .u8 b_0, .int .u16 b_1, .int .u8 b_2, .int .u16 b_3, .int .u32 b_4, .int .u8 b_5, .int .u8 b_6, .int .u8 b_7, .int .u8 b_8, .int .u8 b_9, .int .u8 b_10, .int .u8 b_11, .int .u8 b_12, .string b_13, .int .u8 b_14, .int .u32 b_15, .slice b_16 b_16l b_16c]] w R :=
  X.calls_of { isLoc := [3], sym := [], loops := [], joins := [] } Try.func30 (by kernel_rfl) h
abbrev fn_Sit : Nat := 32
theorem x_Sit (a : Addr) (b_0 b_1 b_2 b_3 : Int) (b_4 : Option Addr) (b_4l b_4c : Nat) (w : World) (R : Ending → World → Prop) (h :
  ∀ w1 : World, ∀ L2 : List Nat, (X.Hid [] w w1) →
  (X.NewL (w).heap.size [] w w1 L2) →
  X.CallX Try.prog 51 #[(.agg #[(.int .u8 b_2), (.int .u32 b_3), (.slice (b_4) b_4l b_4c)])] w1 fun e3 w4 =>
   ∃ n5 : Int, ∃ n6 : Int, ∃ q7 : Option Addr, ∃ k8 : Nat, ∃ k9 : Nat, (e3 = .returned (.agg #[(.int .u8 n5), (.int .u32 n6), (.slice (q7) k8 k9)])) ∧
   (X.Kept L2 w1 w4) ∧
   ∃ x10 : X.Facts, (X.FactsW x10 w4 (L2)) ∧
   ∀ w11 : World, ∀ L12 : List Nat, (X.Hid (L2) w4 w11) →
   (X.NewL (w).heap.size (L2) w4 w11 L12) →
   X.CallX Try.prog 23 #[(.pointer (some a))] w11 fun e13 w14 =>
    ∃ b15 : Bool, (e13 = .returned (.bool b15)) ∧
    (X.Kept L12 w11 w14) ∧
    (X.FactsW x10 w14 (L12)) ∧
    ∃ x16 : X.Facts, (X.FactsW x16 w14 (L12)) ∧
    (∀ x17 : Addr × List Value, (x17 ∈ x10) →
     x17 ∈ x16) ∧
    if ((!b15) == true) = true then
     X.CallX Try.prog 62 #[(.agg #[(.int .u8 n5), (.int .u32 n6), (.slice (q7) k8 k9)])] w14 fun e18 w19 =>
      ∃ n20 : Int, ∃ n21 : Int, (e18 = .returned (.agg #[(.int .u8 n20), (.int .u32 n21)])) ∧
      (X.Kept L12 w14 w19) ∧
      (X.FactsW x16 w19 (L12)) ∧
      X.CallX Try.prog 64 #[(.pointer (some (a.add 6))), (.agg #[(.int .u8 b_0), (.int .u16 b_1), (.int .u8 n20), (.int .u32 n21)]), (.agg #[(.int .u8 b_0), (.int .u16 b_1), (.int .u8 n5), (.int .u32 n6), (.slice (q7) k8 k9)])] w19 fun e22 w23 =>
       ∃ b24 : Bool, (e22 = .returned (.bool b24)) ∧
       (X.Kept L12 w19 w23) ∧
       (X.FactsW x16 w23 (L12)) ∧
       R (.returned (.bool (true && b24))) w23
    else
     R (.returned (.bool false)) w14) :
    Calls Try.prog 32 #[.pointer (some a), .agg #[.int .u8 b_0, .int .u16 b_1, .int .u8 b_2, .int .u32 b_3, .slice b_4 b_4l b_4c]] w R :=
  X.calls_of { isLoc := [3], sym := [], loops := [], joins := [] } Try.func32 (by kernel_rfl) h
abbrev fn_Begins : Nat := 15
theorem x_Begins (a : Addr) (w : World) (R : Ending → World → Prop) (h :
  X.CallX Try.prog 23 #[(.pointer (some a))] w fun e1 w2 =>
   ∃ b3 : Bool, (e1 = .returned (.bool b3)) ∧
   ((w).heap.size ≤ (w2).heap.size) ∧
   if b3 = true then
    R (.returned (.slice none 0 0)) w2
   else
    ∃ q4 : Option Addr, ∃ k5 : Nat, ∃ k6 : Nat, (World.cell? w2 ((a.add 0).add 1) = some (.slice (q4) k5 k6)) ∧
    ∃ x7 : Option Addr → Nat → Nat → Int → World → List Nat → Prop, ∃ x8 : Option Addr → Nat → Nat → Int → World → Nat, (x7 (none) 0 0 0 w2 []) ∧
    ∀ q9 : Option Addr, ∀ k10 : Nat, ∀ k11 : Nat, ∀ n12 : Int, ∀ w13 : World, ∀ L14 : List Nat, (X.LF (w).heap.size w13 L14) →
    (x7 q9 k10 k11 n12 w13 L14) →
    if (decide (n12 < ((k5 : Nat) : Int))) = true then
     ((0 : Int) ≤ n12) ∧
     (n12 < ((k5 : Nat) : Int)) ∧
     X.onSome (q4) fun p15 =>
     ∃ n16 : Int, ∃ n17 : Int, ∃ n18 : Int, ∃ n19 : Int, ∃ n20 : Int, ∃ n21 : Int, ∃ n22 : Int, ∃ n23 : Int, ∃ n24 : Int, ∃ n25 : Int, ∃ n26 : Int, ∃ n27 : Int, ∃ n28 : Int, ∃ q29 : Option Addr, ∃ k30 : Nat, ∃ k31 : Nat, (X.Cells w13 (p15.add ((n12).toNat * 14)) [(.int .u8 n16), (.int .u16 n17), (.int .u32 n18), (.int .u8 n19), (.int .u8 n20), (.int .u8 n21), (.int .u8 n22), (.int .u8 n23), (.int .u8 n24), (.int .u8 n25), (.int .u8 n26), (.int .i64 n27), (.int .i64 n28), (.slice (q29) k30 k31)]) ∧
     ∀ w32 : World, ∀ L33 : List Nat, (X.Hid [] w13 w32) →
     (X.NewL (w).heap.size [] w13 w32 L33) →
     X.CallX Try.prog 49 #[(.slice (q29) k30 k31)] w32 fun e34 w35 =>
      ∃ q36 : Option Addr, ∃ k37 : Nat, ∃ k38 : Nat, (e34 = .returned (.slice (q36) k37 k38)) ∧
      (X.Kept L33 w32 w35) ∧
      ∀ w39 : World, ∀ L40 : List Nat, (X.Hid (L33) w35 w39) →
      (X.NewL (w).heap.size (L33) w35 w39 L40) →
      ∃ q41 : Option Addr, ∃ k42 : Nat, ∃ k43 : Nat, ∃ w44 : World, (Sem.run Try.prog (Go.Builtin.append_ #[71, 71] 71 #[(.slice (q9) k10 k11), (.slice (some ⟨(w39).heap.size, 0, none⟩) 1 1)]) (w39.alloc (.cells #[(.int .u8 n16), (.int .u16 n17), (.int .u32 n18), (.int .u8 n19), (.int .u8 n20), (.int .u8 n21), (.int .u8 n22), (.int .u8 n23), (.int .u8 n24), (.int .u8 n25), (.int .u8 n26), (.int .i64 n27), (.int .i64 n28), (.slice (q36) k37 k38)] 112)) = .ok (.slice (q41) k42 k43) w44) ∧
      (X.Kept L40 (w39.alloc (.cells #[(.int .u8 n16), (.int .u16 n17), (.int .u32 n18), (.int .u8 n19), (.int .u8 n20), (.int .u8 n21), (.int .u8 n22), (.int .u8 n23), (.int .u8 n24), (.int .u8 n25), (.int .u8 n26), (.int .i64 n27), (.int .i64 n28), (.slice (q36) k37 k38)] 112)) w44) ∧
      (x7 q41 k42 k43 (IntKind.wrap .i64 (n12 + 1)) w44 (L40)) ∧
      Nat.le ((x8 q41 k42 k43 (IntKind.wrap .i64 (n12 + 1)) w44) + 1) (x8 q9 k10 k11 n12 w13)
    else
     R (.returned (.slice (q9) k10 k11)) w13) :
    Calls Try.prog 15 #[.pointer (some a)] w R :=
  X.calls_of { isLoc := [5], sym := [], loops := [(5, .inv [(3, .slice), (14, .int .i64)] [] true)], joins := [] } Try.func15 (by kernel_rfl) h
abbrev fn_Ends : Nat := 16
theorem x_Ends (a : Addr) (w : World) (R : Ending → World → Prop) (h :
  X.CallX Try.prog 23 #[(.pointer (some a))] w fun e1 w2 =>
   ∃ b3 : Bool, (e1 = .returned (.bool b3)) ∧
   ((w).heap.size ≤ (w2).heap.size) ∧
   if b3 = true then
    R (.returned (.slice none 0 0)) w2
   else
    ∃ q4 : Option Addr, ∃ k5 : Nat, ∃ k6 : Nat, (World.cell? w2 ⟨(a.block), (((a.off) + 2) + 1), none⟩ = some (.slice (q4) k5 k6)) ∧
    X.CallX Try.prog 50 #[(.slice (q4) k5 k6)] w2 fun e7 w8 =>
     ∃ q9 : Option Addr, ∃ k10 : Nat, ∃ k11 : Nat, (e7 = .returned (.slice (q9) k10 k11)) ∧
     ((w2).heap.size ≤ (w8).heap.size) ∧
     R (.returned (.slice (q9) k10 k11)) w8) :
    Calls Try.prog 16 #[.pointer (some a)] w R :=
  X.calls_of { isLoc := [], sym := [], loops := [], joins := [] } Try.func16 (by kernel_rfl) h
abbrev fn_Tolds : Nat := 17
theorem x_Tolds (a : Addr) (w : World) (R : Ending → World → Prop) (h :
  X.CallX Try.prog 23 #[(.pointer (some a))] w fun e1 w2 =>
   ∃ b3 : Bool, (e1 = .returned (.bool b3)) ∧
   ((w).heap.size ≤ (w2).heap.size) ∧
   if b3 = true then
    R (.returned (.slice none 0 0)) w2
   else
    ∃ q4 : Option Addr, ∃ k5 : Nat, ∃ k6 : Nat, (World.cell? w2 ⟨(a.block), (((a.off) + 4) + 1), none⟩ = some (.slice (q4) k5 k6)) ∧
    ∃ x7 : Option Addr → Nat → Nat → Int → World → List Nat → Prop, ∃ x8 : Option Addr → Nat → Nat → Int → World → Nat, (x7 (none) 0 0 0 w2 []) ∧
    ∀ q9 : Option Addr, ∀ k10 : Nat, ∀ k11 : Nat, ∀ n12 : Int, ∀ w13 : World, ∀ L14 : List Nat, (X.LF (w).heap.size w13 L14) →
    (x7 q9 k10 k11 n12 w13 L14) →
    if (decide (n12 < ((k5 : Nat) : Int))) = true then
     ((0 : Int) ≤ n12) ∧
     (n12 < ((k5 : Nat) : Int)) ∧
     X.onSome (q4) fun p15 =>
     ∃ n16 : Int, ∃ n17 : Int, ∃ n18 : Int, ∃ n19 : Int, ∃ n20 : Int, ∃ n21 : Int, ∃ n22 : Int, ∃ n23 : Int, ∃ n24 : Int, ∃ n25 : Int, ∃ n26 : Int, ∃ n27 : Int, ∃ n28 : Int, ∃ s29 : ByteArray, ∃ n30 : Int, ∃ n31 : Int, ∃ q32 : Option Addr, ∃ k33 : Nat, ∃ k34 : Nat, (X.Cells w13 (p15.add ((n12).toNat * 17)) [(.int .u8 n16), (.int .u16 n17), (.int .u8 n18), (.int .u16 n19), (.int .u32 n20), (.int .u8 n21), (.int .u8 n22), (.int .u8 n23), (.int .u8 n24), (.int .u8 n25), (.int .u8 n26), (.int .u8 n27), (.int .u8 n28), (.string s29), (.int .u8 n30), (.int .u32 n31), (.slice (q32) k33 k34)]) ∧
     ∀ w35 : World, ∀ L36 : List Nat, (X.Hid [] w13 w35) →
     (X.NewL (w).heap.size [] w13 w35 L36) →
     X.CallX Try.prog 51 #[(.agg #[(.int .u8 n30), (.int .u32 n31), (.slice (q32) k33 k34)])] w35 fun e37 w38 =>
      ∃ n39 : Int, ∃ n40 : Int, ∃ q41 : Option Addr, ∃ k42 : Nat, ∃ k43 : Nat, (e37 = .returned (.agg #[(.int .u8 n39), (.int .u32 n40), (.slice (q41) k42 k43)])) ∧
      (X.Kept L36 w35 w38) ∧
      ∀ w44 : World, ∀ L45 : List Nat, (X.Hid (L36) w38 w44) →
      (X.NewL (w).heap.size (L36) w38 w44 L45) →
      ∃ q46 : Option Addr, ∃ k47 : Nat, ∃ k48 : Nat, ∃ w49 : World, (Sem.run Try.prog (Go.Builtin.append_ #[75, 75] 75 #[(.slice (q9) k10 k11), (.slice (some ⟨(w44).heap.size, 0, none⟩) 1 1)]) (w44.alloc (.cells #[(.int .u8 n16), (.int .u16 n17), (.int .u8 n18), (.int .u16 n19), (.int .u32 n20), (.int .u8 n21), (.int .u8 n22), (.int .u8 n23), (.int .u8 n24), (.int .u8 n25), (.int .u8 n26), (.int .u8 n27), (.int .u8 n28), (.string s29), (.int .u8 n39), (.int .u32 n40), (.slice (q41) k42 k43)] 124)) = .ok (.slice (q46) k47 k48) w49) ∧
      (X.Kept L45 (w44.alloc (.cells #[(.int .u8 n16), (.int .u16 n17), (.int .u8 n18), (.int .u16 n19), (.int .u32 n20), (.int .u8 n21), (.int .u8 n22), (.int .u8 n23), (.int .u8 n24), (.int .u8 n25), (.int .u8 n26), (.int .u8 n27), (.int .u8 n28), (.string s29), (.int .u8 n39), (.int .u32 n40), (.slice (q41) k42 k43)] 124)) w49) ∧
      (x7 q46 k47 k48 (IntKind.wrap .i64 (n12 + 1)) w49 (L45)) ∧
      Nat.le ((x8 q46 k47 k48 (IntKind.wrap .i64 (n12 + 1)) w49) + 1) (x8 q9 k10 k11 n12 w13)
    else
     R (.returned (.slice (q9) k10 k11)) w13) :
    Calls Try.prog 17 #[.pointer (some a)] w R :=
  X.calls_of { isLoc := [5], sym := [], loops := [(5, .inv [(3, .slice), (14, .int .i64)] [] true)], joins := [] } Try.func17 (by kernel_rfl) h
abbrev fn_Sats : Nat := 18
theorem x_Sats (a : Addr) (w : World) (R : Ending → World → Prop) (h :
  X.CallX Try.prog 23 #[(.pointer (some a))] w fun e1 w2 =>
   ∃ b3 : Bool, (e1 = .returned (.bool b3)) ∧
   ((w).heap.size ≤ (w2).heap.size) ∧
   if b3 = true then
    R (.returned (.slice none 0 0)) w2
   else
    ∃ q4 : Option Addr, ∃ k5 : Nat, ∃ k6 : Nat, (World.cell? w2 ⟨(a.block), (((a.off) + 6) + 1), none⟩ = some (.slice (q4) k5 k6)) ∧
    ∃ x7 : Option Addr → Nat → Nat → Int → World → List Nat → Prop, ∃ x8 : Option Addr → Nat → Nat → Int → World → Nat, (x7 (none) 0 0 0 w2 []) ∧
    ∀ q9 : Option Addr, ∀ k10 : Nat, ∀ k11 : Nat, ∀ n12 : Int, ∀ w13 : World, ∀ L14 : List Nat, (X.LF (w).heap.size w13 L14) →
    (x7 q9 k10 k11 n12 w13 L14) →
    if (decide (n12 < ((k5 : Nat) : Int))) = true then
     ((0 : Int) ≤ n12) ∧
     (n12 < ((k5 : Nat) : Int)) ∧
     X.onSome (q4) fun p15 =>
     ∃ n16 : Int, ∃ n17 : Int, ∃ n18 : Int, ∃ n19 : Int, ∃ q20 : Option Addr, ∃ k21 : Nat, ∃ k22 : Nat, (X.Cells w13 (p15.add ((n12).toNat * 5)) [(.int .u8 n16), (.int .u16 n17), (.int .u8 n18), (.int .u32 n19), (.slice (q20) k21 k22)]) ∧
     ∀ w23 : World, ∀ L24 : List Nat, (X.Hid [] w13 w23) →
     (X.NewL (w).heap.size [] w13 w23 L24) →
     X.CallX Try.prog 51 #[(.agg #[(.int .u8 n18), (.int .u32 n19), (.slice (q20) k21 k22)])] w23 fun e25 w26 =>
      ∃ n27 : Int, ∃ n28 : Int, ∃ q29 : Option Addr, ∃ k30 : Nat, ∃ k31 : Nat, (e25 = .returned (.agg #[(.int .u8 n27), (.int .u32 n28), (.slice (q29) k30 k31)])) ∧
      (X.Kept L24 w23 w26) ∧
      ∀ w32 : World, ∀ L33 : List Nat, (X.Hid (L24) w26 w32) →
      (X.NewL (w).heap.size (L24) w26 w32 L33) →
      ∃ q34 : Option Addr, ∃ k35 : Nat, ∃ k36 : Nat, ∃ w37 : World, (Sem.run Try.prog (Go.Builtin.append_ #[77, 77] 77 #[(.slice (q9) k10 k11), (.slice (some ⟨(w32).heap.size, 0, none⟩) 1 1)]) (w32.alloc (.cells #[(.int .u8 n16), (.int .u16 n17), (.int .u8 n27), (.int .u32 n28), (.slice (q29) k30 k31)] 128)) = .ok (.slice (q34) k35 k36) w37) ∧
      (X.Kept L33 (w32.alloc (.cells #[(.int .u8 n16), (.int .u16 n17), (.int .u8 n27), (.int .u32 n28), (.slice (q29) k30 k31)] 128)) w37) ∧
      (x7 q34 k35 k36 (IntKind.wrap .i64 (n12 + 1)) w37 (L33)) ∧
      Nat.le ((x8 q34 k35 k36 (IntKind.wrap .i64 (n12 + 1)) w37) + 1) (x8 q9 k10 k11 n12 w13)
    else
     R (.returned (.slice (q9) k10 k11)) w13) :
    Calls Try.prog 18 #[.pointer (some a)] w R :=
  X.calls_of { isLoc := [5], sym := [], loops := [(5, .inv [(3, .slice), (14, .int .i64)] [] true)], joins := [] } Try.func18 (by kernel_rfl) h
abbrev fn_nil_Begin : Nat := 25
theorem x_nil_Begin (b_0 b_1 b_2 b_3 b_4 b_5 b_6 b_7 b_8 b_9 b_10 b_11 b_12 : Int) (b_13 : Option Addr) (b_13l b_13c : Nat) (w : World) (R : Ending → World → Prop) (h :
  ∀ w1 : World, ∀ L2 : List Nat, (X.Hid [] w w1) →
  (X.NewL (w).heap.size [] w w1 L2) →
  X.CallX Try.prog 49 #[(.slice (b_13) b_13l b_13c)] w1 fun e3 w4 =>
   ∃ q5 : Option Addr, ∃ k6 : Nat, ∃ k7 : Nat, (e3 = .returned (.slice (q5) k6 k7)) ∧
   (X.Kept L2 w1 w4) ∧
   ∃ x8 : X.Facts, (X.FactsW x8 w4 (L2)) ∧
   ∀ w9 : World, ∀ L10 : List Nat, (X.Hid (L2) w4 w9) →
   (X.NewL (w).heap.size (L2) w4 w9 L10) →
   X.CallX Try.prog 23 #[(.pointer none)] w9 fun e11 w12 =>
    ∃ b13 : Bool, (e11 = .returned (.bool b13)) ∧
    (X.Kept L10 w9 w12) ∧
    (X.FactsW x8 w12 (L10)) ∧
    ∃ x14 : X.Facts, (X.FactsW x14 w12 (L10)) ∧
    (∀ x15 : Addr × List Value, (x15 ∈ x8) →
     x15 ∈ x14) ∧
    if ((!b13) == true) = true then
     False
    else
     R (.returned (.bool false)) w12) :
    Calls Try.prog 25 #[.pointer none, .agg #[.int .u8 b_0, .int .u16 b_1, .int .u32 b_2, .int .u8 b_3, .int .u8 b_4, .int .u8 b_5, .int .u8 b_6, .int .u8 b_7, .int .u8 b_8, .int .u8 b_9, .int .u8 b_10, .int .i64 b_11, .int .i64 b_12, .slice b_13 b_13l b_13c]] w R :=
  X.calls_of { isLoc := [3], sym := [], loops := [], joins := [] } Try.func25 (by kernel_rfl) h
abbrev fn_nil_End : Nat := 27
theorem x_nil_End (b_0 b_1 b_2 b_3 b_4 b_5 b_6 b_7 b_8 b_9 b_10 b_11 b_12 b_13 b_14 b_15 : Int) (b_16 : ByteArray) (w : World) (R : Ending → World → Prop) (h :
  ∃ x1 : X.Facts, (X.FactsW x1 w []) ∧
  ∀ w2 : World, ∀ L3 : List Nat, (X.Hid [] w w2) →
  (X.NewL (w).heap.size [] w w2 L3) →
  X.CallX Try.prog 23 #[(.pointer none)] w2 fun e4 w5 =>
   ∃ b6 : Bool, (e4 = .returned (.bool b6)) ∧
   (X.Kept L3 w2 w5) ∧
   (X.FactsW x1 w5 (L3)) ∧
   ∃ x7 : X.Facts, (X.FactsW x7 w5 (L3)) ∧
   (∀ x8 : Addr × List Value, (x8 ∈ x1) →
    x8 ∈ x7) ∧
   if ((!b6) == true) = true then
    False
   else
    ∃ x9 : X.Facts, (X.FactsW x9 w5 (L3)) ∧
    (∀ x10 : Addr × List Value, (x10 ∈ x7) →
     x10 ∈ x9) ∧
    R (.returned (.bool false)) w5) :
    Calls Try.prog 27 #[.pointer none, .agg #[.int .u8 b_0, .int .u16 b_1, .int .u32 b_2, .int .u8 b_3, .int .u8 b_4, .int .u8 b_5, .int .u8 b_6, .int .u8 b_7, .int .u8 b_8, .int .u8 b_9, .int .u8 b_10, .int .i64 b_11, .int .i64 b_12, .int .i64 b_13, .int .i64 b_14, .int .u8 b_15, .string b_16]] w R :=
  X.calls_of { isLoc := [3], sym := [], loops := [], joins := [] } Try.func27 (by kernel_rfl) h
abbrev fn_nil_Tell : Nat := 30
theorem x_nil_Tell (b_0 b_1 b_2 b_3 b_4 b_5 b_6 b_7 b_8 b_9 b_10 b_11 b_12 : Int) (b_13 : ByteArray) (b_14 b_15 : Int) (b_16 : Option Addr) (b_16l b_16c : Nat) (w : World) (R : Ending → World → Prop) (h :
  ∀ w1 : World, ∀ L2 : List Nat, (X.Hid [] w w1) →
  (X.NewL (w).heap.size [] w w1 L2) →
  X.CallX Try.prog 51 #[(.agg #[(.int .u8 b_14), (.int .u32 b_15), (.slice (b_16) b_16l b_16c)])] w1 fun e3 w4 =>
   ∃ n5 : Int, ∃ n6 : Int, ∃ q7 : Option Addr, ∃ k8 : Nat, ∃ k9 : Nat, (e3 = .returned (.agg #[(.int .u8 n5), (.int .u32 n6), (.slice (q7) k8 k9)])) ∧
   (X.Kept L2 w1 w4) ∧
   ∃ x10 : X.Facts, (X.FactsW x10 w4 (L2)) ∧
   ∀ w11 : World, ∀ L12 : List Nat, (X.Hid (L2) w4 w11) →
   (X.NewL (w).heap.size (L2) w4 w11 L12) →
   X.CallX Try.prog 23 #[(.pointer none)] w11 fun e13 w14 =>
    ∃ b15 : Bool, (e13 = .returned (.bool b15)) ∧
    (X.Kept L12 w11 w14) ∧
    (X.FactsW x10 w14 (L12)) ∧
    ∃ x16 : X.Facts, (X.FactsW x16 w14 (L12)) ∧
    (∀ x17 : Addr × List Value, (x17 ∈ x10) →
     x17 ∈ x16) ∧
    if ((!b15) == true) = true then
     False
    else
     R (.returned (.bool false)) w14) :
    Calls Try.prog 30 #[.pointer none, .agg #[.int .u8 b_0, .int .u16 b_1, .int .u8 b_2, .int .u16 b_3, .int .u32 b_4, .int .u8 b_5, .int .u8 b_6, .int .u8 b_7, .int .u8 b_8, .int .u8 b_9, .int .u8 b_10, .int .u8 b_11, .int .u8 b_12, .string b_13, .int .u8 b_14, .int .u32 b_15, .slice b_16 b_16l b_16c]] w R :=
  X.calls_of { isLoc := [3], sym := [], loops := [], joins := [] } Try.func30 (by kernel_rfl) h
abbrev fn_nil_Sit : Nat := 32
theorem x_nil_Sit (b_0 b_1 b_2 b_3 : Int) (b_4 : Option Addr) (b_4l b_4c : Nat) (w : World) (R : Ending → World → Prop) (h :
  ∀ w1 : World, ∀ L2 : List Nat, (X.Hid [] w w1) →
  (X.NewL (w).heap.size [] w w1 L2) →
  X.CallX Try.prog 51 #[(.agg #[(.int .u8 b_2), (.int .u32 b_3), (.slice (b_4) b_4l b_4c)])] w1 fun e3 w4 =>
   ∃ n5 : Int, ∃ n6 : Int, ∃ q7 : Option Addr, ∃ k8 : Nat, ∃ k9 : Nat, (e3 = .returned (.agg #[(.int .u8 n5), (.int .u32 n6), (.slice (q7) k8 k9)])) ∧
   (X.Kept L2 w1 w4) ∧
   ∃ x10 : X.Facts, (X.FactsW x10 w4 (L2)) ∧
   ∀ w11 : World, ∀ L12 : List Nat, (X.Hid (L2) w4 w11) →
   (X.NewL (w).heap.size (L2) w4 w11 L12) →
   X.CallX Try.prog 23 #[(.pointer none)] w11 fun e13 w14 =>
    ∃ b15 : Bool, (e13 = .returned (.bool b15)) ∧
    (X.Kept L12 w11 w14) ∧
    (X.FactsW x10 w14 (L12)) ∧
    ∃ x16 : X.Facts, (X.FactsW x16 w14 (L12)) ∧
    (∀ x17 : Addr × List Value, (x17 ∈ x10) →
     x17 ∈ x16) ∧
    if ((!b15) == true) = true then
     False
    else
     R (.returned (.bool false)) w14) :
    Calls Try.prog 32 #[.pointer none, .agg #[.int .u8 b_0, .int .u16 b_1, .int .u8 b_2, .int .u32 b_3, .slice b_4 b_4l b_4c]] w R :=
  X.calls_of { isLoc := [3], sym := [], loops := [], joins := [] } Try.func32 (by kernel_rfl) h
abbrev fn_nil_Commit : Nat := 22
theorem x_nil_Commit (b c d_0 d_1 d_2 d_3 d_4 d_5 d_6 d_7 d_8 d_9 d_10 d_11 : Int) (d_12 : Option Addr) (d_12l d_12c : Nat) (d_13 : Int) (d_14 : ByteArray) (d_15 : Option Addr) (d_15l d_15c : Nat) (d_16 d_17 : Int) (w : World) (R : Ending → World → Prop) (h :
  ∀ w1 : World, ∀ L2 : List Nat, (X.Hid [] w w1) →
  (X.NewL (w).heap.size [] w w1 L2) →
  X.CallX Try.prog 23 #[(.pointer none)] w1 fun e3 w4 =>
   ∃ b5 : Bool, (e3 = .returned (.bool b5)) ∧
   (X.Kept L2 w1 w4) ∧
   if (((b5 || decide (b ≥ 4)) || decide (c < 0)) == false) = true then
    False
   else
    R (.returned (.bool false)) w4) :
    Calls Try.prog 22 #[.pointer none, .int .u8 b, .int .i64 c, .agg #[.int .u8 d_0, .int .u8 d_1, .int .u16 d_2, .int .u32 d_3, .int .u8 d_4, .int .u8 d_5, .int .u8 d_6, .int .u8 d_7, .int .u8 d_8, .int .u8 d_9, .int .u8 d_10, .int .u32 d_11, .slice d_12 d_12l d_12c, .int .u8 d_13, .string d_14, .slice d_15 d_15l d_15c, .int .u8 d_16, .int .u16 d_17]] w R :=
  X.calls_of { isLoc := [7], sym := [26, 35], loops := [], joins := [] } Try.func22 (by kernel_rfl) h
abbrev fn_nil_Begins : Nat := 15
theorem x_nil_Begins  (w : World) (R : Ending → World → Prop) (h :
  X.CallX Try.prog 23 #[(.pointer none)] w fun e1 w2 =>
   ∃ b3 : Bool, (e1 = .returned (.bool b3)) ∧
   ((w).heap.size ≤ (w2).heap.size) ∧
   if b3 = true then
    R (.returned (.slice none 0 0)) w2
   else
    False) :
    Calls Try.prog 15 #[.pointer none] w R :=
  X.calls_of { isLoc := [5], sym := [], loops := [(5, .inv [(3, .slice), (14, .int .i64)] [] true)], joins := [] } Try.func15 (by kernel_rfl) h
abbrev fn_nil_Ends : Nat := 16
theorem x_nil_Ends  (w : World) (R : Ending → World → Prop) (h :
  X.CallX Try.prog 23 #[(.pointer none)] w fun e1 w2 =>
   ∃ b3 : Bool, (e1 = .returned (.bool b3)) ∧
   ((w).heap.size ≤ (w2).heap.size) ∧
   if b3 = true then
    R (.returned (.slice none 0 0)) w2
   else
    False) :
    Calls Try.prog 16 #[.pointer none] w R :=
  X.calls_of { isLoc := [], sym := [], loops := [], joins := [] } Try.func16 (by kernel_rfl) h
abbrev fn_nil_Tolds : Nat := 17
theorem x_nil_Tolds  (w : World) (R : Ending → World → Prop) (h :
  X.CallX Try.prog 23 #[(.pointer none)] w fun e1 w2 =>
   ∃ b3 : Bool, (e1 = .returned (.bool b3)) ∧
   ((w).heap.size ≤ (w2).heap.size) ∧
   if b3 = true then
    R (.returned (.slice none 0 0)) w2
   else
    False) :
    Calls Try.prog 17 #[.pointer none] w R :=
  X.calls_of { isLoc := [5], sym := [], loops := [(5, .inv [(3, .slice), (14, .int .i64)] [] true)], joins := [] } Try.func17 (by kernel_rfl) h
abbrev fn_nil_Sats : Nat := 18
theorem x_nil_Sats  (w : World) (R : Ending → World → Prop) (h :
  X.CallX Try.prog 23 #[(.pointer none)] w fun e1 w2 =>
   ∃ b3 : Bool, (e1 = .returned (.bool b3)) ∧
   ((w).heap.size ≤ (w2).heap.size) ∧
   if b3 = true then
    R (.returned (.slice none 0 0)) w2
   else
    False) :
    Calls Try.prog 18 #[.pointer none] w R :=
  X.calls_of { isLoc := [5], sym := [], loops := [(5, .inv [(3, .slice), (14, .int .i64)] [] true)], joins := [] } Try.func18 (by kernel_rfl) h
abbrev fn_nil_Order : Nat := 9
theorem x_nil_Order (b : Int) (w : World) (R : Ending → World → Prop) (h :
  X.CallX Try.prog 23 #[(.pointer none)] w fun e1 w2 =>
   ∃ b3 : Bool, (e1 = .returned (.bool b3)) ∧
   ((w).heap.size ≤ (w2).heap.size) ∧
   if (b3 || decide (b ≥ 4)) = true then
    R (.returned (.slice none 0 0)) w2
   else
    False) :
    Calls Try.prog 9 #[.pointer none, .int .u8 b] w R :=
  X.calls_of { isLoc := [7], sym := [18], loops := [(5, .inv [(5, .slice), (21, .int .i64)] [] true)], joins := [] } Try.func9 (by kernel_rfl) h
abbrev fn_nil_Splits : Nat := 12
theorem x_nil_Splits  (w : World) (R : Ending → World → Prop) (h :
  X.CallX Try.prog 23 #[(.pointer none)] w fun e1 w2 =>
   ∃ b3 : Bool, (e1 = .returned (.bool b3)) ∧
   ((w).heap.size ≤ (w2).heap.size) ∧
   if b3 = true then
    R (.returned (.int .i64 0)) w2
   else
    False) :
    Calls Try.prog 12 #[.pointer none] w R :=
  X.calls_of { isLoc := [], sym := [], loops := [], joins := [] } Try.func12 (by kernel_rfl) h
abbrev fn_nil_none : Nat := 23
theorem x_nil_none  (w : World) (R : Ending → World → Prop) (h :
  R (.returned (.bool true)) w) :
    Calls Try.prog 23 #[.pointer none] w R :=
  X.calls_of { isLoc := [], sym := [], loops := [], joins := [] } Try.func23 (by kernel_rfl) h
abbrev fn_oDo : Nat := 10
theorem x_oDo (a : Option Addr) (b_0 b_1 b_2 b_3 b_4 b_5 b_6 b_7 b_8 b_9 b_10 b_11 b_12 b_13 b_14 b_15 : Int) (b_16 : Option Addr) (b_16l b_16c : Nat) (b_17 b_18 b_19 b_20 b_21 b_22 b_23 b_24 b_25 b_26 b_27 b_28 b_29 b_30 b_31 b_32 : Int) (b_33 : ByteArray) (b_34 b_35 b_36 b_37 b_38 b_39 b_40 b_41 b_42 b_43 b_44 b_45 b_46 : Int) (b_47 : ByteArray) (b_48 b_49 : Int) (b_50 : Option Addr) (b_50l b_50c : Nat) (b_51 b_52 b_53 b_54 : Int) (b_55 : Option Addr) (b_55l b_55c : Nat) (b_56 b_57 b_58 b_59 b_60 b_61 b_62 b_63 b_64 b_65 b_66 b_67 : Int) (b_68 : Option Addr) (b_68l b_68c : Nat) (b_69 : Int) (b_70 : ByteArray) (b_71 : Option Addr) (b_71l b_71c : Nat) (b_72 b_73 : Int) (w : World) (R : Ending → World → Prop) (h :
  if (b_0 == 0) = true then
   ∀ w96 : World, ∀ L97 : List Nat, (X.Hid [] w w96) →
   (X.NewL (w).heap.size [] w w96 L97) →
   X.CallX Try.prog 26 #[(.agg #[(.int .u8 b_3), (.int .u16 b_4), (.int .u32 b_5), (.int .u8 b_6), (.int .u8 b_7), (.int .u8 b_8), (.int .u8 b_9), (.int .u8 b_10), (.int .u8 b_11), (.int .u8 b_12), (.int .u8 b_13), (.int .i64 b_14), (.int .i64 b_15), (.slice (b_16) b_16l b_16c)])] w96 fun e98 w99 =>
    ∃ n100 : Int, ∃ n101 : Int, ∃ n102 : Int, ∃ n103 : Int, ∃ n104 : Int, ∃ n105 : Int, ∃ n106 : Int, ∃ n107 : Int, ∃ n108 : Int, ∃ n109 : Int, ∃ n110 : Int, ∃ n111 : Int, ∃ n112 : Int, ∃ q113 : Option Addr, ∃ k114 : Nat, ∃ k115 : Nat, (e98 = .returned (.agg #[(.int .u8 n100), (.int .u16 n101), (.int .u32 n102), (.int .u8 n103), (.int .u8 n104), (.int .u8 n105), (.int .u8 n106), (.int .u8 n107), (.int .u8 n108), (.int .u8 n109), (.int .u8 n110), (.int .i64 n111), (.int .i64 n112), (.slice (q113) k114 k115)])) ∧
    (X.Kept L97 w96 w99) ∧
    X.CallX Try.prog 25 #[(.pointer (a)), (.agg #[(.int .u8 n100), (.int .u16 n101), (.int .u32 n102), (.int .u8 n103), (.int .u8 n104), (.int .u8 n105), (.int .u8 n106), (.int .u8 n107), (.int .u8 n108), (.int .u8 n109), (.int .u8 n110), (.int .i64 n111), (.int .i64 n112), (.slice (q113) k114 k115)])] w99 fun e116 w117 =>
     ∃ b118 : Bool, (e116 = .returned (.bool b118)) ∧
     (X.Kept L97 w99 w117) ∧
     R (.returned (.bool b118)) w117
  else
   if (b_0 == 1) = true then
    ∀ w72 : World, ∀ L73 : List Nat, (X.Hid [] w w72) →
    (X.NewL (w).heap.size [] w w72 L73) →
    X.CallX Try.prog 28 #[(.agg #[(.int .u8 b_17), (.int .u16 b_18), (.int .u32 b_19), (.int .u8 b_20), (.int .u8 b_21), (.int .u8 b_22), (.int .u8 b_23), (.int .u8 b_24), (.int .u8 b_25), (.int .u8 b_26), (.int .u8 b_27), (.int .i64 b_28), (.int .i64 b_29), (.int .i64 b_30), (.int .i64 b_31), (.int .u8 b_32), (.string b_33)])] w72 fun e74 w75 =>
     ∃ n76 : Int, ∃ n77 : Int, ∃ n78 : Int, ∃ n79 : Int, ∃ n80 : Int, ∃ n81 : Int, ∃ n82 : Int, ∃ n83 : Int, ∃ n84 : Int, ∃ n85 : Int, ∃ n86 : Int, ∃ n87 : Int, ∃ n88 : Int, ∃ n89 : Int, ∃ n90 : Int, ∃ n91 : Int, ∃ s92 : ByteArray, (e74 = .returned (.agg #[(.int .u8 n76), (.int .u16 n77), (.int .u32 n78), (.int .u8 n79), (.int .u8 n80), (.int .u8 n81), (.int .u8 n82), (.int .u8 n83), (.int .u8 n84), (.int .u8 n85), (.int .u8 n86), (.int .i64 n87), (.int .i64 n88), (.int .i64 n89), (.int .i64 n90), (.int .u8 n91), (.string s92)])) ∧
     (X.Kept L73 w72 w75) ∧
     X.CallX Try.prog 27 #[(.pointer (a)), (.agg #[(.int .u8 n76), (.int .u16 n77), (.int .u32 n78), (.int .u8 n79), (.int .u8 n80), (.int .u8 n81), (.int .u8 n82), (.int .u8 n83), (.int .u8 n84), (.int .u8 n85), (.int .u8 n86), (.int .i64 n87), (.int .i64 n88), (.int .i64 n89), (.int .i64 n90), (.int .u8 n91), (.string s92)])] w75 fun e93 w94 =>
      ∃ b95 : Bool, (e93 = .returned (.bool b95)) ∧
      (X.Kept L73 w75 w94) ∧
      R (.returned (.bool b95)) w94
   else
    if (b_0 == 2) = true then
     ∃ x42 : X.Facts, (X.FactsW x42 w []) ∧
     ∀ w43 : World, ∀ L44 : List Nat, (X.Hid [] w w43) →
     (X.NewL (w).heap.size [] w w43 L44) →
     X.CallX Try.prog 29 #[(.agg #[(.int .u8 b_56), (.int .u8 b_57), (.int .u16 b_58), (.int .u32 b_59), (.int .u8 b_60), (.int .u8 b_61), (.int .u8 b_62), (.int .u8 b_63), (.int .u8 b_64), (.int .u8 b_65), (.int .u8 b_66), (.int .u32 b_67), (.slice (b_68) b_68l b_68c), (.int .u8 b_69), (.string b_70), (.slice (b_71) b_71l b_71c), (.int .u8 b_72), (.int .u16 b_73)])] w43 fun e45 w46 =>
      ∃ n47 : Int, ∃ n48 : Int, ∃ n49 : Int, ∃ n50 : Int, ∃ n51 : Int, ∃ n52 : Int, ∃ n53 : Int, ∃ n54 : Int, ∃ n55 : Int, ∃ n56 : Int, ∃ n57 : Int, ∃ n58 : Int, ∃ q59 : Option Addr, ∃ k60 : Nat, ∃ k61 : Nat, ∃ n62 : Int, ∃ s63 : ByteArray, ∃ q64 : Option Addr, ∃ k65 : Nat, ∃ k66 : Nat, ∃ n67 : Int, ∃ n68 : Int, (e45 = .returned (.agg #[(.int .u8 n47), (.int .u8 n48), (.int .u16 n49), (.int .u32 n50), (.int .u8 n51), (.int .u8 n52), (.int .u8 n53), (.int .u8 n54), (.int .u8 n55), (.int .u8 n56), (.int .u8 n57), (.int .u32 n58), (.slice (q59) k60 k61), (.int .u8 n62), (.string s63), (.slice (q64) k65 k66), (.int .u8 n67), (.int .u16 n68)])) ∧
      (X.Kept L44 w43 w46) ∧
      (X.FactsW x42 w46 (L44)) ∧
      X.CallX Try.prog 22 #[(.pointer (a)), (.int .u8 b_2), (.int .i64 b_1), (.agg #[(.int .u8 n47), (.int .u8 n48), (.int .u16 n49), (.int .u32 n50), (.int .u8 n51), (.int .u8 n52), (.int .u8 n53), (.int .u8 n54), (.int .u8 n55), (.int .u8 n56), (.int .u8 n57), (.int .u32 n58), (.slice (q59) k60 k61), (.int .u8 n62), (.string s63), (.slice (q64) k65 k66), (.int .u8 n67), (.int .u16 n68)])] w46 fun e69 w70 =>
       ∃ b71 : Bool, (e69 = .returned (.bool b71)) ∧
       (X.Kept L44 w46 w70) ∧
       (X.FactsW x42 w70 (L44)) ∧
       R (.returned (.bool b71)) w70
    else
     if (b_0 == 3) = true then
      ∀ w16 : World, ∀ L17 : List Nat, (X.Hid [] w w16) →
      (X.NewL (w).heap.size [] w w16 L17) →
      X.CallX Try.prog 31 #[(.agg #[(.int .u8 b_34), (.int .u16 b_35), (.int .u8 b_36), (.int .u16 b_37), (.int .u32 b_38), (.int .u8 b_39), (.int .u8 b_40), (.int .u8 b_41), (.int .u8 b_42), (.int .u8 b_43), (.int .u8 b_44), (.int .u8 b_45), (.int .u8 b_46), (.string b_47), (.int .u8 b_48), (.int .u32 b_49), (.slice (b_50) b_50l b_50c)])] w16 fun e18 w19 =>
       ∃ n20 : Int, ∃ n21 : Int, ∃ n22 : Int, ∃ n23 : Int, ∃ n24 : Int, ∃ n25 : Int, ∃ n26 : Int, ∃ n27 : Int, ∃ n28 : Int, ∃ n29 : Int, ∃ n30 : Int, ∃ n31 : Int, ∃ n32 : Int, ∃ s33 : ByteArray, ∃ n34 : Int, ∃ n35 : Int, ∃ q36 : Option Addr, ∃ k37 : Nat, ∃ k38 : Nat, (e18 = .returned (.agg #[(.int .u8 n20), (.int .u16 n21), (.int .u8 n22), (.int .u16 n23), (.int .u32 n24), (.int .u8 n25), (.int .u8 n26), (.int .u8 n27), (.int .u8 n28), (.int .u8 n29), (.int .u8 n30), (.int .u8 n31), (.int .u8 n32), (.string s33), (.int .u8 n34), (.int .u32 n35), (.slice (q36) k37 k38)])) ∧
       (X.Kept L17 w16 w19) ∧
       X.CallX Try.prog 30 #[(.pointer (a)), (.agg #[(.int .u8 n20), (.int .u16 n21), (.int .u8 n22), (.int .u16 n23), (.int .u32 n24), (.int .u8 n25), (.int .u8 n26), (.int .u8 n27), (.int .u8 n28), (.int .u8 n29), (.int .u8 n30), (.int .u8 n31), (.int .u8 n32), (.string s33), (.int .u8 n34), (.int .u32 n35), (.slice (q36) k37 k38)])] w19 fun e39 w40 =>
        ∃ b41 : Bool, (e39 = .returned (.bool b41)) ∧
        (X.Kept L17 w19 w40) ∧
        R (.returned (.bool b41)) w40
     else
      if (b_0 == 4) = true then
       ∀ w2 : World, ∀ L3 : List Nat, (X.Hid [] w w2) →
       (X.NewL (w).heap.size [] w w2 L3) →
       X.CallX Try.prog 33 #[(.agg #[(.int .u8 b_51), (.int .u16 b_52), (.int .u8 b_53), (.int .u32 b_54), (.slice (b_55) b_55l b_55c)])] w2 fun e4 w5 =>
        ∃ n6 : Int, ∃ n7 : Int, ∃ n8 : Int, ∃ n9 : Int, ∃ q10 : Option Addr, ∃ k11 : Nat, ∃ k12 : Nat, (e4 = .returned (.agg #[(.int .u8 n6), (.int .u16 n7), (.int .u8 n8), (.int .u32 n9), (.slice (q10) k11 k12)])) ∧
        (X.Kept L3 w2 w5) ∧
        X.CallX Try.prog 32 #[(.pointer (a)), (.agg #[(.int .u8 n6), (.int .u16 n7), (.int .u8 n8), (.int .u32 n9), (.slice (q10) k11 k12)])] w5 fun e13 w14 =>
         ∃ b15 : Bool, (e13 = .returned (.bool b15)) ∧
         (X.Kept L3 w5 w14) ∧
         R (.returned (.bool b15)) w14
      else
       ∀ w1 : World, (X.Hid [] w w1) →
       R (.returned (.bool false)) w1) :
    Calls Try.prog 10 #[.pointer a, .agg #[.int .i64 b_0, .int .i64 b_1, .int .u8 b_2, .int .u8 b_3, .int .u16 b_4, .int .u32 b_5, .int .u8 b_6, .int .u8 b_7, .int .u8 b_8, .int .u8 b_9, .int .u8 b_10, .int .u8 b_11, .int .u8 b_12, .int .u8 b_13, .int .i64 b_14, .int .i64 b_15, .slice b_16 b_16l b_16c, .int .u8 b_17, .int .u16 b_18, .int .u32 b_19, .int .u8 b_20, .int .u8 b_21, .int .u8 b_22, .int .u8 b_23, .int .u8 b_24, .int .u8 b_25, .int .u8 b_26, .int .u8 b_27, .int .i64 b_28, .int .i64 b_29, .int .i64 b_30, .int .i64 b_31, .int .u8 b_32, .string b_33, .int .u8 b_34, .int .u16 b_35, .int .u8 b_36, .int .u16 b_37, .int .u32 b_38, .int .u8 b_39, .int .u8 b_40, .int .u8 b_41, .int .u8 b_42, .int .u8 b_43, .int .u8 b_44, .int .u8 b_45, .int .u8 b_46, .string b_47, .int .u8 b_48, .int .u32 b_49, .slice b_50 b_50l b_50c, .int .u8 b_51, .int .u16 b_52, .int .u8 b_53, .int .u32 b_54, .slice b_55 b_55l b_55c, .int .u8 b_56, .int .u8 b_57, .int .u16 b_58, .int .u32 b_59, .int .u8 b_60, .int .u8 b_61, .int .u8 b_62, .int .u8 b_63, .int .u8 b_64, .int .u8 b_65, .int .u8 b_66, .int .u32 b_67, .slice b_68 b_68l b_68c, .int .u8 b_69, .string b_70, .slice b_71 b_71l b_71c, .int .u8 b_72, .int .u16 b_73]] w R :=
  X.calls_of { isLoc := [3], sym := [], loops := [], joins := [] } Try.func10 (by kernel_rfl) h
abbrev fn_num : Nat := 19
theorem x_num (a : Int) (w : World) (R : Ending → World → Prop) (h :
  R (.returned (.int .i64 a)) w) :
    Calls Try.prog 19 #[.int .i64 a] w R :=
  X.calls_of { isLoc := [], sym := [], loops := [], joins := [] } Try.func19 (by kernel_rfl) h
end Go.Proofs
