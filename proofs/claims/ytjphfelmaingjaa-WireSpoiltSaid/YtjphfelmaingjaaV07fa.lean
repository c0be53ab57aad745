import Derived.Test.YtjphfelmaingjaaXFn
import Derived.Test.YtjphfelmaingjaaProg
set_option maxRecDepth 100000
set_option linter.unusedVariables false
/- The verification conditions of this seat's functions, as the engine has them: printed by a program of the bench; checked by the kernel. -/
namespace Go.Proofs
open Go
abbrev fn_gemotlaw02_Proc : Nat := 31
theorem x_gemotlaw02_Proc (a_0 a_1 : Int) (w : World) (R : Ending → World → Prop) (h :
  ∀ w1 : World, (X.Hid [] w w1) →
  R (.returned (.agg #[(.int .u8 a_0), (.int .u16 a_1)])) w1) :
    Calls Try.prog 31 #[.agg #[.int .u8 a_0, .int .u16 a_1]] w R :=
  X.calls_of { isLoc := [1, 2], sym := [], loops := [], joins := [] } Try.func31 (by kernel_rfl) h
abbrev fn_gemotlaw02_ID : Nat := 27
theorem x_gemotlaw02_ID (a_0 a_1 a_2 a_3 a_4 a_5 a_6 a_7 a_8 a_9 : Int) (w : World) (R : Ending → World → Prop) (h :
  ∃ x1 : X.Facts, (X.FactsW x1 w []) ∧
  (∀ w2 : World, ∀ L3 : List Nat, (X.Hid [] w w2) →
   (X.NewL (w).heap.size [] w w2 L3) →
   X.CallX Try.prog 31 #[(.agg #[(.int .u8 a_0), (.int .u16 a_1)])] w2 fun e4 w5 =>
    ∃ n6 : Int, ∃ n7 : Int, (e4 = .returned (.agg #[(.int .u8 n6), (.int .u16 n7)])) ∧
    (X.Kept L3 w2 w5) ∧
    (X.FactsW x1 w5 (L3)) ∧
    ∃ x8 : X.Facts, (X.FactsW x8 w5 (L3)) ∧
    ∃ x9 : X.Facts, (X.FactsW x9 w5 (L3)) ∧
    ∃ x10 : X.Facts, (X.FactsW x10 w5 (L3)) ∧
    ∀ w11 : World, (X.Hid (L3) w5 w11) →
    R (.returned (.agg #[(.int .u8 n6), (.int .u16 n7), (.int .u32 a_2), (.int .u8 a_3), (.int .u8 a_4), (.int .u8 a_5), (.int .u8 a_6), (.int .u8 a_7), (.int .u8 a_8), (.int .u8 a_9)])) w11) ∧
  ∀ w12 : World, ∀ L13 : List Nat, (X.Hid [] w w12) →
  (X.NewL (w).heap.size [] w w12 L13) →
  X.CallX Try.prog 31 #[(.agg #[(.int .u8 a_0), (.int .u16 a_1)])] w12 fun e14 w15 =>
   ∃ n16 : Int, ∃ n17 : Int, (e14 = .returned (.agg #[(.int .u8 n16), (.int .u16 n17)])) ∧
   (X.Kept L13 w12 w15) ∧
   (X.FactsW x1 w15 (L13)) ∧
   ∃ x18 : X.Facts, (X.FactsW x18 w15 (L13)) ∧
   ∃ x19 : X.Facts, (X.FactsW x19 w15 (L13)) ∧
   ∃ x20 : X.Facts, (X.FactsW x20 w15 (L13)) ∧
   ∀ w21 : World, (X.Hid (L13) w15 w21) →
   R (.returned (.agg #[(.int .u8 n16), (.int .u16 n17), (.int .u32 a_2), (.int .u8 a_3), (.int .u8 a_4), (.int .u8 a_5), (.int .u8 a_6), (.int .u8 a_7), (.int .u8 a_8), (.int .u8 a_9)])) w21) :
    Calls Try.prog 27 #[.agg #[.int .u8 a_0, .int .u16 a_1, .int .u32 a_2, .int .u8 a_3, .int .u8 a_4, .int .u8 a_5, .int .u8 a_6, .int .u8 a_7, .int .u8 a_8, .int .u8 a_9]] w R :=
  X.calls_of { isLoc := [1, 2, 3], sym := [], loops := [(3, .unroll 4)], joins := [], stored := [(1, [3]), (5, [3])] } Try.func27 (by kernel_rfl) h
abbrev fn_gemotlaw03_Res : Nat := 29
theorem x_gemotlaw03_Res (a_0 : Int) (a_1 : ByteArray) (w : World) (R : Ending → World → Prop) (h :
  ∀ w1 : World, (X.Hid [] w w1) →
  R (.returned (.agg #[(.int .u8 a_0), (.string a_1)])) w1) :
    Calls Try.prog 29 #[.agg #[.int .u8 a_0, .string a_1]] w R :=
  X.calls_of { isLoc := [1, 2], sym := [], loops := [], joins := [] } Try.func29 (by kernel_rfl) h
abbrev fn_Part : Nat := 81
theorem x_Part (a_0 a_1 : Int) (a_2 a_3 : ByteArray) (a_4 : Int) (w : World) (R : Ending → World → Prop) (h :
  ∀ w1 : World, (X.Hid [] w w1) →
  R (.returned (.agg #[(.int .u8 a_0), (.int .u8 a_1), (.string a_2), (.string a_3), (.int .i64 a_4)])) w1) :
    Calls Try.prog 81 #[.agg #[.int .u8 a_0, .int .u8 a_1, .string a_2, .string a_3, .int .i64 a_4]] w R :=
  X.calls_of { isLoc := [1, 2], sym := [], loops := [], joins := [] } Try.func81 (by kernel_rfl) h
abbrev fn_Parts : Nat := 28
theorem x_Parts (a : Option Addr) (al ac : Nat) (w : World) (R : Ending → World → Prop) (h :
  ∃ x1 : Option Addr → Nat → Nat → Int → World → List Nat → Prop, ∃ x2 : Option Addr → Nat → Nat → Int → World → Nat, (x1 (none) 0 0 0 w []) ∧
  ∀ q3 : Option Addr, ∀ k4 : Nat, ∀ k5 : Nat, ∀ n6 : Int, ∀ w7 : World, ∀ L8 : List Nat, (X.LF (w).heap.size w7 L8) →
  (x1 q3 k4 k5 n6 w7 L8) →
  if (decide (n6 < ((al : Nat) : Int))) = true then
   ((0 : Int) ≤ n6) ∧
   (n6 < ((al : Nat) : Int)) ∧
   X.onSome (a) fun p9 =>
   ∃ n10 : Int, ∃ n11 : Int, ∃ s12 : ByteArray, ∃ s13 : ByteArray, ∃ n14 : Int, (X.Cells w7 (p9.add ((n6).toNat * 5)) [(.int .u8 n10), (.int .u8 n11), (.string s12), (.string s13), (.int .i64 n14)]) ∧
   X.CallX Try.prog 81 #[(.agg #[(.int .u8 n10), (.int .u8 n11), (.string s12), (.string s13), (.int .i64 n14)])] w7 fun e15 w16 =>
    ∃ n17 : Int, ∃ n18 : Int, ∃ s19 : ByteArray, ∃ s20 : ByteArray, ∃ n21 : Int, (e15 = .returned (.agg #[(.int .u8 n17), (.int .u8 n18), (.string s19), (.string s20), (.int .i64 n21)])) ∧
    ((w7).heap.size ≤ (w16).heap.size) ∧
    ∃ q22 : Option Addr, ∃ k23 : Nat, ∃ k24 : Nat, ∃ w25 : World, (Sem.run Try.prog (Go.Builtin.append_ #[48, 48] 48 #[(.slice (q3) k4 k5), (.slice (some ⟨(w16).heap.size, 0, none⟩) 1 1)]) (w16.alloc (.cells #[(.int .u8 n17), (.int .u8 n18), (.string s19), (.string s20), (.int .i64 n21)] 153)) = .ok (.slice (q22) k23 k24) w25) ∧
    (((w16.alloc (.cells #[(.int .u8 n17), (.int .u8 n18), (.string s19), (.string s20), (.int .i64 n21)] 153))).heap.size ≤ (w25).heap.size) ∧
    (x1 q22 k23 k24 (IntKind.wrap .i64 (n6 + 1)) w25 []) ∧
    Nat.le ((x2 q22 k23 k24 (IntKind.wrap .i64 (n6 + 1)) w25) + 1) (x2 q3 k4 k5 n6 w7)
  else
   R (.returned (.slice (q3) k4 k5)) w7) :
    Calls Try.prog 28 #[.slice a al ac] w R :=
  X.calls_of { isLoc := [], sym := [], loops := [(3, .inv [(3, .slice), (4, .int .i64)] [] true)], joins := [] } Try.func28 (by kernel_rfl) h
abbrev fn_OwnW : Nat := 112
theorem x_OwnW (a : Option Addr) (al ac : Nat) (w : World) (R : Ending → World → Prop) (h :
  ∃ x1 : Option Addr → Nat → Nat → Int → World → List Nat → Prop, ∃ x2 : Option Addr → Nat → Nat → Int → World → Nat, (x1 (none) 0 0 0 w []) ∧
  ∀ q3 : Option Addr, ∀ k4 : Nat, ∀ k5 : Nat, ∀ n6 : Int, ∀ w7 : World, ∀ L8 : List Nat, (X.LF (w).heap.size w7 L8) →
  (x1 q3 k4 k5 n6 w7 L8) →
  if (decide (n6 < ((al : Nat) : Int))) = true then
   ∃ x9 : X.Facts, (X.FactsW x9 w7 []) ∧
   ((0 : Int) ≤ n6) ∧
   (n6 < ((al : Nat) : Int)) ∧
   X.onSome (a) fun p10 =>
   ∃ s11 : ByteArray, ((((p10.add ((n6).toNat * 3)).add 0), [(.string s11)]) ∈ x9) ∧
   ((0 : Int) ≤ n6) ∧
   (n6 < ((al : Nat) : Int)) ∧
   X.onSome (a) fun p12 =>
   ∃ s13 : ByteArray, ((((p12.add ((n6).toNat * 3)).add 1), [(.string s13)]) ∈ x9) ∧
   ((0 : Int) ≤ n6) ∧
   (n6 < ((al : Nat) : Int)) ∧
   X.onSome (a) fun p14 =>
   ∃ b15 : Bool, ((((p14.add ((n6).toNat * 3)).add 2), [(.bool b15)]) ∈ x9) ∧
   ∀ w16 : World, (X.Hid [] w7 w16) →
   (X.FactsW x9 (w16.alloc (.cells #[(.string s11), (.string s13), (.bool b15)] 184)) []) ∧
   ∃ q17 : Option Addr, ∃ k18 : Nat, ∃ k19 : Nat, ∃ w20 : World, (Sem.run Try.prog (Go.Builtin.append_ #[155, 155] 155 #[(.slice (q3) k4 k5), (.slice (some ⟨(w16).heap.size, 0, none⟩) 1 1)]) (w16.alloc (.cells #[(.string s11), (.string s13), (.bool b15)] 184)) = .ok (.slice (q17) k18 k19) w20) ∧
   (((w16.alloc (.cells #[(.string s11), (.string s13), (.bool b15)] 184))).heap.size ≤ (w20).heap.size) ∧
   (X.FactsW x9 w20 []) ∧
   (x1 q17 k18 k19 (IntKind.wrap .i64 (n6 + 1)) w20 []) ∧
   Nat.le ((x2 q17 k18 k19 (IntKind.wrap .i64 (n6 + 1)) w20) + 1) (x2 q3 k4 k5 n6 w7)
  else
   R (.returned (.slice (q3) k4 k5)) w7) :
    Calls Try.prog 112 #[.slice a al ac] w R :=
  X.calls_of { isLoc := [], sym := [], loops := [(3, .inv [(3, .slice), (4, .int .i64)] [] true)], joins := [] } Try.func112 (by kernel_rfl) h
abbrev fn_OwnE : Nat := 82
theorem x_OwnE (a_0 a_1 a_2 a_3 a_4 a_5 a_6 a_7 a_8 a_9 a_10 a_11 : Int) (a_12 : Option Addr) (a_12l a_12c : Nat) (a_13 : Int) (a_14 : ByteArray) (a_15 : Option Addr) (a_15l a_15c : Nat) (a_16 a_17 : Int) (w : World) (R : Ending → World → Prop) (h :
  ∃ x1 : X.Facts, (X.FactsW x1 w []) ∧
  ∀ w2 : World, ∀ L3 : List Nat, (X.Hid [] w w2) →
  (X.NewL (w).heap.size [] w w2 L3) →
  X.CallX Try.prog 27 #[(.agg #[(.int .u8 a_1), (.int .u16 a_2), (.int .u32 a_3), (.int .u8 a_4), (.int .u8 a_5), (.int .u8 a_6), (.int .u8 a_7), (.int .u8 a_8), (.int .u8 a_9), (.int .u8 a_10)])] w2 fun e4 w5 =>
   ∃ n6 : Int, ∃ n7 : Int, ∃ n8 : Int, ∃ n9 : Int, ∃ n10 : Int, ∃ n11 : Int, ∃ n12 : Int, ∃ n13 : Int, ∃ n14 : Int, ∃ n15 : Int, (e4 = .returned (.agg #[(.int .u8 n6), (.int .u16 n7), (.int .u32 n8), (.int .u8 n9), (.int .u8 n10), (.int .u8 n11), (.int .u8 n12), (.int .u8 n13), (.int .u8 n14), (.int .u8 n15)])) ∧
   (X.Kept L3 w2 w5) ∧
   (X.FactsW x1 w5 (L3)) ∧
   X.CallX Try.prog 28 #[(.slice (a_12) a_12l a_12c)] w5 fun e16 w17 =>
    ∃ q18 : Option Addr, ∃ k19 : Nat, ∃ k20 : Nat, (e16 = .returned (.slice (q18) k19 k20)) ∧
    (X.Kept L3 w5 w17) ∧
    (X.FactsW x1 w17 (L3)) ∧
    X.CallX Try.prog 29 #[(.agg #[(.int .u8 a_13), (.string a_14)])] w17 fun e21 w22 =>
     ∃ n23 : Int, ∃ s24 : ByteArray, (e21 = .returned (.agg #[(.int .u8 n23), (.string s24)])) ∧
     (X.Kept L3 w17 w22) ∧
     (X.FactsW x1 w22 (L3)) ∧
     X.CallX Try.prog 112 #[(.slice (a_15) a_15l a_15c)] w22 fun e25 w26 =>
      ∃ q27 : Option Addr, ∃ k28 : Nat, ∃ k29 : Nat, (e25 = .returned (.slice (q27) k28 k29)) ∧
      (X.Kept L3 w22 w26) ∧
      (X.FactsW x1 w26 (L3)) ∧
      X.CallX Try.prog 31 #[(.agg #[(.int .u8 a_16), (.int .u16 a_17)])] w26 fun e30 w31 =>
       ∃ n32 : Int, ∃ n33 : Int, (e30 = .returned (.agg #[(.int .u8 n32), (.int .u16 n33)])) ∧
       (X.Kept L3 w26 w31) ∧
       (X.FactsW x1 w31 (L3)) ∧
       ∀ w34 : World, (X.Hid (L3) w31 w34) →
       R (.returned (.agg #[(.int .u8 a_0), (.int .u8 n6), (.int .u16 n7), (.int .u32 n8), (.int .u8 n9), (.int .u8 n10), (.int .u8 n11), (.int .u8 n12), (.int .u8 n13), (.int .u8 n14), (.int .u8 n15), (.int .u32 a_11), (.slice (q18) k19 k20), (.int .u8 n23), (.string s24), (.slice (q27) k28 k29), (.int .u8 n32), (.int .u16 n33)])) w34) :
    Calls Try.prog 82 #[.agg #[.int .u8 a_0, .int .u8 a_1, .int .u16 a_2, .int .u32 a_3, .int .u8 a_4, .int .u8 a_5, .int .u8 a_6, .int .u8 a_7, .int .u8 a_8, .int .u8 a_9, .int .u8 a_10, .int .u32 a_11, .slice a_12 a_12l a_12c, .int .u8 a_13, .string a_14, .slice a_15 a_15l a_15c, .int .u8 a_16, .int .u16 a_17]] w R :=
  X.calls_of { isLoc := [1, 2], sym := [], loops := [], joins := [], stored := [(1, [2])] } Try.func82 (by kernel_rfl) h
abbrev fn_EqualP : Nat := 93
theorem x_EqualP (a : Option Addr) (al ac : Nat) (b : Option Addr) (bl bc : Nat) (w : World) (R : Ending → World → Prop) (h :
  if (((al : Nat) : Int) != ((bl : Nat) : Int)) = true then
   R (.returned (.bool false)) w
  else
   ∃ x1 : Int → World → List Nat → Prop, ∃ x2 : Int → World → Nat, (x1 0 w []) ∧
   ∀ n3 : Int, ∀ w4 : World, ∀ L5 : List Nat, (X.LF (w).heap.size w4 L5) →
   (x1 n3 w4 L5) →
   if (decide (n3 < ((al : Nat) : Int))) = true then
    ((0 : Int) ≤ n3) ∧
    (n3 < ((al : Nat) : Int)) ∧
    X.onSome (a) fun p6 =>
    ∃ n7 : Int, ∃ n8 : Int, ∃ s9 : ByteArray, ∃ s10 : ByteArray, ∃ n11 : Int, (X.Cells w4 (p6.add ((n3).toNat * 5)) [(.int .u8 n7), (.int .u8 n8), (.string s9), (.string s10), (.int .i64 n11)]) ∧
    ((0 : Int) ≤ n3) ∧
    (n3 < ((bl : Nat) : Int)) ∧
    X.onSome (b) fun p12 =>
    ∃ n13 : Int, ∃ n14 : Int, ∃ s15 : ByteArray, ∃ s16 : ByteArray, ∃ n17 : Int, (X.Cells w4 (p12.add ((n3).toNat * 5)) [(.int .u8 n13), (.int .u8 n14), (.string s15), (.string s16), (.int .i64 n17)]) ∧
    if (!((n7 == n13) && ((n8 == n14) && ((s9 == s15) && ((s10 == s16) && (n11 == n17)))))) = true then
     ∀ w19 : World, (X.Hid [] w4 w19) →
     R (.returned (.bool false)) w19
    else
     ∀ w18 : World, (X.Hid [] w4 w18) →
     (x1 (IntKind.wrap .i64 (n3 + 1)) w18 []) ∧
     Nat.le ((x2 (IntKind.wrap .i64 (n3 + 1)) w18) + 1) (x2 n3 w4)
   else
    R (.returned (.bool true)) w4) :
    Calls Try.prog 93 #[.slice a al ac, .slice b bl bc] w R :=
  X.calls_of { isLoc := [], sym := [], loops := [(4, .inv [(13, .int .i64)] [] true)], joins := [] } Try.func93 (by kernel_rfl) h
abbrev fn_EqualW : Nat := 118
theorem x_EqualW (a : Option Addr) (al ac : Nat) (b : Option Addr) (bl bc : Nat) (w : World) (R : Ending → World → Prop) (h :
  if (((al : Nat) : Int) != ((bl : Nat) : Int)) = true then
   R (.returned (.bool false)) w
  else
   ∃ x1 : Int → World → List Nat → Prop, ∃ x2 : Int → World → Nat, (x1 0 w []) ∧
   ∀ n3 : Int, ∀ w4 : World, ∀ L5 : List Nat, (X.LF (w).heap.size w4 L5) →
   (x1 n3 w4 L5) →
   if (decide (n3 < ((al : Nat) : Int))) = true then
    ((0 : Int) ≤ n3) ∧
    (n3 < ((al : Nat) : Int)) ∧
    X.onSome (a) fun p6 =>
    ∃ s7 : ByteArray, ∃ s8 : ByteArray, ∃ b9 : Bool, (X.Cells w4 (p6.add ((n3).toNat * 3)) [(.string s7), (.string s8), (.bool b9)]) ∧
    ((0 : Int) ≤ n3) ∧
    (n3 < ((bl : Nat) : Int)) ∧
    X.onSome (b) fun p10 =>
    ∃ s11 : ByteArray, ∃ s12 : ByteArray, ∃ b13 : Bool, (X.Cells w4 (p10.add ((n3).toNat * 3)) [(.string s11), (.string s12), (.bool b13)]) ∧
    if (!((s7 == s11) && ((s8 == s12) && (b9 == b13)))) = true then
     ∀ w15 : World, (X.Hid [] w4 w15) →
     R (.returned (.bool false)) w15
    else
     ∀ w14 : World, (X.Hid [] w4 w14) →
     (x1 (IntKind.wrap .i64 (n3 + 1)) w14 []) ∧
     Nat.le ((x2 (IntKind.wrap .i64 (n3 + 1)) w14) + 1) (x2 n3 w4)
   else
    R (.returned (.bool true)) w4) :
    Calls Try.prog 118 #[.slice a al ac, .slice b bl bc] w R :=
  X.calls_of { isLoc := [], sym := [], loops := [(4, .inv [(13, .int .i64)] [] true)], joins := [] } Try.func118 (by kernel_rfl) h
abbrev fn_pSame : Nat := 39
theorem x_pSame (a : Option Addr) (al ac : Nat) (b : Option Addr) (bl bc : Nat) (w : World) (R : Ending → World → Prop) (h :
  X.CallX Try.prog 93 #[(.slice (a) al ac), (.slice (b) bl bc)] w fun e1 w2 =>
   ∃ b3 : Bool, (e1 = .returned (.bool b3)) ∧
   ((w).heap.size ≤ (w2).heap.size) ∧
   R (.returned (.bool b3)) w2) :
    Calls Try.prog 39 #[.slice a al ac, .slice b bl bc] w R :=
  X.calls_of { isLoc := [], sym := [], loops := [], joins := [] } Try.func39 (by kernel_rfl) h
abbrev fn_eSame : Nat := 95
theorem x_eSame (a_0 a_1 a_2 a_3 a_4 a_5 a_6 a_7 a_8 a_9 a_10 a_11 : Int) (a_12 : Option Addr) (a_12l a_12c : Nat) (a_13 : Int) (a_14 : ByteArray) (a_15 : Option Addr) (a_15l a_15c : Nat) (a_16 a_17 b_0 b_1 b_2 b_3 b_4 b_5 b_6 b_7 b_8 b_9 b_10 b_11 : Int) (b_12 : Option Addr) (b_12l b_12c : Nat) (b_13 : Int) (b_14 : ByteArray) (b_15 : Option Addr) (b_15l b_15c : Nat) (b_16 b_17 : Int) (w : World) (R : Ending → World → Prop) (h :
  if ((((a_0 == b_0) && (((a_1 == b_1) && (a_2 == b_2)) && ((a_3 == b_3) && ((a_4 == b_4) && (((a_5 == b_5) && (a_6 == b_6)) && (((a_7 == b_7) && (a_8 == b_8)) && ((a_9 == b_9) && (a_10 == b_10)))))))) && (a_11 == b_11)) == true) = true then
   ∀ w2 : World, ∀ L3 : List Nat, (X.Hid [] w w2) →
   (X.NewL (w).heap.size [] w w2 L3) →
   X.CallX Try.prog 39 #[(.slice (a_12) a_12l a_12c), (.slice (b_12) b_12l b_12c)] w2 fun e4 w5 =>
    ∃ b6 : Bool, (e4 = .returned (.bool b6)) ∧
    (X.Kept L3 w2 w5) ∧
    if (((true && b6) && ((a_13 == b_13) && (a_14 == b_14))) == true) = true then
     X.CallX Try.prog 118 #[(.slice (a_15) a_15l a_15c), (.slice (b_15) b_15l b_15c)] w5 fun e7 w8 =>
      ∃ b9 : Bool, (e7 = .returned (.bool b9)) ∧
      (X.Kept L3 w5 w8) ∧
      R (.returned (.bool ((true && b9) && ((a_16 == b_16) && (a_17 == b_17))))) w8
    else
     R (.returned (.bool (false && ((a_16 == b_16) && (a_17 == b_17))))) w5
  else
   ∀ w1 : World, (X.Hid [] w w1) →
   R (.returned (.bool (false && ((a_16 == b_16) && (a_17 == b_17))))) w1) :
    Calls Try.prog 95 #[.agg #[.int .u8 a_0, .int .u8 a_1, .int .u16 a_2, .int .u32 a_3, .int .u8 a_4, .int .u8 a_5, .int .u8 a_6, .int .u8 a_7, .int .u8 a_8, .int .u8 a_9, .int .u8 a_10, .int .u32 a_11, .slice a_12 a_12l a_12c, .int .u8 a_13, .string a_14, .slice a_15 a_15l a_15c, .int .u8 a_16, .int .u16 a_17], .agg #[.int .u8 b_0, .int .u8 b_1, .int .u16 b_2, .int .u32 b_3, .int .u8 b_4, .int .u8 b_5, .int .u8 b_6, .int .u8 b_7, .int .u8 b_8, .int .u8 b_9, .int .u8 b_10, .int .u32 b_11, .slice b_12 b_12l b_12c, .int .u8 b_13, .string b_14, .slice b_15 b_15l b_15c, .int .u8 b_16, .int .u16 b_17]] w R :=
  X.calls_of { isLoc := [2, 3], sym := [], loops := [], joins := [] } Try.func95 (by kernel_rfl) h
abbrev fn_r3Same : Nat := 43
theorem x_r3Same (a : Option Addr) (al ac : Nat) (b : Option Addr) (bl bc : Nat) (w : World) (R : Ending → World → Prop) (h :
  if (((al : Nat) : Int) != ((bl : Nat) : Int)) = true then
   R (.returned (.bool false)) w
  else
   ∃ x1 : Int → World → List Nat → Prop, ∃ x2 : Int → World → Nat, (x1 0 w []) ∧
   ∀ n3 : Int, ∀ w4 : World, ∀ L5 : List Nat, (X.LF (w).heap.size w4 L5) →
   (x1 n3 w4 L5) →
   if (decide (n3 < ((al : Nat) : Int))) = true then
    ((0 : Int) ≤ n3) ∧
    (n3 < ((al : Nat) : Int)) ∧
    X.onSome (a) fun p6 =>
    ∃ n7 : Int, ∃ n8 : Int, ∃ s9 : ByteArray, ∃ s10 : ByteArray, ∃ n11 : Int, (X.Cells w4 (p6.add ((n3).toNat * 5)) [(.int .u8 n7), (.int .u8 n8), (.string s9), (.string s10), (.int .i64 n11)]) ∧
    ((0 : Int) ≤ n3) ∧
    (n3 < ((bl : Nat) : Int)) ∧
    X.onSome (b) fun p12 =>
    ∃ n13 : Int, ∃ n14 : Int, ∃ s15 : ByteArray, ∃ s16 : ByteArray, ∃ n17 : Int, (X.Cells w4 (p12.add ((n3).toNat * 5)) [(.int .u8 n13), (.int .u8 n14), (.string s15), (.string s16), (.int .i64 n17)]) ∧
    if (!((n7 == n13) && ((n8 == n14) && ((s9 == s15) && ((s10 == s16) && (n11 == n17)))))) = true then
     ∀ w19 : World, (X.Hid [] w4 w19) →
     R (.returned (.bool false)) w19
    else
     ∀ w18 : World, (X.Hid [] w4 w18) →
     (x1 (IntKind.wrap .i64 (n3 + 1)) w18 []) ∧
     Nat.le ((x2 (IntKind.wrap .i64 (n3 + 1)) w18) + 1) (x2 n3 w4)
   else
    R (.returned (.bool true)) w4) :
    Calls Try.prog 43 #[.slice a al ac, .slice b bl bc] w R :=
  X.calls_of { isLoc := [], sym := [], loops := [(4, .inv [(5, .int .i64)] [] true)], joins := [] } Try.func43 (by kernel_rfl) h
abbrev fn_r4Same : Nat := 119
theorem x_r4Same (a : Option Addr) (al ac : Nat) (b : Option Addr) (bl bc : Nat) (w : World) (R : Ending → World → Prop) (h :
  if (((al : Nat) : Int) != ((bl : Nat) : Int)) = true then
   R (.returned (.bool false)) w
  else
   ∃ x1 : Int → World → List Nat → Prop, ∃ x2 : Int → World → Nat, (x1 0 w []) ∧
   ∀ n3 : Int, ∀ w4 : World, ∀ L5 : List Nat, (X.LF (w).heap.size w4 L5) →
   (x1 n3 w4 L5) →
   if (decide (n3 < ((al : Nat) : Int))) = true then
    ((0 : Int) ≤ n3) ∧
    (n3 < ((al : Nat) : Int)) ∧
    X.onSome (a) fun p6 =>
    ∃ s7 : ByteArray, ∃ s8 : ByteArray, ∃ b9 : Bool, (X.Cells w4 (p6.add ((n3).toNat * 3)) [(.string s7), (.string s8), (.bool b9)]) ∧
    ((0 : Int) ≤ n3) ∧
    (n3 < ((bl : Nat) : Int)) ∧
    X.onSome (b) fun p10 =>
    ∃ s11 : ByteArray, ∃ s12 : ByteArray, ∃ b13 : Bool, (X.Cells w4 (p10.add ((n3).toNat * 3)) [(.string s11), (.string s12), (.bool b13)]) ∧
    if (!((s7 == s11) && ((s8 == s12) && (b9 == b13)))) = true then
     ∀ w15 : World, (X.Hid [] w4 w15) →
     R (.returned (.bool false)) w15
    else
     ∀ w14 : World, (X.Hid [] w4 w14) →
     (x1 (IntKind.wrap .i64 (n3 + 1)) w14 []) ∧
     Nat.le ((x2 (IntKind.wrap .i64 (n3 + 1)) w14) + 1) (x2 n3 w4)
   else
    R (.returned (.bool true)) w4) :
    Calls Try.prog 119 #[.slice a al ac, .slice b bl bc] w R :=
  X.calls_of { isLoc := [], sym := [], loops := [(4, .inv [(5, .int .i64)] [] true)], joins := [] } Try.func119 (by kernel_rfl) h
abbrev fn_r5Same : Nat := 96
theorem x_r5Same (a_0 a_1 a_2 a_3 a_4 a_5 a_6 a_7 a_8 a_9 a_10 a_11 : Int) (a_12 : Option Addr) (a_12l a_12c : Nat) (a_13 : Int) (a_14 : ByteArray) (a_15 : Option Addr) (a_15l a_15c : Nat) (a_16 a_17 b_0 b_1 b_2 b_3 b_4 b_5 b_6 b_7 b_8 b_9 b_10 b_11 : Int) (b_12 : Option Addr) (b_12l b_12c : Nat) (b_13 : Int) (b_14 : ByteArray) (b_15 : Option Addr) (b_15l b_15c : Nat) (b_16 b_17 : Int) (w : World) (R : Ending → World → Prop) (h :
  if ((((a_0 == b_0) && (((a_1 == b_1) && (a_2 == b_2)) && ((a_3 == b_3) && ((a_4 == b_4) && (((a_5 == b_5) && (a_6 == b_6)) && (((a_7 == b_7) && (a_8 == b_8)) && ((a_9 == b_9) && (a_10 == b_10)))))))) && (a_11 == b_11)) == true) = true then
   ∀ w2 : World, ∀ L3 : List Nat, (X.Hid [] w w2) →
   (X.NewL (w).heap.size [] w w2 L3) →
   X.CallX Try.prog 43 #[(.slice (a_12) a_12l a_12c), (.slice (b_12) b_12l b_12c)] w2 fun e4 w5 =>
    ∃ b6 : Bool, (e4 = .returned (.bool b6)) ∧
    (X.Kept L3 w2 w5) ∧
    if (((true && b6) && ((a_13 == b_13) && (a_14 == b_14))) == true) = true then
     X.CallX Try.prog 119 #[(.slice (a_15) a_15l a_15c), (.slice (b_15) b_15l b_15c)] w5 fun e7 w8 =>
      ∃ b9 : Bool, (e7 = .returned (.bool b9)) ∧
      (X.Kept L3 w5 w8) ∧
      R (.returned (.bool ((true && b9) && ((a_16 == b_16) && (a_17 == b_17))))) w8
    else
     R (.returned (.bool (false && ((a_16 == b_16) && (a_17 == b_17))))) w5
  else
   ∀ w1 : World, (X.Hid [] w w1) →
   R (.returned (.bool (false && ((a_16 == b_16) && (a_17 == b_17))))) w1) :
    Calls Try.prog 96 #[.agg #[.int .u8 a_0, .int .u8 a_1, .int .u16 a_2, .int .u32 a_3, .int .u8 a_4, .int .u8 a_5, .int .u8 a_6, .int .u8 a_7, .int .u8 a_8, .int .u8 a_9, .int .u8 a_10, .int .u32 a_11, .slice a_12 a_12l a_12c, .int .u8 a_13, .string a_14, .slice a_15 a_15l a_15c, .int .u8 a_16, .int .u16 a_17], .agg #[.int .u8 b_0, .int .u8 b_1, .int .u16 b_2, .int .u32 b_3, .int .u8 b_4, .int .u8 b_5, .int .u8 b_6, .int .u8 b_7, .int .u8 b_8, .int .u8 b_9, .int .u8 b_10, .int .u32 b_11, .slice b_12 b_12l b_12c, .int .u8 b_13, .string b_14, .slice b_15 b_15l b_15c, .int .u8 b_16, .int .u16 b_17]] w R :=
  X.calls_of { isLoc := [2, 3], sym := [], loops := [], joins := [] } Try.func96 (by kernel_rfl) h
abbrev fn_Light3 : Nat := 25
theorem x_Light3 (a : Option Addr) (al ac : Nat) (w : World) (R : Ending → World → Prop) (h :
  ∃ x1 : Int → Int → World → List Nat → Prop, ∃ x2 : Int → Int → World → Nat, (x1 3000 0 w []) ∧
  ∀ n3 : Int, ∀ n4 : Int, ∀ w5 : World, ∀ L6 : List Nat, (X.LF (w).heap.size w5 L6) →
  (x1 n3 n4 w5 L6) →
  if ((decide (n4 < ((al : Nat) : Int)) && decide (n4 < 300)) && decide (n3 ≥ 0)) = true then
   ((0 : Int) ≤ n4) ∧
   (n4 < ((al : Nat) : Int)) ∧
   X.onSome (a) fun p7 =>
   ∃ s8 : ByteArray, (World.cell? w5 ((p7.add ((n4).toNat * 5)).add 2) = some (.string s8)) ∧
   ((0 : Int) ≤ n4) ∧
   (n4 < ((al : Nat) : Int)) ∧
   X.onSome (a) fun p9 =>
   ∃ s10 : ByteArray, (World.cell? w5 ((p9.add ((n4).toNat * 5)).add 3) = some (.string s10)) ∧
   ∀ w11 : World, (X.Hid [] w5 w11) →
   (x1 (IntKind.wrap .i64 ((IntKind.wrap .i64 ((IntKind.wrap .i64 (n3 - 3)) - (if (4000 : Int) < (((s8.size) : Nat) : Int) then 4000 else (((s8.size) : Nat) : Int)))) - (if (4000 : Int) < (((s10.size) : Nat) : Int) then 4000 else (((s10.size) : Nat) : Int)))) (IntKind.wrap .i64 (n4 + 1)) w11 []) ∧
   Nat.le ((x2 (IntKind.wrap .i64 ((IntKind.wrap .i64 ((IntKind.wrap .i64 (n3 - 3)) - (if (4000 : Int) < (((s8.size) : Nat) : Int) then 4000 else (((s8.size) : Nat) : Int)))) - (if (4000 : Int) < (((s10.size) : Nat) : Int) then 4000 else (((s10.size) : Nat) : Int)))) (IntKind.wrap .i64 (n4 + 1)) w11) + 1) (x2 n3 n4 w5)
  else
   R (.returned (.bool (decide (n3 ≥ 0)))) w5) :
    Calls Try.prog 25 #[.slice a al ac] w R :=
  X.calls_of { isLoc := [], sym := [], loops := [(3, .inv [(3, .int .i64), (4, .int .i64)] [] true)], joins := [] } Try.func25 (by kernel_rfl) h
abbrev fn_Light5 : Nat := 16
theorem x_Light5 (a : Option Addr) (al ac : Nat) (w : World) (R : Ending → World → Prop) (h :
  ∃ x1 : Int → Int → World → List Nat → Prop, ∃ x2 : Int → Int → World → Nat, (x1 6000 0 w []) ∧
  ∀ n3 : Int, ∀ n4 : Int, ∀ w5 : World, ∀ L6 : List Nat, (X.LF (w).heap.size w5 L6) →
  (x1 n3 n4 w5 L6) →
  if ((decide (n4 < ((al : Nat) : Int)) && decide (n4 < 200)) && decide (n3 ≥ 0)) = true then
   ((0 : Int) ≤ n4) ∧
   (n4 < ((al : Nat) : Int)) ∧
   X.onSome (a) fun p7 =>
   ∃ n8 : Int, ∃ n9 : Int, ∃ n10 : Int, ∃ n11 : Int, ∃ n12 : Int, ∃ n13 : Int, ∃ n14 : Int, ∃ n15 : Int, ∃ n16 : Int, ∃ n17 : Int, ∃ n18 : Int, ∃ n19 : Int, ∃ q20 : Option Addr, ∃ k21 : Nat, ∃ k22 : Nat, ∃ n23 : Int, ∃ s24 : ByteArray, ∃ q25 : Option Addr, ∃ k26 : Nat, ∃ k27 : Nat, ∃ n28 : Int, ∃ n29 : Int, (X.Cells w5 (p7.add ((n4).toNat * 18)) [(.int .u8 n8), (.int .u8 n9), (.int .u16 n10), (.int .u32 n11), (.int .u8 n12), (.int .u8 n13), (.int .u8 n14), (.int .u8 n15), (.int .u8 n16), (.int .u8 n17), (.int .u8 n18), (.int .u32 n19), (.slice (q20) k21 k22), (.int .u8 n23), (.string s24), (.slice (q25) k26 k27), (.int .u8 n28), (.int .u16 n29)]) ∧
   ∀ w30 : World, ∀ L31 : List Nat, (X.Hid [] w5 w30) →
   (X.NewL (w).heap.size [] w5 w30 L31) →
   X.CallX Try.prog 25 #[(.slice (q20) k21 k22)] w30 fun e32 w33 =>
    ∃ b34 : Bool, (e32 = .returned (.bool b34)) ∧
    (X.Kept L31 w30 w33) ∧
    if ((!b34) || decide (((k26 : Nat) : Int) > 300)) = true then
     R (.returned (.bool false)) w33
    else
     ∃ x35 : Int → Int → World → List Nat → Prop, ∃ x36 : Int → Int → World → Nat, (x35 (IntKind.wrap .i64 ((IntKind.wrap .i64 ((IntKind.wrap .i64 (n3 - 10)) - (if (7000 : Int) < (((s24.size) : Nat) : Int) then 7000 else (((s24.size) : Nat) : Int)))) - (IntKind.wrap .i64 (30 * (if (200 : Int) < ((k21 : Nat) : Int) then 200 else ((k21 : Nat) : Int)))))) 0 w33 (L31)) ∧
     ∀ n37 : Int, ∀ n38 : Int, ∀ w39 : World, ∀ L40 : List Nat, (X.LF (w).heap.size w39 L40) →
     (x35 n37 n38 w39 L40) →
     if (decide (n38 < ((k26 : Nat) : Int))) = true then
      ((0 : Int) ≤ n38) ∧
      (n38 < ((k26 : Nat) : Int)) ∧
      X.onSome (q25) fun p41 =>
      ∃ s42 : ByteArray, (World.cell? w39 ((p41.add ((n38).toNat * 3)).add 0) = some (.string s42)) ∧
      (¬ ((((p41.add (n38.toNat * 3)).add 0).block) ∈ L40)) ∧
      ((0 : Int) ≤ n38) ∧
      (n38 < ((k26 : Nat) : Int)) ∧
      X.onSome (q25) fun p43 =>
      ∃ s44 : ByteArray, (World.cell? w39 ((p43.add ((n38).toNat * 3)).add 1) = some (.string s44)) ∧
      (¬ (((p43.add (n38.toNat * 3)).block) ∈ L40)) ∧
      ∀ w45 : World, ∀ L46 : List Nat, (X.Hid (L40) w39 w45) →
      (X.NewL (w).heap.size (L40) w39 w45 L46) →
      (([(.int .u8 n8), (.int .u8 n9), (.int .u16 n10), (.int .u32 n11), (.int .u8 n12), (.int .u8 n13), (.int .u8 n14), (.int .u8 n15), (.int .u8 n16), (.int .u8 n17), (.int .u8 n18), (.int .u32 n19), (.slice (q20) k21 k22), (.int .u8 n23), (.string s24), (.slice (q25) k26 k27), (.int .u8 n28), (.int .u16 n29)] : List Value) = [(.int .u8 n8), (.int .u8 n9), (.int .u16 n10), (.int .u32 n11), (.int .u8 n12), (.int .u8 n13), (.int .u8 n14), (.int .u8 n15), (.int .u8 n16), (.int .u8 n17), (.int .u8 n18), (.int .u32 n19), (.slice (q20) k21 k22), (.int .u8 n23), (.string s24), (.slice (q25) k26 k27), (.int .u8 n28), (.int .u16 n29)]) ∧
      (x35 (IntKind.wrap .i64 ((IntKind.wrap .i64 ((IntKind.wrap .i64 (n37 - 1)) - (if (7000 : Int) < (((s42.size) : Nat) : Int) then 7000 else (((s42.size) : Nat) : Int)))) - (if (7000 : Int) < (((s44.size) : Nat) : Int) then 7000 else (((s44.size) : Nat) : Int)))) (IntKind.wrap .i64 (n38 + 1)) w45 (L46)) ∧
      Nat.le ((x36 (IntKind.wrap .i64 ((IntKind.wrap .i64 ((IntKind.wrap .i64 (n37 - 1)) - (if (7000 : Int) < (((s42.size) : Nat) : Int) then 7000 else (((s42.size) : Nat) : Int)))) - (if (7000 : Int) < (((s44.size) : Nat) : Int) then 7000 else (((s44.size) : Nat) : Int)))) (IntKind.wrap .i64 (n38 + 1)) w45) + 1) (x36 n37 n38 w39)
     else
      (x1 n37 (IntKind.wrap .i64 (n4 + 1)) w39 (L40)) ∧
      Nat.le ((x2 n37 (IntKind.wrap .i64 (n4 + 1)) w39) + 1) (x2 n3 n4 w5)
  else
   R (.returned (.bool (decide (n3 ≥ 0) && decide (((al : Nat) : Int) ≤ 150)))) w5) :
    Calls Try.prog 16 #[.slice a al ac] w R :=
  X.calls_of { isLoc := [5], sym := [], loops := [(3, .inv [(3, .int .i64), (4, .int .i64)] [] true), (10, .inv [(3, .int .i64), (6, .int .i64)] [] true)], joins := [] } Try.func16 (by kernel_rfl) h
abbrev fn_RefProc : Nat := 78
theorem x_RefProc (a_0 a_1 : Int) (w : World) (R : Ending → World → Prop) (h :
  ∀ w1 : World, (X.Hid [] w w1) →
  R (.returned (.agg #[(.int .u8 a_0), (.int .u16 a_1)])) w1) :
    Calls Try.prog 78 #[.agg #[.int .u8 a_0, .int .u16 a_1]] w R :=
  X.calls_of { isLoc := [1, 2], sym := [], loops := [], joins := [] } Try.func78 (by kernel_rfl) h
end Go.Proofs
/- The verification conditions of this seat's functions, as the engine has them: printed by a program of the bench; checked by the kernel. -/
namespace Go.Proofs
open Go
abbrev fn_part_Part_Right : Nat := 129
theorem x_part_Part_Right (a_0 a_1 : Int) (a_2 a_3 : ByteArray) (a_4 : Int) (w : World) (R : Ending → World → Prop) (h :
  if (((decide (a_0 < 4) && (!((a_2.toList) == ((ByteArray.mk #[]).toList)))) && decide ((((a_2.size) : Nat) : Int) ≤ 16)) == true) = true then
   ∀ w2 : World, ∀ L3 : List Nat, (X.Hid [] w w2) →
   (X.NewL (w).heap.size [] w w2 L3) →
   X.CallX Try.prog 137 #[(.agg #[(.int .u8 a_0), (.int .u8 a_1), (.string a_2), (.string a_3), (.int .i64 a_4)])] w2 fun e4 w5 =>
    ∃ b6 : Bool, (e4 = .returned (.bool b6)) ∧
    (X.Kept L3 w2 w5) ∧
    R (.returned (.bool (true && b6))) w5
  else
   ∀ w1 : World, (X.Hid [] w w1) →
   R (.returned (.bool false)) w1) :
    Calls Try.prog 129 #[.agg #[.int .u8 a_0, .int .u8 a_1, .string a_2, .string a_3, .int .i64 a_4]] w R :=
  X.calls_of { isLoc := [1], sym := [], loops := [], joins := [] } Try.func129 (by kernel_rfl) h
abbrev fn_part_Part_fits : Nat := 137
theorem x_part_Part_fits (a_0 a_1 : Int) (a_2 a_3 : ByteArray) (a_4 : Int) (w : World) (R : Ending → World → Prop) (h :
  if (a_1 == 1) = true then
   ∀ w9 : World, (X.Hid [] w w9) →
   R (.returned (.bool (decide ((((a_3.size) : Nat) : Int) ≤ 64) && (a_4 == 0)))) w9
  else
   if (a_1 == 2) = true then
    if (a_1 == 2) = true then
     ∀ w8 : World, (X.Hid [] w w8) →
     R (.returned (.bool (((a_3.toList) == ((ByteArray.mk #[]).toList)) && decide (a_4 ≥ 0)))) w8
    else
     if (a_1 == 0) = true then
      ∀ w7 : World, (X.Hid [] w w7) →
      R (.returned (.bool (((a_3.toList) == ((ByteArray.mk #[]).toList)) && (a_4 == 0)))) w7
     else
      if (a_1 == 4) = true then
       ∀ w6 : World, (X.Hid [] w w6) →
       R (.returned (.bool (((a_3.toList) == ((ByteArray.mk #[]).toList)) && (a_4 == 0)))) w6
      else
       ∀ w5 : World, (X.Hid [] w w5) →
       R (.returned (.bool false)) w5
   else
    if (a_1 == 3) = true then
     ∀ w4 : World, (X.Hid [] w w4) →
     R (.returned (.bool (((a_3.toList) == ((ByteArray.mk #[]).toList)) && decide (a_4 ≥ 0)))) w4
    else
     if (a_1 == 0) = true then
      ∀ w3 : World, (X.Hid [] w w3) →
      R (.returned (.bool (((a_3.toList) == ((ByteArray.mk #[]).toList)) && (a_4 == 0)))) w3
     else
      if (a_1 == 4) = true then
       ∀ w2 : World, (X.Hid [] w w2) →
       R (.returned (.bool (((a_3.toList) == ((ByteArray.mk #[]).toList)) && (a_4 == 0)))) w2
      else
       ∀ w1 : World, (X.Hid [] w w1) →
       R (.returned (.bool false)) w1) :
    Calls Try.prog 137 #[.agg #[.int .u8 a_0, .int .u8 a_1, .string a_2, .string a_3, .int .i64 a_4]] w R :=
  X.calls_of { isLoc := [1], sym := [], loops := [], joins := [] } Try.func137 (by kernel_rfl) h
abbrev fn_part_Right_1 : Nat := 128
theorem x_part_Right_1 (a_0 a_1 : Int) (a_2 a_3 : ByteArray) (a_4 : Int) (w : World) (R : Ending → World → Prop) (h :
  ∀ w1 : World, ∀ L2 : List Nat, (X.Hid [] w w1) →
  (X.NewL (w).heap.size [] w w1 L2) →
  X.CallX Try.prog 129 #[(.agg #[(.int .u8 a_0), (.int .u8 a_1), (.string a_2), (.string a_3), (.int .i64 a_4)])] w1 fun e3 w4 =>
   ∃ b5 : Bool, (e3 = .returned (.bool b5)) ∧
   (X.Kept L2 w1 w4) ∧
   R (.returned (.bool (!b5))) w4) :
    Calls Try.prog 128 #[.agg #[.int .u8 a_0, .int .u8 a_1, .string a_2, .string a_3, .int .i64 a_4]] w R :=
  X.calls_of { isLoc := [1], sym := [], loops := [], joins := [] } Try.func128 (by kernel_rfl) h
abbrev fn_part_Right : Nat := 113
theorem x_part_Right (a : Option Addr) (al ac : Nat) (w : World) (R : Ending → World → Prop) (h :
  if (decide (((al : Nat) : Int) < 1) || decide (((al : Nat) : Int) > 4)) = true then
   R (.returned (.bool false)) w
  else
   X.CallX Try.prog 127 #[(.slice (a) al ac), (.func (.func 128) #[] #[])] w fun e1 w2 =>
    ∃ b3 : Bool, (e1 = .returned (.bool b3)) ∧
    ((w).heap.size ≤ (w2).heap.size) ∧
    R (.returned (.bool (!b3))) w2) :
    Calls Try.prog 113 #[.slice a al ac] w R :=
  X.calls_of { isLoc := [], sym := [], loops := [], joins := [] } Try.func113 (by kernel_rfl) h
abbrev fn_ContainsF : Nat := 127
theorem x_ContainsF (a : Option Addr) (al ac : Nat) (w : World) (R : Ending → World → Prop) (h :
  X.CallX Try.prog 136 #[(.slice (a) al ac), (.func (.func (OfNat.ofNat 128)) #[] #[])] w fun e1 w2 =>
   ∃ n3 : Int, (e1 = .returned (.int .i64 n3)) ∧
   ((w).heap.size ≤ (w2).heap.size) ∧
   R (.returned (.bool (decide (n3 ≥ 0)))) w2) :
    Calls Try.prog 127 #[.slice a al ac, .func (.func 128) #[] #[]] w R :=
  X.calls_of { isLoc := [], sym := [], loops := [], joins := [] } Try.func127 (by kernel_rfl) h
abbrev fn_IndexF : Nat := 136
theorem x_IndexF (a : Option Addr) (al ac : Nat) (w : World) (R : Ending → World → Prop) (h :
  ∃ x1 : Int → World → List Nat → Prop, ∃ x2 : Int → World → Nat, (x1 0 w []) ∧
  ∀ n3 : Int, ∀ w4 : World, ∀ L5 : List Nat, (X.LF (w).heap.size w4 L5) →
  (x1 n3 w4 L5) →
  if (decide (n3 < ((al : Nat) : Int))) = true then
   ((0 : Int) ≤ n3) ∧
   (n3 < ((al : Nat) : Int)) ∧
   X.onSome (a) fun p6 =>
   ∃ n7 : Int, ∃ n8 : Int, ∃ s9 : ByteArray, ∃ s10 : ByteArray, ∃ n11 : Int, (X.Cells w4 (p6.add ((n3).toNat * 5)) [(.int .u8 n7), (.int .u8 n8), (.string s9), (.string s10), (.int .i64 n11)]) ∧
   X.CallX Try.prog (OfNat.ofNat 128) #[(.agg #[(.int .u8 n7), (.int .u8 n8), (.string s9), (.string s10), (.int .i64 n11)])] w4 fun e12 w13 =>
    ∃ b14 : Bool, (e12 = .returned (.bool b14)) ∧
    ((w4).heap.size ≤ (w13).heap.size) ∧
    if b14 = true then
     R (.returned (.int .i64 n3)) w13
    else
     (x1 (IntKind.wrap .i64 (n3 + 1)) w13 []) ∧
     Nat.le ((x2 (IntKind.wrap .i64 (n3 + 1)) w13) + 1) (x2 n3 w4)
  else
   R (.returned (.int .i64 (-1))) w4) :
    Calls Try.prog 136 #[.slice a al ac, .func (.func 128) #[] #[]] w R :=
  X.calls_of { isLoc := [], sym := [], loops := [(2, .inv [(8, .int .i64)] [] true)], joins := [] } Try.func136 (by kernel_rfl) h
abbrev fn_r3Right : Nat := 117
theorem x_r3Right (a_0 a_1 : Int) (a_2 a_3 : ByteArray) (a_4 : Int) (w : World) (R : Ending → World → Prop) (h :
  ∀ w1 : World, (X.Hid [] w w1) →
  R (.returned (.bool (((((((decide (a_0 < 4) && decide (a_1 ≤ 4)) && decide ((((a_2.size) : Nat) : Int) ≥ 1)) && decide ((((a_2.size) : Nat) : Int) ≤ 16)) && decide ((((a_3.size) : Nat) : Int) ≤ 64)) && ((a_1 == 1) || ((a_3.toList) == ((ByteArray.mk #[]).toList)))) && decide (a_4 ≥ 0)) && (((a_1 == 2) || (a_1 == 3)) || (a_4 == 0))))) w1) :
    Calls Try.prog 117 #[.agg #[.int .u8 a_0, .int .u8 a_1, .string a_2, .string a_3, .int .i64 a_4]] w R :=
  X.calls_of { isLoc := [1], sym := [], loops := [], joins := [] } Try.func117 (by kernel_rfl) h
abbrev fn_r3RightAll : Nat := 90
theorem x_r3RightAll (a : Option Addr) (al ac : Nat) (w : World) (R : Ending → World → Prop) (h :
  ∃ x1 : Int → World → List Nat → Prop, ∃ x2 : Int → World → Nat, (x1 0 w []) ∧
  ∀ n3 : Int, ∀ w4 : World, ∀ L5 : List Nat, (X.LF (w).heap.size w4 L5) →
  (x1 n3 w4 L5) →
  if (decide (n3 < ((al : Nat) : Int)) && decide (n3 < 10)) = true then
   ((0 : Int) ≤ n3) ∧
   (n3 < ((al : Nat) : Int)) ∧
   X.onSome (a) fun p6 =>
   ∃ n7 : Int, ∃ n8 : Int, ∃ s9 : ByteArray, ∃ s10 : ByteArray, ∃ n11 : Int, (X.Cells w4 (p6.add ((n3).toNat * 5)) [(.int .u8 n7), (.int .u8 n8), (.string s9), (.string s10), (.int .i64 n11)]) ∧
   X.CallX Try.prog 117 #[(.agg #[(.int .u8 n7), (.int .u8 n8), (.string s9), (.string s10), (.int .i64 n11)])] w4 fun e12 w13 =>
    ∃ b14 : Bool, (e12 = .returned (.bool b14)) ∧
    ((w4).heap.size ≤ (w13).heap.size) ∧
    if (!b14) = true then
     R (.returned (.bool false)) w13
    else
     (x1 (IntKind.wrap .i64 (n3 + 1)) w13 []) ∧
     Nat.le ((x2 (IntKind.wrap .i64 (n3 + 1)) w13) + 1) (x2 n3 w4)
  else
   R (.returned (.bool (decide (((al : Nat) : Int) ≥ 1) && decide (((al : Nat) : Int) ≤ 4)))) w4) :
    Calls Try.prog 90 #[.slice a al ac] w R :=
  X.calls_of { isLoc := [], sym := [], loops := [(2, .inv [(3, .int .i64)] [] true)], joins := [] } Try.func90 (by kernel_rfl) h
abbrev fn_ResRight : Nat := 85
theorem x_ResRight (a_0 : Int) (a_1 : ByteArray) (w : World) (R : Ending → World → Prop) (h :
  ∀ w1 : World, (X.Hid [] w w1) →
  R (.returned (.bool (decide (a_0 ≤ 5) && decide ((((a_1.size) : Nat) : Int) ≤ 1000)))) w1) :
    Calls Try.prog 85 #[.agg #[.int .u8 a_0, .string a_1]] w R :=
  X.calls_of { isLoc := [1], sym := [], loops := [], joins := [] } Try.func85 (by kernel_rfl) h
abbrev fn_rRightRes : Nat := 50
theorem x_rRightRes (a_0 : Int) (a_1 : ByteArray) (w : World) (R : Ending → World → Prop) (h :
  ∀ w1 : World, (X.Hid [] w w1) →
  R (.returned (.bool (decide (a_0 ≤ 5) && decide ((((a_1.size) : Nat) : Int) ≤ 1000)))) w1) :
    Calls Try.prog 50 #[.agg #[.int .u8 a_0, .string a_1]] w R :=
  X.calls_of { isLoc := [1], sym := [], loops := [], joins := [] } Try.func50 (by kernel_rfl) h
abbrev fn_ProcRight : Nat := 52
theorem x_ProcRight (a_0 a_1 : Int) (w : World) (R : Ending → World → Prop) (h :
  ∀ w1 : World, (X.Hid [] w w1) →
  R (.returned (.bool (decide (a_0 < 16) && decide (a_1 > 0)))) w1) :
    Calls Try.prog 52 #[.agg #[.int .u8 a_0, .int .u16 a_1]] w R :=
  X.calls_of { isLoc := [1], sym := [], loops := [], joins := [] } Try.func52 (by kernel_rfl) h
abbrev fn_IDRight : Nat := 84
theorem x_IDRight (a_0 a_1 a_2 a_3 a_4 a_5 a_6 a_7 a_8 a_9 : Int) (w : World) (R : Ending → World → Prop) (h :
  ∀ w1 : World, ∀ L2 : List Nat, (X.Hid [] w w1) →
  (X.NewL (w).heap.size [] w w1 L2) →
  X.CallX Try.prog 52 #[(.agg #[(.int .u8 a_0), (.int .u16 a_1)])] w1 fun e3 w4 =>
   ∃ b5 : Bool, (e3 = .returned (.bool b5)) ∧
   (X.Kept L2 w1 w4) ∧
   if ((((!b5) || (a_2 == 0)) || decide (a_2 > 1048576)) || decide (a_3 > 3)) = true then
    R (.returned (.bool false)) w4
   else
    if ((decide ((0 : Int) < (IntKind.wrap .i64 a_3)) && decide (a_4 ≥ 4)) || ((!decide ((0 : Int) < (IntKind.wrap .i64 a_3))) && (!((a_4 == 0) && (a_5 == 0))))) = true then
     ∀ w9 : World, (X.Hid (L2) w4 w9) →
     R (.returned (.bool false)) w9
    else
     if ((decide ((1 : Int) < (IntKind.wrap .i64 a_3)) && decide (a_6 ≥ 4)) || ((!decide ((1 : Int) < (IntKind.wrap .i64 a_3))) && (!((a_6 == 0) && (a_7 == 0))))) = true then
      ∀ w8 : World, (X.Hid (L2) w4 w8) →
      R (.returned (.bool false)) w8
     else
      if ((decide ((2 : Int) < (IntKind.wrap .i64 a_3)) && decide (a_8 ≥ 4)) || ((!decide ((2 : Int) < (IntKind.wrap .i64 a_3))) && (!((a_8 == 0) && (a_9 == 0))))) = true then
       ∀ w7 : World, (X.Hid (L2) w4 w7) →
       R (.returned (.bool false)) w7
      else
       ∀ w6 : World, (X.Hid (L2) w4 w6) →
       R (.returned (.bool true)) w6) :
    Calls Try.prog 84 #[.agg #[.int .u8 a_0, .int .u16 a_1, .int .u32 a_2, .int .u8 a_3, .int .u8 a_4, .int .u8 a_5, .int .u8 a_6, .int .u8 a_7, .int .u8 a_8, .int .u8 a_9]] w R :=
  X.calls_of { isLoc := [1, 4], sym := [], loops := [(4, .unroll 4)], joins := [] } Try.func84 (by kernel_rfl) h
abbrev fn_rRightProc : Nat := 51
theorem x_rRightProc (a_0 a_1 : Int) (w : World) (R : Ending → World → Prop) (h :
  ∀ w1 : World, (X.Hid [] w w1) →
  R (.returned (.bool (decide (a_0 < 16) && decide (a_1 ≥ 1)))) w1) :
    Calls Try.prog 51 #[.agg #[.int .u8 a_0, .int .u16 a_1]] w R :=
  X.calls_of { isLoc := [1], sym := [], loops := [], joins := [] } Try.func51 (by kernel_rfl) h
abbrev fn_r2Right : Nat := 49
theorem x_r2Right (a_0 a_1 a_2 a_3 a_4 a_5 a_6 a_7 a_8 a_9 : Int) (w : World) (R : Ending → World → Prop) (h :
  ∀ w1 : World, ∀ L2 : List Nat, (X.Hid [] w w1) →
  (X.NewL (w).heap.size [] w w1 L2) →
  X.CallX Try.prog 51 #[(.agg #[(.int .u8 a_0), (.int .u16 a_1)])] w1 fun e3 w4 =>
   ∃ b5 : Bool, (e3 = .returned (.bool b5)) ∧
   (X.Kept L2 w1 w4) ∧
   if ((((!b5) || decide (a_2 < 1)) || decide (a_2 > 1048576)) || decide (a_3 > 3)) = true then
    R (.returned (.bool false)) w4
   else
    if ((decide ((0 : Int) < (IntKind.wrap .i64 a_3)) && decide (a_4 ≥ 4)) || (decide ((0 : Int) ≥ (IntKind.wrap .i64 a_3)) && (!((a_4 == 0) && (a_5 == 0))))) = true then
     R (.returned (.bool false)) w4
    else
     if ((decide ((1 : Int) < (IntKind.wrap .i64 a_3)) && decide (a_6 ≥ 4)) || (decide ((1 : Int) ≥ (IntKind.wrap .i64 a_3)) && (!((a_6 == 0) && (a_7 == 0))))) = true then
      R (.returned (.bool false)) w4
     else
      if ((decide ((2 : Int) < (IntKind.wrap .i64 a_3)) && decide (a_8 ≥ 4)) || (decide ((2 : Int) ≥ (IntKind.wrap .i64 a_3)) && (!((a_8 == 0) && (a_9 == 0))))) = true then
       R (.returned (.bool false)) w4
      else
       R (.returned (.bool true)) w4) :
    Calls Try.prog 49 #[.agg #[.int .u8 a_0, .int .u16 a_1, .int .u32 a_2, .int .u8 a_3, .int .u8 a_4, .int .u8 a_5, .int .u8 a_6, .int .u8 a_7, .int .u8 a_8, .int .u8 a_9]] w R :=
  X.calls_of { isLoc := [1], sym := [], loops := [(4, .unroll 4)], joins := [] } Try.func49 (by kernel_rfl) h
abbrev fn_asked : Nat := 131
theorem x_asked (a_0 a_1 a_2 a_3 a_4 a_5 a_6 a_7 a_8 a_9 a_10 a_11 : Int) (a_12 : Option Addr) (a_12l a_12c : Nat) (a_13 : Int) (a_14 : ByteArray) (a_15 : Option Addr) (a_15l a_15c : Nat) (a_16 a_17 b : Int) (w : World) (R : Ending → World → Prop) (h :
  ∀ w1 : World, ∀ L2 : List Nat, (X.Hid [] w w1) →
  (X.NewL (w).heap.size [] w w1 L2) →
  X.CallX Try.prog 84 #[(.agg #[(.int .u8 a_1), (.int .u16 a_2), (.int .u32 a_3), (.int .u8 a_4), (.int .u8 a_5), (.int .u8 a_6), (.int .u8 a_7), (.int .u8 a_8), (.int .u8 a_9), (.int .u8 a_10)])] w1 fun e3 w4 =>
   ∃ b5 : Bool, (e3 = .returned (.bool b5)) ∧
   (X.Kept L2 w1 w4) ∧
   if (b5 == true) = true then
    X.CallX Try.prog 113 #[(.slice (a_12) a_12l a_12c)] w4 fun e6 w7 =>
     ∃ b8 : Bool, (e6 = .returned (.bool b8)) ∧
     (X.Kept L2 w4 w7) ∧
     if ((true && b8) == true) = true then
      ((0 : Int) ≤ 0) ∧
      ((0 : Int) < ((a_12l : Nat) : Int)) ∧
      X.onSome (a_12) fun p9 =>
      ∃ n10 : Int, (World.cell? w7 ((p9.add 0).add 0) = some (.int .u8 n10)) ∧
      (¬ ((((p9.add 0).add 0).block) ∈ L2)) ∧
      R (.returned (.bool ((((true && (n10 == b)) && decide ((IntKind.wrap .i64 ((IntKind.wrap .i64 a_4) + ((a_12l : Nat) : Int))) ≤ 4)) && decide (a_11 < a_3)) && ((a_16 == 0) && (a_17 == 0))))) w7
     else
      R (.returned (.bool (((false && decide ((IntKind.wrap .i64 ((IntKind.wrap .i64 a_4) + ((a_12l : Nat) : Int))) ≤ 4)) && decide (a_11 < a_3)) && ((a_16 == 0) && (a_17 == 0))))) w7
   else
    R (.returned (.bool (((false && decide ((IntKind.wrap .i64 ((IntKind.wrap .i64 a_4) + ((a_12l : Nat) : Int))) ≤ 4)) && decide (a_11 < a_3)) && ((a_16 == 0) && (a_17 == 0))))) w4) :
    Calls Try.prog 131 #[.agg #[.int .u8 a_0, .int .u8 a_1, .int .u16 a_2, .int .u32 a_3, .int .u8 a_4, .int .u8 a_5, .int .u8 a_6, .int .u8 a_7, .int .u8 a_8, .int .u8 a_9, .int .u8 a_10, .int .u32 a_11, .slice a_12 a_12l a_12c, .int .u8 a_13, .string a_14, .slice a_15 a_15l a_15c, .int .u8 a_16, .int .u16 a_17], .int .u8 b] w R :=
  X.calls_of { isLoc := [2], sym := [], loops := [], joins := [] } Try.func131 (by kernel_rfl) h
abbrev fn_wrote : Nat := 132
theorem x_wrote (a_0 a_1 a_2 a_3 a_4 a_5 a_6 a_7 a_8 a_9 a_10 a_11 : Int) (a_12 : Option Addr) (a_12l a_12c : Nat) (a_13 : Int) (a_14 : ByteArray) (a_15 : Option Addr) (a_15l a_15c : Nat) (a_16 a_17 : Int) (w : World) (R : Ending → World → Prop) (h :
  ((0 : Int) ≤ 0) ∧
  ((0 : Int) < ((a_12l : Nat) : Int)) ∧
  X.onSome (a_12) fun p1 =>
  ∃ n2 : Int, ∃ n3 : Int, ∃ s4 : ByteArray, ∃ s5 : ByteArray, ∃ n6 : Int, (X.Cells w (p1.add 0) [(.int .u8 n2), (.int .u8 n3), (.string s4), (.string s5), (.int .i64 n6)]) ∧
  if ((a_13 != 0) || (n3 == 0)) = true then
   ∀ w13 : World, (X.Hid [] w w13) →
   R (.returned (.bool (((a_15l : Nat) : Int) == 0))) w13
  else
   if (((a_15l : Nat) : Int) != 1) = true then
    ∀ w12 : World, (X.Hid [] w w12) →
    R (.returned (.bool false)) w12
   else
    ((0 : Int) ≤ 0) ∧
    ((0 : Int) < ((a_15l : Nat) : Int)) ∧
    X.onSome (a_15) fun p7 =>
    ∃ s8 : ByteArray, ∃ s9 : ByteArray, ∃ b10 : Bool, (X.Cells w (p7.add 0) [(.string s8), (.string s9), (.bool b10)]) ∧
    ∀ w11 : World, (X.Hid [] w w11) →
    R (.returned (.bool ((((s8.toList) == (s4.toList)) && decide ((((s9.size) : Nat) : Int) ≤ 64)) && (b10 || ((s9.toList) == ((ByteArray.mk #[]).toList)))))) w11) :
    Calls Try.prog 132 #[.agg #[.int .u8 a_0, .int .u8 a_1, .int .u16 a_2, .int .u32 a_3, .int .u8 a_4, .int .u8 a_5, .int .u8 a_6, .int .u8 a_7, .int .u8 a_8, .int .u8 a_9, .int .u8 a_10, .int .u32 a_11, .slice a_12 a_12l a_12c, .int .u8 a_13, .string a_14, .slice a_15 a_15l a_15c, .int .u8 a_16, .int .u16 a_17]] w R :=
  X.calls_of { isLoc := [1, 3, 4], sym := [], loops := [], joins := [] } Try.func132 (by kernel_rfl) h
abbrev fn_bare : Nat := 133
theorem x_bare (a_0 a_1 a_2 a_3 a_4 a_5 a_6 a_7 a_8 a_9 a_10 a_11 : Int) (a_12 : Option Addr) (a_12l a_12c : Nat) (a_13 : Int) (a_14 : ByteArray) (a_15 : Option Addr) (a_15l a_15c : Nat) (a_16 a_17 : Int) (w : World) (R : Ending → World → Prop) (h :
  ∀ w1 : World, (X.Hid [] w w1) →
  R (.returned (.bool (((a_11 == 0) && (((a_12l : Nat) : Int) == 0)) && (((a_15l : Nat) : Int) == 0)))) w1) :
    Calls Try.prog 133 #[.agg #[.int .u8 a_0, .int .u8 a_1, .int .u16 a_2, .int .u32 a_3, .int .u8 a_4, .int .u8 a_5, .int .u8 a_6, .int .u8 a_7, .int .u8 a_8, .int .u8 a_9, .int .u8 a_10, .int .u32 a_11, .slice a_12 a_12l a_12c, .int .u8 a_13, .string a_14, .slice a_15 a_15l a_15c, .int .u8 a_16, .int .u16 a_17]] w R :=
  X.calls_of { isLoc := [1], sym := [], loops := [], joins := [] } Try.func133 (by kernel_rfl) h
abbrev fn_eRight : Nat := 116
theorem x_eRight (a_0 a_1 a_2 a_3 a_4 a_5 a_6 a_7 a_8 a_9 a_10 a_11 : Int) (a_12 : Option Addr) (a_12l a_12c : Nat) (a_13 : Int) (a_14 : ByteArray) (a_15 : Option Addr) (a_15l a_15c : Nat) (a_16 a_17 b : Int) (w : World) (R : Ending → World → Prop) (h :
  if (a_0 == 0) = true then
   ∀ w44 : World, ∀ L45 : List Nat, (X.Hid [] w w44) →
   (X.NewL (w).heap.size [] w w44 L45) →
   X.CallX Try.prog 131 #[(.agg #[(.int .u8 a_0), (.int .u8 a_1), (.int .u16 a_2), (.int .u32 a_3), (.int .u8 a_4), (.int .u8 a_5), (.int .u8 a_6), (.int .u8 a_7), (.int .u8 a_8), (.int .u8 a_9), (.int .u8 a_10), (.int .u32 a_11), (.slice (a_12) a_12l a_12c), (.int .u8 a_13), (.string a_14), (.slice (a_15) a_15l a_15c), (.int .u8 a_16), (.int .u16 a_17)]), (.int .u8 b)] w44 fun e46 w47 =>
    ∃ b48 : Bool, (e46 = .returned (.bool b48)) ∧
    (X.Kept L45 w44 w47) ∧
    R (.returned (.bool ((b48 && ((a_13 == 0) && (a_14 == (ByteArray.mk #[])))) && (((a_15l : Nat) : Int) == 0)))) w47
  else
   if (a_0 == 3) = true then
    ∀ w33 : World, ∀ L34 : List Nat, (X.Hid [] w w33) →
    (X.NewL (w).heap.size [] w w33 L34) →
    X.CallX Try.prog 131 #[(.agg #[(.int .u8 a_0), (.int .u8 a_1), (.int .u16 a_2), (.int .u32 a_3), (.int .u8 a_4), (.int .u8 a_5), (.int .u8 a_6), (.int .u8 a_7), (.int .u8 a_8), (.int .u8 a_9), (.int .u8 a_10), (.int .u32 a_11), (.slice (a_12) a_12l a_12c), (.int .u8 a_13), (.string a_14), (.slice (a_15) a_15l a_15c), (.int .u8 a_16), (.int .u16 a_17)]), (.int .u8 b)] w33 fun e35 w36 =>
     ∃ b37 : Bool, (e35 = .returned (.bool b37)) ∧
     (X.Kept L34 w33 w36) ∧
     if (b37 == true) = true then
      X.CallX Try.prog 85 #[(.agg #[(.int .u8 a_13), (.string a_14)])] w36 fun e38 w39 =>
       ∃ b40 : Bool, (e38 = .returned (.bool b40)) ∧
       (X.Kept L34 w36 w39) ∧
       if ((((true && b40) && (a_13 != 4)) && (a_13 != 3)) == true) = true then
        X.CallX Try.prog 132 #[(.agg #[(.int .u8 a_0), (.int .u8 a_1), (.int .u16 a_2), (.int .u32 a_3), (.int .u8 a_4), (.int .u8 a_5), (.int .u8 a_6), (.int .u8 a_7), (.int .u8 a_8), (.int .u8 a_9), (.int .u8 a_10), (.int .u32 a_11), (.slice (a_12) a_12l a_12c), (.int .u8 a_13), (.string a_14), (.slice (a_15) a_15l a_15c), (.int .u8 a_16), (.int .u16 a_17)])] w39 fun e41 w42 =>
         ∃ b43 : Bool, (e41 = .returned (.bool b43)) ∧
         (X.Kept L34 w39 w42) ∧
         R (.returned (.bool (true && b43))) w42
       else
        R (.returned (.bool false)) w39
     else
      R (.returned (.bool false)) w36
   else
    if (a_0 == 1) = true then
     ∀ w10 : World, ∀ L11 : List Nat, (X.Hid [] w w10) →
     (X.NewL (w).heap.size [] w w10 L11) →
     X.CallX Try.prog 84 #[(.agg #[(.int .u8 a_1), (.int .u16 a_2), (.int .u32 a_3), (.int .u8 a_4), (.int .u8 a_5), (.int .u8 a_6), (.int .u8 a_7), (.int .u8 a_8), (.int .u8 a_9), (.int .u8 a_10)])] w10 fun e12 w13 =>
      ∃ b14 : Bool, (e12 = .returned (.bool b14)) ∧
      (X.Kept L11 w10 w13) ∧
      if ((b14 && decide (a_4 > 0)) == true) = true then
       ((0 : Int) ≤ (IntKind.wrap .u8 (a_4 - 1))) ∧
       ((IntKind.wrap .u8 (a_4 - 1)) < 3) ∧
       ((((IntKind.wrap .u8 (a_4 - 1)) = 0) →
         if ((true && (a_5 == b)) == true) = true then
          X.CallX Try.prog 85 #[(.agg #[(.int .u8 a_13), (.string a_14)])] w13 fun e15 w16 =>
           ∃ b17 : Bool, (e15 = .returned (.bool b17)) ∧
           (X.Kept L11 w13 w16) ∧
           if ((true && b17) == true) = true then
            X.CallX Try.prog 133 #[(.agg #[(.int .u8 a_0), (.int .u8 a_1), (.int .u16 a_2), (.int .u32 a_3), (.int .u8 a_4), (.int .u8 a_5), (.int .u8 a_6), (.int .u8 a_7), (.int .u8 a_8), (.int .u8 a_9), (.int .u8 a_10), (.int .u32 a_11), (.slice (a_12) a_12l a_12c), (.int .u8 a_13), (.string a_14), (.slice (a_15) a_15l a_15c), (.int .u8 a_16), (.int .u16 a_17)])] w16 fun e18 w19 =>
             ∃ b20 : Bool, (e18 = .returned (.bool b20)) ∧
             (X.Kept L11 w16 w19) ∧
             R (.returned (.bool ((true && b20) && ((a_16 == 0) && (a_17 == 0))))) w19
           else
            R (.returned (.bool (false && ((a_16 == 0) && (a_17 == 0))))) w16
         else
          R (.returned (.bool (false && ((a_16 == 0) && (a_17 == 0))))) w13) ∧
        (((IntKind.wrap .u8 (a_4 - 1)) = 1) →
        if ((true && (a_7 == b)) == true) = true then
         X.CallX Try.prog 85 #[(.agg #[(.int .u8 a_13), (.string a_14)])] w13 fun e21 w22 =>
          ∃ b23 : Bool, (e21 = .returned (.bool b23)) ∧
          (X.Kept L11 w13 w22) ∧
          if ((true && b23) == true) = true then
           X.CallX Try.prog 133 #[(.agg #[(.int .u8 a_0), (.int .u8 a_1), (.int .u16 a_2), (.int .u32 a_3), (.int .u8 a_4), (.int .u8 a_5), (.int .u8 a_6), (.int .u8 a_7), (.int .u8 a_8), (.int .u8 a_9), (.int .u8 a_10), (.int .u32 a_11), (.slice (a_12) a_12l a_12c), (.int .u8 a_13), (.string a_14), (.slice (a_15) a_15l a_15c), (.int .u8 a_16), (.int .u16 a_17)])] w22 fun e24 w25 =>
            ∃ b26 : Bool, (e24 = .returned (.bool b26)) ∧
            (X.Kept L11 w22 w25) ∧
            R (.returned (.bool ((true && b26) && ((a_16 == 0) && (a_17 == 0))))) w25
          else
           R (.returned (.bool (false && ((a_16 == 0) && (a_17 == 0))))) w22
        else
         R (.returned (.bool (false && ((a_16 == 0) && (a_17 == 0))))) w13)) ∧
       (((IntKind.wrap .u8 (a_4 - 1)) = 2) →
       if ((true && (a_9 == b)) == true) = true then
        X.CallX Try.prog 85 #[(.agg #[(.int .u8 a_13), (.string a_14)])] w13 fun e27 w28 =>
         ∃ b29 : Bool, (e27 = .returned (.bool b29)) ∧
         (X.Kept L11 w13 w28) ∧
         if ((true && b29) == true) = true then
          X.CallX Try.prog 133 #[(.agg #[(.int .u8 a_0), (.int .u8 a_1), (.int .u16 a_2), (.int .u32 a_3), (.int .u8 a_4), (.int .u8 a_5), (.int .u8 a_6), (.int .u8 a_7), (.int .u8 a_8), (.int .u8 a_9), (.int .u8 a_10), (.int .u32 a_11), (.slice (a_12) a_12l a_12c), (.int .u8 a_13), (.string a_14), (.slice (a_15) a_15l a_15c), (.int .u8 a_16), (.int .u16 a_17)])] w28 fun e30 w31 =>
           ∃ b32 : Bool, (e30 = .returned (.bool b32)) ∧
           (X.Kept L11 w28 w31) ∧
           R (.returned (.bool ((true && b32) && ((a_16 == 0) && (a_17 == 0))))) w31
         else
          R (.returned (.bool (false && ((a_16 == 0) && (a_17 == 0))))) w28
       else
        R (.returned (.bool (false && ((a_16 == 0) && (a_17 == 0))))) w13)
      else
       R (.returned (.bool (false && ((a_16 == 0) && (a_17 == 0))))) w13
    else
     if (a_0 == 2) = true then
      ∀ w2 : World, ∀ L3 : List Nat, (X.Hid [] w w2) →
      (X.NewL (w).heap.size [] w w2 L3) →
      X.CallX Try.prog 52 #[(.agg #[(.int .u8 a_16), (.int .u16 a_17)])] w2 fun e4 w5 =>
       ∃ b6 : Bool, (e4 = .returned (.bool b6)) ∧
       (X.Kept L3 w2 w5) ∧
       if (((b6 && ((a_13 == 0) && (a_14 == (ByteArray.mk #[])))) && (((a_1 == 0) && (a_2 == 0)) && ((a_3 == 0) && ((a_4 == 0) && (((a_5 == 0) && (a_6 == 0)) && (((a_7 == 0) && (a_8 == 0)) && ((a_9 == 0) && (a_10 == 0)))))))) == true) = true then
        X.CallX Try.prog 133 #[(.agg #[(.int .u8 a_0), (.int .u8 a_1), (.int .u16 a_2), (.int .u32 a_3), (.int .u8 a_4), (.int .u8 a_5), (.int .u8 a_6), (.int .u8 a_7), (.int .u8 a_8), (.int .u8 a_9), (.int .u8 a_10), (.int .u32 a_11), (.slice (a_12) a_12l a_12c), (.int .u8 a_13), (.string a_14), (.slice (a_15) a_15l a_15c), (.int .u8 a_16), (.int .u16 a_17)])] w5 fun e7 w8 =>
         ∃ b9 : Bool, (e7 = .returned (.bool b9)) ∧
         (X.Kept L3 w5 w8) ∧
         R (.returned (.bool (true && b9))) w8
       else
        R (.returned (.bool false)) w5
     else
      ∀ w1 : World, (X.Hid [] w w1) →
      R (.returned (.bool false)) w1) :
    Calls Try.prog 116 #[.agg #[.int .u8 a_0, .int .u8 a_1, .int .u16 a_2, .int .u32 a_3, .int .u8 a_4, .int .u8 a_5, .int .u8 a_6, .int .u8 a_7, .int .u8 a_8, .int .u8 a_9, .int .u8 a_10, .int .u32 a_11, .slice a_12 a_12l a_12c, .int .u8 a_13, .string a_14, .slice a_15 a_15l a_15c, .int .u8 a_16, .int .u16 a_17], .int .u8 b] w R :=
  X.calls_of { isLoc := [2, 5, 6], sym := [69], loops := [], joins := [] } Try.func116 (by kernel_rfl) h
abbrev fn_rcall : Nat := 47
theorem x_rcall (a_0 a_1 a_2 a_3 a_4 a_5 a_6 a_7 a_8 a_9 a_10 a_11 : Int) (a_12 : Option Addr) (a_12l a_12c : Nat) (a_13 : Int) (a_14 : ByteArray) (a_15 : Option Addr) (a_15l a_15c : Nat) (a_16 a_17 b : Int) (w : World) (R : Ending → World → Prop) (h :
  ∀ w1 : World, ∀ L2 : List Nat, (X.Hid [] w w1) →
  (X.NewL (w).heap.size [] w w1 L2) →
  X.CallX Try.prog 49 #[(.agg #[(.int .u8 a_1), (.int .u16 a_2), (.int .u32 a_3), (.int .u8 a_4), (.int .u8 a_5), (.int .u8 a_6), (.int .u8 a_7), (.int .u8 a_8), (.int .u8 a_9), (.int .u8 a_10)])] w1 fun e3 w4 =>
   ∃ b5 : Bool, (e3 = .returned (.bool b5)) ∧
   (X.Kept L2 w1 w4) ∧
   if (b5 == true) = true then
    X.CallX Try.prog 90 #[(.slice (a_12) a_12l a_12c)] w4 fun e6 w7 =>
     ∃ b8 : Bool, (e6 = .returned (.bool b8)) ∧
     (X.Kept L2 w4 w7) ∧
     if ((true && b8) == true) = true then
      ((0 : Int) ≤ 0) ∧
      ((0 : Int) < ((a_12l : Nat) : Int)) ∧
      X.onSome (a_12) fun p9 =>
      ∃ n10 : Int, (World.cell? w7 ((p9.add 0).add 0) = some (.int .u8 n10)) ∧
      (¬ ((((p9.add 0).add 0).block) ∈ L2)) ∧
      R (.returned (.bool ((((true && (n10 == b)) && decide ((IntKind.wrap .i64 ((IntKind.wrap .i64 a_4) + ((a_12l : Nat) : Int))) ≤ 4)) && decide (a_11 < a_3)) && ((a_16 == 0) && (a_17 == 0))))) w7
     else
      R (.returned (.bool (((false && decide ((IntKind.wrap .i64 ((IntKind.wrap .i64 a_4) + ((a_12l : Nat) : Int))) ≤ 4)) && decide (a_11 < a_3)) && ((a_16 == 0) && (a_17 == 0))))) w7
   else
    R (.returned (.bool (((false && decide ((IntKind.wrap .i64 ((IntKind.wrap .i64 a_4) + ((a_12l : Nat) : Int))) ≤ 4)) && decide (a_11 < a_3)) && ((a_16 == 0) && (a_17 == 0))))) w4) :
    Calls Try.prog 47 #[.agg #[.int .u8 a_0, .int .u8 a_1, .int .u16 a_2, .int .u32 a_3, .int .u8 a_4, .int .u8 a_5, .int .u8 a_6, .int .u8 a_7, .int .u8 a_8, .int .u8 a_9, .int .u8 a_10, .int .u32 a_11, .slice a_12 a_12l a_12c, .int .u8 a_13, .string a_14, .slice a_15 a_15l a_15c, .int .u8 a_16, .int .u16 a_17], .int .u8 b] w R :=
  X.calls_of { isLoc := [2], sym := [], loops := [], joins := [] } Try.func47 (by kernel_rfl) h
abbrev fn_rcheck : Nat := 48
theorem x_rcheck (a_0 a_1 a_2 a_3 a_4 a_5 a_6 a_7 a_8 a_9 a_10 a_11 : Int) (a_12 : Option Addr) (a_12l a_12c : Nat) (a_13 : Int) (a_14 : ByteArray) (a_15 : Option Addr) (a_15l a_15c : Nat) (a_16 a_17 : Int) (w : World) (R : Ending → World → Prop) (h :
  ((0 : Int) ≤ 0) ∧
  ((0 : Int) < ((a_12l : Nat) : Int)) ∧
  X.onSome (a_12) fun p1 =>
  ∃ n2 : Int, ∃ n3 : Int, ∃ s4 : ByteArray, ∃ s5 : ByteArray, ∃ n6 : Int, (X.Cells w (p1.add 0) [(.int .u8 n2), (.int .u8 n3), (.string s4), (.string s5), (.int .i64 n6)]) ∧
  ∀ w7 : World, ∀ L8 : List Nat, (X.Hid [] w w7) →
  (X.NewL (w).heap.size [] w w7 L8) →
  X.CallX Try.prog 50 #[(.agg #[(.int .u8 a_13), (.string a_14)])] w7 fun e9 w10 =>
   ∃ b11 : Bool, (e9 = .returned (.bool b11)) ∧
   (X.Kept L8 w7 w10) ∧
   if (((((!b11) || (a_13 == 4)) || (a_13 == 3)) || decide (((a_15l : Nat) : Int) > 1)) || (!((((a_15l : Nat) : Int) == 1) == ((a_13 == 0) && (n3 != 0))))) = true then
    R (.returned (.bool false)) w10
   else
    ∃ x12 : Int → World → List Nat → Prop, ∃ x13 : Int → World → Nat, (x12 0 w10 (L8)) ∧
    ∀ n14 : Int, ∀ w15 : World, ∀ L16 : List Nat, (X.LF (w).heap.size w15 L16) →
    (x12 n14 w15 L16) →
    if (decide (n14 < ((a_15l : Nat) : Int))) = true then
     ((0 : Int) ≤ n14) ∧
     (n14 < ((a_15l : Nat) : Int)) ∧
     X.onSome (a_15) fun p17 =>
     ∃ s18 : ByteArray, ∃ s19 : ByteArray, ∃ b20 : Bool, (X.Cells w15 (p17.add ((n14).toNat * 3)) [(.string s18), (.string s19), (.bool b20)]) ∧
     (¬ (((p17.add (n14.toNat * 3)).block) ∈ L16)) ∧
     if (((!((s18.toList) == (s4.toList))) || decide ((((s19.size) : Nat) : Int) > 64)) || ((!b20) && (!((s19.toList) == ((ByteArray.mk #[]).toList))))) = true then
      ∀ w23 : World, (X.Hid (L16) w15 w23) →
      R (.returned (.bool false)) w23
     else
      ∀ w21 : World, ∀ L22 : List Nat, (X.Hid (L16) w15 w21) →
      (X.NewL (w).heap.size (L16) w15 w21 L22) →
      (([(.int .u8 a_0), (.int .u8 a_1), (.int .u16 a_2), (.int .u32 a_3), (.int .u8 a_4), (.int .u8 a_5), (.int .u8 a_6), (.int .u8 a_7), (.int .u8 a_8), (.int .u8 a_9), (.int .u8 a_10), (.int .u32 a_11), (.slice (a_12) a_12l a_12c), (.int .u8 a_13), (.string a_14), (.slice (a_15) a_15l a_15c), (.int .u8 a_16), (.int .u16 a_17)] : List Value) = [(.int .u8 a_0), (.int .u8 a_1), (.int .u16 a_2), (.int .u32 a_3), (.int .u8 a_4), (.int .u8 a_5), (.int .u8 a_6), (.int .u8 a_7), (.int .u8 a_8), (.int .u8 a_9), (.int .u8 a_10), (.int .u32 a_11), (.slice (a_12) a_12l a_12c), (.int .u8 a_13), (.string a_14), (.slice (a_15) a_15l a_15c), (.int .u8 a_16), (.int .u16 a_17)]) ∧
      (([(.int .u8 n2), (.int .u8 n3), (.string s4), (.string s5), (.int .i64 n6)] : List Value) = [(.int .u8 n2), (.int .u8 n3), (.string s4), (.string s5), (.int .i64 n6)]) ∧
      (x12 (IntKind.wrap .i64 (n14 + 1)) w21 (L22)) ∧
      Nat.le ((x13 (IntKind.wrap .i64 (n14 + 1)) w21) + 1) (x13 n14 w15)
    else
     R (.returned (.bool true)) w15) :
    Calls Try.prog 48 #[.agg #[.int .u8 a_0, .int .u8 a_1, .int .u16 a_2, .int .u32 a_3, .int .u8 a_4, .int .u8 a_5, .int .u8 a_6, .int .u8 a_7, .int .u8 a_8, .int .u8 a_9, .int .u8 a_10, .int .u32 a_11, .slice a_12 a_12l a_12c, .int .u8 a_13, .string a_14, .slice a_15 a_15l a_15c, .int .u8 a_16, .int .u16 a_17]] w R :=
  X.calls_of { isLoc := [1, 3, 6], sym := [], loops := [(6, .inv [(5, .int .i64)] [] true)], joins := [] } Try.func48 (by kernel_rfl) h
abbrev fn_r5Right : Nat := 17
theorem x_r5Right (a_0 a_1 a_2 a_3 a_4 a_5 a_6 a_7 a_8 a_9 a_10 a_11 : Int) (a_12 : Option Addr) (a_12l a_12c : Nat) (a_13 : Int) (a_14 : ByteArray) (a_15 : Option Addr) (a_15l a_15c : Nat) (a_16 a_17 b : Int) (w : World) (R : Ending → World → Prop) (h :
  if (a_0 == 0) = true then
   ∀ w29 : World, ∀ L30 : List Nat, (X.Hid [] w w29) →
   (X.NewL (w).heap.size [] w w29 L30) →
   X.CallX Try.prog 47 #[(.agg #[(.int .u8 a_0), (.int .u8 a_1), (.int .u16 a_2), (.int .u32 a_3), (.int .u8 a_4), (.int .u8 a_5), (.int .u8 a_6), (.int .u8 a_7), (.int .u8 a_8), (.int .u8 a_9), (.int .u8 a_10), (.int .u32 a_11), (.slice (a_12) a_12l a_12c), (.int .u8 a_13), (.string a_14), (.slice (a_15) a_15l a_15c), (.int .u8 a_16), (.int .u16 a_17)]), (.int .u8 b)] w29 fun e31 w32 =>
    ∃ b33 : Bool, (e31 = .returned (.bool b33)) ∧
    (X.Kept L30 w29 w32) ∧
    R (.returned (.bool ((b33 && ((a_13 == 0) && (a_14 == (ByteArray.mk #[])))) && (((a_15l : Nat) : Int) == 0)))) w32
  else
   if (a_0 == 3) = true then
    ∀ w21 : World, ∀ L22 : List Nat, (X.Hid [] w w21) →
    (X.NewL (w).heap.size [] w w21 L22) →
    X.CallX Try.prog 47 #[(.agg #[(.int .u8 a_0), (.int .u8 a_1), (.int .u16 a_2), (.int .u32 a_3), (.int .u8 a_4), (.int .u8 a_5), (.int .u8 a_6), (.int .u8 a_7), (.int .u8 a_8), (.int .u8 a_9), (.int .u8 a_10), (.int .u32 a_11), (.slice (a_12) a_12l a_12c), (.int .u8 a_13), (.string a_14), (.slice (a_15) a_15l a_15c), (.int .u8 a_16), (.int .u16 a_17)]), (.int .u8 b)] w21 fun e23 w24 =>
     ∃ b25 : Bool, (e23 = .returned (.bool b25)) ∧
     (X.Kept L22 w21 w24) ∧
     if (b25 == true) = true then
      X.CallX Try.prog 48 #[(.agg #[(.int .u8 a_0), (.int .u8 a_1), (.int .u16 a_2), (.int .u32 a_3), (.int .u8 a_4), (.int .u8 a_5), (.int .u8 a_6), (.int .u8 a_7), (.int .u8 a_8), (.int .u8 a_9), (.int .u8 a_10), (.int .u32 a_11), (.slice (a_12) a_12l a_12c), (.int .u8 a_13), (.string a_14), (.slice (a_15) a_15l a_15c), (.int .u8 a_16), (.int .u16 a_17)])] w24 fun e26 w27 =>
       ∃ b28 : Bool, (e26 = .returned (.bool b28)) ∧
       (X.Kept L22 w24 w27) ∧
       R (.returned (.bool (true && b28))) w27
     else
      R (.returned (.bool false)) w24
   else
    if (a_0 == 1) = true then
     ∀ w7 : World, ∀ L8 : List Nat, (X.Hid [] w w7) →
     (X.NewL (w).heap.size [] w w7 L8) →
     X.CallX Try.prog 49 #[(.agg #[(.int .u8 a_1), (.int .u16 a_2), (.int .u32 a_3), (.int .u8 a_4), (.int .u8 a_5), (.int .u8 a_6), (.int .u8 a_7), (.int .u8 a_8), (.int .u8 a_9), (.int .u8 a_10)])] w7 fun e9 w10 =>
      ∃ b11 : Bool, (e9 = .returned (.bool b11)) ∧
      (X.Kept L8 w7 w10) ∧
      if ((b11 && decide (a_4 > 0)) == true) = true then
       ((0 : Int) ≤ (IntKind.wrap .u8 (a_4 - 1))) ∧
       ((IntKind.wrap .u8 (a_4 - 1)) < 3) ∧
       ((((IntKind.wrap .u8 (a_4 - 1)) = 0) →
         if ((true && (a_5 == b)) == true) = true then
          X.CallX Try.prog 50 #[(.agg #[(.int .u8 a_13), (.string a_14)])] w10 fun e12 w13 =>
           ∃ b14 : Bool, (e12 = .returned (.bool b14)) ∧
           (X.Kept L8 w10 w13) ∧
           R (.returned (.bool ((((true && b14) && (a_11 == 0)) && ((IntKind.wrap .i64 (((a_12l : Nat) : Int) + ((a_15l : Nat) : Int))) == 0)) && ((a_16 == 0) && (a_17 == 0))))) w13
         else
          R (.returned (.bool (((false && (a_11 == 0)) && ((IntKind.wrap .i64 (((a_12l : Nat) : Int) + ((a_15l : Nat) : Int))) == 0)) && ((a_16 == 0) && (a_17 == 0))))) w10) ∧
        (((IntKind.wrap .u8 (a_4 - 1)) = 1) →
        if ((true && (a_7 == b)) == true) = true then
         X.CallX Try.prog 50 #[(.agg #[(.int .u8 a_13), (.string a_14)])] w10 fun e15 w16 =>
          ∃ b17 : Bool, (e15 = .returned (.bool b17)) ∧
          (X.Kept L8 w10 w16) ∧
          R (.returned (.bool ((((true && b17) && (a_11 == 0)) && ((IntKind.wrap .i64 (((a_12l : Nat) : Int) + ((a_15l : Nat) : Int))) == 0)) && ((a_16 == 0) && (a_17 == 0))))) w16
        else
         R (.returned (.bool (((false && (a_11 == 0)) && ((IntKind.wrap .i64 (((a_12l : Nat) : Int) + ((a_15l : Nat) : Int))) == 0)) && ((a_16 == 0) && (a_17 == 0))))) w10)) ∧
       (((IntKind.wrap .u8 (a_4 - 1)) = 2) →
       if ((true && (a_9 == b)) == true) = true then
        X.CallX Try.prog 50 #[(.agg #[(.int .u8 a_13), (.string a_14)])] w10 fun e18 w19 =>
         ∃ b20 : Bool, (e18 = .returned (.bool b20)) ∧
         (X.Kept L8 w10 w19) ∧
         R (.returned (.bool ((((true && b20) && (a_11 == 0)) && ((IntKind.wrap .i64 (((a_12l : Nat) : Int) + ((a_15l : Nat) : Int))) == 0)) && ((a_16 == 0) && (a_17 == 0))))) w19
       else
        R (.returned (.bool (((false && (a_11 == 0)) && ((IntKind.wrap .i64 (((a_12l : Nat) : Int) + ((a_15l : Nat) : Int))) == 0)) && ((a_16 == 0) && (a_17 == 0))))) w10)
      else
       R (.returned (.bool (((false && (a_11 == 0)) && ((IntKind.wrap .i64 (((a_12l : Nat) : Int) + ((a_15l : Nat) : Int))) == 0)) && ((a_16 == 0) && (a_17 == 0))))) w10
    else
     if (a_0 == 2) = true then
      ∀ w2 : World, ∀ L3 : List Nat, (X.Hid [] w w2) →
      (X.NewL (w).heap.size [] w w2 L3) →
      X.CallX Try.prog 51 #[(.agg #[(.int .u8 a_16), (.int .u16 a_17)])] w2 fun e4 w5 =>
       ∃ b6 : Bool, (e4 = .returned (.bool b6)) ∧
       (X.Kept L3 w2 w5) ∧
       R (.returned (.bool ((((b6 && ((a_13 == 0) && (a_14 == (ByteArray.mk #[])))) && (((a_1 == 0) && (a_2 == 0)) && ((a_3 == 0) && ((a_4 == 0) && (((a_5 == 0) && (a_6 == 0)) && (((a_7 == 0) && (a_8 == 0)) && ((a_9 == 0) && (a_10 == 0)))))))) && (a_11 == 0)) && ((IntKind.wrap .i64 (((a_12l : Nat) : Int) + ((a_15l : Nat) : Int))) == 0)))) w5
     else
      ∀ w1 : World, (X.Hid [] w w1) →
      R (.returned (.bool false)) w1) :
    Calls Try.prog 17 #[.agg #[.int .u8 a_0, .int .u8 a_1, .int .u16 a_2, .int .u32 a_3, .int .u8 a_4, .int .u8 a_5, .int .u8 a_6, .int .u8 a_7, .int .u8 a_8, .int .u8 a_9, .int .u8 a_10, .int .u32 a_11, .slice a_12 a_12l a_12c, .int .u8 a_13, .string a_14, .slice a_15 a_15l a_15c, .int .u8 a_16, .int .u16 a_17], .int .u8 b] w R :=
  X.calls_of { isLoc := [2, 6], sym := [52], loops := [], joins := [] } Try.func17 (by kernel_rfl) h
end Go.Proofs
/- The verification conditions of this seat's functions, as the engine has them: printed by a program of the bench; checked by the kernel. -/
namespace Go.Proofs
open Go
abbrev fn_Procs : Nat := 32
theorem x_Procs (a : Option Addr) (al ac : Nat) (w : World) (R : Ending → World → Prop) (h :
  ∃ x1 : Option Addr → Nat → Nat → Int → World → List Nat → Prop, ∃ x2 : Option Addr → Nat → Nat → Int → World → Nat, (x1 (none) 0 0 0 w []) ∧
  ∀ q3 : Option Addr, ∀ k4 : Nat, ∀ k5 : Nat, ∀ n6 : Int, ∀ w7 : World, ∀ L8 : List Nat, (X.LF (w).heap.size w7 L8) →
  (x1 q3 k4 k5 n6 w7 L8) →
  if (decide (n6 < ((al : Nat) : Int))) = true then
   ((0 : Int) ≤ n6) ∧
   (n6 < ((al : Nat) : Int)) ∧
   X.onSome (a) fun p9 =>
   ∃ n10 : Int, ∃ n11 : Int, (X.Cells w7 (p9.add ((n6).toNat * 2)) [(.int .u8 n10), (.int .u16 n11)]) ∧
   X.CallX Try.prog 31 #[(.agg #[(.int .u8 n10), (.int .u16 n11)])] w7 fun e12 w13 =>
    ∃ n14 : Int, ∃ n15 : Int, (e12 = .returned (.agg #[(.int .u8 n14), (.int .u16 n15)])) ∧
    ((w7).heap.size ≤ (w13).heap.size) ∧
    ∃ q16 : Option Addr, ∃ k17 : Nat, ∃ k18 : Nat, ∃ w19 : World, (Sem.run Try.prog (Go.Builtin.append_ #[50, 50] 50 #[(.slice (q3) k4 k5), (.slice (some ⟨(w13).heap.size, 0, none⟩) 1 1)]) (w13.alloc (.cells #[(.int .u8 n14), (.int .u16 n15)] 43)) = .ok (.slice (q16) k17 k18) w19) ∧
    (((w13.alloc (.cells #[(.int .u8 n14), (.int .u16 n15)] 43))).heap.size ≤ (w19).heap.size) ∧
    (x1 q16 k17 k18 (IntKind.wrap .i64 (n6 + 1)) w19 []) ∧
    Nat.le ((x2 q16 k17 k18 (IntKind.wrap .i64 (n6 + 1)) w19) + 1) (x2 q3 k4 k5 n6 w7)
  else
   R (.returned (.slice (q3) k4 k5)) w7) :
    Calls Try.prog 32 #[.slice a al ac] w R :=
  X.calls_of { isLoc := [], sym := [], loops := [(3, .inv [(3, .slice), (4, .int .i64)] [] true)], joins := [] } Try.func32 (by kernel_rfl) h
abbrev fn_EqualPr : Nat := 41
theorem x_EqualPr (a : Option Addr) (al ac : Nat) (b : Option Addr) (bl bc : Nat) (w : World) (R : Ending → World → Prop) (h :
  if (((al : Nat) : Int) != ((bl : Nat) : Int)) = true then
   R (.returned (.bool false)) w
  else
   ∃ x1 : Int → World → List Nat → Prop, ∃ x2 : Int → World → Nat, (x1 0 w []) ∧
   ∀ n3 : Int, ∀ w4 : World, ∀ L5 : List Nat, (X.LF (w).heap.size w4 L5) →
   (x1 n3 w4 L5) →
   if (decide (n3 < ((al : Nat) : Int))) = true then
    ((0 : Int) ≤ n3) ∧
    (n3 < ((al : Nat) : Int)) ∧
    X.onSome (a) fun p6 =>
    ∃ n7 : Int, ∃ n8 : Int, (X.Cells w4 (p6.add ((n3).toNat * 2)) [(.int .u8 n7), (.int .u16 n8)]) ∧
    ((0 : Int) ≤ n3) ∧
    (n3 < ((bl : Nat) : Int)) ∧
    X.onSome (b) fun p9 =>
    ∃ n10 : Int, ∃ n11 : Int, (X.Cells w4 (p9.add ((n3).toNat * 2)) [(.int .u8 n10), (.int .u16 n11)]) ∧
    if (!((n7 == n10) && (n8 == n11))) = true then
     ∀ w13 : World, (X.Hid [] w4 w13) →
     R (.returned (.bool false)) w13
    else
     ∀ w12 : World, (X.Hid [] w4 w12) →
     (x1 (IntKind.wrap .i64 (n3 + 1)) w12 []) ∧
     Nat.le ((x2 (IntKind.wrap .i64 (n3 + 1)) w12) + 1) (x2 n3 w4)
   else
    R (.returned (.bool true)) w4) :
    Calls Try.prog 41 #[.slice a al ac, .slice b bl bc] w R :=
  X.calls_of { isLoc := [], sym := [], loops := [(4, .inv [(13, .int .i64)] [] true)], joins := [] } Try.func41 (by kernel_rfl) h
abbrev fn_SameProcs : Nat := 45
theorem x_SameProcs (a : Option Addr) (al ac : Nat) (b : Option Addr) (bl bc : Nat) (w : World) (R : Ending → World → Prop) (h :
  if (((al : Nat) : Int) != ((bl : Nat) : Int)) = true then
   R (.returned (.bool false)) w
  else
   ∃ x1 : Int → World → List Nat → Prop, ∃ x2 : Int → World → Nat, (x1 0 w []) ∧
   ∀ n3 : Int, ∀ w4 : World, ∀ L5 : List Nat, (X.LF (w).heap.size w4 L5) →
   (x1 n3 w4 L5) →
   if (decide (n3 < ((al : Nat) : Int))) = true then
    ((0 : Int) ≤ n3) ∧
    (n3 < ((al : Nat) : Int)) ∧
    X.onSome (a) fun p6 =>
    ∃ n7 : Int, ∃ n8 : Int, (X.Cells w4 (p6.add ((n3).toNat * 2)) [(.int .u8 n7), (.int .u16 n8)]) ∧
    ((0 : Int) ≤ n3) ∧
    (n3 < ((bl : Nat) : Int)) ∧
    X.onSome (b) fun p9 =>
    ∃ n10 : Int, ∃ n11 : Int, (X.Cells w4 (p9.add ((n3).toNat * 2)) [(.int .u8 n10), (.int .u16 n11)]) ∧
    if (!((n7 == n10) && (n8 == n11))) = true then
     ∀ w13 : World, (X.Hid [] w4 w13) →
     R (.returned (.bool false)) w13
    else
     ∀ w12 : World, (X.Hid [] w4 w12) →
     (x1 (IntKind.wrap .i64 (n3 + 1)) w12 []) ∧
     Nat.le ((x2 (IntKind.wrap .i64 (n3 + 1)) w12) + 1) (x2 n3 w4)
   else
    R (.returned (.bool true)) w4) :
    Calls Try.prog 45 #[.slice a al ac, .slice b bl bc] w R :=
  X.calls_of { isLoc := [], sym := [], loops := [(4, .inv [(5, .int .i64)] [] true)], joins := [] } Try.func45 (by kernel_rfl) h
abbrev fn_rSameAll : Nat := 46
theorem x_rSameAll (a : Option Addr) (al ac : Nat) (b : Option Addr) (bl bc : Nat) (w : World) (R : Ending → World → Prop) (h :
  if (((al : Nat) : Int) != ((bl : Nat) : Int)) = true then
   R (.returned (.bool false)) w
  else
   ∃ x1 : Int → World → List Nat → Prop, ∃ x2 : Int → World → Nat, (x1 0 w []) ∧
   ∀ n3 : Int, ∀ w4 : World, ∀ L5 : List Nat, (X.LF (w).heap.size w4 L5) →
   (x1 n3 w4 L5) →
   if (decide (n3 < ((al : Nat) : Int))) = true then
    ∃ x6 : X.Facts, (X.FactsW x6 w4 []) ∧
    ((0 : Int) ≤ n3) ∧
    (n3 < ((al : Nat) : Int)) ∧
    X.onSome (a) fun p7 =>
    ∃ n8 : Int, ∃ n9 : Int, ∃ n10 : Int, ∃ n11 : Int, ∃ n12 : Int, ∃ n13 : Int, ∃ n14 : Int, ∃ n15 : Int, ∃ n16 : Int, ∃ n17 : Int, ∃ n18 : Int, ∃ n19 : Int, ∃ q20 : Option Addr, ∃ k21 : Nat, ∃ k22 : Nat, ∃ n23 : Int, ∃ s24 : ByteArray, ∃ q25 : Option Addr, ∃ k26 : Nat, ∃ k27 : Nat, ∃ n28 : Int, ∃ n29 : Int, (((p7.add ((n3).toNat * 18)), [(.int .u8 n8), (.int .u8 n9), (.int .u16 n10), (.int .u32 n11), (.int .u8 n12), (.int .u8 n13), (.int .u8 n14), (.int .u8 n15), (.int .u8 n16), (.int .u8 n17), (.int .u8 n18), (.int .u32 n19), (.slice (q20) k21 k22), (.int .u8 n23), (.string s24), (.slice (q25) k26 k27), (.int .u8 n28), (.int .u16 n29)]) ∈ x6) ∧
    ((0 : Int) ≤ n3) ∧
    (n3 < ((bl : Nat) : Int)) ∧
    X.onSome (b) fun p30 =>
    ∃ n31 : Int, ∃ n32 : Int, ∃ n33 : Int, ∃ n34 : Int, ∃ n35 : Int, ∃ n36 : Int, ∃ n37 : Int, ∃ n38 : Int, ∃ n39 : Int, ∃ n40 : Int, ∃ n41 : Int, ∃ n42 : Int, ∃ q43 : Option Addr, ∃ k44 : Nat, ∃ k45 : Nat, ∃ n46 : Int, ∃ s47 : ByteArray, ∃ q48 : Option Addr, ∃ k49 : Nat, ∃ k50 : Nat, ∃ n51 : Int, ∃ n52 : Int, (((p30.add ((n3).toNat * 18)), [(.int .u8 n31), (.int .u8 n32), (.int .u16 n33), (.int .u32 n34), (.int .u8 n35), (.int .u8 n36), (.int .u8 n37), (.int .u8 n38), (.int .u8 n39), (.int .u8 n40), (.int .u8 n41), (.int .u32 n42), (.slice (q43) k44 k45), (.int .u8 n46), (.string s47), (.slice (q48) k49 k50), (.int .u8 n51), (.int .u16 n52)]) ∈ x6) ∧
    ∀ w53 : World, (X.Hid [] w4 w53) →
    X.CallX Try.prog 96 #[(.agg #[(.int .u8 n8), (.int .u8 n9), (.int .u16 n10), (.int .u32 n11), (.int .u8 n12), (.int .u8 n13), (.int .u8 n14), (.int .u8 n15), (.int .u8 n16), (.int .u8 n17), (.int .u8 n18), (.int .u32 n19), (.slice (q20) k21 k22), (.int .u8 n23), (.string s24), (.slice (q25) k26 k27), (.int .u8 n28), (.int .u16 n29)]), (.agg #[(.int .u8 n31), (.int .u8 n32), (.int .u16 n33), (.int .u32 n34), (.int .u8 n35), (.int .u8 n36), (.int .u8 n37), (.int .u8 n38), (.int .u8 n39), (.int .u8 n40), (.int .u8 n41), (.int .u32 n42), (.slice (q43) k44 k45), (.int .u8 n46), (.string s47), (.slice (q48) k49 k50), (.int .u8 n51), (.int .u16 n52)])] w53 fun e54 w55 =>
     ∃ b56 : Bool, (e54 = .returned (.bool b56)) ∧
     ((w53).heap.size ≤ (w55).heap.size) ∧
     if (!b56) = true then
      R (.returned (.bool false)) w55
     else
      (x1 (IntKind.wrap .i64 (n3 + 1)) w55 []) ∧
      Nat.le ((x2 (IntKind.wrap .i64 (n3 + 1)) w55) + 1) (x2 n3 w4)
   else
    R (.returned (.bool true)) w4) :
    Calls Try.prog 46 #[.slice a al ac, .slice b bl bc] w R :=
  X.calls_of { isLoc := [], sym := [], loops := [(4, .inv [(5, .int .i64)] [] true)], joins := [] } Try.func46 (by kernel_rfl) h
abbrev fn_Owns : Nat := 33
theorem x_Owns (a : Option Addr) (al ac : Nat) (w : World) (R : Ending → World → Prop) (h :
  ∃ x1 : Option Addr → Nat → Nat → Int → World → List Nat → Prop, ∃ x2 : Option Addr → Nat → Nat → Int → World → Nat, (x1 (none) 0 0 0 w []) ∧
  ∀ q3 : Option Addr, ∀ k4 : Nat, ∀ k5 : Nat, ∀ n6 : Int, ∀ w7 : World, ∀ L8 : List Nat, (X.LF (w).heap.size w7 L8) →
  (x1 q3 k4 k5 n6 w7 L8) →
  if (decide (n6 < ((al : Nat) : Int))) = true then
   ((0 : Int) ≤ n6) ∧
   (n6 < ((al : Nat) : Int)) ∧
   X.onSome (a) fun p9 =>
   ∃ n10 : Int, ∃ n11 : Int, ∃ n12 : Int, ∃ n13 : Int, ∃ n14 : Int, ∃ n15 : Int, ∃ n16 : Int, ∃ n17 : Int, ∃ n18 : Int, ∃ n19 : Int, ∃ n20 : Int, ∃ n21 : Int, ∃ q22 : Option Addr, ∃ k23 : Nat, ∃ k24 : Nat, ∃ n25 : Int, ∃ s26 : ByteArray, ∃ q27 : Option Addr, ∃ k28 : Nat, ∃ k29 : Nat, ∃ n30 : Int, ∃ n31 : Int, (X.Cells w7 (p9.add ((n6).toNat * 18)) [(.int .u8 n10), (.int .u8 n11), (.int .u16 n12), (.int .u32 n13), (.int .u8 n14), (.int .u8 n15), (.int .u8 n16), (.int .u8 n17), (.int .u8 n18), (.int .u8 n19), (.int .u8 n20), (.int .u32 n21), (.slice (q22) k23 k24), (.int .u8 n25), (.string s26), (.slice (q27) k28 k29), (.int .u8 n30), (.int .u16 n31)]) ∧
   X.CallX Try.prog 82 #[(.agg #[(.int .u8 n10), (.int .u8 n11), (.int .u16 n12), (.int .u32 n13), (.int .u8 n14), (.int .u8 n15), (.int .u8 n16), (.int .u8 n17), (.int .u8 n18), (.int .u8 n19), (.int .u8 n20), (.int .u32 n21), (.slice (q22) k23 k24), (.int .u8 n25), (.string s26), (.slice (q27) k28 k29), (.int .u8 n30), (.int .u16 n31)])] w7 fun e32 w33 =>
    ∃ n34 : Int, ∃ n35 : Int, ∃ n36 : Int, ∃ n37 : Int, ∃ n38 : Int, ∃ n39 : Int, ∃ n40 : Int, ∃ n41 : Int, ∃ n42 : Int, ∃ n43 : Int, ∃ n44 : Int, ∃ n45 : Int, ∃ q46 : Option Addr, ∃ k47 : Nat, ∃ k48 : Nat, ∃ n49 : Int, ∃ s50 : ByteArray, ∃ q51 : Option Addr, ∃ k52 : Nat, ∃ k53 : Nat, ∃ n54 : Int, ∃ n55 : Int, (e32 = .returned (.agg #[(.int .u8 n34), (.int .u8 n35), (.int .u16 n36), (.int .u32 n37), (.int .u8 n38), (.int .u8 n39), (.int .u8 n40), (.int .u8 n41), (.int .u8 n42), (.int .u8 n43), (.int .u8 n44), (.int .u32 n45), (.slice (q46) k47 k48), (.int .u8 n49), (.string s50), (.slice (q51) k52 k53), (.int .u8 n54), (.int .u16 n55)])) ∧
    ((w7).heap.size ≤ (w33).heap.size) ∧
    ∃ q56 : Option Addr, ∃ k57 : Nat, ∃ k58 : Nat, ∃ w59 : World, (Sem.run Try.prog (Go.Builtin.append_ #[53, 53] 53 #[(.slice (q3) k4 k5), (.slice (some ⟨(w33).heap.size, 0, none⟩) 1 1)]) (w33.alloc (.cells #[(.int .u8 n34), (.int .u8 n35), (.int .u16 n36), (.int .u32 n37), (.int .u8 n38), (.int .u8 n39), (.int .u8 n40), (.int .u8 n41), (.int .u8 n42), (.int .u8 n43), (.int .u8 n44), (.int .u32 n45), (.slice (q46) k47 k48), (.int .u8 n49), (.string s50), (.slice (q51) k52 k53), (.int .u8 n54), (.int .u16 n55)] 157)) = .ok (.slice (q56) k57 k58) w59) ∧
    (((w33.alloc (.cells #[(.int .u8 n34), (.int .u8 n35), (.int .u16 n36), (.int .u32 n37), (.int .u8 n38), (.int .u8 n39), (.int .u8 n40), (.int .u8 n41), (.int .u8 n42), (.int .u8 n43), (.int .u8 n44), (.int .u32 n45), (.slice (q46) k47 k48), (.int .u8 n49), (.string s50), (.slice (q51) k52 k53), (.int .u8 n54), (.int .u16 n55)] 157))).heap.size ≤ (w59).heap.size) ∧
    (x1 q56 k57 k58 (IntKind.wrap .i64 (n6 + 1)) w59 []) ∧
    Nat.le ((x2 q56 k57 k58 (IntKind.wrap .i64 (n6 + 1)) w59) + 1) (x2 q3 k4 k5 n6 w7)
  else
   R (.returned (.slice (q3) k4 k5)) w7) :
    Calls Try.prog 33 #[.slice a al ac] w R :=
  X.calls_of { isLoc := [], sym := [], loops := [(3, .inv [(3, .slice), (4, .int .i64)] [] true)], joins := [] } Try.func33 (by kernel_rfl) h
abbrev fn_eSameAll : Nat := 42
theorem x_eSameAll (a : Option Addr) (al ac : Nat) (b : Option Addr) (bl bc : Nat) (w : World) (R : Ending → World → Prop) (h :
  X.CallX Try.prog 94 #[(.slice (a) al ac), (.slice (b) bl bc), (.func (.func 95) #[] #[])] w fun e1 w2 =>
   ∃ b3 : Bool, (e1 = .returned (.bool b3)) ∧
   ((w).heap.size ≤ (w2).heap.size) ∧
   R (.returned (.bool b3)) w2) :
    Calls Try.prog 42 #[.slice a al ac, .slice b bl bc] w R :=
  X.calls_of { isLoc := [], sym := [], loops := [], joins := [] } Try.func42 (by kernel_rfl) h
abbrev fn_EqualFuncE : Nat := 94
theorem x_EqualFuncE (a : Option Addr) (al ac : Nat) (b : Option Addr) (bl bc : Nat) (w : World) (R : Ending → World → Prop) (h :
  if (((al : Nat) : Int) != ((bl : Nat) : Int)) = true then
   R (.returned (.bool false)) w
  else
   ∃ x1 : Int → World → List Nat → Prop, ∃ x2 : Int → World → Nat, (x1 0 w []) ∧
   ∀ n3 : Int, ∀ w4 : World, ∀ L5 : List Nat, (X.LF (w).heap.size w4 L5) →
   (x1 n3 w4 L5) →
   if (decide (n3 < ((al : Nat) : Int))) = true then
    ((0 : Int) ≤ n3) ∧
    (n3 < ((al : Nat) : Int)) ∧
    X.onSome (a) fun p6 =>
    ∃ n7 : Int, ∃ n8 : Int, ∃ n9 : Int, ∃ n10 : Int, ∃ n11 : Int, ∃ n12 : Int, ∃ n13 : Int, ∃ n14 : Int, ∃ n15 : Int, ∃ n16 : Int, ∃ n17 : Int, ∃ n18 : Int, ∃ q19 : Option Addr, ∃ k20 : Nat, ∃ k21 : Nat, ∃ n22 : Int, ∃ s23 : ByteArray, ∃ q24 : Option Addr, ∃ k25 : Nat, ∃ k26 : Nat, ∃ n27 : Int, ∃ n28 : Int, (X.Cells w4 (p6.add ((n3).toNat * 18)) [(.int .u8 n7), (.int .u8 n8), (.int .u16 n9), (.int .u32 n10), (.int .u8 n11), (.int .u8 n12), (.int .u8 n13), (.int .u8 n14), (.int .u8 n15), (.int .u8 n16), (.int .u8 n17), (.int .u32 n18), (.slice (q19) k20 k21), (.int .u8 n22), (.string s23), (.slice (q24) k25 k26), (.int .u8 n27), (.int .u16 n28)]) ∧
    ((0 : Int) ≤ n3) ∧
    (n3 < ((bl : Nat) : Int)) ∧
    X.onSome (b) fun p29 =>
    ∃ n30 : Int, ∃ n31 : Int, ∃ n32 : Int, ∃ n33 : Int, ∃ n34 : Int, ∃ n35 : Int, ∃ n36 : Int, ∃ n37 : Int, ∃ n38 : Int, ∃ n39 : Int, ∃ n40 : Int, ∃ n41 : Int, ∃ q42 : Option Addr, ∃ k43 : Nat, ∃ k44 : Nat, ∃ n45 : Int, ∃ s46 : ByteArray, ∃ q47 : Option Addr, ∃ k48 : Nat, ∃ k49 : Nat, ∃ n50 : Int, ∃ n51 : Int, (X.Cells w4 (p29.add ((n3).toNat * 18)) [(.int .u8 n30), (.int .u8 n31), (.int .u16 n32), (.int .u32 n33), (.int .u8 n34), (.int .u8 n35), (.int .u8 n36), (.int .u8 n37), (.int .u8 n38), (.int .u8 n39), (.int .u8 n40), (.int .u32 n41), (.slice (q42) k43 k44), (.int .u8 n45), (.string s46), (.slice (q47) k48 k49), (.int .u8 n50), (.int .u16 n51)]) ∧
    ∀ w52 : World, ∀ L53 : List Nat, (X.Hid [] w4 w52) →
    (X.NewL (w).heap.size [] w4 w52 L53) →
    X.CallX Try.prog (OfNat.ofNat 95) #[(.agg #[(.int .u8 n7), (.int .u8 n8), (.int .u16 n9), (.int .u32 n10), (.int .u8 n11), (.int .u8 n12), (.int .u8 n13), (.int .u8 n14), (.int .u8 n15), (.int .u8 n16), (.int .u8 n17), (.int .u32 n18), (.slice (q19) k20 k21), (.int .u8 n22), (.string s23), (.slice (q24) k25 k26), (.int .u8 n27), (.int .u16 n28)]), (.agg #[(.int .u8 n30), (.int .u8 n31), (.int .u16 n32), (.int .u32 n33), (.int .u8 n34), (.int .u8 n35), (.int .u8 n36), (.int .u8 n37), (.int .u8 n38), (.int .u8 n39), (.int .u8 n40), (.int .u32 n41), (.slice (q42) k43 k44), (.int .u8 n45), (.string s46), (.slice (q47) k48 k49), (.int .u8 n50), (.int .u16 n51)])] w52 fun e54 w55 =>
     ∃ b56 : Bool, (e54 = .returned (.bool b56)) ∧
     (X.Kept L53 w52 w55) ∧
     if (!b56) = true then
      R (.returned (.bool false)) w55
     else
      (x1 (IntKind.wrap .i64 (n3 + 1)) w55 (L53)) ∧
      Nat.le ((x2 (IntKind.wrap .i64 (n3 + 1)) w55) + 1) (x2 n3 w4)
   else
    R (.returned (.bool true)) w4) :
    Calls Try.prog 94 #[.slice a al ac, .slice b bl bc, .func (.func 95) #[] #[]] w R :=
  X.calls_of { isLoc := [8, 9], sym := [], loops := [(4, .inv [(17, .int .i64)] [] true)], joins := [] } Try.func94 (by kernel_rfl) h
abbrev fn_vRight : Nat := 86
theorem x_vRight (a_0 a_1 : Int) (a_2 : Option Addr) (a_2l a_2c : Nat) (w : World) (R : Ending → World → Prop) (h :
  if (((decide (a_0 ≥ 4) || (a_1 == 0)) || (((a_2l : Nat) : Int) == 0)) || decide (((a_2l : Nat) : Int) > 8)) = true then
   ∀ w17 : World, (X.Hid [] w w17) →
   R (.returned (.bool false)) w17
  else
   ∀ w1 : World, ∀ L2 : List Nat, (X.Hid [] w w1) →
   (X.NewL (w).heap.size [] w w1 L2) →
   ∃ x3 : Int → World → List Nat → Prop, ∃ x4 : Int → World → Nat, (x3 0 (w1.alloc (.cells #[(.bool false), (.bool false), (.bool false), (.bool false), (.bool false), (.bool false), (.bool false), (.bool false), (.bool false), (.bool false), (.bool false), (.bool false), (.bool false), (.bool false), (.bool false), (.bool false)] 178)) (L2)) ∧
   ∀ n5 : Int, ∀ w6 : World, ∀ L7 : List Nat, (X.LF (w).heap.size w6 L7) →
   (x3 n5 w6 L7) →
   if (decide (n5 < ((a_2l : Nat) : Int))) = true then
    ((0 : Int) ≤ n5) ∧
    (n5 < ((a_2l : Nat) : Int)) ∧
    X.onSome (a_2) fun p8 =>
    ∃ n9 : Int, ∃ n10 : Int, (X.Cells w6 (p8.add ((n5).toNat * 2)) [(.int .u8 n9), (.int .u16 n10)]) ∧
    (¬ (((p8.add (n5.toNat * 2)).block) ∈ L7)) ∧
    ∀ w11 : World, ∀ L12 : List Nat, (X.Hid (L7) w6 w11) →
    (X.NewL (w).heap.size (L7) w6 w11 L12) →
    X.CallX Try.prog 52 #[(.agg #[(.int .u8 n9), (.int .u16 n10)])] w11 fun e13 w14 =>
     ∃ b15 : Bool, (e13 = .returned (.bool b15)) ∧
     (X.Kept L12 w11 w14) ∧
     if ((!b15) == false) = true then
      ((0 : Int) ≤ n9) ∧
      (n9 < 16) ∧
      ∃ b16 : Bool, (World.cell? w14 ((⟨(w1).heap.size, 0, none⟩ : Addr).add ((n9).toNat * 1)) = some (.bool b16)) ∧
      (¬ ((((Addr.mk w1.heap.size 0 none).add (n9.toNat * 1)).block) ∈ L12)) ∧
      if (false || b16) = true then
       R (.returned (.bool false)) w14
      else
       ((0 : Int) ≤ n9) ∧
       (n9 < 16) ∧
       ((((Addr.mk w1.heap.size 0 none).add (n9.toNat * 1)).spot) = none) ∧
       (World.there w14 (((Addr.mk w1.heap.size 0 none).add (n9.toNat * 1)).block) (((Addr.mk w1.heap.size 0 none).add (n9.toNat * 1)).off) 1) ∧
       (¬ ((((Addr.mk w1.heap.size 0 none).add (n9.toNat * 1)).block) ∈ L12)) ∧
       (([(.int .u8 a_0), (.int .u32 a_1), (.slice (a_2) a_2l a_2c)] : List Value) = [(.int .u8 a_0), (.int .u32 a_1), (.slice (a_2) a_2l a_2c)]) ∧
       (x3 (IntKind.wrap .i64 (n5 + 1)) (w14.setCells (((Addr.mk w1.heap.size 0 none).add (n9.toNat * 1)).block) (((Addr.mk w1.heap.size 0 none).add (n9.toNat * 1)).off) [(.bool true)]) (L12)) ∧
       Nat.le ((x4 (IntKind.wrap .i64 (n5 + 1)) (w14.setCells (((Addr.mk w1.heap.size 0 none).add (n9.toNat * 1)).block) (((Addr.mk w1.heap.size 0 none).add (n9.toNat * 1)).off) [(.bool true)])) + 1) (x4 n5 w6)
     else
      R (.returned (.bool false)) w14
   else
    R (.returned (.bool true)) w6) :
    Calls Try.prog 86 #[.agg #[.int .u8 a_0, .int .u32 a_1, .slice a_2 a_2l a_2c]] w R :=
  X.calls_of { isLoc := [1, 5], sym := [39, 44], loops := [(5, .inv [(29, .int .i64)] [] true)], joins := [] } Try.func86 (by kernel_rfl) h
abbrev fn_rRight : Nat := 91
theorem x_rRight (a_0 a_1 : Int) (a_2 : Option Addr) (a_2l a_2c : Nat) (w : World) (R : Ending → World → Prop) (h :
  if (((decide (a_0 ≥ 4) || decide (a_1 < 1)) || decide (((a_2l : Nat) : Int) < 1)) || decide (((a_2l : Nat) : Int) > 8)) = true then
   ∀ w26 : World, (X.Hid [] w w26) →
   R (.returned (.bool false)) w26
  else
   ∀ w1 : World, ∀ L2 : List Nat, (X.Hid [] w w1) →
   (X.NewL (w).heap.size [] w w1 L2) →
   ∃ x3 : Int → World → List Nat → Prop, ∃ x4 : Int → World → Nat, (x3 0 w1 (L2)) ∧
   ∀ n5 : Int, ∀ w6 : World, ∀ L7 : List Nat, (X.LF (w).heap.size w6 L7) →
   (x3 n5 w6 L7) →
   if (decide (n5 < ((a_2l : Nat) : Int))) = true then
    ((0 : Int) ≤ n5) ∧
    (n5 < ((a_2l : Nat) : Int)) ∧
    X.onSome (a_2) fun p8 =>
    ∃ n9 : Int, ∃ n10 : Int, (X.Cells w6 (p8.add ((n5).toNat * 2)) [(.int .u8 n9), (.int .u16 n10)]) ∧
    (¬ (((p8.add (n5.toNat * 2)).block) ∈ L7)) ∧
    X.CallX Try.prog 51 #[(.agg #[(.int .u8 n9), (.int .u16 n10)])] w6 fun e11 w12 =>
     ∃ b13 : Bool, (e11 = .returned (.bool b13)) ∧
     (X.Kept L7 w6 w12) ∧
     if (!b13) = true then
      R (.returned (.bool false)) w12
     else
      ∃ x14 : Int → World → List Nat → Prop, ∃ x15 : Int → World → Nat, (x14 0 w12 (L7)) ∧
      ∀ n16 : Int, ∀ w17 : World, ∀ L18 : List Nat, (X.LF (w).heap.size w17 L18) →
      (x14 n16 w17 L18) →
      if (decide (n16 < n5)) = true then
       ((0 : Int) ≤ n16) ∧
       (n16 < ((a_2l : Nat) : Int)) ∧
       X.onSome (a_2) fun p19 =>
       ∃ n20 : Int, (World.cell? w17 ((p19.add ((n16).toNat * 2)).add 0) = some (.int .u8 n20)) ∧
       (¬ ((((p19.add (n16.toNat * 2)).add 0).block) ∈ L18)) ∧
       ((0 : Int) ≤ n5) ∧
       (n5 < ((a_2l : Nat) : Int)) ∧
       X.onSome (a_2) fun p21 =>
       ∃ n22 : Int, (World.cell? w17 ((p21.add ((n5).toNat * 2)).add 0) = some (.int .u8 n22)) ∧
       (¬ ((((p21.add (n5.toNat * 2)).add 0).block) ∈ L18)) ∧
       if (n20 == n22) = true then
        ∀ w25 : World, (X.Hid (L18) w17 w25) →
        R (.returned (.bool false)) w25
       else
        ∀ w23 : World, ∀ L24 : List Nat, (X.Hid (L18) w17 w23) →
        (X.NewL (w).heap.size (L18) w17 w23 L24) →
        (([(.int .u8 a_0), (.int .u32 a_1), (.slice (a_2) a_2l a_2c)] : List Value) = [(.int .u8 a_0), (.int .u32 a_1), (.slice (a_2) a_2l a_2c)]) ∧
        (x14 (IntKind.wrap .i64 (n16 + 1)) w23 (L24)) ∧
        Nat.le ((x15 (IntKind.wrap .i64 (n16 + 1)) w23) + 1) (x15 n16 w17)
      else
       (([(.int .u8 a_0), (.int .u32 a_1), (.slice (a_2) a_2l a_2c)] : List Value) = [(.int .u8 a_0), (.int .u32 a_1), (.slice (a_2) a_2l a_2c)]) ∧
       (x3 (IntKind.wrap .i64 (n5 + 1)) w17 (L18)) ∧
       Nat.le ((x4 (IntKind.wrap .i64 (n5 + 1)) w17) + 1) (x4 n5 w6)
   else
    R (.returned (.bool true)) w6) :
    Calls Try.prog 91 #[.agg #[.int .u8 a_0, .int .u32 a_1, .slice a_2 a_2l a_2c]] w R :=
  X.calls_of { isLoc := [1], sym := [], loops := [(4, .inv [(3, .int .i64)] [] true), (9, .inv [(4, .int .i64)] [] true)], joins := [] } Try.func91 (by kernel_rfl) h
abbrev fn_Own6 : Nat := 30
theorem x_Own6 (a_0 a_1 : Int) (a_2 : Option Addr) (a_2l a_2c : Nat) (w : World) (R : Ending → World → Prop) (h :
  ∃ x1 : X.Facts, (X.FactsW x1 w []) ∧
  ∀ w2 : World, ∀ L3 : List Nat, (X.Hid [] w w2) →
  (X.NewL (w).heap.size [] w w2 L3) →
  X.CallX Try.prog 32 #[(.slice (a_2) a_2l a_2c)] w2 fun e4 w5 =>
   ∃ q6 : Option Addr, ∃ k7 : Nat, ∃ k8 : Nat, (e4 = .returned (.slice (q6) k7 k8)) ∧
   (X.Kept L3 w2 w5) ∧
   (X.FactsW x1 w5 (L3)) ∧
   ∀ w9 : World, (X.Hid (L3) w5 w9) →
   R (.returned (.agg #[(.int .u8 a_0), (.int .u32 a_1), (.slice (q6) k7 k8)])) w9) :
    Calls Try.prog 30 #[.agg #[.int .u8 a_0, .int .u32 a_1, .slice a_2 a_2l a_2c]] w R :=
  X.calls_of { isLoc := [1, 2], sym := [], loops := [], joins := [], stored := [(1, [2])] } Try.func30 (by kernel_rfl) h
abbrev fn_vSame : Nat := 40
theorem x_vSame (a_0 a_1 : Int) (a_2 : Option Addr) (a_2l a_2c : Nat) (b_0 b_1 : Int) (b_2 : Option Addr) (b_2l b_2c : Nat) (w : World) (R : Ending → World → Prop) (h :
  if (((a_0 == b_0) && (a_1 == b_1)) == true) = true then
   ∀ w2 : World, ∀ L3 : List Nat, (X.Hid [] w w2) →
   (X.NewL (w).heap.size [] w w2 L3) →
   X.CallX Try.prog 41 #[(.slice (a_2) a_2l a_2c), (.slice (b_2) b_2l b_2c)] w2 fun e4 w5 =>
    ∃ b6 : Bool, (e4 = .returned (.bool b6)) ∧
    (X.Kept L3 w2 w5) ∧
    R (.returned (.bool (true && b6))) w5
  else
   ∀ w1 : World, (X.Hid [] w w1) →
   R (.returned (.bool false)) w1) :
    Calls Try.prog 40 #[.agg #[.int .u8 a_0, .int .u32 a_1, .slice a_2 a_2l a_2c], .agg #[.int .u8 b_0, .int .u32 b_1, .slice b_2 b_2l b_2c]] w R :=
  X.calls_of { isLoc := [2, 3], sym := [], loops := [], joins := [] } Try.func40 (by kernel_rfl) h
abbrev fn_r6Same : Nat := 44
theorem x_r6Same (a_0 a_1 : Int) (a_2 : Option Addr) (a_2l a_2c : Nat) (b_0 b_1 : Int) (b_2 : Option Addr) (b_2l b_2c : Nat) (w : World) (R : Ending → World → Prop) (h :
  if (((a_0 == b_0) && (a_1 == b_1)) == true) = true then
   ∀ w2 : World, ∀ L3 : List Nat, (X.Hid [] w w2) →
   (X.NewL (w).heap.size [] w w2 L3) →
   X.CallX Try.prog 45 #[(.slice (a_2) a_2l a_2c), (.slice (b_2) b_2l b_2c)] w2 fun e4 w5 =>
    ∃ b6 : Bool, (e4 = .returned (.bool b6)) ∧
    (X.Kept L3 w2 w5) ∧
    R (.returned (.bool (true && b6))) w5
  else
   ∀ w1 : World, (X.Hid [] w w1) →
   R (.returned (.bool false)) w1) :
    Calls Try.prog 44 #[.agg #[.int .u8 a_0, .int .u32 a_1, .slice a_2 a_2l a_2c], .agg #[.int .u8 b_0, .int .u32 b_1, .slice b_2 b_2l b_2c]] w R :=
  X.calls_of { isLoc := [2, 3], sym := [], loops := [], joins := [] } Try.func44 (by kernel_rfl) h
end Go.Proofs
/- The verification conditions of this seat's functions, as the engine has them: printed by a program of the bench; checked by the kernel. -/
namespace Go.Proofs
open Go
abbrev fn_all : Nat := 87
theorem x_all (a : Option Addr) (al ac : Nat) (b : Int) (w : World) (R : Ending → World → Prop) (h :
  if ((decide (((al : Nat) : Int) ≤ 400)) == true) = true then
   X.CallX Try.prog 114 #[(.slice (a) al ac), (.func (.func 115) #[] #[(.pointer (some ⟨(w).heap.size, 0, none⟩))])] (w.alloc (.cells #[(.int .u8 b)] 5)) fun e1 w2 =>
    ∃ b3 : Bool, (e1 = .returned (.bool b3)) ∧
    (((w.alloc (.cells #[(.int .u8 b)] 5))).heap.size ≤ (w2).heap.size) ∧
    R (.returned (.bool (true && (!b3)))) w2
  else
   R (.returned (.bool false)) (w.alloc (.cells #[(.int .u8 b)] 5))) :
    Calls Try.prog 87 #[.slice a al ac, .int .u8 b] w R :=
  X.calls_of { isLoc := [], sym := [], loops := [], joins := [] } Try.func87 (by kernel_rfl) h
abbrev fn_all1 : Nat := 115
theorem x_all1 (a_0 a_1 a_2 a_3 a_4 a_5 a_6 a_7 a_8 a_9 a_10 a_11 : Int) (a_12 : Option Addr) (a_12l a_12c : Nat) (a_13 : Int) (a_14 : ByteArray) (a_15 : Option Addr) (a_15l a_15c : Nat) (a_16 a_17 : Int) (z0 : Addr) (w : World) (R : Ending → World → Prop) (h :
  ∃ n1 : Int, (World.cell? w z0 = some (.int .u8 n1)) ∧
  ∀ w2 : World, ∀ L3 : List Nat, (X.Hid [] w w2) →
  (X.NewL (w).heap.size [] w w2 L3) →
  X.CallX Try.prog 116 #[(.agg #[(.int .u8 a_0), (.int .u8 a_1), (.int .u16 a_2), (.int .u32 a_3), (.int .u8 a_4), (.int .u8 a_5), (.int .u8 a_6), (.int .u8 a_7), (.int .u8 a_8), (.int .u8 a_9), (.int .u8 a_10), (.int .u32 a_11), (.slice (a_12) a_12l a_12c), (.int .u8 a_13), (.string a_14), (.slice (a_15) a_15l a_15c), (.int .u8 a_16), (.int .u16 a_17)]), (.int .u8 n1)] w2 fun e4 w5 =>
   ∃ b6 : Bool, (e4 = .returned (.bool b6)) ∧
   (X.Kept L3 w2 w5) ∧
   R (.returned (.bool (!b6))) w5) :
    Calls Try.prog 115 #[.agg #[.int .u8 a_0, .int .u8 a_1, .int .u16 a_2, .int .u32 a_3, .int .u8 a_4, .int .u8 a_5, .int .u8 a_6, .int .u8 a_7, .int .u8 a_8, .int .u8 a_9, .int .u8 a_10, .int .u32 a_11, .slice a_12 a_12l a_12c, .int .u8 a_13, .string a_14, .slice a_15 a_15l a_15c, .int .u8 a_16, .int .u16 a_17], .pointer (some z0)] w R :=
  X.calls_of { isLoc := [2], sym := [], loops := [], joins := [] } Try.func115 (by kernel_rfl) h
abbrev fn_ContainsE : Nat := 114
theorem x_ContainsE (a : Option Addr) (al ac : Nat) (z0 : Addr) (w : World) (R : Ending → World → Prop) (h :
  X.CallX Try.prog 130 #[(.slice (a) al ac), (.func (.func (OfNat.ofNat 115)) #[] #[(.pointer (some z0))])] w fun e1 w2 =>
   ∃ n3 : Int, (e1 = .returned (.int .i64 n3)) ∧
   ((w).heap.size ≤ (w2).heap.size) ∧
   R (.returned (.bool (decide (n3 ≥ 0)))) w2) :
    Calls Try.prog 114 #[.slice a al ac, .func (.func 115) #[] #[.pointer (some z0)]] w R :=
  X.calls_of { isLoc := [], sym := [], loops := [], joins := [] } Try.func114 (by kernel_rfl) h
abbrev fn_IndexE : Nat := 130
theorem x_IndexE (a : Option Addr) (al ac : Nat) (z0 : Addr) (w : World) (R : Ending → World → Prop) (h :
  ∃ x1 : Int → World → List Nat → Prop, ∃ x2 : Int → World → Nat, (x1 0 w []) ∧
  ∀ n3 : Int, ∀ w4 : World, ∀ L5 : List Nat, (X.LF (w).heap.size w4 L5) →
  (x1 n3 w4 L5) →
  if (decide (n3 < ((al : Nat) : Int))) = true then
   ((0 : Int) ≤ n3) ∧
   (n3 < ((al : Nat) : Int)) ∧
   X.onSome (a) fun p6 =>
   ∃ n7 : Int, ∃ n8 : Int, ∃ n9 : Int, ∃ n10 : Int, ∃ n11 : Int, ∃ n12 : Int, ∃ n13 : Int, ∃ n14 : Int, ∃ n15 : Int, ∃ n16 : Int, ∃ n17 : Int, ∃ n18 : Int, ∃ q19 : Option Addr, ∃ k20 : Nat, ∃ k21 : Nat, ∃ n22 : Int, ∃ s23 : ByteArray, ∃ q24 : Option Addr, ∃ k25 : Nat, ∃ k26 : Nat, ∃ n27 : Int, ∃ n28 : Int, (X.Cells w4 (p6.add ((n3).toNat * 18)) [(.int .u8 n7), (.int .u8 n8), (.int .u16 n9), (.int .u32 n10), (.int .u8 n11), (.int .u8 n12), (.int .u8 n13), (.int .u8 n14), (.int .u8 n15), (.int .u8 n16), (.int .u8 n17), (.int .u32 n18), (.slice (q19) k20 k21), (.int .u8 n22), (.string s23), (.slice (q24) k25 k26), (.int .u8 n27), (.int .u16 n28)]) ∧
   X.CallX Try.prog (OfNat.ofNat 115) #[(.agg #[(.int .u8 n7), (.int .u8 n8), (.int .u16 n9), (.int .u32 n10), (.int .u8 n11), (.int .u8 n12), (.int .u8 n13), (.int .u8 n14), (.int .u8 n15), (.int .u8 n16), (.int .u8 n17), (.int .u32 n18), (.slice (q19) k20 k21), (.int .u8 n22), (.string s23), (.slice (q24) k25 k26), (.int .u8 n27), (.int .u16 n28)]), (.pointer (some z0))] w4 fun e29 w30 =>
    ∃ b31 : Bool, (e29 = .returned (.bool b31)) ∧
    ((w4).heap.size ≤ (w30).heap.size) ∧
    if b31 = true then
     R (.returned (.int .i64 n3)) w30
    else
     (x1 (IntKind.wrap .i64 (n3 + 1)) w30 []) ∧
     Nat.le ((x2 (IntKind.wrap .i64 (n3 + 1)) w30) + 1) (x2 n3 w4)
  else
   R (.returned (.int .i64 (-1))) w4) :
    Calls Try.prog 130 #[.slice a al ac, .func (.func 115) #[] #[.pointer (some z0)]] w R :=
  X.calls_of { isLoc := [], sym := [], loops := [(2, .inv [(8, .int .i64)] [] true)], joins := [] } Try.func130 (by kernel_rfl) h
abbrev fn_mAsked : Nat := 83
theorem x_mAsked (a_0 a_1 a_2 a_3 a_4 a_5 a_6 a_7 a_8 a_9 a_10 a_11 a_12 a_13 a_14 a_15 a_16 a_17 a_18 : Int) (a_19 : Option Addr) (a_19l a_19c : Nat) (a_20 : Int) (a_21 : ByteArray) (a_22 a_23 : Int) (a_24 : Option Addr) (a_24l a_24c : Nat) (a_25 a_26 : Int) (a_27 : Bool) (a_28 : Option Addr) (a_28l a_28c : Nat) (a_29 : Option Addr) (a_29l a_29c : Nat) (a_30 : Option Addr) (a_30l a_30c : Nat) (w : World) (R : Ending → World → Prop) (h :
  ∃ x1 : X.Facts, (X.FactsW x1 w []) ∧
  ∀ w2 : World, ∀ L3 : List Nat, (X.Hid [] w w2) →
  (X.NewL (w).heap.size [] w w2 L3) →
  X.CallX Try.prog 84 #[(.agg #[(.int .u8 a_9), (.int .u16 a_10), (.int .u32 a_11), (.int .u8 a_12), (.int .u8 a_13), (.int .u8 a_14), (.int .u8 a_15), (.int .u8 a_16), (.int .u8 a_17), (.int .u8 a_18)])] w2 fun e4 w5 =>
   ∃ b6 : Bool, (e4 = .returned (.bool b6)) ∧
   (X.Kept L3 w2 w5) ∧
   (X.FactsW x1 w5 (L3)) ∧
   ∃ x7 : X.Facts, (X.FactsW x7 w5 (L3)) ∧
   (∀ x8 : Addr × List Value, (x8 ∈ x1) →
    x8 ∈ x7) ∧
   if ((b6 && decide (a_6 < a_11)) == true) = true then
    X.CallX Try.prog 113 #[(.slice (a_19) a_19l a_19c)] w5 fun e13 w14 =>
     ∃ b15 : Bool, (e13 = .returned (.bool b15)) ∧
     (X.Kept L3 w5 w14) ∧
     (X.FactsW x7 w14 (L3)) ∧
     ∃ x16 : X.Facts, (X.FactsW x16 w14 (L3)) ∧
     (∀ x17 : Addr × List Value, (x17 ∈ x7) →
      x17 ∈ x16) ∧
     if ((true && b15) == true) = true then
      ((0 : Int) ≤ 0) ∧
      ((0 : Int) < ((a_19l : Nat) : Int)) ∧
      X.onSome (a_19) fun p20 =>
      ∃ n21 : Int, ((((p20.add 0).add 0), [(.int .u8 n21)]) ∈ x16) ∧
      R (.returned (.bool ((true && (n21 == a_1)) && decide ((IntKind.wrap .i64 (((a_19l : Nat) : Int) + (IntKind.wrap .i64 a_12))) ≤ 4)))) w14
     else
      ∃ x18 : X.Facts, (X.FactsW x18 w14 (L3)) ∧
      (∀ x19 : Addr × List Value, (x19 ∈ x16) →
       x19 ∈ x18) ∧
      R (.returned (.bool (false && decide ((IntKind.wrap .i64 (((a_19l : Nat) : Int) + (IntKind.wrap .i64 a_12))) ≤ 4)))) w14
   else
    ∃ x9 : X.Facts, (X.FactsW x9 w5 (L3)) ∧
    (∀ x10 : Addr × List Value, (x10 ∈ x7) →
     x10 ∈ x9) ∧
    ∃ x11 : X.Facts, (X.FactsW x11 w5 (L3)) ∧
    (∀ x12 : Addr × List Value, (x12 ∈ x9) →
     x12 ∈ x11) ∧
    R (.returned (.bool (false && decide ((IntKind.wrap .i64 (((a_19l : Nat) : Int) + (IntKind.wrap .i64 a_12))) ≤ 4)))) w5) :
    Calls Try.prog 83 #[.agg #[.int .u8 a_0, .int .u8 a_1, .int .u8 a_2, .int .u32 a_3, .int .u32 a_4, .int .u32 a_5, .int .u32 a_6, .int .u64 a_7, .int .u64 a_8, .int .u8 a_9, .int .u16 a_10, .int .u32 a_11, .int .u8 a_12, .int .u8 a_13, .int .u8 a_14, .int .u8 a_15, .int .u8 a_16, .int .u8 a_17, .int .u8 a_18, .slice a_19 a_19l a_19c, .int .u8 a_20, .string a_21, .int .u8 a_22, .int .u32 a_23, .slice a_24 a_24l a_24c, .int .u8 a_25, .int .u16 a_26, .bool a_27, .slice a_28 a_28l a_28c, .slice a_29 a_29l a_29c, .slice a_30 a_30l a_30c]] w R :=
  X.calls_of { isLoc := [1], sym := [], loops := [], joins := [] } Try.func83 (by kernel_rfl) h
abbrev fn_mValue : Nat := 88
theorem x_mValue (a_0 a_1 a_2 a_3 a_4 a_5 a_6 a_7 a_8 a_9 a_10 a_11 a_12 a_13 a_14 a_15 a_16 a_17 a_18 : Int) (a_19 : Option Addr) (a_19l a_19c : Nat) (a_20 : Int) (a_21 : ByteArray) (a_22 a_23 : Int) (a_24 : Option Addr) (a_24l a_24c : Nat) (a_25 a_26 : Int) (a_27 : Bool) (a_28 : Option Addr) (a_28l a_28c : Nat) (a_29 : Option Addr) (a_29l a_29c : Nat) (a_30 : Option Addr) (a_30l a_30c : Nat) (w : World) (R : Ending → World → Prop) (h :
  ∀ w1 : World, ∀ L2 : List Nat, (X.Hid [] w w1) →
  (X.NewL (w).heap.size [] w w1 L2) →
  X.CallX Try.prog 86 #[(.agg #[(.int .u8 0), (.int .u32 1), (.slice (a_28) a_28l a_28c)])] w1 fun e3 w4 =>
   ∃ b5 : Bool, (e3 = .returned (.bool b5)) ∧
   (X.Kept L2 w1 w4) ∧
   if (b5 == true) = true then
    X.CallX Try.prog 87 #[(.slice (a_30) a_30l a_30c), (.int .u8 a_1)] w4 fun e6 w7 =>
     ∃ b8 : Bool, (e6 = .returned (.bool b8)) ∧
     (X.Kept L2 w4 w7) ∧
     R (.returned (.bool (true && b8))) w7
   else
    R (.returned (.bool false)) w4) :
    Calls Try.prog 88 #[.agg #[.int .u8 a_0, .int .u8 a_1, .int .u8 a_2, .int .u32 a_3, .int .u32 a_4, .int .u32 a_5, .int .u32 a_6, .int .u64 a_7, .int .u64 a_8, .int .u8 a_9, .int .u16 a_10, .int .u32 a_11, .int .u8 a_12, .int .u8 a_13, .int .u8 a_14, .int .u8 a_15, .int .u8 a_16, .int .u8 a_17, .int .u8 a_18, .slice a_19 a_19l a_19c, .int .u8 a_20, .string a_21, .int .u8 a_22, .int .u32 a_23, .slice a_24 a_24l a_24c, .int .u8 a_25, .int .u16 a_26, .bool a_27, .slice a_28 a_28l a_28c, .slice a_29 a_29l a_29c, .slice a_30 a_30l a_30c]] w R :=
  X.calls_of { isLoc := [1, 3], sym := [], loops := [], joins := [] } Try.func88 (by kernel_rfl) h
abbrev fn_mRight : Nat := 10
theorem x_mRight (a_0 a_1 a_2 a_3 a_4 a_5 a_6 a_7 a_8 a_9 a_10 a_11 a_12 a_13 a_14 a_15 a_16 a_17 a_18 : Int) (a_19 : Option Addr) (a_19l a_19c : Nat) (a_20 : Int) (a_21 : ByteArray) (a_22 a_23 : Int) (a_24 : Option Addr) (a_24l a_24c : Nat) (a_25 a_26 : Int) (a_27 : Bool) (a_28 : Option Addr) (a_28l a_28c : Nat) (a_29 : Option Addr) (a_29l a_29c : Nat) (a_30 : Option Addr) (a_30l a_30c : Nat) (w : World) (R : Ending → World → Prop) (h :
  ∃ x1 : X.Facts, (X.FactsW x1 w []) ∧
  if ((decide (a_1 < 4)) == true) = true then
   ∀ w5 : World, ∀ L6 : List Nat, (X.Hid [] w w5) →
   (X.NewL (w).heap.size [] w w5 L6) →
   X.CallX Try.prog 34 #[(.agg #[(.int .u8 a_0), (.int .u8 a_1), (.int .u8 a_2), (.int .u32 a_3), (.int .u32 a_4), (.int .u32 a_5), (.int .u32 a_6), (.int .u64 a_7), (.int .u64 a_8), (.int .u8 a_9), (.int .u16 a_10), (.int .u32 a_11), (.int .u8 a_12), (.int .u8 a_13), (.int .u8 a_14), (.int .u8 a_15), (.int .u8 a_16), (.int .u8 a_17), (.int .u8 a_18), (.slice (a_19) a_19l a_19c), (.int .u8 a_20), (.string a_21), (.int .u8 a_22), (.int .u32 a_23), (.slice (a_24) a_24l a_24c), (.int .u8 a_25), (.int .u16 a_26), (.bool a_27), (.slice (a_28) a_28l a_28c), (.slice (a_29) a_29l a_29c), (.slice (a_30) a_30l a_30c)])] w5 fun e7 w8 =>
    ∃ b9 : Bool, (e7 = .returned (.bool b9)) ∧
    (X.Kept L6 w5 w8) ∧
    (X.FactsW x1 w8 (L6)) ∧
    ∃ x10 : X.Facts, (X.FactsW x10 w8 (L6)) ∧
    (∀ x11 : Addr × List Value, (x11 ∈ x1) →
     x11 ∈ x10) ∧
    if ((true && b9) == true) = true then
     X.CallX Try.prog 35 #[(.agg #[(.int .u8 a_0), (.int .u8 a_1), (.int .u8 a_2), (.int .u32 a_3), (.int .u32 a_4), (.int .u32 a_5), (.int .u32 a_6), (.int .u64 a_7), (.int .u64 a_8), (.int .u8 a_9), (.int .u16 a_10), (.int .u32 a_11), (.int .u8 a_12), (.int .u8 a_13), (.int .u8 a_14), (.int .u8 a_15), (.int .u8 a_16), (.int .u8 a_17), (.int .u8 a_18), (.slice (a_19) a_19l a_19c), (.int .u8 a_20), (.string a_21), (.int .u8 a_22), (.int .u32 a_23), (.slice (a_24) a_24l a_24c), (.int .u8 a_25), (.int .u16 a_26), (.bool a_27), (.slice (a_28) a_28l a_28c), (.slice (a_29) a_29l a_29c), (.slice (a_30) a_30l a_30c)])] w8 fun e12 w13 =>
      ∃ n14 : Int, ∃ n15 : Int, ∃ n16 : Int, ∃ n17 : Int, ∃ n18 : Int, ∃ n19 : Int, ∃ n20 : Int, ∃ n21 : Int, ∃ n22 : Int, ∃ n23 : Int, ∃ n24 : Int, ∃ n25 : Int, ∃ n26 : Int, ∃ n27 : Int, ∃ n28 : Int, ∃ n29 : Int, ∃ n30 : Int, ∃ n31 : Int, ∃ n32 : Int, ∃ q33 : Option Addr, ∃ k34 : Nat, ∃ k35 : Nat, ∃ n36 : Int, ∃ s37 : ByteArray, ∃ n38 : Int, ∃ n39 : Int, ∃ q40 : Option Addr, ∃ k41 : Nat, ∃ k42 : Nat, ∃ n43 : Int, ∃ n44 : Int, ∃ b45 : Bool, ∃ q46 : Option Addr, ∃ k47 : Nat, ∃ k48 : Nat, ∃ q49 : Option Addr, ∃ k50 : Nat, ∃ k51 : Nat, ∃ q52 : Option Addr, ∃ k53 : Nat, ∃ k54 : Nat, (e12 = .returned (.agg #[(.int .u8 n14), (.int .u8 n15), (.int .u8 n16), (.int .u32 n17), (.int .u32 n18), (.int .u32 n19), (.int .u32 n20), (.int .u64 n21), (.int .u64 n22), (.int .u8 n23), (.int .u16 n24), (.int .u32 n25), (.int .u8 n26), (.int .u8 n27), (.int .u8 n28), (.int .u8 n29), (.int .u8 n30), (.int .u8 n31), (.int .u8 n32), (.slice (q33) k34 k35), (.int .u8 n36), (.string s37), (.int .u8 n38), (.int .u32 n39), (.slice (q40) k41 k42), (.int .u8 n43), (.int .u16 n44), (.bool b45), (.slice (q46) k47 k48), (.slice (q49) k50 k51), (.slice (q52) k53 k54)])) ∧
      (X.Kept L6 w8 w13) ∧
      (X.FactsW x10 w13 (L6)) ∧
      X.CallX Try.prog 12 #[(.agg #[(.int .u8 a_0), (.int .u8 a_1), (.int .u8 a_2), (.int .u32 a_3), (.int .u32 a_4), (.int .u32 a_5), (.int .u32 a_6), (.int .u64 a_7), (.int .u64 a_8), (.int .u8 a_9), (.int .u16 a_10), (.int .u32 a_11), (.int .u8 a_12), (.int .u8 a_13), (.int .u8 a_14), (.int .u8 a_15), (.int .u8 a_16), (.int .u8 a_17), (.int .u8 a_18), (.slice (a_19) a_19l a_19c), (.int .u8 a_20), (.string a_21), (.int .u8 a_22), (.int .u32 a_23), (.slice (a_24) a_24l a_24c), (.int .u8 a_25), (.int .u16 a_26), (.bool a_27), (.slice (a_28) a_28l a_28c), (.slice (a_29) a_29l a_29c), (.slice (a_30) a_30l a_30c)]), (.agg #[(.int .u8 n14), (.int .u8 n15), (.int .u8 n16), (.int .u32 n17), (.int .u32 n18), (.int .u32 n19), (.int .u32 n20), (.int .u64 n21), (.int .u64 n22), (.int .u8 n23), (.int .u16 n24), (.int .u32 n25), (.int .u8 n26), (.int .u8 n27), (.int .u8 n28), (.int .u8 n29), (.int .u8 n30), (.int .u8 n31), (.int .u8 n32), (.slice (q33) k34 k35), (.int .u8 n36), (.string s37), (.int .u8 n38), (.int .u32 n39), (.slice (q40) k41 k42), (.int .u8 n43), (.int .u16 n44), (.bool b45), (.slice (q46) k47 k48), (.slice (q49) k50 k51), (.slice (q52) k53 k54)])] w13 fun e55 w56 =>
       ∃ b57 : Bool, (e55 = .returned (.bool b57)) ∧
       (X.Kept L6 w13 w56) ∧
       (X.FactsW x10 w56 (L6)) ∧
       R (.returned (.bool (true && b57))) w56
    else
     R (.returned (.bool false)) w8
  else
   ∃ x2 : X.Facts, (X.FactsW x2 w []) ∧
   (∀ x3 : Addr × List Value, (x3 ∈ x1) →
    x3 ∈ x2) ∧
   ∀ w4 : World, (X.Hid [] w w4) →
   R (.returned (.bool false)) w4) :
    Calls Try.prog 10 #[.agg #[.int .u8 a_0, .int .u8 a_1, .int .u8 a_2, .int .u32 a_3, .int .u32 a_4, .int .u32 a_5, .int .u32 a_6, .int .u64 a_7, .int .u64 a_8, .int .u8 a_9, .int .u16 a_10, .int .u32 a_11, .int .u8 a_12, .int .u8 a_13, .int .u8 a_14, .int .u8 a_15, .int .u8 a_16, .int .u8 a_17, .int .u8 a_18, .slice a_19 a_19l a_19c, .int .u8 a_20, .string a_21, .int .u8 a_22, .int .u32 a_23, .slice a_24 a_24l a_24c, .int .u8 a_25, .int .u16 a_26, .bool a_27, .slice a_28 a_28l a_28c, .slice a_29 a_29l a_29c, .slice a_30 a_30l a_30c]] w R :=
  X.calls_of { isLoc := [1], sym := [], loops := [], joins := [] } Try.func10 (by kernel_rfl) h
abbrev fn_mSame : Nat := 12
theorem x_mSame (a_0 a_1 a_2 a_3 a_4 a_5 a_6 a_7 a_8 a_9 a_10 a_11 a_12 a_13 a_14 a_15 a_16 a_17 a_18 : Int) (a_19 : Option Addr) (a_19l a_19c : Nat) (a_20 : Int) (a_21 : ByteArray) (a_22 a_23 : Int) (a_24 : Option Addr) (a_24l a_24c : Nat) (a_25 a_26 : Int) (a_27 : Bool) (a_28 : Option Addr) (a_28l a_28c : Nat) (a_29 : Option Addr) (a_29l a_29c : Nat) (a_30 : Option Addr) (a_30l a_30c : Nat) (b_0 b_1 b_2 b_3 b_4 b_5 b_6 b_7 b_8 b_9 b_10 b_11 b_12 b_13 b_14 b_15 b_16 b_17 b_18 : Int) (b_19 : Option Addr) (b_19l b_19c : Nat) (b_20 : Int) (b_21 : ByteArray) (b_22 b_23 : Int) (b_24 : Option Addr) (b_24l b_24c : Nat) (b_25 b_26 : Int) (b_27 : Bool) (b_28 : Option Addr) (b_28l b_28c : Nat) (b_29 : Option Addr) (b_29l b_29c : Nat) (b_30 : Option Addr) (b_30l b_30c : Nat) (w : World) (R : Ending → World → Prop) (h :
  ∀ w1 : World, ∀ L2 : List Nat, (X.Hid [] w w1) →
  (X.NewL (w).heap.size [] w w1 L2) →
  X.CallX Try.prog 39 #[(.slice (a_19) a_19l a_19c), (.slice (b_19) b_19l b_19c)] w1 fun e3 w4 =>
   ∃ b5 : Bool, (e3 = .returned (.bool b5)) ∧
   (X.Kept L2 w1 w4) ∧
   if (b5 == true) = true then
    X.CallX Try.prog 40 #[(.agg #[(.int .u8 a_22), (.int .u32 a_23), (.slice (a_24) a_24l a_24c)]), (.agg #[(.int .u8 b_22), (.int .u32 b_23), (.slice (b_24) b_24l b_24c)])] w4 fun e6 w7 =>
     ∃ b8 : Bool, (e6 = .returned (.bool b8)) ∧
     (X.Kept L2 w4 w7) ∧
     if ((true && b8) == true) = true then
      X.CallX Try.prog 41 #[(.slice (a_28) a_28l a_28c), (.slice (b_28) b_28l b_28c)] w7 fun e9 w10 =>
       ∃ b11 : Bool, (e9 = .returned (.bool b11)) ∧
       (X.Kept L2 w7 w10) ∧
       if ((true && b11) == true) = true then
        X.CallX Try.prog 42 #[(.slice (a_29) a_29l a_29c), (.slice (b_29) b_29l b_29c)] w10 fun e12 w13 =>
         ∃ b14 : Bool, (e12 = .returned (.bool b14)) ∧
         (X.Kept L2 w10 w13) ∧
         if ((true && b14) == true) = true then
          X.CallX Try.prog 42 #[(.slice (a_30) a_30l a_30c), (.slice (b_30) b_30l b_30c)] w13 fun e15 w16 =>
           ∃ b17 : Bool, (e15 = .returned (.bool b17)) ∧
           (X.Kept L2 w13 w16) ∧
           R (.returned (.bool ((((((true && b17) && (((((((((a_0 == b_0) && (a_1 == b_1)) && (a_2 == b_2)) && (a_3 == b_3)) && (a_4 == b_4)) && (a_5 == b_5)) && (a_6 == b_6)) && (a_7 == b_7)) && (a_8 == b_8))) && (((a_9 == b_9) && (a_10 == b_10)) && ((a_11 == b_11) && ((a_12 == b_12) && (((a_13 == b_13) && (a_14 == b_14)) && (((a_15 == b_15) && (a_16 == b_16)) && ((a_17 == b_17) && (a_18 == b_18)))))))) && ((a_20 == b_20) && (a_21 == b_21))) && ((a_25 == b_25) && (a_26 == b_26))) && (a_27 == b_27)))) w16
         else
          R (.returned (.bool (((((false && (((((((((a_0 == b_0) && (a_1 == b_1)) && (a_2 == b_2)) && (a_3 == b_3)) && (a_4 == b_4)) && (a_5 == b_5)) && (a_6 == b_6)) && (a_7 == b_7)) && (a_8 == b_8))) && (((a_9 == b_9) && (a_10 == b_10)) && ((a_11 == b_11) && ((a_12 == b_12) && (((a_13 == b_13) && (a_14 == b_14)) && (((a_15 == b_15) && (a_16 == b_16)) && ((a_17 == b_17) && (a_18 == b_18)))))))) && ((a_20 == b_20) && (a_21 == b_21))) && ((a_25 == b_25) && (a_26 == b_26))) && (a_27 == b_27)))) w13
       else
        R (.returned (.bool (((((false && (((((((((a_0 == b_0) && (a_1 == b_1)) && (a_2 == b_2)) && (a_3 == b_3)) && (a_4 == b_4)) && (a_5 == b_5)) && (a_6 == b_6)) && (a_7 == b_7)) && (a_8 == b_8))) && (((a_9 == b_9) && (a_10 == b_10)) && ((a_11 == b_11) && ((a_12 == b_12) && (((a_13 == b_13) && (a_14 == b_14)) && (((a_15 == b_15) && (a_16 == b_16)) && ((a_17 == b_17) && (a_18 == b_18)))))))) && ((a_20 == b_20) && (a_21 == b_21))) && ((a_25 == b_25) && (a_26 == b_26))) && (a_27 == b_27)))) w10
     else
      R (.returned (.bool (((((false && (((((((((a_0 == b_0) && (a_1 == b_1)) && (a_2 == b_2)) && (a_3 == b_3)) && (a_4 == b_4)) && (a_5 == b_5)) && (a_6 == b_6)) && (a_7 == b_7)) && (a_8 == b_8))) && (((a_9 == b_9) && (a_10 == b_10)) && ((a_11 == b_11) && ((a_12 == b_12) && (((a_13 == b_13) && (a_14 == b_14)) && (((a_15 == b_15) && (a_16 == b_16)) && ((a_17 == b_17) && (a_18 == b_18)))))))) && ((a_20 == b_20) && (a_21 == b_21))) && ((a_25 == b_25) && (a_26 == b_26))) && (a_27 == b_27)))) w7
   else
    R (.returned (.bool (((((false && (((((((((a_0 == b_0) && (a_1 == b_1)) && (a_2 == b_2)) && (a_3 == b_3)) && (a_4 == b_4)) && (a_5 == b_5)) && (a_6 == b_6)) && (a_7 == b_7)) && (a_8 == b_8))) && (((a_9 == b_9) && (a_10 == b_10)) && ((a_11 == b_11) && ((a_12 == b_12) && (((a_13 == b_13) && (a_14 == b_14)) && (((a_15 == b_15) && (a_16 == b_16)) && ((a_17 == b_17) && (a_18 == b_18)))))))) && ((a_20 == b_20) && (a_21 == b_21))) && ((a_25 == b_25) && (a_26 == b_26))) && (a_27 == b_27)))) w4) :
    Calls Try.prog 12 #[.agg #[.int .u8 a_0, .int .u8 a_1, .int .u8 a_2, .int .u32 a_3, .int .u32 a_4, .int .u32 a_5, .int .u32 a_6, .int .u64 a_7, .int .u64 a_8, .int .u8 a_9, .int .u16 a_10, .int .u32 a_11, .int .u8 a_12, .int .u8 a_13, .int .u8 a_14, .int .u8 a_15, .int .u8 a_16, .int .u8 a_17, .int .u8 a_18, .slice a_19 a_19l a_19c, .int .u8 a_20, .string a_21, .int .u8 a_22, .int .u32 a_23, .slice a_24 a_24l a_24c, .int .u8 a_25, .int .u16 a_26, .bool a_27, .slice a_28 a_28l a_28c, .slice a_29 a_29l a_29c, .slice a_30 a_30l a_30c], .agg #[.int .u8 b_0, .int .u8 b_1, .int .u8 b_2, .int .u32 b_3, .int .u32 b_4, .int .u32 b_5, .int .u32 b_6, .int .u64 b_7, .int .u64 b_8, .int .u8 b_9, .int .u16 b_10, .int .u32 b_11, .int .u8 b_12, .int .u8 b_13, .int .u8 b_14, .int .u8 b_15, .int .u8 b_16, .int .u8 b_17, .int .u8 b_18, .slice b_19 b_19l b_19c, .int .u8 b_20, .string b_21, .int .u8 b_22, .int .u32 b_23, .slice b_24 b_24l b_24c, .int .u8 b_25, .int .u16 b_26, .bool b_27, .slice b_28 b_28l b_28c, .slice b_29 b_29l b_29c, .slice b_30 b_30l b_30c]] w R :=
  X.calls_of { isLoc := [2, 3], sym := [], loops := [], joins := [] } Try.func12 (by kernel_rfl) h
abbrev fn_OwnM : Nat := 9
theorem x_OwnM (a_0 a_1 a_2 a_3 a_4 a_5 a_6 a_7 a_8 a_9 a_10 a_11 a_12 a_13 a_14 a_15 a_16 a_17 a_18 : Int) (a_19 : Option Addr) (a_19l a_19c : Nat) (a_20 : Int) (a_21 : ByteArray) (a_22 a_23 : Int) (a_24 : Option Addr) (a_24l a_24c : Nat) (a_25 a_26 : Int) (a_27 : Bool) (a_28 : Option Addr) (a_28l a_28c : Nat) (a_29 : Option Addr) (a_29l a_29c : Nat) (a_30 : Option Addr) (a_30l a_30c : Nat) (w : World) (R : Ending → World → Prop) (h :
  ∃ x1 : X.Facts, (X.FactsW x1 w []) ∧
  ∀ w2 : World, ∀ L3 : List Nat, (X.Hid [] w w2) →
  (X.NewL (w).heap.size [] w w2 L3) →
  X.CallX Try.prog 27 #[(.agg #[(.int .u8 a_9), (.int .u16 a_10), (.int .u32 a_11), (.int .u8 a_12), (.int .u8 a_13), (.int .u8 a_14), (.int .u8 a_15), (.int .u8 a_16), (.int .u8 a_17), (.int .u8 a_18)])] w2 fun e4 w5 =>
   ∃ n6 : Int, ∃ n7 : Int, ∃ n8 : Int, ∃ n9 : Int, ∃ n10 : Int, ∃ n11 : Int, ∃ n12 : Int, ∃ n13 : Int, ∃ n14 : Int, ∃ n15 : Int, (e4 = .returned (.agg #[(.int .u8 n6), (.int .u16 n7), (.int .u32 n8), (.int .u8 n9), (.int .u8 n10), (.int .u8 n11), (.int .u8 n12), (.int .u8 n13), (.int .u8 n14), (.int .u8 n15)])) ∧
   (X.Kept L3 w2 w5) ∧
   (X.FactsW x1 w5 (L3)) ∧
   X.CallX Try.prog 28 #[(.slice (a_19) a_19l a_19c)] w5 fun e16 w17 =>
    ∃ q18 : Option Addr, ∃ k19 : Nat, ∃ k20 : Nat, (e16 = .returned (.slice (q18) k19 k20)) ∧
    (X.Kept L3 w5 w17) ∧
    (X.FactsW x1 w17 (L3)) ∧
    X.CallX Try.prog 29 #[(.agg #[(.int .u8 a_20), (.string a_21)])] w17 fun e21 w22 =>
     ∃ n23 : Int, ∃ s24 : ByteArray, (e21 = .returned (.agg #[(.int .u8 n23), (.string s24)])) ∧
     (X.Kept L3 w17 w22) ∧
     (X.FactsW x1 w22 (L3)) ∧
     X.CallX Try.prog 30 #[(.agg #[(.int .u8 a_22), (.int .u32 a_23), (.slice (a_24) a_24l a_24c)])] w22 fun e25 w26 =>
      ∃ n27 : Int, ∃ n28 : Int, ∃ q29 : Option Addr, ∃ k30 : Nat, ∃ k31 : Nat, (e25 = .returned (.agg #[(.int .u8 n27), (.int .u32 n28), (.slice (q29) k30 k31)])) ∧
      (X.Kept L3 w22 w26) ∧
      (X.FactsW x1 w26 (L3)) ∧
      X.CallX Try.prog 31 #[(.agg #[(.int .u8 a_25), (.int .u16 a_26)])] w26 fun e32 w33 =>
       ∃ n34 : Int, ∃ n35 : Int, (e32 = .returned (.agg #[(.int .u8 n34), (.int .u16 n35)])) ∧
       (X.Kept L3 w26 w33) ∧
       (X.FactsW x1 w33 (L3)) ∧
       X.CallX Try.prog 32 #[(.slice (a_28) a_28l a_28c)] w33 fun e36 w37 =>
        ∃ q38 : Option Addr, ∃ k39 : Nat, ∃ k40 : Nat, (e36 = .returned (.slice (q38) k39 k40)) ∧
        (X.Kept L3 w33 w37) ∧
        (X.FactsW x1 w37 (L3)) ∧
        X.CallX Try.prog 33 #[(.slice (a_29) a_29l a_29c)] w37 fun e41 w42 =>
         ∃ q43 : Option Addr, ∃ k44 : Nat, ∃ k45 : Nat, (e41 = .returned (.slice (q43) k44 k45)) ∧
         (X.Kept L3 w37 w42) ∧
         (X.FactsW x1 w42 (L3)) ∧
         X.CallX Try.prog 33 #[(.slice (a_30) a_30l a_30c)] w42 fun e46 w47 =>
          ∃ q48 : Option Addr, ∃ k49 : Nat, ∃ k50 : Nat, (e46 = .returned (.slice (q48) k49 k50)) ∧
          (X.Kept L3 w42 w47) ∧
          (X.FactsW x1 w47 (L3)) ∧
          ∀ w51 : World, (X.Hid (L3) w47 w51) →
          R (.returned (.agg #[(.int .u8 a_0), (.int .u8 a_1), (.int .u8 a_2), (.int .u32 a_3), (.int .u32 a_4), (.int .u32 a_5), (.int .u32 a_6), (.int .u64 a_7), (.int .u64 a_8), (.int .u8 n6), (.int .u16 n7), (.int .u32 n8), (.int .u8 n9), (.int .u8 n10), (.int .u8 n11), (.int .u8 n12), (.int .u8 n13), (.int .u8 n14), (.int .u8 n15), (.slice (q18) k19 k20), (.int .u8 n23), (.string s24), (.int .u8 n27), (.int .u32 n28), (.slice (q29) k30 k31), (.int .u8 n34), (.int .u16 n35), (.bool a_27), (.slice (q38) k39 k40), (.slice (q43) k44 k45), (.slice (q48) k49 k50)])) w51) :
    Calls Try.prog 9 #[.agg #[.int .u8 a_0, .int .u8 a_1, .int .u8 a_2, .int .u32 a_3, .int .u32 a_4, .int .u32 a_5, .int .u32 a_6, .int .u64 a_7, .int .u64 a_8, .int .u8 a_9, .int .u16 a_10, .int .u32 a_11, .int .u8 a_12, .int .u8 a_13, .int .u8 a_14, .int .u8 a_15, .int .u8 a_16, .int .u8 a_17, .int .u8 a_18, .slice a_19 a_19l a_19c, .int .u8 a_20, .string a_21, .int .u8 a_22, .int .u32 a_23, .slice a_24 a_24l a_24c, .int .u8 a_25, .int .u16 a_26, .bool a_27, .slice a_28 a_28l a_28c, .slice a_29 a_29l a_29c, .slice a_30 a_30l a_30c]] w R :=
  X.calls_of { isLoc := [1, 2], sym := [], loops := [], joins := [], stored := [(1, [2])] } Try.func9 (by kernel_rfl) h
abbrev fn_Light7 : Nat := 7
theorem x_Light7 (a_0 a_1 a_2 a_3 a_4 a_5 a_6 a_7 a_8 a_9 a_10 a_11 a_12 a_13 a_14 a_15 a_16 a_17 a_18 : Int) (a_19 : Option Addr) (a_19l a_19c : Nat) (a_20 : Int) (a_21 : ByteArray) (a_22 a_23 : Int) (a_24 : Option Addr) (a_24l a_24c : Nat) (a_25 a_26 : Int) (a_27 : Bool) (a_28 : Option Addr) (a_28l a_28c : Nat) (a_29 : Option Addr) (a_29l a_29c : Nat) (a_30 : Option Addr) (a_30l a_30c : Nat) (w : World) (R : Ending → World → Prop) (h :
  ∀ w1 : World, ∀ L2 : List Nat, (X.Hid [] w w1) →
  (X.NewL (w).heap.size [] w w1 L2) →
  X.CallX Try.prog 25 #[(.slice (a_19) a_19l a_19c)] w1 fun e3 w4 =>
   ∃ b5 : Bool, (e3 = .returned (.bool b5)) ∧
   (X.Kept L2 w1 w4) ∧
   if ((((b5 && decide ((((a_21.size) : Nat) : Int) ≤ 2000)) && decide (((a_24l : Nat) : Int) ≤ 40)) && decide (((a_28l : Nat) : Int) ≤ 40)) == true) = true then
    X.CallX Try.prog 16 #[(.slice (a_29) a_29l a_29c)] w4 fun e6 w7 =>
     ∃ b8 : Bool, (e6 = .returned (.bool b8)) ∧
     (X.Kept L2 w4 w7) ∧
     if ((true && b8) == true) = true then
      X.CallX Try.prog 16 #[(.slice (a_30) a_30l a_30c)] w7 fun e9 w10 =>
       ∃ b11 : Bool, (e9 = .returned (.bool b11)) ∧
       (X.Kept L2 w7 w10) ∧
       R (.returned (.bool (true && b11))) w10
     else
      R (.returned (.bool false)) w7
   else
    R (.returned (.bool false)) w4) :
    Calls Try.prog 7 #[.agg #[.int .u8 a_0, .int .u8 a_1, .int .u8 a_2, .int .u32 a_3, .int .u32 a_4, .int .u32 a_5, .int .u32 a_6, .int .u64 a_7, .int .u64 a_8, .int .u8 a_9, .int .u16 a_10, .int .u32 a_11, .int .u8 a_12, .int .u8 a_13, .int .u8 a_14, .int .u8 a_15, .int .u8 a_16, .int .u8 a_17, .int .u8 a_18, .slice a_19 a_19l a_19c, .int .u8 a_20, .string a_21, .int .u8 a_22, .int .u32 a_23, .slice a_24 a_24l a_24c, .int .u8 a_25, .int .u16 a_26, .bool a_27, .slice a_28 a_28l a_28c, .slice a_29 a_29l a_29c, .slice a_30 a_30l a_30c]] w R :=
  X.calls_of { isLoc := [1], sym := [], loops := [], joins := [] } Try.func7 (by kernel_rfl) h
end Go.Proofs
