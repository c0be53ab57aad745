import Derived.Test.YtdmiblfckigjoaaDoorXFn
import Derived.Test.YtdmiblfckigjoaaDoorProg
/- The verification conditions of this seat's functions, as the engine has them: printed by a program of the bench; checked by the kernel. -/
set_option maxRecDepth 100000
set_option linter.unusedVariables false
namespace Go.Proofs
open Go
abbrev fn_gemotlaw02_Proc : Nat := 25
theorem x_gemotlaw02_Proc (a_0 a_1 : Int) (w : World) (R : Ending → World → Prop) (h :
  ∀ w1 : World, (X.Hid [] w w1) →
  R (.returned (.agg #[(.int .u8 a_0), (.int .u16 a_1)])) w1) :
    Calls Tryd.prog 25 #[.agg #[.int .u8 a_0, .int .u16 a_1]] w R :=
  X.calls_of { isLoc := [1, 2], sym := [], loops := [], joins := [] } Tryd.func25 (by kernel_rfl) h
abbrev fn_gemotlaw02_ID : Nat := 21
theorem x_gemotlaw02_ID (a_0 a_1 a_2 a_3 a_4 a_5 a_6 a_7 a_8 a_9 : Int) (w : World) (R : Ending → World → Prop) (h :
  ∃ x1 : X.Facts, (X.FactsW x1 w []) ∧
  (∀ w2 : World, ∀ L3 : List Nat, (X.Hid [] w w2) →
   (X.NewL (w).heap.size [] w w2 L3) →
   X.CallX Tryd.prog 25 #[(.agg #[(.int .u8 a_0), (.int .u16 a_1)])] w2 fun e4 w5 =>
    ∃ n6 : Int, ∃ n7 : Int, (e4 = .returned (.agg #[(.int .u8 n6), (.int .u16 n7)])) ∧
    (X.Kept L3 w2 w5) ∧
    (X.FactsW x1 w5 (L3)) ∧
    ∃ x8 : X.Facts, (X.FactsW x8 w5 (L3)) ∧
    ∃ x9 : X.Facts, (X.FactsW x9 w5 (L3)) ∧
    ∃ x10 : X.Facts, (X.FactsW x10 w5 (L3)) ∧
    ∀ w11 : World, (X.Hid (L3) w5 w11) →
    R (.returned (.agg #[(.int .u8 n6), (.int .u16 n7), (.int .u32 a_2), (.int .u8 a_3), (.int .u8 a_4), (.int .u8 a_5), (.int .u8 a_6), (.int .u8 a_7), (.int .u8 a_8), (.int .u8 a_9)])) w11) ∧
  ∀ w12 : World, ∀ L13 : List Nat, (X.Hid [] w w12) →
  (X.NewL (w).heap.size [] w w12 L13) →
  X.CallX Tryd.prog 25 #[(.agg #[(.int .u8 a_0), (.int .u16 a_1)])] w12 fun e14 w15 =>
   ∃ n16 : Int, ∃ n17 : Int, (e14 = .returned (.agg #[(.int .u8 n16), (.int .u16 n17)])) ∧
   (X.Kept L13 w12 w15) ∧
   (X.FactsW x1 w15 (L13)) ∧
   ∃ x18 : X.Facts, (X.FactsW x18 w15 (L13)) ∧
   ∃ x19 : X.Facts, (X.FactsW x19 w15 (L13)) ∧
   ∃ x20 : X.Facts, (X.FactsW x20 w15 (L13)) ∧
   ∀ w21 : World, (X.Hid (L13) w15 w21) →
   R (.returned (.agg #[(.int .u8 n16), (.int .u16 n17), (.int .u32 a_2), (.int .u8 a_3), (.int .u8 a_4), (.int .u8 a_5), (.int .u8 a_6), (.int .u8 a_7), (.int .u8 a_8), (.int .u8 a_9)])) w21) :
    Calls Tryd.prog 21 #[.agg #[.int .u8 a_0, .int .u16 a_1, .int .u32 a_2, .int .u8 a_3, .int .u8 a_4, .int .u8 a_5, .int .u8 a_6, .int .u8 a_7, .int .u8 a_8, .int .u8 a_9]] w R :=
  X.calls_of { isLoc := [1, 2, 3], sym := [], loops := [(3, .unroll 4)], joins := [], stored := [(1, [3]), (5, [3])] } Tryd.func21 (by kernel_rfl) h
abbrev fn_gemotlaw03_Res : Nat := 23
theorem x_gemotlaw03_Res (a_0 : Int) (a_1 : ByteArray) (w : World) (R : Ending → World → Prop) (h :
  ∀ w1 : World, (X.Hid [] w w1) →
  R (.returned (.agg #[(.int .u8 a_0), (.string a_1)])) w1) :
    Calls Tryd.prog 23 #[.agg #[.int .u8 a_0, .string a_1]] w R :=
  X.calls_of { isLoc := [1, 2], sym := [], loops := [], joins := [] } Tryd.func23 (by kernel_rfl) h
abbrev fn_Part : Nat := 55
theorem x_Part (a_0 a_1 : Int) (a_2 a_3 : ByteArray) (a_4 : Int) (w : World) (R : Ending → World → Prop) (h :
  ∀ w1 : World, (X.Hid [] w w1) →
  R (.returned (.agg #[(.int .u8 a_0), (.int .u8 a_1), (.string a_2), (.string a_3), (.int .i64 a_4)])) w1) :
    Calls Tryd.prog 55 #[.agg #[.int .u8 a_0, .int .u8 a_1, .string a_2, .string a_3, .int .i64 a_4]] w R :=
  X.calls_of { isLoc := [1, 2], sym := [], loops := [], joins := [] } Tryd.func55 (by kernel_rfl) h
abbrev fn_Parts : Nat := 22
theorem x_Parts (a : Option Addr) (al ac : Nat) (w : World) (R : Ending → World → Prop) (h :
  ∃ x1 : Option Addr → Nat → Nat → Int → World → List Nat → Prop, ∃ x2 : Option Addr → Nat → Nat → Int → World → Nat, (x1 (none) 0 0 0 w []) ∧
  ∀ q3 : Option Addr, ∀ k4 : Nat, ∀ k5 : Nat, ∀ n6 : Int, ∀ w7 : World, ∀ L8 : List Nat, (X.LF (w).heap.size w7 L8) →
  (x1 q3 k4 k5 n6 w7 L8) →
  if (decide (n6 < ((al : Nat) : Int))) = true then
   ((0 : Int) ≤ n6) ∧
   (n6 < ((al : Nat) : Int)) ∧
   X.onSome (a) fun p9 =>
   ∃ n10 : Int, ∃ n11 : Int, ∃ s12 : ByteArray, ∃ s13 : ByteArray, ∃ n14 : Int, (X.Cells w7 (p9.add ((n6).toNat * 5)) [(.int .u8 n10), (.int .u8 n11), (.string s12), (.string s13), (.int .i64 n14)]) ∧
   X.CallX Tryd.prog 55 #[(.agg #[(.int .u8 n10), (.int .u8 n11), (.string s12), (.string s13), (.int .i64 n14)])] w7 fun e15 w16 =>
    ∃ n17 : Int, ∃ n18 : Int, ∃ s19 : ByteArray, ∃ s20 : ByteArray, ∃ n21 : Int, (e15 = .returned (.agg #[(.int .u8 n17), (.int .u8 n18), (.string s19), (.string s20), (.int .i64 n21)])) ∧
    ((w7).heap.size ≤ (w16).heap.size) ∧
    ∃ q22 : Option Addr, ∃ k23 : Nat, ∃ k24 : Nat, ∃ w25 : World, (Sem.run Tryd.prog (Go.Builtin.append_ #[45, 45] 45 #[(.slice (q3) k4 k5), (.slice (some ⟨(w16).heap.size, 0, none⟩) 1 1)]) (w16.alloc (.cells #[(.int .u8 n17), (.int .u8 n18), (.string s19), (.string s20), (.int .i64 n21)] 56)) = .ok (.slice (q22) k23 k24) w25) ∧
    (((w16.alloc (.cells #[(.int .u8 n17), (.int .u8 n18), (.string s19), (.string s20), (.int .i64 n21)] 56))).heap.size ≤ (w25).heap.size) ∧
    (x1 q22 k23 k24 (IntKind.wrap .i64 (n6 + 1)) w25 []) ∧
    Nat.le ((x2 q22 k23 k24 (IntKind.wrap .i64 (n6 + 1)) w25) + 1) (x2 q3 k4 k5 n6 w7)
  else
   R (.returned (.slice (q3) k4 k5)) w7) :
    Calls Tryd.prog 22 #[.slice a al ac] w R :=
  X.calls_of { isLoc := [], sym := [], loops := [(3, .inv [(3, .slice), (4, .int .i64)] [] true)], joins := [] } Tryd.func22 (by kernel_rfl) h
abbrev fn_OwnW : Nat := 24
theorem x_OwnW (a : Option Addr) (al ac : Nat) (w : World) (R : Ending → World → Prop) (h :
  ∃ x1 : Option Addr → Nat → Nat → Int → World → List Nat → Prop, ∃ x2 : Option Addr → Nat → Nat → Int → World → Nat, (x1 (none) 0 0 0 w []) ∧
  ∀ q3 : Option Addr, ∀ k4 : Nat, ∀ k5 : Nat, ∀ n6 : Int, ∀ w7 : World, ∀ L8 : List Nat, (X.LF (w).heap.size w7 L8) →
  (x1 q3 k4 k5 n6 w7 L8) →
  if (decide (n6 < ((al : Nat) : Int))) = true then
   ∃ x9 : X.Facts, (X.FactsW x9 w7 []) ∧
   ((0 : Int) ≤ n6) ∧
   (n6 < ((al : Nat) : Int)) ∧
   X.onSome (a) fun p10 =>
   ∃ s11 : ByteArray, ((((p10.add ((n6).toNat * 3)).add 0), [(.string s11)]) ∈ x9) ∧
   ((0 : Int) ≤ n6) ∧
   (n6 < ((al : Nat) : Int)) ∧
   X.onSome (a) fun p12 =>
   ∃ s13 : ByteArray, ((((p12.add ((n6).toNat * 3)).add 1), [(.string s13)]) ∈ x9) ∧
   ((0 : Int) ≤ n6) ∧
   (n6 < ((al : Nat) : Int)) ∧
   X.onSome (a) fun p14 =>
   ∃ b15 : Bool, ((((p14.add ((n6).toNat * 3)).add 2), [(.bool b15)]) ∈ x9) ∧
   ∀ w16 : World, (X.Hid [] w7 w16) →
   (X.FactsW x9 (w16.alloc (.cells #[(.string s11), (.string s13), (.bool b15)] 58)) []) ∧
   ∃ q17 : Option Addr, ∃ k18 : Nat, ∃ k19 : Nat, ∃ w20 : World, (Sem.run Tryd.prog (Go.Builtin.append_ #[47, 47] 47 #[(.slice (q3) k4 k5), (.slice (some ⟨(w16).heap.size, 0, none⟩) 1 1)]) (w16.alloc (.cells #[(.string s11), (.string s13), (.bool b15)] 58)) = .ok (.slice (q17) k18 k19) w20) ∧
   (((w16.alloc (.cells #[(.string s11), (.string s13), (.bool b15)] 58))).heap.size ≤ (w20).heap.size) ∧
   (X.FactsW x9 w20 []) ∧
   (x1 q17 k18 k19 (IntKind.wrap .i64 (n6 + 1)) w20 []) ∧
   Nat.le ((x2 q17 k18 k19 (IntKind.wrap .i64 (n6 + 1)) w20) + 1) (x2 q3 k4 k5 n6 w7)
  else
   R (.returned (.slice (q3) k4 k5)) w7) :
    Calls Tryd.prog 24 #[.slice a al ac] w R :=
  X.calls_of { isLoc := [], sym := [], loops := [(3, .inv [(3, .slice), (4, .int .i64)] [] true)], joins := [] } Tryd.func24 (by kernel_rfl) h
abbrev fn_OwnE : Nat := 8
theorem x_OwnE (a_0 a_1 a_2 a_3 a_4 a_5 a_6 a_7 a_8 a_9 a_10 a_11 : Int) (a_12 : Option Addr) (a_12l a_12c : Nat) (a_13 : Int) (a_14 : ByteArray) (a_15 : Option Addr) (a_15l a_15c : Nat) (a_16 a_17 : Int) (w : World) (R : Ending → World → Prop) (h :
  ∃ x1 : X.Facts, (X.FactsW x1 w []) ∧
  ∀ w2 : World, ∀ L3 : List Nat, (X.Hid [] w w2) →
  (X.NewL (w).heap.size [] w w2 L3) →
  X.CallX Tryd.prog 21 #[(.agg #[(.int .u8 a_1), (.int .u16 a_2), (.int .u32 a_3), (.int .u8 a_4), (.int .u8 a_5), (.int .u8 a_6), (.int .u8 a_7), (.int .u8 a_8), (.int .u8 a_9), (.int .u8 a_10)])] w2 fun e4 w5 =>
   ∃ n6 : Int, ∃ n7 : Int, ∃ n8 : Int, ∃ n9 : Int, ∃ n10 : Int, ∃ n11 : Int, ∃ n12 : Int, ∃ n13 : Int, ∃ n14 : Int, ∃ n15 : Int, (e4 = .returned (.agg #[(.int .u8 n6), (.int .u16 n7), (.int .u32 n8), (.int .u8 n9), (.int .u8 n10), (.int .u8 n11), (.int .u8 n12), (.int .u8 n13), (.int .u8 n14), (.int .u8 n15)])) ∧
   (X.Kept L3 w2 w5) ∧
   (X.FactsW x1 w5 (L3)) ∧
   X.CallX Tryd.prog 22 #[(.slice (a_12) a_12l a_12c)] w5 fun e16 w17 =>
    ∃ q18 : Option Addr, ∃ k19 : Nat, ∃ k20 : Nat, (e16 = .returned (.slice (q18) k19 k20)) ∧
    (X.Kept L3 w5 w17) ∧
    (X.FactsW x1 w17 (L3)) ∧
    X.CallX Tryd.prog 23 #[(.agg #[(.int .u8 a_13), (.string a_14)])] w17 fun e21 w22 =>
     ∃ n23 : Int, ∃ s24 : ByteArray, (e21 = .returned (.agg #[(.int .u8 n23), (.string s24)])) ∧
     (X.Kept L3 w17 w22) ∧
     (X.FactsW x1 w22 (L3)) ∧
     X.CallX Tryd.prog 24 #[(.slice (a_15) a_15l a_15c)] w22 fun e25 w26 =>
      ∃ q27 : Option Addr, ∃ k28 : Nat, ∃ k29 : Nat, (e25 = .returned (.slice (q27) k28 k29)) ∧
      (X.Kept L3 w22 w26) ∧
      (X.FactsW x1 w26 (L3)) ∧
      X.CallX Tryd.prog 25 #[(.agg #[(.int .u8 a_16), (.int .u16 a_17)])] w26 fun e30 w31 =>
       ∃ n32 : Int, ∃ n33 : Int, (e30 = .returned (.agg #[(.int .u8 n32), (.int .u16 n33)])) ∧
       (X.Kept L3 w26 w31) ∧
       (X.FactsW x1 w31 (L3)) ∧
       ∀ w34 : World, (X.Hid (L3) w31 w34) →
       R (.returned (.agg #[(.int .u8 a_0), (.int .u8 n6), (.int .u16 n7), (.int .u32 n8), (.int .u8 n9), (.int .u8 n10), (.int .u8 n11), (.int .u8 n12), (.int .u8 n13), (.int .u8 n14), (.int .u8 n15), (.int .u32 a_11), (.slice (q18) k19 k20), (.int .u8 n23), (.string s24), (.slice (q27) k28 k29), (.int .u8 n32), (.int .u16 n33)])) w34) :
    Calls Tryd.prog 8 #[.agg #[.int .u8 a_0, .int .u8 a_1, .int .u16 a_2, .int .u32 a_3, .int .u8 a_4, .int .u8 a_5, .int .u8 a_6, .int .u8 a_7, .int .u8 a_8, .int .u8 a_9, .int .u8 a_10, .int .u32 a_11, .slice a_12 a_12l a_12c, .int .u8 a_13, .string a_14, .slice a_15 a_15l a_15c, .int .u8 a_16, .int .u16 a_17]] w R :=
  X.calls_of { isLoc := [1, 2], sym := [], loops := [], joins := [], stored := [(1, [2])] } Tryd.func8 (by kernel_rfl) h
abbrev fn_CloneP : Nat := 37
theorem x_CloneP (a : Option Addr) (al ac : Nat) (w : World) (R : Ending → World → Prop) (h :
  if (a.isNone) = true then
   R (.returned (.slice none 0 0)) w
  else
   ∃ q1 : Option Addr, ∃ k2 : Nat, ∃ k3 : Nat, ∃ w4 : World, (Sem.run Tryd.prog (Go.Builtin.append_ #[45, 45] 45 #[(.slice (some ⟨(w).heap.size, 0, none⟩) 0 0), (.slice (a) al ac)]) (w.alloc (.cells #[] 56)) = .ok (.slice (q1) k2 k3) w4) ∧
   (((w.alloc (.cells #[] 56))).heap.size ≤ (w4).heap.size) ∧
   R (.returned (.slice (q1) k2 k3)) w4) :
    Calls Tryd.prog 37 #[.slice a al ac] w R :=
  X.calls_of { isLoc := [], sym := [], loops := [], joins := [] } Tryd.func37 (by kernel_rfl) h
abbrev fn_CloneW : Nat := 38
theorem x_CloneW (a : Option Addr) (al ac : Nat) (w : World) (R : Ending → World → Prop) (h :
  if (a.isNone) = true then
   R (.returned (.slice none 0 0)) w
  else
   ∃ q1 : Option Addr, ∃ k2 : Nat, ∃ k3 : Nat, ∃ w4 : World, (Sem.run Tryd.prog (Go.Builtin.append_ #[47, 47] 47 #[(.slice (some ⟨(w).heap.size, 0, none⟩) 0 0), (.slice (a) al ac)]) (w.alloc (.cells #[] 58)) = .ok (.slice (q1) k2 k3) w4) ∧
   (((w.alloc (.cells #[] 58))).heap.size ≤ (w4).heap.size) ∧
   R (.returned (.slice (q1) k2 k3)) w4) :
    Calls Tryd.prog 38 #[.slice a al ac] w R :=
  X.calls_of { isLoc := [], sym := [], loops := [], joins := [] } Tryd.func38 (by kernel_rfl) h
abbrev fn_EqualP : Nat := 58
theorem x_EqualP (a : Option Addr) (al ac : Nat) (b : Option Addr) (bl bc : Nat) (w : World) (R : Ending → World → Prop) (h :
  if (((al : Nat) : Int) != ((bl : Nat) : Int)) = true then
   R (.returned (.bool false)) w
  else
   ∃ x1 : Int → World → List Nat → Prop, ∃ x2 : Int → World → Nat, (x1 0 w []) ∧
   ∀ n3 : Int, ∀ w4 : World, ∀ L5 : List Nat, (X.LF (w).heap.size w4 L5) →
   (x1 n3 w4 L5) →
   if (decide (n3 < ((al : Nat) : Int))) = true then
    ((0 : Int) ≤ n3) ∧
    (n3 < ((al : Nat) : Int)) ∧
    X.onSome (a) fun p6 =>
    ∃ n7 : Int, ∃ n8 : Int, ∃ s9 : ByteArray, ∃ s10 : ByteArray, ∃ n11 : Int, (X.Cells w4 (p6.add ((n3).toNat * 5)) [(.int .u8 n7), (.int .u8 n8), (.string s9), (.string s10), (.int .i64 n11)]) ∧
    ((0 : Int) ≤ n3) ∧
    (n3 < ((bl : Nat) : Int)) ∧
    X.onSome (b) fun p12 =>
    ∃ n13 : Int, ∃ n14 : Int, ∃ s15 : ByteArray, ∃ s16 : ByteArray, ∃ n17 : Int, (X.Cells w4 (p12.add ((n3).toNat * 5)) [(.int .u8 n13), (.int .u8 n14), (.string s15), (.string s16), (.int .i64 n17)]) ∧
    if (!((n7 == n13) && ((n8 == n14) && ((s9 == s15) && ((s10 == s16) && (n11 == n17)))))) = true then
     ∀ w19 : World, (X.Hid [] w4 w19) →
     R (.returned (.bool false)) w19
    else
     ∀ w18 : World, (X.Hid [] w4 w18) →
     (x1 (IntKind.wrap .i64 (n3 + 1)) w18 []) ∧
     Nat.le ((x2 (IntKind.wrap .i64 (n3 + 1)) w18) + 1) (x2 n3 w4)
   else
    R (.returned (.bool true)) w4) :
    Calls Tryd.prog 58 #[.slice a al ac, .slice b bl bc] w R :=
  X.calls_of { isLoc := [], sym := [], loops := [(4, .inv [(13, .int .i64)] [] true)], joins := [] } Tryd.func58 (by kernel_rfl) h
abbrev fn_EqualW : Nat := 40
theorem x_EqualW (a : Option Addr) (al ac : Nat) (b : Option Addr) (bl bc : Nat) (w : World) (R : Ending → World → Prop) (h :
  if (((al : Nat) : Int) != ((bl : Nat) : Int)) = true then
   R (.returned (.bool false)) w
  else
   ∃ x1 : Int → World → List Nat → Prop, ∃ x2 : Int → World → Nat, (x1 0 w []) ∧
   ∀ n3 : Int, ∀ w4 : World, ∀ L5 : List Nat, (X.LF (w).heap.size w4 L5) →
   (x1 n3 w4 L5) →
   if (decide (n3 < ((al : Nat) : Int))) = true then
    ((0 : Int) ≤ n3) ∧
    (n3 < ((al : Nat) : Int)) ∧
    X.onSome (a) fun p6 =>
    ∃ s7 : ByteArray, ∃ s8 : ByteArray, ∃ b9 : Bool, (X.Cells w4 (p6.add ((n3).toNat * 3)) [(.string s7), (.string s8), (.bool b9)]) ∧
    ((0 : Int) ≤ n3) ∧
    (n3 < ((bl : Nat) : Int)) ∧
    X.onSome (b) fun p10 =>
    ∃ s11 : ByteArray, ∃ s12 : ByteArray, ∃ b13 : Bool, (X.Cells w4 (p10.add ((n3).toNat * 3)) [(.string s11), (.string s12), (.bool b13)]) ∧
    if (!((s7 == s11) && ((s8 == s12) && (b9 == b13)))) = true then
     ∀ w15 : World, (X.Hid [] w4 w15) →
     R (.returned (.bool false)) w15
    else
     ∀ w14 : World, (X.Hid [] w4 w14) →
     (x1 (IntKind.wrap .i64 (n3 + 1)) w14 []) ∧
     Nat.le ((x2 (IntKind.wrap .i64 (n3 + 1)) w14) + 1) (x2 n3 w4)
   else
    R (.returned (.bool true)) w4) :
    Calls Tryd.prog 40 #[.slice a al ac, .slice b bl bc] w R :=
  X.calls_of { isLoc := [], sym := [], loops := [(4, .inv [(13, .int .i64)] [] true)], joins := [] } Tryd.func40 (by kernel_rfl) h
abbrev fn_pSame : Nat := 39
theorem x_pSame (a : Option Addr) (al ac : Nat) (b : Option Addr) (bl bc : Nat) (w : World) (R : Ending → World → Prop) (h :
  X.CallX Tryd.prog 58 #[(.slice (a) al ac), (.slice (b) bl bc)] w fun e1 w2 =>
   ∃ b3 : Bool, (e1 = .returned (.bool b3)) ∧
   ((w).heap.size ≤ (w2).heap.size) ∧
   R (.returned (.bool b3)) w2) :
    Calls Tryd.prog 39 #[.slice a al ac, .slice b bl bc] w R :=
  X.calls_of { isLoc := [], sym := [], loops := [], joins := [] } Tryd.func39 (by kernel_rfl) h
abbrev fn_eSame : Nat := 12
theorem x_eSame (a_0 a_1 a_2 a_3 a_4 a_5 a_6 a_7 a_8 a_9 a_10 a_11 : Int) (a_12 : Option Addr) (a_12l a_12c : Nat) (a_13 : Int) (a_14 : ByteArray) (a_15 : Option Addr) (a_15l a_15c : Nat) (a_16 a_17 b_0 b_1 b_2 b_3 b_4 b_5 b_6 b_7 b_8 b_9 b_10 b_11 : Int) (b_12 : Option Addr) (b_12l b_12c : Nat) (b_13 : Int) (b_14 : ByteArray) (b_15 : Option Addr) (b_15l b_15c : Nat) (b_16 b_17 : Int) (w : World) (R : Ending → World → Prop) (h :
  if ((((a_0 == b_0) && (((a_1 == b_1) && (a_2 == b_2)) && ((a_3 == b_3) && ((a_4 == b_4) && (((a_5 == b_5) && (a_6 == b_6)) && (((a_7 == b_7) && (a_8 == b_8)) && ((a_9 == b_9) && (a_10 == b_10)))))))) && (a_11 == b_11)) == true) = true then
   ∀ w2 : World, ∀ L3 : List Nat, (X.Hid [] w w2) →
   (X.NewL (w).heap.size [] w w2 L3) →
   X.CallX Tryd.prog 39 #[(.slice (a_12) a_12l a_12c), (.slice (b_12) b_12l b_12c)] w2 fun e4 w5 =>
    ∃ b6 : Bool, (e4 = .returned (.bool b6)) ∧
    (X.Kept L3 w2 w5) ∧
    if (((true && b6) && ((a_13 == b_13) && (a_14 == b_14))) == true) = true then
     X.CallX Tryd.prog 40 #[(.slice (a_15) a_15l a_15c), (.slice (b_15) b_15l b_15c)] w5 fun e7 w8 =>
      ∃ b9 : Bool, (e7 = .returned (.bool b9)) ∧
      (X.Kept L3 w5 w8) ∧
      R (.returned (.bool ((true && b9) && ((a_16 == b_16) && (a_17 == b_17))))) w8
    else
     R (.returned (.bool (false && ((a_16 == b_16) && (a_17 == b_17))))) w5
  else
   ∀ w1 : World, (X.Hid [] w w1) →
   R (.returned (.bool (false && ((a_16 == b_16) && (a_17 == b_17))))) w1) :
    Calls Tryd.prog 12 #[.agg #[.int .u8 a_0, .int .u8 a_1, .int .u16 a_2, .int .u32 a_3, .int .u8 a_4, .int .u8 a_5, .int .u8 a_6, .int .u8 a_7, .int .u8 a_8, .int .u8 a_9, .int .u8 a_10, .int .u32 a_11, .slice a_12 a_12l a_12c, .int .u8 a_13, .string a_14, .slice a_15 a_15l a_15c, .int .u8 a_16, .int .u16 a_17], .agg #[.int .u8 b_0, .int .u8 b_1, .int .u16 b_2, .int .u32 b_3, .int .u8 b_4, .int .u8 b_5, .int .u8 b_6, .int .u8 b_7, .int .u8 b_8, .int .u8 b_9, .int .u8 b_10, .int .u32 b_11, .slice b_12 b_12l b_12c, .int .u8 b_13, .string b_14, .slice b_15 b_15l b_15c, .int .u8 b_16, .int .u16 b_17]] w R :=
  X.calls_of { isLoc := [2, 3], sym := [], loops := [], joins := [] } Tryd.func12 (by kernel_rfl) h
abbrev fn_r3Same : Nat := 41
theorem x_r3Same (a : Option Addr) (al ac : Nat) (b : Option Addr) (bl bc : Nat) (w : World) (R : Ending → World → Prop) (h :
  if (((al : Nat) : Int) != ((bl : Nat) : Int)) = true then
   R (.returned (.bool false)) w
  else
   ∃ x1 : Int → World → List Nat → Prop, ∃ x2 : Int → World → Nat, (x1 0 w []) ∧
   ∀ n3 : Int, ∀ w4 : World, ∀ L5 : List Nat, (X.LF (w).heap.size w4 L5) →
   (x1 n3 w4 L5) →
   if (decide (n3 < ((al : Nat) : Int))) = true then
    ((0 : Int) ≤ n3) ∧
    (n3 < ((al : Nat) : Int)) ∧
    X.onSome (a) fun p6 =>
    ∃ n7 : Int, ∃ n8 : Int, ∃ s9 : ByteArray, ∃ s10 : ByteArray, ∃ n11 : Int, (X.Cells w4 (p6.add ((n3).toNat * 5)) [(.int .u8 n7), (.int .u8 n8), (.string s9), (.string s10), (.int .i64 n11)]) ∧
    ((0 : Int) ≤ n3) ∧
    (n3 < ((bl : Nat) : Int)) ∧
    X.onSome (b) fun p12 =>
    ∃ n13 : Int, ∃ n14 : Int, ∃ s15 : ByteArray, ∃ s16 : ByteArray, ∃ n17 : Int, (X.Cells w4 (p12.add ((n3).toNat * 5)) [(.int .u8 n13), (.int .u8 n14), (.string s15), (.string s16), (.int .i64 n17)]) ∧
    if (!((n7 == n13) && ((n8 == n14) && ((s9 == s15) && ((s10 == s16) && (n11 == n17)))))) = true then
     ∀ w19 : World, (X.Hid [] w4 w19) →
     R (.returned (.bool false)) w19
    else
     ∀ w18 : World, (X.Hid [] w4 w18) →
     (x1 (IntKind.wrap .i64 (n3 + 1)) w18 []) ∧
     Nat.le ((x2 (IntKind.wrap .i64 (n3 + 1)) w18) + 1) (x2 n3 w4)
   else
    R (.returned (.bool true)) w4) :
    Calls Tryd.prog 41 #[.slice a al ac, .slice b bl bc] w R :=
  X.calls_of { isLoc := [], sym := [], loops := [(4, .inv [(5, .int .i64)] [] true)], joins := [] } Tryd.func41 (by kernel_rfl) h
abbrev fn_r4Same : Nat := 42
theorem x_r4Same (a : Option Addr) (al ac : Nat) (b : Option Addr) (bl bc : Nat) (w : World) (R : Ending → World → Prop) (h :
  if (((al : Nat) : Int) != ((bl : Nat) : Int)) = true then
   R (.returned (.bool false)) w
  else
   ∃ x1 : Int → World → List Nat → Prop, ∃ x2 : Int → World → Nat, (x1 0 w []) ∧
   ∀ n3 : Int, ∀ w4 : World, ∀ L5 : List Nat, (X.LF (w).heap.size w4 L5) →
   (x1 n3 w4 L5) →
   if (decide (n3 < ((al : Nat) : Int))) = true then
    ((0 : Int) ≤ n3) ∧
    (n3 < ((al : Nat) : Int)) ∧
    X.onSome (a) fun p6 =>
    ∃ s7 : ByteArray, ∃ s8 : ByteArray, ∃ b9 : Bool, (X.Cells w4 (p6.add ((n3).toNat * 3)) [(.string s7), (.string s8), (.bool b9)]) ∧
    ((0 : Int) ≤ n3) ∧
    (n3 < ((bl : Nat) : Int)) ∧
    X.onSome (b) fun p10 =>
    ∃ s11 : ByteArray, ∃ s12 : ByteArray, ∃ b13 : Bool, (X.Cells w4 (p10.add ((n3).toNat * 3)) [(.string s11), (.string s12), (.bool b13)]) ∧
    if (!((s7 == s11) && ((s8 == s12) && (b9 == b13)))) = true then
     ∀ w15 : World, (X.Hid [] w4 w15) →
     R (.returned (.bool false)) w15
    else
     ∀ w14 : World, (X.Hid [] w4 w14) →
     (x1 (IntKind.wrap .i64 (n3 + 1)) w14 []) ∧
     Nat.le ((x2 (IntKind.wrap .i64 (n3 + 1)) w14) + 1) (x2 n3 w4)
   else
    R (.returned (.bool true)) w4) :
    Calls Tryd.prog 42 #[.slice a al ac, .slice b bl bc] w R :=
  X.calls_of { isLoc := [], sym := [], loops := [(4, .inv [(5, .int .i64)] [] true)], joins := [] } Tryd.func42 (by kernel_rfl) h
abbrev fn_r5Same : Nat := 13
theorem x_r5Same (a_0 a_1 a_2 a_3 a_4 a_5 a_6 a_7 a_8 a_9 a_10 a_11 : Int) (a_12 : Option Addr) (a_12l a_12c : Nat) (a_13 : Int) (a_14 : ByteArray) (a_15 : Option Addr) (a_15l a_15c : Nat) (a_16 a_17 b_0 b_1 b_2 b_3 b_4 b_5 b_6 b_7 b_8 b_9 b_10 b_11 : Int) (b_12 : Option Addr) (b_12l b_12c : Nat) (b_13 : Int) (b_14 : ByteArray) (b_15 : Option Addr) (b_15l b_15c : Nat) (b_16 b_17 : Int) (w : World) (R : Ending → World → Prop) (h :
  if ((((a_0 == b_0) && (((a_1 == b_1) && (a_2 == b_2)) && ((a_3 == b_3) && ((a_4 == b_4) && (((a_5 == b_5) && (a_6 == b_6)) && (((a_7 == b_7) && (a_8 == b_8)) && ((a_9 == b_9) && (a_10 == b_10)))))))) && (a_11 == b_11)) == true) = true then
   ∀ w2 : World, ∀ L3 : List Nat, (X.Hid [] w w2) →
   (X.NewL (w).heap.size [] w w2 L3) →
   X.CallX Tryd.prog 41 #[(.slice (a_12) a_12l a_12c), (.slice (b_12) b_12l b_12c)] w2 fun e4 w5 =>
    ∃ b6 : Bool, (e4 = .returned (.bool b6)) ∧
    (X.Kept L3 w2 w5) ∧
    if (((true && b6) && ((a_13 == b_13) && (a_14 == b_14))) == true) = true then
     X.CallX Tryd.prog 42 #[(.slice (a_15) a_15l a_15c), (.slice (b_15) b_15l b_15c)] w5 fun e7 w8 =>
      ∃ b9 : Bool, (e7 = .returned (.bool b9)) ∧
      (X.Kept L3 w5 w8) ∧
      R (.returned (.bool ((true && b9) && ((a_16 == b_16) && (a_17 == b_17))))) w8
    else
     R (.returned (.bool (false && ((a_16 == b_16) && (a_17 == b_17))))) w5
  else
   ∀ w1 : World, (X.Hid [] w w1) →
   R (.returned (.bool (false && ((a_16 == b_16) && (a_17 == b_17))))) w1) :
    Calls Tryd.prog 13 #[.agg #[.int .u8 a_0, .int .u8 a_1, .int .u16 a_2, .int .u32 a_3, .int .u8 a_4, .int .u8 a_5, .int .u8 a_6, .int .u8 a_7, .int .u8 a_8, .int .u8 a_9, .int .u8 a_10, .int .u32 a_11, .slice a_12 a_12l a_12c, .int .u8 a_13, .string a_14, .slice a_15 a_15l a_15c, .int .u8 a_16, .int .u16 a_17], .agg #[.int .u8 b_0, .int .u8 b_1, .int .u16 b_2, .int .u32 b_3, .int .u8 b_4, .int .u8 b_5, .int .u8 b_6, .int .u8 b_7, .int .u8 b_8, .int .u8 b_9, .int .u8 b_10, .int .u32 b_11, .slice b_12 b_12l b_12c, .int .u8 b_13, .string b_14, .slice b_15 b_15l b_15c, .int .u8 b_16, .int .u16 b_17]] w R :=
  X.calls_of { isLoc := [2, 3], sym := [], loops := [], joins := [] } Tryd.func13 (by kernel_rfl) h
abbrev fn_eClone : Nat := 11
theorem x_eClone (a_0 a_1 a_2 a_3 a_4 a_5 a_6 a_7 a_8 a_9 a_10 a_11 : Int) (a_12 : Option Addr) (a_12l a_12c : Nat) (a_13 : Int) (a_14 : ByteArray) (a_15 : Option Addr) (a_15l a_15c : Nat) (a_16 a_17 : Int) (w : World) (R : Ending → World → Prop) (h :
  ∃ x1 : X.Facts, (X.FactsW x1 w []) ∧
  ∀ w2 : World, ∀ L3 : List Nat, (X.Hid [] w w2) →
  (X.NewL (w).heap.size [] w w2 L3) →
  X.CallX Tryd.prog 37 #[(.slice (a_12) a_12l a_12c)] w2 fun e4 w5 =>
   ∃ q6 : Option Addr, ∃ k7 : Nat, ∃ k8 : Nat, (e4 = .returned (.slice (q6) k7 k8)) ∧
   (X.Kept L3 w2 w5) ∧
   (X.FactsW x1 w5 (L3)) ∧
   X.CallX Tryd.prog 38 #[(.slice (a_15) a_15l a_15c)] w5 fun e9 w10 =>
    ∃ q11 : Option Addr, ∃ k12 : Nat, ∃ k13 : Nat, (e9 = .returned (.slice (q11) k12 k13)) ∧
    (X.Kept L3 w5 w10) ∧
    (X.FactsW x1 w10 (L3)) ∧
    ∀ w14 : World, (X.Hid (L3) w10 w14) →
    R (.returned (.agg #[(.int .u8 a_0), (.int .u8 a_1), (.int .u16 a_2), (.int .u32 a_3), (.int .u8 a_4), (.int .u8 a_5), (.int .u8 a_6), (.int .u8 a_7), (.int .u8 a_8), (.int .u8 a_9), (.int .u8 a_10), (.int .u32 a_11), (.slice (q6) k7 k8), (.int .u8 a_13), (.string a_14), (.slice (q11) k12 k13), (.int .u8 a_16), (.int .u16 a_17)])) w14) :
    Calls Tryd.prog 11 #[.agg #[.int .u8 a_0, .int .u8 a_1, .int .u16 a_2, .int .u32 a_3, .int .u8 a_4, .int .u8 a_5, .int .u8 a_6, .int .u8 a_7, .int .u8 a_8, .int .u8 a_9, .int .u8 a_10, .int .u32 a_11, .slice a_12 a_12l a_12c, .int .u8 a_13, .string a_14, .slice a_15 a_15l a_15c, .int .u8 a_16, .int .u16 a_17]] w R :=
  X.calls_of { isLoc := [1, 2], sym := [], loops := [], joins := [] } Tryd.func11 (by kernel_rfl) h
abbrev fn_Light3 : Nat := 20
theorem x_Light3 (a : Option Addr) (al ac : Nat) (w : World) (R : Ending → World → Prop) (h :
  ∃ x1 : Int → Int → World → List Nat → Prop, ∃ x2 : Int → Int → World → Nat, (x1 3000 0 w []) ∧
  ∀ n3 : Int, ∀ n4 : Int, ∀ w5 : World, ∀ L6 : List Nat, (X.LF (w).heap.size w5 L6) →
  (x1 n3 n4 w5 L6) →
  if ((decide (n4 < ((al : Nat) : Int)) && decide (n4 < 300)) && decide (n3 ≥ 0)) = true then
   ((0 : Int) ≤ n4) ∧
   (n4 < ((al : Nat) : Int)) ∧
   X.onSome (a) fun p7 =>
   ∃ s8 : ByteArray, (World.cell? w5 ((p7.add ((n4).toNat * 5)).add 2) = some (.string s8)) ∧
   ((0 : Int) ≤ n4) ∧
   (n4 < ((al : Nat) : Int)) ∧
   X.onSome (a) fun p9 =>
   ∃ s10 : ByteArray, (World.cell? w5 ((p9.add ((n4).toNat * 5)).add 3) = some (.string s10)) ∧
   ∀ w11 : World, (X.Hid [] w5 w11) →
   (x1 (IntKind.wrap .i64 ((IntKind.wrap .i64 ((IntKind.wrap .i64 (n3 - 3)) - (if (4000 : Int) < (((s8.size) : Nat) : Int) then 4000 else (((s8.size) : Nat) : Int)))) - (if (4000 : Int) < (((s10.size) : Nat) : Int) then 4000 else (((s10.size) : Nat) : Int)))) (IntKind.wrap .i64 (n4 + 1)) w11 []) ∧
   Nat.le ((x2 (IntKind.wrap .i64 ((IntKind.wrap .i64 ((IntKind.wrap .i64 (n3 - 3)) - (if (4000 : Int) < (((s8.size) : Nat) : Int) then 4000 else (((s8.size) : Nat) : Int)))) - (if (4000 : Int) < (((s10.size) : Nat) : Int) then 4000 else (((s10.size) : Nat) : Int)))) (IntKind.wrap .i64 (n4 + 1)) w11) + 1) (x2 n3 n4 w5)
  else
   R (.returned (.bool (decide (n3 ≥ 0)))) w5) :
    Calls Tryd.prog 20 #[.slice a al ac] w R :=
  X.calls_of { isLoc := [], sym := [], loops := [(3, .inv [(3, .int .i64), (4, .int .i64)] [] true)], joins := [] } Tryd.func20 (by kernel_rfl) h
abbrev fn_Light5 : Nat := 6
theorem x_Light5 (a : Option Addr) (al ac : Nat) (w : World) (R : Ending → World → Prop) (h :
  ∃ x1 : Int → Int → World → List Nat → Prop, ∃ x2 : Int → Int → World → Nat, (x1 6000 0 w []) ∧
  ∀ n3 : Int, ∀ n4 : Int, ∀ w5 : World, ∀ L6 : List Nat, (X.LF (w).heap.size w5 L6) →
  (x1 n3 n4 w5 L6) →
  if ((decide (n4 < ((al : Nat) : Int)) && decide (n4 < 200)) && decide (n3 ≥ 0)) = true then
   ((0 : Int) ≤ n4) ∧
   (n4 < ((al : Nat) : Int)) ∧
   X.onSome (a) fun p7 =>
   ∃ n8 : Int, ∃ n9 : Int, ∃ n10 : Int, ∃ n11 : Int, ∃ n12 : Int, ∃ n13 : Int, ∃ n14 : Int, ∃ n15 : Int, ∃ n16 : Int, ∃ n17 : Int, ∃ n18 : Int, ∃ n19 : Int, ∃ q20 : Option Addr, ∃ k21 : Nat, ∃ k22 : Nat, ∃ n23 : Int, ∃ s24 : ByteArray, ∃ q25 : Option Addr, ∃ k26 : Nat, ∃ k27 : Nat, ∃ n28 : Int, ∃ n29 : Int, (X.Cells w5 (p7.add ((n4).toNat * 18)) [(.int .u8 n8), (.int .u8 n9), (.int .u16 n10), (.int .u32 n11), (.int .u8 n12), (.int .u8 n13), (.int .u8 n14), (.int .u8 n15), (.int .u8 n16), (.int .u8 n17), (.int .u8 n18), (.int .u32 n19), (.slice (q20) k21 k22), (.int .u8 n23), (.string s24), (.slice (q25) k26 k27), (.int .u8 n28), (.int .u16 n29)]) ∧
   ∀ w30 : World, ∀ L31 : List Nat, (X.Hid [] w5 w30) →
   (X.NewL (w).heap.size [] w5 w30 L31) →
   X.CallX Tryd.prog 20 #[(.slice (q20) k21 k22)] w30 fun e32 w33 =>
    ∃ b34 : Bool, (e32 = .returned (.bool b34)) ∧
    (X.Kept L31 w30 w33) ∧
    if ((!b34) || decide (((k26 : Nat) : Int) > 300)) = true then
     R (.returned (.bool false)) w33
    else
     ∃ x35 : Int → Int → World → List Nat → Prop, ∃ x36 : Int → Int → World → Nat, (x35 (IntKind.wrap .i64 ((IntKind.wrap .i64 ((IntKind.wrap .i64 (n3 - 10)) - (if (7000 : Int) < (((s24.size) : Nat) : Int) then 7000 else (((s24.size) : Nat) : Int)))) - (IntKind.wrap .i64 (30 * (if (200 : Int) < ((k21 : Nat) : Int) then 200 else ((k21 : Nat) : Int)))))) 0 w33 (L31)) ∧
     ∀ n37 : Int, ∀ n38 : Int, ∀ w39 : World, ∀ L40 : List Nat, (X.LF (w).heap.size w39 L40) →
     (x35 n37 n38 w39 L40) →
     if (decide (n38 < ((k26 : Nat) : Int))) = true then
      ((0 : Int) ≤ n38) ∧
      (n38 < ((k26 : Nat) : Int)) ∧
      X.onSome (q25) fun p41 =>
      ∃ s42 : ByteArray, (World.cell? w39 ((p41.add ((n38).toNat * 3)).add 0) = some (.string s42)) ∧
      (¬ ((((p41.add (n38.toNat * 3)).add 0).block) ∈ L40)) ∧
      ((0 : Int) ≤ n38) ∧
      (n38 < ((k26 : Nat) : Int)) ∧
      X.onSome (q25) fun p43 =>
      ∃ s44 : ByteArray, (World.cell? w39 ((p43.add ((n38).toNat * 3)).add 1) = some (.string s44)) ∧
      (¬ (((p43.add (n38.toNat * 3)).block) ∈ L40)) ∧
      ∀ w45 : World, ∀ L46 : List Nat, (X.Hid (L40) w39 w45) →
      (X.NewL (w).heap.size (L40) w39 w45 L46) →
      (([(.int .u8 n8), (.int .u8 n9), (.int .u16 n10), (.int .u32 n11), (.int .u8 n12), (.int .u8 n13), (.int .u8 n14), (.int .u8 n15), (.int .u8 n16), (.int .u8 n17), (.int .u8 n18), (.int .u32 n19), (.slice (q20) k21 k22), (.int .u8 n23), (.string s24), (.slice (q25) k26 k27), (.int .u8 n28), (.int .u16 n29)] : List Value) = [(.int .u8 n8), (.int .u8 n9), (.int .u16 n10), (.int .u32 n11), (.int .u8 n12), (.int .u8 n13), (.int .u8 n14), (.int .u8 n15), (.int .u8 n16), (.int .u8 n17), (.int .u8 n18), (.int .u32 n19), (.slice (q20) k21 k22), (.int .u8 n23), (.string s24), (.slice (q25) k26 k27), (.int .u8 n28), (.int .u16 n29)]) ∧
      (x35 (IntKind.wrap .i64 ((IntKind.wrap .i64 ((IntKind.wrap .i64 (n37 - 1)) - (if (7000 : Int) < (((s42.size) : Nat) : Int) then 7000 else (((s42.size) : Nat) : Int)))) - (if (7000 : Int) < (((s44.size) : Nat) : Int) then 7000 else (((s44.size) : Nat) : Int)))) (IntKind.wrap .i64 (n38 + 1)) w45 (L46)) ∧
      Nat.le ((x36 (IntKind.wrap .i64 ((IntKind.wrap .i64 ((IntKind.wrap .i64 (n37 - 1)) - (if (7000 : Int) < (((s42.size) : Nat) : Int) then 7000 else (((s42.size) : Nat) : Int)))) - (if (7000 : Int) < (((s44.size) : Nat) : Int) then 7000 else (((s44.size) : Nat) : Int)))) (IntKind.wrap .i64 (n38 + 1)) w45) + 1) (x36 n37 n38 w39)
     else
      (x1 n37 (IntKind.wrap .i64 (n4 + 1)) w39 (L40)) ∧
      Nat.le ((x2 n37 (IntKind.wrap .i64 (n4 + 1)) w39) + 1) (x2 n3 n4 w5)
  else
   R (.returned (.bool (decide (n3 ≥ 0) && decide (((al : Nat) : Int) ≤ 150)))) w5) :
    Calls Tryd.prog 6 #[.slice a al ac] w R :=
  X.calls_of { isLoc := [5], sym := [], loops := [(3, .inv [(3, .int .i64), (4, .int .i64)] [] true), (10, .inv [(3, .int .i64), (6, .int .i64)] [] true)], joins := [] } Tryd.func6 (by kernel_rfl) h
abbrev fn_RefID : Nat := 43
theorem x_RefID (a_0 a_1 a_2 a_3 a_4 a_5 a_6 a_7 a_8 a_9 : Int) (w : World) (R : Ending → World → Prop) (h :
  ∃ x1 : X.Facts, (X.FactsW x1 w []) ∧
  (∀ w2 : World, ∀ L3 : List Nat, (X.Hid [] w w2) →
   (X.NewL (w).heap.size [] w w2 L3) →
   X.CallX Tryd.prog 47 #[(.agg #[(.int .u8 a_0), (.int .u16 a_1)])] w2 fun e4 w5 =>
    ∃ n6 : Int, ∃ n7 : Int, (e4 = .returned (.agg #[(.int .u8 n6), (.int .u16 n7)])) ∧
    (X.Kept L3 w2 w5) ∧
    (X.FactsW x1 w5 (L3)) ∧
    ∃ x8 : X.Facts, (X.FactsW x8 w5 (L3)) ∧
    ∃ x9 : X.Facts, (X.FactsW x9 w5 (L3)) ∧
    ∃ x10 : X.Facts, (X.FactsW x10 w5 (L3)) ∧
    ∀ w11 : World, (X.Hid (L3) w5 w11) →
    R (.returned (.agg #[(.int .u8 n6), (.int .u16 n7), (.int .u32 a_2), (.int .u8 a_3), (.int .u8 a_4), (.int .u8 a_5), (.int .u8 a_6), (.int .u8 a_7), (.int .u8 a_8), (.int .u8 a_9)])) w11) ∧
  ∀ w12 : World, ∀ L13 : List Nat, (X.Hid [] w w12) →
  (X.NewL (w).heap.size [] w w12 L13) →
  X.CallX Tryd.prog 47 #[(.agg #[(.int .u8 a_0), (.int .u16 a_1)])] w12 fun e14 w15 =>
   ∃ n16 : Int, ∃ n17 : Int, (e14 = .returned (.agg #[(.int .u8 n16), (.int .u16 n17)])) ∧
   (X.Kept L13 w12 w15) ∧
   (X.FactsW x1 w15 (L13)) ∧
   ∃ x18 : X.Facts, (X.FactsW x18 w15 (L13)) ∧
   ∃ x19 : X.Facts, (X.FactsW x19 w15 (L13)) ∧
   ∃ x20 : X.Facts, (X.FactsW x20 w15 (L13)) ∧
   ∀ w21 : World, (X.Hid (L13) w15 w21) →
   R (.returned (.agg #[(.int .u8 n16), (.int .u16 n17), (.int .u32 a_2), (.int .u8 a_3), (.int .u8 a_4), (.int .u8 a_5), (.int .u8 a_6), (.int .u8 a_7), (.int .u8 a_8), (.int .u8 a_9)])) w21) :
    Calls Tryd.prog 43 #[.agg #[.int .u8 a_0, .int .u16 a_1, .int .u32 a_2, .int .u8 a_3, .int .u8 a_4, .int .u8 a_5, .int .u8 a_6, .int .u8 a_7, .int .u8 a_8, .int .u8 a_9]] w R :=
  X.calls_of { isLoc := [1, 2, 3], sym := [], loops := [(3, .unroll 4)], joins := [], stored := [(1, [3]), (5, [3])] } Tryd.func43 (by kernel_rfl) h
abbrev fn_RefProc : Nat := 47
theorem x_RefProc (a_0 a_1 : Int) (w : World) (R : Ending → World → Prop) (h :
  ∀ w1 : World, (X.Hid [] w w1) →
  R (.returned (.agg #[(.int .u8 a_0), (.int .u16 a_1)])) w1) :
    Calls Tryd.prog 47 #[.agg #[.int .u8 a_0, .int .u16 a_1]] w R :=
  X.calls_of { isLoc := [1, 2], sym := [], loops := [], joins := [] } Tryd.func47 (by kernel_rfl) h
abbrev fn_RefRes : Nat := 45
theorem x_RefRes (a_0 : Int) (a_1 : ByteArray) (w : World) (R : Ending → World → Prop) (h :
  ∀ w1 : World, (X.Hid [] w w1) →
  R (.returned (.agg #[(.int .u8 a_0), (.string a_1)])) w1) :
    Calls Tryd.prog 45 #[.agg #[.int .u8 a_0, .string a_1]] w R :=
  X.calls_of { isLoc := [1, 2], sym := [], loops := [], joins := [] } Tryd.func45 (by kernel_rfl) h
abbrev fn_RefPart : Nat := 59
theorem x_RefPart (a_0 a_1 : Int) (a_2 a_3 : ByteArray) (a_4 : Int) (w : World) (R : Ending → World → Prop) (h :
  ∀ w1 : World, (X.Hid [] w w1) →
  R (.returned (.agg #[(.int .u8 a_0), (.int .u8 a_1), (.string a_2), (.string a_3), (.int .i64 a_4)])) w1) :
    Calls Tryd.prog 59 #[.agg #[.int .u8 a_0, .int .u8 a_1, .string a_2, .string a_3, .int .i64 a_4]] w R :=
  X.calls_of { isLoc := [1, 2], sym := [], loops := [], joins := [] } Tryd.func59 (by kernel_rfl) h
abbrev fn_RefParts : Nat := 44
theorem x_RefParts (a : Option Addr) (al ac : Nat) (w : World) (R : Ending → World → Prop) (h :
  ∃ x1 : Option Addr → Nat → Nat → Int → World → List Nat → Prop, ∃ x2 : Option Addr → Nat → Nat → Int → World → Nat, (x1 (none) 0 0 0 w []) ∧
  ∀ q3 : Option Addr, ∀ k4 : Nat, ∀ k5 : Nat, ∀ n6 : Int, ∀ w7 : World, ∀ L8 : List Nat, (X.LF (w).heap.size w7 L8) →
  (x1 q3 k4 k5 n6 w7 L8) →
  if (decide (n6 < ((al : Nat) : Int))) = true then
   ((0 : Int) ≤ n6) ∧
   (n6 < ((al : Nat) : Int)) ∧
   X.onSome (a) fun p9 =>
   ∃ n10 : Int, ∃ n11 : Int, ∃ s12 : ByteArray, ∃ s13 : ByteArray, ∃ n14 : Int, (X.Cells w7 (p9.add ((n6).toNat * 5)) [(.int .u8 n10), (.int .u8 n11), (.string s12), (.string s13), (.int .i64 n14)]) ∧
   X.CallX Tryd.prog 59 #[(.agg #[(.int .u8 n10), (.int .u8 n11), (.string s12), (.string s13), (.int .i64 n14)])] w7 fun e15 w16 =>
    ∃ n17 : Int, ∃ n18 : Int, ∃ s19 : ByteArray, ∃ s20 : ByteArray, ∃ n21 : Int, (e15 = .returned (.agg #[(.int .u8 n17), (.int .u8 n18), (.string s19), (.string s20), (.int .i64 n21)])) ∧
    ((w7).heap.size ≤ (w16).heap.size) ∧
    ∃ q22 : Option Addr, ∃ k23 : Nat, ∃ k24 : Nat, ∃ w25 : World, (Sem.run Tryd.prog (Go.Builtin.append_ #[31, 31] 31 #[(.slice (q3) k4 k5), (.slice (some ⟨(w16).heap.size, 0, none⟩) 1 1)]) (w16.alloc (.cells #[(.int .u8 n17), (.int .u8 n18), (.string s19), (.string s20), (.int .i64 n21)] 94)) = .ok (.slice (q22) k23 k24) w25) ∧
    (((w16.alloc (.cells #[(.int .u8 n17), (.int .u8 n18), (.string s19), (.string s20), (.int .i64 n21)] 94))).heap.size ≤ (w25).heap.size) ∧
    (x1 q22 k23 k24 (IntKind.wrap .i64 (n6 + 1)) w25 []) ∧
    Nat.le ((x2 q22 k23 k24 (IntKind.wrap .i64 (n6 + 1)) w25) + 1) (x2 q3 k4 k5 n6 w7)
  else
   R (.returned (.slice (q3) k4 k5)) w7) :
    Calls Tryd.prog 44 #[.slice a al ac] w R :=
  X.calls_of { isLoc := [], sym := [], loops := [(3, .inv [(3, .slice), (4, .int .i64)] [] true)], joins := [] } Tryd.func44 (by kernel_rfl) h
abbrev fn_Ref4 : Nat := 46
theorem x_Ref4 (a : Option Addr) (al ac : Nat) (w : World) (R : Ending → World → Prop) (h :
  ∃ x1 : Option Addr → Nat → Nat → Int → World → List Nat → Prop, ∃ x2 : Option Addr → Nat → Nat → Int → World → Nat, (x1 (none) 0 0 0 w []) ∧
  ∀ q3 : Option Addr, ∀ k4 : Nat, ∀ k5 : Nat, ∀ n6 : Int, ∀ w7 : World, ∀ L8 : List Nat, (X.LF (w).heap.size w7 L8) →
  (x1 q3 k4 k5 n6 w7 L8) →
  if (decide (n6 < ((al : Nat) : Int))) = true then
   ∃ x9 : X.Facts, (X.FactsW x9 w7 []) ∧
   ((0 : Int) ≤ n6) ∧
   (n6 < ((al : Nat) : Int)) ∧
   X.onSome (a) fun p10 =>
   ∃ s11 : ByteArray, ((((p10.add ((n6).toNat * 3)).add 0), [(.string s11)]) ∈ x9) ∧
   ((0 : Int) ≤ n6) ∧
   (n6 < ((al : Nat) : Int)) ∧
   X.onSome (a) fun p12 =>
   ∃ s13 : ByteArray, ((((p12.add ((n6).toNat * 3)).add 1), [(.string s13)]) ∈ x9) ∧
   ((0 : Int) ≤ n6) ∧
   (n6 < ((al : Nat) : Int)) ∧
   X.onSome (a) fun p14 =>
   ∃ b15 : Bool, ((((p14.add ((n6).toNat * 3)).add 2), [(.bool b15)]) ∈ x9) ∧
   ∀ w16 : World, (X.Hid [] w7 w16) →
   (X.FactsW x9 (w16.alloc (.cells #[(.string s11), (.string s13), (.bool b15)] 69)) []) ∧
   ∃ q17 : Option Addr, ∃ k18 : Nat, ∃ k19 : Nat, ∃ w20 : World, (Sem.run Tryd.prog (Go.Builtin.append_ #[34, 34] 34 #[(.slice (q3) k4 k5), (.slice (some ⟨(w16).heap.size, 0, none⟩) 1 1)]) (w16.alloc (.cells #[(.string s11), (.string s13), (.bool b15)] 69)) = .ok (.slice (q17) k18 k19) w20) ∧
   (((w16.alloc (.cells #[(.string s11), (.string s13), (.bool b15)] 69))).heap.size ≤ (w20).heap.size) ∧
   (X.FactsW x9 w20 []) ∧
   (x1 q17 k18 k19 (IntKind.wrap .i64 (n6 + 1)) w20 []) ∧
   Nat.le ((x2 q17 k18 k19 (IntKind.wrap .i64 (n6 + 1)) w20) + 1) (x2 q3 k4 k5 n6 w7)
  else
   R (.returned (.slice (q3) k4 k5)) w7) :
    Calls Tryd.prog 46 #[.slice a al ac] w R :=
  X.calls_of { isLoc := [], sym := [], loops := [(3, .inv [(3, .slice), (4, .int .i64)] [] true)], joins := [] } Tryd.func46 (by kernel_rfl) h
abbrev fn_Ref5 : Nat := 14
theorem x_Ref5 (a_0 a_1 a_2 a_3 a_4 a_5 a_6 a_7 a_8 a_9 a_10 a_11 : Int) (a_12 : Option Addr) (a_12l a_12c : Nat) (a_13 : Int) (a_14 : ByteArray) (a_15 : Option Addr) (a_15l a_15c : Nat) (a_16 a_17 : Int) (w : World) (R : Ending → World → Prop) (h :
  ∃ x1 : X.Facts, (X.FactsW x1 w []) ∧
  ∀ w2 : World, ∀ L3 : List Nat, (X.Hid [] w w2) →
  (X.NewL (w).heap.size [] w w2 L3) →
  X.CallX Tryd.prog 43 #[(.agg #[(.int .u8 a_1), (.int .u16 a_2), (.int .u32 a_3), (.int .u8 a_4), (.int .u8 a_5), (.int .u8 a_6), (.int .u8 a_7), (.int .u8 a_8), (.int .u8 a_9), (.int .u8 a_10)])] w2 fun e4 w5 =>
   ∃ n6 : Int, ∃ n7 : Int, ∃ n8 : Int, ∃ n9 : Int, ∃ n10 : Int, ∃ n11 : Int, ∃ n12 : Int, ∃ n13 : Int, ∃ n14 : Int, ∃ n15 : Int, (e4 = .returned (.agg #[(.int .u8 n6), (.int .u16 n7), (.int .u32 n8), (.int .u8 n9), (.int .u8 n10), (.int .u8 n11), (.int .u8 n12), (.int .u8 n13), (.int .u8 n14), (.int .u8 n15)])) ∧
   (X.Kept L3 w2 w5) ∧
   (X.FactsW x1 w5 (L3)) ∧
   X.CallX Tryd.prog 44 #[(.slice (a_12) a_12l a_12c)] w5 fun e16 w17 =>
    ∃ q18 : Option Addr, ∃ k19 : Nat, ∃ k20 : Nat, (e16 = .returned (.slice (q18) k19 k20)) ∧
    (X.Kept L3 w5 w17) ∧
    (X.FactsW x1 w17 (L3)) ∧
    X.CallX Tryd.prog 45 #[(.agg #[(.int .u8 a_13), (.string a_14)])] w17 fun e21 w22 =>
     ∃ n23 : Int, ∃ s24 : ByteArray, (e21 = .returned (.agg #[(.int .u8 n23), (.string s24)])) ∧
     (X.Kept L3 w17 w22) ∧
     (X.FactsW x1 w22 (L3)) ∧
     X.CallX Tryd.prog 46 #[(.slice (a_15) a_15l a_15c)] w22 fun e25 w26 =>
      ∃ q27 : Option Addr, ∃ k28 : Nat, ∃ k29 : Nat, (e25 = .returned (.slice (q27) k28 k29)) ∧
      (X.Kept L3 w22 w26) ∧
      (X.FactsW x1 w26 (L3)) ∧
      X.CallX Tryd.prog 47 #[(.agg #[(.int .u8 a_16), (.int .u16 a_17)])] w26 fun e30 w31 =>
       ∃ n32 : Int, ∃ n33 : Int, (e30 = .returned (.agg #[(.int .u8 n32), (.int .u16 n33)])) ∧
       (X.Kept L3 w26 w31) ∧
       (X.FactsW x1 w31 (L3)) ∧
       ∀ w34 : World, (X.Hid (L3) w31 w34) →
       R (.returned (.agg #[(.int .u8 a_0), (.int .u8 n6), (.int .u16 n7), (.int .u32 n8), (.int .u8 n9), (.int .u8 n10), (.int .u8 n11), (.int .u8 n12), (.int .u8 n13), (.int .u8 n14), (.int .u8 n15), (.int .u32 a_11), (.slice (q18) k19 k20), (.int .u8 n23), (.string s24), (.slice (q27) k28 k29), (.int .u8 n32), (.int .u16 n33)])) w34) :
    Calls Tryd.prog 14 #[.agg #[.int .u8 a_0, .int .u8 a_1, .int .u16 a_2, .int .u32 a_3, .int .u8 a_4, .int .u8 a_5, .int .u8 a_6, .int .u8 a_7, .int .u8 a_8, .int .u8 a_9, .int .u8 a_10, .int .u32 a_11, .slice a_12 a_12l a_12c, .int .u8 a_13, .string a_14, .slice a_15 a_15l a_15c, .int .u8 a_16, .int .u16 a_17]] w R :=
  X.calls_of { isLoc := [1, 2], sym := [], loops := [], joins := [], stored := [(1, [2])] } Tryd.func14 (by kernel_rfl) h
end Go.Proofs
