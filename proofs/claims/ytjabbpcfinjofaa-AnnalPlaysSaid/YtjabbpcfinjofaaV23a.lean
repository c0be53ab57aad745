import Derived.Test.YtjabbpcfinjofaaXFn
import Derived.Test.YtjabbpcfinjofaaProg
/- The verification conditions of this seat's functions, as the engine has them: printed by a program of the bench; checked by the kernel. -/
set_option maxRecDepth 100000
set_option linter.unusedVariables false
namespace Go.Proofs
open Go
abbrev fn_New : Nat := 8
theorem x_New  (w : World) (R : Ending → World → Prop) (h :
  R (.returned (.pointer (some ⟨(w).heap.size, 0, none⟩))) (w.alloc (.cells #[(.map none), (.slice none 0 0), (.map none), (.slice none 0 0), (.map none), (.slice none 0 0), (.map none), (.slice none 0 0), (.slice none 0 0), (.slice none 0 0), (.slice none 0 0), (.slice none 0 0), (.int .i64 0), (.bool true)] 92))) :
    Calls Try.prog 8 #[] w R :=
  X.calls_of { isLoc := [], sym := [], loops := [], joins := [] } Try.func8 (by kernel_rfl) h
abbrev fn_annal_Annal_none : Nat := 23
theorem x_annal_Annal_none (a : Addr) (w : World) (R : Ending → World → Prop) (h :
  ∃ b1 : Bool, (World.cell? w (a.add 13) = some (.bool b1)) ∧
  R (.returned (.bool (false || (!b1)))) w) :
    Calls Try.prog 23 #[.pointer (some a)] w R :=
  X.calls_of { isLoc := [], sym := [], loops := [], joins := [] } Try.func23 (by kernel_rfl) h
abbrev fn_annal_Annal_Splits : Nat := 12
theorem x_annal_Annal_Splits (a : Addr) (w : World) (R : Ending → World → Prop) (h :
  X.CallX Try.prog 23 #[(.pointer (some a))] w fun e1 w2 =>
   ∃ b3 : Bool, (e1 = .returned (.bool b3)) ∧
   ((w).heap.size ≤ (w2).heap.size) ∧
   if b3 = true then
    R (.returned (.int .i64 0)) w2
   else
    ∃ n4 : Int, (World.cell? w2 (a.add 12) = some (.int .i64 n4)) ∧
    R (.returned (.int .i64 n4)) w2) :
    Calls Try.prog 12 #[.pointer (some a)] w R :=
  X.calls_of { isLoc := [], sym := [], loops := [], joins := [] } Try.func12 (by kernel_rfl) h
abbrev fn_gemotlaw02_Proc : Nat := 60
theorem x_gemotlaw02_Proc (a_0 a_1 : Int) (w : World) (R : Ending → World → Prop) (h :
  ∀ w1 : World, (X.Hid [] w w1) →
  R (.returned (.agg #[(.int .u8 a_0), (.int .u16 a_1)])) w1) :
    Calls Try.prog 60 #[.agg #[.int .u8 a_0, .int .u16 a_1]] w R :=
  X.calls_of { isLoc := [1, 2], sym := [], loops := [], joins := [] } Try.func60 (by kernel_rfl) h
abbrev fn_gemotlaw02_ID : Nat := 55
theorem x_gemotlaw02_ID (a_0 a_1 a_2 a_3 a_4 a_5 a_6 a_7 a_8 a_9 : Int) (w : World) (R : Ending → World → Prop) (h :
  ∃ x1 : X.Facts, (X.FactsW x1 w []) ∧
  (∀ w2 : World, ∀ L3 : List Nat, (X.Hid [] w w2) →
   (X.NewL (w).heap.size [] w w2 L3) →
   X.CallX Try.prog 60 #[(.agg #[(.int .u8 a_0), (.int .u16 a_1)])] w2 fun e4 w5 =>
    ∃ n6 : Int, ∃ n7 : Int, (e4 = .returned (.agg #[(.int .u8 n6), (.int .u16 n7)])) ∧
    (X.Kept L3 w2 w5) ∧
    (X.FactsW x1 w5 (L3)) ∧
    ∃ x8 : X.Facts, (X.FactsW x8 w5 (L3)) ∧
    ∃ x9 : X.Facts, (X.FactsW x9 w5 (L3)) ∧
    ∃ x10 : X.Facts, (X.FactsW x10 w5 (L3)) ∧
    ∀ w11 : World, (X.Hid (L3) w5 w11) →
    R (.returned (.agg #[(.int .u8 n6), (.int .u16 n7), (.int .u32 a_2), (.int .u8 a_3), (.int .u8 a_4), (.int .u8 a_5), (.int .u8 a_6), (.int .u8 a_7), (.int .u8 a_8), (.int .u8 a_9)])) w11) ∧
  ∀ w12 : World, ∀ L13 : List Nat, (X.Hid [] w w12) →
  (X.NewL (w).heap.size [] w w12 L13) →
  X.CallX Try.prog 60 #[(.agg #[(.int .u8 a_0), (.int .u16 a_1)])] w12 fun e14 w15 =>
   ∃ n16 : Int, ∃ n17 : Int, (e14 = .returned (.agg #[(.int .u8 n16), (.int .u16 n17)])) ∧
   (X.Kept L13 w12 w15) ∧
   (X.FactsW x1 w15 (L13)) ∧
   ∃ x18 : X.Facts, (X.FactsW x18 w15 (L13)) ∧
   ∃ x19 : X.Facts, (X.FactsW x19 w15 (L13)) ∧
   ∃ x20 : X.Facts, (X.FactsW x20 w15 (L13)) ∧
   ∀ w21 : World, (X.Hid (L13) w15 w21) →
   R (.returned (.agg #[(.int .u8 n16), (.int .u16 n17), (.int .u32 a_2), (.int .u8 a_3), (.int .u8 a_4), (.int .u8 a_5), (.int .u8 a_6), (.int .u8 a_7), (.int .u8 a_8), (.int .u8 a_9)])) w21) :
    Calls Try.prog 55 #[.agg #[.int .u8 a_0, .int .u16 a_1, .int .u32 a_2, .int .u8 a_3, .int .u8 a_4, .int .u8 a_5, .int .u8 a_6, .int .u8 a_7, .int .u8 a_8, .int .u8 a_9]] w R :=
  X.calls_of { isLoc := [1, 2, 3], sym := [], loops := [(3, .unroll 4)], joins := [], stored := [(1, [3]), (5, [3])] } Try.func55 (by kernel_rfl) h
abbrev fn_gemotlaw03_Res : Nat := 58
theorem x_gemotlaw03_Res (a_0 : Int) (a_1 : ByteArray) (w : World) (R : Ending → World → Prop) (h :
  ∀ w1 : World, (X.Hid [] w w1) →
  R (.returned (.agg #[(.int .u8 a_0), (.string a_1)])) w1) :
    Calls Try.prog 58 #[.agg #[.int .u8 a_0, .string a_1]] w R :=
  X.calls_of { isLoc := [1, 2], sym := [], loops := [], joins := [] } Try.func58 (by kernel_rfl) h
abbrev fn_Part : Nat := 73
theorem x_Part (a_0 a_1 : Int) (a_2 a_3 : ByteArray) (a_4 : Int) (w : World) (R : Ending → World → Prop) (h :
  ∀ w1 : World, (X.Hid [] w w1) →
  R (.returned (.agg #[(.int .u8 a_0), (.int .u8 a_1), (.string a_2), (.string a_3), (.int .i64 a_4)])) w1) :
    Calls Try.prog 73 #[.agg #[.int .u8 a_0, .int .u8 a_1, .string a_2, .string a_3, .int .i64 a_4]] w R :=
  X.calls_of { isLoc := [1, 2], sym := [], loops := [], joins := [] } Try.func73 (by kernel_rfl) h
abbrev fn_Parts : Nat := 56
theorem x_Parts (a : Option Addr) (al ac : Nat) (w : World) (R : Ending → World → Prop) (h :
  ∃ x1 : Option Addr → Nat → Nat → Int → World → List Nat → Prop, ∃ x2 : Option Addr → Nat → Nat → Int → World → Nat, (x1 (none) 0 0 0 w []) ∧
  ∀ q3 : Option Addr, ∀ k4 : Nat, ∀ k5 : Nat, ∀ n6 : Int, ∀ w7 : World, ∀ L8 : List Nat, (X.LF (w).heap.size w7 L8) →
  (x1 q3 k4 k5 n6 w7 L8) →
  if (decide (n6 < ((al : Nat) : Int))) = true then
   ((0 : Int) ≤ n6) ∧
   (n6 < ((al : Nat) : Int)) ∧
   X.onSome (a) fun p9 =>
   ∃ n10 : Int, ∃ n11 : Int, ∃ s12 : ByteArray, ∃ s13 : ByteArray, ∃ n14 : Int, (X.Cells w7 (p9.add ((n6).toNat * 5)) [(.int .u8 n10), (.int .u8 n11), (.string s12), (.string s13), (.int .i64 n14)]) ∧
   X.CallX Try.prog 73 #[(.agg #[(.int .u8 n10), (.int .u8 n11), (.string s12), (.string s13), (.int .i64 n14)])] w7 fun e15 w16 =>
    ∃ n17 : Int, ∃ n18 : Int, ∃ s19 : ByteArray, ∃ s20 : ByteArray, ∃ n21 : Int, (e15 = .returned (.agg #[(.int .u8 n17), (.int .u8 n18), (.string s19), (.string s20), (.int .i64 n21)])) ∧
    ((w7).heap.size ≤ (w16).heap.size) ∧
    ∃ q22 : Option Addr, ∃ k23 : Nat, ∃ k24 : Nat, ∃ w25 : World, (Sem.run Try.prog (Go.Builtin.append_ #[103, 103] 103 #[(.slice (q3) k4 k5), (.slice (some ⟨(w16).heap.size, 0, none⟩) 1 1)]) (w16.alloc (.cells #[(.int .u8 n17), (.int .u8 n18), (.string s19), (.string s20), (.int .i64 n21)] 147)) = .ok (.slice (q22) k23 k24) w25) ∧
    (((w16.alloc (.cells #[(.int .u8 n17), (.int .u8 n18), (.string s19), (.string s20), (.int .i64 n21)] 147))).heap.size ≤ (w25).heap.size) ∧
    (x1 q22 k23 k24 (IntKind.wrap .i64 (n6 + 1)) w25 []) ∧
    Nat.le ((x2 q22 k23 k24 (IntKind.wrap .i64 (n6 + 1)) w25) + 1) (x2 q3 k4 k5 n6 w7)
  else
   R (.returned (.slice (q3) k4 k5)) w7) :
    Calls Try.prog 56 #[.slice a al ac] w R :=
  X.calls_of { isLoc := [], sym := [], loops := [(3, .inv [(3, .slice), (4, .int .i64)] [] true)], joins := [] } Try.func56 (by kernel_rfl) h
abbrev fn_OwnW : Nat := 59
theorem x_OwnW (a : Option Addr) (al ac : Nat) (w : World) (R : Ending → World → Prop) (h :
  ∃ x1 : Option Addr → Nat → Nat → Int → World → List Nat → Prop, ∃ x2 : Option Addr → Nat → Nat → Int → World → Nat, (x1 (none) 0 0 0 w []) ∧
  ∀ q3 : Option Addr, ∀ k4 : Nat, ∀ k5 : Nat, ∀ n6 : Int, ∀ w7 : World, ∀ L8 : List Nat, (X.LF (w).heap.size w7 L8) →
  (x1 q3 k4 k5 n6 w7 L8) →
  if (decide (n6 < ((al : Nat) : Int))) = true then
   ∃ x9 : X.Facts, (X.FactsW x9 w7 []) ∧
   ((0 : Int) ≤ n6) ∧
   (n6 < ((al : Nat) : Int)) ∧
   X.onSome (a) fun p10 =>
   ∃ s11 : ByteArray, ((((p10.add ((n6).toNat * 3)).add 0), [(.string s11)]) ∈ x9) ∧
   ((0 : Int) ≤ n6) ∧
   (n6 < ((al : Nat) : Int)) ∧
   X.onSome (a) fun p12 =>
   ∃ s13 : ByteArray, ((((p12.add ((n6).toNat * 3)).add 1), [(.string s13)]) ∈ x9) ∧
   ((0 : Int) ≤ n6) ∧
   (n6 < ((al : Nat) : Int)) ∧
   X.onSome (a) fun p14 =>
   ∃ b15 : Bool, ((((p14.add ((n6).toNat * 3)).add 2), [(.bool b15)]) ∈ x9) ∧
   ∀ w16 : World, (X.Hid [] w7 w16) →
   (X.FactsW x9 (w16.alloc (.cells #[(.string s11), (.string s13), (.bool b15)] 156)) []) ∧
   ∃ q17 : Option Addr, ∃ k18 : Nat, ∃ k19 : Nat, ∃ w20 : World, (Sem.run Try.prog (Go.Builtin.append_ #[105, 105] 105 #[(.slice (q3) k4 k5), (.slice (some ⟨(w16).heap.size, 0, none⟩) 1 1)]) (w16.alloc (.cells #[(.string s11), (.string s13), (.bool b15)] 156)) = .ok (.slice (q17) k18 k19) w20) ∧
   (((w16.alloc (.cells #[(.string s11), (.string s13), (.bool b15)] 156))).heap.size ≤ (w20).heap.size) ∧
   (X.FactsW x9 w20 []) ∧
   (x1 q17 k18 k19 (IntKind.wrap .i64 (n6 + 1)) w20 []) ∧
   Nat.le ((x2 q17 k18 k19 (IntKind.wrap .i64 (n6 + 1)) w20) + 1) (x2 q3 k4 k5 n6 w7)
  else
   R (.returned (.slice (q3) k4 k5)) w7) :
    Calls Try.prog 59 #[.slice a al ac] w R :=
  X.calls_of { isLoc := [], sym := [], loops := [(3, .inv [(3, .slice), (4, .int .i64)] [] true)], joins := [] } Try.func59 (by kernel_rfl) h
abbrev fn_OwnE : Nat := 29
theorem x_OwnE (a_0 a_1 a_2 a_3 a_4 a_5 a_6 a_7 a_8 a_9 a_10 a_11 : Int) (a_12 : Option Addr) (a_12l a_12c : Nat) (a_13 : Int) (a_14 : ByteArray) (a_15 : Option Addr) (a_15l a_15c : Nat) (a_16 a_17 : Int) (w : World) (R : Ending → World → Prop) (h :
  ∃ x1 : X.Facts, (X.FactsW x1 w []) ∧
  ∀ w2 : World, ∀ L3 : List Nat, (X.Hid [] w w2) →
  (X.NewL (w).heap.size [] w w2 L3) →
  X.CallX Try.prog 55 #[(.agg #[(.int .u8 a_1), (.int .u16 a_2), (.int .u32 a_3), (.int .u8 a_4), (.int .u8 a_5), (.int .u8 a_6), (.int .u8 a_7), (.int .u8 a_8), (.int .u8 a_9), (.int .u8 a_10)])] w2 fun e4 w5 =>
   ∃ n6 : Int, ∃ n7 : Int, ∃ n8 : Int, ∃ n9 : Int, ∃ n10 : Int, ∃ n11 : Int, ∃ n12 : Int, ∃ n13 : Int, ∃ n14 : Int, ∃ n15 : Int, (e4 = .returned (.agg #[(.int .u8 n6), (.int .u16 n7), (.int .u32 n8), (.int .u8 n9), (.int .u8 n10), (.int .u8 n11), (.int .u8 n12), (.int .u8 n13), (.int .u8 n14), (.int .u8 n15)])) ∧
   (X.Kept L3 w2 w5) ∧
   (X.FactsW x1 w5 (L3)) ∧
   X.CallX Try.prog 56 #[(.slice (a_12) a_12l a_12c)] w5 fun e16 w17 =>
    ∃ q18 : Option Addr, ∃ k19 : Nat, ∃ k20 : Nat, (e16 = .returned (.slice (q18) k19 k20)) ∧
    (X.Kept L3 w5 w17) ∧
    (X.FactsW x1 w17 (L3)) ∧
    X.CallX Try.prog 58 #[(.agg #[(.int .u8 a_13), (.string a_14)])] w17 fun e21 w22 =>
     ∃ n23 : Int, ∃ s24 : ByteArray, (e21 = .returned (.agg #[(.int .u8 n23), (.string s24)])) ∧
     (X.Kept L3 w17 w22) ∧
     (X.FactsW x1 w22 (L3)) ∧
     X.CallX Try.prog 59 #[(.slice (a_15) a_15l a_15c)] w22 fun e25 w26 =>
      ∃ q27 : Option Addr, ∃ k28 : Nat, ∃ k29 : Nat, (e25 = .returned (.slice (q27) k28 k29)) ∧
      (X.Kept L3 w22 w26) ∧
      (X.FactsW x1 w26 (L3)) ∧
      X.CallX Try.prog 60 #[(.agg #[(.int .u8 a_16), (.int .u16 a_17)])] w26 fun e30 w31 =>
       ∃ n32 : Int, ∃ n33 : Int, (e30 = .returned (.agg #[(.int .u8 n32), (.int .u16 n33)])) ∧
       (X.Kept L3 w26 w31) ∧
       (X.FactsW x1 w31 (L3)) ∧
       ∀ w34 : World, (X.Hid (L3) w31 w34) →
       R (.returned (.agg #[(.int .u8 a_0), (.int .u8 n6), (.int .u16 n7), (.int .u32 n8), (.int .u8 n9), (.int .u8 n10), (.int .u8 n11), (.int .u8 n12), (.int .u8 n13), (.int .u8 n14), (.int .u8 n15), (.int .u32 a_11), (.slice (q18) k19 k20), (.int .u8 n23), (.string s24), (.slice (q27) k28 k29), (.int .u8 n32), (.int .u16 n33)])) w34) :
    Calls Try.prog 29 #[.agg #[.int .u8 a_0, .int .u8 a_1, .int .u16 a_2, .int .u32 a_3, .int .u8 a_4, .int .u8 a_5, .int .u8 a_6, .int .u8 a_7, .int .u8 a_8, .int .u8 a_9, .int .u8 a_10, .int .u32 a_11, .slice a_12 a_12l a_12c, .int .u8 a_13, .string a_14, .slice a_15 a_15l a_15c, .int .u8 a_16, .int .u16 a_17]] w R :=
  X.calls_of { isLoc := [1, 2], sym := [], loops := [], joins := [], stored := [(1, [2])] } Try.func29 (by kernel_rfl) h
abbrev fn_CloneP : Nat := 49
theorem x_CloneP (a : Option Addr) (al ac : Nat) (w : World) (R : Ending → World → Prop) (h :
  if (a.isNone) = true then
   R (.returned (.slice none 0 0)) w
  else
   ∃ q1 : Option Addr, ∃ k2 : Nat, ∃ k3 : Nat, ∃ w4 : World, (Sem.run Try.prog (Go.Builtin.append_ #[103, 103] 103 #[(.slice (some ⟨(w).heap.size, 0, none⟩) 0 0), (.slice (a) al ac)]) (w.alloc (.cells #[] 147)) = .ok (.slice (q1) k2 k3) w4) ∧
   (((w.alloc (.cells #[] 147))).heap.size ≤ (w4).heap.size) ∧
   R (.returned (.slice (q1) k2 k3)) w4) :
    Calls Try.prog 49 #[.slice a al ac] w R :=
  X.calls_of { isLoc := [], sym := [], loops := [], joins := [] } Try.func49 (by kernel_rfl) h
abbrev fn_CloneW : Nat := 53
theorem x_CloneW (a : Option Addr) (al ac : Nat) (w : World) (R : Ending → World → Prop) (h :
  if (a.isNone) = true then
   R (.returned (.slice none 0 0)) w
  else
   ∃ q1 : Option Addr, ∃ k2 : Nat, ∃ k3 : Nat, ∃ w4 : World, (Sem.run Try.prog (Go.Builtin.append_ #[105, 105] 105 #[(.slice (some ⟨(w).heap.size, 0, none⟩) 0 0), (.slice (a) al ac)]) (w.alloc (.cells #[] 156)) = .ok (.slice (q1) k2 k3) w4) ∧
   (((w.alloc (.cells #[] 156))).heap.size ≤ (w4).heap.size) ∧
   R (.returned (.slice (q1) k2 k3)) w4) :
    Calls Try.prog 53 #[.slice a al ac] w R :=
  X.calls_of { isLoc := [], sym := [], loops := [], joins := [] } Try.func53 (by kernel_rfl) h
abbrev fn_EqualP : Nat := 76
theorem x_EqualP (a : Option Addr) (al ac : Nat) (b : Option Addr) (bl bc : Nat) (w : World) (R : Ending → World → Prop) (h :
  if (((al : Nat) : Int) != ((bl : Nat) : Int)) = true then
   R (.returned (.bool false)) w
  else
   ∃ x1 : Int → World → List Nat → Prop, ∃ x2 : Int → World → Nat, (x1 0 w []) ∧
   ∀ n3 : Int, ∀ w4 : World, ∀ L5 : List Nat, (X.LF (w).heap.size w4 L5) →
   (x1 n3 w4 L5) →
   if (decide (n3 < ((al : Nat) : Int))) = true then
    ((0 : Int) ≤ n3) ∧
    (n3 < ((al : Nat) : Int)) ∧
    X.onSome (a) fun p6 =>
    ∃ n7 : Int, ∃ n8 : Int, ∃ s9 : ByteArray, ∃ s10 : ByteArray, ∃ n11 : Int, (X.Cells w4 (p6.add ((n3).toNat * 5)) [(.int .u8 n7), (.int .u8 n8), (.string s9), (.string s10), (.int .i64 n11)]) ∧
    ((0 : Int) ≤ n3) ∧
    (n3 < ((bl : Nat) : Int)) ∧
    X.onSome (b) fun p12 =>
    ∃ n13 : Int, ∃ n14 : Int, ∃ s15 : ByteArray, ∃ s16 : ByteArray, ∃ n17 : Int, (X.Cells w4 (p12.add ((n3).toNat * 5)) [(.int .u8 n13), (.int .u8 n14), (.string s15), (.string s16), (.int .i64 n17)]) ∧
    if (!((n7 == n13) && ((n8 == n14) && ((s9 == s15) && ((s10 == s16) && (n11 == n17)))))) = true then
     ∀ w19 : World, (X.Hid [] w4 w19) →
     R (.returned (.bool false)) w19
    else
     ∀ w18 : World, (X.Hid [] w4 w18) →
     (x1 (IntKind.wrap .i64 (n3 + 1)) w18 []) ∧
     Nat.le ((x2 (IntKind.wrap .i64 (n3 + 1)) w18) + 1) (x2 n3 w4)
   else
    R (.returned (.bool true)) w4) :
    Calls Try.prog 76 #[.slice a al ac, .slice b bl bc] w R :=
  X.calls_of { isLoc := [], sym := [], loops := [(4, .inv [(13, .int .i64)] [] true)], joins := [] } Try.func76 (by kernel_rfl) h
abbrev fn_EqualW : Nat := 72
theorem x_EqualW (a : Option Addr) (al ac : Nat) (b : Option Addr) (bl bc : Nat) (w : World) (R : Ending → World → Prop) (h :
  if (((al : Nat) : Int) != ((bl : Nat) : Int)) = true then
   R (.returned (.bool false)) w
  else
   ∃ x1 : Int → World → List Nat → Prop, ∃ x2 : Int → World → Nat, (x1 0 w []) ∧
   ∀ n3 : Int, ∀ w4 : World, ∀ L5 : List Nat, (X.LF (w).heap.size w4 L5) →
   (x1 n3 w4 L5) →
   if (decide (n3 < ((al : Nat) : Int))) = true then
    ((0 : Int) ≤ n3) ∧
    (n3 < ((al : Nat) : Int)) ∧
    X.onSome (a) fun p6 =>
    ∃ s7 : ByteArray, ∃ s8 : ByteArray, ∃ b9 : Bool, (X.Cells w4 (p6.add ((n3).toNat * 3)) [(.string s7), (.string s8), (.bool b9)]) ∧
    ((0 : Int) ≤ n3) ∧
    (n3 < ((bl : Nat) : Int)) ∧
    X.onSome (b) fun p10 =>
    ∃ s11 : ByteArray, ∃ s12 : ByteArray, ∃ b13 : Bool, (X.Cells w4 (p10.add ((n3).toNat * 3)) [(.string s11), (.string s12), (.bool b13)]) ∧
    if (!((s7 == s11) && ((s8 == s12) && (b9 == b13)))) = true then
     ∀ w15 : World, (X.Hid [] w4 w15) →
     R (.returned (.bool false)) w15
    else
     ∀ w14 : World, (X.Hid [] w4 w14) →
     (x1 (IntKind.wrap .i64 (n3 + 1)) w14 []) ∧
     Nat.le ((x2 (IntKind.wrap .i64 (n3 + 1)) w14) + 1) (x2 n3 w4)
   else
    R (.returned (.bool true)) w4) :
    Calls Try.prog 72 #[.slice a al ac, .slice b bl bc] w R :=
  X.calls_of { isLoc := [], sym := [], loops := [(4, .inv [(13, .int .i64)] [] true)], joins := [] } Try.func72 (by kernel_rfl) h
abbrev fn_pSame : Nat := 71
theorem x_pSame (a : Option Addr) (al ac : Nat) (b : Option Addr) (bl bc : Nat) (w : World) (R : Ending → World → Prop) (h :
  X.CallX Try.prog 76 #[(.slice (a) al ac), (.slice (b) bl bc)] w fun e1 w2 =>
   ∃ b3 : Bool, (e1 = .returned (.bool b3)) ∧
   ((w).heap.size ≤ (w2).heap.size) ∧
   R (.returned (.bool b3)) w2) :
    Calls Try.prog 71 #[.slice a al ac, .slice b bl bc] w R :=
  X.calls_of { isLoc := [], sym := [], loops := [], joins := [] } Try.func71 (by kernel_rfl) h
abbrev fn_eSame : Nat := 52
theorem x_eSame (a_0 a_1 a_2 a_3 a_4 a_5 a_6 a_7 a_8 a_9 a_10 a_11 : Int) (a_12 : Option Addr) (a_12l a_12c : Nat) (a_13 : Int) (a_14 : ByteArray) (a_15 : Option Addr) (a_15l a_15c : Nat) (a_16 a_17 b_0 b_1 b_2 b_3 b_4 b_5 b_6 b_7 b_8 b_9 b_10 b_11 : Int) (b_12 : Option Addr) (b_12l b_12c : Nat) (b_13 : Int) (b_14 : ByteArray) (b_15 : Option Addr) (b_15l b_15c : Nat) (b_16 b_17 : Int) (w : World) (R : Ending → World → Prop) (h :
  if ((((a_0 == b_0) && (((a_1 == b_1) && (a_2 == b_2)) && ((a_3 == b_3) && ((a_4 == b_4) && (((a_5 == b_5) && (a_6 == b_6)) && (((a_7 == b_7) && (a_8 == b_8)) && ((a_9 == b_9) && (a_10 == b_10)))))))) && (a_11 == b_11)) == true) = true then
   ∀ w2 : World, ∀ L3 : List Nat, (X.Hid [] w w2) →
   (X.NewL (w).heap.size [] w w2 L3) →
   X.CallX Try.prog 71 #[(.slice (a_12) a_12l a_12c), (.slice (b_12) b_12l b_12c)] w2 fun e4 w5 =>
    ∃ b6 : Bool, (e4 = .returned (.bool b6)) ∧
    (X.Kept L3 w2 w5) ∧
    if (((true && b6) && ((a_13 == b_13) && (a_14 == b_14))) == true) = true then
     X.CallX Try.prog 72 #[(.slice (a_15) a_15l a_15c), (.slice (b_15) b_15l b_15c)] w5 fun e7 w8 =>
      ∃ b9 : Bool, (e7 = .returned (.bool b9)) ∧
      (X.Kept L3 w5 w8) ∧
      R (.returned (.bool ((true && b9) && ((a_16 == b_16) && (a_17 == b_17))))) w8
    else
     R (.returned (.bool (false && ((a_16 == b_16) && (a_17 == b_17))))) w5
  else
   ∀ w1 : World, (X.Hid [] w w1) →
   R (.returned (.bool (false && ((a_16 == b_16) && (a_17 == b_17))))) w1) :
    Calls Try.prog 52 #[.agg #[.int .u8 a_0, .int .u8 a_1, .int .u16 a_2, .int .u32 a_3, .int .u8 a_4, .int .u8 a_5, .int .u8 a_6, .int .u8 a_7, .int .u8 a_8, .int .u8 a_9, .int .u8 a_10, .int .u32 a_11, .slice a_12 a_12l a_12c, .int .u8 a_13, .string a_14, .slice a_15 a_15l a_15c, .int .u8 a_16, .int .u16 a_17], .agg #[.int .u8 b_0, .int .u8 b_1, .int .u16 b_2, .int .u32 b_3, .int .u8 b_4, .int .u8 b_5, .int .u8 b_6, .int .u8 b_7, .int .u8 b_8, .int .u8 b_9, .int .u8 b_10, .int .u32 b_11, .slice b_12 b_12l b_12c, .int .u8 b_13, .string b_14, .slice b_15 b_15l b_15c, .int .u8 b_16, .int .u16 b_17]] w R :=
  X.calls_of { isLoc := [2, 3], sym := [], loops := [], joins := [] } Try.func52 (by kernel_rfl) h
abbrev fn_r3Same : Nat := 34
theorem x_r3Same (a : Option Addr) (al ac : Nat) (b : Option Addr) (bl bc : Nat) (w : World) (R : Ending → World → Prop) (h :
  if (((al : Nat) : Int) != ((bl : Nat) : Int)) = true then
   R (.returned (.bool false)) w
  else
   ∃ x1 : Int → World → List Nat → Prop, ∃ x2 : Int → World → Nat, (x1 0 w []) ∧
   ∀ n3 : Int, ∀ w4 : World, ∀ L5 : List Nat, (X.LF (w).heap.size w4 L5) →
   (x1 n3 w4 L5) →
   if (decide (n3 < ((al : Nat) : Int))) = true then
    ((0 : Int) ≤ n3) ∧
    (n3 < ((al : Nat) : Int)) ∧
    X.onSome (a) fun p6 =>
    ∃ n7 : Int, ∃ n8 : Int, ∃ s9 : ByteArray, ∃ s10 : ByteArray, ∃ n11 : Int, (X.Cells w4 (p6.add ((n3).toNat * 5)) [(.int .u8 n7), (.int .u8 n8), (.string s9), (.string s10), (.int .i64 n11)]) ∧
    ((0 : Int) ≤ n3) ∧
    (n3 < ((bl : Nat) : Int)) ∧
    X.onSome (b) fun p12 =>
    ∃ n13 : Int, ∃ n14 : Int, ∃ s15 : ByteArray, ∃ s16 : ByteArray, ∃ n17 : Int, (X.Cells w4 (p12.add ((n3).toNat * 5)) [(.int .u8 n13), (.int .u8 n14), (.string s15), (.string s16), (.int .i64 n17)]) ∧
    if (!((n7 == n13) && ((n8 == n14) && ((s9 == s15) && ((s10 == s16) && (n11 == n17)))))) = true then
     ∀ w19 : World, (X.Hid [] w4 w19) →
     R (.returned (.bool false)) w19
    else
     ∀ w18 : World, (X.Hid [] w4 w18) →
     (x1 (IntKind.wrap .i64 (n3 + 1)) w18 []) ∧
     Nat.le ((x2 (IntKind.wrap .i64 (n3 + 1)) w18) + 1) (x2 n3 w4)
   else
    R (.returned (.bool true)) w4) :
    Calls Try.prog 34 #[.slice a al ac, .slice b bl bc] w R :=
  X.calls_of { isLoc := [], sym := [], loops := [(4, .inv [(5, .int .i64)] [] true)], joins := [] } Try.func34 (by kernel_rfl) h
abbrev fn_r4Same : Nat := 35
theorem x_r4Same (a : Option Addr) (al ac : Nat) (b : Option Addr) (bl bc : Nat) (w : World) (R : Ending → World → Prop) (h :
  if (((al : Nat) : Int) != ((bl : Nat) : Int)) = true then
   R (.returned (.bool false)) w
  else
   ∃ x1 : Int → World → List Nat → Prop, ∃ x2 : Int → World → Nat, (x1 0 w []) ∧
   ∀ n3 : Int, ∀ w4 : World, ∀ L5 : List Nat, (X.LF (w).heap.size w4 L5) →
   (x1 n3 w4 L5) →
   if (decide (n3 < ((al : Nat) : Int))) = true then
    ((0 : Int) ≤ n3) ∧
    (n3 < ((al : Nat) : Int)) ∧
    X.onSome (a) fun p6 =>
    ∃ s7 : ByteArray, ∃ s8 : ByteArray, ∃ b9 : Bool, (X.Cells w4 (p6.add ((n3).toNat * 3)) [(.string s7), (.string s8), (.bool b9)]) ∧
    ((0 : Int) ≤ n3) ∧
    (n3 < ((bl : Nat) : Int)) ∧
    X.onSome (b) fun p10 =>
    ∃ s11 : ByteArray, ∃ s12 : ByteArray, ∃ b13 : Bool, (X.Cells w4 (p10.add ((n3).toNat * 3)) [(.string s11), (.string s12), (.bool b13)]) ∧
    if (!((s7 == s11) && ((s8 == s12) && (b9 == b13)))) = true then
     ∀ w15 : World, (X.Hid [] w4 w15) →
     R (.returned (.bool false)) w15
    else
     ∀ w14 : World, (X.Hid [] w4 w14) →
     (x1 (IntKind.wrap .i64 (n3 + 1)) w14 []) ∧
     Nat.le ((x2 (IntKind.wrap .i64 (n3 + 1)) w14) + 1) (x2 n3 w4)
   else
    R (.returned (.bool true)) w4) :
    Calls Try.prog 35 #[.slice a al ac, .slice b bl bc] w R :=
  X.calls_of { isLoc := [], sym := [], loops := [(4, .inv [(5, .int .i64)] [] true)], joins := [] } Try.func35 (by kernel_rfl) h
abbrev fn_r5Same : Nat := 11
theorem x_r5Same (a_0 a_1 a_2 a_3 a_4 a_5 a_6 a_7 a_8 a_9 a_10 a_11 : Int) (a_12 : Option Addr) (a_12l a_12c : Nat) (a_13 : Int) (a_14 : ByteArray) (a_15 : Option Addr) (a_15l a_15c : Nat) (a_16 a_17 b_0 b_1 b_2 b_3 b_4 b_5 b_6 b_7 b_8 b_9 b_10 b_11 : Int) (b_12 : Option Addr) (b_12l b_12c : Nat) (b_13 : Int) (b_14 : ByteArray) (b_15 : Option Addr) (b_15l b_15c : Nat) (b_16 b_17 : Int) (w : World) (R : Ending → World → Prop) (h :
  if ((((a_0 == b_0) && (((a_1 == b_1) && (a_2 == b_2)) && ((a_3 == b_3) && ((a_4 == b_4) && (((a_5 == b_5) && (a_6 == b_6)) && (((a_7 == b_7) && (a_8 == b_8)) && ((a_9 == b_9) && (a_10 == b_10)))))))) && (a_11 == b_11)) == true) = true then
   ∀ w2 : World, ∀ L3 : List Nat, (X.Hid [] w w2) →
   (X.NewL (w).heap.size [] w w2 L3) →
   X.CallX Try.prog 34 #[(.slice (a_12) a_12l a_12c), (.slice (b_12) b_12l b_12c)] w2 fun e4 w5 =>
    ∃ b6 : Bool, (e4 = .returned (.bool b6)) ∧
    (X.Kept L3 w2 w5) ∧
    if (((true && b6) && ((a_13 == b_13) && (a_14 == b_14))) == true) = true then
     X.CallX Try.prog 35 #[(.slice (a_15) a_15l a_15c), (.slice (b_15) b_15l b_15c)] w5 fun e7 w8 =>
      ∃ b9 : Bool, (e7 = .returned (.bool b9)) ∧
      (X.Kept L3 w5 w8) ∧
      R (.returned (.bool ((true && b9) && ((a_16 == b_16) && (a_17 == b_17))))) w8
    else
     R (.returned (.bool (false && ((a_16 == b_16) && (a_17 == b_17))))) w5
  else
   ∀ w1 : World, (X.Hid [] w w1) →
   R (.returned (.bool (false && ((a_16 == b_16) && (a_17 == b_17))))) w1) :
    Calls Try.prog 11 #[.agg #[.int .u8 a_0, .int .u8 a_1, .int .u16 a_2, .int .u32 a_3, .int .u8 a_4, .int .u8 a_5, .int .u8 a_6, .int .u8 a_7, .int .u8 a_8, .int .u8 a_9, .int .u8 a_10, .int .u32 a_11, .slice a_12 a_12l a_12c, .int .u8 a_13, .string a_14, .slice a_15 a_15l a_15c, .int .u8 a_16, .int .u16 a_17], .agg #[.int .u8 b_0, .int .u8 b_1, .int .u16 b_2, .int .u32 b_3, .int .u8 b_4, .int .u8 b_5, .int .u8 b_6, .int .u8 b_7, .int .u8 b_8, .int .u8 b_9, .int .u8 b_10, .int .u32 b_11, .slice b_12 b_12l b_12c, .int .u8 b_13, .string b_14, .slice b_15 b_15l b_15c, .int .u8 b_16, .int .u16 b_17]] w R :=
  X.calls_of { isLoc := [2, 3], sym := [], loops := [], joins := [] } Try.func11 (by kernel_rfl) h
end Go.Proofs
