import Derived.Test.YtgpjjmpjddpocaaDoorXFn
import Derived.Test.YtgpjjmpjddpocaaDoorProg
/- The verification conditions of this seat's functions, as the engine has them: printed by a program of the bench; checked by the kernel. -/
set_option maxRecDepth 100000
set_option linter.unusedVariables false
namespace Go.Proofs
open Go
abbrev fn_Part : Nat := 6
theorem x_Part (a_0 a_1 : Int) (a_2 a_3 : ByteArray) (a_4 : Int) (w : World) (R : Ending → World → Prop) (h :
  ∀ w1 : World, (X.Hid [] w w1) →
  R (.returned (.agg #[(.int .u8 a_0), (.int .u8 a_1), (.string a_2), (.string a_3), (.int .i64 a_4)])) w1) :
    Calls Tryd.prog 6 #[.agg #[.int .u8 a_0, .int .u8 a_1, .string a_2, .string a_3, .int .i64 a_4]] w R :=
  X.calls_of { isLoc := [1, 2], sym := [], loops := [], joins := [] } Tryd.func6 (by kernel_rfl) h
abbrev fn_part_Part_Right : Nat := 7
theorem x_part_Part_Right (a_0 a_1 : Int) (a_2 a_3 : ByteArray) (a_4 : Int) (w : World) (R : Ending → World → Prop) (h :
  if (((decide (a_0 < 4) && (!((a_2.toList) == ((ByteArray.mk #[]).toList)))) && decide ((((a_2.size) : Nat) : Int) ≤ 16)) == true) = true then
   ∀ w2 : World, ∀ L3 : List Nat, (X.Hid [] w w2) →
   (X.NewL (w).heap.size [] w w2 L3) →
   X.CallX Tryd.prog 25 #[(.agg #[(.int .u8 a_0), (.int .u8 a_1), (.string a_2), (.string a_3), (.int .i64 a_4)])] w2 fun e4 w5 =>
    ∃ b6 : Bool, (e4 = .returned (.bool b6)) ∧
    (X.Kept L3 w2 w5) ∧
    R (.returned (.bool (true && b6))) w5
  else
   ∀ w1 : World, (X.Hid [] w w1) →
   R (.returned (.bool false)) w1) :
    Calls Tryd.prog 7 #[.agg #[.int .u8 a_0, .int .u8 a_1, .string a_2, .string a_3, .int .i64 a_4]] w R :=
  X.calls_of { isLoc := [1], sym := [], loops := [], joins := [] } Tryd.func7 (by kernel_rfl) h
abbrev fn_part_Part_fits : Nat := 25
theorem x_part_Part_fits (a_0 a_1 : Int) (a_2 a_3 : ByteArray) (a_4 : Int) (w : World) (R : Ending → World → Prop) (h :
  if (a_1 == 1) = true then
   ∀ w9 : World, (X.Hid [] w w9) →
   R (.returned (.bool (decide ((((a_3.size) : Nat) : Int) ≤ 64) && (a_4 == 0)))) w9
  else
   if (a_1 == 2) = true then
    if (a_1 == 2) = true then
     ∀ w8 : World, (X.Hid [] w w8) →
     R (.returned (.bool (((a_3.toList) == ((ByteArray.mk #[]).toList)) && decide (a_4 ≥ 0)))) w8
    else
     if (a_1 == 0) = true then
      ∀ w7 : World, (X.Hid [] w w7) →
      R (.returned (.bool (((a_3.toList) == ((ByteArray.mk #[]).toList)) && (a_4 == 0)))) w7
     else
      if (a_1 == 4) = true then
       ∀ w6 : World, (X.Hid [] w w6) →
       R (.returned (.bool (((a_3.toList) == ((ByteArray.mk #[]).toList)) && (a_4 == 0)))) w6
      else
       ∀ w5 : World, (X.Hid [] w w5) →
       R (.returned (.bool false)) w5
   else
    if (a_1 == 3) = true then
     ∀ w4 : World, (X.Hid [] w w4) →
     R (.returned (.bool (((a_3.toList) == ((ByteArray.mk #[]).toList)) && decide (a_4 ≥ 0)))) w4
    else
     if (a_1 == 0) = true then
      ∀ w3 : World, (X.Hid [] w w3) →
      R (.returned (.bool (((a_3.toList) == ((ByteArray.mk #[]).toList)) && (a_4 == 0)))) w3
     else
      if (a_1 == 4) = true then
       ∀ w2 : World, (X.Hid [] w w2) →
       R (.returned (.bool (((a_3.toList) == ((ByteArray.mk #[]).toList)) && (a_4 == 0)))) w2
      else
       ∀ w1 : World, (X.Hid [] w w1) →
       R (.returned (.bool false)) w1) :
    Calls Tryd.prog 25 #[.agg #[.int .u8 a_0, .int .u8 a_1, .string a_2, .string a_3, .int .i64 a_4]] w R :=
  X.calls_of { isLoc := [1], sym := [], loops := [], joins := [] } Tryd.func25 (by kernel_rfl) h
abbrev fn_part_Right_1 : Nat := 29
theorem x_part_Right_1 (a_0 a_1 : Int) (a_2 a_3 : ByteArray) (a_4 : Int) (w : World) (R : Ending → World → Prop) (h :
  ∀ w1 : World, ∀ L2 : List Nat, (X.Hid [] w w1) →
  (X.NewL (w).heap.size [] w w1 L2) →
  X.CallX Tryd.prog 7 #[(.agg #[(.int .u8 a_0), (.int .u8 a_1), (.string a_2), (.string a_3), (.int .i64 a_4)])] w1 fun e3 w4 =>
   ∃ b5 : Bool, (e3 = .returned (.bool b5)) ∧
   (X.Kept L2 w1 w4) ∧
   R (.returned (.bool (!b5))) w4) :
    Calls Tryd.prog 29 #[.agg #[.int .u8 a_0, .int .u8 a_1, .string a_2, .string a_3, .int .i64 a_4]] w R :=
  X.calls_of { isLoc := [1], sym := [], loops := [], joins := [] } Tryd.func29 (by kernel_rfl) h
abbrev fn_part_Right : Nat := 13
theorem x_part_Right (a : Option Addr) (al ac : Nat) (w : World) (R : Ending → World → Prop) (h :
  if (decide (((al : Nat) : Int) < 1) || decide (((al : Nat) : Int) > 4)) = true then
   R (.returned (.bool false)) w
  else
   X.CallX Tryd.prog 28 #[(.slice (a) al ac), (.func (.func 29) #[] #[])] w fun e1 w2 =>
    ∃ b3 : Bool, (e1 = .returned (.bool b3)) ∧
    ((w).heap.size ≤ (w2).heap.size) ∧
    R (.returned (.bool (!b3))) w2) :
    Calls Tryd.prog 13 #[.slice a al ac] w R :=
  X.calls_of { isLoc := [], sym := [], loops := [], joins := [] } Tryd.func13 (by kernel_rfl) h
abbrev fn_ContainsF : Nat := 28
theorem x_ContainsF (a : Option Addr) (al ac : Nat) (w : World) (R : Ending → World → Prop) (h :
  X.CallX Tryd.prog 34 #[(.slice (a) al ac), (.func (.func (OfNat.ofNat 29)) #[] #[])] w fun e1 w2 =>
   ∃ n3 : Int, (e1 = .returned (.int .i64 n3)) ∧
   ((w).heap.size ≤ (w2).heap.size) ∧
   R (.returned (.bool (decide (n3 ≥ 0)))) w2) :
    Calls Tryd.prog 28 #[.slice a al ac, .func (.func 29) #[] #[]] w R :=
  X.calls_of { isLoc := [], sym := [], loops := [], joins := [] } Tryd.func28 (by kernel_rfl) h
abbrev fn_IndexF : Nat := 34
theorem x_IndexF (a : Option Addr) (al ac : Nat) (w : World) (R : Ending → World → Prop) (h :
  ∃ x1 : Int → World → List Nat → Prop, ∃ x2 : Int → World → Nat, (x1 0 w []) ∧
  ∀ n3 : Int, ∀ w4 : World, ∀ L5 : List Nat, (X.LF (w).heap.size w4 L5) →
  (x1 n3 w4 L5) →
  if (decide (n3 < ((al : Nat) : Int))) = true then
   ((0 : Int) ≤ n3) ∧
   (n3 < ((al : Nat) : Int)) ∧
   X.onSome (a) fun p6 =>
   ∃ n7 : Int, ∃ n8 : Int, ∃ s9 : ByteArray, ∃ s10 : ByteArray, ∃ n11 : Int, (X.Cells w4 (p6.add ((n3).toNat * 5)) [(.int .u8 n7), (.int .u8 n8), (.string s9), (.string s10), (.int .i64 n11)]) ∧
   X.CallX Tryd.prog (OfNat.ofNat 29) #[(.agg #[(.int .u8 n7), (.int .u8 n8), (.string s9), (.string s10), (.int .i64 n11)])] w4 fun e12 w13 =>
    ∃ b14 : Bool, (e12 = .returned (.bool b14)) ∧
    ((w4).heap.size ≤ (w13).heap.size) ∧
    if b14 = true then
     R (.returned (.int .i64 n3)) w13
    else
     (x1 (IntKind.wrap .i64 (n3 + 1)) w13 []) ∧
     Nat.le ((x2 (IntKind.wrap .i64 (n3 + 1)) w13) + 1) (x2 n3 w4)
  else
   R (.returned (.int .i64 (-1))) w4) :
    Calls Tryd.prog 34 #[.slice a al ac, .func (.func 29) #[] #[]] w R :=
  X.calls_of { isLoc := [], sym := [], loops := [(2, .inv [(8, .int .i64)] [] true)], joins := [] } Tryd.func34 (by kernel_rfl) h
abbrev fn_r3Right : Nat := 12
theorem x_r3Right (a_0 a_1 : Int) (a_2 a_3 : ByteArray) (a_4 : Int) (w : World) (R : Ending → World → Prop) (h :
  ∀ w1 : World, (X.Hid [] w w1) →
  R (.returned (.bool (((((((decide (a_0 < 4) && decide (a_1 ≤ 4)) && decide ((((a_2.size) : Nat) : Int) ≥ 1)) && decide ((((a_2.size) : Nat) : Int) ≤ 16)) && decide ((((a_3.size) : Nat) : Int) ≤ 64)) && ((a_1 == 1) || ((a_3.toList) == ((ByteArray.mk #[]).toList)))) && decide (a_4 ≥ 0)) && (((a_1 == 2) || (a_1 == 3)) || (a_4 == 0))))) w1) :
    Calls Tryd.prog 12 #[.agg #[.int .u8 a_0, .int .u8 a_1, .string a_2, .string a_3, .int .i64 a_4]] w R :=
  X.calls_of { isLoc := [1], sym := [], loops := [], joins := [] } Tryd.func12 (by kernel_rfl) h
abbrev fn_r3RightAll : Nat := 15
theorem x_r3RightAll (a : Option Addr) (al ac : Nat) (w : World) (R : Ending → World → Prop) (h :
  ∃ x1 : Int → World → List Nat → Prop, ∃ x2 : Int → World → Nat, (x1 0 w []) ∧
  ∀ n3 : Int, ∀ w4 : World, ∀ L5 : List Nat, (X.LF (w).heap.size w4 L5) →
  (x1 n3 w4 L5) →
  if (decide (n3 < ((al : Nat) : Int)) && decide (n3 < 10)) = true then
   ((0 : Int) ≤ n3) ∧
   (n3 < ((al : Nat) : Int)) ∧
   X.onSome (a) fun p6 =>
   ∃ n7 : Int, ∃ n8 : Int, ∃ s9 : ByteArray, ∃ s10 : ByteArray, ∃ n11 : Int, (X.Cells w4 (p6.add ((n3).toNat * 5)) [(.int .u8 n7), (.int .u8 n8), (.string s9), (.string s10), (.int .i64 n11)]) ∧
   X.CallX Tryd.prog 12 #[(.agg #[(.int .u8 n7), (.int .u8 n8), (.string s9), (.string s10), (.int .i64 n11)])] w4 fun e12 w13 =>
    ∃ b14 : Bool, (e12 = .returned (.bool b14)) ∧
    ((w4).heap.size ≤ (w13).heap.size) ∧
    if (!b14) = true then
     R (.returned (.bool false)) w13
    else
     (x1 (IntKind.wrap .i64 (n3 + 1)) w13 []) ∧
     Nat.le ((x2 (IntKind.wrap .i64 (n3 + 1)) w13) + 1) (x2 n3 w4)
  else
   R (.returned (.bool (decide (((al : Nat) : Int) ≥ 1) && decide (((al : Nat) : Int) ≤ 4)))) w4) :
    Calls Tryd.prog 15 #[.slice a al ac] w R :=
  X.calls_of { isLoc := [], sym := [], loops := [(2, .inv [(3, .int .i64)] [] true)], joins := [] } Tryd.func15 (by kernel_rfl) h
abbrev fn_r3Same : Nat := 24
theorem x_r3Same (a : Option Addr) (al ac : Nat) (b : Option Addr) (bl bc : Nat) (w : World) (R : Ending → World → Prop) (h :
  if (((al : Nat) : Int) != ((bl : Nat) : Int)) = true then
   R (.returned (.bool false)) w
  else
   ∃ x1 : Int → World → List Nat → Prop, ∃ x2 : Int → World → Nat, (x1 0 w []) ∧
   ∀ n3 : Int, ∀ w4 : World, ∀ L5 : List Nat, (X.LF (w).heap.size w4 L5) →
   (x1 n3 w4 L5) →
   if (decide (n3 < ((al : Nat) : Int))) = true then
    ((0 : Int) ≤ n3) ∧
    (n3 < ((al : Nat) : Int)) ∧
    X.onSome (a) fun p6 =>
    ∃ n7 : Int, ∃ n8 : Int, ∃ s9 : ByteArray, ∃ s10 : ByteArray, ∃ n11 : Int, (X.Cells w4 (p6.add ((n3).toNat * 5)) [(.int .u8 n7), (.int .u8 n8), (.string s9), (.string s10), (.int .i64 n11)]) ∧
    ((0 : Int) ≤ n3) ∧
    (n3 < ((bl : Nat) : Int)) ∧
    X.onSome (b) fun p12 =>
    ∃ n13 : Int, ∃ n14 : Int, ∃ s15 : ByteArray, ∃ s16 : ByteArray, ∃ n17 : Int, (X.Cells w4 (p12.add ((n3).toNat * 5)) [(.int .u8 n13), (.int .u8 n14), (.string s15), (.string s16), (.int .i64 n17)]) ∧
    if (!((n7 == n13) && ((n8 == n14) && ((s9 == s15) && ((s10 == s16) && (n11 == n17)))))) = true then
     ∀ w19 : World, (X.Hid [] w4 w19) →
     R (.returned (.bool false)) w19
    else
     ∀ w18 : World, (X.Hid [] w4 w18) →
     (x1 (IntKind.wrap .i64 (n3 + 1)) w18 []) ∧
     Nat.le ((x2 (IntKind.wrap .i64 (n3 + 1)) w18) + 1) (x2 n3 w4)
   else
    R (.returned (.bool true)) w4) :
    Calls Tryd.prog 24 #[.slice a al ac, .slice b bl bc] w R :=
  X.calls_of { isLoc := [], sym := [], loops := [(4, .inv [(5, .int .i64)] [] true)], joins := [] } Tryd.func24 (by kernel_rfl) h
abbrev fn_Light3 : Nat := 11
theorem x_Light3 (a : Option Addr) (al ac : Nat) (w : World) (R : Ending → World → Prop) (h :
  ∃ x1 : Int → Int → World → List Nat → Prop, ∃ x2 : Int → Int → World → Nat, (x1 3000 0 w []) ∧
  ∀ n3 : Int, ∀ n4 : Int, ∀ w5 : World, ∀ L6 : List Nat, (X.LF (w).heap.size w5 L6) →
  (x1 n3 n4 w5 L6) →
  if ((decide (n4 < ((al : Nat) : Int)) && decide (n4 < 300)) && decide (n3 ≥ 0)) = true then
   ((0 : Int) ≤ n4) ∧
   (n4 < ((al : Nat) : Int)) ∧
   X.onSome (a) fun p7 =>
   ∃ s8 : ByteArray, (World.cell? w5 ((p7.add ((n4).toNat * 5)).add 2) = some (.string s8)) ∧
   ((0 : Int) ≤ n4) ∧
   (n4 < ((al : Nat) : Int)) ∧
   X.onSome (a) fun p9 =>
   ∃ s10 : ByteArray, (World.cell? w5 ((p9.add ((n4).toNat * 5)).add 3) = some (.string s10)) ∧
   ∀ w11 : World, (X.Hid [] w5 w11) →
   (x1 (IntKind.wrap .i64 ((IntKind.wrap .i64 ((IntKind.wrap .i64 (n3 - 3)) - (if (4000 : Int) < (((s8.size) : Nat) : Int) then 4000 else (((s8.size) : Nat) : Int)))) - (if (4000 : Int) < (((s10.size) : Nat) : Int) then 4000 else (((s10.size) : Nat) : Int)))) (IntKind.wrap .i64 (n4 + 1)) w11 []) ∧
   Nat.le ((x2 (IntKind.wrap .i64 ((IntKind.wrap .i64 ((IntKind.wrap .i64 (n3 - 3)) - (if (4000 : Int) < (((s8.size) : Nat) : Int) then 4000 else (((s8.size) : Nat) : Int)))) - (if (4000 : Int) < (((s10.size) : Nat) : Int) then 4000 else (((s10.size) : Nat) : Int)))) (IntKind.wrap .i64 (n4 + 1)) w11) + 1) (x2 n3 n4 w5)
  else
   R (.returned (.bool (decide (n3 ≥ 0)))) w5) :
    Calls Tryd.prog 11 #[.slice a al ac] w R :=
  X.calls_of { isLoc := [], sym := [], loops := [(3, .inv [(3, .int .i64), (4, .int .i64)] [] true)], joins := [] } Tryd.func11 (by kernel_rfl) h
abbrev fn_Parts : Nat := 14
theorem x_Parts (a : Option Addr) (al ac : Nat) (w : World) (R : Ending → World → Prop) (h :
  ∃ x1 : Option Addr → Nat → Nat → Int → World → List Nat → Prop, ∃ x2 : Option Addr → Nat → Nat → Int → World → Nat, (x1 (none) 0 0 0 w []) ∧
  ∀ q3 : Option Addr, ∀ k4 : Nat, ∀ k5 : Nat, ∀ n6 : Int, ∀ w7 : World, ∀ L8 : List Nat, (X.LF (w).heap.size w7 L8) →
  (x1 q3 k4 k5 n6 w7 L8) →
  if (decide (n6 < ((al : Nat) : Int))) = true then
   ((0 : Int) ≤ n6) ∧
   (n6 < ((al : Nat) : Int)) ∧
   X.onSome (a) fun p9 =>
   ∃ n10 : Int, ∃ n11 : Int, ∃ s12 : ByteArray, ∃ s13 : ByteArray, ∃ n14 : Int, (X.Cells w7 (p9.add ((n6).toNat * 5)) [(.int .u8 n10), (.int .u8 n11), (.string s12), (.string s13), (.int .i64 n14)]) ∧
   X.CallX Tryd.prog 6 #[(.agg #[(.int .u8 n10), (.int .u8 n11), (.string s12), (.string s13), (.int .i64 n14)])] w7 fun e15 w16 =>
    ∃ n17 : Int, ∃ n18 : Int, ∃ s19 : ByteArray, ∃ s20 : ByteArray, ∃ n21 : Int, (e15 = .returned (.agg #[(.int .u8 n17), (.int .u8 n18), (.string s19), (.string s20), (.int .i64 n21)])) ∧
    ((w7).heap.size ≤ (w16).heap.size) ∧
    ∃ q22 : Option Addr, ∃ k23 : Nat, ∃ k24 : Nat, ∃ w25 : World, (Sem.run Tryd.prog (Go.Builtin.append_ #[36, 36] 36 #[(.slice (q3) k4 k5), (.slice (some ⟨(w16).heap.size, 0, none⟩) 1 1)]) (w16.alloc (.cells #[(.int .u8 n17), (.int .u8 n18), (.string s19), (.string s20), (.int .i64 n21)] 24)) = .ok (.slice (q22) k23 k24) w25) ∧
    (((w16.alloc (.cells #[(.int .u8 n17), (.int .u8 n18), (.string s19), (.string s20), (.int .i64 n21)] 24))).heap.size ≤ (w25).heap.size) ∧
    (x1 q22 k23 k24 (IntKind.wrap .i64 (n6 + 1)) w25 []) ∧
    Nat.le ((x2 q22 k23 k24 (IntKind.wrap .i64 (n6 + 1)) w25) + 1) (x2 q3 k4 k5 n6 w7)
  else
   R (.returned (.slice (q3) k4 k5)) w7) :
    Calls Tryd.prog 14 #[.slice a al ac] w R :=
  X.calls_of { isLoc := [], sym := [], loops := [(3, .inv [(3, .slice), (4, .int .i64)] [] true)], joins := [] } Tryd.func14 (by kernel_rfl) h
abbrev fn_Res3 : Nat := 16
theorem x_Res3 (a_0 : Int) (a_1 : ByteArray) (w : World) (R : Ending → World → Prop) (h :
  ∀ w1 : World, (X.Hid [] w w1) →
  R (.returned (.agg #[(.int .u8 a_0), (.string a_1)])) w1) :
    Calls Tryd.prog 16 #[.agg #[.int .u8 a_0, .string a_1]] w R :=
  X.calls_of { isLoc := [1, 2], sym := [], loops := [], joins := [] } Tryd.func16 (by kernel_rfl) h
abbrev fn_RefRes : Nat := 20
theorem x_RefRes (a_0 : Int) (a_1 : ByteArray) (w : World) (R : Ending → World → Prop) (h :
  ∀ w1 : World, (X.Hid [] w w1) →
  R (.returned (.agg #[(.int .u8 a_0), (.string a_1)])) w1) :
    Calls Tryd.prog 20 #[.agg #[.int .u8 a_0, .string a_1]] w R :=
  X.calls_of { isLoc := [1, 2], sym := [], loops := [], joins := [] } Tryd.func20 (by kernel_rfl) h
abbrev fn_ResRight : Nat := 17
theorem x_ResRight (a_0 : Int) (a_1 : ByteArray) (w : World) (R : Ending → World → Prop) (h :
  ∀ w1 : World, (X.Hid [] w w1) →
  R (.returned (.bool (decide (a_0 ≤ 5) && decide ((((a_1.size) : Nat) : Int) ≤ 1000)))) w1) :
    Calls Tryd.prog 17 #[.agg #[.int .u8 a_0, .string a_1]] w R :=
  X.calls_of { isLoc := [1], sym := [], loops := [], joins := [] } Tryd.func17 (by kernel_rfl) h
abbrev fn_rRightRes : Nat := 18
theorem x_rRightRes (a_0 : Int) (a_1 : ByteArray) (w : World) (R : Ending → World → Prop) (h :
  ∀ w1 : World, (X.Hid [] w w1) →
  R (.returned (.bool (decide (a_0 ≤ 5) && decide ((((a_1.size) : Nat) : Int) ≤ 1000)))) w1) :
    Calls Tryd.prog 18 #[.agg #[.int .u8 a_0, .string a_1]] w R :=
  X.calls_of { isLoc := [1], sym := [], loops := [], joins := [] } Tryd.func18 (by kernel_rfl) h
abbrev fn_Join : Nat := 21
theorem x_Join (a_0 : Int) (a_1 : ByteArray) (b_0 : Int) (b_1 : ByteArray) (w : World) (R : Ending → World → Prop) (h :
  if (a_0 != 0) = true then
   ∀ w3 : World, (X.Hid [] w w3) →
   R (.returned (.agg #[(.int .u8 a_0), (.string a_1)])) w3
  else
   if (b_0 != 0) = true then
    ∀ w2 : World, (X.Hid [] w w2) →
    R (.returned (.agg #[(.int .u8 4), (.string b_1)])) w2
   else
    (((((a_1.size) + 1) : Nat) : Int) ≤ 9223372036854775807) ∧
    ((((((a_1 ++ ByteArray.mk #[OfNat.ofNat 44]).size) + (b_1.size)) : Nat) : Int) ≤ 9223372036854775807) ∧
    ∀ w1 : World, (X.Hid [] w w1) →
    R (.returned (.agg #[(.int .u8 0), (.string (a_1 ++ ByteArray.mk #[OfNat.ofNat 44] ++ b_1))])) w1) :
    Calls Tryd.prog 21 #[.agg #[.int .u8 a_0, .string a_1], .agg #[.int .u8 b_0, .string b_1]] w R :=
  X.calls_of { isLoc := [2, 3, 4], sym := [], loops := [], joins := [] } Tryd.func21 (by kernel_rfl) h
abbrev fn_rJoin : Nat := 22
theorem x_rJoin (a_0 : Int) (a_1 : ByteArray) (b_0 : Int) (b_1 : ByteArray) (w : World) (R : Ending → World → Prop) (h :
  if (a_0 != 0) = true then
   ∀ w3 : World, (X.Hid [] w w3) →
   R (.returned (.agg #[(.int .u8 a_0), (.string a_1)])) w3
  else
   if (b_0 != 0) = true then
    ∀ w2 : World, (X.Hid [] w w2) →
    R (.returned (.agg #[(.int .u8 4), (.string b_1)])) w2
   else
    (((((a_1.size) + 1) : Nat) : Int) ≤ 9223372036854775807) ∧
    ((((((a_1 ++ ByteArray.mk #[OfNat.ofNat 44]).size) + (b_1.size)) : Nat) : Int) ≤ 9223372036854775807) ∧
    ∀ w1 : World, (X.Hid [] w w1) →
    R (.returned (.agg #[(.int .u8 0), (.string (a_1 ++ ByteArray.mk #[OfNat.ofNat 44] ++ b_1))])) w1) :
    Calls Tryd.prog 22 #[.agg #[.int .u8 a_0, .string a_1], .agg #[.int .u8 b_0, .string b_1]] w R :=
  X.calls_of { isLoc := [2, 3, 4], sym := [], loops := [], joins := [] } Tryd.func22 (by kernel_rfl) h
abbrev fn_pSame : Nat := 23
theorem x_pSame (a : Option Addr) (al ac : Nat) (b : Option Addr) (bl bc : Nat) (w : World) (R : Ending → World → Prop) (h :
  X.CallX Tryd.prog 31 #[(.slice (a) al ac), (.slice (b) bl bc)] w fun e1 w2 =>
   ∃ b3 : Bool, (e1 = .returned (.bool b3)) ∧
   ((w).heap.size ≤ (w2).heap.size) ∧
   R (.returned (.bool b3)) w2) :
    Calls Tryd.prog 23 #[.slice a al ac, .slice b bl bc] w R :=
  X.calls_of { isLoc := [], sym := [], loops := [], joins := [] } Tryd.func23 (by kernel_rfl) h
abbrev fn_EqualP : Nat := 31
theorem x_EqualP (a : Option Addr) (al ac : Nat) (b : Option Addr) (bl bc : Nat) (w : World) (R : Ending → World → Prop) (h :
  if (((al : Nat) : Int) != ((bl : Nat) : Int)) = true then
   R (.returned (.bool false)) w
  else
   ∃ x1 : Int → World → List Nat → Prop, ∃ x2 : Int → World → Nat, (x1 0 w []) ∧
   ∀ n3 : Int, ∀ w4 : World, ∀ L5 : List Nat, (X.LF (w).heap.size w4 L5) →
   (x1 n3 w4 L5) →
   if (decide (n3 < ((al : Nat) : Int))) = true then
    ((0 : Int) ≤ n3) ∧
    (n3 < ((al : Nat) : Int)) ∧
    X.onSome (a) fun p6 =>
    ∃ n7 : Int, ∃ n8 : Int, ∃ s9 : ByteArray, ∃ s10 : ByteArray, ∃ n11 : Int, (X.Cells w4 (p6.add ((n3).toNat * 5)) [(.int .u8 n7), (.int .u8 n8), (.string s9), (.string s10), (.int .i64 n11)]) ∧
    ((0 : Int) ≤ n3) ∧
    (n3 < ((bl : Nat) : Int)) ∧
    X.onSome (b) fun p12 =>
    ∃ n13 : Int, ∃ n14 : Int, ∃ s15 : ByteArray, ∃ s16 : ByteArray, ∃ n17 : Int, (X.Cells w4 (p12.add ((n3).toNat * 5)) [(.int .u8 n13), (.int .u8 n14), (.string s15), (.string s16), (.int .i64 n17)]) ∧
    if (!((n7 == n13) && ((n8 == n14) && ((s9 == s15) && ((s10 == s16) && (n11 == n17)))))) = true then
     ∀ w19 : World, (X.Hid [] w4 w19) →
     R (.returned (.bool false)) w19
    else
     ∀ w18 : World, (X.Hid [] w4 w18) →
     (x1 (IntKind.wrap .i64 (n3 + 1)) w18 []) ∧
     Nat.le ((x2 (IntKind.wrap .i64 (n3 + 1)) w18) + 1) (x2 n3 w4)
   else
    R (.returned (.bool true)) w4) :
    Calls Tryd.prog 31 #[.slice a al ac, .slice b bl bc] w R :=
  X.calls_of { isLoc := [], sym := [], loops := [(4, .inv [(13, .int .i64)] [] true)], joins := [] } Tryd.func31 (by kernel_rfl) h
abbrev fn_letters : Nat := 8
theorem x_letters (a : ByteArray) (w : World) (R : Ending → World → Prop) (h :
  ∃ x1 : Int → World → List Nat → Prop, ∃ x2 : Int → World → Nat, (x1 0 w []) ∧
  ∀ n3 : Int, ∀ w4 : World, ∀ L5 : List Nat, (X.LF (w).heap.size w4 L5) →
  (x1 n3 w4 L5) →
  if (decide (n3 < (((a.size) : Nat) : Int))) = true then
   ((0 : Int) ≤ n3) ∧
   ∃ x6 : UInt8, ((a.data[n3.toNat]?) = some x6) ∧
   if ((decide ((((x6.toNat) : Nat) : Int) < 97)) == false) = true then
    ((0 : Int) ≤ n3) ∧
    ∃ x7 : UInt8, ((a.data[n3.toNat]?) = some x7) ∧
    if (false || decide ((((x7.toNat) : Nat) : Int) > 122)) = true then
     R (.returned (.bool false)) w4
    else
     (x1 (IntKind.wrap .i64 (n3 + 1)) w4 []) ∧
     Nat.le ((x2 (IntKind.wrap .i64 (n3 + 1)) w4) + 1) (x2 n3 w4)
   else
    R (.returned (.bool false)) w4
  else
   R (.returned (.bool true)) w4) :
    Calls Tryd.prog 8 #[.string a] w R :=
  X.calls_of { isLoc := [], sym := [12, 17], loops := [(2, .inv [(3, .int .i64)] [] true)], joins := [] } Tryd.func8 (by kernel_rfl) h
end Go.Proofs
