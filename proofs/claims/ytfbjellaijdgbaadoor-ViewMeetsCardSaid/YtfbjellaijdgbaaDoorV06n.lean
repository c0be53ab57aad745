import Derived.Test.YtfbjellaijdgbaaDoorXFn
import Derived.Test.YtfbjellaijdgbaaDoorProg
set_option maxRecDepth 100000
set_option linter.unusedVariables false
/- The verification conditions of this seat's functions, as the engine has them: printed by a program of the bench; checked by the kernel. -/
namespace Go.Proofs
open Go
abbrev fn_Proc2 : Nat := 26
theorem x_Proc2 (a_0 a_1 : Int) (w : World) (R : Ending → World → Prop) (h :
  ∀ w1 : World, (X.Hid [] w w1) →
  R (.returned (.agg #[(.int .u8 a_0), (.int .u16 a_1)])) w1) :
    Calls Tryd.prog 26 #[.agg #[.int .u8 a_0, .int .u16 a_1]] w R :=
  X.calls_of { isLoc := [1, 2], sym := [], loops := [], joins := [] } Tryd.func26 (by kernel_rfl) h
abbrev fn_RefProc : Nat := 46
theorem x_RefProc (a_0 a_1 : Int) (w : World) (R : Ending → World → Prop) (h :
  ∀ w1 : World, (X.Hid [] w w1) →
  R (.returned (.agg #[(.int .u8 a_0), (.int .u16 a_1)])) w1) :
    Calls Tryd.prog 46 #[.agg #[.int .u8 a_0, .int .u16 a_1]] w R :=
  X.calls_of { isLoc := [1, 2], sym := [], loops := [], joins := [] } Tryd.func46 (by kernel_rfl) h
abbrev fn_Procs : Nat := 9
theorem x_Procs (a : Option Addr) (al ac : Nat) (w : World) (R : Ending → World → Prop) (h :
  ∃ x1 : Option Addr → Nat → Nat → Int → World → List Nat → Prop, ∃ x2 : Option Addr → Nat → Nat → Int → World → Nat, (x1 (none) 0 0 0 w []) ∧
  ∀ q3 : Option Addr, ∀ k4 : Nat, ∀ k5 : Nat, ∀ n6 : Int, ∀ w7 : World, ∀ L8 : List Nat, (X.LF (w).heap.size w7 L8) →
  (x1 q3 k4 k5 n6 w7 L8) →
  if (decide (n6 < ((al : Nat) : Int))) = true then
   ((0 : Int) ≤ n6) ∧
   (n6 < ((al : Nat) : Int)) ∧
   X.onSome (a) fun p9 =>
   ∃ n10 : Int, ∃ n11 : Int, (X.Cells w7 (p9.add ((n6).toNat * 2)) [(.int .u8 n10), (.int .u16 n11)]) ∧
   X.CallX Tryd.prog 26 #[(.agg #[(.int .u8 n10), (.int .u16 n11)])] w7 fun e12 w13 =>
    ∃ n14 : Int, ∃ n15 : Int, (e12 = .returned (.agg #[(.int .u8 n14), (.int .u16 n15)])) ∧
    ((w7).heap.size ≤ (w13).heap.size) ∧
    ∃ q16 : Option Addr, ∃ k17 : Nat, ∃ k18 : Nat, ∃ w19 : World, (Sem.run Tryd.prog (Go.Builtin.append_ #[28, 28] 28 #[(.slice (q3) k4 k5), (.slice (some ⟨(w13).heap.size, 0, none⟩) 1 1)]) (w13.alloc (.cells #[(.int .u8 n14), (.int .u16 n15)] 48)) = .ok (.slice (q16) k17 k18) w19) ∧
    (((w13.alloc (.cells #[(.int .u8 n14), (.int .u16 n15)] 48))).heap.size ≤ (w19).heap.size) ∧
    (x1 q16 k17 k18 (IntKind.wrap .i64 (n6 + 1)) w19 []) ∧
    Nat.le ((x2 q16 k17 k18 (IntKind.wrap .i64 (n6 + 1)) w19) + 1) (x2 q3 k4 k5 n6 w7)
  else
   R (.returned (.slice (q3) k4 k5)) w7) :
    Calls Tryd.prog 9 #[.slice a al ac] w R :=
  X.calls_of { isLoc := [], sym := [], loops := [(3, .inv [(3, .slice), (4, .int .i64)] [] true)], joins := [] } Tryd.func9 (by kernel_rfl) h
abbrev fn_RefProcs : Nat := 31
theorem x_RefProcs (a : Option Addr) (al ac : Nat) (w : World) (R : Ending → World → Prop) (h :
  ∃ x1 : Option Addr → Nat → Nat → Int → World → List Nat → Prop, ∃ x2 : Option Addr → Nat → Nat → Int → World → Nat, (x1 (none) 0 0 0 w []) ∧
  ∀ q3 : Option Addr, ∀ k4 : Nat, ∀ k5 : Nat, ∀ n6 : Int, ∀ w7 : World, ∀ L8 : List Nat, (X.LF (w).heap.size w7 L8) →
  (x1 q3 k4 k5 n6 w7 L8) →
  if (decide (n6 < ((al : Nat) : Int))) = true then
   ((0 : Int) ≤ n6) ∧
   (n6 < ((al : Nat) : Int)) ∧
   X.onSome (a) fun p9 =>
   ∃ n10 : Int, ∃ n11 : Int, (X.Cells w7 (p9.add ((n6).toNat * 2)) [(.int .u8 n10), (.int .u16 n11)]) ∧
   X.CallX Tryd.prog 46 #[(.agg #[(.int .u8 n10), (.int .u16 n11)])] w7 fun e12 w13 =>
    ∃ n14 : Int, ∃ n15 : Int, (e12 = .returned (.agg #[(.int .u8 n14), (.int .u16 n15)])) ∧
    ((w7).heap.size ≤ (w13).heap.size) ∧
    ∃ q16 : Option Addr, ∃ k17 : Nat, ∃ k18 : Nat, ∃ w19 : World, (Sem.run Tryd.prog (Go.Builtin.append_ #[23, 23] 23 #[(.slice (q3) k4 k5), (.slice (some ⟨(w13).heap.size, 0, none⟩) 1 1)]) (w13.alloc (.cells #[(.int .u8 n14), (.int .u16 n15)] 46)) = .ok (.slice (q16) k17 k18) w19) ∧
    (((w13.alloc (.cells #[(.int .u8 n14), (.int .u16 n15)] 46))).heap.size ≤ (w19).heap.size) ∧
    (x1 q16 k17 k18 (IntKind.wrap .i64 (n6 + 1)) w19 []) ∧
    Nat.le ((x2 q16 k17 k18 (IntKind.wrap .i64 (n6 + 1)) w19) + 1) (x2 q3 k4 k5 n6 w7)
  else
   R (.returned (.slice (q3) k4 k5)) w7) :
    Calls Tryd.prog 31 #[.slice a al ac] w R :=
  X.calls_of { isLoc := [], sym := [], loops := [(3, .inv [(3, .slice), (4, .int .i64)] [] true)], joins := [] } Tryd.func31 (by kernel_rfl) h
abbrev fn_Own6 : Nat := 7
theorem x_Own6 (a_0 a_1 : Int) (a_2 : Option Addr) (a_2l a_2c : Nat) (w : World) (R : Ending → World → Prop) (h :
  ∃ x1 : X.Facts, (X.FactsW x1 w []) ∧
  ∀ w2 : World, ∀ L3 : List Nat, (X.Hid [] w w2) →
  (X.NewL (w).heap.size [] w w2 L3) →
  X.CallX Tryd.prog 9 #[(.slice (a_2) a_2l a_2c)] w2 fun e4 w5 =>
   ∃ q6 : Option Addr, ∃ k7 : Nat, ∃ k8 : Nat, (e4 = .returned (.slice (q6) k7 k8)) ∧
   (X.Kept L3 w2 w5) ∧
   (X.FactsW x1 w5 (L3)) ∧
   ∀ w9 : World, (X.Hid (L3) w5 w9) →
   R (.returned (.agg #[(.int .u8 a_0), (.int .u32 a_1), (.slice (q6) k7 k8)])) w9) :
    Calls Tryd.prog 7 #[.agg #[.int .u8 a_0, .int .u32 a_1, .slice a_2 a_2l a_2c]] w R :=
  X.calls_of { isLoc := [1, 2], sym := [], loops := [], joins := [], stored := [(1, [2])] } Tryd.func7 (by kernel_rfl) h
abbrev fn_Ref6 : Nat := 12
theorem x_Ref6 (a_0 a_1 : Int) (a_2 : Option Addr) (a_2l a_2c : Nat) (w : World) (R : Ending → World → Prop) (h :
  ∃ x1 : X.Facts, (X.FactsW x1 w []) ∧
  ∀ w2 : World, ∀ L3 : List Nat, (X.Hid [] w w2) →
  (X.NewL (w).heap.size [] w w2 L3) →
  X.CallX Tryd.prog 31 #[(.slice (a_2) a_2l a_2c)] w2 fun e4 w5 =>
   ∃ q6 : Option Addr, ∃ k7 : Nat, ∃ k8 : Nat, (e4 = .returned (.slice (q6) k7 k8)) ∧
   (X.Kept L3 w2 w5) ∧
   (X.FactsW x1 w5 (L3)) ∧
   ∀ w9 : World, (X.Hid (L3) w5 w9) →
   R (.returned (.agg #[(.int .u8 a_0), (.int .u32 a_1), (.slice (q6) k7 k8)])) w9) :
    Calls Tryd.prog 12 #[.agg #[.int .u8 a_0, .int .u32 a_1, .slice a_2 a_2l a_2c]] w R :=
  X.calls_of { isLoc := [1, 2], sym := [], loops := [], joins := [], stored := [(1, [2])] } Tryd.func12 (by kernel_rfl) h
abbrev fn_vRight : Nat := 14
theorem x_vRight (a_0 a_1 : Int) (a_2 : Option Addr) (a_2l a_2c : Nat) (w : World) (R : Ending → World → Prop) (h :
  if (((decide (a_0 ≥ 4) || (a_1 == 0)) || (((a_2l : Nat) : Int) == 0)) || decide (((a_2l : Nat) : Int) > 8)) = true then
   ∀ w17 : World, (X.Hid [] w w17) →
   R (.returned (.bool false)) w17
  else
   ∀ w1 : World, ∀ L2 : List Nat, (X.Hid [] w w1) →
   (X.NewL (w).heap.size [] w w1 L2) →
   ∃ x3 : Int → World → List Nat → Prop, ∃ x4 : Int → World → Nat, (x3 0 (w1.alloc (.cells #[(.bool false), (.bool false), (.bool false), (.bool false), (.bool false), (.bool false), (.bool false), (.bool false), (.bool false), (.bool false), (.bool false), (.bool false), (.bool false), (.bool false), (.bool false), (.bool false)] 64)) (L2)) ∧
   ∀ n5 : Int, ∀ w6 : World, ∀ L7 : List Nat, (X.LF (w).heap.size w6 L7) →
   (x3 n5 w6 L7) →
   if (decide (n5 < ((a_2l : Nat) : Int))) = true then
    ((0 : Int) ≤ n5) ∧
    (n5 < ((a_2l : Nat) : Int)) ∧
    X.onSome (a_2) fun p8 =>
    ∃ n9 : Int, ∃ n10 : Int, (X.Cells w6 (p8.add ((n5).toNat * 2)) [(.int .u8 n9), (.int .u16 n10)]) ∧
    (¬ (((p8.add (n5.toNat * 2)).block) ∈ L7)) ∧
    ∀ w11 : World, ∀ L12 : List Nat, (X.Hid (L7) w6 w11) →
    (X.NewL (w).heap.size (L7) w6 w11 L12) →
    X.CallX Tryd.prog 32 #[(.agg #[(.int .u8 n9), (.int .u16 n10)])] w11 fun e13 w14 =>
     ∃ b15 : Bool, (e13 = .returned (.bool b15)) ∧
     (X.Kept L12 w11 w14) ∧
     if ((!b15) == false) = true then
      ((0 : Int) ≤ n9) ∧
      (n9 < 16) ∧
      ∃ b16 : Bool, (World.cell? w14 ((⟨(w1).heap.size, 0, none⟩ : Addr).add ((n9).toNat * 1)) = some (.bool b16)) ∧
      (¬ ((((Addr.mk w1.heap.size 0 none).add (n9.toNat * 1)).block) ∈ L12)) ∧
      if (false || b16) = true then
       R (.returned (.bool false)) w14
      else
       ((0 : Int) ≤ n9) ∧
       (n9 < 16) ∧
       ((((Addr.mk w1.heap.size 0 none).add (n9.toNat * 1)).spot) = none) ∧
       (World.there w14 (((Addr.mk w1.heap.size 0 none).add (n9.toNat * 1)).block) (((Addr.mk w1.heap.size 0 none).add (n9.toNat * 1)).off) 1) ∧
       (¬ ((((Addr.mk w1.heap.size 0 none).add (n9.toNat * 1)).block) ∈ L12)) ∧
       (([(.int .u8 a_0), (.int .u32 a_1), (.slice (a_2) a_2l a_2c)] : List Value) = [(.int .u8 a_0), (.int .u32 a_1), (.slice (a_2) a_2l a_2c)]) ∧
       (x3 (IntKind.wrap .i64 (n5 + 1)) (w14.setCells (((Addr.mk w1.heap.size 0 none).add (n9.toNat * 1)).block) (((Addr.mk w1.heap.size 0 none).add (n9.toNat * 1)).off) [(.bool true)]) (L12)) ∧
       Nat.le ((x4 (IntKind.wrap .i64 (n5 + 1)) (w14.setCells (((Addr.mk w1.heap.size 0 none).add (n9.toNat * 1)).block) (((Addr.mk w1.heap.size 0 none).add (n9.toNat * 1)).off) [(.bool true)])) + 1) (x4 n5 w6)
     else
      R (.returned (.bool false)) w14
   else
    R (.returned (.bool true)) w6) :
    Calls Tryd.prog 14 #[.agg #[.int .u8 a_0, .int .u32 a_1, .slice a_2 a_2l a_2c]] w R :=
  X.calls_of { isLoc := [1, 5], sym := [39, 44], loops := [(5, .inv [(29, .int .i64)] [] true)], joins := [] } Tryd.func14 (by kernel_rfl) h
abbrev fn_pRight : Nat := 32
theorem x_pRight (a_0 a_1 : Int) (w : World) (R : Ending → World → Prop) (h :
  ∀ w1 : World, (X.Hid [] w w1) →
  R (.returned (.bool (decide (a_0 < 16) && decide (a_1 > 0)))) w1) :
    Calls Tryd.prog 32 #[.agg #[.int .u8 a_0, .int .u16 a_1]] w R :=
  X.calls_of { isLoc := [1], sym := [], loops := [], joins := [] } Tryd.func32 (by kernel_rfl) h
abbrev fn_Index : Nat := 33
theorem x_Index (a : Option Addr) (al ac : Nat) (b_0 b_1 : Int) (w : World) (R : Ending → World → Prop) (h :
  ∀ w1 : World, ∀ L2 : List Nat, (X.Hid [] w w1) →
  (X.NewL (w).heap.size [] w w1 L2) →
  ∃ x3 : Int → World → List Nat → Prop, ∃ x4 : Int → World → Nat, (x3 0 w1 (L2)) ∧
  ∀ n5 : Int, ∀ w6 : World, ∀ L7 : List Nat, (X.LF (w).heap.size w6 L7) →
  (x3 n5 w6 L7) →
  if (decide (n5 < ((al : Nat) : Int))) = true then
   ((0 : Int) ≤ n5) ∧
   (n5 < ((al : Nat) : Int)) ∧
   X.onSome (a) fun p8 =>
   ∃ n9 : Int, ∃ n10 : Int, (X.Cells w6 (p8.add ((n5).toNat * 2)) [(.int .u8 n9), (.int .u16 n10)]) ∧
   (¬ (((p8.add (n5.toNat * 2)).block) ∈ L7)) ∧
   if ((b_0 == n9) && (b_1 == n10)) = true then
    ∀ w13 : World, (X.Hid (L7) w6 w13) →
    R (.returned (.int .i64 n5)) w13
   else
    ∀ w11 : World, ∀ L12 : List Nat, (X.Hid (L7) w6 w11) →
    (X.NewL (w).heap.size (L7) w6 w11 L12) →
    (([(.int .u8 b_0), (.int .u16 b_1)] : List Value) = [(.int .u8 b_0), (.int .u16 b_1)]) ∧
    (x3 (IntKind.wrap .i64 (n5 + 1)) w11 (L12)) ∧
    Nat.le ((x4 (IntKind.wrap .i64 (n5 + 1)) w11) + 1) (x4 n5 w6)
  else
   R (.returned (.int .i64 (-1))) w6) :
    Calls Tryd.prog 33 #[.slice a al ac, .agg #[.int .u8 b_0, .int .u16 b_1]] w R :=
  X.calls_of { isLoc := [3], sym := [], loops := [(2, .inv [(8, .int .i64)] [] true)], joins := [] } Tryd.func33 (by kernel_rfl) h
abbrev fn_Rank : Nat := 17
theorem x_Rank (a_0 a_1 : Int) (a_2 : Option Addr) (a_2l a_2c : Nat) (b_0 b_1 : Int) (w : World) (R : Ending → World → Prop) (h :
  ∀ w1 : World, ∀ L2 : List Nat, (X.Hid [] w w1) →
  (X.NewL (w).heap.size [] w w1 L2) →
  X.CallX Tryd.prog 33 #[(.slice (a_2) a_2l a_2c), (.agg #[(.int .u8 b_0), (.int .u16 b_1)])] w1 fun e3 w4 =>
   ∃ n5 : Int, (e3 = .returned (.int .i64 n5)) ∧
   (X.Kept L2 w1 w4) ∧
   R (.returned (.int .i64 n5)) w4) :
    Calls Tryd.prog 17 #[.agg #[.int .u8 a_0, .int .u32 a_1, .slice a_2 a_2l a_2c], .agg #[.int .u8 b_0, .int .u16 b_1]] w R :=
  X.calls_of { isLoc := [2, 3], sym := [], loops := [], joins := [] } Tryd.func17 (by kernel_rfl) h
abbrev fn_Majority : Nat := 20
theorem x_Majority (a_0 a_1 : Int) (a_2 : Option Addr) (a_2l a_2c : Nat) (w : World) (R : Ending → World → Prop) (h :
  ∀ w1 : World, (X.Hid [] w w1) →
  R (.returned (.int .i64 (IntKind.wrap .i64 ((IntKind.wrap .i64 ((((a_2l : Nat) : Int)).tdiv 2)) + 1)))) w1) :
    Calls Tryd.prog 20 #[.agg #[.int .u8 a_0, .int .u32 a_1, .slice a_2 a_2l a_2c]] w R :=
  X.calls_of { isLoc := [1], sym := [], loops := [], joins := [] } Tryd.func20 (by kernel_rfl) h
abbrev fn_ClonePr : Nat := 34
theorem x_ClonePr (a : Option Addr) (al ac : Nat) (w : World) (R : Ending → World → Prop) (h :
  if (a.isNone) = true then
   R (.returned (.slice none 0 0)) w
  else
   ∃ q1 : Option Addr, ∃ k2 : Nat, ∃ k3 : Nat, ∃ w4 : World, (Sem.run Tryd.prog (Go.Builtin.append_ #[28, 28] 28 #[(.slice (some ⟨(w).heap.size, 0, none⟩) 0 0), (.slice (a) al ac)]) (w.alloc (.cells #[] 48)) = .ok (.slice (q1) k2 k3) w4) ∧
   (((w.alloc (.cells #[] 48))).heap.size ≤ (w4).heap.size) ∧
   R (.returned (.slice (q1) k2 k3)) w4) :
    Calls Tryd.prog 34 #[.slice a al ac] w R :=
  X.calls_of { isLoc := [], sym := [], loops := [], joins := [] } Tryd.func34 (by kernel_rfl) h
abbrev fn_Contains : Nat := 40
theorem x_Contains (a : Option Addr) (al ac : Nat) (b_0 b_1 : Int) (w : World) (R : Ending → World → Prop) (h :
  ∀ w1 : World, ∀ L2 : List Nat, (X.Hid [] w w1) →
  (X.NewL (w).heap.size [] w w1 L2) →
  X.CallX Tryd.prog 33 #[(.slice (a) al ac), (.agg #[(.int .u8 b_0), (.int .u16 b_1)])] w1 fun e3 w4 =>
   ∃ n5 : Int, (e3 = .returned (.int .i64 n5)) ∧
   (X.Kept L2 w1 w4) ∧
   R (.returned (.bool (decide (n5 ≥ 0)))) w4) :
    Calls Tryd.prog 40 #[.slice a al ac, .agg #[.int .u8 b_0, .int .u16 b_1]] w R :=
  X.calls_of { isLoc := [3], sym := [], loops := [], joins := [] } Tryd.func40 (by kernel_rfl) h
abbrev fn_num : Nat := 13
theorem x_num (a : Int) (w : World) (R : Ending → World → Prop) (h :
  R (.returned (.int .i64 a)) w) :
    Calls Tryd.prog 13 #[.int .i64 a] w R :=
  X.calls_of { isLoc := [], sym := [], loops := [], joins := [] } Tryd.func13 (by kernel_rfl) h
abbrev fn_few : Nat := 5
theorem x_few (a_0 a_1 : Int) (a_2 : Option Addr) (a_2l a_2c : Nat) (b : Option Addr) (bl bc : Nat) (w : World) (R : Ending → World → Prop) (h :
  ∀ w1 : World, (X.Hid [] w w1) →
  R (.returned (.bool (decide (((a_2l : Nat) : Int) ≤ 40) && decide (((bl : Nat) : Int) ≤ 40)))) w1) :
    Calls Tryd.prog 5 #[.agg #[.int .u8 a_0, .int .u32 a_1, .slice a_2 a_2l a_2c], .slice b bl bc] w R :=
  X.calls_of { isLoc := [2], sym := [], loops := [], joins := [] } Tryd.func5 (by kernel_rfl) h
abbrev fn_First : Nat := 18
theorem x_First (a : Int) (b : Option Addr) (bl bc : Nat) (w : World) (R : Ending → World → Prop) (h :
  ∀ w1 : World, ∀ L2 : List Nat, (X.Hid [] w w1) →
  (X.NewL (w).heap.size [] w w1 L2) →
  X.CallX Tryd.prog 34 #[(.slice (b) bl bc)] w1 fun e3 w4 =>
   ∃ q5 : Option Addr, ∃ k6 : Nat, ∃ k7 : Nat, (e3 = .returned (.slice (q5) k6 k7)) ∧
   (X.Kept L2 w1 w4) ∧
   ∀ w8 : World, ∀ L9 : List Nat, (X.Hid (L2) w4 w8) →
   (X.NewL (w).heap.size (L2) w4 w8 L9) →
   X.CallX Tryd.prog 14 #[(.agg #[(.int .u8 a), (.int .u32 1), (.slice (q5) k6 k7)])] w8 fun e10 w11 =>
    ∃ b12 : Bool, (e10 = .returned (.bool b12)) ∧
    (X.Kept L9 w8 w11) ∧
    if (!b12) = true then
     ∀ w14 : World, (X.Hid (L9) w11 w14) →
     R (.returned (.tuple #[(.agg #[(.int .u8 0), (.int .u32 0), (.slice none 0 0)]), (.int .i64 1)])) w14
    else
     ∀ w13 : World, (X.Hid (L9) w11 w13) →
     R (.returned (.tuple #[(.agg #[(.int .u8 a), (.int .u32 1), (.slice (q5) k6 k7)]), (.int .i64 0)])) w13) :
    Calls Tryd.prog 18 #[.int .u8 a, .slice b bl bc] w R :=
  X.calls_of { isLoc := [4, 6], sym := [], loops := [], joins := [] } Tryd.func18 (by kernel_rfl) h
abbrev fn_rRank : Nat := 16
theorem x_rRank (a : Option Addr) (al ac : Nat) (b_0 b_1 : Int) (w : World) (R : Ending → World → Prop) (h :
  ∀ w1 : World, ∀ L2 : List Nat, (X.Hid [] w w1) →
  (X.NewL (w).heap.size [] w w1 L2) →
  ∃ x3 : Int → World → List Nat → Prop, ∃ x4 : Int → World → Nat, (x3 0 w1 (L2)) ∧
  ∀ n5 : Int, ∀ w6 : World, ∀ L7 : List Nat, (X.LF (w).heap.size w6 L7) →
  (x3 n5 w6 L7) →
  if (decide (n5 < ((al : Nat) : Int))) = true then
   ((0 : Int) ≤ n5) ∧
   (n5 < ((al : Nat) : Int)) ∧
   X.onSome (a) fun p8 =>
   ∃ n9 : Int, ∃ n10 : Int, (X.Cells w6 (p8.add ((n5).toNat * 2)) [(.int .u8 n9), (.int .u16 n10)]) ∧
   (¬ (((p8.add (n5.toNat * 2)).block) ∈ L7)) ∧
   if ((n9 == b_0) && (n10 == b_1)) = true then
    ∀ w13 : World, (X.Hid (L7) w6 w13) →
    R (.returned (.int .i64 n5)) w13
   else
    ∀ w11 : World, ∀ L12 : List Nat, (X.Hid (L7) w6 w11) →
    (X.NewL (w).heap.size (L7) w6 w11 L12) →
    (([(.int .u8 b_0), (.int .u16 b_1)] : List Value) = [(.int .u8 b_0), (.int .u16 b_1)]) ∧
    (x3 (IntKind.wrap .i64 (n5 + 1)) w11 (L12)) ∧
    Nat.le ((x4 (IntKind.wrap .i64 (n5 + 1)) w11) + 1) (x4 n5 w6)
  else
   R (.returned (.int .i64 (-1))) w6) :
    Calls Tryd.prog 16 #[.slice a al ac, .agg #[.int .u8 b_0, .int .u16 b_1]] w R :=
  X.calls_of { isLoc := [3], sym := [], loops := [(2, .inv [(5, .int .i64)] [] true)], joins := [] } Tryd.func16 (by kernel_rfl) h
abbrev fn_rRight : Nat := 27
theorem x_rRight (a_0 a_1 : Int) (a_2 : Option Addr) (a_2l a_2c : Nat) (w : World) (R : Ending → World → Prop) (h :
  if (((decide (a_0 ≥ 4) || decide (a_1 < 1)) || decide (((a_2l : Nat) : Int) < 1)) || decide (((a_2l : Nat) : Int) > 8)) = true then
   ∀ w26 : World, (X.Hid [] w w26) →
   R (.returned (.bool false)) w26
  else
   ∀ w1 : World, ∀ L2 : List Nat, (X.Hid [] w w1) →
   (X.NewL (w).heap.size [] w w1 L2) →
   ∃ x3 : Int → World → List Nat → Prop, ∃ x4 : Int → World → Nat, (x3 0 w1 (L2)) ∧
   ∀ n5 : Int, ∀ w6 : World, ∀ L7 : List Nat, (X.LF (w).heap.size w6 L7) →
   (x3 n5 w6 L7) →
   if (decide (n5 < ((a_2l : Nat) : Int))) = true then
    ((0 : Int) ≤ n5) ∧
    (n5 < ((a_2l : Nat) : Int)) ∧
    X.onSome (a_2) fun p8 =>
    ∃ n9 : Int, ∃ n10 : Int, (X.Cells w6 (p8.add ((n5).toNat * 2)) [(.int .u8 n9), (.int .u16 n10)]) ∧
    (¬ (((p8.add (n5.toNat * 2)).block) ∈ L7)) ∧
    X.CallX Tryd.prog 28 #[(.agg #[(.int .u8 n9), (.int .u16 n10)])] w6 fun e11 w12 =>
     ∃ b13 : Bool, (e11 = .returned (.bool b13)) ∧
     (X.Kept L7 w6 w12) ∧
     if (!b13) = true then
      R (.returned (.bool false)) w12
     else
      ∃ x14 : Int → World → List Nat → Prop, ∃ x15 : Int → World → Nat, (x14 0 w12 (L7)) ∧
      ∀ n16 : Int, ∀ w17 : World, ∀ L18 : List Nat, (X.LF (w).heap.size w17 L18) →
      (x14 n16 w17 L18) →
      if (decide (n16 < n5)) = true then
       ((0 : Int) ≤ n16) ∧
       (n16 < ((a_2l : Nat) : Int)) ∧
       X.onSome (a_2) fun p19 =>
       ∃ n20 : Int, (World.cell? w17 ((p19.add ((n16).toNat * 2)).add 0) = some (.int .u8 n20)) ∧
       (¬ ((((p19.add (n16.toNat * 2)).add 0).block) ∈ L18)) ∧
       ((0 : Int) ≤ n5) ∧
       (n5 < ((a_2l : Nat) : Int)) ∧
       X.onSome (a_2) fun p21 =>
       ∃ n22 : Int, (World.cell? w17 ((p21.add ((n5).toNat * 2)).add 0) = some (.int .u8 n22)) ∧
       (¬ ((((p21.add (n5.toNat * 2)).add 0).block) ∈ L18)) ∧
       if (n20 == n22) = true then
        ∀ w25 : World, (X.Hid (L18) w17 w25) →
        R (.returned (.bool false)) w25
       else
        ∀ w23 : World, ∀ L24 : List Nat, (X.Hid (L18) w17 w23) →
        (X.NewL (w).heap.size (L18) w17 w23 L24) →
        (([(.int .u8 a_0), (.int .u32 a_1), (.slice (a_2) a_2l a_2c)] : List Value) = [(.int .u8 a_0), (.int .u32 a_1), (.slice (a_2) a_2l a_2c)]) ∧
        (x14 (IntKind.wrap .i64 (n16 + 1)) w23 (L24)) ∧
        Nat.le ((x15 (IntKind.wrap .i64 (n16 + 1)) w23) + 1) (x15 n16 w17)
      else
       (([(.int .u8 a_0), (.int .u32 a_1), (.slice (a_2) a_2l a_2c)] : List Value) = [(.int .u8 a_0), (.int .u32 a_1), (.slice (a_2) a_2l a_2c)]) ∧
       (x3 (IntKind.wrap .i64 (n5 + 1)) w17 (L18)) ∧
       Nat.le ((x4 (IntKind.wrap .i64 (n5 + 1)) w17) + 1) (x4 n5 w6)
   else
    R (.returned (.bool true)) w6) :
    Calls Tryd.prog 27 #[.agg #[.int .u8 a_0, .int .u32 a_1, .slice a_2 a_2l a_2c]] w R :=
  X.calls_of { isLoc := [1], sym := [], loops := [(4, .inv [(3, .int .i64)] [] true), (9, .inv [(4, .int .i64)] [] true)], joins := [] } Tryd.func27 (by kernel_rfl) h
abbrev fn_rRightP : Nat := 28
theorem x_rRightP (a_0 a_1 : Int) (w : World) (R : Ending → World → Prop) (h :
  ∀ w1 : World, (X.Hid [] w w1) →
  R (.returned (.bool (decide (a_0 < 16) && decide (a_1 ≥ 1)))) w1) :
    Calls Tryd.prog 28 #[.agg #[.int .u8 a_0, .int .u16 a_1]] w R :=
  X.calls_of { isLoc := [1], sym := [], loops := [], joins := [] } Tryd.func28 (by kernel_rfl) h
abbrev fn_rQuorum : Nat := 29
theorem x_rQuorum (a_0 a_1 : Int) (a_2 : Option Addr) (a_2l a_2c : Nat) (b : Option Addr) (bl bc : Nat) (w : World) (R : Ending → World → Prop) (h :
  ∀ w1 : World, ∀ L2 : List Nat, (X.Hid [] w w1) →
  (X.NewL (w).heap.size [] w w1 L2) →
  ∃ x3 : Int → Int → World → List Nat → Prop, ∃ x4 : Int → Int → World → Nat, (x3 0 0 w1 (L2)) ∧
  ∀ n5 : Int, ∀ n6 : Int, ∀ w7 : World, ∀ L8 : List Nat, (X.LF (w).heap.size w7 L8) →
  (x3 n5 n6 w7 L8) →
  if (decide (n6 < ((a_2l : Nat) : Int))) = true then
   ((0 : Int) ≤ n6) ∧
   (n6 < ((a_2l : Nat) : Int)) ∧
   X.onSome (a_2) fun p12 =>
   ∃ n13 : Int, ∃ n14 : Int, (X.Cells w7 (p12.add ((n6).toNat * 2)) [(.int .u8 n13), (.int .u16 n14)]) ∧
   (¬ (((p12.add (n6.toNat * 2)).block) ∈ L8)) ∧
   X.CallX Tryd.prog 16 #[(.slice (b) bl bc), (.agg #[(.int .u8 n13), (.int .u16 n14)])] w7 fun e15 w16 =>
    ∃ n17 : Int, (e15 = .returned (.int .i64 n17)) ∧
    (X.Kept L8 w7 w16) ∧
    if (decide (n17 ≥ 0)) = true then
     (([(.int .u8 a_0), (.int .u32 a_1), (.slice (a_2) a_2l a_2c)] : List Value) = [(.int .u8 a_0), (.int .u32 a_1), (.slice (a_2) a_2l a_2c)]) ∧
     (x3 (IntKind.wrap .i64 (n5 + 1)) (IntKind.wrap .i64 (n6 + 1)) w16 (L8)) ∧
     Nat.le ((x4 (IntKind.wrap .i64 (n5 + 1)) (IntKind.wrap .i64 (n6 + 1)) w16) + 1) (x4 n5 n6 w7)
    else
     (([(.int .u8 a_0), (.int .u32 a_1), (.slice (a_2) a_2l a_2c)] : List Value) = [(.int .u8 a_0), (.int .u32 a_1), (.slice (a_2) a_2l a_2c)]) ∧
     (x3 n5 (IntKind.wrap .i64 (n6 + 1)) w16 (L8)) ∧
     Nat.le ((x4 n5 (IntKind.wrap .i64 (n6 + 1)) w16) + 1) (x4 n5 n6 w7)
  else
   X.CallX Tryd.prog 45 #[(.agg #[(.int .u8 a_0), (.int .u32 a_1), (.slice (a_2) a_2l a_2c)])] w7 fun e9 w10 =>
    ∃ n11 : Int, (e9 = .returned (.int .i64 n11)) ∧
    (X.Kept L8 w7 w10) ∧
    R (.returned (.bool (decide (n5 ≥ n11)))) w10) :
    Calls Tryd.prog 29 #[.agg #[.int .u8 a_0, .int .u32 a_1, .slice a_2 a_2l a_2c], .slice b bl bc] w R :=
  X.calls_of { isLoc := [2], sym := [], loops := [(3, .inv [(5, .int .i64), (6, .int .i64)] [] true)], joins := [] } Tryd.func29 (by kernel_rfl) h
abbrev fn_rMajority : Nat := 45
theorem x_rMajority (a_0 a_1 : Int) (a_2 : Option Addr) (a_2l a_2c : Nat) (w : World) (R : Ending → World → Prop) (h :
  ∀ w1 : World, (X.Hid [] w w1) →
  R (.returned (.int .i64 (IntKind.wrap .i64 ((IntKind.wrap .i64 ((((a_2l : Nat) : Int)).tdiv 2)) + 1)))) w1) :
    Calls Tryd.prog 45 #[.agg #[.int .u8 a_0, .int .u32 a_1, .slice a_2 a_2l a_2c]] w R :=
  X.calls_of { isLoc := [1], sym := [], loops := [], joins := [] } Tryd.func45 (by kernel_rfl) h
abbrev fn_SameProcs : Nat := 30
theorem x_SameProcs (a : Option Addr) (al ac : Nat) (b : Option Addr) (bl bc : Nat) (w : World) (R : Ending → World → Prop) (h :
  if (((al : Nat) : Int) != ((bl : Nat) : Int)) = true then
   R (.returned (.bool false)) w
  else
   ∃ x1 : Int → World → List Nat → Prop, ∃ x2 : Int → World → Nat, (x1 0 w []) ∧
   ∀ n3 : Int, ∀ w4 : World, ∀ L5 : List Nat, (X.LF (w).heap.size w4 L5) →
   (x1 n3 w4 L5) →
   if (decide (n3 < ((al : Nat) : Int))) = true then
    ((0 : Int) ≤ n3) ∧
    (n3 < ((al : Nat) : Int)) ∧
    X.onSome (a) fun p6 =>
    ∃ n7 : Int, ∃ n8 : Int, (X.Cells w4 (p6.add ((n3).toNat * 2)) [(.int .u8 n7), (.int .u16 n8)]) ∧
    ((0 : Int) ≤ n3) ∧
    (n3 < ((bl : Nat) : Int)) ∧
    X.onSome (b) fun p9 =>
    ∃ n10 : Int, ∃ n11 : Int, (X.Cells w4 (p9.add ((n3).toNat * 2)) [(.int .u8 n10), (.int .u16 n11)]) ∧
    if (!((n7 == n10) && (n8 == n11))) = true then
     ∀ w13 : World, (X.Hid [] w4 w13) →
     R (.returned (.bool false)) w13
    else
     ∀ w12 : World, (X.Hid [] w4 w12) →
     (x1 (IntKind.wrap .i64 (n3 + 1)) w12 []) ∧
     Nat.le ((x2 (IntKind.wrap .i64 (n3 + 1)) w12) + 1) (x2 n3 w4)
   else
    R (.returned (.bool true)) w4) :
    Calls Tryd.prog 30 #[.slice a al ac, .slice b bl bc] w R :=
  X.calls_of { isLoc := [], sym := [], loops := [(4, .inv [(5, .int .i64)] [] true)], joins := [] } Tryd.func30 (by kernel_rfl) h
abbrev fn_r6Same : Nat := 11
theorem x_r6Same (a_0 a_1 : Int) (a_2 : Option Addr) (a_2l a_2c : Nat) (b_0 b_1 : Int) (b_2 : Option Addr) (b_2l b_2c : Nat) (w : World) (R : Ending → World → Prop) (h :
  if (((a_0 == b_0) && (a_1 == b_1)) == true) = true then
   ∀ w2 : World, ∀ L3 : List Nat, (X.Hid [] w w2) →
   (X.NewL (w).heap.size [] w w2 L3) →
   X.CallX Tryd.prog 30 #[(.slice (a_2) a_2l a_2c), (.slice (b_2) b_2l b_2c)] w2 fun e4 w5 =>
    ∃ b6 : Bool, (e4 = .returned (.bool b6)) ∧
    (X.Kept L3 w2 w5) ∧
    R (.returned (.bool (true && b6))) w5
  else
   ∀ w1 : World, (X.Hid [] w w1) →
   R (.returned (.bool false)) w1) :
    Calls Tryd.prog 11 #[.agg #[.int .u8 a_0, .int .u32 a_1, .slice a_2 a_2l a_2c], .agg #[.int .u8 b_0, .int .u32 b_1, .slice b_2 b_2l b_2c]] w R :=
  X.calls_of { isLoc := [2, 3], sym := [], loops := [], joins := [] } Tryd.func11 (by kernel_rfl) h
end Go.Proofs
/- The verification conditions of this seat's functions, as the engine has them: printed by a program of the bench; checked by the kernel. -/
namespace Go.Proofs
open Go
abbrev fn_among : Nat := 21
theorem x_among (a : Option Addr) (al ac : Nat) (w : World) (R : Ending → World → Prop) (h :
  R (.returned (.func (.func 39) #[] #[(.pointer (some ⟨(w).heap.size, 0, none⟩))])) (w.alloc (.cells #[(.slice (a) al ac)] 28))) :
    Calls Tryd.prog 21 #[.slice a al ac] w R :=
  X.calls_of { isLoc := [], sym := [], loops := [], joins := [] } Tryd.func21 (by kernel_rfl) h
abbrev fn_which : Nat := 23
theorem x_which (a_0 a_1 : Int) (a_2 : Option Addr) (a_2l a_2c : Nat) (g : FuncId) (lb : Array Value) (w : World) (R : Ending → World → Prop) (h :
  R (.returned (.func (.func 42) #[] #[(.pointer (some ⟨(w).heap.size, 0, none⟩)), (.pointer (some ⟨((w.alloc (.cells #[(.int .u8 a_0), (.int .u32 a_1), (.slice (a_2) a_2l a_2c)] 30))).heap.size, 0, none⟩))])) ((w.alloc (.cells #[(.int .u8 a_0), (.int .u32 a_1), (.slice (a_2) a_2l a_2c)] 30)).alloc (.cells #[(.func (.func g) #[] (lb))] 52))) :
    Calls Tryd.prog 23 #[.agg #[.int .u8 a_0, .int .u32 a_1, .slice a_2 a_2l a_2c], .func (.func g) #[] lb] w R :=
  X.calls_of { isLoc := [], sym := [], loops := [], joins := [] } Tryd.func23 (by kernel_rfl) h
abbrev fn_among1 : Nat := 39
theorem x_among1 (a_0 a_1 : Int) (z0 : Addr) (w : World) (R : Ending → World → Prop) (h :
  ∃ q1 : Option Addr, ∃ k2 : Nat, ∃ k3 : Nat, (World.cell? w z0 = some (.slice (q1) k2 k3)) ∧
  ∀ w4 : World, ∀ L5 : List Nat, (X.Hid [] w w4) →
  (X.NewL (w).heap.size [] w w4 L5) →
  X.CallX Tryd.prog 40 #[(.slice (q1) k2 k3), (.agg #[(.int .u8 a_0), (.int .u16 a_1)])] w4 fun e6 w7 =>
   ∃ b8 : Bool, (e6 = .returned (.bool b8)) ∧
   (X.Kept L5 w4 w7) ∧
   R (.returned (.bool b8)) w7) :
    Calls Tryd.prog 39 #[.agg #[.int .u8 a_0, .int .u16 a_1], .pointer (some z0)] w R :=
  X.calls_of { isLoc := [2], sym := [], loops := [], joins := [] } Tryd.func39 (by kernel_rfl) h
abbrev fn_take1 : Nat := 44
theorem x_take1 (a_0 a_1 : Int) (z0 : Addr) (w : World) (R : Ending → World → Prop) (h :
  ∃ n1 : Int, (World.cell? w (z0.add 0) = some (.int .u8 n1)) ∧
  ∀ w2 : World, (X.Hid [] w w2) →
  R (.returned (.bool (a_0 == n1))) w2) :
    Calls Tryd.prog 44 #[.agg #[.int .u8 a_0, .int .u16 a_1], .pointer (some z0)] w R :=
  X.calls_of { isLoc := [2], sym := [], loops := [], joins := [] } Tryd.func44 (by kernel_rfl) h
abbrev fn_IndexFunc : Nat := 43
theorem x_IndexFunc (a : Option Addr) (al ac : Nat) (z0 : Addr) (w : World) (R : Ending → World → Prop) (h :
  ∃ x1 : Int → World → List Nat → Prop, ∃ x2 : Int → World → Nat, (x1 0 w []) ∧
  ∀ n3 : Int, ∀ w4 : World, ∀ L5 : List Nat, (X.LF (w).heap.size w4 L5) →
  (x1 n3 w4 L5) →
  if (decide (n3 < ((al : Nat) : Int))) = true then
   ((0 : Int) ≤ n3) ∧
   (n3 < ((al : Nat) : Int)) ∧
   X.onSome (a) fun p6 =>
   ∃ n7 : Int, ∃ n8 : Int, (X.Cells w4 (p6.add ((n3).toNat * 2)) [(.int .u8 n7), (.int .u16 n8)]) ∧
   X.CallX Tryd.prog (OfNat.ofNat 44) #[(.agg #[(.int .u8 n7), (.int .u16 n8)]), (.pointer (some z0))] w4 fun e9 w10 =>
    ∃ b11 : Bool, (e9 = .returned (.bool b11)) ∧
    ((w4).heap.size ≤ (w10).heap.size) ∧
    if b11 = true then
     R (.returned (.int .i64 n3)) w10
    else
     (x1 (IntKind.wrap .i64 (n3 + 1)) w10 []) ∧
     Nat.le ((x2 (IntKind.wrap .i64 (n3 + 1)) w10) + 1) (x2 n3 w4)
  else
   R (.returned (.int .i64 (-1))) w4) :
    Calls Tryd.prog 43 #[.slice a al ac, .func (.func 44) #[] #[.pointer (some z0)]] w R :=
  X.calls_of { isLoc := [], sym := [], loops := [(2, .inv [(8, .int .i64)] [] true)], joins := [] } Tryd.func43 (by kernel_rfl) h
abbrev fn_take : Nat := 25
theorem x_take (a : Option Addr) (al ac : Nat) (b_0 b_1 : Int) (w : World) (R : Ending → World → Prop) (h :
  ∃ n1 : Int, ∃ n2 : Int, (X.Cells (w.alloc (.cells #[(.int .u8 b_0), (.int .u16 b_1)] 48)) ⟨(w).heap.size, 0, none⟩ [(.int .u8 n1), (.int .u16 n2)]) ∧
  X.CallX Tryd.prog 32 #[(.agg #[(.int .u8 n1), (.int .u16 n2)])] (w.alloc (.cells #[(.int .u8 b_0), (.int .u16 b_1)] 48)) fun e3 w4 =>
   ∃ b5 : Bool, (e3 = .returned (.bool b5)) ∧
   (((w.alloc (.cells #[(.int .u8 b_0), (.int .u16 b_1)] 48))).heap.size ≤ (w4).heap.size) ∧
   if (!b5) = true then
    R (.returned (.slice (a) al ac)) w4
   else
    X.CallX Tryd.prog 43 #[(.slice (a) al ac), (.func (.func 44) #[] #[(.pointer (some ⟨(w).heap.size, 0, none⟩))])] w4 fun e6 w7 =>
     ∃ n8 : Int, (e6 = .returned (.int .i64 n8)) ∧
     ((w4).heap.size ≤ (w7).heap.size) ∧
     if (decide (n8 < 0)) = true then
      ∃ n12 : Int, ∃ n13 : Int, (X.Cells w7 ⟨(w).heap.size, 0, none⟩ [(.int .u8 n12), (.int .u16 n13)]) ∧
      ∃ q14 : Option Addr, ∃ k15 : Nat, ∃ k16 : Nat, ∃ w17 : World, (Sem.run Tryd.prog (Go.Builtin.append_ #[28, 28] 28 #[(.slice (a) al ac), (.slice (some ⟨(w7).heap.size, 0, none⟩) 1 1)]) (w7.alloc (.cells #[(.int .u8 n12), (.int .u16 n13)] 48)) = .ok (.slice (q14) k15 k16) w17) ∧
      (((w7.alloc (.cells #[(.int .u8 n12), (.int .u16 n13)] 48))).heap.size ≤ (w17).heap.size) ∧
      R (.returned (.slice (q14) k15 k16)) w17
     else
      ∃ n9 : Int, ∃ n10 : Int, (X.Cells w7 ⟨(w).heap.size, 0, none⟩ [(.int .u8 n9), (.int .u16 n10)]) ∧
      ((0 : Int) ≤ n8) ∧
      (n8 < ((al : Nat) : Int)) ∧
      X.onSome (a) fun p11 =>
      (((p11.add (n8.toNat * 2)).spot) = none) ∧
      (World.there w7 ((p11.add (n8.toNat * 2)).block) ((p11.add (n8.toNat * 2)).off) 2) ∧
      R (.returned (.slice (a) al ac)) (w7.setCells ((p11.add (n8.toNat * 2)).block) ((p11.add (n8.toNat * 2)).off) [(.int .u8 n9), (.int .u16 n10)])) :
    Calls Tryd.prog 25 #[.slice a al ac, .agg #[.int .u8 b_0, .int .u16 b_1]] w R :=
  X.calls_of { isLoc := [], sym := [], loops := [], joins := [] } Tryd.func25 (by kernel_rfl) h
abbrev fn_Collect : Nat := 22
theorem x_Collect (z0 z1 : Addr) (w : World) (R : Ending → World → Prop) (h :
  X.CallX Tryd.prog 41 #[(.slice none 0 0), (.func (.func (OfNat.ofNat 42)) #[] #[(.pointer (some z0)), (.pointer (some z1))])] w fun e1 w2 =>
   ∃ q3 : Option Addr, ∃ k4 : Nat, ∃ k5 : Nat, (e1 = .returned (.slice (q3) k4 k5)) ∧
   ((w).heap.size ≤ (w2).heap.size) ∧
   R (.returned (.slice (q3) k4 k5)) w2) :
    Calls Tryd.prog 22 #[.func (.func 42) #[] #[.pointer (some z0), .pointer (some z1)]] w R :=
  X.calls_of { isLoc := [], sym := [], loops := [], joins := [] } Tryd.func22 (by kernel_rfl) h
end Go.Proofs
/- The verification conditions of this seat's functions, as the engine has them: printed by a program of the bench; checked by the kernel. -/
namespace Go.Proofs
open Go
abbrev fn_small : Nat := 52
theorem x_small (a : Int) (w : World) (R : Ending → World → Prop) (h :
  if (decide (a < 10)) = true then
   ((0 : Int) ≤ (IntKind.wrap .i64 (a + 1))) ∧
   ((IntKind.wrap .i64 (a + 1)) ≤ 36) ∧
   ((0 : Int) ≤ a) ∧
   (a ≤ (IntKind.wrap .i64 (a + 1))) ∧
   R (.returned (.string ((ByteArray.mk #[OfNat.ofNat 48, OfNat.ofNat 49, OfNat.ofNat 50, OfNat.ofNat 51, OfNat.ofNat 52, OfNat.ofNat 53, OfNat.ofNat 54, OfNat.ofNat 55, OfNat.ofNat 56, OfNat.ofNat 57, OfNat.ofNat 97, OfNat.ofNat 98, OfNat.ofNat 99, OfNat.ofNat 100, OfNat.ofNat 101, OfNat.ofNat 102, OfNat.ofNat 103, OfNat.ofNat 104, OfNat.ofNat 105, OfNat.ofNat 106, OfNat.ofNat 107, OfNat.ofNat 108, OfNat.ofNat 109, OfNat.ofNat 110, OfNat.ofNat 111, OfNat.ofNat 112, OfNat.ofNat 113, OfNat.ofNat 114, OfNat.ofNat 115, OfNat.ofNat 116, OfNat.ofNat 117, OfNat.ofNat 118, OfNat.ofNat 119, OfNat.ofNat 120, OfNat.ofNat 121, OfNat.ofNat 122]).extract a.toNat (IntKind.i64.wrap (a + 1)).toNat))) w
  else
   ((0 : Int) ≤ (IntKind.wrap .i64 ((IntKind.wrap .i64 (a * 2)) + 2))) ∧
   ((IntKind.wrap .i64 ((IntKind.wrap .i64 (a * 2)) + 2)) ≤ 200) ∧
   ((0 : Int) ≤ (IntKind.wrap .i64 (a * 2))) ∧
   ((IntKind.wrap .i64 (a * 2)) ≤ (IntKind.wrap .i64 ((IntKind.wrap .i64 (a * 2)) + 2))) ∧
   R (.returned (.string ((ByteArray.mk (([OfNat.ofNat 48, OfNat.ofNat 48, OfNat.ofNat 48, OfNat.ofNat 49, OfNat.ofNat 48, OfNat.ofNat 50, OfNat.ofNat 48, OfNat.ofNat 51, OfNat.ofNat 48, OfNat.ofNat 52, OfNat.ofNat 48, OfNat.ofNat 53, OfNat.ofNat 48, OfNat.ofNat 54, OfNat.ofNat 48, OfNat.ofNat 55, OfNat.ofNat 48, OfNat.ofNat 56, OfNat.ofNat 48, OfNat.ofNat 57, OfNat.ofNat 49, OfNat.ofNat 48, OfNat.ofNat 49, OfNat.ofNat 49, OfNat.ofNat 49, OfNat.ofNat 50, OfNat.ofNat 49, OfNat.ofNat 51, OfNat.ofNat 49, OfNat.ofNat 52, OfNat.ofNat 49, OfNat.ofNat 53, OfNat.ofNat 49, OfNat.ofNat 54, OfNat.ofNat 49, OfNat.ofNat 55, OfNat.ofNat 49, OfNat.ofNat 56, OfNat.ofNat 49, OfNat.ofNat 57, OfNat.ofNat 50, OfNat.ofNat 48, OfNat.ofNat 50, OfNat.ofNat 49, OfNat.ofNat 50, OfNat.ofNat 50, OfNat.ofNat 50, OfNat.ofNat 51, OfNat.ofNat 50, OfNat.ofNat 52].append [OfNat.ofNat 50, OfNat.ofNat 53, OfNat.ofNat 50, OfNat.ofNat 54, OfNat.ofNat 50, OfNat.ofNat 55, OfNat.ofNat 50, OfNat.ofNat 56, OfNat.ofNat 50, OfNat.ofNat 57, OfNat.ofNat 51, OfNat.ofNat 48, OfNat.ofNat 51, OfNat.ofNat 49, OfNat.ofNat 51, OfNat.ofNat 50, OfNat.ofNat 51, OfNat.ofNat 51, OfNat.ofNat 51, OfNat.ofNat 52, OfNat.ofNat 51, OfNat.ofNat 53, OfNat.ofNat 51, OfNat.ofNat 54, OfNat.ofNat 51, OfNat.ofNat 55, OfNat.ofNat 51, OfNat.ofNat 56, OfNat.ofNat 51, OfNat.ofNat 57, OfNat.ofNat 52, OfNat.ofNat 48, OfNat.ofNat 52, OfNat.ofNat 49, OfNat.ofNat 52, OfNat.ofNat 50, OfNat.ofNat 52, OfNat.ofNat 51, OfNat.ofNat 52, OfNat.ofNat 52, OfNat.ofNat 52, OfNat.ofNat 53, OfNat.ofNat 52, OfNat.ofNat 54, OfNat.ofNat 52, OfNat.ofNat 55, OfNat.ofNat 52, OfNat.ofNat 56, OfNat.ofNat 52, OfNat.ofNat 57]).append ([OfNat.ofNat 53, OfNat.ofNat 48, OfNat.ofNat 53, OfNat.ofNat 49, OfNat.ofNat 53, OfNat.ofNat 50, OfNat.ofNat 53, OfNat.ofNat 51, OfNat.ofNat 53, OfNat.ofNat 52, OfNat.ofNat 53, OfNat.ofNat 53, OfNat.ofNat 53, OfNat.ofNat 54, OfNat.ofNat 53, OfNat.ofNat 55, OfNat.ofNat 53, OfNat.ofNat 56, OfNat.ofNat 53, OfNat.ofNat 57, OfNat.ofNat 54, OfNat.ofNat 48, OfNat.ofNat 54, OfNat.ofNat 49, OfNat.ofNat 54, OfNat.ofNat 50, OfNat.ofNat 54, OfNat.ofNat 51, OfNat.ofNat 54, OfNat.ofNat 52, OfNat.ofNat 54, OfNat.ofNat 53, OfNat.ofNat 54, OfNat.ofNat 54, OfNat.ofNat 54, OfNat.ofNat 55, OfNat.ofNat 54, OfNat.ofNat 56, OfNat.ofNat 54, OfNat.ofNat 57, OfNat.ofNat 55, OfNat.ofNat 48, OfNat.ofNat 55, OfNat.ofNat 49, OfNat.ofNat 55, OfNat.ofNat 50, OfNat.ofNat 55, OfNat.ofNat 51, OfNat.ofNat 55, OfNat.ofNat 52].append [OfNat.ofNat 55, OfNat.ofNat 53, OfNat.ofNat 55, OfNat.ofNat 54, OfNat.ofNat 55, OfNat.ofNat 55, OfNat.ofNat 55, OfNat.ofNat 56, OfNat.ofNat 55, OfNat.ofNat 57, OfNat.ofNat 56, OfNat.ofNat 48, OfNat.ofNat 56, OfNat.ofNat 49, OfNat.ofNat 56, OfNat.ofNat 50, OfNat.ofNat 56, OfNat.ofNat 51, OfNat.ofNat 56, OfNat.ofNat 52, OfNat.ofNat 56, OfNat.ofNat 53, OfNat.ofNat 56, OfNat.ofNat 54, OfNat.ofNat 56, OfNat.ofNat 55, OfNat.ofNat 56, OfNat.ofNat 56, OfNat.ofNat 56, OfNat.ofNat 57, OfNat.ofNat 57, OfNat.ofNat 48, OfNat.ofNat 57, OfNat.ofNat 49, OfNat.ofNat 57, OfNat.ofNat 50, OfNat.ofNat 57, OfNat.ofNat 51, OfNat.ofNat 57, OfNat.ofNat 52, OfNat.ofNat 57, OfNat.ofNat 53, OfNat.ofNat 57, OfNat.ofNat 54, OfNat.ofNat 57, OfNat.ofNat 55, OfNat.ofNat 57, OfNat.ofNat 56, OfNat.ofNat 57, OfNat.ofNat 57])).toArray).extract (IntKind.i64.wrap (a * 2)).toNat (IntKind.i64.wrap (IntKind.i64.wrap (a * 2) + 2)).toNat))) w) :
    Calls Tryd.prog 52 #[.int .i64 a] w R :=
  X.calls_of { isLoc := [], sym := [], loops := [], joins := [] } Tryd.func52 (by kernel_rfl) h
abbrev fn_WriteString : Nat := 35
theorem x_WriteString (a : Addr) (b : ByteArray) (w : World) (R : Ending → World → Prop) (h :
  X.CallX Tryd.prog 47 #[(.pointer (some a))] w fun e1 w2 =>
   (e1 = .returned (.tuple #[])) ∧
   ((w).heap.size ≤ (w2).heap.size) ∧
   ∃ q3 : Option Addr, ∃ k4 : Nat, ∃ k5 : Nat, (World.cell? w2 (a.add 1) = some (.slice (q3) k4 k5)) ∧
   ∃ q6 : Option Addr, ∃ k7 : Nat, ∃ k8 : Nat, ∃ w9 : World, (Sem.run Tryd.prog (Go.Builtin.append_ #[68, 9] 68 #[(.slice (q3) k4 k5), (.string b)]) w2 = .ok (.slice (q6) k7 k8) w9) ∧
   ((w2).heap.size ≤ (w9).heap.size) ∧
   ((none : Option Nat) = none) ∧
   (World.there w9 (a.block) ((a.off) + 1) 1) ∧
   R (.returned (.tuple #[(.int .i64 (((b.size) : Nat) : Int)), .nilIface])) (w9.setCells (a.block) ((a.off) + 1) [(.slice (q6) k7 k8)])) :
    Calls Tryd.prog 35 #[.pointer (some a), .string b] w R :=
  X.calls_of { isLoc := [], sym := [], loops := [], joins := [] } Tryd.func35 (by kernel_rfl) h
abbrev fn_knows : Nat := 6
theorem x_knows  (w : World) (R : Ending → World → Prop) (h :
  X.CallX Tryd.prog 18 #[(.int .u8 1), (.slice (some ⟨(w).heap.size, 0, none⟩) 2 2)] (w.alloc (.cells #[(.int .u8 0), (.int .u16 1), (.int .u8 2), (.int .u16 1)] 48)) fun e1 w2 =>
   ∃ n3 : Int, ∃ n4 : Int, ∃ q5 : Option Addr, ∃ k6 : Nat, ∃ k7 : Nat, ∃ n8 : Int, (e1 = .returned (.tuple #[(.agg #[(.int .u8 n3), (.int .u32 n4), (.slice (q5) k6 k7)]), (.int .i64 n8)])) ∧
   (((w.alloc (.cells #[(.int .u8 0), (.int .u16 1), (.int .u8 2), (.int .u16 1)] 48))).heap.size ≤ (w2).heap.size) ∧
   ∀ w9 : World, ∀ L10 : List Nat, (X.Hid [] w2 w9) →
   (X.NewL (w).heap.size [] w2 w9 L10) →
   X.CallX Tryd.prog 13 #[(.int .i64 n8)] w9 fun e11 w12 =>
    ∃ n13 : Int, (e11 = .returned (.int .i64 n13)) ∧
    (X.Kept L10 w9 w12) ∧
    if ((n13 == 0) == true) = true then
     X.CallX Tryd.prog 19 #[(.agg #[(.int .u8 n3), (.int .u32 n4), (.slice (q5) k6 k7)])] w12 fun e14 w15 =>
      ∃ s16 : ByteArray, (e14 = .returned (.string s16)) ∧
      (X.Kept L10 w12 w15) ∧
      if ((true && ((s16.toList) == ((ByteArray.mk #[OfNat.ofNat 103, OfNat.ofNat 49, OfNat.ofNat 32, OfNat.ofNat 118, OfNat.ofNat 49, OfNat.ofNat 58, OfNat.ofNat 32, OfNat.ofNat 48, OfNat.ofNat 46, OfNat.ofNat 49, OfNat.ofNat 32, OfNat.ofNat 50, OfNat.ofNat 46, OfNat.ofNat 49]).toList))) == true) = true then
       X.CallX Tryd.prog 20 #[(.agg #[(.int .u8 n3), (.int .u32 n4), (.slice (q5) k6 k7)])] w15 fun e17 w18 =>
        ∃ n19 : Int, (e17 = .returned (.int .i64 n19)) ∧
        (X.Kept L10 w15 w18) ∧
        if ((true && (n19 == 2)) == true) = true then
         X.CallX Tryd.prog 14 #[(.agg #[(.int .u8 n3), (.int .u32 n4), (.slice (q5) k6 k7)])] w18 fun e20 w21 =>
          ∃ b22 : Bool, (e20 = .returned (.bool b22)) ∧
          (X.Kept L10 w18 w21) ∧
          R (.returned (.bool (true && b22))) w21
        else
         R (.returned (.bool false)) w18
      else
       R (.returned (.bool false)) w15
    else
     R (.returned (.bool false)) w12) :
    Calls Tryd.prog 6 #[] w R :=
  X.calls_of { isLoc := [1], sym := [], loops := [], joins := [] } Tryd.func6 (by kernel_rfl) h
end Go.Proofs
/- The verification conditions of this seat's functions, as the engine has them: printed by a program of the bench; checked by the kernel. -/
namespace Go.Proofs
open Go
abbrev fn_FormatInt0 : Nat := 51
theorem x_FormatInt0  (w : World) (R : Ending → World → Prop) (h :
  X.CallX Tryd.prog 52 #[(.int .i64 0)] w fun e1 w2 =>
   ∃ s3 : ByteArray, (e1 = .returned (.string s3)) ∧
   ((w).heap.size ≤ (w2).heap.size) ∧
   R (.returned (.string s3)) w2) :
    Calls Tryd.prog 51 #[.int .i64 0, .int .i64 10] w R :=
  X.calls_of { isLoc := [], sym := [], loops := [], joins := [] } Tryd.func51 (by kernel_rfl) h
abbrev fn_IItoa0 : Nat := 48
theorem x_IItoa0  (w : World) (R : Ending → World → Prop) (h :
  X.CallX Tryd.prog 51 #[(.int .i64 0), (.int .i64 10)] w fun e1 w2 =>
   ∃ s3 : ByteArray, (e1 = .returned (.string s3)) ∧
   ((w).heap.size ≤ (w2).heap.size) ∧
   R (.returned (.string s3)) w2) :
    Calls Tryd.prog 48 #[.int .i64 0] w R :=
  X.calls_of { isLoc := [], sym := [], loops := [], joins := [] } Tryd.func48 (by kernel_rfl) h
abbrev fn_Itoa0 : Nat := 36
theorem x_Itoa0  (w : World) (R : Ending → World → Prop) (h :
  X.CallX Tryd.prog 48 #[(.int .i64 0)] w fun e1 w2 =>
   ∃ s3 : ByteArray, (e1 = .returned (.string s3)) ∧
   ((w).heap.size ≤ (w2).heap.size) ∧
   R (.returned (.string s3)) w2) :
    Calls Tryd.prog 36 #[.int .i64 0] w R :=
  X.calls_of { isLoc := [], sym := [], loops := [], joins := [] } Tryd.func36 (by kernel_rfl) h
end Go.Proofs
/- The verification conditions of this seat's functions, as the engine has them: printed by a program of the bench; checked by the kernel. -/
namespace Go.Proofs
open Go
abbrev fn_FormatInt1 : Nat := 51
theorem x_FormatInt1  (w : World) (R : Ending → World → Prop) (h :
  X.CallX Tryd.prog 52 #[(.int .i64 1)] w fun e1 w2 =>
   ∃ s3 : ByteArray, (e1 = .returned (.string s3)) ∧
   ((w).heap.size ≤ (w2).heap.size) ∧
   R (.returned (.string s3)) w2) :
    Calls Tryd.prog 51 #[.int .i64 1, .int .i64 10] w R :=
  X.calls_of { isLoc := [], sym := [], loops := [], joins := [] } Tryd.func51 (by kernel_rfl) h
abbrev fn_IItoa1 : Nat := 48
theorem x_IItoa1  (w : World) (R : Ending → World → Prop) (h :
  X.CallX Tryd.prog 51 #[(.int .i64 1), (.int .i64 10)] w fun e1 w2 =>
   ∃ s3 : ByteArray, (e1 = .returned (.string s3)) ∧
   ((w).heap.size ≤ (w2).heap.size) ∧
   R (.returned (.string s3)) w2) :
    Calls Tryd.prog 48 #[.int .i64 1] w R :=
  X.calls_of { isLoc := [], sym := [], loops := [], joins := [] } Tryd.func48 (by kernel_rfl) h
abbrev fn_Itoa1 : Nat := 36
theorem x_Itoa1  (w : World) (R : Ending → World → Prop) (h :
  X.CallX Tryd.prog 48 #[(.int .i64 1)] w fun e1 w2 =>
   ∃ s3 : ByteArray, (e1 = .returned (.string s3)) ∧
   ((w).heap.size ≤ (w2).heap.size) ∧
   R (.returned (.string s3)) w2) :
    Calls Tryd.prog 36 #[.int .i64 1] w R :=
  X.calls_of { isLoc := [], sym := [], loops := [], joins := [] } Tryd.func36 (by kernel_rfl) h
end Go.Proofs
/- The verification conditions of this seat's functions, as the engine has them: printed by a program of the bench; checked by the kernel. -/
namespace Go.Proofs
open Go
abbrev fn_FormatInt2 : Nat := 51
theorem x_FormatInt2  (w : World) (R : Ending → World → Prop) (h :
  X.CallX Tryd.prog 52 #[(.int .i64 2)] w fun e1 w2 =>
   ∃ s3 : ByteArray, (e1 = .returned (.string s3)) ∧
   ((w).heap.size ≤ (w2).heap.size) ∧
   R (.returned (.string s3)) w2) :
    Calls Tryd.prog 51 #[.int .i64 2, .int .i64 10] w R :=
  X.calls_of { isLoc := [], sym := [], loops := [], joins := [] } Tryd.func51 (by kernel_rfl) h
abbrev fn_IItoa2 : Nat := 48
theorem x_IItoa2  (w : World) (R : Ending → World → Prop) (h :
  X.CallX Tryd.prog 51 #[(.int .i64 2), (.int .i64 10)] w fun e1 w2 =>
   ∃ s3 : ByteArray, (e1 = .returned (.string s3)) ∧
   ((w).heap.size ≤ (w2).heap.size) ∧
   R (.returned (.string s3)) w2) :
    Calls Tryd.prog 48 #[.int .i64 2] w R :=
  X.calls_of { isLoc := [], sym := [], loops := [], joins := [] } Tryd.func48 (by kernel_rfl) h
abbrev fn_Itoa2 : Nat := 36
theorem x_Itoa2  (w : World) (R : Ending → World → Prop) (h :
  X.CallX Tryd.prog 48 #[(.int .i64 2)] w fun e1 w2 =>
   ∃ s3 : ByteArray, (e1 = .returned (.string s3)) ∧
   ((w).heap.size ≤ (w2).heap.size) ∧
   R (.returned (.string s3)) w2) :
    Calls Tryd.prog 36 #[.int .i64 2] w R :=
  X.calls_of { isLoc := [], sym := [], loops := [], joins := [] } Tryd.func36 (by kernel_rfl) h
end Go.Proofs
/- The verification conditions of this seat's functions, as the engine has them: printed by a program of the bench; checked by the kernel. -/
namespace Go.Proofs
open Go
abbrev fn_IFormatUint : Nat := 49
theorem x_IFormatUint  (w : World) (R : Ending → World → Prop) (h :
  X.CallX Tryd.prog 52 #[(.int .i64 1)] w fun e1 w2 =>
   ∃ s3 : ByteArray, (e1 = .returned (.string s3)) ∧
   ((w).heap.size ≤ (w2).heap.size) ∧
   R (.returned (.string s3)) w2) :
    Calls Tryd.prog 49 #[.int .u64 1, .int .i64 10] w R :=
  X.calls_of { isLoc := [], sym := [], loops := [], joins := [] } Tryd.func49 (by kernel_rfl) h
abbrev fn_FormatUint : Nat := 37
theorem x_FormatUint  (w : World) (R : Ending → World → Prop) (h :
  X.CallX Tryd.prog 49 #[(.int .u64 1), (.int .i64 10)] w fun e1 w2 =>
   ∃ s3 : ByteArray, (e1 = .returned (.string s3)) ∧
   ((w).heap.size ≤ (w2).heap.size) ∧
   R (.returned (.string s3)) w2) :
    Calls Tryd.prog 37 #[.int .u64 1, .int .i64 10] w R :=
  X.calls_of { isLoc := [], sym := [], loops := [], joins := [] } Tryd.func37 (by kernel_rfl) h
end Go.Proofs
/- The verification conditions of this seat's functions, as the engine has them: printed by a program of the bench; checked by the kernel. -/
namespace Go.Proofs
open Go
abbrev fn_Show : Nat := 19
theorem x_Show (a_0 a_1 : Int) (a_2 : Option Addr) (a_2l a_2c : Nat) (w : World) (R : Ending → World → Prop) (h :
  ∀ w1 : World, ∀ L2 : List Nat, (X.Hid [] w w1) →
  (X.NewL (w).heap.size [] w w1 L2) →
  ∃ x3 : X.Facts, (X.FactsW x3 (w1.alloc (.cells #[(.pointer none), (.slice none 0 0)] 70)) (L2)) ∧
  ∀ w4 : World, ∀ L5 : List Nat, (X.Hid (L2) (w1.alloc (.cells #[(.pointer none), (.slice none 0 0)] 70)) w4) →
  (X.NewL (w).heap.size (L2) (w1.alloc (.cells #[(.pointer none), (.slice none 0 0)] 70)) w4 L5) →
  X.CallX Tryd.prog 36 #[(.int .i64 (IntKind.wrap .i64 a_0))] w4 fun e6 w7 =>
   ∃ s8 : ByteArray, (e6 = .returned (.string s8)) ∧
   (X.Kept L5 w4 w7) ∧
   (X.FactsW x3 w7 (L5)) ∧
   ((((1 + (s8.size)) : Nat) : Int) ≤ 9223372036854775807) ∧
   ((((((ByteArray.mk #[OfNat.ofNat 103] ++ s8).size) + 2) : Nat) : Int) ≤ 9223372036854775807) ∧
   X.CallX Tryd.prog 37 #[(.int .u64 (IntKind.wrap .u64 a_1)), (.int .i64 10)] w7 fun e9 w10 =>
    ∃ s11 : ByteArray, (e9 = .returned (.string s11)) ∧
    (X.Kept L5 w7 w10) ∧
    (X.FactsW x3 w10 (L5)) ∧
    ((((((ByteArray.mk #[OfNat.ofNat 103] ++ s8 ++ ByteArray.mk #[OfNat.ofNat 32, OfNat.ofNat 118]).size) + (s11.size)) : Nat) : Int) ≤ 9223372036854775807) ∧
    ((((((ByteArray.mk #[OfNat.ofNat 103] ++ s8 ++ ByteArray.mk #[OfNat.ofNat 32, OfNat.ofNat 118] ++ s11).size) + 1) : Nat) : Int) ≤ 9223372036854775807) ∧
    X.CallX Tryd.prog 35 #[(.pointer (some ⟨(w1).heap.size, 0, none⟩)), (.string (ByteArray.mk #[OfNat.ofNat 103] ++ s8 ++ ByteArray.mk #[OfNat.ofNat 32, OfNat.ofNat 118] ++ s11 ++ ByteArray.mk #[OfNat.ofNat 58]))] w10 fun e12 w13 =>
     ∃ n14 : Int, ∃ v15 : Value, (e12 = .returned (.tuple #[(.int .i64 n14), (v15)])) ∧
     (X.Kept L5 w10 w13) ∧
     (X.FactsW x3 w13 (L5)) ∧
     ∃ x16 : Int → World → List Nat → Prop, ∃ x17 : Int → World → Nat, (x16 0 w13 (L5)) ∧
     ∀ n18 : Int, ∀ w19 : World, ∀ L20 : List Nat, (X.LF (w).heap.size w19 L20) →
     (x16 n18 w19 L20) →
     if (decide (n18 < ((a_2l : Nat) : Int))) = true then
      ((0 : Int) ≤ n18) ∧
      (n18 < ((a_2l : Nat) : Int)) ∧
      X.onSome (a_2) fun p24 =>
      ∃ n25 : Int, ∃ n26 : Int, (X.Cells w19 (p24.add ((n18).toNat * 2)) [(.int .u8 n25), (.int .u16 n26)]) ∧
      (¬ (((p24.add (n18.toNat * 2)).block) ∈ L20)) ∧
      ∃ x27 : X.Facts, (X.FactsW x27 w19 (L20)) ∧
      ∀ w28 : World, ∀ L29 : List Nat, (X.Hid (L20) w19 w28) →
      (X.NewL (w).heap.size (L20) w19 w28 L29) →
      X.CallX Tryd.prog 36 #[(.int .i64 (IntKind.wrap .i64 n25))] w28 fun e30 w31 =>
       ∃ s32 : ByteArray, (e30 = .returned (.string s32)) ∧
       (X.Kept L29 w28 w31) ∧
       (X.FactsW x27 w31 (L29)) ∧
       ((((1 + (s32.size)) : Nat) : Int) ≤ 9223372036854775807) ∧
       ((((((ByteArray.mk #[OfNat.ofNat 32] ++ s32).size) + 1) : Nat) : Int) ≤ 9223372036854775807) ∧
       X.CallX Tryd.prog 36 #[(.int .i64 (IntKind.wrap .i64 n26))] w31 fun e33 w34 =>
        ∃ s35 : ByteArray, (e33 = .returned (.string s35)) ∧
        (X.Kept L29 w31 w34) ∧
        (X.FactsW x27 w34 (L29)) ∧
        ((((((ByteArray.mk #[OfNat.ofNat 32] ++ s32 ++ ByteArray.mk #[OfNat.ofNat 46]).size) + (s35.size)) : Nat) : Int) ≤ 9223372036854775807) ∧
        X.CallX Tryd.prog 35 #[(.pointer (some ⟨(w1).heap.size, 0, none⟩)), (.string (ByteArray.mk #[OfNat.ofNat 32] ++ s32 ++ ByteArray.mk #[OfNat.ofNat 46] ++ s35))] w34 fun e36 w37 =>
         ∃ n38 : Int, ∃ v39 : Value, (e36 = .returned (.tuple #[(.int .i64 n38), (v39)])) ∧
         (X.Kept L29 w34 w37) ∧
         (X.FactsW x27 w37 (L29)) ∧
         (([(.int .u8 a_0), (.int .u32 a_1), (.slice (a_2) a_2l a_2c)] : List Value) = [(.int .u8 a_0), (.int .u32 a_1), (.slice (a_2) a_2l a_2c)]) ∧
         (x16 (IntKind.wrap .i64 (n18 + 1)) w37 (L29)) ∧
         Nat.le ((x17 (IntKind.wrap .i64 (n18 + 1)) w37) + 1) (x17 n18 w19)
     else
      X.CallX Tryd.prog 38 #[(.pointer (some ⟨(w1).heap.size, 0, none⟩))] w19 fun e21 w22 =>
       ∃ s23 : ByteArray, (e21 = .returned (.string s23)) ∧
       (X.Kept L20 w19 w22) ∧
       R (.returned (.string s23)) w22) :
    Calls Tryd.prog 19 #[.agg #[.int .u8 a_0, .int .u32 a_1, .slice a_2 a_2l a_2c]] w R :=
  X.calls_of { isLoc := [1, 5], sym := [], loops := [(4, .inv [(22, .int .i64)] [] true)], joins := [] } Tryd.func19 (by kernel_rfl) h
end Go.Proofs
/- The verification conditions of this seat's functions, as the engine has them: printed by a program of the bench; checked by the kernel. -/
namespace Go.Proofs
open Go
abbrev fn_rNext : Nat := 10
theorem x_rNext (a_0 a_1 : Int) (a_2 : Option Addr) (a_2l a_2c : Nat) (b : Option Addr) (bl bc : Nat) (c : Option Addr) (cl cc : Nat) (w : World) (R : Ending → World → Prop) (h :
  ∀ w1 : World, ∀ L2 : List Nat, (X.Hid [] w w1) →
  (X.NewL (w).heap.size [] w w1 L2) →
  X.CallX Tryd.prog 27 #[(.agg #[(.int .u8 a_0), (.int .u32 a_1), (.slice (a_2) a_2l a_2c)])] w1 fun e3 w4 =>
   ∃ b5 : Bool, (e3 = .returned (.bool b5)) ∧
   (X.Kept L2 w1 w4) ∧
   if (!b5) = true then
    ∀ w92 : World, (X.Hid (L2) w4 w92) →
    R (.returned (.tuple #[(.agg #[(.int .u8 0), (.int .u32 0), (.slice none 0 0)]), (.int .i64 1)])) w92
   else
    if (a_1 == 4294967295) = true then
     ∀ w91 : World, (X.Hid (L2) w4 w91) →
     R (.returned (.tuple #[(.agg #[(.int .u8 0), (.int .u32 0), (.slice none 0 0)]), (.int .i64 2)])) w91
    else
     ∀ w6 : World, ∀ L7 : List Nat, (X.Hid (L2) w4 w6) →
     (X.NewL (w).heap.size (L2) w4 w6 L7) →
     ∃ x8 : Int → Int → Int → Option Addr → Nat → Nat → World → List Nat → Prop, ∃ x9 : Int → Int → Int → Option Addr → Nat → Nat → World → Nat, (x8 0 a_0 (IntKind.wrap .u32 (a_1 + 1)) (none) 0 0 w6 (L7)) ∧
     ∀ n10 : Int, ∀ n11 : Int, ∀ n12 : Int, ∀ q13 : Option Addr, ∀ k14 : Nat, ∀ k15 : Nat, ∀ w16 : World, ∀ L17 : List Nat, (X.LF (w).heap.size w16 L17) →
     (x8 n10 n11 n12 q13 k14 k15 w16 L17) →
     if (decide (n10 < ((a_2l : Nat) : Int))) = true then
      ((0 : Int) ≤ n10) ∧
      (n10 < ((a_2l : Nat) : Int)) ∧
      X.onSome (a_2) fun p73 =>
      ∃ n74 : Int, ∃ n75 : Int, (X.Cells w16 (p73.add ((n10).toNat * 2)) [(.int .u8 n74), (.int .u16 n75)]) ∧
      (¬ (((p73.add (n10.toNat * 2)).block) ∈ L17)) ∧
      X.CallX Tryd.prog 16 #[(.slice (b) bl bc), (.agg #[(.int .u8 n74), (.int .u16 n75)])] w16 fun e76 w77 =>
       ∃ n78 : Int, (e76 = .returned (.int .i64 n78)) ∧
       (X.Kept L17 w16 w77) ∧
       if (decide (n78 < 0)) = true then
        ∃ x79 : X.Facts, (X.FactsW x79 w77 (L17)) ∧
        ((0 : Int) ≤ n10) ∧
        (n10 < ((a_2l : Nat) : Int)) ∧
        X.onSome (a_2) fun p80 =>
        ∃ n81 : Int, ∃ n82 : Int, (((p80.add ((n10).toNat * 2)), [(.int .u8 n81), (.int .u16 n82)]) ∈ x79) ∧
        ∀ w83 : World, ∀ L84 : List Nat, (X.Hid (L17) w77 w83) →
        (X.NewL (w).heap.size (L17) w77 w83 L84) →
        (X.FactsW x79 (w83.alloc (.cells #[(.int .u8 n81), (.int .u16 n82)] 46)) (L84)) ∧
        ∃ q85 : Option Addr, ∃ k86 : Nat, ∃ k87 : Nat, ∃ w88 : World, (Sem.run Tryd.prog (Go.Builtin.append_ #[23, 23] 23 #[(.slice (q13) k14 k15), (.slice (some ⟨(w83).heap.size, 0, none⟩) 1 1)]) (w83.alloc (.cells #[(.int .u8 n81), (.int .u16 n82)] 46)) = .ok (.slice (q85) k86 k87) w88) ∧
        (X.Kept L84 (w83.alloc (.cells #[(.int .u8 n81), (.int .u16 n82)] 46)) w88) ∧
        (X.FactsW x79 w88 (L84)) ∧
        ∀ w89 : World, ∀ L90 : List Nat, (X.Hid (L84) w88 w89) →
        (X.NewL (w).heap.size (L84) w88 w89 L90) →
        (([(.int .u8 a_0), (.int .u32 a_1), (.slice (a_2) a_2l a_2c)] : List Value) = [(.int .u8 a_0), (.int .u32 a_1), (.slice (a_2) a_2l a_2c)]) ∧
        (([(.int .u8 0), (.int .u32 0), (.slice none 0 0)] : List Value) = [(.int .u8 0), (.int .u32 0), (.slice none 0 0)]) ∧
        (x8 (IntKind.wrap .i64 (n10 + 1)) n11 n12 q85 k86 k87 w89 (L90)) ∧
        Nat.le ((x9 (IntKind.wrap .i64 (n10 + 1)) n11 n12 q85 k86 k87 w89) + 1) (x9 n10 n11 n12 q13 k14 k15 w16)
       else
        (([(.int .u8 a_0), (.int .u32 a_1), (.slice (a_2) a_2l a_2c)] : List Value) = [(.int .u8 a_0), (.int .u32 a_1), (.slice (a_2) a_2l a_2c)]) ∧
        (([(.int .u8 0), (.int .u32 0), (.slice none 0 0)] : List Value) = [(.int .u8 0), (.int .u32 0), (.slice none 0 0)]) ∧
        (x8 (IntKind.wrap .i64 (n10 + 1)) n11 n12 q13 k14 k15 w77 (L17)) ∧
        Nat.le ((x9 (IntKind.wrap .i64 (n10 + 1)) n11 n12 q13 k14 k15 w77) + 1) (x9 n10 n11 n12 q13 k14 k15 w16)
     else
      ∃ x18 : Int → Int → Int → Option Addr → Nat → Nat → World → List Nat → Prop, ∃ x19 : Int → Int → Int → Option Addr → Nat → Nat → World → Nat, (x18 0 n11 n12 q13 k14 k15 w16 (L17)) ∧
      ∀ n20 : Int, ∀ n21 : Int, ∀ n22 : Int, ∀ q23 : Option Addr, ∀ k24 : Nat, ∀ k25 : Nat, ∀ w26 : World, ∀ L27 : List Nat, (X.LF (w).heap.size w26 L27) →
      (x18 n20 n21 n22 q23 k24 k25 w26 L27) →
      if (decide (n20 < ((cl : Nat) : Int))) = true then
       ∃ x34 : Int → Int → World → List Nat → Prop, ∃ x35 : Int → Int → World → Nat, (x34 (-1) 0 w26 (L27)) ∧
       ∀ n36 : Int, ∀ n37 : Int, ∀ w38 : World, ∀ L39 : List Nat, (X.LF (w).heap.size w38 L39) →
       (x34 n36 n37 w38 L39) →
       if (decide (n37 < ((k24 : Nat) : Int))) = true then
        ((0 : Int) ≤ n37) ∧
        (n37 < ((k24 : Nat) : Int)) ∧
        X.onSome (q23) fun p65 =>
        ∃ n66 : Int, (World.cell? w38 ((p65.add ((n37).toNat * 2)).add 0) = some (.int .u8 n66)) ∧
        (¬ ((((p65.add (n37.toNat * 2)).add 0).block) ∈ L39)) ∧
        ((0 : Int) ≤ n20) ∧
        (n20 < ((cl : Nat) : Int)) ∧
        X.onSome (c) fun p67 =>
        ∃ n68 : Int, (World.cell? w38 ((p67.add ((n20).toNat * 2)).add 0) = some (.int .u8 n68)) ∧
        (¬ ((((p67.add (n20.toNat * 2)).add 0).block) ∈ L39)) ∧
        if (n66 == n68) = true then
         ∀ w71 : World, ∀ L72 : List Nat, (X.Hid (L39) w38 w71) →
         (X.NewL (w).heap.size (L39) w38 w71 L72) →
         (([(.int .u8 a_0), (.int .u32 a_1), (.slice (a_2) a_2l a_2c)] : List Value) = [(.int .u8 a_0), (.int .u32 a_1), (.slice (a_2) a_2l a_2c)]) ∧
         (([(.int .u8 0), (.int .u32 0), (.slice none 0 0)] : List Value) = [(.int .u8 0), (.int .u32 0), (.slice none 0 0)]) ∧
         (([(.int .u8 n21), (.int .u32 n22), (.slice (q23) k24 k25)] : List Value) = [(.int .u8 n21), (.int .u32 n22), (.slice (q23) k24 k25)]) ∧
         (x34 n37 (IntKind.wrap .i64 (n37 + 1)) w71 (L72)) ∧
         Nat.le ((x35 n37 (IntKind.wrap .i64 (n37 + 1)) w71) + 1) (x35 n36 n37 w38)
        else
         ∀ w69 : World, ∀ L70 : List Nat, (X.Hid (L39) w38 w69) →
         (X.NewL (w).heap.size (L39) w38 w69 L70) →
         (([(.int .u8 a_0), (.int .u32 a_1), (.slice (a_2) a_2l a_2c)] : List Value) = [(.int .u8 a_0), (.int .u32 a_1), (.slice (a_2) a_2l a_2c)]) ∧
         (([(.int .u8 0), (.int .u32 0), (.slice none 0 0)] : List Value) = [(.int .u8 0), (.int .u32 0), (.slice none 0 0)]) ∧
         (([(.int .u8 n21), (.int .u32 n22), (.slice (q23) k24 k25)] : List Value) = [(.int .u8 n21), (.int .u32 n22), (.slice (q23) k24 k25)]) ∧
         (x34 n36 (IntKind.wrap .i64 (n37 + 1)) w69 (L70)) ∧
         Nat.le ((x35 n36 (IntKind.wrap .i64 (n37 + 1)) w69) + 1) (x35 n36 n37 w38)
       else
        ((0 : Int) ≤ n20) ∧
        (n20 < ((cl : Nat) : Int)) ∧
        X.onSome (c) fun p40 =>
        ∃ n41 : Int, ∃ n42 : Int, (X.Cells w38 (p40.add ((n20).toNat * 2)) [(.int .u8 n41), (.int .u16 n42)]) ∧
        (¬ (((p40.add (n20.toNat * 2)).block) ∈ L39)) ∧
        X.CallX Tryd.prog 28 #[(.agg #[(.int .u8 n41), (.int .u16 n42)])] w38 fun e43 w44 =>
         ∃ b45 : Bool, (e43 = .returned (.bool b45)) ∧
         (X.Kept L39 w38 w44) ∧
         if (!b45) = true then
          (([(.int .u8 a_0), (.int .u32 a_1), (.slice (a_2) a_2l a_2c)] : List Value) = [(.int .u8 a_0), (.int .u32 a_1), (.slice (a_2) a_2l a_2c)]) ∧
          (([(.int .u8 0), (.int .u32 0), (.slice none 0 0)] : List Value) = [(.int .u8 0), (.int .u32 0), (.slice none 0 0)]) ∧
          (x18 (IntKind.wrap .i64 (n20 + 1)) n21 n22 q23 k24 k25 w44 (L39)) ∧
          Nat.le ((x19 (IntKind.wrap .i64 (n20 + 1)) n21 n22 q23 k24 k25 w44) + 1) (x19 n20 n21 n22 q23 k24 k25 w26)
         else
          if (decide (n36 ≥ 0)) = true then
           ∃ x58 : X.Facts, (X.FactsW x58 w44 (L39)) ∧
           ((0 : Int) ≤ n20) ∧
           (n20 < ((cl : Nat) : Int)) ∧
           X.onSome (c) fun p59 =>
           ∃ n60 : Int, ∃ n61 : Int, (((p59.add ((n20).toNat * 2)), [(.int .u8 n60), (.int .u16 n61)]) ∈ x58) ∧
           ((0 : Int) ≤ n36) ∧
           (n36 < ((k24 : Nat) : Int)) ∧
           X.onSome (q23) fun p62 =>
           ∀ w63 : World, ∀ L64 : List Nat, (X.Hid (L39) w44 w63) →
           (X.NewL (w).heap.size (L39) w44 w63 L64) →
           (((p62.add (n36.toNat * 2)).spot) = none) ∧
           (World.there w63 ((p62.add (n36.toNat * 2)).block) ((p62.add (n36.toNat * 2)).off) 2) ∧
           (¬ (((p62.add (n36.toNat * 2)).block) ∈ L64)) ∧
           (([(.int .u8 a_0), (.int .u32 a_1), (.slice (a_2) a_2l a_2c)] : List Value) = [(.int .u8 a_0), (.int .u32 a_1), (.slice (a_2) a_2l a_2c)]) ∧
           (([(.int .u8 0), (.int .u32 0), (.slice none 0 0)] : List Value) = [(.int .u8 0), (.int .u32 0), (.slice none 0 0)]) ∧
           (x18 (IntKind.wrap .i64 (n20 + 1)) n21 n22 q23 k24 k25 (w63.setCells ((p62.add (n36.toNat * 2)).block) ((p62.add (n36.toNat * 2)).off) [(.int .u8 n60), (.int .u16 n61)]) (L64)) ∧
           Nat.le ((x19 (IntKind.wrap .i64 (n20 + 1)) n21 n22 q23 k24 k25 (w63.setCells ((p62.add (n36.toNat * 2)).block) ((p62.add (n36.toNat * 2)).off) [(.int .u8 n60), (.int .u16 n61)])) + 1) (x19 n20 n21 n22 q23 k24 k25 w26)
          else
           ∃ x46 : X.Facts, (X.FactsW x46 w44 (L39)) ∧
           ((0 : Int) ≤ n20) ∧
           (n20 < ((cl : Nat) : Int)) ∧
           X.onSome (c) fun p47 =>
           ∃ n48 : Int, ∃ n49 : Int, (((p47.add ((n20).toNat * 2)), [(.int .u8 n48), (.int .u16 n49)]) ∈ x46) ∧
           ∀ w50 : World, ∀ L51 : List Nat, (X.Hid (L39) w44 w50) →
           (X.NewL (w).heap.size (L39) w44 w50 L51) →
           (X.FactsW x46 (w50.alloc (.cells #[(.int .u8 n48), (.int .u16 n49)] 46)) (L51)) ∧
           ∃ q52 : Option Addr, ∃ k53 : Nat, ∃ k54 : Nat, ∃ w55 : World, (Sem.run Tryd.prog (Go.Builtin.append_ #[23, 23] 23 #[(.slice (q23) k24 k25), (.slice (some ⟨(w50).heap.size, 0, none⟩) 1 1)]) (w50.alloc (.cells #[(.int .u8 n48), (.int .u16 n49)] 46)) = .ok (.slice (q52) k53 k54) w55) ∧
           (X.Kept L51 (w50.alloc (.cells #[(.int .u8 n48), (.int .u16 n49)] 46)) w55) ∧
           (X.FactsW x46 w55 (L51)) ∧
           ∀ w56 : World, ∀ L57 : List Nat, (X.Hid (L51) w55 w56) →
           (X.NewL (w).heap.size (L51) w55 w56 L57) →
           (([(.int .u8 a_0), (.int .u32 a_1), (.slice (a_2) a_2l a_2c)] : List Value) = [(.int .u8 a_0), (.int .u32 a_1), (.slice (a_2) a_2l a_2c)]) ∧
           (([(.int .u8 0), (.int .u32 0), (.slice none 0 0)] : List Value) = [(.int .u8 0), (.int .u32 0), (.slice none 0 0)]) ∧
           (x18 (IntKind.wrap .i64 (n20 + 1)) n21 n22 q52 k53 k54 w56 (L57)) ∧
           Nat.le ((x19 (IntKind.wrap .i64 (n20 + 1)) n21 n22 q52 k53 k54 w56) + 1) (x19 n20 n21 n22 q23 k24 k25 w26)
      else
       X.CallX Tryd.prog 29 #[(.agg #[(.int .u8 a_0), (.int .u32 a_1), (.slice (a_2) a_2l a_2c)]), (.slice (q23) k24 k25)] w26 fun e28 w29 =>
        ∃ b30 : Bool, (e28 = .returned (.bool b30)) ∧
        (X.Kept L27 w26 w29) ∧
        if (!b30) = true then
         ∀ w33 : World, (X.Hid (L27) w29 w33) →
         R (.returned (.tuple #[(.agg #[(.int .u8 0), (.int .u32 0), (.slice none 0 0)]), (.int .i64 17)])) w33
        else
         if (decide (((k24 : Nat) : Int) > 8)) = true then
          ∀ w32 : World, (X.Hid (L27) w29 w32) →
          R (.returned (.tuple #[(.agg #[(.int .u8 0), (.int .u32 0), (.slice none 0 0)]), (.int .i64 11)])) w32
         else
          ∀ w31 : World, (X.Hid (L27) w29 w31) →
          R (.returned (.tuple #[(.agg #[(.int .u8 n21), (.int .u32 n22), (.slice (q23) k24 k25)]), (.int .i64 0)])) w31) :
    Calls Tryd.prog 10 #[.agg #[.int .u8 a_0, .int .u32 a_1, .slice a_2 a_2l a_2c], .slice b bl bc, .slice c cl cc] w R :=
  X.calls_of { isLoc := [3, 6, 8], sym := [], loops := [(7, .inv [(9, .int .i64)] [(8, [.int .u8, .int .u32, .slice])] true), (12, .inv [(10, .int .i64)] [(8, [.int .u8, .int .u32, .slice])] true), (16, .inv [(11, .int .i64), (12, .int .i64)] [] true)], joins := [] } Tryd.func10 (by kernel_rfl) h
end Go.Proofs
/- The verification conditions of this seat's functions, as the engine has them: printed by a program of the bench; checked by the kernel. -/
namespace Go.Proofs
open Go
abbrev fn_Next : Nat := 8
theorem x_Next (a_0 a_1 : Int) (a_2 : Option Addr) (a_2l a_2c : Nat) (b : Option Addr) (bl bc : Nat) (c : Option Addr) (cl cc : Nat) (w : World) (R : Ending → World → Prop) (h :
  ∀ w1 : World, ∀ L2 : List Nat, (X.Hid [] w w1) →
  (X.NewL (w).heap.size [] w w1 L2) →
  X.CallX Tryd.prog 14 #[(.agg #[(.int .u8 a_0), (.int .u32 a_1), (.slice (a_2) a_2l a_2c)])] w1 fun e3 w4 =>
   ∃ b5 : Bool, (e3 = .returned (.bool b5)) ∧
   (X.Kept L2 w1 w4) ∧
   if (!b5) = true then
    ∀ w42 : World, (X.Hid (L2) w4 w42) →
    R (.returned (.tuple #[(.agg #[(.int .u8 0), (.int .u32 0), (.slice none 0 0)]), (.int .i64 1)])) w42
   else
    if (a_1 == 4294967295) = true then
     ∀ w41 : World, (X.Hid (L2) w4 w41) →
     R (.returned (.tuple #[(.agg #[(.int .u8 0), (.int .u32 0), (.slice none 0 0)]), (.int .i64 2)])) w41
    else
     X.CallX Tryd.prog 21 #[(.slice (b) bl bc)] w4 fun e6 w7 =>
      ∃ v8 : Value, (e6 = .returned (v8)) ∧
      (X.Kept L2 w4 w7) ∧
      if (((Option.map (fun x => x.size) (Tryd.prog.info? 52)) == (some v8.cells.size)) && (v8.cells.toList.all fun x =>
  match x with
  | Value.agg cells => false
  | Value.tuple vs => false
  | x => true)) = true then
       ((none : Option Nat) = none) ∧
       (World.there (w7.alloc (.cells #[.nilFunc] 52)) (w7).heap.size 0 (v8.cells.size)) ∧
       (¬ ((w7).heap.size ∈ L2)) ∧
       X.CallX Tryd.prog 23 #[(.agg #[(.int .u8 a_0), (.int .u32 a_1), (.slice (a_2) a_2l a_2c)]), (.func (.func 24) #[] #[(.pointer (some ⟨(w7).heap.size, 0, none⟩))])] ((w7.alloc (.cells #[.nilFunc] 52)).setCells (w7).heap.size 0 (v8.cells.toList)) fun e9 w10 =>
        ∃ v11 : Value, (e9 = .returned (v11)) ∧
        (X.Kept L2 ((w7.alloc (.cells #[.nilFunc] 52)).setCells (w7).heap.size 0 (v8.cells.toList)) w10) ∧
        X.CallX Tryd.prog 22 #[(v11)] w10 fun e12 w13 =>
         ∃ q14 : Option Addr, ∃ k15 : Nat, ∃ k16 : Nat, (e12 = .returned (.slice (q14) k15 k16)) ∧
         (X.Kept L2 w10 w13) ∧
         ∃ x17 : Option Addr → Nat → Nat → Int → World → List Nat → Prop, ∃ x18 : Option Addr → Nat → Nat → Int → World → Nat, (x17 q14 k15 k16 0 w13 (L2)) ∧
         ∀ q19 : Option Addr, ∀ k20 : Nat, ∀ k21 : Nat, ∀ n22 : Int, ∀ w23 : World, ∀ L24 : List Nat, (X.LF (w).heap.size w23 L24) →
         (x17 q19 k20 k21 n22 w23 L24) →
         if (decide (n22 < ((cl : Nat) : Int))) = true then
          ((0 : Int) ≤ n22) ∧
          (n22 < ((cl : Nat) : Int)) ∧
          X.onSome (c) fun p31 =>
          ∃ n32 : Int, ∃ n33 : Int, (X.Cells w23 (p31.add ((n22).toNat * 2)) [(.int .u8 n32), (.int .u16 n33)]) ∧
          (¬ (((p31.add (n22.toNat * 2)).block) ∈ L24)) ∧
          ∀ w34 : World, ∀ L35 : List Nat, (X.Hid (L24) w23 w34) →
          (X.NewL (w).heap.size (L24) w23 w34 L35) →
          X.CallX Tryd.prog 25 #[(.slice (q19) k20 k21), (.agg #[(.int .u8 n32), (.int .u16 n33)])] w34 fun e36 w37 =>
           ∃ q38 : Option Addr, ∃ k39 : Nat, ∃ k40 : Nat, (e36 = .returned (.slice (q38) k39 k40)) ∧
           (X.Kept L35 w34 w37) ∧
           (([(.int .u8 a_0), (.int .u32 a_1), (.slice (a_2) a_2l a_2c)] : List Value) = [(.int .u8 a_0), (.int .u32 a_1), (.slice (a_2) a_2l a_2c)]) ∧
           (([(.int .u8 0), (.int .u32 0), (.slice none 0 0)] : List Value) = [(.int .u8 0), (.int .u32 0), (.slice none 0 0)]) ∧
           (x17 q38 k39 k40 (IntKind.wrap .i64 (n22 + 1)) w37 (L35)) ∧
           Nat.le ((x18 q38 k39 k40 (IntKind.wrap .i64 (n22 + 1)) w37) + 1) (x18 q19 k20 k21 n22 w23)
         else
          X.CallX Tryd.prog 15 #[(.agg #[(.int .u8 a_0), (.int .u32 a_1), (.slice (a_2) a_2l a_2c)]), (.slice (q19) k20 k21)] w23 fun e25 w26 =>
           ∃ b27 : Bool, (e25 = .returned (.bool b27)) ∧
           (X.Kept L24 w23 w26) ∧
           if (!b27) = true then
            ∀ w30 : World, (X.Hid (L24) w26 w30) →
            R (.returned (.tuple #[(.agg #[(.int .u8 0), (.int .u32 0), (.slice none 0 0)]), (.int .i64 17)])) w30
           else
            if (decide (((k20 : Nat) : Int) > 8)) = true then
             ∀ w29 : World, (X.Hid (L24) w26 w29) →
             R (.returned (.tuple #[(.agg #[(.int .u8 0), (.int .u32 0), (.slice none 0 0)]), (.int .i64 11)])) w29
            else
             ∀ w28 : World, (X.Hid (L24) w26 w28) →
             R (.returned (.tuple #[(.agg #[(.int .u8 a_0), (.int .u32 (IntKind.wrap .u32 (a_1 + 1))), (.slice (q19) k20 k21)]), (.int .i64 0)])) w28
      else
       False) :
    Calls Tryd.prog 8 #[.agg #[.int .u8 a_0, .int .u32 a_1, .slice a_2 a_2l a_2c], .slice b bl bc, .slice c cl cc] w R :=
  X.calls_of { isLoc := [3, 6, 11], sym := [], loops := [(8, .inv [(9, .slice), (30, .int .i64)] [] true)], joins := [] } Tryd.func8 (by kernel_rfl) h
end Go.Proofs
