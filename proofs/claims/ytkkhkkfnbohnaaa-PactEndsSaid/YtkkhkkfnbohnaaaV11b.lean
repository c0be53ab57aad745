import Derived.Test.YtkkhkkfnbohnaaaXFn
import Derived.Test.YtkkhkkfnbohnaaaProg
/- The verification conditions of this seat's functions, as the engine has them: printed by a program of the bench; checked by the kernel. -/
set_option maxRecDepth 100000
set_option linter.unusedVariables false
namespace Go.Proofs
open Go
abbrev fn_Procs : Nat := 31
theorem x_Procs (a : Option Addr) (al ac : Nat) (w : World) (R : Ending → World → Prop) (h :
  ∃ x1 : Option Addr → Nat → Nat → Int → World → List Nat → Prop, ∃ x2 : Option Addr → Nat → Nat → Int → World → Nat, (x1 (none) 0 0 0 w []) ∧
  ∀ q3 : Option Addr, ∀ k4 : Nat, ∀ k5 : Nat, ∀ n6 : Int, ∀ w7 : World, ∀ L8 : List Nat, (X.LF (w).heap.size w7 L8) →
  (x1 q3 k4 k5 n6 w7 L8) →
  if (decide (n6 < ((al : Nat) : Int))) = true then
   ((0 : Int) ≤ n6) ∧
   (n6 < ((al : Nat) : Int)) ∧
   X.onSome (a) fun p9 =>
   ∃ n10 : Int, ∃ n11 : Int, (X.Cells w7 (p9.add ((n6).toNat * 2)) [(.int .u8 n10), (.int .u16 n11)]) ∧
   X.CallX Try.prog 27 #[(.agg #[(.int .u8 n10), (.int .u16 n11)])] w7 fun e12 w13 =>
    ∃ n14 : Int, ∃ n15 : Int, (e12 = .returned (.agg #[(.int .u8 n14), (.int .u16 n15)])) ∧
    ((w7).heap.size ≤ (w13).heap.size) ∧
    ∃ q16 : Option Addr, ∃ k17 : Nat, ∃ k18 : Nat, ∃ w19 : World, (Sem.run Try.prog (Go.Builtin.append_ #[43, 43] 43 #[(.slice (q3) k4 k5), (.slice (some ⟨(w13).heap.size, 0, none⟩) 1 1)]) (w13.alloc (.cells #[(.int .u8 n14), (.int .u16 n15)] 67)) = .ok (.slice (q16) k17 k18) w19) ∧
    (((w13.alloc (.cells #[(.int .u8 n14), (.int .u16 n15)] 67))).heap.size ≤ (w19).heap.size) ∧
    (x1 q16 k17 k18 (IntKind.wrap .i64 (n6 + 1)) w19 []) ∧
    Nat.le ((x2 q16 k17 k18 (IntKind.wrap .i64 (n6 + 1)) w19) + 1) (x2 q3 k4 k5 n6 w7)
  else
   R (.returned (.slice (q3) k4 k5)) w7) :
    Calls Try.prog 31 #[.slice a al ac] w R :=
  X.calls_of { isLoc := [], sym := [], loops := [(3, .inv [(3, .slice), (4, .int .i64)] [] true)], joins := [] } Try.func31 (by kernel_rfl) h
abbrev fn_RefProcs : Nat := 41
theorem x_RefProcs (a : Option Addr) (al ac : Nat) (w : World) (R : Ending → World → Prop) (h :
  ∃ x1 : Option Addr → Nat → Nat → Int → World → List Nat → Prop, ∃ x2 : Option Addr → Nat → Nat → Int → World → Nat, (x1 (none) 0 0 0 w []) ∧
  ∀ q3 : Option Addr, ∀ k4 : Nat, ∀ k5 : Nat, ∀ n6 : Int, ∀ w7 : World, ∀ L8 : List Nat, (X.LF (w).heap.size w7 L8) →
  (x1 q3 k4 k5 n6 w7 L8) →
  if (decide (n6 < ((al : Nat) : Int))) = true then
   ((0 : Int) ≤ n6) ∧
   (n6 < ((al : Nat) : Int)) ∧
   X.onSome (a) fun p9 =>
   ∃ n10 : Int, ∃ n11 : Int, (X.Cells w7 (p9.add ((n6).toNat * 2)) [(.int .u8 n10), (.int .u16 n11)]) ∧
   X.CallX Try.prog 62 #[(.agg #[(.int .u8 n10), (.int .u16 n11)])] w7 fun e12 w13 =>
    ∃ n14 : Int, ∃ n15 : Int, (e12 = .returned (.agg #[(.int .u8 n14), (.int .u16 n15)])) ∧
    ((w7).heap.size ≤ (w13).heap.size) ∧
    ∃ q16 : Option Addr, ∃ k17 : Nat, ∃ k18 : Nat, ∃ w19 : World, (Sem.run Try.prog (Go.Builtin.append_ #[30, 30] 30 #[(.slice (q3) k4 k5), (.slice (some ⟨(w13).heap.size, 0, none⟩) 1 1)]) (w13.alloc (.cells #[(.int .u8 n14), (.int .u16 n15)] 38)) = .ok (.slice (q16) k17 k18) w19) ∧
    (((w13.alloc (.cells #[(.int .u8 n14), (.int .u16 n15)] 38))).heap.size ≤ (w19).heap.size) ∧
    (x1 q16 k17 k18 (IntKind.wrap .i64 (n6 + 1)) w19 []) ∧
    Nat.le ((x2 q16 k17 k18 (IntKind.wrap .i64 (n6 + 1)) w19) + 1) (x2 q3 k4 k5 n6 w7)
  else
   R (.returned (.slice (q3) k4 k5)) w7) :
    Calls Try.prog 41 #[.slice a al ac] w R :=
  X.calls_of { isLoc := [], sym := [], loops := [(3, .inv [(3, .slice), (4, .int .i64)] [] true)], joins := [] } Try.func41 (by kernel_rfl) h
abbrev fn_ClonePr : Nat := 64
theorem x_ClonePr (a : Option Addr) (al ac : Nat) (w : World) (R : Ending → World → Prop) (h :
  if (a.isNone) = true then
   R (.returned (.slice none 0 0)) w
  else
   ∃ q1 : Option Addr, ∃ k2 : Nat, ∃ k3 : Nat, ∃ w4 : World, (Sem.run Try.prog (Go.Builtin.append_ #[43, 43] 43 #[(.slice (some ⟨(w).heap.size, 0, none⟩) 0 0), (.slice (a) al ac)]) (w.alloc (.cells #[] 67)) = .ok (.slice (q1) k2 k3) w4) ∧
   (((w.alloc (.cells #[] 67))).heap.size ≤ (w4).heap.size) ∧
   R (.returned (.slice (q1) k2 k3)) w4) :
    Calls Try.prog 64 #[.slice a al ac] w R :=
  X.calls_of { isLoc := [], sym := [], loops := [], joins := [] } Try.func64 (by kernel_rfl) h
abbrev fn_EqualPr : Nat := 68
theorem x_EqualPr (a : Option Addr) (al ac : Nat) (b : Option Addr) (bl bc : Nat) (w : World) (R : Ending → World → Prop) (h :
  if (((al : Nat) : Int) != ((bl : Nat) : Int)) = true then
   R (.returned (.bool false)) w
  else
   ∃ x1 : Int → World → List Nat → Prop, ∃ x2 : Int → World → Nat, (x1 0 w []) ∧
   ∀ n3 : Int, ∀ w4 : World, ∀ L5 : List Nat, (X.LF (w).heap.size w4 L5) →
   (x1 n3 w4 L5) →
   if (decide (n3 < ((al : Nat) : Int))) = true then
    ((0 : Int) ≤ n3) ∧
    (n3 < ((al : Nat) : Int)) ∧
    X.onSome (a) fun p6 =>
    ∃ n7 : Int, ∃ n8 : Int, (X.Cells w4 (p6.add ((n3).toNat * 2)) [(.int .u8 n7), (.int .u16 n8)]) ∧
    ((0 : Int) ≤ n3) ∧
    (n3 < ((bl : Nat) : Int)) ∧
    X.onSome (b) fun p9 =>
    ∃ n10 : Int, ∃ n11 : Int, (X.Cells w4 (p9.add ((n3).toNat * 2)) [(.int .u8 n10), (.int .u16 n11)]) ∧
    if (!((n7 == n10) && (n8 == n11))) = true then
     ∀ w13 : World, (X.Hid [] w4 w13) →
     R (.returned (.bool false)) w13
    else
     ∀ w12 : World, (X.Hid [] w4 w12) →
     (x1 (IntKind.wrap .i64 (n3 + 1)) w12 []) ∧
     Nat.le ((x2 (IntKind.wrap .i64 (n3 + 1)) w12) + 1) (x2 n3 w4)
   else
    R (.returned (.bool true)) w4) :
    Calls Try.prog 68 #[.slice a al ac, .slice b bl bc] w R :=
  X.calls_of { isLoc := [], sym := [], loops := [(4, .inv [(13, .int .i64)] [] true)], joins := [] } Try.func68 (by kernel_rfl) h
abbrev fn_SameProcs : Nat := 40
theorem x_SameProcs (a : Option Addr) (al ac : Nat) (b : Option Addr) (bl bc : Nat) (w : World) (R : Ending → World → Prop) (h :
  if (((al : Nat) : Int) != ((bl : Nat) : Int)) = true then
   R (.returned (.bool false)) w
  else
   ∃ x1 : Int → World → List Nat → Prop, ∃ x2 : Int → World → Nat, (x1 0 w []) ∧
   ∀ n3 : Int, ∀ w4 : World, ∀ L5 : List Nat, (X.LF (w).heap.size w4 L5) →
   (x1 n3 w4 L5) →
   if (decide (n3 < ((al : Nat) : Int))) = true then
    ((0 : Int) ≤ n3) ∧
    (n3 < ((al : Nat) : Int)) ∧
    X.onSome (a) fun p6 =>
    ∃ n7 : Int, ∃ n8 : Int, (X.Cells w4 (p6.add ((n3).toNat * 2)) [(.int .u8 n7), (.int .u16 n8)]) ∧
    ((0 : Int) ≤ n3) ∧
    (n3 < ((bl : Nat) : Int)) ∧
    X.onSome (b) fun p9 =>
    ∃ n10 : Int, ∃ n11 : Int, (X.Cells w4 (p9.add ((n3).toNat * 2)) [(.int .u8 n10), (.int .u16 n11)]) ∧
    if (!((n7 == n10) && (n8 == n11))) = true then
     ∀ w13 : World, (X.Hid [] w4 w13) →
     R (.returned (.bool false)) w13
    else
     ∀ w12 : World, (X.Hid [] w4 w12) →
     (x1 (IntKind.wrap .i64 (n3 + 1)) w12 []) ∧
     Nat.le ((x2 (IntKind.wrap .i64 (n3 + 1)) w12) + 1) (x2 n3 w4)
   else
    R (.returned (.bool true)) w4) :
    Calls Try.prog 40 #[.slice a al ac, .slice b bl bc] w R :=
  X.calls_of { isLoc := [], sym := [], loops := [(4, .inv [(5, .int .i64)] [] true)], joins := [] } Try.func40 (by kernel_rfl) h
abbrev fn_rSameAll : Nat := 50
theorem x_rSameAll (a : Option Addr) (al ac : Nat) (b : Option Addr) (bl bc : Nat) (w : World) (R : Ending → World → Prop) (h :
  if (((al : Nat) : Int) != ((bl : Nat) : Int)) = true then
   R (.returned (.bool false)) w
  else
   ∃ x1 : Int → World → List Nat → Prop, ∃ x2 : Int → World → Nat, (x1 0 w []) ∧
   ∀ n3 : Int, ∀ w4 : World, ∀ L5 : List Nat, (X.LF (w).heap.size w4 L5) →
   (x1 n3 w4 L5) →
   if (decide (n3 < ((al : Nat) : Int))) = true then
    ∃ x6 : X.Facts, (X.FactsW x6 w4 []) ∧
    ((0 : Int) ≤ n3) ∧
    (n3 < ((al : Nat) : Int)) ∧
    X.onSome (a) fun p7 =>
    ∃ n8 : Int, ∃ n9 : Int, ∃ n10 : Int, ∃ n11 : Int, ∃ n12 : Int, ∃ n13 : Int, ∃ n14 : Int, ∃ n15 : Int, ∃ n16 : Int, ∃ n17 : Int, ∃ n18 : Int, ∃ n19 : Int, ∃ q20 : Option Addr, ∃ k21 : Nat, ∃ k22 : Nat, ∃ n23 : Int, ∃ s24 : ByteArray, ∃ q25 : Option Addr, ∃ k26 : Nat, ∃ k27 : Nat, ∃ n28 : Int, ∃ n29 : Int, (((p7.add ((n3).toNat * 18)), [(.int .u8 n8), (.int .u8 n9), (.int .u16 n10), (.int .u32 n11), (.int .u8 n12), (.int .u8 n13), (.int .u8 n14), (.int .u8 n15), (.int .u8 n16), (.int .u8 n17), (.int .u8 n18), (.int .u32 n19), (.slice (q20) k21 k22), (.int .u8 n23), (.string s24), (.slice (q25) k26 k27), (.int .u8 n28), (.int .u16 n29)]) ∈ x6) ∧
    ((0 : Int) ≤ n3) ∧
    (n3 < ((bl : Nat) : Int)) ∧
    X.onSome (b) fun p30 =>
    ∃ n31 : Int, ∃ n32 : Int, ∃ n33 : Int, ∃ n34 : Int, ∃ n35 : Int, ∃ n36 : Int, ∃ n37 : Int, ∃ n38 : Int, ∃ n39 : Int, ∃ n40 : Int, ∃ n41 : Int, ∃ n42 : Int, ∃ q43 : Option Addr, ∃ k44 : Nat, ∃ k45 : Nat, ∃ n46 : Int, ∃ s47 : ByteArray, ∃ q48 : Option Addr, ∃ k49 : Nat, ∃ k50 : Nat, ∃ n51 : Int, ∃ n52 : Int, (((p30.add ((n3).toNat * 18)), [(.int .u8 n31), (.int .u8 n32), (.int .u16 n33), (.int .u32 n34), (.int .u8 n35), (.int .u8 n36), (.int .u8 n37), (.int .u8 n38), (.int .u8 n39), (.int .u8 n40), (.int .u8 n41), (.int .u32 n42), (.slice (q43) k44 k45), (.int .u8 n46), (.string s47), (.slice (q48) k49 k50), (.int .u8 n51), (.int .u16 n52)]) ∈ x6) ∧
    ∀ w53 : World, (X.Hid [] w4 w53) →
    X.CallX Try.prog 71 #[(.agg #[(.int .u8 n8), (.int .u8 n9), (.int .u16 n10), (.int .u32 n11), (.int .u8 n12), (.int .u8 n13), (.int .u8 n14), (.int .u8 n15), (.int .u8 n16), (.int .u8 n17), (.int .u8 n18), (.int .u32 n19), (.slice (q20) k21 k22), (.int .u8 n23), (.string s24), (.slice (q25) k26 k27), (.int .u8 n28), (.int .u16 n29)]), (.agg #[(.int .u8 n31), (.int .u8 n32), (.int .u16 n33), (.int .u32 n34), (.int .u8 n35), (.int .u8 n36), (.int .u8 n37), (.int .u8 n38), (.int .u8 n39), (.int .u8 n40), (.int .u8 n41), (.int .u32 n42), (.slice (q43) k44 k45), (.int .u8 n46), (.string s47), (.slice (q48) k49 k50), (.int .u8 n51), (.int .u16 n52)])] w53 fun e54 w55 =>
     ∃ b56 : Bool, (e54 = .returned (.bool b56)) ∧
     ((w53).heap.size ≤ (w55).heap.size) ∧
     if (!b56) = true then
      R (.returned (.bool false)) w55
     else
      (x1 (IntKind.wrap .i64 (n3 + 1)) w55 []) ∧
      Nat.le ((x2 (IntKind.wrap .i64 (n3 + 1)) w55) + 1) (x2 n3 w4)
   else
    R (.returned (.bool true)) w4) :
    Calls Try.prog 50 #[.slice a al ac, .slice b bl bc] w R :=
  X.calls_of { isLoc := [], sym := [], loops := [(4, .inv [(5, .int .i64)] [] true)], joins := [] } Try.func50 (by kernel_rfl) h
abbrev fn_Refs : Nat := 51
theorem x_Refs (a : Option Addr) (al ac : Nat) (w : World) (R : Ending → World → Prop) (h :
  ∃ x1 : Option Addr → Nat → Nat → Int → World → List Nat → Prop, ∃ x2 : Option Addr → Nat → Nat → Int → World → Nat, (x1 (none) 0 0 0 w []) ∧
  ∀ q3 : Option Addr, ∀ k4 : Nat, ∀ k5 : Nat, ∀ n6 : Int, ∀ w7 : World, ∀ L8 : List Nat, (X.LF (w).heap.size w7 L8) →
  (x1 q3 k4 k5 n6 w7 L8) →
  if (decide (n6 < ((al : Nat) : Int))) = true then
   ((0 : Int) ≤ n6) ∧
   (n6 < ((al : Nat) : Int)) ∧
   X.onSome (a) fun p9 =>
   ∃ n10 : Int, ∃ n11 : Int, ∃ n12 : Int, ∃ n13 : Int, ∃ n14 : Int, ∃ n15 : Int, ∃ n16 : Int, ∃ n17 : Int, ∃ n18 : Int, ∃ n19 : Int, ∃ n20 : Int, ∃ n21 : Int, ∃ q22 : Option Addr, ∃ k23 : Nat, ∃ k24 : Nat, ∃ n25 : Int, ∃ s26 : ByteArray, ∃ q27 : Option Addr, ∃ k28 : Nat, ∃ k29 : Nat, ∃ n30 : Int, ∃ n31 : Int, (X.Cells w7 (p9.add ((n6).toNat * 18)) [(.int .u8 n10), (.int .u8 n11), (.int .u16 n12), (.int .u32 n13), (.int .u8 n14), (.int .u8 n15), (.int .u8 n16), (.int .u8 n17), (.int .u8 n18), (.int .u8 n19), (.int .u8 n20), (.int .u32 n21), (.slice (q22) k23 k24), (.int .u8 n25), (.string s26), (.slice (q27) k28 k29), (.int .u8 n30), (.int .u16 n31)]) ∧
   X.CallX Try.prog 72 #[(.agg #[(.int .u8 n10), (.int .u8 n11), (.int .u16 n12), (.int .u32 n13), (.int .u8 n14), (.int .u8 n15), (.int .u8 n16), (.int .u8 n17), (.int .u8 n18), (.int .u8 n19), (.int .u8 n20), (.int .u32 n21), (.slice (q22) k23 k24), (.int .u8 n25), (.string s26), (.slice (q27) k28 k29), (.int .u8 n30), (.int .u16 n31)])] w7 fun e32 w33 =>
    ∃ n34 : Int, ∃ n35 : Int, ∃ n36 : Int, ∃ n37 : Int, ∃ n38 : Int, ∃ n39 : Int, ∃ n40 : Int, ∃ n41 : Int, ∃ n42 : Int, ∃ n43 : Int, ∃ n44 : Int, ∃ n45 : Int, ∃ q46 : Option Addr, ∃ k47 : Nat, ∃ k48 : Nat, ∃ n49 : Int, ∃ s50 : ByteArray, ∃ q51 : Option Addr, ∃ k52 : Nat, ∃ k53 : Nat, ∃ n54 : Int, ∃ n55 : Int, (e32 = .returned (.agg #[(.int .u8 n34), (.int .u8 n35), (.int .u16 n36), (.int .u32 n37), (.int .u8 n38), (.int .u8 n39), (.int .u8 n40), (.int .u8 n41), (.int .u8 n42), (.int .u8 n43), (.int .u8 n44), (.int .u32 n45), (.slice (q46) k47 k48), (.int .u8 n49), (.string s50), (.slice (q51) k52 k53), (.int .u8 n54), (.int .u16 n55)])) ∧
    ((w7).heap.size ≤ (w33).heap.size) ∧
    ∃ q56 : Option Addr, ∃ k57 : Nat, ∃ k58 : Nat, ∃ w59 : World, (Sem.run Try.prog (Go.Builtin.append_ #[31, 31] 31 #[(.slice (q3) k4 k5), (.slice (some ⟨(w33).heap.size, 0, none⟩) 1 1)]) (w33.alloc (.cells #[(.int .u8 n34), (.int .u8 n35), (.int .u16 n36), (.int .u32 n37), (.int .u8 n38), (.int .u8 n39), (.int .u8 n40), (.int .u8 n41), (.int .u8 n42), (.int .u8 n43), (.int .u8 n44), (.int .u32 n45), (.slice (q46) k47 k48), (.int .u8 n49), (.string s50), (.slice (q51) k52 k53), (.int .u8 n54), (.int .u16 n55)] 137)) = .ok (.slice (q56) k57 k58) w59) ∧
    (((w33.alloc (.cells #[(.int .u8 n34), (.int .u8 n35), (.int .u16 n36), (.int .u32 n37), (.int .u8 n38), (.int .u8 n39), (.int .u8 n40), (.int .u8 n41), (.int .u8 n42), (.int .u8 n43), (.int .u8 n44), (.int .u32 n45), (.slice (q46) k47 k48), (.int .u8 n49), (.string s50), (.slice (q51) k52 k53), (.int .u8 n54), (.int .u16 n55)] 137))).heap.size ≤ (w59).heap.size) ∧
    (x1 q56 k57 k58 (IntKind.wrap .i64 (n6 + 1)) w59 []) ∧
    Nat.le ((x2 q56 k57 k58 (IntKind.wrap .i64 (n6 + 1)) w59) + 1) (x2 q3 k4 k5 n6 w7)
  else
   R (.returned (.slice (q3) k4 k5)) w7) :
    Calls Try.prog 51 #[.slice a al ac] w R :=
  X.calls_of { isLoc := [], sym := [], loops := [(3, .inv [(3, .slice), (4, .int .i64)] [] true)], joins := [] } Try.func51 (by kernel_rfl) h
abbrev fn_Owns : Nat := 28
theorem x_Owns (a : Option Addr) (al ac : Nat) (w : World) (R : Ending → World → Prop) (h :
  ∃ x1 : Option Addr → Nat → Nat → Int → World → List Nat → Prop, ∃ x2 : Option Addr → Nat → Nat → Int → World → Nat, (x1 (none) 0 0 0 w []) ∧
  ∀ q3 : Option Addr, ∀ k4 : Nat, ∀ k5 : Nat, ∀ n6 : Int, ∀ w7 : World, ∀ L8 : List Nat, (X.LF (w).heap.size w7 L8) →
  (x1 q3 k4 k5 n6 w7 L8) →
  if (decide (n6 < ((al : Nat) : Int))) = true then
   ((0 : Int) ≤ n6) ∧
   (n6 < ((al : Nat) : Int)) ∧
   X.onSome (a) fun p9 =>
   ∃ n10 : Int, ∃ n11 : Int, ∃ n12 : Int, ∃ n13 : Int, ∃ n14 : Int, ∃ n15 : Int, ∃ n16 : Int, ∃ n17 : Int, ∃ n18 : Int, ∃ n19 : Int, ∃ n20 : Int, ∃ n21 : Int, ∃ q22 : Option Addr, ∃ k23 : Nat, ∃ k24 : Nat, ∃ n25 : Int, ∃ s26 : ByteArray, ∃ q27 : Option Addr, ∃ k28 : Nat, ∃ k29 : Nat, ∃ n30 : Int, ∃ n31 : Int, (X.Cells w7 (p9.add ((n6).toNat * 18)) [(.int .u8 n10), (.int .u8 n11), (.int .u16 n12), (.int .u32 n13), (.int .u8 n14), (.int .u8 n15), (.int .u8 n16), (.int .u8 n17), (.int .u8 n18), (.int .u8 n19), (.int .u8 n20), (.int .u32 n21), (.slice (q22) k23 k24), (.int .u8 n25), (.string s26), (.slice (q27) k28 k29), (.int .u8 n30), (.int .u16 n31)]) ∧
   X.CallX Try.prog 57 #[(.agg #[(.int .u8 n10), (.int .u8 n11), (.int .u16 n12), (.int .u32 n13), (.int .u8 n14), (.int .u8 n15), (.int .u8 n16), (.int .u8 n17), (.int .u8 n18), (.int .u8 n19), (.int .u8 n20), (.int .u32 n21), (.slice (q22) k23 k24), (.int .u8 n25), (.string s26), (.slice (q27) k28 k29), (.int .u8 n30), (.int .u16 n31)])] w7 fun e32 w33 =>
    ∃ n34 : Int, ∃ n35 : Int, ∃ n36 : Int, ∃ n37 : Int, ∃ n38 : Int, ∃ n39 : Int, ∃ n40 : Int, ∃ n41 : Int, ∃ n42 : Int, ∃ n43 : Int, ∃ n44 : Int, ∃ n45 : Int, ∃ q46 : Option Addr, ∃ k47 : Nat, ∃ k48 : Nat, ∃ n49 : Int, ∃ s50 : ByteArray, ∃ q51 : Option Addr, ∃ k52 : Nat, ∃ k53 : Nat, ∃ n54 : Int, ∃ n55 : Int, (e32 = .returned (.agg #[(.int .u8 n34), (.int .u8 n35), (.int .u16 n36), (.int .u32 n37), (.int .u8 n38), (.int .u8 n39), (.int .u8 n40), (.int .u8 n41), (.int .u8 n42), (.int .u8 n43), (.int .u8 n44), (.int .u32 n45), (.slice (q46) k47 k48), (.int .u8 n49), (.string s50), (.slice (q51) k52 k53), (.int .u8 n54), (.int .u16 n55)])) ∧
    ((w7).heap.size ≤ (w33).heap.size) ∧
    ∃ q56 : Option Addr, ∃ k57 : Nat, ∃ k58 : Nat, ∃ w59 : World, (Sem.run Try.prog (Go.Builtin.append_ #[44, 44] 44 #[(.slice (q3) k4 k5), (.slice (some ⟨(w33).heap.size, 0, none⟩) 1 1)]) (w33.alloc (.cells #[(.int .u8 n34), (.int .u8 n35), (.int .u16 n36), (.int .u32 n37), (.int .u8 n38), (.int .u8 n39), (.int .u8 n40), (.int .u8 n41), (.int .u8 n42), (.int .u8 n43), (.int .u8 n44), (.int .u32 n45), (.slice (q46) k47 k48), (.int .u8 n49), (.string s50), (.slice (q51) k52 k53), (.int .u8 n54), (.int .u16 n55)] 127)) = .ok (.slice (q56) k57 k58) w59) ∧
    (((w33.alloc (.cells #[(.int .u8 n34), (.int .u8 n35), (.int .u16 n36), (.int .u32 n37), (.int .u8 n38), (.int .u8 n39), (.int .u8 n40), (.int .u8 n41), (.int .u8 n42), (.int .u8 n43), (.int .u8 n44), (.int .u32 n45), (.slice (q46) k47 k48), (.int .u8 n49), (.string s50), (.slice (q51) k52 k53), (.int .u8 n54), (.int .u16 n55)] 127))).heap.size ≤ (w59).heap.size) ∧
    (x1 q56 k57 k58 (IntKind.wrap .i64 (n6 + 1)) w59 []) ∧
    Nat.le ((x2 q56 k57 k58 (IntKind.wrap .i64 (n6 + 1)) w59) + 1) (x2 q3 k4 k5 n6 w7)
  else
   R (.returned (.slice (q3) k4 k5)) w7) :
    Calls Try.prog 28 #[.slice a al ac] w R :=
  X.calls_of { isLoc := [], sym := [], loops := [(3, .inv [(3, .slice), (4, .int .i64)] [] true)], joins := [] } Try.func28 (by kernel_rfl) h
abbrev fn_clones : Nat := 56
theorem x_clones (a : Option Addr) (al ac : Nat) (w : World) (R : Ending → World → Prop) (h :
  ∃ x1 : Option Addr → Nat → Nat → Int → World → List Nat → Prop, ∃ x2 : Option Addr → Nat → Nat → Int → World → Nat, (x1 (none) 0 0 0 w []) ∧
  ∀ q3 : Option Addr, ∀ k4 : Nat, ∀ k5 : Nat, ∀ n6 : Int, ∀ w7 : World, ∀ L8 : List Nat, (X.LF (w).heap.size w7 L8) →
  (x1 q3 k4 k5 n6 w7 L8) →
  if (decide (n6 < ((al : Nat) : Int))) = true then
   ((0 : Int) ≤ n6) ∧
   (n6 < ((al : Nat) : Int)) ∧
   X.onSome (a) fun p9 =>
   ∃ n10 : Int, ∃ n11 : Int, ∃ n12 : Int, ∃ n13 : Int, ∃ n14 : Int, ∃ n15 : Int, ∃ n16 : Int, ∃ n17 : Int, ∃ n18 : Int, ∃ n19 : Int, ∃ n20 : Int, ∃ n21 : Int, ∃ q22 : Option Addr, ∃ k23 : Nat, ∃ k24 : Nat, ∃ n25 : Int, ∃ s26 : ByteArray, ∃ q27 : Option Addr, ∃ k28 : Nat, ∃ k29 : Nat, ∃ n30 : Int, ∃ n31 : Int, (X.Cells w7 (p9.add ((n6).toNat * 18)) [(.int .u8 n10), (.int .u8 n11), (.int .u16 n12), (.int .u32 n13), (.int .u8 n14), (.int .u8 n15), (.int .u8 n16), (.int .u8 n17), (.int .u8 n18), (.int .u8 n19), (.int .u8 n20), (.int .u32 n21), (.slice (q22) k23 k24), (.int .u8 n25), (.string s26), (.slice (q27) k28 k29), (.int .u8 n30), (.int .u16 n31)]) ∧
   ∀ w32 : World, ∀ L33 : List Nat, (X.Hid [] w7 w32) →
   (X.NewL (w).heap.size [] w7 w32 L33) →
   X.CallX Try.prog 76 #[(.agg #[(.int .u8 n10), (.int .u8 n11), (.int .u16 n12), (.int .u32 n13), (.int .u8 n14), (.int .u8 n15), (.int .u8 n16), (.int .u8 n17), (.int .u8 n18), (.int .u8 n19), (.int .u8 n20), (.int .u32 n21), (.slice (q22) k23 k24), (.int .u8 n25), (.string s26), (.slice (q27) k28 k29), (.int .u8 n30), (.int .u16 n31)])] w32 fun e34 w35 =>
    ∃ n36 : Int, ∃ n37 : Int, ∃ n38 : Int, ∃ n39 : Int, ∃ n40 : Int, ∃ n41 : Int, ∃ n42 : Int, ∃ n43 : Int, ∃ n44 : Int, ∃ n45 : Int, ∃ n46 : Int, ∃ n47 : Int, ∃ q48 : Option Addr, ∃ k49 : Nat, ∃ k50 : Nat, ∃ n51 : Int, ∃ s52 : ByteArray, ∃ q53 : Option Addr, ∃ k54 : Nat, ∃ k55 : Nat, ∃ n56 : Int, ∃ n57 : Int, (e34 = .returned (.agg #[(.int .u8 n36), (.int .u8 n37), (.int .u16 n38), (.int .u32 n39), (.int .u8 n40), (.int .u8 n41), (.int .u8 n42), (.int .u8 n43), (.int .u8 n44), (.int .u8 n45), (.int .u8 n46), (.int .u32 n47), (.slice (q48) k49 k50), (.int .u8 n51), (.string s52), (.slice (q53) k54 k55), (.int .u8 n56), (.int .u16 n57)])) ∧
    (X.Kept L33 w32 w35) ∧
    ∃ q58 : Option Addr, ∃ k59 : Nat, ∃ k60 : Nat, ∃ w61 : World, (Sem.run Try.prog (Go.Builtin.append_ #[44, 44] 44 #[(.slice (q3) k4 k5), (.slice (some ⟨(w35).heap.size, 0, none⟩) 1 1)]) (w35.alloc (.cells #[(.int .u8 n36), (.int .u8 n37), (.int .u16 n38), (.int .u32 n39), (.int .u8 n40), (.int .u8 n41), (.int .u8 n42), (.int .u8 n43), (.int .u8 n44), (.int .u8 n45), (.int .u8 n46), (.int .u32 n47), (.slice (q48) k49 k50), (.int .u8 n51), (.string s52), (.slice (q53) k54 k55), (.int .u8 n56), (.int .u16 n57)] 127)) = .ok (.slice (q58) k59 k60) w61) ∧
    (X.Kept L33 (w35.alloc (.cells #[(.int .u8 n36), (.int .u8 n37), (.int .u16 n38), (.int .u32 n39), (.int .u8 n40), (.int .u8 n41), (.int .u8 n42), (.int .u8 n43), (.int .u8 n44), (.int .u8 n45), (.int .u8 n46), (.int .u32 n47), (.slice (q48) k49 k50), (.int .u8 n51), (.string s52), (.slice (q53) k54 k55), (.int .u8 n56), (.int .u16 n57)] 127)) w61) ∧
    (x1 q58 k59 k60 (IntKind.wrap .i64 (n6 + 1)) w61 (L33)) ∧
    Nat.le ((x2 q58 k59 k60 (IntKind.wrap .i64 (n6 + 1)) w61) + 1) (x2 q3 k4 k5 n6 w7)
  else
   R (.returned (.slice (q3) k4 k5)) w7) :
    Calls Try.prog 56 #[.slice a al ac] w R :=
  X.calls_of { isLoc := [5], sym := [], loops := [(3, .inv [(3, .slice), (8, .int .i64)] [] true)], joins := [] } Try.func56 (by kernel_rfl) h
abbrev fn_OwnV : Nat := 14
theorem x_OwnV (a_0 : Option Addr) (a_0l a_0c : Nat) (a_1 : Option Addr) (a_1l a_1c : Nat) (w : World) (R : Ending → World → Prop) (h :
  ∃ x1 : X.Facts, (X.FactsW x1 w []) ∧
  ∀ w2 : World, ∀ L3 : List Nat, (X.Hid [] w w2) →
  (X.NewL (w).heap.size [] w w2 L3) →
  X.CallX Try.prog 31 #[(.slice (a_0) a_0l a_0c)] w2 fun e4 w5 =>
   ∃ q6 : Option Addr, ∃ k7 : Nat, ∃ k8 : Nat, (e4 = .returned (.slice (q6) k7 k8)) ∧
   (X.Kept L3 w2 w5) ∧
   (X.FactsW x1 w5 (L3)) ∧
   X.CallX Try.prog 28 #[(.slice (a_1) a_1l a_1c)] w5 fun e9 w10 =>
    ∃ q11 : Option Addr, ∃ k12 : Nat, ∃ k13 : Nat, (e9 = .returned (.slice (q11) k12 k13)) ∧
    (X.Kept L3 w5 w10) ∧
    (X.FactsW x1 w10 (L3)) ∧
    ∀ w14 : World, (X.Hid (L3) w10 w14) →
    R (.returned (.agg #[(.slice (q6) k7 k8), (.slice (q11) k12 k13)])) w14) :
    Calls Try.prog 14 #[.agg #[.slice a_0 a_0l a_0c, .slice a_1 a_1l a_1c]] w R :=
  X.calls_of { isLoc := [1, 2], sym := [], loops := [], joins := [], stored := [(1, [2])] } Try.func14 (by kernel_rfl) h
abbrev fn_RefV : Nat := 19
theorem x_RefV (a_0 : Option Addr) (a_0l a_0c : Nat) (a_1 : Option Addr) (a_1l a_1c : Nat) (w : World) (R : Ending → World → Prop) (h :
  ∃ x1 : X.Facts, (X.FactsW x1 w []) ∧
  ∀ w2 : World, ∀ L3 : List Nat, (X.Hid [] w w2) →
  (X.NewL (w).heap.size [] w w2 L3) →
  X.CallX Try.prog 41 #[(.slice (a_0) a_0l a_0c)] w2 fun e4 w5 =>
   ∃ q6 : Option Addr, ∃ k7 : Nat, ∃ k8 : Nat, (e4 = .returned (.slice (q6) k7 k8)) ∧
   (X.Kept L3 w2 w5) ∧
   (X.FactsW x1 w5 (L3)) ∧
   X.CallX Try.prog 51 #[(.slice (a_1) a_1l a_1c)] w5 fun e9 w10 =>
    ∃ q11 : Option Addr, ∃ k12 : Nat, ∃ k13 : Nat, (e9 = .returned (.slice (q11) k12 k13)) ∧
    (X.Kept L3 w5 w10) ∧
    (X.FactsW x1 w10 (L3)) ∧
    ∀ w14 : World, (X.Hid (L3) w10 w14) →
    R (.returned (.agg #[(.slice (q6) k7 k8), (.slice (q11) k12 k13)])) w14) :
    Calls Try.prog 19 #[.agg #[.slice a_0 a_0l a_0c, .slice a_1 a_1l a_1c]] w R :=
  X.calls_of { isLoc := [1, 2], sym := [], loops := [], joins := [], stored := [(1, [2])] } Try.func19 (by kernel_rfl) h
abbrev fn_proc : Nat := 47
theorem x_proc (a : Int) (w : World) (R : Ending → World → Prop) (h :
  ∀ w1 : World, (X.Hid [] w w1) →
  R (.returned (.agg #[(.int .u8 (IntKind.wrap .u8 a)), (.int .u16 1)])) w1) :
    Calls Try.prog 47 #[.int .i64 a] w R :=
  X.calls_of { isLoc := [2], sym := [], loops := [], joins := [] } Try.func47 (by kernel_rfl) h
abbrev fn_light : Nat := 8
theorem x_light (a : Option Addr) (al ac : Nat) (w : World) (R : Ending → World → Prop) (h :
  ∃ x1 : Int → World → List Nat → Prop, ∃ x2 : Int → World → Nat, (x1 0 w []) ∧
  ∀ n3 : Int, ∀ w4 : World, ∀ L5 : List Nat, (X.LF (w).heap.size w4 L5) →
  (x1 n3 w4 L5) →
  if (decide (n3 < ((al : Nat) : Int)) && decide (n3 < 60)) = true then
   ((0 : Int) ≤ n3) ∧
   (n3 < ((al : Nat) : Int)) ∧
   X.onSome (a) fun p6 =>
   ∃ q7 : Option Addr, ∃ k8 : Nat, ∃ k9 : Nat, (World.cell? w4 ⟨((p6.add (n3.toNat * 8)).block), (((p6.add (n3.toNat * 8)).off) + 5), none⟩ = some (.slice (q7) k8 k9)) ∧
   if ((decide (((k8 : Nat) : Int) > 20)) == false) = true then
    ((0 : Int) ≤ n3) ∧
    (n3 < ((al : Nat) : Int)) ∧
    X.onSome (a) fun p10 =>
    ∃ q11 : Option Addr, ∃ k12 : Nat, ∃ k13 : Nat, (World.cell? w4 ((p10.add ((n3).toNat * 8)).add 4) = some (.slice (q11) k12 k13)) ∧
    if ((false || decide (((k12 : Nat) : Int) > 10)) == false) = true then
     ((0 : Int) ≤ n3) ∧
     (n3 < ((al : Nat) : Int)) ∧
     X.onSome (a) fun p14 =>
     ∃ q15 : Option Addr, ∃ k16 : Nat, ∃ k17 : Nat, (World.cell? w4 ⟨((p14.add (n3.toNat * 8)).block), ((((p14.add (n3.toNat * 8)).off) + 5) + 1), none⟩ = some (.slice (q15) k16 k17)) ∧
     if ((false || decide (((k16 : Nat) : Int) > 10)) == false) = true then
      ((0 : Int) ≤ n3) ∧
      (n3 < ((al : Nat) : Int)) ∧
      X.onSome (a) fun p18 =>
      ∃ q19 : Option Addr, ∃ k20 : Nat, ∃ k21 : Nat, (World.cell? w4 ((p18.add ((n3).toNat * 8)).add 4) = some (.slice (q19) k20 k21)) ∧
      X.CallX Try.prog 46 #[(.slice (q19) k20 k21)] w4 fun e22 w23 =>
       ∃ b24 : Bool, (e22 = .returned (.bool b24)) ∧
       ((w4).heap.size ≤ (w23).heap.size) ∧
       if ((false || (!b24)) == false) = true then
        ((0 : Int) ≤ n3) ∧
        (n3 < ((al : Nat) : Int)) ∧
        X.onSome (a) fun p25 =>
        ∃ q26 : Option Addr, ∃ k27 : Nat, ∃ k28 : Nat, (World.cell? w23 ⟨((p25.add (n3.toNat * 8)).block), ((((p25.add (n3.toNat * 8)).off) + 5) + 1), none⟩ = some (.slice (q26) k27 k28)) ∧
        X.CallX Try.prog 46 #[(.slice (q26) k27 k28)] w23 fun e29 w30 =>
         ∃ b31 : Bool, (e29 = .returned (.bool b31)) ∧
         ((w23).heap.size ≤ (w30).heap.size) ∧
         if (false || (!b31)) = true then
          R (.returned (.bool false)) w30
         else
          (x1 (IntKind.wrap .i64 (n3 + 1)) w30 []) ∧
          Nat.le ((x2 (IntKind.wrap .i64 (n3 + 1)) w30) + 1) (x2 n3 w4)
       else
        R (.returned (.bool false)) w23
     else
      R (.returned (.bool false)) w4
    else
     R (.returned (.bool false)) w4
   else
    R (.returned (.bool false)) w4
  else
   R (.returned (.bool (decide (((al : Nat) : Int) ≤ 50)))) w4) :
    Calls Try.prog 8 #[.slice a al ac] w R :=
  X.calls_of { isLoc := [], sym := [], loops := [(2, .inv [(3, .int .i64)] [] true)], joins := [] } Try.func8 (by kernel_rfl) h
abbrev fn_rSameV : Nat := 18
theorem x_rSameV (a_0 : Option Addr) (a_0l a_0c : Nat) (a_1 : Option Addr) (a_1l a_1c : Nat) (b_0 : Option Addr) (b_0l b_0c : Nat) (b_1 : Option Addr) (b_1l b_1c : Nat) (w : World) (R : Ending → World → Prop) (h :
  ∀ w1 : World, ∀ L2 : List Nat, (X.Hid [] w w1) →
  (X.NewL (w).heap.size [] w w1 L2) →
  X.CallX Try.prog 40 #[(.slice (a_0) a_0l a_0c), (.slice (b_0) b_0l b_0c)] w1 fun e3 w4 =>
   ∃ b5 : Bool, (e3 = .returned (.bool b5)) ∧
   (X.Kept L2 w1 w4) ∧
   if (b5 == true) = true then
    X.CallX Try.prog 50 #[(.slice (a_1) a_1l a_1c), (.slice (b_1) b_1l b_1c)] w4 fun e6 w7 =>
     ∃ b8 : Bool, (e6 = .returned (.bool b8)) ∧
     (X.Kept L2 w4 w7) ∧
     R (.returned (.bool (true && b8))) w7
   else
    R (.returned (.bool false)) w4) :
    Calls Try.prog 18 #[.agg #[.slice a_0 a_0l a_0c, .slice a_1 a_1l a_1c], .agg #[.slice b_0 b_0l b_0c, .slice b_1 b_1l b_1c]] w R :=
  X.calls_of { isLoc := [2, 3], sym := [], loops := [], joins := [] } Try.func18 (by kernel_rfl) h
abbrev fn_cloneV : Nat := 49
theorem x_cloneV (a_0 : Option Addr) (a_0l a_0c : Nat) (a_1 : Option Addr) (a_1l a_1c : Nat) (w : World) (R : Ending → World → Prop) (h :
  ∃ x1 : X.Facts, (X.FactsW x1 w []) ∧
  ∀ w2 : World, ∀ L3 : List Nat, (X.Hid [] w w2) →
  (X.NewL (w).heap.size [] w w2 L3) →
  X.CallX Try.prog 64 #[(.slice (a_0) a_0l a_0c)] w2 fun e4 w5 =>
   ∃ q6 : Option Addr, ∃ k7 : Nat, ∃ k8 : Nat, (e4 = .returned (.slice (q6) k7 k8)) ∧
   (X.Kept L3 w2 w5) ∧
   (X.FactsW x1 w5 (L3)) ∧
   X.CallX Try.prog 56 #[(.slice (a_1) a_1l a_1c)] w5 fun e9 w10 =>
    ∃ q11 : Option Addr, ∃ k12 : Nat, ∃ k13 : Nat, (e9 = .returned (.slice (q11) k12 k13)) ∧
    (X.Kept L3 w5 w10) ∧
    (X.FactsW x1 w10 (L3)) ∧
    ∀ w14 : World, (X.Hid (L3) w10 w14) →
    R (.returned (.agg #[(.slice (q6) k7 k8), (.slice (q11) k12 k13)])) w14) :
    Calls Try.prog 49 #[.agg #[.slice a_0 a_0l a_0c, .slice a_1 a_1l a_1c]] w R :=
  X.calls_of { isLoc := [1, 2], sym := [], loops := [], joins := [], stored := [(1, [2])] } Try.func49 (by kernel_rfl) h
abbrev fn_NewAcc : Nat := 10
theorem x_NewAcc  (w : World) (R : Ending → World → Prop) (h :
  R (.returned (.pointer (some ⟨(w).heap.size, 0, none⟩))) (w.alloc (.cells #[(.int .u64 0), (.int .u64 0), (.slice none 0 0), (.slice none 0 0), (.bool true)] 102))) :
    Calls Try.prog 10 #[] w R :=
  X.calls_of { isLoc := [], sym := [], loops := [], joins := [] } Try.func10 (by kernel_rfl) h
abbrev fn_Anone : Nat := 48
theorem x_Anone (a : Addr) (w : World) (R : Ending → World → Prop) (h :
  ∃ b1 : Bool, (World.cell? w (a.add 4) = some (.bool b1)) ∧
  R (.returned (.bool (false || (!b1)))) w) :
    Calls Try.prog 48 #[.pointer (some a)] w R :=
  X.calls_of { isLoc := [], sym := [], loops := [], joins := [] } Try.func48 (by kernel_rfl) h
abbrev fn_Prepare : Nat := 11
theorem x_Prepare (a : Addr) (b : Int) (w : World) (R : Ending → World → Prop) (h :
  X.CallX Try.prog 48 #[(.pointer (some a))] w fun e1 w2 =>
   ∃ b3 : Bool, (e1 = .returned (.bool b3)) ∧
   ((w).heap.size ≤ (w2).heap.size) ∧
   if ((b3 || (b == 0)) == false) = true then
    ∃ n4 : Int, (World.cell? w2 (a.add 0) = some (.int .u64 n4)) ∧
    if (false || decide (b < n4)) = true then
     R (.returned (.bool false)) w2
    else
     (((a.add 0).spot) = none) ∧
     (World.there w2 ((a.add 0).block) ((a.add 0).off) 1) ∧
     R (.returned (.bool true)) (w2.setCells ((a.add 0).block) ((a.add 0).off) [(.int .u64 b)])
   else
    R (.returned (.bool false)) w2) :
    Calls Try.prog 11 #[.pointer (some a), .int .u64 b] w R :=
  X.calls_of { isLoc := [], sym := [], loops := [], joins := [] } Try.func11 (by kernel_rfl) h
abbrev fn_Accept : Nat := 13
theorem x_Accept (a : Addr) (b : Int) (c_0 : Option Addr) (c_0l c_0c : Nat) (c_1 : Option Addr) (c_1l c_1c : Nat) (w : World) (R : Ending → World → Prop) (h :
  ∀ w1 : World, ∀ L2 : List Nat, (X.Hid [] w w1) →
  (X.NewL (w).heap.size [] w w1 L2) →
  X.CallX Try.prog 11 #[(.pointer (some a)), (.int .u64 b)] w1 fun e3 w4 =>
   ∃ b5 : Bool, (e3 = .returned (.bool b5)) ∧
   (X.Kept L2 w1 w4) ∧
   if b5 = true then
    X.CallX Try.prog 49 #[(.agg #[(.slice (c_0) c_0l c_0c), (.slice (c_1) c_1l c_1c)])] w4 fun e6 w7 =>
     ∃ q8 : Option Addr, ∃ k9 : Nat, ∃ k10 : Nat, ∃ q11 : Option Addr, ∃ k12 : Nat, ∃ k13 : Nat, (e6 = .returned (.agg #[(.slice (q8) k9 k10), (.slice (q11) k12 k13)])) ∧
     (X.Kept L2 w4 w7) ∧
     ((none : Option Nat) = none) ∧
     (World.there w7 (a.block) ((a.off) + 1) 1) ∧
     (¬ ((a.block) ∈ L2)) ∧
     ((none : Option Nat) = none) ∧
     (World.there (w7.setCells (a.block) ((a.off) + 1) [(.int .u64 b)]) (a.block) ((a.off) + 2) 2) ∧
     (¬ ((a.block) ∈ L2)) ∧
     R (.returned (.bool b5)) ((w7.setCells (a.block) ((a.off) + 1) [(.int .u64 b)]).setCells (a.block) ((a.off) + 2) [(.slice (q8) k9 k10), (.slice (q11) k12 k13)])
   else
    R (.returned (.bool b5)) w4) :
    Calls Try.prog 13 #[.pointer (some a), .int .u64 b, .agg #[.slice c_0 c_0l c_0c, .slice c_1 c_1l c_1c]] w R :=
  X.calls_of { isLoc := [5], sym := [], loops := [], joins := [] } Try.func13 (by kernel_rfl) h
abbrev fn_Held : Nat := 16
theorem x_Held (a : Addr) (w : World) (R : Ending → World → Prop) (h :
  ∀ w1 : World, ∀ L2 : List Nat, (X.Hid [] w w1) →
  (X.NewL (w).heap.size [] w w1 L2) →
  X.CallX Try.prog 48 #[(.pointer (some a))] w1 fun e3 w4 =>
   ∃ b5 : Bool, (e3 = .returned (.bool b5)) ∧
   (X.Kept L2 w1 w4) ∧
   if (b5 == false) = true then
    ∃ n7 : Int, (World.cell? w4 (a.add 1) = some (.int .u64 n7)) ∧
    (¬ ((a.block) ∈ L2)) ∧
    if (false || (n7 == 0)) = true then
     ∀ w27 : World, (X.Hid (L2) w4 w27) →
     R (.returned (.tuple #[(.int .u64 0), (.agg #[(.slice none 0 0), (.slice none 0 0)]), (.bool false)])) w27
    else
     ∃ x8 : X.Facts, (X.FactsW x8 w4 (L2)) ∧
     ∃ n9 : Int, (((a.add 1), [(.int .u64 n9)]) ∈ x8) ∧
     ∃ q10 : Option Addr, ∃ k11 : Nat, ∃ k12 : Nat, ∃ q13 : Option Addr, ∃ k14 : Nat, ∃ k15 : Nat, (((a.add 2), [(.slice (q10) k11 k12), (.slice (q13) k14 k15)]) ∈ x8) ∧
     ∀ w16 : World, ∀ L17 : List Nat, (X.Hid (L2) w4 w16) →
     (X.NewL (w).heap.size (L2) w4 w16 L17) →
     X.CallX Try.prog 49 #[(.agg #[(.slice (q10) k11 k12), (.slice (q13) k14 k15)])] w16 fun e18 w19 =>
      ∃ q20 : Option Addr, ∃ k21 : Nat, ∃ k22 : Nat, ∃ q23 : Option Addr, ∃ k24 : Nat, ∃ k25 : Nat, (e18 = .returned (.agg #[(.slice (q20) k21 k22), (.slice (q23) k24 k25)])) ∧
      (X.Kept L17 w16 w19) ∧
      (X.FactsW x8 w19 (L17)) ∧
      ∀ w26 : World, (X.Hid (L17) w19 w26) →
      R (.returned (.tuple #[(.int .u64 n9), (.agg #[(.slice (q20) k21 k22), (.slice (q23) k24 k25)]), (.bool true)])) w26
   else
    ∀ w6 : World, (X.Hid (L2) w4 w6) →
    R (.returned (.tuple #[(.int .u64 0), (.agg #[(.slice none 0 0), (.slice none 0 0)]), (.bool false)])) w6) :
    Calls Try.prog 16 #[.pointer (some a)] w R :=
  X.calls_of { isLoc := [3], sym := [], loops := [], joins := [], stored := [(3, [3])] } Try.func16 (by kernel_rfl) h
abbrev fn_Promised : Nat := 17
theorem x_Promised (a : Addr) (w : World) (R : Ending → World → Prop) (h :
  X.CallX Try.prog 48 #[(.pointer (some a))] w fun e1 w2 =>
   ∃ b3 : Bool, (e1 = .returned (.bool b3)) ∧
   ((w).heap.size ≤ (w2).heap.size) ∧
   if b3 = true then
    R (.returned (.int .u64 0)) w2
   else
    ∃ n4 : Int, (World.cell? w2 (a.add 0) = some (.int .u64 n4)) ∧
    R (.returned (.int .u64 n4)) w2) :
    Calls Try.prog 17 #[.pointer (some a)] w R :=
  X.calls_of { isLoc := [], sym := [], loops := [], joins := [] } Try.func17 (by kernel_rfl) h
abbrev fn_rPrepare : Nat := 12
theorem x_rPrepare (a : Addr) (b : Int) (w : World) (R : Ending → World → Prop) (h :
  if ((b == 0) == false) = true then
   ∃ n1 : Int, (World.cell? w (a.add 0) = some (.int .u64 n1)) ∧
   if (false || decide (b < n1)) = true then
    R (.returned (.bool false)) w
   else
    (((a.add 0).spot) = none) ∧
    (World.there w ((a.add 0).block) ((a.add 0).off) 1) ∧
    R (.returned (.bool true)) (w.setCells ((a.add 0).block) ((a.add 0).off) [(.int .u64 b)])
  else
   R (.returned (.bool false)) w) :
    Calls Try.prog 12 #[.pointer (some a), .int .u64 b] w R :=
  X.calls_of { isLoc := [], sym := [], loops := [], joins := [] } Try.func12 (by kernel_rfl) h
abbrev fn_rAccept : Nat := 15
theorem x_rAccept (a : Addr) (b : Int) (c_0 : Option Addr) (c_0l c_0c : Nat) (c_1 : Option Addr) (c_1l c_1c : Nat) (w : World) (R : Ending → World → Prop) (h :
  ∀ w1 : World, ∀ L2 : List Nat, (X.Hid [] w w1) →
  (X.NewL (w).heap.size [] w w1 L2) →
  X.CallX Try.prog 12 #[(.pointer (some a)), (.int .u64 b)] w1 fun e3 w4 =>
   ∃ b5 : Bool, (e3 = .returned (.bool b5)) ∧
   (X.Kept L2 w1 w4) ∧
   if (!b5) = true then
    R (.returned (.bool false)) w4
   else
    ((none : Option Nat) = none) ∧
    (World.there w4 (a.block) ((a.off) + 1) 1) ∧
    (¬ ((a.block) ∈ L2)) ∧
    ((none : Option Nat) = none) ∧
    (World.there (w4.setCells (a.block) ((a.off) + 1) [(.int .u64 b)]) (a.block) ((a.off) + 2) 2) ∧
    (¬ ((a.block) ∈ L2)) ∧
    ((none : Option Nat) = none) ∧
    (World.there ((w4.setCells (a.block) ((a.off) + 1) [(.int .u64 b)]).setCells (a.block) ((a.off) + 2) [(.slice (c_0) c_0l c_0c), (.slice (c_1) c_1l c_1c)]) (a.block) ((a.off) + 4) 1) ∧
    (¬ ((a.block) ∈ L2)) ∧
    R (.returned (.bool true)) (((w4.setCells (a.block) ((a.off) + 1) [(.int .u64 b)]).setCells (a.block) ((a.off) + 2) [(.slice (c_0) c_0l c_0c), (.slice (c_1) c_1l c_1c)]).setCells (a.block) ((a.off) + 4) [(.bool true)])) :
    Calls Try.prog 15 #[.pointer (some a), .int .u64 b, .agg #[.slice c_0 c_0l c_0c, .slice c_1 c_1l c_1c]] w R :=
  X.calls_of { isLoc := [5], sym := [], loops := [], joins := [] } Try.func15 (by kernel_rfl) h
abbrev fn_Ballot : Nat := 20
theorem x_Ballot (a b : Int) (w : World) (R : Ending → World → Prop) (h :
  R (.returned (.int .u64 (IntKind.wrap .u64 ((((BitVec.ofInt 64 (IntKind.u64.wrap (IntKind.u64.wrap a * 256)) ||| BitVec.ofInt 64 (IntKind.u64.wrap b)).toNat) : Nat) : Int)))) w) :
    Calls Try.prog 20 #[.int .u32 a, .int .u8 b] w R :=
  X.calls_of { isLoc := [], sym := [], loops := [], joins := [] } Try.func20 (by kernel_rfl) h
abbrev fn_rBallot : Nat := 21
theorem x_rBallot (a b : Int) (w : World) (R : Ending → World → Prop) (h :
  R (.returned (.int .u64 (IntKind.wrap .u64 ((IntKind.wrap .u64 ((IntKind.wrap .u64 a) * 256)) + (IntKind.wrap .u64 b))))) w) :
    Calls Try.prog 21 #[.int .u32 a, .int .u8 b] w R :=
  X.calls_of { isLoc := [], sym := [], loops := [], joins := [] } Try.func21 (by kernel_rfl) h
abbrev fn_Round : Nat := 22
theorem x_Round (a : Int) (w : World) (R : Ending → World → Prop) (h :
  R (.returned (.int .u32 (IntKind.wrap .u32 (a.fdiv 256)))) w) :
    Calls Try.prog 22 #[.int .u64 a] w R :=
  X.calls_of { isLoc := [], sym := [], loops := [], joins := [] } Try.func22 (by kernel_rfl) h
abbrev fn_PactAccepts : Nat := 3
theorem x_PactAccepts (a : Option Addr) (al ac : Nat) (b c : Int) (w : World) (R : Ending → World → Prop) (h :
  X.CallX Try.prog 8 #[(.slice (a) al ac)] w fun e1 w2 =>
   ∃ b3 : Bool, (e1 = .returned (.bool b3)) ∧
   ((w).heap.size ≤ (w2).heap.size) ∧
   if ((!b3) == false) = true then
    X.CallX Try.prog 9 #[] w2 fun e7 w8 =>
     ∃ b9 : Bool, (e7 = .returned (.bool b9)) ∧
     ((w2).heap.size ≤ (w8).heap.size) ∧
     if (false || (!b9)) = true then
      X.CallX Try.prog 9 #[] w8 fun e170 w171 =>
       ∃ b172 : Bool, (e170 = .returned (.bool b172)) ∧
       ((w8).heap.size ≤ (w171).heap.size) ∧
       R (.returned (.bool b172)) w171
     else
      X.CallX Try.prog 10 #[] w8 fun e10 w11 =>
       ∃ q12 : Option Addr, (e10 = .returned (.pointer (q12))) ∧
       ((w8).heap.size ≤ (w11).heap.size) ∧
       ∃ x13 : Int → World → List Nat → Prop, ∃ x14 : Int → World → Nat, (x13 0 (w11.alloc (.cells #[(.int .u64 0), (.int .u64 0), (.slice none 0 0), (.slice none 0 0), (.bool false)] 35)) []) ∧
       ∀ n15 : Int, ∀ w16 : World, ∀ L17 : List Nat, (X.LF (w).heap.size w16 L17) →
       (x13 n15 w16 L17) →
       if (decide (n15 < ((al : Nat) : Int))) = true then
        ((0 : Int) ≤ n15) ∧
        (n15 < ((al : Nat) : Int)) ∧
        X.onSome (a) fun p27 =>
        ∃ n28 : Int, ∃ n29 : Int, ∃ n30 : Int, ∃ n31 : Int, ∃ q32 : Option Addr, ∃ k33 : Nat, ∃ k34 : Nat, ∃ q35 : Option Addr, ∃ k36 : Nat, ∃ k37 : Nat, ∃ q38 : Option Addr, ∃ k39 : Nat, ∃ k40 : Nat, ∃ b41 : Bool, (X.Cells w16 (p27.add ((n15).toNat * 8)) [(.int .i64 n28), (.int .u64 n29), (.int .u8 n30), (.int .u16 n31), (.slice (q32) k33 k34), (.slice (q35) k36 k37), (.slice (q38) k39 k40), (.bool b41)]) ∧
        if ((n28.tmod 2) == 0) = true then
         ∃ x110 : X.Facts, (X.FactsW x110 w16 []) ∧
         ∀ w111 : World, ∀ L112 : List Nat, (X.Hid [] w16 w111) →
         (X.NewL (w).heap.size [] w16 w111 L112) →
         X.CallX Try.prog 11 #[(.pointer (q12)), (.int .u64 n29)] w111 fun e113 w114 =>
          ∃ b115 : Bool, (e113 = .returned (.bool b115)) ∧
          (X.Kept L112 w111 w114) ∧
          (X.FactsW x110 w114 (L112)) ∧
          X.CallX Try.prog 12 #[(.pointer (some ⟨(w11).heap.size, 0, none⟩)), (.int .u64 n29)] w114 fun e116 w117 =>
           ∃ b118 : Bool, (e116 = .returned (.bool b118)) ∧
           (X.Kept L112 w114 w117) ∧
           (X.FactsW x110 w117 (L112)) ∧
           X.CallX Try.prog 16 #[(.pointer (q12))] w117 fun e119 w120 =>
            ∃ n121 : Int, ∃ q122 : Option Addr, ∃ k123 : Nat, ∃ k124 : Nat, ∃ q125 : Option Addr, ∃ k126 : Nat, ∃ k127 : Nat, ∃ b128 : Bool, (e119 = .returned (.tuple #[(.int .u64 n121), (.agg #[(.slice (q122) k123 k124), (.slice (q125) k126 k127)]), (.bool b128)])) ∧
            (X.Kept L112 w117 w120) ∧
            ∃ x129 : X.Facts, (X.FactsW x129 w120 (L112)) ∧
            if ((!(b115 == b118)) == false) = true then
             ∃ n137 : Int, ((⟨(w11).heap.size, 0, none⟩, [(.int .u64 n137)]) ∈ x129) ∧
             ∀ w138 : World, ∀ L139 : List Nat, (X.Hid (L112) w120 w138) →
             (X.NewL (w).heap.size (L112) w120 w138 L139) →
             X.CallX Try.prog 17 #[(.pointer (q12))] w138 fun e140 w141 =>
              ∃ n142 : Int, (e140 = .returned (.int .u64 n142)) ∧
              (X.Kept L139 w138 w141) ∧
              (X.FactsW x129 w141 (L139)) ∧
              ∃ x143 : X.Facts, (X.FactsW x143 w141 (L139)) ∧
              (∀ x144 : Addr × List Value, (x144 ∈ x129) →
               x144 ∈ x143) ∧
              if ((false || (n142 != n137)) == false) = true then
               ∃ n149 : Int, ((⟨(w11).heap.size, (0 + 1), none⟩, [(.int .u64 n149)]) ∈ x143) ∧
               if ((false || (n121 != n149)) == false) = true then
                ∃ b152 : Bool, ((⟨(w11).heap.size, (0 + 4), none⟩, [(.bool b152)]) ∈ x143) ∧
                if ((false || (!(b128 == b152))) == false) = true then
                 ∃ q153 : Option Addr, ∃ k154 : Nat, ∃ k155 : Nat, ∃ q156 : Option Addr, ∃ k157 : Nat, ∃ k158 : Nat, ((⟨(w11).heap.size, (0 + 2), none⟩, [(.slice (q153) k154 k155), (.slice (q156) k157 k158)]) ∈ x143) ∧
                 X.CallX Try.prog 19 #[(.agg #[(.slice (q122) k123 k124), (.slice (q125) k126 k127)])] w141 fun e159 w160 =>
                  ∃ q161 : Option Addr, ∃ k162 : Nat, ∃ k163 : Nat, ∃ q164 : Option Addr, ∃ k165 : Nat, ∃ k166 : Nat, (e159 = .returned (.agg #[(.slice (q161) k162 k163), (.slice (q164) k165 k166)])) ∧
                  (X.Kept L139 w141 w160) ∧
                  (X.FactsW x143 w160 (L139)) ∧
                  X.CallX Try.prog 18 #[(.agg #[(.slice (q161) k162 k163), (.slice (q164) k165 k166)]), (.agg #[(.slice (q153) k154 k155), (.slice (q156) k157 k158)])] w160 fun e167 w168 =>
                   ∃ b169 : Bool, (e167 = .returned (.bool b169)) ∧
                   (X.Kept L139 w160 w168) ∧
                   (X.FactsW x143 w168 (L139)) ∧
                   if (false || (!b169)) = true then
                    R (.returned (.bool false)) w168
                   else
                    (x13 (IntKind.wrap .i64 (n15 + 1)) w168 (L139)) ∧
                    Nat.le ((x14 (IntKind.wrap .i64 (n15 + 1)) w168) + 1) (x14 n15 w16)
                else
                 R (.returned (.bool false)) w141
               else
                ∃ x150 : X.Facts, (X.FactsW x150 w141 (L139)) ∧
                (∀ x151 : Addr × List Value, (x151 ∈ x143) →
                 x151 ∈ x150) ∧
                R (.returned (.bool false)) w141
              else
               ∃ x145 : X.Facts, (X.FactsW x145 w141 (L139)) ∧
               (∀ x146 : Addr × List Value, (x146 ∈ x143) →
                x146 ∈ x145) ∧
               ∃ x147 : X.Facts, (X.FactsW x147 w141 (L139)) ∧
               (∀ x148 : Addr × List Value, (x148 ∈ x145) →
                x148 ∈ x147) ∧
               R (.returned (.bool false)) w141
            else
             ∃ x130 : X.Facts, (X.FactsW x130 w120 (L112)) ∧
             (∀ x131 : Addr × List Value, (x131 ∈ x129) →
              x131 ∈ x130) ∧
             ∃ x132 : X.Facts, (X.FactsW x132 w120 (L112)) ∧
             (∀ x133 : Addr × List Value, (x133 ∈ x130) →
              x133 ∈ x132) ∧
             ∃ x134 : X.Facts, (X.FactsW x134 w120 (L112)) ∧
             (∀ x135 : Addr × List Value, (x135 ∈ x132) →
              x135 ∈ x134) ∧
             ∀ w136 : World, (X.Hid (L112) w120 w136) →
             R (.returned (.bool false)) w136
        else
         ∃ x42 : X.Facts, (X.FactsW x42 w16 []) ∧
         ∀ w43 : World, ∀ L44 : List Nat, (X.Hid [] w16 w43) →
         (X.NewL (w).heap.size [] w16 w43 L44) →
         X.CallX Try.prog 14 #[(.agg #[(.slice (q35) k36 k37), (.slice (q38) k39 k40)])] w43 fun e45 w46 =>
          ∃ q47 : Option Addr, ∃ k48 : Nat, ∃ k49 : Nat, ∃ q50 : Option Addr, ∃ k51 : Nat, ∃ k52 : Nat, (e45 = .returned (.agg #[(.slice (q47) k48 k49), (.slice (q50) k51 k52)])) ∧
          (X.Kept L44 w43 w46) ∧
          (X.FactsW x42 w46 (L44)) ∧
          X.CallX Try.prog 13 #[(.pointer (q12)), (.int .u64 n29), (.agg #[(.slice (q47) k48 k49), (.slice (q50) k51 k52)])] w46 fun e53 w54 =>
           ∃ b55 : Bool, (e53 = .returned (.bool b55)) ∧
           (X.Kept L44 w46 w54) ∧
           (X.FactsW x42 w54 (L44)) ∧
           X.CallX Try.prog 15 #[(.pointer (some ⟨(w11).heap.size, 0, none⟩)), (.int .u64 n29), (.agg #[(.slice (q35) k36 k37), (.slice (q38) k39 k40)])] w54 fun e56 w57 =>
            ∃ b58 : Bool, (e56 = .returned (.bool b58)) ∧
            (X.Kept L44 w54 w57) ∧
            (X.FactsW x42 w57 (L44)) ∧
            X.CallX Try.prog 16 #[(.pointer (q12))] w57 fun e59 w60 =>
             ∃ n61 : Int, ∃ q62 : Option Addr, ∃ k63 : Nat, ∃ k64 : Nat, ∃ q65 : Option Addr, ∃ k66 : Nat, ∃ k67 : Nat, ∃ b68 : Bool, (e59 = .returned (.tuple #[(.int .u64 n61), (.agg #[(.slice (q62) k63 k64), (.slice (q65) k66 k67)]), (.bool b68)])) ∧
             (X.Kept L44 w57 w60) ∧
             ∃ x69 : X.Facts, (X.FactsW x69 w60 (L44)) ∧
             if ((!(b55 == b58)) == false) = true then
              ∃ n77 : Int, ((⟨(w11).heap.size, 0, none⟩, [(.int .u64 n77)]) ∈ x69) ∧
              ∀ w78 : World, ∀ L79 : List Nat, (X.Hid (L44) w60 w78) →
              (X.NewL (w).heap.size (L44) w60 w78 L79) →
              X.CallX Try.prog 17 #[(.pointer (q12))] w78 fun e80 w81 =>
               ∃ n82 : Int, (e80 = .returned (.int .u64 n82)) ∧
               (X.Kept L79 w78 w81) ∧
               (X.FactsW x69 w81 (L79)) ∧
               ∃ x83 : X.Facts, (X.FactsW x83 w81 (L79)) ∧
               (∀ x84 : Addr × List Value, (x84 ∈ x69) →
                x84 ∈ x83) ∧
               if ((false || (n82 != n77)) == false) = true then
                ∃ n89 : Int, ((⟨(w11).heap.size, (0 + 1), none⟩, [(.int .u64 n89)]) ∈ x83) ∧
                if ((false || (n61 != n89)) == false) = true then
                 ∃ b92 : Bool, ((⟨(w11).heap.size, (0 + 4), none⟩, [(.bool b92)]) ∈ x83) ∧
                 if ((false || (!(b68 == b92))) == false) = true then
                  ∃ q93 : Option Addr, ∃ k94 : Nat, ∃ k95 : Nat, ∃ q96 : Option Addr, ∃ k97 : Nat, ∃ k98 : Nat, ((⟨(w11).heap.size, (0 + 2), none⟩, [(.slice (q93) k94 k95), (.slice (q96) k97 k98)]) ∈ x83) ∧
                  X.CallX Try.prog 19 #[(.agg #[(.slice (q62) k63 k64), (.slice (q65) k66 k67)])] w81 fun e99 w100 =>
                   ∃ q101 : Option Addr, ∃ k102 : Nat, ∃ k103 : Nat, ∃ q104 : Option Addr, ∃ k105 : Nat, ∃ k106 : Nat, (e99 = .returned (.agg #[(.slice (q101) k102 k103), (.slice (q104) k105 k106)])) ∧
                   (X.Kept L79 w81 w100) ∧
                   (X.FactsW x83 w100 (L79)) ∧
                   X.CallX Try.prog 18 #[(.agg #[(.slice (q101) k102 k103), (.slice (q104) k105 k106)]), (.agg #[(.slice (q93) k94 k95), (.slice (q96) k97 k98)])] w100 fun e107 w108 =>
                    ∃ b109 : Bool, (e107 = .returned (.bool b109)) ∧
                    (X.Kept L79 w100 w108) ∧
                    (X.FactsW x83 w108 (L79)) ∧
                    if (false || (!b109)) = true then
                     R (.returned (.bool false)) w108
                    else
                     (x13 (IntKind.wrap .i64 (n15 + 1)) w108 (L79)) ∧
                     Nat.le ((x14 (IntKind.wrap .i64 (n15 + 1)) w108) + 1) (x14 n15 w16)
                 else
                  R (.returned (.bool false)) w81
                else
                 ∃ x90 : X.Facts, (X.FactsW x90 w81 (L79)) ∧
                 (∀ x91 : Addr × List Value, (x91 ∈ x83) →
                  x91 ∈ x90) ∧
                 R (.returned (.bool false)) w81
               else
                ∃ x85 : X.Facts, (X.FactsW x85 w81 (L79)) ∧
                (∀ x86 : Addr × List Value, (x86 ∈ x83) →
                 x86 ∈ x85) ∧
                ∃ x87 : X.Facts, (X.FactsW x87 w81 (L79)) ∧
                (∀ x88 : Addr × List Value, (x88 ∈ x85) →
                 x88 ∈ x87) ∧
                R (.returned (.bool false)) w81
             else
              ∃ x70 : X.Facts, (X.FactsW x70 w60 (L44)) ∧
              (∀ x71 : Addr × List Value, (x71 ∈ x69) →
               x71 ∈ x70) ∧
              ∃ x72 : X.Facts, (X.FactsW x72 w60 (L44)) ∧
              (∀ x73 : Addr × List Value, (x73 ∈ x70) →
               x73 ∈ x72) ∧
              ∃ x74 : X.Facts, (X.FactsW x74 w60 (L44)) ∧
              (∀ x75 : Addr × List Value, (x75 ∈ x72) →
               x75 ∈ x74) ∧
              ∀ w76 : World, (X.Hid (L44) w60 w76) →
              R (.returned (.bool false)) w76
       else
        X.CallX Try.prog 20 #[(.int .u32 b), (.int .u8 c)] w16 fun e18 w19 =>
         ∃ n20 : Int, (e18 = .returned (.int .u64 n20)) ∧
         ((w16).heap.size ≤ (w19).heap.size) ∧
         X.CallX Try.prog 21 #[(.int .u32 b), (.int .u8 c)] w19 fun e21 w22 =>
          ∃ n23 : Int, (e21 = .returned (.int .u64 n23)) ∧
          ((w19).heap.size ≤ (w22).heap.size) ∧
          if ((n20 == n23) == true) = true then
           X.CallX Try.prog 22 #[(.int .u64 n20)] w22 fun e24 w25 =>
            ∃ n26 : Int, (e24 = .returned (.int .u32 n26)) ∧
            ((w22).heap.size ≤ (w25).heap.size) ∧
            R (.returned (.bool (true && (n26 == b)))) w25
          else
           R (.returned (.bool false)) w22
   else
    X.CallX Try.prog 9 #[] w2 fun e4 w5 =>
     ∃ b6 : Bool, (e4 = .returned (.bool b6)) ∧
     ((w2).heap.size ≤ (w5).heap.size) ∧
     R (.returned (.bool b6)) w5) :
    Calls Try.prog 3 #[.slice a al ac, .int .u32 b, .int .u8 c] w R :=
  X.calls_of { isLoc := [10, 13], sym := [], loops := [(6, .inv [(9, .int .i64)] [] true)], joins := [] } Try.func3 (by kernel_rfl) h
end Go.Proofs
