import Derived.Test.YtpijekgiblcfhaaXFn
import Derived.Test.YtpijekgiblcfhaaProg
/- The verification conditions of this seat's functions, as the engine has them: printed by a program of the bench; checked by the kernel. -/
set_option maxRecDepth 100000
set_option linter.unusedVariables false
namespace Go.Proofs
open Go
abbrev fn_rNew : Nat := 14
theorem x_rNew (a : Int) (w : World) (R : Ending → World → Prop) (h :
  R (.returned (.pointer (some ⟨(w).heap.size, 0, none⟩))) (w.alloc (.cells #[(.int .i64 (if (16 : Int) < (if (1 : Int) > a then 1 else a) then 16 else (if (1 : Int) > a then 1 else a))), (.slice none 0 0), (.slice none 0 0)] 82))) :
    Calls Try.prog 14 #[.int .i64 a] w R :=
  X.calls_of { isLoc := [], sym := [], loops := [], joins := [] } Try.func14 (by kernel_rfl) h
abbrev fn_rfind : Nat := 49
theorem x_rfind (a : Addr) (b_0 b_1 b_2 b_3 b_4 b_5 b_6 b_7 b_8 b_9 : Int) (w : World) (R : Ending → World → Prop) (h :
  ∀ w1 : World, ∀ L2 : List Nat, (X.Hid [] w w1) →
  (X.NewL (w).heap.size [] w w1 L2) →
  ∃ x3 : Int → World → List Nat → Prop, ∃ x4 : Int → World → Nat, (x3 0 w1 (L2)) ∧
  ∀ n5 : Int, ∀ w6 : World, ∀ L7 : List Nat, (X.LF (w).heap.size w6 L7) →
  (x3 n5 w6 L7) →
  ∃ x8 : X.Facts, (X.FactsW x8 w6 (L7)) ∧
  ∃ q9 : Option Addr, ∃ k10 : Nat, ∃ k11 : Nat, (((a.add 1), [(.slice (q9) k10 k11)]) ∈ x8) ∧
  if ((decide (n5 < ((k10 : Nat) : Int))) == true) = true then
   ∃ q31 : Option Addr, ∃ k32 : Nat, ∃ k33 : Nat, (((a.add 1), [(.slice (q31) k32 k33)]) ∈ x8) ∧
   ((0 : Int) ≤ n5) ∧
   (n5 < ((k32 : Nat) : Int)) ∧
   X.onSome (q31) fun p34 =>
   ∃ n35 : Int, ∃ n36 : Int, ∃ n37 : Int, ∃ n38 : Int, ∃ n39 : Int, ∃ n40 : Int, ∃ n41 : Int, ∃ n42 : Int, ∃ n43 : Int, ∃ n44 : Int, ((((p34.add ((n5).toNat * 13)).add 0), [(.int .u8 n35), (.int .u16 n36), (.int .u32 n37), (.int .u8 n38), (.int .u8 n39), (.int .u8 n40), (.int .u8 n41), (.int .u8 n42), (.int .u8 n43), (.int .u8 n44)]) ∈ x8) ∧
   ∀ w45 : World, ∀ L46 : List Nat, (X.Hid (L7) w6 w45) →
   (X.NewL (w).heap.size (L7) w6 w45 L46) →
   X.CallX Try.prog 69 #[(.agg #[(.int .u8 n35), (.int .u16 n36), (.int .u32 n37), (.int .u8 n38), (.int .u8 n39), (.int .u8 n40), (.int .u8 n41), (.int .u8 n42), (.int .u8 n43), (.int .u8 n44)]), (.agg #[(.int .u8 b_0), (.int .u16 b_1), (.int .u32 b_2), (.int .u8 b_3), (.int .u8 b_4), (.int .u8 b_5), (.int .u8 b_6), (.int .u8 b_7), (.int .u8 b_8), (.int .u8 b_9)])] w45 fun e47 w48 =>
    ∃ n49 : Int, (e47 = .returned (.int .i64 n49)) ∧
    (X.Kept L46 w45 w48) ∧
    (X.FactsW x8 w48 (L46)) ∧
    if (true && decide (n49 < 0)) = true then
     (([(.int .u8 b_0), (.int .u16 b_1), (.int .u32 b_2), (.int .u8 b_3), (.int .u8 b_4), (.int .u8 b_5), (.int .u8 b_6), (.int .u8 b_7), (.int .u8 b_8), (.int .u8 b_9)] : List Value) = [(.int .u8 b_0), (.int .u16 b_1), (.int .u32 b_2), (.int .u8 b_3), (.int .u8 b_4), (.int .u8 b_5), (.int .u8 b_6), (.int .u8 b_7), (.int .u8 b_8), (.int .u8 b_9)]) ∧
     (x3 (IntKind.wrap .i64 (n5 + 1)) w48 (L46)) ∧
     Nat.le ((x4 (IntKind.wrap .i64 (n5 + 1)) w48) + 1) (x4 n5 w6)
    else
     ∃ q50 : Option Addr, ∃ k51 : Nat, ∃ k52 : Nat, (World.cell? w48 (a.add 1) = some (.slice (q50) k51 k52)) ∧
     (¬ ((a.block) ∈ L46)) ∧
     if ((decide (n5 < ((k51 : Nat) : Int))) == true) = true then
      ∃ q54 : Option Addr, ∃ k55 : Nat, ∃ k56 : Nat, (World.cell? w48 (a.add 1) = some (.slice (q54) k55 k56)) ∧
      (¬ ((a.block) ∈ L46)) ∧
      ((0 : Int) ≤ n5) ∧
      (n5 < ((k55 : Nat) : Int)) ∧
      X.onSome (q54) fun p57 =>
      ∃ n58 : Int, ∃ n59 : Int, ∃ n60 : Int, ∃ n61 : Int, ∃ n62 : Int, ∃ n63 : Int, ∃ n64 : Int, ∃ n65 : Int, ∃ n66 : Int, ∃ n67 : Int, (X.Cells w48 ((p57.add ((n5).toNat * 13)).add 0) [(.int .u8 n58), (.int .u16 n59), (.int .u32 n60), (.int .u8 n61), (.int .u8 n62), (.int .u8 n63), (.int .u8 n64), (.int .u8 n65), (.int .u8 n66), (.int .u8 n67)]) ∧
      (¬ ((((p57.add (n5.toNat * 13)).add 0).block) ∈ L46)) ∧
      ∀ w68 : World, (X.Hid (L46) w48 w68) →
      R (.returned (.tuple #[(.int .i64 n5), (.bool (true && (((n58 == b_0) && (n59 == b_1)) && ((n60 == b_2) && ((n61 == b_3) && (((n62 == b_4) && (n63 == b_5)) && (((n64 == b_6) && (n65 == b_7)) && ((n66 == b_8) && (n67 == b_9)))))))))])) w68
     else
      ∀ w53 : World, (X.Hid (L46) w48 w53) →
      R (.returned (.tuple #[(.int .i64 n5), (.bool false)])) w53
  else
   ∃ q12 : Option Addr, ∃ k13 : Nat, ∃ k14 : Nat, (World.cell? w6 (a.add 1) = some (.slice (q12) k13 k14)) ∧
   (¬ ((a.block) ∈ L7)) ∧
   if ((decide (n5 < ((k13 : Nat) : Int))) == true) = true then
    ∃ q16 : Option Addr, ∃ k17 : Nat, ∃ k18 : Nat, (World.cell? w6 (a.add 1) = some (.slice (q16) k17 k18)) ∧
    (¬ ((a.block) ∈ L7)) ∧
    ((0 : Int) ≤ n5) ∧
    (n5 < ((k17 : Nat) : Int)) ∧
    X.onSome (q16) fun p19 =>
    ∃ n20 : Int, ∃ n21 : Int, ∃ n22 : Int, ∃ n23 : Int, ∃ n24 : Int, ∃ n25 : Int, ∃ n26 : Int, ∃ n27 : Int, ∃ n28 : Int, ∃ n29 : Int, (X.Cells w6 ((p19.add ((n5).toNat * 13)).add 0) [(.int .u8 n20), (.int .u16 n21), (.int .u32 n22), (.int .u8 n23), (.int .u8 n24), (.int .u8 n25), (.int .u8 n26), (.int .u8 n27), (.int .u8 n28), (.int .u8 n29)]) ∧
    (¬ ((((p19.add (n5.toNat * 13)).add 0).block) ∈ L7)) ∧
    ∀ w30 : World, (X.Hid (L7) w6 w30) →
    R (.returned (.tuple #[(.int .i64 n5), (.bool (true && (((n20 == b_0) && (n21 == b_1)) && ((n22 == b_2) && ((n23 == b_3) && (((n24 == b_4) && (n25 == b_5)) && (((n26 == b_6) && (n27 == b_7)) && ((n28 == b_8) && (n29 == b_9)))))))))])) w30
   else
    ∀ w15 : World, (X.Hid (L7) w6 w15) →
    R (.returned (.tuple #[(.int .i64 n5), (.bool false)])) w15) :
    Calls Try.prog 49 #[.pointer (some a), .agg #[.int .u8 b_0, .int .u16 b_1, .int .u32 b_2, .int .u8 b_3, .int .u8 b_4, .int .u8 b_5, .int .u8 b_6, .int .u8 b_7, .int .u8 b_8, .int .u8 b_9]] w R :=
  X.calls_of { isLoc := [3], sym := [], loops := [(2, .inv [(6, .int .i64)] [] true)], joins := [] } Try.func49 (by kernel_rfl) h
abbrev fn_rFloor : Nat := 33
theorem x_rFloor (a : Addr) (b_0 b_1 : Int) (w : World) (R : Ending → World → Prop) (h :
  ∀ w1 : World, ∀ L2 : List Nat, (X.Hid [] w w1) →
  (X.NewL (w).heap.size [] w w1 L2) →
  ∃ x3 : Int → World → List Nat → Prop, ∃ x4 : Int → World → Nat, (x3 0 w1 (L2)) ∧
  ∀ n5 : Int, ∀ w6 : World, ∀ L7 : List Nat, (X.LF (w).heap.size w6 L7) →
  (x3 n5 w6 L7) →
  ∃ q8 : Option Addr, ∃ k9 : Nat, ∃ k10 : Nat, (World.cell? w6 (a.add 2) = some (.slice (q8) k9 k10)) ∧
  (¬ ((a.block) ∈ L7)) ∧
  if (decide (n5 < ((k9 : Nat) : Int))) = true then
   ∃ q11 : Option Addr, ∃ k12 : Nat, ∃ k13 : Nat, (World.cell? w6 (a.add 2) = some (.slice (q11) k12 k13)) ∧
   (¬ ((a.block) ∈ L7)) ∧
   ((0 : Int) ≤ n5) ∧
   (n5 < ((k12 : Nat) : Int)) ∧
   X.onSome (q11) fun p14 =>
   ∃ n15 : Int, ∃ n16 : Int, (X.Cells w6 ((p14.add ((n5).toNat * 3)).add 0) [(.int .u8 n15), (.int .u16 n16)]) ∧
   (¬ ((((p14.add (n5.toNat * 3)).add 0).block) ∈ L7)) ∧
   if ((n15 == b_0) && (n16 == b_1)) = true then
    ∃ q19 : Option Addr, ∃ k20 : Nat, ∃ k21 : Nat, (World.cell? w6 (a.add 2) = some (.slice (q19) k20 k21)) ∧
    (¬ ((a.block) ∈ L7)) ∧
    ((0 : Int) ≤ n5) ∧
    (n5 < ((k20 : Nat) : Int)) ∧
    X.onSome (q19) fun p22 =>
    ∃ n23 : Int, (World.cell? w6 ((p22.add ((n5).toNat * 3)).add 2) = some (.int .u32 n23)) ∧
    (¬ (((p22.add (n5.toNat * 3)).block) ∈ L7)) ∧
    ∀ w24 : World, (X.Hid (L7) w6 w24) →
    R (.returned (.int .u32 n23)) w24
   else
    ∀ w17 : World, ∀ L18 : List Nat, (X.Hid (L7) w6 w17) →
    (X.NewL (w).heap.size (L7) w6 w17 L18) →
    (([(.int .u8 b_0), (.int .u16 b_1)] : List Value) = [(.int .u8 b_0), (.int .u16 b_1)]) ∧
    (x3 (IntKind.wrap .i64 (n5 + 1)) w17 (L18)) ∧
    Nat.le ((x4 (IntKind.wrap .i64 (n5 + 1)) w17) + 1) (x4 n5 w6)
  else
   R (.returned (.int .u32 0)) w6) :
    Calls Try.prog 33 #[.pointer (some a), .agg #[.int .u8 b_0, .int .u16 b_1]] w R :=
  X.calls_of { isLoc := [3], sym := [], loops := [(2, .inv [(5, .int .i64)] [] true)], joins := [] } Try.func33 (by kernel_rfl) h
abbrev fn_rold : Nat := 51
theorem x_rold (a : Addr) (b_0 b_1 b_2 b_3 b_4 b_5 b_6 b_7 b_8 b_9 : Int) (w : World) (R : Ending → World → Prop) (h :
  ∃ x1 : X.Facts, (X.FactsW x1 w []) ∧
  if ((b_3 == 0) == true) = true then
   ∀ w3 : World, ∀ L4 : List Nat, (X.Hid [] w w3) →
   (X.NewL (w).heap.size [] w w3 L4) →
   X.CallX Try.prog 33 #[(.pointer (some a)), (.agg #[(.int .u8 b_0), (.int .u16 b_1)])] w3 fun e5 w6 =>
    ∃ n7 : Int, (e5 = .returned (.int .u32 n7)) ∧
    (X.Kept L4 w3 w6) ∧
    (X.FactsW x1 w6 (L4)) ∧
    R (.returned (.bool (true && decide (b_2 ≤ n7)))) w6
  else
   ∀ w2 : World, (X.Hid [] w w2) →
   R (.returned (.bool false)) w2) :
    Calls Try.prog 51 #[.pointer (some a), .agg #[.int .u8 b_0, .int .u16 b_1, .int .u32 b_2, .int .u8 b_3, .int .u8 b_4, .int .u8 b_5, .int .u8 b_6, .int .u8 b_7, .int .u8 b_8, .int .u8 b_9]] w R :=
  X.calls_of { isLoc := [3], sym := [], loops := [], joins := [] } Try.func51 (by kernel_rfl) h
abbrev fn_rState : Nat := 32
theorem x_rState (a : Addr) (b_0 b_1 b_2 b_3 b_4 b_5 b_6 b_7 b_8 b_9 : Int) (w : World) (R : Ending → World → Prop) (h :
  ∀ w1 : World, ∀ L2 : List Nat, (X.Hid [] w w1) →
  (X.NewL (w).heap.size [] w w1 L2) →
  X.CallX Try.prog 49 #[(.pointer (some a)), (.agg #[(.int .u8 b_0), (.int .u16 b_1), (.int .u32 b_2), (.int .u8 b_3), (.int .u8 b_4), (.int .u8 b_5), (.int .u8 b_6), (.int .u8 b_7), (.int .u8 b_8), (.int .u8 b_9)])] w1 fun e3 w4 =>
   ∃ n5 : Int, ∃ b6 : Bool, (e3 = .returned (.tuple #[(.int .i64 n5), (.bool b6)])) ∧
   (X.Kept L2 w1 w4) ∧
   if (b6 == true) = true then
    ∃ q18 : Option Addr, ∃ k19 : Nat, ∃ k20 : Nat, (World.cell? w4 (a.add 1) = some (.slice (q18) k19 k20)) ∧
    (¬ ((a.block) ∈ L2)) ∧
    ((0 : Int) ≤ n5) ∧
    (n5 < ((k19 : Nat) : Int)) ∧
    X.onSome (q18) fun p21 =>
    ∃ b22 : Bool, (World.cell? w4 ((p21.add ((n5).toNat * 13)).add 10) = some (.bool b22)) ∧
    (¬ (((p21.add (n5.toNat * 13)).block) ∈ L2)) ∧
    if (true && b22) = true then
     R (.returned (.int .i64 2)) w4
    else
     if b6 = true then
      R (.returned (.int .i64 1)) w4
     else
      X.CallX Try.prog 51 #[(.pointer (some a)), (.agg #[(.int .u8 b_0), (.int .u16 b_1), (.int .u32 b_2), (.int .u8 b_3), (.int .u8 b_4), (.int .u8 b_5), (.int .u8 b_6), (.int .u8 b_7), (.int .u8 b_8), (.int .u8 b_9)])] w4 fun e23 w24 =>
       ∃ b25 : Bool, (e23 = .returned (.bool b25)) ∧
       (X.Kept L2 w4 w24) ∧
       if b25 = true then
        R (.returned (.int .i64 3)) w24
       else
        ∃ x26 : X.Facts, (X.FactsW x26 w24 (L2)) ∧
        if ((b_3 == 0) == true) = true then
         ∃ n28 : Int, (((a.add 0), [(.int .i64 n28)]) ∈ x26) ∧
         ∀ w29 : World, ∀ L30 : List Nat, (X.Hid (L2) w24 w29) →
         (X.NewL (w).heap.size (L2) w24 w29 L30) →
         X.CallX Try.prog 33 #[(.pointer (some a)), (.agg #[(.int .u8 b_0), (.int .u16 b_1)])] w29 fun e31 w32 =>
          ∃ n33 : Int, (e31 = .returned (.int .u32 n33)) ∧
          (X.Kept L30 w29 w32) ∧
          (X.FactsW x26 w32 (L30)) ∧
          if (true && decide ((IntKind.wrap .i64 ((IntKind.wrap .i64 b_2) - (IntKind.wrap .i64 n33))) > n28)) = true then
           R (.returned (.int .i64 4)) w32
          else
           R (.returned (.int .i64 0)) w32
        else
         ∀ w27 : World, (X.Hid (L2) w24 w27) →
         R (.returned (.int .i64 0)) w27
   else
    if b6 = true then
     R (.returned (.int .i64 1)) w4
    else
     X.CallX Try.prog 51 #[(.pointer (some a)), (.agg #[(.int .u8 b_0), (.int .u16 b_1), (.int .u32 b_2), (.int .u8 b_3), (.int .u8 b_4), (.int .u8 b_5), (.int .u8 b_6), (.int .u8 b_7), (.int .u8 b_8), (.int .u8 b_9)])] w4 fun e7 w8 =>
      ∃ b9 : Bool, (e7 = .returned (.bool b9)) ∧
      (X.Kept L2 w4 w8) ∧
      if b9 = true then
       R (.returned (.int .i64 3)) w8
      else
       ∃ x10 : X.Facts, (X.FactsW x10 w8 (L2)) ∧
       if ((b_3 == 0) == true) = true then
        ∃ n12 : Int, (((a.add 0), [(.int .i64 n12)]) ∈ x10) ∧
        ∀ w13 : World, ∀ L14 : List Nat, (X.Hid (L2) w8 w13) →
        (X.NewL (w).heap.size (L2) w8 w13 L14) →
        X.CallX Try.prog 33 #[(.pointer (some a)), (.agg #[(.int .u8 b_0), (.int .u16 b_1)])] w13 fun e15 w16 =>
         ∃ n17 : Int, (e15 = .returned (.int .u32 n17)) ∧
         (X.Kept L14 w13 w16) ∧
         (X.FactsW x10 w16 (L14)) ∧
         if (true && decide ((IntKind.wrap .i64 ((IntKind.wrap .i64 b_2) - (IntKind.wrap .i64 n17))) > n12)) = true then
          R (.returned (.int .i64 4)) w16
         else
          R (.returned (.int .i64 0)) w16
       else
        ∀ w11 : World, (X.Hid (L2) w8 w11) →
        R (.returned (.int .i64 0)) w11) :
    Calls Try.prog 32 #[.pointer (some a), .agg #[.int .u8 b_0, .int .u16 b_1, .int .u32 b_2, .int .u8 b_3, .int .u8 b_4, .int .u8 b_5, .int .u8 b_6, .int .u8 b_7, .int .u8 b_8, .int .u8 b_9]] w R :=
  X.calls_of { isLoc := [3], sym := [], loops := [], joins := [] } Try.func32 (by kernel_rfl) h
abbrev fn_rBegin : Nat := 22
theorem x_rBegin (a : Addr) (b_0 b_1 b_2 b_3 b_4 b_5 b_6 b_7 b_8 b_9 : Int) (w : World) (R : Ending → World → Prop) (h :
  ∀ w1 : World, ∀ L2 : List Nat, (X.Hid [] w w1) →
  (X.NewL (w).heap.size [] w w1 L2) →
  X.CallX Try.prog 48 #[(.agg #[(.int .u8 b_0), (.int .u16 b_1), (.int .u32 b_2), (.int .u8 b_3), (.int .u8 b_4), (.int .u8 b_5), (.int .u8 b_6), (.int .u8 b_7), (.int .u8 b_8), (.int .u8 b_9)])] w1 fun e3 w4 =>
   ∃ b5 : Bool, (e3 = .returned (.bool b5)) ∧
   (X.Kept L2 w1 w4) ∧
   if (!b5) = true then
    R (.returned (.int .i64 1)) w4
   else
    X.CallX Try.prog 32 #[(.pointer (some a)), (.agg #[(.int .u8 b_0), (.int .u16 b_1), (.int .u32 b_2), (.int .u8 b_3), (.int .u8 b_4), (.int .u8 b_5), (.int .u8 b_6), (.int .u8 b_7), (.int .u8 b_8), (.int .u8 b_9)])] w4 fun e6 w7 =>
     ∃ n8 : Int, (e6 = .returned (.int .i64 n8)) ∧
     (X.Kept L2 w4 w7) ∧
     if (n8 == 1) = true then
      if (n8 == 1) = true then
       R (.returned (.int .i64 4)) w7
      else
       if (n8 == 3) = true then
        R (.returned (.int .i64 16)) w7
       else
        if (n8 == 4) = true then
         R (.returned (.int .i64 10)) w7
        else
         X.CallX Try.prog 49 #[(.pointer (some a)), (.agg #[(.int .u8 b_0), (.int .u16 b_1), (.int .u32 b_2), (.int .u8 b_3), (.int .u8 b_4), (.int .u8 b_5), (.int .u8 b_6), (.int .u8 b_7), (.int .u8 b_8), (.int .u8 b_9)])] w7 fun e60 w61 =>
          ∃ n62 : Int, ∃ b63 : Bool, (e60 = .returned (.tuple #[(.int .i64 n62), (.bool b63)])) ∧
          (X.Kept L2 w7 w61) ∧
          ∃ x64 : X.Facts, (X.FactsW x64 w61 (L2)) ∧
          ∃ q65 : Option Addr, ∃ k66 : Nat, ∃ k67 : Nat, (((a.add 1), [(.slice (q65) k66 k67)]) ∈ x64) ∧
          ((0 : Int) ≤ n62) ∧
          (n62 ≤ ((k67 : Nat) : Int)) ∧
          ∃ q68 : Option Addr, ∃ k69 : Nat, ∃ k70 : Nat, (((a.add 1), [(.slice (q68) k69 k70)]) ∈ x64) ∧
          ((0 : Int) ≤ n62) ∧
          (n62 ≤ ((k69 : Nat) : Int)) ∧
          (∀ w71 : World, ∀ L72 : List Nat, (X.Hid (L2) w61 w71) →
           (X.NewL (w).heap.size (L2) w61 w71 L72) →
           (X.FactsW x64 (w71.alloc (.cells #[] 94)) (L72)) ∧
           (∃ q73 : Option Addr, ∃ k74 : Nat, ∃ k75 : Nat, ∃ w76 : World, (Sem.run Try.prog (Go.Builtin.append_ #[79, 79] 79 #[(.slice (some ⟨(w71).heap.size, 0, none⟩) 0 0), (.slice (X.cutA (q65) k67 0 13) (n62).toNat k67)]) (w71.alloc (.cells #[] 94)) = .ok (.slice (q73) k74 k75) w76) ∧
            (X.Kept L72 (w71.alloc (.cells #[] 94)) w76) ∧
            (X.FactsW x64 w76 (L72)) ∧
            (X.FactsW x64 (w76.alloc (.cells #[(.int .u8 b_0), (.int .u16 b_1), (.int .u32 b_2), (.int .u8 b_3), (.int .u8 b_4), (.int .u8 b_5), (.int .u8 b_6), (.int .u8 b_7), (.int .u8 b_8), (.int .u8 b_9), (.bool false), (.int .u8 0), (.string (ByteArray.mk #[]))] 94)) (L72)) ∧
            ∃ q77 : Option Addr, ∃ k78 : Nat, ∃ k79 : Nat, ∃ w80 : World, (Sem.run Try.prog (Go.Builtin.append_ #[79, 79] 79 #[(.slice (q73) k74 k75), (.slice (some ⟨(w76).heap.size, 0, none⟩) 1 1)]) (w76.alloc (.cells #[(.int .u8 b_0), (.int .u16 b_1), (.int .u32 b_2), (.int .u8 b_3), (.int .u8 b_4), (.int .u8 b_5), (.int .u8 b_6), (.int .u8 b_7), (.int .u8 b_8), (.int .u8 b_9), (.bool false), (.int .u8 0), (.string (ByteArray.mk #[]))] 94)) = .ok (.slice (q77) k78 k79) w80) ∧
            (X.Kept L72 (w76.alloc (.cells #[(.int .u8 b_0), (.int .u16 b_1), (.int .u32 b_2), (.int .u8 b_3), (.int .u8 b_4), (.int .u8 b_5), (.int .u8 b_6), (.int .u8 b_7), (.int .u8 b_8), (.int .u8 b_9), (.bool false), (.int .u8 0), (.string (ByteArray.mk #[]))] 94)) w80) ∧
            (X.FactsW x64 w80 (L72)) ∧
            ∃ q81 : Option Addr, ∃ k82 : Nat, ∃ k83 : Nat, ∃ w84 : World, (Sem.run Try.prog (Go.Builtin.append_ #[79, 79] 79 #[(.slice (q77) k78 k79), (.slice (X.cutA (q68) k70 (n62).toNat 13) (k69 - (n62).toNat) (k70 - (n62).toNat))]) w80 = .ok (.slice (q81) k82 k83) w84) ∧
            (X.Kept L72 w80 w84) ∧
            (X.FactsW x64 w84 (L72)) ∧
            ((none : Option Nat) = none) ∧
            (World.there w84 (a.block) ((a.off) + 1) 1) ∧
            (¬ ((a.block) ∈ L72)) ∧
            R (.returned (.int .i64 0)) (w84.setCells (a.block) ((a.off) + 1) [(.slice (q81) k82 k83)])) ∧
           (X.FactsW x64 ((w71.alloc (.cells #[] 94)).alloc (.cells #[(.int .u8 b_0), (.int .u16 b_1), (.int .u32 b_2), (.int .u8 b_3), (.int .u8 b_4), (.int .u8 b_5), (.int .u8 b_6), (.int .u8 b_7), (.int .u8 b_8), (.int .u8 b_9), (.bool false), (.int .u8 0), (.string (ByteArray.mk #[]))] 94)) (L72)) ∧
           ∃ q85 : Option Addr, ∃ k86 : Nat, ∃ k87 : Nat, ∃ w88 : World, (Sem.run Try.prog (Go.Builtin.append_ #[79, 79] 79 #[(.slice (some ⟨(w71).heap.size, 0, none⟩) 0 0), (.slice (X.cutA (q65) k67 0 13) (n62).toNat k67)]) ((w71.alloc (.cells #[] 94)).alloc (.cells #[(.int .u8 b_0), (.int .u16 b_1), (.int .u32 b_2), (.int .u8 b_3), (.int .u8 b_4), (.int .u8 b_5), (.int .u8 b_6), (.int .u8 b_7), (.int .u8 b_8), (.int .u8 b_9), (.bool false), (.int .u8 0), (.string (ByteArray.mk #[]))] 94)) = .ok (.slice (q85) k86 k87) w88) ∧
           (X.Kept L72 ((w71.alloc (.cells #[] 94)).alloc (.cells #[(.int .u8 b_0), (.int .u16 b_1), (.int .u32 b_2), (.int .u8 b_3), (.int .u8 b_4), (.int .u8 b_5), (.int .u8 b_6), (.int .u8 b_7), (.int .u8 b_8), (.int .u8 b_9), (.bool false), (.int .u8 0), (.string (ByteArray.mk #[]))] 94)) w88) ∧
           (X.FactsW x64 w88 (L72)) ∧
           ∃ q89 : Option Addr, ∃ k90 : Nat, ∃ k91 : Nat, ∃ w92 : World, (Sem.run Try.prog (Go.Builtin.append_ #[79, 79] 79 #[(.slice (q85) k86 k87), (.slice (some ⟨((w71.alloc (.cells #[] 94))).heap.size, 0, none⟩) 1 1)]) w88 = .ok (.slice (q89) k90 k91) w92) ∧
           (X.Kept L72 w88 w92) ∧
           (X.FactsW x64 w92 (L72)) ∧
           ∃ q93 : Option Addr, ∃ k94 : Nat, ∃ k95 : Nat, ∃ w96 : World, (Sem.run Try.prog (Go.Builtin.append_ #[79, 79] 79 #[(.slice (q89) k90 k91), (.slice (X.cutA (q68) k70 (n62).toNat 13) (k69 - (n62).toNat) (k70 - (n62).toNat))]) w92 = .ok (.slice (q93) k94 k95) w96) ∧
           (X.Kept L72 w92 w96) ∧
           (X.FactsW x64 w96 (L72)) ∧
           ((none : Option Nat) = none) ∧
           (World.there w96 (a.block) ((a.off) + 1) 1) ∧
           (¬ ((a.block) ∈ L72)) ∧
           R (.returned (.int .i64 0)) (w96.setCells (a.block) ((a.off) + 1) [(.slice (q93) k94 k95)])) ∧
          ∀ w97 : World, ∀ L98 : List Nat, (X.Hid (L2) w61 w97) →
          (X.NewL (w).heap.size (L2) w61 w97 L98) →
          (X.FactsW x64 (w97.alloc (.cells #[(.int .u8 b_0), (.int .u16 b_1), (.int .u32 b_2), (.int .u8 b_3), (.int .u8 b_4), (.int .u8 b_5), (.int .u8 b_6), (.int .u8 b_7), (.int .u8 b_8), (.int .u8 b_9), (.bool false), (.int .u8 0), (.string (ByteArray.mk #[]))] 94)) (L98)) ∧
          (X.FactsW x64 ((w97.alloc (.cells #[(.int .u8 b_0), (.int .u16 b_1), (.int .u32 b_2), (.int .u8 b_3), (.int .u8 b_4), (.int .u8 b_5), (.int .u8 b_6), (.int .u8 b_7), (.int .u8 b_8), (.int .u8 b_9), (.bool false), (.int .u8 0), (.string (ByteArray.mk #[]))] 94)).alloc (.cells #[] 94)) (L98)) ∧
          ∃ q99 : Option Addr, ∃ k100 : Nat, ∃ k101 : Nat, ∃ w102 : World, (Sem.run Try.prog (Go.Builtin.append_ #[79, 79] 79 #[(.slice (some ⟨((w97.alloc (.cells #[(.int .u8 b_0), (.int .u16 b_1), (.int .u32 b_2), (.int .u8 b_3), (.int .u8 b_4), (.int .u8 b_5), (.int .u8 b_6), (.int .u8 b_7), (.int .u8 b_8), (.int .u8 b_9), (.bool false), (.int .u8 0), (.string (ByteArray.mk #[]))] 94))).heap.size, 0, none⟩) 0 0), (.slice (X.cutA (q65) k67 0 13) (n62).toNat k67)]) ((w97.alloc (.cells #[(.int .u8 b_0), (.int .u16 b_1), (.int .u32 b_2), (.int .u8 b_3), (.int .u8 b_4), (.int .u8 b_5), (.int .u8 b_6), (.int .u8 b_7), (.int .u8 b_8), (.int .u8 b_9), (.bool false), (.int .u8 0), (.string (ByteArray.mk #[]))] 94)).alloc (.cells #[] 94)) = .ok (.slice (q99) k100 k101) w102) ∧
          (X.Kept L98 ((w97.alloc (.cells #[(.int .u8 b_0), (.int .u16 b_1), (.int .u32 b_2), (.int .u8 b_3), (.int .u8 b_4), (.int .u8 b_5), (.int .u8 b_6), (.int .u8 b_7), (.int .u8 b_8), (.int .u8 b_9), (.bool false), (.int .u8 0), (.string (ByteArray.mk #[]))] 94)).alloc (.cells #[] 94)) w102) ∧
          (X.FactsW x64 w102 (L98)) ∧
          ∃ q103 : Option Addr, ∃ k104 : Nat, ∃ k105 : Nat, ∃ w106 : World, (Sem.run Try.prog (Go.Builtin.append_ #[79, 79] 79 #[(.slice (q99) k100 k101), (.slice (some ⟨(w97).heap.size, 0, none⟩) 1 1)]) w102 = .ok (.slice (q103) k104 k105) w106) ∧
          (X.Kept L98 w102 w106) ∧
          (X.FactsW x64 w106 (L98)) ∧
          ∃ q107 : Option Addr, ∃ k108 : Nat, ∃ k109 : Nat, ∃ w110 : World, (Sem.run Try.prog (Go.Builtin.append_ #[79, 79] 79 #[(.slice (q103) k104 k105), (.slice (X.cutA (q68) k70 (n62).toNat 13) (k69 - (n62).toNat) (k70 - (n62).toNat))]) w106 = .ok (.slice (q107) k108 k109) w110) ∧
          (X.Kept L98 w106 w110) ∧
          (X.FactsW x64 w110 (L98)) ∧
          ((none : Option Nat) = none) ∧
          (World.there w110 (a.block) ((a.off) + 1) 1) ∧
          (¬ ((a.block) ∈ L98)) ∧
          R (.returned (.int .i64 0)) (w110.setCells (a.block) ((a.off) + 1) [(.slice (q107) k108 k109)])
     else
      if (n8 == 2) = true then
       R (.returned (.int .i64 4)) w7
      else
       if (n8 == 3) = true then
        R (.returned (.int .i64 16)) w7
       else
        if (n8 == 4) = true then
         R (.returned (.int .i64 10)) w7
        else
         X.CallX Try.prog 49 #[(.pointer (some a)), (.agg #[(.int .u8 b_0), (.int .u16 b_1), (.int .u32 b_2), (.int .u8 b_3), (.int .u8 b_4), (.int .u8 b_5), (.int .u8 b_6), (.int .u8 b_7), (.int .u8 b_8), (.int .u8 b_9)])] w7 fun e9 w10 =>
          ∃ n11 : Int, ∃ b12 : Bool, (e9 = .returned (.tuple #[(.int .i64 n11), (.bool b12)])) ∧
          (X.Kept L2 w7 w10) ∧
          ∃ x13 : X.Facts, (X.FactsW x13 w10 (L2)) ∧
          ∃ q14 : Option Addr, ∃ k15 : Nat, ∃ k16 : Nat, (((a.add 1), [(.slice (q14) k15 k16)]) ∈ x13) ∧
          ((0 : Int) ≤ n11) ∧
          (n11 ≤ ((k16 : Nat) : Int)) ∧
          ∃ q17 : Option Addr, ∃ k18 : Nat, ∃ k19 : Nat, (((a.add 1), [(.slice (q17) k18 k19)]) ∈ x13) ∧
          ((0 : Int) ≤ n11) ∧
          (n11 ≤ ((k18 : Nat) : Int)) ∧
          (∀ w20 : World, ∀ L21 : List Nat, (X.Hid (L2) w10 w20) →
           (X.NewL (w).heap.size (L2) w10 w20 L21) →
           (X.FactsW x13 (w20.alloc (.cells #[] 94)) (L21)) ∧
           (∃ q22 : Option Addr, ∃ k23 : Nat, ∃ k24 : Nat, ∃ w25 : World, (Sem.run Try.prog (Go.Builtin.append_ #[79, 79] 79 #[(.slice (some ⟨(w20).heap.size, 0, none⟩) 0 0), (.slice (X.cutA (q14) k16 0 13) (n11).toNat k16)]) (w20.alloc (.cells #[] 94)) = .ok (.slice (q22) k23 k24) w25) ∧
            (X.Kept L21 (w20.alloc (.cells #[] 94)) w25) ∧
            (X.FactsW x13 w25 (L21)) ∧
            (X.FactsW x13 (w25.alloc (.cells #[(.int .u8 b_0), (.int .u16 b_1), (.int .u32 b_2), (.int .u8 b_3), (.int .u8 b_4), (.int .u8 b_5), (.int .u8 b_6), (.int .u8 b_7), (.int .u8 b_8), (.int .u8 b_9), (.bool false), (.int .u8 0), (.string (ByteArray.mk #[]))] 94)) (L21)) ∧
            ∃ q26 : Option Addr, ∃ k27 : Nat, ∃ k28 : Nat, ∃ w29 : World, (Sem.run Try.prog (Go.Builtin.append_ #[79, 79] 79 #[(.slice (q22) k23 k24), (.slice (some ⟨(w25).heap.size, 0, none⟩) 1 1)]) (w25.alloc (.cells #[(.int .u8 b_0), (.int .u16 b_1), (.int .u32 b_2), (.int .u8 b_3), (.int .u8 b_4), (.int .u8 b_5), (.int .u8 b_6), (.int .u8 b_7), (.int .u8 b_8), (.int .u8 b_9), (.bool false), (.int .u8 0), (.string (ByteArray.mk #[]))] 94)) = .ok (.slice (q26) k27 k28) w29) ∧
            (X.Kept L21 (w25.alloc (.cells #[(.int .u8 b_0), (.int .u16 b_1), (.int .u32 b_2), (.int .u8 b_3), (.int .u8 b_4), (.int .u8 b_5), (.int .u8 b_6), (.int .u8 b_7), (.int .u8 b_8), (.int .u8 b_9), (.bool false), (.int .u8 0), (.string (ByteArray.mk #[]))] 94)) w29) ∧
            (X.FactsW x13 w29 (L21)) ∧
            ∃ q30 : Option Addr, ∃ k31 : Nat, ∃ k32 : Nat, ∃ w33 : World, (Sem.run Try.prog (Go.Builtin.append_ #[79, 79] 79 #[(.slice (q26) k27 k28), (.slice (X.cutA (q17) k19 (n11).toNat 13) (k18 - (n11).toNat) (k19 - (n11).toNat))]) w29 = .ok (.slice (q30) k31 k32) w33) ∧
            (X.Kept L21 w29 w33) ∧
            (X.FactsW x13 w33 (L21)) ∧
            ((none : Option Nat) = none) ∧
            (World.there w33 (a.block) ((a.off) + 1) 1) ∧
            (¬ ((a.block) ∈ L21)) ∧
            R (.returned (.int .i64 0)) (w33.setCells (a.block) ((a.off) + 1) [(.slice (q30) k31 k32)])) ∧
           (X.FactsW x13 ((w20.alloc (.cells #[] 94)).alloc (.cells #[(.int .u8 b_0), (.int .u16 b_1), (.int .u32 b_2), (.int .u8 b_3), (.int .u8 b_4), (.int .u8 b_5), (.int .u8 b_6), (.int .u8 b_7), (.int .u8 b_8), (.int .u8 b_9), (.bool false), (.int .u8 0), (.string (ByteArray.mk #[]))] 94)) (L21)) ∧
           ∃ q34 : Option Addr, ∃ k35 : Nat, ∃ k36 : Nat, ∃ w37 : World, (Sem.run Try.prog (Go.Builtin.append_ #[79, 79] 79 #[(.slice (some ⟨(w20).heap.size, 0, none⟩) 0 0), (.slice (X.cutA (q14) k16 0 13) (n11).toNat k16)]) ((w20.alloc (.cells #[] 94)).alloc (.cells #[(.int .u8 b_0), (.int .u16 b_1), (.int .u32 b_2), (.int .u8 b_3), (.int .u8 b_4), (.int .u8 b_5), (.int .u8 b_6), (.int .u8 b_7), (.int .u8 b_8), (.int .u8 b_9), (.bool false), (.int .u8 0), (.string (ByteArray.mk #[]))] 94)) = .ok (.slice (q34) k35 k36) w37) ∧
           (X.Kept L21 ((w20.alloc (.cells #[] 94)).alloc (.cells #[(.int .u8 b_0), (.int .u16 b_1), (.int .u32 b_2), (.int .u8 b_3), (.int .u8 b_4), (.int .u8 b_5), (.int .u8 b_6), (.int .u8 b_7), (.int .u8 b_8), (.int .u8 b_9), (.bool false), (.int .u8 0), (.string (ByteArray.mk #[]))] 94)) w37) ∧
           (X.FactsW x13 w37 (L21)) ∧
           ∃ q38 : Option Addr, ∃ k39 : Nat, ∃ k40 : Nat, ∃ w41 : World, (Sem.run Try.prog (Go.Builtin.append_ #[79, 79] 79 #[(.slice (q34) k35 k36), (.slice (some ⟨((w20.alloc (.cells #[] 94))).heap.size, 0, none⟩) 1 1)]) w37 = .ok (.slice (q38) k39 k40) w41) ∧
           (X.Kept L21 w37 w41) ∧
           (X.FactsW x13 w41 (L21)) ∧
           ∃ q42 : Option Addr, ∃ k43 : Nat, ∃ k44 : Nat, ∃ w45 : World, (Sem.run Try.prog (Go.Builtin.append_ #[79, 79] 79 #[(.slice (q38) k39 k40), (.slice (X.cutA (q17) k19 (n11).toNat 13) (k18 - (n11).toNat) (k19 - (n11).toNat))]) w41 = .ok (.slice (q42) k43 k44) w45) ∧
           (X.Kept L21 w41 w45) ∧
           (X.FactsW x13 w45 (L21)) ∧
           ((none : Option Nat) = none) ∧
           (World.there w45 (a.block) ((a.off) + 1) 1) ∧
           (¬ ((a.block) ∈ L21)) ∧
           R (.returned (.int .i64 0)) (w45.setCells (a.block) ((a.off) + 1) [(.slice (q42) k43 k44)])) ∧
          ∀ w46 : World, ∀ L47 : List Nat, (X.Hid (L2) w10 w46) →
          (X.NewL (w).heap.size (L2) w10 w46 L47) →
          (X.FactsW x13 (w46.alloc (.cells #[(.int .u8 b_0), (.int .u16 b_1), (.int .u32 b_2), (.int .u8 b_3), (.int .u8 b_4), (.int .u8 b_5), (.int .u8 b_6), (.int .u8 b_7), (.int .u8 b_8), (.int .u8 b_9), (.bool false), (.int .u8 0), (.string (ByteArray.mk #[]))] 94)) (L47)) ∧
          (X.FactsW x13 ((w46.alloc (.cells #[(.int .u8 b_0), (.int .u16 b_1), (.int .u32 b_2), (.int .u8 b_3), (.int .u8 b_4), (.int .u8 b_5), (.int .u8 b_6), (.int .u8 b_7), (.int .u8 b_8), (.int .u8 b_9), (.bool false), (.int .u8 0), (.string (ByteArray.mk #[]))] 94)).alloc (.cells #[] 94)) (L47)) ∧
          ∃ q48 : Option Addr, ∃ k49 : Nat, ∃ k50 : Nat, ∃ w51 : World, (Sem.run Try.prog (Go.Builtin.append_ #[79, 79] 79 #[(.slice (some ⟨((w46.alloc (.cells #[(.int .u8 b_0), (.int .u16 b_1), (.int .u32 b_2), (.int .u8 b_3), (.int .u8 b_4), (.int .u8 b_5), (.int .u8 b_6), (.int .u8 b_7), (.int .u8 b_8), (.int .u8 b_9), (.bool false), (.int .u8 0), (.string (ByteArray.mk #[]))] 94))).heap.size, 0, none⟩) 0 0), (.slice (X.cutA (q14) k16 0 13) (n11).toNat k16)]) ((w46.alloc (.cells #[(.int .u8 b_0), (.int .u16 b_1), (.int .u32 b_2), (.int .u8 b_3), (.int .u8 b_4), (.int .u8 b_5), (.int .u8 b_6), (.int .u8 b_7), (.int .u8 b_8), (.int .u8 b_9), (.bool false), (.int .u8 0), (.string (ByteArray.mk #[]))] 94)).alloc (.cells #[] 94)) = .ok (.slice (q48) k49 k50) w51) ∧
          (X.Kept L47 ((w46.alloc (.cells #[(.int .u8 b_0), (.int .u16 b_1), (.int .u32 b_2), (.int .u8 b_3), (.int .u8 b_4), (.int .u8 b_5), (.int .u8 b_6), (.int .u8 b_7), (.int .u8 b_8), (.int .u8 b_9), (.bool false), (.int .u8 0), (.string (ByteArray.mk #[]))] 94)).alloc (.cells #[] 94)) w51) ∧
          (X.FactsW x13 w51 (L47)) ∧
          ∃ q52 : Option Addr, ∃ k53 : Nat, ∃ k54 : Nat, ∃ w55 : World, (Sem.run Try.prog (Go.Builtin.append_ #[79, 79] 79 #[(.slice (q48) k49 k50), (.slice (some ⟨(w46).heap.size, 0, none⟩) 1 1)]) w51 = .ok (.slice (q52) k53 k54) w55) ∧
          (X.Kept L47 w51 w55) ∧
          (X.FactsW x13 w55 (L47)) ∧
          ∃ q56 : Option Addr, ∃ k57 : Nat, ∃ k58 : Nat, ∃ w59 : World, (Sem.run Try.prog (Go.Builtin.append_ #[79, 79] 79 #[(.slice (q52) k53 k54), (.slice (X.cutA (q17) k19 (n11).toNat 13) (k18 - (n11).toNat) (k19 - (n11).toNat))]) w55 = .ok (.slice (q56) k57 k58) w59) ∧
          (X.Kept L47 w55 w59) ∧
          (X.FactsW x13 w59 (L47)) ∧
          ((none : Option Nat) = none) ∧
          (World.there w59 (a.block) ((a.off) + 1) 1) ∧
          (¬ ((a.block) ∈ L47)) ∧
          R (.returned (.int .i64 0)) (w59.setCells (a.block) ((a.off) + 1) [(.slice (q56) k57 k58)])) :
    Calls Try.prog 22 #[.pointer (some a), .agg #[.int .u8 b_0, .int .u16 b_1, .int .u32 b_2, .int .u8 b_3, .int .u8 b_4, .int .u8 b_5, .int .u8 b_6, .int .u8 b_7, .int .u8 b_8, .int .u8 b_9]] w R :=
  X.calls_of { isLoc := [3], sym := [], loops := [], joins := [] } Try.func22 (by kernel_rfl) h
abbrev fn_rEnd : Nat := 25
theorem x_rEnd (a : Addr) (b_0 b_1 b_2 b_3 b_4 b_5 b_6 b_7 b_8 b_9 c_0 : Int) (c_1 : ByteArray) (w : World) (R : Ending → World → Prop) (h :
  ∀ w1 : World, ∀ L2 : List Nat, (X.Hid [] w w1) →
  (X.NewL (w).heap.size [] w w1 L2) →
  X.CallX Try.prog 49 #[(.pointer (some a)), (.agg #[(.int .u8 b_0), (.int .u16 b_1), (.int .u32 b_2), (.int .u8 b_3), (.int .u8 b_4), (.int .u8 b_5), (.int .u8 b_6), (.int .u8 b_7), (.int .u8 b_8), (.int .u8 b_9)])] w1 fun e3 w4 =>
   ∃ n5 : Int, ∃ b6 : Bool, (e3 = .returned (.tuple #[(.int .i64 n5), (.bool b6)])) ∧
   (X.Kept L2 w1 w4) ∧
   if ((!b6) == false) = true then
    ∃ q7 : Option Addr, ∃ k8 : Nat, ∃ k9 : Nat, (World.cell? w4 (a.add 1) = some (.slice (q7) k8 k9)) ∧
    (¬ ((a.block) ∈ L2)) ∧
    ((0 : Int) ≤ n5) ∧
    (n5 < ((k8 : Nat) : Int)) ∧
    X.onSome (q7) fun p10 =>
    ∃ b11 : Bool, (World.cell? w4 ((p10.add ((n5).toNat * 13)).add 10) = some (.bool b11)) ∧
    (¬ (((p10.add (n5.toNat * 13)).block) ∈ L2)) ∧
    if (false || b11) = true then
     R (.returned (.bool false)) w4
    else
     ∃ q12 : Option Addr, ∃ k13 : Nat, ∃ k14 : Nat, (World.cell? (w4.alloc (.cells #[] 94)) (a.add 1) = some (.slice (q12) k13 k14)) ∧
     (¬ ((a.block) ∈ L2)) ∧
     ∃ q15 : Option Addr, ∃ k16 : Nat, ∃ k17 : Nat, ∃ w18 : World, (Sem.run Try.prog (Go.Builtin.append_ #[79, 79] 79 #[(.slice (some ⟨(w4).heap.size, 0, none⟩) 0 0), (.slice (q12) k13 k14)]) (w4.alloc (.cells #[] 94)) = .ok (.slice (q15) k16 k17) w18) ∧
     (X.Kept L2 (w4.alloc (.cells #[] 94)) w18) ∧
     X.CallX Try.prog 51 #[(.pointer (some a)), (.agg #[(.int .u8 b_0), (.int .u16 b_1), (.int .u32 b_2), (.int .u8 b_3), (.int .u8 b_4), (.int .u8 b_5), (.int .u8 b_6), (.int .u8 b_7), (.int .u8 b_8), (.int .u8 b_9)])] w18 fun e19 w20 =>
      ∃ b21 : Bool, (e19 = .returned (.bool b21)) ∧
      (X.Kept L2 w18 w20) ∧
      if b21 = true then
       ∃ x24 : X.Facts, (X.FactsW x24 w20 (L2)) ∧
       ((0 : Int) ≤ n5) ∧
       (n5 ≤ ((k17 : Nat) : Int)) ∧
       ((0 : Int) ≤ (IntKind.wrap .i64 (n5 + 1))) ∧
       ((IntKind.wrap .i64 (n5 + 1)) ≤ ((k16 : Nat) : Int)) ∧
       ∀ w25 : World, ∀ L26 : List Nat, (X.Hid (L2) w20 w25) →
       (X.NewL (w).heap.size (L2) w20 w25 L26) →
       ∃ q27 : Option Addr, ∃ k28 : Nat, ∃ k29 : Nat, ∃ w30 : World, (Sem.run Try.prog (Go.Builtin.append_ #[79, 79] 79 #[(.slice (X.cutA (q15) k17 0 13) (n5).toNat k17), (.slice (X.cutA (q15) k17 ((IntKind.wrap .i64 (n5 + 1))).toNat 13) (k16 - ((IntKind.wrap .i64 (n5 + 1))).toNat) (k17 - ((IntKind.wrap .i64 (n5 + 1))).toNat))]) w25 = .ok (.slice (q27) k28 k29) w30) ∧
       (X.Kept L26 w25 w30) ∧
       ((none : Option Nat) = none) ∧
       (World.there w30 (a.block) ((a.off) + 1) 1) ∧
       (¬ ((a.block) ∈ L26)) ∧
       R (.returned (.bool true)) (w30.setCells (a.block) ((a.off) + 1) [(.slice (q27) k28 k29)])
      else
       ((0 : Int) ≤ n5) ∧
       (n5 < ((k16 : Nat) : Int)) ∧
       X.onSome (q15) fun p22 =>
       ((none : Option Nat) = none) ∧
       (World.there w20 ((p22.add (n5.toNat * 13)).block) (((p22.add (n5.toNat * 13)).off) + 10) 1) ∧
       (¬ (((p22.add (n5.toNat * 13)).block) ∈ L2)) ∧
       ((0 : Int) ≤ n5) ∧
       (n5 < ((k16 : Nat) : Int)) ∧
       X.onSome (q15) fun p23 =>
       ((none : Option Nat) = none) ∧
       (World.there (w20.setCells ((p22.add (n5.toNat * 13)).block) (((p22.add (n5.toNat * 13)).off) + 10) [(.bool true)]) ((p23.add (n5.toNat * 13)).block) (((p23.add (n5.toNat * 13)).off) + 11) 2) ∧
       (¬ (((p23.add (n5.toNat * 13)).block) ∈ L2)) ∧
       ((none : Option Nat) = none) ∧
       (World.there ((w20.setCells ((p22.add (n5.toNat * 13)).block) (((p22.add (n5.toNat * 13)).off) + 10) [(.bool true)]).setCells ((p23.add (n5.toNat * 13)).block) (((p23.add (n5.toNat * 13)).off) + 11) [(.int .u8 c_0), (.string c_1)]) (a.block) ((a.off) + 1) 1) ∧
       (¬ ((a.block) ∈ L2)) ∧
       R (.returned (.bool true)) (((w20.setCells ((p22.add (n5.toNat * 13)).block) (((p22.add (n5.toNat * 13)).off) + 10) [(.bool true)]).setCells ((p23.add (n5.toNat * 13)).block) (((p23.add (n5.toNat * 13)).off) + 11) [(.int .u8 c_0), (.string c_1)]).setCells (a.block) ((a.off) + 1) [(.slice (q15) k16 k17)])
   else
    R (.returned (.bool false)) w4) :
    Calls Try.prog 25 #[.pointer (some a), .agg #[.int .u8 b_0, .int .u16 b_1, .int .u32 b_2, .int .u8 b_3, .int .u8 b_4, .int .u8 b_5, .int .u8 b_6, .int .u8 b_7, .int .u8 b_8, .int .u8 b_9], .agg #[.int .u8 c_0, .string c_1]] w R :=
  X.calls_of { isLoc := [4, 5], sym := [], loops := [], joins := [] } Try.func25 (by kernel_rfl) h
abbrev fn_rRaise : Nat := 27
theorem x_rRaise (a : Addr) (b_0 b_1 c : Int) (w : World) (R : Ending → World → Prop) (h :
  ∀ w1 : World, ∀ L2 : List Nat, (X.Hid [] w w1) →
  (X.NewL (w).heap.size [] w w1 L2) →
  X.CallX Try.prog 55 #[(.agg #[(.int .u8 b_0), (.int .u16 b_1)])] w1 fun e3 w4 =>
   ∃ b5 : Bool, (e3 = .returned (.bool b5)) ∧
   (X.Kept L2 w1 w4) ∧
   if (((!b5) || decide (c > 1048576)) == false) = true then
    X.CallX Try.prog 33 #[(.pointer (some a)), (.agg #[(.int .u8 b_0), (.int .u16 b_1)])] w4 fun e6 w7 =>
     ∃ n8 : Int, (e6 = .returned (.int .u32 n8)) ∧
     (X.Kept L2 w4 w7) ∧
     if (false || decide (c ≤ n8)) = true then
      R (.returned (.tuple #[])) w7
     else
      ∃ x9 : Option Addr → Nat → Nat → Int → World → List Nat → Prop, ∃ x10 : Option Addr → Nat → Nat → Int → World → Nat, (x9 (some (Addr.mk w7.heap.size 0 none)) 1 1 0 (w7.alloc (.cells #[(.int .u8 b_0), (.int .u16 b_1), (.int .u32 c)] 96)) (L2)) ∧
      ∀ q11 : Option Addr, ∀ k12 : Nat, ∀ k13 : Nat, ∀ n14 : Int, ∀ w15 : World, ∀ L16 : List Nat, (X.LF (w).heap.size w15 L16) →
      (x9 q11 k12 k13 n14 w15 L16) →
      ∃ q17 : Option Addr, ∃ k18 : Nat, ∃ k19 : Nat, (World.cell? w15 (a.add 2) = some (.slice (q17) k18 k19)) ∧
      (¬ ((a.block) ∈ L16)) ∧
      if (decide (n14 < ((k18 : Nat) : Int))) = true then
       ∃ q63 : Option Addr, ∃ k64 : Nat, ∃ k65 : Nat, (World.cell? w15 (a.add 2) = some (.slice (q63) k64 k65)) ∧
       (¬ ((a.block) ∈ L16)) ∧
       ((0 : Int) ≤ n14) ∧
       (n14 < ((k64 : Nat) : Int)) ∧
       X.onSome (q63) fun p66 =>
       ∃ n67 : Int, ∃ n68 : Int, (X.Cells w15 ((p66.add ((n14).toNat * 3)).add 0) [(.int .u8 n67), (.int .u16 n68)]) ∧
       (¬ ((((p66.add (n14.toNat * 3)).add 0).block) ∈ L16)) ∧
       if (!((n67 == b_0) && (n68 == b_1))) = true then
        ∃ q71 : Option Addr, ∃ k72 : Nat, ∃ k73 : Nat, (World.cell? w15 (a.add 2) = some (.slice (q71) k72 k73)) ∧
        (¬ ((a.block) ∈ L16)) ∧
        ((0 : Int) ≤ n14) ∧
        (n14 < ((k72 : Nat) : Int)) ∧
        X.onSome (q71) fun p74 =>
        ∃ n75 : Int, ∃ n76 : Int, ∃ n77 : Int, (X.Cells w15 (p74.add ((n14).toNat * 3)) [(.int .u8 n75), (.int .u16 n76), (.int .u32 n77)]) ∧
        (¬ (((p74.add (n14.toNat * 3)).block) ∈ L16)) ∧
        ∀ w78 : World, ∀ L79 : List Nat, (X.Hid (L16) w15 w78) →
        (X.NewL (w).heap.size (L16) w15 w78 L79) →
        ∃ q80 : Option Addr, ∃ k81 : Nat, ∃ k82 : Nat, ∃ w83 : World, (Sem.run Try.prog (Go.Builtin.append_ #[80, 80] 80 #[(.slice (q11) k12 k13), (.slice (some ⟨(w78).heap.size, 0, none⟩) 1 1)]) (w78.alloc (.cells #[(.int .u8 n75), (.int .u16 n76), (.int .u32 n77)] 96)) = .ok (.slice (q80) k81 k82) w83) ∧
        (X.Kept L79 (w78.alloc (.cells #[(.int .u8 n75), (.int .u16 n76), (.int .u32 n77)] 96)) w83) ∧
        (([(.int .u8 b_0), (.int .u16 b_1)] : List Value) = [(.int .u8 b_0), (.int .u16 b_1)]) ∧
        (x9 q80 k81 k82 (IntKind.wrap .i64 (n14 + 1)) w83 (L79)) ∧
        Nat.le ((x10 q80 k81 k82 (IntKind.wrap .i64 (n14 + 1)) w83) + 1) (x10 q11 k12 k13 n14 w15)
       else
        ∀ w69 : World, ∀ L70 : List Nat, (X.Hid (L16) w15 w69) →
        (X.NewL (w).heap.size (L16) w15 w69 L70) →
        (([(.int .u8 b_0), (.int .u16 b_1)] : List Value) = [(.int .u8 b_0), (.int .u16 b_1)]) ∧
        (x9 q11 k12 k13 (IntKind.wrap .i64 (n14 + 1)) w69 (L70)) ∧
        Nat.le ((x10 q11 k12 k13 (IntKind.wrap .i64 (n14 + 1)) w69) + 1) (x10 q11 k12 k13 n14 w15)
      else
       ((none : Option Nat) = none) ∧
       (World.there w15 (a.block) ((a.off) + 2) 1) ∧
       (¬ ((a.block) ∈ L16)) ∧
       ∃ x20 : Option Addr → Nat → Nat → Int → World → List Nat → Prop, ∃ x21 : Option Addr → Nat → Nat → Int → World → Nat, (x20 (none) 0 0 0 (w15.setCells (a.block) ((a.off) + 2) [(.slice (q11) k12 k13)]) (L16)) ∧
       ∀ q22 : Option Addr, ∀ k23 : Nat, ∀ k24 : Nat, ∀ n25 : Int, ∀ w26 : World, ∀ L27 : List Nat, (X.LF (w).heap.size w26 L27) →
       (x20 q22 k23 k24 n25 w26 L27) →
       ∃ q28 : Option Addr, ∃ k29 : Nat, ∃ k30 : Nat, (World.cell? w26 (a.add 1) = some (.slice (q28) k29 k30)) ∧
       (¬ ((a.block) ∈ L27)) ∧
       if (decide (n25 < ((k29 : Nat) : Int))) = true then
        ∃ q31 : Option Addr, ∃ k32 : Nat, ∃ k33 : Nat, (World.cell? w26 (a.add 1) = some (.slice (q31) k32 k33)) ∧
        (¬ ((a.block) ∈ L27)) ∧
        ((0 : Int) ≤ n25) ∧
        (n25 < ((k32 : Nat) : Int)) ∧
        X.onSome (q31) fun p34 =>
        ∃ n35 : Int, ∃ n36 : Int, ∃ n37 : Int, ∃ n38 : Int, ∃ n39 : Int, ∃ n40 : Int, ∃ n41 : Int, ∃ n42 : Int, ∃ n43 : Int, ∃ n44 : Int, ∃ b45 : Bool, ∃ n46 : Int, ∃ s47 : ByteArray, (X.Cells w26 (p34.add ((n25).toNat * 13)) [(.int .u8 n35), (.int .u16 n36), (.int .u32 n37), (.int .u8 n38), (.int .u8 n39), (.int .u8 n40), (.int .u8 n41), (.int .u8 n42), (.int .u8 n43), (.int .u8 n44), (.bool b45), (.int .u8 n46), (.string s47)]) ∧
        (¬ (((p34.add (n25.toNat * 13)).block) ∈ L27)) ∧
        if (((!((n35 == b_0) && (n36 == b_1))) || (!b45)) == false) = true then
         ∀ w54 : World, ∀ L55 : List Nat, (X.Hid (L27) w26 w54) →
         (X.NewL (w).heap.size (L27) w26 w54 L55) →
         X.CallX Try.prog 51 #[(.pointer (some a)), (.agg #[(.int .u8 n35), (.int .u16 n36), (.int .u32 n37), (.int .u8 n38), (.int .u8 n39), (.int .u8 n40), (.int .u8 n41), (.int .u8 n42), (.int .u8 n43), (.int .u8 n44)])] w54 fun e56 w57 =>
          ∃ b58 : Bool, (e56 = .returned (.bool b58)) ∧
          (X.Kept L55 w54 w57) ∧
          if (false || (!b58)) = true then
           ∃ q59 : Option Addr, ∃ k60 : Nat, ∃ k61 : Nat, ∃ w62 : World, (Sem.run Try.prog (Go.Builtin.append_ #[79, 79] 79 #[(.slice (q22) k23 k24), (.slice (some ⟨(w57).heap.size, 0, none⟩) 1 1)]) (w57.alloc (.cells #[(.int .u8 n35), (.int .u16 n36), (.int .u32 n37), (.int .u8 n38), (.int .u8 n39), (.int .u8 n40), (.int .u8 n41), (.int .u8 n42), (.int .u8 n43), (.int .u8 n44), (.bool b45), (.int .u8 n46), (.string s47)] 94)) = .ok (.slice (q59) k60 k61) w62) ∧
           (X.Kept L55 (w57.alloc (.cells #[(.int .u8 n35), (.int .u16 n36), (.int .u32 n37), (.int .u8 n38), (.int .u8 n39), (.int .u8 n40), (.int .u8 n41), (.int .u8 n42), (.int .u8 n43), (.int .u8 n44), (.bool b45), (.int .u8 n46), (.string s47)] 94)) w62) ∧
           (([(.int .u8 b_0), (.int .u16 b_1)] : List Value) = [(.int .u8 b_0), (.int .u16 b_1)]) ∧
           (x20 q59 k60 k61 (IntKind.wrap .i64 (n25 + 1)) w62 (L55)) ∧
           Nat.le ((x21 q59 k60 k61 (IntKind.wrap .i64 (n25 + 1)) w62) + 1) (x21 q22 k23 k24 n25 w26)
          else
           (([(.int .u8 b_0), (.int .u16 b_1)] : List Value) = [(.int .u8 b_0), (.int .u16 b_1)]) ∧
           (x20 q22 k23 k24 (IntKind.wrap .i64 (n25 + 1)) w57 (L55)) ∧
           Nat.le ((x21 q22 k23 k24 (IntKind.wrap .i64 (n25 + 1)) w57) + 1) (x21 q22 k23 k24 n25 w26)
        else
         ∀ w48 : World, ∀ L49 : List Nat, (X.Hid (L27) w26 w48) →
         (X.NewL (w).heap.size (L27) w26 w48 L49) →
         ∃ q50 : Option Addr, ∃ k51 : Nat, ∃ k52 : Nat, ∃ w53 : World, (Sem.run Try.prog (Go.Builtin.append_ #[79, 79] 79 #[(.slice (q22) k23 k24), (.slice (some ⟨(w48).heap.size, 0, none⟩) 1 1)]) (w48.alloc (.cells #[(.int .u8 n35), (.int .u16 n36), (.int .u32 n37), (.int .u8 n38), (.int .u8 n39), (.int .u8 n40), (.int .u8 n41), (.int .u8 n42), (.int .u8 n43), (.int .u8 n44), (.bool b45), (.int .u8 n46), (.string s47)] 94)) = .ok (.slice (q50) k51 k52) w53) ∧
         (X.Kept L49 (w48.alloc (.cells #[(.int .u8 n35), (.int .u16 n36), (.int .u32 n37), (.int .u8 n38), (.int .u8 n39), (.int .u8 n40), (.int .u8 n41), (.int .u8 n42), (.int .u8 n43), (.int .u8 n44), (.bool b45), (.int .u8 n46), (.string s47)] 94)) w53) ∧
         (([(.int .u8 b_0), (.int .u16 b_1)] : List Value) = [(.int .u8 b_0), (.int .u16 b_1)]) ∧
         (x20 q50 k51 k52 (IntKind.wrap .i64 (n25 + 1)) w53 (L49)) ∧
         Nat.le ((x21 q50 k51 k52 (IntKind.wrap .i64 (n25 + 1)) w53) + 1) (x21 q22 k23 k24 n25 w26)
       else
        ((none : Option Nat) = none) ∧
        (World.there w26 (a.block) ((a.off) + 1) 1) ∧
        (¬ ((a.block) ∈ L27)) ∧
        R (.returned (.tuple #[])) (w26.setCells (a.block) ((a.off) + 1) [(.slice (q22) k23 k24)])
   else
    R (.returned (.tuple #[])) w4) :
    Calls Try.prog 27 #[.pointer (some a), .agg #[.int .u8 b_0, .int .u16 b_1], .int .u32 c] w R :=
  X.calls_of { isLoc := [4, 10], sym := [], loops := [(4, .inv [(6, .slice), (7, .int .i64)] [] true), (11, .inv [(8, .slice), (9, .int .i64)] [] true)], joins := [] } Try.func27 (by kernel_rfl) h
abbrev fn_rSame : Nat := 16
theorem x_rSame (a b : Addr) (w : World) (R : Ending → World → Prop) (h :
  ∃ n1 : Int, (World.cell? w (a.add 0) = some (.int .i64 n1)) ∧
  ∃ n2 : Int, (World.cell? w (b.add 0) = some (.int .i64 n2)) ∧
  if ((n1 != n2) == false) = true then
   ∃ q4 : Option Addr, ∃ k5 : Nat, ∃ k6 : Nat, (World.cell? w (a.add 1) = some (.slice (q4) k5 k6)) ∧
   ∃ q7 : Option Addr, ∃ k8 : Nat, ∃ k9 : Nat, (World.cell? w (b.add 1) = some (.slice (q7) k8 k9)) ∧
   if ((false || (((k5 : Nat) : Int) != ((k8 : Nat) : Int))) == false) = true then
    ∃ q11 : Option Addr, ∃ k12 : Nat, ∃ k13 : Nat, (World.cell? w (a.add 2) = some (.slice (q11) k12 k13)) ∧
    ∃ q14 : Option Addr, ∃ k15 : Nat, ∃ k16 : Nat, (World.cell? w (b.add 2) = some (.slice (q14) k15 k16)) ∧
    if (false || (((k12 : Nat) : Int) != ((k15 : Nat) : Int))) = true then
     ∀ w86 : World, (X.Hid [] w w86) →
     R (.returned (.bool false)) w86
    else
     ∀ w17 : World, (X.Hid [] w w17) →
     ∃ x18 : Int → World → List Nat → Prop, ∃ x19 : Int → World → Nat, (x18 0 w17 []) ∧
     ∀ n20 : Int, ∀ w21 : World, ∀ L22 : List Nat, (X.LF (w).heap.size w21 L22) →
     (x18 n20 w21 L22) →
     ∃ q23 : Option Addr, ∃ k24 : Nat, ∃ k25 : Nat, (World.cell? w21 (a.add 1) = some (.slice (q23) k24 k25)) ∧
     if (decide (n20 < ((k24 : Nat) : Int))) = true then
      ∃ q50 : Option Addr, ∃ k51 : Nat, ∃ k52 : Nat, (World.cell? w21 (a.add 1) = some (.slice (q50) k51 k52)) ∧
      ((0 : Int) ≤ n20) ∧
      (n20 < ((k51 : Nat) : Int)) ∧
      X.onSome (q50) fun p53 =>
      ∃ n54 : Int, ∃ n55 : Int, ∃ n56 : Int, ∃ n57 : Int, ∃ n58 : Int, ∃ n59 : Int, ∃ n60 : Int, ∃ n61 : Int, ∃ n62 : Int, ∃ n63 : Int, ∃ b64 : Bool, ∃ n65 : Int, ∃ s66 : ByteArray, (X.Cells w21 (p53.add ((n20).toNat * 13)) [(.int .u8 n54), (.int .u16 n55), (.int .u32 n56), (.int .u8 n57), (.int .u8 n58), (.int .u8 n59), (.int .u8 n60), (.int .u8 n61), (.int .u8 n62), (.int .u8 n63), (.bool b64), (.int .u8 n65), (.string s66)]) ∧
      ∃ q67 : Option Addr, ∃ k68 : Nat, ∃ k69 : Nat, (World.cell? w21 (b.add 1) = some (.slice (q67) k68 k69)) ∧
      ((0 : Int) ≤ n20) ∧
      (n20 < ((k68 : Nat) : Int)) ∧
      X.onSome (q67) fun p70 =>
      ∃ n71 : Int, ∃ n72 : Int, ∃ n73 : Int, ∃ n74 : Int, ∃ n75 : Int, ∃ n76 : Int, ∃ n77 : Int, ∃ n78 : Int, ∃ n79 : Int, ∃ n80 : Int, ∃ b81 : Bool, ∃ n82 : Int, ∃ s83 : ByteArray, (X.Cells w21 (p70.add ((n20).toNat * 13)) [(.int .u8 n71), (.int .u16 n72), (.int .u32 n73), (.int .u8 n74), (.int .u8 n75), (.int .u8 n76), (.int .u8 n77), (.int .u8 n78), (.int .u8 n79), (.int .u8 n80), (.bool b81), (.int .u8 n82), (.string s83)]) ∧
      if (!((((n54 == n71) && (n55 == n72)) && ((n56 == n73) && ((n57 == n74) && (((n58 == n75) && (n59 == n76)) && (((n60 == n77) && (n61 == n78)) && ((n62 == n79) && (n63 == n80))))))) && ((b64 == b81) && ((n65 == n82) && (s66 == s83))))) = true then
       ∀ w85 : World, (X.Hid [] w21 w85) →
       R (.returned (.bool false)) w85
      else
       ∀ w84 : World, (X.Hid [] w21 w84) →
       (x18 (IntKind.wrap .i64 (n20 + 1)) w84 []) ∧
       Nat.le ((x19 (IntKind.wrap .i64 (n20 + 1)) w84) + 1) (x19 n20 w21)
     else
      ∃ x26 : Int → World → List Nat → Prop, ∃ x27 : Int → World → Nat, (x26 0 w21 []) ∧
      ∀ n28 : Int, ∀ w29 : World, ∀ L30 : List Nat, (X.LF (w).heap.size w29 L30) →
      (x26 n28 w29 L30) →
      ∃ q31 : Option Addr, ∃ k32 : Nat, ∃ k33 : Nat, (World.cell? w29 (a.add 2) = some (.slice (q31) k32 k33)) ∧
      if (decide (n28 < ((k32 : Nat) : Int))) = true then
       ∃ x34 : X.Facts, (X.FactsW x34 w29 []) ∧
       ∃ q35 : Option Addr, ∃ k36 : Nat, ∃ k37 : Nat, (((a.add 2), [(.slice (q35) k36 k37)]) ∈ x34) ∧
       ((0 : Int) ≤ n28) ∧
       (n28 < ((k36 : Nat) : Int)) ∧
       X.onSome (q35) fun p38 =>
       ∃ n39 : Int, ∃ n40 : Int, ((((p38.add ((n28).toNat * 3)).add 0), [(.int .u8 n39), (.int .u16 n40)]) ∈ x34) ∧
       ∃ q41 : Option Addr, ∃ k42 : Nat, ∃ k43 : Nat, (((a.add 2), [(.slice (q41) k42 k43)]) ∈ x34) ∧
       ((0 : Int) ≤ n28) ∧
       (n28 < ((k42 : Nat) : Int)) ∧
       X.onSome (q41) fun p44 =>
       ∃ n45 : Int, ((((p44.add ((n28).toNat * 3)).add 2), [(.int .u32 n45)]) ∈ x34) ∧
       ∀ w46 : World, (X.Hid [] w29 w46) →
       X.CallX Try.prog 33 #[(.pointer (some b)), (.agg #[(.int .u8 n39), (.int .u16 n40)])] w46 fun e47 w48 =>
        ∃ n49 : Int, (e47 = .returned (.int .u32 n49)) ∧
        ((w46).heap.size ≤ (w48).heap.size) ∧
        (X.FactsW x34 w48 []) ∧
        if (n49 != n45) = true then
         R (.returned (.bool false)) w48
        else
         (x26 (IntKind.wrap .i64 (n28 + 1)) w48 []) ∧
         Nat.le ((x27 (IntKind.wrap .i64 (n28 + 1)) w48) + 1) (x27 n28 w29)
      else
       R (.returned (.bool true)) w29
   else
    ∀ w10 : World, (X.Hid [] w w10) →
    R (.returned (.bool false)) w10
  else
   ∀ w3 : World, (X.Hid [] w w3) →
   R (.returned (.bool false)) w3) :
    Calls Try.prog 16 #[.pointer (some a), .pointer (some b)] w R :=
  X.calls_of { isLoc := [], sym := [], loops := [(4, .inv [(5, .int .i64)] [] true), (9, .inv [(6, .int .i64)] [] true)], joins := [] } Try.func16 (by kernel_rfl) h
abbrev fn_gemotlaw14_play : Nat := 15
theorem x_gemotlaw14_play (a : Addr) (b_0 b_1 b_2 b_3 b_4 b_5 b_6 b_7 b_8 b_9 b_10 b_11 : Int) (b_12 : ByteArray) (b_13 : Int) (w : World) (R : Ending → World → Prop) (h :
  if (b_0 == 0) = true then
   if (b_0 == 0) = true then
    ∀ w71 : World, ∀ L72 : List Nat, (X.Hid [] w w71) →
    (X.NewL (w).heap.size [] w w71 L72) →
    X.CallX Try.prog 22 #[(.pointer (some a)), (.agg #[(.int .u8 b_1), (.int .u16 b_2), (.int .u32 b_3), (.int .u8 b_4), (.int .u8 b_5), (.int .u8 b_6), (.int .u8 b_7), (.int .u8 b_8), (.int .u8 b_9), (.int .u8 b_10)])] w71 fun e73 w74 =>
     ∃ n75 : Int, (e73 = .returned (.int .i64 n75)) ∧
     (X.Kept L72 w71 w74) ∧
     R (.returned (.tuple #[])) w74
   else
    if (b_0 == 3) = true then
     if (b_0 == 3) = true then
      ∀ w66 : World, ∀ L67 : List Nat, (X.Hid [] w w66) →
      (X.NewL (w).heap.size [] w w66 L67) →
      X.CallX Try.prog 25 #[(.pointer (some a)), (.agg #[(.int .u8 b_1), (.int .u16 b_2), (.int .u32 b_3), (.int .u8 b_4), (.int .u8 b_5), (.int .u8 b_6), (.int .u8 b_7), (.int .u8 b_8), (.int .u8 b_9), (.int .u8 b_10)]), (.agg #[(.int .u8 b_11), (.string b_12)])] w66 fun e68 w69 =>
       ∃ b70 : Bool, (e68 = .returned (.bool b70)) ∧
       (X.Kept L67 w66 w69) ∧
       R (.returned (.tuple #[])) w69
     else
      if (b_0 == 5) = true then
       ∀ w62 : World, ∀ L63 : List Nat, (X.Hid [] w w62) →
       (X.NewL (w).heap.size [] w w62 L63) →
       X.CallX Try.prog 27 #[(.pointer (some a)), (.agg #[(.int .u8 b_1), (.int .u16 b_2)]), (.int .u32 b_13)] w62 fun e64 w65 =>
        (e64 = .returned (.tuple #[])) ∧
        (X.Kept L63 w62 w65) ∧
        R (.returned (.tuple #[])) w65
      else
       ∀ w61 : World, (X.Hid [] w w61) →
       R (.returned (.tuple #[])) w61
    else
     if (b_0 == 4) = true then
      ∀ w56 : World, ∀ L57 : List Nat, (X.Hid [] w w56) →
      (X.NewL (w).heap.size [] w w56 L57) →
      X.CallX Try.prog 25 #[(.pointer (some a)), (.agg #[(.int .u8 b_1), (.int .u16 b_2), (.int .u32 b_3), (.int .u8 b_4), (.int .u8 b_5), (.int .u8 b_6), (.int .u8 b_7), (.int .u8 b_8), (.int .u8 b_9), (.int .u8 b_10)]), (.agg #[(.int .u8 b_11), (.string b_12)])] w56 fun e58 w59 =>
       ∃ b60 : Bool, (e58 = .returned (.bool b60)) ∧
       (X.Kept L57 w56 w59) ∧
       R (.returned (.tuple #[])) w59
     else
      if (b_0 == 5) = true then
       ∀ w52 : World, ∀ L53 : List Nat, (X.Hid [] w w52) →
       (X.NewL (w).heap.size [] w w52 L53) →
       X.CallX Try.prog 27 #[(.pointer (some a)), (.agg #[(.int .u8 b_1), (.int .u16 b_2)]), (.int .u32 b_13)] w52 fun e54 w55 =>
        (e54 = .returned (.tuple #[])) ∧
        (X.Kept L53 w52 w55) ∧
        R (.returned (.tuple #[])) w55
      else
       ∀ w51 : World, (X.Hid [] w w51) →
       R (.returned (.tuple #[])) w51
  else
   if (b_0 == 1) = true then
    if (b_0 == 1) = true then
     ∀ w46 : World, ∀ L47 : List Nat, (X.Hid [] w w46) →
     (X.NewL (w).heap.size [] w w46 L47) →
     X.CallX Try.prog 22 #[(.pointer (some a)), (.agg #[(.int .u8 b_1), (.int .u16 b_2), (.int .u32 b_3), (.int .u8 b_4), (.int .u8 b_5), (.int .u8 b_6), (.int .u8 b_7), (.int .u8 b_8), (.int .u8 b_9), (.int .u8 b_10)])] w46 fun e48 w49 =>
      ∃ n50 : Int, (e48 = .returned (.int .i64 n50)) ∧
      (X.Kept L47 w46 w49) ∧
      R (.returned (.tuple #[])) w49
    else
     if (b_0 == 3) = true then
      if (b_0 == 3) = true then
       ∀ w41 : World, ∀ L42 : List Nat, (X.Hid [] w w41) →
       (X.NewL (w).heap.size [] w w41 L42) →
       X.CallX Try.prog 25 #[(.pointer (some a)), (.agg #[(.int .u8 b_1), (.int .u16 b_2), (.int .u32 b_3), (.int .u8 b_4), (.int .u8 b_5), (.int .u8 b_6), (.int .u8 b_7), (.int .u8 b_8), (.int .u8 b_9), (.int .u8 b_10)]), (.agg #[(.int .u8 b_11), (.string b_12)])] w41 fun e43 w44 =>
        ∃ b45 : Bool, (e43 = .returned (.bool b45)) ∧
        (X.Kept L42 w41 w44) ∧
        R (.returned (.tuple #[])) w44
      else
       if (b_0 == 5) = true then
        ∀ w37 : World, ∀ L38 : List Nat, (X.Hid [] w w37) →
        (X.NewL (w).heap.size [] w w37 L38) →
        X.CallX Try.prog 27 #[(.pointer (some a)), (.agg #[(.int .u8 b_1), (.int .u16 b_2)]), (.int .u32 b_13)] w37 fun e39 w40 =>
         (e39 = .returned (.tuple #[])) ∧
         (X.Kept L38 w37 w40) ∧
         R (.returned (.tuple #[])) w40
       else
        ∀ w36 : World, (X.Hid [] w w36) →
        R (.returned (.tuple #[])) w36
     else
      if (b_0 == 4) = true then
       ∀ w31 : World, ∀ L32 : List Nat, (X.Hid [] w w31) →
       (X.NewL (w).heap.size [] w w31 L32) →
       X.CallX Try.prog 25 #[(.pointer (some a)), (.agg #[(.int .u8 b_1), (.int .u16 b_2), (.int .u32 b_3), (.int .u8 b_4), (.int .u8 b_5), (.int .u8 b_6), (.int .u8 b_7), (.int .u8 b_8), (.int .u8 b_9), (.int .u8 b_10)]), (.agg #[(.int .u8 b_11), (.string b_12)])] w31 fun e33 w34 =>
        ∃ b35 : Bool, (e33 = .returned (.bool b35)) ∧
        (X.Kept L32 w31 w34) ∧
        R (.returned (.tuple #[])) w34
      else
       if (b_0 == 5) = true then
        ∀ w27 : World, ∀ L28 : List Nat, (X.Hid [] w w27) →
        (X.NewL (w).heap.size [] w w27 L28) →
        X.CallX Try.prog 27 #[(.pointer (some a)), (.agg #[(.int .u8 b_1), (.int .u16 b_2)]), (.int .u32 b_13)] w27 fun e29 w30 =>
         (e29 = .returned (.tuple #[])) ∧
         (X.Kept L28 w27 w30) ∧
         R (.returned (.tuple #[])) w30
       else
        ∀ w26 : World, (X.Hid [] w w26) →
        R (.returned (.tuple #[])) w26
   else
    if (b_0 == 2) = true then
     ∀ w21 : World, ∀ L22 : List Nat, (X.Hid [] w w21) →
     (X.NewL (w).heap.size [] w w21 L22) →
     X.CallX Try.prog 22 #[(.pointer (some a)), (.agg #[(.int .u8 b_1), (.int .u16 b_2), (.int .u32 b_3), (.int .u8 b_4), (.int .u8 b_5), (.int .u8 b_6), (.int .u8 b_7), (.int .u8 b_8), (.int .u8 b_9), (.int .u8 b_10)])] w21 fun e23 w24 =>
      ∃ n25 : Int, (e23 = .returned (.int .i64 n25)) ∧
      (X.Kept L22 w21 w24) ∧
      R (.returned (.tuple #[])) w24
    else
     if (b_0 == 3) = true then
      if (b_0 == 3) = true then
       ∀ w16 : World, ∀ L17 : List Nat, (X.Hid [] w w16) →
       (X.NewL (w).heap.size [] w w16 L17) →
       X.CallX Try.prog 25 #[(.pointer (some a)), (.agg #[(.int .u8 b_1), (.int .u16 b_2), (.int .u32 b_3), (.int .u8 b_4), (.int .u8 b_5), (.int .u8 b_6), (.int .u8 b_7), (.int .u8 b_8), (.int .u8 b_9), (.int .u8 b_10)]), (.agg #[(.int .u8 b_11), (.string b_12)])] w16 fun e18 w19 =>
        ∃ b20 : Bool, (e18 = .returned (.bool b20)) ∧
        (X.Kept L17 w16 w19) ∧
        R (.returned (.tuple #[])) w19
      else
       if (b_0 == 5) = true then
        ∀ w12 : World, ∀ L13 : List Nat, (X.Hid [] w w12) →
        (X.NewL (w).heap.size [] w w12 L13) →
        X.CallX Try.prog 27 #[(.pointer (some a)), (.agg #[(.int .u8 b_1), (.int .u16 b_2)]), (.int .u32 b_13)] w12 fun e14 w15 =>
         (e14 = .returned (.tuple #[])) ∧
         (X.Kept L13 w12 w15) ∧
         R (.returned (.tuple #[])) w15
       else
        ∀ w11 : World, (X.Hid [] w w11) →
        R (.returned (.tuple #[])) w11
     else
      if (b_0 == 4) = true then
       ∀ w6 : World, ∀ L7 : List Nat, (X.Hid [] w w6) →
       (X.NewL (w).heap.size [] w w6 L7) →
       X.CallX Try.prog 25 #[(.pointer (some a)), (.agg #[(.int .u8 b_1), (.int .u16 b_2), (.int .u32 b_3), (.int .u8 b_4), (.int .u8 b_5), (.int .u8 b_6), (.int .u8 b_7), (.int .u8 b_8), (.int .u8 b_9), (.int .u8 b_10)]), (.agg #[(.int .u8 b_11), (.string b_12)])] w6 fun e8 w9 =>
        ∃ b10 : Bool, (e8 = .returned (.bool b10)) ∧
        (X.Kept L7 w6 w9) ∧
        R (.returned (.tuple #[])) w9
      else
       if (b_0 == 5) = true then
        ∀ w2 : World, ∀ L3 : List Nat, (X.Hid [] w w2) →
        (X.NewL (w).heap.size [] w w2 L3) →
        X.CallX Try.prog 27 #[(.pointer (some a)), (.agg #[(.int .u8 b_1), (.int .u16 b_2)]), (.int .u32 b_13)] w2 fun e4 w5 =>
         (e4 = .returned (.tuple #[])) ∧
         (X.Kept L3 w2 w5) ∧
         R (.returned (.tuple #[])) w5
       else
        ∀ w1 : World, (X.Hid [] w w1) →
        R (.returned (.tuple #[])) w1) :
    Calls Try.prog 15 #[.pointer (some a), .agg #[.int .i64 b_0, .int .u8 b_1, .int .u16 b_2, .int .u32 b_3, .int .u8 b_4, .int .u8 b_5, .int .u8 b_6, .int .u8 b_7, .int .u8 b_8, .int .u8 b_9, .int .u8 b_10, .int .u8 b_11, .string b_12, .int .u32 b_13]] w R :=
  X.calls_of { isLoc := [3], sym := [], loops := [], joins := [] } Try.func15 (by kernel_rfl) h
end Go.Proofs
