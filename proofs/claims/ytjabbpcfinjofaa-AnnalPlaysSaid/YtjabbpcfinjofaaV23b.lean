import Derived.Test.YtjabbpcfinjofaaXFn
import Derived.Test.YtjabbpcfinjofaaProg
/- The verification conditions of this seat's functions, as the engine has them: printed by a program of the bench; checked by the kernel. -/
set_option maxRecDepth 100000
set_option linter.unusedVariables false
namespace Go.Proofs
open Go
abbrev fn_annal_Annal_Order : Nat := 9
theorem x_annal_Annal_Order (a : Addr) (b : Int) (w : World) (R : Ending → World → Prop) (h :
  X.CallX Try.prog 23 #[(.pointer (some a))] w fun e1 w2 =>
   ∃ b3 : Bool, (e1 = .returned (.bool b3)) ∧
   ((w).heap.size ≤ (w2).heap.size) ∧
   if (b3 || decide (b ≥ 4)) = true then
    R (.returned (.slice none 0 0)) w2
   else
    ((0 : Int) ≤ b) ∧
    (b < 4) ∧
    ∃ q4 : Option Addr, ∃ k5 : Nat, ∃ k6 : Nat, (World.cell? w2 ((a.add 8).add ((b).toNat * 1)) = some (.slice (q4) k5 k6)) ∧
    ∃ x7 : Option Addr → Nat → Nat → Int → World → List Nat → Prop, ∃ x8 : Option Addr → Nat → Nat → Int → World → Nat, (x7 (none) 0 0 0 w2 []) ∧
    ∀ q9 : Option Addr, ∀ k10 : Nat, ∀ k11 : Nat, ∀ n12 : Int, ∀ w13 : World, ∀ L14 : List Nat, (X.LF (w).heap.size w13 L14) →
    (x7 q9 k10 k11 n12 w13 L14) →
    if (decide (n12 < ((k5 : Nat) : Int))) = true then
     ((0 : Int) ≤ n12) ∧
     (n12 < ((k5 : Nat) : Int)) ∧
     X.onSome (q4) fun p15 =>
     ∃ n16 : Int, ∃ n17 : Int, ∃ n18 : Int, ∃ n19 : Int, ∃ n20 : Int, ∃ n21 : Int, ∃ n22 : Int, ∃ n23 : Int, ∃ n24 : Int, ∃ n25 : Int, ∃ n26 : Int, ∃ n27 : Int, ∃ q28 : Option Addr, ∃ k29 : Nat, ∃ k30 : Nat, ∃ n31 : Int, ∃ s32 : ByteArray, ∃ q33 : Option Addr, ∃ k34 : Nat, ∃ k35 : Nat, ∃ n36 : Int, ∃ n37 : Int, (X.Cells w13 (p15.add ((n12).toNat * 18)) [(.int .u8 n16), (.int .u8 n17), (.int .u16 n18), (.int .u32 n19), (.int .u8 n20), (.int .u8 n21), (.int .u8 n22), (.int .u8 n23), (.int .u8 n24), (.int .u8 n25), (.int .u8 n26), (.int .u32 n27), (.slice (q28) k29 k30), (.int .u8 n31), (.string s32), (.slice (q33) k34 k35), (.int .u8 n36), (.int .u16 n37)]) ∧
     ∀ w38 : World, ∀ L39 : List Nat, (X.Hid [] w13 w38) →
     (X.NewL (w).heap.size [] w13 w38 L39) →
     X.CallX Try.prog 24 #[(.agg #[(.int .u8 n16), (.int .u8 n17), (.int .u16 n18), (.int .u32 n19), (.int .u8 n20), (.int .u8 n21), (.int .u8 n22), (.int .u8 n23), (.int .u8 n24), (.int .u8 n25), (.int .u8 n26), (.int .u32 n27), (.slice (q28) k29 k30), (.int .u8 n31), (.string s32), (.slice (q33) k34 k35), (.int .u8 n36), (.int .u16 n37)])] w38 fun e40 w41 =>
      ∃ n42 : Int, ∃ n43 : Int, ∃ n44 : Int, ∃ n45 : Int, ∃ n46 : Int, ∃ n47 : Int, ∃ n48 : Int, ∃ n49 : Int, ∃ n50 : Int, ∃ n51 : Int, ∃ n52 : Int, ∃ n53 : Int, ∃ q54 : Option Addr, ∃ k55 : Nat, ∃ k56 : Nat, ∃ n57 : Int, ∃ s58 : ByteArray, ∃ q59 : Option Addr, ∃ k60 : Nat, ∃ k61 : Nat, ∃ n62 : Int, ∃ n63 : Int, (e40 = .returned (.agg #[(.int .u8 n42), (.int .u8 n43), (.int .u16 n44), (.int .u32 n45), (.int .u8 n46), (.int .u8 n47), (.int .u8 n48), (.int .u8 n49), (.int .u8 n50), (.int .u8 n51), (.int .u8 n52), (.int .u32 n53), (.slice (q54) k55 k56), (.int .u8 n57), (.string s58), (.slice (q59) k60 k61), (.int .u8 n62), (.int .u16 n63)])) ∧
      (X.Kept L39 w38 w41) ∧
      ∃ q64 : Option Addr, ∃ k65 : Nat, ∃ k66 : Nat, ∃ w67 : World, (Sem.run Try.prog (Go.Builtin.append_ #[55, 55] 55 #[(.slice (q9) k10 k11), (.slice (some ⟨(w41).heap.size, 0, none⟩) 1 1)]) (w41.alloc (.cells #[(.int .u8 n42), (.int .u8 n43), (.int .u16 n44), (.int .u32 n45), (.int .u8 n46), (.int .u8 n47), (.int .u8 n48), (.int .u8 n49), (.int .u8 n50), (.int .u8 n51), (.int .u8 n52), (.int .u32 n53), (.slice (q54) k55 k56), (.int .u8 n57), (.string s58), (.slice (q59) k60 k61), (.int .u8 n62), (.int .u16 n63)] 107)) = .ok (.slice (q64) k65 k66) w67) ∧
      (X.Kept L39 (w41.alloc (.cells #[(.int .u8 n42), (.int .u8 n43), (.int .u16 n44), (.int .u32 n45), (.int .u8 n46), (.int .u8 n47), (.int .u8 n48), (.int .u8 n49), (.int .u8 n50), (.int .u8 n51), (.int .u8 n52), (.int .u32 n53), (.slice (q54) k55 k56), (.int .u8 n57), (.string s58), (.slice (q59) k60 k61), (.int .u8 n62), (.int .u16 n63)] 107)) w67) ∧
      (x7 q64 k65 k66 (IntKind.wrap .i64 (n12 + 1)) w67 (L39)) ∧
      Nat.le ((x8 q64 k65 k66 (IntKind.wrap .i64 (n12 + 1)) w67) + 1) (x8 q9 k10 k11 n12 w13)
    else
     R (.returned (.slice (q9) k10 k11)) w13) :
    Calls Try.prog 9 #[.pointer (some a), .int .u8 b] w R :=
  X.calls_of { isLoc := [7], sym := [18], loops := [(5, .inv [(5, .slice), (21, .int .i64)] [] true)], joins := [] } Try.func9 (by kernel_rfl) h
abbrev fn_annal_Annal_Commit : Nat := 22
theorem x_annal_Annal_Commit (a : Addr) (b c d_0 d_1 d_2 d_3 d_4 d_5 d_6 d_7 d_8 d_9 d_10 d_11 : Int) (d_12 : Option Addr) (d_12l d_12c : Nat) (d_13 : Int) (d_14 : ByteArray) (d_15 : Option Addr) (d_15l d_15c : Nat) (d_16 d_17 : Int) (w : World) (R : Ending → World → Prop) (h :
  ∀ w1 : World, ∀ L2 : List Nat, (X.Hid [] w w1) →
  (X.NewL (w).heap.size [] w w1 L2) →
  X.CallX Try.prog 23 #[(.pointer (some a))] w1 fun e3 w4 =>
   ∃ b5 : Bool, (e3 = .returned (.bool b5)) ∧
   (X.Kept L2 w1 w4) ∧
   if (((b5 || decide (b ≥ 4)) || decide (c < 0)) == false) = true then
    ((0 : Int) ≤ b) ∧
    (b < 4) ∧
    ∃ q6 : Option Addr, ∃ k7 : Nat, ∃ k8 : Nat, (World.cell? w4 ((a.add 8).add ((b).toNat * 1)) = some (.slice (q6) k7 k8)) ∧
    (¬ ((((a.add 8).add (b.toNat * 1)).block) ∈ L2)) ∧
    if (false || decide (c > ((k7 : Nat) : Int))) = true then
     R (.returned (.bool false)) w4
    else
     ((0 : Int) ≤ b) ∧
     (b < 4) ∧
     ∃ q9 : Option Addr, ∃ k10 : Nat, ∃ k11 : Nat, (World.cell? w4 ((a.add 8).add ((b).toNat * 1)) = some (.slice (q9) k10 k11)) ∧
     (¬ ((((a.add 8).add (b.toNat * 1)).block) ∈ L2)) ∧
     if (c == ((k10 : Nat) : Int)) = true then
      ∃ x45 : X.Facts, (X.FactsW x45 w4 (L2)) ∧
      ∃ q46 : Option Addr, ∃ k47 : Nat, ∃ k48 : Nat, ((((a.add 8).add ((b).toNat * 1)), [(.slice (q46) k47 k48)]) ∈ x45) ∧
      ∀ w49 : World, ∀ L50 : List Nat, (X.Hid (L2) w4 w49) →
      (X.NewL (w).heap.size (L2) w4 w49 L50) →
      X.CallX Try.prog 24 #[(.agg #[(.int .u8 d_0), (.int .u8 d_1), (.int .u16 d_2), (.int .u32 d_3), (.int .u8 d_4), (.int .u8 d_5), (.int .u8 d_6), (.int .u8 d_7), (.int .u8 d_8), (.int .u8 d_9), (.int .u8 d_10), (.int .u32 d_11), (.slice (d_12) d_12l d_12c), (.int .u8 d_13), (.string d_14), (.slice (d_15) d_15l d_15c), (.int .u8 d_16), (.int .u16 d_17)])] w49 fun e51 w52 =>
       ∃ n53 : Int, ∃ n54 : Int, ∃ n55 : Int, ∃ n56 : Int, ∃ n57 : Int, ∃ n58 : Int, ∃ n59 : Int, ∃ n60 : Int, ∃ n61 : Int, ∃ n62 : Int, ∃ n63 : Int, ∃ n64 : Int, ∃ q65 : Option Addr, ∃ k66 : Nat, ∃ k67 : Nat, ∃ n68 : Int, ∃ s69 : ByteArray, ∃ q70 : Option Addr, ∃ k71 : Nat, ∃ k72 : Nat, ∃ n73 : Int, ∃ n74 : Int, (e51 = .returned (.agg #[(.int .u8 n53), (.int .u8 n54), (.int .u16 n55), (.int .u32 n56), (.int .u8 n57), (.int .u8 n58), (.int .u8 n59), (.int .u8 n60), (.int .u8 n61), (.int .u8 n62), (.int .u8 n63), (.int .u32 n64), (.slice (q65) k66 k67), (.int .u8 n68), (.string s69), (.slice (q70) k71 k72), (.int .u8 n73), (.int .u16 n74)])) ∧
       (X.Kept L50 w49 w52) ∧
       (X.FactsW x45 w52 (L50)) ∧
       (X.FactsW x45 (w52.alloc (.cells #[(.int .u8 n53), (.int .u8 n54), (.int .u16 n55), (.int .u32 n56), (.int .u8 n57), (.int .u8 n58), (.int .u8 n59), (.int .u8 n60), (.int .u8 n61), (.int .u8 n62), (.int .u8 n63), (.int .u32 n64), (.slice (q65) k66 k67), (.int .u8 n68), (.string s69), (.slice (q70) k71 k72), (.int .u8 n73), (.int .u16 n74)] 107)) (L50)) ∧
       ∃ q75 : Option Addr, ∃ k76 : Nat, ∃ k77 : Nat, ∃ w78 : World, (Sem.run Try.prog (Go.Builtin.append_ #[55, 55] 55 #[(.slice (q46) k47 k48), (.slice (some ⟨(w52).heap.size, 0, none⟩) 1 1)]) (w52.alloc (.cells #[(.int .u8 n53), (.int .u8 n54), (.int .u16 n55), (.int .u32 n56), (.int .u8 n57), (.int .u8 n58), (.int .u8 n59), (.int .u8 n60), (.int .u8 n61), (.int .u8 n62), (.int .u8 n63), (.int .u32 n64), (.slice (q65) k66 k67), (.int .u8 n68), (.string s69), (.slice (q70) k71 k72), (.int .u8 n73), (.int .u16 n74)] 107)) = .ok (.slice (q75) k76 k77) w78) ∧
       (X.Kept L50 (w52.alloc (.cells #[(.int .u8 n53), (.int .u8 n54), (.int .u16 n55), (.int .u32 n56), (.int .u8 n57), (.int .u8 n58), (.int .u8 n59), (.int .u8 n60), (.int .u8 n61), (.int .u8 n62), (.int .u8 n63), (.int .u32 n64), (.slice (q65) k66 k67), (.int .u8 n68), (.string s69), (.slice (q70) k71 k72), (.int .u8 n73), (.int .u16 n74)] 107)) w78) ∧
       (X.FactsW x45 w78 (L50)) ∧
       ((((a.add 8).add (b.toNat * 1)).spot) = none) ∧
       (World.there w78 (((a.add 8).add (b.toNat * 1)).block) (((a.add 8).add (b.toNat * 1)).off) 1) ∧
       (¬ ((((a.add 8).add (b.toNat * 1)).block) ∈ L50)) ∧
       R (.returned (.bool true)) (w78.setCells (((a.add 8).add (b.toNat * 1)).block) (((a.add 8).add (b.toNat * 1)).off) [(.slice (q75) k76 k77)])
     else
      ∃ x12 : X.Facts, (X.FactsW x12 w4 (L2)) ∧
      ∃ q13 : Option Addr, ∃ k14 : Nat, ∃ k15 : Nat, ((((a.add 8).add ((b).toNat * 1)), [(.slice (q13) k14 k15)]) ∈ x12) ∧
      ((0 : Int) ≤ c) ∧
      (c < ((k14 : Nat) : Int)) ∧
      X.onSome (q13) fun p16 =>
      ∃ n17 : Int, ∃ n18 : Int, ∃ n19 : Int, ∃ n20 : Int, ∃ n21 : Int, ∃ n22 : Int, ∃ n23 : Int, ∃ n24 : Int, ∃ n25 : Int, ∃ n26 : Int, ∃ n27 : Int, ∃ n28 : Int, ∃ q29 : Option Addr, ∃ k30 : Nat, ∃ k31 : Nat, ∃ n32 : Int, ∃ s33 : ByteArray, ∃ q34 : Option Addr, ∃ k35 : Nat, ∃ k36 : Nat, ∃ n37 : Int, ∃ n38 : Int, (((p16.add ((c).toNat * 18)), [(.int .u8 n17), (.int .u8 n18), (.int .u16 n19), (.int .u32 n20), (.int .u8 n21), (.int .u8 n22), (.int .u8 n23), (.int .u8 n24), (.int .u8 n25), (.int .u8 n26), (.int .u8 n27), (.int .u32 n28), (.slice (q29) k30 k31), (.int .u8 n32), (.string s33), (.slice (q34) k35 k36), (.int .u8 n37), (.int .u16 n38)]) ∈ x12) ∧
      ∀ w39 : World, ∀ L40 : List Nat, (X.Hid (L2) w4 w39) →
      (X.NewL (w).heap.size (L2) w4 w39 L40) →
      X.CallX Try.prog 52 #[(.agg #[(.int .u8 n17), (.int .u8 n18), (.int .u16 n19), (.int .u32 n20), (.int .u8 n21), (.int .u8 n22), (.int .u8 n23), (.int .u8 n24), (.int .u8 n25), (.int .u8 n26), (.int .u8 n27), (.int .u32 n28), (.slice (q29) k30 k31), (.int .u8 n32), (.string s33), (.slice (q34) k35 k36), (.int .u8 n37), (.int .u16 n38)]), (.agg #[(.int .u8 d_0), (.int .u8 d_1), (.int .u16 d_2), (.int .u32 d_3), (.int .u8 d_4), (.int .u8 d_5), (.int .u8 d_6), (.int .u8 d_7), (.int .u8 d_8), (.int .u8 d_9), (.int .u8 d_10), (.int .u32 d_11), (.slice (d_12) d_12l d_12c), (.int .u8 d_13), (.string d_14), (.slice (d_15) d_15l d_15c), (.int .u8 d_16), (.int .u16 d_17)])] w39 fun e41 w42 =>
       ∃ b43 : Bool, (e41 = .returned (.bool b43)) ∧
       (X.Kept L40 w39 w42) ∧
       (X.FactsW x12 w42 (L40)) ∧
       if (!b43) = true then
        ∃ n44 : Int, (World.cell? w42 (a.add 12) = some (.int .i64 n44)) ∧
        (¬ ((a.block) ∈ L40)) ∧
        ((none : Option Nat) = none) ∧
        (World.there w42 (a.block) ((a.off) + 12) 1) ∧
        (¬ ((a.block) ∈ L40)) ∧
        R (.returned (.bool false)) (w42.setCells (a.block) ((a.off) + 12) [(.int .i64 (IntKind.wrap .i64 (n44 + 1)))])
       else
        R (.returned (.bool true)) w42
   else
    R (.returned (.bool false)) w4) :
    Calls Try.prog 22 #[.pointer (some a), .int .u8 b, .int .i64 c, .agg #[.int .u8 d_0, .int .u8 d_1, .int .u16 d_2, .int .u32 d_3, .int .u8 d_4, .int .u8 d_5, .int .u8 d_6, .int .u8 d_7, .int .u8 d_8, .int .u8 d_9, .int .u8 d_10, .int .u32 d_11, .slice d_12 d_12l d_12c, .int .u8 d_13, .string d_14, .slice d_15 d_15l d_15c, .int .u8 d_16, .int .u16 d_17]] w R :=
  X.calls_of { isLoc := [7], sym := [26, 35], loops := [], joins := [] } Try.func22 (by kernel_rfl) h
abbrev fn_Light3 : Nat := 20
theorem x_Light3 (a : Option Addr) (al ac : Nat) (w : World) (R : Ending → World → Prop) (h :
  ∃ x1 : Int → Int → World → List Nat → Prop, ∃ x2 : Int → Int → World → Nat, (x1 3000 0 w []) ∧
  ∀ n3 : Int, ∀ n4 : Int, ∀ w5 : World, ∀ L6 : List Nat, (X.LF (w).heap.size w5 L6) →
  (x1 n3 n4 w5 L6) →
  if ((decide (n4 < ((al : Nat) : Int)) && decide (n4 < 300)) && decide (n3 ≥ 0)) = true then
   ((0 : Int) ≤ n4) ∧
   (n4 < ((al : Nat) : Int)) ∧
   X.onSome (a) fun p7 =>
   ∃ s8 : ByteArray, (World.cell? w5 ((p7.add ((n4).toNat * 5)).add 2) = some (.string s8)) ∧
   ((0 : Int) ≤ n4) ∧
   (n4 < ((al : Nat) : Int)) ∧
   X.onSome (a) fun p9 =>
   ∃ s10 : ByteArray, (World.cell? w5 ((p9.add ((n4).toNat * 5)).add 3) = some (.string s10)) ∧
   ∀ w11 : World, (X.Hid [] w5 w11) →
   (x1 (IntKind.wrap .i64 ((IntKind.wrap .i64 ((IntKind.wrap .i64 (n3 - 3)) - (if (4000 : Int) < (((s8.size) : Nat) : Int) then 4000 else (((s8.size) : Nat) : Int)))) - (if (4000 : Int) < (((s10.size) : Nat) : Int) then 4000 else (((s10.size) : Nat) : Int)))) (IntKind.wrap .i64 (n4 + 1)) w11 []) ∧
   Nat.le ((x2 (IntKind.wrap .i64 ((IntKind.wrap .i64 ((IntKind.wrap .i64 (n3 - 3)) - (if (4000 : Int) < (((s8.size) : Nat) : Int) then 4000 else (((s8.size) : Nat) : Int)))) - (if (4000 : Int) < (((s10.size) : Nat) : Int) then 4000 else (((s10.size) : Nat) : Int)))) (IntKind.wrap .i64 (n4 + 1)) w11) + 1) (x2 n3 n4 w5)
  else
   R (.returned (.bool (decide (n3 ≥ 0)))) w5) :
    Calls Try.prog 20 #[.slice a al ac] w R :=
  X.calls_of { isLoc := [], sym := [], loops := [(3, .inv [(3, .int .i64), (4, .int .i64)] [] true)], joins := [] } Try.func20 (by kernel_rfl) h
abbrev fn_Light5 : Nat := 21
theorem x_Light5 (a : Option Addr) (al ac : Nat) (w : World) (R : Ending → World → Prop) (h :
  ∃ x1 : Int → Int → World → List Nat → Prop, ∃ x2 : Int → Int → World → Nat, (x1 6000 0 w []) ∧
  ∀ n3 : Int, ∀ n4 : Int, ∀ w5 : World, ∀ L6 : List Nat, (X.LF (w).heap.size w5 L6) →
  (x1 n3 n4 w5 L6) →
  if ((decide (n4 < ((al : Nat) : Int)) && decide (n4 < 200)) && decide (n3 ≥ 0)) = true then
   ((0 : Int) ≤ n4) ∧
   (n4 < ((al : Nat) : Int)) ∧
   X.onSome (a) fun p7 =>
   ∃ n8 : Int, ∃ n9 : Int, ∃ n10 : Int, ∃ n11 : Int, ∃ n12 : Int, ∃ n13 : Int, ∃ n14 : Int, ∃ n15 : Int, ∃ n16 : Int, ∃ n17 : Int, ∃ n18 : Int, ∃ n19 : Int, ∃ q20 : Option Addr, ∃ k21 : Nat, ∃ k22 : Nat, ∃ n23 : Int, ∃ s24 : ByteArray, ∃ q25 : Option Addr, ∃ k26 : Nat, ∃ k27 : Nat, ∃ n28 : Int, ∃ n29 : Int, (X.Cells w5 (p7.add ((n4).toNat * 18)) [(.int .u8 n8), (.int .u8 n9), (.int .u16 n10), (.int .u32 n11), (.int .u8 n12), (.int .u8 n13), (.int .u8 n14), (.int .u8 n15), (.int .u8 n16), (.int .u8 n17), (.int .u8 n18), (.int .u32 n19), (.slice (q20) k21 k22), (.int .u8 n23), (.string s24), (.slice (q25) k26 k27), (.int .u8 n28), (.int .u16 n29)]) ∧
   ∀ w30 : World, ∀ L31 : List Nat, (X.Hid [] w5 w30) →
   (X.NewL (w).heap.size [] w5 w30 L31) →
   X.CallX Try.prog 20 #[(.slice (q20) k21 k22)] w30 fun e32 w33 =>
    ∃ b34 : Bool, (e32 = .returned (.bool b34)) ∧
    (X.Kept L31 w30 w33) ∧
    if ((!b34) || decide (((k26 : Nat) : Int) > 300)) = true then
     R (.returned (.bool false)) w33
    else
     ∃ x35 : Int → Int → World → List Nat → Prop, ∃ x36 : Int → Int → World → Nat, (x35 (IntKind.wrap .i64 ((IntKind.wrap .i64 ((IntKind.wrap .i64 (n3 - 10)) - (if (7000 : Int) < (((s24.size) : Nat) : Int) then 7000 else (((s24.size) : Nat) : Int)))) - (IntKind.wrap .i64 (30 * (if (200 : Int) < ((k21 : Nat) : Int) then 200 else ((k21 : Nat) : Int)))))) 0 w33 (L31)) ∧
     ∀ n37 : Int, ∀ n38 : Int, ∀ w39 : World, ∀ L40 : List Nat, (X.LF (w).heap.size w39 L40) →
     (x35 n37 n38 w39 L40) →
     if (decide (n38 < ((k26 : Nat) : Int))) = true then
      ((0 : Int) ≤ n38) ∧
      (n38 < ((k26 : Nat) : Int)) ∧
      X.onSome (q25) fun p41 =>
      ∃ s42 : ByteArray, (World.cell? w39 ((p41.add ((n38).toNat * 3)).add 0) = some (.string s42)) ∧
      (¬ ((((p41.add (n38.toNat * 3)).add 0).block) ∈ L40)) ∧
      ((0 : Int) ≤ n38) ∧
      (n38 < ((k26 : Nat) : Int)) ∧
      X.onSome (q25) fun p43 =>
      ∃ s44 : ByteArray, (World.cell? w39 ((p43.add ((n38).toNat * 3)).add 1) = some (.string s44)) ∧
      (¬ (((p43.add (n38.toNat * 3)).block) ∈ L40)) ∧
      ∀ w45 : World, ∀ L46 : List Nat, (X.Hid (L40) w39 w45) →
      (X.NewL (w).heap.size (L40) w39 w45 L46) →
      (([(.int .u8 n8), (.int .u8 n9), (.int .u16 n10), (.int .u32 n11), (.int .u8 n12), (.int .u8 n13), (.int .u8 n14), (.int .u8 n15), (.int .u8 n16), (.int .u8 n17), (.int .u8 n18), (.int .u32 n19), (.slice (q20) k21 k22), (.int .u8 n23), (.string s24), (.slice (q25) k26 k27), (.int .u8 n28), (.int .u16 n29)] : List Value) = [(.int .u8 n8), (.int .u8 n9), (.int .u16 n10), (.int .u32 n11), (.int .u8 n12), (.int .u8 n13), (.int .u8 n14), (.int .u8 n15), (.int .u8 n16), (.int .u8 n17), (.int .u8 n18), (.int .u32 n19), (.slice (q20) k21 k22), (.int .u8 n23), (.string s24), (.slice (q25) k26 k27), (.int .u8 n28), (.int .u16 n29)]) ∧
      (x35 (IntKind.wrap .i64 ((IntKind.wrap .i64 ((IntKind.wrap .i64 (n37 - 1)) - (if (7000 : Int) < (((s42.size) : Nat) : Int) then 7000 else (((s42.size) : Nat) : Int)))) - (if (7000 : Int) < (((s44.size) : Nat) : Int) then 7000 else (((s44.size) : Nat) : Int)))) (IntKind.wrap .i64 (n38 + 1)) w45 (L46)) ∧
      Nat.le ((x36 (IntKind.wrap .i64 ((IntKind.wrap .i64 ((IntKind.wrap .i64 (n37 - 1)) - (if (7000 : Int) < (((s42.size) : Nat) : Int) then 7000 else (((s42.size) : Nat) : Int)))) - (if (7000 : Int) < (((s44.size) : Nat) : Int) then 7000 else (((s44.size) : Nat) : Int)))) (IntKind.wrap .i64 (n38 + 1)) w45) + 1) (x36 n37 n38 w39)
     else
      (x1 n37 (IntKind.wrap .i64 (n4 + 1)) w39 (L40)) ∧
      Nat.le ((x2 n37 (IntKind.wrap .i64 (n4 + 1)) w39) + 1) (x2 n3 n4 w5)
  else
   R (.returned (.bool (decide (n3 ≥ 0) && decide (((al : Nat) : Int) ≤ 150)))) w5) :
    Calls Try.prog 21 #[.slice a al ac] w R :=
  X.calls_of { isLoc := [5], sym := [], loops := [(3, .inv [(3, .int .i64), (4, .int .i64)] [] true), (10, .inv [(3, .int .i64), (6, .int .i64)] [] true)], joins := [] } Try.func21 (by kernel_rfl) h
abbrev fn_Light : Nat := 6
theorem x_Light (a : Option Addr) (al ac : Nat) (w : World) (R : Ending → World → Prop) (h :
  ∃ x1 : Int → World → List Nat → Prop, ∃ x2 : Int → World → Nat, (x1 0 w []) ∧
  ∀ n3 : Int, ∀ w4 : World, ∀ L5 : List Nat, (X.LF (w).heap.size w4 L5) →
  (x1 n3 w4 L5) →
  if (decide (n3 < ((al : Nat) : Int)) && decide (n3 < 100)) = true then
   ((0 : Int) ≤ n3) ∧
   (n3 < ((al : Nat) : Int)) ∧
   X.onSome (a) fun p6 =>
   ∃ n7 : Int, ∃ n8 : Int, ∃ n9 : Int, ∃ n10 : Int, ∃ n11 : Int, ∃ n12 : Int, ∃ n13 : Int, ∃ n14 : Int, ∃ n15 : Int, ∃ n16 : Int, ∃ n17 : Int, ∃ n18 : Int, ∃ n19 : Int, ∃ n20 : Int, ∃ n21 : Int, ∃ n22 : Int, ∃ q23 : Option Addr, ∃ k24 : Nat, ∃ k25 : Nat, ∃ n26 : Int, ∃ n27 : Int, ∃ n28 : Int, ∃ n29 : Int, ∃ n30 : Int, ∃ n31 : Int, ∃ n32 : Int, ∃ n33 : Int, ∃ n34 : Int, ∃ n35 : Int, ∃ n36 : Int, ∃ n37 : Int, ∃ n38 : Int, ∃ n39 : Int, ∃ n40 : Int, ∃ n41 : Int, ∃ s42 : ByteArray, ∃ n43 : Int, ∃ n44 : Int, ∃ n45 : Int, ∃ n46 : Int, ∃ n47 : Int, ∃ n48 : Int, ∃ n49 : Int, ∃ n50 : Int, ∃ n51 : Int, ∃ n52 : Int, ∃ n53 : Int, ∃ n54 : Int, ∃ n55 : Int, ∃ s56 : ByteArray, ∃ n57 : Int, ∃ n58 : Int, ∃ q59 : Option Addr, ∃ k60 : Nat, ∃ k61 : Nat, ∃ n62 : Int, ∃ n63 : Int, ∃ n64 : Int, ∃ n65 : Int, ∃ q66 : Option Addr, ∃ k67 : Nat, ∃ k68 : Nat, ∃ n69 : Int, ∃ n70 : Int, ∃ n71 : Int, ∃ n72 : Int, ∃ n73 : Int, ∃ n74 : Int, ∃ n75 : Int, ∃ n76 : Int, ∃ n77 : Int, ∃ n78 : Int, ∃ n79 : Int, ∃ n80 : Int, ∃ q81 : Option Addr, ∃ k82 : Nat, ∃ k83 : Nat, ∃ n84 : Int, ∃ s85 : ByteArray, ∃ q86 : Option Addr, ∃ k87 : Nat, ∃ k88 : Nat, ∃ n89 : Int, ∃ n90 : Int, (X.Cells w4 (p6.add ((n3).toNat * 74)) [(.int .i64 n7), (.int .i64 n8), (.int .u8 n9), (.int .u8 n10), (.int .u16 n11), (.int .u32 n12), (.int .u8 n13), (.int .u8 n14), (.int .u8 n15), (.int .u8 n16), (.int .u8 n17), (.int .u8 n18), (.int .u8 n19), (.int .u8 n20), (.int .i64 n21), (.int .i64 n22), (.slice (q23) k24 k25), (.int .u8 n26), (.int .u16 n27), (.int .u32 n28), (.int .u8 n29), (.int .u8 n30), (.int .u8 n31), (.int .u8 n32), (.int .u8 n33), (.int .u8 n34), (.int .u8 n35), (.int .u8 n36), (.int .i64 n37), (.int .i64 n38), (.int .i64 n39), (.int .i64 n40), (.int .u8 n41), (.string s42), (.int .u8 n43), (.int .u16 n44), (.int .u8 n45), (.int .u16 n46), (.int .u32 n47), (.int .u8 n48), (.int .u8 n49), (.int .u8 n50), (.int .u8 n51), (.int .u8 n52), (.int .u8 n53), (.int .u8 n54), (.int .u8 n55), (.string s56), (.int .u8 n57), (.int .u32 n58), (.slice (q59) k60 k61), (.int .u8 n62), (.int .u16 n63), (.int .u8 n64), (.int .u32 n65), (.slice (q66) k67 k68), (.int .u8 n69), (.int .u8 n70), (.int .u16 n71), (.int .u32 n72), (.int .u8 n73), (.int .u8 n74), (.int .u8 n75), (.int .u8 n76), (.int .u8 n77), (.int .u8 n78), (.int .u8 n79), (.int .u32 n80), (.slice (q81) k82 k83), (.int .u8 n84), (.string s85), (.slice (q86) k87 k88), (.int .u8 n89), (.int .u16 n90)]) ∧
   ∀ w91 : World, ∀ L92 : List Nat, (X.Hid [] w4 w91) →
   (X.NewL (w).heap.size [] w4 w91 L92) →
   X.CallX Try.prog 20 #[(.slice (q23) k24 k25)] w91 fun e93 w94 =>
    ∃ b95 : Bool, (e93 = .returned (.bool b95)) ∧
    (X.Kept L92 w91 w94) ∧
    if (((((!b95) || decide ((IntKind.wrap .i64 ((((s56.size) : Nat) : Int) + (((s42.size) : Nat) : Int))) > 2000)) || decide (((k60 : Nat) : Int) > 20)) || decide (((k67 : Nat) : Int) > 20)) == false) = true then
     X.CallX Try.prog 21 #[(.slice (some ⟨(w94).heap.size, 0, none⟩) 1 1)] (w94.alloc (.cells #[(.int .u8 n69), (.int .u8 n70), (.int .u16 n71), (.int .u32 n72), (.int .u8 n73), (.int .u8 n74), (.int .u8 n75), (.int .u8 n76), (.int .u8 n77), (.int .u8 n78), (.int .u8 n79), (.int .u32 n80), (.slice (q81) k82 k83), (.int .u8 n84), (.string s85), (.slice (q86) k87 k88), (.int .u8 n89), (.int .u16 n90)] 52)) fun e96 w97 =>
      ∃ b98 : Bool, (e96 = .returned (.bool b98)) ∧
      (X.Kept L92 (w94.alloc (.cells #[(.int .u8 n69), (.int .u8 n70), (.int .u16 n71), (.int .u32 n72), (.int .u8 n73), (.int .u8 n74), (.int .u8 n75), (.int .u8 n76), (.int .u8 n77), (.int .u8 n78), (.int .u8 n79), (.int .u32 n80), (.slice (q81) k82 k83), (.int .u8 n84), (.string s85), (.slice (q86) k87 k88), (.int .u8 n89), (.int .u16 n90)] 52)) w97) ∧
      if (false || (!b98)) = true then
       R (.returned (.bool false)) w97
      else
       (x1 (IntKind.wrap .i64 (n3 + 1)) w97 (L92)) ∧
       Nat.le ((x2 (IntKind.wrap .i64 (n3 + 1)) w97) + 1) (x2 n3 w4)
    else
     R (.returned (.bool false)) w94
  else
   R (.returned (.bool (decide (((al : Nat) : Int) ≤ 80)))) w4) :
    Calls Try.prog 6 #[.slice a al ac] w R :=
  X.calls_of { isLoc := [4], sym := [], loops := [(2, .inv [(3, .int .i64)] [] true)], joins := [] } Try.func6 (by kernel_rfl) h
abbrev fn_gemotlaw23_knows : Nat := 7
theorem x_gemotlaw23_knows  (w : World) (R : Ending → World → Prop) (h :
  X.CallX Try.prog 8 #[] w fun e1 w2 =>
   ∃ q3 : Option Addr, (e1 = .returned (.pointer (q3))) ∧
   ((w).heap.size ≤ (w2).heap.size) ∧
   ∀ w4 : World, ∀ L5 : List Nat, (X.Hid [] w2 w4) →
   (X.NewL (w).heap.size [] w2 w4 L5) →
   X.CallX Try.prog 22 #[(.pointer (q3)), (.int .u8 1), (.int .i64 0), (.agg #[(.int .u8 2), (.int .u8 0), (.int .u16 0), (.int .u32 0), (.int .u8 0), (.int .u8 0), (.int .u8 0), (.int .u8 0), (.int .u8 0), (.int .u8 0), (.int .u8 0), (.int .u32 0), (.slice none 0 0), (.int .u8 0), (.string (ByteArray.mk #[])), (.slice none 0 0), (.int .u8 1), (.int .u16 1)])] w4 fun e6 w7 =>
    ∃ b8 : Bool, (e6 = .returned (.bool b8)) ∧
    (X.Kept L5 w4 w7) ∧
    X.CallX Try.prog 22 #[(.pointer (q3)), (.int .u8 1), (.int .i64 0), (.agg #[(.int .u8 2), (.int .u8 0), (.int .u16 0), (.int .u32 0), (.int .u8 0), (.int .u8 0), (.int .u8 0), (.int .u8 0), (.int .u8 0), (.int .u8 0), (.int .u8 0), (.int .u32 0), (.slice none 0 0), (.int .u8 0), (.string (ByteArray.mk #[])), (.slice none 0 0), (.int .u8 1), (.int .u16 1)])] w7 fun e9 w10 =>
     ∃ b11 : Bool, (e9 = .returned (.bool b11)) ∧
     (X.Kept L5 w7 w10) ∧
     if ((b8 && b11) == true) = true then
      ∀ w13 : World, ∀ L14 : List Nat, (X.Hid (L5) w10 w13) →
      (X.NewL (w).heap.size (L5) w10 w13 L14) →
      X.CallX Try.prog 22 #[(.pointer (q3)), (.int .u8 1), (.int .i64 0), (.agg #[(.int .u8 2), (.int .u8 0), (.int .u16 0), (.int .u32 0), (.int .u8 0), (.int .u8 0), (.int .u8 0), (.int .u8 0), (.int .u8 0), (.int .u8 0), (.int .u8 0), (.int .u32 0), (.slice none 0 0), (.int .u8 0), (.string (ByteArray.mk #[])), (.slice none 0 0), (.int .u8 1), (.int .u16 2)])] w13 fun e15 w16 =>
       ∃ b17 : Bool, (e15 = .returned (.bool b17)) ∧
       (X.Kept L14 w13 w16) ∧
       if ((true && (!b17)) == true) = true then
        X.CallX Try.prog 12 #[(.pointer (q3))] w16 fun e18 w19 =>
         ∃ n20 : Int, (e18 = .returned (.int .i64 n20)) ∧
         (X.Kept L14 w16 w19) ∧
         if ((true && (n20 == 1)) == true) = true then
          X.CallX Try.prog 9 #[(.pointer (q3)), (.int .u8 1)] w19 fun e21 w22 =>
           ∃ q23 : Option Addr, ∃ k24 : Nat, ∃ k25 : Nat, (e21 = .returned (.slice (q23) k24 k25)) ∧
           (X.Kept L14 w19 w22) ∧
           R (.returned (.bool (true && (((k24 : Nat) : Int) == 1)))) w22
         else
          R (.returned (.bool false)) w19
       else
        R (.returned (.bool false)) w16
     else
      ∀ w12 : World, (X.Hid (L5) w10 w12) →
      R (.returned (.bool false)) w12) :
    Calls Try.prog 7 #[] w R :=
  X.calls_of { isLoc := [2], sym := [], loops := [], joins := [] } Try.func7 (by kernel_rfl) h
abbrev fn_Do : Nat := 10
theorem x_Do (a : Addr) (b_0 b_1 b_2 b_3 b_4 b_5 b_6 b_7 b_8 b_9 b_10 b_11 b_12 b_13 b_14 b_15 : Int) (b_16 : Option Addr) (b_16l b_16c : Nat) (b_17 b_18 b_19 b_20 b_21 b_22 b_23 b_24 b_25 b_26 b_27 b_28 b_29 b_30 b_31 b_32 : Int) (b_33 : ByteArray) (b_34 b_35 b_36 b_37 b_38 b_39 b_40 b_41 b_42 b_43 b_44 b_45 b_46 : Int) (b_47 : ByteArray) (b_48 b_49 : Int) (b_50 : Option Addr) (b_50l b_50c : Nat) (b_51 b_52 b_53 b_54 : Int) (b_55 : Option Addr) (b_55l b_55c : Nat) (b_56 b_57 b_58 b_59 b_60 b_61 b_62 b_63 b_64 b_65 b_66 b_67 : Int) (b_68 : Option Addr) (b_68l b_68c : Nat) (b_69 : Int) (b_70 : ByteArray) (b_71 : Option Addr) (b_71l b_71c : Nat) (b_72 b_73 : Int) (w : World) (R : Ending → World → Prop) (h :
  if (b_0 == 0) = true then
   ∀ w96 : World, ∀ L97 : List Nat, (X.Hid [] w w96) →
   (X.NewL (w).heap.size [] w w96 L97) →
   X.CallX Try.prog 26 #[(.agg #[(.int .u8 b_3), (.int .u16 b_4), (.int .u32 b_5), (.int .u8 b_6), (.int .u8 b_7), (.int .u8 b_8), (.int .u8 b_9), (.int .u8 b_10), (.int .u8 b_11), (.int .u8 b_12), (.int .u8 b_13), (.int .i64 b_14), (.int .i64 b_15), (.slice (b_16) b_16l b_16c)])] w96 fun e98 w99 =>
    ∃ n100 : Int, ∃ n101 : Int, ∃ n102 : Int, ∃ n103 : Int, ∃ n104 : Int, ∃ n105 : Int, ∃ n106 : Int, ∃ n107 : Int, ∃ n108 : Int, ∃ n109 : Int, ∃ n110 : Int, ∃ n111 : Int, ∃ n112 : Int, ∃ q113 : Option Addr, ∃ k114 : Nat, ∃ k115 : Nat, (e98 = .returned (.agg #[(.int .u8 n100), (.int .u16 n101), (.int .u32 n102), (.int .u8 n103), (.int .u8 n104), (.int .u8 n105), (.int .u8 n106), (.int .u8 n107), (.int .u8 n108), (.int .u8 n109), (.int .u8 n110), (.int .i64 n111), (.int .i64 n112), (.slice (q113) k114 k115)])) ∧
    (X.Kept L97 w96 w99) ∧
    X.CallX Try.prog 25 #[(.pointer (some a)), (.agg #[(.int .u8 n100), (.int .u16 n101), (.int .u32 n102), (.int .u8 n103), (.int .u8 n104), (.int .u8 n105), (.int .u8 n106), (.int .u8 n107), (.int .u8 n108), (.int .u8 n109), (.int .u8 n110), (.int .i64 n111), (.int .i64 n112), (.slice (q113) k114 k115)])] w99 fun e116 w117 =>
     ∃ b118 : Bool, (e116 = .returned (.bool b118)) ∧
     (X.Kept L97 w99 w117) ∧
     R (.returned (.bool b118)) w117
  else
   if (b_0 == 1) = true then
    ∀ w72 : World, ∀ L73 : List Nat, (X.Hid [] w w72) →
    (X.NewL (w).heap.size [] w w72 L73) →
    X.CallX Try.prog 28 #[(.agg #[(.int .u8 b_17), (.int .u16 b_18), (.int .u32 b_19), (.int .u8 b_20), (.int .u8 b_21), (.int .u8 b_22), (.int .u8 b_23), (.int .u8 b_24), (.int .u8 b_25), (.int .u8 b_26), (.int .u8 b_27), (.int .i64 b_28), (.int .i64 b_29), (.int .i64 b_30), (.int .i64 b_31), (.int .u8 b_32), (.string b_33)])] w72 fun e74 w75 =>
     ∃ n76 : Int, ∃ n77 : Int, ∃ n78 : Int, ∃ n79 : Int, ∃ n80 : Int, ∃ n81 : Int, ∃ n82 : Int, ∃ n83 : Int, ∃ n84 : Int, ∃ n85 : Int, ∃ n86 : Int, ∃ n87 : Int, ∃ n88 : Int, ∃ n89 : Int, ∃ n90 : Int, ∃ n91 : Int, ∃ s92 : ByteArray, (e74 = .returned (.agg #[(.int .u8 n76), (.int .u16 n77), (.int .u32 n78), (.int .u8 n79), (.int .u8 n80), (.int .u8 n81), (.int .u8 n82), (.int .u8 n83), (.int .u8 n84), (.int .u8 n85), (.int .u8 n86), (.int .i64 n87), (.int .i64 n88), (.int .i64 n89), (.int .i64 n90), (.int .u8 n91), (.string s92)])) ∧
     (X.Kept L73 w72 w75) ∧
     X.CallX Try.prog 27 #[(.pointer (some a)), (.agg #[(.int .u8 n76), (.int .u16 n77), (.int .u32 n78), (.int .u8 n79), (.int .u8 n80), (.int .u8 n81), (.int .u8 n82), (.int .u8 n83), (.int .u8 n84), (.int .u8 n85), (.int .u8 n86), (.int .i64 n87), (.int .i64 n88), (.int .i64 n89), (.int .i64 n90), (.int .u8 n91), (.string s92)])] w75 fun e93 w94 =>
      ∃ b95 : Bool, (e93 = .returned (.bool b95)) ∧
      (X.Kept L73 w75 w94) ∧
      R (.returned (.bool b95)) w94
   else
    if (b_0 == 2) = true then
     ∃ x42 : X.Facts, (X.FactsW x42 w []) ∧
     ∀ w43 : World, ∀ L44 : List Nat, (X.Hid [] w w43) →
     (X.NewL (w).heap.size [] w w43 L44) →
     X.CallX Try.prog 29 #[(.agg #[(.int .u8 b_56), (.int .u8 b_57), (.int .u16 b_58), (.int .u32 b_59), (.int .u8 b_60), (.int .u8 b_61), (.int .u8 b_62), (.int .u8 b_63), (.int .u8 b_64), (.int .u8 b_65), (.int .u8 b_66), (.int .u32 b_67), (.slice (b_68) b_68l b_68c), (.int .u8 b_69), (.string b_70), (.slice (b_71) b_71l b_71c), (.int .u8 b_72), (.int .u16 b_73)])] w43 fun e45 w46 =>
      ∃ n47 : Int, ∃ n48 : Int, ∃ n49 : Int, ∃ n50 : Int, ∃ n51 : Int, ∃ n52 : Int, ∃ n53 : Int, ∃ n54 : Int, ∃ n55 : Int, ∃ n56 : Int, ∃ n57 : Int, ∃ n58 : Int, ∃ q59 : Option Addr, ∃ k60 : Nat, ∃ k61 : Nat, ∃ n62 : Int, ∃ s63 : ByteArray, ∃ q64 : Option Addr, ∃ k65 : Nat, ∃ k66 : Nat, ∃ n67 : Int, ∃ n68 : Int, (e45 = .returned (.agg #[(.int .u8 n47), (.int .u8 n48), (.int .u16 n49), (.int .u32 n50), (.int .u8 n51), (.int .u8 n52), (.int .u8 n53), (.int .u8 n54), (.int .u8 n55), (.int .u8 n56), (.int .u8 n57), (.int .u32 n58), (.slice (q59) k60 k61), (.int .u8 n62), (.string s63), (.slice (q64) k65 k66), (.int .u8 n67), (.int .u16 n68)])) ∧
      (X.Kept L44 w43 w46) ∧
      (X.FactsW x42 w46 (L44)) ∧
      X.CallX Try.prog 22 #[(.pointer (some a)), (.int .u8 b_2), (.int .i64 b_1), (.agg #[(.int .u8 n47), (.int .u8 n48), (.int .u16 n49), (.int .u32 n50), (.int .u8 n51), (.int .u8 n52), (.int .u8 n53), (.int .u8 n54), (.int .u8 n55), (.int .u8 n56), (.int .u8 n57), (.int .u32 n58), (.slice (q59) k60 k61), (.int .u8 n62), (.string s63), (.slice (q64) k65 k66), (.int .u8 n67), (.int .u16 n68)])] w46 fun e69 w70 =>
       ∃ b71 : Bool, (e69 = .returned (.bool b71)) ∧
       (X.Kept L44 w46 w70) ∧
       (X.FactsW x42 w70 (L44)) ∧
       R (.returned (.bool b71)) w70
    else
     if (b_0 == 3) = true then
      ∀ w16 : World, ∀ L17 : List Nat, (X.Hid [] w w16) →
      (X.NewL (w).heap.size [] w w16 L17) →
      X.CallX Try.prog 31 #[(.agg #[(.int .u8 b_34), (.int .u16 b_35), (.int .u8 b_36), (.int .u16 b_37), (.int .u32 b_38), (.int .u8 b_39), (.int .u8 b_40), (.int .u8 b_41), (.int .u8 b_42), (.int .u8 b_43), (.int .u8 b_44), (.int .u8 b_45), (.int .u8 b_46), (.string b_47), (.int .u8 b_48), (.int .u32 b_49), (.slice (b_50) b_50l b_50c)])] w16 fun e18 w19 =>
       ∃ n20 : Int, ∃ n21 : Int, ∃ n22 : Int, ∃ n23 : Int, ∃ n24 : Int, ∃ n25 : Int, ∃ n26 : Int, ∃ n27 : Int, ∃ n28 : Int, ∃ n29 : Int, ∃ n30 : Int, ∃ n31 : Int, ∃ n32 : Int, ∃ s33 : ByteArray, ∃ n34 : Int, ∃ n35 : Int, ∃ q36 : Option Addr, ∃ k37 : Nat, ∃ k38 : Nat, (e18 = .returned (.agg #[(.int .u8 n20), (.int .u16 n21), (.int .u8 n22), (.int .u16 n23), (.int .u32 n24), (.int .u8 n25), (.int .u8 n26), (.int .u8 n27), (.int .u8 n28), (.int .u8 n29), (.int .u8 n30), (.int .u8 n31), (.int .u8 n32), (.string s33), (.int .u8 n34), (.int .u32 n35), (.slice (q36) k37 k38)])) ∧
       (X.Kept L17 w16 w19) ∧
       X.CallX Try.prog 30 #[(.pointer (some a)), (.agg #[(.int .u8 n20), (.int .u16 n21), (.int .u8 n22), (.int .u16 n23), (.int .u32 n24), (.int .u8 n25), (.int .u8 n26), (.int .u8 n27), (.int .u8 n28), (.int .u8 n29), (.int .u8 n30), (.int .u8 n31), (.int .u8 n32), (.string s33), (.int .u8 n34), (.int .u32 n35), (.slice (q36) k37 k38)])] w19 fun e39 w40 =>
        ∃ b41 : Bool, (e39 = .returned (.bool b41)) ∧
        (X.Kept L17 w19 w40) ∧
        R (.returned (.bool b41)) w40
     else
      if (b_0 == 4) = true then
       ∀ w2 : World, ∀ L3 : List Nat, (X.Hid [] w w2) →
       (X.NewL (w).heap.size [] w w2 L3) →
       X.CallX Try.prog 33 #[(.agg #[(.int .u8 b_51), (.int .u16 b_52), (.int .u8 b_53), (.int .u32 b_54), (.slice (b_55) b_55l b_55c)])] w2 fun e4 w5 =>
        ∃ n6 : Int, ∃ n7 : Int, ∃ n8 : Int, ∃ n9 : Int, ∃ q10 : Option Addr, ∃ k11 : Nat, ∃ k12 : Nat, (e4 = .returned (.agg #[(.int .u8 n6), (.int .u16 n7), (.int .u8 n8), (.int .u32 n9), (.slice (q10) k11 k12)])) ∧
        (X.Kept L3 w2 w5) ∧
        X.CallX Try.prog 32 #[(.pointer (some a)), (.agg #[(.int .u8 n6), (.int .u16 n7), (.int .u8 n8), (.int .u32 n9), (.slice (q10) k11 k12)])] w5 fun e13 w14 =>
         ∃ b15 : Bool, (e13 = .returned (.bool b15)) ∧
         (X.Kept L3 w5 w14) ∧
         R (.returned (.bool b15)) w14
      else
       ∀ w1 : World, (X.Hid [] w w1) →
       R (.returned (.bool false)) w1) :
    Calls Try.prog 10 #[.pointer (some a), .agg #[.int .i64 b_0, .int .i64 b_1, .int .u8 b_2, .int .u8 b_3, .int .u16 b_4, .int .u32 b_5, .int .u8 b_6, .int .u8 b_7, .int .u8 b_8, .int .u8 b_9, .int .u8 b_10, .int .u8 b_11, .int .u8 b_12, .int .u8 b_13, .int .i64 b_14, .int .i64 b_15, .slice b_16 b_16l b_16c, .int .u8 b_17, .int .u16 b_18, .int .u32 b_19, .int .u8 b_20, .int .u8 b_21, .int .u8 b_22, .int .u8 b_23, .int .u8 b_24, .int .u8 b_25, .int .u8 b_26, .int .u8 b_27, .int .i64 b_28, .int .i64 b_29, .int .i64 b_30, .int .i64 b_31, .int .u8 b_32, .string b_33, .int .u8 b_34, .int .u16 b_35, .int .u8 b_36, .int .u16 b_37, .int .u32 b_38, .int .u8 b_39, .int .u8 b_40, .int .u8 b_41, .int .u8 b_42, .int .u8 b_43, .int .u8 b_44, .int .u8 b_45, .int .u8 b_46, .string b_47, .int .u8 b_48, .int .u32 b_49, .slice b_50 b_50l b_50c, .int .u8 b_51, .int .u16 b_52, .int .u8 b_53, .int .u32 b_54, .slice b_55 b_55l b_55c, .int .u8 b_56, .int .u8 b_57, .int .u16 b_58, .int .u32 b_59, .int .u8 b_60, .int .u8 b_61, .int .u8 b_62, .int .u8 b_63, .int .u8 b_64, .int .u8 b_65, .int .u8 b_66, .int .u32 b_67, .slice b_68 b_68l b_68c, .int .u8 b_69, .string b_70, .slice b_71 b_71l b_71c, .int .u8 b_72, .int .u16 b_73]] w R :=
  X.calls_of { isLoc := [3], sym := [], loops := [], joins := [] } Try.func10 (by kernel_rfl) h
end Go.Proofs
