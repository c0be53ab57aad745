import Derived.Test.YtdlfcgkjjlkmgaaXFn
import Derived.Test.YtdlfcgkjjlkmgaaProg
set_option maxRecDepth 100000
set_option linter.unusedVariables false
/- The verification conditions of this seat's functions, as the engine has them: printed by a program of the bench; checked by the kernel. -/
namespace Go.Proofs
open Go
abbrev fn_cont_Table_Clone : Nat := 20
theorem x_cont_Table_Clone (a : Addr) (w : World) (R : Ending → World → Prop) (h :
  X.CallX Try.prog 28 #[(.pointer (some a))] w fun e1 w2 =>
   ∃ b3 : Bool, (e1 = .returned (.bool b3)) ∧
   ((w).heap.size ≤ (w2).heap.size) ∧
   if b3 = true then
    R (.returned (.pointer none)) w2
   else
    ∃ n4 : Int, (World.cell? w2 (a.add 0) = some (.int .u8 n4)) ∧
    X.CallX Try.prog 6 #[(.int .u8 n4)] w2 fun e5 w6 =>
     ∃ q7 : Option Addr, (e5 = .returned (.pointer (q7))) ∧
     ((w2).heap.size ≤ (w6).heap.size) ∧
     ∃ q8 : Option Nat, (World.cell? w6 (a.add 1) = some (.map (q8))) ∧
     ∃ q9 : Option Addr, ∃ w10 : World, (Sem.run Try.prog (Go.Instr.range 89 (.map (q8))) w6 = .ok (.pointer (q9)) w10) ∧
     ((w6).heap.size ≤ (w10).heap.size) ∧
     ∃ x11 : World → List Nat → Prop, ∃ x12 : World → Nat, (x11 w10 []) ∧
     ∀ w13 : World, ∀ L14 : List Nat, (X.LF (w).heap.size w13 L14) →
     (x11 w13 L14) →
     ∃ b15 : Bool, ∃ L16 : List Value, ∃ w17 : World, (Sem.run Try.prog (Go.Instr.next (.pointer (q9)) false 0) w13 = .ok (.tuple ((Value.bool b15 :: L16).toArray)) w17) ∧
     ((w13).heap.size ≤ (w17).heap.size) ∧
     if b15 = true then
      ∃ n18 : Int, ∃ n19 : Int, ∃ n20 : Int, ∃ n21 : Int, ∃ n22 : Int, ∃ n23 : Int, ∃ n24 : Int, ∃ n25 : Int, ∃ n26 : Int, ∃ n27 : Int, ∃ n28 : Int, ∃ n29 : Int, ∃ n30 : Int, ∃ n31 : Int, ∃ n32 : Int, ∃ n33 : Int, ∃ n34 : Int, ∃ n35 : Int, ∃ n36 : Int, ∃ n37 : Int, ∃ n38 : Int, ∃ n39 : Int, ∃ s40 : ByteArray, ∃ s41 : ByteArray, ∃ n42 : Int, ∃ q43 : Option Addr, ∃ k44 : Nat, ∃ k45 : Nat, ∃ n46 : Int, ∃ s47 : ByteArray, ∃ s48 : ByteArray, ∃ s49 : ByteArray, ∃ b50 : Bool, ∃ n51 : Int, ∃ w52 : World, (Sem.run Try.prog (Go.Instr.entry (.pointer (q9))) w17 = .ok (.tuple #[(.agg #[(.int .u8 n18), (.int .u16 n19), (.int .u32 n20), (.int .u8 n21), (.int .u8 n22), (.int .u8 n23), (.int .u8 n24), (.int .u8 n25), (.int .u8 n26), (.int .u8 n27)]), (.agg #[(.int .u8 n28), (.int .u16 n29), (.int .u32 n30), (.int .u8 n31), (.int .u8 n32), (.int .u8 n33), (.int .u8 n34), (.int .u8 n35), (.int .u8 n36), (.int .u8 n37), (.int .u8 n38), (.int .u8 n39), (.string s40), (.string s41), (.int .i64 n42), (.slice (q43) k44 k45), (.int .u8 n46), (.string s47), (.string s48), (.string s49), (.bool b50), (.int .u32 n51)])]) w52) ∧
      ((w17).heap.size ≤ (w52).heap.size) ∧
      ∃ x53 : X.Facts, (X.FactsW x53 w52 []) ∧
      X.onSome (q7) fun p54 =>
      ∃ q55 : Option Nat, (((p54.add 1), [(.map (q55))]) ∈ x53) ∧
      ∀ w56 : World, ∀ L57 : List Nat, (X.Hid [] w52 w56) →
      (X.NewL (w).heap.size [] w52 w56 L57) →
      X.CallX Try.prog 31 #[(.agg #[(.int .u8 n28), (.int .u16 n29), (.int .u32 n30), (.int .u8 n31), (.int .u8 n32), (.int .u8 n33), (.int .u8 n34), (.int .u8 n35), (.int .u8 n36), (.int .u8 n37), (.int .u8 n38), (.int .u8 n39), (.string s40), (.string s41), (.int .i64 n42), (.slice (q43) k44 k45), (.int .u8 n46), (.string s47), (.string s48), (.string s49), (.bool b50), (.int .u32 n51)])] w56 fun e58 w59 =>
       ∃ n60 : Int, ∃ n61 : Int, ∃ n62 : Int, ∃ n63 : Int, ∃ n64 : Int, ∃ n65 : Int, ∃ n66 : Int, ∃ n67 : Int, ∃ n68 : Int, ∃ n69 : Int, ∃ n70 : Int, ∃ n71 : Int, ∃ s72 : ByteArray, ∃ s73 : ByteArray, ∃ n74 : Int, ∃ q75 : Option Addr, ∃ k76 : Nat, ∃ k77 : Nat, ∃ n78 : Int, ∃ s79 : ByteArray, ∃ s80 : ByteArray, ∃ s81 : ByteArray, ∃ b82 : Bool, ∃ n83 : Int, (e58 = .returned (.agg #[(.int .u8 n60), (.int .u16 n61), (.int .u32 n62), (.int .u8 n63), (.int .u8 n64), (.int .u8 n65), (.int .u8 n66), (.int .u8 n67), (.int .u8 n68), (.int .u8 n69), (.int .u8 n70), (.int .u8 n71), (.string s72), (.string s73), (.int .i64 n74), (.slice (q75) k76 k77), (.int .u8 n78), (.string s79), (.string s80), (.string s81), (.bool b82), (.int .u32 n83)])) ∧
       (X.Kept L57 w56 w59) ∧
       (X.FactsW x53 w59 (L57)) ∧
       ∃ w84 : World, (Sem.run Try.prog (Go.Instr.mapUpdate 89 (.map (q55)) (.agg #[(.int .u8 n18), (.int .u16 n19), (.int .u32 n20), (.int .u8 n21), (.int .u8 n22), (.int .u8 n23), (.int .u8 n24), (.int .u8 n25), (.int .u8 n26), (.int .u8 n27)]) (.agg #[(.int .u8 n60), (.int .u16 n61), (.int .u32 n62), (.int .u8 n63), (.int .u8 n64), (.int .u8 n65), (.int .u8 n66), (.int .u8 n67), (.int .u8 n68), (.int .u8 n69), (.int .u8 n70), (.int .u8 n71), (.string s72), (.string s73), (.int .i64 n74), (.slice (q75) k76 k77), (.int .u8 n78), (.string s79), (.string s80), (.string s81), (.bool b82), (.int .u32 n83)])) w59 = .ok (PUnit.unit) w84) ∧
       (X.Kept L57 w59 w84) ∧
       (x11 w84 (L57)) ∧
       Nat.le ((x12 w84) + 1) (x12 w13)
     else
      R (.returned (.pointer (q7))) w17) :
    Calls Try.prog 20 #[.pointer (some a)] w R :=
  X.calls_of { isLoc := [4, 5], sym := [], loops := [(5, .inv [] [] true)], joins := [], ents := [(20, [53, 62])] } Try.func20 (by kernel_rfl) h
abbrev fn_rNew : Nat := 7
theorem x_rNew (a : Int) (w : World) (R : Ending → World → Prop) (h :
  if (decide (a ≥ 4)) = true then
   R (.returned (.pointer none)) w
  else
   R (.returned (.pointer (some ⟨(w).heap.size, 0, none⟩))) (w.alloc (.cells #[(.int .u8 a), (.slice none 0 0)] 80))) :
    Calls Try.prog 7 #[.int .u8 a] w R :=
  X.calls_of { isLoc := [], sym := [], loops := [], joins := [] } Try.func7 (by kernel_rfl) h
abbrev fn_rTChild : Nat := 15
theorem x_rTChild (a : Addr) (b_0 b_1 b_2 b_3 b_4 b_5 b_6 b_7 b_8 b_9 b_10 b_11 : Int) (b_12 b_13 : ByteArray) (b_14 : Int) (b_15 : Option Addr) (b_15l b_15c : Nat) (b_16 : Int) (b_17 b_18 b_19 : ByteArray) (b_20 : Bool) (b_21 : Int) (w : World) (R : Ending → World → Prop) (h :
  ∃ x1 : X.Facts, (X.FactsW x1 w []) ∧
  ∃ n2 : Int, (((a.add 0), [(.int .u8 n2)]) ∈ x1) ∧
  ∀ w3 : World, ∀ L4 : List Nat, (X.Hid [] w w3) →
  (X.NewL (w).heap.size [] w w3 L4) →
  X.CallX Try.prog 45 #[(.agg #[(.int .u8 b_0), (.int .u16 b_1), (.int .u32 b_2), (.int .u8 b_3), (.int .u8 b_4), (.int .u8 b_5), (.int .u8 b_6), (.int .u8 b_7), (.int .u8 b_8), (.int .u8 b_9)]), (.int .u8 n2), (.int .u8 0)] w3 fun e5 w6 =>
   ∃ n7 : Int, ∃ n8 : Int, ∃ n9 : Int, ∃ n10 : Int, ∃ n11 : Int, ∃ n12 : Int, ∃ n13 : Int, ∃ n14 : Int, ∃ n15 : Int, ∃ n16 : Int, ∃ n17 : Int, (e5 = .returned (.tuple #[(.agg #[(.int .u8 n7), (.int .u16 n8), (.int .u32 n9), (.int .u8 n10), (.int .u8 n11), (.int .u8 n12), (.int .u8 n13), (.int .u8 n14), (.int .u8 n15), (.int .u8 n16)]), (.int .i64 n17)])) ∧
   (X.Kept L4 w3 w6) ∧
   ∀ w18 : World, (X.Hid (L4) w6 w18) →
   R (.returned (.tuple #[(.agg #[(.int .u8 n7), (.int .u16 n8), (.int .u32 n9), (.int .u8 n10), (.int .u8 n11), (.int .u8 n12), (.int .u8 n13), (.int .u8 n14), (.int .u8 n15), (.int .u8 n16)]), (.int .i64 n17)])) w18) :
    Calls Try.prog 15 #[.pointer (some a), .agg #[.int .u8 b_0, .int .u16 b_1, .int .u32 b_2, .int .u8 b_3, .int .u8 b_4, .int .u8 b_5, .int .u8 b_6, .int .u8 b_7, .int .u8 b_8, .int .u8 b_9, .int .u8 b_10, .int .u8 b_11, .string b_12, .string b_13, .int .i64 b_14, .slice b_15 b_15l b_15c, .int .u8 b_16, .string b_17, .string b_18, .string b_19, .bool b_20, .int .u32 b_21]] w R :=
  X.calls_of { isLoc := [3, 4], sym := [], loops := [], joins := [], stored := [(1, [4])] } Try.func15 (by kernel_rfl) h
abbrev fn_rTake : Nat := 18
theorem x_rTake (a : Addr) (b_0 b_1 b_2 b_3 b_4 b_5 b_6 b_7 b_8 b_9 : Int) (w : World) (R : Ending → World → Prop) (h :
  ∀ w1 : World, ∀ L2 : List Nat, (X.Hid [] w w1) →
  (X.NewL (w).heap.size [] w w1 L2) →
  X.CallX Try.prog 26 #[(.pointer (some a)), (.agg #[(.int .u8 b_0), (.int .u16 b_1), (.int .u32 b_2), (.int .u8 b_3), (.int .u8 b_4), (.int .u8 b_5), (.int .u8 b_6), (.int .u8 b_7), (.int .u8 b_8), (.int .u8 b_9)])] w1 fun e3 w4 =>
   ∃ n5 : Int, (e3 = .returned (.int .i64 n5)) ∧
   (X.Kept L2 w1 w4) ∧
   if (decide (n5 < 0)) = true then
    ∀ w52 : World, (X.Hid (L2) w4 w52) →
    R (.returned (.tuple #[(.agg #[(.int .u8 0), (.int .u16 0), (.int .u32 0), (.int .u8 0), (.int .u8 0), (.int .u8 0), (.int .u8 0), (.int .u8 0), (.int .u8 0), (.int .u8 0), (.int .u8 0), (.int .u8 0), (.string (ByteArray.mk #[])), (.string (ByteArray.mk #[])), (.int .i64 0), (.slice none 0 0), (.int .u8 0), (.string (ByteArray.mk #[])), (.string (ByteArray.mk #[])), (.string (ByteArray.mk #[])), (.bool false), (.int .u32 0)]), (.bool false)])) w52
   else
    ∃ q6 : Option Addr, ∃ k7 : Nat, ∃ k8 : Nat, (World.cell? w4 (a.add 1) = some (.slice (q6) k7 k8)) ∧
    (¬ ((a.block) ∈ L2)) ∧
    ((0 : Int) ≤ n5) ∧
    (n5 < ((k7 : Nat) : Int)) ∧
    X.onSome (q6) fun p9 =>
    ∃ n10 : Int, ∃ n11 : Int, ∃ n12 : Int, ∃ n13 : Int, ∃ n14 : Int, ∃ n15 : Int, ∃ n16 : Int, ∃ n17 : Int, ∃ n18 : Int, ∃ n19 : Int, ∃ n20 : Int, ∃ n21 : Int, ∃ s22 : ByteArray, ∃ s23 : ByteArray, ∃ n24 : Int, ∃ q25 : Option Addr, ∃ k26 : Nat, ∃ k27 : Nat, ∃ n28 : Int, ∃ s29 : ByteArray, ∃ s30 : ByteArray, ∃ s31 : ByteArray, ∃ b32 : Bool, ∃ n33 : Int, (X.Cells w4 (p9.add ((n5).toNat * 22)) [(.int .u8 n10), (.int .u16 n11), (.int .u32 n12), (.int .u8 n13), (.int .u8 n14), (.int .u8 n15), (.int .u8 n16), (.int .u8 n17), (.int .u8 n18), (.int .u8 n19), (.int .u8 n20), (.int .u8 n21), (.string s22), (.string s23), (.int .i64 n24), (.slice (q25) k26 k27), (.int .u8 n28), (.string s29), (.string s30), (.string s31), (.bool b32), (.int .u32 n33)]) ∧
    (¬ (((p9.add (n5.toNat * 22)).block) ∈ L2)) ∧
    ∃ x34 : X.Facts, (X.FactsW x34 w4 (L2)) ∧
    ∃ q35 : Option Addr, ∃ k36 : Nat, ∃ k37 : Nat, (((a.add 1), [(.slice (q35) k36 k37)]) ∈ x34) ∧
    ((0 : Int) ≤ n5) ∧
    (n5 ≤ ((k37 : Nat) : Int)) ∧
    ∃ q38 : Option Addr, ∃ k39 : Nat, ∃ k40 : Nat, (((a.add 1), [(.slice (q38) k39 k40)]) ∈ x34) ∧
    ((0 : Int) ≤ (IntKind.wrap .i64 (n5 + 1))) ∧
    ((IntKind.wrap .i64 (n5 + 1)) ≤ ((k39 : Nat) : Int)) ∧
    ∀ w41 : World, ∀ L42 : List Nat, (X.Hid (L2) w4 w41) →
    (X.NewL (w).heap.size (L2) w4 w41 L42) →
    (X.FactsW x34 (w41.alloc (.cells #[] 42)) (L42)) ∧
    ∃ q43 : Option Addr, ∃ k44 : Nat, ∃ k45 : Nat, ∃ w46 : World, (Sem.run Try.prog (Go.Builtin.append_ #[78, 78] 78 #[(.slice (some ⟨(w41).heap.size, 0, none⟩) 0 0), (.slice (X.cutA (q35) k37 0 22) (n5).toNat k37)]) (w41.alloc (.cells #[] 42)) = .ok (.slice (q43) k44 k45) w46) ∧
    (X.Kept L42 (w41.alloc (.cells #[] 42)) w46) ∧
    (X.FactsW x34 w46 (L42)) ∧
    ∃ q47 : Option Addr, ∃ k48 : Nat, ∃ k49 : Nat, ∃ w50 : World, (Sem.run Try.prog (Go.Builtin.append_ #[78, 78] 78 #[(.slice (q43) k44 k45), (.slice (X.cutA (q38) k40 ((IntKind.wrap .i64 (n5 + 1))).toNat 22) (k39 - ((IntKind.wrap .i64 (n5 + 1))).toNat) (k40 - ((IntKind.wrap .i64 (n5 + 1))).toNat))]) w46 = .ok (.slice (q47) k48 k49) w50) ∧
    (X.Kept L42 w46 w50) ∧
    (X.FactsW x34 w50 (L42)) ∧
    ((none : Option Nat) = none) ∧
    (World.there w50 (a.block) ((a.off) + 1) 1) ∧
    (¬ ((a.block) ∈ L42)) ∧
    ∀ w51 : World, (X.Hid (L42) (w50.setCells (a.block) ((a.off) + 1) [(.slice (q47) k48 k49)]) w51) →
    R (.returned (.tuple #[(.agg #[(.int .u8 n10), (.int .u16 n11), (.int .u32 n12), (.int .u8 n13), (.int .u8 n14), (.int .u8 n15), (.int .u8 n16), (.int .u8 n17), (.int .u8 n18), (.int .u8 n19), (.int .u8 n20), (.int .u8 n21), (.string s22), (.string s23), (.int .i64 n24), (.slice (q25) k26 k27), (.int .u8 n28), (.string s29), (.string s30), (.string s31), (.bool b32), (.int .u32 n33)]), (.bool true)])) w51) :
    Calls Try.prog 18 #[.pointer (some a), .agg #[.int .u8 b_0, .int .u16 b_1, .int .u32 b_2, .int .u8 b_3, .int .u8 b_4, .int .u8 b_5, .int .u8 b_6, .int .u8 b_7, .int .u8 b_8, .int .u8 b_9]] w R :=
  X.calls_of { isLoc := [3, 4, 7], sym := [], loops := [], joins := [] } Try.func18 (by kernel_rfl) h
abbrev fn_rSame : Nat := 19
theorem x_rSame (a_0 a_1 a_2 a_3 a_4 a_5 a_6 a_7 a_8 a_9 a_10 a_11 : Int) (a_12 a_13 : ByteArray) (a_14 : Int) (a_15 : Option Addr) (a_15l a_15c : Nat) (a_16 : Int) (a_17 a_18 a_19 : ByteArray) (a_20 : Bool) (a_21 b_0 b_1 b_2 b_3 b_4 b_5 b_6 b_7 b_8 b_9 b_10 b_11 : Int) (b_12 b_13 : ByteArray) (b_14 : Int) (b_15 : Option Addr) (b_15l b_15c : Nat) (b_16 : Int) (b_17 b_18 b_19 : ByteArray) (b_20 : Bool) (b_21 : Int) (w : World) (R : Ending → World → Prop) (h :
  if (((((a_0 == b_0) && (a_1 == b_1)) && ((a_2 == b_2) && ((a_3 == b_3) && (((a_4 == b_4) && (a_5 == b_5)) && (((a_6 == b_6) && (a_7 == b_7)) && ((a_8 == b_8) && (a_9 == b_9))))))) && ((a_10 == b_10) && ((a_11 == b_11) && ((a_12 == b_12) && ((a_13 == b_13) && (a_14 == b_14)))))) == true) = true then
   ∀ w2 : World, ∀ L3 : List Nat, (X.Hid [] w w2) →
   (X.NewL (w).heap.size [] w w2 L3) →
   X.CallX Try.prog 47 #[(.slice (a_15) a_15l a_15c), (.slice (b_15) b_15l b_15c)] w2 fun e4 w5 =>
    ∃ b6 : Bool, (e4 = .returned (.bool b6)) ∧
    (X.Kept L3 w2 w5) ∧
    R (.returned (.bool ((((true && b6) && ((a_16 == b_16) && (a_17 == b_17))) && ((a_18 == b_18) && ((a_19 == b_19) && (a_20 == b_20)))) && (a_21 == b_21)))) w5
  else
   ∀ w1 : World, (X.Hid [] w w1) →
   R (.returned (.bool (((false && ((a_16 == b_16) && (a_17 == b_17))) && ((a_18 == b_18) && ((a_19 == b_19) && (a_20 == b_20)))) && (a_21 == b_21)))) w1) :
    Calls Try.prog 19 #[.agg #[.int .u8 a_0, .int .u16 a_1, .int .u32 a_2, .int .u8 a_3, .int .u8 a_4, .int .u8 a_5, .int .u8 a_6, .int .u8 a_7, .int .u8 a_8, .int .u8 a_9, .int .u8 a_10, .int .u8 a_11, .string a_12, .string a_13, .int .i64 a_14, .slice a_15 a_15l a_15c, .int .u8 a_16, .string a_17, .string a_18, .string a_19, .bool a_20, .int .u32 a_21], .agg #[.int .u8 b_0, .int .u16 b_1, .int .u32 b_2, .int .u8 b_3, .int .u8 b_4, .int .u8 b_5, .int .u8 b_6, .int .u8 b_7, .int .u8 b_8, .int .u8 b_9, .int .u8 b_10, .int .u8 b_11, .string b_12, .string b_13, .int .i64 b_14, .slice b_15 b_15l b_15c, .int .u8 b_16, .string b_17, .string b_18, .string b_19, .bool b_20, .int .u32 b_21]] w R :=
  X.calls_of { isLoc := [2, 3], sym := [], loops := [], joins := [] } Try.func19 (by kernel_rfl) h
abbrev fn_rSameAll : Nat := 22
theorem x_rSameAll (a : Option Addr) (al ac : Nat) (b : Option Addr) (bl bc : Nat) (w : World) (R : Ending → World → Prop) (h :
  if (((al : Nat) : Int) != ((bl : Nat) : Int)) = true then
   R (.returned (.bool false)) w
  else
   ∃ x1 : Int → World → List Nat → Prop, ∃ x2 : Int → World → Nat, (x1 0 w []) ∧
   ∀ n3 : Int, ∀ w4 : World, ∀ L5 : List Nat, (X.LF (w).heap.size w4 L5) →
   (x1 n3 w4 L5) →
   if (decide (n3 < ((al : Nat) : Int))) = true then
    ∃ x6 : X.Facts, (X.FactsW x6 w4 []) ∧
    ((0 : Int) ≤ n3) ∧
    (n3 < ((al : Nat) : Int)) ∧
    X.onSome (a) fun p7 =>
    ∃ n8 : Int, ∃ n9 : Int, ∃ n10 : Int, ∃ n11 : Int, ∃ n12 : Int, ∃ n13 : Int, ∃ n14 : Int, ∃ n15 : Int, ∃ n16 : Int, ∃ n17 : Int, ∃ n18 : Int, ∃ n19 : Int, ∃ s20 : ByteArray, ∃ s21 : ByteArray, ∃ n22 : Int, ∃ q23 : Option Addr, ∃ k24 : Nat, ∃ k25 : Nat, ∃ n26 : Int, ∃ s27 : ByteArray, ∃ s28 : ByteArray, ∃ s29 : ByteArray, ∃ b30 : Bool, ∃ n31 : Int, (((p7.add ((n3).toNat * 22)), [(.int .u8 n8), (.int .u16 n9), (.int .u32 n10), (.int .u8 n11), (.int .u8 n12), (.int .u8 n13), (.int .u8 n14), (.int .u8 n15), (.int .u8 n16), (.int .u8 n17), (.int .u8 n18), (.int .u8 n19), (.string s20), (.string s21), (.int .i64 n22), (.slice (q23) k24 k25), (.int .u8 n26), (.string s27), (.string s28), (.string s29), (.bool b30), (.int .u32 n31)]) ∈ x6) ∧
    ((0 : Int) ≤ n3) ∧
    (n3 < ((bl : Nat) : Int)) ∧
    X.onSome (b) fun p32 =>
    ∃ n33 : Int, ∃ n34 : Int, ∃ n35 : Int, ∃ n36 : Int, ∃ n37 : Int, ∃ n38 : Int, ∃ n39 : Int, ∃ n40 : Int, ∃ n41 : Int, ∃ n42 : Int, ∃ n43 : Int, ∃ n44 : Int, ∃ s45 : ByteArray, ∃ s46 : ByteArray, ∃ n47 : Int, ∃ q48 : Option Addr, ∃ k49 : Nat, ∃ k50 : Nat, ∃ n51 : Int, ∃ s52 : ByteArray, ∃ s53 : ByteArray, ∃ s54 : ByteArray, ∃ b55 : Bool, ∃ n56 : Int, (((p32.add ((n3).toNat * 22)), [(.int .u8 n33), (.int .u16 n34), (.int .u32 n35), (.int .u8 n36), (.int .u8 n37), (.int .u8 n38), (.int .u8 n39), (.int .u8 n40), (.int .u8 n41), (.int .u8 n42), (.int .u8 n43), (.int .u8 n44), (.string s45), (.string s46), (.int .i64 n47), (.slice (q48) k49 k50), (.int .u8 n51), (.string s52), (.string s53), (.string s54), (.bool b55), (.int .u32 n56)]) ∈ x6) ∧
    ∀ w57 : World, (X.Hid [] w4 w57) →
    X.CallX Try.prog 19 #[(.agg #[(.int .u8 n8), (.int .u16 n9), (.int .u32 n10), (.int .u8 n11), (.int .u8 n12), (.int .u8 n13), (.int .u8 n14), (.int .u8 n15), (.int .u8 n16), (.int .u8 n17), (.int .u8 n18), (.int .u8 n19), (.string s20), (.string s21), (.int .i64 n22), (.slice (q23) k24 k25), (.int .u8 n26), (.string s27), (.string s28), (.string s29), (.bool b30), (.int .u32 n31)]), (.agg #[(.int .u8 n33), (.int .u16 n34), (.int .u32 n35), (.int .u8 n36), (.int .u8 n37), (.int .u8 n38), (.int .u8 n39), (.int .u8 n40), (.int .u8 n41), (.int .u8 n42), (.int .u8 n43), (.int .u8 n44), (.string s45), (.string s46), (.int .i64 n47), (.slice (q48) k49 k50), (.int .u8 n51), (.string s52), (.string s53), (.string s54), (.bool b55), (.int .u32 n56)])] w57 fun e58 w59 =>
     ∃ b60 : Bool, (e58 = .returned (.bool b60)) ∧
     ((w57).heap.size ≤ (w59).heap.size) ∧
     if (!b60) = true then
      R (.returned (.bool false)) w59
     else
      (x1 (IntKind.wrap .i64 (n3 + 1)) w59 []) ∧
      Nat.le ((x2 (IntKind.wrap .i64 (n3 + 1)) w59) + 1) (x2 n3 w4)
   else
    R (.returned (.bool true)) w4) :
    Calls Try.prog 22 #[.slice a al ac, .slice b bl bc] w R :=
  X.calls_of { isLoc := [], sym := [], loops := [(4, .inv [(5, .int .i64)] [] true)], joins := [] } Try.func22 (by kernel_rfl) h
abbrev fn_rFind : Nat := 26
theorem x_rFind (a : Addr) (b_0 b_1 b_2 b_3 b_4 b_5 b_6 b_7 b_8 b_9 : Int) (w : World) (R : Ending → World → Prop) (h :
  ∀ w1 : World, ∀ L2 : List Nat, (X.Hid [] w w1) →
  (X.NewL (w).heap.size [] w w1 L2) →
  ∃ x3 : Int → World → List Nat → Prop, ∃ x4 : Int → World → Nat, (x3 0 w1 (L2)) ∧
  ∀ n5 : Int, ∀ w6 : World, ∀ L7 : List Nat, (X.LF (w).heap.size w6 L7) →
  (x3 n5 w6 L7) →
  ∃ q8 : Option Addr, ∃ k9 : Nat, ∃ k10 : Nat, (World.cell? w6 (a.add 1) = some (.slice (q8) k9 k10)) ∧
  (¬ ((a.block) ∈ L7)) ∧
  if (decide (n5 < ((k9 : Nat) : Int))) = true then
   ∃ q11 : Option Addr, ∃ k12 : Nat, ∃ k13 : Nat, (World.cell? w6 (a.add 1) = some (.slice (q11) k12 k13)) ∧
   (¬ ((a.block) ∈ L7)) ∧
   ((0 : Int) ≤ n5) ∧
   (n5 < ((k12 : Nat) : Int)) ∧
   X.onSome (q11) fun p14 =>
   ∃ n15 : Int, ∃ n16 : Int, ∃ n17 : Int, ∃ n18 : Int, ∃ n19 : Int, ∃ n20 : Int, ∃ n21 : Int, ∃ n22 : Int, ∃ n23 : Int, ∃ n24 : Int, ∃ n25 : Int, ∃ n26 : Int, ∃ s27 : ByteArray, ∃ s28 : ByteArray, ∃ n29 : Int, ∃ q30 : Option Addr, ∃ k31 : Nat, ∃ k32 : Nat, ∃ n33 : Int, ∃ s34 : ByteArray, ∃ s35 : ByteArray, ∃ s36 : ByteArray, ∃ b37 : Bool, ∃ n38 : Int, (X.Cells w6 (p14.add ((n5).toNat * 22)) [(.int .u8 n15), (.int .u16 n16), (.int .u32 n17), (.int .u8 n18), (.int .u8 n19), (.int .u8 n20), (.int .u8 n21), (.int .u8 n22), (.int .u8 n23), (.int .u8 n24), (.int .u8 n25), (.int .u8 n26), (.string s27), (.string s28), (.int .i64 n29), (.slice (q30) k31 k32), (.int .u8 n33), (.string s34), (.string s35), (.string s36), (.bool b37), (.int .u32 n38)]) ∧
   (¬ (((p14.add (n5.toNat * 22)).block) ∈ L7)) ∧
   X.CallX Try.prog 15 #[(.pointer (some a)), (.agg #[(.int .u8 n15), (.int .u16 n16), (.int .u32 n17), (.int .u8 n18), (.int .u8 n19), (.int .u8 n20), (.int .u8 n21), (.int .u8 n22), (.int .u8 n23), (.int .u8 n24), (.int .u8 n25), (.int .u8 n26), (.string s27), (.string s28), (.int .i64 n29), (.slice (q30) k31 k32), (.int .u8 n33), (.string s34), (.string s35), (.string s36), (.bool b37), (.int .u32 n38)])] w6 fun e39 w40 =>
    ∃ n41 : Int, ∃ n42 : Int, ∃ n43 : Int, ∃ n44 : Int, ∃ n45 : Int, ∃ n46 : Int, ∃ n47 : Int, ∃ n48 : Int, ∃ n49 : Int, ∃ n50 : Int, ∃ n51 : Int, (e39 = .returned (.tuple #[(.agg #[(.int .u8 n41), (.int .u16 n42), (.int .u32 n43), (.int .u8 n44), (.int .u8 n45), (.int .u8 n46), (.int .u8 n47), (.int .u8 n48), (.int .u8 n49), (.int .u8 n50)]), (.int .i64 n51)])) ∧
    (X.Kept L7 w6 w40) ∧
    if ((n51 == 0) && (((n41 == b_0) && (n42 == b_1)) && ((n43 == b_2) && ((n44 == b_3) && (((n45 == b_4) && (n46 == b_5)) && (((n47 == b_6) && (n48 == b_7)) && ((n49 == b_8) && (n50 == b_9)))))))) = true then
     ∀ w54 : World, (X.Hid (L7) w40 w54) →
     R (.returned (.int .i64 n5)) w54
    else
     ∀ w52 : World, ∀ L53 : List Nat, (X.Hid (L7) w40 w52) →
     (X.NewL (w).heap.size (L7) w40 w52 L53) →
     (([(.int .u8 b_0), (.int .u16 b_1), (.int .u32 b_2), (.int .u8 b_3), (.int .u8 b_4), (.int .u8 b_5), (.int .u8 b_6), (.int .u8 b_7), (.int .u8 b_8), (.int .u8 b_9)] : List Value) = [(.int .u8 b_0), (.int .u16 b_1), (.int .u32 b_2), (.int .u8 b_3), (.int .u8 b_4), (.int .u8 b_5), (.int .u8 b_6), (.int .u8 b_7), (.int .u8 b_8), (.int .u8 b_9)]) ∧
     (x3 (IntKind.wrap .i64 (n5 + 1)) w52 (L53)) ∧
     Nat.le ((x4 (IntKind.wrap .i64 (n5 + 1)) w52) + 1) (x4 n5 w6)
  else
   R (.returned (.int .i64 (-1))) w6) :
    Calls Try.prog 26 #[.pointer (some a), .agg #[.int .u8 b_0, .int .u16 b_1, .int .u32 b_2, .int .u8 b_3, .int .u8 b_4, .int .u8 b_5, .int .u8 b_6, .int .u8 b_7, .int .u8 b_8, .int .u8 b_9]] w R :=
  X.calls_of { isLoc := [3, 6], sym := [], loops := [(2, .inv [(5, .int .i64)] [] true)], joins := [] } Try.func26 (by kernel_rfl) h
abbrev fn_rchild : Nat := 36
theorem x_rchild (a : Addr) (b : Int) (w : World) (R : Ending → World → Prop) (h :
  ∃ q1 : Option Addr, ∃ k2 : Nat, ∃ k3 : Nat, (World.cell? w (a.add 1) = some (.slice (q1) k2 k3)) ∧
  ((0 : Int) ≤ b) ∧
  (b < ((k2 : Nat) : Int)) ∧
  X.onSome (q1) fun p4 =>
  ∃ n5 : Int, ∃ n6 : Int, ∃ n7 : Int, ∃ n8 : Int, ∃ n9 : Int, ∃ n10 : Int, ∃ n11 : Int, ∃ n12 : Int, ∃ n13 : Int, ∃ n14 : Int, ∃ n15 : Int, ∃ n16 : Int, ∃ s17 : ByteArray, ∃ s18 : ByteArray, ∃ n19 : Int, ∃ q20 : Option Addr, ∃ k21 : Nat, ∃ k22 : Nat, ∃ n23 : Int, ∃ s24 : ByteArray, ∃ s25 : ByteArray, ∃ s26 : ByteArray, ∃ b27 : Bool, ∃ n28 : Int, (X.Cells w (p4.add ((b).toNat * 22)) [(.int .u8 n5), (.int .u16 n6), (.int .u32 n7), (.int .u8 n8), (.int .u8 n9), (.int .u8 n10), (.int .u8 n11), (.int .u8 n12), (.int .u8 n13), (.int .u8 n14), (.int .u8 n15), (.int .u8 n16), (.string s17), (.string s18), (.int .i64 n19), (.slice (q20) k21 k22), (.int .u8 n23), (.string s24), (.string s25), (.string s26), (.bool b27), (.int .u32 n28)]) ∧
  ∀ w29 : World, ∀ L30 : List Nat, (X.Hid [] w w29) →
  (X.NewL (w).heap.size [] w w29 L30) →
  X.CallX Try.prog 15 #[(.pointer (some a)), (.agg #[(.int .u8 n5), (.int .u16 n6), (.int .u32 n7), (.int .u8 n8), (.int .u8 n9), (.int .u8 n10), (.int .u8 n11), (.int .u8 n12), (.int .u8 n13), (.int .u8 n14), (.int .u8 n15), (.int .u8 n16), (.string s17), (.string s18), (.int .i64 n19), (.slice (q20) k21 k22), (.int .u8 n23), (.string s24), (.string s25), (.string s26), (.bool b27), (.int .u32 n28)])] w29 fun e31 w32 =>
   ∃ n33 : Int, ∃ n34 : Int, ∃ n35 : Int, ∃ n36 : Int, ∃ n37 : Int, ∃ n38 : Int, ∃ n39 : Int, ∃ n40 : Int, ∃ n41 : Int, ∃ n42 : Int, ∃ n43 : Int, (e31 = .returned (.tuple #[(.agg #[(.int .u8 n33), (.int .u16 n34), (.int .u32 n35), (.int .u8 n36), (.int .u8 n37), (.int .u8 n38), (.int .u8 n39), (.int .u8 n40), (.int .u8 n41), (.int .u8 n42)]), (.int .i64 n43)])) ∧
   (X.Kept L30 w29 w32) ∧
   ∀ w44 : World, (X.Hid (L30) w32 w44) →
   R (.returned (.agg #[(.int .u8 n33), (.int .u16 n34), (.int .u32 n35), (.int .u8 n36), (.int .u8 n37), (.int .u8 n38), (.int .u8 n39), (.int .u8 n40), (.int .u8 n41), (.int .u8 n42)])) w44) :
    Calls Try.prog 36 #[.pointer (some a), .int .i64 b] w R :=
  X.calls_of { isLoc := [4, 5], sym := [], loops := [], joins := [] } Try.func36 (by kernel_rfl) h
abbrev fn_r3Right : Nat := 33
theorem x_r3Right (a_0 a_1 : Int) (a_2 a_3 : ByteArray) (a_4 : Int) (w : World) (R : Ending → World → Prop) (h :
  ∀ w1 : World, (X.Hid [] w w1) →
  R (.returned (.bool (((((((decide (a_0 < 4) && decide (a_1 ≤ 4)) && decide ((((a_2.size) : Nat) : Int) ≥ 1)) && decide ((((a_2.size) : Nat) : Int) ≤ 16)) && decide ((((a_3.size) : Nat) : Int) ≤ 64)) && ((a_1 == 1) || ((a_3.toList) == ((ByteArray.mk #[]).toList)))) && decide (a_4 ≥ 0)) && (((a_1 == 2) || (a_1 == 3)) || (a_4 == 0))))) w1) :
    Calls Try.prog 33 #[.agg #[.int .u8 a_0, .int .u8 a_1, .string a_2, .string a_3, .int .i64 a_4]] w R :=
  X.calls_of { isLoc := [1], sym := [], loops := [], joins := [] } Try.func33 (by kernel_rfl) h
abbrev fn_r3RightAll : Nat := 34
theorem x_r3RightAll (a : Option Addr) (al ac : Nat) (w : World) (R : Ending → World → Prop) (h :
  ∃ x1 : Int → World → List Nat → Prop, ∃ x2 : Int → World → Nat, (x1 0 w []) ∧
  ∀ n3 : Int, ∀ w4 : World, ∀ L5 : List Nat, (X.LF (w).heap.size w4 L5) →
  (x1 n3 w4 L5) →
  if (decide (n3 < ((al : Nat) : Int)) && decide (n3 < 10)) = true then
   ((0 : Int) ≤ n3) ∧
   (n3 < ((al : Nat) : Int)) ∧
   X.onSome (a) fun p6 =>
   ∃ n7 : Int, ∃ n8 : Int, ∃ s9 : ByteArray, ∃ s10 : ByteArray, ∃ n11 : Int, (X.Cells w4 (p6.add ((n3).toNat * 5)) [(.int .u8 n7), (.int .u8 n8), (.string s9), (.string s10), (.int .i64 n11)]) ∧
   X.CallX Try.prog 33 #[(.agg #[(.int .u8 n7), (.int .u8 n8), (.string s9), (.string s10), (.int .i64 n11)])] w4 fun e12 w13 =>
    ∃ b14 : Bool, (e12 = .returned (.bool b14)) ∧
    ((w4).heap.size ≤ (w13).heap.size) ∧
    if (!b14) = true then
     R (.returned (.bool false)) w13
    else
     (x1 (IntKind.wrap .i64 (n3 + 1)) w13 []) ∧
     Nat.le ((x2 (IntKind.wrap .i64 (n3 + 1)) w13) + 1) (x2 n3 w4)
  else
   R (.returned (.bool (decide (((al : Nat) : Int) ≥ 1) && decide (((al : Nat) : Int) ≤ 4)))) w4) :
    Calls Try.prog 34 #[.slice a al ac] w R :=
  X.calls_of { isLoc := [], sym := [], loops := [(2, .inv [(3, .int .i64)] [] true)], joins := [] } Try.func34 (by kernel_rfl) h
abbrev fn_r3Same : Nat := 47
theorem x_r3Same (a : Option Addr) (al ac : Nat) (b : Option Addr) (bl bc : Nat) (w : World) (R : Ending → World → Prop) (h :
  if (((al : Nat) : Int) != ((bl : Nat) : Int)) = true then
   R (.returned (.bool false)) w
  else
   ∃ x1 : Int → World → List Nat → Prop, ∃ x2 : Int → World → Nat, (x1 0 w []) ∧
   ∀ n3 : Int, ∀ w4 : World, ∀ L5 : List Nat, (X.LF (w).heap.size w4 L5) →
   (x1 n3 w4 L5) →
   if (decide (n3 < ((al : Nat) : Int))) = true then
    ((0 : Int) ≤ n3) ∧
    (n3 < ((al : Nat) : Int)) ∧
    X.onSome (a) fun p6 =>
    ∃ n7 : Int, ∃ n8 : Int, ∃ s9 : ByteArray, ∃ s10 : ByteArray, ∃ n11 : Int, (X.Cells w4 (p6.add ((n3).toNat * 5)) [(.int .u8 n7), (.int .u8 n8), (.string s9), (.string s10), (.int .i64 n11)]) ∧
    ((0 : Int) ≤ n3) ∧
    (n3 < ((bl : Nat) : Int)) ∧
    X.onSome (b) fun p12 =>
    ∃ n13 : Int, ∃ n14 : Int, ∃ s15 : ByteArray, ∃ s16 : ByteArray, ∃ n17 : Int, (X.Cells w4 (p12.add ((n3).toNat * 5)) [(.int .u8 n13), (.int .u8 n14), (.string s15), (.string s16), (.int .i64 n17)]) ∧
    if (!((n7 == n13) && ((n8 == n14) && ((s9 == s15) && ((s10 == s16) && (n11 == n17)))))) = true then
     ∀ w19 : World, (X.Hid [] w4 w19) →
     R (.returned (.bool false)) w19
    else
     ∀ w18 : World, (X.Hid [] w4 w18) →
     (x1 (IntKind.wrap .i64 (n3 + 1)) w18 []) ∧
     Nat.le ((x2 (IntKind.wrap .i64 (n3 + 1)) w18) + 1) (x2 n3 w4)
   else
    R (.returned (.bool true)) w4) :
    Calls Try.prog 47 #[.slice a al ac, .slice b bl bc] w R :=
  X.calls_of { isLoc := [], sym := [], loops := [(4, .inv [(5, .int .i64)] [] true)], joins := [] } Try.func47 (by kernel_rfl) h
end Go.Proofs
/- The verification conditions of this seat's functions, as the engine has them: printed by a program of the bench; checked by the kernel. -/
namespace Go.Proofs
open Go
abbrev fn_Light15 : Nat := 5
theorem x_Light15 (a_0 a_1 a_2 a_3 a_4 a_5 a_6 a_7 a_8 a_9 a_10 a_11 : Int) (a_12 a_13 : ByteArray) (a_14 : Int) (a_15 : Option Addr) (a_15l a_15c : Nat) (a_16 : Int) (a_17 a_18 a_19 : ByteArray) (a_20 : Bool) (a_21 : Int) (w : World) (R : Ending → World → Prop) (h :
  ∀ w1 : World, ∀ L2 : List Nat, (X.Hid [] w w1) →
  (X.NewL (w).heap.size [] w w1 L2) →
  X.CallX Try.prog 27 #[(.slice (a_15) a_15l a_15c)] w1 fun e3 w4 =>
   ∃ b5 : Bool, (e3 = .returned (.bool b5)) ∧
   (X.Kept L2 w1 w4) ∧
   if (b5 == true) = true then
    X.CallX Try.prog 27 #[(.slice (some ⟨(w4).heap.size, 0, none⟩) 1 1)] (w4.alloc (.cells #[(.int .u8 a_10), (.int .u8 a_11), (.string a_12), (.string a_13), (.int .i64 a_14)] 35)) fun e6 w7 =>
     ∃ b8 : Bool, (e6 = .returned (.bool b8)) ∧
     (X.Kept L2 (w4.alloc (.cells #[(.int .u8 a_10), (.int .u8 a_11), (.string a_12), (.string a_13), (.int .i64 a_14)] 35)) w7) ∧
     R (.returned (.bool ((true && b8) && decide ((IntKind.wrap .i64 ((IntKind.wrap .i64 ((((a_17.size) : Nat) : Int) + (((a_18.size) : Nat) : Int))) + (((a_19.size) : Nat) : Int))) ≤ 3000)))) w7
   else
    R (.returned (.bool (false && decide ((IntKind.wrap .i64 ((IntKind.wrap .i64 ((((a_17.size) : Nat) : Int) + (((a_18.size) : Nat) : Int))) + (((a_19.size) : Nat) : Int))) ≤ 3000)))) w4) :
    Calls Try.prog 5 #[.agg #[.int .u8 a_0, .int .u16 a_1, .int .u32 a_2, .int .u8 a_3, .int .u8 a_4, .int .u8 a_5, .int .u8 a_6, .int .u8 a_7, .int .u8 a_8, .int .u8 a_9, .int .u8 a_10, .int .u8 a_11, .string a_12, .string a_13, .int .i64 a_14, .slice a_15 a_15l a_15c, .int .u8 a_16, .string a_17, .string a_18, .string a_19, .bool a_20, .int .u32 a_21]] w R :=
  X.calls_of { isLoc := [1], sym := [], loops := [], joins := [] } Try.func5 (by kernel_rfl) h
abbrev fn_Light3 : Nat := 27
theorem x_Light3 (a : Option Addr) (al ac : Nat) (w : World) (R : Ending → World → Prop) (h :
  ∃ x1 : Int → Int → World → List Nat → Prop, ∃ x2 : Int → Int → World → Nat, (x1 3000 0 w []) ∧
  ∀ n3 : Int, ∀ n4 : Int, ∀ w5 : World, ∀ L6 : List Nat, (X.LF (w).heap.size w5 L6) →
  (x1 n3 n4 w5 L6) →
  if ((decide (n4 < ((al : Nat) : Int)) && decide (n4 < 300)) && decide (n3 ≥ 0)) = true then
   ((0 : Int) ≤ n4) ∧
   (n4 < ((al : Nat) : Int)) ∧
   X.onSome (a) fun p7 =>
   ∃ s8 : ByteArray, (World.cell? w5 ((p7.add ((n4).toNat * 5)).add 2) = some (.string s8)) ∧
   ((0 : Int) ≤ n4) ∧
   (n4 < ((al : Nat) : Int)) ∧
   X.onSome (a) fun p9 =>
   ∃ s10 : ByteArray, (World.cell? w5 ((p9.add ((n4).toNat * 5)).add 3) = some (.string s10)) ∧
   ∀ w11 : World, (X.Hid [] w5 w11) →
   (x1 (IntKind.wrap .i64 ((IntKind.wrap .i64 ((IntKind.wrap .i64 (n3 - 3)) - (if (4000 : Int) < (((s8.size) : Nat) : Int) then 4000 else (((s8.size) : Nat) : Int)))) - (if (4000 : Int) < (((s10.size) : Nat) : Int) then 4000 else (((s10.size) : Nat) : Int)))) (IntKind.wrap .i64 (n4 + 1)) w11 []) ∧
   Nat.le ((x2 (IntKind.wrap .i64 ((IntKind.wrap .i64 ((IntKind.wrap .i64 (n3 - 3)) - (if (4000 : Int) < (((s8.size) : Nat) : Int) then 4000 else (((s8.size) : Nat) : Int)))) - (if (4000 : Int) < (((s10.size) : Nat) : Int) then 4000 else (((s10.size) : Nat) : Int)))) (IntKind.wrap .i64 (n4 + 1)) w11) + 1) (x2 n3 n4 w5)
  else
   R (.returned (.bool (decide (n3 ≥ 0)))) w5) :
    Calls Try.prog 27 #[.slice a al ac] w R :=
  X.calls_of { isLoc := [], sym := [], loops := [(3, .inv [(3, .int .i64), (4, .int .i64)] [] true)], joins := [] } Try.func27 (by kernel_rfl) h
abbrev fn_one : Nat := 9
theorem x_one (a : Int) (w : World) (R : Ending → World → Prop) (h :
  ∀ w1 : World, ∀ L2 : List Nat, (X.Hid [] w w1) →
  (X.NewL (w).heap.size [] w w1 L2) →
  ∀ w3 : World, (X.Hid (L2) (w1.alloc (.cells #[(.int .u8 1), (.int .u8 2), (.string (ByteArray.mk #[OfNat.ofNat 98])), (.string (ByteArray.mk #[])), (.int .i64 5)] 57)) w3) →
  R (.returned (.agg #[(.int .u8 1), (.int .u16 1), (.int .u32 (IntKind.wrap .u32 (IntKind.wrap .i64 (a + 1)))), (.int .u8 0), (.int .u8 0), (.int .u8 0), (.int .u8 0), (.int .u8 0), (.int .u8 0), (.int .u8 0), (.int .u8 0), (.int .u8 3), (.string (ByteArray.mk #[OfNat.ofNat 97])), (.string (ByteArray.mk #[])), (.int .i64 5), (.slice (some ⟨(w1).heap.size, 0, none⟩) 1 1), (.int .u8 0), (.string (ByteArray.mk #[])), (.string (ByteArray.mk #[])), (.string (ByteArray.mk #[])), (.bool false), (.int .u32 0)])) w3) :
    Calls Try.prog 9 #[.int .i64 a] w R :=
  X.calls_of { isLoc := [2], sym := [], loops := [], joins := [] } Try.func9 (by kernel_rfl) h
abbrev fn_RefC : Nat := 11
theorem x_RefC (a_0 a_1 a_2 a_3 a_4 a_5 a_6 a_7 a_8 a_9 a_10 a_11 : Int) (a_12 a_13 : ByteArray) (a_14 : Int) (a_15 : Option Addr) (a_15l a_15c : Nat) (a_16 : Int) (a_17 a_18 a_19 : ByteArray) (a_20 : Bool) (a_21 : Int) (w : World) (R : Ending → World → Prop) (h :
  ∃ x1 : X.Facts, (X.FactsW x1 w []) ∧
  ∀ w2 : World, ∀ L3 : List Nat, (X.Hid [] w w2) →
  (X.NewL (w).heap.size [] w w2 L3) →
  X.CallX Try.prog 13 #[(.agg #[(.int .u8 a_0), (.int .u16 a_1), (.int .u32 a_2), (.int .u8 a_3), (.int .u8 a_4), (.int .u8 a_5), (.int .u8 a_6), (.int .u8 a_7), (.int .u8 a_8), (.int .u8 a_9)])] w2 fun e4 w5 =>
   ∃ n6 : Int, ∃ n7 : Int, ∃ n8 : Int, ∃ n9 : Int, ∃ n10 : Int, ∃ n11 : Int, ∃ n12 : Int, ∃ n13 : Int, ∃ n14 : Int, ∃ n15 : Int, (e4 = .returned (.agg #[(.int .u8 n6), (.int .u16 n7), (.int .u32 n8), (.int .u8 n9), (.int .u8 n10), (.int .u8 n11), (.int .u8 n12), (.int .u8 n13), (.int .u8 n14), (.int .u8 n15)])) ∧
   (X.Kept L3 w2 w5) ∧
   (X.FactsW x1 w5 (L3)) ∧
   X.CallX Try.prog 37 #[(.agg #[(.int .u8 a_10), (.int .u8 a_11), (.string a_12), (.string a_13), (.int .i64 a_14)])] w5 fun e16 w17 =>
    ∃ n18 : Int, ∃ n19 : Int, ∃ s20 : ByteArray, ∃ s21 : ByteArray, ∃ n22 : Int, (e16 = .returned (.agg #[(.int .u8 n18), (.int .u8 n19), (.string s20), (.string s21), (.int .i64 n22)])) ∧
    (X.Kept L3 w5 w17) ∧
    (X.FactsW x1 w17 (L3)) ∧
    X.CallX Try.prog 38 #[(.slice (a_15) a_15l a_15c)] w17 fun e23 w24 =>
     ∃ q25 : Option Addr, ∃ k26 : Nat, ∃ k27 : Nat, (e23 = .returned (.slice (q25) k26 k27)) ∧
     (X.Kept L3 w17 w24) ∧
     (X.FactsW x1 w24 (L3)) ∧
     X.CallX Try.prog 39 #[(.agg #[(.int .u8 a_16), (.string a_17)])] w24 fun e28 w29 =>
      ∃ n30 : Int, ∃ s31 : ByteArray, (e28 = .returned (.agg #[(.int .u8 n30), (.string s31)])) ∧
      (X.Kept L3 w24 w29) ∧
      (X.FactsW x1 w29 (L3)) ∧
      ∀ w32 : World, (X.Hid (L3) w29 w32) →
      R (.returned (.agg #[(.int .u8 n6), (.int .u16 n7), (.int .u32 n8), (.int .u8 n9), (.int .u8 n10), (.int .u8 n11), (.int .u8 n12), (.int .u8 n13), (.int .u8 n14), (.int .u8 n15), (.int .u8 n18), (.int .u8 n19), (.string s20), (.string s21), (.int .i64 n22), (.slice (q25) k26 k27), (.int .u8 n30), (.string s31), (.string a_18), (.string a_19), (.bool a_20), (.int .u32 a_21)])) w32) :
    Calls Try.prog 11 #[.agg #[.int .u8 a_0, .int .u16 a_1, .int .u32 a_2, .int .u8 a_3, .int .u8 a_4, .int .u8 a_5, .int .u8 a_6, .int .u8 a_7, .int .u8 a_8, .int .u8 a_9, .int .u8 a_10, .int .u8 a_11, .string a_12, .string a_13, .int .i64 a_14, .slice a_15 a_15l a_15c, .int .u8 a_16, .string a_17, .string a_18, .string a_19, .bool a_20, .int .u32 a_21]] w R :=
  X.calls_of { isLoc := [1, 2], sym := [], loops := [], joins := [], stored := [(1, [2])] } Try.func11 (by kernel_rfl) h
abbrev fn_OwnC : Nat := 12
theorem x_OwnC (a_0 a_1 a_2 a_3 a_4 a_5 a_6 a_7 a_8 a_9 a_10 a_11 : Int) (a_12 a_13 : ByteArray) (a_14 : Int) (a_15 : Option Addr) (a_15l a_15c : Nat) (a_16 : Int) (a_17 a_18 a_19 : ByteArray) (a_20 : Bool) (a_21 : Int) (w : World) (R : Ending → World → Prop) (h :
  ∃ x1 : X.Facts, (X.FactsW x1 w []) ∧
  (∀ w2 : World, ∀ L3 : List Nat, (X.Hid [] w w2) →
   (X.NewL (w).heap.size [] w w2 L3) →
   X.CallX Try.prog 17 #[(.agg #[(.int .u8 a_0), (.int .u16 a_1), (.int .u32 a_2), (.int .u8 a_3), (.int .u8 a_4), (.int .u8 a_5), (.int .u8 a_6), (.int .u8 a_7), (.int .u8 a_8), (.int .u8 a_9)])] w2 fun e4 w5 =>
    ∃ n6 : Int, ∃ n7 : Int, ∃ n8 : Int, ∃ n9 : Int, ∃ n10 : Int, ∃ n11 : Int, ∃ n12 : Int, ∃ n13 : Int, ∃ n14 : Int, ∃ n15 : Int, (e4 = .returned (.agg #[(.int .u8 n6), (.int .u16 n7), (.int .u32 n8), (.int .u8 n9), (.int .u8 n10), (.int .u8 n11), (.int .u8 n12), (.int .u8 n13), (.int .u8 n14), (.int .u8 n15)])) ∧
    (X.Kept L3 w2 w5) ∧
    (X.FactsW x1 w5 (L3)) ∧
    ∃ x16 : X.Facts, (X.FactsW x16 w5 (L3)) ∧
    (∀ x17 : Addr × List Value, (x17 ∈ x1) →
     x17 ∈ x16) ∧
    (X.CallX Try.prog 40 #[(.agg #[(.int .u8 a_10), (.int .u8 a_11), (.string a_12), (.string a_13), (.int .i64 a_14)])] w5 fun e18 w19 =>
      ∃ n20 : Int, ∃ n21 : Int, ∃ s22 : ByteArray, ∃ s23 : ByteArray, ∃ n24 : Int, (e18 = .returned (.agg #[(.int .u8 n20), (.int .u8 n21), (.string s22), (.string s23), (.int .i64 n24)])) ∧
      (X.Kept L3 w5 w19) ∧
      (X.FactsW x16 w19 (L3)) ∧
      ∃ x25 : X.Facts, (X.FactsW x25 w19 (L3)) ∧
      (∀ x26 : Addr × List Value, (x26 ∈ x16) →
       x26 ∈ x25) ∧
      (X.CallX Try.prog 41 #[(.slice (a_15) a_15l a_15c)] w19 fun e27 w28 =>
        ∃ q29 : Option Addr, ∃ k30 : Nat, ∃ k31 : Nat, (e27 = .returned (.slice (q29) k30 k31)) ∧
        (X.Kept L3 w19 w28) ∧
        (X.FactsW x25 w28 (L3)) ∧
        ∃ x32 : X.Facts, (X.FactsW x32 w28 (L3)) ∧
        (∀ x33 : Addr × List Value, (x33 ∈ x25) →
         x33 ∈ x32) ∧
        (X.CallX Try.prog 42 #[(.agg #[(.int .u8 a_16), (.string a_17)])] w28 fun e34 w35 =>
          ∃ n36 : Int, ∃ s37 : ByteArray, (e34 = .returned (.agg #[(.int .u8 n36), (.string s37)])) ∧
          (X.Kept L3 w28 w35) ∧
          (X.FactsW x32 w35 (L3)) ∧
          ∃ x38 : X.Facts, (X.FactsW x38 w35 (L3)) ∧
          (∀ x39 : Addr × List Value, (x39 ∈ x32) →
           x39 ∈ x38) ∧
          (X.FactsW x38 (w35.alloc (.cells #[(.string a_18), (.string a_19), (.bool a_20)] 40)) (L3)) ∧
          ∃ x40 : X.Facts, (X.FactsW x40 (w35.alloc (.cells #[(.string a_18), (.string a_19), (.bool a_20)] 40)) (L3)) ∧
          (∀ x41 : Addr × List Value, (x41 ∈ x38) →
           x41 ∈ x40) ∧
          X.CallX Try.prog 43 #[(.slice (some ⟨(w35).heap.size, 0, none⟩) 1 1)] (w35.alloc (.cells #[(.string a_18), (.string a_19), (.bool a_20)] 40)) fun e42 w43 =>
           ∃ q44 : Option Addr, ∃ k45 : Nat, ∃ k46 : Nat, (e42 = .returned (.slice (q44) k45 k46)) ∧
           (X.Kept L3 (w35.alloc (.cells #[(.string a_18), (.string a_19), (.bool a_20)] 40)) w43) ∧
           (X.FactsW x40 w43 (L3)) ∧
           ∃ x47 : X.Facts, (X.FactsW x47 w43 (L3)) ∧
           (∀ x48 : Addr × List Value, (x48 ∈ x40) →
            x48 ∈ x47) ∧
           ((0 : Int) ≤ 0) ∧
           ((0 : Int) < ((k45 : Nat) : Int)) ∧
           X.onSome (q44) fun p49 =>
           ∃ s50 : ByteArray, ∃ s51 : ByteArray, ∃ b52 : Bool, (((p49.add 0), [(.string s50), (.string s51), (.bool b52)]) ∈ x47) ∧
           ∀ w53 : World, (X.Hid (L3) w43 w53) →
           R (.returned (.agg #[(.int .u8 n6), (.int .u16 n7), (.int .u32 n8), (.int .u8 n9), (.int .u8 n10), (.int .u8 n11), (.int .u8 n12), (.int .u8 n13), (.int .u8 n14), (.int .u8 n15), (.int .u8 n20), (.int .u8 n21), (.string s22), (.string s23), (.int .i64 n24), (.slice (q29) k30 k31), (.int .u8 n36), (.string s37), (.string s50), (.string s51), (.bool b52), (.int .u32 a_21)])) w53) ∧
        (X.FactsW x32 (w28.alloc (.cells #[(.string a_18), (.string a_19), (.bool a_20)] 40)) (L3)) ∧
        ∃ x54 : X.Facts, (X.FactsW x54 (w28.alloc (.cells #[(.string a_18), (.string a_19), (.bool a_20)] 40)) (L3)) ∧
        (∀ x55 : Addr × List Value, (x55 ∈ x32) →
         x55 ∈ x54) ∧
        X.CallX Try.prog 42 #[(.agg #[(.int .u8 a_16), (.string a_17)])] (w28.alloc (.cells #[(.string a_18), (.string a_19), (.bool a_20)] 40)) fun e56 w57 =>
         ∃ n58 : Int, ∃ s59 : ByteArray, (e56 = .returned (.agg #[(.int .u8 n58), (.string s59)])) ∧
         (X.Kept L3 (w28.alloc (.cells #[(.string a_18), (.string a_19), (.bool a_20)] 40)) w57) ∧
         (X.FactsW x54 w57 (L3)) ∧
         ∃ x60 : X.Facts, (X.FactsW x60 w57 (L3)) ∧
         (∀ x61 : Addr × List Value, (x61 ∈ x54) →
          x61 ∈ x60) ∧
         X.CallX Try.prog 43 #[(.slice (some ⟨(w28).heap.size, 0, none⟩) 1 1)] w57 fun e62 w63 =>
          ∃ q64 : Option Addr, ∃ k65 : Nat, ∃ k66 : Nat, (e62 = .returned (.slice (q64) k65 k66)) ∧
          (X.Kept L3 w57 w63) ∧
          (X.FactsW x60 w63 (L3)) ∧
          ∃ x67 : X.Facts, (X.FactsW x67 w63 (L3)) ∧
          (∀ x68 : Addr × List Value, (x68 ∈ x60) →
           x68 ∈ x67) ∧
          ((0 : Int) ≤ 0) ∧
          ((0 : Int) < ((k65 : Nat) : Int)) ∧
          X.onSome (q64) fun p69 =>
          ∃ s70 : ByteArray, ∃ s71 : ByteArray, ∃ b72 : Bool, (((p69.add 0), [(.string s70), (.string s71), (.bool b72)]) ∈ x67) ∧
          ∀ w73 : World, (X.Hid (L3) w63 w73) →
          R (.returned (.agg #[(.int .u8 n6), (.int .u16 n7), (.int .u32 n8), (.int .u8 n9), (.int .u8 n10), (.int .u8 n11), (.int .u8 n12), (.int .u8 n13), (.int .u8 n14), (.int .u8 n15), (.int .u8 n20), (.int .u8 n21), (.string s22), (.string s23), (.int .i64 n24), (.slice (q29) k30 k31), (.int .u8 n58), (.string s59), (.string s70), (.string s71), (.bool b72), (.int .u32 a_21)])) w73) ∧
      (X.FactsW x25 (w19.alloc (.cells #[(.string a_18), (.string a_19), (.bool a_20)] 40)) (L3)) ∧
      ∃ x74 : X.Facts, (X.FactsW x74 (w19.alloc (.cells #[(.string a_18), (.string a_19), (.bool a_20)] 40)) (L3)) ∧
      (∀ x75 : Addr × List Value, (x75 ∈ x25) →
       x75 ∈ x74) ∧
      X.CallX Try.prog 41 #[(.slice (a_15) a_15l a_15c)] (w19.alloc (.cells #[(.string a_18), (.string a_19), (.bool a_20)] 40)) fun e76 w77 =>
       ∃ q78 : Option Addr, ∃ k79 : Nat, ∃ k80 : Nat, (e76 = .returned (.slice (q78) k79 k80)) ∧
       (X.Kept L3 (w19.alloc (.cells #[(.string a_18), (.string a_19), (.bool a_20)] 40)) w77) ∧
       (X.FactsW x74 w77 (L3)) ∧
       ∃ x81 : X.Facts, (X.FactsW x81 w77 (L3)) ∧
       (∀ x82 : Addr × List Value, (x82 ∈ x74) →
        x82 ∈ x81) ∧
       X.CallX Try.prog 42 #[(.agg #[(.int .u8 a_16), (.string a_17)])] w77 fun e83 w84 =>
        ∃ n85 : Int, ∃ s86 : ByteArray, (e83 = .returned (.agg #[(.int .u8 n85), (.string s86)])) ∧
        (X.Kept L3 w77 w84) ∧
        (X.FactsW x81 w84 (L3)) ∧
        ∃ x87 : X.Facts, (X.FactsW x87 w84 (L3)) ∧
        (∀ x88 : Addr × List Value, (x88 ∈ x81) →
         x88 ∈ x87) ∧
        X.CallX Try.prog 43 #[(.slice (some ⟨(w19).heap.size, 0, none⟩) 1 1)] w84 fun e89 w90 =>
         ∃ q91 : Option Addr, ∃ k92 : Nat, ∃ k93 : Nat, (e89 = .returned (.slice (q91) k92 k93)) ∧
         (X.Kept L3 w84 w90) ∧
         (X.FactsW x87 w90 (L3)) ∧
         ∃ x94 : X.Facts, (X.FactsW x94 w90 (L3)) ∧
         (∀ x95 : Addr × List Value, (x95 ∈ x87) →
          x95 ∈ x94) ∧
         ((0 : Int) ≤ 0) ∧
         ((0 : Int) < ((k92 : Nat) : Int)) ∧
         X.onSome (q91) fun p96 =>
         ∃ s97 : ByteArray, ∃ s98 : ByteArray, ∃ b99 : Bool, (((p96.add 0), [(.string s97), (.string s98), (.bool b99)]) ∈ x94) ∧
         ∀ w100 : World, (X.Hid (L3) w90 w100) →
         R (.returned (.agg #[(.int .u8 n6), (.int .u16 n7), (.int .u32 n8), (.int .u8 n9), (.int .u8 n10), (.int .u8 n11), (.int .u8 n12), (.int .u8 n13), (.int .u8 n14), (.int .u8 n15), (.int .u8 n20), (.int .u8 n21), (.string s22), (.string s23), (.int .i64 n24), (.slice (q78) k79 k80), (.int .u8 n85), (.string s86), (.string s97), (.string s98), (.bool b99), (.int .u32 a_21)])) w100) ∧
    (X.FactsW x16 (w5.alloc (.cells #[(.string a_18), (.string a_19), (.bool a_20)] 40)) (L3)) ∧
    ∃ x101 : X.Facts, (X.FactsW x101 (w5.alloc (.cells #[(.string a_18), (.string a_19), (.bool a_20)] 40)) (L3)) ∧
    (∀ x102 : Addr × List Value, (x102 ∈ x16) →
     x102 ∈ x101) ∧
    X.CallX Try.prog 40 #[(.agg #[(.int .u8 a_10), (.int .u8 a_11), (.string a_12), (.string a_13), (.int .i64 a_14)])] (w5.alloc (.cells #[(.string a_18), (.string a_19), (.bool a_20)] 40)) fun e103 w104 =>
     ∃ n105 : Int, ∃ n106 : Int, ∃ s107 : ByteArray, ∃ s108 : ByteArray, ∃ n109 : Int, (e103 = .returned (.agg #[(.int .u8 n105), (.int .u8 n106), (.string s107), (.string s108), (.int .i64 n109)])) ∧
     (X.Kept L3 (w5.alloc (.cells #[(.string a_18), (.string a_19), (.bool a_20)] 40)) w104) ∧
     (X.FactsW x101 w104 (L3)) ∧
     ∃ x110 : X.Facts, (X.FactsW x110 w104 (L3)) ∧
     (∀ x111 : Addr × List Value, (x111 ∈ x101) →
      x111 ∈ x110) ∧
     X.CallX Try.prog 41 #[(.slice (a_15) a_15l a_15c)] w104 fun e112 w113 =>
      ∃ q114 : Option Addr, ∃ k115 : Nat, ∃ k116 : Nat, (e112 = .returned (.slice (q114) k115 k116)) ∧
      (X.Kept L3 w104 w113) ∧
      (X.FactsW x110 w113 (L3)) ∧
      ∃ x117 : X.Facts, (X.FactsW x117 w113 (L3)) ∧
      (∀ x118 : Addr × List Value, (x118 ∈ x110) →
       x118 ∈ x117) ∧
      X.CallX Try.prog 42 #[(.agg #[(.int .u8 a_16), (.string a_17)])] w113 fun e119 w120 =>
       ∃ n121 : Int, ∃ s122 : ByteArray, (e119 = .returned (.agg #[(.int .u8 n121), (.string s122)])) ∧
       (X.Kept L3 w113 w120) ∧
       (X.FactsW x117 w120 (L3)) ∧
       ∃ x123 : X.Facts, (X.FactsW x123 w120 (L3)) ∧
       (∀ x124 : Addr × List Value, (x124 ∈ x117) →
        x124 ∈ x123) ∧
       X.CallX Try.prog 43 #[(.slice (some ⟨(w5).heap.size, 0, none⟩) 1 1)] w120 fun e125 w126 =>
        ∃ q127 : Option Addr, ∃ k128 : Nat, ∃ k129 : Nat, (e125 = .returned (.slice (q127) k128 k129)) ∧
        (X.Kept L3 w120 w126) ∧
        (X.FactsW x123 w126 (L3)) ∧
        ∃ x130 : X.Facts, (X.FactsW x130 w126 (L3)) ∧
        (∀ x131 : Addr × List Value, (x131 ∈ x123) →
         x131 ∈ x130) ∧
        ((0 : Int) ≤ 0) ∧
        ((0 : Int) < ((k128 : Nat) : Int)) ∧
        X.onSome (q127) fun p132 =>
        ∃ s133 : ByteArray, ∃ s134 : ByteArray, ∃ b135 : Bool, (((p132.add 0), [(.string s133), (.string s134), (.bool b135)]) ∈ x130) ∧
        ∀ w136 : World, (X.Hid (L3) w126 w136) →
        R (.returned (.agg #[(.int .u8 n6), (.int .u16 n7), (.int .u32 n8), (.int .u8 n9), (.int .u8 n10), (.int .u8 n11), (.int .u8 n12), (.int .u8 n13), (.int .u8 n14), (.int .u8 n15), (.int .u8 n105), (.int .u8 n106), (.string s107), (.string s108), (.int .i64 n109), (.slice (q114) k115 k116), (.int .u8 n121), (.string s122), (.string s133), (.string s134), (.bool b135), (.int .u32 a_21)])) w136) ∧
  ∀ w137 : World, ∀ L138 : List Nat, (X.Hid [] w w137) →
  (X.NewL (w).heap.size [] w w137 L138) →
  (X.FactsW x1 (w137.alloc (.cells #[(.string a_18), (.string a_19), (.bool a_20)] 40)) (L138)) ∧
  ∃ x139 : X.Facts, (X.FactsW x139 (w137.alloc (.cells #[(.string a_18), (.string a_19), (.bool a_20)] 40)) (L138)) ∧
  (∀ x140 : Addr × List Value, (x140 ∈ x1) →
   x140 ∈ x139) ∧
  X.CallX Try.prog 17 #[(.agg #[(.int .u8 a_0), (.int .u16 a_1), (.int .u32 a_2), (.int .u8 a_3), (.int .u8 a_4), (.int .u8 a_5), (.int .u8 a_6), (.int .u8 a_7), (.int .u8 a_8), (.int .u8 a_9)])] (w137.alloc (.cells #[(.string a_18), (.string a_19), (.bool a_20)] 40)) fun e141 w142 =>
   ∃ n143 : Int, ∃ n144 : Int, ∃ n145 : Int, ∃ n146 : Int, ∃ n147 : Int, ∃ n148 : Int, ∃ n149 : Int, ∃ n150 : Int, ∃ n151 : Int, ∃ n152 : Int, (e141 = .returned (.agg #[(.int .u8 n143), (.int .u16 n144), (.int .u32 n145), (.int .u8 n146), (.int .u8 n147), (.int .u8 n148), (.int .u8 n149), (.int .u8 n150), (.int .u8 n151), (.int .u8 n152)])) ∧
   (X.Kept L138 (w137.alloc (.cells #[(.string a_18), (.string a_19), (.bool a_20)] 40)) w142) ∧
   (X.FactsW x139 w142 (L138)) ∧
   ∃ x153 : X.Facts, (X.FactsW x153 w142 (L138)) ∧
   (∀ x154 : Addr × List Value, (x154 ∈ x139) →
    x154 ∈ x153) ∧
   X.CallX Try.prog 40 #[(.agg #[(.int .u8 a_10), (.int .u8 a_11), (.string a_12), (.string a_13), (.int .i64 a_14)])] w142 fun e155 w156 =>
    ∃ n157 : Int, ∃ n158 : Int, ∃ s159 : ByteArray, ∃ s160 : ByteArray, ∃ n161 : Int, (e155 = .returned (.agg #[(.int .u8 n157), (.int .u8 n158), (.string s159), (.string s160), (.int .i64 n161)])) ∧
    (X.Kept L138 w142 w156) ∧
    (X.FactsW x153 w156 (L138)) ∧
    ∃ x162 : X.Facts, (X.FactsW x162 w156 (L138)) ∧
    (∀ x163 : Addr × List Value, (x163 ∈ x153) →
     x163 ∈ x162) ∧
    X.CallX Try.prog 41 #[(.slice (a_15) a_15l a_15c)] w156 fun e164 w165 =>
     ∃ q166 : Option Addr, ∃ k167 : Nat, ∃ k168 : Nat, (e164 = .returned (.slice (q166) k167 k168)) ∧
     (X.Kept L138 w156 w165) ∧
     (X.FactsW x162 w165 (L138)) ∧
     ∃ x169 : X.Facts, (X.FactsW x169 w165 (L138)) ∧
     (∀ x170 : Addr × List Value, (x170 ∈ x162) →
      x170 ∈ x169) ∧
     X.CallX Try.prog 42 #[(.agg #[(.int .u8 a_16), (.string a_17)])] w165 fun e171 w172 =>
      ∃ n173 : Int, ∃ s174 : ByteArray, (e171 = .returned (.agg #[(.int .u8 n173), (.string s174)])) ∧
      (X.Kept L138 w165 w172) ∧
      (X.FactsW x169 w172 (L138)) ∧
      ∃ x175 : X.Facts, (X.FactsW x175 w172 (L138)) ∧
      (∀ x176 : Addr × List Value, (x176 ∈ x169) →
       x176 ∈ x175) ∧
      X.CallX Try.prog 43 #[(.slice (some ⟨(w137).heap.size, 0, none⟩) 1 1)] w172 fun e177 w178 =>
       ∃ q179 : Option Addr, ∃ k180 : Nat, ∃ k181 : Nat, (e177 = .returned (.slice (q179) k180 k181)) ∧
       (X.Kept L138 w172 w178) ∧
       (X.FactsW x175 w178 (L138)) ∧
       ∃ x182 : X.Facts, (X.FactsW x182 w178 (L138)) ∧
       (∀ x183 : Addr × List Value, (x183 ∈ x175) →
        x183 ∈ x182) ∧
       ((0 : Int) ≤ 0) ∧
       ((0 : Int) < ((k180 : Nat) : Int)) ∧
       X.onSome (q179) fun p184 =>
       ∃ s185 : ByteArray, ∃ s186 : ByteArray, ∃ b187 : Bool, (((p184.add 0), [(.string s185), (.string s186), (.bool b187)]) ∈ x182) ∧
       ∀ w188 : World, (X.Hid (L138) w178 w188) →
       R (.returned (.agg #[(.int .u8 n143), (.int .u16 n144), (.int .u32 n145), (.int .u8 n146), (.int .u8 n147), (.int .u8 n148), (.int .u8 n149), (.int .u8 n150), (.int .u8 n151), (.int .u8 n152), (.int .u8 n157), (.int .u8 n158), (.string s159), (.string s160), (.int .i64 n161), (.slice (q166) k167 k168), (.int .u8 n173), (.string s174), (.string s185), (.string s186), (.bool b187), (.int .u32 a_21)])) w188) :
    Calls Try.prog 12 #[.agg #[.int .u8 a_0, .int .u16 a_1, .int .u32 a_2, .int .u8 a_3, .int .u8 a_4, .int .u8 a_5, .int .u8 a_6, .int .u8 a_7, .int .u8 a_8, .int .u8 a_9, .int .u8 a_10, .int .u8 a_11, .string a_12, .string a_13, .int .i64 a_14, .slice a_15 a_15l a_15c, .int .u8 a_16, .string a_17, .string a_18, .string a_19, .bool a_20, .int .u32 a_21]] w R :=
  X.calls_of { isLoc := [1, 2], sym := [], loops := [], joins := [], stored := [(1, [2])] } Try.func12 (by kernel_rfl) h
abbrev fn_RefsC : Nat := 23
theorem x_RefsC (a : Option Addr) (al ac : Nat) (w : World) (R : Ending → World → Prop) (h :
  ∃ x1 : Option Addr → Nat → Nat → Int → World → List Nat → Prop, ∃ x2 : Option Addr → Nat → Nat → Int → World → Nat, (x1 (none) 0 0 0 w []) ∧
  ∀ q3 : Option Addr, ∀ k4 : Nat, ∀ k5 : Nat, ∀ n6 : Int, ∀ w7 : World, ∀ L8 : List Nat, (X.LF (w).heap.size w7 L8) →
  (x1 q3 k4 k5 n6 w7 L8) →
  if (decide (n6 < ((al : Nat) : Int))) = true then
   ((0 : Int) ≤ n6) ∧
   (n6 < ((al : Nat) : Int)) ∧
   X.onSome (a) fun p9 =>
   ∃ n10 : Int, ∃ n11 : Int, ∃ n12 : Int, ∃ n13 : Int, ∃ n14 : Int, ∃ n15 : Int, ∃ n16 : Int, ∃ n17 : Int, ∃ n18 : Int, ∃ n19 : Int, ∃ n20 : Int, ∃ n21 : Int, ∃ s22 : ByteArray, ∃ s23 : ByteArray, ∃ n24 : Int, ∃ q25 : Option Addr, ∃ k26 : Nat, ∃ k27 : Nat, ∃ n28 : Int, ∃ s29 : ByteArray, ∃ s30 : ByteArray, ∃ s31 : ByteArray, ∃ b32 : Bool, ∃ n33 : Int, (X.Cells w7 (p9.add ((n6).toNat * 22)) [(.int .u8 n10), (.int .u16 n11), (.int .u32 n12), (.int .u8 n13), (.int .u8 n14), (.int .u8 n15), (.int .u8 n16), (.int .u8 n17), (.int .u8 n18), (.int .u8 n19), (.int .u8 n20), (.int .u8 n21), (.string s22), (.string s23), (.int .i64 n24), (.slice (q25) k26 k27), (.int .u8 n28), (.string s29), (.string s30), (.string s31), (.bool b32), (.int .u32 n33)]) ∧
   X.CallX Try.prog 11 #[(.agg #[(.int .u8 n10), (.int .u16 n11), (.int .u32 n12), (.int .u8 n13), (.int .u8 n14), (.int .u8 n15), (.int .u8 n16), (.int .u8 n17), (.int .u8 n18), (.int .u8 n19), (.int .u8 n20), (.int .u8 n21), (.string s22), (.string s23), (.int .i64 n24), (.slice (q25) k26 k27), (.int .u8 n28), (.string s29), (.string s30), (.string s31), (.bool b32), (.int .u32 n33)])] w7 fun e34 w35 =>
    ∃ n36 : Int, ∃ n37 : Int, ∃ n38 : Int, ∃ n39 : Int, ∃ n40 : Int, ∃ n41 : Int, ∃ n42 : Int, ∃ n43 : Int, ∃ n44 : Int, ∃ n45 : Int, ∃ n46 : Int, ∃ n47 : Int, ∃ s48 : ByteArray, ∃ s49 : ByteArray, ∃ n50 : Int, ∃ q51 : Option Addr, ∃ k52 : Nat, ∃ k53 : Nat, ∃ n54 : Int, ∃ s55 : ByteArray, ∃ s56 : ByteArray, ∃ s57 : ByteArray, ∃ b58 : Bool, ∃ n59 : Int, (e34 = .returned (.agg #[(.int .u8 n36), (.int .u16 n37), (.int .u32 n38), (.int .u8 n39), (.int .u8 n40), (.int .u8 n41), (.int .u8 n42), (.int .u8 n43), (.int .u8 n44), (.int .u8 n45), (.int .u8 n46), (.int .u8 n47), (.string s48), (.string s49), (.int .i64 n50), (.slice (q51) k52 k53), (.int .u8 n54), (.string s55), (.string s56), (.string s57), (.bool b58), (.int .u32 n59)])) ∧
    ((w7).heap.size ≤ (w35).heap.size) ∧
    ∃ q60 : Option Addr, ∃ k61 : Nat, ∃ k62 : Nat, ∃ w63 : World, (Sem.run Try.prog (Go.Builtin.append_ #[78, 78] 78 #[(.slice (q3) k4 k5), (.slice (some ⟨(w35).heap.size, 0, none⟩) 1 1)]) (w35.alloc (.cells #[(.int .u8 n36), (.int .u16 n37), (.int .u32 n38), (.int .u8 n39), (.int .u8 n40), (.int .u8 n41), (.int .u8 n42), (.int .u8 n43), (.int .u8 n44), (.int .u8 n45), (.int .u8 n46), (.int .u8 n47), (.string s48), (.string s49), (.int .i64 n50), (.slice (q51) k52 k53), (.int .u8 n54), (.string s55), (.string s56), (.string s57), (.bool b58), (.int .u32 n59)] 42)) = .ok (.slice (q60) k61 k62) w63) ∧
    (((w35.alloc (.cells #[(.int .u8 n36), (.int .u16 n37), (.int .u32 n38), (.int .u8 n39), (.int .u8 n40), (.int .u8 n41), (.int .u8 n42), (.int .u8 n43), (.int .u8 n44), (.int .u8 n45), (.int .u8 n46), (.int .u8 n47), (.string s48), (.string s49), (.int .i64 n50), (.slice (q51) k52 k53), (.int .u8 n54), (.string s55), (.string s56), (.string s57), (.bool b58), (.int .u32 n59)] 42))).heap.size ≤ (w63).heap.size) ∧
    (x1 q60 k61 k62 (IntKind.wrap .i64 (n6 + 1)) w63 []) ∧
    Nat.le ((x2 q60 k61 k62 (IntKind.wrap .i64 (n6 + 1)) w63) + 1) (x2 q3 k4 k5 n6 w7)
  else
   R (.returned (.slice (q3) k4 k5)) w7) :
    Calls Try.prog 23 #[.slice a al ac] w R :=
  X.calls_of { isLoc := [], sym := [], loops := [(3, .inv [(3, .slice), (4, .int .i64)] [] true)], joins := [] } Try.func23 (by kernel_rfl) h
abbrev fn_gemotlaw15_num : Nat := 14
theorem x_gemotlaw15_num (a : Int) (w : World) (R : Ending → World → Prop) (h :
  R (.returned (.int .i64 a)) w) :
    Calls Try.prog 14 #[.int .i64 a] w R :=
  X.calls_of { isLoc := [], sym := [], loops := [], joins := [] } Try.func14 (by kernel_rfl) h
abbrev fn_RefPart : Nat := 37
theorem x_RefPart (a_0 a_1 : Int) (a_2 a_3 : ByteArray) (a_4 : Int) (w : World) (R : Ending → World → Prop) (h :
  ∀ w1 : World, (X.Hid [] w w1) →
  R (.returned (.agg #[(.int .u8 a_0), (.int .u8 a_1), (.string a_2), (.string a_3), (.int .i64 a_4)])) w1) :
    Calls Try.prog 37 #[.agg #[.int .u8 a_0, .int .u8 a_1, .string a_2, .string a_3, .int .i64 a_4]] w R :=
  X.calls_of { isLoc := [1, 2], sym := [], loops := [], joins := [] } Try.func37 (by kernel_rfl) h
abbrev fn_RefParts : Nat := 38
theorem x_RefParts (a : Option Addr) (al ac : Nat) (w : World) (R : Ending → World → Prop) (h :
  ∃ x1 : Option Addr → Nat → Nat → Int → World → List Nat → Prop, ∃ x2 : Option Addr → Nat → Nat → Int → World → Nat, (x1 (none) 0 0 0 w []) ∧
  ∀ q3 : Option Addr, ∀ k4 : Nat, ∀ k5 : Nat, ∀ n6 : Int, ∀ w7 : World, ∀ L8 : List Nat, (X.LF (w).heap.size w7 L8) →
  (x1 q3 k4 k5 n6 w7 L8) →
  if (decide (n6 < ((al : Nat) : Int))) = true then
   ((0 : Int) ≤ n6) ∧
   (n6 < ((al : Nat) : Int)) ∧
   X.onSome (a) fun p9 =>
   ∃ n10 : Int, ∃ n11 : Int, ∃ s12 : ByteArray, ∃ s13 : ByteArray, ∃ n14 : Int, (X.Cells w7 (p9.add ((n6).toNat * 5)) [(.int .u8 n10), (.int .u8 n11), (.string s12), (.string s13), (.int .i64 n14)]) ∧
   X.CallX Try.prog 37 #[(.agg #[(.int .u8 n10), (.int .u8 n11), (.string s12), (.string s13), (.int .i64 n14)])] w7 fun e15 w16 =>
    ∃ n17 : Int, ∃ n18 : Int, ∃ s19 : ByteArray, ∃ s20 : ByteArray, ∃ n21 : Int, (e15 = .returned (.agg #[(.int .u8 n17), (.int .u8 n18), (.string s19), (.string s20), (.int .i64 n21)])) ∧
    ((w7).heap.size ≤ (w16).heap.size) ∧
    ∃ q22 : Option Addr, ∃ k23 : Nat, ∃ k24 : Nat, ∃ w25 : World, (Sem.run Try.prog (Go.Builtin.append_ #[36, 36] 36 #[(.slice (q3) k4 k5), (.slice (some ⟨(w16).heap.size, 0, none⟩) 1 1)]) (w16.alloc (.cells #[(.int .u8 n17), (.int .u8 n18), (.string s19), (.string s20), (.int .i64 n21)] 35)) = .ok (.slice (q22) k23 k24) w25) ∧
    (((w16.alloc (.cells #[(.int .u8 n17), (.int .u8 n18), (.string s19), (.string s20), (.int .i64 n21)] 35))).heap.size ≤ (w25).heap.size) ∧
    (x1 q22 k23 k24 (IntKind.wrap .i64 (n6 + 1)) w25 []) ∧
    Nat.le ((x2 q22 k23 k24 (IntKind.wrap .i64 (n6 + 1)) w25) + 1) (x2 q3 k4 k5 n6 w7)
  else
   R (.returned (.slice (q3) k4 k5)) w7) :
    Calls Try.prog 38 #[.slice a al ac] w R :=
  X.calls_of { isLoc := [], sym := [], loops := [(3, .inv [(3, .slice), (4, .int .i64)] [] true)], joins := [] } Try.func38 (by kernel_rfl) h
abbrev fn_RefRes : Nat := 39
theorem x_RefRes (a_0 : Int) (a_1 : ByteArray) (w : World) (R : Ending → World → Prop) (h :
  ∀ w1 : World, (X.Hid [] w w1) →
  R (.returned (.agg #[(.int .u8 a_0), (.string a_1)])) w1) :
    Calls Try.prog 39 #[.agg #[.int .u8 a_0, .string a_1]] w R :=
  X.calls_of { isLoc := [1, 2], sym := [], loops := [], joins := [] } Try.func39 (by kernel_rfl) h
abbrev fn_Part : Nat := 40
theorem x_Part (a_0 a_1 : Int) (a_2 a_3 : ByteArray) (a_4 : Int) (w : World) (R : Ending → World → Prop) (h :
  ∀ w1 : World, (X.Hid [] w w1) →
  R (.returned (.agg #[(.int .u8 a_0), (.int .u8 a_1), (.string a_2), (.string a_3), (.int .i64 a_4)])) w1) :
    Calls Try.prog 40 #[.agg #[.int .u8 a_0, .int .u8 a_1, .string a_2, .string a_3, .int .i64 a_4]] w R :=
  X.calls_of { isLoc := [1, 2], sym := [], loops := [], joins := [] } Try.func40 (by kernel_rfl) h
abbrev fn_Parts : Nat := 41
theorem x_Parts (a : Option Addr) (al ac : Nat) (w : World) (R : Ending → World → Prop) (h :
  ∃ x1 : Option Addr → Nat → Nat → Int → World → List Nat → Prop, ∃ x2 : Option Addr → Nat → Nat → Int → World → Nat, (x1 (none) 0 0 0 w []) ∧
  ∀ q3 : Option Addr, ∀ k4 : Nat, ∀ k5 : Nat, ∀ n6 : Int, ∀ w7 : World, ∀ L8 : List Nat, (X.LF (w).heap.size w7 L8) →
  (x1 q3 k4 k5 n6 w7 L8) →
  if (decide (n6 < ((al : Nat) : Int))) = true then
   ((0 : Int) ≤ n6) ∧
   (n6 < ((al : Nat) : Int)) ∧
   X.onSome (a) fun p9 =>
   ∃ n10 : Int, ∃ n11 : Int, ∃ s12 : ByteArray, ∃ s13 : ByteArray, ∃ n14 : Int, (X.Cells w7 (p9.add ((n6).toNat * 5)) [(.int .u8 n10), (.int .u8 n11), (.string s12), (.string s13), (.int .i64 n14)]) ∧
   X.CallX Try.prog 40 #[(.agg #[(.int .u8 n10), (.int .u8 n11), (.string s12), (.string s13), (.int .i64 n14)])] w7 fun e15 w16 =>
    ∃ n17 : Int, ∃ n18 : Int, ∃ s19 : ByteArray, ∃ s20 : ByteArray, ∃ n21 : Int, (e15 = .returned (.agg #[(.int .u8 n17), (.int .u8 n18), (.string s19), (.string s20), (.int .i64 n21)])) ∧
    ((w7).heap.size ≤ (w16).heap.size) ∧
    ∃ q22 : Option Addr, ∃ k23 : Nat, ∃ k24 : Nat, ∃ w25 : World, (Sem.run Try.prog (Go.Builtin.append_ #[58, 58] 58 #[(.slice (q3) k4 k5), (.slice (some ⟨(w16).heap.size, 0, none⟩) 1 1)]) (w16.alloc (.cells #[(.int .u8 n17), (.int .u8 n18), (.string s19), (.string s20), (.int .i64 n21)] 57)) = .ok (.slice (q22) k23 k24) w25) ∧
    (((w16.alloc (.cells #[(.int .u8 n17), (.int .u8 n18), (.string s19), (.string s20), (.int .i64 n21)] 57))).heap.size ≤ (w25).heap.size) ∧
    (x1 q22 k23 k24 (IntKind.wrap .i64 (n6 + 1)) w25 []) ∧
    Nat.le ((x2 q22 k23 k24 (IntKind.wrap .i64 (n6 + 1)) w25) + 1) (x2 q3 k4 k5 n6 w7)
  else
   R (.returned (.slice (q3) k4 k5)) w7) :
    Calls Try.prog 41 #[.slice a al ac] w R :=
  X.calls_of { isLoc := [], sym := [], loops := [(3, .inv [(3, .slice), (4, .int .i64)] [] true)], joins := [] } Try.func41 (by kernel_rfl) h
abbrev fn_Res3 : Nat := 42
theorem x_Res3 (a_0 : Int) (a_1 : ByteArray) (w : World) (R : Ending → World → Prop) (h :
  ∀ w1 : World, (X.Hid [] w w1) →
  R (.returned (.agg #[(.int .u8 a_0), (.string a_1)])) w1) :
    Calls Try.prog 42 #[.agg #[.int .u8 a_0, .string a_1]] w R :=
  X.calls_of { isLoc := [1, 2], sym := [], loops := [], joins := [] } Try.func42 (by kernel_rfl) h
abbrev fn_OwnW : Nat := 43
theorem x_OwnW (a : Option Addr) (al ac : Nat) (w : World) (R : Ending → World → Prop) (h :
  ∃ x1 : Option Addr → Nat → Nat → Int → World → List Nat → Prop, ∃ x2 : Option Addr → Nat → Nat → Int → World → Nat, (x1 (none) 0 0 0 w []) ∧
  ∀ q3 : Option Addr, ∀ k4 : Nat, ∀ k5 : Nat, ∀ n6 : Int, ∀ w7 : World, ∀ L8 : List Nat, (X.LF (w).heap.size w7 L8) →
  (x1 q3 k4 k5 n6 w7 L8) →
  if (decide (n6 < ((al : Nat) : Int))) = true then
   ∃ x9 : X.Facts, (X.FactsW x9 w7 []) ∧
   ((0 : Int) ≤ n6) ∧
   (n6 < ((al : Nat) : Int)) ∧
   X.onSome (a) fun p10 =>
   ∃ s11 : ByteArray, ((((p10.add ((n6).toNat * 3)).add 0), [(.string s11)]) ∈ x9) ∧
   ((0 : Int) ≤ n6) ∧
   (n6 < ((al : Nat) : Int)) ∧
   X.onSome (a) fun p12 =>
   ∃ s13 : ByteArray, ((((p12.add ((n6).toNat * 3)).add 1), [(.string s13)]) ∈ x9) ∧
   ((0 : Int) ≤ n6) ∧
   (n6 < ((al : Nat) : Int)) ∧
   X.onSome (a) fun p14 =>
   ∃ b15 : Bool, ((((p14.add ((n6).toNat * 3)).add 2), [(.bool b15)]) ∈ x9) ∧
   ∀ w16 : World, (X.Hid [] w7 w16) →
   (X.FactsW x9 (w16.alloc (.cells #[(.string s11), (.string s13), (.bool b15)] 60)) []) ∧
   ∃ q17 : Option Addr, ∃ k18 : Nat, ∃ k19 : Nat, ∃ w20 : World, (Sem.run Try.prog (Go.Builtin.append_ #[104, 104] 104 #[(.slice (q3) k4 k5), (.slice (some ⟨(w16).heap.size, 0, none⟩) 1 1)]) (w16.alloc (.cells #[(.string s11), (.string s13), (.bool b15)] 60)) = .ok (.slice (q17) k18 k19) w20) ∧
   (((w16.alloc (.cells #[(.string s11), (.string s13), (.bool b15)] 60))).heap.size ≤ (w20).heap.size) ∧
   (X.FactsW x9 w20 []) ∧
   (x1 q17 k18 k19 (IntKind.wrap .i64 (n6 + 1)) w20 []) ∧
   Nat.le ((x2 q17 k18 k19 (IntKind.wrap .i64 (n6 + 1)) w20) + 1) (x2 q3 k4 k5 n6 w7)
  else
   R (.returned (.slice (q3) k4 k5)) w7) :
    Calls Try.prog 43 #[.slice a al ac] w R :=
  X.calls_of { isLoc := [], sym := [], loops := [(3, .inv [(3, .slice), (4, .int .i64)] [] true)], joins := [] } Try.func43 (by kernel_rfl) h
end Go.Proofs
/- The verification conditions of this seat's functions, as the engine has them: printed by a program of the bench; checked by the kernel. -/
namespace Go.Proofs
open Go
abbrev fn_rAdd : Nat := 10
theorem x_rAdd (a : Addr) (b_0 b_1 b_2 b_3 b_4 b_5 b_6 b_7 b_8 b_9 b_10 b_11 : Int) (b_12 b_13 : ByteArray) (b_14 : Int) (b_15 : Option Addr) (b_15l b_15c : Nat) (b_16 : Int) (b_17 b_18 b_19 : ByteArray) (b_20 : Bool) (b_21 : Int) (w : World) (R : Ending → World → Prop) (h :
  ∀ w1 : World, ∀ L2 : List Nat, (X.Hid [] w w1) →
  (X.NewL (w).heap.size [] w w1 L2) →
  X.CallX Try.prog 32 #[(.agg #[(.int .u8 b_0), (.int .u16 b_1), (.int .u32 b_2), (.int .u8 b_3), (.int .u8 b_4), (.int .u8 b_5), (.int .u8 b_6), (.int .u8 b_7), (.int .u8 b_8), (.int .u8 b_9)])] w1 fun e3 w4 =>
   ∃ b5 : Bool, (e3 = .returned (.bool b5)) ∧
   (X.Kept L2 w1 w4) ∧
   if ((!b5) == false) = true then
    X.CallX Try.prog 33 #[(.agg #[(.int .u8 b_10), (.int .u8 b_11), (.string b_12), (.string b_13), (.int .i64 b_14)])] w4 fun e7 w8 =>
     ∃ b9 : Bool, (e7 = .returned (.bool b9)) ∧
     (X.Kept L2 w4 w8) ∧
     if ((false || (!b9)) == false) = true then
      X.CallX Try.prog 34 #[(.slice (b_15) b_15l b_15c)] w8 fun e11 w12 =>
       ∃ b13 : Bool, (e11 = .returned (.bool b13)) ∧
       (X.Kept L2 w8 w12) ∧
       if ((false || (!b13)) || decide ((IntKind.wrap .i64 ((IntKind.wrap .i64 (1 + ((b_15l : Nat) : Int))) + (IntKind.wrap .i64 b_3))) > 4)) = true then
        ∀ w124 : World, (X.Hid (L2) w12 w124) →
        R (.returned (.tuple #[(.agg #[(.int .u8 0), (.int .u16 0), (.int .u32 0), (.int .u8 0), (.int .u8 0), (.int .u8 0), (.int .u8 0), (.int .u8 0), (.int .u8 0), (.int .u8 0)]), (.int .i64 1)])) w124
       else
        X.CallX Try.prog 15 #[(.pointer (some a)), (.agg #[(.int .u8 b_0), (.int .u16 b_1), (.int .u32 b_2), (.int .u8 b_3), (.int .u8 b_4), (.int .u8 b_5), (.int .u8 b_6), (.int .u8 b_7), (.int .u8 b_8), (.int .u8 b_9), (.int .u8 b_10), (.int .u8 b_11), (.string b_12), (.string b_13), (.int .i64 b_14), (.slice (b_15) b_15l b_15c), (.int .u8 b_16), (.string b_17), (.string b_18), (.string b_19), (.bool b_20), (.int .u32 b_21)])] w12 fun e14 w15 =>
         ∃ n16 : Int, ∃ n17 : Int, ∃ n18 : Int, ∃ n19 : Int, ∃ n20 : Int, ∃ n21 : Int, ∃ n22 : Int, ∃ n23 : Int, ∃ n24 : Int, ∃ n25 : Int, ∃ n26 : Int, (e14 = .returned (.tuple #[(.agg #[(.int .u8 n16), (.int .u16 n17), (.int .u32 n18), (.int .u8 n19), (.int .u8 n20), (.int .u8 n21), (.int .u8 n22), (.int .u8 n23), (.int .u8 n24), (.int .u8 n25)]), (.int .i64 n26)])) ∧
         (X.Kept L2 w12 w15) ∧
         if (n26 != 0) = true then
          ∀ w123 : World, (X.Hid (L2) w15 w123) →
          R (.returned (.tuple #[(.agg #[(.int .u8 0), (.int .u16 0), (.int .u32 0), (.int .u8 0), (.int .u8 0), (.int .u8 0), (.int .u8 0), (.int .u8 0), (.int .u8 0), (.int .u8 0)]), (.int .i64 n26)])) w123
         else
          ∀ w27 : World, ∀ L28 : List Nat, (X.Hid (L2) w15 w27) →
          (X.NewL (w).heap.size (L2) w15 w27 L28) →
          X.CallX Try.prog 26 #[(.pointer (some a)), (.agg #[(.int .u8 n16), (.int .u16 n17), (.int .u32 n18), (.int .u8 n19), (.int .u8 n20), (.int .u8 n21), (.int .u8 n22), (.int .u8 n23), (.int .u8 n24), (.int .u8 n25)])] w27 fun e29 w30 =>
           ∃ n31 : Int, (e29 = .returned (.int .i64 n31)) ∧
           (X.Kept L28 w27 w30) ∧
           if (decide (n31 ≥ 0)) = true then
            ∀ w122 : World, (X.Hid (L28) w30 w122) →
            R (.returned (.tuple #[(.agg #[(.int .u8 0), (.int .u16 0), (.int .u32 0), (.int .u8 0), (.int .u8 0), (.int .u8 0), (.int .u8 0), (.int .u8 0), (.int .u8 0), (.int .u8 0)]), (.int .i64 4)])) w122
           else
            ∃ q32 : Option Addr, ∃ k33 : Nat, ∃ k34 : Nat, (World.cell? w30 (a.add 1) = some (.slice (q32) k33 k34)) ∧
            (¬ ((a.block) ∈ L28)) ∧
            if (decide (((k33 : Nat) : Int) ≥ 64)) = true then
             ∀ w121 : World, (X.Hid (L28) w30 w121) →
             R (.returned (.tuple #[(.agg #[(.int .u8 0), (.int .u16 0), (.int .u32 0), (.int .u8 0), (.int .u8 0), (.int .u8 0), (.int .u8 0), (.int .u8 0), (.int .u8 0), (.int .u8 0)]), (.int .i64 11)])) w121
            else
             ∃ x35 : Int → World → List Nat → Prop, (∃ x36 : Int → World → List Nat → Prop, ∃ x37 : Int → World → Nat, (x36 0 w30 (L28)) ∧
              ∀ n38 : Int, ∀ w39 : World, ∀ L40 : List Nat, (X.LF (w).heap.size w39 L40) →
              (x36 n38 w39 L40) →
              ∃ x41 : Bool → World → List Nat → Prop, (∃ x42 : X.Facts, (X.FactsW x42 w39 (L40)) ∧
               ∃ q43 : Option Addr, ∃ k44 : Nat, ∃ k45 : Nat, (((a.add 1), [(.slice (q43) k44 k45)]) ∈ x42) ∧
               if ((decide (n38 < ((k44 : Nat) : Int))) == true) = true then
                ∀ w48 : World, ∀ L49 : List Nat, (X.Hid (L40) w39 w48) →
                (X.NewL (w).heap.size (L40) w39 w48 L49) →
                X.CallX Try.prog 36 #[(.pointer (some a)), (.int .i64 n38)] w48 fun e50 w51 =>
                 ∃ n52 : Int, ∃ n53 : Int, ∃ n54 : Int, ∃ n55 : Int, ∃ n56 : Int, ∃ n57 : Int, ∃ n58 : Int, ∃ n59 : Int, ∃ n60 : Int, ∃ n61 : Int, (e50 = .returned (.agg #[(.int .u8 n52), (.int .u16 n53), (.int .u32 n54), (.int .u8 n55), (.int .u8 n56), (.int .u8 n57), (.int .u8 n58), (.int .u8 n59), (.int .u8 n60), (.int .u8 n61)])) ∧
                 (X.Kept L49 w48 w51) ∧
                 (X.FactsW x42 w51 (L49)) ∧
                 X.CallX Try.prog 35 #[(.agg #[(.int .u8 n52), (.int .u16 n53), (.int .u32 n54), (.int .u8 n55), (.int .u8 n56), (.int .u8 n57), (.int .u8 n58), (.int .u8 n59), (.int .u8 n60), (.int .u8 n61)]), (.agg #[(.int .u8 n16), (.int .u16 n17), (.int .u32 n18), (.int .u8 n19), (.int .u8 n20), (.int .u8 n21), (.int .u8 n22), (.int .u8 n23), (.int .u8 n24), (.int .u8 n25)])] w51 fun e62 w63 =>
                  ∃ n64 : Int, (e62 = .returned (.int .i64 n64)) ∧
                  (X.Kept L49 w51 w63) ∧
                  (X.FactsW x42 w63 (L49)) ∧
                  (([(.int .u8 b_0), (.int .u16 b_1), (.int .u32 b_2), (.int .u8 b_3), (.int .u8 b_4), (.int .u8 b_5), (.int .u8 b_6), (.int .u8 b_7), (.int .u8 b_8), (.int .u8 b_9), (.int .u8 b_10), (.int .u8 b_11), (.string b_12), (.string b_13), (.int .i64 b_14), (.slice (b_15) b_15l b_15c), (.int .u8 b_16), (.string b_17), (.string b_18), (.string b_19), (.bool b_20), (.int .u32 b_21)] : List Value) = [(.int .u8 b_0), (.int .u16 b_1), (.int .u32 b_2), (.int .u8 b_3), (.int .u8 b_4), (.int .u8 b_5), (.int .u8 b_6), (.int .u8 b_7), (.int .u8 b_8), (.int .u8 b_9), (.int .u8 b_10), (.int .u8 b_11), (.string b_12), (.string b_13), (.int .i64 b_14), (.slice (b_15) b_15l b_15c), (.int .u8 b_16), (.string b_17), (.string b_18), (.string b_19), (.bool b_20), (.int .u32 b_21)]) ∧
                  (([(.int .u8 0), (.int .u16 0), (.int .u32 0), (.int .u8 0), (.int .u8 0), (.int .u8 0), (.int .u8 0), (.int .u8 0), (.int .u8 0), (.int .u8 0)] : List Value) = [(.int .u8 0), (.int .u16 0), (.int .u32 0), (.int .u8 0), (.int .u8 0), (.int .u8 0), (.int .u8 0), (.int .u8 0), (.int .u8 0), (.int .u8 0)]) ∧
                  (([(.int .u8 n16), (.int .u16 n17), (.int .u32 n18), (.int .u8 n19), (.int .u8 n20), (.int .u8 n21), (.int .u8 n22), (.int .u8 n23), (.int .u8 n24), (.int .u8 n25)] : List Value) = [(.int .u8 n16), (.int .u16 n17), (.int .u32 n18), (.int .u8 n19), (.int .u8 n20), (.int .u8 n21), (.int .u8 n22), (.int .u8 n23), (.int .u8 n24), (.int .u8 n25)]) ∧
                  x41 (true && decide (n64 < 0)) w63 (L49)
               else
                ∀ w46 : World, ∀ L47 : List Nat, (X.Hid (L40) w39 w46) →
                (X.NewL (w).heap.size (L40) w39 w46 L47) →
                (([(.int .u8 b_0), (.int .u16 b_1), (.int .u32 b_2), (.int .u8 b_3), (.int .u8 b_4), (.int .u8 b_5), (.int .u8 b_6), (.int .u8 b_7), (.int .u8 b_8), (.int .u8 b_9), (.int .u8 b_10), (.int .u8 b_11), (.string b_12), (.string b_13), (.int .i64 b_14), (.slice (b_15) b_15l b_15c), (.int .u8 b_16), (.string b_17), (.string b_18), (.string b_19), (.bool b_20), (.int .u32 b_21)] : List Value) = [(.int .u8 b_0), (.int .u16 b_1), (.int .u32 b_2), (.int .u8 b_3), (.int .u8 b_4), (.int .u8 b_5), (.int .u8 b_6), (.int .u8 b_7), (.int .u8 b_8), (.int .u8 b_9), (.int .u8 b_10), (.int .u8 b_11), (.string b_12), (.string b_13), (.int .i64 b_14), (.slice (b_15) b_15l b_15c), (.int .u8 b_16), (.string b_17), (.string b_18), (.string b_19), (.bool b_20), (.int .u32 b_21)]) ∧
                (([(.int .u8 0), (.int .u16 0), (.int .u32 0), (.int .u8 0), (.int .u8 0), (.int .u8 0), (.int .u8 0), (.int .u8 0), (.int .u8 0), (.int .u8 0)] : List Value) = [(.int .u8 0), (.int .u16 0), (.int .u32 0), (.int .u8 0), (.int .u8 0), (.int .u8 0), (.int .u8 0), (.int .u8 0), (.int .u8 0), (.int .u8 0)]) ∧
                (([(.int .u8 n16), (.int .u16 n17), (.int .u32 n18), (.int .u8 n19), (.int .u8 n20), (.int .u8 n21), (.int .u8 n22), (.int .u8 n23), (.int .u8 n24), (.int .u8 n25)] : List Value) = [(.int .u8 n16), (.int .u16 n17), (.int .u32 n18), (.int .u8 n19), (.int .u8 n20), (.int .u8 n21), (.int .u8 n22), (.int .u8 n23), (.int .u8 n24), (.int .u8 n25)]) ∧
                x41 false w46 (L47)) ∧
              ∀ b65 : Bool, ∀ w66 : World, ∀ L67 : List Nat, (X.LF (w).heap.size w66 L67) →
              (x41 b65 w66 L67) →
              if b65 = true then
               (([(.int .u8 b_0), (.int .u16 b_1), (.int .u32 b_2), (.int .u8 b_3), (.int .u8 b_4), (.int .u8 b_5), (.int .u8 b_6), (.int .u8 b_7), (.int .u8 b_8), (.int .u8 b_9), (.int .u8 b_10), (.int .u8 b_11), (.string b_12), (.string b_13), (.int .i64 b_14), (.slice (b_15) b_15l b_15c), (.int .u8 b_16), (.string b_17), (.string b_18), (.string b_19), (.bool b_20), (.int .u32 b_21)] : List Value) = [(.int .u8 b_0), (.int .u16 b_1), (.int .u32 b_2), (.int .u8 b_3), (.int .u8 b_4), (.int .u8 b_5), (.int .u8 b_6), (.int .u8 b_7), (.int .u8 b_8), (.int .u8 b_9), (.int .u8 b_10), (.int .u8 b_11), (.string b_12), (.string b_13), (.int .i64 b_14), (.slice (b_15) b_15l b_15c), (.int .u8 b_16), (.string b_17), (.string b_18), (.string b_19), (.bool b_20), (.int .u32 b_21)]) ∧
               (([(.int .u8 0), (.int .u16 0), (.int .u32 0), (.int .u8 0), (.int .u8 0), (.int .u8 0), (.int .u8 0), (.int .u8 0), (.int .u8 0), (.int .u8 0)] : List Value) = [(.int .u8 0), (.int .u16 0), (.int .u32 0), (.int .u8 0), (.int .u8 0), (.int .u8 0), (.int .u8 0), (.int .u8 0), (.int .u8 0), (.int .u8 0)]) ∧
               (([(.int .u8 n16), (.int .u16 n17), (.int .u32 n18), (.int .u8 n19), (.int .u8 n20), (.int .u8 n21), (.int .u8 n22), (.int .u8 n23), (.int .u8 n24), (.int .u8 n25)] : List Value) = [(.int .u8 n16), (.int .u16 n17), (.int .u32 n18), (.int .u8 n19), (.int .u8 n20), (.int .u8 n21), (.int .u8 n22), (.int .u8 n23), (.int .u8 n24), (.int .u8 n25)]) ∧
               (x36 (IntKind.wrap .i64 (n38 + 1)) w66 (L67)) ∧
               Nat.le ((x37 (IntKind.wrap .i64 (n38 + 1)) w66) + 1) (x37 n38 w39)
              else
               (([(.int .u8 b_0), (.int .u16 b_1), (.int .u32 b_2), (.int .u8 b_3), (.int .u8 b_4), (.int .u8 b_5), (.int .u8 b_6), (.int .u8 b_7), (.int .u8 b_8), (.int .u8 b_9), (.int .u8 b_10), (.int .u8 b_11), (.string b_12), (.string b_13), (.int .i64 b_14), (.slice (b_15) b_15l b_15c), (.int .u8 b_16), (.string b_17), (.string b_18), (.string b_19), (.bool b_20), (.int .u32 b_21)] : List Value) = [(.int .u8 b_0), (.int .u16 b_1), (.int .u32 b_2), (.int .u8 b_3), (.int .u8 b_4), (.int .u8 b_5), (.int .u8 b_6), (.int .u8 b_7), (.int .u8 b_8), (.int .u8 b_9), (.int .u8 b_10), (.int .u8 b_11), (.string b_12), (.string b_13), (.int .i64 b_14), (.slice (b_15) b_15l b_15c), (.int .u8 b_16), (.string b_17), (.string b_18), (.string b_19), (.bool b_20), (.int .u32 b_21)]) ∧
               (([(.int .u8 0), (.int .u16 0), (.int .u32 0), (.int .u8 0), (.int .u8 0), (.int .u8 0), (.int .u8 0), (.int .u8 0), (.int .u8 0), (.int .u8 0)] : List Value) = [(.int .u8 0), (.int .u16 0), (.int .u32 0), (.int .u8 0), (.int .u8 0), (.int .u8 0), (.int .u8 0), (.int .u8 0), (.int .u8 0), (.int .u8 0)]) ∧
               (([(.int .u8 n16), (.int .u16 n17), (.int .u32 n18), (.int .u8 n19), (.int .u8 n20), (.int .u8 n21), (.int .u8 n22), (.int .u8 n23), (.int .u8 n24), (.int .u8 n25)] : List Value) = [(.int .u8 n16), (.int .u16 n17), (.int .u32 n18), (.int .u8 n19), (.int .u8 n20), (.int .u8 n21), (.int .u8 n22), (.int .u8 n23), (.int .u8 n24), (.int .u8 n25)]) ∧
               x35 n38 w66 (L67)) ∧
             ∀ n68 : Int, ∀ w69 : World, ∀ L70 : List Nat, (X.LF (w).heap.size w69 L70) →
             (x35 n68 w69 L70) →
             ∃ x71 : X.Facts, (X.FactsW x71 w69 (L70)) ∧
             ∃ q72 : Option Addr, ∃ k73 : Nat, ∃ k74 : Nat, (((a.add 1), [(.slice (q72) k73 k74)]) ∈ x71) ∧
             ((0 : Int) ≤ n68) ∧
             (n68 ≤ ((k74 : Nat) : Int)) ∧
             ∃ q75 : Option Addr, ∃ k76 : Nat, ∃ k77 : Nat, (((a.add 1), [(.slice (q75) k76 k77)]) ∈ x71) ∧
             ((0 : Int) ≤ n68) ∧
             (n68 ≤ ((k76 : Nat) : Int)) ∧
             (∀ w78 : World, ∀ L79 : List Nat, (X.Hid (L70) w69 w78) →
              (X.NewL (w).heap.size (L70) w69 w78 L79) →
              (X.FactsW x71 (w78.alloc (.cells #[] 42)) (L79)) ∧
              (∃ q80 : Option Addr, ∃ k81 : Nat, ∃ k82 : Nat, ∃ w83 : World, (Sem.run Try.prog (Go.Builtin.append_ #[78, 78] 78 #[(.slice (some ⟨(w78).heap.size, 0, none⟩) 0 0), (.slice (X.cutA (q72) k74 0 22) (n68).toNat k74)]) (w78.alloc (.cells #[] 42)) = .ok (.slice (q80) k81 k82) w83) ∧
               (X.Kept L79 (w78.alloc (.cells #[] 42)) w83) ∧
               (X.FactsW x71 w83 (L79)) ∧
               (X.FactsW x71 (w83.alloc (.cells #[(.int .u8 b_0), (.int .u16 b_1), (.int .u32 b_2), (.int .u8 b_3), (.int .u8 b_4), (.int .u8 b_5), (.int .u8 b_6), (.int .u8 b_7), (.int .u8 b_8), (.int .u8 b_9), (.int .u8 b_10), (.int .u8 b_11), (.string b_12), (.string b_13), (.int .i64 b_14), (.slice (b_15) b_15l b_15c), (.int .u8 b_16), (.string b_17), (.string b_18), (.string b_19), (.bool b_20), (.int .u32 b_21)] 42)) (L79)) ∧
               ∃ q84 : Option Addr, ∃ k85 : Nat, ∃ k86 : Nat, ∃ w87 : World, (Sem.run Try.prog (Go.Builtin.append_ #[78, 78] 78 #[(.slice (q80) k81 k82), (.slice (some ⟨(w83).heap.size, 0, none⟩) 1 1)]) (w83.alloc (.cells #[(.int .u8 b_0), (.int .u16 b_1), (.int .u32 b_2), (.int .u8 b_3), (.int .u8 b_4), (.int .u8 b_5), (.int .u8 b_6), (.int .u8 b_7), (.int .u8 b_8), (.int .u8 b_9), (.int .u8 b_10), (.int .u8 b_11), (.string b_12), (.string b_13), (.int .i64 b_14), (.slice (b_15) b_15l b_15c), (.int .u8 b_16), (.string b_17), (.string b_18), (.string b_19), (.bool b_20), (.int .u32 b_21)] 42)) = .ok (.slice (q84) k85 k86) w87) ∧
               (X.Kept L79 (w83.alloc (.cells #[(.int .u8 b_0), (.int .u16 b_1), (.int .u32 b_2), (.int .u8 b_3), (.int .u8 b_4), (.int .u8 b_5), (.int .u8 b_6), (.int .u8 b_7), (.int .u8 b_8), (.int .u8 b_9), (.int .u8 b_10), (.int .u8 b_11), (.string b_12), (.string b_13), (.int .i64 b_14), (.slice (b_15) b_15l b_15c), (.int .u8 b_16), (.string b_17), (.string b_18), (.string b_19), (.bool b_20), (.int .u32 b_21)] 42)) w87) ∧
               (X.FactsW x71 w87 (L79)) ∧
               ∃ q88 : Option Addr, ∃ k89 : Nat, ∃ k90 : Nat, ∃ w91 : World, (Sem.run Try.prog (Go.Builtin.append_ #[78, 78] 78 #[(.slice (q84) k85 k86), (.slice (X.cutA (q75) k77 (n68).toNat 22) (k76 - (n68).toNat) (k77 - (n68).toNat))]) w87 = .ok (.slice (q88) k89 k90) w91) ∧
               (X.Kept L79 w87 w91) ∧
               (X.FactsW x71 w91 (L79)) ∧
               ((none : Option Nat) = none) ∧
               (World.there w91 (a.block) ((a.off) + 1) 1) ∧
               (¬ ((a.block) ∈ L79)) ∧
               ∀ w92 : World, (X.Hid (L79) (w91.setCells (a.block) ((a.off) + 1) [(.slice (q88) k89 k90)]) w92) →
               R (.returned (.tuple #[(.agg #[(.int .u8 n16), (.int .u16 n17), (.int .u32 n18), (.int .u8 n19), (.int .u8 n20), (.int .u8 n21), (.int .u8 n22), (.int .u8 n23), (.int .u8 n24), (.int .u8 n25)]), (.int .i64 0)])) w92) ∧
              (X.FactsW x71 ((w78.alloc (.cells #[] 42)).alloc (.cells #[(.int .u8 b_0), (.int .u16 b_1), (.int .u32 b_2), (.int .u8 b_3), (.int .u8 b_4), (.int .u8 b_5), (.int .u8 b_6), (.int .u8 b_7), (.int .u8 b_8), (.int .u8 b_9), (.int .u8 b_10), (.int .u8 b_11), (.string b_12), (.string b_13), (.int .i64 b_14), (.slice (b_15) b_15l b_15c), (.int .u8 b_16), (.string b_17), (.string b_18), (.string b_19), (.bool b_20), (.int .u32 b_21)] 42)) (L79)) ∧
              ∃ q93 : Option Addr, ∃ k94 : Nat, ∃ k95 : Nat, ∃ w96 : World, (Sem.run Try.prog (Go.Builtin.append_ #[78, 78] 78 #[(.slice (some ⟨(w78).heap.size, 0, none⟩) 0 0), (.slice (X.cutA (q72) k74 0 22) (n68).toNat k74)]) ((w78.alloc (.cells #[] 42)).alloc (.cells #[(.int .u8 b_0), (.int .u16 b_1), (.int .u32 b_2), (.int .u8 b_3), (.int .u8 b_4), (.int .u8 b_5), (.int .u8 b_6), (.int .u8 b_7), (.int .u8 b_8), (.int .u8 b_9), (.int .u8 b_10), (.int .u8 b_11), (.string b_12), (.string b_13), (.int .i64 b_14), (.slice (b_15) b_15l b_15c), (.int .u8 b_16), (.string b_17), (.string b_18), (.string b_19), (.bool b_20), (.int .u32 b_21)] 42)) = .ok (.slice (q93) k94 k95) w96) ∧
              (X.Kept L79 ((w78.alloc (.cells #[] 42)).alloc (.cells #[(.int .u8 b_0), (.int .u16 b_1), (.int .u32 b_2), (.int .u8 b_3), (.int .u8 b_4), (.int .u8 b_5), (.int .u8 b_6), (.int .u8 b_7), (.int .u8 b_8), (.int .u8 b_9), (.int .u8 b_10), (.int .u8 b_11), (.string b_12), (.string b_13), (.int .i64 b_14), (.slice (b_15) b_15l b_15c), (.int .u8 b_16), (.string b_17), (.string b_18), (.string b_19), (.bool b_20), (.int .u32 b_21)] 42)) w96) ∧
              (X.FactsW x71 w96 (L79)) ∧
              ∃ q97 : Option Addr, ∃ k98 : Nat, ∃ k99 : Nat, ∃ w100 : World, (Sem.run Try.prog (Go.Builtin.append_ #[78, 78] 78 #[(.slice (q93) k94 k95), (.slice (some ⟨((w78.alloc (.cells #[] 42))).heap.size, 0, none⟩) 1 1)]) w96 = .ok (.slice (q97) k98 k99) w100) ∧
              (X.Kept L79 w96 w100) ∧
              (X.FactsW x71 w100 (L79)) ∧
              ∃ q101 : Option Addr, ∃ k102 : Nat, ∃ k103 : Nat, ∃ w104 : World, (Sem.run Try.prog (Go.Builtin.append_ #[78, 78] 78 #[(.slice (q97) k98 k99), (.slice (X.cutA (q75) k77 (n68).toNat 22) (k76 - (n68).toNat) (k77 - (n68).toNat))]) w100 = .ok (.slice (q101) k102 k103) w104) ∧
              (X.Kept L79 w100 w104) ∧
              (X.FactsW x71 w104 (L79)) ∧
              ((none : Option Nat) = none) ∧
              (World.there w104 (a.block) ((a.off) + 1) 1) ∧
              (¬ ((a.block) ∈ L79)) ∧
              ∀ w105 : World, (X.Hid (L79) (w104.setCells (a.block) ((a.off) + 1) [(.slice (q101) k102 k103)]) w105) →
              R (.returned (.tuple #[(.agg #[(.int .u8 n16), (.int .u16 n17), (.int .u32 n18), (.int .u8 n19), (.int .u8 n20), (.int .u8 n21), (.int .u8 n22), (.int .u8 n23), (.int .u8 n24), (.int .u8 n25)]), (.int .i64 0)])) w105) ∧
             ∀ w106 : World, ∀ L107 : List Nat, (X.Hid (L70) w69 w106) →
             (X.NewL (w).heap.size (L70) w69 w106 L107) →
             (X.FactsW x71 (w106.alloc (.cells #[(.int .u8 b_0), (.int .u16 b_1), (.int .u32 b_2), (.int .u8 b_3), (.int .u8 b_4), (.int .u8 b_5), (.int .u8 b_6), (.int .u8 b_7), (.int .u8 b_8), (.int .u8 b_9), (.int .u8 b_10), (.int .u8 b_11), (.string b_12), (.string b_13), (.int .i64 b_14), (.slice (b_15) b_15l b_15c), (.int .u8 b_16), (.string b_17), (.string b_18), (.string b_19), (.bool b_20), (.int .u32 b_21)] 42)) (L107)) ∧
             (X.FactsW x71 ((w106.alloc (.cells #[(.int .u8 b_0), (.int .u16 b_1), (.int .u32 b_2), (.int .u8 b_3), (.int .u8 b_4), (.int .u8 b_5), (.int .u8 b_6), (.int .u8 b_7), (.int .u8 b_8), (.int .u8 b_9), (.int .u8 b_10), (.int .u8 b_11), (.string b_12), (.string b_13), (.int .i64 b_14), (.slice (b_15) b_15l b_15c), (.int .u8 b_16), (.string b_17), (.string b_18), (.string b_19), (.bool b_20), (.int .u32 b_21)] 42)).alloc (.cells #[] 42)) (L107)) ∧
             ∃ q108 : Option Addr, ∃ k109 : Nat, ∃ k110 : Nat, ∃ w111 : World, (Sem.run Try.prog (Go.Builtin.append_ #[78, 78] 78 #[(.slice (some ⟨((w106.alloc (.cells #[(.int .u8 b_0), (.int .u16 b_1), (.int .u32 b_2), (.int .u8 b_3), (.int .u8 b_4), (.int .u8 b_5), (.int .u8 b_6), (.int .u8 b_7), (.int .u8 b_8), (.int .u8 b_9), (.int .u8 b_10), (.int .u8 b_11), (.string b_12), (.string b_13), (.int .i64 b_14), (.slice (b_15) b_15l b_15c), (.int .u8 b_16), (.string b_17), (.string b_18), (.string b_19), (.bool b_20), (.int .u32 b_21)] 42))).heap.size, 0, none⟩) 0 0), (.slice (X.cutA (q72) k74 0 22) (n68).toNat k74)]) ((w106.alloc (.cells #[(.int .u8 b_0), (.int .u16 b_1), (.int .u32 b_2), (.int .u8 b_3), (.int .u8 b_4), (.int .u8 b_5), (.int .u8 b_6), (.int .u8 b_7), (.int .u8 b_8), (.int .u8 b_9), (.int .u8 b_10), (.int .u8 b_11), (.string b_12), (.string b_13), (.int .i64 b_14), (.slice (b_15) b_15l b_15c), (.int .u8 b_16), (.string b_17), (.string b_18), (.string b_19), (.bool b_20), (.int .u32 b_21)] 42)).alloc (.cells #[] 42)) = .ok (.slice (q108) k109 k110) w111) ∧
             (X.Kept L107 ((w106.alloc (.cells #[(.int .u8 b_0), (.int .u16 b_1), (.int .u32 b_2), (.int .u8 b_3), (.int .u8 b_4), (.int .u8 b_5), (.int .u8 b_6), (.int .u8 b_7), (.int .u8 b_8), (.int .u8 b_9), (.int .u8 b_10), (.int .u8 b_11), (.string b_12), (.string b_13), (.int .i64 b_14), (.slice (b_15) b_15l b_15c), (.int .u8 b_16), (.string b_17), (.string b_18), (.string b_19), (.bool b_20), (.int .u32 b_21)] 42)).alloc (.cells #[] 42)) w111) ∧
             (X.FactsW x71 w111 (L107)) ∧
             ∃ q112 : Option Addr, ∃ k113 : Nat, ∃ k114 : Nat, ∃ w115 : World, (Sem.run Try.prog (Go.Builtin.append_ #[78, 78] 78 #[(.slice (q108) k109 k110), (.slice (some ⟨(w106).heap.size, 0, none⟩) 1 1)]) w111 = .ok (.slice (q112) k113 k114) w115) ∧
             (X.Kept L107 w111 w115) ∧
             (X.FactsW x71 w115 (L107)) ∧
             ∃ q116 : Option Addr, ∃ k117 : Nat, ∃ k118 : Nat, ∃ w119 : World, (Sem.run Try.prog (Go.Builtin.append_ #[78, 78] 78 #[(.slice (q112) k113 k114), (.slice (X.cutA (q75) k77 (n68).toNat 22) (k76 - (n68).toNat) (k77 - (n68).toNat))]) w115 = .ok (.slice (q116) k117 k118) w119) ∧
             (X.Kept L107 w115 w119) ∧
             (X.FactsW x71 w119 (L107)) ∧
             ((none : Option Nat) = none) ∧
             (World.there w119 (a.block) ((a.off) + 1) 1) ∧
             (¬ ((a.block) ∈ L107)) ∧
             ∀ w120 : World, (X.Hid (L107) (w119.setCells (a.block) ((a.off) + 1) [(.slice (q116) k117 k118)]) w120) →
             R (.returned (.tuple #[(.agg #[(.int .u8 n16), (.int .u16 n17), (.int .u32 n18), (.int .u8 n19), (.int .u8 n20), (.int .u8 n21), (.int .u8 n22), (.int .u8 n23), (.int .u8 n24), (.int .u8 n25)]), (.int .i64 0)])) w120
     else
      ∀ w10 : World, (X.Hid (L2) w8 w10) →
      R (.returned (.tuple #[(.agg #[(.int .u8 0), (.int .u16 0), (.int .u32 0), (.int .u8 0), (.int .u8 0), (.int .u8 0), (.int .u8 0), (.int .u8 0), (.int .u8 0), (.int .u8 0)]), (.int .i64 1)])) w10
   else
    ∀ w6 : World, (X.Hid (L2) w4 w6) →
    R (.returned (.tuple #[(.agg #[(.int .u8 0), (.int .u16 0), (.int .u32 0), (.int .u8 0), (.int .u8 0), (.int .u8 0), (.int .u8 0), (.int .u8 0), (.int .u8 0), (.int .u8 0)]), (.int .i64 1)])) w6) :
    Calls Try.prog 10 #[.pointer (some a), .agg #[.int .u8 b_0, .int .u16 b_1, .int .u32 b_2, .int .u8 b_3, .int .u8 b_4, .int .u8 b_5, .int .u8 b_6, .int .u8 b_7, .int .u8 b_8, .int .u8 b_9, .int .u8 b_10, .int .u8 b_11, .string b_12, .string b_13, .int .i64 b_14, .slice b_15 b_15l b_15c, .int .u8 b_16, .string b_17, .string b_18, .string b_19, .bool b_20, .int .u32 b_21]] w R :=
  X.calls_of { isLoc := [3, 4, 6], sym := [], loops := [(11, .inv [(8, .int .i64)] [] true)], joins := [(0, ([(8, .int .i64)], []))], rjoins := [(11, ([(74, .bool)], [], []))] } Try.func10 (by kernel_rfl) h
end Go.Proofs
/- The verification conditions of this seat's functions, as the engine has them: printed by a program of the bench; checked by the kernel. -/
namespace Go.Proofs
open Go
abbrev fn_knows : Nat := 4
theorem x_knows  (w : World) (R : Ending → World → Prop) (h :
  X.CallX Try.prog 6 #[(.int .u8 0)] w fun e1 w2 =>
   ∃ q3 : Option Addr, (e1 = .returned (.pointer (q3))) ∧
   ((w).heap.size ≤ (w2).heap.size) ∧
   X.CallX Try.prog 9 #[(.int .i64 0)] w2 fun e4 w5 =>
    ∃ n6 : Int, ∃ n7 : Int, ∃ n8 : Int, ∃ n9 : Int, ∃ n10 : Int, ∃ n11 : Int, ∃ n12 : Int, ∃ n13 : Int, ∃ n14 : Int, ∃ n15 : Int, ∃ n16 : Int, ∃ n17 : Int, ∃ s18 : ByteArray, ∃ s19 : ByteArray, ∃ n20 : Int, ∃ q21 : Option Addr, ∃ k22 : Nat, ∃ k23 : Nat, ∃ n24 : Int, ∃ s25 : ByteArray, ∃ s26 : ByteArray, ∃ s27 : ByteArray, ∃ b28 : Bool, ∃ n29 : Int, (e4 = .returned (.agg #[(.int .u8 n6), (.int .u16 n7), (.int .u32 n8), (.int .u8 n9), (.int .u8 n10), (.int .u8 n11), (.int .u8 n12), (.int .u8 n13), (.int .u8 n14), (.int .u8 n15), (.int .u8 n16), (.int .u8 n17), (.string s18), (.string s19), (.int .i64 n20), (.slice (q21) k22 k23), (.int .u8 n24), (.string s25), (.string s26), (.string s27), (.bool b28), (.int .u32 n29)])) ∧
    ((w2).heap.size ≤ (w5).heap.size) ∧
    X.CallX Try.prog 8 #[(.pointer (q3)), (.agg #[(.int .u8 n6), (.int .u16 n7), (.int .u32 n8), (.int .u8 n9), (.int .u8 n10), (.int .u8 n11), (.int .u8 n12), (.int .u8 n13), (.int .u8 n14), (.int .u8 n15), (.int .u8 n16), (.int .u8 n17), (.string s18), (.string s19), (.int .i64 n20), (.slice (q21) k22 k23), (.int .u8 n24), (.string s25), (.string s26), (.string s27), (.bool b28), (.int .u32 n29)])] w5 fun e30 w31 =>
     ∃ n32 : Int, ∃ n33 : Int, ∃ n34 : Int, ∃ n35 : Int, ∃ n36 : Int, ∃ n37 : Int, ∃ n38 : Int, ∃ n39 : Int, ∃ n40 : Int, ∃ n41 : Int, ∃ n42 : Int, (e30 = .returned (.tuple #[(.agg #[(.int .u8 n32), (.int .u16 n33), (.int .u32 n34), (.int .u8 n35), (.int .u8 n36), (.int .u8 n37), (.int .u8 n38), (.int .u8 n39), (.int .u8 n40), (.int .u8 n41)]), (.int .i64 n42)])) ∧
     ((w5).heap.size ≤ (w31).heap.size) ∧
     ∀ w43 : World, ∀ L44 : List Nat, (X.Hid [] w31 w43) →
     (X.NewL (w).heap.size [] w31 w43 L44) →
     X.CallX Try.prog 16 #[(.pointer (q3)), (.agg #[(.int .u8 n32), (.int .u16 n33), (.int .u32 n34), (.int .u8 n35), (.int .u8 n36), (.int .u8 n37), (.int .u8 n38), (.int .u8 n39), (.int .u8 n40), (.int .u8 n41)])] w43 fun e45 w46 =>
      ∃ n47 : Int, ∃ n48 : Int, ∃ n49 : Int, ∃ n50 : Int, ∃ n51 : Int, ∃ n52 : Int, ∃ n53 : Int, ∃ n54 : Int, ∃ n55 : Int, ∃ n56 : Int, ∃ n57 : Int, ∃ n58 : Int, ∃ s59 : ByteArray, ∃ s60 : ByteArray, ∃ n61 : Int, ∃ q62 : Option Addr, ∃ k63 : Nat, ∃ k64 : Nat, ∃ n65 : Int, ∃ s66 : ByteArray, ∃ s67 : ByteArray, ∃ s68 : ByteArray, ∃ b69 : Bool, ∃ n70 : Int, ∃ b71 : Bool, (e45 = .returned (.tuple #[(.agg #[(.int .u8 n47), (.int .u16 n48), (.int .u32 n49), (.int .u8 n50), (.int .u8 n51), (.int .u8 n52), (.int .u8 n53), (.int .u8 n54), (.int .u8 n55), (.int .u8 n56), (.int .u8 n57), (.int .u8 n58), (.string s59), (.string s60), (.int .i64 n61), (.slice (q62) k63 k64), (.int .u8 n65), (.string s66), (.string s67), (.string s68), (.bool b69), (.int .u32 n70)]), (.bool b71)])) ∧
      (X.Kept L44 w43 w46) ∧
      ∀ w72 : World, ∀ L73 : List Nat, (X.Hid (L44) w46 w72) →
      (X.NewL (w).heap.size (L44) w46 w72 L73) →
      X.CallX Try.prog 16 #[(.pointer (q3)), (.agg #[(.int .u8 n32), (.int .u16 n33), (.int .u32 n34), (.int .u8 n35), (.int .u8 n36), (.int .u8 n37), (.int .u8 n38), (.int .u8 n39), (.int .u8 n40), (.int .u8 n41)])] w72 fun e74 w75 =>
       ∃ n76 : Int, ∃ n77 : Int, ∃ n78 : Int, ∃ n79 : Int, ∃ n80 : Int, ∃ n81 : Int, ∃ n82 : Int, ∃ n83 : Int, ∃ n84 : Int, ∃ n85 : Int, ∃ n86 : Int, ∃ n87 : Int, ∃ s88 : ByteArray, ∃ s89 : ByteArray, ∃ n90 : Int, ∃ q91 : Option Addr, ∃ k92 : Nat, ∃ k93 : Nat, ∃ n94 : Int, ∃ s95 : ByteArray, ∃ s96 : ByteArray, ∃ s97 : ByteArray, ∃ b98 : Bool, ∃ n99 : Int, ∃ b100 : Bool, (e74 = .returned (.tuple #[(.agg #[(.int .u8 n76), (.int .u16 n77), (.int .u32 n78), (.int .u8 n79), (.int .u8 n80), (.int .u8 n81), (.int .u8 n82), (.int .u8 n83), (.int .u8 n84), (.int .u8 n85), (.int .u8 n86), (.int .u8 n87), (.string s88), (.string s89), (.int .i64 n90), (.slice (q91) k92 k93), (.int .u8 n94), (.string s95), (.string s96), (.string s97), (.bool b98), (.int .u32 n99)]), (.bool b100)])) ∧
       (X.Kept L73 w72 w75) ∧
       ∀ w101 : World, ∀ L102 : List Nat, (X.Hid (L73) w75 w101) →
       (X.NewL (w).heap.size (L73) w75 w101 L102) →
       X.CallX Try.prog 14 #[(.int .i64 n42)] w101 fun e103 w104 =>
        ∃ n105 : Int, (e103 = .returned (.int .i64 n105)) ∧
        (X.Kept L102 w101 w104) ∧
        if ((((((n105 == 0) && b71) && (!b100)) && (((k63 : Nat) : Int) == 1)) && (n35 == 1)) == true) = true then
         X.CallX Try.prog 21 #[(.pointer (q3))] w104 fun e106 w107 =>
          ∃ n108 : Int, (e106 = .returned (.int .i64 n108)) ∧
          (X.Kept L102 w104 w107) ∧
          R (.returned (.bool (true && (n108 == 0)))) w107
        else
         R (.returned (.bool false)) w104) :
    Calls Try.prog 4 #[] w R :=
  X.calls_of { isLoc := [2, 4, 6], sym := [], loops := [], joins := [] } Try.func4 (by kernel_rfl) h
abbrev fn_ContPlays : Nat := 3
theorem x_ContPlays (a b : Int) (c : Option Addr) (cl cc : Nat) (w : World) (R : Ending → World → Prop) (h :
  if ((decide (((cl : Nat) : Int) > 60)) == false) = true then
   X.CallX Try.prog 4 #[] w fun e4 w5 =>
    ∃ b6 : Bool, (e4 = .returned (.bool b6)) ∧
    ((w).heap.size ≤ (w5).heap.size) ∧
    if (false || (!b6)) = true then
     X.CallX Try.prog 4 #[] w5 fun e1368 w1369 =>
      ∃ b1370 : Bool, (e1368 = .returned (.bool b1370)) ∧
      ((w5).heap.size ≤ (w1369).heap.size) ∧
      R (.returned (.bool b1370)) w1369
    else
     ∃ x7 : Int → World → List Nat → Prop, ∃ x8 : Int → World → Nat, (x7 0 w5 []) ∧
     ∀ n9 : Int, ∀ w10 : World, ∀ L11 : List Nat, (X.LF (w).heap.size w10 L11) →
     (x7 n9 w10 L11) →
     if (decide (n9 < ((cl : Nat) : Int))) = true then
      ((0 : Int) ≤ n9) ∧
      (n9 < ((cl : Nat) : Int)) ∧
      X.onSome (c) fun p1340 =>
      ∃ n1341 : Int, ∃ n1342 : Int, ∃ n1343 : Int, ∃ n1344 : Int, ∃ n1345 : Int, ∃ n1346 : Int, ∃ n1347 : Int, ∃ n1348 : Int, ∃ n1349 : Int, ∃ n1350 : Int, ∃ n1351 : Int, ∃ n1352 : Int, ∃ s1353 : ByteArray, ∃ s1354 : ByteArray, ∃ n1355 : Int, ∃ q1356 : Option Addr, ∃ k1357 : Nat, ∃ k1358 : Nat, ∃ n1359 : Int, ∃ s1360 : ByteArray, ∃ s1361 : ByteArray, ∃ s1362 : ByteArray, ∃ b1363 : Bool, ∃ n1364 : Int, (X.Cells w10 ((p1340.add ((n9).toNat * 33)).add 1) [(.int .u8 n1341), (.int .u16 n1342), (.int .u32 n1343), (.int .u8 n1344), (.int .u8 n1345), (.int .u8 n1346), (.int .u8 n1347), (.int .u8 n1348), (.int .u8 n1349), (.int .u8 n1350), (.int .u8 n1351), (.int .u8 n1352), (.string s1353), (.string s1354), (.int .i64 n1355), (.slice (q1356) k1357 k1358), (.int .u8 n1359), (.string s1360), (.string s1361), (.string s1362), (.bool b1363), (.int .u32 n1364)]) ∧
      X.CallX Try.prog 5 #[(.agg #[(.int .u8 n1341), (.int .u16 n1342), (.int .u32 n1343), (.int .u8 n1344), (.int .u8 n1345), (.int .u8 n1346), (.int .u8 n1347), (.int .u8 n1348), (.int .u8 n1349), (.int .u8 n1350), (.int .u8 n1351), (.int .u8 n1352), (.string s1353), (.string s1354), (.int .i64 n1355), (.slice (q1356) k1357 k1358), (.int .u8 n1359), (.string s1360), (.string s1361), (.string s1362), (.bool b1363), (.int .u32 n1364)])] w10 fun e1365 w1366 =>
       ∃ b1367 : Bool, (e1365 = .returned (.bool b1367)) ∧
       ((w10).heap.size ≤ (w1366).heap.size) ∧
       if (!b1367) = true then
        R (.returned (.bool true)) w1366
       else
        (x7 (IntKind.wrap .i64 (n9 + 1)) w1366 []) ∧
        Nat.le ((x8 (IntKind.wrap .i64 (n9 + 1)) w1366) + 1) (x8 n9 w10)
     else
      X.CallX Try.prog 6 #[(.int .u8 a)] w10 fun e12 w13 =>
       ∃ q14 : Option Addr, (e12 = .returned (.pointer (q14))) ∧
       ((w10).heap.size ≤ (w13).heap.size) ∧
       X.CallX Try.prog 7 #[(.int .u8 a)] w13 fun e15 w16 =>
        ∃ q17 : Option Addr, (e15 = .returned (.pointer (q17))) ∧
        ((w13).heap.size ≤ (w16).heap.size) ∧
        if (!((q14.isNone) == (q17.isNone))) = true then
         R (.returned (.bool false)) w16
        else
         ∃ x18 : Int → World → List Nat → Prop, ∃ x19 : Int → World → Nat, (x18 0 w16 []) ∧
         ∀ n20 : Int, ∀ w21 : World, ∀ L22 : List Nat, (X.LF (w).heap.size w21 L22) →
         (x18 n20 w21 L22) →
         if (decide (n20 < ((IntKind.i64.wrap (b.tmod 66 + 66)).tmod 66)) && (!(q17.isNone))) = true then
          X.CallX Try.prog 9 #[(.int .i64 (IntKind.wrap .i64 (100 + n20)))] w21 fun e1236 w1237 =>
           ∃ n1238 : Int, ∃ n1239 : Int, ∃ n1240 : Int, ∃ n1241 : Int, ∃ n1242 : Int, ∃ n1243 : Int, ∃ n1244 : Int, ∃ n1245 : Int, ∃ n1246 : Int, ∃ n1247 : Int, ∃ n1248 : Int, ∃ n1249 : Int, ∃ s1250 : ByteArray, ∃ s1251 : ByteArray, ∃ n1252 : Int, ∃ q1253 : Option Addr, ∃ k1254 : Nat, ∃ k1255 : Nat, ∃ n1256 : Int, ∃ s1257 : ByteArray, ∃ s1258 : ByteArray, ∃ s1259 : ByteArray, ∃ b1260 : Bool, ∃ n1261 : Int, (e1236 = .returned (.agg #[(.int .u8 n1238), (.int .u16 n1239), (.int .u32 n1240), (.int .u8 n1241), (.int .u8 n1242), (.int .u8 n1243), (.int .u8 n1244), (.int .u8 n1245), (.int .u8 n1246), (.int .u8 n1247), (.int .u8 n1248), (.int .u8 n1249), (.string s1250), (.string s1251), (.int .i64 n1252), (.slice (q1253) k1254 k1255), (.int .u8 n1256), (.string s1257), (.string s1258), (.string s1259), (.bool b1260), (.int .u32 n1261)])) ∧
           ((w21).heap.size ≤ (w1237).heap.size) ∧
           X.CallX Try.prog 8 #[(.pointer (q14)), (.agg #[(.int .u8 n1238), (.int .u16 n1239), (.int .u32 n1240), (.int .u8 n1241), (.int .u8 n1242), (.int .u8 n1243), (.int .u8 n1244), (.int .u8 n1245), (.int .u8 n1246), (.int .u8 n1247), (.int .u8 n1248), (.int .u8 n1249), (.string s1250), (.string s1251), (.int .i64 n1252), (.slice (q1253) k1254 k1255), (.int .u8 n1256), (.string s1257), (.string s1258), (.string s1259), (.bool b1260), (.int .u32 n1261)])] w1237 fun e1262 w1263 =>
            ∃ n1264 : Int, ∃ n1265 : Int, ∃ n1266 : Int, ∃ n1267 : Int, ∃ n1268 : Int, ∃ n1269 : Int, ∃ n1270 : Int, ∃ n1271 : Int, ∃ n1272 : Int, ∃ n1273 : Int, ∃ n1274 : Int, (e1262 = .returned (.tuple #[(.agg #[(.int .u8 n1264), (.int .u16 n1265), (.int .u32 n1266), (.int .u8 n1267), (.int .u8 n1268), (.int .u8 n1269), (.int .u8 n1270), (.int .u8 n1271), (.int .u8 n1272), (.int .u8 n1273)]), (.int .i64 n1274)])) ∧
            ((w1237).heap.size ≤ (w1263).heap.size) ∧
            X.CallX Try.prog 9 #[(.int .i64 (IntKind.wrap .i64 (100 + n20)))] w1263 fun e1275 w1276 =>
             ∃ n1277 : Int, ∃ n1278 : Int, ∃ n1279 : Int, ∃ n1280 : Int, ∃ n1281 : Int, ∃ n1282 : Int, ∃ n1283 : Int, ∃ n1284 : Int, ∃ n1285 : Int, ∃ n1286 : Int, ∃ n1287 : Int, ∃ n1288 : Int, ∃ s1289 : ByteArray, ∃ s1290 : ByteArray, ∃ n1291 : Int, ∃ q1292 : Option Addr, ∃ k1293 : Nat, ∃ k1294 : Nat, ∃ n1295 : Int, ∃ s1296 : ByteArray, ∃ s1297 : ByteArray, ∃ s1298 : ByteArray, ∃ b1299 : Bool, ∃ n1300 : Int, (e1275 = .returned (.agg #[(.int .u8 n1277), (.int .u16 n1278), (.int .u32 n1279), (.int .u8 n1280), (.int .u8 n1281), (.int .u8 n1282), (.int .u8 n1283), (.int .u8 n1284), (.int .u8 n1285), (.int .u8 n1286), (.int .u8 n1287), (.int .u8 n1288), (.string s1289), (.string s1290), (.int .i64 n1291), (.slice (q1292) k1293 k1294), (.int .u8 n1295), (.string s1296), (.string s1297), (.string s1298), (.bool b1299), (.int .u32 n1300)])) ∧
             ((w1263).heap.size ≤ (w1276).heap.size) ∧
             X.CallX Try.prog 11 #[(.agg #[(.int .u8 n1277), (.int .u16 n1278), (.int .u32 n1279), (.int .u8 n1280), (.int .u8 n1281), (.int .u8 n1282), (.int .u8 n1283), (.int .u8 n1284), (.int .u8 n1285), (.int .u8 n1286), (.int .u8 n1287), (.int .u8 n1288), (.string s1289), (.string s1290), (.int .i64 n1291), (.slice (q1292) k1293 k1294), (.int .u8 n1295), (.string s1296), (.string s1297), (.string s1298), (.bool b1299), (.int .u32 n1300)])] w1276 fun e1301 w1302 =>
              ∃ n1303 : Int, ∃ n1304 : Int, ∃ n1305 : Int, ∃ n1306 : Int, ∃ n1307 : Int, ∃ n1308 : Int, ∃ n1309 : Int, ∃ n1310 : Int, ∃ n1311 : Int, ∃ n1312 : Int, ∃ n1313 : Int, ∃ n1314 : Int, ∃ s1315 : ByteArray, ∃ s1316 : ByteArray, ∃ n1317 : Int, ∃ q1318 : Option Addr, ∃ k1319 : Nat, ∃ k1320 : Nat, ∃ n1321 : Int, ∃ s1322 : ByteArray, ∃ s1323 : ByteArray, ∃ s1324 : ByteArray, ∃ b1325 : Bool, ∃ n1326 : Int, (e1301 = .returned (.agg #[(.int .u8 n1303), (.int .u16 n1304), (.int .u32 n1305), (.int .u8 n1306), (.int .u8 n1307), (.int .u8 n1308), (.int .u8 n1309), (.int .u8 n1310), (.int .u8 n1311), (.int .u8 n1312), (.int .u8 n1313), (.int .u8 n1314), (.string s1315), (.string s1316), (.int .i64 n1317), (.slice (q1318) k1319 k1320), (.int .u8 n1321), (.string s1322), (.string s1323), (.string s1324), (.bool b1325), (.int .u32 n1326)])) ∧
              ((w1276).heap.size ≤ (w1302).heap.size) ∧
              X.CallX Try.prog 10 #[(.pointer (q17)), (.agg #[(.int .u8 n1303), (.int .u16 n1304), (.int .u32 n1305), (.int .u8 n1306), (.int .u8 n1307), (.int .u8 n1308), (.int .u8 n1309), (.int .u8 n1310), (.int .u8 n1311), (.int .u8 n1312), (.int .u8 n1313), (.int .u8 n1314), (.string s1315), (.string s1316), (.int .i64 n1317), (.slice (q1318) k1319 k1320), (.int .u8 n1321), (.string s1322), (.string s1323), (.string s1324), (.bool b1325), (.int .u32 n1326)])] w1302 fun e1327 w1328 =>
               ∃ n1329 : Int, ∃ n1330 : Int, ∃ n1331 : Int, ∃ n1332 : Int, ∃ n1333 : Int, ∃ n1334 : Int, ∃ n1335 : Int, ∃ n1336 : Int, ∃ n1337 : Int, ∃ n1338 : Int, ∃ n1339 : Int, (e1327 = .returned (.tuple #[(.agg #[(.int .u8 n1329), (.int .u16 n1330), (.int .u32 n1331), (.int .u8 n1332), (.int .u8 n1333), (.int .u8 n1334), (.int .u8 n1335), (.int .u8 n1336), (.int .u8 n1337), (.int .u8 n1338)]), (.int .i64 n1339)])) ∧
               ((w1302).heap.size ≤ (w1328).heap.size) ∧
               (x18 (IntKind.wrap .i64 (n20 + 1)) w1328 []) ∧
               Nat.le ((x19 (IntKind.wrap .i64 (n20 + 1)) w1328) + 1) (x19 n20 w21)
         else
          ∃ x23 : Option Addr → Int → World → List Nat → Prop, ∃ x24 : Option Addr → Int → World → Nat, (x23 q14 0 w21 []) ∧
          ∀ q25 : Option Addr, ∀ n26 : Int, ∀ w27 : World, ∀ L28 : List Nat, (X.LF (w).heap.size w27 L28) →
          (x23 q25 n26 w27 L28) →
          if (decide (n26 < ((cl : Nat) : Int)) && (!(q17.isNone))) = true then
           ((0 : Int) ≤ n26) ∧
           (n26 < ((cl : Nat) : Int)) ∧
           X.onSome (c) fun p29 =>
           ∃ n30 : Int, ∃ n31 : Int, ∃ n32 : Int, ∃ n33 : Int, ∃ n34 : Int, ∃ n35 : Int, ∃ n36 : Int, ∃ n37 : Int, ∃ n38 : Int, ∃ n39 : Int, ∃ n40 : Int, ∃ n41 : Int, ∃ n42 : Int, ∃ s43 : ByteArray, ∃ s44 : ByteArray, ∃ n45 : Int, ∃ q46 : Option Addr, ∃ k47 : Nat, ∃ k48 : Nat, ∃ n49 : Int, ∃ s50 : ByteArray, ∃ s51 : ByteArray, ∃ s52 : ByteArray, ∃ b53 : Bool, ∃ n54 : Int, ∃ n55 : Int, ∃ n56 : Int, ∃ n57 : Int, ∃ n58 : Int, ∃ n59 : Int, ∃ n60 : Int, ∃ n61 : Int, ∃ n62 : Int, ∃ n63 : Int, ∃ n64 : Int, (X.Cells w27 (p29.add ((n26).toNat * 33)) [(.int .i64 n30), (.int .u8 n31), (.int .u16 n32), (.int .u32 n33), (.int .u8 n34), (.int .u8 n35), (.int .u8 n36), (.int .u8 n37), (.int .u8 n38), (.int .u8 n39), (.int .u8 n40), (.int .u8 n41), (.int .u8 n42), (.string s43), (.string s44), (.int .i64 n45), (.slice (q46) k47 k48), (.int .u8 n49), (.string s50), (.string s51), (.string s52), (.bool b53), (.int .u32 n54), (.int .u8 n55), (.int .u16 n56), (.int .u32 n57), (.int .u8 n58), (.int .u8 n59), (.int .u8 n60), (.int .u8 n61), (.int .u8 n62), (.int .u8 n63), (.int .u8 n64)]) ∧
           ∃ x65 : Option Addr → Bool → Int → Int → Int → Int → Int → Int → Int → Int → Int → Int → Int → Int → Int → ByteArray → ByteArray → Int → Option Addr → Nat → Nat → Int → ByteArray → ByteArray → ByteArray → Bool → Int → Int → Int → Int → Int → Int → Int → Int → Int → Int → Int → World → List Nat → Prop, (if (n30 == 0) = true then
             if (n30 == 0) = true then
              ∀ w1044 : World, ∀ L1045 : List Nat, (X.Hid [] w27 w1044) →
              (X.NewL (w).heap.size [] w27 w1044 L1045) →
              X.CallX Try.prog 12 #[(.agg #[(.int .u8 n31), (.int .u16 n32), (.int .u32 n33), (.int .u8 n34), (.int .u8 n35), (.int .u8 n36), (.int .u8 n37), (.int .u8 n38), (.int .u8 n39), (.int .u8 n40), (.int .u8 n41), (.int .u8 n42), (.string s43), (.string s44), (.int .i64 n45), (.slice (q46) k47 k48), (.int .u8 n49), (.string s50), (.string s51), (.string s52), (.bool b53), (.int .u32 n54)])] w1044 fun e1046 w1047 =>
               ∃ n1048 : Int, ∃ n1049 : Int, ∃ n1050 : Int, ∃ n1051 : Int, ∃ n1052 : Int, ∃ n1053 : Int, ∃ n1054 : Int, ∃ n1055 : Int, ∃ n1056 : Int, ∃ n1057 : Int, ∃ n1058 : Int, ∃ n1059 : Int, ∃ s1060 : ByteArray, ∃ s1061 : ByteArray, ∃ n1062 : Int, ∃ q1063 : Option Addr, ∃ k1064 : Nat, ∃ k1065 : Nat, ∃ n1066 : Int, ∃ s1067 : ByteArray, ∃ s1068 : ByteArray, ∃ s1069 : ByteArray, ∃ b1070 : Bool, ∃ n1071 : Int, (e1046 = .returned (.agg #[(.int .u8 n1048), (.int .u16 n1049), (.int .u32 n1050), (.int .u8 n1051), (.int .u8 n1052), (.int .u8 n1053), (.int .u8 n1054), (.int .u8 n1055), (.int .u8 n1056), (.int .u8 n1057), (.int .u8 n1058), (.int .u8 n1059), (.string s1060), (.string s1061), (.int .i64 n1062), (.slice (q1063) k1064 k1065), (.int .u8 n1066), (.string s1067), (.string s1068), (.string s1069), (.bool b1070), (.int .u32 n1071)])) ∧
               (X.Kept L1045 w1044 w1047) ∧
               X.CallX Try.prog 8 #[(.pointer (q25)), (.agg #[(.int .u8 n1048), (.int .u16 n1049), (.int .u32 n1050), (.int .u8 n1051), (.int .u8 n1052), (.int .u8 n1053), (.int .u8 n1054), (.int .u8 n1055), (.int .u8 n1056), (.int .u8 n1057), (.int .u8 n1058), (.int .u8 n1059), (.string s1060), (.string s1061), (.int .i64 n1062), (.slice (q1063) k1064 k1065), (.int .u8 n1066), (.string s1067), (.string s1068), (.string s1069), (.bool b1070), (.int .u32 n1071)])] w1047 fun e1072 w1073 =>
                ∃ n1074 : Int, ∃ n1075 : Int, ∃ n1076 : Int, ∃ n1077 : Int, ∃ n1078 : Int, ∃ n1079 : Int, ∃ n1080 : Int, ∃ n1081 : Int, ∃ n1082 : Int, ∃ n1083 : Int, ∃ n1084 : Int, (e1072 = .returned (.tuple #[(.agg #[(.int .u8 n1074), (.int .u16 n1075), (.int .u32 n1076), (.int .u8 n1077), (.int .u8 n1078), (.int .u8 n1079), (.int .u8 n1080), (.int .u8 n1081), (.int .u8 n1082), (.int .u8 n1083)]), (.int .i64 n1084)])) ∧
                (X.Kept L1045 w1047 w1073) ∧
                ∀ w1085 : World, ∀ L1086 : List Nat, (X.Hid (L1045) w1073 w1085) →
                (X.NewL (w).heap.size (L1045) w1073 w1085 L1086) →
                X.CallX Try.prog 10 #[(.pointer (q17)), (.agg #[(.int .u8 n31), (.int .u16 n32), (.int .u32 n33), (.int .u8 n34), (.int .u8 n35), (.int .u8 n36), (.int .u8 n37), (.int .u8 n38), (.int .u8 n39), (.int .u8 n40), (.int .u8 n41), (.int .u8 n42), (.string s43), (.string s44), (.int .i64 n45), (.slice (q46) k47 k48), (.int .u8 n49), (.string s50), (.string s51), (.string s52), (.bool b53), (.int .u32 n54)])] w1085 fun e1087 w1088 =>
                 ∃ n1089 : Int, ∃ n1090 : Int, ∃ n1091 : Int, ∃ n1092 : Int, ∃ n1093 : Int, ∃ n1094 : Int, ∃ n1095 : Int, ∃ n1096 : Int, ∃ n1097 : Int, ∃ n1098 : Int, ∃ n1099 : Int, (e1087 = .returned (.tuple #[(.agg #[(.int .u8 n1089), (.int .u16 n1090), (.int .u32 n1091), (.int .u8 n1092), (.int .u8 n1093), (.int .u8 n1094), (.int .u8 n1095), (.int .u8 n1096), (.int .u8 n1097), (.int .u8 n1098)]), (.int .i64 n1099)])) ∧
                 (X.Kept L1086 w1085 w1088) ∧
                 ∃ x1100 : X.Facts, (X.FactsW x1100 w1088 (L1086)) ∧
                 ∀ w1101 : World, ∀ L1102 : List Nat, (X.Hid (L1086) w1088 w1101) →
                 (X.NewL (w).heap.size (L1086) w1088 w1101 L1102) →
                 X.CallX Try.prog 13 #[(.agg #[(.int .u8 n1074), (.int .u16 n1075), (.int .u32 n1076), (.int .u8 n1077), (.int .u8 n1078), (.int .u8 n1079), (.int .u8 n1080), (.int .u8 n1081), (.int .u8 n1082), (.int .u8 n1083)])] w1101 fun e1103 w1104 =>
                  ∃ n1105 : Int, ∃ n1106 : Int, ∃ n1107 : Int, ∃ n1108 : Int, ∃ n1109 : Int, ∃ n1110 : Int, ∃ n1111 : Int, ∃ n1112 : Int, ∃ n1113 : Int, ∃ n1114 : Int, (e1103 = .returned (.agg #[(.int .u8 n1105), (.int .u16 n1106), (.int .u32 n1107), (.int .u8 n1108), (.int .u8 n1109), (.int .u8 n1110), (.int .u8 n1111), (.int .u8 n1112), (.int .u8 n1113), (.int .u8 n1114)])) ∧
                  (X.Kept L1102 w1101 w1104) ∧
                  (X.FactsW x1100 w1104 (L1102)) ∧
                  if ((((n1105 == n1089) && (n1106 == n1090)) && ((n1107 == n1091) && ((n1108 == n1092) && (((n1109 == n1093) && (n1110 == n1094)) && (((n1111 == n1095) && (n1112 == n1096)) && ((n1113 == n1097) && (n1114 == n1098))))))) == true) = true then
                   X.CallX Try.prog 14 #[(.int .i64 n1084)] w1104 fun e1115 w1116 =>
                    ∃ n1117 : Int, (e1115 = .returned (.int .i64 n1117)) ∧
                    (X.Kept L1102 w1104 w1116) ∧
                    (X.FactsW x1100 w1116 (L1102)) ∧
                    x65 q25 (true && (n1117 == n1099)) n30 n31 n32 n33 n34 n35 n36 n37 n38 n39 n40 n41 n42 s43 s44 n45 q46 k47 k48 n49 s50 s51 s52 b53 n54 n55 n56 n57 n58 n59 n60 n61 n62 n63 n64 w1116 (L1102)
                  else
                   x65 q25 false n30 n31 n32 n33 n34 n35 n36 n37 n38 n39 n40 n41 n42 s43 s44 n45 q46 k47 k48 n49 s50 s51 s52 b53 n54 n55 n56 n57 n58 n59 n60 n61 n62 n63 n64 w1104 (L1102)
             else
              if (n30 == 2) = true then
               if (n30 == 2) = true then
                if (n30 == 3) = true then
                 ∀ w927 : World, ∀ L928 : List Nat, (X.Hid [] w27 w927) →
                 (X.NewL (w).heap.size [] w27 w927 L928) →
                 X.CallX Try.prog 15 #[(.pointer (q17)), (.agg #[(.int .u8 n31), (.int .u16 n32), (.int .u32 n33), (.int .u8 n34), (.int .u8 n35), (.int .u8 n36), (.int .u8 n37), (.int .u8 n38), (.int .u8 n39), (.int .u8 n40), (.int .u8 n41), (.int .u8 n42), (.string s43), (.string s44), (.int .i64 n45), (.slice (q46) k47 k48), (.int .u8 n49), (.string s50), (.string s51), (.string s52), (.bool b53), (.int .u32 n54)])] w927 fun e929 w930 =>
                  ∃ n931 : Int, ∃ n932 : Int, ∃ n933 : Int, ∃ n934 : Int, ∃ n935 : Int, ∃ n936 : Int, ∃ n937 : Int, ∃ n938 : Int, ∃ n939 : Int, ∃ n940 : Int, ∃ n941 : Int, (e929 = .returned (.tuple #[(.agg #[(.int .u8 n931), (.int .u16 n932), (.int .u32 n933), (.int .u8 n934), (.int .u8 n935), (.int .u8 n936), (.int .u8 n937), (.int .u8 n938), (.int .u8 n939), (.int .u8 n940)]), (.int .i64 n941)])) ∧
                  (X.Kept L928 w927 w930) ∧
                  ∀ w942 : World, ∀ L943 : List Nat, (X.Hid (L928) w930 w942) →
                  (X.NewL (w).heap.size (L928) w930 w942 L943) →
                  X.CallX Try.prog 17 #[(.agg #[(.int .u8 n931), (.int .u16 n932), (.int .u32 n933), (.int .u8 n934), (.int .u8 n935), (.int .u8 n936), (.int .u8 n937), (.int .u8 n938), (.int .u8 n939), (.int .u8 n940)])] w942 fun e944 w945 =>
                   ∃ n946 : Int, ∃ n947 : Int, ∃ n948 : Int, ∃ n949 : Int, ∃ n950 : Int, ∃ n951 : Int, ∃ n952 : Int, ∃ n953 : Int, ∃ n954 : Int, ∃ n955 : Int, (e944 = .returned (.agg #[(.int .u8 n946), (.int .u16 n947), (.int .u32 n948), (.int .u8 n949), (.int .u8 n950), (.int .u8 n951), (.int .u8 n952), (.int .u8 n953), (.int .u8 n954), (.int .u8 n955)])) ∧
                   (X.Kept L943 w942 w945) ∧
                   X.CallX Try.prog 16 #[(.pointer (q25)), (.agg #[(.int .u8 n946), (.int .u16 n947), (.int .u32 n948), (.int .u8 n949), (.int .u8 n950), (.int .u8 n951), (.int .u8 n952), (.int .u8 n953), (.int .u8 n954), (.int .u8 n955)])] w945 fun e956 w957 =>
                    ∃ n958 : Int, ∃ n959 : Int, ∃ n960 : Int, ∃ n961 : Int, ∃ n962 : Int, ∃ n963 : Int, ∃ n964 : Int, ∃ n965 : Int, ∃ n966 : Int, ∃ n967 : Int, ∃ n968 : Int, ∃ n969 : Int, ∃ s970 : ByteArray, ∃ s971 : ByteArray, ∃ n972 : Int, ∃ q973 : Option Addr, ∃ k974 : Nat, ∃ k975 : Nat, ∃ n976 : Int, ∃ s977 : ByteArray, ∃ s978 : ByteArray, ∃ s979 : ByteArray, ∃ b980 : Bool, ∃ n981 : Int, ∃ b982 : Bool, (e956 = .returned (.tuple #[(.agg #[(.int .u8 n958), (.int .u16 n959), (.int .u32 n960), (.int .u8 n961), (.int .u8 n962), (.int .u8 n963), (.int .u8 n964), (.int .u8 n965), (.int .u8 n966), (.int .u8 n967), (.int .u8 n968), (.int .u8 n969), (.string s970), (.string s971), (.int .i64 n972), (.slice (q973) k974 k975), (.int .u8 n976), (.string s977), (.string s978), (.string s979), (.bool b980), (.int .u32 n981)]), (.bool b982)])) ∧
                    (X.Kept L943 w945 w957) ∧
                    ∀ w983 : World, ∀ L984 : List Nat, (X.Hid (L943) w957 w983) →
                    (X.NewL (w).heap.size (L943) w957 w983 L984) →
                    X.CallX Try.prog 18 #[(.pointer (q17)), (.agg #[(.int .u8 n931), (.int .u16 n932), (.int .u32 n933), (.int .u8 n934), (.int .u8 n935), (.int .u8 n936), (.int .u8 n937), (.int .u8 n938), (.int .u8 n939), (.int .u8 n940)])] w983 fun e985 w986 =>
                     ∃ n987 : Int, ∃ n988 : Int, ∃ n989 : Int, ∃ n990 : Int, ∃ n991 : Int, ∃ n992 : Int, ∃ n993 : Int, ∃ n994 : Int, ∃ n995 : Int, ∃ n996 : Int, ∃ n997 : Int, ∃ n998 : Int, ∃ s999 : ByteArray, ∃ s1000 : ByteArray, ∃ n1001 : Int, ∃ q1002 : Option Addr, ∃ k1003 : Nat, ∃ k1004 : Nat, ∃ n1005 : Int, ∃ s1006 : ByteArray, ∃ s1007 : ByteArray, ∃ s1008 : ByteArray, ∃ b1009 : Bool, ∃ n1010 : Int, ∃ b1011 : Bool, (e985 = .returned (.tuple #[(.agg #[(.int .u8 n987), (.int .u16 n988), (.int .u32 n989), (.int .u8 n990), (.int .u8 n991), (.int .u8 n992), (.int .u8 n993), (.int .u8 n994), (.int .u8 n995), (.int .u8 n996), (.int .u8 n997), (.int .u8 n998), (.string s999), (.string s1000), (.int .i64 n1001), (.slice (q1002) k1003 k1004), (.int .u8 n1005), (.string s1006), (.string s1007), (.string s1008), (.bool b1009), (.int .u32 n1010)]), (.bool b1011)])) ∧
                     (X.Kept L984 w983 w986) ∧
                     ∃ x1012 : X.Facts, (X.FactsW x1012 w986 (L984)) ∧
                     ∀ w1013 : World, ∀ L1014 : List Nat, (X.Hid (L984) w986 w1013) →
                     (X.NewL (w).heap.size (L984) w986 w1013 L1014) →
                     X.CallX Try.prog 11 #[(.agg #[(.int .u8 n958), (.int .u16 n959), (.int .u32 n960), (.int .u8 n961), (.int .u8 n962), (.int .u8 n963), (.int .u8 n964), (.int .u8 n965), (.int .u8 n966), (.int .u8 n967), (.int .u8 n968), (.int .u8 n969), (.string s970), (.string s971), (.int .i64 n972), (.slice (q973) k974 k975), (.int .u8 n976), (.string s977), (.string s978), (.string s979), (.bool b980), (.int .u32 n981)])] w1013 fun e1015 w1016 =>
                      ∃ n1017 : Int, ∃ n1018 : Int, ∃ n1019 : Int, ∃ n1020 : Int, ∃ n1021 : Int, ∃ n1022 : Int, ∃ n1023 : Int, ∃ n1024 : Int, ∃ n1025 : Int, ∃ n1026 : Int, ∃ n1027 : Int, ∃ n1028 : Int, ∃ s1029 : ByteArray, ∃ s1030 : ByteArray, ∃ n1031 : Int, ∃ q1032 : Option Addr, ∃ k1033 : Nat, ∃ k1034 : Nat, ∃ n1035 : Int, ∃ s1036 : ByteArray, ∃ s1037 : ByteArray, ∃ s1038 : ByteArray, ∃ b1039 : Bool, ∃ n1040 : Int, (e1015 = .returned (.agg #[(.int .u8 n1017), (.int .u16 n1018), (.int .u32 n1019), (.int .u8 n1020), (.int .u8 n1021), (.int .u8 n1022), (.int .u8 n1023), (.int .u8 n1024), (.int .u8 n1025), (.int .u8 n1026), (.int .u8 n1027), (.int .u8 n1028), (.string s1029), (.string s1030), (.int .i64 n1031), (.slice (q1032) k1033 k1034), (.int .u8 n1035), (.string s1036), (.string s1037), (.string s1038), (.bool b1039), (.int .u32 n1040)])) ∧
                      (X.Kept L1014 w1013 w1016) ∧
                      (X.FactsW x1012 w1016 (L1014)) ∧
                      X.CallX Try.prog 19 #[(.agg #[(.int .u8 n1017), (.int .u16 n1018), (.int .u32 n1019), (.int .u8 n1020), (.int .u8 n1021), (.int .u8 n1022), (.int .u8 n1023), (.int .u8 n1024), (.int .u8 n1025), (.int .u8 n1026), (.int .u8 n1027), (.int .u8 n1028), (.string s1029), (.string s1030), (.int .i64 n1031), (.slice (q1032) k1033 k1034), (.int .u8 n1035), (.string s1036), (.string s1037), (.string s1038), (.bool b1039), (.int .u32 n1040)]), (.agg #[(.int .u8 n987), (.int .u16 n988), (.int .u32 n989), (.int .u8 n990), (.int .u8 n991), (.int .u8 n992), (.int .u8 n993), (.int .u8 n994), (.int .u8 n995), (.int .u8 n996), (.int .u8 n997), (.int .u8 n998), (.string s999), (.string s1000), (.int .i64 n1001), (.slice (q1002) k1003 k1004), (.int .u8 n1005), (.string s1006), (.string s1007), (.string s1008), (.bool b1009), (.int .u32 n1010)])] w1016 fun e1041 w1042 =>
                       ∃ b1043 : Bool, (e1041 = .returned (.bool b1043)) ∧
                       (X.Kept L1014 w1016 w1042) ∧
                       (X.FactsW x1012 w1042 (L1014)) ∧
                       x65 q25 (b1043 && (b982 == b1011)) n30 n31 n32 n33 n34 n35 n36 n37 n38 n39 n40 n41 n42 s43 s44 n45 q46 k47 k48 n49 s50 s51 s52 b53 n54 n931 n932 n933 n934 n935 n936 n937 n938 n939 n940 w1042 (L1014)
                else
                 ∀ w825 : World, ∀ L826 : List Nat, (X.Hid [] w27 w825) →
                 (X.NewL (w).heap.size [] w27 w825 L826) →
                 X.CallX Try.prog 17 #[(.agg #[(.int .u8 n55), (.int .u16 n56), (.int .u32 n57), (.int .u8 n58), (.int .u8 n59), (.int .u8 n60), (.int .u8 n61), (.int .u8 n62), (.int .u8 n63), (.int .u8 n64)])] w825 fun e827 w828 =>
                  ∃ n829 : Int, ∃ n830 : Int, ∃ n831 : Int, ∃ n832 : Int, ∃ n833 : Int, ∃ n834 : Int, ∃ n835 : Int, ∃ n836 : Int, ∃ n837 : Int, ∃ n838 : Int, (e827 = .returned (.agg #[(.int .u8 n829), (.int .u16 n830), (.int .u32 n831), (.int .u8 n832), (.int .u8 n833), (.int .u8 n834), (.int .u8 n835), (.int .u8 n836), (.int .u8 n837), (.int .u8 n838)])) ∧
                  (X.Kept L826 w825 w828) ∧
                  X.CallX Try.prog 16 #[(.pointer (q25)), (.agg #[(.int .u8 n829), (.int .u16 n830), (.int .u32 n831), (.int .u8 n832), (.int .u8 n833), (.int .u8 n834), (.int .u8 n835), (.int .u8 n836), (.int .u8 n837), (.int .u8 n838)])] w828 fun e839 w840 =>
                   ∃ n841 : Int, ∃ n842 : Int, ∃ n843 : Int, ∃ n844 : Int, ∃ n845 : Int, ∃ n846 : Int, ∃ n847 : Int, ∃ n848 : Int, ∃ n849 : Int, ∃ n850 : Int, ∃ n851 : Int, ∃ n852 : Int, ∃ s853 : ByteArray, ∃ s854 : ByteArray, ∃ n855 : Int, ∃ q856 : Option Addr, ∃ k857 : Nat, ∃ k858 : Nat, ∃ n859 : Int, ∃ s860 : ByteArray, ∃ s861 : ByteArray, ∃ s862 : ByteArray, ∃ b863 : Bool, ∃ n864 : Int, ∃ b865 : Bool, (e839 = .returned (.tuple #[(.agg #[(.int .u8 n841), (.int .u16 n842), (.int .u32 n843), (.int .u8 n844), (.int .u8 n845), (.int .u8 n846), (.int .u8 n847), (.int .u8 n848), (.int .u8 n849), (.int .u8 n850), (.int .u8 n851), (.int .u8 n852), (.string s853), (.string s854), (.int .i64 n855), (.slice (q856) k857 k858), (.int .u8 n859), (.string s860), (.string s861), (.string s862), (.bool b863), (.int .u32 n864)]), (.bool b865)])) ∧
                   (X.Kept L826 w828 w840) ∧
                   ∀ w866 : World, ∀ L867 : List Nat, (X.Hid (L826) w840 w866) →
                   (X.NewL (w).heap.size (L826) w840 w866 L867) →
                   X.CallX Try.prog 18 #[(.pointer (q17)), (.agg #[(.int .u8 n55), (.int .u16 n56), (.int .u32 n57), (.int .u8 n58), (.int .u8 n59), (.int .u8 n60), (.int .u8 n61), (.int .u8 n62), (.int .u8 n63), (.int .u8 n64)])] w866 fun e868 w869 =>
                    ∃ n870 : Int, ∃ n871 : Int, ∃ n872 : Int, ∃ n873 : Int, ∃ n874 : Int, ∃ n875 : Int, ∃ n876 : Int, ∃ n877 : Int, ∃ n878 : Int, ∃ n879 : Int, ∃ n880 : Int, ∃ n881 : Int, ∃ s882 : ByteArray, ∃ s883 : ByteArray, ∃ n884 : Int, ∃ q885 : Option Addr, ∃ k886 : Nat, ∃ k887 : Nat, ∃ n888 : Int, ∃ s889 : ByteArray, ∃ s890 : ByteArray, ∃ s891 : ByteArray, ∃ b892 : Bool, ∃ n893 : Int, ∃ b894 : Bool, (e868 = .returned (.tuple #[(.agg #[(.int .u8 n870), (.int .u16 n871), (.int .u32 n872), (.int .u8 n873), (.int .u8 n874), (.int .u8 n875), (.int .u8 n876), (.int .u8 n877), (.int .u8 n878), (.int .u8 n879), (.int .u8 n880), (.int .u8 n881), (.string s882), (.string s883), (.int .i64 n884), (.slice (q885) k886 k887), (.int .u8 n888), (.string s889), (.string s890), (.string s891), (.bool b892), (.int .u32 n893)]), (.bool b894)])) ∧
                    (X.Kept L867 w866 w869) ∧
                    ∃ x895 : X.Facts, (X.FactsW x895 w869 (L867)) ∧
                    ∀ w896 : World, ∀ L897 : List Nat, (X.Hid (L867) w869 w896) →
                    (X.NewL (w).heap.size (L867) w869 w896 L897) →
                    X.CallX Try.prog 11 #[(.agg #[(.int .u8 n841), (.int .u16 n842), (.int .u32 n843), (.int .u8 n844), (.int .u8 n845), (.int .u8 n846), (.int .u8 n847), (.int .u8 n848), (.int .u8 n849), (.int .u8 n850), (.int .u8 n851), (.int .u8 n852), (.string s853), (.string s854), (.int .i64 n855), (.slice (q856) k857 k858), (.int .u8 n859), (.string s860), (.string s861), (.string s862), (.bool b863), (.int .u32 n864)])] w896 fun e898 w899 =>
                     ∃ n900 : Int, ∃ n901 : Int, ∃ n902 : Int, ∃ n903 : Int, ∃ n904 : Int, ∃ n905 : Int, ∃ n906 : Int, ∃ n907 : Int, ∃ n908 : Int, ∃ n909 : Int, ∃ n910 : Int, ∃ n911 : Int, ∃ s912 : ByteArray, ∃ s913 : ByteArray, ∃ n914 : Int, ∃ q915 : Option Addr, ∃ k916 : Nat, ∃ k917 : Nat, ∃ n918 : Int, ∃ s919 : ByteArray, ∃ s920 : ByteArray, ∃ s921 : ByteArray, ∃ b922 : Bool, ∃ n923 : Int, (e898 = .returned (.agg #[(.int .u8 n900), (.int .u16 n901), (.int .u32 n902), (.int .u8 n903), (.int .u8 n904), (.int .u8 n905), (.int .u8 n906), (.int .u8 n907), (.int .u8 n908), (.int .u8 n909), (.int .u8 n910), (.int .u8 n911), (.string s912), (.string s913), (.int .i64 n914), (.slice (q915) k916 k917), (.int .u8 n918), (.string s919), (.string s920), (.string s921), (.bool b922), (.int .u32 n923)])) ∧
                     (X.Kept L897 w896 w899) ∧
                     (X.FactsW x895 w899 (L897)) ∧
                     X.CallX Try.prog 19 #[(.agg #[(.int .u8 n900), (.int .u16 n901), (.int .u32 n902), (.int .u8 n903), (.int .u8 n904), (.int .u8 n905), (.int .u8 n906), (.int .u8 n907), (.int .u8 n908), (.int .u8 n909), (.int .u8 n910), (.int .u8 n911), (.string s912), (.string s913), (.int .i64 n914), (.slice (q915) k916 k917), (.int .u8 n918), (.string s919), (.string s920), (.string s921), (.bool b922), (.int .u32 n923)]), (.agg #[(.int .u8 n870), (.int .u16 n871), (.int .u32 n872), (.int .u8 n873), (.int .u8 n874), (.int .u8 n875), (.int .u8 n876), (.int .u8 n877), (.int .u8 n878), (.int .u8 n879), (.int .u8 n880), (.int .u8 n881), (.string s882), (.string s883), (.int .i64 n884), (.slice (q885) k886 k887), (.int .u8 n888), (.string s889), (.string s890), (.string s891), (.bool b892), (.int .u32 n893)])] w899 fun e924 w925 =>
                      ∃ b926 : Bool, (e924 = .returned (.bool b926)) ∧
                      (X.Kept L897 w899 w925) ∧
                      (X.FactsW x895 w925 (L897)) ∧
                      x65 q25 (b926 && (b865 == b894)) n30 n31 n32 n33 n34 n35 n36 n37 n38 n39 n40 n41 n42 s43 s44 n45 q46 k47 k48 n49 s50 s51 s52 b53 n54 n55 n56 n57 n58 n59 n60 n61 n62 n63 n64 w925 (L897)
               else
                if (n30 == 4) = true then
                 ∀ w820 : World, ∀ L821 : List Nat, (X.Hid [] w27 w820) →
                 (X.NewL (w).heap.size [] w27 w820 L821) →
                 X.CallX Try.prog 20 #[(.pointer (q25))] w820 fun e822 w823 =>
                  ∃ q824 : Option Addr, (e822 = .returned (.pointer (q824))) ∧
                  (X.Kept L821 w820 w823) ∧
                  x65 q824 true n30 n31 n32 n33 n34 n35 n36 n37 n38 n39 n40 n41 n42 s43 s44 n45 q46 k47 k48 n49 s50 s51 s52 b53 n54 n55 n56 n57 n58 n59 n60 n61 n62 n63 n64 w823 (L821)
                else
                 ∀ w818 : World, ∀ L819 : List Nat, (X.Hid [] w27 w818) →
                 (X.NewL (w).heap.size [] w27 w818 L819) →
                 x65 q25 true n30 n31 n32 n33 n34 n35 n36 n37 n38 n39 n40 n41 n42 s43 s44 n45 q46 k47 k48 n49 s50 s51 s52 b53 n54 n55 n56 n57 n58 n59 n60 n61 n62 n63 n64 w818 (L819)
              else
               if (n30 == 3) = true then
                if (n30 == 3) = true then
                 ∀ w701 : World, ∀ L702 : List Nat, (X.Hid [] w27 w701) →
                 (X.NewL (w).heap.size [] w27 w701 L702) →
                 X.CallX Try.prog 15 #[(.pointer (q17)), (.agg #[(.int .u8 n31), (.int .u16 n32), (.int .u32 n33), (.int .u8 n34), (.int .u8 n35), (.int .u8 n36), (.int .u8 n37), (.int .u8 n38), (.int .u8 n39), (.int .u8 n40), (.int .u8 n41), (.int .u8 n42), (.string s43), (.string s44), (.int .i64 n45), (.slice (q46) k47 k48), (.int .u8 n49), (.string s50), (.string s51), (.string s52), (.bool b53), (.int .u32 n54)])] w701 fun e703 w704 =>
                  ∃ n705 : Int, ∃ n706 : Int, ∃ n707 : Int, ∃ n708 : Int, ∃ n709 : Int, ∃ n710 : Int, ∃ n711 : Int, ∃ n712 : Int, ∃ n713 : Int, ∃ n714 : Int, ∃ n715 : Int, (e703 = .returned (.tuple #[(.agg #[(.int .u8 n705), (.int .u16 n706), (.int .u32 n707), (.int .u8 n708), (.int .u8 n709), (.int .u8 n710), (.int .u8 n711), (.int .u8 n712), (.int .u8 n713), (.int .u8 n714)]), (.int .i64 n715)])) ∧
                  (X.Kept L702 w701 w704) ∧
                  ∀ w716 : World, ∀ L717 : List Nat, (X.Hid (L702) w704 w716) →
                  (X.NewL (w).heap.size (L702) w704 w716 L717) →
                  X.CallX Try.prog 17 #[(.agg #[(.int .u8 n705), (.int .u16 n706), (.int .u32 n707), (.int .u8 n708), (.int .u8 n709), (.int .u8 n710), (.int .u8 n711), (.int .u8 n712), (.int .u8 n713), (.int .u8 n714)])] w716 fun e718 w719 =>
                   ∃ n720 : Int, ∃ n721 : Int, ∃ n722 : Int, ∃ n723 : Int, ∃ n724 : Int, ∃ n725 : Int, ∃ n726 : Int, ∃ n727 : Int, ∃ n728 : Int, ∃ n729 : Int, (e718 = .returned (.agg #[(.int .u8 n720), (.int .u16 n721), (.int .u32 n722), (.int .u8 n723), (.int .u8 n724), (.int .u8 n725), (.int .u8 n726), (.int .u8 n727), (.int .u8 n728), (.int .u8 n729)])) ∧
                   (X.Kept L717 w716 w719) ∧
                   X.CallX Try.prog 16 #[(.pointer (q25)), (.agg #[(.int .u8 n720), (.int .u16 n721), (.int .u32 n722), (.int .u8 n723), (.int .u8 n724), (.int .u8 n725), (.int .u8 n726), (.int .u8 n727), (.int .u8 n728), (.int .u8 n729)])] w719 fun e730 w731 =>
                    ∃ n732 : Int, ∃ n733 : Int, ∃ n734 : Int, ∃ n735 : Int, ∃ n736 : Int, ∃ n737 : Int, ∃ n738 : Int, ∃ n739 : Int, ∃ n740 : Int, ∃ n741 : Int, ∃ n742 : Int, ∃ n743 : Int, ∃ s744 : ByteArray, ∃ s745 : ByteArray, ∃ n746 : Int, ∃ q747 : Option Addr, ∃ k748 : Nat, ∃ k749 : Nat, ∃ n750 : Int, ∃ s751 : ByteArray, ∃ s752 : ByteArray, ∃ s753 : ByteArray, ∃ b754 : Bool, ∃ n755 : Int, ∃ b756 : Bool, (e730 = .returned (.tuple #[(.agg #[(.int .u8 n732), (.int .u16 n733), (.int .u32 n734), (.int .u8 n735), (.int .u8 n736), (.int .u8 n737), (.int .u8 n738), (.int .u8 n739), (.int .u8 n740), (.int .u8 n741), (.int .u8 n742), (.int .u8 n743), (.string s744), (.string s745), (.int .i64 n746), (.slice (q747) k748 k749), (.int .u8 n750), (.string s751), (.string s752), (.string s753), (.bool b754), (.int .u32 n755)]), (.bool b756)])) ∧
                    (X.Kept L717 w719 w731) ∧
                    ∀ w757 : World, ∀ L758 : List Nat, (X.Hid (L717) w731 w757) →
                    (X.NewL (w).heap.size (L717) w731 w757 L758) →
                    X.CallX Try.prog 18 #[(.pointer (q17)), (.agg #[(.int .u8 n705), (.int .u16 n706), (.int .u32 n707), (.int .u8 n708), (.int .u8 n709), (.int .u8 n710), (.int .u8 n711), (.int .u8 n712), (.int .u8 n713), (.int .u8 n714)])] w757 fun e759 w760 =>
                     ∃ n761 : Int, ∃ n762 : Int, ∃ n763 : Int, ∃ n764 : Int, ∃ n765 : Int, ∃ n766 : Int, ∃ n767 : Int, ∃ n768 : Int, ∃ n769 : Int, ∃ n770 : Int, ∃ n771 : Int, ∃ n772 : Int, ∃ s773 : ByteArray, ∃ s774 : ByteArray, ∃ n775 : Int, ∃ q776 : Option Addr, ∃ k777 : Nat, ∃ k778 : Nat, ∃ n779 : Int, ∃ s780 : ByteArray, ∃ s781 : ByteArray, ∃ s782 : ByteArray, ∃ b783 : Bool, ∃ n784 : Int, ∃ b785 : Bool, (e759 = .returned (.tuple #[(.agg #[(.int .u8 n761), (.int .u16 n762), (.int .u32 n763), (.int .u8 n764), (.int .u8 n765), (.int .u8 n766), (.int .u8 n767), (.int .u8 n768), (.int .u8 n769), (.int .u8 n770), (.int .u8 n771), (.int .u8 n772), (.string s773), (.string s774), (.int .i64 n775), (.slice (q776) k777 k778), (.int .u8 n779), (.string s780), (.string s781), (.string s782), (.bool b783), (.int .u32 n784)]), (.bool b785)])) ∧
                     (X.Kept L758 w757 w760) ∧
                     ∃ x786 : X.Facts, (X.FactsW x786 w760 (L758)) ∧
                     ∀ w787 : World, ∀ L788 : List Nat, (X.Hid (L758) w760 w787) →
                     (X.NewL (w).heap.size (L758) w760 w787 L788) →
                     X.CallX Try.prog 11 #[(.agg #[(.int .u8 n732), (.int .u16 n733), (.int .u32 n734), (.int .u8 n735), (.int .u8 n736), (.int .u8 n737), (.int .u8 n738), (.int .u8 n739), (.int .u8 n740), (.int .u8 n741), (.int .u8 n742), (.int .u8 n743), (.string s744), (.string s745), (.int .i64 n746), (.slice (q747) k748 k749), (.int .u8 n750), (.string s751), (.string s752), (.string s753), (.bool b754), (.int .u32 n755)])] w787 fun e789 w790 =>
                      ∃ n791 : Int, ∃ n792 : Int, ∃ n793 : Int, ∃ n794 : Int, ∃ n795 : Int, ∃ n796 : Int, ∃ n797 : Int, ∃ n798 : Int, ∃ n799 : Int, ∃ n800 : Int, ∃ n801 : Int, ∃ n802 : Int, ∃ s803 : ByteArray, ∃ s804 : ByteArray, ∃ n805 : Int, ∃ q806 : Option Addr, ∃ k807 : Nat, ∃ k808 : Nat, ∃ n809 : Int, ∃ s810 : ByteArray, ∃ s811 : ByteArray, ∃ s812 : ByteArray, ∃ b813 : Bool, ∃ n814 : Int, (e789 = .returned (.agg #[(.int .u8 n791), (.int .u16 n792), (.int .u32 n793), (.int .u8 n794), (.int .u8 n795), (.int .u8 n796), (.int .u8 n797), (.int .u8 n798), (.int .u8 n799), (.int .u8 n800), (.int .u8 n801), (.int .u8 n802), (.string s803), (.string s804), (.int .i64 n805), (.slice (q806) k807 k808), (.int .u8 n809), (.string s810), (.string s811), (.string s812), (.bool b813), (.int .u32 n814)])) ∧
                      (X.Kept L788 w787 w790) ∧
                      (X.FactsW x786 w790 (L788)) ∧
                      X.CallX Try.prog 19 #[(.agg #[(.int .u8 n791), (.int .u16 n792), (.int .u32 n793), (.int .u8 n794), (.int .u8 n795), (.int .u8 n796), (.int .u8 n797), (.int .u8 n798), (.int .u8 n799), (.int .u8 n800), (.int .u8 n801), (.int .u8 n802), (.string s803), (.string s804), (.int .i64 n805), (.slice (q806) k807 k808), (.int .u8 n809), (.string s810), (.string s811), (.string s812), (.bool b813), (.int .u32 n814)]), (.agg #[(.int .u8 n761), (.int .u16 n762), (.int .u32 n763), (.int .u8 n764), (.int .u8 n765), (.int .u8 n766), (.int .u8 n767), (.int .u8 n768), (.int .u8 n769), (.int .u8 n770), (.int .u8 n771), (.int .u8 n772), (.string s773), (.string s774), (.int .i64 n775), (.slice (q776) k777 k778), (.int .u8 n779), (.string s780), (.string s781), (.string s782), (.bool b783), (.int .u32 n784)])] w790 fun e815 w816 =>
                       ∃ b817 : Bool, (e815 = .returned (.bool b817)) ∧
                       (X.Kept L788 w790 w816) ∧
                       (X.FactsW x786 w816 (L788)) ∧
                       x65 q25 (b817 && (b756 == b785)) n30 n31 n32 n33 n34 n35 n36 n37 n38 n39 n40 n41 n42 s43 s44 n45 q46 k47 k48 n49 s50 s51 s52 b53 n54 n705 n706 n707 n708 n709 n710 n711 n712 n713 n714 w816 (L788)
                else
                 ∀ w599 : World, ∀ L600 : List Nat, (X.Hid [] w27 w599) →
                 (X.NewL (w).heap.size [] w27 w599 L600) →
                 X.CallX Try.prog 17 #[(.agg #[(.int .u8 n55), (.int .u16 n56), (.int .u32 n57), (.int .u8 n58), (.int .u8 n59), (.int .u8 n60), (.int .u8 n61), (.int .u8 n62), (.int .u8 n63), (.int .u8 n64)])] w599 fun e601 w602 =>
                  ∃ n603 : Int, ∃ n604 : Int, ∃ n605 : Int, ∃ n606 : Int, ∃ n607 : Int, ∃ n608 : Int, ∃ n609 : Int, ∃ n610 : Int, ∃ n611 : Int, ∃ n612 : Int, (e601 = .returned (.agg #[(.int .u8 n603), (.int .u16 n604), (.int .u32 n605), (.int .u8 n606), (.int .u8 n607), (.int .u8 n608), (.int .u8 n609), (.int .u8 n610), (.int .u8 n611), (.int .u8 n612)])) ∧
                  (X.Kept L600 w599 w602) ∧
                  X.CallX Try.prog 16 #[(.pointer (q25)), (.agg #[(.int .u8 n603), (.int .u16 n604), (.int .u32 n605), (.int .u8 n606), (.int .u8 n607), (.int .u8 n608), (.int .u8 n609), (.int .u8 n610), (.int .u8 n611), (.int .u8 n612)])] w602 fun e613 w614 =>
                   ∃ n615 : Int, ∃ n616 : Int, ∃ n617 : Int, ∃ n618 : Int, ∃ n619 : Int, ∃ n620 : Int, ∃ n621 : Int, ∃ n622 : Int, ∃ n623 : Int, ∃ n624 : Int, ∃ n625 : Int, ∃ n626 : Int, ∃ s627 : ByteArray, ∃ s628 : ByteArray, ∃ n629 : Int, ∃ q630 : Option Addr, ∃ k631 : Nat, ∃ k632 : Nat, ∃ n633 : Int, ∃ s634 : ByteArray, ∃ s635 : ByteArray, ∃ s636 : ByteArray, ∃ b637 : Bool, ∃ n638 : Int, ∃ b639 : Bool, (e613 = .returned (.tuple #[(.agg #[(.int .u8 n615), (.int .u16 n616), (.int .u32 n617), (.int .u8 n618), (.int .u8 n619), (.int .u8 n620), (.int .u8 n621), (.int .u8 n622), (.int .u8 n623), (.int .u8 n624), (.int .u8 n625), (.int .u8 n626), (.string s627), (.string s628), (.int .i64 n629), (.slice (q630) k631 k632), (.int .u8 n633), (.string s634), (.string s635), (.string s636), (.bool b637), (.int .u32 n638)]), (.bool b639)])) ∧
                   (X.Kept L600 w602 w614) ∧
                   ∀ w640 : World, ∀ L641 : List Nat, (X.Hid (L600) w614 w640) →
                   (X.NewL (w).heap.size (L600) w614 w640 L641) →
                   X.CallX Try.prog 18 #[(.pointer (q17)), (.agg #[(.int .u8 n55), (.int .u16 n56), (.int .u32 n57), (.int .u8 n58), (.int .u8 n59), (.int .u8 n60), (.int .u8 n61), (.int .u8 n62), (.int .u8 n63), (.int .u8 n64)])] w640 fun e642 w643 =>
                    ∃ n644 : Int, ∃ n645 : Int, ∃ n646 : Int, ∃ n647 : Int, ∃ n648 : Int, ∃ n649 : Int, ∃ n650 : Int, ∃ n651 : Int, ∃ n652 : Int, ∃ n653 : Int, ∃ n654 : Int, ∃ n655 : Int, ∃ s656 : ByteArray, ∃ s657 : ByteArray, ∃ n658 : Int, ∃ q659 : Option Addr, ∃ k660 : Nat, ∃ k661 : Nat, ∃ n662 : Int, ∃ s663 : ByteArray, ∃ s664 : ByteArray, ∃ s665 : ByteArray, ∃ b666 : Bool, ∃ n667 : Int, ∃ b668 : Bool, (e642 = .returned (.tuple #[(.agg #[(.int .u8 n644), (.int .u16 n645), (.int .u32 n646), (.int .u8 n647), (.int .u8 n648), (.int .u8 n649), (.int .u8 n650), (.int .u8 n651), (.int .u8 n652), (.int .u8 n653), (.int .u8 n654), (.int .u8 n655), (.string s656), (.string s657), (.int .i64 n658), (.slice (q659) k660 k661), (.int .u8 n662), (.string s663), (.string s664), (.string s665), (.bool b666), (.int .u32 n667)]), (.bool b668)])) ∧
                    (X.Kept L641 w640 w643) ∧
                    ∃ x669 : X.Facts, (X.FactsW x669 w643 (L641)) ∧
                    ∀ w670 : World, ∀ L671 : List Nat, (X.Hid (L641) w643 w670) →
                    (X.NewL (w).heap.size (L641) w643 w670 L671) →
                    X.CallX Try.prog 11 #[(.agg #[(.int .u8 n615), (.int .u16 n616), (.int .u32 n617), (.int .u8 n618), (.int .u8 n619), (.int .u8 n620), (.int .u8 n621), (.int .u8 n622), (.int .u8 n623), (.int .u8 n624), (.int .u8 n625), (.int .u8 n626), (.string s627), (.string s628), (.int .i64 n629), (.slice (q630) k631 k632), (.int .u8 n633), (.string s634), (.string s635), (.string s636), (.bool b637), (.int .u32 n638)])] w670 fun e672 w673 =>
                     ∃ n674 : Int, ∃ n675 : Int, ∃ n676 : Int, ∃ n677 : Int, ∃ n678 : Int, ∃ n679 : Int, ∃ n680 : Int, ∃ n681 : Int, ∃ n682 : Int, ∃ n683 : Int, ∃ n684 : Int, ∃ n685 : Int, ∃ s686 : ByteArray, ∃ s687 : ByteArray, ∃ n688 : Int, ∃ q689 : Option Addr, ∃ k690 : Nat, ∃ k691 : Nat, ∃ n692 : Int, ∃ s693 : ByteArray, ∃ s694 : ByteArray, ∃ s695 : ByteArray, ∃ b696 : Bool, ∃ n697 : Int, (e672 = .returned (.agg #[(.int .u8 n674), (.int .u16 n675), (.int .u32 n676), (.int .u8 n677), (.int .u8 n678), (.int .u8 n679), (.int .u8 n680), (.int .u8 n681), (.int .u8 n682), (.int .u8 n683), (.int .u8 n684), (.int .u8 n685), (.string s686), (.string s687), (.int .i64 n688), (.slice (q689) k690 k691), (.int .u8 n692), (.string s693), (.string s694), (.string s695), (.bool b696), (.int .u32 n697)])) ∧
                     (X.Kept L671 w670 w673) ∧
                     (X.FactsW x669 w673 (L671)) ∧
                     X.CallX Try.prog 19 #[(.agg #[(.int .u8 n674), (.int .u16 n675), (.int .u32 n676), (.int .u8 n677), (.int .u8 n678), (.int .u8 n679), (.int .u8 n680), (.int .u8 n681), (.int .u8 n682), (.int .u8 n683), (.int .u8 n684), (.int .u8 n685), (.string s686), (.string s687), (.int .i64 n688), (.slice (q689) k690 k691), (.int .u8 n692), (.string s693), (.string s694), (.string s695), (.bool b696), (.int .u32 n697)]), (.agg #[(.int .u8 n644), (.int .u16 n645), (.int .u32 n646), (.int .u8 n647), (.int .u8 n648), (.int .u8 n649), (.int .u8 n650), (.int .u8 n651), (.int .u8 n652), (.int .u8 n653), (.int .u8 n654), (.int .u8 n655), (.string s656), (.string s657), (.int .i64 n658), (.slice (q659) k660 k661), (.int .u8 n662), (.string s663), (.string s664), (.string s665), (.bool b666), (.int .u32 n667)])] w673 fun e698 w699 =>
                      ∃ b700 : Bool, (e698 = .returned (.bool b700)) ∧
                      (X.Kept L671 w673 w699) ∧
                      (X.FactsW x669 w699 (L671)) ∧
                      x65 q25 (b700 && (b639 == b668)) n30 n31 n32 n33 n34 n35 n36 n37 n38 n39 n40 n41 n42 s43 s44 n45 q46 k47 k48 n49 s50 s51 s52 b53 n54 n55 n56 n57 n58 n59 n60 n61 n62 n63 n64 w699 (L671)
               else
                if (n30 == 4) = true then
                 ∀ w594 : World, ∀ L595 : List Nat, (X.Hid [] w27 w594) →
                 (X.NewL (w).heap.size [] w27 w594 L595) →
                 X.CallX Try.prog 20 #[(.pointer (q25))] w594 fun e596 w597 =>
                  ∃ q598 : Option Addr, (e596 = .returned (.pointer (q598))) ∧
                  (X.Kept L595 w594 w597) ∧
                  x65 q598 true n30 n31 n32 n33 n34 n35 n36 n37 n38 n39 n40 n41 n42 s43 s44 n45 q46 k47 k48 n49 s50 s51 s52 b53 n54 n55 n56 n57 n58 n59 n60 n61 n62 n63 n64 w597 (L595)
                else
                 ∀ w592 : World, ∀ L593 : List Nat, (X.Hid [] w27 w592) →
                 (X.NewL (w).heap.size [] w27 w592 L593) →
                 x65 q25 true n30 n31 n32 n33 n34 n35 n36 n37 n38 n39 n40 n41 n42 s43 s44 n45 q46 k47 k48 n49 s50 s51 s52 b53 n54 n55 n56 n57 n58 n59 n60 n61 n62 n63 n64 w592 (L593)
            else
             if (n30 == 1) = true then
              ∀ w518 : World, ∀ L519 : List Nat, (X.Hid [] w27 w518) →
              (X.NewL (w).heap.size [] w27 w518 L519) →
              X.CallX Try.prog 12 #[(.agg #[(.int .u8 n31), (.int .u16 n32), (.int .u32 n33), (.int .u8 n34), (.int .u8 n35), (.int .u8 n36), (.int .u8 n37), (.int .u8 n38), (.int .u8 n39), (.int .u8 n40), (.int .u8 n41), (.int .u8 n42), (.string s43), (.string s44), (.int .i64 n45), (.slice (q46) k47 k48), (.int .u8 n49), (.string s50), (.string s51), (.string s52), (.bool b53), (.int .u32 n54)])] w518 fun e520 w521 =>
               ∃ n522 : Int, ∃ n523 : Int, ∃ n524 : Int, ∃ n525 : Int, ∃ n526 : Int, ∃ n527 : Int, ∃ n528 : Int, ∃ n529 : Int, ∃ n530 : Int, ∃ n531 : Int, ∃ n532 : Int, ∃ n533 : Int, ∃ s534 : ByteArray, ∃ s535 : ByteArray, ∃ n536 : Int, ∃ q537 : Option Addr, ∃ k538 : Nat, ∃ k539 : Nat, ∃ n540 : Int, ∃ s541 : ByteArray, ∃ s542 : ByteArray, ∃ s543 : ByteArray, ∃ b544 : Bool, ∃ n545 : Int, (e520 = .returned (.agg #[(.int .u8 n522), (.int .u16 n523), (.int .u32 n524), (.int .u8 n525), (.int .u8 n526), (.int .u8 n527), (.int .u8 n528), (.int .u8 n529), (.int .u8 n530), (.int .u8 n531), (.int .u8 n532), (.int .u8 n533), (.string s534), (.string s535), (.int .i64 n536), (.slice (q537) k538 k539), (.int .u8 n540), (.string s541), (.string s542), (.string s543), (.bool b544), (.int .u32 n545)])) ∧
               (X.Kept L519 w518 w521) ∧
               X.CallX Try.prog 8 #[(.pointer (q25)), (.agg #[(.int .u8 n522), (.int .u16 n523), (.int .u32 n524), (.int .u8 n525), (.int .u8 n526), (.int .u8 n527), (.int .u8 n528), (.int .u8 n529), (.int .u8 n530), (.int .u8 n531), (.int .u8 n532), (.int .u8 n533), (.string s534), (.string s535), (.int .i64 n536), (.slice (q537) k538 k539), (.int .u8 n540), (.string s541), (.string s542), (.string s543), (.bool b544), (.int .u32 n545)])] w521 fun e546 w547 =>
                ∃ n548 : Int, ∃ n549 : Int, ∃ n550 : Int, ∃ n551 : Int, ∃ n552 : Int, ∃ n553 : Int, ∃ n554 : Int, ∃ n555 : Int, ∃ n556 : Int, ∃ n557 : Int, ∃ n558 : Int, (e546 = .returned (.tuple #[(.agg #[(.int .u8 n548), (.int .u16 n549), (.int .u32 n550), (.int .u8 n551), (.int .u8 n552), (.int .u8 n553), (.int .u8 n554), (.int .u8 n555), (.int .u8 n556), (.int .u8 n557)]), (.int .i64 n558)])) ∧
                (X.Kept L519 w521 w547) ∧
                ∀ w559 : World, ∀ L560 : List Nat, (X.Hid (L519) w547 w559) →
                (X.NewL (w).heap.size (L519) w547 w559 L560) →
                X.CallX Try.prog 10 #[(.pointer (q17)), (.agg #[(.int .u8 n31), (.int .u16 n32), (.int .u32 n33), (.int .u8 n34), (.int .u8 n35), (.int .u8 n36), (.int .u8 n37), (.int .u8 n38), (.int .u8 n39), (.int .u8 n40), (.int .u8 n41), (.int .u8 n42), (.string s43), (.string s44), (.int .i64 n45), (.slice (q46) k47 k48), (.int .u8 n49), (.string s50), (.string s51), (.string s52), (.bool b53), (.int .u32 n54)])] w559 fun e561 w562 =>
                 ∃ n563 : Int, ∃ n564 : Int, ∃ n565 : Int, ∃ n566 : Int, ∃ n567 : Int, ∃ n568 : Int, ∃ n569 : Int, ∃ n570 : Int, ∃ n571 : Int, ∃ n572 : Int, ∃ n573 : Int, (e561 = .returned (.tuple #[(.agg #[(.int .u8 n563), (.int .u16 n564), (.int .u32 n565), (.int .u8 n566), (.int .u8 n567), (.int .u8 n568), (.int .u8 n569), (.int .u8 n570), (.int .u8 n571), (.int .u8 n572)]), (.int .i64 n573)])) ∧
                 (X.Kept L560 w559 w562) ∧
                 ∃ x574 : X.Facts, (X.FactsW x574 w562 (L560)) ∧
                 ∀ w575 : World, ∀ L576 : List Nat, (X.Hid (L560) w562 w575) →
                 (X.NewL (w).heap.size (L560) w562 w575 L576) →
                 X.CallX Try.prog 13 #[(.agg #[(.int .u8 n548), (.int .u16 n549), (.int .u32 n550), (.int .u8 n551), (.int .u8 n552), (.int .u8 n553), (.int .u8 n554), (.int .u8 n555), (.int .u8 n556), (.int .u8 n557)])] w575 fun e577 w578 =>
                  ∃ n579 : Int, ∃ n580 : Int, ∃ n581 : Int, ∃ n582 : Int, ∃ n583 : Int, ∃ n584 : Int, ∃ n585 : Int, ∃ n586 : Int, ∃ n587 : Int, ∃ n588 : Int, (e577 = .returned (.agg #[(.int .u8 n579), (.int .u16 n580), (.int .u32 n581), (.int .u8 n582), (.int .u8 n583), (.int .u8 n584), (.int .u8 n585), (.int .u8 n586), (.int .u8 n587), (.int .u8 n588)])) ∧
                  (X.Kept L576 w575 w578) ∧
                  (X.FactsW x574 w578 (L576)) ∧
                  if ((((n579 == n563) && (n580 == n564)) && ((n581 == n565) && ((n582 == n566) && (((n583 == n567) && (n584 == n568)) && (((n585 == n569) && (n586 == n570)) && ((n587 == n571) && (n588 == n572))))))) == true) = true then
                   X.CallX Try.prog 14 #[(.int .i64 n558)] w578 fun e589 w590 =>
                    ∃ n591 : Int, (e589 = .returned (.int .i64 n591)) ∧
                    (X.Kept L576 w578 w590) ∧
                    (X.FactsW x574 w590 (L576)) ∧
                    x65 q25 (true && (n591 == n573)) n30 n31 n32 n33 n34 n35 n36 n37 n38 n39 n40 n41 n42 s43 s44 n45 q46 k47 k48 n49 s50 s51 s52 b53 n54 n55 n56 n57 n58 n59 n60 n61 n62 n63 n64 w590 (L576)
                  else
                   x65 q25 false n30 n31 n32 n33 n34 n35 n36 n37 n38 n39 n40 n41 n42 s43 s44 n45 q46 k47 k48 n49 s50 s51 s52 b53 n54 n55 n56 n57 n58 n59 n60 n61 n62 n63 n64 w578 (L576)
             else
              if (n30 == 2) = true then
               if (n30 == 2) = true then
                if (n30 == 3) = true then
                 ∀ w401 : World, ∀ L402 : List Nat, (X.Hid [] w27 w401) →
                 (X.NewL (w).heap.size [] w27 w401 L402) →
                 X.CallX Try.prog 15 #[(.pointer (q17)), (.agg #[(.int .u8 n31), (.int .u16 n32), (.int .u32 n33), (.int .u8 n34), (.int .u8 n35), (.int .u8 n36), (.int .u8 n37), (.int .u8 n38), (.int .u8 n39), (.int .u8 n40), (.int .u8 n41), (.int .u8 n42), (.string s43), (.string s44), (.int .i64 n45), (.slice (q46) k47 k48), (.int .u8 n49), (.string s50), (.string s51), (.string s52), (.bool b53), (.int .u32 n54)])] w401 fun e403 w404 =>
                  ∃ n405 : Int, ∃ n406 : Int, ∃ n407 : Int, ∃ n408 : Int, ∃ n409 : Int, ∃ n410 : Int, ∃ n411 : Int, ∃ n412 : Int, ∃ n413 : Int, ∃ n414 : Int, ∃ n415 : Int, (e403 = .returned (.tuple #[(.agg #[(.int .u8 n405), (.int .u16 n406), (.int .u32 n407), (.int .u8 n408), (.int .u8 n409), (.int .u8 n410), (.int .u8 n411), (.int .u8 n412), (.int .u8 n413), (.int .u8 n414)]), (.int .i64 n415)])) ∧
                  (X.Kept L402 w401 w404) ∧
                  ∀ w416 : World, ∀ L417 : List Nat, (X.Hid (L402) w404 w416) →
                  (X.NewL (w).heap.size (L402) w404 w416 L417) →
                  X.CallX Try.prog 17 #[(.agg #[(.int .u8 n405), (.int .u16 n406), (.int .u32 n407), (.int .u8 n408), (.int .u8 n409), (.int .u8 n410), (.int .u8 n411), (.int .u8 n412), (.int .u8 n413), (.int .u8 n414)])] w416 fun e418 w419 =>
                   ∃ n420 : Int, ∃ n421 : Int, ∃ n422 : Int, ∃ n423 : Int, ∃ n424 : Int, ∃ n425 : Int, ∃ n426 : Int, ∃ n427 : Int, ∃ n428 : Int, ∃ n429 : Int, (e418 = .returned (.agg #[(.int .u8 n420), (.int .u16 n421), (.int .u32 n422), (.int .u8 n423), (.int .u8 n424), (.int .u8 n425), (.int .u8 n426), (.int .u8 n427), (.int .u8 n428), (.int .u8 n429)])) ∧
                   (X.Kept L417 w416 w419) ∧
                   X.CallX Try.prog 16 #[(.pointer (q25)), (.agg #[(.int .u8 n420), (.int .u16 n421), (.int .u32 n422), (.int .u8 n423), (.int .u8 n424), (.int .u8 n425), (.int .u8 n426), (.int .u8 n427), (.int .u8 n428), (.int .u8 n429)])] w419 fun e430 w431 =>
                    ∃ n432 : Int, ∃ n433 : Int, ∃ n434 : Int, ∃ n435 : Int, ∃ n436 : Int, ∃ n437 : Int, ∃ n438 : Int, ∃ n439 : Int, ∃ n440 : Int, ∃ n441 : Int, ∃ n442 : Int, ∃ n443 : Int, ∃ s444 : ByteArray, ∃ s445 : ByteArray, ∃ n446 : Int, ∃ q447 : Option Addr, ∃ k448 : Nat, ∃ k449 : Nat, ∃ n450 : Int, ∃ s451 : ByteArray, ∃ s452 : ByteArray, ∃ s453 : ByteArray, ∃ b454 : Bool, ∃ n455 : Int, ∃ b456 : Bool, (e430 = .returned (.tuple #[(.agg #[(.int .u8 n432), (.int .u16 n433), (.int .u32 n434), (.int .u8 n435), (.int .u8 n436), (.int .u8 n437), (.int .u8 n438), (.int .u8 n439), (.int .u8 n440), (.int .u8 n441), (.int .u8 n442), (.int .u8 n443), (.string s444), (.string s445), (.int .i64 n446), (.slice (q447) k448 k449), (.int .u8 n450), (.string s451), (.string s452), (.string s453), (.bool b454), (.int .u32 n455)]), (.bool b456)])) ∧
                    (X.Kept L417 w419 w431) ∧
                    ∀ w457 : World, ∀ L458 : List Nat, (X.Hid (L417) w431 w457) →
                    (X.NewL (w).heap.size (L417) w431 w457 L458) →
                    X.CallX Try.prog 18 #[(.pointer (q17)), (.agg #[(.int .u8 n405), (.int .u16 n406), (.int .u32 n407), (.int .u8 n408), (.int .u8 n409), (.int .u8 n410), (.int .u8 n411), (.int .u8 n412), (.int .u8 n413), (.int .u8 n414)])] w457 fun e459 w460 =>
                     ∃ n461 : Int, ∃ n462 : Int, ∃ n463 : Int, ∃ n464 : Int, ∃ n465 : Int, ∃ n466 : Int, ∃ n467 : Int, ∃ n468 : Int, ∃ n469 : Int, ∃ n470 : Int, ∃ n471 : Int, ∃ n472 : Int, ∃ s473 : ByteArray, ∃ s474 : ByteArray, ∃ n475 : Int, ∃ q476 : Option Addr, ∃ k477 : Nat, ∃ k478 : Nat, ∃ n479 : Int, ∃ s480 : ByteArray, ∃ s481 : ByteArray, ∃ s482 : ByteArray, ∃ b483 : Bool, ∃ n484 : Int, ∃ b485 : Bool, (e459 = .returned (.tuple #[(.agg #[(.int .u8 n461), (.int .u16 n462), (.int .u32 n463), (.int .u8 n464), (.int .u8 n465), (.int .u8 n466), (.int .u8 n467), (.int .u8 n468), (.int .u8 n469), (.int .u8 n470), (.int .u8 n471), (.int .u8 n472), (.string s473), (.string s474), (.int .i64 n475), (.slice (q476) k477 k478), (.int .u8 n479), (.string s480), (.string s481), (.string s482), (.bool b483), (.int .u32 n484)]), (.bool b485)])) ∧
                     (X.Kept L458 w457 w460) ∧
                     ∃ x486 : X.Facts, (X.FactsW x486 w460 (L458)) ∧
                     ∀ w487 : World, ∀ L488 : List Nat, (X.Hid (L458) w460 w487) →
                     (X.NewL (w).heap.size (L458) w460 w487 L488) →
                     X.CallX Try.prog 11 #[(.agg #[(.int .u8 n432), (.int .u16 n433), (.int .u32 n434), (.int .u8 n435), (.int .u8 n436), (.int .u8 n437), (.int .u8 n438), (.int .u8 n439), (.int .u8 n440), (.int .u8 n441), (.int .u8 n442), (.int .u8 n443), (.string s444), (.string s445), (.int .i64 n446), (.slice (q447) k448 k449), (.int .u8 n450), (.string s451), (.string s452), (.string s453), (.bool b454), (.int .u32 n455)])] w487 fun e489 w490 =>
                      ∃ n491 : Int, ∃ n492 : Int, ∃ n493 : Int, ∃ n494 : Int, ∃ n495 : Int, ∃ n496 : Int, ∃ n497 : Int, ∃ n498 : Int, ∃ n499 : Int, ∃ n500 : Int, ∃ n501 : Int, ∃ n502 : Int, ∃ s503 : ByteArray, ∃ s504 : ByteArray, ∃ n505 : Int, ∃ q506 : Option Addr, ∃ k507 : Nat, ∃ k508 : Nat, ∃ n509 : Int, ∃ s510 : ByteArray, ∃ s511 : ByteArray, ∃ s512 : ByteArray, ∃ b513 : Bool, ∃ n514 : Int, (e489 = .returned (.agg #[(.int .u8 n491), (.int .u16 n492), (.int .u32 n493), (.int .u8 n494), (.int .u8 n495), (.int .u8 n496), (.int .u8 n497), (.int .u8 n498), (.int .u8 n499), (.int .u8 n500), (.int .u8 n501), (.int .u8 n502), (.string s503), (.string s504), (.int .i64 n505), (.slice (q506) k507 k508), (.int .u8 n509), (.string s510), (.string s511), (.string s512), (.bool b513), (.int .u32 n514)])) ∧
                      (X.Kept L488 w487 w490) ∧
                      (X.FactsW x486 w490 (L488)) ∧
                      X.CallX Try.prog 19 #[(.agg #[(.int .u8 n491), (.int .u16 n492), (.int .u32 n493), (.int .u8 n494), (.int .u8 n495), (.int .u8 n496), (.int .u8 n497), (.int .u8 n498), (.int .u8 n499), (.int .u8 n500), (.int .u8 n501), (.int .u8 n502), (.string s503), (.string s504), (.int .i64 n505), (.slice (q506) k507 k508), (.int .u8 n509), (.string s510), (.string s511), (.string s512), (.bool b513), (.int .u32 n514)]), (.agg #[(.int .u8 n461), (.int .u16 n462), (.int .u32 n463), (.int .u8 n464), (.int .u8 n465), (.int .u8 n466), (.int .u8 n467), (.int .u8 n468), (.int .u8 n469), (.int .u8 n470), (.int .u8 n471), (.int .u8 n472), (.string s473), (.string s474), (.int .i64 n475), (.slice (q476) k477 k478), (.int .u8 n479), (.string s480), (.string s481), (.string s482), (.bool b483), (.int .u32 n484)])] w490 fun e515 w516 =>
                       ∃ b517 : Bool, (e515 = .returned (.bool b517)) ∧
                       (X.Kept L488 w490 w516) ∧
                       (X.FactsW x486 w516 (L488)) ∧
                       x65 q25 (b517 && (b456 == b485)) n30 n31 n32 n33 n34 n35 n36 n37 n38 n39 n40 n41 n42 s43 s44 n45 q46 k47 k48 n49 s50 s51 s52 b53 n54 n405 n406 n407 n408 n409 n410 n411 n412 n413 n414 w516 (L488)
                else
                 ∀ w299 : World, ∀ L300 : List Nat, (X.Hid [] w27 w299) →
                 (X.NewL (w).heap.size [] w27 w299 L300) →
                 X.CallX Try.prog 17 #[(.agg #[(.int .u8 n55), (.int .u16 n56), (.int .u32 n57), (.int .u8 n58), (.int .u8 n59), (.int .u8 n60), (.int .u8 n61), (.int .u8 n62), (.int .u8 n63), (.int .u8 n64)])] w299 fun e301 w302 =>
                  ∃ n303 : Int, ∃ n304 : Int, ∃ n305 : Int, ∃ n306 : Int, ∃ n307 : Int, ∃ n308 : Int, ∃ n309 : Int, ∃ n310 : Int, ∃ n311 : Int, ∃ n312 : Int, (e301 = .returned (.agg #[(.int .u8 n303), (.int .u16 n304), (.int .u32 n305), (.int .u8 n306), (.int .u8 n307), (.int .u8 n308), (.int .u8 n309), (.int .u8 n310), (.int .u8 n311), (.int .u8 n312)])) ∧
                  (X.Kept L300 w299 w302) ∧
                  X.CallX Try.prog 16 #[(.pointer (q25)), (.agg #[(.int .u8 n303), (.int .u16 n304), (.int .u32 n305), (.int .u8 n306), (.int .u8 n307), (.int .u8 n308), (.int .u8 n309), (.int .u8 n310), (.int .u8 n311), (.int .u8 n312)])] w302 fun e313 w314 =>
                   ∃ n315 : Int, ∃ n316 : Int, ∃ n317 : Int, ∃ n318 : Int, ∃ n319 : Int, ∃ n320 : Int, ∃ n321 : Int, ∃ n322 : Int, ∃ n323 : Int, ∃ n324 : Int, ∃ n325 : Int, ∃ n326 : Int, ∃ s327 : ByteArray, ∃ s328 : ByteArray, ∃ n329 : Int, ∃ q330 : Option Addr, ∃ k331 : Nat, ∃ k332 : Nat, ∃ n333 : Int, ∃ s334 : ByteArray, ∃ s335 : ByteArray, ∃ s336 : ByteArray, ∃ b337 : Bool, ∃ n338 : Int, ∃ b339 : Bool, (e313 = .returned (.tuple #[(.agg #[(.int .u8 n315), (.int .u16 n316), (.int .u32 n317), (.int .u8 n318), (.int .u8 n319), (.int .u8 n320), (.int .u8 n321), (.int .u8 n322), (.int .u8 n323), (.int .u8 n324), (.int .u8 n325), (.int .u8 n326), (.string s327), (.string s328), (.int .i64 n329), (.slice (q330) k331 k332), (.int .u8 n333), (.string s334), (.string s335), (.string s336), (.bool b337), (.int .u32 n338)]), (.bool b339)])) ∧
                   (X.Kept L300 w302 w314) ∧
                   ∀ w340 : World, ∀ L341 : List Nat, (X.Hid (L300) w314 w340) →
                   (X.NewL (w).heap.size (L300) w314 w340 L341) →
                   X.CallX Try.prog 18 #[(.pointer (q17)), (.agg #[(.int .u8 n55), (.int .u16 n56), (.int .u32 n57), (.int .u8 n58), (.int .u8 n59), (.int .u8 n60), (.int .u8 n61), (.int .u8 n62), (.int .u8 n63), (.int .u8 n64)])] w340 fun e342 w343 =>
                    ∃ n344 : Int, ∃ n345 : Int, ∃ n346 : Int, ∃ n347 : Int, ∃ n348 : Int, ∃ n349 : Int, ∃ n350 : Int, ∃ n351 : Int, ∃ n352 : Int, ∃ n353 : Int, ∃ n354 : Int, ∃ n355 : Int, ∃ s356 : ByteArray, ∃ s357 : ByteArray, ∃ n358 : Int, ∃ q359 : Option Addr, ∃ k360 : Nat, ∃ k361 : Nat, ∃ n362 : Int, ∃ s363 : ByteArray, ∃ s364 : ByteArray, ∃ s365 : ByteArray, ∃ b366 : Bool, ∃ n367 : Int, ∃ b368 : Bool, (e342 = .returned (.tuple #[(.agg #[(.int .u8 n344), (.int .u16 n345), (.int .u32 n346), (.int .u8 n347), (.int .u8 n348), (.int .u8 n349), (.int .u8 n350), (.int .u8 n351), (.int .u8 n352), (.int .u8 n353), (.int .u8 n354), (.int .u8 n355), (.string s356), (.string s357), (.int .i64 n358), (.slice (q359) k360 k361), (.int .u8 n362), (.string s363), (.string s364), (.string s365), (.bool b366), (.int .u32 n367)]), (.bool b368)])) ∧
                    (X.Kept L341 w340 w343) ∧
                    ∃ x369 : X.Facts, (X.FactsW x369 w343 (L341)) ∧
                    ∀ w370 : World, ∀ L371 : List Nat, (X.Hid (L341) w343 w370) →
                    (X.NewL (w).heap.size (L341) w343 w370 L371) →
                    X.CallX Try.prog 11 #[(.agg #[(.int .u8 n315), (.int .u16 n316), (.int .u32 n317), (.int .u8 n318), (.int .u8 n319), (.int .u8 n320), (.int .u8 n321), (.int .u8 n322), (.int .u8 n323), (.int .u8 n324), (.int .u8 n325), (.int .u8 n326), (.string s327), (.string s328), (.int .i64 n329), (.slice (q330) k331 k332), (.int .u8 n333), (.string s334), (.string s335), (.string s336), (.bool b337), (.int .u32 n338)])] w370 fun e372 w373 =>
                     ∃ n374 : Int, ∃ n375 : Int, ∃ n376 : Int, ∃ n377 : Int, ∃ n378 : Int, ∃ n379 : Int, ∃ n380 : Int, ∃ n381 : Int, ∃ n382 : Int, ∃ n383 : Int, ∃ n384 : Int, ∃ n385 : Int, ∃ s386 : ByteArray, ∃ s387 : ByteArray, ∃ n388 : Int, ∃ q389 : Option Addr, ∃ k390 : Nat, ∃ k391 : Nat, ∃ n392 : Int, ∃ s393 : ByteArray, ∃ s394 : ByteArray, ∃ s395 : ByteArray, ∃ b396 : Bool, ∃ n397 : Int, (e372 = .returned (.agg #[(.int .u8 n374), (.int .u16 n375), (.int .u32 n376), (.int .u8 n377), (.int .u8 n378), (.int .u8 n379), (.int .u8 n380), (.int .u8 n381), (.int .u8 n382), (.int .u8 n383), (.int .u8 n384), (.int .u8 n385), (.string s386), (.string s387), (.int .i64 n388), (.slice (q389) k390 k391), (.int .u8 n392), (.string s393), (.string s394), (.string s395), (.bool b396), (.int .u32 n397)])) ∧
                     (X.Kept L371 w370 w373) ∧
                     (X.FactsW x369 w373 (L371)) ∧
                     X.CallX Try.prog 19 #[(.agg #[(.int .u8 n374), (.int .u16 n375), (.int .u32 n376), (.int .u8 n377), (.int .u8 n378), (.int .u8 n379), (.int .u8 n380), (.int .u8 n381), (.int .u8 n382), (.int .u8 n383), (.int .u8 n384), (.int .u8 n385), (.string s386), (.string s387), (.int .i64 n388), (.slice (q389) k390 k391), (.int .u8 n392), (.string s393), (.string s394), (.string s395), (.bool b396), (.int .u32 n397)]), (.agg #[(.int .u8 n344), (.int .u16 n345), (.int .u32 n346), (.int .u8 n347), (.int .u8 n348), (.int .u8 n349), (.int .u8 n350), (.int .u8 n351), (.int .u8 n352), (.int .u8 n353), (.int .u8 n354), (.int .u8 n355), (.string s356), (.string s357), (.int .i64 n358), (.slice (q359) k360 k361), (.int .u8 n362), (.string s363), (.string s364), (.string s365), (.bool b366), (.int .u32 n367)])] w373 fun e398 w399 =>
                      ∃ b400 : Bool, (e398 = .returned (.bool b400)) ∧
                      (X.Kept L371 w373 w399) ∧
                      (X.FactsW x369 w399 (L371)) ∧
                      x65 q25 (b400 && (b339 == b368)) n30 n31 n32 n33 n34 n35 n36 n37 n38 n39 n40 n41 n42 s43 s44 n45 q46 k47 k48 n49 s50 s51 s52 b53 n54 n55 n56 n57 n58 n59 n60 n61 n62 n63 n64 w399 (L371)
               else
                if (n30 == 4) = true then
                 ∀ w294 : World, ∀ L295 : List Nat, (X.Hid [] w27 w294) →
                 (X.NewL (w).heap.size [] w27 w294 L295) →
                 X.CallX Try.prog 20 #[(.pointer (q25))] w294 fun e296 w297 =>
                  ∃ q298 : Option Addr, (e296 = .returned (.pointer (q298))) ∧
                  (X.Kept L295 w294 w297) ∧
                  x65 q298 true n30 n31 n32 n33 n34 n35 n36 n37 n38 n39 n40 n41 n42 s43 s44 n45 q46 k47 k48 n49 s50 s51 s52 b53 n54 n55 n56 n57 n58 n59 n60 n61 n62 n63 n64 w297 (L295)
                else
                 ∀ w292 : World, ∀ L293 : List Nat, (X.Hid [] w27 w292) →
                 (X.NewL (w).heap.size [] w27 w292 L293) →
                 x65 q25 true n30 n31 n32 n33 n34 n35 n36 n37 n38 n39 n40 n41 n42 s43 s44 n45 q46 k47 k48 n49 s50 s51 s52 b53 n54 n55 n56 n57 n58 n59 n60 n61 n62 n63 n64 w292 (L293)
              else
               if (n30 == 3) = true then
                if (n30 == 3) = true then
                 ∀ w175 : World, ∀ L176 : List Nat, (X.Hid [] w27 w175) →
                 (X.NewL (w).heap.size [] w27 w175 L176) →
                 X.CallX Try.prog 15 #[(.pointer (q17)), (.agg #[(.int .u8 n31), (.int .u16 n32), (.int .u32 n33), (.int .u8 n34), (.int .u8 n35), (.int .u8 n36), (.int .u8 n37), (.int .u8 n38), (.int .u8 n39), (.int .u8 n40), (.int .u8 n41), (.int .u8 n42), (.string s43), (.string s44), (.int .i64 n45), (.slice (q46) k47 k48), (.int .u8 n49), (.string s50), (.string s51), (.string s52), (.bool b53), (.int .u32 n54)])] w175 fun e177 w178 =>
                  ∃ n179 : Int, ∃ n180 : Int, ∃ n181 : Int, ∃ n182 : Int, ∃ n183 : Int, ∃ n184 : Int, ∃ n185 : Int, ∃ n186 : Int, ∃ n187 : Int, ∃ n188 : Int, ∃ n189 : Int, (e177 = .returned (.tuple #[(.agg #[(.int .u8 n179), (.int .u16 n180), (.int .u32 n181), (.int .u8 n182), (.int .u8 n183), (.int .u8 n184), (.int .u8 n185), (.int .u8 n186), (.int .u8 n187), (.int .u8 n188)]), (.int .i64 n189)])) ∧
                  (X.Kept L176 w175 w178) ∧
                  ∀ w190 : World, ∀ L191 : List Nat, (X.Hid (L176) w178 w190) →
                  (X.NewL (w).heap.size (L176) w178 w190 L191) →
                  X.CallX Try.prog 17 #[(.agg #[(.int .u8 n179), (.int .u16 n180), (.int .u32 n181), (.int .u8 n182), (.int .u8 n183), (.int .u8 n184), (.int .u8 n185), (.int .u8 n186), (.int .u8 n187), (.int .u8 n188)])] w190 fun e192 w193 =>
                   ∃ n194 : Int, ∃ n195 : Int, ∃ n196 : Int, ∃ n197 : Int, ∃ n198 : Int, ∃ n199 : Int, ∃ n200 : Int, ∃ n201 : Int, ∃ n202 : Int, ∃ n203 : Int, (e192 = .returned (.agg #[(.int .u8 n194), (.int .u16 n195), (.int .u32 n196), (.int .u8 n197), (.int .u8 n198), (.int .u8 n199), (.int .u8 n200), (.int .u8 n201), (.int .u8 n202), (.int .u8 n203)])) ∧
                   (X.Kept L191 w190 w193) ∧
                   X.CallX Try.prog 16 #[(.pointer (q25)), (.agg #[(.int .u8 n194), (.int .u16 n195), (.int .u32 n196), (.int .u8 n197), (.int .u8 n198), (.int .u8 n199), (.int .u8 n200), (.int .u8 n201), (.int .u8 n202), (.int .u8 n203)])] w193 fun e204 w205 =>
                    ∃ n206 : Int, ∃ n207 : Int, ∃ n208 : Int, ∃ n209 : Int, ∃ n210 : Int, ∃ n211 : Int, ∃ n212 : Int, ∃ n213 : Int, ∃ n214 : Int, ∃ n215 : Int, ∃ n216 : Int, ∃ n217 : Int, ∃ s218 : ByteArray, ∃ s219 : ByteArray, ∃ n220 : Int, ∃ q221 : Option Addr, ∃ k222 : Nat, ∃ k223 : Nat, ∃ n224 : Int, ∃ s225 : ByteArray, ∃ s226 : ByteArray, ∃ s227 : ByteArray, ∃ b228 : Bool, ∃ n229 : Int, ∃ b230 : Bool, (e204 = .returned (.tuple #[(.agg #[(.int .u8 n206), (.int .u16 n207), (.int .u32 n208), (.int .u8 n209), (.int .u8 n210), (.int .u8 n211), (.int .u8 n212), (.int .u8 n213), (.int .u8 n214), (.int .u8 n215), (.int .u8 n216), (.int .u8 n217), (.string s218), (.string s219), (.int .i64 n220), (.slice (q221) k222 k223), (.int .u8 n224), (.string s225), (.string s226), (.string s227), (.bool b228), (.int .u32 n229)]), (.bool b230)])) ∧
                    (X.Kept L191 w193 w205) ∧
                    ∀ w231 : World, ∀ L232 : List Nat, (X.Hid (L191) w205 w231) →
                    (X.NewL (w).heap.size (L191) w205 w231 L232) →
                    X.CallX Try.prog 18 #[(.pointer (q17)), (.agg #[(.int .u8 n179), (.int .u16 n180), (.int .u32 n181), (.int .u8 n182), (.int .u8 n183), (.int .u8 n184), (.int .u8 n185), (.int .u8 n186), (.int .u8 n187), (.int .u8 n188)])] w231 fun e233 w234 =>
                     ∃ n235 : Int, ∃ n236 : Int, ∃ n237 : Int, ∃ n238 : Int, ∃ n239 : Int, ∃ n240 : Int, ∃ n241 : Int, ∃ n242 : Int, ∃ n243 : Int, ∃ n244 : Int, ∃ n245 : Int, ∃ n246 : Int, ∃ s247 : ByteArray, ∃ s248 : ByteArray, ∃ n249 : Int, ∃ q250 : Option Addr, ∃ k251 : Nat, ∃ k252 : Nat, ∃ n253 : Int, ∃ s254 : ByteArray, ∃ s255 : ByteArray, ∃ s256 : ByteArray, ∃ b257 : Bool, ∃ n258 : Int, ∃ b259 : Bool, (e233 = .returned (.tuple #[(.agg #[(.int .u8 n235), (.int .u16 n236), (.int .u32 n237), (.int .u8 n238), (.int .u8 n239), (.int .u8 n240), (.int .u8 n241), (.int .u8 n242), (.int .u8 n243), (.int .u8 n244), (.int .u8 n245), (.int .u8 n246), (.string s247), (.string s248), (.int .i64 n249), (.slice (q250) k251 k252), (.int .u8 n253), (.string s254), (.string s255), (.string s256), (.bool b257), (.int .u32 n258)]), (.bool b259)])) ∧
                     (X.Kept L232 w231 w234) ∧
                     ∃ x260 : X.Facts, (X.FactsW x260 w234 (L232)) ∧
                     ∀ w261 : World, ∀ L262 : List Nat, (X.Hid (L232) w234 w261) →
                     (X.NewL (w).heap.size (L232) w234 w261 L262) →
                     X.CallX Try.prog 11 #[(.agg #[(.int .u8 n206), (.int .u16 n207), (.int .u32 n208), (.int .u8 n209), (.int .u8 n210), (.int .u8 n211), (.int .u8 n212), (.int .u8 n213), (.int .u8 n214), (.int .u8 n215), (.int .u8 n216), (.int .u8 n217), (.string s218), (.string s219), (.int .i64 n220), (.slice (q221) k222 k223), (.int .u8 n224), (.string s225), (.string s226), (.string s227), (.bool b228), (.int .u32 n229)])] w261 fun e263 w264 =>
                      ∃ n265 : Int, ∃ n266 : Int, ∃ n267 : Int, ∃ n268 : Int, ∃ n269 : Int, ∃ n270 : Int, ∃ n271 : Int, ∃ n272 : Int, ∃ n273 : Int, ∃ n274 : Int, ∃ n275 : Int, ∃ n276 : Int, ∃ s277 : ByteArray, ∃ s278 : ByteArray, ∃ n279 : Int, ∃ q280 : Option Addr, ∃ k281 : Nat, ∃ k282 : Nat, ∃ n283 : Int, ∃ s284 : ByteArray, ∃ s285 : ByteArray, ∃ s286 : ByteArray, ∃ b287 : Bool, ∃ n288 : Int, (e263 = .returned (.agg #[(.int .u8 n265), (.int .u16 n266), (.int .u32 n267), (.int .u8 n268), (.int .u8 n269), (.int .u8 n270), (.int .u8 n271), (.int .u8 n272), (.int .u8 n273), (.int .u8 n274), (.int .u8 n275), (.int .u8 n276), (.string s277), (.string s278), (.int .i64 n279), (.slice (q280) k281 k282), (.int .u8 n283), (.string s284), (.string s285), (.string s286), (.bool b287), (.int .u32 n288)])) ∧
                      (X.Kept L262 w261 w264) ∧
                      (X.FactsW x260 w264 (L262)) ∧
                      X.CallX Try.prog 19 #[(.agg #[(.int .u8 n265), (.int .u16 n266), (.int .u32 n267), (.int .u8 n268), (.int .u8 n269), (.int .u8 n270), (.int .u8 n271), (.int .u8 n272), (.int .u8 n273), (.int .u8 n274), (.int .u8 n275), (.int .u8 n276), (.string s277), (.string s278), (.int .i64 n279), (.slice (q280) k281 k282), (.int .u8 n283), (.string s284), (.string s285), (.string s286), (.bool b287), (.int .u32 n288)]), (.agg #[(.int .u8 n235), (.int .u16 n236), (.int .u32 n237), (.int .u8 n238), (.int .u8 n239), (.int .u8 n240), (.int .u8 n241), (.int .u8 n242), (.int .u8 n243), (.int .u8 n244), (.int .u8 n245), (.int .u8 n246), (.string s247), (.string s248), (.int .i64 n249), (.slice (q250) k251 k252), (.int .u8 n253), (.string s254), (.string s255), (.string s256), (.bool b257), (.int .u32 n258)])] w264 fun e289 w290 =>
                       ∃ b291 : Bool, (e289 = .returned (.bool b291)) ∧
                       (X.Kept L262 w264 w290) ∧
                       (X.FactsW x260 w290 (L262)) ∧
                       x65 q25 (b291 && (b230 == b259)) n30 n31 n32 n33 n34 n35 n36 n37 n38 n39 n40 n41 n42 s43 s44 n45 q46 k47 k48 n49 s50 s51 s52 b53 n54 n179 n180 n181 n182 n183 n184 n185 n186 n187 n188 w290 (L262)
                else
                 ∀ w73 : World, ∀ L74 : List Nat, (X.Hid [] w27 w73) →
                 (X.NewL (w).heap.size [] w27 w73 L74) →
                 X.CallX Try.prog 17 #[(.agg #[(.int .u8 n55), (.int .u16 n56), (.int .u32 n57), (.int .u8 n58), (.int .u8 n59), (.int .u8 n60), (.int .u8 n61), (.int .u8 n62), (.int .u8 n63), (.int .u8 n64)])] w73 fun e75 w76 =>
                  ∃ n77 : Int, ∃ n78 : Int, ∃ n79 : Int, ∃ n80 : Int, ∃ n81 : Int, ∃ n82 : Int, ∃ n83 : Int, ∃ n84 : Int, ∃ n85 : Int, ∃ n86 : Int, (e75 = .returned (.agg #[(.int .u8 n77), (.int .u16 n78), (.int .u32 n79), (.int .u8 n80), (.int .u8 n81), (.int .u8 n82), (.int .u8 n83), (.int .u8 n84), (.int .u8 n85), (.int .u8 n86)])) ∧
                  (X.Kept L74 w73 w76) ∧
                  X.CallX Try.prog 16 #[(.pointer (q25)), (.agg #[(.int .u8 n77), (.int .u16 n78), (.int .u32 n79), (.int .u8 n80), (.int .u8 n81), (.int .u8 n82), (.int .u8 n83), (.int .u8 n84), (.int .u8 n85), (.int .u8 n86)])] w76 fun e87 w88 =>
                   ∃ n89 : Int, ∃ n90 : Int, ∃ n91 : Int, ∃ n92 : Int, ∃ n93 : Int, ∃ n94 : Int, ∃ n95 : Int, ∃ n96 : Int, ∃ n97 : Int, ∃ n98 : Int, ∃ n99 : Int, ∃ n100 : Int, ∃ s101 : ByteArray, ∃ s102 : ByteArray, ∃ n103 : Int, ∃ q104 : Option Addr, ∃ k105 : Nat, ∃ k106 : Nat, ∃ n107 : Int, ∃ s108 : ByteArray, ∃ s109 : ByteArray, ∃ s110 : ByteArray, ∃ b111 : Bool, ∃ n112 : Int, ∃ b113 : Bool, (e87 = .returned (.tuple #[(.agg #[(.int .u8 n89), (.int .u16 n90), (.int .u32 n91), (.int .u8 n92), (.int .u8 n93), (.int .u8 n94), (.int .u8 n95), (.int .u8 n96), (.int .u8 n97), (.int .u8 n98), (.int .u8 n99), (.int .u8 n100), (.string s101), (.string s102), (.int .i64 n103), (.slice (q104) k105 k106), (.int .u8 n107), (.string s108), (.string s109), (.string s110), (.bool b111), (.int .u32 n112)]), (.bool b113)])) ∧
                   (X.Kept L74 w76 w88) ∧
                   ∀ w114 : World, ∀ L115 : List Nat, (X.Hid (L74) w88 w114) →
                   (X.NewL (w).heap.size (L74) w88 w114 L115) →
                   X.CallX Try.prog 18 #[(.pointer (q17)), (.agg #[(.int .u8 n55), (.int .u16 n56), (.int .u32 n57), (.int .u8 n58), (.int .u8 n59), (.int .u8 n60), (.int .u8 n61), (.int .u8 n62), (.int .u8 n63), (.int .u8 n64)])] w114 fun e116 w117 =>
                    ∃ n118 : Int, ∃ n119 : Int, ∃ n120 : Int, ∃ n121 : Int, ∃ n122 : Int, ∃ n123 : Int, ∃ n124 : Int, ∃ n125 : Int, ∃ n126 : Int, ∃ n127 : Int, ∃ n128 : Int, ∃ n129 : Int, ∃ s130 : ByteArray, ∃ s131 : ByteArray, ∃ n132 : Int, ∃ q133 : Option Addr, ∃ k134 : Nat, ∃ k135 : Nat, ∃ n136 : Int, ∃ s137 : ByteArray, ∃ s138 : ByteArray, ∃ s139 : ByteArray, ∃ b140 : Bool, ∃ n141 : Int, ∃ b142 : Bool, (e116 = .returned (.tuple #[(.agg #[(.int .u8 n118), (.int .u16 n119), (.int .u32 n120), (.int .u8 n121), (.int .u8 n122), (.int .u8 n123), (.int .u8 n124), (.int .u8 n125), (.int .u8 n126), (.int .u8 n127), (.int .u8 n128), (.int .u8 n129), (.string s130), (.string s131), (.int .i64 n132), (.slice (q133) k134 k135), (.int .u8 n136), (.string s137), (.string s138), (.string s139), (.bool b140), (.int .u32 n141)]), (.bool b142)])) ∧
                    (X.Kept L115 w114 w117) ∧
                    ∃ x143 : X.Facts, (X.FactsW x143 w117 (L115)) ∧
                    ∀ w144 : World, ∀ L145 : List Nat, (X.Hid (L115) w117 w144) →
                    (X.NewL (w).heap.size (L115) w117 w144 L145) →
                    X.CallX Try.prog 11 #[(.agg #[(.int .u8 n89), (.int .u16 n90), (.int .u32 n91), (.int .u8 n92), (.int .u8 n93), (.int .u8 n94), (.int .u8 n95), (.int .u8 n96), (.int .u8 n97), (.int .u8 n98), (.int .u8 n99), (.int .u8 n100), (.string s101), (.string s102), (.int .i64 n103), (.slice (q104) k105 k106), (.int .u8 n107), (.string s108), (.string s109), (.string s110), (.bool b111), (.int .u32 n112)])] w144 fun e146 w147 =>
                     ∃ n148 : Int, ∃ n149 : Int, ∃ n150 : Int, ∃ n151 : Int, ∃ n152 : Int, ∃ n153 : Int, ∃ n154 : Int, ∃ n155 : Int, ∃ n156 : Int, ∃ n157 : Int, ∃ n158 : Int, ∃ n159 : Int, ∃ s160 : ByteArray, ∃ s161 : ByteArray, ∃ n162 : Int, ∃ q163 : Option Addr, ∃ k164 : Nat, ∃ k165 : Nat, ∃ n166 : Int, ∃ s167 : ByteArray, ∃ s168 : ByteArray, ∃ s169 : ByteArray, ∃ b170 : Bool, ∃ n171 : Int, (e146 = .returned (.agg #[(.int .u8 n148), (.int .u16 n149), (.int .u32 n150), (.int .u8 n151), (.int .u8 n152), (.int .u8 n153), (.int .u8 n154), (.int .u8 n155), (.int .u8 n156), (.int .u8 n157), (.int .u8 n158), (.int .u8 n159), (.string s160), (.string s161), (.int .i64 n162), (.slice (q163) k164 k165), (.int .u8 n166), (.string s167), (.string s168), (.string s169), (.bool b170), (.int .u32 n171)])) ∧
                     (X.Kept L145 w144 w147) ∧
                     (X.FactsW x143 w147 (L145)) ∧
                     X.CallX Try.prog 19 #[(.agg #[(.int .u8 n148), (.int .u16 n149), (.int .u32 n150), (.int .u8 n151), (.int .u8 n152), (.int .u8 n153), (.int .u8 n154), (.int .u8 n155), (.int .u8 n156), (.int .u8 n157), (.int .u8 n158), (.int .u8 n159), (.string s160), (.string s161), (.int .i64 n162), (.slice (q163) k164 k165), (.int .u8 n166), (.string s167), (.string s168), (.string s169), (.bool b170), (.int .u32 n171)]), (.agg #[(.int .u8 n118), (.int .u16 n119), (.int .u32 n120), (.int .u8 n121), (.int .u8 n122), (.int .u8 n123), (.int .u8 n124), (.int .u8 n125), (.int .u8 n126), (.int .u8 n127), (.int .u8 n128), (.int .u8 n129), (.string s130), (.string s131), (.int .i64 n132), (.slice (q133) k134 k135), (.int .u8 n136), (.string s137), (.string s138), (.string s139), (.bool b140), (.int .u32 n141)])] w147 fun e172 w173 =>
                      ∃ b174 : Bool, (e172 = .returned (.bool b174)) ∧
                      (X.Kept L145 w147 w173) ∧
                      (X.FactsW x143 w173 (L145)) ∧
                      x65 q25 (b174 && (b113 == b142)) n30 n31 n32 n33 n34 n35 n36 n37 n38 n39 n40 n41 n42 s43 s44 n45 q46 k47 k48 n49 s50 s51 s52 b53 n54 n55 n56 n57 n58 n59 n60 n61 n62 n63 n64 w173 (L145)
               else
                if (n30 == 4) = true then
                 ∀ w68 : World, ∀ L69 : List Nat, (X.Hid [] w27 w68) →
                 (X.NewL (w).heap.size [] w27 w68 L69) →
                 X.CallX Try.prog 20 #[(.pointer (q25))] w68 fun e70 w71 =>
                  ∃ q72 : Option Addr, (e70 = .returned (.pointer (q72))) ∧
                  (X.Kept L69 w68 w71) ∧
                  x65 q72 true n30 n31 n32 n33 n34 n35 n36 n37 n38 n39 n40 n41 n42 s43 s44 n45 q46 k47 k48 n49 s50 s51 s52 b53 n54 n55 n56 n57 n58 n59 n60 n61 n62 n63 n64 w71 (L69)
                else
                 ∀ w66 : World, ∀ L67 : List Nat, (X.Hid [] w27 w66) →
                 (X.NewL (w).heap.size [] w27 w66 L67) →
                 x65 q25 true n30 n31 n32 n33 n34 n35 n36 n37 n38 n39 n40 n41 n42 s43 s44 n45 q46 k47 k48 n49 s50 s51 s52 b53 n54 n55 n56 n57 n58 n59 n60 n61 n62 n63 n64 w66 (L67)) ∧
           ∀ q1118 : Option Addr, ∀ b1119 : Bool, ∀ n1120 : Int, ∀ n1121 : Int, ∀ n1122 : Int, ∀ n1123 : Int, ∀ n1124 : Int, ∀ n1125 : Int, ∀ n1126 : Int, ∀ n1127 : Int, ∀ n1128 : Int, ∀ n1129 : Int, ∀ n1130 : Int, ∀ n1131 : Int, ∀ n1132 : Int, ∀ s1133 : ByteArray, ∀ s1134 : ByteArray, ∀ n1135 : Int, ∀ q1136 : Option Addr, ∀ k1137 : Nat, ∀ k1138 : Nat, ∀ n1139 : Int, ∀ s1140 : ByteArray, ∀ s1141 : ByteArray, ∀ s1142 : ByteArray, ∀ b1143 : Bool, ∀ n1144 : Int, ∀ n1145 : Int, ∀ n1146 : Int, ∀ n1147 : Int, ∀ n1148 : Int, ∀ n1149 : Int, ∀ n1150 : Int, ∀ n1151 : Int, ∀ n1152 : Int, ∀ n1153 : Int, ∀ n1154 : Int, ∀ w1155 : World, ∀ L1156 : List Nat, (X.LF (w).heap.size w1155 L1156) →
           (x65 q1118 b1119 n1120 n1121 n1122 n1123 n1124 n1125 n1126 n1127 n1128 n1129 n1130 n1131 n1132 s1133 s1134 n1135 q1136 k1137 k1138 n1139 s1140 s1141 s1142 b1143 n1144 n1145 n1146 n1147 n1148 n1149 n1150 n1151 n1152 n1153 n1154 w1155 L1156) →
           ∃ x1157 : X.Facts, (X.FactsW x1157 w1155 (L1156)) ∧
           if ((!b1119) == false) = true then
            X.onSome (q17) fun p1178 =>
            ∃ q1179 : Option Addr, ∃ k1180 : Nat, ∃ k1181 : Nat, (((p1178.add 1), [(.slice (q1179) k1180 k1181)]) ∈ x1157) ∧
            ∀ w1182 : World, ∀ L1183 : List Nat, (X.Hid (L1156) w1155 w1182) →
            (X.NewL (w).heap.size (L1156) w1155 w1182 L1183) →
            X.CallX Try.prog 21 #[(.pointer (q1118))] w1182 fun e1184 w1185 =>
             ∃ n1186 : Int, (e1184 = .returned (.int .i64 n1186)) ∧
             (X.Kept L1183 w1182 w1185) ∧
             (X.FactsW x1157 w1185 (L1183)) ∧
             ∃ x1187 : X.Facts, (X.FactsW x1187 w1185 (L1183)) ∧
             (∀ x1188 : Addr × List Value, (x1188 ∈ x1157) →
              x1188 ∈ x1187) ∧
             if ((false || (n1186 != ((k1180 : Nat) : Int))) == false) = true then
              X.onSome (q17) fun p1195 =>
              ∃ q1196 : Option Addr, ∃ k1197 : Nat, ∃ k1198 : Nat, (((p1195.add 1), [(.slice (q1196) k1197 k1198)]) ∈ x1187) ∧
              X.CallX Try.prog 24 #[(.pointer (q1118))] w1185 fun e1199 w1200 =>
               ∃ q1201 : Option Addr, ∃ k1202 : Nat, ∃ k1203 : Nat, (e1199 = .returned (.slice (q1201) k1202 k1203)) ∧
               (X.Kept L1183 w1185 w1200) ∧
               (X.FactsW x1187 w1200 (L1183)) ∧
               ∃ x1204 : X.Facts, (X.FactsW x1204 w1200 (L1183)) ∧
               (∀ x1205 : Addr × List Value, (x1205 ∈ x1187) →
                x1205 ∈ x1204) ∧
               X.CallX Try.prog 23 #[(.slice (q1201) k1202 k1203)] w1200 fun e1206 w1207 =>
                ∃ q1208 : Option Addr, ∃ k1209 : Nat, ∃ k1210 : Nat, (e1206 = .returned (.slice (q1208) k1209 k1210)) ∧
                (X.Kept L1183 w1200 w1207) ∧
                (X.FactsW x1204 w1207 (L1183)) ∧
                ∃ x1211 : X.Facts, (X.FactsW x1211 w1207 (L1183)) ∧
                (∀ x1212 : Addr × List Value, (x1212 ∈ x1204) →
                 x1212 ∈ x1211) ∧
                X.CallX Try.prog 22 #[(.slice (q1208) k1209 k1210), (.slice (q1196) k1197 k1198)] w1207 fun e1213 w1214 =>
                 ∃ b1215 : Bool, (e1213 = .returned (.bool b1215)) ∧
                 (X.Kept L1183 w1207 w1214) ∧
                 (X.FactsW x1211 w1214 (L1183)) ∧
                 ∃ x1216 : X.Facts, (X.FactsW x1216 w1214 (L1183)) ∧
                 (∀ x1217 : Addr × List Value, (x1217 ∈ x1211) →
                  x1217 ∈ x1216) ∧
                 if ((false || (!b1215)) == false) = true then
                  X.CallX Try.prog 17 #[(.agg #[(.int .u8 n1145), (.int .u16 n1146), (.int .u32 n1147), (.int .u8 n1148), (.int .u8 n1149), (.int .u8 n1150), (.int .u8 n1151), (.int .u8 n1152), (.int .u8 n1153), (.int .u8 n1154)])] w1214 fun e1218 w1219 =>
                   ∃ n1220 : Int, ∃ n1221 : Int, ∃ n1222 : Int, ∃ n1223 : Int, ∃ n1224 : Int, ∃ n1225 : Int, ∃ n1226 : Int, ∃ n1227 : Int, ∃ n1228 : Int, ∃ n1229 : Int, (e1218 = .returned (.agg #[(.int .u8 n1220), (.int .u16 n1221), (.int .u32 n1222), (.int .u8 n1223), (.int .u8 n1224), (.int .u8 n1225), (.int .u8 n1226), (.int .u8 n1227), (.int .u8 n1228), (.int .u8 n1229)])) ∧
                   (X.Kept L1183 w1214 w1219) ∧
                   (X.FactsW x1216 w1219 (L1183)) ∧
                   X.CallX Try.prog 25 #[(.pointer (q1118)), (.agg #[(.int .u8 n1220), (.int .u16 n1221), (.int .u32 n1222), (.int .u8 n1223), (.int .u8 n1224), (.int .u8 n1225), (.int .u8 n1226), (.int .u8 n1227), (.int .u8 n1228), (.int .u8 n1229)])] w1219 fun e1230 w1231 =>
                    ∃ b1232 : Bool, (e1230 = .returned (.bool b1232)) ∧
                    (X.Kept L1183 w1219 w1231) ∧
                    (X.FactsW x1216 w1231 (L1183)) ∧
                    X.CallX Try.prog 26 #[(.pointer (q17)), (.agg #[(.int .u8 n1145), (.int .u16 n1146), (.int .u32 n1147), (.int .u8 n1148), (.int .u8 n1149), (.int .u8 n1150), (.int .u8 n1151), (.int .u8 n1152), (.int .u8 n1153), (.int .u8 n1154)])] w1231 fun e1233 w1234 =>
                     ∃ n1235 : Int, (e1233 = .returned (.int .i64 n1235)) ∧
                     (X.Kept L1183 w1231 w1234) ∧
                     (X.FactsW x1216 w1234 (L1183)) ∧
                     if (false || (!(b1232 == (decide (n1235 ≥ 0))))) = true then
                      R (.returned (.bool false)) w1234
                     else
                      (x23 q1118 (IntKind.wrap .i64 (n26 + 1)) w1234 (L1183)) ∧
                      Nat.le ((x24 q1118 (IntKind.wrap .i64 (n26 + 1)) w1234) + 1) (x24 q25 n26 w27)
                 else
                  R (.returned (.bool false)) w1214
             else
              ∃ x1189 : X.Facts, (X.FactsW x1189 w1185 (L1183)) ∧
              (∀ x1190 : Addr × List Value, (x1190 ∈ x1187) →
               x1190 ∈ x1189) ∧
              ∃ x1191 : X.Facts, (X.FactsW x1191 w1185 (L1183)) ∧
              (∀ x1192 : Addr × List Value, (x1192 ∈ x1189) →
               x1192 ∈ x1191) ∧
              ∃ x1193 : X.Facts, (X.FactsW x1193 w1185 (L1183)) ∧
              (∀ x1194 : Addr × List Value, (x1194 ∈ x1191) →
               x1194 ∈ x1193) ∧
              R (.returned (.bool false)) w1185
           else
            (∃ x1158 : X.Facts, (X.FactsW x1158 w1155 (L1156)) ∧
             (∀ x1159 : Addr × List Value, (x1159 ∈ x1157) →
              x1159 ∈ x1158) ∧
             ∃ x1160 : X.Facts, (X.FactsW x1160 w1155 (L1156)) ∧
             (∀ x1161 : Addr × List Value, (x1161 ∈ x1158) →
              x1161 ∈ x1160) ∧
             ∃ x1162 : X.Facts, (X.FactsW x1162 w1155 (L1156)) ∧
             (∀ x1163 : Addr × List Value, (x1163 ∈ x1160) →
              x1163 ∈ x1162) ∧
             ∃ x1164 : X.Facts, (X.FactsW x1164 w1155 (L1156)) ∧
             (∀ x1165 : Addr × List Value, (x1165 ∈ x1162) →
              x1165 ∈ x1164) ∧
             ∀ w1166 : World, (X.Hid (L1156) w1155 w1166) →
             R (.returned (.bool false)) w1166) ∧
            ∃ x1167 : X.Facts, (X.FactsW x1167 w1155 (L1156)) ∧
            (∀ x1168 : Addr × List Value, (x1168 ∈ x1157) →
             x1168 ∈ x1167) ∧
            ∃ x1169 : X.Facts, (X.FactsW x1169 w1155 (L1156)) ∧
            (∀ x1170 : Addr × List Value, (x1170 ∈ x1167) →
             x1170 ∈ x1169) ∧
            ∃ x1171 : X.Facts, (X.FactsW x1171 w1155 (L1156)) ∧
            (∀ x1172 : Addr × List Value, (x1172 ∈ x1169) →
             x1172 ∈ x1171) ∧
            ∃ x1173 : X.Facts, (X.FactsW x1173 w1155 (L1156)) ∧
            (∀ x1174 : Addr × List Value, (x1174 ∈ x1171) →
             x1174 ∈ x1173) ∧
            ∃ x1175 : X.Facts, (X.FactsW x1175 w1155 (L1156)) ∧
            (∀ x1176 : Addr × List Value, (x1176 ∈ x1173) →
             x1176 ∈ x1175) ∧
            ∀ w1177 : World, (X.Hid (L1156) w1155 w1177) →
            R (.returned (.bool false)) w1177
          else
           R (.returned (.bool true)) w27
  else
   X.CallX Try.prog 4 #[] w fun e1 w2 =>
    ∃ b3 : Bool, (e1 = .returned (.bool b3)) ∧
    ((w).heap.size ≤ (w2).heap.size) ∧
    R (.returned (.bool b3)) w2) :
    Calls Try.prog 3 #[.int .u8 a, .int .i64 b, .slice c cl cc] w R :=
  X.calls_of { isLoc := [12, 14, 16, 18, 20], sym := [], loops := [(4, .inv [(7, .int .i64)] [] true), (14, .inv [(10, .int .i64)] [] true), (19, .inv [(8, .ptr), (11, .int .i64)] [] true)], joins := [(6, ([(8, .ptr), (13, .bool)], [(12, [.int .i64, .int .u8, .int .u16, .int .u32, .int .u8, .int .u8, .int .u8, .int .u8, .int .u8, .int .u8, .int .u8, .int .u8, .int .u8, .str, .str, .int .i64, .slice, .int .u8, .str, .str, .str, .bool, .int .u32, .int .u8, .int .u16, .int .u32, .int .u8, .int .u8, .int .u8, .int .u8, .int .u8, .int .u8, .int .u8])]))] } Try.func3 (by kernel_rfl) h
end Go.Proofs
