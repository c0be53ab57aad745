import Derived.Test.YtjphfelmaingjaaGreatXFn
import Derived.Test.YtjphfelmaingjaaGreatProg
set_option maxRecDepth 100000
set_option linter.unusedVariables false
/- The verification conditions of this seat's functions, as the engine has them: printed by a program of the bench; checked by the kernel. -/
namespace Go.Proofs
open Go
theorem x_gemotlaw02_Proc (a_0 a_1 : Int) (w : World) (R : Ending → World → Prop) (h :
 ∀ w1 : World, (X.Hid [] w w1) →
 R (.returned (.agg #[.int .u8 a_0, .int .u16 a_1])) w1) :
 Calls Tryz.prog 27 #[.agg #[.int .u8 a_0, .int .u16 a_1]] w R :=
 X.calls_of { isLoc := [1, 2], sym := [], loops := [], joins := [] } Tryz.func27 (by kernel_rfl) h
theorem x_gemotlaw02_ID (a_0 a_1 a_2 a_3 a_4 a_5 a_6 a_7 a_8 a_9 : Int) (w : World) (R : Ending → World → Prop) (h :
 ∃ x1 : X.Facts, (X.FactsW x1 w []) ∧
 (∀ w2 : World, ∀ L3 : List Nat, (X.Hid [] w w2) →
 (X.NewL w.heap.size [] w w2 L3) →
 X.CallX Tryz.prog 27 #[(.agg #[.int .u8 a_0, .int .u16 a_1])] w2 fun e4 w5 =>
 ∃ n6 n7 : Int, (e4 = .returned (.agg #[.int .u8 n6, .int .u16 n7])) ∧
 (X.Kept L3 w2 w5) ∧
 (X.FactsW x1 w5 L3) ∧
 ∃ x8 : X.Facts, (X.FactsW x8 w5 L3) ∧
 ∃ x9 : X.Facts, (X.FactsW x9 w5 L3) ∧
 ∃ x10 : X.Facts, (X.FactsW x10 w5 L3) ∧
 ∀ w11 : World, (X.Hid L3 w5 w11) →
 R (.returned (.agg #[.int .u8 n6, .int .u16 n7, .int .u32 a_2, .int .u8 a_3, .int .u8 a_4, .int .u8 a_5, .int .u8 a_6, .int .u8 a_7, .int .u8 a_8, .int .u8 a_9])) w11) ∧
 ∀ w12 : World, ∀ L13 : List Nat, (X.Hid [] w w12) →
 (X.NewL w.heap.size [] w w12 L13) →
 X.CallX Tryz.prog 27 #[(.agg #[.int .u8 a_0, .int .u16 a_1])] w12 fun e14 w15 =>
 ∃ n16 n17 : Int, (e14 = .returned (.agg #[.int .u8 n16, .int .u16 n17])) ∧
 (X.Kept L13 w12 w15) ∧
 (X.FactsW x1 w15 L13) ∧
 ∃ x18 : X.Facts, (X.FactsW x18 w15 L13) ∧
 ∃ x19 : X.Facts, (X.FactsW x19 w15 L13) ∧
 ∃ x20 : X.Facts, (X.FactsW x20 w15 L13) ∧
 ∀ w21 : World, (X.Hid L13 w15 w21) →
 R (.returned (.agg #[.int .u8 n16, .int .u16 n17, .int .u32 a_2, .int .u8 a_3, .int .u8 a_4, .int .u8 a_5, .int .u8 a_6, .int .u8 a_7, .int .u8 a_8, .int .u8 a_9])) w21) :
 Calls Tryz.prog 23 #[.agg #[.int .u8 a_0, .int .u16 a_1, .int .u32 a_2, .int .u8 a_3, .int .u8 a_4, .int .u8 a_5, .int .u8 a_6, .int .u8 a_7, .int .u8 a_8, .int .u8 a_9]] w R :=
 X.calls_of { isLoc := [1, 2, 3], sym := [], loops := [(3, .unroll 4)], joins := [], stored := [(1, [3]), (5, [3])] } Tryz.func23 (by kernel_rfl) h
theorem x_gemotlaw03_Res (a_0 : Int) (a_1 : ByteArray) (w : World) (R : Ending → World → Prop) (h :
 ∀ w1 : World, (X.Hid [] w w1) →
 R (.returned (.agg #[.int .u8 a_0, .string a_1])) w1) :
 Calls Tryz.prog 25 #[.agg #[.int .u8 a_0, .string a_1]] w R :=
 X.calls_of { isLoc := [1, 2], sym := [], loops := [], joins := [] } Tryz.func25 (by kernel_rfl) h
theorem x_Part (a_0 a_1 : Int) (a_2 a_3 : ByteArray) (a_4 : Int) (w : World) (R : Ending → World → Prop) (h :
 ∀ w1 : World, (X.Hid [] w w1) →
 R (.returned (.agg #[.int .u8 a_0, .int .u8 a_1, .string a_2, .string a_3, .int .i64 a_4])) w1) :
 Calls Tryz.prog 69 #[.agg #[.int .u8 a_0, .int .u8 a_1, .string a_2, .string a_3, .int .i64 a_4]] w R :=
 X.calls_of { isLoc := [1, 2], sym := [], loops := [], joins := [] } Tryz.func69 (by kernel_rfl) h
theorem x_Parts (a : Option Addr) (al ac : Nat) (w : World) (R : Ending → World → Prop) (h :
 ∃ x1 : Option Addr → Nat → Nat → Int → World → List Nat → Prop, ∃ x2 : Option Addr → Nat → Nat → Int → World → Nat, (x1 none 0 0 0 w []) ∧
 ∀ q3 : Option Addr, ∀ k4 k5 : Nat, ∀ n6 : Int, ∀ w7 : World, ∀ L8 : List Nat, (X.LF w.heap.size w7 L8) →
 (x1 q3 k4 k5 n6 w7 L8) →
 if (decide (n6 < ((al : Nat) : Int))) = true then
 ((0 : Int) ≤ n6) ∧
 (n6 < ((al : Nat) : Int)) ∧
 X.onSome a fun p9 =>
 ∃ n10 n11 : Int, ∃ s12 s13 : ByteArray, ∃ n14 : Int, (X.Cells w7 (p9.add ((n6).toNat * 5)) [.int .u8 n10, .int .u8 n11, .string s12, .string s13, .int .i64 n14]) ∧
 X.CallX Tryz.prog 69 #[(.agg #[.int .u8 n10, .int .u8 n11, .string s12, .string s13, .int .i64 n14])] w7 fun e15 w16 =>
 ∃ n17 n18 : Int, ∃ s19 s20 : ByteArray, ∃ n21 : Int, (e15 = .returned (.agg #[.int .u8 n17, .int .u8 n18, .string s19, .string s20, .int .i64 n21])) ∧
 (w7.heap.size ≤ w16.heap.size) ∧
 ∃ q22 : Option Addr, ∃ k23 k24 : Nat, ∃ w25 : World, (Sem.run Tryz.prog (Go.Builtin.append_ #[52, 52] 52 #[.slice q3 k4 k5, .slice (some ⟨w16.heap.size, 0, none⟩) 1 1]) (w16.alloc (.cells #[.int .u8 n17, .int .u8 n18, .string s19, .string s20, .int .i64 n21] 138)) = .ok (.slice q22 k23 k24) w25) ∧
 (((w16.alloc (.cells #[.int .u8 n17, .int .u8 n18, .string s19, .string s20, .int .i64 n21] 138))).heap.size ≤ w25.heap.size) ∧
 (x1 q22 k23 k24 (IntKind.wrap .i64 (n6 + 1)) w25 []) ∧
 Nat.le ((x2 q22 k23 k24 (IntKind.wrap .i64 (n6 + 1)) w25) + 1) (x2 q3 k4 k5 n6 w7)
 else
 R (.returned (.slice q3 k4 k5)) w7) :
 Calls Tryz.prog 24 #[.slice a al ac] w R :=
 X.calls_of { isLoc := [], sym := [], loops := [(3, .inv [(3, .slice), (4, .int .i64)] [] true)], joins := [] } Tryz.func24 (by kernel_rfl) h
theorem x_OwnW (a : Option Addr) (al ac : Nat) (w : World) (R : Ending → World → Prop) (h :
 ∃ x1 : Option Addr → Nat → Nat → Int → World → List Nat → Prop, ∃ x2 : Option Addr → Nat → Nat → Int → World → Nat, (x1 none 0 0 0 w []) ∧
 ∀ q3 : Option Addr, ∀ k4 k5 : Nat, ∀ n6 : Int, ∀ w7 : World, ∀ L8 : List Nat, (X.LF w.heap.size w7 L8) →
 (x1 q3 k4 k5 n6 w7 L8) →
 if (decide (n6 < ((al : Nat) : Int))) = true then
 ∃ x9 : X.Facts, (X.FactsW x9 w7 []) ∧
 ((0 : Int) ≤ n6) ∧
 (n6 < ((al : Nat) : Int)) ∧
 X.onSome a fun p10 =>
 ∃ s11 : ByteArray, ((((p10.add ((n6).toNat * 3)).add 0), [.string s11]) ∈ x9) ∧
 ((0 : Int) ≤ n6) ∧
 (n6 < ((al : Nat) : Int)) ∧
 X.onSome a fun p12 =>
 ∃ s13 : ByteArray, ((((p12.add ((n6).toNat * 3)).add 1), [.string s13]) ∈ x9) ∧
 ((0 : Int) ≤ n6) ∧
 (n6 < ((al : Nat) : Int)) ∧
 X.onSome a fun p14 =>
 ∃ b15 : Bool, ((((p14.add ((n6).toNat * 3)).add 2), [.bool b15]) ∈ x9) ∧
 ∀ w16 : World, (X.Hid [] w7 w16) →
 (X.FactsW x9 (w16.alloc (.cells #[.string s11, .string s13, .bool b15] 214)) []) ∧
 ∃ q17 : Option Addr, ∃ k18 k19 : Nat, ∃ w20 : World, (Sem.run Tryz.prog (Go.Builtin.append_ #[140, 140] 140 #[.slice q3 k4 k5, .slice (some ⟨w16.heap.size, 0, none⟩) 1 1]) (w16.alloc (.cells #[.string s11, .string s13, .bool b15] 214)) = .ok (.slice q17 k18 k19) w20) ∧
 (((w16.alloc (.cells #[.string s11, .string s13, .bool b15] 214))).heap.size ≤ w20.heap.size) ∧
 (X.FactsW x9 w20 []) ∧
 (x1 q17 k18 k19 (IntKind.wrap .i64 (n6 + 1)) w20 []) ∧
 Nat.le ((x2 q17 k18 k19 (IntKind.wrap .i64 (n6 + 1)) w20) + 1) (x2 q3 k4 k5 n6 w7)
 else
 R (.returned (.slice q3 k4 k5)) w7) :
 Calls Tryz.prog 123 #[.slice a al ac] w R :=
 X.calls_of { isLoc := [], sym := [], loops := [(3, .inv [(3, .slice), (4, .int .i64)] [] true)], joins := [] } Tryz.func123 (by kernel_rfl) h
theorem x_OwnE (a_0 a_1 a_2 a_3 a_4 a_5 a_6 a_7 a_8 a_9 a_10 a_11 : Int) (a_12 : Option Addr) (a_12l a_12c : Nat) (a_13 : Int) (a_14 : ByteArray) (a_15 : Option Addr) (a_15l a_15c : Nat) (a_16 a_17 : Int) (w : World) (R : Ending → World → Prop) (h :
 ∃ x1 : X.Facts, (X.FactsW x1 w []) ∧
 ∀ w2 : World, ∀ L3 : List Nat, (X.Hid [] w w2) →
 (X.NewL w.heap.size [] w w2 L3) →
 X.CallX Tryz.prog 23 #[(.agg #[.int .u8 a_1, .int .u16 a_2, .int .u32 a_3, .int .u8 a_4, .int .u8 a_5, .int .u8 a_6, .int .u8 a_7, .int .u8 a_8, .int .u8 a_9, .int .u8 a_10])] w2 fun e4 w5 =>
 ∃ n6 n7 n8 n9 n10 n11 n12 n13 n14 n15 : Int, (e4 = .returned (.agg #[.int .u8 n6, .int .u16 n7, .int .u32 n8, .int .u8 n9, .int .u8 n10, .int .u8 n11, .int .u8 n12, .int .u8 n13, .int .u8 n14, .int .u8 n15])) ∧
 (X.Kept L3 w2 w5) ∧
 (X.FactsW x1 w5 L3) ∧
 X.CallX Tryz.prog 24 #[.slice a_12 a_12l a_12c] w5 fun e16 w17 =>
 ∃ q18 : Option Addr, ∃ k19 k20 : Nat, (e16 = .returned (.slice q18 k19 k20)) ∧
 (X.Kept L3 w5 w17) ∧
 (X.FactsW x1 w17 L3) ∧
 X.CallX Tryz.prog 25 #[(.agg #[.int .u8 a_13, .string a_14])] w17 fun e21 w22 =>
 ∃ n23 : Int, ∃ s24 : ByteArray, (e21 = .returned (.agg #[.int .u8 n23, .string s24])) ∧
 (X.Kept L3 w17 w22) ∧
 (X.FactsW x1 w22 L3) ∧
 X.CallX Tryz.prog 123 #[.slice a_15 a_15l a_15c] w22 fun e25 w26 =>
 ∃ q27 : Option Addr, ∃ k28 k29 : Nat, (e25 = .returned (.slice q27 k28 k29)) ∧
 (X.Kept L3 w22 w26) ∧
 (X.FactsW x1 w26 L3) ∧
 X.CallX Tryz.prog 27 #[(.agg #[.int .u8 a_16, .int .u16 a_17])] w26 fun e30 w31 =>
 ∃ n32 n33 : Int, (e30 = .returned (.agg #[.int .u8 n32, .int .u16 n33])) ∧
 (X.Kept L3 w26 w31) ∧
 (X.FactsW x1 w31 L3) ∧
 ∀ w34 : World, (X.Hid L3 w31 w34) →
 R (.returned (.agg #[.int .u8 a_0, .int .u8 n6, .int .u16 n7, .int .u32 n8, .int .u8 n9, .int .u8 n10, .int .u8 n11, .int .u8 n12, .int .u8 n13, .int .u8 n14, .int .u8 n15, .int .u32 a_11, .slice q18 k19 k20, .int .u8 n23, .string s24, .slice q27 k28 k29, .int .u8 n32, .int .u16 n33])) w34) :
 Calls Tryz.prog 70 #[.agg #[.int .u8 a_0, .int .u8 a_1, .int .u16 a_2, .int .u32 a_3, .int .u8 a_4, .int .u8 a_5, .int .u8 a_6, .int .u8 a_7, .int .u8 a_8, .int .u8 a_9, .int .u8 a_10, .int .u32 a_11, .slice a_12 a_12l a_12c, .int .u8 a_13, .string a_14, .slice a_15 a_15l a_15c, .int .u8 a_16, .int .u16 a_17]] w R :=
 X.calls_of { isLoc := [1, 2], sym := [], loops := [], joins := [], stored := [(1, [2])] } Tryz.func70 (by kernel_rfl) h
theorem x_EqualP (a : Option Addr) (al ac : Nat) (b : Option Addr) (bl bc : Nat) (w : World) (R : Ending → World → Prop) (h :
 if (((al : Nat) : Int) != ((bl : Nat) : Int)) = true then
 R (.returned (.bool false)) w
 else
 ∃ x1 : Int → World → List Nat → Prop, ∃ x2 : Int → World → Nat, (x1 0 w []) ∧
 ∀ n3 : Int, ∀ w4 : World, ∀ L5 : List Nat, (X.LF w.heap.size w4 L5) →
 (x1 n3 w4 L5) →
 if (decide (n3 < ((al : Nat) : Int))) = true then
 ((0 : Int) ≤ n3) ∧
 (n3 < ((al : Nat) : Int)) ∧
 X.onSome a fun p6 =>
 ∃ n7 n8 : Int, ∃ s9 s10 : ByteArray, ∃ n11 : Int, (X.Cells w4 (p6.add ((n3).toNat * 5)) [.int .u8 n7, .int .u8 n8, .string s9, .string s10, .int .i64 n11]) ∧
 ((0 : Int) ≤ n3) ∧
 (n3 < ((bl : Nat) : Int)) ∧
 X.onSome b fun p12 =>
 ∃ n13 n14 : Int, ∃ s15 s16 : ByteArray, ∃ n17 : Int, (X.Cells w4 (p12.add ((n3).toNat * 5)) [.int .u8 n13, .int .u8 n14, .string s15, .string s16, .int .i64 n17]) ∧
 if (!((n7 == n13) && ((n8 == n14) && ((s9 == s15) && ((s10 == s16) && (n11 == n17)))))) = true then
 ∀ w19 : World, (X.Hid [] w4 w19) →
 R (.returned (.bool false)) w19
 else
 ∀ w18 : World, (X.Hid [] w4 w18) →
 (x1 (IntKind.wrap .i64 (n3 + 1)) w18 []) ∧
 Nat.le ((x2 (IntKind.wrap .i64 (n3 + 1)) w18) + 1) (x2 n3 w4)
 else
 R (.returned (.bool true)) w4) :
 Calls Tryz.prog 108 #[.slice a al ac, .slice b bl bc] w R :=
 X.calls_of { isLoc := [], sym := [], loops := [(4, .inv [(13, .int .i64)] [] true)], joins := [] } Tryz.func108 (by kernel_rfl) h
theorem x_EqualW (a : Option Addr) (al ac : Nat) (b : Option Addr) (bl bc : Nat) (w : World) (R : Ending → World → Prop) (h :
 if (((al : Nat) : Int) != ((bl : Nat) : Int)) = true then
 R (.returned (.bool false)) w
 else
 ∃ x1 : Int → World → List Nat → Prop, ∃ x2 : Int → World → Nat, (x1 0 w []) ∧
 ∀ n3 : Int, ∀ w4 : World, ∀ L5 : List Nat, (X.LF w.heap.size w4 L5) →
 (x1 n3 w4 L5) →
 if (decide (n3 < ((al : Nat) : Int))) = true then
 ((0 : Int) ≤ n3) ∧
 (n3 < ((al : Nat) : Int)) ∧
 X.onSome a fun p6 =>
 ∃ s7 s8 : ByteArray, ∃ b9 : Bool, (X.Cells w4 (p6.add ((n3).toNat * 3)) [.string s7, .string s8, .bool b9]) ∧
 ((0 : Int) ≤ n3) ∧
 (n3 < ((bl : Nat) : Int)) ∧
 X.onSome b fun p10 =>
 ∃ s11 s12 : ByteArray, ∃ b13 : Bool, (X.Cells w4 (p10.add ((n3).toNat * 3)) [.string s11, .string s12, .bool b13]) ∧
 if (!((s7 == s11) && ((s8 == s12) && (b9 == b13)))) = true then
 ∀ w15 : World, (X.Hid [] w4 w15) →
 R (.returned (.bool false)) w15
 else
 ∀ w14 : World, (X.Hid [] w4 w14) →
 (x1 (IntKind.wrap .i64 (n3 + 1)) w14 []) ∧
 Nat.le ((x2 (IntKind.wrap .i64 (n3 + 1)) w14) + 1) (x2 n3 w4)
 else
 R (.returned (.bool true)) w4) :
 Calls Tryz.prog 147 #[.slice a al ac, .slice b bl bc] w R :=
 X.calls_of { isLoc := [], sym := [], loops := [(4, .inv [(13, .int .i64)] [] true)], joins := [] } Tryz.func147 (by kernel_rfl) h
theorem x_pSame (a : Option Addr) (al ac : Nat) (b : Option Addr) (bl bc : Nat) (w : World) (R : Ending → World → Prop) (h :
 X.CallX Tryz.prog 108 #[.slice a al ac, .slice b bl bc] w fun e1 w2 =>
 ∃ b3 : Bool, (e1 = .returned (.bool b3)) ∧
 (w.heap.size ≤ w2.heap.size) ∧
 R (.returned (.bool b3)) w2) :
 Calls Tryz.prog 53 #[.slice a al ac, .slice b bl bc] w R :=
 X.calls_of { isLoc := [], sym := [], loops := [], joins := [] } Tryz.func53 (by kernel_rfl) h
theorem x_eSame (a_0 a_1 a_2 a_3 a_4 a_5 a_6 a_7 a_8 a_9 a_10 a_11 : Int) (a_12 : Option Addr) (a_12l a_12c : Nat) (a_13 : Int) (a_14 : ByteArray) (a_15 : Option Addr) (a_15l a_15c : Nat) (a_16 a_17 b_0 b_1 b_2 b_3 b_4 b_5 b_6 b_7 b_8 b_9 b_10 b_11 : Int) (b_12 : Option Addr) (b_12l b_12c : Nat) (b_13 : Int) (b_14 : ByteArray) (b_15 : Option Addr) (b_15l b_15c : Nat) (b_16 b_17 : Int) (w : World) (R : Ending → World → Prop) (h :
 if ((((a_0 == b_0) && (((a_1 == b_1) && (a_2 == b_2)) && ((a_3 == b_3) && ((a_4 == b_4) && (((a_5 == b_5) && (a_6 == b_6)) && (((a_7 == b_7) && (a_8 == b_8)) && ((a_9 == b_9) && (a_10 == b_10)))))))) && (a_11 == b_11)) == true) = true then
 ∀ w2 : World, ∀ L3 : List Nat, (X.Hid [] w w2) →
 (X.NewL w.heap.size [] w w2 L3) →
 X.CallX Tryz.prog 53 #[.slice a_12 a_12l a_12c, .slice b_12 b_12l b_12c] w2 fun e4 w5 =>
 ∃ b6 : Bool, (e4 = .returned (.bool b6)) ∧
 (X.Kept L3 w2 w5) ∧
 if (((true && b6) && ((a_13 == b_13) && (a_14 == b_14))) == true) = true then
 X.CallX Tryz.prog 147 #[.slice a_15 a_15l a_15c, .slice b_15 b_15l b_15c] w5 fun e7 w8 =>
 ∃ b9 : Bool, (e7 = .returned (.bool b9)) ∧
 (X.Kept L3 w5 w8) ∧
 R (.returned (.bool ((true && b9) && ((a_16 == b_16) && (a_17 == b_17))))) w8
 else
 R (.returned (.bool (false && ((a_16 == b_16) && (a_17 == b_17))))) w5
 else
 ∀ w1 : World, (X.Hid [] w w1) →
 R (.returned (.bool (false && ((a_16 == b_16) && (a_17 == b_17))))) w1) :
 Calls Tryz.prog 110 #[.agg #[.int .u8 a_0, .int .u8 a_1, .int .u16 a_2, .int .u32 a_3, .int .u8 a_4, .int .u8 a_5, .int .u8 a_6, .int .u8 a_7, .int .u8 a_8, .int .u8 a_9, .int .u8 a_10, .int .u32 a_11, .slice a_12 a_12l a_12c, .int .u8 a_13, .string a_14, .slice a_15 a_15l a_15c, .int .u8 a_16, .int .u16 a_17], .agg #[.int .u8 b_0, .int .u8 b_1, .int .u16 b_2, .int .u32 b_3, .int .u8 b_4, .int .u8 b_5, .int .u8 b_6, .int .u8 b_7, .int .u8 b_8, .int .u8 b_9, .int .u8 b_10, .int .u32 b_11, .slice b_12 b_12l b_12c, .int .u8 b_13, .string b_14, .slice b_15 b_15l b_15c, .int .u8 b_16, .int .u16 b_17]] w R :=
 X.calls_of { isLoc := [2, 3], sym := [], loops := [], joins := [] } Tryz.func110 (by kernel_rfl) h
theorem x_Light3 (a : Option Addr) (al ac : Nat) (w : World) (R : Ending → World → Prop) (h :
 ∃ x1 : Int → Int → World → List Nat → Prop, ∃ x2 : Int → Int → World → Nat, (x1 3000 0 w []) ∧
 ∀ n3 n4 : Int, ∀ w5 : World, ∀ L6 : List Nat, (X.LF w.heap.size w5 L6) →
 (x1 n3 n4 w5 L6) →
 if ((decide (n4 < ((al : Nat) : Int)) && decide (n4 < 300)) && decide (n3 ≥ 0)) = true then
 ((0 : Int) ≤ n4) ∧
 (n4 < ((al : Nat) : Int)) ∧
 X.onSome a fun p7 =>
 ∃ s8 : ByteArray, (World.cell? w5 ((p7.add ((n4).toNat * 5)).add 2) = some (.string s8)) ∧
 ((0 : Int) ≤ n4) ∧
 (n4 < ((al : Nat) : Int)) ∧
 X.onSome a fun p9 =>
 ∃ s10 : ByteArray, (World.cell? w5 ((p9.add ((n4).toNat * 5)).add 3) = some (.string s10)) ∧
 ∀ w11 : World, (X.Hid [] w5 w11) →
 (x1 (IntKind.wrap .i64 ((IntKind.wrap .i64 ((IntKind.wrap .i64 (n3 - 3)) - (if (4000 : Int) < (((s8.size) : Nat) : Int) then 4000 else (((s8.size) : Nat) : Int)))) - (if (4000 : Int) < (((s10.size) : Nat) : Int) then 4000 else (((s10.size) : Nat) : Int)))) (IntKind.wrap .i64 (n4 + 1)) w11 []) ∧
 Nat.le ((x2 (IntKind.wrap .i64 ((IntKind.wrap .i64 ((IntKind.wrap .i64 (n3 - 3)) - (if (4000 : Int) < (((s8.size) : Nat) : Int) then 4000 else (((s8.size) : Nat) : Int)))) - (if (4000 : Int) < (((s10.size) : Nat) : Int) then 4000 else (((s10.size) : Nat) : Int)))) (IntKind.wrap .i64 (n4 + 1)) w11) + 1) (x2 n3 n4 w5)
 else
 R (.returned (.bool (decide (n3 ≥ 0)))) w5) :
 Calls Tryz.prog 16 #[.slice a al ac] w R :=
 X.calls_of { isLoc := [], sym := [], loops := [(3, .inv [(3, .int .i64), (4, .int .i64)] [] true)], joins := [] } Tryz.func16 (by kernel_rfl) h
theorem x_Light5 (a : Option Addr) (al ac : Nat) (w : World) (R : Ending → World → Prop) (h :
 ∃ x1 : Int → Int → World → List Nat → Prop, ∃ x2 : Int → Int → World → Nat, (x1 6000 0 w []) ∧
 ∀ n3 n4 : Int, ∀ w5 : World, ∀ L6 : List Nat, (X.LF w.heap.size w5 L6) →
 (x1 n3 n4 w5 L6) →
 if ((decide (n4 < ((al : Nat) : Int)) && decide (n4 < 200)) && decide (n3 ≥ 0)) = true then
 ((0 : Int) ≤ n4) ∧
 (n4 < ((al : Nat) : Int)) ∧
 X.onSome a fun p7 =>
 ∃ n8 n9 n10 n11 n12 n13 n14 n15 n16 n17 n18 n19 : Int, ∃ q20 : Option Addr, ∃ k21 k22 : Nat, ∃ n23 : Int, ∃ s24 : ByteArray, ∃ q25 : Option Addr, ∃ k26 k27 : Nat, ∃ n28 n29 : Int, (X.Cells w5 (p7.add ((n4).toNat * 18)) [.int .u8 n8, .int .u8 n9, .int .u16 n10, .int .u32 n11, .int .u8 n12, .int .u8 n13, .int .u8 n14, .int .u8 n15, .int .u8 n16, .int .u8 n17, .int .u8 n18, .int .u32 n19, .slice q20 k21 k22, .int .u8 n23, .string s24, .slice q25 k26 k27, .int .u8 n28, .int .u16 n29]) ∧
 ∀ w30 : World, ∀ L31 : List Nat, (X.Hid [] w5 w30) →
 (X.NewL w.heap.size [] w5 w30 L31) →
 X.CallX Tryz.prog 16 #[.slice q20 k21 k22] w30 fun e32 w33 =>
 ∃ b34 : Bool, (e32 = .returned (.bool b34)) ∧
 (X.Kept L31 w30 w33) ∧
 if ((!b34) || decide (((k26 : Nat) : Int) > 300)) = true then
 R (.returned (.bool false)) w33
 else
 ∃ x35 : Int → Int → World → List Nat → Prop, ∃ x36 : Int → Int → World → Nat, (x35 (IntKind.wrap .i64 ((IntKind.wrap .i64 ((IntKind.wrap .i64 (n3 - 10)) - (if (7000 : Int) < (((s24.size) : Nat) : Int) then 7000 else (((s24.size) : Nat) : Int)))) - (IntKind.wrap .i64 (30 * (if (200 : Int) < ((k21 : Nat) : Int) then 200 else ((k21 : Nat) : Int)))))) 0 w33 L31) ∧
 ∀ n37 n38 : Int, ∀ w39 : World, ∀ L40 : List Nat, (X.LF w.heap.size w39 L40) →
 (x35 n37 n38 w39 L40) →
 if (decide (n38 < ((k26 : Nat) : Int))) = true then
 ((0 : Int) ≤ n38) ∧
 (n38 < ((k26 : Nat) : Int)) ∧
 X.onSome q25 fun p41 =>
 ∃ s42 : ByteArray, (World.cell? w39 ((p41.add ((n38).toNat * 3)).add 0) = some (.string s42)) ∧
 (¬ ((((p41.add (n38.toNat * 3)).add 0).block) ∈ L40)) ∧
 ((0 : Int) ≤ n38) ∧
 (n38 < ((k26 : Nat) : Int)) ∧
 X.onSome q25 fun p43 =>
 ∃ s44 : ByteArray, (World.cell? w39 ((p43.add ((n38).toNat * 3)).add 1) = some (.string s44)) ∧
 (¬ (((p43.add (n38.toNat * 3)).block) ∈ L40)) ∧
 ∀ w45 : World, ∀ L46 : List Nat, (X.Hid L40 w39 w45) →
 (X.NewL w.heap.size L40 w39 w45 L46) →
 (([.int .u8 n8, .int .u8 n9, .int .u16 n10, .int .u32 n11, .int .u8 n12, .int .u8 n13, .int .u8 n14, .int .u8 n15, .int .u8 n16, .int .u8 n17, .int .u8 n18, .int .u32 n19, .slice q20 k21 k22, .int .u8 n23, .string s24, .slice q25 k26 k27, .int .u8 n28, .int .u16 n29] : List Value) = [.int .u8 n8, .int .u8 n9, .int .u16 n10, .int .u32 n11, .int .u8 n12, .int .u8 n13, .int .u8 n14, .int .u8 n15, .int .u8 n16, .int .u8 n17, .int .u8 n18, .int .u32 n19, .slice q20 k21 k22, .int .u8 n23, .string s24, .slice q25 k26 k27, .int .u8 n28, .int .u16 n29]) ∧
 (x35 (IntKind.wrap .i64 ((IntKind.wrap .i64 ((IntKind.wrap .i64 (n37 - 1)) - (if (7000 : Int) < (((s42.size) : Nat) : Int) then 7000 else (((s42.size) : Nat) : Int)))) - (if (7000 : Int) < (((s44.size) : Nat) : Int) then 7000 else (((s44.size) : Nat) : Int)))) (IntKind.wrap .i64 (n38 + 1)) w45 L46) ∧
 Nat.le ((x36 (IntKind.wrap .i64 ((IntKind.wrap .i64 ((IntKind.wrap .i64 (n37 - 1)) - (if (7000 : Int) < (((s42.size) : Nat) : Int) then 7000 else (((s42.size) : Nat) : Int)))) - (if (7000 : Int) < (((s44.size) : Nat) : Int) then 7000 else (((s44.size) : Nat) : Int)))) (IntKind.wrap .i64 (n38 + 1)) w45) + 1) (x36 n37 n38 w39)
 else
 (x1 n37 (IntKind.wrap .i64 (n4 + 1)) w39 L40) ∧
 Nat.le ((x2 n37 (IntKind.wrap .i64 (n4 + 1)) w39) + 1) (x2 n3 n4 w5)
 else
 R (.returned (.bool (decide (n3 ≥ 0) && decide (((al : Nat) : Int) ≤ 150)))) w5) :
 Calls Tryz.prog 17 #[.slice a al ac] w R :=
 X.calls_of { isLoc := [5], sym := [], loops := [(3, .inv [(3, .int .i64), (4, .int .i64)] [] true), (10, .inv [(3, .int .i64), (6, .int .i64)] [] true)], joins := [] } Tryz.func17 (by kernel_rfl) h
end Go.Proofs
/- The verification conditions of this seat's functions, as the engine has them: printed by a program of the bench; checked by the kernel. -/
namespace Go.Proofs
open Go
theorem x_part_Part_Right (a_0 a_1 : Int) (a_2 a_3 : ByteArray) (a_4 : Int) (w : World) (R : Ending → World → Prop) (h :
 if (((decide (a_0 < 4) && (!((a_2.toList) == ((ByteArray.mk #[]).toList)))) && decide ((((a_2.size) : Nat) : Int) ≤ 16)) == true) = true then
 ∀ w2 : World, ∀ L3 : List Nat, (X.Hid [] w w2) →
 (X.NewL w.heap.size [] w w2 L3) →
 X.CallX Tryz.prog 175 #[(.agg #[.int .u8 a_0, .int .u8 a_1, .string a_2, .string a_3, .int .i64 a_4])] w2 fun e4 w5 =>
 ∃ b6 : Bool, (e4 = .returned (.bool b6)) ∧
 (X.Kept L3 w2 w5) ∧
 R (.returned (.bool (true && b6))) w5
 else
 ∀ w1 : World, (X.Hid [] w w1) →
 R (.returned (.bool false)) w1) :
 Calls Tryz.prog 164 #[.agg #[.int .u8 a_0, .int .u8 a_1, .string a_2, .string a_3, .int .i64 a_4]] w R :=
 X.calls_of { isLoc := [1], sym := [], loops := [], joins := [] } Tryz.func164 (by kernel_rfl) h
theorem x_part_Part_fits (a_0 a_1 : Int) (a_2 a_3 : ByteArray) (a_4 : Int) (w : World) (R : Ending → World → Prop) (h :
 if (a_1 == 1) = true then
 ∀ w9 : World, (X.Hid [] w w9) →
 R (.returned (.bool (decide ((((a_3.size) : Nat) : Int) ≤ 64) && (a_4 == 0)))) w9
 else
 if (a_1 == 2) = true then
 if (a_1 == 2) = true then
 ∀ w8 : World, (X.Hid [] w w8) →
 R (.returned (.bool (((a_3.toList) == ((ByteArray.mk #[]).toList)) && decide (a_4 ≥ 0)))) w8
 else
 if (a_1 == 0) = true then
 ∀ w7 : World, (X.Hid [] w w7) →
 R (.returned (.bool (((a_3.toList) == ((ByteArray.mk #[]).toList)) && (a_4 == 0)))) w7
 else
 if (a_1 == 4) = true then
 ∀ w6 : World, (X.Hid [] w w6) →
 R (.returned (.bool (((a_3.toList) == ((ByteArray.mk #[]).toList)) && (a_4 == 0)))) w6
 else
 ∀ w5 : World, (X.Hid [] w w5) →
 R (.returned (.bool false)) w5
 else
 if (a_1 == 3) = true then
 ∀ w4 : World, (X.Hid [] w w4) →
 R (.returned (.bool (((a_3.toList) == ((ByteArray.mk #[]).toList)) && decide (a_4 ≥ 0)))) w4
 else
 if (a_1 == 0) = true then
 ∀ w3 : World, (X.Hid [] w w3) →
 R (.returned (.bool (((a_3.toList) == ((ByteArray.mk #[]).toList)) && (a_4 == 0)))) w3
 else
 if (a_1 == 4) = true then
 ∀ w2 : World, (X.Hid [] w w2) →
 R (.returned (.bool (((a_3.toList) == ((ByteArray.mk #[]).toList)) && (a_4 == 0)))) w2
 else
 ∀ w1 : World, (X.Hid [] w w1) →
 R (.returned (.bool false)) w1) :
 Calls Tryz.prog 175 #[.agg #[.int .u8 a_0, .int .u8 a_1, .string a_2, .string a_3, .int .i64 a_4]] w R :=
 X.calls_of { isLoc := [1], sym := [], loops := [], joins := [] } Tryz.func175 (by kernel_rfl) h
theorem x_part_Right_1 (a_0 a_1 : Int) (a_2 a_3 : ByteArray) (a_4 : Int) (w : World) (R : Ending → World → Prop) (h :
 ∀ w1 : World, ∀ L2 : List Nat, (X.Hid [] w w1) →
 (X.NewL w.heap.size [] w w1 L2) →
 X.CallX Tryz.prog 164 #[(.agg #[.int .u8 a_0, .int .u8 a_1, .string a_2, .string a_3, .int .i64 a_4])] w1 fun e3 w4 =>
 ∃ b5 : Bool, (e3 = .returned (.bool b5)) ∧
 (X.Kept L2 w1 w4) ∧
 R (.returned (.bool (!b5))) w4) :
 Calls Tryz.prog 163 #[.agg #[.int .u8 a_0, .int .u8 a_1, .string a_2, .string a_3, .int .i64 a_4]] w R :=
 X.calls_of { isLoc := [1], sym := [], loops := [], joins := [] } Tryz.func163 (by kernel_rfl) h
theorem x_part_Right (a : Option Addr) (al ac : Nat) (w : World) (R : Ending → World → Prop) (h :
 if (decide (((al : Nat) : Int) < 1) || decide (((al : Nat) : Int) > 4)) = true then
 R (.returned (.bool false)) w
 else
 X.CallX Tryz.prog 162 #[.slice a al ac, (.func (.func 163) #[] #[])] w fun e1 w2 =>
 ∃ b3 : Bool, (e1 = .returned (.bool b3)) ∧
 (w.heap.size ≤ w2.heap.size) ∧
 R (.returned (.bool (!b3))) w2) :
 Calls Tryz.prog 148 #[.slice a al ac] w R :=
 X.calls_of { isLoc := [], sym := [], loops := [], joins := [] } Tryz.func148 (by kernel_rfl) h
theorem x_ContainsF (a : Option Addr) (al ac : Nat) (w : World) (R : Ending → World → Prop) (h :
 X.CallX Tryz.prog 174 #[.slice a al ac, (.func (.func (OfNat.ofNat 163)) #[] #[])] w fun e1 w2 =>
 ∃ n3 : Int, (e1 = .returned (.int .i64 n3)) ∧
 (w.heap.size ≤ w2.heap.size) ∧
 R (.returned (.bool (decide (n3 ≥ 0)))) w2) :
 Calls Tryz.prog 162 #[.slice a al ac, .func (.func 163) #[] #[]] w R :=
 X.calls_of { isLoc := [], sym := [], loops := [], joins := [] } Tryz.func162 (by kernel_rfl) h
theorem x_IndexF (a : Option Addr) (al ac : Nat) (w : World) (R : Ending → World → Prop) (h :
 ∃ x1 : Int → World → List Nat → Prop, ∃ x2 : Int → World → Nat, (x1 0 w []) ∧
 ∀ n3 : Int, ∀ w4 : World, ∀ L5 : List Nat, (X.LF w.heap.size w4 L5) →
 (x1 n3 w4 L5) →
 if (decide (n3 < ((al : Nat) : Int))) = true then
 ((0 : Int) ≤ n3) ∧
 (n3 < ((al : Nat) : Int)) ∧
 X.onSome a fun p6 =>
 ∃ n7 n8 : Int, ∃ s9 s10 : ByteArray, ∃ n11 : Int, (X.Cells w4 (p6.add ((n3).toNat * 5)) [.int .u8 n7, .int .u8 n8, .string s9, .string s10, .int .i64 n11]) ∧
 X.CallX Tryz.prog (OfNat.ofNat 163) #[(.agg #[.int .u8 n7, .int .u8 n8, .string s9, .string s10, .int .i64 n11])] w4 fun e12 w13 =>
 ∃ b14 : Bool, (e12 = .returned (.bool b14)) ∧
 (w4.heap.size ≤ w13.heap.size) ∧
 if b14 = true then
 R (.returned (.int .i64 n3)) w13
 else
 (x1 (IntKind.wrap .i64 (n3 + 1)) w13 []) ∧
 Nat.le ((x2 (IntKind.wrap .i64 (n3 + 1)) w13) + 1) (x2 n3 w4)
 else
 R (.returned (.int .i64 (-1))) w4) :
 Calls Tryz.prog 174 #[.slice a al ac, .func (.func 163) #[] #[]] w R :=
 X.calls_of { isLoc := [], sym := [], loops := [(2, .inv [(8, .int .i64)] [] true)], joins := [] } Tryz.func174 (by kernel_rfl) h
theorem x_ResRight (a_0 : Int) (a_1 : ByteArray) (w : World) (R : Ending → World → Prop) (h :
 ∀ w1 : World, (X.Hid [] w w1) →
 R (.returned (.bool (decide (a_0 ≤ 5) && decide ((((a_1.size) : Nat) : Int) ≤ 1000)))) w1) :
 Calls Tryz.prog 113 #[.agg #[.int .u8 a_0, .string a_1]] w R :=
 X.calls_of { isLoc := [1], sym := [], loops := [], joins := [] } Tryz.func113 (by kernel_rfl) h
theorem x_ProcRight (a_0 a_1 : Int) (w : World) (R : Ending → World → Prop) (h :
 ∀ w1 : World, (X.Hid [] w w1) →
 R (.returned (.bool (decide (a_0 < 16) && decide (a_1 > 0)))) w1) :
 Calls Tryz.prog 117 #[.agg #[.int .u8 a_0, .int .u16 a_1]] w R :=
 X.calls_of { isLoc := [1], sym := [], loops := [], joins := [] } Tryz.func117 (by kernel_rfl) h
theorem x_IDRight (a_0 a_1 a_2 a_3 a_4 a_5 a_6 a_7 a_8 a_9 : Int) (w : World) (R : Ending → World → Prop) (h :
 ∀ w1 : World, ∀ L2 : List Nat, (X.Hid [] w w1) →
 (X.NewL w.heap.size [] w w1 L2) →
 X.CallX Tryz.prog 117 #[(.agg #[.int .u8 a_0, .int .u16 a_1])] w1 fun e3 w4 =>
 ∃ b5 : Bool, (e3 = .returned (.bool b5)) ∧
 (X.Kept L2 w1 w4) ∧
 if ((((!b5) || (a_2 == 0)) || decide (a_2 > 1048576)) || decide (a_3 > 3)) = true then
 R (.returned (.bool false)) w4
 else
 if ((decide ((0 : Int) < (IntKind.wrap .i64 a_3)) && decide (a_4 ≥ 4)) || ((!decide ((0 : Int) < (IntKind.wrap .i64 a_3))) && (!((a_4 == 0) && (a_5 == 0))))) = true then
 ∀ w9 : World, (X.Hid L2 w4 w9) →
 R (.returned (.bool false)) w9
 else
 if ((decide ((1 : Int) < (IntKind.wrap .i64 a_3)) && decide (a_6 ≥ 4)) || ((!decide ((1 : Int) < (IntKind.wrap .i64 a_3))) && (!((a_6 == 0) && (a_7 == 0))))) = true then
 ∀ w8 : World, (X.Hid L2 w4 w8) →
 R (.returned (.bool false)) w8
 else
 if ((decide ((2 : Int) < (IntKind.wrap .i64 a_3)) && decide (a_8 ≥ 4)) || ((!decide ((2 : Int) < (IntKind.wrap .i64 a_3))) && (!((a_8 == 0) && (a_9 == 0))))) = true then
 ∀ w7 : World, (X.Hid L2 w4 w7) →
 R (.returned (.bool false)) w7
 else
 ∀ w6 : World, (X.Hid L2 w4 w6) →
 R (.returned (.bool true)) w6) :
 Calls Tryz.prog 112 #[.agg #[.int .u8 a_0, .int .u16 a_1, .int .u32 a_2, .int .u8 a_3, .int .u8 a_4, .int .u8 a_5, .int .u8 a_6, .int .u8 a_7, .int .u8 a_8, .int .u8 a_9]] w R :=
 X.calls_of { isLoc := [1, 4], sym := [], loops := [(4, .unroll 4)], joins := [] } Tryz.func112 (by kernel_rfl) h
theorem x_asked (a_0 a_1 a_2 a_3 a_4 a_5 a_6 a_7 a_8 a_9 a_10 a_11 : Int) (a_12 : Option Addr) (a_12l a_12c : Nat) (a_13 : Int) (a_14 : ByteArray) (a_15 : Option Addr) (a_15l a_15c : Nat) (a_16 a_17 b : Int) (w : World) (R : Ending → World → Prop) (h :
 ∀ w1 : World, ∀ L2 : List Nat, (X.Hid [] w w1) →
 (X.NewL w.heap.size [] w w1 L2) →
 X.CallX Tryz.prog 112 #[(.agg #[.int .u8 a_1, .int .u16 a_2, .int .u32 a_3, .int .u8 a_4, .int .u8 a_5, .int .u8 a_6, .int .u8 a_7, .int .u8 a_8, .int .u8 a_9, .int .u8 a_10])] w1 fun e3 w4 =>
 ∃ b5 : Bool, (e3 = .returned (.bool b5)) ∧
 (X.Kept L2 w1 w4) ∧
 if (b5 == true) = true then
 X.CallX Tryz.prog 148 #[.slice a_12 a_12l a_12c] w4 fun e6 w7 =>
 ∃ b8 : Bool, (e6 = .returned (.bool b8)) ∧
 (X.Kept L2 w4 w7) ∧
 if ((true && b8) == true) = true then
 ((0 : Int) ≤ 0) ∧
 ((0 : Int) < ((a_12l : Nat) : Int)) ∧
 X.onSome a_12 fun p9 =>
 ∃ n10 : Int, (World.cell? w7 ((p9.add 0).add 0) = some (.int .u8 n10)) ∧
 (¬ ((((p9.add 0).add 0).block) ∈ L2)) ∧
 R (.returned (.bool ((((true && (n10 == b)) && decide ((IntKind.wrap .i64 ((IntKind.wrap .i64 a_4) + ((a_12l : Nat) : Int))) ≤ 4)) && decide (a_11 < a_3)) && ((a_16 == 0) && (a_17 == 0))))) w7
 else
 R (.returned (.bool (((false && decide ((IntKind.wrap .i64 ((IntKind.wrap .i64 a_4) + ((a_12l : Nat) : Int))) ≤ 4)) && decide (a_11 < a_3)) && ((a_16 == 0) && (a_17 == 0))))) w7
 else
 R (.returned (.bool (((false && decide ((IntKind.wrap .i64 ((IntKind.wrap .i64 a_4) + ((a_12l : Nat) : Int))) ≤ 4)) && decide (a_11 < a_3)) && ((a_16 == 0) && (a_17 == 0))))) w4) :
 Calls Tryz.prog 166 #[.agg #[.int .u8 a_0, .int .u8 a_1, .int .u16 a_2, .int .u32 a_3, .int .u8 a_4, .int .u8 a_5, .int .u8 a_6, .int .u8 a_7, .int .u8 a_8, .int .u8 a_9, .int .u8 a_10, .int .u32 a_11, .slice a_12 a_12l a_12c, .int .u8 a_13, .string a_14, .slice a_15 a_15l a_15c, .int .u8 a_16, .int .u16 a_17], .int .u8 b] w R :=
 X.calls_of { isLoc := [2], sym := [], loops := [], joins := [] } Tryz.func166 (by kernel_rfl) h
theorem x_wrote (a_0 a_1 a_2 a_3 a_4 a_5 a_6 a_7 a_8 a_9 a_10 a_11 : Int) (a_12 : Option Addr) (a_12l a_12c : Nat) (a_13 : Int) (a_14 : ByteArray) (a_15 : Option Addr) (a_15l a_15c : Nat) (a_16 a_17 : Int) (w : World) (R : Ending → World → Prop) (h :
 ((0 : Int) ≤ 0) ∧
 ((0 : Int) < ((a_12l : Nat) : Int)) ∧
 X.onSome a_12 fun p1 =>
 ∃ n2 n3 : Int, ∃ s4 s5 : ByteArray, ∃ n6 : Int, (X.Cells w (p1.add 0) [.int .u8 n2, .int .u8 n3, .string s4, .string s5, .int .i64 n6]) ∧
 if ((a_13 != 0) || (n3 == 0)) = true then
 ∀ w13 : World, (X.Hid [] w w13) →
 R (.returned (.bool (((a_15l : Nat) : Int) == 0))) w13
 else
 if (((a_15l : Nat) : Int) != 1) = true then
 ∀ w12 : World, (X.Hid [] w w12) →
 R (.returned (.bool false)) w12
 else
 ((0 : Int) ≤ 0) ∧
 ((0 : Int) < ((a_15l : Nat) : Int)) ∧
 X.onSome a_15 fun p7 =>
 ∃ s8 s9 : ByteArray, ∃ b10 : Bool, (X.Cells w (p7.add 0) [.string s8, .string s9, .bool b10]) ∧
 ∀ w11 : World, (X.Hid [] w w11) →
 R (.returned (.bool ((((s8.toList) == (s4.toList)) && decide ((((s9.size) : Nat) : Int) ≤ 64)) && (b10 || ((s9.toList) == ((ByteArray.mk #[]).toList)))))) w11) :
 Calls Tryz.prog 167 #[.agg #[.int .u8 a_0, .int .u8 a_1, .int .u16 a_2, .int .u32 a_3, .int .u8 a_4, .int .u8 a_5, .int .u8 a_6, .int .u8 a_7, .int .u8 a_8, .int .u8 a_9, .int .u8 a_10, .int .u32 a_11, .slice a_12 a_12l a_12c, .int .u8 a_13, .string a_14, .slice a_15 a_15l a_15c, .int .u8 a_16, .int .u16 a_17]] w R :=
 X.calls_of { isLoc := [1, 3, 4], sym := [], loops := [], joins := [] } Tryz.func167 (by kernel_rfl) h
theorem x_bare (a_0 a_1 a_2 a_3 a_4 a_5 a_6 a_7 a_8 a_9 a_10 a_11 : Int) (a_12 : Option Addr) (a_12l a_12c : Nat) (a_13 : Int) (a_14 : ByteArray) (a_15 : Option Addr) (a_15l a_15c : Nat) (a_16 a_17 : Int) (w : World) (R : Ending → World → Prop) (h :
 ∀ w1 : World, (X.Hid [] w w1) →
 R (.returned (.bool (((a_11 == 0) && (((a_12l : Nat) : Int) == 0)) && (((a_15l : Nat) : Int) == 0)))) w1) :
 Calls Tryz.prog 168 #[.agg #[.int .u8 a_0, .int .u8 a_1, .int .u16 a_2, .int .u32 a_3, .int .u8 a_4, .int .u8 a_5, .int .u8 a_6, .int .u8 a_7, .int .u8 a_8, .int .u8 a_9, .int .u8 a_10, .int .u32 a_11, .slice a_12 a_12l a_12c, .int .u8 a_13, .string a_14, .slice a_15 a_15l a_15c, .int .u8 a_16, .int .u16 a_17]] w R :=
 X.calls_of { isLoc := [1], sym := [], loops := [], joins := [] } Tryz.func168 (by kernel_rfl) h
theorem x_eRight (a_0 a_1 a_2 a_3 a_4 a_5 a_6 a_7 a_8 a_9 a_10 a_11 : Int) (a_12 : Option Addr) (a_12l a_12c : Nat) (a_13 : Int) (a_14 : ByteArray) (a_15 : Option Addr) (a_15l a_15c : Nat) (a_16 a_17 b : Int) (w : World) (R : Ending → World → Prop) (h :
 if (a_0 == 0) = true then
 ∀ w44 : World, ∀ L45 : List Nat, (X.Hid [] w w44) →
 (X.NewL w.heap.size [] w w44 L45) →
 X.CallX Tryz.prog 166 #[(.agg #[.int .u8 a_0, .int .u8 a_1, .int .u16 a_2, .int .u32 a_3, .int .u8 a_4, .int .u8 a_5, .int .u8 a_6, .int .u8 a_7, .int .u8 a_8, .int .u8 a_9, .int .u8 a_10, .int .u32 a_11, .slice a_12 a_12l a_12c, .int .u8 a_13, .string a_14, .slice a_15 a_15l a_15c, .int .u8 a_16, .int .u16 a_17]), .int .u8 b] w44 fun e46 w47 =>
 ∃ b48 : Bool, (e46 = .returned (.bool b48)) ∧
 (X.Kept L45 w44 w47) ∧
 R (.returned (.bool ((b48 && ((a_13 == 0) && (a_14 == (ByteArray.mk #[])))) && (((a_15l : Nat) : Int) == 0)))) w47
 else
 if (a_0 == 3) = true then
 ∀ w33 : World, ∀ L34 : List Nat, (X.Hid [] w w33) →
 (X.NewL w.heap.size [] w w33 L34) →
 X.CallX Tryz.prog 166 #[(.agg #[.int .u8 a_0, .int .u8 a_1, .int .u16 a_2, .int .u32 a_3, .int .u8 a_4, .int .u8 a_5, .int .u8 a_6, .int .u8 a_7, .int .u8 a_8, .int .u8 a_9, .int .u8 a_10, .int .u32 a_11, .slice a_12 a_12l a_12c, .int .u8 a_13, .string a_14, .slice a_15 a_15l a_15c, .int .u8 a_16, .int .u16 a_17]), .int .u8 b] w33 fun e35 w36 =>
 ∃ b37 : Bool, (e35 = .returned (.bool b37)) ∧
 (X.Kept L34 w33 w36) ∧
 if (b37 == true) = true then
 X.CallX Tryz.prog 113 #[(.agg #[.int .u8 a_13, .string a_14])] w36 fun e38 w39 =>
 ∃ b40 : Bool, (e38 = .returned (.bool b40)) ∧
 (X.Kept L34 w36 w39) ∧
 if ((((true && b40) && (a_13 != 4)) && (a_13 != 3)) == true) = true then
 X.CallX Tryz.prog 167 #[(.agg #[.int .u8 a_0, .int .u8 a_1, .int .u16 a_2, .int .u32 a_3, .int .u8 a_4, .int .u8 a_5, .int .u8 a_6, .int .u8 a_7, .int .u8 a_8, .int .u8 a_9, .int .u8 a_10, .int .u32 a_11, .slice a_12 a_12l a_12c, .int .u8 a_13, .string a_14, .slice a_15 a_15l a_15c, .int .u8 a_16, .int .u16 a_17])] w39 fun e41 w42 =>
 ∃ b43 : Bool, (e41 = .returned (.bool b43)) ∧
 (X.Kept L34 w39 w42) ∧
 R (.returned (.bool (true && b43))) w42
 else
 R (.returned (.bool false)) w39
 else
 R (.returned (.bool false)) w36
 else
 if (a_0 == 1) = true then
 ∀ w10 : World, ∀ L11 : List Nat, (X.Hid [] w w10) →
 (X.NewL w.heap.size [] w w10 L11) →
 X.CallX Tryz.prog 112 #[(.agg #[.int .u8 a_1, .int .u16 a_2, .int .u32 a_3, .int .u8 a_4, .int .u8 a_5, .int .u8 a_6, .int .u8 a_7, .int .u8 a_8, .int .u8 a_9, .int .u8 a_10])] w10 fun e12 w13 =>
 ∃ b14 : Bool, (e12 = .returned (.bool b14)) ∧
 (X.Kept L11 w10 w13) ∧
 if ((b14 && decide (a_4 > 0)) == true) = true then
 ((0 : Int) ≤ (IntKind.wrap .u8 (a_4 - 1))) ∧
 ((IntKind.wrap .u8 (a_4 - 1)) < 3) ∧
 ((((IntKind.wrap .u8 (a_4 - 1)) = 0) →
 if ((true && (a_5 == b)) == true) = true then
 X.CallX Tryz.prog 113 #[(.agg #[.int .u8 a_13, .string a_14])] w13 fun e15 w16 =>
 ∃ b17 : Bool, (e15 = .returned (.bool b17)) ∧
 (X.Kept L11 w13 w16) ∧
 if ((true && b17) == true) = true then
 X.CallX Tryz.prog 168 #[(.agg #[.int .u8 a_0, .int .u8 a_1, .int .u16 a_2, .int .u32 a_3, .int .u8 a_4, .int .u8 a_5, .int .u8 a_6, .int .u8 a_7, .int .u8 a_8, .int .u8 a_9, .int .u8 a_10, .int .u32 a_11, .slice a_12 a_12l a_12c, .int .u8 a_13, .string a_14, .slice a_15 a_15l a_15c, .int .u8 a_16, .int .u16 a_17])] w16 fun e18 w19 =>
 ∃ b20 : Bool, (e18 = .returned (.bool b20)) ∧
 (X.Kept L11 w16 w19) ∧
 R (.returned (.bool ((true && b20) && ((a_16 == 0) && (a_17 == 0))))) w19
 else
 R (.returned (.bool (false && ((a_16 == 0) && (a_17 == 0))))) w16
 else
 R (.returned (.bool (false && ((a_16 == 0) && (a_17 == 0))))) w13) ∧
 (((IntKind.wrap .u8 (a_4 - 1)) = 1) →
 if ((true && (a_7 == b)) == true) = true then
 X.CallX Tryz.prog 113 #[(.agg #[.int .u8 a_13, .string a_14])] w13 fun e21 w22 =>
 ∃ b23 : Bool, (e21 = .returned (.bool b23)) ∧
 (X.Kept L11 w13 w22) ∧
 if ((true && b23) == true) = true then
 X.CallX Tryz.prog 168 #[(.agg #[.int .u8 a_0, .int .u8 a_1, .int .u16 a_2, .int .u32 a_3, .int .u8 a_4, .int .u8 a_5, .int .u8 a_6, .int .u8 a_7, .int .u8 a_8, .int .u8 a_9, .int .u8 a_10, .int .u32 a_11, .slice a_12 a_12l a_12c, .int .u8 a_13, .string a_14, .slice a_15 a_15l a_15c, .int .u8 a_16, .int .u16 a_17])] w22 fun e24 w25 =>
 ∃ b26 : Bool, (e24 = .returned (.bool b26)) ∧
 (X.Kept L11 w22 w25) ∧
 R (.returned (.bool ((true && b26) && ((a_16 == 0) && (a_17 == 0))))) w25
 else
 R (.returned (.bool (false && ((a_16 == 0) && (a_17 == 0))))) w22
 else
 R (.returned (.bool (false && ((a_16 == 0) && (a_17 == 0))))) w13)) ∧
 (((IntKind.wrap .u8 (a_4 - 1)) = 2) →
 if ((true && (a_9 == b)) == true) = true then
 X.CallX Tryz.prog 113 #[(.agg #[.int .u8 a_13, .string a_14])] w13 fun e27 w28 =>
 ∃ b29 : Bool, (e27 = .returned (.bool b29)) ∧
 (X.Kept L11 w13 w28) ∧
 if ((true && b29) == true) = true then
 X.CallX Tryz.prog 168 #[(.agg #[.int .u8 a_0, .int .u8 a_1, .int .u16 a_2, .int .u32 a_3, .int .u8 a_4, .int .u8 a_5, .int .u8 a_6, .int .u8 a_7, .int .u8 a_8, .int .u8 a_9, .int .u8 a_10, .int .u32 a_11, .slice a_12 a_12l a_12c, .int .u8 a_13, .string a_14, .slice a_15 a_15l a_15c, .int .u8 a_16, .int .u16 a_17])] w28 fun e30 w31 =>
 ∃ b32 : Bool, (e30 = .returned (.bool b32)) ∧
 (X.Kept L11 w28 w31) ∧
 R (.returned (.bool ((true && b32) && ((a_16 == 0) && (a_17 == 0))))) w31
 else
 R (.returned (.bool (false && ((a_16 == 0) && (a_17 == 0))))) w28
 else
 R (.returned (.bool (false && ((a_16 == 0) && (a_17 == 0))))) w13)
 else
 R (.returned (.bool (false && ((a_16 == 0) && (a_17 == 0))))) w13
 else
 if (a_0 == 2) = true then
 ∀ w2 : World, ∀ L3 : List Nat, (X.Hid [] w w2) →
 (X.NewL w.heap.size [] w w2 L3) →
 X.CallX Tryz.prog 117 #[(.agg #[.int .u8 a_16, .int .u16 a_17])] w2 fun e4 w5 =>
 ∃ b6 : Bool, (e4 = .returned (.bool b6)) ∧
 (X.Kept L3 w2 w5) ∧
 if (((b6 && ((a_13 == 0) && (a_14 == (ByteArray.mk #[])))) && (((a_1 == 0) && (a_2 == 0)) && ((a_3 == 0) && ((a_4 == 0) && (((a_5 == 0) && (a_6 == 0)) && (((a_7 == 0) && (a_8 == 0)) && ((a_9 == 0) && (a_10 == 0)))))))) == true) = true then
 X.CallX Tryz.prog 168 #[(.agg #[.int .u8 a_0, .int .u8 a_1, .int .u16 a_2, .int .u32 a_3, .int .u8 a_4, .int .u8 a_5, .int .u8 a_6, .int .u8 a_7, .int .u8 a_8, .int .u8 a_9, .int .u8 a_10, .int .u32 a_11, .slice a_12 a_12l a_12c, .int .u8 a_13, .string a_14, .slice a_15 a_15l a_15c, .int .u8 a_16, .int .u16 a_17])] w5 fun e7 w8 =>
 ∃ b9 : Bool, (e7 = .returned (.bool b9)) ∧
 (X.Kept L3 w5 w8) ∧
 R (.returned (.bool (true && b9))) w8
 else
 R (.returned (.bool false)) w5
 else
 ∀ w1 : World, (X.Hid [] w w1) →
 R (.returned (.bool false)) w1) :
 Calls Tryz.prog 151 #[.agg #[.int .u8 a_0, .int .u8 a_1, .int .u16 a_2, .int .u32 a_3, .int .u8 a_4, .int .u8 a_5, .int .u8 a_6, .int .u8 a_7, .int .u8 a_8, .int .u8 a_9, .int .u8 a_10, .int .u32 a_11, .slice a_12 a_12l a_12c, .int .u8 a_13, .string a_14, .slice a_15 a_15l a_15c, .int .u8 a_16, .int .u16 a_17], .int .u8 b] w R :=
 X.calls_of { isLoc := [2, 5, 6], sym := [69], loops := [], joins := [] } Tryz.func151 (by kernel_rfl) h
end Go.Proofs
/- The verification conditions of this seat's functions, as the engine has them: printed by a program of the bench; checked by the kernel. -/
namespace Go.Proofs
open Go
theorem x_Procs (a : Option Addr) (al ac : Nat) (w : World) (R : Ending → World → Prop) (h :
 ∃ x1 : Option Addr → Nat → Nat → Int → World → List Nat → Prop, ∃ x2 : Option Addr → Nat → Nat → Int → World → Nat, (x1 none 0 0 0 w []) ∧
 ∀ q3 : Option Addr, ∀ k4 k5 : Nat, ∀ n6 : Int, ∀ w7 : World, ∀ L8 : List Nat, (X.LF w.heap.size w7 L8) →
 (x1 q3 k4 k5 n6 w7 L8) →
 if (decide (n6 < ((al : Nat) : Int))) = true then
 ((0 : Int) ≤ n6) ∧
 (n6 < ((al : Nat) : Int)) ∧
 X.onSome a fun p9 =>
 ∃ n10 n11 : Int, (X.Cells w7 (p9.add ((n6).toNat * 2)) [.int .u8 n10, .int .u16 n11]) ∧
 X.CallX Tryz.prog 27 #[(.agg #[.int .u8 n10, .int .u16 n11])] w7 fun e12 w13 =>
 ∃ n14 n15 : Int, (e12 = .returned (.agg #[.int .u8 n14, .int .u16 n15])) ∧
 (w7.heap.size ≤ w13.heap.size) ∧
 ∃ q16 : Option Addr, ∃ k17 k18 : Nat, ∃ w19 : World, (Sem.run Tryz.prog (Go.Builtin.append_ #[54, 54] 54 #[.slice q3 k4 k5, .slice (some ⟨w13.heap.size, 0, none⟩) 1 1]) (w13.alloc (.cells #[.int .u8 n14, .int .u16 n15] 47)) = .ok (.slice q16 k17 k18) w19) ∧
 (((w13.alloc (.cells #[.int .u8 n14, .int .u16 n15] 47))).heap.size ≤ w19.heap.size) ∧
 (x1 q16 k17 k18 (IntKind.wrap .i64 (n6 + 1)) w19 []) ∧
 Nat.le ((x2 q16 k17 k18 (IntKind.wrap .i64 (n6 + 1)) w19) + 1) (x2 q3 k4 k5 n6 w7)
 else
 R (.returned (.slice q3 k4 k5)) w7) :
 Calls Tryz.prog 28 #[.slice a al ac] w R :=
 X.calls_of { isLoc := [], sym := [], loops := [(3, .inv [(3, .slice), (4, .int .i64)] [] true)], joins := [] } Tryz.func28 (by kernel_rfl) h
theorem x_EqualPr (a : Option Addr) (al ac : Nat) (b : Option Addr) (bl bc : Nat) (w : World) (R : Ending → World → Prop) (h :
 if (((al : Nat) : Int) != ((bl : Nat) : Int)) = true then
 R (.returned (.bool false)) w
 else
 ∃ x1 : Int → World → List Nat → Prop, ∃ x2 : Int → World → Nat, (x1 0 w []) ∧
 ∀ n3 : Int, ∀ w4 : World, ∀ L5 : List Nat, (X.LF w.heap.size w4 L5) →
 (x1 n3 w4 L5) →
 if (decide (n3 < ((al : Nat) : Int))) = true then
 ((0 : Int) ≤ n3) ∧
 (n3 < ((al : Nat) : Int)) ∧
 X.onSome a fun p6 =>
 ∃ n7 n8 : Int, (X.Cells w4 (p6.add ((n3).toNat * 2)) [.int .u8 n7, .int .u16 n8]) ∧
 ((0 : Int) ≤ n3) ∧
 (n3 < ((bl : Nat) : Int)) ∧
 X.onSome b fun p9 =>
 ∃ n10 n11 : Int, (X.Cells w4 (p9.add ((n3).toNat * 2)) [.int .u8 n10, .int .u16 n11]) ∧
 if (!((n7 == n10) && (n8 == n11))) = true then
 ∀ w13 : World, (X.Hid [] w4 w13) →
 R (.returned (.bool false)) w13
 else
 ∀ w12 : World, (X.Hid [] w4 w12) →
 (x1 (IntKind.wrap .i64 (n3 + 1)) w12 []) ∧
 Nat.le ((x2 (IntKind.wrap .i64 (n3 + 1)) w12) + 1) (x2 n3 w4)
 else
 R (.returned (.bool true)) w4) :
 Calls Tryz.prog 55 #[.slice a al ac, .slice b bl bc] w R :=
 X.calls_of { isLoc := [], sym := [], loops := [(4, .inv [(13, .int .i64)] [] true)], joins := [] } Tryz.func55 (by kernel_rfl) h
theorem x_Owns (a : Option Addr) (al ac : Nat) (w : World) (R : Ending → World → Prop) (h :
 ∃ x1 : Option Addr → Nat → Nat → Int → World → List Nat → Prop, ∃ x2 : Option Addr → Nat → Nat → Int → World → Nat, (x1 none 0 0 0 w []) ∧
 ∀ q3 : Option Addr, ∀ k4 k5 : Nat, ∀ n6 : Int, ∀ w7 : World, ∀ L8 : List Nat, (X.LF w.heap.size w7 L8) →
 (x1 q3 k4 k5 n6 w7 L8) →
 if (decide (n6 < ((al : Nat) : Int))) = true then
 ((0 : Int) ≤ n6) ∧
 (n6 < ((al : Nat) : Int)) ∧
 X.onSome a fun p9 =>
 ∃ n10 n11 n12 n13 n14 n15 n16 n17 n18 n19 n20 n21 : Int, ∃ q22 : Option Addr, ∃ k23 k24 : Nat, ∃ n25 : Int, ∃ s26 : ByteArray, ∃ q27 : Option Addr, ∃ k28 k29 : Nat, ∃ n30 n31 : Int, (X.Cells w7 (p9.add ((n6).toNat * 18)) [.int .u8 n10, .int .u8 n11, .int .u16 n12, .int .u32 n13, .int .u8 n14, .int .u8 n15, .int .u8 n16, .int .u8 n17, .int .u8 n18, .int .u8 n19, .int .u8 n20, .int .u32 n21, .slice q22 k23 k24, .int .u8 n25, .string s26, .slice q27 k28 k29, .int .u8 n30, .int .u16 n31]) ∧
 X.CallX Tryz.prog 70 #[(.agg #[.int .u8 n10, .int .u8 n11, .int .u16 n12, .int .u32 n13, .int .u8 n14, .int .u8 n15, .int .u8 n16, .int .u8 n17, .int .u8 n18, .int .u8 n19, .int .u8 n20, .int .u32 n21, .slice q22 k23 k24, .int .u8 n25, .string s26, .slice q27 k28 k29, .int .u8 n30, .int .u16 n31])] w7 fun e32 w33 =>
 ∃ n34 n35 n36 n37 n38 n39 n40 n41 n42 n43 n44 n45 : Int, ∃ q46 : Option Addr, ∃ k47 k48 : Nat, ∃ n49 : Int, ∃ s50 : ByteArray, ∃ q51 : Option Addr, ∃ k52 k53 : Nat, ∃ n54 n55 : Int, (e32 = .returned (.agg #[.int .u8 n34, .int .u8 n35, .int .u16 n36, .int .u32 n37, .int .u8 n38, .int .u8 n39, .int .u8 n40, .int .u8 n41, .int .u8 n42, .int .u8 n43, .int .u8 n44, .int .u32 n45, .slice q46 k47 k48, .int .u8 n49, .string s50, .slice q51 k52 k53, .int .u8 n54, .int .u16 n55])) ∧
 (w7.heap.size ≤ w33.heap.size) ∧
 ∃ q56 : Option Addr, ∃ k57 k58 : Nat, ∃ w59 : World, (Sem.run Tryz.prog (Go.Builtin.append_ #[57, 57] 57 #[.slice q3 k4 k5, .slice (some ⟨w33.heap.size, 0, none⟩) 1 1]) (w33.alloc (.cells #[.int .u8 n34, .int .u8 n35, .int .u16 n36, .int .u32 n37, .int .u8 n38, .int .u8 n39, .int .u8 n40, .int .u8 n41, .int .u8 n42, .int .u8 n43, .int .u8 n44, .int .u32 n45, .slice q46 k47 k48, .int .u8 n49, .string s50, .slice q51 k52 k53, .int .u8 n54, .int .u16 n55] 142)) = .ok (.slice q56 k57 k58) w59) ∧
 (((w33.alloc (.cells #[.int .u8 n34, .int .u8 n35, .int .u16 n36, .int .u32 n37, .int .u8 n38, .int .u8 n39, .int .u8 n40, .int .u8 n41, .int .u8 n42, .int .u8 n43, .int .u8 n44, .int .u32 n45, .slice q46 k47 k48, .int .u8 n49, .string s50, .slice q51 k52 k53, .int .u8 n54, .int .u16 n55] 142))).heap.size ≤ w59.heap.size) ∧
 (x1 q56 k57 k58 (IntKind.wrap .i64 (n6 + 1)) w59 []) ∧
 Nat.le ((x2 q56 k57 k58 (IntKind.wrap .i64 (n6 + 1)) w59) + 1) (x2 q3 k4 k5 n6 w7)
 else
 R (.returned (.slice q3 k4 k5)) w7) :
 Calls Tryz.prog 29 #[.slice a al ac] w R :=
 X.calls_of { isLoc := [], sym := [], loops := [(3, .inv [(3, .slice), (4, .int .i64)] [] true)], joins := [] } Tryz.func29 (by kernel_rfl) h
theorem x_eSameAll (a : Option Addr) (al ac : Nat) (b : Option Addr) (bl bc : Nat) (w : World) (R : Ending → World → Prop) (h :
 X.CallX Tryz.prog 109 #[.slice a al ac, .slice b bl bc, (.func (.func 110) #[] #[])] w fun e1 w2 =>
 ∃ b3 : Bool, (e1 = .returned (.bool b3)) ∧
 (w.heap.size ≤ w2.heap.size) ∧
 R (.returned (.bool b3)) w2) :
 Calls Tryz.prog 56 #[.slice a al ac, .slice b bl bc] w R :=
 X.calls_of { isLoc := [], sym := [], loops := [], joins := [] } Tryz.func56 (by kernel_rfl) h
theorem x_EqualFuncE (a : Option Addr) (al ac : Nat) (b : Option Addr) (bl bc : Nat) (w : World) (R : Ending → World → Prop) (h :
 if (((al : Nat) : Int) != ((bl : Nat) : Int)) = true then
 R (.returned (.bool false)) w
 else
 ∃ x1 : Int → World → List Nat → Prop, ∃ x2 : Int → World → Nat, (x1 0 w []) ∧
 ∀ n3 : Int, ∀ w4 : World, ∀ L5 : List Nat, (X.LF w.heap.size w4 L5) →
 (x1 n3 w4 L5) →
 if (decide (n3 < ((al : Nat) : Int))) = true then
 ((0 : Int) ≤ n3) ∧
 (n3 < ((al : Nat) : Int)) ∧
 X.onSome a fun p6 =>
 ∃ n7 n8 n9 n10 n11 n12 n13 n14 n15 n16 n17 n18 : Int, ∃ q19 : Option Addr, ∃ k20 k21 : Nat, ∃ n22 : Int, ∃ s23 : ByteArray, ∃ q24 : Option Addr, ∃ k25 k26 : Nat, ∃ n27 n28 : Int, (X.Cells w4 (p6.add ((n3).toNat * 18)) [.int .u8 n7, .int .u8 n8, .int .u16 n9, .int .u32 n10, .int .u8 n11, .int .u8 n12, .int .u8 n13, .int .u8 n14, .int .u8 n15, .int .u8 n16, .int .u8 n17, .int .u32 n18, .slice q19 k20 k21, .int .u8 n22, .string s23, .slice q24 k25 k26, .int .u8 n27, .int .u16 n28]) ∧
 ((0 : Int) ≤ n3) ∧
 (n3 < ((bl : Nat) : Int)) ∧
 X.onSome b fun p29 =>
 ∃ n30 n31 n32 n33 n34 n35 n36 n37 n38 n39 n40 n41 : Int, ∃ q42 : Option Addr, ∃ k43 k44 : Nat, ∃ n45 : Int, ∃ s46 : ByteArray, ∃ q47 : Option Addr, ∃ k48 k49 : Nat, ∃ n50 n51 : Int, (X.Cells w4 (p29.add ((n3).toNat * 18)) [.int .u8 n30, .int .u8 n31, .int .u16 n32, .int .u32 n33, .int .u8 n34, .int .u8 n35, .int .u8 n36, .int .u8 n37, .int .u8 n38, .int .u8 n39, .int .u8 n40, .int .u32 n41, .slice q42 k43 k44, .int .u8 n45, .string s46, .slice q47 k48 k49, .int .u8 n50, .int .u16 n51]) ∧
 ∀ w52 : World, ∀ L53 : List Nat, (X.Hid [] w4 w52) →
 (X.NewL w.heap.size [] w4 w52 L53) →
 X.CallX Tryz.prog (OfNat.ofNat 110) #[(.agg #[.int .u8 n7, .int .u8 n8, .int .u16 n9, .int .u32 n10, .int .u8 n11, .int .u8 n12, .int .u8 n13, .int .u8 n14, .int .u8 n15, .int .u8 n16, .int .u8 n17, .int .u32 n18, .slice q19 k20 k21, .int .u8 n22, .string s23, .slice q24 k25 k26, .int .u8 n27, .int .u16 n28]), (.agg #[.int .u8 n30, .int .u8 n31, .int .u16 n32, .int .u32 n33, .int .u8 n34, .int .u8 n35, .int .u8 n36, .int .u8 n37, .int .u8 n38, .int .u8 n39, .int .u8 n40, .int .u32 n41, .slice q42 k43 k44, .int .u8 n45, .string s46, .slice q47 k48 k49, .int .u8 n50, .int .u16 n51])] w52 fun e54 w55 =>
 ∃ b56 : Bool, (e54 = .returned (.bool b56)) ∧
 (X.Kept L53 w52 w55) ∧
 if (!b56) = true then
 R (.returned (.bool false)) w55
 else
 (x1 (IntKind.wrap .i64 (n3 + 1)) w55 L53) ∧
 Nat.le ((x2 (IntKind.wrap .i64 (n3 + 1)) w55) + 1) (x2 n3 w4)
 else
 R (.returned (.bool true)) w4) :
 Calls Tryz.prog 109 #[.slice a al ac, .slice b bl bc, .func (.func 110) #[] #[]] w R :=
 X.calls_of { isLoc := [8, 9], sym := [], loops := [(4, .inv [(17, .int .i64)] [] true)], joins := [] } Tryz.func109 (by kernel_rfl) h
theorem x_vRight (a_0 a_1 : Int) (a_2 : Option Addr) (a_2l a_2c : Nat) (w : World) (R : Ending → World → Prop) (h :
 if (((decide (a_0 ≥ 4) || (a_1 == 0)) || (((a_2l : Nat) : Int) == 0)) || decide (((a_2l : Nat) : Int) > 8)) = true then
 ∀ w17 : World, (X.Hid [] w w17) →
 R (.returned (.bool false)) w17
 else
 ∀ w1 : World, ∀ L2 : List Nat, (X.Hid [] w w1) →
 (X.NewL w.heap.size [] w w1 L2) →
 ∃ x3 : Int → World → List Nat → Prop, ∃ x4 : Int → World → Nat, (x3 0 (w1.alloc (.cells #[.bool false, .bool false, .bool false, .bool false, .bool false, .bool false, .bool false, .bool false, .bool false, .bool false, .bool false, .bool false, .bool false, .bool false, .bool false, .bool false] 216)) L2) ∧
 ∀ n5 : Int, ∀ w6 : World, ∀ L7 : List Nat, (X.LF w.heap.size w6 L7) →
 (x3 n5 w6 L7) →
 if (decide (n5 < ((a_2l : Nat) : Int))) = true then
 ((0 : Int) ≤ n5) ∧
 (n5 < ((a_2l : Nat) : Int)) ∧
 X.onSome a_2 fun p8 =>
 ∃ n9 n10 : Int, (X.Cells w6 (p8.add ((n5).toNat * 2)) [.int .u8 n9, .int .u16 n10]) ∧
 (¬ (((p8.add (n5.toNat * 2)).block) ∈ L7)) ∧
 ∀ w11 : World, ∀ L12 : List Nat, (X.Hid L7 w6 w11) →
 (X.NewL w.heap.size L7 w6 w11 L12) →
 X.CallX Tryz.prog 117 #[(.agg #[.int .u8 n9, .int .u16 n10])] w11 fun e13 w14 =>
 ∃ b15 : Bool, (e13 = .returned (.bool b15)) ∧
 (X.Kept L12 w11 w14) ∧
 if ((!b15) == false) = true then
 ((0 : Int) ≤ n9) ∧
 (n9 < 16) ∧
 ∃ b16 : Bool, (World.cell? w14 ((⟨w1.heap.size, 0, none⟩ : Addr).add ((n9).toNat * 1)) = some (.bool b16)) ∧
 (¬ ((((Addr.mk w1.heap.size 0 none).add (n9.toNat * 1)).block) ∈ L12)) ∧
 if (false || b16) = true then
 R (.returned (.bool false)) w14
 else
 ((0 : Int) ≤ n9) ∧
 (n9 < 16) ∧
 ((((Addr.mk w1.heap.size 0 none).add (n9.toNat * 1)).spot) = none) ∧
 (World.there w14 (((Addr.mk w1.heap.size 0 none).add (n9.toNat * 1)).block) (((Addr.mk w1.heap.size 0 none).add (n9.toNat * 1)).off) 1) ∧
 (¬ ((((Addr.mk w1.heap.size 0 none).add (n9.toNat * 1)).block) ∈ L12)) ∧
 (([.int .u8 a_0, .int .u32 a_1, .slice a_2 a_2l a_2c] : List Value) = [.int .u8 a_0, .int .u32 a_1, .slice a_2 a_2l a_2c]) ∧
 (x3 (IntKind.wrap .i64 (n5 + 1)) (w14.setCells (((Addr.mk w1.heap.size 0 none).add (n9.toNat * 1)).block) (((Addr.mk w1.heap.size 0 none).add (n9.toNat * 1)).off) [.bool true]) L12) ∧
 Nat.le ((x4 (IntKind.wrap .i64 (n5 + 1)) (w14.setCells (((Addr.mk w1.heap.size 0 none).add (n9.toNat * 1)).block) (((Addr.mk w1.heap.size 0 none).add (n9.toNat * 1)).off) [.bool true])) + 1) (x4 n5 w6)
 else
 R (.returned (.bool false)) w14
 else
 R (.returned (.bool true)) w6) :
 Calls Tryz.prog 114 #[.agg #[.int .u8 a_0, .int .u32 a_1, .slice a_2 a_2l a_2c]] w R :=
 X.calls_of { isLoc := [1, 5], sym := [39, 44], loops := [(5, .inv [(29, .int .i64)] [] true)], joins := [] } Tryz.func114 (by kernel_rfl) h
theorem x_Own6 (a_0 a_1 : Int) (a_2 : Option Addr) (a_2l a_2c : Nat) (w : World) (R : Ending → World → Prop) (h :
 ∃ x1 : X.Facts, (X.FactsW x1 w []) ∧
 ∀ w2 : World, ∀ L3 : List Nat, (X.Hid [] w w2) →
 (X.NewL w.heap.size [] w w2 L3) →
 X.CallX Tryz.prog 28 #[.slice a_2 a_2l a_2c] w2 fun e4 w5 =>
 ∃ q6 : Option Addr, ∃ k7 k8 : Nat, (e4 = .returned (.slice q6 k7 k8)) ∧
 (X.Kept L3 w2 w5) ∧
 (X.FactsW x1 w5 L3) ∧
 ∀ w9 : World, (X.Hid L3 w5 w9) →
 R (.returned (.agg #[.int .u8 a_0, .int .u32 a_1, .slice q6 k7 k8])) w9) :
 Calls Tryz.prog 26 #[.agg #[.int .u8 a_0, .int .u32 a_1, .slice a_2 a_2l a_2c]] w R :=
 X.calls_of { isLoc := [1, 2], sym := [], loops := [], joins := [], stored := [(1, [2])] } Tryz.func26 (by kernel_rfl) h
theorem x_vSame (a_0 a_1 : Int) (a_2 : Option Addr) (a_2l a_2c : Nat) (b_0 b_1 : Int) (b_2 : Option Addr) (b_2l b_2c : Nat) (w : World) (R : Ending → World → Prop) (h :
 if (((a_0 == b_0) && (a_1 == b_1)) == true) = true then
 ∀ w2 : World, ∀ L3 : List Nat, (X.Hid [] w w2) →
 (X.NewL w.heap.size [] w w2 L3) →
 X.CallX Tryz.prog 55 #[.slice a_2 a_2l a_2c, .slice b_2 b_2l b_2c] w2 fun e4 w5 =>
 ∃ b6 : Bool, (e4 = .returned (.bool b6)) ∧
 (X.Kept L3 w2 w5) ∧
 R (.returned (.bool (true && b6))) w5
 else
 ∀ w1 : World, (X.Hid [] w w1) →
 R (.returned (.bool false)) w1) :
 Calls Tryz.prog 54 #[.agg #[.int .u8 a_0, .int .u32 a_1, .slice a_2 a_2l a_2c], .agg #[.int .u8 b_0, .int .u32 b_1, .slice b_2 b_2l b_2c]] w R :=
 X.calls_of { isLoc := [2, 3], sym := [], loops := [], joins := [] } Tryz.func54 (by kernel_rfl) h
end Go.Proofs
/- The verification conditions of this seat's functions, as the engine has them: printed by a program of the bench; checked by the kernel. -/
namespace Go.Proofs
open Go
theorem x_all (a : Option Addr) (al ac : Nat) (b : Int) (w : World) (R : Ending → World → Prop) (h :
 if ((decide (((al : Nat) : Int) ≤ 400)) == true) = true then
 X.CallX Tryz.prog 149 #[.slice a al ac, (.func (.func 150) #[] #[.pointer (some ⟨w.heap.size, 0, none⟩)])] (w.alloc (.cells #[.int .u8 b] 5)) fun e1 w2 =>
 ∃ b3 : Bool, (e1 = .returned (.bool b3)) ∧
 (((w.alloc (.cells #[.int .u8 b] 5))).heap.size ≤ w2.heap.size) ∧
 R (.returned (.bool (true && (!b3)))) w2
 else
 R (.returned (.bool false)) (w.alloc (.cells #[.int .u8 b] 5))) :
 Calls Tryz.prog 115 #[.slice a al ac, .int .u8 b] w R :=
 X.calls_of { isLoc := [], sym := [], loops := [], joins := [] } Tryz.func115 (by kernel_rfl) h
theorem x_all1 (a_0 a_1 a_2 a_3 a_4 a_5 a_6 a_7 a_8 a_9 a_10 a_11 : Int) (a_12 : Option Addr) (a_12l a_12c : Nat) (a_13 : Int) (a_14 : ByteArray) (a_15 : Option Addr) (a_15l a_15c : Nat) (a_16 a_17 : Int) (z0 : Addr) (w : World) (R : Ending → World → Prop) (h :
 ∃ n1 : Int, (World.cell? w z0 = some (.int .u8 n1)) ∧
 ∀ w2 : World, ∀ L3 : List Nat, (X.Hid [] w w2) →
 (X.NewL w.heap.size [] w w2 L3) →
 X.CallX Tryz.prog 151 #[(.agg #[.int .u8 a_0, .int .u8 a_1, .int .u16 a_2, .int .u32 a_3, .int .u8 a_4, .int .u8 a_5, .int .u8 a_6, .int .u8 a_7, .int .u8 a_8, .int .u8 a_9, .int .u8 a_10, .int .u32 a_11, .slice a_12 a_12l a_12c, .int .u8 a_13, .string a_14, .slice a_15 a_15l a_15c, .int .u8 a_16, .int .u16 a_17]), .int .u8 n1] w2 fun e4 w5 =>
 ∃ b6 : Bool, (e4 = .returned (.bool b6)) ∧
 (X.Kept L3 w2 w5) ∧
 R (.returned (.bool (!b6))) w5) :
 Calls Tryz.prog 150 #[.agg #[.int .u8 a_0, .int .u8 a_1, .int .u16 a_2, .int .u32 a_3, .int .u8 a_4, .int .u8 a_5, .int .u8 a_6, .int .u8 a_7, .int .u8 a_8, .int .u8 a_9, .int .u8 a_10, .int .u32 a_11, .slice a_12 a_12l a_12c, .int .u8 a_13, .string a_14, .slice a_15 a_15l a_15c, .int .u8 a_16, .int .u16 a_17], .pointer (some z0)] w R :=
 X.calls_of { isLoc := [2], sym := [], loops := [], joins := [] } Tryz.func150 (by kernel_rfl) h
theorem x_ContainsE (a : Option Addr) (al ac : Nat) (z0 : Addr) (w : World) (R : Ending → World → Prop) (h :
 X.CallX Tryz.prog 165 #[.slice a al ac, (.func (.func (OfNat.ofNat 150)) #[] #[.pointer (some z0)])] w fun e1 w2 =>
 ∃ n3 : Int, (e1 = .returned (.int .i64 n3)) ∧
 (w.heap.size ≤ w2.heap.size) ∧
 R (.returned (.bool (decide (n3 ≥ 0)))) w2) :
 Calls Tryz.prog 149 #[.slice a al ac, .func (.func 150) #[] #[.pointer (some z0)]] w R :=
 X.calls_of { isLoc := [], sym := [], loops := [], joins := [] } Tryz.func149 (by kernel_rfl) h
theorem x_IndexE (a : Option Addr) (al ac : Nat) (z0 : Addr) (w : World) (R : Ending → World → Prop) (h :
 ∃ x1 : Int → World → List Nat → Prop, ∃ x2 : Int → World → Nat, (x1 0 w []) ∧
 ∀ n3 : Int, ∀ w4 : World, ∀ L5 : List Nat, (X.LF w.heap.size w4 L5) →
 (x1 n3 w4 L5) →
 if (decide (n3 < ((al : Nat) : Int))) = true then
 ((0 : Int) ≤ n3) ∧
 (n3 < ((al : Nat) : Int)) ∧
 X.onSome a fun p6 =>
 ∃ n7 n8 n9 n10 n11 n12 n13 n14 n15 n16 n17 n18 : Int, ∃ q19 : Option Addr, ∃ k20 k21 : Nat, ∃ n22 : Int, ∃ s23 : ByteArray, ∃ q24 : Option Addr, ∃ k25 k26 : Nat, ∃ n27 n28 : Int, (X.Cells w4 (p6.add ((n3).toNat * 18)) [.int .u8 n7, .int .u8 n8, .int .u16 n9, .int .u32 n10, .int .u8 n11, .int .u8 n12, .int .u8 n13, .int .u8 n14, .int .u8 n15, .int .u8 n16, .int .u8 n17, .int .u32 n18, .slice q19 k20 k21, .int .u8 n22, .string s23, .slice q24 k25 k26, .int .u8 n27, .int .u16 n28]) ∧
 X.CallX Tryz.prog (OfNat.ofNat 150) #[(.agg #[.int .u8 n7, .int .u8 n8, .int .u16 n9, .int .u32 n10, .int .u8 n11, .int .u8 n12, .int .u8 n13, .int .u8 n14, .int .u8 n15, .int .u8 n16, .int .u8 n17, .int .u32 n18, .slice q19 k20 k21, .int .u8 n22, .string s23, .slice q24 k25 k26, .int .u8 n27, .int .u16 n28]), .pointer (some z0)] w4 fun e29 w30 =>
 ∃ b31 : Bool, (e29 = .returned (.bool b31)) ∧
 (w4.heap.size ≤ w30.heap.size) ∧
 if b31 = true then
 R (.returned (.int .i64 n3)) w30
 else
 (x1 (IntKind.wrap .i64 (n3 + 1)) w30 []) ∧
 Nat.le ((x2 (IntKind.wrap .i64 (n3 + 1)) w30) + 1) (x2 n3 w4)
 else
 R (.returned (.int .i64 (-1))) w4) :
 Calls Tryz.prog 165 #[.slice a al ac, .func (.func 150) #[] #[.pointer (some z0)]] w R :=
 X.calls_of { isLoc := [], sym := [], loops := [(2, .inv [(8, .int .i64)] [] true)], joins := [] } Tryz.func165 (by kernel_rfl) h
theorem x_mAsked (a_0 a_1 a_2 a_3 a_4 a_5 a_6 a_7 a_8 a_9 a_10 a_11 a_12 a_13 a_14 a_15 a_16 a_17 a_18 : Int) (a_19 : Option Addr) (a_19l a_19c : Nat) (a_20 : Int) (a_21 : ByteArray) (a_22 a_23 : Int) (a_24 : Option Addr) (a_24l a_24c : Nat) (a_25 a_26 : Int) (a_27 : Bool) (a_28 : Option Addr) (a_28l a_28c : Nat) (a_29 : Option Addr) (a_29l a_29c : Nat) (a_30 : Option Addr) (a_30l a_30c : Nat) (w : World) (R : Ending → World → Prop) (h :
 ∃ x1 : X.Facts, (X.FactsW x1 w []) ∧
 ∀ w2 : World, ∀ L3 : List Nat, (X.Hid [] w w2) →
 (X.NewL w.heap.size [] w w2 L3) →
 X.CallX Tryz.prog 112 #[(.agg #[.int .u8 a_9, .int .u16 a_10, .int .u32 a_11, .int .u8 a_12, .int .u8 a_13, .int .u8 a_14, .int .u8 a_15, .int .u8 a_16, .int .u8 a_17, .int .u8 a_18])] w2 fun e4 w5 =>
 ∃ b6 : Bool, (e4 = .returned (.bool b6)) ∧
 (X.Kept L3 w2 w5) ∧
 (X.FactsW x1 w5 L3) ∧
 ∃ x7 : X.Facts, (X.FactsW x7 w5 L3) ∧
 (∀ x8 : Addr × List Value, (x8 ∈ x1) →
 x8 ∈ x7) ∧
 if ((b6 && decide (a_6 < a_11)) == true) = true then
 X.CallX Tryz.prog 148 #[.slice a_19 a_19l a_19c] w5 fun e13 w14 =>
 ∃ b15 : Bool, (e13 = .returned (.bool b15)) ∧
 (X.Kept L3 w5 w14) ∧
 (X.FactsW x7 w14 L3) ∧
 ∃ x16 : X.Facts, (X.FactsW x16 w14 L3) ∧
 (∀ x17 : Addr × List Value, (x17 ∈ x7) →
 x17 ∈ x16) ∧
 if ((true && b15) == true) = true then
 ((0 : Int) ≤ 0) ∧
 ((0 : Int) < ((a_19l : Nat) : Int)) ∧
 X.onSome a_19 fun p20 =>
 ∃ n21 : Int, ((((p20.add 0).add 0), [.int .u8 n21]) ∈ x16) ∧
 R (.returned (.bool ((true && (n21 == a_1)) && decide ((IntKind.wrap .i64 (((a_19l : Nat) : Int) + (IntKind.wrap .i64 a_12))) ≤ 4)))) w14
 else
 ∃ x18 : X.Facts, (X.FactsW x18 w14 L3) ∧
 (∀ x19 : Addr × List Value, (x19 ∈ x16) →
 x19 ∈ x18) ∧
 R (.returned (.bool (false && decide ((IntKind.wrap .i64 (((a_19l : Nat) : Int) + (IntKind.wrap .i64 a_12))) ≤ 4)))) w14
 else
 ∃ x9 : X.Facts, (X.FactsW x9 w5 L3) ∧
 (∀ x10 : Addr × List Value, (x10 ∈ x7) →
 x10 ∈ x9) ∧
 ∃ x11 : X.Facts, (X.FactsW x11 w5 L3) ∧
 (∀ x12 : Addr × List Value, (x12 ∈ x9) →
 x12 ∈ x11) ∧
 R (.returned (.bool (false && decide ((IntKind.wrap .i64 (((a_19l : Nat) : Int) + (IntKind.wrap .i64 a_12))) ≤ 4)))) w5) :
 Calls Tryz.prog 111 #[.agg #[.int .u8 a_0, .int .u8 a_1, .int .u8 a_2, .int .u32 a_3, .int .u32 a_4, .int .u32 a_5, .int .u32 a_6, .int .u64 a_7, .int .u64 a_8, .int .u8 a_9, .int .u16 a_10, .int .u32 a_11, .int .u8 a_12, .int .u8 a_13, .int .u8 a_14, .int .u8 a_15, .int .u8 a_16, .int .u8 a_17, .int .u8 a_18, .slice a_19 a_19l a_19c, .int .u8 a_20, .string a_21, .int .u8 a_22, .int .u32 a_23, .slice a_24 a_24l a_24c, .int .u8 a_25, .int .u16 a_26, .bool a_27, .slice a_28 a_28l a_28c, .slice a_29 a_29l a_29c, .slice a_30 a_30l a_30c]] w R :=
 X.calls_of { isLoc := [1], sym := [], loops := [], joins := [] } Tryz.func111 (by kernel_rfl) h
theorem x_mValue (a_0 a_1 a_2 a_3 a_4 a_5 a_6 a_7 a_8 a_9 a_10 a_11 a_12 a_13 a_14 a_15 a_16 a_17 a_18 : Int) (a_19 : Option Addr) (a_19l a_19c : Nat) (a_20 : Int) (a_21 : ByteArray) (a_22 a_23 : Int) (a_24 : Option Addr) (a_24l a_24c : Nat) (a_25 a_26 : Int) (a_27 : Bool) (a_28 : Option Addr) (a_28l a_28c : Nat) (a_29 : Option Addr) (a_29l a_29c : Nat) (a_30 : Option Addr) (a_30l a_30c : Nat) (w : World) (R : Ending → World → Prop) (h :
 ∀ w1 : World, ∀ L2 : List Nat, (X.Hid [] w w1) →
 (X.NewL w.heap.size [] w w1 L2) →
 X.CallX Tryz.prog 114 #[(.agg #[.int .u8 0, .int .u32 1, .slice a_28 a_28l a_28c])] w1 fun e3 w4 =>
 ∃ b5 : Bool, (e3 = .returned (.bool b5)) ∧
 (X.Kept L2 w1 w4) ∧
 if (b5 == true) = true then
 X.CallX Tryz.prog 115 #[.slice a_30 a_30l a_30c, .int .u8 a_1] w4 fun e6 w7 =>
 ∃ b8 : Bool, (e6 = .returned (.bool b8)) ∧
 (X.Kept L2 w4 w7) ∧
 R (.returned (.bool (true && b8))) w7
 else
 R (.returned (.bool false)) w4) :
 Calls Tryz.prog 116 #[.agg #[.int .u8 a_0, .int .u8 a_1, .int .u8 a_2, .int .u32 a_3, .int .u32 a_4, .int .u32 a_5, .int .u32 a_6, .int .u64 a_7, .int .u64 a_8, .int .u8 a_9, .int .u16 a_10, .int .u32 a_11, .int .u8 a_12, .int .u8 a_13, .int .u8 a_14, .int .u8 a_15, .int .u8 a_16, .int .u8 a_17, .int .u8 a_18, .slice a_19 a_19l a_19c, .int .u8 a_20, .string a_21, .int .u8 a_22, .int .u32 a_23, .slice a_24 a_24l a_24c, .int .u8 a_25, .int .u16 a_26, .bool a_27, .slice a_28 a_28l a_28c, .slice a_29 a_29l a_29c, .slice a_30 a_30l a_30c]] w R :=
 X.calls_of { isLoc := [1, 3], sym := [], loops := [], joins := [] } Tryz.func116 (by kernel_rfl) h
theorem x_mRight (a_0 a_1 a_2 a_3 a_4 a_5 a_6 a_7 a_8 a_9 a_10 a_11 a_12 a_13 a_14 a_15 a_16 a_17 a_18 : Int) (a_19 : Option Addr) (a_19l a_19c : Nat) (a_20 : Int) (a_21 : ByteArray) (a_22 a_23 : Int) (a_24 : Option Addr) (a_24l a_24c : Nat) (a_25 a_26 : Int) (a_27 : Bool) (a_28 : Option Addr) (a_28l a_28c : Nat) (a_29 : Option Addr) (a_29l a_29c : Nat) (a_30 : Option Addr) (a_30l a_30c : Nat) (w : World) (R : Ending → World → Prop) (h :
 ∃ x1 : X.Facts, (X.FactsW x1 w []) ∧
 if ((decide (a_1 < 4)) == true) = true then
 ∀ w5 : World, ∀ L6 : List Nat, (X.Hid [] w w5) →
 (X.NewL w.heap.size [] w w5 L6) →
 X.CallX Tryz.prog 57 #[(.agg #[.int .u8 a_0, .int .u8 a_1, .int .u8 a_2, .int .u32 a_3, .int .u32 a_4, .int .u32 a_5, .int .u32 a_6, .int .u64 a_7, .int .u64 a_8, .int .u8 a_9, .int .u16 a_10, .int .u32 a_11, .int .u8 a_12, .int .u8 a_13, .int .u8 a_14, .int .u8 a_15, .int .u8 a_16, .int .u8 a_17, .int .u8 a_18, .slice a_19 a_19l a_19c, .int .u8 a_20, .string a_21, .int .u8 a_22, .int .u32 a_23, .slice a_24 a_24l a_24c, .int .u8 a_25, .int .u16 a_26, .bool a_27, .slice a_28 a_28l a_28c, .slice a_29 a_29l a_29c, .slice a_30 a_30l a_30c])] w5 fun e7 w8 =>
 ∃ b9 : Bool, (e7 = .returned (.bool b9)) ∧
 (X.Kept L6 w5 w8) ∧
 (X.FactsW x1 w8 L6) ∧
 ∃ x10 : X.Facts, (X.FactsW x10 w8 L6) ∧
 (∀ x11 : Addr × List Value, (x11 ∈ x1) →
 x11 ∈ x10) ∧
 if ((true && b9) == true) = true then
 X.CallX Tryz.prog 58 #[(.agg #[.int .u8 a_0, .int .u8 a_1, .int .u8 a_2, .int .u32 a_3, .int .u32 a_4, .int .u32 a_5, .int .u32 a_6, .int .u64 a_7, .int .u64 a_8, .int .u8 a_9, .int .u16 a_10, .int .u32 a_11, .int .u8 a_12, .int .u8 a_13, .int .u8 a_14, .int .u8 a_15, .int .u8 a_16, .int .u8 a_17, .int .u8 a_18, .slice a_19 a_19l a_19c, .int .u8 a_20, .string a_21, .int .u8 a_22, .int .u32 a_23, .slice a_24 a_24l a_24c, .int .u8 a_25, .int .u16 a_26, .bool a_27, .slice a_28 a_28l a_28c, .slice a_29 a_29l a_29c, .slice a_30 a_30l a_30c])] w8 fun e12 w13 =>
 ∃ n14 n15 n16 n17 n18 n19 n20 n21 n22 n23 n24 n25 n26 n27 n28 n29 n30 n31 n32 : Int, ∃ q33 : Option Addr, ∃ k34 k35 : Nat, ∃ n36 : Int, ∃ s37 : ByteArray, ∃ n38 n39 : Int, ∃ q40 : Option Addr, ∃ k41 k42 : Nat, ∃ n43 n44 : Int, ∃ b45 : Bool, ∃ q46 : Option Addr, ∃ k47 k48 : Nat, ∃ q49 : Option Addr, ∃ k50 k51 : Nat, ∃ q52 : Option Addr, ∃ k53 k54 : Nat, (e12 = .returned (.agg #[.int .u8 n14, .int .u8 n15, .int .u8 n16, .int .u32 n17, .int .u32 n18, .int .u32 n19, .int .u32 n20, .int .u64 n21, .int .u64 n22, .int .u8 n23, .int .u16 n24, .int .u32 n25, .int .u8 n26, .int .u8 n27, .int .u8 n28, .int .u8 n29, .int .u8 n30, .int .u8 n31, .int .u8 n32, .slice q33 k34 k35, .int .u8 n36, .string s37, .int .u8 n38, .int .u32 n39, .slice q40 k41 k42, .int .u8 n43, .int .u16 n44, .bool b45, .slice q46 k47 k48, .slice q49 k50 k51, .slice q52 k53 k54])) ∧
 (X.Kept L6 w8 w13) ∧
 (X.FactsW x10 w13 L6) ∧
 X.CallX Tryz.prog 15 #[(.agg #[.int .u8 a_0, .int .u8 a_1, .int .u8 a_2, .int .u32 a_3, .int .u32 a_4, .int .u32 a_5, .int .u32 a_6, .int .u64 a_7, .int .u64 a_8, .int .u8 a_9, .int .u16 a_10, .int .u32 a_11, .int .u8 a_12, .int .u8 a_13, .int .u8 a_14, .int .u8 a_15, .int .u8 a_16, .int .u8 a_17, .int .u8 a_18, .slice a_19 a_19l a_19c, .int .u8 a_20, .string a_21, .int .u8 a_22, .int .u32 a_23, .slice a_24 a_24l a_24c, .int .u8 a_25, .int .u16 a_26, .bool a_27, .slice a_28 a_28l a_28c, .slice a_29 a_29l a_29c, .slice a_30 a_30l a_30c]), (.agg #[.int .u8 n14, .int .u8 n15, .int .u8 n16, .int .u32 n17, .int .u32 n18, .int .u32 n19, .int .u32 n20, .int .u64 n21, .int .u64 n22, .int .u8 n23, .int .u16 n24, .int .u32 n25, .int .u8 n26, .int .u8 n27, .int .u8 n28, .int .u8 n29, .int .u8 n30, .int .u8 n31, .int .u8 n32, .slice q33 k34 k35, .int .u8 n36, .string s37, .int .u8 n38, .int .u32 n39, .slice q40 k41 k42, .int .u8 n43, .int .u16 n44, .bool b45, .slice q46 k47 k48, .slice q49 k50 k51, .slice q52 k53 k54])] w13 fun e55 w56 =>
 ∃ b57 : Bool, (e55 = .returned (.bool b57)) ∧
 (X.Kept L6 w13 w56) ∧
 (X.FactsW x10 w56 L6) ∧
 R (.returned (.bool (true && b57))) w56
 else
 R (.returned (.bool false)) w8
 else
 ∃ x2 : X.Facts, (X.FactsW x2 w []) ∧
 (∀ x3 : Addr × List Value, (x3 ∈ x1) →
 x3 ∈ x2) ∧
 ∀ w4 : World, (X.Hid [] w w4) →
 R (.returned (.bool false)) w4) :
 Calls Tryz.prog 19 #[.agg #[.int .u8 a_0, .int .u8 a_1, .int .u8 a_2, .int .u32 a_3, .int .u32 a_4, .int .u32 a_5, .int .u32 a_6, .int .u64 a_7, .int .u64 a_8, .int .u8 a_9, .int .u16 a_10, .int .u32 a_11, .int .u8 a_12, .int .u8 a_13, .int .u8 a_14, .int .u8 a_15, .int .u8 a_16, .int .u8 a_17, .int .u8 a_18, .slice a_19 a_19l a_19c, .int .u8 a_20, .string a_21, .int .u8 a_22, .int .u32 a_23, .slice a_24 a_24l a_24c, .int .u8 a_25, .int .u16 a_26, .bool a_27, .slice a_28 a_28l a_28c, .slice a_29 a_29l a_29c, .slice a_30 a_30l a_30c]] w R :=
 X.calls_of { isLoc := [1], sym := [], loops := [], joins := [] } Tryz.func19 (by kernel_rfl) h
theorem x_mSame (a_0 a_1 a_2 a_3 a_4 a_5 a_6 a_7 a_8 a_9 a_10 a_11 a_12 a_13 a_14 a_15 a_16 a_17 a_18 : Int) (a_19 : Option Addr) (a_19l a_19c : Nat) (a_20 : Int) (a_21 : ByteArray) (a_22 a_23 : Int) (a_24 : Option Addr) (a_24l a_24c : Nat) (a_25 a_26 : Int) (a_27 : Bool) (a_28 : Option Addr) (a_28l a_28c : Nat) (a_29 : Option Addr) (a_29l a_29c : Nat) (a_30 : Option Addr) (a_30l a_30c : Nat) (b_0 b_1 b_2 b_3 b_4 b_5 b_6 b_7 b_8 b_9 b_10 b_11 b_12 b_13 b_14 b_15 b_16 b_17 b_18 : Int) (b_19 : Option Addr) (b_19l b_19c : Nat) (b_20 : Int) (b_21 : ByteArray) (b_22 b_23 : Int) (b_24 : Option Addr) (b_24l b_24c : Nat) (b_25 b_26 : Int) (b_27 : Bool) (b_28 : Option Addr) (b_28l b_28c : Nat) (b_29 : Option Addr) (b_29l b_29c : Nat) (b_30 : Option Addr) (b_30l b_30c : Nat) (w : World) (R : Ending → World → Prop) (h :
 ∀ w1 : World, ∀ L2 : List Nat, (X.Hid [] w w1) →
 (X.NewL w.heap.size [] w w1 L2) →
 X.CallX Tryz.prog 53 #[.slice a_19 a_19l a_19c, .slice b_19 b_19l b_19c] w1 fun e3 w4 =>
 ∃ b5 : Bool, (e3 = .returned (.bool b5)) ∧
 (X.Kept L2 w1 w4) ∧
 if (b5 == true) = true then
 X.CallX Tryz.prog 54 #[(.agg #[.int .u8 a_22, .int .u32 a_23, .slice a_24 a_24l a_24c]), (.agg #[.int .u8 b_22, .int .u32 b_23, .slice b_24 b_24l b_24c])] w4 fun e6 w7 =>
 ∃ b8 : Bool, (e6 = .returned (.bool b8)) ∧
 (X.Kept L2 w4 w7) ∧
 if ((true && b8) == true) = true then
 X.CallX Tryz.prog 55 #[.slice a_28 a_28l a_28c, .slice b_28 b_28l b_28c] w7 fun e9 w10 =>
 ∃ b11 : Bool, (e9 = .returned (.bool b11)) ∧
 (X.Kept L2 w7 w10) ∧
 if ((true && b11) == true) = true then
 X.CallX Tryz.prog 56 #[.slice a_29 a_29l a_29c, .slice b_29 b_29l b_29c] w10 fun e12 w13 =>
 ∃ b14 : Bool, (e12 = .returned (.bool b14)) ∧
 (X.Kept L2 w10 w13) ∧
 if ((true && b14) == true) = true then
 X.CallX Tryz.prog 56 #[.slice a_30 a_30l a_30c, .slice b_30 b_30l b_30c] w13 fun e15 w16 =>
 ∃ b17 : Bool, (e15 = .returned (.bool b17)) ∧
 (X.Kept L2 w13 w16) ∧
 R (.returned (.bool ((((((true && b17) && (((((((((a_0 == b_0) && (a_1 == b_1)) && (a_2 == b_2)) && (a_3 == b_3)) && (a_4 == b_4)) && (a_5 == b_5)) && (a_6 == b_6)) && (a_7 == b_7)) && (a_8 == b_8))) && (((a_9 == b_9) && (a_10 == b_10)) && ((a_11 == b_11) && ((a_12 == b_12) && (((a_13 == b_13) && (a_14 == b_14)) && (((a_15 == b_15) && (a_16 == b_16)) && ((a_17 == b_17) && (a_18 == b_18)))))))) && ((a_20 == b_20) && (a_21 == b_21))) && ((a_25 == b_25) && (a_26 == b_26))) && (a_27 == b_27)))) w16
 else
 R (.returned (.bool (((((false && (((((((((a_0 == b_0) && (a_1 == b_1)) && (a_2 == b_2)) && (a_3 == b_3)) && (a_4 == b_4)) && (a_5 == b_5)) && (a_6 == b_6)) && (a_7 == b_7)) && (a_8 == b_8))) && (((a_9 == b_9) && (a_10 == b_10)) && ((a_11 == b_11) && ((a_12 == b_12) && (((a_13 == b_13) && (a_14 == b_14)) && (((a_15 == b_15) && (a_16 == b_16)) && ((a_17 == b_17) && (a_18 == b_18)))))))) && ((a_20 == b_20) && (a_21 == b_21))) && ((a_25 == b_25) && (a_26 == b_26))) && (a_27 == b_27)))) w13
 else
 R (.returned (.bool (((((false && (((((((((a_0 == b_0) && (a_1 == b_1)) && (a_2 == b_2)) && (a_3 == b_3)) && (a_4 == b_4)) && (a_5 == b_5)) && (a_6 == b_6)) && (a_7 == b_7)) && (a_8 == b_8))) && (((a_9 == b_9) && (a_10 == b_10)) && ((a_11 == b_11) && ((a_12 == b_12) && (((a_13 == b_13) && (a_14 == b_14)) && (((a_15 == b_15) && (a_16 == b_16)) && ((a_17 == b_17) && (a_18 == b_18)))))))) && ((a_20 == b_20) && (a_21 == b_21))) && ((a_25 == b_25) && (a_26 == b_26))) && (a_27 == b_27)))) w10
 else
 R (.returned (.bool (((((false && (((((((((a_0 == b_0) && (a_1 == b_1)) && (a_2 == b_2)) && (a_3 == b_3)) && (a_4 == b_4)) && (a_5 == b_5)) && (a_6 == b_6)) && (a_7 == b_7)) && (a_8 == b_8))) && (((a_9 == b_9) && (a_10 == b_10)) && ((a_11 == b_11) && ((a_12 == b_12) && (((a_13 == b_13) && (a_14 == b_14)) && (((a_15 == b_15) && (a_16 == b_16)) && ((a_17 == b_17) && (a_18 == b_18)))))))) && ((a_20 == b_20) && (a_21 == b_21))) && ((a_25 == b_25) && (a_26 == b_26))) && (a_27 == b_27)))) w7
 else
 R (.returned (.bool (((((false && (((((((((a_0 == b_0) && (a_1 == b_1)) && (a_2 == b_2)) && (a_3 == b_3)) && (a_4 == b_4)) && (a_5 == b_5)) && (a_6 == b_6)) && (a_7 == b_7)) && (a_8 == b_8))) && (((a_9 == b_9) && (a_10 == b_10)) && ((a_11 == b_11) && ((a_12 == b_12) && (((a_13 == b_13) && (a_14 == b_14)) && (((a_15 == b_15) && (a_16 == b_16)) && ((a_17 == b_17) && (a_18 == b_18)))))))) && ((a_20 == b_20) && (a_21 == b_21))) && ((a_25 == b_25) && (a_26 == b_26))) && (a_27 == b_27)))) w4) :
 Calls Tryz.prog 15 #[.agg #[.int .u8 a_0, .int .u8 a_1, .int .u8 a_2, .int .u32 a_3, .int .u32 a_4, .int .u32 a_5, .int .u32 a_6, .int .u64 a_7, .int .u64 a_8, .int .u8 a_9, .int .u16 a_10, .int .u32 a_11, .int .u8 a_12, .int .u8 a_13, .int .u8 a_14, .int .u8 a_15, .int .u8 a_16, .int .u8 a_17, .int .u8 a_18, .slice a_19 a_19l a_19c, .int .u8 a_20, .string a_21, .int .u8 a_22, .int .u32 a_23, .slice a_24 a_24l a_24c, .int .u8 a_25, .int .u16 a_26, .bool a_27, .slice a_28 a_28l a_28c, .slice a_29 a_29l a_29c, .slice a_30 a_30l a_30c], .agg #[.int .u8 b_0, .int .u8 b_1, .int .u8 b_2, .int .u32 b_3, .int .u32 b_4, .int .u32 b_5, .int .u32 b_6, .int .u64 b_7, .int .u64 b_8, .int .u8 b_9, .int .u16 b_10, .int .u32 b_11, .int .u8 b_12, .int .u8 b_13, .int .u8 b_14, .int .u8 b_15, .int .u8 b_16, .int .u8 b_17, .int .u8 b_18, .slice b_19 b_19l b_19c, .int .u8 b_20, .string b_21, .int .u8 b_22, .int .u32 b_23, .slice b_24 b_24l b_24c, .int .u8 b_25, .int .u16 b_26, .bool b_27, .slice b_28 b_28l b_28c, .slice b_29 b_29l b_29c, .slice b_30 b_30l b_30c]] w R :=
 X.calls_of { isLoc := [2, 3], sym := [], loops := [], joins := [] } Tryz.func15 (by kernel_rfl) h
theorem x_OwnM (a_0 a_1 a_2 a_3 a_4 a_5 a_6 a_7 a_8 a_9 a_10 a_11 a_12 a_13 a_14 a_15 a_16 a_17 a_18 : Int) (a_19 : Option Addr) (a_19l a_19c : Nat) (a_20 : Int) (a_21 : ByteArray) (a_22 a_23 : Int) (a_24 : Option Addr) (a_24l a_24c : Nat) (a_25 a_26 : Int) (a_27 : Bool) (a_28 : Option Addr) (a_28l a_28c : Nat) (a_29 : Option Addr) (a_29l a_29c : Nat) (a_30 : Option Addr) (a_30l a_30c : Nat) (w : World) (R : Ending → World → Prop) (h :
 ∃ x1 : X.Facts, (X.FactsW x1 w []) ∧
 ∀ w2 : World, ∀ L3 : List Nat, (X.Hid [] w w2) →
 (X.NewL w.heap.size [] w w2 L3) →
 X.CallX Tryz.prog 23 #[(.agg #[.int .u8 a_9, .int .u16 a_10, .int .u32 a_11, .int .u8 a_12, .int .u8 a_13, .int .u8 a_14, .int .u8 a_15, .int .u8 a_16, .int .u8 a_17, .int .u8 a_18])] w2 fun e4 w5 =>
 ∃ n6 n7 n8 n9 n10 n11 n12 n13 n14 n15 : Int, (e4 = .returned (.agg #[.int .u8 n6, .int .u16 n7, .int .u32 n8, .int .u8 n9, .int .u8 n10, .int .u8 n11, .int .u8 n12, .int .u8 n13, .int .u8 n14, .int .u8 n15])) ∧
 (X.Kept L3 w2 w5) ∧
 (X.FactsW x1 w5 L3) ∧
 X.CallX Tryz.prog 24 #[.slice a_19 a_19l a_19c] w5 fun e16 w17 =>
 ∃ q18 : Option Addr, ∃ k19 k20 : Nat, (e16 = .returned (.slice q18 k19 k20)) ∧
 (X.Kept L3 w5 w17) ∧
 (X.FactsW x1 w17 L3) ∧
 X.CallX Tryz.prog 25 #[(.agg #[.int .u8 a_20, .string a_21])] w17 fun e21 w22 =>
 ∃ n23 : Int, ∃ s24 : ByteArray, (e21 = .returned (.agg #[.int .u8 n23, .string s24])) ∧
 (X.Kept L3 w17 w22) ∧
 (X.FactsW x1 w22 L3) ∧
 X.CallX Tryz.prog 26 #[(.agg #[.int .u8 a_22, .int .u32 a_23, .slice a_24 a_24l a_24c])] w22 fun e25 w26 =>
 ∃ n27 n28 : Int, ∃ q29 : Option Addr, ∃ k30 k31 : Nat, (e25 = .returned (.agg #[.int .u8 n27, .int .u32 n28, .slice q29 k30 k31])) ∧
 (X.Kept L3 w22 w26) ∧
 (X.FactsW x1 w26 L3) ∧
 X.CallX Tryz.prog 27 #[(.agg #[.int .u8 a_25, .int .u16 a_26])] w26 fun e32 w33 =>
 ∃ n34 n35 : Int, (e32 = .returned (.agg #[.int .u8 n34, .int .u16 n35])) ∧
 (X.Kept L3 w26 w33) ∧
 (X.FactsW x1 w33 L3) ∧
 X.CallX Tryz.prog 28 #[.slice a_28 a_28l a_28c] w33 fun e36 w37 =>
 ∃ q38 : Option Addr, ∃ k39 k40 : Nat, (e36 = .returned (.slice q38 k39 k40)) ∧
 (X.Kept L3 w33 w37) ∧
 (X.FactsW x1 w37 L3) ∧
 X.CallX Tryz.prog 29 #[.slice a_29 a_29l a_29c] w37 fun e41 w42 =>
 ∃ q43 : Option Addr, ∃ k44 k45 : Nat, (e41 = .returned (.slice q43 k44 k45)) ∧
 (X.Kept L3 w37 w42) ∧
 (X.FactsW x1 w42 L3) ∧
 X.CallX Tryz.prog 29 #[.slice a_30 a_30l a_30c] w42 fun e46 w47 =>
 ∃ q48 : Option Addr, ∃ k49 k50 : Nat, (e46 = .returned (.slice q48 k49 k50)) ∧
 (X.Kept L3 w42 w47) ∧
 (X.FactsW x1 w47 L3) ∧
 ∀ w51 : World, (X.Hid L3 w47 w51) →
 R (.returned (.agg #[.int .u8 a_0, .int .u8 a_1, .int .u8 a_2, .int .u32 a_3, .int .u32 a_4, .int .u32 a_5, .int .u32 a_6, .int .u64 a_7, .int .u64 a_8, .int .u8 n6, .int .u16 n7, .int .u32 n8, .int .u8 n9, .int .u8 n10, .int .u8 n11, .int .u8 n12, .int .u8 n13, .int .u8 n14, .int .u8 n15, .slice q18 k19 k20, .int .u8 n23, .string s24, .int .u8 n27, .int .u32 n28, .slice q29 k30 k31, .int .u8 n34, .int .u16 n35, .bool a_27, .slice q38 k39 k40, .slice q43 k44 k45, .slice q48 k49 k50])) w51) :
 Calls Tryz.prog 8 #[.agg #[.int .u8 a_0, .int .u8 a_1, .int .u8 a_2, .int .u32 a_3, .int .u32 a_4, .int .u32 a_5, .int .u32 a_6, .int .u64 a_7, .int .u64 a_8, .int .u8 a_9, .int .u16 a_10, .int .u32 a_11, .int .u8 a_12, .int .u8 a_13, .int .u8 a_14, .int .u8 a_15, .int .u8 a_16, .int .u8 a_17, .int .u8 a_18, .slice a_19 a_19l a_19c, .int .u8 a_20, .string a_21, .int .u8 a_22, .int .u32 a_23, .slice a_24 a_24l a_24c, .int .u8 a_25, .int .u16 a_26, .bool a_27, .slice a_28 a_28l a_28c, .slice a_29 a_29l a_29c, .slice a_30 a_30l a_30c]] w R :=
 X.calls_of { isLoc := [1, 2], sym := [], loops := [], joins := [], stored := [(1, [2])] } Tryz.func8 (by kernel_rfl) h
theorem x_Light7 (a_0 a_1 a_2 a_3 a_4 a_5 a_6 a_7 a_8 a_9 a_10 a_11 a_12 a_13 a_14 a_15 a_16 a_17 a_18 : Int) (a_19 : Option Addr) (a_19l a_19c : Nat) (a_20 : Int) (a_21 : ByteArray) (a_22 a_23 : Int) (a_24 : Option Addr) (a_24l a_24c : Nat) (a_25 a_26 : Int) (a_27 : Bool) (a_28 : Option Addr) (a_28l a_28c : Nat) (a_29 : Option Addr) (a_29l a_29c : Nat) (a_30 : Option Addr) (a_30l a_30c : Nat) (w : World) (R : Ending → World → Prop) (h :
 ∀ w1 : World, ∀ L2 : List Nat, (X.Hid [] w w1) →
 (X.NewL w.heap.size [] w w1 L2) →
 X.CallX Tryz.prog 16 #[.slice a_19 a_19l a_19c] w1 fun e3 w4 =>
 ∃ b5 : Bool, (e3 = .returned (.bool b5)) ∧
 (X.Kept L2 w1 w4) ∧
 if ((((b5 && decide ((((a_21.size) : Nat) : Int) ≤ 2000)) && decide (((a_24l : Nat) : Int) ≤ 40)) && decide (((a_28l : Nat) : Int) ≤ 40)) == true) = true then
 X.CallX Tryz.prog 17 #[.slice a_29 a_29l a_29c] w4 fun e6 w7 =>
 ∃ b8 : Bool, (e6 = .returned (.bool b8)) ∧
 (X.Kept L2 w4 w7) ∧
 if ((true && b8) == true) = true then
 X.CallX Tryz.prog 17 #[.slice a_30 a_30l a_30c] w7 fun e9 w10 =>
 ∃ b11 : Bool, (e9 = .returned (.bool b11)) ∧
 (X.Kept L2 w7 w10) ∧
 R (.returned (.bool (true && b11))) w10
 else
 R (.returned (.bool false)) w7
 else
 R (.returned (.bool false)) w4) :
 Calls Tryz.prog 5 #[.agg #[.int .u8 a_0, .int .u8 a_1, .int .u8 a_2, .int .u32 a_3, .int .u32 a_4, .int .u32 a_5, .int .u32 a_6, .int .u64 a_7, .int .u64 a_8, .int .u8 a_9, .int .u16 a_10, .int .u32 a_11, .int .u8 a_12, .int .u8 a_13, .int .u8 a_14, .int .u8 a_15, .int .u8 a_16, .int .u8 a_17, .int .u8 a_18, .slice a_19 a_19l a_19c, .int .u8 a_20, .string a_21, .int .u8 a_22, .int .u32 a_23, .slice a_24 a_24l a_24c, .int .u8 a_25, .int .u16 a_26, .bool a_27, .slice a_28 a_28l a_28c, .slice a_29 a_29l a_29c, .slice a_30 a_30l a_30c]] w R :=
 X.calls_of { isLoc := [1], sym := [], loops := [], joins := [] } Tryz.func5 (by kernel_rfl) h
end Go.Proofs
/- The verification conditions of this seat's functions, as the engine has them: printed by a program of the bench; checked by the kernel. -/
namespace Go.Proofs
open Go
theorem x_mFields (a_0 a_1 a_2 a_3 a_4 a_5 a_6 a_7 a_8 a_9 a_10 a_11 a_12 a_13 a_14 a_15 a_16 a_17 a_18 : Int) (a_19 : Option Addr) (a_19l a_19c : Nat) (a_20 : Int) (a_21 : ByteArray) (a_22 a_23 : Int) (a_24 : Option Addr) (a_24l a_24c : Nat) (a_25 a_26 : Int) (a_27 : Bool) (a_28 : Option Addr) (a_28l a_28c : Nat) (a_29 : Option Addr) (a_29l a_29c : Nat) (a_30 : Option Addr) (a_30l a_30c : Nat) (w : World) (R : Ending → World → Prop) (h :
 if (a_0 == 0) = true then
 ∀ w150 : World, ∀ L151 : List Nat, (X.Hid [] w w150) →
 (X.NewL w.heap.size [] w w150 L151) →
 X.CallX Tryz.prog 111 #[(.agg #[.int .u8 a_0, .int .u8 a_1, .int .u8 a_2, .int .u32 a_3, .int .u32 a_4, .int .u32 a_5, .int .u32 a_6, .int .u64 a_7, .int .u64 a_8, .int .u8 a_9, .int .u16 a_10, .int .u32 a_11, .int .u8 a_12, .int .u8 a_13, .int .u8 a_14, .int .u8 a_15, .int .u8 a_16, .int .u8 a_17, .int .u8 a_18, .slice a_19 a_19l a_19c, .int .u8 a_20, .string a_21, .int .u8 a_22, .int .u32 a_23, .slice a_24 a_24l a_24c, .int .u8 a_25, .int .u16 a_26, .bool a_27, .slice a_28 a_28l a_28c, .slice a_29 a_29l a_29c, .slice a_30 a_30l a_30c])] w150 fun e152 w153 =>
 ∃ b154 : Bool, (e152 = .returned (.bool b154)) ∧
 (X.Kept L151 w150 w153) ∧
 R (.returned (.bool b154)) w153
 else
 if (a_0 == 1) = true then
 ∀ w139 : World, ∀ L140 : List Nat, (X.Hid [] w w139) →
 (X.NewL w.heap.size [] w w139 L140) →
 X.CallX Tryz.prog 112 #[(.agg #[.int .u8 a_9, .int .u16 a_10, .int .u32 a_11, .int .u8 a_12, .int .u8 a_13, .int .u8 a_14, .int .u8 a_15, .int .u8 a_16, .int .u8 a_17, .int .u8 a_18])] w139 fun e141 w142 =>
 ∃ b143 : Bool, (e141 = .returned (.bool b143)) ∧
 (X.Kept L140 w139 w142) ∧
 if (b143 == true) = true then
 X.CallX Tryz.prog 113 #[(.agg #[.int .u8 a_20, .string a_21])] w142 fun e144 w145 =>
 ∃ b146 : Bool, (e144 = .returned (.bool b146)) ∧
 (X.Kept L140 w142 w145) ∧
 if ((true && b146) == true) = true then
 X.CallX Tryz.prog 114 #[(.agg #[.int .u8 a_22, .int .u32 a_23, .slice a_24 a_24l a_24c])] w145 fun e147 w148 =>
 ∃ b149 : Bool, (e147 = .returned (.bool b149)) ∧
 (X.Kept L140 w145 w148) ∧
 R (.returned (.bool (true && b149))) w148
 else
 R (.returned (.bool false)) w145
 else
 R (.returned (.bool false)) w142
 else
 if (a_0 == 2) = true then
 ∀ w134 : World, ∀ L135 : List Nat, (X.Hid [] w w134) →
 (X.NewL w.heap.size [] w w134 L135) →
 X.CallX Tryz.prog 112 #[(.agg #[.int .u8 a_9, .int .u16 a_10, .int .u32 a_11, .int .u8 a_12, .int .u8 a_13, .int .u8 a_14, .int .u8 a_15, .int .u8 a_16, .int .u8 a_17, .int .u8 a_18])] w134 fun e136 w137 =>
 ∃ b138 : Bool, (e136 = .returned (.bool b138)) ∧
 (X.Kept L135 w134 w137) ∧
 R (.returned (.bool b138)) w137
 else
 if (a_0 == 3) = true then
 if ((((decide (a_3 > 0) && decide (a_4 ≤ 400)) && decide (a_5 ≤ 400)) && decide ((IntKind.wrap .i64 ((IntKind.wrap .i64 a_4) + ((a_29l : Nat) : Int))) ≤ 400)) == true) = true then
 ∀ w129 : World, ∀ L130 : List Nat, (X.Hid [] w w129) →
 (X.NewL w.heap.size [] w w129 L130) →
 X.CallX Tryz.prog 115 #[.slice a_29 a_29l a_29c, .int .u8 a_1] w129 fun e131 w132 =>
 ∃ b133 : Bool, (e131 = .returned (.bool b133)) ∧
 (X.Kept L130 w129 w132) ∧
 R (.returned (.bool (true && b133))) w132
 else
 ∀ w128 : World, (X.Hid [] w w128) →
 R (.returned (.bool false)) w128
 else
 if (a_0 == 4) = true then
 ∀ w127 : World, (X.Hid [] w w127) →
 R (.returned (.bool (decide (a_3 > 0) && decide (a_4 ≤ 400)))) w127
 else
 if (a_0 == 5) = true then
 if (a_0 == 5) = true then
 ∀ w126 : World, (X.Hid [] w w126) →
 R (.returned (.bool (decide (a_3 > 0) && decide (a_7 > 0)))) w126
 else
 if (a_0 == 8) = true then
 if ((decide (a_3 > 0) && decide (a_7 > 0)) == true) = true then
 ∀ w118 : World, ∀ L119 : List Nat, (X.Hid [] w w118) →
 (X.NewL w.heap.size [] w w118 L119) →
 X.CallX Tryz.prog 115 #[.slice a_29 a_29l a_29c, .int .u8 a_1] w118 fun e120 w121 =>
 ∃ b122 : Bool, (e120 = .returned (.bool b122)) ∧
 (X.Kept L119 w118 w121) ∧
 if ((true && b122) == true) = true then
 if ((!a_27) == false) = true then
 if ((decide (a_8 > 0)) == true) = true then
 X.CallX Tryz.prog 116 #[(.agg #[.int .u8 a_0, .int .u8 a_1, .int .u8 a_2, .int .u32 a_3, .int .u32 a_4, .int .u32 a_5, .int .u32 a_6, .int .u64 a_7, .int .u64 a_8, .int .u8 a_9, .int .u16 a_10, .int .u32 a_11, .int .u8 a_12, .int .u8 a_13, .int .u8 a_14, .int .u8 a_15, .int .u8 a_16, .int .u8 a_17, .int .u8 a_18, .slice a_19 a_19l a_19c, .int .u8 a_20, .string a_21, .int .u8 a_22, .int .u32 a_23, .slice a_24 a_24l a_24c, .int .u8 a_25, .int .u16 a_26, .bool a_27, .slice a_28 a_28l a_28c, .slice a_29 a_29l a_29c, .slice a_30 a_30l a_30c])] w121 fun e123 w124 =>
 ∃ b125 : Bool, (e123 = .returned (.bool b125)) ∧
 (X.Kept L119 w121 w124) ∧
 R (.returned (.bool (true && (false || (true && b125))))) w124
 else
 R (.returned (.bool false)) w121
 else
 R (.returned (.bool true)) w121
 else
 R (.returned (.bool false)) w121
 else
 ∀ w117 : World, (X.Hid [] w w117) →
 R (.returned (.bool false)) w117
 else
 if (a_0 == 9) = true then
 if ((decide (a_3 > 0) && decide (a_7 > 0)) == true) = true then
 ∀ w112 : World, ∀ L113 : List Nat, (X.Hid [] w w112) →
 (X.NewL w.heap.size [] w w112 L113) →
 X.CallX Tryz.prog 116 #[(.agg #[.int .u8 a_0, .int .u8 a_1, .int .u8 a_2, .int .u32 a_3, .int .u32 a_4, .int .u32 a_5, .int .u32 a_6, .int .u64 a_7, .int .u64 a_8, .int .u8 a_9, .int .u16 a_10, .int .u32 a_11, .int .u8 a_12, .int .u8 a_13, .int .u8 a_14, .int .u8 a_15, .int .u8 a_16, .int .u8 a_17, .int .u8 a_18, .slice a_19 a_19l a_19c, .int .u8 a_20, .string a_21, .int .u8 a_22, .int .u32 a_23, .slice a_24 a_24l a_24c, .int .u8 a_25, .int .u16 a_26, .bool a_27, .slice a_28 a_28l a_28c, .slice a_29 a_29l a_29c, .slice a_30 a_30l a_30c])] w112 fun e114 w115 =>
 ∃ b116 : Bool, (e114 = .returned (.bool b116)) ∧
 (X.Kept L113 w112 w115) ∧
 R (.returned (.bool (true && b116))) w115
 else
 ∀ w111 : World, (X.Hid [] w w111) →
 R (.returned (.bool false)) w111
 else
 if (a_0 == 10) = true then
 ∀ w103 : World, ∀ L104 : List Nat, (X.Hid [] w w103) →
 (X.NewL w.heap.size [] w w103 L104) →
 X.CallX Tryz.prog 114 #[(.agg #[.int .u8 a_22, .int .u32 a_23, .slice a_24 a_24l a_24c])] w103 fun e105 w106 =>
 ∃ b107 : Bool, (e105 = .returned (.bool b107)) ∧
 (X.Kept L104 w103 w106) ∧
 if (b107 == true) = true then
 X.CallX Tryz.prog 115 #[.slice a_29 a_29l a_29c, .int .u8 a_22] w106 fun e108 w109 =>
 ∃ b110 : Bool, (e108 = .returned (.bool b110)) ∧
 (X.Kept L104 w106 w109) ∧
 R (.returned (.bool (true && b110))) w109
 else
 R (.returned (.bool false)) w106
 else
 if (a_0 == 11) = true then
 if (a_0 == 11) = true then
 ∀ w98 : World, ∀ L99 : List Nat, (X.Hid [] w w98) →
 (X.NewL w.heap.size [] w w98 L99) →
 X.CallX Tryz.prog 117 #[(.agg #[.int .u8 a_25, .int .u16 a_26])] w98 fun e100 w101 =>
 ∃ b102 : Bool, (e100 = .returned (.bool b102)) ∧
 (X.Kept L99 w98 w101) ∧
 R (.returned (.bool b102)) w101
 else
 ∀ w97 : World, (X.Hid [] w w97) →
 R (.returned (.bool false)) w97
 else
 if (a_0 == 12) = true then
 if (a_0 == 12) = true then
 ∀ w92 : World, ∀ L93 : List Nat, (X.Hid [] w w92) →
 (X.NewL w.heap.size [] w w92 L93) →
 X.CallX Tryz.prog 117 #[(.agg #[.int .u8 a_25, .int .u16 a_26])] w92 fun e94 w95 =>
 ∃ b96 : Bool, (e94 = .returned (.bool b96)) ∧
 (X.Kept L93 w92 w95) ∧
 R (.returned (.bool b96)) w95
 else
 ∀ w91 : World, (X.Hid [] w w91) →
 R (.returned (.bool false)) w91
 else
 if (a_0 == 13) = true then
 ∀ w86 : World, ∀ L87 : List Nat, (X.Hid [] w w86) →
 (X.NewL w.heap.size [] w w86 L87) →
 X.CallX Tryz.prog 117 #[(.agg #[.int .u8 a_25, .int .u16 a_26])] w86 fun e88 w89 =>
 ∃ b90 : Bool, (e88 = .returned (.bool b90)) ∧
 (X.Kept L87 w86 w89) ∧
 R (.returned (.bool b90)) w89
 else
 ∀ w85 : World, (X.Hid [] w w85) →
 R (.returned (.bool false)) w85
 else
 if (a_0 == 6) = true then
 if (a_0 == 6) = true then
 ∀ w84 : World, (X.Hid [] w w84) →
 R (.returned (.bool (decide (a_3 > 0) && decide (a_7 > 0)))) w84
 else
 if (a_0 == 8) = true then
 if ((decide (a_3 > 0) && decide (a_7 > 0)) == true) = true then
 ∀ w76 : World, ∀ L77 : List Nat, (X.Hid [] w w76) →
 (X.NewL w.heap.size [] w w76 L77) →
 X.CallX Tryz.prog 115 #[.slice a_29 a_29l a_29c, .int .u8 a_1] w76 fun e78 w79 =>
 ∃ b80 : Bool, (e78 = .returned (.bool b80)) ∧
 (X.Kept L77 w76 w79) ∧
 if ((true && b80) == true) = true then
 if ((!a_27) == false) = true then
 if ((decide (a_8 > 0)) == true) = true then
 X.CallX Tryz.prog 116 #[(.agg #[.int .u8 a_0, .int .u8 a_1, .int .u8 a_2, .int .u32 a_3, .int .u32 a_4, .int .u32 a_5, .int .u32 a_6, .int .u64 a_7, .int .u64 a_8, .int .u8 a_9, .int .u16 a_10, .int .u32 a_11, .int .u8 a_12, .int .u8 a_13, .int .u8 a_14, .int .u8 a_15, .int .u8 a_16, .int .u8 a_17, .int .u8 a_18, .slice a_19 a_19l a_19c, .int .u8 a_20, .string a_21, .int .u8 a_22, .int .u32 a_23, .slice a_24 a_24l a_24c, .int .u8 a_25, .int .u16 a_26, .bool a_27, .slice a_28 a_28l a_28c, .slice a_29 a_29l a_29c, .slice a_30 a_30l a_30c])] w79 fun e81 w82 =>
 ∃ b83 : Bool, (e81 = .returned (.bool b83)) ∧
 (X.Kept L77 w79 w82) ∧
 R (.returned (.bool (true && (false || (true && b83))))) w82
 else
 R (.returned (.bool false)) w79
 else
 R (.returned (.bool true)) w79
 else
 R (.returned (.bool false)) w79
 else
 ∀ w75 : World, (X.Hid [] w w75) →
 R (.returned (.bool false)) w75
 else
 if (a_0 == 9) = true then
 if ((decide (a_3 > 0) && decide (a_7 > 0)) == true) = true then
 ∀ w70 : World, ∀ L71 : List Nat, (X.Hid [] w w70) →
 (X.NewL w.heap.size [] w w70 L71) →
 X.CallX Tryz.prog 116 #[(.agg #[.int .u8 a_0, .int .u8 a_1, .int .u8 a_2, .int .u32 a_3, .int .u32 a_4, .int .u32 a_5, .int .u32 a_6, .int .u64 a_7, .int .u64 a_8, .int .u8 a_9, .int .u16 a_10, .int .u32 a_11, .int .u8 a_12, .int .u8 a_13, .int .u8 a_14, .int .u8 a_15, .int .u8 a_16, .int .u8 a_17, .int .u8 a_18, .slice a_19 a_19l a_19c, .int .u8 a_20, .string a_21, .int .u8 a_22, .int .u32 a_23, .slice a_24 a_24l a_24c, .int .u8 a_25, .int .u16 a_26, .bool a_27, .slice a_28 a_28l a_28c, .slice a_29 a_29l a_29c, .slice a_30 a_30l a_30c])] w70 fun e72 w73 =>
 ∃ b74 : Bool, (e72 = .returned (.bool b74)) ∧
 (X.Kept L71 w70 w73) ∧
 R (.returned (.bool (true && b74))) w73
 else
 ∀ w69 : World, (X.Hid [] w w69) →
 R (.returned (.bool false)) w69
 else
 if (a_0 == 10) = true then
 ∀ w61 : World, ∀ L62 : List Nat, (X.Hid [] w w61) →
 (X.NewL w.heap.size [] w w61 L62) →
 X.CallX Tryz.prog 114 #[(.agg #[.int .u8 a_22, .int .u32 a_23, .slice a_24 a_24l a_24c])] w61 fun e63 w64 =>
 ∃ b65 : Bool, (e63 = .returned (.bool b65)) ∧
 (X.Kept L62 w61 w64) ∧
 if (b65 == true) = true then
 X.CallX Tryz.prog 115 #[.slice a_29 a_29l a_29c, .int .u8 a_22] w64 fun e66 w67 =>
 ∃ b68 : Bool, (e66 = .returned (.bool b68)) ∧
 (X.Kept L62 w64 w67) ∧
 R (.returned (.bool (true && b68))) w67
 else
 R (.returned (.bool false)) w64
 else
 if (a_0 == 11) = true then
 if (a_0 == 11) = true then
 ∀ w56 : World, ∀ L57 : List Nat, (X.Hid [] w w56) →
 (X.NewL w.heap.size [] w w56 L57) →
 X.CallX Tryz.prog 117 #[(.agg #[.int .u8 a_25, .int .u16 a_26])] w56 fun e58 w59 =>
 ∃ b60 : Bool, (e58 = .returned (.bool b60)) ∧
 (X.Kept L57 w56 w59) ∧
 R (.returned (.bool b60)) w59
 else
 ∀ w55 : World, (X.Hid [] w w55) →
 R (.returned (.bool false)) w55
 else
 if (a_0 == 12) = true then
 if (a_0 == 12) = true then
 ∀ w50 : World, ∀ L51 : List Nat, (X.Hid [] w w50) →
 (X.NewL w.heap.size [] w w50 L51) →
 X.CallX Tryz.prog 117 #[(.agg #[.int .u8 a_25, .int .u16 a_26])] w50 fun e52 w53 =>
 ∃ b54 : Bool, (e52 = .returned (.bool b54)) ∧
 (X.Kept L51 w50 w53) ∧
 R (.returned (.bool b54)) w53
 else
 ∀ w49 : World, (X.Hid [] w w49) →
 R (.returned (.bool false)) w49
 else
 if (a_0 == 13) = true then
 ∀ w44 : World, ∀ L45 : List Nat, (X.Hid [] w w44) →
 (X.NewL w.heap.size [] w w44 L45) →
 X.CallX Tryz.prog 117 #[(.agg #[.int .u8 a_25, .int .u16 a_26])] w44 fun e46 w47 =>
 ∃ b48 : Bool, (e46 = .returned (.bool b48)) ∧
 (X.Kept L45 w44 w47) ∧
 R (.returned (.bool b48)) w47
 else
 ∀ w43 : World, (X.Hid [] w w43) →
 R (.returned (.bool false)) w43
 else
 if (a_0 == 7) = true then
 ∀ w42 : World, (X.Hid [] w w42) →
 R (.returned (.bool (decide (a_3 > 0) && decide (a_7 > 0)))) w42
 else
 if (a_0 == 8) = true then
 if ((decide (a_3 > 0) && decide (a_7 > 0)) == true) = true then
 ∀ w34 : World, ∀ L35 : List Nat, (X.Hid [] w w34) →
 (X.NewL w.heap.size [] w w34 L35) →
 X.CallX Tryz.prog 115 #[.slice a_29 a_29l a_29c, .int .u8 a_1] w34 fun e36 w37 =>
 ∃ b38 : Bool, (e36 = .returned (.bool b38)) ∧
 (X.Kept L35 w34 w37) ∧
 if ((true && b38) == true) = true then
 if ((!a_27) == false) = true then
 if ((decide (a_8 > 0)) == true) = true then
 X.CallX Tryz.prog 116 #[(.agg #[.int .u8 a_0, .int .u8 a_1, .int .u8 a_2, .int .u32 a_3, .int .u32 a_4, .int .u32 a_5, .int .u32 a_6, .int .u64 a_7, .int .u64 a_8, .int .u8 a_9, .int .u16 a_10, .int .u32 a_11, .int .u8 a_12, .int .u8 a_13, .int .u8 a_14, .int .u8 a_15, .int .u8 a_16, .int .u8 a_17, .int .u8 a_18, .slice a_19 a_19l a_19c, .int .u8 a_20, .string a_21, .int .u8 a_22, .int .u32 a_23, .slice a_24 a_24l a_24c, .int .u8 a_25, .int .u16 a_26, .bool a_27, .slice a_28 a_28l a_28c, .slice a_29 a_29l a_29c, .slice a_30 a_30l a_30c])] w37 fun e39 w40 =>
 ∃ b41 : Bool, (e39 = .returned (.bool b41)) ∧
 (X.Kept L35 w37 w40) ∧
 R (.returned (.bool (true && (false || (true && b41))))) w40
 else
 R (.returned (.bool false)) w37
 else
 R (.returned (.bool true)) w37
 else
 R (.returned (.bool false)) w37
 else
 ∀ w33 : World, (X.Hid [] w w33) →
 R (.returned (.bool false)) w33
 else
 if (a_0 == 9) = true then
 if ((decide (a_3 > 0) && decide (a_7 > 0)) == true) = true then
 ∀ w28 : World, ∀ L29 : List Nat, (X.Hid [] w w28) →
 (X.NewL w.heap.size [] w w28 L29) →
 X.CallX Tryz.prog 116 #[(.agg #[.int .u8 a_0, .int .u8 a_1, .int .u8 a_2, .int .u32 a_3, .int .u32 a_4, .int .u32 a_5, .int .u32 a_6, .int .u64 a_7, .int .u64 a_8, .int .u8 a_9, .int .u16 a_10, .int .u32 a_11, .int .u8 a_12, .int .u8 a_13, .int .u8 a_14, .int .u8 a_15, .int .u8 a_16, .int .u8 a_17, .int .u8 a_18, .slice a_19 a_19l a_19c, .int .u8 a_20, .string a_21, .int .u8 a_22, .int .u32 a_23, .slice a_24 a_24l a_24c, .int .u8 a_25, .int .u16 a_26, .bool a_27, .slice a_28 a_28l a_28c, .slice a_29 a_29l a_29c, .slice a_30 a_30l a_30c])] w28 fun e30 w31 =>
 ∃ b32 : Bool, (e30 = .returned (.bool b32)) ∧
 (X.Kept L29 w28 w31) ∧
 R (.returned (.bool (true && b32))) w31
 else
 ∀ w27 : World, (X.Hid [] w w27) →
 R (.returned (.bool false)) w27
 else
 if (a_0 == 10) = true then
 ∀ w19 : World, ∀ L20 : List Nat, (X.Hid [] w w19) →
 (X.NewL w.heap.size [] w w19 L20) →
 X.CallX Tryz.prog 114 #[(.agg #[.int .u8 a_22, .int .u32 a_23, .slice a_24 a_24l a_24c])] w19 fun e21 w22 =>
 ∃ b23 : Bool, (e21 = .returned (.bool b23)) ∧
 (X.Kept L20 w19 w22) ∧
 if (b23 == true) = true then
 X.CallX Tryz.prog 115 #[.slice a_29 a_29l a_29c, .int .u8 a_22] w22 fun e24 w25 =>
 ∃ b26 : Bool, (e24 = .returned (.bool b26)) ∧
 (X.Kept L20 w22 w25) ∧
 R (.returned (.bool (true && b26))) w25
 else
 R (.returned (.bool false)) w22
 else
 if (a_0 == 11) = true then
 if (a_0 == 11) = true then
 ∀ w14 : World, ∀ L15 : List Nat, (X.Hid [] w w14) →
 (X.NewL w.heap.size [] w w14 L15) →
 X.CallX Tryz.prog 117 #[(.agg #[.int .u8 a_25, .int .u16 a_26])] w14 fun e16 w17 =>
 ∃ b18 : Bool, (e16 = .returned (.bool b18)) ∧
 (X.Kept L15 w14 w17) ∧
 R (.returned (.bool b18)) w17
 else
 ∀ w13 : World, (X.Hid [] w w13) →
 R (.returned (.bool false)) w13
 else
 if (a_0 == 12) = true then
 if (a_0 == 12) = true then
 ∀ w8 : World, ∀ L9 : List Nat, (X.Hid [] w w8) →
 (X.NewL w.heap.size [] w w8 L9) →
 X.CallX Tryz.prog 117 #[(.agg #[.int .u8 a_25, .int .u16 a_26])] w8 fun e10 w11 =>
 ∃ b12 : Bool, (e10 = .returned (.bool b12)) ∧
 (X.Kept L9 w8 w11) ∧
 R (.returned (.bool b12)) w11
 else
 ∀ w7 : World, (X.Hid [] w w7) →
 R (.returned (.bool false)) w7
 else
 if (a_0 == 13) = true then
 ∀ w2 : World, ∀ L3 : List Nat, (X.Hid [] w w2) →
 (X.NewL w.heap.size [] w w2 L3) →
 X.CallX Tryz.prog 117 #[(.agg #[.int .u8 a_25, .int .u16 a_26])] w2 fun e4 w5 =>
 ∃ b6 : Bool, (e4 = .returned (.bool b6)) ∧
 (X.Kept L3 w2 w5) ∧
 R (.returned (.bool b6)) w5
 else
 ∀ w1 : World, (X.Hid [] w w1) →
 R (.returned (.bool false)) w1) :
 Calls Tryz.prog 57 #[.agg #[.int .u8 a_0, .int .u8 a_1, .int .u8 a_2, .int .u32 a_3, .int .u32 a_4, .int .u32 a_5, .int .u32 a_6, .int .u64 a_7, .int .u64 a_8, .int .u8 a_9, .int .u16 a_10, .int .u32 a_11, .int .u8 a_12, .int .u8 a_13, .int .u8 a_14, .int .u8 a_15, .int .u8 a_16, .int .u8 a_17, .int .u8 a_18, .slice a_19 a_19l a_19c, .int .u8 a_20, .string a_21, .int .u8 a_22, .int .u32 a_23, .slice a_24 a_24l a_24c, .int .u8 a_25, .int .u16 a_26, .bool a_27, .slice a_28 a_28l a_28c, .slice a_29 a_29l a_29c, .slice a_30 a_30l a_30c]] w R :=
 X.calls_of { isLoc := [1], sym := [], loops := [], joins := [] } Tryz.func57 (by kernel_rfl) h
theorem x_mOnly (a_0 a_1 a_2 a_3 a_4 a_5 a_6 a_7 a_8 a_9 a_10 a_11 a_12 a_13 a_14 a_15 a_16 a_17 a_18 : Int) (a_19 : Option Addr) (a_19l a_19c : Nat) (a_20 : Int) (a_21 : ByteArray) (a_22 a_23 : Int) (a_24 : Option Addr) (a_24l a_24c : Nat) (a_25 a_26 : Int) (a_27 : Bool) (a_28 : Option Addr) (a_28l a_28c : Nat) (a_29 : Option Addr) (a_29l a_29c : Nat) (a_30 : Option Addr) (a_30l a_30c : Nat) (w : World) (R : Ending → World → Prop) (h :
 if (a_0 == 0) = true then
 ∃ x44 : X.Facts, (X.FactsW x44 w []) ∧
 ∀ w45 : World, (X.Hid [] w w45) →
 R (.returned (.agg #[.int .u8 a_0, .int .u8 a_1, .int .u8 0, .int .u32 0, .int .u32 0, .int .u32 0, .int .u32 a_6, .int .u64 0, .int .u64 0, .int .u8 a_9, .int .u16 a_10, .int .u32 a_11, .int .u8 a_12, .int .u8 a_13, .int .u8 a_14, .int .u8 a_15, .int .u8 a_16, .int .u8 a_17, .int .u8 a_18, .slice a_19 a_19l a_19c, .int .u8 0, .string (ByteArray.mk #[]), .int .u8 0, .int .u32 0, .slice none 0 0, .int .u8 0, .int .u16 0, .bool false, .slice none 0 0, .slice none 0 0, .slice none 0 0])) w45
 else
 if (a_0 == 1) = true then
 ∀ w43 : World, (X.Hid [] w w43) →
 R (.returned (.agg #[.int .u8 a_0, .int .u8 0, .int .u8 0, .int .u32 0, .int .u32 0, .int .u32 0, .int .u32 0, .int .u64 0, .int .u64 0, .int .u8 a_9, .int .u16 a_10, .int .u32 a_11, .int .u8 a_12, .int .u8 a_13, .int .u8 a_14, .int .u8 a_15, .int .u8 a_16, .int .u8 a_17, .int .u8 a_18, .slice none 0 0, .int .u8 a_20, .string a_21, .int .u8 a_22, .int .u32 a_23, .slice a_24 a_24l a_24c, .int .u8 0, .int .u16 0, .bool false, .slice none 0 0, .slice none 0 0, .slice none 0 0])) w43
 else
 if (a_0 == 2) = true then
 ∀ w42 : World, (X.Hid [] w w42) →
 R (.returned (.agg #[.int .u8 a_0, .int .u8 0, .int .u8 a_2, .int .u32 0, .int .u32 0, .int .u32 0, .int .u32 0, .int .u64 0, .int .u64 0, .int .u8 a_9, .int .u16 a_10, .int .u32 a_11, .int .u8 a_12, .int .u8 a_13, .int .u8 a_14, .int .u8 a_15, .int .u8 a_16, .int .u8 a_17, .int .u8 a_18, .slice none 0 0, .int .u8 0, .string (ByteArray.mk #[]), .int .u8 0, .int .u32 0, .slice none 0 0, .int .u8 0, .int .u16 0, .bool false, .slice none 0 0, .slice none 0 0, .slice none 0 0])) w42
 else
 if (a_0 == 3) = true then
 ∃ x39 : X.Facts, (X.FactsW x39 w []) ∧
 ∃ x40 : X.Facts, (X.FactsW x40 w []) ∧
 ∀ w41 : World, (X.Hid [] w w41) →
 R (.returned (.agg #[.int .u8 a_0, .int .u8 a_1, .int .u8 0, .int .u32 a_3, .int .u32 a_4, .int .u32 a_5, .int .u32 0, .int .u64 0, .int .u64 0, .int .u8 0, .int .u16 0, .int .u32 0, .int .u8 0, .int .u8 0, .int .u8 0, .int .u8 0, .int .u8 0, .int .u8 0, .int .u8 0, .slice none 0 0, .int .u8 0, .string (ByteArray.mk #[]), .int .u8 0, .int .u32 0, .slice none 0 0, .int .u8 0, .int .u16 0, .bool false, .slice none 0 0, .slice a_29 a_29l a_29c, .slice none 0 0])) w41
 else
 if (a_0 == 4) = true then
 ∃ x37 : X.Facts, (X.FactsW x37 w []) ∧
 ∀ w38 : World, (X.Hid [] w w38) →
 R (.returned (.agg #[.int .u8 a_0, .int .u8 a_1, .int .u8 0, .int .u32 a_3, .int .u32 a_4, .int .u32 0, .int .u32 0, .int .u64 0, .int .u64 0, .int .u8 0, .int .u16 0, .int .u32 0, .int .u8 0, .int .u8 0, .int .u8 0, .int .u8 0, .int .u8 0, .int .u8 0, .int .u8 0, .slice none 0 0, .int .u8 0, .string (ByteArray.mk #[]), .int .u8 0, .int .u32 0, .slice none 0 0, .int .u8 0, .int .u16 0, .bool false, .slice none 0 0, .slice none 0 0, .slice none 0 0])) w38
 else
 if (a_0 == 8) = true then
 ∃ x31 : X.Facts, (X.FactsW x31 w []) ∧
 if a_27 = true then
 ∃ x34 : X.Facts, (X.FactsW x34 w []) ∧
 ∃ x35 : X.Facts, (X.FactsW x35 w []) ∧
 ∀ w36 : World, (X.Hid [] w w36) →
 R (.returned (.agg #[.int .u8 a_0, .int .u8 a_1, .int .u8 0, .int .u32 a_3, .int .u32 0, .int .u32 0, .int .u32 0, .int .u64 a_7, .int .u64 a_8, .int .u8 0, .int .u16 0, .int .u32 0, .int .u8 0, .int .u8 0, .int .u8 0, .int .u8 0, .int .u8 0, .int .u8 0, .int .u8 0, .slice none 0 0, .int .u8 0, .string (ByteArray.mk #[]), .int .u8 0, .int .u32 0, .slice none 0 0, .int .u8 0, .int .u16 0, .bool a_27, .slice a_28 a_28l a_28c, .slice a_29 a_29l a_29c, .slice a_30 a_30l a_30c])) w36
 else
 ∃ x32 : X.Facts, (X.FactsW x32 w []) ∧
 ∀ w33 : World, (X.Hid [] w w33) →
 R (.returned (.agg #[.int .u8 a_0, .int .u8 a_1, .int .u8 0, .int .u32 a_3, .int .u32 0, .int .u32 0, .int .u32 0, .int .u64 a_7, .int .u64 0, .int .u8 0, .int .u16 0, .int .u32 0, .int .u8 0, .int .u8 0, .int .u8 0, .int .u8 0, .int .u8 0, .int .u8 0, .int .u8 0, .slice none 0 0, .int .u8 0, .string (ByteArray.mk #[]), .int .u8 0, .int .u32 0, .slice none 0 0, .int .u8 0, .int .u16 0, .bool a_27, .slice none 0 0, .slice a_29 a_29l a_29c, .slice none 0 0])) w33
 else
 if (a_0 == 9) = true then
 ∃ x28 : X.Facts, (X.FactsW x28 w []) ∧
 ∃ x29 : X.Facts, (X.FactsW x29 w []) ∧
 ∀ w30 : World, (X.Hid [] w w30) →
 R (.returned (.agg #[.int .u8 a_0, .int .u8 a_1, .int .u8 0, .int .u32 a_3, .int .u32 0, .int .u32 0, .int .u32 0, .int .u64 a_7, .int .u64 0, .int .u8 0, .int .u16 0, .int .u32 0, .int .u8 0, .int .u8 0, .int .u8 0, .int .u8 0, .int .u8 0, .int .u8 0, .int .u8 0, .slice none 0 0, .int .u8 0, .string (ByteArray.mk #[]), .int .u8 0, .int .u32 0, .slice none 0 0, .int .u8 0, .int .u16 0, .bool false, .slice a_28 a_28l a_28c, .slice none 0 0, .slice a_30 a_30l a_30c])) w30
 else
 if (a_0 == 5) = true then
 if (a_0 == 5) = true then
 ∃ x26 : X.Facts, (X.FactsW x26 w []) ∧
 ∀ w27 : World, (X.Hid [] w w27) →
 R (.returned (.agg #[.int .u8 a_0, .int .u8 a_1, .int .u8 0, .int .u32 a_3, .int .u32 0, .int .u32 0, .int .u32 0, .int .u64 a_7, .int .u64 0, .int .u8 0, .int .u16 0, .int .u32 0, .int .u8 0, .int .u8 0, .int .u8 0, .int .u8 0, .int .u8 0, .int .u8 0, .int .u8 0, .slice none 0 0, .int .u8 0, .string (ByteArray.mk #[]), .int .u8 0, .int .u32 0, .slice none 0 0, .int .u8 0, .int .u16 0, .bool false, .slice none 0 0, .slice none 0 0, .slice none 0 0])) w27
 else
 if (a_0 == 10) = true then
 ∀ w25 : World, (X.Hid [] w w25) →
 R (.returned (.agg #[.int .u8 a_0, .int .u8 0, .int .u8 0, .int .u32 0, .int .u32 0, .int .u32 0, .int .u32 0, .int .u64 0, .int .u64 0, .int .u8 0, .int .u16 0, .int .u32 0, .int .u8 0, .int .u8 0, .int .u8 0, .int .u8 0, .int .u8 0, .int .u8 0, .int .u8 0, .slice none 0 0, .int .u8 0, .string (ByteArray.mk #[]), .int .u8 a_22, .int .u32 a_23, .slice a_24 a_24l a_24c, .int .u8 0, .int .u16 0, .bool false, .slice none 0 0, .slice a_29 a_29l a_29c, .slice none 0 0])) w25
 else
 if (a_0 == 11) = true then
 if (a_0 == 11) = true then
 ∀ w24 : World, (X.Hid [] w w24) →
 R (.returned (.agg #[.int .u8 a_0, .int .u8 a_1, .int .u8 0, .int .u32 0, .int .u32 0, .int .u32 0, .int .u32 0, .int .u64 0, .int .u64 0, .int .u8 0, .int .u16 0, .int .u32 0, .int .u8 0, .int .u8 0, .int .u8 0, .int .u8 0, .int .u8 0, .int .u8 0, .int .u8 0, .slice none 0 0, .int .u8 0, .string (ByteArray.mk #[]), .int .u8 0, .int .u32 0, .slice none 0 0, .int .u8 a_25, .int .u16 a_26, .bool false, .slice none 0 0, .slice none 0 0, .slice none 0 0])) w24
 else
 ∀ w23 : World, (X.Hid [] w w23) →
 R (.returned (.agg #[.int .u8 a_0, .int .u8 a_1, .int .u8 0, .int .u32 0, .int .u32 0, .int .u32 0, .int .u32 0, .int .u64 0, .int .u64 0, .int .u8 0, .int .u16 0, .int .u32 0, .int .u8 0, .int .u8 0, .int .u8 0, .int .u8 0, .int .u8 0, .int .u8 0, .int .u8 0, .slice none 0 0, .int .u8 0, .string (ByteArray.mk #[]), .int .u8 0, .int .u32 0, .slice none 0 0, .int .u8 0, .int .u16 0, .bool false, .slice none 0 0, .slice none 0 0, .slice none 0 0])) w23
 else
 if (a_0 == 12) = true then
 if (a_0 == 12) = true then
 ∀ w22 : World, (X.Hid [] w w22) →
 R (.returned (.agg #[.int .u8 a_0, .int .u8 a_1, .int .u8 0, .int .u32 0, .int .u32 0, .int .u32 0, .int .u32 0, .int .u64 0, .int .u64 0, .int .u8 0, .int .u16 0, .int .u32 0, .int .u8 0, .int .u8 0, .int .u8 0, .int .u8 0, .int .u8 0, .int .u8 0, .int .u8 0, .slice none 0 0, .int .u8 0, .string (ByteArray.mk #[]), .int .u8 0, .int .u32 0, .slice none 0 0, .int .u8 a_25, .int .u16 a_26, .bool false, .slice none 0 0, .slice none 0 0, .slice none 0 0])) w22
 else
 ∀ w21 : World, (X.Hid [] w w21) →
 R (.returned (.agg #[.int .u8 a_0, .int .u8 a_1, .int .u8 0, .int .u32 0, .int .u32 0, .int .u32 0, .int .u32 0, .int .u64 0, .int .u64 0, .int .u8 0, .int .u16 0, .int .u32 0, .int .u8 0, .int .u8 0, .int .u8 0, .int .u8 0, .int .u8 0, .int .u8 0, .int .u8 0, .slice none 0 0, .int .u8 0, .string (ByteArray.mk #[]), .int .u8 0, .int .u32 0, .slice none 0 0, .int .u8 0, .int .u16 0, .bool false, .slice none 0 0, .slice none 0 0, .slice none 0 0])) w21
 else
 if (a_0 == 13) = true then
 ∀ w20 : World, (X.Hid [] w w20) →
 R (.returned (.agg #[.int .u8 a_0, .int .u8 a_1, .int .u8 0, .int .u32 0, .int .u32 0, .int .u32 0, .int .u32 0, .int .u64 0, .int .u64 0, .int .u8 0, .int .u16 0, .int .u32 0, .int .u8 0, .int .u8 0, .int .u8 0, .int .u8 0, .int .u8 0, .int .u8 0, .int .u8 0, .slice none 0 0, .int .u8 0, .string (ByteArray.mk #[]), .int .u8 0, .int .u32 0, .slice none 0 0, .int .u8 a_25, .int .u16 a_26, .bool false, .slice none 0 0, .slice none 0 0, .slice none 0 0])) w20
 else
 ∀ w19 : World, (X.Hid [] w w19) →
 R (.returned (.agg #[.int .u8 a_0, .int .u8 a_1, .int .u8 0, .int .u32 0, .int .u32 0, .int .u32 0, .int .u32 0, .int .u64 0, .int .u64 0, .int .u8 0, .int .u16 0, .int .u32 0, .int .u8 0, .int .u8 0, .int .u8 0, .int .u8 0, .int .u8 0, .int .u8 0, .int .u8 0, .slice none 0 0, .int .u8 0, .string (ByteArray.mk #[]), .int .u8 0, .int .u32 0, .slice none 0 0, .int .u8 0, .int .u16 0, .bool false, .slice none 0 0, .slice none 0 0, .slice none 0 0])) w19
 else
 if (a_0 == 6) = true then
 if (a_0 == 6) = true then
 ∃ x17 : X.Facts, (X.FactsW x17 w []) ∧
 ∀ w18 : World, (X.Hid [] w w18) →
 R (.returned (.agg #[.int .u8 a_0, .int .u8 a_1, .int .u8 0, .int .u32 a_3, .int .u32 0, .int .u32 0, .int .u32 0, .int .u64 a_7, .int .u64 0, .int .u8 0, .int .u16 0, .int .u32 0, .int .u8 0, .int .u8 0, .int .u8 0, .int .u8 0, .int .u8 0, .int .u8 0, .int .u8 0, .slice none 0 0, .int .u8 0, .string (ByteArray.mk #[]), .int .u8 0, .int .u32 0, .slice none 0 0, .int .u8 0, .int .u16 0, .bool false, .slice none 0 0, .slice none 0 0, .slice none 0 0])) w18
 else
 if (a_0 == 10) = true then
 ∀ w16 : World, (X.Hid [] w w16) →
 R (.returned (.agg #[.int .u8 a_0, .int .u8 0, .int .u8 0, .int .u32 0, .int .u32 0, .int .u32 0, .int .u32 0, .int .u64 0, .int .u64 0, .int .u8 0, .int .u16 0, .int .u32 0, .int .u8 0, .int .u8 0, .int .u8 0, .int .u8 0, .int .u8 0, .int .u8 0, .int .u8 0, .slice none 0 0, .int .u8 0, .string (ByteArray.mk #[]), .int .u8 a_22, .int .u32 a_23, .slice a_24 a_24l a_24c, .int .u8 0, .int .u16 0, .bool false, .slice none 0 0, .slice a_29 a_29l a_29c, .slice none 0 0])) w16
 else
 if (a_0 == 11) = true then
 if (a_0 == 11) = true then
 ∀ w15 : World, (X.Hid [] w w15) →
 R (.returned (.agg #[.int .u8 a_0, .int .u8 a_1, .int .u8 0, .int .u32 0, .int .u32 0, .int .u32 0, .int .u32 0, .int .u64 0, .int .u64 0, .int .u8 0, .int .u16 0, .int .u32 0, .int .u8 0, .int .u8 0, .int .u8 0, .int .u8 0, .int .u8 0, .int .u8 0, .int .u8 0, .slice none 0 0, .int .u8 0, .string (ByteArray.mk #[]), .int .u8 0, .int .u32 0, .slice none 0 0, .int .u8 a_25, .int .u16 a_26, .bool false, .slice none 0 0, .slice none 0 0, .slice none 0 0])) w15
 else
 ∀ w14 : World, (X.Hid [] w w14) →
 R (.returned (.agg #[.int .u8 a_0, .int .u8 a_1, .int .u8 0, .int .u32 0, .int .u32 0, .int .u32 0, .int .u32 0, .int .u64 0, .int .u64 0, .int .u8 0, .int .u16 0, .int .u32 0, .int .u8 0, .int .u8 0, .int .u8 0, .int .u8 0, .int .u8 0, .int .u8 0, .int .u8 0, .slice none 0 0, .int .u8 0, .string (ByteArray.mk #[]), .int .u8 0, .int .u32 0, .slice none 0 0, .int .u8 0, .int .u16 0, .bool false, .slice none 0 0, .slice none 0 0, .slice none 0 0])) w14
 else
 if (a_0 == 12) = true then
 if (a_0 == 12) = true then
 ∀ w13 : World, (X.Hid [] w w13) →
 R (.returned (.agg #[.int .u8 a_0, .int .u8 a_1, .int .u8 0, .int .u32 0, .int .u32 0, .int .u32 0, .int .u32 0, .int .u64 0, .int .u64 0, .int .u8 0, .int .u16 0, .int .u32 0, .int .u8 0, .int .u8 0, .int .u8 0, .int .u8 0, .int .u8 0, .int .u8 0, .int .u8 0, .slice none 0 0, .int .u8 0, .string (ByteArray.mk #[]), .int .u8 0, .int .u32 0, .slice none 0 0, .int .u8 a_25, .int .u16 a_26, .bool false, .slice none 0 0, .slice none 0 0, .slice none 0 0])) w13
 else
 ∀ w12 : World, (X.Hid [] w w12) →
 R (.returned (.agg #[.int .u8 a_0, .int .u8 a_1, .int .u8 0, .int .u32 0, .int .u32 0, .int .u32 0, .int .u32 0, .int .u64 0, .int .u64 0, .int .u8 0, .int .u16 0, .int .u32 0, .int .u8 0, .int .u8 0, .int .u8 0, .int .u8 0, .int .u8 0, .int .u8 0, .int .u8 0, .slice none 0 0, .int .u8 0, .string (ByteArray.mk #[]), .int .u8 0, .int .u32 0, .slice none 0 0, .int .u8 0, .int .u16 0, .bool false, .slice none 0 0, .slice none 0 0, .slice none 0 0])) w12
 else
 if (a_0 == 13) = true then
 ∀ w11 : World, (X.Hid [] w w11) →
 R (.returned (.agg #[.int .u8 a_0, .int .u8 a_1, .int .u8 0, .int .u32 0, .int .u32 0, .int .u32 0, .int .u32 0, .int .u64 0, .int .u64 0, .int .u8 0, .int .u16 0, .int .u32 0, .int .u8 0, .int .u8 0, .int .u8 0, .int .u8 0, .int .u8 0, .int .u8 0, .int .u8 0, .slice none 0 0, .int .u8 0, .string (ByteArray.mk #[]), .int .u8 0, .int .u32 0, .slice none 0 0, .int .u8 a_25, .int .u16 a_26, .bool false, .slice none 0 0, .slice none 0 0, .slice none 0 0])) w11
 else
 ∀ w10 : World, (X.Hid [] w w10) →
 R (.returned (.agg #[.int .u8 a_0, .int .u8 a_1, .int .u8 0, .int .u32 0, .int .u32 0, .int .u32 0, .int .u32 0, .int .u64 0, .int .u64 0, .int .u8 0, .int .u16 0, .int .u32 0, .int .u8 0, .int .u8 0, .int .u8 0, .int .u8 0, .int .u8 0, .int .u8 0, .int .u8 0, .slice none 0 0, .int .u8 0, .string (ByteArray.mk #[]), .int .u8 0, .int .u32 0, .slice none 0 0, .int .u8 0, .int .u16 0, .bool false, .slice none 0 0, .slice none 0 0, .slice none 0 0])) w10
 else
 if (a_0 == 7) = true then
 ∃ x8 : X.Facts, (X.FactsW x8 w []) ∧
 ∀ w9 : World, (X.Hid [] w w9) →
 R (.returned (.agg #[.int .u8 a_0, .int .u8 a_1, .int .u8 0, .int .u32 a_3, .int .u32 0, .int .u32 0, .int .u32 0, .int .u64 a_7, .int .u64 0, .int .u8 0, .int .u16 0, .int .u32 0, .int .u8 0, .int .u8 0, .int .u8 0, .int .u8 0, .int .u8 0, .int .u8 0, .int .u8 0, .slice none 0 0, .int .u8 0, .string (ByteArray.mk #[]), .int .u8 0, .int .u32 0, .slice none 0 0, .int .u8 0, .int .u16 0, .bool false, .slice none 0 0, .slice none 0 0, .slice none 0 0])) w9
 else
 if (a_0 == 10) = true then
 ∀ w7 : World, (X.Hid [] w w7) →
 R (.returned (.agg #[.int .u8 a_0, .int .u8 0, .int .u8 0, .int .u32 0, .int .u32 0, .int .u32 0, .int .u32 0, .int .u64 0, .int .u64 0, .int .u8 0, .int .u16 0, .int .u32 0, .int .u8 0, .int .u8 0, .int .u8 0, .int .u8 0, .int .u8 0, .int .u8 0, .int .u8 0, .slice none 0 0, .int .u8 0, .string (ByteArray.mk #[]), .int .u8 a_22, .int .u32 a_23, .slice a_24 a_24l a_24c, .int .u8 0, .int .u16 0, .bool false, .slice none 0 0, .slice a_29 a_29l a_29c, .slice none 0 0])) w7
 else
 if (a_0 == 11) = true then
 if (a_0 == 11) = true then
 ∀ w6 : World, (X.Hid [] w w6) →
 R (.returned (.agg #[.int .u8 a_0, .int .u8 a_1, .int .u8 0, .int .u32 0, .int .u32 0, .int .u32 0, .int .u32 0, .int .u64 0, .int .u64 0, .int .u8 0, .int .u16 0, .int .u32 0, .int .u8 0, .int .u8 0, .int .u8 0, .int .u8 0, .int .u8 0, .int .u8 0, .int .u8 0, .slice none 0 0, .int .u8 0, .string (ByteArray.mk #[]), .int .u8 0, .int .u32 0, .slice none 0 0, .int .u8 a_25, .int .u16 a_26, .bool false, .slice none 0 0, .slice none 0 0, .slice none 0 0])) w6
 else
 ∀ w5 : World, (X.Hid [] w w5) →
 R (.returned (.agg #[.int .u8 a_0, .int .u8 a_1, .int .u8 0, .int .u32 0, .int .u32 0, .int .u32 0, .int .u32 0, .int .u64 0, .int .u64 0, .int .u8 0, .int .u16 0, .int .u32 0, .int .u8 0, .int .u8 0, .int .u8 0, .int .u8 0, .int .u8 0, .int .u8 0, .int .u8 0, .slice none 0 0, .int .u8 0, .string (ByteArray.mk #[]), .int .u8 0, .int .u32 0, .slice none 0 0, .int .u8 0, .int .u16 0, .bool false, .slice none 0 0, .slice none 0 0, .slice none 0 0])) w5
 else
 if (a_0 == 12) = true then
 if (a_0 == 12) = true then
 ∀ w4 : World, (X.Hid [] w w4) →
 R (.returned (.agg #[.int .u8 a_0, .int .u8 a_1, .int .u8 0, .int .u32 0, .int .u32 0, .int .u32 0, .int .u32 0, .int .u64 0, .int .u64 0, .int .u8 0, .int .u16 0, .int .u32 0, .int .u8 0, .int .u8 0, .int .u8 0, .int .u8 0, .int .u8 0, .int .u8 0, .int .u8 0, .slice none 0 0, .int .u8 0, .string (ByteArray.mk #[]), .int .u8 0, .int .u32 0, .slice none 0 0, .int .u8 a_25, .int .u16 a_26, .bool false, .slice none 0 0, .slice none 0 0, .slice none 0 0])) w4
 else
 ∀ w3 : World, (X.Hid [] w w3) →
 R (.returned (.agg #[.int .u8 a_0, .int .u8 a_1, .int .u8 0, .int .u32 0, .int .u32 0, .int .u32 0, .int .u32 0, .int .u64 0, .int .u64 0, .int .u8 0, .int .u16 0, .int .u32 0, .int .u8 0, .int .u8 0, .int .u8 0, .int .u8 0, .int .u8 0, .int .u8 0, .int .u8 0, .slice none 0 0, .int .u8 0, .string (ByteArray.mk #[]), .int .u8 0, .int .u32 0, .slice none 0 0, .int .u8 0, .int .u16 0, .bool false, .slice none 0 0, .slice none 0 0, .slice none 0 0])) w3
 else
 if (a_0 == 13) = true then
 ∀ w2 : World, (X.Hid [] w w2) →
 R (.returned (.agg #[.int .u8 a_0, .int .u8 a_1, .int .u8 0, .int .u32 0, .int .u32 0, .int .u32 0, .int .u32 0, .int .u64 0, .int .u64 0, .int .u8 0, .int .u16 0, .int .u32 0, .int .u8 0, .int .u8 0, .int .u8 0, .int .u8 0, .int .u8 0, .int .u8 0, .int .u8 0, .slice none 0 0, .int .u8 0, .string (ByteArray.mk #[]), .int .u8 0, .int .u32 0, .slice none 0 0, .int .u8 a_25, .int .u16 a_26, .bool false, .slice none 0 0, .slice none 0 0, .slice none 0 0])) w2
 else
 ∀ w1 : World, (X.Hid [] w w1) →
 R (.returned (.agg #[.int .u8 a_0, .int .u8 a_1, .int .u8 0, .int .u32 0, .int .u32 0, .int .u32 0, .int .u32 0, .int .u64 0, .int .u64 0, .int .u8 0, .int .u16 0, .int .u32 0, .int .u8 0, .int .u8 0, .int .u8 0, .int .u8 0, .int .u8 0, .int .u8 0, .int .u8 0, .slice none 0 0, .int .u8 0, .string (ByteArray.mk #[]), .int .u8 0, .int .u32 0, .slice none 0 0, .int .u8 0, .int .u16 0, .bool false, .slice none 0 0, .slice none 0 0, .slice none 0 0])) w1) :
 Calls Tryz.prog 58 #[.agg #[.int .u8 a_0, .int .u8 a_1, .int .u8 a_2, .int .u32 a_3, .int .u32 a_4, .int .u32 a_5, .int .u32 a_6, .int .u64 a_7, .int .u64 a_8, .int .u8 a_9, .int .u16 a_10, .int .u32 a_11, .int .u8 a_12, .int .u8 a_13, .int .u8 a_14, .int .u8 a_15, .int .u8 a_16, .int .u8 a_17, .int .u8 a_18, .slice a_19 a_19l a_19c, .int .u8 a_20, .string a_21, .int .u8 a_22, .int .u32 a_23, .slice a_24 a_24l a_24c, .int .u8 a_25, .int .u16 a_26, .bool a_27, .slice a_28 a_28l a_28c, .slice a_29 a_29l a_29c, .slice a_30 a_30l a_30c]] w R :=
 X.calls_of { isLoc := [1, 2, 3], sym := [], loops := [], joins := [], stored := [(17, [3]), (20, [3]), (21, [3]), (22, [3]), (24, [3]), (25, [3]), (26, [3]), (27, [3])] } Tryz.func58 (by kernel_rfl) h
end Go.Proofs
/- The verification conditions of this seat's functions, as the engine has them: printed by a program of the bench; checked by the kernel. -/
namespace Go.Proofs
open Go
theorem x_WB (a : Addr) (b : Int) (w : World) (R : Ending → World → Prop) (h :
 ∃ q1 : Option Addr, ∃ k2 k3 : Nat, (World.cell? w (a.add 0) = some (.slice q1 k2 k3)) ∧
 ∃ q4 : Option Addr, ∃ k5 k6 : Nat, ∃ w7 : World, (Sem.run Tryz.prog (Go.Builtin.append_ #[41, 41] 41 #[.slice q1 k2 k3, .slice (some ⟨w.heap.size, 0, none⟩) 1 1]) (w.alloc (.cells #[.int .u8 b] 5)) = .ok (.slice q4 k5 k6) w7) ∧
 (((w.alloc (.cells #[.int .u8 b] 5))).heap.size ≤ w7.heap.size) ∧
 (((a.add 0).spot) = none) ∧
 (World.there w7 ((a.add 0).block) ((a.add 0).off) 1) ∧
 R (.returned (.tuple #[])) (w7.setCells ((a.add 0).block) ((a.add 0).off) [.slice q4 k5 k6])) :
 Calls Tryz.prog 20 #[.pointer (some a), .int .u8 b] w R :=
 X.calls_of { isLoc := [], sym := [], loops := [], joins := [] } Tryz.func20 (by kernel_rfl) h
theorem x_WU (a : Addr) (b : Int) (w : World) (R : Ending → World → Prop) (h :
 ∃ x1 : Int → World → List Nat → Prop, ∃ x2 : Int → World → Nat, (x1 b w []) ∧
 ∀ n3 : Int, ∀ w4 : World, ∀ L5 : List Nat, (X.LF w.heap.size w4 L5) →
 (x1 n3 w4 L5) →
 if (decide (n3 ≥ 128)) = true then
 ∃ q13 : Option Addr, ∃ k14 k15 : Nat, (World.cell? w4 (a.add 0) = some (.slice q13 k14 k15)) ∧
 ∃ q16 : Option Addr, ∃ k17 k18 : Nat, ∃ w19 : World, (Sem.run Tryz.prog (Go.Builtin.append_ #[41, 41] 41 #[.slice q13 k14 k15, .slice (some ⟨w4.heap.size, 0, none⟩) 1 1]) (w4.alloc (.cells #[(.int .u8 (IntKind.wrap .u8 ((((BitVec.ofInt 8 (IntKind.u8.wrap n3) ||| BitVec.ofInt 8 128).toNat) : Nat) : Int)))] 5)) = .ok (.slice q16 k17 k18) w19) ∧
 (((w4.alloc (.cells #[(.int .u8 (IntKind.wrap .u8 ((((BitVec.ofInt 8 (IntKind.u8.wrap n3) ||| BitVec.ofInt 8 128).toNat) : Nat) : Int)))] 5))).heap.size ≤ w19.heap.size) ∧
 (((a.add 0).spot) = none) ∧
 (World.there w19 ((a.add 0).block) ((a.add 0).off) 1) ∧
 (x1 (n3.fdiv 128) (w19.setCells ((a.add 0).block) ((a.add 0).off) [.slice q16 k17 k18]) []) ∧
 Nat.le ((x2 (n3.fdiv 128) (w19.setCells ((a.add 0).block) ((a.add 0).off) [.slice q16 k17 k18])) + 1) (x2 n3 w4)
 else
 ∃ q6 : Option Addr, ∃ k7 k8 : Nat, (World.cell? w4 (a.add 0) = some (.slice q6 k7 k8)) ∧
 ∃ q9 : Option Addr, ∃ k10 k11 : Nat, ∃ w12 : World, (Sem.run Tryz.prog (Go.Builtin.append_ #[41, 41] 41 #[.slice q6 k7 k8, .slice (some ⟨w4.heap.size, 0, none⟩) 1 1]) (w4.alloc (.cells #[.int .u8 (IntKind.wrap .u8 n3)] 5)) = .ok (.slice q9 k10 k11) w12) ∧
 (((w4.alloc (.cells #[.int .u8 (IntKind.wrap .u8 n3)] 5))).heap.size ≤ w12.heap.size) ∧
 (((a.add 0).spot) = none) ∧
 (World.there w12 ((a.add 0).block) ((a.add 0).off) 1) ∧
 R (.returned (.tuple #[])) (w12.setCells ((a.add 0).block) ((a.add 0).off) [.slice q9 k10 k11])) :
 Calls Tryz.prog 60 #[.pointer (some a), .int .u64 b] w R :=
 X.calls_of { isLoc := [], sym := [], loops := [(1, .inv [(1, .int .u64)] [] true)], joins := [] } Tryz.func60 (by kernel_rfl) h
theorem x_WText (a : Addr) (b : ByteArray) (w : World) (R : Ending → World → Prop) (h :
 X.CallX Tryz.prog 60 #[.pointer (some a), (.int .u64 (IntKind.wrap .u64 (((b.size) : Nat) : Int)))] w fun e1 w2 =>
 (e1 = .returned (.tuple #[])) ∧
 (w.heap.size ≤ w2.heap.size) ∧
 ∃ q3 : Option Addr, ∃ k4 k5 : Nat, (World.cell? w2 (a.add 0) = some (.slice q3 k4 k5)) ∧
 ∃ q6 : Option Addr, ∃ k7 k8 : Nat, ∃ w9 : World, (Sem.run Tryz.prog (Go.Builtin.append_ #[41, 9] 41 #[.slice q3 k4 k5, .string b]) w2 = .ok (.slice q6 k7 k8) w9) ∧
 (w2.heap.size ≤ w9.heap.size) ∧
 (((a.add 0).spot) = none) ∧
 (World.there w9 ((a.add 0).block) ((a.add 0).off) 1) ∧
 R (.returned (.tuple #[])) (w9.setCells ((a.add 0).block) ((a.add 0).off) [.slice q6 k7 k8])) :
 Calls Tryz.prog 120 #[.pointer (some a), .string b] w R :=
 X.calls_of { isLoc := [], sym := [], loops := [], joins := [] } Tryz.func120 (by kernel_rfl) h
theorem x_WBytes (a : Addr) (w : World) (R : Ending → World → Prop) (h :
 ∃ q1 : Option Addr, ∃ k2 k3 : Nat, (World.cell? w (a.add 0) = some (.slice q1 k2 k3)) ∧
 ∃ q4 : Option Addr, ∃ k5 k6 : Nat, ∃ w7 : World, (Sem.run Tryz.prog (Go.Builtin.append_ #[41, 41] 41 #[.slice none 0 0, .slice q1 k2 k3]) w = .ok (.slice q4 k5 k6) w7) ∧
 (w.heap.size ≤ w7.heap.size) ∧
 R (.returned (.slice q4 k5 k6)) w7) :
 Calls Tryz.prog 22 #[.pointer (some a)] w R :=
 X.calls_of { isLoc := [], sym := [], loops := [], joins := [] } Tryz.func22 (by kernel_rfl) h
theorem x_Wflag (a : Addr) (b : Bool) (w : World) (R : Ending → World → Prop) (h :
 if b = true then
 X.CallX Tryz.prog 20 #[(.pointer (some (a.add 0))), .int .u8 1] w fun e3 w4 =>
 (e3 = .returned (.tuple #[])) ∧
 (w.heap.size ≤ w4.heap.size) ∧
 R (.returned (.tuple #[])) w4
 else
 X.CallX Tryz.prog 20 #[(.pointer (some (a.add 0))), .int .u8 0] w fun e1 w2 =>
 (e1 = .returned (.tuple #[])) ∧
 (w.heap.size ≤ w2.heap.size) ∧
 R (.returned (.tuple #[])) w2) :
 Calls Tryz.prog 66 #[.pointer (some a), .bool b] w R :=
 X.calls_of { isLoc := [], sym := [], loops := [], joins := [] } Tryz.func66 (by kernel_rfl) h
theorem x_Wround (a : Addr) (b_0 b_1 b_2 b_3 b_4 b_5 b_6 b_7 b_8 b_9 b_10 b_11 b_12 b_13 b_14 b_15 b_16 b_17 b_18 : Int) (b_19 : Option Addr) (b_19l b_19c : Nat) (b_20 : Int) (b_21 : ByteArray) (b_22 b_23 : Int) (b_24 : Option Addr) (b_24l b_24c : Nat) (b_25 b_26 : Int) (b_27 : Bool) (b_28 : Option Addr) (b_28l b_28c : Nat) (b_29 : Option Addr) (b_29l b_29c : Nat) (b_30 : Option Addr) (b_30l b_30c : Nat) (w : World) (R : Ending → World → Prop) (h :
 ∃ x1 : X.Facts, (X.FactsW x1 w []) ∧
 ∀ w2 : World, ∀ L3 : List Nat, (X.Hid [] w w2) →
 (X.NewL w.heap.size [] w w2 L3) →
 X.CallX Tryz.prog 20 #[(.pointer (some (a.add 0))), .int .u8 b_1] w2 fun e4 w5 =>
 (e4 = .returned (.tuple #[])) ∧
 (X.Kept L3 w2 w5) ∧
 ∃ x6 : X.Facts, (X.FactsW x6 w5 L3) ∧
 ∀ w7 : World, ∀ L8 : List Nat, (X.Hid L3 w5 w7) →
 (X.NewL w.heap.size L3 w5 w7 L8) →
 X.CallX Tryz.prog 60 #[(.pointer (some (a.add 0))), .int .u64 (IntKind.wrap .u64 b_3)] w7 fun e9 w10 =>
 (e9 = .returned (.tuple #[])) ∧
 (X.Kept L8 w7 w10) ∧
 (X.FactsW x6 w10 L8) ∧
 ∃ x11 : X.Facts, (X.FactsW x11 w10 L8) ∧
 ∀ w12 : World, ∀ L13 : List Nat, (X.Hid L8 w10 w12) →
 (X.NewL w.heap.size L8 w10 w12 L13) →
 X.CallX Tryz.prog 60 #[(.pointer (some (a.add 0))), .int .u64 b_7] w12 fun e14 w15 =>
 (e14 = .returned (.tuple #[])) ∧
 (X.Kept L13 w12 w15) ∧
 R (.returned (.tuple #[])) w15) :
 Calls Tryz.prog 65 #[.pointer (some a), .agg #[.int .u8 b_0, .int .u8 b_1, .int .u8 b_2, .int .u32 b_3, .int .u32 b_4, .int .u32 b_5, .int .u32 b_6, .int .u64 b_7, .int .u64 b_8, .int .u8 b_9, .int .u16 b_10, .int .u32 b_11, .int .u8 b_12, .int .u8 b_13, .int .u8 b_14, .int .u8 b_15, .int .u8 b_16, .int .u8 b_17, .int .u8 b_18, .slice b_19 b_19l b_19c, .int .u8 b_20, .string b_21, .int .u8 b_22, .int .u32 b_23, .slice b_24 b_24l b_24c, .int .u8 b_25, .int .u16 b_26, .bool b_27, .slice b_28 b_28l b_28c, .slice b_29 b_29l b_29c, .slice b_30 b_30l b_30c]] w R :=
 X.calls_of { isLoc := [3], sym := [], loops := [], joins := [] } Tryz.func65 (by kernel_rfl) h
theorem x_PutProc (a : Addr) (b_0 b_1 : Int) (w : World) (R : Ending → World → Prop) (h :
 ∀ w1 : World, ∀ L2 : List Nat, (X.Hid [] w w1) →
 (X.NewL w.heap.size [] w w1 L2) →
 X.CallX Tryz.prog 20 #[.pointer (some a), .int .u8 b_0] w1 fun e3 w4 =>
 (e3 = .returned (.tuple #[])) ∧
 (X.Kept L2 w1 w4) ∧
 X.CallX Tryz.prog 60 #[.pointer (some a), .int .u64 (IntKind.wrap .u64 b_1)] w4 fun e5 w6 =>
 (e5 = .returned (.tuple #[])) ∧
 (X.Kept L2 w4 w6) ∧
 R (.returned (.tuple #[])) w6) :
 Calls Tryz.prog 68 #[.pointer (some a), .agg #[.int .u8 b_0, .int .u16 b_1]] w R :=
 X.calls_of { isLoc := [3], sym := [], loops := [], joins := [] } Tryz.func68 (by kernel_rfl) h
theorem x_Bytes (a_0 a_1 a_2 a_3 a_4 a_5 a_6 a_7 a_8 a_9 a_10 a_11 a_12 a_13 a_14 a_15 a_16 a_17 a_18 : Int) (a_19 : Option Addr) (a_19l a_19c : Nat) (a_20 : Int) (a_21 : ByteArray) (a_22 a_23 : Int) (a_24 : Option Addr) (a_24l a_24c : Nat) (a_25 a_26 : Int) (a_27 : Bool) (a_28 : Option Addr) (a_28l a_28c : Nat) (a_29 : Option Addr) (a_29l a_29c : Nat) (a_30 : Option Addr) (a_30l a_30c : Nat) (w : World) (R : Ending → World → Prop) (h :
 ∀ w1 : World, ∀ L2 : List Nat, (X.Hid [] w w1) →
 (X.NewL w.heap.size [] w w1 L2) →
 X.CallX Tryz.prog 19 #[(.agg #[.int .u8 a_0, .int .u8 a_1, .int .u8 a_2, .int .u32 a_3, .int .u32 a_4, .int .u32 a_5, .int .u32 a_6, .int .u64 a_7, .int .u64 a_8, .int .u8 a_9, .int .u16 a_10, .int .u32 a_11, .int .u8 a_12, .int .u8 a_13, .int .u8 a_14, .int .u8 a_15, .int .u8 a_16, .int .u8 a_17, .int .u8 a_18, .slice a_19 a_19l a_19c, .int .u8 a_20, .string a_21, .int .u8 a_22, .int .u32 a_23, .slice a_24 a_24l a_24c, .int .u8 a_25, .int .u16 a_26, .bool a_27, .slice a_28 a_28l a_28c, .slice a_29 a_29l a_29c, .slice a_30 a_30l a_30c])] w1 fun e3 w4 =>
 ∃ b5 : Bool, (e3 = .returned (.bool b5)) ∧
 (X.Kept L2 w1 w4) ∧
 if (!b5) = true then
 R (.returned (.tuple #[.slice none 0 0, .int .i64 1])) w4
 else
 ∃ x6 : X.Facts, (X.FactsW x6 (w4.alloc (.cells #[.slice none 0 0] 79)) L2) ∧
 ∀ w7 : World, ∀ L8 : List Nat, (X.Hid L2 (w4.alloc (.cells #[.slice none 0 0] 79)) w7) →
 (X.NewL w.heap.size L2 (w4.alloc (.cells #[.slice none 0 0] 79)) w7 L8) →
 X.CallX Tryz.prog 20 #[.pointer (some ⟨w4.heap.size, 0, none⟩), .int .u8 a_0] w7 fun e9 w10 =>
 (e9 = .returned (.tuple #[])) ∧
 (X.Kept L8 w7 w10) ∧
 X.CallX Tryz.prog 21 #[.pointer (some ⟨w4.heap.size, 0, none⟩), (.agg #[.int .u8 a_0, .int .u8 a_1, .int .u8 a_2, .int .u32 a_3, .int .u32 a_4, .int .u32 a_5, .int .u32 a_6, .int .u64 a_7, .int .u64 a_8, .int .u8 a_9, .int .u16 a_10, .int .u32 a_11, .int .u8 a_12, .int .u8 a_13, .int .u8 a_14, .int .u8 a_15, .int .u8 a_16, .int .u8 a_17, .int .u8 a_18, .slice a_19 a_19l a_19c, .int .u8 a_20, .string a_21, .int .u8 a_22, .int .u32 a_23, .slice a_24 a_24l a_24c, .int .u8 a_25, .int .u16 a_26, .bool a_27, .slice a_28 a_28l a_28c, .slice a_29 a_29l a_29c, .slice a_30 a_30l a_30c])] w10 fun e11 w12 =>
 (e11 = .returned (.tuple #[])) ∧
 (X.Kept L8 w10 w12) ∧
 X.CallX Tryz.prog 22 #[.pointer (some ⟨w4.heap.size, 0, none⟩)] w12 fun e13 w14 =>
 ∃ q15 : Option Addr, ∃ k16 k17 : Nat, (e13 = .returned (.slice q15 k16 k17)) ∧
 (X.Kept L8 w12 w14) ∧
 R (.returned (.tuple #[.slice q15 k16 k17, .int .i64 0])) w14) :
 Calls Tryz.prog 7 #[.agg #[.int .u8 a_0, .int .u8 a_1, .int .u8 a_2, .int .u32 a_3, .int .u32 a_4, .int .u32 a_5, .int .u32 a_6, .int .u64 a_7, .int .u64 a_8, .int .u8 a_9, .int .u16 a_10, .int .u32 a_11, .int .u8 a_12, .int .u8 a_13, .int .u8 a_14, .int .u8 a_15, .int .u8 a_16, .int .u8 a_17, .int .u8 a_18, .slice a_19 a_19l a_19c, .int .u8 a_20, .string a_21, .int .u8 a_22, .int .u32 a_23, .slice a_24 a_24l a_24c, .int .u8 a_25, .int .u16 a_26, .bool a_27, .slice a_28 a_28l a_28c, .slice a_29 a_29l a_29c, .slice a_30 a_30l a_30c]] w R :=
 X.calls_of { isLoc := [1], sym := [], loops := [], joins := [] } Tryz.func7 (by kernel_rfl) h
theorem x_knows  (w : World) (R : Ending → World → Prop) (h :
 X.CallX Tryz.prog 7 #[(.agg #[.int .u8 6, .int .u8 1, .int .u8 0, .int .u32 2, .int .u32 0, .int .u32 0, .int .u32 0, .int .u64 300, .int .u64 0, .int .u8 0, .int .u16 0, .int .u32 0, .int .u8 0, .int .u8 0, .int .u8 0, .int .u8 0, .int .u8 0, .int .u8 0, .int .u8 0, .slice none 0 0, .int .u8 0, .string (ByteArray.mk #[]), .int .u8 0, .int .u32 0, .slice none 0 0, .int .u8 0, .int .u16 0, .bool false, .slice none 0 0, .slice none 0 0, .slice none 0 0])] w fun e1 w2 =>
 ∃ q3 : Option Addr, ∃ k4 k5 : Nat, ∃ n6 : Int, (e1 = .returned (.tuple #[.slice q3 k4 k5, .int .i64 n6])) ∧
 (w.heap.size ≤ w2.heap.size) ∧
 X.CallX Tryz.prog 12 #[.int .i64 n6] w2 fun e7 w8 =>
 ∃ n9 : Int, (e7 = .returned (.int .i64 n9)) ∧
 (w2.heap.size ≤ w8.heap.size) ∧
 if ((n9 == 0) == true) = true then
 ∃ s10 : ByteArray, ∃ w11 : World, (Sem.run Tryz.prog (Go.convert 41 9 (.slice q3 k4 k5)) w8 = .ok (.string s10) w11) ∧
 (w8.heap.size ≤ w11.heap.size) ∧
 if ((true && ((s10.toList) == ((ByteArray.mk #[OfNat.ofNat 6, OfNat.ofNat 1, OfNat.ofNat 2, OfNat.ofNat 172, OfNat.ofNat 2]).toList))) == true) = true then
 X.CallX Tryz.prog 18 #[.int .u8 6] w11 fun e12 w13 =>
 ∃ s14 : ByteArray, (e12 = .returned (.string s14)) ∧
 (w11.heap.size ≤ w13.heap.size) ∧
 R (.returned (.bool (true && ((s14.toList) == ((ByteArray.mk #[OfNat.ofNat 65, OfNat.ofNat 99, OfNat.ofNat 99, OfNat.ofNat 101, OfNat.ofNat 112, OfNat.ofNat 116]).toList))))) w13
 else
 R (.returned (.bool false)) w11
 else
 R (.returned (.bool false)) w8) :
 Calls Tryz.prog 6 #[] w R :=
 X.calls_of { isLoc := [], sym := [], loops := [], joins := [] } Tryz.func6 (by kernel_rfl) h
theorem x_num (a : Int) (w : World) (R : Ending → World → Prop) (h :
 R (.returned (.int .i64 a)) w) :
 Calls Tryz.prog 12 #[.int .i64 a] w R :=
 X.calls_of { isLoc := [], sym := [], loops := [], joins := [] } Tryz.func12 (by kernel_rfl) h
end Go.Proofs
