import Derived.Test.YtjphfelmaingjaaGreatXFn
import Derived.Test.YtjphfelmaingjaaGreatProg
set_option maxRecDepth 100000
set_option linter.unusedVariables false
namespace Go.Proofs
open Go
/- rows of a message, an entry, an identity -/
abbrev MgW (a0 : Int) (a1 : Int) (a2 : Int) (a3 : Int) (a4 : Int) (a5 : Int) (a6 : Int) (a7 : Int) (a8 : Int) (a9 : Int) (a10 : Int) (a11 : Int) (a12 : Int) (a13 : Int) (a14 : Int) (a15 : Int) (a16 : Int) (a17 : Int) (a18 : Int) (a19 : Option Addr) (b19 c19 : Nat) (a20 : Int) (a21 : ByteArray) (a22 : Int) (a23 : Int) (a24 : Option Addr) (b24 c24 : Nat) (a25 : Int) (a26 : Int) (a27 : Bool) (a28 : Option Addr) (b28 c28 : Nat) (a29 : Option Addr) (b29 c29 : Nat) (a30 : Option Addr) (b30 c30 : Nat) : Value := .agg #[.int .u8 a0, .int .u8 a1, .int .u8 a2, .int .u32 a3, .int .u32 a4, .int .u32 a5, .int .u32 a6, .int .u64 a7, .int .u64 a8, .int .u8 a9, .int .u16 a10, .int .u32 a11, .int .u8 a12, .int .u8 a13, .int .u8 a14, .int .u8 a15, .int .u8 a16, .int .u8 a17, .int .u8 a18, .slice a19 b19 c19, .int .u8 a20, .string a21, .int .u8 a22, .int .u32 a23, .slice a24 b24 c24, .int .u8 a25, .int .u16 a26, .bool a27, .slice a28 b28 c28, .slice a29 b29 c29, .slice a30 b30 c30]
abbrev EnW (a0 : Int) (a1 : Int) (a2 : Int) (a3 : Int) (a4 : Int) (a5 : Int) (a6 : Int) (a7 : Int) (a8 : Int) (a9 : Int) (a10 : Int) (a11 : Int) (a12 : Option Addr) (b12 c12 : Nat) (a13 : Int) (a14 : ByteArray) (a15 : Option Addr) (b15 c15 : Nat) (a16 : Int) (a17 : Int) : Value := .agg #[.int .u8 a0, .int .u8 a1, .int .u16 a2, .int .u32 a3, .int .u8 a4, .int .u8 a5, .int .u8 a6, .int .u8 a7, .int .u8 a8, .int .u8 a9, .int .u8 a10, .int .u32 a11, .slice a12 b12 c12, .int .u8 a13, .string a14, .slice a15 b15 c15, .int .u8 a16, .int .u16 a17]
abbrev IdW (a0 : Int) (a1 : Int) (a2 : Int) (a3 : Int) (a4 : Int) (a5 : Int) (a6 : Int) (a7 : Int) (a8 : Int) (a9 : Int) : Value := .agg #[.int .u8 a0, .int .u16 a1, .int .u32 a2, .int .u8 a3, .int .u8 a4, .int .u8 a5, .int .u8 a6, .int .u8 a7, .int .u8 a8, .int .u8 a9]
end Go.Proofs
/- The verification conditions of this seat's functions, as the engine has them: printed by a program of the bench; checked by the kernel. -/
namespace Go.Proofs
open Go X
theorem x_gemotlaw02_Proc (a_0 a_1 : Int) (w : World) (R : Ending → World → Prop) (h :
 ∀ w1, Hid [] w w1 →
 R (.returned (.agg #[.int .u8 a_0, .int .u16 a_1])) w1) :
 Calls Tryz.prog 27 #[.agg #[.int .u8 a_0, .int .u16 a_1]] w R :=
 calls_of { isLoc := [1, 2], sym := [], loops := [], joins := [] } Tryz.func27 (by kernel_rfl) h
theorem x_gemotlaw02_ID (a_0 a_1 a_2 a_3 a_4 a_5 a_6 a_7 a_8 a_9 : Int) (w : World) (R : Ending → World → Prop) (h :
 ∃ x1, (FactsW x1 w []) ∧
 (∀ w2 L3, Hid [] w w2 →
 NewL w.heap.size [] w w2 L3 →
 CallX Tryz.prog 27 #[(.agg #[.int .u8 a_0, .int .u16 a_1])] w2 fun e4 w5 =>
 ∃ n6 n7, e4 = .returned (.agg #[.int .u8 n6, .int .u16 n7]) ∧
 Kept L3 w2 w5 ∧
 FactsW x1 w5 L3 ∧
 ∃ x8, (FactsW x8 w5 L3) ∧
 ∃ x9, (FactsW x9 w5 L3) ∧
 ∃ x10, (FactsW x10 w5 L3) ∧
 ∀ w11, Hid L3 w5 w11 →
 R (.returned (IdW n6 n7 a_2 a_3 a_4 a_5 a_6 a_7 a_8 a_9)) w11) ∧
 ∀ w12 L13, Hid [] w w12 →
 NewL w.heap.size [] w w12 L13 →
 CallX Tryz.prog 27 #[(.agg #[.int .u8 a_0, .int .u16 a_1])] w12 fun e14 w15 =>
 ∃ n16 n17, e14 = .returned (.agg #[.int .u8 n16, .int .u16 n17]) ∧
 Kept L13 w12 w15 ∧
 FactsW x1 w15 L13 ∧
 ∃ x18, (FactsW x18 w15 L13) ∧
 ∃ x19, (FactsW x19 w15 L13) ∧
 ∃ x20, (FactsW x20 w15 L13) ∧
 ∀ w21, Hid L13 w15 w21 →
 R (.returned (IdW n16 n17 a_2 a_3 a_4 a_5 a_6 a_7 a_8 a_9)) w21) :
 Calls Tryz.prog 23 #[.agg #[.int .u8 a_0, .int .u16 a_1, .int .u32 a_2, .int .u8 a_3, .int .u8 a_4, .int .u8 a_5, .int .u8 a_6, .int .u8 a_7, .int .u8 a_8, .int .u8 a_9]] w R :=
 calls_of { isLoc := [1, 2, 3], sym := [], loops := [(3, .unroll 4)], joins := [], stored := [(1, [3]), (5, [3])] } Tryz.func23 (by kernel_rfl) h
theorem x_gemotlaw03_Res (a_0 : Int) (a_1 : ByteArray) (w : World) (R : Ending → World → Prop) (h :
 ∀ w1, Hid [] w w1 →
 R (.returned (.agg #[.int .u8 a_0, .string a_1])) w1) :
 Calls Tryz.prog 25 #[.agg #[.int .u8 a_0, .string a_1]] w R :=
 calls_of { isLoc := [1, 2], sym := [], loops := [], joins := [] } Tryz.func25 (by kernel_rfl) h
theorem x_Part (a_0 a_1 : Int) (a_2 a_3 : ByteArray) (a_4 : Int) (w : World) (R : Ending → World → Prop) (h :
 ∀ w1, Hid [] w w1 →
 R (.returned (.agg #[.int .u8 a_0, .int .u8 a_1, .string a_2, .string a_3, .int .i64 a_4])) w1) :
 Calls Tryz.prog 69 #[.agg #[.int .u8 a_0, .int .u8 a_1, .string a_2, .string a_3, .int .i64 a_4]] w R :=
 calls_of { isLoc := [1, 2], sym := [], loops := [], joins := [] } Tryz.func69 (by kernel_rfl) h
theorem x_Parts (a : Option Addr) (al ac : Nat) (w : World) (R : Ending → World → Prop) (h :
 ∃ x1 : Option Addr → Nat → Nat → Int → World → List Nat → Prop, ∃ x2 : Option Addr → Nat → Nat → Int → World → Nat, (x1 none 0 0 0 w []) ∧
 ∀ q3 k4 k5 n6 w7 L8, (LF w.heap.size w7 L8) →
 (x1 q3 k4 k5 n6 w7 L8) →
 if (decide (n6 < ((al : Nat) : Int))) = true then
 ((0 : Int) ≤ n6) ∧
 (n6 < ((al : Nat) : Int)) ∧
 onSome a fun p9 =>
 ∃ n10 n11 s12 s13 n14, (Cells w7 (p9.add ((n6).toNat * 5)) [.int .u8 n10, .int .u8 n11, .string s12, .string s13, .int .i64 n14]) ∧
 CallX Tryz.prog 69 #[(.agg #[.int .u8 n10, .int .u8 n11, .string s12, .string s13, .int .i64 n14])] w7 fun e15 w16 =>
 ∃ n17 n18 s19 s20 n21, e15 = .returned (.agg #[.int .u8 n17, .int .u8 n18, .string s19, .string s20, .int .i64 n21]) ∧
 w7.heap.size ≤ w16.heap.size ∧
 ∃ q22 k23 k24 w25, (Sem.run Tryz.prog (Go.Builtin.append_ #[52, 52] 52 #[.slice q3 k4 k5, .slice (some ⟨w16.heap.size, 0, none⟩) 1 1]) (w16.alloc (.cells #[.int .u8 n17, .int .u8 n18, .string s19, .string s20, .int .i64 n21] 138)) = .ok (.slice q22 k23 k24) w25) ∧
 (((w16.alloc (.cells #[.int .u8 n17, .int .u8 n18, .string s19, .string s20, .int .i64 n21] 138))).heap.size ≤ w25.heap.size) ∧
 (x1 q22 k23 k24 (IntKind.wrap .i64 (n6 + 1)) w25 []) ∧
 Nat.le ((x2 q22 k23 k24 (IntKind.wrap .i64 (n6 + 1)) w25) + 1) (x2 q3 k4 k5 n6 w7)
 else
 R (.returned (.slice q3 k4 k5)) w7) :
 Calls Tryz.prog 24 #[.slice a al ac] w R :=
 calls_of { isLoc := [], sym := [], loops := [(3, .inv [(3, .slice), (4, .int .i64)] [] true)], joins := [] } Tryz.func24 (by kernel_rfl) h
theorem x_OwnW (a : Option Addr) (al ac : Nat) (w : World) (R : Ending → World → Prop) (h :
 ∃ x1 : Option Addr → Nat → Nat → Int → World → List Nat → Prop, ∃ x2 : Option Addr → Nat → Nat → Int → World → Nat, (x1 none 0 0 0 w []) ∧
 ∀ q3 k4 k5 n6 w7 L8, (LF w.heap.size w7 L8) →
 (x1 q3 k4 k5 n6 w7 L8) →
 if (decide (n6 < ((al : Nat) : Int))) = true then
 ∃ x9, (FactsW x9 w7 []) ∧
 ((0 : Int) ≤ n6) ∧
 (n6 < ((al : Nat) : Int)) ∧
 onSome a fun p10 =>
 ∃ s11, ((((p10.add ((n6).toNat * 3)).add 0), [.string s11]) ∈ x9) ∧
 ((0 : Int) ≤ n6) ∧
 (n6 < ((al : Nat) : Int)) ∧
 onSome a fun p12 =>
 ∃ s13, ((((p12.add ((n6).toNat * 3)).add 1), [.string s13]) ∈ x9) ∧
 ((0 : Int) ≤ n6) ∧
 (n6 < ((al : Nat) : Int)) ∧
 onSome a fun p14 =>
 ∃ b15, ((((p14.add ((n6).toNat * 3)).add 2), [.bool b15]) ∈ x9) ∧
 ∀ w16, Hid [] w7 w16 →
 (FactsW x9 (w16.alloc (.cells #[.string s11, .string s13, .bool b15] 214)) []) ∧
 ∃ q17 k18 k19 w20, (Sem.run Tryz.prog (Go.Builtin.append_ #[140, 140] 140 #[.slice q3 k4 k5, .slice (some ⟨w16.heap.size, 0, none⟩) 1 1]) (w16.alloc (.cells #[.string s11, .string s13, .bool b15] 214)) = .ok (.slice q17 k18 k19) w20) ∧
 (((w16.alloc (.cells #[.string s11, .string s13, .bool b15] 214))).heap.size ≤ w20.heap.size) ∧
 FactsW x9 w20 [] ∧
 (x1 q17 k18 k19 (IntKind.wrap .i64 (n6 + 1)) w20 []) ∧
 Nat.le ((x2 q17 k18 k19 (IntKind.wrap .i64 (n6 + 1)) w20) + 1) (x2 q3 k4 k5 n6 w7)
 else
 R (.returned (.slice q3 k4 k5)) w7) :
 Calls Tryz.prog 123 #[.slice a al ac] w R :=
 calls_of { isLoc := [], sym := [], loops := [(3, .inv [(3, .slice), (4, .int .i64)] [] true)], joins := [] } Tryz.func123 (by kernel_rfl) h
theorem x_OwnE (a_0 a_1 a_2 a_3 a_4 a_5 a_6 a_7 a_8 a_9 a_10 a_11 : Int) (a_12 : Option Addr) (a_12l a_12c : Nat) (a_13 : Int) (a_14 : ByteArray) (a_15 : Option Addr) (a_15l a_15c : Nat) (a_16 a_17 : Int) (w : World) (R : Ending → World → Prop) (h :
 ∃ x1, (FactsW x1 w []) ∧
 ∀ w2 L3, Hid [] w w2 →
 NewL w.heap.size [] w w2 L3 →
 CallX Tryz.prog 23 #[(IdW a_1 a_2 a_3 a_4 a_5 a_6 a_7 a_8 a_9 a_10)] w2 fun e4 w5 =>
 ∃ n6 n7 n8 n9 n10 n11 n12 n13 n14 n15, e4 = .returned (IdW n6 n7 n8 n9 n10 n11 n12 n13 n14 n15) ∧
 Kept L3 w2 w5 ∧
 FactsW x1 w5 L3 ∧
 CallX Tryz.prog 24 #[.slice a_12 a_12l a_12c] w5 fun e16 w17 =>
 ∃ q18 k19 k20, e16 = .returned (.slice q18 k19 k20) ∧
 Kept L3 w5 w17 ∧
 FactsW x1 w17 L3 ∧
 CallX Tryz.prog 25 #[(.agg #[.int .u8 a_13, .string a_14])] w17 fun e21 w22 =>
 ∃ n23 s24, e21 = .returned (.agg #[.int .u8 n23, .string s24]) ∧
 Kept L3 w17 w22 ∧
 FactsW x1 w22 L3 ∧
 CallX Tryz.prog 123 #[.slice a_15 a_15l a_15c] w22 fun e25 w26 =>
 ∃ q27 k28 k29, e25 = .returned (.slice q27 k28 k29) ∧
 Kept L3 w22 w26 ∧
 FactsW x1 w26 L3 ∧
 CallX Tryz.prog 27 #[(.agg #[.int .u8 a_16, .int .u16 a_17])] w26 fun e30 w31 =>
 ∃ n32 n33, e30 = .returned (.agg #[.int .u8 n32, .int .u16 n33]) ∧
 Kept L3 w26 w31 ∧
 FactsW x1 w31 L3 ∧
 ∀ w34, Hid L3 w31 w34 →
 R (.returned (EnW a_0 n6 n7 n8 n9 n10 n11 n12 n13 n14 n15 a_11 q18 k19 k20 n23 s24 q27 k28 k29 n32 n33)) w34) :
 Calls Tryz.prog 70 #[.agg #[.int .u8 a_0, .int .u8 a_1, .int .u16 a_2, .int .u32 a_3, .int .u8 a_4, .int .u8 a_5, .int .u8 a_6, .int .u8 a_7, .int .u8 a_8, .int .u8 a_9, .int .u8 a_10, .int .u32 a_11, .slice a_12 a_12l a_12c, .int .u8 a_13, .string a_14, .slice a_15 a_15l a_15c, .int .u8 a_16, .int .u16 a_17]] w R :=
 calls_of { isLoc := [1, 2], sym := [], loops := [], joins := [], stored := [(1, [2])] } Tryz.func70 (by kernel_rfl) h
theorem x_EqualP (a : Option Addr) (al ac : Nat) (b : Option Addr) (bl bc : Nat) (w : World) (R : Ending → World → Prop) (h :
 if (((al : Nat) : Int) != ((bl : Nat) : Int)) = true then
 R (.returned (.bool false)) w
 else
 ∃ x1 : Int → World → List Nat → Prop, ∃ x2 : Int → World → Nat, (x1 0 w []) ∧
 ∀ n3 w4 L5, (LF w.heap.size w4 L5) →
 (x1 n3 w4 L5) →
 if (decide (n3 < ((al : Nat) : Int))) = true then
 ((0 : Int) ≤ n3) ∧
 (n3 < ((al : Nat) : Int)) ∧
 onSome a fun p6 =>
 ∃ n7 n8 s9 s10 n11, (Cells w4 (p6.add ((n3).toNat * 5)) [.int .u8 n7, .int .u8 n8, .string s9, .string s10, .int .i64 n11]) ∧
 ((0 : Int) ≤ n3) ∧
 (n3 < ((bl : Nat) : Int)) ∧
 onSome b fun p12 =>
 ∃ n13 n14 s15 s16 n17, (Cells w4 (p12.add ((n3).toNat * 5)) [.int .u8 n13, .int .u8 n14, .string s15, .string s16, .int .i64 n17]) ∧
 if (!((n7 == n13) && ((n8 == n14) && ((s9 == s15) && ((s10 == s16) && (n11 == n17)))))) = true then
 ∀ w19, Hid [] w4 w19 →
 R (.returned (.bool false)) w19
 else
 ∀ w18, Hid [] w4 w18 →
 (x1 (IntKind.wrap .i64 (n3 + 1)) w18 []) ∧
 Nat.le ((x2 (IntKind.wrap .i64 (n3 + 1)) w18) + 1) (x2 n3 w4)
 else
 R (.returned (.bool true)) w4) :
 Calls Tryz.prog 108 #[.slice a al ac, .slice b bl bc] w R :=
 calls_of { isLoc := [], sym := [], loops := [(4, .inv [(13, .int .i64)] [] true)], joins := [] } Tryz.func108 (by kernel_rfl) h
theorem x_EqualW (a : Option Addr) (al ac : Nat) (b : Option Addr) (bl bc : Nat) (w : World) (R : Ending → World → Prop) (h :
 if (((al : Nat) : Int) != ((bl : Nat) : Int)) = true then
 R (.returned (.bool false)) w
 else
 ∃ x1 : Int → World → List Nat → Prop, ∃ x2 : Int → World → Nat, (x1 0 w []) ∧
 ∀ n3 w4 L5, (LF w.heap.size w4 L5) →
 (x1 n3 w4 L5) →
 if (decide (n3 < ((al : Nat) : Int))) = true then
 ((0 : Int) ≤ n3) ∧
 (n3 < ((al : Nat) : Int)) ∧
 onSome a fun p6 =>
 ∃ s7 s8 b9, (Cells w4 (p6.add ((n3).toNat * 3)) [.string s7, .string s8, .bool b9]) ∧
 ((0 : Int) ≤ n3) ∧
 (n3 < ((bl : Nat) : Int)) ∧
 onSome b fun p10 =>
 ∃ s11 s12 b13, (Cells w4 (p10.add ((n3).toNat * 3)) [.string s11, .string s12, .bool b13]) ∧
 if (!((s7 == s11) && ((s8 == s12) && (b9 == b13)))) = true then
 ∀ w15, Hid [] w4 w15 →
 R (.returned (.bool false)) w15
 else
 ∀ w14, Hid [] w4 w14 →
 (x1 (IntKind.wrap .i64 (n3 + 1)) w14 []) ∧
 Nat.le ((x2 (IntKind.wrap .i64 (n3 + 1)) w14) + 1) (x2 n3 w4)
 else
 R (.returned (.bool true)) w4) :
 Calls Tryz.prog 147 #[.slice a al ac, .slice b bl bc] w R :=
 calls_of { isLoc := [], sym := [], loops := [(4, .inv [(13, .int .i64)] [] true)], joins := [] } Tryz.func147 (by kernel_rfl) h
theorem x_pSame (a : Option Addr) (al ac : Nat) (b : Option Addr) (bl bc : Nat) (w : World) (R : Ending → World → Prop) (h :
 CallX Tryz.prog 108 #[.slice a al ac, .slice b bl bc] w fun e1 w2 =>
 ∃ b3, e1 = .returned (.bool b3) ∧
 (w.heap.size ≤ w2.heap.size) ∧
 R (.returned (.bool b3)) w2) :
 Calls Tryz.prog 53 #[.slice a al ac, .slice b bl bc] w R :=
 calls_of { isLoc := [], sym := [], loops := [], joins := [] } Tryz.func53 (by kernel_rfl) h
theorem x_eSame (a_0 a_1 a_2 a_3 a_4 a_5 a_6 a_7 a_8 a_9 a_10 a_11 : Int) (a_12 : Option Addr) (a_12l a_12c : Nat) (a_13 : Int) (a_14 : ByteArray) (a_15 : Option Addr) (a_15l a_15c : Nat) (a_16 a_17 b_0 b_1 b_2 b_3 b_4 b_5 b_6 b_7 b_8 b_9 b_10 b_11 : Int) (b_12 : Option Addr) (b_12l b_12c : Nat) (b_13 : Int) (b_14 : ByteArray) (b_15 : Option Addr) (b_15l b_15c : Nat) (b_16 b_17 : Int) (w : World) (R : Ending → World → Prop) (h :
 if ((((a_0 == b_0) && (((a_1 == b_1) && (a_2 == b_2)) && ((a_3 == b_3) && ((a_4 == b_4) && (((a_5 == b_5) && (a_6 == b_6)) && (((a_7 == b_7) && (a_8 == b_8)) && ((a_9 == b_9) && (a_10 == b_10)))))))) && (a_11 == b_11)) == true) = true then
 ∀ w2 L3, Hid [] w w2 →
 NewL w.heap.size [] w w2 L3 →
 CallX Tryz.prog 53 #[.slice a_12 a_12l a_12c, .slice b_12 b_12l b_12c] w2 fun e4 w5 =>
 ∃ b6, e4 = .returned (.bool b6) ∧
 Kept L3 w2 w5 ∧
 if (((true && b6) && ((a_13 == b_13) && (a_14 == b_14))) == true) = true then
 CallX Tryz.prog 147 #[.slice a_15 a_15l a_15c, .slice b_15 b_15l b_15c] w5 fun e7 w8 =>
 ∃ b9, e7 = .returned (.bool b9) ∧
 Kept L3 w5 w8 ∧
 R (.returned (.bool ((true && b9) && ((a_16 == b_16) && (a_17 == b_17))))) w8
 else
 R (.returned (.bool (false && ((a_16 == b_16) && (a_17 == b_17))))) w5
 else
 ∀ w1, Hid [] w w1 →
 R (.returned (.bool (false && ((a_16 == b_16) && (a_17 == b_17))))) w1) :
 Calls Tryz.prog 110 #[.agg #[.int .u8 a_0, .int .u8 a_1, .int .u16 a_2, .int .u32 a_3, .int .u8 a_4, .int .u8 a_5, .int .u8 a_6, .int .u8 a_7, .int .u8 a_8, .int .u8 a_9, .int .u8 a_10, .int .u32 a_11, .slice a_12 a_12l a_12c, .int .u8 a_13, .string a_14, .slice a_15 a_15l a_15c, .int .u8 a_16, .int .u16 a_17], .agg #[.int .u8 b_0, .int .u8 b_1, .int .u16 b_2, .int .u32 b_3, .int .u8 b_4, .int .u8 b_5, .int .u8 b_6, .int .u8 b_7, .int .u8 b_8, .int .u8 b_9, .int .u8 b_10, .int .u32 b_11, .slice b_12 b_12l b_12c, .int .u8 b_13, .string b_14, .slice b_15 b_15l b_15c, .int .u8 b_16, .int .u16 b_17]] w R :=
 calls_of { isLoc := [2, 3], sym := [], loops := [], joins := [] } Tryz.func110 (by kernel_rfl) h
theorem x_r3Same (a : Option Addr) (al ac : Nat) (b : Option Addr) (bl bc : Nat) (w : World) (R : Ending → World → Prop) (h :
 if (((al : Nat) : Int) != ((bl : Nat) : Int)) = true then
 R (.returned (.bool false)) w
 else
 ∃ x1 : Int → World → List Nat → Prop, ∃ x2 : Int → World → Nat, (x1 0 w []) ∧
 ∀ n3 w4 L5, (LF w.heap.size w4 L5) →
 (x1 n3 w4 L5) →
 if (decide (n3 < ((al : Nat) : Int))) = true then
 ((0 : Int) ≤ n3) ∧
 (n3 < ((al : Nat) : Int)) ∧
 onSome a fun p6 =>
 ∃ n7 n8 s9 s10 n11, (Cells w4 (p6.add ((n3).toNat * 5)) [.int .u8 n7, .int .u8 n8, .string s9, .string s10, .int .i64 n11]) ∧
 ((0 : Int) ≤ n3) ∧
 (n3 < ((bl : Nat) : Int)) ∧
 onSome b fun p12 =>
 ∃ n13 n14 s15 s16 n17, (Cells w4 (p12.add ((n3).toNat * 5)) [.int .u8 n13, .int .u8 n14, .string s15, .string s16, .int .i64 n17]) ∧
 if (!((n7 == n13) && ((n8 == n14) && ((s9 == s15) && ((s10 == s16) && (n11 == n17)))))) = true then
 ∀ w19, Hid [] w4 w19 →
 R (.returned (.bool false)) w19
 else
 ∀ w18, Hid [] w4 w18 →
 (x1 (IntKind.wrap .i64 (n3 + 1)) w18 []) ∧
 Nat.le ((x2 (IntKind.wrap .i64 (n3 + 1)) w18) + 1) (x2 n3 w4)
 else
 R (.returned (.bool true)) w4) :
 Calls Tryz.prog 42 #[.slice a al ac, .slice b bl bc] w R :=
 calls_of { isLoc := [], sym := [], loops := [(4, .inv [(5, .int .i64)] [] true)], joins := [] } Tryz.func42 (by kernel_rfl) h
theorem x_r4Same (a : Option Addr) (al ac : Nat) (b : Option Addr) (bl bc : Nat) (w : World) (R : Ending → World → Prop) (h :
 if (((al : Nat) : Int) != ((bl : Nat) : Int)) = true then
 R (.returned (.bool false)) w
 else
 ∃ x1 : Int → World → List Nat → Prop, ∃ x2 : Int → World → Nat, (x1 0 w []) ∧
 ∀ n3 w4 L5, (LF w.heap.size w4 L5) →
 (x1 n3 w4 L5) →
 if (decide (n3 < ((al : Nat) : Int))) = true then
 ((0 : Int) ≤ n3) ∧
 (n3 < ((al : Nat) : Int)) ∧
 onSome a fun p6 =>
 ∃ s7 s8 b9, (Cells w4 (p6.add ((n3).toNat * 3)) [.string s7, .string s8, .bool b9]) ∧
 ((0 : Int) ≤ n3) ∧
 (n3 < ((bl : Nat) : Int)) ∧
 onSome b fun p10 =>
 ∃ s11 s12 b13, (Cells w4 (p10.add ((n3).toNat * 3)) [.string s11, .string s12, .bool b13]) ∧
 if (!((s7 == s11) && ((s8 == s12) && (b9 == b13)))) = true then
 ∀ w15, Hid [] w4 w15 →
 R (.returned (.bool false)) w15
 else
 ∀ w14, Hid [] w4 w14 →
 (x1 (IntKind.wrap .i64 (n3 + 1)) w14 []) ∧
 Nat.le ((x2 (IntKind.wrap .i64 (n3 + 1)) w14) + 1) (x2 n3 w4)
 else
 R (.returned (.bool true)) w4) :
 Calls Tryz.prog 145 #[.slice a al ac, .slice b bl bc] w R :=
 calls_of { isLoc := [], sym := [], loops := [(4, .inv [(5, .int .i64)] [] true)], joins := [] } Tryz.func145 (by kernel_rfl) h
theorem x_r5Same (a_0 a_1 a_2 a_3 a_4 a_5 a_6 a_7 a_8 a_9 a_10 a_11 : Int) (a_12 : Option Addr) (a_12l a_12c : Nat) (a_13 : Int) (a_14 : ByteArray) (a_15 : Option Addr) (a_15l a_15c : Nat) (a_16 a_17 b_0 b_1 b_2 b_3 b_4 b_5 b_6 b_7 b_8 b_9 b_10 b_11 : Int) (b_12 : Option Addr) (b_12l b_12c : Nat) (b_13 : Int) (b_14 : ByteArray) (b_15 : Option Addr) (b_15l b_15c : Nat) (b_16 b_17 : Int) (w : World) (R : Ending → World → Prop) (h :
 if ((((a_0 == b_0) && (((a_1 == b_1) && (a_2 == b_2)) && ((a_3 == b_3) && ((a_4 == b_4) && (((a_5 == b_5) && (a_6 == b_6)) && (((a_7 == b_7) && (a_8 == b_8)) && ((a_9 == b_9) && (a_10 == b_10)))))))) && (a_11 == b_11)) == true) = true then
 ∀ w2 L3, Hid [] w w2 →
 NewL w.heap.size [] w w2 L3 →
 CallX Tryz.prog 42 #[.slice a_12 a_12l a_12c, .slice b_12 b_12l b_12c] w2 fun e4 w5 =>
 ∃ b6, e4 = .returned (.bool b6) ∧
 Kept L3 w2 w5 ∧
 if (((true && b6) && ((a_13 == b_13) && (a_14 == b_14))) == true) = true then
 CallX Tryz.prog 145 #[.slice a_15 a_15l a_15c, .slice b_15 b_15l b_15c] w5 fun e7 w8 =>
 ∃ b9, e7 = .returned (.bool b9) ∧
 Kept L3 w5 w8 ∧
 R (.returned (.bool ((true && b9) && ((a_16 == b_16) && (a_17 == b_17))))) w8
 else
 R (.returned (.bool (false && ((a_16 == b_16) && (a_17 == b_17))))) w5
 else
 ∀ w1, Hid [] w w1 →
 R (.returned (.bool (false && ((a_16 == b_16) && (a_17 == b_17))))) w1) :
 Calls Tryz.prog 105 #[.agg #[.int .u8 a_0, .int .u8 a_1, .int .u16 a_2, .int .u32 a_3, .int .u8 a_4, .int .u8 a_5, .int .u8 a_6, .int .u8 a_7, .int .u8 a_8, .int .u8 a_9, .int .u8 a_10, .int .u32 a_11, .slice a_12 a_12l a_12c, .int .u8 a_13, .string a_14, .slice a_15 a_15l a_15c, .int .u8 a_16, .int .u16 a_17], .agg #[.int .u8 b_0, .int .u8 b_1, .int .u16 b_2, .int .u32 b_3, .int .u8 b_4, .int .u8 b_5, .int .u8 b_6, .int .u8 b_7, .int .u8 b_8, .int .u8 b_9, .int .u8 b_10, .int .u32 b_11, .slice b_12 b_12l b_12c, .int .u8 b_13, .string b_14, .slice b_15 b_15l b_15c, .int .u8 b_16, .int .u16 b_17]] w R :=
 calls_of { isLoc := [2, 3], sym := [], loops := [], joins := [] } Tryz.func105 (by kernel_rfl) h
theorem x_Light3 (a : Option Addr) (al ac : Nat) (w : World) (R : Ending → World → Prop) (h :
 ∃ x1 : Int → Int → World → List Nat → Prop, ∃ x2 : Int → Int → World → Nat, (x1 3000 0 w []) ∧
 ∀ n3 n4 w5 L6, (LF w.heap.size w5 L6) →
 (x1 n3 n4 w5 L6) →
 if ((decide (n4 < ((al : Nat) : Int)) && decide (n4 < 300)) && decide (n3 ≥ 0)) = true then
 ((0 : Int) ≤ n4) ∧
 (n4 < ((al : Nat) : Int)) ∧
 onSome a fun p7 =>
 ∃ s8, (w5.cell? ((p7.add ((n4).toNat * 5)).add 2) = some (.string s8)) ∧
 ((0 : Int) ≤ n4) ∧
 (n4 < ((al : Nat) : Int)) ∧
 onSome a fun p9 =>
 ∃ s10, (w5.cell? ((p9.add ((n4).toNat * 5)).add 3) = some (.string s10)) ∧
 ∀ w11, Hid [] w5 w11 →
 (x1 (IntKind.wrap .i64 ((IntKind.wrap .i64 ((IntKind.wrap .i64 (n3 - 3)) - (if (4000 : Int) < (((s8.size) : Nat) : Int) then 4000 else (((s8.size) : Nat) : Int)))) - (if (4000 : Int) < (((s10.size) : Nat) : Int) then 4000 else (((s10.size) : Nat) : Int)))) (IntKind.wrap .i64 (n4 + 1)) w11 []) ∧
 Nat.le ((x2 (IntKind.wrap .i64 ((IntKind.wrap .i64 ((IntKind.wrap .i64 (n3 - 3)) - (if (4000 : Int) < (((s8.size) : Nat) : Int) then 4000 else (((s8.size) : Nat) : Int)))) - (if (4000 : Int) < (((s10.size) : Nat) : Int) then 4000 else (((s10.size) : Nat) : Int)))) (IntKind.wrap .i64 (n4 + 1)) w11) + 1) (x2 n3 n4 w5)
 else
 R (.returned (.bool (decide (n3 ≥ 0)))) w5) :
 Calls Tryz.prog 16 #[.slice a al ac] w R :=
 calls_of { isLoc := [], sym := [], loops := [(3, .inv [(3, .int .i64), (4, .int .i64)] [] true)], joins := [] } Tryz.func16 (by kernel_rfl) h
theorem x_Light5 (a : Option Addr) (al ac : Nat) (w : World) (R : Ending → World → Prop) (h :
 ∃ x1 : Int → Int → World → List Nat → Prop, ∃ x2 : Int → Int → World → Nat, (x1 6000 0 w []) ∧
 ∀ n3 n4 w5 L6, (LF w.heap.size w5 L6) →
 (x1 n3 n4 w5 L6) →
 if ((decide (n4 < ((al : Nat) : Int)) && decide (n4 < 200)) && decide (n3 ≥ 0)) = true then
 ((0 : Int) ≤ n4) ∧
 (n4 < ((al : Nat) : Int)) ∧
 onSome a fun p7 =>
 ∃ n8 n9 n10 n11 n12 n13 n14 n15 n16 n17 n18 n19 q20 k21 k22 n23 s24 q25 k26 k27 n28 n29, (Cells w5 (p7.add ((n4).toNat * 18)) [.int .u8 n8, .int .u8 n9, .int .u16 n10, .int .u32 n11, .int .u8 n12, .int .u8 n13, .int .u8 n14, .int .u8 n15, .int .u8 n16, .int .u8 n17, .int .u8 n18, .int .u32 n19, .slice q20 k21 k22, .int .u8 n23, .string s24, .slice q25 k26 k27, .int .u8 n28, .int .u16 n29]) ∧
 ∀ w30 L31, Hid [] w5 w30 →
 NewL w.heap.size [] w5 w30 L31 →
 CallX Tryz.prog 16 #[.slice q20 k21 k22] w30 fun e32 w33 =>
 ∃ b34, e32 = .returned (.bool b34) ∧
 Kept L31 w30 w33 ∧
 if ((!b34) || decide (((k26 : Nat) : Int) > 300)) = true then
 R (.returned (.bool false)) w33
 else
 ∃ x35 : Int → Int → World → List Nat → Prop, ∃ x36 : Int → Int → World → Nat, (x35 (IntKind.wrap .i64 ((IntKind.wrap .i64 ((IntKind.wrap .i64 (n3 - 10)) - (if (7000 : Int) < (((s24.size) : Nat) : Int) then 7000 else (((s24.size) : Nat) : Int)))) - (IntKind.wrap .i64 (30 * (if (200 : Int) < ((k21 : Nat) : Int) then 200 else ((k21 : Nat) : Int)))))) 0 w33 L31) ∧
 ∀ n37 n38 w39 L40, (LF w.heap.size w39 L40) →
 (x35 n37 n38 w39 L40) →
 if (decide (n38 < ((k26 : Nat) : Int))) = true then
 ((0 : Int) ≤ n38) ∧
 (n38 < ((k26 : Nat) : Int)) ∧
 onSome q25 fun p41 =>
 ∃ s42, (w39.cell? ((p41.add ((n38).toNat * 3)).add 0) = some (.string s42)) ∧
 (¬ ((((p41.add (n38.toNat * 3)).add 0).block) ∈ L40)) ∧
 ((0 : Int) ≤ n38) ∧
 (n38 < ((k26 : Nat) : Int)) ∧
 onSome q25 fun p43 =>
 ∃ s44, (w39.cell? ((p43.add ((n38).toNat * 3)).add 1) = some (.string s44)) ∧
 (¬ (((p43.add (n38.toNat * 3)).block) ∈ L40)) ∧
 ∀ w45 L46, Hid L40 w39 w45 →
 NewL w.heap.size L40 w39 w45 L46 →
 (([.int .u8 n8, .int .u8 n9, .int .u16 n10, .int .u32 n11, .int .u8 n12, .int .u8 n13, .int .u8 n14, .int .u8 n15, .int .u8 n16, .int .u8 n17, .int .u8 n18, .int .u32 n19, .slice q20 k21 k22, .int .u8 n23, .string s24, .slice q25 k26 k27, .int .u8 n28, .int .u16 n29] : List Value) = [.int .u8 n8, .int .u8 n9, .int .u16 n10, .int .u32 n11, .int .u8 n12, .int .u8 n13, .int .u8 n14, .int .u8 n15, .int .u8 n16, .int .u8 n17, .int .u8 n18, .int .u32 n19, .slice q20 k21 k22, .int .u8 n23, .string s24, .slice q25 k26 k27, .int .u8 n28, .int .u16 n29]) ∧
 (x35 (IntKind.wrap .i64 ((IntKind.wrap .i64 ((IntKind.wrap .i64 (n37 - 1)) - (if (7000 : Int) < (((s42.size) : Nat) : Int) then 7000 else (((s42.size) : Nat) : Int)))) - (if (7000 : Int) < (((s44.size) : Nat) : Int) then 7000 else (((s44.size) : Nat) : Int)))) (IntKind.wrap .i64 (n38 + 1)) w45 L46) ∧
 Nat.le ((x36 (IntKind.wrap .i64 ((IntKind.wrap .i64 ((IntKind.wrap .i64 (n37 - 1)) - (if (7000 : Int) < (((s42.size) : Nat) : Int) then 7000 else (((s42.size) : Nat) : Int)))) - (if (7000 : Int) < (((s44.size) : Nat) : Int) then 7000 else (((s44.size) : Nat) : Int)))) (IntKind.wrap .i64 (n38 + 1)) w45) + 1) (x36 n37 n38 w39)
 else
 (x1 n37 (IntKind.wrap .i64 (n4 + 1)) w39 L40) ∧
 Nat.le ((x2 n37 (IntKind.wrap .i64 (n4 + 1)) w39) + 1) (x2 n3 n4 w5)
 else
 R (.returned (.bool (decide (n3 ≥ 0) && decide (((al : Nat) : Int) ≤ 150)))) w5) :
 Calls Tryz.prog 17 #[.slice a al ac] w R :=
 calls_of { isLoc := [5], sym := [], loops := [(3, .inv [(3, .int .i64), (4, .int .i64)] [] true), (10, .inv [(3, .int .i64), (6, .int .i64)] [] true)], joins := [] } Tryz.func17 (by kernel_rfl) h
theorem x_RefID (a_0 a_1 a_2 a_3 a_4 a_5 a_6 a_7 a_8 a_9 : Int) (w : World) (R : Ending → World → Prop) (h :
 ∃ x1, (FactsW x1 w []) ∧
 (∀ w2 L3, Hid [] w w2 →
 NewL w.heap.size [] w w2 L3 →
 CallX Tryz.prog 50 #[(.agg #[.int .u8 a_0, .int .u16 a_1])] w2 fun e4 w5 =>
 ∃ n6 n7, e4 = .returned (.agg #[.int .u8 n6, .int .u16 n7]) ∧
 Kept L3 w2 w5 ∧
 FactsW x1 w5 L3 ∧
 ∃ x8, (FactsW x8 w5 L3) ∧
 ∃ x9, (FactsW x9 w5 L3) ∧
 ∃ x10, (FactsW x10 w5 L3) ∧
 ∀ w11, Hid L3 w5 w11 →
 R (.returned (IdW n6 n7 a_2 a_3 a_4 a_5 a_6 a_7 a_8 a_9)) w11) ∧
 ∀ w12 L13, Hid [] w w12 →
 NewL w.heap.size [] w w12 L13 →
 CallX Tryz.prog 50 #[(.agg #[.int .u8 a_0, .int .u16 a_1])] w12 fun e14 w15 =>
 ∃ n16 n17, e14 = .returned (.agg #[.int .u8 n16, .int .u16 n17]) ∧
 Kept L13 w12 w15 ∧
 FactsW x1 w15 L13 ∧
 ∃ x18, (FactsW x18 w15 L13) ∧
 ∃ x19, (FactsW x19 w15 L13) ∧
 ∃ x20, (FactsW x20 w15 L13) ∧
 ∀ w21, Hid L13 w15 w21 →
 R (.returned (IdW n16 n17 a_2 a_3 a_4 a_5 a_6 a_7 a_8 a_9)) w21) :
 Calls Tryz.prog 46 #[.agg #[.int .u8 a_0, .int .u16 a_1, .int .u32 a_2, .int .u8 a_3, .int .u8 a_4, .int .u8 a_5, .int .u8 a_6, .int .u8 a_7, .int .u8 a_8, .int .u8 a_9]] w R :=
 calls_of { isLoc := [1, 2, 3], sym := [], loops := [(3, .unroll 4)], joins := [], stored := [(1, [3]), (5, [3])] } Tryz.func46 (by kernel_rfl) h
theorem x_RefProc (a_0 a_1 : Int) (w : World) (R : Ending → World → Prop) (h :
 ∀ w1, Hid [] w w1 →
 R (.returned (.agg #[.int .u8 a_0, .int .u16 a_1])) w1) :
 Calls Tryz.prog 50 #[.agg #[.int .u8 a_0, .int .u16 a_1]] w R :=
 calls_of { isLoc := [1, 2], sym := [], loops := [], joins := [] } Tryz.func50 (by kernel_rfl) h
theorem x_RefRes (a_0 : Int) (a_1 : ByteArray) (w : World) (R : Ending → World → Prop) (h :
 ∀ w1, Hid [] w w1 →
 R (.returned (.agg #[.int .u8 a_0, .string a_1])) w1) :
 Calls Tryz.prog 48 #[.agg #[.int .u8 a_0, .string a_1]] w R :=
 calls_of { isLoc := [1, 2], sym := [], loops := [], joins := [] } Tryz.func48 (by kernel_rfl) h
theorem x_RefPart (a_0 a_1 : Int) (a_2 a_3 : ByteArray) (a_4 : Int) (w : World) (R : Ending → World → Prop) (h :
 ∀ w1, Hid [] w w1 →
 R (.returned (.agg #[.int .u8 a_0, .int .u8 a_1, .string a_2, .string a_3, .int .i64 a_4])) w1) :
 Calls Tryz.prog 106 #[.agg #[.int .u8 a_0, .int .u8 a_1, .string a_2, .string a_3, .int .i64 a_4]] w R :=
 calls_of { isLoc := [1, 2], sym := [], loops := [], joins := [] } Tryz.func106 (by kernel_rfl) h
theorem x_RefParts (a : Option Addr) (al ac : Nat) (w : World) (R : Ending → World → Prop) (h :
 ∃ x1 : Option Addr → Nat → Nat → Int → World → List Nat → Prop, ∃ x2 : Option Addr → Nat → Nat → Int → World → Nat, (x1 none 0 0 0 w []) ∧
 ∀ q3 k4 k5 n6 w7 L8, (LF w.heap.size w7 L8) →
 (x1 q3 k4 k5 n6 w7 L8) →
 if (decide (n6 < ((al : Nat) : Int))) = true then
 ((0 : Int) ≤ n6) ∧
 (n6 < ((al : Nat) : Int)) ∧
 onSome a fun p9 =>
 ∃ n10 n11 s12 s13 n14, (Cells w7 (p9.add ((n6).toNat * 5)) [.int .u8 n10, .int .u8 n11, .string s12, .string s13, .int .i64 n14]) ∧
 CallX Tryz.prog 106 #[(.agg #[.int .u8 n10, .int .u8 n11, .string s12, .string s13, .int .i64 n14])] w7 fun e15 w16 =>
 ∃ n17 n18 s19 s20 n21, e15 = .returned (.agg #[.int .u8 n17, .int .u8 n18, .string s19, .string s20, .int .i64 n21]) ∧
 w7.heap.size ≤ w16.heap.size ∧
 ∃ q22 k23 k24 w25, (Sem.run Tryz.prog (Go.Builtin.append_ #[32, 32] 32 #[.slice q3 k4 k5, .slice (some ⟨w16.heap.size, 0, none⟩) 1 1]) (w16.alloc (.cells #[.int .u8 n17, .int .u8 n18, .string s19, .string s20, .int .i64 n21] 121)) = .ok (.slice q22 k23 k24) w25) ∧
 (((w16.alloc (.cells #[.int .u8 n17, .int .u8 n18, .string s19, .string s20, .int .i64 n21] 121))).heap.size ≤ w25.heap.size) ∧
 (x1 q22 k23 k24 (IntKind.wrap .i64 (n6 + 1)) w25 []) ∧
 Nat.le ((x2 q22 k23 k24 (IntKind.wrap .i64 (n6 + 1)) w25) + 1) (x2 q3 k4 k5 n6 w7)
 else
 R (.returned (.slice q3 k4 k5)) w7) :
 Calls Tryz.prog 47 #[.slice a al ac] w R :=
 calls_of { isLoc := [], sym := [], loops := [(3, .inv [(3, .slice), (4, .int .i64)] [] true)], joins := [] } Tryz.func47 (by kernel_rfl) h
theorem x_Ref4 (a : Option Addr) (al ac : Nat) (w : World) (R : Ending → World → Prop) (h :
 ∃ x1 : Option Addr → Nat → Nat → Int → World → List Nat → Prop, ∃ x2 : Option Addr → Nat → Nat → Int → World → Nat, (x1 none 0 0 0 w []) ∧
 ∀ q3 k4 k5 n6 w7 L8, (LF w.heap.size w7 L8) →
 (x1 q3 k4 k5 n6 w7 L8) →
 if (decide (n6 < ((al : Nat) : Int))) = true then
 ∃ x9, (FactsW x9 w7 []) ∧
 ((0 : Int) ≤ n6) ∧
 (n6 < ((al : Nat) : Int)) ∧
 onSome a fun p10 =>
 ∃ s11, ((((p10.add ((n6).toNat * 3)).add 0), [.string s11]) ∈ x9) ∧
 ((0 : Int) ≤ n6) ∧
 (n6 < ((al : Nat) : Int)) ∧
 onSome a fun p12 =>
 ∃ s13, ((((p12.add ((n6).toNat * 3)).add 1), [.string s13]) ∈ x9) ∧
 ((0 : Int) ≤ n6) ∧
 (n6 < ((al : Nat) : Int)) ∧
 onSome a fun p14 =>
 ∃ b15, ((((p14.add ((n6).toNat * 3)).add 2), [.bool b15]) ∈ x9) ∧
 ∀ w16, Hid [] w7 w16 →
 (FactsW x9 (w16.alloc (.cells #[.string s11, .string s13, .bool b15] 126)) []) ∧
 ∃ q17 k18 k19 w20, (Sem.run Tryz.prog (Go.Builtin.append_ #[122, 122] 122 #[.slice q3 k4 k5, .slice (some ⟨w16.heap.size, 0, none⟩) 1 1]) (w16.alloc (.cells #[.string s11, .string s13, .bool b15] 126)) = .ok (.slice q17 k18 k19) w20) ∧
 (((w16.alloc (.cells #[.string s11, .string s13, .bool b15] 126))).heap.size ≤ w20.heap.size) ∧
 FactsW x9 w20 [] ∧
 (x1 q17 k18 k19 (IntKind.wrap .i64 (n6 + 1)) w20 []) ∧
 Nat.le ((x2 q17 k18 k19 (IntKind.wrap .i64 (n6 + 1)) w20) + 1) (x2 q3 k4 k5 n6 w7)
 else
 R (.returned (.slice q3 k4 k5)) w7) :
 Calls Tryz.prog 146 #[.slice a al ac] w R :=
 calls_of { isLoc := [], sym := [], loops := [(3, .inv [(3, .slice), (4, .int .i64)] [] true)], joins := [] } Tryz.func146 (by kernel_rfl) h
theorem x_Ref5 (a_0 a_1 a_2 a_3 a_4 a_5 a_6 a_7 a_8 a_9 a_10 a_11 : Int) (a_12 : Option Addr) (a_12l a_12c : Nat) (a_13 : Int) (a_14 : ByteArray) (a_15 : Option Addr) (a_15l a_15c : Nat) (a_16 a_17 : Int) (w : World) (R : Ending → World → Prop) (h :
 ∃ x1, (FactsW x1 w []) ∧
 ∀ w2 L3, Hid [] w w2 →
 NewL w.heap.size [] w w2 L3 →
 CallX Tryz.prog 46 #[(IdW a_1 a_2 a_3 a_4 a_5 a_6 a_7 a_8 a_9 a_10)] w2 fun e4 w5 =>
 ∃ n6 n7 n8 n9 n10 n11 n12 n13 n14 n15, e4 = .returned (IdW n6 n7 n8 n9 n10 n11 n12 n13 n14 n15) ∧
 Kept L3 w2 w5 ∧
 FactsW x1 w5 L3 ∧
 CallX Tryz.prog 47 #[.slice a_12 a_12l a_12c] w5 fun e16 w17 =>
 ∃ q18 k19 k20, e16 = .returned (.slice q18 k19 k20) ∧
 Kept L3 w5 w17 ∧
 FactsW x1 w17 L3 ∧
 CallX Tryz.prog 48 #[(.agg #[.int .u8 a_13, .string a_14])] w17 fun e21 w22 =>
 ∃ n23 s24, e21 = .returned (.agg #[.int .u8 n23, .string s24]) ∧
 Kept L3 w17 w22 ∧
 FactsW x1 w22 L3 ∧
 CallX Tryz.prog 146 #[.slice a_15 a_15l a_15c] w22 fun e25 w26 =>
 ∃ q27 k28 k29, e25 = .returned (.slice q27 k28 k29) ∧
 Kept L3 w22 w26 ∧
 FactsW x1 w26 L3 ∧
 CallX Tryz.prog 50 #[(.agg #[.int .u8 a_16, .int .u16 a_17])] w26 fun e30 w31 =>
 ∃ n32 n33, e30 = .returned (.agg #[.int .u8 n32, .int .u16 n33]) ∧
 Kept L3 w26 w31 ∧
 FactsW x1 w31 L3 ∧
 ∀ w34, Hid L3 w31 w34 →
 R (.returned (EnW a_0 n6 n7 n8 n9 n10 n11 n12 n13 n14 n15 a_11 q18 k19 k20 n23 s24 q27 k28 k29 n32 n33)) w34) :
 Calls Tryz.prog 107 #[.agg #[.int .u8 a_0, .int .u8 a_1, .int .u16 a_2, .int .u32 a_3, .int .u8 a_4, .int .u8 a_5, .int .u8 a_6, .int .u8 a_7, .int .u8 a_8, .int .u8 a_9, .int .u8 a_10, .int .u32 a_11, .slice a_12 a_12l a_12c, .int .u8 a_13, .string a_14, .slice a_15 a_15l a_15c, .int .u8 a_16, .int .u16 a_17]] w R :=
 calls_of { isLoc := [1, 2], sym := [], loops := [], joins := [], stored := [(1, [2])] } Tryz.func107 (by kernel_rfl) h
end Go.Proofs
/- The verification conditions of this seat's functions, as the engine has them: printed by a program of the bench; checked by the kernel. -/
namespace Go.Proofs
open Go X
theorem x_part_Part_Right (a_0 a_1 : Int) (a_2 a_3 : ByteArray) (a_4 : Int) (w : World) (R : Ending → World → Prop) (h :
 if (((decide (a_0 < 4) && (!((a_2.toList) == ((ByteArray.mk #[]).toList)))) && decide ((((a_2.size) : Nat) : Int) ≤ 16)) == true) = true then
 ∀ w2 L3, Hid [] w w2 →
 NewL w.heap.size [] w w2 L3 →
 CallX Tryz.prog 175 #[(.agg #[.int .u8 a_0, .int .u8 a_1, .string a_2, .string a_3, .int .i64 a_4])] w2 fun e4 w5 =>
 ∃ b6, e4 = .returned (.bool b6) ∧
 Kept L3 w2 w5 ∧
 R (.returned (.bool (true && b6))) w5
 else
 ∀ w1, Hid [] w w1 →
 R (.returned (.bool false)) w1) :
 Calls Tryz.prog 164 #[.agg #[.int .u8 a_0, .int .u8 a_1, .string a_2, .string a_3, .int .i64 a_4]] w R :=
 calls_of { isLoc := [1], sym := [], loops := [], joins := [] } Tryz.func164 (by kernel_rfl) h
theorem x_part_Part_fits (a_0 a_1 : Int) (a_2 a_3 : ByteArray) (a_4 : Int) (w : World) (R : Ending → World → Prop) (h :
 if (a_1 == 1) = true then
 ∀ w9, Hid [] w w9 →
 R (.returned (.bool (decide ((((a_3.size) : Nat) : Int) ≤ 64) && (a_4 == 0)))) w9
 else
 if (a_1 == 2) = true then
 if (a_1 == 2) = true then
 ∀ w8, Hid [] w w8 →
 R (.returned (.bool (((a_3.toList) == ((ByteArray.mk #[]).toList)) && decide (a_4 ≥ 0)))) w8
 else
 if (a_1 == 0) = true then
 ∀ w7, Hid [] w w7 →
 R (.returned (.bool (((a_3.toList) == ((ByteArray.mk #[]).toList)) && (a_4 == 0)))) w7
 else
 if (a_1 == 4) = true then
 ∀ w6, Hid [] w w6 →
 R (.returned (.bool (((a_3.toList) == ((ByteArray.mk #[]).toList)) && (a_4 == 0)))) w6
 else
 ∀ w5, Hid [] w w5 →
 R (.returned (.bool false)) w5
 else
 if (a_1 == 3) = true then
 ∀ w4, Hid [] w w4 →
 R (.returned (.bool (((a_3.toList) == ((ByteArray.mk #[]).toList)) && decide (a_4 ≥ 0)))) w4
 else
 if (a_1 == 0) = true then
 ∀ w3, Hid [] w w3 →
 R (.returned (.bool (((a_3.toList) == ((ByteArray.mk #[]).toList)) && (a_4 == 0)))) w3
 else
 if (a_1 == 4) = true then
 ∀ w2, Hid [] w w2 →
 R (.returned (.bool (((a_3.toList) == ((ByteArray.mk #[]).toList)) && (a_4 == 0)))) w2
 else
 ∀ w1, Hid [] w w1 →
 R (.returned (.bool false)) w1) :
 Calls Tryz.prog 175 #[.agg #[.int .u8 a_0, .int .u8 a_1, .string a_2, .string a_3, .int .i64 a_4]] w R :=
 calls_of { isLoc := [1], sym := [], loops := [], joins := [] } Tryz.func175 (by kernel_rfl) h
theorem x_part_Right_1 (a_0 a_1 : Int) (a_2 a_3 : ByteArray) (a_4 : Int) (w : World) (R : Ending → World → Prop) (h :
 ∀ w1 L2, Hid [] w w1 →
 NewL w.heap.size [] w w1 L2 →
 CallX Tryz.prog 164 #[(.agg #[.int .u8 a_0, .int .u8 a_1, .string a_2, .string a_3, .int .i64 a_4])] w1 fun e3 w4 =>
 ∃ b5, e3 = .returned (.bool b5) ∧
 Kept L2 w1 w4 ∧
 R (.returned (.bool (!b5))) w4) :
 Calls Tryz.prog 163 #[.agg #[.int .u8 a_0, .int .u8 a_1, .string a_2, .string a_3, .int .i64 a_4]] w R :=
 calls_of { isLoc := [1], sym := [], loops := [], joins := [] } Tryz.func163 (by kernel_rfl) h
theorem x_part_Right (a : Option Addr) (al ac : Nat) (w : World) (R : Ending → World → Prop) (h :
 if (decide (((al : Nat) : Int) < 1) || decide (((al : Nat) : Int) > 4)) = true then
 R (.returned (.bool false)) w
 else
 CallX Tryz.prog 162 #[.slice a al ac, (.func (.func 163) #[] #[])] w fun e1 w2 =>
 ∃ b3, e1 = .returned (.bool b3) ∧
 (w.heap.size ≤ w2.heap.size) ∧
 R (.returned (.bool (!b3))) w2) :
 Calls Tryz.prog 148 #[.slice a al ac] w R :=
 calls_of { isLoc := [], sym := [], loops := [], joins := [] } Tryz.func148 (by kernel_rfl) h
theorem x_ContainsF (a : Option Addr) (al ac : Nat) (w : World) (R : Ending → World → Prop) (h :
 CallX Tryz.prog 174 #[.slice a al ac, (.func (.func (OfNat.ofNat 163)) #[] #[])] w fun e1 w2 =>
 ∃ n3, e1 = .returned (.int .i64 n3) ∧
 (w.heap.size ≤ w2.heap.size) ∧
 R (.returned (.bool (decide (n3 ≥ 0)))) w2) :
 Calls Tryz.prog 162 #[.slice a al ac, .func (.func 163) #[] #[]] w R :=
 calls_of { isLoc := [], sym := [], loops := [], joins := [] } Tryz.func162 (by kernel_rfl) h
theorem x_IndexF (a : Option Addr) (al ac : Nat) (w : World) (R : Ending → World → Prop) (h :
 ∃ x1 : Int → World → List Nat → Prop, ∃ x2 : Int → World → Nat, (x1 0 w []) ∧
 ∀ n3 w4 L5, (LF w.heap.size w4 L5) →
 (x1 n3 w4 L5) →
 if (decide (n3 < ((al : Nat) : Int))) = true then
 ((0 : Int) ≤ n3) ∧
 (n3 < ((al : Nat) : Int)) ∧
 onSome a fun p6 =>
 ∃ n7 n8 s9 s10 n11, (Cells w4 (p6.add ((n3).toNat * 5)) [.int .u8 n7, .int .u8 n8, .string s9, .string s10, .int .i64 n11]) ∧
 CallX Tryz.prog (OfNat.ofNat 163) #[(.agg #[.int .u8 n7, .int .u8 n8, .string s9, .string s10, .int .i64 n11])] w4 fun e12 w13 =>
 ∃ b14, e12 = .returned (.bool b14) ∧
 w4.heap.size ≤ w13.heap.size ∧
 if b14 = true then
 R (.returned (.int .i64 n3)) w13
 else
 (x1 (IntKind.wrap .i64 (n3 + 1)) w13 []) ∧
 Nat.le ((x2 (IntKind.wrap .i64 (n3 + 1)) w13) + 1) (x2 n3 w4)
 else
 R (.returned (.int .i64 (-1))) w4) :
 Calls Tryz.prog 174 #[.slice a al ac, .func (.func 163) #[] #[]] w R :=
 calls_of { isLoc := [], sym := [], loops := [(2, .inv [(8, .int .i64)] [] true)], joins := [] } Tryz.func174 (by kernel_rfl) h
theorem x_r3Right (a_0 a_1 : Int) (a_2 a_3 : ByteArray) (a_4 : Int) (w : World) (R : Ending → World → Prop) (h :
 ∀ w1, Hid [] w w1 →
 R (.returned (.bool (((((((decide (a_0 < 4) && decide (a_1 ≤ 4)) && decide ((((a_2.size) : Nat) : Int) ≥ 1)) && decide ((((a_2.size) : Nat) : Int) ≤ 16)) && decide ((((a_3.size) : Nat) : Int) ≤ 64)) && ((a_1 == 1) || ((a_3.toList) == ((ByteArray.mk #[]).toList)))) && decide (a_4 ≥ 0)) && (((a_1 == 2) || (a_1 == 3)) || (a_4 == 0))))) w1) :
 Calls Tryz.prog 154 #[.agg #[.int .u8 a_0, .int .u8 a_1, .string a_2, .string a_3, .int .i64 a_4]] w R :=
 calls_of { isLoc := [1], sym := [], loops := [], joins := [] } Tryz.func154 (by kernel_rfl) h
theorem x_r3RightAll (a : Option Addr) (al ac : Nat) (w : World) (R : Ending → World → Prop) (h :
 ∃ x1 : Int → World → List Nat → Prop, ∃ x2 : Int → World → Nat, (x1 0 w []) ∧
 ∀ n3 w4 L5, (LF w.heap.size w4 L5) →
 (x1 n3 w4 L5) →
 if (decide (n3 < ((al : Nat) : Int)) && decide (n3 < 10)) = true then
 ((0 : Int) ≤ n3) ∧
 (n3 < ((al : Nat) : Int)) ∧
 onSome a fun p6 =>
 ∃ n7 n8 s9 s10 n11, (Cells w4 (p6.add ((n3).toNat * 5)) [.int .u8 n7, .int .u8 n8, .string s9, .string s10, .int .i64 n11]) ∧
 CallX Tryz.prog 154 #[(.agg #[.int .u8 n7, .int .u8 n8, .string s9, .string s10, .int .i64 n11])] w4 fun e12 w13 =>
 ∃ b14, e12 = .returned (.bool b14) ∧
 w4.heap.size ≤ w13.heap.size ∧
 if (!b14) = true then
 R (.returned (.bool false)) w13
 else
 (x1 (IntKind.wrap .i64 (n3 + 1)) w13 []) ∧
 Nat.le ((x2 (IntKind.wrap .i64 (n3 + 1)) w13) + 1) (x2 n3 w4)
 else
 R (.returned (.bool (decide (((al : Nat) : Int) ≥ 1) && decide (((al : Nat) : Int) ≤ 4)))) w4) :
 Calls Tryz.prog 125 #[.slice a al ac] w R :=
 calls_of { isLoc := [], sym := [], loops := [(2, .inv [(3, .int .i64)] [] true)], joins := [] } Tryz.func125 (by kernel_rfl) h
theorem x_ResRight (a_0 : Int) (a_1 : ByteArray) (w : World) (R : Ending → World → Prop) (h :
 ∀ w1, Hid [] w w1 →
 R (.returned (.bool (decide (a_0 ≤ 5) && decide ((((a_1.size) : Nat) : Int) ≤ 1000)))) w1) :
 Calls Tryz.prog 113 #[.agg #[.int .u8 a_0, .string a_1]] w R :=
 calls_of { isLoc := [1], sym := [], loops := [], joins := [] } Tryz.func113 (by kernel_rfl) h
theorem x_rRightRes (a_0 : Int) (a_1 : ByteArray) (w : World) (R : Ending → World → Prop) (h :
 ∀ w1, Hid [] w w1 →
 R (.returned (.bool (decide (a_0 ≤ 5) && decide ((((a_1.size) : Nat) : Int) ≤ 1000)))) w1) :
 Calls Tryz.prog 126 #[.agg #[.int .u8 a_0, .string a_1]] w R :=
 calls_of { isLoc := [1], sym := [], loops := [], joins := [] } Tryz.func126 (by kernel_rfl) h
theorem x_ProcRight (a_0 a_1 : Int) (w : World) (R : Ending → World → Prop) (h :
 ∀ w1, Hid [] w w1 →
 R (.returned (.bool (decide (a_0 < 16) && decide (a_1 > 0)))) w1) :
 Calls Tryz.prog 117 #[.agg #[.int .u8 a_0, .int .u16 a_1]] w R :=
 calls_of { isLoc := [1], sym := [], loops := [], joins := [] } Tryz.func117 (by kernel_rfl) h
theorem x_IDRight (a_0 a_1 a_2 a_3 a_4 a_5 a_6 a_7 a_8 a_9 : Int) (w : World) (R : Ending → World → Prop) (h :
 ∀ w1 L2, Hid [] w w1 →
 NewL w.heap.size [] w w1 L2 →
 CallX Tryz.prog 117 #[(.agg #[.int .u8 a_0, .int .u16 a_1])] w1 fun e3 w4 =>
 ∃ b5, e3 = .returned (.bool b5) ∧
 Kept L2 w1 w4 ∧
 if ((((!b5) || (a_2 == 0)) || decide (a_2 > 1048576)) || decide (a_3 > 3)) = true then
 R (.returned (.bool false)) w4
 else
 if ((decide ((0 : Int) < (IntKind.wrap .i64 a_3)) && decide (a_4 ≥ 4)) || ((!decide ((0 : Int) < (IntKind.wrap .i64 a_3))) && (!((a_4 == 0) && (a_5 == 0))))) = true then
 ∀ w9, Hid L2 w4 w9 →
 R (.returned (.bool false)) w9
 else
 if ((decide ((1 : Int) < (IntKind.wrap .i64 a_3)) && decide (a_6 ≥ 4)) || ((!decide ((1 : Int) < (IntKind.wrap .i64 a_3))) && (!((a_6 == 0) && (a_7 == 0))))) = true then
 ∀ w8, Hid L2 w4 w8 →
 R (.returned (.bool false)) w8
 else
 if ((decide ((2 : Int) < (IntKind.wrap .i64 a_3)) && decide (a_8 ≥ 4)) || ((!decide ((2 : Int) < (IntKind.wrap .i64 a_3))) && (!((a_8 == 0) && (a_9 == 0))))) = true then
 ∀ w7, Hid L2 w4 w7 →
 R (.returned (.bool false)) w7
 else
 ∀ w6, Hid L2 w4 w6 →
 R (.returned (.bool true)) w6) :
 Calls Tryz.prog 112 #[.agg #[.int .u8 a_0, .int .u16 a_1, .int .u32 a_2, .int .u8 a_3, .int .u8 a_4, .int .u8 a_5, .int .u8 a_6, .int .u8 a_7, .int .u8 a_8, .int .u8 a_9]] w R :=
 calls_of { isLoc := [1, 4], sym := [], loops := [(4, .unroll 4)], joins := [] } Tryz.func112 (by kernel_rfl) h
theorem x_rRightProc (a_0 a_1 : Int) (w : World) (R : Ending → World → Prop) (h :
 ∀ w1, Hid [] w w1 →
 R (.returned (.bool (decide (a_0 < 16) && decide (a_1 ≥ 1)))) w1) :
 Calls Tryz.prog 129 #[.agg #[.int .u8 a_0, .int .u16 a_1]] w R :=
 calls_of { isLoc := [1], sym := [], loops := [], joins := [] } Tryz.func129 (by kernel_rfl) h
theorem x_r2Right (a_0 a_1 a_2 a_3 a_4 a_5 a_6 a_7 a_8 a_9 : Int) (w : World) (R : Ending → World → Prop) (h :
 ∀ w1 L2, Hid [] w w1 →
 NewL w.heap.size [] w w1 L2 →
 CallX Tryz.prog 129 #[(.agg #[.int .u8 a_0, .int .u16 a_1])] w1 fun e3 w4 =>
 ∃ b5, e3 = .returned (.bool b5) ∧
 Kept L2 w1 w4 ∧
 if ((((!b5) || decide (a_2 < 1)) || decide (a_2 > 1048576)) || decide (a_3 > 3)) = true then
 R (.returned (.bool false)) w4
 else
 if ((decide ((0 : Int) < (IntKind.wrap .i64 a_3)) && decide (a_4 ≥ 4)) || (decide ((0 : Int) ≥ (IntKind.wrap .i64 a_3)) && (!((a_4 == 0) && (a_5 == 0))))) = true then
 R (.returned (.bool false)) w4
 else
 if ((decide ((1 : Int) < (IntKind.wrap .i64 a_3)) && decide (a_6 ≥ 4)) || (decide ((1 : Int) ≥ (IntKind.wrap .i64 a_3)) && (!((a_6 == 0) && (a_7 == 0))))) = true then
 R (.returned (.bool false)) w4
 else
 if ((decide ((2 : Int) < (IntKind.wrap .i64 a_3)) && decide (a_8 ≥ 4)) || (decide ((2 : Int) ≥ (IntKind.wrap .i64 a_3)) && (!((a_8 == 0) && (a_9 == 0))))) = true then
 R (.returned (.bool false)) w4
 else
 R (.returned (.bool true)) w4) :
 Calls Tryz.prog 124 #[.agg #[.int .u8 a_0, .int .u16 a_1, .int .u32 a_2, .int .u8 a_3, .int .u8 a_4, .int .u8 a_5, .int .u8 a_6, .int .u8 a_7, .int .u8 a_8, .int .u8 a_9]] w R :=
 calls_of { isLoc := [1], sym := [], loops := [(4, .unroll 4)], joins := [] } Tryz.func124 (by kernel_rfl) h
theorem x_asked (a_0 a_1 a_2 a_3 a_4 a_5 a_6 a_7 a_8 a_9 a_10 a_11 : Int) (a_12 : Option Addr) (a_12l a_12c : Nat) (a_13 : Int) (a_14 : ByteArray) (a_15 : Option Addr) (a_15l a_15c : Nat) (a_16 a_17 b : Int) (w : World) (R : Ending → World → Prop) (h :
 ∀ w1 L2, Hid [] w w1 →
 NewL w.heap.size [] w w1 L2 →
 CallX Tryz.prog 112 #[(IdW a_1 a_2 a_3 a_4 a_5 a_6 a_7 a_8 a_9 a_10)] w1 fun e3 w4 =>
 ∃ b5, e3 = .returned (.bool b5) ∧
 Kept L2 w1 w4 ∧
 if (b5 == true) = true then
 CallX Tryz.prog 148 #[.slice a_12 a_12l a_12c] w4 fun e6 w7 =>
 ∃ b8, e6 = .returned (.bool b8) ∧
 Kept L2 w4 w7 ∧
 if ((true && b8) == true) = true then
 ((0 : Int) ≤ 0) ∧
 ((0 : Int) < ((a_12l : Nat) : Int)) ∧
 onSome a_12 fun p9 =>
 ∃ n10, (w7.cell? ((p9.add 0).add 0) = some (.int .u8 n10)) ∧
 (¬ ((((p9.add 0).add 0).block) ∈ L2)) ∧
 R (.returned (.bool ((((true && (n10 == b)) && decide ((IntKind.wrap .i64 ((IntKind.wrap .i64 a_4) + ((a_12l : Nat) : Int))) ≤ 4)) && decide (a_11 < a_3)) && ((a_16 == 0) && (a_17 == 0))))) w7
 else
 R (.returned (.bool (((false && decide ((IntKind.wrap .i64 ((IntKind.wrap .i64 a_4) + ((a_12l : Nat) : Int))) ≤ 4)) && decide (a_11 < a_3)) && ((a_16 == 0) && (a_17 == 0))))) w7
 else
 R (.returned (.bool (((false && decide ((IntKind.wrap .i64 ((IntKind.wrap .i64 a_4) + ((a_12l : Nat) : Int))) ≤ 4)) && decide (a_11 < a_3)) && ((a_16 == 0) && (a_17 == 0))))) w4) :
 Calls Tryz.prog 166 #[.agg #[.int .u8 a_0, .int .u8 a_1, .int .u16 a_2, .int .u32 a_3, .int .u8 a_4, .int .u8 a_5, .int .u8 a_6, .int .u8 a_7, .int .u8 a_8, .int .u8 a_9, .int .u8 a_10, .int .u32 a_11, .slice a_12 a_12l a_12c, .int .u8 a_13, .string a_14, .slice a_15 a_15l a_15c, .int .u8 a_16, .int .u16 a_17], .int .u8 b] w R :=
 calls_of { isLoc := [2], sym := [], loops := [], joins := [] } Tryz.func166 (by kernel_rfl) h
theorem x_wrote (a_0 a_1 a_2 a_3 a_4 a_5 a_6 a_7 a_8 a_9 a_10 a_11 : Int) (a_12 : Option Addr) (a_12l a_12c : Nat) (a_13 : Int) (a_14 : ByteArray) (a_15 : Option Addr) (a_15l a_15c : Nat) (a_16 a_17 : Int) (w : World) (R : Ending → World → Prop) (h :
 ((0 : Int) ≤ 0) ∧
 ((0 : Int) < ((a_12l : Nat) : Int)) ∧
 onSome a_12 fun p1 =>
 ∃ n2 n3 s4 s5 n6, (Cells w (p1.add 0) [.int .u8 n2, .int .u8 n3, .string s4, .string s5, .int .i64 n6]) ∧
 if ((a_13 != 0) || (n3 == 0)) = true then
 ∀ w13, Hid [] w w13 →
 R (.returned (.bool (((a_15l : Nat) : Int) == 0))) w13
 else
 if (((a_15l : Nat) : Int) != 1) = true then
 ∀ w12, Hid [] w w12 →
 R (.returned (.bool false)) w12
 else
 ((0 : Int) ≤ 0) ∧
 ((0 : Int) < ((a_15l : Nat) : Int)) ∧
 onSome a_15 fun p7 =>
 ∃ s8 s9 b10, (Cells w (p7.add 0) [.string s8, .string s9, .bool b10]) ∧
 ∀ w11, Hid [] w w11 →
 R (.returned (.bool ((((s8.toList) == (s4.toList)) && decide ((((s9.size) : Nat) : Int) ≤ 64)) && (b10 || ((s9.toList) == ((ByteArray.mk #[]).toList)))))) w11) :
 Calls Tryz.prog 167 #[.agg #[.int .u8 a_0, .int .u8 a_1, .int .u16 a_2, .int .u32 a_3, .int .u8 a_4, .int .u8 a_5, .int .u8 a_6, .int .u8 a_7, .int .u8 a_8, .int .u8 a_9, .int .u8 a_10, .int .u32 a_11, .slice a_12 a_12l a_12c, .int .u8 a_13, .string a_14, .slice a_15 a_15l a_15c, .int .u8 a_16, .int .u16 a_17]] w R :=
 calls_of { isLoc := [1, 3, 4], sym := [], loops := [], joins := [] } Tryz.func167 (by kernel_rfl) h
theorem x_bare (a_0 a_1 a_2 a_3 a_4 a_5 a_6 a_7 a_8 a_9 a_10 a_11 : Int) (a_12 : Option Addr) (a_12l a_12c : Nat) (a_13 : Int) (a_14 : ByteArray) (a_15 : Option Addr) (a_15l a_15c : Nat) (a_16 a_17 : Int) (w : World) (R : Ending → World → Prop) (h :
 ∀ w1, Hid [] w w1 →
 R (.returned (.bool (((a_11 == 0) && (((a_12l : Nat) : Int) == 0)) && (((a_15l : Nat) : Int) == 0)))) w1) :
 Calls Tryz.prog 168 #[.agg #[.int .u8 a_0, .int .u8 a_1, .int .u16 a_2, .int .u32 a_3, .int .u8 a_4, .int .u8 a_5, .int .u8 a_6, .int .u8 a_7, .int .u8 a_8, .int .u8 a_9, .int .u8 a_10, .int .u32 a_11, .slice a_12 a_12l a_12c, .int .u8 a_13, .string a_14, .slice a_15 a_15l a_15c, .int .u8 a_16, .int .u16 a_17]] w R :=
 calls_of { isLoc := [1], sym := [], loops := [], joins := [] } Tryz.func168 (by kernel_rfl) h
theorem x_eRight (a_0 a_1 a_2 a_3 a_4 a_5 a_6 a_7 a_8 a_9 a_10 a_11 : Int) (a_12 : Option Addr) (a_12l a_12c : Nat) (a_13 : Int) (a_14 : ByteArray) (a_15 : Option Addr) (a_15l a_15c : Nat) (a_16 a_17 b : Int) (w : World) (R : Ending → World → Prop) (h :
 if (a_0 == 0) = true then
 ∀ w44 L45, Hid [] w w44 →
 NewL w.heap.size [] w w44 L45 →
 CallX Tryz.prog 166 #[(EnW a_0 a_1 a_2 a_3 a_4 a_5 a_6 a_7 a_8 a_9 a_10 a_11 a_12 a_12l a_12c a_13 a_14 a_15 a_15l a_15c a_16 a_17), .int .u8 b] w44 fun e46 w47 =>
 ∃ b48, e46 = .returned (.bool b48) ∧
 Kept L45 w44 w47 ∧
 R (.returned (.bool ((b48 && ((a_13 == 0) && (a_14 == (ByteArray.mk #[])))) && (((a_15l : Nat) : Int) == 0)))) w47
 else
 if (a_0 == 3) = true then
 ∀ w33 L34, Hid [] w w33 →
 NewL w.heap.size [] w w33 L34 →
 CallX Tryz.prog 166 #[(EnW a_0 a_1 a_2 a_3 a_4 a_5 a_6 a_7 a_8 a_9 a_10 a_11 a_12 a_12l a_12c a_13 a_14 a_15 a_15l a_15c a_16 a_17), .int .u8 b] w33 fun e35 w36 =>
 ∃ b37, e35 = .returned (.bool b37) ∧
 Kept L34 w33 w36 ∧
 if (b37 == true) = true then
 CallX Tryz.prog 113 #[(.agg #[.int .u8 a_13, .string a_14])] w36 fun e38 w39 =>
 ∃ b40, e38 = .returned (.bool b40) ∧
 Kept L34 w36 w39 ∧
 if ((((true && b40) && (a_13 != 4)) && (a_13 != 3)) == true) = true then
 CallX Tryz.prog 167 #[(EnW a_0 a_1 a_2 a_3 a_4 a_5 a_6 a_7 a_8 a_9 a_10 a_11 a_12 a_12l a_12c a_13 a_14 a_15 a_15l a_15c a_16 a_17)] w39 fun e41 w42 =>
 ∃ b43, e41 = .returned (.bool b43) ∧
 Kept L34 w39 w42 ∧
 R (.returned (.bool (true && b43))) w42
 else
 R (.returned (.bool false)) w39
 else
 R (.returned (.bool false)) w36
 else
 if (a_0 == 1) = true then
 ∀ w10 L11, Hid [] w w10 →
 NewL w.heap.size [] w w10 L11 →
 CallX Tryz.prog 112 #[(IdW a_1 a_2 a_3 a_4 a_5 a_6 a_7 a_8 a_9 a_10)] w10 fun e12 w13 =>
 ∃ b14, e12 = .returned (.bool b14) ∧
 Kept L11 w10 w13 ∧
 if ((b14 && decide (a_4 > 0)) == true) = true then
 ((0 : Int) ≤ (IntKind.wrap .u8 (a_4 - 1))) ∧
 ((IntKind.wrap .u8 (a_4 - 1)) < 3) ∧
 ((((IntKind.wrap .u8 (a_4 - 1)) = 0) →
 if ((true && (a_5 == b)) == true) = true then
 CallX Tryz.prog 113 #[(.agg #[.int .u8 a_13, .string a_14])] w13 fun e15 w16 =>
 ∃ b17, e15 = .returned (.bool b17) ∧
 Kept L11 w13 w16 ∧
 if ((true && b17) == true) = true then
 CallX Tryz.prog 168 #[(EnW a_0 a_1 a_2 a_3 a_4 a_5 a_6 a_7 a_8 a_9 a_10 a_11 a_12 a_12l a_12c a_13 a_14 a_15 a_15l a_15c a_16 a_17)] w16 fun e18 w19 =>
 ∃ b20, e18 = .returned (.bool b20) ∧
 Kept L11 w16 w19 ∧
 R (.returned (.bool ((true && b20) && ((a_16 == 0) && (a_17 == 0))))) w19
 else
 R (.returned (.bool (false && ((a_16 == 0) && (a_17 == 0))))) w16
 else
 R (.returned (.bool (false && ((a_16 == 0) && (a_17 == 0))))) w13) ∧
 (((IntKind.wrap .u8 (a_4 - 1)) = 1) →
 if ((true && (a_7 == b)) == true) = true then
 CallX Tryz.prog 113 #[(.agg #[.int .u8 a_13, .string a_14])] w13 fun e21 w22 =>
 ∃ b23, e21 = .returned (.bool b23) ∧
 Kept L11 w13 w22 ∧
 if ((true && b23) == true) = true then
 CallX Tryz.prog 168 #[(EnW a_0 a_1 a_2 a_3 a_4 a_5 a_6 a_7 a_8 a_9 a_10 a_11 a_12 a_12l a_12c a_13 a_14 a_15 a_15l a_15c a_16 a_17)] w22 fun e24 w25 =>
 ∃ b26, e24 = .returned (.bool b26) ∧
 Kept L11 w22 w25 ∧
 R (.returned (.bool ((true && b26) && ((a_16 == 0) && (a_17 == 0))))) w25
 else
 R (.returned (.bool (false && ((a_16 == 0) && (a_17 == 0))))) w22
 else
 R (.returned (.bool (false && ((a_16 == 0) && (a_17 == 0))))) w13)) ∧
 (((IntKind.wrap .u8 (a_4 - 1)) = 2) →
 if ((true && (a_9 == b)) == true) = true then
 CallX Tryz.prog 113 #[(.agg #[.int .u8 a_13, .string a_14])] w13 fun e27 w28 =>
 ∃ b29, e27 = .returned (.bool b29) ∧
 Kept L11 w13 w28 ∧
 if ((true && b29) == true) = true then
 CallX Tryz.prog 168 #[(EnW a_0 a_1 a_2 a_3 a_4 a_5 a_6 a_7 a_8 a_9 a_10 a_11 a_12 a_12l a_12c a_13 a_14 a_15 a_15l a_15c a_16 a_17)] w28 fun e30 w31 =>
 ∃ b32, e30 = .returned (.bool b32) ∧
 Kept L11 w28 w31 ∧
 R (.returned (.bool ((true && b32) && ((a_16 == 0) && (a_17 == 0))))) w31
 else
 R (.returned (.bool (false && ((a_16 == 0) && (a_17 == 0))))) w28
 else
 R (.returned (.bool (false && ((a_16 == 0) && (a_17 == 0))))) w13)
 else
 R (.returned (.bool (false && ((a_16 == 0) && (a_17 == 0))))) w13
 else
 if (a_0 == 2) = true then
 ∀ w2 L3, Hid [] w w2 →
 NewL w.heap.size [] w w2 L3 →
 CallX Tryz.prog 117 #[(.agg #[.int .u8 a_16, .int .u16 a_17])] w2 fun e4 w5 =>
 ∃ b6, e4 = .returned (.bool b6) ∧
 Kept L3 w2 w5 ∧
 if (((b6 && ((a_13 == 0) && (a_14 == (ByteArray.mk #[])))) && (((a_1 == 0) && (a_2 == 0)) && ((a_3 == 0) && ((a_4 == 0) && (((a_5 == 0) && (a_6 == 0)) && (((a_7 == 0) && (a_8 == 0)) && ((a_9 == 0) && (a_10 == 0)))))))) == true) = true then
 CallX Tryz.prog 168 #[(EnW a_0 a_1 a_2 a_3 a_4 a_5 a_6 a_7 a_8 a_9 a_10 a_11 a_12 a_12l a_12c a_13 a_14 a_15 a_15l a_15c a_16 a_17)] w5 fun e7 w8 =>
 ∃ b9, e7 = .returned (.bool b9) ∧
 Kept L3 w5 w8 ∧
 R (.returned (.bool (true && b9))) w8
 else
 R (.returned (.bool false)) w5
 else
 ∀ w1, Hid [] w w1 →
 R (.returned (.bool false)) w1) :
 Calls Tryz.prog 151 #[.agg #[.int .u8 a_0, .int .u8 a_1, .int .u16 a_2, .int .u32 a_3, .int .u8 a_4, .int .u8 a_5, .int .u8 a_6, .int .u8 a_7, .int .u8 a_8, .int .u8 a_9, .int .u8 a_10, .int .u32 a_11, .slice a_12 a_12l a_12c, .int .u8 a_13, .string a_14, .slice a_15 a_15l a_15c, .int .u8 a_16, .int .u16 a_17], .int .u8 b] w R :=
 calls_of { isLoc := [2, 5, 6], sym := [69], loops := [], joins := [] } Tryz.func151 (by kernel_rfl) h
theorem x_rcall (a_0 a_1 a_2 a_3 a_4 a_5 a_6 a_7 a_8 a_9 a_10 a_11 : Int) (a_12 : Option Addr) (a_12l a_12c : Nat) (a_13 : Int) (a_14 : ByteArray) (a_15 : Option Addr) (a_15l a_15c : Nat) (a_16 a_17 b : Int) (w : World) (R : Ending → World → Prop) (h :
 ∀ w1 L2, Hid [] w w1 →
 NewL w.heap.size [] w w1 L2 →
 CallX Tryz.prog 124 #[(IdW a_1 a_2 a_3 a_4 a_5 a_6 a_7 a_8 a_9 a_10)] w1 fun e3 w4 =>
 ∃ b5, e3 = .returned (.bool b5) ∧
 Kept L2 w1 w4 ∧
 if (b5 == true) = true then
 CallX Tryz.prog 125 #[.slice a_12 a_12l a_12c] w4 fun e6 w7 =>
 ∃ b8, e6 = .returned (.bool b8) ∧
 Kept L2 w4 w7 ∧
 if ((true && b8) == true) = true then
 ((0 : Int) ≤ 0) ∧
 ((0 : Int) < ((a_12l : Nat) : Int)) ∧
 onSome a_12 fun p9 =>
 ∃ n10, (w7.cell? ((p9.add 0).add 0) = some (.int .u8 n10)) ∧
 (¬ ((((p9.add 0).add 0).block) ∈ L2)) ∧
 R (.returned (.bool ((((true && (n10 == b)) && decide ((IntKind.wrap .i64 ((IntKind.wrap .i64 a_4) + ((a_12l : Nat) : Int))) ≤ 4)) && decide (a_11 < a_3)) && ((a_16 == 0) && (a_17 == 0))))) w7
 else
 R (.returned (.bool (((false && decide ((IntKind.wrap .i64 ((IntKind.wrap .i64 a_4) + ((a_12l : Nat) : Int))) ≤ 4)) && decide (a_11 < a_3)) && ((a_16 == 0) && (a_17 == 0))))) w7
 else
 R (.returned (.bool (((false && decide ((IntKind.wrap .i64 ((IntKind.wrap .i64 a_4) + ((a_12l : Nat) : Int))) ≤ 4)) && decide (a_11 < a_3)) && ((a_16 == 0) && (a_17 == 0))))) w4) :
 Calls Tryz.prog 170 #[.agg #[.int .u8 a_0, .int .u8 a_1, .int .u16 a_2, .int .u32 a_3, .int .u8 a_4, .int .u8 a_5, .int .u8 a_6, .int .u8 a_7, .int .u8 a_8, .int .u8 a_9, .int .u8 a_10, .int .u32 a_11, .slice a_12 a_12l a_12c, .int .u8 a_13, .string a_14, .slice a_15 a_15l a_15c, .int .u8 a_16, .int .u16 a_17], .int .u8 b] w R :=
 calls_of { isLoc := [2], sym := [], loops := [], joins := [] } Tryz.func170 (by kernel_rfl) h
theorem x_rcheck (a_0 a_1 a_2 a_3 a_4 a_5 a_6 a_7 a_8 a_9 a_10 a_11 : Int) (a_12 : Option Addr) (a_12l a_12c : Nat) (a_13 : Int) (a_14 : ByteArray) (a_15 : Option Addr) (a_15l a_15c : Nat) (a_16 a_17 : Int) (w : World) (R : Ending → World → Prop) (h :
 ((0 : Int) ≤ 0) ∧
 ((0 : Int) < ((a_12l : Nat) : Int)) ∧
 onSome a_12 fun p1 =>
 ∃ n2 n3 s4 s5 n6, (Cells w (p1.add 0) [.int .u8 n2, .int .u8 n3, .string s4, .string s5, .int .i64 n6]) ∧
 ∀ w7 L8, Hid [] w w7 →
 NewL w.heap.size [] w w7 L8 →
 CallX Tryz.prog 126 #[(.agg #[.int .u8 a_13, .string a_14])] w7 fun e9 w10 =>
 ∃ b11, e9 = .returned (.bool b11) ∧
 Kept L8 w7 w10 ∧
 if (((((!b11) || (a_13 == 4)) || (a_13 == 3)) || decide (((a_15l : Nat) : Int) > 1)) || (!((((a_15l : Nat) : Int) == 1) == ((a_13 == 0) && (n3 != 0))))) = true then
 R (.returned (.bool false)) w10
 else
 ∃ x12 : Int → World → List Nat → Prop, ∃ x13 : Int → World → Nat, (x12 0 w10 L8) ∧
 ∀ n14 w15 L16, (LF w.heap.size w15 L16) →
 (x12 n14 w15 L16) →
 if (decide (n14 < ((a_15l : Nat) : Int))) = true then
 ((0 : Int) ≤ n14) ∧
 (n14 < ((a_15l : Nat) : Int)) ∧
 onSome a_15 fun p17 =>
 ∃ s18 s19 b20, (Cells w15 (p17.add ((n14).toNat * 3)) [.string s18, .string s19, .bool b20]) ∧
 (¬ (((p17.add (n14.toNat * 3)).block) ∈ L16)) ∧
 if (((!((s18.toList) == (s4.toList))) || decide ((((s19.size) : Nat) : Int) > 64)) || ((!b20) && (!((s19.toList) == ((ByteArray.mk #[]).toList))))) = true then
 ∀ w23, Hid L16 w15 w23 →
 R (.returned (.bool false)) w23
 else
 ∀ w21 L22, Hid L16 w15 w21 →
 NewL w.heap.size L16 w15 w21 L22 →
 (([.int .u8 a_0, .int .u8 a_1, .int .u16 a_2, .int .u32 a_3, .int .u8 a_4, .int .u8 a_5, .int .u8 a_6, .int .u8 a_7, .int .u8 a_8, .int .u8 a_9, .int .u8 a_10, .int .u32 a_11, .slice a_12 a_12l a_12c, .int .u8 a_13, .string a_14, .slice a_15 a_15l a_15c, .int .u8 a_16, .int .u16 a_17] : List Value) = [.int .u8 a_0, .int .u8 a_1, .int .u16 a_2, .int .u32 a_3, .int .u8 a_4, .int .u8 a_5, .int .u8 a_6, .int .u8 a_7, .int .u8 a_8, .int .u8 a_9, .int .u8 a_10, .int .u32 a_11, .slice a_12 a_12l a_12c, .int .u8 a_13, .string a_14, .slice a_15 a_15l a_15c, .int .u8 a_16, .int .u16 a_17]) ∧
 (([.int .u8 n2, .int .u8 n3, .string s4, .string s5, .int .i64 n6] : List Value) = [.int .u8 n2, .int .u8 n3, .string s4, .string s5, .int .i64 n6]) ∧
 (x12 (IntKind.wrap .i64 (n14 + 1)) w21 L22) ∧
 Nat.le ((x13 (IntKind.wrap .i64 (n14 + 1)) w21) + 1) (x13 n14 w15)
 else
 R (.returned (.bool true)) w15) :
 Calls Tryz.prog 171 #[.agg #[.int .u8 a_0, .int .u8 a_1, .int .u16 a_2, .int .u32 a_3, .int .u8 a_4, .int .u8 a_5, .int .u8 a_6, .int .u8 a_7, .int .u8 a_8, .int .u8 a_9, .int .u8 a_10, .int .u32 a_11, .slice a_12 a_12l a_12c, .int .u8 a_13, .string a_14, .slice a_15 a_15l a_15c, .int .u8 a_16, .int .u16 a_17]] w R :=
 calls_of { isLoc := [1, 3, 6], sym := [], loops := [(6, .inv [(5, .int .i64)] [] true)], joins := [] } Tryz.func171 (by kernel_rfl) h
theorem x_r5Right (a_0 a_1 a_2 a_3 a_4 a_5 a_6 a_7 a_8 a_9 a_10 a_11 : Int) (a_12 : Option Addr) (a_12l a_12c : Nat) (a_13 : Int) (a_14 : ByteArray) (a_15 : Option Addr) (a_15l a_15c : Nat) (a_16 a_17 b : Int) (w : World) (R : Ending → World → Prop) (h :
 if (a_0 == 0) = true then
 ∀ w29 L30, Hid [] w w29 →
 NewL w.heap.size [] w w29 L30 →
 CallX Tryz.prog 170 #[(EnW a_0 a_1 a_2 a_3 a_4 a_5 a_6 a_7 a_8 a_9 a_10 a_11 a_12 a_12l a_12c a_13 a_14 a_15 a_15l a_15c a_16 a_17), .int .u8 b] w29 fun e31 w32 =>
 ∃ b33, e31 = .returned (.bool b33) ∧
 Kept L30 w29 w32 ∧
 R (.returned (.bool ((b33 && ((a_13 == 0) && (a_14 == (ByteArray.mk #[])))) && (((a_15l : Nat) : Int) == 0)))) w32
 else
 if (a_0 == 3) = true then
 ∀ w21 L22, Hid [] w w21 →
 NewL w.heap.size [] w w21 L22 →
 CallX Tryz.prog 170 #[(EnW a_0 a_1 a_2 a_3 a_4 a_5 a_6 a_7 a_8 a_9 a_10 a_11 a_12 a_12l a_12c a_13 a_14 a_15 a_15l a_15c a_16 a_17), .int .u8 b] w21 fun e23 w24 =>
 ∃ b25, e23 = .returned (.bool b25) ∧
 Kept L22 w21 w24 ∧
 if (b25 == true) = true then
 CallX Tryz.prog 171 #[(EnW a_0 a_1 a_2 a_3 a_4 a_5 a_6 a_7 a_8 a_9 a_10 a_11 a_12 a_12l a_12c a_13 a_14 a_15 a_15l a_15c a_16 a_17)] w24 fun e26 w27 =>
 ∃ b28, e26 = .returned (.bool b28) ∧
 Kept L22 w24 w27 ∧
 R (.returned (.bool (true && b28))) w27
 else
 R (.returned (.bool false)) w24
 else
 if (a_0 == 1) = true then
 ∀ w7 L8, Hid [] w w7 →
 NewL w.heap.size [] w w7 L8 →
 CallX Tryz.prog 124 #[(IdW a_1 a_2 a_3 a_4 a_5 a_6 a_7 a_8 a_9 a_10)] w7 fun e9 w10 =>
 ∃ b11, e9 = .returned (.bool b11) ∧
 Kept L8 w7 w10 ∧
 if ((b11 && decide (a_4 > 0)) == true) = true then
 ((0 : Int) ≤ (IntKind.wrap .u8 (a_4 - 1))) ∧
 ((IntKind.wrap .u8 (a_4 - 1)) < 3) ∧
 ((((IntKind.wrap .u8 (a_4 - 1)) = 0) →
 if ((true && (a_5 == b)) == true) = true then
 CallX Tryz.prog 126 #[(.agg #[.int .u8 a_13, .string a_14])] w10 fun e12 w13 =>
 ∃ b14, e12 = .returned (.bool b14) ∧
 Kept L8 w10 w13 ∧
 R (.returned (.bool ((((true && b14) && (a_11 == 0)) && ((IntKind.wrap .i64 (((a_12l : Nat) : Int) + ((a_15l : Nat) : Int))) == 0)) && ((a_16 == 0) && (a_17 == 0))))) w13
 else
 R (.returned (.bool (((false && (a_11 == 0)) && ((IntKind.wrap .i64 (((a_12l : Nat) : Int) + ((a_15l : Nat) : Int))) == 0)) && ((a_16 == 0) && (a_17 == 0))))) w10) ∧
 (((IntKind.wrap .u8 (a_4 - 1)) = 1) →
 if ((true && (a_7 == b)) == true) = true then
 CallX Tryz.prog 126 #[(.agg #[.int .u8 a_13, .string a_14])] w10 fun e15 w16 =>
 ∃ b17, e15 = .returned (.bool b17) ∧
 Kept L8 w10 w16 ∧
 R (.returned (.bool ((((true && b17) && (a_11 == 0)) && ((IntKind.wrap .i64 (((a_12l : Nat) : Int) + ((a_15l : Nat) : Int))) == 0)) && ((a_16 == 0) && (a_17 == 0))))) w16
 else
 R (.returned (.bool (((false && (a_11 == 0)) && ((IntKind.wrap .i64 (((a_12l : Nat) : Int) + ((a_15l : Nat) : Int))) == 0)) && ((a_16 == 0) && (a_17 == 0))))) w10)) ∧
 (((IntKind.wrap .u8 (a_4 - 1)) = 2) →
 if ((true && (a_9 == b)) == true) = true then
 CallX Tryz.prog 126 #[(.agg #[.int .u8 a_13, .string a_14])] w10 fun e18 w19 =>
 ∃ b20, e18 = .returned (.bool b20) ∧
 Kept L8 w10 w19 ∧
 R (.returned (.bool ((((true && b20) && (a_11 == 0)) && ((IntKind.wrap .i64 (((a_12l : Nat) : Int) + ((a_15l : Nat) : Int))) == 0)) && ((a_16 == 0) && (a_17 == 0))))) w19
 else
 R (.returned (.bool (((false && (a_11 == 0)) && ((IntKind.wrap .i64 (((a_12l : Nat) : Int) + ((a_15l : Nat) : Int))) == 0)) && ((a_16 == 0) && (a_17 == 0))))) w10)
 else
 R (.returned (.bool (((false && (a_11 == 0)) && ((IntKind.wrap .i64 (((a_12l : Nat) : Int) + ((a_15l : Nat) : Int))) == 0)) && ((a_16 == 0) && (a_17 == 0))))) w10
 else
 if (a_0 == 2) = true then
 ∀ w2 L3, Hid [] w w2 →
 NewL w.heap.size [] w w2 L3 →
 CallX Tryz.prog 129 #[(.agg #[.int .u8 a_16, .int .u16 a_17])] w2 fun e4 w5 =>
 ∃ b6, e4 = .returned (.bool b6) ∧
 Kept L3 w2 w5 ∧
 R (.returned (.bool ((((b6 && ((a_13 == 0) && (a_14 == (ByteArray.mk #[])))) && (((a_1 == 0) && (a_2 == 0)) && ((a_3 == 0) && ((a_4 == 0) && (((a_5 == 0) && (a_6 == 0)) && (((a_7 == 0) && (a_8 == 0)) && ((a_9 == 0) && (a_10 == 0)))))))) && (a_11 == 0)) && ((IntKind.wrap .i64 (((a_12l : Nat) : Int) + ((a_15l : Nat) : Int))) == 0)))) w5
 else
 ∀ w1, Hid [] w w1 →
 R (.returned (.bool false)) w1) :
 Calls Tryz.prog 155 #[.agg #[.int .u8 a_0, .int .u8 a_1, .int .u16 a_2, .int .u32 a_3, .int .u8 a_4, .int .u8 a_5, .int .u8 a_6, .int .u8 a_7, .int .u8 a_8, .int .u8 a_9, .int .u8 a_10, .int .u32 a_11, .slice a_12 a_12l a_12c, .int .u8 a_13, .string a_14, .slice a_15 a_15l a_15c, .int .u8 a_16, .int .u16 a_17], .int .u8 b] w R :=
 calls_of { isLoc := [2, 6], sym := [52], loops := [], joins := [] } Tryz.func155 (by kernel_rfl) h
end Go.Proofs
/- The verification conditions of this seat's functions, as the engine has them: printed by a program of the bench; checked by the kernel. -/
namespace Go.Proofs
open Go X
theorem x_Procs (a : Option Addr) (al ac : Nat) (w : World) (R : Ending → World → Prop) (h :
 ∃ x1 : Option Addr → Nat → Nat → Int → World → List Nat → Prop, ∃ x2 : Option Addr → Nat → Nat → Int → World → Nat, (x1 none 0 0 0 w []) ∧
 ∀ q3 k4 k5 n6 w7 L8, (LF w.heap.size w7 L8) →
 (x1 q3 k4 k5 n6 w7 L8) →
 if (decide (n6 < ((al : Nat) : Int))) = true then
 ((0 : Int) ≤ n6) ∧
 (n6 < ((al : Nat) : Int)) ∧
 onSome a fun p9 =>
 ∃ n10 n11, (Cells w7 (p9.add ((n6).toNat * 2)) [.int .u8 n10, .int .u16 n11]) ∧
 CallX Tryz.prog 27 #[(.agg #[.int .u8 n10, .int .u16 n11])] w7 fun e12 w13 =>
 ∃ n14 n15, e12 = .returned (.agg #[.int .u8 n14, .int .u16 n15]) ∧
 w7.heap.size ≤ w13.heap.size ∧
 ∃ q16 k17 k18 w19, (Sem.run Tryz.prog (Go.Builtin.append_ #[54, 54] 54 #[.slice q3 k4 k5, .slice (some ⟨w13.heap.size, 0, none⟩) 1 1]) (w13.alloc (.cells #[.int .u8 n14, .int .u16 n15] 47)) = .ok (.slice q16 k17 k18) w19) ∧
 (((w13.alloc (.cells #[.int .u8 n14, .int .u16 n15] 47))).heap.size ≤ w19.heap.size) ∧
 (x1 q16 k17 k18 (IntKind.wrap .i64 (n6 + 1)) w19 []) ∧
 Nat.le ((x2 q16 k17 k18 (IntKind.wrap .i64 (n6 + 1)) w19) + 1) (x2 q3 k4 k5 n6 w7)
 else
 R (.returned (.slice q3 k4 k5)) w7) :
 Calls Tryz.prog 28 #[.slice a al ac] w R :=
 calls_of { isLoc := [], sym := [], loops := [(3, .inv [(3, .slice), (4, .int .i64)] [] true)], joins := [] } Tryz.func28 (by kernel_rfl) h
theorem x_EqualPr (a : Option Addr) (al ac : Nat) (b : Option Addr) (bl bc : Nat) (w : World) (R : Ending → World → Prop) (h :
 if (((al : Nat) : Int) != ((bl : Nat) : Int)) = true then
 R (.returned (.bool false)) w
 else
 ∃ x1 : Int → World → List Nat → Prop, ∃ x2 : Int → World → Nat, (x1 0 w []) ∧
 ∀ n3 w4 L5, (LF w.heap.size w4 L5) →
 (x1 n3 w4 L5) →
 if (decide (n3 < ((al : Nat) : Int))) = true then
 ((0 : Int) ≤ n3) ∧
 (n3 < ((al : Nat) : Int)) ∧
 onSome a fun p6 =>
 ∃ n7 n8, (Cells w4 (p6.add ((n3).toNat * 2)) [.int .u8 n7, .int .u16 n8]) ∧
 ((0 : Int) ≤ n3) ∧
 (n3 < ((bl : Nat) : Int)) ∧
 onSome b fun p9 =>
 ∃ n10 n11, (Cells w4 (p9.add ((n3).toNat * 2)) [.int .u8 n10, .int .u16 n11]) ∧
 if (!((n7 == n10) && (n8 == n11))) = true then
 ∀ w13, Hid [] w4 w13 →
 R (.returned (.bool false)) w13
 else
 ∀ w12, Hid [] w4 w12 →
 (x1 (IntKind.wrap .i64 (n3 + 1)) w12 []) ∧
 Nat.le ((x2 (IntKind.wrap .i64 (n3 + 1)) w12) + 1) (x2 n3 w4)
 else
 R (.returned (.bool true)) w4) :
 Calls Tryz.prog 55 #[.slice a al ac, .slice b bl bc] w R :=
 calls_of { isLoc := [], sym := [], loops := [(4, .inv [(13, .int .i64)] [] true)], joins := [] } Tryz.func55 (by kernel_rfl) h
theorem x_SameProcs (a : Option Addr) (al ac : Nat) (b : Option Addr) (bl bc : Nat) (w : World) (R : Ending → World → Prop) (h :
 if (((al : Nat) : Int) != ((bl : Nat) : Int)) = true then
 R (.returned (.bool false)) w
 else
 ∃ x1 : Int → World → List Nat → Prop, ∃ x2 : Int → World → Nat, (x1 0 w []) ∧
 ∀ n3 w4 L5, (LF w.heap.size w4 L5) →
 (x1 n3 w4 L5) →
 if (decide (n3 < ((al : Nat) : Int))) = true then
 ((0 : Int) ≤ n3) ∧
 (n3 < ((al : Nat) : Int)) ∧
 onSome a fun p6 =>
 ∃ n7 n8, (Cells w4 (p6.add ((n3).toNat * 2)) [.int .u8 n7, .int .u16 n8]) ∧
 ((0 : Int) ≤ n3) ∧
 (n3 < ((bl : Nat) : Int)) ∧
 onSome b fun p9 =>
 ∃ n10 n11, (Cells w4 (p9.add ((n3).toNat * 2)) [.int .u8 n10, .int .u16 n11]) ∧
 if (!((n7 == n10) && (n8 == n11))) = true then
 ∀ w13, Hid [] w4 w13 →
 R (.returned (.bool false)) w13
 else
 ∀ w12, Hid [] w4 w12 →
 (x1 (IntKind.wrap .i64 (n3 + 1)) w12 []) ∧
 Nat.le ((x2 (IntKind.wrap .i64 (n3 + 1)) w12) + 1) (x2 n3 w4)
 else
 R (.returned (.bool true)) w4) :
 Calls Tryz.prog 44 #[.slice a al ac, .slice b bl bc] w R :=
 calls_of { isLoc := [], sym := [], loops := [(4, .inv [(5, .int .i64)] [] true)], joins := [] } Tryz.func44 (by kernel_rfl) h
theorem x_rSameAll (a : Option Addr) (al ac : Nat) (b : Option Addr) (bl bc : Nat) (w : World) (R : Ending → World → Prop) (h :
 if (((al : Nat) : Int) != ((bl : Nat) : Int)) = true then
 R (.returned (.bool false)) w
 else
 ∃ x1 : Int → World → List Nat → Prop, ∃ x2 : Int → World → Nat, (x1 0 w []) ∧
 ∀ n3 w4 L5, (LF w.heap.size w4 L5) →
 (x1 n3 w4 L5) →
 if (decide (n3 < ((al : Nat) : Int))) = true then
 ∃ x6, (FactsW x6 w4 []) ∧
 ((0 : Int) ≤ n3) ∧
 (n3 < ((al : Nat) : Int)) ∧
 onSome a fun p7 =>
 ∃ n8 n9 n10 n11 n12 n13 n14 n15 n16 n17 n18 n19 q20 k21 k22 n23 s24 q25 k26 k27 n28 n29, (((p7.add ((n3).toNat * 18)), [.int .u8 n8, .int .u8 n9, .int .u16 n10, .int .u32 n11, .int .u8 n12, .int .u8 n13, .int .u8 n14, .int .u8 n15, .int .u8 n16, .int .u8 n17, .int .u8 n18, .int .u32 n19, .slice q20 k21 k22, .int .u8 n23, .string s24, .slice q25 k26 k27, .int .u8 n28, .int .u16 n29]) ∈ x6) ∧
 ((0 : Int) ≤ n3) ∧
 (n3 < ((bl : Nat) : Int)) ∧
 onSome b fun p30 =>
 ∃ n31 n32 n33 n34 n35 n36 n37 n38 n39 n40 n41 n42 q43 k44 k45 n46 s47 q48 k49 k50 n51 n52, (((p30.add ((n3).toNat * 18)), [.int .u8 n31, .int .u8 n32, .int .u16 n33, .int .u32 n34, .int .u8 n35, .int .u8 n36, .int .u8 n37, .int .u8 n38, .int .u8 n39, .int .u8 n40, .int .u8 n41, .int .u32 n42, .slice q43 k44 k45, .int .u8 n46, .string s47, .slice q48 k49 k50, .int .u8 n51, .int .u16 n52]) ∈ x6) ∧
 ∀ w53, Hid [] w4 w53 →
 CallX Tryz.prog 105 #[(EnW n8 n9 n10 n11 n12 n13 n14 n15 n16 n17 n18 n19 q20 k21 k22 n23 s24 q25 k26 k27 n28 n29), (EnW n31 n32 n33 n34 n35 n36 n37 n38 n39 n40 n41 n42 q43 k44 k45 n46 s47 q48 k49 k50 n51 n52)] w53 fun e54 w55 =>
 ∃ b56, e54 = .returned (.bool b56) ∧
 w53.heap.size ≤ w55.heap.size ∧
 if (!b56) = true then
 R (.returned (.bool false)) w55
 else
 (x1 (IntKind.wrap .i64 (n3 + 1)) w55 []) ∧
 Nat.le ((x2 (IntKind.wrap .i64 (n3 + 1)) w55) + 1) (x2 n3 w4)
 else
 R (.returned (.bool true)) w4) :
 Calls Tryz.prog 45 #[.slice a al ac, .slice b bl bc] w R :=
 calls_of { isLoc := [], sym := [], loops := [(4, .inv [(5, .int .i64)] [] true)], joins := [] } Tryz.func45 (by kernel_rfl) h
theorem x_Owns (a : Option Addr) (al ac : Nat) (w : World) (R : Ending → World → Prop) (h :
 ∃ x1 : Option Addr → Nat → Nat → Int → World → List Nat → Prop, ∃ x2 : Option Addr → Nat → Nat → Int → World → Nat, (x1 none 0 0 0 w []) ∧
 ∀ q3 k4 k5 n6 w7 L8, (LF w.heap.size w7 L8) →
 (x1 q3 k4 k5 n6 w7 L8) →
 if (decide (n6 < ((al : Nat) : Int))) = true then
 ((0 : Int) ≤ n6) ∧
 (n6 < ((al : Nat) : Int)) ∧
 onSome a fun p9 =>
 ∃ n10 n11 n12 n13 n14 n15 n16 n17 n18 n19 n20 n21 q22 k23 k24 n25 s26 q27 k28 k29 n30 n31, (Cells w7 (p9.add ((n6).toNat * 18)) [.int .u8 n10, .int .u8 n11, .int .u16 n12, .int .u32 n13, .int .u8 n14, .int .u8 n15, .int .u8 n16, .int .u8 n17, .int .u8 n18, .int .u8 n19, .int .u8 n20, .int .u32 n21, .slice q22 k23 k24, .int .u8 n25, .string s26, .slice q27 k28 k29, .int .u8 n30, .int .u16 n31]) ∧
 CallX Tryz.prog 70 #[(EnW n10 n11 n12 n13 n14 n15 n16 n17 n18 n19 n20 n21 q22 k23 k24 n25 s26 q27 k28 k29 n30 n31)] w7 fun e32 w33 =>
 ∃ n34 n35 n36 n37 n38 n39 n40 n41 n42 n43 n44 n45 q46 k47 k48 n49 s50 q51 k52 k53 n54 n55, e32 = .returned (EnW n34 n35 n36 n37 n38 n39 n40 n41 n42 n43 n44 n45 q46 k47 k48 n49 s50 q51 k52 k53 n54 n55) ∧
 w7.heap.size ≤ w33.heap.size ∧
 ∃ q56 k57 k58 w59, (Sem.run Tryz.prog (Go.Builtin.append_ #[57, 57] 57 #[.slice q3 k4 k5, .slice (some ⟨w33.heap.size, 0, none⟩) 1 1]) (w33.alloc (.cells #[.int .u8 n34, .int .u8 n35, .int .u16 n36, .int .u32 n37, .int .u8 n38, .int .u8 n39, .int .u8 n40, .int .u8 n41, .int .u8 n42, .int .u8 n43, .int .u8 n44, .int .u32 n45, .slice q46 k47 k48, .int .u8 n49, .string s50, .slice q51 k52 k53, .int .u8 n54, .int .u16 n55] 142)) = .ok (.slice q56 k57 k58) w59) ∧
 (((w33.alloc (.cells #[.int .u8 n34, .int .u8 n35, .int .u16 n36, .int .u32 n37, .int .u8 n38, .int .u8 n39, .int .u8 n40, .int .u8 n41, .int .u8 n42, .int .u8 n43, .int .u8 n44, .int .u32 n45, .slice q46 k47 k48, .int .u8 n49, .string s50, .slice q51 k52 k53, .int .u8 n54, .int .u16 n55] 142))).heap.size ≤ w59.heap.size) ∧
 (x1 q56 k57 k58 (IntKind.wrap .i64 (n6 + 1)) w59 []) ∧
 Nat.le ((x2 q56 k57 k58 (IntKind.wrap .i64 (n6 + 1)) w59) + 1) (x2 q3 k4 k5 n6 w7)
 else
 R (.returned (.slice q3 k4 k5)) w7) :
 Calls Tryz.prog 29 #[.slice a al ac] w R :=
 calls_of { isLoc := [], sym := [], loops := [(3, .inv [(3, .slice), (4, .int .i64)] [] true)], joins := [] } Tryz.func29 (by kernel_rfl) h
theorem x_eSameAll (a : Option Addr) (al ac : Nat) (b : Option Addr) (bl bc : Nat) (w : World) (R : Ending → World → Prop) (h :
 CallX Tryz.prog 109 #[.slice a al ac, .slice b bl bc, (.func (.func 110) #[] #[])] w fun e1 w2 =>
 ∃ b3, e1 = .returned (.bool b3) ∧
 (w.heap.size ≤ w2.heap.size) ∧
 R (.returned (.bool b3)) w2) :
 Calls Tryz.prog 56 #[.slice a al ac, .slice b bl bc] w R :=
 calls_of { isLoc := [], sym := [], loops := [], joins := [] } Tryz.func56 (by kernel_rfl) h
theorem x_EqualFuncE (a : Option Addr) (al ac : Nat) (b : Option Addr) (bl bc : Nat) (w : World) (R : Ending → World → Prop) (h :
 if (((al : Nat) : Int) != ((bl : Nat) : Int)) = true then
 R (.returned (.bool false)) w
 else
 ∃ x1 : Int → World → List Nat → Prop, ∃ x2 : Int → World → Nat, (x1 0 w []) ∧
 ∀ n3 w4 L5, (LF w.heap.size w4 L5) →
 (x1 n3 w4 L5) →
 if (decide (n3 < ((al : Nat) : Int))) = true then
 ((0 : Int) ≤ n3) ∧
 (n3 < ((al : Nat) : Int)) ∧
 onSome a fun p6 =>
 ∃ n7 n8 n9 n10 n11 n12 n13 n14 n15 n16 n17 n18 q19 k20 k21 n22 s23 q24 k25 k26 n27 n28, (Cells w4 (p6.add ((n3).toNat * 18)) [.int .u8 n7, .int .u8 n8, .int .u16 n9, .int .u32 n10, .int .u8 n11, .int .u8 n12, .int .u8 n13, .int .u8 n14, .int .u8 n15, .int .u8 n16, .int .u8 n17, .int .u32 n18, .slice q19 k20 k21, .int .u8 n22, .string s23, .slice q24 k25 k26, .int .u8 n27, .int .u16 n28]) ∧
 ((0 : Int) ≤ n3) ∧
 (n3 < ((bl : Nat) : Int)) ∧
 onSome b fun p29 =>
 ∃ n30 n31 n32 n33 n34 n35 n36 n37 n38 n39 n40 n41 q42 k43 k44 n45 s46 q47 k48 k49 n50 n51, (Cells w4 (p29.add ((n3).toNat * 18)) [.int .u8 n30, .int .u8 n31, .int .u16 n32, .int .u32 n33, .int .u8 n34, .int .u8 n35, .int .u8 n36, .int .u8 n37, .int .u8 n38, .int .u8 n39, .int .u8 n40, .int .u32 n41, .slice q42 k43 k44, .int .u8 n45, .string s46, .slice q47 k48 k49, .int .u8 n50, .int .u16 n51]) ∧
 ∀ w52 L53, Hid [] w4 w52 →
 NewL w.heap.size [] w4 w52 L53 →
 CallX Tryz.prog (OfNat.ofNat 110) #[(EnW n7 n8 n9 n10 n11 n12 n13 n14 n15 n16 n17 n18 q19 k20 k21 n22 s23 q24 k25 k26 n27 n28), (EnW n30 n31 n32 n33 n34 n35 n36 n37 n38 n39 n40 n41 q42 k43 k44 n45 s46 q47 k48 k49 n50 n51)] w52 fun e54 w55 =>
 ∃ b56, e54 = .returned (.bool b56) ∧
 Kept L53 w52 w55 ∧
 if (!b56) = true then
 R (.returned (.bool false)) w55
 else
 (x1 (IntKind.wrap .i64 (n3 + 1)) w55 L53) ∧
 Nat.le ((x2 (IntKind.wrap .i64 (n3 + 1)) w55) + 1) (x2 n3 w4)
 else
 R (.returned (.bool true)) w4) :
 Calls Tryz.prog 109 #[.slice a al ac, .slice b bl bc, .func (.func 110) #[] #[]] w R :=
 calls_of { isLoc := [8, 9], sym := [], loops := [(4, .inv [(17, .int .i64)] [] true)], joins := [] } Tryz.func109 (by kernel_rfl) h
theorem x_vRight (a_0 a_1 : Int) (a_2 : Option Addr) (a_2l a_2c : Nat) (w : World) (R : Ending → World → Prop) (h :
 if (((decide (a_0 ≥ 4) || (a_1 == 0)) || (((a_2l : Nat) : Int) == 0)) || decide (((a_2l : Nat) : Int) > 8)) = true then
 ∀ w17, Hid [] w w17 →
 R (.returned (.bool false)) w17
 else
 ∀ w1 L2, Hid [] w w1 →
 NewL w.heap.size [] w w1 L2 →
 ∃ x3 : Int → World → List Nat → Prop, ∃ x4 : Int → World → Nat, (x3 0 (w1.alloc (.cells #[.bool false, .bool false, .bool false, .bool false, .bool false, .bool false, .bool false, .bool false, .bool false, .bool false, .bool false, .bool false, .bool false, .bool false, .bool false, .bool false] 216)) L2) ∧
 ∀ n5 w6 L7, (LF w.heap.size w6 L7) →
 (x3 n5 w6 L7) →
 if (decide (n5 < ((a_2l : Nat) : Int))) = true then
 ((0 : Int) ≤ n5) ∧
 (n5 < ((a_2l : Nat) : Int)) ∧
 onSome a_2 fun p8 =>
 ∃ n9 n10, (Cells w6 (p8.add ((n5).toNat * 2)) [.int .u8 n9, .int .u16 n10]) ∧
 (¬ (((p8.add (n5.toNat * 2)).block) ∈ L7)) ∧
 ∀ w11 L12, Hid L7 w6 w11 →
 NewL w.heap.size L7 w6 w11 L12 →
 CallX Tryz.prog 117 #[(.agg #[.int .u8 n9, .int .u16 n10])] w11 fun e13 w14 =>
 ∃ b15, e13 = .returned (.bool b15) ∧
 Kept L12 w11 w14 ∧
 if ((!b15) == false) = true then
 ((0 : Int) ≤ n9) ∧
 (n9 < 16) ∧
 ∃ b16, (w14.cell? ((⟨w1.heap.size, 0, none⟩ : Addr).add ((n9).toNat * 1)) = some (.bool b16)) ∧
 (¬ ((((Addr.mk w1.heap.size 0 none).add (n9.toNat * 1)).block) ∈ L12)) ∧
 if (false || b16) = true then
 R (.returned (.bool false)) w14
 else
 ((0 : Int) ≤ n9) ∧
 (n9 < 16) ∧
 ((((Addr.mk w1.heap.size 0 none).add (n9.toNat * 1)).spot) = none) ∧
 w14.there (((Addr.mk w1.heap.size 0 none).add (n9.toNat * 1)).block) (((Addr.mk w1.heap.size 0 none).add (n9.toNat * 1)).off) 1 ∧
 (¬ ((((Addr.mk w1.heap.size 0 none).add (n9.toNat * 1)).block) ∈ L12)) ∧
 (([.int .u8 a_0, .int .u32 a_1, .slice a_2 a_2l a_2c] : List Value) = [.int .u8 a_0, .int .u32 a_1, .slice a_2 a_2l a_2c]) ∧
 (x3 (IntKind.wrap .i64 (n5 + 1)) (w14.setCells (((Addr.mk w1.heap.size 0 none).add (n9.toNat * 1)).block) (((Addr.mk w1.heap.size 0 none).add (n9.toNat * 1)).off) [.bool true]) L12) ∧
 Nat.le ((x4 (IntKind.wrap .i64 (n5 + 1)) (w14.setCells (((Addr.mk w1.heap.size 0 none).add (n9.toNat * 1)).block) (((Addr.mk w1.heap.size 0 none).add (n9.toNat * 1)).off) [.bool true])) + 1) (x4 n5 w6)
 else
 R (.returned (.bool false)) w14
 else
 R (.returned (.bool true)) w6) :
 Calls Tryz.prog 114 #[.agg #[.int .u8 a_0, .int .u32 a_1, .slice a_2 a_2l a_2c]] w R :=
 calls_of { isLoc := [1, 5], sym := [39, 44], loops := [(5, .inv [(29, .int .i64)] [] true)], joins := [] } Tryz.func114 (by kernel_rfl) h
theorem x_rRight (a_0 a_1 : Int) (a_2 : Option Addr) (a_2l a_2c : Nat) (w : World) (R : Ending → World → Prop) (h :
 if (((decide (a_0 ≥ 4) || decide (a_1 < 1)) || decide (((a_2l : Nat) : Int) < 1)) || decide (((a_2l : Nat) : Int) > 8)) = true then
 ∀ w26, Hid [] w w26 →
 R (.returned (.bool false)) w26
 else
 ∀ w1 L2, Hid [] w w1 →
 NewL w.heap.size [] w w1 L2 →
 ∃ x3 : Int → World → List Nat → Prop, ∃ x4 : Int → World → Nat, (x3 0 w1 L2) ∧
 ∀ n5 w6 L7, (LF w.heap.size w6 L7) →
 (x3 n5 w6 L7) →
 if (decide (n5 < ((a_2l : Nat) : Int))) = true then
 ((0 : Int) ≤ n5) ∧
 (n5 < ((a_2l : Nat) : Int)) ∧
 onSome a_2 fun p8 =>
 ∃ n9 n10, (Cells w6 (p8.add ((n5).toNat * 2)) [.int .u8 n9, .int .u16 n10]) ∧
 (¬ (((p8.add (n5.toNat * 2)).block) ∈ L7)) ∧
 CallX Tryz.prog 129 #[(.agg #[.int .u8 n9, .int .u16 n10])] w6 fun e11 w12 =>
 ∃ b13, e11 = .returned (.bool b13) ∧
 Kept L7 w6 w12 ∧
 if (!b13) = true then
 R (.returned (.bool false)) w12
 else
 ∃ x14 : Int → World → List Nat → Prop, ∃ x15 : Int → World → Nat, (x14 0 w12 L7) ∧
 ∀ n16 w17 L18, (LF w.heap.size w17 L18) →
 (x14 n16 w17 L18) →
 if (decide (n16 < n5)) = true then
 ((0 : Int) ≤ n16) ∧
 (n16 < ((a_2l : Nat) : Int)) ∧
 onSome a_2 fun p19 =>
 ∃ n20, (w17.cell? ((p19.add ((n16).toNat * 2)).add 0) = some (.int .u8 n20)) ∧
 (¬ ((((p19.add (n16.toNat * 2)).add 0).block) ∈ L18)) ∧
 ((0 : Int) ≤ n5) ∧
 (n5 < ((a_2l : Nat) : Int)) ∧
 onSome a_2 fun p21 =>
 ∃ n22, (w17.cell? ((p21.add ((n5).toNat * 2)).add 0) = some (.int .u8 n22)) ∧
 (¬ ((((p21.add (n5.toNat * 2)).add 0).block) ∈ L18)) ∧
 if (n20 == n22) = true then
 ∀ w25, Hid L18 w17 w25 →
 R (.returned (.bool false)) w25
 else
 ∀ w23 L24, Hid L18 w17 w23 →
 NewL w.heap.size L18 w17 w23 L24 →
 (([.int .u8 a_0, .int .u32 a_1, .slice a_2 a_2l a_2c] : List Value) = [.int .u8 a_0, .int .u32 a_1, .slice a_2 a_2l a_2c]) ∧
 (x14 (IntKind.wrap .i64 (n16 + 1)) w23 L24) ∧
 Nat.le ((x15 (IntKind.wrap .i64 (n16 + 1)) w23) + 1) (x15 n16 w17)
 else
 (([.int .u8 a_0, .int .u32 a_1, .slice a_2 a_2l a_2c] : List Value) = [.int .u8 a_0, .int .u32 a_1, .slice a_2 a_2l a_2c]) ∧
 (x3 (IntKind.wrap .i64 (n5 + 1)) w17 L18) ∧
 Nat.le ((x4 (IntKind.wrap .i64 (n5 + 1)) w17) + 1) (x4 n5 w6)
 else
 R (.returned (.bool true)) w6) :
 Calls Tryz.prog 127 #[.agg #[.int .u8 a_0, .int .u32 a_1, .slice a_2 a_2l a_2c]] w R :=
 calls_of { isLoc := [1], sym := [], loops := [(4, .inv [(3, .int .i64)] [] true), (9, .inv [(4, .int .i64)] [] true)], joins := [] } Tryz.func127 (by kernel_rfl) h
theorem x_Own6 (a_0 a_1 : Int) (a_2 : Option Addr) (a_2l a_2c : Nat) (w : World) (R : Ending → World → Prop) (h :
 ∃ x1, (FactsW x1 w []) ∧
 ∀ w2 L3, Hid [] w w2 →
 NewL w.heap.size [] w w2 L3 →
 CallX Tryz.prog 28 #[.slice a_2 a_2l a_2c] w2 fun e4 w5 =>
 ∃ q6 k7 k8, e4 = .returned (.slice q6 k7 k8) ∧
 Kept L3 w2 w5 ∧
 FactsW x1 w5 L3 ∧
 ∀ w9, Hid L3 w5 w9 →
 R (.returned (.agg #[.int .u8 a_0, .int .u32 a_1, .slice q6 k7 k8])) w9) :
 Calls Tryz.prog 26 #[.agg #[.int .u8 a_0, .int .u32 a_1, .slice a_2 a_2l a_2c]] w R :=
 calls_of { isLoc := [1, 2], sym := [], loops := [], joins := [], stored := [(1, [2])] } Tryz.func26 (by kernel_rfl) h
theorem x_vSame (a_0 a_1 : Int) (a_2 : Option Addr) (a_2l a_2c : Nat) (b_0 b_1 : Int) (b_2 : Option Addr) (b_2l b_2c : Nat) (w : World) (R : Ending → World → Prop) (h :
 if (((a_0 == b_0) && (a_1 == b_1)) == true) = true then
 ∀ w2 L3, Hid [] w w2 →
 NewL w.heap.size [] w w2 L3 →
 CallX Tryz.prog 55 #[.slice a_2 a_2l a_2c, .slice b_2 b_2l b_2c] w2 fun e4 w5 =>
 ∃ b6, e4 = .returned (.bool b6) ∧
 Kept L3 w2 w5 ∧
 R (.returned (.bool (true && b6))) w5
 else
 ∀ w1, Hid [] w w1 →
 R (.returned (.bool false)) w1) :
 Calls Tryz.prog 54 #[.agg #[.int .u8 a_0, .int .u32 a_1, .slice a_2 a_2l a_2c], .agg #[.int .u8 b_0, .int .u32 b_1, .slice b_2 b_2l b_2c]] w R :=
 calls_of { isLoc := [2, 3], sym := [], loops := [], joins := [] } Tryz.func54 (by kernel_rfl) h
theorem x_r6Same (a_0 a_1 : Int) (a_2 : Option Addr) (a_2l a_2c : Nat) (b_0 b_1 : Int) (b_2 : Option Addr) (b_2l b_2c : Nat) (w : World) (R : Ending → World → Prop) (h :
 if (((a_0 == b_0) && (a_1 == b_1)) == true) = true then
 ∀ w2 L3, Hid [] w w2 →
 NewL w.heap.size [] w w2 L3 →
 CallX Tryz.prog 44 #[.slice a_2 a_2l a_2c, .slice b_2 b_2l b_2c] w2 fun e4 w5 =>
 ∃ b6, e4 = .returned (.bool b6) ∧
 Kept L3 w2 w5 ∧
 R (.returned (.bool (true && b6))) w5
 else
 ∀ w1, Hid [] w w1 →
 R (.returned (.bool false)) w1) :
 Calls Tryz.prog 43 #[.agg #[.int .u8 a_0, .int .u32 a_1, .slice a_2 a_2l a_2c], .agg #[.int .u8 b_0, .int .u32 b_1, .slice b_2 b_2l b_2c]] w R :=
 calls_of { isLoc := [2, 3], sym := [], loops := [], joins := [] } Tryz.func43 (by kernel_rfl) h
theorem x_Refs (a : Option Addr) (al ac : Nat) (w : World) (R : Ending → World → Prop) (h :
 ∃ x1 : Option Addr → Nat → Nat → Int → World → List Nat → Prop, ∃ x2 : Option Addr → Nat → Nat → Int → World → Nat, (x1 none 0 0 0 w []) ∧
 ∀ q3 k4 k5 n6 w7 L8, (LF w.heap.size w7 L8) →
 (x1 q3 k4 k5 n6 w7 L8) →
 if (decide (n6 < ((al : Nat) : Int))) = true then
 ((0 : Int) ≤ n6) ∧
 (n6 < ((al : Nat) : Int)) ∧
 onSome a fun p9 =>
 ∃ n10 n11 n12 n13 n14 n15 n16 n17 n18 n19 n20 n21 q22 k23 k24 n25 s26 q27 k28 k29 n30 n31, (Cells w7 (p9.add ((n6).toNat * 18)) [.int .u8 n10, .int .u8 n11, .int .u16 n12, .int .u32 n13, .int .u8 n14, .int .u8 n15, .int .u8 n16, .int .u8 n17, .int .u8 n18, .int .u8 n19, .int .u8 n20, .int .u32 n21, .slice q22 k23 k24, .int .u8 n25, .string s26, .slice q27 k28 k29, .int .u8 n30, .int .u16 n31]) ∧
 CallX Tryz.prog 107 #[(EnW n10 n11 n12 n13 n14 n15 n16 n17 n18 n19 n20 n21 q22 k23 k24 n25 s26 q27 k28 k29 n30 n31)] w7 fun e32 w33 =>
 ∃ n34 n35 n36 n37 n38 n39 n40 n41 n42 n43 n44 n45 q46 k47 k48 n49 s50 q51 k52 k53 n54 n55, e32 = .returned (EnW n34 n35 n36 n37 n38 n39 n40 n41 n42 n43 n44 n45 q46 k47 k48 n49 s50 q51 k52 k53 n54 n55) ∧
 w7.heap.size ≤ w33.heap.size ∧
 ∃ q56 k57 k58 w59, (Sem.run Tryz.prog (Go.Builtin.append_ #[38, 38] 38 #[.slice q3 k4 k5, .slice (some ⟨w33.heap.size, 0, none⟩) 1 1]) (w33.alloc (.cells #[.int .u8 n34, .int .u8 n35, .int .u16 n36, .int .u32 n37, .int .u8 n38, .int .u8 n39, .int .u8 n40, .int .u8 n41, .int .u8 n42, .int .u8 n43, .int .u8 n44, .int .u32 n45, .slice q46 k47 k48, .int .u8 n49, .string s50, .slice q51 k52 k53, .int .u8 n54, .int .u16 n55] 124)) = .ok (.slice q56 k57 k58) w59) ∧
 (((w33.alloc (.cells #[.int .u8 n34, .int .u8 n35, .int .u16 n36, .int .u32 n37, .int .u8 n38, .int .u8 n39, .int .u8 n40, .int .u8 n41, .int .u8 n42, .int .u8 n43, .int .u8 n44, .int .u32 n45, .slice q46 k47 k48, .int .u8 n49, .string s50, .slice q51 k52 k53, .int .u8 n54, .int .u16 n55] 124))).heap.size ≤ w59.heap.size) ∧
 (x1 q56 k57 k58 (IntKind.wrap .i64 (n6 + 1)) w59 []) ∧
 Nat.le ((x2 q56 k57 k58 (IntKind.wrap .i64 (n6 + 1)) w59) + 1) (x2 q3 k4 k5 n6 w7)
 else
 R (.returned (.slice q3 k4 k5)) w7) :
 Calls Tryz.prog 52 #[.slice a al ac] w R :=
 calls_of { isLoc := [], sym := [], loops := [(3, .inv [(3, .slice), (4, .int .i64)] [] true)], joins := [] } Tryz.func52 (by kernel_rfl) h
theorem x_RefProcs (a : Option Addr) (al ac : Nat) (w : World) (R : Ending → World → Prop) (h :
 ∃ x1 : Option Addr → Nat → Nat → Int → World → List Nat → Prop, ∃ x2 : Option Addr → Nat → Nat → Int → World → Nat, (x1 none 0 0 0 w []) ∧
 ∀ q3 k4 k5 n6 w7 L8, (LF w.heap.size w7 L8) →
 (x1 q3 k4 k5 n6 w7 L8) →
 if (decide (n6 < ((al : Nat) : Int))) = true then
 ((0 : Int) ≤ n6) ∧
 (n6 < ((al : Nat) : Int)) ∧
 onSome a fun p9 =>
 ∃ n10 n11, (Cells w7 (p9.add ((n6).toNat * 2)) [.int .u8 n10, .int .u16 n11]) ∧
 CallX Tryz.prog 50 #[(.agg #[.int .u8 n10, .int .u16 n11])] w7 fun e12 w13 =>
 ∃ n14 n15, e12 = .returned (.agg #[.int .u8 n14, .int .u16 n15]) ∧
 w7.heap.size ≤ w13.heap.size ∧
 ∃ q16 k17 k18 w19, (Sem.run Tryz.prog (Go.Builtin.append_ #[35, 35] 35 #[.slice q3 k4 k5, .slice (some ⟨w13.heap.size, 0, none⟩) 1 1]) (w13.alloc (.cells #[.int .u8 n14, .int .u16 n15] 26)) = .ok (.slice q16 k17 k18) w19) ∧
 (((w13.alloc (.cells #[.int .u8 n14, .int .u16 n15] 26))).heap.size ≤ w19.heap.size) ∧
 (x1 q16 k17 k18 (IntKind.wrap .i64 (n6 + 1)) w19 []) ∧
 Nat.le ((x2 q16 k17 k18 (IntKind.wrap .i64 (n6 + 1)) w19) + 1) (x2 q3 k4 k5 n6 w7)
 else
 R (.returned (.slice q3 k4 k5)) w7) :
 Calls Tryz.prog 51 #[.slice a al ac] w R :=
 calls_of { isLoc := [], sym := [], loops := [(3, .inv [(3, .slice), (4, .int .i64)] [] true)], joins := [] } Tryz.func51 (by kernel_rfl) h
theorem x_Ref6 (a_0 a_1 : Int) (a_2 : Option Addr) (a_2l a_2c : Nat) (w : World) (R : Ending → World → Prop) (h :
 ∃ x1, (FactsW x1 w []) ∧
 ∀ w2 L3, Hid [] w w2 →
 NewL w.heap.size [] w w2 L3 →
 CallX Tryz.prog 51 #[.slice a_2 a_2l a_2c] w2 fun e4 w5 =>
 ∃ q6 k7 k8, e4 = .returned (.slice q6 k7 k8) ∧
 Kept L3 w2 w5 ∧
 FactsW x1 w5 L3 ∧
 ∀ w9, Hid L3 w5 w9 →
 R (.returned (.agg #[.int .u8 a_0, .int .u32 a_1, .slice q6 k7 k8])) w9) :
 Calls Tryz.prog 49 #[.agg #[.int .u8 a_0, .int .u32 a_1, .slice a_2 a_2l a_2c]] w R :=
 calls_of { isLoc := [1, 2], sym := [], loops := [], joins := [], stored := [(1, [2])] } Tryz.func49 (by kernel_rfl) h
end Go.Proofs
/- The verification conditions of this seat's functions, as the engine has them: printed by a program of the bench; checked by the kernel. -/
namespace Go.Proofs
open Go X
theorem x_all (a : Option Addr) (al ac : Nat) (b : Int) (w : World) (R : Ending → World → Prop) (h :
 if ((decide (((al : Nat) : Int) ≤ 400)) == true) = true then
 CallX Tryz.prog 149 #[.slice a al ac, (.func (.func 150) #[] #[.pointer (some ⟨w.heap.size, 0, none⟩)])] (w.alloc (.cells #[.int .u8 b] 5)) fun e1 w2 =>
 ∃ b3, e1 = .returned (.bool b3) ∧
 (((w.alloc (.cells #[.int .u8 b] 5))).heap.size ≤ w2.heap.size) ∧
 R (.returned (.bool (true && (!b3)))) w2
 else
 R (.returned (.bool false)) (w.alloc (.cells #[.int .u8 b] 5))) :
 Calls Tryz.prog 115 #[.slice a al ac, .int .u8 b] w R :=
 calls_of { isLoc := [], sym := [], loops := [], joins := [] } Tryz.func115 (by kernel_rfl) h
theorem x_all1 (a_0 a_1 a_2 a_3 a_4 a_5 a_6 a_7 a_8 a_9 a_10 a_11 : Int) (a_12 : Option Addr) (a_12l a_12c : Nat) (a_13 : Int) (a_14 : ByteArray) (a_15 : Option Addr) (a_15l a_15c : Nat) (a_16 a_17 : Int) (z0 : Addr) (w : World) (R : Ending → World → Prop) (h :
 ∃ n1, (World.cell? w z0 = some (.int .u8 n1)) ∧
 ∀ w2 L3, Hid [] w w2 →
 NewL w.heap.size [] w w2 L3 →
 CallX Tryz.prog 151 #[(EnW a_0 a_1 a_2 a_3 a_4 a_5 a_6 a_7 a_8 a_9 a_10 a_11 a_12 a_12l a_12c a_13 a_14 a_15 a_15l a_15c a_16 a_17), .int .u8 n1] w2 fun e4 w5 =>
 ∃ b6, e4 = .returned (.bool b6) ∧
 Kept L3 w2 w5 ∧
 R (.returned (.bool (!b6))) w5) :
 Calls Tryz.prog 150 #[.agg #[.int .u8 a_0, .int .u8 a_1, .int .u16 a_2, .int .u32 a_3, .int .u8 a_4, .int .u8 a_5, .int .u8 a_6, .int .u8 a_7, .int .u8 a_8, .int .u8 a_9, .int .u8 a_10, .int .u32 a_11, .slice a_12 a_12l a_12c, .int .u8 a_13, .string a_14, .slice a_15 a_15l a_15c, .int .u8 a_16, .int .u16 a_17], .pointer (some z0)] w R :=
 calls_of { isLoc := [2], sym := [], loops := [], joins := [] } Tryz.func150 (by kernel_rfl) h
theorem x_ContainsE (a : Option Addr) (al ac : Nat) (z0 : Addr) (w : World) (R : Ending → World → Prop) (h :
 CallX Tryz.prog 165 #[.slice a al ac, (.func (.func (OfNat.ofNat 150)) #[] #[.pointer (some z0)])] w fun e1 w2 =>
 ∃ n3, e1 = .returned (.int .i64 n3) ∧
 (w.heap.size ≤ w2.heap.size) ∧
 R (.returned (.bool (decide (n3 ≥ 0)))) w2) :
 Calls Tryz.prog 149 #[.slice a al ac, .func (.func 150) #[] #[.pointer (some z0)]] w R :=
 calls_of { isLoc := [], sym := [], loops := [], joins := [] } Tryz.func149 (by kernel_rfl) h
theorem x_IndexE (a : Option Addr) (al ac : Nat) (z0 : Addr) (w : World) (R : Ending → World → Prop) (h :
 ∃ x1 : Int → World → List Nat → Prop, ∃ x2 : Int → World → Nat, (x1 0 w []) ∧
 ∀ n3 w4 L5, (LF w.heap.size w4 L5) →
 (x1 n3 w4 L5) →
 if (decide (n3 < ((al : Nat) : Int))) = true then
 ((0 : Int) ≤ n3) ∧
 (n3 < ((al : Nat) : Int)) ∧
 onSome a fun p6 =>
 ∃ n7 n8 n9 n10 n11 n12 n13 n14 n15 n16 n17 n18 q19 k20 k21 n22 s23 q24 k25 k26 n27 n28, (Cells w4 (p6.add ((n3).toNat * 18)) [.int .u8 n7, .int .u8 n8, .int .u16 n9, .int .u32 n10, .int .u8 n11, .int .u8 n12, .int .u8 n13, .int .u8 n14, .int .u8 n15, .int .u8 n16, .int .u8 n17, .int .u32 n18, .slice q19 k20 k21, .int .u8 n22, .string s23, .slice q24 k25 k26, .int .u8 n27, .int .u16 n28]) ∧
 CallX Tryz.prog (OfNat.ofNat 150) #[(EnW n7 n8 n9 n10 n11 n12 n13 n14 n15 n16 n17 n18 q19 k20 k21 n22 s23 q24 k25 k26 n27 n28), .pointer (some z0)] w4 fun e29 w30 =>
 ∃ b31, e29 = .returned (.bool b31) ∧
 w4.heap.size ≤ w30.heap.size ∧
 if b31 = true then
 R (.returned (.int .i64 n3)) w30
 else
 (x1 (IntKind.wrap .i64 (n3 + 1)) w30 []) ∧
 Nat.le ((x2 (IntKind.wrap .i64 (n3 + 1)) w30) + 1) (x2 n3 w4)
 else
 R (.returned (.int .i64 (-1))) w4) :
 Calls Tryz.prog 165 #[.slice a al ac, .func (.func 150) #[] #[.pointer (some z0)]] w R :=
 calls_of { isLoc := [], sym := [], loops := [(2, .inv [(8, .int .i64)] [] true)], joins := [] } Tryz.func165 (by kernel_rfl) h
theorem x_mAsked (a_0 a_1 a_2 a_3 a_4 a_5 a_6 a_7 a_8 a_9 a_10 a_11 a_12 a_13 a_14 a_15 a_16 a_17 a_18 : Int) (a_19 : Option Addr) (a_19l a_19c : Nat) (a_20 : Int) (a_21 : ByteArray) (a_22 a_23 : Int) (a_24 : Option Addr) (a_24l a_24c : Nat) (a_25 a_26 : Int) (a_27 : Bool) (a_28 : Option Addr) (a_28l a_28c : Nat) (a_29 : Option Addr) (a_29l a_29c : Nat) (a_30 : Option Addr) (a_30l a_30c : Nat) (w : World) (R : Ending → World → Prop) (h :
 ∃ x1, (FactsW x1 w []) ∧
 ∀ w2 L3, Hid [] w w2 →
 NewL w.heap.size [] w w2 L3 →
 CallX Tryz.prog 112 #[(IdW a_9 a_10 a_11 a_12 a_13 a_14 a_15 a_16 a_17 a_18)] w2 fun e4 w5 =>
 ∃ b6, e4 = .returned (.bool b6) ∧
 Kept L3 w2 w5 ∧
 FactsW x1 w5 L3 ∧
 ∃ x7, (FactsW x7 w5 L3) ∧
 (∀ x8, (x8 ∈ x1) →
 x8 ∈ x7) ∧
 if ((b6 && decide (a_6 < a_11)) == true) = true then
 CallX Tryz.prog 148 #[.slice a_19 a_19l a_19c] w5 fun e13 w14 =>
 ∃ b15, e13 = .returned (.bool b15) ∧
 Kept L3 w5 w14 ∧
 FactsW x7 w14 L3 ∧
 ∃ x16, (FactsW x16 w14 L3) ∧
 (∀ x17, (x17 ∈ x7) →
 x17 ∈ x16) ∧
 if ((true && b15) == true) = true then
 ((0 : Int) ≤ 0) ∧
 ((0 : Int) < ((a_19l : Nat) : Int)) ∧
 onSome a_19 fun p20 =>
 ∃ n21, ((((p20.add 0).add 0), [.int .u8 n21]) ∈ x16) ∧
 R (.returned (.bool ((true && (n21 == a_1)) && decide ((IntKind.wrap .i64 (((a_19l : Nat) : Int) + (IntKind.wrap .i64 a_12))) ≤ 4)))) w14
 else
 ∃ x18, (FactsW x18 w14 L3) ∧
 (∀ x19, (x19 ∈ x16) →
 x19 ∈ x18) ∧
 R (.returned (.bool (false && decide ((IntKind.wrap .i64 (((a_19l : Nat) : Int) + (IntKind.wrap .i64 a_12))) ≤ 4)))) w14
 else
 ∃ x9, (FactsW x9 w5 L3) ∧
 (∀ x10, (x10 ∈ x7) →
 x10 ∈ x9) ∧
 ∃ x11, (FactsW x11 w5 L3) ∧
 (∀ x12, (x12 ∈ x9) →
 x12 ∈ x11) ∧
 R (.returned (.bool (false && decide ((IntKind.wrap .i64 (((a_19l : Nat) : Int) + (IntKind.wrap .i64 a_12))) ≤ 4)))) w5) :
 Calls Tryz.prog 111 #[.agg #[.int .u8 a_0, .int .u8 a_1, .int .u8 a_2, .int .u32 a_3, .int .u32 a_4, .int .u32 a_5, .int .u32 a_6, .int .u64 a_7, .int .u64 a_8, .int .u8 a_9, .int .u16 a_10, .int .u32 a_11, .int .u8 a_12, .int .u8 a_13, .int .u8 a_14, .int .u8 a_15, .int .u8 a_16, .int .u8 a_17, .int .u8 a_18, .slice a_19 a_19l a_19c, .int .u8 a_20, .string a_21, .int .u8 a_22, .int .u32 a_23, .slice a_24 a_24l a_24c, .int .u8 a_25, .int .u16 a_26, .bool a_27, .slice a_28 a_28l a_28c, .slice a_29 a_29l a_29c, .slice a_30 a_30l a_30c]] w R :=
 calls_of { isLoc := [1], sym := [], loops := [], joins := [] } Tryz.func111 (by kernel_rfl) h
theorem x_mValue (a_0 a_1 a_2 a_3 a_4 a_5 a_6 a_7 a_8 a_9 a_10 a_11 a_12 a_13 a_14 a_15 a_16 a_17 a_18 : Int) (a_19 : Option Addr) (a_19l a_19c : Nat) (a_20 : Int) (a_21 : ByteArray) (a_22 a_23 : Int) (a_24 : Option Addr) (a_24l a_24c : Nat) (a_25 a_26 : Int) (a_27 : Bool) (a_28 : Option Addr) (a_28l a_28c : Nat) (a_29 : Option Addr) (a_29l a_29c : Nat) (a_30 : Option Addr) (a_30l a_30c : Nat) (w : World) (R : Ending → World → Prop) (h :
 ∀ w1 L2, Hid [] w w1 →
 NewL w.heap.size [] w w1 L2 →
 CallX Tryz.prog 114 #[(.agg #[.int .u8 0, .int .u32 1, .slice a_28 a_28l a_28c])] w1 fun e3 w4 =>
 ∃ b5, e3 = .returned (.bool b5) ∧
 Kept L2 w1 w4 ∧
 if (b5 == true) = true then
 CallX Tryz.prog 115 #[.slice a_30 a_30l a_30c, .int .u8 a_1] w4 fun e6 w7 =>
 ∃ b8, e6 = .returned (.bool b8) ∧
 Kept L2 w4 w7 ∧
 R (.returned (.bool (true && b8))) w7
 else
 R (.returned (.bool false)) w4) :
 Calls Tryz.prog 116 #[.agg #[.int .u8 a_0, .int .u8 a_1, .int .u8 a_2, .int .u32 a_3, .int .u32 a_4, .int .u32 a_5, .int .u32 a_6, .int .u64 a_7, .int .u64 a_8, .int .u8 a_9, .int .u16 a_10, .int .u32 a_11, .int .u8 a_12, .int .u8 a_13, .int .u8 a_14, .int .u8 a_15, .int .u8 a_16, .int .u8 a_17, .int .u8 a_18, .slice a_19 a_19l a_19c, .int .u8 a_20, .string a_21, .int .u8 a_22, .int .u32 a_23, .slice a_24 a_24l a_24c, .int .u8 a_25, .int .u16 a_26, .bool a_27, .slice a_28 a_28l a_28c, .slice a_29 a_29l a_29c, .slice a_30 a_30l a_30c]] w R :=
 calls_of { isLoc := [1, 3], sym := [], loops := [], joins := [] } Tryz.func116 (by kernel_rfl) h
theorem x_mRight (a_0 a_1 a_2 a_3 a_4 a_5 a_6 a_7 a_8 a_9 a_10 a_11 a_12 a_13 a_14 a_15 a_16 a_17 a_18 : Int) (a_19 : Option Addr) (a_19l a_19c : Nat) (a_20 : Int) (a_21 : ByteArray) (a_22 a_23 : Int) (a_24 : Option Addr) (a_24l a_24c : Nat) (a_25 a_26 : Int) (a_27 : Bool) (a_28 : Option Addr) (a_28l a_28c : Nat) (a_29 : Option Addr) (a_29l a_29c : Nat) (a_30 : Option Addr) (a_30l a_30c : Nat) (w : World) (R : Ending → World → Prop) (h :
 ∃ x1, (FactsW x1 w []) ∧
 if ((decide (a_1 < 4)) == true) = true then
 ∀ w5 L6, Hid [] w w5 →
 NewL w.heap.size [] w w5 L6 →
 CallX Tryz.prog 57 #[(MgW a_0 a_1 a_2 a_3 a_4 a_5 a_6 a_7 a_8 a_9 a_10 a_11 a_12 a_13 a_14 a_15 a_16 a_17 a_18 a_19 a_19l a_19c a_20 a_21 a_22 a_23 a_24 a_24l a_24c a_25 a_26 a_27 a_28 a_28l a_28c a_29 a_29l a_29c a_30 a_30l a_30c)] w5 fun e7 w8 =>
 ∃ b9, e7 = .returned (.bool b9) ∧
 Kept L6 w5 w8 ∧
 FactsW x1 w8 L6 ∧
 ∃ x10, (FactsW x10 w8 L6) ∧
 (∀ x11, (x11 ∈ x1) →
 x11 ∈ x10) ∧
 if ((true && b9) == true) = true then
 CallX Tryz.prog 58 #[(MgW a_0 a_1 a_2 a_3 a_4 a_5 a_6 a_7 a_8 a_9 a_10 a_11 a_12 a_13 a_14 a_15 a_16 a_17 a_18 a_19 a_19l a_19c a_20 a_21 a_22 a_23 a_24 a_24l a_24c a_25 a_26 a_27 a_28 a_28l a_28c a_29 a_29l a_29c a_30 a_30l a_30c)] w8 fun e12 w13 =>
 ∃ n14 n15 n16 n17 n18 n19 n20 n21 n22 n23 n24 n25 n26 n27 n28 n29 n30 n31 n32 q33 k34 k35 n36 s37 n38 n39 q40 k41 k42 n43 n44 b45 q46 k47 k48 q49 k50 k51 q52 k53 k54, e12 = .returned (MgW n14 n15 n16 n17 n18 n19 n20 n21 n22 n23 n24 n25 n26 n27 n28 n29 n30 n31 n32 q33 k34 k35 n36 s37 n38 n39 q40 k41 k42 n43 n44 b45 q46 k47 k48 q49 k50 k51 q52 k53 k54) ∧
 Kept L6 w8 w13 ∧
 FactsW x10 w13 L6 ∧
 CallX Tryz.prog 15 #[(MgW a_0 a_1 a_2 a_3 a_4 a_5 a_6 a_7 a_8 a_9 a_10 a_11 a_12 a_13 a_14 a_15 a_16 a_17 a_18 a_19 a_19l a_19c a_20 a_21 a_22 a_23 a_24 a_24l a_24c a_25 a_26 a_27 a_28 a_28l a_28c a_29 a_29l a_29c a_30 a_30l a_30c), (MgW n14 n15 n16 n17 n18 n19 n20 n21 n22 n23 n24 n25 n26 n27 n28 n29 n30 n31 n32 q33 k34 k35 n36 s37 n38 n39 q40 k41 k42 n43 n44 b45 q46 k47 k48 q49 k50 k51 q52 k53 k54)] w13 fun e55 w56 =>
 ∃ b57, e55 = .returned (.bool b57) ∧
 Kept L6 w13 w56 ∧
 FactsW x10 w56 L6 ∧
 R (.returned (.bool (true && b57))) w56
 else
 R (.returned (.bool false)) w8
 else
 ∃ x2, (FactsW x2 w []) ∧
 (∀ x3, (x3 ∈ x1) →
 x3 ∈ x2) ∧
 ∀ w4, Hid [] w w4 →
 R (.returned (.bool false)) w4) :
 Calls Tryz.prog 19 #[.agg #[.int .u8 a_0, .int .u8 a_1, .int .u8 a_2, .int .u32 a_3, .int .u32 a_4, .int .u32 a_5, .int .u32 a_6, .int .u64 a_7, .int .u64 a_8, .int .u8 a_9, .int .u16 a_10, .int .u32 a_11, .int .u8 a_12, .int .u8 a_13, .int .u8 a_14, .int .u8 a_15, .int .u8 a_16, .int .u8 a_17, .int .u8 a_18, .slice a_19 a_19l a_19c, .int .u8 a_20, .string a_21, .int .u8 a_22, .int .u32 a_23, .slice a_24 a_24l a_24c, .int .u8 a_25, .int .u16 a_26, .bool a_27, .slice a_28 a_28l a_28c, .slice a_29 a_29l a_29c, .slice a_30 a_30l a_30c]] w R :=
 calls_of { isLoc := [1], sym := [], loops := [], joins := [] } Tryz.func19 (by kernel_rfl) h
theorem x_mSame (a_0 a_1 a_2 a_3 a_4 a_5 a_6 a_7 a_8 a_9 a_10 a_11 a_12 a_13 a_14 a_15 a_16 a_17 a_18 : Int) (a_19 : Option Addr) (a_19l a_19c : Nat) (a_20 : Int) (a_21 : ByteArray) (a_22 a_23 : Int) (a_24 : Option Addr) (a_24l a_24c : Nat) (a_25 a_26 : Int) (a_27 : Bool) (a_28 : Option Addr) (a_28l a_28c : Nat) (a_29 : Option Addr) (a_29l a_29c : Nat) (a_30 : Option Addr) (a_30l a_30c : Nat) (b_0 b_1 b_2 b_3 b_4 b_5 b_6 b_7 b_8 b_9 b_10 b_11 b_12 b_13 b_14 b_15 b_16 b_17 b_18 : Int) (b_19 : Option Addr) (b_19l b_19c : Nat) (b_20 : Int) (b_21 : ByteArray) (b_22 b_23 : Int) (b_24 : Option Addr) (b_24l b_24c : Nat) (b_25 b_26 : Int) (b_27 : Bool) (b_28 : Option Addr) (b_28l b_28c : Nat) (b_29 : Option Addr) (b_29l b_29c : Nat) (b_30 : Option Addr) (b_30l b_30c : Nat) (w : World) (R : Ending → World → Prop) (h :
 ∀ w1 L2, Hid [] w w1 →
 NewL w.heap.size [] w w1 L2 →
 CallX Tryz.prog 53 #[.slice a_19 a_19l a_19c, .slice b_19 b_19l b_19c] w1 fun e3 w4 =>
 ∃ b5, e3 = .returned (.bool b5) ∧
 Kept L2 w1 w4 ∧
 if (b5 == true) = true then
 CallX Tryz.prog 54 #[(.agg #[.int .u8 a_22, .int .u32 a_23, .slice a_24 a_24l a_24c]), (.agg #[.int .u8 b_22, .int .u32 b_23, .slice b_24 b_24l b_24c])] w4 fun e6 w7 =>
 ∃ b8, e6 = .returned (.bool b8) ∧
 Kept L2 w4 w7 ∧
 if ((true && b8) == true) = true then
 CallX Tryz.prog 55 #[.slice a_28 a_28l a_28c, .slice b_28 b_28l b_28c] w7 fun e9 w10 =>
 ∃ b11, e9 = .returned (.bool b11) ∧
 Kept L2 w7 w10 ∧
 if ((true && b11) == true) = true then
 CallX Tryz.prog 56 #[.slice a_29 a_29l a_29c, .slice b_29 b_29l b_29c] w10 fun e12 w13 =>
 ∃ b14, e12 = .returned (.bool b14) ∧
 Kept L2 w10 w13 ∧
 if ((true && b14) == true) = true then
 CallX Tryz.prog 56 #[.slice a_30 a_30l a_30c, .slice b_30 b_30l b_30c] w13 fun e15 w16 =>
 ∃ b17, e15 = .returned (.bool b17) ∧
 Kept L2 w13 w16 ∧
 R (.returned (.bool ((((((true && b17) && (((((((((a_0 == b_0) && (a_1 == b_1)) && (a_2 == b_2)) && (a_3 == b_3)) && (a_4 == b_4)) && (a_5 == b_5)) && (a_6 == b_6)) && (a_7 == b_7)) && (a_8 == b_8))) && (((a_9 == b_9) && (a_10 == b_10)) && ((a_11 == b_11) && ((a_12 == b_12) && (((a_13 == b_13) && (a_14 == b_14)) && (((a_15 == b_15) && (a_16 == b_16)) && ((a_17 == b_17) && (a_18 == b_18)))))))) && ((a_20 == b_20) && (a_21 == b_21))) && ((a_25 == b_25) && (a_26 == b_26))) && (a_27 == b_27)))) w16
 else
 R (.returned (.bool (((((false && (((((((((a_0 == b_0) && (a_1 == b_1)) && (a_2 == b_2)) && (a_3 == b_3)) && (a_4 == b_4)) && (a_5 == b_5)) && (a_6 == b_6)) && (a_7 == b_7)) && (a_8 == b_8))) && (((a_9 == b_9) && (a_10 == b_10)) && ((a_11 == b_11) && ((a_12 == b_12) && (((a_13 == b_13) && (a_14 == b_14)) && (((a_15 == b_15) && (a_16 == b_16)) && ((a_17 == b_17) && (a_18 == b_18)))))))) && ((a_20 == b_20) && (a_21 == b_21))) && ((a_25 == b_25) && (a_26 == b_26))) && (a_27 == b_27)))) w13
 else
 R (.returned (.bool (((((false && (((((((((a_0 == b_0) && (a_1 == b_1)) && (a_2 == b_2)) && (a_3 == b_3)) && (a_4 == b_4)) && (a_5 == b_5)) && (a_6 == b_6)) && (a_7 == b_7)) && (a_8 == b_8))) && (((a_9 == b_9) && (a_10 == b_10)) && ((a_11 == b_11) && ((a_12 == b_12) && (((a_13 == b_13) && (a_14 == b_14)) && (((a_15 == b_15) && (a_16 == b_16)) && ((a_17 == b_17) && (a_18 == b_18)))))))) && ((a_20 == b_20) && (a_21 == b_21))) && ((a_25 == b_25) && (a_26 == b_26))) && (a_27 == b_27)))) w10
 else
 R (.returned (.bool (((((false && (((((((((a_0 == b_0) && (a_1 == b_1)) && (a_2 == b_2)) && (a_3 == b_3)) && (a_4 == b_4)) && (a_5 == b_5)) && (a_6 == b_6)) && (a_7 == b_7)) && (a_8 == b_8))) && (((a_9 == b_9) && (a_10 == b_10)) && ((a_11 == b_11) && ((a_12 == b_12) && (((a_13 == b_13) && (a_14 == b_14)) && (((a_15 == b_15) && (a_16 == b_16)) && ((a_17 == b_17) && (a_18 == b_18)))))))) && ((a_20 == b_20) && (a_21 == b_21))) && ((a_25 == b_25) && (a_26 == b_26))) && (a_27 == b_27)))) w7
 else
 R (.returned (.bool (((((false && (((((((((a_0 == b_0) && (a_1 == b_1)) && (a_2 == b_2)) && (a_3 == b_3)) && (a_4 == b_4)) && (a_5 == b_5)) && (a_6 == b_6)) && (a_7 == b_7)) && (a_8 == b_8))) && (((a_9 == b_9) && (a_10 == b_10)) && ((a_11 == b_11) && ((a_12 == b_12) && (((a_13 == b_13) && (a_14 == b_14)) && (((a_15 == b_15) && (a_16 == b_16)) && ((a_17 == b_17) && (a_18 == b_18)))))))) && ((a_20 == b_20) && (a_21 == b_21))) && ((a_25 == b_25) && (a_26 == b_26))) && (a_27 == b_27)))) w4) :
 Calls Tryz.prog 15 #[.agg #[.int .u8 a_0, .int .u8 a_1, .int .u8 a_2, .int .u32 a_3, .int .u32 a_4, .int .u32 a_5, .int .u32 a_6, .int .u64 a_7, .int .u64 a_8, .int .u8 a_9, .int .u16 a_10, .int .u32 a_11, .int .u8 a_12, .int .u8 a_13, .int .u8 a_14, .int .u8 a_15, .int .u8 a_16, .int .u8 a_17, .int .u8 a_18, .slice a_19 a_19l a_19c, .int .u8 a_20, .string a_21, .int .u8 a_22, .int .u32 a_23, .slice a_24 a_24l a_24c, .int .u8 a_25, .int .u16 a_26, .bool a_27, .slice a_28 a_28l a_28c, .slice a_29 a_29l a_29c, .slice a_30 a_30l a_30c], .agg #[.int .u8 b_0, .int .u8 b_1, .int .u8 b_2, .int .u32 b_3, .int .u32 b_4, .int .u32 b_5, .int .u32 b_6, .int .u64 b_7, .int .u64 b_8, .int .u8 b_9, .int .u16 b_10, .int .u32 b_11, .int .u8 b_12, .int .u8 b_13, .int .u8 b_14, .int .u8 b_15, .int .u8 b_16, .int .u8 b_17, .int .u8 b_18, .slice b_19 b_19l b_19c, .int .u8 b_20, .string b_21, .int .u8 b_22, .int .u32 b_23, .slice b_24 b_24l b_24c, .int .u8 b_25, .int .u16 b_26, .bool b_27, .slice b_28 b_28l b_28c, .slice b_29 b_29l b_29c, .slice b_30 b_30l b_30c]] w R :=
 calls_of { isLoc := [2, 3], sym := [], loops := [], joins := [] } Tryz.func15 (by kernel_rfl) h
theorem x_OwnM (a_0 a_1 a_2 a_3 a_4 a_5 a_6 a_7 a_8 a_9 a_10 a_11 a_12 a_13 a_14 a_15 a_16 a_17 a_18 : Int) (a_19 : Option Addr) (a_19l a_19c : Nat) (a_20 : Int) (a_21 : ByteArray) (a_22 a_23 : Int) (a_24 : Option Addr) (a_24l a_24c : Nat) (a_25 a_26 : Int) (a_27 : Bool) (a_28 : Option Addr) (a_28l a_28c : Nat) (a_29 : Option Addr) (a_29l a_29c : Nat) (a_30 : Option Addr) (a_30l a_30c : Nat) (w : World) (R : Ending → World → Prop) (h :
 ∃ x1, (FactsW x1 w []) ∧
 ∀ w2 L3, Hid [] w w2 →
 NewL w.heap.size [] w w2 L3 →
 CallX Tryz.prog 23 #[(IdW a_9 a_10 a_11 a_12 a_13 a_14 a_15 a_16 a_17 a_18)] w2 fun e4 w5 =>
 ∃ n6 n7 n8 n9 n10 n11 n12 n13 n14 n15, e4 = .returned (IdW n6 n7 n8 n9 n10 n11 n12 n13 n14 n15) ∧
 Kept L3 w2 w5 ∧
 FactsW x1 w5 L3 ∧
 CallX Tryz.prog 24 #[.slice a_19 a_19l a_19c] w5 fun e16 w17 =>
 ∃ q18 k19 k20, e16 = .returned (.slice q18 k19 k20) ∧
 Kept L3 w5 w17 ∧
 FactsW x1 w17 L3 ∧
 CallX Tryz.prog 25 #[(.agg #[.int .u8 a_20, .string a_21])] w17 fun e21 w22 =>
 ∃ n23 s24, e21 = .returned (.agg #[.int .u8 n23, .string s24]) ∧
 Kept L3 w17 w22 ∧
 FactsW x1 w22 L3 ∧
 CallX Tryz.prog 26 #[(.agg #[.int .u8 a_22, .int .u32 a_23, .slice a_24 a_24l a_24c])] w22 fun e25 w26 =>
 ∃ n27 n28 q29 k30 k31, e25 = .returned (.agg #[.int .u8 n27, .int .u32 n28, .slice q29 k30 k31]) ∧
 Kept L3 w22 w26 ∧
 FactsW x1 w26 L3 ∧
 CallX Tryz.prog 27 #[(.agg #[.int .u8 a_25, .int .u16 a_26])] w26 fun e32 w33 =>
 ∃ n34 n35, e32 = .returned (.agg #[.int .u8 n34, .int .u16 n35]) ∧
 Kept L3 w26 w33 ∧
 FactsW x1 w33 L3 ∧
 CallX Tryz.prog 28 #[.slice a_28 a_28l a_28c] w33 fun e36 w37 =>
 ∃ q38 k39 k40, e36 = .returned (.slice q38 k39 k40) ∧
 Kept L3 w33 w37 ∧
 FactsW x1 w37 L3 ∧
 CallX Tryz.prog 29 #[.slice a_29 a_29l a_29c] w37 fun e41 w42 =>
 ∃ q43 k44 k45, e41 = .returned (.slice q43 k44 k45) ∧
 Kept L3 w37 w42 ∧
 FactsW x1 w42 L3 ∧
 CallX Tryz.prog 29 #[.slice a_30 a_30l a_30c] w42 fun e46 w47 =>
 ∃ q48 k49 k50, e46 = .returned (.slice q48 k49 k50) ∧
 Kept L3 w42 w47 ∧
 FactsW x1 w47 L3 ∧
 ∀ w51, Hid L3 w47 w51 →
 R (.returned (MgW a_0 a_1 a_2 a_3 a_4 a_5 a_6 a_7 a_8 n6 n7 n8 n9 n10 n11 n12 n13 n14 n15 q18 k19 k20 n23 s24 n27 n28 q29 k30 k31 n34 n35 a_27 q38 k39 k40 q43 k44 k45 q48 k49 k50)) w51) :
 Calls Tryz.prog 8 #[.agg #[.int .u8 a_0, .int .u8 a_1, .int .u8 a_2, .int .u32 a_3, .int .u32 a_4, .int .u32 a_5, .int .u32 a_6, .int .u64 a_7, .int .u64 a_8, .int .u8 a_9, .int .u16 a_10, .int .u32 a_11, .int .u8 a_12, .int .u8 a_13, .int .u8 a_14, .int .u8 a_15, .int .u8 a_16, .int .u8 a_17, .int .u8 a_18, .slice a_19 a_19l a_19c, .int .u8 a_20, .string a_21, .int .u8 a_22, .int .u32 a_23, .slice a_24 a_24l a_24c, .int .u8 a_25, .int .u16 a_26, .bool a_27, .slice a_28 a_28l a_28c, .slice a_29 a_29l a_29c, .slice a_30 a_30l a_30c]] w R :=
 calls_of { isLoc := [1, 2], sym := [], loops := [], joins := [], stored := [(1, [2])] } Tryz.func8 (by kernel_rfl) h
theorem x_Light7 (a_0 a_1 a_2 a_3 a_4 a_5 a_6 a_7 a_8 a_9 a_10 a_11 a_12 a_13 a_14 a_15 a_16 a_17 a_18 : Int) (a_19 : Option Addr) (a_19l a_19c : Nat) (a_20 : Int) (a_21 : ByteArray) (a_22 a_23 : Int) (a_24 : Option Addr) (a_24l a_24c : Nat) (a_25 a_26 : Int) (a_27 : Bool) (a_28 : Option Addr) (a_28l a_28c : Nat) (a_29 : Option Addr) (a_29l a_29c : Nat) (a_30 : Option Addr) (a_30l a_30c : Nat) (w : World) (R : Ending → World → Prop) (h :
 ∀ w1 L2, Hid [] w w1 →
 NewL w.heap.size [] w w1 L2 →
 CallX Tryz.prog 16 #[.slice a_19 a_19l a_19c] w1 fun e3 w4 =>
 ∃ b5, e3 = .returned (.bool b5) ∧
 Kept L2 w1 w4 ∧
 if ((((b5 && decide ((((a_21.size) : Nat) : Int) ≤ 2000)) && decide (((a_24l : Nat) : Int) ≤ 40)) && decide (((a_28l : Nat) : Int) ≤ 40)) == true) = true then
 CallX Tryz.prog 17 #[.slice a_29 a_29l a_29c] w4 fun e6 w7 =>
 ∃ b8, e6 = .returned (.bool b8) ∧
 Kept L2 w4 w7 ∧
 if ((true && b8) == true) = true then
 CallX Tryz.prog 17 #[.slice a_30 a_30l a_30c] w7 fun e9 w10 =>
 ∃ b11, e9 = .returned (.bool b11) ∧
 Kept L2 w7 w10 ∧
 R (.returned (.bool (true && b11))) w10
 else
 R (.returned (.bool false)) w7
 else
 R (.returned (.bool false)) w4) :
 Calls Tryz.prog 5 #[.agg #[.int .u8 a_0, .int .u8 a_1, .int .u8 a_2, .int .u32 a_3, .int .u32 a_4, .int .u32 a_5, .int .u32 a_6, .int .u64 a_7, .int .u64 a_8, .int .u8 a_9, .int .u16 a_10, .int .u32 a_11, .int .u8 a_12, .int .u8 a_13, .int .u8 a_14, .int .u8 a_15, .int .u8 a_16, .int .u8 a_17, .int .u8 a_18, .slice a_19 a_19l a_19c, .int .u8 a_20, .string a_21, .int .u8 a_22, .int .u32 a_23, .slice a_24 a_24l a_24c, .int .u8 a_25, .int .u16 a_26, .bool a_27, .slice a_28 a_28l a_28c, .slice a_29 a_29l a_29c, .slice a_30 a_30l a_30c]] w R :=
 calls_of { isLoc := [1], sym := [], loops := [], joins := [] } Tryz.func5 (by kernel_rfl) h
end Go.Proofs
/- The verification conditions of this seat's functions, as the engine has them: printed by a program of the bench; checked by the kernel. -/
namespace Go.Proofs
open Go X
theorem x_mFields (a_0 a_1 a_2 a_3 a_4 a_5 a_6 a_7 a_8 a_9 a_10 a_11 a_12 a_13 a_14 a_15 a_16 a_17 a_18 : Int) (a_19 : Option Addr) (a_19l a_19c : Nat) (a_20 : Int) (a_21 : ByteArray) (a_22 a_23 : Int) (a_24 : Option Addr) (a_24l a_24c : Nat) (a_25 a_26 : Int) (a_27 : Bool) (a_28 : Option Addr) (a_28l a_28c : Nat) (a_29 : Option Addr) (a_29l a_29c : Nat) (a_30 : Option Addr) (a_30l a_30c : Nat) (w : World) (R : Ending → World → Prop) (h :
 if (a_0 == 0) = true then
 ∀ w150 L151, Hid [] w w150 →
 NewL w.heap.size [] w w150 L151 →
 CallX Tryz.prog 111 #[(MgW a_0 a_1 a_2 a_3 a_4 a_5 a_6 a_7 a_8 a_9 a_10 a_11 a_12 a_13 a_14 a_15 a_16 a_17 a_18 a_19 a_19l a_19c a_20 a_21 a_22 a_23 a_24 a_24l a_24c a_25 a_26 a_27 a_28 a_28l a_28c a_29 a_29l a_29c a_30 a_30l a_30c)] w150 fun e152 w153 =>
 ∃ b154, e152 = .returned (.bool b154) ∧
 Kept L151 w150 w153 ∧
 R (.returned (.bool b154)) w153
 else
 if (a_0 == 1) = true then
 ∀ w139 L140, Hid [] w w139 →
 NewL w.heap.size [] w w139 L140 →
 CallX Tryz.prog 112 #[(IdW a_9 a_10 a_11 a_12 a_13 a_14 a_15 a_16 a_17 a_18)] w139 fun e141 w142 =>
 ∃ b143, e141 = .returned (.bool b143) ∧
 Kept L140 w139 w142 ∧
 if (b143 == true) = true then
 CallX Tryz.prog 113 #[(.agg #[.int .u8 a_20, .string a_21])] w142 fun e144 w145 =>
 ∃ b146, e144 = .returned (.bool b146) ∧
 Kept L140 w142 w145 ∧
 if ((true && b146) == true) = true then
 CallX Tryz.prog 114 #[(.agg #[.int .u8 a_22, .int .u32 a_23, .slice a_24 a_24l a_24c])] w145 fun e147 w148 =>
 ∃ b149, e147 = .returned (.bool b149) ∧
 Kept L140 w145 w148 ∧
 R (.returned (.bool (true && b149))) w148
 else
 R (.returned (.bool false)) w145
 else
 R (.returned (.bool false)) w142
 else
 if (a_0 == 2) = true then
 ∀ w134 L135, Hid [] w w134 →
 NewL w.heap.size [] w w134 L135 →
 CallX Tryz.prog 112 #[(IdW a_9 a_10 a_11 a_12 a_13 a_14 a_15 a_16 a_17 a_18)] w134 fun e136 w137 =>
 ∃ b138, e136 = .returned (.bool b138) ∧
 Kept L135 w134 w137 ∧
 R (.returned (.bool b138)) w137
 else
 if (a_0 == 3) = true then
 if ((((decide (a_3 > 0) && decide (a_4 ≤ 400)) && decide (a_5 ≤ 400)) && decide ((IntKind.wrap .i64 ((IntKind.wrap .i64 a_4) + ((a_29l : Nat) : Int))) ≤ 400)) == true) = true then
 ∀ w129 L130, Hid [] w w129 →
 NewL w.heap.size [] w w129 L130 →
 CallX Tryz.prog 115 #[.slice a_29 a_29l a_29c, .int .u8 a_1] w129 fun e131 w132 =>
 ∃ b133, e131 = .returned (.bool b133) ∧
 Kept L130 w129 w132 ∧
 R (.returned (.bool (true && b133))) w132
 else
 ∀ w128, Hid [] w w128 →
 R (.returned (.bool false)) w128
 else
 if (a_0 == 4) = true then
 ∀ w127, Hid [] w w127 →
 R (.returned (.bool (decide (a_3 > 0) && decide (a_4 ≤ 400)))) w127
 else
 if (a_0 == 5) = true then
 if (a_0 == 5) = true then
 ∀ w126, Hid [] w w126 →
 R (.returned (.bool (decide (a_3 > 0) && decide (a_7 > 0)))) w126
 else
 if (a_0 == 8) = true then
 if ((decide (a_3 > 0) && decide (a_7 > 0)) == true) = true then
 ∀ w118 L119, Hid [] w w118 →
 NewL w.heap.size [] w w118 L119 →
 CallX Tryz.prog 115 #[.slice a_29 a_29l a_29c, .int .u8 a_1] w118 fun e120 w121 =>
 ∃ b122, e120 = .returned (.bool b122) ∧
 Kept L119 w118 w121 ∧
 if ((true && b122) == true) = true then
 if ((!a_27) == false) = true then
 if ((decide (a_8 > 0)) == true) = true then
 CallX Tryz.prog 116 #[(MgW a_0 a_1 a_2 a_3 a_4 a_5 a_6 a_7 a_8 a_9 a_10 a_11 a_12 a_13 a_14 a_15 a_16 a_17 a_18 a_19 a_19l a_19c a_20 a_21 a_22 a_23 a_24 a_24l a_24c a_25 a_26 a_27 a_28 a_28l a_28c a_29 a_29l a_29c a_30 a_30l a_30c)] w121 fun e123 w124 =>
 ∃ b125, e123 = .returned (.bool b125) ∧
 Kept L119 w121 w124 ∧
 R (.returned (.bool (true && (false || (true && b125))))) w124
 else
 R (.returned (.bool false)) w121
 else
 R (.returned (.bool true)) w121
 else
 R (.returned (.bool false)) w121
 else
 ∀ w117, Hid [] w w117 →
 R (.returned (.bool false)) w117
 else
 if (a_0 == 9) = true then
 if ((decide (a_3 > 0) && decide (a_7 > 0)) == true) = true then
 ∀ w112 L113, Hid [] w w112 →
 NewL w.heap.size [] w w112 L113 →
 CallX Tryz.prog 116 #[(MgW a_0 a_1 a_2 a_3 a_4 a_5 a_6 a_7 a_8 a_9 a_10 a_11 a_12 a_13 a_14 a_15 a_16 a_17 a_18 a_19 a_19l a_19c a_20 a_21 a_22 a_23 a_24 a_24l a_24c a_25 a_26 a_27 a_28 a_28l a_28c a_29 a_29l a_29c a_30 a_30l a_30c)] w112 fun e114 w115 =>
 ∃ b116, e114 = .returned (.bool b116) ∧
 Kept L113 w112 w115 ∧
 R (.returned (.bool (true && b116))) w115
 else
 ∀ w111, Hid [] w w111 →
 R (.returned (.bool false)) w111
 else
 if (a_0 == 10) = true then
 ∀ w103 L104, Hid [] w w103 →
 NewL w.heap.size [] w w103 L104 →
 CallX Tryz.prog 114 #[(.agg #[.int .u8 a_22, .int .u32 a_23, .slice a_24 a_24l a_24c])] w103 fun e105 w106 =>
 ∃ b107, e105 = .returned (.bool b107) ∧
 Kept L104 w103 w106 ∧
 if (b107 == true) = true then
 CallX Tryz.prog 115 #[.slice a_29 a_29l a_29c, .int .u8 a_22] w106 fun e108 w109 =>
 ∃ b110, e108 = .returned (.bool b110) ∧
 Kept L104 w106 w109 ∧
 R (.returned (.bool (true && b110))) w109
 else
 R (.returned (.bool false)) w106
 else
 if (a_0 == 11) = true then
 if (a_0 == 11) = true then
 ∀ w98 L99, Hid [] w w98 →
 NewL w.heap.size [] w w98 L99 →
 CallX Tryz.prog 117 #[(.agg #[.int .u8 a_25, .int .u16 a_26])] w98 fun e100 w101 =>
 ∃ b102, e100 = .returned (.bool b102) ∧
 Kept L99 w98 w101 ∧
 R (.returned (.bool b102)) w101
 else
 ∀ w97, Hid [] w w97 →
 R (.returned (.bool false)) w97
 else
 if (a_0 == 12) = true then
 if (a_0 == 12) = true then
 ∀ w92 L93, Hid [] w w92 →
 NewL w.heap.size [] w w92 L93 →
 CallX Tryz.prog 117 #[(.agg #[.int .u8 a_25, .int .u16 a_26])] w92 fun e94 w95 =>
 ∃ b96, e94 = .returned (.bool b96) ∧
 Kept L93 w92 w95 ∧
 R (.returned (.bool b96)) w95
 else
 ∀ w91, Hid [] w w91 →
 R (.returned (.bool false)) w91
 else
 if (a_0 == 13) = true then
 ∀ w86 L87, Hid [] w w86 →
 NewL w.heap.size [] w w86 L87 →
 CallX Tryz.prog 117 #[(.agg #[.int .u8 a_25, .int .u16 a_26])] w86 fun e88 w89 =>
 ∃ b90, e88 = .returned (.bool b90) ∧
 Kept L87 w86 w89 ∧
 R (.returned (.bool b90)) w89
 else
 ∀ w85, Hid [] w w85 →
 R (.returned (.bool false)) w85
 else
 if (a_0 == 6) = true then
 if (a_0 == 6) = true then
 ∀ w84, Hid [] w w84 →
 R (.returned (.bool (decide (a_3 > 0) && decide (a_7 > 0)))) w84
 else
 if (a_0 == 8) = true then
 if ((decide (a_3 > 0) && decide (a_7 > 0)) == true) = true then
 ∀ w76 L77, Hid [] w w76 →
 NewL w.heap.size [] w w76 L77 →
 CallX Tryz.prog 115 #[.slice a_29 a_29l a_29c, .int .u8 a_1] w76 fun e78 w79 =>
 ∃ b80, e78 = .returned (.bool b80) ∧
 Kept L77 w76 w79 ∧
 if ((true && b80) == true) = true then
 if ((!a_27) == false) = true then
 if ((decide (a_8 > 0)) == true) = true then
 CallX Tryz.prog 116 #[(MgW a_0 a_1 a_2 a_3 a_4 a_5 a_6 a_7 a_8 a_9 a_10 a_11 a_12 a_13 a_14 a_15 a_16 a_17 a_18 a_19 a_19l a_19c a_20 a_21 a_22 a_23 a_24 a_24l a_24c a_25 a_26 a_27 a_28 a_28l a_28c a_29 a_29l a_29c a_30 a_30l a_30c)] w79 fun e81 w82 =>
 ∃ b83, e81 = .returned (.bool b83) ∧
 Kept L77 w79 w82 ∧
 R (.returned (.bool (true && (false || (true && b83))))) w82
 else
 R (.returned (.bool false)) w79
 else
 R (.returned (.bool true)) w79
 else
 R (.returned (.bool false)) w79
 else
 ∀ w75, Hid [] w w75 →
 R (.returned (.bool false)) w75
 else
 if (a_0 == 9) = true then
 if ((decide (a_3 > 0) && decide (a_7 > 0)) == true) = true then
 ∀ w70 L71, Hid [] w w70 →
 NewL w.heap.size [] w w70 L71 →
 CallX Tryz.prog 116 #[(MgW a_0 a_1 a_2 a_3 a_4 a_5 a_6 a_7 a_8 a_9 a_10 a_11 a_12 a_13 a_14 a_15 a_16 a_17 a_18 a_19 a_19l a_19c a_20 a_21 a_22 a_23 a_24 a_24l a_24c a_25 a_26 a_27 a_28 a_28l a_28c a_29 a_29l a_29c a_30 a_30l a_30c)] w70 fun e72 w73 =>
 ∃ b74, e72 = .returned (.bool b74) ∧
 Kept L71 w70 w73 ∧
 R (.returned (.bool (true && b74))) w73
 else
 ∀ w69, Hid [] w w69 →
 R (.returned (.bool false)) w69
 else
 if (a_0 == 10) = true then
 ∀ w61 L62, Hid [] w w61 →
 NewL w.heap.size [] w w61 L62 →
 CallX Tryz.prog 114 #[(.agg #[.int .u8 a_22, .int .u32 a_23, .slice a_24 a_24l a_24c])] w61 fun e63 w64 =>
 ∃ b65, e63 = .returned (.bool b65) ∧
 Kept L62 w61 w64 ∧
 if (b65 == true) = true then
 CallX Tryz.prog 115 #[.slice a_29 a_29l a_29c, .int .u8 a_22] w64 fun e66 w67 =>
 ∃ b68, e66 = .returned (.bool b68) ∧
 Kept L62 w64 w67 ∧
 R (.returned (.bool (true && b68))) w67
 else
 R (.returned (.bool false)) w64
 else
 if (a_0 == 11) = true then
 if (a_0 == 11) = true then
 ∀ w56 L57, Hid [] w w56 →
 NewL w.heap.size [] w w56 L57 →
 CallX Tryz.prog 117 #[(.agg #[.int .u8 a_25, .int .u16 a_26])] w56 fun e58 w59 =>
 ∃ b60, e58 = .returned (.bool b60) ∧
 Kept L57 w56 w59 ∧
 R (.returned (.bool b60)) w59
 else
 ∀ w55, Hid [] w w55 →
 R (.returned (.bool false)) w55
 else
 if (a_0 == 12) = true then
 if (a_0 == 12) = true then
 ∀ w50 L51, Hid [] w w50 →
 NewL w.heap.size [] w w50 L51 →
 CallX Tryz.prog 117 #[(.agg #[.int .u8 a_25, .int .u16 a_26])] w50 fun e52 w53 =>
 ∃ b54, e52 = .returned (.bool b54) ∧
 Kept L51 w50 w53 ∧
 R (.returned (.bool b54)) w53
 else
 ∀ w49, Hid [] w w49 →
 R (.returned (.bool false)) w49
 else
 if (a_0 == 13) = true then
 ∀ w44 L45, Hid [] w w44 →
 NewL w.heap.size [] w w44 L45 →
 CallX Tryz.prog 117 #[(.agg #[.int .u8 a_25, .int .u16 a_26])] w44 fun e46 w47 =>
 ∃ b48, e46 = .returned (.bool b48) ∧
 Kept L45 w44 w47 ∧
 R (.returned (.bool b48)) w47
 else
 ∀ w43, Hid [] w w43 →
 R (.returned (.bool false)) w43
 else
 if (a_0 == 7) = true then
 ∀ w42, Hid [] w w42 →
 R (.returned (.bool (decide (a_3 > 0) && decide (a_7 > 0)))) w42
 else
 if (a_0 == 8) = true then
 if ((decide (a_3 > 0) && decide (a_7 > 0)) == true) = true then
 ∀ w34 L35, Hid [] w w34 →
 NewL w.heap.size [] w w34 L35 →
 CallX Tryz.prog 115 #[.slice a_29 a_29l a_29c, .int .u8 a_1] w34 fun e36 w37 =>
 ∃ b38, e36 = .returned (.bool b38) ∧
 Kept L35 w34 w37 ∧
 if ((true && b38) == true) = true then
 if ((!a_27) == false) = true then
 if ((decide (a_8 > 0)) == true) = true then
 CallX Tryz.prog 116 #[(MgW a_0 a_1 a_2 a_3 a_4 a_5 a_6 a_7 a_8 a_9 a_10 a_11 a_12 a_13 a_14 a_15 a_16 a_17 a_18 a_19 a_19l a_19c a_20 a_21 a_22 a_23 a_24 a_24l a_24c a_25 a_26 a_27 a_28 a_28l a_28c a_29 a_29l a_29c a_30 a_30l a_30c)] w37 fun e39 w40 =>
 ∃ b41, e39 = .returned (.bool b41) ∧
 Kept L35 w37 w40 ∧
 R (.returned (.bool (true && (false || (true && b41))))) w40
 else
 R (.returned (.bool false)) w37
 else
 R (.returned (.bool true)) w37
 else
 R (.returned (.bool false)) w37
 else
 ∀ w33, Hid [] w w33 →
 R (.returned (.bool false)) w33
 else
 if (a_0 == 9) = true then
 if ((decide (a_3 > 0) && decide (a_7 > 0)) == true) = true then
 ∀ w28 L29, Hid [] w w28 →
 NewL w.heap.size [] w w28 L29 →
 CallX Tryz.prog 116 #[(MgW a_0 a_1 a_2 a_3 a_4 a_5 a_6 a_7 a_8 a_9 a_10 a_11 a_12 a_13 a_14 a_15 a_16 a_17 a_18 a_19 a_19l a_19c a_20 a_21 a_22 a_23 a_24 a_24l a_24c a_25 a_26 a_27 a_28 a_28l a_28c a_29 a_29l a_29c a_30 a_30l a_30c)] w28 fun e30 w31 =>
 ∃ b32, e30 = .returned (.bool b32) ∧
 Kept L29 w28 w31 ∧
 R (.returned (.bool (true && b32))) w31
 else
 ∀ w27, Hid [] w w27 →
 R (.returned (.bool false)) w27
 else
 if (a_0 == 10) = true then
 ∀ w19 L20, Hid [] w w19 →
 NewL w.heap.size [] w w19 L20 →
 CallX Tryz.prog 114 #[(.agg #[.int .u8 a_22, .int .u32 a_23, .slice a_24 a_24l a_24c])] w19 fun e21 w22 =>
 ∃ b23, e21 = .returned (.bool b23) ∧
 Kept L20 w19 w22 ∧
 if (b23 == true) = true then
 CallX Tryz.prog 115 #[.slice a_29 a_29l a_29c, .int .u8 a_22] w22 fun e24 w25 =>
 ∃ b26, e24 = .returned (.bool b26) ∧
 Kept L20 w22 w25 ∧
 R (.returned (.bool (true && b26))) w25
 else
 R (.returned (.bool false)) w22
 else
 if (a_0 == 11) = true then
 if (a_0 == 11) = true then
 ∀ w14 L15, Hid [] w w14 →
 NewL w.heap.size [] w w14 L15 →
 CallX Tryz.prog 117 #[(.agg #[.int .u8 a_25, .int .u16 a_26])] w14 fun e16 w17 =>
 ∃ b18, e16 = .returned (.bool b18) ∧
 Kept L15 w14 w17 ∧
 R (.returned (.bool b18)) w17
 else
 ∀ w13, Hid [] w w13 →
 R (.returned (.bool false)) w13
 else
 if (a_0 == 12) = true then
 if (a_0 == 12) = true then
 ∀ w8 L9, Hid [] w w8 →
 NewL w.heap.size [] w w8 L9 →
 CallX Tryz.prog 117 #[(.agg #[.int .u8 a_25, .int .u16 a_26])] w8 fun e10 w11 =>
 ∃ b12, e10 = .returned (.bool b12) ∧
 Kept L9 w8 w11 ∧
 R (.returned (.bool b12)) w11
 else
 ∀ w7, Hid [] w w7 →
 R (.returned (.bool false)) w7
 else
 if (a_0 == 13) = true then
 ∀ w2 L3, Hid [] w w2 →
 NewL w.heap.size [] w w2 L3 →
 CallX Tryz.prog 117 #[(.agg #[.int .u8 a_25, .int .u16 a_26])] w2 fun e4 w5 =>
 ∃ b6, e4 = .returned (.bool b6) ∧
 Kept L3 w2 w5 ∧
 R (.returned (.bool b6)) w5
 else
 ∀ w1, Hid [] w w1 →
 R (.returned (.bool false)) w1) :
 Calls Tryz.prog 57 #[.agg #[.int .u8 a_0, .int .u8 a_1, .int .u8 a_2, .int .u32 a_3, .int .u32 a_4, .int .u32 a_5, .int .u32 a_6, .int .u64 a_7, .int .u64 a_8, .int .u8 a_9, .int .u16 a_10, .int .u32 a_11, .int .u8 a_12, .int .u8 a_13, .int .u8 a_14, .int .u8 a_15, .int .u8 a_16, .int .u8 a_17, .int .u8 a_18, .slice a_19 a_19l a_19c, .int .u8 a_20, .string a_21, .int .u8 a_22, .int .u32 a_23, .slice a_24 a_24l a_24c, .int .u8 a_25, .int .u16 a_26, .bool a_27, .slice a_28 a_28l a_28c, .slice a_29 a_29l a_29c, .slice a_30 a_30l a_30c]] w R :=
 calls_of { isLoc := [1], sym := [], loops := [], joins := [] } Tryz.func57 (by kernel_rfl) h
theorem x_mOnly (a_0 a_1 a_2 a_3 a_4 a_5 a_6 a_7 a_8 a_9 a_10 a_11 a_12 a_13 a_14 a_15 a_16 a_17 a_18 : Int) (a_19 : Option Addr) (a_19l a_19c : Nat) (a_20 : Int) (a_21 : ByteArray) (a_22 a_23 : Int) (a_24 : Option Addr) (a_24l a_24c : Nat) (a_25 a_26 : Int) (a_27 : Bool) (a_28 : Option Addr) (a_28l a_28c : Nat) (a_29 : Option Addr) (a_29l a_29c : Nat) (a_30 : Option Addr) (a_30l a_30c : Nat) (w : World) (R : Ending → World → Prop) (h :
 if (a_0 == 0) = true then
 ∃ x44, (FactsW x44 w []) ∧
 ∀ w45, Hid [] w w45 →
 R (.returned (MgW a_0 a_1 0 0 0 0 a_6 0 0 a_9 a_10 a_11 a_12 a_13 a_14 a_15 a_16 a_17 a_18 a_19 a_19l a_19c 0 (ByteArray.mk #[]) 0 0 none 0 0 0 0 false none 0 0 none 0 0 none 0 0)) w45
 else
 if (a_0 == 1) = true then
 ∀ w43, Hid [] w w43 →
 R (.returned (MgW a_0 0 0 0 0 0 0 0 0 a_9 a_10 a_11 a_12 a_13 a_14 a_15 a_16 a_17 a_18 none 0 0 a_20 a_21 a_22 a_23 a_24 a_24l a_24c 0 0 false none 0 0 none 0 0 none 0 0)) w43
 else
 if (a_0 == 2) = true then
 ∀ w42, Hid [] w w42 →
 R (.returned (MgW a_0 0 a_2 0 0 0 0 0 0 a_9 a_10 a_11 a_12 a_13 a_14 a_15 a_16 a_17 a_18 none 0 0 0 (ByteArray.mk #[]) 0 0 none 0 0 0 0 false none 0 0 none 0 0 none 0 0)) w42
 else
 if (a_0 == 3) = true then
 ∃ x39, (FactsW x39 w []) ∧
 ∃ x40, (FactsW x40 w []) ∧
 ∀ w41, Hid [] w w41 →
 R (.returned (MgW a_0 a_1 0 a_3 a_4 a_5 0 0 0 0 0 0 0 0 0 0 0 0 0 none 0 0 0 (ByteArray.mk #[]) 0 0 none 0 0 0 0 false none 0 0 a_29 a_29l a_29c none 0 0)) w41
 else
 if (a_0 == 4) = true then
 ∃ x37, (FactsW x37 w []) ∧
 ∀ w38, Hid [] w w38 →
 R (.returned (MgW a_0 a_1 0 a_3 a_4 0 0 0 0 0 0 0 0 0 0 0 0 0 0 none 0 0 0 (ByteArray.mk #[]) 0 0 none 0 0 0 0 false none 0 0 none 0 0 none 0 0)) w38
 else
 if (a_0 == 8) = true then
 ∃ x31, (FactsW x31 w []) ∧
 if a_27 = true then
 ∃ x34, (FactsW x34 w []) ∧
 ∃ x35, (FactsW x35 w []) ∧
 ∀ w36, Hid [] w w36 →
 R (.returned (MgW a_0 a_1 0 a_3 0 0 0 a_7 a_8 0 0 0 0 0 0 0 0 0 0 none 0 0 0 (ByteArray.mk #[]) 0 0 none 0 0 0 0 a_27 a_28 a_28l a_28c a_29 a_29l a_29c a_30 a_30l a_30c)) w36
 else
 ∃ x32, (FactsW x32 w []) ∧
 ∀ w33, Hid [] w w33 →
 R (.returned (MgW a_0 a_1 0 a_3 0 0 0 a_7 0 0 0 0 0 0 0 0 0 0 0 none 0 0 0 (ByteArray.mk #[]) 0 0 none 0 0 0 0 a_27 none 0 0 a_29 a_29l a_29c none 0 0)) w33
 else
 if (a_0 == 9) = true then
 ∃ x28, (FactsW x28 w []) ∧
 ∃ x29, (FactsW x29 w []) ∧
 ∀ w30, Hid [] w w30 →
 R (.returned (MgW a_0 a_1 0 a_3 0 0 0 a_7 0 0 0 0 0 0 0 0 0 0 0 none 0 0 0 (ByteArray.mk #[]) 0 0 none 0 0 0 0 false a_28 a_28l a_28c none 0 0 a_30 a_30l a_30c)) w30
 else
 if (a_0 == 5) = true then
 if (a_0 == 5) = true then
 ∃ x26, (FactsW x26 w []) ∧
 ∀ w27, Hid [] w w27 →
 R (.returned (MgW a_0 a_1 0 a_3 0 0 0 a_7 0 0 0 0 0 0 0 0 0 0 0 none 0 0 0 (ByteArray.mk #[]) 0 0 none 0 0 0 0 false none 0 0 none 0 0 none 0 0)) w27
 else
 if (a_0 == 10) = true then
 ∀ w25, Hid [] w w25 →
 R (.returned (MgW a_0 0 0 0 0 0 0 0 0 0 0 0 0 0 0 0 0 0 0 none 0 0 0 (ByteArray.mk #[]) a_22 a_23 a_24 a_24l a_24c 0 0 false none 0 0 a_29 a_29l a_29c none 0 0)) w25
 else
 if (a_0 == 11) = true then
 if (a_0 == 11) = true then
 ∀ w24, Hid [] w w24 →
 R (.returned (MgW a_0 a_1 0 0 0 0 0 0 0 0 0 0 0 0 0 0 0 0 0 none 0 0 0 (ByteArray.mk #[]) 0 0 none 0 0 a_25 a_26 false none 0 0 none 0 0 none 0 0)) w24
 else
 ∀ w23, Hid [] w w23 →
 R (.returned (MgW a_0 a_1 0 0 0 0 0 0 0 0 0 0 0 0 0 0 0 0 0 none 0 0 0 (ByteArray.mk #[]) 0 0 none 0 0 0 0 false none 0 0 none 0 0 none 0 0)) w23
 else
 if (a_0 == 12) = true then
 if (a_0 == 12) = true then
 ∀ w22, Hid [] w w22 →
 R (.returned (MgW a_0 a_1 0 0 0 0 0 0 0 0 0 0 0 0 0 0 0 0 0 none 0 0 0 (ByteArray.mk #[]) 0 0 none 0 0 a_25 a_26 false none 0 0 none 0 0 none 0 0)) w22
 else
 ∀ w21, Hid [] w w21 →
 R (.returned (MgW a_0 a_1 0 0 0 0 0 0 0 0 0 0 0 0 0 0 0 0 0 none 0 0 0 (ByteArray.mk #[]) 0 0 none 0 0 0 0 false none 0 0 none 0 0 none 0 0)) w21
 else
 if (a_0 == 13) = true then
 ∀ w20, Hid [] w w20 →
 R (.returned (MgW a_0 a_1 0 0 0 0 0 0 0 0 0 0 0 0 0 0 0 0 0 none 0 0 0 (ByteArray.mk #[]) 0 0 none 0 0 a_25 a_26 false none 0 0 none 0 0 none 0 0)) w20
 else
 ∀ w19, Hid [] w w19 →
 R (.returned (MgW a_0 a_1 0 0 0 0 0 0 0 0 0 0 0 0 0 0 0 0 0 none 0 0 0 (ByteArray.mk #[]) 0 0 none 0 0 0 0 false none 0 0 none 0 0 none 0 0)) w19
 else
 if (a_0 == 6) = true then
 if (a_0 == 6) = true then
 ∃ x17, (FactsW x17 w []) ∧
 ∀ w18, Hid [] w w18 →
 R (.returned (MgW a_0 a_1 0 a_3 0 0 0 a_7 0 0 0 0 0 0 0 0 0 0 0 none 0 0 0 (ByteArray.mk #[]) 0 0 none 0 0 0 0 false none 0 0 none 0 0 none 0 0)) w18
 else
 if (a_0 == 10) = true then
 ∀ w16, Hid [] w w16 →
 R (.returned (MgW a_0 0 0 0 0 0 0 0 0 0 0 0 0 0 0 0 0 0 0 none 0 0 0 (ByteArray.mk #[]) a_22 a_23 a_24 a_24l a_24c 0 0 false none 0 0 a_29 a_29l a_29c none 0 0)) w16
 else
 if (a_0 == 11) = true then
 if (a_0 == 11) = true then
 ∀ w15, Hid [] w w15 →
 R (.returned (MgW a_0 a_1 0 0 0 0 0 0 0 0 0 0 0 0 0 0 0 0 0 none 0 0 0 (ByteArray.mk #[]) 0 0 none 0 0 a_25 a_26 false none 0 0 none 0 0 none 0 0)) w15
 else
 ∀ w14, Hid [] w w14 →
 R (.returned (MgW a_0 a_1 0 0 0 0 0 0 0 0 0 0 0 0 0 0 0 0 0 none 0 0 0 (ByteArray.mk #[]) 0 0 none 0 0 0 0 false none 0 0 none 0 0 none 0 0)) w14
 else
 if (a_0 == 12) = true then
 if (a_0 == 12) = true then
 ∀ w13, Hid [] w w13 →
 R (.returned (MgW a_0 a_1 0 0 0 0 0 0 0 0 0 0 0 0 0 0 0 0 0 none 0 0 0 (ByteArray.mk #[]) 0 0 none 0 0 a_25 a_26 false none 0 0 none 0 0 none 0 0)) w13
 else
 ∀ w12, Hid [] w w12 →
 R (.returned (MgW a_0 a_1 0 0 0 0 0 0 0 0 0 0 0 0 0 0 0 0 0 none 0 0 0 (ByteArray.mk #[]) 0 0 none 0 0 0 0 false none 0 0 none 0 0 none 0 0)) w12
 else
 if (a_0 == 13) = true then
 ∀ w11, Hid [] w w11 →
 R (.returned (MgW a_0 a_1 0 0 0 0 0 0 0 0 0 0 0 0 0 0 0 0 0 none 0 0 0 (ByteArray.mk #[]) 0 0 none 0 0 a_25 a_26 false none 0 0 none 0 0 none 0 0)) w11
 else
 ∀ w10, Hid [] w w10 →
 R (.returned (MgW a_0 a_1 0 0 0 0 0 0 0 0 0 0 0 0 0 0 0 0 0 none 0 0 0 (ByteArray.mk #[]) 0 0 none 0 0 0 0 false none 0 0 none 0 0 none 0 0)) w10
 else
 if (a_0 == 7) = true then
 ∃ x8, (FactsW x8 w []) ∧
 ∀ w9, Hid [] w w9 →
 R (.returned (MgW a_0 a_1 0 a_3 0 0 0 a_7 0 0 0 0 0 0 0 0 0 0 0 none 0 0 0 (ByteArray.mk #[]) 0 0 none 0 0 0 0 false none 0 0 none 0 0 none 0 0)) w9
 else
 if (a_0 == 10) = true then
 ∀ w7, Hid [] w w7 →
 R (.returned (MgW a_0 0 0 0 0 0 0 0 0 0 0 0 0 0 0 0 0 0 0 none 0 0 0 (ByteArray.mk #[]) a_22 a_23 a_24 a_24l a_24c 0 0 false none 0 0 a_29 a_29l a_29c none 0 0)) w7
 else
 if (a_0 == 11) = true then
 if (a_0 == 11) = true then
 ∀ w6, Hid [] w w6 →
 R (.returned (MgW a_0 a_1 0 0 0 0 0 0 0 0 0 0 0 0 0 0 0 0 0 none 0 0 0 (ByteArray.mk #[]) 0 0 none 0 0 a_25 a_26 false none 0 0 none 0 0 none 0 0)) w6
 else
 ∀ w5, Hid [] w w5 →
 R (.returned (MgW a_0 a_1 0 0 0 0 0 0 0 0 0 0 0 0 0 0 0 0 0 none 0 0 0 (ByteArray.mk #[]) 0 0 none 0 0 0 0 false none 0 0 none 0 0 none 0 0)) w5
 else
 if (a_0 == 12) = true then
 if (a_0 == 12) = true then
 ∀ w4, Hid [] w w4 →
 R (.returned (MgW a_0 a_1 0 0 0 0 0 0 0 0 0 0 0 0 0 0 0 0 0 none 0 0 0 (ByteArray.mk #[]) 0 0 none 0 0 a_25 a_26 false none 0 0 none 0 0 none 0 0)) w4
 else
 ∀ w3, Hid [] w w3 →
 R (.returned (MgW a_0 a_1 0 0 0 0 0 0 0 0 0 0 0 0 0 0 0 0 0 none 0 0 0 (ByteArray.mk #[]) 0 0 none 0 0 0 0 false none 0 0 none 0 0 none 0 0)) w3
 else
 if (a_0 == 13) = true then
 ∀ w2, Hid [] w w2 →
 R (.returned (MgW a_0 a_1 0 0 0 0 0 0 0 0 0 0 0 0 0 0 0 0 0 none 0 0 0 (ByteArray.mk #[]) 0 0 none 0 0 a_25 a_26 false none 0 0 none 0 0 none 0 0)) w2
 else
 ∀ w1, Hid [] w w1 →
 R (.returned (MgW a_0 a_1 0 0 0 0 0 0 0 0 0 0 0 0 0 0 0 0 0 none 0 0 0 (ByteArray.mk #[]) 0 0 none 0 0 0 0 false none 0 0 none 0 0 none 0 0)) w1) :
 Calls Tryz.prog 58 #[.agg #[.int .u8 a_0, .int .u8 a_1, .int .u8 a_2, .int .u32 a_3, .int .u32 a_4, .int .u32 a_5, .int .u32 a_6, .int .u64 a_7, .int .u64 a_8, .int .u8 a_9, .int .u16 a_10, .int .u32 a_11, .int .u8 a_12, .int .u8 a_13, .int .u8 a_14, .int .u8 a_15, .int .u8 a_16, .int .u8 a_17, .int .u8 a_18, .slice a_19 a_19l a_19c, .int .u8 a_20, .string a_21, .int .u8 a_22, .int .u32 a_23, .slice a_24 a_24l a_24c, .int .u8 a_25, .int .u16 a_26, .bool a_27, .slice a_28 a_28l a_28c, .slice a_29 a_29l a_29c, .slice a_30 a_30l a_30c]] w R :=
 calls_of { isLoc := [1, 2, 3], sym := [], loops := [], joins := [], stored := [(17, [3]), (20, [3]), (21, [3]), (22, [3]), (24, [3]), (25, [3]), (26, [3]), (27, [3])] } Tryz.func58 (by kernel_rfl) h
end Go.Proofs
