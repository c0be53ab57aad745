import Derived.Test.YtjphfelmaingjaaGreatXFn
import Derived.Test.YtjphfelmaingjaaGreatVwba
import Derived.Test.YtjphfelmaingjaaGreatProg
set_option maxRecDepth 100000
set_option linter.unusedVariables false
/- The verification conditions of this seat's functions, as the engine has them: printed by a program of the bench; checked by the kernel. -/
namespace Go.Proofs
open Go X
theorem x_rEntries (a : Option Addr) (al ac : Nat) (b : Int) (w : World) (R : Ending → World → Prop) (h :
 ∃ x1 : Int → World → List Nat → Prop, ∃ x2 : Int → World → Nat, (x1 0 w []) ∧
 ∀ n3 w4 L5, (LF w.heap.size w4 L5) →
 (x1 n3 w4 L5) →
 if (decide (n3 < ((al : Nat) : Int)) && decide (n3 ≤ 400)) = true then
 ((0 : Int) ≤ n3) ∧
 (n3 < ((al : Nat) : Int)) ∧
 onSome a fun p6 =>
 ∃ n7 n8 n9 n10 n11 n12 n13 n14 n15 n16 n17 n18 q19 k20 k21 n22 s23 q24 k25 k26 n27 n28, (Cells w4 (p6.add ((n3).toNat * 18)) [.int .u8 n7, .int .u8 n8, .int .u16 n9, .int .u32 n10, .int .u8 n11, .int .u8 n12, .int .u8 n13, .int .u8 n14, .int .u8 n15, .int .u8 n16, .int .u8 n17, .int .u32 n18, .slice q19 k20 k21, .int .u8 n22, .string s23, .slice q24 k25 k26, .int .u8 n27, .int .u16 n28]) ∧
 CallX Tryz.prog 155 #[(EnW n7 n8 n9 n10 n11 n12 n13 n14 n15 n16 n17 n18 q19 k20 k21 n22 s23 q24 k25 k26 n27 n28), .int .u8 b] w4 fun e29 w30 =>
 ∃ b31, e29 = .returned (.bool b31) ∧
 w4.heap.size ≤ w30.heap.size ∧
 if (!b31) = true then
 R (.returned (.bool false)) w30
 else
 (x1 (IntKind.wrap .i64 (n3 + 1)) w30 []) ∧
 Nat.le ((x2 (IntKind.wrap .i64 (n3 + 1)) w30) + 1) (x2 n3 w4)
 else
 R (.returned (.bool (decide (((al : Nat) : Int) ≤ 400)))) w4) :
 Calls Tryz.prog 128 #[.slice a al ac, .int .u8 b] w R :=
 calls_of { isLoc := [], sym := [], loops := [(2, .inv [(5, .int .i64)] [] true)], joins := [] } Tryz.func128 (by kernel_rfl) h
theorem x_rFields (a : Int) (w : World) (R : Ending → World → Prop) (h :
 if (decide ((IntKind.wrap .i64 a) ≥ 14)) = true then
 R (.returned (.string (ByteArray.mk #[]))) (w.alloc (.cells #[.string (ByteArray.mk #[OfNat.ofNat 103, OfNat.ofNat 105, OfNat.ofNat 102, OfNat.ofNat 112]), .string (ByteArray.mk #[OfNat.ofNat 105, OfNat.ofNat 114, OfNat.ofNat 118]), .string (ByteArray.mk #[OfNat.ofNat 105, OfNat.ofNat 99]), .string (ByteArray.mk #[OfNat.ofNat 103, OfNat.ofNat 110, OfNat.ofNat 97, OfNat.ofNat 107, OfNat.ofNat 101]), .string (ByteArray.mk #[OfNat.ofNat 103, OfNat.ofNat 110, OfNat.ofNat 97]), .string (ByteArray.mk #[OfNat.ofNat 103, OfNat.ofNat 110, OfNat.ofNat 98]), .string (ByteArray.mk #[OfNat.ofNat 103, OfNat.ofNat 110, OfNat.ofNat 98]), .string (ByteArray.mk #[OfNat.ofNat 103, OfNat.ofNat 110, OfNat.ofNat 98]), .string (ByteArray.mk #[OfNat.ofNat 103, OfNat.ofNat 110, OfNat.ofNat 98, OfNat.ofNat 101, OfNat.ofNat 104]), .string (ByteArray.mk #[OfNat.ofNat 103, OfNat.ofNat 110, OfNat.ofNat 98, OfNat.ofNat 109]), .string (ByteArray.mk #[OfNat.ofNat 118, OfNat.ofNat 101]), .string (ByteArray.mk #[OfNat.ofNat 103, OfNat.ofNat 115]), .string (ByteArray.mk #[OfNat.ofNat 103, OfNat.ofNat 115]), .string (ByteArray.mk #[OfNat.ofNat 103, OfNat.ofNat 115])] 9))
 else
 ((0 : Int) ≤ a) ∧
 (a < 14) ∧
 ∃ s1, (World.cell? (w.alloc (.cells #[.string (ByteArray.mk #[OfNat.ofNat 103, OfNat.ofNat 105, OfNat.ofNat 102, OfNat.ofNat 112]), .string (ByteArray.mk #[OfNat.ofNat 105, OfNat.ofNat 114, OfNat.ofNat 118]), .string (ByteArray.mk #[OfNat.ofNat 105, OfNat.ofNat 99]), .string (ByteArray.mk #[OfNat.ofNat 103, OfNat.ofNat 110, OfNat.ofNat 97, OfNat.ofNat 107, OfNat.ofNat 101]), .string (ByteArray.mk #[OfNat.ofNat 103, OfNat.ofNat 110, OfNat.ofNat 97]), .string (ByteArray.mk #[OfNat.ofNat 103, OfNat.ofNat 110, OfNat.ofNat 98]), .string (ByteArray.mk #[OfNat.ofNat 103, OfNat.ofNat 110, OfNat.ofNat 98]), .string (ByteArray.mk #[OfNat.ofNat 103, OfNat.ofNat 110, OfNat.ofNat 98]), .string (ByteArray.mk #[OfNat.ofNat 103, OfNat.ofNat 110, OfNat.ofNat 98, OfNat.ofNat 101, OfNat.ofNat 104]), .string (ByteArray.mk #[OfNat.ofNat 103, OfNat.ofNat 110, OfNat.ofNat 98, OfNat.ofNat 109]), .string (ByteArray.mk #[OfNat.ofNat 118, OfNat.ofNat 101]), .string (ByteArray.mk #[OfNat.ofNat 103, OfNat.ofNat 115]), .string (ByteArray.mk #[OfNat.ofNat 103, OfNat.ofNat 115]), .string (ByteArray.mk #[OfNat.ofNat 103, OfNat.ofNat 115])] 9)) ((⟨w.heap.size, 0, none⟩ : Addr).add ((a).toNat * 1)) = some (.string s1)) ∧
 R (.returned (.string s1)) (w.alloc (.cells #[.string (ByteArray.mk #[OfNat.ofNat 103, OfNat.ofNat 105, OfNat.ofNat 102, OfNat.ofNat 112]), .string (ByteArray.mk #[OfNat.ofNat 105, OfNat.ofNat 114, OfNat.ofNat 118]), .string (ByteArray.mk #[OfNat.ofNat 105, OfNat.ofNat 99]), .string (ByteArray.mk #[OfNat.ofNat 103, OfNat.ofNat 110, OfNat.ofNat 97, OfNat.ofNat 107, OfNat.ofNat 101]), .string (ByteArray.mk #[OfNat.ofNat 103, OfNat.ofNat 110, OfNat.ofNat 97]), .string (ByteArray.mk #[OfNat.ofNat 103, OfNat.ofNat 110, OfNat.ofNat 98]), .string (ByteArray.mk #[OfNat.ofNat 103, OfNat.ofNat 110, OfNat.ofNat 98]), .string (ByteArray.mk #[OfNat.ofNat 103, OfNat.ofNat 110, OfNat.ofNat 98]), .string (ByteArray.mk #[OfNat.ofNat 103, OfNat.ofNat 110, OfNat.ofNat 98, OfNat.ofNat 101, OfNat.ofNat 104]), .string (ByteArray.mk #[OfNat.ofNat 103, OfNat.ofNat 110, OfNat.ofNat 98, OfNat.ofNat 109]), .string (ByteArray.mk #[OfNat.ofNat 118, OfNat.ofNat 101]), .string (ByteArray.mk #[OfNat.ofNat 103, OfNat.ofNat 115]), .string (ByteArray.mk #[OfNat.ofNat 103, OfNat.ofNat 115]), .string (ByteArray.mk #[OfNat.ofNat 103, OfNat.ofNat 115])] 9))) :
 Calls Tryz.prog 39 #[.int .u8 a] w R :=
 calls_of { isLoc := [], sym := [], loops := [], joins := [] } Tryz.func39 (by kernel_rfl) h
theorem x_rLetters (a_0 a_1 a_2 a_3 a_4 a_5 a_6 a_7 a_8 a_9 a_10 a_11 a_12 a_13 a_14 a_15 a_16 a_17 a_18 : Int) (a_19 : Option Addr) (a_19l a_19c : Nat) (a_20 : Int) (a_21 : ByteArray) (a_22 a_23 : Int) (a_24 : Option Addr) (a_24l a_24c : Nat) (a_25 a_26 : Int) (a_27 : Bool) (a_28 : Option Addr) (a_28l a_28c : Nat) (a_29 : Option Addr) (a_29l a_29c : Nat) (a_30 : Option Addr) (a_30l a_30c : Nat) (w : World) (R : Ending → World → Prop) (h :
 ∀ w1 L2, Hid [] w w1 →
 NewL w.heap.size [] w w1 L2 →
 CallX Tryz.prog 39 #[.int .u8 a_0] w1 fun e3 w4 =>
 ∃ s5, e3 = .returned (.string s5) ∧
 Kept L2 w1 w4 ∧
 if ((a_0 == 8) && a_27) = true then
 (((((s5.size) + 2) : Nat) : Int) ≤ 9223372036854775807) ∧
 R (.returned (.string (s5 ++ ByteArray.mk #[OfNat.ofNat 120, OfNat.ofNat 109]))) w4
 else
 R (.returned (.string s5)) w4) :
 Calls Tryz.prog 31 #[.agg #[.int .u8 a_0, .int .u8 a_1, .int .u8 a_2, .int .u32 a_3, .int .u32 a_4, .int .u32 a_5, .int .u32 a_6, .int .u64 a_7, .int .u64 a_8, .int .u8 a_9, .int .u16 a_10, .int .u32 a_11, .int .u8 a_12, .int .u8 a_13, .int .u8 a_14, .int .u8 a_15, .int .u8 a_16, .int .u8 a_17, .int .u8 a_18, .slice a_19 a_19l a_19c, .int .u8 a_20, .string a_21, .int .u8 a_22, .int .u32 a_23, .slice a_24 a_24l a_24c, .int .u8 a_25, .int .u16 a_26, .bool a_27, .slice a_28 a_28l a_28c, .slice a_29 a_29l a_29c, .slice a_30 a_30l a_30c]] w R :=
 calls_of { isLoc := [1], sym := [], loops := [], joins := [] } Tryz.func31 (by kernel_rfl) h
theorem x_rField (a_0 a_1 a_2 a_3 a_4 a_5 a_6 a_7 a_8 a_9 a_10 a_11 a_12 a_13 a_14 a_15 a_16 a_17 a_18 : Int) (a_19 : Option Addr) (a_19l a_19c : Nat) (a_20 : Int) (a_21 : ByteArray) (a_22 a_23 : Int) (a_24 : Option Addr) (a_24l a_24c : Nat) (a_25 a_26 : Int) (a_27 : Bool) (a_28 : Option Addr) (a_28l a_28c : Nat) (a_29 : Option Addr) (a_29l a_29c : Nat) (a_30 : Option Addr) (a_30l a_30c : Nat) (b : Int) (w : World) (R : Ending → World → Prop) (h :
 if (a_0 == 10) = true then
 if (b == 103) = true then
 ∀ w106, Hid [] w w106 →
 R (.returned (.bool (decide (a_1 < 4)))) w106
 else
 if (b == 105) = true then
 ∀ w101 L102, Hid [] w w101 →
 NewL w.heap.size [] w w101 L102 →
 CallX Tryz.prog 124 #[(IdW a_9 a_10 a_11 a_12 a_13 a_14 a_15 a_16 a_17 a_18)] w101 fun e103 w104 =>
 ∃ b105, e103 = .returned (.bool b105) ∧
 Kept L102 w101 w104 ∧
 R (.returned (.bool b105)) w104
 else
 if (b == 102) = true then
 ∀ w100, Hid [] w w100 →
 R (.returned (.bool (decide (a_6 < a_11)))) w100
 else
 if (b == 112) = true then
 ∃ x88, (FactsW x88 w []) ∧
 ∀ w89 L90, Hid [] w w89 →
 NewL w.heap.size [] w w89 L90 →
 CallX Tryz.prog 125 #[.slice a_19 a_19l a_19c] w89 fun e91 w92 =>
 ∃ b93, e91 = .returned (.bool b93) ∧
 Kept L90 w89 w92 ∧
 FactsW x88 w92 L90 ∧
 ∃ x94, (FactsW x94 w92 L90) ∧
 (∀ x95, (x95 ∈ x88) →
 x95 ∈ x94) ∧
 if (b93 == true) = true then
 ((0 : Int) ≤ 0) ∧
 ((0 : Int) < ((a_19l : Nat) : Int)) ∧
 onSome a_19 fun p98 =>
 ∃ n99, ((((p98.add 0).add 0), [.int .u8 n99]) ∈ x94) ∧
 R (.returned (.bool ((true && (n99 == a_1)) && decide ((IntKind.wrap .i64 (((a_19l : Nat) : Int) + (IntKind.wrap .i64 a_12))) ≤ 4)))) w92
 else
 ∃ x96, (FactsW x96 w92 L90) ∧
 (∀ x97, (x97 ∈ x94) →
 x97 ∈ x96) ∧
 R (.returned (.bool (false && decide ((IntKind.wrap .i64 (((a_19l : Nat) : Int) + (IntKind.wrap .i64 a_12))) ≤ 4)))) w92
 else
 if (b == 114) = true then
 ∀ w83 L84, Hid [] w w83 →
 NewL w.heap.size [] w w83 L84 →
 CallX Tryz.prog 126 #[(.agg #[.int .u8 a_20, .string a_21])] w83 fun e85 w86 =>
 ∃ b87, e85 = .returned (.bool b87) ∧
 Kept L84 w83 w86 ∧
 R (.returned (.bool b87)) w86
 else
 if (b == 118) = true then
 ∀ w78 L79, Hid [] w w78 →
 NewL w.heap.size [] w w78 L79 →
 CallX Tryz.prog 127 #[(.agg #[.int .u8 a_22, .int .u32 a_23, .slice a_24 a_24l a_24c])] w78 fun e80 w81 =>
 ∃ b82, e80 = .returned (.bool b82) ∧
 Kept L79 w78 w81 ∧
 R (.returned (.bool b82)) w81
 else
 if (b == 110) = true then
 ∀ w77, Hid [] w w77 →
 R (.returned (.bool (decide (a_3 ≥ 1)))) w77
 else
 if (b == 97) = true then
 ∀ w76, Hid [] w w76 →
 R (.returned (.bool (decide (a_4 ≤ 400)))) w76
 else
 if (b == 107) = true then
 ∀ w75, Hid [] w w75 →
 R (.returned (.bool (decide (a_5 ≤ 400)))) w75
 else
 if (b == 101) = true then
 ∀ w70 L71, Hid [] w w70 →
 NewL w.heap.size [] w w70 L71 →
 CallX Tryz.prog 128 #[.slice a_29 a_29l a_29c, .int .u8 a_22] w70 fun e72 w73 =>
 ∃ b74, e72 = .returned (.bool b74) ∧
 Kept L71 w70 w73 ∧
 R (.returned (.bool (b74 && decide ((IntKind.wrap .i64 ((IntKind.wrap .i64 a_4) + ((a_29l : Nat) : Int))) ≤ 400)))) w73
 else
 if (b == 98) = true then
 ∀ w69, Hid [] w w69 →
 R (.returned (.bool (decide (a_7 ≥ 1)))) w69
 else
 if (b == 120) = true then
 ∀ w68, Hid [] w w68 →
 R (.returned (.bool (decide (a_8 ≥ 1)))) w68
 else
 if (b == 109) = true then
 ∀ w60 L61, Hid [] w w60 →
 NewL w.heap.size [] w w60 L61 →
 CallX Tryz.prog 127 #[(.agg #[.int .u8 0, .int .u32 1, .slice a_28 a_28l a_28c])] w60 fun e62 w63 =>
 ∃ b64, e62 = .returned (.bool b64) ∧
 Kept L61 w60 w63 ∧
 if (b64 == true) = true then
 CallX Tryz.prog 128 #[.slice a_30 a_30l a_30c, .int .u8 a_22] w63 fun e65 w66 =>
 ∃ b67, e65 = .returned (.bool b67) ∧
 Kept L61 w63 w66 ∧
 R (.returned (.bool (true && b67))) w66
 else
 R (.returned (.bool false)) w63
 else
 if (b == 115) = true then
 ∀ w55 L56, Hid [] w w55 →
 NewL w.heap.size [] w w55 L56 →
 CallX Tryz.prog 129 #[(.agg #[.int .u8 a_25, .int .u16 a_26])] w55 fun e57 w58 =>
 ∃ b59, e57 = .returned (.bool b59) ∧
 Kept L56 w55 w58 ∧
 R (.returned (.bool b59)) w58
 else
 ∀ w54, Hid [] w w54 →
 R (.returned (.bool true)) w54
 else
 if (b == 103) = true then
 ∀ w53, Hid [] w w53 →
 R (.returned (.bool (decide (a_1 < 4)))) w53
 else
 if (b == 105) = true then
 ∀ w48 L49, Hid [] w w48 →
 NewL w.heap.size [] w w48 L49 →
 CallX Tryz.prog 124 #[(IdW a_9 a_10 a_11 a_12 a_13 a_14 a_15 a_16 a_17 a_18)] w48 fun e50 w51 =>
 ∃ b52, e50 = .returned (.bool b52) ∧
 Kept L49 w48 w51 ∧
 R (.returned (.bool b52)) w51
 else
 if (b == 102) = true then
 ∀ w47, Hid [] w w47 →
 R (.returned (.bool (decide (a_6 < a_11)))) w47
 else
 if (b == 112) = true then
 ∃ x35, (FactsW x35 w []) ∧
 ∀ w36 L37, Hid [] w w36 →
 NewL w.heap.size [] w w36 L37 →
 CallX Tryz.prog 125 #[.slice a_19 a_19l a_19c] w36 fun e38 w39 =>
 ∃ b40, e38 = .returned (.bool b40) ∧
 Kept L37 w36 w39 ∧
 FactsW x35 w39 L37 ∧
 ∃ x41, (FactsW x41 w39 L37) ∧
 (∀ x42, (x42 ∈ x35) →
 x42 ∈ x41) ∧
 if (b40 == true) = true then
 ((0 : Int) ≤ 0) ∧
 ((0 : Int) < ((a_19l : Nat) : Int)) ∧
 onSome a_19 fun p45 =>
 ∃ n46, ((((p45.add 0).add 0), [.int .u8 n46]) ∈ x41) ∧
 R (.returned (.bool ((true && (n46 == a_1)) && decide ((IntKind.wrap .i64 (((a_19l : Nat) : Int) + (IntKind.wrap .i64 a_12))) ≤ 4)))) w39
 else
 ∃ x43, (FactsW x43 w39 L37) ∧
 (∀ x44, (x44 ∈ x41) →
 x44 ∈ x43) ∧
 R (.returned (.bool (false && decide ((IntKind.wrap .i64 (((a_19l : Nat) : Int) + (IntKind.wrap .i64 a_12))) ≤ 4)))) w39
 else
 if (b == 114) = true then
 ∀ w30 L31, Hid [] w w30 →
 NewL w.heap.size [] w w30 L31 →
 CallX Tryz.prog 126 #[(.agg #[.int .u8 a_20, .string a_21])] w30 fun e32 w33 =>
 ∃ b34, e32 = .returned (.bool b34) ∧
 Kept L31 w30 w33 ∧
 R (.returned (.bool b34)) w33
 else
 if (b == 118) = true then
 ∀ w25 L26, Hid [] w w25 →
 NewL w.heap.size [] w w25 L26 →
 CallX Tryz.prog 127 #[(.agg #[.int .u8 a_22, .int .u32 a_23, .slice a_24 a_24l a_24c])] w25 fun e27 w28 =>
 ∃ b29, e27 = .returned (.bool b29) ∧
 Kept L26 w25 w28 ∧
 R (.returned (.bool b29)) w28
 else
 if (b == 110) = true then
 ∀ w24, Hid [] w w24 →
 R (.returned (.bool (decide (a_3 ≥ 1)))) w24
 else
 if (b == 97) = true then
 ∀ w23, Hid [] w w23 →
 R (.returned (.bool (decide (a_4 ≤ 400)))) w23
 else
 if (b == 107) = true then
 ∀ w22, Hid [] w w22 →
 R (.returned (.bool (decide (a_5 ≤ 400)))) w22
 else
 if (b == 101) = true then
 ∀ w17 L18, Hid [] w w17 →
 NewL w.heap.size [] w w17 L18 →
 CallX Tryz.prog 128 #[.slice a_29 a_29l a_29c, .int .u8 a_1] w17 fun e19 w20 =>
 ∃ b21, e19 = .returned (.bool b21) ∧
 Kept L18 w17 w20 ∧
 R (.returned (.bool (b21 && decide ((IntKind.wrap .i64 ((IntKind.wrap .i64 a_4) + ((a_29l : Nat) : Int))) ≤ 400)))) w20
 else
 if (b == 98) = true then
 ∀ w16, Hid [] w w16 →
 R (.returned (.bool (decide (a_7 ≥ 1)))) w16
 else
 if (b == 120) = true then
 ∀ w15, Hid [] w w15 →
 R (.returned (.bool (decide (a_8 ≥ 1)))) w15
 else
 if (b == 109) = true then
 ∀ w7 L8, Hid [] w w7 →
 NewL w.heap.size [] w w7 L8 →
 CallX Tryz.prog 127 #[(.agg #[.int .u8 0, .int .u32 1, .slice a_28 a_28l a_28c])] w7 fun e9 w10 =>
 ∃ b11, e9 = .returned (.bool b11) ∧
 Kept L8 w7 w10 ∧
 if (b11 == true) = true then
 CallX Tryz.prog 128 #[.slice a_30 a_30l a_30c, .int .u8 a_1] w10 fun e12 w13 =>
 ∃ b14, e12 = .returned (.bool b14) ∧
 Kept L8 w10 w13 ∧
 R (.returned (.bool (true && b14))) w13
 else
 R (.returned (.bool false)) w10
 else
 if (b == 115) = true then
 ∀ w2 L3, Hid [] w w2 →
 NewL w.heap.size [] w w2 L3 →
 CallX Tryz.prog 129 #[(.agg #[.int .u8 a_25, .int .u16 a_26])] w2 fun e4 w5 =>
 ∃ b6, e4 = .returned (.bool b6) ∧
 Kept L3 w2 w5 ∧
 R (.returned (.bool b6)) w5
 else
 ∀ w1, Hid [] w w1 →
 R (.returned (.bool true)) w1) :
 Calls Tryz.prog 71 #[.agg #[.int .u8 a_0, .int .u8 a_1, .int .u8 a_2, .int .u32 a_3, .int .u32 a_4, .int .u32 a_5, .int .u32 a_6, .int .u64 a_7, .int .u64 a_8, .int .u8 a_9, .int .u16 a_10, .int .u32 a_11, .int .u8 a_12, .int .u8 a_13, .int .u8 a_14, .int .u8 a_15, .int .u8 a_16, .int .u8 a_17, .int .u8 a_18, .slice a_19 a_19l a_19c, .int .u8 a_20, .string a_21, .int .u8 a_22, .int .u32 a_23, .slice a_24 a_24l a_24c, .int .u8 a_25, .int .u16 a_26, .bool a_27, .slice a_28 a_28l a_28c, .slice a_29 a_29l a_29c, .slice a_30 a_30l a_30c], .int .u8 b] w R :=
 calls_of { isLoc := [2], sym := [], loops := [], joins := [] } Tryz.func71 (by kernel_rfl) h
theorem x_r7Same (a_0 a_1 a_2 a_3 a_4 a_5 a_6 a_7 a_8 a_9 a_10 a_11 a_12 a_13 a_14 a_15 a_16 a_17 a_18 : Int) (a_19 : Option Addr) (a_19l a_19c : Nat) (a_20 : Int) (a_21 : ByteArray) (a_22 a_23 : Int) (a_24 : Option Addr) (a_24l a_24c : Nat) (a_25 a_26 : Int) (a_27 : Bool) (a_28 : Option Addr) (a_28l a_28c : Nat) (a_29 : Option Addr) (a_29l a_29c : Nat) (a_30 : Option Addr) (a_30l a_30c : Nat) (b_0 b_1 b_2 b_3 b_4 b_5 b_6 b_7 b_8 b_9 b_10 b_11 b_12 b_13 b_14 b_15 b_16 b_17 b_18 : Int) (b_19 : Option Addr) (b_19l b_19c : Nat) (b_20 : Int) (b_21 : ByteArray) (b_22 b_23 : Int) (b_24 : Option Addr) (b_24l b_24c : Nat) (b_25 b_26 : Int) (b_27 : Bool) (b_28 : Option Addr) (b_28l b_28c : Nat) (b_29 : Option Addr) (b_29l b_29c : Nat) (b_30 : Option Addr) (b_30l b_30c : Nat) (w : World) (R : Ending → World → Prop) (h :
 ∀ w1 L2, Hid [] w w1 →
 NewL w.heap.size [] w w1 L2 →
 ∃ n3, (World.cell? (w1.alloc (.cells #[.int .u8 b_0, .int .u8 b_1, .int .u8 b_2, .int .u32 b_3, .int .u32 b_4, .int .u32 b_5, .int .u32 b_6, .int .u64 b_7, .int .u64 b_8, .int .u8 b_9, .int .u16 b_10, .int .u32 b_11, .int .u8 b_12, .int .u8 b_13, .int .u8 b_14, .int .u8 b_15, .int .u8 b_16, .int .u8 b_17, .int .u8 b_18, .slice b_19 b_19l b_19c, .int .u8 b_20, .string b_21, .int .u8 b_22, .int .u32 b_23, .slice b_24 b_24l b_24c, .int .u8 b_25, .int .u16 b_26, .bool b_27, .slice b_28 b_28l b_28c, .slice b_29 b_29l b_29c, .slice b_30 b_30l b_30c] 40)) ⟨w1.heap.size, 0, none⟩ = some (.int .u8 n3)) ∧
 ¬ w1.heap.size ∈ L2 ∧
 if ((a_0 == n3) == true) = true then
 ∃ n4, (World.cell? (w1.alloc (.cells #[.int .u8 b_0, .int .u8 b_1, .int .u8 b_2, .int .u32 b_3, .int .u32 b_4, .int .u32 b_5, .int .u32 b_6, .int .u64 b_7, .int .u64 b_8, .int .u8 b_9, .int .u16 b_10, .int .u32 b_11, .int .u8 b_12, .int .u8 b_13, .int .u8 b_14, .int .u8 b_15, .int .u8 b_16, .int .u8 b_17, .int .u8 b_18, .slice b_19 b_19l b_19c, .int .u8 b_20, .string b_21, .int .u8 b_22, .int .u32 b_23, .slice b_24 b_24l b_24c, .int .u8 b_25, .int .u16 b_26, .bool b_27, .slice b_28 b_28l b_28c, .slice b_29 b_29l b_29c, .slice b_30 b_30l b_30c] 40)) ⟨w1.heap.size, (0 + 1), none⟩ = some (.int .u8 n4)) ∧
 ¬ w1.heap.size ∈ L2 ∧
 if ((true && (a_1 == n4)) == true) = true then
 ∃ n5, (World.cell? (w1.alloc (.cells #[.int .u8 b_0, .int .u8 b_1, .int .u8 b_2, .int .u32 b_3, .int .u32 b_4, .int .u32 b_5, .int .u32 b_6, .int .u64 b_7, .int .u64 b_8, .int .u8 b_9, .int .u16 b_10, .int .u32 b_11, .int .u8 b_12, .int .u8 b_13, .int .u8 b_14, .int .u8 b_15, .int .u8 b_16, .int .u8 b_17, .int .u8 b_18, .slice b_19 b_19l b_19c, .int .u8 b_20, .string b_21, .int .u8 b_22, .int .u32 b_23, .slice b_24 b_24l b_24c, .int .u8 b_25, .int .u16 b_26, .bool b_27, .slice b_28 b_28l b_28c, .slice b_29 b_29l b_29c, .slice b_30 b_30l b_30c] 40)) ⟨w1.heap.size, (0 + 2), none⟩ = some (.int .u8 n5)) ∧
 ¬ w1.heap.size ∈ L2 ∧
 if ((true && (a_2 == n5)) == true) = true then
 ∃ n6, (World.cell? (w1.alloc (.cells #[.int .u8 b_0, .int .u8 b_1, .int .u8 b_2, .int .u32 b_3, .int .u32 b_4, .int .u32 b_5, .int .u32 b_6, .int .u64 b_7, .int .u64 b_8, .int .u8 b_9, .int .u16 b_10, .int .u32 b_11, .int .u8 b_12, .int .u8 b_13, .int .u8 b_14, .int .u8 b_15, .int .u8 b_16, .int .u8 b_17, .int .u8 b_18, .slice b_19 b_19l b_19c, .int .u8 b_20, .string b_21, .int .u8 b_22, .int .u32 b_23, .slice b_24 b_24l b_24c, .int .u8 b_25, .int .u16 b_26, .bool b_27, .slice b_28 b_28l b_28c, .slice b_29 b_29l b_29c, .slice b_30 b_30l b_30c] 40)) ⟨w1.heap.size, (0 + 3), none⟩ = some (.int .u32 n6)) ∧
 ¬ w1.heap.size ∈ L2 ∧
 if ((true && (a_3 == n6)) == true) = true then
 ∃ n7, (World.cell? (w1.alloc (.cells #[.int .u8 b_0, .int .u8 b_1, .int .u8 b_2, .int .u32 b_3, .int .u32 b_4, .int .u32 b_5, .int .u32 b_6, .int .u64 b_7, .int .u64 b_8, .int .u8 b_9, .int .u16 b_10, .int .u32 b_11, .int .u8 b_12, .int .u8 b_13, .int .u8 b_14, .int .u8 b_15, .int .u8 b_16, .int .u8 b_17, .int .u8 b_18, .slice b_19 b_19l b_19c, .int .u8 b_20, .string b_21, .int .u8 b_22, .int .u32 b_23, .slice b_24 b_24l b_24c, .int .u8 b_25, .int .u16 b_26, .bool b_27, .slice b_28 b_28l b_28c, .slice b_29 b_29l b_29c, .slice b_30 b_30l b_30c] 40)) ⟨w1.heap.size, (0 + 4), none⟩ = some (.int .u32 n7)) ∧
 ¬ w1.heap.size ∈ L2 ∧
 if ((true && (a_4 == n7)) == true) = true then
 ∃ n8, (World.cell? (w1.alloc (.cells #[.int .u8 b_0, .int .u8 b_1, .int .u8 b_2, .int .u32 b_3, .int .u32 b_4, .int .u32 b_5, .int .u32 b_6, .int .u64 b_7, .int .u64 b_8, .int .u8 b_9, .int .u16 b_10, .int .u32 b_11, .int .u8 b_12, .int .u8 b_13, .int .u8 b_14, .int .u8 b_15, .int .u8 b_16, .int .u8 b_17, .int .u8 b_18, .slice b_19 b_19l b_19c, .int .u8 b_20, .string b_21, .int .u8 b_22, .int .u32 b_23, .slice b_24 b_24l b_24c, .int .u8 b_25, .int .u16 b_26, .bool b_27, .slice b_28 b_28l b_28c, .slice b_29 b_29l b_29c, .slice b_30 b_30l b_30c] 40)) ⟨w1.heap.size, (0 + 5), none⟩ = some (.int .u32 n8)) ∧
 ¬ w1.heap.size ∈ L2 ∧
 if ((true && (a_5 == n8)) == true) = true then
 ∃ n9, (World.cell? (w1.alloc (.cells #[.int .u8 b_0, .int .u8 b_1, .int .u8 b_2, .int .u32 b_3, .int .u32 b_4, .int .u32 b_5, .int .u32 b_6, .int .u64 b_7, .int .u64 b_8, .int .u8 b_9, .int .u16 b_10, .int .u32 b_11, .int .u8 b_12, .int .u8 b_13, .int .u8 b_14, .int .u8 b_15, .int .u8 b_16, .int .u8 b_17, .int .u8 b_18, .slice b_19 b_19l b_19c, .int .u8 b_20, .string b_21, .int .u8 b_22, .int .u32 b_23, .slice b_24 b_24l b_24c, .int .u8 b_25, .int .u16 b_26, .bool b_27, .slice b_28 b_28l b_28c, .slice b_29 b_29l b_29c, .slice b_30 b_30l b_30c] 40)) ⟨w1.heap.size, (0 + 6), none⟩ = some (.int .u32 n9)) ∧
 ¬ w1.heap.size ∈ L2 ∧
 if ((true && (a_6 == n9)) == true) = true then
 ∃ n10, (World.cell? (w1.alloc (.cells #[.int .u8 b_0, .int .u8 b_1, .int .u8 b_2, .int .u32 b_3, .int .u32 b_4, .int .u32 b_5, .int .u32 b_6, .int .u64 b_7, .int .u64 b_8, .int .u8 b_9, .int .u16 b_10, .int .u32 b_11, .int .u8 b_12, .int .u8 b_13, .int .u8 b_14, .int .u8 b_15, .int .u8 b_16, .int .u8 b_17, .int .u8 b_18, .slice b_19 b_19l b_19c, .int .u8 b_20, .string b_21, .int .u8 b_22, .int .u32 b_23, .slice b_24 b_24l b_24c, .int .u8 b_25, .int .u16 b_26, .bool b_27, .slice b_28 b_28l b_28c, .slice b_29 b_29l b_29c, .slice b_30 b_30l b_30c] 40)) ⟨w1.heap.size, (0 + 7), none⟩ = some (.int .u64 n10)) ∧
 ¬ w1.heap.size ∈ L2 ∧
 if ((true && (a_7 == n10)) == true) = true then
 ∃ n11, (World.cell? (w1.alloc (.cells #[.int .u8 b_0, .int .u8 b_1, .int .u8 b_2, .int .u32 b_3, .int .u32 b_4, .int .u32 b_5, .int .u32 b_6, .int .u64 b_7, .int .u64 b_8, .int .u8 b_9, .int .u16 b_10, .int .u32 b_11, .int .u8 b_12, .int .u8 b_13, .int .u8 b_14, .int .u8 b_15, .int .u8 b_16, .int .u8 b_17, .int .u8 b_18, .slice b_19 b_19l b_19c, .int .u8 b_20, .string b_21, .int .u8 b_22, .int .u32 b_23, .slice b_24 b_24l b_24c, .int .u8 b_25, .int .u16 b_26, .bool b_27, .slice b_28 b_28l b_28c, .slice b_29 b_29l b_29c, .slice b_30 b_30l b_30c] 40)) ⟨w1.heap.size, (0 + 8), none⟩ = some (.int .u64 n11)) ∧
 ¬ w1.heap.size ∈ L2 ∧
 if ((true && (a_8 == n11)) == true) = true then
 ∃ n12 n13 n14 n15 n16 n17 n18 n19 n20 n21, (Cells (w1.alloc (.cells #[.int .u8 b_0, .int .u8 b_1, .int .u8 b_2, .int .u32 b_3, .int .u32 b_4, .int .u32 b_5, .int .u32 b_6, .int .u64 b_7, .int .u64 b_8, .int .u8 b_9, .int .u16 b_10, .int .u32 b_11, .int .u8 b_12, .int .u8 b_13, .int .u8 b_14, .int .u8 b_15, .int .u8 b_16, .int .u8 b_17, .int .u8 b_18, .slice b_19 b_19l b_19c, .int .u8 b_20, .string b_21, .int .u8 b_22, .int .u32 b_23, .slice b_24 b_24l b_24c, .int .u8 b_25, .int .u16 b_26, .bool b_27, .slice b_28 b_28l b_28c, .slice b_29 b_29l b_29c, .slice b_30 b_30l b_30c] 40)) ⟨w1.heap.size, (0 + 9), none⟩ [.int .u8 n12, .int .u16 n13, .int .u32 n14, .int .u8 n15, .int .u8 n16, .int .u8 n17, .int .u8 n18, .int .u8 n19, .int .u8 n20, .int .u8 n21]) ∧
 ¬ w1.heap.size ∈ L2 ∧
 if ((true && (((a_9 == n12) && (a_10 == n13)) && ((a_11 == n14) && ((a_12 == n15) && (((a_13 == n16) && (a_14 == n17)) && (((a_15 == n18) && (a_16 == n19)) && ((a_17 == n20) && (a_18 == n21)))))))) == true) = true then
 ∃ q22 k23 k24, (World.cell? (w1.alloc (.cells #[.int .u8 b_0, .int .u8 b_1, .int .u8 b_2, .int .u32 b_3, .int .u32 b_4, .int .u32 b_5, .int .u32 b_6, .int .u64 b_7, .int .u64 b_8, .int .u8 b_9, .int .u16 b_10, .int .u32 b_11, .int .u8 b_12, .int .u8 b_13, .int .u8 b_14, .int .u8 b_15, .int .u8 b_16, .int .u8 b_17, .int .u8 b_18, .slice b_19 b_19l b_19c, .int .u8 b_20, .string b_21, .int .u8 b_22, .int .u32 b_23, .slice b_24 b_24l b_24c, .int .u8 b_25, .int .u16 b_26, .bool b_27, .slice b_28 b_28l b_28c, .slice b_29 b_29l b_29c, .slice b_30 b_30l b_30c] 40)) ⟨w1.heap.size, (0 + 19), none⟩ = some (.slice q22 k23 k24)) ∧
 ¬ w1.heap.size ∈ L2 ∧
 CallX Tryz.prog 42 #[.slice a_19 a_19l a_19c, .slice q22 k23 k24] (w1.alloc (.cells #[.int .u8 b_0, .int .u8 b_1, .int .u8 b_2, .int .u32 b_3, .int .u32 b_4, .int .u32 b_5, .int .u32 b_6, .int .u64 b_7, .int .u64 b_8, .int .u8 b_9, .int .u16 b_10, .int .u32 b_11, .int .u8 b_12, .int .u8 b_13, .int .u8 b_14, .int .u8 b_15, .int .u8 b_16, .int .u8 b_17, .int .u8 b_18, .slice b_19 b_19l b_19c, .int .u8 b_20, .string b_21, .int .u8 b_22, .int .u32 b_23, .slice b_24 b_24l b_24c, .int .u8 b_25, .int .u16 b_26, .bool b_27, .slice b_28 b_28l b_28c, .slice b_29 b_29l b_29c, .slice b_30 b_30l b_30c] 40)) fun e25 w26 =>
 ∃ b27, e25 = .returned (.bool b27) ∧
 (Kept L2 (w1.alloc (.cells #[.int .u8 b_0, .int .u8 b_1, .int .u8 b_2, .int .u32 b_3, .int .u32 b_4, .int .u32 b_5, .int .u32 b_6, .int .u64 b_7, .int .u64 b_8, .int .u8 b_9, .int .u16 b_10, .int .u32 b_11, .int .u8 b_12, .int .u8 b_13, .int .u8 b_14, .int .u8 b_15, .int .u8 b_16, .int .u8 b_17, .int .u8 b_18, .slice b_19 b_19l b_19c, .int .u8 b_20, .string b_21, .int .u8 b_22, .int .u32 b_23, .slice b_24 b_24l b_24c, .int .u8 b_25, .int .u16 b_26, .bool b_27, .slice b_28 b_28l b_28c, .slice b_29 b_29l b_29c, .slice b_30 b_30l b_30c] 40)) w26) ∧
 if ((true && b27) == true) = true then
 ∃ n28 s29, (Cells w26 ⟨w1.heap.size, (0 + 20), none⟩ [.int .u8 n28, .string s29]) ∧
 ¬ w1.heap.size ∈ L2 ∧
 if ((true && ((a_20 == n28) && (a_21 == s29))) == true) = true then
 ∃ n30 n31 q32 k33 k34, (Cells w26 ⟨w1.heap.size, (0 + 22), none⟩ [.int .u8 n30, .int .u32 n31, .slice q32 k33 k34]) ∧
 ¬ w1.heap.size ∈ L2 ∧
 CallX Tryz.prog 43 #[(.agg #[.int .u8 a_22, .int .u32 a_23, .slice a_24 a_24l a_24c]), (.agg #[.int .u8 n30, .int .u32 n31, .slice q32 k33 k34])] w26 fun e35 w36 =>
 ∃ b37, e35 = .returned (.bool b37) ∧
 Kept L2 w26 w36 ∧
 if ((true && b37) == true) = true then
 ∃ n38 n39, (Cells w36 ⟨w1.heap.size, (0 + 25), none⟩ [.int .u8 n38, .int .u16 n39]) ∧
 ¬ w1.heap.size ∈ L2 ∧
 if ((true && ((a_25 == n38) && (a_26 == n39))) == true) = true then
 ∃ b40, (w36.cell? ⟨w1.heap.size, (0 + 27), none⟩ = some (.bool b40)) ∧
 ¬ w1.heap.size ∈ L2 ∧
 if ((true && (a_27 == b40)) == true) = true then
 ∃ q41 k42 k43, (w36.cell? ⟨w1.heap.size, (0 + 28), none⟩ = some (.slice q41 k42 k43)) ∧
 ¬ w1.heap.size ∈ L2 ∧
 CallX Tryz.prog 44 #[.slice a_28 a_28l a_28c, .slice q41 k42 k43] w36 fun e44 w45 =>
 ∃ b46, e44 = .returned (.bool b46) ∧
 Kept L2 w36 w45 ∧
 if ((true && b46) == true) = true then
 ∃ q47 k48 k49, (w45.cell? ⟨w1.heap.size, (0 + 29), none⟩ = some (.slice q47 k48 k49)) ∧
 ¬ w1.heap.size ∈ L2 ∧
 CallX Tryz.prog 45 #[.slice a_29 a_29l a_29c, .slice q47 k48 k49] w45 fun e50 w51 =>
 ∃ b52, e50 = .returned (.bool b52) ∧
 Kept L2 w45 w51 ∧
 if ((true && b52) == true) = true then
 ∃ q53 k54 k55, (w51.cell? ⟨w1.heap.size, (0 + 30), none⟩ = some (.slice q53 k54 k55)) ∧
 ¬ w1.heap.size ∈ L2 ∧
 CallX Tryz.prog 45 #[.slice a_30 a_30l a_30c, .slice q53 k54 k55] w51 fun e56 w57 =>
 ∃ b58, e56 = .returned (.bool b58) ∧
 Kept L2 w51 w57 ∧
 R (.returned (.bool (true && b58))) w57
 else
 R (.returned (.bool false)) w51
 else
 R (.returned (.bool false)) w45
 else
 R (.returned (.bool false)) w36
 else
 R (.returned (.bool false)) w36
 else
 R (.returned (.bool false)) w36
 else
 R (.returned (.bool false)) w26
 else
 R (.returned (.bool false)) w26
 else
 R (.returned (.bool false)) (w1.alloc (.cells #[.int .u8 b_0, .int .u8 b_1, .int .u8 b_2, .int .u32 b_3, .int .u32 b_4, .int .u32 b_5, .int .u32 b_6, .int .u64 b_7, .int .u64 b_8, .int .u8 b_9, .int .u16 b_10, .int .u32 b_11, .int .u8 b_12, .int .u8 b_13, .int .u8 b_14, .int .u8 b_15, .int .u8 b_16, .int .u8 b_17, .int .u8 b_18, .slice b_19 b_19l b_19c, .int .u8 b_20, .string b_21, .int .u8 b_22, .int .u32 b_23, .slice b_24 b_24l b_24c, .int .u8 b_25, .int .u16 b_26, .bool b_27, .slice b_28 b_28l b_28c, .slice b_29 b_29l b_29c, .slice b_30 b_30l b_30c] 40))
 else
 R (.returned (.bool false)) (w1.alloc (.cells #[.int .u8 b_0, .int .u8 b_1, .int .u8 b_2, .int .u32 b_3, .int .u32 b_4, .int .u32 b_5, .int .u32 b_6, .int .u64 b_7, .int .u64 b_8, .int .u8 b_9, .int .u16 b_10, .int .u32 b_11, .int .u8 b_12, .int .u8 b_13, .int .u8 b_14, .int .u8 b_15, .int .u8 b_16, .int .u8 b_17, .int .u8 b_18, .slice b_19 b_19l b_19c, .int .u8 b_20, .string b_21, .int .u8 b_22, .int .u32 b_23, .slice b_24 b_24l b_24c, .int .u8 b_25, .int .u16 b_26, .bool b_27, .slice b_28 b_28l b_28c, .slice b_29 b_29l b_29c, .slice b_30 b_30l b_30c] 40))
 else
 R (.returned (.bool false)) (w1.alloc (.cells #[.int .u8 b_0, .int .u8 b_1, .int .u8 b_2, .int .u32 b_3, .int .u32 b_4, .int .u32 b_5, .int .u32 b_6, .int .u64 b_7, .int .u64 b_8, .int .u8 b_9, .int .u16 b_10, .int .u32 b_11, .int .u8 b_12, .int .u8 b_13, .int .u8 b_14, .int .u8 b_15, .int .u8 b_16, .int .u8 b_17, .int .u8 b_18, .slice b_19 b_19l b_19c, .int .u8 b_20, .string b_21, .int .u8 b_22, .int .u32 b_23, .slice b_24 b_24l b_24c, .int .u8 b_25, .int .u16 b_26, .bool b_27, .slice b_28 b_28l b_28c, .slice b_29 b_29l b_29c, .slice b_30 b_30l b_30c] 40))
 else
 R (.returned (.bool false)) (w1.alloc (.cells #[.int .u8 b_0, .int .u8 b_1, .int .u8 b_2, .int .u32 b_3, .int .u32 b_4, .int .u32 b_5, .int .u32 b_6, .int .u64 b_7, .int .u64 b_8, .int .u8 b_9, .int .u16 b_10, .int .u32 b_11, .int .u8 b_12, .int .u8 b_13, .int .u8 b_14, .int .u8 b_15, .int .u8 b_16, .int .u8 b_17, .int .u8 b_18, .slice b_19 b_19l b_19c, .int .u8 b_20, .string b_21, .int .u8 b_22, .int .u32 b_23, .slice b_24 b_24l b_24c, .int .u8 b_25, .int .u16 b_26, .bool b_27, .slice b_28 b_28l b_28c, .slice b_29 b_29l b_29c, .slice b_30 b_30l b_30c] 40))
 else
 R (.returned (.bool false)) (w1.alloc (.cells #[.int .u8 b_0, .int .u8 b_1, .int .u8 b_2, .int .u32 b_3, .int .u32 b_4, .int .u32 b_5, .int .u32 b_6, .int .u64 b_7, .int .u64 b_8, .int .u8 b_9, .int .u16 b_10, .int .u32 b_11, .int .u8 b_12, .int .u8 b_13, .int .u8 b_14, .int .u8 b_15, .int .u8 b_16, .int .u8 b_17, .int .u8 b_18, .slice b_19 b_19l b_19c, .int .u8 b_20, .string b_21, .int .u8 b_22, .int .u32 b_23, .slice b_24 b_24l b_24c, .int .u8 b_25, .int .u16 b_26, .bool b_27, .slice b_28 b_28l b_28c, .slice b_29 b_29l b_29c, .slice b_30 b_30l b_30c] 40))
 else
 R (.returned (.bool false)) (w1.alloc (.cells #[.int .u8 b_0, .int .u8 b_1, .int .u8 b_2, .int .u32 b_3, .int .u32 b_4, .int .u32 b_5, .int .u32 b_6, .int .u64 b_7, .int .u64 b_8, .int .u8 b_9, .int .u16 b_10, .int .u32 b_11, .int .u8 b_12, .int .u8 b_13, .int .u8 b_14, .int .u8 b_15, .int .u8 b_16, .int .u8 b_17, .int .u8 b_18, .slice b_19 b_19l b_19c, .int .u8 b_20, .string b_21, .int .u8 b_22, .int .u32 b_23, .slice b_24 b_24l b_24c, .int .u8 b_25, .int .u16 b_26, .bool b_27, .slice b_28 b_28l b_28c, .slice b_29 b_29l b_29c, .slice b_30 b_30l b_30c] 40))
 else
 R (.returned (.bool false)) (w1.alloc (.cells #[.int .u8 b_0, .int .u8 b_1, .int .u8 b_2, .int .u32 b_3, .int .u32 b_4, .int .u32 b_5, .int .u32 b_6, .int .u64 b_7, .int .u64 b_8, .int .u8 b_9, .int .u16 b_10, .int .u32 b_11, .int .u8 b_12, .int .u8 b_13, .int .u8 b_14, .int .u8 b_15, .int .u8 b_16, .int .u8 b_17, .int .u8 b_18, .slice b_19 b_19l b_19c, .int .u8 b_20, .string b_21, .int .u8 b_22, .int .u32 b_23, .slice b_24 b_24l b_24c, .int .u8 b_25, .int .u16 b_26, .bool b_27, .slice b_28 b_28l b_28c, .slice b_29 b_29l b_29c, .slice b_30 b_30l b_30c] 40))
 else
 R (.returned (.bool false)) (w1.alloc (.cells #[.int .u8 b_0, .int .u8 b_1, .int .u8 b_2, .int .u32 b_3, .int .u32 b_4, .int .u32 b_5, .int .u32 b_6, .int .u64 b_7, .int .u64 b_8, .int .u8 b_9, .int .u16 b_10, .int .u32 b_11, .int .u8 b_12, .int .u8 b_13, .int .u8 b_14, .int .u8 b_15, .int .u8 b_16, .int .u8 b_17, .int .u8 b_18, .slice b_19 b_19l b_19c, .int .u8 b_20, .string b_21, .int .u8 b_22, .int .u32 b_23, .slice b_24 b_24l b_24c, .int .u8 b_25, .int .u16 b_26, .bool b_27, .slice b_28 b_28l b_28c, .slice b_29 b_29l b_29c, .slice b_30 b_30l b_30c] 40))
 else
 R (.returned (.bool false)) (w1.alloc (.cells #[.int .u8 b_0, .int .u8 b_1, .int .u8 b_2, .int .u32 b_3, .int .u32 b_4, .int .u32 b_5, .int .u32 b_6, .int .u64 b_7, .int .u64 b_8, .int .u8 b_9, .int .u16 b_10, .int .u32 b_11, .int .u8 b_12, .int .u8 b_13, .int .u8 b_14, .int .u8 b_15, .int .u8 b_16, .int .u8 b_17, .int .u8 b_18, .slice b_19 b_19l b_19c, .int .u8 b_20, .string b_21, .int .u8 b_22, .int .u32 b_23, .slice b_24 b_24l b_24c, .int .u8 b_25, .int .u16 b_26, .bool b_27, .slice b_28 b_28l b_28c, .slice b_29 b_29l b_29c, .slice b_30 b_30l b_30c] 40))
 else
 R (.returned (.bool false)) (w1.alloc (.cells #[.int .u8 b_0, .int .u8 b_1, .int .u8 b_2, .int .u32 b_3, .int .u32 b_4, .int .u32 b_5, .int .u32 b_6, .int .u64 b_7, .int .u64 b_8, .int .u8 b_9, .int .u16 b_10, .int .u32 b_11, .int .u8 b_12, .int .u8 b_13, .int .u8 b_14, .int .u8 b_15, .int .u8 b_16, .int .u8 b_17, .int .u8 b_18, .slice b_19 b_19l b_19c, .int .u8 b_20, .string b_21, .int .u8 b_22, .int .u32 b_23, .slice b_24 b_24l b_24c, .int .u8 b_25, .int .u16 b_26, .bool b_27, .slice b_28 b_28l b_28c, .slice b_29 b_29l b_29c, .slice b_30 b_30l b_30c] 40))) :
 Calls Tryz.prog 13 #[.agg #[.int .u8 a_0, .int .u8 a_1, .int .u8 a_2, .int .u32 a_3, .int .u32 a_4, .int .u32 a_5, .int .u32 a_6, .int .u64 a_7, .int .u64 a_8, .int .u8 a_9, .int .u16 a_10, .int .u32 a_11, .int .u8 a_12, .int .u8 a_13, .int .u8 a_14, .int .u8 a_15, .int .u8 a_16, .int .u8 a_17, .int .u8 a_18, .slice a_19 a_19l a_19c, .int .u8 a_20, .string a_21, .int .u8 a_22, .int .u32 a_23, .slice a_24 a_24l a_24c, .int .u8 a_25, .int .u16 a_26, .bool a_27, .slice a_28 a_28l a_28c, .slice a_29 a_29l a_29c, .slice a_30 a_30l a_30c], .agg #[.int .u8 b_0, .int .u8 b_1, .int .u8 b_2, .int .u32 b_3, .int .u32 b_4, .int .u32 b_5, .int .u32 b_6, .int .u64 b_7, .int .u64 b_8, .int .u8 b_9, .int .u16 b_10, .int .u32 b_11, .int .u8 b_12, .int .u8 b_13, .int .u8 b_14, .int .u8 b_15, .int .u8 b_16, .int .u8 b_17, .int .u8 b_18, .slice b_19 b_19l b_19c, .int .u8 b_20, .string b_21, .int .u8 b_22, .int .u32 b_23, .slice b_24 b_24l b_24c, .int .u8 b_25, .int .u16 b_26, .bool b_27, .slice b_28 b_28l b_28c, .slice b_29 b_29l b_29c, .slice b_30 b_30l b_30c]] w R :=
 calls_of { isLoc := [2], sym := [], loops := [], joins := [] } Tryz.func13 (by kernel_rfl) h
theorem x_r7Right (a_0 a_1 a_2 a_3 a_4 a_5 a_6 a_7 a_8 a_9 a_10 a_11 a_12 a_13 a_14 a_15 a_16 a_17 a_18 : Int) (a_19 : Option Addr) (a_19l a_19c : Nat) (a_20 : Int) (a_21 : ByteArray) (a_22 a_23 : Int) (a_24 : Option Addr) (a_24l a_24c : Nat) (a_25 a_26 : Int) (a_27 : Bool) (a_28 : Option Addr) (a_28l a_28c : Nat) (a_29 : Option Addr) (a_29l a_29c : Nat) (a_30 : Option Addr) (a_30l a_30c : Nat) (w : World) (R : Ending → World → Prop) (h :
 if (decide (a_0 > 13)) = true then
 ∀ w67, Hid [] w w67 →
 R (.returned (.bool false)) w67
 else
 ∀ w1 L2, Hid [] w w1 →
 NewL w.heap.size [] w w1 L2 →
 CallX Tryz.prog 31 #[(MgW a_0 a_1 a_2 a_3 a_4 a_5 a_6 a_7 a_8 a_9 a_10 a_11 a_12 a_13 a_14 a_15 a_16 a_17 a_18 a_19 a_19l a_19c a_20 a_21 a_22 a_23 a_24 a_24l a_24c a_25 a_26 a_27 a_28 a_28l a_28c a_29 a_29l a_29c a_30 a_30l a_30c)] w1 fun e3 w4 =>
 ∃ s5, e3 = .returned (.string s5) ∧
 Kept L2 w1 w4 ∧
 ∃ x6 : Int → World → List Nat → Prop, ∃ x7 : Int → World → Nat, (x6 0 w4 L2) ∧
 ∀ n8 w9 L10, (LF w.heap.size w9 L10) →
 (x6 n8 w9 L10) →
 if (decide (n8 < (((s5.size) : Nat) : Int))) = true then
 ∃ x60, (FactsW x60 w9 L10) ∧
 ((0 : Int) ≤ n8) ∧
 ∃ x61, ((s5.data[n8.toNat]?) = some x61) ∧
 ∀ w62 L63, Hid L10 w9 w62 →
 NewL w.heap.size L10 w9 w62 L63 →
 CallX Tryz.prog 71 #[(MgW a_0 a_1 a_2 a_3 a_4 a_5 a_6 a_7 a_8 a_9 a_10 a_11 a_12 a_13 a_14 a_15 a_16 a_17 a_18 a_19 a_19l a_19c a_20 a_21 a_22 a_23 a_24 a_24l a_24c a_25 a_26 a_27 a_28 a_28l a_28c a_29 a_29l a_29c a_30 a_30l a_30c), (.int .u8 (((x61.toNat) : Nat) : Int))] w62 fun e64 w65 =>
 ∃ b66, e64 = .returned (.bool b66) ∧
 Kept L63 w62 w65 ∧
 if (!b66) = true then
 R (.returned (.bool false)) w65
 else
 (([.int .u8 a_0, .int .u8 a_1, .int .u8 a_2, .int .u32 a_3, .int .u32 a_4, .int .u32 a_5, .int .u32 a_6, .int .u64 a_7, .int .u64 a_8, .int .u8 a_9, .int .u16 a_10, .int .u32 a_11, .int .u8 a_12, .int .u8 a_13, .int .u8 a_14, .int .u8 a_15, .int .u8 a_16, .int .u8 a_17, .int .u8 a_18, .slice a_19 a_19l a_19c, .int .u8 a_20, .string a_21, .int .u8 a_22, .int .u32 a_23, .slice a_24 a_24l a_24c, .int .u8 a_25, .int .u16 a_26, .bool a_27, .slice a_28 a_28l a_28c, .slice a_29 a_29l a_29c, .slice a_30 a_30l a_30c] : List Value) = [.int .u8 a_0, .int .u8 a_1, .int .u8 a_2, .int .u32 a_3, .int .u32 a_4, .int .u32 a_5, .int .u32 a_6, .int .u64 a_7, .int .u64 a_8, .int .u8 a_9, .int .u16 a_10, .int .u32 a_11, .int .u8 a_12, .int .u8 a_13, .int .u8 a_14, .int .u8 a_15, .int .u8 a_16, .int .u8 a_17, .int .u8 a_18, .slice a_19 a_19l a_19c, .int .u8 a_20, .string a_21, .int .u8 a_22, .int .u32 a_23, .slice a_24 a_24l a_24c, .int .u8 a_25, .int .u16 a_26, .bool a_27, .slice a_28 a_28l a_28c, .slice a_29 a_29l a_29c, .slice a_30 a_30l a_30c]) ∧
 (x6 (IntKind.wrap .i64 (n8 + 1)) w65 L63) ∧
 Nat.le ((x7 (IntKind.wrap .i64 (n8 + 1)) w65) + 1) (x7 n8 w9)
 else
 ∃ x11, (FactsW x11 w9 L10) ∧
 ∀ w12 L13, Hid L10 w9 w12 →
 NewL w.heap.size L10 w9 w12 L13 →
 CallX Tryz.prog 72 #[(MgW a_0 a_1 a_2 a_3 a_4 a_5 a_6 a_7 a_8 a_9 a_10 a_11 a_12 a_13 a_14 a_15 a_16 a_17 a_18 a_19 a_19l a_19c a_20 a_21 a_22 a_23 a_24 a_24l a_24c a_25 a_26 a_27 a_28 a_28l a_28c a_29 a_29l a_29c a_30 a_30l a_30c), .string s5] w12 fun e14 w15 =>
 ∃ n16 n17 n18 n19 n20 n21 n22 n23 n24 n25 n26 n27 n28 n29 n30 n31 n32 n33 n34 q35 k36 k37 n38 s39 n40 n41 q42 k43 k44 n45 n46 b47 q48 k49 k50 q51 k52 k53 q54 k55 k56, e14 = .returned (MgW n16 n17 n18 n19 n20 n21 n22 n23 n24 n25 n26 n27 n28 n29 n30 n31 n32 n33 n34 q35 k36 k37 n38 s39 n40 n41 q42 k43 k44 n45 n46 b47 q48 k49 k50 q51 k52 k53 q54 k55 k56) ∧
 Kept L13 w12 w15 ∧
 FactsW x11 w15 L13 ∧
 CallX Tryz.prog 13 #[(MgW a_0 a_1 a_2 a_3 a_4 a_5 a_6 a_7 a_8 a_9 a_10 a_11 a_12 a_13 a_14 a_15 a_16 a_17 a_18 a_19 a_19l a_19c a_20 a_21 a_22 a_23 a_24 a_24l a_24c a_25 a_26 a_27 a_28 a_28l a_28c a_29 a_29l a_29c a_30 a_30l a_30c), (MgW n16 n17 n18 n19 n20 n21 n22 n23 n24 n25 n26 n27 n28 n29 n30 n31 n32 n33 n34 q35 k36 k37 n38 s39 n40 n41 q42 k43 k44 n45 n46 b47 q48 k49 k50 q51 k52 k53 q54 k55 k56)] w15 fun e57 w58 =>
 ∃ b59, e57 = .returned (.bool b59) ∧
 Kept L13 w15 w58 ∧
 FactsW x11 w58 L13 ∧
 R (.returned (.bool b59)) w58) :
 Calls Tryz.prog 30 #[.agg #[.int .u8 a_0, .int .u8 a_1, .int .u8 a_2, .int .u32 a_3, .int .u32 a_4, .int .u32 a_5, .int .u32 a_6, .int .u64 a_7, .int .u64 a_8, .int .u8 a_9, .int .u16 a_10, .int .u32 a_11, .int .u8 a_12, .int .u8 a_13, .int .u8 a_14, .int .u8 a_15, .int .u8 a_16, .int .u8 a_17, .int .u8 a_18, .slice a_19 a_19l a_19c, .int .u8 a_20, .string a_21, .int .u8 a_22, .int .u32 a_23, .slice a_24 a_24l a_24c, .int .u8 a_25, .int .u16 a_26, .bool a_27, .slice a_28 a_28l a_28c, .slice a_29 a_29l a_29c, .slice a_30 a_30l a_30c]] w R :=
 calls_of { isLoc := [1], sym := [19], loops := [(5, .inv [(4, .int .i64)] [] true)], joins := [] } Tryz.func30 (by kernel_rfl) h
end Go.Proofs
/- The verification conditions of this seat's functions, as the engine has them: printed by a program of the bench; checked by the kernel. -/
namespace Go.Proofs
open Go X
abbrev Zg0 : List Value := [.int .u8 0, .int .u8 0, .int .u8 0, .int .u32 0, .int .u32 0, .int .u32 0, .int .u32 0, .int .u64 0, .int .u64 0, .int .u8 0, .int .u16 0, .int .u32 0, .int .u8 0, .int .u8 0, .int .u8 0, .int .u8 0, .int .u8 0, .int .u8 0, .int .u8 0, .slice none 0 0, .int .u8 0, .string (ByteArray.mk #[]), .int .u8 0, .int .u32 0, .slice none 0 0, .int .u8 0, .int .u16 0, .bool false, .slice none 0 0, .slice none 0 0, .slice none 0 0]
theorem x_rOnly (a_0 a_1 a_2 a_3 a_4 a_5 a_6 a_7 a_8 a_9 a_10 a_11 a_12 a_13 a_14 a_15 a_16 a_17 a_18 : Int) (a_19 : Option Addr) (a_19l a_19c : Nat) (a_20 : Int) (a_21 : ByteArray) (a_22 a_23 : Int) (a_24 : Option Addr) (a_24l a_24c : Nat) (a_25 a_26 : Int) (a_27 : Bool) (a_28 : Option Addr) (a_28l a_28c : Nat) (a_29 : Option Addr) (a_29l a_29c : Nat) (a_30 : Option Addr) (a_30l a_30c : Nat) (b : ByteArray) (w : World) (R : Ending → World → Prop) (h :
 ∀ w1 L2, Hid [] w w1 →
 NewL w.heap.size [] w w1 L2 →
 ∃ x3 : Int → Int → Int → Int → Int → Int → Int → Int → Int → Int → Int → Int → Int → Int → Int → Int → Int → Int → Int → Int → Option Addr → Nat → Nat → Int → ByteArray → Int → Int → Option Addr → Nat → Nat → Int → Int → Bool → Option Addr → Nat → Nat → Option Addr → Nat → Nat → Option Addr → Nat → Nat → World → List Nat → Prop, ∃ x4 : Int → Int → Int → Int → Int → Int → Int → Int → Int → Int → Int → Int → Int → Int → Int → Int → Int → Int → Int → Int → Option Addr → Nat → Nat → Int → ByteArray → Int → Int → Option Addr → Nat → Nat → Int → Int → Bool → Option Addr → Nat → Nat → Option Addr → Nat → Nat → Option Addr → Nat → Nat → World → Nat, (x3 0 a_0 0 0 0 0 0 0 0 0 0 0 0 0 0 0 0 0 0 0 none 0 0 0 (ByteArray.mk #[]) 0 0 none 0 0 0 0 false none 0 0 none 0 0 none 0 0 w1 L2) ∧
 ∀ n5 n6 n7 n8 n9 n10 n11 n12 n13 n14 n15 n16 n17 n18 n19 n20 n21 n22 n23 n24 q25 k26 k27 n28 s29 n30 n31 q32 k33 k34 n35 n36 b37 q38 k39 k40 q41 k42 k43 q44 k45 k46 w47 L48, (LF w.heap.size w47 L48) →
 (x3 n5 n6 n7 n8 n9 n10 n11 n12 n13 n14 n15 n16 n17 n18 n19 n20 n21 n22 n23 n24 q25 k26 k27 n28 s29 n30 n31 q32 k33 k34 n35 n36 b37 q38 k39 k40 q41 k42 k43 q44 k45 k46 w47 L48) →
 if (decide (n5 < (((b.size) : Nat) : Int))) = true then
 ((0 : Int) ≤ n5) ∧
 ∃ x50, ((b.data[n5.toNat]?) = some x50) ∧
 if ((((x50.toNat) : Nat) : Int) == 103) = true then
 ∀ w81 L82, Hid L48 w47 w81 →
 NewL w.heap.size L48 w47 w81 L82 →
 (([.int .u8 a_0, .int .u8 a_1, .int .u8 a_2, .int .u32 a_3, .int .u32 a_4, .int .u32 a_5, .int .u32 a_6, .int .u64 a_7, .int .u64 a_8, .int .u8 a_9, .int .u16 a_10, .int .u32 a_11, .int .u8 a_12, .int .u8 a_13, .int .u8 a_14, .int .u8 a_15, .int .u8 a_16, .int .u8 a_17, .int .u8 a_18, .slice a_19 a_19l a_19c, .int .u8 a_20, .string a_21, .int .u8 a_22, .int .u32 a_23, .slice a_24 a_24l a_24c, .int .u8 a_25, .int .u16 a_26, .bool a_27, .slice a_28 a_28l a_28c, .slice a_29 a_29l a_29c, .slice a_30 a_30l a_30c] : List Value) = [.int .u8 a_0, .int .u8 a_1, .int .u8 a_2, .int .u32 a_3, .int .u32 a_4, .int .u32 a_5, .int .u32 a_6, .int .u64 a_7, .int .u64 a_8, .int .u8 a_9, .int .u16 a_10, .int .u32 a_11, .int .u8 a_12, .int .u8 a_13, .int .u8 a_14, .int .u8 a_15, .int .u8 a_16, .int .u8 a_17, .int .u8 a_18, .slice a_19 a_19l a_19c, .int .u8 a_20, .string a_21, .int .u8 a_22, .int .u32 a_23, .slice a_24 a_24l a_24c, .int .u8 a_25, .int .u16 a_26, .bool a_27, .slice a_28 a_28l a_28c, .slice a_29 a_29l a_29c, .slice a_30 a_30l a_30c]) ∧
 (Zg0 = Zg0) ∧
 (x3 (IntKind.wrap .i64 (n5 + 1)) n6 a_1 n8 n9 n10 n11 n12 n13 n14 n15 n16 n17 n18 n19 n20 n21 n22 n23 n24 q25 k26 k27 n28 s29 n30 n31 q32 k33 k34 n35 n36 b37 q38 k39 k40 q41 k42 k43 q44 k45 k46 w81 L82) ∧
 Nat.le ((x4 (IntKind.wrap .i64 (n5 + 1)) n6 a_1 n8 n9 n10 n11 n12 n13 n14 n15 n16 n17 n18 n19 n20 n21 n22 n23 n24 q25 k26 k27 n28 s29 n30 n31 q32 k33 k34 n35 n36 b37 q38 k39 k40 q41 k42 k43 q44 k45 k46 w81) + 1) (x4 n5 n6 n7 n8 n9 n10 n11 n12 n13 n14 n15 n16 n17 n18 n19 n20 n21 n22 n23 n24 q25 k26 k27 n28 s29 n30 n31 q32 k33 k34 n35 n36 b37 q38 k39 k40 q41 k42 k43 q44 k45 k46 w47)
 else
 if ((((x50.toNat) : Nat) : Int) == 105) = true then
 ∀ w79 L80, Hid L48 w47 w79 →
 NewL w.heap.size L48 w47 w79 L80 →
 (([.int .u8 a_0, .int .u8 a_1, .int .u8 a_2, .int .u32 a_3, .int .u32 a_4, .int .u32 a_5, .int .u32 a_6, .int .u64 a_7, .int .u64 a_8, .int .u8 a_9, .int .u16 a_10, .int .u32 a_11, .int .u8 a_12, .int .u8 a_13, .int .u8 a_14, .int .u8 a_15, .int .u8 a_16, .int .u8 a_17, .int .u8 a_18, .slice a_19 a_19l a_19c, .int .u8 a_20, .string a_21, .int .u8 a_22, .int .u32 a_23, .slice a_24 a_24l a_24c, .int .u8 a_25, .int .u16 a_26, .bool a_27, .slice a_28 a_28l a_28c, .slice a_29 a_29l a_29c, .slice a_30 a_30l a_30c] : List Value) = [.int .u8 a_0, .int .u8 a_1, .int .u8 a_2, .int .u32 a_3, .int .u32 a_4, .int .u32 a_5, .int .u32 a_6, .int .u64 a_7, .int .u64 a_8, .int .u8 a_9, .int .u16 a_10, .int .u32 a_11, .int .u8 a_12, .int .u8 a_13, .int .u8 a_14, .int .u8 a_15, .int .u8 a_16, .int .u8 a_17, .int .u8 a_18, .slice a_19 a_19l a_19c, .int .u8 a_20, .string a_21, .int .u8 a_22, .int .u32 a_23, .slice a_24 a_24l a_24c, .int .u8 a_25, .int .u16 a_26, .bool a_27, .slice a_28 a_28l a_28c, .slice a_29 a_29l a_29c, .slice a_30 a_30l a_30c]) ∧
 (Zg0 = Zg0) ∧
 (x3 (IntKind.wrap .i64 (n5 + 1)) n6 n7 n8 n9 n10 n11 n12 n13 n14 a_9 a_10 a_11 a_12 a_13 a_14 a_15 a_16 a_17 a_18 q25 k26 k27 n28 s29 n30 n31 q32 k33 k34 n35 n36 b37 q38 k39 k40 q41 k42 k43 q44 k45 k46 w79 L80) ∧
 Nat.le ((x4 (IntKind.wrap .i64 (n5 + 1)) n6 n7 n8 n9 n10 n11 n12 n13 n14 a_9 a_10 a_11 a_12 a_13 a_14 a_15 a_16 a_17 a_18 q25 k26 k27 n28 s29 n30 n31 q32 k33 k34 n35 n36 b37 q38 k39 k40 q41 k42 k43 q44 k45 k46 w79) + 1) (x4 n5 n6 n7 n8 n9 n10 n11 n12 n13 n14 n15 n16 n17 n18 n19 n20 n21 n22 n23 n24 q25 k26 k27 n28 s29 n30 n31 q32 k33 k34 n35 n36 b37 q38 k39 k40 q41 k42 k43 q44 k45 k46 w47)
 else
 if ((((x50.toNat) : Nat) : Int) == 102) = true then
 ∀ w77 L78, Hid L48 w47 w77 →
 NewL w.heap.size L48 w47 w77 L78 →
 (([.int .u8 a_0, .int .u8 a_1, .int .u8 a_2, .int .u32 a_3, .int .u32 a_4, .int .u32 a_5, .int .u32 a_6, .int .u64 a_7, .int .u64 a_8, .int .u8 a_9, .int .u16 a_10, .int .u32 a_11, .int .u8 a_12, .int .u8 a_13, .int .u8 a_14, .int .u8 a_15, .int .u8 a_16, .int .u8 a_17, .int .u8 a_18, .slice a_19 a_19l a_19c, .int .u8 a_20, .string a_21, .int .u8 a_22, .int .u32 a_23, .slice a_24 a_24l a_24c, .int .u8 a_25, .int .u16 a_26, .bool a_27, .slice a_28 a_28l a_28c, .slice a_29 a_29l a_29c, .slice a_30 a_30l a_30c] : List Value) = [.int .u8 a_0, .int .u8 a_1, .int .u8 a_2, .int .u32 a_3, .int .u32 a_4, .int .u32 a_5, .int .u32 a_6, .int .u64 a_7, .int .u64 a_8, .int .u8 a_9, .int .u16 a_10, .int .u32 a_11, .int .u8 a_12, .int .u8 a_13, .int .u8 a_14, .int .u8 a_15, .int .u8 a_16, .int .u8 a_17, .int .u8 a_18, .slice a_19 a_19l a_19c, .int .u8 a_20, .string a_21, .int .u8 a_22, .int .u32 a_23, .slice a_24 a_24l a_24c, .int .u8 a_25, .int .u16 a_26, .bool a_27, .slice a_28 a_28l a_28c, .slice a_29 a_29l a_29c, .slice a_30 a_30l a_30c]) ∧
 (Zg0 = Zg0) ∧
 (x3 (IntKind.wrap .i64 (n5 + 1)) n6 n7 n8 n9 n10 n11 a_6 n13 n14 n15 n16 n17 n18 n19 n20 n21 n22 n23 n24 q25 k26 k27 n28 s29 n30 n31 q32 k33 k34 n35 n36 b37 q38 k39 k40 q41 k42 k43 q44 k45 k46 w77 L78) ∧
 Nat.le ((x4 (IntKind.wrap .i64 (n5 + 1)) n6 n7 n8 n9 n10 n11 a_6 n13 n14 n15 n16 n17 n18 n19 n20 n21 n22 n23 n24 q25 k26 k27 n28 s29 n30 n31 q32 k33 k34 n35 n36 b37 q38 k39 k40 q41 k42 k43 q44 k45 k46 w77) + 1) (x4 n5 n6 n7 n8 n9 n10 n11 n12 n13 n14 n15 n16 n17 n18 n19 n20 n21 n22 n23 n24 q25 k26 k27 n28 s29 n30 n31 q32 k33 k34 n35 n36 b37 q38 k39 k40 q41 k42 k43 q44 k45 k46 w47)
 else
 if ((((x50.toNat) : Nat) : Int) == 112) = true then
 ∀ w75 L76, Hid L48 w47 w75 →
 NewL w.heap.size L48 w47 w75 L76 →
 (([.int .u8 a_0, .int .u8 a_1, .int .u8 a_2, .int .u32 a_3, .int .u32 a_4, .int .u32 a_5, .int .u32 a_6, .int .u64 a_7, .int .u64 a_8, .int .u8 a_9, .int .u16 a_10, .int .u32 a_11, .int .u8 a_12, .int .u8 a_13, .int .u8 a_14, .int .u8 a_15, .int .u8 a_16, .int .u8 a_17, .int .u8 a_18, .slice a_19 a_19l a_19c, .int .u8 a_20, .string a_21, .int .u8 a_22, .int .u32 a_23, .slice a_24 a_24l a_24c, .int .u8 a_25, .int .u16 a_26, .bool a_27, .slice a_28 a_28l a_28c, .slice a_29 a_29l a_29c, .slice a_30 a_30l a_30c] : List Value) = [.int .u8 a_0, .int .u8 a_1, .int .u8 a_2, .int .u32 a_3, .int .u32 a_4, .int .u32 a_5, .int .u32 a_6, .int .u64 a_7, .int .u64 a_8, .int .u8 a_9, .int .u16 a_10, .int .u32 a_11, .int .u8 a_12, .int .u8 a_13, .int .u8 a_14, .int .u8 a_15, .int .u8 a_16, .int .u8 a_17, .int .u8 a_18, .slice a_19 a_19l a_19c, .int .u8 a_20, .string a_21, .int .u8 a_22, .int .u32 a_23, .slice a_24 a_24l a_24c, .int .u8 a_25, .int .u16 a_26, .bool a_27, .slice a_28 a_28l a_28c, .slice a_29 a_29l a_29c, .slice a_30 a_30l a_30c]) ∧
 (Zg0 = Zg0) ∧
 (x3 (IntKind.wrap .i64 (n5 + 1)) n6 n7 n8 n9 n10 n11 n12 n13 n14 n15 n16 n17 n18 n19 n20 n21 n22 n23 n24 a_19 a_19l a_19c n28 s29 n30 n31 q32 k33 k34 n35 n36 b37 q38 k39 k40 q41 k42 k43 q44 k45 k46 w75 L76) ∧
 Nat.le ((x4 (IntKind.wrap .i64 (n5 + 1)) n6 n7 n8 n9 n10 n11 n12 n13 n14 n15 n16 n17 n18 n19 n20 n21 n22 n23 n24 a_19 a_19l a_19c n28 s29 n30 n31 q32 k33 k34 n35 n36 b37 q38 k39 k40 q41 k42 k43 q44 k45 k46 w75) + 1) (x4 n5 n6 n7 n8 n9 n10 n11 n12 n13 n14 n15 n16 n17 n18 n19 n20 n21 n22 n23 n24 q25 k26 k27 n28 s29 n30 n31 q32 k33 k34 n35 n36 b37 q38 k39 k40 q41 k42 k43 q44 k45 k46 w47)
 else
 if ((((x50.toNat) : Nat) : Int) == 114) = true then
 ∀ w73 L74, Hid L48 w47 w73 →
 NewL w.heap.size L48 w47 w73 L74 →
 (([.int .u8 a_0, .int .u8 a_1, .int .u8 a_2, .int .u32 a_3, .int .u32 a_4, .int .u32 a_5, .int .u32 a_6, .int .u64 a_7, .int .u64 a_8, .int .u8 a_9, .int .u16 a_10, .int .u32 a_11, .int .u8 a_12, .int .u8 a_13, .int .u8 a_14, .int .u8 a_15, .int .u8 a_16, .int .u8 a_17, .int .u8 a_18, .slice a_19 a_19l a_19c, .int .u8 a_20, .string a_21, .int .u8 a_22, .int .u32 a_23, .slice a_24 a_24l a_24c, .int .u8 a_25, .int .u16 a_26, .bool a_27, .slice a_28 a_28l a_28c, .slice a_29 a_29l a_29c, .slice a_30 a_30l a_30c] : List Value) = [.int .u8 a_0, .int .u8 a_1, .int .u8 a_2, .int .u32 a_3, .int .u32 a_4, .int .u32 a_5, .int .u32 a_6, .int .u64 a_7, .int .u64 a_8, .int .u8 a_9, .int .u16 a_10, .int .u32 a_11, .int .u8 a_12, .int .u8 a_13, .int .u8 a_14, .int .u8 a_15, .int .u8 a_16, .int .u8 a_17, .int .u8 a_18, .slice a_19 a_19l a_19c, .int .u8 a_20, .string a_21, .int .u8 a_22, .int .u32 a_23, .slice a_24 a_24l a_24c, .int .u8 a_25, .int .u16 a_26, .bool a_27, .slice a_28 a_28l a_28c, .slice a_29 a_29l a_29c, .slice a_30 a_30l a_30c]) ∧
 (Zg0 = Zg0) ∧
 (x3 (IntKind.wrap .i64 (n5 + 1)) n6 n7 n8 n9 n10 n11 n12 n13 n14 n15 n16 n17 n18 n19 n20 n21 n22 n23 n24 q25 k26 k27 a_20 a_21 n30 n31 q32 k33 k34 n35 n36 b37 q38 k39 k40 q41 k42 k43 q44 k45 k46 w73 L74) ∧
 Nat.le ((x4 (IntKind.wrap .i64 (n5 + 1)) n6 n7 n8 n9 n10 n11 n12 n13 n14 n15 n16 n17 n18 n19 n20 n21 n22 n23 n24 q25 k26 k27 a_20 a_21 n30 n31 q32 k33 k34 n35 n36 b37 q38 k39 k40 q41 k42 k43 q44 k45 k46 w73) + 1) (x4 n5 n6 n7 n8 n9 n10 n11 n12 n13 n14 n15 n16 n17 n18 n19 n20 n21 n22 n23 n24 q25 k26 k27 n28 s29 n30 n31 q32 k33 k34 n35 n36 b37 q38 k39 k40 q41 k42 k43 q44 k45 k46 w47)
 else
 if ((((x50.toNat) : Nat) : Int) == 118) = true then
 ∀ w71 L72, Hid L48 w47 w71 →
 NewL w.heap.size L48 w47 w71 L72 →
 (([.int .u8 a_0, .int .u8 a_1, .int .u8 a_2, .int .u32 a_3, .int .u32 a_4, .int .u32 a_5, .int .u32 a_6, .int .u64 a_7, .int .u64 a_8, .int .u8 a_9, .int .u16 a_10, .int .u32 a_11, .int .u8 a_12, .int .u8 a_13, .int .u8 a_14, .int .u8 a_15, .int .u8 a_16, .int .u8 a_17, .int .u8 a_18, .slice a_19 a_19l a_19c, .int .u8 a_20, .string a_21, .int .u8 a_22, .int .u32 a_23, .slice a_24 a_24l a_24c, .int .u8 a_25, .int .u16 a_26, .bool a_27, .slice a_28 a_28l a_28c, .slice a_29 a_29l a_29c, .slice a_30 a_30l a_30c] : List Value) = [.int .u8 a_0, .int .u8 a_1, .int .u8 a_2, .int .u32 a_3, .int .u32 a_4, .int .u32 a_5, .int .u32 a_6, .int .u64 a_7, .int .u64 a_8, .int .u8 a_9, .int .u16 a_10, .int .u32 a_11, .int .u8 a_12, .int .u8 a_13, .int .u8 a_14, .int .u8 a_15, .int .u8 a_16, .int .u8 a_17, .int .u8 a_18, .slice a_19 a_19l a_19c, .int .u8 a_20, .string a_21, .int .u8 a_22, .int .u32 a_23, .slice a_24 a_24l a_24c, .int .u8 a_25, .int .u16 a_26, .bool a_27, .slice a_28 a_28l a_28c, .slice a_29 a_29l a_29c, .slice a_30 a_30l a_30c]) ∧
 (Zg0 = Zg0) ∧
 (x3 (IntKind.wrap .i64 (n5 + 1)) n6 n7 n8 n9 n10 n11 n12 n13 n14 n15 n16 n17 n18 n19 n20 n21 n22 n23 n24 q25 k26 k27 n28 s29 a_22 a_23 a_24 a_24l a_24c n35 n36 b37 q38 k39 k40 q41 k42 k43 q44 k45 k46 w71 L72) ∧
 Nat.le ((x4 (IntKind.wrap .i64 (n5 + 1)) n6 n7 n8 n9 n10 n11 n12 n13 n14 n15 n16 n17 n18 n19 n20 n21 n22 n23 n24 q25 k26 k27 n28 s29 a_22 a_23 a_24 a_24l a_24c n35 n36 b37 q38 k39 k40 q41 k42 k43 q44 k45 k46 w71) + 1) (x4 n5 n6 n7 n8 n9 n10 n11 n12 n13 n14 n15 n16 n17 n18 n19 n20 n21 n22 n23 n24 q25 k26 k27 n28 s29 n30 n31 q32 k33 k34 n35 n36 b37 q38 k39 k40 q41 k42 k43 q44 k45 k46 w47)
 else
 if ((((x50.toNat) : Nat) : Int) == 99) = true then
 ∀ w69 L70, Hid L48 w47 w69 →
 NewL w.heap.size L48 w47 w69 L70 →
 (([.int .u8 a_0, .int .u8 a_1, .int .u8 a_2, .int .u32 a_3, .int .u32 a_4, .int .u32 a_5, .int .u32 a_6, .int .u64 a_7, .int .u64 a_8, .int .u8 a_9, .int .u16 a_10, .int .u32 a_11, .int .u8 a_12, .int .u8 a_13, .int .u8 a_14, .int .u8 a_15, .int .u8 a_16, .int .u8 a_17, .int .u8 a_18, .slice a_19 a_19l a_19c, .int .u8 a_20, .string a_21, .int .u8 a_22, .int .u32 a_23, .slice a_24 a_24l a_24c, .int .u8 a_25, .int .u16 a_26, .bool a_27, .slice a_28 a_28l a_28c, .slice a_29 a_29l a_29c, .slice a_30 a_30l a_30c] : List Value) = [.int .u8 a_0, .int .u8 a_1, .int .u8 a_2, .int .u32 a_3, .int .u32 a_4, .int .u32 a_5, .int .u32 a_6, .int .u64 a_7, .int .u64 a_8, .int .u8 a_9, .int .u16 a_10, .int .u32 a_11, .int .u8 a_12, .int .u8 a_13, .int .u8 a_14, .int .u8 a_15, .int .u8 a_16, .int .u8 a_17, .int .u8 a_18, .slice a_19 a_19l a_19c, .int .u8 a_20, .string a_21, .int .u8 a_22, .int .u32 a_23, .slice a_24 a_24l a_24c, .int .u8 a_25, .int .u16 a_26, .bool a_27, .slice a_28 a_28l a_28c, .slice a_29 a_29l a_29c, .slice a_30 a_30l a_30c]) ∧
 (Zg0 = Zg0) ∧
 (x3 (IntKind.wrap .i64 (n5 + 1)) n6 n7 a_2 n9 n10 n11 n12 n13 n14 n15 n16 n17 n18 n19 n20 n21 n22 n23 n24 q25 k26 k27 n28 s29 n30 n31 q32 k33 k34 n35 n36 b37 q38 k39 k40 q41 k42 k43 q44 k45 k46 w69 L70) ∧
 Nat.le ((x4 (IntKind.wrap .i64 (n5 + 1)) n6 n7 a_2 n9 n10 n11 n12 n13 n14 n15 n16 n17 n18 n19 n20 n21 n22 n23 n24 q25 k26 k27 n28 s29 n30 n31 q32 k33 k34 n35 n36 b37 q38 k39 k40 q41 k42 k43 q44 k45 k46 w69) + 1) (x4 n5 n6 n7 n8 n9 n10 n11 n12 n13 n14 n15 n16 n17 n18 n19 n20 n21 n22 n23 n24 q25 k26 k27 n28 s29 n30 n31 q32 k33 k34 n35 n36 b37 q38 k39 k40 q41 k42 k43 q44 k45 k46 w47)
 else
 if ((((x50.toNat) : Nat) : Int) == 110) = true then
 ∀ w67 L68, Hid L48 w47 w67 →
 NewL w.heap.size L48 w47 w67 L68 →
 (([.int .u8 a_0, .int .u8 a_1, .int .u8 a_2, .int .u32 a_3, .int .u32 a_4, .int .u32 a_5, .int .u32 a_6, .int .u64 a_7, .int .u64 a_8, .int .u8 a_9, .int .u16 a_10, .int .u32 a_11, .int .u8 a_12, .int .u8 a_13, .int .u8 a_14, .int .u8 a_15, .int .u8 a_16, .int .u8 a_17, .int .u8 a_18, .slice a_19 a_19l a_19c, .int .u8 a_20, .string a_21, .int .u8 a_22, .int .u32 a_23, .slice a_24 a_24l a_24c, .int .u8 a_25, .int .u16 a_26, .bool a_27, .slice a_28 a_28l a_28c, .slice a_29 a_29l a_29c, .slice a_30 a_30l a_30c] : List Value) = [.int .u8 a_0, .int .u8 a_1, .int .u8 a_2, .int .u32 a_3, .int .u32 a_4, .int .u32 a_5, .int .u32 a_6, .int .u64 a_7, .int .u64 a_8, .int .u8 a_9, .int .u16 a_10, .int .u32 a_11, .int .u8 a_12, .int .u8 a_13, .int .u8 a_14, .int .u8 a_15, .int .u8 a_16, .int .u8 a_17, .int .u8 a_18, .slice a_19 a_19l a_19c, .int .u8 a_20, .string a_21, .int .u8 a_22, .int .u32 a_23, .slice a_24 a_24l a_24c, .int .u8 a_25, .int .u16 a_26, .bool a_27, .slice a_28 a_28l a_28c, .slice a_29 a_29l a_29c, .slice a_30 a_30l a_30c]) ∧
 (Zg0 = Zg0) ∧
 (x3 (IntKind.wrap .i64 (n5 + 1)) n6 n7 n8 a_3 n10 n11 n12 n13 n14 n15 n16 n17 n18 n19 n20 n21 n22 n23 n24 q25 k26 k27 n28 s29 n30 n31 q32 k33 k34 n35 n36 b37 q38 k39 k40 q41 k42 k43 q44 k45 k46 w67 L68) ∧
 Nat.le ((x4 (IntKind.wrap .i64 (n5 + 1)) n6 n7 n8 a_3 n10 n11 n12 n13 n14 n15 n16 n17 n18 n19 n20 n21 n22 n23 n24 q25 k26 k27 n28 s29 n30 n31 q32 k33 k34 n35 n36 b37 q38 k39 k40 q41 k42 k43 q44 k45 k46 w67) + 1) (x4 n5 n6 n7 n8 n9 n10 n11 n12 n13 n14 n15 n16 n17 n18 n19 n20 n21 n22 n23 n24 q25 k26 k27 n28 s29 n30 n31 q32 k33 k34 n35 n36 b37 q38 k39 k40 q41 k42 k43 q44 k45 k46 w47)
 else
 if ((((x50.toNat) : Nat) : Int) == 97) = true then
 ∀ w65 L66, Hid L48 w47 w65 →
 NewL w.heap.size L48 w47 w65 L66 →
 (([.int .u8 a_0, .int .u8 a_1, .int .u8 a_2, .int .u32 a_3, .int .u32 a_4, .int .u32 a_5, .int .u32 a_6, .int .u64 a_7, .int .u64 a_8, .int .u8 a_9, .int .u16 a_10, .int .u32 a_11, .int .u8 a_12, .int .u8 a_13, .int .u8 a_14, .int .u8 a_15, .int .u8 a_16, .int .u8 a_17, .int .u8 a_18, .slice a_19 a_19l a_19c, .int .u8 a_20, .string a_21, .int .u8 a_22, .int .u32 a_23, .slice a_24 a_24l a_24c, .int .u8 a_25, .int .u16 a_26, .bool a_27, .slice a_28 a_28l a_28c, .slice a_29 a_29l a_29c, .slice a_30 a_30l a_30c] : List Value) = [.int .u8 a_0, .int .u8 a_1, .int .u8 a_2, .int .u32 a_3, .int .u32 a_4, .int .u32 a_5, .int .u32 a_6, .int .u64 a_7, .int .u64 a_8, .int .u8 a_9, .int .u16 a_10, .int .u32 a_11, .int .u8 a_12, .int .u8 a_13, .int .u8 a_14, .int .u8 a_15, .int .u8 a_16, .int .u8 a_17, .int .u8 a_18, .slice a_19 a_19l a_19c, .int .u8 a_20, .string a_21, .int .u8 a_22, .int .u32 a_23, .slice a_24 a_24l a_24c, .int .u8 a_25, .int .u16 a_26, .bool a_27, .slice a_28 a_28l a_28c, .slice a_29 a_29l a_29c, .slice a_30 a_30l a_30c]) ∧
 (Zg0 = Zg0) ∧
 (x3 (IntKind.wrap .i64 (n5 + 1)) n6 n7 n8 n9 a_4 n11 n12 n13 n14 n15 n16 n17 n18 n19 n20 n21 n22 n23 n24 q25 k26 k27 n28 s29 n30 n31 q32 k33 k34 n35 n36 b37 q38 k39 k40 q41 k42 k43 q44 k45 k46 w65 L66) ∧
 Nat.le ((x4 (IntKind.wrap .i64 (n5 + 1)) n6 n7 n8 n9 a_4 n11 n12 n13 n14 n15 n16 n17 n18 n19 n20 n21 n22 n23 n24 q25 k26 k27 n28 s29 n30 n31 q32 k33 k34 n35 n36 b37 q38 k39 k40 q41 k42 k43 q44 k45 k46 w65) + 1) (x4 n5 n6 n7 n8 n9 n10 n11 n12 n13 n14 n15 n16 n17 n18 n19 n20 n21 n22 n23 n24 q25 k26 k27 n28 s29 n30 n31 q32 k33 k34 n35 n36 b37 q38 k39 k40 q41 k42 k43 q44 k45 k46 w47)
 else
 if ((((x50.toNat) : Nat) : Int) == 107) = true then
 ∀ w63 L64, Hid L48 w47 w63 →
 NewL w.heap.size L48 w47 w63 L64 →
 (([.int .u8 a_0, .int .u8 a_1, .int .u8 a_2, .int .u32 a_3, .int .u32 a_4, .int .u32 a_5, .int .u32 a_6, .int .u64 a_7, .int .u64 a_8, .int .u8 a_9, .int .u16 a_10, .int .u32 a_11, .int .u8 a_12, .int .u8 a_13, .int .u8 a_14, .int .u8 a_15, .int .u8 a_16, .int .u8 a_17, .int .u8 a_18, .slice a_19 a_19l a_19c, .int .u8 a_20, .string a_21, .int .u8 a_22, .int .u32 a_23, .slice a_24 a_24l a_24c, .int .u8 a_25, .int .u16 a_26, .bool a_27, .slice a_28 a_28l a_28c, .slice a_29 a_29l a_29c, .slice a_30 a_30l a_30c] : List Value) = [.int .u8 a_0, .int .u8 a_1, .int .u8 a_2, .int .u32 a_3, .int .u32 a_4, .int .u32 a_5, .int .u32 a_6, .int .u64 a_7, .int .u64 a_8, .int .u8 a_9, .int .u16 a_10, .int .u32 a_11, .int .u8 a_12, .int .u8 a_13, .int .u8 a_14, .int .u8 a_15, .int .u8 a_16, .int .u8 a_17, .int .u8 a_18, .slice a_19 a_19l a_19c, .int .u8 a_20, .string a_21, .int .u8 a_22, .int .u32 a_23, .slice a_24 a_24l a_24c, .int .u8 a_25, .int .u16 a_26, .bool a_27, .slice a_28 a_28l a_28c, .slice a_29 a_29l a_29c, .slice a_30 a_30l a_30c]) ∧
 (Zg0 = Zg0) ∧
 (x3 (IntKind.wrap .i64 (n5 + 1)) n6 n7 n8 n9 n10 a_5 n12 n13 n14 n15 n16 n17 n18 n19 n20 n21 n22 n23 n24 q25 k26 k27 n28 s29 n30 n31 q32 k33 k34 n35 n36 b37 q38 k39 k40 q41 k42 k43 q44 k45 k46 w63 L64) ∧
 Nat.le ((x4 (IntKind.wrap .i64 (n5 + 1)) n6 n7 n8 n9 n10 a_5 n12 n13 n14 n15 n16 n17 n18 n19 n20 n21 n22 n23 n24 q25 k26 k27 n28 s29 n30 n31 q32 k33 k34 n35 n36 b37 q38 k39 k40 q41 k42 k43 q44 k45 k46 w63) + 1) (x4 n5 n6 n7 n8 n9 n10 n11 n12 n13 n14 n15 n16 n17 n18 n19 n20 n21 n22 n23 n24 q25 k26 k27 n28 s29 n30 n31 q32 k33 k34 n35 n36 b37 q38 k39 k40 q41 k42 k43 q44 k45 k46 w47)
 else
 if ((((x50.toNat) : Nat) : Int) == 101) = true then
 ∀ w61 L62, Hid L48 w47 w61 →
 NewL w.heap.size L48 w47 w61 L62 →
 (([.int .u8 a_0, .int .u8 a_1, .int .u8 a_2, .int .u32 a_3, .int .u32 a_4, .int .u32 a_5, .int .u32 a_6, .int .u64 a_7, .int .u64 a_8, .int .u8 a_9, .int .u16 a_10, .int .u32 a_11, .int .u8 a_12, .int .u8 a_13, .int .u8 a_14, .int .u8 a_15, .int .u8 a_16, .int .u8 a_17, .int .u8 a_18, .slice a_19 a_19l a_19c, .int .u8 a_20, .string a_21, .int .u8 a_22, .int .u32 a_23, .slice a_24 a_24l a_24c, .int .u8 a_25, .int .u16 a_26, .bool a_27, .slice a_28 a_28l a_28c, .slice a_29 a_29l a_29c, .slice a_30 a_30l a_30c] : List Value) = [.int .u8 a_0, .int .u8 a_1, .int .u8 a_2, .int .u32 a_3, .int .u32 a_4, .int .u32 a_5, .int .u32 a_6, .int .u64 a_7, .int .u64 a_8, .int .u8 a_9, .int .u16 a_10, .int .u32 a_11, .int .u8 a_12, .int .u8 a_13, .int .u8 a_14, .int .u8 a_15, .int .u8 a_16, .int .u8 a_17, .int .u8 a_18, .slice a_19 a_19l a_19c, .int .u8 a_20, .string a_21, .int .u8 a_22, .int .u32 a_23, .slice a_24 a_24l a_24c, .int .u8 a_25, .int .u16 a_26, .bool a_27, .slice a_28 a_28l a_28c, .slice a_29 a_29l a_29c, .slice a_30 a_30l a_30c]) ∧
 (Zg0 = Zg0) ∧
 (x3 (IntKind.wrap .i64 (n5 + 1)) n6 n7 n8 n9 n10 n11 n12 n13 n14 n15 n16 n17 n18 n19 n20 n21 n22 n23 n24 q25 k26 k27 n28 s29 n30 n31 q32 k33 k34 n35 n36 b37 q38 k39 k40 a_29 a_29l a_29c q44 k45 k46 w61 L62) ∧
 Nat.le ((x4 (IntKind.wrap .i64 (n5 + 1)) n6 n7 n8 n9 n10 n11 n12 n13 n14 n15 n16 n17 n18 n19 n20 n21 n22 n23 n24 q25 k26 k27 n28 s29 n30 n31 q32 k33 k34 n35 n36 b37 q38 k39 k40 a_29 a_29l a_29c q44 k45 k46 w61) + 1) (x4 n5 n6 n7 n8 n9 n10 n11 n12 n13 n14 n15 n16 n17 n18 n19 n20 n21 n22 n23 n24 q25 k26 k27 n28 s29 n30 n31 q32 k33 k34 n35 n36 b37 q38 k39 k40 q41 k42 k43 q44 k45 k46 w47)
 else
 if ((((x50.toNat) : Nat) : Int) == 98) = true then
 ∀ w59 L60, Hid L48 w47 w59 →
 NewL w.heap.size L48 w47 w59 L60 →
 (([.int .u8 a_0, .int .u8 a_1, .int .u8 a_2, .int .u32 a_3, .int .u32 a_4, .int .u32 a_5, .int .u32 a_6, .int .u64 a_7, .int .u64 a_8, .int .u8 a_9, .int .u16 a_10, .int .u32 a_11, .int .u8 a_12, .int .u8 a_13, .int .u8 a_14, .int .u8 a_15, .int .u8 a_16, .int .u8 a_17, .int .u8 a_18, .slice a_19 a_19l a_19c, .int .u8 a_20, .string a_21, .int .u8 a_22, .int .u32 a_23, .slice a_24 a_24l a_24c, .int .u8 a_25, .int .u16 a_26, .bool a_27, .slice a_28 a_28l a_28c, .slice a_29 a_29l a_29c, .slice a_30 a_30l a_30c] : List Value) = [.int .u8 a_0, .int .u8 a_1, .int .u8 a_2, .int .u32 a_3, .int .u32 a_4, .int .u32 a_5, .int .u32 a_6, .int .u64 a_7, .int .u64 a_8, .int .u8 a_9, .int .u16 a_10, .int .u32 a_11, .int .u8 a_12, .int .u8 a_13, .int .u8 a_14, .int .u8 a_15, .int .u8 a_16, .int .u8 a_17, .int .u8 a_18, .slice a_19 a_19l a_19c, .int .u8 a_20, .string a_21, .int .u8 a_22, .int .u32 a_23, .slice a_24 a_24l a_24c, .int .u8 a_25, .int .u16 a_26, .bool a_27, .slice a_28 a_28l a_28c, .slice a_29 a_29l a_29c, .slice a_30 a_30l a_30c]) ∧
 (Zg0 = Zg0) ∧
 (x3 (IntKind.wrap .i64 (n5 + 1)) n6 n7 n8 n9 n10 n11 n12 a_7 n14 n15 n16 n17 n18 n19 n20 n21 n22 n23 n24 q25 k26 k27 n28 s29 n30 n31 q32 k33 k34 n35 n36 b37 q38 k39 k40 q41 k42 k43 q44 k45 k46 w59 L60) ∧
 Nat.le ((x4 (IntKind.wrap .i64 (n5 + 1)) n6 n7 n8 n9 n10 n11 n12 a_7 n14 n15 n16 n17 n18 n19 n20 n21 n22 n23 n24 q25 k26 k27 n28 s29 n30 n31 q32 k33 k34 n35 n36 b37 q38 k39 k40 q41 k42 k43 q44 k45 k46 w59) + 1) (x4 n5 n6 n7 n8 n9 n10 n11 n12 n13 n14 n15 n16 n17 n18 n19 n20 n21 n22 n23 n24 q25 k26 k27 n28 s29 n30 n31 q32 k33 k34 n35 n36 b37 q38 k39 k40 q41 k42 k43 q44 k45 k46 w47)
 else
 if ((((x50.toNat) : Nat) : Int) == 104) = true then
 ∀ w57 L58, Hid L48 w47 w57 →
 NewL w.heap.size L48 w47 w57 L58 →
 (([.int .u8 a_0, .int .u8 a_1, .int .u8 a_2, .int .u32 a_3, .int .u32 a_4, .int .u32 a_5, .int .u32 a_6, .int .u64 a_7, .int .u64 a_8, .int .u8 a_9, .int .u16 a_10, .int .u32 a_11, .int .u8 a_12, .int .u8 a_13, .int .u8 a_14, .int .u8 a_15, .int .u8 a_16, .int .u8 a_17, .int .u8 a_18, .slice a_19 a_19l a_19c, .int .u8 a_20, .string a_21, .int .u8 a_22, .int .u32 a_23, .slice a_24 a_24l a_24c, .int .u8 a_25, .int .u16 a_26, .bool a_27, .slice a_28 a_28l a_28c, .slice a_29 a_29l a_29c, .slice a_30 a_30l a_30c] : List Value) = [.int .u8 a_0, .int .u8 a_1, .int .u8 a_2, .int .u32 a_3, .int .u32 a_4, .int .u32 a_5, .int .u32 a_6, .int .u64 a_7, .int .u64 a_8, .int .u8 a_9, .int .u16 a_10, .int .u32 a_11, .int .u8 a_12, .int .u8 a_13, .int .u8 a_14, .int .u8 a_15, .int .u8 a_16, .int .u8 a_17, .int .u8 a_18, .slice a_19 a_19l a_19c, .int .u8 a_20, .string a_21, .int .u8 a_22, .int .u32 a_23, .slice a_24 a_24l a_24c, .int .u8 a_25, .int .u16 a_26, .bool a_27, .slice a_28 a_28l a_28c, .slice a_29 a_29l a_29c, .slice a_30 a_30l a_30c]) ∧
 (Zg0 = Zg0) ∧
 (x3 (IntKind.wrap .i64 (n5 + 1)) n6 n7 n8 n9 n10 n11 n12 n13 n14 n15 n16 n17 n18 n19 n20 n21 n22 n23 n24 q25 k26 k27 n28 s29 n30 n31 q32 k33 k34 n35 n36 a_27 q38 k39 k40 q41 k42 k43 q44 k45 k46 w57 L58) ∧
 Nat.le ((x4 (IntKind.wrap .i64 (n5 + 1)) n6 n7 n8 n9 n10 n11 n12 n13 n14 n15 n16 n17 n18 n19 n20 n21 n22 n23 n24 q25 k26 k27 n28 s29 n30 n31 q32 k33 k34 n35 n36 a_27 q38 k39 k40 q41 k42 k43 q44 k45 k46 w57) + 1) (x4 n5 n6 n7 n8 n9 n10 n11 n12 n13 n14 n15 n16 n17 n18 n19 n20 n21 n22 n23 n24 q25 k26 k27 n28 s29 n30 n31 q32 k33 k34 n35 n36 b37 q38 k39 k40 q41 k42 k43 q44 k45 k46 w47)
 else
 if ((((x50.toNat) : Nat) : Int) == 120) = true then
 ∀ w55 L56, Hid L48 w47 w55 →
 NewL w.heap.size L48 w47 w55 L56 →
 (([.int .u8 a_0, .int .u8 a_1, .int .u8 a_2, .int .u32 a_3, .int .u32 a_4, .int .u32 a_5, .int .u32 a_6, .int .u64 a_7, .int .u64 a_8, .int .u8 a_9, .int .u16 a_10, .int .u32 a_11, .int .u8 a_12, .int .u8 a_13, .int .u8 a_14, .int .u8 a_15, .int .u8 a_16, .int .u8 a_17, .int .u8 a_18, .slice a_19 a_19l a_19c, .int .u8 a_20, .string a_21, .int .u8 a_22, .int .u32 a_23, .slice a_24 a_24l a_24c, .int .u8 a_25, .int .u16 a_26, .bool a_27, .slice a_28 a_28l a_28c, .slice a_29 a_29l a_29c, .slice a_30 a_30l a_30c] : List Value) = [.int .u8 a_0, .int .u8 a_1, .int .u8 a_2, .int .u32 a_3, .int .u32 a_4, .int .u32 a_5, .int .u32 a_6, .int .u64 a_7, .int .u64 a_8, .int .u8 a_9, .int .u16 a_10, .int .u32 a_11, .int .u8 a_12, .int .u8 a_13, .int .u8 a_14, .int .u8 a_15, .int .u8 a_16, .int .u8 a_17, .int .u8 a_18, .slice a_19 a_19l a_19c, .int .u8 a_20, .string a_21, .int .u8 a_22, .int .u32 a_23, .slice a_24 a_24l a_24c, .int .u8 a_25, .int .u16 a_26, .bool a_27, .slice a_28 a_28l a_28c, .slice a_29 a_29l a_29c, .slice a_30 a_30l a_30c]) ∧
 (Zg0 = Zg0) ∧
 (x3 (IntKind.wrap .i64 (n5 + 1)) n6 n7 n8 n9 n10 n11 n12 n13 a_8 n15 n16 n17 n18 n19 n20 n21 n22 n23 n24 q25 k26 k27 n28 s29 n30 n31 q32 k33 k34 n35 n36 b37 q38 k39 k40 q41 k42 k43 q44 k45 k46 w55 L56) ∧
 Nat.le ((x4 (IntKind.wrap .i64 (n5 + 1)) n6 n7 n8 n9 n10 n11 n12 n13 a_8 n15 n16 n17 n18 n19 n20 n21 n22 n23 n24 q25 k26 k27 n28 s29 n30 n31 q32 k33 k34 n35 n36 b37 q38 k39 k40 q41 k42 k43 q44 k45 k46 w55) + 1) (x4 n5 n6 n7 n8 n9 n10 n11 n12 n13 n14 n15 n16 n17 n18 n19 n20 n21 n22 n23 n24 q25 k26 k27 n28 s29 n30 n31 q32 k33 k34 n35 n36 b37 q38 k39 k40 q41 k42 k43 q44 k45 k46 w47)
 else
 if ((((x50.toNat) : Nat) : Int) == 109) = true then
 ∀ w53 L54, Hid L48 w47 w53 →
 NewL w.heap.size L48 w47 w53 L54 →
 (([.int .u8 a_0, .int .u8 a_1, .int .u8 a_2, .int .u32 a_3, .int .u32 a_4, .int .u32 a_5, .int .u32 a_6, .int .u64 a_7, .int .u64 a_8, .int .u8 a_9, .int .u16 a_10, .int .u32 a_11, .int .u8 a_12, .int .u8 a_13, .int .u8 a_14, .int .u8 a_15, .int .u8 a_16, .int .u8 a_17, .int .u8 a_18, .slice a_19 a_19l a_19c, .int .u8 a_20, .string a_21, .int .u8 a_22, .int .u32 a_23, .slice a_24 a_24l a_24c, .int .u8 a_25, .int .u16 a_26, .bool a_27, .slice a_28 a_28l a_28c, .slice a_29 a_29l a_29c, .slice a_30 a_30l a_30c] : List Value) = [.int .u8 a_0, .int .u8 a_1, .int .u8 a_2, .int .u32 a_3, .int .u32 a_4, .int .u32 a_5, .int .u32 a_6, .int .u64 a_7, .int .u64 a_8, .int .u8 a_9, .int .u16 a_10, .int .u32 a_11, .int .u8 a_12, .int .u8 a_13, .int .u8 a_14, .int .u8 a_15, .int .u8 a_16, .int .u8 a_17, .int .u8 a_18, .slice a_19 a_19l a_19c, .int .u8 a_20, .string a_21, .int .u8 a_22, .int .u32 a_23, .slice a_24 a_24l a_24c, .int .u8 a_25, .int .u16 a_26, .bool a_27, .slice a_28 a_28l a_28c, .slice a_29 a_29l a_29c, .slice a_30 a_30l a_30c]) ∧
 (Zg0 = Zg0) ∧
 (x3 (IntKind.wrap .i64 (n5 + 1)) n6 n7 n8 n9 n10 n11 n12 n13 n14 n15 n16 n17 n18 n19 n20 n21 n22 n23 n24 q25 k26 k27 n28 s29 n30 n31 q32 k33 k34 n35 n36 b37 a_28 a_28l a_28c q41 k42 k43 a_30 a_30l a_30c w53 L54) ∧
 Nat.le ((x4 (IntKind.wrap .i64 (n5 + 1)) n6 n7 n8 n9 n10 n11 n12 n13 n14 n15 n16 n17 n18 n19 n20 n21 n22 n23 n24 q25 k26 k27 n28 s29 n30 n31 q32 k33 k34 n35 n36 b37 a_28 a_28l a_28c q41 k42 k43 a_30 a_30l a_30c w53) + 1) (x4 n5 n6 n7 n8 n9 n10 n11 n12 n13 n14 n15 n16 n17 n18 n19 n20 n21 n22 n23 n24 q25 k26 k27 n28 s29 n30 n31 q32 k33 k34 n35 n36 b37 q38 k39 k40 q41 k42 k43 q44 k45 k46 w47)
 else
 if ((((x50.toNat) : Nat) : Int) == 115) = true then
 ∀ w51 L52, Hid L48 w47 w51 →
 NewL w.heap.size L48 w47 w51 L52 →
 (([.int .u8 a_0, .int .u8 a_1, .int .u8 a_2, .int .u32 a_3, .int .u32 a_4, .int .u32 a_5, .int .u32 a_6, .int .u64 a_7, .int .u64 a_8, .int .u8 a_9, .int .u16 a_10, .int .u32 a_11, .int .u8 a_12, .int .u8 a_13, .int .u8 a_14, .int .u8 a_15, .int .u8 a_16, .int .u8 a_17, .int .u8 a_18, .slice a_19 a_19l a_19c, .int .u8 a_20, .string a_21, .int .u8 a_22, .int .u32 a_23, .slice a_24 a_24l a_24c, .int .u8 a_25, .int .u16 a_26, .bool a_27, .slice a_28 a_28l a_28c, .slice a_29 a_29l a_29c, .slice a_30 a_30l a_30c] : List Value) = [.int .u8 a_0, .int .u8 a_1, .int .u8 a_2, .int .u32 a_3, .int .u32 a_4, .int .u32 a_5, .int .u32 a_6, .int .u64 a_7, .int .u64 a_8, .int .u8 a_9, .int .u16 a_10, .int .u32 a_11, .int .u8 a_12, .int .u8 a_13, .int .u8 a_14, .int .u8 a_15, .int .u8 a_16, .int .u8 a_17, .int .u8 a_18, .slice a_19 a_19l a_19c, .int .u8 a_20, .string a_21, .int .u8 a_22, .int .u32 a_23, .slice a_24 a_24l a_24c, .int .u8 a_25, .int .u16 a_26, .bool a_27, .slice a_28 a_28l a_28c, .slice a_29 a_29l a_29c, .slice a_30 a_30l a_30c]) ∧
 (Zg0 = Zg0) ∧
 (x3 (IntKind.wrap .i64 (n5 + 1)) n6 n7 n8 n9 n10 n11 n12 n13 n14 n15 n16 n17 n18 n19 n20 n21 n22 n23 n24 q25 k26 k27 n28 s29 n30 n31 q32 k33 k34 a_25 a_26 b37 q38 k39 k40 q41 k42 k43 q44 k45 k46 w51 L52) ∧
 Nat.le ((x4 (IntKind.wrap .i64 (n5 + 1)) n6 n7 n8 n9 n10 n11 n12 n13 n14 n15 n16 n17 n18 n19 n20 n21 n22 n23 n24 q25 k26 k27 n28 s29 n30 n31 q32 k33 k34 a_25 a_26 b37 q38 k39 k40 q41 k42 k43 q44 k45 k46 w51) + 1) (x4 n5 n6 n7 n8 n9 n10 n11 n12 n13 n14 n15 n16 n17 n18 n19 n20 n21 n22 n23 n24 q25 k26 k27 n28 s29 n30 n31 q32 k33 k34 n35 n36 b37 q38 k39 k40 q41 k42 k43 q44 k45 k46 w47)
 else
 (([.int .u8 a_0, .int .u8 a_1, .int .u8 a_2, .int .u32 a_3, .int .u32 a_4, .int .u32 a_5, .int .u32 a_6, .int .u64 a_7, .int .u64 a_8, .int .u8 a_9, .int .u16 a_10, .int .u32 a_11, .int .u8 a_12, .int .u8 a_13, .int .u8 a_14, .int .u8 a_15, .int .u8 a_16, .int .u8 a_17, .int .u8 a_18, .slice a_19 a_19l a_19c, .int .u8 a_20, .string a_21, .int .u8 a_22, .int .u32 a_23, .slice a_24 a_24l a_24c, .int .u8 a_25, .int .u16 a_26, .bool a_27, .slice a_28 a_28l a_28c, .slice a_29 a_29l a_29c, .slice a_30 a_30l a_30c] : List Value) = [.int .u8 a_0, .int .u8 a_1, .int .u8 a_2, .int .u32 a_3, .int .u32 a_4, .int .u32 a_5, .int .u32 a_6, .int .u64 a_7, .int .u64 a_8, .int .u8 a_9, .int .u16 a_10, .int .u32 a_11, .int .u8 a_12, .int .u8 a_13, .int .u8 a_14, .int .u8 a_15, .int .u8 a_16, .int .u8 a_17, .int .u8 a_18, .slice a_19 a_19l a_19c, .int .u8 a_20, .string a_21, .int .u8 a_22, .int .u32 a_23, .slice a_24 a_24l a_24c, .int .u8 a_25, .int .u16 a_26, .bool a_27, .slice a_28 a_28l a_28c, .slice a_29 a_29l a_29c, .slice a_30 a_30l a_30c]) ∧
 (Zg0 = Zg0) ∧
 (x3 (IntKind.wrap .i64 (n5 + 1)) n6 n7 n8 n9 n10 n11 n12 n13 n14 n15 n16 n17 n18 n19 n20 n21 n22 n23 n24 q25 k26 k27 n28 s29 n30 n31 q32 k33 k34 n35 n36 b37 q38 k39 k40 q41 k42 k43 q44 k45 k46 w47 L48) ∧
 Nat.le ((x4 (IntKind.wrap .i64 (n5 + 1)) n6 n7 n8 n9 n10 n11 n12 n13 n14 n15 n16 n17 n18 n19 n20 n21 n22 n23 n24 q25 k26 k27 n28 s29 n30 n31 q32 k33 k34 n35 n36 b37 q38 k39 k40 q41 k42 k43 q44 k45 k46 w47) + 1) (x4 n5 n6 n7 n8 n9 n10 n11 n12 n13 n14 n15 n16 n17 n18 n19 n20 n21 n22 n23 n24 q25 k26 k27 n28 s29 n30 n31 q32 k33 k34 n35 n36 b37 q38 k39 k40 q41 k42 k43 q44 k45 k46 w47)
 else
 ∀ w49, Hid L48 w47 w49 →
 R (.returned (MgW n6 n7 n8 n9 n10 n11 n12 n13 n14 n15 n16 n17 n18 n19 n20 n21 n22 n23 n24 q25 k26 k27 n28 s29 n30 n31 q32 k33 k34 n35 n36 b37 q38 k39 k40 q41 k42 k43 q44 k45 k46)) w49) :
 Calls Tryz.prog 72 #[.agg #[.int .u8 a_0, .int .u8 a_1, .int .u8 a_2, .int .u32 a_3, .int .u32 a_4, .int .u32 a_5, .int .u32 a_6, .int .u64 a_7, .int .u64 a_8, .int .u8 a_9, .int .u16 a_10, .int .u32 a_11, .int .u8 a_12, .int .u8 a_13, .int .u8 a_14, .int .u8 a_15, .int .u8 a_16, .int .u8 a_17, .int .u8 a_18, .slice a_19 a_19l a_19c, .int .u8 a_20, .string a_21, .int .u8 a_22, .int .u32 a_23, .slice a_24 a_24l a_24c, .int .u8 a_25, .int .u16 a_26, .bool a_27, .slice a_28 a_28l a_28c, .slice a_29 a_29l a_29c, .slice a_30 a_30l a_30c], .string b] w R :=
 calls_of { isLoc := [2, 4, 5], sym := [18], loops := [(3, .inv [(6, .int .i64)] [(5, [.int .u8, .int .u8, .int .u8, .int .u32, .int .u32, .int .u32, .int .u32, .int .u64, .int .u64, .int .u8, .int .u16, .int .u32, .int .u8, .int .u8, .int .u8, .int .u8, .int .u8, .int .u8, .int .u8, .slice, .int .u8, .str, .int .u8, .int .u32, .slice, .int .u8, .int .u16, .bool, .slice, .slice, .slice])] true)], joins := [] } Tryz.func72 (by kernel_rfl) h
end Go.Proofs
/- The verification conditions of this seat's functions, as the engine has them: printed by a program of the bench; checked by the kernel. -/
namespace Go.Proofs
open Go X
theorem x_WB (a : Addr) (b : Int) (w : World) (R : Ending → World → Prop) (h :
 ∃ q1 k2 k3, (World.cell? w (a.add 0) = some (.slice q1 k2 k3)) ∧
 ∃ q4 k5 k6 w7, (Sem.run Tryz.prog (Go.Builtin.append_ #[41, 41] 41 #[.slice q1 k2 k3, .slice (some ⟨w.heap.size, 0, none⟩) 1 1]) (w.alloc (.cells #[.int .u8 b] 5)) = .ok (.slice q4 k5 k6) w7) ∧
 (((w.alloc (.cells #[.int .u8 b] 5))).heap.size ≤ w7.heap.size) ∧
 (((a.add 0).spot) = none) ∧
 w7.there ((a.add 0).block) ((a.add 0).off) 1 ∧
 R (.returned (.tuple #[])) (w7.setCells ((a.add 0).block) ((a.add 0).off) [.slice q4 k5 k6])) :
 Calls Tryz.prog 20 #[.pointer (some a), .int .u8 b] w R :=
 calls_of { isLoc := [], sym := [], loops := [], joins := [] } Tryz.func20 (by kernel_rfl) h
theorem x_WU (a : Addr) (b : Int) (w : World) (R : Ending → World → Prop) (h :
 ∃ x1 : Int → World → List Nat → Prop, ∃ x2 : Int → World → Nat, (x1 b w []) ∧
 ∀ n3 w4 L5, (LF w.heap.size w4 L5) →
 (x1 n3 w4 L5) →
 if (decide (n3 ≥ 128)) = true then
 ∃ q13 k14 k15, (w4.cell? (a.add 0) = some (.slice q13 k14 k15)) ∧
 ∃ q16 k17 k18 w19, (Sem.run Tryz.prog (Go.Builtin.append_ #[41, 41] 41 #[.slice q13 k14 k15, .slice (some ⟨w4.heap.size, 0, none⟩) 1 1]) (w4.alloc (.cells #[(.int .u8 (IntKind.wrap .u8 ((((BitVec.ofInt 8 (IntKind.u8.wrap n3) ||| BitVec.ofInt 8 128).toNat) : Nat) : Int)))] 5)) = .ok (.slice q16 k17 k18) w19) ∧
 (((w4.alloc (.cells #[(.int .u8 (IntKind.wrap .u8 ((((BitVec.ofInt 8 (IntKind.u8.wrap n3) ||| BitVec.ofInt 8 128).toNat) : Nat) : Int)))] 5))).heap.size ≤ w19.heap.size) ∧
 (((a.add 0).spot) = none) ∧
 w19.there ((a.add 0).block) ((a.add 0).off) 1 ∧
 (x1 (n3.fdiv 128) (w19.setCells ((a.add 0).block) ((a.add 0).off) [.slice q16 k17 k18]) []) ∧
 Nat.le ((x2 (n3.fdiv 128) (w19.setCells ((a.add 0).block) ((a.add 0).off) [.slice q16 k17 k18])) + 1) (x2 n3 w4)
 else
 ∃ q6 k7 k8, (w4.cell? (a.add 0) = some (.slice q6 k7 k8)) ∧
 ∃ q9 k10 k11 w12, (Sem.run Tryz.prog (Go.Builtin.append_ #[41, 41] 41 #[.slice q6 k7 k8, .slice (some ⟨w4.heap.size, 0, none⟩) 1 1]) (w4.alloc (.cells #[.int .u8 (IntKind.wrap .u8 n3)] 5)) = .ok (.slice q9 k10 k11) w12) ∧
 (((w4.alloc (.cells #[.int .u8 (IntKind.wrap .u8 n3)] 5))).heap.size ≤ w12.heap.size) ∧
 (((a.add 0).spot) = none) ∧
 w12.there ((a.add 0).block) ((a.add 0).off) 1 ∧
 R (.returned (.tuple #[])) (w12.setCells ((a.add 0).block) ((a.add 0).off) [.slice q9 k10 k11])) :
 Calls Tryz.prog 60 #[.pointer (some a), .int .u64 b] w R :=
 calls_of { isLoc := [], sym := [], loops := [(1, .inv [(1, .int .u64)] [] true)], joins := [] } Tryz.func60 (by kernel_rfl) h
theorem x_WText (a : Addr) (b : ByteArray) (w : World) (R : Ending → World → Prop) (h :
 CallX Tryz.prog 60 #[.pointer (some a), (.int .u64 (IntKind.wrap .u64 (((b.size) : Nat) : Int)))] w fun e1 w2 =>
 (e1 = .returned (.tuple #[])) ∧
 (w.heap.size ≤ w2.heap.size) ∧
 ∃ q3 k4 k5, (w2.cell? (a.add 0) = some (.slice q3 k4 k5)) ∧
 ∃ q6 k7 k8 w9, (Sem.run Tryz.prog (Go.Builtin.append_ #[41, 9] 41 #[.slice q3 k4 k5, .string b]) w2 = .ok (.slice q6 k7 k8) w9) ∧
 w2.heap.size ≤ w9.heap.size ∧
 (((a.add 0).spot) = none) ∧
 w9.there ((a.add 0).block) ((a.add 0).off) 1 ∧
 R (.returned (.tuple #[])) (w9.setCells ((a.add 0).block) ((a.add 0).off) [.slice q6 k7 k8])) :
 Calls Tryz.prog 120 #[.pointer (some a), .string b] w R :=
 calls_of { isLoc := [], sym := [], loops := [], joins := [] } Tryz.func120 (by kernel_rfl) h
theorem x_WBytes (a : Addr) (w : World) (R : Ending → World → Prop) (h :
 ∃ q1 k2 k3, (World.cell? w (a.add 0) = some (.slice q1 k2 k3)) ∧
 ∃ q4 k5 k6 w7, (Sem.run Tryz.prog (Go.Builtin.append_ #[41, 41] 41 #[.slice none 0 0, .slice q1 k2 k3]) w = .ok (.slice q4 k5 k6) w7) ∧
 (w.heap.size ≤ w7.heap.size) ∧
 R (.returned (.slice q4 k5 k6)) w7) :
 Calls Tryz.prog 22 #[.pointer (some a)] w R :=
 calls_of { isLoc := [], sym := [], loops := [], joins := [] } Tryz.func22 (by kernel_rfl) h
theorem x_Wflag (a : Addr) (b : Bool) (w : World) (R : Ending → World → Prop) (h :
 if b = true then
 CallX Tryz.prog 20 #[(.pointer (some (a.add 0))), .int .u8 1] w fun e3 w4 =>
 (e3 = .returned (.tuple #[])) ∧
 (w.heap.size ≤ w4.heap.size) ∧
 R (.returned (.tuple #[])) w4
 else
 CallX Tryz.prog 20 #[(.pointer (some (a.add 0))), .int .u8 0] w fun e1 w2 =>
 (e1 = .returned (.tuple #[])) ∧
 (w.heap.size ≤ w2.heap.size) ∧
 R (.returned (.tuple #[])) w2) :
 Calls Tryz.prog 66 #[.pointer (some a), .bool b] w R :=
 calls_of { isLoc := [], sym := [], loops := [], joins := [] } Tryz.func66 (by kernel_rfl) h
theorem x_Wround (a : Addr) (b_0 b_1 b_2 b_3 b_4 b_5 b_6 b_7 b_8 b_9 b_10 b_11 b_12 b_13 b_14 b_15 b_16 b_17 b_18 : Int) (b_19 : Option Addr) (b_19l b_19c : Nat) (b_20 : Int) (b_21 : ByteArray) (b_22 b_23 : Int) (b_24 : Option Addr) (b_24l b_24c : Nat) (b_25 b_26 : Int) (b_27 : Bool) (b_28 : Option Addr) (b_28l b_28c : Nat) (b_29 : Option Addr) (b_29l b_29c : Nat) (b_30 : Option Addr) (b_30l b_30c : Nat) (w : World) (R : Ending → World → Prop) (h :
 ∃ x1, (FactsW x1 w []) ∧
 ∀ w2 L3, Hid [] w w2 →
 NewL w.heap.size [] w w2 L3 →
 CallX Tryz.prog 20 #[(.pointer (some (a.add 0))), .int .u8 b_1] w2 fun e4 w5 =>
 (e4 = .returned (.tuple #[])) ∧
 Kept L3 w2 w5 ∧
 ∃ x6, (FactsW x6 w5 L3) ∧
 ∀ w7 L8, Hid L3 w5 w7 →
 NewL w.heap.size L3 w5 w7 L8 →
 CallX Tryz.prog 60 #[(.pointer (some (a.add 0))), .int .u64 (IntKind.wrap .u64 b_3)] w7 fun e9 w10 =>
 (e9 = .returned (.tuple #[])) ∧
 Kept L8 w7 w10 ∧
 FactsW x6 w10 L8 ∧
 ∃ x11, (FactsW x11 w10 L8) ∧
 ∀ w12 L13, Hid L8 w10 w12 →
 NewL w.heap.size L8 w10 w12 L13 →
 CallX Tryz.prog 60 #[(.pointer (some (a.add 0))), .int .u64 b_7] w12 fun e14 w15 =>
 (e14 = .returned (.tuple #[])) ∧
 Kept L13 w12 w15 ∧
 R (.returned (.tuple #[])) w15) :
 Calls Tryz.prog 65 #[.pointer (some a), .agg #[.int .u8 b_0, .int .u8 b_1, .int .u8 b_2, .int .u32 b_3, .int .u32 b_4, .int .u32 b_5, .int .u32 b_6, .int .u64 b_7, .int .u64 b_8, .int .u8 b_9, .int .u16 b_10, .int .u32 b_11, .int .u8 b_12, .int .u8 b_13, .int .u8 b_14, .int .u8 b_15, .int .u8 b_16, .int .u8 b_17, .int .u8 b_18, .slice b_19 b_19l b_19c, .int .u8 b_20, .string b_21, .int .u8 b_22, .int .u32 b_23, .slice b_24 b_24l b_24c, .int .u8 b_25, .int .u16 b_26, .bool b_27, .slice b_28 b_28l b_28c, .slice b_29 b_29l b_29c, .slice b_30 b_30l b_30c]] w R :=
 calls_of { isLoc := [3], sym := [], loops := [], joins := [] } Tryz.func65 (by kernel_rfl) h
theorem x_PutProc (a : Addr) (b_0 b_1 : Int) (w : World) (R : Ending → World → Prop) (h :
 ∀ w1 L2, Hid [] w w1 →
 NewL w.heap.size [] w w1 L2 →
 CallX Tryz.prog 20 #[.pointer (some a), .int .u8 b_0] w1 fun e3 w4 =>
 (e3 = .returned (.tuple #[])) ∧
 Kept L2 w1 w4 ∧
 CallX Tryz.prog 60 #[.pointer (some a), .int .u64 (IntKind.wrap .u64 b_1)] w4 fun e5 w6 =>
 (e5 = .returned (.tuple #[])) ∧
 Kept L2 w4 w6 ∧
 R (.returned (.tuple #[])) w6) :
 Calls Tryz.prog 68 #[.pointer (some a), .agg #[.int .u8 b_0, .int .u16 b_1]] w R :=
 calls_of { isLoc := [3], sym := [], loops := [], joins := [] } Tryz.func68 (by kernel_rfl) h
theorem x_Bytes (a_0 a_1 a_2 a_3 a_4 a_5 a_6 a_7 a_8 a_9 a_10 a_11 a_12 a_13 a_14 a_15 a_16 a_17 a_18 : Int) (a_19 : Option Addr) (a_19l a_19c : Nat) (a_20 : Int) (a_21 : ByteArray) (a_22 a_23 : Int) (a_24 : Option Addr) (a_24l a_24c : Nat) (a_25 a_26 : Int) (a_27 : Bool) (a_28 : Option Addr) (a_28l a_28c : Nat) (a_29 : Option Addr) (a_29l a_29c : Nat) (a_30 : Option Addr) (a_30l a_30c : Nat) (w : World) (R : Ending → World → Prop) (h :
 ∀ w1 L2, Hid [] w w1 →
 NewL w.heap.size [] w w1 L2 →
 CallX Tryz.prog 19 #[(MgW a_0 a_1 a_2 a_3 a_4 a_5 a_6 a_7 a_8 a_9 a_10 a_11 a_12 a_13 a_14 a_15 a_16 a_17 a_18 a_19 a_19l a_19c a_20 a_21 a_22 a_23 a_24 a_24l a_24c a_25 a_26 a_27 a_28 a_28l a_28c a_29 a_29l a_29c a_30 a_30l a_30c)] w1 fun e3 w4 =>
 ∃ b5, e3 = .returned (.bool b5) ∧
 Kept L2 w1 w4 ∧
 if (!b5) = true then
 R (.returned (.tuple #[.slice none 0 0, .int .i64 1])) w4
 else
 ∃ x6, (FactsW x6 (w4.alloc (.cells #[.slice none 0 0] 79)) L2) ∧
 ∀ w7 L8, (Hid L2 (w4.alloc (.cells #[.slice none 0 0] 79)) w7) →
 (NewL w.heap.size L2 (w4.alloc (.cells #[.slice none 0 0] 79)) w7 L8) →
 CallX Tryz.prog 20 #[.pointer (some ⟨w4.heap.size, 0, none⟩), .int .u8 a_0] w7 fun e9 w10 =>
 (e9 = .returned (.tuple #[])) ∧
 Kept L8 w7 w10 ∧
 CallX Tryz.prog 21 #[.pointer (some ⟨w4.heap.size, 0, none⟩), (MgW a_0 a_1 a_2 a_3 a_4 a_5 a_6 a_7 a_8 a_9 a_10 a_11 a_12 a_13 a_14 a_15 a_16 a_17 a_18 a_19 a_19l a_19c a_20 a_21 a_22 a_23 a_24 a_24l a_24c a_25 a_26 a_27 a_28 a_28l a_28c a_29 a_29l a_29c a_30 a_30l a_30c)] w10 fun e11 w12 =>
 (e11 = .returned (.tuple #[])) ∧
 Kept L8 w10 w12 ∧
 CallX Tryz.prog 22 #[.pointer (some ⟨w4.heap.size, 0, none⟩)] w12 fun e13 w14 =>
 ∃ q15 k16 k17, e13 = .returned (.slice q15 k16 k17) ∧
 Kept L8 w12 w14 ∧
 R (.returned (.tuple #[.slice q15 k16 k17, .int .i64 0])) w14) :
 Calls Tryz.prog 7 #[.agg #[.int .u8 a_0, .int .u8 a_1, .int .u8 a_2, .int .u32 a_3, .int .u32 a_4, .int .u32 a_5, .int .u32 a_6, .int .u64 a_7, .int .u64 a_8, .int .u8 a_9, .int .u16 a_10, .int .u32 a_11, .int .u8 a_12, .int .u8 a_13, .int .u8 a_14, .int .u8 a_15, .int .u8 a_16, .int .u8 a_17, .int .u8 a_18, .slice a_19 a_19l a_19c, .int .u8 a_20, .string a_21, .int .u8 a_22, .int .u32 a_23, .slice a_24 a_24l a_24c, .int .u8 a_25, .int .u16 a_26, .bool a_27, .slice a_28 a_28l a_28c, .slice a_29 a_29l a_29c, .slice a_30 a_30l a_30c]] w R :=
 calls_of { isLoc := [1], sym := [], loops := [], joins := [] } Tryz.func7 (by kernel_rfl) h
theorem x_knows  (w : World) (R : Ending → World → Prop) (h :
 CallX Tryz.prog 7 #[(MgW 6 1 0 2 0 0 0 300 0 0 0 0 0 0 0 0 0 0 0 none 0 0 0 (ByteArray.mk #[]) 0 0 none 0 0 0 0 false none 0 0 none 0 0 none 0 0)] w fun e1 w2 =>
 ∃ q3 k4 k5 n6, e1 = .returned (.tuple #[.slice q3 k4 k5, .int .i64 n6]) ∧
 (w.heap.size ≤ w2.heap.size) ∧
 CallX Tryz.prog 12 #[.int .i64 n6] w2 fun e7 w8 =>
 ∃ n9, e7 = .returned (.int .i64 n9) ∧
 w2.heap.size ≤ w8.heap.size ∧
 if ((n9 == 0) == true) = true then
 ∃ s10 w11, (Sem.run Tryz.prog (Go.convert 41 9 (.slice q3 k4 k5)) w8 = .ok (.string s10) w11) ∧
 w8.heap.size ≤ w11.heap.size ∧
 if ((true && ((s10.toList) == ((ByteArray.mk #[OfNat.ofNat 6, OfNat.ofNat 1, OfNat.ofNat 2, OfNat.ofNat 172, OfNat.ofNat 2]).toList))) == true) = true then
 CallX Tryz.prog 18 #[.int .u8 6] w11 fun e12 w13 =>
 ∃ s14, e12 = .returned (.string s14) ∧
 w11.heap.size ≤ w13.heap.size ∧
 R (.returned (.bool (true && ((s14.toList) == ((ByteArray.mk #[OfNat.ofNat 65, OfNat.ofNat 99, OfNat.ofNat 99, OfNat.ofNat 101, OfNat.ofNat 112, OfNat.ofNat 116]).toList))))) w13
 else
 R (.returned (.bool false)) w11
 else
 R (.returned (.bool false)) w8) :
 Calls Tryz.prog 6 #[] w R :=
 calls_of { isLoc := [], sym := [], loops := [], joins := [] } Tryz.func6 (by kernel_rfl) h
theorem x_num (a : Int) (w : World) (R : Ending → World → Prop) (h :
 R (.returned (.int .i64 a)) w) :
 Calls Tryz.prog 12 #[.int .i64 a] w R :=
 calls_of { isLoc := [], sym := [], loops := [], joins := [] } Tryz.func12 (by kernel_rfl) h
end Go.Proofs
/- The verification conditions of this seat's functions, as the engine has them: printed by a program of the bench; checked by the kernel. -/
namespace Go.Proofs
open Go X
theorem x_Wmsg (a : Addr) (b_0 b_1 b_2 b_3 b_4 b_5 b_6 b_7 b_8 b_9 b_10 b_11 b_12 b_13 b_14 b_15 b_16 b_17 b_18 : Int) (b_19 : Option Addr) (b_19l b_19c : Nat) (b_20 : Int) (b_21 : ByteArray) (b_22 b_23 : Int) (b_24 : Option Addr) (b_24l b_24c : Nat) (b_25 b_26 : Int) (b_27 : Bool) (b_28 : Option Addr) (b_28l b_28c : Nat) (b_29 : Option Addr) (b_29l b_29c : Nat) (b_30 : Option Addr) (b_30l b_30c : Nat) (w : World) (R : Ending → World → Prop) (h :
 if (b_0 == 0) = true then
 ∃ x502, (FactsW x502 w []) ∧
 ∀ w503 L504, Hid [] w w503 →
 NewL w.heap.size [] w w503 L504 →
 CallX Tryz.prog 20 #[(.pointer (some (a.add 0))), .int .u8 b_1] w503 fun e505 w506 =>
 (e505 = .returned (.tuple #[])) ∧
 Kept L504 w503 w506 ∧
 ∃ x507, (FactsW x507 w506 L504) ∧
 ∀ w508 L509, Hid L504 w506 w508 →
 NewL w.heap.size L504 w506 w508 L509 →
 CallX Tryz.prog 59 #[(.pointer (some (a.add 0))), (IdW b_9 b_10 b_11 b_12 b_13 b_14 b_15 b_16 b_17 b_18)] w508 fun e510 w511 =>
 (e510 = .returned (.tuple #[])) ∧
 Kept L509 w508 w511 ∧
 ∃ x512, (FactsW x512 w511 L509) ∧
 ∀ w513 L514, Hid L509 w511 w513 →
 NewL w.heap.size L509 w511 w513 L514 →
 CallX Tryz.prog 60 #[(.pointer (some (a.add 0))), .int .u64 (IntKind.wrap .u64 b_6)] w513 fun e515 w516 =>
 (e515 = .returned (.tuple #[])) ∧
 Kept L514 w513 w516 ∧
 FactsW x512 w516 L514 ∧
 ∃ x517, (FactsW x517 w516 L514) ∧
 ∀ w518 L519, Hid L514 w516 w518 →
 NewL w.heap.size L514 w516 w518 L519 →
 CallX Tryz.prog 61 #[(.pointer (some (a.add 0))), .slice b_19 b_19l b_19c] w518 fun e520 w521 =>
 (e520 = .returned (.tuple #[])) ∧
 Kept L519 w518 w521 ∧
 R (.returned (.tuple #[])) w521
 else
 if (b_0 == 1) = true then
 ∃ x487, (FactsW x487 w []) ∧
 ∀ w488 L489, Hid [] w w488 →
 NewL w.heap.size [] w w488 L489 →
 CallX Tryz.prog 59 #[(.pointer (some (a.add 0))), (IdW b_9 b_10 b_11 b_12 b_13 b_14 b_15 b_16 b_17 b_18)] w488 fun e490 w491 =>
 (e490 = .returned (.tuple #[])) ∧
 Kept L489 w488 w491 ∧
 ∃ x492, (FactsW x492 w491 L489) ∧
 ∀ w493 L494, Hid L489 w491 w493 →
 NewL w.heap.size L489 w491 w493 L494 →
 CallX Tryz.prog 62 #[(.pointer (some (a.add 0))), (.agg #[.int .u8 b_20, .string b_21])] w493 fun e495 w496 =>
 (e495 = .returned (.tuple #[])) ∧
 Kept L494 w493 w496 ∧
 ∃ x497, (FactsW x497 w496 L494) ∧
 ∀ w498 L499, Hid L494 w496 w498 →
 NewL w.heap.size L494 w496 w498 L499 →
 CallX Tryz.prog 63 #[(.pointer (some (a.add 0))), (.agg #[.int .u8 b_22, .int .u32 b_23, .slice b_24 b_24l b_24c])] w498 fun e500 w501 =>
 (e500 = .returned (.tuple #[])) ∧
 Kept L499 w498 w501 ∧
 R (.returned (.tuple #[])) w501
 else
 if (b_0 == 2) = true then
 ∃ x477, (FactsW x477 w []) ∧
 ∀ w478 L479, Hid [] w w478 →
 NewL w.heap.size [] w w478 L479 →
 CallX Tryz.prog 59 #[(.pointer (some (a.add 0))), (IdW b_9 b_10 b_11 b_12 b_13 b_14 b_15 b_16 b_17 b_18)] w478 fun e480 w481 =>
 (e480 = .returned (.tuple #[])) ∧
 Kept L479 w478 w481 ∧
 ∃ x482, (FactsW x482 w481 L479) ∧
 ∀ w483 L484, Hid L479 w481 w483 →
 NewL w.heap.size L479 w481 w483 L484 →
 CallX Tryz.prog 20 #[(.pointer (some (a.add 0))), .int .u8 b_2] w483 fun e485 w486 =>
 (e485 = .returned (.tuple #[])) ∧
 Kept L484 w483 w486 ∧
 R (.returned (.tuple #[])) w486
 else
 if (b_0 == 3) = true then
 if (b_0 == 3) = true then
 ∃ x452, (FactsW x452 w []) ∧
 ∀ w453 L454, Hid [] w w453 →
 NewL w.heap.size [] w w453 L454 →
 CallX Tryz.prog 20 #[(.pointer (some (a.add 0))), .int .u8 b_1] w453 fun e455 w456 =>
 (e455 = .returned (.tuple #[])) ∧
 Kept L454 w453 w456 ∧
 ∃ x457, (FactsW x457 w456 L454) ∧
 ∀ w458 L459, Hid L454 w456 w458 →
 NewL w.heap.size L454 w456 w458 L459 →
 CallX Tryz.prog 60 #[(.pointer (some (a.add 0))), .int .u64 (IntKind.wrap .u64 b_3)] w458 fun e460 w461 =>
 (e460 = .returned (.tuple #[])) ∧
 Kept L459 w458 w461 ∧
 FactsW x457 w461 L459 ∧
 ∃ x462, (FactsW x462 w461 L459) ∧
 ∀ w463 L464, Hid L459 w461 w463 →
 NewL w.heap.size L459 w461 w463 L464 →
 CallX Tryz.prog 60 #[(.pointer (some (a.add 0))), .int .u64 (IntKind.wrap .u64 b_4)] w463 fun e465 w466 =>
 (e465 = .returned (.tuple #[])) ∧
 Kept L464 w463 w466 ∧
 FactsW x462 w466 L464 ∧
 if (b_0 == 3) = true then
 ∃ x467, (FactsW x467 w466 L464) ∧
 ∀ w468 L469, Hid L464 w466 w468 →
 NewL w.heap.size L464 w466 w468 L469 →
 CallX Tryz.prog 60 #[(.pointer (some (a.add 0))), .int .u64 (IntKind.wrap .u64 b_5)] w468 fun e470 w471 =>
 (e470 = .returned (.tuple #[])) ∧
 Kept L469 w468 w471 ∧
 FactsW x467 w471 L469 ∧
 ∃ x472, (FactsW x472 w471 L469) ∧
 ∀ w473 L474, Hid L469 w471 w473 →
 NewL w.heap.size L469 w471 w473 L474 →
 CallX Tryz.prog 64 #[(.pointer (some (a.add 0))), .slice b_29 b_29l b_29c] w473 fun e475 w476 =>
 (e475 = .returned (.tuple #[])) ∧
 Kept L474 w473 w476 ∧
 R (.returned (.tuple #[])) w476
 else
 R (.returned (.tuple #[])) w466
 else
 if (b_0 == 5) = true then
 if (b_0 == 5) = true then
 ∀ w448 L449, Hid [] w w448 →
 NewL w.heap.size [] w w448 L449 →
 CallX Tryz.prog 65 #[.pointer (some a), (MgW b_0 b_1 b_2 b_3 b_4 b_5 b_6 b_7 b_8 b_9 b_10 b_11 b_12 b_13 b_14 b_15 b_16 b_17 b_18 b_19 b_19l b_19c b_20 b_21 b_22 b_23 b_24 b_24l b_24c b_25 b_26 b_27 b_28 b_28l b_28c b_29 b_29l b_29c b_30 b_30l b_30c)] w448 fun e450 w451 =>
 (e450 = .returned (.tuple #[])) ∧
 Kept L449 w448 w451 ∧
 R (.returned (.tuple #[])) w451
 else
 if (b_0 == 8) = true then
 ∀ w430 L431, Hid [] w w430 →
 NewL w.heap.size [] w w430 L431 →
 CallX Tryz.prog 65 #[.pointer (some a), (MgW b_0 b_1 b_2 b_3 b_4 b_5 b_6 b_7 b_8 b_9 b_10 b_11 b_12 b_13 b_14 b_15 b_16 b_17 b_18 b_19 b_19l b_19c b_20 b_21 b_22 b_23 b_24 b_24l b_24c b_25 b_26 b_27 b_28 b_28l b_28c b_29 b_29l b_29c b_30 b_30l b_30c)] w430 fun e432 w433 =>
 (e432 = .returned (.tuple #[])) ∧
 Kept L431 w430 w433 ∧
 ∃ x434, (FactsW x434 w433 L431) ∧
 ∀ w435 L436, Hid L431 w433 w435 →
 NewL w.heap.size L431 w433 w435 L436 →
 CallX Tryz.prog 64 #[(.pointer (some (a.add 0))), .slice b_29 b_29l b_29c] w435 fun e437 w438 =>
 (e437 = .returned (.tuple #[])) ∧
 Kept L436 w435 w438 ∧
 CallX Tryz.prog 66 #[.pointer (some a), .bool b_27] w438 fun e439 w440 =>
 (e439 = .returned (.tuple #[])) ∧
 Kept L436 w438 w440 ∧
 if b_27 = true then
 ∃ x441, (FactsW x441 w440 L436) ∧
 ∀ w442 L443, Hid L436 w440 w442 →
 NewL w.heap.size L436 w440 w442 L443 →
 CallX Tryz.prog 60 #[(.pointer (some (a.add 0))), .int .u64 b_8] w442 fun e444 w445 =>
 (e444 = .returned (.tuple #[])) ∧
 Kept L443 w442 w445 ∧
 CallX Tryz.prog 67 #[.pointer (some a), (MgW b_0 b_1 b_2 b_3 b_4 b_5 b_6 b_7 b_8 b_9 b_10 b_11 b_12 b_13 b_14 b_15 b_16 b_17 b_18 b_19 b_19l b_19c b_20 b_21 b_22 b_23 b_24 b_24l b_24c b_25 b_26 b_27 b_28 b_28l b_28c b_29 b_29l b_29c b_30 b_30l b_30c)] w445 fun e446 w447 =>
 (e446 = .returned (.tuple #[])) ∧
 Kept L443 w445 w447 ∧
 R (.returned (.tuple #[])) w447
 else
 R (.returned (.tuple #[])) w440
 else
 if (b_0 == 9) = true then
 ∀ w424 L425, Hid [] w w424 →
 NewL w.heap.size [] w w424 L425 →
 CallX Tryz.prog 65 #[.pointer (some a), (MgW b_0 b_1 b_2 b_3 b_4 b_5 b_6 b_7 b_8 b_9 b_10 b_11 b_12 b_13 b_14 b_15 b_16 b_17 b_18 b_19 b_19l b_19c b_20 b_21 b_22 b_23 b_24 b_24l b_24c b_25 b_26 b_27 b_28 b_28l b_28c b_29 b_29l b_29c b_30 b_30l b_30c)] w424 fun e426 w427 =>
 (e426 = .returned (.tuple #[])) ∧
 Kept L425 w424 w427 ∧
 CallX Tryz.prog 67 #[.pointer (some a), (MgW b_0 b_1 b_2 b_3 b_4 b_5 b_6 b_7 b_8 b_9 b_10 b_11 b_12 b_13 b_14 b_15 b_16 b_17 b_18 b_19 b_19l b_19c b_20 b_21 b_22 b_23 b_24 b_24l b_24c b_25 b_26 b_27 b_28 b_28l b_28c b_29 b_29l b_29c b_30 b_30l b_30c)] w427 fun e428 w429 =>
 (e428 = .returned (.tuple #[])) ∧
 Kept L425 w427 w429 ∧
 R (.returned (.tuple #[])) w429
 else
 if (b_0 == 10) = true then
 ∃ x414, (FactsW x414 w []) ∧
 ∀ w415 L416, Hid [] w w415 →
 NewL w.heap.size [] w w415 L416 →
 CallX Tryz.prog 63 #[(.pointer (some (a.add 0))), (.agg #[.int .u8 b_22, .int .u32 b_23, .slice b_24 b_24l b_24c])] w415 fun e417 w418 =>
 (e417 = .returned (.tuple #[])) ∧
 Kept L416 w415 w418 ∧
 ∃ x419, (FactsW x419 w418 L416) ∧
 ∀ w420 L421, Hid L416 w418 w420 →
 NewL w.heap.size L416 w418 w420 L421 →
 CallX Tryz.prog 64 #[(.pointer (some (a.add 0))), .slice b_29 b_29l b_29c] w420 fun e422 w423 =>
 (e422 = .returned (.tuple #[])) ∧
 Kept L421 w420 w423 ∧
 R (.returned (.tuple #[])) w423
 else
 if (b_0 == 11) = true then
 if (b_0 == 11) = true then
 ∃ x404, (FactsW x404 w []) ∧
 ∀ w405 L406, Hid [] w w405 →
 NewL w.heap.size [] w w405 L406 →
 CallX Tryz.prog 20 #[(.pointer (some (a.add 0))), .int .u8 b_1] w405 fun e407 w408 =>
 (e407 = .returned (.tuple #[])) ∧
 Kept L406 w405 w408 ∧
 ∃ x409, (FactsW x409 w408 L406) ∧
 ∀ w410 L411, Hid L406 w408 w410 →
 NewL w.heap.size L406 w408 w410 L411 →
 CallX Tryz.prog 68 #[(.pointer (some (a.add 0))), (.agg #[.int .u8 b_25, .int .u16 b_26])] w410 fun e412 w413 =>
 (e412 = .returned (.tuple #[])) ∧
 Kept L411 w410 w413 ∧
 R (.returned (.tuple #[])) w413
 else
 ∀ w403, Hid [] w w403 →
 R (.returned (.tuple #[])) w403
 else
 if (b_0 == 12) = true then
 if (b_0 == 12) = true then
 ∃ x393, (FactsW x393 w []) ∧
 ∀ w394 L395, Hid [] w w394 →
 NewL w.heap.size [] w w394 L395 →
 CallX Tryz.prog 20 #[(.pointer (some (a.add 0))), .int .u8 b_1] w394 fun e396 w397 =>
 (e396 = .returned (.tuple #[])) ∧
 Kept L395 w394 w397 ∧
 ∃ x398, (FactsW x398 w397 L395) ∧
 ∀ w399 L400, Hid L395 w397 w399 →
 NewL w.heap.size L395 w397 w399 L400 →
 CallX Tryz.prog 68 #[(.pointer (some (a.add 0))), (.agg #[.int .u8 b_25, .int .u16 b_26])] w399 fun e401 w402 =>
 (e401 = .returned (.tuple #[])) ∧
 Kept L400 w399 w402 ∧
 R (.returned (.tuple #[])) w402
 else
 ∀ w392, Hid [] w w392 →
 R (.returned (.tuple #[])) w392
 else
 if (b_0 == 13) = true then
 ∃ x382, (FactsW x382 w []) ∧
 ∀ w383 L384, Hid [] w w383 →
 NewL w.heap.size [] w w383 L384 →
 CallX Tryz.prog 20 #[(.pointer (some (a.add 0))), .int .u8 b_1] w383 fun e385 w386 =>
 (e385 = .returned (.tuple #[])) ∧
 Kept L384 w383 w386 ∧
 ∃ x387, (FactsW x387 w386 L384) ∧
 ∀ w388 L389, Hid L384 w386 w388 →
 NewL w.heap.size L384 w386 w388 L389 →
 CallX Tryz.prog 68 #[(.pointer (some (a.add 0))), (.agg #[.int .u8 b_25, .int .u16 b_26])] w388 fun e390 w391 =>
 (e390 = .returned (.tuple #[])) ∧
 Kept L389 w388 w391 ∧
 R (.returned (.tuple #[])) w391
 else
 ∀ w381, Hid [] w w381 →
 R (.returned (.tuple #[])) w381
 else
 if (b_0 == 6) = true then
 if (b_0 == 6) = true then
 ∀ w377 L378, Hid [] w w377 →
 NewL w.heap.size [] w w377 L378 →
 CallX Tryz.prog 65 #[.pointer (some a), (MgW b_0 b_1 b_2 b_3 b_4 b_5 b_6 b_7 b_8 b_9 b_10 b_11 b_12 b_13 b_14 b_15 b_16 b_17 b_18 b_19 b_19l b_19c b_20 b_21 b_22 b_23 b_24 b_24l b_24c b_25 b_26 b_27 b_28 b_28l b_28c b_29 b_29l b_29c b_30 b_30l b_30c)] w377 fun e379 w380 =>
 (e379 = .returned (.tuple #[])) ∧
 Kept L378 w377 w380 ∧
 R (.returned (.tuple #[])) w380
 else
 if (b_0 == 8) = true then
 ∀ w359 L360, Hid [] w w359 →
 NewL w.heap.size [] w w359 L360 →
 CallX Tryz.prog 65 #[.pointer (some a), (MgW b_0 b_1 b_2 b_3 b_4 b_5 b_6 b_7 b_8 b_9 b_10 b_11 b_12 b_13 b_14 b_15 b_16 b_17 b_18 b_19 b_19l b_19c b_20 b_21 b_22 b_23 b_24 b_24l b_24c b_25 b_26 b_27 b_28 b_28l b_28c b_29 b_29l b_29c b_30 b_30l b_30c)] w359 fun e361 w362 =>
 (e361 = .returned (.tuple #[])) ∧
 Kept L360 w359 w362 ∧
 ∃ x363, (FactsW x363 w362 L360) ∧
 ∀ w364 L365, Hid L360 w362 w364 →
 NewL w.heap.size L360 w362 w364 L365 →
 CallX Tryz.prog 64 #[(.pointer (some (a.add 0))), .slice b_29 b_29l b_29c] w364 fun e366 w367 =>
 (e366 = .returned (.tuple #[])) ∧
 Kept L365 w364 w367 ∧
 CallX Tryz.prog 66 #[.pointer (some a), .bool b_27] w367 fun e368 w369 =>
 (e368 = .returned (.tuple #[])) ∧
 Kept L365 w367 w369 ∧
 if b_27 = true then
 ∃ x370, (FactsW x370 w369 L365) ∧
 ∀ w371 L372, Hid L365 w369 w371 →
 NewL w.heap.size L365 w369 w371 L372 →
 CallX Tryz.prog 60 #[(.pointer (some (a.add 0))), .int .u64 b_8] w371 fun e373 w374 =>
 (e373 = .returned (.tuple #[])) ∧
 Kept L372 w371 w374 ∧
 CallX Tryz.prog 67 #[.pointer (some a), (MgW b_0 b_1 b_2 b_3 b_4 b_5 b_6 b_7 b_8 b_9 b_10 b_11 b_12 b_13 b_14 b_15 b_16 b_17 b_18 b_19 b_19l b_19c b_20 b_21 b_22 b_23 b_24 b_24l b_24c b_25 b_26 b_27 b_28 b_28l b_28c b_29 b_29l b_29c b_30 b_30l b_30c)] w374 fun e375 w376 =>
 (e375 = .returned (.tuple #[])) ∧
 Kept L372 w374 w376 ∧
 R (.returned (.tuple #[])) w376
 else
 R (.returned (.tuple #[])) w369
 else
 if (b_0 == 9) = true then
 ∀ w353 L354, Hid [] w w353 →
 NewL w.heap.size [] w w353 L354 →
 CallX Tryz.prog 65 #[.pointer (some a), (MgW b_0 b_1 b_2 b_3 b_4 b_5 b_6 b_7 b_8 b_9 b_10 b_11 b_12 b_13 b_14 b_15 b_16 b_17 b_18 b_19 b_19l b_19c b_20 b_21 b_22 b_23 b_24 b_24l b_24c b_25 b_26 b_27 b_28 b_28l b_28c b_29 b_29l b_29c b_30 b_30l b_30c)] w353 fun e355 w356 =>
 (e355 = .returned (.tuple #[])) ∧
 Kept L354 w353 w356 ∧
 CallX Tryz.prog 67 #[.pointer (some a), (MgW b_0 b_1 b_2 b_3 b_4 b_5 b_6 b_7 b_8 b_9 b_10 b_11 b_12 b_13 b_14 b_15 b_16 b_17 b_18 b_19 b_19l b_19c b_20 b_21 b_22 b_23 b_24 b_24l b_24c b_25 b_26 b_27 b_28 b_28l b_28c b_29 b_29l b_29c b_30 b_30l b_30c)] w356 fun e357 w358 =>
 (e357 = .returned (.tuple #[])) ∧
 Kept L354 w356 w358 ∧
 R (.returned (.tuple #[])) w358
 else
 if (b_0 == 10) = true then
 ∃ x343, (FactsW x343 w []) ∧
 ∀ w344 L345, Hid [] w w344 →
 NewL w.heap.size [] w w344 L345 →
 CallX Tryz.prog 63 #[(.pointer (some (a.add 0))), (.agg #[.int .u8 b_22, .int .u32 b_23, .slice b_24 b_24l b_24c])] w344 fun e346 w347 =>
 (e346 = .returned (.tuple #[])) ∧
 Kept L345 w344 w347 ∧
 ∃ x348, (FactsW x348 w347 L345) ∧
 ∀ w349 L350, Hid L345 w347 w349 →
 NewL w.heap.size L345 w347 w349 L350 →
 CallX Tryz.prog 64 #[(.pointer (some (a.add 0))), .slice b_29 b_29l b_29c] w349 fun e351 w352 =>
 (e351 = .returned (.tuple #[])) ∧
 Kept L350 w349 w352 ∧
 R (.returned (.tuple #[])) w352
 else
 if (b_0 == 11) = true then
 if (b_0 == 11) = true then
 ∃ x333, (FactsW x333 w []) ∧
 ∀ w334 L335, Hid [] w w334 →
 NewL w.heap.size [] w w334 L335 →
 CallX Tryz.prog 20 #[(.pointer (some (a.add 0))), .int .u8 b_1] w334 fun e336 w337 =>
 (e336 = .returned (.tuple #[])) ∧
 Kept L335 w334 w337 ∧
 ∃ x338, (FactsW x338 w337 L335) ∧
 ∀ w339 L340, Hid L335 w337 w339 →
 NewL w.heap.size L335 w337 w339 L340 →
 CallX Tryz.prog 68 #[(.pointer (some (a.add 0))), (.agg #[.int .u8 b_25, .int .u16 b_26])] w339 fun e341 w342 =>
 (e341 = .returned (.tuple #[])) ∧
 Kept L340 w339 w342 ∧
 R (.returned (.tuple #[])) w342
 else
 ∀ w332, Hid [] w w332 →
 R (.returned (.tuple #[])) w332
 else
 if (b_0 == 12) = true then
 if (b_0 == 12) = true then
 ∃ x322, (FactsW x322 w []) ∧
 ∀ w323 L324, Hid [] w w323 →
 NewL w.heap.size [] w w323 L324 →
 CallX Tryz.prog 20 #[(.pointer (some (a.add 0))), .int .u8 b_1] w323 fun e325 w326 =>
 (e325 = .returned (.tuple #[])) ∧
 Kept L324 w323 w326 ∧
 ∃ x327, (FactsW x327 w326 L324) ∧
 ∀ w328 L329, Hid L324 w326 w328 →
 NewL w.heap.size L324 w326 w328 L329 →
 CallX Tryz.prog 68 #[(.pointer (some (a.add 0))), (.agg #[.int .u8 b_25, .int .u16 b_26])] w328 fun e330 w331 =>
 (e330 = .returned (.tuple #[])) ∧
 Kept L329 w328 w331 ∧
 R (.returned (.tuple #[])) w331
 else
 ∀ w321, Hid [] w w321 →
 R (.returned (.tuple #[])) w321
 else
 if (b_0 == 13) = true then
 ∃ x311, (FactsW x311 w []) ∧
 ∀ w312 L313, Hid [] w w312 →
 NewL w.heap.size [] w w312 L313 →
 CallX Tryz.prog 20 #[(.pointer (some (a.add 0))), .int .u8 b_1] w312 fun e314 w315 =>
 (e314 = .returned (.tuple #[])) ∧
 Kept L313 w312 w315 ∧
 ∃ x316, (FactsW x316 w315 L313) ∧
 ∀ w317 L318, Hid L313 w315 w317 →
 NewL w.heap.size L313 w315 w317 L318 →
 CallX Tryz.prog 68 #[(.pointer (some (a.add 0))), (.agg #[.int .u8 b_25, .int .u16 b_26])] w317 fun e319 w320 =>
 (e319 = .returned (.tuple #[])) ∧
 Kept L318 w317 w320 ∧
 R (.returned (.tuple #[])) w320
 else
 ∀ w310, Hid [] w w310 →
 R (.returned (.tuple #[])) w310
 else
 if (b_0 == 7) = true then
 ∀ w306 L307, Hid [] w w306 →
 NewL w.heap.size [] w w306 L307 →
 CallX Tryz.prog 65 #[.pointer (some a), (MgW b_0 b_1 b_2 b_3 b_4 b_5 b_6 b_7 b_8 b_9 b_10 b_11 b_12 b_13 b_14 b_15 b_16 b_17 b_18 b_19 b_19l b_19c b_20 b_21 b_22 b_23 b_24 b_24l b_24c b_25 b_26 b_27 b_28 b_28l b_28c b_29 b_29l b_29c b_30 b_30l b_30c)] w306 fun e308 w309 =>
 (e308 = .returned (.tuple #[])) ∧
 Kept L307 w306 w309 ∧
 R (.returned (.tuple #[])) w309
 else
 if (b_0 == 8) = true then
 ∀ w288 L289, Hid [] w w288 →
 NewL w.heap.size [] w w288 L289 →
 CallX Tryz.prog 65 #[.pointer (some a), (MgW b_0 b_1 b_2 b_3 b_4 b_5 b_6 b_7 b_8 b_9 b_10 b_11 b_12 b_13 b_14 b_15 b_16 b_17 b_18 b_19 b_19l b_19c b_20 b_21 b_22 b_23 b_24 b_24l b_24c b_25 b_26 b_27 b_28 b_28l b_28c b_29 b_29l b_29c b_30 b_30l b_30c)] w288 fun e290 w291 =>
 (e290 = .returned (.tuple #[])) ∧
 Kept L289 w288 w291 ∧
 ∃ x292, (FactsW x292 w291 L289) ∧
 ∀ w293 L294, Hid L289 w291 w293 →
 NewL w.heap.size L289 w291 w293 L294 →
 CallX Tryz.prog 64 #[(.pointer (some (a.add 0))), .slice b_29 b_29l b_29c] w293 fun e295 w296 =>
 (e295 = .returned (.tuple #[])) ∧
 Kept L294 w293 w296 ∧
 CallX Tryz.prog 66 #[.pointer (some a), .bool b_27] w296 fun e297 w298 =>
 (e297 = .returned (.tuple #[])) ∧
 Kept L294 w296 w298 ∧
 if b_27 = true then
 ∃ x299, (FactsW x299 w298 L294) ∧
 ∀ w300 L301, Hid L294 w298 w300 →
 NewL w.heap.size L294 w298 w300 L301 →
 CallX Tryz.prog 60 #[(.pointer (some (a.add 0))), .int .u64 b_8] w300 fun e302 w303 =>
 (e302 = .returned (.tuple #[])) ∧
 Kept L301 w300 w303 ∧
 CallX Tryz.prog 67 #[.pointer (some a), (MgW b_0 b_1 b_2 b_3 b_4 b_5 b_6 b_7 b_8 b_9 b_10 b_11 b_12 b_13 b_14 b_15 b_16 b_17 b_18 b_19 b_19l b_19c b_20 b_21 b_22 b_23 b_24 b_24l b_24c b_25 b_26 b_27 b_28 b_28l b_28c b_29 b_29l b_29c b_30 b_30l b_30c)] w303 fun e304 w305 =>
 (e304 = .returned (.tuple #[])) ∧
 Kept L301 w303 w305 ∧
 R (.returned (.tuple #[])) w305
 else
 R (.returned (.tuple #[])) w298
 else
 if (b_0 == 9) = true then
 ∀ w282 L283, Hid [] w w282 →
 NewL w.heap.size [] w w282 L283 →
 CallX Tryz.prog 65 #[.pointer (some a), (MgW b_0 b_1 b_2 b_3 b_4 b_5 b_6 b_7 b_8 b_9 b_10 b_11 b_12 b_13 b_14 b_15 b_16 b_17 b_18 b_19 b_19l b_19c b_20 b_21 b_22 b_23 b_24 b_24l b_24c b_25 b_26 b_27 b_28 b_28l b_28c b_29 b_29l b_29c b_30 b_30l b_30c)] w282 fun e284 w285 =>
 (e284 = .returned (.tuple #[])) ∧
 Kept L283 w282 w285 ∧
 CallX Tryz.prog 67 #[.pointer (some a), (MgW b_0 b_1 b_2 b_3 b_4 b_5 b_6 b_7 b_8 b_9 b_10 b_11 b_12 b_13 b_14 b_15 b_16 b_17 b_18 b_19 b_19l b_19c b_20 b_21 b_22 b_23 b_24 b_24l b_24c b_25 b_26 b_27 b_28 b_28l b_28c b_29 b_29l b_29c b_30 b_30l b_30c)] w285 fun e286 w287 =>
 (e286 = .returned (.tuple #[])) ∧
 Kept L283 w285 w287 ∧
 R (.returned (.tuple #[])) w287
 else
 if (b_0 == 10) = true then
 ∃ x272, (FactsW x272 w []) ∧
 ∀ w273 L274, Hid [] w w273 →
 NewL w.heap.size [] w w273 L274 →
 CallX Tryz.prog 63 #[(.pointer (some (a.add 0))), (.agg #[.int .u8 b_22, .int .u32 b_23, .slice b_24 b_24l b_24c])] w273 fun e275 w276 =>
 (e275 = .returned (.tuple #[])) ∧
 Kept L274 w273 w276 ∧
 ∃ x277, (FactsW x277 w276 L274) ∧
 ∀ w278 L279, Hid L274 w276 w278 →
 NewL w.heap.size L274 w276 w278 L279 →
 CallX Tryz.prog 64 #[(.pointer (some (a.add 0))), .slice b_29 b_29l b_29c] w278 fun e280 w281 =>
 (e280 = .returned (.tuple #[])) ∧
 Kept L279 w278 w281 ∧
 R (.returned (.tuple #[])) w281
 else
 if (b_0 == 11) = true then
 if (b_0 == 11) = true then
 ∃ x262, (FactsW x262 w []) ∧
 ∀ w263 L264, Hid [] w w263 →
 NewL w.heap.size [] w w263 L264 →
 CallX Tryz.prog 20 #[(.pointer (some (a.add 0))), .int .u8 b_1] w263 fun e265 w266 =>
 (e265 = .returned (.tuple #[])) ∧
 Kept L264 w263 w266 ∧
 ∃ x267, (FactsW x267 w266 L264) ∧
 ∀ w268 L269, Hid L264 w266 w268 →
 NewL w.heap.size L264 w266 w268 L269 →
 CallX Tryz.prog 68 #[(.pointer (some (a.add 0))), (.agg #[.int .u8 b_25, .int .u16 b_26])] w268 fun e270 w271 =>
 (e270 = .returned (.tuple #[])) ∧
 Kept L269 w268 w271 ∧
 R (.returned (.tuple #[])) w271
 else
 ∀ w261, Hid [] w w261 →
 R (.returned (.tuple #[])) w261
 else
 if (b_0 == 12) = true then
 if (b_0 == 12) = true then
 ∃ x251, (FactsW x251 w []) ∧
 ∀ w252 L253, Hid [] w w252 →
 NewL w.heap.size [] w w252 L253 →
 CallX Tryz.prog 20 #[(.pointer (some (a.add 0))), .int .u8 b_1] w252 fun e254 w255 =>
 (e254 = .returned (.tuple #[])) ∧
 Kept L253 w252 w255 ∧
 ∃ x256, (FactsW x256 w255 L253) ∧
 ∀ w257 L258, Hid L253 w255 w257 →
 NewL w.heap.size L253 w255 w257 L258 →
 CallX Tryz.prog 68 #[(.pointer (some (a.add 0))), (.agg #[.int .u8 b_25, .int .u16 b_26])] w257 fun e259 w260 =>
 (e259 = .returned (.tuple #[])) ∧
 Kept L258 w257 w260 ∧
 R (.returned (.tuple #[])) w260
 else
 ∀ w250, Hid [] w w250 →
 R (.returned (.tuple #[])) w250
 else
 if (b_0 == 13) = true then
 ∃ x240, (FactsW x240 w []) ∧
 ∀ w241 L242, Hid [] w w241 →
 NewL w.heap.size [] w w241 L242 →
 CallX Tryz.prog 20 #[(.pointer (some (a.add 0))), .int .u8 b_1] w241 fun e243 w244 =>
 (e243 = .returned (.tuple #[])) ∧
 Kept L242 w241 w244 ∧
 ∃ x245, (FactsW x245 w244 L242) ∧
 ∀ w246 L247, Hid L242 w244 w246 →
 NewL w.heap.size L242 w244 w246 L247 →
 CallX Tryz.prog 68 #[(.pointer (some (a.add 0))), (.agg #[.int .u8 b_25, .int .u16 b_26])] w246 fun e248 w249 =>
 (e248 = .returned (.tuple #[])) ∧
 Kept L247 w246 w249 ∧
 R (.returned (.tuple #[])) w249
 else
 ∀ w239, Hid [] w w239 →
 R (.returned (.tuple #[])) w239
 else
 if (b_0 == 4) = true then
 ∃ x214, (FactsW x214 w []) ∧
 ∀ w215 L216, Hid [] w w215 →
 NewL w.heap.size [] w w215 L216 →
 CallX Tryz.prog 20 #[(.pointer (some (a.add 0))), .int .u8 b_1] w215 fun e217 w218 =>
 (e217 = .returned (.tuple #[])) ∧
 Kept L216 w215 w218 ∧
 ∃ x219, (FactsW x219 w218 L216) ∧
 ∀ w220 L221, Hid L216 w218 w220 →
 NewL w.heap.size L216 w218 w220 L221 →
 CallX Tryz.prog 60 #[(.pointer (some (a.add 0))), .int .u64 (IntKind.wrap .u64 b_3)] w220 fun e222 w223 =>
 (e222 = .returned (.tuple #[])) ∧
 Kept L221 w220 w223 ∧
 FactsW x219 w223 L221 ∧
 ∃ x224, (FactsW x224 w223 L221) ∧
 ∀ w225 L226, Hid L221 w223 w225 →
 NewL w.heap.size L221 w223 w225 L226 →
 CallX Tryz.prog 60 #[(.pointer (some (a.add 0))), .int .u64 (IntKind.wrap .u64 b_4)] w225 fun e227 w228 =>
 (e227 = .returned (.tuple #[])) ∧
 Kept L226 w225 w228 ∧
 FactsW x224 w228 L226 ∧
 if (b_0 == 3) = true then
 ∃ x229, (FactsW x229 w228 L226) ∧
 ∀ w230 L231, Hid L226 w228 w230 →
 NewL w.heap.size L226 w228 w230 L231 →
 CallX Tryz.prog 60 #[(.pointer (some (a.add 0))), .int .u64 (IntKind.wrap .u64 b_5)] w230 fun e232 w233 =>
 (e232 = .returned (.tuple #[])) ∧
 Kept L231 w230 w233 ∧
 FactsW x229 w233 L231 ∧
 ∃ x234, (FactsW x234 w233 L231) ∧
 ∀ w235 L236, Hid L231 w233 w235 →
 NewL w.heap.size L231 w233 w235 L236 →
 CallX Tryz.prog 64 #[(.pointer (some (a.add 0))), .slice b_29 b_29l b_29c] w235 fun e237 w238 =>
 (e237 = .returned (.tuple #[])) ∧
 Kept L236 w235 w238 ∧
 R (.returned (.tuple #[])) w238
 else
 R (.returned (.tuple #[])) w228
 else
 if (b_0 == 5) = true then
 if (b_0 == 5) = true then
 ∀ w210 L211, Hid [] w w210 →
 NewL w.heap.size [] w w210 L211 →
 CallX Tryz.prog 65 #[.pointer (some a), (MgW b_0 b_1 b_2 b_3 b_4 b_5 b_6 b_7 b_8 b_9 b_10 b_11 b_12 b_13 b_14 b_15 b_16 b_17 b_18 b_19 b_19l b_19c b_20 b_21 b_22 b_23 b_24 b_24l b_24c b_25 b_26 b_27 b_28 b_28l b_28c b_29 b_29l b_29c b_30 b_30l b_30c)] w210 fun e212 w213 =>
 (e212 = .returned (.tuple #[])) ∧
 Kept L211 w210 w213 ∧
 R (.returned (.tuple #[])) w213
 else
 if (b_0 == 8) = true then
 ∀ w192 L193, Hid [] w w192 →
 NewL w.heap.size [] w w192 L193 →
 CallX Tryz.prog 65 #[.pointer (some a), (MgW b_0 b_1 b_2 b_3 b_4 b_5 b_6 b_7 b_8 b_9 b_10 b_11 b_12 b_13 b_14 b_15 b_16 b_17 b_18 b_19 b_19l b_19c b_20 b_21 b_22 b_23 b_24 b_24l b_24c b_25 b_26 b_27 b_28 b_28l b_28c b_29 b_29l b_29c b_30 b_30l b_30c)] w192 fun e194 w195 =>
 (e194 = .returned (.tuple #[])) ∧
 Kept L193 w192 w195 ∧
 ∃ x196, (FactsW x196 w195 L193) ∧
 ∀ w197 L198, Hid L193 w195 w197 →
 NewL w.heap.size L193 w195 w197 L198 →
 CallX Tryz.prog 64 #[(.pointer (some (a.add 0))), .slice b_29 b_29l b_29c] w197 fun e199 w200 =>
 (e199 = .returned (.tuple #[])) ∧
 Kept L198 w197 w200 ∧
 CallX Tryz.prog 66 #[.pointer (some a), .bool b_27] w200 fun e201 w202 =>
 (e201 = .returned (.tuple #[])) ∧
 Kept L198 w200 w202 ∧
 if b_27 = true then
 ∃ x203, (FactsW x203 w202 L198) ∧
 ∀ w204 L205, Hid L198 w202 w204 →
 NewL w.heap.size L198 w202 w204 L205 →
 CallX Tryz.prog 60 #[(.pointer (some (a.add 0))), .int .u64 b_8] w204 fun e206 w207 =>
 (e206 = .returned (.tuple #[])) ∧
 Kept L205 w204 w207 ∧
 CallX Tryz.prog 67 #[.pointer (some a), (MgW b_0 b_1 b_2 b_3 b_4 b_5 b_6 b_7 b_8 b_9 b_10 b_11 b_12 b_13 b_14 b_15 b_16 b_17 b_18 b_19 b_19l b_19c b_20 b_21 b_22 b_23 b_24 b_24l b_24c b_25 b_26 b_27 b_28 b_28l b_28c b_29 b_29l b_29c b_30 b_30l b_30c)] w207 fun e208 w209 =>
 (e208 = .returned (.tuple #[])) ∧
 Kept L205 w207 w209 ∧
 R (.returned (.tuple #[])) w209
 else
 R (.returned (.tuple #[])) w202
 else
 if (b_0 == 9) = true then
 ∀ w186 L187, Hid [] w w186 →
 NewL w.heap.size [] w w186 L187 →
 CallX Tryz.prog 65 #[.pointer (some a), (MgW b_0 b_1 b_2 b_3 b_4 b_5 b_6 b_7 b_8 b_9 b_10 b_11 b_12 b_13 b_14 b_15 b_16 b_17 b_18 b_19 b_19l b_19c b_20 b_21 b_22 b_23 b_24 b_24l b_24c b_25 b_26 b_27 b_28 b_28l b_28c b_29 b_29l b_29c b_30 b_30l b_30c)] w186 fun e188 w189 =>
 (e188 = .returned (.tuple #[])) ∧
 Kept L187 w186 w189 ∧
 CallX Tryz.prog 67 #[.pointer (some a), (MgW b_0 b_1 b_2 b_3 b_4 b_5 b_6 b_7 b_8 b_9 b_10 b_11 b_12 b_13 b_14 b_15 b_16 b_17 b_18 b_19 b_19l b_19c b_20 b_21 b_22 b_23 b_24 b_24l b_24c b_25 b_26 b_27 b_28 b_28l b_28c b_29 b_29l b_29c b_30 b_30l b_30c)] w189 fun e190 w191 =>
 (e190 = .returned (.tuple #[])) ∧
 Kept L187 w189 w191 ∧
 R (.returned (.tuple #[])) w191
 else
 if (b_0 == 10) = true then
 ∃ x176, (FactsW x176 w []) ∧
 ∀ w177 L178, Hid [] w w177 →
 NewL w.heap.size [] w w177 L178 →
 CallX Tryz.prog 63 #[(.pointer (some (a.add 0))), (.agg #[.int .u8 b_22, .int .u32 b_23, .slice b_24 b_24l b_24c])] w177 fun e179 w180 =>
 (e179 = .returned (.tuple #[])) ∧
 Kept L178 w177 w180 ∧
 ∃ x181, (FactsW x181 w180 L178) ∧
 ∀ w182 L183, Hid L178 w180 w182 →
 NewL w.heap.size L178 w180 w182 L183 →
 CallX Tryz.prog 64 #[(.pointer (some (a.add 0))), .slice b_29 b_29l b_29c] w182 fun e184 w185 =>
 (e184 = .returned (.tuple #[])) ∧
 Kept L183 w182 w185 ∧
 R (.returned (.tuple #[])) w185
 else
 if (b_0 == 11) = true then
 if (b_0 == 11) = true then
 ∃ x166, (FactsW x166 w []) ∧
 ∀ w167 L168, Hid [] w w167 →
 NewL w.heap.size [] w w167 L168 →
 CallX Tryz.prog 20 #[(.pointer (some (a.add 0))), .int .u8 b_1] w167 fun e169 w170 =>
 (e169 = .returned (.tuple #[])) ∧
 Kept L168 w167 w170 ∧
 ∃ x171, (FactsW x171 w170 L168) ∧
 ∀ w172 L173, Hid L168 w170 w172 →
 NewL w.heap.size L168 w170 w172 L173 →
 CallX Tryz.prog 68 #[(.pointer (some (a.add 0))), (.agg #[.int .u8 b_25, .int .u16 b_26])] w172 fun e174 w175 =>
 (e174 = .returned (.tuple #[])) ∧
 Kept L173 w172 w175 ∧
 R (.returned (.tuple #[])) w175
 else
 ∀ w165, Hid [] w w165 →
 R (.returned (.tuple #[])) w165
 else
 if (b_0 == 12) = true then
 if (b_0 == 12) = true then
 ∃ x155, (FactsW x155 w []) ∧
 ∀ w156 L157, Hid [] w w156 →
 NewL w.heap.size [] w w156 L157 →
 CallX Tryz.prog 20 #[(.pointer (some (a.add 0))), .int .u8 b_1] w156 fun e158 w159 =>
 (e158 = .returned (.tuple #[])) ∧
 Kept L157 w156 w159 ∧
 ∃ x160, (FactsW x160 w159 L157) ∧
 ∀ w161 L162, Hid L157 w159 w161 →
 NewL w.heap.size L157 w159 w161 L162 →
 CallX Tryz.prog 68 #[(.pointer (some (a.add 0))), (.agg #[.int .u8 b_25, .int .u16 b_26])] w161 fun e163 w164 =>
 (e163 = .returned (.tuple #[])) ∧
 Kept L162 w161 w164 ∧
 R (.returned (.tuple #[])) w164
 else
 ∀ w154, Hid [] w w154 →
 R (.returned (.tuple #[])) w154
 else
 if (b_0 == 13) = true then
 ∃ x144, (FactsW x144 w []) ∧
 ∀ w145 L146, Hid [] w w145 →
 NewL w.heap.size [] w w145 L146 →
 CallX Tryz.prog 20 #[(.pointer (some (a.add 0))), .int .u8 b_1] w145 fun e147 w148 =>
 (e147 = .returned (.tuple #[])) ∧
 Kept L146 w145 w148 ∧
 ∃ x149, (FactsW x149 w148 L146) ∧
 ∀ w150 L151, Hid L146 w148 w150 →
 NewL w.heap.size L146 w148 w150 L151 →
 CallX Tryz.prog 68 #[(.pointer (some (a.add 0))), (.agg #[.int .u8 b_25, .int .u16 b_26])] w150 fun e152 w153 =>
 (e152 = .returned (.tuple #[])) ∧
 Kept L151 w150 w153 ∧
 R (.returned (.tuple #[])) w153
 else
 ∀ w143, Hid [] w w143 →
 R (.returned (.tuple #[])) w143
 else
 if (b_0 == 6) = true then
 if (b_0 == 6) = true then
 ∀ w139 L140, Hid [] w w139 →
 NewL w.heap.size [] w w139 L140 →
 CallX Tryz.prog 65 #[.pointer (some a), (MgW b_0 b_1 b_2 b_3 b_4 b_5 b_6 b_7 b_8 b_9 b_10 b_11 b_12 b_13 b_14 b_15 b_16 b_17 b_18 b_19 b_19l b_19c b_20 b_21 b_22 b_23 b_24 b_24l b_24c b_25 b_26 b_27 b_28 b_28l b_28c b_29 b_29l b_29c b_30 b_30l b_30c)] w139 fun e141 w142 =>
 (e141 = .returned (.tuple #[])) ∧
 Kept L140 w139 w142 ∧
 R (.returned (.tuple #[])) w142
 else
 if (b_0 == 8) = true then
 ∀ w121 L122, Hid [] w w121 →
 NewL w.heap.size [] w w121 L122 →
 CallX Tryz.prog 65 #[.pointer (some a), (MgW b_0 b_1 b_2 b_3 b_4 b_5 b_6 b_7 b_8 b_9 b_10 b_11 b_12 b_13 b_14 b_15 b_16 b_17 b_18 b_19 b_19l b_19c b_20 b_21 b_22 b_23 b_24 b_24l b_24c b_25 b_26 b_27 b_28 b_28l b_28c b_29 b_29l b_29c b_30 b_30l b_30c)] w121 fun e123 w124 =>
 (e123 = .returned (.tuple #[])) ∧
 Kept L122 w121 w124 ∧
 ∃ x125, (FactsW x125 w124 L122) ∧
 ∀ w126 L127, Hid L122 w124 w126 →
 NewL w.heap.size L122 w124 w126 L127 →
 CallX Tryz.prog 64 #[(.pointer (some (a.add 0))), .slice b_29 b_29l b_29c] w126 fun e128 w129 =>
 (e128 = .returned (.tuple #[])) ∧
 Kept L127 w126 w129 ∧
 CallX Tryz.prog 66 #[.pointer (some a), .bool b_27] w129 fun e130 w131 =>
 (e130 = .returned (.tuple #[])) ∧
 Kept L127 w129 w131 ∧
 if b_27 = true then
 ∃ x132, (FactsW x132 w131 L127) ∧
 ∀ w133 L134, Hid L127 w131 w133 →
 NewL w.heap.size L127 w131 w133 L134 →
 CallX Tryz.prog 60 #[(.pointer (some (a.add 0))), .int .u64 b_8] w133 fun e135 w136 =>
 (e135 = .returned (.tuple #[])) ∧
 Kept L134 w133 w136 ∧
 CallX Tryz.prog 67 #[.pointer (some a), (MgW b_0 b_1 b_2 b_3 b_4 b_5 b_6 b_7 b_8 b_9 b_10 b_11 b_12 b_13 b_14 b_15 b_16 b_17 b_18 b_19 b_19l b_19c b_20 b_21 b_22 b_23 b_24 b_24l b_24c b_25 b_26 b_27 b_28 b_28l b_28c b_29 b_29l b_29c b_30 b_30l b_30c)] w136 fun e137 w138 =>
 (e137 = .returned (.tuple #[])) ∧
 Kept L134 w136 w138 ∧
 R (.returned (.tuple #[])) w138
 else
 R (.returned (.tuple #[])) w131
 else
 if (b_0 == 9) = true then
 ∀ w115 L116, Hid [] w w115 →
 NewL w.heap.size [] w w115 L116 →
 CallX Tryz.prog 65 #[.pointer (some a), (MgW b_0 b_1 b_2 b_3 b_4 b_5 b_6 b_7 b_8 b_9 b_10 b_11 b_12 b_13 b_14 b_15 b_16 b_17 b_18 b_19 b_19l b_19c b_20 b_21 b_22 b_23 b_24 b_24l b_24c b_25 b_26 b_27 b_28 b_28l b_28c b_29 b_29l b_29c b_30 b_30l b_30c)] w115 fun e117 w118 =>
 (e117 = .returned (.tuple #[])) ∧
 Kept L116 w115 w118 ∧
 CallX Tryz.prog 67 #[.pointer (some a), (MgW b_0 b_1 b_2 b_3 b_4 b_5 b_6 b_7 b_8 b_9 b_10 b_11 b_12 b_13 b_14 b_15 b_16 b_17 b_18 b_19 b_19l b_19c b_20 b_21 b_22 b_23 b_24 b_24l b_24c b_25 b_26 b_27 b_28 b_28l b_28c b_29 b_29l b_29c b_30 b_30l b_30c)] w118 fun e119 w120 =>
 (e119 = .returned (.tuple #[])) ∧
 Kept L116 w118 w120 ∧
 R (.returned (.tuple #[])) w120
 else
 if (b_0 == 10) = true then
 ∃ x105, (FactsW x105 w []) ∧
 ∀ w106 L107, Hid [] w w106 →
 NewL w.heap.size [] w w106 L107 →
 CallX Tryz.prog 63 #[(.pointer (some (a.add 0))), (.agg #[.int .u8 b_22, .int .u32 b_23, .slice b_24 b_24l b_24c])] w106 fun e108 w109 =>
 (e108 = .returned (.tuple #[])) ∧
 Kept L107 w106 w109 ∧
 ∃ x110, (FactsW x110 w109 L107) ∧
 ∀ w111 L112, Hid L107 w109 w111 →
 NewL w.heap.size L107 w109 w111 L112 →
 CallX Tryz.prog 64 #[(.pointer (some (a.add 0))), .slice b_29 b_29l b_29c] w111 fun e113 w114 =>
 (e113 = .returned (.tuple #[])) ∧
 Kept L112 w111 w114 ∧
 R (.returned (.tuple #[])) w114
 else
 if (b_0 == 11) = true then
 if (b_0 == 11) = true then
 ∃ x95, (FactsW x95 w []) ∧
 ∀ w96 L97, Hid [] w w96 →
 NewL w.heap.size [] w w96 L97 →
 CallX Tryz.prog 20 #[(.pointer (some (a.add 0))), .int .u8 b_1] w96 fun e98 w99 =>
 (e98 = .returned (.tuple #[])) ∧
 Kept L97 w96 w99 ∧
 ∃ x100, (FactsW x100 w99 L97) ∧
 ∀ w101 L102, Hid L97 w99 w101 →
 NewL w.heap.size L97 w99 w101 L102 →
 CallX Tryz.prog 68 #[(.pointer (some (a.add 0))), (.agg #[.int .u8 b_25, .int .u16 b_26])] w101 fun e103 w104 =>
 (e103 = .returned (.tuple #[])) ∧
 Kept L102 w101 w104 ∧
 R (.returned (.tuple #[])) w104
 else
 ∀ w94, Hid [] w w94 →
 R (.returned (.tuple #[])) w94
 else
 if (b_0 == 12) = true then
 if (b_0 == 12) = true then
 ∃ x84, (FactsW x84 w []) ∧
 ∀ w85 L86, Hid [] w w85 →
 NewL w.heap.size [] w w85 L86 →
 CallX Tryz.prog 20 #[(.pointer (some (a.add 0))), .int .u8 b_1] w85 fun e87 w88 =>
 (e87 = .returned (.tuple #[])) ∧
 Kept L86 w85 w88 ∧
 ∃ x89, (FactsW x89 w88 L86) ∧
 ∀ w90 L91, Hid L86 w88 w90 →
 NewL w.heap.size L86 w88 w90 L91 →
 CallX Tryz.prog 68 #[(.pointer (some (a.add 0))), (.agg #[.int .u8 b_25, .int .u16 b_26])] w90 fun e92 w93 =>
 (e92 = .returned (.tuple #[])) ∧
 Kept L91 w90 w93 ∧
 R (.returned (.tuple #[])) w93
 else
 ∀ w83, Hid [] w w83 →
 R (.returned (.tuple #[])) w83
 else
 if (b_0 == 13) = true then
 ∃ x73, (FactsW x73 w []) ∧
 ∀ w74 L75, Hid [] w w74 →
 NewL w.heap.size [] w w74 L75 →
 CallX Tryz.prog 20 #[(.pointer (some (a.add 0))), .int .u8 b_1] w74 fun e76 w77 =>
 (e76 = .returned (.tuple #[])) ∧
 Kept L75 w74 w77 ∧
 ∃ x78, (FactsW x78 w77 L75) ∧
 ∀ w79 L80, Hid L75 w77 w79 →
 NewL w.heap.size L75 w77 w79 L80 →
 CallX Tryz.prog 68 #[(.pointer (some (a.add 0))), (.agg #[.int .u8 b_25, .int .u16 b_26])] w79 fun e81 w82 =>
 (e81 = .returned (.tuple #[])) ∧
 Kept L80 w79 w82 ∧
 R (.returned (.tuple #[])) w82
 else
 ∀ w72, Hid [] w w72 →
 R (.returned (.tuple #[])) w72
 else
 if (b_0 == 7) = true then
 ∀ w68 L69, Hid [] w w68 →
 NewL w.heap.size [] w w68 L69 →
 CallX Tryz.prog 65 #[.pointer (some a), (MgW b_0 b_1 b_2 b_3 b_4 b_5 b_6 b_7 b_8 b_9 b_10 b_11 b_12 b_13 b_14 b_15 b_16 b_17 b_18 b_19 b_19l b_19c b_20 b_21 b_22 b_23 b_24 b_24l b_24c b_25 b_26 b_27 b_28 b_28l b_28c b_29 b_29l b_29c b_30 b_30l b_30c)] w68 fun e70 w71 =>
 (e70 = .returned (.tuple #[])) ∧
 Kept L69 w68 w71 ∧
 R (.returned (.tuple #[])) w71
 else
 if (b_0 == 8) = true then
 ∀ w50 L51, Hid [] w w50 →
 NewL w.heap.size [] w w50 L51 →
 CallX Tryz.prog 65 #[.pointer (some a), (MgW b_0 b_1 b_2 b_3 b_4 b_5 b_6 b_7 b_8 b_9 b_10 b_11 b_12 b_13 b_14 b_15 b_16 b_17 b_18 b_19 b_19l b_19c b_20 b_21 b_22 b_23 b_24 b_24l b_24c b_25 b_26 b_27 b_28 b_28l b_28c b_29 b_29l b_29c b_30 b_30l b_30c)] w50 fun e52 w53 =>
 (e52 = .returned (.tuple #[])) ∧
 Kept L51 w50 w53 ∧
 ∃ x54, (FactsW x54 w53 L51) ∧
 ∀ w55 L56, Hid L51 w53 w55 →
 NewL w.heap.size L51 w53 w55 L56 →
 CallX Tryz.prog 64 #[(.pointer (some (a.add 0))), .slice b_29 b_29l b_29c] w55 fun e57 w58 =>
 (e57 = .returned (.tuple #[])) ∧
 Kept L56 w55 w58 ∧
 CallX Tryz.prog 66 #[.pointer (some a), .bool b_27] w58 fun e59 w60 =>
 (e59 = .returned (.tuple #[])) ∧
 Kept L56 w58 w60 ∧
 if b_27 = true then
 ∃ x61, (FactsW x61 w60 L56) ∧
 ∀ w62 L63, Hid L56 w60 w62 →
 NewL w.heap.size L56 w60 w62 L63 →
 CallX Tryz.prog 60 #[(.pointer (some (a.add 0))), .int .u64 b_8] w62 fun e64 w65 =>
 (e64 = .returned (.tuple #[])) ∧
 Kept L63 w62 w65 ∧
 CallX Tryz.prog 67 #[.pointer (some a), (MgW b_0 b_1 b_2 b_3 b_4 b_5 b_6 b_7 b_8 b_9 b_10 b_11 b_12 b_13 b_14 b_15 b_16 b_17 b_18 b_19 b_19l b_19c b_20 b_21 b_22 b_23 b_24 b_24l b_24c b_25 b_26 b_27 b_28 b_28l b_28c b_29 b_29l b_29c b_30 b_30l b_30c)] w65 fun e66 w67 =>
 (e66 = .returned (.tuple #[])) ∧
 Kept L63 w65 w67 ∧
 R (.returned (.tuple #[])) w67
 else
 R (.returned (.tuple #[])) w60
 else
 if (b_0 == 9) = true then
 ∀ w44 L45, Hid [] w w44 →
 NewL w.heap.size [] w w44 L45 →
 CallX Tryz.prog 65 #[.pointer (some a), (MgW b_0 b_1 b_2 b_3 b_4 b_5 b_6 b_7 b_8 b_9 b_10 b_11 b_12 b_13 b_14 b_15 b_16 b_17 b_18 b_19 b_19l b_19c b_20 b_21 b_22 b_23 b_24 b_24l b_24c b_25 b_26 b_27 b_28 b_28l b_28c b_29 b_29l b_29c b_30 b_30l b_30c)] w44 fun e46 w47 =>
 (e46 = .returned (.tuple #[])) ∧
 Kept L45 w44 w47 ∧
 CallX Tryz.prog 67 #[.pointer (some a), (MgW b_0 b_1 b_2 b_3 b_4 b_5 b_6 b_7 b_8 b_9 b_10 b_11 b_12 b_13 b_14 b_15 b_16 b_17 b_18 b_19 b_19l b_19c b_20 b_21 b_22 b_23 b_24 b_24l b_24c b_25 b_26 b_27 b_28 b_28l b_28c b_29 b_29l b_29c b_30 b_30l b_30c)] w47 fun e48 w49 =>
 (e48 = .returned (.tuple #[])) ∧
 Kept L45 w47 w49 ∧
 R (.returned (.tuple #[])) w49
 else
 if (b_0 == 10) = true then
 ∃ x34, (FactsW x34 w []) ∧
 ∀ w35 L36, Hid [] w w35 →
 NewL w.heap.size [] w w35 L36 →
 CallX Tryz.prog 63 #[(.pointer (some (a.add 0))), (.agg #[.int .u8 b_22, .int .u32 b_23, .slice b_24 b_24l b_24c])] w35 fun e37 w38 =>
 (e37 = .returned (.tuple #[])) ∧
 Kept L36 w35 w38 ∧
 ∃ x39, (FactsW x39 w38 L36) ∧
 ∀ w40 L41, Hid L36 w38 w40 →
 NewL w.heap.size L36 w38 w40 L41 →
 CallX Tryz.prog 64 #[(.pointer (some (a.add 0))), .slice b_29 b_29l b_29c] w40 fun e42 w43 =>
 (e42 = .returned (.tuple #[])) ∧
 Kept L41 w40 w43 ∧
 R (.returned (.tuple #[])) w43
 else
 if (b_0 == 11) = true then
 if (b_0 == 11) = true then
 ∃ x24, (FactsW x24 w []) ∧
 ∀ w25 L26, Hid [] w w25 →
 NewL w.heap.size [] w w25 L26 →
 CallX Tryz.prog 20 #[(.pointer (some (a.add 0))), .int .u8 b_1] w25 fun e27 w28 =>
 (e27 = .returned (.tuple #[])) ∧
 Kept L26 w25 w28 ∧
 ∃ x29, (FactsW x29 w28 L26) ∧
 ∀ w30 L31, Hid L26 w28 w30 →
 NewL w.heap.size L26 w28 w30 L31 →
 CallX Tryz.prog 68 #[(.pointer (some (a.add 0))), (.agg #[.int .u8 b_25, .int .u16 b_26])] w30 fun e32 w33 =>
 (e32 = .returned (.tuple #[])) ∧
 Kept L31 w30 w33 ∧
 R (.returned (.tuple #[])) w33
 else
 ∀ w23, Hid [] w w23 →
 R (.returned (.tuple #[])) w23
 else
 if (b_0 == 12) = true then
 if (b_0 == 12) = true then
 ∃ x13, (FactsW x13 w []) ∧
 ∀ w14 L15, Hid [] w w14 →
 NewL w.heap.size [] w w14 L15 →
 CallX Tryz.prog 20 #[(.pointer (some (a.add 0))), .int .u8 b_1] w14 fun e16 w17 =>
 (e16 = .returned (.tuple #[])) ∧
 Kept L15 w14 w17 ∧
 ∃ x18, (FactsW x18 w17 L15) ∧
 ∀ w19 L20, Hid L15 w17 w19 →
 NewL w.heap.size L15 w17 w19 L20 →
 CallX Tryz.prog 68 #[(.pointer (some (a.add 0))), (.agg #[.int .u8 b_25, .int .u16 b_26])] w19 fun e21 w22 =>
 (e21 = .returned (.tuple #[])) ∧
 Kept L20 w19 w22 ∧
 R (.returned (.tuple #[])) w22
 else
 ∀ w12, Hid [] w w12 →
 R (.returned (.tuple #[])) w12
 else
 if (b_0 == 13) = true then
 ∃ x2, (FactsW x2 w []) ∧
 ∀ w3 L4, Hid [] w w3 →
 NewL w.heap.size [] w w3 L4 →
 CallX Tryz.prog 20 #[(.pointer (some (a.add 0))), .int .u8 b_1] w3 fun e5 w6 =>
 (e5 = .returned (.tuple #[])) ∧
 Kept L4 w3 w6 ∧
 ∃ x7, (FactsW x7 w6 L4) ∧
 ∀ w8 L9, Hid L4 w6 w8 →
 NewL w.heap.size L4 w6 w8 L9 →
 CallX Tryz.prog 68 #[(.pointer (some (a.add 0))), (.agg #[.int .u8 b_25, .int .u16 b_26])] w8 fun e10 w11 =>
 (e10 = .returned (.tuple #[])) ∧
 Kept L9 w8 w11 ∧
 R (.returned (.tuple #[])) w11
 else
 ∀ w1, Hid [] w w1 →
 R (.returned (.tuple #[])) w1) :
 Calls Tryz.prog 21 #[.pointer (some a), .agg #[.int .u8 b_0, .int .u8 b_1, .int .u8 b_2, .int .u32 b_3, .int .u32 b_4, .int .u32 b_5, .int .u32 b_6, .int .u64 b_7, .int .u64 b_8, .int .u8 b_9, .int .u16 b_10, .int .u32 b_11, .int .u8 b_12, .int .u8 b_13, .int .u8 b_14, .int .u8 b_15, .int .u8 b_16, .int .u8 b_17, .int .u8 b_18, .slice b_19 b_19l b_19c, .int .u8 b_20, .string b_21, .int .u8 b_22, .int .u32 b_23, .slice b_24 b_24l b_24c, .int .u8 b_25, .int .u16 b_26, .bool b_27, .slice b_28 b_28l b_28c, .slice b_29 b_29l b_29c, .slice b_30 b_30l b_30c]] w R :=
 calls_of { isLoc := [3], sym := [], loops := [], joins := [] } Tryz.func21 (by kernel_rfl) h
end Go.Proofs
/- The verification conditions of this seat's functions, as the engine has them: printed by a program of the bench; checked by the kernel. -/
namespace Go.Proofs
open Go X
theorem x_Word (a : Int) (w : World) (R : Ending → World → Prop) (h :
 if (decide ((IntKind.wrap .i64 a) ≥ 14)) = true then
 ∀ w15, Hid [] w w15 →
 R (.returned (.string (ByteArray.mk #[]))) w15
 else
 ((0 : Int) ≤ a) ∧
 (a < 14) ∧
 ((((((((((((((a = 0) →
 ∀ w1, Hid [] w w1 →
 R (.returned (.string (ByteArray.mk #[OfNat.ofNat 65, OfNat.ofNat 115, OfNat.ofNat 107]))) w1) ∧
 ((a = 1) →
 ∀ w2, Hid [] w w2 →
 R (.returned (.string (ByteArray.mk #[OfNat.ofNat 65, OfNat.ofNat 110, OfNat.ofNat 115, OfNat.ofNat 119, OfNat.ofNat 101, OfNat.ofNat 114]))) w2)) ∧
 ((a = 2) →
 ∀ w3, Hid [] w w3 →
 R (.returned (.string (ByteArray.mk #[OfNat.ofNat 82, OfNat.ofNat 101, OfNat.ofNat 102, OfNat.ofNat 117, OfNat.ofNat 115, OfNat.ofNat 101]))) w3)) ∧
 ((a = 3) →
 ∀ w4, Hid [] w w4 →
 R (.returned (.string (ByteArray.mk #[OfNat.ofNat 65, OfNat.ofNat 112, OfNat.ofNat 112, OfNat.ofNat 101, OfNat.ofNat 110, OfNat.ofNat 100]))) w4)) ∧
 ((a = 4) →
 ∀ w5, Hid [] w w5 →
 R (.returned (.string (ByteArray.mk #[OfNat.ofNat 65, OfNat.ofNat 99, OfNat.ofNat 107, OfNat.ofNat 101, OfNat.ofNat 100]))) w5)) ∧
 ((a = 5) →
 ∀ w6, Hid [] w w6 →
 R (.returned (.string (ByteArray.mk #[OfNat.ofNat 80, OfNat.ofNat 114, OfNat.ofNat 101, OfNat.ofNat 112, OfNat.ofNat 97, OfNat.ofNat 114, OfNat.ofNat 101]))) w6)) ∧
 ((a = 6) →
 ∀ w7, Hid [] w w7 →
 R (.returned (.string (ByteArray.mk #[OfNat.ofNat 65, OfNat.ofNat 99, OfNat.ofNat 99, OfNat.ofNat 101, OfNat.ofNat 112, OfNat.ofNat 116]))) w7)) ∧
 ((a = 7) →
 ∀ w8, Hid [] w w8 →
 R (.returned (.string (ByteArray.mk #[OfNat.ofNat 78, OfNat.ofNat 97, OfNat.ofNat 99, OfNat.ofNat 107]))) w8)) ∧
 ((a = 8) →
 ∀ w9, Hid [] w w9 →
 R (.returned (.string (ByteArray.mk #[OfNat.ofNat 80, OfNat.ofNat 114, OfNat.ofNat 111, OfNat.ofNat 109, OfNat.ofNat 105, OfNat.ofNat 115, OfNat.ofNat 101]))) w9)) ∧
 ((a = 9) →
 ∀ w10, Hid [] w w10 →
 R (.returned (.string (ByteArray.mk #[OfNat.ofNat 80, OfNat.ofNat 114, OfNat.ofNat 111, OfNat.ofNat 112, OfNat.ofNat 111, OfNat.ofNat 115, OfNat.ofNat 101]))) w10)) ∧
 ((a = 10) →
 ∀ w11, Hid [] w w11 →
 R (.returned (.string (ByteArray.mk #[OfNat.ofNat 73, OfNat.ofNat 110, OfNat.ofNat 115, OfNat.ofNat 116, OfNat.ofNat 97, OfNat.ofNat 108, OfNat.ofNat 108]))) w11)) ∧
 ((a = 11) →
 ∀ w12, Hid [] w w12 →
 R (.returned (.string (ByteArray.mk #[OfNat.ofNat 74, OfNat.ofNat 111, OfNat.ofNat 105, OfNat.ofNat 110]))) w12)) ∧
 ((a = 12) →
 ∀ w13, Hid [] w w13 →
 R (.returned (.string (ByteArray.mk #[OfNat.ofNat 76, OfNat.ofNat 101, OfNat.ofNat 97, OfNat.ofNat 118, OfNat.ofNat 101]))) w13)) ∧
 ((a = 13) →
 ∀ w14, Hid [] w w14 →
 R (.returned (.string (ByteArray.mk #[OfNat.ofNat 83, OfNat.ofNat 108, OfNat.ofNat 97, OfNat.ofNat 121]))) w14)) :
 Calls Tryz.prog 18 #[.int .u8 a] w R :=
 calls_of { isLoc := [3], sym := [9], loops := [], joins := [] } Tryz.func18 (by kernel_rfl) h
end Go.Proofs
