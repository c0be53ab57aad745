import Derived.Test.YtjphfelmaingjaaGreatXFn
import Derived.Test.YtjphfelmaingjaaGreatProg
set_option maxRecDepth 100000
set_option linter.unusedVariables false
/- The verification conditions of this seat's functions, as the engine has them: printed by a program of the bench; checked by the kernel. -/
namespace Go.Proofs
open Go
theorem x_someM (a_0 : Option Addr) (b : Int) (w : World) (R : Ending → World → Prop) (h :
 ∀ w1 : World, ∀ L2 : List Nat, (X.Hid [] w w1) →
 (X.NewL w.heap.size [] w w1 L2) →
 ∃ x3 : Option Addr → Nat → Nat → Int → World → List Nat → Prop, ∃ x4 : Option Addr → Nat → Nat → Int → World → Nat, (x3 none 0 0 0 w1 L2) ∧
 ∀ q5 : Option Addr, ∀ k6 k7 : Nat, ∀ n8 : Int, ∀ w9 : World, ∀ L10 : List Nat, (X.LF w.heap.size w9 L10) →
 (x3 q5 k6 k7 n8 w9 L10) →
 if (decide (n8 < b)) = true then
 X.CallX Tryz.prog (OfNat.ofNat 95) #[.pointer a_0] w9 fun e11 w12 =>
 ∃ n13 n14 : Int, (e11 = .returned (.agg #[.int .u8 n13, .int .u16 n14])) ∧
 (X.Kept L10 w9 w12) ∧
 ∃ q15 : Option Addr, ∃ k16 k17 : Nat, ∃ w18 : World, (Sem.run Tryz.prog (Go.Builtin.append_ #[54, 54] 54 #[.slice q5 k6 k7, .slice (some ⟨w12.heap.size, 0, none⟩) 1 1]) (w12.alloc (.cells #[.int .u8 n13, .int .u16 n14] 47)) = .ok (.slice q15 k16 k17) w18) ∧
 (X.Kept L10 (w12.alloc (.cells #[.int .u8 n13, .int .u16 n14] 47)) w18) ∧
 X.CallX Tryz.prog 35 #[.pointer a_0] w18 fun e19 w20 =>
 ∃ n21 : Int, (e19 = .returned (.int .i64 n21)) ∧
 (X.Kept L10 w18 w20) ∧
 if (n21 != 0) = true then
 R (.returned (.slice none 0 0)) w20
 else
 (([.pointer a_0] : List Value) = [.pointer a_0]) ∧
 (x3 q15 k16 k17 (IntKind.wrap .i64 (n8 + 1)) w20 L10) ∧
 Nat.le ((x4 q15 k16 k17 (IntKind.wrap .i64 (n8 + 1)) w20) + 1) (x4 q5 k6 k7 n8 w9)
 else
 R (.returned (.slice q5 k6 k7)) w9) :
 Calls Tryz.prog 141 #[.agg #[.pointer a_0], .int .i64 b, .func (.func 95) #[] #[]] w R :=
 X.calls_of { isLoc := [3], sym := [], loops := [(3, .inv [(7, .slice), (9, .int .i64)] [] true)], joins := [] } Tryz.func141 (by kernel_rfl) h
theorem x_rdvalue (a_0 : Option Addr) (b : Addr) (w : World) (R : Ending → World → Prop) (h :
 ∃ x1 : X.Facts, (X.FactsW x1 w []) ∧
 ∀ w2 : World, ∀ L3 : List Nat, (X.Hid [] w w2) →
 (X.NewL w.heap.size [] w w2 L3) →
 X.CallX Tryz.prog 34 #[.pointer a_0] w2 fun e4 w5 =>
 ∃ n6 : Int, (e4 = .returned (.int .u8 n6)) ∧
 (X.Kept L3 w2 w5) ∧
 (X.FactsW x1 w5 L3) ∧
 X.CallX Tryz.prog 141 #[(.agg #[.pointer a_0]), .int .i64 (IntKind.wrap .i64 n6), (.func (.func 95) #[] #[])] w5 fun e7 w8 =>
 ∃ q9 : Option Addr, ∃ k10 k11 : Nat, (e7 = .returned (.slice q9 k10 k11)) ∧
 (X.Kept L3 w5 w8) ∧
 (X.FactsW x1 w8 L3) ∧
 ((none : Option Nat) = none) ∧
 (World.there w8 (b.block) ((b.off) + 28) 1) ∧
 (¬ ((b.block) ∈ L3)) ∧
 X.CallX Tryz.prog 90 #[.pointer a_0] (w8.setCells (b.block) ((b.off) + 28) [.slice q9 k10 k11]) fun e12 w13 =>
 ∃ q14 : Option Addr, ∃ k15 k16 : Nat, (e12 = .returned (.slice q14 k15 k16)) ∧
 (X.Kept L3 (w8.setCells (b.block) ((b.off) + 28) [.slice q9 k10 k11]) w13) ∧
 ((none : Option Nat) = none) ∧
 (World.there w13 (b.block) ((b.off) + 30) 1) ∧
 (¬ ((b.block) ∈ L3)) ∧
 R (.returned (.tuple #[])) (w13.setCells (b.block) ((b.off) + 30) [.slice q14 k15 k16])) :
 Calls Tryz.prog 94 #[.agg #[.pointer a_0], .pointer (some b)] w R :=
 X.calls_of { isLoc := [2], sym := [], loops := [], joins := [] } Tryz.func94 (by kernel_rfl) h
theorem x_rdround (a_0 : Option Addr) (b : Addr) (w : World) (R : Ending → World → Prop) (h :
 ∃ x1 : X.Facts, (X.FactsW x1 w []) ∧
 ∀ w2 : World, ∀ L3 : List Nat, (X.Hid [] w w2) →
 (X.NewL w.heap.size [] w w2 L3) →
 X.CallX Tryz.prog 34 #[.pointer a_0] w2 fun e4 w5 =>
 ∃ n6 : Int, (e4 = .returned (.int .u8 n6)) ∧
 (X.Kept L3 w2 w5) ∧
 (X.FactsW x1 w5 L3) ∧
 X.CallX Tryz.prog 86 #[(.agg #[.pointer a_0])] w5 fun e7 w8 =>
 ∃ n9 : Int, (e7 = .returned (.int .u32 n9)) ∧
 (X.Kept L3 w5 w8) ∧
 (X.FactsW x1 w8 L3) ∧
 X.CallX Tryz.prog 93 #[(.agg #[.pointer a_0])] w8 fun e10 w11 =>
 ∃ n12 : Int, (e10 = .returned (.int .u64 n12)) ∧
 (X.Kept L3 w8 w11) ∧
 (X.FactsW x1 w11 L3) ∧
 ((none : Option Nat) = none) ∧
 (World.there w11 (b.block) ((b.off) + 1) 1) ∧
 (¬ ((b.block) ∈ L3)) ∧
 (X.FactsW x1 (w11.setCells (b.block) ((b.off) + 1) [.int .u8 n6]) L3) ∧
 ((none : Option Nat) = none) ∧
 (World.there (w11.setCells (b.block) ((b.off) + 1) [.int .u8 n6]) (b.block) ((b.off) + 3) 1) ∧
 (¬ ((b.block) ∈ L3)) ∧
 (X.FactsW x1 ((w11.setCells (b.block) ((b.off) + 1) [.int .u8 n6]).setCells (b.block) ((b.off) + 3) [.int .u32 n9]) L3) ∧
 ((none : Option Nat) = none) ∧
 (World.there ((w11.setCells (b.block) ((b.off) + 1) [.int .u8 n6]).setCells (b.block) ((b.off) + 3) [.int .u32 n9]) (b.block) ((b.off) + 7) 1) ∧
 (¬ ((b.block) ∈ L3)) ∧
 R (.returned (.tuple #[])) (((w11.setCells (b.block) ((b.off) + 1) [.int .u8 n6]).setCells (b.block) ((b.off) + 3) [.int .u32 n9]).setCells (b.block) ((b.off) + 7) [.int .u64 n12])) :
 Calls Tryz.prog 91 #[.agg #[.pointer a_0], .pointer (some b)] w R :=
 X.calls_of { isLoc := [2], sym := [], loops := [], joins := [] } Tryz.func91 (by kernel_rfl) h
theorem x_Read7 (a : Option Addr) (al ac : Nat) (w : World) (R : Ending → World → Prop) (h :
 if (decide (((al : Nat) : Int) > 524288)) = true then
 ∀ w110 : World, (X.Hid [] w w110) →
 R (.returned (.tuple #[(.agg #[.int .u8 0, .int .u8 0, .int .u8 0, .int .u32 0, .int .u32 0, .int .u32 0, .int .u32 0, .int .u64 0, .int .u64 0, .int .u8 0, .int .u16 0, .int .u32 0, .int .u8 0, .int .u8 0, .int .u8 0, .int .u8 0, .int .u8 0, .int .u8 0, .int .u8 0, .slice none 0 0, .int .u8 0, .string (ByteArray.mk #[]), .int .u8 0, .int .u32 0, .slice none 0 0, .int .u8 0, .int .u16 0, .bool false, .slice none 0 0, .slice none 0 0, .slice none 0 0]), .int .i64 5])) w110
 else
 ∀ w1 : World, ∀ L2 : List Nat, (X.Hid [] w w1) →
 (X.NewL w.heap.size [] w w1 L2) →
 X.CallX Tryz.prog 33 #[.slice a al ac] w1 fun e3 w4 =>
 ∃ q5 : Option Addr, (e3 = .returned (.pointer q5)) ∧
 (X.Kept L2 w1 w4) ∧
 ∀ w6 : World, ∀ L7 : List Nat, (X.Hid L2 w4 w6) →
 (X.NewL w.heap.size L2 w4 w6 L7) →
 X.CallX Tryz.prog 34 #[.pointer q5] w6 fun e8 w9 =>
 ∃ n10 : Int, (e8 = .returned (.int .u8 n10)) ∧
 (X.Kept L7 w6 w9) ∧
 ((none : Option Nat) = none) ∧
 (World.there (w9.alloc (.cells #[.int .u8 0, .int .u8 0, .int .u8 0, .int .u32 0, .int .u32 0, .int .u32 0, .int .u32 0, .int .u64 0, .int .u64 0, .int .u8 0, .int .u16 0, .int .u32 0, .int .u8 0, .int .u8 0, .int .u8 0, .int .u8 0, .int .u8 0, .int .u8 0, .int .u8 0, .slice none 0 0, .int .u8 0, .string (ByteArray.mk #[]), .int .u8 0, .int .u32 0, .slice none 0 0, .int .u8 0, .int .u16 0, .bool false, .slice none 0 0, .slice none 0 0, .slice none 0 0] 59)) w9.heap.size 0 31) ∧
 (¬ (w9.heap.size ∈ L7)) ∧
 X.CallX Tryz.prog 35 #[.pointer q5] ((w9.alloc (.cells #[.int .u8 0, .int .u8 0, .int .u8 0, .int .u32 0, .int .u32 0, .int .u32 0, .int .u32 0, .int .u64 0, .int .u64 0, .int .u8 0, .int .u16 0, .int .u32 0, .int .u8 0, .int .u8 0, .int .u8 0, .int .u8 0, .int .u8 0, .int .u8 0, .int .u8 0, .slice none 0 0, .int .u8 0, .string (ByteArray.mk #[]), .int .u8 0, .int .u32 0, .slice none 0 0, .int .u8 0, .int .u16 0, .bool false, .slice none 0 0, .slice none 0 0, .slice none 0 0] 59)).setCells w9.heap.size 0 [.int .u8 n10, .int .u8 0, .int .u8 0, .int .u32 0, .int .u32 0, .int .u32 0, .int .u32 0, .int .u64 0, .int .u64 0, .int .u8 0, .int .u16 0, .int .u32 0, .int .u8 0, .int .u8 0, .int .u8 0, .int .u8 0, .int .u8 0, .int .u8 0, .int .u8 0, .slice none 0 0, .int .u8 0, .string (ByteArray.mk #[]), .int .u8 0, .int .u32 0, .slice none 0 0, .int .u8 0, .int .u16 0, .bool false, .slice none 0 0, .slice none 0 0, .slice none 0 0]) fun e11 w12 =>
 ∃ n13 : Int, (e11 = .returned (.int .i64 n13)) ∧
 (X.Kept L7 ((w9.alloc (.cells #[.int .u8 0, .int .u8 0, .int .u8 0, .int .u32 0, .int .u32 0, .int .u32 0, .int .u32 0, .int .u64 0, .int .u64 0, .int .u8 0, .int .u16 0, .int .u32 0, .int .u8 0, .int .u8 0, .int .u8 0, .int .u8 0, .int .u8 0, .int .u8 0, .int .u8 0, .slice none 0 0, .int .u8 0, .string (ByteArray.mk #[]), .int .u8 0, .int .u32 0, .slice none 0 0, .int .u8 0, .int .u16 0, .bool false, .slice none 0 0, .slice none 0 0, .slice none 0 0] 59)).setCells w9.heap.size 0 [.int .u8 n10, .int .u8 0, .int .u8 0, .int .u32 0, .int .u32 0, .int .u32 0, .int .u32 0, .int .u64 0, .int .u64 0, .int .u8 0, .int .u16 0, .int .u32 0, .int .u8 0, .int .u8 0, .int .u8 0, .int .u8 0, .int .u8 0, .int .u8 0, .int .u8 0, .slice none 0 0, .int .u8 0, .string (ByteArray.mk #[]), .int .u8 0, .int .u32 0, .slice none 0 0, .int .u8 0, .int .u16 0, .bool false, .slice none 0 0, .slice none 0 0, .slice none 0 0]) w12) ∧
 if ((n13 != 0) == false) = true then
 X.CallX Tryz.prog 36 #[(.agg #[.pointer q5]), .pointer (some ⟨w9.heap.size, 0, none⟩)] w12 fun e15 w16 =>
 ∃ b17 : Bool, (e15 = .returned (.bool b17)) ∧
 (X.Kept L7 w12 w16) ∧
 if (false || (!b17)) = true then
 ∀ w109 : World, (X.Hid L7 w16 w109) →
 R (.returned (.tuple #[(.agg #[.int .u8 0, .int .u8 0, .int .u8 0, .int .u32 0, .int .u32 0, .int .u32 0, .int .u32 0, .int .u64 0, .int .u64 0, .int .u8 0, .int .u16 0, .int .u32 0, .int .u8 0, .int .u8 0, .int .u8 0, .int .u8 0, .int .u8 0, .int .u8 0, .int .u8 0, .slice none 0 0, .int .u8 0, .string (ByteArray.mk #[]), .int .u8 0, .int .u32 0, .slice none 0 0, .int .u8 0, .int .u16 0, .bool false, .slice none 0 0, .slice none 0 0, .slice none 0 0]), .int .i64 6])) w109
 else
 X.CallX Tryz.prog 37 #[.pointer q5] w16 fun e18 w19 =>
 ∃ n20 : Int, (e18 = .returned (.int .i64 n20)) ∧
 (X.Kept L7 w16 w19) ∧
 if (n20 != 0) = true then
 ∀ w108 : World, (X.Hid L7 w19 w108) →
 R (.returned (.tuple #[(.agg #[.int .u8 0, .int .u8 0, .int .u8 0, .int .u32 0, .int .u32 0, .int .u32 0, .int .u32 0, .int .u64 0, .int .u64 0, .int .u8 0, .int .u16 0, .int .u32 0, .int .u8 0, .int .u8 0, .int .u8 0, .int .u8 0, .int .u8 0, .int .u8 0, .int .u8 0, .slice none 0 0, .int .u8 0, .string (ByteArray.mk #[]), .int .u8 0, .int .u32 0, .slice none 0 0, .int .u8 0, .int .u16 0, .bool false, .slice none 0 0, .slice none 0 0, .slice none 0 0]), .int .i64 n20])) w108
 else
 ∃ n21 n22 n23 n24 n25 n26 n27 n28 n29 n30 n31 n32 n33 n34 n35 n36 n37 n38 n39 : Int, ∃ q40 : Option Addr, ∃ k41 k42 : Nat, ∃ n43 : Int, ∃ s44 : ByteArray, ∃ n45 n46 : Int, ∃ q47 : Option Addr, ∃ k48 k49 : Nat, ∃ n50 n51 : Int, ∃ b52 : Bool, ∃ q53 : Option Addr, ∃ k54 k55 : Nat, ∃ q56 : Option Addr, ∃ k57 k58 : Nat, ∃ q59 : Option Addr, ∃ k60 k61 : Nat, (X.Cells w19 ⟨w9.heap.size, 0, none⟩ [.int .u8 n21, .int .u8 n22, .int .u8 n23, .int .u32 n24, .int .u32 n25, .int .u32 n26, .int .u32 n27, .int .u64 n28, .int .u64 n29, .int .u8 n30, .int .u16 n31, .int .u32 n32, .int .u8 n33, .int .u8 n34, .int .u8 n35, .int .u8 n36, .int .u8 n37, .int .u8 n38, .int .u8 n39, .slice q40 k41 k42, .int .u8 n43, .string s44, .int .u8 n45, .int .u32 n46, .slice q47 k48 k49, .int .u8 n50, .int .u16 n51, .bool b52, .slice q53 k54 k55, .slice q56 k57 k58, .slice q59 k60 k61]) ∧
 (¬ (w9.heap.size ∈ L7)) ∧
 X.CallX Tryz.prog 19 #[(.agg #[.int .u8 n21, .int .u8 n22, .int .u8 n23, .int .u32 n24, .int .u32 n25, .int .u32 n26, .int .u32 n27, .int .u64 n28, .int .u64 n29, .int .u8 n30, .int .u16 n31, .int .u32 n32, .int .u8 n33, .int .u8 n34, .int .u8 n35, .int .u8 n36, .int .u8 n37, .int .u8 n38, .int .u8 n39, .slice q40 k41 k42, .int .u8 n43, .string s44, .int .u8 n45, .int .u32 n46, .slice q47 k48 k49, .int .u8 n50, .int .u16 n51, .bool b52, .slice q53 k54 k55, .slice q56 k57 k58, .slice q59 k60 k61])] w19 fun e62 w63 =>
 ∃ b64 : Bool, (e62 = .returned (.bool b64)) ∧
 (X.Kept L7 w19 w63) ∧
 if (!b64) = true then
 ∀ w107 : World, (X.Hid L7 w63 w107) →
 R (.returned (.tuple #[(.agg #[.int .u8 0, .int .u8 0, .int .u8 0, .int .u32 0, .int .u32 0, .int .u32 0, .int .u32 0, .int .u64 0, .int .u64 0, .int .u8 0, .int .u16 0, .int .u32 0, .int .u8 0, .int .u8 0, .int .u8 0, .int .u8 0, .int .u8 0, .int .u8 0, .int .u8 0, .slice none 0 0, .int .u8 0, .string (ByteArray.mk #[]), .int .u8 0, .int .u32 0, .slice none 0 0, .int .u8 0, .int .u16 0, .bool false, .slice none 0 0, .slice none 0 0, .slice none 0 0]), .int .i64 6])) w107
 else
 ∃ n65 n66 n67 n68 n69 n70 n71 n72 n73 n74 n75 n76 n77 n78 n79 n80 n81 n82 n83 : Int, ∃ q84 : Option Addr, ∃ k85 k86 : Nat, ∃ n87 : Int, ∃ s88 : ByteArray, ∃ n89 n90 : Int, ∃ q91 : Option Addr, ∃ k92 k93 : Nat, ∃ n94 n95 : Int, ∃ b96 : Bool, ∃ q97 : Option Addr, ∃ k98 k99 : Nat, ∃ q100 : Option Addr, ∃ k101 k102 : Nat, ∃ q103 : Option Addr, ∃ k104 k105 : Nat, (X.Cells w63 ⟨w9.heap.size, 0, none⟩ [.int .u8 n65, .int .u8 n66, .int .u8 n67, .int .u32 n68, .int .u32 n69, .int .u32 n70, .int .u32 n71, .int .u64 n72, .int .u64 n73, .int .u8 n74, .int .u16 n75, .int .u32 n76, .int .u8 n77, .int .u8 n78, .int .u8 n79, .int .u8 n80, .int .u8 n81, .int .u8 n82, .int .u8 n83, .slice q84 k85 k86, .int .u8 n87, .string s88, .int .u8 n89, .int .u32 n90, .slice q91 k92 k93, .int .u8 n94, .int .u16 n95, .bool b96, .slice q97 k98 k99, .slice q100 k101 k102, .slice q103 k104 k105]) ∧
 (¬ (w9.heap.size ∈ L7)) ∧
 ∀ w106 : World, (X.Hid L7 w63 w106) →
 R (.returned (.tuple #[(.agg #[.int .u8 n65, .int .u8 n66, .int .u8 n67, .int .u32 n68, .int .u32 n69, .int .u32 n70, .int .u32 n71, .int .u64 n72, .int .u64 n73, .int .u8 n74, .int .u16 n75, .int .u32 n76, .int .u8 n77, .int .u8 n78, .int .u8 n79, .int .u8 n80, .int .u8 n81, .int .u8 n82, .int .u8 n83, .slice q84 k85 k86, .int .u8 n87, .string s88, .int .u8 n89, .int .u32 n90, .slice q91 k92 k93, .int .u8 n94, .int .u16 n95, .bool b96, .slice q97 k98 k99, .slice q100 k101 k102, .slice q103 k104 k105]), .int .i64 0])) w106
 else
 ∀ w14 : World, (X.Hid L7 w12 w14) →
 R (.returned (.tuple #[(.agg #[.int .u8 0, .int .u8 0, .int .u8 0, .int .u32 0, .int .u32 0, .int .u32 0, .int .u32 0, .int .u64 0, .int .u64 0, .int .u8 0, .int .u16 0, .int .u32 0, .int .u8 0, .int .u8 0, .int .u8 0, .int .u8 0, .int .u8 0, .int .u8 0, .int .u8 0, .slice none 0 0, .int .u8 0, .string (ByteArray.mk #[]), .int .u8 0, .int .u32 0, .slice none 0 0, .int .u8 0, .int .u16 0, .bool false, .slice none 0 0, .slice none 0 0, .slice none 0 0]), .int .i64 6])) w14) :
 Calls Tryz.prog 10 #[.slice a al ac] w R :=
 X.calls_of { isLoc := [2, 4], sym := [], loops := [], joins := [] } Tryz.func10 (by kernel_rfl) h
end Go.Proofs
/- The verification conditions of this seat's functions, as the engine has them: printed by a program of the bench; checked by the kernel. -/
namespace Go.Proofs
open Go
theorem x_rdmsg (a_0 : Option Addr) (b : Addr) (w : World) (R : Ending → World → Prop) (h :
 ∃ n1 : Int, (World.cell? w (b.add 0) = some (.int .u8 n1)) ∧
 if (n1 == 0) = true then
 ∀ w518 : World, ∀ L519 : List Nat, (X.Hid [] w w518) →
 (X.NewL w.heap.size [] w w518 L519) →
 X.CallX Tryz.prog 34 #[.pointer a_0] w518 fun e520 w521 =>
 ∃ n522 : Int, (e520 = .returned (.int .u8 n522)) ∧
 (X.Kept L519 w518 w521) ∧
 ((none : Option Nat) = none) ∧
 (World.there w521 (b.block) ((b.off) + 1) 1) ∧
 (¬ ((b.block) ∈ L519)) ∧
 X.CallX Tryz.prog 85 #[.pointer a_0] (w521.setCells (b.block) ((b.off) + 1) [.int .u8 n522]) fun e523 w524 =>
 ∃ n525 n526 n527 n528 n529 n530 n531 n532 n533 n534 : Int, (e523 = .returned (.agg #[.int .u8 n525, .int .u16 n526, .int .u32 n527, .int .u8 n528, .int .u8 n529, .int .u8 n530, .int .u8 n531, .int .u8 n532, .int .u8 n533, .int .u8 n534])) ∧
 (X.Kept L519 (w521.setCells (b.block) ((b.off) + 1) [.int .u8 n522]) w524) ∧
 ((none : Option Nat) = none) ∧
 (World.there w524 (b.block) ((b.off) + 9) 10) ∧
 (¬ ((b.block) ∈ L519)) ∧
 X.CallX Tryz.prog 86 #[(.agg #[.pointer a_0])] (w524.setCells (b.block) ((b.off) + 9) [.int .u8 n525, .int .u16 n526, .int .u32 n527, .int .u8 n528, .int .u8 n529, .int .u8 n530, .int .u8 n531, .int .u8 n532, .int .u8 n533, .int .u8 n534]) fun e535 w536 =>
 ∃ n537 : Int, (e535 = .returned (.int .u32 n537)) ∧
 (X.Kept L519 (w524.setCells (b.block) ((b.off) + 9) [.int .u8 n525, .int .u16 n526, .int .u32 n527, .int .u8 n528, .int .u8 n529, .int .u8 n530, .int .u8 n531, .int .u8 n532, .int .u8 n533, .int .u8 n534]) w536) ∧
 ((none : Option Nat) = none) ∧
 (World.there w536 (b.block) ((b.off) + 6) 1) ∧
 (¬ ((b.block) ∈ L519)) ∧
 X.CallX Tryz.prog 87 #[.pointer a_0] (w536.setCells (b.block) ((b.off) + 6) [.int .u32 n537]) fun e538 w539 =>
 ∃ q540 : Option Addr, ∃ k541 k542 : Nat, (e538 = .returned (.slice q540 k541 k542)) ∧
 (X.Kept L519 (w536.setCells (b.block) ((b.off) + 6) [.int .u32 n537]) w539) ∧
 ((none : Option Nat) = none) ∧
 (World.there w539 (b.block) ((b.off) + 19) 1) ∧
 (¬ ((b.block) ∈ L519)) ∧
 R (.returned (.bool true)) (w539.setCells (b.block) ((b.off) + 19) [.slice q540 k541 k542])
 else
 if (n1 == 1) = true then
 ∀ w493 : World, ∀ L494 : List Nat, (X.Hid [] w w493) →
 (X.NewL w.heap.size [] w w493 L494) →
 X.CallX Tryz.prog 85 #[.pointer a_0] w493 fun e495 w496 =>
 ∃ n497 n498 n499 n500 n501 n502 n503 n504 n505 n506 : Int, (e495 = .returned (.agg #[.int .u8 n497, .int .u16 n498, .int .u32 n499, .int .u8 n500, .int .u8 n501, .int .u8 n502, .int .u8 n503, .int .u8 n504, .int .u8 n505, .int .u8 n506])) ∧
 (X.Kept L494 w493 w496) ∧
 ((none : Option Nat) = none) ∧
 (World.there w496 (b.block) ((b.off) + 9) 10) ∧
 (¬ ((b.block) ∈ L494)) ∧
 X.CallX Tryz.prog 88 #[.pointer a_0] (w496.setCells (b.block) ((b.off) + 9) [.int .u8 n497, .int .u16 n498, .int .u32 n499, .int .u8 n500, .int .u8 n501, .int .u8 n502, .int .u8 n503, .int .u8 n504, .int .u8 n505, .int .u8 n506]) fun e507 w508 =>
 ∃ n509 : Int, ∃ s510 : ByteArray, (e507 = .returned (.agg #[.int .u8 n509, .string s510])) ∧
 (X.Kept L494 (w496.setCells (b.block) ((b.off) + 9) [.int .u8 n497, .int .u16 n498, .int .u32 n499, .int .u8 n500, .int .u8 n501, .int .u8 n502, .int .u8 n503, .int .u8 n504, .int .u8 n505, .int .u8 n506]) w508) ∧
 ((none : Option Nat) = none) ∧
 (World.there w508 (b.block) ((b.off) + 20) 2) ∧
 (¬ ((b.block) ∈ L494)) ∧
 X.CallX Tryz.prog 89 #[.pointer a_0] (w508.setCells (b.block) ((b.off) + 20) [.int .u8 n509, .string s510]) fun e511 w512 =>
 ∃ n513 n514 : Int, ∃ q515 : Option Addr, ∃ k516 k517 : Nat, (e511 = .returned (.agg #[.int .u8 n513, .int .u32 n514, .slice q515 k516 k517])) ∧
 (X.Kept L494 (w508.setCells (b.block) ((b.off) + 20) [.int .u8 n509, .string s510]) w512) ∧
 ((none : Option Nat) = none) ∧
 (World.there w512 (b.block) ((b.off) + 22) 3) ∧
 (¬ ((b.block) ∈ L494)) ∧
 R (.returned (.bool true)) (w512.setCells (b.block) ((b.off) + 22) [.int .u8 n513, .int .u32 n514, .slice q515 k516 k517])
 else
 if (n1 == 2) = true then
 ∀ w476 : World, ∀ L477 : List Nat, (X.Hid [] w w476) →
 (X.NewL w.heap.size [] w w476 L477) →
 X.CallX Tryz.prog 85 #[.pointer a_0] w476 fun e478 w479 =>
 ∃ n480 n481 n482 n483 n484 n485 n486 n487 n488 n489 : Int, (e478 = .returned (.agg #[.int .u8 n480, .int .u16 n481, .int .u32 n482, .int .u8 n483, .int .u8 n484, .int .u8 n485, .int .u8 n486, .int .u8 n487, .int .u8 n488, .int .u8 n489])) ∧
 (X.Kept L477 w476 w479) ∧
 ((none : Option Nat) = none) ∧
 (World.there w479 (b.block) ((b.off) + 9) 10) ∧
 (¬ ((b.block) ∈ L477)) ∧
 X.CallX Tryz.prog 34 #[.pointer a_0] (w479.setCells (b.block) ((b.off) + 9) [.int .u8 n480, .int .u16 n481, .int .u32 n482, .int .u8 n483, .int .u8 n484, .int .u8 n485, .int .u8 n486, .int .u8 n487, .int .u8 n488, .int .u8 n489]) fun e490 w491 =>
 ∃ n492 : Int, (e490 = .returned (.int .u8 n492)) ∧
 (X.Kept L477 (w479.setCells (b.block) ((b.off) + 9) [.int .u8 n480, .int .u16 n481, .int .u32 n482, .int .u8 n483, .int .u8 n484, .int .u8 n485, .int .u8 n486, .int .u8 n487, .int .u8 n488, .int .u8 n489]) w491) ∧
 ((none : Option Nat) = none) ∧
 (World.there w491 (b.block) ((b.off) + 2) 1) ∧
 (¬ ((b.block) ∈ L477)) ∧
 R (.returned (.bool true)) (w491.setCells (b.block) ((b.off) + 2) [.int .u8 n492])
 else
 if (n1 == 3) = true then
 if (n1 == 3) = true then
 ∃ x455 : X.Facts, (X.FactsW x455 w []) ∧
 ∀ w456 : World, ∀ L457 : List Nat, (X.Hid [] w w456) →
 (X.NewL w.heap.size [] w w456 L457) →
 X.CallX Tryz.prog 34 #[.pointer a_0] w456 fun e458 w459 =>
 ∃ n460 : Int, (e458 = .returned (.int .u8 n460)) ∧
 (X.Kept L457 w456 w459) ∧
 (X.FactsW x455 w459 L457) ∧
 X.CallX Tryz.prog 86 #[(.agg #[.pointer a_0])] w459 fun e461 w462 =>
 ∃ n463 : Int, (e461 = .returned (.int .u32 n463)) ∧
 (X.Kept L457 w459 w462) ∧
 (X.FactsW x455 w462 L457) ∧
 X.CallX Tryz.prog 86 #[(.agg #[.pointer a_0])] w462 fun e464 w465 =>
 ∃ n466 : Int, (e464 = .returned (.int .u32 n466)) ∧
 (X.Kept L457 w462 w465) ∧
 (X.FactsW x455 w465 L457) ∧
 ((none : Option Nat) = none) ∧
 (World.there w465 (b.block) ((b.off) + 1) 1) ∧
 (¬ ((b.block) ∈ L457)) ∧
 (X.FactsW x455 (w465.setCells (b.block) ((b.off) + 1) [.int .u8 n460]) L457) ∧
 ((none : Option Nat) = none) ∧
 (World.there (w465.setCells (b.block) ((b.off) + 1) [.int .u8 n460]) (b.block) ((b.off) + 3) 1) ∧
 (¬ ((b.block) ∈ L457)) ∧
 (X.FactsW x455 ((w465.setCells (b.block) ((b.off) + 1) [.int .u8 n460]).setCells (b.block) ((b.off) + 3) [.int .u32 n463]) L457) ∧
 ((none : Option Nat) = none) ∧
 (World.there ((w465.setCells (b.block) ((b.off) + 1) [.int .u8 n460]).setCells (b.block) ((b.off) + 3) [.int .u32 n463]) (b.block) ((b.off) + 4) 1) ∧
 (¬ ((b.block) ∈ L457)) ∧
 ∃ n467 : Int, (World.cell? (((w465.setCells (b.block) ((b.off) + 1) [.int .u8 n460]).setCells (b.block) ((b.off) + 3) [.int .u32 n463]).setCells (b.block) ((b.off) + 4) [.int .u32 n466]) (b.add 0) = some (.int .u8 n467)) ∧
 (¬ (((b.add 0).block) ∈ L457)) ∧
 if (n467 == 3) = true then
 X.CallX Tryz.prog 86 #[(.agg #[.pointer a_0])] (((w465.setCells (b.block) ((b.off) + 1) [.int .u8 n460]).setCells (b.block) ((b.off) + 3) [.int .u32 n463]).setCells (b.block) ((b.off) + 4) [.int .u32 n466]) fun e468 w469 =>
 ∃ n470 : Int, (e468 = .returned (.int .u32 n470)) ∧
 (X.Kept L457 (((w465.setCells (b.block) ((b.off) + 1) [.int .u8 n460]).setCells (b.block) ((b.off) + 3) [.int .u32 n463]).setCells (b.block) ((b.off) + 4) [.int .u32 n466]) w469) ∧
 ((none : Option Nat) = none) ∧
 (World.there w469 (b.block) ((b.off) + 5) 1) ∧
 (¬ ((b.block) ∈ L457)) ∧
 X.CallX Tryz.prog 90 #[.pointer a_0] (w469.setCells (b.block) ((b.off) + 5) [.int .u32 n470]) fun e471 w472 =>
 ∃ q473 : Option Addr, ∃ k474 k475 : Nat, (e471 = .returned (.slice q473 k474 k475)) ∧
 (X.Kept L457 (w469.setCells (b.block) ((b.off) + 5) [.int .u32 n470]) w472) ∧
 ((none : Option Nat) = none) ∧
 (World.there w472 (b.block) ((b.off) + 29) 1) ∧
 (¬ ((b.block) ∈ L457)) ∧
 R (.returned (.bool true)) (w472.setCells (b.block) ((b.off) + 29) [.slice q473 k474 k475])
 else
 R (.returned (.bool true)) (((w465.setCells (b.block) ((b.off) + 1) [.int .u8 n460]).setCells (b.block) ((b.off) + 3) [.int .u32 n463]).setCells (b.block) ((b.off) + 4) [.int .u32 n466])
 else
 if (n1 == 5) = true then
 if (n1 == 5) = true then
 ∀ w451 : World, ∀ L452 : List Nat, (X.Hid [] w w451) →
 (X.NewL w.heap.size [] w w451 L452) →
 X.CallX Tryz.prog 91 #[(.agg #[.pointer a_0]), .pointer (some b)] w451 fun e453 w454 =>
 (e453 = .returned (.tuple #[])) ∧
 (X.Kept L452 w451 w454) ∧
 R (.returned (.bool true)) w454
 else
 if (n1 == 8) = true then
 ∀ w433 : World, ∀ L434 : List Nat, (X.Hid [] w w433) →
 (X.NewL w.heap.size [] w w433 L434) →
 X.CallX Tryz.prog 91 #[(.agg #[.pointer a_0]), .pointer (some b)] w433 fun e435 w436 =>
 (e435 = .returned (.tuple #[])) ∧
 (X.Kept L434 w433 w436) ∧
 X.CallX Tryz.prog 90 #[.pointer a_0] w436 fun e437 w438 =>
 ∃ q439 : Option Addr, ∃ k440 k441 : Nat, (e437 = .returned (.slice q439 k440 k441)) ∧
 (X.Kept L434 w436 w438) ∧
 ((none : Option Nat) = none) ∧
 (World.there w438 (b.block) ((b.off) + 29) 1) ∧
 (¬ ((b.block) ∈ L434)) ∧
 X.CallX Tryz.prog 92 #[(.agg #[.pointer a_0])] (w438.setCells (b.block) ((b.off) + 29) [.slice q439 k440 k441]) fun e442 w443 =>
 ∃ b444 : Bool, (e442 = .returned (.bool b444)) ∧
 (X.Kept L434 (w438.setCells (b.block) ((b.off) + 29) [.slice q439 k440 k441]) w443) ∧
 ((none : Option Nat) = none) ∧
 (World.there w443 (b.block) ((b.off) + 27) 1) ∧
 (¬ ((b.block) ∈ L434)) ∧
 ∃ b445 : Bool, (World.cell? (w443.setCells (b.block) ((b.off) + 27) [.bool b444]) (b.add 27) = some (.bool b445)) ∧
 (¬ ((b.block) ∈ L434)) ∧
 if b445 = true then
 X.CallX Tryz.prog 93 #[(.agg #[.pointer a_0])] (w443.setCells (b.block) ((b.off) + 27) [.bool b444]) fun e446 w447 =>
 ∃ n448 : Int, (e446 = .returned (.int .u64 n448)) ∧
 (X.Kept L434 (w443.setCells (b.block) ((b.off) + 27) [.bool b444]) w447) ∧
 ((none : Option Nat) = none) ∧
 (World.there w447 (b.block) ((b.off) + 8) 1) ∧
 (¬ ((b.block) ∈ L434)) ∧
 X.CallX Tryz.prog 94 #[(.agg #[.pointer a_0]), .pointer (some b)] (w447.setCells (b.block) ((b.off) + 8) [.int .u64 n448]) fun e449 w450 =>
 (e449 = .returned (.tuple #[])) ∧
 (X.Kept L434 (w447.setCells (b.block) ((b.off) + 8) [.int .u64 n448]) w450) ∧
 R (.returned (.bool true)) w450
 else
 R (.returned (.bool true)) (w443.setCells (b.block) ((b.off) + 27) [.bool b444])
 else
 if (n1 == 9) = true then
 ∀ w427 : World, ∀ L428 : List Nat, (X.Hid [] w w427) →
 (X.NewL w.heap.size [] w w427 L428) →
 X.CallX Tryz.prog 91 #[(.agg #[.pointer a_0]), .pointer (some b)] w427 fun e429 w430 =>
 (e429 = .returned (.tuple #[])) ∧
 (X.Kept L428 w427 w430) ∧
 X.CallX Tryz.prog 94 #[(.agg #[.pointer a_0]), .pointer (some b)] w430 fun e431 w432 =>
 (e431 = .returned (.tuple #[])) ∧
 (X.Kept L428 w430 w432) ∧
 R (.returned (.bool true)) w432
 else
 if (n1 == 10) = true then
 ∀ w413 : World, ∀ L414 : List Nat, (X.Hid [] w w413) →
 (X.NewL w.heap.size [] w w413 L414) →
 X.CallX Tryz.prog 89 #[.pointer a_0] w413 fun e415 w416 =>
 ∃ n417 n418 : Int, ∃ q419 : Option Addr, ∃ k420 k421 : Nat, (e415 = .returned (.agg #[.int .u8 n417, .int .u32 n418, .slice q419 k420 k421])) ∧
 (X.Kept L414 w413 w416) ∧
 ((none : Option Nat) = none) ∧
 (World.there w416 (b.block) ((b.off) + 22) 3) ∧
 (¬ ((b.block) ∈ L414)) ∧
 X.CallX Tryz.prog 90 #[.pointer a_0] (w416.setCells (b.block) ((b.off) + 22) [.int .u8 n417, .int .u32 n418, .slice q419 k420 k421]) fun e422 w423 =>
 ∃ q424 : Option Addr, ∃ k425 k426 : Nat, (e422 = .returned (.slice q424 k425 k426)) ∧
 (X.Kept L414 (w416.setCells (b.block) ((b.off) + 22) [.int .u8 n417, .int .u32 n418, .slice q419 k420 k421]) w423) ∧
 ((none : Option Nat) = none) ∧
 (World.there w423 (b.block) ((b.off) + 29) 1) ∧
 (¬ ((b.block) ∈ L414)) ∧
 R (.returned (.bool true)) (w423.setCells (b.block) ((b.off) + 29) [.slice q424 k425 k426])
 else
 if (n1 == 11) = true then
 if (n1 == 11) = true then
 ∀ w404 : World, ∀ L405 : List Nat, (X.Hid [] w w404) →
 (X.NewL w.heap.size [] w w404 L405) →
 X.CallX Tryz.prog 34 #[.pointer a_0] w404 fun e406 w407 =>
 ∃ n408 : Int, (e406 = .returned (.int .u8 n408)) ∧
 (X.Kept L405 w404 w407) ∧
 ((none : Option Nat) = none) ∧
 (World.there w407 (b.block) ((b.off) + 1) 1) ∧
 (¬ ((b.block) ∈ L405)) ∧
 X.CallX Tryz.prog 95 #[.pointer a_0] (w407.setCells (b.block) ((b.off) + 1) [.int .u8 n408]) fun e409 w410 =>
 ∃ n411 n412 : Int, (e409 = .returned (.agg #[.int .u8 n411, .int .u16 n412])) ∧
 (X.Kept L405 (w407.setCells (b.block) ((b.off) + 1) [.int .u8 n408]) w410) ∧
 ((none : Option Nat) = none) ∧
 (World.there w410 (b.block) ((b.off) + 25) 2) ∧
 (¬ ((b.block) ∈ L405)) ∧
 R (.returned (.bool true)) (w410.setCells (b.block) ((b.off) + 25) [.int .u8 n411, .int .u16 n412])
 else
 ∀ w403 : World, (X.Hid [] w w403) →
 R (.returned (.bool false)) w403
 else
 if (n1 == 12) = true then
 if (n1 == 12) = true then
 ∀ w394 : World, ∀ L395 : List Nat, (X.Hid [] w w394) →
 (X.NewL w.heap.size [] w w394 L395) →
 X.CallX Tryz.prog 34 #[.pointer a_0] w394 fun e396 w397 =>
 ∃ n398 : Int, (e396 = .returned (.int .u8 n398)) ∧
 (X.Kept L395 w394 w397) ∧
 ((none : Option Nat) = none) ∧
 (World.there w397 (b.block) ((b.off) + 1) 1) ∧
 (¬ ((b.block) ∈ L395)) ∧
 X.CallX Tryz.prog 95 #[.pointer a_0] (w397.setCells (b.block) ((b.off) + 1) [.int .u8 n398]) fun e399 w400 =>
 ∃ n401 n402 : Int, (e399 = .returned (.agg #[.int .u8 n401, .int .u16 n402])) ∧
 (X.Kept L395 (w397.setCells (b.block) ((b.off) + 1) [.int .u8 n398]) w400) ∧
 ((none : Option Nat) = none) ∧
 (World.there w400 (b.block) ((b.off) + 25) 2) ∧
 (¬ ((b.block) ∈ L395)) ∧
 R (.returned (.bool true)) (w400.setCells (b.block) ((b.off) + 25) [.int .u8 n401, .int .u16 n402])
 else
 ∀ w393 : World, (X.Hid [] w w393) →
 R (.returned (.bool false)) w393
 else
 if (n1 == 13) = true then
 ∀ w384 : World, ∀ L385 : List Nat, (X.Hid [] w w384) →
 (X.NewL w.heap.size [] w w384 L385) →
 X.CallX Tryz.prog 34 #[.pointer a_0] w384 fun e386 w387 =>
 ∃ n388 : Int, (e386 = .returned (.int .u8 n388)) ∧
 (X.Kept L385 w384 w387) ∧
 ((none : Option Nat) = none) ∧
 (World.there w387 (b.block) ((b.off) + 1) 1) ∧
 (¬ ((b.block) ∈ L385)) ∧
 X.CallX Tryz.prog 95 #[.pointer a_0] (w387.setCells (b.block) ((b.off) + 1) [.int .u8 n388]) fun e389 w390 =>
 ∃ n391 n392 : Int, (e389 = .returned (.agg #[.int .u8 n391, .int .u16 n392])) ∧
 (X.Kept L385 (w387.setCells (b.block) ((b.off) + 1) [.int .u8 n388]) w390) ∧
 ((none : Option Nat) = none) ∧
 (World.there w390 (b.block) ((b.off) + 25) 2) ∧
 (¬ ((b.block) ∈ L385)) ∧
 R (.returned (.bool true)) (w390.setCells (b.block) ((b.off) + 25) [.int .u8 n391, .int .u16 n392])
 else
 ∀ w383 : World, (X.Hid [] w w383) →
 R (.returned (.bool false)) w383
 else
 if (n1 == 6) = true then
 if (n1 == 6) = true then
 ∀ w379 : World, ∀ L380 : List Nat, (X.Hid [] w w379) →
 (X.NewL w.heap.size [] w w379 L380) →
 X.CallX Tryz.prog 91 #[(.agg #[.pointer a_0]), .pointer (some b)] w379 fun e381 w382 =>
 (e381 = .returned (.tuple #[])) ∧
 (X.Kept L380 w379 w382) ∧
 R (.returned (.bool true)) w382
 else
 if (n1 == 8) = true then
 ∀ w361 : World, ∀ L362 : List Nat, (X.Hid [] w w361) →
 (X.NewL w.heap.size [] w w361 L362) →
 X.CallX Tryz.prog 91 #[(.agg #[.pointer a_0]), .pointer (some b)] w361 fun e363 w364 =>
 (e363 = .returned (.tuple #[])) ∧
 (X.Kept L362 w361 w364) ∧
 X.CallX Tryz.prog 90 #[.pointer a_0] w364 fun e365 w366 =>
 ∃ q367 : Option Addr, ∃ k368 k369 : Nat, (e365 = .returned (.slice q367 k368 k369)) ∧
 (X.Kept L362 w364 w366) ∧
 ((none : Option Nat) = none) ∧
 (World.there w366 (b.block) ((b.off) + 29) 1) ∧
 (¬ ((b.block) ∈ L362)) ∧
 X.CallX Tryz.prog 92 #[(.agg #[.pointer a_0])] (w366.setCells (b.block) ((b.off) + 29) [.slice q367 k368 k369]) fun e370 w371 =>
 ∃ b372 : Bool, (e370 = .returned (.bool b372)) ∧
 (X.Kept L362 (w366.setCells (b.block) ((b.off) + 29) [.slice q367 k368 k369]) w371) ∧
 ((none : Option Nat) = none) ∧
 (World.there w371 (b.block) ((b.off) + 27) 1) ∧
 (¬ ((b.block) ∈ L362)) ∧
 ∃ b373 : Bool, (World.cell? (w371.setCells (b.block) ((b.off) + 27) [.bool b372]) (b.add 27) = some (.bool b373)) ∧
 (¬ ((b.block) ∈ L362)) ∧
 if b373 = true then
 X.CallX Tryz.prog 93 #[(.agg #[.pointer a_0])] (w371.setCells (b.block) ((b.off) + 27) [.bool b372]) fun e374 w375 =>
 ∃ n376 : Int, (e374 = .returned (.int .u64 n376)) ∧
 (X.Kept L362 (w371.setCells (b.block) ((b.off) + 27) [.bool b372]) w375) ∧
 ((none : Option Nat) = none) ∧
 (World.there w375 (b.block) ((b.off) + 8) 1) ∧
 (¬ ((b.block) ∈ L362)) ∧
 X.CallX Tryz.prog 94 #[(.agg #[.pointer a_0]), .pointer (some b)] (w375.setCells (b.block) ((b.off) + 8) [.int .u64 n376]) fun e377 w378 =>
 (e377 = .returned (.tuple #[])) ∧
 (X.Kept L362 (w375.setCells (b.block) ((b.off) + 8) [.int .u64 n376]) w378) ∧
 R (.returned (.bool true)) w378
 else
 R (.returned (.bool true)) (w371.setCells (b.block) ((b.off) + 27) [.bool b372])
 else
 if (n1 == 9) = true then
 ∀ w355 : World, ∀ L356 : List Nat, (X.Hid [] w w355) →
 (X.NewL w.heap.size [] w w355 L356) →
 X.CallX Tryz.prog 91 #[(.agg #[.pointer a_0]), .pointer (some b)] w355 fun e357 w358 =>
 (e357 = .returned (.tuple #[])) ∧
 (X.Kept L356 w355 w358) ∧
 X.CallX Tryz.prog 94 #[(.agg #[.pointer a_0]), .pointer (some b)] w358 fun e359 w360 =>
 (e359 = .returned (.tuple #[])) ∧
 (X.Kept L356 w358 w360) ∧
 R (.returned (.bool true)) w360
 else
 if (n1 == 10) = true then
 ∀ w341 : World, ∀ L342 : List Nat, (X.Hid [] w w341) →
 (X.NewL w.heap.size [] w w341 L342) →
 X.CallX Tryz.prog 89 #[.pointer a_0] w341 fun e343 w344 =>
 ∃ n345 n346 : Int, ∃ q347 : Option Addr, ∃ k348 k349 : Nat, (e343 = .returned (.agg #[.int .u8 n345, .int .u32 n346, .slice q347 k348 k349])) ∧
 (X.Kept L342 w341 w344) ∧
 ((none : Option Nat) = none) ∧
 (World.there w344 (b.block) ((b.off) + 22) 3) ∧
 (¬ ((b.block) ∈ L342)) ∧
 X.CallX Tryz.prog 90 #[.pointer a_0] (w344.setCells (b.block) ((b.off) + 22) [.int .u8 n345, .int .u32 n346, .slice q347 k348 k349]) fun e350 w351 =>
 ∃ q352 : Option Addr, ∃ k353 k354 : Nat, (e350 = .returned (.slice q352 k353 k354)) ∧
 (X.Kept L342 (w344.setCells (b.block) ((b.off) + 22) [.int .u8 n345, .int .u32 n346, .slice q347 k348 k349]) w351) ∧
 ((none : Option Nat) = none) ∧
 (World.there w351 (b.block) ((b.off) + 29) 1) ∧
 (¬ ((b.block) ∈ L342)) ∧
 R (.returned (.bool true)) (w351.setCells (b.block) ((b.off) + 29) [.slice q352 k353 k354])
 else
 if (n1 == 11) = true then
 if (n1 == 11) = true then
 ∀ w332 : World, ∀ L333 : List Nat, (X.Hid [] w w332) →
 (X.NewL w.heap.size [] w w332 L333) →
 X.CallX Tryz.prog 34 #[.pointer a_0] w332 fun e334 w335 =>
 ∃ n336 : Int, (e334 = .returned (.int .u8 n336)) ∧
 (X.Kept L333 w332 w335) ∧
 ((none : Option Nat) = none) ∧
 (World.there w335 (b.block) ((b.off) + 1) 1) ∧
 (¬ ((b.block) ∈ L333)) ∧
 X.CallX Tryz.prog 95 #[.pointer a_0] (w335.setCells (b.block) ((b.off) + 1) [.int .u8 n336]) fun e337 w338 =>
 ∃ n339 n340 : Int, (e337 = .returned (.agg #[.int .u8 n339, .int .u16 n340])) ∧
 (X.Kept L333 (w335.setCells (b.block) ((b.off) + 1) [.int .u8 n336]) w338) ∧
 ((none : Option Nat) = none) ∧
 (World.there w338 (b.block) ((b.off) + 25) 2) ∧
 (¬ ((b.block) ∈ L333)) ∧
 R (.returned (.bool true)) (w338.setCells (b.block) ((b.off) + 25) [.int .u8 n339, .int .u16 n340])
 else
 ∀ w331 : World, (X.Hid [] w w331) →
 R (.returned (.bool false)) w331
 else
 if (n1 == 12) = true then
 if (n1 == 12) = true then
 ∀ w322 : World, ∀ L323 : List Nat, (X.Hid [] w w322) →
 (X.NewL w.heap.size [] w w322 L323) →
 X.CallX Tryz.prog 34 #[.pointer a_0] w322 fun e324 w325 =>
 ∃ n326 : Int, (e324 = .returned (.int .u8 n326)) ∧
 (X.Kept L323 w322 w325) ∧
 ((none : Option Nat) = none) ∧
 (World.there w325 (b.block) ((b.off) + 1) 1) ∧
 (¬ ((b.block) ∈ L323)) ∧
 X.CallX Tryz.prog 95 #[.pointer a_0] (w325.setCells (b.block) ((b.off) + 1) [.int .u8 n326]) fun e327 w328 =>
 ∃ n329 n330 : Int, (e327 = .returned (.agg #[.int .u8 n329, .int .u16 n330])) ∧
 (X.Kept L323 (w325.setCells (b.block) ((b.off) + 1) [.int .u8 n326]) w328) ∧
 ((none : Option Nat) = none) ∧
 (World.there w328 (b.block) ((b.off) + 25) 2) ∧
 (¬ ((b.block) ∈ L323)) ∧
 R (.returned (.bool true)) (w328.setCells (b.block) ((b.off) + 25) [.int .u8 n329, .int .u16 n330])
 else
 ∀ w321 : World, (X.Hid [] w w321) →
 R (.returned (.bool false)) w321
 else
 if (n1 == 13) = true then
 ∀ w312 : World, ∀ L313 : List Nat, (X.Hid [] w w312) →
 (X.NewL w.heap.size [] w w312 L313) →
 X.CallX Tryz.prog 34 #[.pointer a_0] w312 fun e314 w315 =>
 ∃ n316 : Int, (e314 = .returned (.int .u8 n316)) ∧
 (X.Kept L313 w312 w315) ∧
 ((none : Option Nat) = none) ∧
 (World.there w315 (b.block) ((b.off) + 1) 1) ∧
 (¬ ((b.block) ∈ L313)) ∧
 X.CallX Tryz.prog 95 #[.pointer a_0] (w315.setCells (b.block) ((b.off) + 1) [.int .u8 n316]) fun e317 w318 =>
 ∃ n319 n320 : Int, (e317 = .returned (.agg #[.int .u8 n319, .int .u16 n320])) ∧
 (X.Kept L313 (w315.setCells (b.block) ((b.off) + 1) [.int .u8 n316]) w318) ∧
 ((none : Option Nat) = none) ∧
 (World.there w318 (b.block) ((b.off) + 25) 2) ∧
 (¬ ((b.block) ∈ L313)) ∧
 R (.returned (.bool true)) (w318.setCells (b.block) ((b.off) + 25) [.int .u8 n319, .int .u16 n320])
 else
 ∀ w311 : World, (X.Hid [] w w311) →
 R (.returned (.bool false)) w311
 else
 if (n1 == 7) = true then
 ∀ w307 : World, ∀ L308 : List Nat, (X.Hid [] w w307) →
 (X.NewL w.heap.size [] w w307 L308) →
 X.CallX Tryz.prog 91 #[(.agg #[.pointer a_0]), .pointer (some b)] w307 fun e309 w310 =>
 (e309 = .returned (.tuple #[])) ∧
 (X.Kept L308 w307 w310) ∧
 R (.returned (.bool true)) w310
 else
 if (n1 == 8) = true then
 ∀ w289 : World, ∀ L290 : List Nat, (X.Hid [] w w289) →
 (X.NewL w.heap.size [] w w289 L290) →
 X.CallX Tryz.prog 91 #[(.agg #[.pointer a_0]), .pointer (some b)] w289 fun e291 w292 =>
 (e291 = .returned (.tuple #[])) ∧
 (X.Kept L290 w289 w292) ∧
 X.CallX Tryz.prog 90 #[.pointer a_0] w292 fun e293 w294 =>
 ∃ q295 : Option Addr, ∃ k296 k297 : Nat, (e293 = .returned (.slice q295 k296 k297)) ∧
 (X.Kept L290 w292 w294) ∧
 ((none : Option Nat) = none) ∧
 (World.there w294 (b.block) ((b.off) + 29) 1) ∧
 (¬ ((b.block) ∈ L290)) ∧
 X.CallX Tryz.prog 92 #[(.agg #[.pointer a_0])] (w294.setCells (b.block) ((b.off) + 29) [.slice q295 k296 k297]) fun e298 w299 =>
 ∃ b300 : Bool, (e298 = .returned (.bool b300)) ∧
 (X.Kept L290 (w294.setCells (b.block) ((b.off) + 29) [.slice q295 k296 k297]) w299) ∧
 ((none : Option Nat) = none) ∧
 (World.there w299 (b.block) ((b.off) + 27) 1) ∧
 (¬ ((b.block) ∈ L290)) ∧
 ∃ b301 : Bool, (World.cell? (w299.setCells (b.block) ((b.off) + 27) [.bool b300]) (b.add 27) = some (.bool b301)) ∧
 (¬ ((b.block) ∈ L290)) ∧
 if b301 = true then
 X.CallX Tryz.prog 93 #[(.agg #[.pointer a_0])] (w299.setCells (b.block) ((b.off) + 27) [.bool b300]) fun e302 w303 =>
 ∃ n304 : Int, (e302 = .returned (.int .u64 n304)) ∧
 (X.Kept L290 (w299.setCells (b.block) ((b.off) + 27) [.bool b300]) w303) ∧
 ((none : Option Nat) = none) ∧
 (World.there w303 (b.block) ((b.off) + 8) 1) ∧
 (¬ ((b.block) ∈ L290)) ∧
 X.CallX Tryz.prog 94 #[(.agg #[.pointer a_0]), .pointer (some b)] (w303.setCells (b.block) ((b.off) + 8) [.int .u64 n304]) fun e305 w306 =>
 (e305 = .returned (.tuple #[])) ∧
 (X.Kept L290 (w303.setCells (b.block) ((b.off) + 8) [.int .u64 n304]) w306) ∧
 R (.returned (.bool true)) w306
 else
 R (.returned (.bool true)) (w299.setCells (b.block) ((b.off) + 27) [.bool b300])
 else
 if (n1 == 9) = true then
 ∀ w283 : World, ∀ L284 : List Nat, (X.Hid [] w w283) →
 (X.NewL w.heap.size [] w w283 L284) →
 X.CallX Tryz.prog 91 #[(.agg #[.pointer a_0]), .pointer (some b)] w283 fun e285 w286 =>
 (e285 = .returned (.tuple #[])) ∧
 (X.Kept L284 w283 w286) ∧
 X.CallX Tryz.prog 94 #[(.agg #[.pointer a_0]), .pointer (some b)] w286 fun e287 w288 =>
 (e287 = .returned (.tuple #[])) ∧
 (X.Kept L284 w286 w288) ∧
 R (.returned (.bool true)) w288
 else
 if (n1 == 10) = true then
 ∀ w269 : World, ∀ L270 : List Nat, (X.Hid [] w w269) →
 (X.NewL w.heap.size [] w w269 L270) →
 X.CallX Tryz.prog 89 #[.pointer a_0] w269 fun e271 w272 =>
 ∃ n273 n274 : Int, ∃ q275 : Option Addr, ∃ k276 k277 : Nat, (e271 = .returned (.agg #[.int .u8 n273, .int .u32 n274, .slice q275 k276 k277])) ∧
 (X.Kept L270 w269 w272) ∧
 ((none : Option Nat) = none) ∧
 (World.there w272 (b.block) ((b.off) + 22) 3) ∧
 (¬ ((b.block) ∈ L270)) ∧
 X.CallX Tryz.prog 90 #[.pointer a_0] (w272.setCells (b.block) ((b.off) + 22) [.int .u8 n273, .int .u32 n274, .slice q275 k276 k277]) fun e278 w279 =>
 ∃ q280 : Option Addr, ∃ k281 k282 : Nat, (e278 = .returned (.slice q280 k281 k282)) ∧
 (X.Kept L270 (w272.setCells (b.block) ((b.off) + 22) [.int .u8 n273, .int .u32 n274, .slice q275 k276 k277]) w279) ∧
 ((none : Option Nat) = none) ∧
 (World.there w279 (b.block) ((b.off) + 29) 1) ∧
 (¬ ((b.block) ∈ L270)) ∧
 R (.returned (.bool true)) (w279.setCells (b.block) ((b.off) + 29) [.slice q280 k281 k282])
 else
 if (n1 == 11) = true then
 if (n1 == 11) = true then
 ∀ w260 : World, ∀ L261 : List Nat, (X.Hid [] w w260) →
 (X.NewL w.heap.size [] w w260 L261) →
 X.CallX Tryz.prog 34 #[.pointer a_0] w260 fun e262 w263 =>
 ∃ n264 : Int, (e262 = .returned (.int .u8 n264)) ∧
 (X.Kept L261 w260 w263) ∧
 ((none : Option Nat) = none) ∧
 (World.there w263 (b.block) ((b.off) + 1) 1) ∧
 (¬ ((b.block) ∈ L261)) ∧
 X.CallX Tryz.prog 95 #[.pointer a_0] (w263.setCells (b.block) ((b.off) + 1) [.int .u8 n264]) fun e265 w266 =>
 ∃ n267 n268 : Int, (e265 = .returned (.agg #[.int .u8 n267, .int .u16 n268])) ∧
 (X.Kept L261 (w263.setCells (b.block) ((b.off) + 1) [.int .u8 n264]) w266) ∧
 ((none : Option Nat) = none) ∧
 (World.there w266 (b.block) ((b.off) + 25) 2) ∧
 (¬ ((b.block) ∈ L261)) ∧
 R (.returned (.bool true)) (w266.setCells (b.block) ((b.off) + 25) [.int .u8 n267, .int .u16 n268])
 else
 ∀ w259 : World, (X.Hid [] w w259) →
 R (.returned (.bool false)) w259
 else
 if (n1 == 12) = true then
 if (n1 == 12) = true then
 ∀ w250 : World, ∀ L251 : List Nat, (X.Hid [] w w250) →
 (X.NewL w.heap.size [] w w250 L251) →
 X.CallX Tryz.prog 34 #[.pointer a_0] w250 fun e252 w253 =>
 ∃ n254 : Int, (e252 = .returned (.int .u8 n254)) ∧
 (X.Kept L251 w250 w253) ∧
 ((none : Option Nat) = none) ∧
 (World.there w253 (b.block) ((b.off) + 1) 1) ∧
 (¬ ((b.block) ∈ L251)) ∧
 X.CallX Tryz.prog 95 #[.pointer a_0] (w253.setCells (b.block) ((b.off) + 1) [.int .u8 n254]) fun e255 w256 =>
 ∃ n257 n258 : Int, (e255 = .returned (.agg #[.int .u8 n257, .int .u16 n258])) ∧
 (X.Kept L251 (w253.setCells (b.block) ((b.off) + 1) [.int .u8 n254]) w256) ∧
 ((none : Option Nat) = none) ∧
 (World.there w256 (b.block) ((b.off) + 25) 2) ∧
 (¬ ((b.block) ∈ L251)) ∧
 R (.returned (.bool true)) (w256.setCells (b.block) ((b.off) + 25) [.int .u8 n257, .int .u16 n258])
 else
 ∀ w249 : World, (X.Hid [] w w249) →
 R (.returned (.bool false)) w249
 else
 if (n1 == 13) = true then
 ∀ w240 : World, ∀ L241 : List Nat, (X.Hid [] w w240) →
 (X.NewL w.heap.size [] w w240 L241) →
 X.CallX Tryz.prog 34 #[.pointer a_0] w240 fun e242 w243 =>
 ∃ n244 : Int, (e242 = .returned (.int .u8 n244)) ∧
 (X.Kept L241 w240 w243) ∧
 ((none : Option Nat) = none) ∧
 (World.there w243 (b.block) ((b.off) + 1) 1) ∧
 (¬ ((b.block) ∈ L241)) ∧
 X.CallX Tryz.prog 95 #[.pointer a_0] (w243.setCells (b.block) ((b.off) + 1) [.int .u8 n244]) fun e245 w246 =>
 ∃ n247 n248 : Int, (e245 = .returned (.agg #[.int .u8 n247, .int .u16 n248])) ∧
 (X.Kept L241 (w243.setCells (b.block) ((b.off) + 1) [.int .u8 n244]) w246) ∧
 ((none : Option Nat) = none) ∧
 (World.there w246 (b.block) ((b.off) + 25) 2) ∧
 (¬ ((b.block) ∈ L241)) ∧
 R (.returned (.bool true)) (w246.setCells (b.block) ((b.off) + 25) [.int .u8 n247, .int .u16 n248])
 else
 ∀ w239 : World, (X.Hid [] w w239) →
 R (.returned (.bool false)) w239
 else
 if (n1 == 4) = true then
 ∃ x218 : X.Facts, (X.FactsW x218 w []) ∧
 ∀ w219 : World, ∀ L220 : List Nat, (X.Hid [] w w219) →
 (X.NewL w.heap.size [] w w219 L220) →
 X.CallX Tryz.prog 34 #[.pointer a_0] w219 fun e221 w222 =>
 ∃ n223 : Int, (e221 = .returned (.int .u8 n223)) ∧
 (X.Kept L220 w219 w222) ∧
 (X.FactsW x218 w222 L220) ∧
 X.CallX Tryz.prog 86 #[(.agg #[.pointer a_0])] w222 fun e224 w225 =>
 ∃ n226 : Int, (e224 = .returned (.int .u32 n226)) ∧
 (X.Kept L220 w222 w225) ∧
 (X.FactsW x218 w225 L220) ∧
 X.CallX Tryz.prog 86 #[(.agg #[.pointer a_0])] w225 fun e227 w228 =>
 ∃ n229 : Int, (e227 = .returned (.int .u32 n229)) ∧
 (X.Kept L220 w225 w228) ∧
 (X.FactsW x218 w228 L220) ∧
 ((none : Option Nat) = none) ∧
 (World.there w228 (b.block) ((b.off) + 1) 1) ∧
 (¬ ((b.block) ∈ L220)) ∧
 (X.FactsW x218 (w228.setCells (b.block) ((b.off) + 1) [.int .u8 n223]) L220) ∧
 ((none : Option Nat) = none) ∧
 (World.there (w228.setCells (b.block) ((b.off) + 1) [.int .u8 n223]) (b.block) ((b.off) + 3) 1) ∧
 (¬ ((b.block) ∈ L220)) ∧
 (X.FactsW x218 ((w228.setCells (b.block) ((b.off) + 1) [.int .u8 n223]).setCells (b.block) ((b.off) + 3) [.int .u32 n226]) L220) ∧
 ((none : Option Nat) = none) ∧
 (World.there ((w228.setCells (b.block) ((b.off) + 1) [.int .u8 n223]).setCells (b.block) ((b.off) + 3) [.int .u32 n226]) (b.block) ((b.off) + 4) 1) ∧
 (¬ ((b.block) ∈ L220)) ∧
 ∃ n230 : Int, (World.cell? (((w228.setCells (b.block) ((b.off) + 1) [.int .u8 n223]).setCells (b.block) ((b.off) + 3) [.int .u32 n226]).setCells (b.block) ((b.off) + 4) [.int .u32 n229]) (b.add 0) = some (.int .u8 n230)) ∧
 (¬ (((b.add 0).block) ∈ L220)) ∧
 if (n230 == 3) = true then
 X.CallX Tryz.prog 86 #[(.agg #[.pointer a_0])] (((w228.setCells (b.block) ((b.off) + 1) [.int .u8 n223]).setCells (b.block) ((b.off) + 3) [.int .u32 n226]).setCells (b.block) ((b.off) + 4) [.int .u32 n229]) fun e231 w232 =>
 ∃ n233 : Int, (e231 = .returned (.int .u32 n233)) ∧
 (X.Kept L220 (((w228.setCells (b.block) ((b.off) + 1) [.int .u8 n223]).setCells (b.block) ((b.off) + 3) [.int .u32 n226]).setCells (b.block) ((b.off) + 4) [.int .u32 n229]) w232) ∧
 ((none : Option Nat) = none) ∧
 (World.there w232 (b.block) ((b.off) + 5) 1) ∧
 (¬ ((b.block) ∈ L220)) ∧
 X.CallX Tryz.prog 90 #[.pointer a_0] (w232.setCells (b.block) ((b.off) + 5) [.int .u32 n233]) fun e234 w235 =>
 ∃ q236 : Option Addr, ∃ k237 k238 : Nat, (e234 = .returned (.slice q236 k237 k238)) ∧
 (X.Kept L220 (w232.setCells (b.block) ((b.off) + 5) [.int .u32 n233]) w235) ∧
 ((none : Option Nat) = none) ∧
 (World.there w235 (b.block) ((b.off) + 29) 1) ∧
 (¬ ((b.block) ∈ L220)) ∧
 R (.returned (.bool true)) (w235.setCells (b.block) ((b.off) + 29) [.slice q236 k237 k238])
 else
 R (.returned (.bool true)) (((w228.setCells (b.block) ((b.off) + 1) [.int .u8 n223]).setCells (b.block) ((b.off) + 3) [.int .u32 n226]).setCells (b.block) ((b.off) + 4) [.int .u32 n229])
 else
 if (n1 == 5) = true then
 if (n1 == 5) = true then
 ∀ w214 : World, ∀ L215 : List Nat, (X.Hid [] w w214) →
 (X.NewL w.heap.size [] w w214 L215) →
 X.CallX Tryz.prog 91 #[(.agg #[.pointer a_0]), .pointer (some b)] w214 fun e216 w217 =>
 (e216 = .returned (.tuple #[])) ∧
 (X.Kept L215 w214 w217) ∧
 R (.returned (.bool true)) w217
 else
 if (n1 == 8) = true then
 ∀ w196 : World, ∀ L197 : List Nat, (X.Hid [] w w196) →
 (X.NewL w.heap.size [] w w196 L197) →
 X.CallX Tryz.prog 91 #[(.agg #[.pointer a_0]), .pointer (some b)] w196 fun e198 w199 =>
 (e198 = .returned (.tuple #[])) ∧
 (X.Kept L197 w196 w199) ∧
 X.CallX Tryz.prog 90 #[.pointer a_0] w199 fun e200 w201 =>
 ∃ q202 : Option Addr, ∃ k203 k204 : Nat, (e200 = .returned (.slice q202 k203 k204)) ∧
 (X.Kept L197 w199 w201) ∧
 ((none : Option Nat) = none) ∧
 (World.there w201 (b.block) ((b.off) + 29) 1) ∧
 (¬ ((b.block) ∈ L197)) ∧
 X.CallX Tryz.prog 92 #[(.agg #[.pointer a_0])] (w201.setCells (b.block) ((b.off) + 29) [.slice q202 k203 k204]) fun e205 w206 =>
 ∃ b207 : Bool, (e205 = .returned (.bool b207)) ∧
 (X.Kept L197 (w201.setCells (b.block) ((b.off) + 29) [.slice q202 k203 k204]) w206) ∧
 ((none : Option Nat) = none) ∧
 (World.there w206 (b.block) ((b.off) + 27) 1) ∧
 (¬ ((b.block) ∈ L197)) ∧
 ∃ b208 : Bool, (World.cell? (w206.setCells (b.block) ((b.off) + 27) [.bool b207]) (b.add 27) = some (.bool b208)) ∧
 (¬ ((b.block) ∈ L197)) ∧
 if b208 = true then
 X.CallX Tryz.prog 93 #[(.agg #[.pointer a_0])] (w206.setCells (b.block) ((b.off) + 27) [.bool b207]) fun e209 w210 =>
 ∃ n211 : Int, (e209 = .returned (.int .u64 n211)) ∧
 (X.Kept L197 (w206.setCells (b.block) ((b.off) + 27) [.bool b207]) w210) ∧
 ((none : Option Nat) = none) ∧
 (World.there w210 (b.block) ((b.off) + 8) 1) ∧
 (¬ ((b.block) ∈ L197)) ∧
 X.CallX Tryz.prog 94 #[(.agg #[.pointer a_0]), .pointer (some b)] (w210.setCells (b.block) ((b.off) + 8) [.int .u64 n211]) fun e212 w213 =>
 (e212 = .returned (.tuple #[])) ∧
 (X.Kept L197 (w210.setCells (b.block) ((b.off) + 8) [.int .u64 n211]) w213) ∧
 R (.returned (.bool true)) w213
 else
 R (.returned (.bool true)) (w206.setCells (b.block) ((b.off) + 27) [.bool b207])
 else
 if (n1 == 9) = true then
 ∀ w190 : World, ∀ L191 : List Nat, (X.Hid [] w w190) →
 (X.NewL w.heap.size [] w w190 L191) →
 X.CallX Tryz.prog 91 #[(.agg #[.pointer a_0]), .pointer (some b)] w190 fun e192 w193 =>
 (e192 = .returned (.tuple #[])) ∧
 (X.Kept L191 w190 w193) ∧
 X.CallX Tryz.prog 94 #[(.agg #[.pointer a_0]), .pointer (some b)] w193 fun e194 w195 =>
 (e194 = .returned (.tuple #[])) ∧
 (X.Kept L191 w193 w195) ∧
 R (.returned (.bool true)) w195
 else
 if (n1 == 10) = true then
 ∀ w176 : World, ∀ L177 : List Nat, (X.Hid [] w w176) →
 (X.NewL w.heap.size [] w w176 L177) →
 X.CallX Tryz.prog 89 #[.pointer a_0] w176 fun e178 w179 =>
 ∃ n180 n181 : Int, ∃ q182 : Option Addr, ∃ k183 k184 : Nat, (e178 = .returned (.agg #[.int .u8 n180, .int .u32 n181, .slice q182 k183 k184])) ∧
 (X.Kept L177 w176 w179) ∧
 ((none : Option Nat) = none) ∧
 (World.there w179 (b.block) ((b.off) + 22) 3) ∧
 (¬ ((b.block) ∈ L177)) ∧
 X.CallX Tryz.prog 90 #[.pointer a_0] (w179.setCells (b.block) ((b.off) + 22) [.int .u8 n180, .int .u32 n181, .slice q182 k183 k184]) fun e185 w186 =>
 ∃ q187 : Option Addr, ∃ k188 k189 : Nat, (e185 = .returned (.slice q187 k188 k189)) ∧
 (X.Kept L177 (w179.setCells (b.block) ((b.off) + 22) [.int .u8 n180, .int .u32 n181, .slice q182 k183 k184]) w186) ∧
 ((none : Option Nat) = none) ∧
 (World.there w186 (b.block) ((b.off) + 29) 1) ∧
 (¬ ((b.block) ∈ L177)) ∧
 R (.returned (.bool true)) (w186.setCells (b.block) ((b.off) + 29) [.slice q187 k188 k189])
 else
 if (n1 == 11) = true then
 if (n1 == 11) = true then
 ∀ w167 : World, ∀ L168 : List Nat, (X.Hid [] w w167) →
 (X.NewL w.heap.size [] w w167 L168) →
 X.CallX Tryz.prog 34 #[.pointer a_0] w167 fun e169 w170 =>
 ∃ n171 : Int, (e169 = .returned (.int .u8 n171)) ∧
 (X.Kept L168 w167 w170) ∧
 ((none : Option Nat) = none) ∧
 (World.there w170 (b.block) ((b.off) + 1) 1) ∧
 (¬ ((b.block) ∈ L168)) ∧
 X.CallX Tryz.prog 95 #[.pointer a_0] (w170.setCells (b.block) ((b.off) + 1) [.int .u8 n171]) fun e172 w173 =>
 ∃ n174 n175 : Int, (e172 = .returned (.agg #[.int .u8 n174, .int .u16 n175])) ∧
 (X.Kept L168 (w170.setCells (b.block) ((b.off) + 1) [.int .u8 n171]) w173) ∧
 ((none : Option Nat) = none) ∧
 (World.there w173 (b.block) ((b.off) + 25) 2) ∧
 (¬ ((b.block) ∈ L168)) ∧
 R (.returned (.bool true)) (w173.setCells (b.block) ((b.off) + 25) [.int .u8 n174, .int .u16 n175])
 else
 ∀ w166 : World, (X.Hid [] w w166) →
 R (.returned (.bool false)) w166
 else
 if (n1 == 12) = true then
 if (n1 == 12) = true then
 ∀ w157 : World, ∀ L158 : List Nat, (X.Hid [] w w157) →
 (X.NewL w.heap.size [] w w157 L158) →
 X.CallX Tryz.prog 34 #[.pointer a_0] w157 fun e159 w160 =>
 ∃ n161 : Int, (e159 = .returned (.int .u8 n161)) ∧
 (X.Kept L158 w157 w160) ∧
 ((none : Option Nat) = none) ∧
 (World.there w160 (b.block) ((b.off) + 1) 1) ∧
 (¬ ((b.block) ∈ L158)) ∧
 X.CallX Tryz.prog 95 #[.pointer a_0] (w160.setCells (b.block) ((b.off) + 1) [.int .u8 n161]) fun e162 w163 =>
 ∃ n164 n165 : Int, (e162 = .returned (.agg #[.int .u8 n164, .int .u16 n165])) ∧
 (X.Kept L158 (w160.setCells (b.block) ((b.off) + 1) [.int .u8 n161]) w163) ∧
 ((none : Option Nat) = none) ∧
 (World.there w163 (b.block) ((b.off) + 25) 2) ∧
 (¬ ((b.block) ∈ L158)) ∧
 R (.returned (.bool true)) (w163.setCells (b.block) ((b.off) + 25) [.int .u8 n164, .int .u16 n165])
 else
 ∀ w156 : World, (X.Hid [] w w156) →
 R (.returned (.bool false)) w156
 else
 if (n1 == 13) = true then
 ∀ w147 : World, ∀ L148 : List Nat, (X.Hid [] w w147) →
 (X.NewL w.heap.size [] w w147 L148) →
 X.CallX Tryz.prog 34 #[.pointer a_0] w147 fun e149 w150 =>
 ∃ n151 : Int, (e149 = .returned (.int .u8 n151)) ∧
 (X.Kept L148 w147 w150) ∧
 ((none : Option Nat) = none) ∧
 (World.there w150 (b.block) ((b.off) + 1) 1) ∧
 (¬ ((b.block) ∈ L148)) ∧
 X.CallX Tryz.prog 95 #[.pointer a_0] (w150.setCells (b.block) ((b.off) + 1) [.int .u8 n151]) fun e152 w153 =>
 ∃ n154 n155 : Int, (e152 = .returned (.agg #[.int .u8 n154, .int .u16 n155])) ∧
 (X.Kept L148 (w150.setCells (b.block) ((b.off) + 1) [.int .u8 n151]) w153) ∧
 ((none : Option Nat) = none) ∧
 (World.there w153 (b.block) ((b.off) + 25) 2) ∧
 (¬ ((b.block) ∈ L148)) ∧
 R (.returned (.bool true)) (w153.setCells (b.block) ((b.off) + 25) [.int .u8 n154, .int .u16 n155])
 else
 ∀ w146 : World, (X.Hid [] w w146) →
 R (.returned (.bool false)) w146
 else
 if (n1 == 6) = true then
 if (n1 == 6) = true then
 ∀ w142 : World, ∀ L143 : List Nat, (X.Hid [] w w142) →
 (X.NewL w.heap.size [] w w142 L143) →
 X.CallX Tryz.prog 91 #[(.agg #[.pointer a_0]), .pointer (some b)] w142 fun e144 w145 =>
 (e144 = .returned (.tuple #[])) ∧
 (X.Kept L143 w142 w145) ∧
 R (.returned (.bool true)) w145
 else
 if (n1 == 8) = true then
 ∀ w124 : World, ∀ L125 : List Nat, (X.Hid [] w w124) →
 (X.NewL w.heap.size [] w w124 L125) →
 X.CallX Tryz.prog 91 #[(.agg #[.pointer a_0]), .pointer (some b)] w124 fun e126 w127 =>
 (e126 = .returned (.tuple #[])) ∧
 (X.Kept L125 w124 w127) ∧
 X.CallX Tryz.prog 90 #[.pointer a_0] w127 fun e128 w129 =>
 ∃ q130 : Option Addr, ∃ k131 k132 : Nat, (e128 = .returned (.slice q130 k131 k132)) ∧
 (X.Kept L125 w127 w129) ∧
 ((none : Option Nat) = none) ∧
 (World.there w129 (b.block) ((b.off) + 29) 1) ∧
 (¬ ((b.block) ∈ L125)) ∧
 X.CallX Tryz.prog 92 #[(.agg #[.pointer a_0])] (w129.setCells (b.block) ((b.off) + 29) [.slice q130 k131 k132]) fun e133 w134 =>
 ∃ b135 : Bool, (e133 = .returned (.bool b135)) ∧
 (X.Kept L125 (w129.setCells (b.block) ((b.off) + 29) [.slice q130 k131 k132]) w134) ∧
 ((none : Option Nat) = none) ∧
 (World.there w134 (b.block) ((b.off) + 27) 1) ∧
 (¬ ((b.block) ∈ L125)) ∧
 ∃ b136 : Bool, (World.cell? (w134.setCells (b.block) ((b.off) + 27) [.bool b135]) (b.add 27) = some (.bool b136)) ∧
 (¬ ((b.block) ∈ L125)) ∧
 if b136 = true then
 X.CallX Tryz.prog 93 #[(.agg #[.pointer a_0])] (w134.setCells (b.block) ((b.off) + 27) [.bool b135]) fun e137 w138 =>
 ∃ n139 : Int, (e137 = .returned (.int .u64 n139)) ∧
 (X.Kept L125 (w134.setCells (b.block) ((b.off) + 27) [.bool b135]) w138) ∧
 ((none : Option Nat) = none) ∧
 (World.there w138 (b.block) ((b.off) + 8) 1) ∧
 (¬ ((b.block) ∈ L125)) ∧
 X.CallX Tryz.prog 94 #[(.agg #[.pointer a_0]), .pointer (some b)] (w138.setCells (b.block) ((b.off) + 8) [.int .u64 n139]) fun e140 w141 =>
 (e140 = .returned (.tuple #[])) ∧
 (X.Kept L125 (w138.setCells (b.block) ((b.off) + 8) [.int .u64 n139]) w141) ∧
 R (.returned (.bool true)) w141
 else
 R (.returned (.bool true)) (w134.setCells (b.block) ((b.off) + 27) [.bool b135])
 else
 if (n1 == 9) = true then
 ∀ w118 : World, ∀ L119 : List Nat, (X.Hid [] w w118) →
 (X.NewL w.heap.size [] w w118 L119) →
 X.CallX Tryz.prog 91 #[(.agg #[.pointer a_0]), .pointer (some b)] w118 fun e120 w121 =>
 (e120 = .returned (.tuple #[])) ∧
 (X.Kept L119 w118 w121) ∧
 X.CallX Tryz.prog 94 #[(.agg #[.pointer a_0]), .pointer (some b)] w121 fun e122 w123 =>
 (e122 = .returned (.tuple #[])) ∧
 (X.Kept L119 w121 w123) ∧
 R (.returned (.bool true)) w123
 else
 if (n1 == 10) = true then
 ∀ w104 : World, ∀ L105 : List Nat, (X.Hid [] w w104) →
 (X.NewL w.heap.size [] w w104 L105) →
 X.CallX Tryz.prog 89 #[.pointer a_0] w104 fun e106 w107 =>
 ∃ n108 n109 : Int, ∃ q110 : Option Addr, ∃ k111 k112 : Nat, (e106 = .returned (.agg #[.int .u8 n108, .int .u32 n109, .slice q110 k111 k112])) ∧
 (X.Kept L105 w104 w107) ∧
 ((none : Option Nat) = none) ∧
 (World.there w107 (b.block) ((b.off) + 22) 3) ∧
 (¬ ((b.block) ∈ L105)) ∧
 X.CallX Tryz.prog 90 #[.pointer a_0] (w107.setCells (b.block) ((b.off) + 22) [.int .u8 n108, .int .u32 n109, .slice q110 k111 k112]) fun e113 w114 =>
 ∃ q115 : Option Addr, ∃ k116 k117 : Nat, (e113 = .returned (.slice q115 k116 k117)) ∧
 (X.Kept L105 (w107.setCells (b.block) ((b.off) + 22) [.int .u8 n108, .int .u32 n109, .slice q110 k111 k112]) w114) ∧
 ((none : Option Nat) = none) ∧
 (World.there w114 (b.block) ((b.off) + 29) 1) ∧
 (¬ ((b.block) ∈ L105)) ∧
 R (.returned (.bool true)) (w114.setCells (b.block) ((b.off) + 29) [.slice q115 k116 k117])
 else
 if (n1 == 11) = true then
 if (n1 == 11) = true then
 ∀ w95 : World, ∀ L96 : List Nat, (X.Hid [] w w95) →
 (X.NewL w.heap.size [] w w95 L96) →
 X.CallX Tryz.prog 34 #[.pointer a_0] w95 fun e97 w98 =>
 ∃ n99 : Int, (e97 = .returned (.int .u8 n99)) ∧
 (X.Kept L96 w95 w98) ∧
 ((none : Option Nat) = none) ∧
 (World.there w98 (b.block) ((b.off) + 1) 1) ∧
 (¬ ((b.block) ∈ L96)) ∧
 X.CallX Tryz.prog 95 #[.pointer a_0] (w98.setCells (b.block) ((b.off) + 1) [.int .u8 n99]) fun e100 w101 =>
 ∃ n102 n103 : Int, (e100 = .returned (.agg #[.int .u8 n102, .int .u16 n103])) ∧
 (X.Kept L96 (w98.setCells (b.block) ((b.off) + 1) [.int .u8 n99]) w101) ∧
 ((none : Option Nat) = none) ∧
 (World.there w101 (b.block) ((b.off) + 25) 2) ∧
 (¬ ((b.block) ∈ L96)) ∧
 R (.returned (.bool true)) (w101.setCells (b.block) ((b.off) + 25) [.int .u8 n102, .int .u16 n103])
 else
 ∀ w94 : World, (X.Hid [] w w94) →
 R (.returned (.bool false)) w94
 else
 if (n1 == 12) = true then
 if (n1 == 12) = true then
 ∀ w85 : World, ∀ L86 : List Nat, (X.Hid [] w w85) →
 (X.NewL w.heap.size [] w w85 L86) →
 X.CallX Tryz.prog 34 #[.pointer a_0] w85 fun e87 w88 =>
 ∃ n89 : Int, (e87 = .returned (.int .u8 n89)) ∧
 (X.Kept L86 w85 w88) ∧
 ((none : Option Nat) = none) ∧
 (World.there w88 (b.block) ((b.off) + 1) 1) ∧
 (¬ ((b.block) ∈ L86)) ∧
 X.CallX Tryz.prog 95 #[.pointer a_0] (w88.setCells (b.block) ((b.off) + 1) [.int .u8 n89]) fun e90 w91 =>
 ∃ n92 n93 : Int, (e90 = .returned (.agg #[.int .u8 n92, .int .u16 n93])) ∧
 (X.Kept L86 (w88.setCells (b.block) ((b.off) + 1) [.int .u8 n89]) w91) ∧
 ((none : Option Nat) = none) ∧
 (World.there w91 (b.block) ((b.off) + 25) 2) ∧
 (¬ ((b.block) ∈ L86)) ∧
 R (.returned (.bool true)) (w91.setCells (b.block) ((b.off) + 25) [.int .u8 n92, .int .u16 n93])
 else
 ∀ w84 : World, (X.Hid [] w w84) →
 R (.returned (.bool false)) w84
 else
 if (n1 == 13) = true then
 ∀ w75 : World, ∀ L76 : List Nat, (X.Hid [] w w75) →
 (X.NewL w.heap.size [] w w75 L76) →
 X.CallX Tryz.prog 34 #[.pointer a_0] w75 fun e77 w78 =>
 ∃ n79 : Int, (e77 = .returned (.int .u8 n79)) ∧
 (X.Kept L76 w75 w78) ∧
 ((none : Option Nat) = none) ∧
 (World.there w78 (b.block) ((b.off) + 1) 1) ∧
 (¬ ((b.block) ∈ L76)) ∧
 X.CallX Tryz.prog 95 #[.pointer a_0] (w78.setCells (b.block) ((b.off) + 1) [.int .u8 n79]) fun e80 w81 =>
 ∃ n82 n83 : Int, (e80 = .returned (.agg #[.int .u8 n82, .int .u16 n83])) ∧
 (X.Kept L76 (w78.setCells (b.block) ((b.off) + 1) [.int .u8 n79]) w81) ∧
 ((none : Option Nat) = none) ∧
 (World.there w81 (b.block) ((b.off) + 25) 2) ∧
 (¬ ((b.block) ∈ L76)) ∧
 R (.returned (.bool true)) (w81.setCells (b.block) ((b.off) + 25) [.int .u8 n82, .int .u16 n83])
 else
 ∀ w74 : World, (X.Hid [] w w74) →
 R (.returned (.bool false)) w74
 else
 if (n1 == 7) = true then
 ∀ w70 : World, ∀ L71 : List Nat, (X.Hid [] w w70) →
 (X.NewL w.heap.size [] w w70 L71) →
 X.CallX Tryz.prog 91 #[(.agg #[.pointer a_0]), .pointer (some b)] w70 fun e72 w73 =>
 (e72 = .returned (.tuple #[])) ∧
 (X.Kept L71 w70 w73) ∧
 R (.returned (.bool true)) w73
 else
 if (n1 == 8) = true then
 ∀ w52 : World, ∀ L53 : List Nat, (X.Hid [] w w52) →
 (X.NewL w.heap.size [] w w52 L53) →
 X.CallX Tryz.prog 91 #[(.agg #[.pointer a_0]), .pointer (some b)] w52 fun e54 w55 =>
 (e54 = .returned (.tuple #[])) ∧
 (X.Kept L53 w52 w55) ∧
 X.CallX Tryz.prog 90 #[.pointer a_0] w55 fun e56 w57 =>
 ∃ q58 : Option Addr, ∃ k59 k60 : Nat, (e56 = .returned (.slice q58 k59 k60)) ∧
 (X.Kept L53 w55 w57) ∧
 ((none : Option Nat) = none) ∧
 (World.there w57 (b.block) ((b.off) + 29) 1) ∧
 (¬ ((b.block) ∈ L53)) ∧
 X.CallX Tryz.prog 92 #[(.agg #[.pointer a_0])] (w57.setCells (b.block) ((b.off) + 29) [.slice q58 k59 k60]) fun e61 w62 =>
 ∃ b63 : Bool, (e61 = .returned (.bool b63)) ∧
 (X.Kept L53 (w57.setCells (b.block) ((b.off) + 29) [.slice q58 k59 k60]) w62) ∧
 ((none : Option Nat) = none) ∧
 (World.there w62 (b.block) ((b.off) + 27) 1) ∧
 (¬ ((b.block) ∈ L53)) ∧
 ∃ b64 : Bool, (World.cell? (w62.setCells (b.block) ((b.off) + 27) [.bool b63]) (b.add 27) = some (.bool b64)) ∧
 (¬ ((b.block) ∈ L53)) ∧
 if b64 = true then
 X.CallX Tryz.prog 93 #[(.agg #[.pointer a_0])] (w62.setCells (b.block) ((b.off) + 27) [.bool b63]) fun e65 w66 =>
 ∃ n67 : Int, (e65 = .returned (.int .u64 n67)) ∧
 (X.Kept L53 (w62.setCells (b.block) ((b.off) + 27) [.bool b63]) w66) ∧
 ((none : Option Nat) = none) ∧
 (World.there w66 (b.block) ((b.off) + 8) 1) ∧
 (¬ ((b.block) ∈ L53)) ∧
 X.CallX Tryz.prog 94 #[(.agg #[.pointer a_0]), .pointer (some b)] (w66.setCells (b.block) ((b.off) + 8) [.int .u64 n67]) fun e68 w69 =>
 (e68 = .returned (.tuple #[])) ∧
 (X.Kept L53 (w66.setCells (b.block) ((b.off) + 8) [.int .u64 n67]) w69) ∧
 R (.returned (.bool true)) w69
 else
 R (.returned (.bool true)) (w62.setCells (b.block) ((b.off) + 27) [.bool b63])
 else
 if (n1 == 9) = true then
 ∀ w46 : World, ∀ L47 : List Nat, (X.Hid [] w w46) →
 (X.NewL w.heap.size [] w w46 L47) →
 X.CallX Tryz.prog 91 #[(.agg #[.pointer a_0]), .pointer (some b)] w46 fun e48 w49 =>
 (e48 = .returned (.tuple #[])) ∧
 (X.Kept L47 w46 w49) ∧
 X.CallX Tryz.prog 94 #[(.agg #[.pointer a_0]), .pointer (some b)] w49 fun e50 w51 =>
 (e50 = .returned (.tuple #[])) ∧
 (X.Kept L47 w49 w51) ∧
 R (.returned (.bool true)) w51
 else
 if (n1 == 10) = true then
 ∀ w32 : World, ∀ L33 : List Nat, (X.Hid [] w w32) →
 (X.NewL w.heap.size [] w w32 L33) →
 X.CallX Tryz.prog 89 #[.pointer a_0] w32 fun e34 w35 =>
 ∃ n36 n37 : Int, ∃ q38 : Option Addr, ∃ k39 k40 : Nat, (e34 = .returned (.agg #[.int .u8 n36, .int .u32 n37, .slice q38 k39 k40])) ∧
 (X.Kept L33 w32 w35) ∧
 ((none : Option Nat) = none) ∧
 (World.there w35 (b.block) ((b.off) + 22) 3) ∧
 (¬ ((b.block) ∈ L33)) ∧
 X.CallX Tryz.prog 90 #[.pointer a_0] (w35.setCells (b.block) ((b.off) + 22) [.int .u8 n36, .int .u32 n37, .slice q38 k39 k40]) fun e41 w42 =>
 ∃ q43 : Option Addr, ∃ k44 k45 : Nat, (e41 = .returned (.slice q43 k44 k45)) ∧
 (X.Kept L33 (w35.setCells (b.block) ((b.off) + 22) [.int .u8 n36, .int .u32 n37, .slice q38 k39 k40]) w42) ∧
 ((none : Option Nat) = none) ∧
 (World.there w42 (b.block) ((b.off) + 29) 1) ∧
 (¬ ((b.block) ∈ L33)) ∧
 R (.returned (.bool true)) (w42.setCells (b.block) ((b.off) + 29) [.slice q43 k44 k45])
 else
 if (n1 == 11) = true then
 if (n1 == 11) = true then
 ∀ w23 : World, ∀ L24 : List Nat, (X.Hid [] w w23) →
 (X.NewL w.heap.size [] w w23 L24) →
 X.CallX Tryz.prog 34 #[.pointer a_0] w23 fun e25 w26 =>
 ∃ n27 : Int, (e25 = .returned (.int .u8 n27)) ∧
 (X.Kept L24 w23 w26) ∧
 ((none : Option Nat) = none) ∧
 (World.there w26 (b.block) ((b.off) + 1) 1) ∧
 (¬ ((b.block) ∈ L24)) ∧
 X.CallX Tryz.prog 95 #[.pointer a_0] (w26.setCells (b.block) ((b.off) + 1) [.int .u8 n27]) fun e28 w29 =>
 ∃ n30 n31 : Int, (e28 = .returned (.agg #[.int .u8 n30, .int .u16 n31])) ∧
 (X.Kept L24 (w26.setCells (b.block) ((b.off) + 1) [.int .u8 n27]) w29) ∧
 ((none : Option Nat) = none) ∧
 (World.there w29 (b.block) ((b.off) + 25) 2) ∧
 (¬ ((b.block) ∈ L24)) ∧
 R (.returned (.bool true)) (w29.setCells (b.block) ((b.off) + 25) [.int .u8 n30, .int .u16 n31])
 else
 ∀ w22 : World, (X.Hid [] w w22) →
 R (.returned (.bool false)) w22
 else
 if (n1 == 12) = true then
 if (n1 == 12) = true then
 ∀ w13 : World, ∀ L14 : List Nat, (X.Hid [] w w13) →
 (X.NewL w.heap.size [] w w13 L14) →
 X.CallX Tryz.prog 34 #[.pointer a_0] w13 fun e15 w16 =>
 ∃ n17 : Int, (e15 = .returned (.int .u8 n17)) ∧
 (X.Kept L14 w13 w16) ∧
 ((none : Option Nat) = none) ∧
 (World.there w16 (b.block) ((b.off) + 1) 1) ∧
 (¬ ((b.block) ∈ L14)) ∧
 X.CallX Tryz.prog 95 #[.pointer a_0] (w16.setCells (b.block) ((b.off) + 1) [.int .u8 n17]) fun e18 w19 =>
 ∃ n20 n21 : Int, (e18 = .returned (.agg #[.int .u8 n20, .int .u16 n21])) ∧
 (X.Kept L14 (w16.setCells (b.block) ((b.off) + 1) [.int .u8 n17]) w19) ∧
 ((none : Option Nat) = none) ∧
 (World.there w19 (b.block) ((b.off) + 25) 2) ∧
 (¬ ((b.block) ∈ L14)) ∧
 R (.returned (.bool true)) (w19.setCells (b.block) ((b.off) + 25) [.int .u8 n20, .int .u16 n21])
 else
 ∀ w12 : World, (X.Hid [] w w12) →
 R (.returned (.bool false)) w12
 else
 if (n1 == 13) = true then
 ∀ w3 : World, ∀ L4 : List Nat, (X.Hid [] w w3) →
 (X.NewL w.heap.size [] w w3 L4) →
 X.CallX Tryz.prog 34 #[.pointer a_0] w3 fun e5 w6 =>
 ∃ n7 : Int, (e5 = .returned (.int .u8 n7)) ∧
 (X.Kept L4 w3 w6) ∧
 ((none : Option Nat) = none) ∧
 (World.there w6 (b.block) ((b.off) + 1) 1) ∧
 (¬ ((b.block) ∈ L4)) ∧
 X.CallX Tryz.prog 95 #[.pointer a_0] (w6.setCells (b.block) ((b.off) + 1) [.int .u8 n7]) fun e8 w9 =>
 ∃ n10 n11 : Int, (e8 = .returned (.agg #[.int .u8 n10, .int .u16 n11])) ∧
 (X.Kept L4 (w6.setCells (b.block) ((b.off) + 1) [.int .u8 n7]) w9) ∧
 ((none : Option Nat) = none) ∧
 (World.there w9 (b.block) ((b.off) + 25) 2) ∧
 (¬ ((b.block) ∈ L4)) ∧
 R (.returned (.bool true)) (w9.setCells (b.block) ((b.off) + 25) [.int .u8 n10, .int .u16 n11])
 else
 ∀ w2 : World, (X.Hid [] w w2) →
 R (.returned (.bool false)) w2) :
 Calls Tryz.prog 36 #[.agg #[.pointer a_0], .pointer (some b)] w R :=
 X.calls_of { isLoc := [2], sym := [], loops := [], joins := [] } Tryz.func36 (by kernel_rfl) h
end Go.Proofs
/- The verification conditions of this seat's functions, as the engine has them: printed by a program of the bench; checked by the kernel. -/
namespace Go.Proofs
open Go
theorem x_WireBack (a_0 a_1 a_2 a_3 a_4 a_5 a_6 a_7 a_8 a_9 a_10 a_11 a_12 a_13 a_14 a_15 a_16 a_17 a_18 : Int) (a_19 : Option Addr) (a_19l a_19c : Nat) (a_20 : Int) (a_21 : ByteArray) (a_22 a_23 : Int) (a_24 : Option Addr) (a_24l a_24c : Nat) (a_25 a_26 : Int) (a_27 : Bool) (a_28 : Option Addr) (a_28l a_28c : Nat) (a_29 : Option Addr) (a_29l a_29c : Nat) (a_30 : Option Addr) (a_30l a_30c : Nat) (b : Option Addr) (bl bc : Nat) (w : World) (R : Ending → World → Prop) (h :
 ∀ w1 : World, ∀ L2 : List Nat, (X.Hid [] w w1) →
 (X.NewL w.heap.size [] w w1 L2) →
 X.CallX Tryz.prog 5 #[(.agg #[.int .u8 a_0, .int .u8 a_1, .int .u8 a_2, .int .u32 a_3, .int .u32 a_4, .int .u32 a_5, .int .u32 a_6, .int .u64 a_7, .int .u64 a_8, .int .u8 a_9, .int .u16 a_10, .int .u32 a_11, .int .u8 a_12, .int .u8 a_13, .int .u8 a_14, .int .u8 a_15, .int .u8 a_16, .int .u8 a_17, .int .u8 a_18, .slice a_19 a_19l a_19c, .int .u8 a_20, .string a_21, .int .u8 a_22, .int .u32 a_23, .slice a_24 a_24l a_24c, .int .u8 a_25, .int .u16 a_26, .bool a_27, .slice a_28 a_28l a_28c, .slice a_29 a_29l a_29c, .slice a_30 a_30l a_30c])] w1 fun e3 w4 =>
 ∃ b5 : Bool, (e3 = .returned (.bool b5)) ∧
 (X.Kept L2 w1 w4) ∧
 if (((!b5) || decide (((bl : Nat) : Int) > 4000)) == false) = true then
 X.CallX Tryz.prog 6 #[] w4 fun e9 w10 =>
 ∃ b11 : Bool, (e9 = .returned (.bool b11)) ∧
 (X.Kept L2 w4 w10) ∧
 if (false || (!b11)) = true then
 X.CallX Tryz.prog 6 #[] w10 fun e292 w293 =>
 ∃ b294 : Bool, (e292 = .returned (.bool b294)) ∧
 (X.Kept L2 w10 w293) ∧
 R (.returned (.bool b294)) w293
 else
 X.CallX Tryz.prog 8 #[(.agg #[.int .u8 a_0, .int .u8 a_1, .int .u8 a_2, .int .u32 a_3, .int .u32 a_4, .int .u32 a_5, .int .u32 a_6, .int .u64 a_7, .int .u64 a_8, .int .u8 a_9, .int .u16 a_10, .int .u32 a_11, .int .u8 a_12, .int .u8 a_13, .int .u8 a_14, .int .u8 a_15, .int .u8 a_16, .int .u8 a_17, .int .u8 a_18, .slice a_19 a_19l a_19c, .int .u8 a_20, .string a_21, .int .u8 a_22, .int .u32 a_23, .slice a_24 a_24l a_24c, .int .u8 a_25, .int .u16 a_26, .bool a_27, .slice a_28 a_28l a_28c, .slice a_29 a_29l a_29c, .slice a_30 a_30l a_30c])] w10 fun e12 w13 =>
 ∃ n14 n15 n16 n17 n18 n19 n20 n21 n22 n23 n24 n25 n26 n27 n28 n29 n30 n31 n32 : Int, ∃ q33 : Option Addr, ∃ k34 k35 : Nat, ∃ n36 : Int, ∃ s37 : ByteArray, ∃ n38 n39 : Int, ∃ q40 : Option Addr, ∃ k41 k42 : Nat, ∃ n43 n44 : Int, ∃ b45 : Bool, ∃ q46 : Option Addr, ∃ k47 k48 : Nat, ∃ q49 : Option Addr, ∃ k50 k51 : Nat, ∃ q52 : Option Addr, ∃ k53 k54 : Nat, (e12 = .returned (.agg #[.int .u8 n14, .int .u8 n15, .int .u8 n16, .int .u32 n17, .int .u32 n18, .int .u32 n19, .int .u32 n20, .int .u64 n21, .int .u64 n22, .int .u8 n23, .int .u16 n24, .int .u32 n25, .int .u8 n26, .int .u8 n27, .int .u8 n28, .int .u8 n29, .int .u8 n30, .int .u8 n31, .int .u8 n32, .slice q33 k34 k35, .int .u8 n36, .string s37, .int .u8 n38, .int .u32 n39, .slice q40 k41 k42, .int .u8 n43, .int .u16 n44, .bool b45, .slice q46 k47 k48, .slice q49 k50 k51, .slice q52 k53 k54])) ∧
 (X.Kept L2 w10 w13) ∧
 X.CallX Tryz.prog 7 #[(.agg #[.int .u8 n14, .int .u8 n15, .int .u8 n16, .int .u32 n17, .int .u32 n18, .int .u32 n19, .int .u32 n20, .int .u64 n21, .int .u64 n22, .int .u8 n23, .int .u16 n24, .int .u32 n25, .int .u8 n26, .int .u8 n27, .int .u8 n28, .int .u8 n29, .int .u8 n30, .int .u8 n31, .int .u8 n32, .slice q33 k34 k35, .int .u8 n36, .string s37, .int .u8 n38, .int .u32 n39, .slice q40 k41 k42, .int .u8 n43, .int .u16 n44, .bool b45, .slice q46 k47 k48, .slice q49 k50 k51, .slice q52 k53 k54])] w13 fun e55 w56 =>
 ∃ q57 : Option Addr, ∃ k58 k59 : Nat, ∃ n60 : Int, (e55 = .returned (.tuple #[.slice q57 k58 k59, .int .i64 n60])) ∧
 (X.Kept L2 w13 w56) ∧
 X.CallX Tryz.prog 12 #[.int .i64 n60] w56 fun e61 w62 =>
 ∃ n63 : Int, (e61 = .returned (.int .i64 n63)) ∧
 (X.Kept L2 w56 w62) ∧
 if (n63 == 0) = true then
 X.CallX Tryz.prog 10 #[.slice q57 k58 k59] w62 fun e129 w130 =>
 ∃ n131 n132 n133 n134 n135 n136 n137 n138 n139 n140 n141 n142 n143 n144 n145 n146 n147 n148 n149 : Int, ∃ q150 : Option Addr, ∃ k151 k152 : Nat, ∃ n153 : Int, ∃ s154 : ByteArray, ∃ n155 n156 : Int, ∃ q157 : Option Addr, ∃ k158 k159 : Nat, ∃ n160 n161 : Int, ∃ b162 : Bool, ∃ q163 : Option Addr, ∃ k164 k165 : Nat, ∃ q166 : Option Addr, ∃ k167 k168 : Nat, ∃ q169 : Option Addr, ∃ k170 k171 : Nat, ∃ n172 : Int, (e129 = .returned (.tuple #[(.agg #[.int .u8 n131, .int .u8 n132, .int .u8 n133, .int .u32 n134, .int .u32 n135, .int .u32 n136, .int .u32 n137, .int .u64 n138, .int .u64 n139, .int .u8 n140, .int .u16 n141, .int .u32 n142, .int .u8 n143, .int .u8 n144, .int .u8 n145, .int .u8 n146, .int .u8 n147, .int .u8 n148, .int .u8 n149, .slice q150 k151 k152, .int .u8 n153, .string s154, .int .u8 n155, .int .u32 n156, .slice q157 k158 k159, .int .u8 n160, .int .u16 n161, .bool b162, .slice q163 k164 k165, .slice q166 k167 k168, .slice q169 k170 k171]), .int .i64 n172])) ∧
 (X.Kept L2 w62 w130) ∧
 ∃ x173 : X.Facts, (X.FactsW x173 w130 L2) ∧
 ∀ w174 : World, ∀ L175 : List Nat, (X.Hid L2 w130 w174) →
 (X.NewL w.heap.size L2 w130 w174 L175) →
 X.CallX Tryz.prog 12 #[.int .i64 n172] w174 fun e176 w177 =>
 ∃ n178 : Int, (e176 = .returned (.int .i64 n178)) ∧
 (X.Kept L175 w174 w177) ∧
 (X.FactsW x173 w177 L175) ∧
 ∃ x179 : X.Facts, (X.FactsW x179 w177 L175) ∧
 (∀ x180 : Addr × List Value, (x180 ∈ x173) →
 x180 ∈ x179) ∧
 if ((n178 != 0) == false) = true then
 X.CallX Tryz.prog 8 #[(.agg #[.int .u8 a_0, .int .u8 a_1, .int .u8 a_2, .int .u32 a_3, .int .u32 a_4, .int .u32 a_5, .int .u32 a_6, .int .u64 a_7, .int .u64 a_8, .int .u8 a_9, .int .u16 a_10, .int .u32 a_11, .int .u8 a_12, .int .u8 a_13, .int .u8 a_14, .int .u8 a_15, .int .u8 a_16, .int .u8 a_17, .int .u8 a_18, .slice a_19 a_19l a_19c, .int .u8 a_20, .string a_21, .int .u8 a_22, .int .u32 a_23, .slice a_24 a_24l a_24c, .int .u8 a_25, .int .u16 a_26, .bool a_27, .slice a_28 a_28l a_28c, .slice a_29 a_29l a_29c, .slice a_30 a_30l a_30c])] w177 fun e181 w182 =>
 ∃ n183 n184 n185 n186 n187 n188 n189 n190 n191 n192 n193 n194 n195 n196 n197 n198 n199 n200 n201 : Int, ∃ q202 : Option Addr, ∃ k203 k204 : Nat, ∃ n205 : Int, ∃ s206 : ByteArray, ∃ n207 n208 : Int, ∃ q209 : Option Addr, ∃ k210 k211 : Nat, ∃ n212 n213 : Int, ∃ b214 : Bool, ∃ q215 : Option Addr, ∃ k216 k217 : Nat, ∃ q218 : Option Addr, ∃ k219 k220 : Nat, ∃ q221 : Option Addr, ∃ k222 k223 : Nat, (e181 = .returned (.agg #[.int .u8 n183, .int .u8 n184, .int .u8 n185, .int .u32 n186, .int .u32 n187, .int .u32 n188, .int .u32 n189, .int .u64 n190, .int .u64 n191, .int .u8 n192, .int .u16 n193, .int .u32 n194, .int .u8 n195, .int .u8 n196, .int .u8 n197, .int .u8 n198, .int .u8 n199, .int .u8 n200, .int .u8 n201, .slice q202 k203 k204, .int .u8 n205, .string s206, .int .u8 n207, .int .u32 n208, .slice q209 k210 k211, .int .u8 n212, .int .u16 n213, .bool b214, .slice q215 k216 k217, .slice q218 k219 k220, .slice q221 k222 k223])) ∧
 (X.Kept L175 w177 w182) ∧
 (X.FactsW x179 w182 L175) ∧
 X.CallX Tryz.prog 15 #[(.agg #[.int .u8 n131, .int .u8 n132, .int .u8 n133, .int .u32 n134, .int .u32 n135, .int .u32 n136, .int .u32 n137, .int .u64 n138, .int .u64 n139, .int .u8 n140, .int .u16 n141, .int .u32 n142, .int .u8 n143, .int .u8 n144, .int .u8 n145, .int .u8 n146, .int .u8 n147, .int .u8 n148, .int .u8 n149, .slice q150 k151 k152, .int .u8 n153, .string s154, .int .u8 n155, .int .u32 n156, .slice q157 k158 k159, .int .u8 n160, .int .u16 n161, .bool b162, .slice q163 k164 k165, .slice q166 k167 k168, .slice q169 k170 k171]), (.agg #[.int .u8 n183, .int .u8 n184, .int .u8 n185, .int .u32 n186, .int .u32 n187, .int .u32 n188, .int .u32 n189, .int .u64 n190, .int .u64 n191, .int .u8 n192, .int .u16 n193, .int .u32 n194, .int .u8 n195, .int .u8 n196, .int .u8 n197, .int .u8 n198, .int .u8 n199, .int .u8 n200, .int .u8 n201, .slice q202 k203 k204, .int .u8 n205, .string s206, .int .u8 n207, .int .u32 n208, .slice q209 k210 k211, .int .u8 n212, .int .u16 n213, .bool b214, .slice q215 k216 k217, .slice q218 k219 k220, .slice q221 k222 k223])] w182 fun e224 w225 =>
 ∃ b226 : Bool, (e224 = .returned (.bool b226)) ∧
 (X.Kept L175 w182 w225) ∧
 (X.FactsW x179 w225 L175) ∧
 if (false || (!b226)) = true then
 R (.returned (.bool false)) w225
 else
 X.CallX Tryz.prog 10 #[.slice b bl bc] w225 fun e227 w228 =>
 ∃ n229 n230 n231 n232 n233 n234 n235 n236 n237 n238 n239 n240 n241 n242 n243 n244 n245 n246 n247 : Int, ∃ q248 : Option Addr, ∃ k249 k250 : Nat, ∃ n251 : Int, ∃ s252 : ByteArray, ∃ n253 n254 : Int, ∃ q255 : Option Addr, ∃ k256 k257 : Nat, ∃ n258 n259 : Int, ∃ b260 : Bool, ∃ q261 : Option Addr, ∃ k262 k263 : Nat, ∃ q264 : Option Addr, ∃ k265 k266 : Nat, ∃ q267 : Option Addr, ∃ k268 k269 : Nat, ∃ n270 : Int, (e227 = .returned (.tuple #[(.agg #[.int .u8 n229, .int .u8 n230, .int .u8 n231, .int .u32 n232, .int .u32 n233, .int .u32 n234, .int .u32 n235, .int .u64 n236, .int .u64 n237, .int .u8 n238, .int .u16 n239, .int .u32 n240, .int .u8 n241, .int .u8 n242, .int .u8 n243, .int .u8 n244, .int .u8 n245, .int .u8 n246, .int .u8 n247, .slice q248 k249 k250, .int .u8 n251, .string s252, .int .u8 n253, .int .u32 n254, .slice q255 k256 k257, .int .u8 n258, .int .u16 n259, .bool b260, .slice q261 k262 k263, .slice q264 k265 k266, .slice q267 k268 k269]), .int .i64 n270])) ∧
 (X.Kept L175 w225 w228) ∧
 ∀ w271 : World, ∀ L272 : List Nat, (X.Hid L175 w228 w271) →
 (X.NewL w.heap.size L175 w228 w271 L272) →
 X.CallX Tryz.prog 12 #[.int .i64 n270] w271 fun e273 w274 =>
 ∃ n275 : Int, (e273 = .returned (.int .i64 n275)) ∧
 (X.Kept L272 w271 w274) ∧
 if (n275 != 0) = true then
 X.CallX Tryz.prog 15 #[(.agg #[.int .u8 n229, .int .u8 n230, .int .u8 n231, .int .u32 n232, .int .u32 n233, .int .u32 n234, .int .u32 n235, .int .u64 n236, .int .u64 n237, .int .u8 n238, .int .u16 n239, .int .u32 n240, .int .u8 n241, .int .u8 n242, .int .u8 n243, .int .u8 n244, .int .u8 n245, .int .u8 n246, .int .u8 n247, .slice q248 k249 k250, .int .u8 n251, .string s252, .int .u8 n253, .int .u32 n254, .slice q255 k256 k257, .int .u8 n258, .int .u16 n259, .bool b260, .slice q261 k262 k263, .slice q264 k265 k266, .slice q267 k268 k269]), (.agg #[.int .u8 0, .int .u8 0, .int .u8 0, .int .u32 0, .int .u32 0, .int .u32 0, .int .u32 0, .int .u64 0, .int .u64 0, .int .u8 0, .int .u16 0, .int .u32 0, .int .u8 0, .int .u8 0, .int .u8 0, .int .u8 0, .int .u8 0, .int .u8 0, .int .u8 0, .slice none 0 0, .int .u8 0, .string (ByteArray.mk #[]), .int .u8 0, .int .u32 0, .slice none 0 0, .int .u8 0, .int .u16 0, .bool false, .slice none 0 0, .slice none 0 0, .slice none 0 0])] w274 fun e289 w290 =>
 ∃ b291 : Bool, (e289 = .returned (.bool b291)) ∧
 (X.Kept L272 w274 w290) ∧
 R (.returned (.bool b291)) w290
 else
 X.CallX Tryz.prog 7 #[(.agg #[.int .u8 n229, .int .u8 n230, .int .u8 n231, .int .u32 n232, .int .u32 n233, .int .u32 n234, .int .u32 n235, .int .u64 n236, .int .u64 n237, .int .u8 n238, .int .u16 n239, .int .u32 n240, .int .u8 n241, .int .u8 n242, .int .u8 n243, .int .u8 n244, .int .u8 n245, .int .u8 n246, .int .u8 n247, .slice q248 k249 k250, .int .u8 n251, .string s252, .int .u8 n253, .int .u32 n254, .slice q255 k256 k257, .int .u8 n258, .int .u16 n259, .bool b260, .slice q261 k262 k263, .slice q264 k265 k266, .slice q267 k268 k269])] w274 fun e276 w277 =>
 ∃ q278 : Option Addr, ∃ k279 k280 : Nat, ∃ n281 : Int, (e276 = .returned (.tuple #[.slice q278 k279 k280, .int .i64 n281])) ∧
 (X.Kept L272 w274 w277) ∧
 X.CallX Tryz.prog 12 #[.int .i64 n281] w277 fun e282 w283 =>
 ∃ n284 : Int, (e282 = .returned (.int .i64 n284)) ∧
 (X.Kept L272 w277 w283) ∧
 if ((n284 == 0) == true) = true then
 ∃ s285 : ByteArray, ∃ w286 : World, (Sem.run Tryz.prog (Go.convert 41 9 (.slice q278 k279 k280)) w283 = .ok (.string s285) w286) ∧
 (X.Kept L272 w283 w286) ∧
 ∃ s287 : ByteArray, ∃ w288 : World, (Sem.run Tryz.prog (Go.convert 41 9 (.slice b bl bc)) w286 = .ok (.string s287) w288) ∧
 (X.Kept L272 w286 w288) ∧
 R (.returned (.bool (true && ((s285.toList) == (s287.toList))))) w288
 else
 R (.returned (.bool false)) w283
 else
 R (.returned (.bool false)) w177
 else
 X.CallX Tryz.prog 10 #[.slice b bl bc] w62 fun e64 w65 =>
 ∃ n66 n67 n68 n69 n70 n71 n72 n73 n74 n75 n76 n77 n78 n79 n80 n81 n82 n83 n84 : Int, ∃ q85 : Option Addr, ∃ k86 k87 : Nat, ∃ n88 : Int, ∃ s89 : ByteArray, ∃ n90 n91 : Int, ∃ q92 : Option Addr, ∃ k93 k94 : Nat, ∃ n95 n96 : Int, ∃ b97 : Bool, ∃ q98 : Option Addr, ∃ k99 k100 : Nat, ∃ q101 : Option Addr, ∃ k102 k103 : Nat, ∃ q104 : Option Addr, ∃ k105 k106 : Nat, ∃ n107 : Int, (e64 = .returned (.tuple #[(.agg #[.int .u8 n66, .int .u8 n67, .int .u8 n68, .int .u32 n69, .int .u32 n70, .int .u32 n71, .int .u32 n72, .int .u64 n73, .int .u64 n74, .int .u8 n75, .int .u16 n76, .int .u32 n77, .int .u8 n78, .int .u8 n79, .int .u8 n80, .int .u8 n81, .int .u8 n82, .int .u8 n83, .int .u8 n84, .slice q85 k86 k87, .int .u8 n88, .string s89, .int .u8 n90, .int .u32 n91, .slice q92 k93 k94, .int .u8 n95, .int .u16 n96, .bool b97, .slice q98 k99 k100, .slice q101 k102 k103, .slice q104 k105 k106]), .int .i64 n107])) ∧
 (X.Kept L2 w62 w65) ∧
 ∀ w108 : World, ∀ L109 : List Nat, (X.Hid L2 w65 w108) →
 (X.NewL w.heap.size L2 w65 w108 L109) →
 X.CallX Tryz.prog 12 #[.int .i64 n107] w108 fun e110 w111 =>
 ∃ n112 : Int, (e110 = .returned (.int .i64 n112)) ∧
 (X.Kept L109 w108 w111) ∧
 if (n112 != 0) = true then
 X.CallX Tryz.prog 15 #[(.agg #[.int .u8 n66, .int .u8 n67, .int .u8 n68, .int .u32 n69, .int .u32 n70, .int .u32 n71, .int .u32 n72, .int .u64 n73, .int .u64 n74, .int .u8 n75, .int .u16 n76, .int .u32 n77, .int .u8 n78, .int .u8 n79, .int .u8 n80, .int .u8 n81, .int .u8 n82, .int .u8 n83, .int .u8 n84, .slice q85 k86 k87, .int .u8 n88, .string s89, .int .u8 n90, .int .u32 n91, .slice q92 k93 k94, .int .u8 n95, .int .u16 n96, .bool b97, .slice q98 k99 k100, .slice q101 k102 k103, .slice q104 k105 k106]), (.agg #[.int .u8 0, .int .u8 0, .int .u8 0, .int .u32 0, .int .u32 0, .int .u32 0, .int .u32 0, .int .u64 0, .int .u64 0, .int .u8 0, .int .u16 0, .int .u32 0, .int .u8 0, .int .u8 0, .int .u8 0, .int .u8 0, .int .u8 0, .int .u8 0, .int .u8 0, .slice none 0 0, .int .u8 0, .string (ByteArray.mk #[]), .int .u8 0, .int .u32 0, .slice none 0 0, .int .u8 0, .int .u16 0, .bool false, .slice none 0 0, .slice none 0 0, .slice none 0 0])] w111 fun e126 w127 =>
 ∃ b128 : Bool, (e126 = .returned (.bool b128)) ∧
 (X.Kept L109 w111 w127) ∧
 R (.returned (.bool b128)) w127
 else
 X.CallX Tryz.prog 7 #[(.agg #[.int .u8 n66, .int .u8 n67, .int .u8 n68, .int .u32 n69, .int .u32 n70, .int .u32 n71, .int .u32 n72, .int .u64 n73, .int .u64 n74, .int .u8 n75, .int .u16 n76, .int .u32 n77, .int .u8 n78, .int .u8 n79, .int .u8 n80, .int .u8 n81, .int .u8 n82, .int .u8 n83, .int .u8 n84, .slice q85 k86 k87, .int .u8 n88, .string s89, .int .u8 n90, .int .u32 n91, .slice q92 k93 k94, .int .u8 n95, .int .u16 n96, .bool b97, .slice q98 k99 k100, .slice q101 k102 k103, .slice q104 k105 k106])] w111 fun e113 w114 =>
 ∃ q115 : Option Addr, ∃ k116 k117 : Nat, ∃ n118 : Int, (e113 = .returned (.tuple #[.slice q115 k116 k117, .int .i64 n118])) ∧
 (X.Kept L109 w111 w114) ∧
 X.CallX Tryz.prog 12 #[.int .i64 n118] w114 fun e119 w120 =>
 ∃ n121 : Int, (e119 = .returned (.int .i64 n121)) ∧
 (X.Kept L109 w114 w120) ∧
 if ((n121 == 0) == true) = true then
 ∃ s122 : ByteArray, ∃ w123 : World, (Sem.run Tryz.prog (Go.convert 41 9 (.slice q115 k116 k117)) w120 = .ok (.string s122) w123) ∧
 (X.Kept L109 w120 w123) ∧
 ∃ s124 : ByteArray, ∃ w125 : World, (Sem.run Tryz.prog (Go.convert 41 9 (.slice b bl bc)) w123 = .ok (.string s124) w125) ∧
 (X.Kept L109 w123 w125) ∧
 R (.returned (.bool (true && ((s122.toList) == (s124.toList))))) w125
 else
 R (.returned (.bool false)) w120
 else
 X.CallX Tryz.prog 6 #[] w4 fun e6 w7 =>
 ∃ b8 : Bool, (e6 = .returned (.bool b8)) ∧
 (X.Kept L2 w4 w7) ∧
 R (.returned (.bool b8)) w7) :
 Calls Tryz.prog 4 #[.agg #[.int .u8 a_0, .int .u8 a_1, .int .u8 a_2, .int .u32 a_3, .int .u32 a_4, .int .u32 a_5, .int .u32 a_6, .int .u64 a_7, .int .u64 a_8, .int .u8 a_9, .int .u16 a_10, .int .u32 a_11, .int .u8 a_12, .int .u8 a_13, .int .u8 a_14, .int .u8 a_15, .int .u8 a_16, .int .u8 a_17, .int .u8 a_18, .slice a_19 a_19l a_19c, .int .u8 a_20, .string a_21, .int .u8 a_22, .int .u32 a_23, .slice a_24 a_24l a_24c, .int .u8 a_25, .int .u16 a_26, .bool a_27, .slice a_28 a_28l a_28c, .slice a_29 a_29l a_29c, .slice a_30 a_30l a_30c], .slice b bl bc] w R :=
 X.calls_of { isLoc := [2, 7, 9], sym := [], loops := [], joins := [] } Tryz.func4 (by kernel_rfl) h
end Go.Proofs
