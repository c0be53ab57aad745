import Derived.Test.YtjphfelmaingjaaGreatXFn
import Derived.Test.YtjphfelmaingjaaGreatProg
import Derived.Test.YtjphfelmaingjaaGreatVwba
set_option maxRecDepth 100000
set_option linter.unusedVariables false
/- The verification conditions of this seat's functions, as the engine has them: printed by a program of the bench; checked by the kernel. -/
namespace Go.Proofs
open Go X
theorem x_Rnone (a : Addr) (w : World) (R : Ending → World → Prop) (h :
 ∃ b1, (World.cell? w (a.add 2) = some (.bool b1)) ∧
 R (.returned (.bool (false || (!b1)))) w) :
 Calls Tryz.prog 82 #[.pointer (some a)] w R :=
 calls_of { isLoc := [], sym := [], loops := [], joins := [] } Tryz.func82 (by kernel_rfl) h
theorem x_cfail (a : Addr) (b : Int) (w : World) (R : Ending → World → Prop) (h :
 ∃ n1, (World.cell? w (a.add 1) = some (.int .i64 n1)) ∧
 if (n1 == 0) = true then
 ((none : Option Nat) = none) ∧
 World.there w a.block (a.off + 1) 1 ∧
 (((a.add 0).spot) = none) ∧
 World.there (w.setCells a.block (a.off + 1) [.int .i64 b]) ((a.add 0).block) ((a.add 0).off) 1 ∧
 R (.returned (.tuple #[])) ((w.setCells a.block (a.off + 1) [.int .i64 b]).setCells ((a.add 0).block) ((a.add 0).off) [.slice none 0 0])
 else
 (((a.add 0).spot) = none) ∧
 World.there w ((a.add 0).block) ((a.add 0).off) 1 ∧
 R (.returned (.tuple #[])) (w.setCells ((a.add 0).block) ((a.add 0).off) [.slice none 0 0])) :
 Calls Tryz.prog 133 #[.pointer (some a), .int .i64 b] w R :=
 calls_of { isLoc := [], sym := [], loops := [], joins := [] } Tryz.func133 (by kernel_rfl) h
theorem x_ctake (a : Addr) (b : Int) (w : World) (R : Ending → World → Prop) (h :
 ∃ n1, (World.cell? w (a.add 1) = some (.int .i64 n1)) ∧
 if ((n1 != 0) == false) = true then
 ∃ q4 k5 k6, (World.cell? w (a.add 0) = some (.slice q4 k5 k6)) ∧
 if (false || decide (b > (IntKind.wrap .u64 ((k5 : Nat) : Int)))) = true then
 CallX Tryz.prog 133 #[.pointer (some a), .int .i64 6] w fun e13 w14 =>
 (e13 = .returned (.tuple #[])) ∧
 (w.heap.size ≤ w14.heap.size) ∧
 R (.returned (.slice none 0 0)) w14
 else
 ∃ q7 k8 k9, (World.cell? w (a.add 0) = some (.slice q7 k8 k9)) ∧
 ((0 : Int) ≤ b) ∧
 (b ≤ ((k9 : Nat) : Int)) ∧
 ∃ q10 k11 k12, (World.cell? w (a.add 0) = some (.slice q10 k11 k12)) ∧
 ((0 : Int) ≤ b) ∧
 (b ≤ ((k11 : Nat) : Int)) ∧
 (((a.add 0).spot) = none) ∧
 World.there w ((a.add 0).block) ((a.add 0).off) 1 ∧
 R (.returned (.slice (cutA q7 k9 0 1) (b).toNat k9)) (w.setCells ((a.add 0).block) ((a.add 0).off) [(.slice (cutA q10 k12 (b).toNat 1) (k11 - (b).toNat) (k12 - (b).toNat))])
 else
 CallX Tryz.prog 133 #[.pointer (some a), .int .i64 6] w fun e2 w3 =>
 (e2 = .returned (.tuple #[])) ∧
 (w.heap.size ≤ w3.heap.size) ∧
 R (.returned (.slice none 0 0)) w3) :
 Calls Tryz.prog 84 #[.pointer (some a), .int .u64 b] w R :=
 calls_of { isLoc := [], sym := [], loops := [], joins := [] } Tryz.func84 (by kernel_rfl) h
theorem x_clength (a : Addr) (w : World) (R : Ending → World → Prop) (h :
 ∃ q1 k2 k3, (World.cell? w (a.add 0) = some (.slice q1 k2 k3)) ∧
 ∃ x4 : Int → World → List Nat → Prop, ∃ x5 : Int → World → Nat, (x4 0 w []) ∧
 ∀ n6 w7 L8, (LF w.heap.size w7 L8) →
 (x4 n6 w7 L8) →
 if (decide (n6 < ((k2 : Nat) : Int))) = true then
 ((0 : Int) ≤ n6) ∧
 (n6 < ((k2 : Nat) : Int)) ∧
 onSome q1 fun p9 =>
 ∃ n10, (w7.cell? (p9.add ((n6).toNat * 1)) = some (.int .u8 n10)) ∧
 if (((n6 == 9) && decide (n10 > 1)) || (decide (n6 > 0) && (n10 == 0))) = true then
 R (.returned (.int .i64 0)) w7
 else
 if (decide (n10 < 128)) = true then
 R (.returned (.int .i64 (IntKind.wrap .i64 (n6 + 1)))) w7
 else
 (x4 (IntKind.wrap .i64 (n6 + 1)) w7 []) ∧
 Nat.le ((x5 (IntKind.wrap .i64 (n6 + 1)) w7) + 1) (x5 n6 w7)
 else
 R (.returned (.int .i64 0)) w7) :
 Calls Tryz.prog 157 #[.pointer (some a)] w R :=
 calls_of { isLoc := [], sym := [], loops := [(2, .inv [(10, .int .i64)] [] true)], joins := [] } Tryz.func157 (by kernel_rfl) h
theorem x_first (a : Option Addr) (al ac : Nat) (w : World) (R : Ending → World → Prop) (h :
 ∃ x1 : Int → World → List Nat → Prop, ∃ x2 : Int → World → Nat, (x1 0 w []) ∧
 ∀ n3 w4 L5, (LF w.heap.size w4 L5) →
 (x1 n3 w4 L5) →
 if (decide (n3 < ((al : Nat) : Int))) = true then
 ((0 : Int) ≤ n3) ∧
 (n3 < ((al : Nat) : Int)) ∧
 onSome a fun p6 =>
 ∃ n7, (w4.cell? (p6.add ((n3).toNat * 1)) = some (.int .u8 n7)) ∧
 R (.returned (.int .u8 n7)) w4
 else
 R (.returned (.int .u8 0)) w4) :
 Calls Tryz.prog 83 #[.slice a al ac] w R :=
 calls_of { isLoc := [], sym := [], loops := [(3, .inv [(8, .int .i64)] [] true)], joins := [] } Tryz.func83 (by kernel_rfl) h
theorem x_RB (a : Addr) (w : World) (R : Ending → World → Prop) (h :
 CallX Tryz.prog 82 #[.pointer (some a)] w fun e1 w2 =>
 ∃ b3, e1 = .returned (.bool b3) ∧
 (w.heap.size ≤ w2.heap.size) ∧
 if b3 = true then
 R (.returned (.int .u8 0)) w2
 else
 CallX Tryz.prog 84 #[(.pointer (some (a.add 0))), .int .u64 1] w2 fun e4 w5 =>
 ∃ q6 k7 k8, e4 = .returned (.slice q6 k7 k8) ∧
 w2.heap.size ≤ w5.heap.size ∧
 CallX Tryz.prog 83 #[.slice q6 k7 k8] w5 fun e9 w10 =>
 ∃ n11, e9 = .returned (.int .u8 n11) ∧
 w5.heap.size ≤ w10.heap.size ∧
 R (.returned (.int .u8 n11)) w10) :
 Calls Tryz.prog 34 #[.pointer (some a)] w R :=
 calls_of { isLoc := [], sym := [], loops := [], joins := [] } Tryz.func34 (by kernel_rfl) h
theorem x_RU (a : Addr) (b : Int) (w : World) (R : Ending → World → Prop) (h :
 CallX Tryz.prog 82 #[.pointer (some a)] w fun e1 w2 =>
 ∃ b3, e1 = .returned (.bool b3) ∧
 (w.heap.size ≤ w2.heap.size) ∧
 if b3 = true then
 R (.returned (.int .u64 0)) w2
 else
 CallX Tryz.prog 157 #[(.pointer (some (a.add 0)))] w2 fun e4 w5 =>
 ∃ n6, e4 = .returned (.int .i64 n6) ∧
 w2.heap.size ≤ w5.heap.size ∧
 if (n6 == 0) = true then
 CallX Tryz.prog 133 #[(.pointer (some (a.add 0))), .int .i64 6] w5 fun e22 w23 =>
 (e22 = .returned (.tuple #[])) ∧
 w5.heap.size ≤ w23.heap.size ∧
 R (.returned (.int .u64 0)) w23
 else
 CallX Tryz.prog 84 #[(.pointer (some (a.add 0))), .int .u64 (IntKind.wrap .u64 n6)] w5 fun e7 w8 =>
 ∃ q9 k10 k11, e7 = .returned (.slice q9 k10 k11) ∧
 w5.heap.size ≤ w8.heap.size ∧
 ∃ x12 : Int → Int → World → List Nat → Prop, ∃ x13 : Int → Int → World → Nat, (x12 0 0 w8 []) ∧
 ∀ n14 n15 w16 L17, (LF w.heap.size w16 L17) →
 (x12 n14 n15 w16 L17) →
 if (decide (n15 < ((k10 : Nat) : Int))) = true then
 ((0 : Int) ≤ n15) ∧
 (n15 < ((k10 : Nat) : Int)) ∧
 onSome q9 fun p20 =>
 ∃ n21, (w16.cell? (p20.add ((n15).toNat * 1)) = some (.int .u8 n21)) ∧
 ((0 : Int) ≤ (IntKind.wrap .i64 (7 * n15))) ∧
 (x12 (IntKind.wrap .u64 ((((BitVec.ofInt 64 n14 ||| BitVec.ofInt 64 (IntKind.u64.wrap (IntKind.u64.wrap (IntKind.u8.wrap ↑(BitVec.ofInt 8 n21 &&& ~~~BitVec.ofInt 8 128).toNat) * 2 ^ min (IntKind.i64.wrap (7 * n15)).toNat 64))).toNat) : Nat) : Int)) (IntKind.wrap .i64 (n15 + 1)) w16 []) ∧
 Nat.le ((x13 (IntKind.wrap .u64 ((((BitVec.ofInt 64 n14 ||| BitVec.ofInt 64 (IntKind.u64.wrap (IntKind.u64.wrap (IntKind.u8.wrap ↑(BitVec.ofInt 8 n21 &&& ~~~BitVec.ofInt 8 128).toNat) * 2 ^ min (IntKind.i64.wrap (7 * n15)).toNat 64))).toNat) : Nat) : Int)) (IntKind.wrap .i64 (n15 + 1)) w16) + 1) (x13 n14 n15 w16)
 else
 if (decide (n14 > b)) = true then
 CallX Tryz.prog 133 #[(.pointer (some (a.add 0))), .int .i64 5] w16 fun e18 w19 =>
 (e18 = .returned (.tuple #[])) ∧
 w16.heap.size ≤ w19.heap.size ∧
 R (.returned (.int .u64 0)) w19
 else
 R (.returned (.int .u64 n14)) w16) :
 Calls Tryz.prog 134 #[.pointer (some a), .int .u64 b] w R :=
 calls_of { isLoc := [], sym := [39], loops := [(9, .inv [(6, .int .u64), (28, .int .i64)] [] true)], joins := [] } Tryz.func134 (by kernel_rfl) h
theorem x_RText (a : Addr) (b : Int) (w : World) (R : Ending → World → Prop) (h :
 CallX Tryz.prog 82 #[.pointer (some a)] w fun e1 w2 =>
 ∃ b3, e1 = .returned (.bool b3) ∧
 (w.heap.size ≤ w2.heap.size) ∧
 if b3 = true then
 R (.returned (.string (ByteArray.mk #[]))) w2
 else
 CallX Tryz.prog 134 #[.pointer (some a), (.int .u64 (IntKind.wrap .u64 (if (0 : Int) > b then 0 else b)))] w2 fun e4 w5 =>
 ∃ n6, e4 = .returned (.int .u64 n6) ∧
 w2.heap.size ≤ w5.heap.size ∧
 CallX Tryz.prog 84 #[(.pointer (some (a.add 0))), .int .u64 n6] w5 fun e7 w8 =>
 ∃ q9 k10 k11, e7 = .returned (.slice q9 k10 k11) ∧
 w5.heap.size ≤ w8.heap.size ∧
 ∃ s12 w13, (Sem.run Tryz.prog (Go.convert 41 9 (.slice q9 k10 k11)) w8 = .ok (.string s12) w13) ∧
 w8.heap.size ≤ w13.heap.size ∧
 R (.returned (.string s12)) w13) :
 Calls Tryz.prog 137 #[.pointer (some a), .int .i64 b] w R :=
 calls_of { isLoc := [], sym := [], loops := [], joins := [] } Tryz.func137 (by kernel_rfl) h
theorem x_RErr (a : Addr) (w : World) (R : Ending → World → Prop) (h :
 CallX Tryz.prog 82 #[.pointer (some a)] w fun e1 w2 =>
 ∃ b3, e1 = .returned (.bool b3) ∧
 (w.heap.size ≤ w2.heap.size) ∧
 if b3 = true then
 R (.returned (.int .i64 1)) w2
 else
 ∃ n4, (w2.cell? ((a.add 0).add 1) = some (.int .i64 n4)) ∧
 R (.returned (.int .i64 n4)) w2) :
 Calls Tryz.prog 35 #[.pointer (some a)] w R :=
 calls_of { isLoc := [], sym := [], loops := [], joins := [] } Tryz.func35 (by kernel_rfl) h
theorem x_REnd (a : Addr) (w : World) (R : Ending → World → Prop) (h :
 CallX Tryz.prog 35 #[.pointer (some a)] w fun e1 w2 =>
 ∃ n3, e1 = .returned (.int .i64 n3) ∧
 (w.heap.size ≤ w2.heap.size) ∧
 if ((n3 != 0) == false) = true then
 ∃ q4 k5 k6, (w2.cell? ((a.add 0).add 0) = some (.slice q4 k5 k6)) ∧
 if (false || (((k5 : Nat) : Int) == 0)) = true then
 R (.returned (.int .i64 n3)) w2
 else
 R (.returned (.int .i64 6)) w2
 else
 R (.returned (.int .i64 n3)) w2) :
 Calls Tryz.prog 37 #[.pointer (some a)] w R :=
 calls_of { isLoc := [], sym := [], loops := [], joins := [] } Tryz.func37 (by kernel_rfl) h
theorem x_RFail (a : Addr) (b : Int) (w : World) (R : Ending → World → Prop) (h :
 CallX Tryz.prog 82 #[.pointer (some a)] w fun e1 w2 =>
 ∃ b3, e1 = .returned (.bool b3) ∧
 (w.heap.size ≤ w2.heap.size) ∧
 if ((!b3) && (b != 0)) = true then
 CallX Tryz.prog 133 #[(.pointer (some (a.add 0))), .int .i64 b] w2 fun e4 w5 =>
 (e4 = .returned (.tuple #[])) ∧
 w2.heap.size ≤ w5.heap.size ∧
 R (.returned (.tuple #[])) w5
 else
 R (.returned (.tuple #[])) w2) :
 Calls Tryz.prog 140 #[.pointer (some a), .int .i64 b] w R :=
 calls_of { isLoc := [], sym := [], loops := [], joins := [] } Tryz.func140 (by kernel_rfl) h
theorem x_Read1 (a : Option Addr) (al ac : Nat) (w : World) (R : Ending → World → Prop) (h :
 ∃ q1 k2 k3 w4, (Sem.run Tryz.prog (Go.Builtin.append_ #[41, 41] 41 #[.slice none 0 0, .slice a al ac]) w = .ok (.slice q1 k2 k3) w4) ∧
 (w.heap.size ≤ w4.heap.size) ∧
 R (.returned (.pointer (some ⟨w4.heap.size, 0, none⟩))) (w4.alloc (.cells #[.slice q1 k2 k3, .int .i64 0, .bool true] 158))) :
 Calls Tryz.prog 33 #[.slice a al ac] w R :=
 calls_of { isLoc := [], sym := [], loops := [], joins := [] } Tryz.func33 (by kernel_rfl) h
theorem x_rdwide (a_0 : Option Addr) (w : World) (R : Ending → World → Prop) (h :
 ∀ w1 L2, Hid [] w w1 →
 NewL w.heap.size [] w w1 L2 →
 CallX Tryz.prog 134 #[.pointer a_0, .int .u64 18446744073709551615] w1 fun e3 w4 =>
 ∃ n5, e3 = .returned (.int .u64 n5) ∧
 Kept L2 w1 w4 ∧
 R (.returned (.int .u64 n5)) w4) :
 Calls Tryz.prog 93 #[.agg #[.pointer a_0]] w R :=
 calls_of { isLoc := [1], sym := [], loops := [], joins := [] } Tryz.func93 (by kernel_rfl) h
theorem x_rdword (a_0 : Option Addr) (w : World) (R : Ending → World → Prop) (h :
 ∀ w1 L2, Hid [] w w1 →
 NewL w.heap.size [] w w1 L2 →
 CallX Tryz.prog 134 #[.pointer a_0, .int .u64 4294967295] w1 fun e3 w4 =>
 ∃ n5, e3 = .returned (.int .u64 n5) ∧
 Kept L2 w1 w4 ∧
 R (.returned (.int .u32 (IntKind.wrap .u32 n5))) w4) :
 Calls Tryz.prog 86 #[.agg #[.pointer a_0]] w R :=
 calls_of { isLoc := [1], sym := [], loops := [], joins := [] } Tryz.func86 (by kernel_rfl) h
theorem x_rdflag (a_0 : Option Addr) (w : World) (R : Ending → World → Prop) (h :
 ∀ w1 L2, Hid [] w w1 →
 NewL w.heap.size [] w w1 L2 →
 CallX Tryz.prog 34 #[.pointer a_0] w1 fun e3 w4 =>
 ∃ n5, e3 = .returned (.int .u8 n5) ∧
 Kept L2 w1 w4 ∧
 if (decide (n5 > 1)) = true then
 CallX Tryz.prog 140 #[.pointer a_0, .int .i64 6] w4 fun e6 w7 =>
 (e6 = .returned (.tuple #[])) ∧
 Kept L2 w4 w7 ∧
 R (.returned (.bool (n5 == 1))) w7
 else
 R (.returned (.bool (n5 == 1))) w4) :
 Calls Tryz.prog 92 #[.agg #[.pointer a_0]] w R :=
 calls_of { isLoc := [1], sym := [], loops := [], joins := [] } Tryz.func92 (by kernel_rfl) h
theorem x_GetProc (a : Addr) (w : World) (R : Ending → World → Prop) (h :
 ∀ w1 L2, Hid [] w w1 →
 NewL w.heap.size [] w w1 L2 →
 CallX Tryz.prog 34 #[.pointer (some a)] w1 fun e3 w4 =>
 ∃ n5, e3 = .returned (.int .u8 n5) ∧
 Kept L2 w1 w4 ∧
 CallX Tryz.prog 134 #[.pointer (some a), .int .u64 65535] w4 fun e6 w7 =>
 ∃ n8, e6 = .returned (.int .u64 n8) ∧
 Kept L2 w4 w7 ∧
 ∀ w9, Hid L2 w7 w9 →
 R (.returned (.agg #[.int .u8 n5, .int .u16 (IntKind.wrap .u16 n8)])) w9) :
 Calls Tryz.prog 95 #[.pointer (some a)] w R :=
 calls_of { isLoc := [2], sym := [], loops := [], joins := [] } Tryz.func95 (by kernel_rfl) h
end Go.Proofs
/- The verification conditions of this seat's functions, as the engine has them: printed by a program of the bench; checked by the kernel. -/
namespace Go.Proofs
open Go X
theorem x_r1Put (a : Int) (w : World) (R : Ending → World → Prop) (h :
 ∃ x1 : Int → Option Addr → Nat → Nat → World → List Nat → Prop, ∃ x2 : Int → Option Addr → Nat → Nat → World → Nat, (x1 a none 0 0 w []) ∧
 ∀ n3 q4 k5 k6 w7 L8, (LF w.heap.size w7 L8) →
 (x1 n3 q4 k5 k6 w7 L8) →
 if (decide (n3 > 127)) = true then
 ∃ q13 k14 k15 w16, (Sem.run Tryz.prog (Go.Builtin.append_ #[41, 41] 41 #[.slice q4 k5 k6, .slice (some ⟨w7.heap.size, 0, none⟩) 1 1]) (w7.alloc (.cells #[(.int .u8 (IntKind.wrap .u8 ((IntKind.wrap .u8 (n3.tmod 128)) + 128)))] 5)) = .ok (.slice q13 k14 k15) w16) ∧
 (((w7.alloc (.cells #[(.int .u8 (IntKind.wrap .u8 ((IntKind.wrap .u8 (n3.tmod 128)) + 128)))] 5))).heap.size ≤ w16.heap.size) ∧
 (x1 (IntKind.wrap .u64 (n3.tdiv 128)) q13 k14 k15 w16 []) ∧
 Nat.le ((x2 (IntKind.wrap .u64 (n3.tdiv 128)) q13 k14 k15 w16) + 1) (x2 n3 q4 k5 k6 w7)
 else
 ∃ q9 k10 k11 w12, (Sem.run Tryz.prog (Go.Builtin.append_ #[41, 41] 41 #[.slice q4 k5 k6, .slice (some ⟨w7.heap.size, 0, none⟩) 1 1]) (w7.alloc (.cells #[.int .u8 (IntKind.wrap .u8 n3)] 5)) = .ok (.slice q9 k10 k11) w12) ∧
 (((w7.alloc (.cells #[.int .u8 (IntKind.wrap .u8 n3)] 5))).heap.size ≤ w12.heap.size) ∧
 R (.returned (.slice q9 k10 k11)) w12) :
 Calls Tryz.prog 74 #[.int .u64 a] w R :=
 calls_of { isLoc := [], sym := [], loops := [(2, .inv [(0, .int .u64), (3, .slice)] [] true)], joins := [] } Tryz.func74 (by kernel_rfl) h
theorem x_r1Text (a : ByteArray) (w : World) (R : Ending → World → Prop) (h :
 CallX Tryz.prog 74 #[(.int .u64 (IntKind.wrap .u64 (((a.size) : Nat) : Int)))] w fun e1 w2 =>
 ∃ q3 k4 k5, e1 = .returned (.slice q3 k4 k5) ∧
 (w.heap.size ≤ w2.heap.size) ∧
 ∃ q6 k7 k8 w9, (Sem.run Tryz.prog (Go.Builtin.append_ #[41, 9] 41 #[.slice q3 k4 k5, .string a]) w2 = .ok (.slice q6 k7 k8) w9) ∧
 w2.heap.size ≤ w9.heap.size ∧
 R (.returned (.slice q6 k7 k8)) w9) :
 Calls Tryz.prog 131 #[.string a] w R :=
 calls_of { isLoc := [], sym := [], loops := [], joins := [] } Tryz.func131 (by kernel_rfl) h
theorem x_r1Fail (a : Addr) (b : Int) (w : World) (R : Ending → World → Prop) (h :
 ∃ n1, (World.cell? w (a.add 1) = some (.int .i64 n1)) ∧
 if (n1 == 0) = true then
 ((none : Option Nat) = none) ∧
 World.there w a.block (a.off + 1) 1 ∧
 R (.returned (.tuple #[])) (w.setCells a.block (a.off + 1) [.int .i64 b])
 else
 R (.returned (.tuple #[])) w) :
 Calls Tryz.prog 96 #[.pointer (some a), .int .i64 b] w R :=
 calls_of { isLoc := [], sym := [], loops := [], joins := [] } Tryz.func96 (by kernel_rfl) h
theorem x_r1U (a : Addr) (b : Int) (w : World) (R : Ending → World → Prop) (h :
 ∃ x1 : Int → Int → World → List Nat → Prop, ∃ x2 : Int → Int → World → Nat, (x1 0 0 w []) ∧
 ∀ n3 n4 w5 L6, (LF w.heap.size w5 L6) →
 (x1 n3 n4 w5 L6) →
 if (decide (n4 < 10)) = true then
 ∃ n9, (w5.cell? (a.add 1) = some (.int .i64 n9)) ∧
 if ((n9 != 0) == false) = true then
 ∃ q12 k13 k14, (w5.cell? (a.add 0) = some (.slice q12 k13 k14)) ∧
 if (false || decide (n4 ≥ ((k13 : Nat) : Int))) = true then
 CallX Tryz.prog 96 #[.pointer (some a), .int .i64 6] w5 fun e27 w28 =>
 (e27 = .returned (.tuple #[])) ∧
 w5.heap.size ≤ w28.heap.size ∧
 R (.returned (.int .u64 0)) w28
 else
 ∃ q15 k16 k17, (w5.cell? (a.add 0) = some (.slice q15 k16 k17)) ∧
 ((0 : Int) ≤ n4) ∧
 (n4 < ((k16 : Nat) : Int)) ∧
 onSome q15 fun p18 =>
 ∃ n19, (w5.cell? (p18.add ((n4).toNat * 1)) = some (.int .u8 n19)) ∧
 if (((n4 == 9) && decide (n19 > 1)) || (decide (n4 > 0) && (n19 == 0))) = true then
 CallX Tryz.prog 96 #[.pointer (some a), .int .i64 6] w5 fun e25 w26 =>
 (e25 = .returned (.tuple #[])) ∧
 w5.heap.size ≤ w26.heap.size ∧
 R (.returned (.int .u64 0)) w26
 else
 ((0 : Int) ≤ (IntKind.wrap .u64 (IntKind.wrap .i64 (7 * n4)))) ∧
 if (decide (n19 < 128)) = true then
 if (decide ((IntKind.wrap .u64 ((((BitVec.ofInt 64 n3 ||| BitVec.ofInt 64 (IntKind.u64.wrap (IntKind.u64.wrap (n19.tmod 128) * 2 ^ min (IntKind.u64.wrap (IntKind.i64.wrap (7 * n4))).toNat 64))).toNat) : Nat) : Int)) > b)) = true then
 CallX Tryz.prog 96 #[.pointer (some a), .int .i64 5] w5 fun e23 w24 =>
 (e23 = .returned (.tuple #[])) ∧
 w5.heap.size ≤ w24.heap.size ∧
 R (.returned (.int .u64 0)) w24
 else
 ∃ q20 k21 k22, (w5.cell? (a.add 0) = some (.slice q20 k21 k22)) ∧
 ((0 : Int) ≤ (IntKind.wrap .i64 (n4 + 1))) ∧
 ((IntKind.wrap .i64 (n4 + 1)) ≤ ((k21 : Nat) : Int)) ∧
 (((a.add 0).spot) = none) ∧
 w5.there ((a.add 0).block) ((a.add 0).off) 1 ∧
 R (.returned (.int .u64 (IntKind.wrap .u64 ((((BitVec.ofInt 64 n3 ||| BitVec.ofInt 64 (IntKind.u64.wrap (IntKind.u64.wrap (n19.tmod 128) * 2 ^ min (IntKind.u64.wrap (IntKind.i64.wrap (7 * n4))).toNat 64))).toNat) : Nat) : Int)))) (w5.setCells ((a.add 0).block) ((a.add 0).off) [(.slice (cutA q20 k22 ((IntKind.wrap .i64 (n4 + 1))).toNat 1) (k21 - ((IntKind.wrap .i64 (n4 + 1))).toNat) (k22 - ((IntKind.wrap .i64 (n4 + 1))).toNat))])
 else
 (x1 (IntKind.wrap .u64 ((((BitVec.ofInt 64 n3 ||| BitVec.ofInt 64 (IntKind.u64.wrap (IntKind.u64.wrap (n19.tmod 128) * 2 ^ min (IntKind.u64.wrap (IntKind.i64.wrap (7 * n4))).toNat 64))).toNat) : Nat) : Int)) (IntKind.wrap .i64 (n4 + 1)) w5 []) ∧
 Nat.le ((x2 (IntKind.wrap .u64 ((((BitVec.ofInt 64 n3 ||| BitVec.ofInt 64 (IntKind.u64.wrap (IntKind.u64.wrap (n19.tmod 128) * 2 ^ min (IntKind.u64.wrap (IntKind.i64.wrap (7 * n4))).toNat 64))).toNat) : Nat) : Int)) (IntKind.wrap .i64 (n4 + 1)) w5) + 1) (x2 n3 n4 w5)
 else
 CallX Tryz.prog 96 #[.pointer (some a), .int .i64 6] w5 fun e10 w11 =>
 (e10 = .returned (.tuple #[])) ∧
 w5.heap.size ≤ w11.heap.size ∧
 R (.returned (.int .u64 0)) w11
 else
 CallX Tryz.prog 96 #[.pointer (some a), .int .i64 6] w5 fun e7 w8 =>
 (e7 = .returned (.tuple #[])) ∧
 w5.heap.size ≤ w8.heap.size ∧
 R (.returned (.int .u64 0)) w8) :
 Calls Tryz.prog 98 #[.pointer (some a), .int .u64 b] w R :=
 calls_of { isLoc := [], sym := [58], loops := [(3, .inv [(5, .int .u64), (6, .int .i64)] [] true)], joins := [] } Tryz.func98 (by kernel_rfl) h
theorem x_r1B (a : Addr) (w : World) (R : Ending → World → Prop) (h :
 ∃ n1, (World.cell? w (a.add 1) = some (.int .i64 n1)) ∧
 if ((n1 != 0) == false) = true then
 ∃ q4 k5 k6, (World.cell? w (a.add 0) = some (.slice q4 k5 k6)) ∧
 if (false || (((k5 : Nat) : Int) == 0)) = true then
 CallX Tryz.prog 96 #[.pointer (some a), .int .i64 6] w fun e15 w16 =>
 (e15 = .returned (.tuple #[])) ∧
 (w.heap.size ≤ w16.heap.size) ∧
 R (.returned (.int .u8 0)) w16
 else
 ∃ q7 k8 k9, (World.cell? w (a.add 0) = some (.slice q7 k8 k9)) ∧
 ((0 : Int) ≤ 0) ∧
 ((0 : Int) < ((k8 : Nat) : Int)) ∧
 onSome q7 fun p10 =>
 ∃ n11, (World.cell? w (p10.add 0) = some (.int .u8 n11)) ∧
 ∃ q12 k13 k14, (World.cell? w (a.add 0) = some (.slice q12 k13 k14)) ∧
 ((0 : Int) ≤ 1) ∧
 ((1 : Int) ≤ ((k13 : Nat) : Int)) ∧
 (((a.add 0).spot) = none) ∧
 World.there w ((a.add 0).block) ((a.add 0).off) 1 ∧
 R (.returned (.int .u8 n11)) (w.setCells ((a.add 0).block) ((a.add 0).off) [.slice (cutA q12 k14 1 1) (k13 - 1) (k14 - 1)])
 else
 CallX Tryz.prog 96 #[.pointer (some a), .int .i64 6] w fun e2 w3 =>
 (e2 = .returned (.tuple #[])) ∧
 (w.heap.size ≤ w3.heap.size) ∧
 R (.returned (.int .u8 0)) w3) :
 Calls Tryz.prog 38 #[.pointer (some a)] w R :=
 calls_of { isLoc := [], sym := [], loops := [], joins := [] } Tryz.func38 (by kernel_rfl) h
theorem x_r1RText (a : Addr) (b : Int) (w : World) (R : Ending → World → Prop) (h :
 CallX Tryz.prog 98 #[.pointer (some a), (.int .u64 (IntKind.wrap .u64 (if (0 : Int) > b then 0 else b)))] w fun e1 w2 =>
 ∃ n3, e1 = .returned (.int .u64 n3) ∧
 (w.heap.size ≤ w2.heap.size) ∧
 ∃ n4, (w2.cell? (a.add 1) = some (.int .i64 n4)) ∧
 if ((n4 != 0) == false) = true then
 ∃ q7 k8 k9, (w2.cell? (a.add 0) = some (.slice q7 k8 k9)) ∧
 if (false || decide (n3 > (IntKind.wrap .u64 ((k8 : Nat) : Int)))) = true then
 CallX Tryz.prog 96 #[.pointer (some a), .int .i64 6] w2 fun e18 w19 =>
 (e18 = .returned (.tuple #[])) ∧
 w2.heap.size ≤ w19.heap.size ∧
 R (.returned (.string (ByteArray.mk #[]))) w19
 else
 ∃ q10 k11 k12, (w2.cell? (a.add 0) = some (.slice q10 k11 k12)) ∧
 ((0 : Int) ≤ n3) ∧
 (n3 ≤ ((k12 : Nat) : Int)) ∧
 ∃ s13 w14, (Sem.run Tryz.prog (Go.convert 41 9 (.slice (cutA q10 k12 0 1) (n3).toNat k12)) w2 = .ok (.string s13) w14) ∧
 w2.heap.size ≤ w14.heap.size ∧
 ∃ q15 k16 k17, (w14.cell? (a.add 0) = some (.slice q15 k16 k17)) ∧
 ((0 : Int) ≤ n3) ∧
 (n3 ≤ ((k16 : Nat) : Int)) ∧
 (((a.add 0).spot) = none) ∧
 w14.there ((a.add 0).block) ((a.add 0).off) 1 ∧
 R (.returned (.string s13)) (w14.setCells ((a.add 0).block) ((a.add 0).off) [(.slice (cutA q15 k17 (n3).toNat 1) (k16 - (n3).toNat) (k17 - (n3).toNat))])
 else
 CallX Tryz.prog 96 #[.pointer (some a), .int .i64 6] w2 fun e5 w6 =>
 (e5 = .returned (.tuple #[])) ∧
 w2.heap.size ≤ w6.heap.size ∧
 R (.returned (.string (ByteArray.mk #[]))) w6) :
 Calls Tryz.prog 143 #[.pointer (some a), .int .i64 b] w R :=
 calls_of { isLoc := [], sym := [], loops := [], joins := [] } Tryz.func143 (by kernel_rfl) h
theorem x_r1End (a : Addr) (w : World) (R : Ending → World → Prop) (h :
 ∃ n1, (World.cell? w (a.add 1) = some (.int .i64 n1)) ∧
 if ((n1 == 0) == true) = true then
 ∃ q3 k4 k5, (World.cell? w (a.add 0) = some (.slice q3 k4 k5)) ∧
 if (true && decide (((k4 : Nat) : Int) > 0)) = true then
 R (.returned (.int .i64 6)) w
 else
 ∃ n6, (World.cell? w (a.add 1) = some (.int .i64 n6)) ∧
 R (.returned (.int .i64 n6)) w
 else
 ∃ n2, (World.cell? w (a.add 1) = some (.int .i64 n2)) ∧
 R (.returned (.int .i64 n2)) w) :
 Calls Tryz.prog 41 #[.pointer (some a)] w R :=
 calls_of { isLoc := [], sym := [], loops := [], joins := [] } Tryz.func41 (by kernel_rfl) h
theorem x_r2PutProc (a_0 a_1 : Int) (w : World) (R : Ending → World → Prop) (h :
 ∃ x1, (FactsW x1 w []) ∧
 (∀ w2 L3, Hid [] w w2 →
 NewL w.heap.size [] w w2 L3 →
 (FactsW x1 (w2.alloc (.cells #[.int .u8 a_0] 5)) L3) ∧
 CallX Tryz.prog 74 #[.int .u64 (IntKind.wrap .u64 a_1)] (w2.alloc (.cells #[.int .u8 a_0] 5)) fun e4 w5 =>
 ∃ q6 k7 k8, e4 = .returned (.slice q6 k7 k8) ∧
 (Kept L3 (w2.alloc (.cells #[.int .u8 a_0] 5)) w5) ∧
 FactsW x1 w5 L3 ∧
 ∃ q9 k10 k11 w12, (Sem.run Tryz.prog (Go.Builtin.append_ #[41, 41] 41 #[.slice (some ⟨w2.heap.size, 0, none⟩) 1 1, .slice q6 k7 k8]) w5 = .ok (.slice q9 k10 k11) w12) ∧
 Kept L3 w5 w12 ∧
 FactsW x1 w12 L3 ∧
 R (.returned (.slice q9 k10 k11)) w12) ∧
 ∀ w13 L14, Hid [] w w13 →
 NewL w.heap.size [] w w13 L14 →
 CallX Tryz.prog 74 #[.int .u64 (IntKind.wrap .u64 a_1)] w13 fun e15 w16 =>
 ∃ q17 k18 k19, e15 = .returned (.slice q17 k18 k19) ∧
 Kept L14 w13 w16 ∧
 FactsW x1 w16 L14 ∧
 (FactsW x1 (w16.alloc (.cells #[.int .u8 a_0] 5)) L14) ∧
 ∃ q20 k21 k22 w23, (Sem.run Tryz.prog (Go.Builtin.append_ #[41, 41] 41 #[.slice (some ⟨w16.heap.size, 0, none⟩) 1 1, .slice q17 k18 k19]) (w16.alloc (.cells #[.int .u8 a_0] 5)) = .ok (.slice q20 k21 k22) w23) ∧
 (Kept L14 (w16.alloc (.cells #[.int .u8 a_0] 5)) w23) ∧
 FactsW x1 w23 L14 ∧
 R (.returned (.slice q20 k21 k22)) w23) :
 Calls Tryz.prog 81 #[.agg #[.int .u8 a_0, .int .u16 a_1]] w R :=
 calls_of { isLoc := [1], sym := [], loops := [], joins := [] } Tryz.func81 (by kernel_rfl) h
theorem x_r2GetProc (a : Addr) (w : World) (R : Ending → World → Prop) (h :
 ∀ w1 L2, Hid [] w w1 →
 NewL w.heap.size [] w w1 L2 →
 CallX Tryz.prog 38 #[.pointer (some a)] w1 fun e3 w4 =>
 ∃ n5, e3 = .returned (.int .u8 n5) ∧
 Kept L2 w1 w4 ∧
 CallX Tryz.prog 98 #[.pointer (some a), .int .u64 65535] w4 fun e6 w7 =>
 ∃ n8, e6 = .returned (.int .u64 n8) ∧
 Kept L2 w4 w7 ∧
 ∀ w9, Hid L2 w7 w9 →
 R (.returned (.agg #[.int .u8 n5, .int .u16 (IntKind.wrap .u16 n8)])) w9) :
 Calls Tryz.prog 104 #[.pointer (some a)] w R :=
 calls_of { isLoc := [2], sym := [], loops := [], joins := [] } Tryz.func104 (by kernel_rfl) h
theorem x_r7flag (a : Bool) (w : World) (R : Ending → World → Prop) (h :
 if a = true then
 R (.returned (.int .u8 1)) w
 else
 R (.returned (.int .u8 0)) w) :
 Calls Tryz.prog 79 #[.bool a] w R :=
 calls_of { isLoc := [], sym := [], loops := [], joins := [] } Tryz.func79 (by kernel_rfl) h
end Go.Proofs
/- The verification conditions of this seat's functions, as the engine has them: printed by a program of the bench; checked by the kernel. -/
namespace Go.Proofs
open Go X
theorem x_steps (a_0 a_1 a_2 a_3 a_4 a_5 a_6 a_7 a_8 a_9 : Int) (w : World) (R : Ending → World → Prop) (h :
 ∀ w1 L2, Hid [] w w1 →
 NewL w.heap.size [] w w1 L2 →
 ((none : Option Nat) = none) ∧
 World.there (w1.alloc (.cells #[.int .u8 0, .int .u8 0, .int .u8 0, .int .u8 0, .int .u8 0, .int .u8 0] 49)) w1.heap.size 0 6 ∧
 ¬ w1.heap.size ∈ L2 ∧
 ((0 : Int) ≤ (if (3 : Int) < (IntKind.wrap .i64 a_3) then 3 else (IntKind.wrap .i64 a_3))) ∧
 ((if (3 : Int) < (IntKind.wrap .i64 a_3) then 3 else (IntKind.wrap .i64 a_3)) ≤ 3) ∧
 R (.returned (.slice (some ⟨w1.heap.size, 0, none⟩) ((if (3 : Int) < (IntKind.wrap .i64 a_3) then 3 else (IntKind.wrap .i64 a_3))).toNat 3)) ((w1.alloc (.cells #[.int .u8 0, .int .u8 0, .int .u8 0, .int .u8 0, .int .u8 0, .int .u8 0] 49)).setCells w1.heap.size 0 [.int .u8 a_4, .int .u8 a_5, .int .u8 a_6, .int .u8 a_7, .int .u8 a_8, .int .u8 a_9])) :
 Calls Tryz.prog 118 #[.agg #[.int .u8 a_0, .int .u16 a_1, .int .u32 a_2, .int .u8 a_3, .int .u8 a_4, .int .u8 a_5, .int .u8 a_6, .int .u8 a_7, .int .u8 a_8, .int .u8 a_9]] w R :=
 calls_of { isLoc := [1], sym := [], loops := [], joins := [] } Tryz.func118 (by kernel_rfl) h
theorem x_PutID (a : Addr) (b_0 b_1 b_2 b_3 b_4 b_5 b_6 b_7 b_8 b_9 : Int) (w : World) (R : Ending → World → Prop) (h :
 ∀ w1 L2, Hid [] w w1 →
 NewL w.heap.size [] w w1 L2 →
 CallX Tryz.prog 68 #[.pointer (some a), (.agg #[.int .u8 b_0, .int .u16 b_1])] w1 fun e3 w4 =>
 (e3 = .returned (.tuple #[])) ∧
 Kept L2 w1 w4 ∧
 CallX Tryz.prog 60 #[.pointer (some a), .int .u64 (IntKind.wrap .u64 b_2)] w4 fun e5 w6 =>
 (e5 = .returned (.tuple #[])) ∧
 Kept L2 w4 w6 ∧
 CallX Tryz.prog 20 #[.pointer (some a), .int .u8 b_3] w6 fun e7 w8 =>
 (e7 = .returned (.tuple #[])) ∧
 Kept L2 w6 w8 ∧
 CallX Tryz.prog 118 #[(IdW b_0 b_1 b_2 b_3 b_4 b_5 b_6 b_7 b_8 b_9)] w8 fun e9 w10 =>
 ∃ q11 k12 k13, e9 = .returned (.slice q11 k12 k13) ∧
 Kept L2 w8 w10 ∧
 ∃ x14 : Int → World → List Nat → Prop, ∃ x15 : Int → World → Nat, (x14 0 w10 L2) ∧
 ∀ n16 w17 L18, (LF w.heap.size w17 L18) →
 (x14 n16 w17 L18) →
 if (decide (n16 < ((k12 : Nat) : Int))) = true then
 ((0 : Int) ≤ n16) ∧
 (n16 < ((k12 : Nat) : Int)) ∧
 onSome q11 fun p19 =>
 ∃ n20 n21, (Cells w17 (p19.add ((n16).toNat * 2)) [.int .u8 n20, .int .u8 n21]) ∧
 (¬ (((p19.add (n16.toNat * 2)).block) ∈ L18)) ∧
 ∀ w22 L23, Hid L18 w17 w22 →
 NewL w.heap.size L18 w17 w22 L23 →
 CallX Tryz.prog 20 #[.pointer (some a), .int .u8 n20] w22 fun e24 w25 =>
 (e24 = .returned (.tuple #[])) ∧
 Kept L23 w22 w25 ∧
 CallX Tryz.prog 20 #[.pointer (some a), .int .u8 n21] w25 fun e26 w27 =>
 (e26 = .returned (.tuple #[])) ∧
 Kept L23 w25 w27 ∧
 (([.int .u8 b_0, .int .u16 b_1, .int .u32 b_2, .int .u8 b_3, .int .u8 b_4, .int .u8 b_5, .int .u8 b_6, .int .u8 b_7, .int .u8 b_8, .int .u8 b_9] : List Value) = [.int .u8 b_0, .int .u16 b_1, .int .u32 b_2, .int .u8 b_3, .int .u8 b_4, .int .u8 b_5, .int .u8 b_6, .int .u8 b_7, .int .u8 b_8, .int .u8 b_9]) ∧
 (x14 (IntKind.wrap .i64 (n16 + 1)) w27 L23) ∧
 Nat.le ((x15 (IntKind.wrap .i64 (n16 + 1)) w27) + 1) (x15 n16 w17)
 else
 R (.returned (.tuple #[])) w17) :
 Calls Tryz.prog 59 #[.pointer (some a), .agg #[.int .u8 b_0, .int .u16 b_1, .int .u32 b_2, .int .u8 b_3, .int .u8 b_4, .int .u8 b_5, .int .u8 b_6, .int .u8 b_7, .int .u8 b_8, .int .u8 b_9]] w R :=
 calls_of { isLoc := [3, 5], sym := [], loops := [(5, .inv [(22, .int .i64)] [] true)], joins := [] } Tryz.func59 (by kernel_rfl) h
theorem x_Zig (a : Int) (w : World) (R : Ending → World → Prop) (h :
 R (.returned (.int .u64 (IntKind.wrap .u64 ((((BitVec.ofInt 64 (IntKind.u64.wrap (IntKind.u64.wrap a * 2)) ^^^ BitVec.ofInt 64 (IntKind.u64.wrap (a.fdiv 9223372036854775808))).toNat) : Nat) : Int)))) w) :
 Calls Tryz.prog 169 #[.int .i64 a] w R :=
 calls_of { isLoc := [], sym := [], loops := [], joins := [] } Tryz.func169 (by kernel_rfl) h
theorem x_WI (a : Addr) (b : Int) (w : World) (R : Ending → World → Prop) (h :
 CallX Tryz.prog 169 #[.int .i64 b] w fun e1 w2 =>
 ∃ n3, e1 = .returned (.int .u64 n3) ∧
 (w.heap.size ≤ w2.heap.size) ∧
 CallX Tryz.prog 60 #[.pointer (some a), .int .u64 n3] w2 fun e4 w5 =>
 (e4 = .returned (.tuple #[])) ∧
 w2.heap.size ≤ w5.heap.size ∧
 R (.returned (.tuple #[])) w5) :
 Calls Tryz.prog 152 #[.pointer (some a), .int .i64 b] w R :=
 calls_of { isLoc := [], sym := [], loops := [], joins := [] } Tryz.func152 (by kernel_rfl) h
theorem x_pPut (a : Addr) (b_0 b_1 : Int) (b_2 b_3 : ByteArray) (b_4 : Int) (w : World) (R : Ending → World → Prop) (h :
 ∀ w1 L2, Hid [] w w1 →
 NewL w.heap.size [] w w1 L2 →
 CallX Tryz.prog 20 #[.pointer (some a), .int .u8 b_0] w1 fun e3 w4 =>
 (e3 = .returned (.tuple #[])) ∧
 Kept L2 w1 w4 ∧
 CallX Tryz.prog 20 #[.pointer (some a), .int .u8 b_1] w4 fun e5 w6 =>
 (e5 = .returned (.tuple #[])) ∧
 Kept L2 w4 w6 ∧
 CallX Tryz.prog 120 #[.pointer (some a), .string b_2] w6 fun e7 w8 =>
 (e7 = .returned (.tuple #[])) ∧
 Kept L2 w6 w8 ∧
 CallX Tryz.prog 120 #[.pointer (some a), .string b_3] w8 fun e9 w10 =>
 (e9 = .returned (.tuple #[])) ∧
 Kept L2 w8 w10 ∧
 CallX Tryz.prog 152 #[.pointer (some a), .int .i64 b_4] w10 fun e11 w12 =>
 (e11 = .returned (.tuple #[])) ∧
 Kept L2 w10 w12 ∧
 R (.returned (.tuple #[])) w12) :
 Calls Tryz.prog 119 #[.pointer (some a), .agg #[.int .u8 b_0, .int .u8 b_1, .string b_2, .string b_3, .int .i64 b_4]] w R :=
 calls_of { isLoc := [3], sym := [], loops := [], joins := [] } Tryz.func119 (by kernel_rfl) h
theorem x_pPutAll (a : Addr) (b : Option Addr) (bl bc : Nat) (w : World) (R : Ending → World → Prop) (h :
 ((0 : Int) ≤ (if (255 : Int) < ((bl : Nat) : Int) then 255 else ((bl : Nat) : Int))) ∧
 ((if (255 : Int) < ((bl : Nat) : Int) then 255 else ((bl : Nat) : Int)) ≤ ((bc : Nat) : Int)) ∧
 CallX Tryz.prog 20 #[.pointer (some a), (.int .u8 (IntKind.wrap .u8 ((((if (255 : Int) < ((bl : Nat) : Int) then 255 else ((bl : Nat) : Int))).toNat : Nat) : Int)))] w fun e1 w2 =>
 (e1 = .returned (.tuple #[])) ∧
 (w.heap.size ≤ w2.heap.size) ∧
 ∃ x3 : Int → World → List Nat → Prop, ∃ x4 : Int → World → Nat, (x3 0 w2 []) ∧
 ∀ n5 w6 L7, (LF w.heap.size w6 L7) →
 (x3 n5 w6 L7) →
 if (decide (n5 < ((((if (255 : Int) < ((bl : Nat) : Int) then 255 else ((bl : Nat) : Int))).toNat : Nat) : Int))) = true then
 ((0 : Int) ≤ n5) ∧
 (n5 < ((((if (255 : Int) < ((bl : Nat) : Int) then 255 else ((bl : Nat) : Int))).toNat : Nat) : Int)) ∧
 onSome (cutA b bc 0 5) fun p8 =>
 ∃ n9 n10 s11 s12 n13, (Cells w6 (p8.add ((n5).toNat * 5)) [.int .u8 n9, .int .u8 n10, .string s11, .string s12, .int .i64 n13]) ∧
 ∀ w14 L15, Hid [] w6 w14 →
 NewL w.heap.size [] w6 w14 L15 →
 CallX Tryz.prog 119 #[.pointer (some a), (.agg #[.int .u8 n9, .int .u8 n10, .string s11, .string s12, .int .i64 n13])] w14 fun e16 w17 =>
 (e16 = .returned (.tuple #[])) ∧
 Kept L15 w14 w17 ∧
 (x3 (IntKind.wrap .i64 (n5 + 1)) w17 L15) ∧
 Nat.le ((x4 (IntKind.wrap .i64 (n5 + 1)) w17) + 1) (x4 n5 w6)
 else
 R (.returned (.tuple #[])) w6) :
 Calls Tryz.prog 61 #[.pointer (some a), .slice b bl bc] w R :=
 calls_of { isLoc := [5], sym := [], loops := [(3, .inv [(18, .int .i64)] [] true)], joins := [] } Tryz.func61 (by kernel_rfl) h
theorem x_PutRes (a : Addr) (b_0 : Int) (b_1 : ByteArray) (w : World) (R : Ending → World → Prop) (h :
 ∀ w1 L2, Hid [] w w1 →
 NewL w.heap.size [] w w1 L2 →
 CallX Tryz.prog 20 #[.pointer (some a), .int .u8 b_0] w1 fun e3 w4 =>
 (e3 = .returned (.tuple #[])) ∧
 Kept L2 w1 w4 ∧
 CallX Tryz.prog 120 #[.pointer (some a), .string b_1] w4 fun e5 w6 =>
 (e5 = .returned (.tuple #[])) ∧
 Kept L2 w4 w6 ∧
 R (.returned (.tuple #[])) w6) :
 Calls Tryz.prog 62 #[.pointer (some a), .agg #[.int .u8 b_0, .string b_1]] w R :=
 calls_of { isLoc := [3], sym := [], loops := [], joins := [] } Tryz.func62 (by kernel_rfl) h
theorem x_vPut (a : Addr) (b_0 b_1 : Int) (b_2 : Option Addr) (b_2l b_2c : Nat) (w : World) (R : Ending → World → Prop) (h :
 ∀ w1 L2, Hid [] w w1 →
 NewL w.heap.size [] w w1 L2 →
 CallX Tryz.prog 20 #[.pointer (some a), .int .u8 b_0] w1 fun e3 w4 =>
 (e3 = .returned (.tuple #[])) ∧
 Kept L2 w1 w4 ∧
 CallX Tryz.prog 60 #[.pointer (some a), .int .u64 (IntKind.wrap .u64 b_1)] w4 fun e5 w6 =>
 (e5 = .returned (.tuple #[])) ∧
 Kept L2 w4 w6 ∧
 ((0 : Int) ≤ (if (255 : Int) < ((b_2l : Nat) : Int) then 255 else ((b_2l : Nat) : Int))) ∧
 ((if (255 : Int) < ((b_2l : Nat) : Int) then 255 else ((b_2l : Nat) : Int)) ≤ ((b_2c : Nat) : Int)) ∧
 CallX Tryz.prog 20 #[.pointer (some a), (.int .u8 (IntKind.wrap .u8 ((((if (255 : Int) < ((b_2l : Nat) : Int) then 255 else ((b_2l : Nat) : Int))).toNat : Nat) : Int)))] w6 fun e7 w8 =>
 (e7 = .returned (.tuple #[])) ∧
 Kept L2 w6 w8 ∧
 ∃ x9 : Int → World → List Nat → Prop, ∃ x10 : Int → World → Nat, (x9 0 w8 L2) ∧
 ∀ n11 w12 L13, (LF w.heap.size w12 L13) →
 (x9 n11 w12 L13) →
 if (decide (n11 < ((((if (255 : Int) < ((b_2l : Nat) : Int) then 255 else ((b_2l : Nat) : Int))).toNat : Nat) : Int))) = true then
 ((0 : Int) ≤ n11) ∧
 (n11 < ((((if (255 : Int) < ((b_2l : Nat) : Int) then 255 else ((b_2l : Nat) : Int))).toNat : Nat) : Int)) ∧
 onSome (cutA b_2 b_2c 0 2) fun p14 =>
 ∃ n15 n16, (Cells w12 (p14.add ((n11).toNat * 2)) [.int .u8 n15, .int .u16 n16]) ∧
 (¬ (((p14.add (n11.toNat * 2)).block) ∈ L13)) ∧
 ∀ w17 L18, Hid L13 w12 w17 →
 NewL w.heap.size L13 w12 w17 L18 →
 CallX Tryz.prog 68 #[.pointer (some a), (.agg #[.int .u8 n15, .int .u16 n16])] w17 fun e19 w20 =>
 (e19 = .returned (.tuple #[])) ∧
 Kept L18 w17 w20 ∧
 (([.int .u8 b_0, .int .u32 b_1, .slice b_2 b_2l b_2c] : List Value) = [.int .u8 b_0, .int .u32 b_1, .slice b_2 b_2l b_2c]) ∧
 (x9 (IntKind.wrap .i64 (n11 + 1)) w20 L18) ∧
 Nat.le ((x10 (IntKind.wrap .i64 (n11 + 1)) w20) + 1) (x10 n11 w12)
 else
 R (.returned (.tuple #[])) w12) :
 Calls Tryz.prog 63 #[.pointer (some a), .agg #[.int .u8 b_0, .int .u32 b_1, .slice b_2 b_2l b_2c]] w R :=
 calls_of { isLoc := [3, 6], sym := [], loops := [(6, .inv [(30, .int .i64)] [] true)], joins := [] } Tryz.func63 (by kernel_rfl) h
theorem x_putWrite (a : Addr) (b_0 b_1 : ByteArray) (b_2 : Bool) (w : World) (R : Ending → World → Prop) (h :
 ∀ w1 L2, Hid [] w w1 →
 NewL w.heap.size [] w w1 L2 →
 CallX Tryz.prog 120 #[.pointer (some a), .string b_0] w1 fun e3 w4 =>
 (e3 = .returned (.tuple #[])) ∧
 Kept L2 w1 w4 ∧
 CallX Tryz.prog 120 #[.pointer (some a), .string b_1] w4 fun e5 w6 =>
 (e5 = .returned (.tuple #[])) ∧
 Kept L2 w4 w6 ∧
 if b_2 = true then
 CallX Tryz.prog 20 #[.pointer (some a), .int .u8 1] w6 fun e9 w10 =>
 (e9 = .returned (.tuple #[])) ∧
 Kept L2 w6 w10 ∧
 R (.returned (.tuple #[])) w10
 else
 CallX Tryz.prog 20 #[.pointer (some a), .int .u8 0] w6 fun e7 w8 =>
 (e7 = .returned (.tuple #[])) ∧
 Kept L2 w6 w8 ∧
 R (.returned (.tuple #[])) w8) :
 Calls Tryz.prog 153 #[.pointer (some a), .agg #[.string b_0, .string b_1, .bool b_2]] w R :=
 calls_of { isLoc := [3], sym := [], loops := [], joins := [] } Tryz.func153 (by kernel_rfl) h
theorem x_ePutAll (a : Addr) (b : Option Addr) (bl bc : Nat) (w : World) (R : Ending → World → Prop) (h :
 CallX Tryz.prog 60 #[.pointer (some a), (.int .u64 (IntKind.wrap .u64 ((bl : Nat) : Int)))] w fun e1 w2 =>
 (e1 = .returned (.tuple #[])) ∧
 (w.heap.size ≤ w2.heap.size) ∧
 ∃ x3 : Int → World → List Nat → Prop, ∃ x4 : Int → World → Nat, (x3 0 w2 []) ∧
 ∀ n5 w6 L7, (LF w.heap.size w6 L7) →
 (x3 n5 w6 L7) →
 if (decide (n5 < ((bl : Nat) : Int))) = true then
 ((0 : Int) ≤ n5) ∧
 (n5 < ((bl : Nat) : Int)) ∧
 onSome b fun p8 =>
 ∃ n9 n10 n11 n12 n13 n14 n15 n16 n17 n18 n19 n20 q21 k22 k23 n24 s25 q26 k27 k28 n29 n30, (Cells w6 (p8.add ((n5).toNat * 18)) [.int .u8 n9, .int .u8 n10, .int .u16 n11, .int .u32 n12, .int .u8 n13, .int .u8 n14, .int .u8 n15, .int .u8 n16, .int .u8 n17, .int .u8 n18, .int .u8 n19, .int .u32 n20, .slice q21 k22 k23, .int .u8 n24, .string s25, .slice q26 k27 k28, .int .u8 n29, .int .u16 n30]) ∧
 ∀ w31 L32, Hid [] w6 w31 →
 NewL w.heap.size [] w6 w31 L32 →
 CallX Tryz.prog 121 #[.pointer (some a), (EnW n9 n10 n11 n12 n13 n14 n15 n16 n17 n18 n19 n20 q21 k22 k23 n24 s25 q26 k27 k28 n29 n30)] w31 fun e33 w34 =>
 (e33 = .returned (.tuple #[])) ∧
 Kept L32 w31 w34 ∧
 (x3 (IntKind.wrap .i64 (n5 + 1)) w34 L32) ∧
 Nat.le ((x4 (IntKind.wrap .i64 (n5 + 1)) w34) + 1) (x4 n5 w6)
 else
 R (.returned (.tuple #[])) w6) :
 Calls Tryz.prog 64 #[.pointer (some a), .slice b bl bc] w R :=
 calls_of { isLoc := [5], sym := [], loops := [(2, .inv [(13, .int .i64)] [] true)], joins := [] } Tryz.func64 (by kernel_rfl) h
theorem x_Wprocs (a : Addr) (b : Option Addr) (bl bc : Nat) (w : World) (R : Ending → World → Prop) (h :
 ((0 : Int) ≤ (if (255 : Int) < ((bl : Nat) : Int) then 255 else ((bl : Nat) : Int))) ∧
 ((if (255 : Int) < ((bl : Nat) : Int) then 255 else ((bl : Nat) : Int)) ≤ ((bc : Nat) : Int)) ∧
 CallX Tryz.prog 20 #[(.pointer (some (a.add 0))), (.int .u8 (IntKind.wrap .u8 ((((if (255 : Int) < ((bl : Nat) : Int) then 255 else ((bl : Nat) : Int))).toNat : Nat) : Int)))] w fun e1 w2 =>
 (e1 = .returned (.tuple #[])) ∧
 (w.heap.size ≤ w2.heap.size) ∧
 ∃ x3 : Int → World → List Nat → Prop, ∃ x4 : Int → World → Nat, (x3 0 w2 []) ∧
 ∀ n5 w6 L7, (LF w.heap.size w6 L7) →
 (x3 n5 w6 L7) →
 if (decide (n5 < ((((if (255 : Int) < ((bl : Nat) : Int) then 255 else ((bl : Nat) : Int))).toNat : Nat) : Int))) = true then
 ((0 : Int) ≤ n5) ∧
 (n5 < ((((if (255 : Int) < ((bl : Nat) : Int) then 255 else ((bl : Nat) : Int))).toNat : Nat) : Int)) ∧
 onSome (cutA b bc 0 2) fun p8 =>
 ∃ n9 n10, (Cells w6 (p8.add ((n5).toNat * 2)) [.int .u8 n9, .int .u16 n10]) ∧
 ∃ x11, (FactsW x11 w6 []) ∧
 ∀ w12 L13, Hid [] w6 w12 →
 NewL w.heap.size [] w6 w12 L13 →
 CallX Tryz.prog 68 #[(.pointer (some (a.add 0))), (.agg #[.int .u8 n9, .int .u16 n10])] w12 fun e14 w15 =>
 (e14 = .returned (.tuple #[])) ∧
 Kept L13 w12 w15 ∧
 (x3 (IntKind.wrap .i64 (n5 + 1)) w15 L13) ∧
 Nat.le ((x4 (IntKind.wrap .i64 (n5 + 1)) w15) + 1) (x4 n5 w6)
 else
 R (.returned (.tuple #[])) w6) :
 Calls Tryz.prog 122 #[.pointer (some a), .slice b bl bc] w R :=
 calls_of { isLoc := [5], sym := [], loops := [(3, .inv [(20, .int .i64)] [] true)], joins := [] } Tryz.func122 (by kernel_rfl) h
theorem x_Wvalue (a : Addr) (b_0 b_1 b_2 b_3 b_4 b_5 b_6 b_7 b_8 b_9 b_10 b_11 b_12 b_13 b_14 b_15 b_16 b_17 b_18 : Int) (b_19 : Option Addr) (b_19l b_19c : Nat) (b_20 : Int) (b_21 : ByteArray) (b_22 b_23 : Int) (b_24 : Option Addr) (b_24l b_24c : Nat) (b_25 b_26 : Int) (b_27 : Bool) (b_28 : Option Addr) (b_28l b_28c : Nat) (b_29 : Option Addr) (b_29l b_29c : Nat) (b_30 : Option Addr) (b_30l b_30c : Nat) (w : World) (R : Ending → World → Prop) (h :
 ∀ w1 L2, Hid [] w w1 →
 NewL w.heap.size [] w w1 L2 →
 CallX Tryz.prog 122 #[.pointer (some a), .slice b_28 b_28l b_28c] w1 fun e3 w4 =>
 (e3 = .returned (.tuple #[])) ∧
 Kept L2 w1 w4 ∧
 ∃ x5, (FactsW x5 w4 L2) ∧
 ∀ w6 L7, Hid L2 w4 w6 →
 NewL w.heap.size L2 w4 w6 L7 →
 CallX Tryz.prog 64 #[(.pointer (some (a.add 0))), .slice b_30 b_30l b_30c] w6 fun e8 w9 =>
 (e8 = .returned (.tuple #[])) ∧
 Kept L7 w6 w9 ∧
 R (.returned (.tuple #[])) w9) :
 Calls Tryz.prog 67 #[.pointer (some a), .agg #[.int .u8 b_0, .int .u8 b_1, .int .u8 b_2, .int .u32 b_3, .int .u32 b_4, .int .u32 b_5, .int .u32 b_6, .int .u64 b_7, .int .u64 b_8, .int .u8 b_9, .int .u16 b_10, .int .u32 b_11, .int .u8 b_12, .int .u8 b_13, .int .u8 b_14, .int .u8 b_15, .int .u8 b_16, .int .u8 b_17, .int .u8 b_18, .slice b_19 b_19l b_19c, .int .u8 b_20, .string b_21, .int .u8 b_22, .int .u32 b_23, .slice b_24 b_24l b_24c, .int .u8 b_25, .int .u16 b_26, .bool b_27, .slice b_28 b_28l b_28c, .slice b_29 b_29l b_29c, .slice b_30 b_30l b_30c]] w R :=
 calls_of { isLoc := [3], sym := [], loops := [], joins := [] } Tryz.func67 (by kernel_rfl) h
end Go.Proofs
/- The verification conditions of this seat's functions, as the engine has them: printed by a program of the bench; checked by the kernel. -/
namespace Go.Proofs
open Go X
theorem x_ePut (a : Addr) (b_0 b_1 b_2 b_3 b_4 b_5 b_6 b_7 b_8 b_9 b_10 b_11 : Int) (b_12 : Option Addr) (b_12l b_12c : Nat) (b_13 : Int) (b_14 : ByteArray) (b_15 : Option Addr) (b_15l b_15c : Nat) (b_16 b_17 : Int) (w : World) (R : Ending → World → Prop) (h :
 ∀ w1 L2, Hid [] w w1 →
 NewL w.heap.size [] w w1 L2 →
 CallX Tryz.prog 20 #[.pointer (some a), .int .u8 b_0] w1 fun e3 w4 =>
 (e3 = .returned (.tuple #[])) ∧
 Kept L2 w1 w4 ∧
 if (b_0 == 0) = true then
 if (b_0 == 0) = true then
 CallX Tryz.prog 59 #[.pointer (some a), (IdW b_1 b_2 b_3 b_4 b_5 b_6 b_7 b_8 b_9 b_10)] w4 fun e40 w41 =>
 (e40 = .returned (.tuple #[])) ∧
 Kept L2 w4 w41 ∧
 CallX Tryz.prog 60 #[.pointer (some a), .int .u64 (IntKind.wrap .u64 b_11)] w41 fun e42 w43 =>
 (e42 = .returned (.tuple #[])) ∧
 Kept L2 w41 w43 ∧
 CallX Tryz.prog 61 #[.pointer (some a), .slice b_12 b_12l b_12c] w43 fun e44 w45 =>
 (e44 = .returned (.tuple #[])) ∧
 Kept L2 w43 w45 ∧
 if (b_0 == 0) = true then
 R (.returned (.tuple #[])) w45
 else
 CallX Tryz.prog 62 #[.pointer (some a), (.agg #[.int .u8 b_13, .string b_14])] w45 fun e46 w47 =>
 (e46 = .returned (.tuple #[])) ∧
 Kept L2 w45 w47 ∧
 ((0 : Int) ≤ (if (255 : Int) < ((b_15l : Nat) : Int) then 255 else ((b_15l : Nat) : Int))) ∧
 ((if (255 : Int) < ((b_15l : Nat) : Int) then 255 else ((b_15l : Nat) : Int)) ≤ ((b_15c : Nat) : Int)) ∧
 CallX Tryz.prog 20 #[.pointer (some a), (.int .u8 (IntKind.wrap .u8 ((((if (255 : Int) < ((b_15l : Nat) : Int) then 255 else ((b_15l : Nat) : Int))).toNat : Nat) : Int)))] w47 fun e48 w49 =>
 (e48 = .returned (.tuple #[])) ∧
 Kept L2 w47 w49 ∧
 ∃ x50 : Int → World → List Nat → Prop, ∃ x51 : Int → World → Nat, (x50 0 w49 L2) ∧
 ∀ n52 w53 L54, (LF w.heap.size w53 L54) →
 (x50 n52 w53 L54) →
 if (decide (n52 < ((((if (255 : Int) < ((b_15l : Nat) : Int) then 255 else ((b_15l : Nat) : Int))).toNat : Nat) : Int))) = true then
 ((0 : Int) ≤ n52) ∧
 (n52 < ((((if (255 : Int) < ((b_15l : Nat) : Int) then 255 else ((b_15l : Nat) : Int))).toNat : Nat) : Int)) ∧
 onSome (cutA b_15 b_15c 0 3) fun p55 =>
 ∃ s56 s57 b58, (Cells w53 (p55.add ((n52).toNat * 3)) [.string s56, .string s57, .bool b58]) ∧
 (¬ (((p55.add (n52.toNat * 3)).block) ∈ L54)) ∧
 ∀ w59 L60, Hid L54 w53 w59 →
 NewL w.heap.size L54 w53 w59 L60 →
 CallX Tryz.prog 153 #[.pointer (some a), (.agg #[.string s56, .string s57, .bool b58])] w59 fun e61 w62 =>
 (e61 = .returned (.tuple #[])) ∧
 Kept L60 w59 w62 ∧
 (([.int .u8 b_0, .int .u8 b_1, .int .u16 b_2, .int .u32 b_3, .int .u8 b_4, .int .u8 b_5, .int .u8 b_6, .int .u8 b_7, .int .u8 b_8, .int .u8 b_9, .int .u8 b_10, .int .u32 b_11, .slice b_12 b_12l b_12c, .int .u8 b_13, .string b_14, .slice b_15 b_15l b_15c, .int .u8 b_16, .int .u16 b_17] : List Value) = [.int .u8 b_0, .int .u8 b_1, .int .u16 b_2, .int .u32 b_3, .int .u8 b_4, .int .u8 b_5, .int .u8 b_6, .int .u8 b_7, .int .u8 b_8, .int .u8 b_9, .int .u8 b_10, .int .u32 b_11, .slice b_12 b_12l b_12c, .int .u8 b_13, .string b_14, .slice b_15 b_15l b_15c, .int .u8 b_16, .int .u16 b_17]) ∧
 (x50 (IntKind.wrap .i64 (n52 + 1)) w62 L60) ∧
 Nat.le ((x51 (IntKind.wrap .i64 (n52 + 1)) w62) + 1) (x51 n52 w53)
 else
 R (.returned (.tuple #[])) w53
 else
 if (b_0 == 1) = true then
 CallX Tryz.prog 59 #[.pointer (some a), (IdW b_1 b_2 b_3 b_4 b_5 b_6 b_7 b_8 b_9 b_10)] w4 fun e36 w37 =>
 (e36 = .returned (.tuple #[])) ∧
 Kept L2 w4 w37 ∧
 CallX Tryz.prog 62 #[.pointer (some a), (.agg #[.int .u8 b_13, .string b_14])] w37 fun e38 w39 =>
 (e38 = .returned (.tuple #[])) ∧
 Kept L2 w37 w39 ∧
 R (.returned (.tuple #[])) w39
 else
 if (b_0 == 2) = true then
 CallX Tryz.prog 68 #[.pointer (some a), (.agg #[.int .u8 b_16, .int .u16 b_17])] w4 fun e34 w35 =>
 (e34 = .returned (.tuple #[])) ∧
 Kept L2 w4 w35 ∧
 R (.returned (.tuple #[])) w35
 else
 R (.returned (.tuple #[])) w4
 else
 if (b_0 == 3) = true then
 CallX Tryz.prog 59 #[.pointer (some a), (IdW b_1 b_2 b_3 b_4 b_5 b_6 b_7 b_8 b_9 b_10)] w4 fun e11 w12 =>
 (e11 = .returned (.tuple #[])) ∧
 Kept L2 w4 w12 ∧
 CallX Tryz.prog 60 #[.pointer (some a), .int .u64 (IntKind.wrap .u64 b_11)] w12 fun e13 w14 =>
 (e13 = .returned (.tuple #[])) ∧
 Kept L2 w12 w14 ∧
 CallX Tryz.prog 61 #[.pointer (some a), .slice b_12 b_12l b_12c] w14 fun e15 w16 =>
 (e15 = .returned (.tuple #[])) ∧
 Kept L2 w14 w16 ∧
 if (b_0 == 0) = true then
 R (.returned (.tuple #[])) w16
 else
 CallX Tryz.prog 62 #[.pointer (some a), (.agg #[.int .u8 b_13, .string b_14])] w16 fun e17 w18 =>
 (e17 = .returned (.tuple #[])) ∧
 Kept L2 w16 w18 ∧
 ((0 : Int) ≤ (if (255 : Int) < ((b_15l : Nat) : Int) then 255 else ((b_15l : Nat) : Int))) ∧
 ((if (255 : Int) < ((b_15l : Nat) : Int) then 255 else ((b_15l : Nat) : Int)) ≤ ((b_15c : Nat) : Int)) ∧
 CallX Tryz.prog 20 #[.pointer (some a), (.int .u8 (IntKind.wrap .u8 ((((if (255 : Int) < ((b_15l : Nat) : Int) then 255 else ((b_15l : Nat) : Int))).toNat : Nat) : Int)))] w18 fun e19 w20 =>
 (e19 = .returned (.tuple #[])) ∧
 Kept L2 w18 w20 ∧
 ∃ x21 : Int → World → List Nat → Prop, ∃ x22 : Int → World → Nat, (x21 0 w20 L2) ∧
 ∀ n23 w24 L25, (LF w.heap.size w24 L25) →
 (x21 n23 w24 L25) →
 if (decide (n23 < ((((if (255 : Int) < ((b_15l : Nat) : Int) then 255 else ((b_15l : Nat) : Int))).toNat : Nat) : Int))) = true then
 ((0 : Int) ≤ n23) ∧
 (n23 < ((((if (255 : Int) < ((b_15l : Nat) : Int) then 255 else ((b_15l : Nat) : Int))).toNat : Nat) : Int)) ∧
 onSome (cutA b_15 b_15c 0 3) fun p26 =>
 ∃ s27 s28 b29, (Cells w24 (p26.add ((n23).toNat * 3)) [.string s27, .string s28, .bool b29]) ∧
 (¬ (((p26.add (n23.toNat * 3)).block) ∈ L25)) ∧
 ∀ w30 L31, Hid L25 w24 w30 →
 NewL w.heap.size L25 w24 w30 L31 →
 CallX Tryz.prog 153 #[.pointer (some a), (.agg #[.string s27, .string s28, .bool b29])] w30 fun e32 w33 =>
 (e32 = .returned (.tuple #[])) ∧
 Kept L31 w30 w33 ∧
 (([.int .u8 b_0, .int .u8 b_1, .int .u16 b_2, .int .u32 b_3, .int .u8 b_4, .int .u8 b_5, .int .u8 b_6, .int .u8 b_7, .int .u8 b_8, .int .u8 b_9, .int .u8 b_10, .int .u32 b_11, .slice b_12 b_12l b_12c, .int .u8 b_13, .string b_14, .slice b_15 b_15l b_15c, .int .u8 b_16, .int .u16 b_17] : List Value) = [.int .u8 b_0, .int .u8 b_1, .int .u16 b_2, .int .u32 b_3, .int .u8 b_4, .int .u8 b_5, .int .u8 b_6, .int .u8 b_7, .int .u8 b_8, .int .u8 b_9, .int .u8 b_10, .int .u32 b_11, .slice b_12 b_12l b_12c, .int .u8 b_13, .string b_14, .slice b_15 b_15l b_15c, .int .u8 b_16, .int .u16 b_17]) ∧
 (x21 (IntKind.wrap .i64 (n23 + 1)) w33 L31) ∧
 Nat.le ((x22 (IntKind.wrap .i64 (n23 + 1)) w33) + 1) (x22 n23 w24)
 else
 R (.returned (.tuple #[])) w24
 else
 if (b_0 == 1) = true then
 CallX Tryz.prog 59 #[.pointer (some a), (IdW b_1 b_2 b_3 b_4 b_5 b_6 b_7 b_8 b_9 b_10)] w4 fun e7 w8 =>
 (e7 = .returned (.tuple #[])) ∧
 Kept L2 w4 w8 ∧
 CallX Tryz.prog 62 #[.pointer (some a), (.agg #[.int .u8 b_13, .string b_14])] w8 fun e9 w10 =>
 (e9 = .returned (.tuple #[])) ∧
 Kept L2 w8 w10 ∧
 R (.returned (.tuple #[])) w10
 else
 if (b_0 == 2) = true then
 CallX Tryz.prog 68 #[.pointer (some a), (.agg #[.int .u8 b_16, .int .u16 b_17])] w4 fun e5 w6 =>
 (e5 = .returned (.tuple #[])) ∧
 Kept L2 w4 w6 ∧
 R (.returned (.tuple #[])) w6
 else
 R (.returned (.tuple #[])) w4) :
 Calls Tryz.prog 121 #[.pointer (some a), .agg #[.int .u8 b_0, .int .u8 b_1, .int .u16 b_2, .int .u32 b_3, .int .u8 b_4, .int .u8 b_5, .int .u8 b_6, .int .u8 b_7, .int .u8 b_8, .int .u8 b_9, .int .u8 b_10, .int .u32 b_11, .slice b_12 b_12l b_12c, .int .u8 b_13, .string b_14, .slice b_15 b_15l b_15c, .int .u8 b_16, .int .u16 b_17]] w R :=
 calls_of { isLoc := [3, 6], sym := [], loops := [(13, .inv [(50, .int .i64)] [] true)], joins := [] } Tryz.func121 (by kernel_rfl) h
end Go.Proofs
/- The verification conditions of this seat's functions, as the engine has them: printed by a program of the bench; checked by the kernel. -/
namespace Go.Proofs
open Go X
theorem x_r1Zig (a : Int) (w : World) (R : Ending → World → Prop) (h :
 if (decide (a < 0)) = true then
 R (.returned (.int .u64 (IntKind.wrap .u64 ((IntKind.wrap .u64 (2 * (IntKind.wrap .u64 (IntKind.wrap .i64 (0 - (IntKind.wrap .i64 (a + 1))))))) + 1)))) w
 else
 R (.returned (.int .u64 (IntKind.wrap .u64 (2 * (IntKind.wrap .u64 a))))) w) :
 Calls Tryz.prog 156 #[.int .i64 a] w R :=
 calls_of { isLoc := [], sym := [], loops := [], joins := [] } Tryz.func156 (by kernel_rfl) h
theorem x_r2PutID (a_0 a_1 a_2 a_3 a_4 a_5 a_6 a_7 a_8 a_9 : Int) (w : World) (R : Ending → World → Prop) (h :
 ∃ x1, (FactsW x1 w []) ∧
 ∀ w2 L3, Hid [] w w2 →
 NewL w.heap.size [] w w2 L3 →
 CallX Tryz.prog 81 #[(.agg #[.int .u8 a_0, .int .u16 a_1])] w2 fun e4 w5 =>
 ∃ q6 k7 k8, e4 = .returned (.slice q6 k7 k8) ∧
 Kept L3 w2 w5 ∧
 FactsW x1 w5 L3 ∧
 CallX Tryz.prog 74 #[.int .u64 (IntKind.wrap .u64 a_2)] w5 fun e9 w10 =>
 ∃ q11 k12 k13, e9 = .returned (.slice q11 k12 k13) ∧
 Kept L3 w5 w10 ∧
 FactsW x1 w10 L3 ∧
 ∃ q14 k15 k16 w17, (Sem.run Tryz.prog (Go.Builtin.append_ #[41, 41] 41 #[.slice q6 k7 k8, .slice q11 k12 k13]) w10 = .ok (.slice q14 k15 k16) w17) ∧
 Kept L3 w10 w17 ∧
 FactsW x1 w17 L3 ∧
 ∃ q18 k19 k20 w21, (Sem.run Tryz.prog (Go.Builtin.append_ #[41, 41] 41 #[.slice q14 k15 k16, .slice (some ⟨w17.heap.size, 0, none⟩) 1 1]) (w17.alloc (.cells #[.int .u8 a_3] 5)) = .ok (.slice q18 k19 k20) w21) ∧
 (Kept L3 (w17.alloc (.cells #[.int .u8 a_3] 5)) w21) ∧
 ∃ x22 : Option Addr → Nat → Nat → Int → World → List Nat → Prop, ∃ x23 : Option Addr → Nat → Nat → Int → World → Nat, (x22 q18 k19 k20 0 w21 L3) ∧
 ∀ q24 k25 k26 n27 w28 L29, (LF w.heap.size w28 L29) →
 (x22 q24 k25 k26 n27 w28 L29) →
 if (decide (n27 < 3) && decide (n27 < (IntKind.wrap .i64 a_3))) = true then
 ∃ x30, (FactsW x30 w28 L29) ∧
 ((0 : Int) ≤ n27) ∧
 (n27 < 3) ∧
 (((n27 = 0) →
 ((0 : Int) ≤ n27) ∧
 (n27 < 3) ∧
 (((n27 = 0) →
 ∀ w31 L32, Hid L29 w28 w31 →
 NewL w.heap.size L29 w28 w31 L32 →
 (FactsW x30 (w31.alloc (.cells #[.int .u8 a_4, .int .u8 a_5] 5)) L32) ∧
 ∃ q33 k34 k35 w36, (Sem.run Tryz.prog (Go.Builtin.append_ #[41, 41] 41 #[.slice q24 k25 k26, .slice (some ⟨w31.heap.size, 0, none⟩) 2 2]) (w31.alloc (.cells #[.int .u8 a_4, .int .u8 a_5] 5)) = .ok (.slice q33 k34 k35) w36) ∧
 (Kept L32 (w31.alloc (.cells #[.int .u8 a_4, .int .u8 a_5] 5)) w36) ∧
 FactsW x30 w36 L32 ∧
 (([.int .u8 a_0, .int .u16 a_1, .int .u32 a_2, .int .u8 a_3, .int .u8 a_4, .int .u8 a_5, .int .u8 a_6, .int .u8 a_7, .int .u8 a_8, .int .u8 a_9] : List Value) = [.int .u8 a_0, .int .u16 a_1, .int .u32 a_2, .int .u8 a_3, .int .u8 a_4, .int .u8 a_5, .int .u8 a_6, .int .u8 a_7, .int .u8 a_8, .int .u8 a_9]) ∧
 (x22 q33 k34 k35 (IntKind.wrap .i64 (n27 + 1)) w36 L32) ∧
 Nat.le ((x23 q33 k34 k35 (IntKind.wrap .i64 (n27 + 1)) w36) + 1) (x23 q24 k25 k26 n27 w28)) ∧
 ((n27 = 1) →
 ∀ w37 L38, Hid L29 w28 w37 →
 NewL w.heap.size L29 w28 w37 L38 →
 (FactsW x30 (w37.alloc (.cells #[.int .u8 a_4, .int .u8 a_7] 5)) L38) ∧
 ∃ q39 k40 k41 w42, (Sem.run Tryz.prog (Go.Builtin.append_ #[41, 41] 41 #[.slice q24 k25 k26, .slice (some ⟨w37.heap.size, 0, none⟩) 2 2]) (w37.alloc (.cells #[.int .u8 a_4, .int .u8 a_7] 5)) = .ok (.slice q39 k40 k41) w42) ∧
 (Kept L38 (w37.alloc (.cells #[.int .u8 a_4, .int .u8 a_7] 5)) w42) ∧
 FactsW x30 w42 L38 ∧
 (([.int .u8 a_0, .int .u16 a_1, .int .u32 a_2, .int .u8 a_3, .int .u8 a_4, .int .u8 a_5, .int .u8 a_6, .int .u8 a_7, .int .u8 a_8, .int .u8 a_9] : List Value) = [.int .u8 a_0, .int .u16 a_1, .int .u32 a_2, .int .u8 a_3, .int .u8 a_4, .int .u8 a_5, .int .u8 a_6, .int .u8 a_7, .int .u8 a_8, .int .u8 a_9]) ∧
 (x22 q39 k40 k41 (IntKind.wrap .i64 (n27 + 1)) w42 L38) ∧
 Nat.le ((x23 q39 k40 k41 (IntKind.wrap .i64 (n27 + 1)) w42) + 1) (x23 q24 k25 k26 n27 w28))) ∧
 ((n27 = 2) →
 ∀ w43 L44, Hid L29 w28 w43 →
 NewL w.heap.size L29 w28 w43 L44 →
 (FactsW x30 (w43.alloc (.cells #[.int .u8 a_4, .int .u8 a_9] 5)) L44) ∧
 ∃ q45 k46 k47 w48, (Sem.run Tryz.prog (Go.Builtin.append_ #[41, 41] 41 #[.slice q24 k25 k26, .slice (some ⟨w43.heap.size, 0, none⟩) 2 2]) (w43.alloc (.cells #[.int .u8 a_4, .int .u8 a_9] 5)) = .ok (.slice q45 k46 k47) w48) ∧
 (Kept L44 (w43.alloc (.cells #[.int .u8 a_4, .int .u8 a_9] 5)) w48) ∧
 FactsW x30 w48 L44 ∧
 (([.int .u8 a_0, .int .u16 a_1, .int .u32 a_2, .int .u8 a_3, .int .u8 a_4, .int .u8 a_5, .int .u8 a_6, .int .u8 a_7, .int .u8 a_8, .int .u8 a_9] : List Value) = [.int .u8 a_0, .int .u16 a_1, .int .u32 a_2, .int .u8 a_3, .int .u8 a_4, .int .u8 a_5, .int .u8 a_6, .int .u8 a_7, .int .u8 a_8, .int .u8 a_9]) ∧
 (x22 q45 k46 k47 (IntKind.wrap .i64 (n27 + 1)) w48 L44) ∧
 Nat.le ((x23 q45 k46 k47 (IntKind.wrap .i64 (n27 + 1)) w48) + 1) (x23 q24 k25 k26 n27 w28))) ∧
 ((n27 = 1) →
 ((0 : Int) ≤ n27) ∧
 (n27 < 3) ∧
 (((n27 = 0) →
 ∀ w49 L50, Hid L29 w28 w49 →
 NewL w.heap.size L29 w28 w49 L50 →
 (FactsW x30 (w49.alloc (.cells #[.int .u8 a_6, .int .u8 a_5] 5)) L50) ∧
 ∃ q51 k52 k53 w54, (Sem.run Tryz.prog (Go.Builtin.append_ #[41, 41] 41 #[.slice q24 k25 k26, .slice (some ⟨w49.heap.size, 0, none⟩) 2 2]) (w49.alloc (.cells #[.int .u8 a_6, .int .u8 a_5] 5)) = .ok (.slice q51 k52 k53) w54) ∧
 (Kept L50 (w49.alloc (.cells #[.int .u8 a_6, .int .u8 a_5] 5)) w54) ∧
 FactsW x30 w54 L50 ∧
 (([.int .u8 a_0, .int .u16 a_1, .int .u32 a_2, .int .u8 a_3, .int .u8 a_4, .int .u8 a_5, .int .u8 a_6, .int .u8 a_7, .int .u8 a_8, .int .u8 a_9] : List Value) = [.int .u8 a_0, .int .u16 a_1, .int .u32 a_2, .int .u8 a_3, .int .u8 a_4, .int .u8 a_5, .int .u8 a_6, .int .u8 a_7, .int .u8 a_8, .int .u8 a_9]) ∧
 (x22 q51 k52 k53 (IntKind.wrap .i64 (n27 + 1)) w54 L50) ∧
 Nat.le ((x23 q51 k52 k53 (IntKind.wrap .i64 (n27 + 1)) w54) + 1) (x23 q24 k25 k26 n27 w28)) ∧
 ((n27 = 1) →
 ∀ w55 L56, Hid L29 w28 w55 →
 NewL w.heap.size L29 w28 w55 L56 →
 (FactsW x30 (w55.alloc (.cells #[.int .u8 a_6, .int .u8 a_7] 5)) L56) ∧
 ∃ q57 k58 k59 w60, (Sem.run Tryz.prog (Go.Builtin.append_ #[41, 41] 41 #[.slice q24 k25 k26, .slice (some ⟨w55.heap.size, 0, none⟩) 2 2]) (w55.alloc (.cells #[.int .u8 a_6, .int .u8 a_7] 5)) = .ok (.slice q57 k58 k59) w60) ∧
 (Kept L56 (w55.alloc (.cells #[.int .u8 a_6, .int .u8 a_7] 5)) w60) ∧
 FactsW x30 w60 L56 ∧
 (([.int .u8 a_0, .int .u16 a_1, .int .u32 a_2, .int .u8 a_3, .int .u8 a_4, .int .u8 a_5, .int .u8 a_6, .int .u8 a_7, .int .u8 a_8, .int .u8 a_9] : List Value) = [.int .u8 a_0, .int .u16 a_1, .int .u32 a_2, .int .u8 a_3, .int .u8 a_4, .int .u8 a_5, .int .u8 a_6, .int .u8 a_7, .int .u8 a_8, .int .u8 a_9]) ∧
 (x22 q57 k58 k59 (IntKind.wrap .i64 (n27 + 1)) w60 L56) ∧
 Nat.le ((x23 q57 k58 k59 (IntKind.wrap .i64 (n27 + 1)) w60) + 1) (x23 q24 k25 k26 n27 w28))) ∧
 ((n27 = 2) →
 ∀ w61 L62, Hid L29 w28 w61 →
 NewL w.heap.size L29 w28 w61 L62 →
 (FactsW x30 (w61.alloc (.cells #[.int .u8 a_6, .int .u8 a_9] 5)) L62) ∧
 ∃ q63 k64 k65 w66, (Sem.run Tryz.prog (Go.Builtin.append_ #[41, 41] 41 #[.slice q24 k25 k26, .slice (some ⟨w61.heap.size, 0, none⟩) 2 2]) (w61.alloc (.cells #[.int .u8 a_6, .int .u8 a_9] 5)) = .ok (.slice q63 k64 k65) w66) ∧
 (Kept L62 (w61.alloc (.cells #[.int .u8 a_6, .int .u8 a_9] 5)) w66) ∧
 FactsW x30 w66 L62 ∧
 (([.int .u8 a_0, .int .u16 a_1, .int .u32 a_2, .int .u8 a_3, .int .u8 a_4, .int .u8 a_5, .int .u8 a_6, .int .u8 a_7, .int .u8 a_8, .int .u8 a_9] : List Value) = [.int .u8 a_0, .int .u16 a_1, .int .u32 a_2, .int .u8 a_3, .int .u8 a_4, .int .u8 a_5, .int .u8 a_6, .int .u8 a_7, .int .u8 a_8, .int .u8 a_9]) ∧
 (x22 q63 k64 k65 (IntKind.wrap .i64 (n27 + 1)) w66 L62) ∧
 Nat.le ((x23 q63 k64 k65 (IntKind.wrap .i64 (n27 + 1)) w66) + 1) (x23 q24 k25 k26 n27 w28)))) ∧
 ((n27 = 2) →
 ((0 : Int) ≤ n27) ∧
 (n27 < 3) ∧
 (((n27 = 0) →
 ∀ w67 L68, Hid L29 w28 w67 →
 NewL w.heap.size L29 w28 w67 L68 →
 (FactsW x30 (w67.alloc (.cells #[.int .u8 a_8, .int .u8 a_5] 5)) L68) ∧
 ∃ q69 k70 k71 w72, (Sem.run Tryz.prog (Go.Builtin.append_ #[41, 41] 41 #[.slice q24 k25 k26, .slice (some ⟨w67.heap.size, 0, none⟩) 2 2]) (w67.alloc (.cells #[.int .u8 a_8, .int .u8 a_5] 5)) = .ok (.slice q69 k70 k71) w72) ∧
 (Kept L68 (w67.alloc (.cells #[.int .u8 a_8, .int .u8 a_5] 5)) w72) ∧
 FactsW x30 w72 L68 ∧
 (([.int .u8 a_0, .int .u16 a_1, .int .u32 a_2, .int .u8 a_3, .int .u8 a_4, .int .u8 a_5, .int .u8 a_6, .int .u8 a_7, .int .u8 a_8, .int .u8 a_9] : List Value) = [.int .u8 a_0, .int .u16 a_1, .int .u32 a_2, .int .u8 a_3, .int .u8 a_4, .int .u8 a_5, .int .u8 a_6, .int .u8 a_7, .int .u8 a_8, .int .u8 a_9]) ∧
 (x22 q69 k70 k71 (IntKind.wrap .i64 (n27 + 1)) w72 L68) ∧
 Nat.le ((x23 q69 k70 k71 (IntKind.wrap .i64 (n27 + 1)) w72) + 1) (x23 q24 k25 k26 n27 w28)) ∧
 ((n27 = 1) →
 ∀ w73 L74, Hid L29 w28 w73 →
 NewL w.heap.size L29 w28 w73 L74 →
 (FactsW x30 (w73.alloc (.cells #[.int .u8 a_8, .int .u8 a_7] 5)) L74) ∧
 ∃ q75 k76 k77 w78, (Sem.run Tryz.prog (Go.Builtin.append_ #[41, 41] 41 #[.slice q24 k25 k26, .slice (some ⟨w73.heap.size, 0, none⟩) 2 2]) (w73.alloc (.cells #[.int .u8 a_8, .int .u8 a_7] 5)) = .ok (.slice q75 k76 k77) w78) ∧
 (Kept L74 (w73.alloc (.cells #[.int .u8 a_8, .int .u8 a_7] 5)) w78) ∧
 FactsW x30 w78 L74 ∧
 (([.int .u8 a_0, .int .u16 a_1, .int .u32 a_2, .int .u8 a_3, .int .u8 a_4, .int .u8 a_5, .int .u8 a_6, .int .u8 a_7, .int .u8 a_8, .int .u8 a_9] : List Value) = [.int .u8 a_0, .int .u16 a_1, .int .u32 a_2, .int .u8 a_3, .int .u8 a_4, .int .u8 a_5, .int .u8 a_6, .int .u8 a_7, .int .u8 a_8, .int .u8 a_9]) ∧
 (x22 q75 k76 k77 (IntKind.wrap .i64 (n27 + 1)) w78 L74) ∧
 Nat.le ((x23 q75 k76 k77 (IntKind.wrap .i64 (n27 + 1)) w78) + 1) (x23 q24 k25 k26 n27 w28))) ∧
 ((n27 = 2) →
 ∀ w79 L80, Hid L29 w28 w79 →
 NewL w.heap.size L29 w28 w79 L80 →
 (FactsW x30 (w79.alloc (.cells #[.int .u8 a_8, .int .u8 a_9] 5)) L80) ∧
 ∃ q81 k82 k83 w84, (Sem.run Tryz.prog (Go.Builtin.append_ #[41, 41] 41 #[.slice q24 k25 k26, .slice (some ⟨w79.heap.size, 0, none⟩) 2 2]) (w79.alloc (.cells #[.int .u8 a_8, .int .u8 a_9] 5)) = .ok (.slice q81 k82 k83) w84) ∧
 (Kept L80 (w79.alloc (.cells #[.int .u8 a_8, .int .u8 a_9] 5)) w84) ∧
 FactsW x30 w84 L80 ∧
 (([.int .u8 a_0, .int .u16 a_1, .int .u32 a_2, .int .u8 a_3, .int .u8 a_4, .int .u8 a_5, .int .u8 a_6, .int .u8 a_7, .int .u8 a_8, .int .u8 a_9] : List Value) = [.int .u8 a_0, .int .u16 a_1, .int .u32 a_2, .int .u8 a_3, .int .u8 a_4, .int .u8 a_5, .int .u8 a_6, .int .u8 a_7, .int .u8 a_8, .int .u8 a_9]) ∧
 (x22 q81 k82 k83 (IntKind.wrap .i64 (n27 + 1)) w84 L80) ∧
 Nat.le ((x23 q81 k82 k83 (IntKind.wrap .i64 (n27 + 1)) w84) + 1) (x23 q24 k25 k26 n27 w28)))
 else
 R (.returned (.slice q24 k25 k26)) w28) :
 Calls Tryz.prog 73 #[.agg #[.int .u8 a_0, .int .u16 a_1, .int .u32 a_2, .int .u8 a_3, .int .u8 a_4, .int .u8 a_5, .int .u8 a_6, .int .u8 a_7, .int .u8 a_8, .int .u8 a_9]] w R :=
 calls_of { isLoc := [1], sym := [32, 37], loops := [(4, .inv [(3, .slice), (4, .int .i64)] [] true)], joins := [] } Tryz.func73 (by kernel_rfl) h
theorem x_r3Put (a_0 a_1 : Int) (a_2 a_3 : ByteArray) (a_4 : Int) (w : World) (R : Ending → World → Prop) (h :
 ∃ x1, (FactsW x1 w []) ∧
 (∀ w2 L3, Hid [] w w2 →
 NewL w.heap.size [] w w2 L3 →
 (FactsW x1 (w2.alloc (.cells #[.int .u8 a_0, .int .u8 a_1] 5)) L3) ∧
 CallX Tryz.prog 131 #[.string a_2] (w2.alloc (.cells #[.int .u8 a_0, .int .u8 a_1] 5)) fun e4 w5 =>
 ∃ q6 k7 k8, e4 = .returned (.slice q6 k7 k8) ∧
 (Kept L3 (w2.alloc (.cells #[.int .u8 a_0, .int .u8 a_1] 5)) w5) ∧
 FactsW x1 w5 L3 ∧
 ∃ q9 k10 k11 w12, (Sem.run Tryz.prog (Go.Builtin.append_ #[41, 41] 41 #[.slice (some ⟨w2.heap.size, 0, none⟩) 2 2, .slice q6 k7 k8]) w5 = .ok (.slice q9 k10 k11) w12) ∧
 Kept L3 w5 w12 ∧
 FactsW x1 w12 L3 ∧
 ∃ x13, (FactsW x13 w12 L3) ∧
 ∀ w14 L15, Hid L3 w12 w14 →
 NewL w.heap.size L3 w12 w14 L15 →
 CallX Tryz.prog 131 #[.string a_3] w14 fun e16 w17 =>
 ∃ q18 k19 k20, e16 = .returned (.slice q18 k19 k20) ∧
 Kept L15 w14 w17 ∧
 FactsW x13 w17 L15 ∧
 ∃ q21 k22 k23 w24, (Sem.run Tryz.prog (Go.Builtin.append_ #[41, 41] 41 #[.slice q9 k10 k11, .slice q18 k19 k20]) w17 = .ok (.slice q21 k22 k23) w24) ∧
 Kept L15 w17 w24 ∧
 FactsW x13 w24 L15 ∧
 CallX Tryz.prog 156 #[.int .i64 a_4] w24 fun e25 w26 =>
 ∃ n27, e25 = .returned (.int .u64 n27) ∧
 Kept L15 w24 w26 ∧
 FactsW x13 w26 L15 ∧
 CallX Tryz.prog 74 #[.int .u64 n27] w26 fun e28 w29 =>
 ∃ q30 k31 k32, e28 = .returned (.slice q30 k31 k32) ∧
 Kept L15 w26 w29 ∧
 FactsW x13 w29 L15 ∧
 ∃ q33 k34 k35 w36, (Sem.run Tryz.prog (Go.Builtin.append_ #[41, 41] 41 #[.slice q21 k22 k23, .slice q30 k31 k32]) w29 = .ok (.slice q33 k34 k35) w36) ∧
 Kept L15 w29 w36 ∧
 FactsW x13 w36 L15 ∧
 R (.returned (.slice q33 k34 k35)) w36) ∧
 ∀ w37 L38, Hid [] w w37 →
 NewL w.heap.size [] w w37 L38 →
 CallX Tryz.prog 131 #[.string a_2] w37 fun e39 w40 =>
 ∃ q41 k42 k43, e39 = .returned (.slice q41 k42 k43) ∧
 Kept L38 w37 w40 ∧
 FactsW x1 w40 L38 ∧
 (FactsW x1 (w40.alloc (.cells #[.int .u8 a_0, .int .u8 a_1] 5)) L38) ∧
 ∃ q44 k45 k46 w47, (Sem.run Tryz.prog (Go.Builtin.append_ #[41, 41] 41 #[.slice (some ⟨w40.heap.size, 0, none⟩) 2 2, .slice q41 k42 k43]) (w40.alloc (.cells #[.int .u8 a_0, .int .u8 a_1] 5)) = .ok (.slice q44 k45 k46) w47) ∧
 (Kept L38 (w40.alloc (.cells #[.int .u8 a_0, .int .u8 a_1] 5)) w47) ∧
 FactsW x1 w47 L38 ∧
 ∃ x48, (FactsW x48 w47 L38) ∧
 ∀ w49 L50, Hid L38 w47 w49 →
 NewL w.heap.size L38 w47 w49 L50 →
 CallX Tryz.prog 131 #[.string a_3] w49 fun e51 w52 =>
 ∃ q53 k54 k55, e51 = .returned (.slice q53 k54 k55) ∧
 Kept L50 w49 w52 ∧
 FactsW x48 w52 L50 ∧
 ∃ q56 k57 k58 w59, (Sem.run Tryz.prog (Go.Builtin.append_ #[41, 41] 41 #[.slice q44 k45 k46, .slice q53 k54 k55]) w52 = .ok (.slice q56 k57 k58) w59) ∧
 Kept L50 w52 w59 ∧
 FactsW x48 w59 L50 ∧
 CallX Tryz.prog 156 #[.int .i64 a_4] w59 fun e60 w61 =>
 ∃ n62, e60 = .returned (.int .u64 n62) ∧
 Kept L50 w59 w61 ∧
 FactsW x48 w61 L50 ∧
 CallX Tryz.prog 74 #[.int .u64 n62] w61 fun e63 w64 =>
 ∃ q65 k66 k67, e63 = .returned (.slice q65 k66 k67) ∧
 Kept L50 w61 w64 ∧
 FactsW x48 w64 L50 ∧
 ∃ q68 k69 k70 w71, (Sem.run Tryz.prog (Go.Builtin.append_ #[41, 41] 41 #[.slice q56 k57 k58, .slice q65 k66 k67]) w64 = .ok (.slice q68 k69 k70) w71) ∧
 Kept L50 w64 w71 ∧
 FactsW x48 w71 L50 ∧
 R (.returned (.slice q68 k69 k70)) w71) :
 Calls Tryz.prog 130 #[.agg #[.int .u8 a_0, .int .u8 a_1, .string a_2, .string a_3, .int .i64 a_4]] w R :=
 calls_of { isLoc := [1], sym := [], loops := [], joins := [] } Tryz.func130 (by kernel_rfl) h
theorem x_r3PutAll (a : Option Addr) (al ac : Nat) (w : World) (R : Ending → World → Prop) (h :
 ∃ x1 : Option Addr → Nat → Nat → Int → World → List Nat → Prop, ∃ x2 : Option Addr → Nat → Nat → Int → World → Nat, (x1 (some (Addr.mk w.heap.size 0 none)) 1 1 0 (w.alloc (.cells #[(.int .u8 (IntKind.wrap .u8 (if (255 : Int) < ((al : Nat) : Int) then 255 else ((al : Nat) : Int))))] 5)) []) ∧
 ∀ q3 k4 k5 n6 w7 L8, (LF w.heap.size w7 L8) →
 (x1 q3 k4 k5 n6 w7 L8) →
 if (decide (n6 < (if (255 : Int) < ((al : Nat) : Int) then 255 else ((al : Nat) : Int)))) = true then
 ((0 : Int) ≤ n6) ∧
 (n6 < ((al : Nat) : Int)) ∧
 onSome a fun p9 =>
 ∃ n10 n11 s12 s13 n14, (Cells w7 (p9.add ((n6).toNat * 5)) [.int .u8 n10, .int .u8 n11, .string s12, .string s13, .int .i64 n14]) ∧
 CallX Tryz.prog 130 #[(.agg #[.int .u8 n10, .int .u8 n11, .string s12, .string s13, .int .i64 n14])] w7 fun e15 w16 =>
 ∃ q17 k18 k19, e15 = .returned (.slice q17 k18 k19) ∧
 w7.heap.size ≤ w16.heap.size ∧
 ∃ q20 k21 k22 w23, (Sem.run Tryz.prog (Go.Builtin.append_ #[41, 41] 41 #[.slice q3 k4 k5, .slice q17 k18 k19]) w16 = .ok (.slice q20 k21 k22) w23) ∧
 w16.heap.size ≤ w23.heap.size ∧
 (x1 q20 k21 k22 (IntKind.wrap .i64 (n6 + 1)) w23 []) ∧
 Nat.le ((x2 q20 k21 k22 (IntKind.wrap .i64 (n6 + 1)) w23) + 1) (x2 q3 k4 k5 n6 w7)
 else
 R (.returned (.slice q3 k4 k5)) w7) :
 Calls Tryz.prog 75 #[.slice a al ac] w R :=
 calls_of { isLoc := [], sym := [], loops := [(4, .inv [(4, .slice), (5, .int .i64)] [] true)], joins := [] } Tryz.func75 (by kernel_rfl) h
theorem x_r3PutRes (a_0 : Int) (a_1 : ByteArray) (w : World) (R : Ending → World → Prop) (h :
 ∃ x1, (FactsW x1 w []) ∧
 (∀ w2 L3, Hid [] w w2 →
 NewL w.heap.size [] w w2 L3 →
 (FactsW x1 (w2.alloc (.cells #[.int .u8 a_0] 5)) L3) ∧
 CallX Tryz.prog 131 #[.string a_1] (w2.alloc (.cells #[.int .u8 a_0] 5)) fun e4 w5 =>
 ∃ q6 k7 k8, e4 = .returned (.slice q6 k7 k8) ∧
 (Kept L3 (w2.alloc (.cells #[.int .u8 a_0] 5)) w5) ∧
 FactsW x1 w5 L3 ∧
 ∃ q9 k10 k11 w12, (Sem.run Tryz.prog (Go.Builtin.append_ #[41, 41] 41 #[.slice (some ⟨w2.heap.size, 0, none⟩) 1 1, .slice q6 k7 k8]) w5 = .ok (.slice q9 k10 k11) w12) ∧
 Kept L3 w5 w12 ∧
 FactsW x1 w12 L3 ∧
 R (.returned (.slice q9 k10 k11)) w12) ∧
 ∀ w13 L14, Hid [] w w13 →
 NewL w.heap.size [] w w13 L14 →
 CallX Tryz.prog 131 #[.string a_1] w13 fun e15 w16 =>
 ∃ q17 k18 k19, e15 = .returned (.slice q17 k18 k19) ∧
 Kept L14 w13 w16 ∧
 FactsW x1 w16 L14 ∧
 (FactsW x1 (w16.alloc (.cells #[.int .u8 a_0] 5)) L14) ∧
 ∃ q20 k21 k22 w23, (Sem.run Tryz.prog (Go.Builtin.append_ #[41, 41] 41 #[.slice (some ⟨w16.heap.size, 0, none⟩) 1 1, .slice q17 k18 k19]) (w16.alloc (.cells #[.int .u8 a_0] 5)) = .ok (.slice q20 k21 k22) w23) ∧
 (Kept L14 (w16.alloc (.cells #[.int .u8 a_0] 5)) w23) ∧
 FactsW x1 w23 L14 ∧
 R (.returned (.slice q20 k21 k22)) w23) :
 Calls Tryz.prog 76 #[.agg #[.int .u8 a_0, .string a_1]] w R :=
 calls_of { isLoc := [1], sym := [], loops := [], joins := [] } Tryz.func76 (by kernel_rfl) h
theorem x_r6PutProcs (a : Option Addr) (al ac : Nat) (w : World) (R : Ending → World → Prop) (h :
 ∃ x1 : Option Addr → Nat → Nat → Int → World → List Nat → Prop, ∃ x2 : Option Addr → Nat → Nat → Int → World → Nat, (x1 (some (Addr.mk w.heap.size 0 none)) 1 1 0 (w.alloc (.cells #[(.int .u8 (IntKind.wrap .u8 (if (255 : Int) < ((al : Nat) : Int) then 255 else ((al : Nat) : Int))))] 5)) []) ∧
 ∀ q3 k4 k5 n6 w7 L8, (LF w.heap.size w7 L8) →
 (x1 q3 k4 k5 n6 w7 L8) →
 if (decide (n6 < (if (255 : Int) < ((al : Nat) : Int) then 255 else ((al : Nat) : Int)))) = true then
 ((0 : Int) ≤ n6) ∧
 (n6 < ((al : Nat) : Int)) ∧
 onSome a fun p9 =>
 ∃ n10 n11, (Cells w7 (p9.add ((n6).toNat * 2)) [.int .u8 n10, .int .u16 n11]) ∧
 CallX Tryz.prog 81 #[(.agg #[.int .u8 n10, .int .u16 n11])] w7 fun e12 w13 =>
 ∃ q14 k15 k16, e12 = .returned (.slice q14 k15 k16) ∧
 w7.heap.size ≤ w13.heap.size ∧
 ∃ q17 k18 k19 w20, (Sem.run Tryz.prog (Go.Builtin.append_ #[41, 41] 41 #[.slice q3 k4 k5, .slice q14 k15 k16]) w13 = .ok (.slice q17 k18 k19) w20) ∧
 w13.heap.size ≤ w20.heap.size ∧
 (x1 q17 k18 k19 (IntKind.wrap .i64 (n6 + 1)) w20 []) ∧
 Nat.le ((x2 q17 k18 k19 (IntKind.wrap .i64 (n6 + 1)) w20) + 1) (x2 q3 k4 k5 n6 w7)
 else
 R (.returned (.slice q3 k4 k5)) w7) :
 Calls Tryz.prog 80 #[.slice a al ac] w R :=
 calls_of { isLoc := [], sym := [], loops := [(4, .inv [(4, .slice), (5, .int .i64)] [] true)], joins := [] } Tryz.func80 (by kernel_rfl) h
theorem x_r6Put (a_0 a_1 : Int) (a_2 : Option Addr) (a_2l a_2c : Nat) (w : World) (R : Ending → World → Prop) (h :
 ∃ x1, (FactsW x1 w []) ∧
 (∀ w2 L3, Hid [] w w2 →
 NewL w.heap.size [] w w2 L3 →
 (FactsW x1 (w2.alloc (.cells #[.int .u8 a_0] 5)) L3) ∧
 CallX Tryz.prog 74 #[.int .u64 (IntKind.wrap .u64 a_1)] (w2.alloc (.cells #[.int .u8 a_0] 5)) fun e4 w5 =>
 ∃ q6 k7 k8, e4 = .returned (.slice q6 k7 k8) ∧
 (Kept L3 (w2.alloc (.cells #[.int .u8 a_0] 5)) w5) ∧
 FactsW x1 w5 L3 ∧
 ∃ q9 k10 k11 w12, (Sem.run Tryz.prog (Go.Builtin.append_ #[41, 41] 41 #[.slice (some ⟨w2.heap.size, 0, none⟩) 1 1, .slice q6 k7 k8]) w5 = .ok (.slice q9 k10 k11) w12) ∧
 Kept L3 w5 w12 ∧
 FactsW x1 w12 L3 ∧
 CallX Tryz.prog 80 #[.slice a_2 a_2l a_2c] w12 fun e13 w14 =>
 ∃ q15 k16 k17, e13 = .returned (.slice q15 k16 k17) ∧
 Kept L3 w12 w14 ∧
 ∃ q18 k19 k20 w21, (Sem.run Tryz.prog (Go.Builtin.append_ #[41, 41] 41 #[.slice q9 k10 k11, .slice q15 k16 k17]) w14 = .ok (.slice q18 k19 k20) w21) ∧
 Kept L3 w14 w21 ∧
 R (.returned (.slice q18 k19 k20)) w21) ∧
 ∀ w22 L23, Hid [] w w22 →
 NewL w.heap.size [] w w22 L23 →
 CallX Tryz.prog 74 #[.int .u64 (IntKind.wrap .u64 a_1)] w22 fun e24 w25 =>
 ∃ q26 k27 k28, e24 = .returned (.slice q26 k27 k28) ∧
 Kept L23 w22 w25 ∧
 FactsW x1 w25 L23 ∧
 (FactsW x1 (w25.alloc (.cells #[.int .u8 a_0] 5)) L23) ∧
 ∃ q29 k30 k31 w32, (Sem.run Tryz.prog (Go.Builtin.append_ #[41, 41] 41 #[.slice (some ⟨w25.heap.size, 0, none⟩) 1 1, .slice q26 k27 k28]) (w25.alloc (.cells #[.int .u8 a_0] 5)) = .ok (.slice q29 k30 k31) w32) ∧
 (Kept L23 (w25.alloc (.cells #[.int .u8 a_0] 5)) w32) ∧
 FactsW x1 w32 L23 ∧
 CallX Tryz.prog 80 #[.slice a_2 a_2l a_2c] w32 fun e33 w34 =>
 ∃ q35 k36 k37, e33 = .returned (.slice q35 k36 k37) ∧
 Kept L23 w32 w34 ∧
 ∃ q38 k39 k40 w41, (Sem.run Tryz.prog (Go.Builtin.append_ #[41, 41] 41 #[.slice q29 k30 k31, .slice q35 k36 k37]) w34 = .ok (.slice q38 k39 k40) w41) ∧
 Kept L23 w34 w41 ∧
 R (.returned (.slice q38 k39 k40)) w41) :
 Calls Tryz.prog 77 #[.agg #[.int .u8 a_0, .int .u32 a_1, .slice a_2 a_2l a_2c]] w R :=
 calls_of { isLoc := [1], sym := [], loops := [], joins := [] } Tryz.func77 (by kernel_rfl) h
theorem x_r5PutAll (a : Option Addr) (al ac : Nat) (w : World) (R : Ending → World → Prop) (h :
 CallX Tryz.prog 74 #[(.int .u64 (IntKind.wrap .u64 ((al : Nat) : Int)))] w fun e1 w2 =>
 ∃ q3 k4 k5, e1 = .returned (.slice q3 k4 k5) ∧
 (w.heap.size ≤ w2.heap.size) ∧
 ∃ x6 : Option Addr → Nat → Nat → Int → World → List Nat → Prop, ∃ x7 : Option Addr → Nat → Nat → Int → World → Nat, (x6 q3 k4 k5 0 w2 []) ∧
 ∀ q8 k9 k10 n11 w12 L13, (LF w.heap.size w12 L13) →
 (x6 q8 k9 k10 n11 w12 L13) →
 if (decide (n11 < ((al : Nat) : Int))) = true then
 ((0 : Int) ≤ n11) ∧
 (n11 < ((al : Nat) : Int)) ∧
 onSome a fun p14 =>
 ∃ n15 n16 n17 n18 n19 n20 n21 n22 n23 n24 n25 n26 q27 k28 k29 n30 s31 q32 k33 k34 n35 n36, (Cells w12 (p14.add ((n11).toNat * 18)) [.int .u8 n15, .int .u8 n16, .int .u16 n17, .int .u32 n18, .int .u8 n19, .int .u8 n20, .int .u8 n21, .int .u8 n22, .int .u8 n23, .int .u8 n24, .int .u8 n25, .int .u32 n26, .slice q27 k28 k29, .int .u8 n30, .string s31, .slice q32 k33 k34, .int .u8 n35, .int .u16 n36]) ∧
 CallX Tryz.prog 132 #[(EnW n15 n16 n17 n18 n19 n20 n21 n22 n23 n24 n25 n26 q27 k28 k29 n30 s31 q32 k33 k34 n35 n36)] w12 fun e37 w38 =>
 ∃ q39 k40 k41, e37 = .returned (.slice q39 k40 k41) ∧
 w12.heap.size ≤ w38.heap.size ∧
 ∃ q42 k43 k44 w45, (Sem.run Tryz.prog (Go.Builtin.append_ #[41, 41] 41 #[.slice q8 k9 k10, .slice q39 k40 k41]) w38 = .ok (.slice q42 k43 k44) w45) ∧
 w38.heap.size ≤ w45.heap.size ∧
 (x6 q42 k43 k44 (IntKind.wrap .i64 (n11 + 1)) w45 []) ∧
 Nat.le ((x7 q42 k43 k44 (IntKind.wrap .i64 (n11 + 1)) w45) + 1) (x7 q8 k9 k10 n11 w12)
 else
 R (.returned (.slice q8 k9 k10)) w12) :
 Calls Tryz.prog 78 #[.slice a al ac] w R :=
 calls_of { isLoc := [], sym := [], loops := [(3, .inv [(3, .slice), (4, .int .i64)] [] true)], joins := [] } Tryz.func78 (by kernel_rfl) h
end Go.Proofs
/- The verification conditions of this seat's functions, as the engine has them: printed by a program of the bench; checked by the kernel. -/
namespace Go.Proofs
open Go X
theorem x_r5Put (a_0 a_1 a_2 a_3 a_4 a_5 a_6 a_7 a_8 a_9 a_10 a_11 : Int) (a_12 : Option Addr) (a_12l a_12c : Nat) (a_13 : Int) (a_14 : ByteArray) (a_15 : Option Addr) (a_15l a_15c : Nat) (a_16 a_17 : Int) (w : World) (R : Ending → World → Prop) (h :
 ∀ w1 L2, Hid [] w w1 →
 NewL w.heap.size [] w w1 L2 →
 if (a_0 == 0) = true then
 if (a_0 == 0) = true then
 ∃ x147, (FactsW x147 (w1.alloc (.cells #[.int .u8 a_0] 5)) L2) ∧
 ∀ w148 L149, (Hid L2 (w1.alloc (.cells #[.int .u8 a_0] 5)) w148) →
 (NewL w.heap.size L2 (w1.alloc (.cells #[.int .u8 a_0] 5)) w148 L149) →
 CallX Tryz.prog 73 #[(IdW a_1 a_2 a_3 a_4 a_5 a_6 a_7 a_8 a_9 a_10)] w148 fun e150 w151 =>
 ∃ q152 k153 k154, e150 = .returned (.slice q152 k153 k154) ∧
 Kept L149 w148 w151 ∧
 FactsW x147 w151 L149 ∧
 ∃ q155 k156 k157 w158, (Sem.run Tryz.prog (Go.Builtin.append_ #[41, 41] 41 #[.slice (some ⟨w1.heap.size, 0, none⟩) 1 1, .slice q152 k153 k154]) w151 = .ok (.slice q155 k156 k157) w158) ∧
 Kept L149 w151 w158 ∧
 FactsW x147 w158 L149 ∧
 CallX Tryz.prog 74 #[.int .u64 (IntKind.wrap .u64 a_11)] w158 fun e159 w160 =>
 ∃ q161 k162 k163, e159 = .returned (.slice q161 k162 k163) ∧
 Kept L149 w158 w160 ∧
 FactsW x147 w160 L149 ∧
 ∃ q164 k165 k166 w167, (Sem.run Tryz.prog (Go.Builtin.append_ #[41, 41] 41 #[.slice q155 k156 k157, .slice q161 k162 k163]) w160 = .ok (.slice q164 k165 k166) w167) ∧
 Kept L149 w160 w167 ∧
 FactsW x147 w167 L149 ∧
 CallX Tryz.prog 75 #[.slice a_12 a_12l a_12c] w167 fun e168 w169 =>
 ∃ q170 k171 k172, e168 = .returned (.slice q170 k171 k172) ∧
 Kept L149 w167 w169 ∧
 ∃ q173 k174 k175 w176, (Sem.run Tryz.prog (Go.Builtin.append_ #[41, 41] 41 #[.slice q164 k165 k166, .slice q170 k171 k172]) w169 = .ok (.slice q173 k174 k175) w176) ∧
 Kept L149 w169 w176 ∧
 if (a_0 == 3) = true then
 CallX Tryz.prog 76 #[(.agg #[.int .u8 a_13, .string a_14])] w176 fun e177 w178 =>
 ∃ q179 k180 k181, e177 = .returned (.slice q179 k180 k181) ∧
 Kept L149 w176 w178 ∧
 ∃ q182 k183 k184 w185, (Sem.run Tryz.prog (Go.Builtin.append_ #[41, 41] 41 #[.slice q173 k174 k175, .slice q179 k180 k181]) w178 = .ok (.slice q182 k183 k184) w185) ∧
 Kept L149 w178 w185 ∧
 ∃ q186 k187 k188 w189, (Sem.run Tryz.prog (Go.Builtin.append_ #[41, 41] 41 #[.slice q182 k183 k184, .slice (some ⟨w185.heap.size, 0, none⟩) 1 1]) (w185.alloc (.cells #[(.int .u8 (IntKind.wrap .u8 (if (255 : Int) < ((a_15l : Nat) : Int) then 255 else ((a_15l : Nat) : Int))))] 5)) = .ok (.slice q186 k187 k188) w189) ∧
 (Kept L149 (w185.alloc (.cells #[(.int .u8 (IntKind.wrap .u8 (if (255 : Int) < ((a_15l : Nat) : Int) then 255 else ((a_15l : Nat) : Int))))] 5)) w189) ∧
 ∃ x190 : Option Addr → Nat → Nat → Int → World → List Nat → Prop, ∃ x191 : Option Addr → Nat → Nat → Int → World → Nat, (x190 q186 k187 k188 0 w189 L149) ∧
 ∀ q192 k193 k194 n195 w196 L197, (LF w.heap.size w196 L197) →
 (x190 q192 k193 k194 n195 w196 L197) →
 if (decide (n195 < (if (255 : Int) < ((a_15l : Nat) : Int) then 255 else ((a_15l : Nat) : Int)))) = true then
 ((0 : Int) ≤ n195) ∧
 (n195 < ((a_15l : Nat) : Int)) ∧
 onSome a_15 fun p198 =>
 ∃ s199 s200 b201, (Cells w196 (p198.add ((n195).toNat * 3)) [.string s199, .string s200, .bool b201]) ∧
 (¬ (((p198.add (n195.toNat * 3)).block) ∈ L197)) ∧
 ∃ x202, (FactsW x202 w196 L197) ∧
 ∀ w203 L204, Hid L197 w196 w203 →
 NewL w.heap.size L197 w196 w203 L204 →
 CallX Tryz.prog 131 #[.string s199] w203 fun e205 w206 =>
 ∃ q207 k208 k209, e205 = .returned (.slice q207 k208 k209) ∧
 Kept L204 w203 w206 ∧
 FactsW x202 w206 L204 ∧
 ∃ q210 k211 k212 w213, (Sem.run Tryz.prog (Go.Builtin.append_ #[41, 41] 41 #[.slice q192 k193 k194, .slice q207 k208 k209]) w206 = .ok (.slice q210 k211 k212) w213) ∧
 Kept L204 w206 w213 ∧
 FactsW x202 w213 L204 ∧
 CallX Tryz.prog 131 #[.string s200] w213 fun e214 w215 =>
 ∃ q216 k217 k218, e214 = .returned (.slice q216 k217 k218) ∧
 Kept L204 w213 w215 ∧
 FactsW x202 w215 L204 ∧
 ∃ q219 k220 k221 w222, (Sem.run Tryz.prog (Go.Builtin.append_ #[41, 41] 41 #[.slice q210 k211 k212, .slice q216 k217 k218]) w215 = .ok (.slice q219 k220 k221) w222) ∧
 Kept L204 w215 w222 ∧
 FactsW x202 w222 L204 ∧
 if b201 = true then
 ∃ q227 k228 k229 w230, (Sem.run Tryz.prog (Go.Builtin.append_ #[41, 41] 41 #[.slice q219 k220 k221, .slice (some ⟨w222.heap.size, 0, none⟩) 1 1]) (w222.alloc (.cells #[.int .u8 1] 5)) = .ok (.slice q227 k228 k229) w230) ∧
 (Kept L204 (w222.alloc (.cells #[.int .u8 1] 5)) w230) ∧
 (([.int .u8 a_0, .int .u8 a_1, .int .u16 a_2, .int .u32 a_3, .int .u8 a_4, .int .u8 a_5, .int .u8 a_6, .int .u8 a_7, .int .u8 a_8, .int .u8 a_9, .int .u8 a_10, .int .u32 a_11, .slice a_12 a_12l a_12c, .int .u8 a_13, .string a_14, .slice a_15 a_15l a_15c, .int .u8 a_16, .int .u16 a_17] : List Value) = [.int .u8 a_0, .int .u8 a_1, .int .u16 a_2, .int .u32 a_3, .int .u8 a_4, .int .u8 a_5, .int .u8 a_6, .int .u8 a_7, .int .u8 a_8, .int .u8 a_9, .int .u8 a_10, .int .u32 a_11, .slice a_12 a_12l a_12c, .int .u8 a_13, .string a_14, .slice a_15 a_15l a_15c, .int .u8 a_16, .int .u16 a_17]) ∧
 (x190 q227 k228 k229 (IntKind.wrap .i64 (n195 + 1)) w230 L204) ∧
 Nat.le ((x191 q227 k228 k229 (IntKind.wrap .i64 (n195 + 1)) w230) + 1) (x191 q192 k193 k194 n195 w196)
 else
 ∃ q223 k224 k225 w226, (Sem.run Tryz.prog (Go.Builtin.append_ #[41, 41] 41 #[.slice q219 k220 k221, .slice (some ⟨w222.heap.size, 0, none⟩) 1 1]) (w222.alloc (.cells #[.int .u8 0] 5)) = .ok (.slice q223 k224 k225) w226) ∧
 (Kept L204 (w222.alloc (.cells #[.int .u8 0] 5)) w226) ∧
 (([.int .u8 a_0, .int .u8 a_1, .int .u16 a_2, .int .u32 a_3, .int .u8 a_4, .int .u8 a_5, .int .u8 a_6, .int .u8 a_7, .int .u8 a_8, .int .u8 a_9, .int .u8 a_10, .int .u32 a_11, .slice a_12 a_12l a_12c, .int .u8 a_13, .string a_14, .slice a_15 a_15l a_15c, .int .u8 a_16, .int .u16 a_17] : List Value) = [.int .u8 a_0, .int .u8 a_1, .int .u16 a_2, .int .u32 a_3, .int .u8 a_4, .int .u8 a_5, .int .u8 a_6, .int .u8 a_7, .int .u8 a_8, .int .u8 a_9, .int .u8 a_10, .int .u32 a_11, .slice a_12 a_12l a_12c, .int .u8 a_13, .string a_14, .slice a_15 a_15l a_15c, .int .u8 a_16, .int .u16 a_17]) ∧
 (x190 q223 k224 k225 (IntKind.wrap .i64 (n195 + 1)) w226 L204) ∧
 Nat.le ((x191 q223 k224 k225 (IntKind.wrap .i64 (n195 + 1)) w226) + 1) (x191 q192 k193 k194 n195 w196)
 else
 R (.returned (.slice q192 k193 k194)) w196
 else
 R (.returned (.slice q173 k174 k175)) w176
 else
 if (a_0 == 1) = true then
 ∃ x126, (FactsW x126 (w1.alloc (.cells #[.int .u8 a_0] 5)) L2) ∧
 ∀ w127 L128, (Hid L2 (w1.alloc (.cells #[.int .u8 a_0] 5)) w127) →
 (NewL w.heap.size L2 (w1.alloc (.cells #[.int .u8 a_0] 5)) w127 L128) →
 CallX Tryz.prog 73 #[(IdW a_1 a_2 a_3 a_4 a_5 a_6 a_7 a_8 a_9 a_10)] w127 fun e129 w130 =>
 ∃ q131 k132 k133, e129 = .returned (.slice q131 k132 k133) ∧
 Kept L128 w127 w130 ∧
 FactsW x126 w130 L128 ∧
 ∃ q134 k135 k136 w137, (Sem.run Tryz.prog (Go.Builtin.append_ #[41, 41] 41 #[.slice (some ⟨w1.heap.size, 0, none⟩) 1 1, .slice q131 k132 k133]) w130 = .ok (.slice q134 k135 k136) w137) ∧
 Kept L128 w130 w137 ∧
 FactsW x126 w137 L128 ∧
 CallX Tryz.prog 76 #[(.agg #[.int .u8 a_13, .string a_14])] w137 fun e138 w139 =>
 ∃ q140 k141 k142, e138 = .returned (.slice q140 k141 k142) ∧
 Kept L128 w137 w139 ∧
 FactsW x126 w139 L128 ∧
 ∃ q143 k144 k145 w146, (Sem.run Tryz.prog (Go.Builtin.append_ #[41, 41] 41 #[.slice q134 k135 k136, .slice q140 k141 k142]) w139 = .ok (.slice q143 k144 k145) w146) ∧
 Kept L128 w139 w146 ∧
 FactsW x126 w146 L128 ∧
 R (.returned (.slice q143 k144 k145)) w146
 else
 if (a_0 == 2) = true then
 CallX Tryz.prog 81 #[(.agg #[.int .u8 a_16, .int .u16 a_17])] (w1.alloc (.cells #[.int .u8 a_0] 5)) fun e117 w118 =>
 ∃ q119 k120 k121, e117 = .returned (.slice q119 k120 k121) ∧
 (Kept L2 (w1.alloc (.cells #[.int .u8 a_0] 5)) w118) ∧
 ∃ q122 k123 k124 w125, (Sem.run Tryz.prog (Go.Builtin.append_ #[41, 41] 41 #[.slice (some ⟨w1.heap.size, 0, none⟩) 1 1, .slice q119 k120 k121]) w118 = .ok (.slice q122 k123 k124) w125) ∧
 Kept L2 w118 w125 ∧
 R (.returned (.slice q122 k123 k124)) w125
 else
 R (.returned (.slice (some ⟨w1.heap.size, 0, none⟩) 1 1)) (w1.alloc (.cells #[.int .u8 a_0] 5))
 else
 if (a_0 == 3) = true then
 ∃ x33, (FactsW x33 (w1.alloc (.cells #[.int .u8 a_0] 5)) L2) ∧
 ∀ w34 L35, (Hid L2 (w1.alloc (.cells #[.int .u8 a_0] 5)) w34) →
 (NewL w.heap.size L2 (w1.alloc (.cells #[.int .u8 a_0] 5)) w34 L35) →
 CallX Tryz.prog 73 #[(IdW a_1 a_2 a_3 a_4 a_5 a_6 a_7 a_8 a_9 a_10)] w34 fun e36 w37 =>
 ∃ q38 k39 k40, e36 = .returned (.slice q38 k39 k40) ∧
 Kept L35 w34 w37 ∧
 FactsW x33 w37 L35 ∧
 ∃ q41 k42 k43 w44, (Sem.run Tryz.prog (Go.Builtin.append_ #[41, 41] 41 #[.slice (some ⟨w1.heap.size, 0, none⟩) 1 1, .slice q38 k39 k40]) w37 = .ok (.slice q41 k42 k43) w44) ∧
 Kept L35 w37 w44 ∧
 FactsW x33 w44 L35 ∧
 CallX Tryz.prog 74 #[.int .u64 (IntKind.wrap .u64 a_11)] w44 fun e45 w46 =>
 ∃ q47 k48 k49, e45 = .returned (.slice q47 k48 k49) ∧
 Kept L35 w44 w46 ∧
 FactsW x33 w46 L35 ∧
 ∃ q50 k51 k52 w53, (Sem.run Tryz.prog (Go.Builtin.append_ #[41, 41] 41 #[.slice q41 k42 k43, .slice q47 k48 k49]) w46 = .ok (.slice q50 k51 k52) w53) ∧
 Kept L35 w46 w53 ∧
 FactsW x33 w53 L35 ∧
 CallX Tryz.prog 75 #[.slice a_12 a_12l a_12c] w53 fun e54 w55 =>
 ∃ q56 k57 k58, e54 = .returned (.slice q56 k57 k58) ∧
 Kept L35 w53 w55 ∧
 ∃ q59 k60 k61 w62, (Sem.run Tryz.prog (Go.Builtin.append_ #[41, 41] 41 #[.slice q50 k51 k52, .slice q56 k57 k58]) w55 = .ok (.slice q59 k60 k61) w62) ∧
 Kept L35 w55 w62 ∧
 if (a_0 == 3) = true then
 CallX Tryz.prog 76 #[(.agg #[.int .u8 a_13, .string a_14])] w62 fun e63 w64 =>
 ∃ q65 k66 k67, e63 = .returned (.slice q65 k66 k67) ∧
 Kept L35 w62 w64 ∧
 ∃ q68 k69 k70 w71, (Sem.run Tryz.prog (Go.Builtin.append_ #[41, 41] 41 #[.slice q59 k60 k61, .slice q65 k66 k67]) w64 = .ok (.slice q68 k69 k70) w71) ∧
 Kept L35 w64 w71 ∧
 ∃ q72 k73 k74 w75, (Sem.run Tryz.prog (Go.Builtin.append_ #[41, 41] 41 #[.slice q68 k69 k70, .slice (some ⟨w71.heap.size, 0, none⟩) 1 1]) (w71.alloc (.cells #[(.int .u8 (IntKind.wrap .u8 (if (255 : Int) < ((a_15l : Nat) : Int) then 255 else ((a_15l : Nat) : Int))))] 5)) = .ok (.slice q72 k73 k74) w75) ∧
 (Kept L35 (w71.alloc (.cells #[(.int .u8 (IntKind.wrap .u8 (if (255 : Int) < ((a_15l : Nat) : Int) then 255 else ((a_15l : Nat) : Int))))] 5)) w75) ∧
 ∃ x76 : Option Addr → Nat → Nat → Int → World → List Nat → Prop, ∃ x77 : Option Addr → Nat → Nat → Int → World → Nat, (x76 q72 k73 k74 0 w75 L35) ∧
 ∀ q78 k79 k80 n81 w82 L83, (LF w.heap.size w82 L83) →
 (x76 q78 k79 k80 n81 w82 L83) →
 if (decide (n81 < (if (255 : Int) < ((a_15l : Nat) : Int) then 255 else ((a_15l : Nat) : Int)))) = true then
 ((0 : Int) ≤ n81) ∧
 (n81 < ((a_15l : Nat) : Int)) ∧
 onSome a_15 fun p84 =>
 ∃ s85 s86 b87, (Cells w82 (p84.add ((n81).toNat * 3)) [.string s85, .string s86, .bool b87]) ∧
 (¬ (((p84.add (n81.toNat * 3)).block) ∈ L83)) ∧
 ∃ x88, (FactsW x88 w82 L83) ∧
 ∀ w89 L90, Hid L83 w82 w89 →
 NewL w.heap.size L83 w82 w89 L90 →
 CallX Tryz.prog 131 #[.string s85] w89 fun e91 w92 =>
 ∃ q93 k94 k95, e91 = .returned (.slice q93 k94 k95) ∧
 Kept L90 w89 w92 ∧
 FactsW x88 w92 L90 ∧
 ∃ q96 k97 k98 w99, (Sem.run Tryz.prog (Go.Builtin.append_ #[41, 41] 41 #[.slice q78 k79 k80, .slice q93 k94 k95]) w92 = .ok (.slice q96 k97 k98) w99) ∧
 Kept L90 w92 w99 ∧
 FactsW x88 w99 L90 ∧
 CallX Tryz.prog 131 #[.string s86] w99 fun e100 w101 =>
 ∃ q102 k103 k104, e100 = .returned (.slice q102 k103 k104) ∧
 Kept L90 w99 w101 ∧
 FactsW x88 w101 L90 ∧
 ∃ q105 k106 k107 w108, (Sem.run Tryz.prog (Go.Builtin.append_ #[41, 41] 41 #[.slice q96 k97 k98, .slice q102 k103 k104]) w101 = .ok (.slice q105 k106 k107) w108) ∧
 Kept L90 w101 w108 ∧
 FactsW x88 w108 L90 ∧
 if b87 = true then
 ∃ q113 k114 k115 w116, (Sem.run Tryz.prog (Go.Builtin.append_ #[41, 41] 41 #[.slice q105 k106 k107, .slice (some ⟨w108.heap.size, 0, none⟩) 1 1]) (w108.alloc (.cells #[.int .u8 1] 5)) = .ok (.slice q113 k114 k115) w116) ∧
 (Kept L90 (w108.alloc (.cells #[.int .u8 1] 5)) w116) ∧
 (([.int .u8 a_0, .int .u8 a_1, .int .u16 a_2, .int .u32 a_3, .int .u8 a_4, .int .u8 a_5, .int .u8 a_6, .int .u8 a_7, .int .u8 a_8, .int .u8 a_9, .int .u8 a_10, .int .u32 a_11, .slice a_12 a_12l a_12c, .int .u8 a_13, .string a_14, .slice a_15 a_15l a_15c, .int .u8 a_16, .int .u16 a_17] : List Value) = [.int .u8 a_0, .int .u8 a_1, .int .u16 a_2, .int .u32 a_3, .int .u8 a_4, .int .u8 a_5, .int .u8 a_6, .int .u8 a_7, .int .u8 a_8, .int .u8 a_9, .int .u8 a_10, .int .u32 a_11, .slice a_12 a_12l a_12c, .int .u8 a_13, .string a_14, .slice a_15 a_15l a_15c, .int .u8 a_16, .int .u16 a_17]) ∧
 (x76 q113 k114 k115 (IntKind.wrap .i64 (n81 + 1)) w116 L90) ∧
 Nat.le ((x77 q113 k114 k115 (IntKind.wrap .i64 (n81 + 1)) w116) + 1) (x77 q78 k79 k80 n81 w82)
 else
 ∃ q109 k110 k111 w112, (Sem.run Tryz.prog (Go.Builtin.append_ #[41, 41] 41 #[.slice q105 k106 k107, .slice (some ⟨w108.heap.size, 0, none⟩) 1 1]) (w108.alloc (.cells #[.int .u8 0] 5)) = .ok (.slice q109 k110 k111) w112) ∧
 (Kept L90 (w108.alloc (.cells #[.int .u8 0] 5)) w112) ∧
 (([.int .u8 a_0, .int .u8 a_1, .int .u16 a_2, .int .u32 a_3, .int .u8 a_4, .int .u8 a_5, .int .u8 a_6, .int .u8 a_7, .int .u8 a_8, .int .u8 a_9, .int .u8 a_10, .int .u32 a_11, .slice a_12 a_12l a_12c, .int .u8 a_13, .string a_14, .slice a_15 a_15l a_15c, .int .u8 a_16, .int .u16 a_17] : List Value) = [.int .u8 a_0, .int .u8 a_1, .int .u16 a_2, .int .u32 a_3, .int .u8 a_4, .int .u8 a_5, .int .u8 a_6, .int .u8 a_7, .int .u8 a_8, .int .u8 a_9, .int .u8 a_10, .int .u32 a_11, .slice a_12 a_12l a_12c, .int .u8 a_13, .string a_14, .slice a_15 a_15l a_15c, .int .u8 a_16, .int .u16 a_17]) ∧
 (x76 q109 k110 k111 (IntKind.wrap .i64 (n81 + 1)) w112 L90) ∧
 Nat.le ((x77 q109 k110 k111 (IntKind.wrap .i64 (n81 + 1)) w112) + 1) (x77 q78 k79 k80 n81 w82)
 else
 R (.returned (.slice q78 k79 k80)) w82
 else
 R (.returned (.slice q59 k60 k61)) w62
 else
 if (a_0 == 1) = true then
 ∃ x12, (FactsW x12 (w1.alloc (.cells #[.int .u8 a_0] 5)) L2) ∧
 ∀ w13 L14, (Hid L2 (w1.alloc (.cells #[.int .u8 a_0] 5)) w13) →
 (NewL w.heap.size L2 (w1.alloc (.cells #[.int .u8 a_0] 5)) w13 L14) →
 CallX Tryz.prog 73 #[(IdW a_1 a_2 a_3 a_4 a_5 a_6 a_7 a_8 a_9 a_10)] w13 fun e15 w16 =>
 ∃ q17 k18 k19, e15 = .returned (.slice q17 k18 k19) ∧
 Kept L14 w13 w16 ∧
 FactsW x12 w16 L14 ∧
 ∃ q20 k21 k22 w23, (Sem.run Tryz.prog (Go.Builtin.append_ #[41, 41] 41 #[.slice (some ⟨w1.heap.size, 0, none⟩) 1 1, .slice q17 k18 k19]) w16 = .ok (.slice q20 k21 k22) w23) ∧
 Kept L14 w16 w23 ∧
 FactsW x12 w23 L14 ∧
 CallX Tryz.prog 76 #[(.agg #[.int .u8 a_13, .string a_14])] w23 fun e24 w25 =>
 ∃ q26 k27 k28, e24 = .returned (.slice q26 k27 k28) ∧
 Kept L14 w23 w25 ∧
 FactsW x12 w25 L14 ∧
 ∃ q29 k30 k31 w32, (Sem.run Tryz.prog (Go.Builtin.append_ #[41, 41] 41 #[.slice q20 k21 k22, .slice q26 k27 k28]) w25 = .ok (.slice q29 k30 k31) w32) ∧
 Kept L14 w25 w32 ∧
 FactsW x12 w32 L14 ∧
 R (.returned (.slice q29 k30 k31)) w32
 else
 if (a_0 == 2) = true then
 CallX Tryz.prog 81 #[(.agg #[.int .u8 a_16, .int .u16 a_17])] (w1.alloc (.cells #[.int .u8 a_0] 5)) fun e3 w4 =>
 ∃ q5 k6 k7, e3 = .returned (.slice q5 k6 k7) ∧
 (Kept L2 (w1.alloc (.cells #[.int .u8 a_0] 5)) w4) ∧
 ∃ q8 k9 k10 w11, (Sem.run Tryz.prog (Go.Builtin.append_ #[41, 41] 41 #[.slice (some ⟨w1.heap.size, 0, none⟩) 1 1, .slice q5 k6 k7]) w4 = .ok (.slice q8 k9 k10) w11) ∧
 Kept L2 w4 w11 ∧
 R (.returned (.slice q8 k9 k10)) w11
 else
 R (.returned (.slice (some ⟨w1.heap.size, 0, none⟩) 1 1)) (w1.alloc (.cells #[.int .u8 a_0] 5))) :
 Calls Tryz.prog 132 #[.agg #[.int .u8 a_0, .int .u8 a_1, .int .u16 a_2, .int .u32 a_3, .int .u8 a_4, .int .u8 a_5, .int .u8 a_6, .int .u8 a_7, .int .u8 a_8, .int .u8 a_9, .int .u8 a_10, .int .u32 a_11, .slice a_12 a_12l a_12c, .int .u8 a_13, .string a_14, .slice a_15 a_15l a_15c, .int .u8 a_16, .int .u16 a_17]] w R :=
 calls_of { isLoc := [1, 6], sym := [], loops := [(11, .inv [(3, .slice), (5, .int .i64)] [] true)], joins := [] } Tryz.func132 (by kernel_rfl) h
end Go.Proofs
/- The verification conditions of this seat's functions, as the engine has them: printed by a program of the bench; checked by the kernel. -/
namespace Go.Proofs
open Go X
theorem x_r7put (a_0 a_1 a_2 a_3 a_4 a_5 a_6 a_7 a_8 a_9 a_10 a_11 a_12 a_13 a_14 a_15 a_16 a_17 a_18 : Int) (a_19 : Option Addr) (a_19l a_19c : Nat) (a_20 : Int) (a_21 : ByteArray) (a_22 a_23 : Int) (a_24 : Option Addr) (a_24l a_24c : Nat) (a_25 a_26 : Int) (a_27 : Bool) (a_28 : Option Addr) (a_28l a_28c : Nat) (a_29 : Option Addr) (a_29l a_29c : Nat) (a_30 : Option Addr) (a_30l a_30c : Nat) (b : Int) (w : World) (R : Ending → World → Prop) (h :
 if (b == 103) = true then
 ∀ w110 L111, Hid [] w w110 →
 NewL w.heap.size [] w w110 L111 →
 R (.returned (.slice (some ⟨w110.heap.size, 0, none⟩) 1 1)) (w110.alloc (.cells #[.int .u8 a_1] 5))
 else
 if (b == 105) = true then
 ∀ w103 L104, Hid [] w w103 →
 NewL w.heap.size [] w w103 L104 →
 CallX Tryz.prog 73 #[(.agg #[.int .u8 a_9, .int .u16 a_10, .int .u32 a_11, .int .u8 a_12, .int .u8 a_13, .int .u8 a_14, .int .u8 a_15, .int .u8 a_16, .int .u8 a_17, .int .u8 a_18])] w103 fun e105 w106 =>
 ∃ q107 k108 k109, e105 = .returned (.slice q107 k108 k109) ∧
 Kept L104 w103 w106 ∧
 R (.returned (.slice q107 k108 k109)) w106
 else
 if (b == 102) = true then
 ∀ w96 L97, Hid [] w w96 →
 NewL w.heap.size [] w w96 L97 →
 CallX Tryz.prog 74 #[.int .u64 (IntKind.wrap .u64 a_6)] w96 fun e98 w99 =>
 ∃ q100 k101 k102, e98 = .returned (.slice q100 k101 k102) ∧
 Kept L97 w96 w99 ∧
 R (.returned (.slice q100 k101 k102)) w99
 else
 if (b == 112) = true then
 ∀ w89 L90, Hid [] w w89 →
 NewL w.heap.size [] w w89 L90 →
 CallX Tryz.prog 75 #[.slice a_19 a_19l a_19c] w89 fun e91 w92 =>
 ∃ q93 k94 k95, e91 = .returned (.slice q93 k94 k95) ∧
 Kept L90 w89 w92 ∧
 R (.returned (.slice q93 k94 k95)) w92
 else
 if (b == 114) = true then
 ∀ w82 L83, Hid [] w w82 →
 NewL w.heap.size [] w w82 L83 →
 CallX Tryz.prog 76 #[(.agg #[.int .u8 a_20, .string a_21])] w82 fun e84 w85 =>
 ∃ q86 k87 k88, e84 = .returned (.slice q86 k87 k88) ∧
 Kept L83 w82 w85 ∧
 R (.returned (.slice q86 k87 k88)) w85
 else
 if (b == 118) = true then
 ∀ w75 L76, Hid [] w w75 →
 NewL w.heap.size [] w w75 L76 →
 CallX Tryz.prog 77 #[(.agg #[.int .u8 a_22, .int .u32 a_23, .slice a_24 a_24l a_24c])] w75 fun e77 w78 =>
 ∃ q79 k80 k81, e77 = .returned (.slice q79 k80 k81) ∧
 Kept L76 w75 w78 ∧
 R (.returned (.slice q79 k80 k81)) w78
 else
 if (b == 99) = true then
 ∀ w73 L74, Hid [] w w73 →
 NewL w.heap.size [] w w73 L74 →
 R (.returned (.slice (some ⟨w73.heap.size, 0, none⟩) 1 1)) (w73.alloc (.cells #[.int .u8 a_2] 5))
 else
 if (b == 110) = true then
 ∀ w66 L67, Hid [] w w66 →
 NewL w.heap.size [] w w66 L67 →
 CallX Tryz.prog 74 #[.int .u64 (IntKind.wrap .u64 a_3)] w66 fun e68 w69 =>
 ∃ q70 k71 k72, e68 = .returned (.slice q70 k71 k72) ∧
 Kept L67 w66 w69 ∧
 R (.returned (.slice q70 k71 k72)) w69
 else
 if (b == 97) = true then
 ∀ w59 L60, Hid [] w w59 →
 NewL w.heap.size [] w w59 L60 →
 CallX Tryz.prog 74 #[.int .u64 (IntKind.wrap .u64 a_4)] w59 fun e61 w62 =>
 ∃ q63 k64 k65, e61 = .returned (.slice q63 k64 k65) ∧
 Kept L60 w59 w62 ∧
 R (.returned (.slice q63 k64 k65)) w62
 else
 if (b == 107) = true then
 ∀ w52 L53, Hid [] w w52 →
 NewL w.heap.size [] w w52 L53 →
 CallX Tryz.prog 74 #[.int .u64 (IntKind.wrap .u64 a_5)] w52 fun e54 w55 =>
 ∃ q56 k57 k58, e54 = .returned (.slice q56 k57 k58) ∧
 Kept L53 w52 w55 ∧
 R (.returned (.slice q56 k57 k58)) w55
 else
 if (b == 101) = true then
 ∀ w45 L46, Hid [] w w45 →
 NewL w.heap.size [] w w45 L46 →
 CallX Tryz.prog 78 #[.slice a_29 a_29l a_29c] w45 fun e47 w48 =>
 ∃ q49 k50 k51, e47 = .returned (.slice q49 k50 k51) ∧
 Kept L46 w45 w48 ∧
 R (.returned (.slice q49 k50 k51)) w48
 else
 if (b == 98) = true then
 ∀ w38 L39, Hid [] w w38 →
 NewL w.heap.size [] w w38 L39 →
 CallX Tryz.prog 74 #[.int .u64 a_7] w38 fun e40 w41 =>
 ∃ q42 k43 k44, e40 = .returned (.slice q42 k43 k44) ∧
 Kept L39 w38 w41 ∧
 R (.returned (.slice q42 k43 k44)) w41
 else
 if (b == 104) = true then
 ∀ w33 L34, Hid [] w w33 →
 NewL w.heap.size [] w w33 L34 →
 CallX Tryz.prog 79 #[.bool a_27] w33 fun e35 w36 =>
 ∃ n37, e35 = .returned (.int .u8 n37) ∧
 Kept L34 w33 w36 ∧
 R (.returned (.slice (some ⟨w36.heap.size, 0, none⟩) 1 1)) (w36.alloc (.cells #[.int .u8 n37] 5))
 else
 if (b == 120) = true then
 ∀ w26 L27, Hid [] w w26 →
 NewL w.heap.size [] w w26 L27 →
 CallX Tryz.prog 74 #[.int .u64 a_8] w26 fun e28 w29 =>
 ∃ q30 k31 k32, e28 = .returned (.slice q30 k31 k32) ∧
 Kept L27 w26 w29 ∧
 R (.returned (.slice q30 k31 k32)) w29
 else
 if (b == 109) = true then
 ∃ x9, (FactsW x9 w []) ∧
 ∀ w10 L11, Hid [] w w10 →
 NewL w.heap.size [] w w10 L11 →
 CallX Tryz.prog 80 #[.slice a_28 a_28l a_28c] w10 fun e12 w13 =>
 ∃ q14 k15 k16, e12 = .returned (.slice q14 k15 k16) ∧
 Kept L11 w10 w13 ∧
 FactsW x9 w13 L11 ∧
 CallX Tryz.prog 78 #[.slice a_30 a_30l a_30c] w13 fun e17 w18 =>
 ∃ q19 k20 k21, e17 = .returned (.slice q19 k20 k21) ∧
 Kept L11 w13 w18 ∧
 FactsW x9 w18 L11 ∧
 ∃ q22 k23 k24 w25, (Sem.run Tryz.prog (Go.Builtin.append_ #[41, 41] 41 #[.slice q14 k15 k16, .slice q19 k20 k21]) w18 = .ok (.slice q22 k23 k24) w25) ∧
 Kept L11 w18 w25 ∧
 FactsW x9 w25 L11 ∧
 R (.returned (.slice q22 k23 k24)) w25
 else
 if (b == 115) = true then
 ∀ w2 L3, Hid [] w w2 →
 NewL w.heap.size [] w w2 L3 →
 CallX Tryz.prog 81 #[(.agg #[.int .u8 a_25, .int .u16 a_26])] w2 fun e4 w5 =>
 ∃ q6 k7 k8, e4 = .returned (.slice q6 k7 k8) ∧
 Kept L3 w2 w5 ∧
 R (.returned (.slice q6 k7 k8)) w5
 else
 ∀ w1, Hid [] w w1 →
 R (.returned (.slice none 0 0)) w1) :
 Calls Tryz.prog 32 #[.agg #[.int .u8 a_0, .int .u8 a_1, .int .u8 a_2, .int .u32 a_3, .int .u32 a_4, .int .u32 a_5, .int .u32 a_6, .int .u64 a_7, .int .u64 a_8, .int .u8 a_9, .int .u16 a_10, .int .u32 a_11, .int .u8 a_12, .int .u8 a_13, .int .u8 a_14, .int .u8 a_15, .int .u8 a_16, .int .u8 a_17, .int .u8 a_18, .slice a_19 a_19l a_19c, .int .u8 a_20, .string a_21, .int .u8 a_22, .int .u32 a_23, .slice a_24 a_24l a_24c, .int .u8 a_25, .int .u16 a_26, .bool a_27, .slice a_28 a_28l a_28c, .slice a_29 a_29l a_29c, .slice a_30 a_30l a_30c], .int .u8 b] w R :=
 calls_of { isLoc := [2], sym := [], loops := [], joins := [] } Tryz.func32 (by kernel_rfl) h
theorem x_r7Bytes (a_0 a_1 a_2 a_3 a_4 a_5 a_6 a_7 a_8 a_9 a_10 a_11 a_12 a_13 a_14 a_15 a_16 a_17 a_18 : Int) (a_19 : Option Addr) (a_19l a_19c : Nat) (a_20 : Int) (a_21 : ByteArray) (a_22 a_23 : Int) (a_24 : Option Addr) (a_24l a_24c : Nat) (a_25 a_26 : Int) (a_27 : Bool) (a_28 : Option Addr) (a_28l a_28c : Nat) (a_29 : Option Addr) (a_29l a_29c : Nat) (a_30 : Option Addr) (a_30l a_30c : Nat) (w : World) (R : Ending → World → Prop) (h :
 ∀ w1 L2, Hid [] w w1 →
 NewL w.heap.size [] w w1 L2 →
 CallX Tryz.prog 30 #[(.agg #[.int .u8 a_0, .int .u8 a_1, .int .u8 a_2, .int .u32 a_3, .int .u32 a_4, .int .u32 a_5, .int .u32 a_6, .int .u64 a_7, .int .u64 a_8, .int .u8 a_9, .int .u16 a_10, .int .u32 a_11, .int .u8 a_12, .int .u8 a_13, .int .u8 a_14, .int .u8 a_15, .int .u8 a_16, .int .u8 a_17, .int .u8 a_18, .slice a_19 a_19l a_19c, .int .u8 a_20, .string a_21, .int .u8 a_22, .int .u32 a_23, .slice a_24 a_24l a_24c, .int .u8 a_25, .int .u16 a_26, .bool a_27, .slice a_28 a_28l a_28c, .slice a_29 a_29l a_29c, .slice a_30 a_30l a_30c])] w1 fun e3 w4 =>
 ∃ b5, e3 = .returned (.bool b5) ∧
 Kept L2 w1 w4 ∧
 if (!b5) = true then
 R (.returned (.tuple #[.slice none 0 0, .int .i64 1])) w4
 else
 CallX Tryz.prog 31 #[(.agg #[.int .u8 a_0, .int .u8 a_1, .int .u8 a_2, .int .u32 a_3, .int .u32 a_4, .int .u32 a_5, .int .u32 a_6, .int .u64 a_7, .int .u64 a_8, .int .u8 a_9, .int .u16 a_10, .int .u32 a_11, .int .u8 a_12, .int .u8 a_13, .int .u8 a_14, .int .u8 a_15, .int .u8 a_16, .int .u8 a_17, .int .u8 a_18, .slice a_19 a_19l a_19c, .int .u8 a_20, .string a_21, .int .u8 a_22, .int .u32 a_23, .slice a_24 a_24l a_24c, .int .u8 a_25, .int .u16 a_26, .bool a_27, .slice a_28 a_28l a_28c, .slice a_29 a_29l a_29c, .slice a_30 a_30l a_30c])] (w4.alloc (.cells #[.int .u8 a_0] 5)) fun e6 w7 =>
 ∃ s8, e6 = .returned (.string s8) ∧
 (Kept L2 (w4.alloc (.cells #[.int .u8 a_0] 5)) w7) ∧
 ∃ x9 : Option Addr → Nat → Nat → Int → World → List Nat → Prop, ∃ x10 : Option Addr → Nat → Nat → Int → World → Nat, (x9 (some (Addr.mk w4.heap.size 0 none)) 1 1 0 w7 L2) ∧
 ∀ q11 k12 k13 n14 w15 L16, (LF w.heap.size w15 L16) →
 (x9 q11 k12 k13 n14 w15 L16) →
 if (decide (n14 < (((s8.size) : Nat) : Int))) = true then
 ∃ x17, (FactsW x17 w15 L16) ∧
 ((0 : Int) ≤ n14) ∧
 ∃ x18, ((s8.data[n14.toNat]?) = some x18) ∧
 ∀ w19 L20, Hid L16 w15 w19 →
 NewL w.heap.size L16 w15 w19 L20 →
 CallX Tryz.prog 32 #[(.agg #[.int .u8 a_0, .int .u8 a_1, .int .u8 a_2, .int .u32 a_3, .int .u32 a_4, .int .u32 a_5, .int .u32 a_6, .int .u64 a_7, .int .u64 a_8, .int .u8 a_9, .int .u16 a_10, .int .u32 a_11, .int .u8 a_12, .int .u8 a_13, .int .u8 a_14, .int .u8 a_15, .int .u8 a_16, .int .u8 a_17, .int .u8 a_18, .slice a_19 a_19l a_19c, .int .u8 a_20, .string a_21, .int .u8 a_22, .int .u32 a_23, .slice a_24 a_24l a_24c, .int .u8 a_25, .int .u16 a_26, .bool a_27, .slice a_28 a_28l a_28c, .slice a_29 a_29l a_29c, .slice a_30 a_30l a_30c]), (.int .u8 (((x18.toNat) : Nat) : Int))] w19 fun e21 w22 =>
 ∃ q23 k24 k25, e21 = .returned (.slice q23 k24 k25) ∧
 Kept L20 w19 w22 ∧
 ∃ q26 k27 k28 w29, (Sem.run Tryz.prog (Go.Builtin.append_ #[41, 41] 41 #[.slice q11 k12 k13, .slice q23 k24 k25]) w22 = .ok (.slice q26 k27 k28) w29) ∧
 Kept L20 w22 w29 ∧
 FactsW x17 w29 L20 ∧
 (([.int .u8 a_0, .int .u8 a_1, .int .u8 a_2, .int .u32 a_3, .int .u32 a_4, .int .u32 a_5, .int .u32 a_6, .int .u64 a_7, .int .u64 a_8, .int .u8 a_9, .int .u16 a_10, .int .u32 a_11, .int .u8 a_12, .int .u8 a_13, .int .u8 a_14, .int .u8 a_15, .int .u8 a_16, .int .u8 a_17, .int .u8 a_18, .slice a_19 a_19l a_19c, .int .u8 a_20, .string a_21, .int .u8 a_22, .int .u32 a_23, .slice a_24 a_24l a_24c, .int .u8 a_25, .int .u16 a_26, .bool a_27, .slice a_28 a_28l a_28c, .slice a_29 a_29l a_29c, .slice a_30 a_30l a_30c] : List Value) = [.int .u8 a_0, .int .u8 a_1, .int .u8 a_2, .int .u32 a_3, .int .u32 a_4, .int .u32 a_5, .int .u32 a_6, .int .u64 a_7, .int .u64 a_8, .int .u8 a_9, .int .u16 a_10, .int .u32 a_11, .int .u8 a_12, .int .u8 a_13, .int .u8 a_14, .int .u8 a_15, .int .u8 a_16, .int .u8 a_17, .int .u8 a_18, .slice a_19 a_19l a_19c, .int .u8 a_20, .string a_21, .int .u8 a_22, .int .u32 a_23, .slice a_24 a_24l a_24c, .int .u8 a_25, .int .u16 a_26, .bool a_27, .slice a_28 a_28l a_28c, .slice a_29 a_29l a_29c, .slice a_30 a_30l a_30c]) ∧
 (x9 q26 k27 k28 (IntKind.wrap .i64 (n14 + 1)) w29 L20) ∧
 Nat.le ((x10 q26 k27 k28 (IntKind.wrap .i64 (n14 + 1)) w29) + 1) (x10 q11 k12 k13 n14 w15)
 else
 R (.returned (.tuple #[.slice q11 k12 k13, .int .i64 0])) w15) :
 Calls Tryz.prog 9 #[.agg #[.int .u8 a_0, .int .u8 a_1, .int .u8 a_2, .int .u32 a_3, .int .u32 a_4, .int .u32 a_5, .int .u32 a_6, .int .u64 a_7, .int .u64 a_8, .int .u8 a_9, .int .u16 a_10, .int .u32 a_11, .int .u8 a_12, .int .u8 a_13, .int .u8 a_14, .int .u8 a_15, .int .u8 a_16, .int .u8 a_17, .int .u8 a_18, .slice a_19 a_19l a_19c, .int .u8 a_20, .string a_21, .int .u8 a_22, .int .u32 a_23, .slice a_24 a_24l a_24c, .int .u8 a_25, .int .u16 a_26, .bool a_27, .slice a_28 a_28l a_28c, .slice a_29 a_29l a_29c, .slice a_30 a_30l a_30c]] w R :=
 calls_of { isLoc := [1], sym := [25], loops := [(6, .inv [(4, .slice), (6, .int .i64)] [] true)], joins := [] } Tryz.func9 (by kernel_rfl) h
end Go.Proofs
/- The verification conditions of this seat's functions, as the engine has them: printed by a program of the bench; checked by the kernel. -/
namespace Go.Proofs
open Go X
abbrev Zw0 : List Value := [.int .u8 0, .int .u16 0, .int .u32 0, .int .u8 0, .int .u8 0, .int .u8 0, .int .u8 0, .int .u8 0, .int .u8 0, .int .u8 0]
theorem x_Zag (a : Int) (w : World) (R : Ending → World → Prop) (h :
 R (.returned (.int .i64 (IntKind.wrap .i64 ((((BitVec.ofInt 64 (IntKind.i64.wrap (a.fdiv 2)) ^^^ BitVec.ofInt 64 (IntKind.i64.wrap (0 - IntKind.i64.wrap (IntKind.u64.wrap ↑(BitVec.ofInt 64 a &&& BitVec.ofInt 64 1).toNat)))).toNat) : Nat) : Int)))) w) :
 Calls Tryz.prog 172 #[.int .u64 a] w R :=
 calls_of { isLoc := [], sym := [], loops := [], joins := [] } Tryz.func172 (by kernel_rfl) h
theorem x_RI (a : Addr) (w : World) (R : Ending → World → Prop) (h :
 CallX Tryz.prog 134 #[.pointer (some a), .int .u64 18446744073709551615] w fun e1 w2 =>
 ∃ n3, e1 = .returned (.int .u64 n3) ∧
 (w.heap.size ≤ w2.heap.size) ∧
 CallX Tryz.prog 172 #[.int .u64 n3] w2 fun e4 w5 =>
 ∃ n6, e4 = .returned (.int .i64 n6) ∧
 w2.heap.size ≤ w5.heap.size ∧
 R (.returned (.int .i64 n6)) w5) :
 Calls Tryz.prog 158 #[.pointer (some a)] w R :=
 calls_of { isLoc := [], sym := [], loops := [], joins := [] } Tryz.func158 (by kernel_rfl) h
theorem x_GetID (a : Addr) (w : World) (R : Ending → World → Prop) (h :
 ∀ w1 L2, Hid [] w w1 →
 NewL w.heap.size [] w w1 L2 →
 CallX Tryz.prog 95 #[.pointer (some a)] w1 fun e3 w4 =>
 ∃ n5 n6, e3 = .returned (.agg #[.int .u8 n5, .int .u16 n6]) ∧
 Kept L2 w1 w4 ∧
 ∀ w7 L8, Hid L2 w4 w7 →
 NewL w.heap.size L2 w4 w7 L8 →
 CallX Tryz.prog 134 #[.pointer (some a), .int .u64 4294967295] w7 fun e9 w10 =>
 ∃ n11, e9 = .returned (.int .u64 n11) ∧
 Kept L8 w7 w10 ∧
 ∀ w12 L13, Hid L8 w10 w12 →
 NewL w.heap.size L8 w10 w12 L13 →
 CallX Tryz.prog 34 #[.pointer (some a)] w12 fun e14 w15 =>
 ∃ n16, e14 = .returned (.int .u8 n16) ∧
 Kept L13 w12 w15 ∧
 if (decide (n16 > 3)) = true then
 ∀ w52, Hid L13 w15 w52 →
 R (.returned (IdW n5 n6 (IntKind.wrap .u32 n11) n16 0 0 0 0 0 0)) w52
 else
 ∀ w17 L18, Hid L13 w15 w17 →
 NewL w.heap.size L13 w15 w17 L18 →
 CallX Tryz.prog 118 #[(IdW n5 n6 (IntKind.wrap .u32 n11) n16 0 0 0 0 0 0)] w17 fun e19 w20 =>
 ∃ q21 k22 k23, e19 = .returned (.slice q21 k22 k23) ∧
 Kept L18 w17 w20 ∧
 ∃ x24 : Int → Int → Int → Int → Int → Int → Int → Int → Int → Int → Int → World → List Nat → Prop, ∃ x25 : Int → Int → Int → Int → Int → Int → Int → Int → Int → Int → Int → World → Nat, (x24 0 n5 n6 (IntKind.wrap .u32 n11) n16 0 0 0 0 0 0 w20 L18) ∧
 ∀ n26 n27 n28 n29 n30 n31 n32 n33 n34 n35 n36 w37 L38, (LF w.heap.size w37 L38) →
 (x24 n26 n27 n28 n29 n30 n31 n32 n33 n34 n35 n36 w37 L38) →
 if (decide (n26 < ((k22 : Nat) : Int))) = true then
 CallX Tryz.prog 34 #[.pointer (some a)] w37 fun e40 w41 =>
 ∃ n42, e40 = .returned (.int .u8 n42) ∧
 Kept L38 w37 w41 ∧
 CallX Tryz.prog 34 #[.pointer (some a)] w41 fun e43 w44 =>
 ∃ n45, e43 = .returned (.int .u8 n45) ∧
 Kept L38 w41 w44 ∧
 ((0 : Int) ≤ n26) ∧
 (n26 < 3) ∧
 (((n26 = 0) →
 ∀ w46 L47, Hid L38 w44 w46 →
 NewL w.heap.size L38 w44 w46 L47 →
 (Zw0 = Zw0) ∧
 (x24 (IntKind.wrap .i64 (n26 + 1)) n27 n28 n29 n30 n42 n45 n33 n34 n35 n36 w46 L47) ∧
 Nat.le ((x25 (IntKind.wrap .i64 (n26 + 1)) n27 n28 n29 n30 n42 n45 n33 n34 n35 n36 w46) + 1) (x25 n26 n27 n28 n29 n30 n31 n32 n33 n34 n35 n36 w37)) ∧
 ((n26 = 1) →
 ∀ w48 L49, Hid L38 w44 w48 →
 NewL w.heap.size L38 w44 w48 L49 →
 (Zw0 = Zw0) ∧
 (x24 (IntKind.wrap .i64 (n26 + 1)) n27 n28 n29 n30 n31 n32 n42 n45 n35 n36 w48 L49) ∧
 Nat.le ((x25 (IntKind.wrap .i64 (n26 + 1)) n27 n28 n29 n30 n31 n32 n42 n45 n35 n36 w48) + 1) (x25 n26 n27 n28 n29 n30 n31 n32 n33 n34 n35 n36 w37))) ∧
 ((n26 = 2) →
 ∀ w50 L51, Hid L38 w44 w50 →
 NewL w.heap.size L38 w44 w50 L51 →
 (Zw0 = Zw0) ∧
 (x24 (IntKind.wrap .i64 (n26 + 1)) n27 n28 n29 n30 n31 n32 n33 n34 n42 n45 w50 L51) ∧
 Nat.le ((x25 (IntKind.wrap .i64 (n26 + 1)) n27 n28 n29 n30 n31 n32 n33 n34 n42 n45 w50) + 1) (x25 n26 n27 n28 n29 n30 n31 n32 n33 n34 n35 n36 w37))
 else
 ∀ w39, Hid L38 w37 w39 →
 R (.returned (IdW n27 n28 n29 n30 n31 n32 n33 n34 n35 n36)) w39) :
 Calls Tryz.prog 85 #[.pointer (some a)] w R :=
 calls_of { isLoc := [2, 3], sym := [34], loops := [(7, .inv [(23, .int .i64)] [(3, [.int .u8, .int .u16, .int .u32, .int .u8, .int .u8, .int .u8, .int .u8, .int .u8, .int .u8, .int .u8])] true)], joins := [] } Tryz.func85 (by kernel_rfl) h
theorem x_pGet (a : Addr) (w : World) (R : Ending → World → Prop) (h :
 ∀ w1 L2, Hid [] w w1 →
 NewL w.heap.size [] w w1 L2 →
 CallX Tryz.prog 34 #[.pointer (some a)] w1 fun e3 w4 =>
 ∃ n5, e3 = .returned (.int .u8 n5) ∧
 Kept L2 w1 w4 ∧
 ∀ w6 L7, Hid L2 w4 w6 →
 NewL w.heap.size L2 w4 w6 L7 →
 CallX Tryz.prog 34 #[.pointer (some a)] w6 fun e8 w9 =>
 ∃ n10, e8 = .returned (.int .u8 n10) ∧
 Kept L7 w6 w9 ∧
 ∀ w11 L12, Hid L7 w9 w11 →
 NewL w.heap.size L7 w9 w11 L12 →
 CallX Tryz.prog 137 #[.pointer (some a), .int .i64 255] w11 fun e13 w14 =>
 ∃ s15, e13 = .returned (.string s15) ∧
 Kept L12 w11 w14 ∧
 ∀ w16 L17, Hid L12 w14 w16 →
 NewL w.heap.size L12 w14 w16 L17 →
 CallX Tryz.prog 137 #[.pointer (some a), .int .i64 255] w16 fun e18 w19 =>
 ∃ s20, e18 = .returned (.string s20) ∧
 Kept L17 w16 w19 ∧
 ∀ w21 L22, Hid L17 w19 w21 →
 NewL w.heap.size L17 w19 w21 L22 →
 CallX Tryz.prog 158 #[.pointer (some a)] w21 fun e23 w24 =>
 ∃ n25, e23 = .returned (.int .i64 n25) ∧
 Kept L22 w21 w24 ∧
 ∀ w26, Hid L22 w24 w26 →
 R (.returned (.agg #[.int .u8 n5, .int .u8 n10, .string s15, .string s20, .int .i64 n25])) w26) :
 Calls Tryz.prog 136 #[.pointer (some a)] w R :=
 calls_of { isLoc := [2, 3], sym := [], loops := [], joins := [] } Tryz.func136 (by kernel_rfl) h
theorem x_someP (a : Addr) (b : Int) (w : World) (R : Ending → World → Prop) (h :
 ∃ x1 : Option Addr → Nat → Nat → Int → World → List Nat → Prop, ∃ x2 : Option Addr → Nat → Nat → Int → World → Nat, (x1 none 0 0 0 w []) ∧
 ∀ q3 k4 k5 n6 w7 L8, (LF w.heap.size w7 L8) →
 (x1 q3 k4 k5 n6 w7 L8) →
 if (decide (n6 < b)) = true then
 CallX Tryz.prog (OfNat.ofNat 136) #[.pointer (some a)] w7 fun e9 w10 =>
 ∃ n11 n12 s13 s14 n15, e9 = .returned (.agg #[.int .u8 n11, .int .u8 n12, .string s13, .string s14, .int .i64 n15]) ∧
 w7.heap.size ≤ w10.heap.size ∧
 ∀ w16 L17, Hid [] w10 w16 →
 NewL w.heap.size [] w10 w16 L17 →
 CallX Tryz.prog 35 #[.pointer (some a)] w16 fun e18 w19 =>
 ∃ n20, e18 = .returned (.int .i64 n20) ∧
 Kept L17 w16 w19 ∧
 if (n20 != 0) = true then
 R (.returned (.slice q3 k4 k5)) w19
 else
 ∃ q21 k22 k23 w24, (Sem.run Tryz.prog (Go.Builtin.append_ #[52, 52] 52 #[.slice q3 k4 k5, .slice (some ⟨w19.heap.size, 0, none⟩) 1 1]) (w19.alloc (.cells #[.int .u8 n11, .int .u8 n12, .string s13, .string s14, .int .i64 n15] 138)) = .ok (.slice q21 k22 k23) w24) ∧
 (Kept L17 (w19.alloc (.cells #[.int .u8 n11, .int .u8 n12, .string s13, .string s14, .int .i64 n15] 138)) w24) ∧
 (x1 q21 k22 k23 (IntKind.wrap .i64 (n6 + 1)) w24 L17) ∧
 Nat.le ((x2 q21 k22 k23 (IntKind.wrap .i64 (n6 + 1)) w24) + 1) (x2 q3 k4 k5 n6 w7)
 else
 R (.returned (.slice q3 k4 k5)) w7) :
 Calls Tryz.prog 135 #[.pointer (some a), .int .i64 b, .func (.func 136) #[] #[]] w R :=
 calls_of { isLoc := [8], sym := [], loops := [(3, .inv [(7, .slice), (10, .int .i64)] [] true)], joins := [] } Tryz.func135 (by kernel_rfl) h
theorem x_pGetAll (a : Addr) (w : World) (R : Ending → World → Prop) (h :
 CallX Tryz.prog 34 #[.pointer (some a)] w fun e1 w2 =>
 ∃ n3, e1 = .returned (.int .u8 n3) ∧
 (w.heap.size ≤ w2.heap.size) ∧
 CallX Tryz.prog 135 #[.pointer (some a), .int .i64 (IntKind.wrap .i64 n3), (.func (.func 136) #[] #[])] w2 fun e4 w5 =>
 ∃ q6 k7 k8, e4 = .returned (.slice q6 k7 k8) ∧
 w2.heap.size ≤ w5.heap.size ∧
 R (.returned (.slice q6 k7 k8)) w5) :
 Calls Tryz.prog 87 #[.pointer (some a)] w R :=
 calls_of { isLoc := [], sym := [], loops := [], joins := [] } Tryz.func87 (by kernel_rfl) h
theorem x_GetRes (a : Addr) (w : World) (R : Ending → World → Prop) (h :
 ∀ w1 L2, Hid [] w w1 →
 NewL w.heap.size [] w w1 L2 →
 CallX Tryz.prog 34 #[.pointer (some a)] w1 fun e3 w4 =>
 ∃ n5, e3 = .returned (.int .u8 n5) ∧
 Kept L2 w1 w4 ∧
 CallX Tryz.prog 137 #[.pointer (some a), .int .i64 1000] w4 fun e6 w7 =>
 ∃ s8, e6 = .returned (.string s8) ∧
 Kept L2 w4 w7 ∧
 ∀ w9, Hid L2 w7 w9 →
 R (.returned (.agg #[.int .u8 n5, .string s8])) w9) :
 Calls Tryz.prog 88 #[.pointer (some a)] w R :=
 calls_of { isLoc := [2], sym := [], loops := [], joins := [] } Tryz.func88 (by kernel_rfl) h
theorem x_vGet (a : Addr) (w : World) (R : Ending → World → Prop) (h :
 ∀ w1 L2, Hid [] w w1 →
 NewL w.heap.size [] w w1 L2 →
 CallX Tryz.prog 34 #[.pointer (some a)] w1 fun e3 w4 =>
 ∃ n5, e3 = .returned (.int .u8 n5) ∧
 Kept L2 w1 w4 ∧
 ∀ w6 L7, Hid L2 w4 w6 →
 NewL w.heap.size L2 w4 w6 L7 →
 CallX Tryz.prog 134 #[.pointer (some a), .int .u64 4294967295] w6 fun e8 w9 =>
 ∃ n10, e8 = .returned (.int .u64 n10) ∧
 Kept L7 w6 w9 ∧
 ∀ w11 L12, Hid L7 w9 w11 →
 NewL w.heap.size L7 w9 w11 L12 →
 CallX Tryz.prog 34 #[.pointer (some a)] w11 fun e13 w14 =>
 ∃ n15, e13 = .returned (.int .u8 n15) ∧
 Kept L12 w11 w14 ∧
 ∃ x16 : Int → Int → Int → Option Addr → Nat → Nat → World → List Nat → Prop, ∃ x17 : Int → Int → Int → Option Addr → Nat → Nat → World → Nat, (x16 0 n5 (IntKind.wrap .u32 n10) none 0 0 w14 L12) ∧
 ∀ n18 n19 n20 q21 k22 k23 w24 L25, (LF w.heap.size w24 L25) →
 (x16 n18 n19 n20 q21 k22 k23 w24 L25) →
 if (decide (n18 < n15)) = true then
 CallX Tryz.prog 35 #[.pointer (some a)] w24 fun e31 w32 =>
 ∃ n33, e31 = .returned (.int .i64 n33) ∧
 Kept L25 w24 w32 ∧
 if (n33 != 0) = true then
 CallX Tryz.prog 35 #[.pointer (some a)] w32 fun e47 w48 =>
 ∃ n49, e47 = .returned (.int .i64 n49) ∧
 Kept L25 w32 w48 ∧
 if (n49 != 0) = true then
 ∀ w51, Hid L25 w48 w51 →
 R (.returned (.agg #[.int .u8 0, .int .u32 0, .slice none 0 0])) w51
 else
 ∀ w50, Hid L25 w48 w50 →
 R (.returned (.agg #[.int .u8 n19, .int .u32 n20, .slice q21 k22 k23])) w50
 else
 ∃ x34, (FactsW x34 w32 L25) ∧
 ∀ w35 L36, Hid L25 w32 w35 →
 NewL w.heap.size L25 w32 w35 L36 →
 CallX Tryz.prog 95 #[.pointer (some a)] w35 fun e37 w38 =>
 ∃ n39 n40, e37 = .returned (.agg #[.int .u8 n39, .int .u16 n40]) ∧
 Kept L36 w35 w38 ∧
 FactsW x34 w38 L36 ∧
 (FactsW x34 (w38.alloc (.cells #[.int .u8 n39, .int .u16 n40] 47)) L36) ∧
 ∃ q41 k42 k43 w44, (Sem.run Tryz.prog (Go.Builtin.append_ #[54, 54] 54 #[.slice q21 k22 k23, .slice (some ⟨w38.heap.size, 0, none⟩) 1 1]) (w38.alloc (.cells #[.int .u8 n39, .int .u16 n40] 47)) = .ok (.slice q41 k42 k43) w44) ∧
 (Kept L36 (w38.alloc (.cells #[.int .u8 n39, .int .u16 n40] 47)) w44) ∧
 ∀ w45 L46, Hid L36 w44 w45 →
 NewL w.heap.size L36 w44 w45 L46 →
 (([.int .u8 0, .int .u32 0, .slice none 0 0] : List Value) = [.int .u8 0, .int .u32 0, .slice none 0 0]) ∧
 (x16 (IntKind.wrap .u8 (n18 + 1)) n19 n20 q41 k42 k43 w45 L46) ∧
 Nat.le ((x17 (IntKind.wrap .u8 (n18 + 1)) n19 n20 q41 k42 k43 w45) + 1) (x17 n18 n19 n20 q21 k22 k23 w24)
 else
 CallX Tryz.prog 35 #[.pointer (some a)] w24 fun e26 w27 =>
 ∃ n28, e26 = .returned (.int .i64 n28) ∧
 Kept L25 w24 w27 ∧
 if (n28 != 0) = true then
 ∀ w30, Hid L25 w27 w30 →
 R (.returned (.agg #[.int .u8 0, .int .u32 0, .slice none 0 0])) w30
 else
 ∀ w29, Hid L25 w27 w29 →
 R (.returned (.agg #[.int .u8 n19, .int .u32 n20, .slice q21 k22 k23])) w29) :
 Calls Tryz.prog 89 #[.pointer (some a)] w R :=
 calls_of { isLoc := [2, 3], sym := [], loops := [(4, .inv [(13, .int .u8)] [(3, [.int .u8, .int .u32, .slice])] true)], joins := [] } Tryz.func89 (by kernel_rfl) h
theorem x_getWrite (a : Addr) (w : World) (R : Ending → World → Prop) (h :
 ∀ w1 L2, Hid [] w w1 →
 NewL w.heap.size [] w w1 L2 →
 CallX Tryz.prog 137 #[.pointer (some a), .int .i64 255] w1 fun e3 w4 =>
 ∃ s5, e3 = .returned (.string s5) ∧
 Kept L2 w1 w4 ∧
 ∀ w6 L7, Hid L2 w4 w6 →
 NewL w.heap.size L2 w4 w6 L7 →
 CallX Tryz.prog 137 #[.pointer (some a), .int .i64 255] w6 fun e8 w9 =>
 ∃ s10, e8 = .returned (.string s10) ∧
 Kept L7 w6 w9 ∧
 ∀ w11 L12, Hid L7 w9 w11 →
 NewL w.heap.size L7 w9 w11 L12 →
 CallX Tryz.prog 34 #[.pointer (some a)] w11 fun e13 w14 =>
 ∃ n15, e13 = .returned (.int .u8 n15) ∧
 Kept L12 w11 w14 ∧
 if (decide (n15 > 1)) = true then
 CallX Tryz.prog 140 #[.pointer (some a), .int .i64 6] w14 fun e17 w18 =>
 (e17 = .returned (.tuple #[])) ∧
 Kept L12 w14 w18 ∧
 ∀ w19, Hid L12 w18 w19 →
 R (.returned (.agg #[.string s5, .string s10, .bool (n15 == 1)])) w19
 else
 ∀ w16, Hid L12 w14 w16 →
 R (.returned (.agg #[.string s5, .string s10, .bool (n15 == 1)])) w16) :
 Calls Tryz.prog 160 #[.pointer (some a)] w R :=
 calls_of { isLoc := [2, 3], sym := [], loops := [], joins := [] } Tryz.func160 (by kernel_rfl) h
theorem x_someW (a : Addr) (b : Int) (w : World) (R : Ending → World → Prop) (h :
 ∃ x1 : Option Addr → Nat → Nat → Int → World → List Nat → Prop, ∃ x2 : Option Addr → Nat → Nat → Int → World → Nat, (x1 none 0 0 0 w []) ∧
 ∀ q3 k4 k5 n6 w7 L8, (LF w.heap.size w7 L8) →
 (x1 q3 k4 k5 n6 w7 L8) →
 if (decide (n6 < b)) = true then
 CallX Tryz.prog (OfNat.ofNat 160) #[.pointer (some a)] w7 fun e9 w10 =>
 ∃ s11 s12 b13, e9 = .returned (.agg #[.string s11, .string s12, .bool b13]) ∧
 w7.heap.size ≤ w10.heap.size ∧
 ∀ w14 L15, Hid [] w10 w14 →
 NewL w.heap.size [] w10 w14 L15 →
 CallX Tryz.prog 35 #[.pointer (some a)] w14 fun e16 w17 =>
 ∃ n18, e16 = .returned (.int .i64 n18) ∧
 Kept L15 w14 w17 ∧
 if (n18 != 0) = true then
 R (.returned (.slice q3 k4 k5)) w17
 else
 ∃ q19 k20 k21 w22, (Sem.run Tryz.prog (Go.Builtin.append_ #[140, 140] 140 #[.slice q3 k4 k5, .slice (some ⟨w17.heap.size, 0, none⟩) 1 1]) (w17.alloc (.cells #[.string s11, .string s12, .bool b13] 214)) = .ok (.slice q19 k20 k21) w22) ∧
 (Kept L15 (w17.alloc (.cells #[.string s11, .string s12, .bool b13] 214)) w22) ∧
 (x1 q19 k20 k21 (IntKind.wrap .i64 (n6 + 1)) w22 L15) ∧
 Nat.le ((x2 q19 k20 k21 (IntKind.wrap .i64 (n6 + 1)) w22) + 1) (x2 q3 k4 k5 n6 w7)
 else
 R (.returned (.slice q3 k4 k5)) w7) :
 Calls Tryz.prog 159 #[.pointer (some a), .int .i64 b, .func (.func 160) #[] #[]] w R :=
 calls_of { isLoc := [8], sym := [], loops := [(3, .inv [(7, .slice), (10, .int .i64)] [] true)], joins := [] } Tryz.func159 (by kernel_rfl) h
theorem x_someE (a : Addr) (b : Int) (w : World) (R : Ending → World → Prop) (h :
 ∃ x1 : Option Addr → Nat → Nat → Int → World → List Nat → Prop, ∃ x2 : Option Addr → Nat → Nat → Int → World → Nat, (x1 none 0 0 0 w []) ∧
 ∀ q3 k4 k5 n6 w7 L8, (LF w.heap.size w7 L8) →
 (x1 q3 k4 k5 n6 w7 L8) →
 if (decide (n6 < b)) = true then
 CallX Tryz.prog (OfNat.ofNat 139) #[.pointer (some a)] w7 fun e9 w10 =>
 ∃ n11 n12 n13 n14 n15 n16 n17 n18 n19 n20 n21 n22 q23 k24 k25 n26 s27 q28 k29 k30 n31 n32, e9 = .returned (EnW n11 n12 n13 n14 n15 n16 n17 n18 n19 n20 n21 n22 q23 k24 k25 n26 s27 q28 k29 k30 n31 n32) ∧
 w7.heap.size ≤ w10.heap.size ∧
 ∀ w33 L34, Hid [] w10 w33 →
 NewL w.heap.size [] w10 w33 L34 →
 CallX Tryz.prog 35 #[.pointer (some a)] w33 fun e35 w36 =>
 ∃ n37, e35 = .returned (.int .i64 n37) ∧
 Kept L34 w33 w36 ∧
 if (n37 != 0) = true then
 R (.returned (.slice q3 k4 k5)) w36
 else
 ∃ q38 k39 k40 w41, (Sem.run Tryz.prog (Go.Builtin.append_ #[57, 57] 57 #[.slice q3 k4 k5, .slice (some ⟨w36.heap.size, 0, none⟩) 1 1]) (w36.alloc (.cells #[.int .u8 n11, .int .u8 n12, .int .u16 n13, .int .u32 n14, .int .u8 n15, .int .u8 n16, .int .u8 n17, .int .u8 n18, .int .u8 n19, .int .u8 n20, .int .u8 n21, .int .u32 n22, .slice q23 k24 k25, .int .u8 n26, .string s27, .slice q28 k29 k30, .int .u8 n31, .int .u16 n32] 142)) = .ok (.slice q38 k39 k40) w41) ∧
 (Kept L34 (w36.alloc (.cells #[.int .u8 n11, .int .u8 n12, .int .u16 n13, .int .u32 n14, .int .u8 n15, .int .u8 n16, .int .u8 n17, .int .u8 n18, .int .u8 n19, .int .u8 n20, .int .u8 n21, .int .u32 n22, .slice q23 k24 k25, .int .u8 n26, .string s27, .slice q28 k29 k30, .int .u8 n31, .int .u16 n32] 142)) w41) ∧
 (x1 q38 k39 k40 (IntKind.wrap .i64 (n6 + 1)) w41 L34) ∧
 Nat.le ((x2 q38 k39 k40 (IntKind.wrap .i64 (n6 + 1)) w41) + 1) (x2 q3 k4 k5 n6 w7)
 else
 R (.returned (.slice q3 k4 k5)) w7) :
 Calls Tryz.prog 138 #[.pointer (some a), .int .i64 b, .func (.func 139) #[] #[]] w R :=
 calls_of { isLoc := [8], sym := [], loops := [(3, .inv [(7, .slice), (10, .int .i64)] [] true)], joins := [] } Tryz.func138 (by kernel_rfl) h
theorem x_eGetAll (a : Addr) (w : World) (R : Ending → World → Prop) (h :
 CallX Tryz.prog 134 #[.pointer (some a), .int .u64 400] w fun e1 w2 =>
 ∃ n3, e1 = .returned (.int .u64 n3) ∧
 (w.heap.size ≤ w2.heap.size) ∧
 CallX Tryz.prog 138 #[.pointer (some a), .int .i64 (IntKind.wrap .i64 n3), (.func (.func 139) #[] #[])] w2 fun e4 w5 =>
 ∃ q6 k7 k8, e4 = .returned (.slice q6 k7 k8) ∧
 w2.heap.size ≤ w5.heap.size ∧
 CallX Tryz.prog 35 #[.pointer (some a)] w5 fun e9 w10 =>
 ∃ n11, e9 = .returned (.int .i64 n11) ∧
 w5.heap.size ≤ w10.heap.size ∧
 if (n11 != 0) = true then
 R (.returned (.slice none 0 0)) w10
 else
 R (.returned (.slice q6 k7 k8)) w10) :
 Calls Tryz.prog 90 #[.pointer (some a)] w R :=
 calls_of { isLoc := [], sym := [], loops := [], joins := [] } Tryz.func90 (by kernel_rfl) h
end Go.Proofs
/- The verification conditions of this seat's functions, as the engine has them: printed by a program of the bench; checked by the kernel. -/
namespace Go.Proofs
open Go X
theorem x_eGet (a : Addr) (w : World) (R : Ending → World → Prop) (h :
 ∀ w1 L2, Hid [] w w1 →
 NewL w.heap.size [] w w1 L2 →
 CallX Tryz.prog 34 #[.pointer (some a)] w1 fun e3 w4 =>
 ∃ n5, e3 = .returned (.int .u8 n5) ∧
 Kept L2 w1 w4 ∧
 ∀ w6 L7, Hid L2 w4 w6 →
 NewL w.heap.size L2 w4 w6 L7 →
 CallX Tryz.prog 35 #[.pointer (some a)] w6 fun e8 w9 =>
 ∃ n10, e8 = .returned (.int .i64 n10) ∧
 Kept L7 w6 w9 ∧
 if (n10 != 0) = true then
 ∀ w122, Hid L7 w9 w122 →
 R (.returned (EnW 0 0 0 0 0 0 0 0 0 0 0 0 none 0 0 0 (ByteArray.mk #[]) none 0 0 0 0)) w122
 else
 if (n5 == 3) = true then
 CallX Tryz.prog 85 #[.pointer (some a)] w9 fun e80 w81 =>
 ∃ n82 n83 n84 n85 n86 n87 n88 n89 n90 n91, e80 = .returned (IdW n82 n83 n84 n85 n86 n87 n88 n89 n90 n91) ∧
 Kept L7 w9 w81 ∧
 ∀ w92 L93, Hid L7 w81 w92 →
 NewL w.heap.size L7 w81 w92 L93 →
 CallX Tryz.prog 134 #[.pointer (some a), .int .u64 4294967295] w92 fun e94 w95 =>
 ∃ n96, e94 = .returned (.int .u64 n96) ∧
 Kept L93 w92 w95 ∧
 ∀ w97 L98, Hid L93 w95 w97 →
 NewL w.heap.size L93 w95 w97 L98 →
 CallX Tryz.prog 87 #[.pointer (some a)] w97 fun e99 w100 =>
 ∃ q101 k102 k103, e99 = .returned (.slice q101 k102 k103) ∧
 Kept L98 w97 w100 ∧
 if (n5 == 3) = true then
 ∀ w105 L106, Hid L98 w100 w105 →
 NewL w.heap.size L98 w100 w105 L106 →
 CallX Tryz.prog 88 #[.pointer (some a)] w105 fun e107 w108 =>
 ∃ n109 s110, e107 = .returned (.agg #[.int .u8 n109, .string s110]) ∧
 Kept L106 w105 w108 ∧
 ∀ w111 L112, Hid L106 w108 w111 →
 NewL w.heap.size L106 w108 w111 L112 →
 CallX Tryz.prog 34 #[.pointer (some a)] w111 fun e113 w114 =>
 ∃ n115, e113 = .returned (.int .u8 n115) ∧
 Kept L112 w111 w114 ∧
 CallX Tryz.prog 159 #[.pointer (some a), .int .i64 (IntKind.wrap .i64 n115), (.func (.func 160) #[] #[])] w114 fun e116 w117 =>
 ∃ q118 k119 k120, e116 = .returned (.slice q118 k119 k120) ∧
 Kept L112 w114 w117 ∧
 ∀ w121, Hid L112 w117 w121 →
 R (.returned (EnW n5 n82 n83 n84 n85 n86 n87 n88 n89 n90 n91 (IntKind.wrap .u32 n96) q101 k102 k103 n109 s110 q118 k119 k120 0 0)) w121
 else
 ∀ w104, Hid L98 w100 w104 →
 R (.returned (EnW n5 n82 n83 n84 n85 n86 n87 n88 n89 n90 n91 (IntKind.wrap .u32 n96) q101 k102 k103 0 (ByteArray.mk #[]) none 0 0 0 0)) w104
 else
 if (n5 == 0) = true then
 CallX Tryz.prog 85 #[.pointer (some a)] w9 fun e38 w39 =>
 ∃ n40 n41 n42 n43 n44 n45 n46 n47 n48 n49, e38 = .returned (IdW n40 n41 n42 n43 n44 n45 n46 n47 n48 n49) ∧
 Kept L7 w9 w39 ∧
 ∀ w50 L51, Hid L7 w39 w50 →
 NewL w.heap.size L7 w39 w50 L51 →
 CallX Tryz.prog 134 #[.pointer (some a), .int .u64 4294967295] w50 fun e52 w53 =>
 ∃ n54, e52 = .returned (.int .u64 n54) ∧
 Kept L51 w50 w53 ∧
 ∀ w55 L56, Hid L51 w53 w55 →
 NewL w.heap.size L51 w53 w55 L56 →
 CallX Tryz.prog 87 #[.pointer (some a)] w55 fun e57 w58 =>
 ∃ q59 k60 k61, e57 = .returned (.slice q59 k60 k61) ∧
 Kept L56 w55 w58 ∧
 if (n5 == 3) = true then
 ∀ w63 L64, Hid L56 w58 w63 →
 NewL w.heap.size L56 w58 w63 L64 →
 CallX Tryz.prog 88 #[.pointer (some a)] w63 fun e65 w66 =>
 ∃ n67 s68, e65 = .returned (.agg #[.int .u8 n67, .string s68]) ∧
 Kept L64 w63 w66 ∧
 ∀ w69 L70, Hid L64 w66 w69 →
 NewL w.heap.size L64 w66 w69 L70 →
 CallX Tryz.prog 34 #[.pointer (some a)] w69 fun e71 w72 =>
 ∃ n73, e71 = .returned (.int .u8 n73) ∧
 Kept L70 w69 w72 ∧
 CallX Tryz.prog 159 #[.pointer (some a), .int .i64 (IntKind.wrap .i64 n73), (.func (.func 160) #[] #[])] w72 fun e74 w75 =>
 ∃ q76 k77 k78, e74 = .returned (.slice q76 k77 k78) ∧
 Kept L70 w72 w75 ∧
 ∀ w79, Hid L70 w75 w79 →
 R (.returned (EnW n5 n40 n41 n42 n43 n44 n45 n46 n47 n48 n49 (IntKind.wrap .u32 n54) q59 k60 k61 n67 s68 q76 k77 k78 0 0)) w79
 else
 ∀ w62, Hid L56 w58 w62 →
 R (.returned (EnW n5 n40 n41 n42 n43 n44 n45 n46 n47 n48 n49 (IntKind.wrap .u32 n54) q59 k60 k61 0 (ByteArray.mk #[]) none 0 0 0 0)) w62
 else
 if (n5 == 1) = true then
 CallX Tryz.prog 85 #[.pointer (some a)] w9 fun e19 w20 =>
 ∃ n21 n22 n23 n24 n25 n26 n27 n28 n29 n30, e19 = .returned (IdW n21 n22 n23 n24 n25 n26 n27 n28 n29 n30) ∧
 Kept L7 w9 w20 ∧
 ∀ w31 L32, Hid L7 w20 w31 →
 NewL w.heap.size L7 w20 w31 L32 →
 CallX Tryz.prog 88 #[.pointer (some a)] w31 fun e33 w34 =>
 ∃ n35 s36, e33 = .returned (.agg #[.int .u8 n35, .string s36]) ∧
 Kept L32 w31 w34 ∧
 ∀ w37, Hid L32 w34 w37 →
 R (.returned (EnW n5 n21 n22 n23 n24 n25 n26 n27 n28 n29 n30 0 none 0 0 n35 s36 none 0 0 0 0)) w37
 else
 if (n5 == 2) = true then
 CallX Tryz.prog 95 #[.pointer (some a)] w9 fun e14 w15 =>
 ∃ n16 n17, e14 = .returned (.agg #[.int .u8 n16, .int .u16 n17]) ∧
 Kept L7 w9 w15 ∧
 ∀ w18, Hid L7 w15 w18 →
 R (.returned (EnW n5 0 0 0 0 0 0 0 0 0 0 0 none 0 0 0 (ByteArray.mk #[]) none 0 0 n16 n17)) w18
 else
 CallX Tryz.prog 140 #[.pointer (some a), .int .i64 6] w9 fun e11 w12 =>
 (e11 = .returned (.tuple #[])) ∧
 Kept L7 w9 w12 ∧
 ∀ w13, Hid L7 w12 w13 →
 R (.returned (EnW n5 0 0 0 0 0 0 0 0 0 0 0 none 0 0 0 (ByteArray.mk #[]) none 0 0 0 0)) w13) :
 Calls Tryz.prog 139 #[.pointer (some a)] w R :=
 calls_of { isLoc := [2, 3], sym := [], loops := [], joins := [] } Tryz.func139 (by kernel_rfl) h
end Go.Proofs
/- The verification conditions of this seat's functions, as the engine has them: printed by a program of the bench; checked by the kernel. -/
namespace Go.Proofs
open Go X
theorem x_someM (a_0 : Option Addr) (b : Int) (w : World) (R : Ending → World → Prop) (h :
 ∀ w1 L2, Hid [] w w1 →
 NewL w.heap.size [] w w1 L2 →
 ∃ x3 : Option Addr → Nat → Nat → Int → World → List Nat → Prop, ∃ x4 : Option Addr → Nat → Nat → Int → World → Nat, (x3 none 0 0 0 w1 L2) ∧
 ∀ q5 k6 k7 n8 w9 L10, (LF w.heap.size w9 L10) →
 (x3 q5 k6 k7 n8 w9 L10) →
 if (decide (n8 < b)) = true then
 CallX Tryz.prog (OfNat.ofNat 95) #[.pointer a_0] w9 fun e11 w12 =>
 ∃ n13 n14, e11 = .returned (.agg #[.int .u8 n13, .int .u16 n14]) ∧
 Kept L10 w9 w12 ∧
 ∃ q15 k16 k17 w18, (Sem.run Tryz.prog (Go.Builtin.append_ #[54, 54] 54 #[.slice q5 k6 k7, .slice (some ⟨w12.heap.size, 0, none⟩) 1 1]) (w12.alloc (.cells #[.int .u8 n13, .int .u16 n14] 47)) = .ok (.slice q15 k16 k17) w18) ∧
 (Kept L10 (w12.alloc (.cells #[.int .u8 n13, .int .u16 n14] 47)) w18) ∧
 CallX Tryz.prog 35 #[.pointer a_0] w18 fun e19 w20 =>
 ∃ n21, e19 = .returned (.int .i64 n21) ∧
 Kept L10 w18 w20 ∧
 if (n21 != 0) = true then
 R (.returned (.slice none 0 0)) w20
 else
 (([.pointer a_0] : List Value) = [.pointer a_0]) ∧
 (x3 q15 k16 k17 (IntKind.wrap .i64 (n8 + 1)) w20 L10) ∧
 Nat.le ((x4 q15 k16 k17 (IntKind.wrap .i64 (n8 + 1)) w20) + 1) (x4 q5 k6 k7 n8 w9)
 else
 R (.returned (.slice q5 k6 k7)) w9) :
 Calls Tryz.prog 141 #[.agg #[.pointer a_0], .int .i64 b, .func (.func 95) #[] #[]] w R :=
 calls_of { isLoc := [3], sym := [], loops := [(3, .inv [(7, .slice), (9, .int .i64)] [] true)], joins := [] } Tryz.func141 (by kernel_rfl) h
theorem x_rdvalue (a_0 : Option Addr) (b : Addr) (w : World) (R : Ending → World → Prop) (h :
 ∃ x1, (FactsW x1 w []) ∧
 ∀ w2 L3, Hid [] w w2 →
 NewL w.heap.size [] w w2 L3 →
 CallX Tryz.prog 34 #[.pointer a_0] w2 fun e4 w5 =>
 ∃ n6, e4 = .returned (.int .u8 n6) ∧
 Kept L3 w2 w5 ∧
 FactsW x1 w5 L3 ∧
 CallX Tryz.prog 141 #[(.agg #[.pointer a_0]), .int .i64 (IntKind.wrap .i64 n6), (.func (.func 95) #[] #[])] w5 fun e7 w8 =>
 ∃ q9 k10 k11, e7 = .returned (.slice q9 k10 k11) ∧
 Kept L3 w5 w8 ∧
 FactsW x1 w8 L3 ∧
 ((none : Option Nat) = none) ∧
 w8.there b.block (b.off + 28) 1 ∧
 ¬ b.block ∈ L3 ∧
 CallX Tryz.prog 90 #[.pointer a_0] (w8.setCells b.block (b.off + 28) [.slice q9 k10 k11]) fun e12 w13 =>
 ∃ q14 k15 k16, e12 = .returned (.slice q14 k15 k16) ∧
 (Kept L3 (w8.setCells b.block (b.off + 28) [.slice q9 k10 k11]) w13) ∧
 ((none : Option Nat) = none) ∧
 w13.there b.block (b.off + 30) 1 ∧
 ¬ b.block ∈ L3 ∧
 R (.returned (.tuple #[])) (w13.setCells b.block (b.off + 30) [.slice q14 k15 k16])) :
 Calls Tryz.prog 94 #[.agg #[.pointer a_0], .pointer (some b)] w R :=
 calls_of { isLoc := [2], sym := [], loops := [], joins := [] } Tryz.func94 (by kernel_rfl) h
theorem x_rdround (a_0 : Option Addr) (b : Addr) (w : World) (R : Ending → World → Prop) (h :
 ∃ x1, (FactsW x1 w []) ∧
 ∀ w2 L3, Hid [] w w2 →
 NewL w.heap.size [] w w2 L3 →
 CallX Tryz.prog 34 #[.pointer a_0] w2 fun e4 w5 =>
 ∃ n6, e4 = .returned (.int .u8 n6) ∧
 Kept L3 w2 w5 ∧
 FactsW x1 w5 L3 ∧
 CallX Tryz.prog 86 #[(.agg #[.pointer a_0])] w5 fun e7 w8 =>
 ∃ n9, e7 = .returned (.int .u32 n9) ∧
 Kept L3 w5 w8 ∧
 FactsW x1 w8 L3 ∧
 CallX Tryz.prog 93 #[(.agg #[.pointer a_0])] w8 fun e10 w11 =>
 ∃ n12, e10 = .returned (.int .u64 n12) ∧
 Kept L3 w8 w11 ∧
 FactsW x1 w11 L3 ∧
 ((none : Option Nat) = none) ∧
 w11.there b.block (b.off + 1) 1 ∧
 ¬ b.block ∈ L3 ∧
 (FactsW x1 (w11.setCells b.block (b.off + 1) [.int .u8 n6]) L3) ∧
 ((none : Option Nat) = none) ∧
 World.there (w11.setCells b.block (b.off + 1) [.int .u8 n6]) b.block (b.off + 3) 1 ∧
 ¬ b.block ∈ L3 ∧
 (FactsW x1 ((w11.setCells b.block (b.off + 1) [.int .u8 n6]).setCells b.block (b.off + 3) [.int .u32 n9]) L3) ∧
 ((none : Option Nat) = none) ∧
 World.there ((w11.setCells b.block (b.off + 1) [.int .u8 n6]).setCells b.block (b.off + 3) [.int .u32 n9]) b.block (b.off + 7) 1 ∧
 ¬ b.block ∈ L3 ∧
 R (.returned (.tuple #[])) (((w11.setCells b.block (b.off + 1) [.int .u8 n6]).setCells b.block (b.off + 3) [.int .u32 n9]).setCells b.block (b.off + 7) [.int .u64 n12])) :
 Calls Tryz.prog 91 #[.agg #[.pointer a_0], .pointer (some b)] w R :=
 calls_of { isLoc := [2], sym := [], loops := [], joins := [] } Tryz.func91 (by kernel_rfl) h
theorem x_Read7 (a : Option Addr) (al ac : Nat) (w : World) (R : Ending → World → Prop) (h :
 if (decide (((al : Nat) : Int) > 524288)) = true then
 ∀ w110, Hid [] w w110 →
 R (.returned (.tuple #[(MgW 0 0 0 0 0 0 0 0 0 0 0 0 0 0 0 0 0 0 0 none 0 0 0 (ByteArray.mk #[]) 0 0 none 0 0 0 0 false none 0 0 none 0 0 none 0 0), .int .i64 5])) w110
 else
 ∀ w1 L2, Hid [] w w1 →
 NewL w.heap.size [] w w1 L2 →
 CallX Tryz.prog 33 #[.slice a al ac] w1 fun e3 w4 =>
 ∃ q5, e3 = .returned (.pointer q5) ∧
 Kept L2 w1 w4 ∧
 ∀ w6 L7, Hid L2 w4 w6 →
 NewL w.heap.size L2 w4 w6 L7 →
 CallX Tryz.prog 34 #[.pointer q5] w6 fun e8 w9 =>
 ∃ n10, e8 = .returned (.int .u8 n10) ∧
 Kept L7 w6 w9 ∧
 ((none : Option Nat) = none) ∧
 World.there (w9.alloc (.cells #[.int .u8 0, .int .u8 0, .int .u8 0, .int .u32 0, .int .u32 0, .int .u32 0, .int .u32 0, .int .u64 0, .int .u64 0, .int .u8 0, .int .u16 0, .int .u32 0, .int .u8 0, .int .u8 0, .int .u8 0, .int .u8 0, .int .u8 0, .int .u8 0, .int .u8 0, .slice none 0 0, .int .u8 0, .string (ByteArray.mk #[]), .int .u8 0, .int .u32 0, .slice none 0 0, .int .u8 0, .int .u16 0, .bool false, .slice none 0 0, .slice none 0 0, .slice none 0 0] 59)) w9.heap.size 0 31 ∧
 ¬ w9.heap.size ∈ L7 ∧
 CallX Tryz.prog 35 #[.pointer q5] ((w9.alloc (.cells #[.int .u8 0, .int .u8 0, .int .u8 0, .int .u32 0, .int .u32 0, .int .u32 0, .int .u32 0, .int .u64 0, .int .u64 0, .int .u8 0, .int .u16 0, .int .u32 0, .int .u8 0, .int .u8 0, .int .u8 0, .int .u8 0, .int .u8 0, .int .u8 0, .int .u8 0, .slice none 0 0, .int .u8 0, .string (ByteArray.mk #[]), .int .u8 0, .int .u32 0, .slice none 0 0, .int .u8 0, .int .u16 0, .bool false, .slice none 0 0, .slice none 0 0, .slice none 0 0] 59)).setCells w9.heap.size 0 [.int .u8 n10, .int .u8 0, .int .u8 0, .int .u32 0, .int .u32 0, .int .u32 0, .int .u32 0, .int .u64 0, .int .u64 0, .int .u8 0, .int .u16 0, .int .u32 0, .int .u8 0, .int .u8 0, .int .u8 0, .int .u8 0, .int .u8 0, .int .u8 0, .int .u8 0, .slice none 0 0, .int .u8 0, .string (ByteArray.mk #[]), .int .u8 0, .int .u32 0, .slice none 0 0, .int .u8 0, .int .u16 0, .bool false, .slice none 0 0, .slice none 0 0, .slice none 0 0]) fun e11 w12 =>
 ∃ n13, e11 = .returned (.int .i64 n13) ∧
 (Kept L7 ((w9.alloc (.cells #[.int .u8 0, .int .u8 0, .int .u8 0, .int .u32 0, .int .u32 0, .int .u32 0, .int .u32 0, .int .u64 0, .int .u64 0, .int .u8 0, .int .u16 0, .int .u32 0, .int .u8 0, .int .u8 0, .int .u8 0, .int .u8 0, .int .u8 0, .int .u8 0, .int .u8 0, .slice none 0 0, .int .u8 0, .string (ByteArray.mk #[]), .int .u8 0, .int .u32 0, .slice none 0 0, .int .u8 0, .int .u16 0, .bool false, .slice none 0 0, .slice none 0 0, .slice none 0 0] 59)).setCells w9.heap.size 0 [.int .u8 n10, .int .u8 0, .int .u8 0, .int .u32 0, .int .u32 0, .int .u32 0, .int .u32 0, .int .u64 0, .int .u64 0, .int .u8 0, .int .u16 0, .int .u32 0, .int .u8 0, .int .u8 0, .int .u8 0, .int .u8 0, .int .u8 0, .int .u8 0, .int .u8 0, .slice none 0 0, .int .u8 0, .string (ByteArray.mk #[]), .int .u8 0, .int .u32 0, .slice none 0 0, .int .u8 0, .int .u16 0, .bool false, .slice none 0 0, .slice none 0 0, .slice none 0 0]) w12) ∧
 if ((n13 != 0) == false) = true then
 CallX Tryz.prog 36 #[(.agg #[.pointer q5]), .pointer (some ⟨w9.heap.size, 0, none⟩)] w12 fun e15 w16 =>
 ∃ b17, e15 = .returned (.bool b17) ∧
 Kept L7 w12 w16 ∧
 if (false || (!b17)) = true then
 ∀ w109, Hid L7 w16 w109 →
 R (.returned (.tuple #[(MgW 0 0 0 0 0 0 0 0 0 0 0 0 0 0 0 0 0 0 0 none 0 0 0 (ByteArray.mk #[]) 0 0 none 0 0 0 0 false none 0 0 none 0 0 none 0 0), .int .i64 6])) w109
 else
 CallX Tryz.prog 37 #[.pointer q5] w16 fun e18 w19 =>
 ∃ n20, e18 = .returned (.int .i64 n20) ∧
 Kept L7 w16 w19 ∧
 if (n20 != 0) = true then
 ∀ w108, Hid L7 w19 w108 →
 R (.returned (.tuple #[(MgW 0 0 0 0 0 0 0 0 0 0 0 0 0 0 0 0 0 0 0 none 0 0 0 (ByteArray.mk #[]) 0 0 none 0 0 0 0 false none 0 0 none 0 0 none 0 0), .int .i64 n20])) w108
 else
 ∃ n21 n22 n23 n24 n25 n26 n27 n28 n29 n30 n31 n32 n33 n34 n35 n36 n37 n38 n39 q40 k41 k42 n43 s44 n45 n46 q47 k48 k49 n50 n51 b52 q53 k54 k55 q56 k57 k58 q59 k60 k61, (Cells w19 ⟨w9.heap.size, 0, none⟩ [.int .u8 n21, .int .u8 n22, .int .u8 n23, .int .u32 n24, .int .u32 n25, .int .u32 n26, .int .u32 n27, .int .u64 n28, .int .u64 n29, .int .u8 n30, .int .u16 n31, .int .u32 n32, .int .u8 n33, .int .u8 n34, .int .u8 n35, .int .u8 n36, .int .u8 n37, .int .u8 n38, .int .u8 n39, .slice q40 k41 k42, .int .u8 n43, .string s44, .int .u8 n45, .int .u32 n46, .slice q47 k48 k49, .int .u8 n50, .int .u16 n51, .bool b52, .slice q53 k54 k55, .slice q56 k57 k58, .slice q59 k60 k61]) ∧
 ¬ w9.heap.size ∈ L7 ∧
 CallX Tryz.prog 19 #[(MgW n21 n22 n23 n24 n25 n26 n27 n28 n29 n30 n31 n32 n33 n34 n35 n36 n37 n38 n39 q40 k41 k42 n43 s44 n45 n46 q47 k48 k49 n50 n51 b52 q53 k54 k55 q56 k57 k58 q59 k60 k61)] w19 fun e62 w63 =>
 ∃ b64, e62 = .returned (.bool b64) ∧
 Kept L7 w19 w63 ∧
 if (!b64) = true then
 ∀ w107, Hid L7 w63 w107 →
 R (.returned (.tuple #[(MgW 0 0 0 0 0 0 0 0 0 0 0 0 0 0 0 0 0 0 0 none 0 0 0 (ByteArray.mk #[]) 0 0 none 0 0 0 0 false none 0 0 none 0 0 none 0 0), .int .i64 6])) w107
 else
 ∃ n65 n66 n67 n68 n69 n70 n71 n72 n73 n74 n75 n76 n77 n78 n79 n80 n81 n82 n83 q84 k85 k86 n87 s88 n89 n90 q91 k92 k93 n94 n95 b96 q97 k98 k99 q100 k101 k102 q103 k104 k105, (Cells w63 ⟨w9.heap.size, 0, none⟩ [.int .u8 n65, .int .u8 n66, .int .u8 n67, .int .u32 n68, .int .u32 n69, .int .u32 n70, .int .u32 n71, .int .u64 n72, .int .u64 n73, .int .u8 n74, .int .u16 n75, .int .u32 n76, .int .u8 n77, .int .u8 n78, .int .u8 n79, .int .u8 n80, .int .u8 n81, .int .u8 n82, .int .u8 n83, .slice q84 k85 k86, .int .u8 n87, .string s88, .int .u8 n89, .int .u32 n90, .slice q91 k92 k93, .int .u8 n94, .int .u16 n95, .bool b96, .slice q97 k98 k99, .slice q100 k101 k102, .slice q103 k104 k105]) ∧
 ¬ w9.heap.size ∈ L7 ∧
 ∀ w106, Hid L7 w63 w106 →
 R (.returned (.tuple #[(MgW n65 n66 n67 n68 n69 n70 n71 n72 n73 n74 n75 n76 n77 n78 n79 n80 n81 n82 n83 q84 k85 k86 n87 s88 n89 n90 q91 k92 k93 n94 n95 b96 q97 k98 k99 q100 k101 k102 q103 k104 k105), .int .i64 0])) w106
 else
 ∀ w14, Hid L7 w12 w14 →
 R (.returned (.tuple #[(MgW 0 0 0 0 0 0 0 0 0 0 0 0 0 0 0 0 0 0 0 none 0 0 0 (ByteArray.mk #[]) 0 0 none 0 0 0 0 false none 0 0 none 0 0 none 0 0), .int .i64 6])) w14) :
 Calls Tryz.prog 10 #[.slice a al ac] w R :=
 calls_of { isLoc := [2, 4], sym := [], loops := [], joins := [] } Tryz.func10 (by kernel_rfl) h
end Go.Proofs
