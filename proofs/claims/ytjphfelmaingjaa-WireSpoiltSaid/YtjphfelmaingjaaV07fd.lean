import Derived.Test.YtjphfelmaingjaaXFn
import Derived.Test.YtjphfelmaingjaaProg
set_option maxRecDepth 100000
set_option linter.unusedVariables false
/- The verification conditions of this seat's functions, as the engine has them: printed by a program of the bench; checked by the kernel. -/
namespace Go.Proofs
open Go
abbrev fn_WB : Nat := 79
theorem x_WB (a : Addr) (b : Int) (w : World) (R : Ending → World → Prop) (h :
  ∃ q1 : Option Addr, ∃ k2 : Nat, ∃ k3 : Nat, (World.cell? w (a.add 0) = some (.slice (q1) k2 k3)) ∧
  ∃ q4 : Option Addr, ∃ k5 : Nat, ∃ k6 : Nat, ∃ w7 : World, (Sem.run Try.prog (Go.Builtin.append_ #[66, 66] 66 #[(.slice (q1) k2 k3), (.slice (some ⟨(w).heap.size, 0, none⟩) 1 1)]) (w.alloc (.cells #[(.int .u8 b)] 5)) = .ok (.slice (q4) k5 k6) w7) ∧
  (((w.alloc (.cells #[(.int .u8 b)] 5))).heap.size ≤ (w7).heap.size) ∧
  (((a.add 0).spot) = none) ∧
  (World.there w7 ((a.add 0).block) ((a.add 0).off) 1) ∧
  R (.returned (.tuple #[])) (w7.setCells ((a.add 0).block) ((a.add 0).off) [(.slice (q4) k5 k6)])) :
    Calls Try.prog 79 #[.pointer (some a), .int .u8 b] w R :=
  X.calls_of { isLoc := [], sym := [], loops := [], joins := [] } Try.func79 (by kernel_rfl) h
abbrev fn_WU : Nat := 54
theorem x_WU (a : Addr) (b : Int) (w : World) (R : Ending → World → Prop) (h :
  ∃ x1 : Int → World → List Nat → Prop, ∃ x2 : Int → World → Nat, (x1 b w []) ∧
  ∀ n3 : Int, ∀ w4 : World, ∀ L5 : List Nat, (X.LF (w).heap.size w4 L5) →
  (x1 n3 w4 L5) →
  if (decide (n3 ≥ 128)) = true then
   ∃ q13 : Option Addr, ∃ k14 : Nat, ∃ k15 : Nat, (World.cell? w4 (a.add 0) = some (.slice (q13) k14 k15)) ∧
   ∃ q16 : Option Addr, ∃ k17 : Nat, ∃ k18 : Nat, ∃ w19 : World, (Sem.run Try.prog (Go.Builtin.append_ #[66, 66] 66 #[(.slice (q13) k14 k15), (.slice (some ⟨(w4).heap.size, 0, none⟩) 1 1)]) (w4.alloc (.cells #[(.int .u8 (IntKind.wrap .u8 ((((BitVec.ofInt 8 (IntKind.u8.wrap n3) ||| BitVec.ofInt 8 128).toNat) : Nat) : Int)))] 5)) = .ok (.slice (q16) k17 k18) w19) ∧
   (((w4.alloc (.cells #[(.int .u8 (IntKind.wrap .u8 ((((BitVec.ofInt 8 (IntKind.u8.wrap n3) ||| BitVec.ofInt 8 128).toNat) : Nat) : Int)))] 5))).heap.size ≤ (w19).heap.size) ∧
   (((a.add 0).spot) = none) ∧
   (World.there w19 ((a.add 0).block) ((a.add 0).off) 1) ∧
   (x1 (n3.fdiv 128) (w19.setCells ((a.add 0).block) ((a.add 0).off) [(.slice (q16) k17 k18)]) []) ∧
   Nat.le ((x2 (n3.fdiv 128) (w19.setCells ((a.add 0).block) ((a.add 0).off) [(.slice (q16) k17 k18)])) + 1) (x2 n3 w4)
  else
   ∃ q6 : Option Addr, ∃ k7 : Nat, ∃ k8 : Nat, (World.cell? w4 (a.add 0) = some (.slice (q6) k7 k8)) ∧
   ∃ q9 : Option Addr, ∃ k10 : Nat, ∃ k11 : Nat, ∃ w12 : World, (Sem.run Try.prog (Go.Builtin.append_ #[66, 66] 66 #[(.slice (q6) k7 k8), (.slice (some ⟨(w4).heap.size, 0, none⟩) 1 1)]) (w4.alloc (.cells #[(.int .u8 (IntKind.wrap .u8 n3))] 5)) = .ok (.slice (q9) k10 k11) w12) ∧
   (((w4.alloc (.cells #[(.int .u8 (IntKind.wrap .u8 n3))] 5))).heap.size ≤ (w12).heap.size) ∧
   (((a.add 0).spot) = none) ∧
   (World.there w12 ((a.add 0).block) ((a.add 0).off) 1) ∧
   R (.returned (.tuple #[])) (w12.setCells ((a.add 0).block) ((a.add 0).off) [(.slice (q9) k10 k11)])) :
    Calls Try.prog 54 #[.pointer (some a), .int .u64 b] w R :=
  X.calls_of { isLoc := [], sym := [], loops := [(1, .inv [(1, .int .u64)] [] true)], joins := [] } Try.func54 (by kernel_rfl) h
abbrev fn_WText : Nat := 56
theorem x_WText (a : Addr) (b : ByteArray) (w : World) (R : Ending → World → Prop) (h :
  X.CallX Try.prog 54 #[(.pointer (some a)), (.int .u64 (IntKind.wrap .u64 (((b.size) : Nat) : Int)))] w fun e1 w2 =>
   (e1 = .returned (.tuple #[])) ∧
   ((w).heap.size ≤ (w2).heap.size) ∧
   ∃ q3 : Option Addr, ∃ k4 : Nat, ∃ k5 : Nat, (World.cell? w2 (a.add 0) = some (.slice (q3) k4 k5)) ∧
   ∃ q6 : Option Addr, ∃ k7 : Nat, ∃ k8 : Nat, ∃ w9 : World, (Sem.run Try.prog (Go.Builtin.append_ #[66, 9] 66 #[(.slice (q3) k4 k5), (.string b)]) w2 = .ok (.slice (q6) k7 k8) w9) ∧
   ((w2).heap.size ≤ (w9).heap.size) ∧
   (((a.add 0).spot) = none) ∧
   (World.there w9 ((a.add 0).block) ((a.add 0).off) 1) ∧
   R (.returned (.tuple #[])) (w9.setCells ((a.add 0).block) ((a.add 0).off) [(.slice (q6) k7 k8)])) :
    Calls Try.prog 56 #[.pointer (some a), .string b] w R :=
  X.calls_of { isLoc := [], sym := [], loops := [], joins := [] } Try.func56 (by kernel_rfl) h
abbrev fn_WBytes : Nat := 58
theorem x_WBytes (a : Addr) (w : World) (R : Ending → World → Prop) (h :
  ∃ q1 : Option Addr, ∃ k2 : Nat, ∃ k3 : Nat, (World.cell? w (a.add 0) = some (.slice (q1) k2 k3)) ∧
  ∃ q4 : Option Addr, ∃ k5 : Nat, ∃ k6 : Nat, ∃ w7 : World, (Sem.run Try.prog (Go.Builtin.append_ #[66, 66] 66 #[(.slice none 0 0), (.slice (q1) k2 k3)]) w = .ok (.slice (q4) k5 k6) w7) ∧
  ((w).heap.size ≤ (w7).heap.size) ∧
  R (.returned (.slice (q4) k5 k6)) w7) :
    Calls Try.prog 58 #[.pointer (some a)] w R :=
  X.calls_of { isLoc := [], sym := [], loops := [], joins := [] } Try.func58 (by kernel_rfl) h
abbrev fn_Wflag : Nat := 55
theorem x_Wflag (a : Addr) (b : Bool) (w : World) (R : Ending → World → Prop) (h :
  if b = true then
   X.CallX Try.prog 79 #[(.pointer (some (a.add 0))), (.int .u8 1)] w fun e3 w4 =>
    (e3 = .returned (.tuple #[])) ∧
    ((w).heap.size ≤ (w4).heap.size) ∧
    R (.returned (.tuple #[])) w4
  else
   X.CallX Try.prog 79 #[(.pointer (some (a.add 0))), (.int .u8 0)] w fun e1 w2 =>
    (e1 = .returned (.tuple #[])) ∧
    ((w).heap.size ≤ (w2).heap.size) ∧
    R (.returned (.tuple #[])) w2) :
    Calls Try.prog 55 #[.pointer (some a), .bool b] w R :=
  X.calls_of { isLoc := [], sym := [], loops := [], joins := [] } Try.func55 (by kernel_rfl) h
abbrev fn_Wround : Nat := 110
theorem x_Wround (a : Addr) (b_0 b_1 b_2 b_3 b_4 b_5 b_6 b_7 b_8 b_9 b_10 b_11 b_12 b_13 b_14 b_15 b_16 b_17 b_18 : Int) (b_19 : Option Addr) (b_19l b_19c : Nat) (b_20 : Int) (b_21 : ByteArray) (b_22 b_23 : Int) (b_24 : Option Addr) (b_24l b_24c : Nat) (b_25 b_26 : Int) (b_27 : Bool) (b_28 : Option Addr) (b_28l b_28c : Nat) (b_29 : Option Addr) (b_29l b_29c : Nat) (b_30 : Option Addr) (b_30l b_30c : Nat) (w : World) (R : Ending → World → Prop) (h :
  ∃ x1 : X.Facts, (X.FactsW x1 w []) ∧
  ∀ w2 : World, ∀ L3 : List Nat, (X.Hid [] w w2) →
  (X.NewL (w).heap.size [] w w2 L3) →
  X.CallX Try.prog 79 #[(.pointer (some (a.add 0))), (.int .u8 b_1)] w2 fun e4 w5 =>
   (e4 = .returned (.tuple #[])) ∧
   (X.Kept L3 w2 w5) ∧
   ∃ x6 : X.Facts, (X.FactsW x6 w5 (L3)) ∧
   ∀ w7 : World, ∀ L8 : List Nat, (X.Hid (L3) w5 w7) →
   (X.NewL (w).heap.size (L3) w5 w7 L8) →
   X.CallX Try.prog 54 #[(.pointer (some (a.add 0))), (.int .u64 (IntKind.wrap .u64 b_3))] w7 fun e9 w10 =>
    (e9 = .returned (.tuple #[])) ∧
    (X.Kept L8 w7 w10) ∧
    (X.FactsW x6 w10 (L8)) ∧
    ∃ x11 : X.Facts, (X.FactsW x11 w10 (L8)) ∧
    ∀ w12 : World, ∀ L13 : List Nat, (X.Hid (L8) w10 w12) →
    (X.NewL (w).heap.size (L8) w10 w12 L13) →
    X.CallX Try.prog 54 #[(.pointer (some (a.add 0))), (.int .u64 b_7)] w12 fun e14 w15 =>
     (e14 = .returned (.tuple #[])) ∧
     (X.Kept L13 w12 w15) ∧
     R (.returned (.tuple #[])) w15) :
    Calls Try.prog 110 #[.pointer (some a), .agg #[.int .u8 b_0, .int .u8 b_1, .int .u8 b_2, .int .u32 b_3, .int .u32 b_4, .int .u32 b_5, .int .u32 b_6, .int .u64 b_7, .int .u64 b_8, .int .u8 b_9, .int .u16 b_10, .int .u32 b_11, .int .u8 b_12, .int .u8 b_13, .int .u8 b_14, .int .u8 b_15, .int .u8 b_16, .int .u8 b_17, .int .u8 b_18, .slice b_19 b_19l b_19c, .int .u8 b_20, .string b_21, .int .u8 b_22, .int .u32 b_23, .slice b_24 b_24l b_24c, .int .u8 b_25, .int .u16 b_26, .bool b_27, .slice b_28 b_28l b_28c, .slice b_29 b_29l b_29c, .slice b_30 b_30l b_30c]] w R :=
  X.calls_of { isLoc := [3], sym := [], loops := [], joins := [] } Try.func110 (by kernel_rfl) h
abbrev fn_PutProc : Nat := 53
theorem x_PutProc (a : Addr) (b_0 b_1 : Int) (w : World) (R : Ending → World → Prop) (h :
  ∀ w1 : World, ∀ L2 : List Nat, (X.Hid [] w w1) →
  (X.NewL (w).heap.size [] w w1 L2) →
  X.CallX Try.prog 79 #[(.pointer (some a)), (.int .u8 b_0)] w1 fun e3 w4 =>
   (e3 = .returned (.tuple #[])) ∧
   (X.Kept L2 w1 w4) ∧
   X.CallX Try.prog 54 #[(.pointer (some a)), (.int .u64 (IntKind.wrap .u64 b_1))] w4 fun e5 w6 =>
    (e5 = .returned (.tuple #[])) ∧
    (X.Kept L2 w4 w6) ∧
    R (.returned (.tuple #[])) w6) :
    Calls Try.prog 53 #[.pointer (some a), .agg #[.int .u8 b_0, .int .u16 b_1]] w R :=
  X.calls_of { isLoc := [3], sym := [], loops := [], joins := [] } Try.func53 (by kernel_rfl) h
abbrev fn_Bytes : Nat := 26
theorem x_Bytes (a_0 a_1 a_2 a_3 a_4 a_5 a_6 a_7 a_8 a_9 a_10 a_11 a_12 a_13 a_14 a_15 a_16 a_17 a_18 : Int) (a_19 : Option Addr) (a_19l a_19c : Nat) (a_20 : Int) (a_21 : ByteArray) (a_22 a_23 : Int) (a_24 : Option Addr) (a_24l a_24c : Nat) (a_25 a_26 : Int) (a_27 : Bool) (a_28 : Option Addr) (a_28l a_28c : Nat) (a_29 : Option Addr) (a_29l a_29c : Nat) (a_30 : Option Addr) (a_30l a_30c : Nat) (w : World) (R : Ending → World → Prop) (h :
  ∀ w1 : World, ∀ L2 : List Nat, (X.Hid [] w w1) →
  (X.NewL (w).heap.size [] w w1 L2) →
  X.CallX Try.prog 10 #[(.agg #[(.int .u8 a_0), (.int .u8 a_1), (.int .u8 a_2), (.int .u32 a_3), (.int .u32 a_4), (.int .u32 a_5), (.int .u32 a_6), (.int .u64 a_7), (.int .u64 a_8), (.int .u8 a_9), (.int .u16 a_10), (.int .u32 a_11), (.int .u8 a_12), (.int .u8 a_13), (.int .u8 a_14), (.int .u8 a_15), (.int .u8 a_16), (.int .u8 a_17), (.int .u8 a_18), (.slice (a_19) a_19l a_19c), (.int .u8 a_20), (.string a_21), (.int .u8 a_22), (.int .u32 a_23), (.slice (a_24) a_24l a_24c), (.int .u8 a_25), (.int .u16 a_26), (.bool a_27), (.slice (a_28) a_28l a_28c), (.slice (a_29) a_29l a_29c), (.slice (a_30) a_30l a_30c)])] w1 fun e3 w4 =>
   ∃ b5 : Bool, (e3 = .returned (.bool b5)) ∧
   (X.Kept L2 w1 w4) ∧
   if (!b5) = true then
    R (.returned (.tuple #[(.slice none 0 0), (.int .i64 1)])) w4
   else
    ∃ x6 : X.Facts, (X.FactsW x6 (w4.alloc (.cells #[(.slice none 0 0)] 119)) (L2)) ∧
    ∀ w7 : World, ∀ L8 : List Nat, (X.Hid (L2) (w4.alloc (.cells #[(.slice none 0 0)] 119)) w7) →
    (X.NewL (w).heap.size (L2) (w4.alloc (.cells #[(.slice none 0 0)] 119)) w7 L8) →
    X.CallX Try.prog 79 #[(.pointer (some ⟨(w4).heap.size, 0, none⟩)), (.int .u8 a_0)] w7 fun e9 w10 =>
     (e9 = .returned (.tuple #[])) ∧
     (X.Kept L8 w7 w10) ∧
     X.CallX Try.prog 80 #[(.pointer (some ⟨(w4).heap.size, 0, none⟩)), (.agg #[(.int .u8 a_0), (.int .u8 a_1), (.int .u8 a_2), (.int .u32 a_3), (.int .u32 a_4), (.int .u32 a_5), (.int .u32 a_6), (.int .u64 a_7), (.int .u64 a_8), (.int .u8 a_9), (.int .u16 a_10), (.int .u32 a_11), (.int .u8 a_12), (.int .u8 a_13), (.int .u8 a_14), (.int .u8 a_15), (.int .u8 a_16), (.int .u8 a_17), (.int .u8 a_18), (.slice (a_19) a_19l a_19c), (.int .u8 a_20), (.string a_21), (.int .u8 a_22), (.int .u32 a_23), (.slice (a_24) a_24l a_24c), (.int .u8 a_25), (.int .u16 a_26), (.bool a_27), (.slice (a_28) a_28l a_28c), (.slice (a_29) a_29l a_29c), (.slice (a_30) a_30l a_30c)])] w10 fun e11 w12 =>
      (e11 = .returned (.tuple #[])) ∧
      (X.Kept L8 w10 w12) ∧
      X.CallX Try.prog 58 #[(.pointer (some ⟨(w4).heap.size, 0, none⟩))] w12 fun e13 w14 =>
       ∃ q15 : Option Addr, ∃ k16 : Nat, ∃ k17 : Nat, (e13 = .returned (.slice (q15) k16 k17)) ∧
       (X.Kept L8 w12 w14) ∧
       R (.returned (.tuple #[(.slice (q15) k16 k17), (.int .i64 0)])) w14) :
    Calls Try.prog 26 #[.agg #[.int .u8 a_0, .int .u8 a_1, .int .u8 a_2, .int .u32 a_3, .int .u32 a_4, .int .u32 a_5, .int .u32 a_6, .int .u64 a_7, .int .u64 a_8, .int .u8 a_9, .int .u16 a_10, .int .u32 a_11, .int .u8 a_12, .int .u8 a_13, .int .u8 a_14, .int .u8 a_15, .int .u8 a_16, .int .u8 a_17, .int .u8 a_18, .slice a_19 a_19l a_19c, .int .u8 a_20, .string a_21, .int .u8 a_22, .int .u32 a_23, .slice a_24 a_24l a_24c, .int .u8 a_25, .int .u16 a_26, .bool a_27, .slice a_28 a_28l a_28c, .slice a_29 a_29l a_29c, .slice a_30 a_30l a_30c]] w R :=
  X.calls_of { isLoc := [1], sym := [], loops := [], joins := [] } Try.func26 (by kernel_rfl) h
abbrev fn_knows : Nat := 8
theorem x_knows  (w : World) (R : Ending → World → Prop) (h :
  X.CallX Try.prog 26 #[(.agg #[(.int .u8 6), (.int .u8 1), (.int .u8 0), (.int .u32 2), (.int .u32 0), (.int .u32 0), (.int .u32 0), (.int .u64 300), (.int .u64 0), (.int .u8 0), (.int .u16 0), (.int .u32 0), (.int .u8 0), (.int .u8 0), (.int .u8 0), (.int .u8 0), (.int .u8 0), (.int .u8 0), (.int .u8 0), (.slice none 0 0), (.int .u8 0), (.string (ByteArray.mk #[])), (.int .u8 0), (.int .u32 0), (.slice none 0 0), (.int .u8 0), (.int .u16 0), (.bool false), (.slice none 0 0), (.slice none 0 0), (.slice none 0 0)])] w fun e1 w2 =>
   ∃ q3 : Option Addr, ∃ k4 : Nat, ∃ k5 : Nat, ∃ n6 : Int, (e1 = .returned (.tuple #[(.slice (q3) k4 k5), (.int .i64 n6)])) ∧
   ((w).heap.size ≤ (w2).heap.size) ∧
   X.CallX Try.prog 23 #[(.int .i64 n6)] w2 fun e7 w8 =>
    ∃ n9 : Int, (e7 = .returned (.int .i64 n9)) ∧
    ((w2).heap.size ≤ (w8).heap.size) ∧
    if ((n9 == 0) == true) = true then
     ∃ s10 : ByteArray, ∃ w11 : World, (Sem.run Try.prog (Go.convert 66 9 (.slice (q3) k4 k5)) w8 = .ok (.string s10) w11) ∧
     ((w8).heap.size ≤ (w11).heap.size) ∧
     if ((true && ((s10.toList) == ((ByteArray.mk #[OfNat.ofNat 6, OfNat.ofNat 1, OfNat.ofNat 2, OfNat.ofNat 172, OfNat.ofNat 2]).toList))) == true) = true then
      X.CallX Try.prog 14 #[(.int .u8 6)] w11 fun e12 w13 =>
       ∃ s14 : ByteArray, (e12 = .returned (.string s14)) ∧
       ((w11).heap.size ≤ (w13).heap.size) ∧
       R (.returned (.bool (true && ((s14.toList) == ((ByteArray.mk #[OfNat.ofNat 65, OfNat.ofNat 99, OfNat.ofNat 99, OfNat.ofNat 101, OfNat.ofNat 112, OfNat.ofNat 116]).toList))))) w13
     else
      R (.returned (.bool false)) w11
    else
     R (.returned (.bool false)) w8) :
    Calls Try.prog 8 #[] w R :=
  X.calls_of { isLoc := [], sym := [], loops := [], joins := [] } Try.func8 (by kernel_rfl) h
abbrev fn_num : Nat := 23
theorem x_num (a : Int) (w : World) (R : Ending → World → Prop) (h :
  R (.returned (.int .i64 a)) w) :
    Calls Try.prog 23 #[.int .i64 a] w R :=
  X.calls_of { isLoc := [], sym := [], loops := [], joins := [] } Try.func23 (by kernel_rfl) h
end Go.Proofs
/- The verification conditions of this seat's functions, as the engine has them: printed by a program of the bench; checked by the kernel. -/
namespace Go.Proofs
open Go
abbrev fn_Wmsg : Nat := 80
theorem x_Wmsg (a : Addr) (b_0 b_1 b_2 b_3 b_4 b_5 b_6 b_7 b_8 b_9 b_10 b_11 b_12 b_13 b_14 b_15 b_16 b_17 b_18 : Int) (b_19 : Option Addr) (b_19l b_19c : Nat) (b_20 : Int) (b_21 : ByteArray) (b_22 b_23 : Int) (b_24 : Option Addr) (b_24l b_24c : Nat) (b_25 b_26 : Int) (b_27 : Bool) (b_28 : Option Addr) (b_28l b_28c : Nat) (b_29 : Option Addr) (b_29l b_29c : Nat) (b_30 : Option Addr) (b_30l b_30c : Nat) (w : World) (R : Ending → World → Prop) (h :
  if (b_0 == 0) = true then
   ∃ x502 : X.Facts, (X.FactsW x502 w []) ∧
   ∀ w503 : World, ∀ L504 : List Nat, (X.Hid [] w w503) →
   (X.NewL (w).heap.size [] w w503 L504) →
   X.CallX Try.prog 79 #[(.pointer (some (a.add 0))), (.int .u8 b_1)] w503 fun e505 w506 =>
    (e505 = .returned (.tuple #[])) ∧
    (X.Kept L504 w503 w506) ∧
    ∃ x507 : X.Facts, (X.FactsW x507 w506 (L504)) ∧
    ∀ w508 : World, ∀ L509 : List Nat, (X.Hid (L504) w506 w508) →
    (X.NewL (w).heap.size (L504) w506 w508 L509) →
    X.CallX Try.prog 105 #[(.pointer (some (a.add 0))), (.agg #[(.int .u8 b_9), (.int .u16 b_10), (.int .u32 b_11), (.int .u8 b_12), (.int .u8 b_13), (.int .u8 b_14), (.int .u8 b_15), (.int .u8 b_16), (.int .u8 b_17), (.int .u8 b_18)])] w508 fun e510 w511 =>
     (e510 = .returned (.tuple #[])) ∧
     (X.Kept L509 w508 w511) ∧
     ∃ x512 : X.Facts, (X.FactsW x512 w511 (L509)) ∧
     ∀ w513 : World, ∀ L514 : List Nat, (X.Hid (L509) w511 w513) →
     (X.NewL (w).heap.size (L509) w511 w513 L514) →
     X.CallX Try.prog 54 #[(.pointer (some (a.add 0))), (.int .u64 (IntKind.wrap .u64 b_6))] w513 fun e515 w516 =>
      (e515 = .returned (.tuple #[])) ∧
      (X.Kept L514 w513 w516) ∧
      (X.FactsW x512 w516 (L514)) ∧
      ∃ x517 : X.Facts, (X.FactsW x517 w516 (L514)) ∧
      ∀ w518 : World, ∀ L519 : List Nat, (X.Hid (L514) w516 w518) →
      (X.NewL (w).heap.size (L514) w516 w518 L519) →
      X.CallX Try.prog 106 #[(.pointer (some (a.add 0))), (.slice (b_19) b_19l b_19c)] w518 fun e520 w521 =>
       (e520 = .returned (.tuple #[])) ∧
       (X.Kept L519 w518 w521) ∧
       R (.returned (.tuple #[])) w521
  else
   if (b_0 == 1) = true then
    ∃ x487 : X.Facts, (X.FactsW x487 w []) ∧
    ∀ w488 : World, ∀ L489 : List Nat, (X.Hid [] w w488) →
    (X.NewL (w).heap.size [] w w488 L489) →
    X.CallX Try.prog 105 #[(.pointer (some (a.add 0))), (.agg #[(.int .u8 b_9), (.int .u16 b_10), (.int .u32 b_11), (.int .u8 b_12), (.int .u8 b_13), (.int .u8 b_14), (.int .u8 b_15), (.int .u8 b_16), (.int .u8 b_17), (.int .u8 b_18)])] w488 fun e490 w491 =>
     (e490 = .returned (.tuple #[])) ∧
     (X.Kept L489 w488 w491) ∧
     ∃ x492 : X.Facts, (X.FactsW x492 w491 (L489)) ∧
     ∀ w493 : World, ∀ L494 : List Nat, (X.Hid (L489) w491 w493) →
     (X.NewL (w).heap.size (L489) w491 w493 L494) →
     X.CallX Try.prog 107 #[(.pointer (some (a.add 0))), (.agg #[(.int .u8 b_20), (.string b_21)])] w493 fun e495 w496 =>
      (e495 = .returned (.tuple #[])) ∧
      (X.Kept L494 w493 w496) ∧
      ∃ x497 : X.Facts, (X.FactsW x497 w496 (L494)) ∧
      ∀ w498 : World, ∀ L499 : List Nat, (X.Hid (L494) w496 w498) →
      (X.NewL (w).heap.size (L494) w496 w498 L499) →
      X.CallX Try.prog 108 #[(.pointer (some (a.add 0))), (.agg #[(.int .u8 b_22), (.int .u32 b_23), (.slice (b_24) b_24l b_24c)])] w498 fun e500 w501 =>
       (e500 = .returned (.tuple #[])) ∧
       (X.Kept L499 w498 w501) ∧
       R (.returned (.tuple #[])) w501
   else
    if (b_0 == 2) = true then
     ∃ x477 : X.Facts, (X.FactsW x477 w []) ∧
     ∀ w478 : World, ∀ L479 : List Nat, (X.Hid [] w w478) →
     (X.NewL (w).heap.size [] w w478 L479) →
     X.CallX Try.prog 105 #[(.pointer (some (a.add 0))), (.agg #[(.int .u8 b_9), (.int .u16 b_10), (.int .u32 b_11), (.int .u8 b_12), (.int .u8 b_13), (.int .u8 b_14), (.int .u8 b_15), (.int .u8 b_16), (.int .u8 b_17), (.int .u8 b_18)])] w478 fun e480 w481 =>
      (e480 = .returned (.tuple #[])) ∧
      (X.Kept L479 w478 w481) ∧
      ∃ x482 : X.Facts, (X.FactsW x482 w481 (L479)) ∧
      ∀ w483 : World, ∀ L484 : List Nat, (X.Hid (L479) w481 w483) →
      (X.NewL (w).heap.size (L479) w481 w483 L484) →
      X.CallX Try.prog 79 #[(.pointer (some (a.add 0))), (.int .u8 b_2)] w483 fun e485 w486 =>
       (e485 = .returned (.tuple #[])) ∧
       (X.Kept L484 w483 w486) ∧
       R (.returned (.tuple #[])) w486
    else
     if (b_0 == 3) = true then
      if (b_0 == 3) = true then
       ∃ x452 : X.Facts, (X.FactsW x452 w []) ∧
       ∀ w453 : World, ∀ L454 : List Nat, (X.Hid [] w w453) →
       (X.NewL (w).heap.size [] w w453 L454) →
       X.CallX Try.prog 79 #[(.pointer (some (a.add 0))), (.int .u8 b_1)] w453 fun e455 w456 =>
        (e455 = .returned (.tuple #[])) ∧
        (X.Kept L454 w453 w456) ∧
        ∃ x457 : X.Facts, (X.FactsW x457 w456 (L454)) ∧
        ∀ w458 : World, ∀ L459 : List Nat, (X.Hid (L454) w456 w458) →
        (X.NewL (w).heap.size (L454) w456 w458 L459) →
        X.CallX Try.prog 54 #[(.pointer (some (a.add 0))), (.int .u64 (IntKind.wrap .u64 b_3))] w458 fun e460 w461 =>
         (e460 = .returned (.tuple #[])) ∧
         (X.Kept L459 w458 w461) ∧
         (X.FactsW x457 w461 (L459)) ∧
         ∃ x462 : X.Facts, (X.FactsW x462 w461 (L459)) ∧
         ∀ w463 : World, ∀ L464 : List Nat, (X.Hid (L459) w461 w463) →
         (X.NewL (w).heap.size (L459) w461 w463 L464) →
         X.CallX Try.prog 54 #[(.pointer (some (a.add 0))), (.int .u64 (IntKind.wrap .u64 b_4))] w463 fun e465 w466 =>
          (e465 = .returned (.tuple #[])) ∧
          (X.Kept L464 w463 w466) ∧
          (X.FactsW x462 w466 (L464)) ∧
          if (b_0 == 3) = true then
           ∃ x467 : X.Facts, (X.FactsW x467 w466 (L464)) ∧
           ∀ w468 : World, ∀ L469 : List Nat, (X.Hid (L464) w466 w468) →
           (X.NewL (w).heap.size (L464) w466 w468 L469) →
           X.CallX Try.prog 54 #[(.pointer (some (a.add 0))), (.int .u64 (IntKind.wrap .u64 b_5))] w468 fun e470 w471 =>
            (e470 = .returned (.tuple #[])) ∧
            (X.Kept L469 w468 w471) ∧
            (X.FactsW x467 w471 (L469)) ∧
            ∃ x472 : X.Facts, (X.FactsW x472 w471 (L469)) ∧
            ∀ w473 : World, ∀ L474 : List Nat, (X.Hid (L469) w471 w473) →
            (X.NewL (w).heap.size (L469) w471 w473 L474) →
            X.CallX Try.prog 109 #[(.pointer (some (a.add 0))), (.slice (b_29) b_29l b_29c)] w473 fun e475 w476 =>
             (e475 = .returned (.tuple #[])) ∧
             (X.Kept L474 w473 w476) ∧
             R (.returned (.tuple #[])) w476
          else
           R (.returned (.tuple #[])) w466
      else
       if (b_0 == 5) = true then
        if (b_0 == 5) = true then
         ∀ w448 : World, ∀ L449 : List Nat, (X.Hid [] w w448) →
         (X.NewL (w).heap.size [] w w448 L449) →
         X.CallX Try.prog 110 #[(.pointer (some a)), (.agg #[(.int .u8 b_0), (.int .u8 b_1), (.int .u8 b_2), (.int .u32 b_3), (.int .u32 b_4), (.int .u32 b_5), (.int .u32 b_6), (.int .u64 b_7), (.int .u64 b_8), (.int .u8 b_9), (.int .u16 b_10), (.int .u32 b_11), (.int .u8 b_12), (.int .u8 b_13), (.int .u8 b_14), (.int .u8 b_15), (.int .u8 b_16), (.int .u8 b_17), (.int .u8 b_18), (.slice (b_19) b_19l b_19c), (.int .u8 b_20), (.string b_21), (.int .u8 b_22), (.int .u32 b_23), (.slice (b_24) b_24l b_24c), (.int .u8 b_25), (.int .u16 b_26), (.bool b_27), (.slice (b_28) b_28l b_28c), (.slice (b_29) b_29l b_29c), (.slice (b_30) b_30l b_30c)])] w448 fun e450 w451 =>
          (e450 = .returned (.tuple #[])) ∧
          (X.Kept L449 w448 w451) ∧
          R (.returned (.tuple #[])) w451
        else
         if (b_0 == 8) = true then
          ∀ w430 : World, ∀ L431 : List Nat, (X.Hid [] w w430) →
          (X.NewL (w).heap.size [] w w430 L431) →
          X.CallX Try.prog 110 #[(.pointer (some a)), (.agg #[(.int .u8 b_0), (.int .u8 b_1), (.int .u8 b_2), (.int .u32 b_3), (.int .u32 b_4), (.int .u32 b_5), (.int .u32 b_6), (.int .u64 b_7), (.int .u64 b_8), (.int .u8 b_9), (.int .u16 b_10), (.int .u32 b_11), (.int .u8 b_12), (.int .u8 b_13), (.int .u8 b_14), (.int .u8 b_15), (.int .u8 b_16), (.int .u8 b_17), (.int .u8 b_18), (.slice (b_19) b_19l b_19c), (.int .u8 b_20), (.string b_21), (.int .u8 b_22), (.int .u32 b_23), (.slice (b_24) b_24l b_24c), (.int .u8 b_25), (.int .u16 b_26), (.bool b_27), (.slice (b_28) b_28l b_28c), (.slice (b_29) b_29l b_29c), (.slice (b_30) b_30l b_30c)])] w430 fun e432 w433 =>
           (e432 = .returned (.tuple #[])) ∧
           (X.Kept L431 w430 w433) ∧
           ∃ x434 : X.Facts, (X.FactsW x434 w433 (L431)) ∧
           ∀ w435 : World, ∀ L436 : List Nat, (X.Hid (L431) w433 w435) →
           (X.NewL (w).heap.size (L431) w433 w435 L436) →
           X.CallX Try.prog 109 #[(.pointer (some (a.add 0))), (.slice (b_29) b_29l b_29c)] w435 fun e437 w438 =>
            (e437 = .returned (.tuple #[])) ∧
            (X.Kept L436 w435 w438) ∧
            X.CallX Try.prog 55 #[(.pointer (some a)), (.bool b_27)] w438 fun e439 w440 =>
             (e439 = .returned (.tuple #[])) ∧
             (X.Kept L436 w438 w440) ∧
             if b_27 = true then
              ∃ x441 : X.Facts, (X.FactsW x441 w440 (L436)) ∧
              ∀ w442 : World, ∀ L443 : List Nat, (X.Hid (L436) w440 w442) →
              (X.NewL (w).heap.size (L436) w440 w442 L443) →
              X.CallX Try.prog 54 #[(.pointer (some (a.add 0))), (.int .u64 b_8)] w442 fun e444 w445 =>
               (e444 = .returned (.tuple #[])) ∧
               (X.Kept L443 w442 w445) ∧
               X.CallX Try.prog 111 #[(.pointer (some a)), (.agg #[(.int .u8 b_0), (.int .u8 b_1), (.int .u8 b_2), (.int .u32 b_3), (.int .u32 b_4), (.int .u32 b_5), (.int .u32 b_6), (.int .u64 b_7), (.int .u64 b_8), (.int .u8 b_9), (.int .u16 b_10), (.int .u32 b_11), (.int .u8 b_12), (.int .u8 b_13), (.int .u8 b_14), (.int .u8 b_15), (.int .u8 b_16), (.int .u8 b_17), (.int .u8 b_18), (.slice (b_19) b_19l b_19c), (.int .u8 b_20), (.string b_21), (.int .u8 b_22), (.int .u32 b_23), (.slice (b_24) b_24l b_24c), (.int .u8 b_25), (.int .u16 b_26), (.bool b_27), (.slice (b_28) b_28l b_28c), (.slice (b_29) b_29l b_29c), (.slice (b_30) b_30l b_30c)])] w445 fun e446 w447 =>
                (e446 = .returned (.tuple #[])) ∧
                (X.Kept L443 w445 w447) ∧
                R (.returned (.tuple #[])) w447
             else
              R (.returned (.tuple #[])) w440
         else
          if (b_0 == 9) = true then
           ∀ w424 : World, ∀ L425 : List Nat, (X.Hid [] w w424) →
           (X.NewL (w).heap.size [] w w424 L425) →
           X.CallX Try.prog 110 #[(.pointer (some a)), (.agg #[(.int .u8 b_0), (.int .u8 b_1), (.int .u8 b_2), (.int .u32 b_3), (.int .u32 b_4), (.int .u32 b_5), (.int .u32 b_6), (.int .u64 b_7), (.int .u64 b_8), (.int .u8 b_9), (.int .u16 b_10), (.int .u32 b_11), (.int .u8 b_12), (.int .u8 b_13), (.int .u8 b_14), (.int .u8 b_15), (.int .u8 b_16), (.int .u8 b_17), (.int .u8 b_18), (.slice (b_19) b_19l b_19c), (.int .u8 b_20), (.string b_21), (.int .u8 b_22), (.int .u32 b_23), (.slice (b_24) b_24l b_24c), (.int .u8 b_25), (.int .u16 b_26), (.bool b_27), (.slice (b_28) b_28l b_28c), (.slice (b_29) b_29l b_29c), (.slice (b_30) b_30l b_30c)])] w424 fun e426 w427 =>
            (e426 = .returned (.tuple #[])) ∧
            (X.Kept L425 w424 w427) ∧
            X.CallX Try.prog 111 #[(.pointer (some a)), (.agg #[(.int .u8 b_0), (.int .u8 b_1), (.int .u8 b_2), (.int .u32 b_3), (.int .u32 b_4), (.int .u32 b_5), (.int .u32 b_6), (.int .u64 b_7), (.int .u64 b_8), (.int .u8 b_9), (.int .u16 b_10), (.int .u32 b_11), (.int .u8 b_12), (.int .u8 b_13), (.int .u8 b_14), (.int .u8 b_15), (.int .u8 b_16), (.int .u8 b_17), (.int .u8 b_18), (.slice (b_19) b_19l b_19c), (.int .u8 b_20), (.string b_21), (.int .u8 b_22), (.int .u32 b_23), (.slice (b_24) b_24l b_24c), (.int .u8 b_25), (.int .u16 b_26), (.bool b_27), (.slice (b_28) b_28l b_28c), (.slice (b_29) b_29l b_29c), (.slice (b_30) b_30l b_30c)])] w427 fun e428 w429 =>
             (e428 = .returned (.tuple #[])) ∧
             (X.Kept L425 w427 w429) ∧
             R (.returned (.tuple #[])) w429
          else
           if (b_0 == 10) = true then
            ∃ x414 : X.Facts, (X.FactsW x414 w []) ∧
            ∀ w415 : World, ∀ L416 : List Nat, (X.Hid [] w w415) →
            (X.NewL (w).heap.size [] w w415 L416) →
            X.CallX Try.prog 108 #[(.pointer (some (a.add 0))), (.agg #[(.int .u8 b_22), (.int .u32 b_23), (.slice (b_24) b_24l b_24c)])] w415 fun e417 w418 =>
             (e417 = .returned (.tuple #[])) ∧
             (X.Kept L416 w415 w418) ∧
             ∃ x419 : X.Facts, (X.FactsW x419 w418 (L416)) ∧
             ∀ w420 : World, ∀ L421 : List Nat, (X.Hid (L416) w418 w420) →
             (X.NewL (w).heap.size (L416) w418 w420 L421) →
             X.CallX Try.prog 109 #[(.pointer (some (a.add 0))), (.slice (b_29) b_29l b_29c)] w420 fun e422 w423 =>
              (e422 = .returned (.tuple #[])) ∧
              (X.Kept L421 w420 w423) ∧
              R (.returned (.tuple #[])) w423
           else
            if (b_0 == 11) = true then
             if (b_0 == 11) = true then
              ∃ x404 : X.Facts, (X.FactsW x404 w []) ∧
              ∀ w405 : World, ∀ L406 : List Nat, (X.Hid [] w w405) →
              (X.NewL (w).heap.size [] w w405 L406) →
              X.CallX Try.prog 79 #[(.pointer (some (a.add 0))), (.int .u8 b_1)] w405 fun e407 w408 =>
               (e407 = .returned (.tuple #[])) ∧
               (X.Kept L406 w405 w408) ∧
               ∃ x409 : X.Facts, (X.FactsW x409 w408 (L406)) ∧
               ∀ w410 : World, ∀ L411 : List Nat, (X.Hid (L406) w408 w410) →
               (X.NewL (w).heap.size (L406) w408 w410 L411) →
               X.CallX Try.prog 53 #[(.pointer (some (a.add 0))), (.agg #[(.int .u8 b_25), (.int .u16 b_26)])] w410 fun e412 w413 =>
                (e412 = .returned (.tuple #[])) ∧
                (X.Kept L411 w410 w413) ∧
                R (.returned (.tuple #[])) w413
             else
              ∀ w403 : World, (X.Hid [] w w403) →
              R (.returned (.tuple #[])) w403
            else
             if (b_0 == 12) = true then
              if (b_0 == 12) = true then
               ∃ x393 : X.Facts, (X.FactsW x393 w []) ∧
               ∀ w394 : World, ∀ L395 : List Nat, (X.Hid [] w w394) →
               (X.NewL (w).heap.size [] w w394 L395) →
               X.CallX Try.prog 79 #[(.pointer (some (a.add 0))), (.int .u8 b_1)] w394 fun e396 w397 =>
                (e396 = .returned (.tuple #[])) ∧
                (X.Kept L395 w394 w397) ∧
                ∃ x398 : X.Facts, (X.FactsW x398 w397 (L395)) ∧
                ∀ w399 : World, ∀ L400 : List Nat, (X.Hid (L395) w397 w399) →
                (X.NewL (w).heap.size (L395) w397 w399 L400) →
                X.CallX Try.prog 53 #[(.pointer (some (a.add 0))), (.agg #[(.int .u8 b_25), (.int .u16 b_26)])] w399 fun e401 w402 =>
                 (e401 = .returned (.tuple #[])) ∧
                 (X.Kept L400 w399 w402) ∧
                 R (.returned (.tuple #[])) w402
              else
               ∀ w392 : World, (X.Hid [] w w392) →
               R (.returned (.tuple #[])) w392
             else
              if (b_0 == 13) = true then
               ∃ x382 : X.Facts, (X.FactsW x382 w []) ∧
               ∀ w383 : World, ∀ L384 : List Nat, (X.Hid [] w w383) →
               (X.NewL (w).heap.size [] w w383 L384) →
               X.CallX Try.prog 79 #[(.pointer (some (a.add 0))), (.int .u8 b_1)] w383 fun e385 w386 =>
                (e385 = .returned (.tuple #[])) ∧
                (X.Kept L384 w383 w386) ∧
                ∃ x387 : X.Facts, (X.FactsW x387 w386 (L384)) ∧
                ∀ w388 : World, ∀ L389 : List Nat, (X.Hid (L384) w386 w388) →
                (X.NewL (w).heap.size (L384) w386 w388 L389) →
                X.CallX Try.prog 53 #[(.pointer (some (a.add 0))), (.agg #[(.int .u8 b_25), (.int .u16 b_26)])] w388 fun e390 w391 =>
                 (e390 = .returned (.tuple #[])) ∧
                 (X.Kept L389 w388 w391) ∧
                 R (.returned (.tuple #[])) w391
              else
               ∀ w381 : World, (X.Hid [] w w381) →
               R (.returned (.tuple #[])) w381
       else
        if (b_0 == 6) = true then
         if (b_0 == 6) = true then
          ∀ w377 : World, ∀ L378 : List Nat, (X.Hid [] w w377) →
          (X.NewL (w).heap.size [] w w377 L378) →
          X.CallX Try.prog 110 #[(.pointer (some a)), (.agg #[(.int .u8 b_0), (.int .u8 b_1), (.int .u8 b_2), (.int .u32 b_3), (.int .u32 b_4), (.int .u32 b_5), (.int .u32 b_6), (.int .u64 b_7), (.int .u64 b_8), (.int .u8 b_9), (.int .u16 b_10), (.int .u32 b_11), (.int .u8 b_12), (.int .u8 b_13), (.int .u8 b_14), (.int .u8 b_15), (.int .u8 b_16), (.int .u8 b_17), (.int .u8 b_18), (.slice (b_19) b_19l b_19c), (.int .u8 b_20), (.string b_21), (.int .u8 b_22), (.int .u32 b_23), (.slice (b_24) b_24l b_24c), (.int .u8 b_25), (.int .u16 b_26), (.bool b_27), (.slice (b_28) b_28l b_28c), (.slice (b_29) b_29l b_29c), (.slice (b_30) b_30l b_30c)])] w377 fun e379 w380 =>
           (e379 = .returned (.tuple #[])) ∧
           (X.Kept L378 w377 w380) ∧
           R (.returned (.tuple #[])) w380
         else
          if (b_0 == 8) = true then
           ∀ w359 : World, ∀ L360 : List Nat, (X.Hid [] w w359) →
           (X.NewL (w).heap.size [] w w359 L360) →
           X.CallX Try.prog 110 #[(.pointer (some a)), (.agg #[(.int .u8 b_0), (.int .u8 b_1), (.int .u8 b_2), (.int .u32 b_3), (.int .u32 b_4), (.int .u32 b_5), (.int .u32 b_6), (.int .u64 b_7), (.int .u64 b_8), (.int .u8 b_9), (.int .u16 b_10), (.int .u32 b_11), (.int .u8 b_12), (.int .u8 b_13), (.int .u8 b_14), (.int .u8 b_15), (.int .u8 b_16), (.int .u8 b_17), (.int .u8 b_18), (.slice (b_19) b_19l b_19c), (.int .u8 b_20), (.string b_21), (.int .u8 b_22), (.int .u32 b_23), (.slice (b_24) b_24l b_24c), (.int .u8 b_25), (.int .u16 b_26), (.bool b_27), (.slice (b_28) b_28l b_28c), (.slice (b_29) b_29l b_29c), (.slice (b_30) b_30l b_30c)])] w359 fun e361 w362 =>
            (e361 = .returned (.tuple #[])) ∧
            (X.Kept L360 w359 w362) ∧
            ∃ x363 : X.Facts, (X.FactsW x363 w362 (L360)) ∧
            ∀ w364 : World, ∀ L365 : List Nat, (X.Hid (L360) w362 w364) →
            (X.NewL (w).heap.size (L360) w362 w364 L365) →
            X.CallX Try.prog 109 #[(.pointer (some (a.add 0))), (.slice (b_29) b_29l b_29c)] w364 fun e366 w367 =>
             (e366 = .returned (.tuple #[])) ∧
             (X.Kept L365 w364 w367) ∧
             X.CallX Try.prog 55 #[(.pointer (some a)), (.bool b_27)] w367 fun e368 w369 =>
              (e368 = .returned (.tuple #[])) ∧
              (X.Kept L365 w367 w369) ∧
              if b_27 = true then
               ∃ x370 : X.Facts, (X.FactsW x370 w369 (L365)) ∧
               ∀ w371 : World, ∀ L372 : List Nat, (X.Hid (L365) w369 w371) →
               (X.NewL (w).heap.size (L365) w369 w371 L372) →
               X.CallX Try.prog 54 #[(.pointer (some (a.add 0))), (.int .u64 b_8)] w371 fun e373 w374 =>
                (e373 = .returned (.tuple #[])) ∧
                (X.Kept L372 w371 w374) ∧
                X.CallX Try.prog 111 #[(.pointer (some a)), (.agg #[(.int .u8 b_0), (.int .u8 b_1), (.int .u8 b_2), (.int .u32 b_3), (.int .u32 b_4), (.int .u32 b_5), (.int .u32 b_6), (.int .u64 b_7), (.int .u64 b_8), (.int .u8 b_9), (.int .u16 b_10), (.int .u32 b_11), (.int .u8 b_12), (.int .u8 b_13), (.int .u8 b_14), (.int .u8 b_15), (.int .u8 b_16), (.int .u8 b_17), (.int .u8 b_18), (.slice (b_19) b_19l b_19c), (.int .u8 b_20), (.string b_21), (.int .u8 b_22), (.int .u32 b_23), (.slice (b_24) b_24l b_24c), (.int .u8 b_25), (.int .u16 b_26), (.bool b_27), (.slice (b_28) b_28l b_28c), (.slice (b_29) b_29l b_29c), (.slice (b_30) b_30l b_30c)])] w374 fun e375 w376 =>
                 (e375 = .returned (.tuple #[])) ∧
                 (X.Kept L372 w374 w376) ∧
                 R (.returned (.tuple #[])) w376
              else
               R (.returned (.tuple #[])) w369
          else
           if (b_0 == 9) = true then
            ∀ w353 : World, ∀ L354 : List Nat, (X.Hid [] w w353) →
            (X.NewL (w).heap.size [] w w353 L354) →
            X.CallX Try.prog 110 #[(.pointer (some a)), (.agg #[(.int .u8 b_0), (.int .u8 b_1), (.int .u8 b_2), (.int .u32 b_3), (.int .u32 b_4), (.int .u32 b_5), (.int .u32 b_6), (.int .u64 b_7), (.int .u64 b_8), (.int .u8 b_9), (.int .u16 b_10), (.int .u32 b_11), (.int .u8 b_12), (.int .u8 b_13), (.int .u8 b_14), (.int .u8 b_15), (.int .u8 b_16), (.int .u8 b_17), (.int .u8 b_18), (.slice (b_19) b_19l b_19c), (.int .u8 b_20), (.string b_21), (.int .u8 b_22), (.int .u32 b_23), (.slice (b_24) b_24l b_24c), (.int .u8 b_25), (.int .u16 b_26), (.bool b_27), (.slice (b_28) b_28l b_28c), (.slice (b_29) b_29l b_29c), (.slice (b_30) b_30l b_30c)])] w353 fun e355 w356 =>
             (e355 = .returned (.tuple #[])) ∧
             (X.Kept L354 w353 w356) ∧
             X.CallX Try.prog 111 #[(.pointer (some a)), (.agg #[(.int .u8 b_0), (.int .u8 b_1), (.int .u8 b_2), (.int .u32 b_3), (.int .u32 b_4), (.int .u32 b_5), (.int .u32 b_6), (.int .u64 b_7), (.int .u64 b_8), (.int .u8 b_9), (.int .u16 b_10), (.int .u32 b_11), (.int .u8 b_12), (.int .u8 b_13), (.int .u8 b_14), (.int .u8 b_15), (.int .u8 b_16), (.int .u8 b_17), (.int .u8 b_18), (.slice (b_19) b_19l b_19c), (.int .u8 b_20), (.string b_21), (.int .u8 b_22), (.int .u32 b_23), (.slice (b_24) b_24l b_24c), (.int .u8 b_25), (.int .u16 b_26), (.bool b_27), (.slice (b_28) b_28l b_28c), (.slice (b_29) b_29l b_29c), (.slice (b_30) b_30l b_30c)])] w356 fun e357 w358 =>
              (e357 = .returned (.tuple #[])) ∧
              (X.Kept L354 w356 w358) ∧
              R (.returned (.tuple #[])) w358
           else
            if (b_0 == 10) = true then
             ∃ x343 : X.Facts, (X.FactsW x343 w []) ∧
             ∀ w344 : World, ∀ L345 : List Nat, (X.Hid [] w w344) →
             (X.NewL (w).heap.size [] w w344 L345) →
             X.CallX Try.prog 108 #[(.pointer (some (a.add 0))), (.agg #[(.int .u8 b_22), (.int .u32 b_23), (.slice (b_24) b_24l b_24c)])] w344 fun e346 w347 =>
              (e346 = .returned (.tuple #[])) ∧
              (X.Kept L345 w344 w347) ∧
              ∃ x348 : X.Facts, (X.FactsW x348 w347 (L345)) ∧
              ∀ w349 : World, ∀ L350 : List Nat, (X.Hid (L345) w347 w349) →
              (X.NewL (w).heap.size (L345) w347 w349 L350) →
              X.CallX Try.prog 109 #[(.pointer (some (a.add 0))), (.slice (b_29) b_29l b_29c)] w349 fun e351 w352 =>
               (e351 = .returned (.tuple #[])) ∧
               (X.Kept L350 w349 w352) ∧
               R (.returned (.tuple #[])) w352
            else
             if (b_0 == 11) = true then
              if (b_0 == 11) = true then
               ∃ x333 : X.Facts, (X.FactsW x333 w []) ∧
               ∀ w334 : World, ∀ L335 : List Nat, (X.Hid [] w w334) →
               (X.NewL (w).heap.size [] w w334 L335) →
               X.CallX Try.prog 79 #[(.pointer (some (a.add 0))), (.int .u8 b_1)] w334 fun e336 w337 =>
                (e336 = .returned (.tuple #[])) ∧
                (X.Kept L335 w334 w337) ∧
                ∃ x338 : X.Facts, (X.FactsW x338 w337 (L335)) ∧
                ∀ w339 : World, ∀ L340 : List Nat, (X.Hid (L335) w337 w339) →
                (X.NewL (w).heap.size (L335) w337 w339 L340) →
                X.CallX Try.prog 53 #[(.pointer (some (a.add 0))), (.agg #[(.int .u8 b_25), (.int .u16 b_26)])] w339 fun e341 w342 =>
                 (e341 = .returned (.tuple #[])) ∧
                 (X.Kept L340 w339 w342) ∧
                 R (.returned (.tuple #[])) w342
              else
               ∀ w332 : World, (X.Hid [] w w332) →
               R (.returned (.tuple #[])) w332
             else
              if (b_0 == 12) = true then
               if (b_0 == 12) = true then
                ∃ x322 : X.Facts, (X.FactsW x322 w []) ∧
                ∀ w323 : World, ∀ L324 : List Nat, (X.Hid [] w w323) →
                (X.NewL (w).heap.size [] w w323 L324) →
                X.CallX Try.prog 79 #[(.pointer (some (a.add 0))), (.int .u8 b_1)] w323 fun e325 w326 =>
                 (e325 = .returned (.tuple #[])) ∧
                 (X.Kept L324 w323 w326) ∧
                 ∃ x327 : X.Facts, (X.FactsW x327 w326 (L324)) ∧
                 ∀ w328 : World, ∀ L329 : List Nat, (X.Hid (L324) w326 w328) →
                 (X.NewL (w).heap.size (L324) w326 w328 L329) →
                 X.CallX Try.prog 53 #[(.pointer (some (a.add 0))), (.agg #[(.int .u8 b_25), (.int .u16 b_26)])] w328 fun e330 w331 =>
                  (e330 = .returned (.tuple #[])) ∧
                  (X.Kept L329 w328 w331) ∧
                  R (.returned (.tuple #[])) w331
               else
                ∀ w321 : World, (X.Hid [] w w321) →
                R (.returned (.tuple #[])) w321
              else
               if (b_0 == 13) = true then
                ∃ x311 : X.Facts, (X.FactsW x311 w []) ∧
                ∀ w312 : World, ∀ L313 : List Nat, (X.Hid [] w w312) →
                (X.NewL (w).heap.size [] w w312 L313) →
                X.CallX Try.prog 79 #[(.pointer (some (a.add 0))), (.int .u8 b_1)] w312 fun e314 w315 =>
                 (e314 = .returned (.tuple #[])) ∧
                 (X.Kept L313 w312 w315) ∧
                 ∃ x316 : X.Facts, (X.FactsW x316 w315 (L313)) ∧
                 ∀ w317 : World, ∀ L318 : List Nat, (X.Hid (L313) w315 w317) →
                 (X.NewL (w).heap.size (L313) w315 w317 L318) →
                 X.CallX Try.prog 53 #[(.pointer (some (a.add 0))), (.agg #[(.int .u8 b_25), (.int .u16 b_26)])] w317 fun e319 w320 =>
                  (e319 = .returned (.tuple #[])) ∧
                  (X.Kept L318 w317 w320) ∧
                  R (.returned (.tuple #[])) w320
               else
                ∀ w310 : World, (X.Hid [] w w310) →
                R (.returned (.tuple #[])) w310
        else
         if (b_0 == 7) = true then
          ∀ w306 : World, ∀ L307 : List Nat, (X.Hid [] w w306) →
          (X.NewL (w).heap.size [] w w306 L307) →
          X.CallX Try.prog 110 #[(.pointer (some a)), (.agg #[(.int .u8 b_0), (.int .u8 b_1), (.int .u8 b_2), (.int .u32 b_3), (.int .u32 b_4), (.int .u32 b_5), (.int .u32 b_6), (.int .u64 b_7), (.int .u64 b_8), (.int .u8 b_9), (.int .u16 b_10), (.int .u32 b_11), (.int .u8 b_12), (.int .u8 b_13), (.int .u8 b_14), (.int .u8 b_15), (.int .u8 b_16), (.int .u8 b_17), (.int .u8 b_18), (.slice (b_19) b_19l b_19c), (.int .u8 b_20), (.string b_21), (.int .u8 b_22), (.int .u32 b_23), (.slice (b_24) b_24l b_24c), (.int .u8 b_25), (.int .u16 b_26), (.bool b_27), (.slice (b_28) b_28l b_28c), (.slice (b_29) b_29l b_29c), (.slice (b_30) b_30l b_30c)])] w306 fun e308 w309 =>
           (e308 = .returned (.tuple #[])) ∧
           (X.Kept L307 w306 w309) ∧
           R (.returned (.tuple #[])) w309
         else
          if (b_0 == 8) = true then
           ∀ w288 : World, ∀ L289 : List Nat, (X.Hid [] w w288) →
           (X.NewL (w).heap.size [] w w288 L289) →
           X.CallX Try.prog 110 #[(.pointer (some a)), (.agg #[(.int .u8 b_0), (.int .u8 b_1), (.int .u8 b_2), (.int .u32 b_3), (.int .u32 b_4), (.int .u32 b_5), (.int .u32 b_6), (.int .u64 b_7), (.int .u64 b_8), (.int .u8 b_9), (.int .u16 b_10), (.int .u32 b_11), (.int .u8 b_12), (.int .u8 b_13), (.int .u8 b_14), (.int .u8 b_15), (.int .u8 b_16), (.int .u8 b_17), (.int .u8 b_18), (.slice (b_19) b_19l b_19c), (.int .u8 b_20), (.string b_21), (.int .u8 b_22), (.int .u32 b_23), (.slice (b_24) b_24l b_24c), (.int .u8 b_25), (.int .u16 b_26), (.bool b_27), (.slice (b_28) b_28l b_28c), (.slice (b_29) b_29l b_29c), (.slice (b_30) b_30l b_30c)])] w288 fun e290 w291 =>
            (e290 = .returned (.tuple #[])) ∧
            (X.Kept L289 w288 w291) ∧
            ∃ x292 : X.Facts, (X.FactsW x292 w291 (L289)) ∧
            ∀ w293 : World, ∀ L294 : List Nat, (X.Hid (L289) w291 w293) →
            (X.NewL (w).heap.size (L289) w291 w293 L294) →
            X.CallX Try.prog 109 #[(.pointer (some (a.add 0))), (.slice (b_29) b_29l b_29c)] w293 fun e295 w296 =>
             (e295 = .returned (.tuple #[])) ∧
             (X.Kept L294 w293 w296) ∧
             X.CallX Try.prog 55 #[(.pointer (some a)), (.bool b_27)] w296 fun e297 w298 =>
              (e297 = .returned (.tuple #[])) ∧
              (X.Kept L294 w296 w298) ∧
              if b_27 = true then
               ∃ x299 : X.Facts, (X.FactsW x299 w298 (L294)) ∧
               ∀ w300 : World, ∀ L301 : List Nat, (X.Hid (L294) w298 w300) →
               (X.NewL (w).heap.size (L294) w298 w300 L301) →
               X.CallX Try.prog 54 #[(.pointer (some (a.add 0))), (.int .u64 b_8)] w300 fun e302 w303 =>
                (e302 = .returned (.tuple #[])) ∧
                (X.Kept L301 w300 w303) ∧
                X.CallX Try.prog 111 #[(.pointer (some a)), (.agg #[(.int .u8 b_0), (.int .u8 b_1), (.int .u8 b_2), (.int .u32 b_3), (.int .u32 b_4), (.int .u32 b_5), (.int .u32 b_6), (.int .u64 b_7), (.int .u64 b_8), (.int .u8 b_9), (.int .u16 b_10), (.int .u32 b_11), (.int .u8 b_12), (.int .u8 b_13), (.int .u8 b_14), (.int .u8 b_15), (.int .u8 b_16), (.int .u8 b_17), (.int .u8 b_18), (.slice (b_19) b_19l b_19c), (.int .u8 b_20), (.string b_21), (.int .u8 b_22), (.int .u32 b_23), (.slice (b_24) b_24l b_24c), (.int .u8 b_25), (.int .u16 b_26), (.bool b_27), (.slice (b_28) b_28l b_28c), (.slice (b_29) b_29l b_29c), (.slice (b_30) b_30l b_30c)])] w303 fun e304 w305 =>
                 (e304 = .returned (.tuple #[])) ∧
                 (X.Kept L301 w303 w305) ∧
                 R (.returned (.tuple #[])) w305
              else
               R (.returned (.tuple #[])) w298
          else
           if (b_0 == 9) = true then
            ∀ w282 : World, ∀ L283 : List Nat, (X.Hid [] w w282) →
            (X.NewL (w).heap.size [] w w282 L283) →
            X.CallX Try.prog 110 #[(.pointer (some a)), (.agg #[(.int .u8 b_0), (.int .u8 b_1), (.int .u8 b_2), (.int .u32 b_3), (.int .u32 b_4), (.int .u32 b_5), (.int .u32 b_6), (.int .u64 b_7), (.int .u64 b_8), (.int .u8 b_9), (.int .u16 b_10), (.int .u32 b_11), (.int .u8 b_12), (.int .u8 b_13), (.int .u8 b_14), (.int .u8 b_15), (.int .u8 b_16), (.int .u8 b_17), (.int .u8 b_18), (.slice (b_19) b_19l b_19c), (.int .u8 b_20), (.string b_21), (.int .u8 b_22), (.int .u32 b_23), (.slice (b_24) b_24l b_24c), (.int .u8 b_25), (.int .u16 b_26), (.bool b_27), (.slice (b_28) b_28l b_28c), (.slice (b_29) b_29l b_29c), (.slice (b_30) b_30l b_30c)])] w282 fun e284 w285 =>
             (e284 = .returned (.tuple #[])) ∧
             (X.Kept L283 w282 w285) ∧
             X.CallX Try.prog 111 #[(.pointer (some a)), (.agg #[(.int .u8 b_0), (.int .u8 b_1), (.int .u8 b_2), (.int .u32 b_3), (.int .u32 b_4), (.int .u32 b_5), (.int .u32 b_6), (.int .u64 b_7), (.int .u64 b_8), (.int .u8 b_9), (.int .u16 b_10), (.int .u32 b_11), (.int .u8 b_12), (.int .u8 b_13), (.int .u8 b_14), (.int .u8 b_15), (.int .u8 b_16), (.int .u8 b_17), (.int .u8 b_18), (.slice (b_19) b_19l b_19c), (.int .u8 b_20), (.string b_21), (.int .u8 b_22), (.int .u32 b_23), (.slice (b_24) b_24l b_24c), (.int .u8 b_25), (.int .u16 b_26), (.bool b_27), (.slice (b_28) b_28l b_28c), (.slice (b_29) b_29l b_29c), (.slice (b_30) b_30l b_30c)])] w285 fun e286 w287 =>
              (e286 = .returned (.tuple #[])) ∧
              (X.Kept L283 w285 w287) ∧
              R (.returned (.tuple #[])) w287
           else
            if (b_0 == 10) = true then
             ∃ x272 : X.Facts, (X.FactsW x272 w []) ∧
             ∀ w273 : World, ∀ L274 : List Nat, (X.Hid [] w w273) →
             (X.NewL (w).heap.size [] w w273 L274) →
             X.CallX Try.prog 108 #[(.pointer (some (a.add 0))), (.agg #[(.int .u8 b_22), (.int .u32 b_23), (.slice (b_24) b_24l b_24c)])] w273 fun e275 w276 =>
              (e275 = .returned (.tuple #[])) ∧
              (X.Kept L274 w273 w276) ∧
              ∃ x277 : X.Facts, (X.FactsW x277 w276 (L274)) ∧
              ∀ w278 : World, ∀ L279 : List Nat, (X.Hid (L274) w276 w278) →
              (X.NewL (w).heap.size (L274) w276 w278 L279) →
              X.CallX Try.prog 109 #[(.pointer (some (a.add 0))), (.slice (b_29) b_29l b_29c)] w278 fun e280 w281 =>
               (e280 = .returned (.tuple #[])) ∧
               (X.Kept L279 w278 w281) ∧
               R (.returned (.tuple #[])) w281
            else
             if (b_0 == 11) = true then
              if (b_0 == 11) = true then
               ∃ x262 : X.Facts, (X.FactsW x262 w []) ∧
               ∀ w263 : World, ∀ L264 : List Nat, (X.Hid [] w w263) →
               (X.NewL (w).heap.size [] w w263 L264) →
               X.CallX Try.prog 79 #[(.pointer (some (a.add 0))), (.int .u8 b_1)] w263 fun e265 w266 =>
                (e265 = .returned (.tuple #[])) ∧
                (X.Kept L264 w263 w266) ∧
                ∃ x267 : X.Facts, (X.FactsW x267 w266 (L264)) ∧
                ∀ w268 : World, ∀ L269 : List Nat, (X.Hid (L264) w266 w268) →
                (X.NewL (w).heap.size (L264) w266 w268 L269) →
                X.CallX Try.prog 53 #[(.pointer (some (a.add 0))), (.agg #[(.int .u8 b_25), (.int .u16 b_26)])] w268 fun e270 w271 =>
                 (e270 = .returned (.tuple #[])) ∧
                 (X.Kept L269 w268 w271) ∧
                 R (.returned (.tuple #[])) w271
              else
               ∀ w261 : World, (X.Hid [] w w261) →
               R (.returned (.tuple #[])) w261
             else
              if (b_0 == 12) = true then
               if (b_0 == 12) = true then
                ∃ x251 : X.Facts, (X.FactsW x251 w []) ∧
                ∀ w252 : World, ∀ L253 : List Nat, (X.Hid [] w w252) →
                (X.NewL (w).heap.size [] w w252 L253) →
                X.CallX Try.prog 79 #[(.pointer (some (a.add 0))), (.int .u8 b_1)] w252 fun e254 w255 =>
                 (e254 = .returned (.tuple #[])) ∧
                 (X.Kept L253 w252 w255) ∧
                 ∃ x256 : X.Facts, (X.FactsW x256 w255 (L253)) ∧
                 ∀ w257 : World, ∀ L258 : List Nat, (X.Hid (L253) w255 w257) →
                 (X.NewL (w).heap.size (L253) w255 w257 L258) →
                 X.CallX Try.prog 53 #[(.pointer (some (a.add 0))), (.agg #[(.int .u8 b_25), (.int .u16 b_26)])] w257 fun e259 w260 =>
                  (e259 = .returned (.tuple #[])) ∧
                  (X.Kept L258 w257 w260) ∧
                  R (.returned (.tuple #[])) w260
               else
                ∀ w250 : World, (X.Hid [] w w250) →
                R (.returned (.tuple #[])) w250
              else
               if (b_0 == 13) = true then
                ∃ x240 : X.Facts, (X.FactsW x240 w []) ∧
                ∀ w241 : World, ∀ L242 : List Nat, (X.Hid [] w w241) →
                (X.NewL (w).heap.size [] w w241 L242) →
                X.CallX Try.prog 79 #[(.pointer (some (a.add 0))), (.int .u8 b_1)] w241 fun e243 w244 =>
                 (e243 = .returned (.tuple #[])) ∧
                 (X.Kept L242 w241 w244) ∧
                 ∃ x245 : X.Facts, (X.FactsW x245 w244 (L242)) ∧
                 ∀ w246 : World, ∀ L247 : List Nat, (X.Hid (L242) w244 w246) →
                 (X.NewL (w).heap.size (L242) w244 w246 L247) →
                 X.CallX Try.prog 53 #[(.pointer (some (a.add 0))), (.agg #[(.int .u8 b_25), (.int .u16 b_26)])] w246 fun e248 w249 =>
                  (e248 = .returned (.tuple #[])) ∧
                  (X.Kept L247 w246 w249) ∧
                  R (.returned (.tuple #[])) w249
               else
                ∀ w239 : World, (X.Hid [] w w239) →
                R (.returned (.tuple #[])) w239
     else
      if (b_0 == 4) = true then
       ∃ x214 : X.Facts, (X.FactsW x214 w []) ∧
       ∀ w215 : World, ∀ L216 : List Nat, (X.Hid [] w w215) →
       (X.NewL (w).heap.size [] w w215 L216) →
       X.CallX Try.prog 79 #[(.pointer (some (a.add 0))), (.int .u8 b_1)] w215 fun e217 w218 =>
        (e217 = .returned (.tuple #[])) ∧
        (X.Kept L216 w215 w218) ∧
        ∃ x219 : X.Facts, (X.FactsW x219 w218 (L216)) ∧
        ∀ w220 : World, ∀ L221 : List Nat, (X.Hid (L216) w218 w220) →
        (X.NewL (w).heap.size (L216) w218 w220 L221) →
        X.CallX Try.prog 54 #[(.pointer (some (a.add 0))), (.int .u64 (IntKind.wrap .u64 b_3))] w220 fun e222 w223 =>
         (e222 = .returned (.tuple #[])) ∧
         (X.Kept L221 w220 w223) ∧
         (X.FactsW x219 w223 (L221)) ∧
         ∃ x224 : X.Facts, (X.FactsW x224 w223 (L221)) ∧
         ∀ w225 : World, ∀ L226 : List Nat, (X.Hid (L221) w223 w225) →
         (X.NewL (w).heap.size (L221) w223 w225 L226) →
         X.CallX Try.prog 54 #[(.pointer (some (a.add 0))), (.int .u64 (IntKind.wrap .u64 b_4))] w225 fun e227 w228 =>
          (e227 = .returned (.tuple #[])) ∧
          (X.Kept L226 w225 w228) ∧
          (X.FactsW x224 w228 (L226)) ∧
          if (b_0 == 3) = true then
           ∃ x229 : X.Facts, (X.FactsW x229 w228 (L226)) ∧
           ∀ w230 : World, ∀ L231 : List Nat, (X.Hid (L226) w228 w230) →
           (X.NewL (w).heap.size (L226) w228 w230 L231) →
           X.CallX Try.prog 54 #[(.pointer (some (a.add 0))), (.int .u64 (IntKind.wrap .u64 b_5))] w230 fun e232 w233 =>
            (e232 = .returned (.tuple #[])) ∧
            (X.Kept L231 w230 w233) ∧
            (X.FactsW x229 w233 (L231)) ∧
            ∃ x234 : X.Facts, (X.FactsW x234 w233 (L231)) ∧
            ∀ w235 : World, ∀ L236 : List Nat, (X.Hid (L231) w233 w235) →
            (X.NewL (w).heap.size (L231) w233 w235 L236) →
            X.CallX Try.prog 109 #[(.pointer (some (a.add 0))), (.slice (b_29) b_29l b_29c)] w235 fun e237 w238 =>
             (e237 = .returned (.tuple #[])) ∧
             (X.Kept L236 w235 w238) ∧
             R (.returned (.tuple #[])) w238
          else
           R (.returned (.tuple #[])) w228
      else
       if (b_0 == 5) = true then
        if (b_0 == 5) = true then
         ∀ w210 : World, ∀ L211 : List Nat, (X.Hid [] w w210) →
         (X.NewL (w).heap.size [] w w210 L211) →
         X.CallX Try.prog 110 #[(.pointer (some a)), (.agg #[(.int .u8 b_0), (.int .u8 b_1), (.int .u8 b_2), (.int .u32 b_3), (.int .u32 b_4), (.int .u32 b_5), (.int .u32 b_6), (.int .u64 b_7), (.int .u64 b_8), (.int .u8 b_9), (.int .u16 b_10), (.int .u32 b_11), (.int .u8 b_12), (.int .u8 b_13), (.int .u8 b_14), (.int .u8 b_15), (.int .u8 b_16), (.int .u8 b_17), (.int .u8 b_18), (.slice (b_19) b_19l b_19c), (.int .u8 b_20), (.string b_21), (.int .u8 b_22), (.int .u32 b_23), (.slice (b_24) b_24l b_24c), (.int .u8 b_25), (.int .u16 b_26), (.bool b_27), (.slice (b_28) b_28l b_28c), (.slice (b_29) b_29l b_29c), (.slice (b_30) b_30l b_30c)])] w210 fun e212 w213 =>
          (e212 = .returned (.tuple #[])) ∧
          (X.Kept L211 w210 w213) ∧
          R (.returned (.tuple #[])) w213
        else
         if (b_0 == 8) = true then
          ∀ w192 : World, ∀ L193 : List Nat, (X.Hid [] w w192) →
          (X.NewL (w).heap.size [] w w192 L193) →
          X.CallX Try.prog 110 #[(.pointer (some a)), (.agg #[(.int .u8 b_0), (.int .u8 b_1), (.int .u8 b_2), (.int .u32 b_3), (.int .u32 b_4), (.int .u32 b_5), (.int .u32 b_6), (.int .u64 b_7), (.int .u64 b_8), (.int .u8 b_9), (.int .u16 b_10), (.int .u32 b_11), (.int .u8 b_12), (.int .u8 b_13), (.int .u8 b_14), (.int .u8 b_15), (.int .u8 b_16), (.int .u8 b_17), (.int .u8 b_18), (.slice (b_19) b_19l b_19c), (.int .u8 b_20), (.string b_21), (.int .u8 b_22), (.int .u32 b_23), (.slice (b_24) b_24l b_24c), (.int .u8 b_25), (.int .u16 b_26), (.bool b_27), (.slice (b_28) b_28l b_28c), (.slice (b_29) b_29l b_29c), (.slice (b_30) b_30l b_30c)])] w192 fun e194 w195 =>
           (e194 = .returned (.tuple #[])) ∧
           (X.Kept L193 w192 w195) ∧
           ∃ x196 : X.Facts, (X.FactsW x196 w195 (L193)) ∧
           ∀ w197 : World, ∀ L198 : List Nat, (X.Hid (L193) w195 w197) →
           (X.NewL (w).heap.size (L193) w195 w197 L198) →
           X.CallX Try.prog 109 #[(.pointer (some (a.add 0))), (.slice (b_29) b_29l b_29c)] w197 fun e199 w200 =>
            (e199 = .returned (.tuple #[])) ∧
            (X.Kept L198 w197 w200) ∧
            X.CallX Try.prog 55 #[(.pointer (some a)), (.bool b_27)] w200 fun e201 w202 =>
             (e201 = .returned (.tuple #[])) ∧
             (X.Kept L198 w200 w202) ∧
             if b_27 = true then
              ∃ x203 : X.Facts, (X.FactsW x203 w202 (L198)) ∧
              ∀ w204 : World, ∀ L205 : List Nat, (X.Hid (L198) w202 w204) →
              (X.NewL (w).heap.size (L198) w202 w204 L205) →
              X.CallX Try.prog 54 #[(.pointer (some (a.add 0))), (.int .u64 b_8)] w204 fun e206 w207 =>
               (e206 = .returned (.tuple #[])) ∧
               (X.Kept L205 w204 w207) ∧
               X.CallX Try.prog 111 #[(.pointer (some a)), (.agg #[(.int .u8 b_0), (.int .u8 b_1), (.int .u8 b_2), (.int .u32 b_3), (.int .u32 b_4), (.int .u32 b_5), (.int .u32 b_6), (.int .u64 b_7), (.int .u64 b_8), (.int .u8 b_9), (.int .u16 b_10), (.int .u32 b_11), (.int .u8 b_12), (.int .u8 b_13), (.int .u8 b_14), (.int .u8 b_15), (.int .u8 b_16), (.int .u8 b_17), (.int .u8 b_18), (.slice (b_19) b_19l b_19c), (.int .u8 b_20), (.string b_21), (.int .u8 b_22), (.int .u32 b_23), (.slice (b_24) b_24l b_24c), (.int .u8 b_25), (.int .u16 b_26), (.bool b_27), (.slice (b_28) b_28l b_28c), (.slice (b_29) b_29l b_29c), (.slice (b_30) b_30l b_30c)])] w207 fun e208 w209 =>
                (e208 = .returned (.tuple #[])) ∧
                (X.Kept L205 w207 w209) ∧
                R (.returned (.tuple #[])) w209
             else
              R (.returned (.tuple #[])) w202
         else
          if (b_0 == 9) = true then
           ∀ w186 : World, ∀ L187 : List Nat, (X.Hid [] w w186) →
           (X.NewL (w).heap.size [] w w186 L187) →
           X.CallX Try.prog 110 #[(.pointer (some a)), (.agg #[(.int .u8 b_0), (.int .u8 b_1), (.int .u8 b_2), (.int .u32 b_3), (.int .u32 b_4), (.int .u32 b_5), (.int .u32 b_6), (.int .u64 b_7), (.int .u64 b_8), (.int .u8 b_9), (.int .u16 b_10), (.int .u32 b_11), (.int .u8 b_12), (.int .u8 b_13), (.int .u8 b_14), (.int .u8 b_15), (.int .u8 b_16), (.int .u8 b_17), (.int .u8 b_18), (.slice (b_19) b_19l b_19c), (.int .u8 b_20), (.string b_21), (.int .u8 b_22), (.int .u32 b_23), (.slice (b_24) b_24l b_24c), (.int .u8 b_25), (.int .u16 b_26), (.bool b_27), (.slice (b_28) b_28l b_28c), (.slice (b_29) b_29l b_29c), (.slice (b_30) b_30l b_30c)])] w186 fun e188 w189 =>
            (e188 = .returned (.tuple #[])) ∧
            (X.Kept L187 w186 w189) ∧
            X.CallX Try.prog 111 #[(.pointer (some a)), (.agg #[(.int .u8 b_0), (.int .u8 b_1), (.int .u8 b_2), (.int .u32 b_3), (.int .u32 b_4), (.int .u32 b_5), (.int .u32 b_6), (.int .u64 b_7), (.int .u64 b_8), (.int .u8 b_9), (.int .u16 b_10), (.int .u32 b_11), (.int .u8 b_12), (.int .u8 b_13), (.int .u8 b_14), (.int .u8 b_15), (.int .u8 b_16), (.int .u8 b_17), (.int .u8 b_18), (.slice (b_19) b_19l b_19c), (.int .u8 b_20), (.string b_21), (.int .u8 b_22), (.int .u32 b_23), (.slice (b_24) b_24l b_24c), (.int .u8 b_25), (.int .u16 b_26), (.bool b_27), (.slice (b_28) b_28l b_28c), (.slice (b_29) b_29l b_29c), (.slice (b_30) b_30l b_30c)])] w189 fun e190 w191 =>
             (e190 = .returned (.tuple #[])) ∧
             (X.Kept L187 w189 w191) ∧
             R (.returned (.tuple #[])) w191
          else
           if (b_0 == 10) = true then
            ∃ x176 : X.Facts, (X.FactsW x176 w []) ∧
            ∀ w177 : World, ∀ L178 : List Nat, (X.Hid [] w w177) →
            (X.NewL (w).heap.size [] w w177 L178) →
            X.CallX Try.prog 108 #[(.pointer (some (a.add 0))), (.agg #[(.int .u8 b_22), (.int .u32 b_23), (.slice (b_24) b_24l b_24c)])] w177 fun e179 w180 =>
             (e179 = .returned (.tuple #[])) ∧
             (X.Kept L178 w177 w180) ∧
             ∃ x181 : X.Facts, (X.FactsW x181 w180 (L178)) ∧
             ∀ w182 : World, ∀ L183 : List Nat, (X.Hid (L178) w180 w182) →
             (X.NewL (w).heap.size (L178) w180 w182 L183) →
             X.CallX Try.prog 109 #[(.pointer (some (a.add 0))), (.slice (b_29) b_29l b_29c)] w182 fun e184 w185 =>
              (e184 = .returned (.tuple #[])) ∧
              (X.Kept L183 w182 w185) ∧
              R (.returned (.tuple #[])) w185
           else
            if (b_0 == 11) = true then
             if (b_0 == 11) = true then
              ∃ x166 : X.Facts, (X.FactsW x166 w []) ∧
              ∀ w167 : World, ∀ L168 : List Nat, (X.Hid [] w w167) →
              (X.NewL (w).heap.size [] w w167 L168) →
              X.CallX Try.prog 79 #[(.pointer (some (a.add 0))), (.int .u8 b_1)] w167 fun e169 w170 =>
               (e169 = .returned (.tuple #[])) ∧
               (X.Kept L168 w167 w170) ∧
               ∃ x171 : X.Facts, (X.FactsW x171 w170 (L168)) ∧
               ∀ w172 : World, ∀ L173 : List Nat, (X.Hid (L168) w170 w172) →
               (X.NewL (w).heap.size (L168) w170 w172 L173) →
               X.CallX Try.prog 53 #[(.pointer (some (a.add 0))), (.agg #[(.int .u8 b_25), (.int .u16 b_26)])] w172 fun e174 w175 =>
                (e174 = .returned (.tuple #[])) ∧
                (X.Kept L173 w172 w175) ∧
                R (.returned (.tuple #[])) w175
             else
              ∀ w165 : World, (X.Hid [] w w165) →
              R (.returned (.tuple #[])) w165
            else
             if (b_0 == 12) = true then
              if (b_0 == 12) = true then
               ∃ x155 : X.Facts, (X.FactsW x155 w []) ∧
               ∀ w156 : World, ∀ L157 : List Nat, (X.Hid [] w w156) →
               (X.NewL (w).heap.size [] w w156 L157) →
               X.CallX Try.prog 79 #[(.pointer (some (a.add 0))), (.int .u8 b_1)] w156 fun e158 w159 =>
                (e158 = .returned (.tuple #[])) ∧
                (X.Kept L157 w156 w159) ∧
                ∃ x160 : X.Facts, (X.FactsW x160 w159 (L157)) ∧
                ∀ w161 : World, ∀ L162 : List Nat, (X.Hid (L157) w159 w161) →
                (X.NewL (w).heap.size (L157) w159 w161 L162) →
                X.CallX Try.prog 53 #[(.pointer (some (a.add 0))), (.agg #[(.int .u8 b_25), (.int .u16 b_26)])] w161 fun e163 w164 =>
                 (e163 = .returned (.tuple #[])) ∧
                 (X.Kept L162 w161 w164) ∧
                 R (.returned (.tuple #[])) w164
              else
               ∀ w154 : World, (X.Hid [] w w154) →
               R (.returned (.tuple #[])) w154
             else
              if (b_0 == 13) = true then
               ∃ x144 : X.Facts, (X.FactsW x144 w []) ∧
               ∀ w145 : World, ∀ L146 : List Nat, (X.Hid [] w w145) →
               (X.NewL (w).heap.size [] w w145 L146) →
               X.CallX Try.prog 79 #[(.pointer (some (a.add 0))), (.int .u8 b_1)] w145 fun e147 w148 =>
                (e147 = .returned (.tuple #[])) ∧
                (X.Kept L146 w145 w148) ∧
                ∃ x149 : X.Facts, (X.FactsW x149 w148 (L146)) ∧
                ∀ w150 : World, ∀ L151 : List Nat, (X.Hid (L146) w148 w150) →
                (X.NewL (w).heap.size (L146) w148 w150 L151) →
                X.CallX Try.prog 53 #[(.pointer (some (a.add 0))), (.agg #[(.int .u8 b_25), (.int .u16 b_26)])] w150 fun e152 w153 =>
                 (e152 = .returned (.tuple #[])) ∧
                 (X.Kept L151 w150 w153) ∧
                 R (.returned (.tuple #[])) w153
              else
               ∀ w143 : World, (X.Hid [] w w143) →
               R (.returned (.tuple #[])) w143
       else
        if (b_0 == 6) = true then
         if (b_0 == 6) = true then
          ∀ w139 : World, ∀ L140 : List Nat, (X.Hid [] w w139) →
          (X.NewL (w).heap.size [] w w139 L140) →
          X.CallX Try.prog 110 #[(.pointer (some a)), (.agg #[(.int .u8 b_0), (.int .u8 b_1), (.int .u8 b_2), (.int .u32 b_3), (.int .u32 b_4), (.int .u32 b_5), (.int .u32 b_6), (.int .u64 b_7), (.int .u64 b_8), (.int .u8 b_9), (.int .u16 b_10), (.int .u32 b_11), (.int .u8 b_12), (.int .u8 b_13), (.int .u8 b_14), (.int .u8 b_15), (.int .u8 b_16), (.int .u8 b_17), (.int .u8 b_18), (.slice (b_19) b_19l b_19c), (.int .u8 b_20), (.string b_21), (.int .u8 b_22), (.int .u32 b_23), (.slice (b_24) b_24l b_24c), (.int .u8 b_25), (.int .u16 b_26), (.bool b_27), (.slice (b_28) b_28l b_28c), (.slice (b_29) b_29l b_29c), (.slice (b_30) b_30l b_30c)])] w139 fun e141 w142 =>
           (e141 = .returned (.tuple #[])) ∧
           (X.Kept L140 w139 w142) ∧
           R (.returned (.tuple #[])) w142
         else
          if (b_0 == 8) = true then
           ∀ w121 : World, ∀ L122 : List Nat, (X.Hid [] w w121) →
           (X.NewL (w).heap.size [] w w121 L122) →
           X.CallX Try.prog 110 #[(.pointer (some a)), (.agg #[(.int .u8 b_0), (.int .u8 b_1), (.int .u8 b_2), (.int .u32 b_3), (.int .u32 b_4), (.int .u32 b_5), (.int .u32 b_6), (.int .u64 b_7), (.int .u64 b_8), (.int .u8 b_9), (.int .u16 b_10), (.int .u32 b_11), (.int .u8 b_12), (.int .u8 b_13), (.int .u8 b_14), (.int .u8 b_15), (.int .u8 b_16), (.int .u8 b_17), (.int .u8 b_18), (.slice (b_19) b_19l b_19c), (.int .u8 b_20), (.string b_21), (.int .u8 b_22), (.int .u32 b_23), (.slice (b_24) b_24l b_24c), (.int .u8 b_25), (.int .u16 b_26), (.bool b_27), (.slice (b_28) b_28l b_28c), (.slice (b_29) b_29l b_29c), (.slice (b_30) b_30l b_30c)])] w121 fun e123 w124 =>
            (e123 = .returned (.tuple #[])) ∧
            (X.Kept L122 w121 w124) ∧
            ∃ x125 : X.Facts, (X.FactsW x125 w124 (L122)) ∧
            ∀ w126 : World, ∀ L127 : List Nat, (X.Hid (L122) w124 w126) →
            (X.NewL (w).heap.size (L122) w124 w126 L127) →
            X.CallX Try.prog 109 #[(.pointer (some (a.add 0))), (.slice (b_29) b_29l b_29c)] w126 fun e128 w129 =>
             (e128 = .returned (.tuple #[])) ∧
             (X.Kept L127 w126 w129) ∧
             X.CallX Try.prog 55 #[(.pointer (some a)), (.bool b_27)] w129 fun e130 w131 =>
              (e130 = .returned (.tuple #[])) ∧
              (X.Kept L127 w129 w131) ∧
              if b_27 = true then
               ∃ x132 : X.Facts, (X.FactsW x132 w131 (L127)) ∧
               ∀ w133 : World, ∀ L134 : List Nat, (X.Hid (L127) w131 w133) →
               (X.NewL (w).heap.size (L127) w131 w133 L134) →
               X.CallX Try.prog 54 #[(.pointer (some (a.add 0))), (.int .u64 b_8)] w133 fun e135 w136 =>
                (e135 = .returned (.tuple #[])) ∧
                (X.Kept L134 w133 w136) ∧
                X.CallX Try.prog 111 #[(.pointer (some a)), (.agg #[(.int .u8 b_0), (.int .u8 b_1), (.int .u8 b_2), (.int .u32 b_3), (.int .u32 b_4), (.int .u32 b_5), (.int .u32 b_6), (.int .u64 b_7), (.int .u64 b_8), (.int .u8 b_9), (.int .u16 b_10), (.int .u32 b_11), (.int .u8 b_12), (.int .u8 b_13), (.int .u8 b_14), (.int .u8 b_15), (.int .u8 b_16), (.int .u8 b_17), (.int .u8 b_18), (.slice (b_19) b_19l b_19c), (.int .u8 b_20), (.string b_21), (.int .u8 b_22), (.int .u32 b_23), (.slice (b_24) b_24l b_24c), (.int .u8 b_25), (.int .u16 b_26), (.bool b_27), (.slice (b_28) b_28l b_28c), (.slice (b_29) b_29l b_29c), (.slice (b_30) b_30l b_30c)])] w136 fun e137 w138 =>
                 (e137 = .returned (.tuple #[])) ∧
                 (X.Kept L134 w136 w138) ∧
                 R (.returned (.tuple #[])) w138
              else
               R (.returned (.tuple #[])) w131
          else
           if (b_0 == 9) = true then
            ∀ w115 : World, ∀ L116 : List Nat, (X.Hid [] w w115) →
            (X.NewL (w).heap.size [] w w115 L116) →
            X.CallX Try.prog 110 #[(.pointer (some a)), (.agg #[(.int .u8 b_0), (.int .u8 b_1), (.int .u8 b_2), (.int .u32 b_3), (.int .u32 b_4), (.int .u32 b_5), (.int .u32 b_6), (.int .u64 b_7), (.int .u64 b_8), (.int .u8 b_9), (.int .u16 b_10), (.int .u32 b_11), (.int .u8 b_12), (.int .u8 b_13), (.int .u8 b_14), (.int .u8 b_15), (.int .u8 b_16), (.int .u8 b_17), (.int .u8 b_18), (.slice (b_19) b_19l b_19c), (.int .u8 b_20), (.string b_21), (.int .u8 b_22), (.int .u32 b_23), (.slice (b_24) b_24l b_24c), (.int .u8 b_25), (.int .u16 b_26), (.bool b_27), (.slice (b_28) b_28l b_28c), (.slice (b_29) b_29l b_29c), (.slice (b_30) b_30l b_30c)])] w115 fun e117 w118 =>
             (e117 = .returned (.tuple #[])) ∧
             (X.Kept L116 w115 w118) ∧
             X.CallX Try.prog 111 #[(.pointer (some a)), (.agg #[(.int .u8 b_0), (.int .u8 b_1), (.int .u8 b_2), (.int .u32 b_3), (.int .u32 b_4), (.int .u32 b_5), (.int .u32 b_6), (.int .u64 b_7), (.int .u64 b_8), (.int .u8 b_9), (.int .u16 b_10), (.int .u32 b_11), (.int .u8 b_12), (.int .u8 b_13), (.int .u8 b_14), (.int .u8 b_15), (.int .u8 b_16), (.int .u8 b_17), (.int .u8 b_18), (.slice (b_19) b_19l b_19c), (.int .u8 b_20), (.string b_21), (.int .u8 b_22), (.int .u32 b_23), (.slice (b_24) b_24l b_24c), (.int .u8 b_25), (.int .u16 b_26), (.bool b_27), (.slice (b_28) b_28l b_28c), (.slice (b_29) b_29l b_29c), (.slice (b_30) b_30l b_30c)])] w118 fun e119 w120 =>
              (e119 = .returned (.tuple #[])) ∧
              (X.Kept L116 w118 w120) ∧
              R (.returned (.tuple #[])) w120
           else
            if (b_0 == 10) = true then
             ∃ x105 : X.Facts, (X.FactsW x105 w []) ∧
             ∀ w106 : World, ∀ L107 : List Nat, (X.Hid [] w w106) →
             (X.NewL (w).heap.size [] w w106 L107) →
             X.CallX Try.prog 108 #[(.pointer (some (a.add 0))), (.agg #[(.int .u8 b_22), (.int .u32 b_23), (.slice (b_24) b_24l b_24c)])] w106 fun e108 w109 =>
              (e108 = .returned (.tuple #[])) ∧
              (X.Kept L107 w106 w109) ∧
              ∃ x110 : X.Facts, (X.FactsW x110 w109 (L107)) ∧
              ∀ w111 : World, ∀ L112 : List Nat, (X.Hid (L107) w109 w111) →
              (X.NewL (w).heap.size (L107) w109 w111 L112) →
              X.CallX Try.prog 109 #[(.pointer (some (a.add 0))), (.slice (b_29) b_29l b_29c)] w111 fun e113 w114 =>
               (e113 = .returned (.tuple #[])) ∧
               (X.Kept L112 w111 w114) ∧
               R (.returned (.tuple #[])) w114
            else
             if (b_0 == 11) = true then
              if (b_0 == 11) = true then
               ∃ x95 : X.Facts, (X.FactsW x95 w []) ∧
               ∀ w96 : World, ∀ L97 : List Nat, (X.Hid [] w w96) →
               (X.NewL (w).heap.size [] w w96 L97) →
               X.CallX Try.prog 79 #[(.pointer (some (a.add 0))), (.int .u8 b_1)] w96 fun e98 w99 =>
                (e98 = .returned (.tuple #[])) ∧
                (X.Kept L97 w96 w99) ∧
                ∃ x100 : X.Facts, (X.FactsW x100 w99 (L97)) ∧
                ∀ w101 : World, ∀ L102 : List Nat, (X.Hid (L97) w99 w101) →
                (X.NewL (w).heap.size (L97) w99 w101 L102) →
                X.CallX Try.prog 53 #[(.pointer (some (a.add 0))), (.agg #[(.int .u8 b_25), (.int .u16 b_26)])] w101 fun e103 w104 =>
                 (e103 = .returned (.tuple #[])) ∧
                 (X.Kept L102 w101 w104) ∧
                 R (.returned (.tuple #[])) w104
              else
               ∀ w94 : World, (X.Hid [] w w94) →
               R (.returned (.tuple #[])) w94
             else
              if (b_0 == 12) = true then
               if (b_0 == 12) = true then
                ∃ x84 : X.Facts, (X.FactsW x84 w []) ∧
                ∀ w85 : World, ∀ L86 : List Nat, (X.Hid [] w w85) →
                (X.NewL (w).heap.size [] w w85 L86) →
                X.CallX Try.prog 79 #[(.pointer (some (a.add 0))), (.int .u8 b_1)] w85 fun e87 w88 =>
                 (e87 = .returned (.tuple #[])) ∧
                 (X.Kept L86 w85 w88) ∧
                 ∃ x89 : X.Facts, (X.FactsW x89 w88 (L86)) ∧
                 ∀ w90 : World, ∀ L91 : List Nat, (X.Hid (L86) w88 w90) →
                 (X.NewL (w).heap.size (L86) w88 w90 L91) →
                 X.CallX Try.prog 53 #[(.pointer (some (a.add 0))), (.agg #[(.int .u8 b_25), (.int .u16 b_26)])] w90 fun e92 w93 =>
                  (e92 = .returned (.tuple #[])) ∧
                  (X.Kept L91 w90 w93) ∧
                  R (.returned (.tuple #[])) w93
               else
                ∀ w83 : World, (X.Hid [] w w83) →
                R (.returned (.tuple #[])) w83
              else
               if (b_0 == 13) = true then
                ∃ x73 : X.Facts, (X.FactsW x73 w []) ∧
                ∀ w74 : World, ∀ L75 : List Nat, (X.Hid [] w w74) →
                (X.NewL (w).heap.size [] w w74 L75) →
                X.CallX Try.prog 79 #[(.pointer (some (a.add 0))), (.int .u8 b_1)] w74 fun e76 w77 =>
                 (e76 = .returned (.tuple #[])) ∧
                 (X.Kept L75 w74 w77) ∧
                 ∃ x78 : X.Facts, (X.FactsW x78 w77 (L75)) ∧
                 ∀ w79 : World, ∀ L80 : List Nat, (X.Hid (L75) w77 w79) →
                 (X.NewL (w).heap.size (L75) w77 w79 L80) →
                 X.CallX Try.prog 53 #[(.pointer (some (a.add 0))), (.agg #[(.int .u8 b_25), (.int .u16 b_26)])] w79 fun e81 w82 =>
                  (e81 = .returned (.tuple #[])) ∧
                  (X.Kept L80 w79 w82) ∧
                  R (.returned (.tuple #[])) w82
               else
                ∀ w72 : World, (X.Hid [] w w72) →
                R (.returned (.tuple #[])) w72
        else
         if (b_0 == 7) = true then
          ∀ w68 : World, ∀ L69 : List Nat, (X.Hid [] w w68) →
          (X.NewL (w).heap.size [] w w68 L69) →
          X.CallX Try.prog 110 #[(.pointer (some a)), (.agg #[(.int .u8 b_0), (.int .u8 b_1), (.int .u8 b_2), (.int .u32 b_3), (.int .u32 b_4), (.int .u32 b_5), (.int .u32 b_6), (.int .u64 b_7), (.int .u64 b_8), (.int .u8 b_9), (.int .u16 b_10), (.int .u32 b_11), (.int .u8 b_12), (.int .u8 b_13), (.int .u8 b_14), (.int .u8 b_15), (.int .u8 b_16), (.int .u8 b_17), (.int .u8 b_18), (.slice (b_19) b_19l b_19c), (.int .u8 b_20), (.string b_21), (.int .u8 b_22), (.int .u32 b_23), (.slice (b_24) b_24l b_24c), (.int .u8 b_25), (.int .u16 b_26), (.bool b_27), (.slice (b_28) b_28l b_28c), (.slice (b_29) b_29l b_29c), (.slice (b_30) b_30l b_30c)])] w68 fun e70 w71 =>
           (e70 = .returned (.tuple #[])) ∧
           (X.Kept L69 w68 w71) ∧
           R (.returned (.tuple #[])) w71
         else
          if (b_0 == 8) = true then
           ∀ w50 : World, ∀ L51 : List Nat, (X.Hid [] w w50) →
           (X.NewL (w).heap.size [] w w50 L51) →
           X.CallX Try.prog 110 #[(.pointer (some a)), (.agg #[(.int .u8 b_0), (.int .u8 b_1), (.int .u8 b_2), (.int .u32 b_3), (.int .u32 b_4), (.int .u32 b_5), (.int .u32 b_6), (.int .u64 b_7), (.int .u64 b_8), (.int .u8 b_9), (.int .u16 b_10), (.int .u32 b_11), (.int .u8 b_12), (.int .u8 b_13), (.int .u8 b_14), (.int .u8 b_15), (.int .u8 b_16), (.int .u8 b_17), (.int .u8 b_18), (.slice (b_19) b_19l b_19c), (.int .u8 b_20), (.string b_21), (.int .u8 b_22), (.int .u32 b_23), (.slice (b_24) b_24l b_24c), (.int .u8 b_25), (.int .u16 b_26), (.bool b_27), (.slice (b_28) b_28l b_28c), (.slice (b_29) b_29l b_29c), (.slice (b_30) b_30l b_30c)])] w50 fun e52 w53 =>
            (e52 = .returned (.tuple #[])) ∧
            (X.Kept L51 w50 w53) ∧
            ∃ x54 : X.Facts, (X.FactsW x54 w53 (L51)) ∧
            ∀ w55 : World, ∀ L56 : List Nat, (X.Hid (L51) w53 w55) →
            (X.NewL (w).heap.size (L51) w53 w55 L56) →
            X.CallX Try.prog 109 #[(.pointer (some (a.add 0))), (.slice (b_29) b_29l b_29c)] w55 fun e57 w58 =>
             (e57 = .returned (.tuple #[])) ∧
             (X.Kept L56 w55 w58) ∧
             X.CallX Try.prog 55 #[(.pointer (some a)), (.bool b_27)] w58 fun e59 w60 =>
              (e59 = .returned (.tuple #[])) ∧
              (X.Kept L56 w58 w60) ∧
              if b_27 = true then
               ∃ x61 : X.Facts, (X.FactsW x61 w60 (L56)) ∧
               ∀ w62 : World, ∀ L63 : List Nat, (X.Hid (L56) w60 w62) →
               (X.NewL (w).heap.size (L56) w60 w62 L63) →
               X.CallX Try.prog 54 #[(.pointer (some (a.add 0))), (.int .u64 b_8)] w62 fun e64 w65 =>
                (e64 = .returned (.tuple #[])) ∧
                (X.Kept L63 w62 w65) ∧
                X.CallX Try.prog 111 #[(.pointer (some a)), (.agg #[(.int .u8 b_0), (.int .u8 b_1), (.int .u8 b_2), (.int .u32 b_3), (.int .u32 b_4), (.int .u32 b_5), (.int .u32 b_6), (.int .u64 b_7), (.int .u64 b_8), (.int .u8 b_9), (.int .u16 b_10), (.int .u32 b_11), (.int .u8 b_12), (.int .u8 b_13), (.int .u8 b_14), (.int .u8 b_15), (.int .u8 b_16), (.int .u8 b_17), (.int .u8 b_18), (.slice (b_19) b_19l b_19c), (.int .u8 b_20), (.string b_21), (.int .u8 b_22), (.int .u32 b_23), (.slice (b_24) b_24l b_24c), (.int .u8 b_25), (.int .u16 b_26), (.bool b_27), (.slice (b_28) b_28l b_28c), (.slice (b_29) b_29l b_29c), (.slice (b_30) b_30l b_30c)])] w65 fun e66 w67 =>
                 (e66 = .returned (.tuple #[])) ∧
                 (X.Kept L63 w65 w67) ∧
                 R (.returned (.tuple #[])) w67
              else
               R (.returned (.tuple #[])) w60
          else
           if (b_0 == 9) = true then
            ∀ w44 : World, ∀ L45 : List Nat, (X.Hid [] w w44) →
            (X.NewL (w).heap.size [] w w44 L45) →
            X.CallX Try.prog 110 #[(.pointer (some a)), (.agg #[(.int .u8 b_0), (.int .u8 b_1), (.int .u8 b_2), (.int .u32 b_3), (.int .u32 b_4), (.int .u32 b_5), (.int .u32 b_6), (.int .u64 b_7), (.int .u64 b_8), (.int .u8 b_9), (.int .u16 b_10), (.int .u32 b_11), (.int .u8 b_12), (.int .u8 b_13), (.int .u8 b_14), (.int .u8 b_15), (.int .u8 b_16), (.int .u8 b_17), (.int .u8 b_18), (.slice (b_19) b_19l b_19c), (.int .u8 b_20), (.string b_21), (.int .u8 b_22), (.int .u32 b_23), (.slice (b_24) b_24l b_24c), (.int .u8 b_25), (.int .u16 b_26), (.bool b_27), (.slice (b_28) b_28l b_28c), (.slice (b_29) b_29l b_29c), (.slice (b_30) b_30l b_30c)])] w44 fun e46 w47 =>
             (e46 = .returned (.tuple #[])) ∧
             (X.Kept L45 w44 w47) ∧
             X.CallX Try.prog 111 #[(.pointer (some a)), (.agg #[(.int .u8 b_0), (.int .u8 b_1), (.int .u8 b_2), (.int .u32 b_3), (.int .u32 b_4), (.int .u32 b_5), (.int .u32 b_6), (.int .u64 b_7), (.int .u64 b_8), (.int .u8 b_9), (.int .u16 b_10), (.int .u32 b_11), (.int .u8 b_12), (.int .u8 b_13), (.int .u8 b_14), (.int .u8 b_15), (.int .u8 b_16), (.int .u8 b_17), (.int .u8 b_18), (.slice (b_19) b_19l b_19c), (.int .u8 b_20), (.string b_21), (.int .u8 b_22), (.int .u32 b_23), (.slice (b_24) b_24l b_24c), (.int .u8 b_25), (.int .u16 b_26), (.bool b_27), (.slice (b_28) b_28l b_28c), (.slice (b_29) b_29l b_29c), (.slice (b_30) b_30l b_30c)])] w47 fun e48 w49 =>
              (e48 = .returned (.tuple #[])) ∧
              (X.Kept L45 w47 w49) ∧
              R (.returned (.tuple #[])) w49
           else
            if (b_0 == 10) = true then
             ∃ x34 : X.Facts, (X.FactsW x34 w []) ∧
             ∀ w35 : World, ∀ L36 : List Nat, (X.Hid [] w w35) →
             (X.NewL (w).heap.size [] w w35 L36) →
             X.CallX Try.prog 108 #[(.pointer (some (a.add 0))), (.agg #[(.int .u8 b_22), (.int .u32 b_23), (.slice (b_24) b_24l b_24c)])] w35 fun e37 w38 =>
              (e37 = .returned (.tuple #[])) ∧
              (X.Kept L36 w35 w38) ∧
              ∃ x39 : X.Facts, (X.FactsW x39 w38 (L36)) ∧
              ∀ w40 : World, ∀ L41 : List Nat, (X.Hid (L36) w38 w40) →
              (X.NewL (w).heap.size (L36) w38 w40 L41) →
              X.CallX Try.prog 109 #[(.pointer (some (a.add 0))), (.slice (b_29) b_29l b_29c)] w40 fun e42 w43 =>
               (e42 = .returned (.tuple #[])) ∧
               (X.Kept L41 w40 w43) ∧
               R (.returned (.tuple #[])) w43
            else
             if (b_0 == 11) = true then
              if (b_0 == 11) = true then
               ∃ x24 : X.Facts, (X.FactsW x24 w []) ∧
               ∀ w25 : World, ∀ L26 : List Nat, (X.Hid [] w w25) →
               (X.NewL (w).heap.size [] w w25 L26) →
               X.CallX Try.prog 79 #[(.pointer (some (a.add 0))), (.int .u8 b_1)] w25 fun e27 w28 =>
                (e27 = .returned (.tuple #[])) ∧
                (X.Kept L26 w25 w28) ∧
                ∃ x29 : X.Facts, (X.FactsW x29 w28 (L26)) ∧
                ∀ w30 : World, ∀ L31 : List Nat, (X.Hid (L26) w28 w30) →
                (X.NewL (w).heap.size (L26) w28 w30 L31) →
                X.CallX Try.prog 53 #[(.pointer (some (a.add 0))), (.agg #[(.int .u8 b_25), (.int .u16 b_26)])] w30 fun e32 w33 =>
                 (e32 = .returned (.tuple #[])) ∧
                 (X.Kept L31 w30 w33) ∧
                 R (.returned (.tuple #[])) w33
              else
               ∀ w23 : World, (X.Hid [] w w23) →
               R (.returned (.tuple #[])) w23
             else
              if (b_0 == 12) = true then
               if (b_0 == 12) = true then
                ∃ x13 : X.Facts, (X.FactsW x13 w []) ∧
                ∀ w14 : World, ∀ L15 : List Nat, (X.Hid [] w w14) →
                (X.NewL (w).heap.size [] w w14 L15) →
                X.CallX Try.prog 79 #[(.pointer (some (a.add 0))), (.int .u8 b_1)] w14 fun e16 w17 =>
                 (e16 = .returned (.tuple #[])) ∧
                 (X.Kept L15 w14 w17) ∧
                 ∃ x18 : X.Facts, (X.FactsW x18 w17 (L15)) ∧
                 ∀ w19 : World, ∀ L20 : List Nat, (X.Hid (L15) w17 w19) →
                 (X.NewL (w).heap.size (L15) w17 w19 L20) →
                 X.CallX Try.prog 53 #[(.pointer (some (a.add 0))), (.agg #[(.int .u8 b_25), (.int .u16 b_26)])] w19 fun e21 w22 =>
                  (e21 = .returned (.tuple #[])) ∧
                  (X.Kept L20 w19 w22) ∧
                  R (.returned (.tuple #[])) w22
               else
                ∀ w12 : World, (X.Hid [] w w12) →
                R (.returned (.tuple #[])) w12
              else
               if (b_0 == 13) = true then
                ∃ x2 : X.Facts, (X.FactsW x2 w []) ∧
                ∀ w3 : World, ∀ L4 : List Nat, (X.Hid [] w w3) →
                (X.NewL (w).heap.size [] w w3 L4) →
                X.CallX Try.prog 79 #[(.pointer (some (a.add 0))), (.int .u8 b_1)] w3 fun e5 w6 =>
                 (e5 = .returned (.tuple #[])) ∧
                 (X.Kept L4 w3 w6) ∧
                 ∃ x7 : X.Facts, (X.FactsW x7 w6 (L4)) ∧
                 ∀ w8 : World, ∀ L9 : List Nat, (X.Hid (L4) w6 w8) →
                 (X.NewL (w).heap.size (L4) w6 w8 L9) →
                 X.CallX Try.prog 53 #[(.pointer (some (a.add 0))), (.agg #[(.int .u8 b_25), (.int .u16 b_26)])] w8 fun e10 w11 =>
                  (e10 = .returned (.tuple #[])) ∧
                  (X.Kept L9 w8 w11) ∧
                  R (.returned (.tuple #[])) w11
               else
                ∀ w1 : World, (X.Hid [] w w1) →
                R (.returned (.tuple #[])) w1) :
    Calls Try.prog 80 #[.pointer (some a), .agg #[.int .u8 b_0, .int .u8 b_1, .int .u8 b_2, .int .u32 b_3, .int .u32 b_4, .int .u32 b_5, .int .u32 b_6, .int .u64 b_7, .int .u64 b_8, .int .u8 b_9, .int .u16 b_10, .int .u32 b_11, .int .u8 b_12, .int .u8 b_13, .int .u8 b_14, .int .u8 b_15, .int .u8 b_16, .int .u8 b_17, .int .u8 b_18, .slice b_19 b_19l b_19c, .int .u8 b_20, .string b_21, .int .u8 b_22, .int .u32 b_23, .slice b_24 b_24l b_24c, .int .u8 b_25, .int .u16 b_26, .bool b_27, .slice b_28 b_28l b_28c, .slice b_29 b_29l b_29c, .slice b_30 b_30l b_30c]] w R :=
  X.calls_of { isLoc := [3], sym := [], loops := [], joins := [] } Try.func80 (by kernel_rfl) h
end Go.Proofs
/- The verification conditions of this seat's functions, as the engine has them: printed by a program of the bench; checked by the kernel. -/
namespace Go.Proofs
open Go
abbrev fn_Word : Nat := 14
theorem x_Word (a : Int) (w : World) (R : Ending → World → Prop) (h :
  if (decide ((IntKind.wrap .i64 a) ≥ 14)) = true then
   ∀ w15 : World, (X.Hid [] w w15) →
   R (.returned (.string (ByteArray.mk #[]))) w15
  else
   ((0 : Int) ≤ a) ∧
   (a < 14) ∧
   ((((((((((((((a = 0) →
                ∀ w1 : World, (X.Hid [] w w1) →
                R (.returned (.string (ByteArray.mk #[OfNat.ofNat 65, OfNat.ofNat 115, OfNat.ofNat 107]))) w1) ∧
               ((a = 1) →
               ∀ w2 : World, (X.Hid [] w w2) →
               R (.returned (.string (ByteArray.mk #[OfNat.ofNat 65, OfNat.ofNat 110, OfNat.ofNat 115, OfNat.ofNat 119, OfNat.ofNat 101, OfNat.ofNat 114]))) w2)) ∧
              ((a = 2) →
              ∀ w3 : World, (X.Hid [] w w3) →
              R (.returned (.string (ByteArray.mk #[OfNat.ofNat 82, OfNat.ofNat 101, OfNat.ofNat 102, OfNat.ofNat 117, OfNat.ofNat 115, OfNat.ofNat 101]))) w3)) ∧
             ((a = 3) →
             ∀ w4 : World, (X.Hid [] w w4) →
             R (.returned (.string (ByteArray.mk #[OfNat.ofNat 65, OfNat.ofNat 112, OfNat.ofNat 112, OfNat.ofNat 101, OfNat.ofNat 110, OfNat.ofNat 100]))) w4)) ∧
            ((a = 4) →
            ∀ w5 : World, (X.Hid [] w w5) →
            R (.returned (.string (ByteArray.mk #[OfNat.ofNat 65, OfNat.ofNat 99, OfNat.ofNat 107, OfNat.ofNat 101, OfNat.ofNat 100]))) w5)) ∧
           ((a = 5) →
           ∀ w6 : World, (X.Hid [] w w6) →
           R (.returned (.string (ByteArray.mk #[OfNat.ofNat 80, OfNat.ofNat 114, OfNat.ofNat 101, OfNat.ofNat 112, OfNat.ofNat 97, OfNat.ofNat 114, OfNat.ofNat 101]))) w6)) ∧
          ((a = 6) →
          ∀ w7 : World, (X.Hid [] w w7) →
          R (.returned (.string (ByteArray.mk #[OfNat.ofNat 65, OfNat.ofNat 99, OfNat.ofNat 99, OfNat.ofNat 101, OfNat.ofNat 112, OfNat.ofNat 116]))) w7)) ∧
         ((a = 7) →
         ∀ w8 : World, (X.Hid [] w w8) →
         R (.returned (.string (ByteArray.mk #[OfNat.ofNat 78, OfNat.ofNat 97, OfNat.ofNat 99, OfNat.ofNat 107]))) w8)) ∧
        ((a = 8) →
        ∀ w9 : World, (X.Hid [] w w9) →
        R (.returned (.string (ByteArray.mk #[OfNat.ofNat 80, OfNat.ofNat 114, OfNat.ofNat 111, OfNat.ofNat 109, OfNat.ofNat 105, OfNat.ofNat 115, OfNat.ofNat 101]))) w9)) ∧
       ((a = 9) →
       ∀ w10 : World, (X.Hid [] w w10) →
       R (.returned (.string (ByteArray.mk #[OfNat.ofNat 80, OfNat.ofNat 114, OfNat.ofNat 111, OfNat.ofNat 112, OfNat.ofNat 111, OfNat.ofNat 115, OfNat.ofNat 101]))) w10)) ∧
      ((a = 10) →
      ∀ w11 : World, (X.Hid [] w w11) →
      R (.returned (.string (ByteArray.mk #[OfNat.ofNat 73, OfNat.ofNat 110, OfNat.ofNat 115, OfNat.ofNat 116, OfNat.ofNat 97, OfNat.ofNat 108, OfNat.ofNat 108]))) w11)) ∧
     ((a = 11) →
     ∀ w12 : World, (X.Hid [] w w12) →
     R (.returned (.string (ByteArray.mk #[OfNat.ofNat 74, OfNat.ofNat 111, OfNat.ofNat 105, OfNat.ofNat 110]))) w12)) ∧
    ((a = 12) →
    ∀ w13 : World, (X.Hid [] w w13) →
    R (.returned (.string (ByteArray.mk #[OfNat.ofNat 76, OfNat.ofNat 101, OfNat.ofNat 97, OfNat.ofNat 118, OfNat.ofNat 101]))) w13)) ∧
   ((a = 13) →
   ∀ w14 : World, (X.Hid [] w w14) →
   R (.returned (.string (ByteArray.mk #[OfNat.ofNat 83, OfNat.ofNat 108, OfNat.ofNat 97, OfNat.ofNat 121]))) w14)) :
    Calls Try.prog 14 #[.int .u8 a] w R :=
  X.calls_of { isLoc := [3], sym := [9], loops := [], joins := [] } Try.func14 (by kernel_rfl) h
abbrev fn_rWord : Nat := 15
theorem x_rWord (a : Int) (w : World) (R : Ending → World → Prop) (h :
  if (decide ((IntKind.wrap .i64 a) ≥ 14)) = true then
   R (.returned (.string (ByteArray.mk #[]))) (w.alloc (.cells #[(.string (ByteArray.mk #[OfNat.ofNat 65, OfNat.ofNat 115, OfNat.ofNat 107])), (.string (ByteArray.mk #[OfNat.ofNat 65, OfNat.ofNat 110, OfNat.ofNat 115, OfNat.ofNat 119, OfNat.ofNat 101, OfNat.ofNat 114])), (.string (ByteArray.mk #[OfNat.ofNat 82, OfNat.ofNat 101, OfNat.ofNat 102, OfNat.ofNat 117, OfNat.ofNat 115, OfNat.ofNat 101])), (.string (ByteArray.mk #[OfNat.ofNat 65, OfNat.ofNat 112, OfNat.ofNat 112, OfNat.ofNat 101, OfNat.ofNat 110, OfNat.ofNat 100])), (.string (ByteArray.mk #[OfNat.ofNat 65, OfNat.ofNat 99, OfNat.ofNat 107, OfNat.ofNat 101, OfNat.ofNat 100])), (.string (ByteArray.mk #[OfNat.ofNat 80, OfNat.ofNat 114, OfNat.ofNat 101, OfNat.ofNat 112, OfNat.ofNat 97, OfNat.ofNat 114, OfNat.ofNat 101])), (.string (ByteArray.mk #[OfNat.ofNat 65, OfNat.ofNat 99, OfNat.ofNat 99, OfNat.ofNat 101, OfNat.ofNat 112, OfNat.ofNat 116])), (.string (ByteArray.mk #[OfNat.ofNat 78, OfNat.ofNat 97, OfNat.ofNat 99, OfNat.ofNat 107])), (.string (ByteArray.mk #[OfNat.ofNat 80, OfNat.ofNat 114, OfNat.ofNat 111, OfNat.ofNat 109, OfNat.ofNat 105, OfNat.ofNat 115, OfNat.ofNat 101])), (.string (ByteArray.mk #[OfNat.ofNat 80, OfNat.ofNat 114, OfNat.ofNat 111, OfNat.ofNat 112, OfNat.ofNat 111, OfNat.ofNat 115, OfNat.ofNat 101])), (.string (ByteArray.mk #[OfNat.ofNat 73, OfNat.ofNat 110, OfNat.ofNat 115, OfNat.ofNat 116, OfNat.ofNat 97, OfNat.ofNat 108, OfNat.ofNat 108])), (.string (ByteArray.mk #[OfNat.ofNat 74, OfNat.ofNat 111, OfNat.ofNat 105, OfNat.ofNat 110])), (.string (ByteArray.mk #[OfNat.ofNat 76, OfNat.ofNat 101, OfNat.ofNat 97, OfNat.ofNat 118, OfNat.ofNat 101])), (.string (ByteArray.mk #[OfNat.ofNat 83, OfNat.ofNat 108, OfNat.ofNat 97, OfNat.ofNat 121]))] 9))
  else
   ((0 : Int) ≤ a) ∧
   (a < 14) ∧
   ∃ s1 : ByteArray, (World.cell? (w.alloc (.cells #[(.string (ByteArray.mk #[OfNat.ofNat 65, OfNat.ofNat 115, OfNat.ofNat 107])), (.string (ByteArray.mk #[OfNat.ofNat 65, OfNat.ofNat 110, OfNat.ofNat 115, OfNat.ofNat 119, OfNat.ofNat 101, OfNat.ofNat 114])), (.string (ByteArray.mk #[OfNat.ofNat 82, OfNat.ofNat 101, OfNat.ofNat 102, OfNat.ofNat 117, OfNat.ofNat 115, OfNat.ofNat 101])), (.string (ByteArray.mk #[OfNat.ofNat 65, OfNat.ofNat 112, OfNat.ofNat 112, OfNat.ofNat 101, OfNat.ofNat 110, OfNat.ofNat 100])), (.string (ByteArray.mk #[OfNat.ofNat 65, OfNat.ofNat 99, OfNat.ofNat 107, OfNat.ofNat 101, OfNat.ofNat 100])), (.string (ByteArray.mk #[OfNat.ofNat 80, OfNat.ofNat 114, OfNat.ofNat 101, OfNat.ofNat 112, OfNat.ofNat 97, OfNat.ofNat 114, OfNat.ofNat 101])), (.string (ByteArray.mk #[OfNat.ofNat 65, OfNat.ofNat 99, OfNat.ofNat 99, OfNat.ofNat 101, OfNat.ofNat 112, OfNat.ofNat 116])), (.string (ByteArray.mk #[OfNat.ofNat 78, OfNat.ofNat 97, OfNat.ofNat 99, OfNat.ofNat 107])), (.string (ByteArray.mk #[OfNat.ofNat 80, OfNat.ofNat 114, OfNat.ofNat 111, OfNat.ofNat 109, OfNat.ofNat 105, OfNat.ofNat 115, OfNat.ofNat 101])), (.string (ByteArray.mk #[OfNat.ofNat 80, OfNat.ofNat 114, OfNat.ofNat 111, OfNat.ofNat 112, OfNat.ofNat 111, OfNat.ofNat 115, OfNat.ofNat 101])), (.string (ByteArray.mk #[OfNat.ofNat 73, OfNat.ofNat 110, OfNat.ofNat 115, OfNat.ofNat 116, OfNat.ofNat 97, OfNat.ofNat 108, OfNat.ofNat 108])), (.string (ByteArray.mk #[OfNat.ofNat 74, OfNat.ofNat 111, OfNat.ofNat 105, OfNat.ofNat 110])), (.string (ByteArray.mk #[OfNat.ofNat 76, OfNat.ofNat 101, OfNat.ofNat 97, OfNat.ofNat 118, OfNat.ofNat 101])), (.string (ByteArray.mk #[OfNat.ofNat 83, OfNat.ofNat 108, OfNat.ofNat 97, OfNat.ofNat 121]))] 9)) ((⟨(w).heap.size, 0, none⟩ : Addr).add ((a).toNat * 1)) = some (.string s1)) ∧
   R (.returned (.string s1)) (w.alloc (.cells #[(.string (ByteArray.mk #[OfNat.ofNat 65, OfNat.ofNat 115, OfNat.ofNat 107])), (.string (ByteArray.mk #[OfNat.ofNat 65, OfNat.ofNat 110, OfNat.ofNat 115, OfNat.ofNat 119, OfNat.ofNat 101, OfNat.ofNat 114])), (.string (ByteArray.mk #[OfNat.ofNat 82, OfNat.ofNat 101, OfNat.ofNat 102, OfNat.ofNat 117, OfNat.ofNat 115, OfNat.ofNat 101])), (.string (ByteArray.mk #[OfNat.ofNat 65, OfNat.ofNat 112, OfNat.ofNat 112, OfNat.ofNat 101, OfNat.ofNat 110, OfNat.ofNat 100])), (.string (ByteArray.mk #[OfNat.ofNat 65, OfNat.ofNat 99, OfNat.ofNat 107, OfNat.ofNat 101, OfNat.ofNat 100])), (.string (ByteArray.mk #[OfNat.ofNat 80, OfNat.ofNat 114, OfNat.ofNat 101, OfNat.ofNat 112, OfNat.ofNat 97, OfNat.ofNat 114, OfNat.ofNat 101])), (.string (ByteArray.mk #[OfNat.ofNat 65, OfNat.ofNat 99, OfNat.ofNat 99, OfNat.ofNat 101, OfNat.ofNat 112, OfNat.ofNat 116])), (.string (ByteArray.mk #[OfNat.ofNat 78, OfNat.ofNat 97, OfNat.ofNat 99, OfNat.ofNat 107])), (.string (ByteArray.mk #[OfNat.ofNat 80, OfNat.ofNat 114, OfNat.ofNat 111, OfNat.ofNat 109, OfNat.ofNat 105, OfNat.ofNat 115, OfNat.ofNat 101])), (.string (ByteArray.mk #[OfNat.ofNat 80, OfNat.ofNat 114, OfNat.ofNat 111, OfNat.ofNat 112, OfNat.ofNat 111, OfNat.ofNat 115, OfNat.ofNat 101])), (.string (ByteArray.mk #[OfNat.ofNat 73, OfNat.ofNat 110, OfNat.ofNat 115, OfNat.ofNat 116, OfNat.ofNat 97, OfNat.ofNat 108, OfNat.ofNat 108])), (.string (ByteArray.mk #[OfNat.ofNat 74, OfNat.ofNat 111, OfNat.ofNat 105, OfNat.ofNat 110])), (.string (ByteArray.mk #[OfNat.ofNat 76, OfNat.ofNat 101, OfNat.ofNat 97, OfNat.ofNat 118, OfNat.ofNat 101])), (.string (ByteArray.mk #[OfNat.ofNat 83, OfNat.ofNat 108, OfNat.ofNat 97, OfNat.ofNat 121]))] 9))) :
    Calls Try.prog 15 #[.int .u8 a] w R :=
  X.calls_of { isLoc := [], sym := [], loops := [], joins := [] } Try.func15 (by kernel_rfl) h
end Go.Proofs
/- The verification conditions of this seat's functions, as the engine has them: printed by a program of the bench; checked by the kernel. -/
namespace Go.Proofs
open Go
abbrev fn_WireRights : Nat := 3
theorem x_WireRights (a_0 a_1 a_2 a_3 a_4 a_5 a_6 a_7 a_8 a_9 a_10 a_11 a_12 a_13 a_14 a_15 a_16 a_17 a_18 : Int) (a_19 : Option Addr) (a_19l a_19c : Nat) (a_20 : Int) (a_21 : ByteArray) (a_22 a_23 : Int) (a_24 : Option Addr) (a_24l a_24c : Nat) (a_25 a_26 : Int) (a_27 : Bool) (a_28 : Option Addr) (a_28l a_28c : Nat) (a_29 : Option Addr) (a_29l a_29c : Nat) (a_30 : Option Addr) (a_30l a_30c : Nat) (b_0 b_1 b_2 b_3 b_4 b_5 b_6 b_7 b_8 b_9 b_10 b_11 b_12 b_13 b_14 b_15 b_16 b_17 b_18 : Int) (b_19 : Option Addr) (b_19l b_19c : Nat) (b_20 : Int) (b_21 : ByteArray) (b_22 b_23 : Int) (b_24 : Option Addr) (b_24l b_24c : Nat) (b_25 b_26 : Int) (b_27 : Bool) (b_28 : Option Addr) (b_28l b_28c : Nat) (b_29 : Option Addr) (b_29l b_29c : Nat) (b_30 : Option Addr) (b_30l b_30c : Nat) (w : World) (R : Ending → World → Prop) (h :
  ∀ w1 : World, ∀ L2 : List Nat, (X.Hid [] w w1) →
  (X.NewL (w).heap.size [] w w1 L2) →
  X.CallX Try.prog 7 #[(.agg #[(.int .u8 a_0), (.int .u8 a_1), (.int .u8 a_2), (.int .u32 a_3), (.int .u32 a_4), (.int .u32 a_5), (.int .u32 a_6), (.int .u64 a_7), (.int .u64 a_8), (.int .u8 a_9), (.int .u16 a_10), (.int .u32 a_11), (.int .u8 a_12), (.int .u8 a_13), (.int .u8 a_14), (.int .u8 a_15), (.int .u8 a_16), (.int .u8 a_17), (.int .u8 a_18), (.slice (a_19) a_19l a_19c), (.int .u8 a_20), (.string a_21), (.int .u8 a_22), (.int .u32 a_23), (.slice (a_24) a_24l a_24c), (.int .u8 a_25), (.int .u16 a_26), (.bool a_27), (.slice (a_28) a_28l a_28c), (.slice (a_29) a_29l a_29c), (.slice (a_30) a_30l a_30c)])] w1 fun e3 w4 =>
   ∃ b5 : Bool, (e3 = .returned (.bool b5)) ∧
   (X.Kept L2 w1 w4) ∧
   if ((!b5) == false) = true then
    X.CallX Try.prog 7 #[(.agg #[(.int .u8 b_0), (.int .u8 b_1), (.int .u8 b_2), (.int .u32 b_3), (.int .u32 b_4), (.int .u32 b_5), (.int .u32 b_6), (.int .u64 b_7), (.int .u64 b_8), (.int .u8 b_9), (.int .u16 b_10), (.int .u32 b_11), (.int .u8 b_12), (.int .u8 b_13), (.int .u8 b_14), (.int .u8 b_15), (.int .u8 b_16), (.int .u8 b_17), (.int .u8 b_18), (.slice (b_19) b_19l b_19c), (.int .u8 b_20), (.string b_21), (.int .u8 b_22), (.int .u32 b_23), (.slice (b_24) b_24l b_24c), (.int .u8 b_25), (.int .u16 b_26), (.bool b_27), (.slice (b_28) b_28l b_28c), (.slice (b_29) b_29l b_29c), (.slice (b_30) b_30l b_30c)])] w4 fun e9 w10 =>
     ∃ b11 : Bool, (e9 = .returned (.bool b11)) ∧
     (X.Kept L2 w4 w10) ∧
     if (false || (!b11)) = true then
      X.CallX Try.prog 8 #[] w10 fun e294 w295 =>
       ∃ b296 : Bool, (e294 = .returned (.bool b296)) ∧
       (X.Kept L2 w10 w295) ∧
       R (.returned (.bool b296)) w295
     else
      ∃ x12 : X.Facts, (X.FactsW x12 w10 (L2)) ∧
      ∀ w13 : World, ∀ L14 : List Nat, (X.Hid (L2) w10 w13) →
      (X.NewL (w).heap.size (L2) w10 w13 L14) →
      X.CallX Try.prog 9 #[(.agg #[(.int .u8 a_0), (.int .u8 a_1), (.int .u8 a_2), (.int .u32 a_3), (.int .u32 a_4), (.int .u32 a_5), (.int .u32 a_6), (.int .u64 a_7), (.int .u64 a_8), (.int .u8 a_9), (.int .u16 a_10), (.int .u32 a_11), (.int .u8 a_12), (.int .u8 a_13), (.int .u8 a_14), (.int .u8 a_15), (.int .u8 a_16), (.int .u8 a_17), (.int .u8 a_18), (.slice (a_19) a_19l a_19c), (.int .u8 a_20), (.string a_21), (.int .u8 a_22), (.int .u32 a_23), (.slice (a_24) a_24l a_24c), (.int .u8 a_25), (.int .u16 a_26), (.bool a_27), (.slice (a_28) a_28l a_28c), (.slice (a_29) a_29l a_29c), (.slice (a_30) a_30l a_30c)])] w13 fun e15 w16 =>
       ∃ n17 : Int, ∃ n18 : Int, ∃ n19 : Int, ∃ n20 : Int, ∃ n21 : Int, ∃ n22 : Int, ∃ n23 : Int, ∃ n24 : Int, ∃ n25 : Int, ∃ n26 : Int, ∃ n27 : Int, ∃ n28 : Int, ∃ n29 : Int, ∃ n30 : Int, ∃ n31 : Int, ∃ n32 : Int, ∃ n33 : Int, ∃ n34 : Int, ∃ n35 : Int, ∃ q36 : Option Addr, ∃ k37 : Nat, ∃ k38 : Nat, ∃ n39 : Int, ∃ s40 : ByteArray, ∃ n41 : Int, ∃ n42 : Int, ∃ q43 : Option Addr, ∃ k44 : Nat, ∃ k45 : Nat, ∃ n46 : Int, ∃ n47 : Int, ∃ b48 : Bool, ∃ q49 : Option Addr, ∃ k50 : Nat, ∃ k51 : Nat, ∃ q52 : Option Addr, ∃ k53 : Nat, ∃ k54 : Nat, ∃ q55 : Option Addr, ∃ k56 : Nat, ∃ k57 : Nat, (e15 = .returned (.agg #[(.int .u8 n17), (.int .u8 n18), (.int .u8 n19), (.int .u32 n20), (.int .u32 n21), (.int .u32 n22), (.int .u32 n23), (.int .u64 n24), (.int .u64 n25), (.int .u8 n26), (.int .u16 n27), (.int .u32 n28), (.int .u8 n29), (.int .u8 n30), (.int .u8 n31), (.int .u8 n32), (.int .u8 n33), (.int .u8 n34), (.int .u8 n35), (.slice (q36) k37 k38), (.int .u8 n39), (.string s40), (.int .u8 n41), (.int .u32 n42), (.slice (q43) k44 k45), (.int .u8 n46), (.int .u16 n47), (.bool b48), (.slice (q49) k50 k51), (.slice (q52) k53 k54), (.slice (q55) k56 k57)])) ∧
       (X.Kept L14 w13 w16) ∧
       (X.FactsW x12 w16 (L14)) ∧
       ∃ x58 : X.Facts, (X.FactsW x58 w16 (L14)) ∧
       (∀ x59 : Addr × List Value, (x59 ∈ x12) →
        x59 ∈ x58) ∧
       X.CallX Try.prog 10 #[(.agg #[(.int .u8 n17), (.int .u8 n18), (.int .u8 n19), (.int .u32 n20), (.int .u32 n21), (.int .u32 n22), (.int .u32 n23), (.int .u64 n24), (.int .u64 n25), (.int .u8 n26), (.int .u16 n27), (.int .u32 n28), (.int .u8 n29), (.int .u8 n30), (.int .u8 n31), (.int .u8 n32), (.int .u8 n33), (.int .u8 n34), (.int .u8 n35), (.slice (q36) k37 k38), (.int .u8 n39), (.string s40), (.int .u8 n41), (.int .u32 n42), (.slice (q43) k44 k45), (.int .u8 n46), (.int .u16 n47), (.bool b48), (.slice (q49) k50 k51), (.slice (q52) k53 k54), (.slice (q55) k56 k57)])] w16 fun e60 w61 =>
        ∃ b62 : Bool, (e60 = .returned (.bool b62)) ∧
        (X.Kept L14 w16 w61) ∧
        (X.FactsW x58 w61 (L14)) ∧
        ∃ x63 : X.Facts, (X.FactsW x63 w61 (L14)) ∧
        (∀ x64 : Addr × List Value, (x64 ∈ x58) →
         x64 ∈ x63) ∧
        X.CallX Try.prog 11 #[(.agg #[(.int .u8 a_0), (.int .u8 a_1), (.int .u8 a_2), (.int .u32 a_3), (.int .u32 a_4), (.int .u32 a_5), (.int .u32 a_6), (.int .u64 a_7), (.int .u64 a_8), (.int .u8 a_9), (.int .u16 a_10), (.int .u32 a_11), (.int .u8 a_12), (.int .u8 a_13), (.int .u8 a_14), (.int .u8 a_15), (.int .u8 a_16), (.int .u8 a_17), (.int .u8 a_18), (.slice (a_19) a_19l a_19c), (.int .u8 a_20), (.string a_21), (.int .u8 a_22), (.int .u32 a_23), (.slice (a_24) a_24l a_24c), (.int .u8 a_25), (.int .u16 a_26), (.bool a_27), (.slice (a_28) a_28l a_28c), (.slice (a_29) a_29l a_29c), (.slice (a_30) a_30l a_30c)])] w61 fun e65 w66 =>
         ∃ b67 : Bool, (e65 = .returned (.bool b67)) ∧
         (X.Kept L14 w61 w66) ∧
         (X.FactsW x63 w66 (L14)) ∧
         ∃ x68 : X.Facts, (X.FactsW x68 w66 (L14)) ∧
         (∀ x69 : Addr × List Value, (x69 ∈ x63) →
          x69 ∈ x68) ∧
         if ((b62 == b67) == true) = true then
          X.CallX Try.prog 9 #[(.agg #[(.int .u8 a_0), (.int .u8 a_1), (.int .u8 a_2), (.int .u32 a_3), (.int .u32 a_4), (.int .u32 a_5), (.int .u32 a_6), (.int .u64 a_7), (.int .u64 a_8), (.int .u8 a_9), (.int .u16 a_10), (.int .u32 a_11), (.int .u8 a_12), (.int .u8 a_13), (.int .u8 a_14), (.int .u8 a_15), (.int .u8 a_16), (.int .u8 a_17), (.int .u8 a_18), (.slice (a_19) a_19l a_19c), (.int .u8 a_20), (.string a_21), (.int .u8 a_22), (.int .u32 a_23), (.slice (a_24) a_24l a_24c), (.int .u8 a_25), (.int .u16 a_26), (.bool a_27), (.slice (a_28) a_28l a_28c), (.slice (a_29) a_29l a_29c), (.slice (a_30) a_30l a_30c)])] w66 fun e84 w85 =>
           ∃ n86 : Int, ∃ n87 : Int, ∃ n88 : Int, ∃ n89 : Int, ∃ n90 : Int, ∃ n91 : Int, ∃ n92 : Int, ∃ n93 : Int, ∃ n94 : Int, ∃ n95 : Int, ∃ n96 : Int, ∃ n97 : Int, ∃ n98 : Int, ∃ n99 : Int, ∃ n100 : Int, ∃ n101 : Int, ∃ n102 : Int, ∃ n103 : Int, ∃ n104 : Int, ∃ q105 : Option Addr, ∃ k106 : Nat, ∃ k107 : Nat, ∃ n108 : Int, ∃ s109 : ByteArray, ∃ n110 : Int, ∃ n111 : Int, ∃ q112 : Option Addr, ∃ k113 : Nat, ∃ k114 : Nat, ∃ n115 : Int, ∃ n116 : Int, ∃ b117 : Bool, ∃ q118 : Option Addr, ∃ k119 : Nat, ∃ k120 : Nat, ∃ q121 : Option Addr, ∃ k122 : Nat, ∃ k123 : Nat, ∃ q124 : Option Addr, ∃ k125 : Nat, ∃ k126 : Nat, (e84 = .returned (.agg #[(.int .u8 n86), (.int .u8 n87), (.int .u8 n88), (.int .u32 n89), (.int .u32 n90), (.int .u32 n91), (.int .u32 n92), (.int .u64 n93), (.int .u64 n94), (.int .u8 n95), (.int .u16 n96), (.int .u32 n97), (.int .u8 n98), (.int .u8 n99), (.int .u8 n100), (.int .u8 n101), (.int .u8 n102), (.int .u8 n103), (.int .u8 n104), (.slice (q105) k106 k107), (.int .u8 n108), (.string s109), (.int .u8 n110), (.int .u32 n111), (.slice (q112) k113 k114), (.int .u8 n115), (.int .u16 n116), (.bool b117), (.slice (q118) k119 k120), (.slice (q121) k122 k123), (.slice (q124) k125 k126)])) ∧
           (X.Kept L14 w66 w85) ∧
           (X.FactsW x68 w85 (L14)) ∧
           ∃ x127 : X.Facts, (X.FactsW x127 w85 (L14)) ∧
           (∀ x128 : Addr × List Value, (x128 ∈ x68) →
            x128 ∈ x127) ∧
           X.CallX Try.prog 9 #[(.agg #[(.int .u8 b_0), (.int .u8 b_1), (.int .u8 b_2), (.int .u32 b_3), (.int .u32 b_4), (.int .u32 b_5), (.int .u32 b_6), (.int .u64 b_7), (.int .u64 b_8), (.int .u8 b_9), (.int .u16 b_10), (.int .u32 b_11), (.int .u8 b_12), (.int .u8 b_13), (.int .u8 b_14), (.int .u8 b_15), (.int .u8 b_16), (.int .u8 b_17), (.int .u8 b_18), (.slice (b_19) b_19l b_19c), (.int .u8 b_20), (.string b_21), (.int .u8 b_22), (.int .u32 b_23), (.slice (b_24) b_24l b_24c), (.int .u8 b_25), (.int .u16 b_26), (.bool b_27), (.slice (b_28) b_28l b_28c), (.slice (b_29) b_29l b_29c), (.slice (b_30) b_30l b_30c)])] w85 fun e129 w130 =>
            ∃ n131 : Int, ∃ n132 : Int, ∃ n133 : Int, ∃ n134 : Int, ∃ n135 : Int, ∃ n136 : Int, ∃ n137 : Int, ∃ n138 : Int, ∃ n139 : Int, ∃ n140 : Int, ∃ n141 : Int, ∃ n142 : Int, ∃ n143 : Int, ∃ n144 : Int, ∃ n145 : Int, ∃ n146 : Int, ∃ n147 : Int, ∃ n148 : Int, ∃ n149 : Int, ∃ q150 : Option Addr, ∃ k151 : Nat, ∃ k152 : Nat, ∃ n153 : Int, ∃ s154 : ByteArray, ∃ n155 : Int, ∃ n156 : Int, ∃ q157 : Option Addr, ∃ k158 : Nat, ∃ k159 : Nat, ∃ n160 : Int, ∃ n161 : Int, ∃ b162 : Bool, ∃ q163 : Option Addr, ∃ k164 : Nat, ∃ k165 : Nat, ∃ q166 : Option Addr, ∃ k167 : Nat, ∃ k168 : Nat, ∃ q169 : Option Addr, ∃ k170 : Nat, ∃ k171 : Nat, (e129 = .returned (.agg #[(.int .u8 n131), (.int .u8 n132), (.int .u8 n133), (.int .u32 n134), (.int .u32 n135), (.int .u32 n136), (.int .u32 n137), (.int .u64 n138), (.int .u64 n139), (.int .u8 n140), (.int .u16 n141), (.int .u32 n142), (.int .u8 n143), (.int .u8 n144), (.int .u8 n145), (.int .u8 n146), (.int .u8 n147), (.int .u8 n148), (.int .u8 n149), (.slice (q150) k151 k152), (.int .u8 n153), (.string s154), (.int .u8 n155), (.int .u32 n156), (.slice (q157) k158 k159), (.int .u8 n160), (.int .u16 n161), (.bool b162), (.slice (q163) k164 k165), (.slice (q166) k167 k168), (.slice (q169) k170 k171)])) ∧
            (X.Kept L14 w85 w130) ∧
            (X.FactsW x127 w130 (L14)) ∧
            ∃ x172 : X.Facts, (X.FactsW x172 w130 (L14)) ∧
            (∀ x173 : Addr × List Value, (x173 ∈ x127) →
             x173 ∈ x172) ∧
            X.CallX Try.prog 12 #[(.agg #[(.int .u8 n86), (.int .u8 n87), (.int .u8 n88), (.int .u32 n89), (.int .u32 n90), (.int .u32 n91), (.int .u32 n92), (.int .u64 n93), (.int .u64 n94), (.int .u8 n95), (.int .u16 n96), (.int .u32 n97), (.int .u8 n98), (.int .u8 n99), (.int .u8 n100), (.int .u8 n101), (.int .u8 n102), (.int .u8 n103), (.int .u8 n104), (.slice (q105) k106 k107), (.int .u8 n108), (.string s109), (.int .u8 n110), (.int .u32 n111), (.slice (q112) k113 k114), (.int .u8 n115), (.int .u16 n116), (.bool b117), (.slice (q118) k119 k120), (.slice (q121) k122 k123), (.slice (q124) k125 k126)]), (.agg #[(.int .u8 n131), (.int .u8 n132), (.int .u8 n133), (.int .u32 n134), (.int .u32 n135), (.int .u32 n136), (.int .u32 n137), (.int .u64 n138), (.int .u64 n139), (.int .u8 n140), (.int .u16 n141), (.int .u32 n142), (.int .u8 n143), (.int .u8 n144), (.int .u8 n145), (.int .u8 n146), (.int .u8 n147), (.int .u8 n148), (.int .u8 n149), (.slice (q150) k151 k152), (.int .u8 n153), (.string s154), (.int .u8 n155), (.int .u32 n156), (.slice (q157) k158 k159), (.int .u8 n160), (.int .u16 n161), (.bool b162), (.slice (q163) k164 k165), (.slice (q166) k167 k168), (.slice (q169) k170 k171)])] w130 fun e174 w175 =>
             ∃ b176 : Bool, (e174 = .returned (.bool b176)) ∧
             (X.Kept L14 w130 w175) ∧
             (X.FactsW x172 w175 (L14)) ∧
             ∃ x177 : X.Facts, (X.FactsW x177 w175 (L14)) ∧
             (∀ x178 : Addr × List Value, (x178 ∈ x172) →
              x178 ∈ x177) ∧
             X.CallX Try.prog 13 #[(.agg #[(.int .u8 a_0), (.int .u8 a_1), (.int .u8 a_2), (.int .u32 a_3), (.int .u32 a_4), (.int .u32 a_5), (.int .u32 a_6), (.int .u64 a_7), (.int .u64 a_8), (.int .u8 a_9), (.int .u16 a_10), (.int .u32 a_11), (.int .u8 a_12), (.int .u8 a_13), (.int .u8 a_14), (.int .u8 a_15), (.int .u8 a_16), (.int .u8 a_17), (.int .u8 a_18), (.slice (a_19) a_19l a_19c), (.int .u8 a_20), (.string a_21), (.int .u8 a_22), (.int .u32 a_23), (.slice (a_24) a_24l a_24c), (.int .u8 a_25), (.int .u16 a_26), (.bool a_27), (.slice (a_28) a_28l a_28c), (.slice (a_29) a_29l a_29c), (.slice (a_30) a_30l a_30c)]), (.agg #[(.int .u8 b_0), (.int .u8 b_1), (.int .u8 b_2), (.int .u32 b_3), (.int .u32 b_4), (.int .u32 b_5), (.int .u32 b_6), (.int .u64 b_7), (.int .u64 b_8), (.int .u8 b_9), (.int .u16 b_10), (.int .u32 b_11), (.int .u8 b_12), (.int .u8 b_13), (.int .u8 b_14), (.int .u8 b_15), (.int .u8 b_16), (.int .u8 b_17), (.int .u8 b_18), (.slice (b_19) b_19l b_19c), (.int .u8 b_20), (.string b_21), (.int .u8 b_22), (.int .u32 b_23), (.slice (b_24) b_24l b_24c), (.int .u8 b_25), (.int .u16 b_26), (.bool b_27), (.slice (b_28) b_28l b_28c), (.slice (b_29) b_29l b_29c), (.slice (b_30) b_30l b_30c)])] w175 fun e179 w180 =>
              ∃ b181 : Bool, (e179 = .returned (.bool b181)) ∧
              (X.Kept L14 w175 w180) ∧
              (X.FactsW x177 w180 (L14)) ∧
              ∃ x182 : X.Facts, (X.FactsW x182 w180 (L14)) ∧
              (∀ x183 : Addr × List Value, (x183 ∈ x177) →
               x183 ∈ x182) ∧
              if ((true && (b176 == b181)) == true) = true then
               X.CallX Try.prog 9 #[(.agg #[(.int .u8 a_0), (.int .u8 a_1), (.int .u8 a_2), (.int .u32 a_3), (.int .u32 a_4), (.int .u32 a_5), (.int .u32 a_6), (.int .u64 a_7), (.int .u64 a_8), (.int .u8 a_9), (.int .u16 a_10), (.int .u32 a_11), (.int .u8 a_12), (.int .u8 a_13), (.int .u8 a_14), (.int .u8 a_15), (.int .u8 a_16), (.int .u8 a_17), (.int .u8 a_18), (.slice (a_19) a_19l a_19c), (.int .u8 a_20), (.string a_21), (.int .u8 a_22), (.int .u32 a_23), (.slice (a_24) a_24l a_24c), (.int .u8 a_25), (.int .u16 a_26), (.bool a_27), (.slice (a_28) a_28l a_28c), (.slice (a_29) a_29l a_29c), (.slice (a_30) a_30l a_30c)])] w180 fun e190 w191 =>
                ∃ n192 : Int, ∃ n193 : Int, ∃ n194 : Int, ∃ n195 : Int, ∃ n196 : Int, ∃ n197 : Int, ∃ n198 : Int, ∃ n199 : Int, ∃ n200 : Int, ∃ n201 : Int, ∃ n202 : Int, ∃ n203 : Int, ∃ n204 : Int, ∃ n205 : Int, ∃ n206 : Int, ∃ n207 : Int, ∃ n208 : Int, ∃ n209 : Int, ∃ n210 : Int, ∃ q211 : Option Addr, ∃ k212 : Nat, ∃ k213 : Nat, ∃ n214 : Int, ∃ s215 : ByteArray, ∃ n216 : Int, ∃ n217 : Int, ∃ q218 : Option Addr, ∃ k219 : Nat, ∃ k220 : Nat, ∃ n221 : Int, ∃ n222 : Int, ∃ b223 : Bool, ∃ q224 : Option Addr, ∃ k225 : Nat, ∃ k226 : Nat, ∃ q227 : Option Addr, ∃ k228 : Nat, ∃ k229 : Nat, ∃ q230 : Option Addr, ∃ k231 : Nat, ∃ k232 : Nat, (e190 = .returned (.agg #[(.int .u8 n192), (.int .u8 n193), (.int .u8 n194), (.int .u32 n195), (.int .u32 n196), (.int .u32 n197), (.int .u32 n198), (.int .u64 n199), (.int .u64 n200), (.int .u8 n201), (.int .u16 n202), (.int .u32 n203), (.int .u8 n204), (.int .u8 n205), (.int .u8 n206), (.int .u8 n207), (.int .u8 n208), (.int .u8 n209), (.int .u8 n210), (.slice (q211) k212 k213), (.int .u8 n214), (.string s215), (.int .u8 n216), (.int .u32 n217), (.slice (q218) k219 k220), (.int .u8 n221), (.int .u16 n222), (.bool b223), (.slice (q224) k225 k226), (.slice (q227) k228 k229), (.slice (q230) k231 k232)])) ∧
                (X.Kept L14 w180 w191) ∧
                (X.FactsW x182 w191 (L14)) ∧
                ∃ x233 : X.Facts, (X.FactsW x233 w191 (L14)) ∧
                (∀ x234 : Addr × List Value, (x234 ∈ x182) →
                 x234 ∈ x233) ∧
                X.CallX Try.prog 9 #[(.agg #[(.int .u8 a_0), (.int .u8 a_1), (.int .u8 a_2), (.int .u32 a_3), (.int .u32 a_4), (.int .u32 a_5), (.int .u32 a_6), (.int .u64 a_7), (.int .u64 a_8), (.int .u8 a_9), (.int .u16 a_10), (.int .u32 a_11), (.int .u8 a_12), (.int .u8 a_13), (.int .u8 a_14), (.int .u8 a_15), (.int .u8 a_16), (.int .u8 a_17), (.int .u8 a_18), (.slice (a_19) a_19l a_19c), (.int .u8 a_20), (.string a_21), (.int .u8 a_22), (.int .u32 a_23), (.slice (a_24) a_24l a_24c), (.int .u8 a_25), (.int .u16 a_26), (.bool a_27), (.slice (a_28) a_28l a_28c), (.slice (a_29) a_29l a_29c), (.slice (a_30) a_30l a_30c)])] w191 fun e235 w236 =>
                 ∃ n237 : Int, ∃ n238 : Int, ∃ n239 : Int, ∃ n240 : Int, ∃ n241 : Int, ∃ n242 : Int, ∃ n243 : Int, ∃ n244 : Int, ∃ n245 : Int, ∃ n246 : Int, ∃ n247 : Int, ∃ n248 : Int, ∃ n249 : Int, ∃ n250 : Int, ∃ n251 : Int, ∃ n252 : Int, ∃ n253 : Int, ∃ n254 : Int, ∃ n255 : Int, ∃ q256 : Option Addr, ∃ k257 : Nat, ∃ k258 : Nat, ∃ n259 : Int, ∃ s260 : ByteArray, ∃ n261 : Int, ∃ n262 : Int, ∃ q263 : Option Addr, ∃ k264 : Nat, ∃ k265 : Nat, ∃ n266 : Int, ∃ n267 : Int, ∃ b268 : Bool, ∃ q269 : Option Addr, ∃ k270 : Nat, ∃ k271 : Nat, ∃ q272 : Option Addr, ∃ k273 : Nat, ∃ k274 : Nat, ∃ q275 : Option Addr, ∃ k276 : Nat, ∃ k277 : Nat, (e235 = .returned (.agg #[(.int .u8 n237), (.int .u8 n238), (.int .u8 n239), (.int .u32 n240), (.int .u32 n241), (.int .u32 n242), (.int .u32 n243), (.int .u64 n244), (.int .u64 n245), (.int .u8 n246), (.int .u16 n247), (.int .u32 n248), (.int .u8 n249), (.int .u8 n250), (.int .u8 n251), (.int .u8 n252), (.int .u8 n253), (.int .u8 n254), (.int .u8 n255), (.slice (q256) k257 k258), (.int .u8 n259), (.string s260), (.int .u8 n261), (.int .u32 n262), (.slice (q263) k264 k265), (.int .u8 n266), (.int .u16 n267), (.bool b268), (.slice (q269) k270 k271), (.slice (q272) k273 k274), (.slice (q275) k276 k277)])) ∧
                 (X.Kept L14 w191 w236) ∧
                 (X.FactsW x233 w236 (L14)) ∧
                 ∃ x278 : X.Facts, (X.FactsW x278 w236 (L14)) ∧
                 (∀ x279 : Addr × List Value, (x279 ∈ x233) →
                  x279 ∈ x278) ∧
                 X.CallX Try.prog 12 #[(.agg #[(.int .u8 n192), (.int .u8 n193), (.int .u8 n194), (.int .u32 n195), (.int .u32 n196), (.int .u32 n197), (.int .u32 n198), (.int .u64 n199), (.int .u64 n200), (.int .u8 n201), (.int .u16 n202), (.int .u32 n203), (.int .u8 n204), (.int .u8 n205), (.int .u8 n206), (.int .u8 n207), (.int .u8 n208), (.int .u8 n209), (.int .u8 n210), (.slice (q211) k212 k213), (.int .u8 n214), (.string s215), (.int .u8 n216), (.int .u32 n217), (.slice (q218) k219 k220), (.int .u8 n221), (.int .u16 n222), (.bool b223), (.slice (q224) k225 k226), (.slice (q227) k228 k229), (.slice (q230) k231 k232)]), (.agg #[(.int .u8 n237), (.int .u8 n238), (.int .u8 n239), (.int .u32 n240), (.int .u32 n241), (.int .u32 n242), (.int .u32 n243), (.int .u64 n244), (.int .u64 n245), (.int .u8 n246), (.int .u16 n247), (.int .u32 n248), (.int .u8 n249), (.int .u8 n250), (.int .u8 n251), (.int .u8 n252), (.int .u8 n253), (.int .u8 n254), (.int .u8 n255), (.slice (q256) k257 k258), (.int .u8 n259), (.string s260), (.int .u8 n261), (.int .u32 n262), (.slice (q263) k264 k265), (.int .u8 n266), (.int .u16 n267), (.bool b268), (.slice (q269) k270 k271), (.slice (q272) k273 k274), (.slice (q275) k276 k277)])] w236 fun e280 w281 =>
                  ∃ b282 : Bool, (e280 = .returned (.bool b282)) ∧
                  (X.Kept L14 w236 w281) ∧
                  (X.FactsW x278 w281 (L14)) ∧
                  ∃ x283 : X.Facts, (X.FactsW x283 w281 (L14)) ∧
                  (∀ x284 : Addr × List Value, (x284 ∈ x278) →
                   x284 ∈ x283) ∧
                  if ((true && b282) == true) = true then
                   X.CallX Try.prog 14 #[(.int .u8 a_0)] w281 fun e285 w286 =>
                    ∃ s287 : ByteArray, (e285 = .returned (.string s287)) ∧
                    (X.Kept L14 w281 w286) ∧
                    (X.FactsW x283 w286 (L14)) ∧
                    X.CallX Try.prog 15 #[(.int .u8 a_0)] w286 fun e288 w289 =>
                     ∃ s290 : ByteArray, (e288 = .returned (.string s290)) ∧
                     (X.Kept L14 w286 w289) ∧
                     (X.FactsW x283 w289 (L14)) ∧
                     if ((true && ((s287.toList) == (s290.toList))) == true) = true then
                      X.CallX Try.prog 8 #[] w289 fun e291 w292 =>
                       ∃ b293 : Bool, (e291 = .returned (.bool b293)) ∧
                       (X.Kept L14 w289 w292) ∧
                       (X.FactsW x283 w292 (L14)) ∧
                       R (.returned (.bool (true && b293))) w292
                     else
                      R (.returned (.bool false)) w289
                  else
                   R (.returned (.bool false)) w281
              else
               ∃ x184 : X.Facts, (X.FactsW x184 w180 (L14)) ∧
               (∀ x185 : Addr × List Value, (x185 ∈ x182) →
                x185 ∈ x184) ∧
               ∃ x186 : X.Facts, (X.FactsW x186 w180 (L14)) ∧
               (∀ x187 : Addr × List Value, (x187 ∈ x184) →
                x187 ∈ x186) ∧
               ∃ x188 : X.Facts, (X.FactsW x188 w180 (L14)) ∧
               (∀ x189 : Addr × List Value, (x189 ∈ x186) →
                x189 ∈ x188) ∧
               R (.returned (.bool false)) w180
         else
          ∃ x70 : X.Facts, (X.FactsW x70 w66 (L14)) ∧
          (∀ x71 : Addr × List Value, (x71 ∈ x68) →
           x71 ∈ x70) ∧
          ∃ x72 : X.Facts, (X.FactsW x72 w66 (L14)) ∧
          (∀ x73 : Addr × List Value, (x73 ∈ x70) →
           x73 ∈ x72) ∧
          ∃ x74 : X.Facts, (X.FactsW x74 w66 (L14)) ∧
          (∀ x75 : Addr × List Value, (x75 ∈ x72) →
           x75 ∈ x74) ∧
          ∃ x76 : X.Facts, (X.FactsW x76 w66 (L14)) ∧
          (∀ x77 : Addr × List Value, (x77 ∈ x74) →
           x77 ∈ x76) ∧
          ∃ x78 : X.Facts, (X.FactsW x78 w66 (L14)) ∧
          (∀ x79 : Addr × List Value, (x79 ∈ x76) →
           x79 ∈ x78) ∧
          ∃ x80 : X.Facts, (X.FactsW x80 w66 (L14)) ∧
          (∀ x81 : Addr × List Value, (x81 ∈ x78) →
           x81 ∈ x80) ∧
          ∃ x82 : X.Facts, (X.FactsW x82 w66 (L14)) ∧
          (∀ x83 : Addr × List Value, (x83 ∈ x80) →
           x83 ∈ x82) ∧
          R (.returned (.bool false)) w66
   else
    X.CallX Try.prog 8 #[] w4 fun e6 w7 =>
     ∃ b8 : Bool, (e6 = .returned (.bool b8)) ∧
     (X.Kept L2 w4 w7) ∧
     R (.returned (.bool b8)) w7) :
    Calls Try.prog 3 #[.agg #[.int .u8 a_0, .int .u8 a_1, .int .u8 a_2, .int .u32 a_3, .int .u32 a_4, .int .u32 a_5, .int .u32 a_6, .int .u64 a_7, .int .u64 a_8, .int .u8 a_9, .int .u16 a_10, .int .u32 a_11, .int .u8 a_12, .int .u8 a_13, .int .u8 a_14, .int .u8 a_15, .int .u8 a_16, .int .u8 a_17, .int .u8 a_18, .slice a_19 a_19l a_19c, .int .u8 a_20, .string a_21, .int .u8 a_22, .int .u32 a_23, .slice a_24 a_24l a_24c, .int .u8 a_25, .int .u16 a_26, .bool a_27, .slice a_28 a_28l a_28c, .slice a_29 a_29l a_29c, .slice a_30 a_30l a_30c], .agg #[.int .u8 b_0, .int .u8 b_1, .int .u8 b_2, .int .u32 b_3, .int .u32 b_4, .int .u32 b_5, .int .u32 b_6, .int .u64 b_7, .int .u64 b_8, .int .u8 b_9, .int .u16 b_10, .int .u32 b_11, .int .u8 b_12, .int .u8 b_13, .int .u8 b_14, .int .u8 b_15, .int .u8 b_16, .int .u8 b_17, .int .u8 b_18, .slice b_19 b_19l b_19c, .int .u8 b_20, .string b_21, .int .u8 b_22, .int .u32 b_23, .slice b_24 b_24l b_24c, .int .u8 b_25, .int .u16 b_26, .bool b_27, .slice b_28 b_28l b_28c, .slice b_29 b_29l b_29c, .slice b_30 b_30l b_30c]] w R :=
  X.calls_of { isLoc := [2, 3], sym := [], loops := [], joins := [] } Try.func3 (by kernel_rfl) h
abbrev fn_WireBounds : Nat := 4
theorem x_WireBounds (a_0 a_1 a_2 a_3 a_4 a_5 a_6 a_7 a_8 a_9 a_10 a_11 : Int) (a_12 : Option Addr) (a_12l a_12c : Nat) (a_13 : Int) (a_14 : ByteArray) (a_15 : Option Addr) (a_15l a_15c : Nat) (a_16 a_17 b c d : Int) (w : World) (R : Ending → World → Prop) (h :
  ∀ w1 : World, ∀ L2 : List Nat, (X.Hid [] w w1) →
  (X.NewL (w).heap.size [] w w1 L2) →
  X.CallX Try.prog 16 #[(.slice (some ⟨(w1).heap.size, 0, none⟩) 1 1)] (w1.alloc (.cells #[(.int .u8 a_0), (.int .u8 a_1), (.int .u16 a_2), (.int .u32 a_3), (.int .u8 a_4), (.int .u8 a_5), (.int .u8 a_6), (.int .u8 a_7), (.int .u8 a_8), (.int .u8 a_9), (.int .u8 a_10), (.int .u32 a_11), (.slice (a_12) a_12l a_12c), (.int .u8 a_13), (.string a_14), (.slice (a_15) a_15l a_15c), (.int .u8 a_16), (.int .u16 a_17)] 62)) fun e3 w4 =>
   ∃ b5 : Bool, (e3 = .returned (.bool b5)) ∧
   (X.Kept L2 (w1.alloc (.cells #[(.int .u8 a_0), (.int .u8 a_1), (.int .u16 a_2), (.int .u32 a_3), (.int .u8 a_4), (.int .u8 a_5), (.int .u8 a_6), (.int .u8 a_7), (.int .u8 a_8), (.int .u8 a_9), (.int .u8 a_10), (.int .u32 a_11), (.slice (a_12) a_12l a_12c), (.int .u8 a_13), (.string a_14), (.slice (a_15) a_15l a_15c), (.int .u8 a_16), (.int .u16 a_17)] 62)) w4) ∧
   if ((!b5) == false) = true then
    X.CallX Try.prog 17 #[(.agg #[(.int .u8 a_0), (.int .u8 a_1), (.int .u16 a_2), (.int .u32 a_3), (.int .u8 a_4), (.int .u8 a_5), (.int .u8 a_6), (.int .u8 a_7), (.int .u8 a_8), (.int .u8 a_9), (.int .u8 a_10), (.int .u32 a_11), (.slice (a_12) a_12l a_12c), (.int .u8 a_13), (.string a_14), (.slice (a_15) a_15l a_15c), (.int .u8 a_16), (.int .u16 a_17)]), (.int .u8 (b.tmod 4))] w4 fun e9 w10 =>
     ∃ b11 : Bool, (e9 = .returned (.bool b11)) ∧
     (X.Kept L2 w4 w10) ∧
     if ((false || (!b11)) == false) = true then
      X.CallX Try.prog 8 #[] w10 fun e15 w16 =>
       ∃ b17 : Bool, (e15 = .returned (.bool b17)) ∧
       (X.Kept L2 w10 w16) ∧
       if (false || (!b17)) = true then
        X.CallX Try.prog 8 #[] w16 fun e186 w187 =>
         ∃ b188 : Bool, (e186 = .returned (.bool b188)) ∧
         (X.Kept L2 w16 w187) ∧
         R (.returned (.bool b188)) w187
       else
        ∃ x18 : Option Addr → Nat → Nat → Int → World → List Nat → Prop, ∃ x19 : Option Addr → Nat → Nat → Int → World → Nat, (x18 (none) 0 0 0 w16 (L2)) ∧
        ∀ q20 : Option Addr, ∀ k21 : Nat, ∀ k22 : Nat, ∀ n23 : Int, ∀ w24 : World, ∀ L25 : List Nat, (X.LF (w).heap.size w24 L25) →
        (x18 q20 k21 k22 n23 w24 L25) →
        if (decide (n23 < (IntKind.wrap .i64 (398 + ((IntKind.i64.wrap (d.tmod 5 + 5)).tmod 5))))) = true then
         ∃ q182 : Option Addr, ∃ k183 : Nat, ∃ k184 : Nat, ∃ w185 : World, (Sem.run Try.prog (Go.Builtin.append_ #[38, 38] 38 #[(.slice (q20) k21 k22), (.slice (some ⟨(w24).heap.size, 0, none⟩) 1 1)]) (w24.alloc (.cells #[(.int .u8 a_0), (.int .u8 a_1), (.int .u16 a_2), (.int .u32 a_3), (.int .u8 a_4), (.int .u8 a_5), (.int .u8 a_6), (.int .u8 a_7), (.int .u8 a_8), (.int .u8 a_9), (.int .u8 a_10), (.int .u32 a_11), (.slice (a_12) a_12l a_12c), (.int .u8 a_13), (.string a_14), (.slice (a_15) a_15l a_15c), (.int .u8 a_16), (.int .u16 a_17)] 62)) = .ok (.slice (q182) k183 k184) w185) ∧
         (X.Kept L25 (w24.alloc (.cells #[(.int .u8 a_0), (.int .u8 a_1), (.int .u16 a_2), (.int .u32 a_3), (.int .u8 a_4), (.int .u8 a_5), (.int .u8 a_6), (.int .u8 a_7), (.int .u8 a_8), (.int .u8 a_9), (.int .u8 a_10), (.int .u32 a_11), (.slice (a_12) a_12l a_12c), (.int .u8 a_13), (.string a_14), (.slice (a_15) a_15l a_15c), (.int .u8 a_16), (.int .u16 a_17)] 62)) w185) ∧
         (([(.int .u8 a_0), (.int .u8 a_1), (.int .u16 a_2), (.int .u32 a_3), (.int .u8 a_4), (.int .u8 a_5), (.int .u8 a_6), (.int .u8 a_7), (.int .u8 a_8), (.int .u8 a_9), (.int .u8 a_10), (.int .u32 a_11), (.slice (a_12) a_12l a_12c), (.int .u8 a_13), (.string a_14), (.slice (a_15) a_15l a_15c), (.int .u8 a_16), (.int .u16 a_17)] : List Value) = [(.int .u8 a_0), (.int .u8 a_1), (.int .u16 a_2), (.int .u32 a_3), (.int .u8 a_4), (.int .u8 a_5), (.int .u8 a_6), (.int .u8 a_7), (.int .u8 a_8), (.int .u8 a_9), (.int .u8 a_10), (.int .u32 a_11), (.slice (a_12) a_12l a_12c), (.int .u8 a_13), (.string a_14), (.slice (a_15) a_15l a_15c), (.int .u8 a_16), (.int .u16 a_17)]) ∧
         (x18 q182 k183 k184 (IntKind.wrap .i64 (n23 + 1)) w185 (L25)) ∧
         Nat.le ((x19 q182 k183 k184 (IntKind.wrap .i64 (n23 + 1)) w185) + 1) (x19 q20 k21 k22 n23 w24)
        else
         ((0 : Int) ≤ (IntKind.wrap .i64 ((IntKind.wrap .i64 (398 + ((IntKind.i64.wrap (d.tmod 5 + 5)).tmod 5))) - 398))) ∧
         ((IntKind.wrap .i64 ((IntKind.wrap .i64 (398 + ((IntKind.i64.wrap (d.tmod 5 + 5)).tmod 5))) - 398)) ≤ ((k22 : Nat) : Int)) ∧
         ∃ x26 : X.Facts, (X.FactsW x26 w24 (L25)) ∧
         ∀ w27 : World, ∀ L28 : List Nat, (X.Hid (L25) w24 w27) →
         (X.NewL (w).heap.size (L25) w24 w27 L28) →
         X.CallX Try.prog 9 #[(.agg #[(.int .u8 3), (.int .u8 (b.tmod 4)), (.int .u8 0), (.int .u32 1), (.int .u32 (c.tmod 402)), (.int .u32 0), (.int .u32 0), (.int .u64 0), (.int .u64 0), (.int .u8 0), (.int .u16 0), (.int .u32 0), (.int .u8 0), (.int .u8 0), (.int .u8 0), (.int .u8 0), (.int .u8 0), (.int .u8 0), (.int .u8 0), (.slice none 0 0), (.int .u8 0), (.string (ByteArray.mk #[])), (.int .u8 0), (.int .u32 0), (.slice none 0 0), (.int .u8 0), (.int .u16 0), (.bool false), (.slice none 0 0), (.slice (X.cutA (q20) k22 0 18) ((IntKind.wrap .i64 ((IntKind.wrap .i64 (398 + ((IntKind.i64.wrap (d.tmod 5 + 5)).tmod 5))) - 398))).toNat k22), (.slice none 0 0)])] w27 fun e29 w30 =>
          ∃ n31 : Int, ∃ n32 : Int, ∃ n33 : Int, ∃ n34 : Int, ∃ n35 : Int, ∃ n36 : Int, ∃ n37 : Int, ∃ n38 : Int, ∃ n39 : Int, ∃ n40 : Int, ∃ n41 : Int, ∃ n42 : Int, ∃ n43 : Int, ∃ n44 : Int, ∃ n45 : Int, ∃ n46 : Int, ∃ n47 : Int, ∃ n48 : Int, ∃ n49 : Int, ∃ q50 : Option Addr, ∃ k51 : Nat, ∃ k52 : Nat, ∃ n53 : Int, ∃ s54 : ByteArray, ∃ n55 : Int, ∃ n56 : Int, ∃ q57 : Option Addr, ∃ k58 : Nat, ∃ k59 : Nat, ∃ n60 : Int, ∃ n61 : Int, ∃ b62 : Bool, ∃ q63 : Option Addr, ∃ k64 : Nat, ∃ k65 : Nat, ∃ q66 : Option Addr, ∃ k67 : Nat, ∃ k68 : Nat, ∃ q69 : Option Addr, ∃ k70 : Nat, ∃ k71 : Nat, (e29 = .returned (.agg #[(.int .u8 n31), (.int .u8 n32), (.int .u8 n33), (.int .u32 n34), (.int .u32 n35), (.int .u32 n36), (.int .u32 n37), (.int .u64 n38), (.int .u64 n39), (.int .u8 n40), (.int .u16 n41), (.int .u32 n42), (.int .u8 n43), (.int .u8 n44), (.int .u8 n45), (.int .u8 n46), (.int .u8 n47), (.int .u8 n48), (.int .u8 n49), (.slice (q50) k51 k52), (.int .u8 n53), (.string s54), (.int .u8 n55), (.int .u32 n56), (.slice (q57) k58 k59), (.int .u8 n60), (.int .u16 n61), (.bool b62), (.slice (q63) k64 k65), (.slice (q66) k67 k68), (.slice (q69) k70 k71)])) ∧
          (X.Kept L28 w27 w30) ∧
          (X.FactsW x26 w30 (L28)) ∧
          ∃ x72 : X.Facts, (X.FactsW x72 w30 (L28)) ∧
          (∀ x73 : Addr × List Value, (x73 ∈ x26) →
           x73 ∈ x72) ∧
          X.CallX Try.prog 10 #[(.agg #[(.int .u8 n31), (.int .u8 n32), (.int .u8 n33), (.int .u32 n34), (.int .u32 n35), (.int .u32 n36), (.int .u32 n37), (.int .u64 n38), (.int .u64 n39), (.int .u8 n40), (.int .u16 n41), (.int .u32 n42), (.int .u8 n43), (.int .u8 n44), (.int .u8 n45), (.int .u8 n46), (.int .u8 n47), (.int .u8 n48), (.int .u8 n49), (.slice (q50) k51 k52), (.int .u8 n53), (.string s54), (.int .u8 n55), (.int .u32 n56), (.slice (q57) k58 k59), (.int .u8 n60), (.int .u16 n61), (.bool b62), (.slice (q63) k64 k65), (.slice (q66) k67 k68), (.slice (q69) k70 k71)])] w30 fun e74 w75 =>
           ∃ b76 : Bool, (e74 = .returned (.bool b76)) ∧
           (X.Kept L28 w30 w75) ∧
           (X.FactsW x72 w75 (L28)) ∧
           ∃ x77 : X.Facts, (X.FactsW x77 w75 (L28)) ∧
           (∀ x78 : Addr × List Value, (x78 ∈ x72) →
            x78 ∈ x77) ∧
           if ((b76 == (decide ((IntKind.wrap .i64 ((IntKind.wrap .i64 ((IntKind.wrap .i64 (c.tmod 402)) + (IntKind.wrap .i64 (398 + ((IntKind.i64.wrap (d.tmod 5 + 5)).tmod 5))))) - 398)) ≤ 400))) == true) = true then
            X.CallX Try.prog 9 #[(.agg #[(.int .u8 8), (.int .u8 (b.tmod 4)), (.int .u8 0), (.int .u32 1), (.int .u32 0), (.int .u32 0), (.int .u32 0), (.int .u64 1), (.int .u64 0), (.int .u8 0), (.int .u16 0), (.int .u32 0), (.int .u8 0), (.int .u8 0), (.int .u8 0), (.int .u8 0), (.int .u8 0), (.int .u8 0), (.int .u8 0), (.slice none 0 0), (.int .u8 0), (.string (ByteArray.mk #[])), (.int .u8 0), (.int .u32 0), (.slice none 0 0), (.int .u8 0), (.int .u16 0), (.bool false), (.slice none 0 0), (.slice (q20) k21 k22), (.slice none 0 0)])] w75 fun e83 w84 =>
             ∃ n85 : Int, ∃ n86 : Int, ∃ n87 : Int, ∃ n88 : Int, ∃ n89 : Int, ∃ n90 : Int, ∃ n91 : Int, ∃ n92 : Int, ∃ n93 : Int, ∃ n94 : Int, ∃ n95 : Int, ∃ n96 : Int, ∃ n97 : Int, ∃ n98 : Int, ∃ n99 : Int, ∃ n100 : Int, ∃ n101 : Int, ∃ n102 : Int, ∃ n103 : Int, ∃ q104 : Option Addr, ∃ k105 : Nat, ∃ k106 : Nat, ∃ n107 : Int, ∃ s108 : ByteArray, ∃ n109 : Int, ∃ n110 : Int, ∃ q111 : Option Addr, ∃ k112 : Nat, ∃ k113 : Nat, ∃ n114 : Int, ∃ n115 : Int, ∃ b116 : Bool, ∃ q117 : Option Addr, ∃ k118 : Nat, ∃ k119 : Nat, ∃ q120 : Option Addr, ∃ k121 : Nat, ∃ k122 : Nat, ∃ q123 : Option Addr, ∃ k124 : Nat, ∃ k125 : Nat, (e83 = .returned (.agg #[(.int .u8 n85), (.int .u8 n86), (.int .u8 n87), (.int .u32 n88), (.int .u32 n89), (.int .u32 n90), (.int .u32 n91), (.int .u64 n92), (.int .u64 n93), (.int .u8 n94), (.int .u16 n95), (.int .u32 n96), (.int .u8 n97), (.int .u8 n98), (.int .u8 n99), (.int .u8 n100), (.int .u8 n101), (.int .u8 n102), (.int .u8 n103), (.slice (q104) k105 k106), (.int .u8 n107), (.string s108), (.int .u8 n109), (.int .u32 n110), (.slice (q111) k112 k113), (.int .u8 n114), (.int .u16 n115), (.bool b116), (.slice (q117) k118 k119), (.slice (q120) k121 k122), (.slice (q123) k124 k125)])) ∧
             (X.Kept L28 w75 w84) ∧
             (X.FactsW x77 w84 (L28)) ∧
             ∃ x126 : X.Facts, (X.FactsW x126 w84 (L28)) ∧
             (∀ x127 : Addr × List Value, (x127 ∈ x77) →
              x127 ∈ x126) ∧
             X.CallX Try.prog 10 #[(.agg #[(.int .u8 n85), (.int .u8 n86), (.int .u8 n87), (.int .u32 n88), (.int .u32 n89), (.int .u32 n90), (.int .u32 n91), (.int .u64 n92), (.int .u64 n93), (.int .u8 n94), (.int .u16 n95), (.int .u32 n96), (.int .u8 n97), (.int .u8 n98), (.int .u8 n99), (.int .u8 n100), (.int .u8 n101), (.int .u8 n102), (.int .u8 n103), (.slice (q104) k105 k106), (.int .u8 n107), (.string s108), (.int .u8 n109), (.int .u32 n110), (.slice (q111) k112 k113), (.int .u8 n114), (.int .u16 n115), (.bool b116), (.slice (q117) k118 k119), (.slice (q120) k121 k122), (.slice (q123) k124 k125)])] w84 fun e128 w129 =>
              ∃ b130 : Bool, (e128 = .returned (.bool b130)) ∧
              (X.Kept L28 w84 w129) ∧
              (X.FactsW x126 w129 (L28)) ∧
              ∃ x131 : X.Facts, (X.FactsW x131 w129 (L28)) ∧
              (∀ x132 : Addr × List Value, (x132 ∈ x126) →
               x132 ∈ x131) ∧
              if ((true && (b130 == (decide ((IntKind.wrap .i64 (398 + ((IntKind.i64.wrap (d.tmod 5 + 5)).tmod 5))) ≤ 400)))) == true) = true then
               X.CallX Try.prog 9 #[(.agg #[(.int .u8 3), (.int .u8 (b.tmod 4)), (.int .u8 0), (.int .u32 1), (.int .u32 (c.tmod 402)), (.int .u32 0), (.int .u32 0), (.int .u64 0), (.int .u64 0), (.int .u8 0), (.int .u16 0), (.int .u32 0), (.int .u8 0), (.int .u8 0), (.int .u8 0), (.int .u8 0), (.int .u8 0), (.int .u8 0), (.int .u8 0), (.slice none 0 0), (.int .u8 0), (.string (ByteArray.mk #[])), (.int .u8 0), (.int .u32 0), (.slice none 0 0), (.int .u8 0), (.int .u16 0), (.bool false), (.slice none 0 0), (.slice (X.cutA (q20) k22 0 18) ((IntKind.wrap .i64 ((IntKind.wrap .i64 (398 + ((IntKind.i64.wrap (d.tmod 5 + 5)).tmod 5))) - 398))).toNat k22), (.slice none 0 0)])] w129 fun e133 w134 =>
                ∃ n135 : Int, ∃ n136 : Int, ∃ n137 : Int, ∃ n138 : Int, ∃ n139 : Int, ∃ n140 : Int, ∃ n141 : Int, ∃ n142 : Int, ∃ n143 : Int, ∃ n144 : Int, ∃ n145 : Int, ∃ n146 : Int, ∃ n147 : Int, ∃ n148 : Int, ∃ n149 : Int, ∃ n150 : Int, ∃ n151 : Int, ∃ n152 : Int, ∃ n153 : Int, ∃ q154 : Option Addr, ∃ k155 : Nat, ∃ k156 : Nat, ∃ n157 : Int, ∃ s158 : ByteArray, ∃ n159 : Int, ∃ n160 : Int, ∃ q161 : Option Addr, ∃ k162 : Nat, ∃ k163 : Nat, ∃ n164 : Int, ∃ n165 : Int, ∃ b166 : Bool, ∃ q167 : Option Addr, ∃ k168 : Nat, ∃ k169 : Nat, ∃ q170 : Option Addr, ∃ k171 : Nat, ∃ k172 : Nat, ∃ q173 : Option Addr, ∃ k174 : Nat, ∃ k175 : Nat, (e133 = .returned (.agg #[(.int .u8 n135), (.int .u8 n136), (.int .u8 n137), (.int .u32 n138), (.int .u32 n139), (.int .u32 n140), (.int .u32 n141), (.int .u64 n142), (.int .u64 n143), (.int .u8 n144), (.int .u16 n145), (.int .u32 n146), (.int .u8 n147), (.int .u8 n148), (.int .u8 n149), (.int .u8 n150), (.int .u8 n151), (.int .u8 n152), (.int .u8 n153), (.slice (q154) k155 k156), (.int .u8 n157), (.string s158), (.int .u8 n159), (.int .u32 n160), (.slice (q161) k162 k163), (.int .u8 n164), (.int .u16 n165), (.bool b166), (.slice (q167) k168 k169), (.slice (q170) k171 k172), (.slice (q173) k174 k175)])) ∧
                (X.Kept L28 w129 w134) ∧
                (X.FactsW x131 w134 (L28)) ∧
                X.CallX Try.prog 10 #[(.agg #[(.int .u8 n135), (.int .u8 n136), (.int .u8 n137), (.int .u32 n138), (.int .u32 n139), (.int .u32 n140), (.int .u32 n141), (.int .u64 n142), (.int .u64 n143), (.int .u8 n144), (.int .u16 n145), (.int .u32 n146), (.int .u8 n147), (.int .u8 n148), (.int .u8 n149), (.int .u8 n150), (.int .u8 n151), (.int .u8 n152), (.int .u8 n153), (.slice (q154) k155 k156), (.int .u8 n157), (.string s158), (.int .u8 n159), (.int .u32 n160), (.slice (q161) k162 k163), (.int .u8 n164), (.int .u16 n165), (.bool b166), (.slice (q167) k168 k169), (.slice (q170) k171 k172), (.slice (q173) k174 k175)])] w134 fun e176 w177 =>
                 ∃ b178 : Bool, (e176 = .returned (.bool b178)) ∧
                 (X.Kept L28 w134 w177) ∧
                 (X.FactsW x131 w177 (L28)) ∧
                 X.CallX Try.prog 11 #[(.agg #[(.int .u8 3), (.int .u8 (b.tmod 4)), (.int .u8 0), (.int .u32 1), (.int .u32 (c.tmod 402)), (.int .u32 0), (.int .u32 0), (.int .u64 0), (.int .u64 0), (.int .u8 0), (.int .u16 0), (.int .u32 0), (.int .u8 0), (.int .u8 0), (.int .u8 0), (.int .u8 0), (.int .u8 0), (.int .u8 0), (.int .u8 0), (.slice none 0 0), (.int .u8 0), (.string (ByteArray.mk #[])), (.int .u8 0), (.int .u32 0), (.slice none 0 0), (.int .u8 0), (.int .u16 0), (.bool false), (.slice none 0 0), (.slice (X.cutA (q20) k22 0 18) ((IntKind.wrap .i64 ((IntKind.wrap .i64 (398 + ((IntKind.i64.wrap (d.tmod 5 + 5)).tmod 5))) - 398))).toNat k22), (.slice none 0 0)])] w177 fun e179 w180 =>
                  ∃ b181 : Bool, (e179 = .returned (.bool b181)) ∧
                  (X.Kept L28 w177 w180) ∧
                  (X.FactsW x131 w180 (L28)) ∧
                  R (.returned (.bool (true && (b178 == b181)))) w180
              else
               R (.returned (.bool false)) w129
           else
            ∃ x79 : X.Facts, (X.FactsW x79 w75 (L28)) ∧
            (∀ x80 : Addr × List Value, (x80 ∈ x77) →
             x80 ∈ x79) ∧
            ∃ x81 : X.Facts, (X.FactsW x81 w75 (L28)) ∧
            (∀ x82 : Addr × List Value, (x82 ∈ x79) →
             x82 ∈ x81) ∧
            R (.returned (.bool false)) w75
     else
      X.CallX Try.prog 8 #[] w10 fun e12 w13 =>
       ∃ b14 : Bool, (e12 = .returned (.bool b14)) ∧
       (X.Kept L2 w10 w13) ∧
       R (.returned (.bool b14)) w13
   else
    X.CallX Try.prog 8 #[] w4 fun e6 w7 =>
     ∃ b8 : Bool, (e6 = .returned (.bool b8)) ∧
     (X.Kept L2 w4 w7) ∧
     R (.returned (.bool b8)) w7) :
    Calls Try.prog 4 #[.agg #[.int .u8 a_0, .int .u8 a_1, .int .u16 a_2, .int .u32 a_3, .int .u8 a_4, .int .u8 a_5, .int .u8 a_6, .int .u8 a_7, .int .u8 a_8, .int .u8 a_9, .int .u8 a_10, .int .u32 a_11, .slice a_12 a_12l a_12c, .int .u8 a_13, .string a_14, .slice a_15 a_15l a_15c, .int .u8 a_16, .int .u16 a_17], .int .u8 b, .int .u32 c, .int .i64 d] w R :=
  X.calls_of { isLoc := [4, 11, 12], sym := [], loops := [(6, .inv [(9, .slice), (10, .int .i64)] [] true)], joins := [] } Try.func4 (by kernel_rfl) h
end Go.Proofs
