import Derived.Test.YtjphfelmaingjaaXFn
import Derived.Test.YtjphfelmaingjaaProg
set_option maxRecDepth 100000
set_option linter.unusedVariables false
/- The verification conditions of this seat's functions, as the engine has them: printed by a program of the bench; checked by the kernel. -/
namespace Go.Proofs
open Go
abbrev fn_Rnone : Nat := 101
theorem x_Rnone (a : Addr) (w : World) (R : Ending → World → Prop) (h :
  ∃ b1 : Bool, (World.cell? w (a.add 2) = some (.bool b1)) ∧
  R (.returned (.bool (false || (!b1)))) w) :
    Calls Try.prog 101 #[.pointer (some a)] w R :=
  X.calls_of { isLoc := [], sym := [], loops := [], joins := [] } Try.func101 (by kernel_rfl) h
abbrev fn_cfail : Nat := 122
theorem x_cfail (a : Addr) (b : Int) (w : World) (R : Ending → World → Prop) (h :
  ∃ n1 : Int, (World.cell? w (a.add 1) = some (.int .i64 n1)) ∧
  if (n1 == 0) = true then
   ((none : Option Nat) = none) ∧
   (World.there w (a.block) ((a.off) + 1) 1) ∧
   (((a.add 0).spot) = none) ∧
   (World.there (w.setCells (a.block) ((a.off) + 1) [(.int .i64 b)]) ((a.add 0).block) ((a.add 0).off) 1) ∧
   R (.returned (.tuple #[])) ((w.setCells (a.block) ((a.off) + 1) [(.int .i64 b)]).setCells ((a.add 0).block) ((a.add 0).off) [(.slice none 0 0)])
  else
   (((a.add 0).spot) = none) ∧
   (World.there w ((a.add 0).block) ((a.add 0).off) 1) ∧
   R (.returned (.tuple #[])) (w.setCells ((a.add 0).block) ((a.add 0).off) [(.slice none 0 0)])) :
    Calls Try.prog 122 #[.pointer (some a), .int .i64 b] w R :=
  X.calls_of { isLoc := [], sym := [], loops := [], joins := [] } Try.func122 (by kernel_rfl) h
abbrev fn_ctake : Nat := 102
theorem x_ctake (a : Addr) (b : Int) (w : World) (R : Ending → World → Prop) (h :
  ∃ n1 : Int, (World.cell? w (a.add 1) = some (.int .i64 n1)) ∧
  if ((n1 != 0) == false) = true then
   ∃ q4 : Option Addr, ∃ k5 : Nat, ∃ k6 : Nat, (World.cell? w (a.add 0) = some (.slice (q4) k5 k6)) ∧
   if (false || decide (b > (IntKind.wrap .u64 ((k5 : Nat) : Int)))) = true then
    X.CallX Try.prog 122 #[(.pointer (some a)), (.int .i64 6)] w fun e13 w14 =>
     (e13 = .returned (.tuple #[])) ∧
     ((w).heap.size ≤ (w14).heap.size) ∧
     R (.returned (.slice none 0 0)) w14
   else
    ∃ q7 : Option Addr, ∃ k8 : Nat, ∃ k9 : Nat, (World.cell? w (a.add 0) = some (.slice (q7) k8 k9)) ∧
    ((0 : Int) ≤ b) ∧
    (b ≤ ((k9 : Nat) : Int)) ∧
    ∃ q10 : Option Addr, ∃ k11 : Nat, ∃ k12 : Nat, (World.cell? w (a.add 0) = some (.slice (q10) k11 k12)) ∧
    ((0 : Int) ≤ b) ∧
    (b ≤ ((k11 : Nat) : Int)) ∧
    (((a.add 0).spot) = none) ∧
    (World.there w ((a.add 0).block) ((a.add 0).off) 1) ∧
    R (.returned (.slice (X.cutA (q7) k9 0 1) (b).toNat k9)) (w.setCells ((a.add 0).block) ((a.add 0).off) [(.slice (X.cutA (q10) k12 (b).toNat 1) (k11 - (b).toNat) (k12 - (b).toNat))])
  else
   X.CallX Try.prog 122 #[(.pointer (some a)), (.int .i64 6)] w fun e2 w3 =>
    (e2 = .returned (.tuple #[])) ∧
    ((w).heap.size ≤ (w3).heap.size) ∧
    R (.returned (.slice none 0 0)) w3) :
    Calls Try.prog 102 #[.pointer (some a), .int .u64 b] w R :=
  X.calls_of { isLoc := [], sym := [], loops := [], joins := [] } Try.func102 (by kernel_rfl) h
abbrev fn_clength : Nat := 121
theorem x_clength (a : Addr) (w : World) (R : Ending → World → Prop) (h :
  ∃ q1 : Option Addr, ∃ k2 : Nat, ∃ k3 : Nat, (World.cell? w (a.add 0) = some (.slice (q1) k2 k3)) ∧
  ∃ x4 : Int → World → List Nat → Prop, ∃ x5 : Int → World → Nat, (x4 0 w []) ∧
  ∀ n6 : Int, ∀ w7 : World, ∀ L8 : List Nat, (X.LF (w).heap.size w7 L8) →
  (x4 n6 w7 L8) →
  if (decide (n6 < ((k2 : Nat) : Int))) = true then
   ((0 : Int) ≤ n6) ∧
   (n6 < ((k2 : Nat) : Int)) ∧
   X.onSome (q1) fun p9 =>
   ∃ n10 : Int, (World.cell? w7 (p9.add ((n6).toNat * 1)) = some (.int .u8 n10)) ∧
   if (((n6 == 9) && decide (n10 > 1)) || (decide (n6 > 0) && (n10 == 0))) = true then
    R (.returned (.int .i64 0)) w7
   else
    if (decide (n10 < 128)) = true then
     R (.returned (.int .i64 (IntKind.wrap .i64 (n6 + 1)))) w7
    else
     (x4 (IntKind.wrap .i64 (n6 + 1)) w7 []) ∧
     Nat.le ((x5 (IntKind.wrap .i64 (n6 + 1)) w7) + 1) (x5 n6 w7)
  else
   R (.returned (.int .i64 0)) w7) :
    Calls Try.prog 121 #[.pointer (some a)] w R :=
  X.calls_of { isLoc := [], sym := [], loops := [(2, .inv [(10, .int .i64)] [] true)], joins := [] } Try.func121 (by kernel_rfl) h
abbrev fn_first : Nat := 120
theorem x_first (a : Option Addr) (al ac : Nat) (w : World) (R : Ending → World → Prop) (h :
  ∃ x1 : Int → World → List Nat → Prop, ∃ x2 : Int → World → Nat, (x1 0 w []) ∧
  ∀ n3 : Int, ∀ w4 : World, ∀ L5 : List Nat, (X.LF (w).heap.size w4 L5) →
  (x1 n3 w4 L5) →
  if (decide (n3 < ((al : Nat) : Int))) = true then
   ((0 : Int) ≤ n3) ∧
   (n3 < ((al : Nat) : Int)) ∧
   X.onSome (a) fun p6 =>
   ∃ n7 : Int, (World.cell? w4 (p6.add ((n3).toNat * 1)) = some (.int .u8 n7)) ∧
   R (.returned (.int .u8 n7)) w4
  else
   R (.returned (.int .u8 0)) w4) :
    Calls Try.prog 120 #[.slice a al ac] w R :=
  X.calls_of { isLoc := [], sym := [], loops := [(3, .inv [(8, .int .i64)] [] true)], joins := [] } Try.func120 (by kernel_rfl) h
abbrev fn_RB : Nat := 98
theorem x_RB (a : Addr) (w : World) (R : Ending → World → Prop) (h :
  X.CallX Try.prog 101 #[(.pointer (some a))] w fun e1 w2 =>
   ∃ b3 : Bool, (e1 = .returned (.bool b3)) ∧
   ((w).heap.size ≤ (w2).heap.size) ∧
   if b3 = true then
    R (.returned (.int .u8 0)) w2
   else
    X.CallX Try.prog 102 #[(.pointer (some (a.add 0))), (.int .u64 1)] w2 fun e4 w5 =>
     ∃ q6 : Option Addr, ∃ k7 : Nat, ∃ k8 : Nat, (e4 = .returned (.slice (q6) k7 k8)) ∧
     ((w2).heap.size ≤ (w5).heap.size) ∧
     X.CallX Try.prog 120 #[(.slice (q6) k7 k8)] w5 fun e9 w10 =>
      ∃ n11 : Int, (e9 = .returned (.int .u8 n11)) ∧
      ((w5).heap.size ≤ (w10).heap.size) ∧
      R (.returned (.int .u8 n11)) w10) :
    Calls Try.prog 98 #[.pointer (some a)] w R :=
  X.calls_of { isLoc := [], sym := [], loops := [], joins := [] } Try.func98 (by kernel_rfl) h
abbrev fn_RU : Nat := 99
theorem x_RU (a : Addr) (b : Int) (w : World) (R : Ending → World → Prop) (h :
  X.CallX Try.prog 101 #[(.pointer (some a))] w fun e1 w2 =>
   ∃ b3 : Bool, (e1 = .returned (.bool b3)) ∧
   ((w).heap.size ≤ (w2).heap.size) ∧
   if b3 = true then
    R (.returned (.int .u64 0)) w2
   else
    X.CallX Try.prog 121 #[(.pointer (some (a.add 0)))] w2 fun e4 w5 =>
     ∃ n6 : Int, (e4 = .returned (.int .i64 n6)) ∧
     ((w2).heap.size ≤ (w5).heap.size) ∧
     if (n6 == 0) = true then
      X.CallX Try.prog 122 #[(.pointer (some (a.add 0))), (.int .i64 6)] w5 fun e22 w23 =>
       (e22 = .returned (.tuple #[])) ∧
       ((w5).heap.size ≤ (w23).heap.size) ∧
       R (.returned (.int .u64 0)) w23
     else
      X.CallX Try.prog 102 #[(.pointer (some (a.add 0))), (.int .u64 (IntKind.wrap .u64 n6))] w5 fun e7 w8 =>
       ∃ q9 : Option Addr, ∃ k10 : Nat, ∃ k11 : Nat, (e7 = .returned (.slice (q9) k10 k11)) ∧
       ((w5).heap.size ≤ (w8).heap.size) ∧
       ∃ x12 : Int → Int → World → List Nat → Prop, ∃ x13 : Int → Int → World → Nat, (x12 0 0 w8 []) ∧
       ∀ n14 : Int, ∀ n15 : Int, ∀ w16 : World, ∀ L17 : List Nat, (X.LF (w).heap.size w16 L17) →
       (x12 n14 n15 w16 L17) →
       if (decide (n15 < ((k10 : Nat) : Int))) = true then
        ((0 : Int) ≤ n15) ∧
        (n15 < ((k10 : Nat) : Int)) ∧
        X.onSome (q9) fun p20 =>
        ∃ n21 : Int, (World.cell? w16 (p20.add ((n15).toNat * 1)) = some (.int .u8 n21)) ∧
        ((0 : Int) ≤ (IntKind.wrap .i64 (7 * n15))) ∧
        (x12 (IntKind.wrap .u64 ((((BitVec.ofInt 64 n14 ||| BitVec.ofInt 64 (IntKind.u64.wrap (IntKind.u64.wrap (IntKind.u8.wrap ↑(BitVec.ofInt 8 n21 &&& ~~~BitVec.ofInt 8 128).toNat) * 2 ^ min (IntKind.i64.wrap (7 * n15)).toNat 64))).toNat) : Nat) : Int)) (IntKind.wrap .i64 (n15 + 1)) w16 []) ∧
        Nat.le ((x13 (IntKind.wrap .u64 ((((BitVec.ofInt 64 n14 ||| BitVec.ofInt 64 (IntKind.u64.wrap (IntKind.u64.wrap (IntKind.u8.wrap ↑(BitVec.ofInt 8 n21 &&& ~~~BitVec.ofInt 8 128).toNat) * 2 ^ min (IntKind.i64.wrap (7 * n15)).toNat 64))).toNat) : Nat) : Int)) (IntKind.wrap .i64 (n15 + 1)) w16) + 1) (x13 n14 n15 w16)
       else
        if (decide (n14 > b)) = true then
         X.CallX Try.prog 122 #[(.pointer (some (a.add 0))), (.int .i64 5)] w16 fun e18 w19 =>
          (e18 = .returned (.tuple #[])) ∧
          ((w16).heap.size ≤ (w19).heap.size) ∧
          R (.returned (.int .u64 0)) w19
        else
         R (.returned (.int .u64 n14)) w16) :
    Calls Try.prog 99 #[.pointer (some a), .int .u64 b] w R :=
  X.calls_of { isLoc := [], sym := [39], loops := [(9, .inv [(6, .int .u64), (28, .int .i64)] [] true)], joins := [] } Try.func99 (by kernel_rfl) h
abbrev fn_RText : Nat := 70
theorem x_RText (a : Addr) (b : Int) (w : World) (R : Ending → World → Prop) (h :
  X.CallX Try.prog 101 #[(.pointer (some a))] w fun e1 w2 =>
   ∃ b3 : Bool, (e1 = .returned (.bool b3)) ∧
   ((w).heap.size ≤ (w2).heap.size) ∧
   if b3 = true then
    R (.returned (.string (ByteArray.mk #[]))) w2
   else
    X.CallX Try.prog 99 #[(.pointer (some a)), (.int .u64 (IntKind.wrap .u64 (if (0 : Int) > b then 0 else b)))] w2 fun e4 w5 =>
     ∃ n6 : Int, (e4 = .returned (.int .u64 n6)) ∧
     ((w2).heap.size ≤ (w5).heap.size) ∧
     X.CallX Try.prog 102 #[(.pointer (some (a.add 0))), (.int .u64 n6)] w5 fun e7 w8 =>
      ∃ q9 : Option Addr, ∃ k10 : Nat, ∃ k11 : Nat, (e7 = .returned (.slice (q9) k10 k11)) ∧
      ((w5).heap.size ≤ (w8).heap.size) ∧
      ∃ s12 : ByteArray, ∃ w13 : World, (Sem.run Try.prog (Go.convert 66 9 (.slice (q9) k10 k11)) w8 = .ok (.string s12) w13) ∧
      ((w8).heap.size ≤ (w13).heap.size) ∧
      R (.returned (.string s12)) w13) :
    Calls Try.prog 70 #[.pointer (some a), .int .i64 b] w R :=
  X.calls_of { isLoc := [], sym := [], loops := [], joins := [] } Try.func70 (by kernel_rfl) h
abbrev fn_RErr : Nat := 103
theorem x_RErr (a : Addr) (w : World) (R : Ending → World → Prop) (h :
  X.CallX Try.prog 101 #[(.pointer (some a))] w fun e1 w2 =>
   ∃ b3 : Bool, (e1 = .returned (.bool b3)) ∧
   ((w).heap.size ≤ (w2).heap.size) ∧
   if b3 = true then
    R (.returned (.int .i64 1)) w2
   else
    ∃ n4 : Int, (World.cell? w2 ((a.add 0).add 1) = some (.int .i64 n4)) ∧
    R (.returned (.int .i64 n4)) w2) :
    Calls Try.prog 103 #[.pointer (some a)] w R :=
  X.calls_of { isLoc := [], sym := [], loops := [], joins := [] } Try.func103 (by kernel_rfl) h
abbrev fn_REnd : Nat := 71
theorem x_REnd (a : Addr) (w : World) (R : Ending → World → Prop) (h :
  X.CallX Try.prog 103 #[(.pointer (some a))] w fun e1 w2 =>
   ∃ n3 : Int, (e1 = .returned (.int .i64 n3)) ∧
   ((w).heap.size ≤ (w2).heap.size) ∧
   if ((n3 != 0) == false) = true then
    ∃ q4 : Option Addr, ∃ k5 : Nat, ∃ k6 : Nat, (World.cell? w2 ((a.add 0).add 0) = some (.slice (q4) k5 k6)) ∧
    if (false || (((k5 : Nat) : Int) == 0)) = true then
     R (.returned (.int .i64 n3)) w2
    else
     R (.returned (.int .i64 6)) w2
   else
    R (.returned (.int .i64 n3)) w2) :
    Calls Try.prog 71 #[.pointer (some a)] w R :=
  X.calls_of { isLoc := [], sym := [], loops := [], joins := [] } Try.func71 (by kernel_rfl) h
abbrev fn_RFail : Nat := 100
theorem x_RFail (a : Addr) (b : Int) (w : World) (R : Ending → World → Prop) (h :
  X.CallX Try.prog 101 #[(.pointer (some a))] w fun e1 w2 =>
   ∃ b3 : Bool, (e1 = .returned (.bool b3)) ∧
   ((w).heap.size ≤ (w2).heap.size) ∧
   if ((!b3) && (b != 0)) = true then
    X.CallX Try.prog 122 #[(.pointer (some (a.add 0))), (.int .i64 b)] w2 fun e4 w5 =>
     (e4 = .returned (.tuple #[])) ∧
     ((w2).heap.size ≤ (w5).heap.size) ∧
     R (.returned (.tuple #[])) w5
   else
    R (.returned (.tuple #[])) w2) :
    Calls Try.prog 100 #[.pointer (some a), .int .i64 b] w R :=
  X.calls_of { isLoc := [], sym := [], loops := [], joins := [] } Try.func100 (by kernel_rfl) h
abbrev fn_Read1 : Nat := 66
theorem x_Read1 (a : Option Addr) (al ac : Nat) (w : World) (R : Ending → World → Prop) (h :
  ∃ q1 : Option Addr, ∃ k2 : Nat, ∃ k3 : Nat, ∃ w4 : World, (Sem.run Try.prog (Go.Builtin.append_ #[66, 66] 66 #[(.slice none 0 0), (.slice (a) al ac)]) w = .ok (.slice (q1) k2 k3) w4) ∧
  ((w).heap.size ≤ (w4).heap.size) ∧
  R (.returned (.pointer (some ⟨(w4).heap.size, 0, none⟩))) (w4.alloc (.cells #[(.slice (q1) k2 k3), (.int .i64 0), (.bool true)] 168))) :
    Calls Try.prog 66 #[.slice a al ac] w R :=
  X.calls_of { isLoc := [], sym := [], loops := [], joins := [] } Try.func66 (by kernel_rfl) h
abbrev fn_rdwide : Nat := 68
theorem x_rdwide (a_0 : Option Addr) (w : World) (R : Ending → World → Prop) (h :
  ∀ w1 : World, ∀ L2 : List Nat, (X.Hid [] w w1) →
  (X.NewL (w).heap.size [] w w1 L2) →
  X.CallX Try.prog 99 #[(.pointer (a_0)), (.int .u64 18446744073709551615)] w1 fun e3 w4 =>
   ∃ n5 : Int, (e3 = .returned (.int .u64 n5)) ∧
   (X.Kept L2 w1 w4) ∧
   R (.returned (.int .u64 n5)) w4) :
    Calls Try.prog 68 #[.agg #[.pointer a_0]] w R :=
  X.calls_of { isLoc := [1], sym := [], loops := [], joins := [] } Try.func68 (by kernel_rfl) h
abbrev fn_rdflag : Nat := 69
theorem x_rdflag (a_0 : Option Addr) (w : World) (R : Ending → World → Prop) (h :
  ∀ w1 : World, ∀ L2 : List Nat, (X.Hid [] w w1) →
  (X.NewL (w).heap.size [] w w1 L2) →
  X.CallX Try.prog 98 #[(.pointer (a_0))] w1 fun e3 w4 =>
   ∃ n5 : Int, (e3 = .returned (.int .u8 n5)) ∧
   (X.Kept L2 w1 w4) ∧
   if (decide (n5 > 1)) = true then
    X.CallX Try.prog 100 #[(.pointer (a_0)), (.int .i64 6)] w4 fun e6 w7 =>
     (e6 = .returned (.tuple #[])) ∧
     (X.Kept L2 w4 w7) ∧
     R (.returned (.bool (n5 == 1))) w7
   else
    R (.returned (.bool (n5 == 1))) w4) :
    Calls Try.prog 69 #[.agg #[.pointer a_0]] w R :=
  X.calls_of { isLoc := [1], sym := [], loops := [], joins := [] } Try.func69 (by kernel_rfl) h
abbrev fn_GetProc : Nat := 67
theorem x_GetProc (a : Addr) (w : World) (R : Ending → World → Prop) (h :
  ∀ w1 : World, ∀ L2 : List Nat, (X.Hid [] w w1) →
  (X.NewL (w).heap.size [] w w1 L2) →
  X.CallX Try.prog 98 #[(.pointer (some a))] w1 fun e3 w4 =>
   ∃ n5 : Int, (e3 = .returned (.int .u8 n5)) ∧
   (X.Kept L2 w1 w4) ∧
   X.CallX Try.prog 99 #[(.pointer (some a)), (.int .u64 65535)] w4 fun e6 w7 =>
    ∃ n8 : Int, (e6 = .returned (.int .u64 n8)) ∧
    (X.Kept L2 w4 w7) ∧
    ∀ w9 : World, (X.Hid (L2) w7 w9) →
    R (.returned (.agg #[(.int .u8 n5), (.int .u16 (IntKind.wrap .u16 n8))])) w9) :
    Calls Try.prog 67 #[.pointer (some a)] w R :=
  X.calls_of { isLoc := [2], sym := [], loops := [], joins := [] } Try.func67 (by kernel_rfl) h
end Go.Proofs
/- The verification conditions of this seat's functions, as the engine has them: printed by a program of the bench; checked by the kernel. -/
namespace Go.Proofs
open Go
abbrev fn_r1Put : Nat := 60
theorem x_r1Put (a : Int) (w : World) (R : Ending → World → Prop) (h :
  ∃ x1 : Int → Option Addr → Nat → Nat → World → List Nat → Prop, ∃ x2 : Int → Option Addr → Nat → Nat → World → Nat, (x1 a (none) 0 0 w []) ∧
  ∀ n3 : Int, ∀ q4 : Option Addr, ∀ k5 : Nat, ∀ k6 : Nat, ∀ w7 : World, ∀ L8 : List Nat, (X.LF (w).heap.size w7 L8) →
  (x1 n3 q4 k5 k6 w7 L8) →
  if (decide (n3 > 127)) = true then
   ∃ q13 : Option Addr, ∃ k14 : Nat, ∃ k15 : Nat, ∃ w16 : World, (Sem.run Try.prog (Go.Builtin.append_ #[66, 66] 66 #[(.slice (q4) k5 k6), (.slice (some ⟨(w7).heap.size, 0, none⟩) 1 1)]) (w7.alloc (.cells #[(.int .u8 (IntKind.wrap .u8 ((IntKind.wrap .u8 (n3.tmod 128)) + 128)))] 5)) = .ok (.slice (q13) k14 k15) w16) ∧
   (((w7.alloc (.cells #[(.int .u8 (IntKind.wrap .u8 ((IntKind.wrap .u8 (n3.tmod 128)) + 128)))] 5))).heap.size ≤ (w16).heap.size) ∧
   (x1 (IntKind.wrap .u64 (n3.tdiv 128)) q13 k14 k15 w16 []) ∧
   Nat.le ((x2 (IntKind.wrap .u64 (n3.tdiv 128)) q13 k14 k15 w16) + 1) (x2 n3 q4 k5 k6 w7)
  else
   ∃ q9 : Option Addr, ∃ k10 : Nat, ∃ k11 : Nat, ∃ w12 : World, (Sem.run Try.prog (Go.Builtin.append_ #[66, 66] 66 #[(.slice (q4) k5 k6), (.slice (some ⟨(w7).heap.size, 0, none⟩) 1 1)]) (w7.alloc (.cells #[(.int .u8 (IntKind.wrap .u8 n3))] 5)) = .ok (.slice (q9) k10 k11) w12) ∧
   (((w7.alloc (.cells #[(.int .u8 (IntKind.wrap .u8 n3))] 5))).heap.size ≤ (w12).heap.size) ∧
   R (.returned (.slice (q9) k10 k11)) w12) :
    Calls Try.prog 60 #[.int .u64 a] w R :=
  X.calls_of { isLoc := [], sym := [], loops := [(2, .inv [(0, .int .u64), (3, .slice)] [] true)], joins := [] } Try.func60 (by kernel_rfl) h
abbrev fn_r1Text : Nat := 62
theorem x_r1Text (a : ByteArray) (w : World) (R : Ending → World → Prop) (h :
  X.CallX Try.prog 60 #[(.int .u64 (IntKind.wrap .u64 (((a.size) : Nat) : Int)))] w fun e1 w2 =>
   ∃ q3 : Option Addr, ∃ k4 : Nat, ∃ k5 : Nat, (e1 = .returned (.slice (q3) k4 k5)) ∧
   ((w).heap.size ≤ (w2).heap.size) ∧
   ∃ q6 : Option Addr, ∃ k7 : Nat, ∃ k8 : Nat, ∃ w9 : World, (Sem.run Try.prog (Go.Builtin.append_ #[66, 9] 66 #[(.slice (q3) k4 k5), (.string a)]) w2 = .ok (.slice (q6) k7 k8) w9) ∧
   ((w2).heap.size ≤ (w9).heap.size) ∧
   R (.returned (.slice (q6) k7 k8)) w9) :
    Calls Try.prog 62 #[.string a] w R :=
  X.calls_of { isLoc := [], sym := [], loops := [], joins := [] } Try.func62 (by kernel_rfl) h
abbrev fn_r1Fail : Nat := 104
theorem x_r1Fail (a : Addr) (b : Int) (w : World) (R : Ending → World → Prop) (h :
  ∃ n1 : Int, (World.cell? w (a.add 1) = some (.int .i64 n1)) ∧
  if (n1 == 0) = true then
   ((none : Option Nat) = none) ∧
   (World.there w (a.block) ((a.off) + 1) 1) ∧
   R (.returned (.tuple #[])) (w.setCells (a.block) ((a.off) + 1) [(.int .i64 b)])
  else
   R (.returned (.tuple #[])) w) :
    Calls Try.prog 104 #[.pointer (some a), .int .i64 b] w R :=
  X.calls_of { isLoc := [], sym := [], loops := [], joins := [] } Try.func104 (by kernel_rfl) h
abbrev fn_r1U : Nat := 74
theorem x_r1U (a : Addr) (b : Int) (w : World) (R : Ending → World → Prop) (h :
  ∃ x1 : Int → Int → World → List Nat → Prop, ∃ x2 : Int → Int → World → Nat, (x1 0 0 w []) ∧
  ∀ n3 : Int, ∀ n4 : Int, ∀ w5 : World, ∀ L6 : List Nat, (X.LF (w).heap.size w5 L6) →
  (x1 n3 n4 w5 L6) →
  if (decide (n4 < 10)) = true then
   ∃ n9 : Int, (World.cell? w5 (a.add 1) = some (.int .i64 n9)) ∧
   if ((n9 != 0) == false) = true then
    ∃ q12 : Option Addr, ∃ k13 : Nat, ∃ k14 : Nat, (World.cell? w5 (a.add 0) = some (.slice (q12) k13 k14)) ∧
    if (false || decide (n4 ≥ ((k13 : Nat) : Int))) = true then
     X.CallX Try.prog 104 #[(.pointer (some a)), (.int .i64 6)] w5 fun e27 w28 =>
      (e27 = .returned (.tuple #[])) ∧
      ((w5).heap.size ≤ (w28).heap.size) ∧
      R (.returned (.int .u64 0)) w28
    else
     ∃ q15 : Option Addr, ∃ k16 : Nat, ∃ k17 : Nat, (World.cell? w5 (a.add 0) = some (.slice (q15) k16 k17)) ∧
     ((0 : Int) ≤ n4) ∧
     (n4 < ((k16 : Nat) : Int)) ∧
     X.onSome (q15) fun p18 =>
     ∃ n19 : Int, (World.cell? w5 (p18.add ((n4).toNat * 1)) = some (.int .u8 n19)) ∧
     if (((n4 == 9) && decide (n19 > 1)) || (decide (n4 > 0) && (n19 == 0))) = true then
      X.CallX Try.prog 104 #[(.pointer (some a)), (.int .i64 6)] w5 fun e25 w26 =>
       (e25 = .returned (.tuple #[])) ∧
       ((w5).heap.size ≤ (w26).heap.size) ∧
       R (.returned (.int .u64 0)) w26
     else
      ((0 : Int) ≤ (IntKind.wrap .u64 (IntKind.wrap .i64 (7 * n4)))) ∧
      if (decide (n19 < 128)) = true then
       if (decide ((IntKind.wrap .u64 ((((BitVec.ofInt 64 n3 ||| BitVec.ofInt 64 (IntKind.u64.wrap (IntKind.u64.wrap (n19.tmod 128) * 2 ^ min (IntKind.u64.wrap (IntKind.i64.wrap (7 * n4))).toNat 64))).toNat) : Nat) : Int)) > b)) = true then
        X.CallX Try.prog 104 #[(.pointer (some a)), (.int .i64 5)] w5 fun e23 w24 =>
         (e23 = .returned (.tuple #[])) ∧
         ((w5).heap.size ≤ (w24).heap.size) ∧
         R (.returned (.int .u64 0)) w24
       else
        ∃ q20 : Option Addr, ∃ k21 : Nat, ∃ k22 : Nat, (World.cell? w5 (a.add 0) = some (.slice (q20) k21 k22)) ∧
        ((0 : Int) ≤ (IntKind.wrap .i64 (n4 + 1))) ∧
        ((IntKind.wrap .i64 (n4 + 1)) ≤ ((k21 : Nat) : Int)) ∧
        (((a.add 0).spot) = none) ∧
        (World.there w5 ((a.add 0).block) ((a.add 0).off) 1) ∧
        R (.returned (.int .u64 (IntKind.wrap .u64 ((((BitVec.ofInt 64 n3 ||| BitVec.ofInt 64 (IntKind.u64.wrap (IntKind.u64.wrap (n19.tmod 128) * 2 ^ min (IntKind.u64.wrap (IntKind.i64.wrap (7 * n4))).toNat 64))).toNat) : Nat) : Int)))) (w5.setCells ((a.add 0).block) ((a.add 0).off) [(.slice (X.cutA (q20) k22 ((IntKind.wrap .i64 (n4 + 1))).toNat 1) (k21 - ((IntKind.wrap .i64 (n4 + 1))).toNat) (k22 - ((IntKind.wrap .i64 (n4 + 1))).toNat))])
      else
       (x1 (IntKind.wrap .u64 ((((BitVec.ofInt 64 n3 ||| BitVec.ofInt 64 (IntKind.u64.wrap (IntKind.u64.wrap (n19.tmod 128) * 2 ^ min (IntKind.u64.wrap (IntKind.i64.wrap (7 * n4))).toNat 64))).toNat) : Nat) : Int)) (IntKind.wrap .i64 (n4 + 1)) w5 []) ∧
       Nat.le ((x2 (IntKind.wrap .u64 ((((BitVec.ofInt 64 n3 ||| BitVec.ofInt 64 (IntKind.u64.wrap (IntKind.u64.wrap (n19.tmod 128) * 2 ^ min (IntKind.u64.wrap (IntKind.i64.wrap (7 * n4))).toNat 64))).toNat) : Nat) : Int)) (IntKind.wrap .i64 (n4 + 1)) w5) + 1) (x2 n3 n4 w5)
   else
    X.CallX Try.prog 104 #[(.pointer (some a)), (.int .i64 6)] w5 fun e10 w11 =>
     (e10 = .returned (.tuple #[])) ∧
     ((w5).heap.size ≤ (w11).heap.size) ∧
     R (.returned (.int .u64 0)) w11
  else
   X.CallX Try.prog 104 #[(.pointer (some a)), (.int .i64 6)] w5 fun e7 w8 =>
    (e7 = .returned (.tuple #[])) ∧
    ((w5).heap.size ≤ (w8).heap.size) ∧
    R (.returned (.int .u64 0)) w8) :
    Calls Try.prog 74 #[.pointer (some a), .int .u64 b] w R :=
  X.calls_of { isLoc := [], sym := [58], loops := [(3, .inv [(5, .int .u64), (6, .int .i64)] [] true)], joins := [] } Try.func74 (by kernel_rfl) h
abbrev fn_r1B : Nat := 75
theorem x_r1B (a : Addr) (w : World) (R : Ending → World → Prop) (h :
  ∃ n1 : Int, (World.cell? w (a.add 1) = some (.int .i64 n1)) ∧
  if ((n1 != 0) == false) = true then
   ∃ q4 : Option Addr, ∃ k5 : Nat, ∃ k6 : Nat, (World.cell? w (a.add 0) = some (.slice (q4) k5 k6)) ∧
   if (false || (((k5 : Nat) : Int) == 0)) = true then
    X.CallX Try.prog 104 #[(.pointer (some a)), (.int .i64 6)] w fun e15 w16 =>
     (e15 = .returned (.tuple #[])) ∧
     ((w).heap.size ≤ (w16).heap.size) ∧
     R (.returned (.int .u8 0)) w16
   else
    ∃ q7 : Option Addr, ∃ k8 : Nat, ∃ k9 : Nat, (World.cell? w (a.add 0) = some (.slice (q7) k8 k9)) ∧
    ((0 : Int) ≤ 0) ∧
    ((0 : Int) < ((k8 : Nat) : Int)) ∧
    X.onSome (q7) fun p10 =>
    ∃ n11 : Int, (World.cell? w (p10.add 0) = some (.int .u8 n11)) ∧
    ∃ q12 : Option Addr, ∃ k13 : Nat, ∃ k14 : Nat, (World.cell? w (a.add 0) = some (.slice (q12) k13 k14)) ∧
    ((0 : Int) ≤ 1) ∧
    ((1 : Int) ≤ ((k13 : Nat) : Int)) ∧
    (((a.add 0).spot) = none) ∧
    (World.there w ((a.add 0).block) ((a.add 0).off) 1) ∧
    R (.returned (.int .u8 n11)) (w.setCells ((a.add 0).block) ((a.add 0).off) [(.slice (X.cutA (q12) k14 1 1) (k13 - 1) (k14 - 1))])
  else
   X.CallX Try.prog 104 #[(.pointer (some a)), (.int .i64 6)] w fun e2 w3 =>
    (e2 = .returned (.tuple #[])) ∧
    ((w).heap.size ≤ (w3).heap.size) ∧
    R (.returned (.int .u8 0)) w3) :
    Calls Try.prog 75 #[.pointer (some a)] w R :=
  X.calls_of { isLoc := [], sym := [], loops := [], joins := [] } Try.func75 (by kernel_rfl) h
abbrev fn_r1RText : Nat := 76
theorem x_r1RText (a : Addr) (b : Int) (w : World) (R : Ending → World → Prop) (h :
  X.CallX Try.prog 74 #[(.pointer (some a)), (.int .u64 (IntKind.wrap .u64 (if (0 : Int) > b then 0 else b)))] w fun e1 w2 =>
   ∃ n3 : Int, (e1 = .returned (.int .u64 n3)) ∧
   ((w).heap.size ≤ (w2).heap.size) ∧
   ∃ n4 : Int, (World.cell? w2 (a.add 1) = some (.int .i64 n4)) ∧
   if ((n4 != 0) == false) = true then
    ∃ q7 : Option Addr, ∃ k8 : Nat, ∃ k9 : Nat, (World.cell? w2 (a.add 0) = some (.slice (q7) k8 k9)) ∧
    if (false || decide (n3 > (IntKind.wrap .u64 ((k8 : Nat) : Int)))) = true then
     X.CallX Try.prog 104 #[(.pointer (some a)), (.int .i64 6)] w2 fun e18 w19 =>
      (e18 = .returned (.tuple #[])) ∧
      ((w2).heap.size ≤ (w19).heap.size) ∧
      R (.returned (.string (ByteArray.mk #[]))) w19
    else
     ∃ q10 : Option Addr, ∃ k11 : Nat, ∃ k12 : Nat, (World.cell? w2 (a.add 0) = some (.slice (q10) k11 k12)) ∧
     ((0 : Int) ≤ n3) ∧
     (n3 ≤ ((k12 : Nat) : Int)) ∧
     ∃ s13 : ByteArray, ∃ w14 : World, (Sem.run Try.prog (Go.convert 66 9 (.slice (X.cutA (q10) k12 0 1) (n3).toNat k12)) w2 = .ok (.string s13) w14) ∧
     ((w2).heap.size ≤ (w14).heap.size) ∧
     ∃ q15 : Option Addr, ∃ k16 : Nat, ∃ k17 : Nat, (World.cell? w14 (a.add 0) = some (.slice (q15) k16 k17)) ∧
     ((0 : Int) ≤ n3) ∧
     (n3 ≤ ((k16 : Nat) : Int)) ∧
     (((a.add 0).spot) = none) ∧
     (World.there w14 ((a.add 0).block) ((a.add 0).off) 1) ∧
     R (.returned (.string s13)) (w14.setCells ((a.add 0).block) ((a.add 0).off) [(.slice (X.cutA (q15) k17 (n3).toNat 1) (k16 - (n3).toNat) (k17 - (n3).toNat))])
   else
    X.CallX Try.prog 104 #[(.pointer (some a)), (.int .i64 6)] w2 fun e5 w6 =>
     (e5 = .returned (.tuple #[])) ∧
     ((w2).heap.size ≤ (w6).heap.size) ∧
     R (.returned (.string (ByteArray.mk #[]))) w6) :
    Calls Try.prog 76 #[.pointer (some a), .int .i64 b] w R :=
  X.calls_of { isLoc := [], sym := [], loops := [], joins := [] } Try.func76 (by kernel_rfl) h
abbrev fn_r1End : Nat := 77
theorem x_r1End (a : Addr) (w : World) (R : Ending → World → Prop) (h :
  ∃ n1 : Int, (World.cell? w (a.add 1) = some (.int .i64 n1)) ∧
  if ((n1 == 0) == true) = true then
   ∃ q3 : Option Addr, ∃ k4 : Nat, ∃ k5 : Nat, (World.cell? w (a.add 0) = some (.slice (q3) k4 k5)) ∧
   if (true && decide (((k4 : Nat) : Int) > 0)) = true then
    R (.returned (.int .i64 6)) w
   else
    ∃ n6 : Int, (World.cell? w (a.add 1) = some (.int .i64 n6)) ∧
    R (.returned (.int .i64 n6)) w
  else
   ∃ n2 : Int, (World.cell? w (a.add 1) = some (.int .i64 n2)) ∧
   R (.returned (.int .i64 n2)) w) :
    Calls Try.prog 77 #[.pointer (some a)] w R :=
  X.calls_of { isLoc := [], sym := [], loops := [], joins := [] } Try.func77 (by kernel_rfl) h
abbrev fn_r2PutProc : Nat := 59
theorem x_r2PutProc (a_0 a_1 : Int) (w : World) (R : Ending → World → Prop) (h :
  ∃ x1 : X.Facts, (X.FactsW x1 w []) ∧
  (∀ w2 : World, ∀ L3 : List Nat, (X.Hid [] w w2) →
   (X.NewL (w).heap.size [] w w2 L3) →
   (X.FactsW x1 (w2.alloc (.cells #[(.int .u8 a_0)] 5)) (L3)) ∧
   X.CallX Try.prog 60 #[(.int .u64 (IntKind.wrap .u64 a_1))] (w2.alloc (.cells #[(.int .u8 a_0)] 5)) fun e4 w5 =>
    ∃ q6 : Option Addr, ∃ k7 : Nat, ∃ k8 : Nat, (e4 = .returned (.slice (q6) k7 k8)) ∧
    (X.Kept L3 (w2.alloc (.cells #[(.int .u8 a_0)] 5)) w5) ∧
    (X.FactsW x1 w5 (L3)) ∧
    ∃ q9 : Option Addr, ∃ k10 : Nat, ∃ k11 : Nat, ∃ w12 : World, (Sem.run Try.prog (Go.Builtin.append_ #[66, 66] 66 #[(.slice (some ⟨(w2).heap.size, 0, none⟩) 1 1), (.slice (q6) k7 k8)]) w5 = .ok (.slice (q9) k10 k11) w12) ∧
    (X.Kept L3 w5 w12) ∧
    (X.FactsW x1 w12 (L3)) ∧
    R (.returned (.slice (q9) k10 k11)) w12) ∧
  ∀ w13 : World, ∀ L14 : List Nat, (X.Hid [] w w13) →
  (X.NewL (w).heap.size [] w w13 L14) →
  X.CallX Try.prog 60 #[(.int .u64 (IntKind.wrap .u64 a_1))] w13 fun e15 w16 =>
   ∃ q17 : Option Addr, ∃ k18 : Nat, ∃ k19 : Nat, (e15 = .returned (.slice (q17) k18 k19)) ∧
   (X.Kept L14 w13 w16) ∧
   (X.FactsW x1 w16 (L14)) ∧
   (X.FactsW x1 (w16.alloc (.cells #[(.int .u8 a_0)] 5)) (L14)) ∧
   ∃ q20 : Option Addr, ∃ k21 : Nat, ∃ k22 : Nat, ∃ w23 : World, (Sem.run Try.prog (Go.Builtin.append_ #[66, 66] 66 #[(.slice (some ⟨(w16).heap.size, 0, none⟩) 1 1), (.slice (q17) k18 k19)]) (w16.alloc (.cells #[(.int .u8 a_0)] 5)) = .ok (.slice (q20) k21 k22) w23) ∧
   (X.Kept L14 (w16.alloc (.cells #[(.int .u8 a_0)] 5)) w23) ∧
   (X.FactsW x1 w23 (L14)) ∧
   R (.returned (.slice (q20) k21 k22)) w23) :
    Calls Try.prog 59 #[.agg #[.int .u8 a_0, .int .u16 a_1]] w R :=
  X.calls_of { isLoc := [1], sym := [], loops := [], joins := [] } Try.func59 (by kernel_rfl) h
abbrev fn_r2GetProc : Nat := 73
theorem x_r2GetProc (a : Addr) (w : World) (R : Ending → World → Prop) (h :
  ∀ w1 : World, ∀ L2 : List Nat, (X.Hid [] w w1) →
  (X.NewL (w).heap.size [] w w1 L2) →
  X.CallX Try.prog 75 #[(.pointer (some a))] w1 fun e3 w4 =>
   ∃ n5 : Int, (e3 = .returned (.int .u8 n5)) ∧
   (X.Kept L2 w1 w4) ∧
   X.CallX Try.prog 74 #[(.pointer (some a)), (.int .u64 65535)] w4 fun e6 w7 =>
    ∃ n8 : Int, (e6 = .returned (.int .u64 n8)) ∧
    (X.Kept L2 w4 w7) ∧
    ∀ w9 : World, (X.Hid (L2) w7 w9) →
    R (.returned (.agg #[(.int .u8 n5), (.int .u16 (IntKind.wrap .u16 n8))])) w9) :
    Calls Try.prog 73 #[.pointer (some a)] w R :=
  X.calls_of { isLoc := [2], sym := [], loops := [], joins := [] } Try.func73 (by kernel_rfl) h
abbrev fn_r7flag : Nat := 61
theorem x_r7flag (a : Bool) (w : World) (R : Ending → World → Prop) (h :
  if a = true then
   R (.returned (.int .u8 1)) w
  else
   R (.returned (.int .u8 0)) w) :
    Calls Try.prog 61 #[.bool a] w R :=
  X.calls_of { isLoc := [], sym := [], loops := [], joins := [] } Try.func61 (by kernel_rfl) h
end Go.Proofs
/- The verification conditions of this seat's functions, as the engine has them: printed by a program of the bench; checked by the kernel. -/
namespace Go.Proofs
open Go
abbrev fn_Sum : Nat := 97
theorem x_Sum (a : Option Addr) (al ac : Nat) (w : World) (R : Ending → World → Prop) (h :
  ∃ x1 : Int → Int → World → List Nat → Prop, ∃ x2 : Int → Int → World → Nat, (x1 4294967295 0 w []) ∧
  ∀ n3 : Int, ∀ n4 : Int, ∀ w5 : World, ∀ L6 : List Nat, (X.LF (w).heap.size w5 L6) →
  (x1 n3 n4 w5 L6) →
  if (decide (n4 < ((al : Nat) : Int))) = true then
   ((0 : Int) ≤ n4) ∧
   (n4 < ((al : Nat) : Int)) ∧
   X.onSome (a) fun p7 =>
   ∃ n8 : Int, (World.cell? w5 (p7.add ((n4).toNat * 1)) = some (.int .u8 n8)) ∧
   ∃ x9 : Int → Int → World → List Nat → Prop, ∃ x10 : Int → Int → World → Nat, (x9 (IntKind.wrap .u32 ((((BitVec.ofInt 32 n3 ^^^ BitVec.ofInt 32 (IntKind.u32.wrap (IntKind.u32.wrap n8 * 16777216))).toNat) : Nat) : Int)) 0 w5 []) ∧
   ∀ n11 : Int, ∀ n12 : Int, ∀ w13 : World, ∀ L14 : List Nat, (X.LF (w).heap.size w13 L14) →
   (x9 n11 n12 w13 L14) →
   if (decide (n12 < 8)) = true then
    (x9 (IntKind.wrap .u32 ((((BitVec.ofInt 32 (IntKind.u32.wrap (n11 * 2)) ^^^ BitVec.ofInt 32 (IntKind.u32.wrap ↑(BitVec.ofInt 32 79764919 &&& BitVec.ofInt 32 (IntKind.u32.wrap (0 - n11.fdiv 2147483648))).toNat)).toNat) : Nat) : Int)) (IntKind.wrap .i64 (n12 + 1)) w13 []) ∧
    Nat.le ((x10 (IntKind.wrap .u32 ((((BitVec.ofInt 32 (IntKind.u32.wrap (n11 * 2)) ^^^ BitVec.ofInt 32 (IntKind.u32.wrap ↑(BitVec.ofInt 32 79764919 &&& BitVec.ofInt 32 (IntKind.u32.wrap (0 - n11.fdiv 2147483648))).toNat)).toNat) : Nat) : Int)) (IntKind.wrap .i64 (n12 + 1)) w13) + 1) (x10 n11 n12 w13)
   else
    (x1 n11 (IntKind.wrap .i64 (n4 + 1)) w13 []) ∧
    Nat.le ((x2 n11 (IntKind.wrap .i64 (n4 + 1)) w13) + 1) (x2 n3 n4 w5)
  else
   R (.returned (.int .u32 (IntKind.wrap .u32 ((((BitVec.ofInt 32 4294967295 ^^^ BitVec.ofInt 32 n3).toNat) : Nat) : Int)))) w5) :
    Calls Try.prog 97 #[.slice a al ac] w R :=
  X.calls_of { isLoc := [], sym := [], loops := [(3, .inv [(3, .int .u32), (8, .int .i64)] [] true), (7, .inv [(3, .int .u32), (17, .int .i64)] [] true)], joins := [] } Try.func97 (by kernel_rfl) h
abbrev fn_r1Sum : Nat := 72
theorem x_r1Sum (a : Option Addr) (al ac : Nat) (w : World) (R : Ending → World → Prop) (h :
  ∃ x1 : Int → Int → World → List Nat → Prop, ∃ x2 : Int → Int → World → Nat, (x1 4294967295 0 w []) ∧
  ∀ n3 : Int, ∀ n4 : Int, ∀ w5 : World, ∀ L6 : List Nat, (X.LF (w).heap.size w5 L6) →
  (x1 n3 n4 w5 L6) →
  if (decide (n4 < ((al : Nat) : Int))) = true then
   ∃ x7 : Int → Int → World → List Nat → Prop, ∃ x8 : Int → Int → World → Nat, (x7 n3 7 w5 []) ∧
   ∀ n9 : Int, ∀ n10 : Int, ∀ w11 : World, ∀ L12 : List Nat, (X.LF (w).heap.size w11 L12) →
   (x7 n9 n10 w11 L12) →
   if (decide (n10 ≥ 0)) = true then
    ((0 : Int) ≤ n4) ∧
    (n4 < ((al : Nat) : Int)) ∧
    X.onSome (a) fun p13 =>
    ∃ n14 : Int, (World.cell? w11 (p13.add ((n4).toNat * 1)) = some (.int .u8 n14)) ∧
    ((0 : Int) ≤ (IntKind.wrap .u64 n10)) ∧
    ((IntKind.wrap .u32 (1 * (2 ^ min (IntKind.u64.wrap n10).toNat 32))) ≠ 0) ∧
    if (((IntKind.u32.wrap ((IntKind.u32.wrap n14).tdiv (IntKind.u32.wrap (1 * 2 ^ min (IntKind.u64.wrap n10).toNat 32)))).tmod 2) != (IntKind.wrap .u32 (n9.tdiv 2147483648))) = true then
     (x7 (IntKind.wrap .u32 ((((BitVec.ofInt 32 (IntKind.u32.wrap (n9 * 2)) ^^^ BitVec.ofInt 32 79764919).toNat) : Nat) : Int)) (IntKind.wrap .i64 (n10 - 1)) w11 []) ∧
     Nat.le ((x8 (IntKind.wrap .u32 ((((BitVec.ofInt 32 (IntKind.u32.wrap (n9 * 2)) ^^^ BitVec.ofInt 32 79764919).toNat) : Nat) : Int)) (IntKind.wrap .i64 (n10 - 1)) w11) + 1) (x8 n9 n10 w11)
    else
     (x7 (IntKind.wrap .u32 (n9 * 2)) (IntKind.wrap .i64 (n10 - 1)) w11 []) ∧
     Nat.le ((x8 (IntKind.wrap .u32 (n9 * 2)) (IntKind.wrap .i64 (n10 - 1)) w11) + 1) (x8 n9 n10 w11)
   else
    (x1 n9 (IntKind.wrap .i64 (n4 + 1)) w11 []) ∧
    Nat.le ((x2 n9 (IntKind.wrap .i64 (n4 + 1)) w11) + 1) (x2 n3 n4 w5)
  else
   R (.returned (.int .u32 (IntKind.wrap .u32 (4294967295 - n3)))) w5) :
    Calls Try.prog 72 #[.slice a al ac] w R :=
  X.calls_of { isLoc := [], sym := [25, 26], loops := [(3, .inv [(3, .int .u32), (4, .int .i64)] [] true), (6, .inv [(3, .int .u32), (5, .int .i64)] [] true)], joins := [] } Try.func72 (by kernel_rfl) h
abbrev fn_summed : Nat := 57
theorem x_summed (a : Option Addr) (al ac : Nat) (w : World) (R : Ending → World → Prop) (h :
  X.CallX Try.prog 97 #[(.slice (a) al ac)] w fun e1 w2 =>
   ∃ n3 : Int, (e1 = .returned (.int .u32 n3)) ∧
   ((w).heap.size ≤ (w2).heap.size) ∧
   ∃ q4 : Option Addr, ∃ k5 : Nat, ∃ k6 : Nat, ∃ w7 : World, (Sem.run Try.prog (Go.Builtin.append_ #[66, 66] 66 #[(.slice (a) al ac), (.slice (some ⟨(w2).heap.size, 0, none⟩) 4 4)]) (w2.alloc (.cells #[(.int .u8 (IntKind.wrap .u8 (n3.fdiv 16777216))), (.int .u8 (IntKind.wrap .u8 (n3.fdiv 65536))), (.int .u8 (IntKind.wrap .u8 (n3.fdiv 256))), (.int .u8 (IntKind.wrap .u8 n3))] 5)) = .ok (.slice (q4) k5 k6) w7) ∧
   (((w2.alloc (.cells #[(.int .u8 (IntKind.wrap .u8 (n3.fdiv 16777216))), (.int .u8 (IntKind.wrap .u8 (n3.fdiv 65536))), (.int .u8 (IntKind.wrap .u8 (n3.fdiv 256))), (.int .u8 (IntKind.wrap .u8 n3))] 5))).heap.size ≤ (w7).heap.size) ∧
   R (.returned (.slice (q4) k5 k6)) w7) :
    Calls Try.prog 57 #[.slice a al ac] w R :=
  X.calls_of { isLoc := [], sym := [], loops := [], joins := [] } Try.func57 (by kernel_rfl) h
abbrev fn_r7Summed : Nat := 63
theorem x_r7Summed (a : Option Addr) (al ac : Nat) (w : World) (R : Ending → World → Prop) (h :
  X.CallX Try.prog 72 #[(.slice (a) al ac)] w fun e1 w2 =>
   ∃ n3 : Int, (e1 = .returned (.int .u32 n3)) ∧
   ((w).heap.size ≤ (w2).heap.size) ∧
   ∃ q4 : Option Addr, ∃ k5 : Nat, ∃ k6 : Nat, ∃ w7 : World, (Sem.run Try.prog (Go.Builtin.append_ #[66, 66] 66 #[(.slice (some ⟨(w2).heap.size, 0, none⟩) 0 0), (.slice (a) al ac)]) (w2.alloc (.cells #[] 5)) = .ok (.slice (q4) k5 k6) w7) ∧
   (((w2.alloc (.cells #[] 5))).heap.size ≤ (w7).heap.size) ∧
   ∃ q8 : Option Addr, ∃ k9 : Nat, ∃ k10 : Nat, ∃ w11 : World, (Sem.run Try.prog (Go.Builtin.append_ #[66, 66] 66 #[(.slice (q4) k5 k6), (.slice (some ⟨(w7).heap.size, 0, none⟩) 4 4)]) (w7.alloc (.cells #[(.int .u8 (IntKind.wrap .u8 (n3.fdiv 16777216))), (.int .u8 (IntKind.wrap .u8 (n3.fdiv 65536))), (.int .u8 (IntKind.wrap .u8 (n3.fdiv 256))), (.int .u8 (IntKind.wrap .u8 n3))] 5)) = .ok (.slice (q8) k9 k10) w11) ∧
   (((w7.alloc (.cells #[(.int .u8 (IntKind.wrap .u8 (n3.fdiv 16777216))), (.int .u8 (IntKind.wrap .u8 (n3.fdiv 65536))), (.int .u8 (IntKind.wrap .u8 (n3.fdiv 256))), (.int .u8 (IntKind.wrap .u8 n3))] 5))).heap.size ≤ (w11).heap.size) ∧
   R (.returned (.slice (q8) k9 k10)) w11) :
    Calls Try.prog 63 #[.slice a al ac] w R :=
  X.calls_of { isLoc := [], sym := [], loops := [], joins := [] } Try.func63 (by kernel_rfl) h
abbrev fn_CloneB : Nat := 65
theorem x_CloneB (a : Option Addr) (al ac : Nat) (w : World) (R : Ending → World → Prop) (h :
  if (a.isNone) = true then
   R (.returned (.slice none 0 0)) w
  else
   ∃ q1 : Option Addr, ∃ k2 : Nat, ∃ k3 : Nat, ∃ w4 : World, (Sem.run Try.prog (Go.Builtin.append_ #[66, 66] 66 #[(.slice (some ⟨(w).heap.size, 0, none⟩) 0 0), (.slice (a) al ac)]) (w.alloc (.cells #[] 5)) = .ok (.slice (q1) k2 k3) w4) ∧
   (((w.alloc (.cells #[] 5))).heap.size ≤ (w4).heap.size) ∧
   R (.returned (.slice (q1) k2 k3)) w4) :
    Calls Try.prog 65 #[.slice a al ac] w R :=
  X.calls_of { isLoc := [], sym := [], loops := [], joins := [] } Try.func65 (by kernel_rfl) h
abbrev fn_bEqual : Nat := 64
theorem x_bEqual (a : Option Addr) (al ac : Nat) (b : Option Addr) (bl bc : Nat) (w : World) (R : Ending → World → Prop) (h :
  ∃ s1 : ByteArray, ∃ w2 : World, (Sem.run Try.prog (Go.convert 66 9 (.slice (a) al ac)) w = .ok (.string s1) w2) ∧
  ((w).heap.size ≤ (w2).heap.size) ∧
  ∃ s3 : ByteArray, ∃ w4 : World, (Sem.run Try.prog (Go.convert 66 9 (.slice (b) bl bc)) w2 = .ok (.string s3) w4) ∧
  ((w2).heap.size ≤ (w4).heap.size) ∧
  R (.returned (.bool ((s1.toList) == (s3.toList)))) w4) :
    Calls Try.prog 64 #[.slice a al ac, .slice b bl bc] w R :=
  X.calls_of { isLoc := [], sym := [], loops := [], joins := [] } Try.func64 (by kernel_rfl) h
end Go.Proofs
/- The verification conditions of this seat's functions, as the engine has them: printed by a program of the bench; checked by the kernel. -/
namespace Go.Proofs
open Go
abbrev fn_WireFrames : Nat := 5
theorem x_WireFrames (a_0 a_1 a_2 a_3 a_4 a_5 : Int) (a_6 : Bool) (a_7 : Option Addr) (a_7l a_7c : Nat) (b : Option Addr) (bl bc : Nat) (w : World) (R : Ending → World → Prop) (h :
  if ((decide (((a_7l : Nat) : Int) > 2000) || decide (((bl : Nat) : Int) > 2000)) == false) = true then
   ∀ w6 : World, ∀ L7 : List Nat, (X.Hid [] w w6) →
   (X.NewL (w).heap.size [] w w6 L7) →
   X.CallX Try.prog 8 #[] w6 fun e8 w9 =>
    ∃ b10 : Bool, (e8 = .returned (.bool b10)) ∧
    (X.Kept L7 w6 w9) ∧
    if (false || (!b10)) = true then
     X.CallX Try.prog 8 #[] w9 fun e138 w139 =>
      ∃ b140 : Bool, (e138 = .returned (.bool b140)) ∧
      (X.Kept L7 w9 w139) ∧
      R (.returned (.bool b140)) w139
    else
     X.CallX Try.prog 19 #[(.agg #[(.int .u8 a_0), (.int .u16 a_1), (.int .u8 a_2), (.int .u16 a_3), (.int .u64 a_4), (.int .u64 a_5), (.bool a_6), (.slice (a_7) a_7l a_7c)])] w9 fun e11 w12 =>
      ∃ n13 : Int, ∃ n14 : Int, ∃ n15 : Int, ∃ n16 : Int, ∃ n17 : Int, ∃ n18 : Int, ∃ b19 : Bool, ∃ q20 : Option Addr, ∃ k21 : Nat, ∃ k22 : Nat, (e11 = .returned (.agg #[(.int .u8 n13), (.int .u16 n14), (.int .u8 n15), (.int .u16 n16), (.int .u64 n17), (.int .u64 n18), (.bool b19), (.slice (q20) k21 k22)])) ∧
      (X.Kept L7 w9 w12) ∧
      X.CallX Try.prog 18 #[(.agg #[(.int .u8 n13), (.int .u16 n14), (.int .u8 n15), (.int .u16 n16), (.int .u64 n17), (.int .u64 n18), (.bool b19), (.slice (q20) k21 k22)])] w12 fun e23 w24 =>
       ∃ q25 : Option Addr, ∃ k26 : Nat, ∃ k27 : Nat, ∃ n28 : Int, (e23 = .returned (.tuple #[(.slice (q25) k26 k27), (.int .i64 n28)])) ∧
       (X.Kept L7 w12 w24) ∧
       X.CallX Try.prog 20 #[(.agg #[(.int .u8 a_0), (.int .u16 a_1), (.int .u8 a_2), (.int .u16 a_3), (.int .u64 a_4), (.int .u64 a_5), (.bool a_6), (.slice (a_7) a_7l a_7c)])] w24 fun e29 w30 =>
        ∃ q31 : Option Addr, ∃ k32 : Nat, ∃ k33 : Nat, ∃ n34 : Int, (e29 = .returned (.tuple #[(.slice (q31) k32 k33), (.int .i64 n34)])) ∧
        (X.Kept L7 w24 w30) ∧
        ∃ q35 : Option Addr, ∃ k36 : Nat, ∃ k37 : Nat, ∃ w38 : World, (Sem.run Try.prog (Go.Builtin.append_ #[66, 66] 66 #[(.slice (some ⟨(w30).heap.size, 0, none⟩) 0 0), (.slice (b) bl bc)]) (w30.alloc (.cells #[] 5)) = .ok (.slice (q35) k36 k37) w38) ∧
        (X.Kept L7 (w30.alloc (.cells #[] 5)) w38) ∧
        X.CallX Try.prog 21 #[(.slice (q35) k36 k37)] w38 fun e39 w40 =>
         ∃ n41 : Int, ∃ n42 : Int, ∃ n43 : Int, ∃ n44 : Int, ∃ n45 : Int, ∃ n46 : Int, ∃ b47 : Bool, ∃ q48 : Option Addr, ∃ k49 : Nat, ∃ k50 : Nat, ∃ n51 : Int, (e39 = .returned (.tuple #[(.agg #[(.int .u8 n41), (.int .u16 n42), (.int .u8 n43), (.int .u16 n44), (.int .u64 n45), (.int .u64 n46), (.bool b47), (.slice (q48) k49 k50)]), (.int .i64 n51)])) ∧
         (X.Kept L7 w38 w40) ∧
         ∀ w52 : World, ∀ L53 : List Nat, (X.Hid (L7) w40 w52) →
         (X.NewL (w).heap.size (L7) w40 w52 L53) →
         X.CallX Try.prog 22 #[(.slice (b) bl bc)] w52 fun e54 w55 =>
          ∃ n56 : Int, ∃ n57 : Int, ∃ n58 : Int, ∃ n59 : Int, ∃ n60 : Int, ∃ n61 : Int, ∃ b62 : Bool, ∃ q63 : Option Addr, ∃ k64 : Nat, ∃ k65 : Nat, ∃ n66 : Int, (e54 = .returned (.tuple #[(.agg #[(.int .u8 n56), (.int .u16 n57), (.int .u8 n58), (.int .u16 n59), (.int .u64 n60), (.int .u64 n61), (.bool b62), (.slice (q63) k64 k65)]), (.int .i64 n66)])) ∧
          (X.Kept L53 w52 w55) ∧
          ∀ w67 : World, ∀ L68 : List Nat, (X.Hid (L53) w55 w67) →
          (X.NewL (w).heap.size (L53) w55 w67 L68) →
          ∃ s69 : ByteArray, ∃ w70 : World, (Sem.run Try.prog (Go.convert 66 9 (.slice (q25) k26 k27)) w67 = .ok (.string s69) w70) ∧
          (X.Kept L68 w67 w70) ∧
          ∃ s71 : ByteArray, ∃ w72 : World, (Sem.run Try.prog (Go.convert 66 9 (.slice (q31) k32 k33)) w70 = .ok (.string s71) w72) ∧
          (X.Kept L68 w70 w72) ∧
          if ((!((s69.toList) == (s71.toList))) == false) = true then
           X.CallX Try.prog 23 #[(.int .i64 n28)] w72 fun e73 w74 =>
            ∃ n75 : Int, (e73 = .returned (.int .i64 n75)) ∧
            (X.Kept L68 w72 w74) ∧
            if ((false || (n75 != n34)) == false) = true then
             X.CallX Try.prog 24 #[(.agg #[(.int .u8 n56), (.int .u16 n57), (.int .u8 n58), (.int .u16 n59), (.int .u64 n60), (.int .u64 n61), (.bool b62), (.slice (q63) k64 k65)]), (.agg #[(.int .u8 n41), (.int .u16 n42), (.int .u8 n43), (.int .u16 n44), (.int .u64 n45), (.int .u64 n46), (.bool b47), (.slice (q48) k49 k50)])] w74 fun e76 w77 =>
              ∃ b78 : Bool, (e76 = .returned (.bool b78)) ∧
              (X.Kept L68 w74 w77) ∧
              if ((false || (!b78)) == false) = true then
               X.CallX Try.prog 23 #[(.int .i64 n51)] w77 fun e79 w80 =>
                ∃ n81 : Int, (e79 = .returned (.int .i64 n81)) ∧
                (X.Kept L68 w77 w80) ∧
                if (false || (n81 != n66)) = true then
                 R (.returned (.bool false)) w80
                else
                 X.CallX Try.prog 23 #[(.int .i64 n28)] w80 fun e82 w83 =>
                  ∃ n84 : Int, (e82 = .returned (.int .i64 n84)) ∧
                  (X.Kept L68 w80 w83) ∧
                  if (n84 == 0) = true then
                   X.CallX Try.prog 21 #[(.slice (q25) k26 k27)] w83 fun e101 w102 =>
                    ∃ n103 : Int, ∃ n104 : Int, ∃ n105 : Int, ∃ n106 : Int, ∃ n107 : Int, ∃ n108 : Int, ∃ b109 : Bool, ∃ q110 : Option Addr, ∃ k111 : Nat, ∃ k112 : Nat, ∃ n113 : Int, (e101 = .returned (.tuple #[(.agg #[(.int .u8 n103), (.int .u16 n104), (.int .u8 n105), (.int .u16 n106), (.int .u64 n107), (.int .u64 n108), (.bool b109), (.slice (q110) k111 k112)]), (.int .i64 n113)])) ∧
                    (X.Kept L68 w83 w102) ∧
                    ∀ w114 : World, ∀ L115 : List Nat, (X.Hid (L68) w102 w114) →
                    (X.NewL (w).heap.size (L68) w102 w114 L115) →
                    X.CallX Try.prog 23 #[(.int .i64 n113)] w114 fun e116 w117 =>
                     ∃ n118 : Int, (e116 = .returned (.int .i64 n118)) ∧
                     (X.Kept L115 w114 w117) ∧
                     if ((n118 != 0) == false) = true then
                      X.CallX Try.prog 24 #[(.agg #[(.int .u8 a_0), (.int .u16 a_1), (.int .u8 a_2), (.int .u16 a_3), (.int .u64 a_4), (.int .u64 a_5), (.bool a_6), (.slice (a_7) a_7l a_7c)]), (.agg #[(.int .u8 n103), (.int .u16 n104), (.int .u8 n105), (.int .u16 n106), (.int .u64 n107), (.int .u64 n108), (.bool b109), (.slice (q110) k111 k112)])] w117 fun e119 w120 =>
                       ∃ b121 : Bool, (e119 = .returned (.bool b121)) ∧
                       (X.Kept L115 w117 w120) ∧
                       if (false || (!b121)) = true then
                        R (.returned (.bool false)) w120
                       else
                        X.CallX Try.prog 23 #[(.int .i64 n51)] w120 fun e122 w123 =>
                         ∃ n124 : Int, (e122 = .returned (.int .i64 n124)) ∧
                         (X.Kept L115 w120 w123) ∧
                         if (n124 == 0) = true then
                          X.CallX Try.prog 18 #[(.agg #[(.int .u8 n41), (.int .u16 n42), (.int .u8 n43), (.int .u16 n44), (.int .u64 n45), (.int .u64 n46), (.bool b47), (.slice (q48) k49 k50)])] w123 fun e125 w126 =>
                           ∃ q127 : Option Addr, ∃ k128 : Nat, ∃ k129 : Nat, ∃ n130 : Int, (e125 = .returned (.tuple #[(.slice (q127) k128 k129), (.int .i64 n130)])) ∧
                           (X.Kept L115 w123 w126) ∧
                           X.CallX Try.prog 23 #[(.int .i64 n130)] w126 fun e131 w132 =>
                            ∃ n133 : Int, (e131 = .returned (.int .i64 n133)) ∧
                            (X.Kept L115 w126 w132) ∧
                            if ((n133 == 0) == true) = true then
                             ∃ s134 : ByteArray, ∃ w135 : World, (Sem.run Try.prog (Go.convert 66 9 (.slice (q127) k128 k129)) w132 = .ok (.string s134) w135) ∧
                             (X.Kept L115 w132 w135) ∧
                             ∃ s136 : ByteArray, ∃ w137 : World, (Sem.run Try.prog (Go.convert 66 9 (.slice (b) bl bc)) w135 = .ok (.string s136) w137) ∧
                             (X.Kept L115 w135 w137) ∧
                             R (.returned (.bool (true && ((s134.toList) == (s136.toList))))) w137
                            else
                             R (.returned (.bool false)) w132
                         else
                          R (.returned (.bool true)) w123
                     else
                      R (.returned (.bool false)) w117
                  else
                   X.CallX Try.prog 23 #[(.int .i64 n51)] w83 fun e85 w86 =>
                    ∃ n87 : Int, (e85 = .returned (.int .i64 n87)) ∧
                    (X.Kept L68 w83 w86) ∧
                    if (n87 == 0) = true then
                     X.CallX Try.prog 18 #[(.agg #[(.int .u8 n41), (.int .u16 n42), (.int .u8 n43), (.int .u16 n44), (.int .u64 n45), (.int .u64 n46), (.bool b47), (.slice (q48) k49 k50)])] w86 fun e88 w89 =>
                      ∃ q90 : Option Addr, ∃ k91 : Nat, ∃ k92 : Nat, ∃ n93 : Int, (e88 = .returned (.tuple #[(.slice (q90) k91 k92), (.int .i64 n93)])) ∧
                      (X.Kept L68 w86 w89) ∧
                      X.CallX Try.prog 23 #[(.int .i64 n93)] w89 fun e94 w95 =>
                       ∃ n96 : Int, (e94 = .returned (.int .i64 n96)) ∧
                       (X.Kept L68 w89 w95) ∧
                       if ((n96 == 0) == true) = true then
                        ∃ s97 : ByteArray, ∃ w98 : World, (Sem.run Try.prog (Go.convert 66 9 (.slice (q90) k91 k92)) w95 = .ok (.string s97) w98) ∧
                        (X.Kept L68 w95 w98) ∧
                        ∃ s99 : ByteArray, ∃ w100 : World, (Sem.run Try.prog (Go.convert 66 9 (.slice (b) bl bc)) w98 = .ok (.string s99) w100) ∧
                        (X.Kept L68 w98 w100) ∧
                        R (.returned (.bool (true && ((s97.toList) == (s99.toList))))) w100
                       else
                        R (.returned (.bool false)) w95
                    else
                     R (.returned (.bool true)) w86
              else
               R (.returned (.bool false)) w77
            else
             R (.returned (.bool false)) w74
          else
           R (.returned (.bool false)) w72
  else
   ∀ w1 : World, ∀ L2 : List Nat, (X.Hid [] w w1) →
   (X.NewL (w).heap.size [] w w1 L2) →
   X.CallX Try.prog 8 #[] w1 fun e3 w4 =>
    ∃ b5 : Bool, (e3 = .returned (.bool b5)) ∧
    (X.Kept L2 w1 w4) ∧
    R (.returned (.bool b5)) w4) :
    Calls Try.prog 5 #[.agg #[.int .u8 a_0, .int .u16 a_1, .int .u8 a_2, .int .u16 a_3, .int .u64 a_4, .int .u64 a_5, .bool a_6, .slice a_7 a_7l a_7c], .slice b bl bc] w R :=
  X.calls_of { isLoc := [2, 9, 11, 13], sym := [], loops := [], joins := [] } Try.func5 (by kernel_rfl) h
abbrev fn_WireSpoilt : Nat := 6
theorem x_WireSpoilt (a_0 a_1 a_2 a_3 a_4 a_5 : Int) (a_6 : Bool) (a_7 : Option Addr) (a_7l a_7c : Nat) (b c : Int) (w : World) (R : Ending → World → Prop) (h :
  ∀ w1 : World, ∀ L2 : List Nat, (X.Hid [] w w1) →
  (X.NewL (w).heap.size [] w w1 L2) →
  X.CallX Try.prog 19 #[(.agg #[(.int .u8 a_0), (.int .u16 a_1), (.int .u8 a_2), (.int .u16 a_3), (.int .u64 a_4), (.int .u64 a_5), (.bool a_6), (.slice (a_7) a_7l a_7c)])] w1 fun e3 w4 =>
   ∃ n5 : Int, ∃ n6 : Int, ∃ n7 : Int, ∃ n8 : Int, ∃ n9 : Int, ∃ n10 : Int, ∃ b11 : Bool, ∃ q12 : Option Addr, ∃ k13 : Nat, ∃ k14 : Nat, (e3 = .returned (.agg #[(.int .u8 n5), (.int .u16 n6), (.int .u8 n7), (.int .u16 n8), (.int .u64 n9), (.int .u64 n10), (.bool b11), (.slice (q12) k13 k14)])) ∧
   (X.Kept L2 w1 w4) ∧
   X.CallX Try.prog 18 #[(.agg #[(.int .u8 n5), (.int .u16 n6), (.int .u8 n7), (.int .u16 n8), (.int .u64 n9), (.int .u64 n10), (.bool b11), (.slice (q12) k13 k14)])] w4 fun e15 w16 =>
    ∃ q17 : Option Addr, ∃ k18 : Nat, ∃ k19 : Nat, ∃ n20 : Int, (e15 = .returned (.tuple #[(.slice (q17) k18 k19), (.int .i64 n20)])) ∧
    (X.Kept L2 w4 w16) ∧
    if ((decide (((a_7l : Nat) : Int) > 2000)) == false) = true then
     X.CallX Try.prog 23 #[(.int .i64 n20)] w16 fun e24 w25 =>
      ∃ n26 : Int, (e24 = .returned (.int .i64 n26)) ∧
      (X.Kept L2 w16 w25) ∧
      if (((false || (n26 != 0)) || (c == 0)) == false) = true then
       X.CallX Try.prog 8 #[] w25 fun e30 w31 =>
        ∃ b32 : Bool, (e30 = .returned (.bool b32)) ∧
        (X.Kept L2 w25 w31) ∧
        if (false || (!b32)) = true then
         X.CallX Try.prog 8 #[] w31 fun e59 w60 =>
          ∃ b61 : Bool, (e59 = .returned (.bool b61)) ∧
          (X.Kept L2 w31 w60) ∧
          R (.returned (.bool b61)) w60
        else
         ((IntKind.wrap .i64 (((k18 : Nat) : Int) - 3)) ≠ 0) ∧
         ((IntKind.wrap .i64 (((k18 : Nat) : Int) - 3)) ≠ 0) ∧
         ∃ x33 : Int → World → List Nat → Prop, ∃ x34 : Int → World → Nat, (x33 0 w31 (L2)) ∧
         ∀ n35 : Int, ∀ w36 : World, ∀ L37 : List Nat, (X.LF (w).heap.size w36 L37) →
         (x33 n35 w36 L37) →
         if (decide (n35 < 4)) = true then
          ((0 : Int) ≤ (IntKind.wrap .i64 (((IntKind.i64.wrap (IntKind.i64.wrap (b.tmod (IntKind.i64.wrap (((k18 : Nat) : Int) - 3)) + ((k18 : Nat) : Int)) - 3)).tmod (IntKind.i64.wrap (((k18 : Nat) : Int) - 3))) + n35))) ∧
          ((IntKind.wrap .i64 (((IntKind.i64.wrap (IntKind.i64.wrap (b.tmod (IntKind.i64.wrap (((k18 : Nat) : Int) - 3)) + ((k18 : Nat) : Int)) - 3)).tmod (IntKind.i64.wrap (((k18 : Nat) : Int) - 3))) + n35)) < ((k18 : Nat) : Int)) ∧
          X.onSome (q17) fun p56 =>
          ∃ n57 : Int, (World.cell? w36 (p56.add (((IntKind.wrap .i64 (((IntKind.i64.wrap (IntKind.i64.wrap (b.tmod (IntKind.i64.wrap (((k18 : Nat) : Int) - 3)) + ((k18 : Nat) : Int)) - 3)).tmod (IntKind.i64.wrap (((k18 : Nat) : Int) - 3))) + n35))).toNat * 1)) = some (.int .u8 n57)) ∧
          (¬ (((p56.add ((IntKind.i64.wrap ((IntKind.i64.wrap (IntKind.i64.wrap (b.tmod (IntKind.i64.wrap (((k18 : Nat) : Int) - 3)) + ((k18 : Nat) : Int)) - 3)).tmod (IntKind.i64.wrap (((k18 : Nat) : Int) - 3)) + n35)).toNat * 1)).block) ∈ L37)) ∧
          ((0 : Int) ≤ (IntKind.wrap .u64 (IntKind.wrap .i64 (8 * n35)))) ∧
          ((0 : Int) ≤ (IntKind.wrap .i64 (((IntKind.i64.wrap (IntKind.i64.wrap (b.tmod (IntKind.i64.wrap (((k18 : Nat) : Int) - 3)) + ((k18 : Nat) : Int)) - 3)).tmod (IntKind.i64.wrap (((k18 : Nat) : Int) - 3))) + n35))) ∧
          ((IntKind.wrap .i64 (((IntKind.i64.wrap (IntKind.i64.wrap (b.tmod (IntKind.i64.wrap (((k18 : Nat) : Int) - 3)) + ((k18 : Nat) : Int)) - 3)).tmod (IntKind.i64.wrap (((k18 : Nat) : Int) - 3))) + n35)) < ((k18 : Nat) : Int)) ∧
          X.onSome (q17) fun p58 =>
          (((p58.add ((IntKind.i64.wrap ((IntKind.i64.wrap (IntKind.i64.wrap (b.tmod (IntKind.i64.wrap (((k18 : Nat) : Int) - 3)) + ((k18 : Nat) : Int)) - 3)).tmod (IntKind.i64.wrap (((k18 : Nat) : Int) - 3)) + n35)).toNat * 1)).spot) = none) ∧
          (World.there w36 ((p58.add ((IntKind.i64.wrap ((IntKind.i64.wrap (IntKind.i64.wrap (b.tmod (IntKind.i64.wrap (((k18 : Nat) : Int) - 3)) + ((k18 : Nat) : Int)) - 3)).tmod (IntKind.i64.wrap (((k18 : Nat) : Int) - 3)) + n35)).toNat * 1)).block) ((p58.add ((IntKind.i64.wrap ((IntKind.i64.wrap (IntKind.i64.wrap (b.tmod (IntKind.i64.wrap (((k18 : Nat) : Int) - 3)) + ((k18 : Nat) : Int)) - 3)).tmod (IntKind.i64.wrap (((k18 : Nat) : Int) - 3)) + n35)).toNat * 1)).off) 1) ∧
          (¬ (((p58.add ((IntKind.i64.wrap ((IntKind.i64.wrap (IntKind.i64.wrap (b.tmod (IntKind.i64.wrap (((k18 : Nat) : Int) - 3)) + ((k18 : Nat) : Int)) - 3)).tmod (IntKind.i64.wrap (((k18 : Nat) : Int) - 3)) + n35)).toNat * 1)).block) ∈ L37)) ∧
          (([(.int .u8 a_0), (.int .u16 a_1), (.int .u8 a_2), (.int .u16 a_3), (.int .u64 a_4), (.int .u64 a_5), (.bool a_6), (.slice (a_7) a_7l a_7c)] : List Value) = [(.int .u8 a_0), (.int .u16 a_1), (.int .u8 a_2), (.int .u16 a_3), (.int .u64 a_4), (.int .u64 a_5), (.bool a_6), (.slice (a_7) a_7l a_7c)]) ∧
          (x33 (IntKind.wrap .i64 (n35 + 1)) (w36.setCells ((p58.add ((IntKind.i64.wrap ((IntKind.i64.wrap (IntKind.i64.wrap (b.tmod (IntKind.i64.wrap (((k18 : Nat) : Int) - 3)) + ((k18 : Nat) : Int)) - 3)).tmod (IntKind.i64.wrap (((k18 : Nat) : Int) - 3)) + n35)).toNat * 1)).block) ((p58.add ((IntKind.i64.wrap ((IntKind.i64.wrap (IntKind.i64.wrap (b.tmod (IntKind.i64.wrap (((k18 : Nat) : Int) - 3)) + ((k18 : Nat) : Int)) - 3)).tmod (IntKind.i64.wrap (((k18 : Nat) : Int) - 3)) + n35)).toNat * 1)).off) [(.int .u8 (IntKind.wrap .u8 ((((BitVec.ofInt 8 n57 ^^^ BitVec.ofInt 8 (IntKind.u8.wrap (c.fdiv (2 ^ min (IntKind.u64.wrap (IntKind.i64.wrap (8 * n35))).toNat 32)))).toNat) : Nat) : Int)))]) (L37)) ∧
          Nat.le ((x34 (IntKind.wrap .i64 (n35 + 1)) (w36.setCells ((p58.add ((IntKind.i64.wrap ((IntKind.i64.wrap (IntKind.i64.wrap (b.tmod (IntKind.i64.wrap (((k18 : Nat) : Int) - 3)) + ((k18 : Nat) : Int)) - 3)).tmod (IntKind.i64.wrap (((k18 : Nat) : Int) - 3)) + n35)).toNat * 1)).block) ((p58.add ((IntKind.i64.wrap ((IntKind.i64.wrap (IntKind.i64.wrap (b.tmod (IntKind.i64.wrap (((k18 : Nat) : Int) - 3)) + ((k18 : Nat) : Int)) - 3)).tmod (IntKind.i64.wrap (((k18 : Nat) : Int) - 3)) + n35)).toNat * 1)).off) [(.int .u8 (IntKind.wrap .u8 ((((BitVec.ofInt 8 n57 ^^^ BitVec.ofInt 8 (IntKind.u8.wrap (c.fdiv (2 ^ min (IntKind.u64.wrap (IntKind.i64.wrap (8 * n35))).toNat 32)))).toNat) : Nat) : Int)))])) + 1) (x34 n35 w36)
         else
          X.CallX Try.prog 21 #[(.slice (q17) k18 k19)] w36 fun e38 w39 =>
           ∃ n40 : Int, ∃ n41 : Int, ∃ n42 : Int, ∃ n43 : Int, ∃ n44 : Int, ∃ n45 : Int, ∃ b46 : Bool, ∃ q47 : Option Addr, ∃ k48 : Nat, ∃ k49 : Nat, ∃ n50 : Int, (e38 = .returned (.tuple #[(.agg #[(.int .u8 n40), (.int .u16 n41), (.int .u8 n42), (.int .u16 n43), (.int .u64 n44), (.int .u64 n45), (.bool b46), (.slice (q47) k48 k49)]), (.int .i64 n50)])) ∧
           (X.Kept L37 w36 w39) ∧
           ∀ w51 : World, ∀ L52 : List Nat, (X.Hid (L37) w39 w51) →
           (X.NewL (w).heap.size (L37) w39 w51 L52) →
           X.CallX Try.prog 23 #[(.int .i64 n50)] w51 fun e53 w54 =>
            ∃ n55 : Int, (e53 = .returned (.int .i64 n55)) ∧
            (X.Kept L52 w51 w54) ∧
            R (.returned (.bool (((n55 == 7) && (((k48 : Nat) : Int) == 0)) && (!b46)))) w54
      else
       X.CallX Try.prog 8 #[] w25 fun e27 w28 =>
        ∃ b29 : Bool, (e27 = .returned (.bool b29)) ∧
        (X.Kept L2 w25 w28) ∧
        R (.returned (.bool b29)) w28
    else
     X.CallX Try.prog 8 #[] w16 fun e21 w22 =>
      ∃ b23 : Bool, (e21 = .returned (.bool b23)) ∧
      (X.Kept L2 w16 w22) ∧
      R (.returned (.bool b23)) w22) :
    Calls Try.prog 6 #[.agg #[.int .u8 a_0, .int .u16 a_1, .int .u8 a_2, .int .u16 a_3, .int .u64 a_4, .int .u64 a_5, .bool a_6, .slice a_7 a_7l a_7c], .int .i64 b, .int .u32 c] w R :=
  X.calls_of { isLoc := [3, 10], sym := [40, 48, 67], loops := [(6, .inv [(9, .int .i64)] [] true)], joins := [] } Try.func6 (by kernel_rfl) h
end Go.Proofs
