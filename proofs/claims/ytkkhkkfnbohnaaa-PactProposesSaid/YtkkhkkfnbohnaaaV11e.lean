import Derived.Test.YtkkhkkfnbohnaaaXFn
import Derived.Test.YtkkhkkfnbohnaaaProg
/- The verification conditions of this seat's functions, as the engine has them: printed by a program of the bench; checked by the kernel. -/
set_option maxRecDepth 100000
set_option linter.unusedVariables false
namespace Go.Proofs
open Go
abbrev fn_rStart : Nat := 25
theorem x_rStart (a_0 a_1 : Int) (a_2 : Option Addr) (a_2l a_2c : Nat) (b : Int) (w : World) (R : Ending → World → Prop) (h :
  ∀ w1 : World, ∀ L2 : List Nat, (X.Hid [] w w1) →
  (X.NewL (w).heap.size [] w w1 L2) →
  X.CallX Try.prog 54 #[(.agg #[(.int .u8 a_0), (.int .u32 a_1), (.slice (a_2) a_2l a_2c)])] w1 fun e3 w4 =>
   ∃ b5 : Bool, (e3 = .returned (.bool b5)) ∧
   (X.Kept L2 w1 w4) ∧
   if ((!b5) || (b == 0)) = true then
    R (.returned (.pointer none)) w4
   else
    R (.returned (.pointer (some ⟨(w4).heap.size, 0, none⟩))) (w4.alloc (.cells #[(.int .u8 a_0), (.int .u32 a_1), (.slice (a_2) a_2l a_2c), (.int .u64 b), (.int .i64 0), (.slice none 0 0), (.int .u64 0), (.slice none 0 0), (.slice none 0 0), (.bool false), (.slice none 0 0), (.slice none 0 0), (.slice none 0 0)] 80))) :
    Calls Try.prog 25 #[.agg #[.int .u8 a_0, .int .u32 a_1, .slice a_2 a_2l a_2c], .int .u64 b] w R :=
  X.calls_of { isLoc := [2], sym := [], loops := [], joins := [] } Try.func25 (by kernel_rfl) h
abbrev fn_rPromise : Nat := 29
theorem x_rPromise (a : Addr) (b_0 b_1 : Int) (c : Option Addr) (cl cc : Nat) (d : Int) (e_0 : Option Addr) (e_0l e_0c : Nat) (e_1 : Option Addr) (e_1l e_1c : Nat) (f : Bool) (w : World) (R : Ending → World → Prop) (h :
  ∀ w1 : World, ∀ L2 : List Nat, (X.Hid [] w w1) →
  (X.NewL (w).heap.size [] w w1 L2) →
  X.CallX Try.prog 58 #[(.pointer (some a)), (.agg #[(.int .u8 b_0), (.int .u16 b_1)]), (.int .i64 0)] w1 fun e3 w4 =>
   ∃ b5 : Bool, (e3 = .returned (.bool b5)) ∧
   (X.Kept L2 w1 w4) ∧
   if (!b5) = true then
    R (.returned (.tuple #[])) w4
   else
    ∃ x6 : X.Facts, (X.FactsW x6 w4 (L2)) ∧
    ∃ q7 : Option Addr, ∃ k8 : Nat, ∃ k9 : Nat, (((a.add 5), [(.slice (q7) k8 k9)]) ∈ x6) ∧
    ∀ w10 : World, ∀ L11 : List Nat, (X.Hid (L2) w4 w10) →
    (X.NewL (w).heap.size (L2) w4 w10 L11) →
    (X.FactsW x6 (w10.alloc (.cells #[(.int .u8 b_0), (.int .u16 b_1)] 38)) (L11)) ∧
    ∃ q12 : Option Addr, ∃ k13 : Nat, ∃ k14 : Nat, ∃ w15 : World, (Sem.run Try.prog (Go.Builtin.append_ #[30, 30] 30 #[(.slice (q7) k8 k9), (.slice (some ⟨(w10).heap.size, 0, none⟩) 1 1)]) (w10.alloc (.cells #[(.int .u8 b_0), (.int .u16 b_1)] 38)) = .ok (.slice (q12) k13 k14) w15) ∧
    (X.Kept L11 (w10.alloc (.cells #[(.int .u8 b_0), (.int .u16 b_1)] 38)) w15) ∧
    (X.FactsW x6 w15 (L11)) ∧
    ((none : Option Nat) = none) ∧
    (World.there w15 (a.block) ((a.off) + 5) 1) ∧
    (¬ ((a.block) ∈ L11)) ∧
    if (f == true) = true then
     ∃ b19 : Bool, (World.cell? (w15.setCells (a.block) ((a.off) + 5) [(.slice (q12) k13 k14)]) (a.add 9) = some (.bool b19)) ∧
     (¬ ((a.block) ∈ L11)) ∧
     if ((!b19) == false) = true then
      ∃ n23 : Int, (World.cell? (w15.setCells (a.block) ((a.off) + 5) [(.slice (q12) k13 k14)]) (a.add 6) = some (.int .u64 n23)) ∧
      (¬ ((a.block) ∈ L11)) ∧
      if (true && (false || decide (d > n23))) = true then
       ((none : Option Nat) = none) ∧
       (World.there (w15.setCells (a.block) ((a.off) + 5) [(.slice (q12) k13 k14)]) (a.block) ((a.off) + 9) 1) ∧
       (¬ ((a.block) ∈ L11)) ∧
       ((none : Option Nat) = none) ∧
       (World.there ((w15.setCells (a.block) ((a.off) + 5) [(.slice (q12) k13 k14)]).setCells (a.block) ((a.off) + 9) [(.bool true)]) (a.block) ((a.off) + 6) 1) ∧
       (¬ ((a.block) ∈ L11)) ∧
       ((none : Option Nat) = none) ∧
       (World.there (((w15.setCells (a.block) ((a.off) + 5) [(.slice (q12) k13 k14)]).setCells (a.block) ((a.off) + 9) [(.bool true)]).setCells (a.block) ((a.off) + 6) [(.int .u64 d)]) (a.block) ((a.off) + 7) 2) ∧
       (¬ ((a.block) ∈ L11)) ∧
       ∃ q27 : Option Addr, ∃ k28 : Nat, ∃ k29 : Nat, (World.cell? ((((w15.setCells (a.block) ((a.off) + 5) [(.slice (q12) k13 k14)]).setCells (a.block) ((a.off) + 9) [(.bool true)]).setCells (a.block) ((a.off) + 6) [(.int .u64 d)]).setCells (a.block) ((a.off) + 7) [(.slice (e_0) e_0l e_0c), (.slice (e_1) e_1l e_1c)]) (a.add 10) = some (.slice (q27) k28 k29)) ∧
       (¬ ((a.block) ∈ L11)) ∧
       if (decide (((cl : Nat) : Int) > ((k28 : Nat) : Int))) = true then
        ((none : Option Nat) = none) ∧
        (World.there ((((w15.setCells (a.block) ((a.off) + 5) [(.slice (q12) k13 k14)]).setCells (a.block) ((a.off) + 9) [(.bool true)]).setCells (a.block) ((a.off) + 6) [(.int .u64 d)]).setCells (a.block) ((a.off) + 7) [(.slice (e_0) e_0l e_0c), (.slice (e_1) e_1l e_1c)]) (a.block) ((a.off) + 10) 1) ∧
        (¬ ((a.block) ∈ L11)) ∧
        R (.returned (.tuple #[])) (((((w15.setCells (a.block) ((a.off) + 5) [(.slice (q12) k13 k14)]).setCells (a.block) ((a.off) + 9) [(.bool true)]).setCells (a.block) ((a.off) + 6) [(.int .u64 d)]).setCells (a.block) ((a.off) + 7) [(.slice (e_0) e_0l e_0c), (.slice (e_1) e_1l e_1c)]).setCells (a.block) ((a.off) + 10) [(.slice (c) cl cc)])
       else
        R (.returned (.tuple #[])) ((((w15.setCells (a.block) ((a.off) + 5) [(.slice (q12) k13 k14)]).setCells (a.block) ((a.off) + 9) [(.bool true)]).setCells (a.block) ((a.off) + 6) [(.int .u64 d)]).setCells (a.block) ((a.off) + 7) [(.slice (e_0) e_0l e_0c), (.slice (e_1) e_1l e_1c)])
      else
       ∃ q24 : Option Addr, ∃ k25 : Nat, ∃ k26 : Nat, (World.cell? (w15.setCells (a.block) ((a.off) + 5) [(.slice (q12) k13 k14)]) (a.add 10) = some (.slice (q24) k25 k26)) ∧
       (¬ ((a.block) ∈ L11)) ∧
       if (decide (((cl : Nat) : Int) > ((k25 : Nat) : Int))) = true then
        ((none : Option Nat) = none) ∧
        (World.there (w15.setCells (a.block) ((a.off) + 5) [(.slice (q12) k13 k14)]) (a.block) ((a.off) + 10) 1) ∧
        (¬ ((a.block) ∈ L11)) ∧
        R (.returned (.tuple #[])) ((w15.setCells (a.block) ((a.off) + 5) [(.slice (q12) k13 k14)]).setCells (a.block) ((a.off) + 10) [(.slice (c) cl cc)])
       else
        R (.returned (.tuple #[])) (w15.setCells (a.block) ((a.off) + 5) [(.slice (q12) k13 k14)])
     else
      ((none : Option Nat) = none) ∧
      (World.there (w15.setCells (a.block) ((a.off) + 5) [(.slice (q12) k13 k14)]) (a.block) ((a.off) + 9) 1) ∧
      (¬ ((a.block) ∈ L11)) ∧
      ((none : Option Nat) = none) ∧
      (World.there ((w15.setCells (a.block) ((a.off) + 5) [(.slice (q12) k13 k14)]).setCells (a.block) ((a.off) + 9) [(.bool true)]) (a.block) ((a.off) + 6) 1) ∧
      (¬ ((a.block) ∈ L11)) ∧
      ((none : Option Nat) = none) ∧
      (World.there (((w15.setCells (a.block) ((a.off) + 5) [(.slice (q12) k13 k14)]).setCells (a.block) ((a.off) + 9) [(.bool true)]).setCells (a.block) ((a.off) + 6) [(.int .u64 d)]) (a.block) ((a.off) + 7) 2) ∧
      (¬ ((a.block) ∈ L11)) ∧
      ∃ q20 : Option Addr, ∃ k21 : Nat, ∃ k22 : Nat, (World.cell? ((((w15.setCells (a.block) ((a.off) + 5) [(.slice (q12) k13 k14)]).setCells (a.block) ((a.off) + 9) [(.bool true)]).setCells (a.block) ((a.off) + 6) [(.int .u64 d)]).setCells (a.block) ((a.off) + 7) [(.slice (e_0) e_0l e_0c), (.slice (e_1) e_1l e_1c)]) (a.add 10) = some (.slice (q20) k21 k22)) ∧
      (¬ ((a.block) ∈ L11)) ∧
      if (decide (((cl : Nat) : Int) > ((k21 : Nat) : Int))) = true then
       ((none : Option Nat) = none) ∧
       (World.there ((((w15.setCells (a.block) ((a.off) + 5) [(.slice (q12) k13 k14)]).setCells (a.block) ((a.off) + 9) [(.bool true)]).setCells (a.block) ((a.off) + 6) [(.int .u64 d)]).setCells (a.block) ((a.off) + 7) [(.slice (e_0) e_0l e_0c), (.slice (e_1) e_1l e_1c)]) (a.block) ((a.off) + 10) 1) ∧
       (¬ ((a.block) ∈ L11)) ∧
       R (.returned (.tuple #[])) (((((w15.setCells (a.block) ((a.off) + 5) [(.slice (q12) k13 k14)]).setCells (a.block) ((a.off) + 9) [(.bool true)]).setCells (a.block) ((a.off) + 6) [(.int .u64 d)]).setCells (a.block) ((a.off) + 7) [(.slice (e_0) e_0l e_0c), (.slice (e_1) e_1l e_1c)]).setCells (a.block) ((a.off) + 10) [(.slice (c) cl cc)])
      else
       R (.returned (.tuple #[])) ((((w15.setCells (a.block) ((a.off) + 5) [(.slice (q12) k13 k14)]).setCells (a.block) ((a.off) + 9) [(.bool true)]).setCells (a.block) ((a.off) + 6) [(.int .u64 d)]).setCells (a.block) ((a.off) + 7) [(.slice (e_0) e_0l e_0c), (.slice (e_1) e_1l e_1c)])
    else
     ∃ q16 : Option Addr, ∃ k17 : Nat, ∃ k18 : Nat, (World.cell? (w15.setCells (a.block) ((a.off) + 5) [(.slice (q12) k13 k14)]) (a.add 10) = some (.slice (q16) k17 k18)) ∧
     (¬ ((a.block) ∈ L11)) ∧
     if (decide (((cl : Nat) : Int) > ((k17 : Nat) : Int))) = true then
      ((none : Option Nat) = none) ∧
      (World.there (w15.setCells (a.block) ((a.off) + 5) [(.slice (q12) k13 k14)]) (a.block) ((a.off) + 10) 1) ∧
      (¬ ((a.block) ∈ L11)) ∧
      R (.returned (.tuple #[])) ((w15.setCells (a.block) ((a.off) + 5) [(.slice (q12) k13 k14)]).setCells (a.block) ((a.off) + 10) [(.slice (c) cl cc)])
     else
      R (.returned (.tuple #[])) (w15.setCells (a.block) ((a.off) + 5) [(.slice (q12) k13 k14)])) :
    Calls Try.prog 29 #[.pointer (some a), .agg #[.int .u8 b_0, .int .u16 b_1], .slice c cl cc, .int .u64 d, .agg #[.slice e_0 e_0l e_0c, .slice e_1 e_1l e_1c], .bool f] w R :=
  X.calls_of { isLoc := [7, 10], sym := [], loops := [], joins := [] } Try.func29 (by kernel_rfl) h
abbrev fn_rPropose : Nat := 32
theorem x_rPropose (a : Addr) (b : Option Addr) (bl bc : Nat) (w : World) (R : Ending → World → Prop) (h :
  ∀ w1 : World, ∀ L2 : List Nat, (X.Hid [] w w1) →
  (X.NewL (w).heap.size [] w w1 L2) →
  X.CallX Try.prog 37 #[(.pointer (some a))] w1 fun e3 w4 =>
   ∃ b5 : Bool, (e3 = .returned (.bool b5)) ∧
   (X.Kept L2 w1 w4) ∧
   if (!b5) = true then
    ∀ w30 : World, (X.Hid (L2) w4 w30) →
    R (.returned (.tuple #[(.agg #[(.slice none 0 0), (.slice none 0 0)]), (.bool false)])) w30
   else
    ((none : Option Nat) = none) ∧
    (World.there w4 (a.block) ((a.off) + 4) 1) ∧
    (¬ ((a.block) ∈ L2)) ∧
    ((none : Option Nat) = none) ∧
    (World.there (w4.setCells (a.block) ((a.off) + 4) [(.int .i64 1)]) (a.block) ((a.off) + 5) 1) ∧
    (¬ ((a.block) ∈ L2)) ∧
    ∃ q6 : Option Addr, ∃ k7 : Nat, ∃ k8 : Nat, (World.cell? ((w4.setCells (a.block) ((a.off) + 4) [(.int .i64 1)]).setCells (a.block) ((a.off) + 5) [(.slice none 0 0)]) (a.add 10) = some (.slice (q6) k7 k8)) ∧
    (¬ ((a.block) ∈ L2)) ∧
    ((none : Option Nat) = none) ∧
    (World.there ((w4.setCells (a.block) ((a.off) + 4) [(.int .i64 1)]).setCells (a.block) ((a.off) + 5) [(.slice none 0 0)]) (a.block) ((a.off) + 11) 2) ∧
    (¬ ((a.block) ∈ L2)) ∧
    ∃ b9 : Bool, (World.cell? (((w4.setCells (a.block) ((a.off) + 4) [(.int .i64 1)]).setCells (a.block) ((a.off) + 5) [(.slice none 0 0)]).setCells (a.block) ((a.off) + 11) [(.slice (b) bl bc), (.slice (q6) k7 k8)]) (a.add 9) = some (.bool b9)) ∧
    (¬ ((a.block) ∈ L2)) ∧
    if b9 = true then
     ∃ q17 : Option Addr, ∃ k18 : Nat, ∃ k19 : Nat, ∃ q20 : Option Addr, ∃ k21 : Nat, ∃ k22 : Nat, (X.Cells (((w4.setCells (a.block) ((a.off) + 4) [(.int .i64 1)]).setCells (a.block) ((a.off) + 5) [(.slice none 0 0)]).setCells (a.block) ((a.off) + 11) [(.slice (b) bl bc), (.slice (q6) k7 k8)]) (a.add 7) [(.slice (q17) k18 k19), (.slice (q20) k21 k22)]) ∧
     (¬ ((a.block) ∈ L2)) ∧
     ((none : Option Nat) = none) ∧
     (World.there (((w4.setCells (a.block) ((a.off) + 4) [(.int .i64 1)]).setCells (a.block) ((a.off) + 5) [(.slice none 0 0)]).setCells (a.block) ((a.off) + 11) [(.slice (b) bl bc), (.slice (q6) k7 k8)]) (a.block) ((a.off) + 11) 2) ∧
     (¬ ((a.block) ∈ L2)) ∧
     ∃ q23 : Option Addr, ∃ k24 : Nat, ∃ k25 : Nat, ∃ q26 : Option Addr, ∃ k27 : Nat, ∃ k28 : Nat, (X.Cells ((((w4.setCells (a.block) ((a.off) + 4) [(.int .i64 1)]).setCells (a.block) ((a.off) + 5) [(.slice none 0 0)]).setCells (a.block) ((a.off) + 11) [(.slice (b) bl bc), (.slice (q6) k7 k8)]).setCells (a.block) ((a.off) + 11) [(.slice (q17) k18 k19), (.slice (q20) k21 k22)]) (a.add 11) [(.slice (q23) k24 k25), (.slice (q26) k27 k28)]) ∧
     (¬ ((a.block) ∈ L2)) ∧
     ∀ w29 : World, (X.Hid (L2) ((((w4.setCells (a.block) ((a.off) + 4) [(.int .i64 1)]).setCells (a.block) ((a.off) + 5) [(.slice none 0 0)]).setCells (a.block) ((a.off) + 11) [(.slice (b) bl bc), (.slice (q6) k7 k8)]).setCells (a.block) ((a.off) + 11) [(.slice (q17) k18 k19), (.slice (q20) k21 k22)]) w29) →
     R (.returned (.tuple #[(.agg #[(.slice (q23) k24 k25), (.slice (q26) k27 k28)]), (.bool true)])) w29
    else
     ∃ q10 : Option Addr, ∃ k11 : Nat, ∃ k12 : Nat, ∃ q13 : Option Addr, ∃ k14 : Nat, ∃ k15 : Nat, (X.Cells (((w4.setCells (a.block) ((a.off) + 4) [(.int .i64 1)]).setCells (a.block) ((a.off) + 5) [(.slice none 0 0)]).setCells (a.block) ((a.off) + 11) [(.slice (b) bl bc), (.slice (q6) k7 k8)]) (a.add 11) [(.slice (q10) k11 k12), (.slice (q13) k14 k15)]) ∧
     (¬ ((a.block) ∈ L2)) ∧
     ∀ w16 : World, (X.Hid (L2) (((w4.setCells (a.block) ((a.off) + 4) [(.int .i64 1)]).setCells (a.block) ((a.off) + 5) [(.slice none 0 0)]).setCells (a.block) ((a.off) + 11) [(.slice (b) bl bc), (.slice (q6) k7 k8)]) w16) →
     R (.returned (.tuple #[(.agg #[(.slice (q10) k11 k12), (.slice (q13) k14 k15)]), (.bool true)])) w16) :
    Calls Try.prog 32 #[.pointer (some a), .slice b bl bc] w R :=
  X.calls_of { isLoc := [4], sym := [], loops := [], joins := [] } Try.func32 (by kernel_rfl) h
abbrev fn_rAccepted : Nat := 34
theorem x_rAccepted (a : Addr) (b_0 b_1 : Int) (w : World) (R : Ending → World → Prop) (h :
  ∀ w1 : World, ∀ L2 : List Nat, (X.Hid [] w w1) →
  (X.NewL (w).heap.size [] w w1 L2) →
  X.CallX Try.prog 58 #[(.pointer (some a)), (.agg #[(.int .u8 b_0), (.int .u16 b_1)]), (.int .i64 1)] w1 fun e3 w4 =>
   ∃ b5 : Bool, (e3 = .returned (.bool b5)) ∧
   (X.Kept L2 w1 w4) ∧
   if b5 = true then
    ∃ x7 : X.Facts, (X.FactsW x7 w4 (L2)) ∧
    ∃ q8 : Option Addr, ∃ k9 : Nat, ∃ k10 : Nat, (((a.add 5), [(.slice (q8) k9 k10)]) ∈ x7) ∧
    ∀ w11 : World, ∀ L12 : List Nat, (X.Hid (L2) w4 w11) →
    (X.NewL (w).heap.size (L2) w4 w11 L12) →
    (X.FactsW x7 (w11.alloc (.cells #[(.int .u8 b_0), (.int .u16 b_1)] 38)) (L12)) ∧
    ∃ q13 : Option Addr, ∃ k14 : Nat, ∃ k15 : Nat, ∃ w16 : World, (Sem.run Try.prog (Go.Builtin.append_ #[30, 30] 30 #[(.slice (q8) k9 k10), (.slice (some ⟨(w11).heap.size, 0, none⟩) 1 1)]) (w11.alloc (.cells #[(.int .u8 b_0), (.int .u16 b_1)] 38)) = .ok (.slice (q13) k14 k15) w16) ∧
    (X.Kept L12 (w11.alloc (.cells #[(.int .u8 b_0), (.int .u16 b_1)] 38)) w16) ∧
    (X.FactsW x7 w16 (L12)) ∧
    ((none : Option Nat) = none) ∧
    (World.there w16 (a.block) ((a.off) + 5) 1) ∧
    (¬ ((a.block) ∈ L12)) ∧
    ∃ x17 : X.Facts, (X.FactsW x17 (w16.setCells (a.block) ((a.off) + 5) [(.slice (q13) k14 k15)]) (L12)) ∧
    ∃ n18 : Int, ∃ n19 : Int, ∃ q20 : Option Addr, ∃ k21 : Nat, ∃ k22 : Nat, (((a.add 0), [(.int .u8 n18), (.int .u32 n19), (.slice (q20) k21 k22)]) ∈ x17) ∧
    ∃ q23 : Option Addr, ∃ k24 : Nat, ∃ k25 : Nat, (((a.add 5), [(.slice (q23) k24 k25)]) ∈ x17) ∧
    ∀ w26 : World, ∀ L27 : List Nat, (X.Hid (L12) (w16.setCells (a.block) ((a.off) + 5) [(.slice (q13) k14 k15)]) w26) →
    (X.NewL (w).heap.size (L12) (w16.setCells (a.block) ((a.off) + 5) [(.slice (q13) k14 k15)]) w26 L27) →
    X.CallX Try.prog 60 #[(.agg #[(.int .u8 n18), (.int .u32 n19), (.slice (q20) k21 k22)]), (.slice (q23) k24 k25)] w26 fun e28 w29 =>
     ∃ b30 : Bool, (e28 = .returned (.bool b30)) ∧
     (X.Kept L27 w26 w29) ∧
     if b30 = true then
      ((none : Option Nat) = none) ∧
      (World.there w29 (a.block) ((a.off) + 4) 1) ∧
      (¬ ((a.block) ∈ L27)) ∧
      ∃ n32 : Int, (World.cell? (w29.setCells (a.block) ((a.off) + 4) [(.int .i64 2)]) (a.add 4) = some (.int .i64 n32)) ∧
      (¬ ((a.block) ∈ L27)) ∧
      R (.returned (.bool (n32 == 2))) (w29.setCells (a.block) ((a.off) + 4) [(.int .i64 2)])
     else
      ∃ n31 : Int, (World.cell? w29 (a.add 4) = some (.int .i64 n31)) ∧
      (¬ ((a.block) ∈ L27)) ∧
      R (.returned (.bool (n31 == 2))) w29
   else
    ∃ n6 : Int, (World.cell? w4 (a.add 4) = some (.int .i64 n6)) ∧
    (¬ ((a.block) ∈ L2)) ∧
    R (.returned (.bool (n6 == 2))) w4) :
    Calls Try.prog 34 #[.pointer (some a), .agg #[.int .u8 b_0, .int .u16 b_1]] w R :=
  X.calls_of { isLoc := [3], sym := [], loops := [], joins := [] } Try.func34 (by kernel_rfl) h
abbrev fn_rReady : Nat := 37
theorem x_rReady (a : Addr) (w : World) (R : Ending → World → Prop) (h :
  ∃ x1 : X.Facts, (X.FactsW x1 w []) ∧
  ∃ n2 : Int, (((a.add 4), [(.int .i64 n2)]) ∈ x1) ∧
  if ((n2 == 0) == true) = true then
   ∃ n4 : Int, ∃ n5 : Int, ∃ q6 : Option Addr, ∃ k7 : Nat, ∃ k8 : Nat, (((a.add 0), [(.int .u8 n4), (.int .u32 n5), (.slice (q6) k7 k8)]) ∈ x1) ∧
   ∃ q9 : Option Addr, ∃ k10 : Nat, ∃ k11 : Nat, (((a.add 5), [(.slice (q9) k10 k11)]) ∈ x1) ∧
   ∀ w12 : World, (X.Hid [] w w12) →
   X.CallX Try.prog 60 #[(.agg #[(.int .u8 n4), (.int .u32 n5), (.slice (q6) k7 k8)]), (.slice (q9) k10 k11)] w12 fun e13 w14 =>
    ∃ b15 : Bool, (e13 = .returned (.bool b15)) ∧
    ((w12).heap.size ≤ (w14).heap.size) ∧
    (X.FactsW x1 w14 []) ∧
    R (.returned (.bool (true && b15))) w14
  else
   ∀ w3 : World, (X.Hid [] w w3) →
   R (.returned (.bool false)) w3) :
    Calls Try.prog 37 #[.pointer (some a)] w R :=
  X.calls_of { isLoc := [], sym := [], loops := [], joins := [] } Try.func37 (by kernel_rfl) h
abbrev fn_rMissing : Nat := 43
theorem x_rMissing (a : Addr) (w : World) (R : Ending → World → Prop) (h :
  ∃ x1 : Option Addr → Nat → Nat → Int → World → List Nat → Prop, ∃ x2 : Option Addr → Nat → Nat → Int → World → Nat, (x1 (none) 0 0 0 w []) ∧
  ∀ q3 : Option Addr, ∀ k4 : Nat, ∀ k5 : Nat, ∀ n6 : Int, ∀ w7 : World, ∀ L8 : List Nat, (X.LF (w).heap.size w7 L8) →
  (x1 q3 k4 k5 n6 w7 L8) →
  ∃ q9 : Option Addr, ∃ k10 : Nat, ∃ k11 : Nat, (World.cell? w7 ((a.add 0).add 2) = some (.slice (q9) k10 k11)) ∧
  if ((decide (n6 < ((k10 : Nat) : Int))) == true) = true then
   ∃ n12 : Int, (World.cell? w7 (a.add 4) = some (.int .i64 n12)) ∧
   if (true && (n12 != 2)) = true then
    ∃ x13 : X.Facts, (X.FactsW x13 w7 []) ∧
    ∃ q14 : Option Addr, ∃ k15 : Nat, ∃ k16 : Nat, (((a.add 5), [(.slice (q14) k15 k16)]) ∈ x13) ∧
    ∃ q17 : Option Addr, ∃ k18 : Nat, ∃ k19 : Nat, ((((a.add 0).add 2), [(.slice (q17) k18 k19)]) ∈ x13) ∧
    ((0 : Int) ≤ n6) ∧
    (n6 < ((k18 : Nat) : Int)) ∧
    X.onSome (q17) fun p20 =>
    ∃ n21 : Int, ∃ n22 : Int, (((p20.add ((n6).toNat * 2)), [(.int .u8 n21), (.int .u16 n22)]) ∈ x13) ∧
    ∀ w23 : World, (X.Hid [] w7 w23) →
    X.CallX Try.prog 66 #[(.slice (q14) k15 k16), (.agg #[(.int .u8 n21), (.int .u16 n22)])] w23 fun e24 w25 =>
     ∃ n26 : Int, (e24 = .returned (.int .i64 n26)) ∧
     ((w23).heap.size ≤ (w25).heap.size) ∧
     (X.FactsW x13 w25 []) ∧
     if (decide (n26 < 0)) = true then
      ∃ q27 : Option Addr, ∃ k28 : Nat, ∃ k29 : Nat, (World.cell? w25 ((a.add 0).add 2) = some (.slice (q27) k28 k29)) ∧
      ((0 : Int) ≤ n6) ∧
      (n6 < ((k28 : Nat) : Int)) ∧
      X.onSome (q27) fun p30 =>
      ∃ n31 : Int, ∃ n32 : Int, (X.Cells w25 (p30.add ((n6).toNat * 2)) [(.int .u8 n31), (.int .u16 n32)]) ∧
      ∃ q33 : Option Addr, ∃ k34 : Nat, ∃ k35 : Nat, ∃ w36 : World, (Sem.run Try.prog (Go.Builtin.append_ #[30, 30] 30 #[(.slice (q3) k4 k5), (.slice (some ⟨(w25).heap.size, 0, none⟩) 1 1)]) (w25.alloc (.cells #[(.int .u8 n31), (.int .u16 n32)] 38)) = .ok (.slice (q33) k34 k35) w36) ∧
      (((w25.alloc (.cells #[(.int .u8 n31), (.int .u16 n32)] 38))).heap.size ≤ (w36).heap.size) ∧
      (x1 q33 k34 k35 (IntKind.wrap .i64 (n6 + 1)) w36 []) ∧
      Nat.le ((x2 q33 k34 k35 (IntKind.wrap .i64 (n6 + 1)) w36) + 1) (x2 q3 k4 k5 n6 w7)
     else
      (x1 q3 k4 k5 (IntKind.wrap .i64 (n6 + 1)) w25 []) ∧
      Nat.le ((x2 q3 k4 k5 (IntKind.wrap .i64 (n6 + 1)) w25) + 1) (x2 q3 k4 k5 n6 w7)
   else
    R (.returned (.slice (q3) k4 k5)) w7
  else
   R (.returned (.slice (q3) k4 k5)) w7) :
    Calls Try.prog 43 #[.pointer (some a)] w R :=
  X.calls_of { isLoc := [], sym := [], loops := [(3, .inv [(3, .slice), (4, .int .i64)] [] true)], joins := [] } Try.func43 (by kernel_rfl) h
abbrev fn_rcounts : Nat := 58
theorem x_rcounts (a : Addr) (b_0 b_1 c : Int) (w : World) (R : Ending → World → Prop) (h :
  ∃ x1 : X.Facts, (X.FactsW x1 w []) ∧
  ∃ n2 : Int, (((a.add 4), [(.int .i64 n2)]) ∈ x1) ∧
  if ((n2 == c) == true) = true then
   ∃ q6 : Option Addr, ∃ k7 : Nat, ∃ k8 : Nat, ((((a.add 0).add 2), [(.slice (q6) k7 k8)]) ∈ x1) ∧
   ∀ w9 : World, ∀ L10 : List Nat, (X.Hid [] w w9) →
   (X.NewL (w).heap.size [] w w9 L10) →
   X.CallX Try.prog 66 #[(.slice (q6) k7 k8), (.agg #[(.int .u8 b_0), (.int .u16 b_1)])] w9 fun e11 w12 =>
    ∃ n13 : Int, (e11 = .returned (.int .i64 n13)) ∧
    (X.Kept L10 w9 w12) ∧
    (X.FactsW x1 w12 (L10)) ∧
    ∃ x14 : X.Facts, (X.FactsW x14 w12 (L10)) ∧
    (∀ x15 : Addr × List Value, (x15 ∈ x1) →
     x15 ∈ x14) ∧
    if ((true && decide (n13 ≥ 0)) == true) = true then
     ∃ q16 : Option Addr, ∃ k17 : Nat, ∃ k18 : Nat, (((a.add 5), [(.slice (q16) k17 k18)]) ∈ x14) ∧
     X.CallX Try.prog 66 #[(.slice (q16) k17 k18), (.agg #[(.int .u8 b_0), (.int .u16 b_1)])] w12 fun e19 w20 =>
      ∃ n21 : Int, (e19 = .returned (.int .i64 n21)) ∧
      (X.Kept L10 w12 w20) ∧
      (X.FactsW x14 w20 (L10)) ∧
      R (.returned (.bool (true && decide (n21 < 0)))) w20
    else
     R (.returned (.bool false)) w12
  else
   ∃ x3 : X.Facts, (X.FactsW x3 w []) ∧
   (∀ x4 : Addr × List Value, (x4 ∈ x1) →
    x4 ∈ x3) ∧
   ∀ w5 : World, (X.Hid [] w w5) →
   R (.returned (.bool false)) w5) :
    Calls Try.prog 58 #[.pointer (some a), .agg #[.int .u8 b_0, .int .u16 b_1], .int .i64 c] w R :=
  X.calls_of { isLoc := [4], sym := [], loops := [], joins := [] } Try.func58 (by kernel_rfl) h
abbrev fn_rRank : Nat := 66
theorem x_rRank (a : Option Addr) (al ac : Nat) (b_0 b_1 : Int) (w : World) (R : Ending → World → Prop) (h :
  ∀ w1 : World, ∀ L2 : List Nat, (X.Hid [] w w1) →
  (X.NewL (w).heap.size [] w w1 L2) →
  ∃ x3 : Int → World → List Nat → Prop, ∃ x4 : Int → World → Nat, (x3 0 w1 (L2)) ∧
  ∀ n5 : Int, ∀ w6 : World, ∀ L7 : List Nat, (X.LF (w).heap.size w6 L7) →
  (x3 n5 w6 L7) →
  if (decide (n5 < ((al : Nat) : Int))) = true then
   ((0 : Int) ≤ n5) ∧
   (n5 < ((al : Nat) : Int)) ∧
   X.onSome (a) fun p8 =>
   ∃ n9 : Int, ∃ n10 : Int, (X.Cells w6 (p8.add ((n5).toNat * 2)) [(.int .u8 n9), (.int .u16 n10)]) ∧
   (¬ (((p8.add (n5.toNat * 2)).block) ∈ L7)) ∧
   if ((n9 == b_0) && (n10 == b_1)) = true then
    ∀ w13 : World, (X.Hid (L7) w6 w13) →
    R (.returned (.int .i64 n5)) w13
   else
    ∀ w11 : World, ∀ L12 : List Nat, (X.Hid (L7) w6 w11) →
    (X.NewL (w).heap.size (L7) w6 w11 L12) →
    (([(.int .u8 b_0), (.int .u16 b_1)] : List Value) = [(.int .u8 b_0), (.int .u16 b_1)]) ∧
    (x3 (IntKind.wrap .i64 (n5 + 1)) w11 (L12)) ∧
    Nat.le ((x4 (IntKind.wrap .i64 (n5 + 1)) w11) + 1) (x4 n5 w6)
  else
   R (.returned (.int .i64 (-1))) w6) :
    Calls Try.prog 66 #[.slice a al ac, .agg #[.int .u8 b_0, .int .u16 b_1]] w R :=
  X.calls_of { isLoc := [3], sym := [], loops := [(2, .inv [(5, .int .i64)] [] true)], joins := [] } Try.func66 (by kernel_rfl) h
abbrev fn_rRight : Nat := 54
theorem x_rRight (a_0 a_1 : Int) (a_2 : Option Addr) (a_2l a_2c : Nat) (w : World) (R : Ending → World → Prop) (h :
  if (((decide (a_0 ≥ 4) || decide (a_1 < 1)) || decide (((a_2l : Nat) : Int) < 1)) || decide (((a_2l : Nat) : Int) > 8)) = true then
   ∀ w26 : World, (X.Hid [] w w26) →
   R (.returned (.bool false)) w26
  else
   ∀ w1 : World, ∀ L2 : List Nat, (X.Hid [] w w1) →
   (X.NewL (w).heap.size [] w w1 L2) →
   ∃ x3 : Int → World → List Nat → Prop, ∃ x4 : Int → World → Nat, (x3 0 w1 (L2)) ∧
   ∀ n5 : Int, ∀ w6 : World, ∀ L7 : List Nat, (X.LF (w).heap.size w6 L7) →
   (x3 n5 w6 L7) →
   if (decide (n5 < ((a_2l : Nat) : Int))) = true then
    ((0 : Int) ≤ n5) ∧
    (n5 < ((a_2l : Nat) : Int)) ∧
    X.onSome (a_2) fun p8 =>
    ∃ n9 : Int, ∃ n10 : Int, (X.Cells w6 (p8.add ((n5).toNat * 2)) [(.int .u8 n9), (.int .u16 n10)]) ∧
    (¬ (((p8.add (n5.toNat * 2)).block) ∈ L7)) ∧
    X.CallX Try.prog 74 #[(.agg #[(.int .u8 n9), (.int .u16 n10)])] w6 fun e11 w12 =>
     ∃ b13 : Bool, (e11 = .returned (.bool b13)) ∧
     (X.Kept L7 w6 w12) ∧
     if (!b13) = true then
      R (.returned (.bool false)) w12
     else
      ∃ x14 : Int → World → List Nat → Prop, ∃ x15 : Int → World → Nat, (x14 0 w12 (L7)) ∧
      ∀ n16 : Int, ∀ w17 : World, ∀ L18 : List Nat, (X.LF (w).heap.size w17 L18) →
      (x14 n16 w17 L18) →
      if (decide (n16 < n5)) = true then
       ((0 : Int) ≤ n16) ∧
       (n16 < ((a_2l : Nat) : Int)) ∧
       X.onSome (a_2) fun p19 =>
       ∃ n20 : Int, (World.cell? w17 ((p19.add ((n16).toNat * 2)).add 0) = some (.int .u8 n20)) ∧
       (¬ ((((p19.add (n16.toNat * 2)).add 0).block) ∈ L18)) ∧
       ((0 : Int) ≤ n5) ∧
       (n5 < ((a_2l : Nat) : Int)) ∧
       X.onSome (a_2) fun p21 =>
       ∃ n22 : Int, (World.cell? w17 ((p21.add ((n5).toNat * 2)).add 0) = some (.int .u8 n22)) ∧
       (¬ ((((p21.add (n5.toNat * 2)).add 0).block) ∈ L18)) ∧
       if (n20 == n22) = true then
        ∀ w25 : World, (X.Hid (L18) w17 w25) →
        R (.returned (.bool false)) w25
       else
        ∀ w23 : World, ∀ L24 : List Nat, (X.Hid (L18) w17 w23) →
        (X.NewL (w).heap.size (L18) w17 w23 L24) →
        (([(.int .u8 a_0), (.int .u32 a_1), (.slice (a_2) a_2l a_2c)] : List Value) = [(.int .u8 a_0), (.int .u32 a_1), (.slice (a_2) a_2l a_2c)]) ∧
        (x14 (IntKind.wrap .i64 (n16 + 1)) w23 (L24)) ∧
        Nat.le ((x15 (IntKind.wrap .i64 (n16 + 1)) w23) + 1) (x15 n16 w17)
      else
       (([(.int .u8 a_0), (.int .u32 a_1), (.slice (a_2) a_2l a_2c)] : List Value) = [(.int .u8 a_0), (.int .u32 a_1), (.slice (a_2) a_2l a_2c)]) ∧
       (x3 (IntKind.wrap .i64 (n5 + 1)) w17 (L18)) ∧
       Nat.le ((x4 (IntKind.wrap .i64 (n5 + 1)) w17) + 1) (x4 n5 w6)
   else
    R (.returned (.bool true)) w6) :
    Calls Try.prog 54 #[.agg #[.int .u8 a_0, .int .u32 a_1, .slice a_2 a_2l a_2c]] w R :=
  X.calls_of { isLoc := [1], sym := [], loops := [(4, .inv [(3, .int .i64)] [] true), (9, .inv [(4, .int .i64)] [] true)], joins := [] } Try.func54 (by kernel_rfl) h
abbrev fn_rRightP : Nat := 74
theorem x_rRightP (a_0 a_1 : Int) (w : World) (R : Ending → World → Prop) (h :
  ∀ w1 : World, (X.Hid [] w w1) →
  R (.returned (.bool (decide (a_0 < 16) && decide (a_1 ≥ 1)))) w1) :
    Calls Try.prog 74 #[.agg #[.int .u8 a_0, .int .u16 a_1]] w R :=
  X.calls_of { isLoc := [1], sym := [], loops := [], joins := [] } Try.func74 (by kernel_rfl) h
abbrev fn_rQuorum : Nat := 60
theorem x_rQuorum (a_0 a_1 : Int) (a_2 : Option Addr) (a_2l a_2c : Nat) (b : Option Addr) (bl bc : Nat) (w : World) (R : Ending → World → Prop) (h :
  ∀ w1 : World, ∀ L2 : List Nat, (X.Hid [] w w1) →
  (X.NewL (w).heap.size [] w w1 L2) →
  ∃ x3 : Int → Int → World → List Nat → Prop, ∃ x4 : Int → Int → World → Nat, (x3 0 0 w1 (L2)) ∧
  ∀ n5 : Int, ∀ n6 : Int, ∀ w7 : World, ∀ L8 : List Nat, (X.LF (w).heap.size w7 L8) →
  (x3 n5 n6 w7 L8) →
  if (decide (n6 < ((a_2l : Nat) : Int))) = true then
   ((0 : Int) ≤ n6) ∧
   (n6 < ((a_2l : Nat) : Int)) ∧
   X.onSome (a_2) fun p12 =>
   ∃ n13 : Int, ∃ n14 : Int, (X.Cells w7 (p12.add ((n6).toNat * 2)) [(.int .u8 n13), (.int .u16 n14)]) ∧
   (¬ (((p12.add (n6.toNat * 2)).block) ∈ L8)) ∧
   X.CallX Try.prog 66 #[(.slice (b) bl bc), (.agg #[(.int .u8 n13), (.int .u16 n14)])] w7 fun e15 w16 =>
    ∃ n17 : Int, (e15 = .returned (.int .i64 n17)) ∧
    (X.Kept L8 w7 w16) ∧
    if (decide (n17 ≥ 0)) = true then
     (([(.int .u8 a_0), (.int .u32 a_1), (.slice (a_2) a_2l a_2c)] : List Value) = [(.int .u8 a_0), (.int .u32 a_1), (.slice (a_2) a_2l a_2c)]) ∧
     (x3 (IntKind.wrap .i64 (n5 + 1)) (IntKind.wrap .i64 (n6 + 1)) w16 (L8)) ∧
     Nat.le ((x4 (IntKind.wrap .i64 (n5 + 1)) (IntKind.wrap .i64 (n6 + 1)) w16) + 1) (x4 n5 n6 w7)
    else
     (([(.int .u8 a_0), (.int .u32 a_1), (.slice (a_2) a_2l a_2c)] : List Value) = [(.int .u8 a_0), (.int .u32 a_1), (.slice (a_2) a_2l a_2c)]) ∧
     (x3 n5 (IntKind.wrap .i64 (n6 + 1)) w16 (L8)) ∧
     Nat.le ((x4 n5 (IntKind.wrap .i64 (n6 + 1)) w16) + 1) (x4 n5 n6 w7)
  else
   X.CallX Try.prog 82 #[(.agg #[(.int .u8 a_0), (.int .u32 a_1), (.slice (a_2) a_2l a_2c)])] w7 fun e9 w10 =>
    ∃ n11 : Int, (e9 = .returned (.int .i64 n11)) ∧
    (X.Kept L8 w7 w10) ∧
    R (.returned (.bool (decide (n5 ≥ n11)))) w10) :
    Calls Try.prog 60 #[.agg #[.int .u8 a_0, .int .u32 a_1, .slice a_2 a_2l a_2c], .slice b bl bc] w R :=
  X.calls_of { isLoc := [2], sym := [], loops := [(3, .inv [(5, .int .i64), (6, .int .i64)] [] true)], joins := [] } Try.func60 (by kernel_rfl) h
abbrev fn_rMajority : Nat := 82
theorem x_rMajority (a_0 a_1 : Int) (a_2 : Option Addr) (a_2l a_2c : Nat) (w : World) (R : Ending → World → Prop) (h :
  ∀ w1 : World, (X.Hid [] w w1) →
  R (.returned (.int .i64 (IntKind.wrap .i64 ((IntKind.wrap .i64 ((((a_2l : Nat) : Int)).tdiv 2)) + 1)))) w1) :
    Calls Try.prog 82 #[.agg #[.int .u8 a_0, .int .u32 a_1, .slice a_2 a_2l a_2c]] w R :=
  X.calls_of { isLoc := [1], sym := [], loops := [], joins := [] } Try.func82 (by kernel_rfl) h
abbrev fn_Own6 : Nat := 24
theorem x_Own6 (a_0 a_1 : Int) (a_2 : Option Addr) (a_2l a_2c : Nat) (w : World) (R : Ending → World → Prop) (h :
  ∃ x1 : X.Facts, (X.FactsW x1 w []) ∧
  ∀ w2 : World, ∀ L3 : List Nat, (X.Hid [] w w2) →
  (X.NewL (w).heap.size [] w w2 L3) →
  X.CallX Try.prog 31 #[(.slice (a_2) a_2l a_2c)] w2 fun e4 w5 =>
   ∃ q6 : Option Addr, ∃ k7 : Nat, ∃ k8 : Nat, (e4 = .returned (.slice (q6) k7 k8)) ∧
   (X.Kept L3 w2 w5) ∧
   (X.FactsW x1 w5 (L3)) ∧
   ∀ w9 : World, (X.Hid (L3) w5 w9) →
   R (.returned (.agg #[(.int .u8 a_0), (.int .u32 a_1), (.slice (q6) k7 k8)])) w9) :
    Calls Try.prog 24 #[.agg #[.int .u8 a_0, .int .u32 a_1, .slice a_2 a_2l a_2c]] w R :=
  X.calls_of { isLoc := [1, 2], sym := [], loops := [], joins := [], stored := [(1, [2])] } Try.func24 (by kernel_rfl) h
end Go.Proofs
