import Derived.Test.YtkkhkkfnbohnaaaXFn
import Derived.Test.YtkkhkkfnbohnaaaProg
/- The verification conditions of this seat's functions, as the engine has them: printed by a program of the bench; checked by the kernel. -/
set_option maxRecDepth 100000
set_option linter.unusedVariables false
namespace Go.Proofs
open Go
abbrev fn_Start : Nat := 23
theorem x_Start (a_0 a_1 : Int) (a_2 : Option Addr) (a_2l a_2c : Nat) (b : Int) (w : World) (R : Ending → World → Prop) (h :
  ∀ w1 : World, ∀ L2 : List Nat, (X.Hid [] w w1) →
  (X.NewL (w).heap.size [] w w1 L2) →
  X.CallX Try.prog 52 #[(.agg #[(.int .u8 a_0), (.int .u32 a_1), (.slice (a_2) a_2l a_2c)])] w1 fun e3 w4 =>
   ∃ b5 : Bool, (e3 = .returned (.bool b5)) ∧
   (X.Kept L2 w1 w4) ∧
   if ((!b5) || (b == 0)) = true then
    R (.returned (.pointer none)) w4
   else
    X.CallX Try.prog 53 #[(.agg #[(.int .u8 a_0), (.int .u32 a_1), (.slice (a_2) a_2l a_2c)])] w4 fun e6 w7 =>
     ∃ n8 : Int, ∃ n9 : Int, ∃ q10 : Option Addr, ∃ k11 : Nat, ∃ k12 : Nat, (e6 = .returned (.agg #[(.int .u8 n8), (.int .u32 n9), (.slice (q10) k11 k12)])) ∧
     (X.Kept L2 w4 w7) ∧
     R (.returned (.pointer (some ⟨((w7.alloc (.map #[] 0))).heap.size, 0, none⟩))) ((w7.alloc (.map #[] 0)).alloc (.cells #[(.int .u8 n8), (.int .u32 n9), (.slice (q10) k11 k12), (.int .u64 b), (.int .i64 0), (.map (some (w7).heap.size)), (.int .u64 0), (.pointer none), (.slice none 0 0), (.slice none 0 0), (.slice none 0 0)] 106))) :
    Calls Try.prog 23 #[.agg #[.int .u8 a_0, .int .u32 a_1, .slice a_2 a_2l a_2c], .int .u64 b] w R :=
  X.calls_of { isLoc := [2], sym := [], loops := [], joins := [] } Try.func23 (by kernel_rfl) h
abbrev fn_Pnone : Nat := 61
theorem x_Pnone (a : Addr) (w : World) (R : Ending → World → Prop) (h :
  ∃ q1 : Option Nat, (World.cell? w (a.add 5) = some (.map (q1))) ∧
  R (.returned (.bool (false || (q1.isNone)))) w) :
    Calls Try.prog 61 #[.pointer (some a)] w R :=
  X.calls_of { isLoc := [], sym := [], loops := [], joins := [] } Try.func61 (by kernel_rfl) h
abbrev fn_count : Nat := 55
theorem x_count (a : Addr) (b_0 b_1 c : Int) (w : World) (R : Ending → World → Prop) (h :
  ∃ x1 : X.Facts, (X.FactsW x1 w []) ∧
  ∀ w2 : World, ∀ L3 : List Nat, (X.Hid [] w w2) →
  (X.NewL (w).heap.size [] w w2 L3) →
  X.CallX Try.prog 61 #[(.pointer (some a))] w2 fun e4 w5 =>
   ∃ b6 : Bool, (e4 = .returned (.bool b6)) ∧
   (X.Kept L3 w2 w5) ∧
   (X.FactsW x1 w5 (L3)) ∧
   ∃ x7 : X.Facts, (X.FactsW x7 w5 (L3)) ∧
   (∀ x8 : Addr × List Value, (x8 ∈ x1) →
    x8 ∈ x7) ∧
   if (b6 == false) = true then
    ∃ n13 : Int, (((a.add 4), [(.int .i64 n13)]) ∈ x7) ∧
    if ((false || (n13 != c)) == false) = true then
     ∃ n16 : Int, ∃ n17 : Int, ∃ q18 : Option Addr, ∃ k19 : Nat, ∃ k20 : Nat, (((a.add 0), [(.int .u8 n16), (.int .u32 n17), (.slice (q18) k19 k20)]) ∈ x7) ∧
     X.CallX Try.prog 75 #[(.agg #[(.int .u8 n16), (.int .u32 n17), (.slice (q18) k19 k20)]), (.agg #[(.int .u8 b_0), (.int .u16 b_1)])] w5 fun e21 w22 =>
      ∃ n23 : Int, (e21 = .returned (.int .i64 n23)) ∧
      (X.Kept L3 w5 w22) ∧
      (X.FactsW x7 w22 (L3)) ∧
      ∃ x24 : X.Facts, (X.FactsW x24 w22 (L3)) ∧
      (∀ x25 : Addr × List Value, (x25 ∈ x7) →
       x25 ∈ x24) ∧
      if ((false || decide (n23 < 0)) == false) = true then
       ∃ q26 : Option Nat, (((a.add 5), [(.map (q26))]) ∈ x24) ∧
       ∃ b27 : Bool, ∃ w28 : World, (Sem.run Try.prog (Go.Instr.lookup 103 (.map (q26)) (.agg #[(.int .u8 b_0), (.int .u16 b_1)]) false) w22 = .ok (.bool b27) w28) ∧
       (X.Kept L3 w22 w28) ∧
       (X.FactsW x24 w28 (L3)) ∧
       if (false || b27) = true then
        R (.returned (.bool false)) w28
       else
        ∃ x29 : X.Facts, (X.FactsW x29 w28 (L3)) ∧
        ∃ q30 : Option Nat, (((a.add 5), [(.map (q30))]) ∈ x29) ∧
        ∀ w31 : World, ∀ L32 : List Nat, (X.Hid (L3) w28 w31) →
        (X.NewL (w).heap.size (L3) w28 w31 L32) →
        ∃ w33 : World, (Sem.run Try.prog (Go.Instr.mapUpdate 103 (.map (q30)) (.agg #[(.int .u8 b_0), (.int .u16 b_1)]) (.bool true)) w31 = .ok (PUnit.unit) w33) ∧
        (X.Kept L32 w31 w33) ∧
        R (.returned (.bool true)) w33
      else
       R (.returned (.bool false)) w22
    else
     ∃ x14 : X.Facts, (X.FactsW x14 w5 (L3)) ∧
     (∀ x15 : Addr × List Value, (x15 ∈ x7) →
      x15 ∈ x14) ∧
     R (.returned (.bool false)) w5
   else
    ∃ x9 : X.Facts, (X.FactsW x9 w5 (L3)) ∧
    (∀ x10 : Addr × List Value, (x10 ∈ x7) →
     x10 ∈ x9) ∧
    ∃ x11 : X.Facts, (X.FactsW x11 w5 (L3)) ∧
    (∀ x12 : Addr × List Value, (x12 ∈ x9) →
     x12 ∈ x11) ∧
    R (.returned (.bool false)) w5) :
    Calls Try.prog 55 #[.pointer (some a), .agg #[.int .u8 b_0, .int .u16 b_1], .int .i64 c] w R :=
  X.calls_of { isLoc := [4], sym := [], loops := [], joins := [] } Try.func55 (by kernel_rfl) h
abbrev fn_enough : Nat := 59
theorem x_enough (a : Addr) (w : World) (R : Ending → World → Prop) (h :
  ∃ x1 : X.Facts, (X.FactsW x1 w []) ∧
  ∃ q2 : Option Nat, (((a.add 5), [(.map (q2))]) ∈ x1) ∧
  ∃ n3 : Int, ∃ n4 : Int, ∃ q5 : Option Addr, ∃ k6 : Nat, ∃ k7 : Nat, (((a.add 0), [(.int .u8 n3), (.int .u32 n4), (.slice (q5) k6 k7)]) ∈ x1) ∧
  ∀ w8 : World, (X.Hid [] w w8) →
  ∃ n9 : Int, ∃ w10 : World, (Sem.run Try.prog (Go.Builtin.len_ #[103] 3 #[(.map (q2))]) w8 = .ok (.int .i64 n9) w10) ∧
  ((w8).heap.size ≤ (w10).heap.size) ∧
  (X.FactsW x1 w10 []) ∧
  X.CallX Try.prog 81 #[(.agg #[(.int .u8 n3), (.int .u32 n4), (.slice (q5) k6 k7)])] w10 fun e11 w12 =>
   ∃ n13 : Int, (e11 = .returned (.int .i64 n13)) ∧
   ((w10).heap.size ≤ (w12).heap.size) ∧
   (X.FactsW x1 w12 []) ∧
   R (.returned (.bool (decide (n9 ≥ n13)))) w12) :
    Calls Try.prog 59 #[.pointer (some a)] w R :=
  X.calls_of { isLoc := [], sym := [7], loops := [], joins := [] } Try.func59 (by kernel_rfl) h
abbrev fn_Promise : Nat := 26
theorem x_Promise (a : Addr) (b_0 b_1 : Int) (c : Option Addr) (cl cc : Nat) (d : Int) (e_0 : Option Addr) (e_0l e_0c : Nat) (e_1 : Option Addr) (e_1l e_1c : Nat) (f : Bool) (w : World) (R : Ending → World → Prop) (h :
  ∀ w1 : World, ∀ L2 : List Nat, (X.Hid [] w w1) →
  (X.NewL (w).heap.size [] w w1 L2) →
  X.CallX Try.prog 55 #[(.pointer (some a)), (.agg #[(.int .u8 b_0), (.int .u16 b_1)]), (.int .i64 0)] w1 fun e3 w4 =>
   ∃ b5 : Bool, (e3 = .returned (.bool b5)) ∧
   (X.Kept L2 w1 w4) ∧
   if (!b5) = true then
    R (.returned (.tuple #[])) w4
   else
    if (f == true) = true then
     ∃ q14 : Option Addr, (World.cell? w4 (a.add 7) = some (.pointer (q14))) ∧
     (¬ ((a.block) ∈ L2)) ∧
     if ((q14.isNone) == false) = true then
      ∃ n31 : Int, (World.cell? w4 (a.add 6) = some (.int .u64 n31)) ∧
      (¬ ((a.block) ∈ L2)) ∧
      if (true && (false || decide (d > n31))) = true then
       X.CallX Try.prog 49 #[(.agg #[(.slice (e_0) e_0l e_0c), (.slice (e_1) e_1l e_1c)])] w4 fun e40 w41 =>
        ∃ q42 : Option Addr, ∃ k43 : Nat, ∃ k44 : Nat, ∃ q45 : Option Addr, ∃ k46 : Nat, ∃ k47 : Nat, (e40 = .returned (.agg #[(.slice (q42) k43 k44), (.slice (q45) k46 k47)])) ∧
        (X.Kept L2 w4 w41) ∧
        ((none : Option Nat) = none) ∧
        (World.there (w41.alloc (.cells #[(.slice none 0 0), (.slice none 0 0)] 46)) (w41).heap.size 0 2) ∧
        (¬ ((w41).heap.size ∈ L2)) ∧
        ((none : Option Nat) = none) ∧
        (World.there ((w41.alloc (.cells #[(.slice none 0 0), (.slice none 0 0)] 46)).setCells (w41).heap.size 0 [(.slice (q42) k43 k44), (.slice (q45) k46 k47)]) (a.block) ((a.off) + 6) 1) ∧
        (¬ ((a.block) ∈ L2)) ∧
        ((none : Option Nat) = none) ∧
        (World.there (((w41.alloc (.cells #[(.slice none 0 0), (.slice none 0 0)] 46)).setCells (w41).heap.size 0 [(.slice (q42) k43 k44), (.slice (q45) k46 k47)]).setCells (a.block) ((a.off) + 6) [(.int .u64 d)]) (a.block) ((a.off) + 7) 1) ∧
        (¬ ((a.block) ∈ L2)) ∧
        ∃ q48 : Option Addr, ∃ k49 : Nat, ∃ k50 : Nat, (World.cell? ((((w41.alloc (.cells #[(.slice none 0 0), (.slice none 0 0)] 46)).setCells (w41).heap.size 0 [(.slice (q42) k43 k44), (.slice (q45) k46 k47)]).setCells (a.block) ((a.off) + 6) [(.int .u64 d)]).setCells (a.block) ((a.off) + 7) [(.pointer (some ⟨(w41).heap.size, 0, none⟩))]) (a.add 8) = some (.slice (q48) k49 k50)) ∧
        (¬ ((a.block) ∈ L2)) ∧
        if (decide (((cl : Nat) : Int) > ((k49 : Nat) : Int))) = true then
         X.CallX Try.prog 56 #[(.slice (c) cl cc)] ((((w41.alloc (.cells #[(.slice none 0 0), (.slice none 0 0)] 46)).setCells (w41).heap.size 0 [(.slice (q42) k43 k44), (.slice (q45) k46 k47)]).setCells (a.block) ((a.off) + 6) [(.int .u64 d)]).setCells (a.block) ((a.off) + 7) [(.pointer (some ⟨(w41).heap.size, 0, none⟩))]) fun e51 w52 =>
          ∃ q53 : Option Addr, ∃ k54 : Nat, ∃ k55 : Nat, (e51 = .returned (.slice (q53) k54 k55)) ∧
          (X.Kept L2 ((((w41.alloc (.cells #[(.slice none 0 0), (.slice none 0 0)] 46)).setCells (w41).heap.size 0 [(.slice (q42) k43 k44), (.slice (q45) k46 k47)]).setCells (a.block) ((a.off) + 6) [(.int .u64 d)]).setCells (a.block) ((a.off) + 7) [(.pointer (some ⟨(w41).heap.size, 0, none⟩))]) w52) ∧
          ((none : Option Nat) = none) ∧
          (World.there w52 (a.block) ((a.off) + 8) 1) ∧
          (¬ ((a.block) ∈ L2)) ∧
          R (.returned (.tuple #[])) (w52.setCells (a.block) ((a.off) + 8) [(.slice (q53) k54 k55)])
        else
         R (.returned (.tuple #[])) ((((w41.alloc (.cells #[(.slice none 0 0), (.slice none 0 0)] 46)).setCells (w41).heap.size 0 [(.slice (q42) k43 k44), (.slice (q45) k46 k47)]).setCells (a.block) ((a.off) + 6) [(.int .u64 d)]).setCells (a.block) ((a.off) + 7) [(.pointer (some ⟨(w41).heap.size, 0, none⟩))])
      else
       ∃ q32 : Option Addr, ∃ k33 : Nat, ∃ k34 : Nat, (World.cell? w4 (a.add 8) = some (.slice (q32) k33 k34)) ∧
       (¬ ((a.block) ∈ L2)) ∧
       if (decide (((cl : Nat) : Int) > ((k33 : Nat) : Int))) = true then
        X.CallX Try.prog 56 #[(.slice (c) cl cc)] w4 fun e35 w36 =>
         ∃ q37 : Option Addr, ∃ k38 : Nat, ∃ k39 : Nat, (e35 = .returned (.slice (q37) k38 k39)) ∧
         (X.Kept L2 w4 w36) ∧
         ((none : Option Nat) = none) ∧
         (World.there w36 (a.block) ((a.off) + 8) 1) ∧
         (¬ ((a.block) ∈ L2)) ∧
         R (.returned (.tuple #[])) (w36.setCells (a.block) ((a.off) + 8) [(.slice (q37) k38 k39)])
       else
        R (.returned (.tuple #[])) w4
     else
      X.CallX Try.prog 49 #[(.agg #[(.slice (e_0) e_0l e_0c), (.slice (e_1) e_1l e_1c)])] w4 fun e15 w16 =>
       ∃ q17 : Option Addr, ∃ k18 : Nat, ∃ k19 : Nat, ∃ q20 : Option Addr, ∃ k21 : Nat, ∃ k22 : Nat, (e15 = .returned (.agg #[(.slice (q17) k18 k19), (.slice (q20) k21 k22)])) ∧
       (X.Kept L2 w4 w16) ∧
       ((none : Option Nat) = none) ∧
       (World.there (w16.alloc (.cells #[(.slice none 0 0), (.slice none 0 0)] 46)) (w16).heap.size 0 2) ∧
       (¬ ((w16).heap.size ∈ L2)) ∧
       ((none : Option Nat) = none) ∧
       (World.there ((w16.alloc (.cells #[(.slice none 0 0), (.slice none 0 0)] 46)).setCells (w16).heap.size 0 [(.slice (q17) k18 k19), (.slice (q20) k21 k22)]) (a.block) ((a.off) + 6) 1) ∧
       (¬ ((a.block) ∈ L2)) ∧
       ((none : Option Nat) = none) ∧
       (World.there (((w16.alloc (.cells #[(.slice none 0 0), (.slice none 0 0)] 46)).setCells (w16).heap.size 0 [(.slice (q17) k18 k19), (.slice (q20) k21 k22)]).setCells (a.block) ((a.off) + 6) [(.int .u64 d)]) (a.block) ((a.off) + 7) 1) ∧
       (¬ ((a.block) ∈ L2)) ∧
       ∃ q23 : Option Addr, ∃ k24 : Nat, ∃ k25 : Nat, (World.cell? ((((w16.alloc (.cells #[(.slice none 0 0), (.slice none 0 0)] 46)).setCells (w16).heap.size 0 [(.slice (q17) k18 k19), (.slice (q20) k21 k22)]).setCells (a.block) ((a.off) + 6) [(.int .u64 d)]).setCells (a.block) ((a.off) + 7) [(.pointer (some ⟨(w16).heap.size, 0, none⟩))]) (a.add 8) = some (.slice (q23) k24 k25)) ∧
       (¬ ((a.block) ∈ L2)) ∧
       if (decide (((cl : Nat) : Int) > ((k24 : Nat) : Int))) = true then
        X.CallX Try.prog 56 #[(.slice (c) cl cc)] ((((w16.alloc (.cells #[(.slice none 0 0), (.slice none 0 0)] 46)).setCells (w16).heap.size 0 [(.slice (q17) k18 k19), (.slice (q20) k21 k22)]).setCells (a.block) ((a.off) + 6) [(.int .u64 d)]).setCells (a.block) ((a.off) + 7) [(.pointer (some ⟨(w16).heap.size, 0, none⟩))]) fun e26 w27 =>
         ∃ q28 : Option Addr, ∃ k29 : Nat, ∃ k30 : Nat, (e26 = .returned (.slice (q28) k29 k30)) ∧
         (X.Kept L2 ((((w16.alloc (.cells #[(.slice none 0 0), (.slice none 0 0)] 46)).setCells (w16).heap.size 0 [(.slice (q17) k18 k19), (.slice (q20) k21 k22)]).setCells (a.block) ((a.off) + 6) [(.int .u64 d)]).setCells (a.block) ((a.off) + 7) [(.pointer (some ⟨(w16).heap.size, 0, none⟩))]) w27) ∧
         ((none : Option Nat) = none) ∧
         (World.there w27 (a.block) ((a.off) + 8) 1) ∧
         (¬ ((a.block) ∈ L2)) ∧
         R (.returned (.tuple #[])) (w27.setCells (a.block) ((a.off) + 8) [(.slice (q28) k29 k30)])
       else
        R (.returned (.tuple #[])) ((((w16.alloc (.cells #[(.slice none 0 0), (.slice none 0 0)] 46)).setCells (w16).heap.size 0 [(.slice (q17) k18 k19), (.slice (q20) k21 k22)]).setCells (a.block) ((a.off) + 6) [(.int .u64 d)]).setCells (a.block) ((a.off) + 7) [(.pointer (some ⟨(w16).heap.size, 0, none⟩))])
    else
     ∃ q6 : Option Addr, ∃ k7 : Nat, ∃ k8 : Nat, (World.cell? w4 (a.add 8) = some (.slice (q6) k7 k8)) ∧
     (¬ ((a.block) ∈ L2)) ∧
     if (decide (((cl : Nat) : Int) > ((k7 : Nat) : Int))) = true then
      X.CallX Try.prog 56 #[(.slice (c) cl cc)] w4 fun e9 w10 =>
       ∃ q11 : Option Addr, ∃ k12 : Nat, ∃ k13 : Nat, (e9 = .returned (.slice (q11) k12 k13)) ∧
       (X.Kept L2 w4 w10) ∧
       ((none : Option Nat) = none) ∧
       (World.there w10 (a.block) ((a.off) + 8) 1) ∧
       (¬ ((a.block) ∈ L2)) ∧
       R (.returned (.tuple #[])) (w10.setCells (a.block) ((a.off) + 8) [(.slice (q11) k12 k13)])
     else
      R (.returned (.tuple #[])) w4) :
    Calls Try.prog 26 #[.pointer (some a), .agg #[.int .u8 b_0, .int .u16 b_1], .slice c cl cc, .int .u64 d, .agg #[.slice e_0 e_0l e_0c, .slice e_1 e_1l e_1c], .bool f] w R :=
  X.calls_of { isLoc := [7, 10], sym := [], loops := [], joins := [] } Try.func26 (by kernel_rfl) h
abbrev fn_Ready : Nat := 36
theorem x_Ready (a : Addr) (w : World) (R : Ending → World → Prop) (h :
  X.CallX Try.prog 61 #[(.pointer (some a))] w fun e1 w2 =>
   ∃ b3 : Bool, (e1 = .returned (.bool b3)) ∧
   ((w).heap.size ≤ (w2).heap.size) ∧
   if ((!b3) == true) = true then
    ∃ n4 : Int, (World.cell? w2 (a.add 4) = some (.int .i64 n4)) ∧
    if ((true && (n4 == 0)) == true) = true then
     X.CallX Try.prog 59 #[(.pointer (some a))] w2 fun e5 w6 =>
      ∃ b7 : Bool, (e5 = .returned (.bool b7)) ∧
      ((w2).heap.size ≤ (w6).heap.size) ∧
      R (.returned (.bool (true && b7))) w6
    else
     R (.returned (.bool false)) w2
   else
    R (.returned (.bool false)) w2) :
    Calls Try.prog 36 #[.pointer (some a)] w R :=
  X.calls_of { isLoc := [], sym := [], loops := [], joins := [] } Try.func36 (by kernel_rfl) h
abbrev fn_Propose : Nat := 30
theorem x_Propose (a : Addr) (b : Option Addr) (bl bc : Nat) (w : World) (R : Ending → World → Prop) (h :
  ∀ w1 : World, ∀ L2 : List Nat, (X.Hid [] w w1) →
  (X.NewL (w).heap.size [] w w1 L2) →
  X.CallX Try.prog 36 #[(.pointer (some a))] w1 fun e3 w4 =>
   ∃ b5 : Bool, (e3 = .returned (.bool b5)) ∧
   (X.Kept L2 w1 w4) ∧
   if (!b5) = true then
    ∀ w58 : World, (X.Hid (L2) w4 w58) →
    R (.returned (.tuple #[(.agg #[(.slice none 0 0), (.slice none 0 0)]), (.bool false)])) w58
   else
    ((none : Option Nat) = none) ∧
    (World.there w4 (a.block) ((a.off) + 4) 1) ∧
    (¬ ((a.block) ∈ L2)) ∧
    ∃ q6 : Option Nat, (World.cell? (w4.setCells (a.block) ((a.off) + 4) [(.int .i64 1)]) (a.add 5) = some (.map (q6))) ∧
    (¬ ((a.block) ∈ L2)) ∧
    ∃ w7 : World, (Sem.run Try.prog (Go.Builtin.clear_ #[103] 0 #[(.map (q6))]) (w4.setCells (a.block) ((a.off) + 4) [(.int .i64 1)]) = .ok (.tuple #[]) w7) ∧
    (X.Kept L2 (w4.setCells (a.block) ((a.off) + 4) [(.int .i64 1)]) w7) ∧
    ∃ q8 : Option Addr, ∃ k9 : Nat, ∃ k10 : Nat, (World.cell? w7 (a.add 8) = some (.slice (q8) k9 k10)) ∧
    (¬ ((a.block) ∈ L2)) ∧
    X.CallX Try.prog 49 #[(.agg #[(.slice (b) bl bc), (.slice (q8) k9 k10)])] w7 fun e11 w12 =>
     ∃ q13 : Option Addr, ∃ k14 : Nat, ∃ k15 : Nat, ∃ q16 : Option Addr, ∃ k17 : Nat, ∃ k18 : Nat, (e11 = .returned (.agg #[(.slice (q13) k14 k15), (.slice (q16) k17 k18)])) ∧
     (X.Kept L2 w7 w12) ∧
     ((none : Option Nat) = none) ∧
     (World.there w12 (a.block) ((a.off) + 9) 2) ∧
     (¬ ((a.block) ∈ L2)) ∧
     ∃ q19 : Option Addr, (World.cell? (w12.setCells (a.block) ((a.off) + 9) [(.slice (q13) k14 k15), (.slice (q16) k17 k18)]) (a.add 7) = some (.pointer (q19))) ∧
     (¬ ((a.block) ∈ L2)) ∧
     if (!(q19.isNone)) = true then
      ∃ q35 : Option Addr, (World.cell? (w12.setCells (a.block) ((a.off) + 9) [(.slice (q13) k14 k15), (.slice (q16) k17 k18)]) (a.add 7) = some (.pointer (q35))) ∧
      (¬ ((a.block) ∈ L2)) ∧
      X.onSome (q35) fun p36 =>
      ∃ q37 : Option Addr, ∃ k38 : Nat, ∃ k39 : Nat, ∃ q40 : Option Addr, ∃ k41 : Nat, ∃ k42 : Nat, (X.Cells (w12.setCells (a.block) ((a.off) + 9) [(.slice (q13) k14 k15), (.slice (q16) k17 k18)]) p36 [(.slice (q37) k38 k39), (.slice (q40) k41 k42)]) ∧
      (¬ ((p36.block) ∈ L2)) ∧
      ((none : Option Nat) = none) ∧
      (World.there (w12.setCells (a.block) ((a.off) + 9) [(.slice (q13) k14 k15), (.slice (q16) k17 k18)]) (a.block) ((a.off) + 9) 2) ∧
      (¬ ((a.block) ∈ L2)) ∧
      ∃ q43 : Option Addr, ∃ k44 : Nat, ∃ k45 : Nat, ∃ q46 : Option Addr, ∃ k47 : Nat, ∃ k48 : Nat, (X.Cells ((w12.setCells (a.block) ((a.off) + 9) [(.slice (q13) k14 k15), (.slice (q16) k17 k18)]).setCells (a.block) ((a.off) + 9) [(.slice (q37) k38 k39), (.slice (q40) k41 k42)]) (a.add 9) [(.slice (q43) k44 k45), (.slice (q46) k47 k48)]) ∧
      (¬ ((a.block) ∈ L2)) ∧
      X.CallX Try.prog 49 #[(.agg #[(.slice (q43) k44 k45), (.slice (q46) k47 k48)])] ((w12.setCells (a.block) ((a.off) + 9) [(.slice (q13) k14 k15), (.slice (q16) k17 k18)]).setCells (a.block) ((a.off) + 9) [(.slice (q37) k38 k39), (.slice (q40) k41 k42)]) fun e49 w50 =>
       ∃ q51 : Option Addr, ∃ k52 : Nat, ∃ k53 : Nat, ∃ q54 : Option Addr, ∃ k55 : Nat, ∃ k56 : Nat, (e49 = .returned (.agg #[(.slice (q51) k52 k53), (.slice (q54) k55 k56)])) ∧
       (X.Kept L2 ((w12.setCells (a.block) ((a.off) + 9) [(.slice (q13) k14 k15), (.slice (q16) k17 k18)]).setCells (a.block) ((a.off) + 9) [(.slice (q37) k38 k39), (.slice (q40) k41 k42)]) w50) ∧
       ∀ w57 : World, (X.Hid (L2) w50 w57) →
       R (.returned (.tuple #[(.agg #[(.slice (q51) k52 k53), (.slice (q54) k55 k56)]), (.bool true)])) w57
     else
      ∃ q20 : Option Addr, ∃ k21 : Nat, ∃ k22 : Nat, ∃ q23 : Option Addr, ∃ k24 : Nat, ∃ k25 : Nat, (X.Cells (w12.setCells (a.block) ((a.off) + 9) [(.slice (q13) k14 k15), (.slice (q16) k17 k18)]) (a.add 9) [(.slice (q20) k21 k22), (.slice (q23) k24 k25)]) ∧
      (¬ ((a.block) ∈ L2)) ∧
      X.CallX Try.prog 49 #[(.agg #[(.slice (q20) k21 k22), (.slice (q23) k24 k25)])] (w12.setCells (a.block) ((a.off) + 9) [(.slice (q13) k14 k15), (.slice (q16) k17 k18)]) fun e26 w27 =>
       ∃ q28 : Option Addr, ∃ k29 : Nat, ∃ k30 : Nat, ∃ q31 : Option Addr, ∃ k32 : Nat, ∃ k33 : Nat, (e26 = .returned (.agg #[(.slice (q28) k29 k30), (.slice (q31) k32 k33)])) ∧
       (X.Kept L2 (w12.setCells (a.block) ((a.off) + 9) [(.slice (q13) k14 k15), (.slice (q16) k17 k18)]) w27) ∧
       ∀ w34 : World, (X.Hid (L2) w27 w34) →
       R (.returned (.tuple #[(.agg #[(.slice (q28) k29 k30), (.slice (q31) k32 k33)]), (.bool true)])) w34) :
    Calls Try.prog 30 #[.pointer (some a), .slice b bl bc] w R :=
  X.calls_of { isLoc := [4], sym := [], loops := [], joins := [] } Try.func30 (by kernel_rfl) h
abbrev fn_Accepted : Nat := 33
theorem x_Accepted (a : Addr) (b_0 b_1 : Int) (w : World) (R : Ending → World → Prop) (h :
  ∀ w1 : World, ∀ L2 : List Nat, (X.Hid [] w w1) →
  (X.NewL (w).heap.size [] w w1 L2) →
  X.CallX Try.prog 55 #[(.pointer (some a)), (.agg #[(.int .u8 b_0), (.int .u16 b_1)]), (.int .i64 1)] w1 fun e3 w4 =>
   ∃ b5 : Bool, (e3 = .returned (.bool b5)) ∧
   (X.Kept L2 w1 w4) ∧
   if (b5 == true) = true then
    X.CallX Try.prog 59 #[(.pointer (some a))] w4 fun e9 w10 =>
     ∃ b11 : Bool, (e9 = .returned (.bool b11)) ∧
     (X.Kept L2 w4 w10) ∧
     if (true && b11) = true then
      ((none : Option Nat) = none) ∧
      (World.there w10 (a.block) ((a.off) + 4) 1) ∧
      (¬ ((a.block) ∈ L2)) ∧
      X.CallX Try.prog 35 #[(.pointer (some a))] (w10.setCells (a.block) ((a.off) + 4) [(.int .i64 2)]) fun e15 w16 =>
       ∃ n17 : Int, (e15 = .returned (.int .i64 n17)) ∧
       (X.Kept L2 (w10.setCells (a.block) ((a.off) + 4) [(.int .i64 2)]) w16) ∧
       R (.returned (.bool (n17 == 2))) w16
     else
      X.CallX Try.prog 35 #[(.pointer (some a))] w10 fun e12 w13 =>
       ∃ n14 : Int, (e12 = .returned (.int .i64 n14)) ∧
       (X.Kept L2 w10 w13) ∧
       R (.returned (.bool (n14 == 2))) w13
   else
    X.CallX Try.prog 35 #[(.pointer (some a))] w4 fun e6 w7 =>
     ∃ n8 : Int, (e6 = .returned (.int .i64 n8)) ∧
     (X.Kept L2 w4 w7) ∧
     R (.returned (.bool (n8 == 2))) w7) :
    Calls Try.prog 33 #[.pointer (some a), .agg #[.int .u8 b_0, .int .u16 b_1]] w R :=
  X.calls_of { isLoc := [3], sym := [], loops := [], joins := [] } Try.func33 (by kernel_rfl) h
abbrev fn_Phase : Nat := 35
theorem x_Phase (a : Addr) (w : World) (R : Ending → World → Prop) (h :
  X.CallX Try.prog 61 #[(.pointer (some a))] w fun e1 w2 =>
   ∃ b3 : Bool, (e1 = .returned (.bool b3)) ∧
   ((w).heap.size ≤ (w2).heap.size) ∧
   if b3 = true then
    R (.returned (.int .i64 0)) w2
   else
    ∃ n4 : Int, (World.cell? w2 (a.add 4) = some (.int .i64 n4)) ∧
    R (.returned (.int .i64 n4)) w2) :
    Calls Try.prog 35 #[.pointer (some a)] w R :=
  X.calls_of { isLoc := [], sym := [], loops := [], joins := [] } Try.func35 (by kernel_rfl) h
abbrev fn_PBallot : Nat := 38
theorem x_PBallot (a : Addr) (w : World) (R : Ending → World → Prop) (h :
  X.CallX Try.prog 61 #[(.pointer (some a))] w fun e1 w2 =>
   ∃ b3 : Bool, (e1 = .returned (.bool b3)) ∧
   ((w).heap.size ≤ (w2).heap.size) ∧
   if b3 = true then
    R (.returned (.int .u64 0)) w2
   else
    ∃ n4 : Int, (World.cell? w2 (a.add 3) = some (.int .u64 n4)) ∧
    R (.returned (.int .u64 n4)) w2) :
    Calls Try.prog 38 #[.pointer (some a)] w R :=
  X.calls_of { isLoc := [], sym := [], loops := [], joins := [] } Try.func38 (by kernel_rfl) h
abbrev fn_Value : Nat := 39
theorem x_Value (a : Addr) (w : World) (R : Ending → World → Prop) (h :
  ∀ w1 : World, ∀ L2 : List Nat, (X.Hid [] w w1) →
  (X.NewL (w).heap.size [] w w1 L2) →
  X.CallX Try.prog 61 #[(.pointer (some a))] w1 fun e3 w4 =>
   ∃ b5 : Bool, (e3 = .returned (.bool b5)) ∧
   (X.Kept L2 w1 w4) ∧
   if b5 = true then
    ∀ w21 : World, (X.Hid (L2) w4 w21) →
    R (.returned (.agg #[(.slice none 0 0), (.slice none 0 0)])) w21
   else
    ∃ q6 : Option Addr, ∃ k7 : Nat, ∃ k8 : Nat, ∃ q9 : Option Addr, ∃ k10 : Nat, ∃ k11 : Nat, (X.Cells w4 (a.add 9) [(.slice (q6) k7 k8), (.slice (q9) k10 k11)]) ∧
    (¬ ((a.block) ∈ L2)) ∧
    X.CallX Try.prog 49 #[(.agg #[(.slice (q6) k7 k8), (.slice (q9) k10 k11)])] w4 fun e12 w13 =>
     ∃ q14 : Option Addr, ∃ k15 : Nat, ∃ k16 : Nat, ∃ q17 : Option Addr, ∃ k18 : Nat, ∃ k19 : Nat, (e12 = .returned (.agg #[(.slice (q14) k15 k16), (.slice (q17) k18 k19)])) ∧
     (X.Kept L2 w4 w13) ∧
     ∀ w20 : World, (X.Hid (L2) w13 w20) →
     R (.returned (.agg #[(.slice (q14) k15 k16), (.slice (q17) k18 k19)])) w20) :
    Calls Try.prog 39 #[.pointer (some a)] w R :=
  X.calls_of { isLoc := [2], sym := [], loops := [], joins := [] } Try.func39 (by kernel_rfl) h
abbrev fn_Missing : Nat := 42
theorem x_Missing (a : Addr) (w : World) (R : Ending → World → Prop) (h :
  ∃ q1 : Option Addr, (World.cell? (w.alloc (.cells #[(.pointer (some a))] 59)) ⟨(w).heap.size, 0, none⟩ = some (.pointer (q1))) ∧
  X.CallX Try.prog 61 #[(.pointer (q1))] (w.alloc (.cells #[(.pointer (some a))] 59)) fun e2 w3 =>
   ∃ b4 : Bool, (e2 = .returned (.bool b4)) ∧
   (((w.alloc (.cells #[(.pointer (some a))] 59))).heap.size ≤ (w3).heap.size) ∧
   if (b4 == false) = true then
    ∃ q5 : Option Addr, (World.cell? w3 ⟨(w).heap.size, 0, none⟩ = some (.pointer (q5))) ∧
    X.onSome (q5) fun p6 =>
    ∃ n7 : Int, (World.cell? w3 (p6.add 4) = some (.int .i64 n7)) ∧
    if (false || (n7 == 2)) = true then
     R (.returned (.slice none 0 0)) w3
    else
     ∃ q8 : Option Addr, (World.cell? w3 ⟨(w).heap.size, 0, none⟩ = some (.pointer (q8))) ∧
     X.onSome (q8) fun p9 =>
     ∃ q10 : Option Addr, ∃ k11 : Nat, ∃ k12 : Nat, (World.cell? w3 ((p9.add 0).add 2) = some (.slice (q10) k11 k12)) ∧
     X.CallX Try.prog 64 #[(.slice (q10) k11 k12)] w3 fun e13 w14 =>
      ∃ q15 : Option Addr, ∃ k16 : Nat, ∃ k17 : Nat, (e13 = .returned (.slice (q15) k16 k17)) ∧
      ((w3).heap.size ≤ (w14).heap.size) ∧
      X.CallX Try.prog 63 #[(.slice (q15) k16 k17), (.func (.func 65) #[] #[(.pointer (some ⟨(w).heap.size, 0, none⟩))])] w14 fun e18 w19 =>
       ∃ q20 : Option Addr, ∃ k21 : Nat, ∃ k22 : Nat, (e18 = .returned (.slice (q20) k21 k22)) ∧
       ((w14).heap.size ≤ (w19).heap.size) ∧
       R (.returned (.slice (q20) k21 k22)) w19
   else
    R (.returned (.slice none 0 0)) w3) :
    Calls Try.prog 42 #[.pointer (some a)] w R :=
  X.calls_of { isLoc := [], sym := [], loops := [], joins := [] } Try.func42 (by kernel_rfl) h
abbrev fn_Missing1 : Nat := 65
theorem x_Missing1 (a_0 a_1 : Int) (z0 : Addr) (w : World) (R : Ending → World → Prop) (h :
  ∃ x1 : X.Facts, (X.FactsW x1 w []) ∧
  ∃ q2 : Option Addr, ((z0, [(.pointer (q2))]) ∈ x1) ∧
  X.onSome (q2) fun p3 =>
  ∃ q4 : Option Nat, (((p3.add 5), [(.map (q4))]) ∈ x1) ∧
  ∀ w5 : World, ∀ L6 : List Nat, (X.Hid [] w w5) →
  (X.NewL (w).heap.size [] w w5 L6) →
  ∃ b7 : Bool, ∃ w8 : World, (Sem.run Try.prog (Go.Instr.lookup 103 (.map (q4)) (.agg #[(.int .u8 a_0), (.int .u16 a_1)]) false) w5 = .ok (.bool b7) w8) ∧
  (X.Kept L6 w5 w8) ∧
  (X.FactsW x1 w8 (L6)) ∧
  R (.returned (.bool b7)) w8) :
    Calls Try.prog 65 #[.agg #[.int .u8 a_0, .int .u16 a_1], .pointer (some z0)] w R :=
  X.calls_of { isLoc := [2], sym := [], loops := [], joins := [] } Try.func65 (by kernel_rfl) h
abbrev fn_vRight : Nat := 52
theorem x_vRight (a_0 a_1 : Int) (a_2 : Option Addr) (a_2l a_2c : Nat) (w : World) (R : Ending → World → Prop) (h :
  if (((decide (a_0 ≥ 4) || (a_1 == 0)) || (((a_2l : Nat) : Int) == 0)) || decide (((a_2l : Nat) : Int) > 8)) = true then
   ∀ w17 : World, (X.Hid [] w w17) →
   R (.returned (.bool false)) w17
  else
   ∀ w1 : World, ∀ L2 : List Nat, (X.Hid [] w w1) →
   (X.NewL (w).heap.size [] w w1 L2) →
   ∃ x3 : Int → World → List Nat → Prop, ∃ x4 : Int → World → Nat, (x3 0 (w1.alloc (.cells #[(.bool false), (.bool false), (.bool false), (.bool false), (.bool false), (.bool false), (.bool false), (.bool false), (.bool false), (.bool false), (.bool false), (.bool false), (.bool false), (.bool false), (.bool false), (.bool false)] 152)) (L2)) ∧
   ∀ n5 : Int, ∀ w6 : World, ∀ L7 : List Nat, (X.LF (w).heap.size w6 L7) →
   (x3 n5 w6 L7) →
   if (decide (n5 < ((a_2l : Nat) : Int))) = true then
    ((0 : Int) ≤ n5) ∧
    (n5 < ((a_2l : Nat) : Int)) ∧
    X.onSome (a_2) fun p8 =>
    ∃ n9 : Int, ∃ n10 : Int, (X.Cells w6 (p8.add ((n5).toNat * 2)) [(.int .u8 n9), (.int .u16 n10)]) ∧
    (¬ (((p8.add (n5.toNat * 2)).block) ∈ L7)) ∧
    ∀ w11 : World, ∀ L12 : List Nat, (X.Hid (L7) w6 w11) →
    (X.NewL (w).heap.size (L7) w6 w11 L12) →
    X.CallX Try.prog 73 #[(.agg #[(.int .u8 n9), (.int .u16 n10)])] w11 fun e13 w14 =>
     ∃ b15 : Bool, (e13 = .returned (.bool b15)) ∧
     (X.Kept L12 w11 w14) ∧
     if ((!b15) == false) = true then
      ((0 : Int) ≤ n9) ∧
      (n9 < 16) ∧
      ∃ b16 : Bool, (World.cell? w14 ((⟨(w1).heap.size, 0, none⟩ : Addr).add ((n9).toNat * 1)) = some (.bool b16)) ∧
      (¬ ((((Addr.mk w1.heap.size 0 none).add (n9.toNat * 1)).block) ∈ L12)) ∧
      if (false || b16) = true then
       R (.returned (.bool false)) w14
      else
       ((0 : Int) ≤ n9) ∧
       (n9 < 16) ∧
       ((((Addr.mk w1.heap.size 0 none).add (n9.toNat * 1)).spot) = none) ∧
       (World.there w14 (((Addr.mk w1.heap.size 0 none).add (n9.toNat * 1)).block) (((Addr.mk w1.heap.size 0 none).add (n9.toNat * 1)).off) 1) ∧
       (¬ ((((Addr.mk w1.heap.size 0 none).add (n9.toNat * 1)).block) ∈ L12)) ∧
       (([(.int .u8 a_0), (.int .u32 a_1), (.slice (a_2) a_2l a_2c)] : List Value) = [(.int .u8 a_0), (.int .u32 a_1), (.slice (a_2) a_2l a_2c)]) ∧
       (x3 (IntKind.wrap .i64 (n5 + 1)) (w14.setCells (((Addr.mk w1.heap.size 0 none).add (n9.toNat * 1)).block) (((Addr.mk w1.heap.size 0 none).add (n9.toNat * 1)).off) [(.bool true)]) (L12)) ∧
       Nat.le ((x4 (IntKind.wrap .i64 (n5 + 1)) (w14.setCells (((Addr.mk w1.heap.size 0 none).add (n9.toNat * 1)).block) (((Addr.mk w1.heap.size 0 none).add (n9.toNat * 1)).off) [(.bool true)])) + 1) (x4 n5 w6)
     else
      R (.returned (.bool false)) w14
   else
    R (.returned (.bool true)) w6) :
    Calls Try.prog 52 #[.agg #[.int .u8 a_0, .int .u32 a_1, .slice a_2 a_2l a_2c]] w R :=
  X.calls_of { isLoc := [1, 5], sym := [39, 44], loops := [(5, .inv [(29, .int .i64)] [] true)], joins := [] } Try.func52 (by kernel_rfl) h
abbrev fn_CloneVw : Nat := 53
theorem x_CloneVw (a_0 a_1 : Int) (a_2 : Option Addr) (a_2l a_2c : Nat) (w : World) (R : Ending → World → Prop) (h :
  ∀ w1 : World, ∀ L2 : List Nat, (X.Hid [] w w1) →
  (X.NewL (w).heap.size [] w w1 L2) →
  X.CallX Try.prog 64 #[(.slice (a_2) a_2l a_2c)] w1 fun e3 w4 =>
   ∃ q5 : Option Addr, ∃ k6 : Nat, ∃ k7 : Nat, (e3 = .returned (.slice (q5) k6 k7)) ∧
   (X.Kept L2 w1 w4) ∧
   ∀ w8 : World, (X.Hid (L2) w4 w8) →
   R (.returned (.agg #[(.int .u8 a_0), (.int .u32 a_1), (.slice (q5) k6 k7)])) w8) :
    Calls Try.prog 53 #[.agg #[.int .u8 a_0, .int .u32 a_1, .slice a_2 a_2l a_2c]] w R :=
  X.calls_of { isLoc := [1, 2], sym := [], loops := [], joins := [] } Try.func53 (by kernel_rfl) h
abbrev fn_Rank : Nat := 75
theorem x_Rank (a_0 a_1 : Int) (a_2 : Option Addr) (a_2l a_2c : Nat) (b_0 b_1 : Int) (w : World) (R : Ending → World → Prop) (h :
  ∀ w1 : World, ∀ L2 : List Nat, (X.Hid [] w w1) →
  (X.NewL (w).heap.size [] w w1 L2) →
  X.CallX Try.prog 92 #[(.slice (a_2) a_2l a_2c), (.agg #[(.int .u8 b_0), (.int .u16 b_1)])] w1 fun e3 w4 =>
   ∃ n5 : Int, (e3 = .returned (.int .i64 n5)) ∧
   (X.Kept L2 w1 w4) ∧
   R (.returned (.int .i64 n5)) w4) :
    Calls Try.prog 75 #[.agg #[.int .u8 a_0, .int .u32 a_1, .slice a_2 a_2l a_2c], .agg #[.int .u8 b_0, .int .u16 b_1]] w R :=
  X.calls_of { isLoc := [2, 3], sym := [], loops := [], joins := [] } Try.func75 (by kernel_rfl) h
abbrev fn_Majority : Nat := 81
theorem x_Majority (a_0 a_1 : Int) (a_2 : Option Addr) (a_2l a_2c : Nat) (w : World) (R : Ending → World → Prop) (h :
  ∀ w1 : World, (X.Hid [] w w1) →
  R (.returned (.int .i64 (IntKind.wrap .i64 ((IntKind.wrap .i64 ((((a_2l : Nat) : Int)).tdiv 2)) + 1)))) w1) :
    Calls Try.prog 81 #[.agg #[.int .u8 a_0, .int .u32 a_1, .slice a_2 a_2l a_2c]] w R :=
  X.calls_of { isLoc := [1], sym := [], loops := [], joins := [] } Try.func81 (by kernel_rfl) h
abbrev fn_pRight : Nat := 73
theorem x_pRight (a_0 a_1 : Int) (w : World) (R : Ending → World → Prop) (h :
  ∀ w1 : World, (X.Hid [] w w1) →
  R (.returned (.bool (decide (a_0 < 16) && decide (a_1 > 0)))) w1) :
    Calls Try.prog 73 #[.agg #[.int .u8 a_0, .int .u16 a_1]] w R :=
  X.calls_of { isLoc := [1], sym := [], loops := [], joins := [] } Try.func73 (by kernel_rfl) h
abbrev fn_IndexFunc : Nat := 83
theorem x_IndexFunc (a : Option Addr) (al ac : Nat) (z0 : Addr) (w : World) (R : Ending → World → Prop) (h :
  ∃ x1 : Int → World → List Nat → Prop, ∃ x2 : Int → World → Nat, (x1 0 w []) ∧
  ∀ n3 : Int, ∀ w4 : World, ∀ L5 : List Nat, (X.LF (w).heap.size w4 L5) →
  (x1 n3 w4 L5) →
  if (decide (n3 < ((al : Nat) : Int))) = true then
   ((0 : Int) ≤ n3) ∧
   (n3 < ((al : Nat) : Int)) ∧
   X.onSome (a) fun p6 =>
   ∃ n7 : Int, ∃ n8 : Int, (X.Cells w4 (p6.add ((n3).toNat * 2)) [(.int .u8 n7), (.int .u16 n8)]) ∧
   X.CallX Try.prog (OfNat.ofNat 65) #[(.agg #[(.int .u8 n7), (.int .u16 n8)]), (.pointer (some z0))] w4 fun e9 w10 =>
    ∃ b11 : Bool, (e9 = .returned (.bool b11)) ∧
    ((w4).heap.size ≤ (w10).heap.size) ∧
    if b11 = true then
     R (.returned (.int .i64 n3)) w10
    else
     (x1 (IntKind.wrap .i64 (n3 + 1)) w10 []) ∧
     Nat.le ((x2 (IntKind.wrap .i64 (n3 + 1)) w10) + 1) (x2 n3 w4)
  else
   R (.returned (.int .i64 (-1))) w4) :
    Calls Try.prog 83 #[.slice a al ac, .func (.func 65) #[] #[.pointer (some z0)]] w R :=
  X.calls_of { isLoc := [], sym := [], loops := [(2, .inv [(8, .int .i64)] [] true)], joins := [] } Try.func83 (by kernel_rfl) h
abbrev fn_Index : Nat := 92
theorem x_Index (a : Option Addr) (al ac : Nat) (b_0 b_1 : Int) (w : World) (R : Ending → World → Prop) (h :
  ∀ w1 : World, ∀ L2 : List Nat, (X.Hid [] w w1) →
  (X.NewL (w).heap.size [] w w1 L2) →
  ∃ x3 : Int → World → List Nat → Prop, ∃ x4 : Int → World → Nat, (x3 0 w1 (L2)) ∧
  ∀ n5 : Int, ∀ w6 : World, ∀ L7 : List Nat, (X.LF (w).heap.size w6 L7) →
  (x3 n5 w6 L7) →
  if (decide (n5 < ((al : Nat) : Int))) = true then
   ((0 : Int) ≤ n5) ∧
   (n5 < ((al : Nat) : Int)) ∧
   X.onSome (a) fun p8 =>
   ∃ n9 : Int, ∃ n10 : Int, (X.Cells w6 (p8.add ((n5).toNat * 2)) [(.int .u8 n9), (.int .u16 n10)]) ∧
   (¬ (((p8.add (n5.toNat * 2)).block) ∈ L7)) ∧
   if ((b_0 == n9) && (b_1 == n10)) = true then
    ∀ w13 : World, (X.Hid (L7) w6 w13) →
    R (.returned (.int .i64 n5)) w13
   else
    ∀ w11 : World, ∀ L12 : List Nat, (X.Hid (L7) w6 w11) →
    (X.NewL (w).heap.size (L7) w6 w11 L12) →
    (([(.int .u8 b_0), (.int .u16 b_1)] : List Value) = [(.int .u8 b_0), (.int .u16 b_1)]) ∧
    (x3 (IntKind.wrap .i64 (n5 + 1)) w11 (L12)) ∧
    Nat.le ((x4 (IntKind.wrap .i64 (n5 + 1)) w11) + 1) (x4 n5 w6)
  else
   R (.returned (.int .i64 (-1))) w6) :
    Calls Try.prog 92 #[.slice a al ac, .agg #[.int .u8 b_0, .int .u16 b_1]] w R :=
  X.calls_of { isLoc := [3], sym := [], loops := [(2, .inv [(8, .int .i64)] [] true)], joins := [] } Try.func92 (by kernel_rfl) h
abbrev fn_DeleteFunc : Nat := 63
theorem x_DeleteFunc (a : Option Addr) (al ac : Nat) (z0 : Addr) (w : World) (R : Ending → World → Prop) (h :
  X.CallX Try.prog 83 #[(.slice (a) al ac), (.func (.func (OfNat.ofNat 65)) #[] #[(.pointer (some z0))])] w fun e1 w2 =>
   ∃ n3 : Int, (e1 = .returned (.int .i64 n3)) ∧
   ((w).heap.size ≤ (w2).heap.size) ∧
   if (n3 == (-1)) = true then
    R (.returned (.slice (a) al ac)) w2
   else
    ∃ x4 : Int → Int → World → List Nat → Prop, ∃ x5 : Int → Int → World → Nat, (x4 n3 (IntKind.wrap .i64 (n3 + 1)) w2 []) ∧
    ∀ n6 : Int, ∀ n7 : Int, ∀ w8 : World, ∀ L9 : List Nat, (X.LF (w).heap.size w8 L9) →
    (x4 n6 n7 w8 L9) →
    if (decide (n7 < ((al : Nat) : Int))) = true then
     ((0 : Int) ≤ n7) ∧
     (n7 < ((al : Nat) : Int)) ∧
     X.onSome (a) fun p11 =>
     ∃ n12 : Int, ∃ n13 : Int, (X.Cells w8 (p11.add ((n7).toNat * 2)) [(.int .u8 n12), (.int .u16 n13)]) ∧
     ∀ w14 : World, ∀ L15 : List Nat, (X.Hid [] w8 w14) →
     (X.NewL (w).heap.size [] w8 w14 L15) →
     X.CallX Try.prog (OfNat.ofNat 65) #[(.agg #[(.int .u8 n12), (.int .u16 n13)]), (.pointer (some z0))] w14 fun e16 w17 =>
      ∃ b18 : Bool, (e16 = .returned (.bool b18)) ∧
      (X.Kept L15 w14 w17) ∧
      if (!b18) = true then
       ((0 : Int) ≤ n6) ∧
       (n6 < ((al : Nat) : Int)) ∧
       X.onSome (a) fun p19 =>
       (((p19.add (n6.toNat * 2)).spot) = none) ∧
       (World.there w17 ((p19.add (n6.toNat * 2)).block) ((p19.add (n6.toNat * 2)).off) 2) ∧
       (¬ (((p19.add (n6.toNat * 2)).block) ∈ L15)) ∧
       (x4 (IntKind.wrap .i64 (n6 + 1)) (IntKind.wrap .i64 (n7 + 1)) (w17.setCells ((p19.add (n6.toNat * 2)).block) ((p19.add (n6.toNat * 2)).off) [(.int .u8 n12), (.int .u16 n13)]) (L15)) ∧
       Nat.le ((x5 (IntKind.wrap .i64 (n6 + 1)) (IntKind.wrap .i64 (n7 + 1)) (w17.setCells ((p19.add (n6.toNat * 2)).block) ((p19.add (n6.toNat * 2)).off) [(.int .u8 n12), (.int .u16 n13)])) + 1) (x5 n6 n7 w8)
      else
       (x4 n6 (IntKind.wrap .i64 (n7 + 1)) w17 (L15)) ∧
       Nat.le ((x5 n6 (IntKind.wrap .i64 (n7 + 1)) w17) + 1) (x5 n6 n7 w8)
    else
     ((0 : Int) ≤ n6) ∧
     (n6 ≤ ((al : Nat) : Int)) ∧
     ∃ w10 : World, (Sem.run Try.prog (Go.Builtin.clear_ #[43] 0 #[(.slice (X.cutA (a) ac (n6).toNat 2) (al - (n6).toNat) (ac - (n6).toNat))]) w8 = .ok (.tuple #[]) w10) ∧
     ((w8).heap.size ≤ (w10).heap.size) ∧
     ((0 : Int) ≤ n6) ∧
     (n6 ≤ ((ac : Nat) : Int)) ∧
     R (.returned (.slice (X.cutA (a) ac 0 2) (n6).toNat ac)) w10) :
    Calls Try.prog 63 #[.slice a al ac, .func (.func 65) #[] #[.pointer (some z0)]] w R :=
  X.calls_of { isLoc := [7], sym := [], loops := [(5, .inv [(5, .int .i64), (6, .int .i64)] [] true)], joins := [] } Try.func63 (by kernel_rfl) h
abbrev fn_knows : Nat := 9
theorem x_knows  (w : World) (R : Ending → World → Prop) (h :
  X.CallX Try.prog 47 #[(.int .i64 0)] w fun e1 w2 =>
   ∃ n3 : Int, ∃ n4 : Int, (e1 = .returned (.agg #[(.int .u8 n3), (.int .u16 n4)])) ∧
   ((w).heap.size ≤ (w2).heap.size) ∧
   X.CallX Try.prog 20 #[(.int .u32 1), (.int .u8 2)] (w2.alloc (.cells #[(.int .u8 n3), (.int .u16 n4)] 67)) fun e5 w6 =>
    ∃ n7 : Int, (e5 = .returned (.int .u64 n7)) ∧
    (((w2.alloc (.cells #[(.int .u8 n3), (.int .u16 n4)] 67))).heap.size ≤ (w6).heap.size) ∧
    X.CallX Try.prog 23 #[(.agg #[(.int .u8 0), (.int .u32 1), (.slice (some ⟨(w2).heap.size, 0, none⟩) 1 1)]), (.int .u64 n7)] w6 fun e8 w9 =>
     ∃ q10 : Option Addr, (e8 = .returned (.pointer (q10))) ∧
     ((w6).heap.size ≤ (w9).heap.size) ∧
     X.CallX Try.prog 47 #[(.int .i64 0)] w9 fun e11 w12 =>
      ∃ n13 : Int, ∃ n14 : Int, (e11 = .returned (.agg #[(.int .u8 n13), (.int .u16 n14)])) ∧
      ((w9).heap.size ≤ (w12).heap.size) ∧
      X.CallX Try.prog 26 #[(.pointer (q10)), (.agg #[(.int .u8 n13), (.int .u16 n14)]), (.slice none 0 0), (.int .u64 0), (.agg #[(.slice none 0 0), (.slice none 0 0)]), (.bool false)] w12 fun e15 w16 =>
       (e15 = .returned (.tuple #[])) ∧
       ((w12).heap.size ≤ (w16).heap.size) ∧
       X.CallX Try.prog 36 #[(.pointer (q10))] w16 fun e17 w18 =>
        ∃ b19 : Bool, (e17 = .returned (.bool b19)) ∧
        ((w16).heap.size ≤ (w18).heap.size) ∧
        X.CallX Try.prog 47 #[(.int .i64 0)] w18 fun e20 w21 =>
         ∃ n22 : Int, ∃ n23 : Int, (e20 = .returned (.agg #[(.int .u8 n22), (.int .u16 n23)])) ∧
         ((w18).heap.size ≤ (w21).heap.size) ∧
         X.CallX Try.prog 47 #[(.int .i64 3)] w21 fun e24 w25 =>
          ∃ n26 : Int, ∃ n27 : Int, (e24 = .returned (.agg #[(.int .u8 n26), (.int .u16 n27)])) ∧
          ((w21).heap.size ≤ (w25).heap.size) ∧
          X.CallX Try.prog 30 #[(.pointer (q10)), (.slice (some ⟨(w25).heap.size, 0, none⟩) 2 2)] (w25.alloc (.cells #[(.int .u8 n22), (.int .u16 n23), (.int .u8 n26), (.int .u16 n27)] 67)) fun e28 w29 =>
           ∃ q30 : Option Addr, ∃ k31 : Nat, ∃ k32 : Nat, ∃ q33 : Option Addr, ∃ k34 : Nat, ∃ k35 : Nat, ∃ b36 : Bool, (e28 = .returned (.tuple #[(.agg #[(.slice (q30) k31 k32), (.slice (q33) k34 k35)]), (.bool b36)])) ∧
           (((w25.alloc (.cells #[(.int .u8 n22), (.int .u16 n23), (.int .u8 n26), (.int .u16 n27)] 67))).heap.size ≤ (w29).heap.size) ∧
           ∀ w37 : World, ∀ L38 : List Nat, (X.Hid [] w29 w37) →
           (X.NewL (w).heap.size [] w29 w37 L38) →
           X.CallX Try.prog 47 #[(.int .i64 0)] w37 fun e39 w40 =>
            ∃ n41 : Int, ∃ n42 : Int, (e39 = .returned (.agg #[(.int .u8 n41), (.int .u16 n42)])) ∧
            (X.Kept L38 w37 w40) ∧
            X.CallX Try.prog 33 #[(.pointer (q10)), (.agg #[(.int .u8 n41), (.int .u16 n42)])] w40 fun e43 w44 =>
             ∃ b45 : Bool, (e43 = .returned (.bool b45)) ∧
             (X.Kept L38 w40 w44) ∧
             if ((((b19 && b36) && b45) && (((k31 : Nat) : Int) == 2)) == true) = true then
              X.CallX Try.prog 38 #[(.pointer (q10))] w44 fun e46 w47 =>
               ∃ n48 : Int, (e46 = .returned (.int .u64 n48)) ∧
               (X.Kept L38 w44 w47) ∧
               if ((true && (n48 == 258)) == true) = true then
                X.CallX Try.prog 35 #[(.pointer (q10))] w47 fun e49 w50 =>
                 ∃ n51 : Int, (e49 = .returned (.int .i64 n51)) ∧
                 (X.Kept L38 w47 w50) ∧
                 R (.returned (.bool (true && (n51 == 2)))) w50
               else
                R (.returned (.bool false)) w47
             else
              R (.returned (.bool false)) w44) :
    Calls Try.prog 9 #[] w R :=
  X.calls_of { isLoc := [3], sym := [], loops := [], joins := [] } Try.func9 (by kernel_rfl) h
end Go.Proofs
