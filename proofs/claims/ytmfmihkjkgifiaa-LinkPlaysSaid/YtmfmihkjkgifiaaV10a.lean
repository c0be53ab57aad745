import Derived.Test.YtmfmihkjkgifiaaXFn
import Derived.Test.YtmfmihkjkgifiaaProg
/- The verification conditions of this seat's functions, as the engine has them: printed by a program of the bench; checked by the kernel. -/
set_option maxRecDepth 100000
set_option linter.unusedVariables false
namespace Go.Proofs
open Go
abbrev fn_link_New : Nat := 9
theorem x_link_New (a_0 a_1 b_0 b_1 c d : Int) (w : World) (R : Ending → World → Prop) (h :
  ∀ w1 : World, ∀ L2 : List Nat, (X.Hid [] w w1) →
  (X.NewL (w).heap.size [] w w1 L2) →
  R (.returned (.pointer (some ⟨((w1.alloc (.map #[] 0))).heap.size, 0, none⟩))) ((w1.alloc (.map #[] 0)).alloc (.cells #[(.int .u8 a_0), (.int .u16 a_1), (.int .u8 b_0), (.int .u16 b_1), (.int .i64 (if (1 : Int) > d then 1 else d)), (.int .u64 c), (.int .u64 c), (.slice none 0 0), (.map (some (w1).heap.size)), (.bool false)] 82))) :
    Calls Try.prog 9 #[.agg #[.int .u8 a_0, .int .u16 a_1], .agg #[.int .u8 b_0, .int .u16 b_1], .int .u64 c, .int .i64 d] w R :=
  X.calls_of { isLoc := [4, 5], sym := [], loops := [], joins := [] } Try.func9 (by kernel_rfl) h
abbrev fn_gemotlaw02_Proc : Nat := 10
theorem x_gemotlaw02_Proc (a_0 a_1 : Int) (w : World) (R : Ending → World → Prop) (h :
  ∀ w1 : World, (X.Hid [] w w1) →
  R (.returned (.agg #[(.int .u8 a_0), (.int .u16 a_1)])) w1) :
    Calls Try.prog 10 #[.agg #[.int .u8 a_0, .int .u16 a_1]] w R :=
  X.calls_of { isLoc := [1, 2], sym := [], loops := [], joins := [] } Try.func10 (by kernel_rfl) h
abbrev fn_gemotlaw10_num : Nat := 12
theorem x_gemotlaw10_num (a : Int) (w : World) (R : Ending → World → Prop) (h :
  R (.returned (.int .i64 a)) w) :
    Calls Try.prog 12 #[.int .i64 a] w R :=
  X.calls_of { isLoc := [], sym := [], loops := [], joins := [] } Try.func12 (by kernel_rfl) h
abbrev fn_link_Link_Send : Nat := 13
theorem x_link_Link_Send (a : Addr) (b : Option Addr) (bl bc : Nat) (w : World) (R : Ending → World → Prop) (h :
  X.CallX Try.prog 29 #[(.pointer (some a))] w fun e1 w2 =>
   ∃ b3 : Bool, (e1 = .returned (.bool b3)) ∧
   ((w).heap.size ≤ (w2).heap.size) ∧
   if b3 = true then
    R (.returned (.int .i64 1)) w2
   else
    ∃ n4 : Int, (World.cell? w2 (a.add 5) = some (.int .u64 n4)) ∧
    if (n4 == 18446744073709551615) = true then
     R (.returned (.int .i64 11)) w2
    else
     ∃ q5 : Option Addr, ∃ k6 : Nat, ∃ k7 : Nat, (World.cell? w2 (a.add 7) = some (.slice (q5) k6 k7)) ∧
     if (decide (((k6 : Nat) : Int) ≥ 32)) = true then
      R (.returned (.int .i64 10)) w2
     else
      ∃ x8 : X.Facts, (X.FactsW x8 w2 []) ∧
      ∃ q9 : Option Addr, ∃ k10 : Nat, ∃ k11 : Nat, (((a.add 7), [(.slice (q9) k10 k11)]) ∈ x8) ∧
      ∃ n12 : Int, (((a.add 5), [(.int .u64 n12)]) ∈ x8) ∧
      ∀ w13 : World, (X.Hid [] w2 w13) →
      X.CallX Try.prog 30 #[(.slice (b) bl bc)] w13 fun e14 w15 =>
       ∃ q16 : Option Addr, ∃ k17 : Nat, ∃ k18 : Nat, (e14 = .returned (.slice (q16) k17 k18)) ∧
       ((w13).heap.size ≤ (w15).heap.size) ∧
       (X.FactsW x8 w15 []) ∧
       (X.FactsW x8 (w15.alloc (.cells #[(.int .u64 n12), (.slice (q16) k17 k18), (.bool false), (.int .i64 0)] 86)) []) ∧
       ∃ q19 : Option Addr, ∃ k20 : Nat, ∃ k21 : Nat, ∃ w22 : World, (Sem.run Try.prog (Go.Builtin.append_ #[79, 79] 79 #[(.slice (q9) k10 k11), (.slice (some ⟨(w15).heap.size, 0, none⟩) 1 1)]) (w15.alloc (.cells #[(.int .u64 n12), (.slice (q16) k17 k18), (.bool false), (.int .i64 0)] 86)) = .ok (.slice (q19) k20 k21) w22) ∧
       (((w15.alloc (.cells #[(.int .u64 n12), (.slice (q16) k17 k18), (.bool false), (.int .i64 0)] 86))).heap.size ≤ (w22).heap.size) ∧
       (X.FactsW x8 w22 []) ∧
       ((none : Option Nat) = none) ∧
       (World.there w22 (a.block) ((a.off) + 7) 1) ∧
       ∃ n23 : Int, (World.cell? (w22.setCells (a.block) ((a.off) + 7) [(.slice (q19) k20 k21)]) (a.add 5) = some (.int .u64 n23)) ∧
       ((none : Option Nat) = none) ∧
       (World.there (w22.setCells (a.block) ((a.off) + 7) [(.slice (q19) k20 k21)]) (a.block) ((a.off) + 5) 1) ∧
       R (.returned (.int .i64 0)) ((w22.setCells (a.block) ((a.off) + 7) [(.slice (q19) k20 k21)]).setCells (a.block) ((a.off) + 5) [(.int .u64 (IntKind.wrap .u64 (n23 + 1)))])) :
    Calls Try.prog 13 #[.pointer (some a), .slice b bl bc] w R :=
  X.calls_of { isLoc := [], sym := [], loops := [], joins := [] } Try.func13 (by kernel_rfl) h
abbrev fn_link_Link_Out : Nat := 16
theorem x_link_Link_Out (a : Addr) (b : Int) (w : World) (R : Ending → World → Prop) (h :
  X.CallX Try.prog 29 #[(.pointer (some a))] w fun e1 w2 =>
   ∃ b3 : Bool, (e1 = .returned (.bool b3)) ∧
   ((w).heap.size ≤ (w2).heap.size) ∧
   if b3 = true then
    R (.returned (.slice none 0 0)) w2
   else
    ∃ x4 : X.Facts, (X.FactsW x4 w2 []) ∧
    ∃ n5 : Int, ∃ n6 : Int, (((a.add 0), [(.int .u8 n5), (.int .u16 n6)]) ∈ x4) ∧
    ∃ n7 : Int, ∃ n8 : Int, (((a.add 2), [(.int .u8 n7), (.int .u16 n8)]) ∈ x4) ∧
    ∃ n9 : Int, (((a.add 6), [(.int .u64 n9)]) ∈ x4) ∧
    ∀ w10 : World, ∀ L11 : List Nat, (X.Hid [] w2 w10) →
    (X.NewL (w).heap.size [] w2 w10 L11) →
    X.CallX Try.prog 31 #[(.pointer (some a))] w10 fun e12 w13 =>
     ∃ q14 : Option Addr, ∃ k15 : Nat, ∃ k16 : Nat, (e12 = .returned (.slice (q14) k15 k16)) ∧
     (X.Kept L11 w10 w13) ∧
     ∃ x17 : Option Addr → Nat → Nat → Int → World → List Nat → Prop, ∃ x18 : Option Addr → Nat → Nat → Int → World → Nat, (x17 (none) 0 0 0 w13 (L11)) ∧
     ∀ q19 : Option Addr, ∀ k20 : Nat, ∀ k21 : Nat, ∀ n22 : Int, ∀ w23 : World, ∀ L24 : List Nat, (X.LF (w).heap.size w23 L24) →
     (x17 q19 k20 k21 n22 w23 L24) →
     if (decide (n22 < ((k15 : Nat) : Int))) = true then
      ((0 : Int) ≤ n22) ∧
      (n22 < ((k15 : Nat) : Int)) ∧
      X.onSome (q14) fun p30 =>
      ∃ n31 : Int, ∃ q32 : Option Addr, ∃ k33 : Nat, ∃ k34 : Nat, ∃ b35 : Bool, ∃ n36 : Int, (X.Cells w23 (p30.add ((n22).toNat * 4)) [(.int .u64 n31), (.slice (q32) k33 k34), (.bool b35), (.int .i64 n36)]) ∧
      (¬ (((p30.add (n22.toNat * 4)).block) ∈ L24)) ∧
      ∃ x37 : X.Facts, (X.FactsW x37 w23 (L24)) ∧
      ∃ n38 : Int, (((a.add 4), [(.int .i64 n38)]) ∈ x37) ∧
      ∀ w39 : World, ∀ L40 : List Nat, (X.Hid (L24) w23 w39) →
      (X.NewL (w).heap.size (L24) w23 w39 L40) →
      X.CallX Try.prog 32 #[(.agg #[(.int .u64 n31), (.slice (q32) k33 k34), (.bool b35), (.int .i64 n36)]), (.int .i64 b), (.int .i64 n38)] w39 fun e41 w42 =>
       ∃ b43 : Bool, (e41 = .returned (.bool b43)) ∧
       (X.Kept L40 w39 w42) ∧
       if (!b43) = true then
        (([(.int .u8 n5), (.int .u16 n6), (.int .u8 n7), (.int .u16 n8), (.int .u64 0), (.int .u64 n9), (.bool false), (.slice none 0 0)] : List Value) = [(.int .u8 n5), (.int .u16 n6), (.int .u8 n7), (.int .u16 n8), (.int .u64 0), (.int .u64 n9), (.bool false), (.slice none 0 0)]) ∧
        (x17 q19 k20 k21 (IntKind.wrap .i64 (n22 + 1)) w42 (L40)) ∧
        Nat.le ((x18 q19 k20 k21 (IntKind.wrap .i64 (n22 + 1)) w42) + 1) (x18 q19 k20 k21 n22 w23)
       else
        ∃ x44 : X.Facts, (X.FactsW x44 w42 (L40)) ∧
        ∃ q45 : Option Addr, ∃ k46 : Nat, ∃ k47 : Nat, (((a.add 7), [(.slice (q45) k46 k47)]) ∈ x44) ∧
        ∃ q48 : Option Addr, ∃ k49 : Nat, ∃ k50 : Nat, (((a.add 7), [(.slice (q48) k49 k50)]) ∈ x44) ∧
        ((0 : Int) ≤ n22) ∧
        (n22 < ((k46 : Nat) : Int)) ∧
        X.onSome (q45) fun p51 =>
        ∀ w52 : World, ∀ L53 : List Nat, (X.Hid (L40) w42 w52) →
        (X.NewL (w).heap.size (L40) w42 w52 L53) →
        ((none : Option Nat) = none) ∧
        (World.there w52 ((p51.add (n22.toNat * 4)).block) (((p51.add (n22.toNat * 4)).off) + 2) 1) ∧
        (¬ (((p51.add (n22.toNat * 4)).block) ∈ L53)) ∧
        ((0 : Int) ≤ n22) ∧
        (n22 < ((k49 : Nat) : Int)) ∧
        X.onSome (q48) fun p54 =>
        ((none : Option Nat) = none) ∧
        (World.there (w52.setCells ((p51.add (n22.toNat * 4)).block) (((p51.add (n22.toNat * 4)).off) + 2) [(.bool true)]) ((p54.add (n22.toNat * 4)).block) (((p54.add (n22.toNat * 4)).off) + 3) 1) ∧
        (¬ (((p54.add (n22.toNat * 4)).block) ∈ L53)) ∧
        ∃ x55 : X.Facts, (X.FactsW x55 ((w52.setCells ((p51.add (n22.toNat * 4)).block) (((p51.add (n22.toNat * 4)).off) + 2) [(.bool true)]).setCells ((p54.add (n22.toNat * 4)).block) (((p54.add (n22.toNat * 4)).off) + 3) [(.int .i64 b)]) (L53)) ∧
        ∀ w56 : World, ∀ L57 : List Nat, (X.Hid (L53) ((w52.setCells ((p51.add (n22.toNat * 4)).block) (((p51.add (n22.toNat * 4)).off) + 2) [(.bool true)]).setCells ((p54.add (n22.toNat * 4)).block) (((p54.add (n22.toNat * 4)).off) + 3) [(.int .i64 b)]) w56) →
        (X.NewL (w).heap.size (L53) ((w52.setCells ((p51.add (n22.toNat * 4)).block) (((p51.add (n22.toNat * 4)).off) + 2) [(.bool true)]).setCells ((p54.add (n22.toNat * 4)).block) (((p54.add (n22.toNat * 4)).off) + 3) [(.int .i64 b)]) w56 L57) →
        X.CallX Try.prog 30 #[(.slice (q32) k33 k34)] w56 fun e58 w59 =>
         ∃ q60 : Option Addr, ∃ k61 : Nat, ∃ k62 : Nat, (e58 = .returned (.slice (q60) k61 k62)) ∧
         (X.Kept L57 w56 w59) ∧
         (X.FactsW x55 w59 (L57)) ∧
         ∀ w63 : World, ∀ L64 : List Nat, (X.Hid (L57) w59 w63) →
         (X.NewL (w).heap.size (L57) w59 w63 L64) →
         ∃ q65 : Option Addr, ∃ k66 : Nat, ∃ k67 : Nat, ∃ w68 : World, (Sem.run Try.prog (Go.Builtin.append_ #[45, 45] 45 #[(.slice (q19) k20 k21), (.slice (some ⟨(w63).heap.size, 0, none⟩) 1 1)]) (w63.alloc (.cells #[(.int .u8 n5), (.int .u16 n6), (.int .u8 n7), (.int .u16 n8), (.int .u64 n31), (.int .u64 n9), (.bool true), (.slice (q60) k61 k62)] 53)) = .ok (.slice (q65) k66 k67) w68) ∧
         (X.Kept L64 (w63.alloc (.cells #[(.int .u8 n5), (.int .u16 n6), (.int .u8 n7), (.int .u16 n8), (.int .u64 n31), (.int .u64 n9), (.bool true), (.slice (q60) k61 k62)] 53)) w68) ∧
         (([(.int .u8 n5), (.int .u16 n6), (.int .u8 n7), (.int .u16 n8), (.int .u64 0), (.int .u64 n9), (.bool false), (.slice none 0 0)] : List Value) = [(.int .u8 n5), (.int .u16 n6), (.int .u8 n7), (.int .u16 n8), (.int .u64 0), (.int .u64 n9), (.bool false), (.slice none 0 0)]) ∧
         (x17 q65 k66 k67 (IntKind.wrap .i64 (n22 + 1)) w68 (L64)) ∧
         Nat.le ((x18 q65 k66 k67 (IntKind.wrap .i64 (n22 + 1)) w68) + 1) (x18 q19 k20 k21 n22 w23)
     else
      if ((((k20 : Nat) : Int) == 0) == true) = true then
       ∃ b25 : Bool, (World.cell? w23 (a.add 9) = some (.bool b25)) ∧
       (¬ ((a.block) ∈ L24)) ∧
       if (true && b25) = true then
        ∃ q26 : Option Addr, ∃ k27 : Nat, ∃ k28 : Nat, ∃ w29 : World, (Sem.run Try.prog (Go.Builtin.append_ #[45, 45] 45 #[(.slice (q19) k20 k21), (.slice (some ⟨(w23).heap.size, 0, none⟩) 1 1)]) (w23.alloc (.cells #[(.int .u8 n5), (.int .u16 n6), (.int .u8 n7), (.int .u16 n8), (.int .u64 0), (.int .u64 n9), (.bool false), (.slice none 0 0)] 53)) = .ok (.slice (q26) k27 k28) w29) ∧
        (X.Kept L24 (w23.alloc (.cells #[(.int .u8 n5), (.int .u16 n6), (.int .u8 n7), (.int .u16 n8), (.int .u64 0), (.int .u64 n9), (.bool false), (.slice none 0 0)] 53)) w29) ∧
        ((none : Option Nat) = none) ∧
        (World.there w29 (a.block) ((a.off) + 9) 1) ∧
        (¬ ((a.block) ∈ L24)) ∧
        R (.returned (.slice (q26) k27 k28)) (w29.setCells (a.block) ((a.off) + 9) [(.bool false)])
       else
        ((none : Option Nat) = none) ∧
        (World.there w23 (a.block) ((a.off) + 9) 1) ∧
        (¬ ((a.block) ∈ L24)) ∧
        R (.returned (.slice (q19) k20 k21)) (w23.setCells (a.block) ((a.off) + 9) [(.bool false)])
      else
       ((none : Option Nat) = none) ∧
       (World.there w23 (a.block) ((a.off) + 9) 1) ∧
       (¬ ((a.block) ∈ L24)) ∧
       R (.returned (.slice (q19) k20 k21)) (w23.setCells (a.block) ((a.off) + 9) [(.bool false)])) :
    Calls Try.prog 16 #[.pointer (some a), .int .i64 b] w R :=
  X.calls_of { isLoc := [6, 8, 9], sym := [], loops := [(6, .inv [(5, .slice), (28, .int .i64)] [] true)], joins := [], stored := [(4, [6]), (11, [9])] } Try.func16 (by kernel_rfl) h
abbrev fn_link_Link_Hear : Nat := 19
theorem x_link_Link_Hear (a : Addr) (b_0 b_1 b_2 b_3 b_4 b_5 : Int) (b_6 : Bool) (b_7 : Option Addr) (b_7l b_7c : Nat) (w : World) (R : Ending → World → Prop) (h :
  ∃ x1 : X.Facts, (X.FactsW x1 w []) ∧
  ∀ w2 : World, ∀ L3 : List Nat, (X.Hid [] w w2) →
  (X.NewL (w).heap.size [] w w2 L3) →
  X.CallX Try.prog 29 #[(.pointer (some a))] w2 fun e4 w5 =>
   ∃ b6 : Bool, (e4 = .returned (.bool b6)) ∧
   (X.Kept L3 w2 w5) ∧
   (X.FactsW x1 w5 (L3)) ∧
   ∃ x7 : X.Facts, (X.FactsW x7 w5 (L3)) ∧
   (∀ x8 : Addr × List Value, (x8 ∈ x1) →
    x8 ∈ x7) ∧
   if (b6 == false) = true then
    ∃ n11 : Int, ∃ n12 : Int, (((a.add 2), [(.int .u8 n11), (.int .u16 n12)]) ∈ x7) ∧
    if ((false || (!((b_0 == n11) && (b_1 == n12)))) == false) = true then
     ∃ n13 : Int, ∃ n14 : Int, (((a.add 0), [(.int .u8 n13), (.int .u16 n14)]) ∈ x7) ∧
     if (false || (!((b_2 == n13) && (b_3 == n14)))) = true then
      R (.returned (.slice none 0 0)) w5
     else
      X.CallX Try.prog 34 #[(.pointer (some a)), (.int .u64 b_5)] w5 fun e15 w16 =>
       (e15 = .returned (.tuple #[])) ∧
       (X.Kept L3 w5 w16) ∧
       if (!b_6) = true then
        R (.returned (.slice none 0 0)) w16
       else
        ((none : Option Nat) = none) ∧
        (World.there w16 (a.block) ((a.off) + 9) 1) ∧
        (¬ ((a.block) ∈ L3)) ∧
        ∃ x17 : X.Facts, (X.FactsW x17 (w16.setCells (a.block) ((a.off) + 9) [(.bool true)]) (L3)) ∧
        ∃ q18 : Option Nat, (((a.add 8), [(.map (q18))]) ∈ x17) ∧
        ∀ w19 : World, ∀ L20 : List Nat, (X.Hid (L3) (w16.setCells (a.block) ((a.off) + 9) [(.bool true)]) w19) →
        (X.NewL (w).heap.size (L3) (w16.setCells (a.block) ((a.off) + 9) [(.bool true)]) w19 L20) →
        ∃ q21 : Option Addr, ∃ k22 : Nat, ∃ k23 : Nat, ∃ b24 : Bool, ∃ w25 : World, (Sem.run Try.prog (Go.Instr.lookup 80 (.map (q18)) (.int .u64 b_4) true) w19 = .ok (.tuple #[(.slice (q21) k22 k23), (.bool b24)]) w25) ∧
        (X.Kept L20 w19 w25) ∧
        (X.FactsW x17 w25 (L20)) ∧
        ∃ n26 : Int, (World.cell? w25 (a.add 6) = some (.int .u64 n26)) ∧
        (¬ ((a.block) ∈ L20)) ∧
        if (b_4 == n26) = true then
         ∀ w41 : World, ∀ L42 : List Nat, (X.Hid (L20) w25 w41) →
         (X.NewL (w).heap.size (L20) w25 w41 L42) →
         X.CallX Try.prog 30 #[(.slice (b_7) b_7l b_7c)] w41 fun e43 w44 =>
          ∃ q45 : Option Addr, ∃ k46 : Nat, ∃ k47 : Nat, (e43 = .returned (.slice (q45) k46 k47)) ∧
          (X.Kept L42 w41 w44) ∧
          X.CallX Try.prog 35 #[(.pointer (some a)), (.slice (q45) k46 k47)] w44 fun e48 w49 =>
           ∃ q50 : Option Addr, ∃ k51 : Nat, ∃ k52 : Nat, (e48 = .returned (.slice (q50) k51 k52)) ∧
           (X.Kept L42 w44 w49) ∧
           R (.returned (.slice (q50) k51 k52)) w49
        else
         ∃ n27 : Int, (World.cell? w25 (a.add 6) = some (.int .u64 n27)) ∧
         (¬ ((a.block) ∈ L20)) ∧
         if ((decide (b_4 > n27)) == true) = true then
          ∃ n29 : Int, (World.cell? w25 (a.add 6) = some (.int .u64 n29)) ∧
          (¬ ((a.block) ∈ L20)) ∧
          if ((true && decide ((IntKind.wrap .u64 (b_4 - n29)) < 8)) && (!b24)) = true then
           ∃ x31 : X.Facts, (X.FactsW x31 w25 (L20)) ∧
           ∃ q32 : Option Nat, (((a.add 8), [(.map (q32))]) ∈ x31) ∧
           ∀ w33 : World, ∀ L34 : List Nat, (X.Hid (L20) w25 w33) →
           (X.NewL (w).heap.size (L20) w25 w33 L34) →
           X.CallX Try.prog 30 #[(.slice (b_7) b_7l b_7c)] w33 fun e35 w36 =>
            ∃ q37 : Option Addr, ∃ k38 : Nat, ∃ k39 : Nat, (e35 = .returned (.slice (q37) k38 k39)) ∧
            (X.Kept L34 w33 w36) ∧
            (X.FactsW x31 w36 (L34)) ∧
            ∃ w40 : World, (Sem.run Try.prog (Go.Instr.mapUpdate 80 (.map (q32)) (.int .u64 b_4) (.slice (q37) k38 k39)) w36 = .ok (PUnit.unit) w40) ∧
            (X.Kept L34 w36 w40) ∧
            R (.returned (.slice none 0 0)) w40
          else
           ∀ w30 : World, (X.Hid (L20) w25 w30) →
           R (.returned (.slice none 0 0)) w30
         else
          ∀ w28 : World, (X.Hid (L20) w25 w28) →
          R (.returned (.slice none 0 0)) w28
    else
     R (.returned (.slice none 0 0)) w5
   else
    ∃ x9 : X.Facts, (X.FactsW x9 w5 (L3)) ∧
    (∀ x10 : Addr × List Value, (x10 ∈ x7) →
     x10 ∈ x9) ∧
    R (.returned (.slice none 0 0)) w5) :
    Calls Try.prog 19 #[.pointer (some a), .agg #[.int .u8 b_0, .int .u16 b_1, .int .u8 b_2, .int .u16 b_3, .int .u64 b_4, .int .u64 b_5, .bool b_6, .slice b_7 b_7l b_7c]] w R :=
  X.calls_of { isLoc := [3], sym := [], loops := [], joins := [] } Try.func19 (by kernel_rfl) h
abbrev fn_gemotlaw07_Packet : Nat := 20
theorem x_gemotlaw07_Packet (a_0 a_1 a_2 a_3 a_4 a_5 : Int) (a_6 : Bool) (a_7 : Option Addr) (a_7l a_7c : Nat) (w : World) (R : Ending → World → Prop) (h :
  ∃ x1 : X.Facts, (X.FactsW x1 w []) ∧
  (∀ w2 : World, ∀ L3 : List Nat, (X.Hid [] w w2) →
   (X.NewL (w).heap.size [] w w2 L3) →
   X.CallX Try.prog 10 #[(.agg #[(.int .u8 a_0), (.int .u16 a_1)])] w2 fun e4 w5 =>
    ∃ n6 : Int, ∃ n7 : Int, (e4 = .returned (.agg #[(.int .u8 n6), (.int .u16 n7)])) ∧
    (X.Kept L3 w2 w5) ∧
    (X.FactsW x1 w5 (L3)) ∧
    (X.CallX Try.prog 10 #[(.agg #[(.int .u8 a_2), (.int .u16 a_3)])] w5 fun e8 w9 =>
      ∃ n10 : Int, ∃ n11 : Int, (e8 = .returned (.agg #[(.int .u8 n10), (.int .u16 n11)])) ∧
      (X.Kept L3 w5 w9) ∧
      (X.FactsW x1 w9 (L3)) ∧
      (X.FactsW x1 (w9.alloc (.cells #[] 5)) (L3)) ∧
      ∃ q12 : Option Addr, ∃ k13 : Nat, ∃ k14 : Nat, ∃ w15 : World, (Sem.run Try.prog (Go.Builtin.append_ #[35, 35] 35 #[(.slice (some ⟨(w9).heap.size, 0, none⟩) 0 0), (.slice (a_7) a_7l a_7c)]) (w9.alloc (.cells #[] 5)) = .ok (.slice (q12) k13 k14) w15) ∧
      (X.Kept L3 (w9.alloc (.cells #[] 5)) w15) ∧
      (X.FactsW x1 w15 (L3)) ∧
      ∀ w16 : World, (X.Hid (L3) w15 w16) →
      R (.returned (.agg #[(.int .u8 n6), (.int .u16 n7), (.int .u8 n10), (.int .u16 n11), (.int .u64 a_4), (.int .u64 a_5), (.bool a_6), (.slice (q12) k13 k14)])) w16) ∧
    (X.FactsW x1 (w5.alloc (.cells #[] 5)) (L3)) ∧
    X.CallX Try.prog 10 #[(.agg #[(.int .u8 a_2), (.int .u16 a_3)])] (w5.alloc (.cells #[] 5)) fun e17 w18 =>
     ∃ n19 : Int, ∃ n20 : Int, (e17 = .returned (.agg #[(.int .u8 n19), (.int .u16 n20)])) ∧
     (X.Kept L3 (w5.alloc (.cells #[] 5)) w18) ∧
     (X.FactsW x1 w18 (L3)) ∧
     ∃ q21 : Option Addr, ∃ k22 : Nat, ∃ k23 : Nat, ∃ w24 : World, (Sem.run Try.prog (Go.Builtin.append_ #[35, 35] 35 #[(.slice (some ⟨(w5).heap.size, 0, none⟩) 0 0), (.slice (a_7) a_7l a_7c)]) w18 = .ok (.slice (q21) k22 k23) w24) ∧
     (X.Kept L3 w18 w24) ∧
     (X.FactsW x1 w24 (L3)) ∧
     ∀ w25 : World, (X.Hid (L3) w24 w25) →
     R (.returned (.agg #[(.int .u8 n6), (.int .u16 n7), (.int .u8 n19), (.int .u16 n20), (.int .u64 a_4), (.int .u64 a_5), (.bool a_6), (.slice (q21) k22 k23)])) w25) ∧
  ∀ w26 : World, ∀ L27 : List Nat, (X.Hid [] w w26) →
  (X.NewL (w).heap.size [] w w26 L27) →
  (X.FactsW x1 (w26.alloc (.cells #[] 5)) (L27)) ∧
  X.CallX Try.prog 10 #[(.agg #[(.int .u8 a_0), (.int .u16 a_1)])] (w26.alloc (.cells #[] 5)) fun e28 w29 =>
   ∃ n30 : Int, ∃ n31 : Int, (e28 = .returned (.agg #[(.int .u8 n30), (.int .u16 n31)])) ∧
   (X.Kept L27 (w26.alloc (.cells #[] 5)) w29) ∧
   (X.FactsW x1 w29 (L27)) ∧
   X.CallX Try.prog 10 #[(.agg #[(.int .u8 a_2), (.int .u16 a_3)])] w29 fun e32 w33 =>
    ∃ n34 : Int, ∃ n35 : Int, (e32 = .returned (.agg #[(.int .u8 n34), (.int .u16 n35)])) ∧
    (X.Kept L27 w29 w33) ∧
    (X.FactsW x1 w33 (L27)) ∧
    ∃ q36 : Option Addr, ∃ k37 : Nat, ∃ k38 : Nat, ∃ w39 : World, (Sem.run Try.prog (Go.Builtin.append_ #[35, 35] 35 #[(.slice (some ⟨(w26).heap.size, 0, none⟩) 0 0), (.slice (a_7) a_7l a_7c)]) w33 = .ok (.slice (q36) k37 k38) w39) ∧
    (X.Kept L27 w33 w39) ∧
    (X.FactsW x1 w39 (L27)) ∧
    ∀ w40 : World, (X.Hid (L27) w39 w40) →
    R (.returned (.agg #[(.int .u8 n30), (.int .u16 n31), (.int .u8 n34), (.int .u16 n35), (.int .u64 a_4), (.int .u64 a_5), (.bool a_6), (.slice (q36) k37 k38)])) w40) :
    Calls Try.prog 20 #[.agg #[.int .u8 a_0, .int .u16 a_1, .int .u8 a_2, .int .u16 a_3, .int .u64 a_4, .int .u64 a_5, .bool a_6, .slice a_7 a_7l a_7c]] w R :=
  X.calls_of { isLoc := [1, 2], sym := [], loops := [], joins := [], stored := [(1, [2])] } Try.func20 (by kernel_rfl) h
abbrev fn_link_Link_Waiting : Nat := 22
theorem x_link_Link_Waiting (a : Addr) (w : World) (R : Ending → World → Prop) (h :
  X.CallX Try.prog 29 #[(.pointer (some a))] w fun e1 w2 =>
   ∃ b3 : Bool, (e1 = .returned (.bool b3)) ∧
   ((w).heap.size ≤ (w2).heap.size) ∧
   if b3 = true then
    R (.returned (.int .i64 0)) w2
   else
    ∃ q4 : Option Addr, ∃ k5 : Nat, ∃ k6 : Nat, (World.cell? w2 (a.add 7) = some (.slice (q4) k5 k6)) ∧
    R (.returned (.int .i64 ((k5 : Nat) : Int))) w2) :
    Calls Try.prog 22 #[.pointer (some a)] w R :=
  X.calls_of { isLoc := [], sym := [], loops := [], joins := [] } Try.func22 (by kernel_rfl) h
abbrev fn_link_Link_Idle : Nat := 23
theorem x_link_Link_Idle (a : Addr) (w : World) (R : Ending → World → Prop) (h :
  X.CallX Try.prog 29 #[(.pointer (some a))] w fun e1 w2 =>
   ∃ b3 : Bool, (e1 = .returned (.bool b3)) ∧
   ((w).heap.size ≤ (w2).heap.size) ∧
   if ((!b3) == true) = true then
    ∃ q4 : Option Addr, ∃ k5 : Nat, ∃ k6 : Nat, (World.cell? w2 (a.add 7) = some (.slice (q4) k5 k6)) ∧
    R (.returned (.bool (true && (((k5 : Nat) : Int) == 0)))) w2
   else
    R (.returned (.bool false)) w2) :
    Calls Try.prog 23 #[.pointer (some a)] w R :=
  X.calls_of { isLoc := [], sym := [], loops := [], joins := [] } Try.func23 (by kernel_rfl) h
abbrev fn_link_Link_Want : Nat := 24
theorem x_link_Link_Want (a : Addr) (w : World) (R : Ending → World → Prop) (h :
  X.CallX Try.prog 29 #[(.pointer (some a))] w fun e1 w2 =>
   ∃ b3 : Bool, (e1 = .returned (.bool b3)) ∧
   ((w).heap.size ≤ (w2).heap.size) ∧
   if b3 = true then
    R (.returned (.int .u64 0)) w2
   else
    ∃ n4 : Int, (World.cell? w2 (a.add 6) = some (.int .u64 n4)) ∧
    R (.returned (.int .u64 n4)) w2) :
    Calls Try.prog 24 #[.pointer (some a)] w R :=
  X.calls_of { isLoc := [], sym := [], loops := [], joins := [] } Try.func24 (by kernel_rfl) h
abbrev fn_gemotlaw10_ends : Nat := 25
theorem x_gemotlaw10_ends (a b : Int) (w : World) (R : Ending → World → Prop) (h :
  ∃ x1 : X.Facts, (X.FactsW x1 w []) ∧
  ∀ w2 : World, ∀ L3 : List Nat, (X.Hid [] w w2) →
  (X.NewL (w).heap.size [] w w2 L3) →
  X.CallX Try.prog 9 #[(.agg #[(.int .u8 1), (.int .u16 1)]), (.agg #[(.int .u8 2), (.int .u16 3)]), (.int .u64 a), (.int .i64 b)] w2 fun e4 w5 =>
   ∃ q6 : Option Addr, (e4 = .returned (.pointer (q6))) ∧
   (X.Kept L3 w2 w5) ∧
   (X.FactsW x1 w5 (L3)) ∧
   X.CallX Try.prog 9 #[(.agg #[(.int .u8 2), (.int .u16 3)]), (.agg #[(.int .u8 1), (.int .u16 1)]), (.int .u64 a), (.int .i64 b)] w5 fun e7 w8 =>
    ∃ q9 : Option Addr, (e7 = .returned (.pointer (q9))) ∧
    (X.Kept L3 w5 w8) ∧
    (X.FactsW x1 w8 (L3)) ∧
    R (.returned (.tuple #[(.pointer (q6)), (.pointer (q9))])) w8) :
    Calls Try.prog 25 #[.int .u64 a, .int .i64 b] w R :=
  X.calls_of { isLoc := [6, 7], sym := [], loops := [], joins := [] } Try.func25 (by kernel_rfl) h
abbrev fn_link_Link_none : Nat := 29
theorem x_link_Link_none (a : Addr) (w : World) (R : Ending → World → Prop) (h :
  ∃ q1 : Option Nat, (World.cell? w (a.add 8) = some (.map (q1))) ∧
  R (.returned (.bool (false || (q1.isNone)))) w) :
    Calls Try.prog 29 #[.pointer (some a)] w R :=
  X.calls_of { isLoc := [], sym := [], loops := [], joins := [] } Try.func29 (by kernel_rfl) h
abbrev fn_Clone : Nat := 30
theorem x_Clone (a : Option Addr) (al ac : Nat) (w : World) (R : Ending → World → Prop) (h :
  if (a.isNone) = true then
   R (.returned (.slice none 0 0)) w
  else
   ∃ q1 : Option Addr, ∃ k2 : Nat, ∃ k3 : Nat, ∃ w4 : World, (Sem.run Try.prog (Go.Builtin.append_ #[35, 35] 35 #[(.slice (some ⟨(w).heap.size, 0, none⟩) 0 0), (.slice (a) al ac)]) (w.alloc (.cells #[] 5)) = .ok (.slice (q1) k2 k3) w4) ∧
   (((w.alloc (.cells #[] 5))).heap.size ≤ (w4).heap.size) ∧
   R (.returned (.slice (q1) k2 k3)) w4) :
    Calls Try.prog 30 #[.slice a al ac] w R :=
  X.calls_of { isLoc := [], sym := [], loops := [], joins := [] } Try.func30 (by kernel_rfl) h
abbrev fn_link_Link_open : Nat := 31
theorem x_link_Link_open (a : Addr) (w : World) (R : Ending → World → Prop) (h :
  ∃ q1 : Option Addr, ∃ k2 : Nat, ∃ k3 : Nat, (World.cell? w (a.add 7) = some (.slice (q1) k2 k3)) ∧
  ∃ q4 : Option Addr, ∃ k5 : Nat, ∃ k6 : Nat, (World.cell? w (a.add 7) = some (.slice (q4) k5 k6)) ∧
  ((0 : Int) ≤ (if (8 : Int) < ((k2 : Nat) : Int) then 8 else ((k2 : Nat) : Int))) ∧
  ((if (8 : Int) < ((k2 : Nat) : Int) then 8 else ((k2 : Nat) : Int)) ≤ ((k6 : Nat) : Int)) ∧
  ((0 : Int) ≤ (if (8 : Int) < ((k2 : Nat) : Int) then 8 else ((k2 : Nat) : Int))) ∧
  ((if (8 : Int) < ((k2 : Nat) : Int) then 8 else ((k2 : Nat) : Int)) ≤ (if (8 : Int) < ((k2 : Nat) : Int) then 8 else ((k2 : Nat) : Int))) ∧
  R (.returned (.slice (X.cutA (q4) ((if (8 : Int) < ((k2 : Nat) : Int) then 8 else ((k2 : Nat) : Int))).toNat 0 4) ((if (8 : Int) < ((k2 : Nat) : Int) then 8 else ((k2 : Nat) : Int))).toNat ((if (8 : Int) < ((k2 : Nat) : Int) then 8 else ((k2 : Nat) : Int))).toNat)) w) :
    Calls Try.prog 31 #[.pointer (some a)] w R :=
  X.calls_of { isLoc := [], sym := [], loops := [], joins := [] } Try.func31 (by kernel_rfl) h
abbrev fn_link_sent_due : Nat := 32
theorem x_link_sent_due (a_0 : Int) (a_1 : Option Addr) (a_1l a_1c : Nat) (a_2 : Bool) (a_3 b c : Int) (w : World) (R : Ending → World → Prop) (h :
  ∀ w1 : World, (X.Hid [] w w1) →
  R (.returned (.bool ((!a_2) || (decide (b ≥ a_3) && decide ((IntKind.wrap .u64 ((IntKind.wrap .u64 b) - (IntKind.wrap .u64 a_3))) ≥ (IntKind.wrap .u64 c)))))) w1) :
    Calls Try.prog 32 #[.agg #[.int .u64 a_0, .slice a_1 a_1l a_1c, .bool a_2, .int .i64 a_3], .int .i64 b, .int .i64 c] w R :=
  X.calls_of { isLoc := [3], sym := [], loops := [], joins := [] } Try.func32 (by kernel_rfl) h
abbrev fn_link_Link_acked : Nat := 34
theorem x_link_Link_acked (a : Addr) (b : Int) (w : World) (R : Ending → World → Prop) (h :
  ∃ n1 : Int, (World.cell? w (a.add 5) = some (.int .u64 n1)) ∧
  if (decide (b > n1)) = true then
   R (.returned (.tuple #[])) w
  else
   ∃ x2 : Int → World → List Nat → Prop, ∃ x3 : Int → World → Nat, (x2 0 w []) ∧
   ∀ n4 : Int, ∀ w5 : World, ∀ L6 : List Nat, (X.LF (w).heap.size w5 L6) →
   (x2 n4 w5 L6) →
   ∃ q7 : Option Addr, ∃ k8 : Nat, ∃ k9 : Nat, (World.cell? w5 (a.add 7) = some (.slice (q7) k8 k9)) ∧
   if ((decide (n4 < ((k8 : Nat) : Int))) == true) = true then
    ∃ q13 : Option Addr, ∃ k14 : Nat, ∃ k15 : Nat, (World.cell? w5 (a.add 7) = some (.slice (q13) k14 k15)) ∧
    ((0 : Int) ≤ n4) ∧
    (n4 < ((k14 : Nat) : Int)) ∧
    X.onSome (q13) fun p16 =>
    ∃ n17 : Int, (World.cell? w5 ((p16.add ((n4).toNat * 4)).add 0) = some (.int .u64 n17)) ∧
    if (true && decide (n17 < b)) = true then
     (x2 (IntKind.wrap .i64 (n4 + 1)) w5 []) ∧
     Nat.le ((x3 (IntKind.wrap .i64 (n4 + 1)) w5) + 1) (x3 n4 w5)
    else
     ∃ q18 : Option Addr, ∃ k19 : Nat, ∃ k20 : Nat, (World.cell? w5 (a.add 7) = some (.slice (q18) k19 k20)) ∧
     ((0 : Int) ≤ n4) ∧
     (n4 ≤ ((k19 : Nat) : Int)) ∧
     ((none : Option Nat) = none) ∧
     (World.there w5 (a.block) ((a.off) + 7) 1) ∧
     R (.returned (.tuple #[])) (w5.setCells (a.block) ((a.off) + 7) [(.slice (X.cutA (q18) k20 (n4).toNat 4) (k19 - (n4).toNat) (k20 - (n4).toNat))])
   else
    ∃ q10 : Option Addr, ∃ k11 : Nat, ∃ k12 : Nat, (World.cell? w5 (a.add 7) = some (.slice (q10) k11 k12)) ∧
    ((0 : Int) ≤ n4) ∧
    (n4 ≤ ((k11 : Nat) : Int)) ∧
    ((none : Option Nat) = none) ∧
    (World.there w5 (a.block) ((a.off) + 7) 1) ∧
    R (.returned (.tuple #[])) (w5.setCells (a.block) ((a.off) + 7) [(.slice (X.cutA (q10) k12 (n4).toNat 4) (k11 - (n4).toNat) (k12 - (n4).toNat))])) :
    Calls Try.prog 34 #[.pointer (some a), .int .u64 b] w R :=
  X.calls_of { isLoc := [], sym := [], loops := [(2, .inv [(4, .int .i64)] [] true)], joins := [] } Try.func34 (by kernel_rfl) h
abbrev fn_link_Link_come : Nat := 35
theorem x_link_Link_come (a : Addr) (b : Option Addr) (bl bc : Nat) (w : World) (R : Ending → World → Prop) (h :
  ∃ n1 : Int, (World.cell? (w.alloc (.cells #[(.slice (b) bl bc)] 35)) (a.add 6) = some (.int .u64 n1)) ∧
  ((none : Option Nat) = none) ∧
  (World.there (w.alloc (.cells #[(.slice (b) bl bc)] 35)) (a.block) ((a.off) + 6) 1) ∧
  ∃ x2 : Option Addr → Nat → Nat → World → List Nat → Prop, ∃ x3 : Option Addr → Nat → Nat → World → Nat, (x2 (some (Addr.mk w.heap.size 0 none)) 1 1 ((w.alloc (.cells #[(.slice (b) bl bc)] 35)).setCells (a.block) ((a.off) + 6) [(.int .u64 (IntKind.wrap .u64 (n1 + 1)))]) []) ∧
  ∀ q4 : Option Addr, ∀ k5 : Nat, ∀ k6 : Nat, ∀ w7 : World, ∀ L8 : List Nat, (X.LF (w).heap.size w7 L8) →
  (x2 q4 k5 k6 w7 L8) →
  ∃ x9 : X.Facts, (X.FactsW x9 w7 []) ∧
  ∃ q10 : Option Nat, (((a.add 8), [(.map (q10))]) ∈ x9) ∧
  ∃ n11 : Int, (((a.add 6), [(.int .u64 n11)]) ∈ x9) ∧
  ∀ w12 : World, (X.Hid [] w7 w12) →
  ∃ q13 : Option Addr, ∃ k14 : Nat, ∃ k15 : Nat, ∃ b16 : Bool, ∃ w17 : World, (Sem.run Try.prog (Go.Instr.lookup 80 (.map (q10)) (.int .u64 n11) true) w12 = .ok (.tuple #[(.slice (q13) k14 k15), (.bool b16)]) w17) ∧
  ((w12).heap.size ≤ (w17).heap.size) ∧
  (X.FactsW x9 w17 []) ∧
  if (!b16) = true then
   R (.returned (.slice (q4) k5 k6)) w17
  else
   ∃ x18 : X.Facts, (X.FactsW x18 w17 []) ∧
   ∃ q19 : Option Nat, (((a.add 8), [(.map (q19))]) ∈ x18) ∧
   ∃ n20 : Int, (((a.add 6), [(.int .u64 n20)]) ∈ x18) ∧
   ∀ w21 : World, (X.Hid [] w17 w21) →
   ∃ w22 : World, (Sem.run Try.prog (Go.Builtin.delete_ #[80, 25] 0 #[(.map (q19)), (.int .u64 n20)]) w21 = .ok (.tuple #[]) w22) ∧
   ((w21).heap.size ≤ (w22).heap.size) ∧
   ∃ q23 : Option Addr, ∃ k24 : Nat, ∃ k25 : Nat, ∃ w26 : World, (Sem.run Try.prog (Go.Builtin.append_ #[50, 50] 50 #[(.slice (q4) k5 k6), (.slice (some ⟨(w22).heap.size, 0, none⟩) 1 1)]) (w22.alloc (.cells #[(.slice (q13) k14 k15)] 35)) = .ok (.slice (q23) k24 k25) w26) ∧
   (((w22.alloc (.cells #[(.slice (q13) k14 k15)] 35))).heap.size ≤ (w26).heap.size) ∧
   ∃ n27 : Int, (World.cell? w26 (a.add 6) = some (.int .u64 n27)) ∧
   ((none : Option Nat) = none) ∧
   (World.there w26 (a.block) ((a.off) + 6) 1) ∧
   (x2 q23 k24 k25 (w26.setCells (a.block) ((a.off) + 6) [(.int .u64 (IntKind.wrap .u64 (n27 + 1)))]) []) ∧
   Nat.le ((x3 q23 k24 k25 (w26.setCells (a.block) ((a.off) + 6) [(.int .u64 (IntKind.wrap .u64 (n27 + 1)))])) + 1) (x3 q4 k5 k6 w7)) :
    Calls Try.prog 35 #[.pointer (some a), .slice b bl bc] w R :=
  X.calls_of { isLoc := [], sym := [], loops := [(4, .inv [(5, .slice)] [] true)], joins := [] } Try.func35 (by kernel_rfl) h
abbrev fn_nil_Send : Nat := 13
theorem x_nil_Send (b : Option Addr) (bl bc : Nat) (w : World) (R : Ending → World → Prop) (h :
  X.CallX Try.prog 29 #[(.pointer none)] w fun e1 w2 =>
   ∃ b3 : Bool, (e1 = .returned (.bool b3)) ∧
   ((w).heap.size ≤ (w2).heap.size) ∧
   if b3 = true then
    R (.returned (.int .i64 1)) w2
   else
    False) :
    Calls Try.prog 13 #[.pointer none, .slice b bl bc] w R :=
  X.calls_of { isLoc := [], sym := [], loops := [], joins := [] } Try.func13 (by kernel_rfl) h
abbrev fn_nil_Out : Nat := 16
theorem x_nil_Out (b : Int) (w : World) (R : Ending → World → Prop) (h :
  X.CallX Try.prog 29 #[(.pointer none)] w fun e1 w2 =>
   ∃ b3 : Bool, (e1 = .returned (.bool b3)) ∧
   ((w).heap.size ≤ (w2).heap.size) ∧
   if b3 = true then
    R (.returned (.slice none 0 0)) w2
   else
    ∃ x4 : X.Facts, (X.FactsW x4 w2 []) ∧
    False) :
    Calls Try.prog 16 #[.pointer none, .int .i64 b] w R :=
  X.calls_of { isLoc := [6, 8, 9], sym := [], loops := [(6, .inv [(5, .slice), (28, .int .i64)] [] true)], joins := [], stored := [(4, [6]), (11, [9])] } Try.func16 (by kernel_rfl) h
abbrev fn_nil_Hear : Nat := 19
theorem x_nil_Hear (b_0 b_1 b_2 b_3 b_4 b_5 : Int) (b_6 : Bool) (b_7 : Option Addr) (b_7l b_7c : Nat) (w : World) (R : Ending → World → Prop) (h :
  ∃ x1 : X.Facts, (X.FactsW x1 w []) ∧
  ∀ w2 : World, ∀ L3 : List Nat, (X.Hid [] w w2) →
  (X.NewL (w).heap.size [] w w2 L3) →
  X.CallX Try.prog 29 #[(.pointer none)] w2 fun e4 w5 =>
   ∃ b6 : Bool, (e4 = .returned (.bool b6)) ∧
   (X.Kept L3 w2 w5) ∧
   (X.FactsW x1 w5 (L3)) ∧
   ∃ x7 : X.Facts, (X.FactsW x7 w5 (L3)) ∧
   (∀ x8 : Addr × List Value, (x8 ∈ x1) →
    x8 ∈ x7) ∧
   if (b6 == false) = true then
    False
   else
    ∃ x9 : X.Facts, (X.FactsW x9 w5 (L3)) ∧
    (∀ x10 : Addr × List Value, (x10 ∈ x7) →
     x10 ∈ x9) ∧
    R (.returned (.slice none 0 0)) w5) :
    Calls Try.prog 19 #[.pointer none, .agg #[.int .u8 b_0, .int .u16 b_1, .int .u8 b_2, .int .u16 b_3, .int .u64 b_4, .int .u64 b_5, .bool b_6, .slice b_7 b_7l b_7c]] w R :=
  X.calls_of { isLoc := [3], sym := [], loops := [], joins := [] } Try.func19 (by kernel_rfl) h
abbrev fn_nil_Waiting : Nat := 22
theorem x_nil_Waiting  (w : World) (R : Ending → World → Prop) (h :
  X.CallX Try.prog 29 #[(.pointer none)] w fun e1 w2 =>
   ∃ b3 : Bool, (e1 = .returned (.bool b3)) ∧
   ((w).heap.size ≤ (w2).heap.size) ∧
   if b3 = true then
    R (.returned (.int .i64 0)) w2
   else
    False) :
    Calls Try.prog 22 #[.pointer none] w R :=
  X.calls_of { isLoc := [], sym := [], loops := [], joins := [] } Try.func22 (by kernel_rfl) h
abbrev fn_nil_Idle : Nat := 23
theorem x_nil_Idle  (w : World) (R : Ending → World → Prop) (h :
  X.CallX Try.prog 29 #[(.pointer none)] w fun e1 w2 =>
   ∃ b3 : Bool, (e1 = .returned (.bool b3)) ∧
   ((w).heap.size ≤ (w2).heap.size) ∧
   if ((!b3) == true) = true then
    False
   else
    R (.returned (.bool false)) w2) :
    Calls Try.prog 23 #[.pointer none] w R :=
  X.calls_of { isLoc := [], sym := [], loops := [], joins := [] } Try.func23 (by kernel_rfl) h
abbrev fn_nil_Want : Nat := 24
theorem x_nil_Want  (w : World) (R : Ending → World → Prop) (h :
  X.CallX Try.prog 29 #[(.pointer none)] w fun e1 w2 =>
   ∃ b3 : Bool, (e1 = .returned (.bool b3)) ∧
   ((w).heap.size ≤ (w2).heap.size) ∧
   if b3 = true then
    R (.returned (.int .u64 0)) w2
   else
    False) :
    Calls Try.prog 24 #[.pointer none] w R :=
  X.calls_of { isLoc := [], sym := [], loops := [], joins := [] } Try.func24 (by kernel_rfl) h
abbrev fn_nil_none : Nat := 29
theorem x_nil_none  (w : World) (R : Ending → World → Prop) (h :
  R (.returned (.bool true)) w) :
    Calls Try.prog 29 #[.pointer none] w R :=
  X.calls_of { isLoc := [], sym := [], loops := [], joins := [] } Try.func29 (by kernel_rfl) h
end Go.Proofs
