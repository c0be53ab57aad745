import Derived.Test.YtamnhlkaknjcaaaXFn
import Derived.Test.YtamnhlkaknjcaaaProg
/- The verification conditions of this seat's functions, as the engine has them: printed by a program of the bench; checked by the kernel. -/
set_option maxRecDepth 100000
set_option linter.unusedVariables false
namespace Go.Proofs
open Go
abbrev fn_gemotlaw09_WheelOnce : Nat := 4
theorem x_gemotlaw09_WheelOnce (a : Option Addr) (al ac : Nat) (b : Option Addr) (bl bc : Nat) (w : World) (R : Ending → World → Prop) (h :
  if ((decide (((al : Nat) : Int) > 60) || decide (((bl : Nat) : Int) > 60)) == false) = true then
   X.CallX Try.prog 10 #[] w fun e4 w5 =>
    ∃ b6 : Bool, (e4 = .returned (.bool b6)) ∧
    ((w).heap.size ≤ (w5).heap.size) ∧
    if (false || (!b6)) = true then
     X.CallX Try.prog 10 #[] w5 fun e72 w73 =>
      ∃ b74 : Bool, (e72 = .returned (.bool b74)) ∧
      ((w5).heap.size ≤ (w73).heap.size) ∧
      R (.returned (.bool b74)) w73
    else
     X.CallX Try.prog 11 #[(.int .i64 100)] w5 fun e7 w8 =>
      ∃ q9 : Option Addr, (e7 = .returned (.pointer (q9))) ∧
      ((w5).heap.size ≤ (w8).heap.size) ∧
      ∃ x10 : Int → World → List Nat → Prop, ∃ x11 : Int → World → Nat, (x10 0 w8 []) ∧
      ∀ n12 : Int, ∀ w13 : World, ∀ L14 : List Nat, (X.LF (w).heap.size w13 L14) →
      (x10 n12 w13 L14) →
      if (decide (n12 < ((al : Nat) : Int))) = true then
       ((0 : Int) ≤ n12) ∧
       (n12 < ((al : Nat) : Int)) ∧
       X.onSome (a) fun p64 =>
       ∃ n65 : Int, (World.cell? w13 (p64.add ((n12).toNat * 1)) = some (.int .i64 n65)) ∧
       X.CallX Try.prog 13 #[(.pointer (q9)), (.agg #[(.int .u8 (IntKind.wrap .u8 n12)), (.int .u8 0), (.int .u16 0), (.int .u8 0), (.int .u16 0), (.int .u32 0), (.int .u8 0), (.int .u8 0), (.int .u8 0), (.int .u8 0), (.int .u8 0), (.int .u8 0), (.int .u8 0)]), (.int .i64 n65)] w13 fun e66 w67 =>
        ∃ n68 : Int, (e66 = .returned (.int .i64 n68)) ∧
        ((w13).heap.size ≤ (w67).heap.size) ∧
        X.CallX Try.prog 12 #[(.int .i64 n68)] w67 fun e69 w70 =>
         ∃ n71 : Int, (e69 = .returned (.int .i64 n71)) ∧
         ((w67).heap.size ≤ (w70).heap.size) ∧
         if (n71 != 0) = true then
          R (.returned (.bool false)) w70
         else
          (x10 (IntKind.wrap .i64 (n12 + 1)) w70 []) ∧
          Nat.le ((x11 (IntKind.wrap .i64 (n12 + 1)) w70) + 1) (x11 n12 w13)
      else
       ∃ x15 : Int → World → List Nat → Prop, ∃ x16 : Int → World → Nat, (x15 0 (w13.alloc (.cells #[(.bool false), (.bool false), (.bool false), (.bool false), (.bool false), (.bool false), (.bool false), (.bool false), (.bool false), (.bool false), (.bool false), (.bool false), (.bool false), (.bool false), (.bool false), (.bool false), (.bool false), (.bool false), (.bool false), (.bool false), (.bool false), (.bool false), (.bool false), (.bool false), (.bool false), (.bool false), (.bool false), (.bool false), (.bool false), (.bool false), (.bool false), (.bool false), (.bool false), (.bool false), (.bool false), (.bool false), (.bool false), (.bool false), (.bool false), (.bool false), (.bool false), (.bool false), (.bool false), (.bool false), (.bool false), (.bool false), (.bool false), (.bool false), (.bool false), (.bool false), (.bool false), (.bool false), (.bool false), (.bool false), (.bool false), (.bool false), (.bool false), (.bool false), (.bool false), (.bool false)] 51)) []) ∧
       ∀ n17 : Int, ∀ w18 : World, ∀ L19 : List Nat, (X.LF (w).heap.size w18 L19) →
       (x15 n17 w18 L19) →
       if (decide (n17 < ((bl : Nat) : Int))) = true then
        ((0 : Int) ≤ n17) ∧
        (n17 < ((bl : Nat) : Int)) ∧
        X.onSome (b) fun p20 =>
        ∃ n21 : Int, (World.cell? w18 (p20.add ((n17).toNat * 1)) = some (.int .i64 n21)) ∧
        X.CallX Try.prog 14 #[(.pointer (q9)), (.int .i64 n21)] w18 fun e22 w23 =>
         ∃ q24 : Option Addr, ∃ k25 : Nat, ∃ k26 : Nat, (e22 = .returned (.slice (q24) k25 k26)) ∧
         ((w18).heap.size ≤ (w23).heap.size) ∧
         ∃ x27 : Int → World → List Nat → Prop, ∃ x28 : Int → World → Nat, (x27 0 w23 []) ∧
         ∀ n29 : Int, ∀ w30 : World, ∀ L31 : List Nat, (X.LF (w).heap.size w30 L31) →
         (x27 n29 w30 L31) →
         if (decide (n29 < ((k25 : Nat) : Int))) = true then
          ((0 : Int) ≤ n29) ∧
          (n29 < ((k25 : Nat) : Int)) ∧
          X.onSome (q24) fun p45 =>
          ∃ n46 : Int, (World.cell? w30 ((p45.add ((n29).toNat * 13)).add 0) = some (.int .u8 n46)) ∧
          if ((decide ((IntKind.wrap .i64 n46) ≥ ((al : Nat) : Int))) == false) = true then
           ((0 : Int) ≤ (IntKind.wrap .i64 n46)) ∧
           ((IntKind.wrap .i64 n46) < 60) ∧
           ∃ b48 : Bool, (World.cell? w30 ((⟨(w13).heap.size, 0, none⟩ : Addr).add (((IntKind.wrap .i64 n46)).toNat * 1)) = some (.bool b48)) ∧
           if ((false || b48) == false) = true then
            ((0 : Int) ≤ (IntKind.wrap .i64 n46)) ∧
            ((IntKind.wrap .i64 n46) < ((al : Nat) : Int)) ∧
            X.onSome (a) fun p50 =>
            ∃ n51 : Int, (World.cell? w30 (p50.add (((IntKind.wrap .i64 n46)).toNat * 1)) = some (.int .i64 n51)) ∧
            ((0 : Int) ≤ n17) ∧
            (n17 < ((bl : Nat) : Int)) ∧
            X.onSome (b) fun p52 =>
            ∃ n53 : Int, (World.cell? w30 (p52.add ((n17).toNat * 1)) = some (.int .i64 n53)) ∧
            if ((false || decide (n51 > n53)) == false) = true then
             if ((decide (n29 > 0)) == true) = true then
              ((0 : Int) ≤ (IntKind.wrap .i64 (n29 - 1))) ∧
              ((IntKind.wrap .i64 (n29 - 1)) < ((k25 : Nat) : Int)) ∧
              X.onSome (q24) fun p56 =>
              ∃ n57 : Int, (World.cell? w30 ((p56.add (((IntKind.wrap .i64 (n29 - 1))).toNat * 13)).add 0) = some (.int .u8 n57)) ∧
              ((0 : Int) ≤ n57) ∧
              (n57 < ((al : Nat) : Int)) ∧
              X.onSome (a) fun p58 =>
              ∃ n59 : Int, (World.cell? w30 (p58.add ((n57).toNat * 1)) = some (.int .i64 n59)) ∧
              ((0 : Int) ≤ (IntKind.wrap .i64 n46)) ∧
              ((IntKind.wrap .i64 n46) < ((al : Nat) : Int)) ∧
              X.onSome (a) fun p60 =>
              ∃ n61 : Int, (World.cell? w30 (p60.add (((IntKind.wrap .i64 n46)).toNat * 1)) = some (.int .i64 n61)) ∧
              if (false || (true && decide (n59 > n61))) = true then
               ∀ w63 : World, (X.Hid [] w30 w63) →
               R (.returned (.bool false)) w63
              else
               ((0 : Int) ≤ (IntKind.wrap .i64 n46)) ∧
               ((IntKind.wrap .i64 n46) < 60) ∧
               ∀ w62 : World, (X.Hid [] w30 w62) →
               ((((Addr.mk w13.heap.size 0 none).add ((IntKind.i64.wrap n46).toNat * 1)).spot) = none) ∧
               (World.there w62 (((Addr.mk w13.heap.size 0 none).add ((IntKind.i64.wrap n46).toNat * 1)).block) (((Addr.mk w13.heap.size 0 none).add ((IntKind.i64.wrap n46).toNat * 1)).off) 1) ∧
               (x27 (IntKind.wrap .i64 (n29 + 1)) (w62.setCells (((Addr.mk w13.heap.size 0 none).add ((IntKind.i64.wrap n46).toNat * 1)).block) (((Addr.mk w13.heap.size 0 none).add ((IntKind.i64.wrap n46).toNat * 1)).off) [(.bool true)]) []) ∧
               Nat.le ((x28 (IntKind.wrap .i64 (n29 + 1)) (w62.setCells (((Addr.mk w13.heap.size 0 none).add ((IntKind.i64.wrap n46).toNat * 1)).block) (((Addr.mk w13.heap.size 0 none).add ((IntKind.i64.wrap n46).toNat * 1)).off) [(.bool true)])) + 1) (x28 n29 w30)
             else
              ((0 : Int) ≤ (IntKind.wrap .i64 n46)) ∧
              ((IntKind.wrap .i64 n46) < 60) ∧
              ∀ w55 : World, (X.Hid [] w30 w55) →
              ((((Addr.mk w13.heap.size 0 none).add ((IntKind.i64.wrap n46).toNat * 1)).spot) = none) ∧
              (World.there w55 (((Addr.mk w13.heap.size 0 none).add ((IntKind.i64.wrap n46).toNat * 1)).block) (((Addr.mk w13.heap.size 0 none).add ((IntKind.i64.wrap n46).toNat * 1)).off) 1) ∧
              (x27 (IntKind.wrap .i64 (n29 + 1)) (w55.setCells (((Addr.mk w13.heap.size 0 none).add ((IntKind.i64.wrap n46).toNat * 1)).block) (((Addr.mk w13.heap.size 0 none).add ((IntKind.i64.wrap n46).toNat * 1)).off) [(.bool true)]) []) ∧
              Nat.le ((x28 (IntKind.wrap .i64 (n29 + 1)) (w55.setCells (((Addr.mk w13.heap.size 0 none).add ((IntKind.i64.wrap n46).toNat * 1)).block) (((Addr.mk w13.heap.size 0 none).add ((IntKind.i64.wrap n46).toNat * 1)).off) [(.bool true)])) + 1) (x28 n29 w30)
            else
             ∀ w54 : World, (X.Hid [] w30 w54) →
             R (.returned (.bool false)) w54
           else
            ∀ w49 : World, (X.Hid [] w30 w49) →
            R (.returned (.bool false)) w49
          else
           ∀ w47 : World, (X.Hid [] w30 w47) →
           R (.returned (.bool false)) w47
         else
          ∃ x32 : Int → World → List Nat → Prop, ∃ x33 : Int → World → Nat, (x32 0 w30 []) ∧
          ∀ n34 : Int, ∀ w35 : World, ∀ L36 : List Nat, (X.LF (w).heap.size w35 L36) →
          (x32 n34 w35 L36) →
          if (decide (n34 < ((al : Nat) : Int))) = true then
           ((0 : Int) ≤ n34) ∧
           (n34 < 60) ∧
           ∃ b37 : Bool, (World.cell? w35 ((⟨(w13).heap.size, 0, none⟩ : Addr).add ((n34).toNat * 1)) = some (.bool b37)) ∧
           if ((!b37) == true) = true then
            ((0 : Int) ≤ n34) ∧
            (n34 < ((al : Nat) : Int)) ∧
            X.onSome (a) fun p39 =>
            ∃ n40 : Int, (World.cell? w35 (p39.add ((n34).toNat * 1)) = some (.int .i64 n40)) ∧
            ((0 : Int) ≤ n17) ∧
            (n17 < ((bl : Nat) : Int)) ∧
            X.onSome (b) fun p41 =>
            ∃ n42 : Int, (World.cell? w35 (p41.add ((n17).toNat * 1)) = some (.int .i64 n42)) ∧
            if (true && decide (n40 ≤ n42)) = true then
             ∀ w44 : World, (X.Hid [] w35 w44) →
             R (.returned (.bool false)) w44
            else
             ∀ w43 : World, (X.Hid [] w35 w43) →
             (x32 (IntKind.wrap .i64 (n34 + 1)) w43 []) ∧
             Nat.le ((x33 (IntKind.wrap .i64 (n34 + 1)) w43) + 1) (x33 n34 w35)
           else
            ∀ w38 : World, (X.Hid [] w35 w38) →
            (x32 (IntKind.wrap .i64 (n34 + 1)) w38 []) ∧
            Nat.le ((x33 (IntKind.wrap .i64 (n34 + 1)) w38) + 1) (x33 n34 w35)
          else
           (x15 (IntKind.wrap .i64 (n17 + 1)) w35 []) ∧
           Nat.le ((x16 (IntKind.wrap .i64 (n17 + 1)) w35) + 1) (x16 n17 w18)
       else
        R (.returned (.bool true)) w18
  else
   X.CallX Try.prog 10 #[] w fun e1 w2 =>
    ∃ b3 : Bool, (e1 = .returned (.bool b3)) ∧
    ((w).heap.size ≤ (w2).heap.size) ∧
    R (.returned (.bool b3)) w2) :
    Calls Try.prog 4 #[.slice a al ac, .slice b bl bc] w R :=
  X.calls_of { isLoc := [], sym := [74, 109, 117], loops := [(5, .inv [(6, .int .i64)] [] true), (11, .inv [(8, .int .i64)] [] true), (15, .inv [(10, .int .i64)] [] true), (22, .inv [(12, .int .i64)] [] true)], joins := [] } Try.func4 (by kernel_rfl) h
end Go.Proofs
