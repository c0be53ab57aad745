import Derived.Test.YtjphfelmaingjaaXFn
import Derived.Test.YtjphfelmaingjaaProg
set_option maxRecDepth 100000
set_option linter.unusedVariables false
/- The verification conditions of this seat's functions, as the engine has them: printed by a program of the bench; checked by the kernel. -/
namespace Go.Proofs
open Go
abbrev fn_Frame : Nat := 18
theorem x_Frame (a_0 a_1 a_2 a_3 a_4 a_5 : Int) (a_6 : Bool) (a_7 : Option Addr) (a_7l a_7c : Nat) (w : World) (R : Ending → World → Prop) (h :
  ∀ w1 : World, ∀ L2 : List Nat, (X.Hid [] w w1) →
  (X.NewL (w).heap.size [] w w1 L2) →
  X.CallX Try.prog 52 #[(.agg #[(.int .u8 a_0), (.int .u16 a_1)])] w1 fun e3 w4 =>
   ∃ b5 : Bool, (e3 = .returned (.bool b5)) ∧
   (X.Kept L2 w1 w4) ∧
   if ((!b5) == false) = true then
    X.CallX Try.prog 52 #[(.agg #[(.int .u8 a_2), (.int .u16 a_3)])] w4 fun e6 w7 =>
     ∃ b8 : Bool, (e6 = .returned (.bool b8)) ∧
     (X.Kept L2 w4 w7) ∧
     if ((false || (!b8)) || ((!a_6) && decide (((a_7l : Nat) : Int) > 0))) = true then
      R (.returned (.tuple #[(.slice none 0 0), (.int .i64 1)])) w7
     else
      ∃ x9 : X.Facts, (X.FactsW x9 (w7.alloc (.cells #[(.slice none 0 0)] 119)) (L2)) ∧
      ∀ w10 : World, ∀ L11 : List Nat, (X.Hid (L2) (w7.alloc (.cells #[(.slice none 0 0)] 119)) w10) →
      (X.NewL (w).heap.size (L2) (w7.alloc (.cells #[(.slice none 0 0)] 119)) w10 L11) →
      X.CallX Try.prog 53 #[(.pointer (some ⟨(w7).heap.size, 0, none⟩)), (.agg #[(.int .u8 a_0), (.int .u16 a_1)])] w10 fun e12 w13 =>
       (e12 = .returned (.tuple #[])) ∧
       (X.Kept L11 w10 w13) ∧
       ∃ x14 : X.Facts, (X.FactsW x14 w13 (L11)) ∧
       ∀ w15 : World, ∀ L16 : List Nat, (X.Hid (L11) w13 w15) →
       (X.NewL (w).heap.size (L11) w13 w15 L16) →
       X.CallX Try.prog 53 #[(.pointer (some ⟨(w7).heap.size, 0, none⟩)), (.agg #[(.int .u8 a_2), (.int .u16 a_3)])] w15 fun e17 w18 =>
        (e17 = .returned (.tuple #[])) ∧
        (X.Kept L16 w15 w18) ∧
        ∃ x19 : X.Facts, (X.FactsW x19 w18 (L16)) ∧
        ∀ w20 : World, ∀ L21 : List Nat, (X.Hid (L16) w18 w20) →
        (X.NewL (w).heap.size (L16) w18 w20 L21) →
        X.CallX Try.prog 54 #[(.pointer (some ⟨(w7).heap.size, 0, none⟩)), (.int .u64 a_4)] w20 fun e22 w23 =>
         (e22 = .returned (.tuple #[])) ∧
         (X.Kept L21 w20 w23) ∧
         ∃ x24 : X.Facts, (X.FactsW x24 w23 (L21)) ∧
         ∀ w25 : World, ∀ L26 : List Nat, (X.Hid (L21) w23 w25) →
         (X.NewL (w).heap.size (L21) w23 w25 L26) →
         X.CallX Try.prog 54 #[(.pointer (some ⟨(w7).heap.size, 0, none⟩)), (.int .u64 a_5)] w25 fun e27 w28 =>
          (e27 = .returned (.tuple #[])) ∧
          (X.Kept L26 w25 w28) ∧
          X.CallX Try.prog 55 #[(.pointer (some ⟨(w7).heap.size, 0, none⟩)), (.bool a_6)] w28 fun e29 w30 =>
           (e29 = .returned (.tuple #[])) ∧
           (X.Kept L26 w28 w30) ∧
           if a_6 = true then
            ∃ x41 : X.Facts, (X.FactsW x41 w30 (L26)) ∧
            ∀ w42 : World, ∀ L43 : List Nat, (X.Hid (L26) w30 w42) →
            (X.NewL (w).heap.size (L26) w30 w42 L43) →
            ∃ s44 : ByteArray, ∃ w45 : World, (Sem.run Try.prog (Go.convert 66 9 (.slice (a_7) a_7l a_7c)) w42 = .ok (.string s44) w45) ∧
            (X.Kept L43 w42 w45) ∧
            (X.FactsW x41 w45 (L43)) ∧
            X.CallX Try.prog 56 #[(.pointer (some ⟨(w7).heap.size, 0, none⟩)), (.string s44)] w45 fun e46 w47 =>
             (e46 = .returned (.tuple #[])) ∧
             (X.Kept L43 w45 w47) ∧
             (X.FactsW x41 w47 (L43)) ∧
             X.CallX Try.prog 58 #[(.pointer (some ⟨(w7).heap.size, 0, none⟩))] w47 fun e48 w49 =>
              ∃ q50 : Option Addr, ∃ k51 : Nat, ∃ k52 : Nat, (e48 = .returned (.slice (q50) k51 k52)) ∧
              (X.Kept L43 w47 w49) ∧
              X.CallX Try.prog 57 #[(.slice (q50) k51 k52)] w49 fun e53 w54 =>
               ∃ q55 : Option Addr, ∃ k56 : Nat, ∃ k57 : Nat, (e53 = .returned (.slice (q55) k56 k57)) ∧
               (X.Kept L43 w49 w54) ∧
               if (decide (((k56 : Nat) : Int) > 524288)) = true then
                R (.returned (.tuple #[(.slice none 0 0), (.int .i64 5)])) w54
               else
                R (.returned (.tuple #[(.slice (q55) k56 k57), (.int .i64 0)])) w54
           else
            X.CallX Try.prog 58 #[(.pointer (some ⟨(w7).heap.size, 0, none⟩))] w30 fun e31 w32 =>
             ∃ q33 : Option Addr, ∃ k34 : Nat, ∃ k35 : Nat, (e31 = .returned (.slice (q33) k34 k35)) ∧
             (X.Kept L26 w30 w32) ∧
             X.CallX Try.prog 57 #[(.slice (q33) k34 k35)] w32 fun e36 w37 =>
              ∃ q38 : Option Addr, ∃ k39 : Nat, ∃ k40 : Nat, (e36 = .returned (.slice (q38) k39 k40)) ∧
              (X.Kept L26 w32 w37) ∧
              if (decide (((k39 : Nat) : Int) > 524288)) = true then
               R (.returned (.tuple #[(.slice none 0 0), (.int .i64 5)])) w37
              else
               R (.returned (.tuple #[(.slice (q38) k39 k40), (.int .i64 0)])) w37
   else
    R (.returned (.tuple #[(.slice none 0 0), (.int .i64 1)])) w4) :
    Calls Try.prog 18 #[.agg #[.int .u8 a_0, .int .u16 a_1, .int .u8 a_2, .int .u16 a_3, .int .u64 a_4, .int .u64 a_5, .bool a_6, .slice a_7 a_7l a_7c]] w R :=
  X.calls_of { isLoc := [1], sym := [], loops := [], joins := [] } Try.func18 (by kernel_rfl) h
abbrev fn_Unframe : Nat := 21
theorem x_Unframe (a : Option Addr) (al ac : Nat) (w : World) (R : Ending → World → Prop) (h :
  if (decide (((al : Nat) : Int) > 524288)) = true then
   ∀ w299 : World, (X.Hid [] w w299) →
   R (.returned (.tuple #[(.agg #[(.int .u8 0), (.int .u16 0), (.int .u8 0), (.int .u16 0), (.int .u64 0), (.int .u64 0), (.bool false), (.slice none 0 0)]), (.int .i64 5)])) w299
  else
   if ((decide ((IntKind.wrap .i64 (((al : Nat) : Int) - 4)) < 0)) == false) = true then
    ((0 : Int) ≤ (IntKind.wrap .i64 (((al : Nat) : Int) - 4))) ∧
    ((IntKind.wrap .i64 (((al : Nat) : Int) - 4)) ≤ ((ac : Nat) : Int)) ∧
    ∀ w2 : World, ∀ L3 : List Nat, (X.Hid [] w w2) →
    (X.NewL (w).heap.size [] w w2 L3) →
    X.CallX Try.prog 65 #[(.slice (X.cutA (a) ac 0 1) ((IntKind.wrap .i64 (((al : Nat) : Int) - 4))).toNat ac)] w2 fun e4 w5 =>
     ∃ q6 : Option Addr, ∃ k7 : Nat, ∃ k8 : Nat, (e4 = .returned (.slice (q6) k7 k8)) ∧
     (X.Kept L3 w2 w5) ∧
     X.CallX Try.prog 57 #[(.slice (q6) k7 k8)] w5 fun e9 w10 =>
      ∃ q11 : Option Addr, ∃ k12 : Nat, ∃ k13 : Nat, (e9 = .returned (.slice (q11) k12 k13)) ∧
      (X.Kept L3 w5 w10) ∧
      X.CallX Try.prog 64 #[(.slice (q11) k12 k13), (.slice (a) al ac)] w10 fun e14 w15 =>
       ∃ b16 : Bool, (e14 = .returned (.bool b16)) ∧
       (X.Kept L3 w10 w15) ∧
       if (false || (!b16)) = true then
        ∀ w298 : World, (X.Hid (L3) w15 w298) →
        R (.returned (.tuple #[(.agg #[(.int .u8 0), (.int .u16 0), (.int .u8 0), (.int .u16 0), (.int .u64 0), (.int .u64 0), (.bool false), (.slice none 0 0)]), (.int .i64 7)])) w298
       else
        ((0 : Int) ≤ (IntKind.wrap .i64 (((al : Nat) : Int) - 4))) ∧
        ((IntKind.wrap .i64 (((al : Nat) : Int) - 4)) ≤ ((ac : Nat) : Int)) ∧
        X.CallX Try.prog 66 #[(.slice (X.cutA (a) ac 0 1) ((IntKind.wrap .i64 (((al : Nat) : Int) - 4))).toNat ac)] w15 fun e17 w18 =>
         ∃ q19 : Option Addr, (e17 = .returned (.pointer (q19))) ∧
         (X.Kept L3 w15 w18) ∧
         ∃ x20 : X.Facts, (X.FactsW x20 w18 (L3)) ∧
         (∀ w21 : World, ∀ L22 : List Nat, (X.Hid (L3) w18 w21) →
          (X.NewL (w).heap.size (L3) w18 w21 L22) →
          X.CallX Try.prog 67 #[(.pointer (q19))] w21 fun e23 w24 =>
           ∃ n25 : Int, ∃ n26 : Int, (e23 = .returned (.agg #[(.int .u8 n25), (.int .u16 n26)])) ∧
           (X.Kept L22 w21 w24) ∧
           (X.FactsW x20 w24 (L22)) ∧
           (X.CallX Try.prog 67 #[(.pointer (q19))] w24 fun e27 w28 =>
             ∃ n29 : Int, ∃ n30 : Int, (e27 = .returned (.agg #[(.int .u8 n29), (.int .u16 n30)])) ∧
             (X.Kept L22 w24 w28) ∧
             (X.FactsW x20 w28 (L22)) ∧
             (X.CallX Try.prog 68 #[(.agg #[(.pointer (q19))])] w28 fun e31 w32 =>
               ∃ n33 : Int, (e31 = .returned (.int .u64 n33)) ∧
               (X.Kept L22 w28 w32) ∧
               (X.FactsW x20 w32 (L22)) ∧
               (X.CallX Try.prog 68 #[(.agg #[(.pointer (q19))])] w32 fun e34 w35 =>
                 ∃ n36 : Int, (e34 = .returned (.int .u64 n36)) ∧
                 (X.Kept L22 w32 w35) ∧
                 (X.FactsW x20 w35 (L22)) ∧
                 ∀ w37 : World, ∀ L38 : List Nat, (X.Hid (L22) w35 w37) →
                 (X.NewL (w).heap.size (L22) w35 w37 L38) →
                 X.CallX Try.prog 69 #[(.agg #[(.pointer (q19))])] w37 fun e39 w40 =>
                  ∃ b41 : Bool, (e39 = .returned (.bool b41)) ∧
                  (X.Kept L38 w37 w40) ∧
                  if b41 = true then
                   ∀ w57 : World, ∀ L58 : List Nat, (X.Hid (L38) w40 w57) →
                   (X.NewL (w).heap.size (L38) w40 w57 L58) →
                   X.CallX Try.prog 70 #[(.pointer (q19)), (.int .i64 524288)] w57 fun e59 w60 =>
                    ∃ s61 : ByteArray, (e59 = .returned (.string s61)) ∧
                    (X.Kept L58 w57 w60) ∧
                    ∃ q62 : Option Addr, ∃ k63 : Nat, ∃ k64 : Nat, ∃ w65 : World, (Sem.run Try.prog (Go.convert 9 66 (.string s61)) w60 = .ok (.slice (q62) k63 k64) w65) ∧
                    (X.Kept L58 w60 w65) ∧
                    ∀ w66 : World, ∀ L67 : List Nat, (X.Hid (L58) w65 w66) →
                    (X.NewL (w).heap.size (L58) w65 w66 L67) →
                    X.CallX Try.prog 71 #[(.pointer (q19))] w66 fun e68 w69 =>
                     ∃ n70 : Int, (e68 = .returned (.int .i64 n70)) ∧
                     (X.Kept L67 w66 w69) ∧
                     if (n70 != 0) = true then
                      ∀ w80 : World, (X.Hid (L67) w69 w80) →
                      R (.returned (.tuple #[(.agg #[(.int .u8 0), (.int .u16 0), (.int .u8 0), (.int .u16 0), (.int .u64 0), (.int .u64 0), (.bool false), (.slice none 0 0)]), (.int .i64 n70)])) w80
                     else
                      X.CallX Try.prog 52 #[(.agg #[(.int .u8 n25), (.int .u16 n26)])] w69 fun e71 w72 =>
                       ∃ b73 : Bool, (e71 = .returned (.bool b73)) ∧
                       (X.Kept L67 w69 w72) ∧
                       if ((!b73) == false) = true then
                        X.CallX Try.prog 52 #[(.agg #[(.int .u8 n29), (.int .u16 n30)])] w72 fun e75 w76 =>
                         ∃ b77 : Bool, (e75 = .returned (.bool b77)) ∧
                         (X.Kept L67 w72 w76) ∧
                         if (false || (!b77)) = true then
                          ∀ w79 : World, (X.Hid (L67) w76 w79) →
                          R (.returned (.tuple #[(.agg #[(.int .u8 0), (.int .u16 0), (.int .u8 0), (.int .u16 0), (.int .u64 0), (.int .u64 0), (.bool false), (.slice none 0 0)]), (.int .i64 6)])) w79
                         else
                          ∀ w78 : World, (X.Hid (L67) w76 w78) →
                          R (.returned (.tuple #[(.agg #[(.int .u8 n25), (.int .u16 n26), (.int .u8 n29), (.int .u16 n30), (.int .u64 n33), (.int .u64 n36), (.bool b41), (.slice (q62) k63 k64)]), (.int .i64 0)])) w78
                       else
                        ∀ w74 : World, (X.Hid (L67) w72 w74) →
                        R (.returned (.tuple #[(.agg #[(.int .u8 0), (.int .u16 0), (.int .u8 0), (.int .u16 0), (.int .u64 0), (.int .u64 0), (.bool false), (.slice none 0 0)]), (.int .i64 6)])) w74
                  else
                   ∀ w42 : World, ∀ L43 : List Nat, (X.Hid (L38) w40 w42) →
                   (X.NewL (w).heap.size (L38) w40 w42 L43) →
                   X.CallX Try.prog 71 #[(.pointer (q19))] w42 fun e44 w45 =>
                    ∃ n46 : Int, (e44 = .returned (.int .i64 n46)) ∧
                    (X.Kept L43 w42 w45) ∧
                    if (n46 != 0) = true then
                     ∀ w56 : World, (X.Hid (L43) w45 w56) →
                     R (.returned (.tuple #[(.agg #[(.int .u8 0), (.int .u16 0), (.int .u8 0), (.int .u16 0), (.int .u64 0), (.int .u64 0), (.bool false), (.slice none 0 0)]), (.int .i64 n46)])) w56
                    else
                     X.CallX Try.prog 52 #[(.agg #[(.int .u8 n25), (.int .u16 n26)])] w45 fun e47 w48 =>
                      ∃ b49 : Bool, (e47 = .returned (.bool b49)) ∧
                      (X.Kept L43 w45 w48) ∧
                      if ((!b49) == false) = true then
                       X.CallX Try.prog 52 #[(.agg #[(.int .u8 n29), (.int .u16 n30)])] w48 fun e51 w52 =>
                        ∃ b53 : Bool, (e51 = .returned (.bool b53)) ∧
                        (X.Kept L43 w48 w52) ∧
                        if (false || (!b53)) = true then
                         ∀ w55 : World, (X.Hid (L43) w52 w55) →
                         R (.returned (.tuple #[(.agg #[(.int .u8 0), (.int .u16 0), (.int .u8 0), (.int .u16 0), (.int .u64 0), (.int .u64 0), (.bool false), (.slice none 0 0)]), (.int .i64 6)])) w55
                        else
                         ∀ w54 : World, (X.Hid (L43) w52 w54) →
                         R (.returned (.tuple #[(.agg #[(.int .u8 n25), (.int .u16 n26), (.int .u8 n29), (.int .u16 n30), (.int .u64 n33), (.int .u64 n36), (.bool b41), (.slice none 0 0)]), (.int .i64 0)])) w54
                      else
                       ∀ w50 : World, (X.Hid (L43) w48 w50) →
                       R (.returned (.tuple #[(.agg #[(.int .u8 0), (.int .u16 0), (.int .u8 0), (.int .u16 0), (.int .u64 0), (.int .u64 0), (.bool false), (.slice none 0 0)]), (.int .i64 6)])) w50) ∧
               ∀ w81 : World, ∀ L82 : List Nat, (X.Hid (L22) w32 w81) →
               (X.NewL (w).heap.size (L22) w32 w81 L82) →
               X.CallX Try.prog 68 #[(.agg #[(.pointer (q19))])] w81 fun e83 w84 =>
                ∃ n85 : Int, (e83 = .returned (.int .u64 n85)) ∧
                (X.Kept L82 w81 w84) ∧
                (X.FactsW x20 w84 (L82)) ∧
                ∀ w86 : World, ∀ L87 : List Nat, (X.Hid (L82) w84 w86) →
                (X.NewL (w).heap.size (L82) w84 w86 L87) →
                X.CallX Try.prog 69 #[(.agg #[(.pointer (q19))])] w86 fun e88 w89 =>
                 ∃ b90 : Bool, (e88 = .returned (.bool b90)) ∧
                 (X.Kept L87 w86 w89) ∧
                 if b90 = true then
                  ∀ w106 : World, ∀ L107 : List Nat, (X.Hid (L87) w89 w106) →
                  (X.NewL (w).heap.size (L87) w89 w106 L107) →
                  X.CallX Try.prog 70 #[(.pointer (q19)), (.int .i64 524288)] w106 fun e108 w109 =>
                   ∃ s110 : ByteArray, (e108 = .returned (.string s110)) ∧
                   (X.Kept L107 w106 w109) ∧
                   ∃ q111 : Option Addr, ∃ k112 : Nat, ∃ k113 : Nat, ∃ w114 : World, (Sem.run Try.prog (Go.convert 9 66 (.string s110)) w109 = .ok (.slice (q111) k112 k113) w114) ∧
                   (X.Kept L107 w109 w114) ∧
                   ∀ w115 : World, ∀ L116 : List Nat, (X.Hid (L107) w114 w115) →
                   (X.NewL (w).heap.size (L107) w114 w115 L116) →
                   X.CallX Try.prog 71 #[(.pointer (q19))] w115 fun e117 w118 =>
                    ∃ n119 : Int, (e117 = .returned (.int .i64 n119)) ∧
                    (X.Kept L116 w115 w118) ∧
                    if (n119 != 0) = true then
                     ∀ w129 : World, (X.Hid (L116) w118 w129) →
                     R (.returned (.tuple #[(.agg #[(.int .u8 0), (.int .u16 0), (.int .u8 0), (.int .u16 0), (.int .u64 0), (.int .u64 0), (.bool false), (.slice none 0 0)]), (.int .i64 n119)])) w129
                    else
                     X.CallX Try.prog 52 #[(.agg #[(.int .u8 n25), (.int .u16 n26)])] w118 fun e120 w121 =>
                      ∃ b122 : Bool, (e120 = .returned (.bool b122)) ∧
                      (X.Kept L116 w118 w121) ∧
                      if ((!b122) == false) = true then
                       X.CallX Try.prog 52 #[(.agg #[(.int .u8 n29), (.int .u16 n30)])] w121 fun e124 w125 =>
                        ∃ b126 : Bool, (e124 = .returned (.bool b126)) ∧
                        (X.Kept L116 w121 w125) ∧
                        if (false || (!b126)) = true then
                         ∀ w128 : World, (X.Hid (L116) w125 w128) →
                         R (.returned (.tuple #[(.agg #[(.int .u8 0), (.int .u16 0), (.int .u8 0), (.int .u16 0), (.int .u64 0), (.int .u64 0), (.bool false), (.slice none 0 0)]), (.int .i64 6)])) w128
                        else
                         ∀ w127 : World, (X.Hid (L116) w125 w127) →
                         R (.returned (.tuple #[(.agg #[(.int .u8 n25), (.int .u16 n26), (.int .u8 n29), (.int .u16 n30), (.int .u64 n33), (.int .u64 n85), (.bool b90), (.slice (q111) k112 k113)]), (.int .i64 0)])) w127
                      else
                       ∀ w123 : World, (X.Hid (L116) w121 w123) →
                       R (.returned (.tuple #[(.agg #[(.int .u8 0), (.int .u16 0), (.int .u8 0), (.int .u16 0), (.int .u64 0), (.int .u64 0), (.bool false), (.slice none 0 0)]), (.int .i64 6)])) w123
                 else
                  ∀ w91 : World, ∀ L92 : List Nat, (X.Hid (L87) w89 w91) →
                  (X.NewL (w).heap.size (L87) w89 w91 L92) →
                  X.CallX Try.prog 71 #[(.pointer (q19))] w91 fun e93 w94 =>
                   ∃ n95 : Int, (e93 = .returned (.int .i64 n95)) ∧
                   (X.Kept L92 w91 w94) ∧
                   if (n95 != 0) = true then
                    ∀ w105 : World, (X.Hid (L92) w94 w105) →
                    R (.returned (.tuple #[(.agg #[(.int .u8 0), (.int .u16 0), (.int .u8 0), (.int .u16 0), (.int .u64 0), (.int .u64 0), (.bool false), (.slice none 0 0)]), (.int .i64 n95)])) w105
                   else
                    X.CallX Try.prog 52 #[(.agg #[(.int .u8 n25), (.int .u16 n26)])] w94 fun e96 w97 =>
                     ∃ b98 : Bool, (e96 = .returned (.bool b98)) ∧
                     (X.Kept L92 w94 w97) ∧
                     if ((!b98) == false) = true then
                      X.CallX Try.prog 52 #[(.agg #[(.int .u8 n29), (.int .u16 n30)])] w97 fun e100 w101 =>
                       ∃ b102 : Bool, (e100 = .returned (.bool b102)) ∧
                       (X.Kept L92 w97 w101) ∧
                       if (false || (!b102)) = true then
                        ∀ w104 : World, (X.Hid (L92) w101 w104) →
                        R (.returned (.tuple #[(.agg #[(.int .u8 0), (.int .u16 0), (.int .u8 0), (.int .u16 0), (.int .u64 0), (.int .u64 0), (.bool false), (.slice none 0 0)]), (.int .i64 6)])) w104
                       else
                        ∀ w103 : World, (X.Hid (L92) w101 w103) →
                        R (.returned (.tuple #[(.agg #[(.int .u8 n25), (.int .u16 n26), (.int .u8 n29), (.int .u16 n30), (.int .u64 n33), (.int .u64 n85), (.bool b90), (.slice none 0 0)]), (.int .i64 0)])) w103
                     else
                      ∀ w99 : World, (X.Hid (L92) w97 w99) →
                      R (.returned (.tuple #[(.agg #[(.int .u8 0), (.int .u16 0), (.int .u8 0), (.int .u16 0), (.int .u64 0), (.int .u64 0), (.bool false), (.slice none 0 0)]), (.int .i64 6)])) w99) ∧
             ∀ w130 : World, ∀ L131 : List Nat, (X.Hid (L22) w28 w130) →
             (X.NewL (w).heap.size (L22) w28 w130 L131) →
             X.CallX Try.prog 68 #[(.agg #[(.pointer (q19))])] w130 fun e132 w133 =>
              ∃ n134 : Int, (e132 = .returned (.int .u64 n134)) ∧
              (X.Kept L131 w130 w133) ∧
              (X.FactsW x20 w133 (L131)) ∧
              X.CallX Try.prog 68 #[(.agg #[(.pointer (q19))])] w133 fun e135 w136 =>
               ∃ n137 : Int, (e135 = .returned (.int .u64 n137)) ∧
               (X.Kept L131 w133 w136) ∧
               (X.FactsW x20 w136 (L131)) ∧
               ∀ w138 : World, ∀ L139 : List Nat, (X.Hid (L131) w136 w138) →
               (X.NewL (w).heap.size (L131) w136 w138 L139) →
               X.CallX Try.prog 69 #[(.agg #[(.pointer (q19))])] w138 fun e140 w141 =>
                ∃ b142 : Bool, (e140 = .returned (.bool b142)) ∧
                (X.Kept L139 w138 w141) ∧
                if b142 = true then
                 ∀ w158 : World, ∀ L159 : List Nat, (X.Hid (L139) w141 w158) →
                 (X.NewL (w).heap.size (L139) w141 w158 L159) →
                 X.CallX Try.prog 70 #[(.pointer (q19)), (.int .i64 524288)] w158 fun e160 w161 =>
                  ∃ s162 : ByteArray, (e160 = .returned (.string s162)) ∧
                  (X.Kept L159 w158 w161) ∧
                  ∃ q163 : Option Addr, ∃ k164 : Nat, ∃ k165 : Nat, ∃ w166 : World, (Sem.run Try.prog (Go.convert 9 66 (.string s162)) w161 = .ok (.slice (q163) k164 k165) w166) ∧
                  (X.Kept L159 w161 w166) ∧
                  ∀ w167 : World, ∀ L168 : List Nat, (X.Hid (L159) w166 w167) →
                  (X.NewL (w).heap.size (L159) w166 w167 L168) →
                  X.CallX Try.prog 71 #[(.pointer (q19))] w167 fun e169 w170 =>
                   ∃ n171 : Int, (e169 = .returned (.int .i64 n171)) ∧
                   (X.Kept L168 w167 w170) ∧
                   if (n171 != 0) = true then
                    ∀ w181 : World, (X.Hid (L168) w170 w181) →
                    R (.returned (.tuple #[(.agg #[(.int .u8 0), (.int .u16 0), (.int .u8 0), (.int .u16 0), (.int .u64 0), (.int .u64 0), (.bool false), (.slice none 0 0)]), (.int .i64 n171)])) w181
                   else
                    X.CallX Try.prog 52 #[(.agg #[(.int .u8 n25), (.int .u16 n26)])] w170 fun e172 w173 =>
                     ∃ b174 : Bool, (e172 = .returned (.bool b174)) ∧
                     (X.Kept L168 w170 w173) ∧
                     if ((!b174) == false) = true then
                      X.CallX Try.prog 52 #[(.agg #[(.int .u8 n29), (.int .u16 n30)])] w173 fun e176 w177 =>
                       ∃ b178 : Bool, (e176 = .returned (.bool b178)) ∧
                       (X.Kept L168 w173 w177) ∧
                       if (false || (!b178)) = true then
                        ∀ w180 : World, (X.Hid (L168) w177 w180) →
                        R (.returned (.tuple #[(.agg #[(.int .u8 0), (.int .u16 0), (.int .u8 0), (.int .u16 0), (.int .u64 0), (.int .u64 0), (.bool false), (.slice none 0 0)]), (.int .i64 6)])) w180
                       else
                        ∀ w179 : World, (X.Hid (L168) w177 w179) →
                        R (.returned (.tuple #[(.agg #[(.int .u8 n25), (.int .u16 n26), (.int .u8 n29), (.int .u16 n30), (.int .u64 n134), (.int .u64 n137), (.bool b142), (.slice (q163) k164 k165)]), (.int .i64 0)])) w179
                     else
                      ∀ w175 : World, (X.Hid (L168) w173 w175) →
                      R (.returned (.tuple #[(.agg #[(.int .u8 0), (.int .u16 0), (.int .u8 0), (.int .u16 0), (.int .u64 0), (.int .u64 0), (.bool false), (.slice none 0 0)]), (.int .i64 6)])) w175
                else
                 ∀ w143 : World, ∀ L144 : List Nat, (X.Hid (L139) w141 w143) →
                 (X.NewL (w).heap.size (L139) w141 w143 L144) →
                 X.CallX Try.prog 71 #[(.pointer (q19))] w143 fun e145 w146 =>
                  ∃ n147 : Int, (e145 = .returned (.int .i64 n147)) ∧
                  (X.Kept L144 w143 w146) ∧
                  if (n147 != 0) = true then
                   ∀ w157 : World, (X.Hid (L144) w146 w157) →
                   R (.returned (.tuple #[(.agg #[(.int .u8 0), (.int .u16 0), (.int .u8 0), (.int .u16 0), (.int .u64 0), (.int .u64 0), (.bool false), (.slice none 0 0)]), (.int .i64 n147)])) w157
                  else
                   X.CallX Try.prog 52 #[(.agg #[(.int .u8 n25), (.int .u16 n26)])] w146 fun e148 w149 =>
                    ∃ b150 : Bool, (e148 = .returned (.bool b150)) ∧
                    (X.Kept L144 w146 w149) ∧
                    if ((!b150) == false) = true then
                     X.CallX Try.prog 52 #[(.agg #[(.int .u8 n29), (.int .u16 n30)])] w149 fun e152 w153 =>
                      ∃ b154 : Bool, (e152 = .returned (.bool b154)) ∧
                      (X.Kept L144 w149 w153) ∧
                      if (false || (!b154)) = true then
                       ∀ w156 : World, (X.Hid (L144) w153 w156) →
                       R (.returned (.tuple #[(.agg #[(.int .u8 0), (.int .u16 0), (.int .u8 0), (.int .u16 0), (.int .u64 0), (.int .u64 0), (.bool false), (.slice none 0 0)]), (.int .i64 6)])) w156
                      else
                       ∀ w155 : World, (X.Hid (L144) w153 w155) →
                       R (.returned (.tuple #[(.agg #[(.int .u8 n25), (.int .u16 n26), (.int .u8 n29), (.int .u16 n30), (.int .u64 n134), (.int .u64 n137), (.bool b142), (.slice none 0 0)]), (.int .i64 0)])) w155
                    else
                     ∀ w151 : World, (X.Hid (L144) w149 w151) →
                     R (.returned (.tuple #[(.agg #[(.int .u8 0), (.int .u16 0), (.int .u8 0), (.int .u16 0), (.int .u64 0), (.int .u64 0), (.bool false), (.slice none 0 0)]), (.int .i64 6)])) w151) ∧
           ∀ w182 : World, ∀ L183 : List Nat, (X.Hid (L22) w24 w182) →
           (X.NewL (w).heap.size (L22) w24 w182 L183) →
           X.CallX Try.prog 67 #[(.pointer (q19))] w182 fun e184 w185 =>
            ∃ n186 : Int, ∃ n187 : Int, (e184 = .returned (.agg #[(.int .u8 n186), (.int .u16 n187)])) ∧
            (X.Kept L183 w182 w185) ∧
            (X.FactsW x20 w185 (L183)) ∧
            X.CallX Try.prog 68 #[(.agg #[(.pointer (q19))])] w185 fun e188 w189 =>
             ∃ n190 : Int, (e188 = .returned (.int .u64 n190)) ∧
             (X.Kept L183 w185 w189) ∧
             (X.FactsW x20 w189 (L183)) ∧
             X.CallX Try.prog 68 #[(.agg #[(.pointer (q19))])] w189 fun e191 w192 =>
              ∃ n193 : Int, (e191 = .returned (.int .u64 n193)) ∧
              (X.Kept L183 w189 w192) ∧
              (X.FactsW x20 w192 (L183)) ∧
              ∀ w194 : World, ∀ L195 : List Nat, (X.Hid (L183) w192 w194) →
              (X.NewL (w).heap.size (L183) w192 w194 L195) →
              X.CallX Try.prog 69 #[(.agg #[(.pointer (q19))])] w194 fun e196 w197 =>
               ∃ b198 : Bool, (e196 = .returned (.bool b198)) ∧
               (X.Kept L195 w194 w197) ∧
               if b198 = true then
                ∀ w214 : World, ∀ L215 : List Nat, (X.Hid (L195) w197 w214) →
                (X.NewL (w).heap.size (L195) w197 w214 L215) →
                X.CallX Try.prog 70 #[(.pointer (q19)), (.int .i64 524288)] w214 fun e216 w217 =>
                 ∃ s218 : ByteArray, (e216 = .returned (.string s218)) ∧
                 (X.Kept L215 w214 w217) ∧
                 ∃ q219 : Option Addr, ∃ k220 : Nat, ∃ k221 : Nat, ∃ w222 : World, (Sem.run Try.prog (Go.convert 9 66 (.string s218)) w217 = .ok (.slice (q219) k220 k221) w222) ∧
                 (X.Kept L215 w217 w222) ∧
                 ∀ w223 : World, ∀ L224 : List Nat, (X.Hid (L215) w222 w223) →
                 (X.NewL (w).heap.size (L215) w222 w223 L224) →
                 X.CallX Try.prog 71 #[(.pointer (q19))] w223 fun e225 w226 =>
                  ∃ n227 : Int, (e225 = .returned (.int .i64 n227)) ∧
                  (X.Kept L224 w223 w226) ∧
                  if (n227 != 0) = true then
                   ∀ w237 : World, (X.Hid (L224) w226 w237) →
                   R (.returned (.tuple #[(.agg #[(.int .u8 0), (.int .u16 0), (.int .u8 0), (.int .u16 0), (.int .u64 0), (.int .u64 0), (.bool false), (.slice none 0 0)]), (.int .i64 n227)])) w237
                  else
                   X.CallX Try.prog 52 #[(.agg #[(.int .u8 n25), (.int .u16 n26)])] w226 fun e228 w229 =>
                    ∃ b230 : Bool, (e228 = .returned (.bool b230)) ∧
                    (X.Kept L224 w226 w229) ∧
                    if ((!b230) == false) = true then
                     X.CallX Try.prog 52 #[(.agg #[(.int .u8 n186), (.int .u16 n187)])] w229 fun e232 w233 =>
                      ∃ b234 : Bool, (e232 = .returned (.bool b234)) ∧
                      (X.Kept L224 w229 w233) ∧
                      if (false || (!b234)) = true then
                       ∀ w236 : World, (X.Hid (L224) w233 w236) →
                       R (.returned (.tuple #[(.agg #[(.int .u8 0), (.int .u16 0), (.int .u8 0), (.int .u16 0), (.int .u64 0), (.int .u64 0), (.bool false), (.slice none 0 0)]), (.int .i64 6)])) w236
                      else
                       ∀ w235 : World, (X.Hid (L224) w233 w235) →
                       R (.returned (.tuple #[(.agg #[(.int .u8 n25), (.int .u16 n26), (.int .u8 n186), (.int .u16 n187), (.int .u64 n190), (.int .u64 n193), (.bool b198), (.slice (q219) k220 k221)]), (.int .i64 0)])) w235
                    else
                     ∀ w231 : World, (X.Hid (L224) w229 w231) →
                     R (.returned (.tuple #[(.agg #[(.int .u8 0), (.int .u16 0), (.int .u8 0), (.int .u16 0), (.int .u64 0), (.int .u64 0), (.bool false), (.slice none 0 0)]), (.int .i64 6)])) w231
               else
                ∀ w199 : World, ∀ L200 : List Nat, (X.Hid (L195) w197 w199) →
                (X.NewL (w).heap.size (L195) w197 w199 L200) →
                X.CallX Try.prog 71 #[(.pointer (q19))] w199 fun e201 w202 =>
                 ∃ n203 : Int, (e201 = .returned (.int .i64 n203)) ∧
                 (X.Kept L200 w199 w202) ∧
                 if (n203 != 0) = true then
                  ∀ w213 : World, (X.Hid (L200) w202 w213) →
                  R (.returned (.tuple #[(.agg #[(.int .u8 0), (.int .u16 0), (.int .u8 0), (.int .u16 0), (.int .u64 0), (.int .u64 0), (.bool false), (.slice none 0 0)]), (.int .i64 n203)])) w213
                 else
                  X.CallX Try.prog 52 #[(.agg #[(.int .u8 n25), (.int .u16 n26)])] w202 fun e204 w205 =>
                   ∃ b206 : Bool, (e204 = .returned (.bool b206)) ∧
                   (X.Kept L200 w202 w205) ∧
                   if ((!b206) == false) = true then
                    X.CallX Try.prog 52 #[(.agg #[(.int .u8 n186), (.int .u16 n187)])] w205 fun e208 w209 =>
                     ∃ b210 : Bool, (e208 = .returned (.bool b210)) ∧
                     (X.Kept L200 w205 w209) ∧
                     if (false || (!b210)) = true then
                      ∀ w212 : World, (X.Hid (L200) w209 w212) →
                      R (.returned (.tuple #[(.agg #[(.int .u8 0), (.int .u16 0), (.int .u8 0), (.int .u16 0), (.int .u64 0), (.int .u64 0), (.bool false), (.slice none 0 0)]), (.int .i64 6)])) w212
                     else
                      ∀ w211 : World, (X.Hid (L200) w209 w211) →
                      R (.returned (.tuple #[(.agg #[(.int .u8 n25), (.int .u16 n26), (.int .u8 n186), (.int .u16 n187), (.int .u64 n190), (.int .u64 n193), (.bool b198), (.slice none 0 0)]), (.int .i64 0)])) w211
                   else
                    ∀ w207 : World, (X.Hid (L200) w205 w207) →
                    R (.returned (.tuple #[(.agg #[(.int .u8 0), (.int .u16 0), (.int .u8 0), (.int .u16 0), (.int .u64 0), (.int .u64 0), (.bool false), (.slice none 0 0)]), (.int .i64 6)])) w207) ∧
         ∀ w238 : World, ∀ L239 : List Nat, (X.Hid (L3) w18 w238) →
         (X.NewL (w).heap.size (L3) w18 w238 L239) →
         X.CallX Try.prog 67 #[(.pointer (q19))] w238 fun e240 w241 =>
          ∃ n242 : Int, ∃ n243 : Int, (e240 = .returned (.agg #[(.int .u8 n242), (.int .u16 n243)])) ∧
          (X.Kept L239 w238 w241) ∧
          (X.FactsW x20 w241 (L239)) ∧
          X.CallX Try.prog 67 #[(.pointer (q19))] w241 fun e244 w245 =>
           ∃ n246 : Int, ∃ n247 : Int, (e244 = .returned (.agg #[(.int .u8 n246), (.int .u16 n247)])) ∧
           (X.Kept L239 w241 w245) ∧
           (X.FactsW x20 w245 (L239)) ∧
           X.CallX Try.prog 68 #[(.agg #[(.pointer (q19))])] w245 fun e248 w249 =>
            ∃ n250 : Int, (e248 = .returned (.int .u64 n250)) ∧
            (X.Kept L239 w245 w249) ∧
            (X.FactsW x20 w249 (L239)) ∧
            X.CallX Try.prog 68 #[(.agg #[(.pointer (q19))])] w249 fun e251 w252 =>
             ∃ n253 : Int, (e251 = .returned (.int .u64 n253)) ∧
             (X.Kept L239 w249 w252) ∧
             (X.FactsW x20 w252 (L239)) ∧
             ∀ w254 : World, ∀ L255 : List Nat, (X.Hid (L239) w252 w254) →
             (X.NewL (w).heap.size (L239) w252 w254 L255) →
             X.CallX Try.prog 69 #[(.agg #[(.pointer (q19))])] w254 fun e256 w257 =>
              ∃ b258 : Bool, (e256 = .returned (.bool b258)) ∧
              (X.Kept L255 w254 w257) ∧
              if b258 = true then
               ∀ w274 : World, ∀ L275 : List Nat, (X.Hid (L255) w257 w274) →
               (X.NewL (w).heap.size (L255) w257 w274 L275) →
               X.CallX Try.prog 70 #[(.pointer (q19)), (.int .i64 524288)] w274 fun e276 w277 =>
                ∃ s278 : ByteArray, (e276 = .returned (.string s278)) ∧
                (X.Kept L275 w274 w277) ∧
                ∃ q279 : Option Addr, ∃ k280 : Nat, ∃ k281 : Nat, ∃ w282 : World, (Sem.run Try.prog (Go.convert 9 66 (.string s278)) w277 = .ok (.slice (q279) k280 k281) w282) ∧
                (X.Kept L275 w277 w282) ∧
                ∀ w283 : World, ∀ L284 : List Nat, (X.Hid (L275) w282 w283) →
                (X.NewL (w).heap.size (L275) w282 w283 L284) →
                X.CallX Try.prog 71 #[(.pointer (q19))] w283 fun e285 w286 =>
                 ∃ n287 : Int, (e285 = .returned (.int .i64 n287)) ∧
                 (X.Kept L284 w283 w286) ∧
                 if (n287 != 0) = true then
                  ∀ w297 : World, (X.Hid (L284) w286 w297) →
                  R (.returned (.tuple #[(.agg #[(.int .u8 0), (.int .u16 0), (.int .u8 0), (.int .u16 0), (.int .u64 0), (.int .u64 0), (.bool false), (.slice none 0 0)]), (.int .i64 n287)])) w297
                 else
                  X.CallX Try.prog 52 #[(.agg #[(.int .u8 n242), (.int .u16 n243)])] w286 fun e288 w289 =>
                   ∃ b290 : Bool, (e288 = .returned (.bool b290)) ∧
                   (X.Kept L284 w286 w289) ∧
                   if ((!b290) == false) = true then
                    X.CallX Try.prog 52 #[(.agg #[(.int .u8 n246), (.int .u16 n247)])] w289 fun e292 w293 =>
                     ∃ b294 : Bool, (e292 = .returned (.bool b294)) ∧
                     (X.Kept L284 w289 w293) ∧
                     if (false || (!b294)) = true then
                      ∀ w296 : World, (X.Hid (L284) w293 w296) →
                      R (.returned (.tuple #[(.agg #[(.int .u8 0), (.int .u16 0), (.int .u8 0), (.int .u16 0), (.int .u64 0), (.int .u64 0), (.bool false), (.slice none 0 0)]), (.int .i64 6)])) w296
                     else
                      ∀ w295 : World, (X.Hid (L284) w293 w295) →
                      R (.returned (.tuple #[(.agg #[(.int .u8 n242), (.int .u16 n243), (.int .u8 n246), (.int .u16 n247), (.int .u64 n250), (.int .u64 n253), (.bool b258), (.slice (q279) k280 k281)]), (.int .i64 0)])) w295
                   else
                    ∀ w291 : World, (X.Hid (L284) w289 w291) →
                    R (.returned (.tuple #[(.agg #[(.int .u8 0), (.int .u16 0), (.int .u8 0), (.int .u16 0), (.int .u64 0), (.int .u64 0), (.bool false), (.slice none 0 0)]), (.int .i64 6)])) w291
              else
               ∀ w259 : World, ∀ L260 : List Nat, (X.Hid (L255) w257 w259) →
               (X.NewL (w).heap.size (L255) w257 w259 L260) →
               X.CallX Try.prog 71 #[(.pointer (q19))] w259 fun e261 w262 =>
                ∃ n263 : Int, (e261 = .returned (.int .i64 n263)) ∧
                (X.Kept L260 w259 w262) ∧
                if (n263 != 0) = true then
                 ∀ w273 : World, (X.Hid (L260) w262 w273) →
                 R (.returned (.tuple #[(.agg #[(.int .u8 0), (.int .u16 0), (.int .u8 0), (.int .u16 0), (.int .u64 0), (.int .u64 0), (.bool false), (.slice none 0 0)]), (.int .i64 n263)])) w273
                else
                 X.CallX Try.prog 52 #[(.agg #[(.int .u8 n242), (.int .u16 n243)])] w262 fun e264 w265 =>
                  ∃ b266 : Bool, (e264 = .returned (.bool b266)) ∧
                  (X.Kept L260 w262 w265) ∧
                  if ((!b266) == false) = true then
                   X.CallX Try.prog 52 #[(.agg #[(.int .u8 n246), (.int .u16 n247)])] w265 fun e268 w269 =>
                    ∃ b270 : Bool, (e268 = .returned (.bool b270)) ∧
                    (X.Kept L260 w265 w269) ∧
                    if (false || (!b270)) = true then
                     ∀ w272 : World, (X.Hid (L260) w269 w272) →
                     R (.returned (.tuple #[(.agg #[(.int .u8 0), (.int .u16 0), (.int .u8 0), (.int .u16 0), (.int .u64 0), (.int .u64 0), (.bool false), (.slice none 0 0)]), (.int .i64 6)])) w272
                    else
                     ∀ w271 : World, (X.Hid (L260) w269 w271) →
                     R (.returned (.tuple #[(.agg #[(.int .u8 n242), (.int .u16 n243), (.int .u8 n246), (.int .u16 n247), (.int .u64 n250), (.int .u64 n253), (.bool b258), (.slice none 0 0)]), (.int .i64 0)])) w271
                  else
                   ∀ w267 : World, (X.Hid (L260) w265 w267) →
                   R (.returned (.tuple #[(.agg #[(.int .u8 0), (.int .u16 0), (.int .u8 0), (.int .u16 0), (.int .u64 0), (.int .u64 0), (.bool false), (.slice none 0 0)]), (.int .i64 6)])) w267
   else
    ∀ w1 : World, (X.Hid [] w w1) →
    R (.returned (.tuple #[(.agg #[(.int .u8 0), (.int .u16 0), (.int .u8 0), (.int .u16 0), (.int .u64 0), (.int .u64 0), (.bool false), (.slice none 0 0)]), (.int .i64 7)])) w1) :
    Calls Try.prog 21 #[.slice a al ac] w R :=
  X.calls_of { isLoc := [2, 5, 6], sym := [], loops := [], joins := [], stored := [(7, [6])] } Try.func21 (by kernel_rfl) h
abbrev fn_Packet : Nat := 19
theorem x_Packet (a_0 a_1 a_2 a_3 a_4 a_5 : Int) (a_6 : Bool) (a_7 : Option Addr) (a_7l a_7c : Nat) (w : World) (R : Ending → World → Prop) (h :
  ∃ x1 : X.Facts, (X.FactsW x1 w []) ∧
  (∀ w2 : World, ∀ L3 : List Nat, (X.Hid [] w w2) →
   (X.NewL (w).heap.size [] w w2 L3) →
   X.CallX Try.prog 31 #[(.agg #[(.int .u8 a_0), (.int .u16 a_1)])] w2 fun e4 w5 =>
    ∃ n6 : Int, ∃ n7 : Int, (e4 = .returned (.agg #[(.int .u8 n6), (.int .u16 n7)])) ∧
    (X.Kept L3 w2 w5) ∧
    (X.FactsW x1 w5 (L3)) ∧
    (X.CallX Try.prog 31 #[(.agg #[(.int .u8 a_2), (.int .u16 a_3)])] w5 fun e8 w9 =>
      ∃ n10 : Int, ∃ n11 : Int, (e8 = .returned (.agg #[(.int .u8 n10), (.int .u16 n11)])) ∧
      (X.Kept L3 w5 w9) ∧
      (X.FactsW x1 w9 (L3)) ∧
      (X.FactsW x1 (w9.alloc (.cells #[] 5)) (L3)) ∧
      ∃ q12 : Option Addr, ∃ k13 : Nat, ∃ k14 : Nat, ∃ w15 : World, (Sem.run Try.prog (Go.Builtin.append_ #[66, 66] 66 #[(.slice (some ⟨(w9).heap.size, 0, none⟩) 0 0), (.slice (a_7) a_7l a_7c)]) (w9.alloc (.cells #[] 5)) = .ok (.slice (q12) k13 k14) w15) ∧
      (X.Kept L3 (w9.alloc (.cells #[] 5)) w15) ∧
      (X.FactsW x1 w15 (L3)) ∧
      ∀ w16 : World, (X.Hid (L3) w15 w16) →
      R (.returned (.agg #[(.int .u8 n6), (.int .u16 n7), (.int .u8 n10), (.int .u16 n11), (.int .u64 a_4), (.int .u64 a_5), (.bool a_6), (.slice (q12) k13 k14)])) w16) ∧
    (X.FactsW x1 (w5.alloc (.cells #[] 5)) (L3)) ∧
    X.CallX Try.prog 31 #[(.agg #[(.int .u8 a_2), (.int .u16 a_3)])] (w5.alloc (.cells #[] 5)) fun e17 w18 =>
     ∃ n19 : Int, ∃ n20 : Int, (e17 = .returned (.agg #[(.int .u8 n19), (.int .u16 n20)])) ∧
     (X.Kept L3 (w5.alloc (.cells #[] 5)) w18) ∧
     (X.FactsW x1 w18 (L3)) ∧
     ∃ q21 : Option Addr, ∃ k22 : Nat, ∃ k23 : Nat, ∃ w24 : World, (Sem.run Try.prog (Go.Builtin.append_ #[66, 66] 66 #[(.slice (some ⟨(w5).heap.size, 0, none⟩) 0 0), (.slice (a_7) a_7l a_7c)]) w18 = .ok (.slice (q21) k22 k23) w24) ∧
     (X.Kept L3 w18 w24) ∧
     (X.FactsW x1 w24 (L3)) ∧
     ∀ w25 : World, (X.Hid (L3) w24 w25) →
     R (.returned (.agg #[(.int .u8 n6), (.int .u16 n7), (.int .u8 n19), (.int .u16 n20), (.int .u64 a_4), (.int .u64 a_5), (.bool a_6), (.slice (q21) k22 k23)])) w25) ∧
  ∀ w26 : World, ∀ L27 : List Nat, (X.Hid [] w w26) →
  (X.NewL (w).heap.size [] w w26 L27) →
  (X.FactsW x1 (w26.alloc (.cells #[] 5)) (L27)) ∧
  X.CallX Try.prog 31 #[(.agg #[(.int .u8 a_0), (.int .u16 a_1)])] (w26.alloc (.cells #[] 5)) fun e28 w29 =>
   ∃ n30 : Int, ∃ n31 : Int, (e28 = .returned (.agg #[(.int .u8 n30), (.int .u16 n31)])) ∧
   (X.Kept L27 (w26.alloc (.cells #[] 5)) w29) ∧
   (X.FactsW x1 w29 (L27)) ∧
   X.CallX Try.prog 31 #[(.agg #[(.int .u8 a_2), (.int .u16 a_3)])] w29 fun e32 w33 =>
    ∃ n34 : Int, ∃ n35 : Int, (e32 = .returned (.agg #[(.int .u8 n34), (.int .u16 n35)])) ∧
    (X.Kept L27 w29 w33) ∧
    (X.FactsW x1 w33 (L27)) ∧
    ∃ q36 : Option Addr, ∃ k37 : Nat, ∃ k38 : Nat, ∃ w39 : World, (Sem.run Try.prog (Go.Builtin.append_ #[66, 66] 66 #[(.slice (some ⟨(w26).heap.size, 0, none⟩) 0 0), (.slice (a_7) a_7l a_7c)]) w33 = .ok (.slice (q36) k37 k38) w39) ∧
    (X.Kept L27 w33 w39) ∧
    (X.FactsW x1 w39 (L27)) ∧
    ∀ w40 : World, (X.Hid (L27) w39 w40) →
    R (.returned (.agg #[(.int .u8 n30), (.int .u16 n31), (.int .u8 n34), (.int .u16 n35), (.int .u64 a_4), (.int .u64 a_5), (.bool a_6), (.slice (q36) k37 k38)])) w40) :
    Calls Try.prog 19 #[.agg #[.int .u8 a_0, .int .u16 a_1, .int .u8 a_2, .int .u16 a_3, .int .u64 a_4, .int .u64 a_5, .bool a_6, .slice a_7 a_7l a_7c]] w R :=
  X.calls_of { isLoc := [1, 2], sym := [], loops := [], joins := [], stored := [(1, [2])] } Try.func19 (by kernel_rfl) h
abbrev fn_samePacket : Nat := 24
theorem x_samePacket (a_0 a_1 a_2 a_3 a_4 a_5 : Int) (a_6 : Bool) (a_7 : Option Addr) (a_7l a_7c : Nat) (b_0 b_1 b_2 b_3 b_4 b_5 : Int) (b_6 : Bool) (b_7 : Option Addr) (b_7l b_7c : Nat) (w : World) (R : Ending → World → Prop) (h :
  ∃ x1 : X.Facts, (X.FactsW x1 w []) ∧
  ∀ w2 : World, ∀ L3 : List Nat, (X.Hid [] w w2) →
  (X.NewL (w).heap.size [] w w2 L3) →
  X.CallX Try.prog 78 #[(.agg #[(.int .u8 b_0), (.int .u16 b_1)])] w2 fun e4 w5 =>
   ∃ n6 : Int, ∃ n7 : Int, (e4 = .returned (.agg #[(.int .u8 n6), (.int .u16 n7)])) ∧
   (X.Kept L3 w2 w5) ∧
   (X.FactsW x1 w5 (L3)) ∧
   ∃ x8 : X.Facts, (X.FactsW x8 w5 (L3)) ∧
   (∀ x9 : Addr × List Value, (x9 ∈ x1) →
    x9 ∈ x8) ∧
   if (((a_0 == n6) && (a_1 == n7)) == true) = true then
    X.CallX Try.prog 78 #[(.agg #[(.int .u8 b_2), (.int .u16 b_3)])] w5 fun e12 w13 =>
     ∃ n14 : Int, ∃ n15 : Int, (e12 = .returned (.agg #[(.int .u8 n14), (.int .u16 n15)])) ∧
     (X.Kept L3 w5 w13) ∧
     (X.FactsW x8 w13 (L3)) ∧
     ∃ x16 : X.Facts, (X.FactsW x16 w13 (L3)) ∧
     (∀ x17 : Addr × List Value, (x17 ∈ x8) →
      x17 ∈ x16) ∧
     (if (((((true && ((a_2 == n14) && (a_3 == n15))) && (a_4 == b_4)) && (a_5 == b_5)) && (a_6 == b_6)) == true) = true then
       ∃ s18 : ByteArray, ∃ w19 : World, (Sem.run Try.prog (Go.convert 66 9 (.slice (a_7) a_7l a_7c)) w13 = .ok (.string s18) w19) ∧
       (X.Kept L3 w13 w19) ∧
       (X.FactsW x16 w19 (L3)) ∧
       ∃ s20 : ByteArray, ∃ w21 : World, (Sem.run Try.prog (Go.convert 66 9 (.slice (b_7) b_7l b_7c)) w19 = .ok (.string s20) w21) ∧
       (X.Kept L3 w19 w21) ∧
       (X.FactsW x16 w21 (L3)) ∧
       R (.returned (.bool (true && ((s18.toList) == (s20.toList))))) w21
      else
       R (.returned (.bool false)) w13) ∧
     if (((((true && ((a_2 == n14) && (a_3 == n15))) && (a_4 == b_4)) && (a_5 == b_5)) && (a_6 == b_6)) == true) = true then
      ∃ s22 : ByteArray, ∃ w23 : World, (Sem.run Try.prog (Go.convert 66 9 (.slice (b_7) b_7l b_7c)) w13 = .ok (.string s22) w23) ∧
      (X.Kept L3 w13 w23) ∧
      (X.FactsW x16 w23 (L3)) ∧
      ∃ s24 : ByteArray, ∃ w25 : World, (Sem.run Try.prog (Go.convert 66 9 (.slice (a_7) a_7l a_7c)) w23 = .ok (.string s24) w25) ∧
      (X.Kept L3 w23 w25) ∧
      (X.FactsW x16 w25 (L3)) ∧
      R (.returned (.bool (true && ((s24.toList) == (s22.toList))))) w25
     else
      R (.returned (.bool false)) w13
   else
    ∃ x10 : X.Facts, (X.FactsW x10 w5 (L3)) ∧
    (∀ x11 : Addr × List Value, (x11 ∈ x8) →
     x11 ∈ x10) ∧
    (R (.returned (.bool false)) w5) ∧
    R (.returned (.bool false)) w5) :
    Calls Try.prog 24 #[.agg #[.int .u8 a_0, .int .u16 a_1, .int .u8 a_2, .int .u16 a_3, .int .u64 a_4, .int .u64 a_5, .bool a_6, .slice a_7 a_7l a_7c], .agg #[.int .u8 b_0, .int .u16 b_1, .int .u8 b_2, .int .u16 b_3, .int .u64 b_4, .int .u64 b_5, .bool b_6, .slice b_7 b_7l b_7c]] w R :=
  X.calls_of { isLoc := [2, 3], sym := [], loops := [], joins := [] } Try.func24 (by kernel_rfl) h
abbrev fn_r7Frame : Nat := 20
theorem x_r7Frame (a_0 a_1 a_2 a_3 a_4 a_5 : Int) (a_6 : Bool) (a_7 : Option Addr) (a_7l a_7c : Nat) (w : World) (R : Ending → World → Prop) (h :
  ∀ w1 : World, ∀ L2 : List Nat, (X.Hid [] w w1) →
  (X.NewL (w).heap.size [] w w1 L2) →
  X.CallX Try.prog 51 #[(.agg #[(.int .u8 a_0), (.int .u16 a_1)])] w1 fun e3 w4 =>
   ∃ b5 : Bool, (e3 = .returned (.bool b5)) ∧
   (X.Kept L2 w1 w4) ∧
   if ((!b5) == false) = true then
    X.CallX Try.prog 51 #[(.agg #[(.int .u8 a_2), (.int .u16 a_3)])] w4 fun e6 w7 =>
     ∃ b8 : Bool, (e6 = .returned (.bool b8)) ∧
     (X.Kept L2 w4 w7) ∧
     if ((false || (!b8)) || ((!a_6) && decide (((a_7l : Nat) : Int) > 0))) = true then
      R (.returned (.tuple #[(.slice none 0 0), (.int .i64 1)])) w7
     else
      ∃ x9 : X.Facts, (X.FactsW x9 w7 (L2)) ∧
      ∀ w10 : World, ∀ L11 : List Nat, (X.Hid (L2) w7 w10) →
      (X.NewL (w).heap.size (L2) w7 w10 L11) →
      X.CallX Try.prog 59 #[(.agg #[(.int .u8 a_0), (.int .u16 a_1)])] w10 fun e12 w13 =>
       ∃ q14 : Option Addr, ∃ k15 : Nat, ∃ k16 : Nat, (e12 = .returned (.slice (q14) k15 k16)) ∧
       (X.Kept L11 w10 w13) ∧
       (X.FactsW x9 w13 (L11)) ∧
       X.CallX Try.prog 59 #[(.agg #[(.int .u8 a_2), (.int .u16 a_3)])] w13 fun e17 w18 =>
        ∃ q19 : Option Addr, ∃ k20 : Nat, ∃ k21 : Nat, (e17 = .returned (.slice (q19) k20 k21)) ∧
        (X.Kept L11 w13 w18) ∧
        (X.FactsW x9 w18 (L11)) ∧
        ∃ q22 : Option Addr, ∃ k23 : Nat, ∃ k24 : Nat, ∃ w25 : World, (Sem.run Try.prog (Go.Builtin.append_ #[66, 66] 66 #[(.slice (q14) k15 k16), (.slice (q19) k20 k21)]) w18 = .ok (.slice (q22) k23 k24) w25) ∧
        (X.Kept L11 w18 w25) ∧
        (X.FactsW x9 w25 (L11)) ∧
        ∃ x26 : X.Facts, (X.FactsW x26 w25 (L11)) ∧
        ∀ w27 : World, ∀ L28 : List Nat, (X.Hid (L11) w25 w27) →
        (X.NewL (w).heap.size (L11) w25 w27 L28) →
        X.CallX Try.prog 60 #[(.int .u64 a_4)] w27 fun e29 w30 =>
         ∃ q31 : Option Addr, ∃ k32 : Nat, ∃ k33 : Nat, (e29 = .returned (.slice (q31) k32 k33)) ∧
         (X.Kept L28 w27 w30) ∧
         (X.FactsW x26 w30 (L28)) ∧
         ∃ q34 : Option Addr, ∃ k35 : Nat, ∃ k36 : Nat, ∃ w37 : World, (Sem.run Try.prog (Go.Builtin.append_ #[66, 66] 66 #[(.slice (q22) k23 k24), (.slice (q31) k32 k33)]) w30 = .ok (.slice (q34) k35 k36) w37) ∧
         (X.Kept L28 w30 w37) ∧
         (X.FactsW x26 w37 (L28)) ∧
         X.CallX Try.prog 60 #[(.int .u64 a_5)] w37 fun e38 w39 =>
          ∃ q40 : Option Addr, ∃ k41 : Nat, ∃ k42 : Nat, (e38 = .returned (.slice (q40) k41 k42)) ∧
          (X.Kept L28 w37 w39) ∧
          (X.FactsW x26 w39 (L28)) ∧
          ∃ q43 : Option Addr, ∃ k44 : Nat, ∃ k45 : Nat, ∃ w46 : World, (Sem.run Try.prog (Go.Builtin.append_ #[66, 66] 66 #[(.slice (q34) k35 k36), (.slice (q40) k41 k42)]) w39 = .ok (.slice (q43) k44 k45) w46) ∧
          (X.Kept L28 w39 w46) ∧
          (X.FactsW x26 w46 (L28)) ∧
          X.CallX Try.prog 61 #[(.bool a_6)] w46 fun e47 w48 =>
           ∃ n49 : Int, (e47 = .returned (.int .u8 n49)) ∧
           (X.Kept L28 w46 w48) ∧
           ∃ q50 : Option Addr, ∃ k51 : Nat, ∃ k52 : Nat, ∃ w53 : World, (Sem.run Try.prog (Go.Builtin.append_ #[66, 66] 66 #[(.slice (q43) k44 k45), (.slice (some ⟨(w48).heap.size, 0, none⟩) 1 1)]) (w48.alloc (.cells #[(.int .u8 n49)] 5)) = .ok (.slice (q50) k51 k52) w53) ∧
           (X.Kept L28 (w48.alloc (.cells #[(.int .u8 n49)] 5)) w53) ∧
           if a_6 = true then
            ∃ s59 : ByteArray, ∃ w60 : World, (Sem.run Try.prog (Go.convert 66 9 (.slice (a_7) a_7l a_7c)) w53 = .ok (.string s59) w60) ∧
            (X.Kept L28 w53 w60) ∧
            X.CallX Try.prog 62 #[(.string s59)] w60 fun e61 w62 =>
             ∃ q63 : Option Addr, ∃ k64 : Nat, ∃ k65 : Nat, (e61 = .returned (.slice (q63) k64 k65)) ∧
             (X.Kept L28 w60 w62) ∧
             ∃ q66 : Option Addr, ∃ k67 : Nat, ∃ k68 : Nat, ∃ w69 : World, (Sem.run Try.prog (Go.Builtin.append_ #[66, 66] 66 #[(.slice (q50) k51 k52), (.slice (q63) k64 k65)]) w62 = .ok (.slice (q66) k67 k68) w69) ∧
             (X.Kept L28 w62 w69) ∧
             X.CallX Try.prog 63 #[(.slice (q66) k67 k68)] w69 fun e70 w71 =>
              ∃ q72 : Option Addr, ∃ k73 : Nat, ∃ k74 : Nat, (e70 = .returned (.slice (q72) k73 k74)) ∧
              (X.Kept L28 w69 w71) ∧
              if (decide (((k73 : Nat) : Int) > 524288)) = true then
               R (.returned (.tuple #[(.slice none 0 0), (.int .i64 5)])) w71
              else
               R (.returned (.tuple #[(.slice (q72) k73 k74), (.int .i64 0)])) w71
           else
            X.CallX Try.prog 63 #[(.slice (q50) k51 k52)] w53 fun e54 w55 =>
             ∃ q56 : Option Addr, ∃ k57 : Nat, ∃ k58 : Nat, (e54 = .returned (.slice (q56) k57 k58)) ∧
             (X.Kept L28 w53 w55) ∧
             if (decide (((k57 : Nat) : Int) > 524288)) = true then
              R (.returned (.tuple #[(.slice none 0 0), (.int .i64 5)])) w55
             else
              R (.returned (.tuple #[(.slice (q56) k57 k58), (.int .i64 0)])) w55
   else
    R (.returned (.tuple #[(.slice none 0 0), (.int .i64 1)])) w4) :
    Calls Try.prog 20 #[.agg #[.int .u8 a_0, .int .u16 a_1, .int .u8 a_2, .int .u16 a_3, .int .u64 a_4, .int .u64 a_5, .bool a_6, .slice a_7 a_7l a_7c]] w R :=
  X.calls_of { isLoc := [1], sym := [], loops := [], joins := [] } Try.func20 (by kernel_rfl) h
abbrev fn_r7Unframe : Nat := 22
theorem x_r7Unframe (a : Option Addr) (al ac : Nat) (w : World) (R : Ending → World → Prop) (h :
  if (decide (((al : Nat) : Int) > 524288)) = true then
   ∀ w89 : World, (X.Hid [] w w89) →
   R (.returned (.tuple #[(.agg #[(.int .u8 0), (.int .u16 0), (.int .u8 0), (.int .u16 0), (.int .u64 0), (.int .u64 0), (.bool false), (.slice none 0 0)]), (.int .i64 5)])) w89
  else
   if (decide ((IntKind.wrap .i64 (((al : Nat) : Int) - 4)) < 0)) = true then
    ∀ w88 : World, (X.Hid [] w w88) →
    R (.returned (.tuple #[(.agg #[(.int .u8 0), (.int .u16 0), (.int .u8 0), (.int .u16 0), (.int .u64 0), (.int .u64 0), (.bool false), (.slice none 0 0)]), (.int .i64 7)])) w88
   else
    ((0 : Int) ≤ (IntKind.wrap .i64 (((al : Nat) : Int) - 4))) ∧
    ((IntKind.wrap .i64 (((al : Nat) : Int) - 4)) ≤ ((ac : Nat) : Int)) ∧
    ∀ w1 : World, ∀ L2 : List Nat, (X.Hid [] w w1) →
    (X.NewL (w).heap.size [] w w1 L2) →
    X.CallX Try.prog 72 #[(.slice (X.cutA (a) ac 0 1) ((IntKind.wrap .i64 (((al : Nat) : Int) - 4))).toNat ac)] w1 fun e3 w4 =>
     ∃ n5 : Int, (e3 = .returned (.int .u32 n5)) ∧
     (X.Kept L2 w1 w4) ∧
     ((0 : Int) ≤ (IntKind.wrap .i64 (((al : Nat) : Int) - 4))) ∧
     ((IntKind.wrap .i64 (((al : Nat) : Int) - 4)) < ((al : Nat) : Int)) ∧
     X.onSome (a) fun p6 =>
     ∃ n7 : Int, (World.cell? w4 (p6.add (((IntKind.wrap .i64 (((al : Nat) : Int) - 4))).toNat * 1)) = some (.int .u8 n7)) ∧
     (¬ (((p6.add ((IntKind.i64.wrap (((al : Nat) : Int) - 4)).toNat * 1)).block) ∈ L2)) ∧
     if ((n7 != (IntKind.wrap .u8 (n5.fdiv 16777216))) == false) = true then
      ((0 : Int) ≤ (IntKind.wrap .i64 ((IntKind.wrap .i64 (((al : Nat) : Int) - 4)) + 1))) ∧
      ((IntKind.wrap .i64 ((IntKind.wrap .i64 (((al : Nat) : Int) - 4)) + 1)) < ((al : Nat) : Int)) ∧
      X.onSome (a) fun p9 =>
      ∃ n10 : Int, (World.cell? w4 (p9.add (((IntKind.wrap .i64 ((IntKind.wrap .i64 (((al : Nat) : Int) - 4)) + 1))).toNat * 1)) = some (.int .u8 n10)) ∧
      (¬ (((p9.add ((IntKind.i64.wrap (IntKind.i64.wrap (((al : Nat) : Int) - 4) + 1)).toNat * 1)).block) ∈ L2)) ∧
      if ((false || (n10 != (IntKind.wrap .u8 (n5.fdiv 65536)))) == false) = true then
       ((0 : Int) ≤ (IntKind.wrap .i64 ((IntKind.wrap .i64 (((al : Nat) : Int) - 4)) + 2))) ∧
       ((IntKind.wrap .i64 ((IntKind.wrap .i64 (((al : Nat) : Int) - 4)) + 2)) < ((al : Nat) : Int)) ∧
       X.onSome (a) fun p12 =>
       ∃ n13 : Int, (World.cell? w4 (p12.add (((IntKind.wrap .i64 ((IntKind.wrap .i64 (((al : Nat) : Int) - 4)) + 2))).toNat * 1)) = some (.int .u8 n13)) ∧
       (¬ (((p12.add ((IntKind.i64.wrap (IntKind.i64.wrap (((al : Nat) : Int) - 4) + 2)).toNat * 1)).block) ∈ L2)) ∧
       if ((false || (n13 != (IntKind.wrap .u8 (n5.fdiv 256)))) == false) = true then
        ((0 : Int) ≤ (IntKind.wrap .i64 ((IntKind.wrap .i64 (((al : Nat) : Int) - 4)) + 3))) ∧
        ((IntKind.wrap .i64 ((IntKind.wrap .i64 (((al : Nat) : Int) - 4)) + 3)) < ((al : Nat) : Int)) ∧
        X.onSome (a) fun p15 =>
        ∃ n16 : Int, (World.cell? w4 (p15.add (((IntKind.wrap .i64 ((IntKind.wrap .i64 (((al : Nat) : Int) - 4)) + 3))).toNat * 1)) = some (.int .u8 n16)) ∧
        (¬ (((p15.add ((IntKind.i64.wrap (IntKind.i64.wrap (((al : Nat) : Int) - 4) + 3)).toNat * 1)).block) ∈ L2)) ∧
        if (false || (n16 != (IntKind.wrap .u8 n5))) = true then
         ∀ w87 : World, (X.Hid (L2) w4 w87) →
         R (.returned (.tuple #[(.agg #[(.int .u8 0), (.int .u16 0), (.int .u8 0), (.int .u16 0), (.int .u64 0), (.int .u64 0), (.bool false), (.slice none 0 0)]), (.int .i64 7)])) w87
        else
         ((0 : Int) ≤ (IntKind.wrap .i64 (((al : Nat) : Int) - 4))) ∧
         ((IntKind.wrap .i64 (((al : Nat) : Int) - 4)) ≤ ((ac : Nat) : Int)) ∧
         ∃ q17 : Option Addr, ∃ k18 : Nat, ∃ k19 : Nat, ∃ w20 : World, (Sem.run Try.prog (Go.Builtin.append_ #[66, 66] 66 #[(.slice (some ⟨(w4).heap.size, 0, none⟩) 0 0), (.slice (X.cutA (a) ac 0 1) ((IntKind.wrap .i64 (((al : Nat) : Int) - 4))).toNat ac)]) (w4.alloc (.cells #[] 5)) = .ok (.slice (q17) k18 k19) w20) ∧
         (X.Kept L2 (w4.alloc (.cells #[] 5)) w20) ∧
         X.CallX Try.prog 73 #[(.pointer (some ⟨(w20).heap.size, 0, none⟩))] (w20.alloc (.cells #[(.slice (q17) k18 k19), (.int .i64 0)] 143)) fun e21 w22 =>
          ∃ n23 : Int, ∃ n24 : Int, (e21 = .returned (.agg #[(.int .u8 n23), (.int .u16 n24)])) ∧
          (X.Kept L2 (w20.alloc (.cells #[(.slice (q17) k18 k19), (.int .i64 0)] 143)) w22) ∧
          ∀ w25 : World, ∀ L26 : List Nat, (X.Hid (L2) w22 w25) →
          (X.NewL (w).heap.size (L2) w22 w25 L26) →
          X.CallX Try.prog 73 #[(.pointer (some ⟨(w20).heap.size, 0, none⟩))] w25 fun e27 w28 =>
           ∃ n29 : Int, ∃ n30 : Int, (e27 = .returned (.agg #[(.int .u8 n29), (.int .u16 n30)])) ∧
           (X.Kept L26 w25 w28) ∧
           ∀ w31 : World, ∀ L32 : List Nat, (X.Hid (L26) w28 w31) →
           (X.NewL (w).heap.size (L26) w28 w31 L32) →
           X.CallX Try.prog 74 #[(.pointer (some ⟨(w20).heap.size, 0, none⟩)), (.int .u64 18446744073709551615)] w31 fun e33 w34 =>
            ∃ n35 : Int, (e33 = .returned (.int .u64 n35)) ∧
            (X.Kept L32 w31 w34) ∧
            ∀ w36 : World, ∀ L37 : List Nat, (X.Hid (L32) w34 w36) →
            (X.NewL (w).heap.size (L32) w34 w36 L37) →
            X.CallX Try.prog 74 #[(.pointer (some ⟨(w20).heap.size, 0, none⟩)), (.int .u64 18446744073709551615)] w36 fun e38 w39 =>
             ∃ n40 : Int, (e38 = .returned (.int .u64 n40)) ∧
             (X.Kept L37 w36 w39) ∧
             ∀ w41 : World, ∀ L42 : List Nat, (X.Hid (L37) w39 w41) →
             (X.NewL (w).heap.size (L37) w39 w41 L42) →
             X.CallX Try.prog 75 #[(.pointer (some ⟨(w20).heap.size, 0, none⟩))] w41 fun e43 w44 =>
              ∃ n45 : Int, (e43 = .returned (.int .u8 n45)) ∧
              (X.Kept L42 w41 w44) ∧
              if (n45 == 1) = true then
               ∀ w62 : World, ∀ L63 : List Nat, (X.Hid (L42) w44 w62) →
               (X.NewL (w).heap.size (L42) w44 w62 L63) →
               X.CallX Try.prog 76 #[(.pointer (some ⟨(w20).heap.size, 0, none⟩)), (.int .i64 524288)] w62 fun e64 w65 =>
                ∃ s66 : ByteArray, (e64 = .returned (.string s66)) ∧
                (X.Kept L63 w62 w65) ∧
                ∃ q67 : Option Addr, ∃ k68 : Nat, ∃ k69 : Nat, ∃ w70 : World, (Sem.run Try.prog (Go.convert 9 66 (.string s66)) w65 = .ok (.slice (q67) k68 k69) w70) ∧
                (X.Kept L63 w65 w70) ∧
                ∀ w71 : World, ∀ L72 : List Nat, (X.Hid (L63) w70 w71) →
                (X.NewL (w).heap.size (L63) w70 w71 L72) →
                X.CallX Try.prog 77 #[(.pointer (some ⟨(w20).heap.size, 0, none⟩))] w71 fun e73 w74 =>
                 ∃ n75 : Int, (e73 = .returned (.int .i64 n75)) ∧
                 (X.Kept L72 w71 w74) ∧
                 if (n75 != 0) = true then
                  ∀ w86 : World, (X.Hid (L72) w74 w86) →
                  R (.returned (.tuple #[(.agg #[(.int .u8 0), (.int .u16 0), (.int .u8 0), (.int .u16 0), (.int .u64 0), (.int .u64 0), (.bool false), (.slice none 0 0)]), (.int .i64 n75)])) w86
                 else
                  if ((decide (n45 > 1)) == false) = true then
                   X.CallX Try.prog 51 #[(.agg #[(.int .u8 n23), (.int .u16 n24)])] w74 fun e77 w78 =>
                    ∃ b79 : Bool, (e77 = .returned (.bool b79)) ∧
                    (X.Kept L72 w74 w78) ∧
                    if ((false || (!b79)) == false) = true then
                     X.CallX Try.prog 51 #[(.agg #[(.int .u8 n29), (.int .u16 n30)])] w78 fun e81 w82 =>
                      ∃ b83 : Bool, (e81 = .returned (.bool b83)) ∧
                      (X.Kept L72 w78 w82) ∧
                      if (false || (!b83)) = true then
                       ∀ w85 : World, (X.Hid (L72) w82 w85) →
                       R (.returned (.tuple #[(.agg #[(.int .u8 0), (.int .u16 0), (.int .u8 0), (.int .u16 0), (.int .u64 0), (.int .u64 0), (.bool false), (.slice none 0 0)]), (.int .i64 6)])) w85
                      else
                       ∀ w84 : World, (X.Hid (L72) w82 w84) →
                       R (.returned (.tuple #[(.agg #[(.int .u8 n23), (.int .u16 n24), (.int .u8 n29), (.int .u16 n30), (.int .u64 n35), (.int .u64 n40), (.bool (n45 == 1)), (.slice (q67) k68 k69)]), (.int .i64 0)])) w84
                    else
                     ∀ w80 : World, (X.Hid (L72) w78 w80) →
                     R (.returned (.tuple #[(.agg #[(.int .u8 0), (.int .u16 0), (.int .u8 0), (.int .u16 0), (.int .u64 0), (.int .u64 0), (.bool false), (.slice none 0 0)]), (.int .i64 6)])) w80
                  else
                   ∀ w76 : World, (X.Hid (L72) w74 w76) →
                   R (.returned (.tuple #[(.agg #[(.int .u8 0), (.int .u16 0), (.int .u8 0), (.int .u16 0), (.int .u64 0), (.int .u64 0), (.bool false), (.slice none 0 0)]), (.int .i64 6)])) w76
              else
               ∀ w46 : World, ∀ L47 : List Nat, (X.Hid (L42) w44 w46) →
               (X.NewL (w).heap.size (L42) w44 w46 L47) →
               X.CallX Try.prog 77 #[(.pointer (some ⟨(w20).heap.size, 0, none⟩))] w46 fun e48 w49 =>
                ∃ n50 : Int, (e48 = .returned (.int .i64 n50)) ∧
                (X.Kept L47 w46 w49) ∧
                if (n50 != 0) = true then
                 ∀ w61 : World, (X.Hid (L47) w49 w61) →
                 R (.returned (.tuple #[(.agg #[(.int .u8 0), (.int .u16 0), (.int .u8 0), (.int .u16 0), (.int .u64 0), (.int .u64 0), (.bool false), (.slice none 0 0)]), (.int .i64 n50)])) w61
                else
                 if ((decide (n45 > 1)) == false) = true then
                  X.CallX Try.prog 51 #[(.agg #[(.int .u8 n23), (.int .u16 n24)])] w49 fun e52 w53 =>
                   ∃ b54 : Bool, (e52 = .returned (.bool b54)) ∧
                   (X.Kept L47 w49 w53) ∧
                   if ((false || (!b54)) == false) = true then
                    X.CallX Try.prog 51 #[(.agg #[(.int .u8 n29), (.int .u16 n30)])] w53 fun e56 w57 =>
                     ∃ b58 : Bool, (e56 = .returned (.bool b58)) ∧
                     (X.Kept L47 w53 w57) ∧
                     if (false || (!b58)) = true then
                      ∀ w60 : World, (X.Hid (L47) w57 w60) →
                      R (.returned (.tuple #[(.agg #[(.int .u8 0), (.int .u16 0), (.int .u8 0), (.int .u16 0), (.int .u64 0), (.int .u64 0), (.bool false), (.slice none 0 0)]), (.int .i64 6)])) w60
                     else
                      ∀ w59 : World, (X.Hid (L47) w57 w59) →
                      R (.returned (.tuple #[(.agg #[(.int .u8 n23), (.int .u16 n24), (.int .u8 n29), (.int .u16 n30), (.int .u64 n35), (.int .u64 n40), (.bool (n45 == 1)), (.slice none 0 0)]), (.int .i64 0)])) w59
                   else
                    ∀ w55 : World, (X.Hid (L47) w53 w55) →
                    R (.returned (.tuple #[(.agg #[(.int .u8 0), (.int .u16 0), (.int .u8 0), (.int .u16 0), (.int .u64 0), (.int .u64 0), (.bool false), (.slice none 0 0)]), (.int .i64 6)])) w55
                 else
                  ∀ w51 : World, (X.Hid (L47) w49 w51) →
                  R (.returned (.tuple #[(.agg #[(.int .u8 0), (.int .u16 0), (.int .u8 0), (.int .u16 0), (.int .u64 0), (.int .u64 0), (.bool false), (.slice none 0 0)]), (.int .i64 6)])) w51
       else
        ∀ w14 : World, (X.Hid (L2) w4 w14) →
        R (.returned (.tuple #[(.agg #[(.int .u8 0), (.int .u16 0), (.int .u8 0), (.int .u16 0), (.int .u64 0), (.int .u64 0), (.bool false), (.slice none 0 0)]), (.int .i64 7)])) w14
      else
       ∀ w11 : World, (X.Hid (L2) w4 w11) →
       R (.returned (.tuple #[(.agg #[(.int .u8 0), (.int .u16 0), (.int .u8 0), (.int .u16 0), (.int .u64 0), (.int .u64 0), (.bool false), (.slice none 0 0)]), (.int .i64 7)])) w11
     else
      ∀ w8 : World, (X.Hid (L2) w4 w8) →
      R (.returned (.tuple #[(.agg #[(.int .u8 0), (.int .u16 0), (.int .u8 0), (.int .u16 0), (.int .u64 0), (.int .u64 0), (.bool false), (.slice none 0 0)]), (.int .i64 7)])) w8) :
    Calls Try.prog 22 #[.slice a al ac] w R :=
  X.calls_of { isLoc := [2, 7], sym := [], loops := [], joins := [] } Try.func22 (by kernel_rfl) h
end Go.Proofs
