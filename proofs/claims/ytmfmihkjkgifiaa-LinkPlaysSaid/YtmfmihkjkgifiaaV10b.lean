import Derived.Test.YtmfmihkjkgifiaaXFn
import Derived.Test.YtmfmihkjkgifiaaProg
/- The verification conditions of this seat's functions, as the engine has them: printed by a program of the bench; checked by the kernel. -/
set_option maxRecDepth 100000
set_option linter.unusedVariables false
namespace Go.Proofs
open Go
abbrev fn_gemotlaw10_knows : Nat := 8
theorem x_gemotlaw10_knows  (w : World) (R : Ending → World → Prop) (h :
  X.CallX Try.prog 25 #[(.int .u64 5), (.int .i64 2)] w fun e1 w2 =>
   ∃ q3 : Option Addr, ∃ q4 : Option Addr, (e1 = .returned (.tuple #[(.pointer (q3)), (.pointer (q4))])) ∧
   ((w).heap.size ≤ (w2).heap.size) ∧
   ∃ q5 : Option Addr, ∃ k6 : Nat, ∃ k7 : Nat, ∃ w8 : World, (Sem.run Try.prog (Go.convert 35 35 (.slice (some ⟨(w2).heap.size, 0, none⟩) 2 2)) (w2.alloc (.cells #[(.int .u8 104), (.int .u8 105)] 5)) = .ok (.slice (q5) k6 k7) w8) ∧
   (((w2.alloc (.cells #[(.int .u8 104), (.int .u8 105)] 5))).heap.size ≤ (w8).heap.size) ∧
   X.CallX Try.prog 13 #[(.pointer (q3)), (.slice (q5) k6 k7)] w8 fun e9 w10 =>
    ∃ n11 : Int, (e9 = .returned (.int .i64 n11)) ∧
    ((w8).heap.size ≤ (w10).heap.size) ∧
    X.CallX Try.prog 16 #[(.pointer (q3)), (.int .i64 0)] w10 fun e12 w13 =>
     ∃ q14 : Option Addr, ∃ k15 : Nat, ∃ k16 : Nat, (e12 = .returned (.slice (q14) k15 k16)) ∧
     ((w10).heap.size ≤ (w13).heap.size) ∧
     X.CallX Try.prog 12 #[(.int .i64 n11)] w13 fun e17 w18 =>
      ∃ n19 : Int, (e17 = .returned (.int .i64 n19)) ∧
      ((w13).heap.size ≤ (w18).heap.size) ∧
      if ((n19 != 0) || (((k15 : Nat) : Int) != 1)) = true then
       R (.returned (.bool false)) w18
      else
       ((0 : Int) ≤ 0) ∧
       ((0 : Int) < ((k15 : Nat) : Int)) ∧
       X.onSome (q14) fun p20 =>
       ∃ n21 : Int, ∃ n22 : Int, ∃ n23 : Int, ∃ n24 : Int, ∃ n25 : Int, ∃ n26 : Int, ∃ b27 : Bool, ∃ q28 : Option Addr, ∃ k29 : Nat, ∃ k30 : Nat, (X.Cells w18 (p20.add 0) [(.int .u8 n21), (.int .u16 n22), (.int .u8 n23), (.int .u16 n24), (.int .u64 n25), (.int .u64 n26), (.bool b27), (.slice (q28) k29 k30)]) ∧
       X.CallX Try.prog 19 #[(.pointer (q4)), (.agg #[(.int .u8 n21), (.int .u16 n22), (.int .u8 n23), (.int .u16 n24), (.int .u64 n25), (.int .u64 n26), (.bool b27), (.slice (q28) k29 k30)])] w18 fun e31 w32 =>
        ∃ q33 : Option Addr, ∃ k34 : Nat, ∃ k35 : Nat, (e31 = .returned (.slice (q33) k34 k35)) ∧
        ((w18).heap.size ≤ (w32).heap.size) ∧
        if ((((k34 : Nat) : Int) == 1) == true) = true then
         ((0 : Int) ≤ 0) ∧
         ((0 : Int) < ((k34 : Nat) : Int)) ∧
         X.onSome (q33) fun p36 =>
         ∃ q37 : Option Addr, ∃ k38 : Nat, ∃ k39 : Nat, (World.cell? w32 (p36.add 0) = some (.slice (q37) k38 k39)) ∧
         ∃ s40 : ByteArray, ∃ w41 : World, (Sem.run Try.prog (Go.convert 35 9 (.slice (q37) k38 k39)) w32 = .ok (.string s40) w41) ∧
         ((w32).heap.size ≤ (w41).heap.size) ∧
         if ((true && ((s40.toList) == ((ByteArray.mk #[OfNat.ofNat 104, OfNat.ofNat 105]).toList))) == true) = true then
          X.CallX Try.prog 24 #[(.pointer (q4))] w41 fun e42 w43 =>
           ∃ n44 : Int, (e42 = .returned (.int .u64 n44)) ∧
           ((w41).heap.size ≤ (w43).heap.size) ∧
           if ((true && (n44 == 6)) == true) = true then
            X.CallX Try.prog 22 #[(.pointer (q3))] w43 fun e45 w46 =>
             ∃ n47 : Int, (e45 = .returned (.int .i64 n47)) ∧
             ((w43).heap.size ≤ (w46).heap.size) ∧
             if ((true && (n47 == 1)) == true) = true then
              X.CallX Try.prog 23 #[(.pointer (q3))] w46 fun e48 w49 =>
               ∃ b50 : Bool, (e48 = .returned (.bool b50)) ∧
               ((w46).heap.size ≤ (w49).heap.size) ∧
               R (.returned (.bool (true && (!b50)))) w49
             else
              R (.returned (.bool false)) w46
           else
            R (.returned (.bool false)) w43
         else
          R (.returned (.bool false)) w41
        else
         R (.returned (.bool false)) w32) :
    Calls Try.prog 8 #[] w R :=
  X.calls_of { isLoc := [], sym := [], loops := [], joins := [] } Try.func8 (by kernel_rfl) h
abbrev fn_gemotlaw10_LinkNil : Nat := 6
theorem x_gemotlaw10_LinkNil (a : Option Addr) (al ac : Nat) (b_0 b_1 b_2 b_3 b_4 b_5 : Int) (b_6 : Bool) (b_7 : Option Addr) (b_7l b_7c : Nat) (w : World) (R : Ending → World → Prop) (h :
  if (decide ((IntKind.wrap .i64 (((al : Nat) : Int) + ((b_7l : Nat) : Int))) > 3000)) = true then
   ∀ w49 : World, ∀ L50 : List Nat, (X.Hid [] w w49) →
   (X.NewL (w).heap.size [] w w49 L50) →
   X.CallX Try.prog 8 #[] w49 fun e51 w52 =>
    ∃ b53 : Bool, (e51 = .returned (.bool b53)) ∧
    (X.Kept L50 w49 w52) ∧
    R (.returned (.bool b53)) w52
  else
   ∀ w1 : World, ∀ L2 : List Nat, (X.Hid [] w w1) →
   (X.NewL (w).heap.size [] w w1 L2) →
   ∃ x3 : Option Addr → Int → World → List Nat → Prop, ∃ x4 : Option Addr → Int → World → Nat, (x3 (none) 0 w1 (L2)) ∧
   ∀ q5 : Option Addr, ∀ n6 : Int, ∀ w7 : World, ∀ L8 : List Nat, (X.LF (w).heap.size w7 L8) →
   (x3 q5 n6 w7 L8) →
   if (decide (n6 < 2)) = true then
    X.CallX Try.prog 13 #[(.pointer (q5)), (.slice (a) al ac)] w7 fun e12 w13 =>
     ∃ n14 : Int, (e12 = .returned (.int .i64 n14)) ∧
     (X.Kept L8 w7 w13) ∧
     X.CallX Try.prog 12 #[(.int .i64 n14)] w13 fun e15 w16 =>
      ∃ n17 : Int, (e15 = .returned (.int .i64 n17)) ∧
      (X.Kept L8 w13 w16) ∧
      if ((n17 != 1) == false) = true then
       X.CallX Try.prog 20 #[(.agg #[(.int .u8 b_0), (.int .u16 b_1), (.int .u8 b_2), (.int .u16 b_3), (.int .u64 b_4), (.int .u64 b_5), (.bool b_6), (.slice (b_7) b_7l b_7c)])] w16 fun e18 w19 =>
        ∃ n20 : Int, ∃ n21 : Int, ∃ n22 : Int, ∃ n23 : Int, ∃ n24 : Int, ∃ n25 : Int, ∃ b26 : Bool, ∃ q27 : Option Addr, ∃ k28 : Nat, ∃ k29 : Nat, (e18 = .returned (.agg #[(.int .u8 n20), (.int .u16 n21), (.int .u8 n22), (.int .u16 n23), (.int .u64 n24), (.int .u64 n25), (.bool b26), (.slice (q27) k28 k29)])) ∧
        (X.Kept L8 w16 w19) ∧
        X.CallX Try.prog 19 #[(.pointer (q5)), (.agg #[(.int .u8 n20), (.int .u16 n21), (.int .u8 n22), (.int .u16 n23), (.int .u64 n24), (.int .u64 n25), (.bool b26), (.slice (q27) k28 k29)])] w19 fun e30 w31 =>
         ∃ q32 : Option Addr, ∃ k33 : Nat, ∃ k34 : Nat, (e30 = .returned (.slice (q32) k33 k34)) ∧
         (X.Kept L8 w19 w31) ∧
         if ((false || (((k33 : Nat) : Int) != 0)) == false) = true then
          X.CallX Try.prog 16 #[(.pointer (q5)), (.int .i64 5)] w31 fun e35 w36 =>
           ∃ q37 : Option Addr, ∃ k38 : Nat, ∃ k39 : Nat, (e35 = .returned (.slice (q37) k38 k39)) ∧
           (X.Kept L8 w31 w36) ∧
           if ((false || (((k38 : Nat) : Int) != 0)) == false) = true then
            X.CallX Try.prog 22 #[(.pointer (q5))] w36 fun e40 w41 =>
             ∃ n42 : Int, (e40 = .returned (.int .i64 n42)) ∧
             (X.Kept L8 w36 w41) ∧
             if ((false || (n42 != 0)) == false) = true then
              X.CallX Try.prog 23 #[(.pointer (q5))] w41 fun e43 w44 =>
               ∃ b45 : Bool, (e43 = .returned (.bool b45)) ∧
               (X.Kept L8 w41 w44) ∧
               if ((false || b45) == false) = true then
                X.CallX Try.prog 24 #[(.pointer (q5))] w44 fun e46 w47 =>
                 ∃ n48 : Int, (e46 = .returned (.int .u64 n48)) ∧
                 (X.Kept L8 w44 w47) ∧
                 if (false || (n48 != 0)) = true then
                  R (.returned (.bool false)) w47
                 else
                  (([(.int .u8 b_0), (.int .u16 b_1), (.int .u8 b_2), (.int .u16 b_3), (.int .u64 b_4), (.int .u64 b_5), (.bool b_6), (.slice (b_7) b_7l b_7c)] : List Value) = [(.int .u8 b_0), (.int .u16 b_1), (.int .u8 b_2), (.int .u16 b_3), (.int .u64 b_4), (.int .u64 b_5), (.bool b_6), (.slice (b_7) b_7l b_7c)]) ∧
                  (x3 (some (Addr.mk w47.heap.size 0 none)) (IntKind.wrap .i64 (n6 + 1)) (w47.alloc (.cells #[(.int .u8 0), (.int .u16 0), (.int .u8 0), (.int .u16 0), (.int .i64 0), (.int .u64 0), (.int .u64 0), (.slice none 0 0), (.map none), (.bool false)] 82)) (L8)) ∧
                  Nat.le ((x4 (some (Addr.mk w47.heap.size 0 none)) (IntKind.wrap .i64 (n6 + 1)) (w47.alloc (.cells #[(.int .u8 0), (.int .u16 0), (.int .u8 0), (.int .u16 0), (.int .i64 0), (.int .u64 0), (.int .u64 0), (.slice none 0 0), (.map none), (.bool false)] 82))) + 1) (x4 q5 n6 w7)
               else
                R (.returned (.bool false)) w44
             else
              R (.returned (.bool false)) w41
           else
            R (.returned (.bool false)) w36
         else
          R (.returned (.bool false)) w31
      else
       R (.returned (.bool false)) w16
   else
    X.CallX Try.prog 8 #[] w7 fun e9 w10 =>
     ∃ b11 : Bool, (e9 = .returned (.bool b11)) ∧
     (X.Kept L8 w7 w10) ∧
     R (.returned (.bool b11)) w10) :
    Calls Try.prog 6 #[.slice a al ac, .agg #[.int .u8 b_0, .int .u16 b_1, .int .u8 b_2, .int .u16 b_3, .int .u64 b_4, .int .u64 b_5, .bool b_6, .slice b_7 b_7l b_7c]] w R :=
  X.calls_of { isLoc := [3], sym := [], loops := [(5, .inv [(5, .ptr), (6, .int .i64)] [] true)], joins := [] } Try.func6 (by kernel_rfl) h
abbrev fn_gemotlaw10_LinkBounds : Nat := 5
theorem x_gemotlaw10_LinkBounds (a b : Int) (w : World) (R : Ending → World → Prop) (h :
  X.CallX Try.prog 25 #[(.int .u64 (IntKind.wrap .u64 (18446744073709551615 - (b.tmod 50)))), (.int .i64 1)] w fun e1 w2 =>
   ∃ q3 : Option Addr, ∃ q4 : Option Addr, (e1 = .returned (.tuple #[(.pointer (q3)), (.pointer (q4))])) ∧
   ((w).heap.size ≤ (w2).heap.size) ∧
   ∃ x5 : Int → Int → World → List Nat → Prop, ∃ x6 : Int → Int → World → Nat, (x5 0 0 w2 []) ∧
   ∀ n7 : Int, ∀ n8 : Int, ∀ w9 : World, ∀ L10 : List Nat, (X.LF (w).heap.size w9 L10) →
   (x5 n7 n8 w9 L10) →
   if (decide (n8 < ((IntKind.i64.wrap (a.tmod 60 + 60)).tmod 60))) = true then
    X.CallX Try.prog 13 #[(.pointer (q3)), (.slice (some ⟨(w9).heap.size, 0, none⟩) 1 1)] (w9.alloc (.cells #[(.int .u8 (IntKind.wrap .u8 n8))] 5)) fun e22 w23 =>
     ∃ n24 : Int, (e22 = .returned (.int .i64 n24)) ∧
     (((w9.alloc (.cells #[(.int .u8 (IntKind.wrap .u8 n8))] 5))).heap.size ≤ (w23).heap.size) ∧
     X.CallX Try.prog 12 #[(.int .i64 n24)] w23 fun e25 w26 =>
      ∃ n27 : Int, (e25 = .returned (.int .i64 n27)) ∧
      ((w23).heap.size ≤ (w26).heap.size) ∧
      if (n27 == 0) = true then
       if (decide (n8 ≥ 32)) = true then
        if (decide ((IntKind.wrap .u64 n8) ≥ (b.tmod 50)) && decide ((b.tmod 50) ≤ 32)) = true then
         X.CallX Try.prog 12 #[(.int .i64 n24)] w26 fun e49 w50 =>
          ∃ n51 : Int, (e49 = .returned (.int .i64 n51)) ∧
          ((w26).heap.size ≤ (w50).heap.size) ∧
          if (n51 != 11) = true then
           R (.returned (.bool false)) w50
          else
           (x5 (IntKind.wrap .i64 (n7 + 1)) (IntKind.wrap .i64 (n8 + 1)) w50 []) ∧
           Nat.le ((x6 (IntKind.wrap .i64 (n7 + 1)) (IntKind.wrap .i64 (n8 + 1)) w50) + 1) (x6 n7 n8 w9)
        else
         X.CallX Try.prog 12 #[(.int .i64 n24)] w26 fun e46 w47 =>
          ∃ n48 : Int, (e46 = .returned (.int .i64 n48)) ∧
          ((w26).heap.size ≤ (w47).heap.size) ∧
          if (n48 != 10) = true then
           R (.returned (.bool false)) w47
          else
           (x5 (IntKind.wrap .i64 (n7 + 1)) (IntKind.wrap .i64 (n8 + 1)) w47 []) ∧
           Nat.le ((x6 (IntKind.wrap .i64 (n7 + 1)) (IntKind.wrap .i64 (n8 + 1)) w47) + 1) (x6 n7 n8 w9)
       else
        if (decide ((IntKind.wrap .u64 n8) ≥ (b.tmod 50)) && decide ((b.tmod 50) ≤ 32)) = true then
         X.CallX Try.prog 12 #[(.int .i64 n24)] w26 fun e43 w44 =>
          ∃ n45 : Int, (e43 = .returned (.int .i64 n45)) ∧
          ((w26).heap.size ≤ (w44).heap.size) ∧
          if (n45 != 11) = true then
           R (.returned (.bool false)) w44
          else
           (x5 (IntKind.wrap .i64 (n7 + 1)) (IntKind.wrap .i64 (n8 + 1)) w44 []) ∧
           Nat.le ((x6 (IntKind.wrap .i64 (n7 + 1)) (IntKind.wrap .i64 (n8 + 1)) w44) + 1) (x6 n7 n8 w9)
        else
         X.CallX Try.prog 12 #[(.int .i64 n24)] w26 fun e40 w41 =>
          ∃ n42 : Int, (e40 = .returned (.int .i64 n42)) ∧
          ((w26).heap.size ≤ (w41).heap.size) ∧
          if (n42 != 0) = true then
           R (.returned (.bool false)) w41
          else
           (x5 (IntKind.wrap .i64 (n7 + 1)) (IntKind.wrap .i64 (n8 + 1)) w41 []) ∧
           Nat.le ((x6 (IntKind.wrap .i64 (n7 + 1)) (IntKind.wrap .i64 (n8 + 1)) w41) + 1) (x6 n7 n8 w9)
      else
       if (decide (n8 ≥ 32)) = true then
        if (decide ((IntKind.wrap .u64 n8) ≥ (b.tmod 50)) && decide ((b.tmod 50) ≤ 32)) = true then
         X.CallX Try.prog 12 #[(.int .i64 n24)] w26 fun e37 w38 =>
          ∃ n39 : Int, (e37 = .returned (.int .i64 n39)) ∧
          ((w26).heap.size ≤ (w38).heap.size) ∧
          if (n39 != 11) = true then
           R (.returned (.bool false)) w38
          else
           (x5 n7 (IntKind.wrap .i64 (n8 + 1)) w38 []) ∧
           Nat.le ((x6 n7 (IntKind.wrap .i64 (n8 + 1)) w38) + 1) (x6 n7 n8 w9)
        else
         X.CallX Try.prog 12 #[(.int .i64 n24)] w26 fun e34 w35 =>
          ∃ n36 : Int, (e34 = .returned (.int .i64 n36)) ∧
          ((w26).heap.size ≤ (w35).heap.size) ∧
          if (n36 != 10) = true then
           R (.returned (.bool false)) w35
          else
           (x5 n7 (IntKind.wrap .i64 (n8 + 1)) w35 []) ∧
           Nat.le ((x6 n7 (IntKind.wrap .i64 (n8 + 1)) w35) + 1) (x6 n7 n8 w9)
       else
        if (decide ((IntKind.wrap .u64 n8) ≥ (b.tmod 50)) && decide ((b.tmod 50) ≤ 32)) = true then
         X.CallX Try.prog 12 #[(.int .i64 n24)] w26 fun e31 w32 =>
          ∃ n33 : Int, (e31 = .returned (.int .i64 n33)) ∧
          ((w26).heap.size ≤ (w32).heap.size) ∧
          if (n33 != 11) = true then
           R (.returned (.bool false)) w32
          else
           (x5 n7 (IntKind.wrap .i64 (n8 + 1)) w32 []) ∧
           Nat.le ((x6 n7 (IntKind.wrap .i64 (n8 + 1)) w32) + 1) (x6 n7 n8 w9)
        else
         X.CallX Try.prog 12 #[(.int .i64 n24)] w26 fun e28 w29 =>
          ∃ n30 : Int, (e28 = .returned (.int .i64 n30)) ∧
          ((w26).heap.size ≤ (w29).heap.size) ∧
          if (n30 != 0) = true then
           R (.returned (.bool false)) w29
          else
           (x5 n7 (IntKind.wrap .i64 (n8 + 1)) w29 []) ∧
           Nat.le ((x6 n7 (IntKind.wrap .i64 (n8 + 1)) w29) + 1) (x6 n7 n8 w9)
   else
    X.CallX Try.prog 22 #[(.pointer (q3))] w9 fun e11 w12 =>
     ∃ n13 : Int, (e11 = .returned (.int .i64 n13)) ∧
     ((w9).heap.size ≤ (w12).heap.size) ∧
     if ((n13 == (if (if (IntKind.wrap .i64 (b.tmod 50)) < 32 then (IntKind.wrap .i64 (b.tmod 50)) else 32) < ((IntKind.i64.wrap (a.tmod 60 + 60)).tmod 60) then (if (IntKind.wrap .i64 (b.tmod 50)) < 32 then (IntKind.wrap .i64 (b.tmod 50)) else 32) else ((IntKind.i64.wrap (a.tmod 60 + 60)).tmod 60))) == true) = true then
      X.CallX Try.prog 16 #[(.pointer (q3)), (.int .i64 0)] w12 fun e14 w15 =>
       ∃ q16 : Option Addr, ∃ k17 : Nat, ∃ k18 : Nat, (e14 = .returned (.slice (q16) k17 k18)) ∧
       ((w12).heap.size ≤ (w15).heap.size) ∧
       if ((true && (((k17 : Nat) : Int) == (if n7 < 8 then n7 else 8))) == true) = true then
        X.CallX Try.prog 8 #[] w15 fun e19 w20 =>
         ∃ b21 : Bool, (e19 = .returned (.bool b21)) ∧
         ((w15).heap.size ≤ (w20).heap.size) ∧
         R (.returned (.bool (true && b21))) w20
       else
        R (.returned (.bool false)) w15
     else
      R (.returned (.bool false)) w12) :
    Calls Try.prog 5 #[.int .i64 a, .int .u64 b] w R :=
  X.calls_of { isLoc := [], sym := [], loops := [(5, .inv [(7, .int .i64), (8, .int .i64)] [] true)], joins := [] } Try.func5 (by kernel_rfl) h
end Go.Proofs
