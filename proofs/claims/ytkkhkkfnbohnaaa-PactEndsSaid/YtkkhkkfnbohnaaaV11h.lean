import Derived.Test.YtkkhkkfnbohnaaaXFn
import Derived.Test.YtkkhkkfnbohnaaaProg
/- The verification conditions of this seat's functions, as the engine has them: printed by a program of the bench; checked by the kernel. -/
set_option maxRecDepth 100000
set_option linter.unusedVariables false
namespace Go.Proofs
open Go
abbrev fn_PactEnds : Nat := 5
theorem x_PactEnds (a : Int) (b : Option Addr) (bl bc : Nat) (c : Int) (w : World) (R : Ending → World → Prop) (h :
  if ((decide (((bl : Nat) : Int) > 60)) == false) = true then
   X.CallX Try.prog 9 #[] w fun e4 w5 =>
    ∃ b6 : Bool, (e4 = .returned (.bool b6)) ∧
    ((w).heap.size ≤ (w5).heap.size) ∧
    if (false || (!b6)) = true then
     X.CallX Try.prog 9 #[] w5 fun e111 w112 =>
      ∃ b113 : Bool, (e111 = .returned (.bool b113)) ∧
      ((w5).heap.size ≤ (w112).heap.size) ∧
      R (.returned (.bool b113)) w112
    else
     ∃ x7 : Int → World → List Nat → Prop, ∃ x8 : Int → World → Nat, (x7 0 (w5.alloc (.cells #[(.int .i64 (IntKind.wrap .i64 (1 + ((IntKind.i64.wrap (a.tmod 5 + 5)).tmod 5)))), (.pointer none), (.pointer none), (.pointer none), (.pointer none), (.pointer none), (.pointer none), (.pointer none), (.pointer none), (.pointer none), (.pointer none), (.slice none 0 0), (.slice none 0 0), (.slice none 0 0), (.slice none 0 0), (.slice none 0 0), (.slice none 0 0), (.slice none 0 0), (.slice none 0 0), (.slice none 0 0), (.slice none 0 0), (.bool false), (.bool false), (.bool false), (.bool false), (.bool false)] 94)) []) ∧
     ∀ n9 : Int, ∀ w10 : World, ∀ L11 : List Nat, (X.LF (w).heap.size w10 L11) →
     (x7 n9 w10 L11) →
     if (decide (n9 < 5)) = true then
      ∃ x106 : X.Facts, (X.FactsW x106 w10 []) ∧
      ∀ w107 : World, (X.Hid [] w10 w107) →
      X.CallX Try.prog 10 #[] w107 fun e108 w109 =>
       ∃ q110 : Option Addr, (e108 = .returned (.pointer (q110))) ∧
       ((w107).heap.size ≤ (w109).heap.size) ∧
       ((0 : Int) ≤ n9) ∧
       (n9 < 5) ∧
       (((((Addr.mk w5.heap.size 0 none).add 1).add (n9.toNat * 1)).spot) = none) ∧
       (World.there w109 ((((Addr.mk w5.heap.size 0 none).add 1).add (n9.toNat * 1)).block) ((((Addr.mk w5.heap.size 0 none).add 1).add (n9.toNat * 1)).off) 1) ∧
       (x7 (IntKind.wrap .i64 (n9 + 1)) (w109.setCells ((((Addr.mk w5.heap.size 0 none).add 1).add (n9.toNat * 1)).block) ((((Addr.mk w5.heap.size 0 none).add 1).add (n9.toNat * 1)).off) [(.pointer (q110))]) []) ∧
       Nat.le ((x8 (IntKind.wrap .i64 (n9 + 1)) (w109.setCells ((((Addr.mk w5.heap.size 0 none).add 1).add (n9.toNat * 1)).block) ((((Addr.mk w5.heap.size 0 none).add 1).add (n9.toNat * 1)).off) [(.pointer (q110))])) + 1) (x8 n9 w10)
     else
      ∃ x12 : Int → Int → World → List Nat → Prop, ∃ x13 : Int → Int → World → Nat, (x12 0 0 w10 []) ∧
      ∀ n14 : Int, ∀ n15 : Int, ∀ w16 : World, ∀ L17 : List Nat, (X.LF (w).heap.size w16 L17) →
      (x12 n14 n15 w16 L17) →
      if (decide (n15 < ((bl : Nat) : Int))) = true then
       ((0 : Int) ≤ n15) ∧
       (n15 < ((bl : Nat) : Int)) ∧
       X.onSome (b) fun p97 =>
       ∃ n98 : Int, ∃ n99 : Int, ∃ n100 : Int, ∃ n101 : Int, ∃ n102 : Int, (X.Cells w16 (p97.add ((n15).toNat * 5)) [(.int .i64 n98), (.int .i64 n99), (.int .i64 n100), (.int .i64 n101), (.int .i64 n102)]) ∧
       X.CallX Try.prog 44 #[(.pointer (some ⟨(w5).heap.size, 0, none⟩)), (.agg #[(.int .i64 n98), (.int .i64 n99), (.int .i64 n100), (.int .i64 n101), (.int .i64 n102)]), (.int .i64 n14)] w16 fun e103 w104 =>
        ∃ n105 : Int, (e103 = .returned (.int .i64 n105)) ∧
        ((w16).heap.size ≤ (w104).heap.size) ∧
        (x12 n105 (IntKind.wrap .i64 (n15 + 1)) w104 []) ∧
        Nat.le ((x13 n105 (IntKind.wrap .i64 (n15 + 1)) w104) + 1) (x13 n14 n15 w16)
      else
       ∃ x18 : Bool → Int → World → List Nat → Prop, ∃ x19 : Bool → Int → World → Nat, (x18 false 0 w16 []) ∧
       ∀ b20 : Bool, ∀ n21 : Int, ∀ w22 : World, ∀ L23 : List Nat, (X.LF (w).heap.size w22 L23) →
       (x18 b20 n21 w22 L23) →
       ∃ n24 : Int, (World.cell? w22 ⟨(w5).heap.size, 0, none⟩ = some (.int .i64 n24)) ∧
       if (decide (n21 < n24)) = true then
        ((0 : Int) ≤ n21) ∧
        (n21 < 5) ∧
        ∃ q84 : Option Addr, (World.cell? w22 ((⟨(w5).heap.size, (0 + 1), none⟩ : Addr).add ((n21).toNat * 1)) = some (.pointer (q84))) ∧
        X.CallX Try.prog 16 #[(.pointer (q84))] w22 fun e85 w86 =>
         ∃ n87 : Int, ∃ q88 : Option Addr, ∃ k89 : Nat, ∃ k90 : Nat, ∃ q91 : Option Addr, ∃ k92 : Nat, ∃ k93 : Nat, ∃ b94 : Bool, (e85 = .returned (.tuple #[(.int .u64 n87), (.agg #[(.slice (q88) k89 k90), (.slice (q91) k92 k93)]), (.bool b94)])) ∧
         ((w22).heap.size ≤ (w86).heap.size) ∧
         ∀ w95 : World, ∀ L96 : List Nat, (X.Hid [] w86 w95) →
         (X.NewL (w).heap.size [] w86 w95 L96) →
         (x18 (b20 || b94) (IntKind.wrap .i64 (n21 + 1)) w95 (L96)) ∧
         Nat.le ((x19 (b20 || b94) (IntKind.wrap .i64 (n21 + 1)) w95) + 1) (x19 b20 n21 w22)
       else
        X.CallX Try.prog 44 #[(.pointer (some ⟨(w5).heap.size, 0, none⟩)), (.agg #[(.int .i64 0), (.int .i64 0), (.int .i64 0), (.int .i64 0), (.int .i64 0)]), (.int .i64 n14)] w22 fun e25 w26 =>
         ∃ n27 : Int, (e25 = .returned (.int .i64 n27)) ∧
         ((w22).heap.size ≤ (w26).heap.size) ∧
         ∃ x28 : Int → World → List Nat → Prop, ∃ x29 : Int → World → Nat, (x28 0 w26 []) ∧
         ∀ n30 : Int, ∀ w31 : World, ∀ L32 : List Nat, (X.LF (w).heap.size w31 L32) →
         (x28 n30 w31 L32) →
         ∃ n33 : Int, (World.cell? w31 ⟨(w5).heap.size, 0, none⟩ = some (.int .i64 n33)) ∧
         if (decide (n30 < n33)) = true then
          X.CallX Try.prog 44 #[(.pointer (some ⟨(w5).heap.size, 0, none⟩)), (.agg #[(.int .i64 1), (.int .i64 n30), (.int .i64 0), (.int .i64 0), (.int .i64 0)]), (.int .i64 n14)] w31 fun e81 w82 =>
           ∃ n83 : Int, (e81 = .returned (.int .i64 n83)) ∧
           ((w31).heap.size ≤ (w82).heap.size) ∧
           (x28 (IntKind.wrap .i64 (n30 + 1)) w82 []) ∧
           Nat.le ((x29 (IntKind.wrap .i64 (n30 + 1)) w82) + 1) (x29 n30 w31)
         else
          X.CallX Try.prog 44 #[(.pointer (some ⟨(w5).heap.size, 0, none⟩)), (.agg #[(.int .i64 2), (.int .i64 0), (.int .i64 0), (.int .i64 c), (.int .i64 0)]), (.int .i64 n14)] w31 fun e34 w35 =>
           ∃ n36 : Int, (e34 = .returned (.int .i64 n36)) ∧
           ((w31).heap.size ≤ (w35).heap.size) ∧
           ∃ x37 : Int → World → List Nat → Prop, ∃ x38 : Int → World → Nat, (x37 0 w35 []) ∧
           ∀ n39 : Int, ∀ w40 : World, ∀ L41 : List Nat, (X.LF (w).heap.size w40 L41) →
           (x37 n39 w40 L41) →
           ∃ n42 : Int, (World.cell? w40 ⟨(w5).heap.size, 0, none⟩ = some (.int .i64 n42)) ∧
           if (decide (n39 < n42)) = true then
            X.CallX Try.prog 44 #[(.pointer (some ⟨(w5).heap.size, 0, none⟩)), (.agg #[(.int .i64 3), (.int .i64 n39), (.int .i64 0), (.int .i64 0), (.int .i64 0)]), (.int .i64 n14)] w40 fun e78 w79 =>
             ∃ n80 : Int, (e78 = .returned (.int .i64 n80)) ∧
             ((w40).heap.size ≤ (w79).heap.size) ∧
             (x37 (IntKind.wrap .i64 (n39 + 1)) w79 []) ∧
             Nat.le ((x38 (IntKind.wrap .i64 (n39 + 1)) w79) + 1) (x38 n39 w40)
           else
            ((0 : Int) ≤ 0) ∧
            ((0 : Int) < 5) ∧
            ∃ q43 : Option Addr, (World.cell? w40 ⟨(w5).heap.size, (0 + 6), none⟩ = some (.pointer (q43))) ∧
            X.CallX Try.prog 39 #[(.pointer (q43))] w40 fun e44 w45 =>
             ∃ q46 : Option Addr, ∃ k47 : Nat, ∃ k48 : Nat, ∃ q49 : Option Addr, ∃ k50 : Nat, ∃ k51 : Nat, (e44 = .returned (.agg #[(.slice (q46) k47 k48), (.slice (q49) k50 k51)])) ∧
             ((w40).heap.size ≤ (w45).heap.size) ∧
             ∃ x52 : X.Facts, (X.FactsW x52 w45 []) ∧
             ((0 : Int) ≤ 0) ∧
             ((0 : Int) < 5) ∧
             ∃ q53 : Option Addr, ((⟨(w5).heap.size, (0 + 6), none⟩, [(.pointer (q53))]) ∈ x52) ∧
             ∀ w54 : World, ∀ L55 : List Nat, (X.Hid [] w45 w54) →
             (X.NewL (w).heap.size [] w45 w54 L55) →
             X.CallX Try.prog 35 #[(.pointer (q53))] w54 fun e56 w57 =>
              ∃ n58 : Int, (e56 = .returned (.int .i64 n58)) ∧
              (X.Kept L55 w54 w57) ∧
              (X.FactsW x52 w57 (L55)) ∧
              ∃ x59 : X.Facts, (X.FactsW x59 w57 (L55)) ∧
              (∀ x60 : Addr × List Value, (x60 ∈ x52) →
               x60 ∈ x59) ∧
              if ((n58 == 2) == true) = true then
               ((0 : Int) ≤ 0) ∧
               ((0 : Int) < 5) ∧
               ∃ q65 : Option Addr, ((⟨(w5).heap.size, (0 + 6), none⟩, [(.pointer (q65))]) ∈ x59) ∧
               X.CallX Try.prog 42 #[(.pointer (q65))] w57 fun e66 w67 =>
                ∃ q68 : Option Addr, ∃ k69 : Nat, ∃ k70 : Nat, (e66 = .returned (.slice (q68) k69 k70)) ∧
                (X.Kept L55 w57 w67) ∧
                (X.FactsW x59 w67 (L55)) ∧
                ∃ x71 : X.Facts, (X.FactsW x71 w67 (L55)) ∧
                (∀ x72 : Addr × List Value, (x72 ∈ x59) →
                 x72 ∈ x71) ∧
                if ((true && (((k69 : Nat) : Int) == 0)) == true) = true then
                 if (b20 == false) = true then
                  ∃ n77 : Int, ((⟨(w5).heap.size, 0, none⟩, [(.int .i64 n77)]) ∈ x71) ∧
                  R (.returned (.bool (true && (false || ((((k50 : Nat) : Int) == (IntKind.wrap .i64 (n77 - 1))) && (((k47 : Nat) : Int) == 1)))))) w67
                 else
                  ∃ x75 : X.Facts, (X.FactsW x75 w67 (L55)) ∧
                  (∀ x76 : Addr × List Value, (x76 ∈ x71) →
                   x76 ∈ x75) ∧
                  R (.returned (.bool true)) w67
                else
                 ∃ x73 : X.Facts, (X.FactsW x73 w67 (L55)) ∧
                 (∀ x74 : Addr × List Value, (x74 ∈ x71) →
                  x74 ∈ x73) ∧
                 R (.returned (.bool false)) w67
              else
               ∃ x61 : X.Facts, (X.FactsW x61 w57 (L55)) ∧
               (∀ x62 : Addr × List Value, (x62 ∈ x59) →
                x62 ∈ x61) ∧
               ∃ x63 : X.Facts, (X.FactsW x63 w57 (L55)) ∧
               (∀ x64 : Addr × List Value, (x64 ∈ x61) →
                x64 ∈ x63) ∧
               R (.returned (.bool false)) w57
  else
   X.CallX Try.prog 9 #[] w fun e1 w2 =>
    ∃ b3 : Bool, (e1 = .returned (.bool b3)) ∧
    ((w).heap.size ≤ (w2).heap.size) ∧
    R (.returned (.bool b3)) w2) :
    Calls Try.prog 5 #[.int .i64 a, .slice b bl bc, .int .i64 c] w R :=
  X.calls_of { isLoc := [14, 18], sym := [43, 70], loops := [(5, .inv [(8, .int .i64)] [] true), (10, .inv [(9, .int .i64), (10, .int .i64)] [] true), (15, .inv [(11, .bool), (12, .int .i64)] [] true), (21, .inv [(16, .int .i64)] [] true), (26, .inv [(17, .int .i64)] [] true)], joins := [] } Try.func5 (by kernel_rfl) h
end Go.Proofs
