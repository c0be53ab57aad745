import Derived.Test.YtpijekgiblcfhaaXFn
import Derived.Test.YtpijekgiblcfhaaProg
/- The verification conditions of this seat's functions, as the engine has them: printed by a program of the bench; checked by the kernel. -/
set_option maxRecDepth 100000
set_option linter.unusedVariables false
namespace Go.Proofs
open Go
abbrev fn_gemotlaw14_AmoFew : Nat := 5
theorem x_gemotlaw14_AmoFew (a : Int) (b : Option Addr) (bl bc : Nat) (w : World) (R : Ending → World → Prop) (h :
  X.CallX Try.prog 8 #[(.slice (b) bl bc)] w fun e1 w2 =>
   ∃ b3 : Bool, (e1 = .returned (.bool b3)) ∧
   ((w).heap.size ≤ (w2).heap.size) ∧
   if ((!b3) == false) = true then
    X.CallX Try.prog 9 #[] w2 fun e7 w8 =>
     ∃ b9 : Bool, (e7 = .returned (.bool b9)) ∧
     ((w2).heap.size ≤ (w8).heap.size) ∧
     if (false || (!b9)) = true then
      X.CallX Try.prog 9 #[] w8 fun e95 w96 =>
       ∃ b97 : Bool, (e95 = .returned (.bool b97)) ∧
       ((w8).heap.size ≤ (w96).heap.size) ∧
       R (.returned (.bool b97)) w96
     else
      X.CallX Try.prog 10 #[(.int .i64 a)] w8 fun e10 w11 =>
       ∃ q12 : Option Addr, (e10 = .returned (.pointer (q12))) ∧
       ((w8).heap.size ≤ (w11).heap.size) ∧
       ∃ x13 : Int → World → List Nat → Prop, ∃ x14 : Int → World → Nat, (x13 0 w11 []) ∧
       ∀ n15 : Int, ∀ w16 : World, ∀ L17 : List Nat, (X.LF (w).heap.size w16 L17) →
       (x13 n15 w16 L17) →
       if (decide (n15 < ((bl : Nat) : Int))) = true then
        ((0 : Int) ≤ n15) ∧
        (n15 < ((bl : Nat) : Int)) ∧
        X.onSome (b) fun p18 =>
        ∃ n19 : Int, ∃ n20 : Int, ∃ n21 : Int, ∃ n22 : Int, ∃ n23 : Int, ∃ n24 : Int, ∃ n25 : Int, ∃ n26 : Int, ∃ n27 : Int, ∃ n28 : Int, ∃ n29 : Int, ∃ n30 : Int, ∃ s31 : ByteArray, ∃ n32 : Int, (X.Cells w16 (p18.add ((n15).toNat * 14)) [(.int .i64 n19), (.int .u8 n20), (.int .u16 n21), (.int .u32 n22), (.int .u8 n23), (.int .u8 n24), (.int .u8 n25), (.int .u8 n26), (.int .u8 n27), (.int .u8 n28), (.int .u8 n29), (.int .u8 n30), (.string s31), (.int .u32 n32)]) ∧
        X.CallX Try.prog 11 #[(.pointer (q12)), (.agg #[(.int .i64 n19), (.int .u8 n20), (.int .u16 n21), (.int .u32 n22), (.int .u8 n23), (.int .u8 n24), (.int .u8 n25), (.int .u8 n26), (.int .u8 n27), (.int .u8 n28), (.int .u8 n29), (.int .u8 n30), (.string s31), (.int .u32 n32)])] w16 fun e33 w34 =>
         ∃ b35 : Bool, (e33 = .returned (.bool b35)) ∧
         ((w16).heap.size ≤ (w34).heap.size) ∧
         ((0 : Int) ≤ n15) ∧
         (n15 < ((bl : Nat) : Int)) ∧
         X.onSome (b) fun p36 =>
         ∃ n37 : Int, ∃ n38 : Int, ∃ n39 : Int, ∃ n40 : Int, ∃ n41 : Int, ∃ n42 : Int, ∃ n43 : Int, ∃ n44 : Int, ∃ n45 : Int, ∃ n46 : Int, (X.Cells w34 ((p36.add ((n15).toNat * 14)).add 1) [(.int .u8 n37), (.int .u16 n38), (.int .u32 n39), (.int .u8 n40), (.int .u8 n41), (.int .u8 n42), (.int .u8 n43), (.int .u8 n44), (.int .u8 n45), (.int .u8 n46)]) ∧
         X.CallX Try.prog 17 #[(.agg #[(.int .u8 n37), (.int .u16 n38), (.int .u32 n39), (.int .u8 n40), (.int .u8 n41), (.int .u8 n42), (.int .u8 n43), (.int .u8 n44), (.int .u8 n45), (.int .u8 n46)])] w34 fun e47 w48 =>
          ∃ n49 : Int, ∃ n50 : Int, ∃ n51 : Int, ∃ n52 : Int, ∃ n53 : Int, ∃ n54 : Int, ∃ n55 : Int, ∃ n56 : Int, ∃ n57 : Int, ∃ n58 : Int, (e47 = .returned (.agg #[(.int .u8 n49), (.int .u16 n50), (.int .u32 n51), (.int .u8 n52), (.int .u8 n53), (.int .u8 n54), (.int .u8 n55), (.int .u8 n56), (.int .u8 n57), (.int .u8 n58)])) ∧
          ((w34).heap.size ≤ (w48).heap.size) ∧
          ∀ w59 : World, ∀ L60 : List Nat, (X.Hid [] w48 w59) →
          (X.NewL (w).heap.size [] w48 w59 L60) →
          X.CallX Try.prog 18 #[(.pointer (q12))] w59 fun e61 w62 =>
           ∃ q63 : Option Addr, ∃ k64 : Nat, ∃ k65 : Nat, (e61 = .returned (.slice (q63) k64 k65)) ∧
           (X.Kept L60 w59 w62) ∧
           ∃ x66 : Int → Int → World → List Nat → Prop, ∃ x67 : Int → Int → World → Nat, (x66 0 0 w62 (L60)) ∧
           ∀ n68 : Int, ∀ n69 : Int, ∀ w70 : World, ∀ L71 : List Nat, (X.LF (w).heap.size w70 L71) →
           (x66 n68 n69 w70 L71) →
           if (decide (n69 < ((k64 : Nat) : Int))) = true then
            ((0 : Int) ≤ n69) ∧
            (n69 < ((k64 : Nat) : Int)) ∧
            X.onSome (q63) fun p72 =>
            ∃ n73 : Int, ∃ n74 : Int, ∃ n75 : Int, ∃ n76 : Int, ∃ n77 : Int, ∃ n78 : Int, ∃ n79 : Int, ∃ n80 : Int, ∃ n81 : Int, ∃ n82 : Int, (X.Cells w70 ((p72.add ((n69).toNat * 13)).add 0) [(.int .u8 n73), (.int .u16 n74), (.int .u32 n75), (.int .u8 n76), (.int .u8 n77), (.int .u8 n78), (.int .u8 n79), (.int .u8 n80), (.int .u8 n81), (.int .u8 n82)]) ∧
            (¬ ((((p72.add (n69.toNat * 13)).add 0).block) ∈ L71)) ∧
            ∃ x83 : X.Facts, (X.FactsW x83 w70 (L71)) ∧
            if ((((n73 == n49) && (n74 == n50)) && (n76 == 0)) == true) = true then
             ((0 : Int) ≤ n69) ∧
             (n69 < ((k64 : Nat) : Int)) ∧
             X.onSome (q63) fun p86 =>
             ∃ b87 : Bool, ((((p86.add ((n69).toNat * 13)).add 10), [(.bool b87)]) ∈ x83) ∧
             if (b87 == false) = true then
              ∀ w90 : World, ∀ L91 : List Nat, (X.Hid (L71) w70 w90) →
              (X.NewL (w).heap.size (L71) w70 w90 L91) →
              X.CallX Try.prog 19 #[(.pointer (q12)), (.agg #[(.int .u8 n73), (.int .u16 n74)])] w90 fun e92 w93 =>
               ∃ n94 : Int, (e92 = .returned (.int .u32 n94)) ∧
               (X.Kept L91 w90 w93) ∧
               (X.FactsW x83 w93 (L91)) ∧
               if (true && (false || decide (n75 > n94))) = true then
                (([(.int .u8 n49), (.int .u16 n50), (.int .u32 n51), (.int .u8 n52), (.int .u8 n53), (.int .u8 n54), (.int .u8 n55), (.int .u8 n56), (.int .u8 n57), (.int .u8 n58)] : List Value) = [(.int .u8 n49), (.int .u16 n50), (.int .u32 n51), (.int .u8 n52), (.int .u8 n53), (.int .u8 n54), (.int .u8 n55), (.int .u8 n56), (.int .u8 n57), (.int .u8 n58)]) ∧
                (x66 (IntKind.wrap .i64 (n68 + 1)) (IntKind.wrap .i64 (n69 + 1)) w93 (L91)) ∧
                Nat.le ((x67 (IntKind.wrap .i64 (n68 + 1)) (IntKind.wrap .i64 (n69 + 1)) w93) + 1) (x67 n68 n69 w70)
               else
                (([(.int .u8 n49), (.int .u16 n50), (.int .u32 n51), (.int .u8 n52), (.int .u8 n53), (.int .u8 n54), (.int .u8 n55), (.int .u8 n56), (.int .u8 n57), (.int .u8 n58)] : List Value) = [(.int .u8 n49), (.int .u16 n50), (.int .u32 n51), (.int .u8 n52), (.int .u8 n53), (.int .u8 n54), (.int .u8 n55), (.int .u8 n56), (.int .u8 n57), (.int .u8 n58)]) ∧
                (x66 n68 (IntKind.wrap .i64 (n69 + 1)) w93 (L91)) ∧
                Nat.le ((x67 n68 (IntKind.wrap .i64 (n69 + 1)) w93) + 1) (x67 n68 n69 w70)
             else
              ∀ w88 : World, ∀ L89 : List Nat, (X.Hid (L71) w70 w88) →
              (X.NewL (w).heap.size (L71) w70 w88 L89) →
              (([(.int .u8 n49), (.int .u16 n50), (.int .u32 n51), (.int .u8 n52), (.int .u8 n53), (.int .u8 n54), (.int .u8 n55), (.int .u8 n56), (.int .u8 n57), (.int .u8 n58)] : List Value) = [(.int .u8 n49), (.int .u16 n50), (.int .u32 n51), (.int .u8 n52), (.int .u8 n53), (.int .u8 n54), (.int .u8 n55), (.int .u8 n56), (.int .u8 n57), (.int .u8 n58)]) ∧
              (x66 (IntKind.wrap .i64 (n68 + 1)) (IntKind.wrap .i64 (n69 + 1)) w88 (L89)) ∧
              Nat.le ((x67 (IntKind.wrap .i64 (n68 + 1)) (IntKind.wrap .i64 (n69 + 1)) w88) + 1) (x67 n68 n69 w70)
            else
             ∀ w84 : World, ∀ L85 : List Nat, (X.Hid (L71) w70 w84) →
             (X.NewL (w).heap.size (L71) w70 w84 L85) →
             (([(.int .u8 n49), (.int .u16 n50), (.int .u32 n51), (.int .u8 n52), (.int .u8 n53), (.int .u8 n54), (.int .u8 n55), (.int .u8 n56), (.int .u8 n57), (.int .u8 n58)] : List Value) = [(.int .u8 n49), (.int .u16 n50), (.int .u32 n51), (.int .u8 n52), (.int .u8 n53), (.int .u8 n54), (.int .u8 n55), (.int .u8 n56), (.int .u8 n57), (.int .u8 n58)]) ∧
             (x66 n68 (IntKind.wrap .i64 (n69 + 1)) w84 (L85)) ∧
             Nat.le ((x67 n68 (IntKind.wrap .i64 (n69 + 1)) w84) + 1) (x67 n68 n69 w70)
           else
            if (decide (n68 > (if (16 : Int) < (if (1 : Int) > a then 1 else a) then 16 else (if (1 : Int) > a then 1 else a)))) = true then
             R (.returned (.bool false)) w70
            else
             (x13 (IntKind.wrap .i64 (n15 + 1)) w70 (L71)) ∧
             Nat.le ((x14 (IntKind.wrap .i64 (n15 + 1)) w70) + 1) (x14 n15 w16)
       else
        R (.returned (.bool true)) w16
   else
    X.CallX Try.prog 9 #[] w2 fun e4 w5 =>
     ∃ b6 : Bool, (e4 = .returned (.bool b6)) ∧
     ((w2).heap.size ≤ (w5).heap.size) ∧
     R (.returned (.bool b6)) w5) :
    Calls Try.prog 5 #[.int .i64 a, .slice b bl bc] w R :=
  X.calls_of { isLoc := [8, 12], sym := [], loops := [(6, .inv [(7, .int .i64)] [] true), (13, .inv [(10, .int .i64), (11, .int .i64)] [] true)], joins := [] } Try.func5 (by kernel_rfl) h
end Go.Proofs
