import Derived.Test.YtkkhkkfnbohnaaaXFn
import Derived.Test.YtkkhkkfnbohnaaaProg
/- The verification conditions of this seat's functions, as the engine has them: printed by a program of the bench; checked by the kernel. -/
set_option maxRecDepth 100000
set_option linter.unusedVariables false
namespace Go.Proofs
open Go
abbrev fn_step : Nat := 44
theorem x_step (a : Addr) (b_0 b_1 b_2 b_3 b_4 c : Int) (w : World) (R : Ending → World → Prop) (h :
  ∃ n1 : Int, (World.cell? w (a.add 0) = some (.int .i64 n1)) ∧
  (n1 ≠ 0) ∧
  ∃ n2 : Int, (World.cell? w (a.add 0) = some (.int .i64 n2)) ∧
  ∃ n3 : Int, (World.cell? w (a.add 0) = some (.int .i64 n3)) ∧
  (n3 ≠ 0) ∧
  ∃ n4 : Int, (World.cell? w (a.add 0) = some (.int .i64 n4)) ∧
  (n4 ≠ 0) ∧
  ∃ n5 : Int, (World.cell? w (a.add 0) = some (.int .i64 n5)) ∧
  ∃ n6 : Int, (World.cell? w (a.add 0) = some (.int .i64 n6)) ∧
  (n6 ≠ 0) ∧
  ∀ w7 : World, ∀ L8 : List Nat, (X.Hid [] w w7) →
  (X.NewL (w).heap.size [] w w7 L8) →
  ∃ x9 : Option Addr → Nat → Nat → Int → World → List Nat → Prop, ∃ x10 : Option Addr → Nat → Nat → Int → World → Nat, (x9 (none) 0 0 0 w7 (L8)) ∧
  ∀ q11 : Option Addr, ∀ k12 : Nat, ∀ k13 : Nat, ∀ n14 : Int, ∀ w15 : World, ∀ L16 : List Nat, (X.LF (w).heap.size w15 L16) →
  (x9 q11 k12 k13 n14 w15 L16) →
  ∃ n17 : Int, (World.cell? w15 (a.add 0) = some (.int .i64 n17)) ∧
  (¬ (((a.add 0).block) ∈ L16)) ∧
  if (decide (n14 < n17)) = true then
   X.CallX Try.prog 47 #[(.int .i64 n14)] w15 fun e161 w162 =>
    ∃ n163 : Int, ∃ n164 : Int, (e161 = .returned (.agg #[(.int .u8 n163), (.int .u16 n164)])) ∧
    (X.Kept L16 w15 w162) ∧
    ∃ q165 : Option Addr, ∃ k166 : Nat, ∃ k167 : Nat, ∃ w168 : World, (Sem.run Try.prog (Go.Builtin.append_ #[43, 43] 43 #[(.slice (q11) k12 k13), (.slice (some ⟨(w162).heap.size, 0, none⟩) 1 1)]) (w162.alloc (.cells #[(.int .u8 n163), (.int .u16 n164)] 67)) = .ok (.slice (q165) k166 k167) w168) ∧
    (X.Kept L16 (w162.alloc (.cells #[(.int .u8 n163), (.int .u16 n164)] 67)) w168) ∧
    (([(.int .i64 b_0), (.int .i64 b_1), (.int .i64 b_2), (.int .i64 b_3), (.int .i64 b_4)] : List Value) = [(.int .i64 b_0), (.int .i64 b_1), (.int .i64 b_2), (.int .i64 b_3), (.int .i64 b_4)]) ∧
    (x9 q165 k166 k167 (IntKind.wrap .i64 (n14 + 1)) w168 (L16)) ∧
    Nat.le ((x10 q165 k166 k167 (IntKind.wrap .i64 (n14 + 1)) w168) + 1) (x10 q11 k12 k13 n14 w15)
  else
   if (b_0 == 0) = true then
    ∃ x152 : X.Facts, (X.FactsW x152 w15 (L16)) ∧
    ∀ w153 : World, ∀ L154 : List Nat, (X.Hid (L16) w15 w153) →
    (X.NewL (w).heap.size (L16) w15 w153 L154) →
    X.CallX Try.prog 20 #[(.int .u32 (IntKind.wrap .u32 (IntKind.wrap .i64 (c + 1)))), (.int .u8 (IntKind.wrap .u8 ((IntKind.i64.wrap (b_1.tmod n1 + n2)).tmod n3)))] w153 fun e155 w156 =>
     ∃ n157 : Int, (e155 = .returned (.int .u64 n157)) ∧
     (X.Kept L154 w153 w156) ∧
     X.CallX Try.prog 23 #[(.agg #[(.int .u8 0), (.int .u32 1), (.slice (q11) k12 k13)]), (.int .u64 n157)] w156 fun e158 w159 =>
      ∃ q160 : Option Addr, (e158 = .returned (.pointer (q160))) ∧
      (X.Kept L154 w156 w159) ∧
      ((0 : Int) ≤ ((IntKind.i64.wrap (b_1.tmod n1 + n2)).tmod n3)) ∧
      (((IntKind.i64.wrap (b_1.tmod n1 + n2)).tmod n3) < 5) ∧
      ((((a.add 6).add (((IntKind.i64.wrap (b_1.tmod n1 + n2)).tmod n3).toNat * 1)).spot) = none) ∧
      (World.there w159 (((a.add 6).add (((IntKind.i64.wrap (b_1.tmod n1 + n2)).tmod n3).toNat * 1)).block) (((a.add 6).add (((IntKind.i64.wrap (b_1.tmod n1 + n2)).tmod n3).toNat * 1)).off) 1) ∧
      (¬ ((((a.add 6).add (((IntKind.i64.wrap (b_1.tmod n1 + n2)).tmod n3).toNat * 1)).block) ∈ L154)) ∧
      ((0 : Int) ≤ ((IntKind.i64.wrap (b_1.tmod n1 + n2)).tmod n3)) ∧
      (((IntKind.i64.wrap (b_1.tmod n1 + n2)).tmod n3) < 5) ∧
      ((((a.add 21).add (((IntKind.i64.wrap (b_1.tmod n1 + n2)).tmod n3).toNat * 1)).spot) = none) ∧
      (World.there (w159.setCells (((a.add 6).add (((IntKind.i64.wrap (b_1.tmod n1 + n2)).tmod n3).toNat * 1)).block) (((a.add 6).add (((IntKind.i64.wrap (b_1.tmod n1 + n2)).tmod n3).toNat * 1)).off) [(.pointer (q160))]) (((a.add 21).add (((IntKind.i64.wrap (b_1.tmod n1 + n2)).tmod n3).toNat * 1)).block) (((a.add 21).add (((IntKind.i64.wrap (b_1.tmod n1 + n2)).tmod n3).toNat * 1)).off) 1) ∧
      (¬ ((((a.add 21).add (((IntKind.i64.wrap (b_1.tmod n1 + n2)).tmod n3).toNat * 1)).block) ∈ L154)) ∧
      R (.returned (.int .i64 (IntKind.wrap .i64 (c + 1)))) ((w159.setCells (((a.add 6).add (((IntKind.i64.wrap (b_1.tmod n1 + n2)).tmod n3).toNat * 1)).block) (((a.add 6).add (((IntKind.i64.wrap (b_1.tmod n1 + n2)).tmod n3).toNat * 1)).off) [(.pointer (q160))]).setCells (((a.add 21).add (((IntKind.i64.wrap (b_1.tmod n1 + n2)).tmod n3).toNat * 1)).block) (((a.add 21).add (((IntKind.i64.wrap (b_1.tmod n1 + n2)).tmod n3).toNat * 1)).off) [(.bool false)])
   else
    if (b_0 == 1) = true then
     ((0 : Int) ≤ ((IntKind.i64.wrap (b_2.tmod n4 + n5)).tmod n6)) ∧
     (((IntKind.i64.wrap (b_2.tmod n4 + n5)).tmod n6) < 5) ∧
     ∃ q118 : Option Addr, (World.cell? w15 ((a.add 6).add ((((IntKind.i64.wrap (b_2.tmod n4 + n5)).tmod n6)).toNat * 1)) = some (.pointer (q118))) ∧
     (¬ ((((a.add 6).add (((IntKind.i64.wrap (b_2.tmod n4 + n5)).tmod n6).toNat * 1)).block) ∈ L16)) ∧
     X.CallX Try.prog 38 #[(.pointer (q118))] w15 fun e119 w120 =>
      ∃ n121 : Int, (e119 = .returned (.int .u64 n121)) ∧
      (X.Kept L16 w15 w120) ∧
      ((0 : Int) ≤ ((IntKind.i64.wrap (b_1.tmod n1 + n2)).tmod n3)) ∧
      (((IntKind.i64.wrap (b_1.tmod n1 + n2)).tmod n3) < 5) ∧
      ∃ q122 : Option Addr, (World.cell? w120 ((a.add 1).add ((((IntKind.i64.wrap (b_1.tmod n1 + n2)).tmod n3)).toNat * 1)) = some (.pointer (q122))) ∧
      (¬ ((((a.add 1).add (((IntKind.i64.wrap (b_1.tmod n1 + n2)).tmod n3).toNat * 1)).block) ∈ L16)) ∧
      X.CallX Try.prog 11 #[(.pointer (q122)), (.int .u64 n121)] w120 fun e123 w124 =>
       ∃ b125 : Bool, (e123 = .returned (.bool b125)) ∧
       (X.Kept L16 w120 w124) ∧
       if b125 = true then
        ((0 : Int) ≤ ((IntKind.i64.wrap (b_1.tmod n1 + n2)).tmod n3)) ∧
        (((IntKind.i64.wrap (b_1.tmod n1 + n2)).tmod n3) < 5) ∧
        ∃ q126 : Option Addr, (World.cell? w124 ((a.add 1).add ((((IntKind.i64.wrap (b_1.tmod n1 + n2)).tmod n3)).toNat * 1)) = some (.pointer (q126))) ∧
        (¬ ((((a.add 1).add (((IntKind.i64.wrap (b_1.tmod n1 + n2)).tmod n3).toNat * 1)).block) ∈ L16)) ∧
        X.CallX Try.prog 16 #[(.pointer (q126))] w124 fun e127 w128 =>
         ∃ n129 : Int, ∃ q130 : Option Addr, ∃ k131 : Nat, ∃ k132 : Nat, ∃ q133 : Option Addr, ∃ k134 : Nat, ∃ k135 : Nat, ∃ b136 : Bool, (e127 = .returned (.tuple #[(.int .u64 n129), (.agg #[(.slice (q130) k131 k132), (.slice (q133) k134 k135)]), (.bool b136)])) ∧
         (X.Kept L16 w124 w128) ∧
         ∃ x137 : X.Facts, (X.FactsW x137 w128 (L16)) ∧
         ((0 : Int) ≤ ((IntKind.i64.wrap (b_2.tmod n4 + n5)).tmod n6)) ∧
         (((IntKind.i64.wrap (b_2.tmod n4 + n5)).tmod n6) < 5) ∧
         ∃ q138 : Option Addr, ((((a.add 6).add ((((IntKind.i64.wrap (b_2.tmod n4 + n5)).tmod n6)).toNat * 1)), [(.pointer (q138))]) ∈ x137) ∧
         ∀ w139 : World, ∀ L140 : List Nat, (X.Hid (L16) w128 w139) →
         (X.NewL (w).heap.size (L16) w128 w139 L140) →
         X.CallX Try.prog 47 #[(.int .i64 ((IntKind.i64.wrap (b_1.tmod n1 + n2)).tmod n3))] w139 fun e141 w142 =>
          ∃ n143 : Int, ∃ n144 : Int, (e141 = .returned (.agg #[(.int .u8 n143), (.int .u16 n144)])) ∧
          (X.Kept L140 w139 w142) ∧
          (X.FactsW x137 w142 (L140)) ∧
          X.CallX Try.prog 67 #[(.int .i64 ((IntKind.i64.wrap (b_1.tmod n1 + n2)).tmod n3))] w142 fun e145 w146 =>
           ∃ q147 : Option Addr, ∃ k148 : Nat, ∃ k149 : Nat, (e145 = .returned (.slice (q147) k148 k149)) ∧
           (X.Kept L140 w142 w146) ∧
           (X.FactsW x137 w146 (L140)) ∧
           X.CallX Try.prog 26 #[(.pointer (q138)), (.agg #[(.int .u8 n143), (.int .u16 n144)]), (.slice (q147) k148 k149), (.int .u64 n129), (.agg #[(.slice (q130) k131 k132), (.slice (q133) k134 k135)]), (.bool b136)] w146 fun e150 w151 =>
            (e150 = .returned (.tuple #[])) ∧
            (X.Kept L140 w146 w151) ∧
            R (.returned (.int .i64 c)) w151
       else
        R (.returned (.int .i64 c)) w124
    else
     if (b_0 == 2) = true then
      ∃ x48 : X.Facts, (X.FactsW x48 w15 (L16)) ∧
      ((0 : Int) ≤ ((IntKind.i64.wrap (b_1.tmod n1 + n2)).tmod n3)) ∧
      (((IntKind.i64.wrap (b_1.tmod n1 + n2)).tmod n3) < 5) ∧
      ∃ q49 : Option Addr, ((((a.add 6).add ((((IntKind.i64.wrap (b_1.tmod n1 + n2)).tmod n3)).toNat * 1)), [(.pointer (q49))]) ∈ x48) ∧
      (∀ w50 : World, ∀ L51 : List Nat, (X.Hid (L16) w15 w50) →
       (X.NewL (w).heap.size (L16) w15 w50 L51) →
       X.CallX Try.prog 47 #[(.int .i64 (IntKind.wrap .i64 (((IntKind.i64.wrap (b_3.tmod 9 + 9)).tmod 9) + 1)))] w50 fun e52 w53 =>
        ∃ n54 : Int, ∃ n55 : Int, (e52 = .returned (.agg #[(.int .u8 n54), (.int .u16 n55)])) ∧
        (X.Kept L51 w50 w53) ∧
        (X.FactsW x48 w53 (L51)) ∧
        ((X.FactsW x48 (w53.alloc (.cells #[(.int .u8 n54), (.int .u16 n55)] 67)) (L51)) ∧
         (X.CallX Try.prog 30 #[(.pointer (q49)), (.slice (some ⟨(w53).heap.size, 0, none⟩) 1 1)] (w53.alloc (.cells #[(.int .u8 n54), (.int .u16 n55)] 67)) fun e56 w57 =>
           ∃ q58 : Option Addr, ∃ k59 : Nat, ∃ k60 : Nat, ∃ q61 : Option Addr, ∃ k62 : Nat, ∃ k63 : Nat, ∃ b64 : Bool, (e56 = .returned (.tuple #[(.agg #[(.slice (q58) k59 k60), (.slice (q61) k62 k63)]), (.bool b64)])) ∧
           (X.Kept L51 (w53.alloc (.cells #[(.int .u8 n54), (.int .u16 n55)] 67)) w57) ∧
           (X.FactsW x48 w57 (L51)) ∧
           if b64 = true then
            ∃ x66 : X.Facts, (X.FactsW x66 w57 (L51)) ∧
            ((0 : Int) ≤ ((IntKind.i64.wrap (b_1.tmod n1 + n2)).tmod n3)) ∧
            (((IntKind.i64.wrap (b_1.tmod n1 + n2)).tmod n3) < 5) ∧
            ∀ w67 : World, ∀ L68 : List Nat, (X.Hid (L51) w57 w67) →
            (X.NewL (w).heap.size (L51) w57 w67 L68) →
            ((((a.add 11).add (((IntKind.i64.wrap (b_1.tmod n1 + n2)).tmod n3).toNat * 2)).spot) = none) ∧
            (World.there w67 (((a.add 11).add (((IntKind.i64.wrap (b_1.tmod n1 + n2)).tmod n3).toNat * 2)).block) (((a.add 11).add (((IntKind.i64.wrap (b_1.tmod n1 + n2)).tmod n3).toNat * 2)).off) 2) ∧
            (¬ ((((a.add 11).add (((IntKind.i64.wrap (b_1.tmod n1 + n2)).tmod n3).toNat * 2)).block) ∈ L68)) ∧
            ((0 : Int) ≤ ((IntKind.i64.wrap (b_1.tmod n1 + n2)).tmod n3)) ∧
            (((IntKind.i64.wrap (b_1.tmod n1 + n2)).tmod n3) < 5) ∧
            ((((a.add 21).add (((IntKind.i64.wrap (b_1.tmod n1 + n2)).tmod n3).toNat * 1)).spot) = none) ∧
            (World.there (w67.setCells (((a.add 11).add (((IntKind.i64.wrap (b_1.tmod n1 + n2)).tmod n3).toNat * 2)).block) (((a.add 11).add (((IntKind.i64.wrap (b_1.tmod n1 + n2)).tmod n3).toNat * 2)).off) [(.slice (q58) k59 k60), (.slice (q61) k62 k63)]) (((a.add 21).add (((IntKind.i64.wrap (b_1.tmod n1 + n2)).tmod n3).toNat * 1)).block) (((a.add 21).add (((IntKind.i64.wrap (b_1.tmod n1 + n2)).tmod n3).toNat * 1)).off) 1) ∧
            (¬ ((((a.add 21).add (((IntKind.i64.wrap (b_1.tmod n1 + n2)).tmod n3).toNat * 1)).block) ∈ L68)) ∧
            R (.returned (.int .i64 c)) ((w67.setCells (((a.add 11).add (((IntKind.i64.wrap (b_1.tmod n1 + n2)).tmod n3).toNat * 2)).block) (((a.add 11).add (((IntKind.i64.wrap (b_1.tmod n1 + n2)).tmod n3).toNat * 2)).off) [(.slice (q58) k59 k60), (.slice (q61) k62 k63)]).setCells (((a.add 21).add (((IntKind.i64.wrap (b_1.tmod n1 + n2)).tmod n3).toNat * 1)).block) (((a.add 21).add (((IntKind.i64.wrap (b_1.tmod n1 + n2)).tmod n3).toNat * 1)).off) [(.bool true)])
           else
            ∀ w65 : World, (X.Hid (L51) w57 w65) →
            R (.returned (.int .i64 c)) w65) ∧
         ∀ w69 : World, ∀ L70 : List Nat, (X.Hid (L51) (w53.alloc (.cells #[(.int .u8 n54), (.int .u16 n55)] 67)) w69) →
         (X.NewL (w).heap.size (L51) (w53.alloc (.cells #[(.int .u8 n54), (.int .u16 n55)] 67)) w69 L70) →
         X.CallX Try.prog 30 #[(.pointer (q49)), (.slice (some ⟨(w53).heap.size, 0, none⟩) 1 1)] w69 fun e71 w72 =>
          ∃ q73 : Option Addr, ∃ k74 : Nat, ∃ k75 : Nat, ∃ q76 : Option Addr, ∃ k77 : Nat, ∃ k78 : Nat, ∃ b79 : Bool, (e71 = .returned (.tuple #[(.agg #[(.slice (q73) k74 k75), (.slice (q76) k77 k78)]), (.bool b79)])) ∧
          (X.Kept L70 w69 w72) ∧
          (X.FactsW x48 w72 (L70)) ∧
          if b79 = true then
           ∃ x81 : X.Facts, (X.FactsW x81 w72 (L70)) ∧
           ((0 : Int) ≤ ((IntKind.i64.wrap (b_1.tmod n1 + n2)).tmod n3)) ∧
           (((IntKind.i64.wrap (b_1.tmod n1 + n2)).tmod n3) < 5) ∧
           ∀ w82 : World, ∀ L83 : List Nat, (X.Hid (L70) w72 w82) →
           (X.NewL (w).heap.size (L70) w72 w82 L83) →
           ((((a.add 11).add (((IntKind.i64.wrap (b_1.tmod n1 + n2)).tmod n3).toNat * 2)).spot) = none) ∧
           (World.there w82 (((a.add 11).add (((IntKind.i64.wrap (b_1.tmod n1 + n2)).tmod n3).toNat * 2)).block) (((a.add 11).add (((IntKind.i64.wrap (b_1.tmod n1 + n2)).tmod n3).toNat * 2)).off) 2) ∧
           (¬ ((((a.add 11).add (((IntKind.i64.wrap (b_1.tmod n1 + n2)).tmod n3).toNat * 2)).block) ∈ L83)) ∧
           ((0 : Int) ≤ ((IntKind.i64.wrap (b_1.tmod n1 + n2)).tmod n3)) ∧
           (((IntKind.i64.wrap (b_1.tmod n1 + n2)).tmod n3) < 5) ∧
           ((((a.add 21).add (((IntKind.i64.wrap (b_1.tmod n1 + n2)).tmod n3).toNat * 1)).spot) = none) ∧
           (World.there (w82.setCells (((a.add 11).add (((IntKind.i64.wrap (b_1.tmod n1 + n2)).tmod n3).toNat * 2)).block) (((a.add 11).add (((IntKind.i64.wrap (b_1.tmod n1 + n2)).tmod n3).toNat * 2)).off) [(.slice (q73) k74 k75), (.slice (q76) k77 k78)]) (((a.add 21).add (((IntKind.i64.wrap (b_1.tmod n1 + n2)).tmod n3).toNat * 1)).block) (((a.add 21).add (((IntKind.i64.wrap (b_1.tmod n1 + n2)).tmod n3).toNat * 1)).off) 1) ∧
           (¬ ((((a.add 21).add (((IntKind.i64.wrap (b_1.tmod n1 + n2)).tmod n3).toNat * 1)).block) ∈ L83)) ∧
           R (.returned (.int .i64 c)) ((w82.setCells (((a.add 11).add (((IntKind.i64.wrap (b_1.tmod n1 + n2)).tmod n3).toNat * 2)).block) (((a.add 11).add (((IntKind.i64.wrap (b_1.tmod n1 + n2)).tmod n3).toNat * 2)).off) [(.slice (q73) k74 k75), (.slice (q76) k77 k78)]).setCells (((a.add 21).add (((IntKind.i64.wrap (b_1.tmod n1 + n2)).tmod n3).toNat * 1)).block) (((a.add 21).add (((IntKind.i64.wrap (b_1.tmod n1 + n2)).tmod n3).toNat * 1)).off) [(.bool true)])
          else
           ∀ w80 : World, (X.Hid (L70) w72 w80) →
           R (.returned (.int .i64 c)) w80) ∧
        ∀ w84 : World, ∀ L85 : List Nat, (X.Hid (L51) w53 w84) →
        (X.NewL (w).heap.size (L51) w53 w84 L85) →
        (X.FactsW x48 (w84.alloc (.cells #[(.int .u8 n54), (.int .u16 n55)] 67)) (L85)) ∧
        X.CallX Try.prog 30 #[(.pointer (q49)), (.slice (some ⟨(w84).heap.size, 0, none⟩) 1 1)] (w84.alloc (.cells #[(.int .u8 n54), (.int .u16 n55)] 67)) fun e86 w87 =>
         ∃ q88 : Option Addr, ∃ k89 : Nat, ∃ k90 : Nat, ∃ q91 : Option Addr, ∃ k92 : Nat, ∃ k93 : Nat, ∃ b94 : Bool, (e86 = .returned (.tuple #[(.agg #[(.slice (q88) k89 k90), (.slice (q91) k92 k93)]), (.bool b94)])) ∧
         (X.Kept L85 (w84.alloc (.cells #[(.int .u8 n54), (.int .u16 n55)] 67)) w87) ∧
         (X.FactsW x48 w87 (L85)) ∧
         if b94 = true then
          ∃ x96 : X.Facts, (X.FactsW x96 w87 (L85)) ∧
          ((0 : Int) ≤ ((IntKind.i64.wrap (b_1.tmod n1 + n2)).tmod n3)) ∧
          (((IntKind.i64.wrap (b_1.tmod n1 + n2)).tmod n3) < 5) ∧
          ∀ w97 : World, ∀ L98 : List Nat, (X.Hid (L85) w87 w97) →
          (X.NewL (w).heap.size (L85) w87 w97 L98) →
          ((((a.add 11).add (((IntKind.i64.wrap (b_1.tmod n1 + n2)).tmod n3).toNat * 2)).spot) = none) ∧
          (World.there w97 (((a.add 11).add (((IntKind.i64.wrap (b_1.tmod n1 + n2)).tmod n3).toNat * 2)).block) (((a.add 11).add (((IntKind.i64.wrap (b_1.tmod n1 + n2)).tmod n3).toNat * 2)).off) 2) ∧
          (¬ ((((a.add 11).add (((IntKind.i64.wrap (b_1.tmod n1 + n2)).tmod n3).toNat * 2)).block) ∈ L98)) ∧
          ((0 : Int) ≤ ((IntKind.i64.wrap (b_1.tmod n1 + n2)).tmod n3)) ∧
          (((IntKind.i64.wrap (b_1.tmod n1 + n2)).tmod n3) < 5) ∧
          ((((a.add 21).add (((IntKind.i64.wrap (b_1.tmod n1 + n2)).tmod n3).toNat * 1)).spot) = none) ∧
          (World.there (w97.setCells (((a.add 11).add (((IntKind.i64.wrap (b_1.tmod n1 + n2)).tmod n3).toNat * 2)).block) (((a.add 11).add (((IntKind.i64.wrap (b_1.tmod n1 + n2)).tmod n3).toNat * 2)).off) [(.slice (q88) k89 k90), (.slice (q91) k92 k93)]) (((a.add 21).add (((IntKind.i64.wrap (b_1.tmod n1 + n2)).tmod n3).toNat * 1)).block) (((a.add 21).add (((IntKind.i64.wrap (b_1.tmod n1 + n2)).tmod n3).toNat * 1)).off) 1) ∧
          (¬ ((((a.add 21).add (((IntKind.i64.wrap (b_1.tmod n1 + n2)).tmod n3).toNat * 1)).block) ∈ L98)) ∧
          R (.returned (.int .i64 c)) ((w97.setCells (((a.add 11).add (((IntKind.i64.wrap (b_1.tmod n1 + n2)).tmod n3).toNat * 2)).block) (((a.add 11).add (((IntKind.i64.wrap (b_1.tmod n1 + n2)).tmod n3).toNat * 2)).off) [(.slice (q88) k89 k90), (.slice (q91) k92 k93)]).setCells (((a.add 21).add (((IntKind.i64.wrap (b_1.tmod n1 + n2)).tmod n3).toNat * 1)).block) (((a.add 21).add (((IntKind.i64.wrap (b_1.tmod n1 + n2)).tmod n3).toNat * 1)).off) [(.bool true)])
         else
          ∀ w95 : World, (X.Hid (L85) w87 w95) →
          R (.returned (.int .i64 c)) w95) ∧
      ∀ w99 : World, ∀ L100 : List Nat, (X.Hid (L16) w15 w99) →
      (X.NewL (w).heap.size (L16) w15 w99 L100) →
      X.CallX Try.prog 47 #[(.int .i64 (IntKind.wrap .i64 (((IntKind.i64.wrap (b_3.tmod 9 + 9)).tmod 9) + 1)))] w99 fun e101 w102 =>
       ∃ n103 : Int, ∃ n104 : Int, (e101 = .returned (.agg #[(.int .u8 n103), (.int .u16 n104)])) ∧
       (X.Kept L100 w99 w102) ∧
       (X.FactsW x48 w102 (L100)) ∧
       (X.FactsW x48 (w102.alloc (.cells #[(.int .u8 n103), (.int .u16 n104)] 67)) (L100)) ∧
       X.CallX Try.prog 30 #[(.pointer (q49)), (.slice (some ⟨(w102).heap.size, 0, none⟩) 1 1)] (w102.alloc (.cells #[(.int .u8 n103), (.int .u16 n104)] 67)) fun e105 w106 =>
        ∃ q107 : Option Addr, ∃ k108 : Nat, ∃ k109 : Nat, ∃ q110 : Option Addr, ∃ k111 : Nat, ∃ k112 : Nat, ∃ b113 : Bool, (e105 = .returned (.tuple #[(.agg #[(.slice (q107) k108 k109), (.slice (q110) k111 k112)]), (.bool b113)])) ∧
        (X.Kept L100 (w102.alloc (.cells #[(.int .u8 n103), (.int .u16 n104)] 67)) w106) ∧
        (X.FactsW x48 w106 (L100)) ∧
        if b113 = true then
         ∃ x115 : X.Facts, (X.FactsW x115 w106 (L100)) ∧
         ((0 : Int) ≤ ((IntKind.i64.wrap (b_1.tmod n1 + n2)).tmod n3)) ∧
         (((IntKind.i64.wrap (b_1.tmod n1 + n2)).tmod n3) < 5) ∧
         ∀ w116 : World, ∀ L117 : List Nat, (X.Hid (L100) w106 w116) →
         (X.NewL (w).heap.size (L100) w106 w116 L117) →
         ((((a.add 11).add (((IntKind.i64.wrap (b_1.tmod n1 + n2)).tmod n3).toNat * 2)).spot) = none) ∧
         (World.there w116 (((a.add 11).add (((IntKind.i64.wrap (b_1.tmod n1 + n2)).tmod n3).toNat * 2)).block) (((a.add 11).add (((IntKind.i64.wrap (b_1.tmod n1 + n2)).tmod n3).toNat * 2)).off) 2) ∧
         (¬ ((((a.add 11).add (((IntKind.i64.wrap (b_1.tmod n1 + n2)).tmod n3).toNat * 2)).block) ∈ L117)) ∧
         ((0 : Int) ≤ ((IntKind.i64.wrap (b_1.tmod n1 + n2)).tmod n3)) ∧
         (((IntKind.i64.wrap (b_1.tmod n1 + n2)).tmod n3) < 5) ∧
         ((((a.add 21).add (((IntKind.i64.wrap (b_1.tmod n1 + n2)).tmod n3).toNat * 1)).spot) = none) ∧
         (World.there (w116.setCells (((a.add 11).add (((IntKind.i64.wrap (b_1.tmod n1 + n2)).tmod n3).toNat * 2)).block) (((a.add 11).add (((IntKind.i64.wrap (b_1.tmod n1 + n2)).tmod n3).toNat * 2)).off) [(.slice (q107) k108 k109), (.slice (q110) k111 k112)]) (((a.add 21).add (((IntKind.i64.wrap (b_1.tmod n1 + n2)).tmod n3).toNat * 1)).block) (((a.add 21).add (((IntKind.i64.wrap (b_1.tmod n1 + n2)).tmod n3).toNat * 1)).off) 1) ∧
         (¬ ((((a.add 21).add (((IntKind.i64.wrap (b_1.tmod n1 + n2)).tmod n3).toNat * 1)).block) ∈ L117)) ∧
         R (.returned (.int .i64 c)) ((w116.setCells (((a.add 11).add (((IntKind.i64.wrap (b_1.tmod n1 + n2)).tmod n3).toNat * 2)).block) (((a.add 11).add (((IntKind.i64.wrap (b_1.tmod n1 + n2)).tmod n3).toNat * 2)).off) [(.slice (q107) k108 k109), (.slice (q110) k111 k112)]).setCells (((a.add 21).add (((IntKind.i64.wrap (b_1.tmod n1 + n2)).tmod n3).toNat * 1)).block) (((a.add 21).add (((IntKind.i64.wrap (b_1.tmod n1 + n2)).tmod n3).toNat * 1)).off) [(.bool true)])
        else
         ∀ w114 : World, (X.Hid (L100) w106 w114) →
         R (.returned (.int .i64 c)) w114
     else
      if (b_0 == 3) = true then
       ∃ x18 : X.Facts, (X.FactsW x18 w15 (L16)) ∧
       ((0 : Int) ≤ ((IntKind.i64.wrap (b_2.tmod n4 + n5)).tmod n6)) ∧
       (((IntKind.i64.wrap (b_2.tmod n4 + n5)).tmod n6) < 5) ∧
       ∃ b19 : Bool, ((((a.add 21).add ((((IntKind.i64.wrap (b_2.tmod n4 + n5)).tmod n6)).toNat * 1)), [(.bool b19)]) ∈ x18) ∧
       if (b19 == true) = true then
        ((0 : Int) ≤ ((IntKind.i64.wrap (b_1.tmod n1 + n2)).tmod n3)) ∧
        (((IntKind.i64.wrap (b_1.tmod n1 + n2)).tmod n3) < 5) ∧
        ∃ q21 : Option Addr, ((((a.add 1).add ((((IntKind.i64.wrap (b_1.tmod n1 + n2)).tmod n3)).toNat * 1)), [(.pointer (q21))]) ∈ x18) ∧
        ((0 : Int) ≤ ((IntKind.i64.wrap (b_2.tmod n4 + n5)).tmod n6)) ∧
        (((IntKind.i64.wrap (b_2.tmod n4 + n5)).tmod n6) < 5) ∧
        ∃ q22 : Option Addr, ((((a.add 6).add ((((IntKind.i64.wrap (b_2.tmod n4 + n5)).tmod n6)).toNat * 1)), [(.pointer (q22))]) ∈ x18) ∧
        ((0 : Int) ≤ ((IntKind.i64.wrap (b_2.tmod n4 + n5)).tmod n6)) ∧
        (((IntKind.i64.wrap (b_2.tmod n4 + n5)).tmod n6) < 5) ∧
        ∃ q23 : Option Addr, ∃ k24 : Nat, ∃ k25 : Nat, ∃ q26 : Option Addr, ∃ k27 : Nat, ∃ k28 : Nat, ((((a.add 11).add ((((IntKind.i64.wrap (b_2.tmod n4 + n5)).tmod n6)).toNat * 2)), [(.slice (q23) k24 k25), (.slice (q26) k27 k28)]) ∈ x18) ∧
        ∀ w29 : World, ∀ L30 : List Nat, (X.Hid (L16) w15 w29) →
        (X.NewL (w).heap.size (L16) w15 w29 L30) →
        X.CallX Try.prog 38 #[(.pointer (q22))] w29 fun e31 w32 =>
         ∃ n33 : Int, (e31 = .returned (.int .u64 n33)) ∧
         (X.Kept L30 w29 w32) ∧
         (X.FactsW x18 w32 (L30)) ∧
         X.CallX Try.prog 13 #[(.pointer (q21)), (.int .u64 n33), (.agg #[(.slice (q23) k24 k25), (.slice (q26) k27 k28)])] w32 fun e34 w35 =>
          ∃ b36 : Bool, (e34 = .returned (.bool b36)) ∧
          (X.Kept L30 w32 w35) ∧
          (X.FactsW x18 w35 (L30)) ∧
          if (true && b36) = true then
           ∃ x37 : X.Facts, (X.FactsW x37 w35 (L30)) ∧
           ((0 : Int) ≤ ((IntKind.i64.wrap (b_2.tmod n4 + n5)).tmod n6)) ∧
           (((IntKind.i64.wrap (b_2.tmod n4 + n5)).tmod n6) < 5) ∧
           ∃ q38 : Option Addr, ((((a.add 6).add ((((IntKind.i64.wrap (b_2.tmod n4 + n5)).tmod n6)).toNat * 1)), [(.pointer (q38))]) ∈ x37) ∧
           ∀ w39 : World, ∀ L40 : List Nat, (X.Hid (L30) w35 w39) →
           (X.NewL (w).heap.size (L30) w35 w39 L40) →
           X.CallX Try.prog 47 #[(.int .i64 ((IntKind.i64.wrap (b_1.tmod n1 + n2)).tmod n3))] w39 fun e41 w42 =>
            ∃ n43 : Int, ∃ n44 : Int, (e41 = .returned (.agg #[(.int .u8 n43), (.int .u16 n44)])) ∧
            (X.Kept L40 w39 w42) ∧
            (X.FactsW x37 w42 (L40)) ∧
            X.CallX Try.prog 33 #[(.pointer (q38)), (.agg #[(.int .u8 n43), (.int .u16 n44)])] w42 fun e45 w46 =>
             ∃ b47 : Bool, (e45 = .returned (.bool b47)) ∧
             (X.Kept L40 w42 w46) ∧
             R (.returned (.int .i64 c)) w46
          else
           R (.returned (.int .i64 c)) w35
       else
        ∀ w20 : World, (X.Hid (L16) w15 w20) →
        R (.returned (.int .i64 c)) w20
      else
       R (.returned (.int .i64 c)) w15) :
    Calls Try.prog 44 #[.pointer (some a), .agg #[.int .i64 b_0, .int .i64 b_1, .int .i64 b_2, .int .i64 b_3, .int .i64 b_4], .int .i64 c] w R :=
  X.calls_of { isLoc := [4, 13, 15], sym := [23, 33, 40, 50, 82, 87, 94, 101, 110, 120, 137, 156, 161, 168, 175, 181, 188, 196], loops := [(5, .inv [(9, .slice), (10, .int .i64)] [] true)], joins := [], stored := [(19, [15])] } Try.func44 (by kernel_rfl) h
abbrev fn_tail : Nat := 67
theorem x_tail (a : Int) (w : World) (R : Ending → World → Prop) (h :
  ∃ x1 : Option Addr → Nat → Nat → Int → World → List Nat → Prop, ∃ x2 : Option Addr → Nat → Nat → Int → World → Nat, (x1 (none) 0 0 0 w []) ∧
  ∀ q3 : Option Addr, ∀ k4 : Nat, ∀ k5 : Nat, ∀ n6 : Int, ∀ w7 : World, ∀ L8 : List Nat, (X.LF (w).heap.size w7 L8) →
  (x1 q3 k4 k5 n6 w7 L8) →
  if (decide (n6 < a)) = true then
   X.CallX Try.prog 47 #[(.int .i64 n6)] w7 fun e9 w10 =>
    ∃ n11 : Int, ∃ n12 : Int, (e9 = .returned (.agg #[(.int .u8 n11), (.int .u16 n12)])) ∧
    ((w7).heap.size ≤ (w10).heap.size) ∧
    ∃ q13 : Option Addr, ∃ k14 : Nat, ∃ k15 : Nat, ∃ w16 : World, (Sem.run Try.prog (Go.Builtin.append_ #[44, 44] 44 #[(.slice (q3) k4 k5), (.slice (some ⟨(w10).heap.size, 0, none⟩) 1 1)]) (w10.alloc (.cells #[(.int .u8 2), (.int .u8 0), (.int .u16 0), (.int .u32 0), (.int .u8 0), (.int .u8 0), (.int .u8 0), (.int .u8 0), (.int .u8 0), (.int .u8 0), (.int .u8 0), (.int .u32 0), (.slice none 0 0), (.int .u8 0), (.string (ByteArray.mk #[])), (.slice none 0 0), (.int .u8 n11), (.int .u16 n12)] 127)) = .ok (.slice (q13) k14 k15) w16) ∧
    (((w10.alloc (.cells #[(.int .u8 2), (.int .u8 0), (.int .u16 0), (.int .u32 0), (.int .u8 0), (.int .u8 0), (.int .u8 0), (.int .u8 0), (.int .u8 0), (.int .u8 0), (.int .u8 0), (.int .u32 0), (.slice none 0 0), (.int .u8 0), (.string (ByteArray.mk #[])), (.slice none 0 0), (.int .u8 n11), (.int .u16 n12)] 127))).heap.size ≤ (w16).heap.size) ∧
    (x1 q13 k14 k15 (IntKind.wrap .i64 (n6 + 1)) w16 []) ∧
    Nat.le ((x2 q13 k14 k15 (IntKind.wrap .i64 (n6 + 1)) w16) + 1) (x2 q3 k4 k5 n6 w7)
  else
   R (.returned (.slice (q3) k4 k5)) w7) :
    Calls Try.prog 67 #[.int .i64 a] w R :=
  X.calls_of { isLoc := [], sym := [], loops := [(3, .inv [(3, .slice), (4, .int .i64)] [] true)], joins := [] } Try.func67 (by kernel_rfl) h
abbrev fn_PactOne : Nat := 6
theorem x_PactOne (a : Int) (b : Option Addr) (bl bc : Nat) (w : World) (R : Ending → World → Prop) (h :
  if ((decide (((bl : Nat) : Int) > 150)) == false) = true then
   X.CallX Try.prog 9 #[] w fun e4 w5 =>
    ∃ b6 : Bool, (e4 = .returned (.bool b6)) ∧
    ((w).heap.size ≤ (w5).heap.size) ∧
    if (false || (!b6)) = true then
     X.CallX Try.prog 9 #[] w5 fun e101 w102 =>
      ∃ b103 : Bool, (e101 = .returned (.bool b103)) ∧
      ((w5).heap.size ≤ (w102).heap.size) ∧
      R (.returned (.bool b103)) w102
    else
     ∃ x7 : Int → World → List Nat → Prop, ∃ x8 : Int → World → Nat, (x7 0 (w5.alloc (.cells #[(.int .i64 (IntKind.wrap .i64 (1 + ((IntKind.i64.wrap (a.tmod 5 + 5)).tmod 5)))), (.pointer none), (.pointer none), (.pointer none), (.pointer none), (.pointer none), (.pointer none), (.pointer none), (.pointer none), (.pointer none), (.pointer none), (.slice none 0 0), (.slice none 0 0), (.slice none 0 0), (.slice none 0 0), (.slice none 0 0), (.slice none 0 0), (.slice none 0 0), (.slice none 0 0), (.slice none 0 0), (.slice none 0 0), (.bool false), (.bool false), (.bool false), (.bool false), (.bool false)] 94)) []) ∧
     ∀ n9 : Int, ∀ w10 : World, ∀ L11 : List Nat, (X.LF (w).heap.size w10 L11) →
     (x7 n9 w10 L11) →
     if (decide (n9 < 5)) = true then
      ∃ x96 : X.Facts, (X.FactsW x96 w10 []) ∧
      ∀ w97 : World, (X.Hid [] w10 w97) →
      X.CallX Try.prog 10 #[] w97 fun e98 w99 =>
       ∃ q100 : Option Addr, (e98 = .returned (.pointer (q100))) ∧
       ((w97).heap.size ≤ (w99).heap.size) ∧
       ((0 : Int) ≤ n9) ∧
       (n9 < 5) ∧
       (((((Addr.mk w5.heap.size 0 none).add 1).add (n9.toNat * 1)).spot) = none) ∧
       (World.there w99 ((((Addr.mk w5.heap.size 0 none).add 1).add (n9.toNat * 1)).block) ((((Addr.mk w5.heap.size 0 none).add 1).add (n9.toNat * 1)).off) 1) ∧
       (x7 (IntKind.wrap .i64 (n9 + 1)) (w99.setCells ((((Addr.mk w5.heap.size 0 none).add 1).add (n9.toNat * 1)).block) ((((Addr.mk w5.heap.size 0 none).add 1).add (n9.toNat * 1)).off) [(.pointer (q100))]) []) ∧
       Nat.le ((x8 (IntKind.wrap .i64 (n9 + 1)) (w99.setCells ((((Addr.mk w5.heap.size 0 none).add 1).add (n9.toNat * 1)).block) ((((Addr.mk w5.heap.size 0 none).add 1).add (n9.toNat * 1)).off) [(.pointer (q100))])) + 1) (x8 n9 w10)
     else
      ∀ w12 : World, ∀ L13 : List Nat, (X.Hid [] w10 w12) →
      (X.NewL (w).heap.size [] w10 w12 L13) →
      ∃ x14 : Int → Bool → Int → Option Addr → Nat → Nat → Option Addr → Nat → Nat → World → List Nat → Prop, ∃ x15 : Int → Bool → Int → Option Addr → Nat → Nat → Option Addr → Nat → Nat → World → Nat, (x14 0 false 0 (none) 0 0 (none) 0 0 w12 (L13)) ∧
      ∀ n16 : Int, ∀ b17 : Bool, ∀ n18 : Int, ∀ q19 : Option Addr, ∀ k20 : Nat, ∀ k21 : Nat, ∀ q22 : Option Addr, ∀ k23 : Nat, ∀ k24 : Nat, ∀ w25 : World, ∀ L26 : List Nat, (X.LF (w).heap.size w25 L26) →
      (x14 n16 b17 n18 q19 k20 k21 q22 k23 k24 w25 L26) →
      if (decide (n18 < ((bl : Nat) : Int))) = true then
       ((0 : Int) ≤ n18) ∧
       (n18 < ((bl : Nat) : Int)) ∧
       X.onSome (b) fun p27 =>
       ∃ n28 : Int, ∃ n29 : Int, ∃ n30 : Int, ∃ n31 : Int, ∃ n32 : Int, (X.Cells w25 (p27.add ((n18).toNat * 5)) [(.int .i64 n28), (.int .i64 n29), (.int .i64 n30), (.int .i64 n31), (.int .i64 n32)]) ∧
       (¬ (((p27.add (n18.toNat * 5)).block) ∈ L26)) ∧
       X.CallX Try.prog 44 #[(.pointer (some ⟨(w5).heap.size, 0, none⟩)), (.agg #[(.int .i64 n28), (.int .i64 n29), (.int .i64 n30), (.int .i64 n31), (.int .i64 n32)]), (.int .i64 n16)] w25 fun e33 w34 =>
        ∃ n35 : Int, (e33 = .returned (.int .i64 n35)) ∧
        (X.Kept L26 w25 w34) ∧
        ∃ x36 : Bool → Int → Option Addr → Nat → Nat → Option Addr → Nat → Nat → World → List Nat → Prop, ∃ x37 : Bool → Int → Option Addr → Nat → Nat → Option Addr → Nat → Nat → World → Nat, (x36 b17 0 q19 k20 k21 q22 k23 k24 w34 (L26)) ∧
        ∀ b38 : Bool, ∀ n39 : Int, ∀ q40 : Option Addr, ∀ k41 : Nat, ∀ k42 : Nat, ∀ q43 : Option Addr, ∀ k44 : Nat, ∀ k45 : Nat, ∀ w46 : World, ∀ L47 : List Nat, (X.LF (w).heap.size w46 L47) →
        (x36 b38 n39 q40 k41 k42 q43 k44 k45 w46 L47) →
        ∃ n48 : Int, (World.cell? w46 ⟨(w5).heap.size, 0, none⟩ = some (.int .i64 n48)) ∧
        (¬ ((w5).heap.size ∈ L47)) ∧
        if (decide (n39 < n48)) = true then
         ((0 : Int) ≤ n39) ∧
         (n39 < 5) ∧
         ∃ q49 : Option Addr, (World.cell? w46 ((⟨(w5).heap.size, (0 + 6), none⟩ : Addr).add ((n39).toNat * 1)) = some (.pointer (q49))) ∧
         (¬ (((((Addr.mk w5.heap.size 0 none).add 6).add (n39.toNat * 1)).block) ∈ L47)) ∧
         X.CallX Try.prog 35 #[(.pointer (q49))] w46 fun e50 w51 =>
          ∃ n52 : Int, (e50 = .returned (.int .i64 n52)) ∧
          (X.Kept L47 w46 w51) ∧
          if (n52 != 2) = true then
           (x36 b38 (IntKind.wrap .i64 (n39 + 1)) q40 k41 k42 q43 k44 k45 w51 (L47)) ∧
           Nat.le ((x37 b38 (IntKind.wrap .i64 (n39 + 1)) q40 k41 k42 q43 k44 k45 w51) + 1) (x37 b38 n39 q40 k41 k42 q43 k44 k45 w46)
          else
           ((0 : Int) ≤ n39) ∧
           (n39 < 5) ∧
           ∃ q53 : Option Addr, (World.cell? w51 ((⟨(w5).heap.size, (0 + 6), none⟩ : Addr).add ((n39).toNat * 1)) = some (.pointer (q53))) ∧
           (¬ (((((Addr.mk w5.heap.size 0 none).add 6).add (n39.toNat * 1)).block) ∈ L47)) ∧
           X.CallX Try.prog 39 #[(.pointer (q53))] w51 fun e54 w55 =>
            ∃ q56 : Option Addr, ∃ k57 : Nat, ∃ k58 : Nat, ∃ q59 : Option Addr, ∃ k60 : Nat, ∃ k61 : Nat, (e54 = .returned (.agg #[(.slice (q56) k57 k58), (.slice (q59) k60 k61)])) ∧
            (X.Kept L47 w51 w55) ∧
            ∃ x62 : X.Facts, (X.FactsW x62 w55 (L47)) ∧
            if (b38 == true) = true then
             ∀ w78 : World, ∀ L79 : List Nat, (X.Hid (L47) w55 w78) →
             (X.NewL (w).heap.size (L47) w55 w78 L79) →
             X.CallX Try.prog 45 #[(.agg #[(.slice (q56) k57 k58), (.slice (q59) k60 k61)]), (.agg #[(.slice (q40) k41 k42), (.slice (q43) k44 k45)])] w78 fun e80 w81 =>
              ∃ b82 : Bool, (e80 = .returned (.bool b82)) ∧
              (X.Kept L79 w78 w81) ∧
              (X.FactsW x62 w81 (L79)) ∧
              ∃ x83 : X.Facts, (X.FactsW x83 w81 (L79)) ∧
              (∀ x84 : Addr × List Value, (x84 ∈ x62) →
               x84 ∈ x83) ∧
              if ((true && (!b82)) == false) = true then
               ((0 : Int) ≤ n39) ∧
               (n39 < 5) ∧
               ∃ q85 : Option Addr, ∃ k86 : Nat, ∃ k87 : Nat, ∃ q88 : Option Addr, ∃ k89 : Nat, ∃ k90 : Nat, ((((⟨(w5).heap.size, (0 + 11), none⟩ : Addr).add ((n39).toNat * 2)), [(.slice (q85) k86 k87), (.slice (q88) k89 k90)]) ∈ x83) ∧
               X.CallX Try.prog 45 #[(.agg #[(.slice (q56) k57 k58), (.slice (q59) k60 k61)]), (.agg #[(.slice (q85) k86 k87), (.slice (q88) k89 k90)])] w81 fun e91 w92 =>
                ∃ b93 : Bool, (e91 = .returned (.bool b93)) ∧
                (X.Kept L79 w81 w92) ∧
                (X.FactsW x83 w92 (L79)) ∧
                if (false || (!b93)) = true then
                 R (.returned (.bool false)) w92
                else
                 ∀ w94 : World, ∀ L95 : List Nat, (X.Hid (L79) w92 w94) →
                 (X.NewL (w).heap.size (L79) w92 w94 L95) →
                 (x36 true (IntKind.wrap .i64 (n39 + 1)) q56 k57 k58 q59 k60 k61 w94 (L95)) ∧
                 Nat.le ((x37 true (IntKind.wrap .i64 (n39 + 1)) q56 k57 k58 q59 k60 k61 w94) + 1) (x37 b38 n39 q40 k41 k42 q43 k44 k45 w46)
              else
               R (.returned (.bool false)) w81
            else
             ∃ x63 : X.Facts, (X.FactsW x63 w55 (L47)) ∧
             (∀ x64 : Addr × List Value, (x64 ∈ x62) →
              x64 ∈ x63) ∧
             ((0 : Int) ≤ n39) ∧
             (n39 < 5) ∧
             ∃ q65 : Option Addr, ∃ k66 : Nat, ∃ k67 : Nat, ∃ q68 : Option Addr, ∃ k69 : Nat, ∃ k70 : Nat, ((((⟨(w5).heap.size, (0 + 11), none⟩ : Addr).add ((n39).toNat * 2)), [(.slice (q65) k66 k67), (.slice (q68) k69 k70)]) ∈ x63) ∧
             ∀ w71 : World, ∀ L72 : List Nat, (X.Hid (L47) w55 w71) →
             (X.NewL (w).heap.size (L47) w55 w71 L72) →
             X.CallX Try.prog 45 #[(.agg #[(.slice (q56) k57 k58), (.slice (q59) k60 k61)]), (.agg #[(.slice (q65) k66 k67), (.slice (q68) k69 k70)])] w71 fun e73 w74 =>
              ∃ b75 : Bool, (e73 = .returned (.bool b75)) ∧
              (X.Kept L72 w71 w74) ∧
              (X.FactsW x63 w74 (L72)) ∧
              if (false || (!b75)) = true then
               R (.returned (.bool false)) w74
              else
               ∀ w76 : World, ∀ L77 : List Nat, (X.Hid (L72) w74 w76) →
               (X.NewL (w).heap.size (L72) w74 w76 L77) →
               (x36 true (IntKind.wrap .i64 (n39 + 1)) q56 k57 k58 q59 k60 k61 w76 (L77)) ∧
               Nat.le ((x37 true (IntKind.wrap .i64 (n39 + 1)) q56 k57 k58 q59 k60 k61 w76) + 1) (x37 b38 n39 q40 k41 k42 q43 k44 k45 w46)
        else
         (x14 n35 b38 (IntKind.wrap .i64 (n18 + 1)) q40 k41 k42 q43 k44 k45 w46 (L47)) ∧
         Nat.le ((x15 n35 b38 (IntKind.wrap .i64 (n18 + 1)) q40 k41 k42 q43 k44 k45 w46) + 1) (x15 n16 b17 n18 q19 k20 k21 q22 k23 k24 w25)
      else
       R (.returned (.bool true)) w25
  else
   X.CallX Try.prog 9 #[] w fun e1 w2 =>
    ∃ b3 : Bool, (e1 = .returned (.bool b3)) ∧
    ((w).heap.size ≤ (w2).heap.size) ∧
    R (.returned (.bool b3)) w2) :
    Calls Try.prog 6 #[.int .i64 a, .slice b bl bc] w R :=
  X.calls_of { isLoc := [9, 12], sym := [37, 63, 71, 87], loops := [(5, .inv [(6, .int .i64)] [] true), (12, .inv [(7, .int .i64), (8, .bool), (10, .int .i64)] [(9, [.slice, .slice])] true), (16, .inv [(8, .bool), (11, .int .i64)] [(9, [.slice, .slice])] true)], joins := [] } Try.func6 (by kernel_rfl) h
end Go.Proofs
