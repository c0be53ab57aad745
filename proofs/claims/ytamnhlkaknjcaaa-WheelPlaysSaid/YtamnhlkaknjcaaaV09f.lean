import Derived.Test.YtamnhlkaknjcaaaXFn
import Derived.Test.YtamnhlkaknjcaaaProg
/- The verification conditions of this seat's functions, as the engine has them: printed by a program of the bench; checked by the kernel. -/
set_option maxRecDepth 100000
set_option linter.unusedVariables false
namespace Go.Proofs
open Go
abbrev fn_rSet2 : Nat := 16
theorem x_rSet2 (a : Addr) (b_0 b_1 b_2 b_3 b_4 b_5 b_6 b_7 b_8 b_9 b_10 b_11 b_12 c : Int) (w : World) (R : Ending → World → Prop) (h :
  ∃ x1 : Bool → World → List Nat → Prop, (∃ x2 : X.Facts, (X.FactsW x2 w []) ∧
   ∀ w3 : World, ∀ L4 : List Nat, (X.Hid [] w w3) →
   (X.NewL (w).heap.size [] w w3 L4) →
   X.CallX Try.prog 38 #[(.pointer (some a)), (.agg #[(.int .u8 b_0), (.int .u8 b_1), (.int .u16 b_2), (.int .u8 b_3), (.int .u16 b_4), (.int .u32 b_5), (.int .u8 b_6), (.int .u8 b_7), (.int .u8 b_8), (.int .u8 b_9), (.int .u8 b_10), (.int .u8 b_11), (.int .u8 b_12)])] w3 fun e5 w6 =>
    ∃ n7 : Int, (e5 = .returned (.int .i64 n7)) ∧
    (X.Kept L4 w3 w6) ∧
    (X.FactsW x2 w6 (L4)) ∧
    ∃ x8 : X.Facts, (X.FactsW x8 w6 (L4)) ∧
    (∀ x9 : Addr × List Value, (x9 ∈ x2) →
     x9 ∈ x8) ∧
    if ((decide (n7 < 0)) == true) = true then
     ∃ q10 : Option Addr, ∃ k11 : Nat, ∃ k12 : Nat, (((a.add 0), [(.slice (q10) k11 k12)]) ∈ x8) ∧
     ∃ n13 : Int, (((a.add 1), [(.int .i64 n13)]) ∈ x8) ∧
     (([(.int .u8 b_0), (.int .u8 b_1), (.int .u16 b_2), (.int .u8 b_3), (.int .u16 b_4), (.int .u32 b_5), (.int .u8 b_6), (.int .u8 b_7), (.int .u8 b_8), (.int .u8 b_9), (.int .u8 b_10), (.int .u8 b_11), (.int .u8 b_12)] : List Value) = [(.int .u8 b_0), (.int .u8 b_1), (.int .u16 b_2), (.int .u8 b_3), (.int .u16 b_4), (.int .u32 b_5), (.int .u8 b_6), (.int .u8 b_7), (.int .u8 b_8), (.int .u8 b_9), (.int .u8 b_10), (.int .u8 b_11), (.int .u8 b_12)]) ∧
     x1 (true && decide (((k11 : Nat) : Int) ≥ n13)) w6 (L4)
    else
     (([(.int .u8 b_0), (.int .u8 b_1), (.int .u16 b_2), (.int .u8 b_3), (.int .u16 b_4), (.int .u32 b_5), (.int .u8 b_6), (.int .u8 b_7), (.int .u8 b_8), (.int .u8 b_9), (.int .u8 b_10), (.int .u8 b_11), (.int .u8 b_12)] : List Value) = [(.int .u8 b_0), (.int .u8 b_1), (.int .u16 b_2), (.int .u8 b_3), (.int .u16 b_4), (.int .u32 b_5), (.int .u8 b_6), (.int .u8 b_7), (.int .u8 b_8), (.int .u8 b_9), (.int .u8 b_10), (.int .u8 b_11), (.int .u8 b_12)]) ∧
     x1 false w6 (L4)) ∧
  ∀ b14 : Bool, ∀ w15 : World, ∀ L16 : List Nat, (X.LF (w).heap.size w15 L16) →
  (x1 b14 w15 L16) →
  if b14 = true then
   R (.returned (.int .i64 11)) w15
  else
   X.CallX Try.prog 18 #[(.pointer (some a)), (.agg #[(.int .u8 b_0), (.int .u8 b_1), (.int .u16 b_2), (.int .u8 b_3), (.int .u16 b_4), (.int .u32 b_5), (.int .u8 b_6), (.int .u8 b_7), (.int .u8 b_8), (.int .u8 b_9), (.int .u8 b_10), (.int .u8 b_11), (.int .u8 b_12)])] w15 fun e17 w18 =>
    ∃ b19 : Bool, (e17 = .returned (.bool b19)) ∧
    (X.Kept L16 w15 w18) ∧
    ∃ x20 : Int → World → List Nat → Prop, (∀ w21 : World, ∀ L22 : List Nat, (X.Hid (L16) w18 w21) →
     (X.NewL (w).heap.size (L16) w18 w21 L22) →
     ∃ x23 : Int → World → List Nat → Prop, ∃ x24 : Int → World → Nat, (x23 0 w21 (L22)) ∧
     ∀ n25 : Int, ∀ w26 : World, ∀ L27 : List Nat, (X.LF (w).heap.size w26 L27) →
     (x23 n25 w26 L27) →
     ∃ x28 : X.Facts, (X.FactsW x28 w26 (L27)) ∧
     ∃ q29 : Option Addr, ∃ k30 : Nat, ∃ k31 : Nat, (((a.add 0), [(.slice (q29) k30 k31)]) ∈ x28) ∧
     if ((decide (n25 < ((k30 : Nat) : Int))) == true) = true then
      ∃ q34 : Option Addr, ∃ k35 : Nat, ∃ k36 : Nat, (((a.add 0), [(.slice (q34) k35 k36)]) ∈ x28) ∧
      ((0 : Int) ≤ n25) ∧
      (n25 < ((k35 : Nat) : Int)) ∧
      X.onSome (q34) fun p37 =>
      ∃ n38 : Int, ∃ n39 : Int, ∃ n40 : Int, ∃ n41 : Int, ∃ n42 : Int, ∃ n43 : Int, ∃ n44 : Int, ∃ n45 : Int, ∃ n46 : Int, ∃ n47 : Int, ∃ n48 : Int, ∃ n49 : Int, ∃ n50 : Int, ∃ n51 : Int, (((p37.add ((n25).toNat * 14)), [(.int .u8 n38), (.int .u8 n39), (.int .u16 n40), (.int .u8 n41), (.int .u16 n42), (.int .u32 n43), (.int .u8 n44), (.int .u8 n45), (.int .u8 n46), (.int .u8 n47), (.int .u8 n48), (.int .u8 n49), (.int .u8 n50), (.int .i64 n51)]) ∈ x28) ∧
      ∀ w52 : World, ∀ L53 : List Nat, (X.Hid (L27) w26 w52) →
      (X.NewL (w).heap.size (L27) w26 w52 L53) →
      X.CallX Try.prog 39 #[(.agg #[(.int .u8 n38), (.int .u8 n39), (.int .u16 n40), (.int .u8 n41), (.int .u16 n42), (.int .u32 n43), (.int .u8 n44), (.int .u8 n45), (.int .u8 n46), (.int .u8 n47), (.int .u8 n48), (.int .u8 n49), (.int .u8 n50), (.int .i64 n51)]), (.agg #[(.int .u8 b_0), (.int .u8 b_1), (.int .u16 b_2), (.int .u8 b_3), (.int .u16 b_4), (.int .u32 b_5), (.int .u8 b_6), (.int .u8 b_7), (.int .u8 b_8), (.int .u8 b_9), (.int .u8 b_10), (.int .u8 b_11), (.int .u8 b_12), (.int .i64 c)])] w52 fun e54 w55 =>
       ∃ b56 : Bool, (e54 = .returned (.bool b56)) ∧
       (X.Kept L53 w52 w55) ∧
       (X.FactsW x28 w55 (L53)) ∧
       if (true && b56) = true then
        (([(.int .u8 b_0), (.int .u8 b_1), (.int .u16 b_2), (.int .u8 b_3), (.int .u16 b_4), (.int .u32 b_5), (.int .u8 b_6), (.int .u8 b_7), (.int .u8 b_8), (.int .u8 b_9), (.int .u8 b_10), (.int .u8 b_11), (.int .u8 b_12)] : List Value) = [(.int .u8 b_0), (.int .u8 b_1), (.int .u16 b_2), (.int .u8 b_3), (.int .u16 b_4), (.int .u32 b_5), (.int .u8 b_6), (.int .u8 b_7), (.int .u8 b_8), (.int .u8 b_9), (.int .u8 b_10), (.int .u8 b_11), (.int .u8 b_12)]) ∧
        (([(.int .u8 b_0), (.int .u8 b_1), (.int .u16 b_2), (.int .u8 b_3), (.int .u16 b_4), (.int .u32 b_5), (.int .u8 b_6), (.int .u8 b_7), (.int .u8 b_8), (.int .u8 b_9), (.int .u8 b_10), (.int .u8 b_11), (.int .u8 b_12), (.int .i64 c)] : List Value) = [(.int .u8 b_0), (.int .u8 b_1), (.int .u16 b_2), (.int .u8 b_3), (.int .u16 b_4), (.int .u32 b_5), (.int .u8 b_6), (.int .u8 b_7), (.int .u8 b_8), (.int .u8 b_9), (.int .u8 b_10), (.int .u8 b_11), (.int .u8 b_12), (.int .i64 c)]) ∧
        (x23 (IntKind.wrap .i64 (n25 + 1)) w55 (L53)) ∧
        Nat.le ((x24 (IntKind.wrap .i64 (n25 + 1)) w55) + 1) (x24 n25 w26)
       else
        (([(.int .u8 b_0), (.int .u8 b_1), (.int .u16 b_2), (.int .u8 b_3), (.int .u16 b_4), (.int .u32 b_5), (.int .u8 b_6), (.int .u8 b_7), (.int .u8 b_8), (.int .u8 b_9), (.int .u8 b_10), (.int .u8 b_11), (.int .u8 b_12)] : List Value) = [(.int .u8 b_0), (.int .u8 b_1), (.int .u16 b_2), (.int .u8 b_3), (.int .u16 b_4), (.int .u32 b_5), (.int .u8 b_6), (.int .u8 b_7), (.int .u8 b_8), (.int .u8 b_9), (.int .u8 b_10), (.int .u8 b_11), (.int .u8 b_12)]) ∧
        (([(.int .u8 b_0), (.int .u8 b_1), (.int .u16 b_2), (.int .u8 b_3), (.int .u16 b_4), (.int .u32 b_5), (.int .u8 b_6), (.int .u8 b_7), (.int .u8 b_8), (.int .u8 b_9), (.int .u8 b_10), (.int .u8 b_11), (.int .u8 b_12), (.int .i64 c)] : List Value) = [(.int .u8 b_0), (.int .u8 b_1), (.int .u16 b_2), (.int .u8 b_3), (.int .u16 b_4), (.int .u32 b_5), (.int .u8 b_6), (.int .u8 b_7), (.int .u8 b_8), (.int .u8 b_9), (.int .u8 b_10), (.int .u8 b_11), (.int .u8 b_12), (.int .i64 c)]) ∧
        x20 n25 w55 (L53)
     else
      ∀ w32 : World, ∀ L33 : List Nat, (X.Hid (L27) w26 w32) →
      (X.NewL (w).heap.size (L27) w26 w32 L33) →
      (([(.int .u8 b_0), (.int .u8 b_1), (.int .u16 b_2), (.int .u8 b_3), (.int .u16 b_4), (.int .u32 b_5), (.int .u8 b_6), (.int .u8 b_7), (.int .u8 b_8), (.int .u8 b_9), (.int .u8 b_10), (.int .u8 b_11), (.int .u8 b_12)] : List Value) = [(.int .u8 b_0), (.int .u8 b_1), (.int .u16 b_2), (.int .u8 b_3), (.int .u16 b_4), (.int .u32 b_5), (.int .u8 b_6), (.int .u8 b_7), (.int .u8 b_8), (.int .u8 b_9), (.int .u8 b_10), (.int .u8 b_11), (.int .u8 b_12)]) ∧
      (([(.int .u8 b_0), (.int .u8 b_1), (.int .u16 b_2), (.int .u8 b_3), (.int .u16 b_4), (.int .u32 b_5), (.int .u8 b_6), (.int .u8 b_7), (.int .u8 b_8), (.int .u8 b_9), (.int .u8 b_10), (.int .u8 b_11), (.int .u8 b_12), (.int .i64 c)] : List Value) = [(.int .u8 b_0), (.int .u8 b_1), (.int .u16 b_2), (.int .u8 b_3), (.int .u16 b_4), (.int .u32 b_5), (.int .u8 b_6), (.int .u8 b_7), (.int .u8 b_8), (.int .u8 b_9), (.int .u8 b_10), (.int .u8 b_11), (.int .u8 b_12), (.int .i64 c)]) ∧
      x20 n25 w32 (L33)) ∧
    ∀ n57 : Int, ∀ w58 : World, ∀ L59 : List Nat, (X.LF (w).heap.size w58 L59) →
    (x20 n57 w58 L59) →
    ∃ x60 : X.Facts, (X.FactsW x60 w58 (L59)) ∧
    ∃ q61 : Option Addr, ∃ k62 : Nat, ∃ k63 : Nat, (((a.add 0), [(.slice (q61) k62 k63)]) ∈ x60) ∧
    ((0 : Int) ≤ n57) ∧
    (n57 ≤ ((k63 : Nat) : Int)) ∧
    ∃ q64 : Option Addr, ∃ k65 : Nat, ∃ k66 : Nat, (((a.add 0), [(.slice (q64) k65 k66)]) ∈ x60) ∧
    ((0 : Int) ≤ n57) ∧
    (n57 ≤ ((k65 : Nat) : Int)) ∧
    (∀ w67 : World, ∀ L68 : List Nat, (X.Hid (L59) w58 w67) →
     (X.NewL (w).heap.size (L59) w58 w67 L68) →
     (X.FactsW x60 (w67.alloc (.cells #[] 91)) (L68)) ∧
     (∃ q69 : Option Addr, ∃ k70 : Nat, ∃ k71 : Nat, ∃ w72 : World, (Sem.run Try.prog (Go.Builtin.append_ #[86, 86] 86 #[(.slice (some ⟨(w67).heap.size, 0, none⟩) 0 0), (.slice (X.cutA (q61) k63 0 14) (n57).toNat k63)]) (w67.alloc (.cells #[] 91)) = .ok (.slice (q69) k70 k71) w72) ∧
      (X.Kept L68 (w67.alloc (.cells #[] 91)) w72) ∧
      (X.FactsW x60 w72 (L68)) ∧
      (X.FactsW x60 (w72.alloc (.cells #[(.int .u8 b_0), (.int .u8 b_1), (.int .u16 b_2), (.int .u8 b_3), (.int .u16 b_4), (.int .u32 b_5), (.int .u8 b_6), (.int .u8 b_7), (.int .u8 b_8), (.int .u8 b_9), (.int .u8 b_10), (.int .u8 b_11), (.int .u8 b_12), (.int .i64 c)] 91)) (L68)) ∧
      ∃ q73 : Option Addr, ∃ k74 : Nat, ∃ k75 : Nat, ∃ w76 : World, (Sem.run Try.prog (Go.Builtin.append_ #[86, 86] 86 #[(.slice (q69) k70 k71), (.slice (some ⟨(w72).heap.size, 0, none⟩) 1 1)]) (w72.alloc (.cells #[(.int .u8 b_0), (.int .u8 b_1), (.int .u16 b_2), (.int .u8 b_3), (.int .u16 b_4), (.int .u32 b_5), (.int .u8 b_6), (.int .u8 b_7), (.int .u8 b_8), (.int .u8 b_9), (.int .u8 b_10), (.int .u8 b_11), (.int .u8 b_12), (.int .i64 c)] 91)) = .ok (.slice (q73) k74 k75) w76) ∧
      (X.Kept L68 (w72.alloc (.cells #[(.int .u8 b_0), (.int .u8 b_1), (.int .u16 b_2), (.int .u8 b_3), (.int .u16 b_4), (.int .u32 b_5), (.int .u8 b_6), (.int .u8 b_7), (.int .u8 b_8), (.int .u8 b_9), (.int .u8 b_10), (.int .u8 b_11), (.int .u8 b_12), (.int .i64 c)] 91)) w76) ∧
      (X.FactsW x60 w76 (L68)) ∧
      ∃ q77 : Option Addr, ∃ k78 : Nat, ∃ k79 : Nat, ∃ w80 : World, (Sem.run Try.prog (Go.Builtin.append_ #[86, 86] 86 #[(.slice (q73) k74 k75), (.slice (X.cutA (q64) k66 (n57).toNat 14) (k65 - (n57).toNat) (k66 - (n57).toNat))]) w76 = .ok (.slice (q77) k78 k79) w80) ∧
      (X.Kept L68 w76 w80) ∧
      (X.FactsW x60 w80 (L68)) ∧
      (((a.add 0).spot) = none) ∧
      (World.there w80 ((a.add 0).block) ((a.add 0).off) 1) ∧
      (¬ (((a.add 0).block) ∈ L68)) ∧
      R (.returned (.int .i64 0)) (w80.setCells ((a.add 0).block) ((a.add 0).off) [(.slice (q77) k78 k79)])) ∧
     (X.FactsW x60 ((w67.alloc (.cells #[] 91)).alloc (.cells #[(.int .u8 b_0), (.int .u8 b_1), (.int .u16 b_2), (.int .u8 b_3), (.int .u16 b_4), (.int .u32 b_5), (.int .u8 b_6), (.int .u8 b_7), (.int .u8 b_8), (.int .u8 b_9), (.int .u8 b_10), (.int .u8 b_11), (.int .u8 b_12), (.int .i64 c)] 91)) (L68)) ∧
     ∃ q81 : Option Addr, ∃ k82 : Nat, ∃ k83 : Nat, ∃ w84 : World, (Sem.run Try.prog (Go.Builtin.append_ #[86, 86] 86 #[(.slice (some ⟨(w67).heap.size, 0, none⟩) 0 0), (.slice (X.cutA (q61) k63 0 14) (n57).toNat k63)]) ((w67.alloc (.cells #[] 91)).alloc (.cells #[(.int .u8 b_0), (.int .u8 b_1), (.int .u16 b_2), (.int .u8 b_3), (.int .u16 b_4), (.int .u32 b_5), (.int .u8 b_6), (.int .u8 b_7), (.int .u8 b_8), (.int .u8 b_9), (.int .u8 b_10), (.int .u8 b_11), (.int .u8 b_12), (.int .i64 c)] 91)) = .ok (.slice (q81) k82 k83) w84) ∧
     (X.Kept L68 ((w67.alloc (.cells #[] 91)).alloc (.cells #[(.int .u8 b_0), (.int .u8 b_1), (.int .u16 b_2), (.int .u8 b_3), (.int .u16 b_4), (.int .u32 b_5), (.int .u8 b_6), (.int .u8 b_7), (.int .u8 b_8), (.int .u8 b_9), (.int .u8 b_10), (.int .u8 b_11), (.int .u8 b_12), (.int .i64 c)] 91)) w84) ∧
     (X.FactsW x60 w84 (L68)) ∧
     ∃ q85 : Option Addr, ∃ k86 : Nat, ∃ k87 : Nat, ∃ w88 : World, (Sem.run Try.prog (Go.Builtin.append_ #[86, 86] 86 #[(.slice (q81) k82 k83), (.slice (some ⟨((w67.alloc (.cells #[] 91))).heap.size, 0, none⟩) 1 1)]) w84 = .ok (.slice (q85) k86 k87) w88) ∧
     (X.Kept L68 w84 w88) ∧
     (X.FactsW x60 w88 (L68)) ∧
     ∃ q89 : Option Addr, ∃ k90 : Nat, ∃ k91 : Nat, ∃ w92 : World, (Sem.run Try.prog (Go.Builtin.append_ #[86, 86] 86 #[(.slice (q85) k86 k87), (.slice (X.cutA (q64) k66 (n57).toNat 14) (k65 - (n57).toNat) (k66 - (n57).toNat))]) w88 = .ok (.slice (q89) k90 k91) w92) ∧
     (X.Kept L68 w88 w92) ∧
     (X.FactsW x60 w92 (L68)) ∧
     (((a.add 0).spot) = none) ∧
     (World.there w92 ((a.add 0).block) ((a.add 0).off) 1) ∧
     (¬ (((a.add 0).block) ∈ L68)) ∧
     R (.returned (.int .i64 0)) (w92.setCells ((a.add 0).block) ((a.add 0).off) [(.slice (q89) k90 k91)])) ∧
    ∀ w93 : World, ∀ L94 : List Nat, (X.Hid (L59) w58 w93) →
    (X.NewL (w).heap.size (L59) w58 w93 L94) →
    (X.FactsW x60 (w93.alloc (.cells #[(.int .u8 b_0), (.int .u8 b_1), (.int .u16 b_2), (.int .u8 b_3), (.int .u16 b_4), (.int .u32 b_5), (.int .u8 b_6), (.int .u8 b_7), (.int .u8 b_8), (.int .u8 b_9), (.int .u8 b_10), (.int .u8 b_11), (.int .u8 b_12), (.int .i64 c)] 91)) (L94)) ∧
    (X.FactsW x60 ((w93.alloc (.cells #[(.int .u8 b_0), (.int .u8 b_1), (.int .u16 b_2), (.int .u8 b_3), (.int .u16 b_4), (.int .u32 b_5), (.int .u8 b_6), (.int .u8 b_7), (.int .u8 b_8), (.int .u8 b_9), (.int .u8 b_10), (.int .u8 b_11), (.int .u8 b_12), (.int .i64 c)] 91)).alloc (.cells #[] 91)) (L94)) ∧
    ∃ q95 : Option Addr, ∃ k96 : Nat, ∃ k97 : Nat, ∃ w98 : World, (Sem.run Try.prog (Go.Builtin.append_ #[86, 86] 86 #[(.slice (some ⟨((w93.alloc (.cells #[(.int .u8 b_0), (.int .u8 b_1), (.int .u16 b_2), (.int .u8 b_3), (.int .u16 b_4), (.int .u32 b_5), (.int .u8 b_6), (.int .u8 b_7), (.int .u8 b_8), (.int .u8 b_9), (.int .u8 b_10), (.int .u8 b_11), (.int .u8 b_12), (.int .i64 c)] 91))).heap.size, 0, none⟩) 0 0), (.slice (X.cutA (q61) k63 0 14) (n57).toNat k63)]) ((w93.alloc (.cells #[(.int .u8 b_0), (.int .u8 b_1), (.int .u16 b_2), (.int .u8 b_3), (.int .u16 b_4), (.int .u32 b_5), (.int .u8 b_6), (.int .u8 b_7), (.int .u8 b_8), (.int .u8 b_9), (.int .u8 b_10), (.int .u8 b_11), (.int .u8 b_12), (.int .i64 c)] 91)).alloc (.cells #[] 91)) = .ok (.slice (q95) k96 k97) w98) ∧
    (X.Kept L94 ((w93.alloc (.cells #[(.int .u8 b_0), (.int .u8 b_1), (.int .u16 b_2), (.int .u8 b_3), (.int .u16 b_4), (.int .u32 b_5), (.int .u8 b_6), (.int .u8 b_7), (.int .u8 b_8), (.int .u8 b_9), (.int .u8 b_10), (.int .u8 b_11), (.int .u8 b_12), (.int .i64 c)] 91)).alloc (.cells #[] 91)) w98) ∧
    (X.FactsW x60 w98 (L94)) ∧
    ∃ q99 : Option Addr, ∃ k100 : Nat, ∃ k101 : Nat, ∃ w102 : World, (Sem.run Try.prog (Go.Builtin.append_ #[86, 86] 86 #[(.slice (q95) k96 k97), (.slice (some ⟨(w93).heap.size, 0, none⟩) 1 1)]) w98 = .ok (.slice (q99) k100 k101) w102) ∧
    (X.Kept L94 w98 w102) ∧
    (X.FactsW x60 w102 (L94)) ∧
    ∃ q103 : Option Addr, ∃ k104 : Nat, ∃ k105 : Nat, ∃ w106 : World, (Sem.run Try.prog (Go.Builtin.append_ #[86, 86] 86 #[(.slice (q99) k100 k101), (.slice (X.cutA (q64) k66 (n57).toNat 14) (k65 - (n57).toNat) (k66 - (n57).toNat))]) w102 = .ok (.slice (q103) k104 k105) w106) ∧
    (X.Kept L94 w102 w106) ∧
    (X.FactsW x60 w106 (L94)) ∧
    (((a.add 0).spot) = none) ∧
    (World.there w106 ((a.add 0).block) ((a.add 0).off) 1) ∧
    (¬ (((a.add 0).block) ∈ L94)) ∧
    R (.returned (.int .i64 0)) (w106.setCells ((a.add 0).block) ((a.add 0).off) [(.slice (q103) k104 k105)])) :
    Calls Try.prog 16 #[.pointer (some a), .agg #[.int .u8 b_0, .int .u8 b_1, .int .u16 b_2, .int .u8 b_3, .int .u16 b_4, .int .u32 b_5, .int .u8 b_6, .int .u8 b_7, .int .u8 b_8, .int .u8 b_9, .int .u8 b_10, .int .u8 b_11, .int .u8 b_12], .int .i64 c] w R :=
  X.calls_of { isLoc := [4, 7], sym := [], loops := [(6, .inv [(8, .int .i64)] [] true)], joins := [(0, ([(8, .int .i64)], []))], rjoins := [(1, ([(24, .bool)], [], []))] } Try.func16 (by kernel_rfl) h
end Go.Proofs
