import Derived.Test.YtfhjpjkecjlmjaaXFn
import Derived.Test.YtfhjpjkecjlmjaaProg
/- The verification conditions of this seat's functions, as the engine has them: printed by a program of the bench; checked by the kernel. -/
set_option maxRecDepth 100000
set_option linter.unusedVariables false
namespace Go.Proofs
open Go
abbrev fn_gemotlaw08_light : Nat := 7
theorem x_gemotlaw08_light (a : Option Addr) (al ac : Nat) (w : World) (R : Ending → World → Prop) (h :
  ∃ x1 : Int → Int → World → List Nat → Prop, ∃ x2 : Int → Int → World → Nat, (x1 5000 0 w []) ∧
  ∀ n3 : Int, ∀ n4 : Int, ∀ w5 : World, ∀ L6 : List Nat, (X.LF (w).heap.size w5 L6) →
  (x1 n3 n4 w5 L6) →
  if (decide (n4 < ((al : Nat) : Int)) && decide (n4 < 200)) = true then
   (0 ≤ n4) ∧
   (n4 < ((al : Nat) : Int)) ∧
   X.onSome (a) fun p7 =>
   ∃ q8 : Option Addr, ∃ k9 : Nat, ∃ k10 : Nat, (World.cell? w5 ⟨((p7.add (n4.toNat * 10)).block), ((((p7.add (n4.toNat * 10)).off) + 4) + 4), none⟩ = some (.slice (q8) k9 k10)) ∧
   (x1 (IntKind.wrap .i64 (n3 - (if 6000 < ((k9 : Nat) : Int) then 6000 else ((k9 : Nat) : Int)))) (IntKind.wrap .i64 (n4 + 1)) w5 []) ∧
   Nat.le ((x2 (IntKind.wrap .i64 (n3 - (if 6000 < ((k9 : Nat) : Int) then 6000 else ((k9 : Nat) : Int)))) (IntKind.wrap .i64 (n4 + 1)) w5) + 1) (x2 n3 n4 w5)
  else
   R (.returned (.bool (decide (((al : Nat) : Int) ≤ 100) && decide (n3 ≥ 0)))) w5) :
    Calls Try.prog 7 #[.slice a al ac] w R :=
  X.calls_of { isLoc := [], sym := [], loops := [(3, .inv [(3, .int .i64), (4, .int .i64)] [] true)], joins := [] } Try.func7 (by kernel_rfl) h
abbrev fn_gemotlaw08_knows : Nat := 8
theorem x_gemotlaw08_knows  (w : World) (R : Ending → World → Prop) (h :
  X.CallX Try.prog 9 #[(.int .i64 2)] w fun e1 w2 =>
   ∃ q3 : Option Addr, (e1 = .returned (.pointer (q3))) ∧
   ((w).heap.size ≤ (w2).heap.size) ∧
   ∃ q4 : Option Addr, ∃ k5 : Nat, ∃ k6 : Nat, ∃ w7 : World, (Sem.run Try.prog (Go.convert 32 32 (.slice (some ⟨(w2).heap.size, 0, none⟩) 4 4)) (w2.alloc (.cells #[(.int .u8 97), (.int .u8 98), (.int .u8 99), (.int .u8 100)] 5)) = .ok (.slice (q4) k5 k6) w7) ∧
   (((w2.alloc (.cells #[(.int .u8 97), (.int .u8 98), (.int .u8 99), (.int .u8 100)] 5))).heap.size ≤ (w7).heap.size) ∧
   X.CallX Try.prog 10 #[(.pointer (q3)), (.agg #[(.int .u8 0), (.int .u16 0), (.int .u8 0), (.int .u16 0), (.slice (q4) k5 k6), (.bool false)])] w7 fun e8 w9 =>
    ∃ n10 : Int, (e8 = .returned (.int .i64 n10)) ∧
    ((w7).heap.size ≤ (w9).heap.size) ∧
    ∃ q11 : Option Addr, ∃ k12 : Nat, ∃ k13 : Nat, ∃ w14 : World, (Sem.run Try.prog (Go.convert 32 32 (.slice (some ⟨(w9).heap.size, 0, none⟩) 1 1)) (w9.alloc (.cells #[(.int .u8 120)] 5)) = .ok (.slice (q11) k12 k13) w14) ∧
    (((w9.alloc (.cells #[(.int .u8 120)] 5))).heap.size ≤ (w14).heap.size) ∧
    X.CallX Try.prog 10 #[(.pointer (q3)), (.agg #[(.int .u8 0), (.int .u16 0), (.int .u8 0), (.int .u16 0), (.slice (q11) k12 k13), (.bool false)])] w14 fun e15 w16 =>
     ∃ n17 : Int, (e15 = .returned (.int .i64 n17)) ∧
     ((w14).heap.size ≤ (w16).heap.size) ∧
     X.CallX Try.prog 12 #[(.pointer (q3)), (.int .i64 0)] w16 fun e18 w19 =>
      ∃ n20 : Int, ∃ n21 : Int, ∃ n22 : Int, ∃ n23 : Int, ∃ q24 : Option Addr, ∃ k25 : Nat, ∃ k26 : Nat, ∃ b27 : Bool, ∃ n28 : Int, (e18 = .returned (.tuple #[(.agg #[(.int .u8 n20), (.int .u16 n21), (.int .u8 n22), (.int .u16 n23), (.slice (q24) k25 k26), (.bool b27)]), (.int .i64 n28)])) ∧
      ((w16).heap.size ≤ (w19).heap.size) ∧
      ∀ w29 : World, ∀ L30 : List Nat, (X.Hid [] w19 w29) →
      (X.NewL (w).heap.size [] w19 w29 L30) →
      X.CallX Try.prog 16 #[(.int .i64 n10)] w29 fun e31 w32 =>
       ∃ n33 : Int, (e31 = .returned (.int .i64 n33)) ∧
       (X.Kept L30 w29 w32) ∧
       X.CallX Try.prog 16 #[(.int .i64 n17)] w32 fun e34 w35 =>
        ∃ n36 : Int, (e34 = .returned (.int .i64 n36)) ∧
        (X.Kept L30 w32 w35) ∧
        X.CallX Try.prog 16 #[(.int .i64 n28)] w35 fun e37 w38 =>
         ∃ n39 : Int, (e37 = .returned (.int .i64 n39)) ∧
         (X.Kept L30 w35 w38) ∧
         if (((IntKind.wrap .i64 ((IntKind.wrap .i64 (n33 + n36)) + n39)) == 0) == true) = true then
          ∃ s40 : ByteArray, ∃ w41 : World, (Sem.run Try.prog (Go.convert 32 9 (.slice (q24) k25 k26)) w38 = .ok (.string s40) w41) ∧
          (X.Kept L30 w38 w41) ∧
          if ((true && ((s40.toList) == ((ByteArray.mk #[OfNat.ofNat 97, OfNat.ofNat 98, OfNat.ofNat 99, OfNat.ofNat 100]).toList))) == true) = true then
           X.CallX Try.prog 23 #[(.pointer (q3))] w41 fun e42 w43 =>
            ∃ n44 : Int, (e42 = .returned (.int .i64 n44)) ∧
            (X.Kept L30 w41 w43) ∧
            R (.returned (.bool (true && (n44 == 1)))) w43
          else
           R (.returned (.bool false)) w41
         else
          R (.returned (.bool false)) w38) :
    Calls Try.prog 8 #[] w R :=
  X.calls_of { isLoc := [4], sym := [], loops := [], joins := [] } Try.func8 (by kernel_rfl) h
abbrev fn_bag_New : Nat := 9
theorem x_bag_New (a : Int) (w : World) (R : Ending → World → Prop) (h :
  R (.returned (.pointer (some ⟨(w).heap.size, 0, none⟩))) (w.alloc (.cells #[(.slice none 0 0), (.int .i64 (if 2000 < (if 0 > a then 0 else a) then 2000 else (if 0 > a then 0 else a))), (.bool true)] 65))) :
    Calls Try.prog 9 #[.int .i64 a] w R :=
  X.calls_of { isLoc := [], sym := [], loops := [], joins := [] } Try.func9 (by kernel_rfl) h
abbrev fn_bag_Bag_Put : Nat := 10
theorem x_bag_Bag_Put (a : Addr) (b_0 b_1 b_2 b_3 : Int) (b_4 : Option Addr) (b_4l b_4c : Nat) (b_5 : Bool) (w : World) (R : Ending → World → Prop) (h :
  ∀ w1 : World, ∀ L2 : List Nat, (X.Hid [] w w1) →
  (X.NewL (w).heap.size [] w w1 L2) →
  X.CallX Try.prog 25 #[(.pointer (some a))] w1 fun e3 w4 =>
   ∃ b5 : Bool, (e3 = .returned (.bool b5)) ∧
   (X.Kept L2 w1 w4) ∧
   if b5 = true then
    R (.returned (.int .i64 1)) w4
   else
    ∃ x6 : X.Facts, (X.FactsW x6 w4 (L2)) ∧
    ∃ n7 : Int, (((a.add 1), [(.int .i64 n7)]) ∈ x6) ∧
    ∀ w8 : World, ∀ L9 : List Nat, (X.Hid (L2) w4 w8) →
    (X.NewL (w).heap.size (L2) w4 w8 L9) →
    X.CallX Try.prog 26 #[(.pointer (some (a.add 0)))] w8 fun e10 w11 =>
     ∃ n12 : Int, (e10 = .returned (.int .i64 n12)) ∧
     (X.Kept L9 w8 w11) ∧
     (X.FactsW x6 w11 (L9)) ∧
     if (decide (n12 ≥ n7)) = true then
      R (.returned (.int .i64 11)) w11
     else
      ∃ x13 : X.Facts, (X.FactsW x13 w11 (L9)) ∧
      ∃ q14 : Option Addr, ∃ k15 : Nat, ∃ k16 : Nat, ((((a.add 0).add 0), [(.slice (q14) k15 k16)]) ∈ x13) ∧
      ∀ w17 : World, ∀ L18 : List Nat, (X.Hid (L9) w11 w17) →
      (X.NewL (w).heap.size (L9) w11 w17 L18) →
      X.CallX Try.prog 27 #[(.agg #[(.int .u8 b_0), (.int .u16 b_1), (.int .u8 b_2), (.int .u16 b_3), (.slice (b_4) b_4l b_4c), (.bool b_5)])] w17 fun e19 w20 =>
       ∃ n21 : Int, ∃ n22 : Int, ∃ n23 : Int, ∃ n24 : Int, ∃ q25 : Option Addr, ∃ k26 : Nat, ∃ k27 : Nat, ∃ b28 : Bool, (e19 = .returned (.agg #[(.int .u8 n21), (.int .u16 n22), (.int .u8 n23), (.int .u16 n24), (.slice (q25) k26 k27), (.bool b28)])) ∧
       (X.Kept L18 w17 w20) ∧
       (X.FactsW x13 w20 (L18)) ∧
       (X.FactsW x13 (w20.alloc (.cells #[(.int .u8 n21), (.int .u16 n22), (.int .u8 n23), (.int .u16 n24), (.slice (q25) k26 k27), (.bool b28)] 39)) (L18)) ∧
       ∃ q29 : Option Addr, ∃ k30 : Nat, ∃ k31 : Nat, ∃ w32 : World, (Sem.run Try.prog (Go.Builtin.append_ #[60, 60] 60 #[(.slice (q14) k15 k16), (.slice (some ⟨(w20).heap.size, 0, none⟩) 1 1)]) (w20.alloc (.cells #[(.int .u8 n21), (.int .u16 n22), (.int .u8 n23), (.int .u16 n24), (.slice (q25) k26 k27), (.bool b28)] 39)) = .ok (.slice (q29) k30 k31) w32) ∧
       (X.Kept L18 (w20.alloc (.cells #[(.int .u8 n21), (.int .u16 n22), (.int .u8 n23), (.int .u16 n24), (.slice (q25) k26 k27), (.bool b28)] 39)) w32) ∧
       (X.FactsW x13 w32 (L18)) ∧
       ((((a.add 0).add 0).spot) = none) ∧
       (World.there w32 (((a.add 0).add 0).block) (((a.add 0).add 0).off) 1) ∧
       (¬ ((((a.add 0).add 0).block) ∈ L18)) ∧
       R (.returned (.int .i64 0)) (w32.setCells (((a.add 0).add 0).block) (((a.add 0).add 0).off) [(.slice (q29) k30 k31)])) :
    Calls Try.prog 10 #[.pointer (some a), .agg #[.int .u8 b_0, .int .u16 b_1, .int .u8 b_2, .int .u16 b_3, .slice b_4 b_4l b_4c, .bool b_5]] w R :=
  X.calls_of { isLoc := [3], sym := [], loops := [], joins := [] } Try.func10 (by kernel_rfl) h
abbrev fn_gemotlaw08_Own : Nat := 11
theorem x_gemotlaw08_Own (a_0 a_1 a_2 a_3 : Int) (a_4 : Option Addr) (a_4l a_4c : Nat) (a_5 : Bool) (w : World) (R : Ending → World → Prop) (h :
  ∃ x1 : X.Facts, (X.FactsW x1 w []) ∧
  (∀ w2 : World, ∀ L3 : List Nat, (X.Hid [] w w2) →
   (X.NewL (w).heap.size [] w w2 L3) →
   X.CallX Try.prog 28 #[(.agg #[(.int .u8 a_0), (.int .u16 a_1)])] w2 fun e4 w5 =>
    ∃ n6 : Int, ∃ n7 : Int, (e4 = .returned (.agg #[(.int .u8 n6), (.int .u16 n7)])) ∧
    (X.Kept L3 w2 w5) ∧
    (X.FactsW x1 w5 (L3)) ∧
    (X.CallX Try.prog 28 #[(.agg #[(.int .u8 a_2), (.int .u16 a_3)])] w5 fun e8 w9 =>
      ∃ n10 : Int, ∃ n11 : Int, (e8 = .returned (.agg #[(.int .u8 n10), (.int .u16 n11)])) ∧
      (X.Kept L3 w5 w9) ∧
      (X.FactsW x1 w9 (L3)) ∧
      (X.FactsW x1 (w9.alloc (.cells #[] 5)) (L3)) ∧
      ∃ q12 : Option Addr, ∃ k13 : Nat, ∃ k14 : Nat, ∃ w15 : World, (Sem.run Try.prog (Go.Builtin.append_ #[32, 32] 32 #[(.slice (some ⟨(w9).heap.size, 0, none⟩) 0 0), (.slice (a_4) a_4l a_4c)]) (w9.alloc (.cells #[] 5)) = .ok (.slice (q12) k13 k14) w15) ∧
      (X.Kept L3 (w9.alloc (.cells #[] 5)) w15) ∧
      (X.FactsW x1 w15 (L3)) ∧
      ∀ w16 : World, (X.Hid (L3) w15 w16) →
      R (.returned (.agg #[(.int .u8 n6), (.int .u16 n7), (.int .u8 n10), (.int .u16 n11), (.slice (q12) k13 k14), (.bool a_5)])) w16) ∧
    (X.FactsW x1 (w5.alloc (.cells #[] 5)) (L3)) ∧
    X.CallX Try.prog 28 #[(.agg #[(.int .u8 a_2), (.int .u16 a_3)])] (w5.alloc (.cells #[] 5)) fun e17 w18 =>
     ∃ n19 : Int, ∃ n20 : Int, (e17 = .returned (.agg #[(.int .u8 n19), (.int .u16 n20)])) ∧
     (X.Kept L3 (w5.alloc (.cells #[] 5)) w18) ∧
     (X.FactsW x1 w18 (L3)) ∧
     ∃ q21 : Option Addr, ∃ k22 : Nat, ∃ k23 : Nat, ∃ w24 : World, (Sem.run Try.prog (Go.Builtin.append_ #[32, 32] 32 #[(.slice (some ⟨(w5).heap.size, 0, none⟩) 0 0), (.slice (a_4) a_4l a_4c)]) w18 = .ok (.slice (q21) k22 k23) w24) ∧
     (X.Kept L3 w18 w24) ∧
     (X.FactsW x1 w24 (L3)) ∧
     ∀ w25 : World, (X.Hid (L3) w24 w25) →
     R (.returned (.agg #[(.int .u8 n6), (.int .u16 n7), (.int .u8 n19), (.int .u16 n20), (.slice (q21) k22 k23), (.bool a_5)])) w25) ∧
  ∀ w26 : World, ∀ L27 : List Nat, (X.Hid [] w w26) →
  (X.NewL (w).heap.size [] w w26 L27) →
  (X.FactsW x1 (w26.alloc (.cells #[] 5)) (L27)) ∧
  X.CallX Try.prog 28 #[(.agg #[(.int .u8 a_0), (.int .u16 a_1)])] (w26.alloc (.cells #[] 5)) fun e28 w29 =>
   ∃ n30 : Int, ∃ n31 : Int, (e28 = .returned (.agg #[(.int .u8 n30), (.int .u16 n31)])) ∧
   (X.Kept L27 (w26.alloc (.cells #[] 5)) w29) ∧
   (X.FactsW x1 w29 (L27)) ∧
   X.CallX Try.prog 28 #[(.agg #[(.int .u8 a_2), (.int .u16 a_3)])] w29 fun e32 w33 =>
    ∃ n34 : Int, ∃ n35 : Int, (e32 = .returned (.agg #[(.int .u8 n34), (.int .u16 n35)])) ∧
    (X.Kept L27 w29 w33) ∧
    (X.FactsW x1 w33 (L27)) ∧
    ∃ q36 : Option Addr, ∃ k37 : Nat, ∃ k38 : Nat, ∃ w39 : World, (Sem.run Try.prog (Go.Builtin.append_ #[32, 32] 32 #[(.slice (some ⟨(w26).heap.size, 0, none⟩) 0 0), (.slice (a_4) a_4l a_4c)]) w33 = .ok (.slice (q36) k37 k38) w39) ∧
    (X.Kept L27 w33 w39) ∧
    (X.FactsW x1 w39 (L27)) ∧
    ∀ w40 : World, (X.Hid (L27) w39 w40) →
    R (.returned (.agg #[(.int .u8 n30), (.int .u16 n31), (.int .u8 n34), (.int .u16 n35), (.slice (q36) k37 k38), (.bool a_5)])) w40) :
    Calls Try.prog 11 #[.agg #[.int .u8 a_0, .int .u16 a_1, .int .u8 a_2, .int .u16 a_3, .slice a_4 a_4l a_4c, .bool a_5]] w R :=
  X.calls_of { isLoc := [1, 2], sym := [], loops := [], joins := [], stored := [(1, [2])] } Try.func11 (by kernel_rfl) h
abbrev fn_bag_Bag_Take : Nat := 12
theorem x_bag_Bag_Take (a : Addr) (b : Int) (w : World) (R : Ending → World → Prop) (h :
  ∀ w1 : World, ∀ L2 : List Nat, (X.Hid [] w w1) →
  (X.NewL (w).heap.size [] w w1 L2) →
  X.CallX Try.prog 15 #[(.pointer (some a)), (.int .i64 b)] w1 fun e3 w4 =>
   ∃ n5 : Int, ∃ n6 : Int, ∃ n7 : Int, ∃ n8 : Int, ∃ q9 : Option Addr, ∃ k10 : Nat, ∃ k11 : Nat, ∃ b12 : Bool, ∃ n13 : Int, (e3 = .returned (.tuple #[(.agg #[(.int .u8 n5), (.int .u16 n6), (.int .u8 n7), (.int .u16 n8), (.slice (q9) k10 k11), (.bool b12)]), (.int .i64 n13)])) ∧
   (X.Kept L2 w1 w4) ∧
   if (n13 == 0) = true then
    ∃ q15 : Option Addr, ∃ k16 : Nat, ∃ k17 : Nat, (World.cell? w4 ((a.add 0).add 0) = some (.slice (q15) k16 k17)) ∧
    (¬ ((((a.add 0).add 0).block) ∈ L2)) ∧
    ∀ w18 : World, ∀ L19 : List Nat, (X.Hid (L2) w4 w18) →
    (X.NewL (w).heap.size (L2) w4 w18 L19) →
    X.CallX Try.prog 29 #[(.slice (q15) k16 k17), (.int .i64 b), (.int .i64 (IntKind.wrap .i64 (b + 1)))] w18 fun e20 w21 =>
     ∃ q22 : Option Addr, ∃ k23 : Nat, ∃ k24 : Nat, (e20 = .returned (.slice (q22) k23 k24)) ∧
     (X.Kept L19 w18 w21) ∧
     ((((a.add 0).add 0).spot) = none) ∧
     (World.there w21 (((a.add 0).add 0).block) (((a.add 0).add 0).off) 1) ∧
     (¬ ((((a.add 0).add 0).block) ∈ L19)) ∧
     ∀ w25 : World, (X.Hid (L19) (w21.setCells (((a.add 0).add 0).block) (((a.add 0).add 0).off) [(.slice (q22) k23 k24)]) w25) →
     R (.returned (.tuple #[(.agg #[(.int .u8 n5), (.int .u16 n6), (.int .u8 n7), (.int .u16 n8), (.slice (q9) k10 k11), (.bool b12)]), (.int .i64 n13)])) w25
   else
    ∀ w14 : World, (X.Hid (L2) w4 w14) →
    R (.returned (.tuple #[(.agg #[(.int .u8 n5), (.int .u16 n6), (.int .u8 n7), (.int .u16 n8), (.slice (q9) k10 k11), (.bool b12)]), (.int .i64 n13)])) w14) :
    Calls Try.prog 12 #[.pointer (some a), .int .i64 b] w R :=
  X.calls_of { isLoc := [4, 6], sym := [], loops := [], joins := [] } Try.func12 (by kernel_rfl) h
abbrev fn_bag_Bag_Twice : Nat := 13
theorem x_bag_Bag_Twice (a : Addr) (b : Int) (w : World) (R : Ending → World → Prop) (h :
  X.CallX Try.prog 30 #[(.pointer (some a)), (.int .i64 b)] w fun e1 w2 =>
   ∃ q3 : Option Addr, ∃ n4 : Int, (e1 = .returned (.tuple #[(.pointer (q3)), (.int .i64 n4)])) ∧
   ((w).heap.size ≤ (w2).heap.size) ∧
   if (n4 != 0) = true then
    R (.returned (.int .i64 n4)) w2
   else
    X.onSome (q3) fun p5 =>
    ∃ n6 : Int, ∃ n7 : Int, ∃ n8 : Int, ∃ n9 : Int, ∃ q10 : Option Addr, ∃ k11 : Nat, ∃ k12 : Nat, ∃ b13 : Bool, (X.Cells w2 p5 [(.int .u8 n6), (.int .u16 n7), (.int .u8 n8), (.int .u16 n9), (.slice (q10) k11 k12), (.bool b13)]) ∧
    X.CallX Try.prog 10 #[(.pointer (some a)), (.agg #[(.int .u8 n6), (.int .u16 n7), (.int .u8 n8), (.int .u16 n9), (.slice (q10) k11 k12), (.bool b13)])] w2 fun e14 w15 =>
     ∃ n16 : Int, (e14 = .returned (.int .i64 n16)) ∧
     ((w2).heap.size ≤ (w15).heap.size) ∧
     R (.returned (.int .i64 n16)) w15) :
    Calls Try.prog 13 #[.pointer (some a), .int .i64 b] w R :=
  X.calls_of { isLoc := [], sym := [], loops := [], joins := [] } Try.func13 (by kernel_rfl) h
abbrev fn_bag_Bag_Spoil : Nat := 14
theorem x_bag_Bag_Spoil (a : Addr) (b c d : Int) (w : World) (R : Ending → World → Prop) (h :
  X.CallX Try.prog 30 #[(.pointer (some a)), (.int .i64 b)] w fun e1 w2 =>
   ∃ q3 : Option Addr, ∃ n4 : Int, (e1 = .returned (.tuple #[(.pointer (q3)), (.int .i64 n4)])) ∧
   ((w).heap.size ≤ (w2).heap.size) ∧
   if (n4 != 0) = true then
    R (.returned (.int .i64 n4)) w2
   else
    X.onSome (q3) fun p5 =>
    ∃ b6 : Bool, (World.cell? w2 (p5.add 5) = some (.bool b6)) ∧
    if b6 = true then
     R (.returned (.int .i64 4)) w2
    else
     if (d == 0) = true then
      R (.returned (.int .i64 1)) w2
     else
      if ((decide (c < 0)) == false) = true then
       X.onSome (q3) fun p7 =>
       ∃ q8 : Option Addr, ∃ k9 : Nat, ∃ k10 : Nat, (World.cell? w2 (p7.add 4) = some (.slice (q8) k9 k10)) ∧
       if (false || decide (c > (IntKind.wrap .i64 (((k9 : Nat) : Int) - 4)))) = true then
        R (.returned (.int .i64 2)) w2
       else
        ∃ x11 : Int → World → List Nat → Prop, ∃ x12 : Int → World → Nat, (x11 0 w2 []) ∧
        ∀ n13 : Int, ∀ w14 : World, ∀ L15 : List Nat, (X.LF (w).heap.size w14 L15) →
        (x11 n13 w14 L15) →
        if (decide (n13 < 4)) = true then
         ∃ x17 : X.Facts, (X.FactsW x17 w14 []) ∧
         X.onSome (q3) fun p18 =>
         ∃ q19 : Option Addr, ∃ k20 : Nat, ∃ k21 : Nat, (((p18.add 4), [(.slice (q19) k20 k21)]) ∈ x17) ∧
         (0 ≤ (IntKind.wrap .i64 (c + n13))) ∧
         ((IntKind.wrap .i64 (c + n13)) < ((k20 : Nat) : Int)) ∧
         X.onSome (q19) fun p22 =>
         ∃ n23 : Int, (((p22.add (((IntKind.wrap .i64 (c + n13))).toNat * 1)), [(.int .u8 n23)]) ∈ x17) ∧
         (0 ≤ (IntKind.wrap .i64 (8 * n13))) ∧
         (0 ≤ (IntKind.wrap .i64 (c + n13))) ∧
         ((IntKind.wrap .i64 (c + n13)) < ((k20 : Nat) : Int)) ∧
         X.onSome (q19) fun p24 =>
         ∀ w25 : World, (X.Hid [] w14 w25) →
         (((p24.add ((IntKind.i64.wrap (c + n13)).toNat * 1)).spot) = none) ∧
         (World.there w25 ((p24.add ((IntKind.i64.wrap (c + n13)).toNat * 1)).block) ((p24.add ((IntKind.i64.wrap (c + n13)).toNat * 1)).off) 1) ∧
         (x11 (IntKind.wrap .i64 (n13 + 1)) (w25.setCells ((p24.add ((IntKind.i64.wrap (c + n13)).toNat * 1)).block) ((p24.add ((IntKind.i64.wrap (c + n13)).toNat * 1)).off) [(.int .u8 (IntKind.wrap .u8 ((((BitVec.ofInt 8 n23 ^^^ BitVec.ofInt 8 (IntKind.u8.wrap (d.fdiv (2 ^ min (IntKind.i64.wrap (8 * n13)).toNat 32)))).toNat) : Nat) : Int)))]) []) ∧
         Nat.le ((x12 (IntKind.wrap .i64 (n13 + 1)) (w25.setCells ((p24.add ((IntKind.i64.wrap (c + n13)).toNat * 1)).block) ((p24.add ((IntKind.i64.wrap (c + n13)).toNat * 1)).off) [(.int .u8 (IntKind.wrap .u8 ((((BitVec.ofInt 8 n23 ^^^ BitVec.ofInt 8 (IntKind.u8.wrap (d.fdiv (2 ^ min (IntKind.i64.wrap (8 * n13)).toNat 32)))).toNat) : Nat) : Int)))])) + 1) (x12 n13 w14)
        else
         X.onSome (q3) fun p16 =>
         ((none : Option Nat) = none) ∧
         (World.there w14 (p16.block) ((p16.off) + 5) 1) ∧
         R (.returned (.int .i64 0)) (w14.setCells (p16.block) ((p16.off) + 5) [(.bool true)])
      else
       R (.returned (.int .i64 2)) w2) :
    Calls Try.prog 14 #[.pointer (some a), .int .i64 b, .int .i64 c, .int .u32 d] w R :=
  X.calls_of { isLoc := [], sym := [58], loops := [(11, .inv [(43, .int .i64)] [] true)], joins := [] } Try.func14 (by kernel_rfl) h
abbrev fn_bag_Bag_Look : Nat := 15
theorem x_bag_Bag_Look (a : Addr) (b : Int) (w : World) (R : Ending → World → Prop) (h :
  ∀ w1 : World, ∀ L2 : List Nat, (X.Hid [] w w1) →
  (X.NewL (w).heap.size [] w w1 L2) →
  X.CallX Try.prog 30 #[(.pointer (some a)), (.int .i64 b)] w1 fun e3 w4 =>
   ∃ q5 : Option Addr, ∃ n6 : Int, (e3 = .returned (.tuple #[(.pointer (q5)), (.int .i64 n6)])) ∧
   (X.Kept L2 w1 w4) ∧
   if (n6 != 0) = true then
    ∀ w27 : World, (X.Hid (L2) w4 w27) →
    R (.returned (.tuple #[(.agg #[(.int .u8 0), (.int .u16 0), (.int .u8 0), (.int .u16 0), (.slice none 0 0), (.bool false)]), (.int .i64 n6)])) w27
   else
    X.onSome (q5) fun p7 =>
    ∃ n8 : Int, ∃ n9 : Int, ∃ n10 : Int, ∃ n11 : Int, ∃ q12 : Option Addr, ∃ k13 : Nat, ∃ k14 : Nat, ∃ b15 : Bool, (X.Cells w4 p7 [(.int .u8 n8), (.int .u16 n9), (.int .u8 n10), (.int .u16 n11), (.slice (q12) k13 k14), (.bool b15)]) ∧
    (¬ ((p7.block) ∈ L2)) ∧
    X.CallX Try.prog 27 #[(.agg #[(.int .u8 n8), (.int .u16 n9), (.int .u8 n10), (.int .u16 n11), (.slice (q12) k13 k14), (.bool b15)])] w4 fun e16 w17 =>
     ∃ n18 : Int, ∃ n19 : Int, ∃ n20 : Int, ∃ n21 : Int, ∃ q22 : Option Addr, ∃ k23 : Nat, ∃ k24 : Nat, ∃ b25 : Bool, (e16 = .returned (.agg #[(.int .u8 n18), (.int .u16 n19), (.int .u8 n20), (.int .u16 n21), (.slice (q22) k23 k24), (.bool b25)])) ∧
     (X.Kept L2 w4 w17) ∧
     ∀ w26 : World, (X.Hid (L2) w17 w26) →
     R (.returned (.tuple #[(.agg #[(.int .u8 n18), (.int .u16 n19), (.int .u8 n20), (.int .u16 n21), (.slice (q22) k23 k24), (.bool b25)]), (.int .i64 n6)])) w26) :
    Calls Try.prog 15 #[.pointer (some a), .int .i64 b] w R :=
  X.calls_of { isLoc := [4], sym := [], loops := [], joins := [] } Try.func15 (by kernel_rfl) h
abbrev fn_gemotlaw08_num : Nat := 16
theorem x_gemotlaw08_num (a : Int) (w : World) (R : Ending → World → Prop) (h :
  R (.returned (.int .i64 a)) w) :
    Calls Try.prog 16 #[.int .i64 a] w R :=
  X.calls_of { isLoc := [], sym := [], loops := [], joins := [] } Try.func16 (by kernel_rfl) h
abbrev fn_gemotlaw08_differs : Nat := 17
theorem x_gemotlaw08_differs (a : Option Addr) (al ac : Nat) (b : Option Addr) (bl bc : Nat) (w : World) (R : Ending → World → Prop) (h :
  if (((al : Nat) : Int) != ((bl : Nat) : Int)) = true then
   R (.returned (.int .i64 (-1))) w
  else
   ∃ x1 : Int → Int → Int → World → List Nat → Prop, ∃ x2 : Int → Int → Int → World → Nat, (x1 (-1) (-1) 0 w []) ∧
   ∀ n3 : Int, ∀ n4 : Int, ∀ n5 : Int, ∀ w6 : World, ∀ L7 : List Nat, (X.LF (w).heap.size w6 L7) →
   (x1 n3 n4 n5 w6 L7) →
   if (decide (n5 < ((al : Nat) : Int))) = true then
    (0 ≤ n5) ∧
    (n5 < ((al : Nat) : Int)) ∧
    X.onSome (a) fun p8 =>
    ∃ n9 : Int, (World.cell? w6 (p8.add ((n5).toNat * 1)) = some (.int .u8 n9)) ∧
    (0 ≤ n5) ∧
    (n5 < ((bl : Nat) : Int)) ∧
    X.onSome (b) fun p10 =>
    ∃ n11 : Int, (World.cell? w6 (p10.add ((n5).toNat * 1)) = some (.int .u8 n11)) ∧
    if (n9 != n11) = true then
     if (decide (n3 < 0)) = true then
      ∀ w14 : World, (X.Hid [] w6 w14) →
      (x1 n5 n5 (IntKind.wrap .i64 (n5 + 1)) w14 []) ∧
      Nat.le ((x2 n5 n5 (IntKind.wrap .i64 (n5 + 1)) w14) + 1) (x2 n3 n4 n5 w6)
     else
      ∀ w13 : World, (X.Hid [] w6 w13) →
      (x1 n3 n5 (IntKind.wrap .i64 (n5 + 1)) w13 []) ∧
      Nat.le ((x2 n3 n5 (IntKind.wrap .i64 (n5 + 1)) w13) + 1) (x2 n3 n4 n5 w6)
    else
     ∀ w12 : World, (X.Hid [] w6 w12) →
     (x1 n3 n4 (IntKind.wrap .i64 (n5 + 1)) w12 []) ∧
     Nat.le ((x2 n3 n4 (IntKind.wrap .i64 (n5 + 1)) w12) + 1) (x2 n3 n4 n5 w6)
   else
    if (decide (n3 < 0)) = true then
     R (.returned (.int .i64 0)) w6
    else
     R (.returned (.int .i64 (IntKind.wrap .i64 ((IntKind.wrap .i64 (n4 - n3)) + 1)))) w6) :
    Calls Try.prog 17 #[.slice a al ac, .slice b bl bc] w R :=
  X.calls_of { isLoc := [], sym := [], loops := [(6, .inv [(5, .int .i64), (6, .int .i64), (7, .int .i64)] [] true)], joins := [] } Try.func17 (by kernel_rfl) h
abbrev fn_gemotlaw02_RefProc : Nat := 18
theorem x_gemotlaw02_RefProc (a_0 a_1 : Int) (w : World) (R : Ending → World → Prop) (h :
  ∀ w1 : World, (X.Hid [] w w1) →
  R (.returned (.agg #[(.int .u8 a_0), (.int .u16 a_1)])) w1) :
    Calls Try.prog 18 #[.agg #[.int .u8 a_0, .int .u16 a_1]] w R :=
  X.calls_of { isLoc := [1, 2], sym := [], loops := [], joins := [] } Try.func18 (by kernel_rfl) h
abbrev fn_gemotref08_Same : Nat := 19
theorem x_gemotref08_Same (a_0 a_1 a_2 a_3 : Int) (a_4 : Option Addr) (a_4l a_4c : Nat) (a_5 : Bool) (b_0 b_1 b_2 b_3 : Int) (b_4 : Option Addr) (b_4l b_4c : Nat) (b_5 : Bool) (w : World) (R : Ending → World → Prop) (h :
  if ((((a_0 == b_0) && (a_1 == b_1)) && ((a_2 == b_2) && (a_3 == b_3))) == true) = true then
   ∀ w2 : World, ∀ L3 : List Nat, (X.Hid [] w w2) →
   (X.NewL (w).heap.size [] w w2 L3) →
   ∃ s4 : ByteArray, ∃ w5 : World, (Sem.run Try.prog (Go.convert 32 9 (.slice (a_4) a_4l a_4c)) w2 = .ok (.string s4) w5) ∧
   (X.Kept L3 w2 w5) ∧
   ∃ s6 : ByteArray, ∃ w7 : World, (Sem.run Try.prog (Go.convert 32 9 (.slice (b_4) b_4l b_4c)) w5 = .ok (.string s6) w7) ∧
   (X.Kept L3 w5 w7) ∧
   R (.returned (.bool ((true && ((s4.toList) == (s6.toList))) && (a_5 == b_5)))) w7
  else
   ∀ w1 : World, (X.Hid [] w w1) →
   R (.returned (.bool (false && (a_5 == b_5)))) w1) :
    Calls Try.prog 19 #[.agg #[.int .u8 a_0, .int .u16 a_1, .int .u8 a_2, .int .u16 a_3, .slice a_4 a_4l a_4c, .bool a_5], .agg #[.int .u8 b_0, .int .u16 b_1, .int .u8 b_2, .int .u16 b_3, .slice b_4 b_4l b_4c, .bool b_5]] w R :=
  X.calls_of { isLoc := [2, 3], sym := [], loops := [], joins := [] } Try.func19 (by kernel_rfl) h
abbrev fn_gemotlaw08_Ref : Nat := 20
theorem x_gemotlaw08_Ref (a_0 a_1 a_2 a_3 : Int) (a_4 : Option Addr) (a_4l a_4c : Nat) (a_5 : Bool) (w : World) (R : Ending → World → Prop) (h :
  ∃ x1 : X.Facts, (X.FactsW x1 w []) ∧
  (∀ w2 : World, ∀ L3 : List Nat, (X.Hid [] w w2) →
   (X.NewL (w).heap.size [] w w2 L3) →
   X.CallX Try.prog 18 #[(.agg #[(.int .u8 a_0), (.int .u16 a_1)])] w2 fun e4 w5 =>
    ∃ n6 : Int, ∃ n7 : Int, (e4 = .returned (.agg #[(.int .u8 n6), (.int .u16 n7)])) ∧
    (X.Kept L3 w2 w5) ∧
    (X.FactsW x1 w5 (L3)) ∧
    (X.CallX Try.prog 18 #[(.agg #[(.int .u8 a_2), (.int .u16 a_3)])] w5 fun e8 w9 =>
      ∃ n10 : Int, ∃ n11 : Int, (e8 = .returned (.agg #[(.int .u8 n10), (.int .u16 n11)])) ∧
      (X.Kept L3 w5 w9) ∧
      (X.FactsW x1 w9 (L3)) ∧
      (X.FactsW x1 (w9.alloc (.cells #[] 5)) (L3)) ∧
      ∃ q12 : Option Addr, ∃ k13 : Nat, ∃ k14 : Nat, ∃ w15 : World, (Sem.run Try.prog (Go.Builtin.append_ #[32, 32] 32 #[(.slice (some ⟨(w9).heap.size, 0, none⟩) 0 0), (.slice (a_4) a_4l a_4c)]) (w9.alloc (.cells #[] 5)) = .ok (.slice (q12) k13 k14) w15) ∧
      (X.Kept L3 (w9.alloc (.cells #[] 5)) w15) ∧
      (X.FactsW x1 w15 (L3)) ∧
      ∀ w16 : World, (X.Hid (L3) w15 w16) →
      R (.returned (.agg #[(.int .u8 n6), (.int .u16 n7), (.int .u8 n10), (.int .u16 n11), (.slice (q12) k13 k14), (.bool a_5)])) w16) ∧
    (X.FactsW x1 (w5.alloc (.cells #[] 5)) (L3)) ∧
    X.CallX Try.prog 18 #[(.agg #[(.int .u8 a_2), (.int .u16 a_3)])] (w5.alloc (.cells #[] 5)) fun e17 w18 =>
     ∃ n19 : Int, ∃ n20 : Int, (e17 = .returned (.agg #[(.int .u8 n19), (.int .u16 n20)])) ∧
     (X.Kept L3 (w5.alloc (.cells #[] 5)) w18) ∧
     (X.FactsW x1 w18 (L3)) ∧
     ∃ q21 : Option Addr, ∃ k22 : Nat, ∃ k23 : Nat, ∃ w24 : World, (Sem.run Try.prog (Go.Builtin.append_ #[32, 32] 32 #[(.slice (some ⟨(w5).heap.size, 0, none⟩) 0 0), (.slice (a_4) a_4l a_4c)]) w18 = .ok (.slice (q21) k22 k23) w24) ∧
     (X.Kept L3 w18 w24) ∧
     (X.FactsW x1 w24 (L3)) ∧
     ∀ w25 : World, (X.Hid (L3) w24 w25) →
     R (.returned (.agg #[(.int .u8 n6), (.int .u16 n7), (.int .u8 n19), (.int .u16 n20), (.slice (q21) k22 k23), (.bool a_5)])) w25) ∧
  ∀ w26 : World, ∀ L27 : List Nat, (X.Hid [] w w26) →
  (X.NewL (w).heap.size [] w w26 L27) →
  (X.FactsW x1 (w26.alloc (.cells #[] 5)) (L27)) ∧
  X.CallX Try.prog 18 #[(.agg #[(.int .u8 a_0), (.int .u16 a_1)])] (w26.alloc (.cells #[] 5)) fun e28 w29 =>
   ∃ n30 : Int, ∃ n31 : Int, (e28 = .returned (.agg #[(.int .u8 n30), (.int .u16 n31)])) ∧
   (X.Kept L27 (w26.alloc (.cells #[] 5)) w29) ∧
   (X.FactsW x1 w29 (L27)) ∧
   X.CallX Try.prog 18 #[(.agg #[(.int .u8 a_2), (.int .u16 a_3)])] w29 fun e32 w33 =>
    ∃ n34 : Int, ∃ n35 : Int, (e32 = .returned (.agg #[(.int .u8 n34), (.int .u16 n35)])) ∧
    (X.Kept L27 w29 w33) ∧
    (X.FactsW x1 w33 (L27)) ∧
    ∃ q36 : Option Addr, ∃ k37 : Nat, ∃ k38 : Nat, ∃ w39 : World, (Sem.run Try.prog (Go.Builtin.append_ #[32, 32] 32 #[(.slice (some ⟨(w26).heap.size, 0, none⟩) 0 0), (.slice (a_4) a_4l a_4c)]) w33 = .ok (.slice (q36) k37 k38) w39) ∧
    (X.Kept L27 w33 w39) ∧
    (X.FactsW x1 w39 (L27)) ∧
    ∀ w40 : World, (X.Hid (L27) w39 w40) →
    R (.returned (.agg #[(.int .u8 n30), (.int .u16 n31), (.int .u8 n34), (.int .u16 n35), (.slice (q36) k37 k38), (.bool a_5)])) w40) :
    Calls Try.prog 20 #[.agg #[.int .u8 a_0, .int .u16 a_1, .int .u8 a_2, .int .u16 a_3, .slice a_4 a_4l a_4c, .bool a_5]] w R :=
  X.calls_of { isLoc := [1, 2], sym := [], loops := [], joins := [], stored := [(1, [2])] } Try.func20 (by kernel_rfl) h
abbrev fn_gemotref08_New : Nat := 21
theorem x_gemotref08_New (a : Int) (w : World) (R : Ending → World → Prop) (h :
  R (.returned (.pointer (some ⟨(w).heap.size, 0, none⟩))) (w.alloc (.cells #[(.slice none 0 0), (.int .i64 (if 2000 < (if 0 > a then 0 else a) then 2000 else (if 0 > a then 0 else a)))] 58))) :
    Calls Try.prog 21 #[.int .i64 a] w R :=
  X.calls_of { isLoc := [], sym := [], loops := [], joins := [] } Try.func21 (by kernel_rfl) h
abbrev fn_bag_Bag_Len : Nat := 23
theorem x_bag_Bag_Len (a : Addr) (w : World) (R : Ending → World → Prop) (h :
  X.CallX Try.prog 25 #[(.pointer (some a))] w fun e1 w2 =>
   ∃ b3 : Bool, (e1 = .returned (.bool b3)) ∧
   ((w).heap.size ≤ (w2).heap.size) ∧
   if b3 = true then
    R (.returned (.int .i64 0)) w2
   else
    X.CallX Try.prog 26 #[(.pointer (some (a.add 0)))] w2 fun e4 w5 =>
     ∃ n6 : Int, (e4 = .returned (.int .i64 n6)) ∧
     ((w2).heap.size ≤ (w5).heap.size) ∧
     R (.returned (.int .i64 n6)) w5) :
    Calls Try.prog 23 #[.pointer (some a)] w R :=
  X.calls_of { isLoc := [], sym := [], loops := [], joins := [] } Try.func23 (by kernel_rfl) h
abbrev fn_bag_Bag_All : Nat := 24
theorem x_bag_Bag_All (a : Addr) (w : World) (R : Ending → World → Prop) (h :
  X.CallX Try.prog 25 #[(.pointer (some a))] w fun e1 w2 =>
   ∃ b3 : Bool, (e1 = .returned (.bool b3)) ∧
   ((w).heap.size ≤ (w2).heap.size) ∧
   if b3 = true then
    R (.returned (.slice none 0 0)) w2
   else
    ∃ q4 : Option Addr, ∃ k5 : Nat, ∃ k6 : Nat, (World.cell? w2 ((a.add 0).add 0) = some (.slice (q4) k5 k6)) ∧
    ((((a.add 0).add 0).spot) = none) ∧
    (World.there w2 (((a.add 0).add 0).block) (((a.add 0).add 0).off) 1) ∧
    R (.returned (.slice (q4) k5 k6)) (w2.setCells (((a.add 0).add 0).block) (((a.add 0).add 0).off) [(.slice none 0 0)])) :
    Calls Try.prog 24 #[.pointer (some a)] w R :=
  X.calls_of { isLoc := [], sym := [], loops := [], joins := [] } Try.func24 (by kernel_rfl) h
abbrev fn_bag_Bag_none : Nat := 25
theorem x_bag_Bag_none (a : Addr) (w : World) (R : Ending → World → Prop) (h :
  ∃ b1 : Bool, (World.cell? w (a.add 2) = some (.bool b1)) ∧
  R (.returned (.bool (false || (!b1)))) w) :
    Calls Try.prog 25 #[.pointer (some a)] w R :=
  X.calls_of { isLoc := [], sym := [], loops := [], joins := [] } Try.func25 (by kernel_rfl) h
abbrev fn_bag_row_len : Nat := 26
theorem x_bag_row_len (a : Addr) (w : World) (R : Ending → World → Prop) (h :
  ∃ q1 : Option Addr, ∃ k2 : Nat, ∃ k3 : Nat, (World.cell? w (a.add 0) = some (.slice (q1) k2 k3)) ∧
  R (.returned (.int .i64 ((k2 : Nat) : Int))) w) :
    Calls Try.prog 26 #[.pointer (some a)] w R :=
  X.calls_of { isLoc := [], sym := [], loops := [], joins := [] } Try.func26 (by kernel_rfl) h
abbrev fn_bag_apart : Nat := 27
theorem x_bag_apart (a_0 a_1 a_2 a_3 : Int) (a_4 : Option Addr) (a_4l a_4c : Nat) (a_5 : Bool) (w : World) (R : Ending → World → Prop) (h :
  ∀ w1 : World, ∀ L2 : List Nat, (X.Hid [] w w1) →
  (X.NewL (w).heap.size [] w w1 L2) →
  X.CallX Try.prog 37 #[(.slice (a_4) a_4l a_4c)] w1 fun e3 w4 =>
   ∃ q5 : Option Addr, ∃ k6 : Nat, ∃ k7 : Nat, (e3 = .returned (.slice (q5) k6 k7)) ∧
   (X.Kept L2 w1 w4) ∧
   (0 ≤ ((k6 : Nat) : Int)) ∧
   (((k6 : Nat) : Int) ≤ ((k7 : Nat) : Int)) ∧
   (0 ≤ ((k6 : Nat) : Int)) ∧
   (((k6 : Nat) : Int) ≤ ((k6 : Nat) : Int)) ∧
   ∀ w8 : World, (X.Hid (L2) w4 w8) →
   R (.returned (.agg #[(.int .u8 a_0), (.int .u16 a_1), (.int .u8 a_2), (.int .u16 a_3), (.slice (X.cutA (q5) (((k6 : Nat) : Int)).toNat 0 1) (((k6 : Nat) : Int)).toNat (((k6 : Nat) : Int)).toNat), (.bool a_5)])) w8) :
    Calls Try.prog 27 #[.agg #[.int .u8 a_0, .int .u16 a_1, .int .u8 a_2, .int .u16 a_3, .slice a_4 a_4l a_4c, .bool a_5]] w R :=
  X.calls_of { isLoc := [1, 2], sym := [], loops := [], joins := [] } Try.func27 (by kernel_rfl) h
abbrev fn_gemotlaw02_Proc : Nat := 28
theorem x_gemotlaw02_Proc (a_0 a_1 : Int) (w : World) (R : Ending → World → Prop) (h :
  ∀ w1 : World, (X.Hid [] w w1) →
  R (.returned (.agg #[(.int .u8 a_0), (.int .u16 a_1)])) w1) :
    Calls Try.prog 28 #[.agg #[.int .u8 a_0, .int .u16 a_1]] w R :=
  X.calls_of { isLoc := [1, 2], sym := [], loops := [], joins := [] } Try.func28 (by kernel_rfl) h
abbrev fn_Delete : Nat := 29
theorem x_Delete (a : Option Addr) (al ac : Nat) (b c : Int) (w : World) (R : Ending → World → Prop) (h :
  (0 ≤ ((al : Nat) : Int)) ∧
  (((al : Nat) : Int) ≤ ((ac : Nat) : Int)) ∧
  (0 ≤ c) ∧
  (c ≤ ((al : Nat) : Int)) ∧
  (0 ≤ b) ∧
  (b ≤ c) ∧
  if (b == c) = true then
   R (.returned (.slice (a) al ac)) w
  else
   ∃ x1 : X.Facts, (X.FactsW x1 w []) ∧
   (0 ≤ b) ∧
   (b ≤ ((ac : Nat) : Int)) ∧
   (0 ≤ c) ∧
   (c ≤ ((al : Nat) : Int)) ∧
   ∀ w2 : World, (X.Hid [] w w2) →
   ∃ q3 : Option Addr, ∃ k4 : Nat, ∃ k5 : Nat, ∃ w6 : World, (Sem.run Try.prog (Go.Builtin.append_ #[60, 60] 60 #[(.slice (X.cutA (a) ac 0 6) (b).toNat ac), (.slice (X.cutA (a) ac (c).toNat 6) (al - (c).toNat) (ac - (c).toNat))]) w2 = .ok (.slice (q3) k4 k5) w6) ∧
   ((w2).heap.size ≤ (w6).heap.size) ∧
   (0 ≤ ((al : Nat) : Int)) ∧
   (((al : Nat) : Int) ≤ ((k5 : Nat) : Int)) ∧
   (0 ≤ ((k4 : Nat) : Int)) ∧
   (((k4 : Nat) : Int) ≤ ((al : Nat) : Int)) ∧
   ∃ w7 : World, (Sem.run Try.prog (Go.Builtin.clear_ #[60] 0 #[(.slice (X.cutA (q3) k5 (((k4 : Nat) : Int)).toNat 6) ((((al : Nat) : Int)).toNat - (((k4 : Nat) : Int)).toNat) (k5 - (((k4 : Nat) : Int)).toNat))]) w6 = .ok (.tuple #[]) w7) ∧
   ((w6).heap.size ≤ (w7).heap.size) ∧
   R (.returned (.slice (q3) k4 k5)) w7) :
    Calls Try.prog 29 #[.slice a al ac, .int .i64 b, .int .i64 c] w R :=
  X.calls_of { isLoc := [], sym := [], loops := [], joins := [] } Try.func29 (by kernel_rfl) h
abbrev fn_bag_Bag_find : Nat := 30
theorem x_bag_Bag_find (a : Addr) (b : Int) (w : World) (R : Ending → World → Prop) (h :
  X.CallX Try.prog 25 #[(.pointer (some a))] w fun e1 w2 =>
   ∃ b3 : Bool, (e1 = .returned (.bool b3)) ∧
   ((w).heap.size ≤ (w2).heap.size) ∧
   if b3 = true then
    R (.returned (.tuple #[(.pointer none), (.int .i64 1)])) w2
   else
    X.CallX Try.prog 38 #[(.pointer (some (a.add 0))), (.int .i64 b)] w2 fun e4 w5 =>
     ∃ q6 : Option Addr, (e4 = .returned (.pointer (q6))) ∧
     ((w2).heap.size ≤ (w5).heap.size) ∧
     if (!(q6.isNone)) = true then
      R (.returned (.tuple #[(.pointer (q6)), (.int .i64 0)])) w5
     else
      R (.returned (.tuple #[(.pointer none), (.int .i64 3)])) w5) :
    Calls Try.prog 30 #[.pointer (some a), .int .i64 b] w R :=
  X.calls_of { isLoc := [], sym := [], loops := [], joins := [] } Try.func30 (by kernel_rfl) h
abbrev fn_gemotref08_Bag_Put : Nat := 31
theorem x_gemotref08_Bag_Put (a : Addr) (b_0 b_1 b_2 b_3 : Int) (b_4 : Option Addr) (b_4l b_4c : Nat) (b_5 : Bool) (w : World) (R : Ending → World → Prop) (h :
  ∃ q1 : Option Addr, ∃ k2 : Nat, ∃ k3 : Nat, (World.cell? w (a.add 0) = some (.slice (q1) k2 k3)) ∧
  ∃ n4 : Int, (World.cell? w (a.add 1) = some (.int .i64 n4)) ∧
  if (decide (((k2 : Nat) : Int) ≥ n4)) = true then
   ∀ w19 : World, (X.Hid [] w w19) →
   R (.returned (.int .i64 11)) w19
  else
   ∃ x5 : X.Facts, (X.FactsW x5 w []) ∧
   ∃ q6 : Option Addr, ∃ k7 : Nat, ∃ k8 : Nat, (((a.add 0), [(.slice (q6) k7 k8)]) ∈ x5) ∧
   ∀ w9 : World, ∀ L10 : List Nat, (X.Hid [] w w9) →
   (X.NewL (w).heap.size [] w w9 L10) →
   (X.FactsW x5 (w9.alloc (.cells #[] 5)) (L10)) ∧
   ∃ q11 : Option Addr, ∃ k12 : Nat, ∃ k13 : Nat, ∃ w14 : World, (Sem.run Try.prog (Go.Builtin.append_ #[32, 32] 32 #[(.slice (some ⟨(w9).heap.size, 0, none⟩) 0 0), (.slice (b_4) b_4l b_4c)]) (w9.alloc (.cells #[] 5)) = .ok (.slice (q11) k12 k13) w14) ∧
   (X.Kept L10 (w9.alloc (.cells #[] 5)) w14) ∧
   (X.FactsW x5 w14 (L10)) ∧
   (X.FactsW x5 (w14.alloc (.cells #[(.int .u8 b_0), (.int .u16 b_1), (.int .u8 b_2), (.int .u16 b_3), (.slice (q11) k12 k13), (.bool b_5)] 34)) (L10)) ∧
   ∃ q15 : Option Addr, ∃ k16 : Nat, ∃ k17 : Nat, ∃ w18 : World, (Sem.run Try.prog (Go.Builtin.append_ #[27, 27] 27 #[(.slice (q6) k7 k8), (.slice (some ⟨(w14).heap.size, 0, none⟩) 1 1)]) (w14.alloc (.cells #[(.int .u8 b_0), (.int .u16 b_1), (.int .u8 b_2), (.int .u16 b_3), (.slice (q11) k12 k13), (.bool b_5)] 34)) = .ok (.slice (q15) k16 k17) w18) ∧
   (X.Kept L10 (w14.alloc (.cells #[(.int .u8 b_0), (.int .u16 b_1), (.int .u8 b_2), (.int .u16 b_3), (.slice (q11) k12 k13), (.bool b_5)] 34)) w18) ∧
   (X.FactsW x5 w18 (L10)) ∧
   (((a.add 0).spot) = none) ∧
   (World.there w18 ((a.add 0).block) ((a.add 0).off) 1) ∧
   (¬ (((a.add 0).block) ∈ L10)) ∧
   R (.returned (.int .i64 0)) (w18.setCells ((a.add 0).block) ((a.add 0).off) [(.slice (q15) k16 k17)])) :
    Calls Try.prog 31 #[.pointer (some a), .agg #[.int .u8 b_0, .int .u16 b_1, .int .u8 b_2, .int .u16 b_3, .slice b_4 b_4l b_4c, .bool b_5]] w R :=
  X.calls_of { isLoc := [3], sym := [], loops := [], joins := [] } Try.func31 (by kernel_rfl) h
abbrev fn_gemotref08_Bag_Look : Nat := 32
theorem x_gemotref08_Bag_Look (a : Addr) (b : Int) (w : World) (R : Ending → World → Prop) (h :
  ∀ w1 : World, ∀ L2 : List Nat, (X.Hid [] w w1) →
  (X.NewL (w).heap.size [] w w1 L2) →
  X.CallX Try.prog 39 #[(.pointer (some a)), (.int .i64 b)] w1 fun e3 w4 =>
   ∃ b5 : Bool, (e3 = .returned (.bool b5)) ∧
   (X.Kept L2 w1 w4) ∧
   if (!b5) = true then
    ∀ w19 : World, (X.Hid (L2) w4 w19) →
    R (.returned (.tuple #[(.agg #[(.int .u8 0), (.int .u16 0), (.int .u8 0), (.int .u16 0), (.slice none 0 0), (.bool false)]), (.int .i64 3)])) w19
   else
    ∃ q6 : Option Addr, ∃ k7 : Nat, ∃ k8 : Nat, (World.cell? w4 (a.add 0) = some (.slice (q6) k7 k8)) ∧
    (¬ (((a.add 0).block) ∈ L2)) ∧
    (0 ≤ b) ∧
    (b < ((k7 : Nat) : Int)) ∧
    X.onSome (q6) fun p9 =>
    ∃ n10 : Int, ∃ n11 : Int, ∃ n12 : Int, ∃ n13 : Int, ∃ q14 : Option Addr, ∃ k15 : Nat, ∃ k16 : Nat, ∃ b17 : Bool, (X.Cells w4 (p9.add ((b).toNat * 6)) [(.int .u8 n10), (.int .u16 n11), (.int .u8 n12), (.int .u16 n13), (.slice (q14) k15 k16), (.bool b17)]) ∧
    (¬ (((p9.add (b.toNat * 6)).block) ∈ L2)) ∧
    ∀ w18 : World, (X.Hid (L2) w4 w18) →
    R (.returned (.tuple #[(.agg #[(.int .u8 n10), (.int .u16 n11), (.int .u8 n12), (.int .u16 n13), (.slice (q14) k15 k16), (.bool b17)]), (.int .i64 0)])) w18) :
    Calls Try.prog 32 #[.pointer (some a), .int .i64 b] w R :=
  X.calls_of { isLoc := [4], sym := [], loops := [], joins := [] } Try.func32 (by kernel_rfl) h
abbrev fn_gemotref08_Bag_Take : Nat := 33
theorem x_gemotref08_Bag_Take (a : Addr) (b : Int) (w : World) (R : Ending → World → Prop) (h :
  ∀ w1 : World, ∀ L2 : List Nat, (X.Hid [] w w1) →
  (X.NewL (w).heap.size [] w w1 L2) →
  X.CallX Try.prog 39 #[(.pointer (some a)), (.int .i64 b)] w1 fun e3 w4 =>
   ∃ b5 : Bool, (e3 = .returned (.bool b5)) ∧
   (X.Kept L2 w1 w4) ∧
   if (!b5) = true then
    ∀ w36 : World, (X.Hid (L2) w4 w36) →
    R (.returned (.tuple #[(.agg #[(.int .u8 0), (.int .u16 0), (.int .u8 0), (.int .u16 0), (.slice none 0 0), (.bool false)]), (.int .i64 3)])) w36
   else
    ∃ q6 : Option Addr, ∃ k7 : Nat, ∃ k8 : Nat, (World.cell? w4 (a.add 0) = some (.slice (q6) k7 k8)) ∧
    (¬ (((a.add 0).block) ∈ L2)) ∧
    (0 ≤ b) ∧
    (b < ((k7 : Nat) : Int)) ∧
    X.onSome (q6) fun p9 =>
    ∃ n10 : Int, ∃ n11 : Int, ∃ n12 : Int, ∃ n13 : Int, ∃ q14 : Option Addr, ∃ k15 : Nat, ∃ k16 : Nat, ∃ b17 : Bool, (X.Cells w4 (p9.add ((b).toNat * 6)) [(.int .u8 n10), (.int .u16 n11), (.int .u8 n12), (.int .u16 n13), (.slice (q14) k15 k16), (.bool b17)]) ∧
    (¬ (((p9.add (b.toNat * 6)).block) ∈ L2)) ∧
    ∃ x18 : X.Facts, (X.FactsW x18 w4 (L2)) ∧
    ∃ q19 : Option Addr, ∃ k20 : Nat, ∃ k21 : Nat, (((a.add 0), [(.slice (q19) k20 k21)]) ∈ x18) ∧
    (0 ≤ b) ∧
    (b ≤ ((k21 : Nat) : Int)) ∧
    ∃ q22 : Option Addr, ∃ k23 : Nat, ∃ k24 : Nat, (((a.add 0), [(.slice (q22) k23 k24)]) ∈ x18) ∧
    (0 ≤ (IntKind.wrap .i64 (b + 1))) ∧
    ((IntKind.wrap .i64 (b + 1)) ≤ ((k23 : Nat) : Int)) ∧
    ∀ w25 : World, ∀ L26 : List Nat, (X.Hid (L2) w4 w25) →
    (X.NewL (w).heap.size (L2) w4 w25 L26) →
    (X.FactsW x18 (w25.alloc (.cells #[] 34)) (L26)) ∧
    ∃ q27 : Option Addr, ∃ k28 : Nat, ∃ k29 : Nat, ∃ w30 : World, (Sem.run Try.prog (Go.Builtin.append_ #[27, 27] 27 #[(.slice (some ⟨(w25).heap.size, 0, none⟩) 0 0), (.slice (X.cutA (q19) k21 0 6) (b).toNat k21)]) (w25.alloc (.cells #[] 34)) = .ok (.slice (q27) k28 k29) w30) ∧
    (X.Kept L26 (w25.alloc (.cells #[] 34)) w30) ∧
    (X.FactsW x18 w30 (L26)) ∧
    ∃ q31 : Option Addr, ∃ k32 : Nat, ∃ k33 : Nat, ∃ w34 : World, (Sem.run Try.prog (Go.Builtin.append_ #[27, 27] 27 #[(.slice (q27) k28 k29), (.slice (X.cutA (q22) k24 ((IntKind.wrap .i64 (b + 1))).toNat 6) (k23 - ((IntKind.wrap .i64 (b + 1))).toNat) (k24 - ((IntKind.wrap .i64 (b + 1))).toNat))]) w30 = .ok (.slice (q31) k32 k33) w34) ∧
    (X.Kept L26 w30 w34) ∧
    (X.FactsW x18 w34 (L26)) ∧
    (((a.add 0).spot) = none) ∧
    (World.there w34 ((a.add 0).block) ((a.add 0).off) 1) ∧
    (¬ (((a.add 0).block) ∈ L26)) ∧
    ∀ w35 : World, (X.Hid (L26) (w34.setCells ((a.add 0).block) ((a.add 0).off) [(.slice (q31) k32 k33)]) w35) →
    R (.returned (.tuple #[(.agg #[(.int .u8 n10), (.int .u16 n11), (.int .u8 n12), (.int .u16 n13), (.slice (q14) k15 k16), (.bool b17)]), (.int .i64 0)])) w35) :
    Calls Try.prog 33 #[.pointer (some a), .int .i64 b] w R :=
  X.calls_of { isLoc := [4, 6], sym := [], loops := [], joins := [] } Try.func33 (by kernel_rfl) h
abbrev fn_gemotref08_Bag_Twice : Nat := 34
theorem x_gemotref08_Bag_Twice (a : Addr) (b : Int) (w : World) (R : Ending → World → Prop) (h :
  X.CallX Try.prog 39 #[(.pointer (some a)), (.int .i64 b)] w fun e1 w2 =>
   ∃ b3 : Bool, (e1 = .returned (.bool b3)) ∧
   ((w).heap.size ≤ (w2).heap.size) ∧
   if (!b3) = true then
    R (.returned (.int .i64 3)) w2
   else
    ∃ q4 : Option Addr, ∃ k5 : Nat, ∃ k6 : Nat, (World.cell? w2 (a.add 0) = some (.slice (q4) k5 k6)) ∧
    (0 ≤ b) ∧
    (b < ((k5 : Nat) : Int)) ∧
    X.onSome (q4) fun p7 =>
    ∃ n8 : Int, ∃ n9 : Int, ∃ n10 : Int, ∃ n11 : Int, ∃ q12 : Option Addr, ∃ k13 : Nat, ∃ k14 : Nat, ∃ b15 : Bool, (X.Cells w2 (p7.add ((b).toNat * 6)) [(.int .u8 n8), (.int .u16 n9), (.int .u8 n10), (.int .u16 n11), (.slice (q12) k13 k14), (.bool b15)]) ∧
    X.CallX Try.prog 31 #[(.pointer (some a)), (.agg #[(.int .u8 n8), (.int .u16 n9), (.int .u8 n10), (.int .u16 n11), (.slice (q12) k13 k14), (.bool b15)])] w2 fun e16 w17 =>
     ∃ n18 : Int, (e16 = .returned (.int .i64 n18)) ∧
     ((w2).heap.size ≤ (w17).heap.size) ∧
     R (.returned (.int .i64 n18)) w17) :
    Calls Try.prog 34 #[.pointer (some a), .int .i64 b] w R :=
  X.calls_of { isLoc := [], sym := [], loops := [], joins := [] } Try.func34 (by kernel_rfl) h
abbrev fn_gemotref08_Bag_Spoil : Nat := 35
theorem x_gemotref08_Bag_Spoil (a : Addr) (b c d : Int) (w : World) (R : Ending → World → Prop) (h :
  X.CallX Try.prog 39 #[(.pointer (some a)), (.int .i64 b)] w fun e1 w2 =>
   ∃ b3 : Bool, (e1 = .returned (.bool b3)) ∧
   ((w).heap.size ≤ (w2).heap.size) ∧
   if (!b3) = true then
    R (.returned (.int .i64 3)) w2
   else
    ∃ q4 : Option Addr, ∃ k5 : Nat, ∃ k6 : Nat, (World.cell? w2 (a.add 0) = some (.slice (q4) k5 k6)) ∧
    (0 ≤ b) ∧
    (b < ((k5 : Nat) : Int)) ∧
    X.onSome (q4) fun p7 =>
    ∃ n8 : Int, ∃ n9 : Int, ∃ n10 : Int, ∃ n11 : Int, ∃ q12 : Option Addr, ∃ k13 : Nat, ∃ k14 : Nat, ∃ b15 : Bool, (X.Cells w2 (p7.add ((b).toNat * 6)) [(.int .u8 n8), (.int .u16 n9), (.int .u8 n10), (.int .u16 n11), (.slice (q12) k13 k14), (.bool b15)]) ∧
    if b15 = true then
     ∀ w40 : World, (X.Hid [] w2 w40) →
     R (.returned (.int .i64 4)) w40
    else
     if (d == 0) = true then
      ∀ w39 : World, (X.Hid [] w2 w39) →
      R (.returned (.int .i64 1)) w39
     else
      if (decide (c < 0) || decide (c > (IntKind.wrap .i64 (((k13 : Nat) : Int) - 4)))) = true then
       ∀ w38 : World, (X.Hid [] w2 w38) →
       R (.returned (.int .i64 2)) w38
      else
       ∀ w16 : World, ∀ L17 : List Nat, (X.Hid [] w2 w16) →
       (X.NewL (w).heap.size [] w2 w16 L17) →
       ∃ q18 : Option Addr, ∃ k19 : Nat, ∃ k20 : Nat, ∃ w21 : World, (Sem.run Try.prog (Go.Builtin.append_ #[32, 32] 32 #[(.slice (some ⟨(w16).heap.size, 0, none⟩) 0 0), (.slice (q12) k13 k14)]) (w16.alloc (.cells #[] 5)) = .ok (.slice (q18) k19 k20) w21) ∧
       (X.Kept L17 (w16.alloc (.cells #[] 5)) w21) ∧
       ∃ x22 : Int → World → List Nat → Prop, ∃ x23 : Int → World → Nat, (x22 0 w21 (L17)) ∧
       ∀ n24 : Int, ∀ w25 : World, ∀ L26 : List Nat, (X.LF (w).heap.size w25 L26) →
       (x22 n24 w25 L26) →
       if (decide (n24 < 4)) = true then
        (0 ≤ (IntKind.wrap .i64 (c + n24))) ∧
        ((IntKind.wrap .i64 (c + n24)) < ((k19 : Nat) : Int)) ∧
        X.onSome (q18) fun p35 =>
        ∃ n36 : Int, (World.cell? w25 (p35.add (((IntKind.wrap .i64 (c + n24))).toNat * 1)) = some (.int .u8 n36)) ∧
        (¬ (((p35.add ((IntKind.i64.wrap (c + n24)).toNat * 1)).block) ∈ L26)) ∧
        (0 ≤ (IntKind.wrap .u64 (IntKind.wrap .i64 (8 * n24)))) ∧
        (0 ≤ (IntKind.wrap .i64 (c + n24))) ∧
        ((IntKind.wrap .i64 (c + n24)) < ((k19 : Nat) : Int)) ∧
        X.onSome (q18) fun p37 =>
        (((p37.add ((IntKind.i64.wrap (c + n24)).toNat * 1)).spot) = none) ∧
        (World.there w25 ((p37.add ((IntKind.i64.wrap (c + n24)).toNat * 1)).block) ((p37.add ((IntKind.i64.wrap (c + n24)).toNat * 1)).off) 1) ∧
        (¬ (((p37.add ((IntKind.i64.wrap (c + n24)).toNat * 1)).block) ∈ L26)) ∧
        (([(.int .u8 n8), (.int .u16 n9), (.int .u8 n10), (.int .u16 n11), (.slice (q12) k13 k14), (.bool b15)] : List Value) = [(.int .u8 n8), (.int .u16 n9), (.int .u8 n10), (.int .u16 n11), (.slice (q12) k13 k14), (.bool b15)]) ∧
        (x22 (IntKind.wrap .i64 (n24 + 1)) (w25.setCells ((p37.add ((IntKind.i64.wrap (c + n24)).toNat * 1)).block) ((p37.add ((IntKind.i64.wrap (c + n24)).toNat * 1)).off) [(.int .u8 (IntKind.wrap .u8 ((((BitVec.ofInt 8 n36 ^^^ BitVec.ofInt 8 (IntKind.u8.wrap (d.fdiv (2 ^ min (IntKind.u64.wrap (IntKind.i64.wrap (8 * n24))).toNat 32)))).toNat) : Nat) : Int)))]) (L26)) ∧
        Nat.le ((x23 (IntKind.wrap .i64 (n24 + 1)) (w25.setCells ((p37.add ((IntKind.i64.wrap (c + n24)).toNat * 1)).block) ((p37.add ((IntKind.i64.wrap (c + n24)).toNat * 1)).off) [(.int .u8 (IntKind.wrap .u8 ((((BitVec.ofInt 8 n36 ^^^ BitVec.ofInt 8 (IntKind.u8.wrap (d.fdiv (2 ^ min (IntKind.u64.wrap (IntKind.i64.wrap (8 * n24))).toNat 32)))).toNat) : Nat) : Int)))])) + 1) (x23 n24 w25)
       else
        ∃ q27 : Option Addr, ∃ k28 : Nat, ∃ k29 : Nat, (World.cell? (w25.alloc (.cells #[] 34)) (a.add 0) = some (.slice (q27) k28 k29)) ∧
        (¬ (((a.add 0).block) ∈ L26)) ∧
        ∃ q30 : Option Addr, ∃ k31 : Nat, ∃ k32 : Nat, ∃ w33 : World, (Sem.run Try.prog (Go.Builtin.append_ #[27, 27] 27 #[(.slice (some ⟨(w25).heap.size, 0, none⟩) 0 0), (.slice (q27) k28 k29)]) (w25.alloc (.cells #[] 34)) = .ok (.slice (q30) k31 k32) w33) ∧
        (X.Kept L26 (w25.alloc (.cells #[] 34)) w33) ∧
        (0 ≤ b) ∧
        (b < ((k31 : Nat) : Int)) ∧
        X.onSome (q30) fun p34 =>
        (((p34.add (b.toNat * 6)).spot) = none) ∧
        (World.there w33 ((p34.add (b.toNat * 6)).block) ((p34.add (b.toNat * 6)).off) 6) ∧
        (¬ (((p34.add (b.toNat * 6)).block) ∈ L26)) ∧
        (((a.add 0).spot) = none) ∧
        (World.there (w33.setCells ((p34.add (b.toNat * 6)).block) ((p34.add (b.toNat * 6)).off) [(.int .u8 n8), (.int .u16 n9), (.int .u8 n10), (.int .u16 n11), (.slice (q18) k19 k20), (.bool true)]) ((a.add 0).block) ((a.add 0).off) 1) ∧
        (¬ (((a.add 0).block) ∈ L26)) ∧
        R (.returned (.int .i64 0)) ((w33.setCells ((p34.add (b.toNat * 6)).block) ((p34.add (b.toNat * 6)).off) [(.int .u8 n8), (.int .u16 n9), (.int .u8 n10), (.int .u16 n11), (.slice (q18) k19 k20), (.bool true)]).setCells ((a.add 0).block) ((a.add 0).off) [(.slice (q30) k31 k32)])) :
    Calls Try.prog 35 #[.pointer (some a), .int .i64 b, .int .i64 c, .int .u32 d] w R :=
  X.calls_of { isLoc := [9], sym := [60], loops := [(12, .inv [(11, .int .i64)] [] true)], joins := [] } Try.func35 (by kernel_rfl) h
abbrev fn_gemotref08_Bag_All : Nat := 36
theorem x_gemotref08_Bag_All (a : Addr) (w : World) (R : Ending → World → Prop) (h :
  ∃ q1 : Option Addr, ∃ k2 : Nat, ∃ k3 : Nat, (World.cell? w (a.add 0) = some (.slice (q1) k2 k3)) ∧
  (((a.add 0).spot) = none) ∧
  (World.there w ((a.add 0).block) ((a.add 0).off) 1) ∧
  R (.returned (.slice (q1) k2 k3)) (w.setCells ((a.add 0).block) ((a.add 0).off) [(.slice none 0 0)])) :
    Calls Try.prog 36 #[.pointer (some a)] w R :=
  X.calls_of { isLoc := [], sym := [], loops := [], joins := [] } Try.func36 (by kernel_rfl) h
abbrev fn_Clone : Nat := 37
theorem x_Clone (a : Option Addr) (al ac : Nat) (w : World) (R : Ending → World → Prop) (h :
  if (a.isNone) = true then
   R (.returned (.slice none 0 0)) w
  else
   ∃ q1 : Option Addr, ∃ k2 : Nat, ∃ k3 : Nat, ∃ w4 : World, (Sem.run Try.prog (Go.Builtin.append_ #[32, 32] 32 #[(.slice (some ⟨(w).heap.size, 0, none⟩) 0 0), (.slice (a) al ac)]) (w.alloc (.cells #[] 5)) = .ok (.slice (q1) k2 k3) w4) ∧
   (((w.alloc (.cells #[] 5))).heap.size ≤ (w4).heap.size) ∧
   R (.returned (.slice (q1) k2 k3)) w4) :
    Calls Try.prog 37 #[.slice a al ac] w R :=
  X.calls_of { isLoc := [], sym := [], loops := [], joins := [] } Try.func37 (by kernel_rfl) h
abbrev fn_bag_row_at : Nat := 38
theorem x_bag_row_at (a : Addr) (b : Int) (w : World) (R : Ending → World → Prop) (h :
  if ((decide (b < 0)) == false) = true then
   ∃ q1 : Option Addr, ∃ k2 : Nat, ∃ k3 : Nat, (World.cell? w (a.add 0) = some (.slice (q1) k2 k3)) ∧
   if (false || decide (b ≥ ((k2 : Nat) : Int))) = true then
    R (.returned (.pointer none)) w
   else
    ∃ q4 : Option Addr, ∃ k5 : Nat, ∃ k6 : Nat, (World.cell? w (a.add 0) = some (.slice (q4) k5 k6)) ∧
    (0 ≤ b) ∧
    (b < ((k5 : Nat) : Int)) ∧
    X.onSome (q4) fun p7 =>
    R (.returned (.pointer (some (p7.add ((b).toNat * 6))))) w
  else
   R (.returned (.pointer none)) w) :
    Calls Try.prog 38 #[.pointer (some a), .int .i64 b] w R :=
  X.calls_of { isLoc := [], sym := [], loops := [], joins := [] } Try.func38 (by kernel_rfl) h
abbrev fn_gemotref08_Bag_there : Nat := 39
theorem x_gemotref08_Bag_there (a : Addr) (b : Int) (w : World) (R : Ending → World → Prop) (h :
  if ((decide (b ≥ 0)) == true) = true then
   ∃ q1 : Option Addr, ∃ k2 : Nat, ∃ k3 : Nat, (World.cell? w (a.add 0) = some (.slice (q1) k2 k3)) ∧
   R (.returned (.bool (true && decide (b < ((k2 : Nat) : Int))))) w
  else
   R (.returned (.bool false)) w) :
    Calls Try.prog 39 #[.pointer (some a), .int .i64 b] w R :=
  X.calls_of { isLoc := [], sym := [], loops := [], joins := [] } Try.func39 (by kernel_rfl) h
abbrev fn_nil_Put : Nat := 10
theorem x_nil_Put (b_0 b_1 b_2 b_3 : Int) (b_4 : Option Addr) (b_4l b_4c : Nat) (b_5 : Bool) (w : World) (R : Ending → World → Prop) (h :
  ∀ w1 : World, ∀ L2 : List Nat, (X.Hid [] w w1) →
  (X.NewL (w).heap.size [] w w1 L2) →
  X.CallX Try.prog 25 #[(.pointer none)] w1 fun e3 w4 =>
   ∃ b5 : Bool, (e3 = .returned (.bool b5)) ∧
   (X.Kept L2 w1 w4) ∧
   if b5 = true then
    R (.returned (.int .i64 1)) w4
   else
    ∃ x6 : X.Facts, (X.FactsW x6 w4 (L2)) ∧
    False) :
    Calls Try.prog 10 #[.pointer none, .agg #[.int .u8 b_0, .int .u16 b_1, .int .u8 b_2, .int .u16 b_3, .slice b_4 b_4l b_4c, .bool b_5]] w R :=
  X.calls_of { isLoc := [3], sym := [], loops := [], joins := [] } Try.func10 (by kernel_rfl) h
abbrev fn_nil_Take : Nat := 12
theorem x_nil_Take (b : Int) (w : World) (R : Ending → World → Prop) (h :
  ∀ w1 : World, ∀ L2 : List Nat, (X.Hid [] w w1) →
  (X.NewL (w).heap.size [] w w1 L2) →
  X.CallX Try.prog 15 #[(.pointer none), (.int .i64 b)] w1 fun e3 w4 =>
   ∃ n5 : Int, ∃ n6 : Int, ∃ n7 : Int, ∃ n8 : Int, ∃ q9 : Option Addr, ∃ k10 : Nat, ∃ k11 : Nat, ∃ b12 : Bool, ∃ n13 : Int, (e3 = .returned (.tuple #[(.agg #[(.int .u8 n5), (.int .u16 n6), (.int .u8 n7), (.int .u16 n8), (.slice (q9) k10 k11), (.bool b12)]), (.int .i64 n13)])) ∧
   (X.Kept L2 w1 w4) ∧
   if (n13 == 0) = true then
    False
   else
    ∀ w14 : World, (X.Hid (L2) w4 w14) →
    R (.returned (.tuple #[(.agg #[(.int .u8 n5), (.int .u16 n6), (.int .u8 n7), (.int .u16 n8), (.slice (q9) k10 k11), (.bool b12)]), (.int .i64 n13)])) w14) :
    Calls Try.prog 12 #[.pointer none, .int .i64 b] w R :=
  X.calls_of { isLoc := [4, 6], sym := [], loops := [], joins := [] } Try.func12 (by kernel_rfl) h
abbrev fn_nil_Twice : Nat := 13
theorem x_nil_Twice (b : Int) (w : World) (R : Ending → World → Prop) (h :
  X.CallX Try.prog 30 #[(.pointer none), (.int .i64 b)] w fun e1 w2 =>
   ∃ q3 : Option Addr, ∃ n4 : Int, (e1 = .returned (.tuple #[(.pointer (q3)), (.int .i64 n4)])) ∧
   ((w).heap.size ≤ (w2).heap.size) ∧
   if (n4 != 0) = true then
    R (.returned (.int .i64 n4)) w2
   else
    X.onSome (q3) fun p5 =>
    ∃ n6 : Int, ∃ n7 : Int, ∃ n8 : Int, ∃ n9 : Int, ∃ q10 : Option Addr, ∃ k11 : Nat, ∃ k12 : Nat, ∃ b13 : Bool, (X.Cells w2 p5 [(.int .u8 n6), (.int .u16 n7), (.int .u8 n8), (.int .u16 n9), (.slice (q10) k11 k12), (.bool b13)]) ∧
    X.CallX Try.prog 10 #[(.pointer none), (.agg #[(.int .u8 n6), (.int .u16 n7), (.int .u8 n8), (.int .u16 n9), (.slice (q10) k11 k12), (.bool b13)])] w2 fun e14 w15 =>
     ∃ n16 : Int, (e14 = .returned (.int .i64 n16)) ∧
     ((w2).heap.size ≤ (w15).heap.size) ∧
     R (.returned (.int .i64 n16)) w15) :
    Calls Try.prog 13 #[.pointer none, .int .i64 b] w R :=
  X.calls_of { isLoc := [], sym := [], loops := [], joins := [] } Try.func13 (by kernel_rfl) h
abbrev fn_nil_Spoil : Nat := 14
theorem x_nil_Spoil (b c d : Int) (w : World) (R : Ending → World → Prop) (h :
  X.CallX Try.prog 30 #[(.pointer none), (.int .i64 b)] w fun e1 w2 =>
   ∃ q3 : Option Addr, ∃ n4 : Int, (e1 = .returned (.tuple #[(.pointer (q3)), (.int .i64 n4)])) ∧
   ((w).heap.size ≤ (w2).heap.size) ∧
   if (n4 != 0) = true then
    R (.returned (.int .i64 n4)) w2
   else
    X.onSome (q3) fun p5 =>
    ∃ b6 : Bool, (World.cell? w2 (p5.add 5) = some (.bool b6)) ∧
    if b6 = true then
     R (.returned (.int .i64 4)) w2
    else
     if (d == 0) = true then
      R (.returned (.int .i64 1)) w2
     else
      if ((decide (c < 0)) == false) = true then
       X.onSome (q3) fun p7 =>
       ∃ q8 : Option Addr, ∃ k9 : Nat, ∃ k10 : Nat, (World.cell? w2 (p7.add 4) = some (.slice (q8) k9 k10)) ∧
       if (false || decide (c > (IntKind.wrap .i64 (((k9 : Nat) : Int) - 4)))) = true then
        R (.returned (.int .i64 2)) w2
       else
        ∃ x11 : Int → World → List Nat → Prop, ∃ x12 : Int → World → Nat, (x11 0 w2 []) ∧
        ∀ n13 : Int, ∀ w14 : World, ∀ L15 : List Nat, (X.LF (w).heap.size w14 L15) →
        (x11 n13 w14 L15) →
        if (decide (n13 < 4)) = true then
         ∃ x17 : X.Facts, (X.FactsW x17 w14 []) ∧
         X.onSome (q3) fun p18 =>
         ∃ q19 : Option Addr, ∃ k20 : Nat, ∃ k21 : Nat, (((p18.add 4), [(.slice (q19) k20 k21)]) ∈ x17) ∧
         (0 ≤ (IntKind.wrap .i64 (c + n13))) ∧
         ((IntKind.wrap .i64 (c + n13)) < ((k20 : Nat) : Int)) ∧
         X.onSome (q19) fun p22 =>
         ∃ n23 : Int, (((p22.add (((IntKind.wrap .i64 (c + n13))).toNat * 1)), [(.int .u8 n23)]) ∈ x17) ∧
         (0 ≤ (IntKind.wrap .i64 (8 * n13))) ∧
         (0 ≤ (IntKind.wrap .i64 (c + n13))) ∧
         ((IntKind.wrap .i64 (c + n13)) < ((k20 : Nat) : Int)) ∧
         X.onSome (q19) fun p24 =>
         ∀ w25 : World, (X.Hid [] w14 w25) →
         (((p24.add ((IntKind.i64.wrap (c + n13)).toNat * 1)).spot) = none) ∧
         (World.there w25 ((p24.add ((IntKind.i64.wrap (c + n13)).toNat * 1)).block) ((p24.add ((IntKind.i64.wrap (c + n13)).toNat * 1)).off) 1) ∧
         (x11 (IntKind.wrap .i64 (n13 + 1)) (w25.setCells ((p24.add ((IntKind.i64.wrap (c + n13)).toNat * 1)).block) ((p24.add ((IntKind.i64.wrap (c + n13)).toNat * 1)).off) [(.int .u8 (IntKind.wrap .u8 ((((BitVec.ofInt 8 n23 ^^^ BitVec.ofInt 8 (IntKind.u8.wrap (d.fdiv (2 ^ min (IntKind.i64.wrap (8 * n13)).toNat 32)))).toNat) : Nat) : Int)))]) []) ∧
         Nat.le ((x12 (IntKind.wrap .i64 (n13 + 1)) (w25.setCells ((p24.add ((IntKind.i64.wrap (c + n13)).toNat * 1)).block) ((p24.add ((IntKind.i64.wrap (c + n13)).toNat * 1)).off) [(.int .u8 (IntKind.wrap .u8 ((((BitVec.ofInt 8 n23 ^^^ BitVec.ofInt 8 (IntKind.u8.wrap (d.fdiv (2 ^ min (IntKind.i64.wrap (8 * n13)).toNat 32)))).toNat) : Nat) : Int)))])) + 1) (x12 n13 w14)
        else
         X.onSome (q3) fun p16 =>
         ((none : Option Nat) = none) ∧
         (World.there w14 (p16.block) ((p16.off) + 5) 1) ∧
         R (.returned (.int .i64 0)) (w14.setCells (p16.block) ((p16.off) + 5) [(.bool true)])
      else
       R (.returned (.int .i64 2)) w2) :
    Calls Try.prog 14 #[.pointer none, .int .i64 b, .int .i64 c, .int .u32 d] w R :=
  X.calls_of { isLoc := [], sym := [58], loops := [(11, .inv [(43, .int .i64)] [] true)], joins := [] } Try.func14 (by kernel_rfl) h
abbrev fn_nil_Look : Nat := 15
theorem x_nil_Look (b : Int) (w : World) (R : Ending → World → Prop) (h :
  ∀ w1 : World, ∀ L2 : List Nat, (X.Hid [] w w1) →
  (X.NewL (w).heap.size [] w w1 L2) →
  X.CallX Try.prog 30 #[(.pointer none), (.int .i64 b)] w1 fun e3 w4 =>
   ∃ q5 : Option Addr, ∃ n6 : Int, (e3 = .returned (.tuple #[(.pointer (q5)), (.int .i64 n6)])) ∧
   (X.Kept L2 w1 w4) ∧
   if (n6 != 0) = true then
    ∀ w27 : World, (X.Hid (L2) w4 w27) →
    R (.returned (.tuple #[(.agg #[(.int .u8 0), (.int .u16 0), (.int .u8 0), (.int .u16 0), (.slice none 0 0), (.bool false)]), (.int .i64 n6)])) w27
   else
    X.onSome (q5) fun p7 =>
    ∃ n8 : Int, ∃ n9 : Int, ∃ n10 : Int, ∃ n11 : Int, ∃ q12 : Option Addr, ∃ k13 : Nat, ∃ k14 : Nat, ∃ b15 : Bool, (X.Cells w4 p7 [(.int .u8 n8), (.int .u16 n9), (.int .u8 n10), (.int .u16 n11), (.slice (q12) k13 k14), (.bool b15)]) ∧
    (¬ ((p7.block) ∈ L2)) ∧
    X.CallX Try.prog 27 #[(.agg #[(.int .u8 n8), (.int .u16 n9), (.int .u8 n10), (.int .u16 n11), (.slice (q12) k13 k14), (.bool b15)])] w4 fun e16 w17 =>
     ∃ n18 : Int, ∃ n19 : Int, ∃ n20 : Int, ∃ n21 : Int, ∃ q22 : Option Addr, ∃ k23 : Nat, ∃ k24 : Nat, ∃ b25 : Bool, (e16 = .returned (.agg #[(.int .u8 n18), (.int .u16 n19), (.int .u8 n20), (.int .u16 n21), (.slice (q22) k23 k24), (.bool b25)])) ∧
     (X.Kept L2 w4 w17) ∧
     ∀ w26 : World, (X.Hid (L2) w17 w26) →
     R (.returned (.tuple #[(.agg #[(.int .u8 n18), (.int .u16 n19), (.int .u8 n20), (.int .u16 n21), (.slice (q22) k23 k24), (.bool b25)]), (.int .i64 n6)])) w26) :
    Calls Try.prog 15 #[.pointer none, .int .i64 b] w R :=
  X.calls_of { isLoc := [4], sym := [], loops := [], joins := [] } Try.func15 (by kernel_rfl) h
abbrev fn_nil_Len : Nat := 23
theorem x_nil_Len  (w : World) (R : Ending → World → Prop) (h :
  X.CallX Try.prog 25 #[(.pointer none)] w fun e1 w2 =>
   ∃ b3 : Bool, (e1 = .returned (.bool b3)) ∧
   ((w).heap.size ≤ (w2).heap.size) ∧
   if b3 = true then
    R (.returned (.int .i64 0)) w2
   else
    False) :
    Calls Try.prog 23 #[.pointer none] w R :=
  X.calls_of { isLoc := [], sym := [], loops := [], joins := [] } Try.func23 (by kernel_rfl) h
abbrev fn_nil_All : Nat := 24
theorem x_nil_All  (w : World) (R : Ending → World → Prop) (h :
  X.CallX Try.prog 25 #[(.pointer none)] w fun e1 w2 =>
   ∃ b3 : Bool, (e1 = .returned (.bool b3)) ∧
   ((w).heap.size ≤ (w2).heap.size) ∧
   if b3 = true then
    R (.returned (.slice none 0 0)) w2
   else
    False) :
    Calls Try.prog 24 #[.pointer none] w R :=
  X.calls_of { isLoc := [], sym := [], loops := [], joins := [] } Try.func24 (by kernel_rfl) h
abbrev fn_nil_none : Nat := 25
theorem x_nil_none  (w : World) (R : Ending → World → Prop) (h :
  R (.returned (.bool true)) w) :
    Calls Try.prog 25 #[.pointer none] w R :=
  X.calls_of { isLoc := [], sym := [], loops := [], joins := [] } Try.func25 (by kernel_rfl) h
abbrev fn_nil_find : Nat := 30
theorem x_nil_find (b : Int) (w : World) (R : Ending → World → Prop) (h :
  X.CallX Try.prog 25 #[(.pointer none)] w fun e1 w2 =>
   ∃ b3 : Bool, (e1 = .returned (.bool b3)) ∧
   ((w).heap.size ≤ (w2).heap.size) ∧
   if b3 = true then
    R (.returned (.tuple #[(.pointer none), (.int .i64 1)])) w2
   else
    False) :
    Calls Try.prog 30 #[.pointer none, .int .i64 b] w R :=
  X.calls_of { isLoc := [], sym := [], loops := [], joins := [] } Try.func30 (by kernel_rfl) h
end Go.Proofs
