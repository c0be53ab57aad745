import Derived.Test.YtmfmihkjkgifiaaXFn
import Derived.Test.YtmfmihkjkgifiaaProg
/- The verification conditions of this seat's functions, as the engine has them: printed by a program of the bench; checked by the kernel. -/
set_option maxRecDepth 100000
set_option linter.unusedVariables false
namespace Go.Proofs
open Go
abbrev fn_gemotref10_New : Nat := 11
theorem x_gemotref10_New (a_0 a_1 b_0 b_1 c d : Int) (w : World) (R : Ending → World → Prop) (h :
  ∀ w1 : World, ∀ L2 : List Nat, (X.Hid [] w w1) →
  (X.NewL (w).heap.size [] w w1 L2) →
  R (.returned (.pointer (some ⟨(w1).heap.size, 0, none⟩))) (w1.alloc (.cells #[(.int .u8 a_0), (.int .u16 a_1), (.int .u8 b_0), (.int .u16 b_1), (.int .i64 (if d > 1 then d else 1)), (.int .u64 c), (.int .u64 c), (.slice none 0 0), (.slice none 0 0), (.bool false)] 60))) :
    Calls Try.prog 11 #[.agg #[.int .u8 a_0, .int .u16 a_1], .agg #[.int .u8 b_0, .int .u16 b_1], .int .u64 c, .int .i64 d] w R :=
  X.calls_of { isLoc := [4, 5], sym := [], loops := [], joins := [] } Try.func11 (by kernel_rfl) h
abbrev fn_gemotref10_Link_Send : Nat := 14
theorem x_gemotref10_Link_Send (a : Addr) (b : Option Addr) (bl bc : Nat) (w : World) (R : Ending → World → Prop) (h :
  ∃ n1 : Int, (World.cell? w (a.add 5) = some (.int .u64 n1)) ∧
  if (n1 == 18446744073709551615) = true then
   R (.returned (.int .i64 11)) w
  else
   ∃ q2 : Option Addr, ∃ k3 : Nat, ∃ k4 : Nat, (World.cell? w (a.add 7) = some (.slice (q2) k3 k4)) ∧
   if (decide (((k3 : Nat) : Int) ≥ 32)) = true then
    R (.returned (.int .i64 10)) w
   else
    ∃ x5 : X.Facts, (X.FactsW x5 w []) ∧
    ∃ q6 : Option Addr, ∃ k7 : Nat, ∃ k8 : Nat, (((a.add 7), [(.slice (q6) k7 k8)]) ∈ x5) ∧
    ∃ n9 : Int, (((a.add 5), [(.int .u64 n9)]) ∈ x5) ∧
    ∀ w10 : World, (X.Hid [] w w10) →
    (X.FactsW x5 (w10.alloc (.cells #[] 5)) []) ∧
    ∃ q11 : Option Addr, ∃ k12 : Nat, ∃ k13 : Nat, ∃ w14 : World, (Sem.run Try.prog (Go.Builtin.append_ #[35, 35] 35 #[(.slice (some ⟨(w10).heap.size, 0, none⟩) 0 0), (.slice (b) bl bc)]) (w10.alloc (.cells #[] 5)) = .ok (.slice (q11) k12 k13) w14) ∧
    (((w10.alloc (.cells #[] 5))).heap.size ≤ (w14).heap.size) ∧
    (X.FactsW x5 w14 []) ∧
    (X.FactsW x5 (w14.alloc (.cells #[(.int .u64 n9), (.slice (q11) k12 k13), (.bool false), (.int .i64 0)] 88)) []) ∧
    ∃ q15 : Option Addr, ∃ k16 : Nat, ∃ k17 : Nat, ∃ w18 : World, (Sem.run Try.prog (Go.Builtin.append_ #[57, 57] 57 #[(.slice (q6) k7 k8), (.slice (some ⟨(w14).heap.size, 0, none⟩) 1 1)]) (w14.alloc (.cells #[(.int .u64 n9), (.slice (q11) k12 k13), (.bool false), (.int .i64 0)] 88)) = .ok (.slice (q15) k16 k17) w18) ∧
    (((w14.alloc (.cells #[(.int .u64 n9), (.slice (q11) k12 k13), (.bool false), (.int .i64 0)] 88))).heap.size ≤ (w18).heap.size) ∧
    (X.FactsW x5 w18 []) ∧
    ((none : Option Nat) = none) ∧
    (World.there w18 (a.block) ((a.off) + 7) 1) ∧
    ∃ n19 : Int, (World.cell? (w18.setCells (a.block) ((a.off) + 7) [(.slice (q15) k16 k17)]) (a.add 5) = some (.int .u64 n19)) ∧
    ((none : Option Nat) = none) ∧
    (World.there (w18.setCells (a.block) ((a.off) + 7) [(.slice (q15) k16 k17)]) (a.block) ((a.off) + 5) 1) ∧
    R (.returned (.int .i64 0)) ((w18.setCells (a.block) ((a.off) + 7) [(.slice (q15) k16 k17)]).setCells (a.block) ((a.off) + 5) [(.int .u64 (IntKind.wrap .u64 (n19 + 1)))])) :
    Calls Try.prog 14 #[.pointer (some a), .slice b bl bc] w R :=
  X.calls_of { isLoc := [], sym := [], loops := [], joins := [] } Try.func14 (by kernel_rfl) h
abbrev fn_gemotlaw10_packets : Nat := 15
theorem x_gemotlaw10_packets (a : Option Addr) (al ac : Nat) (b : Option Addr) (bl bc : Nat) (w : World) (R : Ending → World → Prop) (h :
  if (((al : Nat) : Int) != ((bl : Nat) : Int)) = true then
   R (.returned (.bool false)) w
  else
   ∃ x1 : Int → World → List Nat → Prop, ∃ x2 : Int → World → Nat, (x1 0 w []) ∧
   ∀ n3 : Int, ∀ w4 : World, ∀ L5 : List Nat, (X.LF (w).heap.size w4 L5) →
   (x1 n3 w4 L5) →
   if (decide (n3 < ((al : Nat) : Int))) = true then
    ((0 : Int) ≤ n3) ∧
    (n3 < ((bl : Nat) : Int)) ∧
    X.onSome (b) fun p6 =>
    ∃ n7 : Int, ∃ n8 : Int, ∃ n9 : Int, ∃ n10 : Int, ∃ n11 : Int, ∃ n12 : Int, ∃ b13 : Bool, ∃ q14 : Option Addr, ∃ k15 : Nat, ∃ k16 : Nat, (X.Cells w4 (p6.add ((n3).toNat * 8)) [(.int .u8 n7), (.int .u16 n8), (.int .u8 n9), (.int .u16 n10), (.int .u64 n11), (.int .u64 n12), (.bool b13), (.slice (q14) k15 k16)]) ∧
    X.CallX Try.prog 20 #[(.agg #[(.int .u8 n7), (.int .u16 n8), (.int .u8 n9), (.int .u16 n10), (.int .u64 n11), (.int .u64 n12), (.bool b13), (.slice (q14) k15 k16)])] w4 fun e17 w18 =>
     ∃ n19 : Int, ∃ n20 : Int, ∃ n21 : Int, ∃ n22 : Int, ∃ n23 : Int, ∃ n24 : Int, ∃ b25 : Bool, ∃ q26 : Option Addr, ∃ k27 : Nat, ∃ k28 : Nat, (e17 = .returned (.agg #[(.int .u8 n19), (.int .u16 n20), (.int .u8 n21), (.int .u16 n22), (.int .u64 n23), (.int .u64 n24), (.bool b25), (.slice (q26) k27 k28)])) ∧
     ((w4).heap.size ≤ (w18).heap.size) ∧
     ((0 : Int) ≤ n3) ∧
     (n3 < ((al : Nat) : Int)) ∧
     X.onSome (a) fun p29 =>
     ∃ n30 : Int, ∃ n31 : Int, ∃ n32 : Int, ∃ n33 : Int, ∃ n34 : Int, ∃ n35 : Int, ∃ b36 : Bool, ∃ q37 : Option Addr, ∃ k38 : Nat, ∃ k39 : Nat, (X.Cells w18 (p29.add ((n3).toNat * 8)) [(.int .u8 n30), (.int .u16 n31), (.int .u8 n32), (.int .u16 n33), (.int .u64 n34), (.int .u64 n35), (.bool b36), (.slice (q37) k38 k39)]) ∧
     if ((((((!((n19 == n30) && (n20 == n31))) || (!((n21 == n32) && (n22 == n33)))) || (n23 != n34)) || (n24 != n35)) || (!(b25 == b36))) == false) = true then
      ∀ w41 : World, ∀ L42 : List Nat, (X.Hid [] w18 w41) →
      (X.NewL (w).heap.size [] w18 w41 L42) →
      ∃ s43 : ByteArray, ∃ w44 : World, (Sem.run Try.prog (Go.convert 35 9 (.slice (q26) k27 k28)) w41 = .ok (.string s43) w44) ∧
      (X.Kept L42 w41 w44) ∧
      ∃ s45 : ByteArray, ∃ w46 : World, (Sem.run Try.prog (Go.convert 35 9 (.slice (q37) k38 k39)) w44 = .ok (.string s45) w46) ∧
      (X.Kept L42 w44 w46) ∧
      if (false || (!((s43.toList) == (s45.toList)))) = true then
       R (.returned (.bool false)) w46
      else
       (x1 (IntKind.wrap .i64 (n3 + 1)) w46 (L42)) ∧
       Nat.le ((x2 (IntKind.wrap .i64 (n3 + 1)) w46) + 1) (x2 n3 w4)
     else
      ∀ w40 : World, (X.Hid [] w18 w40) →
      R (.returned (.bool false)) w40
   else
    R (.returned (.bool true)) w4) :
    Calls Try.prog 15 #[.slice a al ac, .slice b bl bc] w R :=
  X.calls_of { isLoc := [6, 7], sym := [], loops := [(4, .inv [(5, .int .i64)] [] true)], joins := [] } Try.func15 (by kernel_rfl) h
abbrev fn_gemotref10_Link_Out : Nat := 17
theorem x_gemotref10_Link_Out (a : Addr) (b : Int) (w : World) (R : Ending → World → Prop) (h :
  ∃ x1 : Option Addr → Nat → Nat → Int → World → List Nat → Prop, ∃ x2 : Option Addr → Nat → Nat → Int → World → Nat, (x1 (none) 0 0 0 w []) ∧
  ∀ q3 : Option Addr, ∀ k4 : Nat, ∀ k5 : Nat, ∀ n6 : Int, ∀ w7 : World, ∀ L8 : List Nat, (X.LF (w).heap.size w7 L8) →
  (x1 q3 k4 k5 n6 w7 L8) →
  ∃ q9 : Option Addr, ∃ k10 : Nat, ∃ k11 : Nat, (World.cell? w7 (a.add 7) = some (.slice (q9) k10 k11)) ∧
  if (decide (n6 < ((k10 : Nat) : Int)) && decide (n6 < 8)) = true then
   ∃ q24 : Option Addr, ∃ k25 : Nat, ∃ k26 : Nat, (World.cell? w7 (a.add 7) = some (.slice (q24) k25 k26)) ∧
   ((0 : Int) ≤ n6) ∧
   (n6 < ((k25 : Nat) : Int)) ∧
   X.onSome (q24) fun p27 =>
   ∃ n28 : Int, ∃ q29 : Option Addr, ∃ k30 : Nat, ∃ k31 : Nat, ∃ b32 : Bool, ∃ n33 : Int, (X.Cells w7 (p27.add ((n6).toNat * 4)) [(.int .u64 n28), (.slice (q29) k30 k31), (.bool b32), (.int .i64 n33)]) ∧
   ∃ x34 : X.Facts, (X.FactsW x34 w7 []) ∧
   if (b32 == true) = true then
    ∃ n57 : Int, (((a.add 4), [(.int .i64 n57)]) ∈ x34) ∧
    ∀ w58 : World, ∀ L59 : List Nat, (X.Hid [] w7 w58) →
    (X.NewL (w).heap.size [] w7 w58 L59) →
    X.CallX Try.prog 33 #[(.int .i64 n33), (.int .i64 b), (.int .i64 n57)] w58 fun e60 w61 =>
     ∃ b62 : Bool, (e60 = .returned (.bool b62)) ∧
     (X.Kept L59 w58 w61) ∧
     (X.FactsW x34 w61 (L59)) ∧
     if (true && (!b62)) = true then
      (x1 q3 k4 k5 (IntKind.wrap .i64 (n6 + 1)) w61 (L59)) ∧
      Nat.le ((x2 q3 k4 k5 (IntKind.wrap .i64 (n6 + 1)) w61) + 1) (x2 q3 k4 k5 n6 w7)
     else
      ∃ q63 : Option Addr, ∃ k64 : Nat, ∃ k65 : Nat, (World.cell? w61 (a.add 7) = some (.slice (q63) k64 k65)) ∧
      (¬ ((a.block) ∈ L59)) ∧
      ((0 : Int) ≤ n6) ∧
      (n6 < ((k64 : Nat) : Int)) ∧
      X.onSome (q63) fun p66 =>
      ((none : Option Nat) = none) ∧
      (World.there w61 ((p66.add (n6.toNat * 4)).block) (((p66.add (n6.toNat * 4)).off) + 2) 1) ∧
      (¬ (((p66.add (n6.toNat * 4)).block) ∈ L59)) ∧
      ∃ q67 : Option Addr, ∃ k68 : Nat, ∃ k69 : Nat, (World.cell? (w61.setCells ((p66.add (n6.toNat * 4)).block) (((p66.add (n6.toNat * 4)).off) + 2) [(.bool true)]) (a.add 7) = some (.slice (q67) k68 k69)) ∧
      (¬ ((a.block) ∈ L59)) ∧
      ((0 : Int) ≤ n6) ∧
      (n6 < ((k68 : Nat) : Int)) ∧
      X.onSome (q67) fun p70 =>
      ((none : Option Nat) = none) ∧
      (World.there (w61.setCells ((p66.add (n6.toNat * 4)).block) (((p66.add (n6.toNat * 4)).off) + 2) [(.bool true)]) ((p70.add (n6.toNat * 4)).block) (((p70.add (n6.toNat * 4)).off) + 3) 1) ∧
      (¬ (((p70.add (n6.toNat * 4)).block) ∈ L59)) ∧
      ∃ x71 : X.Facts, (X.FactsW x71 ((w61.setCells ((p66.add (n6.toNat * 4)).block) (((p66.add (n6.toNat * 4)).off) + 2) [(.bool true)]).setCells ((p70.add (n6.toNat * 4)).block) (((p70.add (n6.toNat * 4)).off) + 3) [(.int .i64 b)]) (L59)) ∧
      ∃ n72 : Int, ∃ n73 : Int, (((a.add 0), [(.int .u8 n72), (.int .u16 n73)]) ∈ x71) ∧
      ∃ n74 : Int, ∃ n75 : Int, (((a.add 2), [(.int .u8 n74), (.int .u16 n75)]) ∈ x71) ∧
      ∃ n76 : Int, (((a.add 6), [(.int .u64 n76)]) ∈ x71) ∧
      ∀ w77 : World, ∀ L78 : List Nat, (X.Hid (L59) ((w61.setCells ((p66.add (n6.toNat * 4)).block) (((p66.add (n6.toNat * 4)).off) + 2) [(.bool true)]).setCells ((p70.add (n6.toNat * 4)).block) (((p70.add (n6.toNat * 4)).off) + 3) [(.int .i64 b)]) w77) →
      (X.NewL (w).heap.size (L59) ((w61.setCells ((p66.add (n6.toNat * 4)).block) (((p66.add (n6.toNat * 4)).off) + 2) [(.bool true)]).setCells ((p70.add (n6.toNat * 4)).block) (((p70.add (n6.toNat * 4)).off) + 3) [(.int .i64 b)]) w77 L78) →
      (X.FactsW x71 (w77.alloc (.cells #[(.int .u8 n72), (.int .u16 n73), (.int .u8 n74), (.int .u16 n75), (.int .u64 n28), (.int .u64 n76), (.bool true), (.slice (q29) k30 k31)] 37)) (L78)) ∧
      ∃ q79 : Option Addr, ∃ k80 : Nat, ∃ k81 : Nat, ∃ w82 : World, (Sem.run Try.prog (Go.Builtin.append_ #[47, 47] 47 #[(.slice (q3) k4 k5), (.slice (some ⟨(w77).heap.size, 0, none⟩) 1 1)]) (w77.alloc (.cells #[(.int .u8 n72), (.int .u16 n73), (.int .u8 n74), (.int .u16 n75), (.int .u64 n28), (.int .u64 n76), (.bool true), (.slice (q29) k30 k31)] 37)) = .ok (.slice (q79) k80 k81) w82) ∧
      (X.Kept L78 (w77.alloc (.cells #[(.int .u8 n72), (.int .u16 n73), (.int .u8 n74), (.int .u16 n75), (.int .u64 n28), (.int .u64 n76), (.bool true), (.slice (q29) k30 k31)] 37)) w82) ∧
      (X.FactsW x71 w82 (L78)) ∧
      (x1 q79 k80 k81 (IntKind.wrap .i64 (n6 + 1)) w82 (L78)) ∧
      Nat.le ((x2 q79 k80 k81 (IntKind.wrap .i64 (n6 + 1)) w82) + 1) (x2 q3 k4 k5 n6 w7)
   else
    ∃ q35 : Option Addr, ∃ k36 : Nat, ∃ k37 : Nat, (World.cell? w7 (a.add 7) = some (.slice (q35) k36 k37)) ∧
    ((0 : Int) ≤ n6) ∧
    (n6 < ((k36 : Nat) : Int)) ∧
    X.onSome (q35) fun p38 =>
    ∀ w39 : World, ∀ L40 : List Nat, (X.Hid [] w7 w39) →
    (X.NewL (w).heap.size [] w7 w39 L40) →
    ((none : Option Nat) = none) ∧
    (World.there w39 ((p38.add (n6.toNat * 4)).block) (((p38.add (n6.toNat * 4)).off) + 2) 1) ∧
    (¬ (((p38.add (n6.toNat * 4)).block) ∈ L40)) ∧
    ∃ q41 : Option Addr, ∃ k42 : Nat, ∃ k43 : Nat, (World.cell? (w39.setCells ((p38.add (n6.toNat * 4)).block) (((p38.add (n6.toNat * 4)).off) + 2) [(.bool true)]) (a.add 7) = some (.slice (q41) k42 k43)) ∧
    (¬ ((a.block) ∈ L40)) ∧
    ((0 : Int) ≤ n6) ∧
    (n6 < ((k42 : Nat) : Int)) ∧
    X.onSome (q41) fun p44 =>
    ((none : Option Nat) = none) ∧
    (World.there (w39.setCells ((p38.add (n6.toNat * 4)).block) (((p38.add (n6.toNat * 4)).off) + 2) [(.bool true)]) ((p44.add (n6.toNat * 4)).block) (((p44.add (n6.toNat * 4)).off) + 3) 1) ∧
    (¬ (((p44.add (n6.toNat * 4)).block) ∈ L40)) ∧
    ∃ x45 : X.Facts, (X.FactsW x45 ((w39.setCells ((p38.add (n6.toNat * 4)).block) (((p38.add (n6.toNat * 4)).off) + 2) [(.bool true)]).setCells ((p44.add (n6.toNat * 4)).block) (((p44.add (n6.toNat * 4)).off) + 3) [(.int .i64 b)]) (L40)) ∧
    ∃ n46 : Int, ∃ n47 : Int, (((a.add 0), [(.int .u8 n46), (.int .u16 n47)]) ∈ x45) ∧
    ∃ n48 : Int, ∃ n49 : Int, (((a.add 2), [(.int .u8 n48), (.int .u16 n49)]) ∈ x45) ∧
    ∃ n50 : Int, (((a.add 6), [(.int .u64 n50)]) ∈ x45) ∧
    ∀ w51 : World, ∀ L52 : List Nat, (X.Hid (L40) ((w39.setCells ((p38.add (n6.toNat * 4)).block) (((p38.add (n6.toNat * 4)).off) + 2) [(.bool true)]).setCells ((p44.add (n6.toNat * 4)).block) (((p44.add (n6.toNat * 4)).off) + 3) [(.int .i64 b)]) w51) →
    (X.NewL (w).heap.size (L40) ((w39.setCells ((p38.add (n6.toNat * 4)).block) (((p38.add (n6.toNat * 4)).off) + 2) [(.bool true)]).setCells ((p44.add (n6.toNat * 4)).block) (((p44.add (n6.toNat * 4)).off) + 3) [(.int .i64 b)]) w51 L52) →
    (X.FactsW x45 (w51.alloc (.cells #[(.int .u8 n46), (.int .u16 n47), (.int .u8 n48), (.int .u16 n49), (.int .u64 n28), (.int .u64 n50), (.bool true), (.slice (q29) k30 k31)] 37)) (L52)) ∧
    ∃ q53 : Option Addr, ∃ k54 : Nat, ∃ k55 : Nat, ∃ w56 : World, (Sem.run Try.prog (Go.Builtin.append_ #[47, 47] 47 #[(.slice (q3) k4 k5), (.slice (some ⟨(w51).heap.size, 0, none⟩) 1 1)]) (w51.alloc (.cells #[(.int .u8 n46), (.int .u16 n47), (.int .u8 n48), (.int .u16 n49), (.int .u64 n28), (.int .u64 n50), (.bool true), (.slice (q29) k30 k31)] 37)) = .ok (.slice (q53) k54 k55) w56) ∧
    (X.Kept L52 (w51.alloc (.cells #[(.int .u8 n46), (.int .u16 n47), (.int .u8 n48), (.int .u16 n49), (.int .u64 n28), (.int .u64 n50), (.bool true), (.slice (q29) k30 k31)] 37)) w56) ∧
    (X.FactsW x45 w56 (L52)) ∧
    (x1 q53 k54 k55 (IntKind.wrap .i64 (n6 + 1)) w56 (L52)) ∧
    Nat.le ((x2 q53 k54 k55 (IntKind.wrap .i64 (n6 + 1)) w56) + 1) (x2 q3 k4 k5 n6 w7)
  else
   if ((((k4 : Nat) : Int) == 0) == true) = true then
    ∃ b12 : Bool, (World.cell? w7 (a.add 9) = some (.bool b12)) ∧
    if (true && b12) = true then
     ∃ x13 : X.Facts, (X.FactsW x13 w7 []) ∧
     ∃ n14 : Int, ∃ n15 : Int, (((a.add 0), [(.int .u8 n14), (.int .u16 n15)]) ∈ x13) ∧
     ∃ n16 : Int, ∃ n17 : Int, (((a.add 2), [(.int .u8 n16), (.int .u16 n17)]) ∈ x13) ∧
     ∃ n18 : Int, (((a.add 6), [(.int .u64 n18)]) ∈ x13) ∧
     ∀ w19 : World, (X.Hid [] w7 w19) →
     (X.FactsW x13 (w19.alloc (.cells #[(.int .u8 n14), (.int .u16 n15), (.int .u8 n16), (.int .u16 n17), (.int .u64 0), (.int .u64 n18), (.bool false), (.slice none 0 0)] 37)) []) ∧
     ∃ q20 : Option Addr, ∃ k21 : Nat, ∃ k22 : Nat, ∃ w23 : World, (Sem.run Try.prog (Go.Builtin.append_ #[47, 47] 47 #[(.slice (q3) k4 k5), (.slice (some ⟨(w19).heap.size, 0, none⟩) 1 1)]) (w19.alloc (.cells #[(.int .u8 n14), (.int .u16 n15), (.int .u8 n16), (.int .u16 n17), (.int .u64 0), (.int .u64 n18), (.bool false), (.slice none 0 0)] 37)) = .ok (.slice (q20) k21 k22) w23) ∧
     (((w19.alloc (.cells #[(.int .u8 n14), (.int .u16 n15), (.int .u8 n16), (.int .u16 n17), (.int .u64 0), (.int .u64 n18), (.bool false), (.slice none 0 0)] 37))).heap.size ≤ (w23).heap.size) ∧
     (X.FactsW x13 w23 []) ∧
     ((none : Option Nat) = none) ∧
     (World.there w23 (a.block) ((a.off) + 9) 1) ∧
     R (.returned (.slice (q20) k21 k22)) (w23.setCells (a.block) ((a.off) + 9) [(.bool false)])
    else
     ((none : Option Nat) = none) ∧
     (World.there w7 (a.block) ((a.off) + 9) 1) ∧
     R (.returned (.slice (q3) k4 k5)) (w7.setCells (a.block) ((a.off) + 9) [(.bool false)])
   else
    ((none : Option Nat) = none) ∧
    (World.there w7 (a.block) ((a.off) + 9) 1) ∧
    R (.returned (.slice (q3) k4 k5)) (w7.setCells (a.block) ((a.off) + 9) [(.bool false)])) :
    Calls Try.prog 17 #[.pointer (some a), .int .i64 b] w R :=
  X.calls_of { isLoc := [7], sym := [], loops := [(3, .inv [(5, .slice), (6, .int .i64)] [] true)], joins := [] } Try.func17 (by kernel_rfl) h
abbrev fn_gemotlaw10_bodies : Nat := 18
theorem x_gemotlaw10_bodies (a : Option Addr) (al ac : Nat) (b : Option Addr) (bl bc : Nat) (w : World) (R : Ending → World → Prop) (h :
  if (((al : Nat) : Int) != ((bl : Nat) : Int)) = true then
   R (.returned (.bool false)) w
  else
   ∃ x1 : Int → World → List Nat → Prop, ∃ x2 : Int → World → Nat, (x1 0 w []) ∧
   ∀ n3 : Int, ∀ w4 : World, ∀ L5 : List Nat, (X.LF (w).heap.size w4 L5) →
   (x1 n3 w4 L5) →
   if (decide (n3 < ((al : Nat) : Int))) = true then
    ∃ x6 : X.Facts, (X.FactsW x6 w4 []) ∧
    ((0 : Int) ≤ n3) ∧
    (n3 < ((al : Nat) : Int)) ∧
    X.onSome (a) fun p7 =>
    ∃ q8 : Option Addr, ∃ k9 : Nat, ∃ k10 : Nat, (((p7.add ((n3).toNat * 1)), [(.slice (q8) k9 k10)]) ∈ x6) ∧
    ((0 : Int) ≤ n3) ∧
    (n3 < ((bl : Nat) : Int)) ∧
    X.onSome (b) fun p11 =>
    ∃ q12 : Option Addr, ∃ k13 : Nat, ∃ k14 : Nat, (((p11.add ((n3).toNat * 1)), [(.slice (q12) k13 k14)]) ∈ x6) ∧
    (∀ w15 : World, (X.Hid [] w4 w15) →
     ∃ s16 : ByteArray, ∃ w17 : World, (Sem.run Try.prog (Go.convert 35 9 (.slice (q8) k9 k10)) w15 = .ok (.string s16) w17) ∧
     ((w15).heap.size ≤ (w17).heap.size) ∧
     (X.FactsW x6 w17 []) ∧
     ∃ s18 : ByteArray, ∃ w19 : World, (Sem.run Try.prog (Go.convert 35 9 (.slice (q12) k13 k14)) w17 = .ok (.string s18) w19) ∧
     ((w17).heap.size ≤ (w19).heap.size) ∧
     (X.FactsW x6 w19 []) ∧
     if (!((s16.toList) == (s18.toList))) = true then
      R (.returned (.bool false)) w19
     else
      (x1 (IntKind.wrap .i64 (n3 + 1)) w19 []) ∧
      Nat.le ((x2 (IntKind.wrap .i64 (n3 + 1)) w19) + 1) (x2 n3 w4)) ∧
    ∀ w20 : World, (X.Hid [] w4 w20) →
    ∃ s21 : ByteArray, ∃ w22 : World, (Sem.run Try.prog (Go.convert 35 9 (.slice (q12) k13 k14)) w20 = .ok (.string s21) w22) ∧
    ((w20).heap.size ≤ (w22).heap.size) ∧
    (X.FactsW x6 w22 []) ∧
    ∃ s23 : ByteArray, ∃ w24 : World, (Sem.run Try.prog (Go.convert 35 9 (.slice (q8) k9 k10)) w22 = .ok (.string s23) w24) ∧
    ((w22).heap.size ≤ (w24).heap.size) ∧
    (X.FactsW x6 w24 []) ∧
    if (!((s23.toList) == (s21.toList))) = true then
     R (.returned (.bool false)) w24
    else
     (x1 (IntKind.wrap .i64 (n3 + 1)) w24 []) ∧
     Nat.le ((x2 (IntKind.wrap .i64 (n3 + 1)) w24) + 1) (x2 n3 w4)
   else
    R (.returned (.bool true)) w4) :
    Calls Try.prog 18 #[.slice a al ac, .slice b bl bc] w R :=
  X.calls_of { isLoc := [], sym := [], loops := [(4, .inv [(5, .int .i64)] [] true)], joins := [] } Try.func18 (by kernel_rfl) h
abbrev fn_gemotref10_Link_Hear : Nat := 21
theorem x_gemotref10_Link_Hear (a : Addr) (b_0 b_1 b_2 b_3 b_4 b_5 : Int) (b_6 : Bool) (b_7 : Option Addr) (b_7l b_7c : Nat) (w : World) (R : Ending → World → Prop) (h :
  ∃ n1 : Int, ∃ n2 : Int, (X.Cells w (a.add 2) [(.int .u8 n1), (.int .u16 n2)]) ∧
  if ((!((b_0 == n1) && (b_1 == n2))) == false) = true then
   ∃ n4 : Int, ∃ n5 : Int, (X.Cells w (a.add 0) [(.int .u8 n4), (.int .u16 n5)]) ∧
   if (false || (!((b_2 == n4) && (b_3 == n5)))) = true then
    ∀ w99 : World, (X.Hid [] w w99) →
    R (.returned (.slice none 0 0)) w99
   else
    ∃ x6 : World → List Nat → Prop, (∀ w7 : World, ∀ L8 : List Nat, (X.Hid [] w w7) →
     (X.NewL (w).heap.size [] w w7 L8) →
     ∃ x9 : World → List Nat → Prop, ∃ x10 : World → Nat, (x9 w7 (L8)) ∧
     ∀ w11 : World, ∀ L12 : List Nat, (X.LF (w).heap.size w11 L12) →
     (x9 w11 L12) →
     ∃ q13 : Option Addr, ∃ k14 : Nat, ∃ k15 : Nat, (World.cell? w11 (a.add 7) = some (.slice (q13) k14 k15)) ∧
     (¬ ((a.block) ∈ L12)) ∧
     if ((decide (((k14 : Nat) : Int) > 0)) == true) = true then
      ∃ n18 : Int, (World.cell? w11 (a.add 5) = some (.int .u64 n18)) ∧
      (¬ ((a.block) ∈ L12)) ∧
      if ((true && decide (b_5 ≤ n18)) == true) = true then
       ∃ q21 : Option Addr, ∃ k22 : Nat, ∃ k23 : Nat, (World.cell? w11 (a.add 7) = some (.slice (q21) k22 k23)) ∧
       (¬ ((a.block) ∈ L12)) ∧
       ((0 : Int) ≤ 0) ∧
       ((0 : Int) < ((k22 : Nat) : Int)) ∧
       X.onSome (q21) fun p24 =>
       ∃ n25 : Int, (World.cell? w11 ((p24.add 0).add 0) = some (.int .u64 n25)) ∧
       (¬ ((((p24.add 0).add 0).block) ∈ L12)) ∧
       if (true && decide (n25 < b_5)) = true then
        ∃ q28 : Option Addr, ∃ k29 : Nat, ∃ k30 : Nat, (World.cell? w11 (a.add 7) = some (.slice (q28) k29 k30)) ∧
        (¬ ((a.block) ∈ L12)) ∧
        ((0 : Int) ≤ 1) ∧
        ((1 : Int) ≤ ((k29 : Nat) : Int)) ∧
        ∀ w31 : World, ∀ L32 : List Nat, (X.Hid (L12) w11 w31) →
        (X.NewL (w).heap.size (L12) w11 w31 L32) →
        ((none : Option Nat) = none) ∧
        (World.there w31 (a.block) ((a.off) + 7) 1) ∧
        (¬ ((a.block) ∈ L32)) ∧
        (([(.int .u8 b_0), (.int .u16 b_1), (.int .u8 b_2), (.int .u16 b_3), (.int .u64 b_4), (.int .u64 b_5), (.bool b_6), (.slice (b_7) b_7l b_7c)] : List Value) = [(.int .u8 b_0), (.int .u16 b_1), (.int .u8 b_2), (.int .u16 b_3), (.int .u64 b_4), (.int .u64 b_5), (.bool b_6), (.slice (b_7) b_7l b_7c)]) ∧
        (x9 (w31.setCells (a.block) ((a.off) + 7) [(.slice (X.cutA (q28) k30 1 4) (k29 - 1) (k30 - 1))]) (L32)) ∧
        Nat.le ((x10 (w31.setCells (a.block) ((a.off) + 7) [(.slice (X.cutA (q28) k30 1 4) (k29 - 1) (k30 - 1))])) + 1) (x10 w11)
       else
        ∀ w26 : World, ∀ L27 : List Nat, (X.Hid (L12) w11 w26) →
        (X.NewL (w).heap.size (L12) w11 w26 L27) →
        (([(.int .u8 b_0), (.int .u16 b_1), (.int .u8 b_2), (.int .u16 b_3), (.int .u64 b_4), (.int .u64 b_5), (.bool b_6), (.slice (b_7) b_7l b_7c)] : List Value) = [(.int .u8 b_0), (.int .u16 b_1), (.int .u8 b_2), (.int .u16 b_3), (.int .u64 b_4), (.int .u64 b_5), (.bool b_6), (.slice (b_7) b_7l b_7c)]) ∧
        x6 w26 (L27)
      else
       ∀ w19 : World, ∀ L20 : List Nat, (X.Hid (L12) w11 w19) →
       (X.NewL (w).heap.size (L12) w11 w19 L20) →
       (([(.int .u8 b_0), (.int .u16 b_1), (.int .u8 b_2), (.int .u16 b_3), (.int .u64 b_4), (.int .u64 b_5), (.bool b_6), (.slice (b_7) b_7l b_7c)] : List Value) = [(.int .u8 b_0), (.int .u16 b_1), (.int .u8 b_2), (.int .u16 b_3), (.int .u64 b_4), (.int .u64 b_5), (.bool b_6), (.slice (b_7) b_7l b_7c)]) ∧
       x6 w19 (L20)
     else
      ∀ w16 : World, ∀ L17 : List Nat, (X.Hid (L12) w11 w16) →
      (X.NewL (w).heap.size (L12) w11 w16 L17) →
      (([(.int .u8 b_0), (.int .u16 b_1), (.int .u8 b_2), (.int .u16 b_3), (.int .u64 b_4), (.int .u64 b_5), (.bool b_6), (.slice (b_7) b_7l b_7c)] : List Value) = [(.int .u8 b_0), (.int .u16 b_1), (.int .u8 b_2), (.int .u16 b_3), (.int .u64 b_4), (.int .u64 b_5), (.bool b_6), (.slice (b_7) b_7l b_7c)]) ∧
      x6 w16 (L17)) ∧
    ∀ w33 : World, ∀ L34 : List Nat, (X.LF (w).heap.size w33 L34) →
    (x6 w33 L34) →
    if (!b_6) = true then
     R (.returned (.slice none 0 0)) w33
    else
     ((none : Option Nat) = none) ∧
     (World.there w33 (a.block) ((a.off) + 9) 1) ∧
     (¬ ((a.block) ∈ L34)) ∧
     ∃ n35 : Int, (World.cell? (w33.setCells (a.block) ((a.off) + 9) [(.bool true)]) (a.add 6) = some (.int .u64 n35)) ∧
     (¬ ((a.block) ∈ L34)) ∧
     if ((decide (b_4 < n35)) == false) = true then
      ∃ n37 : Int, (World.cell? (w33.setCells (a.block) ((a.off) + 9) [(.bool true)]) (a.add 6) = some (.int .u64 n37)) ∧
      (¬ ((a.block) ∈ L34)) ∧
      if (false || decide ((IntKind.wrap .u64 (b_4 - n37)) ≥ 8)) = true then
       ∀ w98 : World, (X.Hid (L34) (w33.setCells (a.block) ((a.off) + 9) [(.bool true)]) w98) →
       R (.returned (.slice none 0 0)) w98
      else
       ∃ n38 : Int, (World.cell? (w33.setCells (a.block) ((a.off) + 9) [(.bool true)]) (a.add 6) = some (.int .u64 n38)) ∧
       (¬ ((a.block) ∈ L34)) ∧
       if (b_4 != n38) = true then
        ∀ w66 : World, ∀ L67 : List Nat, (X.Hid (L34) (w33.setCells (a.block) ((a.off) + 9) [(.bool true)]) w66) →
        (X.NewL (w).heap.size (L34) (w33.setCells (a.block) ((a.off) + 9) [(.bool true)]) w66 L67) →
        ∃ x68 : Int → World → List Nat → Prop, ∃ x69 : Int → World → Nat, (x68 0 w66 (L67)) ∧
        ∀ n70 : Int, ∀ w71 : World, ∀ L72 : List Nat, (X.LF (w).heap.size w71 L72) →
        (x68 n70 w71 L72) →
        ∃ q73 : Option Addr, ∃ k74 : Nat, ∃ k75 : Nat, (World.cell? w71 (a.add 8) = some (.slice (q73) k74 k75)) ∧
        (¬ ((a.block) ∈ L72)) ∧
        if (decide (n70 < ((k74 : Nat) : Int))) = true then
         ∃ q90 : Option Addr, ∃ k91 : Nat, ∃ k92 : Nat, (World.cell? w71 (a.add 8) = some (.slice (q90) k91 k92)) ∧
         (¬ ((a.block) ∈ L72)) ∧
         ((0 : Int) ≤ n70) ∧
         (n70 < ((k91 : Nat) : Int)) ∧
         X.onSome (q90) fun p93 =>
         ∃ n94 : Int, (World.cell? w71 ((p93.add ((n70).toNat * 2)).add 0) = some (.int .u64 n94)) ∧
         (¬ ((((p93.add (n70.toNat * 2)).add 0).block) ∈ L72)) ∧
         if (n94 == b_4) = true then
          ∀ w97 : World, (X.Hid (L72) w71 w97) →
          R (.returned (.slice none 0 0)) w97
         else
          ∀ w95 : World, ∀ L96 : List Nat, (X.Hid (L72) w71 w95) →
          (X.NewL (w).heap.size (L72) w71 w95 L96) →
          (([(.int .u8 b_0), (.int .u16 b_1), (.int .u8 b_2), (.int .u16 b_3), (.int .u64 b_4), (.int .u64 b_5), (.bool b_6), (.slice (b_7) b_7l b_7c)] : List Value) = [(.int .u8 b_0), (.int .u16 b_1), (.int .u8 b_2), (.int .u16 b_3), (.int .u64 b_4), (.int .u64 b_5), (.bool b_6), (.slice (b_7) b_7l b_7c)]) ∧
          (x68 (IntKind.wrap .i64 (n70 + 1)) w95 (L96)) ∧
          Nat.le ((x69 (IntKind.wrap .i64 (n70 + 1)) w95) + 1) (x69 n70 w71)
        else
         ∃ x76 : X.Facts, (X.FactsW x76 w71 (L72)) ∧
         ∃ q77 : Option Addr, ∃ k78 : Nat, ∃ k79 : Nat, (((a.add 8), [(.slice (q77) k78 k79)]) ∈ x76) ∧
         ∀ w80 : World, ∀ L81 : List Nat, (X.Hid (L72) w71 w80) →
         (X.NewL (w).heap.size (L72) w71 w80 L81) →
         (X.FactsW x76 (w80.alloc (.cells #[] 5)) (L81)) ∧
         ∃ q82 : Option Addr, ∃ k83 : Nat, ∃ k84 : Nat, ∃ w85 : World, (Sem.run Try.prog (Go.Builtin.append_ #[35, 35] 35 #[(.slice (some ⟨(w80).heap.size, 0, none⟩) 0 0), (.slice (b_7) b_7l b_7c)]) (w80.alloc (.cells #[] 5)) = .ok (.slice (q82) k83 k84) w85) ∧
         (X.Kept L81 (w80.alloc (.cells #[] 5)) w85) ∧
         (X.FactsW x76 w85 (L81)) ∧
         (X.FactsW x76 (w85.alloc (.cells #[(.int .u64 b_4), (.slice (q82) k83 k84)] 96)) (L81)) ∧
         ∃ q86 : Option Addr, ∃ k87 : Nat, ∃ k88 : Nat, ∃ w89 : World, (Sem.run Try.prog (Go.Builtin.append_ #[58, 58] 58 #[(.slice (q77) k78 k79), (.slice (some ⟨(w85).heap.size, 0, none⟩) 1 1)]) (w85.alloc (.cells #[(.int .u64 b_4), (.slice (q82) k83 k84)] 96)) = .ok (.slice (q86) k87 k88) w89) ∧
         (X.Kept L81 (w85.alloc (.cells #[(.int .u64 b_4), (.slice (q82) k83 k84)] 96)) w89) ∧
         (X.FactsW x76 w89 (L81)) ∧
         ((none : Option Nat) = none) ∧
         (World.there w89 (a.block) ((a.off) + 8) 1) ∧
         (¬ ((a.block) ∈ L81)) ∧
         R (.returned (.slice none 0 0)) (w89.setCells (a.block) ((a.off) + 8) [(.slice (q86) k87 k88)])
       else
        ∀ w39 : World, ∀ L40 : List Nat, (X.Hid (L34) (w33.setCells (a.block) ((a.off) + 9) [(.bool true)]) w39) →
        (X.NewL (w).heap.size (L34) (w33.setCells (a.block) ((a.off) + 9) [(.bool true)]) w39 L40) →
        ∃ q41 : Option Addr, ∃ k42 : Nat, ∃ k43 : Nat, ∃ w44 : World, (Sem.run Try.prog (Go.Builtin.append_ #[35, 35] 35 #[(.slice (some ⟨(w39).heap.size, 0, none⟩) 0 0), (.slice (b_7) b_7l b_7c)]) (w39.alloc (.cells #[] 5)) = .ok (.slice (q41) k42 k43) w44) ∧
        (X.Kept L40 (w39.alloc (.cells #[] 5)) w44) ∧
        ∃ n45 : Int, (World.cell? (w44.alloc (.cells #[(.slice (q41) k42 k43)] 35)) (a.add 6) = some (.int .u64 n45)) ∧
        (¬ ((a.block) ∈ L40)) ∧
        ((none : Option Nat) = none) ∧
        (World.there (w44.alloc (.cells #[(.slice (q41) k42 k43)] 35)) (a.block) ((a.off) + 6) 1) ∧
        (¬ ((a.block) ∈ L40)) ∧
        ∃ x46 : Option Addr → Nat → Nat → Int → World → List Nat → Prop, ∃ x47 : Option Addr → Nat → Nat → Int → World → Nat, (x46 (some (Addr.mk w44.heap.size 0 none)) 1 1 0 ((w44.alloc (.cells #[(.slice (q41) k42 k43)] 35)).setCells (a.block) ((a.off) + 6) [(.int .u64 (IntKind.wrap .u64 (n45 + 1)))]) (L40)) ∧
        ∀ q48 : Option Addr, ∀ k49 : Nat, ∀ k50 : Nat, ∀ n51 : Int, ∀ w52 : World, ∀ L53 : List Nat, (X.LF (w).heap.size w52 L53) →
        (x46 q48 k49 k50 n51 w52 L53) →
        if (decide (n51 < 8)) = true then
         ∃ n54 : Int, (World.cell? w52 (a.add 6) = some (.int .u64 n54)) ∧
         (¬ ((a.block) ∈ L53)) ∧
         X.CallX Try.prog 36 #[(.pointer (some a)), (.int .u64 n54)] w52 fun e55 w56 =>
          ∃ q57 : Option Addr, ∃ k58 : Nat, ∃ k59 : Nat, ∃ b60 : Bool, (e55 = .returned (.tuple #[(.slice (q57) k58 k59), (.bool b60)])) ∧
          (X.Kept L53 w52 w56) ∧
          if (!b60) = true then
           R (.returned (.slice (q48) k49 k50)) w56
          else
           ∃ q61 : Option Addr, ∃ k62 : Nat, ∃ k63 : Nat, ∃ w64 : World, (Sem.run Try.prog (Go.Builtin.append_ #[50, 50] 50 #[(.slice (q48) k49 k50), (.slice (some ⟨(w56).heap.size, 0, none⟩) 1 1)]) (w56.alloc (.cells #[(.slice (q57) k58 k59)] 35)) = .ok (.slice (q61) k62 k63) w64) ∧
           (X.Kept L53 (w56.alloc (.cells #[(.slice (q57) k58 k59)] 35)) w64) ∧
           ∃ n65 : Int, (World.cell? w64 (a.add 6) = some (.int .u64 n65)) ∧
           (¬ ((a.block) ∈ L53)) ∧
           ((none : Option Nat) = none) ∧
           (World.there w64 (a.block) ((a.off) + 6) 1) ∧
           (¬ ((a.block) ∈ L53)) ∧
           (([(.int .u8 b_0), (.int .u16 b_1), (.int .u8 b_2), (.int .u16 b_3), (.int .u64 b_4), (.int .u64 b_5), (.bool b_6), (.slice (b_7) b_7l b_7c)] : List Value) = [(.int .u8 b_0), (.int .u16 b_1), (.int .u8 b_2), (.int .u16 b_3), (.int .u64 b_4), (.int .u64 b_5), (.bool b_6), (.slice (b_7) b_7l b_7c)]) ∧
           (x46 q61 k62 k63 (IntKind.wrap .i64 (n51 + 1)) (w64.setCells (a.block) ((a.off) + 6) [(.int .u64 (IntKind.wrap .u64 (n65 + 1)))]) (L53)) ∧
           Nat.le ((x47 q61 k62 k63 (IntKind.wrap .i64 (n51 + 1)) (w64.setCells (a.block) ((a.off) + 6) [(.int .u64 (IntKind.wrap .u64 (n65 + 1)))])) + 1) (x47 q48 k49 k50 n51 w52)
        else
         R (.returned (.slice (q48) k49 k50)) w52
     else
      ∀ w36 : World, (X.Hid (L34) (w33.setCells (a.block) ((a.off) + 9) [(.bool true)]) w36) →
      R (.returned (.slice none 0 0)) w36
  else
   ∀ w3 : World, (X.Hid [] w w3) →
   R (.returned (.slice none 0 0)) w3) :
    Calls Try.prog 21 #[.pointer (some a), .agg #[.int .u8 b_0, .int .u16 b_1, .int .u8 b_2, .int .u16 b_3, .int .u64 b_4, .int .u64 b_5, .bool b_6, .slice b_7 b_7l b_7c]] w R :=
  X.calls_of { isLoc := [3], sym := [], loops := [(3, .inv [] [] true), (12, .inv [(5, .int .i64)] [] true), (21, .inv [(6, .slice), (7, .int .i64)] [] true)], joins := [(0, ([], []))] } Try.func21 (by kernel_rfl) h
abbrev fn_gemotref10_late : Nat := 33
theorem x_gemotref10_late (a b c : Int) (w : World) (R : Ending → World → Prop) (h :
  R (.returned (.bool (decide (b ≥ a) && decide ((IntKind.wrap .u64 ((IntKind.wrap .u64 b) - (IntKind.wrap .u64 a))) ≥ (IntKind.wrap .u64 c))))) w) :
    Calls Try.prog 33 #[.int .i64 a, .int .i64 b, .int .i64 c] w R :=
  X.calls_of { isLoc := [], sym := [], loops := [], joins := [] } Try.func33 (by kernel_rfl) h
abbrev fn_gemotref10_Link_kept : Nat := 36
theorem x_gemotref10_Link_kept (a : Addr) (b : Int) (w : World) (R : Ending → World → Prop) (h :
  ∃ x1 : Int → World → List Nat → Prop, ∃ x2 : Int → World → Nat, (x1 0 w []) ∧
  ∀ n3 : Int, ∀ w4 : World, ∀ L5 : List Nat, (X.LF (w).heap.size w4 L5) →
  (x1 n3 w4 L5) →
  ∃ q6 : Option Addr, ∃ k7 : Nat, ∃ k8 : Nat, (World.cell? w4 (a.add 8) = some (.slice (q6) k7 k8)) ∧
  if (decide (n3 < ((k7 : Nat) : Int))) = true then
   ∃ q9 : Option Addr, ∃ k10 : Nat, ∃ k11 : Nat, (World.cell? w4 (a.add 8) = some (.slice (q9) k10 k11)) ∧
   ((0 : Int) ≤ n3) ∧
   (n3 < ((k10 : Nat) : Int)) ∧
   X.onSome (q9) fun p12 =>
   ∃ n13 : Int, (World.cell? w4 ((p12.add ((n3).toNat * 2)).add 0) = some (.int .u64 n13)) ∧
   if (n13 == b) = true then
    ∃ q14 : Option Addr, ∃ k15 : Nat, ∃ k16 : Nat, (World.cell? w4 (a.add 8) = some (.slice (q14) k15 k16)) ∧
    ((0 : Int) ≤ n3) ∧
    (n3 < ((k15 : Nat) : Int)) ∧
    X.onSome (q14) fun p17 =>
    ∃ q18 : Option Addr, ∃ k19 : Nat, ∃ k20 : Nat, (World.cell? w4 ((p17.add ((n3).toNat * 2)).add 1) = some (.slice (q18) k19 k20)) ∧
    ∃ x21 : X.Facts, (X.FactsW x21 w4 []) ∧
    ∃ q22 : Option Addr, ∃ k23 : Nat, ∃ k24 : Nat, (((a.add 8), [(.slice (q22) k23 k24)]) ∈ x21) ∧
    ((0 : Int) ≤ n3) ∧
    (n3 ≤ ((k24 : Nat) : Int)) ∧
    ∃ q25 : Option Addr, ∃ k26 : Nat, ∃ k27 : Nat, (((a.add 8), [(.slice (q25) k26 k27)]) ∈ x21) ∧
    ((0 : Int) ≤ (IntKind.wrap .i64 (n3 + 1))) ∧
    ((IntKind.wrap .i64 (n3 + 1)) ≤ ((k26 : Nat) : Int)) ∧
    ∀ w28 : World, (X.Hid [] w4 w28) →
    (X.FactsW x21 (w28.alloc (.cells #[] 96)) []) ∧
    ∃ q29 : Option Addr, ∃ k30 : Nat, ∃ k31 : Nat, ∃ w32 : World, (Sem.run Try.prog (Go.Builtin.append_ #[58, 58] 58 #[(.slice (some ⟨(w28).heap.size, 0, none⟩) 0 0), (.slice (X.cutA (q22) k24 0 2) (n3).toNat k24)]) (w28.alloc (.cells #[] 96)) = .ok (.slice (q29) k30 k31) w32) ∧
    (((w28.alloc (.cells #[] 96))).heap.size ≤ (w32).heap.size) ∧
    (X.FactsW x21 w32 []) ∧
    ∃ q33 : Option Addr, ∃ k34 : Nat, ∃ k35 : Nat, ∃ w36 : World, (Sem.run Try.prog (Go.Builtin.append_ #[58, 58] 58 #[(.slice (q29) k30 k31), (.slice (X.cutA (q25) k27 ((IntKind.wrap .i64 (n3 + 1))).toNat 2) (k26 - ((IntKind.wrap .i64 (n3 + 1))).toNat) (k27 - ((IntKind.wrap .i64 (n3 + 1))).toNat))]) w32 = .ok (.slice (q33) k34 k35) w36) ∧
    ((w32).heap.size ≤ (w36).heap.size) ∧
    (X.FactsW x21 w36 []) ∧
    ((none : Option Nat) = none) ∧
    (World.there w36 (a.block) ((a.off) + 8) 1) ∧
    R (.returned (.tuple #[(.slice (q18) k19 k20), (.bool true)])) (w36.setCells (a.block) ((a.off) + 8) [(.slice (q33) k34 k35)])
   else
    (x1 (IntKind.wrap .i64 (n3 + 1)) w4 []) ∧
    Nat.le ((x2 (IntKind.wrap .i64 (n3 + 1)) w4) + 1) (x2 n3 w4)
  else
   R (.returned (.tuple #[(.slice none 0 0), (.bool false)])) w4) :
    Calls Try.prog 36 #[.pointer (some a), .int .u64 b] w R :=
  X.calls_of { isLoc := [], sym := [], loops := [(2, .inv [(6, .int .i64)] [] true)], joins := [] } Try.func36 (by kernel_rfl) h
end Go.Proofs
