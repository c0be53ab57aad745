import Derived.Test.YtkkhkkfnbohnaaaXFn
import Derived.Test.YtkkhkkfnbohnaaaProg
/- The verification conditions of this seat's functions, as the engine has them: printed by a program of the bench; checked by the kernel. -/
set_option maxRecDepth 100000
set_option linter.unusedVariables false
namespace Go.Proofs
open Go
abbrev fn_nil_Pnone : Nat := 61
theorem x_nil_Pnone  (w : World) (R : Ending → World → Prop) (h :
  R (.returned (.bool true)) w) :
    Calls Try.prog 61 #[.pointer none] w R :=
  X.calls_of { isLoc := [], sym := [], loops := [], joins := [] } Try.func61 (by kernel_rfl) h
abbrev fn_nil_count : Nat := 55
theorem x_nil_count (b_0 b_1 c : Int) (w : World) (R : Ending → World → Prop) (h :
  ∃ x1 : X.Facts, (X.FactsW x1 w []) ∧
  ∀ w2 : World, ∀ L3 : List Nat, (X.Hid [] w w2) →
  (X.NewL (w).heap.size [] w w2 L3) →
  X.CallX Try.prog 61 #[(.pointer none)] w2 fun e4 w5 =>
   ∃ b6 : Bool, (e4 = .returned (.bool b6)) ∧
   (X.Kept L3 w2 w5) ∧
   (X.FactsW x1 w5 (L3)) ∧
   ∃ x7 : X.Facts, (X.FactsW x7 w5 (L3)) ∧
   (∀ x8 : Addr × List Value, (x8 ∈ x1) →
    x8 ∈ x7) ∧
   if (b6 == false) = true then
    False
   else
    ∃ x9 : X.Facts, (X.FactsW x9 w5 (L3)) ∧
    (∀ x10 : Addr × List Value, (x10 ∈ x7) →
     x10 ∈ x9) ∧
    ∃ x11 : X.Facts, (X.FactsW x11 w5 (L3)) ∧
    (∀ x12 : Addr × List Value, (x12 ∈ x9) →
     x12 ∈ x11) ∧
    R (.returned (.bool false)) w5) :
    Calls Try.prog 55 #[.pointer none, .agg #[.int .u8 b_0, .int .u16 b_1], .int .i64 c] w R :=
  X.calls_of { isLoc := [4], sym := [], loops := [], joins := [] } Try.func55 (by kernel_rfl) h
abbrev fn_nil_Promise : Nat := 26
theorem x_nil_Promise (b_0 b_1 : Int) (c : Option Addr) (cl cc : Nat) (d : Int) (e_0 : Option Addr) (e_0l e_0c : Nat) (e_1 : Option Addr) (e_1l e_1c : Nat) (f : Bool) (w : World) (R : Ending → World → Prop) (h :
  ∀ w1 : World, ∀ L2 : List Nat, (X.Hid [] w w1) →
  (X.NewL (w).heap.size [] w w1 L2) →
  X.CallX Try.prog 55 #[(.pointer none), (.agg #[(.int .u8 b_0), (.int .u16 b_1)]), (.int .i64 0)] w1 fun e3 w4 =>
   ∃ b5 : Bool, (e3 = .returned (.bool b5)) ∧
   (X.Kept L2 w1 w4) ∧
   if (!b5) = true then
    R (.returned (.tuple #[])) w4
   else
    if (f == true) = true then
     False
    else
     False) :
    Calls Try.prog 26 #[.pointer none, .agg #[.int .u8 b_0, .int .u16 b_1], .slice c cl cc, .int .u64 d, .agg #[.slice e_0 e_0l e_0c, .slice e_1 e_1l e_1c], .bool f] w R :=
  X.calls_of { isLoc := [7, 10], sym := [], loops := [], joins := [] } Try.func26 (by kernel_rfl) h
abbrev fn_nil_Ready : Nat := 36
theorem x_nil_Ready  (w : World) (R : Ending → World → Prop) (h :
  X.CallX Try.prog 61 #[(.pointer none)] w fun e1 w2 =>
   ∃ b3 : Bool, (e1 = .returned (.bool b3)) ∧
   ((w).heap.size ≤ (w2).heap.size) ∧
   if ((!b3) == true) = true then
    False
   else
    R (.returned (.bool false)) w2) :
    Calls Try.prog 36 #[.pointer none] w R :=
  X.calls_of { isLoc := [], sym := [], loops := [], joins := [] } Try.func36 (by kernel_rfl) h
abbrev fn_nil_Propose : Nat := 30
theorem x_nil_Propose (b : Option Addr) (bl bc : Nat) (w : World) (R : Ending → World → Prop) (h :
  ∀ w1 : World, ∀ L2 : List Nat, (X.Hid [] w w1) →
  (X.NewL (w).heap.size [] w w1 L2) →
  X.CallX Try.prog 36 #[(.pointer none)] w1 fun e3 w4 =>
   ∃ b5 : Bool, (e3 = .returned (.bool b5)) ∧
   (X.Kept L2 w1 w4) ∧
   if (!b5) = true then
    ∀ w6 : World, (X.Hid (L2) w4 w6) →
    R (.returned (.tuple #[(.agg #[(.slice none 0 0), (.slice none 0 0)]), (.bool false)])) w6
   else
    False) :
    Calls Try.prog 30 #[.pointer none, .slice b bl bc] w R :=
  X.calls_of { isLoc := [4], sym := [], loops := [], joins := [] } Try.func30 (by kernel_rfl) h
abbrev fn_nil_Accepted : Nat := 33
theorem x_nil_Accepted (b_0 b_1 : Int) (w : World) (R : Ending → World → Prop) (h :
  ∀ w1 : World, ∀ L2 : List Nat, (X.Hid [] w w1) →
  (X.NewL (w).heap.size [] w w1 L2) →
  X.CallX Try.prog 55 #[(.pointer none), (.agg #[(.int .u8 b_0), (.int .u16 b_1)]), (.int .i64 1)] w1 fun e3 w4 =>
   ∃ b5 : Bool, (e3 = .returned (.bool b5)) ∧
   (X.Kept L2 w1 w4) ∧
   if (b5 == true) = true then
    X.CallX Try.prog 59 #[(.pointer none)] w4 fun e9 w10 =>
     ∃ b11 : Bool, (e9 = .returned (.bool b11)) ∧
     (X.Kept L2 w4 w10) ∧
     if (true && b11) = true then
      False
     else
      X.CallX Try.prog 35 #[(.pointer none)] w10 fun e12 w13 =>
       ∃ n14 : Int, (e12 = .returned (.int .i64 n14)) ∧
       (X.Kept L2 w10 w13) ∧
       R (.returned (.bool (n14 == 2))) w13
   else
    X.CallX Try.prog 35 #[(.pointer none)] w4 fun e6 w7 =>
     ∃ n8 : Int, (e6 = .returned (.int .i64 n8)) ∧
     (X.Kept L2 w4 w7) ∧
     R (.returned (.bool (n8 == 2))) w7) :
    Calls Try.prog 33 #[.pointer none, .agg #[.int .u8 b_0, .int .u16 b_1]] w R :=
  X.calls_of { isLoc := [3], sym := [], loops := [], joins := [] } Try.func33 (by kernel_rfl) h
abbrev fn_nil_Phase : Nat := 35
theorem x_nil_Phase  (w : World) (R : Ending → World → Prop) (h :
  X.CallX Try.prog 61 #[(.pointer none)] w fun e1 w2 =>
   ∃ b3 : Bool, (e1 = .returned (.bool b3)) ∧
   ((w).heap.size ≤ (w2).heap.size) ∧
   if b3 = true then
    R (.returned (.int .i64 0)) w2
   else
    False) :
    Calls Try.prog 35 #[.pointer none] w R :=
  X.calls_of { isLoc := [], sym := [], loops := [], joins := [] } Try.func35 (by kernel_rfl) h
abbrev fn_nil_PBallot : Nat := 38
theorem x_nil_PBallot  (w : World) (R : Ending → World → Prop) (h :
  X.CallX Try.prog 61 #[(.pointer none)] w fun e1 w2 =>
   ∃ b3 : Bool, (e1 = .returned (.bool b3)) ∧
   ((w).heap.size ≤ (w2).heap.size) ∧
   if b3 = true then
    R (.returned (.int .u64 0)) w2
   else
    False) :
    Calls Try.prog 38 #[.pointer none] w R :=
  X.calls_of { isLoc := [], sym := [], loops := [], joins := [] } Try.func38 (by kernel_rfl) h
abbrev fn_nil_Value : Nat := 39
theorem x_nil_Value  (w : World) (R : Ending → World → Prop) (h :
  ∀ w1 : World, ∀ L2 : List Nat, (X.Hid [] w w1) →
  (X.NewL (w).heap.size [] w w1 L2) →
  X.CallX Try.prog 61 #[(.pointer none)] w1 fun e3 w4 =>
   ∃ b5 : Bool, (e3 = .returned (.bool b5)) ∧
   (X.Kept L2 w1 w4) ∧
   if b5 = true then
    ∀ w6 : World, (X.Hid (L2) w4 w6) →
    R (.returned (.agg #[(.slice none 0 0), (.slice none 0 0)])) w6
   else
    False) :
    Calls Try.prog 39 #[.pointer none] w R :=
  X.calls_of { isLoc := [2], sym := [], loops := [], joins := [] } Try.func39 (by kernel_rfl) h
abbrev fn_nil_Missing : Nat := 42
theorem x_nil_Missing  (w : World) (R : Ending → World → Prop) (h :
  ∃ q1 : Option Addr, (World.cell? (w.alloc (.cells #[(.pointer none)] 59)) ⟨(w).heap.size, 0, none⟩ = some (.pointer (q1))) ∧
  X.CallX Try.prog 61 #[(.pointer (q1))] (w.alloc (.cells #[(.pointer none)] 59)) fun e2 w3 =>
   ∃ b4 : Bool, (e2 = .returned (.bool b4)) ∧
   (((w.alloc (.cells #[(.pointer none)] 59))).heap.size ≤ (w3).heap.size) ∧
   if (b4 == false) = true then
    ∃ q5 : Option Addr, (World.cell? w3 ⟨(w).heap.size, 0, none⟩ = some (.pointer (q5))) ∧
    X.onSome (q5) fun p6 =>
    ∃ n7 : Int, (World.cell? w3 (p6.add 4) = some (.int .i64 n7)) ∧
    if (false || (n7 == 2)) = true then
     R (.returned (.slice none 0 0)) w3
    else
     ∃ q8 : Option Addr, (World.cell? w3 ⟨(w).heap.size, 0, none⟩ = some (.pointer (q8))) ∧
     X.onSome (q8) fun p9 =>
     ∃ q10 : Option Addr, ∃ k11 : Nat, ∃ k12 : Nat, (World.cell? w3 ((p9.add 0).add 2) = some (.slice (q10) k11 k12)) ∧
     X.CallX Try.prog 64 #[(.slice (q10) k11 k12)] w3 fun e13 w14 =>
      ∃ q15 : Option Addr, ∃ k16 : Nat, ∃ k17 : Nat, (e13 = .returned (.slice (q15) k16 k17)) ∧
      ((w3).heap.size ≤ (w14).heap.size) ∧
      X.CallX Try.prog 63 #[(.slice (q15) k16 k17), (.func (.func 65) #[] #[(.pointer (some ⟨(w).heap.size, 0, none⟩))])] w14 fun e18 w19 =>
       ∃ q20 : Option Addr, ∃ k21 : Nat, ∃ k22 : Nat, (e18 = .returned (.slice (q20) k21 k22)) ∧
       ((w14).heap.size ≤ (w19).heap.size) ∧
       R (.returned (.slice (q20) k21 k22)) w19
   else
    R (.returned (.slice none 0 0)) w3) :
    Calls Try.prog 42 #[.pointer none] w R :=
  X.calls_of { isLoc := [], sym := [], loops := [], joins := [] } Try.func42 (by kernel_rfl) h
abbrev fn_nil_Anone : Nat := 48
theorem x_nil_Anone  (w : World) (R : Ending → World → Prop) (h :
  R (.returned (.bool true)) w) :
    Calls Try.prog 48 #[.pointer none] w R :=
  X.calls_of { isLoc := [], sym := [], loops := [], joins := [] } Try.func48 (by kernel_rfl) h
abbrev fn_nil_Prepare : Nat := 11
theorem x_nil_Prepare (b : Int) (w : World) (R : Ending → World → Prop) (h :
  X.CallX Try.prog 48 #[(.pointer none)] w fun e1 w2 =>
   ∃ b3 : Bool, (e1 = .returned (.bool b3)) ∧
   ((w).heap.size ≤ (w2).heap.size) ∧
   if ((b3 || (b == 0)) == false) = true then
    False
   else
    R (.returned (.bool false)) w2) :
    Calls Try.prog 11 #[.pointer none, .int .u64 b] w R :=
  X.calls_of { isLoc := [], sym := [], loops := [], joins := [] } Try.func11 (by kernel_rfl) h
abbrev fn_nil_Accept : Nat := 13
theorem x_nil_Accept (b : Int) (c_0 : Option Addr) (c_0l c_0c : Nat) (c_1 : Option Addr) (c_1l c_1c : Nat) (w : World) (R : Ending → World → Prop) (h :
  ∀ w1 : World, ∀ L2 : List Nat, (X.Hid [] w w1) →
  (X.NewL (w).heap.size [] w w1 L2) →
  X.CallX Try.prog 11 #[(.pointer none), (.int .u64 b)] w1 fun e3 w4 =>
   ∃ b5 : Bool, (e3 = .returned (.bool b5)) ∧
   (X.Kept L2 w1 w4) ∧
   if b5 = true then
    X.CallX Try.prog 49 #[(.agg #[(.slice (c_0) c_0l c_0c), (.slice (c_1) c_1l c_1c)])] w4 fun e6 w7 =>
     ∃ q8 : Option Addr, ∃ k9 : Nat, ∃ k10 : Nat, ∃ q11 : Option Addr, ∃ k12 : Nat, ∃ k13 : Nat, (e6 = .returned (.agg #[(.slice (q8) k9 k10), (.slice (q11) k12 k13)])) ∧
     (X.Kept L2 w4 w7) ∧
     False
   else
    R (.returned (.bool b5)) w4) :
    Calls Try.prog 13 #[.pointer none, .int .u64 b, .agg #[.slice c_0 c_0l c_0c, .slice c_1 c_1l c_1c]] w R :=
  X.calls_of { isLoc := [5], sym := [], loops := [], joins := [] } Try.func13 (by kernel_rfl) h
abbrev fn_nil_Held : Nat := 16
theorem x_nil_Held  (w : World) (R : Ending → World → Prop) (h :
  ∀ w1 : World, ∀ L2 : List Nat, (X.Hid [] w w1) →
  (X.NewL (w).heap.size [] w w1 L2) →
  X.CallX Try.prog 48 #[(.pointer none)] w1 fun e3 w4 =>
   ∃ b5 : Bool, (e3 = .returned (.bool b5)) ∧
   (X.Kept L2 w1 w4) ∧
   if (b5 == false) = true then
    False
   else
    ∀ w6 : World, (X.Hid (L2) w4 w6) →
    R (.returned (.tuple #[(.int .u64 0), (.agg #[(.slice none 0 0), (.slice none 0 0)]), (.bool false)])) w6) :
    Calls Try.prog 16 #[.pointer none] w R :=
  X.calls_of { isLoc := [3], sym := [], loops := [], joins := [], stored := [(3, [3])] } Try.func16 (by kernel_rfl) h
abbrev fn_nil_Promised : Nat := 17
theorem x_nil_Promised  (w : World) (R : Ending → World → Prop) (h :
  X.CallX Try.prog 48 #[(.pointer none)] w fun e1 w2 =>
   ∃ b3 : Bool, (e1 = .returned (.bool b3)) ∧
   ((w).heap.size ≤ (w2).heap.size) ∧
   if b3 = true then
    R (.returned (.int .u64 0)) w2
   else
    False) :
    Calls Try.prog 17 #[.pointer none] w R :=
  X.calls_of { isLoc := [], sym := [], loops := [], joins := [] } Try.func17 (by kernel_rfl) h
abbrev fn_SameV : Nat := 45
theorem x_SameV (a_0 : Option Addr) (a_0l a_0c : Nat) (a_1 : Option Addr) (a_1l a_1c : Nat) (b_0 : Option Addr) (b_0l b_0c : Nat) (b_1 : Option Addr) (b_1l b_1c : Nat) (w : World) (R : Ending → World → Prop) (h :
  ∀ w1 : World, ∀ L2 : List Nat, (X.Hid [] w w1) →
  (X.NewL (w).heap.size [] w w1 L2) →
  X.CallX Try.prog 68 #[(.slice (a_0) a_0l a_0c), (.slice (b_0) b_0l b_0c)] w1 fun e3 w4 =>
   ∃ b5 : Bool, (e3 = .returned (.bool b5)) ∧
   (X.Kept L2 w1 w4) ∧
   if (b5 == true) = true then
    X.CallX Try.prog 69 #[(.slice (a_1) a_1l a_1c), (.slice (b_1) b_1l b_1c)] w4 fun e6 w7 =>
     ∃ b8 : Bool, (e6 = .returned (.bool b8)) ∧
     (X.Kept L2 w4 w7) ∧
     R (.returned (.bool (true && b8))) w7
   else
    R (.returned (.bool false)) w4) :
    Calls Try.prog 45 #[.agg #[.slice a_0 a_0l a_0c, .slice a_1 a_1l a_1c], .agg #[.slice b_0 b_0l b_0c, .slice b_1 b_1l b_1c]] w R :=
  X.calls_of { isLoc := [2, 3], sym := [], loops := [], joins := [] } Try.func45 (by kernel_rfl) h
abbrev fn_eSameAll : Nat := 69
theorem x_eSameAll (a : Option Addr) (al ac : Nat) (b : Option Addr) (bl bc : Nat) (w : World) (R : Ending → World → Prop) (h :
  X.CallX Try.prog 84 #[(.slice (a) al ac), (.slice (b) bl bc), (.func (.func 85) #[] #[])] w fun e1 w2 =>
   ∃ b3 : Bool, (e1 = .returned (.bool b3)) ∧
   ((w).heap.size ≤ (w2).heap.size) ∧
   R (.returned (.bool b3)) w2) :
    Calls Try.prog 69 #[.slice a al ac, .slice b bl bc] w R :=
  X.calls_of { isLoc := [], sym := [], loops := [], joins := [] } Try.func69 (by kernel_rfl) h
abbrev fn_EqualFuncE : Nat := 84
theorem x_EqualFuncE (a : Option Addr) (al ac : Nat) (b : Option Addr) (bl bc : Nat) (w : World) (R : Ending → World → Prop) (h :
  if (((al : Nat) : Int) != ((bl : Nat) : Int)) = true then
   R (.returned (.bool false)) w
  else
   ∃ x1 : Int → World → List Nat → Prop, ∃ x2 : Int → World → Nat, (x1 0 w []) ∧
   ∀ n3 : Int, ∀ w4 : World, ∀ L5 : List Nat, (X.LF (w).heap.size w4 L5) →
   (x1 n3 w4 L5) →
   if (decide (n3 < ((al : Nat) : Int))) = true then
    ((0 : Int) ≤ n3) ∧
    (n3 < ((al : Nat) : Int)) ∧
    X.onSome (a) fun p6 =>
    ∃ n7 : Int, ∃ n8 : Int, ∃ n9 : Int, ∃ n10 : Int, ∃ n11 : Int, ∃ n12 : Int, ∃ n13 : Int, ∃ n14 : Int, ∃ n15 : Int, ∃ n16 : Int, ∃ n17 : Int, ∃ n18 : Int, ∃ q19 : Option Addr, ∃ k20 : Nat, ∃ k21 : Nat, ∃ n22 : Int, ∃ s23 : ByteArray, ∃ q24 : Option Addr, ∃ k25 : Nat, ∃ k26 : Nat, ∃ n27 : Int, ∃ n28 : Int, (X.Cells w4 (p6.add ((n3).toNat * 18)) [(.int .u8 n7), (.int .u8 n8), (.int .u16 n9), (.int .u32 n10), (.int .u8 n11), (.int .u8 n12), (.int .u8 n13), (.int .u8 n14), (.int .u8 n15), (.int .u8 n16), (.int .u8 n17), (.int .u32 n18), (.slice (q19) k20 k21), (.int .u8 n22), (.string s23), (.slice (q24) k25 k26), (.int .u8 n27), (.int .u16 n28)]) ∧
    ((0 : Int) ≤ n3) ∧
    (n3 < ((bl : Nat) : Int)) ∧
    X.onSome (b) fun p29 =>
    ∃ n30 : Int, ∃ n31 : Int, ∃ n32 : Int, ∃ n33 : Int, ∃ n34 : Int, ∃ n35 : Int, ∃ n36 : Int, ∃ n37 : Int, ∃ n38 : Int, ∃ n39 : Int, ∃ n40 : Int, ∃ n41 : Int, ∃ q42 : Option Addr, ∃ k43 : Nat, ∃ k44 : Nat, ∃ n45 : Int, ∃ s46 : ByteArray, ∃ q47 : Option Addr, ∃ k48 : Nat, ∃ k49 : Nat, ∃ n50 : Int, ∃ n51 : Int, (X.Cells w4 (p29.add ((n3).toNat * 18)) [(.int .u8 n30), (.int .u8 n31), (.int .u16 n32), (.int .u32 n33), (.int .u8 n34), (.int .u8 n35), (.int .u8 n36), (.int .u8 n37), (.int .u8 n38), (.int .u8 n39), (.int .u8 n40), (.int .u32 n41), (.slice (q42) k43 k44), (.int .u8 n45), (.string s46), (.slice (q47) k48 k49), (.int .u8 n50), (.int .u16 n51)]) ∧
    ∀ w52 : World, ∀ L53 : List Nat, (X.Hid [] w4 w52) →
    (X.NewL (w).heap.size [] w4 w52 L53) →
    X.CallX Try.prog (OfNat.ofNat 85) #[(.agg #[(.int .u8 n7), (.int .u8 n8), (.int .u16 n9), (.int .u32 n10), (.int .u8 n11), (.int .u8 n12), (.int .u8 n13), (.int .u8 n14), (.int .u8 n15), (.int .u8 n16), (.int .u8 n17), (.int .u32 n18), (.slice (q19) k20 k21), (.int .u8 n22), (.string s23), (.slice (q24) k25 k26), (.int .u8 n27), (.int .u16 n28)]), (.agg #[(.int .u8 n30), (.int .u8 n31), (.int .u16 n32), (.int .u32 n33), (.int .u8 n34), (.int .u8 n35), (.int .u8 n36), (.int .u8 n37), (.int .u8 n38), (.int .u8 n39), (.int .u8 n40), (.int .u32 n41), (.slice (q42) k43 k44), (.int .u8 n45), (.string s46), (.slice (q47) k48 k49), (.int .u8 n50), (.int .u16 n51)])] w52 fun e54 w55 =>
     ∃ b56 : Bool, (e54 = .returned (.bool b56)) ∧
     (X.Kept L53 w52 w55) ∧
     if (!b56) = true then
      R (.returned (.bool false)) w55
     else
      (x1 (IntKind.wrap .i64 (n3 + 1)) w55 (L53)) ∧
      Nat.le ((x2 (IntKind.wrap .i64 (n3 + 1)) w55) + 1) (x2 n3 w4)
   else
    R (.returned (.bool true)) w4) :
    Calls Try.prog 84 #[.slice a al ac, .slice b bl bc, .func (.func 85) #[] #[]] w R :=
  X.calls_of { isLoc := [8, 9], sym := [], loops := [(4, .inv [(17, .int .i64)] [] true)], joins := [] } Try.func84 (by kernel_rfl) h
abbrev fn_PactNil : Nat := 7
theorem x_PactNil (a_0 a_1 a_2 a_3 : Int) (a_4 : Option Addr) (a_4l a_4c : Nat) (a_5 : Option Addr) (a_5l a_5c : Nat) (a_6 : Option Addr) (a_6l a_6c : Nat) (a_7 : Bool) (w : World) (R : Ending → World → Prop) (h :
  ∀ w1 : World, ∀ L2 : List Nat, (X.Hid [] w w1) →
  (X.NewL (w).heap.size [] w w1 L2) →
  X.CallX Try.prog 8 #[(.slice (some ⟨(w1).heap.size, 0, none⟩) 1 1)] (w1.alloc (.cells #[(.int .i64 a_0), (.int .u64 a_1), (.int .u8 a_2), (.int .u16 a_3), (.slice (a_4) a_4l a_4c), (.slice (a_5) a_5l a_5c), (.slice (a_6) a_6l a_6c), (.bool a_7)] 40)) fun e3 w4 =>
   ∃ b5 : Bool, (e3 = .returned (.bool b5)) ∧
   (X.Kept L2 (w1.alloc (.cells #[(.int .i64 a_0), (.int .u64 a_1), (.int .u8 a_2), (.int .u16 a_3), (.slice (a_4) a_4l a_4c), (.slice (a_5) a_5l a_5c), (.slice (a_6) a_6l a_6c), (.bool a_7)] 40)) w4) ∧
   if (!b5) = true then
    X.CallX Try.prog 9 #[] w4 fun e218 w219 =>
     ∃ b220 : Bool, (e218 = .returned (.bool b220)) ∧
     (X.Kept L2 w4 w219) ∧
     R (.returned (.bool b220)) w219
   else
    ∃ x6 : Option Addr → Option Addr → Int → World → List Nat → Prop, ∃ x7 : Option Addr → Option Addr → Int → World → Nat, (x6 (none) (none) 0 w4 (L2)) ∧
    ∀ q8 : Option Addr, ∀ q9 : Option Addr, ∀ n10 : Int, ∀ w11 : World, ∀ L12 : List Nat, (X.LF (w).heap.size w11 L12) →
    (x6 q8 q9 n10 w11 L12) →
    if (decide (n10 < 2)) = true then
     X.CallX Try.prog 16 #[(.pointer (q8))] w11 fun e16 w17 =>
      ∃ n18 : Int, ∃ q19 : Option Addr, ∃ k20 : Nat, ∃ k21 : Nat, ∃ q22 : Option Addr, ∃ k23 : Nat, ∃ k24 : Nat, ∃ b25 : Bool, (e16 = .returned (.tuple #[(.int .u64 n18), (.agg #[(.slice (q19) k20 k21), (.slice (q22) k23 k24)]), (.bool b25)])) ∧
      (X.Kept L12 w11 w17) ∧
      ∃ x26 : X.Facts, (X.FactsW x26 w17 (L12)) ∧
      ∀ w27 : World, ∀ L28 : List Nat, (X.Hid (L12) w17 w27) →
      (X.NewL (w).heap.size (L12) w17 w27 L28) →
      X.CallX Try.prog 27 #[(.agg #[(.int .u8 a_2), (.int .u16 a_3)])] w27 fun e29 w30 =>
       ∃ n31 : Int, ∃ n32 : Int, (e29 = .returned (.agg #[(.int .u8 n31), (.int .u16 n32)])) ∧
       (X.Kept L28 w27 w30) ∧
       (X.FactsW x26 w30 (L28)) ∧
       X.CallX Try.prog 14 #[(.agg #[(.slice (a_5) a_5l a_5c), (.slice (a_6) a_6l a_6c)])] w30 fun e33 w34 =>
        ∃ q35 : Option Addr, ∃ k36 : Nat, ∃ k37 : Nat, ∃ q38 : Option Addr, ∃ k39 : Nat, ∃ k40 : Nat, (e33 = .returned (.agg #[(.slice (q35) k36 k37), (.slice (q38) k39 k40)])) ∧
        (X.Kept L28 w30 w34) ∧
        (X.FactsW x26 w34 (L28)) ∧
        X.CallX Try.prog 26 #[(.pointer (q9)), (.agg #[(.int .u8 n31), (.int .u16 n32)]), (.slice none 0 0), (.int .u64 a_1), (.agg #[(.slice (q35) k36 k37), (.slice (q38) k39 k40)]), (.bool a_7)] w34 fun e41 w42 =>
         (e41 = .returned (.tuple #[])) ∧
         (X.Kept L28 w34 w42) ∧
         (X.FactsW x26 w42 (L28)) ∧
         X.CallX Try.prog 31 #[(.slice (a_5) a_5l a_5c)] w42 fun e43 w44 =>
          ∃ q45 : Option Addr, ∃ k46 : Nat, ∃ k47 : Nat, (e43 = .returned (.slice (q45) k46 k47)) ∧
          (X.Kept L28 w42 w44) ∧
          X.CallX Try.prog 30 #[(.pointer (q9)), (.slice (q45) k46 k47)] w44 fun e48 w49 =>
           ∃ q50 : Option Addr, ∃ k51 : Nat, ∃ k52 : Nat, ∃ q53 : Option Addr, ∃ k54 : Nat, ∃ k55 : Nat, ∃ b56 : Bool, (e48 = .returned (.tuple #[(.agg #[(.slice (q50) k51 k52), (.slice (q53) k54 k55)]), (.bool b56)])) ∧
           (X.Kept L28 w44 w49) ∧
           ∃ x57 : X.Facts, (X.FactsW x57 w49 (L28)) ∧
           ∀ w58 : World, ∀ L59 : List Nat, (X.Hid (L28) w49 w58) →
           (X.NewL (w).heap.size (L28) w49 w58 L59) →
           X.CallX Try.prog 11 #[(.pointer (q8)), (.int .u64 a_1)] w58 fun e60 w61 =>
            ∃ b62 : Bool, (e60 = .returned (.bool b62)) ∧
            (X.Kept L59 w58 w61) ∧
            (X.FactsW x57 w61 (L59)) ∧
            ∃ x63 : X.Facts, (X.FactsW x63 w61 (L59)) ∧
            (∀ x64 : Addr × List Value, (x64 ∈ x57) →
             x64 ∈ x63) ∧
            if (b62 == false) = true then
             X.CallX Try.prog 14 #[(.agg #[(.slice (a_5) a_5l a_5c), (.slice (a_6) a_6l a_6c)])] w61 fun e85 w86 =>
              ∃ q87 : Option Addr, ∃ k88 : Nat, ∃ k89 : Nat, ∃ q90 : Option Addr, ∃ k91 : Nat, ∃ k92 : Nat, (e85 = .returned (.agg #[(.slice (q87) k88 k89), (.slice (q90) k91 k92)])) ∧
              (X.Kept L59 w61 w86) ∧
              (X.FactsW x63 w86 (L59)) ∧
              ∃ x93 : X.Facts, (X.FactsW x93 w86 (L59)) ∧
              (∀ x94 : Addr × List Value, (x94 ∈ x63) →
               x94 ∈ x93) ∧
              X.CallX Try.prog 13 #[(.pointer (q8)), (.int .u64 a_1), (.agg #[(.slice (q87) k88 k89), (.slice (q90) k91 k92)])] w86 fun e95 w96 =>
               ∃ b97 : Bool, (e95 = .returned (.bool b97)) ∧
               (X.Kept L59 w86 w96) ∧
               (X.FactsW x93 w96 (L59)) ∧
               ∃ x98 : X.Facts, (X.FactsW x98 w96 (L59)) ∧
               (∀ x99 : Addr × List Value, (x99 ∈ x93) →
                x99 ∈ x98) ∧
               if ((false || b97) == false) = true then
                X.CallX Try.prog 17 #[(.pointer (q8))] w96 fun e116 w117 =>
                 ∃ n118 : Int, (e116 = .returned (.int .u64 n118)) ∧
                 (X.Kept L59 w96 w117) ∧
                 (X.FactsW x98 w117 (L59)) ∧
                 ∃ x119 : X.Facts, (X.FactsW x119 w117 (L59)) ∧
                 (∀ x120 : Addr × List Value, (x120 ∈ x98) →
                  x120 ∈ x119) ∧
                 if (((false || (n118 != 0)) || b25) == false) = true then
                  X.CallX Try.prog 36 #[(.pointer (q9))] w117 fun e135 w136 =>
                   ∃ b137 : Bool, (e135 = .returned (.bool b137)) ∧
                   (X.Kept L59 w117 w136) ∧
                   (X.FactsW x119 w136 (L59)) ∧
                   ∃ x138 : X.Facts, (X.FactsW x138 w136 (L59)) ∧
                   (∀ x139 : Addr × List Value, (x139 ∈ x119) →
                    x139 ∈ x138) ∧
                   if (((false || b137) || b56) == false) = true then
                    X.CallX Try.prog 45 #[(.agg #[(.slice (q50) k51 k52), (.slice (q53) k54 k55)]), (.agg #[(.slice none 0 0), (.slice none 0 0)])] w136 fun e152 w153 =>
                     ∃ b154 : Bool, (e152 = .returned (.bool b154)) ∧
                     (X.Kept L59 w136 w153) ∧
                     (X.FactsW x138 w153 (L59)) ∧
                     ∃ x155 : X.Facts, (X.FactsW x155 w153 (L59)) ∧
                     (∀ x156 : Addr × List Value, (x156 ∈ x138) →
                      x156 ∈ x155) ∧
                     if ((false || (!b154)) == false) = true then
                      X.CallX Try.prog 27 #[(.agg #[(.int .u8 a_2), (.int .u16 a_3)])] w153 fun e167 w168 =>
                       ∃ n169 : Int, ∃ n170 : Int, (e167 = .returned (.agg #[(.int .u8 n169), (.int .u16 n170)])) ∧
                       (X.Kept L59 w153 w168) ∧
                       (X.FactsW x155 w168 (L59)) ∧
                       ∃ x171 : X.Facts, (X.FactsW x171 w168 (L59)) ∧
                       (∀ x172 : Addr × List Value, (x172 ∈ x155) →
                        x172 ∈ x171) ∧
                       X.CallX Try.prog 33 #[(.pointer (q9)), (.agg #[(.int .u8 n169), (.int .u16 n170)])] w168 fun e173 w174 =>
                        ∃ b175 : Bool, (e173 = .returned (.bool b175)) ∧
                        (X.Kept L59 w168 w174) ∧
                        (X.FactsW x171 w174 (L59)) ∧
                        ∃ x176 : X.Facts, (X.FactsW x176 w174 (L59)) ∧
                        (∀ x177 : Addr × List Value, (x177 ∈ x171) →
                         x177 ∈ x176) ∧
                        if ((false || b175) == false) = true then
                         X.CallX Try.prog 35 #[(.pointer (q9))] w174 fun e184 w185 =>
                          ∃ n186 : Int, (e184 = .returned (.int .i64 n186)) ∧
                          (X.Kept L59 w174 w185) ∧
                          (X.FactsW x176 w185 (L59)) ∧
                          ∃ x187 : X.Facts, (X.FactsW x187 w185 (L59)) ∧
                          (∀ x188 : Addr × List Value, (x188 ∈ x176) →
                           x188 ∈ x187) ∧
                          if ((false || (n186 != 0)) == false) = true then
                           X.CallX Try.prog 38 #[(.pointer (q9))] w185 fun e193 w194 =>
                            ∃ n195 : Int, (e193 = .returned (.int .u64 n195)) ∧
                            (X.Kept L59 w185 w194) ∧
                            (X.FactsW x187 w194 (L59)) ∧
                            ∃ x196 : X.Facts, (X.FactsW x196 w194 (L59)) ∧
                            (∀ x197 : Addr × List Value, (x197 ∈ x187) →
                             x197 ∈ x196) ∧
                            if ((false || (n195 != 0)) == false) = true then
                             X.CallX Try.prog 42 #[(.pointer (q9))] w194 fun e200 w201 =>
                              ∃ q202 : Option Addr, ∃ k203 : Nat, ∃ k204 : Nat, (e200 = .returned (.slice (q202) k203 k204)) ∧
                              (X.Kept L59 w194 w201) ∧
                              (X.FactsW x196 w201 (L59)) ∧
                              ∃ x205 : X.Facts, (X.FactsW x205 w201 (L59)) ∧
                              (∀ x206 : Addr × List Value, (x206 ∈ x196) →
                               x206 ∈ x205) ∧
                              if ((false || (((k203 : Nat) : Int) != 0)) == false) = true then
                               X.CallX Try.prog 39 #[(.pointer (q9))] w201 fun e207 w208 =>
                                ∃ q209 : Option Addr, ∃ k210 : Nat, ∃ k211 : Nat, ∃ q212 : Option Addr, ∃ k213 : Nat, ∃ k214 : Nat, (e207 = .returned (.agg #[(.slice (q209) k210 k211), (.slice (q212) k213 k214)])) ∧
                                (X.Kept L59 w201 w208) ∧
                                (X.FactsW x205 w208 (L59)) ∧
                                X.CallX Try.prog 45 #[(.agg #[(.slice (q209) k210 k211), (.slice (q212) k213 k214)]), (.agg #[(.slice (q50) k51 k52), (.slice (q53) k54 k55)])] w208 fun e215 w216 =>
                                 ∃ b217 : Bool, (e215 = .returned (.bool b217)) ∧
                                 (X.Kept L59 w208 w216) ∧
                                 (X.FactsW x205 w216 (L59)) ∧
                                 if (false || (!b217)) = true then
                                  R (.returned (.bool false)) w216
                                 else
                                  (([(.int .i64 a_0), (.int .u64 a_1), (.int .u8 a_2), (.int .u16 a_3), (.slice (a_4) a_4l a_4c), (.slice (a_5) a_5l a_5c), (.slice (a_6) a_6l a_6c), (.bool a_7)] : List Value) = [(.int .i64 a_0), (.int .u64 a_1), (.int .u8 a_2), (.int .u16 a_3), (.slice (a_4) a_4l a_4c), (.slice (a_5) a_5l a_5c), (.slice (a_6) a_6l a_6c), (.bool a_7)]) ∧
                                  (x6 (some (Addr.mk w216.heap.size 0 none)) (some (Addr.mk (w216.alloc (Obj.cells ((some (Value.agg (Value.agg #[Value.int IntKind.u64 0, Value.int IntKind.u64 0, Value.slice none 0 0, Value.slice none 0 0, Value.bool false]).cells)).getD undef).cells 102)).heap.size 0 none)) (IntKind.wrap .i64 (n10 + 1)) ((w216.alloc (.cells #[(.int .u64 0), (.int .u64 0), (.slice none 0 0), (.slice none 0 0), (.bool false)] 102)).alloc (.cells #[(.int .u8 0), (.int .u32 0), (.slice none 0 0), (.int .u64 0), (.int .i64 0), (.map none), (.int .u64 0), (.pointer none), (.slice none 0 0), (.slice none 0 0), (.slice none 0 0)] 106)) (L59)) ∧
                                  Nat.le ((x7 (some (Addr.mk w216.heap.size 0 none)) (some (Addr.mk (w216.alloc (Obj.cells ((some (Value.agg (Value.agg #[Value.int IntKind.u64 0, Value.int IntKind.u64 0, Value.slice none 0 0, Value.slice none 0 0, Value.bool false]).cells)).getD undef).cells 102)).heap.size 0 none)) (IntKind.wrap .i64 (n10 + 1)) ((w216.alloc (.cells #[(.int .u64 0), (.int .u64 0), (.slice none 0 0), (.slice none 0 0), (.bool false)] 102)).alloc (.cells #[(.int .u8 0), (.int .u32 0), (.slice none 0 0), (.int .u64 0), (.int .i64 0), (.map none), (.int .u64 0), (.pointer none), (.slice none 0 0), (.slice none 0 0), (.slice none 0 0)] 106))) + 1) (x7 q8 q9 n10 w11)
                              else
                               R (.returned (.bool false)) w201
                            else
                             ∃ x198 : X.Facts, (X.FactsW x198 w194 (L59)) ∧
                             (∀ x199 : Addr × List Value, (x199 ∈ x196) →
                              x199 ∈ x198) ∧
                             R (.returned (.bool false)) w194
                          else
                           ∃ x189 : X.Facts, (X.FactsW x189 w185 (L59)) ∧
                           (∀ x190 : Addr × List Value, (x190 ∈ x187) →
                            x190 ∈ x189) ∧
                           ∃ x191 : X.Facts, (X.FactsW x191 w185 (L59)) ∧
                           (∀ x192 : Addr × List Value, (x192 ∈ x189) →
                            x192 ∈ x191) ∧
                           R (.returned (.bool false)) w185
                        else
                         ∃ x178 : X.Facts, (X.FactsW x178 w174 (L59)) ∧
                         (∀ x179 : Addr × List Value, (x179 ∈ x176) →
                          x179 ∈ x178) ∧
                         ∃ x180 : X.Facts, (X.FactsW x180 w174 (L59)) ∧
                         (∀ x181 : Addr × List Value, (x181 ∈ x178) →
                          x181 ∈ x180) ∧
                         ∃ x182 : X.Facts, (X.FactsW x182 w174 (L59)) ∧
                         (∀ x183 : Addr × List Value, (x183 ∈ x180) →
                          x183 ∈ x182) ∧
                         R (.returned (.bool false)) w174
                     else
                      ∃ x157 : X.Facts, (X.FactsW x157 w153 (L59)) ∧
                      (∀ x158 : Addr × List Value, (x158 ∈ x155) →
                       x158 ∈ x157) ∧
                      ∃ x159 : X.Facts, (X.FactsW x159 w153 (L59)) ∧
                      (∀ x160 : Addr × List Value, (x160 ∈ x157) →
                       x160 ∈ x159) ∧
                      ∃ x161 : X.Facts, (X.FactsW x161 w153 (L59)) ∧
                      (∀ x162 : Addr × List Value, (x162 ∈ x159) →
                       x162 ∈ x161) ∧
                      ∃ x163 : X.Facts, (X.FactsW x163 w153 (L59)) ∧
                      (∀ x164 : Addr × List Value, (x164 ∈ x161) →
                       x164 ∈ x163) ∧
                      ∃ x165 : X.Facts, (X.FactsW x165 w153 (L59)) ∧
                      (∀ x166 : Addr × List Value, (x166 ∈ x163) →
                       x166 ∈ x165) ∧
                      R (.returned (.bool false)) w153
                   else
                    ∃ x140 : X.Facts, (X.FactsW x140 w136 (L59)) ∧
                    (∀ x141 : Addr × List Value, (x141 ∈ x138) →
                     x141 ∈ x140) ∧
                    ∃ x142 : X.Facts, (X.FactsW x142 w136 (L59)) ∧
                    (∀ x143 : Addr × List Value, (x143 ∈ x140) →
                     x143 ∈ x142) ∧
                    ∃ x144 : X.Facts, (X.FactsW x144 w136 (L59)) ∧
                    (∀ x145 : Addr × List Value, (x145 ∈ x142) →
                     x145 ∈ x144) ∧
                    ∃ x146 : X.Facts, (X.FactsW x146 w136 (L59)) ∧
                    (∀ x147 : Addr × List Value, (x147 ∈ x144) →
                     x147 ∈ x146) ∧
                    ∃ x148 : X.Facts, (X.FactsW x148 w136 (L59)) ∧
                    (∀ x149 : Addr × List Value, (x149 ∈ x146) →
                     x149 ∈ x148) ∧
                    ∃ x150 : X.Facts, (X.FactsW x150 w136 (L59)) ∧
                    (∀ x151 : Addr × List Value, (x151 ∈ x148) →
                     x151 ∈ x150) ∧
                    R (.returned (.bool false)) w136
                 else
                  ∃ x121 : X.Facts, (X.FactsW x121 w117 (L59)) ∧
                  (∀ x122 : Addr × List Value, (x122 ∈ x119) →
                   x122 ∈ x121) ∧
                  ∃ x123 : X.Facts, (X.FactsW x123 w117 (L59)) ∧
                  (∀ x124 : Addr × List Value, (x124 ∈ x121) →
                   x124 ∈ x123) ∧
                  ∃ x125 : X.Facts, (X.FactsW x125 w117 (L59)) ∧
                  (∀ x126 : Addr × List Value, (x126 ∈ x123) →
                   x126 ∈ x125) ∧
                  ∃ x127 : X.Facts, (X.FactsW x127 w117 (L59)) ∧
                  (∀ x128 : Addr × List Value, (x128 ∈ x125) →
                   x128 ∈ x127) ∧
                  ∃ x129 : X.Facts, (X.FactsW x129 w117 (L59)) ∧
                  (∀ x130 : Addr × List Value, (x130 ∈ x127) →
                   x130 ∈ x129) ∧
                  ∃ x131 : X.Facts, (X.FactsW x131 w117 (L59)) ∧
                  (∀ x132 : Addr × List Value, (x132 ∈ x129) →
                   x132 ∈ x131) ∧
                  ∃ x133 : X.Facts, (X.FactsW x133 w117 (L59)) ∧
                  (∀ x134 : Addr × List Value, (x134 ∈ x131) →
                   x134 ∈ x133) ∧
                  R (.returned (.bool false)) w117
               else
                ∃ x100 : X.Facts, (X.FactsW x100 w96 (L59)) ∧
                (∀ x101 : Addr × List Value, (x101 ∈ x98) →
                 x101 ∈ x100) ∧
                ∃ x102 : X.Facts, (X.FactsW x102 w96 (L59)) ∧
                (∀ x103 : Addr × List Value, (x103 ∈ x100) →
                 x103 ∈ x102) ∧
                ∃ x104 : X.Facts, (X.FactsW x104 w96 (L59)) ∧
                (∀ x105 : Addr × List Value, (x105 ∈ x102) →
                 x105 ∈ x104) ∧
                ∃ x106 : X.Facts, (X.FactsW x106 w96 (L59)) ∧
                (∀ x107 : Addr × List Value, (x107 ∈ x104) →
                 x107 ∈ x106) ∧
                ∃ x108 : X.Facts, (X.FactsW x108 w96 (L59)) ∧
                (∀ x109 : Addr × List Value, (x109 ∈ x106) →
                 x109 ∈ x108) ∧
                ∃ x110 : X.Facts, (X.FactsW x110 w96 (L59)) ∧
                (∀ x111 : Addr × List Value, (x111 ∈ x108) →
                 x111 ∈ x110) ∧
                ∃ x112 : X.Facts, (X.FactsW x112 w96 (L59)) ∧
                (∀ x113 : Addr × List Value, (x113 ∈ x110) →
                 x113 ∈ x112) ∧
                ∃ x114 : X.Facts, (X.FactsW x114 w96 (L59)) ∧
                (∀ x115 : Addr × List Value, (x115 ∈ x112) →
                 x115 ∈ x114) ∧
                R (.returned (.bool false)) w96
            else
             ∃ x65 : X.Facts, (X.FactsW x65 w61 (L59)) ∧
             (∀ x66 : Addr × List Value, (x66 ∈ x63) →
              x66 ∈ x65) ∧
             ∃ x67 : X.Facts, (X.FactsW x67 w61 (L59)) ∧
             (∀ x68 : Addr × List Value, (x68 ∈ x65) →
              x68 ∈ x67) ∧
             ∃ x69 : X.Facts, (X.FactsW x69 w61 (L59)) ∧
             (∀ x70 : Addr × List Value, (x70 ∈ x67) →
              x70 ∈ x69) ∧
             ∃ x71 : X.Facts, (X.FactsW x71 w61 (L59)) ∧
             (∀ x72 : Addr × List Value, (x72 ∈ x69) →
              x72 ∈ x71) ∧
             ∃ x73 : X.Facts, (X.FactsW x73 w61 (L59)) ∧
             (∀ x74 : Addr × List Value, (x74 ∈ x71) →
              x74 ∈ x73) ∧
             ∃ x75 : X.Facts, (X.FactsW x75 w61 (L59)) ∧
             (∀ x76 : Addr × List Value, (x76 ∈ x73) →
              x76 ∈ x75) ∧
             ∃ x77 : X.Facts, (X.FactsW x77 w61 (L59)) ∧
             (∀ x78 : Addr × List Value, (x78 ∈ x75) →
              x78 ∈ x77) ∧
             ∃ x79 : X.Facts, (X.FactsW x79 w61 (L59)) ∧
             (∀ x80 : Addr × List Value, (x80 ∈ x77) →
              x80 ∈ x79) ∧
             ∃ x81 : X.Facts, (X.FactsW x81 w61 (L59)) ∧
             (∀ x82 : Addr × List Value, (x82 ∈ x79) →
              x82 ∈ x81) ∧
             ∃ x83 : X.Facts, (X.FactsW x83 w61 (L59)) ∧
             (∀ x84 : Addr × List Value, (x84 ∈ x81) →
              x84 ∈ x83) ∧
             R (.returned (.bool false)) w61
    else
     X.CallX Try.prog 9 #[] w11 fun e13 w14 =>
      ∃ b15 : Bool, (e13 = .returned (.bool b15)) ∧
      (X.Kept L12 w11 w14) ∧
      R (.returned (.bool b15)) w14) :
    Calls Try.prog 7 #[.agg #[.int .i64 a_0, .int .u64 a_1, .int .u8 a_2, .int .u16 a_3, .slice a_4 a_4l a_4c, .slice a_5 a_5l a_5c, .slice a_6 a_6l a_6c, .bool a_7]] w R :=
  X.calls_of { isLoc := [1, 7, 9], sym := [], loops := [(6, .inv [(3, .ptr), (4, .ptr), (5, .int .i64)] [] true)], joins := [] } Try.func7 (by kernel_rfl) h
end Go.Proofs
