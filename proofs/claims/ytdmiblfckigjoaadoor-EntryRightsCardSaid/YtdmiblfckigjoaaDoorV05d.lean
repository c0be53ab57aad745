import Derived.Test.YtdmiblfckigjoaaDoorXFn
import Derived.Test.YtdmiblfckigjoaaDoorProg
/- The verification conditions of this seat's functions, as the engine has them: printed by a program of the bench; checked by the kernel. -/
set_option maxRecDepth 100000
set_option linter.unusedVariables false
namespace Go.Proofs
open Go
abbrev fn_EntryRights : Nat := 3
theorem x_EntryRights (a_0 a_1 a_2 a_3 a_4 a_5 a_6 a_7 a_8 a_9 a_10 a_11 : Int) (a_12 : Option Addr) (a_12l a_12c : Nat) (a_13 : Int) (a_14 : ByteArray) (a_15 : Option Addr) (a_15l a_15c : Nat) (a_16 a_17 b : Int) (w : World) (R : Ending → World → Prop) (h :
  ∀ w1 : World, ∀ L2 : List Nat, (X.Hid [] w w1) →
  (X.NewL (w).heap.size [] w w1 L2) →
  X.CallX Tryd.prog 6 #[(.slice (some ⟨(w1).heap.size, 0, none⟩) 1 1)] (w1.alloc (.cells #[(.int .u8 a_0), (.int .u8 a_1), (.int .u16 a_2), (.int .u32 a_3), (.int .u8 a_4), (.int .u8 a_5), (.int .u8 a_6), (.int .u8 a_7), (.int .u8 a_8), (.int .u8 a_9), (.int .u8 a_10), (.int .u32 a_11), (.slice (a_12) a_12l a_12c), (.int .u8 a_13), (.string a_14), (.slice (a_15) a_15l a_15c), (.int .u8 a_16), (.int .u16 a_17)] 36)) fun e3 w4 =>
   ∃ b5 : Bool, (e3 = .returned (.bool b5)) ∧
   (X.Kept L2 (w1.alloc (.cells #[(.int .u8 a_0), (.int .u8 a_1), (.int .u16 a_2), (.int .u32 a_3), (.int .u8 a_4), (.int .u8 a_5), (.int .u8 a_6), (.int .u8 a_7), (.int .u8 a_8), (.int .u8 a_9), (.int .u8 a_10), (.int .u32 a_11), (.slice (a_12) a_12l a_12c), (.int .u8 a_13), (.string a_14), (.slice (a_15) a_15l a_15c), (.int .u8 a_16), (.int .u16 a_17)] 36)) w4) ∧
   if (!b5) = true then
    X.CallX Tryd.prog 7 #[] w4 fun e42 w43 =>
     ∃ b44 : Bool, (e42 = .returned (.bool b44)) ∧
     (X.Kept L2 w4 w43) ∧
     R (.returned (.bool b44)) w43
   else
    ∃ x6 : X.Facts, (X.FactsW x6 w4 (L2)) ∧
    ∀ w7 : World, ∀ L8 : List Nat, (X.Hid (L2) w4 w7) →
    (X.NewL (w).heap.size (L2) w4 w7 L8) →
    X.CallX Tryd.prog 8 #[(.agg #[(.int .u8 a_0), (.int .u8 a_1), (.int .u16 a_2), (.int .u32 a_3), (.int .u8 a_4), (.int .u8 a_5), (.int .u8 a_6), (.int .u8 a_7), (.int .u8 a_8), (.int .u8 a_9), (.int .u8 a_10), (.int .u32 a_11), (.slice (a_12) a_12l a_12c), (.int .u8 a_13), (.string a_14), (.slice (a_15) a_15l a_15c), (.int .u8 a_16), (.int .u16 a_17)])] w7 fun e9 w10 =>
     ∃ n11 : Int, ∃ n12 : Int, ∃ n13 : Int, ∃ n14 : Int, ∃ n15 : Int, ∃ n16 : Int, ∃ n17 : Int, ∃ n18 : Int, ∃ n19 : Int, ∃ n20 : Int, ∃ n21 : Int, ∃ n22 : Int, ∃ q23 : Option Addr, ∃ k24 : Nat, ∃ k25 : Nat, ∃ n26 : Int, ∃ s27 : ByteArray, ∃ q28 : Option Addr, ∃ k29 : Nat, ∃ k30 : Nat, ∃ n31 : Int, ∃ n32 : Int, (e9 = .returned (.agg #[(.int .u8 n11), (.int .u8 n12), (.int .u16 n13), (.int .u32 n14), (.int .u8 n15), (.int .u8 n16), (.int .u8 n17), (.int .u8 n18), (.int .u8 n19), (.int .u8 n20), (.int .u8 n21), (.int .u32 n22), (.slice (q23) k24 k25), (.int .u8 n26), (.string s27), (.slice (q28) k29 k30), (.int .u8 n31), (.int .u16 n32)])) ∧
     (X.Kept L8 w7 w10) ∧
     (X.FactsW x6 w10 (L8)) ∧
     X.CallX Tryd.prog 9 #[(.agg #[(.int .u8 n11), (.int .u8 n12), (.int .u16 n13), (.int .u32 n14), (.int .u8 n15), (.int .u8 n16), (.int .u8 n17), (.int .u8 n18), (.int .u8 n19), (.int .u8 n20), (.int .u8 n21), (.int .u32 n22), (.slice (q23) k24 k25), (.int .u8 n26), (.string s27), (.slice (q28) k29 k30), (.int .u8 n31), (.int .u16 n32)]), (.int .u8 b)] w10 fun e33 w34 =>
      ∃ b35 : Bool, (e33 = .returned (.bool b35)) ∧
      (X.Kept L8 w10 w34) ∧
      (X.FactsW x6 w34 (L8)) ∧
      X.CallX Tryd.prog 10 #[(.agg #[(.int .u8 a_0), (.int .u8 a_1), (.int .u16 a_2), (.int .u32 a_3), (.int .u8 a_4), (.int .u8 a_5), (.int .u8 a_6), (.int .u8 a_7), (.int .u8 a_8), (.int .u8 a_9), (.int .u8 a_10), (.int .u32 a_11), (.slice (a_12) a_12l a_12c), (.int .u8 a_13), (.string a_14), (.slice (a_15) a_15l a_15c), (.int .u8 a_16), (.int .u16 a_17)]), (.int .u8 b)] w34 fun e36 w37 =>
       ∃ b38 : Bool, (e36 = .returned (.bool b38)) ∧
       (X.Kept L8 w34 w37) ∧
       (X.FactsW x6 w37 (L8)) ∧
       if ((b35 == b38) == true) = true then
        X.CallX Tryd.prog 7 #[] w37 fun e39 w40 =>
         ∃ b41 : Bool, (e39 = .returned (.bool b41)) ∧
         (X.Kept L8 w37 w40) ∧
         (X.FactsW x6 w40 (L8)) ∧
         R (.returned (.bool (true && b41))) w40
       else
        R (.returned (.bool false)) w37) :
    Calls Tryd.prog 3 #[.agg #[.int .u8 a_0, .int .u8 a_1, .int .u16 a_2, .int .u32 a_3, .int .u8 a_4, .int .u8 a_5, .int .u8 a_6, .int .u8 a_7, .int .u8 a_8, .int .u8 a_9, .int .u8 a_10, .int .u32 a_11, .slice a_12 a_12l a_12c, .int .u8 a_13, .string a_14, .slice a_15 a_15l a_15c, .int .u8 a_16, .int .u16 a_17], .int .u8 b] w R :=
  X.calls_of { isLoc := [2], sym := [], loops := [], joins := [] } Tryd.func3 (by kernel_rfl) h
abbrev fn_EntryApart : Nat := 4
theorem x_EntryApart (a_0 a_1 a_2 a_3 a_4 a_5 a_6 a_7 a_8 a_9 a_10 a_11 : Int) (a_12 : Option Addr) (a_12l a_12c : Nat) (a_13 : Int) (a_14 : ByteArray) (a_15 : Option Addr) (a_15l a_15c : Nat) (a_16 a_17 : Int) (w : World) (R : Ending → World → Prop) (h :
  ∀ w1 : World, ∀ L2 : List Nat, (X.Hid [] w w1) →
  (X.NewL (w).heap.size [] w w1 L2) →
  X.CallX Tryd.prog 6 #[(.slice (some ⟨(w1).heap.size, 0, none⟩) 1 1)] (w1.alloc (.cells #[(.int .u8 a_0), (.int .u8 a_1), (.int .u16 a_2), (.int .u32 a_3), (.int .u8 a_4), (.int .u8 a_5), (.int .u8 a_6), (.int .u8 a_7), (.int .u8 a_8), (.int .u8 a_9), (.int .u8 a_10), (.int .u32 a_11), (.slice (a_12) a_12l a_12c), (.int .u8 a_13), (.string a_14), (.slice (a_15) a_15l a_15c), (.int .u8 a_16), (.int .u16 a_17)] 36)) fun e3 w4 =>
   ∃ b5 : Bool, (e3 = .returned (.bool b5)) ∧
   (X.Kept L2 (w1.alloc (.cells #[(.int .u8 a_0), (.int .u8 a_1), (.int .u16 a_2), (.int .u32 a_3), (.int .u8 a_4), (.int .u8 a_5), (.int .u8 a_6), (.int .u8 a_7), (.int .u8 a_8), (.int .u8 a_9), (.int .u8 a_10), (.int .u32 a_11), (.slice (a_12) a_12l a_12c), (.int .u8 a_13), (.string a_14), (.slice (a_15) a_15l a_15c), (.int .u8 a_16), (.int .u16 a_17)] 36)) w4) ∧
   if (!b5) = true then
    X.CallX Tryd.prog 7 #[] w4 fun e116 w117 =>
     ∃ b118 : Bool, (e116 = .returned (.bool b118)) ∧
     (X.Kept L2 w4 w117) ∧
     R (.returned (.bool b118)) w117
   else
    X.CallX Tryd.prog 8 #[(.agg #[(.int .u8 a_0), (.int .u8 a_1), (.int .u16 a_2), (.int .u32 a_3), (.int .u8 a_4), (.int .u8 a_5), (.int .u8 a_6), (.int .u8 a_7), (.int .u8 a_8), (.int .u8 a_9), (.int .u8 a_10), (.int .u32 a_11), (.slice (a_12) a_12l a_12c), (.int .u8 a_13), (.string a_14), (.slice (a_15) a_15l a_15c), (.int .u8 a_16), (.int .u16 a_17)])] w4 fun e6 w7 =>
     ∃ n8 : Int, ∃ n9 : Int, ∃ n10 : Int, ∃ n11 : Int, ∃ n12 : Int, ∃ n13 : Int, ∃ n14 : Int, ∃ n15 : Int, ∃ n16 : Int, ∃ n17 : Int, ∃ n18 : Int, ∃ n19 : Int, ∃ q20 : Option Addr, ∃ k21 : Nat, ∃ k22 : Nat, ∃ n23 : Int, ∃ s24 : ByteArray, ∃ q25 : Option Addr, ∃ k26 : Nat, ∃ k27 : Nat, ∃ n28 : Int, ∃ n29 : Int, (e6 = .returned (.agg #[(.int .u8 n8), (.int .u8 n9), (.int .u16 n10), (.int .u32 n11), (.int .u8 n12), (.int .u8 n13), (.int .u8 n14), (.int .u8 n15), (.int .u8 n16), (.int .u8 n17), (.int .u8 n18), (.int .u32 n19), (.slice (q20) k21 k22), (.int .u8 n23), (.string s24), (.slice (q25) k26 k27), (.int .u8 n28), (.int .u16 n29)])) ∧
     (X.Kept L2 w4 w7) ∧
     ∀ w30 : World, ∀ L31 : List Nat, (X.Hid (L2) w7 w30) →
     (X.NewL (w).heap.size (L2) w7 w30 L31) →
     X.CallX Tryd.prog 11 #[(.agg #[(.int .u8 n8), (.int .u8 n9), (.int .u16 n10), (.int .u32 n11), (.int .u8 n12), (.int .u8 n13), (.int .u8 n14), (.int .u8 n15), (.int .u8 n16), (.int .u8 n17), (.int .u8 n18), (.int .u32 n19), (.slice (q20) k21 k22), (.int .u8 n23), (.string s24), (.slice (q25) k26 k27), (.int .u8 n28), (.int .u16 n29)])] w30 fun e32 w33 =>
      ∃ n34 : Int, ∃ n35 : Int, ∃ n36 : Int, ∃ n37 : Int, ∃ n38 : Int, ∃ n39 : Int, ∃ n40 : Int, ∃ n41 : Int, ∃ n42 : Int, ∃ n43 : Int, ∃ n44 : Int, ∃ n45 : Int, ∃ q46 : Option Addr, ∃ k47 : Nat, ∃ k48 : Nat, ∃ n49 : Int, ∃ s50 : ByteArray, ∃ q51 : Option Addr, ∃ k52 : Nat, ∃ k53 : Nat, ∃ n54 : Int, ∃ n55 : Int, (e32 = .returned (.agg #[(.int .u8 n34), (.int .u8 n35), (.int .u16 n36), (.int .u32 n37), (.int .u8 n38), (.int .u8 n39), (.int .u8 n40), (.int .u8 n41), (.int .u8 n42), (.int .u8 n43), (.int .u8 n44), (.int .u32 n45), (.slice (q46) k47 k48), (.int .u8 n49), (.string s50), (.slice (q51) k52 k53), (.int .u8 n54), (.int .u16 n55)])) ∧
      (X.Kept L31 w30 w33) ∧
      ∀ w56 : World, ∀ L57 : List Nat, (X.Hid (L31) w33 w56) →
      (X.NewL (w).heap.size (L31) w33 w56 L57) →
      X.CallX Tryd.prog 12 #[(.agg #[(.int .u8 n8), (.int .u8 n9), (.int .u16 n10), (.int .u32 n11), (.int .u8 n12), (.int .u8 n13), (.int .u8 n14), (.int .u8 n15), (.int .u8 n16), (.int .u8 n17), (.int .u8 n18), (.int .u32 n19), (.slice (q20) k21 k22), (.int .u8 n23), (.string s24), (.slice (q25) k26 k27), (.int .u8 n28), (.int .u16 n29)]), (.agg #[(.int .u8 n34), (.int .u8 n35), (.int .u16 n36), (.int .u32 n37), (.int .u8 n38), (.int .u8 n39), (.int .u8 n40), (.int .u8 n41), (.int .u8 n42), (.int .u8 n43), (.int .u8 n44), (.int .u32 n45), (.slice (q46) k47 k48), (.int .u8 n49), (.string s50), (.slice (q51) k52 k53), (.int .u8 n54), (.int .u16 n55)])] w56 fun e58 w59 =>
       ∃ b60 : Bool, (e58 = .returned (.bool b60)) ∧
       (X.Kept L57 w56 w59) ∧
       if (!b60) = true then
        R (.returned (.bool false)) w59
       else
        ∃ x61 : Int → World → List Nat → Prop, ∃ x62 : Int → World → Nat, (x61 0 w59 (L57)) ∧
        ∀ n63 : Int, ∀ w64 : World, ∀ L65 : List Nat, (X.LF (w).heap.size w64 L65) →
        (x61 n63 w64 L65) →
        if (decide (n63 < ((k21 : Nat) : Int))) = true then
         ∃ x110 : X.Facts, (X.FactsW x110 w64 (L65)) ∧
         ((0 : Int) ≤ n63) ∧
         (n63 < ((k21 : Nat) : Int)) ∧
         X.onSome (q20) fun p111 =>
         ∃ s112 : ByteArray, ((((p111.add ((n63).toNat * 5)).add 2), [(.string s112)]) ∈ x110) ∧
         (((((s112.size) + 1) : Nat) : Int) ≤ 9223372036854775807) ∧
         ((0 : Int) ≤ n63) ∧
         (n63 < ((k21 : Nat) : Int)) ∧
         X.onSome (q20) fun p113 =>
         ∀ w114 : World, ∀ L115 : List Nat, (X.Hid (L65) w64 w114) →
         (X.NewL (w).heap.size (L65) w64 w114 L115) →
         ((none : Option Nat) = none) ∧
         (World.there w114 ((p113.add (n63.toNat * 5)).block) (((p113.add (n63.toNat * 5)).off) + 2) 1) ∧
         (¬ (((p113.add (n63.toNat * 5)).block) ∈ L115)) ∧
         (([(.int .u8 a_0), (.int .u8 a_1), (.int .u16 a_2), (.int .u32 a_3), (.int .u8 a_4), (.int .u8 a_5), (.int .u8 a_6), (.int .u8 a_7), (.int .u8 a_8), (.int .u8 a_9), (.int .u8 a_10), (.int .u32 a_11), (.slice (a_12) a_12l a_12c), (.int .u8 a_13), (.string a_14), (.slice (a_15) a_15l a_15c), (.int .u8 a_16), (.int .u16 a_17)] : List Value) = [(.int .u8 a_0), (.int .u8 a_1), (.int .u16 a_2), (.int .u32 a_3), (.int .u8 a_4), (.int .u8 a_5), (.int .u8 a_6), (.int .u8 a_7), (.int .u8 a_8), (.int .u8 a_9), (.int .u8 a_10), (.int .u32 a_11), (.slice (a_12) a_12l a_12c), (.int .u8 a_13), (.string a_14), (.slice (a_15) a_15l a_15c), (.int .u8 a_16), (.int .u16 a_17)]) ∧
         (([(.int .u8 n8), (.int .u8 n9), (.int .u16 n10), (.int .u32 n11), (.int .u8 n12), (.int .u8 n13), (.int .u8 n14), (.int .u8 n15), (.int .u8 n16), (.int .u8 n17), (.int .u8 n18), (.int .u32 n19), (.slice (q20) k21 k22), (.int .u8 n23), (.string s24), (.slice (q25) k26 k27), (.int .u8 n28), (.int .u16 n29)] : List Value) = [(.int .u8 n8), (.int .u8 n9), (.int .u16 n10), (.int .u32 n11), (.int .u8 n12), (.int .u8 n13), (.int .u8 n14), (.int .u8 n15), (.int .u8 n16), (.int .u8 n17), (.int .u8 n18), (.int .u32 n19), (.slice (q20) k21 k22), (.int .u8 n23), (.string s24), (.slice (q25) k26 k27), (.int .u8 n28), (.int .u16 n29)]) ∧
         (([(.int .u8 n34), (.int .u8 n35), (.int .u16 n36), (.int .u32 n37), (.int .u8 n38), (.int .u8 n39), (.int .u8 n40), (.int .u8 n41), (.int .u8 n42), (.int .u8 n43), (.int .u8 n44), (.int .u32 n45), (.slice (q46) k47 k48), (.int .u8 n49), (.string s50), (.slice (q51) k52 k53), (.int .u8 n54), (.int .u16 n55)] : List Value) = [(.int .u8 n34), (.int .u8 n35), (.int .u16 n36), (.int .u32 n37), (.int .u8 n38), (.int .u8 n39), (.int .u8 n40), (.int .u8 n41), (.int .u8 n42), (.int .u8 n43), (.int .u8 n44), (.int .u32 n45), (.slice (q46) k47 k48), (.int .u8 n49), (.string s50), (.slice (q51) k52 k53), (.int .u8 n54), (.int .u16 n55)]) ∧
         (x61 (IntKind.wrap .i64 (n63 + 1)) (w114.setCells ((p113.add (n63.toNat * 5)).block) (((p113.add (n63.toNat * 5)).off) + 2) [(.string (s112 ++ ByteArray.mk #[OfNat.ofNat 120]))]) (L115)) ∧
         Nat.le ((x62 (IntKind.wrap .i64 (n63 + 1)) (w114.setCells ((p113.add (n63.toNat * 5)).block) (((p113.add (n63.toNat * 5)).off) + 2) [(.string (s112 ++ ByteArray.mk #[OfNat.ofNat 120]))])) + 1) (x62 n63 w64)
        else
         ∃ x66 : Int → World → List Nat → Prop, ∃ x67 : Int → World → Nat, (x66 0 w64 (L65)) ∧
         ∀ n68 : Int, ∀ w69 : World, ∀ L70 : List Nat, (X.LF (w).heap.size w69 L70) →
         (x66 n68 w69 L70) →
         if (decide (n68 < ((k26 : Nat) : Int))) = true then
          ∃ x104 : X.Facts, (X.FactsW x104 w69 (L70)) ∧
          ((0 : Int) ≤ n68) ∧
          (n68 < ((k26 : Nat) : Int)) ∧
          X.onSome (q25) fun p105 =>
          ∃ s106 : ByteArray, ((((p105.add ((n68).toNat * 3)).add 1), [(.string s106)]) ∈ x104) ∧
          (((((s106.size) + 1) : Nat) : Int) ≤ 9223372036854775807) ∧
          ((0 : Int) ≤ n68) ∧
          (n68 < ((k26 : Nat) : Int)) ∧
          X.onSome (q25) fun p107 =>
          ∀ w108 : World, ∀ L109 : List Nat, (X.Hid (L70) w69 w108) →
          (X.NewL (w).heap.size (L70) w69 w108 L109) →
          ((none : Option Nat) = none) ∧
          (World.there w108 ((p107.add (n68.toNat * 3)).block) (((p107.add (n68.toNat * 3)).off) + 1) 1) ∧
          (¬ (((p107.add (n68.toNat * 3)).block) ∈ L109)) ∧
          (([(.int .u8 a_0), (.int .u8 a_1), (.int .u16 a_2), (.int .u32 a_3), (.int .u8 a_4), (.int .u8 a_5), (.int .u8 a_6), (.int .u8 a_7), (.int .u8 a_8), (.int .u8 a_9), (.int .u8 a_10), (.int .u32 a_11), (.slice (a_12) a_12l a_12c), (.int .u8 a_13), (.string a_14), (.slice (a_15) a_15l a_15c), (.int .u8 a_16), (.int .u16 a_17)] : List Value) = [(.int .u8 a_0), (.int .u8 a_1), (.int .u16 a_2), (.int .u32 a_3), (.int .u8 a_4), (.int .u8 a_5), (.int .u8 a_6), (.int .u8 a_7), (.int .u8 a_8), (.int .u8 a_9), (.int .u8 a_10), (.int .u32 a_11), (.slice (a_12) a_12l a_12c), (.int .u8 a_13), (.string a_14), (.slice (a_15) a_15l a_15c), (.int .u8 a_16), (.int .u16 a_17)]) ∧
          (([(.int .u8 n8), (.int .u8 n9), (.int .u16 n10), (.int .u32 n11), (.int .u8 n12), (.int .u8 n13), (.int .u8 n14), (.int .u8 n15), (.int .u8 n16), (.int .u8 n17), (.int .u8 n18), (.int .u32 n19), (.slice (q20) k21 k22), (.int .u8 n23), (.string s24), (.slice (q25) k26 k27), (.int .u8 n28), (.int .u16 n29)] : List Value) = [(.int .u8 n8), (.int .u8 n9), (.int .u16 n10), (.int .u32 n11), (.int .u8 n12), (.int .u8 n13), (.int .u8 n14), (.int .u8 n15), (.int .u8 n16), (.int .u8 n17), (.int .u8 n18), (.int .u32 n19), (.slice (q20) k21 k22), (.int .u8 n23), (.string s24), (.slice (q25) k26 k27), (.int .u8 n28), (.int .u16 n29)]) ∧
          (([(.int .u8 n34), (.int .u8 n35), (.int .u16 n36), (.int .u32 n37), (.int .u8 n38), (.int .u8 n39), (.int .u8 n40), (.int .u8 n41), (.int .u8 n42), (.int .u8 n43), (.int .u8 n44), (.int .u32 n45), (.slice (q46) k47 k48), (.int .u8 n49), (.string s50), (.slice (q51) k52 k53), (.int .u8 n54), (.int .u16 n55)] : List Value) = [(.int .u8 n34), (.int .u8 n35), (.int .u16 n36), (.int .u32 n37), (.int .u8 n38), (.int .u8 n39), (.int .u8 n40), (.int .u8 n41), (.int .u8 n42), (.int .u8 n43), (.int .u8 n44), (.int .u32 n45), (.slice (q46) k47 k48), (.int .u8 n49), (.string s50), (.slice (q51) k52 k53), (.int .u8 n54), (.int .u16 n55)]) ∧
          (x66 (IntKind.wrap .i64 (n68 + 1)) (w108.setCells ((p107.add (n68.toNat * 3)).block) (((p107.add (n68.toNat * 3)).off) + 1) [(.string (s106 ++ ByteArray.mk #[OfNat.ofNat 120]))]) (L109)) ∧
          Nat.le ((x67 (IntKind.wrap .i64 (n68 + 1)) (w108.setCells ((p107.add (n68.toNat * 3)).block) (((p107.add (n68.toNat * 3)).off) + 1) [(.string (s106 ++ ByteArray.mk #[OfNat.ofNat 120]))])) + 1) (x67 n68 w69)
         else
          ∃ x71 : X.Facts, (X.FactsW x71 w69 (L70)) ∧
          ∀ w72 : World, ∀ L73 : List Nat, (X.Hid (L70) w69 w72) →
          (X.NewL (w).heap.size (L70) w69 w72 L73) →
          X.CallX Tryd.prog 14 #[(.agg #[(.int .u8 n34), (.int .u8 n35), (.int .u16 n36), (.int .u32 n37), (.int .u8 n38), (.int .u8 n39), (.int .u8 n40), (.int .u8 n41), (.int .u8 n42), (.int .u8 n43), (.int .u8 n44), (.int .u32 n45), (.slice (q46) k47 k48), (.int .u8 n49), (.string s50), (.slice (q51) k52 k53), (.int .u8 n54), (.int .u16 n55)])] w72 fun e74 w75 =>
           ∃ n76 : Int, ∃ n77 : Int, ∃ n78 : Int, ∃ n79 : Int, ∃ n80 : Int, ∃ n81 : Int, ∃ n82 : Int, ∃ n83 : Int, ∃ n84 : Int, ∃ n85 : Int, ∃ n86 : Int, ∃ n87 : Int, ∃ q88 : Option Addr, ∃ k89 : Nat, ∃ k90 : Nat, ∃ n91 : Int, ∃ s92 : ByteArray, ∃ q93 : Option Addr, ∃ k94 : Nat, ∃ k95 : Nat, ∃ n96 : Int, ∃ n97 : Int, (e74 = .returned (.agg #[(.int .u8 n76), (.int .u8 n77), (.int .u16 n78), (.int .u32 n79), (.int .u8 n80), (.int .u8 n81), (.int .u8 n82), (.int .u8 n83), (.int .u8 n84), (.int .u8 n85), (.int .u8 n86), (.int .u32 n87), (.slice (q88) k89 k90), (.int .u8 n91), (.string s92), (.slice (q93) k94 k95), (.int .u8 n96), (.int .u16 n97)])) ∧
           (X.Kept L73 w72 w75) ∧
           (X.FactsW x71 w75 (L73)) ∧
           X.CallX Tryd.prog 13 #[(.agg #[(.int .u8 n76), (.int .u8 n77), (.int .u16 n78), (.int .u32 n79), (.int .u8 n80), (.int .u8 n81), (.int .u8 n82), (.int .u8 n83), (.int .u8 n84), (.int .u8 n85), (.int .u8 n86), (.int .u32 n87), (.slice (q88) k89 k90), (.int .u8 n91), (.string s92), (.slice (q93) k94 k95), (.int .u8 n96), (.int .u16 n97)]), (.agg #[(.int .u8 a_0), (.int .u8 a_1), (.int .u16 a_2), (.int .u32 a_3), (.int .u8 a_4), (.int .u8 a_5), (.int .u8 a_6), (.int .u8 a_7), (.int .u8 a_8), (.int .u8 a_9), (.int .u8 a_10), (.int .u32 a_11), (.slice (a_12) a_12l a_12c), (.int .u8 a_13), (.string a_14), (.slice (a_15) a_15l a_15c), (.int .u8 a_16), (.int .u16 a_17)])] w75 fun e98 w99 =>
            ∃ b100 : Bool, (e98 = .returned (.bool b100)) ∧
            (X.Kept L73 w75 w99) ∧
            (X.FactsW x71 w99 (L73)) ∧
            if (b100 == true) = true then
             X.CallX Tryd.prog 7 #[] w99 fun e101 w102 =>
              ∃ b103 : Bool, (e101 = .returned (.bool b103)) ∧
              (X.Kept L73 w99 w102) ∧
              (X.FactsW x71 w102 (L73)) ∧
              R (.returned (.bool (true && b103))) w102
            else
             R (.returned (.bool false)) w99) :
    Calls Tryd.prog 4 #[.agg #[.int .u8 a_0, .int .u8 a_1, .int .u16 a_2, .int .u32 a_3, .int .u8 a_4, .int .u8 a_5, .int .u8 a_6, .int .u8 a_7, .int .u8 a_8, .int .u8 a_9, .int .u8 a_10, .int .u32 a_11, .slice a_12 a_12l a_12c, .int .u8 a_13, .string a_14, .slice a_15 a_15l a_15c, .int .u8 a_16, .int .u16 a_17]] w R :=
  X.calls_of { isLoc := [1, 3, 4], sym := [], loops := [(8, .inv [(5, .int .i64)] [] true), (12, .inv [(6, .int .i64)] [] true)], joins := [] } Tryd.func4 (by kernel_rfl) h
abbrev fn_Owns : Nat := 18
theorem x_Owns (a : Option Addr) (al ac : Nat) (w : World) (R : Ending → World → Prop) (h :
  ∃ x1 : Option Addr → Nat → Nat → Int → World → List Nat → Prop, ∃ x2 : Option Addr → Nat → Nat → Int → World → Nat, (x1 (none) 0 0 0 w []) ∧
  ∀ q3 : Option Addr, ∀ k4 : Nat, ∀ k5 : Nat, ∀ n6 : Int, ∀ w7 : World, ∀ L8 : List Nat, (X.LF (w).heap.size w7 L8) →
  (x1 q3 k4 k5 n6 w7 L8) →
  if (decide (n6 < ((al : Nat) : Int))) = true then
   ((0 : Int) ≤ n6) ∧
   (n6 < ((al : Nat) : Int)) ∧
   X.onSome (a) fun p9 =>
   ∃ n10 : Int, ∃ n11 : Int, ∃ n12 : Int, ∃ n13 : Int, ∃ n14 : Int, ∃ n15 : Int, ∃ n16 : Int, ∃ n17 : Int, ∃ n18 : Int, ∃ n19 : Int, ∃ n20 : Int, ∃ n21 : Int, ∃ q22 : Option Addr, ∃ k23 : Nat, ∃ k24 : Nat, ∃ n25 : Int, ∃ s26 : ByteArray, ∃ q27 : Option Addr, ∃ k28 : Nat, ∃ k29 : Nat, ∃ n30 : Int, ∃ n31 : Int, (X.Cells w7 (p9.add ((n6).toNat * 18)) [(.int .u8 n10), (.int .u8 n11), (.int .u16 n12), (.int .u32 n13), (.int .u8 n14), (.int .u8 n15), (.int .u8 n16), (.int .u8 n17), (.int .u8 n18), (.int .u8 n19), (.int .u8 n20), (.int .u32 n21), (.slice (q22) k23 k24), (.int .u8 n25), (.string s26), (.slice (q27) k28 k29), (.int .u8 n30), (.int .u16 n31)]) ∧
   X.CallX Tryd.prog 8 #[(.agg #[(.int .u8 n10), (.int .u8 n11), (.int .u16 n12), (.int .u32 n13), (.int .u8 n14), (.int .u8 n15), (.int .u8 n16), (.int .u8 n17), (.int .u8 n18), (.int .u8 n19), (.int .u8 n20), (.int .u32 n21), (.slice (q22) k23 k24), (.int .u8 n25), (.string s26), (.slice (q27) k28 k29), (.int .u8 n30), (.int .u16 n31)])] w7 fun e32 w33 =>
    ∃ n34 : Int, ∃ n35 : Int, ∃ n36 : Int, ∃ n37 : Int, ∃ n38 : Int, ∃ n39 : Int, ∃ n40 : Int, ∃ n41 : Int, ∃ n42 : Int, ∃ n43 : Int, ∃ n44 : Int, ∃ n45 : Int, ∃ q46 : Option Addr, ∃ k47 : Nat, ∃ k48 : Nat, ∃ n49 : Int, ∃ s50 : ByteArray, ∃ q51 : Option Addr, ∃ k52 : Nat, ∃ k53 : Nat, ∃ n54 : Int, ∃ n55 : Int, (e32 = .returned (.agg #[(.int .u8 n34), (.int .u8 n35), (.int .u16 n36), (.int .u32 n37), (.int .u8 n38), (.int .u8 n39), (.int .u8 n40), (.int .u8 n41), (.int .u8 n42), (.int .u8 n43), (.int .u8 n44), (.int .u32 n45), (.slice (q46) k47 k48), (.int .u8 n49), (.string s50), (.slice (q51) k52 k53), (.int .u8 n54), (.int .u16 n55)])) ∧
    ((w7).heap.size ≤ (w33).heap.size) ∧
    ∃ q56 : Option Addr, ∃ k57 : Nat, ∃ k58 : Nat, ∃ w59 : World, (Sem.run Tryd.prog (Go.Builtin.append_ #[65, 65] 65 #[(.slice (q3) k4 k5), (.slice (some ⟨(w33).heap.size, 0, none⟩) 1 1)]) (w33.alloc (.cells #[(.int .u8 n34), (.int .u8 n35), (.int .u16 n36), (.int .u32 n37), (.int .u8 n38), (.int .u8 n39), (.int .u8 n40), (.int .u8 n41), (.int .u8 n42), (.int .u8 n43), (.int .u8 n44), (.int .u32 n45), (.slice (q46) k47 k48), (.int .u8 n49), (.string s50), (.slice (q51) k52 k53), (.int .u8 n54), (.int .u16 n55)] 49)) = .ok (.slice (q56) k57 k58) w59) ∧
    (((w33.alloc (.cells #[(.int .u8 n34), (.int .u8 n35), (.int .u16 n36), (.int .u32 n37), (.int .u8 n38), (.int .u8 n39), (.int .u8 n40), (.int .u8 n41), (.int .u8 n42), (.int .u8 n43), (.int .u8 n44), (.int .u32 n45), (.slice (q46) k47 k48), (.int .u8 n49), (.string s50), (.slice (q51) k52 k53), (.int .u8 n54), (.int .u16 n55)] 49))).heap.size ≤ (w59).heap.size) ∧
    (x1 q56 k57 k58 (IntKind.wrap .i64 (n6 + 1)) w59 []) ∧
    Nat.le ((x2 q56 k57 k58 (IntKind.wrap .i64 (n6 + 1)) w59) + 1) (x2 q3 k4 k5 n6 w7)
  else
   R (.returned (.slice (q3) k4 k5)) w7) :
    Calls Tryd.prog 18 #[.slice a al ac] w R :=
  X.calls_of { isLoc := [], sym := [], loops := [(3, .inv [(3, .slice), (4, .int .i64)] [] true)], joins := [] } Tryd.func18 (by kernel_rfl) h
abbrev fn_rSameAll : Nat := 19
theorem x_rSameAll (a : Option Addr) (al ac : Nat) (b : Option Addr) (bl bc : Nat) (w : World) (R : Ending → World → Prop) (h :
  if (((al : Nat) : Int) != ((bl : Nat) : Int)) = true then
   R (.returned (.bool false)) w
  else
   ∃ x1 : Int → World → List Nat → Prop, ∃ x2 : Int → World → Nat, (x1 0 w []) ∧
   ∀ n3 : Int, ∀ w4 : World, ∀ L5 : List Nat, (X.LF (w).heap.size w4 L5) →
   (x1 n3 w4 L5) →
   if (decide (n3 < ((al : Nat) : Int))) = true then
    ∃ x6 : X.Facts, (X.FactsW x6 w4 []) ∧
    ((0 : Int) ≤ n3) ∧
    (n3 < ((al : Nat) : Int)) ∧
    X.onSome (a) fun p7 =>
    ∃ n8 : Int, ∃ n9 : Int, ∃ n10 : Int, ∃ n11 : Int, ∃ n12 : Int, ∃ n13 : Int, ∃ n14 : Int, ∃ n15 : Int, ∃ n16 : Int, ∃ n17 : Int, ∃ n18 : Int, ∃ n19 : Int, ∃ q20 : Option Addr, ∃ k21 : Nat, ∃ k22 : Nat, ∃ n23 : Int, ∃ s24 : ByteArray, ∃ q25 : Option Addr, ∃ k26 : Nat, ∃ k27 : Nat, ∃ n28 : Int, ∃ n29 : Int, (((p7.add ((n3).toNat * 18)), [(.int .u8 n8), (.int .u8 n9), (.int .u16 n10), (.int .u32 n11), (.int .u8 n12), (.int .u8 n13), (.int .u8 n14), (.int .u8 n15), (.int .u8 n16), (.int .u8 n17), (.int .u8 n18), (.int .u32 n19), (.slice (q20) k21 k22), (.int .u8 n23), (.string s24), (.slice (q25) k26 k27), (.int .u8 n28), (.int .u16 n29)]) ∈ x6) ∧
    ((0 : Int) ≤ n3) ∧
    (n3 < ((bl : Nat) : Int)) ∧
    X.onSome (b) fun p30 =>
    ∃ n31 : Int, ∃ n32 : Int, ∃ n33 : Int, ∃ n34 : Int, ∃ n35 : Int, ∃ n36 : Int, ∃ n37 : Int, ∃ n38 : Int, ∃ n39 : Int, ∃ n40 : Int, ∃ n41 : Int, ∃ n42 : Int, ∃ q43 : Option Addr, ∃ k44 : Nat, ∃ k45 : Nat, ∃ n46 : Int, ∃ s47 : ByteArray, ∃ q48 : Option Addr, ∃ k49 : Nat, ∃ k50 : Nat, ∃ n51 : Int, ∃ n52 : Int, (((p30.add ((n3).toNat * 18)), [(.int .u8 n31), (.int .u8 n32), (.int .u16 n33), (.int .u32 n34), (.int .u8 n35), (.int .u8 n36), (.int .u8 n37), (.int .u8 n38), (.int .u8 n39), (.int .u8 n40), (.int .u8 n41), (.int .u32 n42), (.slice (q43) k44 k45), (.int .u8 n46), (.string s47), (.slice (q48) k49 k50), (.int .u8 n51), (.int .u16 n52)]) ∈ x6) ∧
    ∀ w53 : World, (X.Hid [] w4 w53) →
    X.CallX Tryd.prog 13 #[(.agg #[(.int .u8 n8), (.int .u8 n9), (.int .u16 n10), (.int .u32 n11), (.int .u8 n12), (.int .u8 n13), (.int .u8 n14), (.int .u8 n15), (.int .u8 n16), (.int .u8 n17), (.int .u8 n18), (.int .u32 n19), (.slice (q20) k21 k22), (.int .u8 n23), (.string s24), (.slice (q25) k26 k27), (.int .u8 n28), (.int .u16 n29)]), (.agg #[(.int .u8 n31), (.int .u8 n32), (.int .u16 n33), (.int .u32 n34), (.int .u8 n35), (.int .u8 n36), (.int .u8 n37), (.int .u8 n38), (.int .u8 n39), (.int .u8 n40), (.int .u8 n41), (.int .u32 n42), (.slice (q43) k44 k45), (.int .u8 n46), (.string s47), (.slice (q48) k49 k50), (.int .u8 n51), (.int .u16 n52)])] w53 fun e54 w55 =>
     ∃ b56 : Bool, (e54 = .returned (.bool b56)) ∧
     ((w53).heap.size ≤ (w55).heap.size) ∧
     if (!b56) = true then
      R (.returned (.bool false)) w55
     else
      (x1 (IntKind.wrap .i64 (n3 + 1)) w55 []) ∧
      Nat.le ((x2 (IntKind.wrap .i64 (n3 + 1)) w55) + 1) (x2 n3 w4)
   else
    R (.returned (.bool true)) w4) :
    Calls Tryd.prog 19 #[.slice a al ac, .slice b bl bc] w R :=
  X.calls_of { isLoc := [], sym := [], loops := [(4, .inv [(5, .int .i64)] [] true)], joins := [] } Tryd.func19 (by kernel_rfl) h
abbrev fn_eSameAll : Nat := 17
theorem x_eSameAll (a : Option Addr) (al ac : Nat) (b : Option Addr) (bl bc : Nat) (w : World) (R : Ending → World → Prop) (h :
  X.CallX Tryd.prog 54 #[(.slice (a) al ac), (.slice (b) bl bc), (.func (.func 12) #[] #[])] w fun e1 w2 =>
   ∃ b3 : Bool, (e1 = .returned (.bool b3)) ∧
   ((w).heap.size ≤ (w2).heap.size) ∧
   R (.returned (.bool b3)) w2) :
    Calls Tryd.prog 17 #[.slice a al ac, .slice b bl bc] w R :=
  X.calls_of { isLoc := [], sym := [], loops := [], joins := [] } Tryd.func17 (by kernel_rfl) h
abbrev fn_EqualFuncE : Nat := 54
theorem x_EqualFuncE (a : Option Addr) (al ac : Nat) (b : Option Addr) (bl bc : Nat) (w : World) (R : Ending → World → Prop) (h :
  if (((al : Nat) : Int) != ((bl : Nat) : Int)) = true then
   R (.returned (.bool false)) w
  else
   ∃ x1 : Int → World → List Nat → Prop, ∃ x2 : Int → World → Nat, (x1 0 w []) ∧
   ∀ n3 : Int, ∀ w4 : World, ∀ L5 : List Nat, (X.LF (w).heap.size w4 L5) →
   (x1 n3 w4 L5) →
   if (decide (n3 < ((al : Nat) : Int))) = true then
    ((0 : Int) ≤ n3) ∧
    (n3 < ((al : Nat) : Int)) ∧
    X.onSome (a) fun p6 =>
    ∃ n7 : Int, ∃ n8 : Int, ∃ n9 : Int, ∃ n10 : Int, ∃ n11 : Int, ∃ n12 : Int, ∃ n13 : Int, ∃ n14 : Int, ∃ n15 : Int, ∃ n16 : Int, ∃ n17 : Int, ∃ n18 : Int, ∃ q19 : Option Addr, ∃ k20 : Nat, ∃ k21 : Nat, ∃ n22 : Int, ∃ s23 : ByteArray, ∃ q24 : Option Addr, ∃ k25 : Nat, ∃ k26 : Nat, ∃ n27 : Int, ∃ n28 : Int, (X.Cells w4 (p6.add ((n3).toNat * 18)) [(.int .u8 n7), (.int .u8 n8), (.int .u16 n9), (.int .u32 n10), (.int .u8 n11), (.int .u8 n12), (.int .u8 n13), (.int .u8 n14), (.int .u8 n15), (.int .u8 n16), (.int .u8 n17), (.int .u32 n18), (.slice (q19) k20 k21), (.int .u8 n22), (.string s23), (.slice (q24) k25 k26), (.int .u8 n27), (.int .u16 n28)]) ∧
    ((0 : Int) ≤ n3) ∧
    (n3 < ((bl : Nat) : Int)) ∧
    X.onSome (b) fun p29 =>
    ∃ n30 : Int, ∃ n31 : Int, ∃ n32 : Int, ∃ n33 : Int, ∃ n34 : Int, ∃ n35 : Int, ∃ n36 : Int, ∃ n37 : Int, ∃ n38 : Int, ∃ n39 : Int, ∃ n40 : Int, ∃ n41 : Int, ∃ q42 : Option Addr, ∃ k43 : Nat, ∃ k44 : Nat, ∃ n45 : Int, ∃ s46 : ByteArray, ∃ q47 : Option Addr, ∃ k48 : Nat, ∃ k49 : Nat, ∃ n50 : Int, ∃ n51 : Int, (X.Cells w4 (p29.add ((n3).toNat * 18)) [(.int .u8 n30), (.int .u8 n31), (.int .u16 n32), (.int .u32 n33), (.int .u8 n34), (.int .u8 n35), (.int .u8 n36), (.int .u8 n37), (.int .u8 n38), (.int .u8 n39), (.int .u8 n40), (.int .u32 n41), (.slice (q42) k43 k44), (.int .u8 n45), (.string s46), (.slice (q47) k48 k49), (.int .u8 n50), (.int .u16 n51)]) ∧
    ∀ w52 : World, ∀ L53 : List Nat, (X.Hid [] w4 w52) →
    (X.NewL (w).heap.size [] w4 w52 L53) →
    X.CallX Tryd.prog (OfNat.ofNat 12) #[(.agg #[(.int .u8 n7), (.int .u8 n8), (.int .u16 n9), (.int .u32 n10), (.int .u8 n11), (.int .u8 n12), (.int .u8 n13), (.int .u8 n14), (.int .u8 n15), (.int .u8 n16), (.int .u8 n17), (.int .u32 n18), (.slice (q19) k20 k21), (.int .u8 n22), (.string s23), (.slice (q24) k25 k26), (.int .u8 n27), (.int .u16 n28)]), (.agg #[(.int .u8 n30), (.int .u8 n31), (.int .u16 n32), (.int .u32 n33), (.int .u8 n34), (.int .u8 n35), (.int .u8 n36), (.int .u8 n37), (.int .u8 n38), (.int .u8 n39), (.int .u8 n40), (.int .u32 n41), (.slice (q42) k43 k44), (.int .u8 n45), (.string s46), (.slice (q47) k48 k49), (.int .u8 n50), (.int .u16 n51)])] w52 fun e54 w55 =>
     ∃ b56 : Bool, (e54 = .returned (.bool b56)) ∧
     (X.Kept L53 w52 w55) ∧
     if (!b56) = true then
      R (.returned (.bool false)) w55
     else
      (x1 (IntKind.wrap .i64 (n3 + 1)) w55 (L53)) ∧
      Nat.le ((x2 (IntKind.wrap .i64 (n3 + 1)) w55) + 1) (x2 n3 w4)
   else
    R (.returned (.bool true)) w4) :
    Calls Tryd.prog 54 #[.slice a al ac, .slice b bl bc, .func (.func 12) #[] #[]] w R :=
  X.calls_of { isLoc := [8, 9], sym := [], loops := [(4, .inv [(17, .int .i64)] [] true)], joins := [] } Tryd.func54 (by kernel_rfl) h
abbrev fn_EntryTells : Nat := 5
theorem x_EntryTells (a_0 a_1 a_2 a_3 a_4 a_5 a_6 a_7 a_8 a_9 a_10 a_11 : Int) (a_12 : Option Addr) (a_12l a_12c : Nat) (a_13 : Int) (a_14 : ByteArray) (a_15 : Option Addr) (a_15l a_15c : Nat) (a_16 a_17 b_0 b_1 b_2 b_3 b_4 b_5 b_6 b_7 b_8 b_9 b_10 b_11 : Int) (b_12 : Option Addr) (b_12l b_12c : Nat) (b_13 : Int) (b_14 : ByteArray) (b_15 : Option Addr) (b_15l b_15c : Nat) (b_16 b_17 : Int) (w : World) (R : Ending → World → Prop) (h :
  ∀ w1 : World, ∀ L2 : List Nat, (X.Hid [] w w1) →
  (X.NewL (w).heap.size [] w w1 L2) →
  X.CallX Tryd.prog 6 #[(.slice (some ⟨(w1).heap.size, 0, none⟩) 2 2)] (w1.alloc (.cells #[(.int .u8 a_0), (.int .u8 a_1), (.int .u16 a_2), (.int .u32 a_3), (.int .u8 a_4), (.int .u8 a_5), (.int .u8 a_6), (.int .u8 a_7), (.int .u8 a_8), (.int .u8 a_9), (.int .u8 a_10), (.int .u32 a_11), (.slice (a_12) a_12l a_12c), (.int .u8 a_13), (.string a_14), (.slice (a_15) a_15l a_15c), (.int .u8 a_16), (.int .u16 a_17), (.int .u8 b_0), (.int .u8 b_1), (.int .u16 b_2), (.int .u32 b_3), (.int .u8 b_4), (.int .u8 b_5), (.int .u8 b_6), (.int .u8 b_7), (.int .u8 b_8), (.int .u8 b_9), (.int .u8 b_10), (.int .u32 b_11), (.slice (b_12) b_12l b_12c), (.int .u8 b_13), (.string b_14), (.slice (b_15) b_15l b_15c), (.int .u8 b_16), (.int .u16 b_17)] 36)) fun e3 w4 =>
   ∃ b5 : Bool, (e3 = .returned (.bool b5)) ∧
   (X.Kept L2 (w1.alloc (.cells #[(.int .u8 a_0), (.int .u8 a_1), (.int .u16 a_2), (.int .u32 a_3), (.int .u8 a_4), (.int .u8 a_5), (.int .u8 a_6), (.int .u8 a_7), (.int .u8 a_8), (.int .u8 a_9), (.int .u8 a_10), (.int .u32 a_11), (.slice (a_12) a_12l a_12c), (.int .u8 a_13), (.string a_14), (.slice (a_15) a_15l a_15c), (.int .u8 a_16), (.int .u16 a_17), (.int .u8 b_0), (.int .u8 b_1), (.int .u16 b_2), (.int .u32 b_3), (.int .u8 b_4), (.int .u8 b_5), (.int .u8 b_6), (.int .u8 b_7), (.int .u8 b_8), (.int .u8 b_9), (.int .u8 b_10), (.int .u32 b_11), (.slice (b_12) b_12l b_12c), (.int .u8 b_13), (.string b_14), (.slice (b_15) b_15l b_15c), (.int .u8 b_16), (.int .u16 b_17)] 36)) w4) ∧
   if (!b5) = true then
    X.CallX Tryd.prog 7 #[] w4 fun e131 w132 =>
     ∃ b133 : Bool, (e131 = .returned (.bool b133)) ∧
     (X.Kept L2 w4 w132) ∧
     R (.returned (.bool b133)) w132
   else
    ∃ x6 : X.Facts, (X.FactsW x6 ((w4.alloc (.cells #[(.int .u8 a_0), (.int .u8 a_1), (.int .u16 a_2), (.int .u32 a_3), (.int .u8 a_4), (.int .u8 a_5), (.int .u8 a_6), (.int .u8 a_7), (.int .u8 a_8), (.int .u8 a_9), (.int .u8 a_10), (.int .u32 a_11), (.slice (a_12) a_12l a_12c), (.int .u8 a_13), (.string a_14), (.slice (a_15) a_15l a_15c), (.int .u8 a_16), (.int .u16 a_17), (.int .u8 b_0), (.int .u8 b_1), (.int .u16 b_2), (.int .u32 b_3), (.int .u8 b_4), (.int .u8 b_5), (.int .u8 b_6), (.int .u8 b_7), (.int .u8 b_8), (.int .u8 b_9), (.int .u8 b_10), (.int .u32 b_11), (.slice (b_12) b_12l b_12c), (.int .u8 b_13), (.string b_14), (.slice (b_15) b_15l b_15c), (.int .u8 b_16), (.int .u16 b_17)] 36)).alloc (.cells #[(.int .u8 b_0), (.int .u8 b_1), (.int .u16 b_2), (.int .u32 b_3), (.int .u8 b_4), (.int .u8 b_5), (.int .u8 b_6), (.int .u8 b_7), (.int .u8 b_8), (.int .u8 b_9), (.int .u8 b_10), (.int .u32 b_11), (.slice (b_12) b_12l b_12c), (.int .u8 b_13), (.string b_14), (.slice (b_15) b_15l b_15c), (.int .u8 b_16), (.int .u16 b_17), (.int .u8 a_0), (.int .u8 a_1), (.int .u16 a_2), (.int .u32 a_3), (.int .u8 a_4), (.int .u8 a_5), (.int .u8 a_6), (.int .u8 a_7), (.int .u8 a_8), (.int .u8 a_9), (.int .u8 a_10), (.int .u32 a_11), (.slice (a_12) a_12l a_12c), (.int .u8 a_13), (.string a_14), (.slice (a_15) a_15l a_15c), (.int .u8 a_16), (.int .u16 a_17)] 36)) (L2)) ∧
    ∀ w7 : World, ∀ L8 : List Nat, (X.Hid (L2) ((w4.alloc (.cells #[(.int .u8 a_0), (.int .u8 a_1), (.int .u16 a_2), (.int .u32 a_3), (.int .u8 a_4), (.int .u8 a_5), (.int .u8 a_6), (.int .u8 a_7), (.int .u8 a_8), (.int .u8 a_9), (.int .u8 a_10), (.int .u32 a_11), (.slice (a_12) a_12l a_12c), (.int .u8 a_13), (.string a_14), (.slice (a_15) a_15l a_15c), (.int .u8 a_16), (.int .u16 a_17), (.int .u8 b_0), (.int .u8 b_1), (.int .u16 b_2), (.int .u32 b_3), (.int .u8 b_4), (.int .u8 b_5), (.int .u8 b_6), (.int .u8 b_7), (.int .u8 b_8), (.int .u8 b_9), (.int .u8 b_10), (.int .u32 b_11), (.slice (b_12) b_12l b_12c), (.int .u8 b_13), (.string b_14), (.slice (b_15) b_15l b_15c), (.int .u8 b_16), (.int .u16 b_17)] 36)).alloc (.cells #[(.int .u8 b_0), (.int .u8 b_1), (.int .u16 b_2), (.int .u32 b_3), (.int .u8 b_4), (.int .u8 b_5), (.int .u8 b_6), (.int .u8 b_7), (.int .u8 b_8), (.int .u8 b_9), (.int .u8 b_10), (.int .u32 b_11), (.slice (b_12) b_12l b_12c), (.int .u8 b_13), (.string b_14), (.slice (b_15) b_15l b_15c), (.int .u8 b_16), (.int .u16 b_17), (.int .u8 a_0), (.int .u8 a_1), (.int .u16 a_2), (.int .u32 a_3), (.int .u8 a_4), (.int .u8 a_5), (.int .u8 a_6), (.int .u8 a_7), (.int .u8 a_8), (.int .u8 a_9), (.int .u8 a_10), (.int .u32 a_11), (.slice (a_12) a_12l a_12c), (.int .u8 a_13), (.string a_14), (.slice (a_15) a_15l a_15c), (.int .u8 a_16), (.int .u16 a_17)] 36)) w7) →
    (X.NewL (w).heap.size (L2) ((w4.alloc (.cells #[(.int .u8 a_0), (.int .u8 a_1), (.int .u16 a_2), (.int .u32 a_3), (.int .u8 a_4), (.int .u8 a_5), (.int .u8 a_6), (.int .u8 a_7), (.int .u8 a_8), (.int .u8 a_9), (.int .u8 a_10), (.int .u32 a_11), (.slice (a_12) a_12l a_12c), (.int .u8 a_13), (.string a_14), (.slice (a_15) a_15l a_15c), (.int .u8 a_16), (.int .u16 a_17), (.int .u8 b_0), (.int .u8 b_1), (.int .u16 b_2), (.int .u32 b_3), (.int .u8 b_4), (.int .u8 b_5), (.int .u8 b_6), (.int .u8 b_7), (.int .u8 b_8), (.int .u8 b_9), (.int .u8 b_10), (.int .u32 b_11), (.slice (b_12) b_12l b_12c), (.int .u8 b_13), (.string b_14), (.slice (b_15) b_15l b_15c), (.int .u8 b_16), (.int .u16 b_17)] 36)).alloc (.cells #[(.int .u8 b_0), (.int .u8 b_1), (.int .u16 b_2), (.int .u32 b_3), (.int .u8 b_4), (.int .u8 b_5), (.int .u8 b_6), (.int .u8 b_7), (.int .u8 b_8), (.int .u8 b_9), (.int .u8 b_10), (.int .u32 b_11), (.slice (b_12) b_12l b_12c), (.int .u8 b_13), (.string b_14), (.slice (b_15) b_15l b_15c), (.int .u8 b_16), (.int .u16 b_17), (.int .u8 a_0), (.int .u8 a_1), (.int .u16 a_2), (.int .u32 a_3), (.int .u8 a_4), (.int .u8 a_5), (.int .u8 a_6), (.int .u8 a_7), (.int .u8 a_8), (.int .u8 a_9), (.int .u8 a_10), (.int .u32 a_11), (.slice (a_12) a_12l a_12c), (.int .u8 a_13), (.string a_14), (.slice (a_15) a_15l a_15c), (.int .u8 a_16), (.int .u16 a_17)] 36)) w7 L8) →
    X.CallX Tryd.prog 8 #[(.agg #[(.int .u8 a_0), (.int .u8 a_1), (.int .u16 a_2), (.int .u32 a_3), (.int .u8 a_4), (.int .u8 a_5), (.int .u8 a_6), (.int .u8 a_7), (.int .u8 a_8), (.int .u8 a_9), (.int .u8 a_10), (.int .u32 a_11), (.slice (a_12) a_12l a_12c), (.int .u8 a_13), (.string a_14), (.slice (a_15) a_15l a_15c), (.int .u8 a_16), (.int .u16 a_17)])] w7 fun e9 w10 =>
     ∃ n11 : Int, ∃ n12 : Int, ∃ n13 : Int, ∃ n14 : Int, ∃ n15 : Int, ∃ n16 : Int, ∃ n17 : Int, ∃ n18 : Int, ∃ n19 : Int, ∃ n20 : Int, ∃ n21 : Int, ∃ n22 : Int, ∃ q23 : Option Addr, ∃ k24 : Nat, ∃ k25 : Nat, ∃ n26 : Int, ∃ s27 : ByteArray, ∃ q28 : Option Addr, ∃ k29 : Nat, ∃ k30 : Nat, ∃ n31 : Int, ∃ n32 : Int, (e9 = .returned (.agg #[(.int .u8 n11), (.int .u8 n12), (.int .u16 n13), (.int .u32 n14), (.int .u8 n15), (.int .u8 n16), (.int .u8 n17), (.int .u8 n18), (.int .u8 n19), (.int .u8 n20), (.int .u8 n21), (.int .u32 n22), (.slice (q23) k24 k25), (.int .u8 n26), (.string s27), (.slice (q28) k29 k30), (.int .u8 n31), (.int .u16 n32)])) ∧
     (X.Kept L8 w7 w10) ∧
     (X.FactsW x6 w10 (L8)) ∧
     ∃ x33 : X.Facts, (X.FactsW x33 w10 (L8)) ∧
     (∀ x34 : Addr × List Value, (x34 ∈ x6) →
      x34 ∈ x33) ∧
     X.CallX Tryd.prog 15 #[(.agg #[(.int .u8 n11), (.int .u8 n12), (.int .u16 n13), (.int .u32 n14), (.int .u8 n15), (.int .u8 n16), (.int .u8 n17), (.int .u8 n18), (.int .u8 n19), (.int .u8 n20), (.int .u8 n21), (.int .u32 n22), (.slice (q23) k24 k25), (.int .u8 n26), (.string s27), (.slice (q28) k29 k30), (.int .u8 n31), (.int .u16 n32)])] w10 fun e35 w36 =>
      ∃ s37 : ByteArray, (e35 = .returned (.string s37)) ∧
      (X.Kept L8 w10 w36) ∧
      (X.FactsW x33 w36 (L8)) ∧
      ∃ x38 : X.Facts, (X.FactsW x38 w36 (L8)) ∧
      (∀ x39 : Addr × List Value, (x39 ∈ x33) →
       x39 ∈ x38) ∧
      X.CallX Tryd.prog 16 #[(.agg #[(.int .u8 a_0), (.int .u8 a_1), (.int .u16 a_2), (.int .u32 a_3), (.int .u8 a_4), (.int .u8 a_5), (.int .u8 a_6), (.int .u8 a_7), (.int .u8 a_8), (.int .u8 a_9), (.int .u8 a_10), (.int .u32 a_11), (.slice (a_12) a_12l a_12c), (.int .u8 a_13), (.string a_14), (.slice (a_15) a_15l a_15c), (.int .u8 a_16), (.int .u16 a_17)])] w36 fun e40 w41 =>
       ∃ s42 : ByteArray, (e40 = .returned (.string s42)) ∧
       (X.Kept L8 w36 w41) ∧
       (X.FactsW x38 w41 (L8)) ∧
       ∃ x43 : X.Facts, (X.FactsW x43 w41 (L8)) ∧
       (∀ x44 : Addr × List Value, (x44 ∈ x38) →
        x44 ∈ x43) ∧
       if (((s37.toList) == (s42.toList)) == true) = true then
        X.CallX Tryd.prog 8 #[(.agg #[(.int .u8 a_0), (.int .u8 a_1), (.int .u16 a_2), (.int .u32 a_3), (.int .u8 a_4), (.int .u8 a_5), (.int .u8 a_6), (.int .u8 a_7), (.int .u8 a_8), (.int .u8 a_9), (.int .u8 a_10), (.int .u32 a_11), (.slice (a_12) a_12l a_12c), (.int .u8 a_13), (.string a_14), (.slice (a_15) a_15l a_15c), (.int .u8 a_16), (.int .u16 a_17)])] w41 fun e45 w46 =>
         ∃ n47 : Int, ∃ n48 : Int, ∃ n49 : Int, ∃ n50 : Int, ∃ n51 : Int, ∃ n52 : Int, ∃ n53 : Int, ∃ n54 : Int, ∃ n55 : Int, ∃ n56 : Int, ∃ n57 : Int, ∃ n58 : Int, ∃ q59 : Option Addr, ∃ k60 : Nat, ∃ k61 : Nat, ∃ n62 : Int, ∃ s63 : ByteArray, ∃ q64 : Option Addr, ∃ k65 : Nat, ∃ k66 : Nat, ∃ n67 : Int, ∃ n68 : Int, (e45 = .returned (.agg #[(.int .u8 n47), (.int .u8 n48), (.int .u16 n49), (.int .u32 n50), (.int .u8 n51), (.int .u8 n52), (.int .u8 n53), (.int .u8 n54), (.int .u8 n55), (.int .u8 n56), (.int .u8 n57), (.int .u32 n58), (.slice (q59) k60 k61), (.int .u8 n62), (.string s63), (.slice (q64) k65 k66), (.int .u8 n67), (.int .u16 n68)])) ∧
         (X.Kept L8 w41 w46) ∧
         (X.FactsW x43 w46 (L8)) ∧
         X.CallX Tryd.prog 8 #[(.agg #[(.int .u8 b_0), (.int .u8 b_1), (.int .u16 b_2), (.int .u32 b_3), (.int .u8 b_4), (.int .u8 b_5), (.int .u8 b_6), (.int .u8 b_7), (.int .u8 b_8), (.int .u8 b_9), (.int .u8 b_10), (.int .u32 b_11), (.slice (b_12) b_12l b_12c), (.int .u8 b_13), (.string b_14), (.slice (b_15) b_15l b_15c), (.int .u8 b_16), (.int .u16 b_17)])] w46 fun e69 w70 =>
          ∃ n71 : Int, ∃ n72 : Int, ∃ n73 : Int, ∃ n74 : Int, ∃ n75 : Int, ∃ n76 : Int, ∃ n77 : Int, ∃ n78 : Int, ∃ n79 : Int, ∃ n80 : Int, ∃ n81 : Int, ∃ n82 : Int, ∃ q83 : Option Addr, ∃ k84 : Nat, ∃ k85 : Nat, ∃ n86 : Int, ∃ s87 : ByteArray, ∃ q88 : Option Addr, ∃ k89 : Nat, ∃ k90 : Nat, ∃ n91 : Int, ∃ n92 : Int, (e69 = .returned (.agg #[(.int .u8 n71), (.int .u8 n72), (.int .u16 n73), (.int .u32 n74), (.int .u8 n75), (.int .u8 n76), (.int .u8 n77), (.int .u8 n78), (.int .u8 n79), (.int .u8 n80), (.int .u8 n81), (.int .u32 n82), (.slice (q83) k84 k85), (.int .u8 n86), (.string s87), (.slice (q88) k89 k90), (.int .u8 n91), (.int .u16 n92)])) ∧
          (X.Kept L8 w46 w70) ∧
          (X.FactsW x43 w70 (L8)) ∧
          X.CallX Tryd.prog 12 #[(.agg #[(.int .u8 n47), (.int .u8 n48), (.int .u16 n49), (.int .u32 n50), (.int .u8 n51), (.int .u8 n52), (.int .u8 n53), (.int .u8 n54), (.int .u8 n55), (.int .u8 n56), (.int .u8 n57), (.int .u32 n58), (.slice (q59) k60 k61), (.int .u8 n62), (.string s63), (.slice (q64) k65 k66), (.int .u8 n67), (.int .u16 n68)]), (.agg #[(.int .u8 n71), (.int .u8 n72), (.int .u16 n73), (.int .u32 n74), (.int .u8 n75), (.int .u8 n76), (.int .u8 n77), (.int .u8 n78), (.int .u8 n79), (.int .u8 n80), (.int .u8 n81), (.int .u32 n82), (.slice (q83) k84 k85), (.int .u8 n86), (.string s87), (.slice (q88) k89 k90), (.int .u8 n91), (.int .u16 n92)])] w70 fun e93 w94 =>
           ∃ b95 : Bool, (e93 = .returned (.bool b95)) ∧
           (X.Kept L8 w70 w94) ∧
           (X.FactsW x43 w94 (L8)) ∧
           X.CallX Tryd.prog 13 #[(.agg #[(.int .u8 a_0), (.int .u8 a_1), (.int .u16 a_2), (.int .u32 a_3), (.int .u8 a_4), (.int .u8 a_5), (.int .u8 a_6), (.int .u8 a_7), (.int .u8 a_8), (.int .u8 a_9), (.int .u8 a_10), (.int .u32 a_11), (.slice (a_12) a_12l a_12c), (.int .u8 a_13), (.string a_14), (.slice (a_15) a_15l a_15c), (.int .u8 a_16), (.int .u16 a_17)]), (.agg #[(.int .u8 b_0), (.int .u8 b_1), (.int .u16 b_2), (.int .u32 b_3), (.int .u8 b_4), (.int .u8 b_5), (.int .u8 b_6), (.int .u8 b_7), (.int .u8 b_8), (.int .u8 b_9), (.int .u8 b_10), (.int .u32 b_11), (.slice (b_12) b_12l b_12c), (.int .u8 b_13), (.string b_14), (.slice (b_15) b_15l b_15c), (.int .u8 b_16), (.int .u16 b_17)])] w94 fun e96 w97 =>
            ∃ b98 : Bool, (e96 = .returned (.bool b98)) ∧
            (X.Kept L8 w94 w97) ∧
            (X.FactsW x43 w97 (L8)) ∧
            if ((true && (b95 == b98)) == true) = true then
             X.CallX Tryd.prog 18 #[(.slice (some ⟨(w4).heap.size, 0, none⟩) 2 2)] w97 fun e99 w100 =>
              ∃ q101 : Option Addr, ∃ k102 : Nat, ∃ k103 : Nat, (e99 = .returned (.slice (q101) k102 k103)) ∧
              (X.Kept L8 w97 w100) ∧
              (X.FactsW x43 w100 (L8)) ∧
              X.CallX Tryd.prog 18 #[(.slice (some ⟨((w4.alloc (.cells #[(.int .u8 a_0), (.int .u8 a_1), (.int .u16 a_2), (.int .u32 a_3), (.int .u8 a_4), (.int .u8 a_5), (.int .u8 a_6), (.int .u8 a_7), (.int .u8 a_8), (.int .u8 a_9), (.int .u8 a_10), (.int .u32 a_11), (.slice (a_12) a_12l a_12c), (.int .u8 a_13), (.string a_14), (.slice (a_15) a_15l a_15c), (.int .u8 a_16), (.int .u16 a_17), (.int .u8 b_0), (.int .u8 b_1), (.int .u16 b_2), (.int .u32 b_3), (.int .u8 b_4), (.int .u8 b_5), (.int .u8 b_6), (.int .u8 b_7), (.int .u8 b_8), (.int .u8 b_9), (.int .u8 b_10), (.int .u32 b_11), (.slice (b_12) b_12l b_12c), (.int .u8 b_13), (.string b_14), (.slice (b_15) b_15l b_15c), (.int .u8 b_16), (.int .u16 b_17)] 36))).heap.size, 0, none⟩) 2 2)] w100 fun e104 w105 =>
               ∃ q106 : Option Addr, ∃ k107 : Nat, ∃ k108 : Nat, (e104 = .returned (.slice (q106) k107 k108)) ∧
               (X.Kept L8 w100 w105) ∧
               (X.FactsW x43 w105 (L8)) ∧
               X.CallX Tryd.prog 17 #[(.slice (q101) k102 k103), (.slice (q106) k107 k108)] w105 fun e109 w110 =>
                ∃ b111 : Bool, (e109 = .returned (.bool b111)) ∧
                (X.Kept L8 w105 w110) ∧
                (X.FactsW x43 w110 (L8)) ∧
                X.CallX Tryd.prog 19 #[(.slice (some ⟨(w4).heap.size, 0, none⟩) 2 2), (.slice (some ⟨((w4.alloc (.cells #[(.int .u8 a_0), (.int .u8 a_1), (.int .u16 a_2), (.int .u32 a_3), (.int .u8 a_4), (.int .u8 a_5), (.int .u8 a_6), (.int .u8 a_7), (.int .u8 a_8), (.int .u8 a_9), (.int .u8 a_10), (.int .u32 a_11), (.slice (a_12) a_12l a_12c), (.int .u8 a_13), (.string a_14), (.slice (a_15) a_15l a_15c), (.int .u8 a_16), (.int .u16 a_17), (.int .u8 b_0), (.int .u8 b_1), (.int .u16 b_2), (.int .u32 b_3), (.int .u8 b_4), (.int .u8 b_5), (.int .u8 b_6), (.int .u8 b_7), (.int .u8 b_8), (.int .u8 b_9), (.int .u8 b_10), (.int .u32 b_11), (.slice (b_12) b_12l b_12c), (.int .u8 b_13), (.string b_14), (.slice (b_15) b_15l b_15c), (.int .u8 b_16), (.int .u16 b_17)] 36))).heap.size, 0, none⟩) 2 2)] w110 fun e112 w113 =>
                 ∃ b114 : Bool, (e112 = .returned (.bool b114)) ∧
                 (X.Kept L8 w110 w113) ∧
                 (X.FactsW x43 w113 (L8)) ∧
                 if ((true && (b111 == b114)) == true) = true then
                  ((0 : Int) ≤ 1) ∧
                  ((1 : Int) ≤ 2) ∧
                  X.CallX Tryd.prog 18 #[(.slice (some ⟨(w4).heap.size, 0, none⟩) 2 2)] w113 fun e115 w116 =>
                   ∃ q117 : Option Addr, ∃ k118 : Nat, ∃ k119 : Nat, (e115 = .returned (.slice (q117) k118 k119)) ∧
                   (X.Kept L8 w113 w116) ∧
                   (X.FactsW x43 w116 (L8)) ∧
                   X.CallX Tryd.prog 18 #[(.slice (X.cutA (some ⟨(w4).heap.size, 0, none⟩) 2 0 18) 1 2)] w116 fun e120 w121 =>
                    ∃ q122 : Option Addr, ∃ k123 : Nat, ∃ k124 : Nat, (e120 = .returned (.slice (q122) k123 k124)) ∧
                    (X.Kept L8 w116 w121) ∧
                    (X.FactsW x43 w121 (L8)) ∧
                    X.CallX Tryd.prog 17 #[(.slice (q117) k118 k119), (.slice (q122) k123 k124)] w121 fun e125 w126 =>
                     ∃ b127 : Bool, (e125 = .returned (.bool b127)) ∧
                     (X.Kept L8 w121 w126) ∧
                     (X.FactsW x43 w126 (L8)) ∧
                     if ((true && (!b127)) == true) = true then
                      X.CallX Tryd.prog 7 #[] w126 fun e128 w129 =>
                       ∃ b130 : Bool, (e128 = .returned (.bool b130)) ∧
                       (X.Kept L8 w126 w129) ∧
                       (X.FactsW x43 w129 (L8)) ∧
                       R (.returned (.bool (true && b130))) w129
                     else
                      R (.returned (.bool false)) w126
                 else
                  R (.returned (.bool false)) w113
            else
             R (.returned (.bool false)) w97
       else
        R (.returned (.bool false)) w41) :
    Calls Tryd.prog 5 #[.agg #[.int .u8 a_0, .int .u8 a_1, .int .u16 a_2, .int .u32 a_3, .int .u8 a_4, .int .u8 a_5, .int .u8 a_6, .int .u8 a_7, .int .u8 a_8, .int .u8 a_9, .int .u8 a_10, .int .u32 a_11, .slice a_12 a_12l a_12c, .int .u8 a_13, .string a_14, .slice a_15 a_15l a_15c, .int .u8 a_16, .int .u16 a_17], .agg #[.int .u8 b_0, .int .u8 b_1, .int .u16 b_2, .int .u32 b_3, .int .u8 b_4, .int .u8 b_5, .int .u8 b_6, .int .u8 b_7, .int .u8 b_8, .int .u8 b_9, .int .u8 b_10, .int .u32 b_11, .slice b_12 b_12l b_12c, .int .u8 b_13, .string b_14, .slice b_15 b_15l b_15c, .int .u8 b_16, .int .u16 b_17]] w R :=
  X.calls_of { isLoc := [2, 3], sym := [], loops := [], joins := [] } Tryd.func5 (by kernel_rfl) h
end Go.Proofs
