import Derived.Test.YtjphfelmaingjaaXFn
import Derived.Test.YtjphfelmaingjaaProg
set_option maxRecDepth 100000
set_option linter.unusedVariables false
/- The verification conditions of this seat's functions, as the engine has them: printed by a program of the bench; checked by the kernel. -/
namespace Go.Proofs
open Go
abbrev fn_WireRights : Nat := 3
theorem x_WireRights (a_0 a_1 a_2 a_3 a_4 a_5 a_6 a_7 a_8 a_9 a_10 a_11 a_12 a_13 a_14 a_15 a_16 a_17 a_18 : Int) (a_19 : Option Addr) (a_19l a_19c : Nat) (a_20 : Int) (a_21 : ByteArray) (a_22 a_23 : Int) (a_24 : Option Addr) (a_24l a_24c : Nat) (a_25 a_26 : Int) (a_27 : Bool) (a_28 : Option Addr) (a_28l a_28c : Nat) (a_29 : Option Addr) (a_29l a_29c : Nat) (a_30 : Option Addr) (a_30l a_30c : Nat) (b_0 b_1 b_2 b_3 b_4 b_5 b_6 b_7 b_8 b_9 b_10 b_11 b_12 b_13 b_14 b_15 b_16 b_17 b_18 : Int) (b_19 : Option Addr) (b_19l b_19c : Nat) (b_20 : Int) (b_21 : ByteArray) (b_22 b_23 : Int) (b_24 : Option Addr) (b_24l b_24c : Nat) (b_25 b_26 : Int) (b_27 : Bool) (b_28 : Option Addr) (b_28l b_28c : Nat) (b_29 : Option Addr) (b_29l b_29c : Nat) (b_30 : Option Addr) (b_30l b_30c : Nat) (w : World) (R : Ending → World → Prop) (h :
  ∀ w1 : World, ∀ L2 : List Nat, (X.Hid [] w w1) →
  (X.NewL (w).heap.size [] w w1 L2) →
  X.CallX Try.prog 7 #[(.agg #[(.int .u8 a_0), (.int .u8 a_1), (.int .u8 a_2), (.int .u32 a_3), (.int .u32 a_4), (.int .u32 a_5), (.int .u32 a_6), (.int .u64 a_7), (.int .u64 a_8), (.int .u8 a_9), (.int .u16 a_10), (.int .u32 a_11), (.int .u8 a_12), (.int .u8 a_13), (.int .u8 a_14), (.int .u8 a_15), (.int .u8 a_16), (.int .u8 a_17), (.int .u8 a_18), (.slice (a_19) a_19l a_19c), (.int .u8 a_20), (.string a_21), (.int .u8 a_22), (.int .u32 a_23), (.slice (a_24) a_24l a_24c), (.int .u8 a_25), (.int .u16 a_26), (.bool a_27), (.slice (a_28) a_28l a_28c), (.slice (a_29) a_29l a_29c), (.slice (a_30) a_30l a_30c)])] w1 fun e3 w4 =>
   ∃ b5 : Bool, (e3 = .returned (.bool b5)) ∧
   (X.Kept L2 w1 w4) ∧
   if ((!b5) == false) = true then
    X.CallX Try.prog 7 #[(.agg #[(.int .u8 b_0), (.int .u8 b_1), (.int .u8 b_2), (.int .u32 b_3), (.int .u32 b_4), (.int .u32 b_5), (.int .u32 b_6), (.int .u64 b_7), (.int .u64 b_8), (.int .u8 b_9), (.int .u16 b_10), (.int .u32 b_11), (.int .u8 b_12), (.int .u8 b_13), (.int .u8 b_14), (.int .u8 b_15), (.int .u8 b_16), (.int .u8 b_17), (.int .u8 b_18), (.slice (b_19) b_19l b_19c), (.int .u8 b_20), (.string b_21), (.int .u8 b_22), (.int .u32 b_23), (.slice (b_24) b_24l b_24c), (.int .u8 b_25), (.int .u16 b_26), (.bool b_27), (.slice (b_28) b_28l b_28c), (.slice (b_29) b_29l b_29c), (.slice (b_30) b_30l b_30c)])] w4 fun e9 w10 =>
     ∃ b11 : Bool, (e9 = .returned (.bool b11)) ∧
     (X.Kept L2 w4 w10) ∧
     if (false || (!b11)) = true then
      X.CallX Try.prog 8 #[] w10 fun e294 w295 =>
       ∃ b296 : Bool, (e294 = .returned (.bool b296)) ∧
       (X.Kept L2 w10 w295) ∧
       R (.returned (.bool b296)) w295
     else
      ∃ x12 : X.Facts, (X.FactsW x12 w10 (L2)) ∧
      ∀ w13 : World, ∀ L14 : List Nat, (X.Hid (L2) w10 w13) →
      (X.NewL (w).heap.size (L2) w10 w13 L14) →
      X.CallX Try.prog 9 #[(.agg #[(.int .u8 a_0), (.int .u8 a_1), (.int .u8 a_2), (.int .u32 a_3), (.int .u32 a_4), (.int .u32 a_5), (.int .u32 a_6), (.int .u64 a_7), (.int .u64 a_8), (.int .u8 a_9), (.int .u16 a_10), (.int .u32 a_11), (.int .u8 a_12), (.int .u8 a_13), (.int .u8 a_14), (.int .u8 a_15), (.int .u8 a_16), (.int .u8 a_17), (.int .u8 a_18), (.slice (a_19) a_19l a_19c), (.int .u8 a_20), (.string a_21), (.int .u8 a_22), (.int .u32 a_23), (.slice (a_24) a_24l a_24c), (.int .u8 a_25), (.int .u16 a_26), (.bool a_27), (.slice (a_28) a_28l a_28c), (.slice (a_29) a_29l a_29c), (.slice (a_30) a_30l a_30c)])] w13 fun e15 w16 =>
       ∃ n17 : Int, ∃ n18 : Int, ∃ n19 : Int, ∃ n20 : Int, ∃ n21 : Int, ∃ n22 : Int, ∃ n23 : Int, ∃ n24 : Int, ∃ n25 : Int, ∃ n26 : Int, ∃ n27 : Int, ∃ n28 : Int, ∃ n29 : Int, ∃ n30 : Int, ∃ n31 : Int, ∃ n32 : Int, ∃ n33 : Int, ∃ n34 : Int, ∃ n35 : Int, ∃ q36 : Option Addr, ∃ k37 : Nat, ∃ k38 : Nat, ∃ n39 : Int, ∃ s40 : ByteArray, ∃ n41 : Int, ∃ n42 : Int, ∃ q43 : Option Addr, ∃ k44 : Nat, ∃ k45 : Nat, ∃ n46 : Int, ∃ n47 : Int, ∃ b48 : Bool, ∃ q49 : Option Addr, ∃ k50 : Nat, ∃ k51 : Nat, ∃ q52 : Option Addr, ∃ k53 : Nat, ∃ k54 : Nat, ∃ q55 : Option Addr, ∃ k56 : Nat, ∃ k57 : Nat, (e15 = .returned (.agg #[(.int .u8 n17), (.int .u8 n18), (.int .u8 n19), (.int .u32 n20), (.int .u32 n21), (.int .u32 n22), (.int .u32 n23), (.int .u64 n24), (.int .u64 n25), (.int .u8 n26), (.int .u16 n27), (.int .u32 n28), (.int .u8 n29), (.int .u8 n30), (.int .u8 n31), (.int .u8 n32), (.int .u8 n33), (.int .u8 n34), (.int .u8 n35), (.slice (q36) k37 k38), (.int .u8 n39), (.string s40), (.int .u8 n41), (.int .u32 n42), (.slice (q43) k44 k45), (.int .u8 n46), (.int .u16 n47), (.bool b48), (.slice (q49) k50 k51), (.slice (q52) k53 k54), (.slice (q55) k56 k57)])) ∧
       (X.Kept L14 w13 w16) ∧
       (X.FactsW x12 w16 (L14)) ∧
       ∃ x58 : X.Facts, (X.FactsW x58 w16 (L14)) ∧
       (∀ x59 : Addr × List Value, (x59 ∈ x12) →
        x59 ∈ x58) ∧
       X.CallX Try.prog 10 #[(.agg #[(.int .u8 n17), (.int .u8 n18), (.int .u8 n19), (.int .u32 n20), (.int .u32 n21), (.int .u32 n22), (.int .u32 n23), (.int .u64 n24), (.int .u64 n25), (.int .u8 n26), (.int .u16 n27), (.int .u32 n28), (.int .u8 n29), (.int .u8 n30), (.int .u8 n31), (.int .u8 n32), (.int .u8 n33), (.int .u8 n34), (.int .u8 n35), (.slice (q36) k37 k38), (.int .u8 n39), (.string s40), (.int .u8 n41), (.int .u32 n42), (.slice (q43) k44 k45), (.int .u8 n46), (.int .u16 n47), (.bool b48), (.slice (q49) k50 k51), (.slice (q52) k53 k54), (.slice (q55) k56 k57)])] w16 fun e60 w61 =>
        ∃ b62 : Bool, (e60 = .returned (.bool b62)) ∧
        (X.Kept L14 w16 w61) ∧
        (X.FactsW x58 w61 (L14)) ∧
        ∃ x63 : X.Facts, (X.FactsW x63 w61 (L14)) ∧
        (∀ x64 : Addr × List Value, (x64 ∈ x58) →
         x64 ∈ x63) ∧
        X.CallX Try.prog 11 #[(.agg #[(.int .u8 a_0), (.int .u8 a_1), (.int .u8 a_2), (.int .u32 a_3), (.int .u32 a_4), (.int .u32 a_5), (.int .u32 a_6), (.int .u64 a_7), (.int .u64 a_8), (.int .u8 a_9), (.int .u16 a_10), (.int .u32 a_11), (.int .u8 a_12), (.int .u8 a_13), (.int .u8 a_14), (.int .u8 a_15), (.int .u8 a_16), (.int .u8 a_17), (.int .u8 a_18), (.slice (a_19) a_19l a_19c), (.int .u8 a_20), (.string a_21), (.int .u8 a_22), (.int .u32 a_23), (.slice (a_24) a_24l a_24c), (.int .u8 a_25), (.int .u16 a_26), (.bool a_27), (.slice (a_28) a_28l a_28c), (.slice (a_29) a_29l a_29c), (.slice (a_30) a_30l a_30c)])] w61 fun e65 w66 =>
         ∃ b67 : Bool, (e65 = .returned (.bool b67)) ∧
         (X.Kept L14 w61 w66) ∧
         (X.FactsW x63 w66 (L14)) ∧
         ∃ x68 : X.Facts, (X.FactsW x68 w66 (L14)) ∧
         (∀ x69 : Addr × List Value, (x69 ∈ x63) →
          x69 ∈ x68) ∧
         if ((b62 == b67) == true) = true then
          X.CallX Try.prog 9 #[(.agg #[(.int .u8 a_0), (.int .u8 a_1), (.int .u8 a_2), (.int .u32 a_3), (.int .u32 a_4), (.int .u32 a_5), (.int .u32 a_6), (.int .u64 a_7), (.int .u64 a_8), (.int .u8 a_9), (.int .u16 a_10), (.int .u32 a_11), (.int .u8 a_12), (.int .u8 a_13), (.int .u8 a_14), (.int .u8 a_15), (.int .u8 a_16), (.int .u8 a_17), (.int .u8 a_18), (.slice (a_19) a_19l a_19c), (.int .u8 a_20), (.string a_21), (.int .u8 a_22), (.int .u32 a_23), (.slice (a_24) a_24l a_24c), (.int .u8 a_25), (.int .u16 a_26), (.bool a_27), (.slice (a_28) a_28l a_28c), (.slice (a_29) a_29l a_29c), (.slice (a_30) a_30l a_30c)])] w66 fun e84 w85 =>
           ∃ n86 : Int, ∃ n87 : Int, ∃ n88 : Int, ∃ n89 : Int, ∃ n90 : Int, ∃ n91 : Int, ∃ n92 : Int, ∃ n93 : Int, ∃ n94 : Int, ∃ n95 : Int, ∃ n96 : Int, ∃ n97 : Int, ∃ n98 : Int, ∃ n99 : Int, ∃ n100 : Int, ∃ n101 : Int, ∃ n102 : Int, ∃ n103 : Int, ∃ n104 : Int, ∃ q105 : Option Addr, ∃ k106 : Nat, ∃ k107 : Nat, ∃ n108 : Int, ∃ s109 : ByteArray, ∃ n110 : Int, ∃ n111 : Int, ∃ q112 : Option Addr, ∃ k113 : Nat, ∃ k114 : Nat, ∃ n115 : Int, ∃ n116 : Int, ∃ b117 : Bool, ∃ q118 : Option Addr, ∃ k119 : Nat, ∃ k120 : Nat, ∃ q121 : Option Addr, ∃ k122 : Nat, ∃ k123 : Nat, ∃ q124 : Option Addr, ∃ k125 : Nat, ∃ k126 : Nat, (e84 = .returned (.agg #[(.int .u8 n86), (.int .u8 n87), (.int .u8 n88), (.int .u32 n89), (.int .u32 n90), (.int .u32 n91), (.int .u32 n92), (.int .u64 n93), (.int .u64 n94), (.int .u8 n95), (.int .u16 n96), (.int .u32 n97), (.int .u8 n98), (.int .u8 n99), (.int .u8 n100), (.int .u8 n101), (.int .u8 n102), (.int .u8 n103), (.int .u8 n104), (.slice (q105) k106 k107), (.int .u8 n108), (.string s109), (.int .u8 n110), (.int .u32 n111), (.slice (q112) k113 k114), (.int .u8 n115), (.int .u16 n116), (.bool b117), (.slice (q118) k119 k120), (.slice (q121) k122 k123), (.slice (q124) k125 k126)])) ∧
           (X.Kept L14 w66 w85) ∧
           (X.FactsW x68 w85 (L14)) ∧
           ∃ x127 : X.Facts, (X.FactsW x127 w85 (L14)) ∧
           (∀ x128 : Addr × List Value, (x128 ∈ x68) →
            x128 ∈ x127) ∧
           X.CallX Try.prog 9 #[(.agg #[(.int .u8 b_0), (.int .u8 b_1), (.int .u8 b_2), (.int .u32 b_3), (.int .u32 b_4), (.int .u32 b_5), (.int .u32 b_6), (.int .u64 b_7), (.int .u64 b_8), (.int .u8 b_9), (.int .u16 b_10), (.int .u32 b_11), (.int .u8 b_12), (.int .u8 b_13), (.int .u8 b_14), (.int .u8 b_15), (.int .u8 b_16), (.int .u8 b_17), (.int .u8 b_18), (.slice (b_19) b_19l b_19c), (.int .u8 b_20), (.string b_21), (.int .u8 b_22), (.int .u32 b_23), (.slice (b_24) b_24l b_24c), (.int .u8 b_25), (.int .u16 b_26), (.bool b_27), (.slice (b_28) b_28l b_28c), (.slice (b_29) b_29l b_29c), (.slice (b_30) b_30l b_30c)])] w85 fun e129 w130 =>
            ∃ n131 : Int, ∃ n132 : Int, ∃ n133 : Int, ∃ n134 : Int, ∃ n135 : Int, ∃ n136 : Int, ∃ n137 : Int, ∃ n138 : Int, ∃ n139 : Int, ∃ n140 : Int, ∃ n141 : Int, ∃ n142 : Int, ∃ n143 : Int, ∃ n144 : Int, ∃ n145 : Int, ∃ n146 : Int, ∃ n147 : Int, ∃ n148 : Int, ∃ n149 : Int, ∃ q150 : Option Addr, ∃ k151 : Nat, ∃ k152 : Nat, ∃ n153 : Int, ∃ s154 : ByteArray, ∃ n155 : Int, ∃ n156 : Int, ∃ q157 : Option Addr, ∃ k158 : Nat, ∃ k159 : Nat, ∃ n160 : Int, ∃ n161 : Int, ∃ b162 : Bool, ∃ q163 : Option Addr, ∃ k164 : Nat, ∃ k165 : Nat, ∃ q166 : Option Addr, ∃ k167 : Nat, ∃ k168 : Nat, ∃ q169 : Option Addr, ∃ k170 : Nat, ∃ k171 : Nat, (e129 = .returned (.agg #[(.int .u8 n131), (.int .u8 n132), (.int .u8 n133), (.int .u32 n134), (.int .u32 n135), (.int .u32 n136), (.int .u32 n137), (.int .u64 n138), (.int .u64 n139), (.int .u8 n140), (.int .u16 n141), (.int .u32 n142), (.int .u8 n143), (.int .u8 n144), (.int .u8 n145), (.int .u8 n146), (.int .u8 n147), (.int .u8 n148), (.int .u8 n149), (.slice (q150) k151 k152), (.int .u8 n153), (.string s154), (.int .u8 n155), (.int .u32 n156), (.slice (q157) k158 k159), (.int .u8 n160), (.int .u16 n161), (.bool b162), (.slice (q163) k164 k165), (.slice (q166) k167 k168), (.slice (q169) k170 k171)])) ∧
            (X.Kept L14 w85 w130) ∧
            (X.FactsW x127 w130 (L14)) ∧
            ∃ x172 : X.Facts, (X.FactsW x172 w130 (L14)) ∧
            (∀ x173 : Addr × List Value, (x173 ∈ x127) →
             x173 ∈ x172) ∧
            X.CallX Try.prog 12 #[(.agg #[(.int .u8 n86), (.int .u8 n87), (.int .u8 n88), (.int .u32 n89), (.int .u32 n90), (.int .u32 n91), (.int .u32 n92), (.int .u64 n93), (.int .u64 n94), (.int .u8 n95), (.int .u16 n96), (.int .u32 n97), (.int .u8 n98), (.int .u8 n99), (.int .u8 n100), (.int .u8 n101), (.int .u8 n102), (.int .u8 n103), (.int .u8 n104), (.slice (q105) k106 k107), (.int .u8 n108), (.string s109), (.int .u8 n110), (.int .u32 n111), (.slice (q112) k113 k114), (.int .u8 n115), (.int .u16 n116), (.bool b117), (.slice (q118) k119 k120), (.slice (q121) k122 k123), (.slice (q124) k125 k126)]), (.agg #[(.int .u8 n131), (.int .u8 n132), (.int .u8 n133), (.int .u32 n134), (.int .u32 n135), (.int .u32 n136), (.int .u32 n137), (.int .u64 n138), (.int .u64 n139), (.int .u8 n140), (.int .u16 n141), (.int .u32 n142), (.int .u8 n143), (.int .u8 n144), (.int .u8 n145), (.int .u8 n146), (.int .u8 n147), (.int .u8 n148), (.int .u8 n149), (.slice (q150) k151 k152), (.int .u8 n153), (.string s154), (.int .u8 n155), (.int .u32 n156), (.slice (q157) k158 k159), (.int .u8 n160), (.int .u16 n161), (.bool b162), (.slice (q163) k164 k165), (.slice (q166) k167 k168), (.slice (q169) k170 k171)])] w130 fun e174 w175 =>
             ∃ b176 : Bool, (e174 = .returned (.bool b176)) ∧
             (X.Kept L14 w130 w175) ∧
             (X.FactsW x172 w175 (L14)) ∧
             ∃ x177 : X.Facts, (X.FactsW x177 w175 (L14)) ∧
             (∀ x178 : Addr × List Value, (x178 ∈ x172) →
              x178 ∈ x177) ∧
             X.CallX Try.prog 13 #[(.agg #[(.int .u8 a_0), (.int .u8 a_1), (.int .u8 a_2), (.int .u32 a_3), (.int .u32 a_4), (.int .u32 a_5), (.int .u32 a_6), (.int .u64 a_7), (.int .u64 a_8), (.int .u8 a_9), (.int .u16 a_10), (.int .u32 a_11), (.int .u8 a_12), (.int .u8 a_13), (.int .u8 a_14), (.int .u8 a_15), (.int .u8 a_16), (.int .u8 a_17), (.int .u8 a_18), (.slice (a_19) a_19l a_19c), (.int .u8 a_20), (.string a_21), (.int .u8 a_22), (.int .u32 a_23), (.slice (a_24) a_24l a_24c), (.int .u8 a_25), (.int .u16 a_26), (.bool a_27), (.slice (a_28) a_28l a_28c), (.slice (a_29) a_29l a_29c), (.slice (a_30) a_30l a_30c)]), (.agg #[(.int .u8 b_0), (.int .u8 b_1), (.int .u8 b_2), (.int .u32 b_3), (.int .u32 b_4), (.int .u32 b_5), (.int .u32 b_6), (.int .u64 b_7), (.int .u64 b_8), (.int .u8 b_9), (.int .u16 b_10), (.int .u32 b_11), (.int .u8 b_12), (.int .u8 b_13), (.int .u8 b_14), (.int .u8 b_15), (.int .u8 b_16), (.int .u8 b_17), (.int .u8 b_18), (.slice (b_19) b_19l b_19c), (.int .u8 b_20), (.string b_21), (.int .u8 b_22), (.int .u32 b_23), (.slice (b_24) b_24l b_24c), (.int .u8 b_25), (.int .u16 b_26), (.bool b_27), (.slice (b_28) b_28l b_28c), (.slice (b_29) b_29l b_29c), (.slice (b_30) b_30l b_30c)])] w175 fun e179 w180 =>
              ∃ b181 : Bool, (e179 = .returned (.bool b181)) ∧
              (X.Kept L14 w175 w180) ∧
              (X.FactsW x177 w180 (L14)) ∧
              ∃ x182 : X.Facts, (X.FactsW x182 w180 (L14)) ∧
              (∀ x183 : Addr × List Value, (x183 ∈ x177) →
               x183 ∈ x182) ∧
              if ((true && (b176 == b181)) == true) = true then
               X.CallX Try.prog 9 #[(.agg #[(.int .u8 a_0), (.int .u8 a_1), (.int .u8 a_2), (.int .u32 a_3), (.int .u32 a_4), (.int .u32 a_5), (.int .u32 a_6), (.int .u64 a_7), (.int .u64 a_8), (.int .u8 a_9), (.int .u16 a_10), (.int .u32 a_11), (.int .u8 a_12), (.int .u8 a_13), (.int .u8 a_14), (.int .u8 a_15), (.int .u8 a_16), (.int .u8 a_17), (.int .u8 a_18), (.slice (a_19) a_19l a_19c), (.int .u8 a_20), (.string a_21), (.int .u8 a_22), (.int .u32 a_23), (.slice (a_24) a_24l a_24c), (.int .u8 a_25), (.int .u16 a_26), (.bool a_27), (.slice (a_28) a_28l a_28c), (.slice (a_29) a_29l a_29c), (.slice (a_30) a_30l a_30c)])] w180 fun e190 w191 =>
                ∃ n192 : Int, ∃ n193 : Int, ∃ n194 : Int, ∃ n195 : Int, ∃ n196 : Int, ∃ n197 : Int, ∃ n198 : Int, ∃ n199 : Int, ∃ n200 : Int, ∃ n201 : Int, ∃ n202 : Int, ∃ n203 : Int, ∃ n204 : Int, ∃ n205 : Int, ∃ n206 : Int, ∃ n207 : Int, ∃ n208 : Int, ∃ n209 : Int, ∃ n210 : Int, ∃ q211 : Option Addr, ∃ k212 : Nat, ∃ k213 : Nat, ∃ n214 : Int, ∃ s215 : ByteArray, ∃ n216 : Int, ∃ n217 : Int, ∃ q218 : Option Addr, ∃ k219 : Nat, ∃ k220 : Nat, ∃ n221 : Int, ∃ n222 : Int, ∃ b223 : Bool, ∃ q224 : Option Addr, ∃ k225 : Nat, ∃ k226 : Nat, ∃ q227 : Option Addr, ∃ k228 : Nat, ∃ k229 : Nat, ∃ q230 : Option Addr, ∃ k231 : Nat, ∃ k232 : Nat, (e190 = .returned (.agg #[(.int .u8 n192), (.int .u8 n193), (.int .u8 n194), (.int .u32 n195), (.int .u32 n196), (.int .u32 n197), (.int .u32 n198), (.int .u64 n199), (.int .u64 n200), (.int .u8 n201), (.int .u16 n202), (.int .u32 n203), (.int .u8 n204), (.int .u8 n205), (.int .u8 n206), (.int .u8 n207), (.int .u8 n208), (.int .u8 n209), (.int .u8 n210), (.slice (q211) k212 k213), (.int .u8 n214), (.string s215), (.int .u8 n216), (.int .u32 n217), (.slice (q218) k219 k220), (.int .u8 n221), (.int .u16 n222), (.bool b223), (.slice (q224) k225 k226), (.slice (q227) k228 k229), (.slice (q230) k231 k232)])) ∧
                (X.Kept L14 w180 w191) ∧
                (X.FactsW x182 w191 (L14)) ∧
                ∃ x233 : X.Facts, (X.FactsW x233 w191 (L14)) ∧
                (∀ x234 : Addr × List Value, (x234 ∈ x182) →
                 x234 ∈ x233) ∧
                X.CallX Try.prog 9 #[(.agg #[(.int .u8 a_0), (.int .u8 a_1), (.int .u8 a_2), (.int .u32 a_3), (.int .u32 a_4), (.int .u32 a_5), (.int .u32 a_6), (.int .u64 a_7), (.int .u64 a_8), (.int .u8 a_9), (.int .u16 a_10), (.int .u32 a_11), (.int .u8 a_12), (.int .u8 a_13), (.int .u8 a_14), (.int .u8 a_15), (.int .u8 a_16), (.int .u8 a_17), (.int .u8 a_18), (.slice (a_19) a_19l a_19c), (.int .u8 a_20), (.string a_21), (.int .u8 a_22), (.int .u32 a_23), (.slice (a_24) a_24l a_24c), (.int .u8 a_25), (.int .u16 a_26), (.bool a_27), (.slice (a_28) a_28l a_28c), (.slice (a_29) a_29l a_29c), (.slice (a_30) a_30l a_30c)])] w191 fun e235 w236 =>
                 ∃ n237 : Int, ∃ n238 : Int, ∃ n239 : Int, ∃ n240 : Int, ∃ n241 : Int, ∃ n242 : Int, ∃ n243 : Int, ∃ n244 : Int, ∃ n245 : Int, ∃ n246 : Int, ∃ n247 : Int, ∃ n248 : Int, ∃ n249 : Int, ∃ n250 : Int, ∃ n251 : Int, ∃ n252 : Int, ∃ n253 : Int, ∃ n254 : Int, ∃ n255 : Int, ∃ q256 : Option Addr, ∃ k257 : Nat, ∃ k258 : Nat, ∃ n259 : Int, ∃ s260 : ByteArray, ∃ n261 : Int, ∃ n262 : Int, ∃ q263 : Option Addr, ∃ k264 : Nat, ∃ k265 : Nat, ∃ n266 : Int, ∃ n267 : Int, ∃ b268 : Bool, ∃ q269 : Option Addr, ∃ k270 : Nat, ∃ k271 : Nat, ∃ q272 : Option Addr, ∃ k273 : Nat, ∃ k274 : Nat, ∃ q275 : Option Addr, ∃ k276 : Nat, ∃ k277 : Nat, (e235 = .returned (.agg #[(.int .u8 n237), (.int .u8 n238), (.int .u8 n239), (.int .u32 n240), (.int .u32 n241), (.int .u32 n242), (.int .u32 n243), (.int .u64 n244), (.int .u64 n245), (.int .u8 n246), (.int .u16 n247), (.int .u32 n248), (.int .u8 n249), (.int .u8 n250), (.int .u8 n251), (.int .u8 n252), (.int .u8 n253), (.int .u8 n254), (.int .u8 n255), (.slice (q256) k257 k258), (.int .u8 n259), (.string s260), (.int .u8 n261), (.int .u32 n262), (.slice (q263) k264 k265), (.int .u8 n266), (.int .u16 n267), (.bool b268), (.slice (q269) k270 k271), (.slice (q272) k273 k274), (.slice (q275) k276 k277)])) ∧
                 (X.Kept L14 w191 w236) ∧
                 (X.FactsW x233 w236 (L14)) ∧
                 ∃ x278 : X.Facts, (X.FactsW x278 w236 (L14)) ∧
                 (∀ x279 : Addr × List Value, (x279 ∈ x233) →
                  x279 ∈ x278) ∧
                 X.CallX Try.prog 12 #[(.agg #[(.int .u8 n192), (.int .u8 n193), (.int .u8 n194), (.int .u32 n195), (.int .u32 n196), (.int .u32 n197), (.int .u32 n198), (.int .u64 n199), (.int .u64 n200), (.int .u8 n201), (.int .u16 n202), (.int .u32 n203), (.int .u8 n204), (.int .u8 n205), (.int .u8 n206), (.int .u8 n207), (.int .u8 n208), (.int .u8 n209), (.int .u8 n210), (.slice (q211) k212 k213), (.int .u8 n214), (.string s215), (.int .u8 n216), (.int .u32 n217), (.slice (q218) k219 k220), (.int .u8 n221), (.int .u16 n222), (.bool b223), (.slice (q224) k225 k226), (.slice (q227) k228 k229), (.slice (q230) k231 k232)]), (.agg #[(.int .u8 n237), (.int .u8 n238), (.int .u8 n239), (.int .u32 n240), (.int .u32 n241), (.int .u32 n242), (.int .u32 n243), (.int .u64 n244), (.int .u64 n245), (.int .u8 n246), (.int .u16 n247), (.int .u32 n248), (.int .u8 n249), (.int .u8 n250), (.int .u8 n251), (.int .u8 n252), (.int .u8 n253), (.int .u8 n254), (.int .u8 n255), (.slice (q256) k257 k258), (.int .u8 n259), (.string s260), (.int .u8 n261), (.int .u32 n262), (.slice (q263) k264 k265), (.int .u8 n266), (.int .u16 n267), (.bool b268), (.slice (q269) k270 k271), (.slice (q272) k273 k274), (.slice (q275) k276 k277)])] w236 fun e280 w281 =>
                  ∃ b282 : Bool, (e280 = .returned (.bool b282)) ∧
                  (X.Kept L14 w236 w281) ∧
                  (X.FactsW x278 w281 (L14)) ∧
                  ∃ x283 : X.Facts, (X.FactsW x283 w281 (L14)) ∧
                  (∀ x284 : Addr × List Value, (x284 ∈ x278) →
                   x284 ∈ x283) ∧
                  if ((true && b282) == true) = true then
                   X.CallX Try.prog 14 #[(.int .u8 a_0)] w281 fun e285 w286 =>
                    ∃ s287 : ByteArray, (e285 = .returned (.string s287)) ∧
                    (X.Kept L14 w281 w286) ∧
                    (X.FactsW x283 w286 (L14)) ∧
                    X.CallX Try.prog 15 #[(.int .u8 a_0)] w286 fun e288 w289 =>
                     ∃ s290 : ByteArray, (e288 = .returned (.string s290)) ∧
                     (X.Kept L14 w286 w289) ∧
                     (X.FactsW x283 w289 (L14)) ∧
                     if ((true && ((s287.toList) == (s290.toList))) == true) = true then
                      X.CallX Try.prog 8 #[] w289 fun e291 w292 =>
                       ∃ b293 : Bool, (e291 = .returned (.bool b293)) ∧
                       (X.Kept L14 w289 w292) ∧
                       (X.FactsW x283 w292 (L14)) ∧
                       R (.returned (.bool (true && b293))) w292
                     else
                      R (.returned (.bool false)) w289
                  else
                   R (.returned (.bool false)) w281
              else
               ∃ x184 : X.Facts, (X.FactsW x184 w180 (L14)) ∧
               (∀ x185 : Addr × List Value, (x185 ∈ x182) →
                x185 ∈ x184) ∧
               ∃ x186 : X.Facts, (X.FactsW x186 w180 (L14)) ∧
               (∀ x187 : Addr × List Value, (x187 ∈ x184) →
                x187 ∈ x186) ∧
               ∃ x188 : X.Facts, (X.FactsW x188 w180 (L14)) ∧
               (∀ x189 : Addr × List Value, (x189 ∈ x186) →
                x189 ∈ x188) ∧
               R (.returned (.bool false)) w180
         else
          ∃ x70 : X.Facts, (X.FactsW x70 w66 (L14)) ∧
          (∀ x71 : Addr × List Value, (x71 ∈ x68) →
           x71 ∈ x70) ∧
          ∃ x72 : X.Facts, (X.FactsW x72 w66 (L14)) ∧
          (∀ x73 : Addr × List Value, (x73 ∈ x70) →
           x73 ∈ x72) ∧
          ∃ x74 : X.Facts, (X.FactsW x74 w66 (L14)) ∧
          (∀ x75 : Addr × List Value, (x75 ∈ x72) →
           x75 ∈ x74) ∧
          ∃ x76 : X.Facts, (X.FactsW x76 w66 (L14)) ∧
          (∀ x77 : Addr × List Value, (x77 ∈ x74) →
           x77 ∈ x76) ∧
          ∃ x78 : X.Facts, (X.FactsW x78 w66 (L14)) ∧
          (∀ x79 : Addr × List Value, (x79 ∈ x76) →
           x79 ∈ x78) ∧
          ∃ x80 : X.Facts, (X.FactsW x80 w66 (L14)) ∧
          (∀ x81 : Addr × List Value, (x81 ∈ x78) →
           x81 ∈ x80) ∧
          ∃ x82 : X.Facts, (X.FactsW x82 w66 (L14)) ∧
          (∀ x83 : Addr × List Value, (x83 ∈ x80) →
           x83 ∈ x82) ∧
          R (.returned (.bool false)) w66
   else
    X.CallX Try.prog 8 #[] w4 fun e6 w7 =>
     ∃ b8 : Bool, (e6 = .returned (.bool b8)) ∧
     (X.Kept L2 w4 w7) ∧
     R (.returned (.bool b8)) w7) :
    Calls Try.prog 3 #[.agg #[.int .u8 a_0, .int .u8 a_1, .int .u8 a_2, .int .u32 a_3, .int .u32 a_4, .int .u32 a_5, .int .u32 a_6, .int .u64 a_7, .int .u64 a_8, .int .u8 a_9, .int .u16 a_10, .int .u32 a_11, .int .u8 a_12, .int .u8 a_13, .int .u8 a_14, .int .u8 a_15, .int .u8 a_16, .int .u8 a_17, .int .u8 a_18, .slice a_19 a_19l a_19c, .int .u8 a_20, .string a_21, .int .u8 a_22, .int .u32 a_23, .slice a_24 a_24l a_24c, .int .u8 a_25, .int .u16 a_26, .bool a_27, .slice a_28 a_28l a_28c, .slice a_29 a_29l a_29c, .slice a_30 a_30l a_30c], .agg #[.int .u8 b_0, .int .u8 b_1, .int .u8 b_2, .int .u32 b_3, .int .u32 b_4, .int .u32 b_5, .int .u32 b_6, .int .u64 b_7, .int .u64 b_8, .int .u8 b_9, .int .u16 b_10, .int .u32 b_11, .int .u8 b_12, .int .u8 b_13, .int .u8 b_14, .int .u8 b_15, .int .u8 b_16, .int .u8 b_17, .int .u8 b_18, .slice b_19 b_19l b_19c, .int .u8 b_20, .string b_21, .int .u8 b_22, .int .u32 b_23, .slice b_24 b_24l b_24c, .int .u8 b_25, .int .u16 b_26, .bool b_27, .slice b_28 b_28l b_28c, .slice b_29 b_29l b_29c, .slice b_30 b_30l b_30c]] w R :=
  X.calls_of { isLoc := [2, 3], sym := [], loops := [], joins := [] } Try.func3 (by kernel_rfl) h
abbrev fn_WireBounds : Nat := 4
theorem x_WireBounds (a_0 a_1 a_2 a_3 a_4 a_5 a_6 a_7 a_8 a_9 a_10 a_11 : Int) (a_12 : Option Addr) (a_12l a_12c : Nat) (a_13 : Int) (a_14 : ByteArray) (a_15 : Option Addr) (a_15l a_15c : Nat) (a_16 a_17 b c d : Int) (w : World) (R : Ending → World → Prop) (h :
  ∀ w1 : World, ∀ L2 : List Nat, (X.Hid [] w w1) →
  (X.NewL (w).heap.size [] w w1 L2) →
  X.CallX Try.prog 16 #[(.slice (some ⟨(w1).heap.size, 0, none⟩) 1 1)] (w1.alloc (.cells #[(.int .u8 a_0), (.int .u8 a_1), (.int .u16 a_2), (.int .u32 a_3), (.int .u8 a_4), (.int .u8 a_5), (.int .u8 a_6), (.int .u8 a_7), (.int .u8 a_8), (.int .u8 a_9), (.int .u8 a_10), (.int .u32 a_11), (.slice (a_12) a_12l a_12c), (.int .u8 a_13), (.string a_14), (.slice (a_15) a_15l a_15c), (.int .u8 a_16), (.int .u16 a_17)] 62)) fun e3 w4 =>
   ∃ b5 : Bool, (e3 = .returned (.bool b5)) ∧
   (X.Kept L2 (w1.alloc (.cells #[(.int .u8 a_0), (.int .u8 a_1), (.int .u16 a_2), (.int .u32 a_3), (.int .u8 a_4), (.int .u8 a_5), (.int .u8 a_6), (.int .u8 a_7), (.int .u8 a_8), (.int .u8 a_9), (.int .u8 a_10), (.int .u32 a_11), (.slice (a_12) a_12l a_12c), (.int .u8 a_13), (.string a_14), (.slice (a_15) a_15l a_15c), (.int .u8 a_16), (.int .u16 a_17)] 62)) w4) ∧
   if ((!b5) == false) = true then
    X.CallX Try.prog 17 #[(.agg #[(.int .u8 a_0), (.int .u8 a_1), (.int .u16 a_2), (.int .u32 a_3), (.int .u8 a_4), (.int .u8 a_5), (.int .u8 a_6), (.int .u8 a_7), (.int .u8 a_8), (.int .u8 a_9), (.int .u8 a_10), (.int .u32 a_11), (.slice (a_12) a_12l a_12c), (.int .u8 a_13), (.string a_14), (.slice (a_15) a_15l a_15c), (.int .u8 a_16), (.int .u16 a_17)]), (.int .u8 (b.tmod 4))] w4 fun e9 w10 =>
     ∃ b11 : Bool, (e9 = .returned (.bool b11)) ∧
     (X.Kept L2 w4 w10) ∧
     if ((false || (!b11)) == false) = true then
      X.CallX Try.prog 8 #[] w10 fun e15 w16 =>
       ∃ b17 : Bool, (e15 = .returned (.bool b17)) ∧
       (X.Kept L2 w10 w16) ∧
       if (false || (!b17)) = true then
        X.CallX Try.prog 8 #[] w16 fun e186 w187 =>
         ∃ b188 : Bool, (e186 = .returned (.bool b188)) ∧
         (X.Kept L2 w16 w187) ∧
         R (.returned (.bool b188)) w187
       else
        ∃ x18 : Option Addr → Nat → Nat → Int → World → List Nat → Prop, ∃ x19 : Option Addr → Nat → Nat → Int → World → Nat, (x18 (none) 0 0 0 w16 (L2)) ∧
        ∀ q20 : Option Addr, ∀ k21 : Nat, ∀ k22 : Nat, ∀ n23 : Int, ∀ w24 : World, ∀ L25 : List Nat, (X.LF (w).heap.size w24 L25) →
        (x18 q20 k21 k22 n23 w24 L25) →
        if (decide (n23 < (IntKind.wrap .i64 (398 + ((IntKind.i64.wrap (d.tmod 5 + 5)).tmod 5))))) = true then
         ∃ q182 : Option Addr, ∃ k183 : Nat, ∃ k184 : Nat, ∃ w185 : World, (Sem.run Try.prog (Go.Builtin.append_ #[38, 38] 38 #[(.slice (q20) k21 k22), (.slice (some ⟨(w24).heap.size, 0, none⟩) 1 1)]) (w24.alloc (.cells #[(.int .u8 a_0), (.int .u8 a_1), (.int .u16 a_2), (.int .u32 a_3), (.int .u8 a_4), (.int .u8 a_5), (.int .u8 a_6), (.int .u8 a_7), (.int .u8 a_8), (.int .u8 a_9), (.int .u8 a_10), (.int .u32 a_11), (.slice (a_12) a_12l a_12c), (.int .u8 a_13), (.string a_14), (.slice (a_15) a_15l a_15c), (.int .u8 a_16), (.int .u16 a_17)] 62)) = .ok (.slice (q182) k183 k184) w185) ∧
         (X.Kept L25 (w24.alloc (.cells #[(.int .u8 a_0), (.int .u8 a_1), (.int .u16 a_2), (.int .u32 a_3), (.int .u8 a_4), (.int .u8 a_5), (.int .u8 a_6), (.int .u8 a_7), (.int .u8 a_8), (.int .u8 a_9), (.int .u8 a_10), (.int .u32 a_11), (.slice (a_12) a_12l a_12c), (.int .u8 a_13), (.string a_14), (.slice (a_15) a_15l a_15c), (.int .u8 a_16), (.int .u16 a_17)] 62)) w185) ∧
         (([(.int .u8 a_0), (.int .u8 a_1), (.int .u16 a_2), (.int .u32 a_3), (.int .u8 a_4), (.int .u8 a_5), (.int .u8 a_6), (.int .u8 a_7), (.int .u8 a_8), (.int .u8 a_9), (.int .u8 a_10), (.int .u32 a_11), (.slice (a_12) a_12l a_12c), (.int .u8 a_13), (.string a_14), (.slice (a_15) a_15l a_15c), (.int .u8 a_16), (.int .u16 a_17)] : List Value) = [(.int .u8 a_0), (.int .u8 a_1), (.int .u16 a_2), (.int .u32 a_3), (.int .u8 a_4), (.int .u8 a_5), (.int .u8 a_6), (.int .u8 a_7), (.int .u8 a_8), (.int .u8 a_9), (.int .u8 a_10), (.int .u32 a_11), (.slice (a_12) a_12l a_12c), (.int .u8 a_13), (.string a_14), (.slice (a_15) a_15l a_15c), (.int .u8 a_16), (.int .u16 a_17)]) ∧
         (x18 q182 k183 k184 (IntKind.wrap .i64 (n23 + 1)) w185 (L25)) ∧
         Nat.le ((x19 q182 k183 k184 (IntKind.wrap .i64 (n23 + 1)) w185) + 1) (x19 q20 k21 k22 n23 w24)
        else
         ((0 : Int) ≤ (IntKind.wrap .i64 ((IntKind.wrap .i64 (398 + ((IntKind.i64.wrap (d.tmod 5 + 5)).tmod 5))) - 398))) ∧
         ((IntKind.wrap .i64 ((IntKind.wrap .i64 (398 + ((IntKind.i64.wrap (d.tmod 5 + 5)).tmod 5))) - 398)) ≤ ((k22 : Nat) : Int)) ∧
         ∃ x26 : X.Facts, (X.FactsW x26 w24 (L25)) ∧
         ∀ w27 : World, ∀ L28 : List Nat, (X.Hid (L25) w24 w27) →
         (X.NewL (w).heap.size (L25) w24 w27 L28) →
         X.CallX Try.prog 9 #[(.agg #[(.int .u8 3), (.int .u8 (b.tmod 4)), (.int .u8 0), (.int .u32 1), (.int .u32 (c.tmod 402)), (.int .u32 0), (.int .u32 0), (.int .u64 0), (.int .u64 0), (.int .u8 0), (.int .u16 0), (.int .u32 0), (.int .u8 0), (.int .u8 0), (.int .u8 0), (.int .u8 0), (.int .u8 0), (.int .u8 0), (.int .u8 0), (.slice none 0 0), (.int .u8 0), (.string (ByteArray.mk #[])), (.int .u8 0), (.int .u32 0), (.slice none 0 0), (.int .u8 0), (.int .u16 0), (.bool false), (.slice none 0 0), (.slice (X.cutA (q20) k22 0 18) ((IntKind.wrap .i64 ((IntKind.wrap .i64 (398 + ((IntKind.i64.wrap (d.tmod 5 + 5)).tmod 5))) - 398))).toNat k22), (.slice none 0 0)])] w27 fun e29 w30 =>
          ∃ n31 : Int, ∃ n32 : Int, ∃ n33 : Int, ∃ n34 : Int, ∃ n35 : Int, ∃ n36 : Int, ∃ n37 : Int, ∃ n38 : Int, ∃ n39 : Int, ∃ n40 : Int, ∃ n41 : Int, ∃ n42 : Int, ∃ n43 : Int, ∃ n44 : Int, ∃ n45 : Int, ∃ n46 : Int, ∃ n47 : Int, ∃ n48 : Int, ∃ n49 : Int, ∃ q50 : Option Addr, ∃ k51 : Nat, ∃ k52 : Nat, ∃ n53 : Int, ∃ s54 : ByteArray, ∃ n55 : Int, ∃ n56 : Int, ∃ q57 : Option Addr, ∃ k58 : Nat, ∃ k59 : Nat, ∃ n60 : Int, ∃ n61 : Int, ∃ b62 : Bool, ∃ q63 : Option Addr, ∃ k64 : Nat, ∃ k65 : Nat, ∃ q66 : Option Addr, ∃ k67 : Nat, ∃ k68 : Nat, ∃ q69 : Option Addr, ∃ k70 : Nat, ∃ k71 : Nat, (e29 = .returned (.agg #[(.int .u8 n31), (.int .u8 n32), (.int .u8 n33), (.int .u32 n34), (.int .u32 n35), (.int .u32 n36), (.int .u32 n37), (.int .u64 n38), (.int .u64 n39), (.int .u8 n40), (.int .u16 n41), (.int .u32 n42), (.int .u8 n43), (.int .u8 n44), (.int .u8 n45), (.int .u8 n46), (.int .u8 n47), (.int .u8 n48), (.int .u8 n49), (.slice (q50) k51 k52), (.int .u8 n53), (.string s54), (.int .u8 n55), (.int .u32 n56), (.slice (q57) k58 k59), (.int .u8 n60), (.int .u16 n61), (.bool b62), (.slice (q63) k64 k65), (.slice (q66) k67 k68), (.slice (q69) k70 k71)])) ∧
          (X.Kept L28 w27 w30) ∧
          (X.FactsW x26 w30 (L28)) ∧
          ∃ x72 : X.Facts, (X.FactsW x72 w30 (L28)) ∧
          (∀ x73 : Addr × List Value, (x73 ∈ x26) →
           x73 ∈ x72) ∧
          X.CallX Try.prog 10 #[(.agg #[(.int .u8 n31), (.int .u8 n32), (.int .u8 n33), (.int .u32 n34), (.int .u32 n35), (.int .u32 n36), (.int .u32 n37), (.int .u64 n38), (.int .u64 n39), (.int .u8 n40), (.int .u16 n41), (.int .u32 n42), (.int .u8 n43), (.int .u8 n44), (.int .u8 n45), (.int .u8 n46), (.int .u8 n47), (.int .u8 n48), (.int .u8 n49), (.slice (q50) k51 k52), (.int .u8 n53), (.string s54), (.int .u8 n55), (.int .u32 n56), (.slice (q57) k58 k59), (.int .u8 n60), (.int .u16 n61), (.bool b62), (.slice (q63) k64 k65), (.slice (q66) k67 k68), (.slice (q69) k70 k71)])] w30 fun e74 w75 =>
           ∃ b76 : Bool, (e74 = .returned (.bool b76)) ∧
           (X.Kept L28 w30 w75) ∧
           (X.FactsW x72 w75 (L28)) ∧
           ∃ x77 : X.Facts, (X.FactsW x77 w75 (L28)) ∧
           (∀ x78 : Addr × List Value, (x78 ∈ x72) →
            x78 ∈ x77) ∧
           if ((b76 == (decide ((IntKind.wrap .i64 ((IntKind.wrap .i64 ((IntKind.wrap .i64 (c.tmod 402)) + (IntKind.wrap .i64 (398 + ((IntKind.i64.wrap (d.tmod 5 + 5)).tmod 5))))) - 398)) ≤ 400))) == true) = true then
            X.CallX Try.prog 9 #[(.agg #[(.int .u8 8), (.int .u8 (b.tmod 4)), (.int .u8 0), (.int .u32 1), (.int .u32 0), (.int .u32 0), (.int .u32 0), (.int .u64 1), (.int .u64 0), (.int .u8 0), (.int .u16 0), (.int .u32 0), (.int .u8 0), (.int .u8 0), (.int .u8 0), (.int .u8 0), (.int .u8 0), (.int .u8 0), (.int .u8 0), (.slice none 0 0), (.int .u8 0), (.string (ByteArray.mk #[])), (.int .u8 0), (.int .u32 0), (.slice none 0 0), (.int .u8 0), (.int .u16 0), (.bool false), (.slice none 0 0), (.slice (q20) k21 k22), (.slice none 0 0)])] w75 fun e83 w84 =>
             ∃ n85 : Int, ∃ n86 : Int, ∃ n87 : Int, ∃ n88 : Int, ∃ n89 : Int, ∃ n90 : Int, ∃ n91 : Int, ∃ n92 : Int, ∃ n93 : Int, ∃ n94 : Int, ∃ n95 : Int, ∃ n96 : Int, ∃ n97 : Int, ∃ n98 : Int, ∃ n99 : Int, ∃ n100 : Int, ∃ n101 : Int, ∃ n102 : Int, ∃ n103 : Int, ∃ q104 : Option Addr, ∃ k105 : Nat, ∃ k106 : Nat, ∃ n107 : Int, ∃ s108 : ByteArray, ∃ n109 : Int, ∃ n110 : Int, ∃ q111 : Option Addr, ∃ k112 : Nat, ∃ k113 : Nat, ∃ n114 : Int, ∃ n115 : Int, ∃ b116 : Bool, ∃ q117 : Option Addr, ∃ k118 : Nat, ∃ k119 : Nat, ∃ q120 : Option Addr, ∃ k121 : Nat, ∃ k122 : Nat, ∃ q123 : Option Addr, ∃ k124 : Nat, ∃ k125 : Nat, (e83 = .returned (.agg #[(.int .u8 n85), (.int .u8 n86), (.int .u8 n87), (.int .u32 n88), (.int .u32 n89), (.int .u32 n90), (.int .u32 n91), (.int .u64 n92), (.int .u64 n93), (.int .u8 n94), (.int .u16 n95), (.int .u32 n96), (.int .u8 n97), (.int .u8 n98), (.int .u8 n99), (.int .u8 n100), (.int .u8 n101), (.int .u8 n102), (.int .u8 n103), (.slice (q104) k105 k106), (.int .u8 n107), (.string s108), (.int .u8 n109), (.int .u32 n110), (.slice (q111) k112 k113), (.int .u8 n114), (.int .u16 n115), (.bool b116), (.slice (q117) k118 k119), (.slice (q120) k121 k122), (.slice (q123) k124 k125)])) ∧
             (X.Kept L28 w75 w84) ∧
             (X.FactsW x77 w84 (L28)) ∧
             ∃ x126 : X.Facts, (X.FactsW x126 w84 (L28)) ∧
             (∀ x127 : Addr × List Value, (x127 ∈ x77) →
              x127 ∈ x126) ∧
             X.CallX Try.prog 10 #[(.agg #[(.int .u8 n85), (.int .u8 n86), (.int .u8 n87), (.int .u32 n88), (.int .u32 n89), (.int .u32 n90), (.int .u32 n91), (.int .u64 n92), (.int .u64 n93), (.int .u8 n94), (.int .u16 n95), (.int .u32 n96), (.int .u8 n97), (.int .u8 n98), (.int .u8 n99), (.int .u8 n100), (.int .u8 n101), (.int .u8 n102), (.int .u8 n103), (.slice (q104) k105 k106), (.int .u8 n107), (.string s108), (.int .u8 n109), (.int .u32 n110), (.slice (q111) k112 k113), (.int .u8 n114), (.int .u16 n115), (.bool b116), (.slice (q117) k118 k119), (.slice (q120) k121 k122), (.slice (q123) k124 k125)])] w84 fun e128 w129 =>
              ∃ b130 : Bool, (e128 = .returned (.bool b130)) ∧
              (X.Kept L28 w84 w129) ∧
              (X.FactsW x126 w129 (L28)) ∧
              ∃ x131 : X.Facts, (X.FactsW x131 w129 (L28)) ∧
              (∀ x132 : Addr × List Value, (x132 ∈ x126) →
               x132 ∈ x131) ∧
              if ((true && (b130 == (decide ((IntKind.wrap .i64 (398 + ((IntKind.i64.wrap (d.tmod 5 + 5)).tmod 5))) ≤ 400)))) == true) = true then
               X.CallX Try.prog 9 #[(.agg #[(.int .u8 3), (.int .u8 (b.tmod 4)), (.int .u8 0), (.int .u32 1), (.int .u32 (c.tmod 402)), (.int .u32 0), (.int .u32 0), (.int .u64 0), (.int .u64 0), (.int .u8 0), (.int .u16 0), (.int .u32 0), (.int .u8 0), (.int .u8 0), (.int .u8 0), (.int .u8 0), (.int .u8 0), (.int .u8 0), (.int .u8 0), (.slice none 0 0), (.int .u8 0), (.string (ByteArray.mk #[])), (.int .u8 0), (.int .u32 0), (.slice none 0 0), (.int .u8 0), (.int .u16 0), (.bool false), (.slice none 0 0), (.slice (X.cutA (q20) k22 0 18) ((IntKind.wrap .i64 ((IntKind.wrap .i64 (398 + ((IntKind.i64.wrap (d.tmod 5 + 5)).tmod 5))) - 398))).toNat k22), (.slice none 0 0)])] w129 fun e133 w134 =>
                ∃ n135 : Int, ∃ n136 : Int, ∃ n137 : Int, ∃ n138 : Int, ∃ n139 : Int, ∃ n140 : Int, ∃ n141 : Int, ∃ n142 : Int, ∃ n143 : Int, ∃ n144 : Int, ∃ n145 : Int, ∃ n146 : Int, ∃ n147 : Int, ∃ n148 : Int, ∃ n149 : Int, ∃ n150 : Int, ∃ n151 : Int, ∃ n152 : Int, ∃ n153 : Int, ∃ q154 : Option Addr, ∃ k155 : Nat, ∃ k156 : Nat, ∃ n157 : Int, ∃ s158 : ByteArray, ∃ n159 : Int, ∃ n160 : Int, ∃ q161 : Option Addr, ∃ k162 : Nat, ∃ k163 : Nat, ∃ n164 : Int, ∃ n165 : Int, ∃ b166 : Bool, ∃ q167 : Option Addr, ∃ k168 : Nat, ∃ k169 : Nat, ∃ q170 : Option Addr, ∃ k171 : Nat, ∃ k172 : Nat, ∃ q173 : Option Addr, ∃ k174 : Nat, ∃ k175 : Nat, (e133 = .returned (.agg #[(.int .u8 n135), (.int .u8 n136), (.int .u8 n137), (.int .u32 n138), (.int .u32 n139), (.int .u32 n140), (.int .u32 n141), (.int .u64 n142), (.int .u64 n143), (.int .u8 n144), (.int .u16 n145), (.int .u32 n146), (.int .u8 n147), (.int .u8 n148), (.int .u8 n149), (.int .u8 n150), (.int .u8 n151), (.int .u8 n152), (.int .u8 n153), (.slice (q154) k155 k156), (.int .u8 n157), (.string s158), (.int .u8 n159), (.int .u32 n160), (.slice (q161) k162 k163), (.int .u8 n164), (.int .u16 n165), (.bool b166), (.slice (q167) k168 k169), (.slice (q170) k171 k172), (.slice (q173) k174 k175)])) ∧
                (X.Kept L28 w129 w134) ∧
                (X.FactsW x131 w134 (L28)) ∧
                X.CallX Try.prog 10 #[(.agg #[(.int .u8 n135), (.int .u8 n136), (.int .u8 n137), (.int .u32 n138), (.int .u32 n139), (.int .u32 n140), (.int .u32 n141), (.int .u64 n142), (.int .u64 n143), (.int .u8 n144), (.int .u16 n145), (.int .u32 n146), (.int .u8 n147), (.int .u8 n148), (.int .u8 n149), (.int .u8 n150), (.int .u8 n151), (.int .u8 n152), (.int .u8 n153), (.slice (q154) k155 k156), (.int .u8 n157), (.string s158), (.int .u8 n159), (.int .u32 n160), (.slice (q161) k162 k163), (.int .u8 n164), (.int .u16 n165), (.bool b166), (.slice (q167) k168 k169), (.slice (q170) k171 k172), (.slice (q173) k174 k175)])] w134 fun e176 w177 =>
                 ∃ b178 : Bool, (e176 = .returned (.bool b178)) ∧
                 (X.Kept L28 w134 w177) ∧
                 (X.FactsW x131 w177 (L28)) ∧
                 X.CallX Try.prog 11 #[(.agg #[(.int .u8 3), (.int .u8 (b.tmod 4)), (.int .u8 0), (.int .u32 1), (.int .u32 (c.tmod 402)), (.int .u32 0), (.int .u32 0), (.int .u64 0), (.int .u64 0), (.int .u8 0), (.int .u16 0), (.int .u32 0), (.int .u8 0), (.int .u8 0), (.int .u8 0), (.int .u8 0), (.int .u8 0), (.int .u8 0), (.int .u8 0), (.slice none 0 0), (.int .u8 0), (.string (ByteArray.mk #[])), (.int .u8 0), (.int .u32 0), (.slice none 0 0), (.int .u8 0), (.int .u16 0), (.bool false), (.slice none 0 0), (.slice (X.cutA (q20) k22 0 18) ((IntKind.wrap .i64 ((IntKind.wrap .i64 (398 + ((IntKind.i64.wrap (d.tmod 5 + 5)).tmod 5))) - 398))).toNat k22), (.slice none 0 0)])] w177 fun e179 w180 =>
                  ∃ b181 : Bool, (e179 = .returned (.bool b181)) ∧
                  (X.Kept L28 w177 w180) ∧
                  (X.FactsW x131 w180 (L28)) ∧
                  R (.returned (.bool (true && (b178 == b181)))) w180
              else
               R (.returned (.bool false)) w129
           else
            ∃ x79 : X.Facts, (X.FactsW x79 w75 (L28)) ∧
            (∀ x80 : Addr × List Value, (x80 ∈ x77) →
             x80 ∈ x79) ∧
            ∃ x81 : X.Facts, (X.FactsW x81 w75 (L28)) ∧
            (∀ x82 : Addr × List Value, (x82 ∈ x79) →
             x82 ∈ x81) ∧
            R (.returned (.bool false)) w75
     else
      X.CallX Try.prog 8 #[] w10 fun e12 w13 =>
       ∃ b14 : Bool, (e12 = .returned (.bool b14)) ∧
       (X.Kept L2 w10 w13) ∧
       R (.returned (.bool b14)) w13
   else
    X.CallX Try.prog 8 #[] w4 fun e6 w7 =>
     ∃ b8 : Bool, (e6 = .returned (.bool b8)) ∧
     (X.Kept L2 w4 w7) ∧
     R (.returned (.bool b8)) w7) :
    Calls Try.prog 4 #[.agg #[.int .u8 a_0, .int .u8 a_1, .int .u16 a_2, .int .u32 a_3, .int .u8 a_4, .int .u8 a_5, .int .u8 a_6, .int .u8 a_7, .int .u8 a_8, .int .u8 a_9, .int .u8 a_10, .int .u32 a_11, .slice a_12 a_12l a_12c, .int .u8 a_13, .string a_14, .slice a_15 a_15l a_15c, .int .u8 a_16, .int .u16 a_17], .int .u8 b, .int .u32 c, .int .i64 d] w R :=
  X.calls_of { isLoc := [4, 11, 12], sym := [], loops := [(6, .inv [(9, .slice), (10, .int .i64)] [] true)], joins := [] } Try.func4 (by kernel_rfl) h
end Go.Proofs
