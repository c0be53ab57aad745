import Derived.Test.YtpijekgiblcfhaaXFn
import Derived.Test.YtpijekgiblcfhaaProg
/- The verification conditions of this seat's functions, as the engine has them: printed by a program of the bench; checked by the kernel. -/
set_option maxRecDepth 100000
set_option linter.unusedVariables false
namespace Go.Proofs
open Go
abbrev fn_amo_Table_Clone : Nat := 12
theorem x_amo_Table_Clone (a : Addr) (w : World) (R : Ending → World → Prop) (h :
  X.CallX Try.prog 36 #[(.pointer (some a))] w fun e1 w2 =>
   ∃ b3 : Bool, (e1 = .returned (.bool b3)) ∧
   ((w).heap.size ≤ (w2).heap.size) ∧
   if b3 = true then
    R (.returned (.pointer none)) w2
   else
    ∃ x4 : X.Facts, (X.FactsW x4 w2 []) ∧
    ∃ n5 : Int, (((a.add 0), [(.int .u32 n5)]) ∈ x4) ∧
    ∃ q6 : Option Nat, (((a.add 1), [(.map (q6))]) ∈ x4) ∧
    ∃ q7 : Option Nat, (((a.add 2), [(.map (q7))]) ∈ x4) ∧
    ∀ w8 : World, (X.Hid [] w2 w8) →
    X.CallX Try.prog 37 #[(.map (q6))] w8 fun e9 w10 =>
     ∃ q11 : Option Nat, (e9 = .returned (.map (q11))) ∧
     ((w8).heap.size ≤ (w10).heap.size) ∧
     (X.FactsW x4 w10 []) ∧
     X.CallX Try.prog 38 #[(.map (q7))] w10 fun e12 w13 =>
      ∃ q14 : Option Nat, (e12 = .returned (.map (q14))) ∧
      ((w10).heap.size ≤ (w13).heap.size) ∧
      (X.FactsW x4 w13 []) ∧
      (X.FactsW x4 (w13.alloc (.cells #[(.int .u32 n5), (.map (q11)), (.map (q14))] 87)) []) ∧
      R (.returned (.pointer (some ⟨(w13).heap.size, 0, none⟩))) (w13.alloc (.cells #[(.int .u32 n5), (.map (q11)), (.map (q14))] 87))) :
    Calls Try.prog 12 #[.pointer (some a)] w R :=
  X.calls_of { isLoc := [], sym := [], loops := [], joins := [] } Try.func12 (by kernel_rfl) h
abbrev fn_amo_Table_Same : Nat := 13
theorem x_amo_Table_Same (a b : Addr) (w : World) (R : Ending → World → Prop) (h :
  X.CallX Try.prog 36 #[(.pointer (some a))] w fun e1 w2 =>
   ∃ b3 : Bool, (e1 = .returned (.bool b3)) ∧
   ((w).heap.size ≤ (w2).heap.size) ∧
   if (b3 == false) = true then
    X.CallX Try.prog 36 #[(.pointer (some b))] w2 fun e10 w11 =>
     ∃ b12 : Bool, (e10 = .returned (.bool b12)) ∧
     ((w2).heap.size ≤ (w11).heap.size) ∧
     if (false || b12) = true then
      X.CallX Try.prog 36 #[(.pointer (some a))] w11 fun e32 w33 =>
       ∃ b34 : Bool, (e32 = .returned (.bool b34)) ∧
       ((w11).heap.size ≤ (w33).heap.size) ∧
       if (b34 == true) = true then
        X.CallX Try.prog 36 #[(.pointer (some b))] w33 fun e35 w36 =>
         ∃ b37 : Bool, (e35 = .returned (.bool b37)) ∧
         ((w33).heap.size ≤ (w36).heap.size) ∧
         R (.returned (.bool (true && b37))) w36
       else
        R (.returned (.bool false)) w33
     else
      ∃ x13 : X.Facts, (X.FactsW x13 w11 []) ∧
      ∃ n14 : Int, (((a.add 0), [(.int .u32 n14)]) ∈ x13) ∧
      ∃ n15 : Int, (((b.add 0), [(.int .u32 n15)]) ∈ x13) ∧
      if ((n14 == n15) == true) = true then
       ∃ q19 : Option Nat, (((a.add 1), [(.map (q19))]) ∈ x13) ∧
       ∃ q20 : Option Nat, (((b.add 1), [(.map (q20))]) ∈ x13) ∧
       ∀ w21 : World, (X.Hid [] w11 w21) →
       X.CallX Try.prog 39 #[(.map (q19)), (.map (q20))] w21 fun e22 w23 =>
        ∃ b24 : Bool, (e22 = .returned (.bool b24)) ∧
        ((w21).heap.size ≤ (w23).heap.size) ∧
        (X.FactsW x13 w23 []) ∧
        ∃ x25 : X.Facts, (X.FactsW x25 w23 []) ∧
        (∀ x26 : Addr × List Value, (x26 ∈ x13) →
         x26 ∈ x25) ∧
        if ((true && b24) == true) = true then
         ∃ q27 : Option Nat, (((a.add 2), [(.map (q27))]) ∈ x25) ∧
         ∃ q28 : Option Nat, (((b.add 2), [(.map (q28))]) ∈ x25) ∧
         X.CallX Try.prog 40 #[(.map (q27)), (.map (q28))] w23 fun e29 w30 =>
          ∃ b31 : Bool, (e29 = .returned (.bool b31)) ∧
          ((w23).heap.size ≤ (w30).heap.size) ∧
          (X.FactsW x25 w30 []) ∧
          R (.returned (.bool (true && b31))) w30
        else
         R (.returned (.bool false)) w23
      else
       ∃ x16 : X.Facts, (X.FactsW x16 w11 []) ∧
       (∀ x17 : Addr × List Value, (x17 ∈ x13) →
        x17 ∈ x16) ∧
       ∀ w18 : World, (X.Hid [] w11 w18) →
       R (.returned (.bool false)) w18
   else
    X.CallX Try.prog 36 #[(.pointer (some a))] w2 fun e4 w5 =>
     ∃ b6 : Bool, (e4 = .returned (.bool b6)) ∧
     ((w2).heap.size ≤ (w5).heap.size) ∧
     if (b6 == true) = true then
      X.CallX Try.prog 36 #[(.pointer (some b))] w5 fun e7 w8 =>
       ∃ b9 : Bool, (e7 = .returned (.bool b9)) ∧
       ((w5).heap.size ≤ (w8).heap.size) ∧
       R (.returned (.bool (true && b9))) w8
     else
      R (.returned (.bool false)) w5) :
    Calls Try.prog 13 #[.pointer (some a), .pointer (some b)] w R :=
  X.calls_of { isLoc := [], sym := [], loops := [], joins := [] } Try.func13 (by kernel_rfl) h
abbrev fn_EqR : Nat := 39
theorem x_EqR (a b : Option Nat) (w : World) (R : Ending → World → Prop) (h :
  ∃ n1 : Int, ∃ w2 : World, (Sem.run Try.prog (Go.Builtin.len_ #[84] 3 #[(.map (a))]) w = .ok (.int .i64 n1) w2) ∧
  ((w).heap.size ≤ (w2).heap.size) ∧
  ∃ n3 : Int, ∃ w4 : World, (Sem.run Try.prog (Go.Builtin.len_ #[84] 3 #[(.map (b))]) w2 = .ok (.int .i64 n3) w4) ∧
  ((w2).heap.size ≤ (w4).heap.size) ∧
  if (n1 != n3) = true then
   R (.returned (.bool false)) w4
  else
   ∃ q5 : Option Addr, ∃ w6 : World, (Sem.run Try.prog (Go.Instr.range 84 (.map (a))) w4 = .ok (.pointer (q5)) w6) ∧
   ((w4).heap.size ≤ (w6).heap.size) ∧
   ∃ x7 : World → List Nat → Prop, ∃ x8 : World → Nat, (x7 w6 []) ∧
   ∀ w9 : World, ∀ L10 : List Nat, (X.LF (w).heap.size w9 L10) →
   (x7 w9 L10) →
   ∃ b11 : Bool, ∃ L12 : List Value, ∃ w13 : World, (Sem.run Try.prog (Go.Instr.next (.pointer (q5)) false 0) w9 = .ok (.tuple ((Value.bool b11 :: L12).toArray)) w13) ∧
   ((w9).heap.size ≤ (w13).heap.size) ∧
   if b11 = true then
    ∃ n14 : Int, ∃ n15 : Int, ∃ n16 : Int, ∃ n17 : Int, ∃ n18 : Int, ∃ n19 : Int, ∃ n20 : Int, ∃ n21 : Int, ∃ n22 : Int, ∃ n23 : Int, ∃ n24 : Int, ∃ n25 : Int, ∃ n26 : Int, ∃ n27 : Int, ∃ n28 : Int, ∃ n29 : Int, ∃ n30 : Int, ∃ n31 : Int, ∃ n32 : Int, ∃ n33 : Int, ∃ b34 : Bool, ∃ n35 : Int, ∃ s36 : ByteArray, ∃ w37 : World, (Sem.run Try.prog (Go.Instr.entry (.pointer (q5))) w13 = .ok (.tuple #[(.agg #[(.int .u8 n14), (.int .u16 n15), (.int .u32 n16), (.int .u8 n17), (.int .u8 n18), (.int .u8 n19), (.int .u8 n20), (.int .u8 n21), (.int .u8 n22), (.int .u8 n23)]), (.agg #[(.int .u8 n24), (.int .u16 n25), (.int .u32 n26), (.int .u8 n27), (.int .u8 n28), (.int .u8 n29), (.int .u8 n30), (.int .u8 n31), (.int .u8 n32), (.int .u8 n33), (.bool b34), (.int .u8 n35), (.string s36)])]) w37) ∧
    ((w13).heap.size ≤ (w37).heap.size) ∧
    ∀ w38 : World, ∀ L39 : List Nat, (X.Hid [] w37 w38) →
    (X.NewL (w).heap.size [] w37 w38 L39) →
    ∃ n40 : Int, ∃ n41 : Int, ∃ n42 : Int, ∃ n43 : Int, ∃ n44 : Int, ∃ n45 : Int, ∃ n46 : Int, ∃ n47 : Int, ∃ n48 : Int, ∃ n49 : Int, ∃ b50 : Bool, ∃ n51 : Int, ∃ s52 : ByteArray, ∃ b53 : Bool, ∃ w54 : World, (Sem.run Try.prog (Go.Instr.lookup 84 (.map (b)) (.agg #[(.int .u8 n14), (.int .u16 n15), (.int .u32 n16), (.int .u8 n17), (.int .u8 n18), (.int .u8 n19), (.int .u8 n20), (.int .u8 n21), (.int .u8 n22), (.int .u8 n23)]) true) w38 = .ok (.tuple #[(.agg #[(.int .u8 n40), (.int .u16 n41), (.int .u32 n42), (.int .u8 n43), (.int .u8 n44), (.int .u8 n45), (.int .u8 n46), (.int .u8 n47), (.int .u8 n48), (.int .u8 n49), (.bool b50), (.int .u8 n51), (.string s52)]), (.bool b53)]) w54) ∧
    (X.Kept L39 w38 w54) ∧
    if ((!b53) || (!((((n24 == n40) && (n25 == n41)) && ((n26 == n42) && ((n27 == n43) && (((n28 == n44) && (n29 == n45)) && (((n30 == n46) && (n31 == n47)) && ((n32 == n48) && (n33 == n49))))))) && ((b34 == b50) && ((n35 == n51) && (s36 == s52)))))) = true then
     ∀ w57 : World, (X.Hid (L39) w54 w57) →
     R (.returned (.bool false)) w57
    else
     ∀ w55 : World, ∀ L56 : List Nat, (X.Hid (L39) w54 w55) →
     (X.NewL (w).heap.size (L39) w54 w55 L56) →
     (x7 w55 (L56)) ∧
     Nat.le ((x8 w55) + 1) (x8 w9)
   else
    R (.returned (.bool true)) w13) :
    Calls Try.prog 39 #[.map a, .map b] w R :=
  X.calls_of { isLoc := [5, 6, 7], sym := [10, 12], loops := [(4, .inv [] [] true)], joins := [], ents := [(18, [54, 60])] } Try.func39 (by kernel_rfl) h
abbrev fn_EqF : Nat := 40
theorem x_EqF (a b : Option Nat) (w : World) (R : Ending → World → Prop) (h :
  ∃ n1 : Int, ∃ w2 : World, (Sem.run Try.prog (Go.Builtin.len_ #[85] 3 #[(.map (a))]) w = .ok (.int .i64 n1) w2) ∧
  ((w).heap.size ≤ (w2).heap.size) ∧
  ∃ n3 : Int, ∃ w4 : World, (Sem.run Try.prog (Go.Builtin.len_ #[85] 3 #[(.map (b))]) w2 = .ok (.int .i64 n3) w4) ∧
  ((w2).heap.size ≤ (w4).heap.size) ∧
  if (n1 != n3) = true then
   R (.returned (.bool false)) w4
  else
   ∃ q5 : Option Addr, ∃ w6 : World, (Sem.run Try.prog (Go.Instr.range 85 (.map (a))) w4 = .ok (.pointer (q5)) w6) ∧
   ((w4).heap.size ≤ (w6).heap.size) ∧
   ∃ x7 : World → List Nat → Prop, ∃ x8 : World → Nat, (x7 w6 []) ∧
   ∀ w9 : World, ∀ L10 : List Nat, (X.LF (w).heap.size w9 L10) →
   (x7 w9 L10) →
   ∃ b11 : Bool, ∃ L12 : List Value, ∃ w13 : World, (Sem.run Try.prog (Go.Instr.next (.pointer (q5)) false 0) w9 = .ok (.tuple ((Value.bool b11 :: L12).toArray)) w13) ∧
   ((w9).heap.size ≤ (w13).heap.size) ∧
   if b11 = true then
    ∃ n14 : Int, ∃ n15 : Int, ∃ n16 : Int, ∃ w17 : World, (Sem.run Try.prog (Go.Instr.entry (.pointer (q5))) w13 = .ok (.tuple #[(.agg #[(.int .u8 n14), (.int .u16 n15)]), (.int .u32 n16)]) w17) ∧
    ((w13).heap.size ≤ (w17).heap.size) ∧
    ∀ w18 : World, ∀ L19 : List Nat, (X.Hid [] w17 w18) →
    (X.NewL (w).heap.size [] w17 w18 L19) →
    ∃ n20 : Int, ∃ b21 : Bool, ∃ w22 : World, (Sem.run Try.prog (Go.Instr.lookup 85 (.map (b)) (.agg #[(.int .u8 n14), (.int .u16 n15)]) true) w18 = .ok (.tuple #[(.int .u32 n20), (.bool b21)]) w22) ∧
    (X.Kept L19 w18 w22) ∧
    if ((!b21) || (n16 != n20)) = true then
     R (.returned (.bool false)) w22
    else
     (x7 w22 (L19)) ∧
     Nat.le ((x8 w22) + 1) (x8 w9)
   else
    R (.returned (.bool true)) w13) :
    Calls Try.prog 40 #[.map a, .map b] w R :=
  X.calls_of { isLoc := [5], sym := [10, 12], loops := [(4, .inv [] [] true)], joins := [], ents := [(18, [50, 32])] } Try.func40 (by kernel_rfl) h
abbrev fn_gemotlaw14_AmoApart : Nat := 4
theorem x_gemotlaw14_AmoApart (a : Int) (b : Option Addr) (bl bc : Nat) (c : Option Addr) (cl cc : Nat) (w : World) (R : Ending → World → Prop) (h :
  X.CallX Try.prog 8 #[(.slice (b) bl bc)] w fun e1 w2 =>
   ∃ b3 : Bool, (e1 = .returned (.bool b3)) ∧
   ((w).heap.size ≤ (w2).heap.size) ∧
   if ((!b3) == false) = true then
    X.CallX Try.prog 8 #[(.slice (c) cl cc)] w2 fun e7 w8 =>
     ∃ b9 : Bool, (e7 = .returned (.bool b9)) ∧
     ((w2).heap.size ≤ (w8).heap.size) ∧
     if ((false || (!b9)) == false) = true then
      X.CallX Try.prog 9 #[] w8 fun e13 w14 =>
       ∃ b15 : Bool, (e13 = .returned (.bool b15)) ∧
       ((w8).heap.size ≤ (w14).heap.size) ∧
       if (false || (!b15)) = true then
        X.CallX Try.prog 9 #[] w14 fun e174 w175 =>
         ∃ b176 : Bool, (e174 = .returned (.bool b176)) ∧
         ((w14).heap.size ≤ (w175).heap.size) ∧
         R (.returned (.bool b176)) w175
       else
        X.CallX Try.prog 10 #[(.int .i64 a)] w14 fun e16 w17 =>
         ∃ q18 : Option Addr, (e16 = .returned (.pointer (q18))) ∧
         ((w14).heap.size ≤ (w17).heap.size) ∧
         X.CallX Try.prog 10 #[(.int .i64 a)] w17 fun e19 w20 =>
          ∃ q21 : Option Addr, (e19 = .returned (.pointer (q21))) ∧
          ((w17).heap.size ≤ (w20).heap.size) ∧
          ∃ x22 : Int → World → List Nat → Prop, ∃ x23 : Int → World → Nat, (x22 0 w20 []) ∧
          ∀ n24 : Int, ∀ w25 : World, ∀ L26 : List Nat, (X.LF (w).heap.size w25 L26) →
          (x22 n24 w25 L26) →
          if (decide (n24 < ((bl : Nat) : Int))) = true then
           ((0 : Int) ≤ n24) ∧
           (n24 < ((bl : Nat) : Int)) ∧
           X.onSome (b) fun p138 =>
           ∃ n139 : Int, ∃ n140 : Int, ∃ n141 : Int, ∃ n142 : Int, ∃ n143 : Int, ∃ n144 : Int, ∃ n145 : Int, ∃ n146 : Int, ∃ n147 : Int, ∃ n148 : Int, ∃ n149 : Int, ∃ n150 : Int, ∃ s151 : ByteArray, ∃ n152 : Int, (X.Cells w25 (p138.add ((n24).toNat * 14)) [(.int .i64 n139), (.int .u8 n140), (.int .u16 n141), (.int .u32 n142), (.int .u8 n143), (.int .u8 n144), (.int .u8 n145), (.int .u8 n146), (.int .u8 n147), (.int .u8 n148), (.int .u8 n149), (.int .u8 n150), (.string s151), (.int .u32 n152)]) ∧
           X.CallX Try.prog 11 #[(.pointer (q18)), (.agg #[(.int .i64 n139), (.int .u8 n140), (.int .u16 n141), (.int .u32 n142), (.int .u8 n143), (.int .u8 n144), (.int .u8 n145), (.int .u8 n146), (.int .u8 n147), (.int .u8 n148), (.int .u8 n149), (.int .u8 n150), (.string s151), (.int .u32 n152)])] w25 fun e153 w154 =>
            ∃ b155 : Bool, (e153 = .returned (.bool b155)) ∧
            ((w25).heap.size ≤ (w154).heap.size) ∧
            ((0 : Int) ≤ n24) ∧
            (n24 < ((bl : Nat) : Int)) ∧
            X.onSome (b) fun p156 =>
            ∃ n157 : Int, ∃ n158 : Int, ∃ n159 : Int, ∃ n160 : Int, ∃ n161 : Int, ∃ n162 : Int, ∃ n163 : Int, ∃ n164 : Int, ∃ n165 : Int, ∃ n166 : Int, ∃ n167 : Int, ∃ n168 : Int, ∃ s169 : ByteArray, ∃ n170 : Int, (X.Cells w154 (p156.add ((n24).toNat * 14)) [(.int .i64 n157), (.int .u8 n158), (.int .u16 n159), (.int .u32 n160), (.int .u8 n161), (.int .u8 n162), (.int .u8 n163), (.int .u8 n164), (.int .u8 n165), (.int .u8 n166), (.int .u8 n167), (.int .u8 n168), (.string s169), (.int .u32 n170)]) ∧
            X.CallX Try.prog 11 #[(.pointer (q21)), (.agg #[(.int .i64 n157), (.int .u8 n158), (.int .u16 n159), (.int .u32 n160), (.int .u8 n161), (.int .u8 n162), (.int .u8 n163), (.int .u8 n164), (.int .u8 n165), (.int .u8 n166), (.int .u8 n167), (.int .u8 n168), (.string s169), (.int .u32 n170)])] w154 fun e171 w172 =>
             ∃ b173 : Bool, (e171 = .returned (.bool b173)) ∧
             ((w154).heap.size ≤ (w172).heap.size) ∧
             (x22 (IntKind.wrap .i64 (n24 + 1)) w172 []) ∧
             Nat.le ((x23 (IntKind.wrap .i64 (n24 + 1)) w172) + 1) (x23 n24 w25)
          else
           X.CallX Try.prog 12 #[(.pointer (q18))] w25 fun e27 w28 =>
            ∃ q29 : Option Addr, (e27 = .returned (.pointer (q29))) ∧
            ((w25).heap.size ≤ (w28).heap.size) ∧
            X.CallX Try.prog 13 #[(.pointer (q29)), (.pointer (q18))] w28 fun e30 w31 =>
             ∃ b32 : Bool, (e30 = .returned (.bool b32)) ∧
             ((w28).heap.size ≤ (w31).heap.size) ∧
             if ((!b32) == false) = true then
              X.CallX Try.prog 13 #[(.pointer (q18)), (.pointer (q21))] w31 fun e33 w34 =>
               ∃ b35 : Bool, (e33 = .returned (.bool b35)) ∧
               ((w31).heap.size ≤ (w34).heap.size) ∧
               if ((false || (!b35)) == false) = true then
                X.CallX Try.prog 13 #[(.pointer (q21)), (.pointer (q29))] w34 fun e36 w37 =>
                 ∃ b38 : Bool, (e36 = .returned (.bool b38)) ∧
                 ((w34).heap.size ≤ (w37).heap.size) ∧
                 if (false || (!b38)) = true then
                  R (.returned (.bool false)) w37
                 else
                  ∃ x39 : Int → World → List Nat → Prop, ∃ x40 : Int → World → Nat, (x39 0 w37 []) ∧
                  ∀ n41 : Int, ∀ w42 : World, ∀ L43 : List Nat, (X.LF (w).heap.size w42 L43) →
                  (x39 n41 w42 L43) →
                  if (decide (n41 < ((cl : Nat) : Int))) = true then
                   ((0 : Int) ≤ n41) ∧
                   (n41 < ((cl : Nat) : Int)) ∧
                   X.onSome (c) fun p120 =>
                   ∃ n121 : Int, ∃ n122 : Int, ∃ n123 : Int, ∃ n124 : Int, ∃ n125 : Int, ∃ n126 : Int, ∃ n127 : Int, ∃ n128 : Int, ∃ n129 : Int, ∃ n130 : Int, ∃ n131 : Int, ∃ n132 : Int, ∃ s133 : ByteArray, ∃ n134 : Int, (X.Cells w42 (p120.add ((n41).toNat * 14)) [(.int .i64 n121), (.int .u8 n122), (.int .u16 n123), (.int .u32 n124), (.int .u8 n125), (.int .u8 n126), (.int .u8 n127), (.int .u8 n128), (.int .u8 n129), (.int .u8 n130), (.int .u8 n131), (.int .u8 n132), (.string s133), (.int .u32 n134)]) ∧
                   X.CallX Try.prog 11 #[(.pointer (q18)), (.agg #[(.int .i64 n121), (.int .u8 n122), (.int .u16 n123), (.int .u32 n124), (.int .u8 n125), (.int .u8 n126), (.int .u8 n127), (.int .u8 n128), (.int .u8 n129), (.int .u8 n130), (.int .u8 n131), (.int .u8 n132), (.string s133), (.int .u32 n134)])] w42 fun e135 w136 =>
                    ∃ b137 : Bool, (e135 = .returned (.bool b137)) ∧
                    ((w42).heap.size ≤ (w136).heap.size) ∧
                    (x39 (IntKind.wrap .i64 (n41 + 1)) w136 []) ∧
                    Nat.le ((x40 (IntKind.wrap .i64 (n41 + 1)) w136) + 1) (x40 n41 w42)
                  else
                   X.CallX Try.prog 14 #[(.int .i64 a)] w42 fun e44 w45 =>
                    ∃ q46 : Option Addr, (e44 = .returned (.pointer (q46))) ∧
                    ((w42).heap.size ≤ (w45).heap.size) ∧
                    X.CallX Try.prog 14 #[(.int .i64 a)] w45 fun e47 w48 =>
                     ∃ q49 : Option Addr, (e47 = .returned (.pointer (q49))) ∧
                     ((w45).heap.size ≤ (w48).heap.size) ∧
                     ∃ x50 : Int → World → List Nat → Prop, ∃ x51 : Int → World → Nat, (x50 0 w48 []) ∧
                     ∀ n52 : Int, ∀ w53 : World, ∀ L54 : List Nat, (X.LF (w).heap.size w53 L54) →
                     (x50 n52 w53 L54) →
                     if (decide (n52 < ((bl : Nat) : Int))) = true then
                      ((0 : Int) ≤ n52) ∧
                      (n52 < ((bl : Nat) : Int)) ∧
                      X.onSome (b) fun p86 =>
                      ∃ n87 : Int, ∃ n88 : Int, ∃ n89 : Int, ∃ n90 : Int, ∃ n91 : Int, ∃ n92 : Int, ∃ n93 : Int, ∃ n94 : Int, ∃ n95 : Int, ∃ n96 : Int, ∃ n97 : Int, ∃ n98 : Int, ∃ s99 : ByteArray, ∃ n100 : Int, (X.Cells w53 (p86.add ((n52).toNat * 14)) [(.int .i64 n87), (.int .u8 n88), (.int .u16 n89), (.int .u32 n90), (.int .u8 n91), (.int .u8 n92), (.int .u8 n93), (.int .u8 n94), (.int .u8 n95), (.int .u8 n96), (.int .u8 n97), (.int .u8 n98), (.string s99), (.int .u32 n100)]) ∧
                      X.CallX Try.prog 15 #[(.pointer (q46)), (.agg #[(.int .i64 n87), (.int .u8 n88), (.int .u16 n89), (.int .u32 n90), (.int .u8 n91), (.int .u8 n92), (.int .u8 n93), (.int .u8 n94), (.int .u8 n95), (.int .u8 n96), (.int .u8 n97), (.int .u8 n98), (.string s99), (.int .u32 n100)])] w53 fun e101 w102 =>
                       (e101 = .returned (.tuple #[])) ∧
                       ((w53).heap.size ≤ (w102).heap.size) ∧
                       ((0 : Int) ≤ n52) ∧
                       (n52 < ((bl : Nat) : Int)) ∧
                       X.onSome (b) fun p103 =>
                       ∃ n104 : Int, ∃ n105 : Int, ∃ n106 : Int, ∃ n107 : Int, ∃ n108 : Int, ∃ n109 : Int, ∃ n110 : Int, ∃ n111 : Int, ∃ n112 : Int, ∃ n113 : Int, ∃ n114 : Int, ∃ n115 : Int, ∃ s116 : ByteArray, ∃ n117 : Int, (X.Cells w102 (p103.add ((n52).toNat * 14)) [(.int .i64 n104), (.int .u8 n105), (.int .u16 n106), (.int .u32 n107), (.int .u8 n108), (.int .u8 n109), (.int .u8 n110), (.int .u8 n111), (.int .u8 n112), (.int .u8 n113), (.int .u8 n114), (.int .u8 n115), (.string s116), (.int .u32 n117)]) ∧
                       X.CallX Try.prog 15 #[(.pointer (q49)), (.agg #[(.int .i64 n104), (.int .u8 n105), (.int .u16 n106), (.int .u32 n107), (.int .u8 n108), (.int .u8 n109), (.int .u8 n110), (.int .u8 n111), (.int .u8 n112), (.int .u8 n113), (.int .u8 n114), (.int .u8 n115), (.string s116), (.int .u32 n117)])] w102 fun e118 w119 =>
                        (e118 = .returned (.tuple #[])) ∧
                        ((w102).heap.size ≤ (w119).heap.size) ∧
                        (x50 (IntKind.wrap .i64 (n52 + 1)) w119 []) ∧
                        Nat.le ((x51 (IntKind.wrap .i64 (n52 + 1)) w119) + 1) (x51 n52 w53)
                     else
                      ∃ x55 : Int → World → List Nat → Prop, ∃ x56 : Int → World → Nat, (x55 0 w53 []) ∧
                      ∀ n57 : Int, ∀ w58 : World, ∀ L59 : List Nat, (X.LF (w).heap.size w58 L59) →
                      (x55 n57 w58 L59) →
                      if (decide (n57 < ((cl : Nat) : Int))) = true then
                       ((0 : Int) ≤ n57) ∧
                       (n57 < ((cl : Nat) : Int)) ∧
                       X.onSome (c) fun p69 =>
                       ∃ n70 : Int, ∃ n71 : Int, ∃ n72 : Int, ∃ n73 : Int, ∃ n74 : Int, ∃ n75 : Int, ∃ n76 : Int, ∃ n77 : Int, ∃ n78 : Int, ∃ n79 : Int, ∃ n80 : Int, ∃ n81 : Int, ∃ s82 : ByteArray, ∃ n83 : Int, (X.Cells w58 (p69.add ((n57).toNat * 14)) [(.int .i64 n70), (.int .u8 n71), (.int .u16 n72), (.int .u32 n73), (.int .u8 n74), (.int .u8 n75), (.int .u8 n76), (.int .u8 n77), (.int .u8 n78), (.int .u8 n79), (.int .u8 n80), (.int .u8 n81), (.string s82), (.int .u32 n83)]) ∧
                       X.CallX Try.prog 15 #[(.pointer (q49)), (.agg #[(.int .i64 n70), (.int .u8 n71), (.int .u16 n72), (.int .u32 n73), (.int .u8 n74), (.int .u8 n75), (.int .u8 n76), (.int .u8 n77), (.int .u8 n78), (.int .u8 n79), (.int .u8 n80), (.int .u8 n81), (.string s82), (.int .u32 n83)])] w58 fun e84 w85 =>
                        (e84 = .returned (.tuple #[])) ∧
                        ((w58).heap.size ≤ (w85).heap.size) ∧
                        (x55 (IntKind.wrap .i64 (n57 + 1)) w85 []) ∧
                        Nat.le ((x56 (IntKind.wrap .i64 (n57 + 1)) w85) + 1) (x56 n57 w58)
                      else
                       X.CallX Try.prog 13 #[(.pointer (q29)), (.pointer (q21))] w58 fun e60 w61 =>
                        ∃ b62 : Bool, (e60 = .returned (.bool b62)) ∧
                        ((w58).heap.size ≤ (w61).heap.size) ∧
                        if (b62 == true) = true then
                         X.CallX Try.prog 13 #[(.pointer (q18)), (.pointer (q21))] w61 fun e63 w64 =>
                          ∃ b65 : Bool, (e63 = .returned (.bool b65)) ∧
                          ((w61).heap.size ≤ (w64).heap.size) ∧
                          X.CallX Try.prog 16 #[(.pointer (q46)), (.pointer (q49))] w64 fun e66 w67 =>
                           ∃ b68 : Bool, (e66 = .returned (.bool b68)) ∧
                           ((w64).heap.size ≤ (w67).heap.size) ∧
                           R (.returned (.bool (true && (b65 == b68)))) w67
                        else
                         R (.returned (.bool false)) w61
               else
                R (.returned (.bool false)) w34
             else
              R (.returned (.bool false)) w31
     else
      X.CallX Try.prog 9 #[] w8 fun e10 w11 =>
       ∃ b12 : Bool, (e10 = .returned (.bool b12)) ∧
       ((w8).heap.size ≤ (w11).heap.size) ∧
       R (.returned (.bool b12)) w11
   else
    X.CallX Try.prog 9 #[] w2 fun e4 w5 =>
     ∃ b6 : Bool, (e4 = .returned (.bool b6)) ∧
     ((w2).heap.size ≤ (w5).heap.size) ∧
     R (.returned (.bool b6)) w5) :
    Calls Try.prog 4 #[.int .i64 a, .slice b bl bc, .slice c cl cc] w R :=
  X.calls_of { isLoc := [], sym := [], loops := [(6, .inv [(9, .int .i64)] [] true), (14, .inv [(11, .int .i64)] [] true), (20, .inv [(14, .int .i64)] [] true), (25, .inv [(15, .int .i64)] [] true)], joins := [] } Try.func4 (by kernel_rfl) h
end Go.Proofs
