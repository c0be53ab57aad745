import Derived.Test.YtmfmihkjkgifiaaXFn
import Derived.Test.YtmfmihkjkgifiaaProg
/- The verification conditions of this seat's functions, as the engine has them: printed by a program of the bench; checked by the kernel. -/
set_option maxRecDepth 100000
set_option linter.unusedVariables false
namespace Go.Proofs
open Go
abbrev fn_gemotlaw10_LinkOrdered : Nat := 4
theorem x_gemotlaw10_LinkOrdered (a b : Int) (c : Option Addr) (cl cc : Nat) (w : World) (R : Ending → World → Prop) (h :
  if ((decide (((cl : Nat) : Int) > 150)) == false) = true then
   X.CallX Try.prog 8 #[] w fun e4 w5 =>
    ∃ b6 : Bool, (e4 = .returned (.bool b6)) ∧
    ((w).heap.size ≤ (w5).heap.size) ∧
    if (false || (!b6)) = true then
     X.CallX Try.prog 8 #[] w5 fun e169 w170 =>
      ∃ b171 : Bool, (e169 = .returned (.bool b171)) ∧
      ((w5).heap.size ≤ (w170).heap.size) ∧
      R (.returned (.bool b171)) w170
    else
     ∃ x7 : X.Facts, (X.FactsW x7 (w5.alloc (.cells #[(.pointer none), (.pointer none), (.slice none 0 0), (.slice none 0 0), (.slice none 0 0), (.slice none 0 0), (.slice none 0 0), (.int .i64 0)] 69)) []) ∧
     ∀ w8 : World, (X.Hid [] (w5.alloc (.cells #[(.pointer none), (.pointer none), (.slice none 0 0), (.slice none 0 0), (.slice none 0 0), (.slice none 0 0), (.slice none 0 0), (.int .i64 0)] 69)) w8) →
     X.CallX Try.prog 25 #[(.int .u64 (IntKind.wrap .u64 (a.tdiv 2))), (.int .i64 (IntKind.wrap .i64 (1 + ((IntKind.i64.wrap (b.tmod 5 + 5)).tmod 5))))] w8 fun e9 w10 =>
      ∃ q11 : Option Addr, ∃ q12 : Option Addr, (e9 = .returned (.tuple #[(.pointer (q11)), (.pointer (q12))])) ∧
      ((w8).heap.size ≤ (w10).heap.size) ∧
      ((0 : Int) ≤ 0) ∧
      ((0 : Int) < 2) ∧
      ((none : Option Nat) = none) ∧
      (World.there w10 (w5).heap.size 0 1) ∧
      ((0 : Int) ≤ 1) ∧
      ((1 : Int) < 2) ∧
      ((none : Option Nat) = none) ∧
      (World.there (w10.setCells (w5).heap.size 0 [(.pointer (q11))]) (w5).heap.size (0 + 1) 1) ∧
      ∃ x13 : Int → World → List Nat → Prop, ∃ x14 : Int → World → Nat, (x13 0 ((w10.setCells (w5).heap.size 0 [(.pointer (q11))]).setCells (w5).heap.size (0 + 1) [(.pointer (q12))]) []) ∧
      ∀ n15 : Int, ∀ w16 : World, ∀ L17 : List Nat, (X.LF (w).heap.size w16 L17) →
      (x13 n15 w16 L17) →
      if (decide (n15 < ((cl : Nat) : Int))) = true then
       ((0 : Int) ≤ n15) ∧
       (n15 < ((cl : Nat) : Int)) ∧
       X.onSome (c) fun p141 =>
       ∃ n142 : Int, ∃ n143 : Int, ∃ n144 : Int, (X.Cells w16 (p141.add ((n15).toNat * 3)) [(.int .i64 n142), (.int .i64 n143), (.int .i64 n144)]) ∧
       X.CallX Try.prog 26 #[(.pointer (some ⟨(w5).heap.size, 0, none⟩)), (.agg #[(.int .i64 n142), (.int .i64 n143), (.int .i64 n144)])] w16 fun e145 w146 =>
        (e145 = .returned (.tuple #[])) ∧
        ((w16).heap.size ≤ (w146).heap.size) ∧
        ∃ x147 : X.Facts, (X.FactsW x147 w146 []) ∧
        ((0 : Int) ≤ 1) ∧
        ((1 : Int) < 2) ∧
        ∃ q148 : Option Addr, ∃ k149 : Nat, ∃ k150 : Nat, ((⟨(w5).heap.size, ((0 + 5) + 1), none⟩, [(.slice (q148) k149 k150)]) ∈ x147) ∧
        ((0 : Int) ≤ 0) ∧
        ((0 : Int) < 2) ∧
        ∃ q151 : Option Addr, ∃ k152 : Nat, ∃ k153 : Nat, ((⟨(w5).heap.size, (0 + 3), none⟩, [(.slice (q151) k152 k153)]) ∈ x147) ∧
        ∀ w154 : World, (X.Hid [] w146 w154) →
        X.CallX Try.prog 27 #[(.slice (q148) k149 k150), (.slice (q151) k152 k153)] w154 fun e155 w156 =>
         ∃ b157 : Bool, (e155 = .returned (.bool b157)) ∧
         ((w154).heap.size ≤ (w156).heap.size) ∧
         (X.FactsW x147 w156 []) ∧
         ∃ x158 : X.Facts, (X.FactsW x158 w156 []) ∧
         (∀ x159 : Addr × List Value, (x159 ∈ x147) →
          x159 ∈ x158) ∧
         if ((!b157) == false) = true then
          ((0 : Int) ≤ 0) ∧
          ((0 : Int) < 2) ∧
          ∃ q160 : Option Addr, ∃ k161 : Nat, ∃ k162 : Nat, ((⟨(w5).heap.size, (0 + 5), none⟩, [(.slice (q160) k161 k162)]) ∈ x158) ∧
          ((0 : Int) ≤ 1) ∧
          ((1 : Int) < 2) ∧
          ∃ q163 : Option Addr, ∃ k164 : Nat, ∃ k165 : Nat, ((⟨(w5).heap.size, ((0 + 3) + 1), none⟩, [(.slice (q163) k164 k165)]) ∈ x158) ∧
          X.CallX Try.prog 27 #[(.slice (q160) k161 k162), (.slice (q163) k164 k165)] w156 fun e166 w167 =>
           ∃ b168 : Bool, (e166 = .returned (.bool b168)) ∧
           ((w156).heap.size ≤ (w167).heap.size) ∧
           (X.FactsW x158 w167 []) ∧
           if (false || (!b168)) = true then
            R (.returned (.bool false)) w167
           else
            (x13 (IntKind.wrap .i64 (n15 + 1)) w167 []) ∧
            Nat.le ((x14 (IntKind.wrap .i64 (n15 + 1)) w167) + 1) (x14 n15 w16)
         else
          R (.returned (.bool false)) w156
      else
       ∃ x18 : Int → World → List Nat → Prop, ∃ x19 : Int → World → Nat, (x18 0 w16 []) ∧
       ∀ n20 : Int, ∀ w21 : World, ∀ L22 : List Nat, (X.LF (w).heap.size w21 L22) →
       (x18 n20 w21 L22) →
       if (decide (n20 < 60)) = true then
        ∃ n108 : Int, (World.cell? w21 ⟨(w5).heap.size, (0 + 7), none⟩ = some (.int .i64 n108)) ∧
        ((none : Option Nat) = none) ∧
        (World.there w21 (w5).heap.size (0 + 7) 1) ∧
        ∃ x109 : Int → World → List Nat → Prop, ∃ x110 : Int → World → Nat, (x109 0 (w21.setCells (w5).heap.size (0 + 7) [(.int .i64 (IntKind.wrap .i64 (n108 + 6)))]) []) ∧
        ∀ n111 : Int, ∀ w112 : World, ∀ L113 : List Nat, (X.LF (w).heap.size w112 L113) →
        (x109 n111 w112 L113) →
        if (decide (n111 < 2)) = true then
         ∃ x114 : X.Facts, (X.FactsW x114 w112 []) ∧
         ((0 : Int) ≤ n111) ∧
         (n111 < 2) ∧
         ∃ q115 : Option Addr, ((((⟨(w5).heap.size, 0, none⟩ : Addr).add ((n111).toNat * 1)), [(.pointer (q115))]) ∈ x114) ∧
         ∃ n116 : Int, ((⟨(w5).heap.size, (0 + 7), none⟩, [(.int .i64 n116)]) ∈ x114) ∧
         ∀ w117 : World, (X.Hid [] w112 w117) →
         X.CallX Try.prog 16 #[(.pointer (q115)), (.int .i64 n116)] w117 fun e118 w119 =>
          ∃ q120 : Option Addr, ∃ k121 : Nat, ∃ k122 : Nat, (e118 = .returned (.slice (q120) k121 k122)) ∧
          ((w117).heap.size ≤ (w119).heap.size) ∧
          ∃ x123 : Int → World → List Nat → Prop, ∃ x124 : Int → World → Nat, (x123 0 w119 []) ∧
          ∀ n125 : Int, ∀ w126 : World, ∀ L127 : List Nat, (X.LF (w).heap.size w126 L127) →
          (x123 n125 w126 L127) →
          if (decide (n125 < ((k121 : Nat) : Int))) = true then
           ((0 : Int) ≤ n125) ∧
           (n125 < ((k121 : Nat) : Int)) ∧
           X.onSome (q120) fun p128 =>
           ∃ n129 : Int, ∃ n130 : Int, ∃ n131 : Int, ∃ n132 : Int, ∃ n133 : Int, ∃ n134 : Int, ∃ b135 : Bool, ∃ q136 : Option Addr, ∃ k137 : Nat, ∃ k138 : Nat, (X.Cells w126 (p128.add ((n125).toNat * 8)) [(.int .u8 n129), (.int .u16 n130), (.int .u8 n131), (.int .u16 n132), (.int .u64 n133), (.int .u64 n134), (.bool b135), (.slice (q136) k137 k138)]) ∧
           X.CallX Try.prog 28 #[(.pointer (some ⟨(w5).heap.size, 0, none⟩)), (.agg #[(.int .u8 n129), (.int .u16 n130), (.int .u8 n131), (.int .u16 n132), (.int .u64 n133), (.int .u64 n134), (.bool b135), (.slice (q136) k137 k138)])] w126 fun e139 w140 =>
            (e139 = .returned (.tuple #[])) ∧
            ((w126).heap.size ≤ (w140).heap.size) ∧
            (x123 (IntKind.wrap .i64 (n125 + 1)) w140 []) ∧
            Nat.le ((x124 (IntKind.wrap .i64 (n125 + 1)) w140) + 1) (x124 n125 w126)
          else
           (x109 (IntKind.wrap .i64 (n111 + 1)) w126 []) ∧
           Nat.le ((x110 (IntKind.wrap .i64 (n111 + 1)) w126) + 1) (x110 n111 w112)
        else
         (x18 (IntKind.wrap .i64 (n20 + 1)) w112 []) ∧
         Nat.le ((x19 (IntKind.wrap .i64 (n20 + 1)) w112) + 1) (x19 n20 w21)
       else
        ∃ x23 : X.Facts, (X.FactsW x23 w21 []) ∧
        ((0 : Int) ≤ 1) ∧
        ((1 : Int) < 2) ∧
        ∃ q24 : Option Addr, ∃ k25 : Nat, ∃ k26 : Nat, ((⟨(w5).heap.size, ((0 + 5) + 1), none⟩, [(.slice (q24) k25 k26)]) ∈ x23) ∧
        ((0 : Int) ≤ 0) ∧
        ((0 : Int) < 2) ∧
        ∃ q27 : Option Addr, ∃ k28 : Nat, ∃ k29 : Nat, ((⟨(w5).heap.size, (0 + 3), none⟩, [(.slice (q27) k28 k29)]) ∈ x23) ∧
        if ((((k25 : Nat) : Int) == ((k28 : Nat) : Int)) == true) = true then
         ((0 : Int) ≤ 0) ∧
         ((0 : Int) < 2) ∧
         ∃ q56 : Option Addr, ∃ k57 : Nat, ∃ k58 : Nat, ((⟨(w5).heap.size, (0 + 5), none⟩, [(.slice (q56) k57 k58)]) ∈ x23) ∧
         ((0 : Int) ≤ 1) ∧
         ((1 : Int) < 2) ∧
         ∃ q59 : Option Addr, ∃ k60 : Nat, ∃ k61 : Nat, ((⟨(w5).heap.size, ((0 + 3) + 1), none⟩, [(.slice (q59) k60 k61)]) ∈ x23) ∧
         if ((true && (((k57 : Nat) : Int) == ((k60 : Nat) : Int))) == true) = true then
          ((0 : Int) ≤ 1) ∧
          ((1 : Int) < 2) ∧
          ∃ q69 : Option Addr, ∃ k70 : Nat, ∃ k71 : Nat, ((⟨(w5).heap.size, ((0 + 5) + 1), none⟩, [(.slice (q69) k70 k71)]) ∈ x23) ∧
          ((0 : Int) ≤ 0) ∧
          ((0 : Int) < 2) ∧
          ∃ q72 : Option Addr, ∃ k73 : Nat, ∃ k74 : Nat, ((⟨(w5).heap.size, (0 + 3), none⟩, [(.slice (q72) k73 k74)]) ∈ x23) ∧
          ∀ w75 : World, (X.Hid [] w21 w75) →
          X.CallX Try.prog 27 #[(.slice (q69) k70 k71), (.slice (q72) k73 k74)] w75 fun e76 w77 =>
           ∃ b78 : Bool, (e76 = .returned (.bool b78)) ∧
           ((w75).heap.size ≤ (w77).heap.size) ∧
           (X.FactsW x23 w77 []) ∧
           ∃ x79 : X.Facts, (X.FactsW x79 w77 []) ∧
           (∀ x80 : Addr × List Value, (x80 ∈ x23) →
            x80 ∈ x79) ∧
           if ((true && b78) == true) = true then
            ((0 : Int) ≤ 0) ∧
            ((0 : Int) < 2) ∧
            ∃ q85 : Option Addr, ∃ k86 : Nat, ∃ k87 : Nat, ((⟨(w5).heap.size, (0 + 5), none⟩, [(.slice (q85) k86 k87)]) ∈ x79) ∧
            ((0 : Int) ≤ 1) ∧
            ((1 : Int) < 2) ∧
            ∃ q88 : Option Addr, ∃ k89 : Nat, ∃ k90 : Nat, ((⟨(w5).heap.size, ((0 + 3) + 1), none⟩, [(.slice (q88) k89 k90)]) ∈ x79) ∧
            X.CallX Try.prog 27 #[(.slice (q85) k86 k87), (.slice (q88) k89 k90)] w77 fun e91 w92 =>
             ∃ b93 : Bool, (e91 = .returned (.bool b93)) ∧
             ((w77).heap.size ≤ (w92).heap.size) ∧
             (X.FactsW x79 w92 []) ∧
             ∃ x94 : X.Facts, (X.FactsW x94 w92 []) ∧
             (∀ x95 : Addr × List Value, (x95 ∈ x79) →
              x95 ∈ x94) ∧
             if ((true && b93) == true) = true then
              ((0 : Int) ≤ 0) ∧
              ((0 : Int) < 2) ∧
              ∃ q98 : Option Addr, ((⟨(w5).heap.size, 0, none⟩, [(.pointer (q98))]) ∈ x94) ∧
              X.CallX Try.prog 23 #[(.pointer (q98))] w92 fun e99 w100 =>
               ∃ b101 : Bool, (e99 = .returned (.bool b101)) ∧
               ((w92).heap.size ≤ (w100).heap.size) ∧
               (X.FactsW x94 w100 []) ∧
               ∃ x102 : X.Facts, (X.FactsW x102 w100 []) ∧
               (∀ x103 : Addr × List Value, (x103 ∈ x94) →
                x103 ∈ x102) ∧
               if ((true && b101) == true) = true then
                ((0 : Int) ≤ 1) ∧
                ((1 : Int) < 2) ∧
                ∃ q104 : Option Addr, ((⟨(w5).heap.size, (0 + 1), none⟩, [(.pointer (q104))]) ∈ x102) ∧
                X.CallX Try.prog 23 #[(.pointer (q104))] w100 fun e105 w106 =>
                 ∃ b107 : Bool, (e105 = .returned (.bool b107)) ∧
                 ((w100).heap.size ≤ (w106).heap.size) ∧
                 (X.FactsW x102 w106 []) ∧
                 R (.returned (.bool (true && b107))) w106
               else
                R (.returned (.bool false)) w100
             else
              ∃ x96 : X.Facts, (X.FactsW x96 w92 []) ∧
              (∀ x97 : Addr × List Value, (x97 ∈ x94) →
               x97 ∈ x96) ∧
              R (.returned (.bool false)) w92
           else
            ∃ x81 : X.Facts, (X.FactsW x81 w77 []) ∧
            (∀ x82 : Addr × List Value, (x82 ∈ x79) →
             x82 ∈ x81) ∧
            ∃ x83 : X.Facts, (X.FactsW x83 w77 []) ∧
            (∀ x84 : Addr × List Value, (x84 ∈ x81) →
             x84 ∈ x83) ∧
            R (.returned (.bool false)) w77
         else
          ∃ x62 : X.Facts, (X.FactsW x62 w21 []) ∧
          (∀ x63 : Addr × List Value, (x63 ∈ x23) →
           x63 ∈ x62) ∧
          ∃ x64 : X.Facts, (X.FactsW x64 w21 []) ∧
          (∀ x65 : Addr × List Value, (x65 ∈ x62) →
           x65 ∈ x64) ∧
          ∃ x66 : X.Facts, (X.FactsW x66 w21 []) ∧
          (∀ x67 : Addr × List Value, (x67 ∈ x64) →
           x67 ∈ x66) ∧
          ∀ w68 : World, (X.Hid [] w21 w68) →
          R (.returned (.bool false)) w68
        else
         (∃ x30 : X.Facts, (X.FactsW x30 w21 []) ∧
          (∀ x31 : Addr × List Value, (x31 ∈ x23) →
           x31 ∈ x30) ∧
          ∃ x32 : X.Facts, (X.FactsW x32 w21 []) ∧
          (∀ x33 : Addr × List Value, (x33 ∈ x30) →
           x33 ∈ x32) ∧
          ∃ x34 : X.Facts, (X.FactsW x34 w21 []) ∧
          (∀ x35 : Addr × List Value, (x35 ∈ x32) →
           x35 ∈ x34) ∧
          ∃ x36 : X.Facts, (X.FactsW x36 w21 []) ∧
          (∀ x37 : Addr × List Value, (x37 ∈ x34) →
           x37 ∈ x36) ∧
          ∃ x38 : X.Facts, (X.FactsW x38 w21 []) ∧
          (∀ x39 : Addr × List Value, (x39 ∈ x36) →
           x39 ∈ x38) ∧
          ∃ x40 : X.Facts, (X.FactsW x40 w21 []) ∧
          (∀ x41 : Addr × List Value, (x41 ∈ x38) →
           x41 ∈ x40) ∧
          ∀ w42 : World, (X.Hid [] w21 w42) →
          R (.returned (.bool false)) w42) ∧
         ∃ x43 : X.Facts, (X.FactsW x43 w21 []) ∧
         (∀ x44 : Addr × List Value, (x44 ∈ x23) →
          x44 ∈ x43) ∧
         ∃ x45 : X.Facts, (X.FactsW x45 w21 []) ∧
         (∀ x46 : Addr × List Value, (x46 ∈ x43) →
          x46 ∈ x45) ∧
         ∃ x47 : X.Facts, (X.FactsW x47 w21 []) ∧
         (∀ x48 : Addr × List Value, (x48 ∈ x45) →
          x48 ∈ x47) ∧
         ∃ x49 : X.Facts, (X.FactsW x49 w21 []) ∧
         (∀ x50 : Addr × List Value, (x50 ∈ x47) →
          x50 ∈ x49) ∧
         ∃ x51 : X.Facts, (X.FactsW x51 w21 []) ∧
         (∀ x52 : Addr × List Value, (x52 ∈ x49) →
          x52 ∈ x51) ∧
         ∃ x53 : X.Facts, (X.FactsW x53 w21 []) ∧
         (∀ x54 : Addr × List Value, (x54 ∈ x51) →
          x54 ∈ x53) ∧
         ∀ w55 : World, (X.Hid [] w21 w55) →
         R (.returned (.bool false)) w55
  else
   X.CallX Try.prog 8 #[] w fun e1 w2 =>
    ∃ b3 : Bool, (e1 = .returned (.bool b3)) ∧
    ((w).heap.size ≤ (w2).heap.size) ∧
    R (.returned (.bool b3)) w2) :
    Calls Try.prog 4 #[.int .u64 a, .int .i64 b, .slice c cl cc] w R :=
  X.calls_of { isLoc := [], sym := [101], loops := [(7, .inv [(8, .int .i64)] [] true), (13, .inv [(9, .int .i64)] [] true), (17, .inv [(10, .int .i64)] [] true), (21, .inv [(12, .int .i64)] [] true)], joins := [] } Try.func4 (by kernel_rfl) h
end Go.Proofs
