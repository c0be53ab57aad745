import Derived.Test.YthlhoikeacgfnaaXFn
import Derived.Test.YthlhoikeacgfnaaProg
/- The verification conditions of this seat's functions, as the engine has them: printed by a program of the bench; checked by the kernel. -/
set_option maxRecDepth 100000
set_option linter.unusedVariables false
namespace Go.Proofs
open Go
abbrev fn_gemotlaw02_IdentSets : Nat := 7
theorem x_gemotlaw02_IdentSets (a : Int) (b : Option Addr) (bl bc : Nat) (w : World) (R : Ending → World → Prop) (h :
  if ((decide (((bl : Nat) : Int) > 100)) == false) = true then
   X.CallX Try.prog 22 #[] w fun e4 w5 =>
    ∃ b6 : Bool, (e4 = .returned (.bool b6)) ∧
    ((w).heap.size ≤ (w5).heap.size) ∧
    if (false || (!b6)) = true then
     X.CallX Try.prog 22 #[] w5 fun e253 w254 =>
      ∃ b255 : Bool, (e253 = .returned (.bool b255)) ∧
      ((w5).heap.size ≤ (w254).heap.size) ∧
      R (.returned (.bool b255)) w254
    else
     X.CallX Try.prog 34 #[(.int .i64 a)] w5 fun e7 w8 =>
      ∃ q9 : Option Addr, (e7 = .returned (.pointer (q9))) ∧
      ((w5).heap.size ≤ (w8).heap.size) ∧
      ∃ x10 : Int → World → List Nat → Prop, ∃ x11 : Int → World → Nat, (x10 0 (w8.alloc (.cells #[(.slice none 0 0), (.int .i64 a)] 75)) []) ∧
      ∀ n12 : Int, ∀ w13 : World, ∀ L14 : List Nat, (X.LF (w).heap.size w13 L14) →
      (x10 n12 w13 L14) →
      if (decide (n12 < ((bl : Nat) : Int))) = true then
       ((0 : Int) ≤ n12) ∧
       (n12 < ((bl : Nat) : Int)) ∧
       X.onSome (b) fun p15 =>
       ∃ n16 : Int, ∃ n17 : Int, ∃ n18 : Int, ∃ n19 : Int, ∃ n20 : Int, ∃ n21 : Int, ∃ n22 : Int, ∃ n23 : Int, ∃ n24 : Int, ∃ n25 : Int, (X.Cells w13 ((p15.add ((n12).toNat * 11)).add 1) [(.int .u8 n16), (.int .u16 n17), (.int .u32 n18), (.int .u8 n19), (.int .u8 n20), (.int .u8 n21), (.int .u8 n22), (.int .u8 n23), (.int .u8 n24), (.int .u8 n25)]) ∧
       ((0 : Int) ≤ n12) ∧
       (n12 < ((bl : Nat) : Int)) ∧
       X.onSome (b) fun p26 =>
       ∃ n27 : Int, (World.cell? w13 ((p26.add ((n12).toNat * 11)).add 0) = some (.int .i64 n27)) ∧
       ∃ x28 : Bool → World → List Nat → Prop, (if (n27 == 0) = true then
         if (n27 == 0) = true then
          ∃ x191 : X.Facts, (X.FactsW x191 w13 []) ∧
          ∀ w192 : World, ∀ L193 : List Nat, (X.Hid [] w13 w192) →
          (X.NewL (w).heap.size [] w13 w192 L193) →
          X.CallX Try.prog 9 #[(.agg #[(.int .u8 n16), (.int .u16 n17), (.int .u32 n18), (.int .u8 n19), (.int .u8 n20), (.int .u8 n21), (.int .u8 n22), (.int .u8 n23), (.int .u8 n24), (.int .u8 n25)])] w192 fun e194 w195 =>
           ∃ n196 : Int, ∃ n197 : Int, ∃ n198 : Int, ∃ n199 : Int, ∃ n200 : Int, ∃ n201 : Int, ∃ n202 : Int, ∃ n203 : Int, ∃ n204 : Int, ∃ n205 : Int, (e194 = .returned (.agg #[(.int .u8 n196), (.int .u16 n197), (.int .u32 n198), (.int .u8 n199), (.int .u8 n200), (.int .u8 n201), (.int .u8 n202), (.int .u8 n203), (.int .u8 n204), (.int .u8 n205)])) ∧
           (X.Kept L193 w192 w195) ∧
           (X.FactsW x191 w195 (L193)) ∧
           X.CallX Try.prog 28 #[(.pointer (q9)), (.agg #[(.int .u8 n196), (.int .u16 n197), (.int .u32 n198), (.int .u8 n199), (.int .u8 n200), (.int .u8 n201), (.int .u8 n202), (.int .u8 n203), (.int .u8 n204), (.int .u8 n205)])] w195 fun e206 w207 =>
            ∃ n208 : Int, (e206 = .returned (.int .i64 n208)) ∧
            (X.Kept L193 w195 w207) ∧
            (X.FactsW x191 w207 (L193)) ∧
            X.CallX Try.prog 14 #[(.int .i64 n208)] w207 fun e209 w210 =>
             ∃ n211 : Int, (e209 = .returned (.int .i64 n211)) ∧
             (X.Kept L193 w207 w210) ∧
             (X.FactsW x191 w210 (L193)) ∧
             X.CallX Try.prog 35 #[(.pointer (some ⟨(w8).heap.size, 0, none⟩)), (.agg #[(.int .u8 n16), (.int .u16 n17), (.int .u32 n18), (.int .u8 n19), (.int .u8 n20), (.int .u8 n21), (.int .u8 n22), (.int .u8 n23), (.int .u8 n24), (.int .u8 n25)])] w210 fun e212 w213 =>
              ∃ n214 : Int, (e212 = .returned (.int .i64 n214)) ∧
              (X.Kept L193 w210 w213) ∧
              (X.FactsW x191 w213 (L193)) ∧
              (([(.int .u8 n16), (.int .u16 n17), (.int .u32 n18), (.int .u8 n19), (.int .u8 n20), (.int .u8 n21), (.int .u8 n22), (.int .u8 n23), (.int .u8 n24), (.int .u8 n25)] : List Value) = [(.int .u8 n16), (.int .u16 n17), (.int .u32 n18), (.int .u8 n19), (.int .u8 n20), (.int .u8 n21), (.int .u8 n22), (.int .u8 n23), (.int .u8 n24), (.int .u8 n25)]) ∧
              x28 (n211 == n214) w213 (L193)
         else
          if (n27 == 2) = true then
           ∃ x170 : X.Facts, (X.FactsW x170 w13 []) ∧
           ∀ w171 : World, ∀ L172 : List Nat, (X.Hid [] w13 w171) →
           (X.NewL (w).heap.size [] w13 w171 L172) →
           X.CallX Try.prog 9 #[(.agg #[(.int .u8 n16), (.int .u16 n17), (.int .u32 n18), (.int .u8 n19), (.int .u8 n20), (.int .u8 n21), (.int .u8 n22), (.int .u8 n23), (.int .u8 n24), (.int .u8 n25)])] w171 fun e173 w174 =>
            ∃ n175 : Int, ∃ n176 : Int, ∃ n177 : Int, ∃ n178 : Int, ∃ n179 : Int, ∃ n180 : Int, ∃ n181 : Int, ∃ n182 : Int, ∃ n183 : Int, ∃ n184 : Int, (e173 = .returned (.agg #[(.int .u8 n175), (.int .u16 n176), (.int .u32 n177), (.int .u8 n178), (.int .u8 n179), (.int .u8 n180), (.int .u8 n181), (.int .u8 n182), (.int .u8 n183), (.int .u8 n184)])) ∧
            (X.Kept L172 w171 w174) ∧
            (X.FactsW x170 w174 (L172)) ∧
            X.CallX Try.prog 29 #[(.pointer (q9)), (.agg #[(.int .u8 n175), (.int .u16 n176), (.int .u32 n177), (.int .u8 n178), (.int .u8 n179), (.int .u8 n180), (.int .u8 n181), (.int .u8 n182), (.int .u8 n183), (.int .u8 n184)])] w174 fun e185 w186 =>
             ∃ b187 : Bool, (e185 = .returned (.bool b187)) ∧
             (X.Kept L172 w174 w186) ∧
             (X.FactsW x170 w186 (L172)) ∧
             X.CallX Try.prog 36 #[(.pointer (some ⟨(w8).heap.size, 0, none⟩)), (.agg #[(.int .u8 n16), (.int .u16 n17), (.int .u32 n18), (.int .u8 n19), (.int .u8 n20), (.int .u8 n21), (.int .u8 n22), (.int .u8 n23), (.int .u8 n24), (.int .u8 n25)])] w186 fun e188 w189 =>
              ∃ b190 : Bool, (e188 = .returned (.bool b190)) ∧
              (X.Kept L172 w186 w189) ∧
              (X.FactsW x170 w189 (L172)) ∧
              (([(.int .u8 n16), (.int .u16 n17), (.int .u32 n18), (.int .u8 n19), (.int .u8 n20), (.int .u8 n21), (.int .u8 n22), (.int .u8 n23), (.int .u8 n24), (.int .u8 n25)] : List Value) = [(.int .u8 n16), (.int .u16 n17), (.int .u32 n18), (.int .u8 n19), (.int .u8 n20), (.int .u8 n21), (.int .u8 n22), (.int .u8 n23), (.int .u8 n24), (.int .u8 n25)]) ∧
              x28 (b187 == b190) w189 (L172)
          else
           if (n27 == 3) = true then
            ∀ w149 : World, ∀ L150 : List Nat, (X.Hid [] w13 w149) →
            (X.NewL (w).heap.size [] w13 w149 L150) →
            X.CallX Try.prog 37 #[(.pointer (some ⟨(w8).heap.size, 0, none⟩)), (.agg #[(.int .u8 n16), (.int .u16 n17), (.int .u32 n18), (.int .u8 n19), (.int .u8 n20), (.int .u8 n21), (.int .u8 n22), (.int .u8 n23), (.int .u8 n24), (.int .u8 n25)])] w149 fun e151 w152 =>
             ∃ n153 : Int, ∃ b154 : Bool, (e151 = .returned (.tuple #[(.int .i64 n153), (.bool b154)])) ∧
             (X.Kept L150 w149 w152) ∧
             X.CallX Try.prog 9 #[(.agg #[(.int .u8 n16), (.int .u16 n17), (.int .u32 n18), (.int .u8 n19), (.int .u8 n20), (.int .u8 n21), (.int .u8 n22), (.int .u8 n23), (.int .u8 n24), (.int .u8 n25)])] w152 fun e155 w156 =>
              ∃ n157 : Int, ∃ n158 : Int, ∃ n159 : Int, ∃ n160 : Int, ∃ n161 : Int, ∃ n162 : Int, ∃ n163 : Int, ∃ n164 : Int, ∃ n165 : Int, ∃ n166 : Int, (e155 = .returned (.agg #[(.int .u8 n157), (.int .u16 n158), (.int .u32 n159), (.int .u8 n160), (.int .u8 n161), (.int .u8 n162), (.int .u8 n163), (.int .u8 n164), (.int .u8 n165), (.int .u8 n166)])) ∧
              (X.Kept L150 w152 w156) ∧
              X.CallX Try.prog 30 #[(.pointer (q9)), (.agg #[(.int .u8 n157), (.int .u16 n158), (.int .u32 n159), (.int .u8 n160), (.int .u8 n161), (.int .u8 n162), (.int .u8 n163), (.int .u8 n164), (.int .u8 n165), (.int .u8 n166)])] w156 fun e167 w168 =>
               ∃ b169 : Bool, (e167 = .returned (.bool b169)) ∧
               (X.Kept L150 w156 w168) ∧
               (([(.int .u8 n16), (.int .u16 n17), (.int .u32 n18), (.int .u8 n19), (.int .u8 n20), (.int .u8 n21), (.int .u8 n22), (.int .u8 n23), (.int .u8 n24), (.int .u8 n25)] : List Value) = [(.int .u8 n16), (.int .u16 n17), (.int .u32 n18), (.int .u8 n19), (.int .u8 n20), (.int .u8 n21), (.int .u8 n22), (.int .u8 n23), (.int .u8 n24), (.int .u8 n25)]) ∧
               x28 (b169 == b154) w168 (L150)
           else
            if (n27 == 4) = true then
             ∃ x124 : X.Facts, (X.FactsW x124 w13 []) ∧
             ∀ w125 : World, ∀ L126 : List Nat, (X.Hid [] w13 w125) →
             (X.NewL (w).heap.size [] w13 w125 L126) →
             X.CallX Try.prog 19 #[(.agg #[(.int .u8 n16), (.int .u16 n17)])] w125 fun e127 w128 =>
              ∃ n129 : Int, ∃ n130 : Int, (e127 = .returned (.agg #[(.int .u8 n129), (.int .u16 n130)])) ∧
              (X.Kept L126 w125 w128) ∧
              (X.FactsW x124 w128 (L126)) ∧
              X.CallX Try.prog 33 #[(.pointer (q9)), (.agg #[(.int .u8 n129), (.int .u16 n130)])] w128 fun e131 w132 =>
               ∃ q133 : Option Addr, ∃ k134 : Nat, ∃ k135 : Nat, (e131 = .returned (.slice (q133) k134 k135)) ∧
               (X.Kept L126 w128 w132) ∧
               (X.FactsW x124 w132 (L126)) ∧
               X.CallX Try.prog 39 #[(.slice (q133) k134 k135)] w132 fun e136 w137 =>
                ∃ q138 : Option Addr, ∃ k139 : Nat, ∃ k140 : Nat, (e136 = .returned (.slice (q138) k139 k140)) ∧
                (X.Kept L126 w132 w137) ∧
                (X.FactsW x124 w137 (L126)) ∧
                X.CallX Try.prog 40 #[(.pointer (some ⟨(w8).heap.size, 0, none⟩)), (.agg #[(.int .u8 n16), (.int .u16 n17)])] w137 fun e141 w142 =>
                 ∃ q143 : Option Addr, ∃ k144 : Nat, ∃ k145 : Nat, (e141 = .returned (.slice (q143) k144 k145)) ∧
                 (X.Kept L126 w137 w142) ∧
                 (X.FactsW x124 w142 (L126)) ∧
                 X.CallX Try.prog 38 #[(.slice (q138) k139 k140), (.slice (q143) k144 k145)] w142 fun e146 w147 =>
                  ∃ b148 : Bool, (e146 = .returned (.bool b148)) ∧
                  (X.Kept L126 w142 w147) ∧
                  (X.FactsW x124 w147 (L126)) ∧
                  (([(.int .u8 n16), (.int .u16 n17), (.int .u32 n18), (.int .u8 n19), (.int .u8 n20), (.int .u8 n21), (.int .u8 n22), (.int .u8 n23), (.int .u8 n24), (.int .u8 n25)] : List Value) = [(.int .u8 n16), (.int .u16 n17), (.int .u32 n18), (.int .u8 n19), (.int .u8 n20), (.int .u8 n21), (.int .u8 n22), (.int .u8 n23), (.int .u8 n24), (.int .u8 n25)]) ∧
                  x28 b148 w147 (L126)
            else
             ∀ w122 : World, ∀ L123 : List Nat, (X.Hid [] w13 w122) →
             (X.NewL (w).heap.size [] w13 w122 L123) →
             (([(.int .u8 n16), (.int .u16 n17), (.int .u32 n18), (.int .u8 n19), (.int .u8 n20), (.int .u8 n21), (.int .u8 n22), (.int .u8 n23), (.int .u8 n24), (.int .u8 n25)] : List Value) = [(.int .u8 n16), (.int .u16 n17), (.int .u32 n18), (.int .u8 n19), (.int .u8 n20), (.int .u8 n21), (.int .u8 n22), (.int .u8 n23), (.int .u8 n24), (.int .u8 n25)]) ∧
             x28 true w122 (L123)
        else
         if (n27 == 1) = true then
          ∃ x98 : X.Facts, (X.FactsW x98 w13 []) ∧
          ∀ w99 : World, ∀ L100 : List Nat, (X.Hid [] w13 w99) →
          (X.NewL (w).heap.size [] w13 w99 L100) →
          X.CallX Try.prog 9 #[(.agg #[(.int .u8 n16), (.int .u16 n17), (.int .u32 n18), (.int .u8 n19), (.int .u8 n20), (.int .u8 n21), (.int .u8 n22), (.int .u8 n23), (.int .u8 n24), (.int .u8 n25)])] w99 fun e101 w102 =>
           ∃ n103 : Int, ∃ n104 : Int, ∃ n105 : Int, ∃ n106 : Int, ∃ n107 : Int, ∃ n108 : Int, ∃ n109 : Int, ∃ n110 : Int, ∃ n111 : Int, ∃ n112 : Int, (e101 = .returned (.agg #[(.int .u8 n103), (.int .u16 n104), (.int .u32 n105), (.int .u8 n106), (.int .u8 n107), (.int .u8 n108), (.int .u8 n109), (.int .u8 n110), (.int .u8 n111), (.int .u8 n112)])) ∧
           (X.Kept L100 w99 w102) ∧
           (X.FactsW x98 w102 (L100)) ∧
           X.CallX Try.prog 28 #[(.pointer (q9)), (.agg #[(.int .u8 n103), (.int .u16 n104), (.int .u32 n105), (.int .u8 n106), (.int .u8 n107), (.int .u8 n108), (.int .u8 n109), (.int .u8 n110), (.int .u8 n111), (.int .u8 n112)])] w102 fun e113 w114 =>
            ∃ n115 : Int, (e113 = .returned (.int .i64 n115)) ∧
            (X.Kept L100 w102 w114) ∧
            (X.FactsW x98 w114 (L100)) ∧
            X.CallX Try.prog 14 #[(.int .i64 n115)] w114 fun e116 w117 =>
             ∃ n118 : Int, (e116 = .returned (.int .i64 n118)) ∧
             (X.Kept L100 w114 w117) ∧
             (X.FactsW x98 w117 (L100)) ∧
             X.CallX Try.prog 35 #[(.pointer (some ⟨(w8).heap.size, 0, none⟩)), (.agg #[(.int .u8 n16), (.int .u16 n17), (.int .u32 n18), (.int .u8 n19), (.int .u8 n20), (.int .u8 n21), (.int .u8 n22), (.int .u8 n23), (.int .u8 n24), (.int .u8 n25)])] w117 fun e119 w120 =>
              ∃ n121 : Int, (e119 = .returned (.int .i64 n121)) ∧
              (X.Kept L100 w117 w120) ∧
              (X.FactsW x98 w120 (L100)) ∧
              (([(.int .u8 n16), (.int .u16 n17), (.int .u32 n18), (.int .u8 n19), (.int .u8 n20), (.int .u8 n21), (.int .u8 n22), (.int .u8 n23), (.int .u8 n24), (.int .u8 n25)] : List Value) = [(.int .u8 n16), (.int .u16 n17), (.int .u32 n18), (.int .u8 n19), (.int .u8 n20), (.int .u8 n21), (.int .u8 n22), (.int .u8 n23), (.int .u8 n24), (.int .u8 n25)]) ∧
              x28 (n118 == n121) w120 (L100)
         else
          if (n27 == 2) = true then
           ∃ x77 : X.Facts, (X.FactsW x77 w13 []) ∧
           ∀ w78 : World, ∀ L79 : List Nat, (X.Hid [] w13 w78) →
           (X.NewL (w).heap.size [] w13 w78 L79) →
           X.CallX Try.prog 9 #[(.agg #[(.int .u8 n16), (.int .u16 n17), (.int .u32 n18), (.int .u8 n19), (.int .u8 n20), (.int .u8 n21), (.int .u8 n22), (.int .u8 n23), (.int .u8 n24), (.int .u8 n25)])] w78 fun e80 w81 =>
            ∃ n82 : Int, ∃ n83 : Int, ∃ n84 : Int, ∃ n85 : Int, ∃ n86 : Int, ∃ n87 : Int, ∃ n88 : Int, ∃ n89 : Int, ∃ n90 : Int, ∃ n91 : Int, (e80 = .returned (.agg #[(.int .u8 n82), (.int .u16 n83), (.int .u32 n84), (.int .u8 n85), (.int .u8 n86), (.int .u8 n87), (.int .u8 n88), (.int .u8 n89), (.int .u8 n90), (.int .u8 n91)])) ∧
            (X.Kept L79 w78 w81) ∧
            (X.FactsW x77 w81 (L79)) ∧
            X.CallX Try.prog 29 #[(.pointer (q9)), (.agg #[(.int .u8 n82), (.int .u16 n83), (.int .u32 n84), (.int .u8 n85), (.int .u8 n86), (.int .u8 n87), (.int .u8 n88), (.int .u8 n89), (.int .u8 n90), (.int .u8 n91)])] w81 fun e92 w93 =>
             ∃ b94 : Bool, (e92 = .returned (.bool b94)) ∧
             (X.Kept L79 w81 w93) ∧
             (X.FactsW x77 w93 (L79)) ∧
             X.CallX Try.prog 36 #[(.pointer (some ⟨(w8).heap.size, 0, none⟩)), (.agg #[(.int .u8 n16), (.int .u16 n17), (.int .u32 n18), (.int .u8 n19), (.int .u8 n20), (.int .u8 n21), (.int .u8 n22), (.int .u8 n23), (.int .u8 n24), (.int .u8 n25)])] w93 fun e95 w96 =>
              ∃ b97 : Bool, (e95 = .returned (.bool b97)) ∧
              (X.Kept L79 w93 w96) ∧
              (X.FactsW x77 w96 (L79)) ∧
              (([(.int .u8 n16), (.int .u16 n17), (.int .u32 n18), (.int .u8 n19), (.int .u8 n20), (.int .u8 n21), (.int .u8 n22), (.int .u8 n23), (.int .u8 n24), (.int .u8 n25)] : List Value) = [(.int .u8 n16), (.int .u16 n17), (.int .u32 n18), (.int .u8 n19), (.int .u8 n20), (.int .u8 n21), (.int .u8 n22), (.int .u8 n23), (.int .u8 n24), (.int .u8 n25)]) ∧
              x28 (b94 == b97) w96 (L79)
          else
           if (n27 == 3) = true then
            ∀ w56 : World, ∀ L57 : List Nat, (X.Hid [] w13 w56) →
            (X.NewL (w).heap.size [] w13 w56 L57) →
            X.CallX Try.prog 37 #[(.pointer (some ⟨(w8).heap.size, 0, none⟩)), (.agg #[(.int .u8 n16), (.int .u16 n17), (.int .u32 n18), (.int .u8 n19), (.int .u8 n20), (.int .u8 n21), (.int .u8 n22), (.int .u8 n23), (.int .u8 n24), (.int .u8 n25)])] w56 fun e58 w59 =>
             ∃ n60 : Int, ∃ b61 : Bool, (e58 = .returned (.tuple #[(.int .i64 n60), (.bool b61)])) ∧
             (X.Kept L57 w56 w59) ∧
             X.CallX Try.prog 9 #[(.agg #[(.int .u8 n16), (.int .u16 n17), (.int .u32 n18), (.int .u8 n19), (.int .u8 n20), (.int .u8 n21), (.int .u8 n22), (.int .u8 n23), (.int .u8 n24), (.int .u8 n25)])] w59 fun e62 w63 =>
              ∃ n64 : Int, ∃ n65 : Int, ∃ n66 : Int, ∃ n67 : Int, ∃ n68 : Int, ∃ n69 : Int, ∃ n70 : Int, ∃ n71 : Int, ∃ n72 : Int, ∃ n73 : Int, (e62 = .returned (.agg #[(.int .u8 n64), (.int .u16 n65), (.int .u32 n66), (.int .u8 n67), (.int .u8 n68), (.int .u8 n69), (.int .u8 n70), (.int .u8 n71), (.int .u8 n72), (.int .u8 n73)])) ∧
              (X.Kept L57 w59 w63) ∧
              X.CallX Try.prog 30 #[(.pointer (q9)), (.agg #[(.int .u8 n64), (.int .u16 n65), (.int .u32 n66), (.int .u8 n67), (.int .u8 n68), (.int .u8 n69), (.int .u8 n70), (.int .u8 n71), (.int .u8 n72), (.int .u8 n73)])] w63 fun e74 w75 =>
               ∃ b76 : Bool, (e74 = .returned (.bool b76)) ∧
               (X.Kept L57 w63 w75) ∧
               (([(.int .u8 n16), (.int .u16 n17), (.int .u32 n18), (.int .u8 n19), (.int .u8 n20), (.int .u8 n21), (.int .u8 n22), (.int .u8 n23), (.int .u8 n24), (.int .u8 n25)] : List Value) = [(.int .u8 n16), (.int .u16 n17), (.int .u32 n18), (.int .u8 n19), (.int .u8 n20), (.int .u8 n21), (.int .u8 n22), (.int .u8 n23), (.int .u8 n24), (.int .u8 n25)]) ∧
               x28 (b76 == b61) w75 (L57)
           else
            if (n27 == 4) = true then
             ∃ x31 : X.Facts, (X.FactsW x31 w13 []) ∧
             ∀ w32 : World, ∀ L33 : List Nat, (X.Hid [] w13 w32) →
             (X.NewL (w).heap.size [] w13 w32 L33) →
             X.CallX Try.prog 19 #[(.agg #[(.int .u8 n16), (.int .u16 n17)])] w32 fun e34 w35 =>
              ∃ n36 : Int, ∃ n37 : Int, (e34 = .returned (.agg #[(.int .u8 n36), (.int .u16 n37)])) ∧
              (X.Kept L33 w32 w35) ∧
              (X.FactsW x31 w35 (L33)) ∧
              X.CallX Try.prog 33 #[(.pointer (q9)), (.agg #[(.int .u8 n36), (.int .u16 n37)])] w35 fun e38 w39 =>
               ∃ q40 : Option Addr, ∃ k41 : Nat, ∃ k42 : Nat, (e38 = .returned (.slice (q40) k41 k42)) ∧
               (X.Kept L33 w35 w39) ∧
               (X.FactsW x31 w39 (L33)) ∧
               X.CallX Try.prog 39 #[(.slice (q40) k41 k42)] w39 fun e43 w44 =>
                ∃ q45 : Option Addr, ∃ k46 : Nat, ∃ k47 : Nat, (e43 = .returned (.slice (q45) k46 k47)) ∧
                (X.Kept L33 w39 w44) ∧
                (X.FactsW x31 w44 (L33)) ∧
                X.CallX Try.prog 40 #[(.pointer (some ⟨(w8).heap.size, 0, none⟩)), (.agg #[(.int .u8 n16), (.int .u16 n17)])] w44 fun e48 w49 =>
                 ∃ q50 : Option Addr, ∃ k51 : Nat, ∃ k52 : Nat, (e48 = .returned (.slice (q50) k51 k52)) ∧
                 (X.Kept L33 w44 w49) ∧
                 (X.FactsW x31 w49 (L33)) ∧
                 X.CallX Try.prog 38 #[(.slice (q45) k46 k47), (.slice (q50) k51 k52)] w49 fun e53 w54 =>
                  ∃ b55 : Bool, (e53 = .returned (.bool b55)) ∧
                  (X.Kept L33 w49 w54) ∧
                  (X.FactsW x31 w54 (L33)) ∧
                  (([(.int .u8 n16), (.int .u16 n17), (.int .u32 n18), (.int .u8 n19), (.int .u8 n20), (.int .u8 n21), (.int .u8 n22), (.int .u8 n23), (.int .u8 n24), (.int .u8 n25)] : List Value) = [(.int .u8 n16), (.int .u16 n17), (.int .u32 n18), (.int .u8 n19), (.int .u8 n20), (.int .u8 n21), (.int .u8 n22), (.int .u8 n23), (.int .u8 n24), (.int .u8 n25)]) ∧
                  x28 b55 w54 (L33)
            else
             ∀ w29 : World, ∀ L30 : List Nat, (X.Hid [] w13 w29) →
             (X.NewL (w).heap.size [] w13 w29 L30) →
             (([(.int .u8 n16), (.int .u16 n17), (.int .u32 n18), (.int .u8 n19), (.int .u8 n20), (.int .u8 n21), (.int .u8 n22), (.int .u8 n23), (.int .u8 n24), (.int .u8 n25)] : List Value) = [(.int .u8 n16), (.int .u16 n17), (.int .u32 n18), (.int .u8 n19), (.int .u8 n20), (.int .u8 n21), (.int .u8 n22), (.int .u8 n23), (.int .u8 n24), (.int .u8 n25)]) ∧
             x28 true w29 (L30)) ∧
       ∀ b215 : Bool, ∀ w216 : World, ∀ L217 : List Nat, (X.LF (w).heap.size w216 L217) →
       (x28 b215 w216 L217) →
       ∃ x218 : X.Facts, (X.FactsW x218 w216 (L217)) ∧
       if ((!b215) == false) = true then
        ∃ q227 : Option Addr, ∃ k228 : Nat, ∃ k229 : Nat, ((⟨(w8).heap.size, 0, none⟩, [(.slice (q227) k228 k229)]) ∈ x218) ∧
        ∀ w230 : World, ∀ L231 : List Nat, (X.Hid (L217) w216 w230) →
        (X.NewL (w).heap.size (L217) w216 w230 L231) →
        X.CallX Try.prog 31 #[(.pointer (q9))] w230 fun e232 w233 =>
         ∃ n234 : Int, (e232 = .returned (.int .i64 n234)) ∧
         (X.Kept L231 w230 w233) ∧
         (X.FactsW x218 w233 (L231)) ∧
         ∃ x235 : X.Facts, (X.FactsW x235 w233 (L231)) ∧
         (∀ x236 : Addr × List Value, (x236 ∈ x218) →
          x236 ∈ x235) ∧
         if ((false || (n234 != ((k228 : Nat) : Int))) == false) = true then
          ∃ q237 : Option Addr, ∃ k238 : Nat, ∃ k239 : Nat, ((⟨(w8).heap.size, 0, none⟩, [(.slice (q237) k238 k239)]) ∈ x235) ∧
          X.CallX Try.prog 32 #[(.pointer (q9))] w233 fun e240 w241 =>
           ∃ q242 : Option Addr, ∃ k243 : Nat, ∃ k244 : Nat, (e240 = .returned (.slice (q242) k243 k244)) ∧
           (X.Kept L231 w233 w241) ∧
           (X.FactsW x235 w241 (L231)) ∧
           X.CallX Try.prog 39 #[(.slice (q242) k243 k244)] w241 fun e245 w246 =>
            ∃ q247 : Option Addr, ∃ k248 : Nat, ∃ k249 : Nat, (e245 = .returned (.slice (q247) k248 k249)) ∧
            (X.Kept L231 w241 w246) ∧
            (X.FactsW x235 w246 (L231)) ∧
            X.CallX Try.prog 38 #[(.slice (q247) k248 k249), (.slice (q237) k238 k239)] w246 fun e250 w251 =>
             ∃ b252 : Bool, (e250 = .returned (.bool b252)) ∧
             (X.Kept L231 w246 w251) ∧
             (X.FactsW x235 w251 (L231)) ∧
             if (false || (!b252)) = true then
              R (.returned (.bool false)) w251
             else
              (x10 (IntKind.wrap .i64 (n12 + 1)) w251 (L231)) ∧
              Nat.le ((x11 (IntKind.wrap .i64 (n12 + 1)) w251) + 1) (x11 n12 w13)
         else
          R (.returned (.bool false)) w233
       else
        (∃ x219 : X.Facts, (X.FactsW x219 w216 (L217)) ∧
         (∀ x220 : Addr × List Value, (x220 ∈ x218) →
          x220 ∈ x219) ∧
         ∀ w221 : World, (X.Hid (L217) w216 w221) →
         R (.returned (.bool false)) w221) ∧
        ∃ x222 : X.Facts, (X.FactsW x222 w216 (L217)) ∧
        (∀ x223 : Addr × List Value, (x223 ∈ x218) →
         x223 ∈ x222) ∧
        ∃ x224 : X.Facts, (X.FactsW x224 w216 (L217)) ∧
        (∀ x225 : Addr × List Value, (x225 ∈ x222) →
         x225 ∈ x224) ∧
        ∀ w226 : World, (X.Hid (L217) w216 w226) →
        R (.returned (.bool false)) w226
      else
       R (.returned (.bool true)) w13
  else
   X.CallX Try.prog 22 #[] w fun e1 w2 =>
    ∃ b3 : Bool, (e1 = .returned (.bool b3)) ∧
    ((w).heap.size ≤ (w2).heap.size) ∧
    R (.returned (.bool b3)) w2) :
    Calls Try.prog 7 #[.int .i64 a, .slice b bl bc] w R :=
  X.calls_of { isLoc := [8], sym := [], loops := [(6, .inv [(7, .int .i64)] [] true)], joins := [(2, ([(9, .bool)], []))] } Try.func7 (by kernel_rfl) h
end Go.Proofs
