import Derived.Test.YtfbjellaijdgbaaDoorXFn
import Derived.Test.YtfbjellaijdgbaaDoorProg
set_option maxRecDepth 100000
set_option linter.unusedVariables false
/- The verification conditions of this seat's functions, as the engine has them: printed by a program of the bench; checked by the kernel. -/
namespace Go.Proofs
open Go
abbrev fn_ViewNexts : Nat := 3
theorem x_ViewNexts (a_0 a_1 : Int) (a_2 : Option Addr) (a_2l a_2c : Nat) (b : Option Addr) (bl bc : Nat) (c : Option Addr) (cl cc : Nat) (w : World) (R : Ending → World → Prop) (h :
  ∀ w1 : World, ∀ L2 : List Nat, (X.Hid [] w w1) →
  (X.NewL (w).heap.size [] w w1 L2) →
  X.CallX Tryd.prog 5 #[(.agg #[(.int .u8 a_0), (.int .u32 a_1), (.slice (a_2) a_2l a_2c)]), (.slice (b) bl bc)] w1 fun e3 w4 =>
   ∃ b5 : Bool, (e3 = .returned (.bool b5)) ∧
   (X.Kept L2 w1 w4) ∧
   if ((!b5) || decide (((cl : Nat) : Int) > 40)) = true then
    X.CallX Tryd.prog 6 #[] w4 fun e267 w268 =>
     ∃ b269 : Bool, (e267 = .returned (.bool b269)) ∧
     (X.Kept L2 w4 w268) ∧
     R (.returned (.bool b269)) w268
   else
    X.CallX Tryd.prog 7 #[(.agg #[(.int .u8 a_0), (.int .u32 a_1), (.slice (a_2) a_2l a_2c)])] w4 fun e6 w7 =>
     ∃ n8 : Int, ∃ n9 : Int, ∃ q10 : Option Addr, ∃ k11 : Nat, ∃ k12 : Nat, (e6 = .returned (.agg #[(.int .u8 n8), (.int .u32 n9), (.slice (q10) k11 k12)])) ∧
     (X.Kept L2 w4 w7) ∧
     ∃ x13 : X.Facts, (X.FactsW x13 w7 (L2)) ∧
     (∀ w14 : World, ∀ L15 : List Nat, (X.Hid (L2) w7 w14) →
      (X.NewL (w).heap.size (L2) w7 w14 L15) →
      X.CallX Tryd.prog 9 #[(.slice (b) bl bc)] w14 fun e16 w17 =>
       ∃ q18 : Option Addr, ∃ k19 : Nat, ∃ k20 : Nat, (e16 = .returned (.slice (q18) k19 k20)) ∧
       (X.Kept L15 w14 w17) ∧
       (X.FactsW x13 w17 (L15)) ∧
       (X.CallX Tryd.prog 9 #[(.slice (c) cl cc)] w17 fun e21 w22 =>
         ∃ q23 : Option Addr, ∃ k24 : Nat, ∃ k25 : Nat, (e21 = .returned (.slice (q23) k24 k25)) ∧
         (X.Kept L15 w17 w22) ∧
         (X.FactsW x13 w22 (L15)) ∧
         (X.CallX Tryd.prog 8 #[(.agg #[(.int .u8 n8), (.int .u32 n9), (.slice (q10) k11 k12)]), (.slice (q18) k19 k20), (.slice (q23) k24 k25)] w22 fun e26 w27 =>
           ∃ n28 : Int, ∃ n29 : Int, ∃ q30 : Option Addr, ∃ k31 : Nat, ∃ k32 : Nat, ∃ n33 : Int, (e26 = .returned (.tuple #[(.agg #[(.int .u8 n28), (.int .u32 n29), (.slice (q30) k31 k32)]), (.int .i64 n33)])) ∧
           (X.Kept L15 w22 w27) ∧
           ∀ w34 : World, ∀ L35 : List Nat, (X.Hid (L15) w27 w34) →
           (X.NewL (w).heap.size (L15) w27 w34 L35) →
           X.CallX Tryd.prog 10 #[(.agg #[(.int .u8 a_0), (.int .u32 a_1), (.slice (a_2) a_2l a_2c)]), (.slice (b) bl bc), (.slice (c) cl cc)] w34 fun e36 w37 =>
            ∃ n38 : Int, ∃ n39 : Int, ∃ q40 : Option Addr, ∃ k41 : Nat, ∃ k42 : Nat, ∃ n43 : Int, (e36 = .returned (.tuple #[(.agg #[(.int .u8 n38), (.int .u32 n39), (.slice (q40) k41 k42)]), (.int .i64 n43)])) ∧
            (X.Kept L35 w34 w37) ∧
            ∃ x44 : X.Facts, (X.FactsW x44 w37 (L35)) ∧
            ∀ w45 : World, ∀ L46 : List Nat, (X.Hid (L35) w37 w45) →
            (X.NewL (w).heap.size (L35) w37 w45 L46) →
            X.CallX Tryd.prog 12 #[(.agg #[(.int .u8 n28), (.int .u32 n29), (.slice (q30) k31 k32)])] w45 fun e47 w48 =>
             ∃ n49 : Int, ∃ n50 : Int, ∃ q51 : Option Addr, ∃ k52 : Nat, ∃ k53 : Nat, (e47 = .returned (.agg #[(.int .u8 n49), (.int .u32 n50), (.slice (q51) k52 k53)])) ∧
             (X.Kept L46 w45 w48) ∧
             (X.FactsW x44 w48 (L46)) ∧
             ∃ x54 : X.Facts, (X.FactsW x54 w48 (L46)) ∧
             (∀ x55 : Addr × List Value, (x55 ∈ x44) →
              x55 ∈ x54) ∧
             X.CallX Tryd.prog 11 #[(.agg #[(.int .u8 n49), (.int .u32 n50), (.slice (q51) k52 k53)]), (.agg #[(.int .u8 n38), (.int .u32 n39), (.slice (q40) k41 k42)])] w48 fun e56 w57 =>
              ∃ b58 : Bool, (e56 = .returned (.bool b58)) ∧
              (X.Kept L46 w48 w57) ∧
              (X.FactsW x54 w57 (L46)) ∧
              ∃ x59 : X.Facts, (X.FactsW x59 w57 (L46)) ∧
              (∀ x60 : Addr × List Value, (x60 ∈ x54) →
               x60 ∈ x59) ∧
              if (b58 == true) = true then
               X.CallX Tryd.prog 13 #[(.int .i64 n33)] w57 fun e63 w64 =>
                ∃ n65 : Int, (e63 = .returned (.int .i64 n65)) ∧
                (X.Kept L46 w57 w64) ∧
                (X.FactsW x59 w64 (L46)) ∧
                ∃ x66 : X.Facts, (X.FactsW x66 w64 (L46)) ∧
                (∀ x67 : Addr × List Value, (x67 ∈ x59) →
                 x67 ∈ x66) ∧
                if ((true && (n65 == n43)) == true) = true then
                 X.CallX Tryd.prog 12 #[(.agg #[(.int .u8 n8), (.int .u32 n9), (.slice (q10) k11 k12)])] w64 fun e68 w69 =>
                  ∃ n70 : Int, ∃ n71 : Int, ∃ q72 : Option Addr, ∃ k73 : Nat, ∃ k74 : Nat, (e68 = .returned (.agg #[(.int .u8 n70), (.int .u32 n71), (.slice (q72) k73 k74)])) ∧
                  (X.Kept L46 w64 w69) ∧
                  (X.FactsW x66 w69 (L46)) ∧
                  X.CallX Tryd.prog 11 #[(.agg #[(.int .u8 n70), (.int .u32 n71), (.slice (q72) k73 k74)]), (.agg #[(.int .u8 a_0), (.int .u32 a_1), (.slice (a_2) a_2l a_2c)])] w69 fun e75 w76 =>
                   ∃ b77 : Bool, (e75 = .returned (.bool b77)) ∧
                   (X.Kept L46 w69 w76) ∧
                   (X.FactsW x66 w76 (L46)) ∧
                   if ((true && b77) == true) = true then
                    X.CallX Tryd.prog 6 #[] w76 fun e78 w79 =>
                     ∃ b80 : Bool, (e78 = .returned (.bool b80)) ∧
                     (X.Kept L46 w76 w79) ∧
                     (X.FactsW x66 w79 (L46)) ∧
                     R (.returned (.bool (true && b80))) w79
                   else
                    R (.returned (.bool false)) w76
                else
                 R (.returned (.bool false)) w64
              else
               ∃ x61 : X.Facts, (X.FactsW x61 w57 (L46)) ∧
               (∀ x62 : Addr × List Value, (x62 ∈ x59) →
                x62 ∈ x61) ∧
               R (.returned (.bool false)) w57) ∧
         ∀ w81 : World, ∀ L82 : List Nat, (X.Hid (L15) w22 w81) →
         (X.NewL (w).heap.size (L15) w22 w81 L82) →
         X.CallX Tryd.prog 8 #[(.agg #[(.int .u8 n8), (.int .u32 n9), (.slice (q10) k11 k12)]), (.slice (q18) k19 k20), (.slice (q23) k24 k25)] w81 fun e83 w84 =>
          ∃ n85 : Int, ∃ n86 : Int, ∃ q87 : Option Addr, ∃ k88 : Nat, ∃ k89 : Nat, ∃ n90 : Int, (e83 = .returned (.tuple #[(.agg #[(.int .u8 n85), (.int .u32 n86), (.slice (q87) k88 k89)]), (.int .i64 n90)])) ∧
          (X.Kept L82 w81 w84) ∧
          ∀ w91 : World, ∀ L92 : List Nat, (X.Hid (L82) w84 w91) →
          (X.NewL (w).heap.size (L82) w84 w91 L92) →
          X.CallX Tryd.prog 10 #[(.agg #[(.int .u8 a_0), (.int .u32 a_1), (.slice (a_2) a_2l a_2c)]), (.slice (b) bl bc), (.slice (c) cl cc)] w91 fun e93 w94 =>
           ∃ n95 : Int, ∃ n96 : Int, ∃ q97 : Option Addr, ∃ k98 : Nat, ∃ k99 : Nat, ∃ n100 : Int, (e93 = .returned (.tuple #[(.agg #[(.int .u8 n95), (.int .u32 n96), (.slice (q97) k98 k99)]), (.int .i64 n100)])) ∧
           (X.Kept L92 w91 w94) ∧
           ∃ x101 : X.Facts, (X.FactsW x101 w94 (L92)) ∧
           ∀ w102 : World, ∀ L103 : List Nat, (X.Hid (L92) w94 w102) →
           (X.NewL (w).heap.size (L92) w94 w102 L103) →
           X.CallX Tryd.prog 12 #[(.agg #[(.int .u8 n85), (.int .u32 n86), (.slice (q87) k88 k89)])] w102 fun e104 w105 =>
            ∃ n106 : Int, ∃ n107 : Int, ∃ q108 : Option Addr, ∃ k109 : Nat, ∃ k110 : Nat, (e104 = .returned (.agg #[(.int .u8 n106), (.int .u32 n107), (.slice (q108) k109 k110)])) ∧
            (X.Kept L103 w102 w105) ∧
            (X.FactsW x101 w105 (L103)) ∧
            ∃ x111 : X.Facts, (X.FactsW x111 w105 (L103)) ∧
            (∀ x112 : Addr × List Value, (x112 ∈ x101) →
             x112 ∈ x111) ∧
            X.CallX Tryd.prog 11 #[(.agg #[(.int .u8 n106), (.int .u32 n107), (.slice (q108) k109 k110)]), (.agg #[(.int .u8 n95), (.int .u32 n96), (.slice (q97) k98 k99)])] w105 fun e113 w114 =>
             ∃ b115 : Bool, (e113 = .returned (.bool b115)) ∧
             (X.Kept L103 w105 w114) ∧
             (X.FactsW x111 w114 (L103)) ∧
             ∃ x116 : X.Facts, (X.FactsW x116 w114 (L103)) ∧
             (∀ x117 : Addr × List Value, (x117 ∈ x111) →
              x117 ∈ x116) ∧
             if (b115 == true) = true then
              X.CallX Tryd.prog 13 #[(.int .i64 n90)] w114 fun e120 w121 =>
               ∃ n122 : Int, (e120 = .returned (.int .i64 n122)) ∧
               (X.Kept L103 w114 w121) ∧
               (X.FactsW x116 w121 (L103)) ∧
               ∃ x123 : X.Facts, (X.FactsW x123 w121 (L103)) ∧
               (∀ x124 : Addr × List Value, (x124 ∈ x116) →
                x124 ∈ x123) ∧
               if ((true && (n122 == n100)) == true) = true then
                X.CallX Tryd.prog 12 #[(.agg #[(.int .u8 n8), (.int .u32 n9), (.slice (q10) k11 k12)])] w121 fun e125 w126 =>
                 ∃ n127 : Int, ∃ n128 : Int, ∃ q129 : Option Addr, ∃ k130 : Nat, ∃ k131 : Nat, (e125 = .returned (.agg #[(.int .u8 n127), (.int .u32 n128), (.slice (q129) k130 k131)])) ∧
                 (X.Kept L103 w121 w126) ∧
                 (X.FactsW x123 w126 (L103)) ∧
                 X.CallX Tryd.prog 11 #[(.agg #[(.int .u8 n127), (.int .u32 n128), (.slice (q129) k130 k131)]), (.agg #[(.int .u8 a_0), (.int .u32 a_1), (.slice (a_2) a_2l a_2c)])] w126 fun e132 w133 =>
                  ∃ b134 : Bool, (e132 = .returned (.bool b134)) ∧
                  (X.Kept L103 w126 w133) ∧
                  (X.FactsW x123 w133 (L103)) ∧
                  if ((true && b134) == true) = true then
                   X.CallX Tryd.prog 6 #[] w133 fun e135 w136 =>
                    ∃ b137 : Bool, (e135 = .returned (.bool b137)) ∧
                    (X.Kept L103 w133 w136) ∧
                    (X.FactsW x123 w136 (L103)) ∧
                    R (.returned (.bool (true && b137))) w136
                  else
                   R (.returned (.bool false)) w133
               else
                R (.returned (.bool false)) w121
             else
              ∃ x118 : X.Facts, (X.FactsW x118 w114 (L103)) ∧
              (∀ x119 : Addr × List Value, (x119 ∈ x116) →
               x119 ∈ x118) ∧
              R (.returned (.bool false)) w114) ∧
       ∀ w138 : World, ∀ L139 : List Nat, (X.Hid (L15) w17 w138) →
       (X.NewL (w).heap.size (L15) w17 w138 L139) →
       X.CallX Tryd.prog 9 #[(.slice (c) cl cc)] w138 fun e140 w141 =>
        ∃ q142 : Option Addr, ∃ k143 : Nat, ∃ k144 : Nat, (e140 = .returned (.slice (q142) k143 k144)) ∧
        (X.Kept L139 w138 w141) ∧
        (X.FactsW x13 w141 (L139)) ∧
        X.CallX Tryd.prog 8 #[(.agg #[(.int .u8 n8), (.int .u32 n9), (.slice (q10) k11 k12)]), (.slice (q18) k19 k20), (.slice (q142) k143 k144)] w141 fun e145 w146 =>
         ∃ n147 : Int, ∃ n148 : Int, ∃ q149 : Option Addr, ∃ k150 : Nat, ∃ k151 : Nat, ∃ n152 : Int, (e145 = .returned (.tuple #[(.agg #[(.int .u8 n147), (.int .u32 n148), (.slice (q149) k150 k151)]), (.int .i64 n152)])) ∧
         (X.Kept L139 w141 w146) ∧
         ∀ w153 : World, ∀ L154 : List Nat, (X.Hid (L139) w146 w153) →
         (X.NewL (w).heap.size (L139) w146 w153 L154) →
         X.CallX Tryd.prog 10 #[(.agg #[(.int .u8 a_0), (.int .u32 a_1), (.slice (a_2) a_2l a_2c)]), (.slice (b) bl bc), (.slice (c) cl cc)] w153 fun e155 w156 =>
          ∃ n157 : Int, ∃ n158 : Int, ∃ q159 : Option Addr, ∃ k160 : Nat, ∃ k161 : Nat, ∃ n162 : Int, (e155 = .returned (.tuple #[(.agg #[(.int .u8 n157), (.int .u32 n158), (.slice (q159) k160 k161)]), (.int .i64 n162)])) ∧
          (X.Kept L154 w153 w156) ∧
          ∃ x163 : X.Facts, (X.FactsW x163 w156 (L154)) ∧
          ∀ w164 : World, ∀ L165 : List Nat, (X.Hid (L154) w156 w164) →
          (X.NewL (w).heap.size (L154) w156 w164 L165) →
          X.CallX Tryd.prog 12 #[(.agg #[(.int .u8 n147), (.int .u32 n148), (.slice (q149) k150 k151)])] w164 fun e166 w167 =>
           ∃ n168 : Int, ∃ n169 : Int, ∃ q170 : Option Addr, ∃ k171 : Nat, ∃ k172 : Nat, (e166 = .returned (.agg #[(.int .u8 n168), (.int .u32 n169), (.slice (q170) k171 k172)])) ∧
           (X.Kept L165 w164 w167) ∧
           (X.FactsW x163 w167 (L165)) ∧
           ∃ x173 : X.Facts, (X.FactsW x173 w167 (L165)) ∧
           (∀ x174 : Addr × List Value, (x174 ∈ x163) →
            x174 ∈ x173) ∧
           X.CallX Tryd.prog 11 #[(.agg #[(.int .u8 n168), (.int .u32 n169), (.slice (q170) k171 k172)]), (.agg #[(.int .u8 n157), (.int .u32 n158), (.slice (q159) k160 k161)])] w167 fun e175 w176 =>
            ∃ b177 : Bool, (e175 = .returned (.bool b177)) ∧
            (X.Kept L165 w167 w176) ∧
            (X.FactsW x173 w176 (L165)) ∧
            ∃ x178 : X.Facts, (X.FactsW x178 w176 (L165)) ∧
            (∀ x179 : Addr × List Value, (x179 ∈ x173) →
             x179 ∈ x178) ∧
            if (b177 == true) = true then
             X.CallX Tryd.prog 13 #[(.int .i64 n152)] w176 fun e182 w183 =>
              ∃ n184 : Int, (e182 = .returned (.int .i64 n184)) ∧
              (X.Kept L165 w176 w183) ∧
              (X.FactsW x178 w183 (L165)) ∧
              ∃ x185 : X.Facts, (X.FactsW x185 w183 (L165)) ∧
              (∀ x186 : Addr × List Value, (x186 ∈ x178) →
               x186 ∈ x185) ∧
              if ((true && (n184 == n162)) == true) = true then
               X.CallX Tryd.prog 12 #[(.agg #[(.int .u8 n8), (.int .u32 n9), (.slice (q10) k11 k12)])] w183 fun e187 w188 =>
                ∃ n189 : Int, ∃ n190 : Int, ∃ q191 : Option Addr, ∃ k192 : Nat, ∃ k193 : Nat, (e187 = .returned (.agg #[(.int .u8 n189), (.int .u32 n190), (.slice (q191) k192 k193)])) ∧
                (X.Kept L165 w183 w188) ∧
                (X.FactsW x185 w188 (L165)) ∧
                X.CallX Tryd.prog 11 #[(.agg #[(.int .u8 n189), (.int .u32 n190), (.slice (q191) k192 k193)]), (.agg #[(.int .u8 a_0), (.int .u32 a_1), (.slice (a_2) a_2l a_2c)])] w188 fun e194 w195 =>
                 ∃ b196 : Bool, (e194 = .returned (.bool b196)) ∧
                 (X.Kept L165 w188 w195) ∧
                 (X.FactsW x185 w195 (L165)) ∧
                 if ((true && b196) == true) = true then
                  X.CallX Tryd.prog 6 #[] w195 fun e197 w198 =>
                   ∃ b199 : Bool, (e197 = .returned (.bool b199)) ∧
                   (X.Kept L165 w195 w198) ∧
                   (X.FactsW x185 w198 (L165)) ∧
                   R (.returned (.bool (true && b199))) w198
                 else
                  R (.returned (.bool false)) w195
              else
               R (.returned (.bool false)) w183
            else
             ∃ x180 : X.Facts, (X.FactsW x180 w176 (L165)) ∧
             (∀ x181 : Addr × List Value, (x181 ∈ x178) →
              x181 ∈ x180) ∧
             R (.returned (.bool false)) w176) ∧
     ∀ w200 : World, ∀ L201 : List Nat, (X.Hid (L2) w7 w200) →
     (X.NewL (w).heap.size (L2) w7 w200 L201) →
     X.CallX Tryd.prog 9 #[(.slice (b) bl bc)] w200 fun e202 w203 =>
      ∃ q204 : Option Addr, ∃ k205 : Nat, ∃ k206 : Nat, (e202 = .returned (.slice (q204) k205 k206)) ∧
      (X.Kept L201 w200 w203) ∧
      (X.FactsW x13 w203 (L201)) ∧
      X.CallX Tryd.prog 9 #[(.slice (c) cl cc)] w203 fun e207 w208 =>
       ∃ q209 : Option Addr, ∃ k210 : Nat, ∃ k211 : Nat, (e207 = .returned (.slice (q209) k210 k211)) ∧
       (X.Kept L201 w203 w208) ∧
       (X.FactsW x13 w208 (L201)) ∧
       X.CallX Tryd.prog 8 #[(.agg #[(.int .u8 n8), (.int .u32 n9), (.slice (q10) k11 k12)]), (.slice (q204) k205 k206), (.slice (q209) k210 k211)] w208 fun e212 w213 =>
        ∃ n214 : Int, ∃ n215 : Int, ∃ q216 : Option Addr, ∃ k217 : Nat, ∃ k218 : Nat, ∃ n219 : Int, (e212 = .returned (.tuple #[(.agg #[(.int .u8 n214), (.int .u32 n215), (.slice (q216) k217 k218)]), (.int .i64 n219)])) ∧
        (X.Kept L201 w208 w213) ∧
        ∀ w220 : World, ∀ L221 : List Nat, (X.Hid (L201) w213 w220) →
        (X.NewL (w).heap.size (L201) w213 w220 L221) →
        X.CallX Tryd.prog 10 #[(.agg #[(.int .u8 a_0), (.int .u32 a_1), (.slice (a_2) a_2l a_2c)]), (.slice (b) bl bc), (.slice (c) cl cc)] w220 fun e222 w223 =>
         ∃ n224 : Int, ∃ n225 : Int, ∃ q226 : Option Addr, ∃ k227 : Nat, ∃ k228 : Nat, ∃ n229 : Int, (e222 = .returned (.tuple #[(.agg #[(.int .u8 n224), (.int .u32 n225), (.slice (q226) k227 k228)]), (.int .i64 n229)])) ∧
         (X.Kept L221 w220 w223) ∧
         ∃ x230 : X.Facts, (X.FactsW x230 w223 (L221)) ∧
         ∀ w231 : World, ∀ L232 : List Nat, (X.Hid (L221) w223 w231) →
         (X.NewL (w).heap.size (L221) w223 w231 L232) →
         X.CallX Tryd.prog 12 #[(.agg #[(.int .u8 n214), (.int .u32 n215), (.slice (q216) k217 k218)])] w231 fun e233 w234 =>
          ∃ n235 : Int, ∃ n236 : Int, ∃ q237 : Option Addr, ∃ k238 : Nat, ∃ k239 : Nat, (e233 = .returned (.agg #[(.int .u8 n235), (.int .u32 n236), (.slice (q237) k238 k239)])) ∧
          (X.Kept L232 w231 w234) ∧
          (X.FactsW x230 w234 (L232)) ∧
          ∃ x240 : X.Facts, (X.FactsW x240 w234 (L232)) ∧
          (∀ x241 : Addr × List Value, (x241 ∈ x230) →
           x241 ∈ x240) ∧
          X.CallX Tryd.prog 11 #[(.agg #[(.int .u8 n235), (.int .u32 n236), (.slice (q237) k238 k239)]), (.agg #[(.int .u8 n224), (.int .u32 n225), (.slice (q226) k227 k228)])] w234 fun e242 w243 =>
           ∃ b244 : Bool, (e242 = .returned (.bool b244)) ∧
           (X.Kept L232 w234 w243) ∧
           (X.FactsW x240 w243 (L232)) ∧
           ∃ x245 : X.Facts, (X.FactsW x245 w243 (L232)) ∧
           (∀ x246 : Addr × List Value, (x246 ∈ x240) →
            x246 ∈ x245) ∧
           if (b244 == true) = true then
            X.CallX Tryd.prog 13 #[(.int .i64 n219)] w243 fun e249 w250 =>
             ∃ n251 : Int, (e249 = .returned (.int .i64 n251)) ∧
             (X.Kept L232 w243 w250) ∧
             (X.FactsW x245 w250 (L232)) ∧
             ∃ x252 : X.Facts, (X.FactsW x252 w250 (L232)) ∧
             (∀ x253 : Addr × List Value, (x253 ∈ x245) →
              x253 ∈ x252) ∧
             if ((true && (n251 == n229)) == true) = true then
              X.CallX Tryd.prog 12 #[(.agg #[(.int .u8 n8), (.int .u32 n9), (.slice (q10) k11 k12)])] w250 fun e254 w255 =>
               ∃ n256 : Int, ∃ n257 : Int, ∃ q258 : Option Addr, ∃ k259 : Nat, ∃ k260 : Nat, (e254 = .returned (.agg #[(.int .u8 n256), (.int .u32 n257), (.slice (q258) k259 k260)])) ∧
               (X.Kept L232 w250 w255) ∧
               (X.FactsW x252 w255 (L232)) ∧
               X.CallX Tryd.prog 11 #[(.agg #[(.int .u8 n256), (.int .u32 n257), (.slice (q258) k259 k260)]), (.agg #[(.int .u8 a_0), (.int .u32 a_1), (.slice (a_2) a_2l a_2c)])] w255 fun e261 w262 =>
                ∃ b263 : Bool, (e261 = .returned (.bool b263)) ∧
                (X.Kept L232 w255 w262) ∧
                (X.FactsW x252 w262 (L232)) ∧
                if ((true && b263) == true) = true then
                 X.CallX Tryd.prog 6 #[] w262 fun e264 w265 =>
                  ∃ b266 : Bool, (e264 = .returned (.bool b266)) ∧
                  (X.Kept L232 w262 w265) ∧
                  (X.FactsW x252 w265 (L232)) ∧
                  R (.returned (.bool (true && b266))) w265
                else
                 R (.returned (.bool false)) w262
             else
              R (.returned (.bool false)) w250
           else
            ∃ x247 : X.Facts, (X.FactsW x247 w243 (L232)) ∧
            (∀ x248 : Addr × List Value, (x248 ∈ x245) →
             x248 ∈ x247) ∧
            R (.returned (.bool false)) w243) :
    Calls Tryd.prog 3 #[.agg #[.int .u8 a_0, .int .u32 a_1, .slice a_2 a_2l a_2c], .slice b bl bc, .slice c cl cc] w R :=
  X.calls_of { isLoc := [3, 7, 8, 10], sym := [], loops := [], joins := [], stored := [(4, [8])] } Tryd.func3 (by kernel_rfl) h
abbrev fn_ViewMeets : Nat := 4
theorem x_ViewMeets (a_0 a_1 : Int) (a_2 : Option Addr) (a_2l a_2c : Nat) (b : Option Addr) (bl bc : Nat) (c : Option Addr) (cl cc : Nat) (w : World) (R : Ending → World → Prop) (h :
  ∀ w1 : World, ∀ L2 : List Nat, (X.Hid [] w w1) →
  (X.NewL (w).heap.size [] w w1 L2) →
  X.CallX Tryd.prog 7 #[(.agg #[(.int .u8 a_0), (.int .u32 a_1), (.slice (a_2) a_2l a_2c)])] w1 fun e3 w4 =>
   ∃ n5 : Int, ∃ n6 : Int, ∃ q7 : Option Addr, ∃ k8 : Nat, ∃ k9 : Nat, (e3 = .returned (.agg #[(.int .u8 n5), (.int .u32 n6), (.slice (q7) k8 k9)])) ∧
   (X.Kept L2 w1 w4) ∧
   ∀ w10 : World, ∀ L11 : List Nat, (X.Hid (L2) w4 w10) →
   (X.NewL (w).heap.size (L2) w4 w10 L11) →
   X.CallX Tryd.prog 5 #[(.agg #[(.int .u8 a_0), (.int .u32 a_1), (.slice (a_2) a_2l a_2c)]), (.slice (b) bl bc)] w10 fun e12 w13 =>
    ∃ b14 : Bool, (e12 = .returned (.bool b14)) ∧
    (X.Kept L11 w10 w13) ∧
    if (((!b14) || decide (((cl : Nat) : Int) > 40)) == false) = true then
     X.CallX Tryd.prog 14 #[(.agg #[(.int .u8 n5), (.int .u32 n6), (.slice (q7) k8 k9)])] w13 fun e18 w19 =>
      ∃ b20 : Bool, (e18 = .returned (.bool b20)) ∧
      (X.Kept L11 w13 w19) ∧
      if ((false || (!b20)) == false) = true then
       X.CallX Tryd.prog 6 #[] w19 fun e24 w25 =>
        ∃ b26 : Bool, (e24 = .returned (.bool b26)) ∧
        (X.Kept L11 w19 w25) ∧
        if (false || (!b26)) = true then
         X.CallX Tryd.prog 6 #[] w25 fun e542 w543 =>
          ∃ b544 : Bool, (e542 = .returned (.bool b544)) ∧
          (X.Kept L11 w25 w543) ∧
          R (.returned (.bool b544)) w543
        else
         ∃ x27 : X.Facts, (X.FactsW x27 w25 (L11)) ∧
         ∀ w28 : World, ∀ L29 : List Nat, (X.Hid (L11) w25 w28) →
         (X.NewL (w).heap.size (L11) w25 w28 L29) →
         X.CallX Tryd.prog 9 #[(.slice (b) bl bc)] w28 fun e30 w31 =>
          ∃ q32 : Option Addr, ∃ k33 : Nat, ∃ k34 : Nat, (e30 = .returned (.slice (q32) k33 k34)) ∧
          (X.Kept L29 w28 w31) ∧
          (X.FactsW x27 w31 (L29)) ∧
          ∃ x35 : X.Facts, (X.FactsW x35 w31 (L29)) ∧
          (∀ x36 : Addr × List Value, (x36 ∈ x27) →
           x36 ∈ x35) ∧
          X.CallX Tryd.prog 15 #[(.agg #[(.int .u8 n5), (.int .u32 n6), (.slice (q7) k8 k9)]), (.slice (q32) k33 k34)] w31 fun e37 w38 =>
           ∃ b39 : Bool, (e37 = .returned (.bool b39)) ∧
           (X.Kept L29 w31 w38) ∧
           (X.FactsW x35 w38 (L29)) ∧
           ∃ x40 : X.Facts, (X.FactsW x40 w38 (L29)) ∧
           (∀ x41 : Addr × List Value, (x41 ∈ x35) →
            x41 ∈ x40) ∧
           if (b39 == true) = true then
            X.CallX Tryd.prog 9 #[(.slice (c) cl cc)] w38 fun e200 w201 =>
             ∃ q202 : Option Addr, ∃ k203 : Nat, ∃ k204 : Nat, (e200 = .returned (.slice (q202) k203 k204)) ∧
             (X.Kept L29 w38 w201) ∧
             (X.FactsW x40 w201 (L29)) ∧
             X.CallX Tryd.prog 15 #[(.agg #[(.int .u8 n5), (.int .u32 n6), (.slice (q7) k8 k9)]), (.slice (q202) k203 k204)] w201 fun e205 w206 =>
              ∃ b207 : Bool, (e205 = .returned (.bool b207)) ∧
              (X.Kept L29 w201 w206) ∧
              (X.FactsW x40 w206 (L29)) ∧
              if (true && b207) = true then
               ∃ x366 : Bool → Int → World → List Nat → Prop, ∃ x367 : Bool → Int → World → Nat, (x366 false 0 w206 (L29)) ∧
               ∀ b368 : Bool, ∀ n369 : Int, ∀ w370 : World, ∀ L371 : List Nat, (X.LF (w).heap.size w370 L371) →
               (x366 b368 n369 w370 L371) →
               if (decide (n369 < ((a_2l : Nat) : Int))) = true then
                if (b368 == false) = true then
                 ((0 : Int) ≤ n369) ∧
                 (n369 < ((a_2l : Nat) : Int)) ∧
                 X.onSome (a_2) fun p530 =>
                 ∃ n531 : Int, ∃ n532 : Int, (X.Cells w370 (p530.add ((n369).toNat * 2)) [(.int .u8 n531), (.int .u16 n532)]) ∧
                 (¬ (((p530.add (n369.toNat * 2)).block) ∈ L371)) ∧
                 X.CallX Tryd.prog 16 #[(.slice (b) bl bc), (.agg #[(.int .u8 n531), (.int .u16 n532)])] w370 fun e533 w534 =>
                  ∃ n535 : Int, (e533 = .returned (.int .i64 n535)) ∧
                  (X.Kept L371 w370 w534) ∧
                  if ((decide (n535 ≥ 0)) == true) = true then
                   ((0 : Int) ≤ n369) ∧
                   (n369 < ((a_2l : Nat) : Int)) ∧
                   X.onSome (a_2) fun p536 =>
                   ∃ n537 : Int, ∃ n538 : Int, (X.Cells w534 (p536.add ((n369).toNat * 2)) [(.int .u8 n537), (.int .u16 n538)]) ∧
                   (¬ (((p536.add (n369.toNat * 2)).block) ∈ L371)) ∧
                   X.CallX Tryd.prog 16 #[(.slice (c) cl cc), (.agg #[(.int .u8 n537), (.int .u16 n538)])] w534 fun e539 w540 =>
                    ∃ n541 : Int, (e539 = .returned (.int .i64 n541)) ∧
                    (X.Kept L371 w534 w540) ∧
                    (([(.int .u8 a_0), (.int .u32 a_1), (.slice (a_2) a_2l a_2c)] : List Value) = [(.int .u8 a_0), (.int .u32 a_1), (.slice (a_2) a_2l a_2c)]) ∧
                    (([(.int .u8 n5), (.int .u32 n6), (.slice (q7) k8 k9)] : List Value) = [(.int .u8 n5), (.int .u32 n6), (.slice (q7) k8 k9)]) ∧
                    (x366 (false || (true && decide (n541 ≥ 0))) (IntKind.wrap .i64 (n369 + 1)) w540 (L371)) ∧
                    Nat.le ((x367 (false || (true && decide (n541 ≥ 0))) (IntKind.wrap .i64 (n369 + 1)) w540) + 1) (x367 b368 n369 w370)
                  else
                   (([(.int .u8 a_0), (.int .u32 a_1), (.slice (a_2) a_2l a_2c)] : List Value) = [(.int .u8 a_0), (.int .u32 a_1), (.slice (a_2) a_2l a_2c)]) ∧
                   (([(.int .u8 n5), (.int .u32 n6), (.slice (q7) k8 k9)] : List Value) = [(.int .u8 n5), (.int .u32 n6), (.slice (q7) k8 k9)]) ∧
                   (x366 false (IntKind.wrap .i64 (n369 + 1)) w534 (L371)) ∧
                   Nat.le ((x367 false (IntKind.wrap .i64 (n369 + 1)) w534) + 1) (x367 b368 n369 w370)
                else
                 (([(.int .u8 a_0), (.int .u32 a_1), (.slice (a_2) a_2l a_2c)] : List Value) = [(.int .u8 a_0), (.int .u32 a_1), (.slice (a_2) a_2l a_2c)]) ∧
                 (([(.int .u8 n5), (.int .u32 n6), (.slice (q7) k8 k9)] : List Value) = [(.int .u8 n5), (.int .u32 n6), (.slice (q7) k8 k9)]) ∧
                 (x366 true (IntKind.wrap .i64 (n369 + 1)) w370 (L371)) ∧
                 Nat.le ((x367 true (IntKind.wrap .i64 (n369 + 1)) w370) + 1) (x367 b368 n369 w370)
               else
                if (!b368) = true then
                 R (.returned (.bool false)) w370
                else
                 ∃ x372 : X.Facts, (X.FactsW x372 w370 (L371)) ∧
                 (∀ w373 : World, ∀ L374 : List Nat, (X.Hid (L371) w370 w373) →
                  (X.NewL (w).heap.size (L371) w370 w373 L374) →
                  X.CallX Tryd.prog 9 #[(.slice (b) bl bc)] w373 fun e375 w376 =>
                   ∃ q377 : Option Addr, ∃ k378 : Nat, ∃ k379 : Nat, (e375 = .returned (.slice (q377) k378 k379)) ∧
                   (X.Kept L374 w373 w376) ∧
                   (X.FactsW x372 w376 (L374)) ∧
                   (X.CallX Tryd.prog 9 #[(.slice (c) cl cc)] w376 fun e380 w381 =>
                     ∃ q382 : Option Addr, ∃ k383 : Nat, ∃ k384 : Nat, (e380 = .returned (.slice (q382) k383 k384)) ∧
                     (X.Kept L374 w376 w381) ∧
                     (X.FactsW x372 w381 (L374)) ∧
                     (X.CallX Tryd.prog 8 #[(.agg #[(.int .u8 n5), (.int .u32 n6), (.slice (q7) k8 k9)]), (.slice (q377) k378 k379), (.slice (q382) k383 k384)] w381 fun e385 w386 =>
                       ∃ n387 : Int, ∃ n388 : Int, ∃ q389 : Option Addr, ∃ k390 : Nat, ∃ k391 : Nat, ∃ n392 : Int, (e385 = .returned (.tuple #[(.agg #[(.int .u8 n387), (.int .u32 n388), (.slice (q389) k390 k391)]), (.int .i64 n392)])) ∧
                       (X.Kept L374 w381 w386) ∧
                       ∀ w393 : World, ∀ L394 : List Nat, (X.Hid (L374) w386 w393) →
                       (X.NewL (w).heap.size (L374) w386 w393 L394) →
                       X.CallX Tryd.prog 13 #[(.int .i64 n392)] w393 fun e395 w396 =>
                        ∃ n397 : Int, (e395 = .returned (.int .i64 n397)) ∧
                        (X.Kept L394 w393 w396) ∧
                        if (n397 != 0) = true then
                         R (.returned (.bool (((k390 : Nat) : Int) == 0))) w396
                        else
                         ∃ x398 : Int → Int → World → List Nat → Prop, ∃ x399 : Int → Int → World → Nat, (x398 0 0 w396 (L394)) ∧
                         ∀ n400 : Int, ∀ n401 : Int, ∀ w402 : World, ∀ L403 : List Nat, (X.LF (w).heap.size w402 L403) →
                         (x398 n400 n401 w402 L403) →
                         if (decide (n401 < ((k8 : Nat) : Int))) = true then
                          ∃ x407 : X.Facts, (X.FactsW x407 w402 (L403)) ∧
                          ((0 : Int) ≤ n401) ∧
                          (n401 < ((k8 : Nat) : Int)) ∧
                          X.onSome (q7) fun p408 =>
                          ∃ n409 : Int, ∃ n410 : Int, (((p408.add ((n401).toNat * 2)), [(.int .u8 n409), (.int .u16 n410)]) ∈ x407) ∧
                          ∀ w411 : World, ∀ L412 : List Nat, (X.Hid (L403) w402 w411) →
                          (X.NewL (w).heap.size (L403) w402 w411 L412) →
                          X.CallX Tryd.prog 17 #[(.agg #[(.int .u8 n387), (.int .u32 n388), (.slice (q389) k390 k391)]), (.agg #[(.int .u8 n409), (.int .u16 n410)])] w411 fun e413 w414 =>
                           ∃ n415 : Int, (e413 = .returned (.int .i64 n415)) ∧
                           (X.Kept L412 w411 w414) ∧
                           (X.FactsW x407 w414 (L412)) ∧
                           if (decide (n415 ≥ 0)) = true then
                            (([(.int .u8 a_0), (.int .u32 a_1), (.slice (a_2) a_2l a_2c)] : List Value) = [(.int .u8 a_0), (.int .u32 a_1), (.slice (a_2) a_2l a_2c)]) ∧
                            (([(.int .u8 n5), (.int .u32 n6), (.slice (q7) k8 k9)] : List Value) = [(.int .u8 n5), (.int .u32 n6), (.slice (q7) k8 k9)]) ∧
                            (([(.int .u8 n387), (.int .u32 n388), (.slice (q389) k390 k391)] : List Value) = [(.int .u8 n387), (.int .u32 n388), (.slice (q389) k390 k391)]) ∧
                            (x398 (IntKind.wrap .i64 (n400 + 1)) (IntKind.wrap .i64 (n401 + 1)) w414 (L412)) ∧
                            Nat.le ((x399 (IntKind.wrap .i64 (n400 + 1)) (IntKind.wrap .i64 (n401 + 1)) w414) + 1) (x399 n400 n401 w402)
                           else
                            (([(.int .u8 a_0), (.int .u32 a_1), (.slice (a_2) a_2l a_2c)] : List Value) = [(.int .u8 a_0), (.int .u32 a_1), (.slice (a_2) a_2l a_2c)]) ∧
                            (([(.int .u8 n5), (.int .u32 n6), (.slice (q7) k8 k9)] : List Value) = [(.int .u8 n5), (.int .u32 n6), (.slice (q7) k8 k9)]) ∧
                            (([(.int .u8 n387), (.int .u32 n388), (.slice (q389) k390 k391)] : List Value) = [(.int .u8 n387), (.int .u32 n388), (.slice (q389) k390 k391)]) ∧
                            (x398 n400 (IntKind.wrap .i64 (n401 + 1)) w414 (L412)) ∧
                            Nat.le ((x399 n400 (IntKind.wrap .i64 (n401 + 1)) w414) + 1) (x399 n400 n401 w402)
                         else
                          if ((decide ((IntKind.wrap .i64 (2 * n400)) > ((k8 : Nat) : Int))) == true) = true then
                           X.CallX Tryd.prog 14 #[(.agg #[(.int .u8 n387), (.int .u32 n388), (.slice (q389) k390 k391)])] w402 fun e404 w405 =>
                            ∃ b406 : Bool, (e404 = .returned (.bool b406)) ∧
                            (X.Kept L403 w402 w405) ∧
                            R (.returned (.bool ((true && b406) && (n388 == (IntKind.wrap .u32 (n6 + 1)))))) w405
                          else
                           R (.returned (.bool (false && (n388 == (IntKind.wrap .u32 (n6 + 1)))))) w402) ∧
                     ∀ w416 : World, ∀ L417 : List Nat, (X.Hid (L374) w381 w416) →
                     (X.NewL (w).heap.size (L374) w381 w416 L417) →
                     X.CallX Tryd.prog 8 #[(.agg #[(.int .u8 n5), (.int .u32 n6), (.slice (q7) k8 k9)]), (.slice (q377) k378 k379), (.slice (q382) k383 k384)] w416 fun e418 w419 =>
                      ∃ n420 : Int, ∃ n421 : Int, ∃ q422 : Option Addr, ∃ k423 : Nat, ∃ k424 : Nat, ∃ n425 : Int, (e418 = .returned (.tuple #[(.agg #[(.int .u8 n420), (.int .u32 n421), (.slice (q422) k423 k424)]), (.int .i64 n425)])) ∧
                      (X.Kept L417 w416 w419) ∧
                      ∀ w426 : World, ∀ L427 : List Nat, (X.Hid (L417) w419 w426) →
                      (X.NewL (w).heap.size (L417) w419 w426 L427) →
                      X.CallX Tryd.prog 13 #[(.int .i64 n425)] w426 fun e428 w429 =>
                       ∃ n430 : Int, (e428 = .returned (.int .i64 n430)) ∧
                       (X.Kept L427 w426 w429) ∧
                       if (n430 != 0) = true then
                        R (.returned (.bool (((k423 : Nat) : Int) == 0))) w429
                       else
                        ∃ x431 : Int → Int → World → List Nat → Prop, ∃ x432 : Int → Int → World → Nat, (x431 0 0 w429 (L427)) ∧
                        ∀ n433 : Int, ∀ n434 : Int, ∀ w435 : World, ∀ L436 : List Nat, (X.LF (w).heap.size w435 L436) →
                        (x431 n433 n434 w435 L436) →
                        if (decide (n434 < ((k8 : Nat) : Int))) = true then
                         ∃ x440 : X.Facts, (X.FactsW x440 w435 (L436)) ∧
                         ((0 : Int) ≤ n434) ∧
                         (n434 < ((k8 : Nat) : Int)) ∧
                         X.onSome (q7) fun p441 =>
                         ∃ n442 : Int, ∃ n443 : Int, (((p441.add ((n434).toNat * 2)), [(.int .u8 n442), (.int .u16 n443)]) ∈ x440) ∧
                         ∀ w444 : World, ∀ L445 : List Nat, (X.Hid (L436) w435 w444) →
                         (X.NewL (w).heap.size (L436) w435 w444 L445) →
                         X.CallX Tryd.prog 17 #[(.agg #[(.int .u8 n420), (.int .u32 n421), (.slice (q422) k423 k424)]), (.agg #[(.int .u8 n442), (.int .u16 n443)])] w444 fun e446 w447 =>
                          ∃ n448 : Int, (e446 = .returned (.int .i64 n448)) ∧
                          (X.Kept L445 w444 w447) ∧
                          (X.FactsW x440 w447 (L445)) ∧
                          if (decide (n448 ≥ 0)) = true then
                           (([(.int .u8 a_0), (.int .u32 a_1), (.slice (a_2) a_2l a_2c)] : List Value) = [(.int .u8 a_0), (.int .u32 a_1), (.slice (a_2) a_2l a_2c)]) ∧
                           (([(.int .u8 n5), (.int .u32 n6), (.slice (q7) k8 k9)] : List Value) = [(.int .u8 n5), (.int .u32 n6), (.slice (q7) k8 k9)]) ∧
                           (([(.int .u8 n420), (.int .u32 n421), (.slice (q422) k423 k424)] : List Value) = [(.int .u8 n420), (.int .u32 n421), (.slice (q422) k423 k424)]) ∧
                           (x431 (IntKind.wrap .i64 (n433 + 1)) (IntKind.wrap .i64 (n434 + 1)) w447 (L445)) ∧
                           Nat.le ((x432 (IntKind.wrap .i64 (n433 + 1)) (IntKind.wrap .i64 (n434 + 1)) w447) + 1) (x432 n433 n434 w435)
                          else
                           (([(.int .u8 a_0), (.int .u32 a_1), (.slice (a_2) a_2l a_2c)] : List Value) = [(.int .u8 a_0), (.int .u32 a_1), (.slice (a_2) a_2l a_2c)]) ∧
                           (([(.int .u8 n5), (.int .u32 n6), (.slice (q7) k8 k9)] : List Value) = [(.int .u8 n5), (.int .u32 n6), (.slice (q7) k8 k9)]) ∧
                           (([(.int .u8 n420), (.int .u32 n421), (.slice (q422) k423 k424)] : List Value) = [(.int .u8 n420), (.int .u32 n421), (.slice (q422) k423 k424)]) ∧
                           (x431 n433 (IntKind.wrap .i64 (n434 + 1)) w447 (L445)) ∧
                           Nat.le ((x432 n433 (IntKind.wrap .i64 (n434 + 1)) w447) + 1) (x432 n433 n434 w435)
                        else
                         if ((decide ((IntKind.wrap .i64 (2 * n433)) > ((k8 : Nat) : Int))) == true) = true then
                          X.CallX Tryd.prog 14 #[(.agg #[(.int .u8 n420), (.int .u32 n421), (.slice (q422) k423 k424)])] w435 fun e437 w438 =>
                           ∃ b439 : Bool, (e437 = .returned (.bool b439)) ∧
                           (X.Kept L436 w435 w438) ∧
                           R (.returned (.bool ((true && b439) && (n421 == (IntKind.wrap .u32 (n6 + 1)))))) w438
                         else
                          R (.returned (.bool (false && (n421 == (IntKind.wrap .u32 (n6 + 1)))))) w435) ∧
                   ∀ w449 : World, ∀ L450 : List Nat, (X.Hid (L374) w376 w449) →
                   (X.NewL (w).heap.size (L374) w376 w449 L450) →
                   X.CallX Tryd.prog 9 #[(.slice (c) cl cc)] w449 fun e451 w452 =>
                    ∃ q453 : Option Addr, ∃ k454 : Nat, ∃ k455 : Nat, (e451 = .returned (.slice (q453) k454 k455)) ∧
                    (X.Kept L450 w449 w452) ∧
                    (X.FactsW x372 w452 (L450)) ∧
                    X.CallX Tryd.prog 8 #[(.agg #[(.int .u8 n5), (.int .u32 n6), (.slice (q7) k8 k9)]), (.slice (q377) k378 k379), (.slice (q453) k454 k455)] w452 fun e456 w457 =>
                     ∃ n458 : Int, ∃ n459 : Int, ∃ q460 : Option Addr, ∃ k461 : Nat, ∃ k462 : Nat, ∃ n463 : Int, (e456 = .returned (.tuple #[(.agg #[(.int .u8 n458), (.int .u32 n459), (.slice (q460) k461 k462)]), (.int .i64 n463)])) ∧
                     (X.Kept L450 w452 w457) ∧
                     ∀ w464 : World, ∀ L465 : List Nat, (X.Hid (L450) w457 w464) →
                     (X.NewL (w).heap.size (L450) w457 w464 L465) →
                     X.CallX Tryd.prog 13 #[(.int .i64 n463)] w464 fun e466 w467 =>
                      ∃ n468 : Int, (e466 = .returned (.int .i64 n468)) ∧
                      (X.Kept L465 w464 w467) ∧
                      if (n468 != 0) = true then
                       R (.returned (.bool (((k461 : Nat) : Int) == 0))) w467
                      else
                       ∃ x469 : Int → Int → World → List Nat → Prop, ∃ x470 : Int → Int → World → Nat, (x469 0 0 w467 (L465)) ∧
                       ∀ n471 : Int, ∀ n472 : Int, ∀ w473 : World, ∀ L474 : List Nat, (X.LF (w).heap.size w473 L474) →
                       (x469 n471 n472 w473 L474) →
                       if (decide (n472 < ((k8 : Nat) : Int))) = true then
                        ∃ x478 : X.Facts, (X.FactsW x478 w473 (L474)) ∧
                        ((0 : Int) ≤ n472) ∧
                        (n472 < ((k8 : Nat) : Int)) ∧
                        X.onSome (q7) fun p479 =>
                        ∃ n480 : Int, ∃ n481 : Int, (((p479.add ((n472).toNat * 2)), [(.int .u8 n480), (.int .u16 n481)]) ∈ x478) ∧
                        ∀ w482 : World, ∀ L483 : List Nat, (X.Hid (L474) w473 w482) →
                        (X.NewL (w).heap.size (L474) w473 w482 L483) →
                        X.CallX Tryd.prog 17 #[(.agg #[(.int .u8 n458), (.int .u32 n459), (.slice (q460) k461 k462)]), (.agg #[(.int .u8 n480), (.int .u16 n481)])] w482 fun e484 w485 =>
                         ∃ n486 : Int, (e484 = .returned (.int .i64 n486)) ∧
                         (X.Kept L483 w482 w485) ∧
                         (X.FactsW x478 w485 (L483)) ∧
                         if (decide (n486 ≥ 0)) = true then
                          (([(.int .u8 a_0), (.int .u32 a_1), (.slice (a_2) a_2l a_2c)] : List Value) = [(.int .u8 a_0), (.int .u32 a_1), (.slice (a_2) a_2l a_2c)]) ∧
                          (([(.int .u8 n5), (.int .u32 n6), (.slice (q7) k8 k9)] : List Value) = [(.int .u8 n5), (.int .u32 n6), (.slice (q7) k8 k9)]) ∧
                          (([(.int .u8 n458), (.int .u32 n459), (.slice (q460) k461 k462)] : List Value) = [(.int .u8 n458), (.int .u32 n459), (.slice (q460) k461 k462)]) ∧
                          (x469 (IntKind.wrap .i64 (n471 + 1)) (IntKind.wrap .i64 (n472 + 1)) w485 (L483)) ∧
                          Nat.le ((x470 (IntKind.wrap .i64 (n471 + 1)) (IntKind.wrap .i64 (n472 + 1)) w485) + 1) (x470 n471 n472 w473)
                         else
                          (([(.int .u8 a_0), (.int .u32 a_1), (.slice (a_2) a_2l a_2c)] : List Value) = [(.int .u8 a_0), (.int .u32 a_1), (.slice (a_2) a_2l a_2c)]) ∧
                          (([(.int .u8 n5), (.int .u32 n6), (.slice (q7) k8 k9)] : List Value) = [(.int .u8 n5), (.int .u32 n6), (.slice (q7) k8 k9)]) ∧
                          (([(.int .u8 n458), (.int .u32 n459), (.slice (q460) k461 k462)] : List Value) = [(.int .u8 n458), (.int .u32 n459), (.slice (q460) k461 k462)]) ∧
                          (x469 n471 (IntKind.wrap .i64 (n472 + 1)) w485 (L483)) ∧
                          Nat.le ((x470 n471 (IntKind.wrap .i64 (n472 + 1)) w485) + 1) (x470 n471 n472 w473)
                       else
                        if ((decide ((IntKind.wrap .i64 (2 * n471)) > ((k8 : Nat) : Int))) == true) = true then
                         X.CallX Tryd.prog 14 #[(.agg #[(.int .u8 n458), (.int .u32 n459), (.slice (q460) k461 k462)])] w473 fun e475 w476 =>
                          ∃ b477 : Bool, (e475 = .returned (.bool b477)) ∧
                          (X.Kept L474 w473 w476) ∧
                          R (.returned (.bool ((true && b477) && (n459 == (IntKind.wrap .u32 (n6 + 1)))))) w476
                        else
                         R (.returned (.bool (false && (n459 == (IntKind.wrap .u32 (n6 + 1)))))) w473) ∧
                 ∀ w487 : World, ∀ L488 : List Nat, (X.Hid (L371) w370 w487) →
                 (X.NewL (w).heap.size (L371) w370 w487 L488) →
                 X.CallX Tryd.prog 9 #[(.slice (b) bl bc)] w487 fun e489 w490 =>
                  ∃ q491 : Option Addr, ∃ k492 : Nat, ∃ k493 : Nat, (e489 = .returned (.slice (q491) k492 k493)) ∧
                  (X.Kept L488 w487 w490) ∧
                  (X.FactsW x372 w490 (L488)) ∧
                  X.CallX Tryd.prog 9 #[(.slice (c) cl cc)] w490 fun e494 w495 =>
                   ∃ q496 : Option Addr, ∃ k497 : Nat, ∃ k498 : Nat, (e494 = .returned (.slice (q496) k497 k498)) ∧
                   (X.Kept L488 w490 w495) ∧
                   (X.FactsW x372 w495 (L488)) ∧
                   X.CallX Tryd.prog 8 #[(.agg #[(.int .u8 n5), (.int .u32 n6), (.slice (q7) k8 k9)]), (.slice (q491) k492 k493), (.slice (q496) k497 k498)] w495 fun e499 w500 =>
                    ∃ n501 : Int, ∃ n502 : Int, ∃ q503 : Option Addr, ∃ k504 : Nat, ∃ k505 : Nat, ∃ n506 : Int, (e499 = .returned (.tuple #[(.agg #[(.int .u8 n501), (.int .u32 n502), (.slice (q503) k504 k505)]), (.int .i64 n506)])) ∧
                    (X.Kept L488 w495 w500) ∧
                    ∀ w507 : World, ∀ L508 : List Nat, (X.Hid (L488) w500 w507) →
                    (X.NewL (w).heap.size (L488) w500 w507 L508) →
                    X.CallX Tryd.prog 13 #[(.int .i64 n506)] w507 fun e509 w510 =>
                     ∃ n511 : Int, (e509 = .returned (.int .i64 n511)) ∧
                     (X.Kept L508 w507 w510) ∧
                     if (n511 != 0) = true then
                      R (.returned (.bool (((k504 : Nat) : Int) == 0))) w510
                     else
                      ∃ x512 : Int → Int → World → List Nat → Prop, ∃ x513 : Int → Int → World → Nat, (x512 0 0 w510 (L508)) ∧
                      ∀ n514 : Int, ∀ n515 : Int, ∀ w516 : World, ∀ L517 : List Nat, (X.LF (w).heap.size w516 L517) →
                      (x512 n514 n515 w516 L517) →
                      if (decide (n515 < ((k8 : Nat) : Int))) = true then
                       ∃ x521 : X.Facts, (X.FactsW x521 w516 (L517)) ∧
                       ((0 : Int) ≤ n515) ∧
                       (n515 < ((k8 : Nat) : Int)) ∧
                       X.onSome (q7) fun p522 =>
                       ∃ n523 : Int, ∃ n524 : Int, (((p522.add ((n515).toNat * 2)), [(.int .u8 n523), (.int .u16 n524)]) ∈ x521) ∧
                       ∀ w525 : World, ∀ L526 : List Nat, (X.Hid (L517) w516 w525) →
                       (X.NewL (w).heap.size (L517) w516 w525 L526) →
                       X.CallX Tryd.prog 17 #[(.agg #[(.int .u8 n501), (.int .u32 n502), (.slice (q503) k504 k505)]), (.agg #[(.int .u8 n523), (.int .u16 n524)])] w525 fun e527 w528 =>
                        ∃ n529 : Int, (e527 = .returned (.int .i64 n529)) ∧
                        (X.Kept L526 w525 w528) ∧
                        (X.FactsW x521 w528 (L526)) ∧
                        if (decide (n529 ≥ 0)) = true then
                         (([(.int .u8 a_0), (.int .u32 a_1), (.slice (a_2) a_2l a_2c)] : List Value) = [(.int .u8 a_0), (.int .u32 a_1), (.slice (a_2) a_2l a_2c)]) ∧
                         (([(.int .u8 n5), (.int .u32 n6), (.slice (q7) k8 k9)] : List Value) = [(.int .u8 n5), (.int .u32 n6), (.slice (q7) k8 k9)]) ∧
                         (([(.int .u8 n501), (.int .u32 n502), (.slice (q503) k504 k505)] : List Value) = [(.int .u8 n501), (.int .u32 n502), (.slice (q503) k504 k505)]) ∧
                         (x512 (IntKind.wrap .i64 (n514 + 1)) (IntKind.wrap .i64 (n515 + 1)) w528 (L526)) ∧
                         Nat.le ((x513 (IntKind.wrap .i64 (n514 + 1)) (IntKind.wrap .i64 (n515 + 1)) w528) + 1) (x513 n514 n515 w516)
                        else
                         (([(.int .u8 a_0), (.int .u32 a_1), (.slice (a_2) a_2l a_2c)] : List Value) = [(.int .u8 a_0), (.int .u32 a_1), (.slice (a_2) a_2l a_2c)]) ∧
                         (([(.int .u8 n5), (.int .u32 n6), (.slice (q7) k8 k9)] : List Value) = [(.int .u8 n5), (.int .u32 n6), (.slice (q7) k8 k9)]) ∧
                         (([(.int .u8 n501), (.int .u32 n502), (.slice (q503) k504 k505)] : List Value) = [(.int .u8 n501), (.int .u32 n502), (.slice (q503) k504 k505)]) ∧
                         (x512 n514 (IntKind.wrap .i64 (n515 + 1)) w528 (L526)) ∧
                         Nat.le ((x513 n514 (IntKind.wrap .i64 (n515 + 1)) w528) + 1) (x513 n514 n515 w516)
                      else
                       if ((decide ((IntKind.wrap .i64 (2 * n514)) > ((k8 : Nat) : Int))) == true) = true then
                        X.CallX Tryd.prog 14 #[(.agg #[(.int .u8 n501), (.int .u32 n502), (.slice (q503) k504 k505)])] w516 fun e518 w519 =>
                         ∃ b520 : Bool, (e518 = .returned (.bool b520)) ∧
                         (X.Kept L517 w516 w519) ∧
                         R (.returned (.bool ((true && b520) && (n502 == (IntKind.wrap .u32 (n6 + 1)))))) w519
                       else
                        R (.returned (.bool (false && (n502 == (IntKind.wrap .u32 (n6 + 1)))))) w516
              else
               ∃ x208 : X.Facts, (X.FactsW x208 w206 (L29)) ∧
               (∀ w209 : World, ∀ L210 : List Nat, (X.Hid (L29) w206 w209) →
                (X.NewL (w).heap.size (L29) w206 w209 L210) →
                X.CallX Tryd.prog 9 #[(.slice (b) bl bc)] w209 fun e211 w212 =>
                 ∃ q213 : Option Addr, ∃ k214 : Nat, ∃ k215 : Nat, (e211 = .returned (.slice (q213) k214 k215)) ∧
                 (X.Kept L210 w209 w212) ∧
                 (X.FactsW x208 w212 (L210)) ∧
                 (X.CallX Tryd.prog 9 #[(.slice (c) cl cc)] w212 fun e216 w217 =>
                   ∃ q218 : Option Addr, ∃ k219 : Nat, ∃ k220 : Nat, (e216 = .returned (.slice (q218) k219 k220)) ∧
                   (X.Kept L210 w212 w217) ∧
                   (X.FactsW x208 w217 (L210)) ∧
                   (X.CallX Tryd.prog 8 #[(.agg #[(.int .u8 n5), (.int .u32 n6), (.slice (q7) k8 k9)]), (.slice (q213) k214 k215), (.slice (q218) k219 k220)] w217 fun e221 w222 =>
                     ∃ n223 : Int, ∃ n224 : Int, ∃ q225 : Option Addr, ∃ k226 : Nat, ∃ k227 : Nat, ∃ n228 : Int, (e221 = .returned (.tuple #[(.agg #[(.int .u8 n223), (.int .u32 n224), (.slice (q225) k226 k227)]), (.int .i64 n228)])) ∧
                     (X.Kept L210 w217 w222) ∧
                     ∀ w229 : World, ∀ L230 : List Nat, (X.Hid (L210) w222 w229) →
                     (X.NewL (w).heap.size (L210) w222 w229 L230) →
                     X.CallX Tryd.prog 13 #[(.int .i64 n228)] w229 fun e231 w232 =>
                      ∃ n233 : Int, (e231 = .returned (.int .i64 n233)) ∧
                      (X.Kept L230 w229 w232) ∧
                      if (n233 != 0) = true then
                       R (.returned (.bool (((k226 : Nat) : Int) == 0))) w232
                      else
                       ∃ x234 : Int → Int → World → List Nat → Prop, ∃ x235 : Int → Int → World → Nat, (x234 0 0 w232 (L230)) ∧
                       ∀ n236 : Int, ∀ n237 : Int, ∀ w238 : World, ∀ L239 : List Nat, (X.LF (w).heap.size w238 L239) →
                       (x234 n236 n237 w238 L239) →
                       if (decide (n237 < ((k8 : Nat) : Int))) = true then
                        ∃ x243 : X.Facts, (X.FactsW x243 w238 (L239)) ∧
                        ((0 : Int) ≤ n237) ∧
                        (n237 < ((k8 : Nat) : Int)) ∧
                        X.onSome (q7) fun p244 =>
                        ∃ n245 : Int, ∃ n246 : Int, (((p244.add ((n237).toNat * 2)), [(.int .u8 n245), (.int .u16 n246)]) ∈ x243) ∧
                        ∀ w247 : World, ∀ L248 : List Nat, (X.Hid (L239) w238 w247) →
                        (X.NewL (w).heap.size (L239) w238 w247 L248) →
                        X.CallX Tryd.prog 17 #[(.agg #[(.int .u8 n223), (.int .u32 n224), (.slice (q225) k226 k227)]), (.agg #[(.int .u8 n245), (.int .u16 n246)])] w247 fun e249 w250 =>
                         ∃ n251 : Int, (e249 = .returned (.int .i64 n251)) ∧
                         (X.Kept L248 w247 w250) ∧
                         (X.FactsW x243 w250 (L248)) ∧
                         if (decide (n251 ≥ 0)) = true then
                          (([(.int .u8 a_0), (.int .u32 a_1), (.slice (a_2) a_2l a_2c)] : List Value) = [(.int .u8 a_0), (.int .u32 a_1), (.slice (a_2) a_2l a_2c)]) ∧
                          (([(.int .u8 n5), (.int .u32 n6), (.slice (q7) k8 k9)] : List Value) = [(.int .u8 n5), (.int .u32 n6), (.slice (q7) k8 k9)]) ∧
                          (([(.int .u8 n223), (.int .u32 n224), (.slice (q225) k226 k227)] : List Value) = [(.int .u8 n223), (.int .u32 n224), (.slice (q225) k226 k227)]) ∧
                          (x234 (IntKind.wrap .i64 (n236 + 1)) (IntKind.wrap .i64 (n237 + 1)) w250 (L248)) ∧
                          Nat.le ((x235 (IntKind.wrap .i64 (n236 + 1)) (IntKind.wrap .i64 (n237 + 1)) w250) + 1) (x235 n236 n237 w238)
                         else
                          (([(.int .u8 a_0), (.int .u32 a_1), (.slice (a_2) a_2l a_2c)] : List Value) = [(.int .u8 a_0), (.int .u32 a_1), (.slice (a_2) a_2l a_2c)]) ∧
                          (([(.int .u8 n5), (.int .u32 n6), (.slice (q7) k8 k9)] : List Value) = [(.int .u8 n5), (.int .u32 n6), (.slice (q7) k8 k9)]) ∧
                          (([(.int .u8 n223), (.int .u32 n224), (.slice (q225) k226 k227)] : List Value) = [(.int .u8 n223), (.int .u32 n224), (.slice (q225) k226 k227)]) ∧
                          (x234 n236 (IntKind.wrap .i64 (n237 + 1)) w250 (L248)) ∧
                          Nat.le ((x235 n236 (IntKind.wrap .i64 (n237 + 1)) w250) + 1) (x235 n236 n237 w238)
                       else
                        if ((decide ((IntKind.wrap .i64 (2 * n236)) > ((k8 : Nat) : Int))) == true) = true then
                         X.CallX Tryd.prog 14 #[(.agg #[(.int .u8 n223), (.int .u32 n224), (.slice (q225) k226 k227)])] w238 fun e240 w241 =>
                          ∃ b242 : Bool, (e240 = .returned (.bool b242)) ∧
                          (X.Kept L239 w238 w241) ∧
                          R (.returned (.bool ((true && b242) && (n224 == (IntKind.wrap .u32 (n6 + 1)))))) w241
                        else
                         R (.returned (.bool (false && (n224 == (IntKind.wrap .u32 (n6 + 1)))))) w238) ∧
                   ∀ w252 : World, ∀ L253 : List Nat, (X.Hid (L210) w217 w252) →
                   (X.NewL (w).heap.size (L210) w217 w252 L253) →
                   X.CallX Tryd.prog 8 #[(.agg #[(.int .u8 n5), (.int .u32 n6), (.slice (q7) k8 k9)]), (.slice (q213) k214 k215), (.slice (q218) k219 k220)] w252 fun e254 w255 =>
                    ∃ n256 : Int, ∃ n257 : Int, ∃ q258 : Option Addr, ∃ k259 : Nat, ∃ k260 : Nat, ∃ n261 : Int, (e254 = .returned (.tuple #[(.agg #[(.int .u8 n256), (.int .u32 n257), (.slice (q258) k259 k260)]), (.int .i64 n261)])) ∧
                    (X.Kept L253 w252 w255) ∧
                    ∀ w262 : World, ∀ L263 : List Nat, (X.Hid (L253) w255 w262) →
                    (X.NewL (w).heap.size (L253) w255 w262 L263) →
                    X.CallX Tryd.prog 13 #[(.int .i64 n261)] w262 fun e264 w265 =>
                     ∃ n266 : Int, (e264 = .returned (.int .i64 n266)) ∧
                     (X.Kept L263 w262 w265) ∧
                     if (n266 != 0) = true then
                      R (.returned (.bool (((k259 : Nat) : Int) == 0))) w265
                     else
                      ∃ x267 : Int → Int → World → List Nat → Prop, ∃ x268 : Int → Int → World → Nat, (x267 0 0 w265 (L263)) ∧
                      ∀ n269 : Int, ∀ n270 : Int, ∀ w271 : World, ∀ L272 : List Nat, (X.LF (w).heap.size w271 L272) →
                      (x267 n269 n270 w271 L272) →
                      if (decide (n270 < ((k8 : Nat) : Int))) = true then
                       ∃ x276 : X.Facts, (X.FactsW x276 w271 (L272)) ∧
                       ((0 : Int) ≤ n270) ∧
                       (n270 < ((k8 : Nat) : Int)) ∧
                       X.onSome (q7) fun p277 =>
                       ∃ n278 : Int, ∃ n279 : Int, (((p277.add ((n270).toNat * 2)), [(.int .u8 n278), (.int .u16 n279)]) ∈ x276) ∧
                       ∀ w280 : World, ∀ L281 : List Nat, (X.Hid (L272) w271 w280) →
                       (X.NewL (w).heap.size (L272) w271 w280 L281) →
                       X.CallX Tryd.prog 17 #[(.agg #[(.int .u8 n256), (.int .u32 n257), (.slice (q258) k259 k260)]), (.agg #[(.int .u8 n278), (.int .u16 n279)])] w280 fun e282 w283 =>
                        ∃ n284 : Int, (e282 = .returned (.int .i64 n284)) ∧
                        (X.Kept L281 w280 w283) ∧
                        (X.FactsW x276 w283 (L281)) ∧
                        if (decide (n284 ≥ 0)) = true then
                         (([(.int .u8 a_0), (.int .u32 a_1), (.slice (a_2) a_2l a_2c)] : List Value) = [(.int .u8 a_0), (.int .u32 a_1), (.slice (a_2) a_2l a_2c)]) ∧
                         (([(.int .u8 n5), (.int .u32 n6), (.slice (q7) k8 k9)] : List Value) = [(.int .u8 n5), (.int .u32 n6), (.slice (q7) k8 k9)]) ∧
                         (([(.int .u8 n256), (.int .u32 n257), (.slice (q258) k259 k260)] : List Value) = [(.int .u8 n256), (.int .u32 n257), (.slice (q258) k259 k260)]) ∧
                         (x267 (IntKind.wrap .i64 (n269 + 1)) (IntKind.wrap .i64 (n270 + 1)) w283 (L281)) ∧
                         Nat.le ((x268 (IntKind.wrap .i64 (n269 + 1)) (IntKind.wrap .i64 (n270 + 1)) w283) + 1) (x268 n269 n270 w271)
                        else
                         (([(.int .u8 a_0), (.int .u32 a_1), (.slice (a_2) a_2l a_2c)] : List Value) = [(.int .u8 a_0), (.int .u32 a_1), (.slice (a_2) a_2l a_2c)]) ∧
                         (([(.int .u8 n5), (.int .u32 n6), (.slice (q7) k8 k9)] : List Value) = [(.int .u8 n5), (.int .u32 n6), (.slice (q7) k8 k9)]) ∧
                         (([(.int .u8 n256), (.int .u32 n257), (.slice (q258) k259 k260)] : List Value) = [(.int .u8 n256), (.int .u32 n257), (.slice (q258) k259 k260)]) ∧
                         (x267 n269 (IntKind.wrap .i64 (n270 + 1)) w283 (L281)) ∧
                         Nat.le ((x268 n269 (IntKind.wrap .i64 (n270 + 1)) w283) + 1) (x268 n269 n270 w271)
                      else
                       if ((decide ((IntKind.wrap .i64 (2 * n269)) > ((k8 : Nat) : Int))) == true) = true then
                        X.CallX Tryd.prog 14 #[(.agg #[(.int .u8 n256), (.int .u32 n257), (.slice (q258) k259 k260)])] w271 fun e273 w274 =>
                         ∃ b275 : Bool, (e273 = .returned (.bool b275)) ∧
                         (X.Kept L272 w271 w274) ∧
                         R (.returned (.bool ((true && b275) && (n257 == (IntKind.wrap .u32 (n6 + 1)))))) w274
                       else
                        R (.returned (.bool (false && (n257 == (IntKind.wrap .u32 (n6 + 1)))))) w271) ∧
                 ∀ w285 : World, ∀ L286 : List Nat, (X.Hid (L210) w212 w285) →
                 (X.NewL (w).heap.size (L210) w212 w285 L286) →
                 X.CallX Tryd.prog 9 #[(.slice (c) cl cc)] w285 fun e287 w288 =>
                  ∃ q289 : Option Addr, ∃ k290 : Nat, ∃ k291 : Nat, (e287 = .returned (.slice (q289) k290 k291)) ∧
                  (X.Kept L286 w285 w288) ∧
                  (X.FactsW x208 w288 (L286)) ∧
                  X.CallX Tryd.prog 8 #[(.agg #[(.int .u8 n5), (.int .u32 n6), (.slice (q7) k8 k9)]), (.slice (q213) k214 k215), (.slice (q289) k290 k291)] w288 fun e292 w293 =>
                   ∃ n294 : Int, ∃ n295 : Int, ∃ q296 : Option Addr, ∃ k297 : Nat, ∃ k298 : Nat, ∃ n299 : Int, (e292 = .returned (.tuple #[(.agg #[(.int .u8 n294), (.int .u32 n295), (.slice (q296) k297 k298)]), (.int .i64 n299)])) ∧
                   (X.Kept L286 w288 w293) ∧
                   ∀ w300 : World, ∀ L301 : List Nat, (X.Hid (L286) w293 w300) →
                   (X.NewL (w).heap.size (L286) w293 w300 L301) →
                   X.CallX Tryd.prog 13 #[(.int .i64 n299)] w300 fun e302 w303 =>
                    ∃ n304 : Int, (e302 = .returned (.int .i64 n304)) ∧
                    (X.Kept L301 w300 w303) ∧
                    if (n304 != 0) = true then
                     R (.returned (.bool (((k297 : Nat) : Int) == 0))) w303
                    else
                     ∃ x305 : Int → Int → World → List Nat → Prop, ∃ x306 : Int → Int → World → Nat, (x305 0 0 w303 (L301)) ∧
                     ∀ n307 : Int, ∀ n308 : Int, ∀ w309 : World, ∀ L310 : List Nat, (X.LF (w).heap.size w309 L310) →
                     (x305 n307 n308 w309 L310) →
                     if (decide (n308 < ((k8 : Nat) : Int))) = true then
                      ∃ x314 : X.Facts, (X.FactsW x314 w309 (L310)) ∧
                      ((0 : Int) ≤ n308) ∧
                      (n308 < ((k8 : Nat) : Int)) ∧
                      X.onSome (q7) fun p315 =>
                      ∃ n316 : Int, ∃ n317 : Int, (((p315.add ((n308).toNat * 2)), [(.int .u8 n316), (.int .u16 n317)]) ∈ x314) ∧
                      ∀ w318 : World, ∀ L319 : List Nat, (X.Hid (L310) w309 w318) →
                      (X.NewL (w).heap.size (L310) w309 w318 L319) →
                      X.CallX Tryd.prog 17 #[(.agg #[(.int .u8 n294), (.int .u32 n295), (.slice (q296) k297 k298)]), (.agg #[(.int .u8 n316), (.int .u16 n317)])] w318 fun e320 w321 =>
                       ∃ n322 : Int, (e320 = .returned (.int .i64 n322)) ∧
                       (X.Kept L319 w318 w321) ∧
                       (X.FactsW x314 w321 (L319)) ∧
                       if (decide (n322 ≥ 0)) = true then
                        (([(.int .u8 a_0), (.int .u32 a_1), (.slice (a_2) a_2l a_2c)] : List Value) = [(.int .u8 a_0), (.int .u32 a_1), (.slice (a_2) a_2l a_2c)]) ∧
                        (([(.int .u8 n5), (.int .u32 n6), (.slice (q7) k8 k9)] : List Value) = [(.int .u8 n5), (.int .u32 n6), (.slice (q7) k8 k9)]) ∧
                        (([(.int .u8 n294), (.int .u32 n295), (.slice (q296) k297 k298)] : List Value) = [(.int .u8 n294), (.int .u32 n295), (.slice (q296) k297 k298)]) ∧
                        (x305 (IntKind.wrap .i64 (n307 + 1)) (IntKind.wrap .i64 (n308 + 1)) w321 (L319)) ∧
                        Nat.le ((x306 (IntKind.wrap .i64 (n307 + 1)) (IntKind.wrap .i64 (n308 + 1)) w321) + 1) (x306 n307 n308 w309)
                       else
                        (([(.int .u8 a_0), (.int .u32 a_1), (.slice (a_2) a_2l a_2c)] : List Value) = [(.int .u8 a_0), (.int .u32 a_1), (.slice (a_2) a_2l a_2c)]) ∧
                        (([(.int .u8 n5), (.int .u32 n6), (.slice (q7) k8 k9)] : List Value) = [(.int .u8 n5), (.int .u32 n6), (.slice (q7) k8 k9)]) ∧
                        (([(.int .u8 n294), (.int .u32 n295), (.slice (q296) k297 k298)] : List Value) = [(.int .u8 n294), (.int .u32 n295), (.slice (q296) k297 k298)]) ∧
                        (x305 n307 (IntKind.wrap .i64 (n308 + 1)) w321 (L319)) ∧
                        Nat.le ((x306 n307 (IntKind.wrap .i64 (n308 + 1)) w321) + 1) (x306 n307 n308 w309)
                     else
                      if ((decide ((IntKind.wrap .i64 (2 * n307)) > ((k8 : Nat) : Int))) == true) = true then
                       X.CallX Tryd.prog 14 #[(.agg #[(.int .u8 n294), (.int .u32 n295), (.slice (q296) k297 k298)])] w309 fun e311 w312 =>
                        ∃ b313 : Bool, (e311 = .returned (.bool b313)) ∧
                        (X.Kept L310 w309 w312) ∧
                        R (.returned (.bool ((true && b313) && (n295 == (IntKind.wrap .u32 (n6 + 1)))))) w312
                      else
                       R (.returned (.bool (false && (n295 == (IntKind.wrap .u32 (n6 + 1)))))) w309) ∧
               ∀ w323 : World, ∀ L324 : List Nat, (X.Hid (L29) w206 w323) →
               (X.NewL (w).heap.size (L29) w206 w323 L324) →
               X.CallX Tryd.prog 9 #[(.slice (b) bl bc)] w323 fun e325 w326 =>
                ∃ q327 : Option Addr, ∃ k328 : Nat, ∃ k329 : Nat, (e325 = .returned (.slice (q327) k328 k329)) ∧
                (X.Kept L324 w323 w326) ∧
                (X.FactsW x208 w326 (L324)) ∧
                X.CallX Tryd.prog 9 #[(.slice (c) cl cc)] w326 fun e330 w331 =>
                 ∃ q332 : Option Addr, ∃ k333 : Nat, ∃ k334 : Nat, (e330 = .returned (.slice (q332) k333 k334)) ∧
                 (X.Kept L324 w326 w331) ∧
                 (X.FactsW x208 w331 (L324)) ∧
                 X.CallX Tryd.prog 8 #[(.agg #[(.int .u8 n5), (.int .u32 n6), (.slice (q7) k8 k9)]), (.slice (q327) k328 k329), (.slice (q332) k333 k334)] w331 fun e335 w336 =>
                  ∃ n337 : Int, ∃ n338 : Int, ∃ q339 : Option Addr, ∃ k340 : Nat, ∃ k341 : Nat, ∃ n342 : Int, (e335 = .returned (.tuple #[(.agg #[(.int .u8 n337), (.int .u32 n338), (.slice (q339) k340 k341)]), (.int .i64 n342)])) ∧
                  (X.Kept L324 w331 w336) ∧
                  ∀ w343 : World, ∀ L344 : List Nat, (X.Hid (L324) w336 w343) →
                  (X.NewL (w).heap.size (L324) w336 w343 L344) →
                  X.CallX Tryd.prog 13 #[(.int .i64 n342)] w343 fun e345 w346 =>
                   ∃ n347 : Int, (e345 = .returned (.int .i64 n347)) ∧
                   (X.Kept L344 w343 w346) ∧
                   if (n347 != 0) = true then
                    R (.returned (.bool (((k340 : Nat) : Int) == 0))) w346
                   else
                    ∃ x348 : Int → Int → World → List Nat → Prop, ∃ x349 : Int → Int → World → Nat, (x348 0 0 w346 (L344)) ∧
                    ∀ n350 : Int, ∀ n351 : Int, ∀ w352 : World, ∀ L353 : List Nat, (X.LF (w).heap.size w352 L353) →
                    (x348 n350 n351 w352 L353) →
                    if (decide (n351 < ((k8 : Nat) : Int))) = true then
                     ∃ x357 : X.Facts, (X.FactsW x357 w352 (L353)) ∧
                     ((0 : Int) ≤ n351) ∧
                     (n351 < ((k8 : Nat) : Int)) ∧
                     X.onSome (q7) fun p358 =>
                     ∃ n359 : Int, ∃ n360 : Int, (((p358.add ((n351).toNat * 2)), [(.int .u8 n359), (.int .u16 n360)]) ∈ x357) ∧
                     ∀ w361 : World, ∀ L362 : List Nat, (X.Hid (L353) w352 w361) →
                     (X.NewL (w).heap.size (L353) w352 w361 L362) →
                     X.CallX Tryd.prog 17 #[(.agg #[(.int .u8 n337), (.int .u32 n338), (.slice (q339) k340 k341)]), (.agg #[(.int .u8 n359), (.int .u16 n360)])] w361 fun e363 w364 =>
                      ∃ n365 : Int, (e363 = .returned (.int .i64 n365)) ∧
                      (X.Kept L362 w361 w364) ∧
                      (X.FactsW x357 w364 (L362)) ∧
                      if (decide (n365 ≥ 0)) = true then
                       (([(.int .u8 a_0), (.int .u32 a_1), (.slice (a_2) a_2l a_2c)] : List Value) = [(.int .u8 a_0), (.int .u32 a_1), (.slice (a_2) a_2l a_2c)]) ∧
                       (([(.int .u8 n5), (.int .u32 n6), (.slice (q7) k8 k9)] : List Value) = [(.int .u8 n5), (.int .u32 n6), (.slice (q7) k8 k9)]) ∧
                       (([(.int .u8 n337), (.int .u32 n338), (.slice (q339) k340 k341)] : List Value) = [(.int .u8 n337), (.int .u32 n338), (.slice (q339) k340 k341)]) ∧
                       (x348 (IntKind.wrap .i64 (n350 + 1)) (IntKind.wrap .i64 (n351 + 1)) w364 (L362)) ∧
                       Nat.le ((x349 (IntKind.wrap .i64 (n350 + 1)) (IntKind.wrap .i64 (n351 + 1)) w364) + 1) (x349 n350 n351 w352)
                      else
                       (([(.int .u8 a_0), (.int .u32 a_1), (.slice (a_2) a_2l a_2c)] : List Value) = [(.int .u8 a_0), (.int .u32 a_1), (.slice (a_2) a_2l a_2c)]) ∧
                       (([(.int .u8 n5), (.int .u32 n6), (.slice (q7) k8 k9)] : List Value) = [(.int .u8 n5), (.int .u32 n6), (.slice (q7) k8 k9)]) ∧
                       (([(.int .u8 n337), (.int .u32 n338), (.slice (q339) k340 k341)] : List Value) = [(.int .u8 n337), (.int .u32 n338), (.slice (q339) k340 k341)]) ∧
                       (x348 n350 (IntKind.wrap .i64 (n351 + 1)) w364 (L362)) ∧
                       Nat.le ((x349 n350 (IntKind.wrap .i64 (n351 + 1)) w364) + 1) (x349 n350 n351 w352)
                    else
                     if ((decide ((IntKind.wrap .i64 (2 * n350)) > ((k8 : Nat) : Int))) == true) = true then
                      X.CallX Tryd.prog 14 #[(.agg #[(.int .u8 n337), (.int .u32 n338), (.slice (q339) k340 k341)])] w352 fun e354 w355 =>
                       ∃ b356 : Bool, (e354 = .returned (.bool b356)) ∧
                       (X.Kept L353 w352 w355) ∧
                       R (.returned (.bool ((true && b356) && (n338 == (IntKind.wrap .u32 (n6 + 1)))))) w355
                     else
                      R (.returned (.bool (false && (n338 == (IntKind.wrap .u32 (n6 + 1)))))) w352
           else
            ∃ x42 : X.Facts, (X.FactsW x42 w38 (L29)) ∧
            (∀ w43 : World, ∀ L44 : List Nat, (X.Hid (L29) w38 w43) →
             (X.NewL (w).heap.size (L29) w38 w43 L44) →
             X.CallX Tryd.prog 9 #[(.slice (b) bl bc)] w43 fun e45 w46 =>
              ∃ q47 : Option Addr, ∃ k48 : Nat, ∃ k49 : Nat, (e45 = .returned (.slice (q47) k48 k49)) ∧
              (X.Kept L44 w43 w46) ∧
              (X.FactsW x42 w46 (L44)) ∧
              (X.CallX Tryd.prog 9 #[(.slice (c) cl cc)] w46 fun e50 w51 =>
                ∃ q52 : Option Addr, ∃ k53 : Nat, ∃ k54 : Nat, (e50 = .returned (.slice (q52) k53 k54)) ∧
                (X.Kept L44 w46 w51) ∧
                (X.FactsW x42 w51 (L44)) ∧
                (X.CallX Tryd.prog 8 #[(.agg #[(.int .u8 n5), (.int .u32 n6), (.slice (q7) k8 k9)]), (.slice (q47) k48 k49), (.slice (q52) k53 k54)] w51 fun e55 w56 =>
                  ∃ n57 : Int, ∃ n58 : Int, ∃ q59 : Option Addr, ∃ k60 : Nat, ∃ k61 : Nat, ∃ n62 : Int, (e55 = .returned (.tuple #[(.agg #[(.int .u8 n57), (.int .u32 n58), (.slice (q59) k60 k61)]), (.int .i64 n62)])) ∧
                  (X.Kept L44 w51 w56) ∧
                  ∀ w63 : World, ∀ L64 : List Nat, (X.Hid (L44) w56 w63) →
                  (X.NewL (w).heap.size (L44) w56 w63 L64) →
                  X.CallX Tryd.prog 13 #[(.int .i64 n62)] w63 fun e65 w66 =>
                   ∃ n67 : Int, (e65 = .returned (.int .i64 n67)) ∧
                   (X.Kept L64 w63 w66) ∧
                   if (n67 != 0) = true then
                    R (.returned (.bool (((k60 : Nat) : Int) == 0))) w66
                   else
                    ∃ x68 : Int → Int → World → List Nat → Prop, ∃ x69 : Int → Int → World → Nat, (x68 0 0 w66 (L64)) ∧
                    ∀ n70 : Int, ∀ n71 : Int, ∀ w72 : World, ∀ L73 : List Nat, (X.LF (w).heap.size w72 L73) →
                    (x68 n70 n71 w72 L73) →
                    if (decide (n71 < ((k8 : Nat) : Int))) = true then
                     ∃ x77 : X.Facts, (X.FactsW x77 w72 (L73)) ∧
                     ((0 : Int) ≤ n71) ∧
                     (n71 < ((k8 : Nat) : Int)) ∧
                     X.onSome (q7) fun p78 =>
                     ∃ n79 : Int, ∃ n80 : Int, (((p78.add ((n71).toNat * 2)), [(.int .u8 n79), (.int .u16 n80)]) ∈ x77) ∧
                     ∀ w81 : World, ∀ L82 : List Nat, (X.Hid (L73) w72 w81) →
                     (X.NewL (w).heap.size (L73) w72 w81 L82) →
                     X.CallX Tryd.prog 17 #[(.agg #[(.int .u8 n57), (.int .u32 n58), (.slice (q59) k60 k61)]), (.agg #[(.int .u8 n79), (.int .u16 n80)])] w81 fun e83 w84 =>
                      ∃ n85 : Int, (e83 = .returned (.int .i64 n85)) ∧
                      (X.Kept L82 w81 w84) ∧
                      (X.FactsW x77 w84 (L82)) ∧
                      if (decide (n85 ≥ 0)) = true then
                       (([(.int .u8 a_0), (.int .u32 a_1), (.slice (a_2) a_2l a_2c)] : List Value) = [(.int .u8 a_0), (.int .u32 a_1), (.slice (a_2) a_2l a_2c)]) ∧
                       (([(.int .u8 n5), (.int .u32 n6), (.slice (q7) k8 k9)] : List Value) = [(.int .u8 n5), (.int .u32 n6), (.slice (q7) k8 k9)]) ∧
                       (([(.int .u8 n57), (.int .u32 n58), (.slice (q59) k60 k61)] : List Value) = [(.int .u8 n57), (.int .u32 n58), (.slice (q59) k60 k61)]) ∧
                       (x68 (IntKind.wrap .i64 (n70 + 1)) (IntKind.wrap .i64 (n71 + 1)) w84 (L82)) ∧
                       Nat.le ((x69 (IntKind.wrap .i64 (n70 + 1)) (IntKind.wrap .i64 (n71 + 1)) w84) + 1) (x69 n70 n71 w72)
                      else
                       (([(.int .u8 a_0), (.int .u32 a_1), (.slice (a_2) a_2l a_2c)] : List Value) = [(.int .u8 a_0), (.int .u32 a_1), (.slice (a_2) a_2l a_2c)]) ∧
                       (([(.int .u8 n5), (.int .u32 n6), (.slice (q7) k8 k9)] : List Value) = [(.int .u8 n5), (.int .u32 n6), (.slice (q7) k8 k9)]) ∧
                       (([(.int .u8 n57), (.int .u32 n58), (.slice (q59) k60 k61)] : List Value) = [(.int .u8 n57), (.int .u32 n58), (.slice (q59) k60 k61)]) ∧
                       (x68 n70 (IntKind.wrap .i64 (n71 + 1)) w84 (L82)) ∧
                       Nat.le ((x69 n70 (IntKind.wrap .i64 (n71 + 1)) w84) + 1) (x69 n70 n71 w72)
                    else
                     if ((decide ((IntKind.wrap .i64 (2 * n70)) > ((k8 : Nat) : Int))) == true) = true then
                      X.CallX Tryd.prog 14 #[(.agg #[(.int .u8 n57), (.int .u32 n58), (.slice (q59) k60 k61)])] w72 fun e74 w75 =>
                       ∃ b76 : Bool, (e74 = .returned (.bool b76)) ∧
                       (X.Kept L73 w72 w75) ∧
                       R (.returned (.bool ((true && b76) && (n58 == (IntKind.wrap .u32 (n6 + 1)))))) w75
                     else
                      R (.returned (.bool (false && (n58 == (IntKind.wrap .u32 (n6 + 1)))))) w72) ∧
                ∀ w86 : World, ∀ L87 : List Nat, (X.Hid (L44) w51 w86) →
                (X.NewL (w).heap.size (L44) w51 w86 L87) →
                X.CallX Tryd.prog 8 #[(.agg #[(.int .u8 n5), (.int .u32 n6), (.slice (q7) k8 k9)]), (.slice (q47) k48 k49), (.slice (q52) k53 k54)] w86 fun e88 w89 =>
                 ∃ n90 : Int, ∃ n91 : Int, ∃ q92 : Option Addr, ∃ k93 : Nat, ∃ k94 : Nat, ∃ n95 : Int, (e88 = .returned (.tuple #[(.agg #[(.int .u8 n90), (.int .u32 n91), (.slice (q92) k93 k94)]), (.int .i64 n95)])) ∧
                 (X.Kept L87 w86 w89) ∧
                 ∀ w96 : World, ∀ L97 : List Nat, (X.Hid (L87) w89 w96) →
                 (X.NewL (w).heap.size (L87) w89 w96 L97) →
                 X.CallX Tryd.prog 13 #[(.int .i64 n95)] w96 fun e98 w99 =>
                  ∃ n100 : Int, (e98 = .returned (.int .i64 n100)) ∧
                  (X.Kept L97 w96 w99) ∧
                  if (n100 != 0) = true then
                   R (.returned (.bool (((k93 : Nat) : Int) == 0))) w99
                  else
                   ∃ x101 : Int → Int → World → List Nat → Prop, ∃ x102 : Int → Int → World → Nat, (x101 0 0 w99 (L97)) ∧
                   ∀ n103 : Int, ∀ n104 : Int, ∀ w105 : World, ∀ L106 : List Nat, (X.LF (w).heap.size w105 L106) →
                   (x101 n103 n104 w105 L106) →
                   if (decide (n104 < ((k8 : Nat) : Int))) = true then
                    ∃ x110 : X.Facts, (X.FactsW x110 w105 (L106)) ∧
                    ((0 : Int) ≤ n104) ∧
                    (n104 < ((k8 : Nat) : Int)) ∧
                    X.onSome (q7) fun p111 =>
                    ∃ n112 : Int, ∃ n113 : Int, (((p111.add ((n104).toNat * 2)), [(.int .u8 n112), (.int .u16 n113)]) ∈ x110) ∧
                    ∀ w114 : World, ∀ L115 : List Nat, (X.Hid (L106) w105 w114) →
                    (X.NewL (w).heap.size (L106) w105 w114 L115) →
                    X.CallX Tryd.prog 17 #[(.agg #[(.int .u8 n90), (.int .u32 n91), (.slice (q92) k93 k94)]), (.agg #[(.int .u8 n112), (.int .u16 n113)])] w114 fun e116 w117 =>
                     ∃ n118 : Int, (e116 = .returned (.int .i64 n118)) ∧
                     (X.Kept L115 w114 w117) ∧
                     (X.FactsW x110 w117 (L115)) ∧
                     if (decide (n118 ≥ 0)) = true then
                      (([(.int .u8 a_0), (.int .u32 a_1), (.slice (a_2) a_2l a_2c)] : List Value) = [(.int .u8 a_0), (.int .u32 a_1), (.slice (a_2) a_2l a_2c)]) ∧
                      (([(.int .u8 n5), (.int .u32 n6), (.slice (q7) k8 k9)] : List Value) = [(.int .u8 n5), (.int .u32 n6), (.slice (q7) k8 k9)]) ∧
                      (([(.int .u8 n90), (.int .u32 n91), (.slice (q92) k93 k94)] : List Value) = [(.int .u8 n90), (.int .u32 n91), (.slice (q92) k93 k94)]) ∧
                      (x101 (IntKind.wrap .i64 (n103 + 1)) (IntKind.wrap .i64 (n104 + 1)) w117 (L115)) ∧
                      Nat.le ((x102 (IntKind.wrap .i64 (n103 + 1)) (IntKind.wrap .i64 (n104 + 1)) w117) + 1) (x102 n103 n104 w105)
                     else
                      (([(.int .u8 a_0), (.int .u32 a_1), (.slice (a_2) a_2l a_2c)] : List Value) = [(.int .u8 a_0), (.int .u32 a_1), (.slice (a_2) a_2l a_2c)]) ∧
                      (([(.int .u8 n5), (.int .u32 n6), (.slice (q7) k8 k9)] : List Value) = [(.int .u8 n5), (.int .u32 n6), (.slice (q7) k8 k9)]) ∧
                      (([(.int .u8 n90), (.int .u32 n91), (.slice (q92) k93 k94)] : List Value) = [(.int .u8 n90), (.int .u32 n91), (.slice (q92) k93 k94)]) ∧
                      (x101 n103 (IntKind.wrap .i64 (n104 + 1)) w117 (L115)) ∧
                      Nat.le ((x102 n103 (IntKind.wrap .i64 (n104 + 1)) w117) + 1) (x102 n103 n104 w105)
                   else
                    if ((decide ((IntKind.wrap .i64 (2 * n103)) > ((k8 : Nat) : Int))) == true) = true then
                     X.CallX Tryd.prog 14 #[(.agg #[(.int .u8 n90), (.int .u32 n91), (.slice (q92) k93 k94)])] w105 fun e107 w108 =>
                      ∃ b109 : Bool, (e107 = .returned (.bool b109)) ∧
                      (X.Kept L106 w105 w108) ∧
                      R (.returned (.bool ((true && b109) && (n91 == (IntKind.wrap .u32 (n6 + 1)))))) w108
                    else
                     R (.returned (.bool (false && (n91 == (IntKind.wrap .u32 (n6 + 1)))))) w105) ∧
              ∀ w119 : World, ∀ L120 : List Nat, (X.Hid (L44) w46 w119) →
              (X.NewL (w).heap.size (L44) w46 w119 L120) →
              X.CallX Tryd.prog 9 #[(.slice (c) cl cc)] w119 fun e121 w122 =>
               ∃ q123 : Option Addr, ∃ k124 : Nat, ∃ k125 : Nat, (e121 = .returned (.slice (q123) k124 k125)) ∧
               (X.Kept L120 w119 w122) ∧
               (X.FactsW x42 w122 (L120)) ∧
               X.CallX Tryd.prog 8 #[(.agg #[(.int .u8 n5), (.int .u32 n6), (.slice (q7) k8 k9)]), (.slice (q47) k48 k49), (.slice (q123) k124 k125)] w122 fun e126 w127 =>
                ∃ n128 : Int, ∃ n129 : Int, ∃ q130 : Option Addr, ∃ k131 : Nat, ∃ k132 : Nat, ∃ n133 : Int, (e126 = .returned (.tuple #[(.agg #[(.int .u8 n128), (.int .u32 n129), (.slice (q130) k131 k132)]), (.int .i64 n133)])) ∧
                (X.Kept L120 w122 w127) ∧
                ∀ w134 : World, ∀ L135 : List Nat, (X.Hid (L120) w127 w134) →
                (X.NewL (w).heap.size (L120) w127 w134 L135) →
                X.CallX Tryd.prog 13 #[(.int .i64 n133)] w134 fun e136 w137 =>
                 ∃ n138 : Int, (e136 = .returned (.int .i64 n138)) ∧
                 (X.Kept L135 w134 w137) ∧
                 if (n138 != 0) = true then
                  R (.returned (.bool (((k131 : Nat) : Int) == 0))) w137
                 else
                  ∃ x139 : Int → Int → World → List Nat → Prop, ∃ x140 : Int → Int → World → Nat, (x139 0 0 w137 (L135)) ∧
                  ∀ n141 : Int, ∀ n142 : Int, ∀ w143 : World, ∀ L144 : List Nat, (X.LF (w).heap.size w143 L144) →
                  (x139 n141 n142 w143 L144) →
                  if (decide (n142 < ((k8 : Nat) : Int))) = true then
                   ∃ x148 : X.Facts, (X.FactsW x148 w143 (L144)) ∧
                   ((0 : Int) ≤ n142) ∧
                   (n142 < ((k8 : Nat) : Int)) ∧
                   X.onSome (q7) fun p149 =>
                   ∃ n150 : Int, ∃ n151 : Int, (((p149.add ((n142).toNat * 2)), [(.int .u8 n150), (.int .u16 n151)]) ∈ x148) ∧
                   ∀ w152 : World, ∀ L153 : List Nat, (X.Hid (L144) w143 w152) →
                   (X.NewL (w).heap.size (L144) w143 w152 L153) →
                   X.CallX Tryd.prog 17 #[(.agg #[(.int .u8 n128), (.int .u32 n129), (.slice (q130) k131 k132)]), (.agg #[(.int .u8 n150), (.int .u16 n151)])] w152 fun e154 w155 =>
                    ∃ n156 : Int, (e154 = .returned (.int .i64 n156)) ∧
                    (X.Kept L153 w152 w155) ∧
                    (X.FactsW x148 w155 (L153)) ∧
                    if (decide (n156 ≥ 0)) = true then
                     (([(.int .u8 a_0), (.int .u32 a_1), (.slice (a_2) a_2l a_2c)] : List Value) = [(.int .u8 a_0), (.int .u32 a_1), (.slice (a_2) a_2l a_2c)]) ∧
                     (([(.int .u8 n5), (.int .u32 n6), (.slice (q7) k8 k9)] : List Value) = [(.int .u8 n5), (.int .u32 n6), (.slice (q7) k8 k9)]) ∧
                     (([(.int .u8 n128), (.int .u32 n129), (.slice (q130) k131 k132)] : List Value) = [(.int .u8 n128), (.int .u32 n129), (.slice (q130) k131 k132)]) ∧
                     (x139 (IntKind.wrap .i64 (n141 + 1)) (IntKind.wrap .i64 (n142 + 1)) w155 (L153)) ∧
                     Nat.le ((x140 (IntKind.wrap .i64 (n141 + 1)) (IntKind.wrap .i64 (n142 + 1)) w155) + 1) (x140 n141 n142 w143)
                    else
                     (([(.int .u8 a_0), (.int .u32 a_1), (.slice (a_2) a_2l a_2c)] : List Value) = [(.int .u8 a_0), (.int .u32 a_1), (.slice (a_2) a_2l a_2c)]) ∧
                     (([(.int .u8 n5), (.int .u32 n6), (.slice (q7) k8 k9)] : List Value) = [(.int .u8 n5), (.int .u32 n6), (.slice (q7) k8 k9)]) ∧
                     (([(.int .u8 n128), (.int .u32 n129), (.slice (q130) k131 k132)] : List Value) = [(.int .u8 n128), (.int .u32 n129), (.slice (q130) k131 k132)]) ∧
                     (x139 n141 (IntKind.wrap .i64 (n142 + 1)) w155 (L153)) ∧
                     Nat.le ((x140 n141 (IntKind.wrap .i64 (n142 + 1)) w155) + 1) (x140 n141 n142 w143)
                  else
                   if ((decide ((IntKind.wrap .i64 (2 * n141)) > ((k8 : Nat) : Int))) == true) = true then
                    X.CallX Tryd.prog 14 #[(.agg #[(.int .u8 n128), (.int .u32 n129), (.slice (q130) k131 k132)])] w143 fun e145 w146 =>
                     ∃ b147 : Bool, (e145 = .returned (.bool b147)) ∧
                     (X.Kept L144 w143 w146) ∧
                     R (.returned (.bool ((true && b147) && (n129 == (IntKind.wrap .u32 (n6 + 1)))))) w146
                   else
                    R (.returned (.bool (false && (n129 == (IntKind.wrap .u32 (n6 + 1)))))) w143) ∧
            ∀ w157 : World, ∀ L158 : List Nat, (X.Hid (L29) w38 w157) →
            (X.NewL (w).heap.size (L29) w38 w157 L158) →
            X.CallX Tryd.prog 9 #[(.slice (b) bl bc)] w157 fun e159 w160 =>
             ∃ q161 : Option Addr, ∃ k162 : Nat, ∃ k163 : Nat, (e159 = .returned (.slice (q161) k162 k163)) ∧
             (X.Kept L158 w157 w160) ∧
             (X.FactsW x42 w160 (L158)) ∧
             X.CallX Tryd.prog 9 #[(.slice (c) cl cc)] w160 fun e164 w165 =>
              ∃ q166 : Option Addr, ∃ k167 : Nat, ∃ k168 : Nat, (e164 = .returned (.slice (q166) k167 k168)) ∧
              (X.Kept L158 w160 w165) ∧
              (X.FactsW x42 w165 (L158)) ∧
              X.CallX Tryd.prog 8 #[(.agg #[(.int .u8 n5), (.int .u32 n6), (.slice (q7) k8 k9)]), (.slice (q161) k162 k163), (.slice (q166) k167 k168)] w165 fun e169 w170 =>
               ∃ n171 : Int, ∃ n172 : Int, ∃ q173 : Option Addr, ∃ k174 : Nat, ∃ k175 : Nat, ∃ n176 : Int, (e169 = .returned (.tuple #[(.agg #[(.int .u8 n171), (.int .u32 n172), (.slice (q173) k174 k175)]), (.int .i64 n176)])) ∧
               (X.Kept L158 w165 w170) ∧
               ∀ w177 : World, ∀ L178 : List Nat, (X.Hid (L158) w170 w177) →
               (X.NewL (w).heap.size (L158) w170 w177 L178) →
               X.CallX Tryd.prog 13 #[(.int .i64 n176)] w177 fun e179 w180 =>
                ∃ n181 : Int, (e179 = .returned (.int .i64 n181)) ∧
                (X.Kept L178 w177 w180) ∧
                if (n181 != 0) = true then
                 R (.returned (.bool (((k174 : Nat) : Int) == 0))) w180
                else
                 ∃ x182 : Int → Int → World → List Nat → Prop, ∃ x183 : Int → Int → World → Nat, (x182 0 0 w180 (L178)) ∧
                 ∀ n184 : Int, ∀ n185 : Int, ∀ w186 : World, ∀ L187 : List Nat, (X.LF (w).heap.size w186 L187) →
                 (x182 n184 n185 w186 L187) →
                 if (decide (n185 < ((k8 : Nat) : Int))) = true then
                  ∃ x191 : X.Facts, (X.FactsW x191 w186 (L187)) ∧
                  ((0 : Int) ≤ n185) ∧
                  (n185 < ((k8 : Nat) : Int)) ∧
                  X.onSome (q7) fun p192 =>
                  ∃ n193 : Int, ∃ n194 : Int, (((p192.add ((n185).toNat * 2)), [(.int .u8 n193), (.int .u16 n194)]) ∈ x191) ∧
                  ∀ w195 : World, ∀ L196 : List Nat, (X.Hid (L187) w186 w195) →
                  (X.NewL (w).heap.size (L187) w186 w195 L196) →
                  X.CallX Tryd.prog 17 #[(.agg #[(.int .u8 n171), (.int .u32 n172), (.slice (q173) k174 k175)]), (.agg #[(.int .u8 n193), (.int .u16 n194)])] w195 fun e197 w198 =>
                   ∃ n199 : Int, (e197 = .returned (.int .i64 n199)) ∧
                   (X.Kept L196 w195 w198) ∧
                   (X.FactsW x191 w198 (L196)) ∧
                   if (decide (n199 ≥ 0)) = true then
                    (([(.int .u8 a_0), (.int .u32 a_1), (.slice (a_2) a_2l a_2c)] : List Value) = [(.int .u8 a_0), (.int .u32 a_1), (.slice (a_2) a_2l a_2c)]) ∧
                    (([(.int .u8 n5), (.int .u32 n6), (.slice (q7) k8 k9)] : List Value) = [(.int .u8 n5), (.int .u32 n6), (.slice (q7) k8 k9)]) ∧
                    (([(.int .u8 n171), (.int .u32 n172), (.slice (q173) k174 k175)] : List Value) = [(.int .u8 n171), (.int .u32 n172), (.slice (q173) k174 k175)]) ∧
                    (x182 (IntKind.wrap .i64 (n184 + 1)) (IntKind.wrap .i64 (n185 + 1)) w198 (L196)) ∧
                    Nat.le ((x183 (IntKind.wrap .i64 (n184 + 1)) (IntKind.wrap .i64 (n185 + 1)) w198) + 1) (x183 n184 n185 w186)
                   else
                    (([(.int .u8 a_0), (.int .u32 a_1), (.slice (a_2) a_2l a_2c)] : List Value) = [(.int .u8 a_0), (.int .u32 a_1), (.slice (a_2) a_2l a_2c)]) ∧
                    (([(.int .u8 n5), (.int .u32 n6), (.slice (q7) k8 k9)] : List Value) = [(.int .u8 n5), (.int .u32 n6), (.slice (q7) k8 k9)]) ∧
                    (([(.int .u8 n171), (.int .u32 n172), (.slice (q173) k174 k175)] : List Value) = [(.int .u8 n171), (.int .u32 n172), (.slice (q173) k174 k175)]) ∧
                    (x182 n184 (IntKind.wrap .i64 (n185 + 1)) w198 (L196)) ∧
                    Nat.le ((x183 n184 (IntKind.wrap .i64 (n185 + 1)) w198) + 1) (x183 n184 n185 w186)
                 else
                  if ((decide ((IntKind.wrap .i64 (2 * n184)) > ((k8 : Nat) : Int))) == true) = true then
                   X.CallX Tryd.prog 14 #[(.agg #[(.int .u8 n171), (.int .u32 n172), (.slice (q173) k174 k175)])] w186 fun e188 w189 =>
                    ∃ b190 : Bool, (e188 = .returned (.bool b190)) ∧
                    (X.Kept L187 w186 w189) ∧
                    R (.returned (.bool ((true && b190) && (n172 == (IntKind.wrap .u32 (n6 + 1)))))) w189
                  else
                   R (.returned (.bool (false && (n172 == (IntKind.wrap .u32 (n6 + 1)))))) w186
      else
       X.CallX Tryd.prog 6 #[] w19 fun e21 w22 =>
        ∃ b23 : Bool, (e21 = .returned (.bool b23)) ∧
        (X.Kept L11 w19 w22) ∧
        R (.returned (.bool b23)) w22
    else
     X.CallX Tryd.prog 6 #[] w13 fun e15 w16 =>
      ∃ b17 : Bool, (e15 = .returned (.bool b17)) ∧
      (X.Kept L11 w13 w16) ∧
      R (.returned (.bool b17)) w16) :
    Calls Tryd.prog 4 #[.agg #[.int .u8 a_0, .int .u32 a_1, .slice a_2 a_2l a_2c], .slice b bl bc, .slice c cl cc] w R :=
  X.calls_of { isLoc := [3, 7, 10], sym := [], loops := [(7, .inv [(8, .bool), (9, .int .i64)] [] true), (17, .inv [(12, .int .i64), (13, .int .i64)] [] true)], joins := [], stored := [(12, [10])] } Tryd.func4 (by kernel_rfl) h
end Go.Proofs
