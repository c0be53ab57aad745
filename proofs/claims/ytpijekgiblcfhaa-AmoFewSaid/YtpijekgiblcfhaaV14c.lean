import Derived.Test.YtpijekgiblcfhaaXFn
import Derived.Test.YtpijekgiblcfhaaProg
/- The verification conditions of this seat's functions, as the engine has them: printed by a program of the bench; checked by the kernel. -/
set_option maxRecDepth 100000
set_option linter.unusedVariables false
namespace Go.Proofs
open Go
abbrev fn_gemotref02_number : Nat := 86
theorem x_gemotref02_number (a b : Int) (w : World) (R : Ending → World → Prop) (h :
  if (decide (a < b)) = true then
   R (.returned (.int .i64 (-1))) w
  else
   if (decide (a > b)) = true then
    R (.returned (.int .i64 1)) w
   else
    R (.returned (.int .i64 0)) w) :
    Calls Try.prog 86 #[.int .i64 a, .int .i64 b] w R :=
  X.calls_of { isLoc := [], sym := [], loops := [], joins := [] } Try.func86 (by kernel_rfl) h
abbrev fn_gemotref02_CompareProcs : Nat := 85
theorem x_gemotref02_CompareProcs (a_0 a_1 b_0 b_1 : Int) (w : World) (R : Ending → World → Prop) (h :
  if (a_0 != b_0) = true then
   ∀ w6 : World, ∀ L7 : List Nat, (X.Hid [] w w6) →
   (X.NewL (w).heap.size [] w w6 L7) →
   X.CallX Try.prog 86 #[(.int .i64 (IntKind.wrap .i64 a_0)), (.int .i64 (IntKind.wrap .i64 b_0))] w6 fun e8 w9 =>
    ∃ n10 : Int, (e8 = .returned (.int .i64 n10)) ∧
    (X.Kept L7 w6 w9) ∧
    R (.returned (.int .i64 n10)) w9
  else
   ∀ w1 : World, ∀ L2 : List Nat, (X.Hid [] w w1) →
   (X.NewL (w).heap.size [] w w1 L2) →
   X.CallX Try.prog 86 #[(.int .i64 (IntKind.wrap .i64 a_1)), (.int .i64 (IntKind.wrap .i64 b_1))] w1 fun e3 w4 =>
    ∃ n5 : Int, (e3 = .returned (.int .i64 n5)) ∧
    (X.Kept L2 w1 w4) ∧
    R (.returned (.int .i64 n5)) w4) :
    Calls Try.prog 85 #[.agg #[.int .u8 a_0, .int .u16 a_1], .agg #[.int .u8 b_0, .int .u16 b_1]] w R :=
  X.calls_of { isLoc := [2, 3], sym := [], loops := [], joins := [] } Try.func85 (by kernel_rfl) h
abbrev fn_gemotref02_Compare : Nat := 69
theorem x_gemotref02_Compare (a_0 a_1 a_2 a_3 a_4 a_5 a_6 a_7 a_8 a_9 b_0 b_1 b_2 b_3 b_4 b_5 b_6 b_7 b_8 b_9 : Int) (w : World) (R : Ending → World → Prop) (h :
  ∀ w1 : World, ∀ L2 : List Nat, (X.Hid [] w w1) →
  (X.NewL (w).heap.size [] w w1 L2) →
  X.CallX Try.prog 85 #[(.agg #[(.int .u8 a_0), (.int .u16 a_1)]), (.agg #[(.int .u8 b_0), (.int .u16 b_1)])] w1 fun e3 w4 =>
   ∃ n5 : Int, (e3 = .returned (.int .i64 n5)) ∧
   (X.Kept L2 w1 w4) ∧
   if (n5 != 0) = true then
    R (.returned (.int .i64 n5)) w4
   else
    if (a_2 != b_2) = true then
     X.CallX Try.prog 86 #[(.int .i64 (IntKind.wrap .i64 a_2)), (.int .i64 (IntKind.wrap .i64 b_2))] w4 fun e208 w209 =>
      ∃ n210 : Int, (e208 = .returned (.int .i64 n210)) ∧
      (X.Kept L2 w4 w209) ∧
      R (.returned (.int .i64 n210)) w209
    else
     if ((true && decide ((0 : Int) < (IntKind.wrap .i64 a_3))) && decide ((0 : Int) < (IntKind.wrap .i64 b_3))) = true then
      if (a_4 != b_4) = true then
       ∃ x202 : X.Facts, (X.FactsW x202 w4 (L2)) ∧
       ∀ w203 : World, ∀ L204 : List Nat, (X.Hid (L2) w4 w203) →
       (X.NewL (w).heap.size (L2) w4 w203 L204) →
       X.CallX Try.prog 86 #[(.int .i64 (IntKind.wrap .i64 a_4)), (.int .i64 (IntKind.wrap .i64 b_4))] w203 fun e205 w206 =>
        ∃ n207 : Int, (e205 = .returned (.int .i64 n207)) ∧
        (X.Kept L204 w203 w206) ∧
        (X.FactsW x202 w206 (L204)) ∧
        R (.returned (.int .i64 n207)) w206
      else
       if (a_5 != b_5) = true then
        ∃ x196 : X.Facts, (X.FactsW x196 w4 (L2)) ∧
        ∀ w197 : World, ∀ L198 : List Nat, (X.Hid (L2) w4 w197) →
        (X.NewL (w).heap.size (L2) w4 w197 L198) →
        X.CallX Try.prog 86 #[(.int .i64 (IntKind.wrap .i64 a_5)), (.int .i64 (IntKind.wrap .i64 b_5))] w197 fun e199 w200 =>
         ∃ n201 : Int, (e199 = .returned (.int .i64 n201)) ∧
         (X.Kept L198 w197 w200) ∧
         (X.FactsW x196 w200 (L198)) ∧
         R (.returned (.int .i64 n201)) w200
       else
        if ((true && decide ((1 : Int) < (IntKind.wrap .i64 a_3))) && decide ((1 : Int) < (IntKind.wrap .i64 b_3))) = true then
         if (a_6 != b_6) = true then
          ∃ x190 : X.Facts, (X.FactsW x190 w4 (L2)) ∧
          ∀ w191 : World, ∀ L192 : List Nat, (X.Hid (L2) w4 w191) →
          (X.NewL (w).heap.size (L2) w4 w191 L192) →
          X.CallX Try.prog 86 #[(.int .i64 (IntKind.wrap .i64 a_6)), (.int .i64 (IntKind.wrap .i64 b_6))] w191 fun e193 w194 =>
           ∃ n195 : Int, (e193 = .returned (.int .i64 n195)) ∧
           (X.Kept L192 w191 w194) ∧
           (X.FactsW x190 w194 (L192)) ∧
           R (.returned (.int .i64 n195)) w194
         else
          if (a_7 != b_7) = true then
           ∃ x184 : X.Facts, (X.FactsW x184 w4 (L2)) ∧
           ∀ w185 : World, ∀ L186 : List Nat, (X.Hid (L2) w4 w185) →
           (X.NewL (w).heap.size (L2) w4 w185 L186) →
           X.CallX Try.prog 86 #[(.int .i64 (IntKind.wrap .i64 a_7)), (.int .i64 (IntKind.wrap .i64 b_7))] w185 fun e187 w188 =>
            ∃ n189 : Int, (e187 = .returned (.int .i64 n189)) ∧
            (X.Kept L186 w185 w188) ∧
            (X.FactsW x184 w188 (L186)) ∧
            R (.returned (.int .i64 n189)) w188
          else
           if ((true && decide ((2 : Int) < (IntKind.wrap .i64 a_3))) && decide ((2 : Int) < (IntKind.wrap .i64 b_3))) = true then
            if (a_8 != b_8) = true then
             ∃ x178 : X.Facts, (X.FactsW x178 w4 (L2)) ∧
             ∀ w179 : World, ∀ L180 : List Nat, (X.Hid (L2) w4 w179) →
             (X.NewL (w).heap.size (L2) w4 w179 L180) →
             X.CallX Try.prog 86 #[(.int .i64 (IntKind.wrap .i64 a_8)), (.int .i64 (IntKind.wrap .i64 b_8))] w179 fun e181 w182 =>
              ∃ n183 : Int, (e181 = .returned (.int .i64 n183)) ∧
              (X.Kept L180 w179 w182) ∧
              (X.FactsW x178 w182 (L180)) ∧
              R (.returned (.int .i64 n183)) w182
            else
             if (a_9 != b_9) = true then
              ∃ x172 : X.Facts, (X.FactsW x172 w4 (L2)) ∧
              ∀ w173 : World, ∀ L174 : List Nat, (X.Hid (L2) w4 w173) →
              (X.NewL (w).heap.size (L2) w4 w173 L174) →
              X.CallX Try.prog 86 #[(.int .i64 (IntKind.wrap .i64 a_9)), (.int .i64 (IntKind.wrap .i64 b_9))] w173 fun e175 w176 =>
               ∃ n177 : Int, (e175 = .returned (.int .i64 n177)) ∧
               (X.Kept L174 w173 w176) ∧
               (X.FactsW x172 w176 (L174)) ∧
               R (.returned (.int .i64 n177)) w176
             else
              if (a_3 != b_3) = true then
               ∀ w167 : World, ∀ L168 : List Nat, (X.Hid (L2) w4 w167) →
               (X.NewL (w).heap.size (L2) w4 w167 L168) →
               X.CallX Try.prog 86 #[(.int .i64 (IntKind.wrap .i64 a_3)), (.int .i64 (IntKind.wrap .i64 b_3))] w167 fun e169 w170 =>
                ∃ n171 : Int, (e169 = .returned (.int .i64 n171)) ∧
                (X.Kept L168 w167 w170) ∧
                R (.returned (.int .i64 n171)) w170
              else
               if (a_4 != b_4) = true then
                ∃ x161 : X.Facts, (X.FactsW x161 w4 (L2)) ∧
                ∀ w162 : World, ∀ L163 : List Nat, (X.Hid (L2) w4 w162) →
                (X.NewL (w).heap.size (L2) w4 w162 L163) →
                X.CallX Try.prog 86 #[(.int .i64 (IntKind.wrap .i64 a_4)), (.int .i64 (IntKind.wrap .i64 b_4))] w162 fun e164 w165 =>
                 ∃ n166 : Int, (e164 = .returned (.int .i64 n166)) ∧
                 (X.Kept L163 w162 w165) ∧
                 (X.FactsW x161 w165 (L163)) ∧
                 R (.returned (.int .i64 n166)) w165
               else
                if (a_5 != b_5) = true then
                 ∃ x155 : X.Facts, (X.FactsW x155 w4 (L2)) ∧
                 ∀ w156 : World, ∀ L157 : List Nat, (X.Hid (L2) w4 w156) →
                 (X.NewL (w).heap.size (L2) w4 w156 L157) →
                 X.CallX Try.prog 86 #[(.int .i64 (IntKind.wrap .i64 a_5)), (.int .i64 (IntKind.wrap .i64 b_5))] w156 fun e158 w159 =>
                  ∃ n160 : Int, (e158 = .returned (.int .i64 n160)) ∧
                  (X.Kept L157 w156 w159) ∧
                  (X.FactsW x155 w159 (L157)) ∧
                  R (.returned (.int .i64 n160)) w159
                else
                 if (a_6 != b_6) = true then
                  ∃ x149 : X.Facts, (X.FactsW x149 w4 (L2)) ∧
                  ∀ w150 : World, ∀ L151 : List Nat, (X.Hid (L2) w4 w150) →
                  (X.NewL (w).heap.size (L2) w4 w150 L151) →
                  X.CallX Try.prog 86 #[(.int .i64 (IntKind.wrap .i64 a_6)), (.int .i64 (IntKind.wrap .i64 b_6))] w150 fun e152 w153 =>
                   ∃ n154 : Int, (e152 = .returned (.int .i64 n154)) ∧
                   (X.Kept L151 w150 w153) ∧
                   (X.FactsW x149 w153 (L151)) ∧
                   R (.returned (.int .i64 n154)) w153
                 else
                  if (a_7 != b_7) = true then
                   ∃ x143 : X.Facts, (X.FactsW x143 w4 (L2)) ∧
                   ∀ w144 : World, ∀ L145 : List Nat, (X.Hid (L2) w4 w144) →
                   (X.NewL (w).heap.size (L2) w4 w144 L145) →
                   X.CallX Try.prog 86 #[(.int .i64 (IntKind.wrap .i64 a_7)), (.int .i64 (IntKind.wrap .i64 b_7))] w144 fun e146 w147 =>
                    ∃ n148 : Int, (e146 = .returned (.int .i64 n148)) ∧
                    (X.Kept L145 w144 w147) ∧
                    (X.FactsW x143 w147 (L145)) ∧
                    R (.returned (.int .i64 n148)) w147
                  else
                   if (a_8 != b_8) = true then
                    ∃ x137 : X.Facts, (X.FactsW x137 w4 (L2)) ∧
                    ∀ w138 : World, ∀ L139 : List Nat, (X.Hid (L2) w4 w138) →
                    (X.NewL (w).heap.size (L2) w4 w138 L139) →
                    X.CallX Try.prog 86 #[(.int .i64 (IntKind.wrap .i64 a_8)), (.int .i64 (IntKind.wrap .i64 b_8))] w138 fun e140 w141 =>
                     ∃ n142 : Int, (e140 = .returned (.int .i64 n142)) ∧
                     (X.Kept L139 w138 w141) ∧
                     (X.FactsW x137 w141 (L139)) ∧
                     R (.returned (.int .i64 n142)) w141
                   else
                    if (a_9 != b_9) = true then
                     ∃ x131 : X.Facts, (X.FactsW x131 w4 (L2)) ∧
                     ∀ w132 : World, ∀ L133 : List Nat, (X.Hid (L2) w4 w132) →
                     (X.NewL (w).heap.size (L2) w4 w132 L133) →
                     X.CallX Try.prog 86 #[(.int .i64 (IntKind.wrap .i64 a_9)), (.int .i64 (IntKind.wrap .i64 b_9))] w132 fun e134 w135 =>
                      ∃ n136 : Int, (e134 = .returned (.int .i64 n136)) ∧
                      (X.Kept L133 w132 w135) ∧
                      (X.FactsW x131 w135 (L133)) ∧
                      R (.returned (.int .i64 n136)) w135
                    else
                     ∀ w130 : World, (X.Hid (L2) w4 w130) →
                     R (.returned (.int .i64 0)) w130
           else
            if (a_3 != b_3) = true then
             ∀ w125 : World, ∀ L126 : List Nat, (X.Hid (L2) w4 w125) →
             (X.NewL (w).heap.size (L2) w4 w125 L126) →
             X.CallX Try.prog 86 #[(.int .i64 (IntKind.wrap .i64 a_3)), (.int .i64 (IntKind.wrap .i64 b_3))] w125 fun e127 w128 =>
              ∃ n129 : Int, (e127 = .returned (.int .i64 n129)) ∧
              (X.Kept L126 w125 w128) ∧
              R (.returned (.int .i64 n129)) w128
            else
             if (a_4 != b_4) = true then
              ∃ x119 : X.Facts, (X.FactsW x119 w4 (L2)) ∧
              ∀ w120 : World, ∀ L121 : List Nat, (X.Hid (L2) w4 w120) →
              (X.NewL (w).heap.size (L2) w4 w120 L121) →
              X.CallX Try.prog 86 #[(.int .i64 (IntKind.wrap .i64 a_4)), (.int .i64 (IntKind.wrap .i64 b_4))] w120 fun e122 w123 =>
               ∃ n124 : Int, (e122 = .returned (.int .i64 n124)) ∧
               (X.Kept L121 w120 w123) ∧
               (X.FactsW x119 w123 (L121)) ∧
               R (.returned (.int .i64 n124)) w123
             else
              if (a_5 != b_5) = true then
               ∃ x113 : X.Facts, (X.FactsW x113 w4 (L2)) ∧
               ∀ w114 : World, ∀ L115 : List Nat, (X.Hid (L2) w4 w114) →
               (X.NewL (w).heap.size (L2) w4 w114 L115) →
               X.CallX Try.prog 86 #[(.int .i64 (IntKind.wrap .i64 a_5)), (.int .i64 (IntKind.wrap .i64 b_5))] w114 fun e116 w117 =>
                ∃ n118 : Int, (e116 = .returned (.int .i64 n118)) ∧
                (X.Kept L115 w114 w117) ∧
                (X.FactsW x113 w117 (L115)) ∧
                R (.returned (.int .i64 n118)) w117
              else
               if (a_6 != b_6) = true then
                ∃ x107 : X.Facts, (X.FactsW x107 w4 (L2)) ∧
                ∀ w108 : World, ∀ L109 : List Nat, (X.Hid (L2) w4 w108) →
                (X.NewL (w).heap.size (L2) w4 w108 L109) →
                X.CallX Try.prog 86 #[(.int .i64 (IntKind.wrap .i64 a_6)), (.int .i64 (IntKind.wrap .i64 b_6))] w108 fun e110 w111 =>
                 ∃ n112 : Int, (e110 = .returned (.int .i64 n112)) ∧
                 (X.Kept L109 w108 w111) ∧
                 (X.FactsW x107 w111 (L109)) ∧
                 R (.returned (.int .i64 n112)) w111
               else
                if (a_7 != b_7) = true then
                 ∃ x101 : X.Facts, (X.FactsW x101 w4 (L2)) ∧
                 ∀ w102 : World, ∀ L103 : List Nat, (X.Hid (L2) w4 w102) →
                 (X.NewL (w).heap.size (L2) w4 w102 L103) →
                 X.CallX Try.prog 86 #[(.int .i64 (IntKind.wrap .i64 a_7)), (.int .i64 (IntKind.wrap .i64 b_7))] w102 fun e104 w105 =>
                  ∃ n106 : Int, (e104 = .returned (.int .i64 n106)) ∧
                  (X.Kept L103 w102 w105) ∧
                  (X.FactsW x101 w105 (L103)) ∧
                  R (.returned (.int .i64 n106)) w105
                else
                 if (a_8 != b_8) = true then
                  ∃ x95 : X.Facts, (X.FactsW x95 w4 (L2)) ∧
                  ∀ w96 : World, ∀ L97 : List Nat, (X.Hid (L2) w4 w96) →
                  (X.NewL (w).heap.size (L2) w4 w96 L97) →
                  X.CallX Try.prog 86 #[(.int .i64 (IntKind.wrap .i64 a_8)), (.int .i64 (IntKind.wrap .i64 b_8))] w96 fun e98 w99 =>
                   ∃ n100 : Int, (e98 = .returned (.int .i64 n100)) ∧
                   (X.Kept L97 w96 w99) ∧
                   (X.FactsW x95 w99 (L97)) ∧
                   R (.returned (.int .i64 n100)) w99
                 else
                  if (a_9 != b_9) = true then
                   ∃ x89 : X.Facts, (X.FactsW x89 w4 (L2)) ∧
                   ∀ w90 : World, ∀ L91 : List Nat, (X.Hid (L2) w4 w90) →
                   (X.NewL (w).heap.size (L2) w4 w90 L91) →
                   X.CallX Try.prog 86 #[(.int .i64 (IntKind.wrap .i64 a_9)), (.int .i64 (IntKind.wrap .i64 b_9))] w90 fun e92 w93 =>
                    ∃ n94 : Int, (e92 = .returned (.int .i64 n94)) ∧
                    (X.Kept L91 w90 w93) ∧
                    (X.FactsW x89 w93 (L91)) ∧
                    R (.returned (.int .i64 n94)) w93
                  else
                   ∀ w88 : World, (X.Hid (L2) w4 w88) →
                   R (.returned (.int .i64 0)) w88
        else
         if (a_3 != b_3) = true then
          ∀ w83 : World, ∀ L84 : List Nat, (X.Hid (L2) w4 w83) →
          (X.NewL (w).heap.size (L2) w4 w83 L84) →
          X.CallX Try.prog 86 #[(.int .i64 (IntKind.wrap .i64 a_3)), (.int .i64 (IntKind.wrap .i64 b_3))] w83 fun e85 w86 =>
           ∃ n87 : Int, (e85 = .returned (.int .i64 n87)) ∧
           (X.Kept L84 w83 w86) ∧
           R (.returned (.int .i64 n87)) w86
         else
          if (a_4 != b_4) = true then
           ∃ x77 : X.Facts, (X.FactsW x77 w4 (L2)) ∧
           ∀ w78 : World, ∀ L79 : List Nat, (X.Hid (L2) w4 w78) →
           (X.NewL (w).heap.size (L2) w4 w78 L79) →
           X.CallX Try.prog 86 #[(.int .i64 (IntKind.wrap .i64 a_4)), (.int .i64 (IntKind.wrap .i64 b_4))] w78 fun e80 w81 =>
            ∃ n82 : Int, (e80 = .returned (.int .i64 n82)) ∧
            (X.Kept L79 w78 w81) ∧
            (X.FactsW x77 w81 (L79)) ∧
            R (.returned (.int .i64 n82)) w81
          else
           if (a_5 != b_5) = true then
            ∃ x71 : X.Facts, (X.FactsW x71 w4 (L2)) ∧
            ∀ w72 : World, ∀ L73 : List Nat, (X.Hid (L2) w4 w72) →
            (X.NewL (w).heap.size (L2) w4 w72 L73) →
            X.CallX Try.prog 86 #[(.int .i64 (IntKind.wrap .i64 a_5)), (.int .i64 (IntKind.wrap .i64 b_5))] w72 fun e74 w75 =>
             ∃ n76 : Int, (e74 = .returned (.int .i64 n76)) ∧
             (X.Kept L73 w72 w75) ∧
             (X.FactsW x71 w75 (L73)) ∧
             R (.returned (.int .i64 n76)) w75
           else
            if (a_6 != b_6) = true then
             ∃ x65 : X.Facts, (X.FactsW x65 w4 (L2)) ∧
             ∀ w66 : World, ∀ L67 : List Nat, (X.Hid (L2) w4 w66) →
             (X.NewL (w).heap.size (L2) w4 w66 L67) →
             X.CallX Try.prog 86 #[(.int .i64 (IntKind.wrap .i64 a_6)), (.int .i64 (IntKind.wrap .i64 b_6))] w66 fun e68 w69 =>
              ∃ n70 : Int, (e68 = .returned (.int .i64 n70)) ∧
              (X.Kept L67 w66 w69) ∧
              (X.FactsW x65 w69 (L67)) ∧
              R (.returned (.int .i64 n70)) w69
            else
             if (a_7 != b_7) = true then
              ∃ x59 : X.Facts, (X.FactsW x59 w4 (L2)) ∧
              ∀ w60 : World, ∀ L61 : List Nat, (X.Hid (L2) w4 w60) →
              (X.NewL (w).heap.size (L2) w4 w60 L61) →
              X.CallX Try.prog 86 #[(.int .i64 (IntKind.wrap .i64 a_7)), (.int .i64 (IntKind.wrap .i64 b_7))] w60 fun e62 w63 =>
               ∃ n64 : Int, (e62 = .returned (.int .i64 n64)) ∧
               (X.Kept L61 w60 w63) ∧
               (X.FactsW x59 w63 (L61)) ∧
               R (.returned (.int .i64 n64)) w63
             else
              if (a_8 != b_8) = true then
               ∃ x53 : X.Facts, (X.FactsW x53 w4 (L2)) ∧
               ∀ w54 : World, ∀ L55 : List Nat, (X.Hid (L2) w4 w54) →
               (X.NewL (w).heap.size (L2) w4 w54 L55) →
               X.CallX Try.prog 86 #[(.int .i64 (IntKind.wrap .i64 a_8)), (.int .i64 (IntKind.wrap .i64 b_8))] w54 fun e56 w57 =>
                ∃ n58 : Int, (e56 = .returned (.int .i64 n58)) ∧
                (X.Kept L55 w54 w57) ∧
                (X.FactsW x53 w57 (L55)) ∧
                R (.returned (.int .i64 n58)) w57
              else
               if (a_9 != b_9) = true then
                ∃ x47 : X.Facts, (X.FactsW x47 w4 (L2)) ∧
                ∀ w48 : World, ∀ L49 : List Nat, (X.Hid (L2) w4 w48) →
                (X.NewL (w).heap.size (L2) w4 w48 L49) →
                X.CallX Try.prog 86 #[(.int .i64 (IntKind.wrap .i64 a_9)), (.int .i64 (IntKind.wrap .i64 b_9))] w48 fun e50 w51 =>
                 ∃ n52 : Int, (e50 = .returned (.int .i64 n52)) ∧
                 (X.Kept L49 w48 w51) ∧
                 (X.FactsW x47 w51 (L49)) ∧
                 R (.returned (.int .i64 n52)) w51
               else
                ∀ w46 : World, (X.Hid (L2) w4 w46) →
                R (.returned (.int .i64 0)) w46
     else
      if (a_3 != b_3) = true then
       X.CallX Try.prog 86 #[(.int .i64 (IntKind.wrap .i64 a_3)), (.int .i64 (IntKind.wrap .i64 b_3))] w4 fun e43 w44 =>
        ∃ n45 : Int, (e43 = .returned (.int .i64 n45)) ∧
        (X.Kept L2 w4 w44) ∧
        R (.returned (.int .i64 n45)) w44
      else
       if (a_4 != b_4) = true then
        ∃ x37 : X.Facts, (X.FactsW x37 w4 (L2)) ∧
        ∀ w38 : World, ∀ L39 : List Nat, (X.Hid (L2) w4 w38) →
        (X.NewL (w).heap.size (L2) w4 w38 L39) →
        X.CallX Try.prog 86 #[(.int .i64 (IntKind.wrap .i64 a_4)), (.int .i64 (IntKind.wrap .i64 b_4))] w38 fun e40 w41 =>
         ∃ n42 : Int, (e40 = .returned (.int .i64 n42)) ∧
         (X.Kept L39 w38 w41) ∧
         (X.FactsW x37 w41 (L39)) ∧
         R (.returned (.int .i64 n42)) w41
       else
        if (a_5 != b_5) = true then
         ∃ x31 : X.Facts, (X.FactsW x31 w4 (L2)) ∧
         ∀ w32 : World, ∀ L33 : List Nat, (X.Hid (L2) w4 w32) →
         (X.NewL (w).heap.size (L2) w4 w32 L33) →
         X.CallX Try.prog 86 #[(.int .i64 (IntKind.wrap .i64 a_5)), (.int .i64 (IntKind.wrap .i64 b_5))] w32 fun e34 w35 =>
          ∃ n36 : Int, (e34 = .returned (.int .i64 n36)) ∧
          (X.Kept L33 w32 w35) ∧
          (X.FactsW x31 w35 (L33)) ∧
          R (.returned (.int .i64 n36)) w35
        else
         if (a_6 != b_6) = true then
          ∃ x25 : X.Facts, (X.FactsW x25 w4 (L2)) ∧
          ∀ w26 : World, ∀ L27 : List Nat, (X.Hid (L2) w4 w26) →
          (X.NewL (w).heap.size (L2) w4 w26 L27) →
          X.CallX Try.prog 86 #[(.int .i64 (IntKind.wrap .i64 a_6)), (.int .i64 (IntKind.wrap .i64 b_6))] w26 fun e28 w29 =>
           ∃ n30 : Int, (e28 = .returned (.int .i64 n30)) ∧
           (X.Kept L27 w26 w29) ∧
           (X.FactsW x25 w29 (L27)) ∧
           R (.returned (.int .i64 n30)) w29
         else
          if (a_7 != b_7) = true then
           ∃ x19 : X.Facts, (X.FactsW x19 w4 (L2)) ∧
           ∀ w20 : World, ∀ L21 : List Nat, (X.Hid (L2) w4 w20) →
           (X.NewL (w).heap.size (L2) w4 w20 L21) →
           X.CallX Try.prog 86 #[(.int .i64 (IntKind.wrap .i64 a_7)), (.int .i64 (IntKind.wrap .i64 b_7))] w20 fun e22 w23 =>
            ∃ n24 : Int, (e22 = .returned (.int .i64 n24)) ∧
            (X.Kept L21 w20 w23) ∧
            (X.FactsW x19 w23 (L21)) ∧
            R (.returned (.int .i64 n24)) w23
          else
           if (a_8 != b_8) = true then
            ∃ x13 : X.Facts, (X.FactsW x13 w4 (L2)) ∧
            ∀ w14 : World, ∀ L15 : List Nat, (X.Hid (L2) w4 w14) →
            (X.NewL (w).heap.size (L2) w4 w14 L15) →
            X.CallX Try.prog 86 #[(.int .i64 (IntKind.wrap .i64 a_8)), (.int .i64 (IntKind.wrap .i64 b_8))] w14 fun e16 w17 =>
             ∃ n18 : Int, (e16 = .returned (.int .i64 n18)) ∧
             (X.Kept L15 w14 w17) ∧
             (X.FactsW x13 w17 (L15)) ∧
             R (.returned (.int .i64 n18)) w17
           else
            if (a_9 != b_9) = true then
             ∃ x7 : X.Facts, (X.FactsW x7 w4 (L2)) ∧
             ∀ w8 : World, ∀ L9 : List Nat, (X.Hid (L2) w4 w8) →
             (X.NewL (w).heap.size (L2) w4 w8 L9) →
             X.CallX Try.prog 86 #[(.int .i64 (IntKind.wrap .i64 a_9)), (.int .i64 (IntKind.wrap .i64 b_9))] w8 fun e10 w11 =>
              ∃ n12 : Int, (e10 = .returned (.int .i64 n12)) ∧
              (X.Kept L9 w8 w11) ∧
              (X.FactsW x7 w11 (L9)) ∧
              R (.returned (.int .i64 n12)) w11
            else
             ∀ w6 : World, (X.Hid (L2) w4 w6) →
             R (.returned (.int .i64 0)) w6) :
    Calls Try.prog 69 #[.agg #[.int .u8 a_0, .int .u16 a_1, .int .u32 a_2, .int .u8 a_3, .int .u8 a_4, .int .u8 a_5, .int .u8 a_6, .int .u8 a_7, .int .u8 a_8, .int .u8 a_9], .agg #[.int .u8 b_0, .int .u16 b_1, .int .u32 b_2, .int .u8 b_3, .int .u8 b_4, .int .u8 b_5, .int .u8 b_6, .int .u8 b_7, .int .u8 b_8, .int .u8 b_9]] w R :=
  X.calls_of { isLoc := [2, 3], sym := [], loops := [(7, .unroll 4), (16, .unroll 4)], joins := [] } Try.func69 (by kernel_rfl) h
abbrev fn_gemotref02_Right : Nat := 48
theorem x_gemotref02_Right (a_0 a_1 a_2 a_3 a_4 a_5 a_6 a_7 a_8 a_9 : Int) (w : World) (R : Ending → World → Prop) (h :
  ∀ w1 : World, ∀ L2 : List Nat, (X.Hid [] w w1) →
  (X.NewL (w).heap.size [] w w1 L2) →
  X.CallX Try.prog 55 #[(.agg #[(.int .u8 a_0), (.int .u16 a_1)])] w1 fun e3 w4 =>
   ∃ b5 : Bool, (e3 = .returned (.bool b5)) ∧
   (X.Kept L2 w1 w4) ∧
   if ((((!b5) || decide (a_2 < 1)) || decide (a_2 > 1048576)) || decide (a_3 > 3)) = true then
    R (.returned (.bool false)) w4
   else
    if ((decide ((0 : Int) < (IntKind.wrap .i64 a_3)) && decide (a_4 ≥ 4)) || (decide ((0 : Int) ≥ (IntKind.wrap .i64 a_3)) && (!((a_4 == 0) && (a_5 == 0))))) = true then
     R (.returned (.bool false)) w4
    else
     if ((decide ((1 : Int) < (IntKind.wrap .i64 a_3)) && decide (a_6 ≥ 4)) || (decide ((1 : Int) ≥ (IntKind.wrap .i64 a_3)) && (!((a_6 == 0) && (a_7 == 0))))) = true then
      R (.returned (.bool false)) w4
     else
      if ((decide ((2 : Int) < (IntKind.wrap .i64 a_3)) && decide (a_8 ≥ 4)) || (decide ((2 : Int) ≥ (IntKind.wrap .i64 a_3)) && (!((a_8 == 0) && (a_9 == 0))))) = true then
       R (.returned (.bool false)) w4
      else
       R (.returned (.bool true)) w4) :
    Calls Try.prog 48 #[.agg #[.int .u8 a_0, .int .u16 a_1, .int .u32 a_2, .int .u8 a_3, .int .u8 a_4, .int .u8 a_5, .int .u8 a_6, .int .u8 a_7, .int .u8 a_8, .int .u8 a_9]] w R :=
  X.calls_of { isLoc := [1], sym := [], loops := [(4, .unroll 4)], joins := [] } Try.func48 (by kernel_rfl) h
abbrev fn_gemotref02_RightProc : Nat := 55
theorem x_gemotref02_RightProc (a_0 a_1 : Int) (w : World) (R : Ending → World → Prop) (h :
  ∀ w1 : World, (X.Hid [] w w1) →
  R (.returned (.bool (decide (a_0 < 16) && decide (a_1 ≥ 1)))) w1) :
    Calls Try.prog 55 #[.agg #[.int .u8 a_0, .int .u16 a_1]] w R :=
  X.calls_of { isLoc := [1], sym := [], loops := [], joins := [] } Try.func55 (by kernel_rfl) h
end Go.Proofs
