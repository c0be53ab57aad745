import Derived.Test.YtjphfelmaingjaaXFn
import Derived.Test.YtjphfelmaingjaaProg
set_option maxRecDepth 100000
set_option linter.unusedVariables false
/- The verification conditions of this seat's functions, as the engine has them: printed by a program of the bench; checked by the kernel. -/
namespace Go.Proofs
open Go
abbrev fn_mFields : Nat := 34
theorem x_mFields (a_0 a_1 a_2 a_3 a_4 a_5 a_6 a_7 a_8 a_9 a_10 a_11 a_12 a_13 a_14 a_15 a_16 a_17 a_18 : Int) (a_19 : Option Addr) (a_19l a_19c : Nat) (a_20 : Int) (a_21 : ByteArray) (a_22 a_23 : Int) (a_24 : Option Addr) (a_24l a_24c : Nat) (a_25 a_26 : Int) (a_27 : Bool) (a_28 : Option Addr) (a_28l a_28c : Nat) (a_29 : Option Addr) (a_29l a_29c : Nat) (a_30 : Option Addr) (a_30l a_30c : Nat) (w : World) (R : Ending → World → Prop) (h :
  if (a_0 == 0) = true then
   ∀ w150 : World, ∀ L151 : List Nat, (X.Hid [] w w150) →
   (X.NewL (w).heap.size [] w w150 L151) →
   X.CallX Try.prog 83 #[(.agg #[(.int .u8 a_0), (.int .u8 a_1), (.int .u8 a_2), (.int .u32 a_3), (.int .u32 a_4), (.int .u32 a_5), (.int .u32 a_6), (.int .u64 a_7), (.int .u64 a_8), (.int .u8 a_9), (.int .u16 a_10), (.int .u32 a_11), (.int .u8 a_12), (.int .u8 a_13), (.int .u8 a_14), (.int .u8 a_15), (.int .u8 a_16), (.int .u8 a_17), (.int .u8 a_18), (.slice (a_19) a_19l a_19c), (.int .u8 a_20), (.string a_21), (.int .u8 a_22), (.int .u32 a_23), (.slice (a_24) a_24l a_24c), (.int .u8 a_25), (.int .u16 a_26), (.bool a_27), (.slice (a_28) a_28l a_28c), (.slice (a_29) a_29l a_29c), (.slice (a_30) a_30l a_30c)])] w150 fun e152 w153 =>
    ∃ b154 : Bool, (e152 = .returned (.bool b154)) ∧
    (X.Kept L151 w150 w153) ∧
    R (.returned (.bool b154)) w153
  else
   if (a_0 == 1) = true then
    ∀ w139 : World, ∀ L140 : List Nat, (X.Hid [] w w139) →
    (X.NewL (w).heap.size [] w w139 L140) →
    X.CallX Try.prog 84 #[(.agg #[(.int .u8 a_9), (.int .u16 a_10), (.int .u32 a_11), (.int .u8 a_12), (.int .u8 a_13), (.int .u8 a_14), (.int .u8 a_15), (.int .u8 a_16), (.int .u8 a_17), (.int .u8 a_18)])] w139 fun e141 w142 =>
     ∃ b143 : Bool, (e141 = .returned (.bool b143)) ∧
     (X.Kept L140 w139 w142) ∧
     if (b143 == true) = true then
      X.CallX Try.prog 85 #[(.agg #[(.int .u8 a_20), (.string a_21)])] w142 fun e144 w145 =>
       ∃ b146 : Bool, (e144 = .returned (.bool b146)) ∧
       (X.Kept L140 w142 w145) ∧
       if ((true && b146) == true) = true then
        X.CallX Try.prog 86 #[(.agg #[(.int .u8 a_22), (.int .u32 a_23), (.slice (a_24) a_24l a_24c)])] w145 fun e147 w148 =>
         ∃ b149 : Bool, (e147 = .returned (.bool b149)) ∧
         (X.Kept L140 w145 w148) ∧
         R (.returned (.bool (true && b149))) w148
       else
        R (.returned (.bool false)) w145
     else
      R (.returned (.bool false)) w142
   else
    if (a_0 == 2) = true then
     ∀ w134 : World, ∀ L135 : List Nat, (X.Hid [] w w134) →
     (X.NewL (w).heap.size [] w w134 L135) →
     X.CallX Try.prog 84 #[(.agg #[(.int .u8 a_9), (.int .u16 a_10), (.int .u32 a_11), (.int .u8 a_12), (.int .u8 a_13), (.int .u8 a_14), (.int .u8 a_15), (.int .u8 a_16), (.int .u8 a_17), (.int .u8 a_18)])] w134 fun e136 w137 =>
      ∃ b138 : Bool, (e136 = .returned (.bool b138)) ∧
      (X.Kept L135 w134 w137) ∧
      R (.returned (.bool b138)) w137
    else
     if (a_0 == 3) = true then
      if ((((decide (a_3 > 0) && decide (a_4 ≤ 400)) && decide (a_5 ≤ 400)) && decide ((IntKind.wrap .i64 ((IntKind.wrap .i64 a_4) + ((a_29l : Nat) : Int))) ≤ 400)) == true) = true then
       ∀ w129 : World, ∀ L130 : List Nat, (X.Hid [] w w129) →
       (X.NewL (w).heap.size [] w w129 L130) →
       X.CallX Try.prog 87 #[(.slice (a_29) a_29l a_29c), (.int .u8 a_1)] w129 fun e131 w132 =>
        ∃ b133 : Bool, (e131 = .returned (.bool b133)) ∧
        (X.Kept L130 w129 w132) ∧
        R (.returned (.bool (true && b133))) w132
      else
       ∀ w128 : World, (X.Hid [] w w128) →
       R (.returned (.bool false)) w128
     else
      if (a_0 == 4) = true then
       ∀ w127 : World, (X.Hid [] w w127) →
       R (.returned (.bool (decide (a_3 > 0) && decide (a_4 ≤ 400)))) w127
      else
       if (a_0 == 5) = true then
        if (a_0 == 5) = true then
         ∀ w126 : World, (X.Hid [] w w126) →
         R (.returned (.bool (decide (a_3 > 0) && decide (a_7 > 0)))) w126
        else
         if (a_0 == 8) = true then
          if ((decide (a_3 > 0) && decide (a_7 > 0)) == true) = true then
           ∀ w118 : World, ∀ L119 : List Nat, (X.Hid [] w w118) →
           (X.NewL (w).heap.size [] w w118 L119) →
           X.CallX Try.prog 87 #[(.slice (a_29) a_29l a_29c), (.int .u8 a_1)] w118 fun e120 w121 =>
            ∃ b122 : Bool, (e120 = .returned (.bool b122)) ∧
            (X.Kept L119 w118 w121) ∧
            if ((true && b122) == true) = true then
             if ((!a_27) == false) = true then
              if ((decide (a_8 > 0)) == true) = true then
               X.CallX Try.prog 88 #[(.agg #[(.int .u8 a_0), (.int .u8 a_1), (.int .u8 a_2), (.int .u32 a_3), (.int .u32 a_4), (.int .u32 a_5), (.int .u32 a_6), (.int .u64 a_7), (.int .u64 a_8), (.int .u8 a_9), (.int .u16 a_10), (.int .u32 a_11), (.int .u8 a_12), (.int .u8 a_13), (.int .u8 a_14), (.int .u8 a_15), (.int .u8 a_16), (.int .u8 a_17), (.int .u8 a_18), (.slice (a_19) a_19l a_19c), (.int .u8 a_20), (.string a_21), (.int .u8 a_22), (.int .u32 a_23), (.slice (a_24) a_24l a_24c), (.int .u8 a_25), (.int .u16 a_26), (.bool a_27), (.slice (a_28) a_28l a_28c), (.slice (a_29) a_29l a_29c), (.slice (a_30) a_30l a_30c)])] w121 fun e123 w124 =>
                ∃ b125 : Bool, (e123 = .returned (.bool b125)) ∧
                (X.Kept L119 w121 w124) ∧
                R (.returned (.bool (true && (false || (true && b125))))) w124
              else
               R (.returned (.bool false)) w121
             else
              R (.returned (.bool true)) w121
            else
             R (.returned (.bool false)) w121
          else
           ∀ w117 : World, (X.Hid [] w w117) →
           R (.returned (.bool false)) w117
         else
          if (a_0 == 9) = true then
           if ((decide (a_3 > 0) && decide (a_7 > 0)) == true) = true then
            ∀ w112 : World, ∀ L113 : List Nat, (X.Hid [] w w112) →
            (X.NewL (w).heap.size [] w w112 L113) →
            X.CallX Try.prog 88 #[(.agg #[(.int .u8 a_0), (.int .u8 a_1), (.int .u8 a_2), (.int .u32 a_3), (.int .u32 a_4), (.int .u32 a_5), (.int .u32 a_6), (.int .u64 a_7), (.int .u64 a_8), (.int .u8 a_9), (.int .u16 a_10), (.int .u32 a_11), (.int .u8 a_12), (.int .u8 a_13), (.int .u8 a_14), (.int .u8 a_15), (.int .u8 a_16), (.int .u8 a_17), (.int .u8 a_18), (.slice (a_19) a_19l a_19c), (.int .u8 a_20), (.string a_21), (.int .u8 a_22), (.int .u32 a_23), (.slice (a_24) a_24l a_24c), (.int .u8 a_25), (.int .u16 a_26), (.bool a_27), (.slice (a_28) a_28l a_28c), (.slice (a_29) a_29l a_29c), (.slice (a_30) a_30l a_30c)])] w112 fun e114 w115 =>
             ∃ b116 : Bool, (e114 = .returned (.bool b116)) ∧
             (X.Kept L113 w112 w115) ∧
             R (.returned (.bool (true && b116))) w115
           else
            ∀ w111 : World, (X.Hid [] w w111) →
            R (.returned (.bool false)) w111
          else
           if (a_0 == 10) = true then
            ∀ w103 : World, ∀ L104 : List Nat, (X.Hid [] w w103) →
            (X.NewL (w).heap.size [] w w103 L104) →
            X.CallX Try.prog 86 #[(.agg #[(.int .u8 a_22), (.int .u32 a_23), (.slice (a_24) a_24l a_24c)])] w103 fun e105 w106 =>
             ∃ b107 : Bool, (e105 = .returned (.bool b107)) ∧
             (X.Kept L104 w103 w106) ∧
             if (b107 == true) = true then
              X.CallX Try.prog 87 #[(.slice (a_29) a_29l a_29c), (.int .u8 a_22)] w106 fun e108 w109 =>
               ∃ b110 : Bool, (e108 = .returned (.bool b110)) ∧
               (X.Kept L104 w106 w109) ∧
               R (.returned (.bool (true && b110))) w109
             else
              R (.returned (.bool false)) w106
           else
            if (a_0 == 11) = true then
             if (a_0 == 11) = true then
              ∀ w98 : World, ∀ L99 : List Nat, (X.Hid [] w w98) →
              (X.NewL (w).heap.size [] w w98 L99) →
              X.CallX Try.prog 52 #[(.agg #[(.int .u8 a_25), (.int .u16 a_26)])] w98 fun e100 w101 =>
               ∃ b102 : Bool, (e100 = .returned (.bool b102)) ∧
               (X.Kept L99 w98 w101) ∧
               R (.returned (.bool b102)) w101
             else
              ∀ w97 : World, (X.Hid [] w w97) →
              R (.returned (.bool false)) w97
            else
             if (a_0 == 12) = true then
              if (a_0 == 12) = true then
               ∀ w92 : World, ∀ L93 : List Nat, (X.Hid [] w w92) →
               (X.NewL (w).heap.size [] w w92 L93) →
               X.CallX Try.prog 52 #[(.agg #[(.int .u8 a_25), (.int .u16 a_26)])] w92 fun e94 w95 =>
                ∃ b96 : Bool, (e94 = .returned (.bool b96)) ∧
                (X.Kept L93 w92 w95) ∧
                R (.returned (.bool b96)) w95
              else
               ∀ w91 : World, (X.Hid [] w w91) →
               R (.returned (.bool false)) w91
             else
              if (a_0 == 13) = true then
               ∀ w86 : World, ∀ L87 : List Nat, (X.Hid [] w w86) →
               (X.NewL (w).heap.size [] w w86 L87) →
               X.CallX Try.prog 52 #[(.agg #[(.int .u8 a_25), (.int .u16 a_26)])] w86 fun e88 w89 =>
                ∃ b90 : Bool, (e88 = .returned (.bool b90)) ∧
                (X.Kept L87 w86 w89) ∧
                R (.returned (.bool b90)) w89
              else
               ∀ w85 : World, (X.Hid [] w w85) →
               R (.returned (.bool false)) w85
       else
        if (a_0 == 6) = true then
         if (a_0 == 6) = true then
          ∀ w84 : World, (X.Hid [] w w84) →
          R (.returned (.bool (decide (a_3 > 0) && decide (a_7 > 0)))) w84
         else
          if (a_0 == 8) = true then
           if ((decide (a_3 > 0) && decide (a_7 > 0)) == true) = true then
            ∀ w76 : World, ∀ L77 : List Nat, (X.Hid [] w w76) →
            (X.NewL (w).heap.size [] w w76 L77) →
            X.CallX Try.prog 87 #[(.slice (a_29) a_29l a_29c), (.int .u8 a_1)] w76 fun e78 w79 =>
             ∃ b80 : Bool, (e78 = .returned (.bool b80)) ∧
             (X.Kept L77 w76 w79) ∧
             if ((true && b80) == true) = true then
              if ((!a_27) == false) = true then
               if ((decide (a_8 > 0)) == true) = true then
                X.CallX Try.prog 88 #[(.agg #[(.int .u8 a_0), (.int .u8 a_1), (.int .u8 a_2), (.int .u32 a_3), (.int .u32 a_4), (.int .u32 a_5), (.int .u32 a_6), (.int .u64 a_7), (.int .u64 a_8), (.int .u8 a_9), (.int .u16 a_10), (.int .u32 a_11), (.int .u8 a_12), (.int .u8 a_13), (.int .u8 a_14), (.int .u8 a_15), (.int .u8 a_16), (.int .u8 a_17), (.int .u8 a_18), (.slice (a_19) a_19l a_19c), (.int .u8 a_20), (.string a_21), (.int .u8 a_22), (.int .u32 a_23), (.slice (a_24) a_24l a_24c), (.int .u8 a_25), (.int .u16 a_26), (.bool a_27), (.slice (a_28) a_28l a_28c), (.slice (a_29) a_29l a_29c), (.slice (a_30) a_30l a_30c)])] w79 fun e81 w82 =>
                 ∃ b83 : Bool, (e81 = .returned (.bool b83)) ∧
                 (X.Kept L77 w79 w82) ∧
                 R (.returned (.bool (true && (false || (true && b83))))) w82
               else
                R (.returned (.bool false)) w79
              else
               R (.returned (.bool true)) w79
             else
              R (.returned (.bool false)) w79
           else
            ∀ w75 : World, (X.Hid [] w w75) →
            R (.returned (.bool false)) w75
          else
           if (a_0 == 9) = true then
            if ((decide (a_3 > 0) && decide (a_7 > 0)) == true) = true then
             ∀ w70 : World, ∀ L71 : List Nat, (X.Hid [] w w70) →
             (X.NewL (w).heap.size [] w w70 L71) →
             X.CallX Try.prog 88 #[(.agg #[(.int .u8 a_0), (.int .u8 a_1), (.int .u8 a_2), (.int .u32 a_3), (.int .u32 a_4), (.int .u32 a_5), (.int .u32 a_6), (.int .u64 a_7), (.int .u64 a_8), (.int .u8 a_9), (.int .u16 a_10), (.int .u32 a_11), (.int .u8 a_12), (.int .u8 a_13), (.int .u8 a_14), (.int .u8 a_15), (.int .u8 a_16), (.int .u8 a_17), (.int .u8 a_18), (.slice (a_19) a_19l a_19c), (.int .u8 a_20), (.string a_21), (.int .u8 a_22), (.int .u32 a_23), (.slice (a_24) a_24l a_24c), (.int .u8 a_25), (.int .u16 a_26), (.bool a_27), (.slice (a_28) a_28l a_28c), (.slice (a_29) a_29l a_29c), (.slice (a_30) a_30l a_30c)])] w70 fun e72 w73 =>
              ∃ b74 : Bool, (e72 = .returned (.bool b74)) ∧
              (X.Kept L71 w70 w73) ∧
              R (.returned (.bool (true && b74))) w73
            else
             ∀ w69 : World, (X.Hid [] w w69) →
             R (.returned (.bool false)) w69
           else
            if (a_0 == 10) = true then
             ∀ w61 : World, ∀ L62 : List Nat, (X.Hid [] w w61) →
             (X.NewL (w).heap.size [] w w61 L62) →
             X.CallX Try.prog 86 #[(.agg #[(.int .u8 a_22), (.int .u32 a_23), (.slice (a_24) a_24l a_24c)])] w61 fun e63 w64 =>
              ∃ b65 : Bool, (e63 = .returned (.bool b65)) ∧
              (X.Kept L62 w61 w64) ∧
              if (b65 == true) = true then
               X.CallX Try.prog 87 #[(.slice (a_29) a_29l a_29c), (.int .u8 a_22)] w64 fun e66 w67 =>
                ∃ b68 : Bool, (e66 = .returned (.bool b68)) ∧
                (X.Kept L62 w64 w67) ∧
                R (.returned (.bool (true && b68))) w67
              else
               R (.returned (.bool false)) w64
            else
             if (a_0 == 11) = true then
              if (a_0 == 11) = true then
               ∀ w56 : World, ∀ L57 : List Nat, (X.Hid [] w w56) →
               (X.NewL (w).heap.size [] w w56 L57) →
               X.CallX Try.prog 52 #[(.agg #[(.int .u8 a_25), (.int .u16 a_26)])] w56 fun e58 w59 =>
                ∃ b60 : Bool, (e58 = .returned (.bool b60)) ∧
                (X.Kept L57 w56 w59) ∧
                R (.returned (.bool b60)) w59
              else
               ∀ w55 : World, (X.Hid [] w w55) →
               R (.returned (.bool false)) w55
             else
              if (a_0 == 12) = true then
               if (a_0 == 12) = true then
                ∀ w50 : World, ∀ L51 : List Nat, (X.Hid [] w w50) →
                (X.NewL (w).heap.size [] w w50 L51) →
                X.CallX Try.prog 52 #[(.agg #[(.int .u8 a_25), (.int .u16 a_26)])] w50 fun e52 w53 =>
                 ∃ b54 : Bool, (e52 = .returned (.bool b54)) ∧
                 (X.Kept L51 w50 w53) ∧
                 R (.returned (.bool b54)) w53
               else
                ∀ w49 : World, (X.Hid [] w w49) →
                R (.returned (.bool false)) w49
              else
               if (a_0 == 13) = true then
                ∀ w44 : World, ∀ L45 : List Nat, (X.Hid [] w w44) →
                (X.NewL (w).heap.size [] w w44 L45) →
                X.CallX Try.prog 52 #[(.agg #[(.int .u8 a_25), (.int .u16 a_26)])] w44 fun e46 w47 =>
                 ∃ b48 : Bool, (e46 = .returned (.bool b48)) ∧
                 (X.Kept L45 w44 w47) ∧
                 R (.returned (.bool b48)) w47
               else
                ∀ w43 : World, (X.Hid [] w w43) →
                R (.returned (.bool false)) w43
        else
         if (a_0 == 7) = true then
          ∀ w42 : World, (X.Hid [] w w42) →
          R (.returned (.bool (decide (a_3 > 0) && decide (a_7 > 0)))) w42
         else
          if (a_0 == 8) = true then
           if ((decide (a_3 > 0) && decide (a_7 > 0)) == true) = true then
            ∀ w34 : World, ∀ L35 : List Nat, (X.Hid [] w w34) →
            (X.NewL (w).heap.size [] w w34 L35) →
            X.CallX Try.prog 87 #[(.slice (a_29) a_29l a_29c), (.int .u8 a_1)] w34 fun e36 w37 =>
             ∃ b38 : Bool, (e36 = .returned (.bool b38)) ∧
             (X.Kept L35 w34 w37) ∧
             if ((true && b38) == true) = true then
              if ((!a_27) == false) = true then
               if ((decide (a_8 > 0)) == true) = true then
                X.CallX Try.prog 88 #[(.agg #[(.int .u8 a_0), (.int .u8 a_1), (.int .u8 a_2), (.int .u32 a_3), (.int .u32 a_4), (.int .u32 a_5), (.int .u32 a_6), (.int .u64 a_7), (.int .u64 a_8), (.int .u8 a_9), (.int .u16 a_10), (.int .u32 a_11), (.int .u8 a_12), (.int .u8 a_13), (.int .u8 a_14), (.int .u8 a_15), (.int .u8 a_16), (.int .u8 a_17), (.int .u8 a_18), (.slice (a_19) a_19l a_19c), (.int .u8 a_20), (.string a_21), (.int .u8 a_22), (.int .u32 a_23), (.slice (a_24) a_24l a_24c), (.int .u8 a_25), (.int .u16 a_26), (.bool a_27), (.slice (a_28) a_28l a_28c), (.slice (a_29) a_29l a_29c), (.slice (a_30) a_30l a_30c)])] w37 fun e39 w40 =>
                 ∃ b41 : Bool, (e39 = .returned (.bool b41)) ∧
                 (X.Kept L35 w37 w40) ∧
                 R (.returned (.bool (true && (false || (true && b41))))) w40
               else
                R (.returned (.bool false)) w37
              else
               R (.returned (.bool true)) w37
             else
              R (.returned (.bool false)) w37
           else
            ∀ w33 : World, (X.Hid [] w w33) →
            R (.returned (.bool false)) w33
          else
           if (a_0 == 9) = true then
            if ((decide (a_3 > 0) && decide (a_7 > 0)) == true) = true then
             ∀ w28 : World, ∀ L29 : List Nat, (X.Hid [] w w28) →
             (X.NewL (w).heap.size [] w w28 L29) →
             X.CallX Try.prog 88 #[(.agg #[(.int .u8 a_0), (.int .u8 a_1), (.int .u8 a_2), (.int .u32 a_3), (.int .u32 a_4), (.int .u32 a_5), (.int .u32 a_6), (.int .u64 a_7), (.int .u64 a_8), (.int .u8 a_9), (.int .u16 a_10), (.int .u32 a_11), (.int .u8 a_12), (.int .u8 a_13), (.int .u8 a_14), (.int .u8 a_15), (.int .u8 a_16), (.int .u8 a_17), (.int .u8 a_18), (.slice (a_19) a_19l a_19c), (.int .u8 a_20), (.string a_21), (.int .u8 a_22), (.int .u32 a_23), (.slice (a_24) a_24l a_24c), (.int .u8 a_25), (.int .u16 a_26), (.bool a_27), (.slice (a_28) a_28l a_28c), (.slice (a_29) a_29l a_29c), (.slice (a_30) a_30l a_30c)])] w28 fun e30 w31 =>
              ∃ b32 : Bool, (e30 = .returned (.bool b32)) ∧
              (X.Kept L29 w28 w31) ∧
              R (.returned (.bool (true && b32))) w31
            else
             ∀ w27 : World, (X.Hid [] w w27) →
             R (.returned (.bool false)) w27
           else
            if (a_0 == 10) = true then
             ∀ w19 : World, ∀ L20 : List Nat, (X.Hid [] w w19) →
             (X.NewL (w).heap.size [] w w19 L20) →
             X.CallX Try.prog 86 #[(.agg #[(.int .u8 a_22), (.int .u32 a_23), (.slice (a_24) a_24l a_24c)])] w19 fun e21 w22 =>
              ∃ b23 : Bool, (e21 = .returned (.bool b23)) ∧
              (X.Kept L20 w19 w22) ∧
              if (b23 == true) = true then
               X.CallX Try.prog 87 #[(.slice (a_29) a_29l a_29c), (.int .u8 a_22)] w22 fun e24 w25 =>
                ∃ b26 : Bool, (e24 = .returned (.bool b26)) ∧
                (X.Kept L20 w22 w25) ∧
                R (.returned (.bool (true && b26))) w25
              else
               R (.returned (.bool false)) w22
            else
             if (a_0 == 11) = true then
              if (a_0 == 11) = true then
               ∀ w14 : World, ∀ L15 : List Nat, (X.Hid [] w w14) →
               (X.NewL (w).heap.size [] w w14 L15) →
               X.CallX Try.prog 52 #[(.agg #[(.int .u8 a_25), (.int .u16 a_26)])] w14 fun e16 w17 =>
                ∃ b18 : Bool, (e16 = .returned (.bool b18)) ∧
                (X.Kept L15 w14 w17) ∧
                R (.returned (.bool b18)) w17
              else
               ∀ w13 : World, (X.Hid [] w w13) →
               R (.returned (.bool false)) w13
             else
              if (a_0 == 12) = true then
               if (a_0 == 12) = true then
                ∀ w8 : World, ∀ L9 : List Nat, (X.Hid [] w w8) →
                (X.NewL (w).heap.size [] w w8 L9) →
                X.CallX Try.prog 52 #[(.agg #[(.int .u8 a_25), (.int .u16 a_26)])] w8 fun e10 w11 =>
                 ∃ b12 : Bool, (e10 = .returned (.bool b12)) ∧
                 (X.Kept L9 w8 w11) ∧
                 R (.returned (.bool b12)) w11
               else
                ∀ w7 : World, (X.Hid [] w w7) →
                R (.returned (.bool false)) w7
              else
               if (a_0 == 13) = true then
                ∀ w2 : World, ∀ L3 : List Nat, (X.Hid [] w w2) →
                (X.NewL (w).heap.size [] w w2 L3) →
                X.CallX Try.prog 52 #[(.agg #[(.int .u8 a_25), (.int .u16 a_26)])] w2 fun e4 w5 =>
                 ∃ b6 : Bool, (e4 = .returned (.bool b6)) ∧
                 (X.Kept L3 w2 w5) ∧
                 R (.returned (.bool b6)) w5
               else
                ∀ w1 : World, (X.Hid [] w w1) →
                R (.returned (.bool false)) w1) :
    Calls Try.prog 34 #[.agg #[.int .u8 a_0, .int .u8 a_1, .int .u8 a_2, .int .u32 a_3, .int .u32 a_4, .int .u32 a_5, .int .u32 a_6, .int .u64 a_7, .int .u64 a_8, .int .u8 a_9, .int .u16 a_10, .int .u32 a_11, .int .u8 a_12, .int .u8 a_13, .int .u8 a_14, .int .u8 a_15, .int .u8 a_16, .int .u8 a_17, .int .u8 a_18, .slice a_19 a_19l a_19c, .int .u8 a_20, .string a_21, .int .u8 a_22, .int .u32 a_23, .slice a_24 a_24l a_24c, .int .u8 a_25, .int .u16 a_26, .bool a_27, .slice a_28 a_28l a_28c, .slice a_29 a_29l a_29c, .slice a_30 a_30l a_30c]] w R :=
  X.calls_of { isLoc := [1], sym := [], loops := [], joins := [] } Try.func34 (by kernel_rfl) h
abbrev fn_mOnly : Nat := 35
theorem x_mOnly (a_0 a_1 a_2 a_3 a_4 a_5 a_6 a_7 a_8 a_9 a_10 a_11 a_12 a_13 a_14 a_15 a_16 a_17 a_18 : Int) (a_19 : Option Addr) (a_19l a_19c : Nat) (a_20 : Int) (a_21 : ByteArray) (a_22 a_23 : Int) (a_24 : Option Addr) (a_24l a_24c : Nat) (a_25 a_26 : Int) (a_27 : Bool) (a_28 : Option Addr) (a_28l a_28c : Nat) (a_29 : Option Addr) (a_29l a_29c : Nat) (a_30 : Option Addr) (a_30l a_30c : Nat) (w : World) (R : Ending → World → Prop) (h :
  if (a_0 == 0) = true then
   ∃ x44 : X.Facts, (X.FactsW x44 w []) ∧
   ∀ w45 : World, (X.Hid [] w w45) →
   R (.returned (.agg #[(.int .u8 a_0), (.int .u8 a_1), (.int .u8 0), (.int .u32 0), (.int .u32 0), (.int .u32 0), (.int .u32 a_6), (.int .u64 0), (.int .u64 0), (.int .u8 a_9), (.int .u16 a_10), (.int .u32 a_11), (.int .u8 a_12), (.int .u8 a_13), (.int .u8 a_14), (.int .u8 a_15), (.int .u8 a_16), (.int .u8 a_17), (.int .u8 a_18), (.slice (a_19) a_19l a_19c), (.int .u8 0), (.string (ByteArray.mk #[])), (.int .u8 0), (.int .u32 0), (.slice none 0 0), (.int .u8 0), (.int .u16 0), (.bool false), (.slice none 0 0), (.slice none 0 0), (.slice none 0 0)])) w45
  else
   if (a_0 == 1) = true then
    ∀ w43 : World, (X.Hid [] w w43) →
    R (.returned (.agg #[(.int .u8 a_0), (.int .u8 0), (.int .u8 0), (.int .u32 0), (.int .u32 0), (.int .u32 0), (.int .u32 0), (.int .u64 0), (.int .u64 0), (.int .u8 a_9), (.int .u16 a_10), (.int .u32 a_11), (.int .u8 a_12), (.int .u8 a_13), (.int .u8 a_14), (.int .u8 a_15), (.int .u8 a_16), (.int .u8 a_17), (.int .u8 a_18), (.slice none 0 0), (.int .u8 a_20), (.string a_21), (.int .u8 a_22), (.int .u32 a_23), (.slice (a_24) a_24l a_24c), (.int .u8 0), (.int .u16 0), (.bool false), (.slice none 0 0), (.slice none 0 0), (.slice none 0 0)])) w43
   else
    if (a_0 == 2) = true then
     ∀ w42 : World, (X.Hid [] w w42) →
     R (.returned (.agg #[(.int .u8 a_0), (.int .u8 0), (.int .u8 a_2), (.int .u32 0), (.int .u32 0), (.int .u32 0), (.int .u32 0), (.int .u64 0), (.int .u64 0), (.int .u8 a_9), (.int .u16 a_10), (.int .u32 a_11), (.int .u8 a_12), (.int .u8 a_13), (.int .u8 a_14), (.int .u8 a_15), (.int .u8 a_16), (.int .u8 a_17), (.int .u8 a_18), (.slice none 0 0), (.int .u8 0), (.string (ByteArray.mk #[])), (.int .u8 0), (.int .u32 0), (.slice none 0 0), (.int .u8 0), (.int .u16 0), (.bool false), (.slice none 0 0), (.slice none 0 0), (.slice none 0 0)])) w42
    else
     if (a_0 == 3) = true then
      ∃ x39 : X.Facts, (X.FactsW x39 w []) ∧
      ∃ x40 : X.Facts, (X.FactsW x40 w []) ∧
      ∀ w41 : World, (X.Hid [] w w41) →
      R (.returned (.agg #[(.int .u8 a_0), (.int .u8 a_1), (.int .u8 0), (.int .u32 a_3), (.int .u32 a_4), (.int .u32 a_5), (.int .u32 0), (.int .u64 0), (.int .u64 0), (.int .u8 0), (.int .u16 0), (.int .u32 0), (.int .u8 0), (.int .u8 0), (.int .u8 0), (.int .u8 0), (.int .u8 0), (.int .u8 0), (.int .u8 0), (.slice none 0 0), (.int .u8 0), (.string (ByteArray.mk #[])), (.int .u8 0), (.int .u32 0), (.slice none 0 0), (.int .u8 0), (.int .u16 0), (.bool false), (.slice none 0 0), (.slice (a_29) a_29l a_29c), (.slice none 0 0)])) w41
     else
      if (a_0 == 4) = true then
       ∃ x37 : X.Facts, (X.FactsW x37 w []) ∧
       ∀ w38 : World, (X.Hid [] w w38) →
       R (.returned (.agg #[(.int .u8 a_0), (.int .u8 a_1), (.int .u8 0), (.int .u32 a_3), (.int .u32 a_4), (.int .u32 0), (.int .u32 0), (.int .u64 0), (.int .u64 0), (.int .u8 0), (.int .u16 0), (.int .u32 0), (.int .u8 0), (.int .u8 0), (.int .u8 0), (.int .u8 0), (.int .u8 0), (.int .u8 0), (.int .u8 0), (.slice none 0 0), (.int .u8 0), (.string (ByteArray.mk #[])), (.int .u8 0), (.int .u32 0), (.slice none 0 0), (.int .u8 0), (.int .u16 0), (.bool false), (.slice none 0 0), (.slice none 0 0), (.slice none 0 0)])) w38
      else
       if (a_0 == 8) = true then
        ∃ x31 : X.Facts, (X.FactsW x31 w []) ∧
        if a_27 = true then
         ∃ x34 : X.Facts, (X.FactsW x34 w []) ∧
         ∃ x35 : X.Facts, (X.FactsW x35 w []) ∧
         ∀ w36 : World, (X.Hid [] w w36) →
         R (.returned (.agg #[(.int .u8 a_0), (.int .u8 a_1), (.int .u8 0), (.int .u32 a_3), (.int .u32 0), (.int .u32 0), (.int .u32 0), (.int .u64 a_7), (.int .u64 a_8), (.int .u8 0), (.int .u16 0), (.int .u32 0), (.int .u8 0), (.int .u8 0), (.int .u8 0), (.int .u8 0), (.int .u8 0), (.int .u8 0), (.int .u8 0), (.slice none 0 0), (.int .u8 0), (.string (ByteArray.mk #[])), (.int .u8 0), (.int .u32 0), (.slice none 0 0), (.int .u8 0), (.int .u16 0), (.bool a_27), (.slice (a_28) a_28l a_28c), (.slice (a_29) a_29l a_29c), (.slice (a_30) a_30l a_30c)])) w36
        else
         ∃ x32 : X.Facts, (X.FactsW x32 w []) ∧
         ∀ w33 : World, (X.Hid [] w w33) →
         R (.returned (.agg #[(.int .u8 a_0), (.int .u8 a_1), (.int .u8 0), (.int .u32 a_3), (.int .u32 0), (.int .u32 0), (.int .u32 0), (.int .u64 a_7), (.int .u64 0), (.int .u8 0), (.int .u16 0), (.int .u32 0), (.int .u8 0), (.int .u8 0), (.int .u8 0), (.int .u8 0), (.int .u8 0), (.int .u8 0), (.int .u8 0), (.slice none 0 0), (.int .u8 0), (.string (ByteArray.mk #[])), (.int .u8 0), (.int .u32 0), (.slice none 0 0), (.int .u8 0), (.int .u16 0), (.bool a_27), (.slice none 0 0), (.slice (a_29) a_29l a_29c), (.slice none 0 0)])) w33
       else
        if (a_0 == 9) = true then
         ∃ x28 : X.Facts, (X.FactsW x28 w []) ∧
         ∃ x29 : X.Facts, (X.FactsW x29 w []) ∧
         ∀ w30 : World, (X.Hid [] w w30) →
         R (.returned (.agg #[(.int .u8 a_0), (.int .u8 a_1), (.int .u8 0), (.int .u32 a_3), (.int .u32 0), (.int .u32 0), (.int .u32 0), (.int .u64 a_7), (.int .u64 0), (.int .u8 0), (.int .u16 0), (.int .u32 0), (.int .u8 0), (.int .u8 0), (.int .u8 0), (.int .u8 0), (.int .u8 0), (.int .u8 0), (.int .u8 0), (.slice none 0 0), (.int .u8 0), (.string (ByteArray.mk #[])), (.int .u8 0), (.int .u32 0), (.slice none 0 0), (.int .u8 0), (.int .u16 0), (.bool false), (.slice (a_28) a_28l a_28c), (.slice none 0 0), (.slice (a_30) a_30l a_30c)])) w30
        else
         if (a_0 == 5) = true then
          if (a_0 == 5) = true then
           ∃ x26 : X.Facts, (X.FactsW x26 w []) ∧
           ∀ w27 : World, (X.Hid [] w w27) →
           R (.returned (.agg #[(.int .u8 a_0), (.int .u8 a_1), (.int .u8 0), (.int .u32 a_3), (.int .u32 0), (.int .u32 0), (.int .u32 0), (.int .u64 a_7), (.int .u64 0), (.int .u8 0), (.int .u16 0), (.int .u32 0), (.int .u8 0), (.int .u8 0), (.int .u8 0), (.int .u8 0), (.int .u8 0), (.int .u8 0), (.int .u8 0), (.slice none 0 0), (.int .u8 0), (.string (ByteArray.mk #[])), (.int .u8 0), (.int .u32 0), (.slice none 0 0), (.int .u8 0), (.int .u16 0), (.bool false), (.slice none 0 0), (.slice none 0 0), (.slice none 0 0)])) w27
          else
           if (a_0 == 10) = true then
            ∀ w25 : World, (X.Hid [] w w25) →
            R (.returned (.agg #[(.int .u8 a_0), (.int .u8 0), (.int .u8 0), (.int .u32 0), (.int .u32 0), (.int .u32 0), (.int .u32 0), (.int .u64 0), (.int .u64 0), (.int .u8 0), (.int .u16 0), (.int .u32 0), (.int .u8 0), (.int .u8 0), (.int .u8 0), (.int .u8 0), (.int .u8 0), (.int .u8 0), (.int .u8 0), (.slice none 0 0), (.int .u8 0), (.string (ByteArray.mk #[])), (.int .u8 a_22), (.int .u32 a_23), (.slice (a_24) a_24l a_24c), (.int .u8 0), (.int .u16 0), (.bool false), (.slice none 0 0), (.slice (a_29) a_29l a_29c), (.slice none 0 0)])) w25
           else
            if (a_0 == 11) = true then
             if (a_0 == 11) = true then
              ∀ w24 : World, (X.Hid [] w w24) →
              R (.returned (.agg #[(.int .u8 a_0), (.int .u8 a_1), (.int .u8 0), (.int .u32 0), (.int .u32 0), (.int .u32 0), (.int .u32 0), (.int .u64 0), (.int .u64 0), (.int .u8 0), (.int .u16 0), (.int .u32 0), (.int .u8 0), (.int .u8 0), (.int .u8 0), (.int .u8 0), (.int .u8 0), (.int .u8 0), (.int .u8 0), (.slice none 0 0), (.int .u8 0), (.string (ByteArray.mk #[])), (.int .u8 0), (.int .u32 0), (.slice none 0 0), (.int .u8 a_25), (.int .u16 a_26), (.bool false), (.slice none 0 0), (.slice none 0 0), (.slice none 0 0)])) w24
             else
              ∀ w23 : World, (X.Hid [] w w23) →
              R (.returned (.agg #[(.int .u8 a_0), (.int .u8 a_1), (.int .u8 0), (.int .u32 0), (.int .u32 0), (.int .u32 0), (.int .u32 0), (.int .u64 0), (.int .u64 0), (.int .u8 0), (.int .u16 0), (.int .u32 0), (.int .u8 0), (.int .u8 0), (.int .u8 0), (.int .u8 0), (.int .u8 0), (.int .u8 0), (.int .u8 0), (.slice none 0 0), (.int .u8 0), (.string (ByteArray.mk #[])), (.int .u8 0), (.int .u32 0), (.slice none 0 0), (.int .u8 0), (.int .u16 0), (.bool false), (.slice none 0 0), (.slice none 0 0), (.slice none 0 0)])) w23
            else
             if (a_0 == 12) = true then
              if (a_0 == 12) = true then
               ∀ w22 : World, (X.Hid [] w w22) →
               R (.returned (.agg #[(.int .u8 a_0), (.int .u8 a_1), (.int .u8 0), (.int .u32 0), (.int .u32 0), (.int .u32 0), (.int .u32 0), (.int .u64 0), (.int .u64 0), (.int .u8 0), (.int .u16 0), (.int .u32 0), (.int .u8 0), (.int .u8 0), (.int .u8 0), (.int .u8 0), (.int .u8 0), (.int .u8 0), (.int .u8 0), (.slice none 0 0), (.int .u8 0), (.string (ByteArray.mk #[])), (.int .u8 0), (.int .u32 0), (.slice none 0 0), (.int .u8 a_25), (.int .u16 a_26), (.bool false), (.slice none 0 0), (.slice none 0 0), (.slice none 0 0)])) w22
              else
               ∀ w21 : World, (X.Hid [] w w21) →
               R (.returned (.agg #[(.int .u8 a_0), (.int .u8 a_1), (.int .u8 0), (.int .u32 0), (.int .u32 0), (.int .u32 0), (.int .u32 0), (.int .u64 0), (.int .u64 0), (.int .u8 0), (.int .u16 0), (.int .u32 0), (.int .u8 0), (.int .u8 0), (.int .u8 0), (.int .u8 0), (.int .u8 0), (.int .u8 0), (.int .u8 0), (.slice none 0 0), (.int .u8 0), (.string (ByteArray.mk #[])), (.int .u8 0), (.int .u32 0), (.slice none 0 0), (.int .u8 0), (.int .u16 0), (.bool false), (.slice none 0 0), (.slice none 0 0), (.slice none 0 0)])) w21
             else
              if (a_0 == 13) = true then
               ∀ w20 : World, (X.Hid [] w w20) →
               R (.returned (.agg #[(.int .u8 a_0), (.int .u8 a_1), (.int .u8 0), (.int .u32 0), (.int .u32 0), (.int .u32 0), (.int .u32 0), (.int .u64 0), (.int .u64 0), (.int .u8 0), (.int .u16 0), (.int .u32 0), (.int .u8 0), (.int .u8 0), (.int .u8 0), (.int .u8 0), (.int .u8 0), (.int .u8 0), (.int .u8 0), (.slice none 0 0), (.int .u8 0), (.string (ByteArray.mk #[])), (.int .u8 0), (.int .u32 0), (.slice none 0 0), (.int .u8 a_25), (.int .u16 a_26), (.bool false), (.slice none 0 0), (.slice none 0 0), (.slice none 0 0)])) w20
              else
               ∀ w19 : World, (X.Hid [] w w19) →
               R (.returned (.agg #[(.int .u8 a_0), (.int .u8 a_1), (.int .u8 0), (.int .u32 0), (.int .u32 0), (.int .u32 0), (.int .u32 0), (.int .u64 0), (.int .u64 0), (.int .u8 0), (.int .u16 0), (.int .u32 0), (.int .u8 0), (.int .u8 0), (.int .u8 0), (.int .u8 0), (.int .u8 0), (.int .u8 0), (.int .u8 0), (.slice none 0 0), (.int .u8 0), (.string (ByteArray.mk #[])), (.int .u8 0), (.int .u32 0), (.slice none 0 0), (.int .u8 0), (.int .u16 0), (.bool false), (.slice none 0 0), (.slice none 0 0), (.slice none 0 0)])) w19
         else
          if (a_0 == 6) = true then
           if (a_0 == 6) = true then
            ∃ x17 : X.Facts, (X.FactsW x17 w []) ∧
            ∀ w18 : World, (X.Hid [] w w18) →
            R (.returned (.agg #[(.int .u8 a_0), (.int .u8 a_1), (.int .u8 0), (.int .u32 a_3), (.int .u32 0), (.int .u32 0), (.int .u32 0), (.int .u64 a_7), (.int .u64 0), (.int .u8 0), (.int .u16 0), (.int .u32 0), (.int .u8 0), (.int .u8 0), (.int .u8 0), (.int .u8 0), (.int .u8 0), (.int .u8 0), (.int .u8 0), (.slice none 0 0), (.int .u8 0), (.string (ByteArray.mk #[])), (.int .u8 0), (.int .u32 0), (.slice none 0 0), (.int .u8 0), (.int .u16 0), (.bool false), (.slice none 0 0), (.slice none 0 0), (.slice none 0 0)])) w18
           else
            if (a_0 == 10) = true then
             ∀ w16 : World, (X.Hid [] w w16) →
             R (.returned (.agg #[(.int .u8 a_0), (.int .u8 0), (.int .u8 0), (.int .u32 0), (.int .u32 0), (.int .u32 0), (.int .u32 0), (.int .u64 0), (.int .u64 0), (.int .u8 0), (.int .u16 0), (.int .u32 0), (.int .u8 0), (.int .u8 0), (.int .u8 0), (.int .u8 0), (.int .u8 0), (.int .u8 0), (.int .u8 0), (.slice none 0 0), (.int .u8 0), (.string (ByteArray.mk #[])), (.int .u8 a_22), (.int .u32 a_23), (.slice (a_24) a_24l a_24c), (.int .u8 0), (.int .u16 0), (.bool false), (.slice none 0 0), (.slice (a_29) a_29l a_29c), (.slice none 0 0)])) w16
            else
             if (a_0 == 11) = true then
              if (a_0 == 11) = true then
               ∀ w15 : World, (X.Hid [] w w15) →
               R (.returned (.agg #[(.int .u8 a_0), (.int .u8 a_1), (.int .u8 0), (.int .u32 0), (.int .u32 0), (.int .u32 0), (.int .u32 0), (.int .u64 0), (.int .u64 0), (.int .u8 0), (.int .u16 0), (.int .u32 0), (.int .u8 0), (.int .u8 0), (.int .u8 0), (.int .u8 0), (.int .u8 0), (.int .u8 0), (.int .u8 0), (.slice none 0 0), (.int .u8 0), (.string (ByteArray.mk #[])), (.int .u8 0), (.int .u32 0), (.slice none 0 0), (.int .u8 a_25), (.int .u16 a_26), (.bool false), (.slice none 0 0), (.slice none 0 0), (.slice none 0 0)])) w15
              else
               ∀ w14 : World, (X.Hid [] w w14) →
               R (.returned (.agg #[(.int .u8 a_0), (.int .u8 a_1), (.int .u8 0), (.int .u32 0), (.int .u32 0), (.int .u32 0), (.int .u32 0), (.int .u64 0), (.int .u64 0), (.int .u8 0), (.int .u16 0), (.int .u32 0), (.int .u8 0), (.int .u8 0), (.int .u8 0), (.int .u8 0), (.int .u8 0), (.int .u8 0), (.int .u8 0), (.slice none 0 0), (.int .u8 0), (.string (ByteArray.mk #[])), (.int .u8 0), (.int .u32 0), (.slice none 0 0), (.int .u8 0), (.int .u16 0), (.bool false), (.slice none 0 0), (.slice none 0 0), (.slice none 0 0)])) w14
             else
              if (a_0 == 12) = true then
               if (a_0 == 12) = true then
                ∀ w13 : World, (X.Hid [] w w13) →
                R (.returned (.agg #[(.int .u8 a_0), (.int .u8 a_1), (.int .u8 0), (.int .u32 0), (.int .u32 0), (.int .u32 0), (.int .u32 0), (.int .u64 0), (.int .u64 0), (.int .u8 0), (.int .u16 0), (.int .u32 0), (.int .u8 0), (.int .u8 0), (.int .u8 0), (.int .u8 0), (.int .u8 0), (.int .u8 0), (.int .u8 0), (.slice none 0 0), (.int .u8 0), (.string (ByteArray.mk #[])), (.int .u8 0), (.int .u32 0), (.slice none 0 0), (.int .u8 a_25), (.int .u16 a_26), (.bool false), (.slice none 0 0), (.slice none 0 0), (.slice none 0 0)])) w13
               else
                ∀ w12 : World, (X.Hid [] w w12) →
                R (.returned (.agg #[(.int .u8 a_0), (.int .u8 a_1), (.int .u8 0), (.int .u32 0), (.int .u32 0), (.int .u32 0), (.int .u32 0), (.int .u64 0), (.int .u64 0), (.int .u8 0), (.int .u16 0), (.int .u32 0), (.int .u8 0), (.int .u8 0), (.int .u8 0), (.int .u8 0), (.int .u8 0), (.int .u8 0), (.int .u8 0), (.slice none 0 0), (.int .u8 0), (.string (ByteArray.mk #[])), (.int .u8 0), (.int .u32 0), (.slice none 0 0), (.int .u8 0), (.int .u16 0), (.bool false), (.slice none 0 0), (.slice none 0 0), (.slice none 0 0)])) w12
              else
               if (a_0 == 13) = true then
                ∀ w11 : World, (X.Hid [] w w11) →
                R (.returned (.agg #[(.int .u8 a_0), (.int .u8 a_1), (.int .u8 0), (.int .u32 0), (.int .u32 0), (.int .u32 0), (.int .u32 0), (.int .u64 0), (.int .u64 0), (.int .u8 0), (.int .u16 0), (.int .u32 0), (.int .u8 0), (.int .u8 0), (.int .u8 0), (.int .u8 0), (.int .u8 0), (.int .u8 0), (.int .u8 0), (.slice none 0 0), (.int .u8 0), (.string (ByteArray.mk #[])), (.int .u8 0), (.int .u32 0), (.slice none 0 0), (.int .u8 a_25), (.int .u16 a_26), (.bool false), (.slice none 0 0), (.slice none 0 0), (.slice none 0 0)])) w11
               else
                ∀ w10 : World, (X.Hid [] w w10) →
                R (.returned (.agg #[(.int .u8 a_0), (.int .u8 a_1), (.int .u8 0), (.int .u32 0), (.int .u32 0), (.int .u32 0), (.int .u32 0), (.int .u64 0), (.int .u64 0), (.int .u8 0), (.int .u16 0), (.int .u32 0), (.int .u8 0), (.int .u8 0), (.int .u8 0), (.int .u8 0), (.int .u8 0), (.int .u8 0), (.int .u8 0), (.slice none 0 0), (.int .u8 0), (.string (ByteArray.mk #[])), (.int .u8 0), (.int .u32 0), (.slice none 0 0), (.int .u8 0), (.int .u16 0), (.bool false), (.slice none 0 0), (.slice none 0 0), (.slice none 0 0)])) w10
          else
           if (a_0 == 7) = true then
            ∃ x8 : X.Facts, (X.FactsW x8 w []) ∧
            ∀ w9 : World, (X.Hid [] w w9) →
            R (.returned (.agg #[(.int .u8 a_0), (.int .u8 a_1), (.int .u8 0), (.int .u32 a_3), (.int .u32 0), (.int .u32 0), (.int .u32 0), (.int .u64 a_7), (.int .u64 0), (.int .u8 0), (.int .u16 0), (.int .u32 0), (.int .u8 0), (.int .u8 0), (.int .u8 0), (.int .u8 0), (.int .u8 0), (.int .u8 0), (.int .u8 0), (.slice none 0 0), (.int .u8 0), (.string (ByteArray.mk #[])), (.int .u8 0), (.int .u32 0), (.slice none 0 0), (.int .u8 0), (.int .u16 0), (.bool false), (.slice none 0 0), (.slice none 0 0), (.slice none 0 0)])) w9
           else
            if (a_0 == 10) = true then
             ∀ w7 : World, (X.Hid [] w w7) →
             R (.returned (.agg #[(.int .u8 a_0), (.int .u8 0), (.int .u8 0), (.int .u32 0), (.int .u32 0), (.int .u32 0), (.int .u32 0), (.int .u64 0), (.int .u64 0), (.int .u8 0), (.int .u16 0), (.int .u32 0), (.int .u8 0), (.int .u8 0), (.int .u8 0), (.int .u8 0), (.int .u8 0), (.int .u8 0), (.int .u8 0), (.slice none 0 0), (.int .u8 0), (.string (ByteArray.mk #[])), (.int .u8 a_22), (.int .u32 a_23), (.slice (a_24) a_24l a_24c), (.int .u8 0), (.int .u16 0), (.bool false), (.slice none 0 0), (.slice (a_29) a_29l a_29c), (.slice none 0 0)])) w7
            else
             if (a_0 == 11) = true then
              if (a_0 == 11) = true then
               ∀ w6 : World, (X.Hid [] w w6) →
               R (.returned (.agg #[(.int .u8 a_0), (.int .u8 a_1), (.int .u8 0), (.int .u32 0), (.int .u32 0), (.int .u32 0), (.int .u32 0), (.int .u64 0), (.int .u64 0), (.int .u8 0), (.int .u16 0), (.int .u32 0), (.int .u8 0), (.int .u8 0), (.int .u8 0), (.int .u8 0), (.int .u8 0), (.int .u8 0), (.int .u8 0), (.slice none 0 0), (.int .u8 0), (.string (ByteArray.mk #[])), (.int .u8 0), (.int .u32 0), (.slice none 0 0), (.int .u8 a_25), (.int .u16 a_26), (.bool false), (.slice none 0 0), (.slice none 0 0), (.slice none 0 0)])) w6
              else
               ∀ w5 : World, (X.Hid [] w w5) →
               R (.returned (.agg #[(.int .u8 a_0), (.int .u8 a_1), (.int .u8 0), (.int .u32 0), (.int .u32 0), (.int .u32 0), (.int .u32 0), (.int .u64 0), (.int .u64 0), (.int .u8 0), (.int .u16 0), (.int .u32 0), (.int .u8 0), (.int .u8 0), (.int .u8 0), (.int .u8 0), (.int .u8 0), (.int .u8 0), (.int .u8 0), (.slice none 0 0), (.int .u8 0), (.string (ByteArray.mk #[])), (.int .u8 0), (.int .u32 0), (.slice none 0 0), (.int .u8 0), (.int .u16 0), (.bool false), (.slice none 0 0), (.slice none 0 0), (.slice none 0 0)])) w5
             else
              if (a_0 == 12) = true then
               if (a_0 == 12) = true then
                ∀ w4 : World, (X.Hid [] w w4) →
                R (.returned (.agg #[(.int .u8 a_0), (.int .u8 a_1), (.int .u8 0), (.int .u32 0), (.int .u32 0), (.int .u32 0), (.int .u32 0), (.int .u64 0), (.int .u64 0), (.int .u8 0), (.int .u16 0), (.int .u32 0), (.int .u8 0), (.int .u8 0), (.int .u8 0), (.int .u8 0), (.int .u8 0), (.int .u8 0), (.int .u8 0), (.slice none 0 0), (.int .u8 0), (.string (ByteArray.mk #[])), (.int .u8 0), (.int .u32 0), (.slice none 0 0), (.int .u8 a_25), (.int .u16 a_26), (.bool false), (.slice none 0 0), (.slice none 0 0), (.slice none 0 0)])) w4
               else
                ∀ w3 : World, (X.Hid [] w w3) →
                R (.returned (.agg #[(.int .u8 a_0), (.int .u8 a_1), (.int .u8 0), (.int .u32 0), (.int .u32 0), (.int .u32 0), (.int .u32 0), (.int .u64 0), (.int .u64 0), (.int .u8 0), (.int .u16 0), (.int .u32 0), (.int .u8 0), (.int .u8 0), (.int .u8 0), (.int .u8 0), (.int .u8 0), (.int .u8 0), (.int .u8 0), (.slice none 0 0), (.int .u8 0), (.string (ByteArray.mk #[])), (.int .u8 0), (.int .u32 0), (.slice none 0 0), (.int .u8 0), (.int .u16 0), (.bool false), (.slice none 0 0), (.slice none 0 0), (.slice none 0 0)])) w3
              else
               if (a_0 == 13) = true then
                ∀ w2 : World, (X.Hid [] w w2) →
                R (.returned (.agg #[(.int .u8 a_0), (.int .u8 a_1), (.int .u8 0), (.int .u32 0), (.int .u32 0), (.int .u32 0), (.int .u32 0), (.int .u64 0), (.int .u64 0), (.int .u8 0), (.int .u16 0), (.int .u32 0), (.int .u8 0), (.int .u8 0), (.int .u8 0), (.int .u8 0), (.int .u8 0), (.int .u8 0), (.int .u8 0), (.slice none 0 0), (.int .u8 0), (.string (ByteArray.mk #[])), (.int .u8 0), (.int .u32 0), (.slice none 0 0), (.int .u8 a_25), (.int .u16 a_26), (.bool false), (.slice none 0 0), (.slice none 0 0), (.slice none 0 0)])) w2
               else
                ∀ w1 : World, (X.Hid [] w w1) →
                R (.returned (.agg #[(.int .u8 a_0), (.int .u8 a_1), (.int .u8 0), (.int .u32 0), (.int .u32 0), (.int .u32 0), (.int .u32 0), (.int .u64 0), (.int .u64 0), (.int .u8 0), (.int .u16 0), (.int .u32 0), (.int .u8 0), (.int .u8 0), (.int .u8 0), (.int .u8 0), (.int .u8 0), (.int .u8 0), (.int .u8 0), (.slice none 0 0), (.int .u8 0), (.string (ByteArray.mk #[])), (.int .u8 0), (.int .u32 0), (.slice none 0 0), (.int .u8 0), (.int .u16 0), (.bool false), (.slice none 0 0), (.slice none 0 0), (.slice none 0 0)])) w1) :
    Calls Try.prog 35 #[.agg #[.int .u8 a_0, .int .u8 a_1, .int .u8 a_2, .int .u32 a_3, .int .u32 a_4, .int .u32 a_5, .int .u32 a_6, .int .u64 a_7, .int .u64 a_8, .int .u8 a_9, .int .u16 a_10, .int .u32 a_11, .int .u8 a_12, .int .u8 a_13, .int .u8 a_14, .int .u8 a_15, .int .u8 a_16, .int .u8 a_17, .int .u8 a_18, .slice a_19 a_19l a_19c, .int .u8 a_20, .string a_21, .int .u8 a_22, .int .u32 a_23, .slice a_24 a_24l a_24c, .int .u8 a_25, .int .u16 a_26, .bool a_27, .slice a_28 a_28l a_28c, .slice a_29 a_29l a_29c, .slice a_30 a_30l a_30c]] w R :=
  X.calls_of { isLoc := [1, 2, 3], sym := [], loops := [], joins := [], stored := [(17, [3]), (20, [3]), (21, [3]), (22, [3]), (24, [3]), (25, [3]), (26, [3]), (27, [3])] } Try.func35 (by kernel_rfl) h
end Go.Proofs
/- The verification conditions of this seat's functions, as the engine has them: printed by a program of the bench; checked by the kernel. -/
namespace Go.Proofs
open Go
abbrev fn_rEntries : Nat := 92
theorem x_rEntries (a : Option Addr) (al ac : Nat) (b : Int) (w : World) (R : Ending → World → Prop) (h :
  ∃ x1 : Int → World → List Nat → Prop, ∃ x2 : Int → World → Nat, (x1 0 w []) ∧
  ∀ n3 : Int, ∀ w4 : World, ∀ L5 : List Nat, (X.LF (w).heap.size w4 L5) →
  (x1 n3 w4 L5) →
  if (decide (n3 < ((al : Nat) : Int)) && decide (n3 ≤ 400)) = true then
   ((0 : Int) ≤ n3) ∧
   (n3 < ((al : Nat) : Int)) ∧
   X.onSome (a) fun p6 =>
   ∃ n7 : Int, ∃ n8 : Int, ∃ n9 : Int, ∃ n10 : Int, ∃ n11 : Int, ∃ n12 : Int, ∃ n13 : Int, ∃ n14 : Int, ∃ n15 : Int, ∃ n16 : Int, ∃ n17 : Int, ∃ n18 : Int, ∃ q19 : Option Addr, ∃ k20 : Nat, ∃ k21 : Nat, ∃ n22 : Int, ∃ s23 : ByteArray, ∃ q24 : Option Addr, ∃ k25 : Nat, ∃ k26 : Nat, ∃ n27 : Int, ∃ n28 : Int, (X.Cells w4 (p6.add ((n3).toNat * 18)) [(.int .u8 n7), (.int .u8 n8), (.int .u16 n9), (.int .u32 n10), (.int .u8 n11), (.int .u8 n12), (.int .u8 n13), (.int .u8 n14), (.int .u8 n15), (.int .u8 n16), (.int .u8 n17), (.int .u32 n18), (.slice (q19) k20 k21), (.int .u8 n22), (.string s23), (.slice (q24) k25 k26), (.int .u8 n27), (.int .u16 n28)]) ∧
   X.CallX Try.prog 17 #[(.agg #[(.int .u8 n7), (.int .u8 n8), (.int .u16 n9), (.int .u32 n10), (.int .u8 n11), (.int .u8 n12), (.int .u8 n13), (.int .u8 n14), (.int .u8 n15), (.int .u8 n16), (.int .u8 n17), (.int .u32 n18), (.slice (q19) k20 k21), (.int .u8 n22), (.string s23), (.slice (q24) k25 k26), (.int .u8 n27), (.int .u16 n28)]), (.int .u8 b)] w4 fun e29 w30 =>
    ∃ b31 : Bool, (e29 = .returned (.bool b31)) ∧
    ((w4).heap.size ≤ (w30).heap.size) ∧
    if (!b31) = true then
     R (.returned (.bool false)) w30
    else
     (x1 (IntKind.wrap .i64 (n3 + 1)) w30 []) ∧
     Nat.le ((x2 (IntKind.wrap .i64 (n3 + 1)) w30) + 1) (x2 n3 w4)
  else
   R (.returned (.bool (decide (((al : Nat) : Int) ≤ 400)))) w4) :
    Calls Try.prog 92 #[.slice a al ac, .int .u8 b] w R :=
  X.calls_of { isLoc := [], sym := [], loops := [(2, .inv [(5, .int .i64)] [] true)], joins := [] } Try.func92 (by kernel_rfl) h
abbrev fn_rFields : Nat := 89
theorem x_rFields (a : Int) (w : World) (R : Ending → World → Prop) (h :
  if (decide ((IntKind.wrap .i64 a) ≥ 14)) = true then
   R (.returned (.string (ByteArray.mk #[]))) (w.alloc (.cells #[(.string (ByteArray.mk #[OfNat.ofNat 103, OfNat.ofNat 105, OfNat.ofNat 102, OfNat.ofNat 112])), (.string (ByteArray.mk #[OfNat.ofNat 105, OfNat.ofNat 114, OfNat.ofNat 118])), (.string (ByteArray.mk #[OfNat.ofNat 105, OfNat.ofNat 99])), (.string (ByteArray.mk #[OfNat.ofNat 103, OfNat.ofNat 110, OfNat.ofNat 97, OfNat.ofNat 107, OfNat.ofNat 101])), (.string (ByteArray.mk #[OfNat.ofNat 103, OfNat.ofNat 110, OfNat.ofNat 97])), (.string (ByteArray.mk #[OfNat.ofNat 103, OfNat.ofNat 110, OfNat.ofNat 98])), (.string (ByteArray.mk #[OfNat.ofNat 103, OfNat.ofNat 110, OfNat.ofNat 98])), (.string (ByteArray.mk #[OfNat.ofNat 103, OfNat.ofNat 110, OfNat.ofNat 98])), (.string (ByteArray.mk #[OfNat.ofNat 103, OfNat.ofNat 110, OfNat.ofNat 98, OfNat.ofNat 101, OfNat.ofNat 104])), (.string (ByteArray.mk #[OfNat.ofNat 103, OfNat.ofNat 110, OfNat.ofNat 98, OfNat.ofNat 109])), (.string (ByteArray.mk #[OfNat.ofNat 118, OfNat.ofNat 101])), (.string (ByteArray.mk #[OfNat.ofNat 103, OfNat.ofNat 115])), (.string (ByteArray.mk #[OfNat.ofNat 103, OfNat.ofNat 115])), (.string (ByteArray.mk #[OfNat.ofNat 103, OfNat.ofNat 115]))] 9))
  else
   ((0 : Int) ≤ a) ∧
   (a < 14) ∧
   ∃ s1 : ByteArray, (World.cell? (w.alloc (.cells #[(.string (ByteArray.mk #[OfNat.ofNat 103, OfNat.ofNat 105, OfNat.ofNat 102, OfNat.ofNat 112])), (.string (ByteArray.mk #[OfNat.ofNat 105, OfNat.ofNat 114, OfNat.ofNat 118])), (.string (ByteArray.mk #[OfNat.ofNat 105, OfNat.ofNat 99])), (.string (ByteArray.mk #[OfNat.ofNat 103, OfNat.ofNat 110, OfNat.ofNat 97, OfNat.ofNat 107, OfNat.ofNat 101])), (.string (ByteArray.mk #[OfNat.ofNat 103, OfNat.ofNat 110, OfNat.ofNat 97])), (.string (ByteArray.mk #[OfNat.ofNat 103, OfNat.ofNat 110, OfNat.ofNat 98])), (.string (ByteArray.mk #[OfNat.ofNat 103, OfNat.ofNat 110, OfNat.ofNat 98])), (.string (ByteArray.mk #[OfNat.ofNat 103, OfNat.ofNat 110, OfNat.ofNat 98])), (.string (ByteArray.mk #[OfNat.ofNat 103, OfNat.ofNat 110, OfNat.ofNat 98, OfNat.ofNat 101, OfNat.ofNat 104])), (.string (ByteArray.mk #[OfNat.ofNat 103, OfNat.ofNat 110, OfNat.ofNat 98, OfNat.ofNat 109])), (.string (ByteArray.mk #[OfNat.ofNat 118, OfNat.ofNat 101])), (.string (ByteArray.mk #[OfNat.ofNat 103, OfNat.ofNat 115])), (.string (ByteArray.mk #[OfNat.ofNat 103, OfNat.ofNat 115])), (.string (ByteArray.mk #[OfNat.ofNat 103, OfNat.ofNat 115]))] 9)) ((⟨(w).heap.size, 0, none⟩ : Addr).add ((a).toNat * 1)) = some (.string s1)) ∧
   R (.returned (.string s1)) (w.alloc (.cells #[(.string (ByteArray.mk #[OfNat.ofNat 103, OfNat.ofNat 105, OfNat.ofNat 102, OfNat.ofNat 112])), (.string (ByteArray.mk #[OfNat.ofNat 105, OfNat.ofNat 114, OfNat.ofNat 118])), (.string (ByteArray.mk #[OfNat.ofNat 105, OfNat.ofNat 99])), (.string (ByteArray.mk #[OfNat.ofNat 103, OfNat.ofNat 110, OfNat.ofNat 97, OfNat.ofNat 107, OfNat.ofNat 101])), (.string (ByteArray.mk #[OfNat.ofNat 103, OfNat.ofNat 110, OfNat.ofNat 97])), (.string (ByteArray.mk #[OfNat.ofNat 103, OfNat.ofNat 110, OfNat.ofNat 98])), (.string (ByteArray.mk #[OfNat.ofNat 103, OfNat.ofNat 110, OfNat.ofNat 98])), (.string (ByteArray.mk #[OfNat.ofNat 103, OfNat.ofNat 110, OfNat.ofNat 98])), (.string (ByteArray.mk #[OfNat.ofNat 103, OfNat.ofNat 110, OfNat.ofNat 98, OfNat.ofNat 101, OfNat.ofNat 104])), (.string (ByteArray.mk #[OfNat.ofNat 103, OfNat.ofNat 110, OfNat.ofNat 98, OfNat.ofNat 109])), (.string (ByteArray.mk #[OfNat.ofNat 118, OfNat.ofNat 101])), (.string (ByteArray.mk #[OfNat.ofNat 103, OfNat.ofNat 115])), (.string (ByteArray.mk #[OfNat.ofNat 103, OfNat.ofNat 115])), (.string (ByteArray.mk #[OfNat.ofNat 103, OfNat.ofNat 115]))] 9))) :
    Calls Try.prog 89 #[.int .u8 a] w R :=
  X.calls_of { isLoc := [], sym := [], loops := [], joins := [] } Try.func89 (by kernel_rfl) h
abbrev fn_rLetters : Nat := 36
theorem x_rLetters (a_0 a_1 a_2 a_3 a_4 a_5 a_6 a_7 a_8 a_9 a_10 a_11 a_12 a_13 a_14 a_15 a_16 a_17 a_18 : Int) (a_19 : Option Addr) (a_19l a_19c : Nat) (a_20 : Int) (a_21 : ByteArray) (a_22 a_23 : Int) (a_24 : Option Addr) (a_24l a_24c : Nat) (a_25 a_26 : Int) (a_27 : Bool) (a_28 : Option Addr) (a_28l a_28c : Nat) (a_29 : Option Addr) (a_29l a_29c : Nat) (a_30 : Option Addr) (a_30l a_30c : Nat) (w : World) (R : Ending → World → Prop) (h :
  ∀ w1 : World, ∀ L2 : List Nat, (X.Hid [] w w1) →
  (X.NewL (w).heap.size [] w w1 L2) →
  X.CallX Try.prog 89 #[(.int .u8 a_0)] w1 fun e3 w4 =>
   ∃ s5 : ByteArray, (e3 = .returned (.string s5)) ∧
   (X.Kept L2 w1 w4) ∧
   if ((a_0 == 8) && a_27) = true then
    (((((s5.size) + 2) : Nat) : Int) ≤ 9223372036854775807) ∧
    R (.returned (.string (s5 ++ ByteArray.mk #[OfNat.ofNat 120, OfNat.ofNat 109]))) w4
   else
    R (.returned (.string s5)) w4) :
    Calls Try.prog 36 #[.agg #[.int .u8 a_0, .int .u8 a_1, .int .u8 a_2, .int .u32 a_3, .int .u32 a_4, .int .u32 a_5, .int .u32 a_6, .int .u64 a_7, .int .u64 a_8, .int .u8 a_9, .int .u16 a_10, .int .u32 a_11, .int .u8 a_12, .int .u8 a_13, .int .u8 a_14, .int .u8 a_15, .int .u8 a_16, .int .u8 a_17, .int .u8 a_18, .slice a_19 a_19l a_19c, .int .u8 a_20, .string a_21, .int .u8 a_22, .int .u32 a_23, .slice a_24 a_24l a_24c, .int .u8 a_25, .int .u16 a_26, .bool a_27, .slice a_28 a_28l a_28c, .slice a_29 a_29l a_29c, .slice a_30 a_30l a_30c]] w R :=
  X.calls_of { isLoc := [1], sym := [], loops := [], joins := [] } Try.func36 (by kernel_rfl) h
abbrev fn_rField : Nat := 37
theorem x_rField (a_0 a_1 a_2 a_3 a_4 a_5 a_6 a_7 a_8 a_9 a_10 a_11 a_12 a_13 a_14 a_15 a_16 a_17 a_18 : Int) (a_19 : Option Addr) (a_19l a_19c : Nat) (a_20 : Int) (a_21 : ByteArray) (a_22 a_23 : Int) (a_24 : Option Addr) (a_24l a_24c : Nat) (a_25 a_26 : Int) (a_27 : Bool) (a_28 : Option Addr) (a_28l a_28c : Nat) (a_29 : Option Addr) (a_29l a_29c : Nat) (a_30 : Option Addr) (a_30l a_30c : Nat) (b : Int) (w : World) (R : Ending → World → Prop) (h :
  if (a_0 == 10) = true then
   if (b == 103) = true then
    ∀ w106 : World, (X.Hid [] w w106) →
    R (.returned (.bool (decide (a_1 < 4)))) w106
   else
    if (b == 105) = true then
     ∀ w101 : World, ∀ L102 : List Nat, (X.Hid [] w w101) →
     (X.NewL (w).heap.size [] w w101 L102) →
     X.CallX Try.prog 49 #[(.agg #[(.int .u8 a_9), (.int .u16 a_10), (.int .u32 a_11), (.int .u8 a_12), (.int .u8 a_13), (.int .u8 a_14), (.int .u8 a_15), (.int .u8 a_16), (.int .u8 a_17), (.int .u8 a_18)])] w101 fun e103 w104 =>
      ∃ b105 : Bool, (e103 = .returned (.bool b105)) ∧
      (X.Kept L102 w101 w104) ∧
      R (.returned (.bool b105)) w104
    else
     if (b == 102) = true then
      ∀ w100 : World, (X.Hid [] w w100) →
      R (.returned (.bool (decide (a_6 < a_11)))) w100
     else
      if (b == 112) = true then
       ∃ x88 : X.Facts, (X.FactsW x88 w []) ∧
       ∀ w89 : World, ∀ L90 : List Nat, (X.Hid [] w w89) →
       (X.NewL (w).heap.size [] w w89 L90) →
       X.CallX Try.prog 90 #[(.slice (a_19) a_19l a_19c)] w89 fun e91 w92 =>
        ∃ b93 : Bool, (e91 = .returned (.bool b93)) ∧
        (X.Kept L90 w89 w92) ∧
        (X.FactsW x88 w92 (L90)) ∧
        ∃ x94 : X.Facts, (X.FactsW x94 w92 (L90)) ∧
        (∀ x95 : Addr × List Value, (x95 ∈ x88) →
         x95 ∈ x94) ∧
        if (b93 == true) = true then
         ((0 : Int) ≤ 0) ∧
         ((0 : Int) < ((a_19l : Nat) : Int)) ∧
         X.onSome (a_19) fun p98 =>
         ∃ n99 : Int, ((((p98.add 0).add 0), [(.int .u8 n99)]) ∈ x94) ∧
         R (.returned (.bool ((true && (n99 == a_1)) && decide ((IntKind.wrap .i64 (((a_19l : Nat) : Int) + (IntKind.wrap .i64 a_12))) ≤ 4)))) w92
        else
         ∃ x96 : X.Facts, (X.FactsW x96 w92 (L90)) ∧
         (∀ x97 : Addr × List Value, (x97 ∈ x94) →
          x97 ∈ x96) ∧
         R (.returned (.bool (false && decide ((IntKind.wrap .i64 (((a_19l : Nat) : Int) + (IntKind.wrap .i64 a_12))) ≤ 4)))) w92
      else
       if (b == 114) = true then
        ∀ w83 : World, ∀ L84 : List Nat, (X.Hid [] w w83) →
        (X.NewL (w).heap.size [] w w83 L84) →
        X.CallX Try.prog 50 #[(.agg #[(.int .u8 a_20), (.string a_21)])] w83 fun e85 w86 =>
         ∃ b87 : Bool, (e85 = .returned (.bool b87)) ∧
         (X.Kept L84 w83 w86) ∧
         R (.returned (.bool b87)) w86
       else
        if (b == 118) = true then
         ∀ w78 : World, ∀ L79 : List Nat, (X.Hid [] w w78) →
         (X.NewL (w).heap.size [] w w78 L79) →
         X.CallX Try.prog 91 #[(.agg #[(.int .u8 a_22), (.int .u32 a_23), (.slice (a_24) a_24l a_24c)])] w78 fun e80 w81 =>
          ∃ b82 : Bool, (e80 = .returned (.bool b82)) ∧
          (X.Kept L79 w78 w81) ∧
          R (.returned (.bool b82)) w81
        else
         if (b == 110) = true then
          ∀ w77 : World, (X.Hid [] w w77) →
          R (.returned (.bool (decide (a_3 ≥ 1)))) w77
         else
          if (b == 97) = true then
           ∀ w76 : World, (X.Hid [] w w76) →
           R (.returned (.bool (decide (a_4 ≤ 400)))) w76
          else
           if (b == 107) = true then
            ∀ w75 : World, (X.Hid [] w w75) →
            R (.returned (.bool (decide (a_5 ≤ 400)))) w75
           else
            if (b == 101) = true then
             ∀ w70 : World, ∀ L71 : List Nat, (X.Hid [] w w70) →
             (X.NewL (w).heap.size [] w w70 L71) →
             X.CallX Try.prog 92 #[(.slice (a_29) a_29l a_29c), (.int .u8 a_22)] w70 fun e72 w73 =>
              ∃ b74 : Bool, (e72 = .returned (.bool b74)) ∧
              (X.Kept L71 w70 w73) ∧
              R (.returned (.bool (b74 && decide ((IntKind.wrap .i64 ((IntKind.wrap .i64 a_4) + ((a_29l : Nat) : Int))) ≤ 400)))) w73
            else
             if (b == 98) = true then
              ∀ w69 : World, (X.Hid [] w w69) →
              R (.returned (.bool (decide (a_7 ≥ 1)))) w69
             else
              if (b == 120) = true then
               ∀ w68 : World, (X.Hid [] w w68) →
               R (.returned (.bool (decide (a_8 ≥ 1)))) w68
              else
               if (b == 109) = true then
                ∀ w60 : World, ∀ L61 : List Nat, (X.Hid [] w w60) →
                (X.NewL (w).heap.size [] w w60 L61) →
                X.CallX Try.prog 91 #[(.agg #[(.int .u8 0), (.int .u32 1), (.slice (a_28) a_28l a_28c)])] w60 fun e62 w63 =>
                 ∃ b64 : Bool, (e62 = .returned (.bool b64)) ∧
                 (X.Kept L61 w60 w63) ∧
                 if (b64 == true) = true then
                  X.CallX Try.prog 92 #[(.slice (a_30) a_30l a_30c), (.int .u8 a_22)] w63 fun e65 w66 =>
                   ∃ b67 : Bool, (e65 = .returned (.bool b67)) ∧
                   (X.Kept L61 w63 w66) ∧
                   R (.returned (.bool (true && b67))) w66
                 else
                  R (.returned (.bool false)) w63
               else
                if (b == 115) = true then
                 ∀ w55 : World, ∀ L56 : List Nat, (X.Hid [] w w55) →
                 (X.NewL (w).heap.size [] w w55 L56) →
                 X.CallX Try.prog 51 #[(.agg #[(.int .u8 a_25), (.int .u16 a_26)])] w55 fun e57 w58 =>
                  ∃ b59 : Bool, (e57 = .returned (.bool b59)) ∧
                  (X.Kept L56 w55 w58) ∧
                  R (.returned (.bool b59)) w58
                else
                 ∀ w54 : World, (X.Hid [] w w54) →
                 R (.returned (.bool true)) w54
  else
   if (b == 103) = true then
    ∀ w53 : World, (X.Hid [] w w53) →
    R (.returned (.bool (decide (a_1 < 4)))) w53
   else
    if (b == 105) = true then
     ∀ w48 : World, ∀ L49 : List Nat, (X.Hid [] w w48) →
     (X.NewL (w).heap.size [] w w48 L49) →
     X.CallX Try.prog 49 #[(.agg #[(.int .u8 a_9), (.int .u16 a_10), (.int .u32 a_11), (.int .u8 a_12), (.int .u8 a_13), (.int .u8 a_14), (.int .u8 a_15), (.int .u8 a_16), (.int .u8 a_17), (.int .u8 a_18)])] w48 fun e50 w51 =>
      ∃ b52 : Bool, (e50 = .returned (.bool b52)) ∧
      (X.Kept L49 w48 w51) ∧
      R (.returned (.bool b52)) w51
    else
     if (b == 102) = true then
      ∀ w47 : World, (X.Hid [] w w47) →
      R (.returned (.bool (decide (a_6 < a_11)))) w47
     else
      if (b == 112) = true then
       ∃ x35 : X.Facts, (X.FactsW x35 w []) ∧
       ∀ w36 : World, ∀ L37 : List Nat, (X.Hid [] w w36) →
       (X.NewL (w).heap.size [] w w36 L37) →
       X.CallX Try.prog 90 #[(.slice (a_19) a_19l a_19c)] w36 fun e38 w39 =>
        ∃ b40 : Bool, (e38 = .returned (.bool b40)) ∧
        (X.Kept L37 w36 w39) ∧
        (X.FactsW x35 w39 (L37)) ∧
        ∃ x41 : X.Facts, (X.FactsW x41 w39 (L37)) ∧
        (∀ x42 : Addr × List Value, (x42 ∈ x35) →
         x42 ∈ x41) ∧
        if (b40 == true) = true then
         ((0 : Int) ≤ 0) ∧
         ((0 : Int) < ((a_19l : Nat) : Int)) ∧
         X.onSome (a_19) fun p45 =>
         ∃ n46 : Int, ((((p45.add 0).add 0), [(.int .u8 n46)]) ∈ x41) ∧
         R (.returned (.bool ((true && (n46 == a_1)) && decide ((IntKind.wrap .i64 (((a_19l : Nat) : Int) + (IntKind.wrap .i64 a_12))) ≤ 4)))) w39
        else
         ∃ x43 : X.Facts, (X.FactsW x43 w39 (L37)) ∧
         (∀ x44 : Addr × List Value, (x44 ∈ x41) →
          x44 ∈ x43) ∧
         R (.returned (.bool (false && decide ((IntKind.wrap .i64 (((a_19l : Nat) : Int) + (IntKind.wrap .i64 a_12))) ≤ 4)))) w39
      else
       if (b == 114) = true then
        ∀ w30 : World, ∀ L31 : List Nat, (X.Hid [] w w30) →
        (X.NewL (w).heap.size [] w w30 L31) →
        X.CallX Try.prog 50 #[(.agg #[(.int .u8 a_20), (.string a_21)])] w30 fun e32 w33 =>
         ∃ b34 : Bool, (e32 = .returned (.bool b34)) ∧
         (X.Kept L31 w30 w33) ∧
         R (.returned (.bool b34)) w33
       else
        if (b == 118) = true then
         ∀ w25 : World, ∀ L26 : List Nat, (X.Hid [] w w25) →
         (X.NewL (w).heap.size [] w w25 L26) →
         X.CallX Try.prog 91 #[(.agg #[(.int .u8 a_22), (.int .u32 a_23), (.slice (a_24) a_24l a_24c)])] w25 fun e27 w28 =>
          ∃ b29 : Bool, (e27 = .returned (.bool b29)) ∧
          (X.Kept L26 w25 w28) ∧
          R (.returned (.bool b29)) w28
        else
         if (b == 110) = true then
          ∀ w24 : World, (X.Hid [] w w24) →
          R (.returned (.bool (decide (a_3 ≥ 1)))) w24
         else
          if (b == 97) = true then
           ∀ w23 : World, (X.Hid [] w w23) →
           R (.returned (.bool (decide (a_4 ≤ 400)))) w23
          else
           if (b == 107) = true then
            ∀ w22 : World, (X.Hid [] w w22) →
            R (.returned (.bool (decide (a_5 ≤ 400)))) w22
           else
            if (b == 101) = true then
             ∀ w17 : World, ∀ L18 : List Nat, (X.Hid [] w w17) →
             (X.NewL (w).heap.size [] w w17 L18) →
             X.CallX Try.prog 92 #[(.slice (a_29) a_29l a_29c), (.int .u8 a_1)] w17 fun e19 w20 =>
              ∃ b21 : Bool, (e19 = .returned (.bool b21)) ∧
              (X.Kept L18 w17 w20) ∧
              R (.returned (.bool (b21 && decide ((IntKind.wrap .i64 ((IntKind.wrap .i64 a_4) + ((a_29l : Nat) : Int))) ≤ 400)))) w20
            else
             if (b == 98) = true then
              ∀ w16 : World, (X.Hid [] w w16) →
              R (.returned (.bool (decide (a_7 ≥ 1)))) w16
             else
              if (b == 120) = true then
               ∀ w15 : World, (X.Hid [] w w15) →
               R (.returned (.bool (decide (a_8 ≥ 1)))) w15
              else
               if (b == 109) = true then
                ∀ w7 : World, ∀ L8 : List Nat, (X.Hid [] w w7) →
                (X.NewL (w).heap.size [] w w7 L8) →
                X.CallX Try.prog 91 #[(.agg #[(.int .u8 0), (.int .u32 1), (.slice (a_28) a_28l a_28c)])] w7 fun e9 w10 =>
                 ∃ b11 : Bool, (e9 = .returned (.bool b11)) ∧
                 (X.Kept L8 w7 w10) ∧
                 if (b11 == true) = true then
                  X.CallX Try.prog 92 #[(.slice (a_30) a_30l a_30c), (.int .u8 a_1)] w10 fun e12 w13 =>
                   ∃ b14 : Bool, (e12 = .returned (.bool b14)) ∧
                   (X.Kept L8 w10 w13) ∧
                   R (.returned (.bool (true && b14))) w13
                 else
                  R (.returned (.bool false)) w10
               else
                if (b == 115) = true then
                 ∀ w2 : World, ∀ L3 : List Nat, (X.Hid [] w w2) →
                 (X.NewL (w).heap.size [] w w2 L3) →
                 X.CallX Try.prog 51 #[(.agg #[(.int .u8 a_25), (.int .u16 a_26)])] w2 fun e4 w5 =>
                  ∃ b6 : Bool, (e4 = .returned (.bool b6)) ∧
                  (X.Kept L3 w2 w5) ∧
                  R (.returned (.bool b6)) w5
                else
                 ∀ w1 : World, (X.Hid [] w w1) →
                 R (.returned (.bool true)) w1) :
    Calls Try.prog 37 #[.agg #[.int .u8 a_0, .int .u8 a_1, .int .u8 a_2, .int .u32 a_3, .int .u32 a_4, .int .u32 a_5, .int .u32 a_6, .int .u64 a_7, .int .u64 a_8, .int .u8 a_9, .int .u16 a_10, .int .u32 a_11, .int .u8 a_12, .int .u8 a_13, .int .u8 a_14, .int .u8 a_15, .int .u8 a_16, .int .u8 a_17, .int .u8 a_18, .slice a_19 a_19l a_19c, .int .u8 a_20, .string a_21, .int .u8 a_22, .int .u32 a_23, .slice a_24 a_24l a_24c, .int .u8 a_25, .int .u16 a_26, .bool a_27, .slice a_28 a_28l a_28c, .slice a_29 a_29l a_29c, .slice a_30 a_30l a_30c], .int .u8 b] w R :=
  X.calls_of { isLoc := [2], sym := [], loops := [], joins := [] } Try.func37 (by kernel_rfl) h
abbrev fn_r7Same : Nat := 13
theorem x_r7Same (a_0 a_1 a_2 a_3 a_4 a_5 a_6 a_7 a_8 a_9 a_10 a_11 a_12 a_13 a_14 a_15 a_16 a_17 a_18 : Int) (a_19 : Option Addr) (a_19l a_19c : Nat) (a_20 : Int) (a_21 : ByteArray) (a_22 a_23 : Int) (a_24 : Option Addr) (a_24l a_24c : Nat) (a_25 a_26 : Int) (a_27 : Bool) (a_28 : Option Addr) (a_28l a_28c : Nat) (a_29 : Option Addr) (a_29l a_29c : Nat) (a_30 : Option Addr) (a_30l a_30c : Nat) (b_0 b_1 b_2 b_3 b_4 b_5 b_6 b_7 b_8 b_9 b_10 b_11 b_12 b_13 b_14 b_15 b_16 b_17 b_18 : Int) (b_19 : Option Addr) (b_19l b_19c : Nat) (b_20 : Int) (b_21 : ByteArray) (b_22 b_23 : Int) (b_24 : Option Addr) (b_24l b_24c : Nat) (b_25 b_26 : Int) (b_27 : Bool) (b_28 : Option Addr) (b_28l b_28c : Nat) (b_29 : Option Addr) (b_29l b_29c : Nat) (b_30 : Option Addr) (b_30l b_30c : Nat) (w : World) (R : Ending → World → Prop) (h :
  ∀ w1 : World, ∀ L2 : List Nat, (X.Hid [] w w1) →
  (X.NewL (w).heap.size [] w w1 L2) →
  ∃ n3 : Int, (World.cell? (w1.alloc (.cells #[(.int .u8 b_0), (.int .u8 b_1), (.int .u8 b_2), (.int .u32 b_3), (.int .u32 b_4), (.int .u32 b_5), (.int .u32 b_6), (.int .u64 b_7), (.int .u64 b_8), (.int .u8 b_9), (.int .u16 b_10), (.int .u32 b_11), (.int .u8 b_12), (.int .u8 b_13), (.int .u8 b_14), (.int .u8 b_15), (.int .u8 b_16), (.int .u8 b_17), (.int .u8 b_18), (.slice (b_19) b_19l b_19c), (.int .u8 b_20), (.string b_21), (.int .u8 b_22), (.int .u32 b_23), (.slice (b_24) b_24l b_24c), (.int .u8 b_25), (.int .u16 b_26), (.bool b_27), (.slice (b_28) b_28l b_28c), (.slice (b_29) b_29l b_29c), (.slice (b_30) b_30l b_30c)] 40)) ⟨(w1).heap.size, 0, none⟩ = some (.int .u8 n3)) ∧
  (¬ ((w1).heap.size ∈ L2)) ∧
  if ((a_0 == n3) == true) = true then
   ∃ n4 : Int, (World.cell? (w1.alloc (.cells #[(.int .u8 b_0), (.int .u8 b_1), (.int .u8 b_2), (.int .u32 b_3), (.int .u32 b_4), (.int .u32 b_5), (.int .u32 b_6), (.int .u64 b_7), (.int .u64 b_8), (.int .u8 b_9), (.int .u16 b_10), (.int .u32 b_11), (.int .u8 b_12), (.int .u8 b_13), (.int .u8 b_14), (.int .u8 b_15), (.int .u8 b_16), (.int .u8 b_17), (.int .u8 b_18), (.slice (b_19) b_19l b_19c), (.int .u8 b_20), (.string b_21), (.int .u8 b_22), (.int .u32 b_23), (.slice (b_24) b_24l b_24c), (.int .u8 b_25), (.int .u16 b_26), (.bool b_27), (.slice (b_28) b_28l b_28c), (.slice (b_29) b_29l b_29c), (.slice (b_30) b_30l b_30c)] 40)) ⟨(w1).heap.size, (0 + 1), none⟩ = some (.int .u8 n4)) ∧
   (¬ ((w1).heap.size ∈ L2)) ∧
   if ((true && (a_1 == n4)) == true) = true then
    ∃ n5 : Int, (World.cell? (w1.alloc (.cells #[(.int .u8 b_0), (.int .u8 b_1), (.int .u8 b_2), (.int .u32 b_3), (.int .u32 b_4), (.int .u32 b_5), (.int .u32 b_6), (.int .u64 b_7), (.int .u64 b_8), (.int .u8 b_9), (.int .u16 b_10), (.int .u32 b_11), (.int .u8 b_12), (.int .u8 b_13), (.int .u8 b_14), (.int .u8 b_15), (.int .u8 b_16), (.int .u8 b_17), (.int .u8 b_18), (.slice (b_19) b_19l b_19c), (.int .u8 b_20), (.string b_21), (.int .u8 b_22), (.int .u32 b_23), (.slice (b_24) b_24l b_24c), (.int .u8 b_25), (.int .u16 b_26), (.bool b_27), (.slice (b_28) b_28l b_28c), (.slice (b_29) b_29l b_29c), (.slice (b_30) b_30l b_30c)] 40)) ⟨(w1).heap.size, (0 + 2), none⟩ = some (.int .u8 n5)) ∧
    (¬ ((w1).heap.size ∈ L2)) ∧
    if ((true && (a_2 == n5)) == true) = true then
     ∃ n6 : Int, (World.cell? (w1.alloc (.cells #[(.int .u8 b_0), (.int .u8 b_1), (.int .u8 b_2), (.int .u32 b_3), (.int .u32 b_4), (.int .u32 b_5), (.int .u32 b_6), (.int .u64 b_7), (.int .u64 b_8), (.int .u8 b_9), (.int .u16 b_10), (.int .u32 b_11), (.int .u8 b_12), (.int .u8 b_13), (.int .u8 b_14), (.int .u8 b_15), (.int .u8 b_16), (.int .u8 b_17), (.int .u8 b_18), (.slice (b_19) b_19l b_19c), (.int .u8 b_20), (.string b_21), (.int .u8 b_22), (.int .u32 b_23), (.slice (b_24) b_24l b_24c), (.int .u8 b_25), (.int .u16 b_26), (.bool b_27), (.slice (b_28) b_28l b_28c), (.slice (b_29) b_29l b_29c), (.slice (b_30) b_30l b_30c)] 40)) ⟨(w1).heap.size, (0 + 3), none⟩ = some (.int .u32 n6)) ∧
     (¬ ((w1).heap.size ∈ L2)) ∧
     if ((true && (a_3 == n6)) == true) = true then
      ∃ n7 : Int, (World.cell? (w1.alloc (.cells #[(.int .u8 b_0), (.int .u8 b_1), (.int .u8 b_2), (.int .u32 b_3), (.int .u32 b_4), (.int .u32 b_5), (.int .u32 b_6), (.int .u64 b_7), (.int .u64 b_8), (.int .u8 b_9), (.int .u16 b_10), (.int .u32 b_11), (.int .u8 b_12), (.int .u8 b_13), (.int .u8 b_14), (.int .u8 b_15), (.int .u8 b_16), (.int .u8 b_17), (.int .u8 b_18), (.slice (b_19) b_19l b_19c), (.int .u8 b_20), (.string b_21), (.int .u8 b_22), (.int .u32 b_23), (.slice (b_24) b_24l b_24c), (.int .u8 b_25), (.int .u16 b_26), (.bool b_27), (.slice (b_28) b_28l b_28c), (.slice (b_29) b_29l b_29c), (.slice (b_30) b_30l b_30c)] 40)) ⟨(w1).heap.size, (0 + 4), none⟩ = some (.int .u32 n7)) ∧
      (¬ ((w1).heap.size ∈ L2)) ∧
      if ((true && (a_4 == n7)) == true) = true then
       ∃ n8 : Int, (World.cell? (w1.alloc (.cells #[(.int .u8 b_0), (.int .u8 b_1), (.int .u8 b_2), (.int .u32 b_3), (.int .u32 b_4), (.int .u32 b_5), (.int .u32 b_6), (.int .u64 b_7), (.int .u64 b_8), (.int .u8 b_9), (.int .u16 b_10), (.int .u32 b_11), (.int .u8 b_12), (.int .u8 b_13), (.int .u8 b_14), (.int .u8 b_15), (.int .u8 b_16), (.int .u8 b_17), (.int .u8 b_18), (.slice (b_19) b_19l b_19c), (.int .u8 b_20), (.string b_21), (.int .u8 b_22), (.int .u32 b_23), (.slice (b_24) b_24l b_24c), (.int .u8 b_25), (.int .u16 b_26), (.bool b_27), (.slice (b_28) b_28l b_28c), (.slice (b_29) b_29l b_29c), (.slice (b_30) b_30l b_30c)] 40)) ⟨(w1).heap.size, (0 + 5), none⟩ = some (.int .u32 n8)) ∧
       (¬ ((w1).heap.size ∈ L2)) ∧
       if ((true && (a_5 == n8)) == true) = true then
        ∃ n9 : Int, (World.cell? (w1.alloc (.cells #[(.int .u8 b_0), (.int .u8 b_1), (.int .u8 b_2), (.int .u32 b_3), (.int .u32 b_4), (.int .u32 b_5), (.int .u32 b_6), (.int .u64 b_7), (.int .u64 b_8), (.int .u8 b_9), (.int .u16 b_10), (.int .u32 b_11), (.int .u8 b_12), (.int .u8 b_13), (.int .u8 b_14), (.int .u8 b_15), (.int .u8 b_16), (.int .u8 b_17), (.int .u8 b_18), (.slice (b_19) b_19l b_19c), (.int .u8 b_20), (.string b_21), (.int .u8 b_22), (.int .u32 b_23), (.slice (b_24) b_24l b_24c), (.int .u8 b_25), (.int .u16 b_26), (.bool b_27), (.slice (b_28) b_28l b_28c), (.slice (b_29) b_29l b_29c), (.slice (b_30) b_30l b_30c)] 40)) ⟨(w1).heap.size, (0 + 6), none⟩ = some (.int .u32 n9)) ∧
        (¬ ((w1).heap.size ∈ L2)) ∧
        if ((true && (a_6 == n9)) == true) = true then
         ∃ n10 : Int, (World.cell? (w1.alloc (.cells #[(.int .u8 b_0), (.int .u8 b_1), (.int .u8 b_2), (.int .u32 b_3), (.int .u32 b_4), (.int .u32 b_5), (.int .u32 b_6), (.int .u64 b_7), (.int .u64 b_8), (.int .u8 b_9), (.int .u16 b_10), (.int .u32 b_11), (.int .u8 b_12), (.int .u8 b_13), (.int .u8 b_14), (.int .u8 b_15), (.int .u8 b_16), (.int .u8 b_17), (.int .u8 b_18), (.slice (b_19) b_19l b_19c), (.int .u8 b_20), (.string b_21), (.int .u8 b_22), (.int .u32 b_23), (.slice (b_24) b_24l b_24c), (.int .u8 b_25), (.int .u16 b_26), (.bool b_27), (.slice (b_28) b_28l b_28c), (.slice (b_29) b_29l b_29c), (.slice (b_30) b_30l b_30c)] 40)) ⟨(w1).heap.size, (0 + 7), none⟩ = some (.int .u64 n10)) ∧
         (¬ ((w1).heap.size ∈ L2)) ∧
         if ((true && (a_7 == n10)) == true) = true then
          ∃ n11 : Int, (World.cell? (w1.alloc (.cells #[(.int .u8 b_0), (.int .u8 b_1), (.int .u8 b_2), (.int .u32 b_3), (.int .u32 b_4), (.int .u32 b_5), (.int .u32 b_6), (.int .u64 b_7), (.int .u64 b_8), (.int .u8 b_9), (.int .u16 b_10), (.int .u32 b_11), (.int .u8 b_12), (.int .u8 b_13), (.int .u8 b_14), (.int .u8 b_15), (.int .u8 b_16), (.int .u8 b_17), (.int .u8 b_18), (.slice (b_19) b_19l b_19c), (.int .u8 b_20), (.string b_21), (.int .u8 b_22), (.int .u32 b_23), (.slice (b_24) b_24l b_24c), (.int .u8 b_25), (.int .u16 b_26), (.bool b_27), (.slice (b_28) b_28l b_28c), (.slice (b_29) b_29l b_29c), (.slice (b_30) b_30l b_30c)] 40)) ⟨(w1).heap.size, (0 + 8), none⟩ = some (.int .u64 n11)) ∧
          (¬ ((w1).heap.size ∈ L2)) ∧
          if ((true && (a_8 == n11)) == true) = true then
           ∃ n12 : Int, ∃ n13 : Int, ∃ n14 : Int, ∃ n15 : Int, ∃ n16 : Int, ∃ n17 : Int, ∃ n18 : Int, ∃ n19 : Int, ∃ n20 : Int, ∃ n21 : Int, (X.Cells (w1.alloc (.cells #[(.int .u8 b_0), (.int .u8 b_1), (.int .u8 b_2), (.int .u32 b_3), (.int .u32 b_4), (.int .u32 b_5), (.int .u32 b_6), (.int .u64 b_7), (.int .u64 b_8), (.int .u8 b_9), (.int .u16 b_10), (.int .u32 b_11), (.int .u8 b_12), (.int .u8 b_13), (.int .u8 b_14), (.int .u8 b_15), (.int .u8 b_16), (.int .u8 b_17), (.int .u8 b_18), (.slice (b_19) b_19l b_19c), (.int .u8 b_20), (.string b_21), (.int .u8 b_22), (.int .u32 b_23), (.slice (b_24) b_24l b_24c), (.int .u8 b_25), (.int .u16 b_26), (.bool b_27), (.slice (b_28) b_28l b_28c), (.slice (b_29) b_29l b_29c), (.slice (b_30) b_30l b_30c)] 40)) ⟨(w1).heap.size, (0 + 9), none⟩ [(.int .u8 n12), (.int .u16 n13), (.int .u32 n14), (.int .u8 n15), (.int .u8 n16), (.int .u8 n17), (.int .u8 n18), (.int .u8 n19), (.int .u8 n20), (.int .u8 n21)]) ∧
           (¬ ((w1).heap.size ∈ L2)) ∧
           if ((true && (((a_9 == n12) && (a_10 == n13)) && ((a_11 == n14) && ((a_12 == n15) && (((a_13 == n16) && (a_14 == n17)) && (((a_15 == n18) && (a_16 == n19)) && ((a_17 == n20) && (a_18 == n21)))))))) == true) = true then
            ∃ q22 : Option Addr, ∃ k23 : Nat, ∃ k24 : Nat, (World.cell? (w1.alloc (.cells #[(.int .u8 b_0), (.int .u8 b_1), (.int .u8 b_2), (.int .u32 b_3), (.int .u32 b_4), (.int .u32 b_5), (.int .u32 b_6), (.int .u64 b_7), (.int .u64 b_8), (.int .u8 b_9), (.int .u16 b_10), (.int .u32 b_11), (.int .u8 b_12), (.int .u8 b_13), (.int .u8 b_14), (.int .u8 b_15), (.int .u8 b_16), (.int .u8 b_17), (.int .u8 b_18), (.slice (b_19) b_19l b_19c), (.int .u8 b_20), (.string b_21), (.int .u8 b_22), (.int .u32 b_23), (.slice (b_24) b_24l b_24c), (.int .u8 b_25), (.int .u16 b_26), (.bool b_27), (.slice (b_28) b_28l b_28c), (.slice (b_29) b_29l b_29c), (.slice (b_30) b_30l b_30c)] 40)) ⟨(w1).heap.size, (0 + 19), none⟩ = some (.slice (q22) k23 k24)) ∧
            (¬ ((w1).heap.size ∈ L2)) ∧
            X.CallX Try.prog 43 #[(.slice (a_19) a_19l a_19c), (.slice (q22) k23 k24)] (w1.alloc (.cells #[(.int .u8 b_0), (.int .u8 b_1), (.int .u8 b_2), (.int .u32 b_3), (.int .u32 b_4), (.int .u32 b_5), (.int .u32 b_6), (.int .u64 b_7), (.int .u64 b_8), (.int .u8 b_9), (.int .u16 b_10), (.int .u32 b_11), (.int .u8 b_12), (.int .u8 b_13), (.int .u8 b_14), (.int .u8 b_15), (.int .u8 b_16), (.int .u8 b_17), (.int .u8 b_18), (.slice (b_19) b_19l b_19c), (.int .u8 b_20), (.string b_21), (.int .u8 b_22), (.int .u32 b_23), (.slice (b_24) b_24l b_24c), (.int .u8 b_25), (.int .u16 b_26), (.bool b_27), (.slice (b_28) b_28l b_28c), (.slice (b_29) b_29l b_29c), (.slice (b_30) b_30l b_30c)] 40)) fun e25 w26 =>
             ∃ b27 : Bool, (e25 = .returned (.bool b27)) ∧
             (X.Kept L2 (w1.alloc (.cells #[(.int .u8 b_0), (.int .u8 b_1), (.int .u8 b_2), (.int .u32 b_3), (.int .u32 b_4), (.int .u32 b_5), (.int .u32 b_6), (.int .u64 b_7), (.int .u64 b_8), (.int .u8 b_9), (.int .u16 b_10), (.int .u32 b_11), (.int .u8 b_12), (.int .u8 b_13), (.int .u8 b_14), (.int .u8 b_15), (.int .u8 b_16), (.int .u8 b_17), (.int .u8 b_18), (.slice (b_19) b_19l b_19c), (.int .u8 b_20), (.string b_21), (.int .u8 b_22), (.int .u32 b_23), (.slice (b_24) b_24l b_24c), (.int .u8 b_25), (.int .u16 b_26), (.bool b_27), (.slice (b_28) b_28l b_28c), (.slice (b_29) b_29l b_29c), (.slice (b_30) b_30l b_30c)] 40)) w26) ∧
             if ((true && b27) == true) = true then
              ∃ n28 : Int, ∃ s29 : ByteArray, (X.Cells w26 ⟨(w1).heap.size, (0 + 20), none⟩ [(.int .u8 n28), (.string s29)]) ∧
              (¬ ((w1).heap.size ∈ L2)) ∧
              if ((true && ((a_20 == n28) && (a_21 == s29))) == true) = true then
               ∃ n30 : Int, ∃ n31 : Int, ∃ q32 : Option Addr, ∃ k33 : Nat, ∃ k34 : Nat, (X.Cells w26 ⟨(w1).heap.size, (0 + 22), none⟩ [(.int .u8 n30), (.int .u32 n31), (.slice (q32) k33 k34)]) ∧
               (¬ ((w1).heap.size ∈ L2)) ∧
               X.CallX Try.prog 44 #[(.agg #[(.int .u8 a_22), (.int .u32 a_23), (.slice (a_24) a_24l a_24c)]), (.agg #[(.int .u8 n30), (.int .u32 n31), (.slice (q32) k33 k34)])] w26 fun e35 w36 =>
                ∃ b37 : Bool, (e35 = .returned (.bool b37)) ∧
                (X.Kept L2 w26 w36) ∧
                if ((true && b37) == true) = true then
                 ∃ n38 : Int, ∃ n39 : Int, (X.Cells w36 ⟨(w1).heap.size, (0 + 25), none⟩ [(.int .u8 n38), (.int .u16 n39)]) ∧
                 (¬ ((w1).heap.size ∈ L2)) ∧
                 if ((true && ((a_25 == n38) && (a_26 == n39))) == true) = true then
                  ∃ b40 : Bool, (World.cell? w36 ⟨(w1).heap.size, (0 + 27), none⟩ = some (.bool b40)) ∧
                  (¬ ((w1).heap.size ∈ L2)) ∧
                  if ((true && (a_27 == b40)) == true) = true then
                   ∃ q41 : Option Addr, ∃ k42 : Nat, ∃ k43 : Nat, (World.cell? w36 ⟨(w1).heap.size, (0 + 28), none⟩ = some (.slice (q41) k42 k43)) ∧
                   (¬ ((w1).heap.size ∈ L2)) ∧
                   X.CallX Try.prog 45 #[(.slice (a_28) a_28l a_28c), (.slice (q41) k42 k43)] w36 fun e44 w45 =>
                    ∃ b46 : Bool, (e44 = .returned (.bool b46)) ∧
                    (X.Kept L2 w36 w45) ∧
                    if ((true && b46) == true) = true then
                     ∃ q47 : Option Addr, ∃ k48 : Nat, ∃ k49 : Nat, (World.cell? w45 ⟨(w1).heap.size, (0 + 29), none⟩ = some (.slice (q47) k48 k49)) ∧
                     (¬ ((w1).heap.size ∈ L2)) ∧
                     X.CallX Try.prog 46 #[(.slice (a_29) a_29l a_29c), (.slice (q47) k48 k49)] w45 fun e50 w51 =>
                      ∃ b52 : Bool, (e50 = .returned (.bool b52)) ∧
                      (X.Kept L2 w45 w51) ∧
                      if ((true && b52) == true) = true then
                       ∃ q53 : Option Addr, ∃ k54 : Nat, ∃ k55 : Nat, (World.cell? w51 ⟨(w1).heap.size, (0 + 30), none⟩ = some (.slice (q53) k54 k55)) ∧
                       (¬ ((w1).heap.size ∈ L2)) ∧
                       X.CallX Try.prog 46 #[(.slice (a_30) a_30l a_30c), (.slice (q53) k54 k55)] w51 fun e56 w57 =>
                        ∃ b58 : Bool, (e56 = .returned (.bool b58)) ∧
                        (X.Kept L2 w51 w57) ∧
                        R (.returned (.bool (true && b58))) w57
                      else
                       R (.returned (.bool false)) w51
                    else
                     R (.returned (.bool false)) w45
                  else
                   R (.returned (.bool false)) w36
                 else
                  R (.returned (.bool false)) w36
                else
                 R (.returned (.bool false)) w36
              else
               R (.returned (.bool false)) w26
             else
              R (.returned (.bool false)) w26
           else
            R (.returned (.bool false)) (w1.alloc (.cells #[(.int .u8 b_0), (.int .u8 b_1), (.int .u8 b_2), (.int .u32 b_3), (.int .u32 b_4), (.int .u32 b_5), (.int .u32 b_6), (.int .u64 b_7), (.int .u64 b_8), (.int .u8 b_9), (.int .u16 b_10), (.int .u32 b_11), (.int .u8 b_12), (.int .u8 b_13), (.int .u8 b_14), (.int .u8 b_15), (.int .u8 b_16), (.int .u8 b_17), (.int .u8 b_18), (.slice (b_19) b_19l b_19c), (.int .u8 b_20), (.string b_21), (.int .u8 b_22), (.int .u32 b_23), (.slice (b_24) b_24l b_24c), (.int .u8 b_25), (.int .u16 b_26), (.bool b_27), (.slice (b_28) b_28l b_28c), (.slice (b_29) b_29l b_29c), (.slice (b_30) b_30l b_30c)] 40))
          else
           R (.returned (.bool false)) (w1.alloc (.cells #[(.int .u8 b_0), (.int .u8 b_1), (.int .u8 b_2), (.int .u32 b_3), (.int .u32 b_4), (.int .u32 b_5), (.int .u32 b_6), (.int .u64 b_7), (.int .u64 b_8), (.int .u8 b_9), (.int .u16 b_10), (.int .u32 b_11), (.int .u8 b_12), (.int .u8 b_13), (.int .u8 b_14), (.int .u8 b_15), (.int .u8 b_16), (.int .u8 b_17), (.int .u8 b_18), (.slice (b_19) b_19l b_19c), (.int .u8 b_20), (.string b_21), (.int .u8 b_22), (.int .u32 b_23), (.slice (b_24) b_24l b_24c), (.int .u8 b_25), (.int .u16 b_26), (.bool b_27), (.slice (b_28) b_28l b_28c), (.slice (b_29) b_29l b_29c), (.slice (b_30) b_30l b_30c)] 40))
         else
          R (.returned (.bool false)) (w1.alloc (.cells #[(.int .u8 b_0), (.int .u8 b_1), (.int .u8 b_2), (.int .u32 b_3), (.int .u32 b_4), (.int .u32 b_5), (.int .u32 b_6), (.int .u64 b_7), (.int .u64 b_8), (.int .u8 b_9), (.int .u16 b_10), (.int .u32 b_11), (.int .u8 b_12), (.int .u8 b_13), (.int .u8 b_14), (.int .u8 b_15), (.int .u8 b_16), (.int .u8 b_17), (.int .u8 b_18), (.slice (b_19) b_19l b_19c), (.int .u8 b_20), (.string b_21), (.int .u8 b_22), (.int .u32 b_23), (.slice (b_24) b_24l b_24c), (.int .u8 b_25), (.int .u16 b_26), (.bool b_27), (.slice (b_28) b_28l b_28c), (.slice (b_29) b_29l b_29c), (.slice (b_30) b_30l b_30c)] 40))
        else
         R (.returned (.bool false)) (w1.alloc (.cells #[(.int .u8 b_0), (.int .u8 b_1), (.int .u8 b_2), (.int .u32 b_3), (.int .u32 b_4), (.int .u32 b_5), (.int .u32 b_6), (.int .u64 b_7), (.int .u64 b_8), (.int .u8 b_9), (.int .u16 b_10), (.int .u32 b_11), (.int .u8 b_12), (.int .u8 b_13), (.int .u8 b_14), (.int .u8 b_15), (.int .u8 b_16), (.int .u8 b_17), (.int .u8 b_18), (.slice (b_19) b_19l b_19c), (.int .u8 b_20), (.string b_21), (.int .u8 b_22), (.int .u32 b_23), (.slice (b_24) b_24l b_24c), (.int .u8 b_25), (.int .u16 b_26), (.bool b_27), (.slice (b_28) b_28l b_28c), (.slice (b_29) b_29l b_29c), (.slice (b_30) b_30l b_30c)] 40))
       else
        R (.returned (.bool false)) (w1.alloc (.cells #[(.int .u8 b_0), (.int .u8 b_1), (.int .u8 b_2), (.int .u32 b_3), (.int .u32 b_4), (.int .u32 b_5), (.int .u32 b_6), (.int .u64 b_7), (.int .u64 b_8), (.int .u8 b_9), (.int .u16 b_10), (.int .u32 b_11), (.int .u8 b_12), (.int .u8 b_13), (.int .u8 b_14), (.int .u8 b_15), (.int .u8 b_16), (.int .u8 b_17), (.int .u8 b_18), (.slice (b_19) b_19l b_19c), (.int .u8 b_20), (.string b_21), (.int .u8 b_22), (.int .u32 b_23), (.slice (b_24) b_24l b_24c), (.int .u8 b_25), (.int .u16 b_26), (.bool b_27), (.slice (b_28) b_28l b_28c), (.slice (b_29) b_29l b_29c), (.slice (b_30) b_30l b_30c)] 40))
      else
       R (.returned (.bool false)) (w1.alloc (.cells #[(.int .u8 b_0), (.int .u8 b_1), (.int .u8 b_2), (.int .u32 b_3), (.int .u32 b_4), (.int .u32 b_5), (.int .u32 b_6), (.int .u64 b_7), (.int .u64 b_8), (.int .u8 b_9), (.int .u16 b_10), (.int .u32 b_11), (.int .u8 b_12), (.int .u8 b_13), (.int .u8 b_14), (.int .u8 b_15), (.int .u8 b_16), (.int .u8 b_17), (.int .u8 b_18), (.slice (b_19) b_19l b_19c), (.int .u8 b_20), (.string b_21), (.int .u8 b_22), (.int .u32 b_23), (.slice (b_24) b_24l b_24c), (.int .u8 b_25), (.int .u16 b_26), (.bool b_27), (.slice (b_28) b_28l b_28c), (.slice (b_29) b_29l b_29c), (.slice (b_30) b_30l b_30c)] 40))
     else
      R (.returned (.bool false)) (w1.alloc (.cells #[(.int .u8 b_0), (.int .u8 b_1), (.int .u8 b_2), (.int .u32 b_3), (.int .u32 b_4), (.int .u32 b_5), (.int .u32 b_6), (.int .u64 b_7), (.int .u64 b_8), (.int .u8 b_9), (.int .u16 b_10), (.int .u32 b_11), (.int .u8 b_12), (.int .u8 b_13), (.int .u8 b_14), (.int .u8 b_15), (.int .u8 b_16), (.int .u8 b_17), (.int .u8 b_18), (.slice (b_19) b_19l b_19c), (.int .u8 b_20), (.string b_21), (.int .u8 b_22), (.int .u32 b_23), (.slice (b_24) b_24l b_24c), (.int .u8 b_25), (.int .u16 b_26), (.bool b_27), (.slice (b_28) b_28l b_28c), (.slice (b_29) b_29l b_29c), (.slice (b_30) b_30l b_30c)] 40))
    else
     R (.returned (.bool false)) (w1.alloc (.cells #[(.int .u8 b_0), (.int .u8 b_1), (.int .u8 b_2), (.int .u32 b_3), (.int .u32 b_4), (.int .u32 b_5), (.int .u32 b_6), (.int .u64 b_7), (.int .u64 b_8), (.int .u8 b_9), (.int .u16 b_10), (.int .u32 b_11), (.int .u8 b_12), (.int .u8 b_13), (.int .u8 b_14), (.int .u8 b_15), (.int .u8 b_16), (.int .u8 b_17), (.int .u8 b_18), (.slice (b_19) b_19l b_19c), (.int .u8 b_20), (.string b_21), (.int .u8 b_22), (.int .u32 b_23), (.slice (b_24) b_24l b_24c), (.int .u8 b_25), (.int .u16 b_26), (.bool b_27), (.slice (b_28) b_28l b_28c), (.slice (b_29) b_29l b_29c), (.slice (b_30) b_30l b_30c)] 40))
   else
    R (.returned (.bool false)) (w1.alloc (.cells #[(.int .u8 b_0), (.int .u8 b_1), (.int .u8 b_2), (.int .u32 b_3), (.int .u32 b_4), (.int .u32 b_5), (.int .u32 b_6), (.int .u64 b_7), (.int .u64 b_8), (.int .u8 b_9), (.int .u16 b_10), (.int .u32 b_11), (.int .u8 b_12), (.int .u8 b_13), (.int .u8 b_14), (.int .u8 b_15), (.int .u8 b_16), (.int .u8 b_17), (.int .u8 b_18), (.slice (b_19) b_19l b_19c), (.int .u8 b_20), (.string b_21), (.int .u8 b_22), (.int .u32 b_23), (.slice (b_24) b_24l b_24c), (.int .u8 b_25), (.int .u16 b_26), (.bool b_27), (.slice (b_28) b_28l b_28c), (.slice (b_29) b_29l b_29c), (.slice (b_30) b_30l b_30c)] 40))
  else
   R (.returned (.bool false)) (w1.alloc (.cells #[(.int .u8 b_0), (.int .u8 b_1), (.int .u8 b_2), (.int .u32 b_3), (.int .u32 b_4), (.int .u32 b_5), (.int .u32 b_6), (.int .u64 b_7), (.int .u64 b_8), (.int .u8 b_9), (.int .u16 b_10), (.int .u32 b_11), (.int .u8 b_12), (.int .u8 b_13), (.int .u8 b_14), (.int .u8 b_15), (.int .u8 b_16), (.int .u8 b_17), (.int .u8 b_18), (.slice (b_19) b_19l b_19c), (.int .u8 b_20), (.string b_21), (.int .u8 b_22), (.int .u32 b_23), (.slice (b_24) b_24l b_24c), (.int .u8 b_25), (.int .u16 b_26), (.bool b_27), (.slice (b_28) b_28l b_28c), (.slice (b_29) b_29l b_29c), (.slice (b_30) b_30l b_30c)] 40))) :
    Calls Try.prog 13 #[.agg #[.int .u8 a_0, .int .u8 a_1, .int .u8 a_2, .int .u32 a_3, .int .u32 a_4, .int .u32 a_5, .int .u32 a_6, .int .u64 a_7, .int .u64 a_8, .int .u8 a_9, .int .u16 a_10, .int .u32 a_11, .int .u8 a_12, .int .u8 a_13, .int .u8 a_14, .int .u8 a_15, .int .u8 a_16, .int .u8 a_17, .int .u8 a_18, .slice a_19 a_19l a_19c, .int .u8 a_20, .string a_21, .int .u8 a_22, .int .u32 a_23, .slice a_24 a_24l a_24c, .int .u8 a_25, .int .u16 a_26, .bool a_27, .slice a_28 a_28l a_28c, .slice a_29 a_29l a_29c, .slice a_30 a_30l a_30c], .agg #[.int .u8 b_0, .int .u8 b_1, .int .u8 b_2, .int .u32 b_3, .int .u32 b_4, .int .u32 b_5, .int .u32 b_6, .int .u64 b_7, .int .u64 b_8, .int .u8 b_9, .int .u16 b_10, .int .u32 b_11, .int .u8 b_12, .int .u8 b_13, .int .u8 b_14, .int .u8 b_15, .int .u8 b_16, .int .u8 b_17, .int .u8 b_18, .slice b_19 b_19l b_19c, .int .u8 b_20, .string b_21, .int .u8 b_22, .int .u32 b_23, .slice b_24 b_24l b_24c, .int .u8 b_25, .int .u16 b_26, .bool b_27, .slice b_28 b_28l b_28c, .slice b_29 b_29l b_29c, .slice b_30 b_30l b_30c]] w R :=
  X.calls_of { isLoc := [2], sym := [], loops := [], joins := [] } Try.func13 (by kernel_rfl) h
abbrev fn_r7Right : Nat := 11
theorem x_r7Right (a_0 a_1 a_2 a_3 a_4 a_5 a_6 a_7 a_8 a_9 a_10 a_11 a_12 a_13 a_14 a_15 a_16 a_17 a_18 : Int) (a_19 : Option Addr) (a_19l a_19c : Nat) (a_20 : Int) (a_21 : ByteArray) (a_22 a_23 : Int) (a_24 : Option Addr) (a_24l a_24c : Nat) (a_25 a_26 : Int) (a_27 : Bool) (a_28 : Option Addr) (a_28l a_28c : Nat) (a_29 : Option Addr) (a_29l a_29c : Nat) (a_30 : Option Addr) (a_30l a_30c : Nat) (w : World) (R : Ending → World → Prop) (h :
  if (decide (a_0 > 13)) = true then
   ∀ w67 : World, (X.Hid [] w w67) →
   R (.returned (.bool false)) w67
  else
   ∀ w1 : World, ∀ L2 : List Nat, (X.Hid [] w w1) →
   (X.NewL (w).heap.size [] w w1 L2) →
   X.CallX Try.prog 36 #[(.agg #[(.int .u8 a_0), (.int .u8 a_1), (.int .u8 a_2), (.int .u32 a_3), (.int .u32 a_4), (.int .u32 a_5), (.int .u32 a_6), (.int .u64 a_7), (.int .u64 a_8), (.int .u8 a_9), (.int .u16 a_10), (.int .u32 a_11), (.int .u8 a_12), (.int .u8 a_13), (.int .u8 a_14), (.int .u8 a_15), (.int .u8 a_16), (.int .u8 a_17), (.int .u8 a_18), (.slice (a_19) a_19l a_19c), (.int .u8 a_20), (.string a_21), (.int .u8 a_22), (.int .u32 a_23), (.slice (a_24) a_24l a_24c), (.int .u8 a_25), (.int .u16 a_26), (.bool a_27), (.slice (a_28) a_28l a_28c), (.slice (a_29) a_29l a_29c), (.slice (a_30) a_30l a_30c)])] w1 fun e3 w4 =>
    ∃ s5 : ByteArray, (e3 = .returned (.string s5)) ∧
    (X.Kept L2 w1 w4) ∧
    ∃ x6 : Int → World → List Nat → Prop, ∃ x7 : Int → World → Nat, (x6 0 w4 (L2)) ∧
    ∀ n8 : Int, ∀ w9 : World, ∀ L10 : List Nat, (X.LF (w).heap.size w9 L10) →
    (x6 n8 w9 L10) →
    if (decide (n8 < (((s5.size) : Nat) : Int))) = true then
     ∃ x60 : X.Facts, (X.FactsW x60 w9 (L10)) ∧
     ((0 : Int) ≤ n8) ∧
     ∃ x61 : UInt8, ((s5.data[n8.toNat]?) = some x61) ∧
     ∀ w62 : World, ∀ L63 : List Nat, (X.Hid (L10) w9 w62) →
     (X.NewL (w).heap.size (L10) w9 w62 L63) →
     X.CallX Try.prog 37 #[(.agg #[(.int .u8 a_0), (.int .u8 a_1), (.int .u8 a_2), (.int .u32 a_3), (.int .u32 a_4), (.int .u32 a_5), (.int .u32 a_6), (.int .u64 a_7), (.int .u64 a_8), (.int .u8 a_9), (.int .u16 a_10), (.int .u32 a_11), (.int .u8 a_12), (.int .u8 a_13), (.int .u8 a_14), (.int .u8 a_15), (.int .u8 a_16), (.int .u8 a_17), (.int .u8 a_18), (.slice (a_19) a_19l a_19c), (.int .u8 a_20), (.string a_21), (.int .u8 a_22), (.int .u32 a_23), (.slice (a_24) a_24l a_24c), (.int .u8 a_25), (.int .u16 a_26), (.bool a_27), (.slice (a_28) a_28l a_28c), (.slice (a_29) a_29l a_29c), (.slice (a_30) a_30l a_30c)]), (.int .u8 (((x61.toNat) : Nat) : Int))] w62 fun e64 w65 =>
      ∃ b66 : Bool, (e64 = .returned (.bool b66)) ∧
      (X.Kept L63 w62 w65) ∧
      if (!b66) = true then
       R (.returned (.bool false)) w65
      else
       (([(.int .u8 a_0), (.int .u8 a_1), (.int .u8 a_2), (.int .u32 a_3), (.int .u32 a_4), (.int .u32 a_5), (.int .u32 a_6), (.int .u64 a_7), (.int .u64 a_8), (.int .u8 a_9), (.int .u16 a_10), (.int .u32 a_11), (.int .u8 a_12), (.int .u8 a_13), (.int .u8 a_14), (.int .u8 a_15), (.int .u8 a_16), (.int .u8 a_17), (.int .u8 a_18), (.slice (a_19) a_19l a_19c), (.int .u8 a_20), (.string a_21), (.int .u8 a_22), (.int .u32 a_23), (.slice (a_24) a_24l a_24c), (.int .u8 a_25), (.int .u16 a_26), (.bool a_27), (.slice (a_28) a_28l a_28c), (.slice (a_29) a_29l a_29c), (.slice (a_30) a_30l a_30c)] : List Value) = [(.int .u8 a_0), (.int .u8 a_1), (.int .u8 a_2), (.int .u32 a_3), (.int .u32 a_4), (.int .u32 a_5), (.int .u32 a_6), (.int .u64 a_7), (.int .u64 a_8), (.int .u8 a_9), (.int .u16 a_10), (.int .u32 a_11), (.int .u8 a_12), (.int .u8 a_13), (.int .u8 a_14), (.int .u8 a_15), (.int .u8 a_16), (.int .u8 a_17), (.int .u8 a_18), (.slice (a_19) a_19l a_19c), (.int .u8 a_20), (.string a_21), (.int .u8 a_22), (.int .u32 a_23), (.slice (a_24) a_24l a_24c), (.int .u8 a_25), (.int .u16 a_26), (.bool a_27), (.slice (a_28) a_28l a_28c), (.slice (a_29) a_29l a_29c), (.slice (a_30) a_30l a_30c)]) ∧
       (x6 (IntKind.wrap .i64 (n8 + 1)) w65 (L63)) ∧
       Nat.le ((x7 (IntKind.wrap .i64 (n8 + 1)) w65) + 1) (x7 n8 w9)
    else
     ∃ x11 : X.Facts, (X.FactsW x11 w9 (L10)) ∧
     ∀ w12 : World, ∀ L13 : List Nat, (X.Hid (L10) w9 w12) →
     (X.NewL (w).heap.size (L10) w9 w12 L13) →
     X.CallX Try.prog 38 #[(.agg #[(.int .u8 a_0), (.int .u8 a_1), (.int .u8 a_2), (.int .u32 a_3), (.int .u32 a_4), (.int .u32 a_5), (.int .u32 a_6), (.int .u64 a_7), (.int .u64 a_8), (.int .u8 a_9), (.int .u16 a_10), (.int .u32 a_11), (.int .u8 a_12), (.int .u8 a_13), (.int .u8 a_14), (.int .u8 a_15), (.int .u8 a_16), (.int .u8 a_17), (.int .u8 a_18), (.slice (a_19) a_19l a_19c), (.int .u8 a_20), (.string a_21), (.int .u8 a_22), (.int .u32 a_23), (.slice (a_24) a_24l a_24c), (.int .u8 a_25), (.int .u16 a_26), (.bool a_27), (.slice (a_28) a_28l a_28c), (.slice (a_29) a_29l a_29c), (.slice (a_30) a_30l a_30c)]), (.string s5)] w12 fun e14 w15 =>
      ∃ n16 : Int, ∃ n17 : Int, ∃ n18 : Int, ∃ n19 : Int, ∃ n20 : Int, ∃ n21 : Int, ∃ n22 : Int, ∃ n23 : Int, ∃ n24 : Int, ∃ n25 : Int, ∃ n26 : Int, ∃ n27 : Int, ∃ n28 : Int, ∃ n29 : Int, ∃ n30 : Int, ∃ n31 : Int, ∃ n32 : Int, ∃ n33 : Int, ∃ n34 : Int, ∃ q35 : Option Addr, ∃ k36 : Nat, ∃ k37 : Nat, ∃ n38 : Int, ∃ s39 : ByteArray, ∃ n40 : Int, ∃ n41 : Int, ∃ q42 : Option Addr, ∃ k43 : Nat, ∃ k44 : Nat, ∃ n45 : Int, ∃ n46 : Int, ∃ b47 : Bool, ∃ q48 : Option Addr, ∃ k49 : Nat, ∃ k50 : Nat, ∃ q51 : Option Addr, ∃ k52 : Nat, ∃ k53 : Nat, ∃ q54 : Option Addr, ∃ k55 : Nat, ∃ k56 : Nat, (e14 = .returned (.agg #[(.int .u8 n16), (.int .u8 n17), (.int .u8 n18), (.int .u32 n19), (.int .u32 n20), (.int .u32 n21), (.int .u32 n22), (.int .u64 n23), (.int .u64 n24), (.int .u8 n25), (.int .u16 n26), (.int .u32 n27), (.int .u8 n28), (.int .u8 n29), (.int .u8 n30), (.int .u8 n31), (.int .u8 n32), (.int .u8 n33), (.int .u8 n34), (.slice (q35) k36 k37), (.int .u8 n38), (.string s39), (.int .u8 n40), (.int .u32 n41), (.slice (q42) k43 k44), (.int .u8 n45), (.int .u16 n46), (.bool b47), (.slice (q48) k49 k50), (.slice (q51) k52 k53), (.slice (q54) k55 k56)])) ∧
      (X.Kept L13 w12 w15) ∧
      (X.FactsW x11 w15 (L13)) ∧
      X.CallX Try.prog 13 #[(.agg #[(.int .u8 a_0), (.int .u8 a_1), (.int .u8 a_2), (.int .u32 a_3), (.int .u32 a_4), (.int .u32 a_5), (.int .u32 a_6), (.int .u64 a_7), (.int .u64 a_8), (.int .u8 a_9), (.int .u16 a_10), (.int .u32 a_11), (.int .u8 a_12), (.int .u8 a_13), (.int .u8 a_14), (.int .u8 a_15), (.int .u8 a_16), (.int .u8 a_17), (.int .u8 a_18), (.slice (a_19) a_19l a_19c), (.int .u8 a_20), (.string a_21), (.int .u8 a_22), (.int .u32 a_23), (.slice (a_24) a_24l a_24c), (.int .u8 a_25), (.int .u16 a_26), (.bool a_27), (.slice (a_28) a_28l a_28c), (.slice (a_29) a_29l a_29c), (.slice (a_30) a_30l a_30c)]), (.agg #[(.int .u8 n16), (.int .u8 n17), (.int .u8 n18), (.int .u32 n19), (.int .u32 n20), (.int .u32 n21), (.int .u32 n22), (.int .u64 n23), (.int .u64 n24), (.int .u8 n25), (.int .u16 n26), (.int .u32 n27), (.int .u8 n28), (.int .u8 n29), (.int .u8 n30), (.int .u8 n31), (.int .u8 n32), (.int .u8 n33), (.int .u8 n34), (.slice (q35) k36 k37), (.int .u8 n38), (.string s39), (.int .u8 n40), (.int .u32 n41), (.slice (q42) k43 k44), (.int .u8 n45), (.int .u16 n46), (.bool b47), (.slice (q48) k49 k50), (.slice (q51) k52 k53), (.slice (q54) k55 k56)])] w15 fun e57 w58 =>
       ∃ b59 : Bool, (e57 = .returned (.bool b59)) ∧
       (X.Kept L13 w15 w58) ∧
       (X.FactsW x11 w58 (L13)) ∧
       R (.returned (.bool b59)) w58) :
    Calls Try.prog 11 #[.agg #[.int .u8 a_0, .int .u8 a_1, .int .u8 a_2, .int .u32 a_3, .int .u32 a_4, .int .u32 a_5, .int .u32 a_6, .int .u64 a_7, .int .u64 a_8, .int .u8 a_9, .int .u16 a_10, .int .u32 a_11, .int .u8 a_12, .int .u8 a_13, .int .u8 a_14, .int .u8 a_15, .int .u8 a_16, .int .u8 a_17, .int .u8 a_18, .slice a_19 a_19l a_19c, .int .u8 a_20, .string a_21, .int .u8 a_22, .int .u32 a_23, .slice a_24 a_24l a_24c, .int .u8 a_25, .int .u16 a_26, .bool a_27, .slice a_28 a_28l a_28c, .slice a_29 a_29l a_29c, .slice a_30 a_30l a_30c]] w R :=
  X.calls_of { isLoc := [1], sym := [19], loops := [(5, .inv [(4, .int .i64)] [] true)], joins := [] } Try.func11 (by kernel_rfl) h
end Go.Proofs
/- The verification conditions of this seat's functions, as the engine has them: printed by a program of the bench; checked by the kernel. -/
namespace Go.Proofs
open Go
abbrev fn_rOnly : Nat := 38
theorem x_rOnly (a_0 a_1 a_2 a_3 a_4 a_5 a_6 a_7 a_8 a_9 a_10 a_11 a_12 a_13 a_14 a_15 a_16 a_17 a_18 : Int) (a_19 : Option Addr) (a_19l a_19c : Nat) (a_20 : Int) (a_21 : ByteArray) (a_22 a_23 : Int) (a_24 : Option Addr) (a_24l a_24c : Nat) (a_25 a_26 : Int) (a_27 : Bool) (a_28 : Option Addr) (a_28l a_28c : Nat) (a_29 : Option Addr) (a_29l a_29c : Nat) (a_30 : Option Addr) (a_30l a_30c : Nat) (b : ByteArray) (w : World) (R : Ending → World → Prop) (h :
  ∀ w1 : World, ∀ L2 : List Nat, (X.Hid [] w w1) →
  (X.NewL (w).heap.size [] w w1 L2) →
  ∃ x3 : Int → Int → Int → Int → Int → Int → Int → Int → Int → Int → Int → Int → Int → Int → Int → Int → Int → Int → Int → Int → Option Addr → Nat → Nat → Int → ByteArray → Int → Int → Option Addr → Nat → Nat → Int → Int → Bool → Option Addr → Nat → Nat → Option Addr → Nat → Nat → Option Addr → Nat → Nat → World → List Nat → Prop, ∃ x4 : Int → Int → Int → Int → Int → Int → Int → Int → Int → Int → Int → Int → Int → Int → Int → Int → Int → Int → Int → Int → Option Addr → Nat → Nat → Int → ByteArray → Int → Int → Option Addr → Nat → Nat → Int → Int → Bool → Option Addr → Nat → Nat → Option Addr → Nat → Nat → Option Addr → Nat → Nat → World → Nat, (x3 0 a_0 0 0 0 0 0 0 0 0 0 0 0 0 0 0 0 0 0 0 (none) 0 0 0 (ByteArray.mk #[]) 0 0 (none) 0 0 0 0 false (none) 0 0 (none) 0 0 (none) 0 0 w1 (L2)) ∧
  ∀ n5 : Int, ∀ n6 : Int, ∀ n7 : Int, ∀ n8 : Int, ∀ n9 : Int, ∀ n10 : Int, ∀ n11 : Int, ∀ n12 : Int, ∀ n13 : Int, ∀ n14 : Int, ∀ n15 : Int, ∀ n16 : Int, ∀ n17 : Int, ∀ n18 : Int, ∀ n19 : Int, ∀ n20 : Int, ∀ n21 : Int, ∀ n22 : Int, ∀ n23 : Int, ∀ n24 : Int, ∀ q25 : Option Addr, ∀ k26 : Nat, ∀ k27 : Nat, ∀ n28 : Int, ∀ s29 : ByteArray, ∀ n30 : Int, ∀ n31 : Int, ∀ q32 : Option Addr, ∀ k33 : Nat, ∀ k34 : Nat, ∀ n35 : Int, ∀ n36 : Int, ∀ b37 : Bool, ∀ q38 : Option Addr, ∀ k39 : Nat, ∀ k40 : Nat, ∀ q41 : Option Addr, ∀ k42 : Nat, ∀ k43 : Nat, ∀ q44 : Option Addr, ∀ k45 : Nat, ∀ k46 : Nat, ∀ w47 : World, ∀ L48 : List Nat, (X.LF (w).heap.size w47 L48) →
  (x3 n5 n6 n7 n8 n9 n10 n11 n12 n13 n14 n15 n16 n17 n18 n19 n20 n21 n22 n23 n24 q25 k26 k27 n28 s29 n30 n31 q32 k33 k34 n35 n36 b37 q38 k39 k40 q41 k42 k43 q44 k45 k46 w47 L48) →
  if (decide (n5 < (((b.size) : Nat) : Int))) = true then
   ((0 : Int) ≤ n5) ∧
   ∃ x50 : UInt8, ((b.data[n5.toNat]?) = some x50) ∧
   if ((((x50.toNat) : Nat) : Int) == 103) = true then
    ∀ w81 : World, ∀ L82 : List Nat, (X.Hid (L48) w47 w81) →
    (X.NewL (w).heap.size (L48) w47 w81 L82) →
    (([(.int .u8 a_0), (.int .u8 a_1), (.int .u8 a_2), (.int .u32 a_3), (.int .u32 a_4), (.int .u32 a_5), (.int .u32 a_6), (.int .u64 a_7), (.int .u64 a_8), (.int .u8 a_9), (.int .u16 a_10), (.int .u32 a_11), (.int .u8 a_12), (.int .u8 a_13), (.int .u8 a_14), (.int .u8 a_15), (.int .u8 a_16), (.int .u8 a_17), (.int .u8 a_18), (.slice (a_19) a_19l a_19c), (.int .u8 a_20), (.string a_21), (.int .u8 a_22), (.int .u32 a_23), (.slice (a_24) a_24l a_24c), (.int .u8 a_25), (.int .u16 a_26), (.bool a_27), (.slice (a_28) a_28l a_28c), (.slice (a_29) a_29l a_29c), (.slice (a_30) a_30l a_30c)] : List Value) = [(.int .u8 a_0), (.int .u8 a_1), (.int .u8 a_2), (.int .u32 a_3), (.int .u32 a_4), (.int .u32 a_5), (.int .u32 a_6), (.int .u64 a_7), (.int .u64 a_8), (.int .u8 a_9), (.int .u16 a_10), (.int .u32 a_11), (.int .u8 a_12), (.int .u8 a_13), (.int .u8 a_14), (.int .u8 a_15), (.int .u8 a_16), (.int .u8 a_17), (.int .u8 a_18), (.slice (a_19) a_19l a_19c), (.int .u8 a_20), (.string a_21), (.int .u8 a_22), (.int .u32 a_23), (.slice (a_24) a_24l a_24c), (.int .u8 a_25), (.int .u16 a_26), (.bool a_27), (.slice (a_28) a_28l a_28c), (.slice (a_29) a_29l a_29c), (.slice (a_30) a_30l a_30c)]) ∧
    (([(.int .u8 0), (.int .u8 0), (.int .u8 0), (.int .u32 0), (.int .u32 0), (.int .u32 0), (.int .u32 0), (.int .u64 0), (.int .u64 0), (.int .u8 0), (.int .u16 0), (.int .u32 0), (.int .u8 0), (.int .u8 0), (.int .u8 0), (.int .u8 0), (.int .u8 0), (.int .u8 0), (.int .u8 0), (.slice none 0 0), (.int .u8 0), (.string (ByteArray.mk #[])), (.int .u8 0), (.int .u32 0), (.slice none 0 0), (.int .u8 0), (.int .u16 0), (.bool false), (.slice none 0 0), (.slice none 0 0), (.slice none 0 0)] : List Value) = [(.int .u8 0), (.int .u8 0), (.int .u8 0), (.int .u32 0), (.int .u32 0), (.int .u32 0), (.int .u32 0), (.int .u64 0), (.int .u64 0), (.int .u8 0), (.int .u16 0), (.int .u32 0), (.int .u8 0), (.int .u8 0), (.int .u8 0), (.int .u8 0), (.int .u8 0), (.int .u8 0), (.int .u8 0), (.slice none 0 0), (.int .u8 0), (.string (ByteArray.mk #[])), (.int .u8 0), (.int .u32 0), (.slice none 0 0), (.int .u8 0), (.int .u16 0), (.bool false), (.slice none 0 0), (.slice none 0 0), (.slice none 0 0)]) ∧
    (x3 (IntKind.wrap .i64 (n5 + 1)) n6 a_1 n8 n9 n10 n11 n12 n13 n14 n15 n16 n17 n18 n19 n20 n21 n22 n23 n24 q25 k26 k27 n28 s29 n30 n31 q32 k33 k34 n35 n36 b37 q38 k39 k40 q41 k42 k43 q44 k45 k46 w81 (L82)) ∧
    Nat.le ((x4 (IntKind.wrap .i64 (n5 + 1)) n6 a_1 n8 n9 n10 n11 n12 n13 n14 n15 n16 n17 n18 n19 n20 n21 n22 n23 n24 q25 k26 k27 n28 s29 n30 n31 q32 k33 k34 n35 n36 b37 q38 k39 k40 q41 k42 k43 q44 k45 k46 w81) + 1) (x4 n5 n6 n7 n8 n9 n10 n11 n12 n13 n14 n15 n16 n17 n18 n19 n20 n21 n22 n23 n24 q25 k26 k27 n28 s29 n30 n31 q32 k33 k34 n35 n36 b37 q38 k39 k40 q41 k42 k43 q44 k45 k46 w47)
   else
    if ((((x50.toNat) : Nat) : Int) == 105) = true then
     ∀ w79 : World, ∀ L80 : List Nat, (X.Hid (L48) w47 w79) →
     (X.NewL (w).heap.size (L48) w47 w79 L80) →
     (([(.int .u8 a_0), (.int .u8 a_1), (.int .u8 a_2), (.int .u32 a_3), (.int .u32 a_4), (.int .u32 a_5), (.int .u32 a_6), (.int .u64 a_7), (.int .u64 a_8), (.int .u8 a_9), (.int .u16 a_10), (.int .u32 a_11), (.int .u8 a_12), (.int .u8 a_13), (.int .u8 a_14), (.int .u8 a_15), (.int .u8 a_16), (.int .u8 a_17), (.int .u8 a_18), (.slice (a_19) a_19l a_19c), (.int .u8 a_20), (.string a_21), (.int .u8 a_22), (.int .u32 a_23), (.slice (a_24) a_24l a_24c), (.int .u8 a_25), (.int .u16 a_26), (.bool a_27), (.slice (a_28) a_28l a_28c), (.slice (a_29) a_29l a_29c), (.slice (a_30) a_30l a_30c)] : List Value) = [(.int .u8 a_0), (.int .u8 a_1), (.int .u8 a_2), (.int .u32 a_3), (.int .u32 a_4), (.int .u32 a_5), (.int .u32 a_6), (.int .u64 a_7), (.int .u64 a_8), (.int .u8 a_9), (.int .u16 a_10), (.int .u32 a_11), (.int .u8 a_12), (.int .u8 a_13), (.int .u8 a_14), (.int .u8 a_15), (.int .u8 a_16), (.int .u8 a_17), (.int .u8 a_18), (.slice (a_19) a_19l a_19c), (.int .u8 a_20), (.string a_21), (.int .u8 a_22), (.int .u32 a_23), (.slice (a_24) a_24l a_24c), (.int .u8 a_25), (.int .u16 a_26), (.bool a_27), (.slice (a_28) a_28l a_28c), (.slice (a_29) a_29l a_29c), (.slice (a_30) a_30l a_30c)]) ∧
     (([(.int .u8 0), (.int .u8 0), (.int .u8 0), (.int .u32 0), (.int .u32 0), (.int .u32 0), (.int .u32 0), (.int .u64 0), (.int .u64 0), (.int .u8 0), (.int .u16 0), (.int .u32 0), (.int .u8 0), (.int .u8 0), (.int .u8 0), (.int .u8 0), (.int .u8 0), (.int .u8 0), (.int .u8 0), (.slice none 0 0), (.int .u8 0), (.string (ByteArray.mk #[])), (.int .u8 0), (.int .u32 0), (.slice none 0 0), (.int .u8 0), (.int .u16 0), (.bool false), (.slice none 0 0), (.slice none 0 0), (.slice none 0 0)] : List Value) = [(.int .u8 0), (.int .u8 0), (.int .u8 0), (.int .u32 0), (.int .u32 0), (.int .u32 0), (.int .u32 0), (.int .u64 0), (.int .u64 0), (.int .u8 0), (.int .u16 0), (.int .u32 0), (.int .u8 0), (.int .u8 0), (.int .u8 0), (.int .u8 0), (.int .u8 0), (.int .u8 0), (.int .u8 0), (.slice none 0 0), (.int .u8 0), (.string (ByteArray.mk #[])), (.int .u8 0), (.int .u32 0), (.slice none 0 0), (.int .u8 0), (.int .u16 0), (.bool false), (.slice none 0 0), (.slice none 0 0), (.slice none 0 0)]) ∧
     (x3 (IntKind.wrap .i64 (n5 + 1)) n6 n7 n8 n9 n10 n11 n12 n13 n14 a_9 a_10 a_11 a_12 a_13 a_14 a_15 a_16 a_17 a_18 q25 k26 k27 n28 s29 n30 n31 q32 k33 k34 n35 n36 b37 q38 k39 k40 q41 k42 k43 q44 k45 k46 w79 (L80)) ∧
     Nat.le ((x4 (IntKind.wrap .i64 (n5 + 1)) n6 n7 n8 n9 n10 n11 n12 n13 n14 a_9 a_10 a_11 a_12 a_13 a_14 a_15 a_16 a_17 a_18 q25 k26 k27 n28 s29 n30 n31 q32 k33 k34 n35 n36 b37 q38 k39 k40 q41 k42 k43 q44 k45 k46 w79) + 1) (x4 n5 n6 n7 n8 n9 n10 n11 n12 n13 n14 n15 n16 n17 n18 n19 n20 n21 n22 n23 n24 q25 k26 k27 n28 s29 n30 n31 q32 k33 k34 n35 n36 b37 q38 k39 k40 q41 k42 k43 q44 k45 k46 w47)
    else
     if ((((x50.toNat) : Nat) : Int) == 102) = true then
      ∀ w77 : World, ∀ L78 : List Nat, (X.Hid (L48) w47 w77) →
      (X.NewL (w).heap.size (L48) w47 w77 L78) →
      (([(.int .u8 a_0), (.int .u8 a_1), (.int .u8 a_2), (.int .u32 a_3), (.int .u32 a_4), (.int .u32 a_5), (.int .u32 a_6), (.int .u64 a_7), (.int .u64 a_8), (.int .u8 a_9), (.int .u16 a_10), (.int .u32 a_11), (.int .u8 a_12), (.int .u8 a_13), (.int .u8 a_14), (.int .u8 a_15), (.int .u8 a_16), (.int .u8 a_17), (.int .u8 a_18), (.slice (a_19) a_19l a_19c), (.int .u8 a_20), (.string a_21), (.int .u8 a_22), (.int .u32 a_23), (.slice (a_24) a_24l a_24c), (.int .u8 a_25), (.int .u16 a_26), (.bool a_27), (.slice (a_28) a_28l a_28c), (.slice (a_29) a_29l a_29c), (.slice (a_30) a_30l a_30c)] : List Value) = [(.int .u8 a_0), (.int .u8 a_1), (.int .u8 a_2), (.int .u32 a_3), (.int .u32 a_4), (.int .u32 a_5), (.int .u32 a_6), (.int .u64 a_7), (.int .u64 a_8), (.int .u8 a_9), (.int .u16 a_10), (.int .u32 a_11), (.int .u8 a_12), (.int .u8 a_13), (.int .u8 a_14), (.int .u8 a_15), (.int .u8 a_16), (.int .u8 a_17), (.int .u8 a_18), (.slice (a_19) a_19l a_19c), (.int .u8 a_20), (.string a_21), (.int .u8 a_22), (.int .u32 a_23), (.slice (a_24) a_24l a_24c), (.int .u8 a_25), (.int .u16 a_26), (.bool a_27), (.slice (a_28) a_28l a_28c), (.slice (a_29) a_29l a_29c), (.slice (a_30) a_30l a_30c)]) ∧
      (([(.int .u8 0), (.int .u8 0), (.int .u8 0), (.int .u32 0), (.int .u32 0), (.int .u32 0), (.int .u32 0), (.int .u64 0), (.int .u64 0), (.int .u8 0), (.int .u16 0), (.int .u32 0), (.int .u8 0), (.int .u8 0), (.int .u8 0), (.int .u8 0), (.int .u8 0), (.int .u8 0), (.int .u8 0), (.slice none 0 0), (.int .u8 0), (.string (ByteArray.mk #[])), (.int .u8 0), (.int .u32 0), (.slice none 0 0), (.int .u8 0), (.int .u16 0), (.bool false), (.slice none 0 0), (.slice none 0 0), (.slice none 0 0)] : List Value) = [(.int .u8 0), (.int .u8 0), (.int .u8 0), (.int .u32 0), (.int .u32 0), (.int .u32 0), (.int .u32 0), (.int .u64 0), (.int .u64 0), (.int .u8 0), (.int .u16 0), (.int .u32 0), (.int .u8 0), (.int .u8 0), (.int .u8 0), (.int .u8 0), (.int .u8 0), (.int .u8 0), (.int .u8 0), (.slice none 0 0), (.int .u8 0), (.string (ByteArray.mk #[])), (.int .u8 0), (.int .u32 0), (.slice none 0 0), (.int .u8 0), (.int .u16 0), (.bool false), (.slice none 0 0), (.slice none 0 0), (.slice none 0 0)]) ∧
      (x3 (IntKind.wrap .i64 (n5 + 1)) n6 n7 n8 n9 n10 n11 a_6 n13 n14 n15 n16 n17 n18 n19 n20 n21 n22 n23 n24 q25 k26 k27 n28 s29 n30 n31 q32 k33 k34 n35 n36 b37 q38 k39 k40 q41 k42 k43 q44 k45 k46 w77 (L78)) ∧
      Nat.le ((x4 (IntKind.wrap .i64 (n5 + 1)) n6 n7 n8 n9 n10 n11 a_6 n13 n14 n15 n16 n17 n18 n19 n20 n21 n22 n23 n24 q25 k26 k27 n28 s29 n30 n31 q32 k33 k34 n35 n36 b37 q38 k39 k40 q41 k42 k43 q44 k45 k46 w77) + 1) (x4 n5 n6 n7 n8 n9 n10 n11 n12 n13 n14 n15 n16 n17 n18 n19 n20 n21 n22 n23 n24 q25 k26 k27 n28 s29 n30 n31 q32 k33 k34 n35 n36 b37 q38 k39 k40 q41 k42 k43 q44 k45 k46 w47)
     else
      if ((((x50.toNat) : Nat) : Int) == 112) = true then
       ∀ w75 : World, ∀ L76 : List Nat, (X.Hid (L48) w47 w75) →
       (X.NewL (w).heap.size (L48) w47 w75 L76) →
       (([(.int .u8 a_0), (.int .u8 a_1), (.int .u8 a_2), (.int .u32 a_3), (.int .u32 a_4), (.int .u32 a_5), (.int .u32 a_6), (.int .u64 a_7), (.int .u64 a_8), (.int .u8 a_9), (.int .u16 a_10), (.int .u32 a_11), (.int .u8 a_12), (.int .u8 a_13), (.int .u8 a_14), (.int .u8 a_15), (.int .u8 a_16), (.int .u8 a_17), (.int .u8 a_18), (.slice (a_19) a_19l a_19c), (.int .u8 a_20), (.string a_21), (.int .u8 a_22), (.int .u32 a_23), (.slice (a_24) a_24l a_24c), (.int .u8 a_25), (.int .u16 a_26), (.bool a_27), (.slice (a_28) a_28l a_28c), (.slice (a_29) a_29l a_29c), (.slice (a_30) a_30l a_30c)] : List Value) = [(.int .u8 a_0), (.int .u8 a_1), (.int .u8 a_2), (.int .u32 a_3), (.int .u32 a_4), (.int .u32 a_5), (.int .u32 a_6), (.int .u64 a_7), (.int .u64 a_8), (.int .u8 a_9), (.int .u16 a_10), (.int .u32 a_11), (.int .u8 a_12), (.int .u8 a_13), (.int .u8 a_14), (.int .u8 a_15), (.int .u8 a_16), (.int .u8 a_17), (.int .u8 a_18), (.slice (a_19) a_19l a_19c), (.int .u8 a_20), (.string a_21), (.int .u8 a_22), (.int .u32 a_23), (.slice (a_24) a_24l a_24c), (.int .u8 a_25), (.int .u16 a_26), (.bool a_27), (.slice (a_28) a_28l a_28c), (.slice (a_29) a_29l a_29c), (.slice (a_30) a_30l a_30c)]) ∧
       (([(.int .u8 0), (.int .u8 0), (.int .u8 0), (.int .u32 0), (.int .u32 0), (.int .u32 0), (.int .u32 0), (.int .u64 0), (.int .u64 0), (.int .u8 0), (.int .u16 0), (.int .u32 0), (.int .u8 0), (.int .u8 0), (.int .u8 0), (.int .u8 0), (.int .u8 0), (.int .u8 0), (.int .u8 0), (.slice none 0 0), (.int .u8 0), (.string (ByteArray.mk #[])), (.int .u8 0), (.int .u32 0), (.slice none 0 0), (.int .u8 0), (.int .u16 0), (.bool false), (.slice none 0 0), (.slice none 0 0), (.slice none 0 0)] : List Value) = [(.int .u8 0), (.int .u8 0), (.int .u8 0), (.int .u32 0), (.int .u32 0), (.int .u32 0), (.int .u32 0), (.int .u64 0), (.int .u64 0), (.int .u8 0), (.int .u16 0), (.int .u32 0), (.int .u8 0), (.int .u8 0), (.int .u8 0), (.int .u8 0), (.int .u8 0), (.int .u8 0), (.int .u8 0), (.slice none 0 0), (.int .u8 0), (.string (ByteArray.mk #[])), (.int .u8 0), (.int .u32 0), (.slice none 0 0), (.int .u8 0), (.int .u16 0), (.bool false), (.slice none 0 0), (.slice none 0 0), (.slice none 0 0)]) ∧
       (x3 (IntKind.wrap .i64 (n5 + 1)) n6 n7 n8 n9 n10 n11 n12 n13 n14 n15 n16 n17 n18 n19 n20 n21 n22 n23 n24 a_19 a_19l a_19c n28 s29 n30 n31 q32 k33 k34 n35 n36 b37 q38 k39 k40 q41 k42 k43 q44 k45 k46 w75 (L76)) ∧
       Nat.le ((x4 (IntKind.wrap .i64 (n5 + 1)) n6 n7 n8 n9 n10 n11 n12 n13 n14 n15 n16 n17 n18 n19 n20 n21 n22 n23 n24 a_19 a_19l a_19c n28 s29 n30 n31 q32 k33 k34 n35 n36 b37 q38 k39 k40 q41 k42 k43 q44 k45 k46 w75) + 1) (x4 n5 n6 n7 n8 n9 n10 n11 n12 n13 n14 n15 n16 n17 n18 n19 n20 n21 n22 n23 n24 q25 k26 k27 n28 s29 n30 n31 q32 k33 k34 n35 n36 b37 q38 k39 k40 q41 k42 k43 q44 k45 k46 w47)
      else
       if ((((x50.toNat) : Nat) : Int) == 114) = true then
        ∀ w73 : World, ∀ L74 : List Nat, (X.Hid (L48) w47 w73) →
        (X.NewL (w).heap.size (L48) w47 w73 L74) →
        (([(.int .u8 a_0), (.int .u8 a_1), (.int .u8 a_2), (.int .u32 a_3), (.int .u32 a_4), (.int .u32 a_5), (.int .u32 a_6), (.int .u64 a_7), (.int .u64 a_8), (.int .u8 a_9), (.int .u16 a_10), (.int .u32 a_11), (.int .u8 a_12), (.int .u8 a_13), (.int .u8 a_14), (.int .u8 a_15), (.int .u8 a_16), (.int .u8 a_17), (.int .u8 a_18), (.slice (a_19) a_19l a_19c), (.int .u8 a_20), (.string a_21), (.int .u8 a_22), (.int .u32 a_23), (.slice (a_24) a_24l a_24c), (.int .u8 a_25), (.int .u16 a_26), (.bool a_27), (.slice (a_28) a_28l a_28c), (.slice (a_29) a_29l a_29c), (.slice (a_30) a_30l a_30c)] : List Value) = [(.int .u8 a_0), (.int .u8 a_1), (.int .u8 a_2), (.int .u32 a_3), (.int .u32 a_4), (.int .u32 a_5), (.int .u32 a_6), (.int .u64 a_7), (.int .u64 a_8), (.int .u8 a_9), (.int .u16 a_10), (.int .u32 a_11), (.int .u8 a_12), (.int .u8 a_13), (.int .u8 a_14), (.int .u8 a_15), (.int .u8 a_16), (.int .u8 a_17), (.int .u8 a_18), (.slice (a_19) a_19l a_19c), (.int .u8 a_20), (.string a_21), (.int .u8 a_22), (.int .u32 a_23), (.slice (a_24) a_24l a_24c), (.int .u8 a_25), (.int .u16 a_26), (.bool a_27), (.slice (a_28) a_28l a_28c), (.slice (a_29) a_29l a_29c), (.slice (a_30) a_30l a_30c)]) ∧
        (([(.int .u8 0), (.int .u8 0), (.int .u8 0), (.int .u32 0), (.int .u32 0), (.int .u32 0), (.int .u32 0), (.int .u64 0), (.int .u64 0), (.int .u8 0), (.int .u16 0), (.int .u32 0), (.int .u8 0), (.int .u8 0), (.int .u8 0), (.int .u8 0), (.int .u8 0), (.int .u8 0), (.int .u8 0), (.slice none 0 0), (.int .u8 0), (.string (ByteArray.mk #[])), (.int .u8 0), (.int .u32 0), (.slice none 0 0), (.int .u8 0), (.int .u16 0), (.bool false), (.slice none 0 0), (.slice none 0 0), (.slice none 0 0)] : List Value) = [(.int .u8 0), (.int .u8 0), (.int .u8 0), (.int .u32 0), (.int .u32 0), (.int .u32 0), (.int .u32 0), (.int .u64 0), (.int .u64 0), (.int .u8 0), (.int .u16 0), (.int .u32 0), (.int .u8 0), (.int .u8 0), (.int .u8 0), (.int .u8 0), (.int .u8 0), (.int .u8 0), (.int .u8 0), (.slice none 0 0), (.int .u8 0), (.string (ByteArray.mk #[])), (.int .u8 0), (.int .u32 0), (.slice none 0 0), (.int .u8 0), (.int .u16 0), (.bool false), (.slice none 0 0), (.slice none 0 0), (.slice none 0 0)]) ∧
        (x3 (IntKind.wrap .i64 (n5 + 1)) n6 n7 n8 n9 n10 n11 n12 n13 n14 n15 n16 n17 n18 n19 n20 n21 n22 n23 n24 q25 k26 k27 a_20 a_21 n30 n31 q32 k33 k34 n35 n36 b37 q38 k39 k40 q41 k42 k43 q44 k45 k46 w73 (L74)) ∧
        Nat.le ((x4 (IntKind.wrap .i64 (n5 + 1)) n6 n7 n8 n9 n10 n11 n12 n13 n14 n15 n16 n17 n18 n19 n20 n21 n22 n23 n24 q25 k26 k27 a_20 a_21 n30 n31 q32 k33 k34 n35 n36 b37 q38 k39 k40 q41 k42 k43 q44 k45 k46 w73) + 1) (x4 n5 n6 n7 n8 n9 n10 n11 n12 n13 n14 n15 n16 n17 n18 n19 n20 n21 n22 n23 n24 q25 k26 k27 n28 s29 n30 n31 q32 k33 k34 n35 n36 b37 q38 k39 k40 q41 k42 k43 q44 k45 k46 w47)
       else
        if ((((x50.toNat) : Nat) : Int) == 118) = true then
         ∀ w71 : World, ∀ L72 : List Nat, (X.Hid (L48) w47 w71) →
         (X.NewL (w).heap.size (L48) w47 w71 L72) →
         (([(.int .u8 a_0), (.int .u8 a_1), (.int .u8 a_2), (.int .u32 a_3), (.int .u32 a_4), (.int .u32 a_5), (.int .u32 a_6), (.int .u64 a_7), (.int .u64 a_8), (.int .u8 a_9), (.int .u16 a_10), (.int .u32 a_11), (.int .u8 a_12), (.int .u8 a_13), (.int .u8 a_14), (.int .u8 a_15), (.int .u8 a_16), (.int .u8 a_17), (.int .u8 a_18), (.slice (a_19) a_19l a_19c), (.int .u8 a_20), (.string a_21), (.int .u8 a_22), (.int .u32 a_23), (.slice (a_24) a_24l a_24c), (.int .u8 a_25), (.int .u16 a_26), (.bool a_27), (.slice (a_28) a_28l a_28c), (.slice (a_29) a_29l a_29c), (.slice (a_30) a_30l a_30c)] : List Value) = [(.int .u8 a_0), (.int .u8 a_1), (.int .u8 a_2), (.int .u32 a_3), (.int .u32 a_4), (.int .u32 a_5), (.int .u32 a_6), (.int .u64 a_7), (.int .u64 a_8), (.int .u8 a_9), (.int .u16 a_10), (.int .u32 a_11), (.int .u8 a_12), (.int .u8 a_13), (.int .u8 a_14), (.int .u8 a_15), (.int .u8 a_16), (.int .u8 a_17), (.int .u8 a_18), (.slice (a_19) a_19l a_19c), (.int .u8 a_20), (.string a_21), (.int .u8 a_22), (.int .u32 a_23), (.slice (a_24) a_24l a_24c), (.int .u8 a_25), (.int .u16 a_26), (.bool a_27), (.slice (a_28) a_28l a_28c), (.slice (a_29) a_29l a_29c), (.slice (a_30) a_30l a_30c)]) ∧
         (([(.int .u8 0), (.int .u8 0), (.int .u8 0), (.int .u32 0), (.int .u32 0), (.int .u32 0), (.int .u32 0), (.int .u64 0), (.int .u64 0), (.int .u8 0), (.int .u16 0), (.int .u32 0), (.int .u8 0), (.int .u8 0), (.int .u8 0), (.int .u8 0), (.int .u8 0), (.int .u8 0), (.int .u8 0), (.slice none 0 0), (.int .u8 0), (.string (ByteArray.mk #[])), (.int .u8 0), (.int .u32 0), (.slice none 0 0), (.int .u8 0), (.int .u16 0), (.bool false), (.slice none 0 0), (.slice none 0 0), (.slice none 0 0)] : List Value) = [(.int .u8 0), (.int .u8 0), (.int .u8 0), (.int .u32 0), (.int .u32 0), (.int .u32 0), (.int .u32 0), (.int .u64 0), (.int .u64 0), (.int .u8 0), (.int .u16 0), (.int .u32 0), (.int .u8 0), (.int .u8 0), (.int .u8 0), (.int .u8 0), (.int .u8 0), (.int .u8 0), (.int .u8 0), (.slice none 0 0), (.int .u8 0), (.string (ByteArray.mk #[])), (.int .u8 0), (.int .u32 0), (.slice none 0 0), (.int .u8 0), (.int .u16 0), (.bool false), (.slice none 0 0), (.slice none 0 0), (.slice none 0 0)]) ∧
         (x3 (IntKind.wrap .i64 (n5 + 1)) n6 n7 n8 n9 n10 n11 n12 n13 n14 n15 n16 n17 n18 n19 n20 n21 n22 n23 n24 q25 k26 k27 n28 s29 a_22 a_23 a_24 a_24l a_24c n35 n36 b37 q38 k39 k40 q41 k42 k43 q44 k45 k46 w71 (L72)) ∧
         Nat.le ((x4 (IntKind.wrap .i64 (n5 + 1)) n6 n7 n8 n9 n10 n11 n12 n13 n14 n15 n16 n17 n18 n19 n20 n21 n22 n23 n24 q25 k26 k27 n28 s29 a_22 a_23 a_24 a_24l a_24c n35 n36 b37 q38 k39 k40 q41 k42 k43 q44 k45 k46 w71) + 1) (x4 n5 n6 n7 n8 n9 n10 n11 n12 n13 n14 n15 n16 n17 n18 n19 n20 n21 n22 n23 n24 q25 k26 k27 n28 s29 n30 n31 q32 k33 k34 n35 n36 b37 q38 k39 k40 q41 k42 k43 q44 k45 k46 w47)
        else
         if ((((x50.toNat) : Nat) : Int) == 99) = true then
          ∀ w69 : World, ∀ L70 : List Nat, (X.Hid (L48) w47 w69) →
          (X.NewL (w).heap.size (L48) w47 w69 L70) →
          (([(.int .u8 a_0), (.int .u8 a_1), (.int .u8 a_2), (.int .u32 a_3), (.int .u32 a_4), (.int .u32 a_5), (.int .u32 a_6), (.int .u64 a_7), (.int .u64 a_8), (.int .u8 a_9), (.int .u16 a_10), (.int .u32 a_11), (.int .u8 a_12), (.int .u8 a_13), (.int .u8 a_14), (.int .u8 a_15), (.int .u8 a_16), (.int .u8 a_17), (.int .u8 a_18), (.slice (a_19) a_19l a_19c), (.int .u8 a_20), (.string a_21), (.int .u8 a_22), (.int .u32 a_23), (.slice (a_24) a_24l a_24c), (.int .u8 a_25), (.int .u16 a_26), (.bool a_27), (.slice (a_28) a_28l a_28c), (.slice (a_29) a_29l a_29c), (.slice (a_30) a_30l a_30c)] : List Value) = [(.int .u8 a_0), (.int .u8 a_1), (.int .u8 a_2), (.int .u32 a_3), (.int .u32 a_4), (.int .u32 a_5), (.int .u32 a_6), (.int .u64 a_7), (.int .u64 a_8), (.int .u8 a_9), (.int .u16 a_10), (.int .u32 a_11), (.int .u8 a_12), (.int .u8 a_13), (.int .u8 a_14), (.int .u8 a_15), (.int .u8 a_16), (.int .u8 a_17), (.int .u8 a_18), (.slice (a_19) a_19l a_19c), (.int .u8 a_20), (.string a_21), (.int .u8 a_22), (.int .u32 a_23), (.slice (a_24) a_24l a_24c), (.int .u8 a_25), (.int .u16 a_26), (.bool a_27), (.slice (a_28) a_28l a_28c), (.slice (a_29) a_29l a_29c), (.slice (a_30) a_30l a_30c)]) ∧
          (([(.int .u8 0), (.int .u8 0), (.int .u8 0), (.int .u32 0), (.int .u32 0), (.int .u32 0), (.int .u32 0), (.int .u64 0), (.int .u64 0), (.int .u8 0), (.int .u16 0), (.int .u32 0), (.int .u8 0), (.int .u8 0), (.int .u8 0), (.int .u8 0), (.int .u8 0), (.int .u8 0), (.int .u8 0), (.slice none 0 0), (.int .u8 0), (.string (ByteArray.mk #[])), (.int .u8 0), (.int .u32 0), (.slice none 0 0), (.int .u8 0), (.int .u16 0), (.bool false), (.slice none 0 0), (.slice none 0 0), (.slice none 0 0)] : List Value) = [(.int .u8 0), (.int .u8 0), (.int .u8 0), (.int .u32 0), (.int .u32 0), (.int .u32 0), (.int .u32 0), (.int .u64 0), (.int .u64 0), (.int .u8 0), (.int .u16 0), (.int .u32 0), (.int .u8 0), (.int .u8 0), (.int .u8 0), (.int .u8 0), (.int .u8 0), (.int .u8 0), (.int .u8 0), (.slice none 0 0), (.int .u8 0), (.string (ByteArray.mk #[])), (.int .u8 0), (.int .u32 0), (.slice none 0 0), (.int .u8 0), (.int .u16 0), (.bool false), (.slice none 0 0), (.slice none 0 0), (.slice none 0 0)]) ∧
          (x3 (IntKind.wrap .i64 (n5 + 1)) n6 n7 a_2 n9 n10 n11 n12 n13 n14 n15 n16 n17 n18 n19 n20 n21 n22 n23 n24 q25 k26 k27 n28 s29 n30 n31 q32 k33 k34 n35 n36 b37 q38 k39 k40 q41 k42 k43 q44 k45 k46 w69 (L70)) ∧
          Nat.le ((x4 (IntKind.wrap .i64 (n5 + 1)) n6 n7 a_2 n9 n10 n11 n12 n13 n14 n15 n16 n17 n18 n19 n20 n21 n22 n23 n24 q25 k26 k27 n28 s29 n30 n31 q32 k33 k34 n35 n36 b37 q38 k39 k40 q41 k42 k43 q44 k45 k46 w69) + 1) (x4 n5 n6 n7 n8 n9 n10 n11 n12 n13 n14 n15 n16 n17 n18 n19 n20 n21 n22 n23 n24 q25 k26 k27 n28 s29 n30 n31 q32 k33 k34 n35 n36 b37 q38 k39 k40 q41 k42 k43 q44 k45 k46 w47)
         else
          if ((((x50.toNat) : Nat) : Int) == 110) = true then
           ∀ w67 : World, ∀ L68 : List Nat, (X.Hid (L48) w47 w67) →
           (X.NewL (w).heap.size (L48) w47 w67 L68) →
           (([(.int .u8 a_0), (.int .u8 a_1), (.int .u8 a_2), (.int .u32 a_3), (.int .u32 a_4), (.int .u32 a_5), (.int .u32 a_6), (.int .u64 a_7), (.int .u64 a_8), (.int .u8 a_9), (.int .u16 a_10), (.int .u32 a_11), (.int .u8 a_12), (.int .u8 a_13), (.int .u8 a_14), (.int .u8 a_15), (.int .u8 a_16), (.int .u8 a_17), (.int .u8 a_18), (.slice (a_19) a_19l a_19c), (.int .u8 a_20), (.string a_21), (.int .u8 a_22), (.int .u32 a_23), (.slice (a_24) a_24l a_24c), (.int .u8 a_25), (.int .u16 a_26), (.bool a_27), (.slice (a_28) a_28l a_28c), (.slice (a_29) a_29l a_29c), (.slice (a_30) a_30l a_30c)] : List Value) = [(.int .u8 a_0), (.int .u8 a_1), (.int .u8 a_2), (.int .u32 a_3), (.int .u32 a_4), (.int .u32 a_5), (.int .u32 a_6), (.int .u64 a_7), (.int .u64 a_8), (.int .u8 a_9), (.int .u16 a_10), (.int .u32 a_11), (.int .u8 a_12), (.int .u8 a_13), (.int .u8 a_14), (.int .u8 a_15), (.int .u8 a_16), (.int .u8 a_17), (.int .u8 a_18), (.slice (a_19) a_19l a_19c), (.int .u8 a_20), (.string a_21), (.int .u8 a_22), (.int .u32 a_23), (.slice (a_24) a_24l a_24c), (.int .u8 a_25), (.int .u16 a_26), (.bool a_27), (.slice (a_28) a_28l a_28c), (.slice (a_29) a_29l a_29c), (.slice (a_30) a_30l a_30c)]) ∧
           (([(.int .u8 0), (.int .u8 0), (.int .u8 0), (.int .u32 0), (.int .u32 0), (.int .u32 0), (.int .u32 0), (.int .u64 0), (.int .u64 0), (.int .u8 0), (.int .u16 0), (.int .u32 0), (.int .u8 0), (.int .u8 0), (.int .u8 0), (.int .u8 0), (.int .u8 0), (.int .u8 0), (.int .u8 0), (.slice none 0 0), (.int .u8 0), (.string (ByteArray.mk #[])), (.int .u8 0), (.int .u32 0), (.slice none 0 0), (.int .u8 0), (.int .u16 0), (.bool false), (.slice none 0 0), (.slice none 0 0), (.slice none 0 0)] : List Value) = [(.int .u8 0), (.int .u8 0), (.int .u8 0), (.int .u32 0), (.int .u32 0), (.int .u32 0), (.int .u32 0), (.int .u64 0), (.int .u64 0), (.int .u8 0), (.int .u16 0), (.int .u32 0), (.int .u8 0), (.int .u8 0), (.int .u8 0), (.int .u8 0), (.int .u8 0), (.int .u8 0), (.int .u8 0), (.slice none 0 0), (.int .u8 0), (.string (ByteArray.mk #[])), (.int .u8 0), (.int .u32 0), (.slice none 0 0), (.int .u8 0), (.int .u16 0), (.bool false), (.slice none 0 0), (.slice none 0 0), (.slice none 0 0)]) ∧
           (x3 (IntKind.wrap .i64 (n5 + 1)) n6 n7 n8 a_3 n10 n11 n12 n13 n14 n15 n16 n17 n18 n19 n20 n21 n22 n23 n24 q25 k26 k27 n28 s29 n30 n31 q32 k33 k34 n35 n36 b37 q38 k39 k40 q41 k42 k43 q44 k45 k46 w67 (L68)) ∧
           Nat.le ((x4 (IntKind.wrap .i64 (n5 + 1)) n6 n7 n8 a_3 n10 n11 n12 n13 n14 n15 n16 n17 n18 n19 n20 n21 n22 n23 n24 q25 k26 k27 n28 s29 n30 n31 q32 k33 k34 n35 n36 b37 q38 k39 k40 q41 k42 k43 q44 k45 k46 w67) + 1) (x4 n5 n6 n7 n8 n9 n10 n11 n12 n13 n14 n15 n16 n17 n18 n19 n20 n21 n22 n23 n24 q25 k26 k27 n28 s29 n30 n31 q32 k33 k34 n35 n36 b37 q38 k39 k40 q41 k42 k43 q44 k45 k46 w47)
          else
           if ((((x50.toNat) : Nat) : Int) == 97) = true then
            ∀ w65 : World, ∀ L66 : List Nat, (X.Hid (L48) w47 w65) →
            (X.NewL (w).heap.size (L48) w47 w65 L66) →
            (([(.int .u8 a_0), (.int .u8 a_1), (.int .u8 a_2), (.int .u32 a_3), (.int .u32 a_4), (.int .u32 a_5), (.int .u32 a_6), (.int .u64 a_7), (.int .u64 a_8), (.int .u8 a_9), (.int .u16 a_10), (.int .u32 a_11), (.int .u8 a_12), (.int .u8 a_13), (.int .u8 a_14), (.int .u8 a_15), (.int .u8 a_16), (.int .u8 a_17), (.int .u8 a_18), (.slice (a_19) a_19l a_19c), (.int .u8 a_20), (.string a_21), (.int .u8 a_22), (.int .u32 a_23), (.slice (a_24) a_24l a_24c), (.int .u8 a_25), (.int .u16 a_26), (.bool a_27), (.slice (a_28) a_28l a_28c), (.slice (a_29) a_29l a_29c), (.slice (a_30) a_30l a_30c)] : List Value) = [(.int .u8 a_0), (.int .u8 a_1), (.int .u8 a_2), (.int .u32 a_3), (.int .u32 a_4), (.int .u32 a_5), (.int .u32 a_6), (.int .u64 a_7), (.int .u64 a_8), (.int .u8 a_9), (.int .u16 a_10), (.int .u32 a_11), (.int .u8 a_12), (.int .u8 a_13), (.int .u8 a_14), (.int .u8 a_15), (.int .u8 a_16), (.int .u8 a_17), (.int .u8 a_18), (.slice (a_19) a_19l a_19c), (.int .u8 a_20), (.string a_21), (.int .u8 a_22), (.int .u32 a_23), (.slice (a_24) a_24l a_24c), (.int .u8 a_25), (.int .u16 a_26), (.bool a_27), (.slice (a_28) a_28l a_28c), (.slice (a_29) a_29l a_29c), (.slice (a_30) a_30l a_30c)]) ∧
            (([(.int .u8 0), (.int .u8 0), (.int .u8 0), (.int .u32 0), (.int .u32 0), (.int .u32 0), (.int .u32 0), (.int .u64 0), (.int .u64 0), (.int .u8 0), (.int .u16 0), (.int .u32 0), (.int .u8 0), (.int .u8 0), (.int .u8 0), (.int .u8 0), (.int .u8 0), (.int .u8 0), (.int .u8 0), (.slice none 0 0), (.int .u8 0), (.string (ByteArray.mk #[])), (.int .u8 0), (.int .u32 0), (.slice none 0 0), (.int .u8 0), (.int .u16 0), (.bool false), (.slice none 0 0), (.slice none 0 0), (.slice none 0 0)] : List Value) = [(.int .u8 0), (.int .u8 0), (.int .u8 0), (.int .u32 0), (.int .u32 0), (.int .u32 0), (.int .u32 0), (.int .u64 0), (.int .u64 0), (.int .u8 0), (.int .u16 0), (.int .u32 0), (.int .u8 0), (.int .u8 0), (.int .u8 0), (.int .u8 0), (.int .u8 0), (.int .u8 0), (.int .u8 0), (.slice none 0 0), (.int .u8 0), (.string (ByteArray.mk #[])), (.int .u8 0), (.int .u32 0), (.slice none 0 0), (.int .u8 0), (.int .u16 0), (.bool false), (.slice none 0 0), (.slice none 0 0), (.slice none 0 0)]) ∧
            (x3 (IntKind.wrap .i64 (n5 + 1)) n6 n7 n8 n9 a_4 n11 n12 n13 n14 n15 n16 n17 n18 n19 n20 n21 n22 n23 n24 q25 k26 k27 n28 s29 n30 n31 q32 k33 k34 n35 n36 b37 q38 k39 k40 q41 k42 k43 q44 k45 k46 w65 (L66)) ∧
            Nat.le ((x4 (IntKind.wrap .i64 (n5 + 1)) n6 n7 n8 n9 a_4 n11 n12 n13 n14 n15 n16 n17 n18 n19 n20 n21 n22 n23 n24 q25 k26 k27 n28 s29 n30 n31 q32 k33 k34 n35 n36 b37 q38 k39 k40 q41 k42 k43 q44 k45 k46 w65) + 1) (x4 n5 n6 n7 n8 n9 n10 n11 n12 n13 n14 n15 n16 n17 n18 n19 n20 n21 n22 n23 n24 q25 k26 k27 n28 s29 n30 n31 q32 k33 k34 n35 n36 b37 q38 k39 k40 q41 k42 k43 q44 k45 k46 w47)
           else
            if ((((x50.toNat) : Nat) : Int) == 107) = true then
             ∀ w63 : World, ∀ L64 : List Nat, (X.Hid (L48) w47 w63) →
             (X.NewL (w).heap.size (L48) w47 w63 L64) →
             (([(.int .u8 a_0), (.int .u8 a_1), (.int .u8 a_2), (.int .u32 a_3), (.int .u32 a_4), (.int .u32 a_5), (.int .u32 a_6), (.int .u64 a_7), (.int .u64 a_8), (.int .u8 a_9), (.int .u16 a_10), (.int .u32 a_11), (.int .u8 a_12), (.int .u8 a_13), (.int .u8 a_14), (.int .u8 a_15), (.int .u8 a_16), (.int .u8 a_17), (.int .u8 a_18), (.slice (a_19) a_19l a_19c), (.int .u8 a_20), (.string a_21), (.int .u8 a_22), (.int .u32 a_23), (.slice (a_24) a_24l a_24c), (.int .u8 a_25), (.int .u16 a_26), (.bool a_27), (.slice (a_28) a_28l a_28c), (.slice (a_29) a_29l a_29c), (.slice (a_30) a_30l a_30c)] : List Value) = [(.int .u8 a_0), (.int .u8 a_1), (.int .u8 a_2), (.int .u32 a_3), (.int .u32 a_4), (.int .u32 a_5), (.int .u32 a_6), (.int .u64 a_7), (.int .u64 a_8), (.int .u8 a_9), (.int .u16 a_10), (.int .u32 a_11), (.int .u8 a_12), (.int .u8 a_13), (.int .u8 a_14), (.int .u8 a_15), (.int .u8 a_16), (.int .u8 a_17), (.int .u8 a_18), (.slice (a_19) a_19l a_19c), (.int .u8 a_20), (.string a_21), (.int .u8 a_22), (.int .u32 a_23), (.slice (a_24) a_24l a_24c), (.int .u8 a_25), (.int .u16 a_26), (.bool a_27), (.slice (a_28) a_28l a_28c), (.slice (a_29) a_29l a_29c), (.slice (a_30) a_30l a_30c)]) ∧
             (([(.int .u8 0), (.int .u8 0), (.int .u8 0), (.int .u32 0), (.int .u32 0), (.int .u32 0), (.int .u32 0), (.int .u64 0), (.int .u64 0), (.int .u8 0), (.int .u16 0), (.int .u32 0), (.int .u8 0), (.int .u8 0), (.int .u8 0), (.int .u8 0), (.int .u8 0), (.int .u8 0), (.int .u8 0), (.slice none 0 0), (.int .u8 0), (.string (ByteArray.mk #[])), (.int .u8 0), (.int .u32 0), (.slice none 0 0), (.int .u8 0), (.int .u16 0), (.bool false), (.slice none 0 0), (.slice none 0 0), (.slice none 0 0)] : List Value) = [(.int .u8 0), (.int .u8 0), (.int .u8 0), (.int .u32 0), (.int .u32 0), (.int .u32 0), (.int .u32 0), (.int .u64 0), (.int .u64 0), (.int .u8 0), (.int .u16 0), (.int .u32 0), (.int .u8 0), (.int .u8 0), (.int .u8 0), (.int .u8 0), (.int .u8 0), (.int .u8 0), (.int .u8 0), (.slice none 0 0), (.int .u8 0), (.string (ByteArray.mk #[])), (.int .u8 0), (.int .u32 0), (.slice none 0 0), (.int .u8 0), (.int .u16 0), (.bool false), (.slice none 0 0), (.slice none 0 0), (.slice none 0 0)]) ∧
             (x3 (IntKind.wrap .i64 (n5 + 1)) n6 n7 n8 n9 n10 a_5 n12 n13 n14 n15 n16 n17 n18 n19 n20 n21 n22 n23 n24 q25 k26 k27 n28 s29 n30 n31 q32 k33 k34 n35 n36 b37 q38 k39 k40 q41 k42 k43 q44 k45 k46 w63 (L64)) ∧
             Nat.le ((x4 (IntKind.wrap .i64 (n5 + 1)) n6 n7 n8 n9 n10 a_5 n12 n13 n14 n15 n16 n17 n18 n19 n20 n21 n22 n23 n24 q25 k26 k27 n28 s29 n30 n31 q32 k33 k34 n35 n36 b37 q38 k39 k40 q41 k42 k43 q44 k45 k46 w63) + 1) (x4 n5 n6 n7 n8 n9 n10 n11 n12 n13 n14 n15 n16 n17 n18 n19 n20 n21 n22 n23 n24 q25 k26 k27 n28 s29 n30 n31 q32 k33 k34 n35 n36 b37 q38 k39 k40 q41 k42 k43 q44 k45 k46 w47)
            else
             if ((((x50.toNat) : Nat) : Int) == 101) = true then
              ∀ w61 : World, ∀ L62 : List Nat, (X.Hid (L48) w47 w61) →
              (X.NewL (w).heap.size (L48) w47 w61 L62) →
              (([(.int .u8 a_0), (.int .u8 a_1), (.int .u8 a_2), (.int .u32 a_3), (.int .u32 a_4), (.int .u32 a_5), (.int .u32 a_6), (.int .u64 a_7), (.int .u64 a_8), (.int .u8 a_9), (.int .u16 a_10), (.int .u32 a_11), (.int .u8 a_12), (.int .u8 a_13), (.int .u8 a_14), (.int .u8 a_15), (.int .u8 a_16), (.int .u8 a_17), (.int .u8 a_18), (.slice (a_19) a_19l a_19c), (.int .u8 a_20), (.string a_21), (.int .u8 a_22), (.int .u32 a_23), (.slice (a_24) a_24l a_24c), (.int .u8 a_25), (.int .u16 a_26), (.bool a_27), (.slice (a_28) a_28l a_28c), (.slice (a_29) a_29l a_29c), (.slice (a_30) a_30l a_30c)] : List Value) = [(.int .u8 a_0), (.int .u8 a_1), (.int .u8 a_2), (.int .u32 a_3), (.int .u32 a_4), (.int .u32 a_5), (.int .u32 a_6), (.int .u64 a_7), (.int .u64 a_8), (.int .u8 a_9), (.int .u16 a_10), (.int .u32 a_11), (.int .u8 a_12), (.int .u8 a_13), (.int .u8 a_14), (.int .u8 a_15), (.int .u8 a_16), (.int .u8 a_17), (.int .u8 a_18), (.slice (a_19) a_19l a_19c), (.int .u8 a_20), (.string a_21), (.int .u8 a_22), (.int .u32 a_23), (.slice (a_24) a_24l a_24c), (.int .u8 a_25), (.int .u16 a_26), (.bool a_27), (.slice (a_28) a_28l a_28c), (.slice (a_29) a_29l a_29c), (.slice (a_30) a_30l a_30c)]) ∧
              (([(.int .u8 0), (.int .u8 0), (.int .u8 0), (.int .u32 0), (.int .u32 0), (.int .u32 0), (.int .u32 0), (.int .u64 0), (.int .u64 0), (.int .u8 0), (.int .u16 0), (.int .u32 0), (.int .u8 0), (.int .u8 0), (.int .u8 0), (.int .u8 0), (.int .u8 0), (.int .u8 0), (.int .u8 0), (.slice none 0 0), (.int .u8 0), (.string (ByteArray.mk #[])), (.int .u8 0), (.int .u32 0), (.slice none 0 0), (.int .u8 0), (.int .u16 0), (.bool false), (.slice none 0 0), (.slice none 0 0), (.slice none 0 0)] : List Value) = [(.int .u8 0), (.int .u8 0), (.int .u8 0), (.int .u32 0), (.int .u32 0), (.int .u32 0), (.int .u32 0), (.int .u64 0), (.int .u64 0), (.int .u8 0), (.int .u16 0), (.int .u32 0), (.int .u8 0), (.int .u8 0), (.int .u8 0), (.int .u8 0), (.int .u8 0), (.int .u8 0), (.int .u8 0), (.slice none 0 0), (.int .u8 0), (.string (ByteArray.mk #[])), (.int .u8 0), (.int .u32 0), (.slice none 0 0), (.int .u8 0), (.int .u16 0), (.bool false), (.slice none 0 0), (.slice none 0 0), (.slice none 0 0)]) ∧
              (x3 (IntKind.wrap .i64 (n5 + 1)) n6 n7 n8 n9 n10 n11 n12 n13 n14 n15 n16 n17 n18 n19 n20 n21 n22 n23 n24 q25 k26 k27 n28 s29 n30 n31 q32 k33 k34 n35 n36 b37 q38 k39 k40 a_29 a_29l a_29c q44 k45 k46 w61 (L62)) ∧
              Nat.le ((x4 (IntKind.wrap .i64 (n5 + 1)) n6 n7 n8 n9 n10 n11 n12 n13 n14 n15 n16 n17 n18 n19 n20 n21 n22 n23 n24 q25 k26 k27 n28 s29 n30 n31 q32 k33 k34 n35 n36 b37 q38 k39 k40 a_29 a_29l a_29c q44 k45 k46 w61) + 1) (x4 n5 n6 n7 n8 n9 n10 n11 n12 n13 n14 n15 n16 n17 n18 n19 n20 n21 n22 n23 n24 q25 k26 k27 n28 s29 n30 n31 q32 k33 k34 n35 n36 b37 q38 k39 k40 q41 k42 k43 q44 k45 k46 w47)
             else
              if ((((x50.toNat) : Nat) : Int) == 98) = true then
               ∀ w59 : World, ∀ L60 : List Nat, (X.Hid (L48) w47 w59) →
               (X.NewL (w).heap.size (L48) w47 w59 L60) →
               (([(.int .u8 a_0), (.int .u8 a_1), (.int .u8 a_2), (.int .u32 a_3), (.int .u32 a_4), (.int .u32 a_5), (.int .u32 a_6), (.int .u64 a_7), (.int .u64 a_8), (.int .u8 a_9), (.int .u16 a_10), (.int .u32 a_11), (.int .u8 a_12), (.int .u8 a_13), (.int .u8 a_14), (.int .u8 a_15), (.int .u8 a_16), (.int .u8 a_17), (.int .u8 a_18), (.slice (a_19) a_19l a_19c), (.int .u8 a_20), (.string a_21), (.int .u8 a_22), (.int .u32 a_23), (.slice (a_24) a_24l a_24c), (.int .u8 a_25), (.int .u16 a_26), (.bool a_27), (.slice (a_28) a_28l a_28c), (.slice (a_29) a_29l a_29c), (.slice (a_30) a_30l a_30c)] : List Value) = [(.int .u8 a_0), (.int .u8 a_1), (.int .u8 a_2), (.int .u32 a_3), (.int .u32 a_4), (.int .u32 a_5), (.int .u32 a_6), (.int .u64 a_7), (.int .u64 a_8), (.int .u8 a_9), (.int .u16 a_10), (.int .u32 a_11), (.int .u8 a_12), (.int .u8 a_13), (.int .u8 a_14), (.int .u8 a_15), (.int .u8 a_16), (.int .u8 a_17), (.int .u8 a_18), (.slice (a_19) a_19l a_19c), (.int .u8 a_20), (.string a_21), (.int .u8 a_22), (.int .u32 a_23), (.slice (a_24) a_24l a_24c), (.int .u8 a_25), (.int .u16 a_26), (.bool a_27), (.slice (a_28) a_28l a_28c), (.slice (a_29) a_29l a_29c), (.slice (a_30) a_30l a_30c)]) ∧
               (([(.int .u8 0), (.int .u8 0), (.int .u8 0), (.int .u32 0), (.int .u32 0), (.int .u32 0), (.int .u32 0), (.int .u64 0), (.int .u64 0), (.int .u8 0), (.int .u16 0), (.int .u32 0), (.int .u8 0), (.int .u8 0), (.int .u8 0), (.int .u8 0), (.int .u8 0), (.int .u8 0), (.int .u8 0), (.slice none 0 0), (.int .u8 0), (.string (ByteArray.mk #[])), (.int .u8 0), (.int .u32 0), (.slice none 0 0), (.int .u8 0), (.int .u16 0), (.bool false), (.slice none 0 0), (.slice none 0 0), (.slice none 0 0)] : List Value) = [(.int .u8 0), (.int .u8 0), (.int .u8 0), (.int .u32 0), (.int .u32 0), (.int .u32 0), (.int .u32 0), (.int .u64 0), (.int .u64 0), (.int .u8 0), (.int .u16 0), (.int .u32 0), (.int .u8 0), (.int .u8 0), (.int .u8 0), (.int .u8 0), (.int .u8 0), (.int .u8 0), (.int .u8 0), (.slice none 0 0), (.int .u8 0), (.string (ByteArray.mk #[])), (.int .u8 0), (.int .u32 0), (.slice none 0 0), (.int .u8 0), (.int .u16 0), (.bool false), (.slice none 0 0), (.slice none 0 0), (.slice none 0 0)]) ∧
               (x3 (IntKind.wrap .i64 (n5 + 1)) n6 n7 n8 n9 n10 n11 n12 a_7 n14 n15 n16 n17 n18 n19 n20 n21 n22 n23 n24 q25 k26 k27 n28 s29 n30 n31 q32 k33 k34 n35 n36 b37 q38 k39 k40 q41 k42 k43 q44 k45 k46 w59 (L60)) ∧
               Nat.le ((x4 (IntKind.wrap .i64 (n5 + 1)) n6 n7 n8 n9 n10 n11 n12 a_7 n14 n15 n16 n17 n18 n19 n20 n21 n22 n23 n24 q25 k26 k27 n28 s29 n30 n31 q32 k33 k34 n35 n36 b37 q38 k39 k40 q41 k42 k43 q44 k45 k46 w59) + 1) (x4 n5 n6 n7 n8 n9 n10 n11 n12 n13 n14 n15 n16 n17 n18 n19 n20 n21 n22 n23 n24 q25 k26 k27 n28 s29 n30 n31 q32 k33 k34 n35 n36 b37 q38 k39 k40 q41 k42 k43 q44 k45 k46 w47)
              else
               if ((((x50.toNat) : Nat) : Int) == 104) = true then
                ∀ w57 : World, ∀ L58 : List Nat, (X.Hid (L48) w47 w57) →
                (X.NewL (w).heap.size (L48) w47 w57 L58) →
                (([(.int .u8 a_0), (.int .u8 a_1), (.int .u8 a_2), (.int .u32 a_3), (.int .u32 a_4), (.int .u32 a_5), (.int .u32 a_6), (.int .u64 a_7), (.int .u64 a_8), (.int .u8 a_9), (.int .u16 a_10), (.int .u32 a_11), (.int .u8 a_12), (.int .u8 a_13), (.int .u8 a_14), (.int .u8 a_15), (.int .u8 a_16), (.int .u8 a_17), (.int .u8 a_18), (.slice (a_19) a_19l a_19c), (.int .u8 a_20), (.string a_21), (.int .u8 a_22), (.int .u32 a_23), (.slice (a_24) a_24l a_24c), (.int .u8 a_25), (.int .u16 a_26), (.bool a_27), (.slice (a_28) a_28l a_28c), (.slice (a_29) a_29l a_29c), (.slice (a_30) a_30l a_30c)] : List Value) = [(.int .u8 a_0), (.int .u8 a_1), (.int .u8 a_2), (.int .u32 a_3), (.int .u32 a_4), (.int .u32 a_5), (.int .u32 a_6), (.int .u64 a_7), (.int .u64 a_8), (.int .u8 a_9), (.int .u16 a_10), (.int .u32 a_11), (.int .u8 a_12), (.int .u8 a_13), (.int .u8 a_14), (.int .u8 a_15), (.int .u8 a_16), (.int .u8 a_17), (.int .u8 a_18), (.slice (a_19) a_19l a_19c), (.int .u8 a_20), (.string a_21), (.int .u8 a_22), (.int .u32 a_23), (.slice (a_24) a_24l a_24c), (.int .u8 a_25), (.int .u16 a_26), (.bool a_27), (.slice (a_28) a_28l a_28c), (.slice (a_29) a_29l a_29c), (.slice (a_30) a_30l a_30c)]) ∧
                (([(.int .u8 0), (.int .u8 0), (.int .u8 0), (.int .u32 0), (.int .u32 0), (.int .u32 0), (.int .u32 0), (.int .u64 0), (.int .u64 0), (.int .u8 0), (.int .u16 0), (.int .u32 0), (.int .u8 0), (.int .u8 0), (.int .u8 0), (.int .u8 0), (.int .u8 0), (.int .u8 0), (.int .u8 0), (.slice none 0 0), (.int .u8 0), (.string (ByteArray.mk #[])), (.int .u8 0), (.int .u32 0), (.slice none 0 0), (.int .u8 0), (.int .u16 0), (.bool false), (.slice none 0 0), (.slice none 0 0), (.slice none 0 0)] : List Value) = [(.int .u8 0), (.int .u8 0), (.int .u8 0), (.int .u32 0), (.int .u32 0), (.int .u32 0), (.int .u32 0), (.int .u64 0), (.int .u64 0), (.int .u8 0), (.int .u16 0), (.int .u32 0), (.int .u8 0), (.int .u8 0), (.int .u8 0), (.int .u8 0), (.int .u8 0), (.int .u8 0), (.int .u8 0), (.slice none 0 0), (.int .u8 0), (.string (ByteArray.mk #[])), (.int .u8 0), (.int .u32 0), (.slice none 0 0), (.int .u8 0), (.int .u16 0), (.bool false), (.slice none 0 0), (.slice none 0 0), (.slice none 0 0)]) ∧
                (x3 (IntKind.wrap .i64 (n5 + 1)) n6 n7 n8 n9 n10 n11 n12 n13 n14 n15 n16 n17 n18 n19 n20 n21 n22 n23 n24 q25 k26 k27 n28 s29 n30 n31 q32 k33 k34 n35 n36 a_27 q38 k39 k40 q41 k42 k43 q44 k45 k46 w57 (L58)) ∧
                Nat.le ((x4 (IntKind.wrap .i64 (n5 + 1)) n6 n7 n8 n9 n10 n11 n12 n13 n14 n15 n16 n17 n18 n19 n20 n21 n22 n23 n24 q25 k26 k27 n28 s29 n30 n31 q32 k33 k34 n35 n36 a_27 q38 k39 k40 q41 k42 k43 q44 k45 k46 w57) + 1) (x4 n5 n6 n7 n8 n9 n10 n11 n12 n13 n14 n15 n16 n17 n18 n19 n20 n21 n22 n23 n24 q25 k26 k27 n28 s29 n30 n31 q32 k33 k34 n35 n36 b37 q38 k39 k40 q41 k42 k43 q44 k45 k46 w47)
               else
                if ((((x50.toNat) : Nat) : Int) == 120) = true then
                 ∀ w55 : World, ∀ L56 : List Nat, (X.Hid (L48) w47 w55) →
                 (X.NewL (w).heap.size (L48) w47 w55 L56) →
                 (([(.int .u8 a_0), (.int .u8 a_1), (.int .u8 a_2), (.int .u32 a_3), (.int .u32 a_4), (.int .u32 a_5), (.int .u32 a_6), (.int .u64 a_7), (.int .u64 a_8), (.int .u8 a_9), (.int .u16 a_10), (.int .u32 a_11), (.int .u8 a_12), (.int .u8 a_13), (.int .u8 a_14), (.int .u8 a_15), (.int .u8 a_16), (.int .u8 a_17), (.int .u8 a_18), (.slice (a_19) a_19l a_19c), (.int .u8 a_20), (.string a_21), (.int .u8 a_22), (.int .u32 a_23), (.slice (a_24) a_24l a_24c), (.int .u8 a_25), (.int .u16 a_26), (.bool a_27), (.slice (a_28) a_28l a_28c), (.slice (a_29) a_29l a_29c), (.slice (a_30) a_30l a_30c)] : List Value) = [(.int .u8 a_0), (.int .u8 a_1), (.int .u8 a_2), (.int .u32 a_3), (.int .u32 a_4), (.int .u32 a_5), (.int .u32 a_6), (.int .u64 a_7), (.int .u64 a_8), (.int .u8 a_9), (.int .u16 a_10), (.int .u32 a_11), (.int .u8 a_12), (.int .u8 a_13), (.int .u8 a_14), (.int .u8 a_15), (.int .u8 a_16), (.int .u8 a_17), (.int .u8 a_18), (.slice (a_19) a_19l a_19c), (.int .u8 a_20), (.string a_21), (.int .u8 a_22), (.int .u32 a_23), (.slice (a_24) a_24l a_24c), (.int .u8 a_25), (.int .u16 a_26), (.bool a_27), (.slice (a_28) a_28l a_28c), (.slice (a_29) a_29l a_29c), (.slice (a_30) a_30l a_30c)]) ∧
                 (([(.int .u8 0), (.int .u8 0), (.int .u8 0), (.int .u32 0), (.int .u32 0), (.int .u32 0), (.int .u32 0), (.int .u64 0), (.int .u64 0), (.int .u8 0), (.int .u16 0), (.int .u32 0), (.int .u8 0), (.int .u8 0), (.int .u8 0), (.int .u8 0), (.int .u8 0), (.int .u8 0), (.int .u8 0), (.slice none 0 0), (.int .u8 0), (.string (ByteArray.mk #[])), (.int .u8 0), (.int .u32 0), (.slice none 0 0), (.int .u8 0), (.int .u16 0), (.bool false), (.slice none 0 0), (.slice none 0 0), (.slice none 0 0)] : List Value) = [(.int .u8 0), (.int .u8 0), (.int .u8 0), (.int .u32 0), (.int .u32 0), (.int .u32 0), (.int .u32 0), (.int .u64 0), (.int .u64 0), (.int .u8 0), (.int .u16 0), (.int .u32 0), (.int .u8 0), (.int .u8 0), (.int .u8 0), (.int .u8 0), (.int .u8 0), (.int .u8 0), (.int .u8 0), (.slice none 0 0), (.int .u8 0), (.string (ByteArray.mk #[])), (.int .u8 0), (.int .u32 0), (.slice none 0 0), (.int .u8 0), (.int .u16 0), (.bool false), (.slice none 0 0), (.slice none 0 0), (.slice none 0 0)]) ∧
                 (x3 (IntKind.wrap .i64 (n5 + 1)) n6 n7 n8 n9 n10 n11 n12 n13 a_8 n15 n16 n17 n18 n19 n20 n21 n22 n23 n24 q25 k26 k27 n28 s29 n30 n31 q32 k33 k34 n35 n36 b37 q38 k39 k40 q41 k42 k43 q44 k45 k46 w55 (L56)) ∧
                 Nat.le ((x4 (IntKind.wrap .i64 (n5 + 1)) n6 n7 n8 n9 n10 n11 n12 n13 a_8 n15 n16 n17 n18 n19 n20 n21 n22 n23 n24 q25 k26 k27 n28 s29 n30 n31 q32 k33 k34 n35 n36 b37 q38 k39 k40 q41 k42 k43 q44 k45 k46 w55) + 1) (x4 n5 n6 n7 n8 n9 n10 n11 n12 n13 n14 n15 n16 n17 n18 n19 n20 n21 n22 n23 n24 q25 k26 k27 n28 s29 n30 n31 q32 k33 k34 n35 n36 b37 q38 k39 k40 q41 k42 k43 q44 k45 k46 w47)
                else
                 if ((((x50.toNat) : Nat) : Int) == 109) = true then
                  ∀ w53 : World, ∀ L54 : List Nat, (X.Hid (L48) w47 w53) →
                  (X.NewL (w).heap.size (L48) w47 w53 L54) →
                  (([(.int .u8 a_0), (.int .u8 a_1), (.int .u8 a_2), (.int .u32 a_3), (.int .u32 a_4), (.int .u32 a_5), (.int .u32 a_6), (.int .u64 a_7), (.int .u64 a_8), (.int .u8 a_9), (.int .u16 a_10), (.int .u32 a_11), (.int .u8 a_12), (.int .u8 a_13), (.int .u8 a_14), (.int .u8 a_15), (.int .u8 a_16), (.int .u8 a_17), (.int .u8 a_18), (.slice (a_19) a_19l a_19c), (.int .u8 a_20), (.string a_21), (.int .u8 a_22), (.int .u32 a_23), (.slice (a_24) a_24l a_24c), (.int .u8 a_25), (.int .u16 a_26), (.bool a_27), (.slice (a_28) a_28l a_28c), (.slice (a_29) a_29l a_29c), (.slice (a_30) a_30l a_30c)] : List Value) = [(.int .u8 a_0), (.int .u8 a_1), (.int .u8 a_2), (.int .u32 a_3), (.int .u32 a_4), (.int .u32 a_5), (.int .u32 a_6), (.int .u64 a_7), (.int .u64 a_8), (.int .u8 a_9), (.int .u16 a_10), (.int .u32 a_11), (.int .u8 a_12), (.int .u8 a_13), (.int .u8 a_14), (.int .u8 a_15), (.int .u8 a_16), (.int .u8 a_17), (.int .u8 a_18), (.slice (a_19) a_19l a_19c), (.int .u8 a_20), (.string a_21), (.int .u8 a_22), (.int .u32 a_23), (.slice (a_24) a_24l a_24c), (.int .u8 a_25), (.int .u16 a_26), (.bool a_27), (.slice (a_28) a_28l a_28c), (.slice (a_29) a_29l a_29c), (.slice (a_30) a_30l a_30c)]) ∧
                  (([(.int .u8 0), (.int .u8 0), (.int .u8 0), (.int .u32 0), (.int .u32 0), (.int .u32 0), (.int .u32 0), (.int .u64 0), (.int .u64 0), (.int .u8 0), (.int .u16 0), (.int .u32 0), (.int .u8 0), (.int .u8 0), (.int .u8 0), (.int .u8 0), (.int .u8 0), (.int .u8 0), (.int .u8 0), (.slice none 0 0), (.int .u8 0), (.string (ByteArray.mk #[])), (.int .u8 0), (.int .u32 0), (.slice none 0 0), (.int .u8 0), (.int .u16 0), (.bool false), (.slice none 0 0), (.slice none 0 0), (.slice none 0 0)] : List Value) = [(.int .u8 0), (.int .u8 0), (.int .u8 0), (.int .u32 0), (.int .u32 0), (.int .u32 0), (.int .u32 0), (.int .u64 0), (.int .u64 0), (.int .u8 0), (.int .u16 0), (.int .u32 0), (.int .u8 0), (.int .u8 0), (.int .u8 0), (.int .u8 0), (.int .u8 0), (.int .u8 0), (.int .u8 0), (.slice none 0 0), (.int .u8 0), (.string (ByteArray.mk #[])), (.int .u8 0), (.int .u32 0), (.slice none 0 0), (.int .u8 0), (.int .u16 0), (.bool false), (.slice none 0 0), (.slice none 0 0), (.slice none 0 0)]) ∧
                  (x3 (IntKind.wrap .i64 (n5 + 1)) n6 n7 n8 n9 n10 n11 n12 n13 n14 n15 n16 n17 n18 n19 n20 n21 n22 n23 n24 q25 k26 k27 n28 s29 n30 n31 q32 k33 k34 n35 n36 b37 a_28 a_28l a_28c q41 k42 k43 a_30 a_30l a_30c w53 (L54)) ∧
                  Nat.le ((x4 (IntKind.wrap .i64 (n5 + 1)) n6 n7 n8 n9 n10 n11 n12 n13 n14 n15 n16 n17 n18 n19 n20 n21 n22 n23 n24 q25 k26 k27 n28 s29 n30 n31 q32 k33 k34 n35 n36 b37 a_28 a_28l a_28c q41 k42 k43 a_30 a_30l a_30c w53) + 1) (x4 n5 n6 n7 n8 n9 n10 n11 n12 n13 n14 n15 n16 n17 n18 n19 n20 n21 n22 n23 n24 q25 k26 k27 n28 s29 n30 n31 q32 k33 k34 n35 n36 b37 q38 k39 k40 q41 k42 k43 q44 k45 k46 w47)
                 else
                  if ((((x50.toNat) : Nat) : Int) == 115) = true then
                   ∀ w51 : World, ∀ L52 : List Nat, (X.Hid (L48) w47 w51) →
                   (X.NewL (w).heap.size (L48) w47 w51 L52) →
                   (([(.int .u8 a_0), (.int .u8 a_1), (.int .u8 a_2), (.int .u32 a_3), (.int .u32 a_4), (.int .u32 a_5), (.int .u32 a_6), (.int .u64 a_7), (.int .u64 a_8), (.int .u8 a_9), (.int .u16 a_10), (.int .u32 a_11), (.int .u8 a_12), (.int .u8 a_13), (.int .u8 a_14), (.int .u8 a_15), (.int .u8 a_16), (.int .u8 a_17), (.int .u8 a_18), (.slice (a_19) a_19l a_19c), (.int .u8 a_20), (.string a_21), (.int .u8 a_22), (.int .u32 a_23), (.slice (a_24) a_24l a_24c), (.int .u8 a_25), (.int .u16 a_26), (.bool a_27), (.slice (a_28) a_28l a_28c), (.slice (a_29) a_29l a_29c), (.slice (a_30) a_30l a_30c)] : List Value) = [(.int .u8 a_0), (.int .u8 a_1), (.int .u8 a_2), (.int .u32 a_3), (.int .u32 a_4), (.int .u32 a_5), (.int .u32 a_6), (.int .u64 a_7), (.int .u64 a_8), (.int .u8 a_9), (.int .u16 a_10), (.int .u32 a_11), (.int .u8 a_12), (.int .u8 a_13), (.int .u8 a_14), (.int .u8 a_15), (.int .u8 a_16), (.int .u8 a_17), (.int .u8 a_18), (.slice (a_19) a_19l a_19c), (.int .u8 a_20), (.string a_21), (.int .u8 a_22), (.int .u32 a_23), (.slice (a_24) a_24l a_24c), (.int .u8 a_25), (.int .u16 a_26), (.bool a_27), (.slice (a_28) a_28l a_28c), (.slice (a_29) a_29l a_29c), (.slice (a_30) a_30l a_30c)]) ∧
                   (([(.int .u8 0), (.int .u8 0), (.int .u8 0), (.int .u32 0), (.int .u32 0), (.int .u32 0), (.int .u32 0), (.int .u64 0), (.int .u64 0), (.int .u8 0), (.int .u16 0), (.int .u32 0), (.int .u8 0), (.int .u8 0), (.int .u8 0), (.int .u8 0), (.int .u8 0), (.int .u8 0), (.int .u8 0), (.slice none 0 0), (.int .u8 0), (.string (ByteArray.mk #[])), (.int .u8 0), (.int .u32 0), (.slice none 0 0), (.int .u8 0), (.int .u16 0), (.bool false), (.slice none 0 0), (.slice none 0 0), (.slice none 0 0)] : List Value) = [(.int .u8 0), (.int .u8 0), (.int .u8 0), (.int .u32 0), (.int .u32 0), (.int .u32 0), (.int .u32 0), (.int .u64 0), (.int .u64 0), (.int .u8 0), (.int .u16 0), (.int .u32 0), (.int .u8 0), (.int .u8 0), (.int .u8 0), (.int .u8 0), (.int .u8 0), (.int .u8 0), (.int .u8 0), (.slice none 0 0), (.int .u8 0), (.string (ByteArray.mk #[])), (.int .u8 0), (.int .u32 0), (.slice none 0 0), (.int .u8 0), (.int .u16 0), (.bool false), (.slice none 0 0), (.slice none 0 0), (.slice none 0 0)]) ∧
                   (x3 (IntKind.wrap .i64 (n5 + 1)) n6 n7 n8 n9 n10 n11 n12 n13 n14 n15 n16 n17 n18 n19 n20 n21 n22 n23 n24 q25 k26 k27 n28 s29 n30 n31 q32 k33 k34 a_25 a_26 b37 q38 k39 k40 q41 k42 k43 q44 k45 k46 w51 (L52)) ∧
                   Nat.le ((x4 (IntKind.wrap .i64 (n5 + 1)) n6 n7 n8 n9 n10 n11 n12 n13 n14 n15 n16 n17 n18 n19 n20 n21 n22 n23 n24 q25 k26 k27 n28 s29 n30 n31 q32 k33 k34 a_25 a_26 b37 q38 k39 k40 q41 k42 k43 q44 k45 k46 w51) + 1) (x4 n5 n6 n7 n8 n9 n10 n11 n12 n13 n14 n15 n16 n17 n18 n19 n20 n21 n22 n23 n24 q25 k26 k27 n28 s29 n30 n31 q32 k33 k34 n35 n36 b37 q38 k39 k40 q41 k42 k43 q44 k45 k46 w47)
                  else
                   (([(.int .u8 a_0), (.int .u8 a_1), (.int .u8 a_2), (.int .u32 a_3), (.int .u32 a_4), (.int .u32 a_5), (.int .u32 a_6), (.int .u64 a_7), (.int .u64 a_8), (.int .u8 a_9), (.int .u16 a_10), (.int .u32 a_11), (.int .u8 a_12), (.int .u8 a_13), (.int .u8 a_14), (.int .u8 a_15), (.int .u8 a_16), (.int .u8 a_17), (.int .u8 a_18), (.slice (a_19) a_19l a_19c), (.int .u8 a_20), (.string a_21), (.int .u8 a_22), (.int .u32 a_23), (.slice (a_24) a_24l a_24c), (.int .u8 a_25), (.int .u16 a_26), (.bool a_27), (.slice (a_28) a_28l a_28c), (.slice (a_29) a_29l a_29c), (.slice (a_30) a_30l a_30c)] : List Value) = [(.int .u8 a_0), (.int .u8 a_1), (.int .u8 a_2), (.int .u32 a_3), (.int .u32 a_4), (.int .u32 a_5), (.int .u32 a_6), (.int .u64 a_7), (.int .u64 a_8), (.int .u8 a_9), (.int .u16 a_10), (.int .u32 a_11), (.int .u8 a_12), (.int .u8 a_13), (.int .u8 a_14), (.int .u8 a_15), (.int .u8 a_16), (.int .u8 a_17), (.int .u8 a_18), (.slice (a_19) a_19l a_19c), (.int .u8 a_20), (.string a_21), (.int .u8 a_22), (.int .u32 a_23), (.slice (a_24) a_24l a_24c), (.int .u8 a_25), (.int .u16 a_26), (.bool a_27), (.slice (a_28) a_28l a_28c), (.slice (a_29) a_29l a_29c), (.slice (a_30) a_30l a_30c)]) ∧
                   (([(.int .u8 0), (.int .u8 0), (.int .u8 0), (.int .u32 0), (.int .u32 0), (.int .u32 0), (.int .u32 0), (.int .u64 0), (.int .u64 0), (.int .u8 0), (.int .u16 0), (.int .u32 0), (.int .u8 0), (.int .u8 0), (.int .u8 0), (.int .u8 0), (.int .u8 0), (.int .u8 0), (.int .u8 0), (.slice none 0 0), (.int .u8 0), (.string (ByteArray.mk #[])), (.int .u8 0), (.int .u32 0), (.slice none 0 0), (.int .u8 0), (.int .u16 0), (.bool false), (.slice none 0 0), (.slice none 0 0), (.slice none 0 0)] : List Value) = [(.int .u8 0), (.int .u8 0), (.int .u8 0), (.int .u32 0), (.int .u32 0), (.int .u32 0), (.int .u32 0), (.int .u64 0), (.int .u64 0), (.int .u8 0), (.int .u16 0), (.int .u32 0), (.int .u8 0), (.int .u8 0), (.int .u8 0), (.int .u8 0), (.int .u8 0), (.int .u8 0), (.int .u8 0), (.slice none 0 0), (.int .u8 0), (.string (ByteArray.mk #[])), (.int .u8 0), (.int .u32 0), (.slice none 0 0), (.int .u8 0), (.int .u16 0), (.bool false), (.slice none 0 0), (.slice none 0 0), (.slice none 0 0)]) ∧
                   (x3 (IntKind.wrap .i64 (n5 + 1)) n6 n7 n8 n9 n10 n11 n12 n13 n14 n15 n16 n17 n18 n19 n20 n21 n22 n23 n24 q25 k26 k27 n28 s29 n30 n31 q32 k33 k34 n35 n36 b37 q38 k39 k40 q41 k42 k43 q44 k45 k46 w47 (L48)) ∧
                   Nat.le ((x4 (IntKind.wrap .i64 (n5 + 1)) n6 n7 n8 n9 n10 n11 n12 n13 n14 n15 n16 n17 n18 n19 n20 n21 n22 n23 n24 q25 k26 k27 n28 s29 n30 n31 q32 k33 k34 n35 n36 b37 q38 k39 k40 q41 k42 k43 q44 k45 k46 w47) + 1) (x4 n5 n6 n7 n8 n9 n10 n11 n12 n13 n14 n15 n16 n17 n18 n19 n20 n21 n22 n23 n24 q25 k26 k27 n28 s29 n30 n31 q32 k33 k34 n35 n36 b37 q38 k39 k40 q41 k42 k43 q44 k45 k46 w47)
  else
   ∀ w49 : World, (X.Hid (L48) w47 w49) →
   R (.returned (.agg #[(.int .u8 n6), (.int .u8 n7), (.int .u8 n8), (.int .u32 n9), (.int .u32 n10), (.int .u32 n11), (.int .u32 n12), (.int .u64 n13), (.int .u64 n14), (.int .u8 n15), (.int .u16 n16), (.int .u32 n17), (.int .u8 n18), (.int .u8 n19), (.int .u8 n20), (.int .u8 n21), (.int .u8 n22), (.int .u8 n23), (.int .u8 n24), (.slice (q25) k26 k27), (.int .u8 n28), (.string s29), (.int .u8 n30), (.int .u32 n31), (.slice (q32) k33 k34), (.int .u8 n35), (.int .u16 n36), (.bool b37), (.slice (q38) k39 k40), (.slice (q41) k42 k43), (.slice (q44) k45 k46)])) w49) :
    Calls Try.prog 38 #[.agg #[.int .u8 a_0, .int .u8 a_1, .int .u8 a_2, .int .u32 a_3, .int .u32 a_4, .int .u32 a_5, .int .u32 a_6, .int .u64 a_7, .int .u64 a_8, .int .u8 a_9, .int .u16 a_10, .int .u32 a_11, .int .u8 a_12, .int .u8 a_13, .int .u8 a_14, .int .u8 a_15, .int .u8 a_16, .int .u8 a_17, .int .u8 a_18, .slice a_19 a_19l a_19c, .int .u8 a_20, .string a_21, .int .u8 a_22, .int .u32 a_23, .slice a_24 a_24l a_24c, .int .u8 a_25, .int .u16 a_26, .bool a_27, .slice a_28 a_28l a_28c, .slice a_29 a_29l a_29c, .slice a_30 a_30l a_30c], .string b] w R :=
  X.calls_of { isLoc := [2, 4, 5], sym := [18], loops := [(3, .inv [(6, .int .i64)] [(5, [.int .u8, .int .u8, .int .u8, .int .u32, .int .u32, .int .u32, .int .u32, .int .u64, .int .u64, .int .u8, .int .u16, .int .u32, .int .u8, .int .u8, .int .u8, .int .u8, .int .u8, .int .u8, .int .u8, .slice, .int .u8, .str, .int .u8, .int .u32, .slice, .int .u8, .int .u16, .bool, .slice, .slice, .slice])] true)], joins := [] } Try.func38 (by kernel_rfl) h
end Go.Proofs
