import Derived.Test.YtgpjjmpjddpocaaDoorXFn
import Derived.Test.YtgpjjmpjddpocaaDoorProg
/- The verification conditions of this seat's functions, as the engine has them: printed by a program of the bench; checked by the kernel. -/
set_option maxRecDepth 100000
set_option linter.unusedVariables false
namespace Go.Proofs
open Go
abbrev fn_PartTells : Nat := 5
theorem x_PartTells (a_0 a_1 : Int) (a_2 a_3 : ByteArray) (a_4 b_0 : Int) (b_1 : ByteArray) (c_0 : Int) (c_1 : ByteArray) (d : Option Addr) (dl dc : Nat) (w : World) (R : Ending → World → Prop) (h :
  ∀ w1 : World, ∀ L2 : List Nat, (X.Hid [] w w1) →
  (X.NewL (w).heap.size [] w w1 L2) →
  X.CallX Tryd.prog 11 #[(.slice (some ⟨(w1).heap.size, 0, none⟩) 1 1)] (w1.alloc (.cells #[(.int .u8 a_0), (.int .u8 a_1), (.string a_2), (.string a_3), (.int .i64 a_4)] 23)) fun e3 w4 =>
   ∃ b5 : Bool, (e3 = .returned (.bool b5)) ∧
   (X.Kept L2 (w1.alloc (.cells #[(.int .u8 a_0), (.int .u8 a_1), (.string a_2), (.string a_3), (.int .i64 a_4)] 23)) w4) ∧
   if (((!b5) || decide ((IntKind.wrap .i64 ((((b_1.size) : Nat) : Int) + (((c_1.size) : Nat) : Int))) > 5000)) == false) = true then
    X.CallX Tryd.prog 11 #[(.slice (d) dl dc)] w4 fun e9 w10 =>
     ∃ b11 : Bool, (e9 = .returned (.bool b11)) ∧
     (X.Kept L2 w4 w10) ∧
     if (false || (!b11)) = true then
      X.CallX Tryd.prog 9 #[] w10 fun e134 w135 =>
       ∃ b136 : Bool, (e134 = .returned (.bool b136)) ∧
       (X.Kept L2 w10 w135) ∧
       R (.returned (.bool b136)) w135
     else
      ∃ x12 : Option Addr → Nat → Nat → World → List Nat → Prop, (∃ x13 : X.Facts, (X.FactsW x13 w10 (L2)) ∧
       (∀ w14 : World, ∀ L15 : List Nat, (X.Hid (L2) w10 w14) →
        (X.NewL (w).heap.size (L2) w10 w14 L15) →
        (X.FactsW x13 (w14.alloc (.cells #[] 23)) (L15)) ∧
        (∃ q16 : Option Addr, ∃ k17 : Nat, ∃ k18 : Nat, ∃ w19 : World, (Sem.run Tryd.prog (Go.Builtin.append_ #[30, 30] 30 #[(.slice (some ⟨(w14).heap.size, 0, none⟩) 0 0), (.slice (d) dl dc)]) (w14.alloc (.cells #[] 23)) = .ok (.slice (q16) k17 k18) w19) ∧
         (X.Kept L15 (w14.alloc (.cells #[] 23)) w19) ∧
         (X.FactsW x13 w19 (L15)) ∧
         (X.FactsW x13 (w19.alloc (.cells #[(.int .u8 a_0), (.int .u8 a_1), (.string a_2), (.string a_3), (.int .i64 a_4)] 23)) (L15)) ∧
         ∃ q20 : Option Addr, ∃ k21 : Nat, ∃ k22 : Nat, ∃ w23 : World, (Sem.run Tryd.prog (Go.Builtin.append_ #[30, 30] 30 #[(.slice (q16) k17 k18), (.slice (some ⟨(w19).heap.size, 0, none⟩) 1 1)]) (w19.alloc (.cells #[(.int .u8 a_0), (.int .u8 a_1), (.string a_2), (.string a_3), (.int .i64 a_4)] 23)) = .ok (.slice (q20) k21 k22) w23) ∧
         (X.Kept L15 (w19.alloc (.cells #[(.int .u8 a_0), (.int .u8 a_1), (.string a_2), (.string a_3), (.int .i64 a_4)] 23)) w23) ∧
         (X.FactsW x13 w23 (L15)) ∧
         (([(.int .u8 a_0), (.int .u8 a_1), (.string a_2), (.string a_3), (.int .i64 a_4)] : List Value) = [(.int .u8 a_0), (.int .u8 a_1), (.string a_2), (.string a_3), (.int .i64 a_4)]) ∧
         (([(.int .u8 b_0), (.string b_1)] : List Value) = [(.int .u8 b_0), (.string b_1)]) ∧
         (([(.int .u8 c_0), (.string c_1)] : List Value) = [(.int .u8 c_0), (.string c_1)]) ∧
         x12 q20 k21 k22 w23 (L15)) ∧
        (X.FactsW x13 ((w14.alloc (.cells #[] 23)).alloc (.cells #[(.int .u8 a_0), (.int .u8 a_1), (.string a_2), (.string a_3), (.int .i64 a_4)] 23)) (L15)) ∧
        ∃ q24 : Option Addr, ∃ k25 : Nat, ∃ k26 : Nat, ∃ w27 : World, (Sem.run Tryd.prog (Go.Builtin.append_ #[30, 30] 30 #[(.slice (some ⟨(w14).heap.size, 0, none⟩) 0 0), (.slice (d) dl dc)]) ((w14.alloc (.cells #[] 23)).alloc (.cells #[(.int .u8 a_0), (.int .u8 a_1), (.string a_2), (.string a_3), (.int .i64 a_4)] 23)) = .ok (.slice (q24) k25 k26) w27) ∧
        (X.Kept L15 ((w14.alloc (.cells #[] 23)).alloc (.cells #[(.int .u8 a_0), (.int .u8 a_1), (.string a_2), (.string a_3), (.int .i64 a_4)] 23)) w27) ∧
        (X.FactsW x13 w27 (L15)) ∧
        ∃ q28 : Option Addr, ∃ k29 : Nat, ∃ k30 : Nat, ∃ w31 : World, (Sem.run Tryd.prog (Go.Builtin.append_ #[30, 30] 30 #[(.slice (q24) k25 k26), (.slice (some ⟨((w14.alloc (.cells #[] 23))).heap.size, 0, none⟩) 1 1)]) w27 = .ok (.slice (q28) k29 k30) w31) ∧
        (X.Kept L15 w27 w31) ∧
        (X.FactsW x13 w31 (L15)) ∧
        (([(.int .u8 a_0), (.int .u8 a_1), (.string a_2), (.string a_3), (.int .i64 a_4)] : List Value) = [(.int .u8 a_0), (.int .u8 a_1), (.string a_2), (.string a_3), (.int .i64 a_4)]) ∧
        (([(.int .u8 b_0), (.string b_1)] : List Value) = [(.int .u8 b_0), (.string b_1)]) ∧
        (([(.int .u8 c_0), (.string c_1)] : List Value) = [(.int .u8 c_0), (.string c_1)]) ∧
        x12 q28 k29 k30 w31 (L15)) ∧
       ∀ w32 : World, ∀ L33 : List Nat, (X.Hid (L2) w10 w32) →
       (X.NewL (w).heap.size (L2) w10 w32 L33) →
       (X.FactsW x13 (w32.alloc (.cells #[(.int .u8 a_0), (.int .u8 a_1), (.string a_2), (.string a_3), (.int .i64 a_4)] 23)) (L33)) ∧
       (X.FactsW x13 ((w32.alloc (.cells #[(.int .u8 a_0), (.int .u8 a_1), (.string a_2), (.string a_3), (.int .i64 a_4)] 23)).alloc (.cells #[] 23)) (L33)) ∧
       ∃ q34 : Option Addr, ∃ k35 : Nat, ∃ k36 : Nat, ∃ w37 : World, (Sem.run Tryd.prog (Go.Builtin.append_ #[30, 30] 30 #[(.slice (some ⟨((w32.alloc (.cells #[(.int .u8 a_0), (.int .u8 a_1), (.string a_2), (.string a_3), (.int .i64 a_4)] 23))).heap.size, 0, none⟩) 0 0), (.slice (d) dl dc)]) ((w32.alloc (.cells #[(.int .u8 a_0), (.int .u8 a_1), (.string a_2), (.string a_3), (.int .i64 a_4)] 23)).alloc (.cells #[] 23)) = .ok (.slice (q34) k35 k36) w37) ∧
       (X.Kept L33 ((w32.alloc (.cells #[(.int .u8 a_0), (.int .u8 a_1), (.string a_2), (.string a_3), (.int .i64 a_4)] 23)).alloc (.cells #[] 23)) w37) ∧
       (X.FactsW x13 w37 (L33)) ∧
       ∃ q38 : Option Addr, ∃ k39 : Nat, ∃ k40 : Nat, ∃ w41 : World, (Sem.run Tryd.prog (Go.Builtin.append_ #[30, 30] 30 #[(.slice (q34) k35 k36), (.slice (some ⟨(w32).heap.size, 0, none⟩) 1 1)]) w37 = .ok (.slice (q38) k39 k40) w41) ∧
       (X.Kept L33 w37 w41) ∧
       (X.FactsW x13 w41 (L33)) ∧
       (([(.int .u8 a_0), (.int .u8 a_1), (.string a_2), (.string a_3), (.int .i64 a_4)] : List Value) = [(.int .u8 a_0), (.int .u8 a_1), (.string a_2), (.string a_3), (.int .i64 a_4)]) ∧
       (([(.int .u8 b_0), (.string b_1)] : List Value) = [(.int .u8 b_0), (.string b_1)]) ∧
       (([(.int .u8 c_0), (.string c_1)] : List Value) = [(.int .u8 c_0), (.string c_1)]) ∧
       x12 q38 k39 k40 w41 (L33)) ∧
      ∀ q42 : Option Addr, ∀ k43 : Nat, ∀ k44 : Nat, ∀ w45 : World, ∀ L46 : List Nat, (X.LF (w).heap.size w45 L46) →
      (x12 q42 k43 k44 w45 L46) →
      ∃ x47 : X.Facts, (X.FactsW x47 w45 (L46)) ∧
      ∀ w48 : World, ∀ L49 : List Nat, (X.Hid (L46) w45 w48) →
      (X.NewL (w).heap.size (L46) w45 w48 L49) →
      X.CallX Tryd.prog 6 #[(.agg #[(.int .u8 a_0), (.int .u8 a_1), (.string a_2), (.string a_3), (.int .i64 a_4)])] w48 fun e50 w51 =>
       ∃ n52 : Int, ∃ n53 : Int, ∃ s54 : ByteArray, ∃ s55 : ByteArray, ∃ n56 : Int, (e50 = .returned (.agg #[(.int .u8 n52), (.int .u8 n53), (.string s54), (.string s55), (.int .i64 n56)])) ∧
       (X.Kept L49 w48 w51) ∧
       (X.FactsW x47 w51 (L49)) ∧
       ∃ x57 : X.Facts, (X.FactsW x57 w51 (L49)) ∧
       (∀ x58 : Addr × List Value, (x58 ∈ x47) →
        x58 ∈ x57) ∧
       X.CallX Tryd.prog 10 #[(.agg #[(.int .u8 n52), (.int .u8 n53), (.string s54), (.string s55), (.int .i64 n56)])] w51 fun e59 w60 =>
        ∃ s61 : ByteArray, (e59 = .returned (.string s61)) ∧
        (X.Kept L49 w51 w60) ∧
        (X.FactsW x57 w60 (L49)) ∧
        ∃ x62 : X.Facts, (X.FactsW x62 w60 (L49)) ∧
        (∀ x63 : Addr × List Value, (x63 ∈ x57) →
         x63 ∈ x62) ∧
        X.CallX Tryd.prog 19 #[(.agg #[(.int .u8 a_0), (.int .u8 a_1), (.string a_2), (.string a_3), (.int .i64 a_4)])] w60 fun e64 w65 =>
         ∃ s66 : ByteArray, (e64 = .returned (.string s66)) ∧
         (X.Kept L49 w60 w65) ∧
         (X.FactsW x62 w65 (L49)) ∧
         ∃ x67 : X.Facts, (X.FactsW x67 w65 (L49)) ∧
         (∀ x68 : Addr × List Value, (x68 ∈ x62) →
          x68 ∈ x67) ∧
         if (((s61.toList) == (s66.toList)) == true) = true then
          X.CallX Tryd.prog 16 #[(.agg #[(.int .u8 b_0), (.string b_1)])] w65 fun e69 w70 =>
           ∃ n71 : Int, ∃ s72 : ByteArray, (e69 = .returned (.agg #[(.int .u8 n71), (.string s72)])) ∧
           (X.Kept L49 w65 w70) ∧
           (X.FactsW x67 w70 (L49)) ∧
           X.CallX Tryd.prog 16 #[(.agg #[(.int .u8 c_0), (.string c_1)])] w70 fun e73 w74 =>
            ∃ n75 : Int, ∃ s76 : ByteArray, (e73 = .returned (.agg #[(.int .u8 n75), (.string s76)])) ∧
            (X.Kept L49 w70 w74) ∧
            (X.FactsW x67 w74 (L49)) ∧
            X.CallX Tryd.prog 21 #[(.agg #[(.int .u8 n71), (.string s72)]), (.agg #[(.int .u8 n75), (.string s76)])] w74 fun e77 w78 =>
             ∃ n79 : Int, ∃ s80 : ByteArray, (e77 = .returned (.agg #[(.int .u8 n79), (.string s80)])) ∧
             (X.Kept L49 w74 w78) ∧
             (X.FactsW x67 w78 (L49)) ∧
             X.CallX Tryd.prog 20 #[(.agg #[(.int .u8 n79), (.string s80)])] w78 fun e81 w82 =>
              ∃ n83 : Int, ∃ s84 : ByteArray, (e81 = .returned (.agg #[(.int .u8 n83), (.string s84)])) ∧
              (X.Kept L49 w78 w82) ∧
              (X.FactsW x67 w82 (L49)) ∧
              X.CallX Tryd.prog 22 #[(.agg #[(.int .u8 b_0), (.string b_1)]), (.agg #[(.int .u8 c_0), (.string c_1)])] w82 fun e85 w86 =>
               ∃ n87 : Int, ∃ s88 : ByteArray, (e85 = .returned (.agg #[(.int .u8 n87), (.string s88)])) ∧
               (X.Kept L49 w82 w86) ∧
               (X.FactsW x67 w86 (L49)) ∧
               if ((true && ((n83 == n87) && (s84 == s88))) == true) = true then
                X.CallX Tryd.prog 14 #[(.slice (d) dl dc)] w86 fun e89 w90 =>
                 ∃ q91 : Option Addr, ∃ k92 : Nat, ∃ k93 : Nat, (e89 = .returned (.slice (q91) k92 k93)) ∧
                 (X.Kept L49 w86 w90) ∧
                 (X.FactsW x67 w90 (L49)) ∧
                 X.CallX Tryd.prog 14 #[(.slice (d) dl dc)] w90 fun e94 w95 =>
                  ∃ q96 : Option Addr, ∃ k97 : Nat, ∃ k98 : Nat, (e94 = .returned (.slice (q96) k97 k98)) ∧
                  (X.Kept L49 w90 w95) ∧
                  (X.FactsW x67 w95 (L49)) ∧
                  X.CallX Tryd.prog 23 #[(.slice (q91) k92 k93), (.slice (q96) k97 k98)] w95 fun e99 w100 =>
                   ∃ b101 : Bool, (e99 = .returned (.bool b101)) ∧
                   (X.Kept L49 w95 w100) ∧
                   (X.FactsW x67 w100 (L49)) ∧
                   if ((true && b101) == true) = true then
                    X.CallX Tryd.prog 14 #[(.slice (d) dl dc)] w100 fun e102 w103 =>
                     ∃ q104 : Option Addr, ∃ k105 : Nat, ∃ k106 : Nat, (e102 = .returned (.slice (q104) k105 k106)) ∧
                     (X.Kept L49 w100 w103) ∧
                     (X.FactsW x67 w103 (L49)) ∧
                     X.CallX Tryd.prog 14 #[(.slice (q42) k43 k44)] w103 fun e107 w108 =>
                      ∃ q109 : Option Addr, ∃ k110 : Nat, ∃ k111 : Nat, (e107 = .returned (.slice (q109) k110 k111)) ∧
                      (X.Kept L49 w103 w108) ∧
                      (X.FactsW x67 w108 (L49)) ∧
                      X.CallX Tryd.prog 23 #[(.slice (q104) k105 k106), (.slice (q109) k110 k111)] w108 fun e112 w113 =>
                       ∃ b114 : Bool, (e112 = .returned (.bool b114)) ∧
                       (X.Kept L49 w108 w113) ∧
                       (X.FactsW x67 w113 (L49)) ∧
                       if ((true && (!b114)) == true) = true then
                        ((0 : Int) ≤ ((dl : Nat) : Int)) ∧
                        (((dl : Nat) : Int) ≤ ((k43 : Nat) : Int)) ∧
                        ((0 : Int) ≤ ((dl : Nat) : Int)) ∧
                        (((dl : Nat) : Int) ≤ ((k43 : Nat) : Int)) ∧
                        X.CallX Tryd.prog 14 #[(.slice (X.cutA (q42) k44 (((dl : Nat) : Int)).toNat 5) (k43 - (((dl : Nat) : Int)).toNat) (k44 - (((dl : Nat) : Int)).toNat))] w113 fun e115 w116 =>
                         ∃ q117 : Option Addr, ∃ k118 : Nat, ∃ k119 : Nat, (e115 = .returned (.slice (q117) k118 k119)) ∧
                         (X.Kept L49 w113 w116) ∧
                         (X.FactsW x67 w116 (L49)) ∧
                         X.CallX Tryd.prog 14 #[(.slice (d) dl dc)] w116 fun e120 w121 =>
                          ∃ q122 : Option Addr, ∃ k123 : Nat, ∃ k124 : Nat, (e120 = .returned (.slice (q122) k123 k124)) ∧
                          (X.Kept L49 w116 w121) ∧
                          (X.FactsW x67 w121 (L49)) ∧
                          X.CallX Tryd.prog 23 #[(.slice (q117) k118 k119), (.slice (q122) k123 k124)] w121 fun e125 w126 =>
                           ∃ b127 : Bool, (e125 = .returned (.bool b127)) ∧
                           (X.Kept L49 w121 w126) ∧
                           (X.FactsW x67 w126 (L49)) ∧
                           X.CallX Tryd.prog 24 #[(.slice (X.cutA (q42) k44 (((dl : Nat) : Int)).toNat 5) (k43 - (((dl : Nat) : Int)).toNat) (k44 - (((dl : Nat) : Int)).toNat)), (.slice (d) dl dc)] w126 fun e128 w129 =>
                            ∃ b130 : Bool, (e128 = .returned (.bool b130)) ∧
                            (X.Kept L49 w126 w129) ∧
                            (X.FactsW x67 w129 (L49)) ∧
                            if ((true && (b127 == b130)) == true) = true then
                             X.CallX Tryd.prog 9 #[] w129 fun e131 w132 =>
                              ∃ b133 : Bool, (e131 = .returned (.bool b133)) ∧
                              (X.Kept L49 w129 w132) ∧
                              (X.FactsW x67 w132 (L49)) ∧
                              R (.returned (.bool (true && b133))) w132
                            else
                             R (.returned (.bool false)) w129
                       else
                        R (.returned (.bool false)) w113
                   else
                    R (.returned (.bool false)) w100
               else
                R (.returned (.bool false)) w86
         else
          R (.returned (.bool false)) w65
   else
    X.CallX Tryd.prog 9 #[] w4 fun e6 w7 =>
     ∃ b8 : Bool, (e6 = .returned (.bool b8)) ∧
     (X.Kept L2 w4 w7) ∧
     R (.returned (.bool b8)) w7) :
    Calls Tryd.prog 5 #[.agg #[.int .u8 a_0, .int .u8 a_1, .string a_2, .string a_3, .int .i64 a_4], .agg #[.int .u8 b_0, .string b_1], .agg #[.int .u8 c_0, .string c_1], .slice d dl dc] w R :=
  X.calls_of { isLoc := [4, 5, 6], sym := [], loops := [], joins := [], rjoins := [(3, ([(9, .slice)], [], []))] } Tryd.func5 (by kernel_rfl) h
end Go.Proofs
