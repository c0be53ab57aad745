import Derived.Test.YthlhoikeacgfnaaXFn
import Derived.Test.YthlhoikeacgfnaaProg
/- The verification conditions of this seat's functions, as the engine has them: printed by a program of the bench; checked by the kernel. -/
set_option maxRecDepth 100000
set_option linter.unusedVariables false
namespace Go.Proofs
open Go
abbrev fn_gemotlaw02_IdentOrdered : Nat := 5
theorem x_gemotlaw02_IdentOrdered (a_0 a_1 a_2 a_3 a_4 a_5 a_6 a_7 a_8 a_9 b_0 b_1 b_2 b_3 b_4 b_5 b_6 b_7 b_8 b_9 c_0 c_1 c_2 c_3 c_4 c_5 c_6 c_7 c_8 c_9 : Int) (w : World) (R : Ending → World → Prop) (h :
 ∃ x1 : Int → Int → Int → Int → Int → Int → Int → Int → Int → Int → Int → Int → Int → Int → Int → Int → Int → Int → Int → Int → Int → Int → Int → Int → Int → Int → Int → Int → Int → Int → World → List Nat → Prop, (∃ x2 : X.Facts, (X.FactsW x2 w []) ∧
 (∀ w3 : World, ∀ L4 : List Nat, (X.Hid [] w w3) →
 (X.NewL (w).heap.size [] w w3 L4) →
 X.CallX Try.prog 9 #[(.agg #[(.int .u8 a_0), (.int .u16 a_1), (.int .u32 a_2), (.int .u8 a_3), (.int .u8 a_4), (.int .u8 a_5), (.int .u8 a_6), (.int .u8 a_7), (.int .u8 a_8), (.int .u8 a_9)])] w3 fun e5 w6 =>
 ∃ n7 : Int, ∃ n8 : Int, ∃ n9 : Int, ∃ n10 : Int, ∃ n11 : Int, ∃ n12 : Int, ∃ n13 : Int, ∃ n14 : Int, ∃ n15 : Int, ∃ n16 : Int, (e5 = .returned (.agg #[(.int .u8 n7), (.int .u16 n8), (.int .u32 n9), (.int .u8 n10), (.int .u8 n11), (.int .u8 n12), (.int .u8 n13), (.int .u8 n14), (.int .u8 n15), (.int .u8 n16)])) ∧
 (X.Kept L4 w3 w6) ∧
 (X.FactsW x2 w6 (L4)) ∧
 (X.CallX Try.prog 9 #[(.agg #[(.int .u8 b_0), (.int .u16 b_1), (.int .u32 b_2), (.int .u8 b_3), (.int .u8 b_4), (.int .u8 b_5), (.int .u8 b_6), (.int .u8 b_7), (.int .u8 b_8), (.int .u8 b_9)])] w6 fun e17 w18 =>
 ∃ n19 : Int, ∃ n20 : Int, ∃ n21 : Int, ∃ n22 : Int, ∃ n23 : Int, ∃ n24 : Int, ∃ n25 : Int, ∃ n26 : Int, ∃ n27 : Int, ∃ n28 : Int, (e17 = .returned (.agg #[(.int .u8 n19), (.int .u16 n20), (.int .u32 n21), (.int .u8 n22), (.int .u8 n23), (.int .u8 n24), (.int .u8 n25), (.int .u8 n26), (.int .u8 n27), (.int .u8 n28)])) ∧
 (X.Kept L4 w6 w18) ∧
 (X.FactsW x2 w18 (L4)) ∧
 (X.CallX Try.prog 9 #[(.agg #[(.int .u8 c_0), (.int .u16 c_1), (.int .u32 c_2), (.int .u8 c_3), (.int .u8 c_4), (.int .u8 c_5), (.int .u8 c_6), (.int .u8 c_7), (.int .u8 c_8), (.int .u8 c_9)])] w18 fun e29 w30 =>
 ∃ n31 : Int, ∃ n32 : Int, ∃ n33 : Int, ∃ n34 : Int, ∃ n35 : Int, ∃ n36 : Int, ∃ n37 : Int, ∃ n38 : Int, ∃ n39 : Int, ∃ n40 : Int, (e29 = .returned (.agg #[(.int .u8 n31), (.int .u16 n32), (.int .u32 n33), (.int .u8 n34), (.int .u8 n35), (.int .u8 n36), (.int .u8 n37), (.int .u8 n38), (.int .u8 n39), (.int .u8 n40)])) ∧
 (X.Kept L4 w18 w30) ∧
 (X.FactsW x2 w30 (L4)) ∧
 ((∀ w41 : World, ∀ L42 : List Nat, (X.Hid (L4) w30 w41) →
 (X.NewL (w).heap.size (L4) w30 w41 L42) →
 (([(.int .u8 a_0), (.int .u16 a_1), (.int .u32 a_2), (.int .u8 a_3), (.int .u8 a_4), (.int .u8 a_5), (.int .u8 a_6), (.int .u8 a_7), (.int .u8 a_8), (.int .u8 a_9)] : List Value) = [(.int .u8 a_0), (.int .u16 a_1), (.int .u32 a_2), (.int .u8 a_3), (.int .u8 a_4), (.int .u8 a_5), (.int .u8 a_6), (.int .u8 a_7), (.int .u8 a_8), (.int .u8 a_9)]) ∧
 (([(.int .u8 b_0), (.int .u16 b_1), (.int .u32 b_2), (.int .u8 b_3), (.int .u8 b_4), (.int .u8 b_5), (.int .u8 b_6), (.int .u8 b_7), (.int .u8 b_8), (.int .u8 b_9)] : List Value) = [(.int .u8 b_0), (.int .u16 b_1), (.int .u32 b_2), (.int .u8 b_3), (.int .u8 b_4), (.int .u8 b_5), (.int .u8 b_6), (.int .u8 b_7), (.int .u8 b_8), (.int .u8 b_9)]) ∧
 (([(.int .u8 c_0), (.int .u16 c_1), (.int .u32 c_2), (.int .u8 c_3), (.int .u8 c_4), (.int .u8 c_5), (.int .u8 c_6), (.int .u8 c_7), (.int .u8 c_8), (.int .u8 c_9)] : List Value) = [(.int .u8 c_0), (.int .u16 c_1), (.int .u32 c_2), (.int .u8 c_3), (.int .u8 c_4), (.int .u8 c_5), (.int .u8 c_6), (.int .u8 c_7), (.int .u8 c_8), (.int .u8 c_9)]) ∧
 x1 n7 n8 n9 n10 n11 n12 n13 n14 n15 n16 n19 n20 n21 n22 n23 n24 n25 n26 n27 n28 n31 n32 n33 n34 n35 n36 n37 n38 n39 n40 w41 (L42)) ∧
 ∀ w43 : World, ∀ L44 : List Nat, (X.Hid (L4) w30 w43) →
 (X.NewL (w).heap.size (L4) w30 w43 L44) →
 (([(.int .u8 a_0), (.int .u16 a_1), (.int .u32 a_2), (.int .u8 a_3), (.int .u8 a_4), (.int .u8 a_5), (.int .u8 a_6), (.int .u8 a_7), (.int .u8 a_8), (.int .u8 a_9)] : List Value) = [(.int .u8 a_0), (.int .u16 a_1), (.int .u32 a_2), (.int .u8 a_3), (.int .u8 a_4), (.int .u8 a_5), (.int .u8 a_6), (.int .u8 a_7), (.int .u8 a_8), (.int .u8 a_9)]) ∧
 (([(.int .u8 b_0), (.int .u16 b_1), (.int .u32 b_2), (.int .u8 b_3), (.int .u8 b_4), (.int .u8 b_5), (.int .u8 b_6), (.int .u8 b_7), (.int .u8 b_8), (.int .u8 b_9)] : List Value) = [(.int .u8 b_0), (.int .u16 b_1), (.int .u32 b_2), (.int .u8 b_3), (.int .u8 b_4), (.int .u8 b_5), (.int .u8 b_6), (.int .u8 b_7), (.int .u8 b_8), (.int .u8 b_9)]) ∧
 (([(.int .u8 c_0), (.int .u16 c_1), (.int .u32 c_2), (.int .u8 c_3), (.int .u8 c_4), (.int .u8 c_5), (.int .u8 c_6), (.int .u8 c_7), (.int .u8 c_8), (.int .u8 c_9)] : List Value) = [(.int .u8 c_0), (.int .u16 c_1), (.int .u32 c_2), (.int .u8 c_3), (.int .u8 c_4), (.int .u8 c_5), (.int .u8 c_6), (.int .u8 c_7), (.int .u8 c_8), (.int .u8 c_9)]) ∧
 x1 n7 n8 n9 n10 n11 n12 n13 n14 n15 n16 n19 n20 n21 n22 n23 n24 n25 n26 n27 n28 n31 n32 n33 n34 n35 n36 n37 n38 n39 n40 w43 (L44)) ∧
 ((∀ w45 : World, ∀ L46 : List Nat, (X.Hid (L4) w30 w45) →
 (X.NewL (w).heap.size (L4) w30 w45 L46) →
 (([(.int .u8 a_0), (.int .u16 a_1), (.int .u32 a_2), (.int .u8 a_3), (.int .u8 a_4), (.int .u8 a_5), (.int .u8 a_6), (.int .u8 a_7), (.int .u8 a_8), (.int .u8 a_9)] : List Value) = [(.int .u8 a_0), (.int .u16 a_1), (.int .u32 a_2), (.int .u8 a_3), (.int .u8 a_4), (.int .u8 a_5), (.int .u8 a_6), (.int .u8 a_7), (.int .u8 a_8), (.int .u8 a_9)]) ∧
 (([(.int .u8 b_0), (.int .u16 b_1), (.int .u32 b_2), (.int .u8 b_3), (.int .u8 b_4), (.int .u8 b_5), (.int .u8 b_6), (.int .u8 b_7), (.int .u8 b_8), (.int .u8 b_9)] : List Value) = [(.int .u8 b_0), (.int .u16 b_1), (.int .u32 b_2), (.int .u8 b_3), (.int .u8 b_4), (.int .u8 b_5), (.int .u8 b_6), (.int .u8 b_7), (.int .u8 b_8), (.int .u8 b_9)]) ∧
 (([(.int .u8 c_0), (.int .u16 c_1), (.int .u32 c_2), (.int .u8 c_3), (.int .u8 c_4), (.int .u8 c_5), (.int .u8 c_6), (.int .u8 c_7), (.int .u8 c_8), (.int .u8 c_9)] : List Value) = [(.int .u8 c_0), (.int .u16 c_1), (.int .u32 c_2), (.int .u8 c_3), (.int .u8 c_4), (.int .u8 c_5), (.int .u8 c_6), (.int .u8 c_7), (.int .u8 c_8), (.int .u8 c_9)]) ∧
 x1 n7 n8 n9 n10 n11 n12 n13 n14 n15 n16 n19 n20 n21 n22 n23 n24 n25 n26 n27 n28 n31 n32 n33 n34 n35 n36 n37 n38 n39 n40 w45 (L46)) ∧
 ∀ w47 : World, ∀ L48 : List Nat, (X.Hid (L4) w30 w47) →
 (X.NewL (w).heap.size (L4) w30 w47 L48) →
 (([(.int .u8 a_0), (.int .u16 a_1), (.int .u32 a_2), (.int .u8 a_3), (.int .u8 a_4), (.int .u8 a_5), (.int .u8 a_6), (.int .u8 a_7), (.int .u8 a_8), (.int .u8 a_9)] : List Value) = [(.int .u8 a_0), (.int .u16 a_1), (.int .u32 a_2), (.int .u8 a_3), (.int .u8 a_4), (.int .u8 a_5), (.int .u8 a_6), (.int .u8 a_7), (.int .u8 a_8), (.int .u8 a_9)]) ∧
 (([(.int .u8 b_0), (.int .u16 b_1), (.int .u32 b_2), (.int .u8 b_3), (.int .u8 b_4), (.int .u8 b_5), (.int .u8 b_6), (.int .u8 b_7), (.int .u8 b_8), (.int .u8 b_9)] : List Value) = [(.int .u8 b_0), (.int .u16 b_1), (.int .u32 b_2), (.int .u8 b_3), (.int .u8 b_4), (.int .u8 b_5), (.int .u8 b_6), (.int .u8 b_7), (.int .u8 b_8), (.int .u8 b_9)]) ∧
 (([(.int .u8 c_0), (.int .u16 c_1), (.int .u32 c_2), (.int .u8 c_3), (.int .u8 c_4), (.int .u8 c_5), (.int .u8 c_6), (.int .u8 c_7), (.int .u8 c_8), (.int .u8 c_9)] : List Value) = [(.int .u8 c_0), (.int .u16 c_1), (.int .u32 c_2), (.int .u8 c_3), (.int .u8 c_4), (.int .u8 c_5), (.int .u8 c_6), (.int .u8 c_7), (.int .u8 c_8), (.int .u8 c_9)]) ∧
 x1 n7 n8 n9 n10 n11 n12 n13 n14 n15 n16 n19 n20 n21 n22 n23 n24 n25 n26 n27 n28 n31 n32 n33 n34 n35 n36 n37 n38 n39 n40 w47 (L48)) ∧
 (∀ w49 : World, ∀ L50 : List Nat, (X.Hid (L4) w30 w49) →
 (X.NewL (w).heap.size (L4) w30 w49 L50) →
 (([(.int .u8 a_0), (.int .u16 a_1), (.int .u32 a_2), (.int .u8 a_3), (.int .u8 a_4), (.int .u8 a_5), (.int .u8 a_6), (.int .u8 a_7), (.int .u8 a_8), (.int .u8 a_9)] : List Value) = [(.int .u8 a_0), (.int .u16 a_1), (.int .u32 a_2), (.int .u8 a_3), (.int .u8 a_4), (.int .u8 a_5), (.int .u8 a_6), (.int .u8 a_7), (.int .u8 a_8), (.int .u8 a_9)]) ∧
 (([(.int .u8 b_0), (.int .u16 b_1), (.int .u32 b_2), (.int .u8 b_3), (.int .u8 b_4), (.int .u8 b_5), (.int .u8 b_6), (.int .u8 b_7), (.int .u8 b_8), (.int .u8 b_9)] : List Value) = [(.int .u8 b_0), (.int .u16 b_1), (.int .u32 b_2), (.int .u8 b_3), (.int .u8 b_4), (.int .u8 b_5), (.int .u8 b_6), (.int .u8 b_7), (.int .u8 b_8), (.int .u8 b_9)]) ∧
 (([(.int .u8 c_0), (.int .u16 c_1), (.int .u32 c_2), (.int .u8 c_3), (.int .u8 c_4), (.int .u8 c_5), (.int .u8 c_6), (.int .u8 c_7), (.int .u8 c_8), (.int .u8 c_9)] : List Value) = [(.int .u8 c_0), (.int .u16 c_1), (.int .u32 c_2), (.int .u8 c_3), (.int .u8 c_4), (.int .u8 c_5), (.int .u8 c_6), (.int .u8 c_7), (.int .u8 c_8), (.int .u8 c_9)]) ∧
 x1 n7 n8 n9 n10 n11 n12 n13 n14 n15 n16 n19 n20 n21 n22 n23 n24 n25 n26 n27 n28 n31 n32 n33 n34 n35 n36 n37 n38 n39 n40 w49 (L50)) ∧
 ∀ w51 : World, ∀ L52 : List Nat, (X.Hid (L4) w30 w51) →
 (X.NewL (w).heap.size (L4) w30 w51 L52) →
 (([(.int .u8 a_0), (.int .u16 a_1), (.int .u32 a_2), (.int .u8 a_3), (.int .u8 a_4), (.int .u8 a_5), (.int .u8 a_6), (.int .u8 a_7), (.int .u8 a_8), (.int .u8 a_9)] : List Value) = [(.int .u8 a_0), (.int .u16 a_1), (.int .u32 a_2), (.int .u8 a_3), (.int .u8 a_4), (.int .u8 a_5), (.int .u8 a_6), (.int .u8 a_7), (.int .u8 a_8), (.int .u8 a_9)]) ∧
 (([(.int .u8 b_0), (.int .u16 b_1), (.int .u32 b_2), (.int .u8 b_3), (.int .u8 b_4), (.int .u8 b_5), (.int .u8 b_6), (.int .u8 b_7), (.int .u8 b_8), (.int .u8 b_9)] : List Value) = [(.int .u8 b_0), (.int .u16 b_1), (.int .u32 b_2), (.int .u8 b_3), (.int .u8 b_4), (.int .u8 b_5), (.int .u8 b_6), (.int .u8 b_7), (.int .u8 b_8), (.int .u8 b_9)]) ∧
 (([(.int .u8 c_0), (.int .u16 c_1), (.int .u32 c_2), (.int .u8 c_3), (.int .u8 c_4), (.int .u8 c_5), (.int .u8 c_6), (.int .u8 c_7), (.int .u8 c_8), (.int .u8 c_9)] : List Value) = [(.int .u8 c_0), (.int .u16 c_1), (.int .u32 c_2), (.int .u8 c_3), (.int .u8 c_4), (.int .u8 c_5), (.int .u8 c_6), (.int .u8 c_7), (.int .u8 c_8), (.int .u8 c_9)]) ∧
 x1 n7 n8 n9 n10 n11 n12 n13 n14 n15 n16 n19 n20 n21 n22 n23 n24 n25 n26 n27 n28 n31 n32 n33 n34 n35 n36 n37 n38 n39 n40 w51 (L52)) ∧
 ((∀ w53 : World, ∀ L54 : List Nat, (X.Hid (L4) w18 w53) →
 (X.NewL (w).heap.size (L4) w18 w53 L54) →
 X.CallX Try.prog 9 #[(.agg #[(.int .u8 c_0), (.int .u16 c_1), (.int .u32 c_2), (.int .u8 c_3), (.int .u8 c_4), (.int .u8 c_5), (.int .u8 c_6), (.int .u8 c_7), (.int .u8 c_8), (.int .u8 c_9)])] w53 fun e55 w56 =>
 ∃ n57 : Int, ∃ n58 : Int, ∃ n59 : Int, ∃ n60 : Int, ∃ n61 : Int, ∃ n62 : Int, ∃ n63 : Int, ∃ n64 : Int, ∃ n65 : Int, ∃ n66 : Int, (e55 = .returned (.agg #[(.int .u8 n57), (.int .u16 n58), (.int .u32 n59), (.int .u8 n60), (.int .u8 n61), (.int .u8 n62), (.int .u8 n63), (.int .u8 n64), (.int .u8 n65), (.int .u8 n66)])) ∧
 (X.Kept L54 w53 w56) ∧
 (X.FactsW x2 w56 (L54)) ∧
 (∀ w67 : World, ∀ L68 : List Nat, (X.Hid (L54) w56 w67) →
 (X.NewL (w).heap.size (L54) w56 w67 L68) →
 (([(.int .u8 a_0), (.int .u16 a_1), (.int .u32 a_2), (.int .u8 a_3), (.int .u8 a_4), (.int .u8 a_5), (.int .u8 a_6), (.int .u8 a_7), (.int .u8 a_8), (.int .u8 a_9)] : List Value) = [(.int .u8 a_0), (.int .u16 a_1), (.int .u32 a_2), (.int .u8 a_3), (.int .u8 a_4), (.int .u8 a_5), (.int .u8 a_6), (.int .u8 a_7), (.int .u8 a_8), (.int .u8 a_9)]) ∧
 (([(.int .u8 b_0), (.int .u16 b_1), (.int .u32 b_2), (.int .u8 b_3), (.int .u8 b_4), (.int .u8 b_5), (.int .u8 b_6), (.int .u8 b_7), (.int .u8 b_8), (.int .u8 b_9)] : List Value) = [(.int .u8 b_0), (.int .u16 b_1), (.int .u32 b_2), (.int .u8 b_3), (.int .u8 b_4), (.int .u8 b_5), (.int .u8 b_6), (.int .u8 b_7), (.int .u8 b_8), (.int .u8 b_9)]) ∧
 (([(.int .u8 c_0), (.int .u16 c_1), (.int .u32 c_2), (.int .u8 c_3), (.int .u8 c_4), (.int .u8 c_5), (.int .u8 c_6), (.int .u8 c_7), (.int .u8 c_8), (.int .u8 c_9)] : List Value) = [(.int .u8 c_0), (.int .u16 c_1), (.int .u32 c_2), (.int .u8 c_3), (.int .u8 c_4), (.int .u8 c_5), (.int .u8 c_6), (.int .u8 c_7), (.int .u8 c_8), (.int .u8 c_9)]) ∧
 x1 n7 n8 n9 n10 n11 n12 n13 n14 n15 n16 n19 n20 n21 n22 n23 n24 n25 n26 n27 n28 n57 n58 n59 n60 n61 n62 n63 n64 n65 n66 w67 (L68)) ∧
 ∀ w69 : World, ∀ L70 : List Nat, (X.Hid (L54) w56 w69) →
 (X.NewL (w).heap.size (L54) w56 w69 L70) →
 (([(.int .u8 a_0), (.int .u16 a_1), (.int .u32 a_2), (.int .u8 a_3), (.int .u8 a_4), (.int .u8 a_5), (.int .u8 a_6), (.int .u8 a_7), (.int .u8 a_8), (.int .u8 a_9)] : List Value) = [(.int .u8 a_0), (.int .u16 a_1), (.int .u32 a_2), (.int .u8 a_3), (.int .u8 a_4), (.int .u8 a_5), (.int .u8 a_6), (.int .u8 a_7), (.int .u8 a_8), (.int .u8 a_9)]) ∧
 (([(.int .u8 b_0), (.int .u16 b_1), (.int .u32 b_2), (.int .u8 b_3), (.int .u8 b_4), (.int .u8 b_5), (.int .u8 b_6), (.int .u8 b_7), (.int .u8 b_8), (.int .u8 b_9)] : List Value) = [(.int .u8 b_0), (.int .u16 b_1), (.int .u32 b_2), (.int .u8 b_3), (.int .u8 b_4), (.int .u8 b_5), (.int .u8 b_6), (.int .u8 b_7), (.int .u8 b_8), (.int .u8 b_9)]) ∧
 (([(.int .u8 c_0), (.int .u16 c_1), (.int .u32 c_2), (.int .u8 c_3), (.int .u8 c_4), (.int .u8 c_5), (.int .u8 c_6), (.int .u8 c_7), (.int .u8 c_8), (.int .u8 c_9)] : List Value) = [(.int .u8 c_0), (.int .u16 c_1), (.int .u32 c_2), (.int .u8 c_3), (.int .u8 c_4), (.int .u8 c_5), (.int .u8 c_6), (.int .u8 c_7), (.int .u8 c_8), (.int .u8 c_9)]) ∧
 x1 n7 n8 n9 n10 n11 n12 n13 n14 n15 n16 n19 n20 n21 n22 n23 n24 n25 n26 n27 n28 n57 n58 n59 n60 n61 n62 n63 n64 n65 n66 w69 (L70)) ∧
 ((∀ w71 : World, ∀ L72 : List Nat, (X.Hid (L4) w18 w71) →
 (X.NewL (w).heap.size (L4) w18 w71 L72) →
 X.CallX Try.prog 9 #[(.agg #[(.int .u8 c_0), (.int .u16 c_1), (.int .u32 c_2), (.int .u8 c_3), (.int .u8 c_4), (.int .u8 c_5), (.int .u8 c_6), (.int .u8 c_7), (.int .u8 c_8), (.int .u8 c_9)])] w71 fun e73 w74 =>
 ∃ n75 : Int, ∃ n76 : Int, ∃ n77 : Int, ∃ n78 : Int, ∃ n79 : Int, ∃ n80 : Int, ∃ n81 : Int, ∃ n82 : Int, ∃ n83 : Int, ∃ n84 : Int, (e73 = .returned (.agg #[(.int .u8 n75), (.int .u16 n76), (.int .u32 n77), (.int .u8 n78), (.int .u8 n79), (.int .u8 n80), (.int .u8 n81), (.int .u8 n82), (.int .u8 n83), (.int .u8 n84)])) ∧
 (X.Kept L72 w71 w74) ∧
 (X.FactsW x2 w74 (L72)) ∧
 ∀ w85 : World, ∀ L86 : List Nat, (X.Hid (L72) w74 w85) →
 (X.NewL (w).heap.size (L72) w74 w85 L86) →
 (([(.int .u8 a_0), (.int .u16 a_1), (.int .u32 a_2), (.int .u8 a_3), (.int .u8 a_4), (.int .u8 a_5), (.int .u8 a_6), (.int .u8 a_7), (.int .u8 a_8), (.int .u8 a_9)] : List Value) = [(.int .u8 a_0), (.int .u16 a_1), (.int .u32 a_2), (.int .u8 a_3), (.int .u8 a_4), (.int .u8 a_5), (.int .u8 a_6), (.int .u8 a_7), (.int .u8 a_8), (.int .u8 a_9)]) ∧
 (([(.int .u8 b_0), (.int .u16 b_1), (.int .u32 b_2), (.int .u8 b_3), (.int .u8 b_4), (.int .u8 b_5), (.int .u8 b_6), (.int .u8 b_7), (.int .u8 b_8), (.int .u8 b_9)] : List Value) = [(.int .u8 b_0), (.int .u16 b_1), (.int .u32 b_2), (.int .u8 b_3), (.int .u8 b_4), (.int .u8 b_5), (.int .u8 b_6), (.int .u8 b_7), (.int .u8 b_8), (.int .u8 b_9)]) ∧
 (([(.int .u8 c_0), (.int .u16 c_1), (.int .u32 c_2), (.int .u8 c_3), (.int .u8 c_4), (.int .u8 c_5), (.int .u8 c_6), (.int .u8 c_7), (.int .u8 c_8), (.int .u8 c_9)] : List Value) = [(.int .u8 c_0), (.int .u16 c_1), (.int .u32 c_2), (.int .u8 c_3), (.int .u8 c_4), (.int .u8 c_5), (.int .u8 c_6), (.int .u8 c_7), (.int .u8 c_8), (.int .u8 c_9)]) ∧
 x1 n7 n8 n9 n10 n11 n12 n13 n14 n15 n16 n19 n20 n21 n22 n23 n24 n25 n26 n27 n28 n75 n76 n77 n78 n79 n80 n81 n82 n83 n84 w85 (L86)) ∧
 ∀ w87 : World, ∀ L88 : List Nat, (X.Hid (L4) w18 w87) →
 (X.NewL (w).heap.size (L4) w18 w87 L88) →
 X.CallX Try.prog 9 #[(.agg #[(.int .u8 c_0), (.int .u16 c_1), (.int .u32 c_2), (.int .u8 c_3), (.int .u8 c_4), (.int .u8 c_5), (.int .u8 c_6), (.int .u8 c_7), (.int .u8 c_8), (.int .u8 c_9)])] w87 fun e89 w90 =>
 ∃ n91 : Int, ∃ n92 : Int, ∃ n93 : Int, ∃ n94 : Int, ∃ n95 : Int, ∃ n96 : Int, ∃ n97 : Int, ∃ n98 : Int, ∃ n99 : Int, ∃ n100 : Int, (e89 = .returned (.agg #[(.int .u8 n91), (.int .u16 n92), (.int .u32 n93), (.int .u8 n94), (.int .u8 n95), (.int .u8 n96), (.int .u8 n97), (.int .u8 n98), (.int .u8 n99), (.int .u8 n100)])) ∧
 (X.Kept L88 w87 w90) ∧
 (X.FactsW x2 w90 (L88)) ∧
 ∀ w101 : World, ∀ L102 : List Nat, (X.Hid (L88) w90 w101) →
 (X.NewL (w).heap.size (L88) w90 w101 L102) →
 (([(.int .u8 a_0), (.int .u16 a_1), (.int .u32 a_2), (.int .u8 a_3), (.int .u8 a_4), (.int .u8 a_5), (.int .u8 a_6), (.int .u8 a_7), (.int .u8 a_8), (.int .u8 a_9)] : List Value) = [(.int .u8 a_0), (.int .u16 a_1), (.int .u32 a_2), (.int .u8 a_3), (.int .u8 a_4), (.int .u8 a_5), (.int .u8 a_6), (.int .u8 a_7), (.int .u8 a_8), (.int .u8 a_9)]) ∧
 (([(.int .u8 b_0), (.int .u16 b_1), (.int .u32 b_2), (.int .u8 b_3), (.int .u8 b_4), (.int .u8 b_5), (.int .u8 b_6), (.int .u8 b_7), (.int .u8 b_8), (.int .u8 b_9)] : List Value) = [(.int .u8 b_0), (.int .u16 b_1), (.int .u32 b_2), (.int .u8 b_3), (.int .u8 b_4), (.int .u8 b_5), (.int .u8 b_6), (.int .u8 b_7), (.int .u8 b_8), (.int .u8 b_9)]) ∧
 (([(.int .u8 c_0), (.int .u16 c_1), (.int .u32 c_2), (.int .u8 c_3), (.int .u8 c_4), (.int .u8 c_5), (.int .u8 c_6), (.int .u8 c_7), (.int .u8 c_8), (.int .u8 c_9)] : List Value) = [(.int .u8 c_0), (.int .u16 c_1), (.int .u32 c_2), (.int .u8 c_3), (.int .u8 c_4), (.int .u8 c_5), (.int .u8 c_6), (.int .u8 c_7), (.int .u8 c_8), (.int .u8 c_9)]) ∧
 x1 n7 n8 n9 n10 n11 n12 n13 n14 n15 n16 n19 n20 n21 n22 n23 n24 n25 n26 n27 n28 n91 n92 n93 n94 n95 n96 n97 n98 n99 n100 w101 (L102)) ∧
 (∀ w103 : World, ∀ L104 : List Nat, (X.Hid (L4) w18 w103) →
 (X.NewL (w).heap.size (L4) w18 w103 L104) →
 X.CallX Try.prog 9 #[(.agg #[(.int .u8 c_0), (.int .u16 c_1), (.int .u32 c_2), (.int .u8 c_3), (.int .u8 c_4), (.int .u8 c_5), (.int .u8 c_6), (.int .u8 c_7), (.int .u8 c_8), (.int .u8 c_9)])] w103 fun e105 w106 =>
 ∃ n107 : Int, ∃ n108 : Int, ∃ n109 : Int, ∃ n110 : Int, ∃ n111 : Int, ∃ n112 : Int, ∃ n113 : Int, ∃ n114 : Int, ∃ n115 : Int, ∃ n116 : Int, (e105 = .returned (.agg #[(.int .u8 n107), (.int .u16 n108), (.int .u32 n109), (.int .u8 n110), (.int .u8 n111), (.int .u8 n112), (.int .u8 n113), (.int .u8 n114), (.int .u8 n115), (.int .u8 n116)])) ∧
 (X.Kept L104 w103 w106) ∧
 (X.FactsW x2 w106 (L104)) ∧
 ∀ w117 : World, ∀ L118 : List Nat, (X.Hid (L104) w106 w117) →
 (X.NewL (w).heap.size (L104) w106 w117 L118) →
 (([(.int .u8 a_0), (.int .u16 a_1), (.int .u32 a_2), (.int .u8 a_3), (.int .u8 a_4), (.int .u8 a_5), (.int .u8 a_6), (.int .u8 a_7), (.int .u8 a_8), (.int .u8 a_9)] : List Value) = [(.int .u8 a_0), (.int .u16 a_1), (.int .u32 a_2), (.int .u8 a_3), (.int .u8 a_4), (.int .u8 a_5), (.int .u8 a_6), (.int .u8 a_7), (.int .u8 a_8), (.int .u8 a_9)]) ∧
 (([(.int .u8 b_0), (.int .u16 b_1), (.int .u32 b_2), (.int .u8 b_3), (.int .u8 b_4), (.int .u8 b_5), (.int .u8 b_6), (.int .u8 b_7), (.int .u8 b_8), (.int .u8 b_9)] : List Value) = [(.int .u8 b_0), (.int .u16 b_1), (.int .u32 b_2), (.int .u8 b_3), (.int .u8 b_4), (.int .u8 b_5), (.int .u8 b_6), (.int .u8 b_7), (.int .u8 b_8), (.int .u8 b_9)]) ∧
 (([(.int .u8 c_0), (.int .u16 c_1), (.int .u32 c_2), (.int .u8 c_3), (.int .u8 c_4), (.int .u8 c_5), (.int .u8 c_6), (.int .u8 c_7), (.int .u8 c_8), (.int .u8 c_9)] : List Value) = [(.int .u8 c_0), (.int .u16 c_1), (.int .u32 c_2), (.int .u8 c_3), (.int .u8 c_4), (.int .u8 c_5), (.int .u8 c_6), (.int .u8 c_7), (.int .u8 c_8), (.int .u8 c_9)]) ∧
 x1 n7 n8 n9 n10 n11 n12 n13 n14 n15 n16 n19 n20 n21 n22 n23 n24 n25 n26 n27 n28 n107 n108 n109 n110 n111 n112 n113 n114 n115 n116 w117 (L118)) ∧
 ∀ w119 : World, ∀ L120 : List Nat, (X.Hid (L4) w18 w119) →
 (X.NewL (w).heap.size (L4) w18 w119 L120) →
 X.CallX Try.prog 9 #[(.agg #[(.int .u8 c_0), (.int .u16 c_1), (.int .u32 c_2), (.int .u8 c_3), (.int .u8 c_4), (.int .u8 c_5), (.int .u8 c_6), (.int .u8 c_7), (.int .u8 c_8), (.int .u8 c_9)])] w119 fun e121 w122 =>
 ∃ n123 : Int, ∃ n124 : Int, ∃ n125 : Int, ∃ n126 : Int, ∃ n127 : Int, ∃ n128 : Int, ∃ n129 : Int, ∃ n130 : Int, ∃ n131 : Int, ∃ n132 : Int, (e121 = .returned (.agg #[(.int .u8 n123), (.int .u16 n124), (.int .u32 n125), (.int .u8 n126), (.int .u8 n127), (.int .u8 n128), (.int .u8 n129), (.int .u8 n130), (.int .u8 n131), (.int .u8 n132)])) ∧
 (X.Kept L120 w119 w122) ∧
 (X.FactsW x2 w122 (L120)) ∧
 ∀ w133 : World, ∀ L134 : List Nat, (X.Hid (L120) w122 w133) →
 (X.NewL (w).heap.size (L120) w122 w133 L134) →
 (([(.int .u8 a_0), (.int .u16 a_1), (.int .u32 a_2), (.int .u8 a_3), (.int .u8 a_4), (.int .u8 a_5), (.int .u8 a_6), (.int .u8 a_7), (.int .u8 a_8), (.int .u8 a_9)] : List Value) = [(.int .u8 a_0), (.int .u16 a_1), (.int .u32 a_2), (.int .u8 a_3), (.int .u8 a_4), (.int .u8 a_5), (.int .u8 a_6), (.int .u8 a_7), (.int .u8 a_8), (.int .u8 a_9)]) ∧
 (([(.int .u8 b_0), (.int .u16 b_1), (.int .u32 b_2), (.int .u8 b_3), (.int .u8 b_4), (.int .u8 b_5), (.int .u8 b_6), (.int .u8 b_7), (.int .u8 b_8), (.int .u8 b_9)] : List Value) = [(.int .u8 b_0), (.int .u16 b_1), (.int .u32 b_2), (.int .u8 b_3), (.int .u8 b_4), (.int .u8 b_5), (.int .u8 b_6), (.int .u8 b_7), (.int .u8 b_8), (.int .u8 b_9)]) ∧
 (([(.int .u8 c_0), (.int .u16 c_1), (.int .u32 c_2), (.int .u8 c_3), (.int .u8 c_4), (.int .u8 c_5), (.int .u8 c_6), (.int .u8 c_7), (.int .u8 c_8), (.int .u8 c_9)] : List Value) = [(.int .u8 c_0), (.int .u16 c_1), (.int .u32 c_2), (.int .u8 c_3), (.int .u8 c_4), (.int .u8 c_5), (.int .u8 c_6), (.int .u8 c_7), (.int .u8 c_8), (.int .u8 c_9)]) ∧
 x1 n7 n8 n9 n10 n11 n12 n13 n14 n15 n16 n19 n20 n21 n22 n23 n24 n25 n26 n27 n28 n123 n124 n125 n126 n127 n128 n129 n130 n131 n132 w133 (L134)) ∧
 ((∀ w135 : World, ∀ L136 : List Nat, (X.Hid (L4) w18 w135) →
 (X.NewL (w).heap.size (L4) w18 w135 L136) →
 X.CallX Try.prog 9 #[(.agg #[(.int .u8 c_0), (.int .u16 c_1), (.int .u32 c_2), (.int .u8 c_3), (.int .u8 c_4), (.int .u8 c_5), (.int .u8 c_6), (.int .u8 c_7), (.int .u8 c_8), (.int .u8 c_9)])] w135 fun e137 w138 =>
 ∃ n139 : Int, ∃ n140 : Int, ∃ n141 : Int, ∃ n142 : Int, ∃ n143 : Int, ∃ n144 : Int, ∃ n145 : Int, ∃ n146 : Int, ∃ n147 : Int, ∃ n148 : Int, (e137 = .returned (.agg #[(.int .u8 n139), (.int .u16 n140), (.int .u32 n141), (.int .u8 n142), (.int .u8 n143), (.int .u8 n144), (.int .u8 n145), (.int .u8 n146), (.int .u8 n147), (.int .u8 n148)])) ∧
 (X.Kept L136 w135 w138) ∧
 (X.FactsW x2 w138 (L136)) ∧
 (∀ w149 : World, ∀ L150 : List Nat, (X.Hid (L136) w138 w149) →
 (X.NewL (w).heap.size (L136) w138 w149 L150) →
 (([(.int .u8 a_0), (.int .u16 a_1), (.int .u32 a_2), (.int .u8 a_3), (.int .u8 a_4), (.int .u8 a_5), (.int .u8 a_6), (.int .u8 a_7), (.int .u8 a_8), (.int .u8 a_9)] : List Value) = [(.int .u8 a_0), (.int .u16 a_1), (.int .u32 a_2), (.int .u8 a_3), (.int .u8 a_4), (.int .u8 a_5), (.int .u8 a_6), (.int .u8 a_7), (.int .u8 a_8), (.int .u8 a_9)]) ∧
 (([(.int .u8 b_0), (.int .u16 b_1), (.int .u32 b_2), (.int .u8 b_3), (.int .u8 b_4), (.int .u8 b_5), (.int .u8 b_6), (.int .u8 b_7), (.int .u8 b_8), (.int .u8 b_9)] : List Value) = [(.int .u8 b_0), (.int .u16 b_1), (.int .u32 b_2), (.int .u8 b_3), (.int .u8 b_4), (.int .u8 b_5), (.int .u8 b_6), (.int .u8 b_7), (.int .u8 b_8), (.int .u8 b_9)]) ∧
 (([(.int .u8 c_0), (.int .u16 c_1), (.int .u32 c_2), (.int .u8 c_3), (.int .u8 c_4), (.int .u8 c_5), (.int .u8 c_6), (.int .u8 c_7), (.int .u8 c_8), (.int .u8 c_9)] : List Value) = [(.int .u8 c_0), (.int .u16 c_1), (.int .u32 c_2), (.int .u8 c_3), (.int .u8 c_4), (.int .u8 c_5), (.int .u8 c_6), (.int .u8 c_7), (.int .u8 c_8), (.int .u8 c_9)]) ∧
 x1 n7 n8 n9 n10 n11 n12 n13 n14 n15 n16 n19 n20 n21 n22 n23 n24 n25 n26 n27 n28 n139 n140 n141 n142 n143 n144 n145 n146 n147 n148 w149 (L150)) ∧
 ∀ w151 : World, ∀ L152 : List Nat, (X.Hid (L136) w138 w151) →
 (X.NewL (w).heap.size (L136) w138 w151 L152) →
 (([(.int .u8 a_0), (.int .u16 a_1), (.int .u32 a_2), (.int .u8 a_3), (.int .u8 a_4), (.int .u8 a_5), (.int .u8 a_6), (.int .u8 a_7), (.int .u8 a_8), (.int .u8 a_9)] : List Value) = [(.int .u8 a_0), (.int .u16 a_1), (.int .u32 a_2), (.int .u8 a_3), (.int .u8 a_4), (.int .u8 a_5), (.int .u8 a_6), (.int .u8 a_7), (.int .u8 a_8), (.int .u8 a_9)]) ∧
 (([(.int .u8 b_0), (.int .u16 b_1), (.int .u32 b_2), (.int .u8 b_3), (.int .u8 b_4), (.int .u8 b_5), (.int .u8 b_6), (.int .u8 b_7), (.int .u8 b_8), (.int .u8 b_9)] : List Value) = [(.int .u8 b_0), (.int .u16 b_1), (.int .u32 b_2), (.int .u8 b_3), (.int .u8 b_4), (.int .u8 b_5), (.int .u8 b_6), (.int .u8 b_7), (.int .u8 b_8), (.int .u8 b_9)]) ∧
 (([(.int .u8 c_0), (.int .u16 c_1), (.int .u32 c_2), (.int .u8 c_3), (.int .u8 c_4), (.int .u8 c_5), (.int .u8 c_6), (.int .u8 c_7), (.int .u8 c_8), (.int .u8 c_9)] : List Value) = [(.int .u8 c_0), (.int .u16 c_1), (.int .u32 c_2), (.int .u8 c_3), (.int .u8 c_4), (.int .u8 c_5), (.int .u8 c_6), (.int .u8 c_7), (.int .u8 c_8), (.int .u8 c_9)]) ∧
 x1 n7 n8 n9 n10 n11 n12 n13 n14 n15 n16 n19 n20 n21 n22 n23 n24 n25 n26 n27 n28 n139 n140 n141 n142 n143 n144 n145 n146 n147 n148 w151 (L152)) ∧
 ((∀ w153 : World, ∀ L154 : List Nat, (X.Hid (L4) w18 w153) →
 (X.NewL (w).heap.size (L4) w18 w153 L154) →
 X.CallX Try.prog 9 #[(.agg #[(.int .u8 c_0), (.int .u16 c_1), (.int .u32 c_2), (.int .u8 c_3), (.int .u8 c_4), (.int .u8 c_5), (.int .u8 c_6), (.int .u8 c_7), (.int .u8 c_8), (.int .u8 c_9)])] w153 fun e155 w156 =>
 ∃ n157 : Int, ∃ n158 : Int, ∃ n159 : Int, ∃ n160 : Int, ∃ n161 : Int, ∃ n162 : Int, ∃ n163 : Int, ∃ n164 : Int, ∃ n165 : Int, ∃ n166 : Int, (e155 = .returned (.agg #[(.int .u8 n157), (.int .u16 n158), (.int .u32 n159), (.int .u8 n160), (.int .u8 n161), (.int .u8 n162), (.int .u8 n163), (.int .u8 n164), (.int .u8 n165), (.int .u8 n166)])) ∧
 (X.Kept L154 w153 w156) ∧
 (X.FactsW x2 w156 (L154)) ∧
 ∀ w167 : World, ∀ L168 : List Nat, (X.Hid (L154) w156 w167) →
 (X.NewL (w).heap.size (L154) w156 w167 L168) →
 (([(.int .u8 a_0), (.int .u16 a_1), (.int .u32 a_2), (.int .u8 a_3), (.int .u8 a_4), (.int .u8 a_5), (.int .u8 a_6), (.int .u8 a_7), (.int .u8 a_8), (.int .u8 a_9)] : List Value) = [(.int .u8 a_0), (.int .u16 a_1), (.int .u32 a_2), (.int .u8 a_3), (.int .u8 a_4), (.int .u8 a_5), (.int .u8 a_6), (.int .u8 a_7), (.int .u8 a_8), (.int .u8 a_9)]) ∧
 (([(.int .u8 b_0), (.int .u16 b_1), (.int .u32 b_2), (.int .u8 b_3), (.int .u8 b_4), (.int .u8 b_5), (.int .u8 b_6), (.int .u8 b_7), (.int .u8 b_8), (.int .u8 b_9)] : List Value) = [(.int .u8 b_0), (.int .u16 b_1), (.int .u32 b_2), (.int .u8 b_3), (.int .u8 b_4), (.int .u8 b_5), (.int .u8 b_6), (.int .u8 b_7), (.int .u8 b_8), (.int .u8 b_9)]) ∧
 (([(.int .u8 c_0), (.int .u16 c_1), (.int .u32 c_2), (.int .u8 c_3), (.int .u8 c_4), (.int .u8 c_5), (.int .u8 c_6), (.int .u8 c_7), (.int .u8 c_8), (.int .u8 c_9)] : List Value) = [(.int .u8 c_0), (.int .u16 c_1), (.int .u32 c_2), (.int .u8 c_3), (.int .u8 c_4), (.int .u8 c_5), (.int .u8 c_6), (.int .u8 c_7), (.int .u8 c_8), (.int .u8 c_9)]) ∧
 x1 n7 n8 n9 n10 n11 n12 n13 n14 n15 n16 n19 n20 n21 n22 n23 n24 n25 n26 n27 n28 n157 n158 n159 n160 n161 n162 n163 n164 n165 n166 w167 (L168)) ∧
 ∀ w169 : World, ∀ L170 : List Nat, (X.Hid (L4) w18 w169) →
 (X.NewL (w).heap.size (L4) w18 w169 L170) →
 X.CallX Try.prog 9 #[(.agg #[(.int .u8 c_0), (.int .u16 c_1), (.int .u32 c_2), (.int .u8 c_3), (.int .u8 c_4), (.int .u8 c_5), (.int .u8 c_6), (.int .u8 c_7), (.int .u8 c_8), (.int .u8 c_9)])] w169 fun e171 w172 =>
 ∃ n173 : Int, ∃ n174 : Int, ∃ n175 : Int, ∃ n176 : Int, ∃ n177 : Int, ∃ n178 : Int, ∃ n179 : Int, ∃ n180 : Int, ∃ n181 : Int, ∃ n182 : Int, (e171 = .returned (.agg #[(.int .u8 n173), (.int .u16 n174), (.int .u32 n175), (.int .u8 n176), (.int .u8 n177), (.int .u8 n178), (.int .u8 n179), (.int .u8 n180), (.int .u8 n181), (.int .u8 n182)])) ∧
 (X.Kept L170 w169 w172) ∧
 (X.FactsW x2 w172 (L170)) ∧
 ∀ w183 : World, ∀ L184 : List Nat, (X.Hid (L170) w172 w183) →
 (X.NewL (w).heap.size (L170) w172 w183 L184) →
 (([(.int .u8 a_0), (.int .u16 a_1), (.int .u32 a_2), (.int .u8 a_3), (.int .u8 a_4), (.int .u8 a_5), (.int .u8 a_6), (.int .u8 a_7), (.int .u8 a_8), (.int .u8 a_9)] : List Value) = [(.int .u8 a_0), (.int .u16 a_1), (.int .u32 a_2), (.int .u8 a_3), (.int .u8 a_4), (.int .u8 a_5), (.int .u8 a_6), (.int .u8 a_7), (.int .u8 a_8), (.int .u8 a_9)]) ∧
 (([(.int .u8 b_0), (.int .u16 b_1), (.int .u32 b_2), (.int .u8 b_3), (.int .u8 b_4), (.int .u8 b_5), (.int .u8 b_6), (.int .u8 b_7), (.int .u8 b_8), (.int .u8 b_9)] : List Value) = [(.int .u8 b_0), (.int .u16 b_1), (.int .u32 b_2), (.int .u8 b_3), (.int .u8 b_4), (.int .u8 b_5), (.int .u8 b_6), (.int .u8 b_7), (.int .u8 b_8), (.int .u8 b_9)]) ∧
 (([(.int .u8 c_0), (.int .u16 c_1), (.int .u32 c_2), (.int .u8 c_3), (.int .u8 c_4), (.int .u8 c_5), (.int .u8 c_6), (.int .u8 c_7), (.int .u8 c_8), (.int .u8 c_9)] : List Value) = [(.int .u8 c_0), (.int .u16 c_1), (.int .u32 c_2), (.int .u8 c_3), (.int .u8 c_4), (.int .u8 c_5), (.int .u8 c_6), (.int .u8 c_7), (.int .u8 c_8), (.int .u8 c_9)]) ∧
 x1 n7 n8 n9 n10 n11 n12 n13 n14 n15 n16 n19 n20 n21 n22 n23 n24 n25 n26 n27 n28 n173 n174 n175 n176 n177 n178 n179 n180 n181 n182 w183 (L184)) ∧
 (∀ w185 : World, ∀ L186 : List Nat, (X.Hid (L4) w18 w185) →
 (X.NewL (w).heap.size (L4) w18 w185 L186) →
 X.CallX Try.prog 9 #[(.agg #[(.int .u8 c_0), (.int .u16 c_1), (.int .u32 c_2), (.int .u8 c_3), (.int .u8 c_4), (.int .u8 c_5), (.int .u8 c_6), (.int .u8 c_7), (.int .u8 c_8), (.int .u8 c_9)])] w185 fun e187 w188 =>
 ∃ n189 : Int, ∃ n190 : Int, ∃ n191 : Int, ∃ n192 : Int, ∃ n193 : Int, ∃ n194 : Int, ∃ n195 : Int, ∃ n196 : Int, ∃ n197 : Int, ∃ n198 : Int, (e187 = .returned (.agg #[(.int .u8 n189), (.int .u16 n190), (.int .u32 n191), (.int .u8 n192), (.int .u8 n193), (.int .u8 n194), (.int .u8 n195), (.int .u8 n196), (.int .u8 n197), (.int .u8 n198)])) ∧
 (X.Kept L186 w185 w188) ∧
 (X.FactsW x2 w188 (L186)) ∧
 ∀ w199 : World, ∀ L200 : List Nat, (X.Hid (L186) w188 w199) →
 (X.NewL (w).heap.size (L186) w188 w199 L200) →
 (([(.int .u8 a_0), (.int .u16 a_1), (.int .u32 a_2), (.int .u8 a_3), (.int .u8 a_4), (.int .u8 a_5), (.int .u8 a_6), (.int .u8 a_7), (.int .u8 a_8), (.int .u8 a_9)] : List Value) = [(.int .u8 a_0), (.int .u16 a_1), (.int .u32 a_2), (.int .u8 a_3), (.int .u8 a_4), (.int .u8 a_5), (.int .u8 a_6), (.int .u8 a_7), (.int .u8 a_8), (.int .u8 a_9)]) ∧
 (([(.int .u8 b_0), (.int .u16 b_1), (.int .u32 b_2), (.int .u8 b_3), (.int .u8 b_4), (.int .u8 b_5), (.int .u8 b_6), (.int .u8 b_7), (.int .u8 b_8), (.int .u8 b_9)] : List Value) = [(.int .u8 b_0), (.int .u16 b_1), (.int .u32 b_2), (.int .u8 b_3), (.int .u8 b_4), (.int .u8 b_5), (.int .u8 b_6), (.int .u8 b_7), (.int .u8 b_8), (.int .u8 b_9)]) ∧
 (([(.int .u8 c_0), (.int .u16 c_1), (.int .u32 c_2), (.int .u8 c_3), (.int .u8 c_4), (.int .u8 c_5), (.int .u8 c_6), (.int .u8 c_7), (.int .u8 c_8), (.int .u8 c_9)] : List Value) = [(.int .u8 c_0), (.int .u16 c_1), (.int .u32 c_2), (.int .u8 c_3), (.int .u8 c_4), (.int .u8 c_5), (.int .u8 c_6), (.int .u8 c_7), (.int .u8 c_8), (.int .u8 c_9)]) ∧
 x1 n7 n8 n9 n10 n11 n12 n13 n14 n15 n16 n19 n20 n21 n22 n23 n24 n25 n26 n27 n28 n189 n190 n191 n192 n193 n194 n195 n196 n197 n198 w199 (L200)) ∧
 ∀ w201 : World, ∀ L202 : List Nat, (X.Hid (L4) w18 w201) →
 (X.NewL (w).heap.size (L4) w18 w201 L202) →
 X.CallX Try.prog 9 #[(.agg #[(.int .u8 c_0), (.int .u16 c_1), (.int .u32 c_2), (.int .u8 c_3), (.int .u8 c_4), (.int .u8 c_5), (.int .u8 c_6), (.int .u8 c_7), (.int .u8 c_8), (.int .u8 c_9)])] w201 fun e203 w204 =>
 ∃ n205 : Int, ∃ n206 : Int, ∃ n207 : Int, ∃ n208 : Int, ∃ n209 : Int, ∃ n210 : Int, ∃ n211 : Int, ∃ n212 : Int, ∃ n213 : Int, ∃ n214 : Int, (e203 = .returned (.agg #[(.int .u8 n205), (.int .u16 n206), (.int .u32 n207), (.int .u8 n208), (.int .u8 n209), (.int .u8 n210), (.int .u8 n211), (.int .u8 n212), (.int .u8 n213), (.int .u8 n214)])) ∧
 (X.Kept L202 w201 w204) ∧
 (X.FactsW x2 w204 (L202)) ∧
 ∀ w215 : World, ∀ L216 : List Nat, (X.Hid (L202) w204 w215) →
 (X.NewL (w).heap.size (L202) w204 w215 L216) →
 (([(.int .u8 a_0), (.int .u16 a_1), (.int .u32 a_2), (.int .u8 a_3), (.int .u8 a_4), (.int .u8 a_5), (.int .u8 a_6), (.int .u8 a_7), (.int .u8 a_8), (.int .u8 a_9)] : List Value) = [(.int .u8 a_0), (.int .u16 a_1), (.int .u32 a_2), (.int .u8 a_3), (.int .u8 a_4), (.int .u8 a_5), (.int .u8 a_6), (.int .u8 a_7), (.int .u8 a_8), (.int .u8 a_9)]) ∧
 (([(.int .u8 b_0), (.int .u16 b_1), (.int .u32 b_2), (.int .u8 b_3), (.int .u8 b_4), (.int .u8 b_5), (.int .u8 b_6), (.int .u8 b_7), (.int .u8 b_8), (.int .u8 b_9)] : List Value) = [(.int .u8 b_0), (.int .u16 b_1), (.int .u32 b_2), (.int .u8 b_3), (.int .u8 b_4), (.int .u8 b_5), (.int .u8 b_6), (.int .u8 b_7), (.int .u8 b_8), (.int .u8 b_9)]) ∧
 (([(.int .u8 c_0), (.int .u16 c_1), (.int .u32 c_2), (.int .u8 c_3), (.int .u8 c_4), (.int .u8 c_5), (.int .u8 c_6), (.int .u8 c_7), (.int .u8 c_8), (.int .u8 c_9)] : List Value) = [(.int .u8 c_0), (.int .u16 c_1), (.int .u32 c_2), (.int .u8 c_3), (.int .u8 c_4), (.int .u8 c_5), (.int .u8 c_6), (.int .u8 c_7), (.int .u8 c_8), (.int .u8 c_9)]) ∧
 x1 n7 n8 n9 n10 n11 n12 n13 n14 n15 n16 n19 n20 n21 n22 n23 n24 n25 n26 n27 n28 n205 n206 n207 n208 n209 n210 n211 n212 n213 n214 w215 (L216)) ∧
 (∀ w217 : World, ∀ L218 : List Nat, (X.Hid (L4) w18 w217) →
 (X.NewL (w).heap.size (L4) w18 w217 L218) →
 X.CallX Try.prog 9 #[(.agg #[(.int .u8 c_0), (.int .u16 c_1), (.int .u32 c_2), (.int .u8 c_3), (.int .u8 c_4), (.int .u8 c_5), (.int .u8 c_6), (.int .u8 c_7), (.int .u8 c_8), (.int .u8 c_9)])] w217 fun e219 w220 =>
 ∃ n221 : Int, ∃ n222 : Int, ∃ n223 : Int, ∃ n224 : Int, ∃ n225 : Int, ∃ n226 : Int, ∃ n227 : Int, ∃ n228 : Int, ∃ n229 : Int, ∃ n230 : Int, (e219 = .returned (.agg #[(.int .u8 n221), (.int .u16 n222), (.int .u32 n223), (.int .u8 n224), (.int .u8 n225), (.int .u8 n226), (.int .u8 n227), (.int .u8 n228), (.int .u8 n229), (.int .u8 n230)])) ∧
 (X.Kept L218 w217 w220) ∧
 (X.FactsW x2 w220 (L218)) ∧
 (∀ w231 : World, ∀ L232 : List Nat, (X.Hid (L218) w220 w231) →
 (X.NewL (w).heap.size (L218) w220 w231 L232) →
 (([(.int .u8 a_0), (.int .u16 a_1), (.int .u32 a_2), (.int .u8 a_3), (.int .u8 a_4), (.int .u8 a_5), (.int .u8 a_6), (.int .u8 a_7), (.int .u8 a_8), (.int .u8 a_9)] : List Value) = [(.int .u8 a_0), (.int .u16 a_1), (.int .u32 a_2), (.int .u8 a_3), (.int .u8 a_4), (.int .u8 a_5), (.int .u8 a_6), (.int .u8 a_7), (.int .u8 a_8), (.int .u8 a_9)]) ∧
 (([(.int .u8 b_0), (.int .u16 b_1), (.int .u32 b_2), (.int .u8 b_3), (.int .u8 b_4), (.int .u8 b_5), (.int .u8 b_6), (.int .u8 b_7), (.int .u8 b_8), (.int .u8 b_9)] : List Value) = [(.int .u8 b_0), (.int .u16 b_1), (.int .u32 b_2), (.int .u8 b_3), (.int .u8 b_4), (.int .u8 b_5), (.int .u8 b_6), (.int .u8 b_7), (.int .u8 b_8), (.int .u8 b_9)]) ∧
 (([(.int .u8 c_0), (.int .u16 c_1), (.int .u32 c_2), (.int .u8 c_3), (.int .u8 c_4), (.int .u8 c_5), (.int .u8 c_6), (.int .u8 c_7), (.int .u8 c_8), (.int .u8 c_9)] : List Value) = [(.int .u8 c_0), (.int .u16 c_1), (.int .u32 c_2), (.int .u8 c_3), (.int .u8 c_4), (.int .u8 c_5), (.int .u8 c_6), (.int .u8 c_7), (.int .u8 c_8), (.int .u8 c_9)]) ∧
 x1 n7 n8 n9 n10 n11 n12 n13 n14 n15 n16 n19 n20 n21 n22 n23 n24 n25 n26 n27 n28 n221 n222 n223 n224 n225 n226 n227 n228 n229 n230 w231 (L232)) ∧
 ∀ w233 : World, ∀ L234 : List Nat, (X.Hid (L218) w220 w233) →
 (X.NewL (w).heap.size (L218) w220 w233 L234) →
 (([(.int .u8 a_0), (.int .u16 a_1), (.int .u32 a_2), (.int .u8 a_3), (.int .u8 a_4), (.int .u8 a_5), (.int .u8 a_6), (.int .u8 a_7), (.int .u8 a_8), (.int .u8 a_9)] : List Value) = [(.int .u8 a_0), (.int .u16 a_1), (.int .u32 a_2), (.int .u8 a_3), (.int .u8 a_4), (.int .u8 a_5), (.int .u8 a_6), (.int .u8 a_7), (.int .u8 a_8), (.int .u8 a_9)]) ∧
 (([(.int .u8 b_0), (.int .u16 b_1), (.int .u32 b_2), (.int .u8 b_3), (.int .u8 b_4), (.int .u8 b_5), (.int .u8 b_6), (.int .u8 b_7), (.int .u8 b_8), (.int .u8 b_9)] : List Value) = [(.int .u8 b_0), (.int .u16 b_1), (.int .u32 b_2), (.int .u8 b_3), (.int .u8 b_4), (.int .u8 b_5), (.int .u8 b_6), (.int .u8 b_7), (.int .u8 b_8), (.int .u8 b_9)]) ∧
 (([(.int .u8 c_0), (.int .u16 c_1), (.int .u32 c_2), (.int .u8 c_3), (.int .u8 c_4), (.int .u8 c_5), (.int .u8 c_6), (.int .u8 c_7), (.int .u8 c_8), (.int .u8 c_9)] : List Value) = [(.int .u8 c_0), (.int .u16 c_1), (.int .u32 c_2), (.int .u8 c_3), (.int .u8 c_4), (.int .u8 c_5), (.int .u8 c_6), (.int .u8 c_7), (.int .u8 c_8), (.int .u8 c_9)]) ∧
 x1 n7 n8 n9 n10 n11 n12 n13 n14 n15 n16 n19 n20 n21 n22 n23 n24 n25 n26 n27 n28 n221 n222 n223 n224 n225 n226 n227 n228 n229 n230 w233 (L234)) ∧
 ((∀ w235 : World, ∀ L236 : List Nat, (X.Hid (L4) w18 w235) →
 (X.NewL (w).heap.size (L4) w18 w235 L236) →
 X.CallX Try.prog 9 #[(.agg #[(.int .u8 c_0), (.int .u16 c_1), (.int .u32 c_2), (.int .u8 c_3), (.int .u8 c_4), (.int .u8 c_5), (.int .u8 c_6), (.int .u8 c_7), (.int .u8 c_8), (.int .u8 c_9)])] w235 fun e237 w238 =>
 ∃ n239 : Int, ∃ n240 : Int, ∃ n241 : Int, ∃ n242 : Int, ∃ n243 : Int, ∃ n244 : Int, ∃ n245 : Int, ∃ n246 : Int, ∃ n247 : Int, ∃ n248 : Int, (e237 = .returned (.agg #[(.int .u8 n239), (.int .u16 n240), (.int .u32 n241), (.int .u8 n242), (.int .u8 n243), (.int .u8 n244), (.int .u8 n245), (.int .u8 n246), (.int .u8 n247), (.int .u8 n248)])) ∧
 (X.Kept L236 w235 w238) ∧
 (X.FactsW x2 w238 (L236)) ∧
 ∀ w249 : World, ∀ L250 : List Nat, (X.Hid (L236) w238 w249) →
 (X.NewL (w).heap.size (L236) w238 w249 L250) →
 (([(.int .u8 a_0), (.int .u16 a_1), (.int .u32 a_2), (.int .u8 a_3), (.int .u8 a_4), (.int .u8 a_5), (.int .u8 a_6), (.int .u8 a_7), (.int .u8 a_8), (.int .u8 a_9)] : List Value) = [(.int .u8 a_0), (.int .u16 a_1), (.int .u32 a_2), (.int .u8 a_3), (.int .u8 a_4), (.int .u8 a_5), (.int .u8 a_6), (.int .u8 a_7), (.int .u8 a_8), (.int .u8 a_9)]) ∧
 (([(.int .u8 b_0), (.int .u16 b_1), (.int .u32 b_2), (.int .u8 b_3), (.int .u8 b_4), (.int .u8 b_5), (.int .u8 b_6), (.int .u8 b_7), (.int .u8 b_8), (.int .u8 b_9)] : List Value) = [(.int .u8 b_0), (.int .u16 b_1), (.int .u32 b_2), (.int .u8 b_3), (.int .u8 b_4), (.int .u8 b_5), (.int .u8 b_6), (.int .u8 b_7), (.int .u8 b_8), (.int .u8 b_9)]) ∧
 (([(.int .u8 c_0), (.int .u16 c_1), (.int .u32 c_2), (.int .u8 c_3), (.int .u8 c_4), (.int .u8 c_5), (.int .u8 c_6), (.int .u8 c_7), (.int .u8 c_8), (.int .u8 c_9)] : List Value) = [(.int .u8 c_0), (.int .u16 c_1), (.int .u32 c_2), (.int .u8 c_3), (.int .u8 c_4), (.int .u8 c_5), (.int .u8 c_6), (.int .u8 c_7), (.int .u8 c_8), (.int .u8 c_9)]) ∧
 x1 n7 n8 n9 n10 n11 n12 n13 n14 n15 n16 n19 n20 n21 n22 n23 n24 n25 n26 n27 n28 n239 n240 n241 n242 n243 n244 n245 n246 n247 n248 w249 (L250)) ∧
 ∀ w251 : World, ∀ L252 : List Nat, (X.Hid (L4) w18 w251) →
 (X.NewL (w).heap.size (L4) w18 w251 L252) →
 X.CallX Try.prog 9 #[(.agg #[(.int .u8 c_0), (.int .u16 c_1), (.int .u32 c_2), (.int .u8 c_3), (.int .u8 c_4), (.int .u8 c_5), (.int .u8 c_6), (.int .u8 c_7), (.int .u8 c_8), (.int .u8 c_9)])] w251 fun e253 w254 =>
 ∃ n255 : Int, ∃ n256 : Int, ∃ n257 : Int, ∃ n258 : Int, ∃ n259 : Int, ∃ n260 : Int, ∃ n261 : Int, ∃ n262 : Int, ∃ n263 : Int, ∃ n264 : Int, (e253 = .returned (.agg #[(.int .u8 n255), (.int .u16 n256), (.int .u32 n257), (.int .u8 n258), (.int .u8 n259), (.int .u8 n260), (.int .u8 n261), (.int .u8 n262), (.int .u8 n263), (.int .u8 n264)])) ∧
 (X.Kept L252 w251 w254) ∧
 (X.FactsW x2 w254 (L252)) ∧
 ∀ w265 : World, ∀ L266 : List Nat, (X.Hid (L252) w254 w265) →
 (X.NewL (w).heap.size (L252) w254 w265 L266) →
 (([(.int .u8 a_0), (.int .u16 a_1), (.int .u32 a_2), (.int .u8 a_3), (.int .u8 a_4), (.int .u8 a_5), (.int .u8 a_6), (.int .u8 a_7), (.int .u8 a_8), (.int .u8 a_9)] : List Value) = [(.int .u8 a_0), (.int .u16 a_1), (.int .u32 a_2), (.int .u8 a_3), (.int .u8 a_4), (.int .u8 a_5), (.int .u8 a_6), (.int .u8 a_7), (.int .u8 a_8), (.int .u8 a_9)]) ∧
 (([(.int .u8 b_0), (.int .u16 b_1), (.int .u32 b_2), (.int .u8 b_3), (.int .u8 b_4), (.int .u8 b_5), (.int .u8 b_6), (.int .u8 b_7), (.int .u8 b_8), (.int .u8 b_9)] : List Value) = [(.int .u8 b_0), (.int .u16 b_1), (.int .u32 b_2), (.int .u8 b_3), (.int .u8 b_4), (.int .u8 b_5), (.int .u8 b_6), (.int .u8 b_7), (.int .u8 b_8), (.int .u8 b_9)]) ∧
 (([(.int .u8 c_0), (.int .u16 c_1), (.int .u32 c_2), (.int .u8 c_3), (.int .u8 c_4), (.int .u8 c_5), (.int .u8 c_6), (.int .u8 c_7), (.int .u8 c_8), (.int .u8 c_9)] : List Value) = [(.int .u8 c_0), (.int .u16 c_1), (.int .u32 c_2), (.int .u8 c_3), (.int .u8 c_4), (.int .u8 c_5), (.int .u8 c_6), (.int .u8 c_7), (.int .u8 c_8), (.int .u8 c_9)]) ∧
 x1 n7 n8 n9 n10 n11 n12 n13 n14 n15 n16 n19 n20 n21 n22 n23 n24 n25 n26 n27 n28 n255 n256 n257 n258 n259 n260 n261 n262 n263 n264 w265 (L266)) ∧
 (∀ w267 : World, ∀ L268 : List Nat, (X.Hid (L4) w18 w267) →
 (X.NewL (w).heap.size (L4) w18 w267 L268) →
 X.CallX Try.prog 9 #[(.agg #[(.int .u8 c_0), (.int .u16 c_1), (.int .u32 c_2), (.int .u8 c_3), (.int .u8 c_4), (.int .u8 c_5), (.int .u8 c_6), (.int .u8 c_7), (.int .u8 c_8), (.int .u8 c_9)])] w267 fun e269 w270 =>
 ∃ n271 : Int, ∃ n272 : Int, ∃ n273 : Int, ∃ n274 : Int, ∃ n275 : Int, ∃ n276 : Int, ∃ n277 : Int, ∃ n278 : Int, ∃ n279 : Int, ∃ n280 : Int, (e269 = .returned (.agg #[(.int .u8 n271), (.int .u16 n272), (.int .u32 n273), (.int .u8 n274), (.int .u8 n275), (.int .u8 n276), (.int .u8 n277), (.int .u8 n278), (.int .u8 n279), (.int .u8 n280)])) ∧
 (X.Kept L268 w267 w270) ∧
 (X.FactsW x2 w270 (L268)) ∧
 ∀ w281 : World, ∀ L282 : List Nat, (X.Hid (L268) w270 w281) →
 (X.NewL (w).heap.size (L268) w270 w281 L282) →
 (([(.int .u8 a_0), (.int .u16 a_1), (.int .u32 a_2), (.int .u8 a_3), (.int .u8 a_4), (.int .u8 a_5), (.int .u8 a_6), (.int .u8 a_7), (.int .u8 a_8), (.int .u8 a_9)] : List Value) = [(.int .u8 a_0), (.int .u16 a_1), (.int .u32 a_2), (.int .u8 a_3), (.int .u8 a_4), (.int .u8 a_5), (.int .u8 a_6), (.int .u8 a_7), (.int .u8 a_8), (.int .u8 a_9)]) ∧
 (([(.int .u8 b_0), (.int .u16 b_1), (.int .u32 b_2), (.int .u8 b_3), (.int .u8 b_4), (.int .u8 b_5), (.int .u8 b_6), (.int .u8 b_7), (.int .u8 b_8), (.int .u8 b_9)] : List Value) = [(.int .u8 b_0), (.int .u16 b_1), (.int .u32 b_2), (.int .u8 b_3), (.int .u8 b_4), (.int .u8 b_5), (.int .u8 b_6), (.int .u8 b_7), (.int .u8 b_8), (.int .u8 b_9)]) ∧
 (([(.int .u8 c_0), (.int .u16 c_1), (.int .u32 c_2), (.int .u8 c_3), (.int .u8 c_4), (.int .u8 c_5), (.int .u8 c_6), (.int .u8 c_7), (.int .u8 c_8), (.int .u8 c_9)] : List Value) = [(.int .u8 c_0), (.int .u16 c_1), (.int .u32 c_2), (.int .u8 c_3), (.int .u8 c_4), (.int .u8 c_5), (.int .u8 c_6), (.int .u8 c_7), (.int .u8 c_8), (.int .u8 c_9)]) ∧
 x1 n7 n8 n9 n10 n11 n12 n13 n14 n15 n16 n19 n20 n21 n22 n23 n24 n25 n26 n27 n28 n271 n272 n273 n274 n275 n276 n277 n278 n279 n280 w281 (L282)) ∧
 ∀ w283 : World, ∀ L284 : List Nat, (X.Hid (L4) w18 w283) →
 (X.NewL (w).heap.size (L4) w18 w283 L284) →
 X.CallX Try.prog 9 #[(.agg #[(.int .u8 c_0), (.int .u16 c_1), (.int .u32 c_2), (.int .u8 c_3), (.int .u8 c_4), (.int .u8 c_5), (.int .u8 c_6), (.int .u8 c_7), (.int .u8 c_8), (.int .u8 c_9)])] w283 fun e285 w286 =>
 ∃ n287 : Int, ∃ n288 : Int, ∃ n289 : Int, ∃ n290 : Int, ∃ n291 : Int, ∃ n292 : Int, ∃ n293 : Int, ∃ n294 : Int, ∃ n295 : Int, ∃ n296 : Int, (e285 = .returned (.agg #[(.int .u8 n287), (.int .u16 n288), (.int .u32 n289), (.int .u8 n290), (.int .u8 n291), (.int .u8 n292), (.int .u8 n293), (.int .u8 n294), (.int .u8 n295), (.int .u8 n296)])) ∧
 (X.Kept L284 w283 w286) ∧
 (X.FactsW x2 w286 (L284)) ∧
 ∀ w297 : World, ∀ L298 : List Nat, (X.Hid (L284) w286 w297) →
 (X.NewL (w).heap.size (L284) w286 w297 L298) →
 (([(.int .u8 a_0), (.int .u16 a_1), (.int .u32 a_2), (.int .u8 a_3), (.int .u8 a_4), (.int .u8 a_5), (.int .u8 a_6), (.int .u8 a_7), (.int .u8 a_8), (.int .u8 a_9)] : List Value) = [(.int .u8 a_0), (.int .u16 a_1), (.int .u32 a_2), (.int .u8 a_3), (.int .u8 a_4), (.int .u8 a_5), (.int .u8 a_6), (.int .u8 a_7), (.int .u8 a_8), (.int .u8 a_9)]) ∧
 (([(.int .u8 b_0), (.int .u16 b_1), (.int .u32 b_2), (.int .u8 b_3), (.int .u8 b_4), (.int .u8 b_5), (.int .u8 b_6), (.int .u8 b_7), (.int .u8 b_8), (.int .u8 b_9)] : List Value) = [(.int .u8 b_0), (.int .u16 b_1), (.int .u32 b_2), (.int .u8 b_3), (.int .u8 b_4), (.int .u8 b_5), (.int .u8 b_6), (.int .u8 b_7), (.int .u8 b_8), (.int .u8 b_9)]) ∧
 (([(.int .u8 c_0), (.int .u16 c_1), (.int .u32 c_2), (.int .u8 c_3), (.int .u8 c_4), (.int .u8 c_5), (.int .u8 c_6), (.int .u8 c_7), (.int .u8 c_8), (.int .u8 c_9)] : List Value) = [(.int .u8 c_0), (.int .u16 c_1), (.int .u32 c_2), (.int .u8 c_3), (.int .u8 c_4), (.int .u8 c_5), (.int .u8 c_6), (.int .u8 c_7), (.int .u8 c_8), (.int .u8 c_9)]) ∧
 x1 n7 n8 n9 n10 n11 n12 n13 n14 n15 n16 n19 n20 n21 n22 n23 n24 n25 n26 n27 n28 n287 n288 n289 n290 n291 n292 n293 n294 n295 n296 w297 (L298)) ∧
 ((∀ w299 : World, ∀ L300 : List Nat, (X.Hid (L4) w6 w299) →
 (X.NewL (w).heap.size (L4) w6 w299 L300) →
 X.CallX Try.prog 9 #[(.agg #[(.int .u8 b_0), (.int .u16 b_1), (.int .u32 b_2), (.int .u8 b_3), (.int .u8 b_4), (.int .u8 b_5), (.int .u8 b_6), (.int .u8 b_7), (.int .u8 b_8), (.int .u8 b_9)])] w299 fun e301 w302 =>
 ∃ n303 : Int, ∃ n304 : Int, ∃ n305 : Int, ∃ n306 : Int, ∃ n307 : Int, ∃ n308 : Int, ∃ n309 : Int, ∃ n310 : Int, ∃ n311 : Int, ∃ n312 : Int, (e301 = .returned (.agg #[(.int .u8 n303), (.int .u16 n304), (.int .u32 n305), (.int .u8 n306), (.int .u8 n307), (.int .u8 n308), (.int .u8 n309), (.int .u8 n310), (.int .u8 n311), (.int .u8 n312)])) ∧
 (X.Kept L300 w299 w302) ∧
 (X.FactsW x2 w302 (L300)) ∧
 (X.CallX Try.prog 9 #[(.agg #[(.int .u8 c_0), (.int .u16 c_1), (.int .u32 c_2), (.int .u8 c_3), (.int .u8 c_4), (.int .u8 c_5), (.int .u8 c_6), (.int .u8 c_7), (.int .u8 c_8), (.int .u8 c_9)])] w302 fun e313 w314 =>
 ∃ n315 : Int, ∃ n316 : Int, ∃ n317 : Int, ∃ n318 : Int, ∃ n319 : Int, ∃ n320 : Int, ∃ n321 : Int, ∃ n322 : Int, ∃ n323 : Int, ∃ n324 : Int, (e313 = .returned (.agg #[(.int .u8 n315), (.int .u16 n316), (.int .u32 n317), (.int .u8 n318), (.int .u8 n319), (.int .u8 n320), (.int .u8 n321), (.int .u8 n322), (.int .u8 n323), (.int .u8 n324)])) ∧
 (X.Kept L300 w302 w314) ∧
 (X.FactsW x2 w314 (L300)) ∧
 (∀ w325 : World, ∀ L326 : List Nat, (X.Hid (L300) w314 w325) →
 (X.NewL (w).heap.size (L300) w314 w325 L326) →
 (([(.int .u8 a_0), (.int .u16 a_1), (.int .u32 a_2), (.int .u8 a_3), (.int .u8 a_4), (.int .u8 a_5), (.int .u8 a_6), (.int .u8 a_7), (.int .u8 a_8), (.int .u8 a_9)] : List Value) = [(.int .u8 a_0), (.int .u16 a_1), (.int .u32 a_2), (.int .u8 a_3), (.int .u8 a_4), (.int .u8 a_5), (.int .u8 a_6), (.int .u8 a_7), (.int .u8 a_8), (.int .u8 a_9)]) ∧
 (([(.int .u8 b_0), (.int .u16 b_1), (.int .u32 b_2), (.int .u8 b_3), (.int .u8 b_4), (.int .u8 b_5), (.int .u8 b_6), (.int .u8 b_7), (.int .u8 b_8), (.int .u8 b_9)] : List Value) = [(.int .u8 b_0), (.int .u16 b_1), (.int .u32 b_2), (.int .u8 b_3), (.int .u8 b_4), (.int .u8 b_5), (.int .u8 b_6), (.int .u8 b_7), (.int .u8 b_8), (.int .u8 b_9)]) ∧
 (([(.int .u8 c_0), (.int .u16 c_1), (.int .u32 c_2), (.int .u8 c_3), (.int .u8 c_4), (.int .u8 c_5), (.int .u8 c_6), (.int .u8 c_7), (.int .u8 c_8), (.int .u8 c_9)] : List Value) = [(.int .u8 c_0), (.int .u16 c_1), (.int .u32 c_2), (.int .u8 c_3), (.int .u8 c_4), (.int .u8 c_5), (.int .u8 c_6), (.int .u8 c_7), (.int .u8 c_8), (.int .u8 c_9)]) ∧
 x1 n7 n8 n9 n10 n11 n12 n13 n14 n15 n16 n303 n304 n305 n306 n307 n308 n309 n310 n311 n312 n315 n316 n317 n318 n319 n320 n321 n322 n323 n324 w325 (L326)) ∧
 ∀ w327 : World, ∀ L328 : List Nat, (X.Hid (L300) w314 w327) →
 (X.NewL (w).heap.size (L300) w314 w327 L328) →
 (([(.int .u8 a_0), (.int .u16 a_1), (.int .u32 a_2), (.int .u8 a_3), (.int .u8 a_4), (.int .u8 a_5), (.int .u8 a_6), (.int .u8 a_7), (.int .u8 a_8), (.int .u8 a_9)] : List Value) = [(.int .u8 a_0), (.int .u16 a_1), (.int .u32 a_2), (.int .u8 a_3), (.int .u8 a_4), (.int .u8 a_5), (.int .u8 a_6), (.int .u8 a_7), (.int .u8 a_8), (.int .u8 a_9)]) ∧
 (([(.int .u8 b_0), (.int .u16 b_1), (.int .u32 b_2), (.int .u8 b_3), (.int .u8 b_4), (.int .u8 b_5), (.int .u8 b_6), (.int .u8 b_7), (.int .u8 b_8), (.int .u8 b_9)] : List Value) = [(.int .u8 b_0), (.int .u16 b_1), (.int .u32 b_2), (.int .u8 b_3), (.int .u8 b_4), (.int .u8 b_5), (.int .u8 b_6), (.int .u8 b_7), (.int .u8 b_8), (.int .u8 b_9)]) ∧
 (([(.int .u8 c_0), (.int .u16 c_1), (.int .u32 c_2), (.int .u8 c_3), (.int .u8 c_4), (.int .u8 c_5), (.int .u8 c_6), (.int .u8 c_7), (.int .u8 c_8), (.int .u8 c_9)] : List Value) = [(.int .u8 c_0), (.int .u16 c_1), (.int .u32 c_2), (.int .u8 c_3), (.int .u8 c_4), (.int .u8 c_5), (.int .u8 c_6), (.int .u8 c_7), (.int .u8 c_8), (.int .u8 c_9)]) ∧
 x1 n7 n8 n9 n10 n11 n12 n13 n14 n15 n16 n303 n304 n305 n306 n307 n308 n309 n310 n311 n312 n315 n316 n317 n318 n319 n320 n321 n322 n323 n324 w327 (L328)) ∧
 ((∀ w329 : World, ∀ L330 : List Nat, (X.Hid (L300) w302 w329) →
 (X.NewL (w).heap.size (L300) w302 w329 L330) →
 X.CallX Try.prog 9 #[(.agg #[(.int .u8 c_0), (.int .u16 c_1), (.int .u32 c_2), (.int .u8 c_3), (.int .u8 c_4), (.int .u8 c_5), (.int .u8 c_6), (.int .u8 c_7), (.int .u8 c_8), (.int .u8 c_9)])] w329 fun e331 w332 =>
 ∃ n333 : Int, ∃ n334 : Int, ∃ n335 : Int, ∃ n336 : Int, ∃ n337 : Int, ∃ n338 : Int, ∃ n339 : Int, ∃ n340 : Int, ∃ n341 : Int, ∃ n342 : Int, (e331 = .returned (.agg #[(.int .u8 n333), (.int .u16 n334), (.int .u32 n335), (.int .u8 n336), (.int .u8 n337), (.int .u8 n338), (.int .u8 n339), (.int .u8 n340), (.int .u8 n341), (.int .u8 n342)])) ∧
 (X.Kept L330 w329 w332) ∧
 (X.FactsW x2 w332 (L330)) ∧
 ∀ w343 : World, ∀ L344 : List Nat, (X.Hid (L330) w332 w343) →
 (X.NewL (w).heap.size (L330) w332 w343 L344) →
 (([(.int .u8 a_0), (.int .u16 a_1), (.int .u32 a_2), (.int .u8 a_3), (.int .u8 a_4), (.int .u8 a_5), (.int .u8 a_6), (.int .u8 a_7), (.int .u8 a_8), (.int .u8 a_9)] : List Value) = [(.int .u8 a_0), (.int .u16 a_1), (.int .u32 a_2), (.int .u8 a_3), (.int .u8 a_4), (.int .u8 a_5), (.int .u8 a_6), (.int .u8 a_7), (.int .u8 a_8), (.int .u8 a_9)]) ∧
 (([(.int .u8 b_0), (.int .u16 b_1), (.int .u32 b_2), (.int .u8 b_3), (.int .u8 b_4), (.int .u8 b_5), (.int .u8 b_6), (.int .u8 b_7), (.int .u8 b_8), (.int .u8 b_9)] : List Value) = [(.int .u8 b_0), (.int .u16 b_1), (.int .u32 b_2), (.int .u8 b_3), (.int .u8 b_4), (.int .u8 b_5), (.int .u8 b_6), (.int .u8 b_7), (.int .u8 b_8), (.int .u8 b_9)]) ∧
 (([(.int .u8 c_0), (.int .u16 c_1), (.int .u32 c_2), (.int .u8 c_3), (.int .u8 c_4), (.int .u8 c_5), (.int .u8 c_6), (.int .u8 c_7), (.int .u8 c_8), (.int .u8 c_9)] : List Value) = [(.int .u8 c_0), (.int .u16 c_1), (.int .u32 c_2), (.int .u8 c_3), (.int .u8 c_4), (.int .u8 c_5), (.int .u8 c_6), (.int .u8 c_7), (.int .u8 c_8), (.int .u8 c_9)]) ∧
 x1 n7 n8 n9 n10 n11 n12 n13 n14 n15 n16 n303 n304 n305 n306 n307 n308 n309 n310 n311 n312 n333 n334 n335 n336 n337 n338 n339 n340 n341 n342 w343 (L344)) ∧
 ∀ w345 : World, ∀ L346 : List Nat, (X.Hid (L300) w302 w345) →
 (X.NewL (w).heap.size (L300) w302 w345 L346) →
 X.CallX Try.prog 9 #[(.agg #[(.int .u8 c_0), (.int .u16 c_1), (.int .u32 c_2), (.int .u8 c_3), (.int .u8 c_4), (.int .u8 c_5), (.int .u8 c_6), (.int .u8 c_7), (.int .u8 c_8), (.int .u8 c_9)])] w345 fun e347 w348 =>
 ∃ n349 : Int, ∃ n350 : Int, ∃ n351 : Int, ∃ n352 : Int, ∃ n353 : Int, ∃ n354 : Int, ∃ n355 : Int, ∃ n356 : Int, ∃ n357 : Int, ∃ n358 : Int, (e347 = .returned (.agg #[(.int .u8 n349), (.int .u16 n350), (.int .u32 n351), (.int .u8 n352), (.int .u8 n353), (.int .u8 n354), (.int .u8 n355), (.int .u8 n356), (.int .u8 n357), (.int .u8 n358)])) ∧
 (X.Kept L346 w345 w348) ∧
 (X.FactsW x2 w348 (L346)) ∧
 ∀ w359 : World, ∀ L360 : List Nat, (X.Hid (L346) w348 w359) →
 (X.NewL (w).heap.size (L346) w348 w359 L360) →
 (([(.int .u8 a_0), (.int .u16 a_1), (.int .u32 a_2), (.int .u8 a_3), (.int .u8 a_4), (.int .u8 a_5), (.int .u8 a_6), (.int .u8 a_7), (.int .u8 a_8), (.int .u8 a_9)] : List Value) = [(.int .u8 a_0), (.int .u16 a_1), (.int .u32 a_2), (.int .u8 a_3), (.int .u8 a_4), (.int .u8 a_5), (.int .u8 a_6), (.int .u8 a_7), (.int .u8 a_8), (.int .u8 a_9)]) ∧
 (([(.int .u8 b_0), (.int .u16 b_1), (.int .u32 b_2), (.int .u8 b_3), (.int .u8 b_4), (.int .u8 b_5), (.int .u8 b_6), (.int .u8 b_7), (.int .u8 b_8), (.int .u8 b_9)] : List Value) = [(.int .u8 b_0), (.int .u16 b_1), (.int .u32 b_2), (.int .u8 b_3), (.int .u8 b_4), (.int .u8 b_5), (.int .u8 b_6), (.int .u8 b_7), (.int .u8 b_8), (.int .u8 b_9)]) ∧
 (([(.int .u8 c_0), (.int .u16 c_1), (.int .u32 c_2), (.int .u8 c_3), (.int .u8 c_4), (.int .u8 c_5), (.int .u8 c_6), (.int .u8 c_7), (.int .u8 c_8), (.int .u8 c_9)] : List Value) = [(.int .u8 c_0), (.int .u16 c_1), (.int .u32 c_2), (.int .u8 c_3), (.int .u8 c_4), (.int .u8 c_5), (.int .u8 c_6), (.int .u8 c_7), (.int .u8 c_8), (.int .u8 c_9)]) ∧
 x1 n7 n8 n9 n10 n11 n12 n13 n14 n15 n16 n303 n304 n305 n306 n307 n308 n309 n310 n311 n312 n349 n350 n351 n352 n353 n354 n355 n356 n357 n358 w359 (L360)) ∧
 (∀ w361 : World, ∀ L362 : List Nat, (X.Hid (L300) w302 w361) →
 (X.NewL (w).heap.size (L300) w302 w361 L362) →
 X.CallX Try.prog 9 #[(.agg #[(.int .u8 c_0), (.int .u16 c_1), (.int .u32 c_2), (.int .u8 c_3), (.int .u8 c_4), (.int .u8 c_5), (.int .u8 c_6), (.int .u8 c_7), (.int .u8 c_8), (.int .u8 c_9)])] w361 fun e363 w364 =>
 ∃ n365 : Int, ∃ n366 : Int, ∃ n367 : Int, ∃ n368 : Int, ∃ n369 : Int, ∃ n370 : Int, ∃ n371 : Int, ∃ n372 : Int, ∃ n373 : Int, ∃ n374 : Int, (e363 = .returned (.agg #[(.int .u8 n365), (.int .u16 n366), (.int .u32 n367), (.int .u8 n368), (.int .u8 n369), (.int .u8 n370), (.int .u8 n371), (.int .u8 n372), (.int .u8 n373), (.int .u8 n374)])) ∧
 (X.Kept L362 w361 w364) ∧
 (X.FactsW x2 w364 (L362)) ∧
 ∀ w375 : World, ∀ L376 : List Nat, (X.Hid (L362) w364 w375) →
 (X.NewL (w).heap.size (L362) w364 w375 L376) →
 (([(.int .u8 a_0), (.int .u16 a_1), (.int .u32 a_2), (.int .u8 a_3), (.int .u8 a_4), (.int .u8 a_5), (.int .u8 a_6), (.int .u8 a_7), (.int .u8 a_8), (.int .u8 a_9)] : List Value) = [(.int .u8 a_0), (.int .u16 a_1), (.int .u32 a_2), (.int .u8 a_3), (.int .u8 a_4), (.int .u8 a_5), (.int .u8 a_6), (.int .u8 a_7), (.int .u8 a_8), (.int .u8 a_9)]) ∧
 (([(.int .u8 b_0), (.int .u16 b_1), (.int .u32 b_2), (.int .u8 b_3), (.int .u8 b_4), (.int .u8 b_5), (.int .u8 b_6), (.int .u8 b_7), (.int .u8 b_8), (.int .u8 b_9)] : List Value) = [(.int .u8 b_0), (.int .u16 b_1), (.int .u32 b_2), (.int .u8 b_3), (.int .u8 b_4), (.int .u8 b_5), (.int .u8 b_6), (.int .u8 b_7), (.int .u8 b_8), (.int .u8 b_9)]) ∧
 (([(.int .u8 c_0), (.int .u16 c_1), (.int .u32 c_2), (.int .u8 c_3), (.int .u8 c_4), (.int .u8 c_5), (.int .u8 c_6), (.int .u8 c_7), (.int .u8 c_8), (.int .u8 c_9)] : List Value) = [(.int .u8 c_0), (.int .u16 c_1), (.int .u32 c_2), (.int .u8 c_3), (.int .u8 c_4), (.int .u8 c_5), (.int .u8 c_6), (.int .u8 c_7), (.int .u8 c_8), (.int .u8 c_9)]) ∧
 x1 n7 n8 n9 n10 n11 n12 n13 n14 n15 n16 n303 n304 n305 n306 n307 n308 n309 n310 n311 n312 n365 n366 n367 n368 n369 n370 n371 n372 n373 n374 w375 (L376)) ∧
 ∀ w377 : World, ∀ L378 : List Nat, (X.Hid (L300) w302 w377) →
 (X.NewL (w).heap.size (L300) w302 w377 L378) →
 X.CallX Try.prog 9 #[(.agg #[(.int .u8 c_0), (.int .u16 c_1), (.int .u32 c_2), (.int .u8 c_3), (.int .u8 c_4), (.int .u8 c_5), (.int .u8 c_6), (.int .u8 c_7), (.int .u8 c_8), (.int .u8 c_9)])] w377 fun e379 w380 =>
 ∃ n381 : Int, ∃ n382 : Int, ∃ n383 : Int, ∃ n384 : Int, ∃ n385 : Int, ∃ n386 : Int, ∃ n387 : Int, ∃ n388 : Int, ∃ n389 : Int, ∃ n390 : Int, (e379 = .returned (.agg #[(.int .u8 n381), (.int .u16 n382), (.int .u32 n383), (.int .u8 n384), (.int .u8 n385), (.int .u8 n386), (.int .u8 n387), (.int .u8 n388), (.int .u8 n389), (.int .u8 n390)])) ∧
 (X.Kept L378 w377 w380) ∧
 (X.FactsW x2 w380 (L378)) ∧
 ∀ w391 : World, ∀ L392 : List Nat, (X.Hid (L378) w380 w391) →
 (X.NewL (w).heap.size (L378) w380 w391 L392) →
 (([(.int .u8 a_0), (.int .u16 a_1), (.int .u32 a_2), (.int .u8 a_3), (.int .u8 a_4), (.int .u8 a_5), (.int .u8 a_6), (.int .u8 a_7), (.int .u8 a_8), (.int .u8 a_9)] : List Value) = [(.int .u8 a_0), (.int .u16 a_1), (.int .u32 a_2), (.int .u8 a_3), (.int .u8 a_4), (.int .u8 a_5), (.int .u8 a_6), (.int .u8 a_7), (.int .u8 a_8), (.int .u8 a_9)]) ∧
 (([(.int .u8 b_0), (.int .u16 b_1), (.int .u32 b_2), (.int .u8 b_3), (.int .u8 b_4), (.int .u8 b_5), (.int .u8 b_6), (.int .u8 b_7), (.int .u8 b_8), (.int .u8 b_9)] : List Value) = [(.int .u8 b_0), (.int .u16 b_1), (.int .u32 b_2), (.int .u8 b_3), (.int .u8 b_4), (.int .u8 b_5), (.int .u8 b_6), (.int .u8 b_7), (.int .u8 b_8), (.int .u8 b_9)]) ∧
 (([(.int .u8 c_0), (.int .u16 c_1), (.int .u32 c_2), (.int .u8 c_3), (.int .u8 c_4), (.int .u8 c_5), (.int .u8 c_6), (.int .u8 c_7), (.int .u8 c_8), (.int .u8 c_9)] : List Value) = [(.int .u8 c_0), (.int .u16 c_1), (.int .u32 c_2), (.int .u8 c_3), (.int .u8 c_4), (.int .u8 c_5), (.int .u8 c_6), (.int .u8 c_7), (.int .u8 c_8), (.int .u8 c_9)]) ∧
 x1 n7 n8 n9 n10 n11 n12 n13 n14 n15 n16 n303 n304 n305 n306 n307 n308 n309 n310 n311 n312 n381 n382 n383 n384 n385 n386 n387 n388 n389 n390 w391 (L392)) ∧
 ((∀ w393 : World, ∀ L394 : List Nat, (X.Hid (L4) w6 w393) →
 (X.NewL (w).heap.size (L4) w6 w393 L394) →
 X.CallX Try.prog 9 #[(.agg #[(.int .u8 b_0), (.int .u16 b_1), (.int .u32 b_2), (.int .u8 b_3), (.int .u8 b_4), (.int .u8 b_5), (.int .u8 b_6), (.int .u8 b_7), (.int .u8 b_8), (.int .u8 b_9)])] w393 fun e395 w396 =>
 ∃ n397 : Int, ∃ n398 : Int, ∃ n399 : Int, ∃ n400 : Int, ∃ n401 : Int, ∃ n402 : Int, ∃ n403 : Int, ∃ n404 : Int, ∃ n405 : Int, ∃ n406 : Int, (e395 = .returned (.agg #[(.int .u8 n397), (.int .u16 n398), (.int .u32 n399), (.int .u8 n400), (.int .u8 n401), (.int .u8 n402), (.int .u8 n403), (.int .u8 n404), (.int .u8 n405), (.int .u8 n406)])) ∧
 (X.Kept L394 w393 w396) ∧
 (X.FactsW x2 w396 (L394)) ∧
 (X.CallX Try.prog 9 #[(.agg #[(.int .u8 c_0), (.int .u16 c_1), (.int .u32 c_2), (.int .u8 c_3), (.int .u8 c_4), (.int .u8 c_5), (.int .u8 c_6), (.int .u8 c_7), (.int .u8 c_8), (.int .u8 c_9)])] w396 fun e407 w408 =>
 ∃ n409 : Int, ∃ n410 : Int, ∃ n411 : Int, ∃ n412 : Int, ∃ n413 : Int, ∃ n414 : Int, ∃ n415 : Int, ∃ n416 : Int, ∃ n417 : Int, ∃ n418 : Int, (e407 = .returned (.agg #[(.int .u8 n409), (.int .u16 n410), (.int .u32 n411), (.int .u8 n412), (.int .u8 n413), (.int .u8 n414), (.int .u8 n415), (.int .u8 n416), (.int .u8 n417), (.int .u8 n418)])) ∧
 (X.Kept L394 w396 w408) ∧
 (X.FactsW x2 w408 (L394)) ∧
 ∀ w419 : World, ∀ L420 : List Nat, (X.Hid (L394) w408 w419) →
 (X.NewL (w).heap.size (L394) w408 w419 L420) →
 (([(.int .u8 a_0), (.int .u16 a_1), (.int .u32 a_2), (.int .u8 a_3), (.int .u8 a_4), (.int .u8 a_5), (.int .u8 a_6), (.int .u8 a_7), (.int .u8 a_8), (.int .u8 a_9)] : List Value) = [(.int .u8 a_0), (.int .u16 a_1), (.int .u32 a_2), (.int .u8 a_3), (.int .u8 a_4), (.int .u8 a_5), (.int .u8 a_6), (.int .u8 a_7), (.int .u8 a_8), (.int .u8 a_9)]) ∧
 (([(.int .u8 b_0), (.int .u16 b_1), (.int .u32 b_2), (.int .u8 b_3), (.int .u8 b_4), (.int .u8 b_5), (.int .u8 b_6), (.int .u8 b_7), (.int .u8 b_8), (.int .u8 b_9)] : List Value) = [(.int .u8 b_0), (.int .u16 b_1), (.int .u32 b_2), (.int .u8 b_3), (.int .u8 b_4), (.int .u8 b_5), (.int .u8 b_6), (.int .u8 b_7), (.int .u8 b_8), (.int .u8 b_9)]) ∧
 (([(.int .u8 c_0), (.int .u16 c_1), (.int .u32 c_2), (.int .u8 c_3), (.int .u8 c_4), (.int .u8 c_5), (.int .u8 c_6), (.int .u8 c_7), (.int .u8 c_8), (.int .u8 c_9)] : List Value) = [(.int .u8 c_0), (.int .u16 c_1), (.int .u32 c_2), (.int .u8 c_3), (.int .u8 c_4), (.int .u8 c_5), (.int .u8 c_6), (.int .u8 c_7), (.int .u8 c_8), (.int .u8 c_9)]) ∧
 x1 n7 n8 n9 n10 n11 n12 n13 n14 n15 n16 n397 n398 n399 n400 n401 n402 n403 n404 n405 n406 n409 n410 n411 n412 n413 n414 n415 n416 n417 n418 w419 (L420)) ∧
 ∀ w421 : World, ∀ L422 : List Nat, (X.Hid (L394) w396 w421) →
 (X.NewL (w).heap.size (L394) w396 w421 L422) →
 X.CallX Try.prog 9 #[(.agg #[(.int .u8 c_0), (.int .u16 c_1), (.int .u32 c_2), (.int .u8 c_3), (.int .u8 c_4), (.int .u8 c_5), (.int .u8 c_6), (.int .u8 c_7), (.int .u8 c_8), (.int .u8 c_9)])] w421 fun e423 w424 =>
 ∃ n425 : Int, ∃ n426 : Int, ∃ n427 : Int, ∃ n428 : Int, ∃ n429 : Int, ∃ n430 : Int, ∃ n431 : Int, ∃ n432 : Int, ∃ n433 : Int, ∃ n434 : Int, (e423 = .returned (.agg #[(.int .u8 n425), (.int .u16 n426), (.int .u32 n427), (.int .u8 n428), (.int .u8 n429), (.int .u8 n430), (.int .u8 n431), (.int .u8 n432), (.int .u8 n433), (.int .u8 n434)])) ∧
 (X.Kept L422 w421 w424) ∧
 (X.FactsW x2 w424 (L422)) ∧
 ∀ w435 : World, ∀ L436 : List Nat, (X.Hid (L422) w424 w435) →
 (X.NewL (w).heap.size (L422) w424 w435 L436) →
 (([(.int .u8 a_0), (.int .u16 a_1), (.int .u32 a_2), (.int .u8 a_3), (.int .u8 a_4), (.int .u8 a_5), (.int .u8 a_6), (.int .u8 a_7), (.int .u8 a_8), (.int .u8 a_9)] : List Value) = [(.int .u8 a_0), (.int .u16 a_1), (.int .u32 a_2), (.int .u8 a_3), (.int .u8 a_4), (.int .u8 a_5), (.int .u8 a_6), (.int .u8 a_7), (.int .u8 a_8), (.int .u8 a_9)]) ∧
 (([(.int .u8 b_0), (.int .u16 b_1), (.int .u32 b_2), (.int .u8 b_3), (.int .u8 b_4), (.int .u8 b_5), (.int .u8 b_6), (.int .u8 b_7), (.int .u8 b_8), (.int .u8 b_9)] : List Value) = [(.int .u8 b_0), (.int .u16 b_1), (.int .u32 b_2), (.int .u8 b_3), (.int .u8 b_4), (.int .u8 b_5), (.int .u8 b_6), (.int .u8 b_7), (.int .u8 b_8), (.int .u8 b_9)]) ∧
 (([(.int .u8 c_0), (.int .u16 c_1), (.int .u32 c_2), (.int .u8 c_3), (.int .u8 c_4), (.int .u8 c_5), (.int .u8 c_6), (.int .u8 c_7), (.int .u8 c_8), (.int .u8 c_9)] : List Value) = [(.int .u8 c_0), (.int .u16 c_1), (.int .u32 c_2), (.int .u8 c_3), (.int .u8 c_4), (.int .u8 c_5), (.int .u8 c_6), (.int .u8 c_7), (.int .u8 c_8), (.int .u8 c_9)]) ∧
 x1 n7 n8 n9 n10 n11 n12 n13 n14 n15 n16 n397 n398 n399 n400 n401 n402 n403 n404 n405 n406 n425 n426 n427 n428 n429 n430 n431 n432 n433 n434 w435 (L436)) ∧
 ∀ w437 : World, ∀ L438 : List Nat, (X.Hid (L4) w6 w437) →
 (X.NewL (w).heap.size (L4) w6 w437 L438) →
 X.CallX Try.prog 9 #[(.agg #[(.int .u8 b_0), (.int .u16 b_1), (.int .u32 b_2), (.int .u8 b_3), (.int .u8 b_4), (.int .u8 b_5), (.int .u8 b_6), (.int .u8 b_7), (.int .u8 b_8), (.int .u8 b_9)])] w437 fun e439 w440 =>
 ∃ n441 : Int, ∃ n442 : Int, ∃ n443 : Int, ∃ n444 : Int, ∃ n445 : Int, ∃ n446 : Int, ∃ n447 : Int, ∃ n448 : Int, ∃ n449 : Int, ∃ n450 : Int, (e439 = .returned (.agg #[(.int .u8 n441), (.int .u16 n442), (.int .u32 n443), (.int .u8 n444), (.int .u8 n445), (.int .u8 n446), (.int .u8 n447), (.int .u8 n448), (.int .u8 n449), (.int .u8 n450)])) ∧
 (X.Kept L438 w437 w440) ∧
 (X.FactsW x2 w440 (L438)) ∧
 X.CallX Try.prog 9 #[(.agg #[(.int .u8 c_0), (.int .u16 c_1), (.int .u32 c_2), (.int .u8 c_3), (.int .u8 c_4), (.int .u8 c_5), (.int .u8 c_6), (.int .u8 c_7), (.int .u8 c_8), (.int .u8 c_9)])] w440 fun e451 w452 =>
 ∃ n453 : Int, ∃ n454 : Int, ∃ n455 : Int, ∃ n456 : Int, ∃ n457 : Int, ∃ n458 : Int, ∃ n459 : Int, ∃ n460 : Int, ∃ n461 : Int, ∃ n462 : Int, (e451 = .returned (.agg #[(.int .u8 n453), (.int .u16 n454), (.int .u32 n455), (.int .u8 n456), (.int .u8 n457), (.int .u8 n458), (.int .u8 n459), (.int .u8 n460), (.int .u8 n461), (.int .u8 n462)])) ∧
 (X.Kept L438 w440 w452) ∧
 (X.FactsW x2 w452 (L438)) ∧
 ∀ w463 : World, ∀ L464 : List Nat, (X.Hid (L438) w452 w463) →
 (X.NewL (w).heap.size (L438) w452 w463 L464) →
 (([(.int .u8 a_0), (.int .u16 a_1), (.int .u32 a_2), (.int .u8 a_3), (.int .u8 a_4), (.int .u8 a_5), (.int .u8 a_6), (.int .u8 a_7), (.int .u8 a_8), (.int .u8 a_9)] : List Value) = [(.int .u8 a_0), (.int .u16 a_1), (.int .u32 a_2), (.int .u8 a_3), (.int .u8 a_4), (.int .u8 a_5), (.int .u8 a_6), (.int .u8 a_7), (.int .u8 a_8), (.int .u8 a_9)]) ∧
 (([(.int .u8 b_0), (.int .u16 b_1), (.int .u32 b_2), (.int .u8 b_3), (.int .u8 b_4), (.int .u8 b_5), (.int .u8 b_6), (.int .u8 b_7), (.int .u8 b_8), (.int .u8 b_9)] : List Value) = [(.int .u8 b_0), (.int .u16 b_1), (.int .u32 b_2), (.int .u8 b_3), (.int .u8 b_4), (.int .u8 b_5), (.int .u8 b_6), (.int .u8 b_7), (.int .u8 b_8), (.int .u8 b_9)]) ∧
 (([(.int .u8 c_0), (.int .u16 c_1), (.int .u32 c_2), (.int .u8 c_3), (.int .u8 c_4), (.int .u8 c_5), (.int .u8 c_6), (.int .u8 c_7), (.int .u8 c_8), (.int .u8 c_9)] : List Value) = [(.int .u8 c_0), (.int .u16 c_1), (.int .u32 c_2), (.int .u8 c_3), (.int .u8 c_4), (.int .u8 c_5), (.int .u8 c_6), (.int .u8 c_7), (.int .u8 c_8), (.int .u8 c_9)]) ∧
 x1 n7 n8 n9 n10 n11 n12 n13 n14 n15 n16 n441 n442 n443 n444 n445 n446 n447 n448 n449 n450 n453 n454 n455 n456 n457 n458 n459 n460 n461 n462 w463 (L464)) ∧
 (∀ w465 : World, ∀ L466 : List Nat, (X.Hid (L4) w6 w465) →
 (X.NewL (w).heap.size (L4) w6 w465 L466) →
 X.CallX Try.prog 9 #[(.agg #[(.int .u8 b_0), (.int .u16 b_1), (.int .u32 b_2), (.int .u8 b_3), (.int .u8 b_4), (.int .u8 b_5), (.int .u8 b_6), (.int .u8 b_7), (.int .u8 b_8), (.int .u8 b_9)])] w465 fun e467 w468 =>
 ∃ n469 : Int, ∃ n470 : Int, ∃ n471 : Int, ∃ n472 : Int, ∃ n473 : Int, ∃ n474 : Int, ∃ n475 : Int, ∃ n476 : Int, ∃ n477 : Int, ∃ n478 : Int, (e467 = .returned (.agg #[(.int .u8 n469), (.int .u16 n470), (.int .u32 n471), (.int .u8 n472), (.int .u8 n473), (.int .u8 n474), (.int .u8 n475), (.int .u8 n476), (.int .u8 n477), (.int .u8 n478)])) ∧
 (X.Kept L466 w465 w468) ∧
 (X.FactsW x2 w468 (L466)) ∧
 (X.CallX Try.prog 9 #[(.agg #[(.int .u8 c_0), (.int .u16 c_1), (.int .u32 c_2), (.int .u8 c_3), (.int .u8 c_4), (.int .u8 c_5), (.int .u8 c_6), (.int .u8 c_7), (.int .u8 c_8), (.int .u8 c_9)])] w468 fun e479 w480 =>
 ∃ n481 : Int, ∃ n482 : Int, ∃ n483 : Int, ∃ n484 : Int, ∃ n485 : Int, ∃ n486 : Int, ∃ n487 : Int, ∃ n488 : Int, ∃ n489 : Int, ∃ n490 : Int, (e479 = .returned (.agg #[(.int .u8 n481), (.int .u16 n482), (.int .u32 n483), (.int .u8 n484), (.int .u8 n485), (.int .u8 n486), (.int .u8 n487), (.int .u8 n488), (.int .u8 n489), (.int .u8 n490)])) ∧
 (X.Kept L466 w468 w480) ∧
 (X.FactsW x2 w480 (L466)) ∧
 ∀ w491 : World, ∀ L492 : List Nat, (X.Hid (L466) w480 w491) →
 (X.NewL (w).heap.size (L466) w480 w491 L492) →
 (([(.int .u8 a_0), (.int .u16 a_1), (.int .u32 a_2), (.int .u8 a_3), (.int .u8 a_4), (.int .u8 a_5), (.int .u8 a_6), (.int .u8 a_7), (.int .u8 a_8), (.int .u8 a_9)] : List Value) = [(.int .u8 a_0), (.int .u16 a_1), (.int .u32 a_2), (.int .u8 a_3), (.int .u8 a_4), (.int .u8 a_5), (.int .u8 a_6), (.int .u8 a_7), (.int .u8 a_8), (.int .u8 a_9)]) ∧
 (([(.int .u8 b_0), (.int .u16 b_1), (.int .u32 b_2), (.int .u8 b_3), (.int .u8 b_4), (.int .u8 b_5), (.int .u8 b_6), (.int .u8 b_7), (.int .u8 b_8), (.int .u8 b_9)] : List Value) = [(.int .u8 b_0), (.int .u16 b_1), (.int .u32 b_2), (.int .u8 b_3), (.int .u8 b_4), (.int .u8 b_5), (.int .u8 b_6), (.int .u8 b_7), (.int .u8 b_8), (.int .u8 b_9)]) ∧
 (([(.int .u8 c_0), (.int .u16 c_1), (.int .u32 c_2), (.int .u8 c_3), (.int .u8 c_4), (.int .u8 c_5), (.int .u8 c_6), (.int .u8 c_7), (.int .u8 c_8), (.int .u8 c_9)] : List Value) = [(.int .u8 c_0), (.int .u16 c_1), (.int .u32 c_2), (.int .u8 c_3), (.int .u8 c_4), (.int .u8 c_5), (.int .u8 c_6), (.int .u8 c_7), (.int .u8 c_8), (.int .u8 c_9)]) ∧
 x1 n7 n8 n9 n10 n11 n12 n13 n14 n15 n16 n469 n470 n471 n472 n473 n474 n475 n476 n477 n478 n481 n482 n483 n484 n485 n486 n487 n488 n489 n490 w491 (L492)) ∧
 ∀ w493 : World, ∀ L494 : List Nat, (X.Hid (L466) w468 w493) →
 (X.NewL (w).heap.size (L466) w468 w493 L494) →
 X.CallX Try.prog 9 #[(.agg #[(.int .u8 c_0), (.int .u16 c_1), (.int .u32 c_2), (.int .u8 c_3), (.int .u8 c_4), (.int .u8 c_5), (.int .u8 c_6), (.int .u8 c_7), (.int .u8 c_8), (.int .u8 c_9)])] w493 fun e495 w496 =>
 ∃ n497 : Int, ∃ n498 : Int, ∃ n499 : Int, ∃ n500 : Int, ∃ n501 : Int, ∃ n502 : Int, ∃ n503 : Int, ∃ n504 : Int, ∃ n505 : Int, ∃ n506 : Int, (e495 = .returned (.agg #[(.int .u8 n497), (.int .u16 n498), (.int .u32 n499), (.int .u8 n500), (.int .u8 n501), (.int .u8 n502), (.int .u8 n503), (.int .u8 n504), (.int .u8 n505), (.int .u8 n506)])) ∧
 (X.Kept L494 w493 w496) ∧
 (X.FactsW x2 w496 (L494)) ∧
 ∀ w507 : World, ∀ L508 : List Nat, (X.Hid (L494) w496 w507) →
 (X.NewL (w).heap.size (L494) w496 w507 L508) →
 (([(.int .u8 a_0), (.int .u16 a_1), (.int .u32 a_2), (.int .u8 a_3), (.int .u8 a_4), (.int .u8 a_5), (.int .u8 a_6), (.int .u8 a_7), (.int .u8 a_8), (.int .u8 a_9)] : List Value) = [(.int .u8 a_0), (.int .u16 a_1), (.int .u32 a_2), (.int .u8 a_3), (.int .u8 a_4), (.int .u8 a_5), (.int .u8 a_6), (.int .u8 a_7), (.int .u8 a_8), (.int .u8 a_9)]) ∧
 (([(.int .u8 b_0), (.int .u16 b_1), (.int .u32 b_2), (.int .u8 b_3), (.int .u8 b_4), (.int .u8 b_5), (.int .u8 b_6), (.int .u8 b_7), (.int .u8 b_8), (.int .u8 b_9)] : List Value) = [(.int .u8 b_0), (.int .u16 b_1), (.int .u32 b_2), (.int .u8 b_3), (.int .u8 b_4), (.int .u8 b_5), (.int .u8 b_6), (.int .u8 b_7), (.int .u8 b_8), (.int .u8 b_9)]) ∧
 (([(.int .u8 c_0), (.int .u16 c_1), (.int .u32 c_2), (.int .u8 c_3), (.int .u8 c_4), (.int .u8 c_5), (.int .u8 c_6), (.int .u8 c_7), (.int .u8 c_8), (.int .u8 c_9)] : List Value) = [(.int .u8 c_0), (.int .u16 c_1), (.int .u32 c_2), (.int .u8 c_3), (.int .u8 c_4), (.int .u8 c_5), (.int .u8 c_6), (.int .u8 c_7), (.int .u8 c_8), (.int .u8 c_9)]) ∧
 x1 n7 n8 n9 n10 n11 n12 n13 n14 n15 n16 n469 n470 n471 n472 n473 n474 n475 n476 n477 n478 n497 n498 n499 n500 n501 n502 n503 n504 n505 n506 w507 (L508)) ∧
 ∀ w509 : World, ∀ L510 : List Nat, (X.Hid (L4) w6 w509) →
 (X.NewL (w).heap.size (L4) w6 w509 L510) →
 X.CallX Try.prog 9 #[(.agg #[(.int .u8 b_0), (.int .u16 b_1), (.int .u32 b_2), (.int .u8 b_3), (.int .u8 b_4), (.int .u8 b_5), (.int .u8 b_6), (.int .u8 b_7), (.int .u8 b_8), (.int .u8 b_9)])] w509 fun e511 w512 =>
 ∃ n513 : Int, ∃ n514 : Int, ∃ n515 : Int, ∃ n516 : Int, ∃ n517 : Int, ∃ n518 : Int, ∃ n519 : Int, ∃ n520 : Int, ∃ n521 : Int, ∃ n522 : Int, (e511 = .returned (.agg #[(.int .u8 n513), (.int .u16 n514), (.int .u32 n515), (.int .u8 n516), (.int .u8 n517), (.int .u8 n518), (.int .u8 n519), (.int .u8 n520), (.int .u8 n521), (.int .u8 n522)])) ∧
 (X.Kept L510 w509 w512) ∧
 (X.FactsW x2 w512 (L510)) ∧
 X.CallX Try.prog 9 #[(.agg #[(.int .u8 c_0), (.int .u16 c_1), (.int .u32 c_2), (.int .u8 c_3), (.int .u8 c_4), (.int .u8 c_5), (.int .u8 c_6), (.int .u8 c_7), (.int .u8 c_8), (.int .u8 c_9)])] w512 fun e523 w524 =>
 ∃ n525 : Int, ∃ n526 : Int, ∃ n527 : Int, ∃ n528 : Int, ∃ n529 : Int, ∃ n530 : Int, ∃ n531 : Int, ∃ n532 : Int, ∃ n533 : Int, ∃ n534 : Int, (e523 = .returned (.agg #[(.int .u8 n525), (.int .u16 n526), (.int .u32 n527), (.int .u8 n528), (.int .u8 n529), (.int .u8 n530), (.int .u8 n531), (.int .u8 n532), (.int .u8 n533), (.int .u8 n534)])) ∧
 (X.Kept L510 w512 w524) ∧
 (X.FactsW x2 w524 (L510)) ∧
 ∀ w535 : World, ∀ L536 : List Nat, (X.Hid (L510) w524 w535) →
 (X.NewL (w).heap.size (L510) w524 w535 L536) →
 (([(.int .u8 a_0), (.int .u16 a_1), (.int .u32 a_2), (.int .u8 a_3), (.int .u8 a_4), (.int .u8 a_5), (.int .u8 a_6), (.int .u8 a_7), (.int .u8 a_8), (.int .u8 a_9)] : List Value) = [(.int .u8 a_0), (.int .u16 a_1), (.int .u32 a_2), (.int .u8 a_3), (.int .u8 a_4), (.int .u8 a_5), (.int .u8 a_6), (.int .u8 a_7), (.int .u8 a_8), (.int .u8 a_9)]) ∧
 (([(.int .u8 b_0), (.int .u16 b_1), (.int .u32 b_2), (.int .u8 b_3), (.int .u8 b_4), (.int .u8 b_5), (.int .u8 b_6), (.int .u8 b_7), (.int .u8 b_8), (.int .u8 b_9)] : List Value) = [(.int .u8 b_0), (.int .u16 b_1), (.int .u32 b_2), (.int .u8 b_3), (.int .u8 b_4), (.int .u8 b_5), (.int .u8 b_6), (.int .u8 b_7), (.int .u8 b_8), (.int .u8 b_9)]) ∧
 (([(.int .u8 c_0), (.int .u16 c_1), (.int .u32 c_2), (.int .u8 c_3), (.int .u8 c_4), (.int .u8 c_5), (.int .u8 c_6), (.int .u8 c_7), (.int .u8 c_8), (.int .u8 c_9)] : List Value) = [(.int .u8 c_0), (.int .u16 c_1), (.int .u32 c_2), (.int .u8 c_3), (.int .u8 c_4), (.int .u8 c_5), (.int .u8 c_6), (.int .u8 c_7), (.int .u8 c_8), (.int .u8 c_9)]) ∧
 x1 n7 n8 n9 n10 n11 n12 n13 n14 n15 n16 n513 n514 n515 n516 n517 n518 n519 n520 n521 n522 n525 n526 n527 n528 n529 n530 n531 n532 n533 n534 w535 (L536)) ∧
 ((∀ w537 : World, ∀ L538 : List Nat, (X.Hid (L4) w6 w537) →
 (X.NewL (w).heap.size (L4) w6 w537 L538) →
 X.CallX Try.prog 9 #[(.agg #[(.int .u8 b_0), (.int .u16 b_1), (.int .u32 b_2), (.int .u8 b_3), (.int .u8 b_4), (.int .u8 b_5), (.int .u8 b_6), (.int .u8 b_7), (.int .u8 b_8), (.int .u8 b_9)])] w537 fun e539 w540 =>
 ∃ n541 : Int, ∃ n542 : Int, ∃ n543 : Int, ∃ n544 : Int, ∃ n545 : Int, ∃ n546 : Int, ∃ n547 : Int, ∃ n548 : Int, ∃ n549 : Int, ∃ n550 : Int, (e539 = .returned (.agg #[(.int .u8 n541), (.int .u16 n542), (.int .u32 n543), (.int .u8 n544), (.int .u8 n545), (.int .u8 n546), (.int .u8 n547), (.int .u8 n548), (.int .u8 n549), (.int .u8 n550)])) ∧
 (X.Kept L538 w537 w540) ∧
 (X.FactsW x2 w540 (L538)) ∧
 (X.CallX Try.prog 9 #[(.agg #[(.int .u8 c_0), (.int .u16 c_1), (.int .u32 c_2), (.int .u8 c_3), (.int .u8 c_4), (.int .u8 c_5), (.int .u8 c_6), (.int .u8 c_7), (.int .u8 c_8), (.int .u8 c_9)])] w540 fun e551 w552 =>
 ∃ n553 : Int, ∃ n554 : Int, ∃ n555 : Int, ∃ n556 : Int, ∃ n557 : Int, ∃ n558 : Int, ∃ n559 : Int, ∃ n560 : Int, ∃ n561 : Int, ∃ n562 : Int, (e551 = .returned (.agg #[(.int .u8 n553), (.int .u16 n554), (.int .u32 n555), (.int .u8 n556), (.int .u8 n557), (.int .u8 n558), (.int .u8 n559), (.int .u8 n560), (.int .u8 n561), (.int .u8 n562)])) ∧
 (X.Kept L538 w540 w552) ∧
 (X.FactsW x2 w552 (L538)) ∧
 (∀ w563 : World, ∀ L564 : List Nat, (X.Hid (L538) w552 w563) →
 (X.NewL (w).heap.size (L538) w552 w563 L564) →
 (([(.int .u8 a_0), (.int .u16 a_1), (.int .u32 a_2), (.int .u8 a_3), (.int .u8 a_4), (.int .u8 a_5), (.int .u8 a_6), (.int .u8 a_7), (.int .u8 a_8), (.int .u8 a_9)] : List Value) = [(.int .u8 a_0), (.int .u16 a_1), (.int .u32 a_2), (.int .u8 a_3), (.int .u8 a_4), (.int .u8 a_5), (.int .u8 a_6), (.int .u8 a_7), (.int .u8 a_8), (.int .u8 a_9)]) ∧
 (([(.int .u8 b_0), (.int .u16 b_1), (.int .u32 b_2), (.int .u8 b_3), (.int .u8 b_4), (.int .u8 b_5), (.int .u8 b_6), (.int .u8 b_7), (.int .u8 b_8), (.int .u8 b_9)] : List Value) = [(.int .u8 b_0), (.int .u16 b_1), (.int .u32 b_2), (.int .u8 b_3), (.int .u8 b_4), (.int .u8 b_5), (.int .u8 b_6), (.int .u8 b_7), (.int .u8 b_8), (.int .u8 b_9)]) ∧
 (([(.int .u8 c_0), (.int .u16 c_1), (.int .u32 c_2), (.int .u8 c_3), (.int .u8 c_4), (.int .u8 c_5), (.int .u8 c_6), (.int .u8 c_7), (.int .u8 c_8), (.int .u8 c_9)] : List Value) = [(.int .u8 c_0), (.int .u16 c_1), (.int .u32 c_2), (.int .u8 c_3), (.int .u8 c_4), (.int .u8 c_5), (.int .u8 c_6), (.int .u8 c_7), (.int .u8 c_8), (.int .u8 c_9)]) ∧
 x1 n7 n8 n9 n10 n11 n12 n13 n14 n15 n16 n541 n542 n543 n544 n545 n546 n547 n548 n549 n550 n553 n554 n555 n556 n557 n558 n559 n560 n561 n562 w563 (L564)) ∧
 ∀ w565 : World, ∀ L566 : List Nat, (X.Hid (L538) w552 w565) →
 (X.NewL (w).heap.size (L538) w552 w565 L566) →
 (([(.int .u8 a_0), (.int .u16 a_1), (.int .u32 a_2), (.int .u8 a_3), (.int .u8 a_4), (.int .u8 a_5), (.int .u8 a_6), (.int .u8 a_7), (.int .u8 a_8), (.int .u8 a_9)] : List Value) = [(.int .u8 a_0), (.int .u16 a_1), (.int .u32 a_2), (.int .u8 a_3), (.int .u8 a_4), (.int .u8 a_5), (.int .u8 a_6), (.int .u8 a_7), (.int .u8 a_8), (.int .u8 a_9)]) ∧
 (([(.int .u8 b_0), (.int .u16 b_1), (.int .u32 b_2), (.int .u8 b_3), (.int .u8 b_4), (.int .u8 b_5), (.int .u8 b_6), (.int .u8 b_7), (.int .u8 b_8), (.int .u8 b_9)] : List Value) = [(.int .u8 b_0), (.int .u16 b_1), (.int .u32 b_2), (.int .u8 b_3), (.int .u8 b_4), (.int .u8 b_5), (.int .u8 b_6), (.int .u8 b_7), (.int .u8 b_8), (.int .u8 b_9)]) ∧
 (([(.int .u8 c_0), (.int .u16 c_1), (.int .u32 c_2), (.int .u8 c_3), (.int .u8 c_4), (.int .u8 c_5), (.int .u8 c_6), (.int .u8 c_7), (.int .u8 c_8), (.int .u8 c_9)] : List Value) = [(.int .u8 c_0), (.int .u16 c_1), (.int .u32 c_2), (.int .u8 c_3), (.int .u8 c_4), (.int .u8 c_5), (.int .u8 c_6), (.int .u8 c_7), (.int .u8 c_8), (.int .u8 c_9)]) ∧
 x1 n7 n8 n9 n10 n11 n12 n13 n14 n15 n16 n541 n542 n543 n544 n545 n546 n547 n548 n549 n550 n553 n554 n555 n556 n557 n558 n559 n560 n561 n562 w565 (L566)) ∧
 ((∀ w567 : World, ∀ L568 : List Nat, (X.Hid (L538) w540 w567) →
 (X.NewL (w).heap.size (L538) w540 w567 L568) →
 X.CallX Try.prog 9 #[(.agg #[(.int .u8 c_0), (.int .u16 c_1), (.int .u32 c_2), (.int .u8 c_3), (.int .u8 c_4), (.int .u8 c_5), (.int .u8 c_6), (.int .u8 c_7), (.int .u8 c_8), (.int .u8 c_9)])] w567 fun e569 w570 =>
 ∃ n571 : Int, ∃ n572 : Int, ∃ n573 : Int, ∃ n574 : Int, ∃ n575 : Int, ∃ n576 : Int, ∃ n577 : Int, ∃ n578 : Int, ∃ n579 : Int, ∃ n580 : Int, (e569 = .returned (.agg #[(.int .u8 n571), (.int .u16 n572), (.int .u32 n573), (.int .u8 n574), (.int .u8 n575), (.int .u8 n576), (.int .u8 n577), (.int .u8 n578), (.int .u8 n579), (.int .u8 n580)])) ∧
 (X.Kept L568 w567 w570) ∧
 (X.FactsW x2 w570 (L568)) ∧
 ∀ w581 : World, ∀ L582 : List Nat, (X.Hid (L568) w570 w581) →
 (X.NewL (w).heap.size (L568) w570 w581 L582) →
 (([(.int .u8 a_0), (.int .u16 a_1), (.int .u32 a_2), (.int .u8 a_3), (.int .u8 a_4), (.int .u8 a_5), (.int .u8 a_6), (.int .u8 a_7), (.int .u8 a_8), (.int .u8 a_9)] : List Value) = [(.int .u8 a_0), (.int .u16 a_1), (.int .u32 a_2), (.int .u8 a_3), (.int .u8 a_4), (.int .u8 a_5), (.int .u8 a_6), (.int .u8 a_7), (.int .u8 a_8), (.int .u8 a_9)]) ∧
 (([(.int .u8 b_0), (.int .u16 b_1), (.int .u32 b_2), (.int .u8 b_3), (.int .u8 b_4), (.int .u8 b_5), (.int .u8 b_6), (.int .u8 b_7), (.int .u8 b_8), (.int .u8 b_9)] : List Value) = [(.int .u8 b_0), (.int .u16 b_1), (.int .u32 b_2), (.int .u8 b_3), (.int .u8 b_4), (.int .u8 b_5), (.int .u8 b_6), (.int .u8 b_7), (.int .u8 b_8), (.int .u8 b_9)]) ∧
 (([(.int .u8 c_0), (.int .u16 c_1), (.int .u32 c_2), (.int .u8 c_3), (.int .u8 c_4), (.int .u8 c_5), (.int .u8 c_6), (.int .u8 c_7), (.int .u8 c_8), (.int .u8 c_9)] : List Value) = [(.int .u8 c_0), (.int .u16 c_1), (.int .u32 c_2), (.int .u8 c_3), (.int .u8 c_4), (.int .u8 c_5), (.int .u8 c_6), (.int .u8 c_7), (.int .u8 c_8), (.int .u8 c_9)]) ∧
 x1 n7 n8 n9 n10 n11 n12 n13 n14 n15 n16 n541 n542 n543 n544 n545 n546 n547 n548 n549 n550 n571 n572 n573 n574 n575 n576 n577 n578 n579 n580 w581 (L582)) ∧
 ∀ w583 : World, ∀ L584 : List Nat, (X.Hid (L538) w540 w583) →
 (X.NewL (w).heap.size (L538) w540 w583 L584) →
 X.CallX Try.prog 9 #[(.agg #[(.int .u8 c_0), (.int .u16 c_1), (.int .u32 c_2), (.int .u8 c_3), (.int .u8 c_4), (.int .u8 c_5), (.int .u8 c_6), (.int .u8 c_7), (.int .u8 c_8), (.int .u8 c_9)])] w583 fun e585 w586 =>
 ∃ n587 : Int, ∃ n588 : Int, ∃ n589 : Int, ∃ n590 : Int, ∃ n591 : Int, ∃ n592 : Int, ∃ n593 : Int, ∃ n594 : Int, ∃ n595 : Int, ∃ n596 : Int, (e585 = .returned (.agg #[(.int .u8 n587), (.int .u16 n588), (.int .u32 n589), (.int .u8 n590), (.int .u8 n591), (.int .u8 n592), (.int .u8 n593), (.int .u8 n594), (.int .u8 n595), (.int .u8 n596)])) ∧
 (X.Kept L584 w583 w586) ∧
 (X.FactsW x2 w586 (L584)) ∧
 ∀ w597 : World, ∀ L598 : List Nat, (X.Hid (L584) w586 w597) →
 (X.NewL (w).heap.size (L584) w586 w597 L598) →
 (([(.int .u8 a_0), (.int .u16 a_1), (.int .u32 a_2), (.int .u8 a_3), (.int .u8 a_4), (.int .u8 a_5), (.int .u8 a_6), (.int .u8 a_7), (.int .u8 a_8), (.int .u8 a_9)] : List Value) = [(.int .u8 a_0), (.int .u16 a_1), (.int .u32 a_2), (.int .u8 a_3), (.int .u8 a_4), (.int .u8 a_5), (.int .u8 a_6), (.int .u8 a_7), (.int .u8 a_8), (.int .u8 a_9)]) ∧
 (([(.int .u8 b_0), (.int .u16 b_1), (.int .u32 b_2), (.int .u8 b_3), (.int .u8 b_4), (.int .u8 b_5), (.int .u8 b_6), (.int .u8 b_7), (.int .u8 b_8), (.int .u8 b_9)] : List Value) = [(.int .u8 b_0), (.int .u16 b_1), (.int .u32 b_2), (.int .u8 b_3), (.int .u8 b_4), (.int .u8 b_5), (.int .u8 b_6), (.int .u8 b_7), (.int .u8 b_8), (.int .u8 b_9)]) ∧
 (([(.int .u8 c_0), (.int .u16 c_1), (.int .u32 c_2), (.int .u8 c_3), (.int .u8 c_4), (.int .u8 c_5), (.int .u8 c_6), (.int .u8 c_7), (.int .u8 c_8), (.int .u8 c_9)] : List Value) = [(.int .u8 c_0), (.int .u16 c_1), (.int .u32 c_2), (.int .u8 c_3), (.int .u8 c_4), (.int .u8 c_5), (.int .u8 c_6), (.int .u8 c_7), (.int .u8 c_8), (.int .u8 c_9)]) ∧
 x1 n7 n8 n9 n10 n11 n12 n13 n14 n15 n16 n541 n542 n543 n544 n545 n546 n547 n548 n549 n550 n587 n588 n589 n590 n591 n592 n593 n594 n595 n596 w597 (L598)) ∧
 (∀ w599 : World, ∀ L600 : List Nat, (X.Hid (L538) w540 w599) →
 (X.NewL (w).heap.size (L538) w540 w599 L600) →
 X.CallX Try.prog 9 #[(.agg #[(.int .u8 c_0), (.int .u16 c_1), (.int .u32 c_2), (.int .u8 c_3), (.int .u8 c_4), (.int .u8 c_5), (.int .u8 c_6), (.int .u8 c_7), (.int .u8 c_8), (.int .u8 c_9)])] w599 fun e601 w602 =>
 ∃ n603 : Int, ∃ n604 : Int, ∃ n605 : Int, ∃ n606 : Int, ∃ n607 : Int, ∃ n608 : Int, ∃ n609 : Int, ∃ n610 : Int, ∃ n611 : Int, ∃ n612 : Int, (e601 = .returned (.agg #[(.int .u8 n603), (.int .u16 n604), (.int .u32 n605), (.int .u8 n606), (.int .u8 n607), (.int .u8 n608), (.int .u8 n609), (.int .u8 n610), (.int .u8 n611), (.int .u8 n612)])) ∧
 (X.Kept L600 w599 w602) ∧
 (X.FactsW x2 w602 (L600)) ∧
 ∀ w613 : World, ∀ L614 : List Nat, (X.Hid (L600) w602 w613) →
 (X.NewL (w).heap.size (L600) w602 w613 L614) →
 (([(.int .u8 a_0), (.int .u16 a_1), (.int .u32 a_2), (.int .u8 a_3), (.int .u8 a_4), (.int .u8 a_5), (.int .u8 a_6), (.int .u8 a_7), (.int .u8 a_8), (.int .u8 a_9)] : List Value) = [(.int .u8 a_0), (.int .u16 a_1), (.int .u32 a_2), (.int .u8 a_3), (.int .u8 a_4), (.int .u8 a_5), (.int .u8 a_6), (.int .u8 a_7), (.int .u8 a_8), (.int .u8 a_9)]) ∧
 (([(.int .u8 b_0), (.int .u16 b_1), (.int .u32 b_2), (.int .u8 b_3), (.int .u8 b_4), (.int .u8 b_5), (.int .u8 b_6), (.int .u8 b_7), (.int .u8 b_8), (.int .u8 b_9)] : List Value) = [(.int .u8 b_0), (.int .u16 b_1), (.int .u32 b_2), (.int .u8 b_3), (.int .u8 b_4), (.int .u8 b_5), (.int .u8 b_6), (.int .u8 b_7), (.int .u8 b_8), (.int .u8 b_9)]) ∧
 (([(.int .u8 c_0), (.int .u16 c_1), (.int .u32 c_2), (.int .u8 c_3), (.int .u8 c_4), (.int .u8 c_5), (.int .u8 c_6), (.int .u8 c_7), (.int .u8 c_8), (.int .u8 c_9)] : List Value) = [(.int .u8 c_0), (.int .u16 c_1), (.int .u32 c_2), (.int .u8 c_3), (.int .u8 c_4), (.int .u8 c_5), (.int .u8 c_6), (.int .u8 c_7), (.int .u8 c_8), (.int .u8 c_9)]) ∧
 x1 n7 n8 n9 n10 n11 n12 n13 n14 n15 n16 n541 n542 n543 n544 n545 n546 n547 n548 n549 n550 n603 n604 n605 n606 n607 n608 n609 n610 n611 n612 w613 (L614)) ∧
 ∀ w615 : World, ∀ L616 : List Nat, (X.Hid (L538) w540 w615) →
 (X.NewL (w).heap.size (L538) w540 w615 L616) →
 X.CallX Try.prog 9 #[(.agg #[(.int .u8 c_0), (.int .u16 c_1), (.int .u32 c_2), (.int .u8 c_3), (.int .u8 c_4), (.int .u8 c_5), (.int .u8 c_6), (.int .u8 c_7), (.int .u8 c_8), (.int .u8 c_9)])] w615 fun e617 w618 =>
 ∃ n619 : Int, ∃ n620 : Int, ∃ n621 : Int, ∃ n622 : Int, ∃ n623 : Int, ∃ n624 : Int, ∃ n625 : Int, ∃ n626 : Int, ∃ n627 : Int, ∃ n628 : Int, (e617 = .returned (.agg #[(.int .u8 n619), (.int .u16 n620), (.int .u32 n621), (.int .u8 n622), (.int .u8 n623), (.int .u8 n624), (.int .u8 n625), (.int .u8 n626), (.int .u8 n627), (.int .u8 n628)])) ∧
 (X.Kept L616 w615 w618) ∧
 (X.FactsW x2 w618 (L616)) ∧
 ∀ w629 : World, ∀ L630 : List Nat, (X.Hid (L616) w618 w629) →
 (X.NewL (w).heap.size (L616) w618 w629 L630) →
 (([(.int .u8 a_0), (.int .u16 a_1), (.int .u32 a_2), (.int .u8 a_3), (.int .u8 a_4), (.int .u8 a_5), (.int .u8 a_6), (.int .u8 a_7), (.int .u8 a_8), (.int .u8 a_9)] : List Value) = [(.int .u8 a_0), (.int .u16 a_1), (.int .u32 a_2), (.int .u8 a_3), (.int .u8 a_4), (.int .u8 a_5), (.int .u8 a_6), (.int .u8 a_7), (.int .u8 a_8), (.int .u8 a_9)]) ∧
 (([(.int .u8 b_0), (.int .u16 b_1), (.int .u32 b_2), (.int .u8 b_3), (.int .u8 b_4), (.int .u8 b_5), (.int .u8 b_6), (.int .u8 b_7), (.int .u8 b_8), (.int .u8 b_9)] : List Value) = [(.int .u8 b_0), (.int .u16 b_1), (.int .u32 b_2), (.int .u8 b_3), (.int .u8 b_4), (.int .u8 b_5), (.int .u8 b_6), (.int .u8 b_7), (.int .u8 b_8), (.int .u8 b_9)]) ∧
 (([(.int .u8 c_0), (.int .u16 c_1), (.int .u32 c_2), (.int .u8 c_3), (.int .u8 c_4), (.int .u8 c_5), (.int .u8 c_6), (.int .u8 c_7), (.int .u8 c_8), (.int .u8 c_9)] : List Value) = [(.int .u8 c_0), (.int .u16 c_1), (.int .u32 c_2), (.int .u8 c_3), (.int .u8 c_4), (.int .u8 c_5), (.int .u8 c_6), (.int .u8 c_7), (.int .u8 c_8), (.int .u8 c_9)]) ∧
 x1 n7 n8 n9 n10 n11 n12 n13 n14 n15 n16 n541 n542 n543 n544 n545 n546 n547 n548 n549 n550 n619 n620 n621 n622 n623 n624 n625 n626 n627 n628 w629 (L630)) ∧
 ((∀ w631 : World, ∀ L632 : List Nat, (X.Hid (L4) w6 w631) →
 (X.NewL (w).heap.size (L4) w6 w631 L632) →
 X.CallX Try.prog 9 #[(.agg #[(.int .u8 b_0), (.int .u16 b_1), (.int .u32 b_2), (.int .u8 b_3), (.int .u8 b_4), (.int .u8 b_5), (.int .u8 b_6), (.int .u8 b_7), (.int .u8 b_8), (.int .u8 b_9)])] w631 fun e633 w634 =>
 ∃ n635 : Int, ∃ n636 : Int, ∃ n637 : Int, ∃ n638 : Int, ∃ n639 : Int, ∃ n640 : Int, ∃ n641 : Int, ∃ n642 : Int, ∃ n643 : Int, ∃ n644 : Int, (e633 = .returned (.agg #[(.int .u8 n635), (.int .u16 n636), (.int .u32 n637), (.int .u8 n638), (.int .u8 n639), (.int .u8 n640), (.int .u8 n641), (.int .u8 n642), (.int .u8 n643), (.int .u8 n644)])) ∧
 (X.Kept L632 w631 w634) ∧
 (X.FactsW x2 w634 (L632)) ∧
 (X.CallX Try.prog 9 #[(.agg #[(.int .u8 c_0), (.int .u16 c_1), (.int .u32 c_2), (.int .u8 c_3), (.int .u8 c_4), (.int .u8 c_5), (.int .u8 c_6), (.int .u8 c_7), (.int .u8 c_8), (.int .u8 c_9)])] w634 fun e645 w646 =>
 ∃ n647 : Int, ∃ n648 : Int, ∃ n649 : Int, ∃ n650 : Int, ∃ n651 : Int, ∃ n652 : Int, ∃ n653 : Int, ∃ n654 : Int, ∃ n655 : Int, ∃ n656 : Int, (e645 = .returned (.agg #[(.int .u8 n647), (.int .u16 n648), (.int .u32 n649), (.int .u8 n650), (.int .u8 n651), (.int .u8 n652), (.int .u8 n653), (.int .u8 n654), (.int .u8 n655), (.int .u8 n656)])) ∧
 (X.Kept L632 w634 w646) ∧
 (X.FactsW x2 w646 (L632)) ∧
 ∀ w657 : World, ∀ L658 : List Nat, (X.Hid (L632) w646 w657) →
 (X.NewL (w).heap.size (L632) w646 w657 L658) →
 (([(.int .u8 a_0), (.int .u16 a_1), (.int .u32 a_2), (.int .u8 a_3), (.int .u8 a_4), (.int .u8 a_5), (.int .u8 a_6), (.int .u8 a_7), (.int .u8 a_8), (.int .u8 a_9)] : List Value) = [(.int .u8 a_0), (.int .u16 a_1), (.int .u32 a_2), (.int .u8 a_3), (.int .u8 a_4), (.int .u8 a_5), (.int .u8 a_6), (.int .u8 a_7), (.int .u8 a_8), (.int .u8 a_9)]) ∧
 (([(.int .u8 b_0), (.int .u16 b_1), (.int .u32 b_2), (.int .u8 b_3), (.int .u8 b_4), (.int .u8 b_5), (.int .u8 b_6), (.int .u8 b_7), (.int .u8 b_8), (.int .u8 b_9)] : List Value) = [(.int .u8 b_0), (.int .u16 b_1), (.int .u32 b_2), (.int .u8 b_3), (.int .u8 b_4), (.int .u8 b_5), (.int .u8 b_6), (.int .u8 b_7), (.int .u8 b_8), (.int .u8 b_9)]) ∧
 (([(.int .u8 c_0), (.int .u16 c_1), (.int .u32 c_2), (.int .u8 c_3), (.int .u8 c_4), (.int .u8 c_5), (.int .u8 c_6), (.int .u8 c_7), (.int .u8 c_8), (.int .u8 c_9)] : List Value) = [(.int .u8 c_0), (.int .u16 c_1), (.int .u32 c_2), (.int .u8 c_3), (.int .u8 c_4), (.int .u8 c_5), (.int .u8 c_6), (.int .u8 c_7), (.int .u8 c_8), (.int .u8 c_9)]) ∧
 x1 n7 n8 n9 n10 n11 n12 n13 n14 n15 n16 n635 n636 n637 n638 n639 n640 n641 n642 n643 n644 n647 n648 n649 n650 n651 n652 n653 n654 n655 n656 w657 (L658)) ∧
 ∀ w659 : World, ∀ L660 : List Nat, (X.Hid (L632) w634 w659) →
 (X.NewL (w).heap.size (L632) w634 w659 L660) →
 X.CallX Try.prog 9 #[(.agg #[(.int .u8 c_0), (.int .u16 c_1), (.int .u32 c_2), (.int .u8 c_3), (.int .u8 c_4), (.int .u8 c_5), (.int .u8 c_6), (.int .u8 c_7), (.int .u8 c_8), (.int .u8 c_9)])] w659 fun e661 w662 =>
 ∃ n663 : Int, ∃ n664 : Int, ∃ n665 : Int, ∃ n666 : Int, ∃ n667 : Int, ∃ n668 : Int, ∃ n669 : Int, ∃ n670 : Int, ∃ n671 : Int, ∃ n672 : Int, (e661 = .returned (.agg #[(.int .u8 n663), (.int .u16 n664), (.int .u32 n665), (.int .u8 n666), (.int .u8 n667), (.int .u8 n668), (.int .u8 n669), (.int .u8 n670), (.int .u8 n671), (.int .u8 n672)])) ∧
 (X.Kept L660 w659 w662) ∧
 (X.FactsW x2 w662 (L660)) ∧
 ∀ w673 : World, ∀ L674 : List Nat, (X.Hid (L660) w662 w673) →
 (X.NewL (w).heap.size (L660) w662 w673 L674) →
 (([(.int .u8 a_0), (.int .u16 a_1), (.int .u32 a_2), (.int .u8 a_3), (.int .u8 a_4), (.int .u8 a_5), (.int .u8 a_6), (.int .u8 a_7), (.int .u8 a_8), (.int .u8 a_9)] : List Value) = [(.int .u8 a_0), (.int .u16 a_1), (.int .u32 a_2), (.int .u8 a_3), (.int .u8 a_4), (.int .u8 a_5), (.int .u8 a_6), (.int .u8 a_7), (.int .u8 a_8), (.int .u8 a_9)]) ∧
 (([(.int .u8 b_0), (.int .u16 b_1), (.int .u32 b_2), (.int .u8 b_3), (.int .u8 b_4), (.int .u8 b_5), (.int .u8 b_6), (.int .u8 b_7), (.int .u8 b_8), (.int .u8 b_9)] : List Value) = [(.int .u8 b_0), (.int .u16 b_1), (.int .u32 b_2), (.int .u8 b_3), (.int .u8 b_4), (.int .u8 b_5), (.int .u8 b_6), (.int .u8 b_7), (.int .u8 b_8), (.int .u8 b_9)]) ∧
 (([(.int .u8 c_0), (.int .u16 c_1), (.int .u32 c_2), (.int .u8 c_3), (.int .u8 c_4), (.int .u8 c_5), (.int .u8 c_6), (.int .u8 c_7), (.int .u8 c_8), (.int .u8 c_9)] : List Value) = [(.int .u8 c_0), (.int .u16 c_1), (.int .u32 c_2), (.int .u8 c_3), (.int .u8 c_4), (.int .u8 c_5), (.int .u8 c_6), (.int .u8 c_7), (.int .u8 c_8), (.int .u8 c_9)]) ∧
 x1 n7 n8 n9 n10 n11 n12 n13 n14 n15 n16 n635 n636 n637 n638 n639 n640 n641 n642 n643 n644 n663 n664 n665 n666 n667 n668 n669 n670 n671 n672 w673 (L674)) ∧
 ∀ w675 : World, ∀ L676 : List Nat, (X.Hid (L4) w6 w675) →
 (X.NewL (w).heap.size (L4) w6 w675 L676) →
 X.CallX Try.prog 9 #[(.agg #[(.int .u8 b_0), (.int .u16 b_1), (.int .u32 b_2), (.int .u8 b_3), (.int .u8 b_4), (.int .u8 b_5), (.int .u8 b_6), (.int .u8 b_7), (.int .u8 b_8), (.int .u8 b_9)])] w675 fun e677 w678 =>
 ∃ n679 : Int, ∃ n680 : Int, ∃ n681 : Int, ∃ n682 : Int, ∃ n683 : Int, ∃ n684 : Int, ∃ n685 : Int, ∃ n686 : Int, ∃ n687 : Int, ∃ n688 : Int, (e677 = .returned (.agg #[(.int .u8 n679), (.int .u16 n680), (.int .u32 n681), (.int .u8 n682), (.int .u8 n683), (.int .u8 n684), (.int .u8 n685), (.int .u8 n686), (.int .u8 n687), (.int .u8 n688)])) ∧
 (X.Kept L676 w675 w678) ∧
 (X.FactsW x2 w678 (L676)) ∧
 X.CallX Try.prog 9 #[(.agg #[(.int .u8 c_0), (.int .u16 c_1), (.int .u32 c_2), (.int .u8 c_3), (.int .u8 c_4), (.int .u8 c_5), (.int .u8 c_6), (.int .u8 c_7), (.int .u8 c_8), (.int .u8 c_9)])] w678 fun e689 w690 =>
 ∃ n691 : Int, ∃ n692 : Int, ∃ n693 : Int, ∃ n694 : Int, ∃ n695 : Int, ∃ n696 : Int, ∃ n697 : Int, ∃ n698 : Int, ∃ n699 : Int, ∃ n700 : Int, (e689 = .returned (.agg #[(.int .u8 n691), (.int .u16 n692), (.int .u32 n693), (.int .u8 n694), (.int .u8 n695), (.int .u8 n696), (.int .u8 n697), (.int .u8 n698), (.int .u8 n699), (.int .u8 n700)])) ∧
 (X.Kept L676 w678 w690) ∧
 (X.FactsW x2 w690 (L676)) ∧
 ∀ w701 : World, ∀ L702 : List Nat, (X.Hid (L676) w690 w701) →
 (X.NewL (w).heap.size (L676) w690 w701 L702) →
 (([(.int .u8 a_0), (.int .u16 a_1), (.int .u32 a_2), (.int .u8 a_3), (.int .u8 a_4), (.int .u8 a_5), (.int .u8 a_6), (.int .u8 a_7), (.int .u8 a_8), (.int .u8 a_9)] : List Value) = [(.int .u8 a_0), (.int .u16 a_1), (.int .u32 a_2), (.int .u8 a_3), (.int .u8 a_4), (.int .u8 a_5), (.int .u8 a_6), (.int .u8 a_7), (.int .u8 a_8), (.int .u8 a_9)]) ∧
 (([(.int .u8 b_0), (.int .u16 b_1), (.int .u32 b_2), (.int .u8 b_3), (.int .u8 b_4), (.int .u8 b_5), (.int .u8 b_6), (.int .u8 b_7), (.int .u8 b_8), (.int .u8 b_9)] : List Value) = [(.int .u8 b_0), (.int .u16 b_1), (.int .u32 b_2), (.int .u8 b_3), (.int .u8 b_4), (.int .u8 b_5), (.int .u8 b_6), (.int .u8 b_7), (.int .u8 b_8), (.int .u8 b_9)]) ∧
 (([(.int .u8 c_0), (.int .u16 c_1), (.int .u32 c_2), (.int .u8 c_3), (.int .u8 c_4), (.int .u8 c_5), (.int .u8 c_6), (.int .u8 c_7), (.int .u8 c_8), (.int .u8 c_9)] : List Value) = [(.int .u8 c_0), (.int .u16 c_1), (.int .u32 c_2), (.int .u8 c_3), (.int .u8 c_4), (.int .u8 c_5), (.int .u8 c_6), (.int .u8 c_7), (.int .u8 c_8), (.int .u8 c_9)]) ∧
 x1 n7 n8 n9 n10 n11 n12 n13 n14 n15 n16 n679 n680 n681 n682 n683 n684 n685 n686 n687 n688 n691 n692 n693 n694 n695 n696 n697 n698 n699 n700 w701 (L702)) ∧
 (∀ w703 : World, ∀ L704 : List Nat, (X.Hid (L4) w6 w703) →
 (X.NewL (w).heap.size (L4) w6 w703 L704) →
 X.CallX Try.prog 9 #[(.agg #[(.int .u8 b_0), (.int .u16 b_1), (.int .u32 b_2), (.int .u8 b_3), (.int .u8 b_4), (.int .u8 b_5), (.int .u8 b_6), (.int .u8 b_7), (.int .u8 b_8), (.int .u8 b_9)])] w703 fun e705 w706 =>
 ∃ n707 : Int, ∃ n708 : Int, ∃ n709 : Int, ∃ n710 : Int, ∃ n711 : Int, ∃ n712 : Int, ∃ n713 : Int, ∃ n714 : Int, ∃ n715 : Int, ∃ n716 : Int, (e705 = .returned (.agg #[(.int .u8 n707), (.int .u16 n708), (.int .u32 n709), (.int .u8 n710), (.int .u8 n711), (.int .u8 n712), (.int .u8 n713), (.int .u8 n714), (.int .u8 n715), (.int .u8 n716)])) ∧
 (X.Kept L704 w703 w706) ∧
 (X.FactsW x2 w706 (L704)) ∧
 (X.CallX Try.prog 9 #[(.agg #[(.int .u8 c_0), (.int .u16 c_1), (.int .u32 c_2), (.int .u8 c_3), (.int .u8 c_4), (.int .u8 c_5), (.int .u8 c_6), (.int .u8 c_7), (.int .u8 c_8), (.int .u8 c_9)])] w706 fun e717 w718 =>
 ∃ n719 : Int, ∃ n720 : Int, ∃ n721 : Int, ∃ n722 : Int, ∃ n723 : Int, ∃ n724 : Int, ∃ n725 : Int, ∃ n726 : Int, ∃ n727 : Int, ∃ n728 : Int, (e717 = .returned (.agg #[(.int .u8 n719), (.int .u16 n720), (.int .u32 n721), (.int .u8 n722), (.int .u8 n723), (.int .u8 n724), (.int .u8 n725), (.int .u8 n726), (.int .u8 n727), (.int .u8 n728)])) ∧
 (X.Kept L704 w706 w718) ∧
 (X.FactsW x2 w718 (L704)) ∧
 ∀ w729 : World, ∀ L730 : List Nat, (X.Hid (L704) w718 w729) →
 (X.NewL (w).heap.size (L704) w718 w729 L730) →
 (([(.int .u8 a_0), (.int .u16 a_1), (.int .u32 a_2), (.int .u8 a_3), (.int .u8 a_4), (.int .u8 a_5), (.int .u8 a_6), (.int .u8 a_7), (.int .u8 a_8), (.int .u8 a_9)] : List Value) = [(.int .u8 a_0), (.int .u16 a_1), (.int .u32 a_2), (.int .u8 a_3), (.int .u8 a_4), (.int .u8 a_5), (.int .u8 a_6), (.int .u8 a_7), (.int .u8 a_8), (.int .u8 a_9)]) ∧
 (([(.int .u8 b_0), (.int .u16 b_1), (.int .u32 b_2), (.int .u8 b_3), (.int .u8 b_4), (.int .u8 b_5), (.int .u8 b_6), (.int .u8 b_7), (.int .u8 b_8), (.int .u8 b_9)] : List Value) = [(.int .u8 b_0), (.int .u16 b_1), (.int .u32 b_2), (.int .u8 b_3), (.int .u8 b_4), (.int .u8 b_5), (.int .u8 b_6), (.int .u8 b_7), (.int .u8 b_8), (.int .u8 b_9)]) ∧
 (([(.int .u8 c_0), (.int .u16 c_1), (.int .u32 c_2), (.int .u8 c_3), (.int .u8 c_4), (.int .u8 c_5), (.int .u8 c_6), (.int .u8 c_7), (.int .u8 c_8), (.int .u8 c_9)] : List Value) = [(.int .u8 c_0), (.int .u16 c_1), (.int .u32 c_2), (.int .u8 c_3), (.int .u8 c_4), (.int .u8 c_5), (.int .u8 c_6), (.int .u8 c_7), (.int .u8 c_8), (.int .u8 c_9)]) ∧
 x1 n7 n8 n9 n10 n11 n12 n13 n14 n15 n16 n707 n708 n709 n710 n711 n712 n713 n714 n715 n716 n719 n720 n721 n722 n723 n724 n725 n726 n727 n728 w729 (L730)) ∧
 ∀ w731 : World, ∀ L732 : List Nat, (X.Hid (L704) w706 w731) →
 (X.NewL (w).heap.size (L704) w706 w731 L732) →
 X.CallX Try.prog 9 #[(.agg #[(.int .u8 c_0), (.int .u16 c_1), (.int .u32 c_2), (.int .u8 c_3), (.int .u8 c_4), (.int .u8 c_5), (.int .u8 c_6), (.int .u8 c_7), (.int .u8 c_8), (.int .u8 c_9)])] w731 fun e733 w734 =>
 ∃ n735 : Int, ∃ n736 : Int, ∃ n737 : Int, ∃ n738 : Int, ∃ n739 : Int, ∃ n740 : Int, ∃ n741 : Int, ∃ n742 : Int, ∃ n743 : Int, ∃ n744 : Int, (e733 = .returned (.agg #[(.int .u8 n735), (.int .u16 n736), (.int .u32 n737), (.int .u8 n738), (.int .u8 n739), (.int .u8 n740), (.int .u8 n741), (.int .u8 n742), (.int .u8 n743), (.int .u8 n744)])) ∧
 (X.Kept L732 w731 w734) ∧
 (X.FactsW x2 w734 (L732)) ∧
 ∀ w745 : World, ∀ L746 : List Nat, (X.Hid (L732) w734 w745) →
 (X.NewL (w).heap.size (L732) w734 w745 L746) →
 (([(.int .u8 a_0), (.int .u16 a_1), (.int .u32 a_2), (.int .u8 a_3), (.int .u8 a_4), (.int .u8 a_5), (.int .u8 a_6), (.int .u8 a_7), (.int .u8 a_8), (.int .u8 a_9)] : List Value) = [(.int .u8 a_0), (.int .u16 a_1), (.int .u32 a_2), (.int .u8 a_3), (.int .u8 a_4), (.int .u8 a_5), (.int .u8 a_6), (.int .u8 a_7), (.int .u8 a_8), (.int .u8 a_9)]) ∧
 (([(.int .u8 b_0), (.int .u16 b_1), (.int .u32 b_2), (.int .u8 b_3), (.int .u8 b_4), (.int .u8 b_5), (.int .u8 b_6), (.int .u8 b_7), (.int .u8 b_8), (.int .u8 b_9)] : List Value) = [(.int .u8 b_0), (.int .u16 b_1), (.int .u32 b_2), (.int .u8 b_3), (.int .u8 b_4), (.int .u8 b_5), (.int .u8 b_6), (.int .u8 b_7), (.int .u8 b_8), (.int .u8 b_9)]) ∧
 (([(.int .u8 c_0), (.int .u16 c_1), (.int .u32 c_2), (.int .u8 c_3), (.int .u8 c_4), (.int .u8 c_5), (.int .u8 c_6), (.int .u8 c_7), (.int .u8 c_8), (.int .u8 c_9)] : List Value) = [(.int .u8 c_0), (.int .u16 c_1), (.int .u32 c_2), (.int .u8 c_3), (.int .u8 c_4), (.int .u8 c_5), (.int .u8 c_6), (.int .u8 c_7), (.int .u8 c_8), (.int .u8 c_9)]) ∧
 x1 n7 n8 n9 n10 n11 n12 n13 n14 n15 n16 n707 n708 n709 n710 n711 n712 n713 n714 n715 n716 n735 n736 n737 n738 n739 n740 n741 n742 n743 n744 w745 (L746)) ∧
 ∀ w747 : World, ∀ L748 : List Nat, (X.Hid (L4) w6 w747) →
 (X.NewL (w).heap.size (L4) w6 w747 L748) →
 X.CallX Try.prog 9 #[(.agg #[(.int .u8 b_0), (.int .u16 b_1), (.int .u32 b_2), (.int .u8 b_3), (.int .u8 b_4), (.int .u8 b_5), (.int .u8 b_6), (.int .u8 b_7), (.int .u8 b_8), (.int .u8 b_9)])] w747 fun e749 w750 =>
 ∃ n751 : Int, ∃ n752 : Int, ∃ n753 : Int, ∃ n754 : Int, ∃ n755 : Int, ∃ n756 : Int, ∃ n757 : Int, ∃ n758 : Int, ∃ n759 : Int, ∃ n760 : Int, (e749 = .returned (.agg #[(.int .u8 n751), (.int .u16 n752), (.int .u32 n753), (.int .u8 n754), (.int .u8 n755), (.int .u8 n756), (.int .u8 n757), (.int .u8 n758), (.int .u8 n759), (.int .u8 n760)])) ∧
 (X.Kept L748 w747 w750) ∧
 (X.FactsW x2 w750 (L748)) ∧
 X.CallX Try.prog 9 #[(.agg #[(.int .u8 c_0), (.int .u16 c_1), (.int .u32 c_2), (.int .u8 c_3), (.int .u8 c_4), (.int .u8 c_5), (.int .u8 c_6), (.int .u8 c_7), (.int .u8 c_8), (.int .u8 c_9)])] w750 fun e761 w762 =>
 ∃ n763 : Int, ∃ n764 : Int, ∃ n765 : Int, ∃ n766 : Int, ∃ n767 : Int, ∃ n768 : Int, ∃ n769 : Int, ∃ n770 : Int, ∃ n771 : Int, ∃ n772 : Int, (e761 = .returned (.agg #[(.int .u8 n763), (.int .u16 n764), (.int .u32 n765), (.int .u8 n766), (.int .u8 n767), (.int .u8 n768), (.int .u8 n769), (.int .u8 n770), (.int .u8 n771), (.int .u8 n772)])) ∧
 (X.Kept L748 w750 w762) ∧
 (X.FactsW x2 w762 (L748)) ∧
 ∀ w773 : World, ∀ L774 : List Nat, (X.Hid (L748) w762 w773) →
 (X.NewL (w).heap.size (L748) w762 w773 L774) →
 (([(.int .u8 a_0), (.int .u16 a_1), (.int .u32 a_2), (.int .u8 a_3), (.int .u8 a_4), (.int .u8 a_5), (.int .u8 a_6), (.int .u8 a_7), (.int .u8 a_8), (.int .u8 a_9)] : List Value) = [(.int .u8 a_0), (.int .u16 a_1), (.int .u32 a_2), (.int .u8 a_3), (.int .u8 a_4), (.int .u8 a_5), (.int .u8 a_6), (.int .u8 a_7), (.int .u8 a_8), (.int .u8 a_9)]) ∧
 (([(.int .u8 b_0), (.int .u16 b_1), (.int .u32 b_2), (.int .u8 b_3), (.int .u8 b_4), (.int .u8 b_5), (.int .u8 b_6), (.int .u8 b_7), (.int .u8 b_8), (.int .u8 b_9)] : List Value) = [(.int .u8 b_0), (.int .u16 b_1), (.int .u32 b_2), (.int .u8 b_3), (.int .u8 b_4), (.int .u8 b_5), (.int .u8 b_6), (.int .u8 b_7), (.int .u8 b_8), (.int .u8 b_9)]) ∧
 (([(.int .u8 c_0), (.int .u16 c_1), (.int .u32 c_2), (.int .u8 c_3), (.int .u8 c_4), (.int .u8 c_5), (.int .u8 c_6), (.int .u8 c_7), (.int .u8 c_8), (.int .u8 c_9)] : List Value) = [(.int .u8 c_0), (.int .u16 c_1), (.int .u32 c_2), (.int .u8 c_3), (.int .u8 c_4), (.int .u8 c_5), (.int .u8 c_6), (.int .u8 c_7), (.int .u8 c_8), (.int .u8 c_9)]) ∧
 x1 n7 n8 n9 n10 n11 n12 n13 n14 n15 n16 n751 n752 n753 n754 n755 n756 n757 n758 n759 n760 n763 n764 n765 n766 n767 n768 n769 n770 n771 n772 w773 (L774)) ∧
 (∀ w775 : World, ∀ L776 : List Nat, (X.Hid (L4) w6 w775) →
 (X.NewL (w).heap.size (L4) w6 w775 L776) →
 X.CallX Try.prog 9 #[(.agg #[(.int .u8 b_0), (.int .u16 b_1), (.int .u32 b_2), (.int .u8 b_3), (.int .u8 b_4), (.int .u8 b_5), (.int .u8 b_6), (.int .u8 b_7), (.int .u8 b_8), (.int .u8 b_9)])] w775 fun e777 w778 =>
 ∃ n779 : Int, ∃ n780 : Int, ∃ n781 : Int, ∃ n782 : Int, ∃ n783 : Int, ∃ n784 : Int, ∃ n785 : Int, ∃ n786 : Int, ∃ n787 : Int, ∃ n788 : Int, (e777 = .returned (.agg #[(.int .u8 n779), (.int .u16 n780), (.int .u32 n781), (.int .u8 n782), (.int .u8 n783), (.int .u8 n784), (.int .u8 n785), (.int .u8 n786), (.int .u8 n787), (.int .u8 n788)])) ∧
 (X.Kept L776 w775 w778) ∧
 (X.FactsW x2 w778 (L776)) ∧
 (X.CallX Try.prog 9 #[(.agg #[(.int .u8 c_0), (.int .u16 c_1), (.int .u32 c_2), (.int .u8 c_3), (.int .u8 c_4), (.int .u8 c_5), (.int .u8 c_6), (.int .u8 c_7), (.int .u8 c_8), (.int .u8 c_9)])] w778 fun e789 w790 =>
 ∃ n791 : Int, ∃ n792 : Int, ∃ n793 : Int, ∃ n794 : Int, ∃ n795 : Int, ∃ n796 : Int, ∃ n797 : Int, ∃ n798 : Int, ∃ n799 : Int, ∃ n800 : Int, (e789 = .returned (.agg #[(.int .u8 n791), (.int .u16 n792), (.int .u32 n793), (.int .u8 n794), (.int .u8 n795), (.int .u8 n796), (.int .u8 n797), (.int .u8 n798), (.int .u8 n799), (.int .u8 n800)])) ∧
 (X.Kept L776 w778 w790) ∧
 (X.FactsW x2 w790 (L776)) ∧
 (∀ w801 : World, ∀ L802 : List Nat, (X.Hid (L776) w790 w801) →
 (X.NewL (w).heap.size (L776) w790 w801 L802) →
 (([(.int .u8 a_0), (.int .u16 a_1), (.int .u32 a_2), (.int .u8 a_3), (.int .u8 a_4), (.int .u8 a_5), (.int .u8 a_6), (.int .u8 a_7), (.int .u8 a_8), (.int .u8 a_9)] : List Value) = [(.int .u8 a_0), (.int .u16 a_1), (.int .u32 a_2), (.int .u8 a_3), (.int .u8 a_4), (.int .u8 a_5), (.int .u8 a_6), (.int .u8 a_7), (.int .u8 a_8), (.int .u8 a_9)]) ∧
 (([(.int .u8 b_0), (.int .u16 b_1), (.int .u32 b_2), (.int .u8 b_3), (.int .u8 b_4), (.int .u8 b_5), (.int .u8 b_6), (.int .u8 b_7), (.int .u8 b_8), (.int .u8 b_9)] : List Value) = [(.int .u8 b_0), (.int .u16 b_1), (.int .u32 b_2), (.int .u8 b_3), (.int .u8 b_4), (.int .u8 b_5), (.int .u8 b_6), (.int .u8 b_7), (.int .u8 b_8), (.int .u8 b_9)]) ∧
 (([(.int .u8 c_0), (.int .u16 c_1), (.int .u32 c_2), (.int .u8 c_3), (.int .u8 c_4), (.int .u8 c_5), (.int .u8 c_6), (.int .u8 c_7), (.int .u8 c_8), (.int .u8 c_9)] : List Value) = [(.int .u8 c_0), (.int .u16 c_1), (.int .u32 c_2), (.int .u8 c_3), (.int .u8 c_4), (.int .u8 c_5), (.int .u8 c_6), (.int .u8 c_7), (.int .u8 c_8), (.int .u8 c_9)]) ∧
 x1 n7 n8 n9 n10 n11 n12 n13 n14 n15 n16 n779 n780 n781 n782 n783 n784 n785 n786 n787 n788 n791 n792 n793 n794 n795 n796 n797 n798 n799 n800 w801 (L802)) ∧
 ∀ w803 : World, ∀ L804 : List Nat, (X.Hid (L776) w790 w803) →
 (X.NewL (w).heap.size (L776) w790 w803 L804) →
 (([(.int .u8 a_0), (.int .u16 a_1), (.int .u32 a_2), (.int .u8 a_3), (.int .u8 a_4), (.int .u8 a_5), (.int .u8 a_6), (.int .u8 a_7), (.int .u8 a_8), (.int .u8 a_9)] : List Value) = [(.int .u8 a_0), (.int .u16 a_1), (.int .u32 a_2), (.int .u8 a_3), (.int .u8 a_4), (.int .u8 a_5), (.int .u8 a_6), (.int .u8 a_7), (.int .u8 a_8), (.int .u8 a_9)]) ∧
 (([(.int .u8 b_0), (.int .u16 b_1), (.int .u32 b_2), (.int .u8 b_3), (.int .u8 b_4), (.int .u8 b_5), (.int .u8 b_6), (.int .u8 b_7), (.int .u8 b_8), (.int .u8 b_9)] : List Value) = [(.int .u8 b_0), (.int .u16 b_1), (.int .u32 b_2), (.int .u8 b_3), (.int .u8 b_4), (.int .u8 b_5), (.int .u8 b_6), (.int .u8 b_7), (.int .u8 b_8), (.int .u8 b_9)]) ∧
 (([(.int .u8 c_0), (.int .u16 c_1), (.int .u32 c_2), (.int .u8 c_3), (.int .u8 c_4), (.int .u8 c_5), (.int .u8 c_6), (.int .u8 c_7), (.int .u8 c_8), (.int .u8 c_9)] : List Value) = [(.int .u8 c_0), (.int .u16 c_1), (.int .u32 c_2), (.int .u8 c_3), (.int .u8 c_4), (.int .u8 c_5), (.int .u8 c_6), (.int .u8 c_7), (.int .u8 c_8), (.int .u8 c_9)]) ∧
 x1 n7 n8 n9 n10 n11 n12 n13 n14 n15 n16 n779 n780 n781 n782 n783 n784 n785 n786 n787 n788 n791 n792 n793 n794 n795 n796 n797 n798 n799 n800 w803 (L804)) ∧
 ((∀ w805 : World, ∀ L806 : List Nat, (X.Hid (L776) w778 w805) →
 (X.NewL (w).heap.size (L776) w778 w805 L806) →
 X.CallX Try.prog 9 #[(.agg #[(.int .u8 c_0), (.int .u16 c_1), (.int .u32 c_2), (.int .u8 c_3), (.int .u8 c_4), (.int .u8 c_5), (.int .u8 c_6), (.int .u8 c_7), (.int .u8 c_8), (.int .u8 c_9)])] w805 fun e807 w808 =>
 ∃ n809 : Int, ∃ n810 : Int, ∃ n811 : Int, ∃ n812 : Int, ∃ n813 : Int, ∃ n814 : Int, ∃ n815 : Int, ∃ n816 : Int, ∃ n817 : Int, ∃ n818 : Int, (e807 = .returned (.agg #[(.int .u8 n809), (.int .u16 n810), (.int .u32 n811), (.int .u8 n812), (.int .u8 n813), (.int .u8 n814), (.int .u8 n815), (.int .u8 n816), (.int .u8 n817), (.int .u8 n818)])) ∧
 (X.Kept L806 w805 w808) ∧
 (X.FactsW x2 w808 (L806)) ∧
 ∀ w819 : World, ∀ L820 : List Nat, (X.Hid (L806) w808 w819) →
 (X.NewL (w).heap.size (L806) w808 w819 L820) →
 (([(.int .u8 a_0), (.int .u16 a_1), (.int .u32 a_2), (.int .u8 a_3), (.int .u8 a_4), (.int .u8 a_5), (.int .u8 a_6), (.int .u8 a_7), (.int .u8 a_8), (.int .u8 a_9)] : List Value) = [(.int .u8 a_0), (.int .u16 a_1), (.int .u32 a_2), (.int .u8 a_3), (.int .u8 a_4), (.int .u8 a_5), (.int .u8 a_6), (.int .u8 a_7), (.int .u8 a_8), (.int .u8 a_9)]) ∧
 (([(.int .u8 b_0), (.int .u16 b_1), (.int .u32 b_2), (.int .u8 b_3), (.int .u8 b_4), (.int .u8 b_5), (.int .u8 b_6), (.int .u8 b_7), (.int .u8 b_8), (.int .u8 b_9)] : List Value) = [(.int .u8 b_0), (.int .u16 b_1), (.int .u32 b_2), (.int .u8 b_3), (.int .u8 b_4), (.int .u8 b_5), (.int .u8 b_6), (.int .u8 b_7), (.int .u8 b_8), (.int .u8 b_9)]) ∧
 (([(.int .u8 c_0), (.int .u16 c_1), (.int .u32 c_2), (.int .u8 c_3), (.int .u8 c_4), (.int .u8 c_5), (.int .u8 c_6), (.int .u8 c_7), (.int .u8 c_8), (.int .u8 c_9)] : List Value) = [(.int .u8 c_0), (.int .u16 c_1), (.int .u32 c_2), (.int .u8 c_3), (.int .u8 c_4), (.int .u8 c_5), (.int .u8 c_6), (.int .u8 c_7), (.int .u8 c_8), (.int .u8 c_9)]) ∧
 x1 n7 n8 n9 n10 n11 n12 n13 n14 n15 n16 n779 n780 n781 n782 n783 n784 n785 n786 n787 n788 n809 n810 n811 n812 n813 n814 n815 n816 n817 n818 w819 (L820)) ∧
 ∀ w821 : World, ∀ L822 : List Nat, (X.Hid (L776) w778 w821) →
 (X.NewL (w).heap.size (L776) w778 w821 L822) →
 X.CallX Try.prog 9 #[(.agg #[(.int .u8 c_0), (.int .u16 c_1), (.int .u32 c_2), (.int .u8 c_3), (.int .u8 c_4), (.int .u8 c_5), (.int .u8 c_6), (.int .u8 c_7), (.int .u8 c_8), (.int .u8 c_9)])] w821 fun e823 w824 =>
 ∃ n825 : Int, ∃ n826 : Int, ∃ n827 : Int, ∃ n828 : Int, ∃ n829 : Int, ∃ n830 : Int, ∃ n831 : Int, ∃ n832 : Int, ∃ n833 : Int, ∃ n834 : Int, (e823 = .returned (.agg #[(.int .u8 n825), (.int .u16 n826), (.int .u32 n827), (.int .u8 n828), (.int .u8 n829), (.int .u8 n830), (.int .u8 n831), (.int .u8 n832), (.int .u8 n833), (.int .u8 n834)])) ∧
 (X.Kept L822 w821 w824) ∧
 (X.FactsW x2 w824 (L822)) ∧
 ∀ w835 : World, ∀ L836 : List Nat, (X.Hid (L822) w824 w835) →
 (X.NewL (w).heap.size (L822) w824 w835 L836) →
 (([(.int .u8 a_0), (.int .u16 a_1), (.int .u32 a_2), (.int .u8 a_3), (.int .u8 a_4), (.int .u8 a_5), (.int .u8 a_6), (.int .u8 a_7), (.int .u8 a_8), (.int .u8 a_9)] : List Value) = [(.int .u8 a_0), (.int .u16 a_1), (.int .u32 a_2), (.int .u8 a_3), (.int .u8 a_4), (.int .u8 a_5), (.int .u8 a_6), (.int .u8 a_7), (.int .u8 a_8), (.int .u8 a_9)]) ∧
 (([(.int .u8 b_0), (.int .u16 b_1), (.int .u32 b_2), (.int .u8 b_3), (.int .u8 b_4), (.int .u8 b_5), (.int .u8 b_6), (.int .u8 b_7), (.int .u8 b_8), (.int .u8 b_9)] : List Value) = [(.int .u8 b_0), (.int .u16 b_1), (.int .u32 b_2), (.int .u8 b_3), (.int .u8 b_4), (.int .u8 b_5), (.int .u8 b_6), (.int .u8 b_7), (.int .u8 b_8), (.int .u8 b_9)]) ∧
 (([(.int .u8 c_0), (.int .u16 c_1), (.int .u32 c_2), (.int .u8 c_3), (.int .u8 c_4), (.int .u8 c_5), (.int .u8 c_6), (.int .u8 c_7), (.int .u8 c_8), (.int .u8 c_9)] : List Value) = [(.int .u8 c_0), (.int .u16 c_1), (.int .u32 c_2), (.int .u8 c_3), (.int .u8 c_4), (.int .u8 c_5), (.int .u8 c_6), (.int .u8 c_7), (.int .u8 c_8), (.int .u8 c_9)]) ∧
 x1 n7 n8 n9 n10 n11 n12 n13 n14 n15 n16 n779 n780 n781 n782 n783 n784 n785 n786 n787 n788 n825 n826 n827 n828 n829 n830 n831 n832 n833 n834 w835 (L836)) ∧
 (∀ w837 : World, ∀ L838 : List Nat, (X.Hid (L776) w778 w837) →
 (X.NewL (w).heap.size (L776) w778 w837 L838) →
 X.CallX Try.prog 9 #[(.agg #[(.int .u8 c_0), (.int .u16 c_1), (.int .u32 c_2), (.int .u8 c_3), (.int .u8 c_4), (.int .u8 c_5), (.int .u8 c_6), (.int .u8 c_7), (.int .u8 c_8), (.int .u8 c_9)])] w837 fun e839 w840 =>
 ∃ n841 : Int, ∃ n842 : Int, ∃ n843 : Int, ∃ n844 : Int, ∃ n845 : Int, ∃ n846 : Int, ∃ n847 : Int, ∃ n848 : Int, ∃ n849 : Int, ∃ n850 : Int, (e839 = .returned (.agg #[(.int .u8 n841), (.int .u16 n842), (.int .u32 n843), (.int .u8 n844), (.int .u8 n845), (.int .u8 n846), (.int .u8 n847), (.int .u8 n848), (.int .u8 n849), (.int .u8 n850)])) ∧
 (X.Kept L838 w837 w840) ∧
 (X.FactsW x2 w840 (L838)) ∧
 ∀ w851 : World, ∀ L852 : List Nat, (X.Hid (L838) w840 w851) →
 (X.NewL (w).heap.size (L838) w840 w851 L852) →
 (([(.int .u8 a_0), (.int .u16 a_1), (.int .u32 a_2), (.int .u8 a_3), (.int .u8 a_4), (.int .u8 a_5), (.int .u8 a_6), (.int .u8 a_7), (.int .u8 a_8), (.int .u8 a_9)] : List Value) = [(.int .u8 a_0), (.int .u16 a_1), (.int .u32 a_2), (.int .u8 a_3), (.int .u8 a_4), (.int .u8 a_5), (.int .u8 a_6), (.int .u8 a_7), (.int .u8 a_8), (.int .u8 a_9)]) ∧
 (([(.int .u8 b_0), (.int .u16 b_1), (.int .u32 b_2), (.int .u8 b_3), (.int .u8 b_4), (.int .u8 b_5), (.int .u8 b_6), (.int .u8 b_7), (.int .u8 b_8), (.int .u8 b_9)] : List Value) = [(.int .u8 b_0), (.int .u16 b_1), (.int .u32 b_2), (.int .u8 b_3), (.int .u8 b_4), (.int .u8 b_5), (.int .u8 b_6), (.int .u8 b_7), (.int .u8 b_8), (.int .u8 b_9)]) ∧
 (([(.int .u8 c_0), (.int .u16 c_1), (.int .u32 c_2), (.int .u8 c_3), (.int .u8 c_4), (.int .u8 c_5), (.int .u8 c_6), (.int .u8 c_7), (.int .u8 c_8), (.int .u8 c_9)] : List Value) = [(.int .u8 c_0), (.int .u16 c_1), (.int .u32 c_2), (.int .u8 c_3), (.int .u8 c_4), (.int .u8 c_5), (.int .u8 c_6), (.int .u8 c_7), (.int .u8 c_8), (.int .u8 c_9)]) ∧
 x1 n7 n8 n9 n10 n11 n12 n13 n14 n15 n16 n779 n780 n781 n782 n783 n784 n785 n786 n787 n788 n841 n842 n843 n844 n845 n846 n847 n848 n849 n850 w851 (L852)) ∧
 ∀ w853 : World, ∀ L854 : List Nat, (X.Hid (L776) w778 w853) →
 (X.NewL (w).heap.size (L776) w778 w853 L854) →
 X.CallX Try.prog 9 #[(.agg #[(.int .u8 c_0), (.int .u16 c_1), (.int .u32 c_2), (.int .u8 c_3), (.int .u8 c_4), (.int .u8 c_5), (.int .u8 c_6), (.int .u8 c_7), (.int .u8 c_8), (.int .u8 c_9)])] w853 fun e855 w856 =>
 ∃ n857 : Int, ∃ n858 : Int, ∃ n859 : Int, ∃ n860 : Int, ∃ n861 : Int, ∃ n862 : Int, ∃ n863 : Int, ∃ n864 : Int, ∃ n865 : Int, ∃ n866 : Int, (e855 = .returned (.agg #[(.int .u8 n857), (.int .u16 n858), (.int .u32 n859), (.int .u8 n860), (.int .u8 n861), (.int .u8 n862), (.int .u8 n863), (.int .u8 n864), (.int .u8 n865), (.int .u8 n866)])) ∧
 (X.Kept L854 w853 w856) ∧
 (X.FactsW x2 w856 (L854)) ∧
 ∀ w867 : World, ∀ L868 : List Nat, (X.Hid (L854) w856 w867) →
 (X.NewL (w).heap.size (L854) w856 w867 L868) →
 (([(.int .u8 a_0), (.int .u16 a_1), (.int .u32 a_2), (.int .u8 a_3), (.int .u8 a_4), (.int .u8 a_5), (.int .u8 a_6), (.int .u8 a_7), (.int .u8 a_8), (.int .u8 a_9)] : List Value) = [(.int .u8 a_0), (.int .u16 a_1), (.int .u32 a_2), (.int .u8 a_3), (.int .u8 a_4), (.int .u8 a_5), (.int .u8 a_6), (.int .u8 a_7), (.int .u8 a_8), (.int .u8 a_9)]) ∧
 (([(.int .u8 b_0), (.int .u16 b_1), (.int .u32 b_2), (.int .u8 b_3), (.int .u8 b_4), (.int .u8 b_5), (.int .u8 b_6), (.int .u8 b_7), (.int .u8 b_8), (.int .u8 b_9)] : List Value) = [(.int .u8 b_0), (.int .u16 b_1), (.int .u32 b_2), (.int .u8 b_3), (.int .u8 b_4), (.int .u8 b_5), (.int .u8 b_6), (.int .u8 b_7), (.int .u8 b_8), (.int .u8 b_9)]) ∧
 (([(.int .u8 c_0), (.int .u16 c_1), (.int .u32 c_2), (.int .u8 c_3), (.int .u8 c_4), (.int .u8 c_5), (.int .u8 c_6), (.int .u8 c_7), (.int .u8 c_8), (.int .u8 c_9)] : List Value) = [(.int .u8 c_0), (.int .u16 c_1), (.int .u32 c_2), (.int .u8 c_3), (.int .u8 c_4), (.int .u8 c_5), (.int .u8 c_6), (.int .u8 c_7), (.int .u8 c_8), (.int .u8 c_9)]) ∧
 x1 n7 n8 n9 n10 n11 n12 n13 n14 n15 n16 n779 n780 n781 n782 n783 n784 n785 n786 n787 n788 n857 n858 n859 n860 n861 n862 n863 n864 n865 n866 w867 (L868)) ∧
 ((∀ w869 : World, ∀ L870 : List Nat, (X.Hid (L4) w6 w869) →
 (X.NewL (w).heap.size (L4) w6 w869 L870) →
 X.CallX Try.prog 9 #[(.agg #[(.int .u8 b_0), (.int .u16 b_1), (.int .u32 b_2), (.int .u8 b_3), (.int .u8 b_4), (.int .u8 b_5), (.int .u8 b_6), (.int .u8 b_7), (.int .u8 b_8), (.int .u8 b_9)])] w869 fun e871 w872 =>
 ∃ n873 : Int, ∃ n874 : Int, ∃ n875 : Int, ∃ n876 : Int, ∃ n877 : Int, ∃ n878 : Int, ∃ n879 : Int, ∃ n880 : Int, ∃ n881 : Int, ∃ n882 : Int, (e871 = .returned (.agg #[(.int .u8 n873), (.int .u16 n874), (.int .u32 n875), (.int .u8 n876), (.int .u8 n877), (.int .u8 n878), (.int .u8 n879), (.int .u8 n880), (.int .u8 n881), (.int .u8 n882)])) ∧
 (X.Kept L870 w869 w872) ∧
 (X.FactsW x2 w872 (L870)) ∧
 (X.CallX Try.prog 9 #[(.agg #[(.int .u8 c_0), (.int .u16 c_1), (.int .u32 c_2), (.int .u8 c_3), (.int .u8 c_4), (.int .u8 c_5), (.int .u8 c_6), (.int .u8 c_7), (.int .u8 c_8), (.int .u8 c_9)])] w872 fun e883 w884 =>
 ∃ n885 : Int, ∃ n886 : Int, ∃ n887 : Int, ∃ n888 : Int, ∃ n889 : Int, ∃ n890 : Int, ∃ n891 : Int, ∃ n892 : Int, ∃ n893 : Int, ∃ n894 : Int, (e883 = .returned (.agg #[(.int .u8 n885), (.int .u16 n886), (.int .u32 n887), (.int .u8 n888), (.int .u8 n889), (.int .u8 n890), (.int .u8 n891), (.int .u8 n892), (.int .u8 n893), (.int .u8 n894)])) ∧
 (X.Kept L870 w872 w884) ∧
 (X.FactsW x2 w884 (L870)) ∧
 ∀ w895 : World, ∀ L896 : List Nat, (X.Hid (L870) w884 w895) →
 (X.NewL (w).heap.size (L870) w884 w895 L896) →
 (([(.int .u8 a_0), (.int .u16 a_1), (.int .u32 a_2), (.int .u8 a_3), (.int .u8 a_4), (.int .u8 a_5), (.int .u8 a_6), (.int .u8 a_7), (.int .u8 a_8), (.int .u8 a_9)] : List Value) = [(.int .u8 a_0), (.int .u16 a_1), (.int .u32 a_2), (.int .u8 a_3), (.int .u8 a_4), (.int .u8 a_5), (.int .u8 a_6), (.int .u8 a_7), (.int .u8 a_8), (.int .u8 a_9)]) ∧
 (([(.int .u8 b_0), (.int .u16 b_1), (.int .u32 b_2), (.int .u8 b_3), (.int .u8 b_4), (.int .u8 b_5), (.int .u8 b_6), (.int .u8 b_7), (.int .u8 b_8), (.int .u8 b_9)] : List Value) = [(.int .u8 b_0), (.int .u16 b_1), (.int .u32 b_2), (.int .u8 b_3), (.int .u8 b_4), (.int .u8 b_5), (.int .u8 b_6), (.int .u8 b_7), (.int .u8 b_8), (.int .u8 b_9)]) ∧
 (([(.int .u8 c_0), (.int .u16 c_1), (.int .u32 c_2), (.int .u8 c_3), (.int .u8 c_4), (.int .u8 c_5), (.int .u8 c_6), (.int .u8 c_7), (.int .u8 c_8), (.int .u8 c_9)] : List Value) = [(.int .u8 c_0), (.int .u16 c_1), (.int .u32 c_2), (.int .u8 c_3), (.int .u8 c_4), (.int .u8 c_5), (.int .u8 c_6), (.int .u8 c_7), (.int .u8 c_8), (.int .u8 c_9)]) ∧
 x1 n7 n8 n9 n10 n11 n12 n13 n14 n15 n16 n873 n874 n875 n876 n877 n878 n879 n880 n881 n882 n885 n886 n887 n888 n889 n890 n891 n892 n893 n894 w895 (L896)) ∧
 ∀ w897 : World, ∀ L898 : List Nat, (X.Hid (L870) w872 w897) →
 (X.NewL (w).heap.size (L870) w872 w897 L898) →
 X.CallX Try.prog 9 #[(.agg #[(.int .u8 c_0), (.int .u16 c_1), (.int .u32 c_2), (.int .u8 c_3), (.int .u8 c_4), (.int .u8 c_5), (.int .u8 c_6), (.int .u8 c_7), (.int .u8 c_8), (.int .u8 c_9)])] w897 fun e899 w900 =>
 ∃ n901 : Int, ∃ n902 : Int, ∃ n903 : Int, ∃ n904 : Int, ∃ n905 : Int, ∃ n906 : Int, ∃ n907 : Int, ∃ n908 : Int, ∃ n909 : Int, ∃ n910 : Int, (e899 = .returned (.agg #[(.int .u8 n901), (.int .u16 n902), (.int .u32 n903), (.int .u8 n904), (.int .u8 n905), (.int .u8 n906), (.int .u8 n907), (.int .u8 n908), (.int .u8 n909), (.int .u8 n910)])) ∧
 (X.Kept L898 w897 w900) ∧
 (X.FactsW x2 w900 (L898)) ∧
 ∀ w911 : World, ∀ L912 : List Nat, (X.Hid (L898) w900 w911) →
 (X.NewL (w).heap.size (L898) w900 w911 L912) →
 (([(.int .u8 a_0), (.int .u16 a_1), (.int .u32 a_2), (.int .u8 a_3), (.int .u8 a_4), (.int .u8 a_5), (.int .u8 a_6), (.int .u8 a_7), (.int .u8 a_8), (.int .u8 a_9)] : List Value) = [(.int .u8 a_0), (.int .u16 a_1), (.int .u32 a_2), (.int .u8 a_3), (.int .u8 a_4), (.int .u8 a_5), (.int .u8 a_6), (.int .u8 a_7), (.int .u8 a_8), (.int .u8 a_9)]) ∧
 (([(.int .u8 b_0), (.int .u16 b_1), (.int .u32 b_2), (.int .u8 b_3), (.int .u8 b_4), (.int .u8 b_5), (.int .u8 b_6), (.int .u8 b_7), (.int .u8 b_8), (.int .u8 b_9)] : List Value) = [(.int .u8 b_0), (.int .u16 b_1), (.int .u32 b_2), (.int .u8 b_3), (.int .u8 b_4), (.int .u8 b_5), (.int .u8 b_6), (.int .u8 b_7), (.int .u8 b_8), (.int .u8 b_9)]) ∧
 (([(.int .u8 c_0), (.int .u16 c_1), (.int .u32 c_2), (.int .u8 c_3), (.int .u8 c_4), (.int .u8 c_5), (.int .u8 c_6), (.int .u8 c_7), (.int .u8 c_8), (.int .u8 c_9)] : List Value) = [(.int .u8 c_0), (.int .u16 c_1), (.int .u32 c_2), (.int .u8 c_3), (.int .u8 c_4), (.int .u8 c_5), (.int .u8 c_6), (.int .u8 c_7), (.int .u8 c_8), (.int .u8 c_9)]) ∧
 x1 n7 n8 n9 n10 n11 n12 n13 n14 n15 n16 n873 n874 n875 n876 n877 n878 n879 n880 n881 n882 n901 n902 n903 n904 n905 n906 n907 n908 n909 n910 w911 (L912)) ∧
 ∀ w913 : World, ∀ L914 : List Nat, (X.Hid (L4) w6 w913) →
 (X.NewL (w).heap.size (L4) w6 w913 L914) →
 X.CallX Try.prog 9 #[(.agg #[(.int .u8 b_0), (.int .u16 b_1), (.int .u32 b_2), (.int .u8 b_3), (.int .u8 b_4), (.int .u8 b_5), (.int .u8 b_6), (.int .u8 b_7), (.int .u8 b_8), (.int .u8 b_9)])] w913 fun e915 w916 =>
 ∃ n917 : Int, ∃ n918 : Int, ∃ n919 : Int, ∃ n920 : Int, ∃ n921 : Int, ∃ n922 : Int, ∃ n923 : Int, ∃ n924 : Int, ∃ n925 : Int, ∃ n926 : Int, (e915 = .returned (.agg #[(.int .u8 n917), (.int .u16 n918), (.int .u32 n919), (.int .u8 n920), (.int .u8 n921), (.int .u8 n922), (.int .u8 n923), (.int .u8 n924), (.int .u8 n925), (.int .u8 n926)])) ∧
 (X.Kept L914 w913 w916) ∧
 (X.FactsW x2 w916 (L914)) ∧
 X.CallX Try.prog 9 #[(.agg #[(.int .u8 c_0), (.int .u16 c_1), (.int .u32 c_2), (.int .u8 c_3), (.int .u8 c_4), (.int .u8 c_5), (.int .u8 c_6), (.int .u8 c_7), (.int .u8 c_8), (.int .u8 c_9)])] w916 fun e927 w928 =>
 ∃ n929 : Int, ∃ n930 : Int, ∃ n931 : Int, ∃ n932 : Int, ∃ n933 : Int, ∃ n934 : Int, ∃ n935 : Int, ∃ n936 : Int, ∃ n937 : Int, ∃ n938 : Int, (e927 = .returned (.agg #[(.int .u8 n929), (.int .u16 n930), (.int .u32 n931), (.int .u8 n932), (.int .u8 n933), (.int .u8 n934), (.int .u8 n935), (.int .u8 n936), (.int .u8 n937), (.int .u8 n938)])) ∧
 (X.Kept L914 w916 w928) ∧
 (X.FactsW x2 w928 (L914)) ∧
 ∀ w939 : World, ∀ L940 : List Nat, (X.Hid (L914) w928 w939) →
 (X.NewL (w).heap.size (L914) w928 w939 L940) →
 (([(.int .u8 a_0), (.int .u16 a_1), (.int .u32 a_2), (.int .u8 a_3), (.int .u8 a_4), (.int .u8 a_5), (.int .u8 a_6), (.int .u8 a_7), (.int .u8 a_8), (.int .u8 a_9)] : List Value) = [(.int .u8 a_0), (.int .u16 a_1), (.int .u32 a_2), (.int .u8 a_3), (.int .u8 a_4), (.int .u8 a_5), (.int .u8 a_6), (.int .u8 a_7), (.int .u8 a_8), (.int .u8 a_9)]) ∧
 (([(.int .u8 b_0), (.int .u16 b_1), (.int .u32 b_2), (.int .u8 b_3), (.int .u8 b_4), (.int .u8 b_5), (.int .u8 b_6), (.int .u8 b_7), (.int .u8 b_8), (.int .u8 b_9)] : List Value) = [(.int .u8 b_0), (.int .u16 b_1), (.int .u32 b_2), (.int .u8 b_3), (.int .u8 b_4), (.int .u8 b_5), (.int .u8 b_6), (.int .u8 b_7), (.int .u8 b_8), (.int .u8 b_9)]) ∧
 (([(.int .u8 c_0), (.int .u16 c_1), (.int .u32 c_2), (.int .u8 c_3), (.int .u8 c_4), (.int .u8 c_5), (.int .u8 c_6), (.int .u8 c_7), (.int .u8 c_8), (.int .u8 c_9)] : List Value) = [(.int .u8 c_0), (.int .u16 c_1), (.int .u32 c_2), (.int .u8 c_3), (.int .u8 c_4), (.int .u8 c_5), (.int .u8 c_6), (.int .u8 c_7), (.int .u8 c_8), (.int .u8 c_9)]) ∧
 x1 n7 n8 n9 n10 n11 n12 n13 n14 n15 n16 n917 n918 n919 n920 n921 n922 n923 n924 n925 n926 n929 n930 n931 n932 n933 n934 n935 n936 n937 n938 w939 (L940)) ∧
 (∀ w941 : World, ∀ L942 : List Nat, (X.Hid (L4) w6 w941) →
 (X.NewL (w).heap.size (L4) w6 w941 L942) →
 X.CallX Try.prog 9 #[(.agg #[(.int .u8 b_0), (.int .u16 b_1), (.int .u32 b_2), (.int .u8 b_3), (.int .u8 b_4), (.int .u8 b_5), (.int .u8 b_6), (.int .u8 b_7), (.int .u8 b_8), (.int .u8 b_9)])] w941 fun e943 w944 =>
 ∃ n945 : Int, ∃ n946 : Int, ∃ n947 : Int, ∃ n948 : Int, ∃ n949 : Int, ∃ n950 : Int, ∃ n951 : Int, ∃ n952 : Int, ∃ n953 : Int, ∃ n954 : Int, (e943 = .returned (.agg #[(.int .u8 n945), (.int .u16 n946), (.int .u32 n947), (.int .u8 n948), (.int .u8 n949), (.int .u8 n950), (.int .u8 n951), (.int .u8 n952), (.int .u8 n953), (.int .u8 n954)])) ∧
 (X.Kept L942 w941 w944) ∧
 (X.FactsW x2 w944 (L942)) ∧
 (X.CallX Try.prog 9 #[(.agg #[(.int .u8 c_0), (.int .u16 c_1), (.int .u32 c_2), (.int .u8 c_3), (.int .u8 c_4), (.int .u8 c_5), (.int .u8 c_6), (.int .u8 c_7), (.int .u8 c_8), (.int .u8 c_9)])] w944 fun e955 w956 =>
 ∃ n957 : Int, ∃ n958 : Int, ∃ n959 : Int, ∃ n960 : Int, ∃ n961 : Int, ∃ n962 : Int, ∃ n963 : Int, ∃ n964 : Int, ∃ n965 : Int, ∃ n966 : Int, (e955 = .returned (.agg #[(.int .u8 n957), (.int .u16 n958), (.int .u32 n959), (.int .u8 n960), (.int .u8 n961), (.int .u8 n962), (.int .u8 n963), (.int .u8 n964), (.int .u8 n965), (.int .u8 n966)])) ∧
 (X.Kept L942 w944 w956) ∧
 (X.FactsW x2 w956 (L942)) ∧
 ∀ w967 : World, ∀ L968 : List Nat, (X.Hid (L942) w956 w967) →
 (X.NewL (w).heap.size (L942) w956 w967 L968) →
 (([(.int .u8 a_0), (.int .u16 a_1), (.int .u32 a_2), (.int .u8 a_3), (.int .u8 a_4), (.int .u8 a_5), (.int .u8 a_6), (.int .u8 a_7), (.int .u8 a_8), (.int .u8 a_9)] : List Value) = [(.int .u8 a_0), (.int .u16 a_1), (.int .u32 a_2), (.int .u8 a_3), (.int .u8 a_4), (.int .u8 a_5), (.int .u8 a_6), (.int .u8 a_7), (.int .u8 a_8), (.int .u8 a_9)]) ∧
 (([(.int .u8 b_0), (.int .u16 b_1), (.int .u32 b_2), (.int .u8 b_3), (.int .u8 b_4), (.int .u8 b_5), (.int .u8 b_6), (.int .u8 b_7), (.int .u8 b_8), (.int .u8 b_9)] : List Value) = [(.int .u8 b_0), (.int .u16 b_1), (.int .u32 b_2), (.int .u8 b_3), (.int .u8 b_4), (.int .u8 b_5), (.int .u8 b_6), (.int .u8 b_7), (.int .u8 b_8), (.int .u8 b_9)]) ∧
 (([(.int .u8 c_0), (.int .u16 c_1), (.int .u32 c_2), (.int .u8 c_3), (.int .u8 c_4), (.int .u8 c_5), (.int .u8 c_6), (.int .u8 c_7), (.int .u8 c_8), (.int .u8 c_9)] : List Value) = [(.int .u8 c_0), (.int .u16 c_1), (.int .u32 c_2), (.int .u8 c_3), (.int .u8 c_4), (.int .u8 c_5), (.int .u8 c_6), (.int .u8 c_7), (.int .u8 c_8), (.int .u8 c_9)]) ∧
 x1 n7 n8 n9 n10 n11 n12 n13 n14 n15 n16 n945 n946 n947 n948 n949 n950 n951 n952 n953 n954 n957 n958 n959 n960 n961 n962 n963 n964 n965 n966 w967 (L968)) ∧
 ∀ w969 : World, ∀ L970 : List Nat, (X.Hid (L942) w944 w969) →
 (X.NewL (w).heap.size (L942) w944 w969 L970) →
 X.CallX Try.prog 9 #[(.agg #[(.int .u8 c_0), (.int .u16 c_1), (.int .u32 c_2), (.int .u8 c_3), (.int .u8 c_4), (.int .u8 c_5), (.int .u8 c_6), (.int .u8 c_7), (.int .u8 c_8), (.int .u8 c_9)])] w969 fun e971 w972 =>
 ∃ n973 : Int, ∃ n974 : Int, ∃ n975 : Int, ∃ n976 : Int, ∃ n977 : Int, ∃ n978 : Int, ∃ n979 : Int, ∃ n980 : Int, ∃ n981 : Int, ∃ n982 : Int, (e971 = .returned (.agg #[(.int .u8 n973), (.int .u16 n974), (.int .u32 n975), (.int .u8 n976), (.int .u8 n977), (.int .u8 n978), (.int .u8 n979), (.int .u8 n980), (.int .u8 n981), (.int .u8 n982)])) ∧
 (X.Kept L970 w969 w972) ∧
 (X.FactsW x2 w972 (L970)) ∧
 ∀ w983 : World, ∀ L984 : List Nat, (X.Hid (L970) w972 w983) →
 (X.NewL (w).heap.size (L970) w972 w983 L984) →
 (([(.int .u8 a_0), (.int .u16 a_1), (.int .u32 a_2), (.int .u8 a_3), (.int .u8 a_4), (.int .u8 a_5), (.int .u8 a_6), (.int .u8 a_7), (.int .u8 a_8), (.int .u8 a_9)] : List Value) = [(.int .u8 a_0), (.int .u16 a_1), (.int .u32 a_2), (.int .u8 a_3), (.int .u8 a_4), (.int .u8 a_5), (.int .u8 a_6), (.int .u8 a_7), (.int .u8 a_8), (.int .u8 a_9)]) ∧
 (([(.int .u8 b_0), (.int .u16 b_1), (.int .u32 b_2), (.int .u8 b_3), (.int .u8 b_4), (.int .u8 b_5), (.int .u8 b_6), (.int .u8 b_7), (.int .u8 b_8), (.int .u8 b_9)] : List Value) = [(.int .u8 b_0), (.int .u16 b_1), (.int .u32 b_2), (.int .u8 b_3), (.int .u8 b_4), (.int .u8 b_5), (.int .u8 b_6), (.int .u8 b_7), (.int .u8 b_8), (.int .u8 b_9)]) ∧
 (([(.int .u8 c_0), (.int .u16 c_1), (.int .u32 c_2), (.int .u8 c_3), (.int .u8 c_4), (.int .u8 c_5), (.int .u8 c_6), (.int .u8 c_7), (.int .u8 c_8), (.int .u8 c_9)] : List Value) = [(.int .u8 c_0), (.int .u16 c_1), (.int .u32 c_2), (.int .u8 c_3), (.int .u8 c_4), (.int .u8 c_5), (.int .u8 c_6), (.int .u8 c_7), (.int .u8 c_8), (.int .u8 c_9)]) ∧
 x1 n7 n8 n9 n10 n11 n12 n13 n14 n15 n16 n945 n946 n947 n948 n949 n950 n951 n952 n953 n954 n973 n974 n975 n976 n977 n978 n979 n980 n981 n982 w983 (L984)) ∧
 ∀ w985 : World, ∀ L986 : List Nat, (X.Hid (L4) w6 w985) →
 (X.NewL (w).heap.size (L4) w6 w985 L986) →
 X.CallX Try.prog 9 #[(.agg #[(.int .u8 b_0), (.int .u16 b_1), (.int .u32 b_2), (.int .u8 b_3), (.int .u8 b_4), (.int .u8 b_5), (.int .u8 b_6), (.int .u8 b_7), (.int .u8 b_8), (.int .u8 b_9)])] w985 fun e987 w988 =>
 ∃ n989 : Int, ∃ n990 : Int, ∃ n991 : Int, ∃ n992 : Int, ∃ n993 : Int, ∃ n994 : Int, ∃ n995 : Int, ∃ n996 : Int, ∃ n997 : Int, ∃ n998 : Int, (e987 = .returned (.agg #[(.int .u8 n989), (.int .u16 n990), (.int .u32 n991), (.int .u8 n992), (.int .u8 n993), (.int .u8 n994), (.int .u8 n995), (.int .u8 n996), (.int .u8 n997), (.int .u8 n998)])) ∧
 (X.Kept L986 w985 w988) ∧
 (X.FactsW x2 w988 (L986)) ∧
 X.CallX Try.prog 9 #[(.agg #[(.int .u8 c_0), (.int .u16 c_1), (.int .u32 c_2), (.int .u8 c_3), (.int .u8 c_4), (.int .u8 c_5), (.int .u8 c_6), (.int .u8 c_7), (.int .u8 c_8), (.int .u8 c_9)])] w988 fun e999 w1000 =>
 ∃ n1001 : Int, ∃ n1002 : Int, ∃ n1003 : Int, ∃ n1004 : Int, ∃ n1005 : Int, ∃ n1006 : Int, ∃ n1007 : Int, ∃ n1008 : Int, ∃ n1009 : Int, ∃ n1010 : Int, (e999 = .returned (.agg #[(.int .u8 n1001), (.int .u16 n1002), (.int .u32 n1003), (.int .u8 n1004), (.int .u8 n1005), (.int .u8 n1006), (.int .u8 n1007), (.int .u8 n1008), (.int .u8 n1009), (.int .u8 n1010)])) ∧
 (X.Kept L986 w988 w1000) ∧
 (X.FactsW x2 w1000 (L986)) ∧
 ∀ w1011 : World, ∀ L1012 : List Nat, (X.Hid (L986) w1000 w1011) →
 (X.NewL (w).heap.size (L986) w1000 w1011 L1012) →
 (([(.int .u8 a_0), (.int .u16 a_1), (.int .u32 a_2), (.int .u8 a_3), (.int .u8 a_4), (.int .u8 a_5), (.int .u8 a_6), (.int .u8 a_7), (.int .u8 a_8), (.int .u8 a_9)] : List Value) = [(.int .u8 a_0), (.int .u16 a_1), (.int .u32 a_2), (.int .u8 a_3), (.int .u8 a_4), (.int .u8 a_5), (.int .u8 a_6), (.int .u8 a_7), (.int .u8 a_8), (.int .u8 a_9)]) ∧
 (([(.int .u8 b_0), (.int .u16 b_1), (.int .u32 b_2), (.int .u8 b_3), (.int .u8 b_4), (.int .u8 b_5), (.int .u8 b_6), (.int .u8 b_7), (.int .u8 b_8), (.int .u8 b_9)] : List Value) = [(.int .u8 b_0), (.int .u16 b_1), (.int .u32 b_2), (.int .u8 b_3), (.int .u8 b_4), (.int .u8 b_5), (.int .u8 b_6), (.int .u8 b_7), (.int .u8 b_8), (.int .u8 b_9)]) ∧
 (([(.int .u8 c_0), (.int .u16 c_1), (.int .u32 c_2), (.int .u8 c_3), (.int .u8 c_4), (.int .u8 c_5), (.int .u8 c_6), (.int .u8 c_7), (.int .u8 c_8), (.int .u8 c_9)] : List Value) = [(.int .u8 c_0), (.int .u16 c_1), (.int .u32 c_2), (.int .u8 c_3), (.int .u8 c_4), (.int .u8 c_5), (.int .u8 c_6), (.int .u8 c_7), (.int .u8 c_8), (.int .u8 c_9)]) ∧
 x1 n7 n8 n9 n10 n11 n12 n13 n14 n15 n16 n989 n990 n991 n992 n993 n994 n995 n996 n997 n998 n1001 n1002 n1003 n1004 n1005 n1006 n1007 n1008 n1009 n1010 w1011 (L1012)) ∧
 ((∀ w1013 : World, ∀ L1014 : List Nat, (X.Hid [] w w1013) →
 (X.NewL (w).heap.size [] w w1013 L1014) →
 X.CallX Try.prog 9 #[(.agg #[(.int .u8 a_0), (.int .u16 a_1), (.int .u32 a_2), (.int .u8 a_3), (.int .u8 a_4), (.int .u8 a_5), (.int .u8 a_6), (.int .u8 a_7), (.int .u8 a_8), (.int .u8 a_9)])] w1013 fun e1015 w1016 =>
 ∃ n1017 : Int, ∃ n1018 : Int, ∃ n1019 : Int, ∃ n1020 : Int, ∃ n1021 : Int, ∃ n1022 : Int, ∃ n1023 : Int, ∃ n1024 : Int, ∃ n1025 : Int, ∃ n1026 : Int, (e1015 = .returned (.agg #[(.int .u8 n1017), (.int .u16 n1018), (.int .u32 n1019), (.int .u8 n1020), (.int .u8 n1021), (.int .u8 n1022), (.int .u8 n1023), (.int .u8 n1024), (.int .u8 n1025), (.int .u8 n1026)])) ∧
 (X.Kept L1014 w1013 w1016) ∧
 (X.FactsW x2 w1016 (L1014)) ∧
 (X.CallX Try.prog 9 #[(.agg #[(.int .u8 b_0), (.int .u16 b_1), (.int .u32 b_2), (.int .u8 b_3), (.int .u8 b_4), (.int .u8 b_5), (.int .u8 b_6), (.int .u8 b_7), (.int .u8 b_8), (.int .u8 b_9)])] w1016 fun e1027 w1028 =>
 ∃ n1029 : Int, ∃ n1030 : Int, ∃ n1031 : Int, ∃ n1032 : Int, ∃ n1033 : Int, ∃ n1034 : Int, ∃ n1035 : Int, ∃ n1036 : Int, ∃ n1037 : Int, ∃ n1038 : Int, (e1027 = .returned (.agg #[(.int .u8 n1029), (.int .u16 n1030), (.int .u32 n1031), (.int .u8 n1032), (.int .u8 n1033), (.int .u8 n1034), (.int .u8 n1035), (.int .u8 n1036), (.int .u8 n1037), (.int .u8 n1038)])) ∧
 (X.Kept L1014 w1016 w1028) ∧
 (X.FactsW x2 w1028 (L1014)) ∧
 (X.CallX Try.prog 9 #[(.agg #[(.int .u8 c_0), (.int .u16 c_1), (.int .u32 c_2), (.int .u8 c_3), (.int .u8 c_4), (.int .u8 c_5), (.int .u8 c_6), (.int .u8 c_7), (.int .u8 c_8), (.int .u8 c_9)])] w1028 fun e1039 w1040 =>
 ∃ n1041 : Int, ∃ n1042 : Int, ∃ n1043 : Int, ∃ n1044 : Int, ∃ n1045 : Int, ∃ n1046 : Int, ∃ n1047 : Int, ∃ n1048 : Int, ∃ n1049 : Int, ∃ n1050 : Int, (e1039 = .returned (.agg #[(.int .u8 n1041), (.int .u16 n1042), (.int .u32 n1043), (.int .u8 n1044), (.int .u8 n1045), (.int .u8 n1046), (.int .u8 n1047), (.int .u8 n1048), (.int .u8 n1049), (.int .u8 n1050)])) ∧
 (X.Kept L1014 w1028 w1040) ∧
 (X.FactsW x2 w1040 (L1014)) ∧
 (∀ w1051 : World, ∀ L1052 : List Nat, (X.Hid (L1014) w1040 w1051) →
 (X.NewL (w).heap.size (L1014) w1040 w1051 L1052) →
 (([(.int .u8 a_0), (.int .u16 a_1), (.int .u32 a_2), (.int .u8 a_3), (.int .u8 a_4), (.int .u8 a_5), (.int .u8 a_6), (.int .u8 a_7), (.int .u8 a_8), (.int .u8 a_9)] : List Value) = [(.int .u8 a_0), (.int .u16 a_1), (.int .u32 a_2), (.int .u8 a_3), (.int .u8 a_4), (.int .u8 a_5), (.int .u8 a_6), (.int .u8 a_7), (.int .u8 a_8), (.int .u8 a_9)]) ∧
 (([(.int .u8 b_0), (.int .u16 b_1), (.int .u32 b_2), (.int .u8 b_3), (.int .u8 b_4), (.int .u8 b_5), (.int .u8 b_6), (.int .u8 b_7), (.int .u8 b_8), (.int .u8 b_9)] : List Value) = [(.int .u8 b_0), (.int .u16 b_1), (.int .u32 b_2), (.int .u8 b_3), (.int .u8 b_4), (.int .u8 b_5), (.int .u8 b_6), (.int .u8 b_7), (.int .u8 b_8), (.int .u8 b_9)]) ∧
 (([(.int .u8 c_0), (.int .u16 c_1), (.int .u32 c_2), (.int .u8 c_3), (.int .u8 c_4), (.int .u8 c_5), (.int .u8 c_6), (.int .u8 c_7), (.int .u8 c_8), (.int .u8 c_9)] : List Value) = [(.int .u8 c_0), (.int .u16 c_1), (.int .u32 c_2), (.int .u8 c_3), (.int .u8 c_4), (.int .u8 c_5), (.int .u8 c_6), (.int .u8 c_7), (.int .u8 c_8), (.int .u8 c_9)]) ∧
 x1 n1017 n1018 n1019 n1020 n1021 n1022 n1023 n1024 n1025 n1026 n1029 n1030 n1031 n1032 n1033 n1034 n1035 n1036 n1037 n1038 n1041 n1042 n1043 n1044 n1045 n1046 n1047 n1048 n1049 n1050 w1051 (L1052)) ∧
 ∀ w1053 : World, ∀ L1054 : List Nat, (X.Hid (L1014) w1040 w1053) →
 (X.NewL (w).heap.size (L1014) w1040 w1053 L1054) →
 (([(.int .u8 a_0), (.int .u16 a_1), (.int .u32 a_2), (.int .u8 a_3), (.int .u8 a_4), (.int .u8 a_5), (.int .u8 a_6), (.int .u8 a_7), (.int .u8 a_8), (.int .u8 a_9)] : List Value) = [(.int .u8 a_0), (.int .u16 a_1), (.int .u32 a_2), (.int .u8 a_3), (.int .u8 a_4), (.int .u8 a_5), (.int .u8 a_6), (.int .u8 a_7), (.int .u8 a_8), (.int .u8 a_9)]) ∧
 (([(.int .u8 b_0), (.int .u16 b_1), (.int .u32 b_2), (.int .u8 b_3), (.int .u8 b_4), (.int .u8 b_5), (.int .u8 b_6), (.int .u8 b_7), (.int .u8 b_8), (.int .u8 b_9)] : List Value) = [(.int .u8 b_0), (.int .u16 b_1), (.int .u32 b_2), (.int .u8 b_3), (.int .u8 b_4), (.int .u8 b_5), (.int .u8 b_6), (.int .u8 b_7), (.int .u8 b_8), (.int .u8 b_9)]) ∧
 (([(.int .u8 c_0), (.int .u16 c_1), (.int .u32 c_2), (.int .u8 c_3), (.int .u8 c_4), (.int .u8 c_5), (.int .u8 c_6), (.int .u8 c_7), (.int .u8 c_8), (.int .u8 c_9)] : List Value) = [(.int .u8 c_0), (.int .u16 c_1), (.int .u32 c_2), (.int .u8 c_3), (.int .u8 c_4), (.int .u8 c_5), (.int .u8 c_6), (.int .u8 c_7), (.int .u8 c_8), (.int .u8 c_9)]) ∧
 x1 n1017 n1018 n1019 n1020 n1021 n1022 n1023 n1024 n1025 n1026 n1029 n1030 n1031 n1032 n1033 n1034 n1035 n1036 n1037 n1038 n1041 n1042 n1043 n1044 n1045 n1046 n1047 n1048 n1049 n1050 w1053 (L1054)) ∧
 ((∀ w1055 : World, ∀ L1056 : List Nat, (X.Hid (L1014) w1028 w1055) →
 (X.NewL (w).heap.size (L1014) w1028 w1055 L1056) →
 X.CallX Try.prog 9 #[(.agg #[(.int .u8 c_0), (.int .u16 c_1), (.int .u32 c_2), (.int .u8 c_3), (.int .u8 c_4), (.int .u8 c_5), (.int .u8 c_6), (.int .u8 c_7), (.int .u8 c_8), (.int .u8 c_9)])] w1055 fun e1057 w1058 =>
 ∃ n1059 : Int, ∃ n1060 : Int, ∃ n1061 : Int, ∃ n1062 : Int, ∃ n1063 : Int, ∃ n1064 : Int, ∃ n1065 : Int, ∃ n1066 : Int, ∃ n1067 : Int, ∃ n1068 : Int, (e1057 = .returned (.agg #[(.int .u8 n1059), (.int .u16 n1060), (.int .u32 n1061), (.int .u8 n1062), (.int .u8 n1063), (.int .u8 n1064), (.int .u8 n1065), (.int .u8 n1066), (.int .u8 n1067), (.int .u8 n1068)])) ∧
 (X.Kept L1056 w1055 w1058) ∧
 (X.FactsW x2 w1058 (L1056)) ∧
 ∀ w1069 : World, ∀ L1070 : List Nat, (X.Hid (L1056) w1058 w1069) →
 (X.NewL (w).heap.size (L1056) w1058 w1069 L1070) →
 (([(.int .u8 a_0), (.int .u16 a_1), (.int .u32 a_2), (.int .u8 a_3), (.int .u8 a_4), (.int .u8 a_5), (.int .u8 a_6), (.int .u8 a_7), (.int .u8 a_8), (.int .u8 a_9)] : List Value) = [(.int .u8 a_0), (.int .u16 a_1), (.int .u32 a_2), (.int .u8 a_3), (.int .u8 a_4), (.int .u8 a_5), (.int .u8 a_6), (.int .u8 a_7), (.int .u8 a_8), (.int .u8 a_9)]) ∧
 (([(.int .u8 b_0), (.int .u16 b_1), (.int .u32 b_2), (.int .u8 b_3), (.int .u8 b_4), (.int .u8 b_5), (.int .u8 b_6), (.int .u8 b_7), (.int .u8 b_8), (.int .u8 b_9)] : List Value) = [(.int .u8 b_0), (.int .u16 b_1), (.int .u32 b_2), (.int .u8 b_3), (.int .u8 b_4), (.int .u8 b_5), (.int .u8 b_6), (.int .u8 b_7), (.int .u8 b_8), (.int .u8 b_9)]) ∧
 (([(.int .u8 c_0), (.int .u16 c_1), (.int .u32 c_2), (.int .u8 c_3), (.int .u8 c_4), (.int .u8 c_5), (.int .u8 c_6), (.int .u8 c_7), (.int .u8 c_8), (.int .u8 c_9)] : List Value) = [(.int .u8 c_0), (.int .u16 c_1), (.int .u32 c_2), (.int .u8 c_3), (.int .u8 c_4), (.int .u8 c_5), (.int .u8 c_6), (.int .u8 c_7), (.int .u8 c_8), (.int .u8 c_9)]) ∧
 x1 n1017 n1018 n1019 n1020 n1021 n1022 n1023 n1024 n1025 n1026 n1029 n1030 n1031 n1032 n1033 n1034 n1035 n1036 n1037 n1038 n1059 n1060 n1061 n1062 n1063 n1064 n1065 n1066 n1067 n1068 w1069 (L1070)) ∧
 ∀ w1071 : World, ∀ L1072 : List Nat, (X.Hid (L1014) w1028 w1071) →
 (X.NewL (w).heap.size (L1014) w1028 w1071 L1072) →
 X.CallX Try.prog 9 #[(.agg #[(.int .u8 c_0), (.int .u16 c_1), (.int .u32 c_2), (.int .u8 c_3), (.int .u8 c_4), (.int .u8 c_5), (.int .u8 c_6), (.int .u8 c_7), (.int .u8 c_8), (.int .u8 c_9)])] w1071 fun e1073 w1074 =>
 ∃ n1075 : Int, ∃ n1076 : Int, ∃ n1077 : Int, ∃ n1078 : Int, ∃ n1079 : Int, ∃ n1080 : Int, ∃ n1081 : Int, ∃ n1082 : Int, ∃ n1083 : Int, ∃ n1084 : Int, (e1073 = .returned (.agg #[(.int .u8 n1075), (.int .u16 n1076), (.int .u32 n1077), (.int .u8 n1078), (.int .u8 n1079), (.int .u8 n1080), (.int .u8 n1081), (.int .u8 n1082), (.int .u8 n1083), (.int .u8 n1084)])) ∧
 (X.Kept L1072 w1071 w1074) ∧
 (X.FactsW x2 w1074 (L1072)) ∧
 ∀ w1085 : World, ∀ L1086 : List Nat, (X.Hid (L1072) w1074 w1085) →
 (X.NewL (w).heap.size (L1072) w1074 w1085 L1086) →
 (([(.int .u8 a_0), (.int .u16 a_1), (.int .u32 a_2), (.int .u8 a_3), (.int .u8 a_4), (.int .u8 a_5), (.int .u8 a_6), (.int .u8 a_7), (.int .u8 a_8), (.int .u8 a_9)] : List Value) = [(.int .u8 a_0), (.int .u16 a_1), (.int .u32 a_2), (.int .u8 a_3), (.int .u8 a_4), (.int .u8 a_5), (.int .u8 a_6), (.int .u8 a_7), (.int .u8 a_8), (.int .u8 a_9)]) ∧
 (([(.int .u8 b_0), (.int .u16 b_1), (.int .u32 b_2), (.int .u8 b_3), (.int .u8 b_4), (.int .u8 b_5), (.int .u8 b_6), (.int .u8 b_7), (.int .u8 b_8), (.int .u8 b_9)] : List Value) = [(.int .u8 b_0), (.int .u16 b_1), (.int .u32 b_2), (.int .u8 b_3), (.int .u8 b_4), (.int .u8 b_5), (.int .u8 b_6), (.int .u8 b_7), (.int .u8 b_8), (.int .u8 b_9)]) ∧
 (([(.int .u8 c_0), (.int .u16 c_1), (.int .u32 c_2), (.int .u8 c_3), (.int .u8 c_4), (.int .u8 c_5), (.int .u8 c_6), (.int .u8 c_7), (.int .u8 c_8), (.int .u8 c_9)] : List Value) = [(.int .u8 c_0), (.int .u16 c_1), (.int .u32 c_2), (.int .u8 c_3), (.int .u8 c_4), (.int .u8 c_5), (.int .u8 c_6), (.int .u8 c_7), (.int .u8 c_8), (.int .u8 c_9)]) ∧
 x1 n1017 n1018 n1019 n1020 n1021 n1022 n1023 n1024 n1025 n1026 n1029 n1030 n1031 n1032 n1033 n1034 n1035 n1036 n1037 n1038 n1075 n1076 n1077 n1078 n1079 n1080 n1081 n1082 n1083 n1084 w1085 (L1086)) ∧
 (∀ w1087 : World, ∀ L1088 : List Nat, (X.Hid (L1014) w1028 w1087) →
 (X.NewL (w).heap.size (L1014) w1028 w1087 L1088) →
 X.CallX Try.prog 9 #[(.agg #[(.int .u8 c_0), (.int .u16 c_1), (.int .u32 c_2), (.int .u8 c_3), (.int .u8 c_4), (.int .u8 c_5), (.int .u8 c_6), (.int .u8 c_7), (.int .u8 c_8), (.int .u8 c_9)])] w1087 fun e1089 w1090 =>
 ∃ n1091 : Int, ∃ n1092 : Int, ∃ n1093 : Int, ∃ n1094 : Int, ∃ n1095 : Int, ∃ n1096 : Int, ∃ n1097 : Int, ∃ n1098 : Int, ∃ n1099 : Int, ∃ n1100 : Int, (e1089 = .returned (.agg #[(.int .u8 n1091), (.int .u16 n1092), (.int .u32 n1093), (.int .u8 n1094), (.int .u8 n1095), (.int .u8 n1096), (.int .u8 n1097), (.int .u8 n1098), (.int .u8 n1099), (.int .u8 n1100)])) ∧
 (X.Kept L1088 w1087 w1090) ∧
 (X.FactsW x2 w1090 (L1088)) ∧
 ∀ w1101 : World, ∀ L1102 : List Nat, (X.Hid (L1088) w1090 w1101) →
 (X.NewL (w).heap.size (L1088) w1090 w1101 L1102) →
 (([(.int .u8 a_0), (.int .u16 a_1), (.int .u32 a_2), (.int .u8 a_3), (.int .u8 a_4), (.int .u8 a_5), (.int .u8 a_6), (.int .u8 a_7), (.int .u8 a_8), (.int .u8 a_9)] : List Value) = [(.int .u8 a_0), (.int .u16 a_1), (.int .u32 a_2), (.int .u8 a_3), (.int .u8 a_4), (.int .u8 a_5), (.int .u8 a_6), (.int .u8 a_7), (.int .u8 a_8), (.int .u8 a_9)]) ∧
 (([(.int .u8 b_0), (.int .u16 b_1), (.int .u32 b_2), (.int .u8 b_3), (.int .u8 b_4), (.int .u8 b_5), (.int .u8 b_6), (.int .u8 b_7), (.int .u8 b_8), (.int .u8 b_9)] : List Value) = [(.int .u8 b_0), (.int .u16 b_1), (.int .u32 b_2), (.int .u8 b_3), (.int .u8 b_4), (.int .u8 b_5), (.int .u8 b_6), (.int .u8 b_7), (.int .u8 b_8), (.int .u8 b_9)]) ∧
 (([(.int .u8 c_0), (.int .u16 c_1), (.int .u32 c_2), (.int .u8 c_3), (.int .u8 c_4), (.int .u8 c_5), (.int .u8 c_6), (.int .u8 c_7), (.int .u8 c_8), (.int .u8 c_9)] : List Value) = [(.int .u8 c_0), (.int .u16 c_1), (.int .u32 c_2), (.int .u8 c_3), (.int .u8 c_4), (.int .u8 c_5), (.int .u8 c_6), (.int .u8 c_7), (.int .u8 c_8), (.int .u8 c_9)]) ∧
 x1 n1017 n1018 n1019 n1020 n1021 n1022 n1023 n1024 n1025 n1026 n1029 n1030 n1031 n1032 n1033 n1034 n1035 n1036 n1037 n1038 n1091 n1092 n1093 n1094 n1095 n1096 n1097 n1098 n1099 n1100 w1101 (L1102)) ∧
 ∀ w1103 : World, ∀ L1104 : List Nat, (X.Hid (L1014) w1028 w1103) →
 (X.NewL (w).heap.size (L1014) w1028 w1103 L1104) →
 X.CallX Try.prog 9 #[(.agg #[(.int .u8 c_0), (.int .u16 c_1), (.int .u32 c_2), (.int .u8 c_3), (.int .u8 c_4), (.int .u8 c_5), (.int .u8 c_6), (.int .u8 c_7), (.int .u8 c_8), (.int .u8 c_9)])] w1103 fun e1105 w1106 =>
 ∃ n1107 : Int, ∃ n1108 : Int, ∃ n1109 : Int, ∃ n1110 : Int, ∃ n1111 : Int, ∃ n1112 : Int, ∃ n1113 : Int, ∃ n1114 : Int, ∃ n1115 : Int, ∃ n1116 : Int, (e1105 = .returned (.agg #[(.int .u8 n1107), (.int .u16 n1108), (.int .u32 n1109), (.int .u8 n1110), (.int .u8 n1111), (.int .u8 n1112), (.int .u8 n1113), (.int .u8 n1114), (.int .u8 n1115), (.int .u8 n1116)])) ∧
 (X.Kept L1104 w1103 w1106) ∧
 (X.FactsW x2 w1106 (L1104)) ∧
 ∀ w1117 : World, ∀ L1118 : List Nat, (X.Hid (L1104) w1106 w1117) →
 (X.NewL (w).heap.size (L1104) w1106 w1117 L1118) →
 (([(.int .u8 a_0), (.int .u16 a_1), (.int .u32 a_2), (.int .u8 a_3), (.int .u8 a_4), (.int .u8 a_5), (.int .u8 a_6), (.int .u8 a_7), (.int .u8 a_8), (.int .u8 a_9)] : List Value) = [(.int .u8 a_0), (.int .u16 a_1), (.int .u32 a_2), (.int .u8 a_3), (.int .u8 a_4), (.int .u8 a_5), (.int .u8 a_6), (.int .u8 a_7), (.int .u8 a_8), (.int .u8 a_9)]) ∧
 (([(.int .u8 b_0), (.int .u16 b_1), (.int .u32 b_2), (.int .u8 b_3), (.int .u8 b_4), (.int .u8 b_5), (.int .u8 b_6), (.int .u8 b_7), (.int .u8 b_8), (.int .u8 b_9)] : List Value) = [(.int .u8 b_0), (.int .u16 b_1), (.int .u32 b_2), (.int .u8 b_3), (.int .u8 b_4), (.int .u8 b_5), (.int .u8 b_6), (.int .u8 b_7), (.int .u8 b_8), (.int .u8 b_9)]) ∧
 (([(.int .u8 c_0), (.int .u16 c_1), (.int .u32 c_2), (.int .u8 c_3), (.int .u8 c_4), (.int .u8 c_5), (.int .u8 c_6), (.int .u8 c_7), (.int .u8 c_8), (.int .u8 c_9)] : List Value) = [(.int .u8 c_0), (.int .u16 c_1), (.int .u32 c_2), (.int .u8 c_3), (.int .u8 c_4), (.int .u8 c_5), (.int .u8 c_6), (.int .u8 c_7), (.int .u8 c_8), (.int .u8 c_9)]) ∧
 x1 n1017 n1018 n1019 n1020 n1021 n1022 n1023 n1024 n1025 n1026 n1029 n1030 n1031 n1032 n1033 n1034 n1035 n1036 n1037 n1038 n1107 n1108 n1109 n1110 n1111 n1112 n1113 n1114 n1115 n1116 w1117 (L1118)) ∧
 ((∀ w1119 : World, ∀ L1120 : List Nat, (X.Hid (L1014) w1016 w1119) →
 (X.NewL (w).heap.size (L1014) w1016 w1119 L1120) →
 X.CallX Try.prog 9 #[(.agg #[(.int .u8 b_0), (.int .u16 b_1), (.int .u32 b_2), (.int .u8 b_3), (.int .u8 b_4), (.int .u8 b_5), (.int .u8 b_6), (.int .u8 b_7), (.int .u8 b_8), (.int .u8 b_9)])] w1119 fun e1121 w1122 =>
 ∃ n1123 : Int, ∃ n1124 : Int, ∃ n1125 : Int, ∃ n1126 : Int, ∃ n1127 : Int, ∃ n1128 : Int, ∃ n1129 : Int, ∃ n1130 : Int, ∃ n1131 : Int, ∃ n1132 : Int, (e1121 = .returned (.agg #[(.int .u8 n1123), (.int .u16 n1124), (.int .u32 n1125), (.int .u8 n1126), (.int .u8 n1127), (.int .u8 n1128), (.int .u8 n1129), (.int .u8 n1130), (.int .u8 n1131), (.int .u8 n1132)])) ∧
 (X.Kept L1120 w1119 w1122) ∧
 (X.FactsW x2 w1122 (L1120)) ∧
 (X.CallX Try.prog 9 #[(.agg #[(.int .u8 c_0), (.int .u16 c_1), (.int .u32 c_2), (.int .u8 c_3), (.int .u8 c_4), (.int .u8 c_5), (.int .u8 c_6), (.int .u8 c_7), (.int .u8 c_8), (.int .u8 c_9)])] w1122 fun e1133 w1134 =>
 ∃ n1135 : Int, ∃ n1136 : Int, ∃ n1137 : Int, ∃ n1138 : Int, ∃ n1139 : Int, ∃ n1140 : Int, ∃ n1141 : Int, ∃ n1142 : Int, ∃ n1143 : Int, ∃ n1144 : Int, (e1133 = .returned (.agg #[(.int .u8 n1135), (.int .u16 n1136), (.int .u32 n1137), (.int .u8 n1138), (.int .u8 n1139), (.int .u8 n1140), (.int .u8 n1141), (.int .u8 n1142), (.int .u8 n1143), (.int .u8 n1144)])) ∧
 (X.Kept L1120 w1122 w1134) ∧
 (X.FactsW x2 w1134 (L1120)) ∧
 ∀ w1145 : World, ∀ L1146 : List Nat, (X.Hid (L1120) w1134 w1145) →
 (X.NewL (w).heap.size (L1120) w1134 w1145 L1146) →
 (([(.int .u8 a_0), (.int .u16 a_1), (.int .u32 a_2), (.int .u8 a_3), (.int .u8 a_4), (.int .u8 a_5), (.int .u8 a_6), (.int .u8 a_7), (.int .u8 a_8), (.int .u8 a_9)] : List Value) = [(.int .u8 a_0), (.int .u16 a_1), (.int .u32 a_2), (.int .u8 a_3), (.int .u8 a_4), (.int .u8 a_5), (.int .u8 a_6), (.int .u8 a_7), (.int .u8 a_8), (.int .u8 a_9)]) ∧
 (([(.int .u8 b_0), (.int .u16 b_1), (.int .u32 b_2), (.int .u8 b_3), (.int .u8 b_4), (.int .u8 b_5), (.int .u8 b_6), (.int .u8 b_7), (.int .u8 b_8), (.int .u8 b_9)] : List Value) = [(.int .u8 b_0), (.int .u16 b_1), (.int .u32 b_2), (.int .u8 b_3), (.int .u8 b_4), (.int .u8 b_5), (.int .u8 b_6), (.int .u8 b_7), (.int .u8 b_8), (.int .u8 b_9)]) ∧
 (([(.int .u8 c_0), (.int .u16 c_1), (.int .u32 c_2), (.int .u8 c_3), (.int .u8 c_4), (.int .u8 c_5), (.int .u8 c_6), (.int .u8 c_7), (.int .u8 c_8), (.int .u8 c_9)] : List Value) = [(.int .u8 c_0), (.int .u16 c_1), (.int .u32 c_2), (.int .u8 c_3), (.int .u8 c_4), (.int .u8 c_5), (.int .u8 c_6), (.int .u8 c_7), (.int .u8 c_8), (.int .u8 c_9)]) ∧
 x1 n1017 n1018 n1019 n1020 n1021 n1022 n1023 n1024 n1025 n1026 n1123 n1124 n1125 n1126 n1127 n1128 n1129 n1130 n1131 n1132 n1135 n1136 n1137 n1138 n1139 n1140 n1141 n1142 n1143 n1144 w1145 (L1146)) ∧
 ∀ w1147 : World, ∀ L1148 : List Nat, (X.Hid (L1120) w1122 w1147) →
 (X.NewL (w).heap.size (L1120) w1122 w1147 L1148) →
 X.CallX Try.prog 9 #[(.agg #[(.int .u8 c_0), (.int .u16 c_1), (.int .u32 c_2), (.int .u8 c_3), (.int .u8 c_4), (.int .u8 c_5), (.int .u8 c_6), (.int .u8 c_7), (.int .u8 c_8), (.int .u8 c_9)])] w1147 fun e1149 w1150 =>
 ∃ n1151 : Int, ∃ n1152 : Int, ∃ n1153 : Int, ∃ n1154 : Int, ∃ n1155 : Int, ∃ n1156 : Int, ∃ n1157 : Int, ∃ n1158 : Int, ∃ n1159 : Int, ∃ n1160 : Int, (e1149 = .returned (.agg #[(.int .u8 n1151), (.int .u16 n1152), (.int .u32 n1153), (.int .u8 n1154), (.int .u8 n1155), (.int .u8 n1156), (.int .u8 n1157), (.int .u8 n1158), (.int .u8 n1159), (.int .u8 n1160)])) ∧
 (X.Kept L1148 w1147 w1150) ∧
 (X.FactsW x2 w1150 (L1148)) ∧
 ∀ w1161 : World, ∀ L1162 : List Nat, (X.Hid (L1148) w1150 w1161) →
 (X.NewL (w).heap.size (L1148) w1150 w1161 L1162) →
 (([(.int .u8 a_0), (.int .u16 a_1), (.int .u32 a_2), (.int .u8 a_3), (.int .u8 a_4), (.int .u8 a_5), (.int .u8 a_6), (.int .u8 a_7), (.int .u8 a_8), (.int .u8 a_9)] : List Value) = [(.int .u8 a_0), (.int .u16 a_1), (.int .u32 a_2), (.int .u8 a_3), (.int .u8 a_4), (.int .u8 a_5), (.int .u8 a_6), (.int .u8 a_7), (.int .u8 a_8), (.int .u8 a_9)]) ∧
 (([(.int .u8 b_0), (.int .u16 b_1), (.int .u32 b_2), (.int .u8 b_3), (.int .u8 b_4), (.int .u8 b_5), (.int .u8 b_6), (.int .u8 b_7), (.int .u8 b_8), (.int .u8 b_9)] : List Value) = [(.int .u8 b_0), (.int .u16 b_1), (.int .u32 b_2), (.int .u8 b_3), (.int .u8 b_4), (.int .u8 b_5), (.int .u8 b_6), (.int .u8 b_7), (.int .u8 b_8), (.int .u8 b_9)]) ∧
 (([(.int .u8 c_0), (.int .u16 c_1), (.int .u32 c_2), (.int .u8 c_3), (.int .u8 c_4), (.int .u8 c_5), (.int .u8 c_6), (.int .u8 c_7), (.int .u8 c_8), (.int .u8 c_9)] : List Value) = [(.int .u8 c_0), (.int .u16 c_1), (.int .u32 c_2), (.int .u8 c_3), (.int .u8 c_4), (.int .u8 c_5), (.int .u8 c_6), (.int .u8 c_7), (.int .u8 c_8), (.int .u8 c_9)]) ∧
 x1 n1017 n1018 n1019 n1020 n1021 n1022 n1023 n1024 n1025 n1026 n1123 n1124 n1125 n1126 n1127 n1128 n1129 n1130 n1131 n1132 n1151 n1152 n1153 n1154 n1155 n1156 n1157 n1158 n1159 n1160 w1161 (L1162)) ∧
 ∀ w1163 : World, ∀ L1164 : List Nat, (X.Hid (L1014) w1016 w1163) →
 (X.NewL (w).heap.size (L1014) w1016 w1163 L1164) →
 X.CallX Try.prog 9 #[(.agg #[(.int .u8 b_0), (.int .u16 b_1), (.int .u32 b_2), (.int .u8 b_3), (.int .u8 b_4), (.int .u8 b_5), (.int .u8 b_6), (.int .u8 b_7), (.int .u8 b_8), (.int .u8 b_9)])] w1163 fun e1165 w1166 =>
 ∃ n1167 : Int, ∃ n1168 : Int, ∃ n1169 : Int, ∃ n1170 : Int, ∃ n1171 : Int, ∃ n1172 : Int, ∃ n1173 : Int, ∃ n1174 : Int, ∃ n1175 : Int, ∃ n1176 : Int, (e1165 = .returned (.agg #[(.int .u8 n1167), (.int .u16 n1168), (.int .u32 n1169), (.int .u8 n1170), (.int .u8 n1171), (.int .u8 n1172), (.int .u8 n1173), (.int .u8 n1174), (.int .u8 n1175), (.int .u8 n1176)])) ∧
 (X.Kept L1164 w1163 w1166) ∧
 (X.FactsW x2 w1166 (L1164)) ∧
 X.CallX Try.prog 9 #[(.agg #[(.int .u8 c_0), (.int .u16 c_1), (.int .u32 c_2), (.int .u8 c_3), (.int .u8 c_4), (.int .u8 c_5), (.int .u8 c_6), (.int .u8 c_7), (.int .u8 c_8), (.int .u8 c_9)])] w1166 fun e1177 w1178 =>
 ∃ n1179 : Int, ∃ n1180 : Int, ∃ n1181 : Int, ∃ n1182 : Int, ∃ n1183 : Int, ∃ n1184 : Int, ∃ n1185 : Int, ∃ n1186 : Int, ∃ n1187 : Int, ∃ n1188 : Int, (e1177 = .returned (.agg #[(.int .u8 n1179), (.int .u16 n1180), (.int .u32 n1181), (.int .u8 n1182), (.int .u8 n1183), (.int .u8 n1184), (.int .u8 n1185), (.int .u8 n1186), (.int .u8 n1187), (.int .u8 n1188)])) ∧
 (X.Kept L1164 w1166 w1178) ∧
 (X.FactsW x2 w1178 (L1164)) ∧
 ∀ w1189 : World, ∀ L1190 : List Nat, (X.Hid (L1164) w1178 w1189) →
 (X.NewL (w).heap.size (L1164) w1178 w1189 L1190) →
 (([(.int .u8 a_0), (.int .u16 a_1), (.int .u32 a_2), (.int .u8 a_3), (.int .u8 a_4), (.int .u8 a_5), (.int .u8 a_6), (.int .u8 a_7), (.int .u8 a_8), (.int .u8 a_9)] : List Value) = [(.int .u8 a_0), (.int .u16 a_1), (.int .u32 a_2), (.int .u8 a_3), (.int .u8 a_4), (.int .u8 a_5), (.int .u8 a_6), (.int .u8 a_7), (.int .u8 a_8), (.int .u8 a_9)]) ∧
 (([(.int .u8 b_0), (.int .u16 b_1), (.int .u32 b_2), (.int .u8 b_3), (.int .u8 b_4), (.int .u8 b_5), (.int .u8 b_6), (.int .u8 b_7), (.int .u8 b_8), (.int .u8 b_9)] : List Value) = [(.int .u8 b_0), (.int .u16 b_1), (.int .u32 b_2), (.int .u8 b_3), (.int .u8 b_4), (.int .u8 b_5), (.int .u8 b_6), (.int .u8 b_7), (.int .u8 b_8), (.int .u8 b_9)]) ∧
 (([(.int .u8 c_0), (.int .u16 c_1), (.int .u32 c_2), (.int .u8 c_3), (.int .u8 c_4), (.int .u8 c_5), (.int .u8 c_6), (.int .u8 c_7), (.int .u8 c_8), (.int .u8 c_9)] : List Value) = [(.int .u8 c_0), (.int .u16 c_1), (.int .u32 c_2), (.int .u8 c_3), (.int .u8 c_4), (.int .u8 c_5), (.int .u8 c_6), (.int .u8 c_7), (.int .u8 c_8), (.int .u8 c_9)]) ∧
 x1 n1017 n1018 n1019 n1020 n1021 n1022 n1023 n1024 n1025 n1026 n1167 n1168 n1169 n1170 n1171 n1172 n1173 n1174 n1175 n1176 n1179 n1180 n1181 n1182 n1183 n1184 n1185 n1186 n1187 n1188 w1189 (L1190)) ∧
 (∀ w1191 : World, ∀ L1192 : List Nat, (X.Hid (L1014) w1016 w1191) →
 (X.NewL (w).heap.size (L1014) w1016 w1191 L1192) →
 X.CallX Try.prog 9 #[(.agg #[(.int .u8 b_0), (.int .u16 b_1), (.int .u32 b_2), (.int .u8 b_3), (.int .u8 b_4), (.int .u8 b_5), (.int .u8 b_6), (.int .u8 b_7), (.int .u8 b_8), (.int .u8 b_9)])] w1191 fun e1193 w1194 =>
 ∃ n1195 : Int, ∃ n1196 : Int, ∃ n1197 : Int, ∃ n1198 : Int, ∃ n1199 : Int, ∃ n1200 : Int, ∃ n1201 : Int, ∃ n1202 : Int, ∃ n1203 : Int, ∃ n1204 : Int, (e1193 = .returned (.agg #[(.int .u8 n1195), (.int .u16 n1196), (.int .u32 n1197), (.int .u8 n1198), (.int .u8 n1199), (.int .u8 n1200), (.int .u8 n1201), (.int .u8 n1202), (.int .u8 n1203), (.int .u8 n1204)])) ∧
 (X.Kept L1192 w1191 w1194) ∧
 (X.FactsW x2 w1194 (L1192)) ∧
 (X.CallX Try.prog 9 #[(.agg #[(.int .u8 c_0), (.int .u16 c_1), (.int .u32 c_2), (.int .u8 c_3), (.int .u8 c_4), (.int .u8 c_5), (.int .u8 c_6), (.int .u8 c_7), (.int .u8 c_8), (.int .u8 c_9)])] w1194 fun e1205 w1206 =>
 ∃ n1207 : Int, ∃ n1208 : Int, ∃ n1209 : Int, ∃ n1210 : Int, ∃ n1211 : Int, ∃ n1212 : Int, ∃ n1213 : Int, ∃ n1214 : Int, ∃ n1215 : Int, ∃ n1216 : Int, (e1205 = .returned (.agg #[(.int .u8 n1207), (.int .u16 n1208), (.int .u32 n1209), (.int .u8 n1210), (.int .u8 n1211), (.int .u8 n1212), (.int .u8 n1213), (.int .u8 n1214), (.int .u8 n1215), (.int .u8 n1216)])) ∧
 (X.Kept L1192 w1194 w1206) ∧
 (X.FactsW x2 w1206 (L1192)) ∧
 ∀ w1217 : World, ∀ L1218 : List Nat, (X.Hid (L1192) w1206 w1217) →
 (X.NewL (w).heap.size (L1192) w1206 w1217 L1218) →
 (([(.int .u8 a_0), (.int .u16 a_1), (.int .u32 a_2), (.int .u8 a_3), (.int .u8 a_4), (.int .u8 a_5), (.int .u8 a_6), (.int .u8 a_7), (.int .u8 a_8), (.int .u8 a_9)] : List Value) = [(.int .u8 a_0), (.int .u16 a_1), (.int .u32 a_2), (.int .u8 a_3), (.int .u8 a_4), (.int .u8 a_5), (.int .u8 a_6), (.int .u8 a_7), (.int .u8 a_8), (.int .u8 a_9)]) ∧
 (([(.int .u8 b_0), (.int .u16 b_1), (.int .u32 b_2), (.int .u8 b_3), (.int .u8 b_4), (.int .u8 b_5), (.int .u8 b_6), (.int .u8 b_7), (.int .u8 b_8), (.int .u8 b_9)] : List Value) = [(.int .u8 b_0), (.int .u16 b_1), (.int .u32 b_2), (.int .u8 b_3), (.int .u8 b_4), (.int .u8 b_5), (.int .u8 b_6), (.int .u8 b_7), (.int .u8 b_8), (.int .u8 b_9)]) ∧
 (([(.int .u8 c_0), (.int .u16 c_1), (.int .u32 c_2), (.int .u8 c_3), (.int .u8 c_4), (.int .u8 c_5), (.int .u8 c_6), (.int .u8 c_7), (.int .u8 c_8), (.int .u8 c_9)] : List Value) = [(.int .u8 c_0), (.int .u16 c_1), (.int .u32 c_2), (.int .u8 c_3), (.int .u8 c_4), (.int .u8 c_5), (.int .u8 c_6), (.int .u8 c_7), (.int .u8 c_8), (.int .u8 c_9)]) ∧
 x1 n1017 n1018 n1019 n1020 n1021 n1022 n1023 n1024 n1025 n1026 n1195 n1196 n1197 n1198 n1199 n1200 n1201 n1202 n1203 n1204 n1207 n1208 n1209 n1210 n1211 n1212 n1213 n1214 n1215 n1216 w1217 (L1218)) ∧
 ∀ w1219 : World, ∀ L1220 : List Nat, (X.Hid (L1192) w1194 w1219) →
 (X.NewL (w).heap.size (L1192) w1194 w1219 L1220) →
 X.CallX Try.prog 9 #[(.agg #[(.int .u8 c_0), (.int .u16 c_1), (.int .u32 c_2), (.int .u8 c_3), (.int .u8 c_4), (.int .u8 c_5), (.int .u8 c_6), (.int .u8 c_7), (.int .u8 c_8), (.int .u8 c_9)])] w1219 fun e1221 w1222 =>
 ∃ n1223 : Int, ∃ n1224 : Int, ∃ n1225 : Int, ∃ n1226 : Int, ∃ n1227 : Int, ∃ n1228 : Int, ∃ n1229 : Int, ∃ n1230 : Int, ∃ n1231 : Int, ∃ n1232 : Int, (e1221 = .returned (.agg #[(.int .u8 n1223), (.int .u16 n1224), (.int .u32 n1225), (.int .u8 n1226), (.int .u8 n1227), (.int .u8 n1228), (.int .u8 n1229), (.int .u8 n1230), (.int .u8 n1231), (.int .u8 n1232)])) ∧
 (X.Kept L1220 w1219 w1222) ∧
 (X.FactsW x2 w1222 (L1220)) ∧
 ∀ w1233 : World, ∀ L1234 : List Nat, (X.Hid (L1220) w1222 w1233) →
 (X.NewL (w).heap.size (L1220) w1222 w1233 L1234) →
 (([(.int .u8 a_0), (.int .u16 a_1), (.int .u32 a_2), (.int .u8 a_3), (.int .u8 a_4), (.int .u8 a_5), (.int .u8 a_6), (.int .u8 a_7), (.int .u8 a_8), (.int .u8 a_9)] : List Value) = [(.int .u8 a_0), (.int .u16 a_1), (.int .u32 a_2), (.int .u8 a_3), (.int .u8 a_4), (.int .u8 a_5), (.int .u8 a_6), (.int .u8 a_7), (.int .u8 a_8), (.int .u8 a_9)]) ∧
 (([(.int .u8 b_0), (.int .u16 b_1), (.int .u32 b_2), (.int .u8 b_3), (.int .u8 b_4), (.int .u8 b_5), (.int .u8 b_6), (.int .u8 b_7), (.int .u8 b_8), (.int .u8 b_9)] : List Value) = [(.int .u8 b_0), (.int .u16 b_1), (.int .u32 b_2), (.int .u8 b_3), (.int .u8 b_4), (.int .u8 b_5), (.int .u8 b_6), (.int .u8 b_7), (.int .u8 b_8), (.int .u8 b_9)]) ∧
 (([(.int .u8 c_0), (.int .u16 c_1), (.int .u32 c_2), (.int .u8 c_3), (.int .u8 c_4), (.int .u8 c_5), (.int .u8 c_6), (.int .u8 c_7), (.int .u8 c_8), (.int .u8 c_9)] : List Value) = [(.int .u8 c_0), (.int .u16 c_1), (.int .u32 c_2), (.int .u8 c_3), (.int .u8 c_4), (.int .u8 c_5), (.int .u8 c_6), (.int .u8 c_7), (.int .u8 c_8), (.int .u8 c_9)]) ∧
 x1 n1017 n1018 n1019 n1020 n1021 n1022 n1023 n1024 n1025 n1026 n1195 n1196 n1197 n1198 n1199 n1200 n1201 n1202 n1203 n1204 n1223 n1224 n1225 n1226 n1227 n1228 n1229 n1230 n1231 n1232 w1233 (L1234)) ∧
 ∀ w1235 : World, ∀ L1236 : List Nat, (X.Hid (L1014) w1016 w1235) →
 (X.NewL (w).heap.size (L1014) w1016 w1235 L1236) →
 X.CallX Try.prog 9 #[(.agg #[(.int .u8 b_0), (.int .u16 b_1), (.int .u32 b_2), (.int .u8 b_3), (.int .u8 b_4), (.int .u8 b_5), (.int .u8 b_6), (.int .u8 b_7), (.int .u8 b_8), (.int .u8 b_9)])] w1235 fun e1237 w1238 =>
 ∃ n1239 : Int, ∃ n1240 : Int, ∃ n1241 : Int, ∃ n1242 : Int, ∃ n1243 : Int, ∃ n1244 : Int, ∃ n1245 : Int, ∃ n1246 : Int, ∃ n1247 : Int, ∃ n1248 : Int, (e1237 = .returned (.agg #[(.int .u8 n1239), (.int .u16 n1240), (.int .u32 n1241), (.int .u8 n1242), (.int .u8 n1243), (.int .u8 n1244), (.int .u8 n1245), (.int .u8 n1246), (.int .u8 n1247), (.int .u8 n1248)])) ∧
 (X.Kept L1236 w1235 w1238) ∧
 (X.FactsW x2 w1238 (L1236)) ∧
 X.CallX Try.prog 9 #[(.agg #[(.int .u8 c_0), (.int .u16 c_1), (.int .u32 c_2), (.int .u8 c_3), (.int .u8 c_4), (.int .u8 c_5), (.int .u8 c_6), (.int .u8 c_7), (.int .u8 c_8), (.int .u8 c_9)])] w1238 fun e1249 w1250 =>
 ∃ n1251 : Int, ∃ n1252 : Int, ∃ n1253 : Int, ∃ n1254 : Int, ∃ n1255 : Int, ∃ n1256 : Int, ∃ n1257 : Int, ∃ n1258 : Int, ∃ n1259 : Int, ∃ n1260 : Int, (e1249 = .returned (.agg #[(.int .u8 n1251), (.int .u16 n1252), (.int .u32 n1253), (.int .u8 n1254), (.int .u8 n1255), (.int .u8 n1256), (.int .u8 n1257), (.int .u8 n1258), (.int .u8 n1259), (.int .u8 n1260)])) ∧
 (X.Kept L1236 w1238 w1250) ∧
 (X.FactsW x2 w1250 (L1236)) ∧
 ∀ w1261 : World, ∀ L1262 : List Nat, (X.Hid (L1236) w1250 w1261) →
 (X.NewL (w).heap.size (L1236) w1250 w1261 L1262) →
 (([(.int .u8 a_0), (.int .u16 a_1), (.int .u32 a_2), (.int .u8 a_3), (.int .u8 a_4), (.int .u8 a_5), (.int .u8 a_6), (.int .u8 a_7), (.int .u8 a_8), (.int .u8 a_9)] : List Value) = [(.int .u8 a_0), (.int .u16 a_1), (.int .u32 a_2), (.int .u8 a_3), (.int .u8 a_4), (.int .u8 a_5), (.int .u8 a_6), (.int .u8 a_7), (.int .u8 a_8), (.int .u8 a_9)]) ∧
 (([(.int .u8 b_0), (.int .u16 b_1), (.int .u32 b_2), (.int .u8 b_3), (.int .u8 b_4), (.int .u8 b_5), (.int .u8 b_6), (.int .u8 b_7), (.int .u8 b_8), (.int .u8 b_9)] : List Value) = [(.int .u8 b_0), (.int .u16 b_1), (.int .u32 b_2), (.int .u8 b_3), (.int .u8 b_4), (.int .u8 b_5), (.int .u8 b_6), (.int .u8 b_7), (.int .u8 b_8), (.int .u8 b_9)]) ∧
 (([(.int .u8 c_0), (.int .u16 c_1), (.int .u32 c_2), (.int .u8 c_3), (.int .u8 c_4), (.int .u8 c_5), (.int .u8 c_6), (.int .u8 c_7), (.int .u8 c_8), (.int .u8 c_9)] : List Value) = [(.int .u8 c_0), (.int .u16 c_1), (.int .u32 c_2), (.int .u8 c_3), (.int .u8 c_4), (.int .u8 c_5), (.int .u8 c_6), (.int .u8 c_7), (.int .u8 c_8), (.int .u8 c_9)]) ∧
 x1 n1017 n1018 n1019 n1020 n1021 n1022 n1023 n1024 n1025 n1026 n1239 n1240 n1241 n1242 n1243 n1244 n1245 n1246 n1247 n1248 n1251 n1252 n1253 n1254 n1255 n1256 n1257 n1258 n1259 n1260 w1261 (L1262)) ∧
 ((∀ w1263 : World, ∀ L1264 : List Nat, (X.Hid [] w w1263) →
 (X.NewL (w).heap.size [] w w1263 L1264) →
 X.CallX Try.prog 9 #[(.agg #[(.int .u8 a_0), (.int .u16 a_1), (.int .u32 a_2), (.int .u8 a_3), (.int .u8 a_4), (.int .u8 a_5), (.int .u8 a_6), (.int .u8 a_7), (.int .u8 a_8), (.int .u8 a_9)])] w1263 fun e1265 w1266 =>
 ∃ n1267 : Int, ∃ n1268 : Int, ∃ n1269 : Int, ∃ n1270 : Int, ∃ n1271 : Int, ∃ n1272 : Int, ∃ n1273 : Int, ∃ n1274 : Int, ∃ n1275 : Int, ∃ n1276 : Int, (e1265 = .returned (.agg #[(.int .u8 n1267), (.int .u16 n1268), (.int .u32 n1269), (.int .u8 n1270), (.int .u8 n1271), (.int .u8 n1272), (.int .u8 n1273), (.int .u8 n1274), (.int .u8 n1275), (.int .u8 n1276)])) ∧
 (X.Kept L1264 w1263 w1266) ∧
 (X.FactsW x2 w1266 (L1264)) ∧
 (X.CallX Try.prog 9 #[(.agg #[(.int .u8 b_0), (.int .u16 b_1), (.int .u32 b_2), (.int .u8 b_3), (.int .u8 b_4), (.int .u8 b_5), (.int .u8 b_6), (.int .u8 b_7), (.int .u8 b_8), (.int .u8 b_9)])] w1266 fun e1277 w1278 =>
 ∃ n1279 : Int, ∃ n1280 : Int, ∃ n1281 : Int, ∃ n1282 : Int, ∃ n1283 : Int, ∃ n1284 : Int, ∃ n1285 : Int, ∃ n1286 : Int, ∃ n1287 : Int, ∃ n1288 : Int, (e1277 = .returned (.agg #[(.int .u8 n1279), (.int .u16 n1280), (.int .u32 n1281), (.int .u8 n1282), (.int .u8 n1283), (.int .u8 n1284), (.int .u8 n1285), (.int .u8 n1286), (.int .u8 n1287), (.int .u8 n1288)])) ∧
 (X.Kept L1264 w1266 w1278) ∧
 (X.FactsW x2 w1278 (L1264)) ∧
 (X.CallX Try.prog 9 #[(.agg #[(.int .u8 c_0), (.int .u16 c_1), (.int .u32 c_2), (.int .u8 c_3), (.int .u8 c_4), (.int .u8 c_5), (.int .u8 c_6), (.int .u8 c_7), (.int .u8 c_8), (.int .u8 c_9)])] w1278 fun e1289 w1290 =>
 ∃ n1291 : Int, ∃ n1292 : Int, ∃ n1293 : Int, ∃ n1294 : Int, ∃ n1295 : Int, ∃ n1296 : Int, ∃ n1297 : Int, ∃ n1298 : Int, ∃ n1299 : Int, ∃ n1300 : Int, (e1289 = .returned (.agg #[(.int .u8 n1291), (.int .u16 n1292), (.int .u32 n1293), (.int .u8 n1294), (.int .u8 n1295), (.int .u8 n1296), (.int .u8 n1297), (.int .u8 n1298), (.int .u8 n1299), (.int .u8 n1300)])) ∧
 (X.Kept L1264 w1278 w1290) ∧
 (X.FactsW x2 w1290 (L1264)) ∧
 ∀ w1301 : World, ∀ L1302 : List Nat, (X.Hid (L1264) w1290 w1301) →
 (X.NewL (w).heap.size (L1264) w1290 w1301 L1302) →
 (([(.int .u8 a_0), (.int .u16 a_1), (.int .u32 a_2), (.int .u8 a_3), (.int .u8 a_4), (.int .u8 a_5), (.int .u8 a_6), (.int .u8 a_7), (.int .u8 a_8), (.int .u8 a_9)] : List Value) = [(.int .u8 a_0), (.int .u16 a_1), (.int .u32 a_2), (.int .u8 a_3), (.int .u8 a_4), (.int .u8 a_5), (.int .u8 a_6), (.int .u8 a_7), (.int .u8 a_8), (.int .u8 a_9)]) ∧
 (([(.int .u8 b_0), (.int .u16 b_1), (.int .u32 b_2), (.int .u8 b_3), (.int .u8 b_4), (.int .u8 b_5), (.int .u8 b_6), (.int .u8 b_7), (.int .u8 b_8), (.int .u8 b_9)] : List Value) = [(.int .u8 b_0), (.int .u16 b_1), (.int .u32 b_2), (.int .u8 b_3), (.int .u8 b_4), (.int .u8 b_5), (.int .u8 b_6), (.int .u8 b_7), (.int .u8 b_8), (.int .u8 b_9)]) ∧
 (([(.int .u8 c_0), (.int .u16 c_1), (.int .u32 c_2), (.int .u8 c_3), (.int .u8 c_4), (.int .u8 c_5), (.int .u8 c_6), (.int .u8 c_7), (.int .u8 c_8), (.int .u8 c_9)] : List Value) = [(.int .u8 c_0), (.int .u16 c_1), (.int .u32 c_2), (.int .u8 c_3), (.int .u8 c_4), (.int .u8 c_5), (.int .u8 c_6), (.int .u8 c_7), (.int .u8 c_8), (.int .u8 c_9)]) ∧
 x1 n1267 n1268 n1269 n1270 n1271 n1272 n1273 n1274 n1275 n1276 n1279 n1280 n1281 n1282 n1283 n1284 n1285 n1286 n1287 n1288 n1291 n1292 n1293 n1294 n1295 n1296 n1297 n1298 n1299 n1300 w1301 (L1302)) ∧
 ∀ w1303 : World, ∀ L1304 : List Nat, (X.Hid (L1264) w1278 w1303) →
 (X.NewL (w).heap.size (L1264) w1278 w1303 L1304) →
 X.CallX Try.prog 9 #[(.agg #[(.int .u8 c_0), (.int .u16 c_1), (.int .u32 c_2), (.int .u8 c_3), (.int .u8 c_4), (.int .u8 c_5), (.int .u8 c_6), (.int .u8 c_7), (.int .u8 c_8), (.int .u8 c_9)])] w1303 fun e1305 w1306 =>
 ∃ n1307 : Int, ∃ n1308 : Int, ∃ n1309 : Int, ∃ n1310 : Int, ∃ n1311 : Int, ∃ n1312 : Int, ∃ n1313 : Int, ∃ n1314 : Int, ∃ n1315 : Int, ∃ n1316 : Int, (e1305 = .returned (.agg #[(.int .u8 n1307), (.int .u16 n1308), (.int .u32 n1309), (.int .u8 n1310), (.int .u8 n1311), (.int .u8 n1312), (.int .u8 n1313), (.int .u8 n1314), (.int .u8 n1315), (.int .u8 n1316)])) ∧
 (X.Kept L1304 w1303 w1306) ∧
 (X.FactsW x2 w1306 (L1304)) ∧
 ∀ w1317 : World, ∀ L1318 : List Nat, (X.Hid (L1304) w1306 w1317) →
 (X.NewL (w).heap.size (L1304) w1306 w1317 L1318) →
 (([(.int .u8 a_0), (.int .u16 a_1), (.int .u32 a_2), (.int .u8 a_3), (.int .u8 a_4), (.int .u8 a_5), (.int .u8 a_6), (.int .u8 a_7), (.int .u8 a_8), (.int .u8 a_9)] : List Value) = [(.int .u8 a_0), (.int .u16 a_1), (.int .u32 a_2), (.int .u8 a_3), (.int .u8 a_4), (.int .u8 a_5), (.int .u8 a_6), (.int .u8 a_7), (.int .u8 a_8), (.int .u8 a_9)]) ∧
 (([(.int .u8 b_0), (.int .u16 b_1), (.int .u32 b_2), (.int .u8 b_3), (.int .u8 b_4), (.int .u8 b_5), (.int .u8 b_6), (.int .u8 b_7), (.int .u8 b_8), (.int .u8 b_9)] : List Value) = [(.int .u8 b_0), (.int .u16 b_1), (.int .u32 b_2), (.int .u8 b_3), (.int .u8 b_4), (.int .u8 b_5), (.int .u8 b_6), (.int .u8 b_7), (.int .u8 b_8), (.int .u8 b_9)]) ∧
 (([(.int .u8 c_0), (.int .u16 c_1), (.int .u32 c_2), (.int .u8 c_3), (.int .u8 c_4), (.int .u8 c_5), (.int .u8 c_6), (.int .u8 c_7), (.int .u8 c_8), (.int .u8 c_9)] : List Value) = [(.int .u8 c_0), (.int .u16 c_1), (.int .u32 c_2), (.int .u8 c_3), (.int .u8 c_4), (.int .u8 c_5), (.int .u8 c_6), (.int .u8 c_7), (.int .u8 c_8), (.int .u8 c_9)]) ∧
 x1 n1267 n1268 n1269 n1270 n1271 n1272 n1273 n1274 n1275 n1276 n1279 n1280 n1281 n1282 n1283 n1284 n1285 n1286 n1287 n1288 n1307 n1308 n1309 n1310 n1311 n1312 n1313 n1314 n1315 n1316 w1317 (L1318)) ∧
 ∀ w1319 : World, ∀ L1320 : List Nat, (X.Hid (L1264) w1266 w1319) →
 (X.NewL (w).heap.size (L1264) w1266 w1319 L1320) →
 X.CallX Try.prog 9 #[(.agg #[(.int .u8 b_0), (.int .u16 b_1), (.int .u32 b_2), (.int .u8 b_3), (.int .u8 b_4), (.int .u8 b_5), (.int .u8 b_6), (.int .u8 b_7), (.int .u8 b_8), (.int .u8 b_9)])] w1319 fun e1321 w1322 =>
 ∃ n1323 : Int, ∃ n1324 : Int, ∃ n1325 : Int, ∃ n1326 : Int, ∃ n1327 : Int, ∃ n1328 : Int, ∃ n1329 : Int, ∃ n1330 : Int, ∃ n1331 : Int, ∃ n1332 : Int, (e1321 = .returned (.agg #[(.int .u8 n1323), (.int .u16 n1324), (.int .u32 n1325), (.int .u8 n1326), (.int .u8 n1327), (.int .u8 n1328), (.int .u8 n1329), (.int .u8 n1330), (.int .u8 n1331), (.int .u8 n1332)])) ∧
 (X.Kept L1320 w1319 w1322) ∧
 (X.FactsW x2 w1322 (L1320)) ∧
 X.CallX Try.prog 9 #[(.agg #[(.int .u8 c_0), (.int .u16 c_1), (.int .u32 c_2), (.int .u8 c_3), (.int .u8 c_4), (.int .u8 c_5), (.int .u8 c_6), (.int .u8 c_7), (.int .u8 c_8), (.int .u8 c_9)])] w1322 fun e1333 w1334 =>
 ∃ n1335 : Int, ∃ n1336 : Int, ∃ n1337 : Int, ∃ n1338 : Int, ∃ n1339 : Int, ∃ n1340 : Int, ∃ n1341 : Int, ∃ n1342 : Int, ∃ n1343 : Int, ∃ n1344 : Int, (e1333 = .returned (.agg #[(.int .u8 n1335), (.int .u16 n1336), (.int .u32 n1337), (.int .u8 n1338), (.int .u8 n1339), (.int .u8 n1340), (.int .u8 n1341), (.int .u8 n1342), (.int .u8 n1343), (.int .u8 n1344)])) ∧
 (X.Kept L1320 w1322 w1334) ∧
 (X.FactsW x2 w1334 (L1320)) ∧
 ∀ w1345 : World, ∀ L1346 : List Nat, (X.Hid (L1320) w1334 w1345) →
 (X.NewL (w).heap.size (L1320) w1334 w1345 L1346) →
 (([(.int .u8 a_0), (.int .u16 a_1), (.int .u32 a_2), (.int .u8 a_3), (.int .u8 a_4), (.int .u8 a_5), (.int .u8 a_6), (.int .u8 a_7), (.int .u8 a_8), (.int .u8 a_9)] : List Value) = [(.int .u8 a_0), (.int .u16 a_1), (.int .u32 a_2), (.int .u8 a_3), (.int .u8 a_4), (.int .u8 a_5), (.int .u8 a_6), (.int .u8 a_7), (.int .u8 a_8), (.int .u8 a_9)]) ∧
 (([(.int .u8 b_0), (.int .u16 b_1), (.int .u32 b_2), (.int .u8 b_3), (.int .u8 b_4), (.int .u8 b_5), (.int .u8 b_6), (.int .u8 b_7), (.int .u8 b_8), (.int .u8 b_9)] : List Value) = [(.int .u8 b_0), (.int .u16 b_1), (.int .u32 b_2), (.int .u8 b_3), (.int .u8 b_4), (.int .u8 b_5), (.int .u8 b_6), (.int .u8 b_7), (.int .u8 b_8), (.int .u8 b_9)]) ∧
 (([(.int .u8 c_0), (.int .u16 c_1), (.int .u32 c_2), (.int .u8 c_3), (.int .u8 c_4), (.int .u8 c_5), (.int .u8 c_6), (.int .u8 c_7), (.int .u8 c_8), (.int .u8 c_9)] : List Value) = [(.int .u8 c_0), (.int .u16 c_1), (.int .u32 c_2), (.int .u8 c_3), (.int .u8 c_4), (.int .u8 c_5), (.int .u8 c_6), (.int .u8 c_7), (.int .u8 c_8), (.int .u8 c_9)]) ∧
 x1 n1267 n1268 n1269 n1270 n1271 n1272 n1273 n1274 n1275 n1276 n1323 n1324 n1325 n1326 n1327 n1328 n1329 n1330 n1331 n1332 n1335 n1336 n1337 n1338 n1339 n1340 n1341 n1342 n1343 n1344 w1345 (L1346)) ∧
 ∀ w1347 : World, ∀ L1348 : List Nat, (X.Hid [] w w1347) →
 (X.NewL (w).heap.size [] w w1347 L1348) →
 X.CallX Try.prog 9 #[(.agg #[(.int .u8 a_0), (.int .u16 a_1), (.int .u32 a_2), (.int .u8 a_3), (.int .u8 a_4), (.int .u8 a_5), (.int .u8 a_6), (.int .u8 a_7), (.int .u8 a_8), (.int .u8 a_9)])] w1347 fun e1349 w1350 =>
 ∃ n1351 : Int, ∃ n1352 : Int, ∃ n1353 : Int, ∃ n1354 : Int, ∃ n1355 : Int, ∃ n1356 : Int, ∃ n1357 : Int, ∃ n1358 : Int, ∃ n1359 : Int, ∃ n1360 : Int, (e1349 = .returned (.agg #[(.int .u8 n1351), (.int .u16 n1352), (.int .u32 n1353), (.int .u8 n1354), (.int .u8 n1355), (.int .u8 n1356), (.int .u8 n1357), (.int .u8 n1358), (.int .u8 n1359), (.int .u8 n1360)])) ∧
 (X.Kept L1348 w1347 w1350) ∧
 (X.FactsW x2 w1350 (L1348)) ∧
 X.CallX Try.prog 9 #[(.agg #[(.int .u8 b_0), (.int .u16 b_1), (.int .u32 b_2), (.int .u8 b_3), (.int .u8 b_4), (.int .u8 b_5), (.int .u8 b_6), (.int .u8 b_7), (.int .u8 b_8), (.int .u8 b_9)])] w1350 fun e1361 w1362 =>
 ∃ n1363 : Int, ∃ n1364 : Int, ∃ n1365 : Int, ∃ n1366 : Int, ∃ n1367 : Int, ∃ n1368 : Int, ∃ n1369 : Int, ∃ n1370 : Int, ∃ n1371 : Int, ∃ n1372 : Int, (e1361 = .returned (.agg #[(.int .u8 n1363), (.int .u16 n1364), (.int .u32 n1365), (.int .u8 n1366), (.int .u8 n1367), (.int .u8 n1368), (.int .u8 n1369), (.int .u8 n1370), (.int .u8 n1371), (.int .u8 n1372)])) ∧
 (X.Kept L1348 w1350 w1362) ∧
 (X.FactsW x2 w1362 (L1348)) ∧
 X.CallX Try.prog 9 #[(.agg #[(.int .u8 c_0), (.int .u16 c_1), (.int .u32 c_2), (.int .u8 c_3), (.int .u8 c_4), (.int .u8 c_5), (.int .u8 c_6), (.int .u8 c_7), (.int .u8 c_8), (.int .u8 c_9)])] w1362 fun e1373 w1374 =>
 ∃ n1375 : Int, ∃ n1376 : Int, ∃ n1377 : Int, ∃ n1378 : Int, ∃ n1379 : Int, ∃ n1380 : Int, ∃ n1381 : Int, ∃ n1382 : Int, ∃ n1383 : Int, ∃ n1384 : Int, (e1373 = .returned (.agg #[(.int .u8 n1375), (.int .u16 n1376), (.int .u32 n1377), (.int .u8 n1378), (.int .u8 n1379), (.int .u8 n1380), (.int .u8 n1381), (.int .u8 n1382), (.int .u8 n1383), (.int .u8 n1384)])) ∧
 (X.Kept L1348 w1362 w1374) ∧
 (X.FactsW x2 w1374 (L1348)) ∧
 ∀ w1385 : World, ∀ L1386 : List Nat, (X.Hid (L1348) w1374 w1385) →
 (X.NewL (w).heap.size (L1348) w1374 w1385 L1386) →
 (([(.int .u8 a_0), (.int .u16 a_1), (.int .u32 a_2), (.int .u8 a_3), (.int .u8 a_4), (.int .u8 a_5), (.int .u8 a_6), (.int .u8 a_7), (.int .u8 a_8), (.int .u8 a_9)] : List Value) = [(.int .u8 a_0), (.int .u16 a_1), (.int .u32 a_2), (.int .u8 a_3), (.int .u8 a_4), (.int .u8 a_5), (.int .u8 a_6), (.int .u8 a_7), (.int .u8 a_8), (.int .u8 a_9)]) ∧
 (([(.int .u8 b_0), (.int .u16 b_1), (.int .u32 b_2), (.int .u8 b_3), (.int .u8 b_4), (.int .u8 b_5), (.int .u8 b_6), (.int .u8 b_7), (.int .u8 b_8), (.int .u8 b_9)] : List Value) = [(.int .u8 b_0), (.int .u16 b_1), (.int .u32 b_2), (.int .u8 b_3), (.int .u8 b_4), (.int .u8 b_5), (.int .u8 b_6), (.int .u8 b_7), (.int .u8 b_8), (.int .u8 b_9)]) ∧
 (([(.int .u8 c_0), (.int .u16 c_1), (.int .u32 c_2), (.int .u8 c_3), (.int .u8 c_4), (.int .u8 c_5), (.int .u8 c_6), (.int .u8 c_7), (.int .u8 c_8), (.int .u8 c_9)] : List Value) = [(.int .u8 c_0), (.int .u16 c_1), (.int .u32 c_2), (.int .u8 c_3), (.int .u8 c_4), (.int .u8 c_5), (.int .u8 c_6), (.int .u8 c_7), (.int .u8 c_8), (.int .u8 c_9)]) ∧
 x1 n1351 n1352 n1353 n1354 n1355 n1356 n1357 n1358 n1359 n1360 n1363 n1364 n1365 n1366 n1367 n1368 n1369 n1370 n1371 n1372 n1375 n1376 n1377 n1378 n1379 n1380 n1381 n1382 n1383 n1384 w1385 (L1386)) ∧
 (∀ w1387 : World, ∀ L1388 : List Nat, (X.Hid [] w w1387) →
 (X.NewL (w).heap.size [] w w1387 L1388) →
 X.CallX Try.prog 9 #[(.agg #[(.int .u8 a_0), (.int .u16 a_1), (.int .u32 a_2), (.int .u8 a_3), (.int .u8 a_4), (.int .u8 a_5), (.int .u8 a_6), (.int .u8 a_7), (.int .u8 a_8), (.int .u8 a_9)])] w1387 fun e1389 w1390 =>
 ∃ n1391 : Int, ∃ n1392 : Int, ∃ n1393 : Int, ∃ n1394 : Int, ∃ n1395 : Int, ∃ n1396 : Int, ∃ n1397 : Int, ∃ n1398 : Int, ∃ n1399 : Int, ∃ n1400 : Int, (e1389 = .returned (.agg #[(.int .u8 n1391), (.int .u16 n1392), (.int .u32 n1393), (.int .u8 n1394), (.int .u8 n1395), (.int .u8 n1396), (.int .u8 n1397), (.int .u8 n1398), (.int .u8 n1399), (.int .u8 n1400)])) ∧
 (X.Kept L1388 w1387 w1390) ∧
 (X.FactsW x2 w1390 (L1388)) ∧
 (X.CallX Try.prog 9 #[(.agg #[(.int .u8 b_0), (.int .u16 b_1), (.int .u32 b_2), (.int .u8 b_3), (.int .u8 b_4), (.int .u8 b_5), (.int .u8 b_6), (.int .u8 b_7), (.int .u8 b_8), (.int .u8 b_9)])] w1390 fun e1401 w1402 =>
 ∃ n1403 : Int, ∃ n1404 : Int, ∃ n1405 : Int, ∃ n1406 : Int, ∃ n1407 : Int, ∃ n1408 : Int, ∃ n1409 : Int, ∃ n1410 : Int, ∃ n1411 : Int, ∃ n1412 : Int, (e1401 = .returned (.agg #[(.int .u8 n1403), (.int .u16 n1404), (.int .u32 n1405), (.int .u8 n1406), (.int .u8 n1407), (.int .u8 n1408), (.int .u8 n1409), (.int .u8 n1410), (.int .u8 n1411), (.int .u8 n1412)])) ∧
 (X.Kept L1388 w1390 w1402) ∧
 (X.FactsW x2 w1402 (L1388)) ∧
 (X.CallX Try.prog 9 #[(.agg #[(.int .u8 c_0), (.int .u16 c_1), (.int .u32 c_2), (.int .u8 c_3), (.int .u8 c_4), (.int .u8 c_5), (.int .u8 c_6), (.int .u8 c_7), (.int .u8 c_8), (.int .u8 c_9)])] w1402 fun e1413 w1414 =>
 ∃ n1415 : Int, ∃ n1416 : Int, ∃ n1417 : Int, ∃ n1418 : Int, ∃ n1419 : Int, ∃ n1420 : Int, ∃ n1421 : Int, ∃ n1422 : Int, ∃ n1423 : Int, ∃ n1424 : Int, (e1413 = .returned (.agg #[(.int .u8 n1415), (.int .u16 n1416), (.int .u32 n1417), (.int .u8 n1418), (.int .u8 n1419), (.int .u8 n1420), (.int .u8 n1421), (.int .u8 n1422), (.int .u8 n1423), (.int .u8 n1424)])) ∧
 (X.Kept L1388 w1402 w1414) ∧
 (X.FactsW x2 w1414 (L1388)) ∧
 ∀ w1425 : World, ∀ L1426 : List Nat, (X.Hid (L1388) w1414 w1425) →
 (X.NewL (w).heap.size (L1388) w1414 w1425 L1426) →
 (([(.int .u8 a_0), (.int .u16 a_1), (.int .u32 a_2), (.int .u8 a_3), (.int .u8 a_4), (.int .u8 a_5), (.int .u8 a_6), (.int .u8 a_7), (.int .u8 a_8), (.int .u8 a_9)] : List Value) = [(.int .u8 a_0), (.int .u16 a_1), (.int .u32 a_2), (.int .u8 a_3), (.int .u8 a_4), (.int .u8 a_5), (.int .u8 a_6), (.int .u8 a_7), (.int .u8 a_8), (.int .u8 a_9)]) ∧
 (([(.int .u8 b_0), (.int .u16 b_1), (.int .u32 b_2), (.int .u8 b_3), (.int .u8 b_4), (.int .u8 b_5), (.int .u8 b_6), (.int .u8 b_7), (.int .u8 b_8), (.int .u8 b_9)] : List Value) = [(.int .u8 b_0), (.int .u16 b_1), (.int .u32 b_2), (.int .u8 b_3), (.int .u8 b_4), (.int .u8 b_5), (.int .u8 b_6), (.int .u8 b_7), (.int .u8 b_8), (.int .u8 b_9)]) ∧
 (([(.int .u8 c_0), (.int .u16 c_1), (.int .u32 c_2), (.int .u8 c_3), (.int .u8 c_4), (.int .u8 c_5), (.int .u8 c_6), (.int .u8 c_7), (.int .u8 c_8), (.int .u8 c_9)] : List Value) = [(.int .u8 c_0), (.int .u16 c_1), (.int .u32 c_2), (.int .u8 c_3), (.int .u8 c_4), (.int .u8 c_5), (.int .u8 c_6), (.int .u8 c_7), (.int .u8 c_8), (.int .u8 c_9)]) ∧
 x1 n1391 n1392 n1393 n1394 n1395 n1396 n1397 n1398 n1399 n1400 n1403 n1404 n1405 n1406 n1407 n1408 n1409 n1410 n1411 n1412 n1415 n1416 n1417 n1418 n1419 n1420 n1421 n1422 n1423 n1424 w1425 (L1426)) ∧
 ∀ w1427 : World, ∀ L1428 : List Nat, (X.Hid (L1388) w1402 w1427) →
 (X.NewL (w).heap.size (L1388) w1402 w1427 L1428) →
 X.CallX Try.prog 9 #[(.agg #[(.int .u8 c_0), (.int .u16 c_1), (.int .u32 c_2), (.int .u8 c_3), (.int .u8 c_4), (.int .u8 c_5), (.int .u8 c_6), (.int .u8 c_7), (.int .u8 c_8), (.int .u8 c_9)])] w1427 fun e1429 w1430 =>
 ∃ n1431 : Int, ∃ n1432 : Int, ∃ n1433 : Int, ∃ n1434 : Int, ∃ n1435 : Int, ∃ n1436 : Int, ∃ n1437 : Int, ∃ n1438 : Int, ∃ n1439 : Int, ∃ n1440 : Int, (e1429 = .returned (.agg #[(.int .u8 n1431), (.int .u16 n1432), (.int .u32 n1433), (.int .u8 n1434), (.int .u8 n1435), (.int .u8 n1436), (.int .u8 n1437), (.int .u8 n1438), (.int .u8 n1439), (.int .u8 n1440)])) ∧
 (X.Kept L1428 w1427 w1430) ∧
 (X.FactsW x2 w1430 (L1428)) ∧
 ∀ w1441 : World, ∀ L1442 : List Nat, (X.Hid (L1428) w1430 w1441) →
 (X.NewL (w).heap.size (L1428) w1430 w1441 L1442) →
 (([(.int .u8 a_0), (.int .u16 a_1), (.int .u32 a_2), (.int .u8 a_3), (.int .u8 a_4), (.int .u8 a_5), (.int .u8 a_6), (.int .u8 a_7), (.int .u8 a_8), (.int .u8 a_9)] : List Value) = [(.int .u8 a_0), (.int .u16 a_1), (.int .u32 a_2), (.int .u8 a_3), (.int .u8 a_4), (.int .u8 a_5), (.int .u8 a_6), (.int .u8 a_7), (.int .u8 a_8), (.int .u8 a_9)]) ∧
 (([(.int .u8 b_0), (.int .u16 b_1), (.int .u32 b_2), (.int .u8 b_3), (.int .u8 b_4), (.int .u8 b_5), (.int .u8 b_6), (.int .u8 b_7), (.int .u8 b_8), (.int .u8 b_9)] : List Value) = [(.int .u8 b_0), (.int .u16 b_1), (.int .u32 b_2), (.int .u8 b_3), (.int .u8 b_4), (.int .u8 b_5), (.int .u8 b_6), (.int .u8 b_7), (.int .u8 b_8), (.int .u8 b_9)]) ∧
 (([(.int .u8 c_0), (.int .u16 c_1), (.int .u32 c_2), (.int .u8 c_3), (.int .u8 c_4), (.int .u8 c_5), (.int .u8 c_6), (.int .u8 c_7), (.int .u8 c_8), (.int .u8 c_9)] : List Value) = [(.int .u8 c_0), (.int .u16 c_1), (.int .u32 c_2), (.int .u8 c_3), (.int .u8 c_4), (.int .u8 c_5), (.int .u8 c_6), (.int .u8 c_7), (.int .u8 c_8), (.int .u8 c_9)]) ∧
 x1 n1391 n1392 n1393 n1394 n1395 n1396 n1397 n1398 n1399 n1400 n1403 n1404 n1405 n1406 n1407 n1408 n1409 n1410 n1411 n1412 n1431 n1432 n1433 n1434 n1435 n1436 n1437 n1438 n1439 n1440 w1441 (L1442)) ∧
 ∀ w1443 : World, ∀ L1444 : List Nat, (X.Hid (L1388) w1390 w1443) →
 (X.NewL (w).heap.size (L1388) w1390 w1443 L1444) →
 X.CallX Try.prog 9 #[(.agg #[(.int .u8 b_0), (.int .u16 b_1), (.int .u32 b_2), (.int .u8 b_3), (.int .u8 b_4), (.int .u8 b_5), (.int .u8 b_6), (.int .u8 b_7), (.int .u8 b_8), (.int .u8 b_9)])] w1443 fun e1445 w1446 =>
 ∃ n1447 : Int, ∃ n1448 : Int, ∃ n1449 : Int, ∃ n1450 : Int, ∃ n1451 : Int, ∃ n1452 : Int, ∃ n1453 : Int, ∃ n1454 : Int, ∃ n1455 : Int, ∃ n1456 : Int, (e1445 = .returned (.agg #[(.int .u8 n1447), (.int .u16 n1448), (.int .u32 n1449), (.int .u8 n1450), (.int .u8 n1451), (.int .u8 n1452), (.int .u8 n1453), (.int .u8 n1454), (.int .u8 n1455), (.int .u8 n1456)])) ∧
 (X.Kept L1444 w1443 w1446) ∧
 (X.FactsW x2 w1446 (L1444)) ∧
 X.CallX Try.prog 9 #[(.agg #[(.int .u8 c_0), (.int .u16 c_1), (.int .u32 c_2), (.int .u8 c_3), (.int .u8 c_4), (.int .u8 c_5), (.int .u8 c_6), (.int .u8 c_7), (.int .u8 c_8), (.int .u8 c_9)])] w1446 fun e1457 w1458 =>
 ∃ n1459 : Int, ∃ n1460 : Int, ∃ n1461 : Int, ∃ n1462 : Int, ∃ n1463 : Int, ∃ n1464 : Int, ∃ n1465 : Int, ∃ n1466 : Int, ∃ n1467 : Int, ∃ n1468 : Int, (e1457 = .returned (.agg #[(.int .u8 n1459), (.int .u16 n1460), (.int .u32 n1461), (.int .u8 n1462), (.int .u8 n1463), (.int .u8 n1464), (.int .u8 n1465), (.int .u8 n1466), (.int .u8 n1467), (.int .u8 n1468)])) ∧
 (X.Kept L1444 w1446 w1458) ∧
 (X.FactsW x2 w1458 (L1444)) ∧
 ∀ w1469 : World, ∀ L1470 : List Nat, (X.Hid (L1444) w1458 w1469) →
 (X.NewL (w).heap.size (L1444) w1458 w1469 L1470) →
 (([(.int .u8 a_0), (.int .u16 a_1), (.int .u32 a_2), (.int .u8 a_3), (.int .u8 a_4), (.int .u8 a_5), (.int .u8 a_6), (.int .u8 a_7), (.int .u8 a_8), (.int .u8 a_9)] : List Value) = [(.int .u8 a_0), (.int .u16 a_1), (.int .u32 a_2), (.int .u8 a_3), (.int .u8 a_4), (.int .u8 a_5), (.int .u8 a_6), (.int .u8 a_7), (.int .u8 a_8), (.int .u8 a_9)]) ∧
 (([(.int .u8 b_0), (.int .u16 b_1), (.int .u32 b_2), (.int .u8 b_3), (.int .u8 b_4), (.int .u8 b_5), (.int .u8 b_6), (.int .u8 b_7), (.int .u8 b_8), (.int .u8 b_9)] : List Value) = [(.int .u8 b_0), (.int .u16 b_1), (.int .u32 b_2), (.int .u8 b_3), (.int .u8 b_4), (.int .u8 b_5), (.int .u8 b_6), (.int .u8 b_7), (.int .u8 b_8), (.int .u8 b_9)]) ∧
 (([(.int .u8 c_0), (.int .u16 c_1), (.int .u32 c_2), (.int .u8 c_3), (.int .u8 c_4), (.int .u8 c_5), (.int .u8 c_6), (.int .u8 c_7), (.int .u8 c_8), (.int .u8 c_9)] : List Value) = [(.int .u8 c_0), (.int .u16 c_1), (.int .u32 c_2), (.int .u8 c_3), (.int .u8 c_4), (.int .u8 c_5), (.int .u8 c_6), (.int .u8 c_7), (.int .u8 c_8), (.int .u8 c_9)]) ∧
 x1 n1391 n1392 n1393 n1394 n1395 n1396 n1397 n1398 n1399 n1400 n1447 n1448 n1449 n1450 n1451 n1452 n1453 n1454 n1455 n1456 n1459 n1460 n1461 n1462 n1463 n1464 n1465 n1466 n1467 n1468 w1469 (L1470)) ∧
 ∀ w1471 : World, ∀ L1472 : List Nat, (X.Hid [] w w1471) →
 (X.NewL (w).heap.size [] w w1471 L1472) →
 X.CallX Try.prog 9 #[(.agg #[(.int .u8 a_0), (.int .u16 a_1), (.int .u32 a_2), (.int .u8 a_3), (.int .u8 a_4), (.int .u8 a_5), (.int .u8 a_6), (.int .u8 a_7), (.int .u8 a_8), (.int .u8 a_9)])] w1471 fun e1473 w1474 =>
 ∃ n1475 : Int, ∃ n1476 : Int, ∃ n1477 : Int, ∃ n1478 : Int, ∃ n1479 : Int, ∃ n1480 : Int, ∃ n1481 : Int, ∃ n1482 : Int, ∃ n1483 : Int, ∃ n1484 : Int, (e1473 = .returned (.agg #[(.int .u8 n1475), (.int .u16 n1476), (.int .u32 n1477), (.int .u8 n1478), (.int .u8 n1479), (.int .u8 n1480), (.int .u8 n1481), (.int .u8 n1482), (.int .u8 n1483), (.int .u8 n1484)])) ∧
 (X.Kept L1472 w1471 w1474) ∧
 (X.FactsW x2 w1474 (L1472)) ∧
 X.CallX Try.prog 9 #[(.agg #[(.int .u8 b_0), (.int .u16 b_1), (.int .u32 b_2), (.int .u8 b_3), (.int .u8 b_4), (.int .u8 b_5), (.int .u8 b_6), (.int .u8 b_7), (.int .u8 b_8), (.int .u8 b_9)])] w1474 fun e1485 w1486 =>
 ∃ n1487 : Int, ∃ n1488 : Int, ∃ n1489 : Int, ∃ n1490 : Int, ∃ n1491 : Int, ∃ n1492 : Int, ∃ n1493 : Int, ∃ n1494 : Int, ∃ n1495 : Int, ∃ n1496 : Int, (e1485 = .returned (.agg #[(.int .u8 n1487), (.int .u16 n1488), (.int .u32 n1489), (.int .u8 n1490), (.int .u8 n1491), (.int .u8 n1492), (.int .u8 n1493), (.int .u8 n1494), (.int .u8 n1495), (.int .u8 n1496)])) ∧
 (X.Kept L1472 w1474 w1486) ∧
 (X.FactsW x2 w1486 (L1472)) ∧
 X.CallX Try.prog 9 #[(.agg #[(.int .u8 c_0), (.int .u16 c_1), (.int .u32 c_2), (.int .u8 c_3), (.int .u8 c_4), (.int .u8 c_5), (.int .u8 c_6), (.int .u8 c_7), (.int .u8 c_8), (.int .u8 c_9)])] w1486 fun e1497 w1498 =>
 ∃ n1499 : Int, ∃ n1500 : Int, ∃ n1501 : Int, ∃ n1502 : Int, ∃ n1503 : Int, ∃ n1504 : Int, ∃ n1505 : Int, ∃ n1506 : Int, ∃ n1507 : Int, ∃ n1508 : Int, (e1497 = .returned (.agg #[(.int .u8 n1499), (.int .u16 n1500), (.int .u32 n1501), (.int .u8 n1502), (.int .u8 n1503), (.int .u8 n1504), (.int .u8 n1505), (.int .u8 n1506), (.int .u8 n1507), (.int .u8 n1508)])) ∧
 (X.Kept L1472 w1486 w1498) ∧
 (X.FactsW x2 w1498 (L1472)) ∧
 ∀ w1509 : World, ∀ L1510 : List Nat, (X.Hid (L1472) w1498 w1509) →
 (X.NewL (w).heap.size (L1472) w1498 w1509 L1510) →
 (([(.int .u8 a_0), (.int .u16 a_1), (.int .u32 a_2), (.int .u8 a_3), (.int .u8 a_4), (.int .u8 a_5), (.int .u8 a_6), (.int .u8 a_7), (.int .u8 a_8), (.int .u8 a_9)] : List Value) = [(.int .u8 a_0), (.int .u16 a_1), (.int .u32 a_2), (.int .u8 a_3), (.int .u8 a_4), (.int .u8 a_5), (.int .u8 a_6), (.int .u8 a_7), (.int .u8 a_8), (.int .u8 a_9)]) ∧
 (([(.int .u8 b_0), (.int .u16 b_1), (.int .u32 b_2), (.int .u8 b_3), (.int .u8 b_4), (.int .u8 b_5), (.int .u8 b_6), (.int .u8 b_7), (.int .u8 b_8), (.int .u8 b_9)] : List Value) = [(.int .u8 b_0), (.int .u16 b_1), (.int .u32 b_2), (.int .u8 b_3), (.int .u8 b_4), (.int .u8 b_5), (.int .u8 b_6), (.int .u8 b_7), (.int .u8 b_8), (.int .u8 b_9)]) ∧
 (([(.int .u8 c_0), (.int .u16 c_1), (.int .u32 c_2), (.int .u8 c_3), (.int .u8 c_4), (.int .u8 c_5), (.int .u8 c_6), (.int .u8 c_7), (.int .u8 c_8), (.int .u8 c_9)] : List Value) = [(.int .u8 c_0), (.int .u16 c_1), (.int .u32 c_2), (.int .u8 c_3), (.int .u8 c_4), (.int .u8 c_5), (.int .u8 c_6), (.int .u8 c_7), (.int .u8 c_8), (.int .u8 c_9)]) ∧
 x1 n1475 n1476 n1477 n1478 n1479 n1480 n1481 n1482 n1483 n1484 n1487 n1488 n1489 n1490 n1491 n1492 n1493 n1494 n1495 n1496 n1499 n1500 n1501 n1502 n1503 n1504 n1505 n1506 n1507 n1508 w1509 (L1510)) ∧
 ((∀ w1511 : World, ∀ L1512 : List Nat, (X.Hid [] w w1511) →
 (X.NewL (w).heap.size [] w w1511 L1512) →
 X.CallX Try.prog 9 #[(.agg #[(.int .u8 a_0), (.int .u16 a_1), (.int .u32 a_2), (.int .u8 a_3), (.int .u8 a_4), (.int .u8 a_5), (.int .u8 a_6), (.int .u8 a_7), (.int .u8 a_8), (.int .u8 a_9)])] w1511 fun e1513 w1514 =>
 ∃ n1515 : Int, ∃ n1516 : Int, ∃ n1517 : Int, ∃ n1518 : Int, ∃ n1519 : Int, ∃ n1520 : Int, ∃ n1521 : Int, ∃ n1522 : Int, ∃ n1523 : Int, ∃ n1524 : Int, (e1513 = .returned (.agg #[(.int .u8 n1515), (.int .u16 n1516), (.int .u32 n1517), (.int .u8 n1518), (.int .u8 n1519), (.int .u8 n1520), (.int .u8 n1521), (.int .u8 n1522), (.int .u8 n1523), (.int .u8 n1524)])) ∧
 (X.Kept L1512 w1511 w1514) ∧
 (X.FactsW x2 w1514 (L1512)) ∧
 (X.CallX Try.prog 9 #[(.agg #[(.int .u8 b_0), (.int .u16 b_1), (.int .u32 b_2), (.int .u8 b_3), (.int .u8 b_4), (.int .u8 b_5), (.int .u8 b_6), (.int .u8 b_7), (.int .u8 b_8), (.int .u8 b_9)])] w1514 fun e1525 w1526 =>
 ∃ n1527 : Int, ∃ n1528 : Int, ∃ n1529 : Int, ∃ n1530 : Int, ∃ n1531 : Int, ∃ n1532 : Int, ∃ n1533 : Int, ∃ n1534 : Int, ∃ n1535 : Int, ∃ n1536 : Int, (e1525 = .returned (.agg #[(.int .u8 n1527), (.int .u16 n1528), (.int .u32 n1529), (.int .u8 n1530), (.int .u8 n1531), (.int .u8 n1532), (.int .u8 n1533), (.int .u8 n1534), (.int .u8 n1535), (.int .u8 n1536)])) ∧
 (X.Kept L1512 w1514 w1526) ∧
 (X.FactsW x2 w1526 (L1512)) ∧
 (X.CallX Try.prog 9 #[(.agg #[(.int .u8 c_0), (.int .u16 c_1), (.int .u32 c_2), (.int .u8 c_3), (.int .u8 c_4), (.int .u8 c_5), (.int .u8 c_6), (.int .u8 c_7), (.int .u8 c_8), (.int .u8 c_9)])] w1526 fun e1537 w1538 =>
 ∃ n1539 : Int, ∃ n1540 : Int, ∃ n1541 : Int, ∃ n1542 : Int, ∃ n1543 : Int, ∃ n1544 : Int, ∃ n1545 : Int, ∃ n1546 : Int, ∃ n1547 : Int, ∃ n1548 : Int, (e1537 = .returned (.agg #[(.int .u8 n1539), (.int .u16 n1540), (.int .u32 n1541), (.int .u8 n1542), (.int .u8 n1543), (.int .u8 n1544), (.int .u8 n1545), (.int .u8 n1546), (.int .u8 n1547), (.int .u8 n1548)])) ∧
 (X.Kept L1512 w1526 w1538) ∧
 (X.FactsW x2 w1538 (L1512)) ∧
 (∀ w1549 : World, ∀ L1550 : List Nat, (X.Hid (L1512) w1538 w1549) →
 (X.NewL (w).heap.size (L1512) w1538 w1549 L1550) →
 (([(.int .u8 a_0), (.int .u16 a_1), (.int .u32 a_2), (.int .u8 a_3), (.int .u8 a_4), (.int .u8 a_5), (.int .u8 a_6), (.int .u8 a_7), (.int .u8 a_8), (.int .u8 a_9)] : List Value) = [(.int .u8 a_0), (.int .u16 a_1), (.int .u32 a_2), (.int .u8 a_3), (.int .u8 a_4), (.int .u8 a_5), (.int .u8 a_6), (.int .u8 a_7), (.int .u8 a_8), (.int .u8 a_9)]) ∧
 (([(.int .u8 b_0), (.int .u16 b_1), (.int .u32 b_2), (.int .u8 b_3), (.int .u8 b_4), (.int .u8 b_5), (.int .u8 b_6), (.int .u8 b_7), (.int .u8 b_8), (.int .u8 b_9)] : List Value) = [(.int .u8 b_0), (.int .u16 b_1), (.int .u32 b_2), (.int .u8 b_3), (.int .u8 b_4), (.int .u8 b_5), (.int .u8 b_6), (.int .u8 b_7), (.int .u8 b_8), (.int .u8 b_9)]) ∧
 (([(.int .u8 c_0), (.int .u16 c_1), (.int .u32 c_2), (.int .u8 c_3), (.int .u8 c_4), (.int .u8 c_5), (.int .u8 c_6), (.int .u8 c_7), (.int .u8 c_8), (.int .u8 c_9)] : List Value) = [(.int .u8 c_0), (.int .u16 c_1), (.int .u32 c_2), (.int .u8 c_3), (.int .u8 c_4), (.int .u8 c_5), (.int .u8 c_6), (.int .u8 c_7), (.int .u8 c_8), (.int .u8 c_9)]) ∧
 x1 n1515 n1516 n1517 n1518 n1519 n1520 n1521 n1522 n1523 n1524 n1527 n1528 n1529 n1530 n1531 n1532 n1533 n1534 n1535 n1536 n1539 n1540 n1541 n1542 n1543 n1544 n1545 n1546 n1547 n1548 w1549 (L1550)) ∧
 ∀ w1551 : World, ∀ L1552 : List Nat, (X.Hid (L1512) w1538 w1551) →
 (X.NewL (w).heap.size (L1512) w1538 w1551 L1552) →
 (([(.int .u8 a_0), (.int .u16 a_1), (.int .u32 a_2), (.int .u8 a_3), (.int .u8 a_4), (.int .u8 a_5), (.int .u8 a_6), (.int .u8 a_7), (.int .u8 a_8), (.int .u8 a_9)] : List Value) = [(.int .u8 a_0), (.int .u16 a_1), (.int .u32 a_2), (.int .u8 a_3), (.int .u8 a_4), (.int .u8 a_5), (.int .u8 a_6), (.int .u8 a_7), (.int .u8 a_8), (.int .u8 a_9)]) ∧
 (([(.int .u8 b_0), (.int .u16 b_1), (.int .u32 b_2), (.int .u8 b_3), (.int .u8 b_4), (.int .u8 b_5), (.int .u8 b_6), (.int .u8 b_7), (.int .u8 b_8), (.int .u8 b_9)] : List Value) = [(.int .u8 b_0), (.int .u16 b_1), (.int .u32 b_2), (.int .u8 b_3), (.int .u8 b_4), (.int .u8 b_5), (.int .u8 b_6), (.int .u8 b_7), (.int .u8 b_8), (.int .u8 b_9)]) ∧
 (([(.int .u8 c_0), (.int .u16 c_1), (.int .u32 c_2), (.int .u8 c_3), (.int .u8 c_4), (.int .u8 c_5), (.int .u8 c_6), (.int .u8 c_7), (.int .u8 c_8), (.int .u8 c_9)] : List Value) = [(.int .u8 c_0), (.int .u16 c_1), (.int .u32 c_2), (.int .u8 c_3), (.int .u8 c_4), (.int .u8 c_5), (.int .u8 c_6), (.int .u8 c_7), (.int .u8 c_8), (.int .u8 c_9)]) ∧
 x1 n1515 n1516 n1517 n1518 n1519 n1520 n1521 n1522 n1523 n1524 n1527 n1528 n1529 n1530 n1531 n1532 n1533 n1534 n1535 n1536 n1539 n1540 n1541 n1542 n1543 n1544 n1545 n1546 n1547 n1548 w1551 (L1552)) ∧
 ((∀ w1553 : World, ∀ L1554 : List Nat, (X.Hid (L1512) w1526 w1553) →
 (X.NewL (w).heap.size (L1512) w1526 w1553 L1554) →
 X.CallX Try.prog 9 #[(.agg #[(.int .u8 c_0), (.int .u16 c_1), (.int .u32 c_2), (.int .u8 c_3), (.int .u8 c_4), (.int .u8 c_5), (.int .u8 c_6), (.int .u8 c_7), (.int .u8 c_8), (.int .u8 c_9)])] w1553 fun e1555 w1556 =>
 ∃ n1557 : Int, ∃ n1558 : Int, ∃ n1559 : Int, ∃ n1560 : Int, ∃ n1561 : Int, ∃ n1562 : Int, ∃ n1563 : Int, ∃ n1564 : Int, ∃ n1565 : Int, ∃ n1566 : Int, (e1555 = .returned (.agg #[(.int .u8 n1557), (.int .u16 n1558), (.int .u32 n1559), (.int .u8 n1560), (.int .u8 n1561), (.int .u8 n1562), (.int .u8 n1563), (.int .u8 n1564), (.int .u8 n1565), (.int .u8 n1566)])) ∧
 (X.Kept L1554 w1553 w1556) ∧
 (X.FactsW x2 w1556 (L1554)) ∧
 ∀ w1567 : World, ∀ L1568 : List Nat, (X.Hid (L1554) w1556 w1567) →
 (X.NewL (w).heap.size (L1554) w1556 w1567 L1568) →
 (([(.int .u8 a_0), (.int .u16 a_1), (.int .u32 a_2), (.int .u8 a_3), (.int .u8 a_4), (.int .u8 a_5), (.int .u8 a_6), (.int .u8 a_7), (.int .u8 a_8), (.int .u8 a_9)] : List Value) = [(.int .u8 a_0), (.int .u16 a_1), (.int .u32 a_2), (.int .u8 a_3), (.int .u8 a_4), (.int .u8 a_5), (.int .u8 a_6), (.int .u8 a_7), (.int .u8 a_8), (.int .u8 a_9)]) ∧
 (([(.int .u8 b_0), (.int .u16 b_1), (.int .u32 b_2), (.int .u8 b_3), (.int .u8 b_4), (.int .u8 b_5), (.int .u8 b_6), (.int .u8 b_7), (.int .u8 b_8), (.int .u8 b_9)] : List Value) = [(.int .u8 b_0), (.int .u16 b_1), (.int .u32 b_2), (.int .u8 b_3), (.int .u8 b_4), (.int .u8 b_5), (.int .u8 b_6), (.int .u8 b_7), (.int .u8 b_8), (.int .u8 b_9)]) ∧
 (([(.int .u8 c_0), (.int .u16 c_1), (.int .u32 c_2), (.int .u8 c_3), (.int .u8 c_4), (.int .u8 c_5), (.int .u8 c_6), (.int .u8 c_7), (.int .u8 c_8), (.int .u8 c_9)] : List Value) = [(.int .u8 c_0), (.int .u16 c_1), (.int .u32 c_2), (.int .u8 c_3), (.int .u8 c_4), (.int .u8 c_5), (.int .u8 c_6), (.int .u8 c_7), (.int .u8 c_8), (.int .u8 c_9)]) ∧
 x1 n1515 n1516 n1517 n1518 n1519 n1520 n1521 n1522 n1523 n1524 n1527 n1528 n1529 n1530 n1531 n1532 n1533 n1534 n1535 n1536 n1557 n1558 n1559 n1560 n1561 n1562 n1563 n1564 n1565 n1566 w1567 (L1568)) ∧
 ∀ w1569 : World, ∀ L1570 : List Nat, (X.Hid (L1512) w1526 w1569) →
 (X.NewL (w).heap.size (L1512) w1526 w1569 L1570) →
 X.CallX Try.prog 9 #[(.agg #[(.int .u8 c_0), (.int .u16 c_1), (.int .u32 c_2), (.int .u8 c_3), (.int .u8 c_4), (.int .u8 c_5), (.int .u8 c_6), (.int .u8 c_7), (.int .u8 c_8), (.int .u8 c_9)])] w1569 fun e1571 w1572 =>
 ∃ n1573 : Int, ∃ n1574 : Int, ∃ n1575 : Int, ∃ n1576 : Int, ∃ n1577 : Int, ∃ n1578 : Int, ∃ n1579 : Int, ∃ n1580 : Int, ∃ n1581 : Int, ∃ n1582 : Int, (e1571 = .returned (.agg #[(.int .u8 n1573), (.int .u16 n1574), (.int .u32 n1575), (.int .u8 n1576), (.int .u8 n1577), (.int .u8 n1578), (.int .u8 n1579), (.int .u8 n1580), (.int .u8 n1581), (.int .u8 n1582)])) ∧
 (X.Kept L1570 w1569 w1572) ∧
 (X.FactsW x2 w1572 (L1570)) ∧
 ∀ w1583 : World, ∀ L1584 : List Nat, (X.Hid (L1570) w1572 w1583) →
 (X.NewL (w).heap.size (L1570) w1572 w1583 L1584) →
 (([(.int .u8 a_0), (.int .u16 a_1), (.int .u32 a_2), (.int .u8 a_3), (.int .u8 a_4), (.int .u8 a_5), (.int .u8 a_6), (.int .u8 a_7), (.int .u8 a_8), (.int .u8 a_9)] : List Value) = [(.int .u8 a_0), (.int .u16 a_1), (.int .u32 a_2), (.int .u8 a_3), (.int .u8 a_4), (.int .u8 a_5), (.int .u8 a_6), (.int .u8 a_7), (.int .u8 a_8), (.int .u8 a_9)]) ∧
 (([(.int .u8 b_0), (.int .u16 b_1), (.int .u32 b_2), (.int .u8 b_3), (.int .u8 b_4), (.int .u8 b_5), (.int .u8 b_6), (.int .u8 b_7), (.int .u8 b_8), (.int .u8 b_9)] : List Value) = [(.int .u8 b_0), (.int .u16 b_1), (.int .u32 b_2), (.int .u8 b_3), (.int .u8 b_4), (.int .u8 b_5), (.int .u8 b_6), (.int .u8 b_7), (.int .u8 b_8), (.int .u8 b_9)]) ∧
 (([(.int .u8 c_0), (.int .u16 c_1), (.int .u32 c_2), (.int .u8 c_3), (.int .u8 c_4), (.int .u8 c_5), (.int .u8 c_6), (.int .u8 c_7), (.int .u8 c_8), (.int .u8 c_9)] : List Value) = [(.int .u8 c_0), (.int .u16 c_1), (.int .u32 c_2), (.int .u8 c_3), (.int .u8 c_4), (.int .u8 c_5), (.int .u8 c_6), (.int .u8 c_7), (.int .u8 c_8), (.int .u8 c_9)]) ∧
 x1 n1515 n1516 n1517 n1518 n1519 n1520 n1521 n1522 n1523 n1524 n1527 n1528 n1529 n1530 n1531 n1532 n1533 n1534 n1535 n1536 n1573 n1574 n1575 n1576 n1577 n1578 n1579 n1580 n1581 n1582 w1583 (L1584)) ∧
 (∀ w1585 : World, ∀ L1586 : List Nat, (X.Hid (L1512) w1526 w1585) →
 (X.NewL (w).heap.size (L1512) w1526 w1585 L1586) →
 X.CallX Try.prog 9 #[(.agg #[(.int .u8 c_0), (.int .u16 c_1), (.int .u32 c_2), (.int .u8 c_3), (.int .u8 c_4), (.int .u8 c_5), (.int .u8 c_6), (.int .u8 c_7), (.int .u8 c_8), (.int .u8 c_9)])] w1585 fun e1587 w1588 =>
 ∃ n1589 : Int, ∃ n1590 : Int, ∃ n1591 : Int, ∃ n1592 : Int, ∃ n1593 : Int, ∃ n1594 : Int, ∃ n1595 : Int, ∃ n1596 : Int, ∃ n1597 : Int, ∃ n1598 : Int, (e1587 = .returned (.agg #[(.int .u8 n1589), (.int .u16 n1590), (.int .u32 n1591), (.int .u8 n1592), (.int .u8 n1593), (.int .u8 n1594), (.int .u8 n1595), (.int .u8 n1596), (.int .u8 n1597), (.int .u8 n1598)])) ∧
 (X.Kept L1586 w1585 w1588) ∧
 (X.FactsW x2 w1588 (L1586)) ∧
 ∀ w1599 : World, ∀ L1600 : List Nat, (X.Hid (L1586) w1588 w1599) →
 (X.NewL (w).heap.size (L1586) w1588 w1599 L1600) →
 (([(.int .u8 a_0), (.int .u16 a_1), (.int .u32 a_2), (.int .u8 a_3), (.int .u8 a_4), (.int .u8 a_5), (.int .u8 a_6), (.int .u8 a_7), (.int .u8 a_8), (.int .u8 a_9)] : List Value) = [(.int .u8 a_0), (.int .u16 a_1), (.int .u32 a_2), (.int .u8 a_3), (.int .u8 a_4), (.int .u8 a_5), (.int .u8 a_6), (.int .u8 a_7), (.int .u8 a_8), (.int .u8 a_9)]) ∧
 (([(.int .u8 b_0), (.int .u16 b_1), (.int .u32 b_2), (.int .u8 b_3), (.int .u8 b_4), (.int .u8 b_5), (.int .u8 b_6), (.int .u8 b_7), (.int .u8 b_8), (.int .u8 b_9)] : List Value) = [(.int .u8 b_0), (.int .u16 b_1), (.int .u32 b_2), (.int .u8 b_3), (.int .u8 b_4), (.int .u8 b_5), (.int .u8 b_6), (.int .u8 b_7), (.int .u8 b_8), (.int .u8 b_9)]) ∧
 (([(.int .u8 c_0), (.int .u16 c_1), (.int .u32 c_2), (.int .u8 c_3), (.int .u8 c_4), (.int .u8 c_5), (.int .u8 c_6), (.int .u8 c_7), (.int .u8 c_8), (.int .u8 c_9)] : List Value) = [(.int .u8 c_0), (.int .u16 c_1), (.int .u32 c_2), (.int .u8 c_3), (.int .u8 c_4), (.int .u8 c_5), (.int .u8 c_6), (.int .u8 c_7), (.int .u8 c_8), (.int .u8 c_9)]) ∧
 x1 n1515 n1516 n1517 n1518 n1519 n1520 n1521 n1522 n1523 n1524 n1527 n1528 n1529 n1530 n1531 n1532 n1533 n1534 n1535 n1536 n1589 n1590 n1591 n1592 n1593 n1594 n1595 n1596 n1597 n1598 w1599 (L1600)) ∧
 ∀ w1601 : World, ∀ L1602 : List Nat, (X.Hid (L1512) w1526 w1601) →
 (X.NewL (w).heap.size (L1512) w1526 w1601 L1602) →
 X.CallX Try.prog 9 #[(.agg #[(.int .u8 c_0), (.int .u16 c_1), (.int .u32 c_2), (.int .u8 c_3), (.int .u8 c_4), (.int .u8 c_5), (.int .u8 c_6), (.int .u8 c_7), (.int .u8 c_8), (.int .u8 c_9)])] w1601 fun e1603 w1604 =>
 ∃ n1605 : Int, ∃ n1606 : Int, ∃ n1607 : Int, ∃ n1608 : Int, ∃ n1609 : Int, ∃ n1610 : Int, ∃ n1611 : Int, ∃ n1612 : Int, ∃ n1613 : Int, ∃ n1614 : Int, (e1603 = .returned (.agg #[(.int .u8 n1605), (.int .u16 n1606), (.int .u32 n1607), (.int .u8 n1608), (.int .u8 n1609), (.int .u8 n1610), (.int .u8 n1611), (.int .u8 n1612), (.int .u8 n1613), (.int .u8 n1614)])) ∧
 (X.Kept L1602 w1601 w1604) ∧
 (X.FactsW x2 w1604 (L1602)) ∧
 ∀ w1615 : World, ∀ L1616 : List Nat, (X.Hid (L1602) w1604 w1615) →
 (X.NewL (w).heap.size (L1602) w1604 w1615 L1616) →
 (([(.int .u8 a_0), (.int .u16 a_1), (.int .u32 a_2), (.int .u8 a_3), (.int .u8 a_4), (.int .u8 a_5), (.int .u8 a_6), (.int .u8 a_7), (.int .u8 a_8), (.int .u8 a_9)] : List Value) = [(.int .u8 a_0), (.int .u16 a_1), (.int .u32 a_2), (.int .u8 a_3), (.int .u8 a_4), (.int .u8 a_5), (.int .u8 a_6), (.int .u8 a_7), (.int .u8 a_8), (.int .u8 a_9)]) ∧
 (([(.int .u8 b_0), (.int .u16 b_1), (.int .u32 b_2), (.int .u8 b_3), (.int .u8 b_4), (.int .u8 b_5), (.int .u8 b_6), (.int .u8 b_7), (.int .u8 b_8), (.int .u8 b_9)] : List Value) = [(.int .u8 b_0), (.int .u16 b_1), (.int .u32 b_2), (.int .u8 b_3), (.int .u8 b_4), (.int .u8 b_5), (.int .u8 b_6), (.int .u8 b_7), (.int .u8 b_8), (.int .u8 b_9)]) ∧
 (([(.int .u8 c_0), (.int .u16 c_1), (.int .u32 c_2), (.int .u8 c_3), (.int .u8 c_4), (.int .u8 c_5), (.int .u8 c_6), (.int .u8 c_7), (.int .u8 c_8), (.int .u8 c_9)] : List Value) = [(.int .u8 c_0), (.int .u16 c_1), (.int .u32 c_2), (.int .u8 c_3), (.int .u8 c_4), (.int .u8 c_5), (.int .u8 c_6), (.int .u8 c_7), (.int .u8 c_8), (.int .u8 c_9)]) ∧
 x1 n1515 n1516 n1517 n1518 n1519 n1520 n1521 n1522 n1523 n1524 n1527 n1528 n1529 n1530 n1531 n1532 n1533 n1534 n1535 n1536 n1605 n1606 n1607 n1608 n1609 n1610 n1611 n1612 n1613 n1614 w1615 (L1616)) ∧
 ((∀ w1617 : World, ∀ L1618 : List Nat, (X.Hid (L1512) w1514 w1617) →
 (X.NewL (w).heap.size (L1512) w1514 w1617 L1618) →
 X.CallX Try.prog 9 #[(.agg #[(.int .u8 b_0), (.int .u16 b_1), (.int .u32 b_2), (.int .u8 b_3), (.int .u8 b_4), (.int .u8 b_5), (.int .u8 b_6), (.int .u8 b_7), (.int .u8 b_8), (.int .u8 b_9)])] w1617 fun e1619 w1620 =>
 ∃ n1621 : Int, ∃ n1622 : Int, ∃ n1623 : Int, ∃ n1624 : Int, ∃ n1625 : Int, ∃ n1626 : Int, ∃ n1627 : Int, ∃ n1628 : Int, ∃ n1629 : Int, ∃ n1630 : Int, (e1619 = .returned (.agg #[(.int .u8 n1621), (.int .u16 n1622), (.int .u32 n1623), (.int .u8 n1624), (.int .u8 n1625), (.int .u8 n1626), (.int .u8 n1627), (.int .u8 n1628), (.int .u8 n1629), (.int .u8 n1630)])) ∧
 (X.Kept L1618 w1617 w1620) ∧
 (X.FactsW x2 w1620 (L1618)) ∧
 (X.CallX Try.prog 9 #[(.agg #[(.int .u8 c_0), (.int .u16 c_1), (.int .u32 c_2), (.int .u8 c_3), (.int .u8 c_4), (.int .u8 c_5), (.int .u8 c_6), (.int .u8 c_7), (.int .u8 c_8), (.int .u8 c_9)])] w1620 fun e1631 w1632 =>
 ∃ n1633 : Int, ∃ n1634 : Int, ∃ n1635 : Int, ∃ n1636 : Int, ∃ n1637 : Int, ∃ n1638 : Int, ∃ n1639 : Int, ∃ n1640 : Int, ∃ n1641 : Int, ∃ n1642 : Int, (e1631 = .returned (.agg #[(.int .u8 n1633), (.int .u16 n1634), (.int .u32 n1635), (.int .u8 n1636), (.int .u8 n1637), (.int .u8 n1638), (.int .u8 n1639), (.int .u8 n1640), (.int .u8 n1641), (.int .u8 n1642)])) ∧
 (X.Kept L1618 w1620 w1632) ∧
 (X.FactsW x2 w1632 (L1618)) ∧
 ∀ w1643 : World, ∀ L1644 : List Nat, (X.Hid (L1618) w1632 w1643) →
 (X.NewL (w).heap.size (L1618) w1632 w1643 L1644) →
 (([(.int .u8 a_0), (.int .u16 a_1), (.int .u32 a_2), (.int .u8 a_3), (.int .u8 a_4), (.int .u8 a_5), (.int .u8 a_6), (.int .u8 a_7), (.int .u8 a_8), (.int .u8 a_9)] : List Value) = [(.int .u8 a_0), (.int .u16 a_1), (.int .u32 a_2), (.int .u8 a_3), (.int .u8 a_4), (.int .u8 a_5), (.int .u8 a_6), (.int .u8 a_7), (.int .u8 a_8), (.int .u8 a_9)]) ∧
 (([(.int .u8 b_0), (.int .u16 b_1), (.int .u32 b_2), (.int .u8 b_3), (.int .u8 b_4), (.int .u8 b_5), (.int .u8 b_6), (.int .u8 b_7), (.int .u8 b_8), (.int .u8 b_9)] : List Value) = [(.int .u8 b_0), (.int .u16 b_1), (.int .u32 b_2), (.int .u8 b_3), (.int .u8 b_4), (.int .u8 b_5), (.int .u8 b_6), (.int .u8 b_7), (.int .u8 b_8), (.int .u8 b_9)]) ∧
 (([(.int .u8 c_0), (.int .u16 c_1), (.int .u32 c_2), (.int .u8 c_3), (.int .u8 c_4), (.int .u8 c_5), (.int .u8 c_6), (.int .u8 c_7), (.int .u8 c_8), (.int .u8 c_9)] : List Value) = [(.int .u8 c_0), (.int .u16 c_1), (.int .u32 c_2), (.int .u8 c_3), (.int .u8 c_4), (.int .u8 c_5), (.int .u8 c_6), (.int .u8 c_7), (.int .u8 c_8), (.int .u8 c_9)]) ∧
 x1 n1515 n1516 n1517 n1518 n1519 n1520 n1521 n1522 n1523 n1524 n1621 n1622 n1623 n1624 n1625 n1626 n1627 n1628 n1629 n1630 n1633 n1634 n1635 n1636 n1637 n1638 n1639 n1640 n1641 n1642 w1643 (L1644)) ∧
 ∀ w1645 : World, ∀ L1646 : List Nat, (X.Hid (L1618) w1620 w1645) →
 (X.NewL (w).heap.size (L1618) w1620 w1645 L1646) →
 X.CallX Try.prog 9 #[(.agg #[(.int .u8 c_0), (.int .u16 c_1), (.int .u32 c_2), (.int .u8 c_3), (.int .u8 c_4), (.int .u8 c_5), (.int .u8 c_6), (.int .u8 c_7), (.int .u8 c_8), (.int .u8 c_9)])] w1645 fun e1647 w1648 =>
 ∃ n1649 : Int, ∃ n1650 : Int, ∃ n1651 : Int, ∃ n1652 : Int, ∃ n1653 : Int, ∃ n1654 : Int, ∃ n1655 : Int, ∃ n1656 : Int, ∃ n1657 : Int, ∃ n1658 : Int, (e1647 = .returned (.agg #[(.int .u8 n1649), (.int .u16 n1650), (.int .u32 n1651), (.int .u8 n1652), (.int .u8 n1653), (.int .u8 n1654), (.int .u8 n1655), (.int .u8 n1656), (.int .u8 n1657), (.int .u8 n1658)])) ∧
 (X.Kept L1646 w1645 w1648) ∧
 (X.FactsW x2 w1648 (L1646)) ∧
 ∀ w1659 : World, ∀ L1660 : List Nat, (X.Hid (L1646) w1648 w1659) →
 (X.NewL (w).heap.size (L1646) w1648 w1659 L1660) →
 (([(.int .u8 a_0), (.int .u16 a_1), (.int .u32 a_2), (.int .u8 a_3), (.int .u8 a_4), (.int .u8 a_5), (.int .u8 a_6), (.int .u8 a_7), (.int .u8 a_8), (.int .u8 a_9)] : List Value) = [(.int .u8 a_0), (.int .u16 a_1), (.int .u32 a_2), (.int .u8 a_3), (.int .u8 a_4), (.int .u8 a_5), (.int .u8 a_6), (.int .u8 a_7), (.int .u8 a_8), (.int .u8 a_9)]) ∧
 (([(.int .u8 b_0), (.int .u16 b_1), (.int .u32 b_2), (.int .u8 b_3), (.int .u8 b_4), (.int .u8 b_5), (.int .u8 b_6), (.int .u8 b_7), (.int .u8 b_8), (.int .u8 b_9)] : List Value) = [(.int .u8 b_0), (.int .u16 b_1), (.int .u32 b_2), (.int .u8 b_3), (.int .u8 b_4), (.int .u8 b_5), (.int .u8 b_6), (.int .u8 b_7), (.int .u8 b_8), (.int .u8 b_9)]) ∧
 (([(.int .u8 c_0), (.int .u16 c_1), (.int .u32 c_2), (.int .u8 c_3), (.int .u8 c_4), (.int .u8 c_5), (.int .u8 c_6), (.int .u8 c_7), (.int .u8 c_8), (.int .u8 c_9)] : List Value) = [(.int .u8 c_0), (.int .u16 c_1), (.int .u32 c_2), (.int .u8 c_3), (.int .u8 c_4), (.int .u8 c_5), (.int .u8 c_6), (.int .u8 c_7), (.int .u8 c_8), (.int .u8 c_9)]) ∧
 x1 n1515 n1516 n1517 n1518 n1519 n1520 n1521 n1522 n1523 n1524 n1621 n1622 n1623 n1624 n1625 n1626 n1627 n1628 n1629 n1630 n1649 n1650 n1651 n1652 n1653 n1654 n1655 n1656 n1657 n1658 w1659 (L1660)) ∧
 ∀ w1661 : World, ∀ L1662 : List Nat, (X.Hid (L1512) w1514 w1661) →
 (X.NewL (w).heap.size (L1512) w1514 w1661 L1662) →
 X.CallX Try.prog 9 #[(.agg #[(.int .u8 b_0), (.int .u16 b_1), (.int .u32 b_2), (.int .u8 b_3), (.int .u8 b_4), (.int .u8 b_5), (.int .u8 b_6), (.int .u8 b_7), (.int .u8 b_8), (.int .u8 b_9)])] w1661 fun e1663 w1664 =>
 ∃ n1665 : Int, ∃ n1666 : Int, ∃ n1667 : Int, ∃ n1668 : Int, ∃ n1669 : Int, ∃ n1670 : Int, ∃ n1671 : Int, ∃ n1672 : Int, ∃ n1673 : Int, ∃ n1674 : Int, (e1663 = .returned (.agg #[(.int .u8 n1665), (.int .u16 n1666), (.int .u32 n1667), (.int .u8 n1668), (.int .u8 n1669), (.int .u8 n1670), (.int .u8 n1671), (.int .u8 n1672), (.int .u8 n1673), (.int .u8 n1674)])) ∧
 (X.Kept L1662 w1661 w1664) ∧
 (X.FactsW x2 w1664 (L1662)) ∧
 X.CallX Try.prog 9 #[(.agg #[(.int .u8 c_0), (.int .u16 c_1), (.int .u32 c_2), (.int .u8 c_3), (.int .u8 c_4), (.int .u8 c_5), (.int .u8 c_6), (.int .u8 c_7), (.int .u8 c_8), (.int .u8 c_9)])] w1664 fun e1675 w1676 =>
 ∃ n1677 : Int, ∃ n1678 : Int, ∃ n1679 : Int, ∃ n1680 : Int, ∃ n1681 : Int, ∃ n1682 : Int, ∃ n1683 : Int, ∃ n1684 : Int, ∃ n1685 : Int, ∃ n1686 : Int, (e1675 = .returned (.agg #[(.int .u8 n1677), (.int .u16 n1678), (.int .u32 n1679), (.int .u8 n1680), (.int .u8 n1681), (.int .u8 n1682), (.int .u8 n1683), (.int .u8 n1684), (.int .u8 n1685), (.int .u8 n1686)])) ∧
 (X.Kept L1662 w1664 w1676) ∧
 (X.FactsW x2 w1676 (L1662)) ∧
 ∀ w1687 : World, ∀ L1688 : List Nat, (X.Hid (L1662) w1676 w1687) →
 (X.NewL (w).heap.size (L1662) w1676 w1687 L1688) →
 (([(.int .u8 a_0), (.int .u16 a_1), (.int .u32 a_2), (.int .u8 a_3), (.int .u8 a_4), (.int .u8 a_5), (.int .u8 a_6), (.int .u8 a_7), (.int .u8 a_8), (.int .u8 a_9)] : List Value) = [(.int .u8 a_0), (.int .u16 a_1), (.int .u32 a_2), (.int .u8 a_3), (.int .u8 a_4), (.int .u8 a_5), (.int .u8 a_6), (.int .u8 a_7), (.int .u8 a_8), (.int .u8 a_9)]) ∧
 (([(.int .u8 b_0), (.int .u16 b_1), (.int .u32 b_2), (.int .u8 b_3), (.int .u8 b_4), (.int .u8 b_5), (.int .u8 b_6), (.int .u8 b_7), (.int .u8 b_8), (.int .u8 b_9)] : List Value) = [(.int .u8 b_0), (.int .u16 b_1), (.int .u32 b_2), (.int .u8 b_3), (.int .u8 b_4), (.int .u8 b_5), (.int .u8 b_6), (.int .u8 b_7), (.int .u8 b_8), (.int .u8 b_9)]) ∧
 (([(.int .u8 c_0), (.int .u16 c_1), (.int .u32 c_2), (.int .u8 c_3), (.int .u8 c_4), (.int .u8 c_5), (.int .u8 c_6), (.int .u8 c_7), (.int .u8 c_8), (.int .u8 c_9)] : List Value) = [(.int .u8 c_0), (.int .u16 c_1), (.int .u32 c_2), (.int .u8 c_3), (.int .u8 c_4), (.int .u8 c_5), (.int .u8 c_6), (.int .u8 c_7), (.int .u8 c_8), (.int .u8 c_9)]) ∧
 x1 n1515 n1516 n1517 n1518 n1519 n1520 n1521 n1522 n1523 n1524 n1665 n1666 n1667 n1668 n1669 n1670 n1671 n1672 n1673 n1674 n1677 n1678 n1679 n1680 n1681 n1682 n1683 n1684 n1685 n1686 w1687 (L1688)) ∧
 (∀ w1689 : World, ∀ L1690 : List Nat, (X.Hid (L1512) w1514 w1689) →
 (X.NewL (w).heap.size (L1512) w1514 w1689 L1690) →
 X.CallX Try.prog 9 #[(.agg #[(.int .u8 b_0), (.int .u16 b_1), (.int .u32 b_2), (.int .u8 b_3), (.int .u8 b_4), (.int .u8 b_5), (.int .u8 b_6), (.int .u8 b_7), (.int .u8 b_8), (.int .u8 b_9)])] w1689 fun e1691 w1692 =>
 ∃ n1693 : Int, ∃ n1694 : Int, ∃ n1695 : Int, ∃ n1696 : Int, ∃ n1697 : Int, ∃ n1698 : Int, ∃ n1699 : Int, ∃ n1700 : Int, ∃ n1701 : Int, ∃ n1702 : Int, (e1691 = .returned (.agg #[(.int .u8 n1693), (.int .u16 n1694), (.int .u32 n1695), (.int .u8 n1696), (.int .u8 n1697), (.int .u8 n1698), (.int .u8 n1699), (.int .u8 n1700), (.int .u8 n1701), (.int .u8 n1702)])) ∧
 (X.Kept L1690 w1689 w1692) ∧
 (X.FactsW x2 w1692 (L1690)) ∧
 (X.CallX Try.prog 9 #[(.agg #[(.int .u8 c_0), (.int .u16 c_1), (.int .u32 c_2), (.int .u8 c_3), (.int .u8 c_4), (.int .u8 c_5), (.int .u8 c_6), (.int .u8 c_7), (.int .u8 c_8), (.int .u8 c_9)])] w1692 fun e1703 w1704 =>
 ∃ n1705 : Int, ∃ n1706 : Int, ∃ n1707 : Int, ∃ n1708 : Int, ∃ n1709 : Int, ∃ n1710 : Int, ∃ n1711 : Int, ∃ n1712 : Int, ∃ n1713 : Int, ∃ n1714 : Int, (e1703 = .returned (.agg #[(.int .u8 n1705), (.int .u16 n1706), (.int .u32 n1707), (.int .u8 n1708), (.int .u8 n1709), (.int .u8 n1710), (.int .u8 n1711), (.int .u8 n1712), (.int .u8 n1713), (.int .u8 n1714)])) ∧
 (X.Kept L1690 w1692 w1704) ∧
 (X.FactsW x2 w1704 (L1690)) ∧
 ∀ w1715 : World, ∀ L1716 : List Nat, (X.Hid (L1690) w1704 w1715) →
 (X.NewL (w).heap.size (L1690) w1704 w1715 L1716) →
 (([(.int .u8 a_0), (.int .u16 a_1), (.int .u32 a_2), (.int .u8 a_3), (.int .u8 a_4), (.int .u8 a_5), (.int .u8 a_6), (.int .u8 a_7), (.int .u8 a_8), (.int .u8 a_9)] : List Value) = [(.int .u8 a_0), (.int .u16 a_1), (.int .u32 a_2), (.int .u8 a_3), (.int .u8 a_4), (.int .u8 a_5), (.int .u8 a_6), (.int .u8 a_7), (.int .u8 a_8), (.int .u8 a_9)]) ∧
 (([(.int .u8 b_0), (.int .u16 b_1), (.int .u32 b_2), (.int .u8 b_3), (.int .u8 b_4), (.int .u8 b_5), (.int .u8 b_6), (.int .u8 b_7), (.int .u8 b_8), (.int .u8 b_9)] : List Value) = [(.int .u8 b_0), (.int .u16 b_1), (.int .u32 b_2), (.int .u8 b_3), (.int .u8 b_4), (.int .u8 b_5), (.int .u8 b_6), (.int .u8 b_7), (.int .u8 b_8), (.int .u8 b_9)]) ∧
 (([(.int .u8 c_0), (.int .u16 c_1), (.int .u32 c_2), (.int .u8 c_3), (.int .u8 c_4), (.int .u8 c_5), (.int .u8 c_6), (.int .u8 c_7), (.int .u8 c_8), (.int .u8 c_9)] : List Value) = [(.int .u8 c_0), (.int .u16 c_1), (.int .u32 c_2), (.int .u8 c_3), (.int .u8 c_4), (.int .u8 c_5), (.int .u8 c_6), (.int .u8 c_7), (.int .u8 c_8), (.int .u8 c_9)]) ∧
 x1 n1515 n1516 n1517 n1518 n1519 n1520 n1521 n1522 n1523 n1524 n1693 n1694 n1695 n1696 n1697 n1698 n1699 n1700 n1701 n1702 n1705 n1706 n1707 n1708 n1709 n1710 n1711 n1712 n1713 n1714 w1715 (L1716)) ∧
 ∀ w1717 : World, ∀ L1718 : List Nat, (X.Hid (L1690) w1692 w1717) →
 (X.NewL (w).heap.size (L1690) w1692 w1717 L1718) →
 X.CallX Try.prog 9 #[(.agg #[(.int .u8 c_0), (.int .u16 c_1), (.int .u32 c_2), (.int .u8 c_3), (.int .u8 c_4), (.int .u8 c_5), (.int .u8 c_6), (.int .u8 c_7), (.int .u8 c_8), (.int .u8 c_9)])] w1717 fun e1719 w1720 =>
 ∃ n1721 : Int, ∃ n1722 : Int, ∃ n1723 : Int, ∃ n1724 : Int, ∃ n1725 : Int, ∃ n1726 : Int, ∃ n1727 : Int, ∃ n1728 : Int, ∃ n1729 : Int, ∃ n1730 : Int, (e1719 = .returned (.agg #[(.int .u8 n1721), (.int .u16 n1722), (.int .u32 n1723), (.int .u8 n1724), (.int .u8 n1725), (.int .u8 n1726), (.int .u8 n1727), (.int .u8 n1728), (.int .u8 n1729), (.int .u8 n1730)])) ∧
 (X.Kept L1718 w1717 w1720) ∧
 (X.FactsW x2 w1720 (L1718)) ∧
 ∀ w1731 : World, ∀ L1732 : List Nat, (X.Hid (L1718) w1720 w1731) →
 (X.NewL (w).heap.size (L1718) w1720 w1731 L1732) →
 (([(.int .u8 a_0), (.int .u16 a_1), (.int .u32 a_2), (.int .u8 a_3), (.int .u8 a_4), (.int .u8 a_5), (.int .u8 a_6), (.int .u8 a_7), (.int .u8 a_8), (.int .u8 a_9)] : List Value) = [(.int .u8 a_0), (.int .u16 a_1), (.int .u32 a_2), (.int .u8 a_3), (.int .u8 a_4), (.int .u8 a_5), (.int .u8 a_6), (.int .u8 a_7), (.int .u8 a_8), (.int .u8 a_9)]) ∧
 (([(.int .u8 b_0), (.int .u16 b_1), (.int .u32 b_2), (.int .u8 b_3), (.int .u8 b_4), (.int .u8 b_5), (.int .u8 b_6), (.int .u8 b_7), (.int .u8 b_8), (.int .u8 b_9)] : List Value) = [(.int .u8 b_0), (.int .u16 b_1), (.int .u32 b_2), (.int .u8 b_3), (.int .u8 b_4), (.int .u8 b_5), (.int .u8 b_6), (.int .u8 b_7), (.int .u8 b_8), (.int .u8 b_9)]) ∧
 (([(.int .u8 c_0), (.int .u16 c_1), (.int .u32 c_2), (.int .u8 c_3), (.int .u8 c_4), (.int .u8 c_5), (.int .u8 c_6), (.int .u8 c_7), (.int .u8 c_8), (.int .u8 c_9)] : List Value) = [(.int .u8 c_0), (.int .u16 c_1), (.int .u32 c_2), (.int .u8 c_3), (.int .u8 c_4), (.int .u8 c_5), (.int .u8 c_6), (.int .u8 c_7), (.int .u8 c_8), (.int .u8 c_9)]) ∧
 x1 n1515 n1516 n1517 n1518 n1519 n1520 n1521 n1522 n1523 n1524 n1693 n1694 n1695 n1696 n1697 n1698 n1699 n1700 n1701 n1702 n1721 n1722 n1723 n1724 n1725 n1726 n1727 n1728 n1729 n1730 w1731 (L1732)) ∧
 ∀ w1733 : World, ∀ L1734 : List Nat, (X.Hid (L1512) w1514 w1733) →
 (X.NewL (w).heap.size (L1512) w1514 w1733 L1734) →
 X.CallX Try.prog 9 #[(.agg #[(.int .u8 b_0), (.int .u16 b_1), (.int .u32 b_2), (.int .u8 b_3), (.int .u8 b_4), (.int .u8 b_5), (.int .u8 b_6), (.int .u8 b_7), (.int .u8 b_8), (.int .u8 b_9)])] w1733 fun e1735 w1736 =>
 ∃ n1737 : Int, ∃ n1738 : Int, ∃ n1739 : Int, ∃ n1740 : Int, ∃ n1741 : Int, ∃ n1742 : Int, ∃ n1743 : Int, ∃ n1744 : Int, ∃ n1745 : Int, ∃ n1746 : Int, (e1735 = .returned (.agg #[(.int .u8 n1737), (.int .u16 n1738), (.int .u32 n1739), (.int .u8 n1740), (.int .u8 n1741), (.int .u8 n1742), (.int .u8 n1743), (.int .u8 n1744), (.int .u8 n1745), (.int .u8 n1746)])) ∧
 (X.Kept L1734 w1733 w1736) ∧
 (X.FactsW x2 w1736 (L1734)) ∧
 X.CallX Try.prog 9 #[(.agg #[(.int .u8 c_0), (.int .u16 c_1), (.int .u32 c_2), (.int .u8 c_3), (.int .u8 c_4), (.int .u8 c_5), (.int .u8 c_6), (.int .u8 c_7), (.int .u8 c_8), (.int .u8 c_9)])] w1736 fun e1747 w1748 =>
 ∃ n1749 : Int, ∃ n1750 : Int, ∃ n1751 : Int, ∃ n1752 : Int, ∃ n1753 : Int, ∃ n1754 : Int, ∃ n1755 : Int, ∃ n1756 : Int, ∃ n1757 : Int, ∃ n1758 : Int, (e1747 = .returned (.agg #[(.int .u8 n1749), (.int .u16 n1750), (.int .u32 n1751), (.int .u8 n1752), (.int .u8 n1753), (.int .u8 n1754), (.int .u8 n1755), (.int .u8 n1756), (.int .u8 n1757), (.int .u8 n1758)])) ∧
 (X.Kept L1734 w1736 w1748) ∧
 (X.FactsW x2 w1748 (L1734)) ∧
 ∀ w1759 : World, ∀ L1760 : List Nat, (X.Hid (L1734) w1748 w1759) →
 (X.NewL (w).heap.size (L1734) w1748 w1759 L1760) →
 (([(.int .u8 a_0), (.int .u16 a_1), (.int .u32 a_2), (.int .u8 a_3), (.int .u8 a_4), (.int .u8 a_5), (.int .u8 a_6), (.int .u8 a_7), (.int .u8 a_8), (.int .u8 a_9)] : List Value) = [(.int .u8 a_0), (.int .u16 a_1), (.int .u32 a_2), (.int .u8 a_3), (.int .u8 a_4), (.int .u8 a_5), (.int .u8 a_6), (.int .u8 a_7), (.int .u8 a_8), (.int .u8 a_9)]) ∧
 (([(.int .u8 b_0), (.int .u16 b_1), (.int .u32 b_2), (.int .u8 b_3), (.int .u8 b_4), (.int .u8 b_5), (.int .u8 b_6), (.int .u8 b_7), (.int .u8 b_8), (.int .u8 b_9)] : List Value) = [(.int .u8 b_0), (.int .u16 b_1), (.int .u32 b_2), (.int .u8 b_3), (.int .u8 b_4), (.int .u8 b_5), (.int .u8 b_6), (.int .u8 b_7), (.int .u8 b_8), (.int .u8 b_9)]) ∧
 (([(.int .u8 c_0), (.int .u16 c_1), (.int .u32 c_2), (.int .u8 c_3), (.int .u8 c_4), (.int .u8 c_5), (.int .u8 c_6), (.int .u8 c_7), (.int .u8 c_8), (.int .u8 c_9)] : List Value) = [(.int .u8 c_0), (.int .u16 c_1), (.int .u32 c_2), (.int .u8 c_3), (.int .u8 c_4), (.int .u8 c_5), (.int .u8 c_6), (.int .u8 c_7), (.int .u8 c_8), (.int .u8 c_9)]) ∧
 x1 n1515 n1516 n1517 n1518 n1519 n1520 n1521 n1522 n1523 n1524 n1737 n1738 n1739 n1740 n1741 n1742 n1743 n1744 n1745 n1746 n1749 n1750 n1751 n1752 n1753 n1754 n1755 n1756 n1757 n1758 w1759 (L1760)) ∧
 ((∀ w1761 : World, ∀ L1762 : List Nat, (X.Hid [] w w1761) →
 (X.NewL (w).heap.size [] w w1761 L1762) →
 X.CallX Try.prog 9 #[(.agg #[(.int .u8 a_0), (.int .u16 a_1), (.int .u32 a_2), (.int .u8 a_3), (.int .u8 a_4), (.int .u8 a_5), (.int .u8 a_6), (.int .u8 a_7), (.int .u8 a_8), (.int .u8 a_9)])] w1761 fun e1763 w1764 =>
 ∃ n1765 : Int, ∃ n1766 : Int, ∃ n1767 : Int, ∃ n1768 : Int, ∃ n1769 : Int, ∃ n1770 : Int, ∃ n1771 : Int, ∃ n1772 : Int, ∃ n1773 : Int, ∃ n1774 : Int, (e1763 = .returned (.agg #[(.int .u8 n1765), (.int .u16 n1766), (.int .u32 n1767), (.int .u8 n1768), (.int .u8 n1769), (.int .u8 n1770), (.int .u8 n1771), (.int .u8 n1772), (.int .u8 n1773), (.int .u8 n1774)])) ∧
 (X.Kept L1762 w1761 w1764) ∧
 (X.FactsW x2 w1764 (L1762)) ∧
 (X.CallX Try.prog 9 #[(.agg #[(.int .u8 b_0), (.int .u16 b_1), (.int .u32 b_2), (.int .u8 b_3), (.int .u8 b_4), (.int .u8 b_5), (.int .u8 b_6), (.int .u8 b_7), (.int .u8 b_8), (.int .u8 b_9)])] w1764 fun e1775 w1776 =>
 ∃ n1777 : Int, ∃ n1778 : Int, ∃ n1779 : Int, ∃ n1780 : Int, ∃ n1781 : Int, ∃ n1782 : Int, ∃ n1783 : Int, ∃ n1784 : Int, ∃ n1785 : Int, ∃ n1786 : Int, (e1775 = .returned (.agg #[(.int .u8 n1777), (.int .u16 n1778), (.int .u32 n1779), (.int .u8 n1780), (.int .u8 n1781), (.int .u8 n1782), (.int .u8 n1783), (.int .u8 n1784), (.int .u8 n1785), (.int .u8 n1786)])) ∧
 (X.Kept L1762 w1764 w1776) ∧
 (X.FactsW x2 w1776 (L1762)) ∧
 (X.CallX Try.prog 9 #[(.agg #[(.int .u8 c_0), (.int .u16 c_1), (.int .u32 c_2), (.int .u8 c_3), (.int .u8 c_4), (.int .u8 c_5), (.int .u8 c_6), (.int .u8 c_7), (.int .u8 c_8), (.int .u8 c_9)])] w1776 fun e1787 w1788 =>
 ∃ n1789 : Int, ∃ n1790 : Int, ∃ n1791 : Int, ∃ n1792 : Int, ∃ n1793 : Int, ∃ n1794 : Int, ∃ n1795 : Int, ∃ n1796 : Int, ∃ n1797 : Int, ∃ n1798 : Int, (e1787 = .returned (.agg #[(.int .u8 n1789), (.int .u16 n1790), (.int .u32 n1791), (.int .u8 n1792), (.int .u8 n1793), (.int .u8 n1794), (.int .u8 n1795), (.int .u8 n1796), (.int .u8 n1797), (.int .u8 n1798)])) ∧
 (X.Kept L1762 w1776 w1788) ∧
 (X.FactsW x2 w1788 (L1762)) ∧
 ∀ w1799 : World, ∀ L1800 : List Nat, (X.Hid (L1762) w1788 w1799) →
 (X.NewL (w).heap.size (L1762) w1788 w1799 L1800) →
 (([(.int .u8 a_0), (.int .u16 a_1), (.int .u32 a_2), (.int .u8 a_3), (.int .u8 a_4), (.int .u8 a_5), (.int .u8 a_6), (.int .u8 a_7), (.int .u8 a_8), (.int .u8 a_9)] : List Value) = [(.int .u8 a_0), (.int .u16 a_1), (.int .u32 a_2), (.int .u8 a_3), (.int .u8 a_4), (.int .u8 a_5), (.int .u8 a_6), (.int .u8 a_7), (.int .u8 a_8), (.int .u8 a_9)]) ∧
 (([(.int .u8 b_0), (.int .u16 b_1), (.int .u32 b_2), (.int .u8 b_3), (.int .u8 b_4), (.int .u8 b_5), (.int .u8 b_6), (.int .u8 b_7), (.int .u8 b_8), (.int .u8 b_9)] : List Value) = [(.int .u8 b_0), (.int .u16 b_1), (.int .u32 b_2), (.int .u8 b_3), (.int .u8 b_4), (.int .u8 b_5), (.int .u8 b_6), (.int .u8 b_7), (.int .u8 b_8), (.int .u8 b_9)]) ∧
 (([(.int .u8 c_0), (.int .u16 c_1), (.int .u32 c_2), (.int .u8 c_3), (.int .u8 c_4), (.int .u8 c_5), (.int .u8 c_6), (.int .u8 c_7), (.int .u8 c_8), (.int .u8 c_9)] : List Value) = [(.int .u8 c_0), (.int .u16 c_1), (.int .u32 c_2), (.int .u8 c_3), (.int .u8 c_4), (.int .u8 c_5), (.int .u8 c_6), (.int .u8 c_7), (.int .u8 c_8), (.int .u8 c_9)]) ∧
 x1 n1765 n1766 n1767 n1768 n1769 n1770 n1771 n1772 n1773 n1774 n1777 n1778 n1779 n1780 n1781 n1782 n1783 n1784 n1785 n1786 n1789 n1790 n1791 n1792 n1793 n1794 n1795 n1796 n1797 n1798 w1799 (L1800)) ∧
 ∀ w1801 : World, ∀ L1802 : List Nat, (X.Hid (L1762) w1776 w1801) →
 (X.NewL (w).heap.size (L1762) w1776 w1801 L1802) →
 X.CallX Try.prog 9 #[(.agg #[(.int .u8 c_0), (.int .u16 c_1), (.int .u32 c_2), (.int .u8 c_3), (.int .u8 c_4), (.int .u8 c_5), (.int .u8 c_6), (.int .u8 c_7), (.int .u8 c_8), (.int .u8 c_9)])] w1801 fun e1803 w1804 =>
 ∃ n1805 : Int, ∃ n1806 : Int, ∃ n1807 : Int, ∃ n1808 : Int, ∃ n1809 : Int, ∃ n1810 : Int, ∃ n1811 : Int, ∃ n1812 : Int, ∃ n1813 : Int, ∃ n1814 : Int, (e1803 = .returned (.agg #[(.int .u8 n1805), (.int .u16 n1806), (.int .u32 n1807), (.int .u8 n1808), (.int .u8 n1809), (.int .u8 n1810), (.int .u8 n1811), (.int .u8 n1812), (.int .u8 n1813), (.int .u8 n1814)])) ∧
 (X.Kept L1802 w1801 w1804) ∧
 (X.FactsW x2 w1804 (L1802)) ∧
 ∀ w1815 : World, ∀ L1816 : List Nat, (X.Hid (L1802) w1804 w1815) →
 (X.NewL (w).heap.size (L1802) w1804 w1815 L1816) →
 (([(.int .u8 a_0), (.int .u16 a_1), (.int .u32 a_2), (.int .u8 a_3), (.int .u8 a_4), (.int .u8 a_5), (.int .u8 a_6), (.int .u8 a_7), (.int .u8 a_8), (.int .u8 a_9)] : List Value) = [(.int .u8 a_0), (.int .u16 a_1), (.int .u32 a_2), (.int .u8 a_3), (.int .u8 a_4), (.int .u8 a_5), (.int .u8 a_6), (.int .u8 a_7), (.int .u8 a_8), (.int .u8 a_9)]) ∧
 (([(.int .u8 b_0), (.int .u16 b_1), (.int .u32 b_2), (.int .u8 b_3), (.int .u8 b_4), (.int .u8 b_5), (.int .u8 b_6), (.int .u8 b_7), (.int .u8 b_8), (.int .u8 b_9)] : List Value) = [(.int .u8 b_0), (.int .u16 b_1), (.int .u32 b_2), (.int .u8 b_3), (.int .u8 b_4), (.int .u8 b_5), (.int .u8 b_6), (.int .u8 b_7), (.int .u8 b_8), (.int .u8 b_9)]) ∧
 (([(.int .u8 c_0), (.int .u16 c_1), (.int .u32 c_2), (.int .u8 c_3), (.int .u8 c_4), (.int .u8 c_5), (.int .u8 c_6), (.int .u8 c_7), (.int .u8 c_8), (.int .u8 c_9)] : List Value) = [(.int .u8 c_0), (.int .u16 c_1), (.int .u32 c_2), (.int .u8 c_3), (.int .u8 c_4), (.int .u8 c_5), (.int .u8 c_6), (.int .u8 c_7), (.int .u8 c_8), (.int .u8 c_9)]) ∧
 x1 n1765 n1766 n1767 n1768 n1769 n1770 n1771 n1772 n1773 n1774 n1777 n1778 n1779 n1780 n1781 n1782 n1783 n1784 n1785 n1786 n1805 n1806 n1807 n1808 n1809 n1810 n1811 n1812 n1813 n1814 w1815 (L1816)) ∧
 ∀ w1817 : World, ∀ L1818 : List Nat, (X.Hid (L1762) w1764 w1817) →
 (X.NewL (w).heap.size (L1762) w1764 w1817 L1818) →
 X.CallX Try.prog 9 #[(.agg #[(.int .u8 b_0), (.int .u16 b_1), (.int .u32 b_2), (.int .u8 b_3), (.int .u8 b_4), (.int .u8 b_5), (.int .u8 b_6), (.int .u8 b_7), (.int .u8 b_8), (.int .u8 b_9)])] w1817 fun e1819 w1820 =>
 ∃ n1821 : Int, ∃ n1822 : Int, ∃ n1823 : Int, ∃ n1824 : Int, ∃ n1825 : Int, ∃ n1826 : Int, ∃ n1827 : Int, ∃ n1828 : Int, ∃ n1829 : Int, ∃ n1830 : Int, (e1819 = .returned (.agg #[(.int .u8 n1821), (.int .u16 n1822), (.int .u32 n1823), (.int .u8 n1824), (.int .u8 n1825), (.int .u8 n1826), (.int .u8 n1827), (.int .u8 n1828), (.int .u8 n1829), (.int .u8 n1830)])) ∧
 (X.Kept L1818 w1817 w1820) ∧
 (X.FactsW x2 w1820 (L1818)) ∧
 X.CallX Try.prog 9 #[(.agg #[(.int .u8 c_0), (.int .u16 c_1), (.int .u32 c_2), (.int .u8 c_3), (.int .u8 c_4), (.int .u8 c_5), (.int .u8 c_6), (.int .u8 c_7), (.int .u8 c_8), (.int .u8 c_9)])] w1820 fun e1831 w1832 =>
 ∃ n1833 : Int, ∃ n1834 : Int, ∃ n1835 : Int, ∃ n1836 : Int, ∃ n1837 : Int, ∃ n1838 : Int, ∃ n1839 : Int, ∃ n1840 : Int, ∃ n1841 : Int, ∃ n1842 : Int, (e1831 = .returned (.agg #[(.int .u8 n1833), (.int .u16 n1834), (.int .u32 n1835), (.int .u8 n1836), (.int .u8 n1837), (.int .u8 n1838), (.int .u8 n1839), (.int .u8 n1840), (.int .u8 n1841), (.int .u8 n1842)])) ∧
 (X.Kept L1818 w1820 w1832) ∧
 (X.FactsW x2 w1832 (L1818)) ∧
 ∀ w1843 : World, ∀ L1844 : List Nat, (X.Hid (L1818) w1832 w1843) →
 (X.NewL (w).heap.size (L1818) w1832 w1843 L1844) →
 (([(.int .u8 a_0), (.int .u16 a_1), (.int .u32 a_2), (.int .u8 a_3), (.int .u8 a_4), (.int .u8 a_5), (.int .u8 a_6), (.int .u8 a_7), (.int .u8 a_8), (.int .u8 a_9)] : List Value) = [(.int .u8 a_0), (.int .u16 a_1), (.int .u32 a_2), (.int .u8 a_3), (.int .u8 a_4), (.int .u8 a_5), (.int .u8 a_6), (.int .u8 a_7), (.int .u8 a_8), (.int .u8 a_9)]) ∧
 (([(.int .u8 b_0), (.int .u16 b_1), (.int .u32 b_2), (.int .u8 b_3), (.int .u8 b_4), (.int .u8 b_5), (.int .u8 b_6), (.int .u8 b_7), (.int .u8 b_8), (.int .u8 b_9)] : List Value) = [(.int .u8 b_0), (.int .u16 b_1), (.int .u32 b_2), (.int .u8 b_3), (.int .u8 b_4), (.int .u8 b_5), (.int .u8 b_6), (.int .u8 b_7), (.int .u8 b_8), (.int .u8 b_9)]) ∧
 (([(.int .u8 c_0), (.int .u16 c_1), (.int .u32 c_2), (.int .u8 c_3), (.int .u8 c_4), (.int .u8 c_5), (.int .u8 c_6), (.int .u8 c_7), (.int .u8 c_8), (.int .u8 c_9)] : List Value) = [(.int .u8 c_0), (.int .u16 c_1), (.int .u32 c_2), (.int .u8 c_3), (.int .u8 c_4), (.int .u8 c_5), (.int .u8 c_6), (.int .u8 c_7), (.int .u8 c_8), (.int .u8 c_9)]) ∧
 x1 n1765 n1766 n1767 n1768 n1769 n1770 n1771 n1772 n1773 n1774 n1821 n1822 n1823 n1824 n1825 n1826 n1827 n1828 n1829 n1830 n1833 n1834 n1835 n1836 n1837 n1838 n1839 n1840 n1841 n1842 w1843 (L1844)) ∧
 ∀ w1845 : World, ∀ L1846 : List Nat, (X.Hid [] w w1845) →
 (X.NewL (w).heap.size [] w w1845 L1846) →
 X.CallX Try.prog 9 #[(.agg #[(.int .u8 a_0), (.int .u16 a_1), (.int .u32 a_2), (.int .u8 a_3), (.int .u8 a_4), (.int .u8 a_5), (.int .u8 a_6), (.int .u8 a_7), (.int .u8 a_8), (.int .u8 a_9)])] w1845 fun e1847 w1848 =>
 ∃ n1849 : Int, ∃ n1850 : Int, ∃ n1851 : Int, ∃ n1852 : Int, ∃ n1853 : Int, ∃ n1854 : Int, ∃ n1855 : Int, ∃ n1856 : Int, ∃ n1857 : Int, ∃ n1858 : Int, (e1847 = .returned (.agg #[(.int .u8 n1849), (.int .u16 n1850), (.int .u32 n1851), (.int .u8 n1852), (.int .u8 n1853), (.int .u8 n1854), (.int .u8 n1855), (.int .u8 n1856), (.int .u8 n1857), (.int .u8 n1858)])) ∧
 (X.Kept L1846 w1845 w1848) ∧
 (X.FactsW x2 w1848 (L1846)) ∧
 X.CallX Try.prog 9 #[(.agg #[(.int .u8 b_0), (.int .u16 b_1), (.int .u32 b_2), (.int .u8 b_3), (.int .u8 b_4), (.int .u8 b_5), (.int .u8 b_6), (.int .u8 b_7), (.int .u8 b_8), (.int .u8 b_9)])] w1848 fun e1859 w1860 =>
 ∃ n1861 : Int, ∃ n1862 : Int, ∃ n1863 : Int, ∃ n1864 : Int, ∃ n1865 : Int, ∃ n1866 : Int, ∃ n1867 : Int, ∃ n1868 : Int, ∃ n1869 : Int, ∃ n1870 : Int, (e1859 = .returned (.agg #[(.int .u8 n1861), (.int .u16 n1862), (.int .u32 n1863), (.int .u8 n1864), (.int .u8 n1865), (.int .u8 n1866), (.int .u8 n1867), (.int .u8 n1868), (.int .u8 n1869), (.int .u8 n1870)])) ∧
 (X.Kept L1846 w1848 w1860) ∧
 (X.FactsW x2 w1860 (L1846)) ∧
 X.CallX Try.prog 9 #[(.agg #[(.int .u8 c_0), (.int .u16 c_1), (.int .u32 c_2), (.int .u8 c_3), (.int .u8 c_4), (.int .u8 c_5), (.int .u8 c_6), (.int .u8 c_7), (.int .u8 c_8), (.int .u8 c_9)])] w1860 fun e1871 w1872 =>
 ∃ n1873 : Int, ∃ n1874 : Int, ∃ n1875 : Int, ∃ n1876 : Int, ∃ n1877 : Int, ∃ n1878 : Int, ∃ n1879 : Int, ∃ n1880 : Int, ∃ n1881 : Int, ∃ n1882 : Int, (e1871 = .returned (.agg #[(.int .u8 n1873), (.int .u16 n1874), (.int .u32 n1875), (.int .u8 n1876), (.int .u8 n1877), (.int .u8 n1878), (.int .u8 n1879), (.int .u8 n1880), (.int .u8 n1881), (.int .u8 n1882)])) ∧
 (X.Kept L1846 w1860 w1872) ∧
 (X.FactsW x2 w1872 (L1846)) ∧
 ∀ w1883 : World, ∀ L1884 : List Nat, (X.Hid (L1846) w1872 w1883) →
 (X.NewL (w).heap.size (L1846) w1872 w1883 L1884) →
 (([(.int .u8 a_0), (.int .u16 a_1), (.int .u32 a_2), (.int .u8 a_3), (.int .u8 a_4), (.int .u8 a_5), (.int .u8 a_6), (.int .u8 a_7), (.int .u8 a_8), (.int .u8 a_9)] : List Value) = [(.int .u8 a_0), (.int .u16 a_1), (.int .u32 a_2), (.int .u8 a_3), (.int .u8 a_4), (.int .u8 a_5), (.int .u8 a_6), (.int .u8 a_7), (.int .u8 a_8), (.int .u8 a_9)]) ∧
 (([(.int .u8 b_0), (.int .u16 b_1), (.int .u32 b_2), (.int .u8 b_3), (.int .u8 b_4), (.int .u8 b_5), (.int .u8 b_6), (.int .u8 b_7), (.int .u8 b_8), (.int .u8 b_9)] : List Value) = [(.int .u8 b_0), (.int .u16 b_1), (.int .u32 b_2), (.int .u8 b_3), (.int .u8 b_4), (.int .u8 b_5), (.int .u8 b_6), (.int .u8 b_7), (.int .u8 b_8), (.int .u8 b_9)]) ∧
 (([(.int .u8 c_0), (.int .u16 c_1), (.int .u32 c_2), (.int .u8 c_3), (.int .u8 c_4), (.int .u8 c_5), (.int .u8 c_6), (.int .u8 c_7), (.int .u8 c_8), (.int .u8 c_9)] : List Value) = [(.int .u8 c_0), (.int .u16 c_1), (.int .u32 c_2), (.int .u8 c_3), (.int .u8 c_4), (.int .u8 c_5), (.int .u8 c_6), (.int .u8 c_7), (.int .u8 c_8), (.int .u8 c_9)]) ∧
 x1 n1849 n1850 n1851 n1852 n1853 n1854 n1855 n1856 n1857 n1858 n1861 n1862 n1863 n1864 n1865 n1866 n1867 n1868 n1869 n1870 n1873 n1874 n1875 n1876 n1877 n1878 n1879 n1880 n1881 n1882 w1883 (L1884)) ∧
 (∀ w1885 : World, ∀ L1886 : List Nat, (X.Hid [] w w1885) →
 (X.NewL (w).heap.size [] w w1885 L1886) →
 X.CallX Try.prog 9 #[(.agg #[(.int .u8 a_0), (.int .u16 a_1), (.int .u32 a_2), (.int .u8 a_3), (.int .u8 a_4), (.int .u8 a_5), (.int .u8 a_6), (.int .u8 a_7), (.int .u8 a_8), (.int .u8 a_9)])] w1885 fun e1887 w1888 =>
 ∃ n1889 : Int, ∃ n1890 : Int, ∃ n1891 : Int, ∃ n1892 : Int, ∃ n1893 : Int, ∃ n1894 : Int, ∃ n1895 : Int, ∃ n1896 : Int, ∃ n1897 : Int, ∃ n1898 : Int, (e1887 = .returned (.agg #[(.int .u8 n1889), (.int .u16 n1890), (.int .u32 n1891), (.int .u8 n1892), (.int .u8 n1893), (.int .u8 n1894), (.int .u8 n1895), (.int .u8 n1896), (.int .u8 n1897), (.int .u8 n1898)])) ∧
 (X.Kept L1886 w1885 w1888) ∧
 (X.FactsW x2 w1888 (L1886)) ∧
 (X.CallX Try.prog 9 #[(.agg #[(.int .u8 b_0), (.int .u16 b_1), (.int .u32 b_2), (.int .u8 b_3), (.int .u8 b_4), (.int .u8 b_5), (.int .u8 b_6), (.int .u8 b_7), (.int .u8 b_8), (.int .u8 b_9)])] w1888 fun e1899 w1900 =>
 ∃ n1901 : Int, ∃ n1902 : Int, ∃ n1903 : Int, ∃ n1904 : Int, ∃ n1905 : Int, ∃ n1906 : Int, ∃ n1907 : Int, ∃ n1908 : Int, ∃ n1909 : Int, ∃ n1910 : Int, (e1899 = .returned (.agg #[(.int .u8 n1901), (.int .u16 n1902), (.int .u32 n1903), (.int .u8 n1904), (.int .u8 n1905), (.int .u8 n1906), (.int .u8 n1907), (.int .u8 n1908), (.int .u8 n1909), (.int .u8 n1910)])) ∧
 (X.Kept L1886 w1888 w1900) ∧
 (X.FactsW x2 w1900 (L1886)) ∧
 (X.CallX Try.prog 9 #[(.agg #[(.int .u8 c_0), (.int .u16 c_1), (.int .u32 c_2), (.int .u8 c_3), (.int .u8 c_4), (.int .u8 c_5), (.int .u8 c_6), (.int .u8 c_7), (.int .u8 c_8), (.int .u8 c_9)])] w1900 fun e1911 w1912 =>
 ∃ n1913 : Int, ∃ n1914 : Int, ∃ n1915 : Int, ∃ n1916 : Int, ∃ n1917 : Int, ∃ n1918 : Int, ∃ n1919 : Int, ∃ n1920 : Int, ∃ n1921 : Int, ∃ n1922 : Int, (e1911 = .returned (.agg #[(.int .u8 n1913), (.int .u16 n1914), (.int .u32 n1915), (.int .u8 n1916), (.int .u8 n1917), (.int .u8 n1918), (.int .u8 n1919), (.int .u8 n1920), (.int .u8 n1921), (.int .u8 n1922)])) ∧
 (X.Kept L1886 w1900 w1912) ∧
 (X.FactsW x2 w1912 (L1886)) ∧
 ∀ w1923 : World, ∀ L1924 : List Nat, (X.Hid (L1886) w1912 w1923) →
 (X.NewL (w).heap.size (L1886) w1912 w1923 L1924) →
 (([(.int .u8 a_0), (.int .u16 a_1), (.int .u32 a_2), (.int .u8 a_3), (.int .u8 a_4), (.int .u8 a_5), (.int .u8 a_6), (.int .u8 a_7), (.int .u8 a_8), (.int .u8 a_9)] : List Value) = [(.int .u8 a_0), (.int .u16 a_1), (.int .u32 a_2), (.int .u8 a_3), (.int .u8 a_4), (.int .u8 a_5), (.int .u8 a_6), (.int .u8 a_7), (.int .u8 a_8), (.int .u8 a_9)]) ∧
 (([(.int .u8 b_0), (.int .u16 b_1), (.int .u32 b_2), (.int .u8 b_3), (.int .u8 b_4), (.int .u8 b_5), (.int .u8 b_6), (.int .u8 b_7), (.int .u8 b_8), (.int .u8 b_9)] : List Value) = [(.int .u8 b_0), (.int .u16 b_1), (.int .u32 b_2), (.int .u8 b_3), (.int .u8 b_4), (.int .u8 b_5), (.int .u8 b_6), (.int .u8 b_7), (.int .u8 b_8), (.int .u8 b_9)]) ∧
 (([(.int .u8 c_0), (.int .u16 c_1), (.int .u32 c_2), (.int .u8 c_3), (.int .u8 c_4), (.int .u8 c_5), (.int .u8 c_6), (.int .u8 c_7), (.int .u8 c_8), (.int .u8 c_9)] : List Value) = [(.int .u8 c_0), (.int .u16 c_1), (.int .u32 c_2), (.int .u8 c_3), (.int .u8 c_4), (.int .u8 c_5), (.int .u8 c_6), (.int .u8 c_7), (.int .u8 c_8), (.int .u8 c_9)]) ∧
 x1 n1889 n1890 n1891 n1892 n1893 n1894 n1895 n1896 n1897 n1898 n1901 n1902 n1903 n1904 n1905 n1906 n1907 n1908 n1909 n1910 n1913 n1914 n1915 n1916 n1917 n1918 n1919 n1920 n1921 n1922 w1923 (L1924)) ∧
 ∀ w1925 : World, ∀ L1926 : List Nat, (X.Hid (L1886) w1900 w1925) →
 (X.NewL (w).heap.size (L1886) w1900 w1925 L1926) →
 X.CallX Try.prog 9 #[(.agg #[(.int .u8 c_0), (.int .u16 c_1), (.int .u32 c_2), (.int .u8 c_3), (.int .u8 c_4), (.int .u8 c_5), (.int .u8 c_6), (.int .u8 c_7), (.int .u8 c_8), (.int .u8 c_9)])] w1925 fun e1927 w1928 =>
 ∃ n1929 : Int, ∃ n1930 : Int, ∃ n1931 : Int, ∃ n1932 : Int, ∃ n1933 : Int, ∃ n1934 : Int, ∃ n1935 : Int, ∃ n1936 : Int, ∃ n1937 : Int, ∃ n1938 : Int, (e1927 = .returned (.agg #[(.int .u8 n1929), (.int .u16 n1930), (.int .u32 n1931), (.int .u8 n1932), (.int .u8 n1933), (.int .u8 n1934), (.int .u8 n1935), (.int .u8 n1936), (.int .u8 n1937), (.int .u8 n1938)])) ∧
 (X.Kept L1926 w1925 w1928) ∧
 (X.FactsW x2 w1928 (L1926)) ∧
 ∀ w1939 : World, ∀ L1940 : List Nat, (X.Hid (L1926) w1928 w1939) →
 (X.NewL (w).heap.size (L1926) w1928 w1939 L1940) →
 (([(.int .u8 a_0), (.int .u16 a_1), (.int .u32 a_2), (.int .u8 a_3), (.int .u8 a_4), (.int .u8 a_5), (.int .u8 a_6), (.int .u8 a_7), (.int .u8 a_8), (.int .u8 a_9)] : List Value) = [(.int .u8 a_0), (.int .u16 a_1), (.int .u32 a_2), (.int .u8 a_3), (.int .u8 a_4), (.int .u8 a_5), (.int .u8 a_6), (.int .u8 a_7), (.int .u8 a_8), (.int .u8 a_9)]) ∧
 (([(.int .u8 b_0), (.int .u16 b_1), (.int .u32 b_2), (.int .u8 b_3), (.int .u8 b_4), (.int .u8 b_5), (.int .u8 b_6), (.int .u8 b_7), (.int .u8 b_8), (.int .u8 b_9)] : List Value) = [(.int .u8 b_0), (.int .u16 b_1), (.int .u32 b_2), (.int .u8 b_3), (.int .u8 b_4), (.int .u8 b_5), (.int .u8 b_6), (.int .u8 b_7), (.int .u8 b_8), (.int .u8 b_9)]) ∧
 (([(.int .u8 c_0), (.int .u16 c_1), (.int .u32 c_2), (.int .u8 c_3), (.int .u8 c_4), (.int .u8 c_5), (.int .u8 c_6), (.int .u8 c_7), (.int .u8 c_8), (.int .u8 c_9)] : List Value) = [(.int .u8 c_0), (.int .u16 c_1), (.int .u32 c_2), (.int .u8 c_3), (.int .u8 c_4), (.int .u8 c_5), (.int .u8 c_6), (.int .u8 c_7), (.int .u8 c_8), (.int .u8 c_9)]) ∧
 x1 n1889 n1890 n1891 n1892 n1893 n1894 n1895 n1896 n1897 n1898 n1901 n1902 n1903 n1904 n1905 n1906 n1907 n1908 n1909 n1910 n1929 n1930 n1931 n1932 n1933 n1934 n1935 n1936 n1937 n1938 w1939 (L1940)) ∧
 ∀ w1941 : World, ∀ L1942 : List Nat, (X.Hid (L1886) w1888 w1941) →
 (X.NewL (w).heap.size (L1886) w1888 w1941 L1942) →
 X.CallX Try.prog 9 #[(.agg #[(.int .u8 b_0), (.int .u16 b_1), (.int .u32 b_2), (.int .u8 b_3), (.int .u8 b_4), (.int .u8 b_5), (.int .u8 b_6), (.int .u8 b_7), (.int .u8 b_8), (.int .u8 b_9)])] w1941 fun e1943 w1944 =>
 ∃ n1945 : Int, ∃ n1946 : Int, ∃ n1947 : Int, ∃ n1948 : Int, ∃ n1949 : Int, ∃ n1950 : Int, ∃ n1951 : Int, ∃ n1952 : Int, ∃ n1953 : Int, ∃ n1954 : Int, (e1943 = .returned (.agg #[(.int .u8 n1945), (.int .u16 n1946), (.int .u32 n1947), (.int .u8 n1948), (.int .u8 n1949), (.int .u8 n1950), (.int .u8 n1951), (.int .u8 n1952), (.int .u8 n1953), (.int .u8 n1954)])) ∧
 (X.Kept L1942 w1941 w1944) ∧
 (X.FactsW x2 w1944 (L1942)) ∧
 X.CallX Try.prog 9 #[(.agg #[(.int .u8 c_0), (.int .u16 c_1), (.int .u32 c_2), (.int .u8 c_3), (.int .u8 c_4), (.int .u8 c_5), (.int .u8 c_6), (.int .u8 c_7), (.int .u8 c_8), (.int .u8 c_9)])] w1944 fun e1955 w1956 =>
 ∃ n1957 : Int, ∃ n1958 : Int, ∃ n1959 : Int, ∃ n1960 : Int, ∃ n1961 : Int, ∃ n1962 : Int, ∃ n1963 : Int, ∃ n1964 : Int, ∃ n1965 : Int, ∃ n1966 : Int, (e1955 = .returned (.agg #[(.int .u8 n1957), (.int .u16 n1958), (.int .u32 n1959), (.int .u8 n1960), (.int .u8 n1961), (.int .u8 n1962), (.int .u8 n1963), (.int .u8 n1964), (.int .u8 n1965), (.int .u8 n1966)])) ∧
 (X.Kept L1942 w1944 w1956) ∧
 (X.FactsW x2 w1956 (L1942)) ∧
 ∀ w1967 : World, ∀ L1968 : List Nat, (X.Hid (L1942) w1956 w1967) →
 (X.NewL (w).heap.size (L1942) w1956 w1967 L1968) →
 (([(.int .u8 a_0), (.int .u16 a_1), (.int .u32 a_2), (.int .u8 a_3), (.int .u8 a_4), (.int .u8 a_5), (.int .u8 a_6), (.int .u8 a_7), (.int .u8 a_8), (.int .u8 a_9)] : List Value) = [(.int .u8 a_0), (.int .u16 a_1), (.int .u32 a_2), (.int .u8 a_3), (.int .u8 a_4), (.int .u8 a_5), (.int .u8 a_6), (.int .u8 a_7), (.int .u8 a_8), (.int .u8 a_9)]) ∧
 (([(.int .u8 b_0), (.int .u16 b_1), (.int .u32 b_2), (.int .u8 b_3), (.int .u8 b_4), (.int .u8 b_5), (.int .u8 b_6), (.int .u8 b_7), (.int .u8 b_8), (.int .u8 b_9)] : List Value) = [(.int .u8 b_0), (.int .u16 b_1), (.int .u32 b_2), (.int .u8 b_3), (.int .u8 b_4), (.int .u8 b_5), (.int .u8 b_6), (.int .u8 b_7), (.int .u8 b_8), (.int .u8 b_9)]) ∧
 (([(.int .u8 c_0), (.int .u16 c_1), (.int .u32 c_2), (.int .u8 c_3), (.int .u8 c_4), (.int .u8 c_5), (.int .u8 c_6), (.int .u8 c_7), (.int .u8 c_8), (.int .u8 c_9)] : List Value) = [(.int .u8 c_0), (.int .u16 c_1), (.int .u32 c_2), (.int .u8 c_3), (.int .u8 c_4), (.int .u8 c_5), (.int .u8 c_6), (.int .u8 c_7), (.int .u8 c_8), (.int .u8 c_9)]) ∧
 x1 n1889 n1890 n1891 n1892 n1893 n1894 n1895 n1896 n1897 n1898 n1945 n1946 n1947 n1948 n1949 n1950 n1951 n1952 n1953 n1954 n1957 n1958 n1959 n1960 n1961 n1962 n1963 n1964 n1965 n1966 w1967 (L1968)) ∧
 ∀ w1969 : World, ∀ L1970 : List Nat, (X.Hid [] w w1969) →
 (X.NewL (w).heap.size [] w w1969 L1970) →
 X.CallX Try.prog 9 #[(.agg #[(.int .u8 a_0), (.int .u16 a_1), (.int .u32 a_2), (.int .u8 a_3), (.int .u8 a_4), (.int .u8 a_5), (.int .u8 a_6), (.int .u8 a_7), (.int .u8 a_8), (.int .u8 a_9)])] w1969 fun e1971 w1972 =>
 ∃ n1973 : Int, ∃ n1974 : Int, ∃ n1975 : Int, ∃ n1976 : Int, ∃ n1977 : Int, ∃ n1978 : Int, ∃ n1979 : Int, ∃ n1980 : Int, ∃ n1981 : Int, ∃ n1982 : Int, (e1971 = .returned (.agg #[(.int .u8 n1973), (.int .u16 n1974), (.int .u32 n1975), (.int .u8 n1976), (.int .u8 n1977), (.int .u8 n1978), (.int .u8 n1979), (.int .u8 n1980), (.int .u8 n1981), (.int .u8 n1982)])) ∧
 (X.Kept L1970 w1969 w1972) ∧
 (X.FactsW x2 w1972 (L1970)) ∧
 X.CallX Try.prog 9 #[(.agg #[(.int .u8 b_0), (.int .u16 b_1), (.int .u32 b_2), (.int .u8 b_3), (.int .u8 b_4), (.int .u8 b_5), (.int .u8 b_6), (.int .u8 b_7), (.int .u8 b_8), (.int .u8 b_9)])] w1972 fun e1983 w1984 =>
 ∃ n1985 : Int, ∃ n1986 : Int, ∃ n1987 : Int, ∃ n1988 : Int, ∃ n1989 : Int, ∃ n1990 : Int, ∃ n1991 : Int, ∃ n1992 : Int, ∃ n1993 : Int, ∃ n1994 : Int, (e1983 = .returned (.agg #[(.int .u8 n1985), (.int .u16 n1986), (.int .u32 n1987), (.int .u8 n1988), (.int .u8 n1989), (.int .u8 n1990), (.int .u8 n1991), (.int .u8 n1992), (.int .u8 n1993), (.int .u8 n1994)])) ∧
 (X.Kept L1970 w1972 w1984) ∧
 (X.FactsW x2 w1984 (L1970)) ∧
 X.CallX Try.prog 9 #[(.agg #[(.int .u8 c_0), (.int .u16 c_1), (.int .u32 c_2), (.int .u8 c_3), (.int .u8 c_4), (.int .u8 c_5), (.int .u8 c_6), (.int .u8 c_7), (.int .u8 c_8), (.int .u8 c_9)])] w1984 fun e1995 w1996 =>
 ∃ n1997 : Int, ∃ n1998 : Int, ∃ n1999 : Int, ∃ n2000 : Int, ∃ n2001 : Int, ∃ n2002 : Int, ∃ n2003 : Int, ∃ n2004 : Int, ∃ n2005 : Int, ∃ n2006 : Int, (e1995 = .returned (.agg #[(.int .u8 n1997), (.int .u16 n1998), (.int .u32 n1999), (.int .u8 n2000), (.int .u8 n2001), (.int .u8 n2002), (.int .u8 n2003), (.int .u8 n2004), (.int .u8 n2005), (.int .u8 n2006)])) ∧
 (X.Kept L1970 w1984 w1996) ∧
 (X.FactsW x2 w1996 (L1970)) ∧
 ∀ w2007 : World, ∀ L2008 : List Nat, (X.Hid (L1970) w1996 w2007) →
 (X.NewL (w).heap.size (L1970) w1996 w2007 L2008) →
 (([(.int .u8 a_0), (.int .u16 a_1), (.int .u32 a_2), (.int .u8 a_3), (.int .u8 a_4), (.int .u8 a_5), (.int .u8 a_6), (.int .u8 a_7), (.int .u8 a_8), (.int .u8 a_9)] : List Value) = [(.int .u8 a_0), (.int .u16 a_1), (.int .u32 a_2), (.int .u8 a_3), (.int .u8 a_4), (.int .u8 a_5), (.int .u8 a_6), (.int .u8 a_7), (.int .u8 a_8), (.int .u8 a_9)]) ∧
 (([(.int .u8 b_0), (.int .u16 b_1), (.int .u32 b_2), (.int .u8 b_3), (.int .u8 b_4), (.int .u8 b_5), (.int .u8 b_6), (.int .u8 b_7), (.int .u8 b_8), (.int .u8 b_9)] : List Value) = [(.int .u8 b_0), (.int .u16 b_1), (.int .u32 b_2), (.int .u8 b_3), (.int .u8 b_4), (.int .u8 b_5), (.int .u8 b_6), (.int .u8 b_7), (.int .u8 b_8), (.int .u8 b_9)]) ∧
 (([(.int .u8 c_0), (.int .u16 c_1), (.int .u32 c_2), (.int .u8 c_3), (.int .u8 c_4), (.int .u8 c_5), (.int .u8 c_6), (.int .u8 c_7), (.int .u8 c_8), (.int .u8 c_9)] : List Value) = [(.int .u8 c_0), (.int .u16 c_1), (.int .u32 c_2), (.int .u8 c_3), (.int .u8 c_4), (.int .u8 c_5), (.int .u8 c_6), (.int .u8 c_7), (.int .u8 c_8), (.int .u8 c_9)]) ∧
 x1 n1973 n1974 n1975 n1976 n1977 n1978 n1979 n1980 n1981 n1982 n1985 n1986 n1987 n1988 n1989 n1990 n1991 n1992 n1993 n1994 n1997 n1998 n1999 n2000 n2001 n2002 n2003 n2004 n2005 n2006 w2007 (L2008)) ∧
 (∀ w2009 : World, ∀ L2010 : List Nat, (X.Hid [] w w2009) →
 (X.NewL (w).heap.size [] w w2009 L2010) →
 X.CallX Try.prog 9 #[(.agg #[(.int .u8 a_0), (.int .u16 a_1), (.int .u32 a_2), (.int .u8 a_3), (.int .u8 a_4), (.int .u8 a_5), (.int .u8 a_6), (.int .u8 a_7), (.int .u8 a_8), (.int .u8 a_9)])] w2009 fun e2011 w2012 =>
 ∃ n2013 : Int, ∃ n2014 : Int, ∃ n2015 : Int, ∃ n2016 : Int, ∃ n2017 : Int, ∃ n2018 : Int, ∃ n2019 : Int, ∃ n2020 : Int, ∃ n2021 : Int, ∃ n2022 : Int, (e2011 = .returned (.agg #[(.int .u8 n2013), (.int .u16 n2014), (.int .u32 n2015), (.int .u8 n2016), (.int .u8 n2017), (.int .u8 n2018), (.int .u8 n2019), (.int .u8 n2020), (.int .u8 n2021), (.int .u8 n2022)])) ∧
 (X.Kept L2010 w2009 w2012) ∧
 (X.FactsW x2 w2012 (L2010)) ∧
 (X.CallX Try.prog 9 #[(.agg #[(.int .u8 b_0), (.int .u16 b_1), (.int .u32 b_2), (.int .u8 b_3), (.int .u8 b_4), (.int .u8 b_5), (.int .u8 b_6), (.int .u8 b_7), (.int .u8 b_8), (.int .u8 b_9)])] w2012 fun e2023 w2024 =>
 ∃ n2025 : Int, ∃ n2026 : Int, ∃ n2027 : Int, ∃ n2028 : Int, ∃ n2029 : Int, ∃ n2030 : Int, ∃ n2031 : Int, ∃ n2032 : Int, ∃ n2033 : Int, ∃ n2034 : Int, (e2023 = .returned (.agg #[(.int .u8 n2025), (.int .u16 n2026), (.int .u32 n2027), (.int .u8 n2028), (.int .u8 n2029), (.int .u8 n2030), (.int .u8 n2031), (.int .u8 n2032), (.int .u8 n2033), (.int .u8 n2034)])) ∧
 (X.Kept L2010 w2012 w2024) ∧
 (X.FactsW x2 w2024 (L2010)) ∧
 (X.CallX Try.prog 9 #[(.agg #[(.int .u8 c_0), (.int .u16 c_1), (.int .u32 c_2), (.int .u8 c_3), (.int .u8 c_4), (.int .u8 c_5), (.int .u8 c_6), (.int .u8 c_7), (.int .u8 c_8), (.int .u8 c_9)])] w2024 fun e2035 w2036 =>
 ∃ n2037 : Int, ∃ n2038 : Int, ∃ n2039 : Int, ∃ n2040 : Int, ∃ n2041 : Int, ∃ n2042 : Int, ∃ n2043 : Int, ∃ n2044 : Int, ∃ n2045 : Int, ∃ n2046 : Int, (e2035 = .returned (.agg #[(.int .u8 n2037), (.int .u16 n2038), (.int .u32 n2039), (.int .u8 n2040), (.int .u8 n2041), (.int .u8 n2042), (.int .u8 n2043), (.int .u8 n2044), (.int .u8 n2045), (.int .u8 n2046)])) ∧
 (X.Kept L2010 w2024 w2036) ∧
 (X.FactsW x2 w2036 (L2010)) ∧
 (∀ w2047 : World, ∀ L2048 : List Nat, (X.Hid (L2010) w2036 w2047) →
 (X.NewL (w).heap.size (L2010) w2036 w2047 L2048) →
 (([(.int .u8 a_0), (.int .u16 a_1), (.int .u32 a_2), (.int .u8 a_3), (.int .u8 a_4), (.int .u8 a_5), (.int .u8 a_6), (.int .u8 a_7), (.int .u8 a_8), (.int .u8 a_9)] : List Value) = [(.int .u8 a_0), (.int .u16 a_1), (.int .u32 a_2), (.int .u8 a_3), (.int .u8 a_4), (.int .u8 a_5), (.int .u8 a_6), (.int .u8 a_7), (.int .u8 a_8), (.int .u8 a_9)]) ∧
 (([(.int .u8 b_0), (.int .u16 b_1), (.int .u32 b_2), (.int .u8 b_3), (.int .u8 b_4), (.int .u8 b_5), (.int .u8 b_6), (.int .u8 b_7), (.int .u8 b_8), (.int .u8 b_9)] : List Value) = [(.int .u8 b_0), (.int .u16 b_1), (.int .u32 b_2), (.int .u8 b_3), (.int .u8 b_4), (.int .u8 b_5), (.int .u8 b_6), (.int .u8 b_7), (.int .u8 b_8), (.int .u8 b_9)]) ∧
 (([(.int .u8 c_0), (.int .u16 c_1), (.int .u32 c_2), (.int .u8 c_3), (.int .u8 c_4), (.int .u8 c_5), (.int .u8 c_6), (.int .u8 c_7), (.int .u8 c_8), (.int .u8 c_9)] : List Value) = [(.int .u8 c_0), (.int .u16 c_1), (.int .u32 c_2), (.int .u8 c_3), (.int .u8 c_4), (.int .u8 c_5), (.int .u8 c_6), (.int .u8 c_7), (.int .u8 c_8), (.int .u8 c_9)]) ∧
 x1 n2013 n2014 n2015 n2016 n2017 n2018 n2019 n2020 n2021 n2022 n2025 n2026 n2027 n2028 n2029 n2030 n2031 n2032 n2033 n2034 n2037 n2038 n2039 n2040 n2041 n2042 n2043 n2044 n2045 n2046 w2047 (L2048)) ∧
 ∀ w2049 : World, ∀ L2050 : List Nat, (X.Hid (L2010) w2036 w2049) →
 (X.NewL (w).heap.size (L2010) w2036 w2049 L2050) →
 (([(.int .u8 a_0), (.int .u16 a_1), (.int .u32 a_2), (.int .u8 a_3), (.int .u8 a_4), (.int .u8 a_5), (.int .u8 a_6), (.int .u8 a_7), (.int .u8 a_8), (.int .u8 a_9)] : List Value) = [(.int .u8 a_0), (.int .u16 a_1), (.int .u32 a_2), (.int .u8 a_3), (.int .u8 a_4), (.int .u8 a_5), (.int .u8 a_6), (.int .u8 a_7), (.int .u8 a_8), (.int .u8 a_9)]) ∧
 (([(.int .u8 b_0), (.int .u16 b_1), (.int .u32 b_2), (.int .u8 b_3), (.int .u8 b_4), (.int .u8 b_5), (.int .u8 b_6), (.int .u8 b_7), (.int .u8 b_8), (.int .u8 b_9)] : List Value) = [(.int .u8 b_0), (.int .u16 b_1), (.int .u32 b_2), (.int .u8 b_3), (.int .u8 b_4), (.int .u8 b_5), (.int .u8 b_6), (.int .u8 b_7), (.int .u8 b_8), (.int .u8 b_9)]) ∧
 (([(.int .u8 c_0), (.int .u16 c_1), (.int .u32 c_2), (.int .u8 c_3), (.int .u8 c_4), (.int .u8 c_5), (.int .u8 c_6), (.int .u8 c_7), (.int .u8 c_8), (.int .u8 c_9)] : List Value) = [(.int .u8 c_0), (.int .u16 c_1), (.int .u32 c_2), (.int .u8 c_3), (.int .u8 c_4), (.int .u8 c_5), (.int .u8 c_6), (.int .u8 c_7), (.int .u8 c_8), (.int .u8 c_9)]) ∧
 x1 n2013 n2014 n2015 n2016 n2017 n2018 n2019 n2020 n2021 n2022 n2025 n2026 n2027 n2028 n2029 n2030 n2031 n2032 n2033 n2034 n2037 n2038 n2039 n2040 n2041 n2042 n2043 n2044 n2045 n2046 w2049 (L2050)) ∧
 ((∀ w2051 : World, ∀ L2052 : List Nat, (X.Hid (L2010) w2024 w2051) →
 (X.NewL (w).heap.size (L2010) w2024 w2051 L2052) →
 X.CallX Try.prog 9 #[(.agg #[(.int .u8 c_0), (.int .u16 c_1), (.int .u32 c_2), (.int .u8 c_3), (.int .u8 c_4), (.int .u8 c_5), (.int .u8 c_6), (.int .u8 c_7), (.int .u8 c_8), (.int .u8 c_9)])] w2051 fun e2053 w2054 =>
 ∃ n2055 : Int, ∃ n2056 : Int, ∃ n2057 : Int, ∃ n2058 : Int, ∃ n2059 : Int, ∃ n2060 : Int, ∃ n2061 : Int, ∃ n2062 : Int, ∃ n2063 : Int, ∃ n2064 : Int, (e2053 = .returned (.agg #[(.int .u8 n2055), (.int .u16 n2056), (.int .u32 n2057), (.int .u8 n2058), (.int .u8 n2059), (.int .u8 n2060), (.int .u8 n2061), (.int .u8 n2062), (.int .u8 n2063), (.int .u8 n2064)])) ∧
 (X.Kept L2052 w2051 w2054) ∧
 (X.FactsW x2 w2054 (L2052)) ∧
 ∀ w2065 : World, ∀ L2066 : List Nat, (X.Hid (L2052) w2054 w2065) →
 (X.NewL (w).heap.size (L2052) w2054 w2065 L2066) →
 (([(.int .u8 a_0), (.int .u16 a_1), (.int .u32 a_2), (.int .u8 a_3), (.int .u8 a_4), (.int .u8 a_5), (.int .u8 a_6), (.int .u8 a_7), (.int .u8 a_8), (.int .u8 a_9)] : List Value) = [(.int .u8 a_0), (.int .u16 a_1), (.int .u32 a_2), (.int .u8 a_3), (.int .u8 a_4), (.int .u8 a_5), (.int .u8 a_6), (.int .u8 a_7), (.int .u8 a_8), (.int .u8 a_9)]) ∧
 (([(.int .u8 b_0), (.int .u16 b_1), (.int .u32 b_2), (.int .u8 b_3), (.int .u8 b_4), (.int .u8 b_5), (.int .u8 b_6), (.int .u8 b_7), (.int .u8 b_8), (.int .u8 b_9)] : List Value) = [(.int .u8 b_0), (.int .u16 b_1), (.int .u32 b_2), (.int .u8 b_3), (.int .u8 b_4), (.int .u8 b_5), (.int .u8 b_6), (.int .u8 b_7), (.int .u8 b_8), (.int .u8 b_9)]) ∧
 (([(.int .u8 c_0), (.int .u16 c_1), (.int .u32 c_2), (.int .u8 c_3), (.int .u8 c_4), (.int .u8 c_5), (.int .u8 c_6), (.int .u8 c_7), (.int .u8 c_8), (.int .u8 c_9)] : List Value) = [(.int .u8 c_0), (.int .u16 c_1), (.int .u32 c_2), (.int .u8 c_3), (.int .u8 c_4), (.int .u8 c_5), (.int .u8 c_6), (.int .u8 c_7), (.int .u8 c_8), (.int .u8 c_9)]) ∧
 x1 n2013 n2014 n2015 n2016 n2017 n2018 n2019 n2020 n2021 n2022 n2025 n2026 n2027 n2028 n2029 n2030 n2031 n2032 n2033 n2034 n2055 n2056 n2057 n2058 n2059 n2060 n2061 n2062 n2063 n2064 w2065 (L2066)) ∧
 ∀ w2067 : World, ∀ L2068 : List Nat, (X.Hid (L2010) w2024 w2067) →
 (X.NewL (w).heap.size (L2010) w2024 w2067 L2068) →
 X.CallX Try.prog 9 #[(.agg #[(.int .u8 c_0), (.int .u16 c_1), (.int .u32 c_2), (.int .u8 c_3), (.int .u8 c_4), (.int .u8 c_5), (.int .u8 c_6), (.int .u8 c_7), (.int .u8 c_8), (.int .u8 c_9)])] w2067 fun e2069 w2070 =>
 ∃ n2071 : Int, ∃ n2072 : Int, ∃ n2073 : Int, ∃ n2074 : Int, ∃ n2075 : Int, ∃ n2076 : Int, ∃ n2077 : Int, ∃ n2078 : Int, ∃ n2079 : Int, ∃ n2080 : Int, (e2069 = .returned (.agg #[(.int .u8 n2071), (.int .u16 n2072), (.int .u32 n2073), (.int .u8 n2074), (.int .u8 n2075), (.int .u8 n2076), (.int .u8 n2077), (.int .u8 n2078), (.int .u8 n2079), (.int .u8 n2080)])) ∧
 (X.Kept L2068 w2067 w2070) ∧
 (X.FactsW x2 w2070 (L2068)) ∧
 ∀ w2081 : World, ∀ L2082 : List Nat, (X.Hid (L2068) w2070 w2081) →
 (X.NewL (w).heap.size (L2068) w2070 w2081 L2082) →
 (([(.int .u8 a_0), (.int .u16 a_1), (.int .u32 a_2), (.int .u8 a_3), (.int .u8 a_4), (.int .u8 a_5), (.int .u8 a_6), (.int .u8 a_7), (.int .u8 a_8), (.int .u8 a_9)] : List Value) = [(.int .u8 a_0), (.int .u16 a_1), (.int .u32 a_2), (.int .u8 a_3), (.int .u8 a_4), (.int .u8 a_5), (.int .u8 a_6), (.int .u8 a_7), (.int .u8 a_8), (.int .u8 a_9)]) ∧
 (([(.int .u8 b_0), (.int .u16 b_1), (.int .u32 b_2), (.int .u8 b_3), (.int .u8 b_4), (.int .u8 b_5), (.int .u8 b_6), (.int .u8 b_7), (.int .u8 b_8), (.int .u8 b_9)] : List Value) = [(.int .u8 b_0), (.int .u16 b_1), (.int .u32 b_2), (.int .u8 b_3), (.int .u8 b_4), (.int .u8 b_5), (.int .u8 b_6), (.int .u8 b_7), (.int .u8 b_8), (.int .u8 b_9)]) ∧
 (([(.int .u8 c_0), (.int .u16 c_1), (.int .u32 c_2), (.int .u8 c_3), (.int .u8 c_4), (.int .u8 c_5), (.int .u8 c_6), (.int .u8 c_7), (.int .u8 c_8), (.int .u8 c_9)] : List Value) = [(.int .u8 c_0), (.int .u16 c_1), (.int .u32 c_2), (.int .u8 c_3), (.int .u8 c_4), (.int .u8 c_5), (.int .u8 c_6), (.int .u8 c_7), (.int .u8 c_8), (.int .u8 c_9)]) ∧
 x1 n2013 n2014 n2015 n2016 n2017 n2018 n2019 n2020 n2021 n2022 n2025 n2026 n2027 n2028 n2029 n2030 n2031 n2032 n2033 n2034 n2071 n2072 n2073 n2074 n2075 n2076 n2077 n2078 n2079 n2080 w2081 (L2082)) ∧
 (∀ w2083 : World, ∀ L2084 : List Nat, (X.Hid (L2010) w2024 w2083) →
 (X.NewL (w).heap.size (L2010) w2024 w2083 L2084) →
 X.CallX Try.prog 9 #[(.agg #[(.int .u8 c_0), (.int .u16 c_1), (.int .u32 c_2), (.int .u8 c_3), (.int .u8 c_4), (.int .u8 c_5), (.int .u8 c_6), (.int .u8 c_7), (.int .u8 c_8), (.int .u8 c_9)])] w2083 fun e2085 w2086 =>
 ∃ n2087 : Int, ∃ n2088 : Int, ∃ n2089 : Int, ∃ n2090 : Int, ∃ n2091 : Int, ∃ n2092 : Int, ∃ n2093 : Int, ∃ n2094 : Int, ∃ n2095 : Int, ∃ n2096 : Int, (e2085 = .returned (.agg #[(.int .u8 n2087), (.int .u16 n2088), (.int .u32 n2089), (.int .u8 n2090), (.int .u8 n2091), (.int .u8 n2092), (.int .u8 n2093), (.int .u8 n2094), (.int .u8 n2095), (.int .u8 n2096)])) ∧
 (X.Kept L2084 w2083 w2086) ∧
 (X.FactsW x2 w2086 (L2084)) ∧
 ∀ w2097 : World, ∀ L2098 : List Nat, (X.Hid (L2084) w2086 w2097) →
 (X.NewL (w).heap.size (L2084) w2086 w2097 L2098) →
 (([(.int .u8 a_0), (.int .u16 a_1), (.int .u32 a_2), (.int .u8 a_3), (.int .u8 a_4), (.int .u8 a_5), (.int .u8 a_6), (.int .u8 a_7), (.int .u8 a_8), (.int .u8 a_9)] : List Value) = [(.int .u8 a_0), (.int .u16 a_1), (.int .u32 a_2), (.int .u8 a_3), (.int .u8 a_4), (.int .u8 a_5), (.int .u8 a_6), (.int .u8 a_7), (.int .u8 a_8), (.int .u8 a_9)]) ∧
 (([(.int .u8 b_0), (.int .u16 b_1), (.int .u32 b_2), (.int .u8 b_3), (.int .u8 b_4), (.int .u8 b_5), (.int .u8 b_6), (.int .u8 b_7), (.int .u8 b_8), (.int .u8 b_9)] : List Value) = [(.int .u8 b_0), (.int .u16 b_1), (.int .u32 b_2), (.int .u8 b_3), (.int .u8 b_4), (.int .u8 b_5), (.int .u8 b_6), (.int .u8 b_7), (.int .u8 b_8), (.int .u8 b_9)]) ∧
 (([(.int .u8 c_0), (.int .u16 c_1), (.int .u32 c_2), (.int .u8 c_3), (.int .u8 c_4), (.int .u8 c_5), (.int .u8 c_6), (.int .u8 c_7), (.int .u8 c_8), (.int .u8 c_9)] : List Value) = [(.int .u8 c_0), (.int .u16 c_1), (.int .u32 c_2), (.int .u8 c_3), (.int .u8 c_4), (.int .u8 c_5), (.int .u8 c_6), (.int .u8 c_7), (.int .u8 c_8), (.int .u8 c_9)]) ∧
 x1 n2013 n2014 n2015 n2016 n2017 n2018 n2019 n2020 n2021 n2022 n2025 n2026 n2027 n2028 n2029 n2030 n2031 n2032 n2033 n2034 n2087 n2088 n2089 n2090 n2091 n2092 n2093 n2094 n2095 n2096 w2097 (L2098)) ∧
 ∀ w2099 : World, ∀ L2100 : List Nat, (X.Hid (L2010) w2024 w2099) →
 (X.NewL (w).heap.size (L2010) w2024 w2099 L2100) →
 X.CallX Try.prog 9 #[(.agg #[(.int .u8 c_0), (.int .u16 c_1), (.int .u32 c_2), (.int .u8 c_3), (.int .u8 c_4), (.int .u8 c_5), (.int .u8 c_6), (.int .u8 c_7), (.int .u8 c_8), (.int .u8 c_9)])] w2099 fun e2101 w2102 =>
 ∃ n2103 : Int, ∃ n2104 : Int, ∃ n2105 : Int, ∃ n2106 : Int, ∃ n2107 : Int, ∃ n2108 : Int, ∃ n2109 : Int, ∃ n2110 : Int, ∃ n2111 : Int, ∃ n2112 : Int, (e2101 = .returned (.agg #[(.int .u8 n2103), (.int .u16 n2104), (.int .u32 n2105), (.int .u8 n2106), (.int .u8 n2107), (.int .u8 n2108), (.int .u8 n2109), (.int .u8 n2110), (.int .u8 n2111), (.int .u8 n2112)])) ∧
 (X.Kept L2100 w2099 w2102) ∧
 (X.FactsW x2 w2102 (L2100)) ∧
 ∀ w2113 : World, ∀ L2114 : List Nat, (X.Hid (L2100) w2102 w2113) →
 (X.NewL (w).heap.size (L2100) w2102 w2113 L2114) →
 (([(.int .u8 a_0), (.int .u16 a_1), (.int .u32 a_2), (.int .u8 a_3), (.int .u8 a_4), (.int .u8 a_5), (.int .u8 a_6), (.int .u8 a_7), (.int .u8 a_8), (.int .u8 a_9)] : List Value) = [(.int .u8 a_0), (.int .u16 a_1), (.int .u32 a_2), (.int .u8 a_3), (.int .u8 a_4), (.int .u8 a_5), (.int .u8 a_6), (.int .u8 a_7), (.int .u8 a_8), (.int .u8 a_9)]) ∧
 (([(.int .u8 b_0), (.int .u16 b_1), (.int .u32 b_2), (.int .u8 b_3), (.int .u8 b_4), (.int .u8 b_5), (.int .u8 b_6), (.int .u8 b_7), (.int .u8 b_8), (.int .u8 b_9)] : List Value) = [(.int .u8 b_0), (.int .u16 b_1), (.int .u32 b_2), (.int .u8 b_3), (.int .u8 b_4), (.int .u8 b_5), (.int .u8 b_6), (.int .u8 b_7), (.int .u8 b_8), (.int .u8 b_9)]) ∧
 (([(.int .u8 c_0), (.int .u16 c_1), (.int .u32 c_2), (.int .u8 c_3), (.int .u8 c_4), (.int .u8 c_5), (.int .u8 c_6), (.int .u8 c_7), (.int .u8 c_8), (.int .u8 c_9)] : List Value) = [(.int .u8 c_0), (.int .u16 c_1), (.int .u32 c_2), (.int .u8 c_3), (.int .u8 c_4), (.int .u8 c_5), (.int .u8 c_6), (.int .u8 c_7), (.int .u8 c_8), (.int .u8 c_9)]) ∧
 x1 n2013 n2014 n2015 n2016 n2017 n2018 n2019 n2020 n2021 n2022 n2025 n2026 n2027 n2028 n2029 n2030 n2031 n2032 n2033 n2034 n2103 n2104 n2105 n2106 n2107 n2108 n2109 n2110 n2111 n2112 w2113 (L2114)) ∧
 ((∀ w2115 : World, ∀ L2116 : List Nat, (X.Hid (L2010) w2012 w2115) →
 (X.NewL (w).heap.size (L2010) w2012 w2115 L2116) →
 X.CallX Try.prog 9 #[(.agg #[(.int .u8 b_0), (.int .u16 b_1), (.int .u32 b_2), (.int .u8 b_3), (.int .u8 b_4), (.int .u8 b_5), (.int .u8 b_6), (.int .u8 b_7), (.int .u8 b_8), (.int .u8 b_9)])] w2115 fun e2117 w2118 =>
 ∃ n2119 : Int, ∃ n2120 : Int, ∃ n2121 : Int, ∃ n2122 : Int, ∃ n2123 : Int, ∃ n2124 : Int, ∃ n2125 : Int, ∃ n2126 : Int, ∃ n2127 : Int, ∃ n2128 : Int, (e2117 = .returned (.agg #[(.int .u8 n2119), (.int .u16 n2120), (.int .u32 n2121), (.int .u8 n2122), (.int .u8 n2123), (.int .u8 n2124), (.int .u8 n2125), (.int .u8 n2126), (.int .u8 n2127), (.int .u8 n2128)])) ∧
 (X.Kept L2116 w2115 w2118) ∧
 (X.FactsW x2 w2118 (L2116)) ∧
 (X.CallX Try.prog 9 #[(.agg #[(.int .u8 c_0), (.int .u16 c_1), (.int .u32 c_2), (.int .u8 c_3), (.int .u8 c_4), (.int .u8 c_5), (.int .u8 c_6), (.int .u8 c_7), (.int .u8 c_8), (.int .u8 c_9)])] w2118 fun e2129 w2130 =>
 ∃ n2131 : Int, ∃ n2132 : Int, ∃ n2133 : Int, ∃ n2134 : Int, ∃ n2135 : Int, ∃ n2136 : Int, ∃ n2137 : Int, ∃ n2138 : Int, ∃ n2139 : Int, ∃ n2140 : Int, (e2129 = .returned (.agg #[(.int .u8 n2131), (.int .u16 n2132), (.int .u32 n2133), (.int .u8 n2134), (.int .u8 n2135), (.int .u8 n2136), (.int .u8 n2137), (.int .u8 n2138), (.int .u8 n2139), (.int .u8 n2140)])) ∧
 (X.Kept L2116 w2118 w2130) ∧
 (X.FactsW x2 w2130 (L2116)) ∧
 ∀ w2141 : World, ∀ L2142 : List Nat, (X.Hid (L2116) w2130 w2141) →
 (X.NewL (w).heap.size (L2116) w2130 w2141 L2142) →
 (([(.int .u8 a_0), (.int .u16 a_1), (.int .u32 a_2), (.int .u8 a_3), (.int .u8 a_4), (.int .u8 a_5), (.int .u8 a_6), (.int .u8 a_7), (.int .u8 a_8), (.int .u8 a_9)] : List Value) = [(.int .u8 a_0), (.int .u16 a_1), (.int .u32 a_2), (.int .u8 a_3), (.int .u8 a_4), (.int .u8 a_5), (.int .u8 a_6), (.int .u8 a_7), (.int .u8 a_8), (.int .u8 a_9)]) ∧
 (([(.int .u8 b_0), (.int .u16 b_1), (.int .u32 b_2), (.int .u8 b_3), (.int .u8 b_4), (.int .u8 b_5), (.int .u8 b_6), (.int .u8 b_7), (.int .u8 b_8), (.int .u8 b_9)] : List Value) = [(.int .u8 b_0), (.int .u16 b_1), (.int .u32 b_2), (.int .u8 b_3), (.int .u8 b_4), (.int .u8 b_5), (.int .u8 b_6), (.int .u8 b_7), (.int .u8 b_8), (.int .u8 b_9)]) ∧
 (([(.int .u8 c_0), (.int .u16 c_1), (.int .u32 c_2), (.int .u8 c_3), (.int .u8 c_4), (.int .u8 c_5), (.int .u8 c_6), (.int .u8 c_7), (.int .u8 c_8), (.int .u8 c_9)] : List Value) = [(.int .u8 c_0), (.int .u16 c_1), (.int .u32 c_2), (.int .u8 c_3), (.int .u8 c_4), (.int .u8 c_5), (.int .u8 c_6), (.int .u8 c_7), (.int .u8 c_8), (.int .u8 c_9)]) ∧
 x1 n2013 n2014 n2015 n2016 n2017 n2018 n2019 n2020 n2021 n2022 n2119 n2120 n2121 n2122 n2123 n2124 n2125 n2126 n2127 n2128 n2131 n2132 n2133 n2134 n2135 n2136 n2137 n2138 n2139 n2140 w2141 (L2142)) ∧
 ∀ w2143 : World, ∀ L2144 : List Nat, (X.Hid (L2116) w2118 w2143) →
 (X.NewL (w).heap.size (L2116) w2118 w2143 L2144) →
 X.CallX Try.prog 9 #[(.agg #[(.int .u8 c_0), (.int .u16 c_1), (.int .u32 c_2), (.int .u8 c_3), (.int .u8 c_4), (.int .u8 c_5), (.int .u8 c_6), (.int .u8 c_7), (.int .u8 c_8), (.int .u8 c_9)])] w2143 fun e2145 w2146 =>
 ∃ n2147 : Int, ∃ n2148 : Int, ∃ n2149 : Int, ∃ n2150 : Int, ∃ n2151 : Int, ∃ n2152 : Int, ∃ n2153 : Int, ∃ n2154 : Int, ∃ n2155 : Int, ∃ n2156 : Int, (e2145 = .returned (.agg #[(.int .u8 n2147), (.int .u16 n2148), (.int .u32 n2149), (.int .u8 n2150), (.int .u8 n2151), (.int .u8 n2152), (.int .u8 n2153), (.int .u8 n2154), (.int .u8 n2155), (.int .u8 n2156)])) ∧
 (X.Kept L2144 w2143 w2146) ∧
 (X.FactsW x2 w2146 (L2144)) ∧
 ∀ w2157 : World, ∀ L2158 : List Nat, (X.Hid (L2144) w2146 w2157) →
 (X.NewL (w).heap.size (L2144) w2146 w2157 L2158) →
 (([(.int .u8 a_0), (.int .u16 a_1), (.int .u32 a_2), (.int .u8 a_3), (.int .u8 a_4), (.int .u8 a_5), (.int .u8 a_6), (.int .u8 a_7), (.int .u8 a_8), (.int .u8 a_9)] : List Value) = [(.int .u8 a_0), (.int .u16 a_1), (.int .u32 a_2), (.int .u8 a_3), (.int .u8 a_4), (.int .u8 a_5), (.int .u8 a_6), (.int .u8 a_7), (.int .u8 a_8), (.int .u8 a_9)]) ∧
 (([(.int .u8 b_0), (.int .u16 b_1), (.int .u32 b_2), (.int .u8 b_3), (.int .u8 b_4), (.int .u8 b_5), (.int .u8 b_6), (.int .u8 b_7), (.int .u8 b_8), (.int .u8 b_9)] : List Value) = [(.int .u8 b_0), (.int .u16 b_1), (.int .u32 b_2), (.int .u8 b_3), (.int .u8 b_4), (.int .u8 b_5), (.int .u8 b_6), (.int .u8 b_7), (.int .u8 b_8), (.int .u8 b_9)]) ∧
 (([(.int .u8 c_0), (.int .u16 c_1), (.int .u32 c_2), (.int .u8 c_3), (.int .u8 c_4), (.int .u8 c_5), (.int .u8 c_6), (.int .u8 c_7), (.int .u8 c_8), (.int .u8 c_9)] : List Value) = [(.int .u8 c_0), (.int .u16 c_1), (.int .u32 c_2), (.int .u8 c_3), (.int .u8 c_4), (.int .u8 c_5), (.int .u8 c_6), (.int .u8 c_7), (.int .u8 c_8), (.int .u8 c_9)]) ∧
 x1 n2013 n2014 n2015 n2016 n2017 n2018 n2019 n2020 n2021 n2022 n2119 n2120 n2121 n2122 n2123 n2124 n2125 n2126 n2127 n2128 n2147 n2148 n2149 n2150 n2151 n2152 n2153 n2154 n2155 n2156 w2157 (L2158)) ∧
 ∀ w2159 : World, ∀ L2160 : List Nat, (X.Hid (L2010) w2012 w2159) →
 (X.NewL (w).heap.size (L2010) w2012 w2159 L2160) →
 X.CallX Try.prog 9 #[(.agg #[(.int .u8 b_0), (.int .u16 b_1), (.int .u32 b_2), (.int .u8 b_3), (.int .u8 b_4), (.int .u8 b_5), (.int .u8 b_6), (.int .u8 b_7), (.int .u8 b_8), (.int .u8 b_9)])] w2159 fun e2161 w2162 =>
 ∃ n2163 : Int, ∃ n2164 : Int, ∃ n2165 : Int, ∃ n2166 : Int, ∃ n2167 : Int, ∃ n2168 : Int, ∃ n2169 : Int, ∃ n2170 : Int, ∃ n2171 : Int, ∃ n2172 : Int, (e2161 = .returned (.agg #[(.int .u8 n2163), (.int .u16 n2164), (.int .u32 n2165), (.int .u8 n2166), (.int .u8 n2167), (.int .u8 n2168), (.int .u8 n2169), (.int .u8 n2170), (.int .u8 n2171), (.int .u8 n2172)])) ∧
 (X.Kept L2160 w2159 w2162) ∧
 (X.FactsW x2 w2162 (L2160)) ∧
 X.CallX Try.prog 9 #[(.agg #[(.int .u8 c_0), (.int .u16 c_1), (.int .u32 c_2), (.int .u8 c_3), (.int .u8 c_4), (.int .u8 c_5), (.int .u8 c_6), (.int .u8 c_7), (.int .u8 c_8), (.int .u8 c_9)])] w2162 fun e2173 w2174 =>
 ∃ n2175 : Int, ∃ n2176 : Int, ∃ n2177 : Int, ∃ n2178 : Int, ∃ n2179 : Int, ∃ n2180 : Int, ∃ n2181 : Int, ∃ n2182 : Int, ∃ n2183 : Int, ∃ n2184 : Int, (e2173 = .returned (.agg #[(.int .u8 n2175), (.int .u16 n2176), (.int .u32 n2177), (.int .u8 n2178), (.int .u8 n2179), (.int .u8 n2180), (.int .u8 n2181), (.int .u8 n2182), (.int .u8 n2183), (.int .u8 n2184)])) ∧
 (X.Kept L2160 w2162 w2174) ∧
 (X.FactsW x2 w2174 (L2160)) ∧
 ∀ w2185 : World, ∀ L2186 : List Nat, (X.Hid (L2160) w2174 w2185) →
 (X.NewL (w).heap.size (L2160) w2174 w2185 L2186) →
 (([(.int .u8 a_0), (.int .u16 a_1), (.int .u32 a_2), (.int .u8 a_3), (.int .u8 a_4), (.int .u8 a_5), (.int .u8 a_6), (.int .u8 a_7), (.int .u8 a_8), (.int .u8 a_9)] : List Value) = [(.int .u8 a_0), (.int .u16 a_1), (.int .u32 a_2), (.int .u8 a_3), (.int .u8 a_4), (.int .u8 a_5), (.int .u8 a_6), (.int .u8 a_7), (.int .u8 a_8), (.int .u8 a_9)]) ∧
 (([(.int .u8 b_0), (.int .u16 b_1), (.int .u32 b_2), (.int .u8 b_3), (.int .u8 b_4), (.int .u8 b_5), (.int .u8 b_6), (.int .u8 b_7), (.int .u8 b_8), (.int .u8 b_9)] : List Value) = [(.int .u8 b_0), (.int .u16 b_1), (.int .u32 b_2), (.int .u8 b_3), (.int .u8 b_4), (.int .u8 b_5), (.int .u8 b_6), (.int .u8 b_7), (.int .u8 b_8), (.int .u8 b_9)]) ∧
 (([(.int .u8 c_0), (.int .u16 c_1), (.int .u32 c_2), (.int .u8 c_3), (.int .u8 c_4), (.int .u8 c_5), (.int .u8 c_6), (.int .u8 c_7), (.int .u8 c_8), (.int .u8 c_9)] : List Value) = [(.int .u8 c_0), (.int .u16 c_1), (.int .u32 c_2), (.int .u8 c_3), (.int .u8 c_4), (.int .u8 c_5), (.int .u8 c_6), (.int .u8 c_7), (.int .u8 c_8), (.int .u8 c_9)]) ∧
 x1 n2013 n2014 n2015 n2016 n2017 n2018 n2019 n2020 n2021 n2022 n2163 n2164 n2165 n2166 n2167 n2168 n2169 n2170 n2171 n2172 n2175 n2176 n2177 n2178 n2179 n2180 n2181 n2182 n2183 n2184 w2185 (L2186)) ∧
 (∀ w2187 : World, ∀ L2188 : List Nat, (X.Hid (L2010) w2012 w2187) →
 (X.NewL (w).heap.size (L2010) w2012 w2187 L2188) →
 X.CallX Try.prog 9 #[(.agg #[(.int .u8 b_0), (.int .u16 b_1), (.int .u32 b_2), (.int .u8 b_3), (.int .u8 b_4), (.int .u8 b_5), (.int .u8 b_6), (.int .u8 b_7), (.int .u8 b_8), (.int .u8 b_9)])] w2187 fun e2189 w2190 =>
 ∃ n2191 : Int, ∃ n2192 : Int, ∃ n2193 : Int, ∃ n2194 : Int, ∃ n2195 : Int, ∃ n2196 : Int, ∃ n2197 : Int, ∃ n2198 : Int, ∃ n2199 : Int, ∃ n2200 : Int, (e2189 = .returned (.agg #[(.int .u8 n2191), (.int .u16 n2192), (.int .u32 n2193), (.int .u8 n2194), (.int .u8 n2195), (.int .u8 n2196), (.int .u8 n2197), (.int .u8 n2198), (.int .u8 n2199), (.int .u8 n2200)])) ∧
 (X.Kept L2188 w2187 w2190) ∧
 (X.FactsW x2 w2190 (L2188)) ∧
 (X.CallX Try.prog 9 #[(.agg #[(.int .u8 c_0), (.int .u16 c_1), (.int .u32 c_2), (.int .u8 c_3), (.int .u8 c_4), (.int .u8 c_5), (.int .u8 c_6), (.int .u8 c_7), (.int .u8 c_8), (.int .u8 c_9)])] w2190 fun e2201 w2202 =>
 ∃ n2203 : Int, ∃ n2204 : Int, ∃ n2205 : Int, ∃ n2206 : Int, ∃ n2207 : Int, ∃ n2208 : Int, ∃ n2209 : Int, ∃ n2210 : Int, ∃ n2211 : Int, ∃ n2212 : Int, (e2201 = .returned (.agg #[(.int .u8 n2203), (.int .u16 n2204), (.int .u32 n2205), (.int .u8 n2206), (.int .u8 n2207), (.int .u8 n2208), (.int .u8 n2209), (.int .u8 n2210), (.int .u8 n2211), (.int .u8 n2212)])) ∧
 (X.Kept L2188 w2190 w2202) ∧
 (X.FactsW x2 w2202 (L2188)) ∧
 ∀ w2213 : World, ∀ L2214 : List Nat, (X.Hid (L2188) w2202 w2213) →
 (X.NewL (w).heap.size (L2188) w2202 w2213 L2214) →
 (([(.int .u8 a_0), (.int .u16 a_1), (.int .u32 a_2), (.int .u8 a_3), (.int .u8 a_4), (.int .u8 a_5), (.int .u8 a_6), (.int .u8 a_7), (.int .u8 a_8), (.int .u8 a_9)] : List Value) = [(.int .u8 a_0), (.int .u16 a_1), (.int .u32 a_2), (.int .u8 a_3), (.int .u8 a_4), (.int .u8 a_5), (.int .u8 a_6), (.int .u8 a_7), (.int .u8 a_8), (.int .u8 a_9)]) ∧
 (([(.int .u8 b_0), (.int .u16 b_1), (.int .u32 b_2), (.int .u8 b_3), (.int .u8 b_4), (.int .u8 b_5), (.int .u8 b_6), (.int .u8 b_7), (.int .u8 b_8), (.int .u8 b_9)] : List Value) = [(.int .u8 b_0), (.int .u16 b_1), (.int .u32 b_2), (.int .u8 b_3), (.int .u8 b_4), (.int .u8 b_5), (.int .u8 b_6), (.int .u8 b_7), (.int .u8 b_8), (.int .u8 b_9)]) ∧
 (([(.int .u8 c_0), (.int .u16 c_1), (.int .u32 c_2), (.int .u8 c_3), (.int .u8 c_4), (.int .u8 c_5), (.int .u8 c_6), (.int .u8 c_7), (.int .u8 c_8), (.int .u8 c_9)] : List Value) = [(.int .u8 c_0), (.int .u16 c_1), (.int .u32 c_2), (.int .u8 c_3), (.int .u8 c_4), (.int .u8 c_5), (.int .u8 c_6), (.int .u8 c_7), (.int .u8 c_8), (.int .u8 c_9)]) ∧
 x1 n2013 n2014 n2015 n2016 n2017 n2018 n2019 n2020 n2021 n2022 n2191 n2192 n2193 n2194 n2195 n2196 n2197 n2198 n2199 n2200 n2203 n2204 n2205 n2206 n2207 n2208 n2209 n2210 n2211 n2212 w2213 (L2214)) ∧
 ∀ w2215 : World, ∀ L2216 : List Nat, (X.Hid (L2188) w2190 w2215) →
 (X.NewL (w).heap.size (L2188) w2190 w2215 L2216) →
 X.CallX Try.prog 9 #[(.agg #[(.int .u8 c_0), (.int .u16 c_1), (.int .u32 c_2), (.int .u8 c_3), (.int .u8 c_4), (.int .u8 c_5), (.int .u8 c_6), (.int .u8 c_7), (.int .u8 c_8), (.int .u8 c_9)])] w2215 fun e2217 w2218 =>
 ∃ n2219 : Int, ∃ n2220 : Int, ∃ n2221 : Int, ∃ n2222 : Int, ∃ n2223 : Int, ∃ n2224 : Int, ∃ n2225 : Int, ∃ n2226 : Int, ∃ n2227 : Int, ∃ n2228 : Int, (e2217 = .returned (.agg #[(.int .u8 n2219), (.int .u16 n2220), (.int .u32 n2221), (.int .u8 n2222), (.int .u8 n2223), (.int .u8 n2224), (.int .u8 n2225), (.int .u8 n2226), (.int .u8 n2227), (.int .u8 n2228)])) ∧
 (X.Kept L2216 w2215 w2218) ∧
 (X.FactsW x2 w2218 (L2216)) ∧
 ∀ w2229 : World, ∀ L2230 : List Nat, (X.Hid (L2216) w2218 w2229) →
 (X.NewL (w).heap.size (L2216) w2218 w2229 L2230) →
 (([(.int .u8 a_0), (.int .u16 a_1), (.int .u32 a_2), (.int .u8 a_3), (.int .u8 a_4), (.int .u8 a_5), (.int .u8 a_6), (.int .u8 a_7), (.int .u8 a_8), (.int .u8 a_9)] : List Value) = [(.int .u8 a_0), (.int .u16 a_1), (.int .u32 a_2), (.int .u8 a_3), (.int .u8 a_4), (.int .u8 a_5), (.int .u8 a_6), (.int .u8 a_7), (.int .u8 a_8), (.int .u8 a_9)]) ∧
 (([(.int .u8 b_0), (.int .u16 b_1), (.int .u32 b_2), (.int .u8 b_3), (.int .u8 b_4), (.int .u8 b_5), (.int .u8 b_6), (.int .u8 b_7), (.int .u8 b_8), (.int .u8 b_9)] : List Value) = [(.int .u8 b_0), (.int .u16 b_1), (.int .u32 b_2), (.int .u8 b_3), (.int .u8 b_4), (.int .u8 b_5), (.int .u8 b_6), (.int .u8 b_7), (.int .u8 b_8), (.int .u8 b_9)]) ∧
 (([(.int .u8 c_0), (.int .u16 c_1), (.int .u32 c_2), (.int .u8 c_3), (.int .u8 c_4), (.int .u8 c_5), (.int .u8 c_6), (.int .u8 c_7), (.int .u8 c_8), (.int .u8 c_9)] : List Value) = [(.int .u8 c_0), (.int .u16 c_1), (.int .u32 c_2), (.int .u8 c_3), (.int .u8 c_4), (.int .u8 c_5), (.int .u8 c_6), (.int .u8 c_7), (.int .u8 c_8), (.int .u8 c_9)]) ∧
 x1 n2013 n2014 n2015 n2016 n2017 n2018 n2019 n2020 n2021 n2022 n2191 n2192 n2193 n2194 n2195 n2196 n2197 n2198 n2199 n2200 n2219 n2220 n2221 n2222 n2223 n2224 n2225 n2226 n2227 n2228 w2229 (L2230)) ∧
 ∀ w2231 : World, ∀ L2232 : List Nat, (X.Hid (L2010) w2012 w2231) →
 (X.NewL (w).heap.size (L2010) w2012 w2231 L2232) →
 X.CallX Try.prog 9 #[(.agg #[(.int .u8 b_0), (.int .u16 b_1), (.int .u32 b_2), (.int .u8 b_3), (.int .u8 b_4), (.int .u8 b_5), (.int .u8 b_6), (.int .u8 b_7), (.int .u8 b_8), (.int .u8 b_9)])] w2231 fun e2233 w2234 =>
 ∃ n2235 : Int, ∃ n2236 : Int, ∃ n2237 : Int, ∃ n2238 : Int, ∃ n2239 : Int, ∃ n2240 : Int, ∃ n2241 : Int, ∃ n2242 : Int, ∃ n2243 : Int, ∃ n2244 : Int, (e2233 = .returned (.agg #[(.int .u8 n2235), (.int .u16 n2236), (.int .u32 n2237), (.int .u8 n2238), (.int .u8 n2239), (.int .u8 n2240), (.int .u8 n2241), (.int .u8 n2242), (.int .u8 n2243), (.int .u8 n2244)])) ∧
 (X.Kept L2232 w2231 w2234) ∧
 (X.FactsW x2 w2234 (L2232)) ∧
 X.CallX Try.prog 9 #[(.agg #[(.int .u8 c_0), (.int .u16 c_1), (.int .u32 c_2), (.int .u8 c_3), (.int .u8 c_4), (.int .u8 c_5), (.int .u8 c_6), (.int .u8 c_7), (.int .u8 c_8), (.int .u8 c_9)])] w2234 fun e2245 w2246 =>
 ∃ n2247 : Int, ∃ n2248 : Int, ∃ n2249 : Int, ∃ n2250 : Int, ∃ n2251 : Int, ∃ n2252 : Int, ∃ n2253 : Int, ∃ n2254 : Int, ∃ n2255 : Int, ∃ n2256 : Int, (e2245 = .returned (.agg #[(.int .u8 n2247), (.int .u16 n2248), (.int .u32 n2249), (.int .u8 n2250), (.int .u8 n2251), (.int .u8 n2252), (.int .u8 n2253), (.int .u8 n2254), (.int .u8 n2255), (.int .u8 n2256)])) ∧
 (X.Kept L2232 w2234 w2246) ∧
 (X.FactsW x2 w2246 (L2232)) ∧
 ∀ w2257 : World, ∀ L2258 : List Nat, (X.Hid (L2232) w2246 w2257) →
 (X.NewL (w).heap.size (L2232) w2246 w2257 L2258) →
 (([(.int .u8 a_0), (.int .u16 a_1), (.int .u32 a_2), (.int .u8 a_3), (.int .u8 a_4), (.int .u8 a_5), (.int .u8 a_6), (.int .u8 a_7), (.int .u8 a_8), (.int .u8 a_9)] : List Value) = [(.int .u8 a_0), (.int .u16 a_1), (.int .u32 a_2), (.int .u8 a_3), (.int .u8 a_4), (.int .u8 a_5), (.int .u8 a_6), (.int .u8 a_7), (.int .u8 a_8), (.int .u8 a_9)]) ∧
 (([(.int .u8 b_0), (.int .u16 b_1), (.int .u32 b_2), (.int .u8 b_3), (.int .u8 b_4), (.int .u8 b_5), (.int .u8 b_6), (.int .u8 b_7), (.int .u8 b_8), (.int .u8 b_9)] : List Value) = [(.int .u8 b_0), (.int .u16 b_1), (.int .u32 b_2), (.int .u8 b_3), (.int .u8 b_4), (.int .u8 b_5), (.int .u8 b_6), (.int .u8 b_7), (.int .u8 b_8), (.int .u8 b_9)]) ∧
 (([(.int .u8 c_0), (.int .u16 c_1), (.int .u32 c_2), (.int .u8 c_3), (.int .u8 c_4), (.int .u8 c_5), (.int .u8 c_6), (.int .u8 c_7), (.int .u8 c_8), (.int .u8 c_9)] : List Value) = [(.int .u8 c_0), (.int .u16 c_1), (.int .u32 c_2), (.int .u8 c_3), (.int .u8 c_4), (.int .u8 c_5), (.int .u8 c_6), (.int .u8 c_7), (.int .u8 c_8), (.int .u8 c_9)]) ∧
 x1 n2013 n2014 n2015 n2016 n2017 n2018 n2019 n2020 n2021 n2022 n2235 n2236 n2237 n2238 n2239 n2240 n2241 n2242 n2243 n2244 n2247 n2248 n2249 n2250 n2251 n2252 n2253 n2254 n2255 n2256 w2257 (L2258)) ∧
 ((∀ w2259 : World, ∀ L2260 : List Nat, (X.Hid [] w w2259) →
 (X.NewL (w).heap.size [] w w2259 L2260) →
 X.CallX Try.prog 9 #[(.agg #[(.int .u8 a_0), (.int .u16 a_1), (.int .u32 a_2), (.int .u8 a_3), (.int .u8 a_4), (.int .u8 a_5), (.int .u8 a_6), (.int .u8 a_7), (.int .u8 a_8), (.int .u8 a_9)])] w2259 fun e2261 w2262 =>
 ∃ n2263 : Int, ∃ n2264 : Int, ∃ n2265 : Int, ∃ n2266 : Int, ∃ n2267 : Int, ∃ n2268 : Int, ∃ n2269 : Int, ∃ n2270 : Int, ∃ n2271 : Int, ∃ n2272 : Int, (e2261 = .returned (.agg #[(.int .u8 n2263), (.int .u16 n2264), (.int .u32 n2265), (.int .u8 n2266), (.int .u8 n2267), (.int .u8 n2268), (.int .u8 n2269), (.int .u8 n2270), (.int .u8 n2271), (.int .u8 n2272)])) ∧
 (X.Kept L2260 w2259 w2262) ∧
 (X.FactsW x2 w2262 (L2260)) ∧
 (X.CallX Try.prog 9 #[(.agg #[(.int .u8 b_0), (.int .u16 b_1), (.int .u32 b_2), (.int .u8 b_3), (.int .u8 b_4), (.int .u8 b_5), (.int .u8 b_6), (.int .u8 b_7), (.int .u8 b_8), (.int .u8 b_9)])] w2262 fun e2273 w2274 =>
 ∃ n2275 : Int, ∃ n2276 : Int, ∃ n2277 : Int, ∃ n2278 : Int, ∃ n2279 : Int, ∃ n2280 : Int, ∃ n2281 : Int, ∃ n2282 : Int, ∃ n2283 : Int, ∃ n2284 : Int, (e2273 = .returned (.agg #[(.int .u8 n2275), (.int .u16 n2276), (.int .u32 n2277), (.int .u8 n2278), (.int .u8 n2279), (.int .u8 n2280), (.int .u8 n2281), (.int .u8 n2282), (.int .u8 n2283), (.int .u8 n2284)])) ∧
 (X.Kept L2260 w2262 w2274) ∧
 (X.FactsW x2 w2274 (L2260)) ∧
 (X.CallX Try.prog 9 #[(.agg #[(.int .u8 c_0), (.int .u16 c_1), (.int .u32 c_2), (.int .u8 c_3), (.int .u8 c_4), (.int .u8 c_5), (.int .u8 c_6), (.int .u8 c_7), (.int .u8 c_8), (.int .u8 c_9)])] w2274 fun e2285 w2286 =>
 ∃ n2287 : Int, ∃ n2288 : Int, ∃ n2289 : Int, ∃ n2290 : Int, ∃ n2291 : Int, ∃ n2292 : Int, ∃ n2293 : Int, ∃ n2294 : Int, ∃ n2295 : Int, ∃ n2296 : Int, (e2285 = .returned (.agg #[(.int .u8 n2287), (.int .u16 n2288), (.int .u32 n2289), (.int .u8 n2290), (.int .u8 n2291), (.int .u8 n2292), (.int .u8 n2293), (.int .u8 n2294), (.int .u8 n2295), (.int .u8 n2296)])) ∧
 (X.Kept L2260 w2274 w2286) ∧
 (X.FactsW x2 w2286 (L2260)) ∧
 ∀ w2297 : World, ∀ L2298 : List Nat, (X.Hid (L2260) w2286 w2297) →
 (X.NewL (w).heap.size (L2260) w2286 w2297 L2298) →
 (([(.int .u8 a_0), (.int .u16 a_1), (.int .u32 a_2), (.int .u8 a_3), (.int .u8 a_4), (.int .u8 a_5), (.int .u8 a_6), (.int .u8 a_7), (.int .u8 a_8), (.int .u8 a_9)] : List Value) = [(.int .u8 a_0), (.int .u16 a_1), (.int .u32 a_2), (.int .u8 a_3), (.int .u8 a_4), (.int .u8 a_5), (.int .u8 a_6), (.int .u8 a_7), (.int .u8 a_8), (.int .u8 a_9)]) ∧
 (([(.int .u8 b_0), (.int .u16 b_1), (.int .u32 b_2), (.int .u8 b_3), (.int .u8 b_4), (.int .u8 b_5), (.int .u8 b_6), (.int .u8 b_7), (.int .u8 b_8), (.int .u8 b_9)] : List Value) = [(.int .u8 b_0), (.int .u16 b_1), (.int .u32 b_2), (.int .u8 b_3), (.int .u8 b_4), (.int .u8 b_5), (.int .u8 b_6), (.int .u8 b_7), (.int .u8 b_8), (.int .u8 b_9)]) ∧
 (([(.int .u8 c_0), (.int .u16 c_1), (.int .u32 c_2), (.int .u8 c_3), (.int .u8 c_4), (.int .u8 c_5), (.int .u8 c_6), (.int .u8 c_7), (.int .u8 c_8), (.int .u8 c_9)] : List Value) = [(.int .u8 c_0), (.int .u16 c_1), (.int .u32 c_2), (.int .u8 c_3), (.int .u8 c_4), (.int .u8 c_5), (.int .u8 c_6), (.int .u8 c_7), (.int .u8 c_8), (.int .u8 c_9)]) ∧
 x1 n2263 n2264 n2265 n2266 n2267 n2268 n2269 n2270 n2271 n2272 n2275 n2276 n2277 n2278 n2279 n2280 n2281 n2282 n2283 n2284 n2287 n2288 n2289 n2290 n2291 n2292 n2293 n2294 n2295 n2296 w2297 (L2298)) ∧
 ∀ w2299 : World, ∀ L2300 : List Nat, (X.Hid (L2260) w2274 w2299) →
 (X.NewL (w).heap.size (L2260) w2274 w2299 L2300) →
 X.CallX Try.prog 9 #[(.agg #[(.int .u8 c_0), (.int .u16 c_1), (.int .u32 c_2), (.int .u8 c_3), (.int .u8 c_4), (.int .u8 c_5), (.int .u8 c_6), (.int .u8 c_7), (.int .u8 c_8), (.int .u8 c_9)])] w2299 fun e2301 w2302 =>
 ∃ n2303 : Int, ∃ n2304 : Int, ∃ n2305 : Int, ∃ n2306 : Int, ∃ n2307 : Int, ∃ n2308 : Int, ∃ n2309 : Int, ∃ n2310 : Int, ∃ n2311 : Int, ∃ n2312 : Int, (e2301 = .returned (.agg #[(.int .u8 n2303), (.int .u16 n2304), (.int .u32 n2305), (.int .u8 n2306), (.int .u8 n2307), (.int .u8 n2308), (.int .u8 n2309), (.int .u8 n2310), (.int .u8 n2311), (.int .u8 n2312)])) ∧
 (X.Kept L2300 w2299 w2302) ∧
 (X.FactsW x2 w2302 (L2300)) ∧
 ∀ w2313 : World, ∀ L2314 : List Nat, (X.Hid (L2300) w2302 w2313) →
 (X.NewL (w).heap.size (L2300) w2302 w2313 L2314) →
 (([(.int .u8 a_0), (.int .u16 a_1), (.int .u32 a_2), (.int .u8 a_3), (.int .u8 a_4), (.int .u8 a_5), (.int .u8 a_6), (.int .u8 a_7), (.int .u8 a_8), (.int .u8 a_9)] : List Value) = [(.int .u8 a_0), (.int .u16 a_1), (.int .u32 a_2), (.int .u8 a_3), (.int .u8 a_4), (.int .u8 a_5), (.int .u8 a_6), (.int .u8 a_7), (.int .u8 a_8), (.int .u8 a_9)]) ∧
 (([(.int .u8 b_0), (.int .u16 b_1), (.int .u32 b_2), (.int .u8 b_3), (.int .u8 b_4), (.int .u8 b_5), (.int .u8 b_6), (.int .u8 b_7), (.int .u8 b_8), (.int .u8 b_9)] : List Value) = [(.int .u8 b_0), (.int .u16 b_1), (.int .u32 b_2), (.int .u8 b_3), (.int .u8 b_4), (.int .u8 b_5), (.int .u8 b_6), (.int .u8 b_7), (.int .u8 b_8), (.int .u8 b_9)]) ∧
 (([(.int .u8 c_0), (.int .u16 c_1), (.int .u32 c_2), (.int .u8 c_3), (.int .u8 c_4), (.int .u8 c_5), (.int .u8 c_6), (.int .u8 c_7), (.int .u8 c_8), (.int .u8 c_9)] : List Value) = [(.int .u8 c_0), (.int .u16 c_1), (.int .u32 c_2), (.int .u8 c_3), (.int .u8 c_4), (.int .u8 c_5), (.int .u8 c_6), (.int .u8 c_7), (.int .u8 c_8), (.int .u8 c_9)]) ∧
 x1 n2263 n2264 n2265 n2266 n2267 n2268 n2269 n2270 n2271 n2272 n2275 n2276 n2277 n2278 n2279 n2280 n2281 n2282 n2283 n2284 n2303 n2304 n2305 n2306 n2307 n2308 n2309 n2310 n2311 n2312 w2313 (L2314)) ∧
 ∀ w2315 : World, ∀ L2316 : List Nat, (X.Hid (L2260) w2262 w2315) →
 (X.NewL (w).heap.size (L2260) w2262 w2315 L2316) →
 X.CallX Try.prog 9 #[(.agg #[(.int .u8 b_0), (.int .u16 b_1), (.int .u32 b_2), (.int .u8 b_3), (.int .u8 b_4), (.int .u8 b_5), (.int .u8 b_6), (.int .u8 b_7), (.int .u8 b_8), (.int .u8 b_9)])] w2315 fun e2317 w2318 =>
 ∃ n2319 : Int, ∃ n2320 : Int, ∃ n2321 : Int, ∃ n2322 : Int, ∃ n2323 : Int, ∃ n2324 : Int, ∃ n2325 : Int, ∃ n2326 : Int, ∃ n2327 : Int, ∃ n2328 : Int, (e2317 = .returned (.agg #[(.int .u8 n2319), (.int .u16 n2320), (.int .u32 n2321), (.int .u8 n2322), (.int .u8 n2323), (.int .u8 n2324), (.int .u8 n2325), (.int .u8 n2326), (.int .u8 n2327), (.int .u8 n2328)])) ∧
 (X.Kept L2316 w2315 w2318) ∧
 (X.FactsW x2 w2318 (L2316)) ∧
 X.CallX Try.prog 9 #[(.agg #[(.int .u8 c_0), (.int .u16 c_1), (.int .u32 c_2), (.int .u8 c_3), (.int .u8 c_4), (.int .u8 c_5), (.int .u8 c_6), (.int .u8 c_7), (.int .u8 c_8), (.int .u8 c_9)])] w2318 fun e2329 w2330 =>
 ∃ n2331 : Int, ∃ n2332 : Int, ∃ n2333 : Int, ∃ n2334 : Int, ∃ n2335 : Int, ∃ n2336 : Int, ∃ n2337 : Int, ∃ n2338 : Int, ∃ n2339 : Int, ∃ n2340 : Int, (e2329 = .returned (.agg #[(.int .u8 n2331), (.int .u16 n2332), (.int .u32 n2333), (.int .u8 n2334), (.int .u8 n2335), (.int .u8 n2336), (.int .u8 n2337), (.int .u8 n2338), (.int .u8 n2339), (.int .u8 n2340)])) ∧
 (X.Kept L2316 w2318 w2330) ∧
 (X.FactsW x2 w2330 (L2316)) ∧
 ∀ w2341 : World, ∀ L2342 : List Nat, (X.Hid (L2316) w2330 w2341) →
 (X.NewL (w).heap.size (L2316) w2330 w2341 L2342) →
 (([(.int .u8 a_0), (.int .u16 a_1), (.int .u32 a_2), (.int .u8 a_3), (.int .u8 a_4), (.int .u8 a_5), (.int .u8 a_6), (.int .u8 a_7), (.int .u8 a_8), (.int .u8 a_9)] : List Value) = [(.int .u8 a_0), (.int .u16 a_1), (.int .u32 a_2), (.int .u8 a_3), (.int .u8 a_4), (.int .u8 a_5), (.int .u8 a_6), (.int .u8 a_7), (.int .u8 a_8), (.int .u8 a_9)]) ∧
 (([(.int .u8 b_0), (.int .u16 b_1), (.int .u32 b_2), (.int .u8 b_3), (.int .u8 b_4), (.int .u8 b_5), (.int .u8 b_6), (.int .u8 b_7), (.int .u8 b_8), (.int .u8 b_9)] : List Value) = [(.int .u8 b_0), (.int .u16 b_1), (.int .u32 b_2), (.int .u8 b_3), (.int .u8 b_4), (.int .u8 b_5), (.int .u8 b_6), (.int .u8 b_7), (.int .u8 b_8), (.int .u8 b_9)]) ∧
 (([(.int .u8 c_0), (.int .u16 c_1), (.int .u32 c_2), (.int .u8 c_3), (.int .u8 c_4), (.int .u8 c_5), (.int .u8 c_6), (.int .u8 c_7), (.int .u8 c_8), (.int .u8 c_9)] : List Value) = [(.int .u8 c_0), (.int .u16 c_1), (.int .u32 c_2), (.int .u8 c_3), (.int .u8 c_4), (.int .u8 c_5), (.int .u8 c_6), (.int .u8 c_7), (.int .u8 c_8), (.int .u8 c_9)]) ∧
 x1 n2263 n2264 n2265 n2266 n2267 n2268 n2269 n2270 n2271 n2272 n2319 n2320 n2321 n2322 n2323 n2324 n2325 n2326 n2327 n2328 n2331 n2332 n2333 n2334 n2335 n2336 n2337 n2338 n2339 n2340 w2341 (L2342)) ∧
 ∀ w2343 : World, ∀ L2344 : List Nat, (X.Hid [] w w2343) →
 (X.NewL (w).heap.size [] w w2343 L2344) →
 X.CallX Try.prog 9 #[(.agg #[(.int .u8 a_0), (.int .u16 a_1), (.int .u32 a_2), (.int .u8 a_3), (.int .u8 a_4), (.int .u8 a_5), (.int .u8 a_6), (.int .u8 a_7), (.int .u8 a_8), (.int .u8 a_9)])] w2343 fun e2345 w2346 =>
 ∃ n2347 : Int, ∃ n2348 : Int, ∃ n2349 : Int, ∃ n2350 : Int, ∃ n2351 : Int, ∃ n2352 : Int, ∃ n2353 : Int, ∃ n2354 : Int, ∃ n2355 : Int, ∃ n2356 : Int, (e2345 = .returned (.agg #[(.int .u8 n2347), (.int .u16 n2348), (.int .u32 n2349), (.int .u8 n2350), (.int .u8 n2351), (.int .u8 n2352), (.int .u8 n2353), (.int .u8 n2354), (.int .u8 n2355), (.int .u8 n2356)])) ∧
 (X.Kept L2344 w2343 w2346) ∧
 (X.FactsW x2 w2346 (L2344)) ∧
 X.CallX Try.prog 9 #[(.agg #[(.int .u8 b_0), (.int .u16 b_1), (.int .u32 b_2), (.int .u8 b_3), (.int .u8 b_4), (.int .u8 b_5), (.int .u8 b_6), (.int .u8 b_7), (.int .u8 b_8), (.int .u8 b_9)])] w2346 fun e2357 w2358 =>
 ∃ n2359 : Int, ∃ n2360 : Int, ∃ n2361 : Int, ∃ n2362 : Int, ∃ n2363 : Int, ∃ n2364 : Int, ∃ n2365 : Int, ∃ n2366 : Int, ∃ n2367 : Int, ∃ n2368 : Int, (e2357 = .returned (.agg #[(.int .u8 n2359), (.int .u16 n2360), (.int .u32 n2361), (.int .u8 n2362), (.int .u8 n2363), (.int .u8 n2364), (.int .u8 n2365), (.int .u8 n2366), (.int .u8 n2367), (.int .u8 n2368)])) ∧
 (X.Kept L2344 w2346 w2358) ∧
 (X.FactsW x2 w2358 (L2344)) ∧
 X.CallX Try.prog 9 #[(.agg #[(.int .u8 c_0), (.int .u16 c_1), (.int .u32 c_2), (.int .u8 c_3), (.int .u8 c_4), (.int .u8 c_5), (.int .u8 c_6), (.int .u8 c_7), (.int .u8 c_8), (.int .u8 c_9)])] w2358 fun e2369 w2370 =>
 ∃ n2371 : Int, ∃ n2372 : Int, ∃ n2373 : Int, ∃ n2374 : Int, ∃ n2375 : Int, ∃ n2376 : Int, ∃ n2377 : Int, ∃ n2378 : Int, ∃ n2379 : Int, ∃ n2380 : Int, (e2369 = .returned (.agg #[(.int .u8 n2371), (.int .u16 n2372), (.int .u32 n2373), (.int .u8 n2374), (.int .u8 n2375), (.int .u8 n2376), (.int .u8 n2377), (.int .u8 n2378), (.int .u8 n2379), (.int .u8 n2380)])) ∧
 (X.Kept L2344 w2358 w2370) ∧
 (X.FactsW x2 w2370 (L2344)) ∧
 ∀ w2381 : World, ∀ L2382 : List Nat, (X.Hid (L2344) w2370 w2381) →
 (X.NewL (w).heap.size (L2344) w2370 w2381 L2382) →
 (([(.int .u8 a_0), (.int .u16 a_1), (.int .u32 a_2), (.int .u8 a_3), (.int .u8 a_4), (.int .u8 a_5), (.int .u8 a_6), (.int .u8 a_7), (.int .u8 a_8), (.int .u8 a_9)] : List Value) = [(.int .u8 a_0), (.int .u16 a_1), (.int .u32 a_2), (.int .u8 a_3), (.int .u8 a_4), (.int .u8 a_5), (.int .u8 a_6), (.int .u8 a_7), (.int .u8 a_8), (.int .u8 a_9)]) ∧
 (([(.int .u8 b_0), (.int .u16 b_1), (.int .u32 b_2), (.int .u8 b_3), (.int .u8 b_4), (.int .u8 b_5), (.int .u8 b_6), (.int .u8 b_7), (.int .u8 b_8), (.int .u8 b_9)] : List Value) = [(.int .u8 b_0), (.int .u16 b_1), (.int .u32 b_2), (.int .u8 b_3), (.int .u8 b_4), (.int .u8 b_5), (.int .u8 b_6), (.int .u8 b_7), (.int .u8 b_8), (.int .u8 b_9)]) ∧
 (([(.int .u8 c_0), (.int .u16 c_1), (.int .u32 c_2), (.int .u8 c_3), (.int .u8 c_4), (.int .u8 c_5), (.int .u8 c_6), (.int .u8 c_7), (.int .u8 c_8), (.int .u8 c_9)] : List Value) = [(.int .u8 c_0), (.int .u16 c_1), (.int .u32 c_2), (.int .u8 c_3), (.int .u8 c_4), (.int .u8 c_5), (.int .u8 c_6), (.int .u8 c_7), (.int .u8 c_8), (.int .u8 c_9)]) ∧
 x1 n2347 n2348 n2349 n2350 n2351 n2352 n2353 n2354 n2355 n2356 n2359 n2360 n2361 n2362 n2363 n2364 n2365 n2366 n2367 n2368 n2371 n2372 n2373 n2374 n2375 n2376 n2377 n2378 n2379 n2380 w2381 (L2382)) ∧
 (∀ w2383 : World, ∀ L2384 : List Nat, (X.Hid [] w w2383) →
 (X.NewL (w).heap.size [] w w2383 L2384) →
 X.CallX Try.prog 9 #[(.agg #[(.int .u8 a_0), (.int .u16 a_1), (.int .u32 a_2), (.int .u8 a_3), (.int .u8 a_4), (.int .u8 a_5), (.int .u8 a_6), (.int .u8 a_7), (.int .u8 a_8), (.int .u8 a_9)])] w2383 fun e2385 w2386 =>
 ∃ n2387 : Int, ∃ n2388 : Int, ∃ n2389 : Int, ∃ n2390 : Int, ∃ n2391 : Int, ∃ n2392 : Int, ∃ n2393 : Int, ∃ n2394 : Int, ∃ n2395 : Int, ∃ n2396 : Int, (e2385 = .returned (.agg #[(.int .u8 n2387), (.int .u16 n2388), (.int .u32 n2389), (.int .u8 n2390), (.int .u8 n2391), (.int .u8 n2392), (.int .u8 n2393), (.int .u8 n2394), (.int .u8 n2395), (.int .u8 n2396)])) ∧
 (X.Kept L2384 w2383 w2386) ∧
 (X.FactsW x2 w2386 (L2384)) ∧
 (X.CallX Try.prog 9 #[(.agg #[(.int .u8 b_0), (.int .u16 b_1), (.int .u32 b_2), (.int .u8 b_3), (.int .u8 b_4), (.int .u8 b_5), (.int .u8 b_6), (.int .u8 b_7), (.int .u8 b_8), (.int .u8 b_9)])] w2386 fun e2397 w2398 =>
 ∃ n2399 : Int, ∃ n2400 : Int, ∃ n2401 : Int, ∃ n2402 : Int, ∃ n2403 : Int, ∃ n2404 : Int, ∃ n2405 : Int, ∃ n2406 : Int, ∃ n2407 : Int, ∃ n2408 : Int, (e2397 = .returned (.agg #[(.int .u8 n2399), (.int .u16 n2400), (.int .u32 n2401), (.int .u8 n2402), (.int .u8 n2403), (.int .u8 n2404), (.int .u8 n2405), (.int .u8 n2406), (.int .u8 n2407), (.int .u8 n2408)])) ∧
 (X.Kept L2384 w2386 w2398) ∧
 (X.FactsW x2 w2398 (L2384)) ∧
 (X.CallX Try.prog 9 #[(.agg #[(.int .u8 c_0), (.int .u16 c_1), (.int .u32 c_2), (.int .u8 c_3), (.int .u8 c_4), (.int .u8 c_5), (.int .u8 c_6), (.int .u8 c_7), (.int .u8 c_8), (.int .u8 c_9)])] w2398 fun e2409 w2410 =>
 ∃ n2411 : Int, ∃ n2412 : Int, ∃ n2413 : Int, ∃ n2414 : Int, ∃ n2415 : Int, ∃ n2416 : Int, ∃ n2417 : Int, ∃ n2418 : Int, ∃ n2419 : Int, ∃ n2420 : Int, (e2409 = .returned (.agg #[(.int .u8 n2411), (.int .u16 n2412), (.int .u32 n2413), (.int .u8 n2414), (.int .u8 n2415), (.int .u8 n2416), (.int .u8 n2417), (.int .u8 n2418), (.int .u8 n2419), (.int .u8 n2420)])) ∧
 (X.Kept L2384 w2398 w2410) ∧
 (X.FactsW x2 w2410 (L2384)) ∧
 ∀ w2421 : World, ∀ L2422 : List Nat, (X.Hid (L2384) w2410 w2421) →
 (X.NewL (w).heap.size (L2384) w2410 w2421 L2422) →
 (([(.int .u8 a_0), (.int .u16 a_1), (.int .u32 a_2), (.int .u8 a_3), (.int .u8 a_4), (.int .u8 a_5), (.int .u8 a_6), (.int .u8 a_7), (.int .u8 a_8), (.int .u8 a_9)] : List Value) = [(.int .u8 a_0), (.int .u16 a_1), (.int .u32 a_2), (.int .u8 a_3), (.int .u8 a_4), (.int .u8 a_5), (.int .u8 a_6), (.int .u8 a_7), (.int .u8 a_8), (.int .u8 a_9)]) ∧
 (([(.int .u8 b_0), (.int .u16 b_1), (.int .u32 b_2), (.int .u8 b_3), (.int .u8 b_4), (.int .u8 b_5), (.int .u8 b_6), (.int .u8 b_7), (.int .u8 b_8), (.int .u8 b_9)] : List Value) = [(.int .u8 b_0), (.int .u16 b_1), (.int .u32 b_2), (.int .u8 b_3), (.int .u8 b_4), (.int .u8 b_5), (.int .u8 b_6), (.int .u8 b_7), (.int .u8 b_8), (.int .u8 b_9)]) ∧
 (([(.int .u8 c_0), (.int .u16 c_1), (.int .u32 c_2), (.int .u8 c_3), (.int .u8 c_4), (.int .u8 c_5), (.int .u8 c_6), (.int .u8 c_7), (.int .u8 c_8), (.int .u8 c_9)] : List Value) = [(.int .u8 c_0), (.int .u16 c_1), (.int .u32 c_2), (.int .u8 c_3), (.int .u8 c_4), (.int .u8 c_5), (.int .u8 c_6), (.int .u8 c_7), (.int .u8 c_8), (.int .u8 c_9)]) ∧
 x1 n2387 n2388 n2389 n2390 n2391 n2392 n2393 n2394 n2395 n2396 n2399 n2400 n2401 n2402 n2403 n2404 n2405 n2406 n2407 n2408 n2411 n2412 n2413 n2414 n2415 n2416 n2417 n2418 n2419 n2420 w2421 (L2422)) ∧
 ∀ w2423 : World, ∀ L2424 : List Nat, (X.Hid (L2384) w2398 w2423) →
 (X.NewL (w).heap.size (L2384) w2398 w2423 L2424) →
 X.CallX Try.prog 9 #[(.agg #[(.int .u8 c_0), (.int .u16 c_1), (.int .u32 c_2), (.int .u8 c_3), (.int .u8 c_4), (.int .u8 c_5), (.int .u8 c_6), (.int .u8 c_7), (.int .u8 c_8), (.int .u8 c_9)])] w2423 fun e2425 w2426 =>
 ∃ n2427 : Int, ∃ n2428 : Int, ∃ n2429 : Int, ∃ n2430 : Int, ∃ n2431 : Int, ∃ n2432 : Int, ∃ n2433 : Int, ∃ n2434 : Int, ∃ n2435 : Int, ∃ n2436 : Int, (e2425 = .returned (.agg #[(.int .u8 n2427), (.int .u16 n2428), (.int .u32 n2429), (.int .u8 n2430), (.int .u8 n2431), (.int .u8 n2432), (.int .u8 n2433), (.int .u8 n2434), (.int .u8 n2435), (.int .u8 n2436)])) ∧
 (X.Kept L2424 w2423 w2426) ∧
 (X.FactsW x2 w2426 (L2424)) ∧
 ∀ w2437 : World, ∀ L2438 : List Nat, (X.Hid (L2424) w2426 w2437) →
 (X.NewL (w).heap.size (L2424) w2426 w2437 L2438) →
 (([(.int .u8 a_0), (.int .u16 a_1), (.int .u32 a_2), (.int .u8 a_3), (.int .u8 a_4), (.int .u8 a_5), (.int .u8 a_6), (.int .u8 a_7), (.int .u8 a_8), (.int .u8 a_9)] : List Value) = [(.int .u8 a_0), (.int .u16 a_1), (.int .u32 a_2), (.int .u8 a_3), (.int .u8 a_4), (.int .u8 a_5), (.int .u8 a_6), (.int .u8 a_7), (.int .u8 a_8), (.int .u8 a_9)]) ∧
 (([(.int .u8 b_0), (.int .u16 b_1), (.int .u32 b_2), (.int .u8 b_3), (.int .u8 b_4), (.int .u8 b_5), (.int .u8 b_6), (.int .u8 b_7), (.int .u8 b_8), (.int .u8 b_9)] : List Value) = [(.int .u8 b_0), (.int .u16 b_1), (.int .u32 b_2), (.int .u8 b_3), (.int .u8 b_4), (.int .u8 b_5), (.int .u8 b_6), (.int .u8 b_7), (.int .u8 b_8), (.int .u8 b_9)]) ∧
 (([(.int .u8 c_0), (.int .u16 c_1), (.int .u32 c_2), (.int .u8 c_3), (.int .u8 c_4), (.int .u8 c_5), (.int .u8 c_6), (.int .u8 c_7), (.int .u8 c_8), (.int .u8 c_9)] : List Value) = [(.int .u8 c_0), (.int .u16 c_1), (.int .u32 c_2), (.int .u8 c_3), (.int .u8 c_4), (.int .u8 c_5), (.int .u8 c_6), (.int .u8 c_7), (.int .u8 c_8), (.int .u8 c_9)]) ∧
 x1 n2387 n2388 n2389 n2390 n2391 n2392 n2393 n2394 n2395 n2396 n2399 n2400 n2401 n2402 n2403 n2404 n2405 n2406 n2407 n2408 n2427 n2428 n2429 n2430 n2431 n2432 n2433 n2434 n2435 n2436 w2437 (L2438)) ∧
 ∀ w2439 : World, ∀ L2440 : List Nat, (X.Hid (L2384) w2386 w2439) →
 (X.NewL (w).heap.size (L2384) w2386 w2439 L2440) →
 X.CallX Try.prog 9 #[(.agg #[(.int .u8 b_0), (.int .u16 b_1), (.int .u32 b_2), (.int .u8 b_3), (.int .u8 b_4), (.int .u8 b_5), (.int .u8 b_6), (.int .u8 b_7), (.int .u8 b_8), (.int .u8 b_9)])] w2439 fun e2441 w2442 =>
 ∃ n2443 : Int, ∃ n2444 : Int, ∃ n2445 : Int, ∃ n2446 : Int, ∃ n2447 : Int, ∃ n2448 : Int, ∃ n2449 : Int, ∃ n2450 : Int, ∃ n2451 : Int, ∃ n2452 : Int, (e2441 = .returned (.agg #[(.int .u8 n2443), (.int .u16 n2444), (.int .u32 n2445), (.int .u8 n2446), (.int .u8 n2447), (.int .u8 n2448), (.int .u8 n2449), (.int .u8 n2450), (.int .u8 n2451), (.int .u8 n2452)])) ∧
 (X.Kept L2440 w2439 w2442) ∧
 (X.FactsW x2 w2442 (L2440)) ∧
 X.CallX Try.prog 9 #[(.agg #[(.int .u8 c_0), (.int .u16 c_1), (.int .u32 c_2), (.int .u8 c_3), (.int .u8 c_4), (.int .u8 c_5), (.int .u8 c_6), (.int .u8 c_7), (.int .u8 c_8), (.int .u8 c_9)])] w2442 fun e2453 w2454 =>
 ∃ n2455 : Int, ∃ n2456 : Int, ∃ n2457 : Int, ∃ n2458 : Int, ∃ n2459 : Int, ∃ n2460 : Int, ∃ n2461 : Int, ∃ n2462 : Int, ∃ n2463 : Int, ∃ n2464 : Int, (e2453 = .returned (.agg #[(.int .u8 n2455), (.int .u16 n2456), (.int .u32 n2457), (.int .u8 n2458), (.int .u8 n2459), (.int .u8 n2460), (.int .u8 n2461), (.int .u8 n2462), (.int .u8 n2463), (.int .u8 n2464)])) ∧
 (X.Kept L2440 w2442 w2454) ∧
 (X.FactsW x2 w2454 (L2440)) ∧
 ∀ w2465 : World, ∀ L2466 : List Nat, (X.Hid (L2440) w2454 w2465) →
 (X.NewL (w).heap.size (L2440) w2454 w2465 L2466) →
 (([(.int .u8 a_0), (.int .u16 a_1), (.int .u32 a_2), (.int .u8 a_3), (.int .u8 a_4), (.int .u8 a_5), (.int .u8 a_6), (.int .u8 a_7), (.int .u8 a_8), (.int .u8 a_9)] : List Value) = [(.int .u8 a_0), (.int .u16 a_1), (.int .u32 a_2), (.int .u8 a_3), (.int .u8 a_4), (.int .u8 a_5), (.int .u8 a_6), (.int .u8 a_7), (.int .u8 a_8), (.int .u8 a_9)]) ∧
 (([(.int .u8 b_0), (.int .u16 b_1), (.int .u32 b_2), (.int .u8 b_3), (.int .u8 b_4), (.int .u8 b_5), (.int .u8 b_6), (.int .u8 b_7), (.int .u8 b_8), (.int .u8 b_9)] : List Value) = [(.int .u8 b_0), (.int .u16 b_1), (.int .u32 b_2), (.int .u8 b_3), (.int .u8 b_4), (.int .u8 b_5), (.int .u8 b_6), (.int .u8 b_7), (.int .u8 b_8), (.int .u8 b_9)]) ∧
 (([(.int .u8 c_0), (.int .u16 c_1), (.int .u32 c_2), (.int .u8 c_3), (.int .u8 c_4), (.int .u8 c_5), (.int .u8 c_6), (.int .u8 c_7), (.int .u8 c_8), (.int .u8 c_9)] : List Value) = [(.int .u8 c_0), (.int .u16 c_1), (.int .u32 c_2), (.int .u8 c_3), (.int .u8 c_4), (.int .u8 c_5), (.int .u8 c_6), (.int .u8 c_7), (.int .u8 c_8), (.int .u8 c_9)]) ∧
 x1 n2387 n2388 n2389 n2390 n2391 n2392 n2393 n2394 n2395 n2396 n2443 n2444 n2445 n2446 n2447 n2448 n2449 n2450 n2451 n2452 n2455 n2456 n2457 n2458 n2459 n2460 n2461 n2462 n2463 n2464 w2465 (L2466)) ∧
 ∀ w2467 : World, ∀ L2468 : List Nat, (X.Hid [] w w2467) →
 (X.NewL (w).heap.size [] w w2467 L2468) →
 X.CallX Try.prog 9 #[(.agg #[(.int .u8 a_0), (.int .u16 a_1), (.int .u32 a_2), (.int .u8 a_3), (.int .u8 a_4), (.int .u8 a_5), (.int .u8 a_6), (.int .u8 a_7), (.int .u8 a_8), (.int .u8 a_9)])] w2467 fun e2469 w2470 =>
 ∃ n2471 : Int, ∃ n2472 : Int, ∃ n2473 : Int, ∃ n2474 : Int, ∃ n2475 : Int, ∃ n2476 : Int, ∃ n2477 : Int, ∃ n2478 : Int, ∃ n2479 : Int, ∃ n2480 : Int, (e2469 = .returned (.agg #[(.int .u8 n2471), (.int .u16 n2472), (.int .u32 n2473), (.int .u8 n2474), (.int .u8 n2475), (.int .u8 n2476), (.int .u8 n2477), (.int .u8 n2478), (.int .u8 n2479), (.int .u8 n2480)])) ∧
 (X.Kept L2468 w2467 w2470) ∧
 (X.FactsW x2 w2470 (L2468)) ∧
 X.CallX Try.prog 9 #[(.agg #[(.int .u8 b_0), (.int .u16 b_1), (.int .u32 b_2), (.int .u8 b_3), (.int .u8 b_4), (.int .u8 b_5), (.int .u8 b_6), (.int .u8 b_7), (.int .u8 b_8), (.int .u8 b_9)])] w2470 fun e2481 w2482 =>
 ∃ n2483 : Int, ∃ n2484 : Int, ∃ n2485 : Int, ∃ n2486 : Int, ∃ n2487 : Int, ∃ n2488 : Int, ∃ n2489 : Int, ∃ n2490 : Int, ∃ n2491 : Int, ∃ n2492 : Int, (e2481 = .returned (.agg #[(.int .u8 n2483), (.int .u16 n2484), (.int .u32 n2485), (.int .u8 n2486), (.int .u8 n2487), (.int .u8 n2488), (.int .u8 n2489), (.int .u8 n2490), (.int .u8 n2491), (.int .u8 n2492)])) ∧
 (X.Kept L2468 w2470 w2482) ∧
 (X.FactsW x2 w2482 (L2468)) ∧
 X.CallX Try.prog 9 #[(.agg #[(.int .u8 c_0), (.int .u16 c_1), (.int .u32 c_2), (.int .u8 c_3), (.int .u8 c_4), (.int .u8 c_5), (.int .u8 c_6), (.int .u8 c_7), (.int .u8 c_8), (.int .u8 c_9)])] w2482 fun e2493 w2494 =>
 ∃ n2495 : Int, ∃ n2496 : Int, ∃ n2497 : Int, ∃ n2498 : Int, ∃ n2499 : Int, ∃ n2500 : Int, ∃ n2501 : Int, ∃ n2502 : Int, ∃ n2503 : Int, ∃ n2504 : Int, (e2493 = .returned (.agg #[(.int .u8 n2495), (.int .u16 n2496), (.int .u32 n2497), (.int .u8 n2498), (.int .u8 n2499), (.int .u8 n2500), (.int .u8 n2501), (.int .u8 n2502), (.int .u8 n2503), (.int .u8 n2504)])) ∧
 (X.Kept L2468 w2482 w2494) ∧
 (X.FactsW x2 w2494 (L2468)) ∧
 ∀ w2505 : World, ∀ L2506 : List Nat, (X.Hid (L2468) w2494 w2505) →
 (X.NewL (w).heap.size (L2468) w2494 w2505 L2506) →
 (([(.int .u8 a_0), (.int .u16 a_1), (.int .u32 a_2), (.int .u8 a_3), (.int .u8 a_4), (.int .u8 a_5), (.int .u8 a_6), (.int .u8 a_7), (.int .u8 a_8), (.int .u8 a_9)] : List Value) = [(.int .u8 a_0), (.int .u16 a_1), (.int .u32 a_2), (.int .u8 a_3), (.int .u8 a_4), (.int .u8 a_5), (.int .u8 a_6), (.int .u8 a_7), (.int .u8 a_8), (.int .u8 a_9)]) ∧
 (([(.int .u8 b_0), (.int .u16 b_1), (.int .u32 b_2), (.int .u8 b_3), (.int .u8 b_4), (.int .u8 b_5), (.int .u8 b_6), (.int .u8 b_7), (.int .u8 b_8), (.int .u8 b_9)] : List Value) = [(.int .u8 b_0), (.int .u16 b_1), (.int .u32 b_2), (.int .u8 b_3), (.int .u8 b_4), (.int .u8 b_5), (.int .u8 b_6), (.int .u8 b_7), (.int .u8 b_8), (.int .u8 b_9)]) ∧
 (([(.int .u8 c_0), (.int .u16 c_1), (.int .u32 c_2), (.int .u8 c_3), (.int .u8 c_4), (.int .u8 c_5), (.int .u8 c_6), (.int .u8 c_7), (.int .u8 c_8), (.int .u8 c_9)] : List Value) = [(.int .u8 c_0), (.int .u16 c_1), (.int .u32 c_2), (.int .u8 c_3), (.int .u8 c_4), (.int .u8 c_5), (.int .u8 c_6), (.int .u8 c_7), (.int .u8 c_8), (.int .u8 c_9)]) ∧
 x1 n2471 n2472 n2473 n2474 n2475 n2476 n2477 n2478 n2479 n2480 n2483 n2484 n2485 n2486 n2487 n2488 n2489 n2490 n2491 n2492 n2495 n2496 n2497 n2498 n2499 n2500 n2501 n2502 n2503 n2504 w2505 (L2506)) ∧
 ∀ n2507 : Int, ∀ n2508 : Int, ∀ n2509 : Int, ∀ n2510 : Int, ∀ n2511 : Int, ∀ n2512 : Int, ∀ n2513 : Int, ∀ n2514 : Int, ∀ n2515 : Int, ∀ n2516 : Int, ∀ n2517 : Int, ∀ n2518 : Int, ∀ n2519 : Int, ∀ n2520 : Int, ∀ n2521 : Int, ∀ n2522 : Int, ∀ n2523 : Int, ∀ n2524 : Int, ∀ n2525 : Int, ∀ n2526 : Int, ∀ n2527 : Int, ∀ n2528 : Int, ∀ n2529 : Int, ∀ n2530 : Int, ∀ n2531 : Int, ∀ n2532 : Int, ∀ n2533 : Int, ∀ n2534 : Int, ∀ n2535 : Int, ∀ n2536 : Int, ∀ w2537 : World, ∀ L2538 : List Nat, (X.LF (w).heap.size w2537 L2538) →
 (x1 n2507 n2508 n2509 n2510 n2511 n2512 n2513 n2514 n2515 n2516 n2517 n2518 n2519 n2520 n2521 n2522 n2523 n2524 n2525 n2526 n2527 n2528 n2529 n2530 n2531 n2532 n2533 n2534 n2535 n2536 w2537 L2538) →
 X.CallX Try.prog 17 #[(.agg #[(.int .u8 n2507), (.int .u16 n2508), (.int .u32 n2509), (.int .u8 n2510), (.int .u8 n2511), (.int .u8 n2512), (.int .u8 n2513), (.int .u8 n2514), (.int .u8 n2515), (.int .u8 n2516)])] w2537 fun e2539 w2540 =>
 ∃ b2541 : Bool, (e2539 = .returned (.bool b2541)) ∧
 (X.Kept L2538 w2537 w2540) ∧
 if ((!b2541) == false) = true then
 X.CallX Try.prog 17 #[(.agg #[(.int .u8 n2517), (.int .u16 n2518), (.int .u32 n2519), (.int .u8 n2520), (.int .u8 n2521), (.int .u8 n2522), (.int .u8 n2523), (.int .u8 n2524), (.int .u8 n2525), (.int .u8 n2526)])] w2540 fun e2545 w2546 =>
 ∃ b2547 : Bool, (e2545 = .returned (.bool b2547)) ∧
 (X.Kept L2538 w2540 w2546) ∧
 if ((false || (!b2547)) == false) = true then
 X.CallX Try.prog 17 #[(.agg #[(.int .u8 n2527), (.int .u16 n2528), (.int .u32 n2529), (.int .u8 n2530), (.int .u8 n2531), (.int .u8 n2532), (.int .u8 n2533), (.int .u8 n2534), (.int .u8 n2535), (.int .u8 n2536)])] w2546 fun e2551 w2552 =>
 ∃ b2553 : Bool, (e2551 = .returned (.bool b2553)) ∧
 (X.Kept L2538 w2546 w2552) ∧
 if ((false || (!b2553)) == false) = true then
 X.CallX Try.prog 22 #[] w2552 fun e2557 w2558 =>
 ∃ b2559 : Bool, (e2557 = .returned (.bool b2559)) ∧
 (X.Kept L2538 w2552 w2558) ∧
 if (false || (!b2559)) = true then
 X.CallX Try.prog 22 #[] w2558 fun e2590 w2591 =>
 ∃ b2592 : Bool, (e2590 = .returned (.bool b2592)) ∧
 (X.Kept L2538 w2558 w2591) ∧
 R (.returned (.bool b2592)) w2591
 else
 X.CallX Try.prog 23 #[(.agg #[(.int .u8 n2507), (.int .u16 n2508), (.int .u32 n2509), (.int .u8 n2510), (.int .u8 n2511), (.int .u8 n2512), (.int .u8 n2513), (.int .u8 n2514), (.int .u8 n2515), (.int .u8 n2516)]), (.agg #[(.int .u8 n2517), (.int .u16 n2518), (.int .u32 n2519), (.int .u8 n2520), (.int .u8 n2521), (.int .u8 n2522), (.int .u8 n2523), (.int .u8 n2524), (.int .u8 n2525), (.int .u8 n2526)])] w2558 fun e2560 w2561 =>
 ∃ n2562 : Int, (e2560 = .returned (.int .i64 n2562)) ∧
 (X.Kept L2538 w2558 w2561) ∧
 X.CallX Try.prog 23 #[(.agg #[(.int .u8 n2517), (.int .u16 n2518), (.int .u32 n2519), (.int .u8 n2520), (.int .u8 n2521), (.int .u8 n2522), (.int .u8 n2523), (.int .u8 n2524), (.int .u8 n2525), (.int .u8 n2526)]), (.agg #[(.int .u8 n2527), (.int .u16 n2528), (.int .u32 n2529), (.int .u8 n2530), (.int .u8 n2531), (.int .u8 n2532), (.int .u8 n2533), (.int .u8 n2534), (.int .u8 n2535), (.int .u8 n2536)])] w2561 fun e2563 w2564 =>
 ∃ n2565 : Int, (e2563 = .returned (.int .i64 n2565)) ∧
 (X.Kept L2538 w2561 w2564) ∧
 if ((!((n2562 == 0) == (((n2507 == n2517) && (n2508 == n2518)) && ((n2509 == n2519) && ((n2510 == n2520) && (((n2511 == n2521) && (n2512 == n2522)) && (((n2513 == n2523) && (n2514 == n2524)) && ((n2515 == n2525) && (n2516 == n2526))))))))) == false) = true then
 X.CallX Try.prog 23 #[(.agg #[(.int .u8 n2517), (.int .u16 n2518), (.int .u32 n2519), (.int .u8 n2520), (.int .u8 n2521), (.int .u8 n2522), (.int .u8 n2523), (.int .u8 n2524), (.int .u8 n2525), (.int .u8 n2526)]), (.agg #[(.int .u8 n2507), (.int .u16 n2508), (.int .u32 n2509), (.int .u8 n2510), (.int .u8 n2511), (.int .u8 n2512), (.int .u8 n2513), (.int .u8 n2514), (.int .u8 n2515), (.int .u8 n2516)])] w2564 fun e2566 w2567 =>
 ∃ n2568 : Int, (e2566 = .returned (.int .i64 n2568)) ∧
 (X.Kept L2538 w2564 w2567) ∧
 if ((false || (n2568 != (IntKind.wrap .i64 (0 - n2562)))) == false) = true then
 if ((decide (n2562 ≤ 0) && decide (n2565 ≤ 0)) == true) = true then
 X.CallX Try.prog 23 #[(.agg #[(.int .u8 n2507), (.int .u16 n2508), (.int .u32 n2509), (.int .u8 n2510), (.int .u8 n2511), (.int .u8 n2512), (.int .u8 n2513), (.int .u8 n2514), (.int .u8 n2515), (.int .u8 n2516)]), (.agg #[(.int .u8 n2527), (.int .u16 n2528), (.int .u32 n2529), (.int .u8 n2530), (.int .u8 n2531), (.int .u8 n2532), (.int .u8 n2533), (.int .u8 n2534), (.int .u8 n2535), (.int .u8 n2536)])] w2567 fun e2578 w2579 =>
 ∃ n2580 : Int, (e2578 = .returned (.int .i64 n2580)) ∧
 (X.Kept L2538 w2567 w2579) ∧
 if (false || (true && decide (n2580 > 0))) = true then
 R (.returned (.bool false)) w2579
 else
 X.CallX Try.prog 27 #[(.agg #[(.int .u8 n2507), (.int .u16 n2508), (.int .u32 n2509), (.int .u8 n2510), (.int .u8 n2511), (.int .u8 n2512), (.int .u8 n2513), (.int .u8 n2514), (.int .u8 n2515), (.int .u8 n2516)]), (.agg #[(.int .u8 n2527), (.int .u16 n2528), (.int .u32 n2529), (.int .u8 n2530), (.int .u8 n2531), (.int .u8 n2532), (.int .u8 n2533), (.int .u8 n2534), (.int .u8 n2535), (.int .u8 n2536)])] w2579 fun e2581 w2582 =>
 ∃ b2583 : Bool, (e2581 = .returned (.bool b2583)) ∧
 (X.Kept L2538 w2579 w2582) ∧
 if ((!b2583) == false) = true then
 X.CallX Try.prog 27 #[(.agg #[(.int .u8 n2517), (.int .u16 n2518), (.int .u32 n2519), (.int .u8 n2520), (.int .u8 n2521), (.int .u8 n2522), (.int .u8 n2523), (.int .u8 n2524), (.int .u8 n2525), (.int .u8 n2526)]), (.agg #[(.int .u8 n2527), (.int .u16 n2528), (.int .u32 n2529), (.int .u8 n2530), (.int .u8 n2531), (.int .u8 n2532), (.int .u8 n2533), (.int .u8 n2534), (.int .u8 n2535), (.int .u8 n2536)])] w2582 fun e2584 w2585 =>
 ∃ b2586 : Bool, (e2584 = .returned (.bool b2586)) ∧
 (X.Kept L2538 w2582 w2585) ∧
 if ((false || b2586) == false) = true then
 X.CallX Try.prog 23 #[(.agg #[(.int .u8 n2527), (.int .u16 n2528), (.int .u32 n2529), (.int .u8 n2530), (.int .u8 n2531), (.int .u8 n2532), (.int .u8 n2533), (.int .u8 n2534), (.int .u8 n2535), (.int .u8 n2536)]), (.agg #[(.int .u8 n2517), (.int .u16 n2518), (.int .u32 n2519), (.int .u8 n2520), (.int .u8 n2521), (.int .u8 n2522), (.int .u8 n2523), (.int .u8 n2524), (.int .u8 n2525), (.int .u8 n2526)])] w2585 fun e2587 w2588 =>
 ∃ n2589 : Int, (e2587 = .returned (.int .i64 n2589)) ∧
 (X.Kept L2538 w2585 w2588) ∧
 R (.returned (.bool ((false || decide (n2589 > 0)) || decide (n2562 < 0)))) w2588
 else
 R (.returned (.bool (true || decide (n2562 < 0)))) w2585
 else
 R (.returned (.bool (true || decide (n2562 < 0)))) w2582
 else
 X.CallX Try.prog 27 #[(.agg #[(.int .u8 n2507), (.int .u16 n2508), (.int .u32 n2509), (.int .u8 n2510), (.int .u8 n2511), (.int .u8 n2512), (.int .u8 n2513), (.int .u8 n2514), (.int .u8 n2515), (.int .u8 n2516)]), (.agg #[(.int .u8 n2527), (.int .u16 n2528), (.int .u32 n2529), (.int .u8 n2530), (.int .u8 n2531), (.int .u8 n2532), (.int .u8 n2533), (.int .u8 n2534), (.int .u8 n2535), (.int .u8 n2536)])] w2567 fun e2569 w2570 =>
 ∃ b2571 : Bool, (e2569 = .returned (.bool b2571)) ∧
 (X.Kept L2538 w2567 w2570) ∧
 if ((!b2571) == false) = true then
 X.CallX Try.prog 27 #[(.agg #[(.int .u8 n2517), (.int .u16 n2518), (.int .u32 n2519), (.int .u8 n2520), (.int .u8 n2521), (.int .u8 n2522), (.int .u8 n2523), (.int .u8 n2524), (.int .u8 n2525), (.int .u8 n2526)]), (.agg #[(.int .u8 n2527), (.int .u16 n2528), (.int .u32 n2529), (.int .u8 n2530), (.int .u8 n2531), (.int .u8 n2532), (.int .u8 n2533), (.int .u8 n2534), (.int .u8 n2535), (.int .u8 n2536)])] w2570 fun e2572 w2573 =>
 ∃ b2574 : Bool, (e2572 = .returned (.bool b2574)) ∧
 (X.Kept L2538 w2570 w2573) ∧
 if ((false || b2574) == false) = true then
 X.CallX Try.prog 23 #[(.agg #[(.int .u8 n2527), (.int .u16 n2528), (.int .u32 n2529), (.int .u8 n2530), (.int .u8 n2531), (.int .u8 n2532), (.int .u8 n2533), (.int .u8 n2534), (.int .u8 n2535), (.int .u8 n2536)]), (.agg #[(.int .u8 n2517), (.int .u16 n2518), (.int .u32 n2519), (.int .u8 n2520), (.int .u8 n2521), (.int .u8 n2522), (.int .u8 n2523), (.int .u8 n2524), (.int .u8 n2525), (.int .u8 n2526)])] w2573 fun e2575 w2576 =>
 ∃ n2577 : Int, (e2575 = .returned (.int .i64 n2577)) ∧
 (X.Kept L2538 w2573 w2576) ∧
 R (.returned (.bool ((false || decide (n2577 > 0)) || decide (n2562 < 0)))) w2576
 else
 R (.returned (.bool (true || decide (n2562 < 0)))) w2573
 else
 R (.returned (.bool (true || decide (n2562 < 0)))) w2570
 else
 False
 else
 False
 else
 X.CallX Try.prog 22 #[] w2552 fun e2554 w2555 =>
 ∃ b2556 : Bool, (e2554 = .returned (.bool b2556)) ∧
 (X.Kept L2538 w2552 w2555) ∧
 R (.returned (.bool b2556)) w2555
 else
 X.CallX Try.prog 22 #[] w2546 fun e2548 w2549 =>
 ∃ b2550 : Bool, (e2548 = .returned (.bool b2550)) ∧
 (X.Kept L2538 w2546 w2549) ∧
 R (.returned (.bool b2550)) w2549
 else
 X.CallX Try.prog 22 #[] w2540 fun e2542 w2543 =>
 ∃ b2544 : Bool, (e2542 = .returned (.bool b2544)) ∧
 (X.Kept L2538 w2540 w2543) ∧
 R (.returned (.bool b2544)) w2543) :
 Calls Try.prog 5 #[.agg #[.int .u8 a_0, .int .u16 a_1, .int .u32 a_2, .int .u8 a_3, .int .u8 a_4, .int .u8 a_5, .int .u8 a_6, .int .u8 a_7, .int .u8 a_8, .int .u8 a_9], .agg #[.int .u8 b_0, .int .u16 b_1, .int .u32 b_2, .int .u8 b_3, .int .u8 b_4, .int .u8 b_5, .int .u8 b_6, .int .u8 b_7, .int .u8 b_8, .int .u8 b_9], .agg #[.int .u8 c_0, .int .u16 c_1, .int .u32 c_2, .int .u8 c_3, .int .u8 c_4, .int .u8 c_5, .int .u8 c_6, .int .u8 c_7, .int .u8 c_8, .int .u8 c_9]] w R :=
 X.calls_of { isLoc := [3, 4, 5, 7, 8, 9], sym := [], loops := [], joins := [], stored := [(1, [7, 8, 9])], rjoins := [(1, ([], [(7, [.int .u8, .int .u16, .int .u32, .int .u8, .int .u8, .int .u8, .int .u8, .int .u8, .int .u8, .int .u8]), (8, [.int .u8, .int .u16, .int .u32, .int .u8, .int .u8, .int .u8, .int .u8, .int .u8, .int .u8, .int .u8]), (9, [.int .u8, .int .u16, .int .u32, .int .u8, .int .u8, .int .u8, .int .u8, .int .u8, .int .u8, .int .u8])], [(7, 35), (8, 35), (9, 35)]))] } Try.func5 (by kernel_rfl) h
end Go.Proofs
