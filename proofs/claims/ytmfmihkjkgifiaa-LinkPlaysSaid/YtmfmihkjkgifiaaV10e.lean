import Derived.Test.YtmfmihkjkgifiaaXFn
import Derived.Test.YtmfmihkjkgifiaaProg
/- The verification conditions of this seat's functions, as the engine has them: printed by a program of the bench; checked by the kernel. -/
set_option maxRecDepth 100000
set_option linter.unusedVariables false
namespace Go.Proofs
open Go
abbrev fn_gemotlaw10_field_step : Nat := 26
theorem x_gemotlaw10_field_step (a : Addr) (b_0 b_1 b_2 : Int) (w : World) (R : Ending → World → Prop) (h :
  ∃ n1 : Int, (World.cell? w (a.add 7) = some (.int .i64 n1)) ∧
  ∀ w2 : World, ∀ L3 : List Nat, (X.Hid [] w w2) →
  (X.NewL (w).heap.size [] w w2 L3) →
  ((none : Option Nat) = none) ∧
  (World.there w2 (a.block) ((a.off) + 7) 1) ∧
  (¬ ((a.block) ∈ L3)) ∧
  ∃ q4 : Option Addr, ∃ k5 : Nat, ∃ k6 : Nat, (World.cell? (w2.setCells (a.block) ((a.off) + 7) [(.int .i64 (IntKind.wrap .i64 (n1 + 1)))]) (a.add 2) = some (.slice (q4) k5 k6)) ∧
  (¬ ((a.block) ∈ L3)) ∧
  if (decide (b_0 ≤ 1)) = true then
   ((0 : Int) ≤ ((IntKind.i64.wrap (b_1.tmod 2 + 2)).tmod 2)) ∧
   (((IntKind.i64.wrap (b_1.tmod 2 + 2)).tmod 2) < 2) ∧
   ∃ q62 : Option Addr, ∃ k63 : Nat, ∃ k64 : Nat, (World.cell? (w2.setCells (a.block) ((a.off) + 7) [(.int .i64 (IntKind.wrap .i64 (n1 + 1)))]) ((a.add 3).add ((((IntKind.i64.wrap (b_1.tmod 2 + 2)).tmod 2)).toNat * 1)) = some (.slice (q62) k63 k64)) ∧
   (¬ ((((a.add 3).add (((IntKind.i64.wrap (b_1.tmod 2 + 2)).tmod 2).toNat * 1)).block) ∈ L3)) ∧
   ((0 : Int) ≤ ((IntKind.i64.wrap (b_1.tmod 2 + 2)).tmod 2)) ∧
   (((IntKind.i64.wrap (b_1.tmod 2 + 2)).tmod 2) < 2) ∧
   ∃ q65 : Option Addr, (World.cell? ((w2.setCells (a.block) ((a.off) + 7) [(.int .i64 (IntKind.wrap .i64 (n1 + 1)))]).alloc (.cells #[(.int .u8 (IntKind.wrap .u8 ((IntKind.i64.wrap (b_1.tmod 2 + 2)).tmod 2))), (.int .u8 (IntKind.wrap .u8 ((k63 : Nat) : Int)))] 5)) ((a.add 0).add ((((IntKind.i64.wrap (b_1.tmod 2 + 2)).tmod 2)).toNat * 1)) = some (.pointer (q65))) ∧
   (¬ ((((a.add 0).add (((IntKind.i64.wrap (b_1.tmod 2 + 2)).tmod 2).toNat * 1)).block) ∈ L3)) ∧
   X.CallX Try.prog 13 #[(.pointer (q65)), (.slice (some ⟨((w2.setCells (a.block) ((a.off) + 7) [(.int .i64 (IntKind.wrap .i64 (n1 + 1)))])).heap.size, 0, none⟩) 2 2)] ((w2.setCells (a.block) ((a.off) + 7) [(.int .i64 (IntKind.wrap .i64 (n1 + 1)))]).alloc (.cells #[(.int .u8 (IntKind.wrap .u8 ((IntKind.i64.wrap (b_1.tmod 2 + 2)).tmod 2))), (.int .u8 (IntKind.wrap .u8 ((k63 : Nat) : Int)))] 5)) fun e66 w67 =>
    ∃ n68 : Int, (e66 = .returned (.int .i64 n68)) ∧
    (X.Kept L3 ((w2.setCells (a.block) ((a.off) + 7) [(.int .i64 (IntKind.wrap .i64 (n1 + 1)))]).alloc (.cells #[(.int .u8 (IntKind.wrap .u8 ((IntKind.i64.wrap (b_1.tmod 2 + 2)).tmod 2))), (.int .u8 (IntKind.wrap .u8 ((k63 : Nat) : Int)))] 5)) w67) ∧
    X.CallX Try.prog 12 #[(.int .i64 n68)] w67 fun e69 w70 =>
     ∃ n71 : Int, (e69 = .returned (.int .i64 n71)) ∧
     (X.Kept L3 w67 w70) ∧
     if (n71 == 0) = true then
      ∃ x72 : X.Facts, (X.FactsW x72 w70 (L3)) ∧
      ((0 : Int) ≤ ((IntKind.i64.wrap (b_1.tmod 2 + 2)).tmod 2)) ∧
      (((IntKind.i64.wrap (b_1.tmod 2 + 2)).tmod 2) < 2) ∧
      ∃ q73 : Option Addr, ∃ k74 : Nat, ∃ k75 : Nat, ((((a.add 3).add ((((IntKind.i64.wrap (b_1.tmod 2 + 2)).tmod 2)).toNat * 1)), [(.slice (q73) k74 k75)]) ∈ x72) ∧
      ∀ w76 : World, ∀ L77 : List Nat, (X.Hid (L3) w70 w76) →
      (X.NewL (w).heap.size (L3) w70 w76 L77) →
      ∃ s78 : ByteArray, ∃ w79 : World, (Sem.run Try.prog (Go.convert 35 9 (.slice (some ⟨((w2.setCells (a.block) ((a.off) + 7) [(.int .i64 (IntKind.wrap .i64 (n1 + 1)))])).heap.size, 0, none⟩) 2 2)) w76 = .ok (.string s78) w79) ∧
      (X.Kept L77 w76 w79) ∧
      (X.FactsW x72 w79 (L77)) ∧
      (X.FactsW x72 (w79.alloc (.cells #[(.string s78)] 9)) (L77)) ∧
      ∃ q80 : Option Addr, ∃ k81 : Nat, ∃ k82 : Nat, ∃ w83 : World, (Sem.run Try.prog (Go.Builtin.append_ #[66, 66] 66 #[(.slice (q73) k74 k75), (.slice (some ⟨(w79).heap.size, 0, none⟩) 1 1)]) (w79.alloc (.cells #[(.string s78)] 9)) = .ok (.slice (q80) k81 k82) w83) ∧
      (X.Kept L77 (w79.alloc (.cells #[(.string s78)] 9)) w83) ∧
      ((0 : Int) ≤ ((IntKind.i64.wrap (b_1.tmod 2 + 2)).tmod 2)) ∧
      (((IntKind.i64.wrap (b_1.tmod 2 + 2)).tmod 2) < 2) ∧
      ((((a.add 3).add (((IntKind.i64.wrap (b_1.tmod 2 + 2)).tmod 2).toNat * 1)).spot) = none) ∧
      (World.there w83 (((a.add 3).add (((IntKind.i64.wrap (b_1.tmod 2 + 2)).tmod 2).toNat * 1)).block) (((a.add 3).add (((IntKind.i64.wrap (b_1.tmod 2 + 2)).tmod 2).toNat * 1)).off) 1) ∧
      (¬ ((((a.add 3).add (((IntKind.i64.wrap (b_1.tmod 2 + 2)).tmod 2).toNat * 1)).block) ∈ L77)) ∧
      R (.returned (.tuple #[])) (w83.setCells (((a.add 3).add (((IntKind.i64.wrap (b_1.tmod 2 + 2)).tmod 2).toNat * 1)).block) (((a.add 3).add (((IntKind.i64.wrap (b_1.tmod 2 + 2)).tmod 2).toNat * 1)).off) [(.slice (q80) k81 k82)])
     else
      R (.returned (.tuple #[])) w70
  else
   if (b_0 == 2) = true then
    if (decide (((k5 : Nat) : Int) < 100)) = true then
     ∃ x45 : X.Facts, (X.FactsW x45 (w2.setCells (a.block) ((a.off) + 7) [(.int .i64 (IntKind.wrap .i64 (n1 + 1)))]) (L3)) ∧
     ∃ q46 : Option Addr, ∃ k47 : Nat, ∃ k48 : Nat, (((a.add 2), [(.slice (q46) k47 k48)]) ∈ x45) ∧
     ((0 : Int) ≤ ((IntKind.i64.wrap (b_1.tmod 2 + 2)).tmod 2)) ∧
     (((IntKind.i64.wrap (b_1.tmod 2 + 2)).tmod 2) < 2) ∧
     ∃ q49 : Option Addr, ((((a.add 0).add ((((IntKind.i64.wrap (b_1.tmod 2 + 2)).tmod 2)).toNat * 1)), [(.pointer (q49))]) ∈ x45) ∧
     ∃ n50 : Int, (((a.add 7), [(.int .i64 n50)]) ∈ x45) ∧
     ∀ w51 : World, ∀ L52 : List Nat, (X.Hid (L3) (w2.setCells (a.block) ((a.off) + 7) [(.int .i64 (IntKind.wrap .i64 (n1 + 1)))]) w51) →
     (X.NewL (w).heap.size (L3) (w2.setCells (a.block) ((a.off) + 7) [(.int .i64 (IntKind.wrap .i64 (n1 + 1)))]) w51 L52) →
     X.CallX Try.prog 16 #[(.pointer (q49)), (.int .i64 n50)] w51 fun e53 w54 =>
      ∃ q55 : Option Addr, ∃ k56 : Nat, ∃ k57 : Nat, (e53 = .returned (.slice (q55) k56 k57)) ∧
      (X.Kept L52 w51 w54) ∧
      (X.FactsW x45 w54 (L52)) ∧
      ∃ q58 : Option Addr, ∃ k59 : Nat, ∃ k60 : Nat, ∃ w61 : World, (Sem.run Try.prog (Go.Builtin.append_ #[45, 45] 45 #[(.slice (q46) k47 k48), (.slice (q55) k56 k57)]) w54 = .ok (.slice (q58) k59 k60) w61) ∧
      (X.Kept L52 w54 w61) ∧
      (X.FactsW x45 w61 (L52)) ∧
      ((none : Option Nat) = none) ∧
      (World.there w61 (a.block) ((a.off) + 2) 1) ∧
      (¬ ((a.block) ∈ L52)) ∧
      R (.returned (.tuple #[])) (w61.setCells (a.block) ((a.off) + 2) [(.slice (q58) k59 k60)])
    else
     R (.returned (.tuple #[])) (w2.setCells (a.block) ((a.off) + 7) [(.int .i64 (IntKind.wrap .i64 (n1 + 1)))])
   else
    if (decide (((k5 : Nat) : Int) > 0)) = true then
     (((k5 : Nat) : Int) ≠ 0) ∧
     (((k5 : Nat) : Int) ≠ 0) ∧
     ∃ q7 : Option Addr, ∃ k8 : Nat, ∃ k9 : Nat, (World.cell? (w2.setCells (a.block) ((a.off) + 7) [(.int .i64 (IntKind.wrap .i64 (n1 + 1)))]) (a.add 2) = some (.slice (q7) k8 k9)) ∧
     (¬ ((a.block) ∈ L3)) ∧
     ((0 : Int) ≤ ((IntKind.i64.wrap (b_2.tmod ↑k5 + ↑k5)).tmod ↑k5)) ∧
     (((IntKind.i64.wrap (b_2.tmod ↑k5 + ↑k5)).tmod ↑k5) < ((k8 : Nat) : Int)) ∧
     X.onSome (q7) fun p10 =>
     ∃ n11 : Int, ∃ n12 : Int, ∃ n13 : Int, ∃ n14 : Int, ∃ n15 : Int, ∃ n16 : Int, ∃ b17 : Bool, ∃ q18 : Option Addr, ∃ k19 : Nat, ∃ k20 : Nat, (X.Cells (w2.setCells (a.block) ((a.off) + 7) [(.int .i64 (IntKind.wrap .i64 (n1 + 1)))]) (p10.add ((((IntKind.i64.wrap (b_2.tmod ↑k5 + ↑k5)).tmod ↑k5)).toNat * 8)) [(.int .u8 n11), (.int .u16 n12), (.int .u8 n13), (.int .u16 n14), (.int .u64 n15), (.int .u64 n16), (.bool b17), (.slice (q18) k19 k20)]) ∧
     (¬ (((p10.add (((IntKind.i64.wrap (b_2.tmod ↑k5 + ↑k5)).tmod ↑k5).toNat * 8)).block) ∈ L3)) ∧
     if (b_0 != 5) = true then
      ∃ x26 : X.Facts, (X.FactsW x26 (w2.setCells (a.block) ((a.off) + 7) [(.int .i64 (IntKind.wrap .i64 (n1 + 1)))]) (L3)) ∧
      ∃ q27 : Option Addr, ∃ k28 : Nat, ∃ k29 : Nat, (((a.add 2), [(.slice (q27) k28 k29)]) ∈ x26) ∧
      ((0 : Int) ≤ ((IntKind.i64.wrap (b_2.tmod ↑k5 + ↑k5)).tmod ↑k5)) ∧
      (((IntKind.i64.wrap (b_2.tmod ↑k5 + ↑k5)).tmod ↑k5) ≤ ((k29 : Nat) : Int)) ∧
      ∃ q30 : Option Addr, ∃ k31 : Nat, ∃ k32 : Nat, (((a.add 2), [(.slice (q30) k31 k32)]) ∈ x26) ∧
      ((0 : Int) ≤ (IntKind.wrap .i64 (((IntKind.i64.wrap (b_2.tmod ↑k5 + ↑k5)).tmod ↑k5) + 1))) ∧
      ((IntKind.wrap .i64 (((IntKind.i64.wrap (b_2.tmod ↑k5 + ↑k5)).tmod ↑k5) + 1)) ≤ ((k31 : Nat) : Int)) ∧
      ∀ w33 : World, ∀ L34 : List Nat, (X.Hid (L3) (w2.setCells (a.block) ((a.off) + 7) [(.int .i64 (IntKind.wrap .i64 (n1 + 1)))]) w33) →
      (X.NewL (w).heap.size (L3) (w2.setCells (a.block) ((a.off) + 7) [(.int .i64 (IntKind.wrap .i64 (n1 + 1)))]) w33 L34) →
      (X.FactsW x26 (w33.alloc (.cells #[] 53)) (L34)) ∧
      ∃ q35 : Option Addr, ∃ k36 : Nat, ∃ k37 : Nat, ∃ w38 : World, (Sem.run Try.prog (Go.Builtin.append_ #[45, 45] 45 #[(.slice (some ⟨(w33).heap.size, 0, none⟩) 0 0), (.slice (X.cutA (q27) k29 0 8) (((IntKind.i64.wrap (b_2.tmod ↑k5 + ↑k5)).tmod ↑k5)).toNat k29)]) (w33.alloc (.cells #[] 53)) = .ok (.slice (q35) k36 k37) w38) ∧
      (X.Kept L34 (w33.alloc (.cells #[] 53)) w38) ∧
      (X.FactsW x26 w38 (L34)) ∧
      ∃ q39 : Option Addr, ∃ k40 : Nat, ∃ k41 : Nat, ∃ w42 : World, (Sem.run Try.prog (Go.Builtin.append_ #[45, 45] 45 #[(.slice (q35) k36 k37), (.slice (X.cutA (q30) k32 ((IntKind.wrap .i64 (((IntKind.i64.wrap (b_2.tmod ↑k5 + ↑k5)).tmod ↑k5) + 1))).toNat 8) (k31 - ((IntKind.wrap .i64 (((IntKind.i64.wrap (b_2.tmod ↑k5 + ↑k5)).tmod ↑k5) + 1))).toNat) (k32 - ((IntKind.wrap .i64 (((IntKind.i64.wrap (b_2.tmod ↑k5 + ↑k5)).tmod ↑k5) + 1))).toNat))]) w38 = .ok (.slice (q39) k40 k41) w42) ∧
      (X.Kept L34 w38 w42) ∧
      (X.FactsW x26 w42 (L34)) ∧
      ((none : Option Nat) = none) ∧
      (World.there w42 (a.block) ((a.off) + 2) 1) ∧
      (¬ ((a.block) ∈ L34)) ∧
      if (b_0 != 6) = true then
       X.CallX Try.prog 28 #[(.pointer (some a)), (.agg #[(.int .u8 n11), (.int .u16 n12), (.int .u8 n13), (.int .u16 n14), (.int .u64 n15), (.int .u64 n16), (.bool b17), (.slice (q18) k19 k20)])] (w42.setCells (a.block) ((a.off) + 2) [(.slice (q39) k40 k41)]) fun e43 w44 =>
        (e43 = .returned (.tuple #[])) ∧
        (X.Kept L34 (w42.setCells (a.block) ((a.off) + 2) [(.slice (q39) k40 k41)]) w44) ∧
        R (.returned (.tuple #[])) w44
      else
       R (.returned (.tuple #[])) (w42.setCells (a.block) ((a.off) + 2) [(.slice (q39) k40 k41)])
     else
      if (b_0 != 6) = true then
       ∀ w22 : World, ∀ L23 : List Nat, (X.Hid (L3) (w2.setCells (a.block) ((a.off) + 7) [(.int .i64 (IntKind.wrap .i64 (n1 + 1)))]) w22) →
       (X.NewL (w).heap.size (L3) (w2.setCells (a.block) ((a.off) + 7) [(.int .i64 (IntKind.wrap .i64 (n1 + 1)))]) w22 L23) →
       X.CallX Try.prog 28 #[(.pointer (some a)), (.agg #[(.int .u8 n11), (.int .u16 n12), (.int .u8 n13), (.int .u16 n14), (.int .u64 n15), (.int .u64 n16), (.bool b17), (.slice (q18) k19 k20)])] w22 fun e24 w25 =>
        (e24 = .returned (.tuple #[])) ∧
        (X.Kept L23 w22 w25) ∧
        R (.returned (.tuple #[])) w25
      else
       ∀ w21 : World, (X.Hid (L3) (w2.setCells (a.block) ((a.off) + 7) [(.int .i64 (IntKind.wrap .i64 (n1 + 1)))]) w21) →
       R (.returned (.tuple #[])) w21
    else
     R (.returned (.tuple #[])) (w2.setCells (a.block) ((a.off) + 7) [(.int .i64 (IntKind.wrap .i64 (n1 + 1)))])) :
    Calls Try.prog 26 #[.pointer (some a), .agg #[.int .i64 b_0, .int .i64 b_1, .int .i64 b_2]] w R :=
  X.calls_of { isLoc := [3, 8], sym := [36, 45, 57, 65, 81, 97, 101], loops := [], joins := [] } Try.func26 (by kernel_rfl) h
abbrev fn_gemotlaw10_beginning : Nat := 27
theorem x_gemotlaw10_beginning (a : Option Addr) (al ac : Nat) (b : Option Addr) (bl bc : Nat) (w : World) (R : Ending → World → Prop) (h :
  ∃ x1 : Int → World → List Nat → Prop, ∃ x2 : Int → World → Nat, (x1 0 w []) ∧
  ∀ n3 : Int, ∀ w4 : World, ∀ L5 : List Nat, (X.LF (w).heap.size w4 L5) →
  (x1 n3 w4 L5) →
  if (decide (n3 < ((al : Nat) : Int)) && decide (n3 < ((bl : Nat) : Int))) = true then
   ((0 : Int) ≤ n3) ∧
   (n3 < ((al : Nat) : Int)) ∧
   X.onSome (a) fun p6 =>
   ∃ s7 : ByteArray, (World.cell? w4 (p6.add ((n3).toNat * 1)) = some (.string s7)) ∧
   ((0 : Int) ≤ n3) ∧
   (n3 < ((bl : Nat) : Int)) ∧
   X.onSome (b) fun p8 =>
   ∃ s9 : ByteArray, (World.cell? w4 (p8.add ((n3).toNat * 1)) = some (.string s9)) ∧
   if (!((s7.toList) == (s9.toList))) = true then
    ∀ w11 : World, (X.Hid [] w4 w11) →
    R (.returned (.bool false)) w11
   else
    ∀ w10 : World, (X.Hid [] w4 w10) →
    (x1 (IntKind.wrap .i64 (n3 + 1)) w10 []) ∧
    Nat.le ((x2 (IntKind.wrap .i64 (n3 + 1)) w10) + 1) (x2 n3 w4)
  else
   R (.returned (.bool (decide (((al : Nat) : Int) ≤ ((bl : Nat) : Int))))) w4) :
    Calls Try.prog 27 #[.slice a al ac, .slice b bl bc] w R :=
  X.calls_of { isLoc := [], sym := [], loops := [(2, .inv [(5, .int .i64)] [] true)], joins := [] } Try.func27 (by kernel_rfl) h
abbrev fn_gemotlaw10_field_hear : Nat := 28
theorem x_gemotlaw10_field_hear (a : Addr) (b_0 b_1 b_2 b_3 b_4 b_5 : Int) (b_6 : Bool) (b_7 : Option Addr) (b_7l b_7c : Nat) (w : World) (R : Ending → World → Prop) (h :
  if (b_2 == 2) = true then
   ∃ x31 : X.Facts, (X.FactsW x31 w []) ∧
   ((0 : Int) ≤ 1) ∧
   ((1 : Int) < 2) ∧
   ∃ q32 : Option Addr, ((((a.add 0).add 1), [(.pointer (q32))]) ∈ x31) ∧
   ∀ w33 : World, ∀ L34 : List Nat, (X.Hid [] w w33) →
   (X.NewL (w).heap.size [] w w33 L34) →
   X.CallX Try.prog 19 #[(.pointer (q32)), (.agg #[(.int .u8 b_0), (.int .u16 b_1), (.int .u8 b_2), (.int .u16 b_3), (.int .u64 b_4), (.int .u64 b_5), (.bool b_6), (.slice (b_7) b_7l b_7c)])] w33 fun e35 w36 =>
    ∃ q37 : Option Addr, ∃ k38 : Nat, ∃ k39 : Nat, (e35 = .returned (.slice (q37) k38 k39)) ∧
    (X.Kept L34 w33 w36) ∧
    ∃ x40 : Int → World → List Nat → Prop, ∃ x41 : Int → World → Nat, (x40 0 w36 (L34)) ∧
    ∀ n42 : Int, ∀ w43 : World, ∀ L44 : List Nat, (X.LF (w).heap.size w43 L44) →
    (x40 n42 w43 L44) →
    if (decide (n42 < ((k38 : Nat) : Int))) = true then
     ∃ x45 : X.Facts, (X.FactsW x45 w43 (L44)) ∧
     ((0 : Int) ≤ 1) ∧
     ((1 : Int) < 2) ∧
     ∃ q46 : Option Addr, ∃ k47 : Nat, ∃ k48 : Nat, ((⟨(a.block), (((a.off) + 5) + 1), none⟩, [(.slice (q46) k47 k48)]) ∈ x45) ∧
     ((0 : Int) ≤ n42) ∧
     (n42 < ((k38 : Nat) : Int)) ∧
     X.onSome (q37) fun p49 =>
     ∃ q50 : Option Addr, ∃ k51 : Nat, ∃ k52 : Nat, (((p49.add ((n42).toNat * 1)), [(.slice (q50) k51 k52)]) ∈ x45) ∧
     ∀ w53 : World, ∀ L54 : List Nat, (X.Hid (L44) w43 w53) →
     (X.NewL (w).heap.size (L44) w43 w53 L54) →
     ∃ s55 : ByteArray, ∃ w56 : World, (Sem.run Try.prog (Go.convert 35 9 (.slice (q50) k51 k52)) w53 = .ok (.string s55) w56) ∧
     (X.Kept L54 w53 w56) ∧
     (X.FactsW x45 w56 (L54)) ∧
     (X.FactsW x45 (w56.alloc (.cells #[(.string s55)] 9)) (L54)) ∧
     ∃ q57 : Option Addr, ∃ k58 : Nat, ∃ k59 : Nat, ∃ w60 : World, (Sem.run Try.prog (Go.Builtin.append_ #[66, 66] 66 #[(.slice (q46) k47 k48), (.slice (some ⟨(w56).heap.size, 0, none⟩) 1 1)]) (w56.alloc (.cells #[(.string s55)] 9)) = .ok (.slice (q57) k58 k59) w60) ∧
     (X.Kept L54 (w56.alloc (.cells #[(.string s55)] 9)) w60) ∧
     (X.FactsW x45 w60 (L54)) ∧
     ((0 : Int) ≤ 1) ∧
     ((1 : Int) < 2) ∧
     ((none : Option Nat) = none) ∧
     (World.there w60 (a.block) (((a.off) + 5) + 1) 1) ∧
     (¬ ((a.block) ∈ L54)) ∧
     (([(.int .u8 b_0), (.int .u16 b_1), (.int .u8 b_2), (.int .u16 b_3), (.int .u64 b_4), (.int .u64 b_5), (.bool b_6), (.slice (b_7) b_7l b_7c)] : List Value) = [(.int .u8 b_0), (.int .u16 b_1), (.int .u8 b_2), (.int .u16 b_3), (.int .u64 b_4), (.int .u64 b_5), (.bool b_6), (.slice (b_7) b_7l b_7c)]) ∧
     (x40 (IntKind.wrap .i64 (n42 + 1)) (w60.setCells (a.block) (((a.off) + 5) + 1) [(.slice (q57) k58 k59)]) (L54)) ∧
     Nat.le ((x41 (IntKind.wrap .i64 (n42 + 1)) (w60.setCells (a.block) (((a.off) + 5) + 1) [(.slice (q57) k58 k59)])) + 1) (x41 n42 w43)
    else
     R (.returned (.tuple #[])) w43
  else
   ∃ x1 : X.Facts, (X.FactsW x1 w []) ∧
   ((0 : Int) ≤ 0) ∧
   ((0 : Int) < 2) ∧
   ∃ q2 : Option Addr, ((((a.add 0).add 0), [(.pointer (q2))]) ∈ x1) ∧
   ∀ w3 : World, ∀ L4 : List Nat, (X.Hid [] w w3) →
   (X.NewL (w).heap.size [] w w3 L4) →
   X.CallX Try.prog 19 #[(.pointer (q2)), (.agg #[(.int .u8 b_0), (.int .u16 b_1), (.int .u8 b_2), (.int .u16 b_3), (.int .u64 b_4), (.int .u64 b_5), (.bool b_6), (.slice (b_7) b_7l b_7c)])] w3 fun e5 w6 =>
    ∃ q7 : Option Addr, ∃ k8 : Nat, ∃ k9 : Nat, (e5 = .returned (.slice (q7) k8 k9)) ∧
    (X.Kept L4 w3 w6) ∧
    ∃ x10 : Int → World → List Nat → Prop, ∃ x11 : Int → World → Nat, (x10 0 w6 (L4)) ∧
    ∀ n12 : Int, ∀ w13 : World, ∀ L14 : List Nat, (X.LF (w).heap.size w13 L14) →
    (x10 n12 w13 L14) →
    if (decide (n12 < ((k8 : Nat) : Int))) = true then
     ∃ x15 : X.Facts, (X.FactsW x15 w13 (L14)) ∧
     ((0 : Int) ≤ 0) ∧
     ((0 : Int) < 2) ∧
     ∃ q16 : Option Addr, ∃ k17 : Nat, ∃ k18 : Nat, ((⟨(a.block), ((a.off) + 5), none⟩, [(.slice (q16) k17 k18)]) ∈ x15) ∧
     ((0 : Int) ≤ n12) ∧
     (n12 < ((k8 : Nat) : Int)) ∧
     X.onSome (q7) fun p19 =>
     ∃ q20 : Option Addr, ∃ k21 : Nat, ∃ k22 : Nat, (((p19.add ((n12).toNat * 1)), [(.slice (q20) k21 k22)]) ∈ x15) ∧
     ∀ w23 : World, ∀ L24 : List Nat, (X.Hid (L14) w13 w23) →
     (X.NewL (w).heap.size (L14) w13 w23 L24) →
     ∃ s25 : ByteArray, ∃ w26 : World, (Sem.run Try.prog (Go.convert 35 9 (.slice (q20) k21 k22)) w23 = .ok (.string s25) w26) ∧
     (X.Kept L24 w23 w26) ∧
     (X.FactsW x15 w26 (L24)) ∧
     (X.FactsW x15 (w26.alloc (.cells #[(.string s25)] 9)) (L24)) ∧
     ∃ q27 : Option Addr, ∃ k28 : Nat, ∃ k29 : Nat, ∃ w30 : World, (Sem.run Try.prog (Go.Builtin.append_ #[66, 66] 66 #[(.slice (q16) k17 k18), (.slice (some ⟨(w26).heap.size, 0, none⟩) 1 1)]) (w26.alloc (.cells #[(.string s25)] 9)) = .ok (.slice (q27) k28 k29) w30) ∧
     (X.Kept L24 (w26.alloc (.cells #[(.string s25)] 9)) w30) ∧
     (X.FactsW x15 w30 (L24)) ∧
     ((0 : Int) ≤ 0) ∧
     ((0 : Int) < 2) ∧
     ((none : Option Nat) = none) ∧
     (World.there w30 (a.block) ((a.off) + 5) 1) ∧
     (¬ ((a.block) ∈ L24)) ∧
     (([(.int .u8 b_0), (.int .u16 b_1), (.int .u8 b_2), (.int .u16 b_3), (.int .u64 b_4), (.int .u64 b_5), (.bool b_6), (.slice (b_7) b_7l b_7c)] : List Value) = [(.int .u8 b_0), (.int .u16 b_1), (.int .u8 b_2), (.int .u16 b_3), (.int .u64 b_4), (.int .u64 b_5), (.bool b_6), (.slice (b_7) b_7l b_7c)]) ∧
     (x10 (IntKind.wrap .i64 (n12 + 1)) (w30.setCells (a.block) ((a.off) + 5) [(.slice (q27) k28 k29)]) (L24)) ∧
     Nat.le ((x11 (IntKind.wrap .i64 (n12 + 1)) (w30.setCells (a.block) ((a.off) + 5) [(.slice (q27) k28 k29)])) + 1) (x11 n12 w13)
    else
     R (.returned (.tuple #[])) w13) :
    Calls Try.prog 28 #[.pointer (some a), .agg #[.int .u8 b_0, .int .u16 b_1, .int .u8 b_2, .int .u16 b_3, .int .u64 b_4, .int .u64 b_5, .bool b_6, .slice b_7 b_7l b_7c]] w R :=
  X.calls_of { isLoc := [3], sym := [15, 31, 42], loops := [(6, .inv [(6, .int .i64)] [] true)], joins := [] } Try.func28 (by kernel_rfl) h
end Go.Proofs
