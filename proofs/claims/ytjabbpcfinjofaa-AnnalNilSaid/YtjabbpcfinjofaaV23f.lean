import Derived.Test.YtjabbpcfinjofaaXFn
import Derived.Test.YtjabbpcfinjofaaProg
/- The verification conditions of this seat's functions, as the engine has them: printed by a program of the bench; checked by the kernel. -/
set_option maxRecDepth 100000
set_option linter.unusedVariables false
namespace Go.Proofs
open Go
abbrev fn_AnnalNil : Nat := 5
theorem x_AnnalNil (a_0 a_1 a_2 a_3 a_4 a_5 a_6 a_7 a_8 a_9 a_10 a_11 a_12 a_13 a_14 a_15 : Int) (a_16 : Option Addr) (a_16l a_16c : Nat) (a_17 a_18 a_19 a_20 a_21 a_22 a_23 a_24 a_25 a_26 a_27 a_28 a_29 a_30 a_31 a_32 : Int) (a_33 : ByteArray) (a_34 a_35 a_36 a_37 a_38 a_39 a_40 a_41 a_42 a_43 a_44 a_45 a_46 : Int) (a_47 : ByteArray) (a_48 a_49 : Int) (a_50 : Option Addr) (a_50l a_50c : Nat) (a_51 a_52 a_53 a_54 : Int) (a_55 : Option Addr) (a_55l a_55c : Nat) (a_56 a_57 a_58 a_59 a_60 a_61 a_62 a_63 a_64 a_65 a_66 a_67 : Int) (a_68 : Option Addr) (a_68l a_68c : Nat) (a_69 : Int) (a_70 : ByteArray) (a_71 : Option Addr) (a_71l a_71c : Nat) (a_72 a_73 : Int) (w : World) (R : Ending → World → Prop) (h :
  ∀ w1 : World, ∀ L2 : List Nat, (X.Hid [] w w1) →
  (X.NewL (w).heap.size [] w w1 L2) →
  X.CallX Try.prog 6 #[(.slice (some ⟨(w1).heap.size, 0, none⟩) 1 1)] (w1.alloc (.cells #[(.int .i64 a_0), (.int .i64 a_1), (.int .u8 a_2), (.int .u8 a_3), (.int .u16 a_4), (.int .u32 a_5), (.int .u8 a_6), (.int .u8 a_7), (.int .u8 a_8), (.int .u8 a_9), (.int .u8 a_10), (.int .u8 a_11), (.int .u8 a_12), (.int .u8 a_13), (.int .i64 a_14), (.int .i64 a_15), (.slice (a_16) a_16l a_16c), (.int .u8 a_17), (.int .u16 a_18), (.int .u32 a_19), (.int .u8 a_20), (.int .u8 a_21), (.int .u8 a_22), (.int .u8 a_23), (.int .u8 a_24), (.int .u8 a_25), (.int .u8 a_26), (.int .u8 a_27), (.int .i64 a_28), (.int .i64 a_29), (.int .i64 a_30), (.int .i64 a_31), (.int .u8 a_32), (.string a_33), (.int .u8 a_34), (.int .u16 a_35), (.int .u8 a_36), (.int .u16 a_37), (.int .u32 a_38), (.int .u8 a_39), (.int .u8 a_40), (.int .u8 a_41), (.int .u8 a_42), (.int .u8 a_43), (.int .u8 a_44), (.int .u8 a_45), (.int .u8 a_46), (.string a_47), (.int .u8 a_48), (.int .u32 a_49), (.slice (a_50) a_50l a_50c), (.int .u8 a_51), (.int .u16 a_52), (.int .u8 a_53), (.int .u32 a_54), (.slice (a_55) a_55l a_55c), (.int .u8 a_56), (.int .u8 a_57), (.int .u16 a_58), (.int .u32 a_59), (.int .u8 a_60), (.int .u8 a_61), (.int .u8 a_62), (.int .u8 a_63), (.int .u8 a_64), (.int .u8 a_65), (.int .u8 a_66), (.int .u32 a_67), (.slice (a_68) a_68l a_68c), (.int .u8 a_69), (.string a_70), (.slice (a_71) a_71l a_71c), (.int .u8 a_72), (.int .u16 a_73)] 54)) fun e3 w4 =>
   ∃ b5 : Bool, (e3 = .returned (.bool b5)) ∧
   (X.Kept L2 (w1.alloc (.cells #[(.int .i64 a_0), (.int .i64 a_1), (.int .u8 a_2), (.int .u8 a_3), (.int .u16 a_4), (.int .u32 a_5), (.int .u8 a_6), (.int .u8 a_7), (.int .u8 a_8), (.int .u8 a_9), (.int .u8 a_10), (.int .u8 a_11), (.int .u8 a_12), (.int .u8 a_13), (.int .i64 a_14), (.int .i64 a_15), (.slice (a_16) a_16l a_16c), (.int .u8 a_17), (.int .u16 a_18), (.int .u32 a_19), (.int .u8 a_20), (.int .u8 a_21), (.int .u8 a_22), (.int .u8 a_23), (.int .u8 a_24), (.int .u8 a_25), (.int .u8 a_26), (.int .u8 a_27), (.int .i64 a_28), (.int .i64 a_29), (.int .i64 a_30), (.int .i64 a_31), (.int .u8 a_32), (.string a_33), (.int .u8 a_34), (.int .u16 a_35), (.int .u8 a_36), (.int .u16 a_37), (.int .u32 a_38), (.int .u8 a_39), (.int .u8 a_40), (.int .u8 a_41), (.int .u8 a_42), (.int .u8 a_43), (.int .u8 a_44), (.int .u8 a_45), (.int .u8 a_46), (.string a_47), (.int .u8 a_48), (.int .u32 a_49), (.slice (a_50) a_50l a_50c), (.int .u8 a_51), (.int .u16 a_52), (.int .u8 a_53), (.int .u32 a_54), (.slice (a_55) a_55l a_55c), (.int .u8 a_56), (.int .u8 a_57), (.int .u16 a_58), (.int .u32 a_59), (.int .u8 a_60), (.int .u8 a_61), (.int .u8 a_62), (.int .u8 a_63), (.int .u8 a_64), (.int .u8 a_65), (.int .u8 a_66), (.int .u32 a_67), (.slice (a_68) a_68l a_68c), (.int .u8 a_69), (.string a_70), (.slice (a_71) a_71l a_71c), (.int .u8 a_72), (.int .u16 a_73)] 54)) w4) ∧
   if (!b5) = true then
    X.CallX Try.prog 7 #[] w4 fun e54 w55 =>
     ∃ b56 : Bool, (e54 = .returned (.bool b56)) ∧
     (X.Kept L2 w4 w55) ∧
     R (.returned (.bool b56)) w55
   else
    ∃ x6 : Option Addr → Int → World → List Nat → Prop, ∃ x7 : Option Addr → Int → World → Nat, (x6 (none) 0 w4 (L2)) ∧
    ∀ q8 : Option Addr, ∀ n9 : Int, ∀ w10 : World, ∀ L11 : List Nat, (X.LF (w).heap.size w10 L11) →
    (x6 q8 n9 w10 L11) →
    if (decide (n9 < 2)) = true then
     ∃ x18 : X.Facts, (X.FactsW x18 w10 (L11)) ∧
     ∀ w19 : World, ∀ L20 : List Nat, (X.Hid (L11) w10 w19) →
     (X.NewL (w).heap.size (L11) w10 w19 L20) →
     X.CallX Try.prog 10 #[(.pointer (q8)), (.agg #[(.int .i64 a_0), (.int .i64 a_1), (.int .u8 a_2), (.int .u8 a_3), (.int .u16 a_4), (.int .u32 a_5), (.int .u8 a_6), (.int .u8 a_7), (.int .u8 a_8), (.int .u8 a_9), (.int .u8 a_10), (.int .u8 a_11), (.int .u8 a_12), (.int .u8 a_13), (.int .i64 a_14), (.int .i64 a_15), (.slice (a_16) a_16l a_16c), (.int .u8 a_17), (.int .u16 a_18), (.int .u32 a_19), (.int .u8 a_20), (.int .u8 a_21), (.int .u8 a_22), (.int .u8 a_23), (.int .u8 a_24), (.int .u8 a_25), (.int .u8 a_26), (.int .u8 a_27), (.int .i64 a_28), (.int .i64 a_29), (.int .i64 a_30), (.int .i64 a_31), (.int .u8 a_32), (.string a_33), (.int .u8 a_34), (.int .u16 a_35), (.int .u8 a_36), (.int .u16 a_37), (.int .u32 a_38), (.int .u8 a_39), (.int .u8 a_40), (.int .u8 a_41), (.int .u8 a_42), (.int .u8 a_43), (.int .u8 a_44), (.int .u8 a_45), (.int .u8 a_46), (.string a_47), (.int .u8 a_48), (.int .u32 a_49), (.slice (a_50) a_50l a_50c), (.int .u8 a_51), (.int .u16 a_52), (.int .u8 a_53), (.int .u32 a_54), (.slice (a_55) a_55l a_55c), (.int .u8 a_56), (.int .u8 a_57), (.int .u16 a_58), (.int .u32 a_59), (.int .u8 a_60), (.int .u8 a_61), (.int .u8 a_62), (.int .u8 a_63), (.int .u8 a_64), (.int .u8 a_65), (.int .u8 a_66), (.int .u32 a_67), (.slice (a_68) a_68l a_68c), (.int .u8 a_69), (.string a_70), (.slice (a_71) a_71l a_71c), (.int .u8 a_72), (.int .u16 a_73)])] w19 fun e21 w22 =>
      ∃ b23 : Bool, (e21 = .returned (.bool b23)) ∧
      (X.Kept L20 w19 w22) ∧
      (X.FactsW x18 w22 (L20)) ∧
      ∃ x24 : X.Facts, (X.FactsW x24 w22 (L20)) ∧
      (∀ x25 : Addr × List Value, (x25 ∈ x18) →
       x25 ∈ x24) ∧
      if (b23 == false) = true then
       X.CallX Try.prog 15 #[(.pointer (q8))] w22 fun e26 w27 =>
        ∃ q28 : Option Addr, ∃ k29 : Nat, ∃ k30 : Nat, (e26 = .returned (.slice (q28) k29 k30)) ∧
        (X.Kept L20 w22 w27) ∧
        (X.FactsW x24 w27 (L20)) ∧
        X.CallX Try.prog 16 #[(.pointer (q8))] w27 fun e31 w32 =>
         ∃ q33 : Option Addr, ∃ k34 : Nat, ∃ k35 : Nat, (e31 = .returned (.slice (q33) k34 k35)) ∧
         (X.Kept L20 w27 w32) ∧
         (X.FactsW x24 w32 (L20)) ∧
         X.CallX Try.prog 9 #[(.pointer (q8)), (.int .u8 a_2)] w32 fun e36 w37 =>
          ∃ q38 : Option Addr, ∃ k39 : Nat, ∃ k40 : Nat, (e36 = .returned (.slice (q38) k39 k40)) ∧
          (X.Kept L20 w32 w37) ∧
          (X.FactsW x24 w37 (L20)) ∧
          X.CallX Try.prog 17 #[(.pointer (q8))] w37 fun e41 w42 =>
           ∃ q43 : Option Addr, ∃ k44 : Nat, ∃ k45 : Nat, (e41 = .returned (.slice (q43) k44 k45)) ∧
           (X.Kept L20 w37 w42) ∧
           (X.FactsW x24 w42 (L20)) ∧
           X.CallX Try.prog 18 #[(.pointer (q8))] w42 fun e46 w47 =>
            ∃ q48 : Option Addr, ∃ k49 : Nat, ∃ k50 : Nat, (e46 = .returned (.slice (q48) k49 k50)) ∧
            (X.Kept L20 w42 w47) ∧
            (X.FactsW x24 w47 (L20)) ∧
            X.CallX Try.prog 12 #[(.pointer (q8))] w47 fun e51 w52 =>
             ∃ n53 : Int, (e51 = .returned (.int .i64 n53)) ∧
             (X.Kept L20 w47 w52) ∧
             (X.FactsW x24 w52 (L20)) ∧
             if (false || ((IntKind.wrap .i64 ((IntKind.wrap .i64 ((IntKind.wrap .i64 ((IntKind.wrap .i64 ((IntKind.wrap .i64 (((k29 : Nat) : Int) + ((k34 : Nat) : Int))) + ((k39 : Nat) : Int))) + ((k44 : Nat) : Int))) + ((k49 : Nat) : Int))) + n53)) != 0)) = true then
              R (.returned (.bool false)) w52
             else
              (([(.int .i64 a_0), (.int .i64 a_1), (.int .u8 a_2), (.int .u8 a_3), (.int .u16 a_4), (.int .u32 a_5), (.int .u8 a_6), (.int .u8 a_7), (.int .u8 a_8), (.int .u8 a_9), (.int .u8 a_10), (.int .u8 a_11), (.int .u8 a_12), (.int .u8 a_13), (.int .i64 a_14), (.int .i64 a_15), (.slice (a_16) a_16l a_16c), (.int .u8 a_17), (.int .u16 a_18), (.int .u32 a_19), (.int .u8 a_20), (.int .u8 a_21), (.int .u8 a_22), (.int .u8 a_23), (.int .u8 a_24), (.int .u8 a_25), (.int .u8 a_26), (.int .u8 a_27), (.int .i64 a_28), (.int .i64 a_29), (.int .i64 a_30), (.int .i64 a_31), (.int .u8 a_32), (.string a_33), (.int .u8 a_34), (.int .u16 a_35), (.int .u8 a_36), (.int .u16 a_37), (.int .u32 a_38), (.int .u8 a_39), (.int .u8 a_40), (.int .u8 a_41), (.int .u8 a_42), (.int .u8 a_43), (.int .u8 a_44), (.int .u8 a_45), (.int .u8 a_46), (.string a_47), (.int .u8 a_48), (.int .u32 a_49), (.slice (a_50) a_50l a_50c), (.int .u8 a_51), (.int .u16 a_52), (.int .u8 a_53), (.int .u32 a_54), (.slice (a_55) a_55l a_55c), (.int .u8 a_56), (.int .u8 a_57), (.int .u16 a_58), (.int .u32 a_59), (.int .u8 a_60), (.int .u8 a_61), (.int .u8 a_62), (.int .u8 a_63), (.int .u8 a_64), (.int .u8 a_65), (.int .u8 a_66), (.int .u32 a_67), (.slice (a_68) a_68l a_68c), (.int .u8 a_69), (.string a_70), (.slice (a_71) a_71l a_71c), (.int .u8 a_72), (.int .u16 a_73)] : List Value) = [(.int .i64 a_0), (.int .i64 a_1), (.int .u8 a_2), (.int .u8 a_3), (.int .u16 a_4), (.int .u32 a_5), (.int .u8 a_6), (.int .u8 a_7), (.int .u8 a_8), (.int .u8 a_9), (.int .u8 a_10), (.int .u8 a_11), (.int .u8 a_12), (.int .u8 a_13), (.int .i64 a_14), (.int .i64 a_15), (.slice (a_16) a_16l a_16c), (.int .u8 a_17), (.int .u16 a_18), (.int .u32 a_19), (.int .u8 a_20), (.int .u8 a_21), (.int .u8 a_22), (.int .u8 a_23), (.int .u8 a_24), (.int .u8 a_25), (.int .u8 a_26), (.int .u8 a_27), (.int .i64 a_28), (.int .i64 a_29), (.int .i64 a_30), (.int .i64 a_31), (.int .u8 a_32), (.string a_33), (.int .u8 a_34), (.int .u16 a_35), (.int .u8 a_36), (.int .u16 a_37), (.int .u32 a_38), (.int .u8 a_39), (.int .u8 a_40), (.int .u8 a_41), (.int .u8 a_42), (.int .u8 a_43), (.int .u8 a_44), (.int .u8 a_45), (.int .u8 a_46), (.string a_47), (.int .u8 a_48), (.int .u32 a_49), (.slice (a_50) a_50l a_50c), (.int .u8 a_51), (.int .u16 a_52), (.int .u8 a_53), (.int .u32 a_54), (.slice (a_55) a_55l a_55c), (.int .u8 a_56), (.int .u8 a_57), (.int .u16 a_58), (.int .u32 a_59), (.int .u8 a_60), (.int .u8 a_61), (.int .u8 a_62), (.int .u8 a_63), (.int .u8 a_64), (.int .u8 a_65), (.int .u8 a_66), (.int .u32 a_67), (.slice (a_68) a_68l a_68c), (.int .u8 a_69), (.string a_70), (.slice (a_71) a_71l a_71c), (.int .u8 a_72), (.int .u16 a_73)]) ∧
              (x6 (some (Addr.mk w52.heap.size 0 none)) (IntKind.wrap .i64 (n9 + 1)) (w52.alloc (.cells #[(.map none), (.slice none 0 0), (.map none), (.slice none 0 0), (.map none), (.slice none 0 0), (.map none), (.slice none 0 0), (.slice none 0 0), (.slice none 0 0), (.slice none 0 0), (.slice none 0 0), (.int .i64 0), (.bool false)] 92)) (L20)) ∧
              Nat.le ((x7 (some (Addr.mk w52.heap.size 0 none)) (IntKind.wrap .i64 (n9 + 1)) (w52.alloc (.cells #[(.map none), (.slice none 0 0), (.map none), (.slice none 0 0), (.map none), (.slice none 0 0), (.map none), (.slice none 0 0), (.slice none 0 0), (.slice none 0 0), (.slice none 0 0), (.slice none 0 0), (.int .i64 0), (.bool false)] 92))) + 1) (x7 q8 n9 w10)
      else
       R (.returned (.bool false)) w22
    else
     X.CallX Try.prog 7 #[] w10 fun e12 w13 =>
      ∃ b14 : Bool, (e12 = .returned (.bool b14)) ∧
      (X.Kept L11 w10 w13) ∧
      if (b14 == true) = true then
       X.CallX Try.prog 19 #[(.int .i64 0)] w13 fun e15 w16 =>
        ∃ n17 : Int, (e15 = .returned (.int .i64 n17)) ∧
        (X.Kept L11 w13 w16) ∧
        R (.returned (.bool (true && (n17 == 0)))) w16
      else
       R (.returned (.bool false)) w13) :
    Calls Try.prog 5 #[.agg #[.int .i64 a_0, .int .i64 a_1, .int .u8 a_2, .int .u8 a_3, .int .u16 a_4, .int .u32 a_5, .int .u8 a_6, .int .u8 a_7, .int .u8 a_8, .int .u8 a_9, .int .u8 a_10, .int .u8 a_11, .int .u8 a_12, .int .u8 a_13, .int .i64 a_14, .int .i64 a_15, .slice a_16 a_16l a_16c, .int .u8 a_17, .int .u16 a_18, .int .u32 a_19, .int .u8 a_20, .int .u8 a_21, .int .u8 a_22, .int .u8 a_23, .int .u8 a_24, .int .u8 a_25, .int .u8 a_26, .int .u8 a_27, .int .i64 a_28, .int .i64 a_29, .int .i64 a_30, .int .i64 a_31, .int .u8 a_32, .string a_33, .int .u8 a_34, .int .u16 a_35, .int .u8 a_36, .int .u16 a_37, .int .u32 a_38, .int .u8 a_39, .int .u8 a_40, .int .u8 a_41, .int .u8 a_42, .int .u8 a_43, .int .u8 a_44, .int .u8 a_45, .int .u8 a_46, .string a_47, .int .u8 a_48, .int .u32 a_49, .slice a_50 a_50l a_50c, .int .u8 a_51, .int .u16 a_52, .int .u8 a_53, .int .u32 a_54, .slice a_55 a_55l a_55c, .int .u8 a_56, .int .u8 a_57, .int .u16 a_58, .int .u32 a_59, .int .u8 a_60, .int .u8 a_61, .int .u8 a_62, .int .u8 a_63, .int .u8 a_64, .int .u8 a_65, .int .u8 a_66, .int .u32 a_67, .slice a_68 a_68l a_68c, .int .u8 a_69, .string a_70, .slice a_71 a_71l a_71c, .int .u8 a_72, .int .u16 a_73]] w R :=
  X.calls_of { isLoc := [1], sym := [], loops := [(5, .inv [(3, .ptr), (4, .int .i64)] [] true)], joins := [] } Try.func5 (by kernel_rfl) h
end Go.Proofs
