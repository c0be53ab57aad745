import Derived.Test.YtjabbpcfinjofaaXFn
import Derived.Test.YtjabbpcfinjofaaProg
/- The verification conditions of this seat's functions, as the engine has them: printed by a program of the bench; checked by the kernel. -/
set_option maxRecDepth 100000
set_option linter.unusedVariables false
namespace Go.Proofs
open Go
abbrev fn_Play : Nat := 13
theorem x_Play (a : Addr) (b_0 b_1 b_2 b_3 b_4 b_5 b_6 b_7 b_8 b_9 b_10 b_11 b_12 b_13 b_14 b_15 : Int) (b_16 : Option Addr) (b_16l b_16c : Nat) (b_17 b_18 b_19 b_20 b_21 b_22 b_23 b_24 b_25 b_26 b_27 b_28 b_29 b_30 b_31 b_32 : Int) (b_33 : ByteArray) (b_34 b_35 b_36 b_37 b_38 b_39 b_40 b_41 b_42 b_43 b_44 b_45 b_46 : Int) (b_47 : ByteArray) (b_48 b_49 : Int) (b_50 : Option Addr) (b_50l b_50c : Nat) (b_51 b_52 b_53 b_54 : Int) (b_55 : Option Addr) (b_55l b_55c : Nat) (b_56 b_57 b_58 b_59 b_60 b_61 b_62 b_63 b_64 b_65 b_66 b_67 : Int) (b_68 : Option Addr) (b_68l b_68c : Nat) (b_69 : Int) (b_70 : ByteArray) (b_71 : Option Addr) (b_71l b_71c : Nat) (b_72 b_73 : Int) (w : World) (R : Ending → World → Prop) (h :
  if (b_0 == 0) = true then
   ∀ w22 : World, ∀ L23 : List Nat, (X.Hid [] w w22) →
   (X.NewL (w).heap.size [] w w22 L23) →
   X.CallX Try.prog 36 #[(.pointer (some a)), (.agg #[(.int .u8 b_3), (.int .u16 b_4), (.int .u32 b_5), (.int .u8 b_6), (.int .u8 b_7), (.int .u8 b_8), (.int .u8 b_9), (.int .u8 b_10), (.int .u8 b_11), (.int .u8 b_12), (.int .u8 b_13), (.int .i64 b_14), (.int .i64 b_15), (.slice (b_16) b_16l b_16c)])] w22 fun e24 w25 =>
    ∃ b26 : Bool, (e24 = .returned (.bool b26)) ∧
    (X.Kept L23 w22 w25) ∧
    R (.returned (.bool b26)) w25
  else
   if (b_0 == 1) = true then
    ∀ w17 : World, ∀ L18 : List Nat, (X.Hid [] w w17) →
    (X.NewL (w).heap.size [] w w17 L18) →
    X.CallX Try.prog 37 #[(.pointer (some a)), (.agg #[(.int .u8 b_17), (.int .u16 b_18), (.int .u32 b_19), (.int .u8 b_20), (.int .u8 b_21), (.int .u8 b_22), (.int .u8 b_23), (.int .u8 b_24), (.int .u8 b_25), (.int .u8 b_26), (.int .u8 b_27), (.int .i64 b_28), (.int .i64 b_29), (.int .i64 b_30), (.int .i64 b_31), (.int .u8 b_32), (.string b_33)])] w17 fun e19 w20 =>
     ∃ b21 : Bool, (e19 = .returned (.bool b21)) ∧
     (X.Kept L18 w17 w20) ∧
     R (.returned (.bool b21)) w20
   else
    if (b_0 == 2) = true then
     ∀ w12 : World, ∀ L13 : List Nat, (X.Hid [] w w12) →
     (X.NewL (w).heap.size [] w w12 L13) →
     X.CallX Try.prog 38 #[(.pointer (some a)), (.int .u8 b_2), (.int .i64 b_1), (.agg #[(.int .u8 b_56), (.int .u8 b_57), (.int .u16 b_58), (.int .u32 b_59), (.int .u8 b_60), (.int .u8 b_61), (.int .u8 b_62), (.int .u8 b_63), (.int .u8 b_64), (.int .u8 b_65), (.int .u8 b_66), (.int .u32 b_67), (.slice (b_68) b_68l b_68c), (.int .u8 b_69), (.string b_70), (.slice (b_71) b_71l b_71c), (.int .u8 b_72), (.int .u16 b_73)])] w12 fun e14 w15 =>
      ∃ b16 : Bool, (e14 = .returned (.bool b16)) ∧
      (X.Kept L13 w12 w15) ∧
      R (.returned (.bool b16)) w15
    else
     if (b_0 == 3) = true then
      ∀ w7 : World, ∀ L8 : List Nat, (X.Hid [] w w7) →
      (X.NewL (w).heap.size [] w w7 L8) →
      X.CallX Try.prog 39 #[(.pointer (some a)), (.agg #[(.int .u8 b_34), (.int .u16 b_35), (.int .u8 b_36), (.int .u16 b_37), (.int .u32 b_38), (.int .u8 b_39), (.int .u8 b_40), (.int .u8 b_41), (.int .u8 b_42), (.int .u8 b_43), (.int .u8 b_44), (.int .u8 b_45), (.int .u8 b_46), (.string b_47), (.int .u8 b_48), (.int .u32 b_49), (.slice (b_50) b_50l b_50c)])] w7 fun e9 w10 =>
       ∃ b11 : Bool, (e9 = .returned (.bool b11)) ∧
       (X.Kept L8 w7 w10) ∧
       R (.returned (.bool b11)) w10
     else
      if (b_0 == 4) = true then
       ∀ w2 : World, ∀ L3 : List Nat, (X.Hid [] w w2) →
       (X.NewL (w).heap.size [] w w2 L3) →
       X.CallX Try.prog 40 #[(.pointer (some a)), (.agg #[(.int .u8 b_51), (.int .u16 b_52), (.int .u8 b_53), (.int .u32 b_54), (.slice (b_55) b_55l b_55c)])] w2 fun e4 w5 =>
        ∃ b6 : Bool, (e4 = .returned (.bool b6)) ∧
        (X.Kept L3 w2 w5) ∧
        R (.returned (.bool b6)) w5
      else
       ∀ w1 : World, (X.Hid [] w w1) →
       R (.returned (.bool false)) w1) :
    Calls Try.prog 13 #[.pointer (some a), .agg #[.int .i64 b_0, .int .i64 b_1, .int .u8 b_2, .int .u8 b_3, .int .u16 b_4, .int .u32 b_5, .int .u8 b_6, .int .u8 b_7, .int .u8 b_8, .int .u8 b_9, .int .u8 b_10, .int .u8 b_11, .int .u8 b_12, .int .u8 b_13, .int .i64 b_14, .int .i64 b_15, .slice b_16 b_16l b_16c, .int .u8 b_17, .int .u16 b_18, .int .u32 b_19, .int .u8 b_20, .int .u8 b_21, .int .u8 b_22, .int .u8 b_23, .int .u8 b_24, .int .u8 b_25, .int .u8 b_26, .int .u8 b_27, .int .i64 b_28, .int .i64 b_29, .int .i64 b_30, .int .i64 b_31, .int .u8 b_32, .string b_33, .int .u8 b_34, .int .u16 b_35, .int .u8 b_36, .int .u16 b_37, .int .u32 b_38, .int .u8 b_39, .int .u8 b_40, .int .u8 b_41, .int .u8 b_42, .int .u8 b_43, .int .u8 b_44, .int .u8 b_45, .int .u8 b_46, .string b_47, .int .u8 b_48, .int .u32 b_49, .slice b_50 b_50l b_50c, .int .u8 b_51, .int .u16 b_52, .int .u8 b_53, .int .u32 b_54, .slice b_55 b_55l b_55c, .int .u8 b_56, .int .u8 b_57, .int .u16 b_58, .int .u32 b_59, .int .u8 b_60, .int .u8 b_61, .int .u8 b_62, .int .u8 b_63, .int .u8 b_64, .int .u8 b_65, .int .u8 b_66, .int .u32 b_67, .slice b_68 b_68l b_68c, .int .u8 b_69, .string b_70, .slice b_71 b_71l b_71c, .int .u8 b_72, .int .u16 b_73]] w R :=
  X.calls_of { isLoc := [3], sym := [], loops := [], joins := [] } Try.func13 (by kernel_rfl) h
abbrev fn_same : Nat := 14
theorem x_same (a b : Addr) (w : World) (R : Ending → World → Prop) (h :
  X.CallX Try.prog 15 #[(.pointer (some a))] w fun e1 w2 =>
   ∃ q3 : Option Addr, ∃ k4 : Nat, ∃ k5 : Nat, (e1 = .returned (.slice (q3) k4 k5)) ∧
   ((w).heap.size ≤ (w2).heap.size) ∧
   X.CallX Try.prog 16 #[(.pointer (some a))] w2 fun e6 w7 =>
    ∃ q8 : Option Addr, ∃ k9 : Nat, ∃ k10 : Nat, (e6 = .returned (.slice (q8) k9 k10)) ∧
    ((w2).heap.size ≤ (w7).heap.size) ∧
    X.CallX Try.prog 17 #[(.pointer (some a))] w7 fun e11 w12 =>
     ∃ q13 : Option Addr, ∃ k14 : Nat, ∃ k15 : Nat, (e11 = .returned (.slice (q13) k14 k15)) ∧
     ((w7).heap.size ≤ (w12).heap.size) ∧
     X.CallX Try.prog 18 #[(.pointer (some a))] w12 fun e16 w17 =>
      ∃ q18 : Option Addr, ∃ k19 : Nat, ∃ k20 : Nat, (e16 = .returned (.slice (q18) k19 k20)) ∧
      ((w12).heap.size ≤ (w17).heap.size) ∧
      ∃ x21 : X.Facts, (X.FactsW x21 w17 []) ∧
      ∃ q22 : Option Addr, ∃ k23 : Nat, ∃ k24 : Nat, (((b.add 0), [(.slice (q22) k23 k24)]) ∈ x21) ∧
      if ((((k4 : Nat) : Int) != ((k23 : Nat) : Int)) == false) = true then
       ∃ q32 : Option Addr, ∃ k33 : Nat, ∃ k34 : Nat, (((b.add 1), [(.slice (q32) k33 k34)]) ∈ x21) ∧
       if ((false || (((k9 : Nat) : Int) != ((k33 : Nat) : Int))) == false) = true then
        ∃ q40 : Option Addr, ∃ k41 : Nat, ∃ k42 : Nat, (((b.add 2), [(.slice (q40) k41 k42)]) ∈ x21) ∧
        if ((false || (((k14 : Nat) : Int) != ((k41 : Nat) : Int))) == false) = true then
         ∃ q46 : Option Addr, ∃ k47 : Nat, ∃ k48 : Nat, (((b.add 3), [(.slice (q46) k47 k48)]) ∈ x21) ∧
         if ((false || (((k19 : Nat) : Int) != ((k47 : Nat) : Int))) == false) = true then
          ∃ n50 : Int, (((b.add 8), [(.int .i64 n50)]) ∈ x21) ∧
          ∀ w51 : World, (X.Hid [] w17 w51) →
          X.CallX Try.prog 12 #[(.pointer (some a))] w51 fun e52 w53 =>
           ∃ n54 : Int, (e52 = .returned (.int .i64 n54)) ∧
           ((w51).heap.size ≤ (w53).heap.size) ∧
           (X.FactsW x21 w53 []) ∧
           if (false || (n54 != n50)) = true then
            R (.returned (.bool false)) w53
           else
            ∃ x55 : Int → World → List Nat → Prop, ∃ x56 : Int → World → Nat, (x55 0 w53 []) ∧
            ∀ n57 : Int, ∀ w58 : World, ∀ L59 : List Nat, (X.LF (w).heap.size w58 L59) →
            (x55 n57 w58 L59) →
            if (decide (n57 < ((k4 : Nat) : Int))) = true then
             ∃ x307 : X.Facts, (X.FactsW x307 w58 []) ∧
             ((0 : Int) ≤ n57) ∧
             (n57 < ((k4 : Nat) : Int)) ∧
             X.onSome (q3) fun p308 =>
             ∃ n309 : Int, ∃ n310 : Int, ∃ n311 : Int, ∃ n312 : Int, ∃ n313 : Int, ∃ n314 : Int, ∃ n315 : Int, ∃ n316 : Int, ∃ n317 : Int, ∃ n318 : Int, ((((p308.add ((n57).toNat * 14)).add 0), [(.int .u8 n309), (.int .u16 n310), (.int .u32 n311), (.int .u8 n312), (.int .u8 n313), (.int .u8 n314), (.int .u8 n315), (.int .u8 n316), (.int .u8 n317), (.int .u8 n318)]) ∈ x307) ∧
             ∃ q319 : Option Addr, ∃ k320 : Nat, ∃ k321 : Nat, (((b.add 0), [(.slice (q319) k320 k321)]) ∈ x307) ∧
             ((0 : Int) ≤ n57) ∧
             (n57 < ((k320 : Nat) : Int)) ∧
             X.onSome (q319) fun p322 =>
             ∃ n323 : Int, ∃ n324 : Int, ∃ n325 : Int, ∃ n326 : Int, ∃ n327 : Int, ∃ n328 : Int, ∃ n329 : Int, ∃ n330 : Int, ∃ n331 : Int, ∃ n332 : Int, ((((p322.add ((n57).toNat * 14)).add 0), [(.int .u8 n323), (.int .u16 n324), (.int .u32 n325), (.int .u8 n326), (.int .u8 n327), (.int .u8 n328), (.int .u8 n329), (.int .u8 n330), (.int .u8 n331), (.int .u8 n332)]) ∈ x307) ∧
             ∀ w333 : World, (X.Hid [] w58 w333) →
             X.CallX Try.prog 41 #[(.agg #[(.int .u8 n309), (.int .u16 n310), (.int .u32 n311), (.int .u8 n312), (.int .u8 n313), (.int .u8 n314), (.int .u8 n315), (.int .u8 n316), (.int .u8 n317), (.int .u8 n318)])] w333 fun e334 w335 =>
              ∃ n336 : Int, ∃ n337 : Int, ∃ n338 : Int, ∃ n339 : Int, ∃ n340 : Int, ∃ n341 : Int, ∃ n342 : Int, ∃ n343 : Int, ∃ n344 : Int, ∃ n345 : Int, (e334 = .returned (.agg #[(.int .u8 n336), (.int .u16 n337), (.int .u32 n338), (.int .u8 n339), (.int .u8 n340), (.int .u8 n341), (.int .u8 n342), (.int .u8 n343), (.int .u8 n344), (.int .u8 n345)])) ∧
              ((w333).heap.size ≤ (w335).heap.size) ∧
              (X.FactsW x307 w335 []) ∧
              ∃ x346 : X.Facts, (X.FactsW x346 w335 []) ∧
              (∀ x347 : Addr × List Value, (x347 ∈ x307) →
               x347 ∈ x346) ∧
              if ((!(((n336 == n323) && (n337 == n324)) && ((n338 == n325) && ((n339 == n326) && (((n340 == n327) && (n341 == n328)) && (((n342 == n329) && (n343 == n330)) && ((n344 == n331) && (n345 == n332)))))))) == false) = true then
               ((0 : Int) ≤ n57) ∧
               (n57 < ((k4 : Nat) : Int)) ∧
               X.onSome (q3) fun p354 =>
               ∃ n355 : Int, ((((p354.add ((n57).toNat * 14)).add 10), [(.int .u8 n355)]) ∈ x346) ∧
               ∃ q356 : Option Addr, ∃ k357 : Nat, ∃ k358 : Nat, (((b.add 0), [(.slice (q356) k357 k358)]) ∈ x346) ∧
               ((0 : Int) ≤ n57) ∧
               (n57 < ((k357 : Nat) : Int)) ∧
               X.onSome (q356) fun p359 =>
               ∃ n360 : Int, ((((p359.add ((n57).toNat * 14)).add 10), [(.int .u8 n360)]) ∈ x346) ∧
               if ((false || (n355 != n360)) == false) = true then
                ((0 : Int) ≤ n57) ∧
                (n57 < ((k4 : Nat) : Int)) ∧
                X.onSome (q3) fun p365 =>
                ∃ n366 : Int, ((((p365.add ((n57).toNat * 14)).add 11), [(.int .i64 n366)]) ∈ x346) ∧
                ∃ q367 : Option Addr, ∃ k368 : Nat, ∃ k369 : Nat, (((b.add 0), [(.slice (q367) k368 k369)]) ∈ x346) ∧
                ((0 : Int) ≤ n57) ∧
                (n57 < ((k368 : Nat) : Int)) ∧
                X.onSome (q367) fun p370 =>
                ∃ n371 : Int, ((((p370.add ((n57).toNat * 14)).add 11), [(.int .i64 n371)]) ∈ x346) ∧
                if ((false || (n366 != n371)) == false) = true then
                 ((0 : Int) ≤ n57) ∧
                 (n57 < ((k4 : Nat) : Int)) ∧
                 X.onSome (q3) fun p374 =>
                 ∃ n375 : Int, ((((p374.add ((n57).toNat * 14)).add 12), [(.int .i64 n375)]) ∈ x346) ∧
                 ∃ q376 : Option Addr, ∃ k377 : Nat, ∃ k378 : Nat, (((b.add 0), [(.slice (q376) k377 k378)]) ∈ x346) ∧
                 ((0 : Int) ≤ n57) ∧
                 (n57 < ((k377 : Nat) : Int)) ∧
                 X.onSome (q376) fun p379 =>
                 ∃ n380 : Int, ((((p379.add ((n57).toNat * 14)).add 12), [(.int .i64 n380)]) ∈ x346) ∧
                 if ((false || (n375 != n380)) == false) = true then
                  ((0 : Int) ≤ n57) ∧
                  (n57 < ((k4 : Nat) : Int)) ∧
                  X.onSome (q3) fun p381 =>
                  ∃ q382 : Option Addr, ∃ k383 : Nat, ∃ k384 : Nat, ((((p381.add ((n57).toNat * 14)).add 13), [(.slice (q382) k383 k384)]) ∈ x346) ∧
                  ∃ q385 : Option Addr, ∃ k386 : Nat, ∃ k387 : Nat, (((b.add 0), [(.slice (q385) k386 k387)]) ∈ x346) ∧
                  ((0 : Int) ≤ n57) ∧
                  (n57 < ((k386 : Nat) : Int)) ∧
                  X.onSome (q385) fun p388 =>
                  ∃ q389 : Option Addr, ∃ k390 : Nat, ∃ k391 : Nat, ((((p388.add ((n57).toNat * 14)).add 13), [(.slice (q389) k390 k391)]) ∈ x346) ∧
                  X.CallX Try.prog 42 #[(.slice (q382) k383 k384)] w335 fun e392 w393 =>
                   ∃ q394 : Option Addr, ∃ k395 : Nat, ∃ k396 : Nat, (e392 = .returned (.slice (q394) k395 k396)) ∧
                   ((w335).heap.size ≤ (w393).heap.size) ∧
                   (X.FactsW x346 w393 []) ∧
                   X.CallX Try.prog 34 #[(.slice (q394) k395 k396), (.slice (q389) k390 k391)] w393 fun e397 w398 =>
                    ∃ b399 : Bool, (e397 = .returned (.bool b399)) ∧
                    ((w393).heap.size ≤ (w398).heap.size) ∧
                    (X.FactsW x346 w398 []) ∧
                    if (false || (!b399)) = true then
                     R (.returned (.bool false)) w398
                    else
                     (x55 (IntKind.wrap .i64 (n57 + 1)) w398 []) ∧
                     Nat.le ((x56 (IntKind.wrap .i64 (n57 + 1)) w398) + 1) (x56 n57 w58)
                 else
                  R (.returned (.bool false)) w335
                else
                 ∃ x372 : X.Facts, (X.FactsW x372 w335 []) ∧
                 (∀ x373 : Addr × List Value, (x373 ∈ x346) →
                  x373 ∈ x372) ∧
                 R (.returned (.bool false)) w335
               else
                ∃ x361 : X.Facts, (X.FactsW x361 w335 []) ∧
                (∀ x362 : Addr × List Value, (x362 ∈ x346) →
                 x362 ∈ x361) ∧
                ∃ x363 : X.Facts, (X.FactsW x363 w335 []) ∧
                (∀ x364 : Addr × List Value, (x364 ∈ x361) →
                 x364 ∈ x363) ∧
                R (.returned (.bool false)) w335
              else
               ∃ x348 : X.Facts, (X.FactsW x348 w335 []) ∧
               (∀ x349 : Addr × List Value, (x349 ∈ x346) →
                x349 ∈ x348) ∧
               ∃ x350 : X.Facts, (X.FactsW x350 w335 []) ∧
               (∀ x351 : Addr × List Value, (x351 ∈ x348) →
                x351 ∈ x350) ∧
               ∃ x352 : X.Facts, (X.FactsW x352 w335 []) ∧
               (∀ x353 : Addr × List Value, (x353 ∈ x350) →
                x353 ∈ x352) ∧
               R (.returned (.bool false)) w335
            else
             ∃ x60 : Int → World → List Nat → Prop, ∃ x61 : Int → World → Nat, (x60 0 w58 []) ∧
             ∀ n62 : Int, ∀ w63 : World, ∀ L64 : List Nat, (X.LF (w).heap.size w63 L64) →
             (x60 n62 w63 L64) →
             if (decide (n62 < ((k9 : Nat) : Int))) = true then
              ∃ x247 : X.Facts, (X.FactsW x247 w63 []) ∧
              ((0 : Int) ≤ n62) ∧
              (n62 < ((k9 : Nat) : Int)) ∧
              X.onSome (q8) fun p248 =>
              ∃ n249 : Int, ∃ n250 : Int, ∃ n251 : Int, ∃ n252 : Int, ∃ n253 : Int, ∃ n254 : Int, ∃ n255 : Int, ∃ n256 : Int, ∃ n257 : Int, ∃ n258 : Int, ∃ n259 : Int, ∃ n260 : Int, ∃ n261 : Int, ∃ n262 : Int, ∃ n263 : Int, ∃ n264 : Int, ∃ s265 : ByteArray, (((p248.add ((n62).toNat * 17)), [(.int .u8 n249), (.int .u16 n250), (.int .u32 n251), (.int .u8 n252), (.int .u8 n253), (.int .u8 n254), (.int .u8 n255), (.int .u8 n256), (.int .u8 n257), (.int .u8 n258), (.int .u8 n259), (.int .i64 n260), (.int .i64 n261), (.int .i64 n262), (.int .i64 n263), (.int .u8 n264), (.string s265)]) ∈ x247) ∧
              ∃ q266 : Option Addr, ∃ k267 : Nat, ∃ k268 : Nat, (((b.add 1), [(.slice (q266) k267 k268)]) ∈ x247) ∧
              ((0 : Int) ≤ n62) ∧
              (n62 < ((k267 : Nat) : Int)) ∧
              X.onSome (q266) fun p269 =>
              ∃ n270 : Int, ∃ n271 : Int, ∃ n272 : Int, ∃ n273 : Int, ∃ n274 : Int, ∃ n275 : Int, ∃ n276 : Int, ∃ n277 : Int, ∃ n278 : Int, ∃ n279 : Int, ∃ n280 : Int, ∃ n281 : Int, ∃ n282 : Int, ∃ n283 : Int, ∃ n284 : Int, ∃ n285 : Int, ∃ s286 : ByteArray, (((p269.add ((n62).toNat * 17)), [(.int .u8 n270), (.int .u16 n271), (.int .u32 n272), (.int .u8 n273), (.int .u8 n274), (.int .u8 n275), (.int .u8 n276), (.int .u8 n277), (.int .u8 n278), (.int .u8 n279), (.int .u8 n280), (.int .i64 n281), (.int .i64 n282), (.int .i64 n283), (.int .i64 n284), (.int .u8 n285), (.string s286)]) ∈ x247) ∧
              ∀ w287 : World, (X.Hid [] w63 w287) →
              X.CallX Try.prog 28 #[(.agg #[(.int .u8 n270), (.int .u16 n271), (.int .u32 n272), (.int .u8 n273), (.int .u8 n274), (.int .u8 n275), (.int .u8 n276), (.int .u8 n277), (.int .u8 n278), (.int .u8 n279), (.int .u8 n280), (.int .i64 n281), (.int .i64 n282), (.int .i64 n283), (.int .i64 n284), (.int .u8 n285), (.string s286)])] w287 fun e288 w289 =>
               ∃ n290 : Int, ∃ n291 : Int, ∃ n292 : Int, ∃ n293 : Int, ∃ n294 : Int, ∃ n295 : Int, ∃ n296 : Int, ∃ n297 : Int, ∃ n298 : Int, ∃ n299 : Int, ∃ n300 : Int, ∃ n301 : Int, ∃ n302 : Int, ∃ n303 : Int, ∃ n304 : Int, ∃ n305 : Int, ∃ s306 : ByteArray, (e288 = .returned (.agg #[(.int .u8 n290), (.int .u16 n291), (.int .u32 n292), (.int .u8 n293), (.int .u8 n294), (.int .u8 n295), (.int .u8 n296), (.int .u8 n297), (.int .u8 n298), (.int .u8 n299), (.int .u8 n300), (.int .i64 n301), (.int .i64 n302), (.int .i64 n303), (.int .i64 n304), (.int .u8 n305), (.string s306)])) ∧
               ((w287).heap.size ≤ (w289).heap.size) ∧
               (X.FactsW x247 w289 []) ∧
               if (!((((n249 == n290) && (n250 == n291)) && ((n251 == n292) && ((n252 == n293) && (((n253 == n294) && (n254 == n295)) && (((n255 == n296) && (n256 == n297)) && ((n257 == n298) && (n258 == n299))))))) && ((n259 == n300) && ((n260 == n301) && ((n261 == n302) && ((n262 == n303) && ((n263 == n304) && ((n264 == n305) && (s265 == s306))))))))) = true then
                R (.returned (.bool false)) w289
               else
                (x60 (IntKind.wrap .i64 (n62 + 1)) w289 []) ∧
                Nat.le ((x61 (IntKind.wrap .i64 (n62 + 1)) w289) + 1) (x61 n62 w63)
             else
              ∃ x65 : Int → World → List Nat → Prop, ∃ x66 : Int → World → Nat, (x65 0 w63 []) ∧
              ∀ n67 : Int, ∀ w68 : World, ∀ L69 : List Nat, (X.LF (w).heap.size w68 L69) →
              (x65 n67 w68 L69) →
              if (decide (n67 < ((k14 : Nat) : Int))) = true then
               ∃ x145 : X.Facts, (X.FactsW x145 w68 []) ∧
               ((0 : Int) ≤ n67) ∧
               (n67 < ((k14 : Nat) : Int)) ∧
               X.onSome (q13) fun p146 =>
               ∃ n147 : Int, ∃ n148 : Int, ((((p146.add ((n67).toNat * 17)).add 0), [(.int .u8 n147), (.int .u16 n148)]) ∈ x145) ∧
               ∃ q149 : Option Addr, ∃ k150 : Nat, ∃ k151 : Nat, (((b.add 2), [(.slice (q149) k150 k151)]) ∈ x145) ∧
               ((0 : Int) ≤ n67) ∧
               (n67 < ((k150 : Nat) : Int)) ∧
               X.onSome (q149) fun p152 =>
               ∃ n153 : Int, ∃ n154 : Int, ((((p152.add ((n67).toNat * 17)).add 0), [(.int .u8 n153), (.int .u16 n154)]) ∈ x145) ∧
               ∀ w155 : World, (X.Hid [] w68 w155) →
               X.CallX Try.prog 43 #[(.agg #[(.int .u8 n147), (.int .u16 n148)])] w155 fun e156 w157 =>
                ∃ n158 : Int, ∃ n159 : Int, (e156 = .returned (.agg #[(.int .u8 n158), (.int .u16 n159)])) ∧
                ((w155).heap.size ≤ (w157).heap.size) ∧
                (X.FactsW x145 w157 []) ∧
                ∃ x160 : X.Facts, (X.FactsW x160 w157 []) ∧
                (∀ x161 : Addr × List Value, (x161 ∈ x145) →
                 x161 ∈ x160) ∧
                if ((!((n158 == n153) && (n159 == n154))) == false) = true then
                 ((0 : Int) ≤ n67) ∧
                 (n67 < ((k14 : Nat) : Int)) ∧
                 X.onSome (q13) fun p166 =>
                 ∃ n167 : Int, ∃ n168 : Int, ∃ n169 : Int, ∃ n170 : Int, ∃ n171 : Int, ∃ n172 : Int, ∃ n173 : Int, ∃ n174 : Int, ∃ n175 : Int, ∃ n176 : Int, ((((p166.add ((n67).toNat * 17)).add 2), [(.int .u8 n167), (.int .u16 n168), (.int .u32 n169), (.int .u8 n170), (.int .u8 n171), (.int .u8 n172), (.int .u8 n173), (.int .u8 n174), (.int .u8 n175), (.int .u8 n176)]) ∈ x160) ∧
                 ∃ q177 : Option Addr, ∃ k178 : Nat, ∃ k179 : Nat, (((b.add 2), [(.slice (q177) k178 k179)]) ∈ x160) ∧
                 ((0 : Int) ≤ n67) ∧
                 (n67 < ((k178 : Nat) : Int)) ∧
                 X.onSome (q177) fun p180 =>
                 ∃ n181 : Int, ∃ n182 : Int, ∃ n183 : Int, ∃ n184 : Int, ∃ n185 : Int, ∃ n186 : Int, ∃ n187 : Int, ∃ n188 : Int, ∃ n189 : Int, ∃ n190 : Int, ((((p180.add ((n67).toNat * 17)).add 2), [(.int .u8 n181), (.int .u16 n182), (.int .u32 n183), (.int .u8 n184), (.int .u8 n185), (.int .u8 n186), (.int .u8 n187), (.int .u8 n188), (.int .u8 n189), (.int .u8 n190)]) ∈ x160) ∧
                 X.CallX Try.prog 41 #[(.agg #[(.int .u8 n167), (.int .u16 n168), (.int .u32 n169), (.int .u8 n170), (.int .u8 n171), (.int .u8 n172), (.int .u8 n173), (.int .u8 n174), (.int .u8 n175), (.int .u8 n176)])] w157 fun e191 w192 =>
                  ∃ n193 : Int, ∃ n194 : Int, ∃ n195 : Int, ∃ n196 : Int, ∃ n197 : Int, ∃ n198 : Int, ∃ n199 : Int, ∃ n200 : Int, ∃ n201 : Int, ∃ n202 : Int, (e191 = .returned (.agg #[(.int .u8 n193), (.int .u16 n194), (.int .u32 n195), (.int .u8 n196), (.int .u8 n197), (.int .u8 n198), (.int .u8 n199), (.int .u8 n200), (.int .u8 n201), (.int .u8 n202)])) ∧
                  ((w157).heap.size ≤ (w192).heap.size) ∧
                  (X.FactsW x160 w192 []) ∧
                  ∃ x203 : X.Facts, (X.FactsW x203 w192 []) ∧
                  (∀ x204 : Addr × List Value, (x204 ∈ x160) →
                   x204 ∈ x203) ∧
                  if ((false || (!(((n193 == n181) && (n194 == n182)) && ((n195 == n183) && ((n196 == n184) && (((n197 == n185) && (n198 == n186)) && (((n199 == n187) && (n200 == n188)) && ((n201 == n189) && (n202 == n190))))))))) == false) = true then
                   ((0 : Int) ≤ n67) ∧
                   (n67 < ((k14 : Nat) : Int)) ∧
                   X.onSome (q13) fun p207 =>
                   ∃ n208 : Int, ∃ s209 : ByteArray, ((((p207.add ((n67).toNat * 17)).add 12), [(.int .u8 n208), (.string s209)]) ∈ x203) ∧
                   ∃ q210 : Option Addr, ∃ k211 : Nat, ∃ k212 : Nat, (((b.add 2), [(.slice (q210) k211 k212)]) ∈ x203) ∧
                   ((0 : Int) ≤ n67) ∧
                   (n67 < ((k211 : Nat) : Int)) ∧
                   X.onSome (q210) fun p213 =>
                   ∃ n214 : Int, ∃ s215 : ByteArray, ((((p213.add ((n67).toNat * 17)).add 12), [(.int .u8 n214), (.string s215)]) ∈ x203) ∧
                   X.CallX Try.prog 44 #[(.agg #[(.int .u8 n208), (.string s209)])] w192 fun e216 w217 =>
                    ∃ n218 : Int, ∃ s219 : ByteArray, (e216 = .returned (.agg #[(.int .u8 n218), (.string s219)])) ∧
                    ((w192).heap.size ≤ (w217).heap.size) ∧
                    (X.FactsW x203 w217 []) ∧
                    ∃ x220 : X.Facts, (X.FactsW x220 w217 []) ∧
                    (∀ x221 : Addr × List Value, (x221 ∈ x203) →
                     x221 ∈ x220) ∧
                    if ((false || (!((n218 == n214) && (s219 == s215)))) == false) = true then
                     ((0 : Int) ≤ n67) ∧
                     (n67 < ((k14 : Nat) : Int)) ∧
                     X.onSome (q13) fun p222 =>
                     ∃ n223 : Int, ∃ n224 : Int, ∃ q225 : Option Addr, ∃ k226 : Nat, ∃ k227 : Nat, ((((p222.add ((n67).toNat * 17)).add 14), [(.int .u8 n223), (.int .u32 n224), (.slice (q225) k226 k227)]) ∈ x220) ∧
                     ∃ q228 : Option Addr, ∃ k229 : Nat, ∃ k230 : Nat, (((b.add 2), [(.slice (q228) k229 k230)]) ∈ x220) ∧
                     ((0 : Int) ≤ n67) ∧
                     (n67 < ((k229 : Nat) : Int)) ∧
                     X.onSome (q228) fun p231 =>
                     ∃ n232 : Int, ∃ n233 : Int, ∃ q234 : Option Addr, ∃ k235 : Nat, ∃ k236 : Nat, ((((p231.add ((n67).toNat * 17)).add 14), [(.int .u8 n232), (.int .u32 n233), (.slice (q234) k235 k236)]) ∈ x220) ∧
                     X.CallX Try.prog 46 #[(.agg #[(.int .u8 n223), (.int .u32 n224), (.slice (q225) k226 k227)])] w217 fun e237 w238 =>
                      ∃ n239 : Int, ∃ n240 : Int, ∃ q241 : Option Addr, ∃ k242 : Nat, ∃ k243 : Nat, (e237 = .returned (.agg #[(.int .u8 n239), (.int .u32 n240), (.slice (q241) k242 k243)])) ∧
                      ((w217).heap.size ≤ (w238).heap.size) ∧
                      (X.FactsW x220 w238 []) ∧
                      X.CallX Try.prog 45 #[(.agg #[(.int .u8 n239), (.int .u32 n240), (.slice (q241) k242 k243)]), (.agg #[(.int .u8 n232), (.int .u32 n233), (.slice (q234) k235 k236)])] w238 fun e244 w245 =>
                       ∃ b246 : Bool, (e244 = .returned (.bool b246)) ∧
                       ((w238).heap.size ≤ (w245).heap.size) ∧
                       (X.FactsW x220 w245 []) ∧
                       if (false || (!b246)) = true then
                        R (.returned (.bool false)) w245
                       else
                        (x65 (IntKind.wrap .i64 (n67 + 1)) w245 []) ∧
                        Nat.le ((x66 (IntKind.wrap .i64 (n67 + 1)) w245) + 1) (x66 n67 w68)
                    else
                     R (.returned (.bool false)) w217
                  else
                   ∃ x205 : X.Facts, (X.FactsW x205 w192 []) ∧
                   (∀ x206 : Addr × List Value, (x206 ∈ x203) →
                    x206 ∈ x205) ∧
                   R (.returned (.bool false)) w192
                else
                 ∃ x162 : X.Facts, (X.FactsW x162 w157 []) ∧
                 (∀ x163 : Addr × List Value, (x163 ∈ x160) →
                  x163 ∈ x162) ∧
                 ∃ x164 : X.Facts, (X.FactsW x164 w157 []) ∧
                 (∀ x165 : Addr × List Value, (x165 ∈ x162) →
                  x165 ∈ x164) ∧
                 R (.returned (.bool false)) w157
              else
               ∃ x70 : Int → World → List Nat → Prop, ∃ x71 : Int → World → Nat, (x70 0 w68 []) ∧
               ∀ n72 : Int, ∀ w73 : World, ∀ L74 : List Nat, (X.LF (w).heap.size w73 L74) →
               (x70 n72 w73 L74) →
               if (decide (n72 < ((k19 : Nat) : Int))) = true then
                ∃ x103 : X.Facts, (X.FactsW x103 w73 []) ∧
                ((0 : Int) ≤ n72) ∧
                (n72 < ((k19 : Nat) : Int)) ∧
                X.onSome (q18) fun p104 =>
                ∃ n105 : Int, ∃ n106 : Int, ((((p104.add ((n72).toNat * 5)).add 0), [(.int .u8 n105), (.int .u16 n106)]) ∈ x103) ∧
                ∃ q107 : Option Addr, ∃ k108 : Nat, ∃ k109 : Nat, (((b.add 3), [(.slice (q107) k108 k109)]) ∈ x103) ∧
                ((0 : Int) ≤ n72) ∧
                (n72 < ((k108 : Nat) : Int)) ∧
                X.onSome (q107) fun p110 =>
                ∃ n111 : Int, ∃ n112 : Int, ((((p110.add ((n72).toNat * 5)).add 0), [(.int .u8 n111), (.int .u16 n112)]) ∈ x103) ∧
                ∀ w113 : World, (X.Hid [] w73 w113) →
                X.CallX Try.prog 43 #[(.agg #[(.int .u8 n105), (.int .u16 n106)])] w113 fun e114 w115 =>
                 ∃ n116 : Int, ∃ n117 : Int, (e114 = .returned (.agg #[(.int .u8 n116), (.int .u16 n117)])) ∧
                 ((w113).heap.size ≤ (w115).heap.size) ∧
                 (X.FactsW x103 w115 []) ∧
                 ∃ x118 : X.Facts, (X.FactsW x118 w115 []) ∧
                 (∀ x119 : Addr × List Value, (x119 ∈ x103) →
                  x119 ∈ x118) ∧
                 if ((!((n116 == n111) && (n117 == n112))) == false) = true then
                  ((0 : Int) ≤ n72) ∧
                  (n72 < ((k19 : Nat) : Int)) ∧
                  X.onSome (q18) fun p120 =>
                  ∃ n121 : Int, ∃ n122 : Int, ∃ q123 : Option Addr, ∃ k124 : Nat, ∃ k125 : Nat, ((((p120.add ((n72).toNat * 5)).add 2), [(.int .u8 n121), (.int .u32 n122), (.slice (q123) k124 k125)]) ∈ x118) ∧
                  ∃ q126 : Option Addr, ∃ k127 : Nat, ∃ k128 : Nat, (((b.add 3), [(.slice (q126) k127 k128)]) ∈ x118) ∧
                  ((0 : Int) ≤ n72) ∧
                  (n72 < ((k127 : Nat) : Int)) ∧
                  X.onSome (q126) fun p129 =>
                  ∃ n130 : Int, ∃ n131 : Int, ∃ q132 : Option Addr, ∃ k133 : Nat, ∃ k134 : Nat, ((((p129.add ((n72).toNat * 5)).add 2), [(.int .u8 n130), (.int .u32 n131), (.slice (q132) k133 k134)]) ∈ x118) ∧
                  X.CallX Try.prog 46 #[(.agg #[(.int .u8 n121), (.int .u32 n122), (.slice (q123) k124 k125)])] w115 fun e135 w136 =>
                   ∃ n137 : Int, ∃ n138 : Int, ∃ q139 : Option Addr, ∃ k140 : Nat, ∃ k141 : Nat, (e135 = .returned (.agg #[(.int .u8 n137), (.int .u32 n138), (.slice (q139) k140 k141)])) ∧
                   ((w115).heap.size ≤ (w136).heap.size) ∧
                   (X.FactsW x118 w136 []) ∧
                   X.CallX Try.prog 45 #[(.agg #[(.int .u8 n137), (.int .u32 n138), (.slice (q139) k140 k141)]), (.agg #[(.int .u8 n130), (.int .u32 n131), (.slice (q132) k133 k134)])] w136 fun e142 w143 =>
                    ∃ b144 : Bool, (e142 = .returned (.bool b144)) ∧
                    ((w136).heap.size ≤ (w143).heap.size) ∧
                    (X.FactsW x118 w143 []) ∧
                    if (false || (!b144)) = true then
                     R (.returned (.bool false)) w143
                    else
                     (x70 (IntKind.wrap .i64 (n72 + 1)) w143 []) ∧
                     Nat.le ((x71 (IntKind.wrap .i64 (n72 + 1)) w143) + 1) (x71 n72 w73)
                 else
                  R (.returned (.bool false)) w115
               else
                ∃ x75 : Int → World → List Nat → Prop, ∃ x76 : Int → World → Nat, (x75 0 w73 []) ∧
                ∀ n77 : Int, ∀ w78 : World, ∀ L79 : List Nat, (X.LF (w).heap.size w78 L79) →
                (x75 n77 w78 L79) →
                if (decide (n77 < 4)) = true then
                 ∃ x85 : X.Facts, (X.FactsW x85 w78 []) ∧
                 ((0 : Int) ≤ n77) ∧
                 (n77 < 4) ∧
                 ∃ q86 : Option Addr, ∃ k87 : Nat, ∃ k88 : Nat, ((((b.add 4).add ((n77).toNat * 1)), [(.slice (q86) k87 k88)]) ∈ x85) ∧
                 ∀ w89 : World, (X.Hid [] w78 w89) →
                 X.CallX Try.prog 9 #[(.pointer (some a)), (.int .u8 (IntKind.wrap .u8 n77))] w89 fun e90 w91 =>
                  ∃ q92 : Option Addr, ∃ k93 : Nat, ∃ k94 : Nat, (e90 = .returned (.slice (q92) k93 k94)) ∧
                  ((w89).heap.size ≤ (w91).heap.size) ∧
                  (X.FactsW x85 w91 []) ∧
                  X.CallX Try.prog 48 #[(.slice (q92) k93 k94)] w91 fun e95 w96 =>
                   ∃ q97 : Option Addr, ∃ k98 : Nat, ∃ k99 : Nat, (e95 = .returned (.slice (q97) k98 k99)) ∧
                   ((w91).heap.size ≤ (w96).heap.size) ∧
                   (X.FactsW x85 w96 []) ∧
                   X.CallX Try.prog 47 #[(.slice (q97) k98 k99), (.slice (q86) k87 k88)] w96 fun e100 w101 =>
                    ∃ b102 : Bool, (e100 = .returned (.bool b102)) ∧
                    ((w96).heap.size ≤ (w101).heap.size) ∧
                    if (!b102) = true then
                     R (.returned (.bool false)) w101
                    else
                     (x75 (IntKind.wrap .i64 (n77 + 1)) w101 []) ∧
                     Nat.le ((x76 (IntKind.wrap .i64 (n77 + 1)) w101) + 1) (x76 n77 w78)
                else
                 X.CallX Try.prog 9 #[(.pointer (some a)), (.int .u8 4)] w78 fun e80 w81 =>
                  ∃ q82 : Option Addr, ∃ k83 : Nat, ∃ k84 : Nat, (e80 = .returned (.slice (q82) k83 k84)) ∧
                  ((w78).heap.size ≤ (w81).heap.size) ∧
                  R (.returned (.bool (((k83 : Nat) : Int) == 0))) w81
         else
          ∀ w49 : World, (X.Hid [] w17 w49) →
          R (.returned (.bool false)) w49
        else
         ∃ x43 : X.Facts, (X.FactsW x43 w17 []) ∧
         (∀ x44 : Addr × List Value, (x44 ∈ x21) →
          x44 ∈ x43) ∧
         ∀ w45 : World, (X.Hid [] w17 w45) →
         R (.returned (.bool false)) w45
       else
        ∃ x35 : X.Facts, (X.FactsW x35 w17 []) ∧
        (∀ x36 : Addr × List Value, (x36 ∈ x21) →
         x36 ∈ x35) ∧
        ∃ x37 : X.Facts, (X.FactsW x37 w17 []) ∧
        (∀ x38 : Addr × List Value, (x38 ∈ x35) →
         x38 ∈ x37) ∧
        ∀ w39 : World, (X.Hid [] w17 w39) →
        R (.returned (.bool false)) w39
      else
       ∃ x25 : X.Facts, (X.FactsW x25 w17 []) ∧
       (∀ x26 : Addr × List Value, (x26 ∈ x21) →
        x26 ∈ x25) ∧
       ∃ x27 : X.Facts, (X.FactsW x27 w17 []) ∧
       (∀ x28 : Addr × List Value, (x28 ∈ x25) →
        x28 ∈ x27) ∧
       ∃ x29 : X.Facts, (X.FactsW x29 w17 []) ∧
       (∀ x30 : Addr × List Value, (x30 ∈ x27) →
        x30 ∈ x29) ∧
       ∀ w31 : World, (X.Hid [] w17 w31) →
       R (.returned (.bool false)) w31) :
    Calls Try.prog 14 #[.pointer (some a), .pointer (some b)] w R :=
  X.calls_of { isLoc := [], sym := [300], loops := [(8, .inv [(9, .int .i64)] [] true), (13, .inv [(10, .int .i64)] [] true), (18, .inv [(11, .int .i64)] [] true), (23, .inv [(12, .int .i64)] [] true), (28, .inv [(13, .int .i64)] [] true)], joins := [] } Try.func14 (by kernel_rfl) h
end Go.Proofs
