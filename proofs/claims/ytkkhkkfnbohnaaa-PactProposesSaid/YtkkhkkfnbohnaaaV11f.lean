import Derived.Test.YtkkhkkfnbohnaaaXFn
import Derived.Test.YtkkhkkfnbohnaaaProg
/- The verification conditions of this seat's functions, as the engine has them: printed by a program of the bench; checked by the kernel. -/
set_option maxRecDepth 100000
set_option linter.unusedVariables false
namespace Go.Proofs
open Go
abbrev fn_PactProposes : Nat := 4
theorem x_PactProposes (a_0 a_1 : Int) (a_2 : Option Addr) (a_2l a_2c : Nat) (b : Int) (c : Option Addr) (cl cc : Nat) (w : World) (R : Ending → World → Prop) (h :
  ∀ w1 : World, ∀ L2 : List Nat, (X.Hid [] w w1) →
  (X.NewL (w).heap.size [] w w1 L2) →
  X.CallX Try.prog 8 #[(.slice (c) cl cc)] w1 fun e3 w4 =>
   ∃ b5 : Bool, (e3 = .returned (.bool b5)) ∧
   (X.Kept L2 w1 w4) ∧
   if (((!b5) || decide (((a_2l : Nat) : Int) > 20)) == false) = true then
    X.CallX Try.prog 9 #[] w4 fun e9 w10 =>
     ∃ b11 : Bool, (e9 = .returned (.bool b11)) ∧
     (X.Kept L2 w4 w10) ∧
     if (false || (!b11)) = true then
      X.CallX Try.prog 9 #[] w10 fun e457 w458 =>
       ∃ b459 : Bool, (e457 = .returned (.bool b459)) ∧
       (X.Kept L2 w10 w458) ∧
       R (.returned (.bool b459)) w458
     else
      X.CallX Try.prog 24 #[(.agg #[(.int .u8 a_0), (.int .u32 a_1), (.slice (a_2) a_2l a_2c)])] w10 fun e12 w13 =>
       ∃ n14 : Int, ∃ n15 : Int, ∃ q16 : Option Addr, ∃ k17 : Nat, ∃ k18 : Nat, (e12 = .returned (.agg #[(.int .u8 n14), (.int .u32 n15), (.slice (q16) k17 k18)])) ∧
       (X.Kept L2 w10 w13) ∧
       X.CallX Try.prog 23 #[(.agg #[(.int .u8 n14), (.int .u32 n15), (.slice (q16) k17 k18)]), (.int .u64 b)] w13 fun e19 w20 =>
        ∃ q21 : Option Addr, (e19 = .returned (.pointer (q21))) ∧
        (X.Kept L2 w13 w20) ∧
        X.CallX Try.prog 25 #[(.agg #[(.int .u8 a_0), (.int .u32 a_1), (.slice (a_2) a_2l a_2c)]), (.int .u64 b)] w20 fun e22 w23 =>
         ∃ q24 : Option Addr, (e22 = .returned (.pointer (q24))) ∧
         (X.Kept L2 w20 w23) ∧
         if (!((q21.isNone) == (q24.isNone))) = true then
          R (.returned (.bool false)) w23
         else
          ∃ x25 : Int → World → List Nat → Prop, ∃ x26 : Int → World → Nat, (x25 0 w23 (L2)) ∧
          ∀ n27 : Int, ∀ w28 : World, ∀ L29 : List Nat, (X.LF (w).heap.size w28 L29) →
          (x25 n27 w28 L29) →
          if (decide (n27 < ((cl : Nat) : Int)) && (!(q24.isNone))) = true then
           ((0 : Int) ≤ n27) ∧
           (n27 < ((cl : Nat) : Int)) ∧
           X.onSome (c) fun p30 =>
           ∃ n31 : Int, ∃ n32 : Int, ∃ n33 : Int, ∃ n34 : Int, ∃ q35 : Option Addr, ∃ k36 : Nat, ∃ k37 : Nat, ∃ q38 : Option Addr, ∃ k39 : Nat, ∃ k40 : Nat, ∃ q41 : Option Addr, ∃ k42 : Nat, ∃ k43 : Nat, ∃ b44 : Bool, (X.Cells w28 (p30.add ((n27).toNat * 8)) [(.int .i64 n31), (.int .u64 n32), (.int .u8 n33), (.int .u16 n34), (.slice (q35) k36 k37), (.slice (q38) k39 k40), (.slice (q41) k42 k43), (.bool b44)]) ∧
           (¬ (((p30.add (n27.toNat * 8)).block) ∈ L29)) ∧
           if (n31 == 2) = true then
            ∃ x354 : X.Facts, (X.FactsW x354 w28 (L29)) ∧
            ∀ w355 : World, ∀ L356 : List Nat, (X.Hid (L29) w28 w355) →
            (X.NewL (w).heap.size (L29) w28 w355 L356) →
            X.CallX Try.prog 27 #[(.agg #[(.int .u8 n33), (.int .u16 n34)])] w355 fun e357 w358 =>
             ∃ n359 : Int, ∃ n360 : Int, (e357 = .returned (.agg #[(.int .u8 n359), (.int .u16 n360)])) ∧
             (X.Kept L356 w355 w358) ∧
             (X.FactsW x354 w358 (L356)) ∧
             X.CallX Try.prog 28 #[(.slice (q35) k36 k37)] w358 fun e361 w362 =>
              ∃ q363 : Option Addr, ∃ k364 : Nat, ∃ k365 : Nat, (e361 = .returned (.slice (q363) k364 k365)) ∧
              (X.Kept L356 w358 w362) ∧
              (X.FactsW x354 w362 (L356)) ∧
              X.CallX Try.prog 14 #[(.agg #[(.slice (q38) k39 k40), (.slice (q41) k42 k43)])] w362 fun e366 w367 =>
               ∃ q368 : Option Addr, ∃ k369 : Nat, ∃ k370 : Nat, ∃ q371 : Option Addr, ∃ k372 : Nat, ∃ k373 : Nat, (e366 = .returned (.agg #[(.slice (q368) k369 k370), (.slice (q371) k372 k373)])) ∧
               (X.Kept L356 w362 w367) ∧
               (X.FactsW x354 w367 (L356)) ∧
               X.CallX Try.prog 26 #[(.pointer (q21)), (.agg #[(.int .u8 n359), (.int .u16 n360)]), (.slice (q363) k364 k365), (.int .u64 n32), (.agg #[(.slice (q368) k369 k370), (.slice (q371) k372 k373)]), (.bool b44)] w367 fun e374 w375 =>
                (e374 = .returned (.tuple #[])) ∧
                (X.Kept L356 w367 w375) ∧
                (X.FactsW x354 w375 (L356)) ∧
                X.CallX Try.prog 29 #[(.pointer (q24)), (.agg #[(.int .u8 n33), (.int .u16 n34)]), (.slice (q35) k36 k37), (.int .u64 n32), (.agg #[(.slice (q38) k39 k40), (.slice (q41) k42 k43)]), (.bool b44)] w375 fun e376 w377 =>
                 (e376 = .returned (.tuple #[])) ∧
                 (X.Kept L356 w375 w377) ∧
                 ∃ x378 : X.Facts, (X.FactsW x378 w377 (L356)) ∧
                 X.onSome (q24) fun p379 =>
                 ∃ n380 : Int, (((p379.add 4), [(.int .i64 n380)]) ∈ x378) ∧
                 ∀ w381 : World, ∀ L382 : List Nat, (X.Hid (L356) w377 w381) →
                 (X.NewL (w).heap.size (L356) w377 w381 L382) →
                 X.CallX Try.prog 35 #[(.pointer (q21))] w381 fun e383 w384 =>
                  ∃ n385 : Int, (e383 = .returned (.int .i64 n385)) ∧
                  (X.Kept L382 w381 w384) ∧
                  (X.FactsW x378 w384 (L382)) ∧
                  ∃ x386 : X.Facts, (X.FactsW x386 w384 (L382)) ∧
                  (∀ x387 : Addr × List Value, (x387 ∈ x378) →
                   x387 ∈ x386) ∧
                  if ((false || (n385 != n380)) == false) = true then
                   X.CallX Try.prog 36 #[(.pointer (q21))] w384 fun e394 w395 =>
                    ∃ b396 : Bool, (e394 = .returned (.bool b396)) ∧
                    (X.Kept L382 w384 w395) ∧
                    (X.FactsW x386 w395 (L382)) ∧
                    ∃ x397 : X.Facts, (X.FactsW x397 w395 (L382)) ∧
                    (∀ x398 : Addr × List Value, (x398 ∈ x386) →
                     x398 ∈ x397) ∧
                    X.CallX Try.prog 37 #[(.pointer (q24))] w395 fun e399 w400 =>
                     ∃ b401 : Bool, (e399 = .returned (.bool b401)) ∧
                     (X.Kept L382 w395 w400) ∧
                     (X.FactsW x397 w400 (L382)) ∧
                     ∃ x402 : X.Facts, (X.FactsW x402 w400 (L382)) ∧
                     (∀ x403 : Addr × List Value, (x403 ∈ x397) →
                      x403 ∈ x402) ∧
                     if ((false || (!(b396 == b401))) == false) = true then
                      X.onSome (q24) fun p406 =>
                      ∃ n407 : Int, (((p406.add 3), [(.int .u64 n407)]) ∈ x402) ∧
                      X.CallX Try.prog 38 #[(.pointer (q21))] w400 fun e408 w409 =>
                       ∃ n410 : Int, (e408 = .returned (.int .u64 n410)) ∧
                       (X.Kept L382 w400 w409) ∧
                       (X.FactsW x402 w409 (L382)) ∧
                       ∃ x411 : X.Facts, (X.FactsW x411 w409 (L382)) ∧
                       (∀ x412 : Addr × List Value, (x412 ∈ x402) →
                        x412 ∈ x411) ∧
                       if ((false || (n410 != n407)) == false) = true then
                        X.onSome (q24) fun p413 =>
                        ∃ q414 : Option Addr, ∃ k415 : Nat, ∃ k416 : Nat, ∃ q417 : Option Addr, ∃ k418 : Nat, ∃ k419 : Nat, (((p413.add 11), [(.slice (q414) k415 k416), (.slice (q417) k418 k419)]) ∈ x411) ∧
                        X.CallX Try.prog 39 #[(.pointer (q21))] w409 fun e420 w421 =>
                         ∃ q422 : Option Addr, ∃ k423 : Nat, ∃ k424 : Nat, ∃ q425 : Option Addr, ∃ k426 : Nat, ∃ k427 : Nat, (e420 = .returned (.agg #[(.slice (q422) k423 k424), (.slice (q425) k426 k427)])) ∧
                         (X.Kept L382 w409 w421) ∧
                         (X.FactsW x411 w421 (L382)) ∧
                         X.CallX Try.prog 19 #[(.agg #[(.slice (q422) k423 k424), (.slice (q425) k426 k427)])] w421 fun e428 w429 =>
                          ∃ q430 : Option Addr, ∃ k431 : Nat, ∃ k432 : Nat, ∃ q433 : Option Addr, ∃ k434 : Nat, ∃ k435 : Nat, (e428 = .returned (.agg #[(.slice (q430) k431 k432), (.slice (q433) k434 k435)])) ∧
                          (X.Kept L382 w421 w429) ∧
                          (X.FactsW x411 w429 (L382)) ∧
                          X.CallX Try.prog 18 #[(.agg #[(.slice (q430) k431 k432), (.slice (q433) k434 k435)]), (.agg #[(.slice (q414) k415 k416), (.slice (q417) k418 k419)])] w429 fun e436 w437 =>
                           ∃ b438 : Bool, (e436 = .returned (.bool b438)) ∧
                           (X.Kept L382 w429 w437) ∧
                           (X.FactsW x411 w437 (L382)) ∧
                           if ((false || (!b438)) == false) = true then
                            X.CallX Try.prog 42 #[(.pointer (q21))] w437 fun e439 w440 =>
                             ∃ q441 : Option Addr, ∃ k442 : Nat, ∃ k443 : Nat, (e439 = .returned (.slice (q441) k442 k443)) ∧
                             (X.Kept L382 w437 w440) ∧
                             (X.FactsW x411 w440 (L382)) ∧
                             X.CallX Try.prog 41 #[(.slice (q441) k442 k443)] w440 fun e444 w445 =>
                              ∃ q446 : Option Addr, ∃ k447 : Nat, ∃ k448 : Nat, (e444 = .returned (.slice (q446) k447 k448)) ∧
                              (X.Kept L382 w440 w445) ∧
                              (X.FactsW x411 w445 (L382)) ∧
                              X.CallX Try.prog 43 #[(.pointer (q24))] w445 fun e449 w450 =>
                               ∃ q451 : Option Addr, ∃ k452 : Nat, ∃ k453 : Nat, (e449 = .returned (.slice (q451) k452 k453)) ∧
                               (X.Kept L382 w445 w450) ∧
                               (X.FactsW x411 w450 (L382)) ∧
                               X.CallX Try.prog 40 #[(.slice (q446) k447 k448), (.slice (q451) k452 k453)] w450 fun e454 w455 =>
                                ∃ b456 : Bool, (e454 = .returned (.bool b456)) ∧
                                (X.Kept L382 w450 w455) ∧
                                (X.FactsW x411 w455 (L382)) ∧
                                if (false || (!b456)) = true then
                                 R (.returned (.bool false)) w455
                                else
                                 (([(.int .u8 a_0), (.int .u32 a_1), (.slice (a_2) a_2l a_2c)] : List Value) = [(.int .u8 a_0), (.int .u32 a_1), (.slice (a_2) a_2l a_2c)]) ∧
                                 (x25 (IntKind.wrap .i64 (n27 + 1)) w455 (L382)) ∧
                                 Nat.le ((x26 (IntKind.wrap .i64 (n27 + 1)) w455) + 1) (x26 n27 w28)
                           else
                            R (.returned (.bool false)) w437
                       else
                        R (.returned (.bool false)) w409
                     else
                      ∃ x404 : X.Facts, (X.FactsW x404 w400 (L382)) ∧
                      (∀ x405 : Addr × List Value, (x405 ∈ x402) →
                       x405 ∈ x404) ∧
                      R (.returned (.bool false)) w400
                  else
                   ∃ x388 : X.Facts, (X.FactsW x388 w384 (L382)) ∧
                   (∀ x389 : Addr × List Value, (x389 ∈ x386) →
                    x389 ∈ x388) ∧
                   ∃ x390 : X.Facts, (X.FactsW x390 w384 (L382)) ∧
                   (∀ x391 : Addr × List Value, (x391 ∈ x388) →
                    x391 ∈ x390) ∧
                   ∃ x392 : X.Facts, (X.FactsW x392 w384 (L382)) ∧
                   (∀ x393 : Addr × List Value, (x393 ∈ x390) →
                    x393 ∈ x392) ∧
                   R (.returned (.bool false)) w384
           else
            if (n31 == 3) = true then
             ∀ w225 : World, ∀ L226 : List Nat, (X.Hid (L29) w28 w225) →
             (X.NewL (w).heap.size (L29) w28 w225 L226) →
             X.CallX Try.prog 31 #[(.slice (q38) k39 k40)] w225 fun e227 w228 =>
              ∃ q229 : Option Addr, ∃ k230 : Nat, ∃ k231 : Nat, (e227 = .returned (.slice (q229) k230 k231)) ∧
              (X.Kept L226 w225 w228) ∧
              X.CallX Try.prog 30 #[(.pointer (q21)), (.slice (q229) k230 k231)] w228 fun e232 w233 =>
               ∃ q234 : Option Addr, ∃ k235 : Nat, ∃ k236 : Nat, ∃ q237 : Option Addr, ∃ k238 : Nat, ∃ k239 : Nat, ∃ b240 : Bool, (e232 = .returned (.tuple #[(.agg #[(.slice (q234) k235 k236), (.slice (q237) k238 k239)]), (.bool b240)])) ∧
               (X.Kept L226 w228 w233) ∧
               ∀ w241 : World, ∀ L242 : List Nat, (X.Hid (L226) w233 w241) →
               (X.NewL (w).heap.size (L226) w233 w241 L242) →
               X.CallX Try.prog 32 #[(.pointer (q24)), (.slice (q38) k39 k40)] w241 fun e243 w244 =>
                ∃ q245 : Option Addr, ∃ k246 : Nat, ∃ k247 : Nat, ∃ q248 : Option Addr, ∃ k249 : Nat, ∃ k250 : Nat, ∃ b251 : Bool, (e243 = .returned (.tuple #[(.agg #[(.slice (q245) k246 k247), (.slice (q248) k249 k250)]), (.bool b251)])) ∧
                (X.Kept L242 w241 w244) ∧
                ∃ x252 : X.Facts, (X.FactsW x252 w244 (L242)) ∧
                ∀ w253 : World, ∀ L254 : List Nat, (X.Hid (L242) w244 w253) →
                (X.NewL (w).heap.size (L242) w244 w253 L254) →
                X.CallX Try.prog 19 #[(.agg #[(.slice (q234) k235 k236), (.slice (q237) k238 k239)])] w253 fun e255 w256 =>
                 ∃ q257 : Option Addr, ∃ k258 : Nat, ∃ k259 : Nat, ∃ q260 : Option Addr, ∃ k261 : Nat, ∃ k262 : Nat, (e255 = .returned (.agg #[(.slice (q257) k258 k259), (.slice (q260) k261 k262)])) ∧
                 (X.Kept L254 w253 w256) ∧
                 (X.FactsW x252 w256 (L254)) ∧
                 X.CallX Try.prog 18 #[(.agg #[(.slice (q257) k258 k259), (.slice (q260) k261 k262)]), (.agg #[(.slice (q245) k246 k247), (.slice (q248) k249 k250)])] w256 fun e263 w264 =>
                  ∃ b265 : Bool, (e263 = .returned (.bool b265)) ∧
                  (X.Kept L254 w256 w264) ∧
                  (X.FactsW x252 w264 (L254)) ∧
                  ∃ x266 : X.Facts, (X.FactsW x266 w264 (L254)) ∧
                  if ((!(b265 && (b240 == b251))) == false) = true then
                   X.onSome (q24) fun p276 =>
                   ∃ n277 : Int, (((p276.add 4), [(.int .i64 n277)]) ∈ x266) ∧
                   ∀ w278 : World, ∀ L279 : List Nat, (X.Hid (L254) w264 w278) →
                   (X.NewL (w).heap.size (L254) w264 w278 L279) →
                   X.CallX Try.prog 35 #[(.pointer (q21))] w278 fun e280 w281 =>
                    ∃ n282 : Int, (e280 = .returned (.int .i64 n282)) ∧
                    (X.Kept L279 w278 w281) ∧
                    (X.FactsW x266 w281 (L279)) ∧
                    ∃ x283 : X.Facts, (X.FactsW x283 w281 (L279)) ∧
                    (∀ x284 : Addr × List Value, (x284 ∈ x266) →
                     x284 ∈ x283) ∧
                    if ((false || (n282 != n277)) == false) = true then
                     X.CallX Try.prog 36 #[(.pointer (q21))] w281 fun e291 w292 =>
                      ∃ b293 : Bool, (e291 = .returned (.bool b293)) ∧
                      (X.Kept L279 w281 w292) ∧
                      (X.FactsW x283 w292 (L279)) ∧
                      ∃ x294 : X.Facts, (X.FactsW x294 w292 (L279)) ∧
                      (∀ x295 : Addr × List Value, (x295 ∈ x283) →
                       x295 ∈ x294) ∧
                      X.CallX Try.prog 37 #[(.pointer (q24))] w292 fun e296 w297 =>
                       ∃ b298 : Bool, (e296 = .returned (.bool b298)) ∧
                       (X.Kept L279 w292 w297) ∧
                       (X.FactsW x294 w297 (L279)) ∧
                       ∃ x299 : X.Facts, (X.FactsW x299 w297 (L279)) ∧
                       (∀ x300 : Addr × List Value, (x300 ∈ x294) →
                        x300 ∈ x299) ∧
                       if ((false || (!(b293 == b298))) == false) = true then
                        X.onSome (q24) fun p303 =>
                        ∃ n304 : Int, (((p303.add 3), [(.int .u64 n304)]) ∈ x299) ∧
                        X.CallX Try.prog 38 #[(.pointer (q21))] w297 fun e305 w306 =>
                         ∃ n307 : Int, (e305 = .returned (.int .u64 n307)) ∧
                         (X.Kept L279 w297 w306) ∧
                         (X.FactsW x299 w306 (L279)) ∧
                         ∃ x308 : X.Facts, (X.FactsW x308 w306 (L279)) ∧
                         (∀ x309 : Addr × List Value, (x309 ∈ x299) →
                          x309 ∈ x308) ∧
                         if ((false || (n307 != n304)) == false) = true then
                          X.onSome (q24) fun p310 =>
                          ∃ q311 : Option Addr, ∃ k312 : Nat, ∃ k313 : Nat, ∃ q314 : Option Addr, ∃ k315 : Nat, ∃ k316 : Nat, (((p310.add 11), [(.slice (q311) k312 k313), (.slice (q314) k315 k316)]) ∈ x308) ∧
                          X.CallX Try.prog 39 #[(.pointer (q21))] w306 fun e317 w318 =>
                           ∃ q319 : Option Addr, ∃ k320 : Nat, ∃ k321 : Nat, ∃ q322 : Option Addr, ∃ k323 : Nat, ∃ k324 : Nat, (e317 = .returned (.agg #[(.slice (q319) k320 k321), (.slice (q322) k323 k324)])) ∧
                           (X.Kept L279 w306 w318) ∧
                           (X.FactsW x308 w318 (L279)) ∧
                           X.CallX Try.prog 19 #[(.agg #[(.slice (q319) k320 k321), (.slice (q322) k323 k324)])] w318 fun e325 w326 =>
                            ∃ q327 : Option Addr, ∃ k328 : Nat, ∃ k329 : Nat, ∃ q330 : Option Addr, ∃ k331 : Nat, ∃ k332 : Nat, (e325 = .returned (.agg #[(.slice (q327) k328 k329), (.slice (q330) k331 k332)])) ∧
                            (X.Kept L279 w318 w326) ∧
                            (X.FactsW x308 w326 (L279)) ∧
                            X.CallX Try.prog 18 #[(.agg #[(.slice (q327) k328 k329), (.slice (q330) k331 k332)]), (.agg #[(.slice (q311) k312 k313), (.slice (q314) k315 k316)])] w326 fun e333 w334 =>
                             ∃ b335 : Bool, (e333 = .returned (.bool b335)) ∧
                             (X.Kept L279 w326 w334) ∧
                             (X.FactsW x308 w334 (L279)) ∧
                             if ((false || (!b335)) == false) = true then
                              X.CallX Try.prog 42 #[(.pointer (q21))] w334 fun e336 w337 =>
                               ∃ q338 : Option Addr, ∃ k339 : Nat, ∃ k340 : Nat, (e336 = .returned (.slice (q338) k339 k340)) ∧
                               (X.Kept L279 w334 w337) ∧
                               (X.FactsW x308 w337 (L279)) ∧
                               X.CallX Try.prog 41 #[(.slice (q338) k339 k340)] w337 fun e341 w342 =>
                                ∃ q343 : Option Addr, ∃ k344 : Nat, ∃ k345 : Nat, (e341 = .returned (.slice (q343) k344 k345)) ∧
                                (X.Kept L279 w337 w342) ∧
                                (X.FactsW x308 w342 (L279)) ∧
                                X.CallX Try.prog 43 #[(.pointer (q24))] w342 fun e346 w347 =>
                                 ∃ q348 : Option Addr, ∃ k349 : Nat, ∃ k350 : Nat, (e346 = .returned (.slice (q348) k349 k350)) ∧
                                 (X.Kept L279 w342 w347) ∧
                                 (X.FactsW x308 w347 (L279)) ∧
                                 X.CallX Try.prog 40 #[(.slice (q343) k344 k345), (.slice (q348) k349 k350)] w347 fun e351 w352 =>
                                  ∃ b353 : Bool, (e351 = .returned (.bool b353)) ∧
                                  (X.Kept L279 w347 w352) ∧
                                  (X.FactsW x308 w352 (L279)) ∧
                                  if (false || (!b353)) = true then
                                   R (.returned (.bool false)) w352
                                  else
                                   (([(.int .u8 a_0), (.int .u32 a_1), (.slice (a_2) a_2l a_2c)] : List Value) = [(.int .u8 a_0), (.int .u32 a_1), (.slice (a_2) a_2l a_2c)]) ∧
                                   (x25 (IntKind.wrap .i64 (n27 + 1)) w352 (L279)) ∧
                                   Nat.le ((x26 (IntKind.wrap .i64 (n27 + 1)) w352) + 1) (x26 n27 w28)
                             else
                              R (.returned (.bool false)) w334
                         else
                          R (.returned (.bool false)) w306
                       else
                        ∃ x301 : X.Facts, (X.FactsW x301 w297 (L279)) ∧
                        (∀ x302 : Addr × List Value, (x302 ∈ x299) →
                         x302 ∈ x301) ∧
                        R (.returned (.bool false)) w297
                    else
                     ∃ x285 : X.Facts, (X.FactsW x285 w281 (L279)) ∧
                     (∀ x286 : Addr × List Value, (x286 ∈ x283) →
                      x286 ∈ x285) ∧
                     ∃ x287 : X.Facts, (X.FactsW x287 w281 (L279)) ∧
                     (∀ x288 : Addr × List Value, (x288 ∈ x285) →
                      x288 ∈ x287) ∧
                     ∃ x289 : X.Facts, (X.FactsW x289 w281 (L279)) ∧
                     (∀ x290 : Addr × List Value, (x290 ∈ x287) →
                      x290 ∈ x289) ∧
                     R (.returned (.bool false)) w281
                  else
                   ∃ x267 : X.Facts, (X.FactsW x267 w264 (L254)) ∧
                   (∀ x268 : Addr × List Value, (x268 ∈ x266) →
                    x268 ∈ x267) ∧
                   ∃ x269 : X.Facts, (X.FactsW x269 w264 (L254)) ∧
                   (∀ x270 : Addr × List Value, (x270 ∈ x267) →
                    x270 ∈ x269) ∧
                   ∃ x271 : X.Facts, (X.FactsW x271 w264 (L254)) ∧
                   (∀ x272 : Addr × List Value, (x272 ∈ x269) →
                    x272 ∈ x271) ∧
                   ∃ x273 : X.Facts, (X.FactsW x273 w264 (L254)) ∧
                   (∀ x274 : Addr × List Value, (x274 ∈ x271) →
                    x274 ∈ x273) ∧
                   ∀ w275 : World, (X.Hid (L254) w264 w275) →
                   R (.returned (.bool false)) w275
            else
             if (n31 == 4) = true then
              ∃ x124 : X.Facts, (X.FactsW x124 w28 (L29)) ∧
              ∀ w125 : World, ∀ L126 : List Nat, (X.Hid (L29) w28 w125) →
              (X.NewL (w).heap.size (L29) w28 w125 L126) →
              X.CallX Try.prog 27 #[(.agg #[(.int .u8 n33), (.int .u16 n34)])] w125 fun e127 w128 =>
               ∃ n129 : Int, ∃ n130 : Int, (e127 = .returned (.agg #[(.int .u8 n129), (.int .u16 n130)])) ∧
               (X.Kept L126 w125 w128) ∧
               (X.FactsW x124 w128 (L126)) ∧
               X.CallX Try.prog 33 #[(.pointer (q21)), (.agg #[(.int .u8 n129), (.int .u16 n130)])] w128 fun e131 w132 =>
                ∃ b133 : Bool, (e131 = .returned (.bool b133)) ∧
                (X.Kept L126 w128 w132) ∧
                (X.FactsW x124 w132 (L126)) ∧
                X.CallX Try.prog 34 #[(.pointer (q24)), (.agg #[(.int .u8 n33), (.int .u16 n34)])] w132 fun e134 w135 =>
                 ∃ b136 : Bool, (e134 = .returned (.bool b136)) ∧
                 (X.Kept L126 w132 w135) ∧
                 (X.FactsW x124 w135 (L126)) ∧
                 ∃ x137 : X.Facts, (X.FactsW x137 w135 (L126)) ∧
                 if ((!(b133 == b136)) == false) = true then
                  X.onSome (q24) fun p147 =>
                  ∃ n148 : Int, (((p147.add 4), [(.int .i64 n148)]) ∈ x137) ∧
                  ∀ w149 : World, ∀ L150 : List Nat, (X.Hid (L126) w135 w149) →
                  (X.NewL (w).heap.size (L126) w135 w149 L150) →
                  X.CallX Try.prog 35 #[(.pointer (q21))] w149 fun e151 w152 =>
                   ∃ n153 : Int, (e151 = .returned (.int .i64 n153)) ∧
                   (X.Kept L150 w149 w152) ∧
                   (X.FactsW x137 w152 (L150)) ∧
                   ∃ x154 : X.Facts, (X.FactsW x154 w152 (L150)) ∧
                   (∀ x155 : Addr × List Value, (x155 ∈ x137) →
                    x155 ∈ x154) ∧
                   if ((false || (n153 != n148)) == false) = true then
                    X.CallX Try.prog 36 #[(.pointer (q21))] w152 fun e162 w163 =>
                     ∃ b164 : Bool, (e162 = .returned (.bool b164)) ∧
                     (X.Kept L150 w152 w163) ∧
                     (X.FactsW x154 w163 (L150)) ∧
                     ∃ x165 : X.Facts, (X.FactsW x165 w163 (L150)) ∧
                     (∀ x166 : Addr × List Value, (x166 ∈ x154) →
                      x166 ∈ x165) ∧
                     X.CallX Try.prog 37 #[(.pointer (q24))] w163 fun e167 w168 =>
                      ∃ b169 : Bool, (e167 = .returned (.bool b169)) ∧
                      (X.Kept L150 w163 w168) ∧
                      (X.FactsW x165 w168 (L150)) ∧
                      ∃ x170 : X.Facts, (X.FactsW x170 w168 (L150)) ∧
                      (∀ x171 : Addr × List Value, (x171 ∈ x165) →
                       x171 ∈ x170) ∧
                      if ((false || (!(b164 == b169))) == false) = true then
                       X.onSome (q24) fun p174 =>
                       ∃ n175 : Int, (((p174.add 3), [(.int .u64 n175)]) ∈ x170) ∧
                       X.CallX Try.prog 38 #[(.pointer (q21))] w168 fun e176 w177 =>
                        ∃ n178 : Int, (e176 = .returned (.int .u64 n178)) ∧
                        (X.Kept L150 w168 w177) ∧
                        (X.FactsW x170 w177 (L150)) ∧
                        ∃ x179 : X.Facts, (X.FactsW x179 w177 (L150)) ∧
                        (∀ x180 : Addr × List Value, (x180 ∈ x170) →
                         x180 ∈ x179) ∧
                        if ((false || (n178 != n175)) == false) = true then
                         X.onSome (q24) fun p181 =>
                         ∃ q182 : Option Addr, ∃ k183 : Nat, ∃ k184 : Nat, ∃ q185 : Option Addr, ∃ k186 : Nat, ∃ k187 : Nat, (((p181.add 11), [(.slice (q182) k183 k184), (.slice (q185) k186 k187)]) ∈ x179) ∧
                         X.CallX Try.prog 39 #[(.pointer (q21))] w177 fun e188 w189 =>
                          ∃ q190 : Option Addr, ∃ k191 : Nat, ∃ k192 : Nat, ∃ q193 : Option Addr, ∃ k194 : Nat, ∃ k195 : Nat, (e188 = .returned (.agg #[(.slice (q190) k191 k192), (.slice (q193) k194 k195)])) ∧
                          (X.Kept L150 w177 w189) ∧
                          (X.FactsW x179 w189 (L150)) ∧
                          X.CallX Try.prog 19 #[(.agg #[(.slice (q190) k191 k192), (.slice (q193) k194 k195)])] w189 fun e196 w197 =>
                           ∃ q198 : Option Addr, ∃ k199 : Nat, ∃ k200 : Nat, ∃ q201 : Option Addr, ∃ k202 : Nat, ∃ k203 : Nat, (e196 = .returned (.agg #[(.slice (q198) k199 k200), (.slice (q201) k202 k203)])) ∧
                           (X.Kept L150 w189 w197) ∧
                           (X.FactsW x179 w197 (L150)) ∧
                           X.CallX Try.prog 18 #[(.agg #[(.slice (q198) k199 k200), (.slice (q201) k202 k203)]), (.agg #[(.slice (q182) k183 k184), (.slice (q185) k186 k187)])] w197 fun e204 w205 =>
                            ∃ b206 : Bool, (e204 = .returned (.bool b206)) ∧
                            (X.Kept L150 w197 w205) ∧
                            (X.FactsW x179 w205 (L150)) ∧
                            if ((false || (!b206)) == false) = true then
                             X.CallX Try.prog 42 #[(.pointer (q21))] w205 fun e207 w208 =>
                              ∃ q209 : Option Addr, ∃ k210 : Nat, ∃ k211 : Nat, (e207 = .returned (.slice (q209) k210 k211)) ∧
                              (X.Kept L150 w205 w208) ∧
                              (X.FactsW x179 w208 (L150)) ∧
                              X.CallX Try.prog 41 #[(.slice (q209) k210 k211)] w208 fun e212 w213 =>
                               ∃ q214 : Option Addr, ∃ k215 : Nat, ∃ k216 : Nat, (e212 = .returned (.slice (q214) k215 k216)) ∧
                               (X.Kept L150 w208 w213) ∧
                               (X.FactsW x179 w213 (L150)) ∧
                               X.CallX Try.prog 43 #[(.pointer (q24))] w213 fun e217 w218 =>
                                ∃ q219 : Option Addr, ∃ k220 : Nat, ∃ k221 : Nat, (e217 = .returned (.slice (q219) k220 k221)) ∧
                                (X.Kept L150 w213 w218) ∧
                                (X.FactsW x179 w218 (L150)) ∧
                                X.CallX Try.prog 40 #[(.slice (q214) k215 k216), (.slice (q219) k220 k221)] w218 fun e222 w223 =>
                                 ∃ b224 : Bool, (e222 = .returned (.bool b224)) ∧
                                 (X.Kept L150 w218 w223) ∧
                                 (X.FactsW x179 w223 (L150)) ∧
                                 if (false || (!b224)) = true then
                                  R (.returned (.bool false)) w223
                                 else
                                  (([(.int .u8 a_0), (.int .u32 a_1), (.slice (a_2) a_2l a_2c)] : List Value) = [(.int .u8 a_0), (.int .u32 a_1), (.slice (a_2) a_2l a_2c)]) ∧
                                  (x25 (IntKind.wrap .i64 (n27 + 1)) w223 (L150)) ∧
                                  Nat.le ((x26 (IntKind.wrap .i64 (n27 + 1)) w223) + 1) (x26 n27 w28)
                            else
                             R (.returned (.bool false)) w205
                        else
                         R (.returned (.bool false)) w177
                      else
                       ∃ x172 : X.Facts, (X.FactsW x172 w168 (L150)) ∧
                       (∀ x173 : Addr × List Value, (x173 ∈ x170) →
                        x173 ∈ x172) ∧
                       R (.returned (.bool false)) w168
                   else
                    ∃ x156 : X.Facts, (X.FactsW x156 w152 (L150)) ∧
                    (∀ x157 : Addr × List Value, (x157 ∈ x154) →
                     x157 ∈ x156) ∧
                    ∃ x158 : X.Facts, (X.FactsW x158 w152 (L150)) ∧
                    (∀ x159 : Addr × List Value, (x159 ∈ x156) →
                     x159 ∈ x158) ∧
                    ∃ x160 : X.Facts, (X.FactsW x160 w152 (L150)) ∧
                    (∀ x161 : Addr × List Value, (x161 ∈ x158) →
                     x161 ∈ x160) ∧
                    R (.returned (.bool false)) w152
                 else
                  ∃ x138 : X.Facts, (X.FactsW x138 w135 (L126)) ∧
                  (∀ x139 : Addr × List Value, (x139 ∈ x137) →
                   x139 ∈ x138) ∧
                  ∃ x140 : X.Facts, (X.FactsW x140 w135 (L126)) ∧
                  (∀ x141 : Addr × List Value, (x141 ∈ x138) →
                   x141 ∈ x140) ∧
                  ∃ x142 : X.Facts, (X.FactsW x142 w135 (L126)) ∧
                  (∀ x143 : Addr × List Value, (x143 ∈ x140) →
                   x143 ∈ x142) ∧
                  ∃ x144 : X.Facts, (X.FactsW x144 w135 (L126)) ∧
                  (∀ x145 : Addr × List Value, (x145 ∈ x142) →
                   x145 ∈ x144) ∧
                  ∀ w146 : World, (X.Hid (L126) w135 w146) →
                  R (.returned (.bool false)) w146
             else
              ∃ x45 : X.Facts, (X.FactsW x45 w28 (L29)) ∧
              X.onSome (q24) fun p46 =>
              ∃ n47 : Int, (((p46.add 4), [(.int .i64 n47)]) ∈ x45) ∧
              ∀ w48 : World, ∀ L49 : List Nat, (X.Hid (L29) w28 w48) →
              (X.NewL (w).heap.size (L29) w28 w48 L49) →
              X.CallX Try.prog 35 #[(.pointer (q21))] w48 fun e50 w51 =>
               ∃ n52 : Int, (e50 = .returned (.int .i64 n52)) ∧
               (X.Kept L49 w48 w51) ∧
               (X.FactsW x45 w51 (L49)) ∧
               ∃ x53 : X.Facts, (X.FactsW x53 w51 (L49)) ∧
               (∀ x54 : Addr × List Value, (x54 ∈ x45) →
                x54 ∈ x53) ∧
               if ((false || (n52 != n47)) == false) = true then
                X.CallX Try.prog 36 #[(.pointer (q21))] w51 fun e61 w62 =>
                 ∃ b63 : Bool, (e61 = .returned (.bool b63)) ∧
                 (X.Kept L49 w51 w62) ∧
                 (X.FactsW x53 w62 (L49)) ∧
                 ∃ x64 : X.Facts, (X.FactsW x64 w62 (L49)) ∧
                 (∀ x65 : Addr × List Value, (x65 ∈ x53) →
                  x65 ∈ x64) ∧
                 X.CallX Try.prog 37 #[(.pointer (q24))] w62 fun e66 w67 =>
                  ∃ b68 : Bool, (e66 = .returned (.bool b68)) ∧
                  (X.Kept L49 w62 w67) ∧
                  (X.FactsW x64 w67 (L49)) ∧
                  ∃ x69 : X.Facts, (X.FactsW x69 w67 (L49)) ∧
                  (∀ x70 : Addr × List Value, (x70 ∈ x64) →
                   x70 ∈ x69) ∧
                  if ((false || (!(b63 == b68))) == false) = true then
                   X.onSome (q24) fun p73 =>
                   ∃ n74 : Int, (((p73.add 3), [(.int .u64 n74)]) ∈ x69) ∧
                   X.CallX Try.prog 38 #[(.pointer (q21))] w67 fun e75 w76 =>
                    ∃ n77 : Int, (e75 = .returned (.int .u64 n77)) ∧
                    (X.Kept L49 w67 w76) ∧
                    (X.FactsW x69 w76 (L49)) ∧
                    ∃ x78 : X.Facts, (X.FactsW x78 w76 (L49)) ∧
                    (∀ x79 : Addr × List Value, (x79 ∈ x69) →
                     x79 ∈ x78) ∧
                    if ((false || (n77 != n74)) == false) = true then
                     X.onSome (q24) fun p80 =>
                     ∃ q81 : Option Addr, ∃ k82 : Nat, ∃ k83 : Nat, ∃ q84 : Option Addr, ∃ k85 : Nat, ∃ k86 : Nat, (((p80.add 11), [(.slice (q81) k82 k83), (.slice (q84) k85 k86)]) ∈ x78) ∧
                     X.CallX Try.prog 39 #[(.pointer (q21))] w76 fun e87 w88 =>
                      ∃ q89 : Option Addr, ∃ k90 : Nat, ∃ k91 : Nat, ∃ q92 : Option Addr, ∃ k93 : Nat, ∃ k94 : Nat, (e87 = .returned (.agg #[(.slice (q89) k90 k91), (.slice (q92) k93 k94)])) ∧
                      (X.Kept L49 w76 w88) ∧
                      (X.FactsW x78 w88 (L49)) ∧
                      X.CallX Try.prog 19 #[(.agg #[(.slice (q89) k90 k91), (.slice (q92) k93 k94)])] w88 fun e95 w96 =>
                       ∃ q97 : Option Addr, ∃ k98 : Nat, ∃ k99 : Nat, ∃ q100 : Option Addr, ∃ k101 : Nat, ∃ k102 : Nat, (e95 = .returned (.agg #[(.slice (q97) k98 k99), (.slice (q100) k101 k102)])) ∧
                       (X.Kept L49 w88 w96) ∧
                       (X.FactsW x78 w96 (L49)) ∧
                       X.CallX Try.prog 18 #[(.agg #[(.slice (q97) k98 k99), (.slice (q100) k101 k102)]), (.agg #[(.slice (q81) k82 k83), (.slice (q84) k85 k86)])] w96 fun e103 w104 =>
                        ∃ b105 : Bool, (e103 = .returned (.bool b105)) ∧
                        (X.Kept L49 w96 w104) ∧
                        (X.FactsW x78 w104 (L49)) ∧
                        if ((false || (!b105)) == false) = true then
                         X.CallX Try.prog 42 #[(.pointer (q21))] w104 fun e106 w107 =>
                          ∃ q108 : Option Addr, ∃ k109 : Nat, ∃ k110 : Nat, (e106 = .returned (.slice (q108) k109 k110)) ∧
                          (X.Kept L49 w104 w107) ∧
                          (X.FactsW x78 w107 (L49)) ∧
                          X.CallX Try.prog 41 #[(.slice (q108) k109 k110)] w107 fun e111 w112 =>
                           ∃ q113 : Option Addr, ∃ k114 : Nat, ∃ k115 : Nat, (e111 = .returned (.slice (q113) k114 k115)) ∧
                           (X.Kept L49 w107 w112) ∧
                           (X.FactsW x78 w112 (L49)) ∧
                           X.CallX Try.prog 43 #[(.pointer (q24))] w112 fun e116 w117 =>
                            ∃ q118 : Option Addr, ∃ k119 : Nat, ∃ k120 : Nat, (e116 = .returned (.slice (q118) k119 k120)) ∧
                            (X.Kept L49 w112 w117) ∧
                            (X.FactsW x78 w117 (L49)) ∧
                            X.CallX Try.prog 40 #[(.slice (q113) k114 k115), (.slice (q118) k119 k120)] w117 fun e121 w122 =>
                             ∃ b123 : Bool, (e121 = .returned (.bool b123)) ∧
                             (X.Kept L49 w117 w122) ∧
                             (X.FactsW x78 w122 (L49)) ∧
                             if (false || (!b123)) = true then
                              R (.returned (.bool false)) w122
                             else
                              (([(.int .u8 a_0), (.int .u32 a_1), (.slice (a_2) a_2l a_2c)] : List Value) = [(.int .u8 a_0), (.int .u32 a_1), (.slice (a_2) a_2l a_2c)]) ∧
                              (x25 (IntKind.wrap .i64 (n27 + 1)) w122 (L49)) ∧
                              Nat.le ((x26 (IntKind.wrap .i64 (n27 + 1)) w122) + 1) (x26 n27 w28)
                        else
                         R (.returned (.bool false)) w104
                    else
                     R (.returned (.bool false)) w76
                  else
                   ∃ x71 : X.Facts, (X.FactsW x71 w67 (L49)) ∧
                   (∀ x72 : Addr × List Value, (x72 ∈ x69) →
                    x72 ∈ x71) ∧
                   R (.returned (.bool false)) w67
               else
                ∃ x55 : X.Facts, (X.FactsW x55 w51 (L49)) ∧
                (∀ x56 : Addr × List Value, (x56 ∈ x53) →
                 x56 ∈ x55) ∧
                ∃ x57 : X.Facts, (X.FactsW x57 w51 (L49)) ∧
                (∀ x58 : Addr × List Value, (x58 ∈ x55) →
                 x58 ∈ x57) ∧
                ∃ x59 : X.Facts, (X.FactsW x59 w51 (L49)) ∧
                (∀ x60 : Addr × List Value, (x60 ∈ x57) →
                 x60 ∈ x59) ∧
                R (.returned (.bool false)) w51
          else
           R (.returned (.bool true)) w28
   else
    X.CallX Try.prog 9 #[] w4 fun e6 w7 =>
     ∃ b8 : Bool, (e6 = .returned (.bool b8)) ∧
     (X.Kept L2 w4 w7) ∧
     R (.returned (.bool b8)) w7) :
    Calls Try.prog 4 #[.agg #[.int .u8 a_0, .int .u32 a_1, .slice a_2 a_2l a_2c], .int .u64 b, .slice c cl cc] w R :=
  X.calls_of { isLoc := [3, 10, 12, 14], sym := [], loops := [(8, .inv [(9, .int .i64)] [] true)], joins := [] } Try.func4 (by kernel_rfl) h
end Go.Proofs
