import Derived.Test.YtjphfelmaingjaaGreatXFn
import Derived.Test.YtjphfelmaingjaaGreatProg
set_option maxRecDepth 100000
set_option linter.unusedVariables false
/- The verification conditions of this seat's functions, as the engine has them: printed by a program of the bench; checked by the kernel. -/
namespace Go.Proofs
open Go
theorem x_Wmsg (a : Addr) (b_0 b_1 b_2 b_3 b_4 b_5 b_6 b_7 b_8 b_9 b_10 b_11 b_12 b_13 b_14 b_15 b_16 b_17 b_18 : Int) (b_19 : Option Addr) (b_19l b_19c : Nat) (b_20 : Int) (b_21 : ByteArray) (b_22 b_23 : Int) (b_24 : Option Addr) (b_24l b_24c : Nat) (b_25 b_26 : Int) (b_27 : Bool) (b_28 : Option Addr) (b_28l b_28c : Nat) (b_29 : Option Addr) (b_29l b_29c : Nat) (b_30 : Option Addr) (b_30l b_30c : Nat) (w : World) (R : Ending → World → Prop) (h :
 if (b_0 == 0) = true then
 ∃ x502 : X.Facts, (X.FactsW x502 w []) ∧
 ∀ w503 : World, ∀ L504 : List Nat, (X.Hid [] w w503) →
 (X.NewL w.heap.size [] w w503 L504) →
 X.CallX Tryz.prog 20 #[(.pointer (some (a.add 0))), .int .u8 b_1] w503 fun e505 w506 =>
 (e505 = .returned (.tuple #[])) ∧
 (X.Kept L504 w503 w506) ∧
 ∃ x507 : X.Facts, (X.FactsW x507 w506 L504) ∧
 ∀ w508 : World, ∀ L509 : List Nat, (X.Hid L504 w506 w508) →
 (X.NewL w.heap.size L504 w506 w508 L509) →
 X.CallX Tryz.prog 59 #[(.pointer (some (a.add 0))), (.agg #[.int .u8 b_9, .int .u16 b_10, .int .u32 b_11, .int .u8 b_12, .int .u8 b_13, .int .u8 b_14, .int .u8 b_15, .int .u8 b_16, .int .u8 b_17, .int .u8 b_18])] w508 fun e510 w511 =>
 (e510 = .returned (.tuple #[])) ∧
 (X.Kept L509 w508 w511) ∧
 ∃ x512 : X.Facts, (X.FactsW x512 w511 L509) ∧
 ∀ w513 : World, ∀ L514 : List Nat, (X.Hid L509 w511 w513) →
 (X.NewL w.heap.size L509 w511 w513 L514) →
 X.CallX Tryz.prog 60 #[(.pointer (some (a.add 0))), .int .u64 (IntKind.wrap .u64 b_6)] w513 fun e515 w516 =>
 (e515 = .returned (.tuple #[])) ∧
 (X.Kept L514 w513 w516) ∧
 (X.FactsW x512 w516 L514) ∧
 ∃ x517 : X.Facts, (X.FactsW x517 w516 L514) ∧
 ∀ w518 : World, ∀ L519 : List Nat, (X.Hid L514 w516 w518) →
 (X.NewL w.heap.size L514 w516 w518 L519) →
 X.CallX Tryz.prog 61 #[(.pointer (some (a.add 0))), .slice b_19 b_19l b_19c] w518 fun e520 w521 =>
 (e520 = .returned (.tuple #[])) ∧
 (X.Kept L519 w518 w521) ∧
 R (.returned (.tuple #[])) w521
 else
 if (b_0 == 1) = true then
 ∃ x487 : X.Facts, (X.FactsW x487 w []) ∧
 ∀ w488 : World, ∀ L489 : List Nat, (X.Hid [] w w488) →
 (X.NewL w.heap.size [] w w488 L489) →
 X.CallX Tryz.prog 59 #[(.pointer (some (a.add 0))), (.agg #[.int .u8 b_9, .int .u16 b_10, .int .u32 b_11, .int .u8 b_12, .int .u8 b_13, .int .u8 b_14, .int .u8 b_15, .int .u8 b_16, .int .u8 b_17, .int .u8 b_18])] w488 fun e490 w491 =>
 (e490 = .returned (.tuple #[])) ∧
 (X.Kept L489 w488 w491) ∧
 ∃ x492 : X.Facts, (X.FactsW x492 w491 L489) ∧
 ∀ w493 : World, ∀ L494 : List Nat, (X.Hid L489 w491 w493) →
 (X.NewL w.heap.size L489 w491 w493 L494) →
 X.CallX Tryz.prog 62 #[(.pointer (some (a.add 0))), (.agg #[.int .u8 b_20, .string b_21])] w493 fun e495 w496 =>
 (e495 = .returned (.tuple #[])) ∧
 (X.Kept L494 w493 w496) ∧
 ∃ x497 : X.Facts, (X.FactsW x497 w496 L494) ∧
 ∀ w498 : World, ∀ L499 : List Nat, (X.Hid L494 w496 w498) →
 (X.NewL w.heap.size L494 w496 w498 L499) →
 X.CallX Tryz.prog 63 #[(.pointer (some (a.add 0))), (.agg #[.int .u8 b_22, .int .u32 b_23, .slice b_24 b_24l b_24c])] w498 fun e500 w501 =>
 (e500 = .returned (.tuple #[])) ∧
 (X.Kept L499 w498 w501) ∧
 R (.returned (.tuple #[])) w501
 else
 if (b_0 == 2) = true then
 ∃ x477 : X.Facts, (X.FactsW x477 w []) ∧
 ∀ w478 : World, ∀ L479 : List Nat, (X.Hid [] w w478) →
 (X.NewL w.heap.size [] w w478 L479) →
 X.CallX Tryz.prog 59 #[(.pointer (some (a.add 0))), (.agg #[.int .u8 b_9, .int .u16 b_10, .int .u32 b_11, .int .u8 b_12, .int .u8 b_13, .int .u8 b_14, .int .u8 b_15, .int .u8 b_16, .int .u8 b_17, .int .u8 b_18])] w478 fun e480 w481 =>
 (e480 = .returned (.tuple #[])) ∧
 (X.Kept L479 w478 w481) ∧
 ∃ x482 : X.Facts, (X.FactsW x482 w481 L479) ∧
 ∀ w483 : World, ∀ L484 : List Nat, (X.Hid L479 w481 w483) →
 (X.NewL w.heap.size L479 w481 w483 L484) →
 X.CallX Tryz.prog 20 #[(.pointer (some (a.add 0))), .int .u8 b_2] w483 fun e485 w486 =>
 (e485 = .returned (.tuple #[])) ∧
 (X.Kept L484 w483 w486) ∧
 R (.returned (.tuple #[])) w486
 else
 if (b_0 == 3) = true then
 if (b_0 == 3) = true then
 ∃ x452 : X.Facts, (X.FactsW x452 w []) ∧
 ∀ w453 : World, ∀ L454 : List Nat, (X.Hid [] w w453) →
 (X.NewL w.heap.size [] w w453 L454) →
 X.CallX Tryz.prog 20 #[(.pointer (some (a.add 0))), .int .u8 b_1] w453 fun e455 w456 =>
 (e455 = .returned (.tuple #[])) ∧
 (X.Kept L454 w453 w456) ∧
 ∃ x457 : X.Facts, (X.FactsW x457 w456 L454) ∧
 ∀ w458 : World, ∀ L459 : List Nat, (X.Hid L454 w456 w458) →
 (X.NewL w.heap.size L454 w456 w458 L459) →
 X.CallX Tryz.prog 60 #[(.pointer (some (a.add 0))), .int .u64 (IntKind.wrap .u64 b_3)] w458 fun e460 w461 =>
 (e460 = .returned (.tuple #[])) ∧
 (X.Kept L459 w458 w461) ∧
 (X.FactsW x457 w461 L459) ∧
 ∃ x462 : X.Facts, (X.FactsW x462 w461 L459) ∧
 ∀ w463 : World, ∀ L464 : List Nat, (X.Hid L459 w461 w463) →
 (X.NewL w.heap.size L459 w461 w463 L464) →
 X.CallX Tryz.prog 60 #[(.pointer (some (a.add 0))), .int .u64 (IntKind.wrap .u64 b_4)] w463 fun e465 w466 =>
 (e465 = .returned (.tuple #[])) ∧
 (X.Kept L464 w463 w466) ∧
 (X.FactsW x462 w466 L464) ∧
 if (b_0 == 3) = true then
 ∃ x467 : X.Facts, (X.FactsW x467 w466 L464) ∧
 ∀ w468 : World, ∀ L469 : List Nat, (X.Hid L464 w466 w468) →
 (X.NewL w.heap.size L464 w466 w468 L469) →
 X.CallX Tryz.prog 60 #[(.pointer (some (a.add 0))), .int .u64 (IntKind.wrap .u64 b_5)] w468 fun e470 w471 =>
 (e470 = .returned (.tuple #[])) ∧
 (X.Kept L469 w468 w471) ∧
 (X.FactsW x467 w471 L469) ∧
 ∃ x472 : X.Facts, (X.FactsW x472 w471 L469) ∧
 ∀ w473 : World, ∀ L474 : List Nat, (X.Hid L469 w471 w473) →
 (X.NewL w.heap.size L469 w471 w473 L474) →
 X.CallX Tryz.prog 64 #[(.pointer (some (a.add 0))), .slice b_29 b_29l b_29c] w473 fun e475 w476 =>
 (e475 = .returned (.tuple #[])) ∧
 (X.Kept L474 w473 w476) ∧
 R (.returned (.tuple #[])) w476
 else
 R (.returned (.tuple #[])) w466
 else
 if (b_0 == 5) = true then
 if (b_0 == 5) = true then
 ∀ w448 : World, ∀ L449 : List Nat, (X.Hid [] w w448) →
 (X.NewL w.heap.size [] w w448 L449) →
 X.CallX Tryz.prog 65 #[.pointer (some a), (.agg #[.int .u8 b_0, .int .u8 b_1, .int .u8 b_2, .int .u32 b_3, .int .u32 b_4, .int .u32 b_5, .int .u32 b_6, .int .u64 b_7, .int .u64 b_8, .int .u8 b_9, .int .u16 b_10, .int .u32 b_11, .int .u8 b_12, .int .u8 b_13, .int .u8 b_14, .int .u8 b_15, .int .u8 b_16, .int .u8 b_17, .int .u8 b_18, .slice b_19 b_19l b_19c, .int .u8 b_20, .string b_21, .int .u8 b_22, .int .u32 b_23, .slice b_24 b_24l b_24c, .int .u8 b_25, .int .u16 b_26, .bool b_27, .slice b_28 b_28l b_28c, .slice b_29 b_29l b_29c, .slice b_30 b_30l b_30c])] w448 fun e450 w451 =>
 (e450 = .returned (.tuple #[])) ∧
 (X.Kept L449 w448 w451) ∧
 R (.returned (.tuple #[])) w451
 else
 if (b_0 == 8) = true then
 ∀ w430 : World, ∀ L431 : List Nat, (X.Hid [] w w430) →
 (X.NewL w.heap.size [] w w430 L431) →
 X.CallX Tryz.prog 65 #[.pointer (some a), (.agg #[.int .u8 b_0, .int .u8 b_1, .int .u8 b_2, .int .u32 b_3, .int .u32 b_4, .int .u32 b_5, .int .u32 b_6, .int .u64 b_7, .int .u64 b_8, .int .u8 b_9, .int .u16 b_10, .int .u32 b_11, .int .u8 b_12, .int .u8 b_13, .int .u8 b_14, .int .u8 b_15, .int .u8 b_16, .int .u8 b_17, .int .u8 b_18, .slice b_19 b_19l b_19c, .int .u8 b_20, .string b_21, .int .u8 b_22, .int .u32 b_23, .slice b_24 b_24l b_24c, .int .u8 b_25, .int .u16 b_26, .bool b_27, .slice b_28 b_28l b_28c, .slice b_29 b_29l b_29c, .slice b_30 b_30l b_30c])] w430 fun e432 w433 =>
 (e432 = .returned (.tuple #[])) ∧
 (X.Kept L431 w430 w433) ∧
 ∃ x434 : X.Facts, (X.FactsW x434 w433 L431) ∧
 ∀ w435 : World, ∀ L436 : List Nat, (X.Hid L431 w433 w435) →
 (X.NewL w.heap.size L431 w433 w435 L436) →
 X.CallX Tryz.prog 64 #[(.pointer (some (a.add 0))), .slice b_29 b_29l b_29c] w435 fun e437 w438 =>
 (e437 = .returned (.tuple #[])) ∧
 (X.Kept L436 w435 w438) ∧
 X.CallX Tryz.prog 66 #[.pointer (some a), .bool b_27] w438 fun e439 w440 =>
 (e439 = .returned (.tuple #[])) ∧
 (X.Kept L436 w438 w440) ∧
 if b_27 = true then
 ∃ x441 : X.Facts, (X.FactsW x441 w440 L436) ∧
 ∀ w442 : World, ∀ L443 : List Nat, (X.Hid L436 w440 w442) →
 (X.NewL w.heap.size L436 w440 w442 L443) →
 X.CallX Tryz.prog 60 #[(.pointer (some (a.add 0))), .int .u64 b_8] w442 fun e444 w445 =>
 (e444 = .returned (.tuple #[])) ∧
 (X.Kept L443 w442 w445) ∧
 X.CallX Tryz.prog 67 #[.pointer (some a), (.agg #[.int .u8 b_0, .int .u8 b_1, .int .u8 b_2, .int .u32 b_3, .int .u32 b_4, .int .u32 b_5, .int .u32 b_6, .int .u64 b_7, .int .u64 b_8, .int .u8 b_9, .int .u16 b_10, .int .u32 b_11, .int .u8 b_12, .int .u8 b_13, .int .u8 b_14, .int .u8 b_15, .int .u8 b_16, .int .u8 b_17, .int .u8 b_18, .slice b_19 b_19l b_19c, .int .u8 b_20, .string b_21, .int .u8 b_22, .int .u32 b_23, .slice b_24 b_24l b_24c, .int .u8 b_25, .int .u16 b_26, .bool b_27, .slice b_28 b_28l b_28c, .slice b_29 b_29l b_29c, .slice b_30 b_30l b_30c])] w445 fun e446 w447 =>
 (e446 = .returned (.tuple #[])) ∧
 (X.Kept L443 w445 w447) ∧
 R (.returned (.tuple #[])) w447
 else
 R (.returned (.tuple #[])) w440
 else
 if (b_0 == 9) = true then
 ∀ w424 : World, ∀ L425 : List Nat, (X.Hid [] w w424) →
 (X.NewL w.heap.size [] w w424 L425) →
 X.CallX Tryz.prog 65 #[.pointer (some a), (.agg #[.int .u8 b_0, .int .u8 b_1, .int .u8 b_2, .int .u32 b_3, .int .u32 b_4, .int .u32 b_5, .int .u32 b_6, .int .u64 b_7, .int .u64 b_8, .int .u8 b_9, .int .u16 b_10, .int .u32 b_11, .int .u8 b_12, .int .u8 b_13, .int .u8 b_14, .int .u8 b_15, .int .u8 b_16, .int .u8 b_17, .int .u8 b_18, .slice b_19 b_19l b_19c, .int .u8 b_20, .string b_21, .int .u8 b_22, .int .u32 b_23, .slice b_24 b_24l b_24c, .int .u8 b_25, .int .u16 b_26, .bool b_27, .slice b_28 b_28l b_28c, .slice b_29 b_29l b_29c, .slice b_30 b_30l b_30c])] w424 fun e426 w427 =>
 (e426 = .returned (.tuple #[])) ∧
 (X.Kept L425 w424 w427) ∧
 X.CallX Tryz.prog 67 #[.pointer (some a), (.agg #[.int .u8 b_0, .int .u8 b_1, .int .u8 b_2, .int .u32 b_3, .int .u32 b_4, .int .u32 b_5, .int .u32 b_6, .int .u64 b_7, .int .u64 b_8, .int .u8 b_9, .int .u16 b_10, .int .u32 b_11, .int .u8 b_12, .int .u8 b_13, .int .u8 b_14, .int .u8 b_15, .int .u8 b_16, .int .u8 b_17, .int .u8 b_18, .slice b_19 b_19l b_19c, .int .u8 b_20, .string b_21, .int .u8 b_22, .int .u32 b_23, .slice b_24 b_24l b_24c, .int .u8 b_25, .int .u16 b_26, .bool b_27, .slice b_28 b_28l b_28c, .slice b_29 b_29l b_29c, .slice b_30 b_30l b_30c])] w427 fun e428 w429 =>
 (e428 = .returned (.tuple #[])) ∧
 (X.Kept L425 w427 w429) ∧
 R (.returned (.tuple #[])) w429
 else
 if (b_0 == 10) = true then
 ∃ x414 : X.Facts, (X.FactsW x414 w []) ∧
 ∀ w415 : World, ∀ L416 : List Nat, (X.Hid [] w w415) →
 (X.NewL w.heap.size [] w w415 L416) →
 X.CallX Tryz.prog 63 #[(.pointer (some (a.add 0))), (.agg #[.int .u8 b_22, .int .u32 b_23, .slice b_24 b_24l b_24c])] w415 fun e417 w418 =>
 (e417 = .returned (.tuple #[])) ∧
 (X.Kept L416 w415 w418) ∧
 ∃ x419 : X.Facts, (X.FactsW x419 w418 L416) ∧
 ∀ w420 : World, ∀ L421 : List Nat, (X.Hid L416 w418 w420) →
 (X.NewL w.heap.size L416 w418 w420 L421) →
 X.CallX Tryz.prog 64 #[(.pointer (some (a.add 0))), .slice b_29 b_29l b_29c] w420 fun e422 w423 =>
 (e422 = .returned (.tuple #[])) ∧
 (X.Kept L421 w420 w423) ∧
 R (.returned (.tuple #[])) w423
 else
 if (b_0 == 11) = true then
 if (b_0 == 11) = true then
 ∃ x404 : X.Facts, (X.FactsW x404 w []) ∧
 ∀ w405 : World, ∀ L406 : List Nat, (X.Hid [] w w405) →
 (X.NewL w.heap.size [] w w405 L406) →
 X.CallX Tryz.prog 20 #[(.pointer (some (a.add 0))), .int .u8 b_1] w405 fun e407 w408 =>
 (e407 = .returned (.tuple #[])) ∧
 (X.Kept L406 w405 w408) ∧
 ∃ x409 : X.Facts, (X.FactsW x409 w408 L406) ∧
 ∀ w410 : World, ∀ L411 : List Nat, (X.Hid L406 w408 w410) →
 (X.NewL w.heap.size L406 w408 w410 L411) →
 X.CallX Tryz.prog 68 #[(.pointer (some (a.add 0))), (.agg #[.int .u8 b_25, .int .u16 b_26])] w410 fun e412 w413 =>
 (e412 = .returned (.tuple #[])) ∧
 (X.Kept L411 w410 w413) ∧
 R (.returned (.tuple #[])) w413
 else
 ∀ w403 : World, (X.Hid [] w w403) →
 R (.returned (.tuple #[])) w403
 else
 if (b_0 == 12) = true then
 if (b_0 == 12) = true then
 ∃ x393 : X.Facts, (X.FactsW x393 w []) ∧
 ∀ w394 : World, ∀ L395 : List Nat, (X.Hid [] w w394) →
 (X.NewL w.heap.size [] w w394 L395) →
 X.CallX Tryz.prog 20 #[(.pointer (some (a.add 0))), .int .u8 b_1] w394 fun e396 w397 =>
 (e396 = .returned (.tuple #[])) ∧
 (X.Kept L395 w394 w397) ∧
 ∃ x398 : X.Facts, (X.FactsW x398 w397 L395) ∧
 ∀ w399 : World, ∀ L400 : List Nat, (X.Hid L395 w397 w399) →
 (X.NewL w.heap.size L395 w397 w399 L400) →
 X.CallX Tryz.prog 68 #[(.pointer (some (a.add 0))), (.agg #[.int .u8 b_25, .int .u16 b_26])] w399 fun e401 w402 =>
 (e401 = .returned (.tuple #[])) ∧
 (X.Kept L400 w399 w402) ∧
 R (.returned (.tuple #[])) w402
 else
 ∀ w392 : World, (X.Hid [] w w392) →
 R (.returned (.tuple #[])) w392
 else
 if (b_0 == 13) = true then
 ∃ x382 : X.Facts, (X.FactsW x382 w []) ∧
 ∀ w383 : World, ∀ L384 : List Nat, (X.Hid [] w w383) →
 (X.NewL w.heap.size [] w w383 L384) →
 X.CallX Tryz.prog 20 #[(.pointer (some (a.add 0))), .int .u8 b_1] w383 fun e385 w386 =>
 (e385 = .returned (.tuple #[])) ∧
 (X.Kept L384 w383 w386) ∧
 ∃ x387 : X.Facts, (X.FactsW x387 w386 L384) ∧
 ∀ w388 : World, ∀ L389 : List Nat, (X.Hid L384 w386 w388) →
 (X.NewL w.heap.size L384 w386 w388 L389) →
 X.CallX Tryz.prog 68 #[(.pointer (some (a.add 0))), (.agg #[.int .u8 b_25, .int .u16 b_26])] w388 fun e390 w391 =>
 (e390 = .returned (.tuple #[])) ∧
 (X.Kept L389 w388 w391) ∧
 R (.returned (.tuple #[])) w391
 else
 ∀ w381 : World, (X.Hid [] w w381) →
 R (.returned (.tuple #[])) w381
 else
 if (b_0 == 6) = true then
 if (b_0 == 6) = true then
 ∀ w377 : World, ∀ L378 : List Nat, (X.Hid [] w w377) →
 (X.NewL w.heap.size [] w w377 L378) →
 X.CallX Tryz.prog 65 #[.pointer (some a), (.agg #[.int .u8 b_0, .int .u8 b_1, .int .u8 b_2, .int .u32 b_3, .int .u32 b_4, .int .u32 b_5, .int .u32 b_6, .int .u64 b_7, .int .u64 b_8, .int .u8 b_9, .int .u16 b_10, .int .u32 b_11, .int .u8 b_12, .int .u8 b_13, .int .u8 b_14, .int .u8 b_15, .int .u8 b_16, .int .u8 b_17, .int .u8 b_18, .slice b_19 b_19l b_19c, .int .u8 b_20, .string b_21, .int .u8 b_22, .int .u32 b_23, .slice b_24 b_24l b_24c, .int .u8 b_25, .int .u16 b_26, .bool b_27, .slice b_28 b_28l b_28c, .slice b_29 b_29l b_29c, .slice b_30 b_30l b_30c])] w377 fun e379 w380 =>
 (e379 = .returned (.tuple #[])) ∧
 (X.Kept L378 w377 w380) ∧
 R (.returned (.tuple #[])) w380
 else
 if (b_0 == 8) = true then
 ∀ w359 : World, ∀ L360 : List Nat, (X.Hid [] w w359) →
 (X.NewL w.heap.size [] w w359 L360) →
 X.CallX Tryz.prog 65 #[.pointer (some a), (.agg #[.int .u8 b_0, .int .u8 b_1, .int .u8 b_2, .int .u32 b_3, .int .u32 b_4, .int .u32 b_5, .int .u32 b_6, .int .u64 b_7, .int .u64 b_8, .int .u8 b_9, .int .u16 b_10, .int .u32 b_11, .int .u8 b_12, .int .u8 b_13, .int .u8 b_14, .int .u8 b_15, .int .u8 b_16, .int .u8 b_17, .int .u8 b_18, .slice b_19 b_19l b_19c, .int .u8 b_20, .string b_21, .int .u8 b_22, .int .u32 b_23, .slice b_24 b_24l b_24c, .int .u8 b_25, .int .u16 b_26, .bool b_27, .slice b_28 b_28l b_28c, .slice b_29 b_29l b_29c, .slice b_30 b_30l b_30c])] w359 fun e361 w362 =>
 (e361 = .returned (.tuple #[])) ∧
 (X.Kept L360 w359 w362) ∧
 ∃ x363 : X.Facts, (X.FactsW x363 w362 L360) ∧
 ∀ w364 : World, ∀ L365 : List Nat, (X.Hid L360 w362 w364) →
 (X.NewL w.heap.size L360 w362 w364 L365) →
 X.CallX Tryz.prog 64 #[(.pointer (some (a.add 0))), .slice b_29 b_29l b_29c] w364 fun e366 w367 =>
 (e366 = .returned (.tuple #[])) ∧
 (X.Kept L365 w364 w367) ∧
 X.CallX Tryz.prog 66 #[.pointer (some a), .bool b_27] w367 fun e368 w369 =>
 (e368 = .returned (.tuple #[])) ∧
 (X.Kept L365 w367 w369) ∧
 if b_27 = true then
 ∃ x370 : X.Facts, (X.FactsW x370 w369 L365) ∧
 ∀ w371 : World, ∀ L372 : List Nat, (X.Hid L365 w369 w371) →
 (X.NewL w.heap.size L365 w369 w371 L372) →
 X.CallX Tryz.prog 60 #[(.pointer (some (a.add 0))), .int .u64 b_8] w371 fun e373 w374 =>
 (e373 = .returned (.tuple #[])) ∧
 (X.Kept L372 w371 w374) ∧
 X.CallX Tryz.prog 67 #[.pointer (some a), (.agg #[.int .u8 b_0, .int .u8 b_1, .int .u8 b_2, .int .u32 b_3, .int .u32 b_4, .int .u32 b_5, .int .u32 b_6, .int .u64 b_7, .int .u64 b_8, .int .u8 b_9, .int .u16 b_10, .int .u32 b_11, .int .u8 b_12, .int .u8 b_13, .int .u8 b_14, .int .u8 b_15, .int .u8 b_16, .int .u8 b_17, .int .u8 b_18, .slice b_19 b_19l b_19c, .int .u8 b_20, .string b_21, .int .u8 b_22, .int .u32 b_23, .slice b_24 b_24l b_24c, .int .u8 b_25, .int .u16 b_26, .bool b_27, .slice b_28 b_28l b_28c, .slice b_29 b_29l b_29c, .slice b_30 b_30l b_30c])] w374 fun e375 w376 =>
 (e375 = .returned (.tuple #[])) ∧
 (X.Kept L372 w374 w376) ∧
 R (.returned (.tuple #[])) w376
 else
 R (.returned (.tuple #[])) w369
 else
 if (b_0 == 9) = true then
 ∀ w353 : World, ∀ L354 : List Nat, (X.Hid [] w w353) →
 (X.NewL w.heap.size [] w w353 L354) →
 X.CallX Tryz.prog 65 #[.pointer (some a), (.agg #[.int .u8 b_0, .int .u8 b_1, .int .u8 b_2, .int .u32 b_3, .int .u32 b_4, .int .u32 b_5, .int .u32 b_6, .int .u64 b_7, .int .u64 b_8, .int .u8 b_9, .int .u16 b_10, .int .u32 b_11, .int .u8 b_12, .int .u8 b_13, .int .u8 b_14, .int .u8 b_15, .int .u8 b_16, .int .u8 b_17, .int .u8 b_18, .slice b_19 b_19l b_19c, .int .u8 b_20, .string b_21, .int .u8 b_22, .int .u32 b_23, .slice b_24 b_24l b_24c, .int .u8 b_25, .int .u16 b_26, .bool b_27, .slice b_28 b_28l b_28c, .slice b_29 b_29l b_29c, .slice b_30 b_30l b_30c])] w353 fun e355 w356 =>
 (e355 = .returned (.tuple #[])) ∧
 (X.Kept L354 w353 w356) ∧
 X.CallX Tryz.prog 67 #[.pointer (some a), (.agg #[.int .u8 b_0, .int .u8 b_1, .int .u8 b_2, .int .u32 b_3, .int .u32 b_4, .int .u32 b_5, .int .u32 b_6, .int .u64 b_7, .int .u64 b_8, .int .u8 b_9, .int .u16 b_10, .int .u32 b_11, .int .u8 b_12, .int .u8 b_13, .int .u8 b_14, .int .u8 b_15, .int .u8 b_16, .int .u8 b_17, .int .u8 b_18, .slice b_19 b_19l b_19c, .int .u8 b_20, .string b_21, .int .u8 b_22, .int .u32 b_23, .slice b_24 b_24l b_24c, .int .u8 b_25, .int .u16 b_26, .bool b_27, .slice b_28 b_28l b_28c, .slice b_29 b_29l b_29c, .slice b_30 b_30l b_30c])] w356 fun e357 w358 =>
 (e357 = .returned (.tuple #[])) ∧
 (X.Kept L354 w356 w358) ∧
 R (.returned (.tuple #[])) w358
 else
 if (b_0 == 10) = true then
 ∃ x343 : X.Facts, (X.FactsW x343 w []) ∧
 ∀ w344 : World, ∀ L345 : List Nat, (X.Hid [] w w344) →
 (X.NewL w.heap.size [] w w344 L345) →
 X.CallX Tryz.prog 63 #[(.pointer (some (a.add 0))), (.agg #[.int .u8 b_22, .int .u32 b_23, .slice b_24 b_24l b_24c])] w344 fun e346 w347 =>
 (e346 = .returned (.tuple #[])) ∧
 (X.Kept L345 w344 w347) ∧
 ∃ x348 : X.Facts, (X.FactsW x348 w347 L345) ∧
 ∀ w349 : World, ∀ L350 : List Nat, (X.Hid L345 w347 w349) →
 (X.NewL w.heap.size L345 w347 w349 L350) →
 X.CallX Tryz.prog 64 #[(.pointer (some (a.add 0))), .slice b_29 b_29l b_29c] w349 fun e351 w352 =>
 (e351 = .returned (.tuple #[])) ∧
 (X.Kept L350 w349 w352) ∧
 R (.returned (.tuple #[])) w352
 else
 if (b_0 == 11) = true then
 if (b_0 == 11) = true then
 ∃ x333 : X.Facts, (X.FactsW x333 w []) ∧
 ∀ w334 : World, ∀ L335 : List Nat, (X.Hid [] w w334) →
 (X.NewL w.heap.size [] w w334 L335) →
 X.CallX Tryz.prog 20 #[(.pointer (some (a.add 0))), .int .u8 b_1] w334 fun e336 w337 =>
 (e336 = .returned (.tuple #[])) ∧
 (X.Kept L335 w334 w337) ∧
 ∃ x338 : X.Facts, (X.FactsW x338 w337 L335) ∧
 ∀ w339 : World, ∀ L340 : List Nat, (X.Hid L335 w337 w339) →
 (X.NewL w.heap.size L335 w337 w339 L340) →
 X.CallX Tryz.prog 68 #[(.pointer (some (a.add 0))), (.agg #[.int .u8 b_25, .int .u16 b_26])] w339 fun e341 w342 =>
 (e341 = .returned (.tuple #[])) ∧
 (X.Kept L340 w339 w342) ∧
 R (.returned (.tuple #[])) w342
 else
 ∀ w332 : World, (X.Hid [] w w332) →
 R (.returned (.tuple #[])) w332
 else
 if (b_0 == 12) = true then
 if (b_0 == 12) = true then
 ∃ x322 : X.Facts, (X.FactsW x322 w []) ∧
 ∀ w323 : World, ∀ L324 : List Nat, (X.Hid [] w w323) →
 (X.NewL w.heap.size [] w w323 L324) →
 X.CallX Tryz.prog 20 #[(.pointer (some (a.add 0))), .int .u8 b_1] w323 fun e325 w326 =>
 (e325 = .returned (.tuple #[])) ∧
 (X.Kept L324 w323 w326) ∧
 ∃ x327 : X.Facts, (X.FactsW x327 w326 L324) ∧
 ∀ w328 : World, ∀ L329 : List Nat, (X.Hid L324 w326 w328) →
 (X.NewL w.heap.size L324 w326 w328 L329) →
 X.CallX Tryz.prog 68 #[(.pointer (some (a.add 0))), (.agg #[.int .u8 b_25, .int .u16 b_26])] w328 fun e330 w331 =>
 (e330 = .returned (.tuple #[])) ∧
 (X.Kept L329 w328 w331) ∧
 R (.returned (.tuple #[])) w331
 else
 ∀ w321 : World, (X.Hid [] w w321) →
 R (.returned (.tuple #[])) w321
 else
 if (b_0 == 13) = true then
 ∃ x311 : X.Facts, (X.FactsW x311 w []) ∧
 ∀ w312 : World, ∀ L313 : List Nat, (X.Hid [] w w312) →
 (X.NewL w.heap.size [] w w312 L313) →
 X.CallX Tryz.prog 20 #[(.pointer (some (a.add 0))), .int .u8 b_1] w312 fun e314 w315 =>
 (e314 = .returned (.tuple #[])) ∧
 (X.Kept L313 w312 w315) ∧
 ∃ x316 : X.Facts, (X.FactsW x316 w315 L313) ∧
 ∀ w317 : World, ∀ L318 : List Nat, (X.Hid L313 w315 w317) →
 (X.NewL w.heap.size L313 w315 w317 L318) →
 X.CallX Tryz.prog 68 #[(.pointer (some (a.add 0))), (.agg #[.int .u8 b_25, .int .u16 b_26])] w317 fun e319 w320 =>
 (e319 = .returned (.tuple #[])) ∧
 (X.Kept L318 w317 w320) ∧
 R (.returned (.tuple #[])) w320
 else
 ∀ w310 : World, (X.Hid [] w w310) →
 R (.returned (.tuple #[])) w310
 else
 if (b_0 == 7) = true then
 ∀ w306 : World, ∀ L307 : List Nat, (X.Hid [] w w306) →
 (X.NewL w.heap.size [] w w306 L307) →
 X.CallX Tryz.prog 65 #[.pointer (some a), (.agg #[.int .u8 b_0, .int .u8 b_1, .int .u8 b_2, .int .u32 b_3, .int .u32 b_4, .int .u32 b_5, .int .u32 b_6, .int .u64 b_7, .int .u64 b_8, .int .u8 b_9, .int .u16 b_10, .int .u32 b_11, .int .u8 b_12, .int .u8 b_13, .int .u8 b_14, .int .u8 b_15, .int .u8 b_16, .int .u8 b_17, .int .u8 b_18, .slice b_19 b_19l b_19c, .int .u8 b_20, .string b_21, .int .u8 b_22, .int .u32 b_23, .slice b_24 b_24l b_24c, .int .u8 b_25, .int .u16 b_26, .bool b_27, .slice b_28 b_28l b_28c, .slice b_29 b_29l b_29c, .slice b_30 b_30l b_30c])] w306 fun e308 w309 =>
 (e308 = .returned (.tuple #[])) ∧
 (X.Kept L307 w306 w309) ∧
 R (.returned (.tuple #[])) w309
 else
 if (b_0 == 8) = true then
 ∀ w288 : World, ∀ L289 : List Nat, (X.Hid [] w w288) →
 (X.NewL w.heap.size [] w w288 L289) →
 X.CallX Tryz.prog 65 #[.pointer (some a), (.agg #[.int .u8 b_0, .int .u8 b_1, .int .u8 b_2, .int .u32 b_3, .int .u32 b_4, .int .u32 b_5, .int .u32 b_6, .int .u64 b_7, .int .u64 b_8, .int .u8 b_9, .int .u16 b_10, .int .u32 b_11, .int .u8 b_12, .int .u8 b_13, .int .u8 b_14, .int .u8 b_15, .int .u8 b_16, .int .u8 b_17, .int .u8 b_18, .slice b_19 b_19l b_19c, .int .u8 b_20, .string b_21, .int .u8 b_22, .int .u32 b_23, .slice b_24 b_24l b_24c, .int .u8 b_25, .int .u16 b_26, .bool b_27, .slice b_28 b_28l b_28c, .slice b_29 b_29l b_29c, .slice b_30 b_30l b_30c])] w288 fun e290 w291 =>
 (e290 = .returned (.tuple #[])) ∧
 (X.Kept L289 w288 w291) ∧
 ∃ x292 : X.Facts, (X.FactsW x292 w291 L289) ∧
 ∀ w293 : World, ∀ L294 : List Nat, (X.Hid L289 w291 w293) →
 (X.NewL w.heap.size L289 w291 w293 L294) →
 X.CallX Tryz.prog 64 #[(.pointer (some (a.add 0))), .slice b_29 b_29l b_29c] w293 fun e295 w296 =>
 (e295 = .returned (.tuple #[])) ∧
 (X.Kept L294 w293 w296) ∧
 X.CallX Tryz.prog 66 #[.pointer (some a), .bool b_27] w296 fun e297 w298 =>
 (e297 = .returned (.tuple #[])) ∧
 (X.Kept L294 w296 w298) ∧
 if b_27 = true then
 ∃ x299 : X.Facts, (X.FactsW x299 w298 L294) ∧
 ∀ w300 : World, ∀ L301 : List Nat, (X.Hid L294 w298 w300) →
 (X.NewL w.heap.size L294 w298 w300 L301) →
 X.CallX Tryz.prog 60 #[(.pointer (some (a.add 0))), .int .u64 b_8] w300 fun e302 w303 =>
 (e302 = .returned (.tuple #[])) ∧
 (X.Kept L301 w300 w303) ∧
 X.CallX Tryz.prog 67 #[.pointer (some a), (.agg #[.int .u8 b_0, .int .u8 b_1, .int .u8 b_2, .int .u32 b_3, .int .u32 b_4, .int .u32 b_5, .int .u32 b_6, .int .u64 b_7, .int .u64 b_8, .int .u8 b_9, .int .u16 b_10, .int .u32 b_11, .int .u8 b_12, .int .u8 b_13, .int .u8 b_14, .int .u8 b_15, .int .u8 b_16, .int .u8 b_17, .int .u8 b_18, .slice b_19 b_19l b_19c, .int .u8 b_20, .string b_21, .int .u8 b_22, .int .u32 b_23, .slice b_24 b_24l b_24c, .int .u8 b_25, .int .u16 b_26, .bool b_27, .slice b_28 b_28l b_28c, .slice b_29 b_29l b_29c, .slice b_30 b_30l b_30c])] w303 fun e304 w305 =>
 (e304 = .returned (.tuple #[])) ∧
 (X.Kept L301 w303 w305) ∧
 R (.returned (.tuple #[])) w305
 else
 R (.returned (.tuple #[])) w298
 else
 if (b_0 == 9) = true then
 ∀ w282 : World, ∀ L283 : List Nat, (X.Hid [] w w282) →
 (X.NewL w.heap.size [] w w282 L283) →
 X.CallX Tryz.prog 65 #[.pointer (some a), (.agg #[.int .u8 b_0, .int .u8 b_1, .int .u8 b_2, .int .u32 b_3, .int .u32 b_4, .int .u32 b_5, .int .u32 b_6, .int .u64 b_7, .int .u64 b_8, .int .u8 b_9, .int .u16 b_10, .int .u32 b_11, .int .u8 b_12, .int .u8 b_13, .int .u8 b_14, .int .u8 b_15, .int .u8 b_16, .int .u8 b_17, .int .u8 b_18, .slice b_19 b_19l b_19c, .int .u8 b_20, .string b_21, .int .u8 b_22, .int .u32 b_23, .slice b_24 b_24l b_24c, .int .u8 b_25, .int .u16 b_26, .bool b_27, .slice b_28 b_28l b_28c, .slice b_29 b_29l b_29c, .slice b_30 b_30l b_30c])] w282 fun e284 w285 =>
 (e284 = .returned (.tuple #[])) ∧
 (X.Kept L283 w282 w285) ∧
 X.CallX Tryz.prog 67 #[.pointer (some a), (.agg #[.int .u8 b_0, .int .u8 b_1, .int .u8 b_2, .int .u32 b_3, .int .u32 b_4, .int .u32 b_5, .int .u32 b_6, .int .u64 b_7, .int .u64 b_8, .int .u8 b_9, .int .u16 b_10, .int .u32 b_11, .int .u8 b_12, .int .u8 b_13, .int .u8 b_14, .int .u8 b_15, .int .u8 b_16, .int .u8 b_17, .int .u8 b_18, .slice b_19 b_19l b_19c, .int .u8 b_20, .string b_21, .int .u8 b_22, .int .u32 b_23, .slice b_24 b_24l b_24c, .int .u8 b_25, .int .u16 b_26, .bool b_27, .slice b_28 b_28l b_28c, .slice b_29 b_29l b_29c, .slice b_30 b_30l b_30c])] w285 fun e286 w287 =>
 (e286 = .returned (.tuple #[])) ∧
 (X.Kept L283 w285 w287) ∧
 R (.returned (.tuple #[])) w287
 else
 if (b_0 == 10) = true then
 ∃ x272 : X.Facts, (X.FactsW x272 w []) ∧
 ∀ w273 : World, ∀ L274 : List Nat, (X.Hid [] w w273) →
 (X.NewL w.heap.size [] w w273 L274) →
 X.CallX Tryz.prog 63 #[(.pointer (some (a.add 0))), (.agg #[.int .u8 b_22, .int .u32 b_23, .slice b_24 b_24l b_24c])] w273 fun e275 w276 =>
 (e275 = .returned (.tuple #[])) ∧
 (X.Kept L274 w273 w276) ∧
 ∃ x277 : X.Facts, (X.FactsW x277 w276 L274) ∧
 ∀ w278 : World, ∀ L279 : List Nat, (X.Hid L274 w276 w278) →
 (X.NewL w.heap.size L274 w276 w278 L279) →
 X.CallX Tryz.prog 64 #[(.pointer (some (a.add 0))), .slice b_29 b_29l b_29c] w278 fun e280 w281 =>
 (e280 = .returned (.tuple #[])) ∧
 (X.Kept L279 w278 w281) ∧
 R (.returned (.tuple #[])) w281
 else
 if (b_0 == 11) = true then
 if (b_0 == 11) = true then
 ∃ x262 : X.Facts, (X.FactsW x262 w []) ∧
 ∀ w263 : World, ∀ L264 : List Nat, (X.Hid [] w w263) →
 (X.NewL w.heap.size [] w w263 L264) →
 X.CallX Tryz.prog 20 #[(.pointer (some (a.add 0))), .int .u8 b_1] w263 fun e265 w266 =>
 (e265 = .returned (.tuple #[])) ∧
 (X.Kept L264 w263 w266) ∧
 ∃ x267 : X.Facts, (X.FactsW x267 w266 L264) ∧
 ∀ w268 : World, ∀ L269 : List Nat, (X.Hid L264 w266 w268) →
 (X.NewL w.heap.size L264 w266 w268 L269) →
 X.CallX Tryz.prog 68 #[(.pointer (some (a.add 0))), (.agg #[.int .u8 b_25, .int .u16 b_26])] w268 fun e270 w271 =>
 (e270 = .returned (.tuple #[])) ∧
 (X.Kept L269 w268 w271) ∧
 R (.returned (.tuple #[])) w271
 else
 ∀ w261 : World, (X.Hid [] w w261) →
 R (.returned (.tuple #[])) w261
 else
 if (b_0 == 12) = true then
 if (b_0 == 12) = true then
 ∃ x251 : X.Facts, (X.FactsW x251 w []) ∧
 ∀ w252 : World, ∀ L253 : List Nat, (X.Hid [] w w252) →
 (X.NewL w.heap.size [] w w252 L253) →
 X.CallX Tryz.prog 20 #[(.pointer (some (a.add 0))), .int .u8 b_1] w252 fun e254 w255 =>
 (e254 = .returned (.tuple #[])) ∧
 (X.Kept L253 w252 w255) ∧
 ∃ x256 : X.Facts, (X.FactsW x256 w255 L253) ∧
 ∀ w257 : World, ∀ L258 : List Nat, (X.Hid L253 w255 w257) →
 (X.NewL w.heap.size L253 w255 w257 L258) →
 X.CallX Tryz.prog 68 #[(.pointer (some (a.add 0))), (.agg #[.int .u8 b_25, .int .u16 b_26])] w257 fun e259 w260 =>
 (e259 = .returned (.tuple #[])) ∧
 (X.Kept L258 w257 w260) ∧
 R (.returned (.tuple #[])) w260
 else
 ∀ w250 : World, (X.Hid [] w w250) →
 R (.returned (.tuple #[])) w250
 else
 if (b_0 == 13) = true then
 ∃ x240 : X.Facts, (X.FactsW x240 w []) ∧
 ∀ w241 : World, ∀ L242 : List Nat, (X.Hid [] w w241) →
 (X.NewL w.heap.size [] w w241 L242) →
 X.CallX Tryz.prog 20 #[(.pointer (some (a.add 0))), .int .u8 b_1] w241 fun e243 w244 =>
 (e243 = .returned (.tuple #[])) ∧
 (X.Kept L242 w241 w244) ∧
 ∃ x245 : X.Facts, (X.FactsW x245 w244 L242) ∧
 ∀ w246 : World, ∀ L247 : List Nat, (X.Hid L242 w244 w246) →
 (X.NewL w.heap.size L242 w244 w246 L247) →
 X.CallX Tryz.prog 68 #[(.pointer (some (a.add 0))), (.agg #[.int .u8 b_25, .int .u16 b_26])] w246 fun e248 w249 =>
 (e248 = .returned (.tuple #[])) ∧
 (X.Kept L247 w246 w249) ∧
 R (.returned (.tuple #[])) w249
 else
 ∀ w239 : World, (X.Hid [] w w239) →
 R (.returned (.tuple #[])) w239
 else
 if (b_0 == 4) = true then
 ∃ x214 : X.Facts, (X.FactsW x214 w []) ∧
 ∀ w215 : World, ∀ L216 : List Nat, (X.Hid [] w w215) →
 (X.NewL w.heap.size [] w w215 L216) →
 X.CallX Tryz.prog 20 #[(.pointer (some (a.add 0))), .int .u8 b_1] w215 fun e217 w218 =>
 (e217 = .returned (.tuple #[])) ∧
 (X.Kept L216 w215 w218) ∧
 ∃ x219 : X.Facts, (X.FactsW x219 w218 L216) ∧
 ∀ w220 : World, ∀ L221 : List Nat, (X.Hid L216 w218 w220) →
 (X.NewL w.heap.size L216 w218 w220 L221) →
 X.CallX Tryz.prog 60 #[(.pointer (some (a.add 0))), .int .u64 (IntKind.wrap .u64 b_3)] w220 fun e222 w223 =>
 (e222 = .returned (.tuple #[])) ∧
 (X.Kept L221 w220 w223) ∧
 (X.FactsW x219 w223 L221) ∧
 ∃ x224 : X.Facts, (X.FactsW x224 w223 L221) ∧
 ∀ w225 : World, ∀ L226 : List Nat, (X.Hid L221 w223 w225) →
 (X.NewL w.heap.size L221 w223 w225 L226) →
 X.CallX Tryz.prog 60 #[(.pointer (some (a.add 0))), .int .u64 (IntKind.wrap .u64 b_4)] w225 fun e227 w228 =>
 (e227 = .returned (.tuple #[])) ∧
 (X.Kept L226 w225 w228) ∧
 (X.FactsW x224 w228 L226) ∧
 if (b_0 == 3) = true then
 ∃ x229 : X.Facts, (X.FactsW x229 w228 L226) ∧
 ∀ w230 : World, ∀ L231 : List Nat, (X.Hid L226 w228 w230) →
 (X.NewL w.heap.size L226 w228 w230 L231) →
 X.CallX Tryz.prog 60 #[(.pointer (some (a.add 0))), .int .u64 (IntKind.wrap .u64 b_5)] w230 fun e232 w233 =>
 (e232 = .returned (.tuple #[])) ∧
 (X.Kept L231 w230 w233) ∧
 (X.FactsW x229 w233 L231) ∧
 ∃ x234 : X.Facts, (X.FactsW x234 w233 L231) ∧
 ∀ w235 : World, ∀ L236 : List Nat, (X.Hid L231 w233 w235) →
 (X.NewL w.heap.size L231 w233 w235 L236) →
 X.CallX Tryz.prog 64 #[(.pointer (some (a.add 0))), .slice b_29 b_29l b_29c] w235 fun e237 w238 =>
 (e237 = .returned (.tuple #[])) ∧
 (X.Kept L236 w235 w238) ∧
 R (.returned (.tuple #[])) w238
 else
 R (.returned (.tuple #[])) w228
 else
 if (b_0 == 5) = true then
 if (b_0 == 5) = true then
 ∀ w210 : World, ∀ L211 : List Nat, (X.Hid [] w w210) →
 (X.NewL w.heap.size [] w w210 L211) →
 X.CallX Tryz.prog 65 #[.pointer (some a), (.agg #[.int .u8 b_0, .int .u8 b_1, .int .u8 b_2, .int .u32 b_3, .int .u32 b_4, .int .u32 b_5, .int .u32 b_6, .int .u64 b_7, .int .u64 b_8, .int .u8 b_9, .int .u16 b_10, .int .u32 b_11, .int .u8 b_12, .int .u8 b_13, .int .u8 b_14, .int .u8 b_15, .int .u8 b_16, .int .u8 b_17, .int .u8 b_18, .slice b_19 b_19l b_19c, .int .u8 b_20, .string b_21, .int .u8 b_22, .int .u32 b_23, .slice b_24 b_24l b_24c, .int .u8 b_25, .int .u16 b_26, .bool b_27, .slice b_28 b_28l b_28c, .slice b_29 b_29l b_29c, .slice b_30 b_30l b_30c])] w210 fun e212 w213 =>
 (e212 = .returned (.tuple #[])) ∧
 (X.Kept L211 w210 w213) ∧
 R (.returned (.tuple #[])) w213
 else
 if (b_0 == 8) = true then
 ∀ w192 : World, ∀ L193 : List Nat, (X.Hid [] w w192) →
 (X.NewL w.heap.size [] w w192 L193) →
 X.CallX Tryz.prog 65 #[.pointer (some a), (.agg #[.int .u8 b_0, .int .u8 b_1, .int .u8 b_2, .int .u32 b_3, .int .u32 b_4, .int .u32 b_5, .int .u32 b_6, .int .u64 b_7, .int .u64 b_8, .int .u8 b_9, .int .u16 b_10, .int .u32 b_11, .int .u8 b_12, .int .u8 b_13, .int .u8 b_14, .int .u8 b_15, .int .u8 b_16, .int .u8 b_17, .int .u8 b_18, .slice b_19 b_19l b_19c, .int .u8 b_20, .string b_21, .int .u8 b_22, .int .u32 b_23, .slice b_24 b_24l b_24c, .int .u8 b_25, .int .u16 b_26, .bool b_27, .slice b_28 b_28l b_28c, .slice b_29 b_29l b_29c, .slice b_30 b_30l b_30c])] w192 fun e194 w195 =>
 (e194 = .returned (.tuple #[])) ∧
 (X.Kept L193 w192 w195) ∧
 ∃ x196 : X.Facts, (X.FactsW x196 w195 L193) ∧
 ∀ w197 : World, ∀ L198 : List Nat, (X.Hid L193 w195 w197) →
 (X.NewL w.heap.size L193 w195 w197 L198) →
 X.CallX Tryz.prog 64 #[(.pointer (some (a.add 0))), .slice b_29 b_29l b_29c] w197 fun e199 w200 =>
 (e199 = .returned (.tuple #[])) ∧
 (X.Kept L198 w197 w200) ∧
 X.CallX Tryz.prog 66 #[.pointer (some a), .bool b_27] w200 fun e201 w202 =>
 (e201 = .returned (.tuple #[])) ∧
 (X.Kept L198 w200 w202) ∧
 if b_27 = true then
 ∃ x203 : X.Facts, (X.FactsW x203 w202 L198) ∧
 ∀ w204 : World, ∀ L205 : List Nat, (X.Hid L198 w202 w204) →
 (X.NewL w.heap.size L198 w202 w204 L205) →
 X.CallX Tryz.prog 60 #[(.pointer (some (a.add 0))), .int .u64 b_8] w204 fun e206 w207 =>
 (e206 = .returned (.tuple #[])) ∧
 (X.Kept L205 w204 w207) ∧
 X.CallX Tryz.prog 67 #[.pointer (some a), (.agg #[.int .u8 b_0, .int .u8 b_1, .int .u8 b_2, .int .u32 b_3, .int .u32 b_4, .int .u32 b_5, .int .u32 b_6, .int .u64 b_7, .int .u64 b_8, .int .u8 b_9, .int .u16 b_10, .int .u32 b_11, .int .u8 b_12, .int .u8 b_13, .int .u8 b_14, .int .u8 b_15, .int .u8 b_16, .int .u8 b_17, .int .u8 b_18, .slice b_19 b_19l b_19c, .int .u8 b_20, .string b_21, .int .u8 b_22, .int .u32 b_23, .slice b_24 b_24l b_24c, .int .u8 b_25, .int .u16 b_26, .bool b_27, .slice b_28 b_28l b_28c, .slice b_29 b_29l b_29c, .slice b_30 b_30l b_30c])] w207 fun e208 w209 =>
 (e208 = .returned (.tuple #[])) ∧
 (X.Kept L205 w207 w209) ∧
 R (.returned (.tuple #[])) w209
 else
 R (.returned (.tuple #[])) w202
 else
 if (b_0 == 9) = true then
 ∀ w186 : World, ∀ L187 : List Nat, (X.Hid [] w w186) →
 (X.NewL w.heap.size [] w w186 L187) →
 X.CallX Tryz.prog 65 #[.pointer (some a), (.agg #[.int .u8 b_0, .int .u8 b_1, .int .u8 b_2, .int .u32 b_3, .int .u32 b_4, .int .u32 b_5, .int .u32 b_6, .int .u64 b_7, .int .u64 b_8, .int .u8 b_9, .int .u16 b_10, .int .u32 b_11, .int .u8 b_12, .int .u8 b_13, .int .u8 b_14, .int .u8 b_15, .int .u8 b_16, .int .u8 b_17, .int .u8 b_18, .slice b_19 b_19l b_19c, .int .u8 b_20, .string b_21, .int .u8 b_22, .int .u32 b_23, .slice b_24 b_24l b_24c, .int .u8 b_25, .int .u16 b_26, .bool b_27, .slice b_28 b_28l b_28c, .slice b_29 b_29l b_29c, .slice b_30 b_30l b_30c])] w186 fun e188 w189 =>
 (e188 = .returned (.tuple #[])) ∧
 (X.Kept L187 w186 w189) ∧
 X.CallX Tryz.prog 67 #[.pointer (some a), (.agg #[.int .u8 b_0, .int .u8 b_1, .int .u8 b_2, .int .u32 b_3, .int .u32 b_4, .int .u32 b_5, .int .u32 b_6, .int .u64 b_7, .int .u64 b_8, .int .u8 b_9, .int .u16 b_10, .int .u32 b_11, .int .u8 b_12, .int .u8 b_13, .int .u8 b_14, .int .u8 b_15, .int .u8 b_16, .int .u8 b_17, .int .u8 b_18, .slice b_19 b_19l b_19c, .int .u8 b_20, .string b_21, .int .u8 b_22, .int .u32 b_23, .slice b_24 b_24l b_24c, .int .u8 b_25, .int .u16 b_26, .bool b_27, .slice b_28 b_28l b_28c, .slice b_29 b_29l b_29c, .slice b_30 b_30l b_30c])] w189 fun e190 w191 =>
 (e190 = .returned (.tuple #[])) ∧
 (X.Kept L187 w189 w191) ∧
 R (.returned (.tuple #[])) w191
 else
 if (b_0 == 10) = true then
 ∃ x176 : X.Facts, (X.FactsW x176 w []) ∧
 ∀ w177 : World, ∀ L178 : List Nat, (X.Hid [] w w177) →
 (X.NewL w.heap.size [] w w177 L178) →
 X.CallX Tryz.prog 63 #[(.pointer (some (a.add 0))), (.agg #[.int .u8 b_22, .int .u32 b_23, .slice b_24 b_24l b_24c])] w177 fun e179 w180 =>
 (e179 = .returned (.tuple #[])) ∧
 (X.Kept L178 w177 w180) ∧
 ∃ x181 : X.Facts, (X.FactsW x181 w180 L178) ∧
 ∀ w182 : World, ∀ L183 : List Nat, (X.Hid L178 w180 w182) →
 (X.NewL w.heap.size L178 w180 w182 L183) →
 X.CallX Tryz.prog 64 #[(.pointer (some (a.add 0))), .slice b_29 b_29l b_29c] w182 fun e184 w185 =>
 (e184 = .returned (.tuple #[])) ∧
 (X.Kept L183 w182 w185) ∧
 R (.returned (.tuple #[])) w185
 else
 if (b_0 == 11) = true then
 if (b_0 == 11) = true then
 ∃ x166 : X.Facts, (X.FactsW x166 w []) ∧
 ∀ w167 : World, ∀ L168 : List Nat, (X.Hid [] w w167) →
 (X.NewL w.heap.size [] w w167 L168) →
 X.CallX Tryz.prog 20 #[(.pointer (some (a.add 0))), .int .u8 b_1] w167 fun e169 w170 =>
 (e169 = .returned (.tuple #[])) ∧
 (X.Kept L168 w167 w170) ∧
 ∃ x171 : X.Facts, (X.FactsW x171 w170 L168) ∧
 ∀ w172 : World, ∀ L173 : List Nat, (X.Hid L168 w170 w172) →
 (X.NewL w.heap.size L168 w170 w172 L173) →
 X.CallX Tryz.prog 68 #[(.pointer (some (a.add 0))), (.agg #[.int .u8 b_25, .int .u16 b_26])] w172 fun e174 w175 =>
 (e174 = .returned (.tuple #[])) ∧
 (X.Kept L173 w172 w175) ∧
 R (.returned (.tuple #[])) w175
 else
 ∀ w165 : World, (X.Hid [] w w165) →
 R (.returned (.tuple #[])) w165
 else
 if (b_0 == 12) = true then
 if (b_0 == 12) = true then
 ∃ x155 : X.Facts, (X.FactsW x155 w []) ∧
 ∀ w156 : World, ∀ L157 : List Nat, (X.Hid [] w w156) →
 (X.NewL w.heap.size [] w w156 L157) →
 X.CallX Tryz.prog 20 #[(.pointer (some (a.add 0))), .int .u8 b_1] w156 fun e158 w159 =>
 (e158 = .returned (.tuple #[])) ∧
 (X.Kept L157 w156 w159) ∧
 ∃ x160 : X.Facts, (X.FactsW x160 w159 L157) ∧
 ∀ w161 : World, ∀ L162 : List Nat, (X.Hid L157 w159 w161) →
 (X.NewL w.heap.size L157 w159 w161 L162) →
 X.CallX Tryz.prog 68 #[(.pointer (some (a.add 0))), (.agg #[.int .u8 b_25, .int .u16 b_26])] w161 fun e163 w164 =>
 (e163 = .returned (.tuple #[])) ∧
 (X.Kept L162 w161 w164) ∧
 R (.returned (.tuple #[])) w164
 else
 ∀ w154 : World, (X.Hid [] w w154) →
 R (.returned (.tuple #[])) w154
 else
 if (b_0 == 13) = true then
 ∃ x144 : X.Facts, (X.FactsW x144 w []) ∧
 ∀ w145 : World, ∀ L146 : List Nat, (X.Hid [] w w145) →
 (X.NewL w.heap.size [] w w145 L146) →
 X.CallX Tryz.prog 20 #[(.pointer (some (a.add 0))), .int .u8 b_1] w145 fun e147 w148 =>
 (e147 = .returned (.tuple #[])) ∧
 (X.Kept L146 w145 w148) ∧
 ∃ x149 : X.Facts, (X.FactsW x149 w148 L146) ∧
 ∀ w150 : World, ∀ L151 : List Nat, (X.Hid L146 w148 w150) →
 (X.NewL w.heap.size L146 w148 w150 L151) →
 X.CallX Tryz.prog 68 #[(.pointer (some (a.add 0))), (.agg #[.int .u8 b_25, .int .u16 b_26])] w150 fun e152 w153 =>
 (e152 = .returned (.tuple #[])) ∧
 (X.Kept L151 w150 w153) ∧
 R (.returned (.tuple #[])) w153
 else
 ∀ w143 : World, (X.Hid [] w w143) →
 R (.returned (.tuple #[])) w143
 else
 if (b_0 == 6) = true then
 if (b_0 == 6) = true then
 ∀ w139 : World, ∀ L140 : List Nat, (X.Hid [] w w139) →
 (X.NewL w.heap.size [] w w139 L140) →
 X.CallX Tryz.prog 65 #[.pointer (some a), (.agg #[.int .u8 b_0, .int .u8 b_1, .int .u8 b_2, .int .u32 b_3, .int .u32 b_4, .int .u32 b_5, .int .u32 b_6, .int .u64 b_7, .int .u64 b_8, .int .u8 b_9, .int .u16 b_10, .int .u32 b_11, .int .u8 b_12, .int .u8 b_13, .int .u8 b_14, .int .u8 b_15, .int .u8 b_16, .int .u8 b_17, .int .u8 b_18, .slice b_19 b_19l b_19c, .int .u8 b_20, .string b_21, .int .u8 b_22, .int .u32 b_23, .slice b_24 b_24l b_24c, .int .u8 b_25, .int .u16 b_26, .bool b_27, .slice b_28 b_28l b_28c, .slice b_29 b_29l b_29c, .slice b_30 b_30l b_30c])] w139 fun e141 w142 =>
 (e141 = .returned (.tuple #[])) ∧
 (X.Kept L140 w139 w142) ∧
 R (.returned (.tuple #[])) w142
 else
 if (b_0 == 8) = true then
 ∀ w121 : World, ∀ L122 : List Nat, (X.Hid [] w w121) →
 (X.NewL w.heap.size [] w w121 L122) →
 X.CallX Tryz.prog 65 #[.pointer (some a), (.agg #[.int .u8 b_0, .int .u8 b_1, .int .u8 b_2, .int .u32 b_3, .int .u32 b_4, .int .u32 b_5, .int .u32 b_6, .int .u64 b_7, .int .u64 b_8, .int .u8 b_9, .int .u16 b_10, .int .u32 b_11, .int .u8 b_12, .int .u8 b_13, .int .u8 b_14, .int .u8 b_15, .int .u8 b_16, .int .u8 b_17, .int .u8 b_18, .slice b_19 b_19l b_19c, .int .u8 b_20, .string b_21, .int .u8 b_22, .int .u32 b_23, .slice b_24 b_24l b_24c, .int .u8 b_25, .int .u16 b_26, .bool b_27, .slice b_28 b_28l b_28c, .slice b_29 b_29l b_29c, .slice b_30 b_30l b_30c])] w121 fun e123 w124 =>
 (e123 = .returned (.tuple #[])) ∧
 (X.Kept L122 w121 w124) ∧
 ∃ x125 : X.Facts, (X.FactsW x125 w124 L122) ∧
 ∀ w126 : World, ∀ L127 : List Nat, (X.Hid L122 w124 w126) →
 (X.NewL w.heap.size L122 w124 w126 L127) →
 X.CallX Tryz.prog 64 #[(.pointer (some (a.add 0))), .slice b_29 b_29l b_29c] w126 fun e128 w129 =>
 (e128 = .returned (.tuple #[])) ∧
 (X.Kept L127 w126 w129) ∧
 X.CallX Tryz.prog 66 #[.pointer (some a), .bool b_27] w129 fun e130 w131 =>
 (e130 = .returned (.tuple #[])) ∧
 (X.Kept L127 w129 w131) ∧
 if b_27 = true then
 ∃ x132 : X.Facts, (X.FactsW x132 w131 L127) ∧
 ∀ w133 : World, ∀ L134 : List Nat, (X.Hid L127 w131 w133) →
 (X.NewL w.heap.size L127 w131 w133 L134) →
 X.CallX Tryz.prog 60 #[(.pointer (some (a.add 0))), .int .u64 b_8] w133 fun e135 w136 =>
 (e135 = .returned (.tuple #[])) ∧
 (X.Kept L134 w133 w136) ∧
 X.CallX Tryz.prog 67 #[.pointer (some a), (.agg #[.int .u8 b_0, .int .u8 b_1, .int .u8 b_2, .int .u32 b_3, .int .u32 b_4, .int .u32 b_5, .int .u32 b_6, .int .u64 b_7, .int .u64 b_8, .int .u8 b_9, .int .u16 b_10, .int .u32 b_11, .int .u8 b_12, .int .u8 b_13, .int .u8 b_14, .int .u8 b_15, .int .u8 b_16, .int .u8 b_17, .int .u8 b_18, .slice b_19 b_19l b_19c, .int .u8 b_20, .string b_21, .int .u8 b_22, .int .u32 b_23, .slice b_24 b_24l b_24c, .int .u8 b_25, .int .u16 b_26, .bool b_27, .slice b_28 b_28l b_28c, .slice b_29 b_29l b_29c, .slice b_30 b_30l b_30c])] w136 fun e137 w138 =>
 (e137 = .returned (.tuple #[])) ∧
 (X.Kept L134 w136 w138) ∧
 R (.returned (.tuple #[])) w138
 else
 R (.returned (.tuple #[])) w131
 else
 if (b_0 == 9) = true then
 ∀ w115 : World, ∀ L116 : List Nat, (X.Hid [] w w115) →
 (X.NewL w.heap.size [] w w115 L116) →
 X.CallX Tryz.prog 65 #[.pointer (some a), (.agg #[.int .u8 b_0, .int .u8 b_1, .int .u8 b_2, .int .u32 b_3, .int .u32 b_4, .int .u32 b_5, .int .u32 b_6, .int .u64 b_7, .int .u64 b_8, .int .u8 b_9, .int .u16 b_10, .int .u32 b_11, .int .u8 b_12, .int .u8 b_13, .int .u8 b_14, .int .u8 b_15, .int .u8 b_16, .int .u8 b_17, .int .u8 b_18, .slice b_19 b_19l b_19c, .int .u8 b_20, .string b_21, .int .u8 b_22, .int .u32 b_23, .slice b_24 b_24l b_24c, .int .u8 b_25, .int .u16 b_26, .bool b_27, .slice b_28 b_28l b_28c, .slice b_29 b_29l b_29c, .slice b_30 b_30l b_30c])] w115 fun e117 w118 =>
 (e117 = .returned (.tuple #[])) ∧
 (X.Kept L116 w115 w118) ∧
 X.CallX Tryz.prog 67 #[.pointer (some a), (.agg #[.int .u8 b_0, .int .u8 b_1, .int .u8 b_2, .int .u32 b_3, .int .u32 b_4, .int .u32 b_5, .int .u32 b_6, .int .u64 b_7, .int .u64 b_8, .int .u8 b_9, .int .u16 b_10, .int .u32 b_11, .int .u8 b_12, .int .u8 b_13, .int .u8 b_14, .int .u8 b_15, .int .u8 b_16, .int .u8 b_17, .int .u8 b_18, .slice b_19 b_19l b_19c, .int .u8 b_20, .string b_21, .int .u8 b_22, .int .u32 b_23, .slice b_24 b_24l b_24c, .int .u8 b_25, .int .u16 b_26, .bool b_27, .slice b_28 b_28l b_28c, .slice b_29 b_29l b_29c, .slice b_30 b_30l b_30c])] w118 fun e119 w120 =>
 (e119 = .returned (.tuple #[])) ∧
 (X.Kept L116 w118 w120) ∧
 R (.returned (.tuple #[])) w120
 else
 if (b_0 == 10) = true then
 ∃ x105 : X.Facts, (X.FactsW x105 w []) ∧
 ∀ w106 : World, ∀ L107 : List Nat, (X.Hid [] w w106) →
 (X.NewL w.heap.size [] w w106 L107) →
 X.CallX Tryz.prog 63 #[(.pointer (some (a.add 0))), (.agg #[.int .u8 b_22, .int .u32 b_23, .slice b_24 b_24l b_24c])] w106 fun e108 w109 =>
 (e108 = .returned (.tuple #[])) ∧
 (X.Kept L107 w106 w109) ∧
 ∃ x110 : X.Facts, (X.FactsW x110 w109 L107) ∧
 ∀ w111 : World, ∀ L112 : List Nat, (X.Hid L107 w109 w111) →
 (X.NewL w.heap.size L107 w109 w111 L112) →
 X.CallX Tryz.prog 64 #[(.pointer (some (a.add 0))), .slice b_29 b_29l b_29c] w111 fun e113 w114 =>
 (e113 = .returned (.tuple #[])) ∧
 (X.Kept L112 w111 w114) ∧
 R (.returned (.tuple #[])) w114
 else
 if (b_0 == 11) = true then
 if (b_0 == 11) = true then
 ∃ x95 : X.Facts, (X.FactsW x95 w []) ∧
 ∀ w96 : World, ∀ L97 : List Nat, (X.Hid [] w w96) →
 (X.NewL w.heap.size [] w w96 L97) →
 X.CallX Tryz.prog 20 #[(.pointer (some (a.add 0))), .int .u8 b_1] w96 fun e98 w99 =>
 (e98 = .returned (.tuple #[])) ∧
 (X.Kept L97 w96 w99) ∧
 ∃ x100 : X.Facts, (X.FactsW x100 w99 L97) ∧
 ∀ w101 : World, ∀ L102 : List Nat, (X.Hid L97 w99 w101) →
 (X.NewL w.heap.size L97 w99 w101 L102) →
 X.CallX Tryz.prog 68 #[(.pointer (some (a.add 0))), (.agg #[.int .u8 b_25, .int .u16 b_26])] w101 fun e103 w104 =>
 (e103 = .returned (.tuple #[])) ∧
 (X.Kept L102 w101 w104) ∧
 R (.returned (.tuple #[])) w104
 else
 ∀ w94 : World, (X.Hid [] w w94) →
 R (.returned (.tuple #[])) w94
 else
 if (b_0 == 12) = true then
 if (b_0 == 12) = true then
 ∃ x84 : X.Facts, (X.FactsW x84 w []) ∧
 ∀ w85 : World, ∀ L86 : List Nat, (X.Hid [] w w85) →
 (X.NewL w.heap.size [] w w85 L86) →
 X.CallX Tryz.prog 20 #[(.pointer (some (a.add 0))), .int .u8 b_1] w85 fun e87 w88 =>
 (e87 = .returned (.tuple #[])) ∧
 (X.Kept L86 w85 w88) ∧
 ∃ x89 : X.Facts, (X.FactsW x89 w88 L86) ∧
 ∀ w90 : World, ∀ L91 : List Nat, (X.Hid L86 w88 w90) →
 (X.NewL w.heap.size L86 w88 w90 L91) →
 X.CallX Tryz.prog 68 #[(.pointer (some (a.add 0))), (.agg #[.int .u8 b_25, .int .u16 b_26])] w90 fun e92 w93 =>
 (e92 = .returned (.tuple #[])) ∧
 (X.Kept L91 w90 w93) ∧
 R (.returned (.tuple #[])) w93
 else
 ∀ w83 : World, (X.Hid [] w w83) →
 R (.returned (.tuple #[])) w83
 else
 if (b_0 == 13) = true then
 ∃ x73 : X.Facts, (X.FactsW x73 w []) ∧
 ∀ w74 : World, ∀ L75 : List Nat, (X.Hid [] w w74) →
 (X.NewL w.heap.size [] w w74 L75) →
 X.CallX Tryz.prog 20 #[(.pointer (some (a.add 0))), .int .u8 b_1] w74 fun e76 w77 =>
 (e76 = .returned (.tuple #[])) ∧
 (X.Kept L75 w74 w77) ∧
 ∃ x78 : X.Facts, (X.FactsW x78 w77 L75) ∧
 ∀ w79 : World, ∀ L80 : List Nat, (X.Hid L75 w77 w79) →
 (X.NewL w.heap.size L75 w77 w79 L80) →
 X.CallX Tryz.prog 68 #[(.pointer (some (a.add 0))), (.agg #[.int .u8 b_25, .int .u16 b_26])] w79 fun e81 w82 =>
 (e81 = .returned (.tuple #[])) ∧
 (X.Kept L80 w79 w82) ∧
 R (.returned (.tuple #[])) w82
 else
 ∀ w72 : World, (X.Hid [] w w72) →
 R (.returned (.tuple #[])) w72
 else
 if (b_0 == 7) = true then
 ∀ w68 : World, ∀ L69 : List Nat, (X.Hid [] w w68) →
 (X.NewL w.heap.size [] w w68 L69) →
 X.CallX Tryz.prog 65 #[.pointer (some a), (.agg #[.int .u8 b_0, .int .u8 b_1, .int .u8 b_2, .int .u32 b_3, .int .u32 b_4, .int .u32 b_5, .int .u32 b_6, .int .u64 b_7, .int .u64 b_8, .int .u8 b_9, .int .u16 b_10, .int .u32 b_11, .int .u8 b_12, .int .u8 b_13, .int .u8 b_14, .int .u8 b_15, .int .u8 b_16, .int .u8 b_17, .int .u8 b_18, .slice b_19 b_19l b_19c, .int .u8 b_20, .string b_21, .int .u8 b_22, .int .u32 b_23, .slice b_24 b_24l b_24c, .int .u8 b_25, .int .u16 b_26, .bool b_27, .slice b_28 b_28l b_28c, .slice b_29 b_29l b_29c, .slice b_30 b_30l b_30c])] w68 fun e70 w71 =>
 (e70 = .returned (.tuple #[])) ∧
 (X.Kept L69 w68 w71) ∧
 R (.returned (.tuple #[])) w71
 else
 if (b_0 == 8) = true then
 ∀ w50 : World, ∀ L51 : List Nat, (X.Hid [] w w50) →
 (X.NewL w.heap.size [] w w50 L51) →
 X.CallX Tryz.prog 65 #[.pointer (some a), (.agg #[.int .u8 b_0, .int .u8 b_1, .int .u8 b_2, .int .u32 b_3, .int .u32 b_4, .int .u32 b_5, .int .u32 b_6, .int .u64 b_7, .int .u64 b_8, .int .u8 b_9, .int .u16 b_10, .int .u32 b_11, .int .u8 b_12, .int .u8 b_13, .int .u8 b_14, .int .u8 b_15, .int .u8 b_16, .int .u8 b_17, .int .u8 b_18, .slice b_19 b_19l b_19c, .int .u8 b_20, .string b_21, .int .u8 b_22, .int .u32 b_23, .slice b_24 b_24l b_24c, .int .u8 b_25, .int .u16 b_26, .bool b_27, .slice b_28 b_28l b_28c, .slice b_29 b_29l b_29c, .slice b_30 b_30l b_30c])] w50 fun e52 w53 =>
 (e52 = .returned (.tuple #[])) ∧
 (X.Kept L51 w50 w53) ∧
 ∃ x54 : X.Facts, (X.FactsW x54 w53 L51) ∧
 ∀ w55 : World, ∀ L56 : List Nat, (X.Hid L51 w53 w55) →
 (X.NewL w.heap.size L51 w53 w55 L56) →
 X.CallX Tryz.prog 64 #[(.pointer (some (a.add 0))), .slice b_29 b_29l b_29c] w55 fun e57 w58 =>
 (e57 = .returned (.tuple #[])) ∧
 (X.Kept L56 w55 w58) ∧
 X.CallX Tryz.prog 66 #[.pointer (some a), .bool b_27] w58 fun e59 w60 =>
 (e59 = .returned (.tuple #[])) ∧
 (X.Kept L56 w58 w60) ∧
 if b_27 = true then
 ∃ x61 : X.Facts, (X.FactsW x61 w60 L56) ∧
 ∀ w62 : World, ∀ L63 : List Nat, (X.Hid L56 w60 w62) →
 (X.NewL w.heap.size L56 w60 w62 L63) →
 X.CallX Tryz.prog 60 #[(.pointer (some (a.add 0))), .int .u64 b_8] w62 fun e64 w65 =>
 (e64 = .returned (.tuple #[])) ∧
 (X.Kept L63 w62 w65) ∧
 X.CallX Tryz.prog 67 #[.pointer (some a), (.agg #[.int .u8 b_0, .int .u8 b_1, .int .u8 b_2, .int .u32 b_3, .int .u32 b_4, .int .u32 b_5, .int .u32 b_6, .int .u64 b_7, .int .u64 b_8, .int .u8 b_9, .int .u16 b_10, .int .u32 b_11, .int .u8 b_12, .int .u8 b_13, .int .u8 b_14, .int .u8 b_15, .int .u8 b_16, .int .u8 b_17, .int .u8 b_18, .slice b_19 b_19l b_19c, .int .u8 b_20, .string b_21, .int .u8 b_22, .int .u32 b_23, .slice b_24 b_24l b_24c, .int .u8 b_25, .int .u16 b_26, .bool b_27, .slice b_28 b_28l b_28c, .slice b_29 b_29l b_29c, .slice b_30 b_30l b_30c])] w65 fun e66 w67 =>
 (e66 = .returned (.tuple #[])) ∧
 (X.Kept L63 w65 w67) ∧
 R (.returned (.tuple #[])) w67
 else
 R (.returned (.tuple #[])) w60
 else
 if (b_0 == 9) = true then
 ∀ w44 : World, ∀ L45 : List Nat, (X.Hid [] w w44) →
 (X.NewL w.heap.size [] w w44 L45) →
 X.CallX Tryz.prog 65 #[.pointer (some a), (.agg #[.int .u8 b_0, .int .u8 b_1, .int .u8 b_2, .int .u32 b_3, .int .u32 b_4, .int .u32 b_5, .int .u32 b_6, .int .u64 b_7, .int .u64 b_8, .int .u8 b_9, .int .u16 b_10, .int .u32 b_11, .int .u8 b_12, .int .u8 b_13, .int .u8 b_14, .int .u8 b_15, .int .u8 b_16, .int .u8 b_17, .int .u8 b_18, .slice b_19 b_19l b_19c, .int .u8 b_20, .string b_21, .int .u8 b_22, .int .u32 b_23, .slice b_24 b_24l b_24c, .int .u8 b_25, .int .u16 b_26, .bool b_27, .slice b_28 b_28l b_28c, .slice b_29 b_29l b_29c, .slice b_30 b_30l b_30c])] w44 fun e46 w47 =>
 (e46 = .returned (.tuple #[])) ∧
 (X.Kept L45 w44 w47) ∧
 X.CallX Tryz.prog 67 #[.pointer (some a), (.agg #[.int .u8 b_0, .int .u8 b_1, .int .u8 b_2, .int .u32 b_3, .int .u32 b_4, .int .u32 b_5, .int .u32 b_6, .int .u64 b_7, .int .u64 b_8, .int .u8 b_9, .int .u16 b_10, .int .u32 b_11, .int .u8 b_12, .int .u8 b_13, .int .u8 b_14, .int .u8 b_15, .int .u8 b_16, .int .u8 b_17, .int .u8 b_18, .slice b_19 b_19l b_19c, .int .u8 b_20, .string b_21, .int .u8 b_22, .int .u32 b_23, .slice b_24 b_24l b_24c, .int .u8 b_25, .int .u16 b_26, .bool b_27, .slice b_28 b_28l b_28c, .slice b_29 b_29l b_29c, .slice b_30 b_30l b_30c])] w47 fun e48 w49 =>
 (e48 = .returned (.tuple #[])) ∧
 (X.Kept L45 w47 w49) ∧
 R (.returned (.tuple #[])) w49
 else
 if (b_0 == 10) = true then
 ∃ x34 : X.Facts, (X.FactsW x34 w []) ∧
 ∀ w35 : World, ∀ L36 : List Nat, (X.Hid [] w w35) →
 (X.NewL w.heap.size [] w w35 L36) →
 X.CallX Tryz.prog 63 #[(.pointer (some (a.add 0))), (.agg #[.int .u8 b_22, .int .u32 b_23, .slice b_24 b_24l b_24c])] w35 fun e37 w38 =>
 (e37 = .returned (.tuple #[])) ∧
 (X.Kept L36 w35 w38) ∧
 ∃ x39 : X.Facts, (X.FactsW x39 w38 L36) ∧
 ∀ w40 : World, ∀ L41 : List Nat, (X.Hid L36 w38 w40) →
 (X.NewL w.heap.size L36 w38 w40 L41) →
 X.CallX Tryz.prog 64 #[(.pointer (some (a.add 0))), .slice b_29 b_29l b_29c] w40 fun e42 w43 =>
 (e42 = .returned (.tuple #[])) ∧
 (X.Kept L41 w40 w43) ∧
 R (.returned (.tuple #[])) w43
 else
 if (b_0 == 11) = true then
 if (b_0 == 11) = true then
 ∃ x24 : X.Facts, (X.FactsW x24 w []) ∧
 ∀ w25 : World, ∀ L26 : List Nat, (X.Hid [] w w25) →
 (X.NewL w.heap.size [] w w25 L26) →
 X.CallX Tryz.prog 20 #[(.pointer (some (a.add 0))), .int .u8 b_1] w25 fun e27 w28 =>
 (e27 = .returned (.tuple #[])) ∧
 (X.Kept L26 w25 w28) ∧
 ∃ x29 : X.Facts, (X.FactsW x29 w28 L26) ∧
 ∀ w30 : World, ∀ L31 : List Nat, (X.Hid L26 w28 w30) →
 (X.NewL w.heap.size L26 w28 w30 L31) →
 X.CallX Tryz.prog 68 #[(.pointer (some (a.add 0))), (.agg #[.int .u8 b_25, .int .u16 b_26])] w30 fun e32 w33 =>
 (e32 = .returned (.tuple #[])) ∧
 (X.Kept L31 w30 w33) ∧
 R (.returned (.tuple #[])) w33
 else
 ∀ w23 : World, (X.Hid [] w w23) →
 R (.returned (.tuple #[])) w23
 else
 if (b_0 == 12) = true then
 if (b_0 == 12) = true then
 ∃ x13 : X.Facts, (X.FactsW x13 w []) ∧
 ∀ w14 : World, ∀ L15 : List Nat, (X.Hid [] w w14) →
 (X.NewL w.heap.size [] w w14 L15) →
 X.CallX Tryz.prog 20 #[(.pointer (some (a.add 0))), .int .u8 b_1] w14 fun e16 w17 =>
 (e16 = .returned (.tuple #[])) ∧
 (X.Kept L15 w14 w17) ∧
 ∃ x18 : X.Facts, (X.FactsW x18 w17 L15) ∧
 ∀ w19 : World, ∀ L20 : List Nat, (X.Hid L15 w17 w19) →
 (X.NewL w.heap.size L15 w17 w19 L20) →
 X.CallX Tryz.prog 68 #[(.pointer (some (a.add 0))), (.agg #[.int .u8 b_25, .int .u16 b_26])] w19 fun e21 w22 =>
 (e21 = .returned (.tuple #[])) ∧
 (X.Kept L20 w19 w22) ∧
 R (.returned (.tuple #[])) w22
 else
 ∀ w12 : World, (X.Hid [] w w12) →
 R (.returned (.tuple #[])) w12
 else
 if (b_0 == 13) = true then
 ∃ x2 : X.Facts, (X.FactsW x2 w []) ∧
 ∀ w3 : World, ∀ L4 : List Nat, (X.Hid [] w w3) →
 (X.NewL w.heap.size [] w w3 L4) →
 X.CallX Tryz.prog 20 #[(.pointer (some (a.add 0))), .int .u8 b_1] w3 fun e5 w6 =>
 (e5 = .returned (.tuple #[])) ∧
 (X.Kept L4 w3 w6) ∧
 ∃ x7 : X.Facts, (X.FactsW x7 w6 L4) ∧
 ∀ w8 : World, ∀ L9 : List Nat, (X.Hid L4 w6 w8) →
 (X.NewL w.heap.size L4 w6 w8 L9) →
 X.CallX Tryz.prog 68 #[(.pointer (some (a.add 0))), (.agg #[.int .u8 b_25, .int .u16 b_26])] w8 fun e10 w11 =>
 (e10 = .returned (.tuple #[])) ∧
 (X.Kept L9 w8 w11) ∧
 R (.returned (.tuple #[])) w11
 else
 ∀ w1 : World, (X.Hid [] w w1) →
 R (.returned (.tuple #[])) w1) :
 Calls Tryz.prog 21 #[.pointer (some a), .agg #[.int .u8 b_0, .int .u8 b_1, .int .u8 b_2, .int .u32 b_3, .int .u32 b_4, .int .u32 b_5, .int .u32 b_6, .int .u64 b_7, .int .u64 b_8, .int .u8 b_9, .int .u16 b_10, .int .u32 b_11, .int .u8 b_12, .int .u8 b_13, .int .u8 b_14, .int .u8 b_15, .int .u8 b_16, .int .u8 b_17, .int .u8 b_18, .slice b_19 b_19l b_19c, .int .u8 b_20, .string b_21, .int .u8 b_22, .int .u32 b_23, .slice b_24 b_24l b_24c, .int .u8 b_25, .int .u16 b_26, .bool b_27, .slice b_28 b_28l b_28c, .slice b_29 b_29l b_29c, .slice b_30 b_30l b_30c]] w R :=
 X.calls_of { isLoc := [3], sym := [], loops := [], joins := [] } Tryz.func21 (by kernel_rfl) h
end Go.Proofs
/- The verification conditions of this seat's functions, as the engine has them: printed by a program of the bench; checked by the kernel. -/
namespace Go.Proofs
open Go
theorem x_Word (a : Int) (w : World) (R : Ending → World → Prop) (h :
 if (decide ((IntKind.wrap .i64 a) ≥ 14)) = true then
 ∀ w15 : World, (X.Hid [] w w15) →
 R (.returned (.string (ByteArray.mk #[]))) w15
 else
 ((0 : Int) ≤ a) ∧
 (a < 14) ∧
 ((((((((((((((a = 0) →
 ∀ w1 : World, (X.Hid [] w w1) →
 R (.returned (.string (ByteArray.mk #[OfNat.ofNat 65, OfNat.ofNat 115, OfNat.ofNat 107]))) w1) ∧
 ((a = 1) →
 ∀ w2 : World, (X.Hid [] w w2) →
 R (.returned (.string (ByteArray.mk #[OfNat.ofNat 65, OfNat.ofNat 110, OfNat.ofNat 115, OfNat.ofNat 119, OfNat.ofNat 101, OfNat.ofNat 114]))) w2)) ∧
 ((a = 2) →
 ∀ w3 : World, (X.Hid [] w w3) →
 R (.returned (.string (ByteArray.mk #[OfNat.ofNat 82, OfNat.ofNat 101, OfNat.ofNat 102, OfNat.ofNat 117, OfNat.ofNat 115, OfNat.ofNat 101]))) w3)) ∧
 ((a = 3) →
 ∀ w4 : World, (X.Hid [] w w4) →
 R (.returned (.string (ByteArray.mk #[OfNat.ofNat 65, OfNat.ofNat 112, OfNat.ofNat 112, OfNat.ofNat 101, OfNat.ofNat 110, OfNat.ofNat 100]))) w4)) ∧
 ((a = 4) →
 ∀ w5 : World, (X.Hid [] w w5) →
 R (.returned (.string (ByteArray.mk #[OfNat.ofNat 65, OfNat.ofNat 99, OfNat.ofNat 107, OfNat.ofNat 101, OfNat.ofNat 100]))) w5)) ∧
 ((a = 5) →
 ∀ w6 : World, (X.Hid [] w w6) →
 R (.returned (.string (ByteArray.mk #[OfNat.ofNat 80, OfNat.ofNat 114, OfNat.ofNat 101, OfNat.ofNat 112, OfNat.ofNat 97, OfNat.ofNat 114, OfNat.ofNat 101]))) w6)) ∧
 ((a = 6) →
 ∀ w7 : World, (X.Hid [] w w7) →
 R (.returned (.string (ByteArray.mk #[OfNat.ofNat 65, OfNat.ofNat 99, OfNat.ofNat 99, OfNat.ofNat 101, OfNat.ofNat 112, OfNat.ofNat 116]))) w7)) ∧
 ((a = 7) →
 ∀ w8 : World, (X.Hid [] w w8) →
 R (.returned (.string (ByteArray.mk #[OfNat.ofNat 78, OfNat.ofNat 97, OfNat.ofNat 99, OfNat.ofNat 107]))) w8)) ∧
 ((a = 8) →
 ∀ w9 : World, (X.Hid [] w w9) →
 R (.returned (.string (ByteArray.mk #[OfNat.ofNat 80, OfNat.ofNat 114, OfNat.ofNat 111, OfNat.ofNat 109, OfNat.ofNat 105, OfNat.ofNat 115, OfNat.ofNat 101]))) w9)) ∧
 ((a = 9) →
 ∀ w10 : World, (X.Hid [] w w10) →
 R (.returned (.string (ByteArray.mk #[OfNat.ofNat 80, OfNat.ofNat 114, OfNat.ofNat 111, OfNat.ofNat 112, OfNat.ofNat 111, OfNat.ofNat 115, OfNat.ofNat 101]))) w10)) ∧
 ((a = 10) →
 ∀ w11 : World, (X.Hid [] w w11) →
 R (.returned (.string (ByteArray.mk #[OfNat.ofNat 73, OfNat.ofNat 110, OfNat.ofNat 115, OfNat.ofNat 116, OfNat.ofNat 97, OfNat.ofNat 108, OfNat.ofNat 108]))) w11)) ∧
 ((a = 11) →
 ∀ w12 : World, (X.Hid [] w w12) →
 R (.returned (.string (ByteArray.mk #[OfNat.ofNat 74, OfNat.ofNat 111, OfNat.ofNat 105, OfNat.ofNat 110]))) w12)) ∧
 ((a = 12) →
 ∀ w13 : World, (X.Hid [] w w13) →
 R (.returned (.string (ByteArray.mk #[OfNat.ofNat 76, OfNat.ofNat 101, OfNat.ofNat 97, OfNat.ofNat 118, OfNat.ofNat 101]))) w13)) ∧
 ((a = 13) →
 ∀ w14 : World, (X.Hid [] w w14) →
 R (.returned (.string (ByteArray.mk #[OfNat.ofNat 83, OfNat.ofNat 108, OfNat.ofNat 97, OfNat.ofNat 121]))) w14)) :
 Calls Tryz.prog 18 #[.int .u8 a] w R :=
 X.calls_of { isLoc := [3], sym := [9], loops := [], joins := [] } Tryz.func18 (by kernel_rfl) h
end Go.Proofs
/- The verification conditions of this seat's functions, as the engine has them: printed by a program of the bench; checked by the kernel. -/
namespace Go.Proofs
open Go
theorem x_Rnone (a : Addr) (w : World) (R : Ending → World → Prop) (h :
 ∃ b1 : Bool, (World.cell? w (a.add 2) = some (.bool b1)) ∧
 R (.returned (.bool (false || (!b1)))) w) :
 Calls Tryz.prog 82 #[.pointer (some a)] w R :=
 X.calls_of { isLoc := [], sym := [], loops := [], joins := [] } Tryz.func82 (by kernel_rfl) h
theorem x_cfail (a : Addr) (b : Int) (w : World) (R : Ending → World → Prop) (h :
 ∃ n1 : Int, (World.cell? w (a.add 1) = some (.int .i64 n1)) ∧
 if (n1 == 0) = true then
 ((none : Option Nat) = none) ∧
 (World.there w (a.block) ((a.off) + 1) 1) ∧
 (((a.add 0).spot) = none) ∧
 (World.there (w.setCells (a.block) ((a.off) + 1) [.int .i64 b]) ((a.add 0).block) ((a.add 0).off) 1) ∧
 R (.returned (.tuple #[])) ((w.setCells (a.block) ((a.off) + 1) [.int .i64 b]).setCells ((a.add 0).block) ((a.add 0).off) [.slice none 0 0])
 else
 (((a.add 0).spot) = none) ∧
 (World.there w ((a.add 0).block) ((a.add 0).off) 1) ∧
 R (.returned (.tuple #[])) (w.setCells ((a.add 0).block) ((a.add 0).off) [.slice none 0 0])) :
 Calls Tryz.prog 133 #[.pointer (some a), .int .i64 b] w R :=
 X.calls_of { isLoc := [], sym := [], loops := [], joins := [] } Tryz.func133 (by kernel_rfl) h
theorem x_ctake (a : Addr) (b : Int) (w : World) (R : Ending → World → Prop) (h :
 ∃ n1 : Int, (World.cell? w (a.add 1) = some (.int .i64 n1)) ∧
 if ((n1 != 0) == false) = true then
 ∃ q4 : Option Addr, ∃ k5 k6 : Nat, (World.cell? w (a.add 0) = some (.slice q4 k5 k6)) ∧
 if (false || decide (b > (IntKind.wrap .u64 ((k5 : Nat) : Int)))) = true then
 X.CallX Tryz.prog 133 #[.pointer (some a), .int .i64 6] w fun e13 w14 =>
 (e13 = .returned (.tuple #[])) ∧
 (w.heap.size ≤ w14.heap.size) ∧
 R (.returned (.slice none 0 0)) w14
 else
 ∃ q7 : Option Addr, ∃ k8 k9 : Nat, (World.cell? w (a.add 0) = some (.slice q7 k8 k9)) ∧
 ((0 : Int) ≤ b) ∧
 (b ≤ ((k9 : Nat) : Int)) ∧
 ∃ q10 : Option Addr, ∃ k11 k12 : Nat, (World.cell? w (a.add 0) = some (.slice q10 k11 k12)) ∧
 ((0 : Int) ≤ b) ∧
 (b ≤ ((k11 : Nat) : Int)) ∧
 (((a.add 0).spot) = none) ∧
 (World.there w ((a.add 0).block) ((a.add 0).off) 1) ∧
 R (.returned (.slice (X.cutA q7 k9 0 1) (b).toNat k9)) (w.setCells ((a.add 0).block) ((a.add 0).off) [(.slice (X.cutA q10 k12 (b).toNat 1) (k11 - (b).toNat) (k12 - (b).toNat))])
 else
 X.CallX Tryz.prog 133 #[.pointer (some a), .int .i64 6] w fun e2 w3 =>
 (e2 = .returned (.tuple #[])) ∧
 (w.heap.size ≤ w3.heap.size) ∧
 R (.returned (.slice none 0 0)) w3) :
 Calls Tryz.prog 84 #[.pointer (some a), .int .u64 b] w R :=
 X.calls_of { isLoc := [], sym := [], loops := [], joins := [] } Tryz.func84 (by kernel_rfl) h
theorem x_clength (a : Addr) (w : World) (R : Ending → World → Prop) (h :
 ∃ q1 : Option Addr, ∃ k2 k3 : Nat, (World.cell? w (a.add 0) = some (.slice q1 k2 k3)) ∧
 ∃ x4 : Int → World → List Nat → Prop, ∃ x5 : Int → World → Nat, (x4 0 w []) ∧
 ∀ n6 : Int, ∀ w7 : World, ∀ L8 : List Nat, (X.LF w.heap.size w7 L8) →
 (x4 n6 w7 L8) →
 if (decide (n6 < ((k2 : Nat) : Int))) = true then
 ((0 : Int) ≤ n6) ∧
 (n6 < ((k2 : Nat) : Int)) ∧
 X.onSome q1 fun p9 =>
 ∃ n10 : Int, (World.cell? w7 (p9.add ((n6).toNat * 1)) = some (.int .u8 n10)) ∧
 if (((n6 == 9) && decide (n10 > 1)) || (decide (n6 > 0) && (n10 == 0))) = true then
 R (.returned (.int .i64 0)) w7
 else
 if (decide (n10 < 128)) = true then
 R (.returned (.int .i64 (IntKind.wrap .i64 (n6 + 1)))) w7
 else
 (x4 (IntKind.wrap .i64 (n6 + 1)) w7 []) ∧
 Nat.le ((x5 (IntKind.wrap .i64 (n6 + 1)) w7) + 1) (x5 n6 w7)
 else
 R (.returned (.int .i64 0)) w7) :
 Calls Tryz.prog 157 #[.pointer (some a)] w R :=
 X.calls_of { isLoc := [], sym := [], loops := [(2, .inv [(10, .int .i64)] [] true)], joins := [] } Tryz.func157 (by kernel_rfl) h
theorem x_first (a : Option Addr) (al ac : Nat) (w : World) (R : Ending → World → Prop) (h :
 ∃ x1 : Int → World → List Nat → Prop, ∃ x2 : Int → World → Nat, (x1 0 w []) ∧
 ∀ n3 : Int, ∀ w4 : World, ∀ L5 : List Nat, (X.LF w.heap.size w4 L5) →
 (x1 n3 w4 L5) →
 if (decide (n3 < ((al : Nat) : Int))) = true then
 ((0 : Int) ≤ n3) ∧
 (n3 < ((al : Nat) : Int)) ∧
 X.onSome a fun p6 =>
 ∃ n7 : Int, (World.cell? w4 (p6.add ((n3).toNat * 1)) = some (.int .u8 n7)) ∧
 R (.returned (.int .u8 n7)) w4
 else
 R (.returned (.int .u8 0)) w4) :
 Calls Tryz.prog 83 #[.slice a al ac] w R :=
 X.calls_of { isLoc := [], sym := [], loops := [(3, .inv [(8, .int .i64)] [] true)], joins := [] } Tryz.func83 (by kernel_rfl) h
theorem x_RB (a : Addr) (w : World) (R : Ending → World → Prop) (h :
 X.CallX Tryz.prog 82 #[.pointer (some a)] w fun e1 w2 =>
 ∃ b3 : Bool, (e1 = .returned (.bool b3)) ∧
 (w.heap.size ≤ w2.heap.size) ∧
 if b3 = true then
 R (.returned (.int .u8 0)) w2
 else
 X.CallX Tryz.prog 84 #[(.pointer (some (a.add 0))), .int .u64 1] w2 fun e4 w5 =>
 ∃ q6 : Option Addr, ∃ k7 k8 : Nat, (e4 = .returned (.slice q6 k7 k8)) ∧
 (w2.heap.size ≤ w5.heap.size) ∧
 X.CallX Tryz.prog 83 #[.slice q6 k7 k8] w5 fun e9 w10 =>
 ∃ n11 : Int, (e9 = .returned (.int .u8 n11)) ∧
 (w5.heap.size ≤ w10.heap.size) ∧
 R (.returned (.int .u8 n11)) w10) :
 Calls Tryz.prog 34 #[.pointer (some a)] w R :=
 X.calls_of { isLoc := [], sym := [], loops := [], joins := [] } Tryz.func34 (by kernel_rfl) h
theorem x_RU (a : Addr) (b : Int) (w : World) (R : Ending → World → Prop) (h :
 X.CallX Tryz.prog 82 #[.pointer (some a)] w fun e1 w2 =>
 ∃ b3 : Bool, (e1 = .returned (.bool b3)) ∧
 (w.heap.size ≤ w2.heap.size) ∧
 if b3 = true then
 R (.returned (.int .u64 0)) w2
 else
 X.CallX Tryz.prog 157 #[(.pointer (some (a.add 0)))] w2 fun e4 w5 =>
 ∃ n6 : Int, (e4 = .returned (.int .i64 n6)) ∧
 (w2.heap.size ≤ w5.heap.size) ∧
 if (n6 == 0) = true then
 X.CallX Tryz.prog 133 #[(.pointer (some (a.add 0))), .int .i64 6] w5 fun e22 w23 =>
 (e22 = .returned (.tuple #[])) ∧
 (w5.heap.size ≤ w23.heap.size) ∧
 R (.returned (.int .u64 0)) w23
 else
 X.CallX Tryz.prog 84 #[(.pointer (some (a.add 0))), .int .u64 (IntKind.wrap .u64 n6)] w5 fun e7 w8 =>
 ∃ q9 : Option Addr, ∃ k10 k11 : Nat, (e7 = .returned (.slice q9 k10 k11)) ∧
 (w5.heap.size ≤ w8.heap.size) ∧
 ∃ x12 : Int → Int → World → List Nat → Prop, ∃ x13 : Int → Int → World → Nat, (x12 0 0 w8 []) ∧
 ∀ n14 n15 : Int, ∀ w16 : World, ∀ L17 : List Nat, (X.LF w.heap.size w16 L17) →
 (x12 n14 n15 w16 L17) →
 if (decide (n15 < ((k10 : Nat) : Int))) = true then
 ((0 : Int) ≤ n15) ∧
 (n15 < ((k10 : Nat) : Int)) ∧
 X.onSome q9 fun p20 =>
 ∃ n21 : Int, (World.cell? w16 (p20.add ((n15).toNat * 1)) = some (.int .u8 n21)) ∧
 ((0 : Int) ≤ (IntKind.wrap .i64 (7 * n15))) ∧
 (x12 (IntKind.wrap .u64 ((((BitVec.ofInt 64 n14 ||| BitVec.ofInt 64 (IntKind.u64.wrap (IntKind.u64.wrap (IntKind.u8.wrap ↑(BitVec.ofInt 8 n21 &&& ~~~BitVec.ofInt 8 128).toNat) * 2 ^ min (IntKind.i64.wrap (7 * n15)).toNat 64))).toNat) : Nat) : Int)) (IntKind.wrap .i64 (n15 + 1)) w16 []) ∧
 Nat.le ((x13 (IntKind.wrap .u64 ((((BitVec.ofInt 64 n14 ||| BitVec.ofInt 64 (IntKind.u64.wrap (IntKind.u64.wrap (IntKind.u8.wrap ↑(BitVec.ofInt 8 n21 &&& ~~~BitVec.ofInt 8 128).toNat) * 2 ^ min (IntKind.i64.wrap (7 * n15)).toNat 64))).toNat) : Nat) : Int)) (IntKind.wrap .i64 (n15 + 1)) w16) + 1) (x13 n14 n15 w16)
 else
 if (decide (n14 > b)) = true then
 X.CallX Tryz.prog 133 #[(.pointer (some (a.add 0))), .int .i64 5] w16 fun e18 w19 =>
 (e18 = .returned (.tuple #[])) ∧
 (w16.heap.size ≤ w19.heap.size) ∧
 R (.returned (.int .u64 0)) w19
 else
 R (.returned (.int .u64 n14)) w16) :
 Calls Tryz.prog 134 #[.pointer (some a), .int .u64 b] w R :=
 X.calls_of { isLoc := [], sym := [39], loops := [(9, .inv [(6, .int .u64), (28, .int .i64)] [] true)], joins := [] } Tryz.func134 (by kernel_rfl) h
theorem x_RText (a : Addr) (b : Int) (w : World) (R : Ending → World → Prop) (h :
 X.CallX Tryz.prog 82 #[.pointer (some a)] w fun e1 w2 =>
 ∃ b3 : Bool, (e1 = .returned (.bool b3)) ∧
 (w.heap.size ≤ w2.heap.size) ∧
 if b3 = true then
 R (.returned (.string (ByteArray.mk #[]))) w2
 else
 X.CallX Tryz.prog 134 #[.pointer (some a), (.int .u64 (IntKind.wrap .u64 (if (0 : Int) > b then 0 else b)))] w2 fun e4 w5 =>
 ∃ n6 : Int, (e4 = .returned (.int .u64 n6)) ∧
 (w2.heap.size ≤ w5.heap.size) ∧
 X.CallX Tryz.prog 84 #[(.pointer (some (a.add 0))), .int .u64 n6] w5 fun e7 w8 =>
 ∃ q9 : Option Addr, ∃ k10 k11 : Nat, (e7 = .returned (.slice q9 k10 k11)) ∧
 (w5.heap.size ≤ w8.heap.size) ∧
 ∃ s12 : ByteArray, ∃ w13 : World, (Sem.run Tryz.prog (Go.convert 41 9 (.slice q9 k10 k11)) w8 = .ok (.string s12) w13) ∧
 (w8.heap.size ≤ w13.heap.size) ∧
 R (.returned (.string s12)) w13) :
 Calls Tryz.prog 137 #[.pointer (some a), .int .i64 b] w R :=
 X.calls_of { isLoc := [], sym := [], loops := [], joins := [] } Tryz.func137 (by kernel_rfl) h
theorem x_RErr (a : Addr) (w : World) (R : Ending → World → Prop) (h :
 X.CallX Tryz.prog 82 #[.pointer (some a)] w fun e1 w2 =>
 ∃ b3 : Bool, (e1 = .returned (.bool b3)) ∧
 (w.heap.size ≤ w2.heap.size) ∧
 if b3 = true then
 R (.returned (.int .i64 1)) w2
 else
 ∃ n4 : Int, (World.cell? w2 ((a.add 0).add 1) = some (.int .i64 n4)) ∧
 R (.returned (.int .i64 n4)) w2) :
 Calls Tryz.prog 35 #[.pointer (some a)] w R :=
 X.calls_of { isLoc := [], sym := [], loops := [], joins := [] } Tryz.func35 (by kernel_rfl) h
theorem x_REnd (a : Addr) (w : World) (R : Ending → World → Prop) (h :
 X.CallX Tryz.prog 35 #[.pointer (some a)] w fun e1 w2 =>
 ∃ n3 : Int, (e1 = .returned (.int .i64 n3)) ∧
 (w.heap.size ≤ w2.heap.size) ∧
 if ((n3 != 0) == false) = true then
 ∃ q4 : Option Addr, ∃ k5 k6 : Nat, (World.cell? w2 ((a.add 0).add 0) = some (.slice q4 k5 k6)) ∧
 if (false || (((k5 : Nat) : Int) == 0)) = true then
 R (.returned (.int .i64 n3)) w2
 else
 R (.returned (.int .i64 6)) w2
 else
 R (.returned (.int .i64 n3)) w2) :
 Calls Tryz.prog 37 #[.pointer (some a)] w R :=
 X.calls_of { isLoc := [], sym := [], loops := [], joins := [] } Tryz.func37 (by kernel_rfl) h
theorem x_RFail (a : Addr) (b : Int) (w : World) (R : Ending → World → Prop) (h :
 X.CallX Tryz.prog 82 #[.pointer (some a)] w fun e1 w2 =>
 ∃ b3 : Bool, (e1 = .returned (.bool b3)) ∧
 (w.heap.size ≤ w2.heap.size) ∧
 if ((!b3) && (b != 0)) = true then
 X.CallX Tryz.prog 133 #[(.pointer (some (a.add 0))), .int .i64 b] w2 fun e4 w5 =>
 (e4 = .returned (.tuple #[])) ∧
 (w2.heap.size ≤ w5.heap.size) ∧
 R (.returned (.tuple #[])) w5
 else
 R (.returned (.tuple #[])) w2) :
 Calls Tryz.prog 140 #[.pointer (some a), .int .i64 b] w R :=
 X.calls_of { isLoc := [], sym := [], loops := [], joins := [] } Tryz.func140 (by kernel_rfl) h
theorem x_Read1 (a : Option Addr) (al ac : Nat) (w : World) (R : Ending → World → Prop) (h :
 ∃ q1 : Option Addr, ∃ k2 k3 : Nat, ∃ w4 : World, (Sem.run Tryz.prog (Go.Builtin.append_ #[41, 41] 41 #[.slice none 0 0, .slice a al ac]) w = .ok (.slice q1 k2 k3) w4) ∧
 (w.heap.size ≤ w4.heap.size) ∧
 R (.returned (.pointer (some ⟨w4.heap.size, 0, none⟩))) (w4.alloc (.cells #[.slice q1 k2 k3, .int .i64 0, .bool true] 158))) :
 Calls Tryz.prog 33 #[.slice a al ac] w R :=
 X.calls_of { isLoc := [], sym := [], loops := [], joins := [] } Tryz.func33 (by kernel_rfl) h
theorem x_rdwide (a_0 : Option Addr) (w : World) (R : Ending → World → Prop) (h :
 ∀ w1 : World, ∀ L2 : List Nat, (X.Hid [] w w1) →
 (X.NewL w.heap.size [] w w1 L2) →
 X.CallX Tryz.prog 134 #[.pointer a_0, .int .u64 18446744073709551615] w1 fun e3 w4 =>
 ∃ n5 : Int, (e3 = .returned (.int .u64 n5)) ∧
 (X.Kept L2 w1 w4) ∧
 R (.returned (.int .u64 n5)) w4) :
 Calls Tryz.prog 93 #[.agg #[.pointer a_0]] w R :=
 X.calls_of { isLoc := [1], sym := [], loops := [], joins := [] } Tryz.func93 (by kernel_rfl) h
theorem x_rdword (a_0 : Option Addr) (w : World) (R : Ending → World → Prop) (h :
 ∀ w1 : World, ∀ L2 : List Nat, (X.Hid [] w w1) →
 (X.NewL w.heap.size [] w w1 L2) →
 X.CallX Tryz.prog 134 #[.pointer a_0, .int .u64 4294967295] w1 fun e3 w4 =>
 ∃ n5 : Int, (e3 = .returned (.int .u64 n5)) ∧
 (X.Kept L2 w1 w4) ∧
 R (.returned (.int .u32 (IntKind.wrap .u32 n5))) w4) :
 Calls Tryz.prog 86 #[.agg #[.pointer a_0]] w R :=
 X.calls_of { isLoc := [1], sym := [], loops := [], joins := [] } Tryz.func86 (by kernel_rfl) h
theorem x_rdflag (a_0 : Option Addr) (w : World) (R : Ending → World → Prop) (h :
 ∀ w1 : World, ∀ L2 : List Nat, (X.Hid [] w w1) →
 (X.NewL w.heap.size [] w w1 L2) →
 X.CallX Tryz.prog 34 #[.pointer a_0] w1 fun e3 w4 =>
 ∃ n5 : Int, (e3 = .returned (.int .u8 n5)) ∧
 (X.Kept L2 w1 w4) ∧
 if (decide (n5 > 1)) = true then
 X.CallX Tryz.prog 140 #[.pointer a_0, .int .i64 6] w4 fun e6 w7 =>
 (e6 = .returned (.tuple #[])) ∧
 (X.Kept L2 w4 w7) ∧
 R (.returned (.bool (n5 == 1))) w7
 else
 R (.returned (.bool (n5 == 1))) w4) :
 Calls Tryz.prog 92 #[.agg #[.pointer a_0]] w R :=
 X.calls_of { isLoc := [1], sym := [], loops := [], joins := [] } Tryz.func92 (by kernel_rfl) h
theorem x_GetProc (a : Addr) (w : World) (R : Ending → World → Prop) (h :
 ∀ w1 : World, ∀ L2 : List Nat, (X.Hid [] w w1) →
 (X.NewL w.heap.size [] w w1 L2) →
 X.CallX Tryz.prog 34 #[.pointer (some a)] w1 fun e3 w4 =>
 ∃ n5 : Int, (e3 = .returned (.int .u8 n5)) ∧
 (X.Kept L2 w1 w4) ∧
 X.CallX Tryz.prog 134 #[.pointer (some a), .int .u64 65535] w4 fun e6 w7 =>
 ∃ n8 : Int, (e6 = .returned (.int .u64 n8)) ∧
 (X.Kept L2 w4 w7) ∧
 ∀ w9 : World, (X.Hid L2 w7 w9) →
 R (.returned (.agg #[.int .u8 n5, .int .u16 (IntKind.wrap .u16 n8)])) w9) :
 Calls Tryz.prog 95 #[.pointer (some a)] w R :=
 X.calls_of { isLoc := [2], sym := [], loops := [], joins := [] } Tryz.func95 (by kernel_rfl) h
end Go.Proofs
/- The verification conditions of this seat's functions, as the engine has them: printed by a program of the bench; checked by the kernel. -/
namespace Go.Proofs
open Go
theorem x_steps (a_0 a_1 a_2 a_3 a_4 a_5 a_6 a_7 a_8 a_9 : Int) (w : World) (R : Ending → World → Prop) (h :
 ∀ w1 : World, ∀ L2 : List Nat, (X.Hid [] w w1) →
 (X.NewL w.heap.size [] w w1 L2) →
 ((none : Option Nat) = none) ∧
 (World.there (w1.alloc (.cells #[.int .u8 0, .int .u8 0, .int .u8 0, .int .u8 0, .int .u8 0, .int .u8 0] 49)) w1.heap.size 0 6) ∧
 (¬ (w1.heap.size ∈ L2)) ∧
 ((0 : Int) ≤ (if (3 : Int) < (IntKind.wrap .i64 a_3) then 3 else (IntKind.wrap .i64 a_3))) ∧
 ((if (3 : Int) < (IntKind.wrap .i64 a_3) then 3 else (IntKind.wrap .i64 a_3)) ≤ 3) ∧
 R (.returned (.slice (some ⟨w1.heap.size, 0, none⟩) ((if (3 : Int) < (IntKind.wrap .i64 a_3) then 3 else (IntKind.wrap .i64 a_3))).toNat 3)) ((w1.alloc (.cells #[.int .u8 0, .int .u8 0, .int .u8 0, .int .u8 0, .int .u8 0, .int .u8 0] 49)).setCells w1.heap.size 0 [.int .u8 a_4, .int .u8 a_5, .int .u8 a_6, .int .u8 a_7, .int .u8 a_8, .int .u8 a_9])) :
 Calls Tryz.prog 118 #[.agg #[.int .u8 a_0, .int .u16 a_1, .int .u32 a_2, .int .u8 a_3, .int .u8 a_4, .int .u8 a_5, .int .u8 a_6, .int .u8 a_7, .int .u8 a_8, .int .u8 a_9]] w R :=
 X.calls_of { isLoc := [1], sym := [], loops := [], joins := [] } Tryz.func118 (by kernel_rfl) h
theorem x_PutID (a : Addr) (b_0 b_1 b_2 b_3 b_4 b_5 b_6 b_7 b_8 b_9 : Int) (w : World) (R : Ending → World → Prop) (h :
 ∀ w1 : World, ∀ L2 : List Nat, (X.Hid [] w w1) →
 (X.NewL w.heap.size [] w w1 L2) →
 X.CallX Tryz.prog 68 #[.pointer (some a), (.agg #[.int .u8 b_0, .int .u16 b_1])] w1 fun e3 w4 =>
 (e3 = .returned (.tuple #[])) ∧
 (X.Kept L2 w1 w4) ∧
 X.CallX Tryz.prog 60 #[.pointer (some a), .int .u64 (IntKind.wrap .u64 b_2)] w4 fun e5 w6 =>
 (e5 = .returned (.tuple #[])) ∧
 (X.Kept L2 w4 w6) ∧
 X.CallX Tryz.prog 20 #[.pointer (some a), .int .u8 b_3] w6 fun e7 w8 =>
 (e7 = .returned (.tuple #[])) ∧
 (X.Kept L2 w6 w8) ∧
 X.CallX Tryz.prog 118 #[(.agg #[.int .u8 b_0, .int .u16 b_1, .int .u32 b_2, .int .u8 b_3, .int .u8 b_4, .int .u8 b_5, .int .u8 b_6, .int .u8 b_7, .int .u8 b_8, .int .u8 b_9])] w8 fun e9 w10 =>
 ∃ q11 : Option Addr, ∃ k12 k13 : Nat, (e9 = .returned (.slice q11 k12 k13)) ∧
 (X.Kept L2 w8 w10) ∧
 ∃ x14 : Int → World → List Nat → Prop, ∃ x15 : Int → World → Nat, (x14 0 w10 L2) ∧
 ∀ n16 : Int, ∀ w17 : World, ∀ L18 : List Nat, (X.LF w.heap.size w17 L18) →
 (x14 n16 w17 L18) →
 if (decide (n16 < ((k12 : Nat) : Int))) = true then
 ((0 : Int) ≤ n16) ∧
 (n16 < ((k12 : Nat) : Int)) ∧
 X.onSome q11 fun p19 =>
 ∃ n20 n21 : Int, (X.Cells w17 (p19.add ((n16).toNat * 2)) [.int .u8 n20, .int .u8 n21]) ∧
 (¬ (((p19.add (n16.toNat * 2)).block) ∈ L18)) ∧
 ∀ w22 : World, ∀ L23 : List Nat, (X.Hid L18 w17 w22) →
 (X.NewL w.heap.size L18 w17 w22 L23) →
 X.CallX Tryz.prog 20 #[.pointer (some a), .int .u8 n20] w22 fun e24 w25 =>
 (e24 = .returned (.tuple #[])) ∧
 (X.Kept L23 w22 w25) ∧
 X.CallX Tryz.prog 20 #[.pointer (some a), .int .u8 n21] w25 fun e26 w27 =>
 (e26 = .returned (.tuple #[])) ∧
 (X.Kept L23 w25 w27) ∧
 (([.int .u8 b_0, .int .u16 b_1, .int .u32 b_2, .int .u8 b_3, .int .u8 b_4, .int .u8 b_5, .int .u8 b_6, .int .u8 b_7, .int .u8 b_8, .int .u8 b_9] : List Value) = [.int .u8 b_0, .int .u16 b_1, .int .u32 b_2, .int .u8 b_3, .int .u8 b_4, .int .u8 b_5, .int .u8 b_6, .int .u8 b_7, .int .u8 b_8, .int .u8 b_9]) ∧
 (x14 (IntKind.wrap .i64 (n16 + 1)) w27 L23) ∧
 Nat.le ((x15 (IntKind.wrap .i64 (n16 + 1)) w27) + 1) (x15 n16 w17)
 else
 R (.returned (.tuple #[])) w17) :
 Calls Tryz.prog 59 #[.pointer (some a), .agg #[.int .u8 b_0, .int .u16 b_1, .int .u32 b_2, .int .u8 b_3, .int .u8 b_4, .int .u8 b_5, .int .u8 b_6, .int .u8 b_7, .int .u8 b_8, .int .u8 b_9]] w R :=
 X.calls_of { isLoc := [3, 5], sym := [], loops := [(5, .inv [(22, .int .i64)] [] true)], joins := [] } Tryz.func59 (by kernel_rfl) h
theorem x_Zig (a : Int) (w : World) (R : Ending → World → Prop) (h :
 R (.returned (.int .u64 (IntKind.wrap .u64 ((((BitVec.ofInt 64 (IntKind.u64.wrap (IntKind.u64.wrap a * 2)) ^^^ BitVec.ofInt 64 (IntKind.u64.wrap (a.fdiv 9223372036854775808))).toNat) : Nat) : Int)))) w) :
 Calls Tryz.prog 169 #[.int .i64 a] w R :=
 X.calls_of { isLoc := [], sym := [], loops := [], joins := [] } Tryz.func169 (by kernel_rfl) h
theorem x_WI (a : Addr) (b : Int) (w : World) (R : Ending → World → Prop) (h :
 X.CallX Tryz.prog 169 #[.int .i64 b] w fun e1 w2 =>
 ∃ n3 : Int, (e1 = .returned (.int .u64 n3)) ∧
 (w.heap.size ≤ w2.heap.size) ∧
 X.CallX Tryz.prog 60 #[.pointer (some a), .int .u64 n3] w2 fun e4 w5 =>
 (e4 = .returned (.tuple #[])) ∧
 (w2.heap.size ≤ w5.heap.size) ∧
 R (.returned (.tuple #[])) w5) :
 Calls Tryz.prog 152 #[.pointer (some a), .int .i64 b] w R :=
 X.calls_of { isLoc := [], sym := [], loops := [], joins := [] } Tryz.func152 (by kernel_rfl) h
theorem x_pPut (a : Addr) (b_0 b_1 : Int) (b_2 b_3 : ByteArray) (b_4 : Int) (w : World) (R : Ending → World → Prop) (h :
 ∀ w1 : World, ∀ L2 : List Nat, (X.Hid [] w w1) →
 (X.NewL w.heap.size [] w w1 L2) →
 X.CallX Tryz.prog 20 #[.pointer (some a), .int .u8 b_0] w1 fun e3 w4 =>
 (e3 = .returned (.tuple #[])) ∧
 (X.Kept L2 w1 w4) ∧
 X.CallX Tryz.prog 20 #[.pointer (some a), .int .u8 b_1] w4 fun e5 w6 =>
 (e5 = .returned (.tuple #[])) ∧
 (X.Kept L2 w4 w6) ∧
 X.CallX Tryz.prog 120 #[.pointer (some a), .string b_2] w6 fun e7 w8 =>
 (e7 = .returned (.tuple #[])) ∧
 (X.Kept L2 w6 w8) ∧
 X.CallX Tryz.prog 120 #[.pointer (some a), .string b_3] w8 fun e9 w10 =>
 (e9 = .returned (.tuple #[])) ∧
 (X.Kept L2 w8 w10) ∧
 X.CallX Tryz.prog 152 #[.pointer (some a), .int .i64 b_4] w10 fun e11 w12 =>
 (e11 = .returned (.tuple #[])) ∧
 (X.Kept L2 w10 w12) ∧
 R (.returned (.tuple #[])) w12) :
 Calls Tryz.prog 119 #[.pointer (some a), .agg #[.int .u8 b_0, .int .u8 b_1, .string b_2, .string b_3, .int .i64 b_4]] w R :=
 X.calls_of { isLoc := [3], sym := [], loops := [], joins := [] } Tryz.func119 (by kernel_rfl) h
theorem x_pPutAll (a : Addr) (b : Option Addr) (bl bc : Nat) (w : World) (R : Ending → World → Prop) (h :
 ((0 : Int) ≤ (if (255 : Int) < ((bl : Nat) : Int) then 255 else ((bl : Nat) : Int))) ∧
 ((if (255 : Int) < ((bl : Nat) : Int) then 255 else ((bl : Nat) : Int)) ≤ ((bc : Nat) : Int)) ∧
 X.CallX Tryz.prog 20 #[.pointer (some a), (.int .u8 (IntKind.wrap .u8 ((((if (255 : Int) < ((bl : Nat) : Int) then 255 else ((bl : Nat) : Int))).toNat : Nat) : Int)))] w fun e1 w2 =>
 (e1 = .returned (.tuple #[])) ∧
 (w.heap.size ≤ w2.heap.size) ∧
 ∃ x3 : Int → World → List Nat → Prop, ∃ x4 : Int → World → Nat, (x3 0 w2 []) ∧
 ∀ n5 : Int, ∀ w6 : World, ∀ L7 : List Nat, (X.LF w.heap.size w6 L7) →
 (x3 n5 w6 L7) →
 if (decide (n5 < ((((if (255 : Int) < ((bl : Nat) : Int) then 255 else ((bl : Nat) : Int))).toNat : Nat) : Int))) = true then
 ((0 : Int) ≤ n5) ∧
 (n5 < ((((if (255 : Int) < ((bl : Nat) : Int) then 255 else ((bl : Nat) : Int))).toNat : Nat) : Int)) ∧
 X.onSome (X.cutA b bc 0 5) fun p8 =>
 ∃ n9 n10 : Int, ∃ s11 s12 : ByteArray, ∃ n13 : Int, (X.Cells w6 (p8.add ((n5).toNat * 5)) [.int .u8 n9, .int .u8 n10, .string s11, .string s12, .int .i64 n13]) ∧
 ∀ w14 : World, ∀ L15 : List Nat, (X.Hid [] w6 w14) →
 (X.NewL w.heap.size [] w6 w14 L15) →
 X.CallX Tryz.prog 119 #[.pointer (some a), (.agg #[.int .u8 n9, .int .u8 n10, .string s11, .string s12, .int .i64 n13])] w14 fun e16 w17 =>
 (e16 = .returned (.tuple #[])) ∧
 (X.Kept L15 w14 w17) ∧
 (x3 (IntKind.wrap .i64 (n5 + 1)) w17 L15) ∧
 Nat.le ((x4 (IntKind.wrap .i64 (n5 + 1)) w17) + 1) (x4 n5 w6)
 else
 R (.returned (.tuple #[])) w6) :
 Calls Tryz.prog 61 #[.pointer (some a), .slice b bl bc] w R :=
 X.calls_of { isLoc := [5], sym := [], loops := [(3, .inv [(18, .int .i64)] [] true)], joins := [] } Tryz.func61 (by kernel_rfl) h
theorem x_PutRes (a : Addr) (b_0 : Int) (b_1 : ByteArray) (w : World) (R : Ending → World → Prop) (h :
 ∀ w1 : World, ∀ L2 : List Nat, (X.Hid [] w w1) →
 (X.NewL w.heap.size [] w w1 L2) →
 X.CallX Tryz.prog 20 #[.pointer (some a), .int .u8 b_0] w1 fun e3 w4 =>
 (e3 = .returned (.tuple #[])) ∧
 (X.Kept L2 w1 w4) ∧
 X.CallX Tryz.prog 120 #[.pointer (some a), .string b_1] w4 fun e5 w6 =>
 (e5 = .returned (.tuple #[])) ∧
 (X.Kept L2 w4 w6) ∧
 R (.returned (.tuple #[])) w6) :
 Calls Tryz.prog 62 #[.pointer (some a), .agg #[.int .u8 b_0, .string b_1]] w R :=
 X.calls_of { isLoc := [3], sym := [], loops := [], joins := [] } Tryz.func62 (by kernel_rfl) h
theorem x_vPut (a : Addr) (b_0 b_1 : Int) (b_2 : Option Addr) (b_2l b_2c : Nat) (w : World) (R : Ending → World → Prop) (h :
 ∀ w1 : World, ∀ L2 : List Nat, (X.Hid [] w w1) →
 (X.NewL w.heap.size [] w w1 L2) →
 X.CallX Tryz.prog 20 #[.pointer (some a), .int .u8 b_0] w1 fun e3 w4 =>
 (e3 = .returned (.tuple #[])) ∧
 (X.Kept L2 w1 w4) ∧
 X.CallX Tryz.prog 60 #[.pointer (some a), .int .u64 (IntKind.wrap .u64 b_1)] w4 fun e5 w6 =>
 (e5 = .returned (.tuple #[])) ∧
 (X.Kept L2 w4 w6) ∧
 ((0 : Int) ≤ (if (255 : Int) < ((b_2l : Nat) : Int) then 255 else ((b_2l : Nat) : Int))) ∧
 ((if (255 : Int) < ((b_2l : Nat) : Int) then 255 else ((b_2l : Nat) : Int)) ≤ ((b_2c : Nat) : Int)) ∧
 X.CallX Tryz.prog 20 #[.pointer (some a), (.int .u8 (IntKind.wrap .u8 ((((if (255 : Int) < ((b_2l : Nat) : Int) then 255 else ((b_2l : Nat) : Int))).toNat : Nat) : Int)))] w6 fun e7 w8 =>
 (e7 = .returned (.tuple #[])) ∧
 (X.Kept L2 w6 w8) ∧
 ∃ x9 : Int → World → List Nat → Prop, ∃ x10 : Int → World → Nat, (x9 0 w8 L2) ∧
 ∀ n11 : Int, ∀ w12 : World, ∀ L13 : List Nat, (X.LF w.heap.size w12 L13) →
 (x9 n11 w12 L13) →
 if (decide (n11 < ((((if (255 : Int) < ((b_2l : Nat) : Int) then 255 else ((b_2l : Nat) : Int))).toNat : Nat) : Int))) = true then
 ((0 : Int) ≤ n11) ∧
 (n11 < ((((if (255 : Int) < ((b_2l : Nat) : Int) then 255 else ((b_2l : Nat) : Int))).toNat : Nat) : Int)) ∧
 X.onSome (X.cutA b_2 b_2c 0 2) fun p14 =>
 ∃ n15 n16 : Int, (X.Cells w12 (p14.add ((n11).toNat * 2)) [.int .u8 n15, .int .u16 n16]) ∧
 (¬ (((p14.add (n11.toNat * 2)).block) ∈ L13)) ∧
 ∀ w17 : World, ∀ L18 : List Nat, (X.Hid L13 w12 w17) →
 (X.NewL w.heap.size L13 w12 w17 L18) →
 X.CallX Tryz.prog 68 #[.pointer (some a), (.agg #[.int .u8 n15, .int .u16 n16])] w17 fun e19 w20 =>
 (e19 = .returned (.tuple #[])) ∧
 (X.Kept L18 w17 w20) ∧
 (([.int .u8 b_0, .int .u32 b_1, .slice b_2 b_2l b_2c] : List Value) = [.int .u8 b_0, .int .u32 b_1, .slice b_2 b_2l b_2c]) ∧
 (x9 (IntKind.wrap .i64 (n11 + 1)) w20 L18) ∧
 Nat.le ((x10 (IntKind.wrap .i64 (n11 + 1)) w20) + 1) (x10 n11 w12)
 else
 R (.returned (.tuple #[])) w12) :
 Calls Tryz.prog 63 #[.pointer (some a), .agg #[.int .u8 b_0, .int .u32 b_1, .slice b_2 b_2l b_2c]] w R :=
 X.calls_of { isLoc := [3, 6], sym := [], loops := [(6, .inv [(30, .int .i64)] [] true)], joins := [] } Tryz.func63 (by kernel_rfl) h
theorem x_putWrite (a : Addr) (b_0 b_1 : ByteArray) (b_2 : Bool) (w : World) (R : Ending → World → Prop) (h :
 ∀ w1 : World, ∀ L2 : List Nat, (X.Hid [] w w1) →
 (X.NewL w.heap.size [] w w1 L2) →
 X.CallX Tryz.prog 120 #[.pointer (some a), .string b_0] w1 fun e3 w4 =>
 (e3 = .returned (.tuple #[])) ∧
 (X.Kept L2 w1 w4) ∧
 X.CallX Tryz.prog 120 #[.pointer (some a), .string b_1] w4 fun e5 w6 =>
 (e5 = .returned (.tuple #[])) ∧
 (X.Kept L2 w4 w6) ∧
 if b_2 = true then
 X.CallX Tryz.prog 20 #[.pointer (some a), .int .u8 1] w6 fun e9 w10 =>
 (e9 = .returned (.tuple #[])) ∧
 (X.Kept L2 w6 w10) ∧
 R (.returned (.tuple #[])) w10
 else
 X.CallX Tryz.prog 20 #[.pointer (some a), .int .u8 0] w6 fun e7 w8 =>
 (e7 = .returned (.tuple #[])) ∧
 (X.Kept L2 w6 w8) ∧
 R (.returned (.tuple #[])) w8) :
 Calls Tryz.prog 153 #[.pointer (some a), .agg #[.string b_0, .string b_1, .bool b_2]] w R :=
 X.calls_of { isLoc := [3], sym := [], loops := [], joins := [] } Tryz.func153 (by kernel_rfl) h
theorem x_ePutAll (a : Addr) (b : Option Addr) (bl bc : Nat) (w : World) (R : Ending → World → Prop) (h :
 X.CallX Tryz.prog 60 #[.pointer (some a), (.int .u64 (IntKind.wrap .u64 ((bl : Nat) : Int)))] w fun e1 w2 =>
 (e1 = .returned (.tuple #[])) ∧
 (w.heap.size ≤ w2.heap.size) ∧
 ∃ x3 : Int → World → List Nat → Prop, ∃ x4 : Int → World → Nat, (x3 0 w2 []) ∧
 ∀ n5 : Int, ∀ w6 : World, ∀ L7 : List Nat, (X.LF w.heap.size w6 L7) →
 (x3 n5 w6 L7) →
 if (decide (n5 < ((bl : Nat) : Int))) = true then
 ((0 : Int) ≤ n5) ∧
 (n5 < ((bl : Nat) : Int)) ∧
 X.onSome b fun p8 =>
 ∃ n9 n10 n11 n12 n13 n14 n15 n16 n17 n18 n19 n20 : Int, ∃ q21 : Option Addr, ∃ k22 k23 : Nat, ∃ n24 : Int, ∃ s25 : ByteArray, ∃ q26 : Option Addr, ∃ k27 k28 : Nat, ∃ n29 n30 : Int, (X.Cells w6 (p8.add ((n5).toNat * 18)) [.int .u8 n9, .int .u8 n10, .int .u16 n11, .int .u32 n12, .int .u8 n13, .int .u8 n14, .int .u8 n15, .int .u8 n16, .int .u8 n17, .int .u8 n18, .int .u8 n19, .int .u32 n20, .slice q21 k22 k23, .int .u8 n24, .string s25, .slice q26 k27 k28, .int .u8 n29, .int .u16 n30]) ∧
 ∀ w31 : World, ∀ L32 : List Nat, (X.Hid [] w6 w31) →
 (X.NewL w.heap.size [] w6 w31 L32) →
 X.CallX Tryz.prog 121 #[.pointer (some a), (.agg #[.int .u8 n9, .int .u8 n10, .int .u16 n11, .int .u32 n12, .int .u8 n13, .int .u8 n14, .int .u8 n15, .int .u8 n16, .int .u8 n17, .int .u8 n18, .int .u8 n19, .int .u32 n20, .slice q21 k22 k23, .int .u8 n24, .string s25, .slice q26 k27 k28, .int .u8 n29, .int .u16 n30])] w31 fun e33 w34 =>
 (e33 = .returned (.tuple #[])) ∧
 (X.Kept L32 w31 w34) ∧
 (x3 (IntKind.wrap .i64 (n5 + 1)) w34 L32) ∧
 Nat.le ((x4 (IntKind.wrap .i64 (n5 + 1)) w34) + 1) (x4 n5 w6)
 else
 R (.returned (.tuple #[])) w6) :
 Calls Tryz.prog 64 #[.pointer (some a), .slice b bl bc] w R :=
 X.calls_of { isLoc := [5], sym := [], loops := [(2, .inv [(13, .int .i64)] [] true)], joins := [] } Tryz.func64 (by kernel_rfl) h
theorem x_Wprocs (a : Addr) (b : Option Addr) (bl bc : Nat) (w : World) (R : Ending → World → Prop) (h :
 ((0 : Int) ≤ (if (255 : Int) < ((bl : Nat) : Int) then 255 else ((bl : Nat) : Int))) ∧
 ((if (255 : Int) < ((bl : Nat) : Int) then 255 else ((bl : Nat) : Int)) ≤ ((bc : Nat) : Int)) ∧
 X.CallX Tryz.prog 20 #[(.pointer (some (a.add 0))), (.int .u8 (IntKind.wrap .u8 ((((if (255 : Int) < ((bl : Nat) : Int) then 255 else ((bl : Nat) : Int))).toNat : Nat) : Int)))] w fun e1 w2 =>
 (e1 = .returned (.tuple #[])) ∧
 (w.heap.size ≤ w2.heap.size) ∧
 ∃ x3 : Int → World → List Nat → Prop, ∃ x4 : Int → World → Nat, (x3 0 w2 []) ∧
 ∀ n5 : Int, ∀ w6 : World, ∀ L7 : List Nat, (X.LF w.heap.size w6 L7) →
 (x3 n5 w6 L7) →
 if (decide (n5 < ((((if (255 : Int) < ((bl : Nat) : Int) then 255 else ((bl : Nat) : Int))).toNat : Nat) : Int))) = true then
 ((0 : Int) ≤ n5) ∧
 (n5 < ((((if (255 : Int) < ((bl : Nat) : Int) then 255 else ((bl : Nat) : Int))).toNat : Nat) : Int)) ∧
 X.onSome (X.cutA b bc 0 2) fun p8 =>
 ∃ n9 n10 : Int, (X.Cells w6 (p8.add ((n5).toNat * 2)) [.int .u8 n9, .int .u16 n10]) ∧
 ∃ x11 : X.Facts, (X.FactsW x11 w6 []) ∧
 ∀ w12 : World, ∀ L13 : List Nat, (X.Hid [] w6 w12) →
 (X.NewL w.heap.size [] w6 w12 L13) →
 X.CallX Tryz.prog 68 #[(.pointer (some (a.add 0))), (.agg #[.int .u8 n9, .int .u16 n10])] w12 fun e14 w15 =>
 (e14 = .returned (.tuple #[])) ∧
 (X.Kept L13 w12 w15) ∧
 (x3 (IntKind.wrap .i64 (n5 + 1)) w15 L13) ∧
 Nat.le ((x4 (IntKind.wrap .i64 (n5 + 1)) w15) + 1) (x4 n5 w6)
 else
 R (.returned (.tuple #[])) w6) :
 Calls Tryz.prog 122 #[.pointer (some a), .slice b bl bc] w R :=
 X.calls_of { isLoc := [5], sym := [], loops := [(3, .inv [(20, .int .i64)] [] true)], joins := [] } Tryz.func122 (by kernel_rfl) h
theorem x_Wvalue (a : Addr) (b_0 b_1 b_2 b_3 b_4 b_5 b_6 b_7 b_8 b_9 b_10 b_11 b_12 b_13 b_14 b_15 b_16 b_17 b_18 : Int) (b_19 : Option Addr) (b_19l b_19c : Nat) (b_20 : Int) (b_21 : ByteArray) (b_22 b_23 : Int) (b_24 : Option Addr) (b_24l b_24c : Nat) (b_25 b_26 : Int) (b_27 : Bool) (b_28 : Option Addr) (b_28l b_28c : Nat) (b_29 : Option Addr) (b_29l b_29c : Nat) (b_30 : Option Addr) (b_30l b_30c : Nat) (w : World) (R : Ending → World → Prop) (h :
 ∀ w1 : World, ∀ L2 : List Nat, (X.Hid [] w w1) →
 (X.NewL w.heap.size [] w w1 L2) →
 X.CallX Tryz.prog 122 #[.pointer (some a), .slice b_28 b_28l b_28c] w1 fun e3 w4 =>
 (e3 = .returned (.tuple #[])) ∧
 (X.Kept L2 w1 w4) ∧
 ∃ x5 : X.Facts, (X.FactsW x5 w4 L2) ∧
 ∀ w6 : World, ∀ L7 : List Nat, (X.Hid L2 w4 w6) →
 (X.NewL w.heap.size L2 w4 w6 L7) →
 X.CallX Tryz.prog 64 #[(.pointer (some (a.add 0))), .slice b_30 b_30l b_30c] w6 fun e8 w9 =>
 (e8 = .returned (.tuple #[])) ∧
 (X.Kept L7 w6 w9) ∧
 R (.returned (.tuple #[])) w9) :
 Calls Tryz.prog 67 #[.pointer (some a), .agg #[.int .u8 b_0, .int .u8 b_1, .int .u8 b_2, .int .u32 b_3, .int .u32 b_4, .int .u32 b_5, .int .u32 b_6, .int .u64 b_7, .int .u64 b_8, .int .u8 b_9, .int .u16 b_10, .int .u32 b_11, .int .u8 b_12, .int .u8 b_13, .int .u8 b_14, .int .u8 b_15, .int .u8 b_16, .int .u8 b_17, .int .u8 b_18, .slice b_19 b_19l b_19c, .int .u8 b_20, .string b_21, .int .u8 b_22, .int .u32 b_23, .slice b_24 b_24l b_24c, .int .u8 b_25, .int .u16 b_26, .bool b_27, .slice b_28 b_28l b_28c, .slice b_29 b_29l b_29c, .slice b_30 b_30l b_30c]] w R :=
 X.calls_of { isLoc := [3], sym := [], loops := [], joins := [] } Tryz.func67 (by kernel_rfl) h
end Go.Proofs
/- The verification conditions of this seat's functions, as the engine has them: printed by a program of the bench; checked by the kernel. -/
namespace Go.Proofs
open Go
theorem x_ePut (a : Addr) (b_0 b_1 b_2 b_3 b_4 b_5 b_6 b_7 b_8 b_9 b_10 b_11 : Int) (b_12 : Option Addr) (b_12l b_12c : Nat) (b_13 : Int) (b_14 : ByteArray) (b_15 : Option Addr) (b_15l b_15c : Nat) (b_16 b_17 : Int) (w : World) (R : Ending → World → Prop) (h :
 ∀ w1 : World, ∀ L2 : List Nat, (X.Hid [] w w1) →
 (X.NewL w.heap.size [] w w1 L2) →
 X.CallX Tryz.prog 20 #[.pointer (some a), .int .u8 b_0] w1 fun e3 w4 =>
 (e3 = .returned (.tuple #[])) ∧
 (X.Kept L2 w1 w4) ∧
 if (b_0 == 0) = true then
 if (b_0 == 0) = true then
 X.CallX Tryz.prog 59 #[.pointer (some a), (.agg #[.int .u8 b_1, .int .u16 b_2, .int .u32 b_3, .int .u8 b_4, .int .u8 b_5, .int .u8 b_6, .int .u8 b_7, .int .u8 b_8, .int .u8 b_9, .int .u8 b_10])] w4 fun e40 w41 =>
 (e40 = .returned (.tuple #[])) ∧
 (X.Kept L2 w4 w41) ∧
 X.CallX Tryz.prog 60 #[.pointer (some a), .int .u64 (IntKind.wrap .u64 b_11)] w41 fun e42 w43 =>
 (e42 = .returned (.tuple #[])) ∧
 (X.Kept L2 w41 w43) ∧
 X.CallX Tryz.prog 61 #[.pointer (some a), .slice b_12 b_12l b_12c] w43 fun e44 w45 =>
 (e44 = .returned (.tuple #[])) ∧
 (X.Kept L2 w43 w45) ∧
 if (b_0 == 0) = true then
 R (.returned (.tuple #[])) w45
 else
 X.CallX Tryz.prog 62 #[.pointer (some a), (.agg #[.int .u8 b_13, .string b_14])] w45 fun e46 w47 =>
 (e46 = .returned (.tuple #[])) ∧
 (X.Kept L2 w45 w47) ∧
 ((0 : Int) ≤ (if (255 : Int) < ((b_15l : Nat) : Int) then 255 else ((b_15l : Nat) : Int))) ∧
 ((if (255 : Int) < ((b_15l : Nat) : Int) then 255 else ((b_15l : Nat) : Int)) ≤ ((b_15c : Nat) : Int)) ∧
 X.CallX Tryz.prog 20 #[.pointer (some a), (.int .u8 (IntKind.wrap .u8 ((((if (255 : Int) < ((b_15l : Nat) : Int) then 255 else ((b_15l : Nat) : Int))).toNat : Nat) : Int)))] w47 fun e48 w49 =>
 (e48 = .returned (.tuple #[])) ∧
 (X.Kept L2 w47 w49) ∧
 ∃ x50 : Int → World → List Nat → Prop, ∃ x51 : Int → World → Nat, (x50 0 w49 L2) ∧
 ∀ n52 : Int, ∀ w53 : World, ∀ L54 : List Nat, (X.LF w.heap.size w53 L54) →
 (x50 n52 w53 L54) →
 if (decide (n52 < ((((if (255 : Int) < ((b_15l : Nat) : Int) then 255 else ((b_15l : Nat) : Int))).toNat : Nat) : Int))) = true then
 ((0 : Int) ≤ n52) ∧
 (n52 < ((((if (255 : Int) < ((b_15l : Nat) : Int) then 255 else ((b_15l : Nat) : Int))).toNat : Nat) : Int)) ∧
 X.onSome (X.cutA b_15 b_15c 0 3) fun p55 =>
 ∃ s56 s57 : ByteArray, ∃ b58 : Bool, (X.Cells w53 (p55.add ((n52).toNat * 3)) [.string s56, .string s57, .bool b58]) ∧
 (¬ (((p55.add (n52.toNat * 3)).block) ∈ L54)) ∧
 ∀ w59 : World, ∀ L60 : List Nat, (X.Hid L54 w53 w59) →
 (X.NewL w.heap.size L54 w53 w59 L60) →
 X.CallX Tryz.prog 153 #[.pointer (some a), (.agg #[.string s56, .string s57, .bool b58])] w59 fun e61 w62 =>
 (e61 = .returned (.tuple #[])) ∧
 (X.Kept L60 w59 w62) ∧
 (([.int .u8 b_0, .int .u8 b_1, .int .u16 b_2, .int .u32 b_3, .int .u8 b_4, .int .u8 b_5, .int .u8 b_6, .int .u8 b_7, .int .u8 b_8, .int .u8 b_9, .int .u8 b_10, .int .u32 b_11, .slice b_12 b_12l b_12c, .int .u8 b_13, .string b_14, .slice b_15 b_15l b_15c, .int .u8 b_16, .int .u16 b_17] : List Value) = [.int .u8 b_0, .int .u8 b_1, .int .u16 b_2, .int .u32 b_3, .int .u8 b_4, .int .u8 b_5, .int .u8 b_6, .int .u8 b_7, .int .u8 b_8, .int .u8 b_9, .int .u8 b_10, .int .u32 b_11, .slice b_12 b_12l b_12c, .int .u8 b_13, .string b_14, .slice b_15 b_15l b_15c, .int .u8 b_16, .int .u16 b_17]) ∧
 (x50 (IntKind.wrap .i64 (n52 + 1)) w62 L60) ∧
 Nat.le ((x51 (IntKind.wrap .i64 (n52 + 1)) w62) + 1) (x51 n52 w53)
 else
 R (.returned (.tuple #[])) w53
 else
 if (b_0 == 1) = true then
 X.CallX Tryz.prog 59 #[.pointer (some a), (.agg #[.int .u8 b_1, .int .u16 b_2, .int .u32 b_3, .int .u8 b_4, .int .u8 b_5, .int .u8 b_6, .int .u8 b_7, .int .u8 b_8, .int .u8 b_9, .int .u8 b_10])] w4 fun e36 w37 =>
 (e36 = .returned (.tuple #[])) ∧
 (X.Kept L2 w4 w37) ∧
 X.CallX Tryz.prog 62 #[.pointer (some a), (.agg #[.int .u8 b_13, .string b_14])] w37 fun e38 w39 =>
 (e38 = .returned (.tuple #[])) ∧
 (X.Kept L2 w37 w39) ∧
 R (.returned (.tuple #[])) w39
 else
 if (b_0 == 2) = true then
 X.CallX Tryz.prog 68 #[.pointer (some a), (.agg #[.int .u8 b_16, .int .u16 b_17])] w4 fun e34 w35 =>
 (e34 = .returned (.tuple #[])) ∧
 (X.Kept L2 w4 w35) ∧
 R (.returned (.tuple #[])) w35
 else
 R (.returned (.tuple #[])) w4
 else
 if (b_0 == 3) = true then
 X.CallX Tryz.prog 59 #[.pointer (some a), (.agg #[.int .u8 b_1, .int .u16 b_2, .int .u32 b_3, .int .u8 b_4, .int .u8 b_5, .int .u8 b_6, .int .u8 b_7, .int .u8 b_8, .int .u8 b_9, .int .u8 b_10])] w4 fun e11 w12 =>
 (e11 = .returned (.tuple #[])) ∧
 (X.Kept L2 w4 w12) ∧
 X.CallX Tryz.prog 60 #[.pointer (some a), .int .u64 (IntKind.wrap .u64 b_11)] w12 fun e13 w14 =>
 (e13 = .returned (.tuple #[])) ∧
 (X.Kept L2 w12 w14) ∧
 X.CallX Tryz.prog 61 #[.pointer (some a), .slice b_12 b_12l b_12c] w14 fun e15 w16 =>
 (e15 = .returned (.tuple #[])) ∧
 (X.Kept L2 w14 w16) ∧
 if (b_0 == 0) = true then
 R (.returned (.tuple #[])) w16
 else
 X.CallX Tryz.prog 62 #[.pointer (some a), (.agg #[.int .u8 b_13, .string b_14])] w16 fun e17 w18 =>
 (e17 = .returned (.tuple #[])) ∧
 (X.Kept L2 w16 w18) ∧
 ((0 : Int) ≤ (if (255 : Int) < ((b_15l : Nat) : Int) then 255 else ((b_15l : Nat) : Int))) ∧
 ((if (255 : Int) < ((b_15l : Nat) : Int) then 255 else ((b_15l : Nat) : Int)) ≤ ((b_15c : Nat) : Int)) ∧
 X.CallX Tryz.prog 20 #[.pointer (some a), (.int .u8 (IntKind.wrap .u8 ((((if (255 : Int) < ((b_15l : Nat) : Int) then 255 else ((b_15l : Nat) : Int))).toNat : Nat) : Int)))] w18 fun e19 w20 =>
 (e19 = .returned (.tuple #[])) ∧
 (X.Kept L2 w18 w20) ∧
 ∃ x21 : Int → World → List Nat → Prop, ∃ x22 : Int → World → Nat, (x21 0 w20 L2) ∧
 ∀ n23 : Int, ∀ w24 : World, ∀ L25 : List Nat, (X.LF w.heap.size w24 L25) →
 (x21 n23 w24 L25) →
 if (decide (n23 < ((((if (255 : Int) < ((b_15l : Nat) : Int) then 255 else ((b_15l : Nat) : Int))).toNat : Nat) : Int))) = true then
 ((0 : Int) ≤ n23) ∧
 (n23 < ((((if (255 : Int) < ((b_15l : Nat) : Int) then 255 else ((b_15l : Nat) : Int))).toNat : Nat) : Int)) ∧
 X.onSome (X.cutA b_15 b_15c 0 3) fun p26 =>
 ∃ s27 s28 : ByteArray, ∃ b29 : Bool, (X.Cells w24 (p26.add ((n23).toNat * 3)) [.string s27, .string s28, .bool b29]) ∧
 (¬ (((p26.add (n23.toNat * 3)).block) ∈ L25)) ∧
 ∀ w30 : World, ∀ L31 : List Nat, (X.Hid L25 w24 w30) →
 (X.NewL w.heap.size L25 w24 w30 L31) →
 X.CallX Tryz.prog 153 #[.pointer (some a), (.agg #[.string s27, .string s28, .bool b29])] w30 fun e32 w33 =>
 (e32 = .returned (.tuple #[])) ∧
 (X.Kept L31 w30 w33) ∧
 (([.int .u8 b_0, .int .u8 b_1, .int .u16 b_2, .int .u32 b_3, .int .u8 b_4, .int .u8 b_5, .int .u8 b_6, .int .u8 b_7, .int .u8 b_8, .int .u8 b_9, .int .u8 b_10, .int .u32 b_11, .slice b_12 b_12l b_12c, .int .u8 b_13, .string b_14, .slice b_15 b_15l b_15c, .int .u8 b_16, .int .u16 b_17] : List Value) = [.int .u8 b_0, .int .u8 b_1, .int .u16 b_2, .int .u32 b_3, .int .u8 b_4, .int .u8 b_5, .int .u8 b_6, .int .u8 b_7, .int .u8 b_8, .int .u8 b_9, .int .u8 b_10, .int .u32 b_11, .slice b_12 b_12l b_12c, .int .u8 b_13, .string b_14, .slice b_15 b_15l b_15c, .int .u8 b_16, .int .u16 b_17]) ∧
 (x21 (IntKind.wrap .i64 (n23 + 1)) w33 L31) ∧
 Nat.le ((x22 (IntKind.wrap .i64 (n23 + 1)) w33) + 1) (x22 n23 w24)
 else
 R (.returned (.tuple #[])) w24
 else
 if (b_0 == 1) = true then
 X.CallX Tryz.prog 59 #[.pointer (some a), (.agg #[.int .u8 b_1, .int .u16 b_2, .int .u32 b_3, .int .u8 b_4, .int .u8 b_5, .int .u8 b_6, .int .u8 b_7, .int .u8 b_8, .int .u8 b_9, .int .u8 b_10])] w4 fun e7 w8 =>
 (e7 = .returned (.tuple #[])) ∧
 (X.Kept L2 w4 w8) ∧
 X.CallX Tryz.prog 62 #[.pointer (some a), (.agg #[.int .u8 b_13, .string b_14])] w8 fun e9 w10 =>
 (e9 = .returned (.tuple #[])) ∧
 (X.Kept L2 w8 w10) ∧
 R (.returned (.tuple #[])) w10
 else
 if (b_0 == 2) = true then
 X.CallX Tryz.prog 68 #[.pointer (some a), (.agg #[.int .u8 b_16, .int .u16 b_17])] w4 fun e5 w6 =>
 (e5 = .returned (.tuple #[])) ∧
 (X.Kept L2 w4 w6) ∧
 R (.returned (.tuple #[])) w6
 else
 R (.returned (.tuple #[])) w4) :
 Calls Tryz.prog 121 #[.pointer (some a), .agg #[.int .u8 b_0, .int .u8 b_1, .int .u16 b_2, .int .u32 b_3, .int .u8 b_4, .int .u8 b_5, .int .u8 b_6, .int .u8 b_7, .int .u8 b_8, .int .u8 b_9, .int .u8 b_10, .int .u32 b_11, .slice b_12 b_12l b_12c, .int .u8 b_13, .string b_14, .slice b_15 b_15l b_15c, .int .u8 b_16, .int .u16 b_17]] w R :=
 X.calls_of { isLoc := [3, 6], sym := [], loops := [(13, .inv [(50, .int .i64)] [] true)], joins := [] } Tryz.func121 (by kernel_rfl) h
end Go.Proofs
/- The verification conditions of this seat's functions, as the engine has them: printed by a program of the bench; checked by the kernel. -/
namespace Go.Proofs
open Go
theorem x_Zag (a : Int) (w : World) (R : Ending → World → Prop) (h :
 R (.returned (.int .i64 (IntKind.wrap .i64 ((((BitVec.ofInt 64 (IntKind.i64.wrap (a.fdiv 2)) ^^^ BitVec.ofInt 64 (IntKind.i64.wrap (0 - IntKind.i64.wrap (IntKind.u64.wrap ↑(BitVec.ofInt 64 a &&& BitVec.ofInt 64 1).toNat)))).toNat) : Nat) : Int)))) w) :
 Calls Tryz.prog 172 #[.int .u64 a] w R :=
 X.calls_of { isLoc := [], sym := [], loops := [], joins := [] } Tryz.func172 (by kernel_rfl) h
theorem x_RI (a : Addr) (w : World) (R : Ending → World → Prop) (h :
 X.CallX Tryz.prog 134 #[.pointer (some a), .int .u64 18446744073709551615] w fun e1 w2 =>
 ∃ n3 : Int, (e1 = .returned (.int .u64 n3)) ∧
 (w.heap.size ≤ w2.heap.size) ∧
 X.CallX Tryz.prog 172 #[.int .u64 n3] w2 fun e4 w5 =>
 ∃ n6 : Int, (e4 = .returned (.int .i64 n6)) ∧
 (w2.heap.size ≤ w5.heap.size) ∧
 R (.returned (.int .i64 n6)) w5) :
 Calls Tryz.prog 158 #[.pointer (some a)] w R :=
 X.calls_of { isLoc := [], sym := [], loops := [], joins := [] } Tryz.func158 (by kernel_rfl) h
theorem x_GetID (a : Addr) (w : World) (R : Ending → World → Prop) (h :
 ∀ w1 : World, ∀ L2 : List Nat, (X.Hid [] w w1) →
 (X.NewL w.heap.size [] w w1 L2) →
 X.CallX Tryz.prog 95 #[.pointer (some a)] w1 fun e3 w4 =>
 ∃ n5 n6 : Int, (e3 = .returned (.agg #[.int .u8 n5, .int .u16 n6])) ∧
 (X.Kept L2 w1 w4) ∧
 ∀ w7 : World, ∀ L8 : List Nat, (X.Hid L2 w4 w7) →
 (X.NewL w.heap.size L2 w4 w7 L8) →
 X.CallX Tryz.prog 134 #[.pointer (some a), .int .u64 4294967295] w7 fun e9 w10 =>
 ∃ n11 : Int, (e9 = .returned (.int .u64 n11)) ∧
 (X.Kept L8 w7 w10) ∧
 ∀ w12 : World, ∀ L13 : List Nat, (X.Hid L8 w10 w12) →
 (X.NewL w.heap.size L8 w10 w12 L13) →
 X.CallX Tryz.prog 34 #[.pointer (some a)] w12 fun e14 w15 =>
 ∃ n16 : Int, (e14 = .returned (.int .u8 n16)) ∧
 (X.Kept L13 w12 w15) ∧
 if (decide (n16 > 3)) = true then
 ∀ w52 : World, (X.Hid L13 w15 w52) →
 R (.returned (.agg #[.int .u8 n5, .int .u16 n6, .int .u32 (IntKind.wrap .u32 n11), .int .u8 n16, .int .u8 0, .int .u8 0, .int .u8 0, .int .u8 0, .int .u8 0, .int .u8 0])) w52
 else
 ∀ w17 : World, ∀ L18 : List Nat, (X.Hid L13 w15 w17) →
 (X.NewL w.heap.size L13 w15 w17 L18) →
 X.CallX Tryz.prog 118 #[(.agg #[.int .u8 n5, .int .u16 n6, .int .u32 (IntKind.wrap .u32 n11), .int .u8 n16, .int .u8 0, .int .u8 0, .int .u8 0, .int .u8 0, .int .u8 0, .int .u8 0])] w17 fun e19 w20 =>
 ∃ q21 : Option Addr, ∃ k22 k23 : Nat, (e19 = .returned (.slice q21 k22 k23)) ∧
 (X.Kept L18 w17 w20) ∧
 ∃ x24 : Int → Int → Int → Int → Int → Int → Int → Int → Int → Int → Int → World → List Nat → Prop, ∃ x25 : Int → Int → Int → Int → Int → Int → Int → Int → Int → Int → Int → World → Nat, (x24 0 n5 n6 (IntKind.wrap .u32 n11) n16 0 0 0 0 0 0 w20 L18) ∧
 ∀ n26 n27 n28 n29 n30 n31 n32 n33 n34 n35 n36 : Int, ∀ w37 : World, ∀ L38 : List Nat, (X.LF w.heap.size w37 L38) →
 (x24 n26 n27 n28 n29 n30 n31 n32 n33 n34 n35 n36 w37 L38) →
 if (decide (n26 < ((k22 : Nat) : Int))) = true then
 X.CallX Tryz.prog 34 #[.pointer (some a)] w37 fun e40 w41 =>
 ∃ n42 : Int, (e40 = .returned (.int .u8 n42)) ∧
 (X.Kept L38 w37 w41) ∧
 X.CallX Tryz.prog 34 #[.pointer (some a)] w41 fun e43 w44 =>
 ∃ n45 : Int, (e43 = .returned (.int .u8 n45)) ∧
 (X.Kept L38 w41 w44) ∧
 ((0 : Int) ≤ n26) ∧
 (n26 < 3) ∧
 (((n26 = 0) →
 ∀ w46 : World, ∀ L47 : List Nat, (X.Hid L38 w44 w46) →
 (X.NewL w.heap.size L38 w44 w46 L47) →
 (([.int .u8 0, .int .u16 0, .int .u32 0, .int .u8 0, .int .u8 0, .int .u8 0, .int .u8 0, .int .u8 0, .int .u8 0, .int .u8 0] : List Value) = [.int .u8 0, .int .u16 0, .int .u32 0, .int .u8 0, .int .u8 0, .int .u8 0, .int .u8 0, .int .u8 0, .int .u8 0, .int .u8 0]) ∧
 (x24 (IntKind.wrap .i64 (n26 + 1)) n27 n28 n29 n30 n42 n45 n33 n34 n35 n36 w46 L47) ∧
 Nat.le ((x25 (IntKind.wrap .i64 (n26 + 1)) n27 n28 n29 n30 n42 n45 n33 n34 n35 n36 w46) + 1) (x25 n26 n27 n28 n29 n30 n31 n32 n33 n34 n35 n36 w37)) ∧
 ((n26 = 1) →
 ∀ w48 : World, ∀ L49 : List Nat, (X.Hid L38 w44 w48) →
 (X.NewL w.heap.size L38 w44 w48 L49) →
 (([.int .u8 0, .int .u16 0, .int .u32 0, .int .u8 0, .int .u8 0, .int .u8 0, .int .u8 0, .int .u8 0, .int .u8 0, .int .u8 0] : List Value) = [.int .u8 0, .int .u16 0, .int .u32 0, .int .u8 0, .int .u8 0, .int .u8 0, .int .u8 0, .int .u8 0, .int .u8 0, .int .u8 0]) ∧
 (x24 (IntKind.wrap .i64 (n26 + 1)) n27 n28 n29 n30 n31 n32 n42 n45 n35 n36 w48 L49) ∧
 Nat.le ((x25 (IntKind.wrap .i64 (n26 + 1)) n27 n28 n29 n30 n31 n32 n42 n45 n35 n36 w48) + 1) (x25 n26 n27 n28 n29 n30 n31 n32 n33 n34 n35 n36 w37))) ∧
 ((n26 = 2) →
 ∀ w50 : World, ∀ L51 : List Nat, (X.Hid L38 w44 w50) →
 (X.NewL w.heap.size L38 w44 w50 L51) →
 (([.int .u8 0, .int .u16 0, .int .u32 0, .int .u8 0, .int .u8 0, .int .u8 0, .int .u8 0, .int .u8 0, .int .u8 0, .int .u8 0] : List Value) = [.int .u8 0, .int .u16 0, .int .u32 0, .int .u8 0, .int .u8 0, .int .u8 0, .int .u8 0, .int .u8 0, .int .u8 0, .int .u8 0]) ∧
 (x24 (IntKind.wrap .i64 (n26 + 1)) n27 n28 n29 n30 n31 n32 n33 n34 n42 n45 w50 L51) ∧
 Nat.le ((x25 (IntKind.wrap .i64 (n26 + 1)) n27 n28 n29 n30 n31 n32 n33 n34 n42 n45 w50) + 1) (x25 n26 n27 n28 n29 n30 n31 n32 n33 n34 n35 n36 w37))
 else
 ∀ w39 : World, (X.Hid L38 w37 w39) →
 R (.returned (.agg #[.int .u8 n27, .int .u16 n28, .int .u32 n29, .int .u8 n30, .int .u8 n31, .int .u8 n32, .int .u8 n33, .int .u8 n34, .int .u8 n35, .int .u8 n36])) w39) :
 Calls Tryz.prog 85 #[.pointer (some a)] w R :=
 X.calls_of { isLoc := [2, 3], sym := [34], loops := [(7, .inv [(23, .int .i64)] [(3, [.int .u8, .int .u16, .int .u32, .int .u8, .int .u8, .int .u8, .int .u8, .int .u8, .int .u8, .int .u8])] true)], joins := [] } Tryz.func85 (by kernel_rfl) h
theorem x_pGet (a : Addr) (w : World) (R : Ending → World → Prop) (h :
 ∀ w1 : World, ∀ L2 : List Nat, (X.Hid [] w w1) →
 (X.NewL w.heap.size [] w w1 L2) →
 X.CallX Tryz.prog 34 #[.pointer (some a)] w1 fun e3 w4 =>
 ∃ n5 : Int, (e3 = .returned (.int .u8 n5)) ∧
 (X.Kept L2 w1 w4) ∧
 ∀ w6 : World, ∀ L7 : List Nat, (X.Hid L2 w4 w6) →
 (X.NewL w.heap.size L2 w4 w6 L7) →
 X.CallX Tryz.prog 34 #[.pointer (some a)] w6 fun e8 w9 =>
 ∃ n10 : Int, (e8 = .returned (.int .u8 n10)) ∧
 (X.Kept L7 w6 w9) ∧
 ∀ w11 : World, ∀ L12 : List Nat, (X.Hid L7 w9 w11) →
 (X.NewL w.heap.size L7 w9 w11 L12) →
 X.CallX Tryz.prog 137 #[.pointer (some a), .int .i64 255] w11 fun e13 w14 =>
 ∃ s15 : ByteArray, (e13 = .returned (.string s15)) ∧
 (X.Kept L12 w11 w14) ∧
 ∀ w16 : World, ∀ L17 : List Nat, (X.Hid L12 w14 w16) →
 (X.NewL w.heap.size L12 w14 w16 L17) →
 X.CallX Tryz.prog 137 #[.pointer (some a), .int .i64 255] w16 fun e18 w19 =>
 ∃ s20 : ByteArray, (e18 = .returned (.string s20)) ∧
 (X.Kept L17 w16 w19) ∧
 ∀ w21 : World, ∀ L22 : List Nat, (X.Hid L17 w19 w21) →
 (X.NewL w.heap.size L17 w19 w21 L22) →
 X.CallX Tryz.prog 158 #[.pointer (some a)] w21 fun e23 w24 =>
 ∃ n25 : Int, (e23 = .returned (.int .i64 n25)) ∧
 (X.Kept L22 w21 w24) ∧
 ∀ w26 : World, (X.Hid L22 w24 w26) →
 R (.returned (.agg #[.int .u8 n5, .int .u8 n10, .string s15, .string s20, .int .i64 n25])) w26) :
 Calls Tryz.prog 136 #[.pointer (some a)] w R :=
 X.calls_of { isLoc := [2, 3], sym := [], loops := [], joins := [] } Tryz.func136 (by kernel_rfl) h
theorem x_someP (a : Addr) (b : Int) (w : World) (R : Ending → World → Prop) (h :
 ∃ x1 : Option Addr → Nat → Nat → Int → World → List Nat → Prop, ∃ x2 : Option Addr → Nat → Nat → Int → World → Nat, (x1 none 0 0 0 w []) ∧
 ∀ q3 : Option Addr, ∀ k4 k5 : Nat, ∀ n6 : Int, ∀ w7 : World, ∀ L8 : List Nat, (X.LF w.heap.size w7 L8) →
 (x1 q3 k4 k5 n6 w7 L8) →
 if (decide (n6 < b)) = true then
 X.CallX Tryz.prog (OfNat.ofNat 136) #[.pointer (some a)] w7 fun e9 w10 =>
 ∃ n11 n12 : Int, ∃ s13 s14 : ByteArray, ∃ n15 : Int, (e9 = .returned (.agg #[.int .u8 n11, .int .u8 n12, .string s13, .string s14, .int .i64 n15])) ∧
 (w7.heap.size ≤ w10.heap.size) ∧
 ∀ w16 : World, ∀ L17 : List Nat, (X.Hid [] w10 w16) →
 (X.NewL w.heap.size [] w10 w16 L17) →
 X.CallX Tryz.prog 35 #[.pointer (some a)] w16 fun e18 w19 =>
 ∃ n20 : Int, (e18 = .returned (.int .i64 n20)) ∧
 (X.Kept L17 w16 w19) ∧
 if (n20 != 0) = true then
 R (.returned (.slice q3 k4 k5)) w19
 else
 ∃ q21 : Option Addr, ∃ k22 k23 : Nat, ∃ w24 : World, (Sem.run Tryz.prog (Go.Builtin.append_ #[52, 52] 52 #[.slice q3 k4 k5, .slice (some ⟨w19.heap.size, 0, none⟩) 1 1]) (w19.alloc (.cells #[.int .u8 n11, .int .u8 n12, .string s13, .string s14, .int .i64 n15] 138)) = .ok (.slice q21 k22 k23) w24) ∧
 (X.Kept L17 (w19.alloc (.cells #[.int .u8 n11, .int .u8 n12, .string s13, .string s14, .int .i64 n15] 138)) w24) ∧
 (x1 q21 k22 k23 (IntKind.wrap .i64 (n6 + 1)) w24 L17) ∧
 Nat.le ((x2 q21 k22 k23 (IntKind.wrap .i64 (n6 + 1)) w24) + 1) (x2 q3 k4 k5 n6 w7)
 else
 R (.returned (.slice q3 k4 k5)) w7) :
 Calls Tryz.prog 135 #[.pointer (some a), .int .i64 b, .func (.func 136) #[] #[]] w R :=
 X.calls_of { isLoc := [8], sym := [], loops := [(3, .inv [(7, .slice), (10, .int .i64)] [] true)], joins := [] } Tryz.func135 (by kernel_rfl) h
theorem x_pGetAll (a : Addr) (w : World) (R : Ending → World → Prop) (h :
 X.CallX Tryz.prog 34 #[.pointer (some a)] w fun e1 w2 =>
 ∃ n3 : Int, (e1 = .returned (.int .u8 n3)) ∧
 (w.heap.size ≤ w2.heap.size) ∧
 X.CallX Tryz.prog 135 #[.pointer (some a), .int .i64 (IntKind.wrap .i64 n3), (.func (.func 136) #[] #[])] w2 fun e4 w5 =>
 ∃ q6 : Option Addr, ∃ k7 k8 : Nat, (e4 = .returned (.slice q6 k7 k8)) ∧
 (w2.heap.size ≤ w5.heap.size) ∧
 R (.returned (.slice q6 k7 k8)) w5) :
 Calls Tryz.prog 87 #[.pointer (some a)] w R :=
 X.calls_of { isLoc := [], sym := [], loops := [], joins := [] } Tryz.func87 (by kernel_rfl) h
theorem x_GetRes (a : Addr) (w : World) (R : Ending → World → Prop) (h :
 ∀ w1 : World, ∀ L2 : List Nat, (X.Hid [] w w1) →
 (X.NewL w.heap.size [] w w1 L2) →
 X.CallX Tryz.prog 34 #[.pointer (some a)] w1 fun e3 w4 =>
 ∃ n5 : Int, (e3 = .returned (.int .u8 n5)) ∧
 (X.Kept L2 w1 w4) ∧
 X.CallX Tryz.prog 137 #[.pointer (some a), .int .i64 1000] w4 fun e6 w7 =>
 ∃ s8 : ByteArray, (e6 = .returned (.string s8)) ∧
 (X.Kept L2 w4 w7) ∧
 ∀ w9 : World, (X.Hid L2 w7 w9) →
 R (.returned (.agg #[.int .u8 n5, .string s8])) w9) :
 Calls Tryz.prog 88 #[.pointer (some a)] w R :=
 X.calls_of { isLoc := [2], sym := [], loops := [], joins := [] } Tryz.func88 (by kernel_rfl) h
theorem x_vGet (a : Addr) (w : World) (R : Ending → World → Prop) (h :
 ∀ w1 : World, ∀ L2 : List Nat, (X.Hid [] w w1) →
 (X.NewL w.heap.size [] w w1 L2) →
 X.CallX Tryz.prog 34 #[.pointer (some a)] w1 fun e3 w4 =>
 ∃ n5 : Int, (e3 = .returned (.int .u8 n5)) ∧
 (X.Kept L2 w1 w4) ∧
 ∀ w6 : World, ∀ L7 : List Nat, (X.Hid L2 w4 w6) →
 (X.NewL w.heap.size L2 w4 w6 L7) →
 X.CallX Tryz.prog 134 #[.pointer (some a), .int .u64 4294967295] w6 fun e8 w9 =>
 ∃ n10 : Int, (e8 = .returned (.int .u64 n10)) ∧
 (X.Kept L7 w6 w9) ∧
 ∀ w11 : World, ∀ L12 : List Nat, (X.Hid L7 w9 w11) →
 (X.NewL w.heap.size L7 w9 w11 L12) →
 X.CallX Tryz.prog 34 #[.pointer (some a)] w11 fun e13 w14 =>
 ∃ n15 : Int, (e13 = .returned (.int .u8 n15)) ∧
 (X.Kept L12 w11 w14) ∧
 ∃ x16 : Int → Int → Int → Option Addr → Nat → Nat → World → List Nat → Prop, ∃ x17 : Int → Int → Int → Option Addr → Nat → Nat → World → Nat, (x16 0 n5 (IntKind.wrap .u32 n10) none 0 0 w14 L12) ∧
 ∀ n18 n19 n20 : Int, ∀ q21 : Option Addr, ∀ k22 k23 : Nat, ∀ w24 : World, ∀ L25 : List Nat, (X.LF w.heap.size w24 L25) →
 (x16 n18 n19 n20 q21 k22 k23 w24 L25) →
 if (decide (n18 < n15)) = true then
 X.CallX Tryz.prog 35 #[.pointer (some a)] w24 fun e31 w32 =>
 ∃ n33 : Int, (e31 = .returned (.int .i64 n33)) ∧
 (X.Kept L25 w24 w32) ∧
 if (n33 != 0) = true then
 X.CallX Tryz.prog 35 #[.pointer (some a)] w32 fun e47 w48 =>
 ∃ n49 : Int, (e47 = .returned (.int .i64 n49)) ∧
 (X.Kept L25 w32 w48) ∧
 if (n49 != 0) = true then
 ∀ w51 : World, (X.Hid L25 w48 w51) →
 R (.returned (.agg #[.int .u8 0, .int .u32 0, .slice none 0 0])) w51
 else
 ∀ w50 : World, (X.Hid L25 w48 w50) →
 R (.returned (.agg #[.int .u8 n19, .int .u32 n20, .slice q21 k22 k23])) w50
 else
 ∃ x34 : X.Facts, (X.FactsW x34 w32 L25) ∧
 ∀ w35 : World, ∀ L36 : List Nat, (X.Hid L25 w32 w35) →
 (X.NewL w.heap.size L25 w32 w35 L36) →
 X.CallX Tryz.prog 95 #[.pointer (some a)] w35 fun e37 w38 =>
 ∃ n39 n40 : Int, (e37 = .returned (.agg #[.int .u8 n39, .int .u16 n40])) ∧
 (X.Kept L36 w35 w38) ∧
 (X.FactsW x34 w38 L36) ∧
 (X.FactsW x34 (w38.alloc (.cells #[.int .u8 n39, .int .u16 n40] 47)) L36) ∧
 ∃ q41 : Option Addr, ∃ k42 k43 : Nat, ∃ w44 : World, (Sem.run Tryz.prog (Go.Builtin.append_ #[54, 54] 54 #[.slice q21 k22 k23, .slice (some ⟨w38.heap.size, 0, none⟩) 1 1]) (w38.alloc (.cells #[.int .u8 n39, .int .u16 n40] 47)) = .ok (.slice q41 k42 k43) w44) ∧
 (X.Kept L36 (w38.alloc (.cells #[.int .u8 n39, .int .u16 n40] 47)) w44) ∧
 ∀ w45 : World, ∀ L46 : List Nat, (X.Hid L36 w44 w45) →
 (X.NewL w.heap.size L36 w44 w45 L46) →
 (([.int .u8 0, .int .u32 0, .slice none 0 0] : List Value) = [.int .u8 0, .int .u32 0, .slice none 0 0]) ∧
 (x16 (IntKind.wrap .u8 (n18 + 1)) n19 n20 q41 k42 k43 w45 L46) ∧
 Nat.le ((x17 (IntKind.wrap .u8 (n18 + 1)) n19 n20 q41 k42 k43 w45) + 1) (x17 n18 n19 n20 q21 k22 k23 w24)
 else
 X.CallX Tryz.prog 35 #[.pointer (some a)] w24 fun e26 w27 =>
 ∃ n28 : Int, (e26 = .returned (.int .i64 n28)) ∧
 (X.Kept L25 w24 w27) ∧
 if (n28 != 0) = true then
 ∀ w30 : World, (X.Hid L25 w27 w30) →
 R (.returned (.agg #[.int .u8 0, .int .u32 0, .slice none 0 0])) w30
 else
 ∀ w29 : World, (X.Hid L25 w27 w29) →
 R (.returned (.agg #[.int .u8 n19, .int .u32 n20, .slice q21 k22 k23])) w29) :
 Calls Tryz.prog 89 #[.pointer (some a)] w R :=
 X.calls_of { isLoc := [2, 3], sym := [], loops := [(4, .inv [(13, .int .u8)] [(3, [.int .u8, .int .u32, .slice])] true)], joins := [] } Tryz.func89 (by kernel_rfl) h
theorem x_getWrite (a : Addr) (w : World) (R : Ending → World → Prop) (h :
 ∀ w1 : World, ∀ L2 : List Nat, (X.Hid [] w w1) →
 (X.NewL w.heap.size [] w w1 L2) →
 X.CallX Tryz.prog 137 #[.pointer (some a), .int .i64 255] w1 fun e3 w4 =>
 ∃ s5 : ByteArray, (e3 = .returned (.string s5)) ∧
 (X.Kept L2 w1 w4) ∧
 ∀ w6 : World, ∀ L7 : List Nat, (X.Hid L2 w4 w6) →
 (X.NewL w.heap.size L2 w4 w6 L7) →
 X.CallX Tryz.prog 137 #[.pointer (some a), .int .i64 255] w6 fun e8 w9 =>
 ∃ s10 : ByteArray, (e8 = .returned (.string s10)) ∧
 (X.Kept L7 w6 w9) ∧
 ∀ w11 : World, ∀ L12 : List Nat, (X.Hid L7 w9 w11) →
 (X.NewL w.heap.size L7 w9 w11 L12) →
 X.CallX Tryz.prog 34 #[.pointer (some a)] w11 fun e13 w14 =>
 ∃ n15 : Int, (e13 = .returned (.int .u8 n15)) ∧
 (X.Kept L12 w11 w14) ∧
 if (decide (n15 > 1)) = true then
 X.CallX Tryz.prog 140 #[.pointer (some a), .int .i64 6] w14 fun e17 w18 =>
 (e17 = .returned (.tuple #[])) ∧
 (X.Kept L12 w14 w18) ∧
 ∀ w19 : World, (X.Hid L12 w18 w19) →
 R (.returned (.agg #[.string s5, .string s10, .bool (n15 == 1)])) w19
 else
 ∀ w16 : World, (X.Hid L12 w14 w16) →
 R (.returned (.agg #[.string s5, .string s10, .bool (n15 == 1)])) w16) :
 Calls Tryz.prog 160 #[.pointer (some a)] w R :=
 X.calls_of { isLoc := [2, 3], sym := [], loops := [], joins := [] } Tryz.func160 (by kernel_rfl) h
theorem x_someW (a : Addr) (b : Int) (w : World) (R : Ending → World → Prop) (h :
 ∃ x1 : Option Addr → Nat → Nat → Int → World → List Nat → Prop, ∃ x2 : Option Addr → Nat → Nat → Int → World → Nat, (x1 none 0 0 0 w []) ∧
 ∀ q3 : Option Addr, ∀ k4 k5 : Nat, ∀ n6 : Int, ∀ w7 : World, ∀ L8 : List Nat, (X.LF w.heap.size w7 L8) →
 (x1 q3 k4 k5 n6 w7 L8) →
 if (decide (n6 < b)) = true then
 X.CallX Tryz.prog (OfNat.ofNat 160) #[.pointer (some a)] w7 fun e9 w10 =>
 ∃ s11 s12 : ByteArray, ∃ b13 : Bool, (e9 = .returned (.agg #[.string s11, .string s12, .bool b13])) ∧
 (w7.heap.size ≤ w10.heap.size) ∧
 ∀ w14 : World, ∀ L15 : List Nat, (X.Hid [] w10 w14) →
 (X.NewL w.heap.size [] w10 w14 L15) →
 X.CallX Tryz.prog 35 #[.pointer (some a)] w14 fun e16 w17 =>
 ∃ n18 : Int, (e16 = .returned (.int .i64 n18)) ∧
 (X.Kept L15 w14 w17) ∧
 if (n18 != 0) = true then
 R (.returned (.slice q3 k4 k5)) w17
 else
 ∃ q19 : Option Addr, ∃ k20 k21 : Nat, ∃ w22 : World, (Sem.run Tryz.prog (Go.Builtin.append_ #[140, 140] 140 #[.slice q3 k4 k5, .slice (some ⟨w17.heap.size, 0, none⟩) 1 1]) (w17.alloc (.cells #[.string s11, .string s12, .bool b13] 214)) = .ok (.slice q19 k20 k21) w22) ∧
 (X.Kept L15 (w17.alloc (.cells #[.string s11, .string s12, .bool b13] 214)) w22) ∧
 (x1 q19 k20 k21 (IntKind.wrap .i64 (n6 + 1)) w22 L15) ∧
 Nat.le ((x2 q19 k20 k21 (IntKind.wrap .i64 (n6 + 1)) w22) + 1) (x2 q3 k4 k5 n6 w7)
 else
 R (.returned (.slice q3 k4 k5)) w7) :
 Calls Tryz.prog 159 #[.pointer (some a), .int .i64 b, .func (.func 160) #[] #[]] w R :=
 X.calls_of { isLoc := [8], sym := [], loops := [(3, .inv [(7, .slice), (10, .int .i64)] [] true)], joins := [] } Tryz.func159 (by kernel_rfl) h
theorem x_someE (a : Addr) (b : Int) (w : World) (R : Ending → World → Prop) (h :
 ∃ x1 : Option Addr → Nat → Nat → Int → World → List Nat → Prop, ∃ x2 : Option Addr → Nat → Nat → Int → World → Nat, (x1 none 0 0 0 w []) ∧
 ∀ q3 : Option Addr, ∀ k4 k5 : Nat, ∀ n6 : Int, ∀ w7 : World, ∀ L8 : List Nat, (X.LF w.heap.size w7 L8) →
 (x1 q3 k4 k5 n6 w7 L8) →
 if (decide (n6 < b)) = true then
 X.CallX Tryz.prog (OfNat.ofNat 139) #[.pointer (some a)] w7 fun e9 w10 =>
 ∃ n11 n12 n13 n14 n15 n16 n17 n18 n19 n20 n21 n22 : Int, ∃ q23 : Option Addr, ∃ k24 k25 : Nat, ∃ n26 : Int, ∃ s27 : ByteArray, ∃ q28 : Option Addr, ∃ k29 k30 : Nat, ∃ n31 n32 : Int, (e9 = .returned (.agg #[.int .u8 n11, .int .u8 n12, .int .u16 n13, .int .u32 n14, .int .u8 n15, .int .u8 n16, .int .u8 n17, .int .u8 n18, .int .u8 n19, .int .u8 n20, .int .u8 n21, .int .u32 n22, .slice q23 k24 k25, .int .u8 n26, .string s27, .slice q28 k29 k30, .int .u8 n31, .int .u16 n32])) ∧
 (w7.heap.size ≤ w10.heap.size) ∧
 ∀ w33 : World, ∀ L34 : List Nat, (X.Hid [] w10 w33) →
 (X.NewL w.heap.size [] w10 w33 L34) →
 X.CallX Tryz.prog 35 #[.pointer (some a)] w33 fun e35 w36 =>
 ∃ n37 : Int, (e35 = .returned (.int .i64 n37)) ∧
 (X.Kept L34 w33 w36) ∧
 if (n37 != 0) = true then
 R (.returned (.slice q3 k4 k5)) w36
 else
 ∃ q38 : Option Addr, ∃ k39 k40 : Nat, ∃ w41 : World, (Sem.run Tryz.prog (Go.Builtin.append_ #[57, 57] 57 #[.slice q3 k4 k5, .slice (some ⟨w36.heap.size, 0, none⟩) 1 1]) (w36.alloc (.cells #[.int .u8 n11, .int .u8 n12, .int .u16 n13, .int .u32 n14, .int .u8 n15, .int .u8 n16, .int .u8 n17, .int .u8 n18, .int .u8 n19, .int .u8 n20, .int .u8 n21, .int .u32 n22, .slice q23 k24 k25, .int .u8 n26, .string s27, .slice q28 k29 k30, .int .u8 n31, .int .u16 n32] 142)) = .ok (.slice q38 k39 k40) w41) ∧
 (X.Kept L34 (w36.alloc (.cells #[.int .u8 n11, .int .u8 n12, .int .u16 n13, .int .u32 n14, .int .u8 n15, .int .u8 n16, .int .u8 n17, .int .u8 n18, .int .u8 n19, .int .u8 n20, .int .u8 n21, .int .u32 n22, .slice q23 k24 k25, .int .u8 n26, .string s27, .slice q28 k29 k30, .int .u8 n31, .int .u16 n32] 142)) w41) ∧
 (x1 q38 k39 k40 (IntKind.wrap .i64 (n6 + 1)) w41 L34) ∧
 Nat.le ((x2 q38 k39 k40 (IntKind.wrap .i64 (n6 + 1)) w41) + 1) (x2 q3 k4 k5 n6 w7)
 else
 R (.returned (.slice q3 k4 k5)) w7) :
 Calls Tryz.prog 138 #[.pointer (some a), .int .i64 b, .func (.func 139) #[] #[]] w R :=
 X.calls_of { isLoc := [8], sym := [], loops := [(3, .inv [(7, .slice), (10, .int .i64)] [] true)], joins := [] } Tryz.func138 (by kernel_rfl) h
theorem x_eGetAll (a : Addr) (w : World) (R : Ending → World → Prop) (h :
 X.CallX Tryz.prog 134 #[.pointer (some a), .int .u64 400] w fun e1 w2 =>
 ∃ n3 : Int, (e1 = .returned (.int .u64 n3)) ∧
 (w.heap.size ≤ w2.heap.size) ∧
 X.CallX Tryz.prog 138 #[.pointer (some a), .int .i64 (IntKind.wrap .i64 n3), (.func (.func 139) #[] #[])] w2 fun e4 w5 =>
 ∃ q6 : Option Addr, ∃ k7 k8 : Nat, (e4 = .returned (.slice q6 k7 k8)) ∧
 (w2.heap.size ≤ w5.heap.size) ∧
 X.CallX Tryz.prog 35 #[.pointer (some a)] w5 fun e9 w10 =>
 ∃ n11 : Int, (e9 = .returned (.int .i64 n11)) ∧
 (w5.heap.size ≤ w10.heap.size) ∧
 if (n11 != 0) = true then
 R (.returned (.slice none 0 0)) w10
 else
 R (.returned (.slice q6 k7 k8)) w10) :
 Calls Tryz.prog 90 #[.pointer (some a)] w R :=
 X.calls_of { isLoc := [], sym := [], loops := [], joins := [] } Tryz.func90 (by kernel_rfl) h
end Go.Proofs
/- The verification conditions of this seat's functions, as the engine has them: printed by a program of the bench; checked by the kernel. -/
namespace Go.Proofs
open Go
theorem x_eGet (a : Addr) (w : World) (R : Ending → World → Prop) (h :
 ∀ w1 : World, ∀ L2 : List Nat, (X.Hid [] w w1) →
 (X.NewL w.heap.size [] w w1 L2) →
 X.CallX Tryz.prog 34 #[.pointer (some a)] w1 fun e3 w4 =>
 ∃ n5 : Int, (e3 = .returned (.int .u8 n5)) ∧
 (X.Kept L2 w1 w4) ∧
 ∀ w6 : World, ∀ L7 : List Nat, (X.Hid L2 w4 w6) →
 (X.NewL w.heap.size L2 w4 w6 L7) →
 X.CallX Tryz.prog 35 #[.pointer (some a)] w6 fun e8 w9 =>
 ∃ n10 : Int, (e8 = .returned (.int .i64 n10)) ∧
 (X.Kept L7 w6 w9) ∧
 if (n10 != 0) = true then
 ∀ w122 : World, (X.Hid L7 w9 w122) →
 R (.returned (.agg #[.int .u8 0, .int .u8 0, .int .u16 0, .int .u32 0, .int .u8 0, .int .u8 0, .int .u8 0, .int .u8 0, .int .u8 0, .int .u8 0, .int .u8 0, .int .u32 0, .slice none 0 0, .int .u8 0, .string (ByteArray.mk #[]), .slice none 0 0, .int .u8 0, .int .u16 0])) w122
 else
 if (n5 == 3) = true then
 X.CallX Tryz.prog 85 #[.pointer (some a)] w9 fun e80 w81 =>
 ∃ n82 n83 n84 n85 n86 n87 n88 n89 n90 n91 : Int, (e80 = .returned (.agg #[.int .u8 n82, .int .u16 n83, .int .u32 n84, .int .u8 n85, .int .u8 n86, .int .u8 n87, .int .u8 n88, .int .u8 n89, .int .u8 n90, .int .u8 n91])) ∧
 (X.Kept L7 w9 w81) ∧
 ∀ w92 : World, ∀ L93 : List Nat, (X.Hid L7 w81 w92) →
 (X.NewL w.heap.size L7 w81 w92 L93) →
 X.CallX Tryz.prog 134 #[.pointer (some a), .int .u64 4294967295] w92 fun e94 w95 =>
 ∃ n96 : Int, (e94 = .returned (.int .u64 n96)) ∧
 (X.Kept L93 w92 w95) ∧
 ∀ w97 : World, ∀ L98 : List Nat, (X.Hid L93 w95 w97) →
 (X.NewL w.heap.size L93 w95 w97 L98) →
 X.CallX Tryz.prog 87 #[.pointer (some a)] w97 fun e99 w100 =>
 ∃ q101 : Option Addr, ∃ k102 k103 : Nat, (e99 = .returned (.slice q101 k102 k103)) ∧
 (X.Kept L98 w97 w100) ∧
 if (n5 == 3) = true then
 ∀ w105 : World, ∀ L106 : List Nat, (X.Hid L98 w100 w105) →
 (X.NewL w.heap.size L98 w100 w105 L106) →
 X.CallX Tryz.prog 88 #[.pointer (some a)] w105 fun e107 w108 =>
 ∃ n109 : Int, ∃ s110 : ByteArray, (e107 = .returned (.agg #[.int .u8 n109, .string s110])) ∧
 (X.Kept L106 w105 w108) ∧
 ∀ w111 : World, ∀ L112 : List Nat, (X.Hid L106 w108 w111) →
 (X.NewL w.heap.size L106 w108 w111 L112) →
 X.CallX Tryz.prog 34 #[.pointer (some a)] w111 fun e113 w114 =>
 ∃ n115 : Int, (e113 = .returned (.int .u8 n115)) ∧
 (X.Kept L112 w111 w114) ∧
 X.CallX Tryz.prog 159 #[.pointer (some a), .int .i64 (IntKind.wrap .i64 n115), (.func (.func 160) #[] #[])] w114 fun e116 w117 =>
 ∃ q118 : Option Addr, ∃ k119 k120 : Nat, (e116 = .returned (.slice q118 k119 k120)) ∧
 (X.Kept L112 w114 w117) ∧
 ∀ w121 : World, (X.Hid L112 w117 w121) →
 R (.returned (.agg #[.int .u8 n5, .int .u8 n82, .int .u16 n83, .int .u32 n84, .int .u8 n85, .int .u8 n86, .int .u8 n87, .int .u8 n88, .int .u8 n89, .int .u8 n90, .int .u8 n91, .int .u32 (IntKind.wrap .u32 n96), .slice q101 k102 k103, .int .u8 n109, .string s110, .slice q118 k119 k120, .int .u8 0, .int .u16 0])) w121
 else
 ∀ w104 : World, (X.Hid L98 w100 w104) →
 R (.returned (.agg #[.int .u8 n5, .int .u8 n82, .int .u16 n83, .int .u32 n84, .int .u8 n85, .int .u8 n86, .int .u8 n87, .int .u8 n88, .int .u8 n89, .int .u8 n90, .int .u8 n91, .int .u32 (IntKind.wrap .u32 n96), .slice q101 k102 k103, .int .u8 0, .string (ByteArray.mk #[]), .slice none 0 0, .int .u8 0, .int .u16 0])) w104
 else
 if (n5 == 0) = true then
 X.CallX Tryz.prog 85 #[.pointer (some a)] w9 fun e38 w39 =>
 ∃ n40 n41 n42 n43 n44 n45 n46 n47 n48 n49 : Int, (e38 = .returned (.agg #[.int .u8 n40, .int .u16 n41, .int .u32 n42, .int .u8 n43, .int .u8 n44, .int .u8 n45, .int .u8 n46, .int .u8 n47, .int .u8 n48, .int .u8 n49])) ∧
 (X.Kept L7 w9 w39) ∧
 ∀ w50 : World, ∀ L51 : List Nat, (X.Hid L7 w39 w50) →
 (X.NewL w.heap.size L7 w39 w50 L51) →
 X.CallX Tryz.prog 134 #[.pointer (some a), .int .u64 4294967295] w50 fun e52 w53 =>
 ∃ n54 : Int, (e52 = .returned (.int .u64 n54)) ∧
 (X.Kept L51 w50 w53) ∧
 ∀ w55 : World, ∀ L56 : List Nat, (X.Hid L51 w53 w55) →
 (X.NewL w.heap.size L51 w53 w55 L56) →
 X.CallX Tryz.prog 87 #[.pointer (some a)] w55 fun e57 w58 =>
 ∃ q59 : Option Addr, ∃ k60 k61 : Nat, (e57 = .returned (.slice q59 k60 k61)) ∧
 (X.Kept L56 w55 w58) ∧
 if (n5 == 3) = true then
 ∀ w63 : World, ∀ L64 : List Nat, (X.Hid L56 w58 w63) →
 (X.NewL w.heap.size L56 w58 w63 L64) →
 X.CallX Tryz.prog 88 #[.pointer (some a)] w63 fun e65 w66 =>
 ∃ n67 : Int, ∃ s68 : ByteArray, (e65 = .returned (.agg #[.int .u8 n67, .string s68])) ∧
 (X.Kept L64 w63 w66) ∧
 ∀ w69 : World, ∀ L70 : List Nat, (X.Hid L64 w66 w69) →
 (X.NewL w.heap.size L64 w66 w69 L70) →
 X.CallX Tryz.prog 34 #[.pointer (some a)] w69 fun e71 w72 =>
 ∃ n73 : Int, (e71 = .returned (.int .u8 n73)) ∧
 (X.Kept L70 w69 w72) ∧
 X.CallX Tryz.prog 159 #[.pointer (some a), .int .i64 (IntKind.wrap .i64 n73), (.func (.func 160) #[] #[])] w72 fun e74 w75 =>
 ∃ q76 : Option Addr, ∃ k77 k78 : Nat, (e74 = .returned (.slice q76 k77 k78)) ∧
 (X.Kept L70 w72 w75) ∧
 ∀ w79 : World, (X.Hid L70 w75 w79) →
 R (.returned (.agg #[.int .u8 n5, .int .u8 n40, .int .u16 n41, .int .u32 n42, .int .u8 n43, .int .u8 n44, .int .u8 n45, .int .u8 n46, .int .u8 n47, .int .u8 n48, .int .u8 n49, .int .u32 (IntKind.wrap .u32 n54), .slice q59 k60 k61, .int .u8 n67, .string s68, .slice q76 k77 k78, .int .u8 0, .int .u16 0])) w79
 else
 ∀ w62 : World, (X.Hid L56 w58 w62) →
 R (.returned (.agg #[.int .u8 n5, .int .u8 n40, .int .u16 n41, .int .u32 n42, .int .u8 n43, .int .u8 n44, .int .u8 n45, .int .u8 n46, .int .u8 n47, .int .u8 n48, .int .u8 n49, .int .u32 (IntKind.wrap .u32 n54), .slice q59 k60 k61, .int .u8 0, .string (ByteArray.mk #[]), .slice none 0 0, .int .u8 0, .int .u16 0])) w62
 else
 if (n5 == 1) = true then
 X.CallX Tryz.prog 85 #[.pointer (some a)] w9 fun e19 w20 =>
 ∃ n21 n22 n23 n24 n25 n26 n27 n28 n29 n30 : Int, (e19 = .returned (.agg #[.int .u8 n21, .int .u16 n22, .int .u32 n23, .int .u8 n24, .int .u8 n25, .int .u8 n26, .int .u8 n27, .int .u8 n28, .int .u8 n29, .int .u8 n30])) ∧
 (X.Kept L7 w9 w20) ∧
 ∀ w31 : World, ∀ L32 : List Nat, (X.Hid L7 w20 w31) →
 (X.NewL w.heap.size L7 w20 w31 L32) →
 X.CallX Tryz.prog 88 #[.pointer (some a)] w31 fun e33 w34 =>
 ∃ n35 : Int, ∃ s36 : ByteArray, (e33 = .returned (.agg #[.int .u8 n35, .string s36])) ∧
 (X.Kept L32 w31 w34) ∧
 ∀ w37 : World, (X.Hid L32 w34 w37) →
 R (.returned (.agg #[.int .u8 n5, .int .u8 n21, .int .u16 n22, .int .u32 n23, .int .u8 n24, .int .u8 n25, .int .u8 n26, .int .u8 n27, .int .u8 n28, .int .u8 n29, .int .u8 n30, .int .u32 0, .slice none 0 0, .int .u8 n35, .string s36, .slice none 0 0, .int .u8 0, .int .u16 0])) w37
 else
 if (n5 == 2) = true then
 X.CallX Tryz.prog 95 #[.pointer (some a)] w9 fun e14 w15 =>
 ∃ n16 n17 : Int, (e14 = .returned (.agg #[.int .u8 n16, .int .u16 n17])) ∧
 (X.Kept L7 w9 w15) ∧
 ∀ w18 : World, (X.Hid L7 w15 w18) →
 R (.returned (.agg #[.int .u8 n5, .int .u8 0, .int .u16 0, .int .u32 0, .int .u8 0, .int .u8 0, .int .u8 0, .int .u8 0, .int .u8 0, .int .u8 0, .int .u8 0, .int .u32 0, .slice none 0 0, .int .u8 0, .string (ByteArray.mk #[]), .slice none 0 0, .int .u8 n16, .int .u16 n17])) w18
 else
 X.CallX Tryz.prog 140 #[.pointer (some a), .int .i64 6] w9 fun e11 w12 =>
 (e11 = .returned (.tuple #[])) ∧
 (X.Kept L7 w9 w12) ∧
 ∀ w13 : World, (X.Hid L7 w12 w13) →
 R (.returned (.agg #[.int .u8 n5, .int .u8 0, .int .u16 0, .int .u32 0, .int .u8 0, .int .u8 0, .int .u8 0, .int .u8 0, .int .u8 0, .int .u8 0, .int .u8 0, .int .u32 0, .slice none 0 0, .int .u8 0, .string (ByteArray.mk #[]), .slice none 0 0, .int .u8 0, .int .u16 0])) w13) :
 Calls Tryz.prog 139 #[.pointer (some a)] w R :=
 X.calls_of { isLoc := [2, 3], sym := [], loops := [], joins := [] } Tryz.func139 (by kernel_rfl) h
end Go.Proofs
