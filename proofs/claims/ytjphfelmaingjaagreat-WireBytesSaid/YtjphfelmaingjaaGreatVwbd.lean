import Derived.Test.YtjphfelmaingjaaGreatXFn
import Derived.Test.YtjphfelmaingjaaGreatVwba
import Derived.Test.YtjphfelmaingjaaGreatProg
set_option maxRecDepth 100000
set_option linter.unusedVariables false
/- The verification conditions of this seat's functions, as the engine has them: printed by a program of the bench; checked by the kernel. -/
namespace Go.Proofs
open Go X
theorem x_rdmsg (a_0 : Option Addr) (b : Addr) (w : World) (R : Ending → World → Prop) (h :
 ∃ n1, (World.cell? w (b.add 0) = some (.int .u8 n1)) ∧
 if (n1 == 0) = true then
 ∀ w518 L519, Hid [] w w518 →
 NewL w.heap.size [] w w518 L519 →
 CallX Tryz.prog 34 #[.pointer a_0] w518 fun e520 w521 =>
 ∃ n522, e520 = .returned (.int .u8 n522) ∧
 Kept L519 w518 w521 ∧
 ((none : Option Nat) = none) ∧
 w521.there b.block (b.off + 1) 1 ∧
 ¬ b.block ∈ L519 ∧
 CallX Tryz.prog 85 #[.pointer a_0] (w521.setCells b.block (b.off + 1) [.int .u8 n522]) fun e523 w524 =>
 ∃ n525 n526 n527 n528 n529 n530 n531 n532 n533 n534, e523 = .returned (IdW n525 n526 n527 n528 n529 n530 n531 n532 n533 n534) ∧
 (Kept L519 (w521.setCells b.block (b.off + 1) [.int .u8 n522]) w524) ∧
 ((none : Option Nat) = none) ∧
 w524.there b.block (b.off + 9) 10 ∧
 ¬ b.block ∈ L519 ∧
 CallX Tryz.prog 86 #[(.agg #[.pointer a_0])] (w524.setCells b.block (b.off + 9) [.int .u8 n525, .int .u16 n526, .int .u32 n527, .int .u8 n528, .int .u8 n529, .int .u8 n530, .int .u8 n531, .int .u8 n532, .int .u8 n533, .int .u8 n534]) fun e535 w536 =>
 ∃ n537, e535 = .returned (.int .u32 n537) ∧
 (Kept L519 (w524.setCells b.block (b.off + 9) [.int .u8 n525, .int .u16 n526, .int .u32 n527, .int .u8 n528, .int .u8 n529, .int .u8 n530, .int .u8 n531, .int .u8 n532, .int .u8 n533, .int .u8 n534]) w536) ∧
 ((none : Option Nat) = none) ∧
 w536.there b.block (b.off + 6) 1 ∧
 ¬ b.block ∈ L519 ∧
 CallX Tryz.prog 87 #[.pointer a_0] (w536.setCells b.block (b.off + 6) [.int .u32 n537]) fun e538 w539 =>
 ∃ q540 k541 k542, e538 = .returned (.slice q540 k541 k542) ∧
 (Kept L519 (w536.setCells b.block (b.off + 6) [.int .u32 n537]) w539) ∧
 ((none : Option Nat) = none) ∧
 w539.there b.block (b.off + 19) 1 ∧
 ¬ b.block ∈ L519 ∧
 R (.returned (.bool true)) (w539.setCells b.block (b.off + 19) [.slice q540 k541 k542])
 else
 if (n1 == 1) = true then
 ∀ w493 L494, Hid [] w w493 →
 NewL w.heap.size [] w w493 L494 →
 CallX Tryz.prog 85 #[.pointer a_0] w493 fun e495 w496 =>
 ∃ n497 n498 n499 n500 n501 n502 n503 n504 n505 n506, e495 = .returned (IdW n497 n498 n499 n500 n501 n502 n503 n504 n505 n506) ∧
 Kept L494 w493 w496 ∧
 ((none : Option Nat) = none) ∧
 w496.there b.block (b.off + 9) 10 ∧
 ¬ b.block ∈ L494 ∧
 CallX Tryz.prog 88 #[.pointer a_0] (w496.setCells b.block (b.off + 9) [.int .u8 n497, .int .u16 n498, .int .u32 n499, .int .u8 n500, .int .u8 n501, .int .u8 n502, .int .u8 n503, .int .u8 n504, .int .u8 n505, .int .u8 n506]) fun e507 w508 =>
 ∃ n509 s510, e507 = .returned (.agg #[.int .u8 n509, .string s510]) ∧
 (Kept L494 (w496.setCells b.block (b.off + 9) [.int .u8 n497, .int .u16 n498, .int .u32 n499, .int .u8 n500, .int .u8 n501, .int .u8 n502, .int .u8 n503, .int .u8 n504, .int .u8 n505, .int .u8 n506]) w508) ∧
 ((none : Option Nat) = none) ∧
 w508.there b.block (b.off + 20) 2 ∧
 ¬ b.block ∈ L494 ∧
 CallX Tryz.prog 89 #[.pointer a_0] (w508.setCells b.block (b.off + 20) [.int .u8 n509, .string s510]) fun e511 w512 =>
 ∃ n513 n514 q515 k516 k517, e511 = .returned (.agg #[.int .u8 n513, .int .u32 n514, .slice q515 k516 k517]) ∧
 (Kept L494 (w508.setCells b.block (b.off + 20) [.int .u8 n509, .string s510]) w512) ∧
 ((none : Option Nat) = none) ∧
 w512.there b.block (b.off + 22) 3 ∧
 ¬ b.block ∈ L494 ∧
 R (.returned (.bool true)) (w512.setCells b.block (b.off + 22) [.int .u8 n513, .int .u32 n514, .slice q515 k516 k517])
 else
 if (n1 == 2) = true then
 ∀ w476 L477, Hid [] w w476 →
 NewL w.heap.size [] w w476 L477 →
 CallX Tryz.prog 85 #[.pointer a_0] w476 fun e478 w479 =>
 ∃ n480 n481 n482 n483 n484 n485 n486 n487 n488 n489, e478 = .returned (IdW n480 n481 n482 n483 n484 n485 n486 n487 n488 n489) ∧
 Kept L477 w476 w479 ∧
 ((none : Option Nat) = none) ∧
 w479.there b.block (b.off + 9) 10 ∧
 ¬ b.block ∈ L477 ∧
 CallX Tryz.prog 34 #[.pointer a_0] (w479.setCells b.block (b.off + 9) [.int .u8 n480, .int .u16 n481, .int .u32 n482, .int .u8 n483, .int .u8 n484, .int .u8 n485, .int .u8 n486, .int .u8 n487, .int .u8 n488, .int .u8 n489]) fun e490 w491 =>
 ∃ n492, e490 = .returned (.int .u8 n492) ∧
 (Kept L477 (w479.setCells b.block (b.off + 9) [.int .u8 n480, .int .u16 n481, .int .u32 n482, .int .u8 n483, .int .u8 n484, .int .u8 n485, .int .u8 n486, .int .u8 n487, .int .u8 n488, .int .u8 n489]) w491) ∧
 ((none : Option Nat) = none) ∧
 w491.there b.block (b.off + 2) 1 ∧
 ¬ b.block ∈ L477 ∧
 R (.returned (.bool true)) (w491.setCells b.block (b.off + 2) [.int .u8 n492])
 else
 if (n1 == 3) = true then
 if (n1 == 3) = true then
 ∃ x455, (FactsW x455 w []) ∧
 ∀ w456 L457, Hid [] w w456 →
 NewL w.heap.size [] w w456 L457 →
 CallX Tryz.prog 34 #[.pointer a_0] w456 fun e458 w459 =>
 ∃ n460, e458 = .returned (.int .u8 n460) ∧
 Kept L457 w456 w459 ∧
 FactsW x455 w459 L457 ∧
 CallX Tryz.prog 86 #[(.agg #[.pointer a_0])] w459 fun e461 w462 =>
 ∃ n463, e461 = .returned (.int .u32 n463) ∧
 Kept L457 w459 w462 ∧
 FactsW x455 w462 L457 ∧
 CallX Tryz.prog 86 #[(.agg #[.pointer a_0])] w462 fun e464 w465 =>
 ∃ n466, e464 = .returned (.int .u32 n466) ∧
 Kept L457 w462 w465 ∧
 FactsW x455 w465 L457 ∧
 ((none : Option Nat) = none) ∧
 w465.there b.block (b.off + 1) 1 ∧
 ¬ b.block ∈ L457 ∧
 (FactsW x455 (w465.setCells b.block (b.off + 1) [.int .u8 n460]) L457) ∧
 ((none : Option Nat) = none) ∧
 World.there (w465.setCells b.block (b.off + 1) [.int .u8 n460]) b.block (b.off + 3) 1 ∧
 ¬ b.block ∈ L457 ∧
 (FactsW x455 ((w465.setCells b.block (b.off + 1) [.int .u8 n460]).setCells b.block (b.off + 3) [.int .u32 n463]) L457) ∧
 ((none : Option Nat) = none) ∧
 World.there ((w465.setCells b.block (b.off + 1) [.int .u8 n460]).setCells b.block (b.off + 3) [.int .u32 n463]) b.block (b.off + 4) 1 ∧
 ¬ b.block ∈ L457 ∧
 ∃ n467, (World.cell? (((w465.setCells b.block (b.off + 1) [.int .u8 n460]).setCells b.block (b.off + 3) [.int .u32 n463]).setCells b.block (b.off + 4) [.int .u32 n466]) (b.add 0) = some (.int .u8 n467)) ∧
 (¬ (((b.add 0).block) ∈ L457)) ∧
 if (n467 == 3) = true then
 CallX Tryz.prog 86 #[(.agg #[.pointer a_0])] (((w465.setCells b.block (b.off + 1) [.int .u8 n460]).setCells b.block (b.off + 3) [.int .u32 n463]).setCells b.block (b.off + 4) [.int .u32 n466]) fun e468 w469 =>
 ∃ n470, e468 = .returned (.int .u32 n470) ∧
 (Kept L457 (((w465.setCells b.block (b.off + 1) [.int .u8 n460]).setCells b.block (b.off + 3) [.int .u32 n463]).setCells b.block (b.off + 4) [.int .u32 n466]) w469) ∧
 ((none : Option Nat) = none) ∧
 w469.there b.block (b.off + 5) 1 ∧
 ¬ b.block ∈ L457 ∧
 CallX Tryz.prog 90 #[.pointer a_0] (w469.setCells b.block (b.off + 5) [.int .u32 n470]) fun e471 w472 =>
 ∃ q473 k474 k475, e471 = .returned (.slice q473 k474 k475) ∧
 (Kept L457 (w469.setCells b.block (b.off + 5) [.int .u32 n470]) w472) ∧
 ((none : Option Nat) = none) ∧
 w472.there b.block (b.off + 29) 1 ∧
 ¬ b.block ∈ L457 ∧
 R (.returned (.bool true)) (w472.setCells b.block (b.off + 29) [.slice q473 k474 k475])
 else
 R (.returned (.bool true)) (((w465.setCells b.block (b.off + 1) [.int .u8 n460]).setCells b.block (b.off + 3) [.int .u32 n463]).setCells b.block (b.off + 4) [.int .u32 n466])
 else
 if (n1 == 5) = true then
 if (n1 == 5) = true then
 ∀ w451 L452, Hid [] w w451 →
 NewL w.heap.size [] w w451 L452 →
 CallX Tryz.prog 91 #[(.agg #[.pointer a_0]), .pointer (some b)] w451 fun e453 w454 =>
 (e453 = .returned (.tuple #[])) ∧
 Kept L452 w451 w454 ∧
 R (.returned (.bool true)) w454
 else
 if (n1 == 8) = true then
 ∀ w433 L434, Hid [] w w433 →
 NewL w.heap.size [] w w433 L434 →
 CallX Tryz.prog 91 #[(.agg #[.pointer a_0]), .pointer (some b)] w433 fun e435 w436 =>
 (e435 = .returned (.tuple #[])) ∧
 Kept L434 w433 w436 ∧
 CallX Tryz.prog 90 #[.pointer a_0] w436 fun e437 w438 =>
 ∃ q439 k440 k441, e437 = .returned (.slice q439 k440 k441) ∧
 Kept L434 w436 w438 ∧
 ((none : Option Nat) = none) ∧
 w438.there b.block (b.off + 29) 1 ∧
 ¬ b.block ∈ L434 ∧
 CallX Tryz.prog 92 #[(.agg #[.pointer a_0])] (w438.setCells b.block (b.off + 29) [.slice q439 k440 k441]) fun e442 w443 =>
 ∃ b444, e442 = .returned (.bool b444) ∧
 (Kept L434 (w438.setCells b.block (b.off + 29) [.slice q439 k440 k441]) w443) ∧
 ((none : Option Nat) = none) ∧
 w443.there b.block (b.off + 27) 1 ∧
 ¬ b.block ∈ L434 ∧
 ∃ b445, (World.cell? (w443.setCells b.block (b.off + 27) [.bool b444]) (b.add 27) = some (.bool b445)) ∧
 ¬ b.block ∈ L434 ∧
 if b445 = true then
 CallX Tryz.prog 93 #[(.agg #[.pointer a_0])] (w443.setCells b.block (b.off + 27) [.bool b444]) fun e446 w447 =>
 ∃ n448, e446 = .returned (.int .u64 n448) ∧
 (Kept L434 (w443.setCells b.block (b.off + 27) [.bool b444]) w447) ∧
 ((none : Option Nat) = none) ∧
 w447.there b.block (b.off + 8) 1 ∧
 ¬ b.block ∈ L434 ∧
 CallX Tryz.prog 94 #[(.agg #[.pointer a_0]), .pointer (some b)] (w447.setCells b.block (b.off + 8) [.int .u64 n448]) fun e449 w450 =>
 (e449 = .returned (.tuple #[])) ∧
 (Kept L434 (w447.setCells b.block (b.off + 8) [.int .u64 n448]) w450) ∧
 R (.returned (.bool true)) w450
 else
 R (.returned (.bool true)) (w443.setCells b.block (b.off + 27) [.bool b444])
 else
 if (n1 == 9) = true then
 ∀ w427 L428, Hid [] w w427 →
 NewL w.heap.size [] w w427 L428 →
 CallX Tryz.prog 91 #[(.agg #[.pointer a_0]), .pointer (some b)] w427 fun e429 w430 =>
 (e429 = .returned (.tuple #[])) ∧
 Kept L428 w427 w430 ∧
 CallX Tryz.prog 94 #[(.agg #[.pointer a_0]), .pointer (some b)] w430 fun e431 w432 =>
 (e431 = .returned (.tuple #[])) ∧
 Kept L428 w430 w432 ∧
 R (.returned (.bool true)) w432
 else
 if (n1 == 10) = true then
 ∀ w413 L414, Hid [] w w413 →
 NewL w.heap.size [] w w413 L414 →
 CallX Tryz.prog 89 #[.pointer a_0] w413 fun e415 w416 =>
 ∃ n417 n418 q419 k420 k421, e415 = .returned (.agg #[.int .u8 n417, .int .u32 n418, .slice q419 k420 k421]) ∧
 Kept L414 w413 w416 ∧
 ((none : Option Nat) = none) ∧
 w416.there b.block (b.off + 22) 3 ∧
 ¬ b.block ∈ L414 ∧
 CallX Tryz.prog 90 #[.pointer a_0] (w416.setCells b.block (b.off + 22) [.int .u8 n417, .int .u32 n418, .slice q419 k420 k421]) fun e422 w423 =>
 ∃ q424 k425 k426, e422 = .returned (.slice q424 k425 k426) ∧
 (Kept L414 (w416.setCells b.block (b.off + 22) [.int .u8 n417, .int .u32 n418, .slice q419 k420 k421]) w423) ∧
 ((none : Option Nat) = none) ∧
 w423.there b.block (b.off + 29) 1 ∧
 ¬ b.block ∈ L414 ∧
 R (.returned (.bool true)) (w423.setCells b.block (b.off + 29) [.slice q424 k425 k426])
 else
 if (n1 == 11) = true then
 if (n1 == 11) = true then
 ∀ w404 L405, Hid [] w w404 →
 NewL w.heap.size [] w w404 L405 →
 CallX Tryz.prog 34 #[.pointer a_0] w404 fun e406 w407 =>
 ∃ n408, e406 = .returned (.int .u8 n408) ∧
 Kept L405 w404 w407 ∧
 ((none : Option Nat) = none) ∧
 w407.there b.block (b.off + 1) 1 ∧
 ¬ b.block ∈ L405 ∧
 CallX Tryz.prog 95 #[.pointer a_0] (w407.setCells b.block (b.off + 1) [.int .u8 n408]) fun e409 w410 =>
 ∃ n411 n412, e409 = .returned (.agg #[.int .u8 n411, .int .u16 n412]) ∧
 (Kept L405 (w407.setCells b.block (b.off + 1) [.int .u8 n408]) w410) ∧
 ((none : Option Nat) = none) ∧
 w410.there b.block (b.off + 25) 2 ∧
 ¬ b.block ∈ L405 ∧
 R (.returned (.bool true)) (w410.setCells b.block (b.off + 25) [.int .u8 n411, .int .u16 n412])
 else
 ∀ w403, Hid [] w w403 →
 R (.returned (.bool false)) w403
 else
 if (n1 == 12) = true then
 if (n1 == 12) = true then
 ∀ w394 L395, Hid [] w w394 →
 NewL w.heap.size [] w w394 L395 →
 CallX Tryz.prog 34 #[.pointer a_0] w394 fun e396 w397 =>
 ∃ n398, e396 = .returned (.int .u8 n398) ∧
 Kept L395 w394 w397 ∧
 ((none : Option Nat) = none) ∧
 w397.there b.block (b.off + 1) 1 ∧
 ¬ b.block ∈ L395 ∧
 CallX Tryz.prog 95 #[.pointer a_0] (w397.setCells b.block (b.off + 1) [.int .u8 n398]) fun e399 w400 =>
 ∃ n401 n402, e399 = .returned (.agg #[.int .u8 n401, .int .u16 n402]) ∧
 (Kept L395 (w397.setCells b.block (b.off + 1) [.int .u8 n398]) w400) ∧
 ((none : Option Nat) = none) ∧
 w400.there b.block (b.off + 25) 2 ∧
 ¬ b.block ∈ L395 ∧
 R (.returned (.bool true)) (w400.setCells b.block (b.off + 25) [.int .u8 n401, .int .u16 n402])
 else
 ∀ w393, Hid [] w w393 →
 R (.returned (.bool false)) w393
 else
 if (n1 == 13) = true then
 ∀ w384 L385, Hid [] w w384 →
 NewL w.heap.size [] w w384 L385 →
 CallX Tryz.prog 34 #[.pointer a_0] w384 fun e386 w387 =>
 ∃ n388, e386 = .returned (.int .u8 n388) ∧
 Kept L385 w384 w387 ∧
 ((none : Option Nat) = none) ∧
 w387.there b.block (b.off + 1) 1 ∧
 ¬ b.block ∈ L385 ∧
 CallX Tryz.prog 95 #[.pointer a_0] (w387.setCells b.block (b.off + 1) [.int .u8 n388]) fun e389 w390 =>
 ∃ n391 n392, e389 = .returned (.agg #[.int .u8 n391, .int .u16 n392]) ∧
 (Kept L385 (w387.setCells b.block (b.off + 1) [.int .u8 n388]) w390) ∧
 ((none : Option Nat) = none) ∧
 w390.there b.block (b.off + 25) 2 ∧
 ¬ b.block ∈ L385 ∧
 R (.returned (.bool true)) (w390.setCells b.block (b.off + 25) [.int .u8 n391, .int .u16 n392])
 else
 ∀ w383, Hid [] w w383 →
 R (.returned (.bool false)) w383
 else
 if (n1 == 6) = true then
 if (n1 == 6) = true then
 ∀ w379 L380, Hid [] w w379 →
 NewL w.heap.size [] w w379 L380 →
 CallX Tryz.prog 91 #[(.agg #[.pointer a_0]), .pointer (some b)] w379 fun e381 w382 =>
 (e381 = .returned (.tuple #[])) ∧
 Kept L380 w379 w382 ∧
 R (.returned (.bool true)) w382
 else
 if (n1 == 8) = true then
 ∀ w361 L362, Hid [] w w361 →
 NewL w.heap.size [] w w361 L362 →
 CallX Tryz.prog 91 #[(.agg #[.pointer a_0]), .pointer (some b)] w361 fun e363 w364 =>
 (e363 = .returned (.tuple #[])) ∧
 Kept L362 w361 w364 ∧
 CallX Tryz.prog 90 #[.pointer a_0] w364 fun e365 w366 =>
 ∃ q367 k368 k369, e365 = .returned (.slice q367 k368 k369) ∧
 Kept L362 w364 w366 ∧
 ((none : Option Nat) = none) ∧
 w366.there b.block (b.off + 29) 1 ∧
 ¬ b.block ∈ L362 ∧
 CallX Tryz.prog 92 #[(.agg #[.pointer a_0])] (w366.setCells b.block (b.off + 29) [.slice q367 k368 k369]) fun e370 w371 =>
 ∃ b372, e370 = .returned (.bool b372) ∧
 (Kept L362 (w366.setCells b.block (b.off + 29) [.slice q367 k368 k369]) w371) ∧
 ((none : Option Nat) = none) ∧
 w371.there b.block (b.off + 27) 1 ∧
 ¬ b.block ∈ L362 ∧
 ∃ b373, (World.cell? (w371.setCells b.block (b.off + 27) [.bool b372]) (b.add 27) = some (.bool b373)) ∧
 ¬ b.block ∈ L362 ∧
 if b373 = true then
 CallX Tryz.prog 93 #[(.agg #[.pointer a_0])] (w371.setCells b.block (b.off + 27) [.bool b372]) fun e374 w375 =>
 ∃ n376, e374 = .returned (.int .u64 n376) ∧
 (Kept L362 (w371.setCells b.block (b.off + 27) [.bool b372]) w375) ∧
 ((none : Option Nat) = none) ∧
 w375.there b.block (b.off + 8) 1 ∧
 ¬ b.block ∈ L362 ∧
 CallX Tryz.prog 94 #[(.agg #[.pointer a_0]), .pointer (some b)] (w375.setCells b.block (b.off + 8) [.int .u64 n376]) fun e377 w378 =>
 (e377 = .returned (.tuple #[])) ∧
 (Kept L362 (w375.setCells b.block (b.off + 8) [.int .u64 n376]) w378) ∧
 R (.returned (.bool true)) w378
 else
 R (.returned (.bool true)) (w371.setCells b.block (b.off + 27) [.bool b372])
 else
 if (n1 == 9) = true then
 ∀ w355 L356, Hid [] w w355 →
 NewL w.heap.size [] w w355 L356 →
 CallX Tryz.prog 91 #[(.agg #[.pointer a_0]), .pointer (some b)] w355 fun e357 w358 =>
 (e357 = .returned (.tuple #[])) ∧
 Kept L356 w355 w358 ∧
 CallX Tryz.prog 94 #[(.agg #[.pointer a_0]), .pointer (some b)] w358 fun e359 w360 =>
 (e359 = .returned (.tuple #[])) ∧
 Kept L356 w358 w360 ∧
 R (.returned (.bool true)) w360
 else
 if (n1 == 10) = true then
 ∀ w341 L342, Hid [] w w341 →
 NewL w.heap.size [] w w341 L342 →
 CallX Tryz.prog 89 #[.pointer a_0] w341 fun e343 w344 =>
 ∃ n345 n346 q347 k348 k349, e343 = .returned (.agg #[.int .u8 n345, .int .u32 n346, .slice q347 k348 k349]) ∧
 Kept L342 w341 w344 ∧
 ((none : Option Nat) = none) ∧
 w344.there b.block (b.off + 22) 3 ∧
 ¬ b.block ∈ L342 ∧
 CallX Tryz.prog 90 #[.pointer a_0] (w344.setCells b.block (b.off + 22) [.int .u8 n345, .int .u32 n346, .slice q347 k348 k349]) fun e350 w351 =>
 ∃ q352 k353 k354, e350 = .returned (.slice q352 k353 k354) ∧
 (Kept L342 (w344.setCells b.block (b.off + 22) [.int .u8 n345, .int .u32 n346, .slice q347 k348 k349]) w351) ∧
 ((none : Option Nat) = none) ∧
 w351.there b.block (b.off + 29) 1 ∧
 ¬ b.block ∈ L342 ∧
 R (.returned (.bool true)) (w351.setCells b.block (b.off + 29) [.slice q352 k353 k354])
 else
 if (n1 == 11) = true then
 if (n1 == 11) = true then
 ∀ w332 L333, Hid [] w w332 →
 NewL w.heap.size [] w w332 L333 →
 CallX Tryz.prog 34 #[.pointer a_0] w332 fun e334 w335 =>
 ∃ n336, e334 = .returned (.int .u8 n336) ∧
 Kept L333 w332 w335 ∧
 ((none : Option Nat) = none) ∧
 w335.there b.block (b.off + 1) 1 ∧
 ¬ b.block ∈ L333 ∧
 CallX Tryz.prog 95 #[.pointer a_0] (w335.setCells b.block (b.off + 1) [.int .u8 n336]) fun e337 w338 =>
 ∃ n339 n340, e337 = .returned (.agg #[.int .u8 n339, .int .u16 n340]) ∧
 (Kept L333 (w335.setCells b.block (b.off + 1) [.int .u8 n336]) w338) ∧
 ((none : Option Nat) = none) ∧
 w338.there b.block (b.off + 25) 2 ∧
 ¬ b.block ∈ L333 ∧
 R (.returned (.bool true)) (w338.setCells b.block (b.off + 25) [.int .u8 n339, .int .u16 n340])
 else
 ∀ w331, Hid [] w w331 →
 R (.returned (.bool false)) w331
 else
 if (n1 == 12) = true then
 if (n1 == 12) = true then
 ∀ w322 L323, Hid [] w w322 →
 NewL w.heap.size [] w w322 L323 →
 CallX Tryz.prog 34 #[.pointer a_0] w322 fun e324 w325 =>
 ∃ n326, e324 = .returned (.int .u8 n326) ∧
 Kept L323 w322 w325 ∧
 ((none : Option Nat) = none) ∧
 w325.there b.block (b.off + 1) 1 ∧
 ¬ b.block ∈ L323 ∧
 CallX Tryz.prog 95 #[.pointer a_0] (w325.setCells b.block (b.off + 1) [.int .u8 n326]) fun e327 w328 =>
 ∃ n329 n330, e327 = .returned (.agg #[.int .u8 n329, .int .u16 n330]) ∧
 (Kept L323 (w325.setCells b.block (b.off + 1) [.int .u8 n326]) w328) ∧
 ((none : Option Nat) = none) ∧
 w328.there b.block (b.off + 25) 2 ∧
 ¬ b.block ∈ L323 ∧
 R (.returned (.bool true)) (w328.setCells b.block (b.off + 25) [.int .u8 n329, .int .u16 n330])
 else
 ∀ w321, Hid [] w w321 →
 R (.returned (.bool false)) w321
 else
 if (n1 == 13) = true then
 ∀ w312 L313, Hid [] w w312 →
 NewL w.heap.size [] w w312 L313 →
 CallX Tryz.prog 34 #[.pointer a_0] w312 fun e314 w315 =>
 ∃ n316, e314 = .returned (.int .u8 n316) ∧
 Kept L313 w312 w315 ∧
 ((none : Option Nat) = none) ∧
 w315.there b.block (b.off + 1) 1 ∧
 ¬ b.block ∈ L313 ∧
 CallX Tryz.prog 95 #[.pointer a_0] (w315.setCells b.block (b.off + 1) [.int .u8 n316]) fun e317 w318 =>
 ∃ n319 n320, e317 = .returned (.agg #[.int .u8 n319, .int .u16 n320]) ∧
 (Kept L313 (w315.setCells b.block (b.off + 1) [.int .u8 n316]) w318) ∧
 ((none : Option Nat) = none) ∧
 w318.there b.block (b.off + 25) 2 ∧
 ¬ b.block ∈ L313 ∧
 R (.returned (.bool true)) (w318.setCells b.block (b.off + 25) [.int .u8 n319, .int .u16 n320])
 else
 ∀ w311, Hid [] w w311 →
 R (.returned (.bool false)) w311
 else
 if (n1 == 7) = true then
 ∀ w307 L308, Hid [] w w307 →
 NewL w.heap.size [] w w307 L308 →
 CallX Tryz.prog 91 #[(.agg #[.pointer a_0]), .pointer (some b)] w307 fun e309 w310 =>
 (e309 = .returned (.tuple #[])) ∧
 Kept L308 w307 w310 ∧
 R (.returned (.bool true)) w310
 else
 if (n1 == 8) = true then
 ∀ w289 L290, Hid [] w w289 →
 NewL w.heap.size [] w w289 L290 →
 CallX Tryz.prog 91 #[(.agg #[.pointer a_0]), .pointer (some b)] w289 fun e291 w292 =>
 (e291 = .returned (.tuple #[])) ∧
 Kept L290 w289 w292 ∧
 CallX Tryz.prog 90 #[.pointer a_0] w292 fun e293 w294 =>
 ∃ q295 k296 k297, e293 = .returned (.slice q295 k296 k297) ∧
 Kept L290 w292 w294 ∧
 ((none : Option Nat) = none) ∧
 w294.there b.block (b.off + 29) 1 ∧
 ¬ b.block ∈ L290 ∧
 CallX Tryz.prog 92 #[(.agg #[.pointer a_0])] (w294.setCells b.block (b.off + 29) [.slice q295 k296 k297]) fun e298 w299 =>
 ∃ b300, e298 = .returned (.bool b300) ∧
 (Kept L290 (w294.setCells b.block (b.off + 29) [.slice q295 k296 k297]) w299) ∧
 ((none : Option Nat) = none) ∧
 w299.there b.block (b.off + 27) 1 ∧
 ¬ b.block ∈ L290 ∧
 ∃ b301, (World.cell? (w299.setCells b.block (b.off + 27) [.bool b300]) (b.add 27) = some (.bool b301)) ∧
 ¬ b.block ∈ L290 ∧
 if b301 = true then
 CallX Tryz.prog 93 #[(.agg #[.pointer a_0])] (w299.setCells b.block (b.off + 27) [.bool b300]) fun e302 w303 =>
 ∃ n304, e302 = .returned (.int .u64 n304) ∧
 (Kept L290 (w299.setCells b.block (b.off + 27) [.bool b300]) w303) ∧
 ((none : Option Nat) = none) ∧
 w303.there b.block (b.off + 8) 1 ∧
 ¬ b.block ∈ L290 ∧
 CallX Tryz.prog 94 #[(.agg #[.pointer a_0]), .pointer (some b)] (w303.setCells b.block (b.off + 8) [.int .u64 n304]) fun e305 w306 =>
 (e305 = .returned (.tuple #[])) ∧
 (Kept L290 (w303.setCells b.block (b.off + 8) [.int .u64 n304]) w306) ∧
 R (.returned (.bool true)) w306
 else
 R (.returned (.bool true)) (w299.setCells b.block (b.off + 27) [.bool b300])
 else
 if (n1 == 9) = true then
 ∀ w283 L284, Hid [] w w283 →
 NewL w.heap.size [] w w283 L284 →
 CallX Tryz.prog 91 #[(.agg #[.pointer a_0]), .pointer (some b)] w283 fun e285 w286 =>
 (e285 = .returned (.tuple #[])) ∧
 Kept L284 w283 w286 ∧
 CallX Tryz.prog 94 #[(.agg #[.pointer a_0]), .pointer (some b)] w286 fun e287 w288 =>
 (e287 = .returned (.tuple #[])) ∧
 Kept L284 w286 w288 ∧
 R (.returned (.bool true)) w288
 else
 if (n1 == 10) = true then
 ∀ w269 L270, Hid [] w w269 →
 NewL w.heap.size [] w w269 L270 →
 CallX Tryz.prog 89 #[.pointer a_0] w269 fun e271 w272 =>
 ∃ n273 n274 q275 k276 k277, e271 = .returned (.agg #[.int .u8 n273, .int .u32 n274, .slice q275 k276 k277]) ∧
 Kept L270 w269 w272 ∧
 ((none : Option Nat) = none) ∧
 w272.there b.block (b.off + 22) 3 ∧
 ¬ b.block ∈ L270 ∧
 CallX Tryz.prog 90 #[.pointer a_0] (w272.setCells b.block (b.off + 22) [.int .u8 n273, .int .u32 n274, .slice q275 k276 k277]) fun e278 w279 =>
 ∃ q280 k281 k282, e278 = .returned (.slice q280 k281 k282) ∧
 (Kept L270 (w272.setCells b.block (b.off + 22) [.int .u8 n273, .int .u32 n274, .slice q275 k276 k277]) w279) ∧
 ((none : Option Nat) = none) ∧
 w279.there b.block (b.off + 29) 1 ∧
 ¬ b.block ∈ L270 ∧
 R (.returned (.bool true)) (w279.setCells b.block (b.off + 29) [.slice q280 k281 k282])
 else
 if (n1 == 11) = true then
 if (n1 == 11) = true then
 ∀ w260 L261, Hid [] w w260 →
 NewL w.heap.size [] w w260 L261 →
 CallX Tryz.prog 34 #[.pointer a_0] w260 fun e262 w263 =>
 ∃ n264, e262 = .returned (.int .u8 n264) ∧
 Kept L261 w260 w263 ∧
 ((none : Option Nat) = none) ∧
 w263.there b.block (b.off + 1) 1 ∧
 ¬ b.block ∈ L261 ∧
 CallX Tryz.prog 95 #[.pointer a_0] (w263.setCells b.block (b.off + 1) [.int .u8 n264]) fun e265 w266 =>
 ∃ n267 n268, e265 = .returned (.agg #[.int .u8 n267, .int .u16 n268]) ∧
 (Kept L261 (w263.setCells b.block (b.off + 1) [.int .u8 n264]) w266) ∧
 ((none : Option Nat) = none) ∧
 w266.there b.block (b.off + 25) 2 ∧
 ¬ b.block ∈ L261 ∧
 R (.returned (.bool true)) (w266.setCells b.block (b.off + 25) [.int .u8 n267, .int .u16 n268])
 else
 ∀ w259, Hid [] w w259 →
 R (.returned (.bool false)) w259
 else
 if (n1 == 12) = true then
 if (n1 == 12) = true then
 ∀ w250 L251, Hid [] w w250 →
 NewL w.heap.size [] w w250 L251 →
 CallX Tryz.prog 34 #[.pointer a_0] w250 fun e252 w253 =>
 ∃ n254, e252 = .returned (.int .u8 n254) ∧
 Kept L251 w250 w253 ∧
 ((none : Option Nat) = none) ∧
 w253.there b.block (b.off + 1) 1 ∧
 ¬ b.block ∈ L251 ∧
 CallX Tryz.prog 95 #[.pointer a_0] (w253.setCells b.block (b.off + 1) [.int .u8 n254]) fun e255 w256 =>
 ∃ n257 n258, e255 = .returned (.agg #[.int .u8 n257, .int .u16 n258]) ∧
 (Kept L251 (w253.setCells b.block (b.off + 1) [.int .u8 n254]) w256) ∧
 ((none : Option Nat) = none) ∧
 w256.there b.block (b.off + 25) 2 ∧
 ¬ b.block ∈ L251 ∧
 R (.returned (.bool true)) (w256.setCells b.block (b.off + 25) [.int .u8 n257, .int .u16 n258])
 else
 ∀ w249, Hid [] w w249 →
 R (.returned (.bool false)) w249
 else
 if (n1 == 13) = true then
 ∀ w240 L241, Hid [] w w240 →
 NewL w.heap.size [] w w240 L241 →
 CallX Tryz.prog 34 #[.pointer a_0] w240 fun e242 w243 =>
 ∃ n244, e242 = .returned (.int .u8 n244) ∧
 Kept L241 w240 w243 ∧
 ((none : Option Nat) = none) ∧
 w243.there b.block (b.off + 1) 1 ∧
 ¬ b.block ∈ L241 ∧
 CallX Tryz.prog 95 #[.pointer a_0] (w243.setCells b.block (b.off + 1) [.int .u8 n244]) fun e245 w246 =>
 ∃ n247 n248, e245 = .returned (.agg #[.int .u8 n247, .int .u16 n248]) ∧
 (Kept L241 (w243.setCells b.block (b.off + 1) [.int .u8 n244]) w246) ∧
 ((none : Option Nat) = none) ∧
 w246.there b.block (b.off + 25) 2 ∧
 ¬ b.block ∈ L241 ∧
 R (.returned (.bool true)) (w246.setCells b.block (b.off + 25) [.int .u8 n247, .int .u16 n248])
 else
 ∀ w239, Hid [] w w239 →
 R (.returned (.bool false)) w239
 else
 if (n1 == 4) = true then
 ∃ x218, (FactsW x218 w []) ∧
 ∀ w219 L220, Hid [] w w219 →
 NewL w.heap.size [] w w219 L220 →
 CallX Tryz.prog 34 #[.pointer a_0] w219 fun e221 w222 =>
 ∃ n223, e221 = .returned (.int .u8 n223) ∧
 Kept L220 w219 w222 ∧
 FactsW x218 w222 L220 ∧
 CallX Tryz.prog 86 #[(.agg #[.pointer a_0])] w222 fun e224 w225 =>
 ∃ n226, e224 = .returned (.int .u32 n226) ∧
 Kept L220 w222 w225 ∧
 FactsW x218 w225 L220 ∧
 CallX Tryz.prog 86 #[(.agg #[.pointer a_0])] w225 fun e227 w228 =>
 ∃ n229, e227 = .returned (.int .u32 n229) ∧
 Kept L220 w225 w228 ∧
 FactsW x218 w228 L220 ∧
 ((none : Option Nat) = none) ∧
 w228.there b.block (b.off + 1) 1 ∧
 ¬ b.block ∈ L220 ∧
 (FactsW x218 (w228.setCells b.block (b.off + 1) [.int .u8 n223]) L220) ∧
 ((none : Option Nat) = none) ∧
 World.there (w228.setCells b.block (b.off + 1) [.int .u8 n223]) b.block (b.off + 3) 1 ∧
 ¬ b.block ∈ L220 ∧
 (FactsW x218 ((w228.setCells b.block (b.off + 1) [.int .u8 n223]).setCells b.block (b.off + 3) [.int .u32 n226]) L220) ∧
 ((none : Option Nat) = none) ∧
 World.there ((w228.setCells b.block (b.off + 1) [.int .u8 n223]).setCells b.block (b.off + 3) [.int .u32 n226]) b.block (b.off + 4) 1 ∧
 ¬ b.block ∈ L220 ∧
 ∃ n230, (World.cell? (((w228.setCells b.block (b.off + 1) [.int .u8 n223]).setCells b.block (b.off + 3) [.int .u32 n226]).setCells b.block (b.off + 4) [.int .u32 n229]) (b.add 0) = some (.int .u8 n230)) ∧
 (¬ (((b.add 0).block) ∈ L220)) ∧
 if (n230 == 3) = true then
 CallX Tryz.prog 86 #[(.agg #[.pointer a_0])] (((w228.setCells b.block (b.off + 1) [.int .u8 n223]).setCells b.block (b.off + 3) [.int .u32 n226]).setCells b.block (b.off + 4) [.int .u32 n229]) fun e231 w232 =>
 ∃ n233, e231 = .returned (.int .u32 n233) ∧
 (Kept L220 (((w228.setCells b.block (b.off + 1) [.int .u8 n223]).setCells b.block (b.off + 3) [.int .u32 n226]).setCells b.block (b.off + 4) [.int .u32 n229]) w232) ∧
 ((none : Option Nat) = none) ∧
 w232.there b.block (b.off + 5) 1 ∧
 ¬ b.block ∈ L220 ∧
 CallX Tryz.prog 90 #[.pointer a_0] (w232.setCells b.block (b.off + 5) [.int .u32 n233]) fun e234 w235 =>
 ∃ q236 k237 k238, e234 = .returned (.slice q236 k237 k238) ∧
 (Kept L220 (w232.setCells b.block (b.off + 5) [.int .u32 n233]) w235) ∧
 ((none : Option Nat) = none) ∧
 w235.there b.block (b.off + 29) 1 ∧
 ¬ b.block ∈ L220 ∧
 R (.returned (.bool true)) (w235.setCells b.block (b.off + 29) [.slice q236 k237 k238])
 else
 R (.returned (.bool true)) (((w228.setCells b.block (b.off + 1) [.int .u8 n223]).setCells b.block (b.off + 3) [.int .u32 n226]).setCells b.block (b.off + 4) [.int .u32 n229])
 else
 if (n1 == 5) = true then
 if (n1 == 5) = true then
 ∀ w214 L215, Hid [] w w214 →
 NewL w.heap.size [] w w214 L215 →
 CallX Tryz.prog 91 #[(.agg #[.pointer a_0]), .pointer (some b)] w214 fun e216 w217 =>
 (e216 = .returned (.tuple #[])) ∧
 Kept L215 w214 w217 ∧
 R (.returned (.bool true)) w217
 else
 if (n1 == 8) = true then
 ∀ w196 L197, Hid [] w w196 →
 NewL w.heap.size [] w w196 L197 →
 CallX Tryz.prog 91 #[(.agg #[.pointer a_0]), .pointer (some b)] w196 fun e198 w199 =>
 (e198 = .returned (.tuple #[])) ∧
 Kept L197 w196 w199 ∧
 CallX Tryz.prog 90 #[.pointer a_0] w199 fun e200 w201 =>
 ∃ q202 k203 k204, e200 = .returned (.slice q202 k203 k204) ∧
 Kept L197 w199 w201 ∧
 ((none : Option Nat) = none) ∧
 w201.there b.block (b.off + 29) 1 ∧
 ¬ b.block ∈ L197 ∧
 CallX Tryz.prog 92 #[(.agg #[.pointer a_0])] (w201.setCells b.block (b.off + 29) [.slice q202 k203 k204]) fun e205 w206 =>
 ∃ b207, e205 = .returned (.bool b207) ∧
 (Kept L197 (w201.setCells b.block (b.off + 29) [.slice q202 k203 k204]) w206) ∧
 ((none : Option Nat) = none) ∧
 w206.there b.block (b.off + 27) 1 ∧
 ¬ b.block ∈ L197 ∧
 ∃ b208, (World.cell? (w206.setCells b.block (b.off + 27) [.bool b207]) (b.add 27) = some (.bool b208)) ∧
 ¬ b.block ∈ L197 ∧
 if b208 = true then
 CallX Tryz.prog 93 #[(.agg #[.pointer a_0])] (w206.setCells b.block (b.off + 27) [.bool b207]) fun e209 w210 =>
 ∃ n211, e209 = .returned (.int .u64 n211) ∧
 (Kept L197 (w206.setCells b.block (b.off + 27) [.bool b207]) w210) ∧
 ((none : Option Nat) = none) ∧
 w210.there b.block (b.off + 8) 1 ∧
 ¬ b.block ∈ L197 ∧
 CallX Tryz.prog 94 #[(.agg #[.pointer a_0]), .pointer (some b)] (w210.setCells b.block (b.off + 8) [.int .u64 n211]) fun e212 w213 =>
 (e212 = .returned (.tuple #[])) ∧
 (Kept L197 (w210.setCells b.block (b.off + 8) [.int .u64 n211]) w213) ∧
 R (.returned (.bool true)) w213
 else
 R (.returned (.bool true)) (w206.setCells b.block (b.off + 27) [.bool b207])
 else
 if (n1 == 9) = true then
 ∀ w190 L191, Hid [] w w190 →
 NewL w.heap.size [] w w190 L191 →
 CallX Tryz.prog 91 #[(.agg #[.pointer a_0]), .pointer (some b)] w190 fun e192 w193 =>
 (e192 = .returned (.tuple #[])) ∧
 Kept L191 w190 w193 ∧
 CallX Tryz.prog 94 #[(.agg #[.pointer a_0]), .pointer (some b)] w193 fun e194 w195 =>
 (e194 = .returned (.tuple #[])) ∧
 Kept L191 w193 w195 ∧
 R (.returned (.bool true)) w195
 else
 if (n1 == 10) = true then
 ∀ w176 L177, Hid [] w w176 →
 NewL w.heap.size [] w w176 L177 →
 CallX Tryz.prog 89 #[.pointer a_0] w176 fun e178 w179 =>
 ∃ n180 n181 q182 k183 k184, e178 = .returned (.agg #[.int .u8 n180, .int .u32 n181, .slice q182 k183 k184]) ∧
 Kept L177 w176 w179 ∧
 ((none : Option Nat) = none) ∧
 w179.there b.block (b.off + 22) 3 ∧
 ¬ b.block ∈ L177 ∧
 CallX Tryz.prog 90 #[.pointer a_0] (w179.setCells b.block (b.off + 22) [.int .u8 n180, .int .u32 n181, .slice q182 k183 k184]) fun e185 w186 =>
 ∃ q187 k188 k189, e185 = .returned (.slice q187 k188 k189) ∧
 (Kept L177 (w179.setCells b.block (b.off + 22) [.int .u8 n180, .int .u32 n181, .slice q182 k183 k184]) w186) ∧
 ((none : Option Nat) = none) ∧
 w186.there b.block (b.off + 29) 1 ∧
 ¬ b.block ∈ L177 ∧
 R (.returned (.bool true)) (w186.setCells b.block (b.off + 29) [.slice q187 k188 k189])
 else
 if (n1 == 11) = true then
 if (n1 == 11) = true then
 ∀ w167 L168, Hid [] w w167 →
 NewL w.heap.size [] w w167 L168 →
 CallX Tryz.prog 34 #[.pointer a_0] w167 fun e169 w170 =>
 ∃ n171, e169 = .returned (.int .u8 n171) ∧
 Kept L168 w167 w170 ∧
 ((none : Option Nat) = none) ∧
 w170.there b.block (b.off + 1) 1 ∧
 ¬ b.block ∈ L168 ∧
 CallX Tryz.prog 95 #[.pointer a_0] (w170.setCells b.block (b.off + 1) [.int .u8 n171]) fun e172 w173 =>
 ∃ n174 n175, e172 = .returned (.agg #[.int .u8 n174, .int .u16 n175]) ∧
 (Kept L168 (w170.setCells b.block (b.off + 1) [.int .u8 n171]) w173) ∧
 ((none : Option Nat) = none) ∧
 w173.there b.block (b.off + 25) 2 ∧
 ¬ b.block ∈ L168 ∧
 R (.returned (.bool true)) (w173.setCells b.block (b.off + 25) [.int .u8 n174, .int .u16 n175])
 else
 ∀ w166, Hid [] w w166 →
 R (.returned (.bool false)) w166
 else
 if (n1 == 12) = true then
 if (n1 == 12) = true then
 ∀ w157 L158, Hid [] w w157 →
 NewL w.heap.size [] w w157 L158 →
 CallX Tryz.prog 34 #[.pointer a_0] w157 fun e159 w160 =>
 ∃ n161, e159 = .returned (.int .u8 n161) ∧
 Kept L158 w157 w160 ∧
 ((none : Option Nat) = none) ∧
 w160.there b.block (b.off + 1) 1 ∧
 ¬ b.block ∈ L158 ∧
 CallX Tryz.prog 95 #[.pointer a_0] (w160.setCells b.block (b.off + 1) [.int .u8 n161]) fun e162 w163 =>
 ∃ n164 n165, e162 = .returned (.agg #[.int .u8 n164, .int .u16 n165]) ∧
 (Kept L158 (w160.setCells b.block (b.off + 1) [.int .u8 n161]) w163) ∧
 ((none : Option Nat) = none) ∧
 w163.there b.block (b.off + 25) 2 ∧
 ¬ b.block ∈ L158 ∧
 R (.returned (.bool true)) (w163.setCells b.block (b.off + 25) [.int .u8 n164, .int .u16 n165])
 else
 ∀ w156, Hid [] w w156 →
 R (.returned (.bool false)) w156
 else
 if (n1 == 13) = true then
 ∀ w147 L148, Hid [] w w147 →
 NewL w.heap.size [] w w147 L148 →
 CallX Tryz.prog 34 #[.pointer a_0] w147 fun e149 w150 =>
 ∃ n151, e149 = .returned (.int .u8 n151) ∧
 Kept L148 w147 w150 ∧
 ((none : Option Nat) = none) ∧
 w150.there b.block (b.off + 1) 1 ∧
 ¬ b.block ∈ L148 ∧
 CallX Tryz.prog 95 #[.pointer a_0] (w150.setCells b.block (b.off + 1) [.int .u8 n151]) fun e152 w153 =>
 ∃ n154 n155, e152 = .returned (.agg #[.int .u8 n154, .int .u16 n155]) ∧
 (Kept L148 (w150.setCells b.block (b.off + 1) [.int .u8 n151]) w153) ∧
 ((none : Option Nat) = none) ∧
 w153.there b.block (b.off + 25) 2 ∧
 ¬ b.block ∈ L148 ∧
 R (.returned (.bool true)) (w153.setCells b.block (b.off + 25) [.int .u8 n154, .int .u16 n155])
 else
 ∀ w146, Hid [] w w146 →
 R (.returned (.bool false)) w146
 else
 if (n1 == 6) = true then
 if (n1 == 6) = true then
 ∀ w142 L143, Hid [] w w142 →
 NewL w.heap.size [] w w142 L143 →
 CallX Tryz.prog 91 #[(.agg #[.pointer a_0]), .pointer (some b)] w142 fun e144 w145 =>
 (e144 = .returned (.tuple #[])) ∧
 Kept L143 w142 w145 ∧
 R (.returned (.bool true)) w145
 else
 if (n1 == 8) = true then
 ∀ w124 L125, Hid [] w w124 →
 NewL w.heap.size [] w w124 L125 →
 CallX Tryz.prog 91 #[(.agg #[.pointer a_0]), .pointer (some b)] w124 fun e126 w127 =>
 (e126 = .returned (.tuple #[])) ∧
 Kept L125 w124 w127 ∧
 CallX Tryz.prog 90 #[.pointer a_0] w127 fun e128 w129 =>
 ∃ q130 k131 k132, e128 = .returned (.slice q130 k131 k132) ∧
 Kept L125 w127 w129 ∧
 ((none : Option Nat) = none) ∧
 w129.there b.block (b.off + 29) 1 ∧
 ¬ b.block ∈ L125 ∧
 CallX Tryz.prog 92 #[(.agg #[.pointer a_0])] (w129.setCells b.block (b.off + 29) [.slice q130 k131 k132]) fun e133 w134 =>
 ∃ b135, e133 = .returned (.bool b135) ∧
 (Kept L125 (w129.setCells b.block (b.off + 29) [.slice q130 k131 k132]) w134) ∧
 ((none : Option Nat) = none) ∧
 w134.there b.block (b.off + 27) 1 ∧
 ¬ b.block ∈ L125 ∧
 ∃ b136, (World.cell? (w134.setCells b.block (b.off + 27) [.bool b135]) (b.add 27) = some (.bool b136)) ∧
 ¬ b.block ∈ L125 ∧
 if b136 = true then
 CallX Tryz.prog 93 #[(.agg #[.pointer a_0])] (w134.setCells b.block (b.off + 27) [.bool b135]) fun e137 w138 =>
 ∃ n139, e137 = .returned (.int .u64 n139) ∧
 (Kept L125 (w134.setCells b.block (b.off + 27) [.bool b135]) w138) ∧
 ((none : Option Nat) = none) ∧
 w138.there b.block (b.off + 8) 1 ∧
 ¬ b.block ∈ L125 ∧
 CallX Tryz.prog 94 #[(.agg #[.pointer a_0]), .pointer (some b)] (w138.setCells b.block (b.off + 8) [.int .u64 n139]) fun e140 w141 =>
 (e140 = .returned (.tuple #[])) ∧
 (Kept L125 (w138.setCells b.block (b.off + 8) [.int .u64 n139]) w141) ∧
 R (.returned (.bool true)) w141
 else
 R (.returned (.bool true)) (w134.setCells b.block (b.off + 27) [.bool b135])
 else
 if (n1 == 9) = true then
 ∀ w118 L119, Hid [] w w118 →
 NewL w.heap.size [] w w118 L119 →
 CallX Tryz.prog 91 #[(.agg #[.pointer a_0]), .pointer (some b)] w118 fun e120 w121 =>
 (e120 = .returned (.tuple #[])) ∧
 Kept L119 w118 w121 ∧
 CallX Tryz.prog 94 #[(.agg #[.pointer a_0]), .pointer (some b)] w121 fun e122 w123 =>
 (e122 = .returned (.tuple #[])) ∧
 Kept L119 w121 w123 ∧
 R (.returned (.bool true)) w123
 else
 if (n1 == 10) = true then
 ∀ w104 L105, Hid [] w w104 →
 NewL w.heap.size [] w w104 L105 →
 CallX Tryz.prog 89 #[.pointer a_0] w104 fun e106 w107 =>
 ∃ n108 n109 q110 k111 k112, e106 = .returned (.agg #[.int .u8 n108, .int .u32 n109, .slice q110 k111 k112]) ∧
 Kept L105 w104 w107 ∧
 ((none : Option Nat) = none) ∧
 w107.there b.block (b.off + 22) 3 ∧
 ¬ b.block ∈ L105 ∧
 CallX Tryz.prog 90 #[.pointer a_0] (w107.setCells b.block (b.off + 22) [.int .u8 n108, .int .u32 n109, .slice q110 k111 k112]) fun e113 w114 =>
 ∃ q115 k116 k117, e113 = .returned (.slice q115 k116 k117) ∧
 (Kept L105 (w107.setCells b.block (b.off + 22) [.int .u8 n108, .int .u32 n109, .slice q110 k111 k112]) w114) ∧
 ((none : Option Nat) = none) ∧
 w114.there b.block (b.off + 29) 1 ∧
 ¬ b.block ∈ L105 ∧
 R (.returned (.bool true)) (w114.setCells b.block (b.off + 29) [.slice q115 k116 k117])
 else
 if (n1 == 11) = true then
 if (n1 == 11) = true then
 ∀ w95 L96, Hid [] w w95 →
 NewL w.heap.size [] w w95 L96 →
 CallX Tryz.prog 34 #[.pointer a_0] w95 fun e97 w98 =>
 ∃ n99, e97 = .returned (.int .u8 n99) ∧
 Kept L96 w95 w98 ∧
 ((none : Option Nat) = none) ∧
 w98.there b.block (b.off + 1) 1 ∧
 ¬ b.block ∈ L96 ∧
 CallX Tryz.prog 95 #[.pointer a_0] (w98.setCells b.block (b.off + 1) [.int .u8 n99]) fun e100 w101 =>
 ∃ n102 n103, e100 = .returned (.agg #[.int .u8 n102, .int .u16 n103]) ∧
 (Kept L96 (w98.setCells b.block (b.off + 1) [.int .u8 n99]) w101) ∧
 ((none : Option Nat) = none) ∧
 w101.there b.block (b.off + 25) 2 ∧
 ¬ b.block ∈ L96 ∧
 R (.returned (.bool true)) (w101.setCells b.block (b.off + 25) [.int .u8 n102, .int .u16 n103])
 else
 ∀ w94, Hid [] w w94 →
 R (.returned (.bool false)) w94
 else
 if (n1 == 12) = true then
 if (n1 == 12) = true then
 ∀ w85 L86, Hid [] w w85 →
 NewL w.heap.size [] w w85 L86 →
 CallX Tryz.prog 34 #[.pointer a_0] w85 fun e87 w88 =>
 ∃ n89, e87 = .returned (.int .u8 n89) ∧
 Kept L86 w85 w88 ∧
 ((none : Option Nat) = none) ∧
 w88.there b.block (b.off + 1) 1 ∧
 ¬ b.block ∈ L86 ∧
 CallX Tryz.prog 95 #[.pointer a_0] (w88.setCells b.block (b.off + 1) [.int .u8 n89]) fun e90 w91 =>
 ∃ n92 n93, e90 = .returned (.agg #[.int .u8 n92, .int .u16 n93]) ∧
 (Kept L86 (w88.setCells b.block (b.off + 1) [.int .u8 n89]) w91) ∧
 ((none : Option Nat) = none) ∧
 w91.there b.block (b.off + 25) 2 ∧
 ¬ b.block ∈ L86 ∧
 R (.returned (.bool true)) (w91.setCells b.block (b.off + 25) [.int .u8 n92, .int .u16 n93])
 else
 ∀ w84, Hid [] w w84 →
 R (.returned (.bool false)) w84
 else
 if (n1 == 13) = true then
 ∀ w75 L76, Hid [] w w75 →
 NewL w.heap.size [] w w75 L76 →
 CallX Tryz.prog 34 #[.pointer a_0] w75 fun e77 w78 =>
 ∃ n79, e77 = .returned (.int .u8 n79) ∧
 Kept L76 w75 w78 ∧
 ((none : Option Nat) = none) ∧
 w78.there b.block (b.off + 1) 1 ∧
 ¬ b.block ∈ L76 ∧
 CallX Tryz.prog 95 #[.pointer a_0] (w78.setCells b.block (b.off + 1) [.int .u8 n79]) fun e80 w81 =>
 ∃ n82 n83, e80 = .returned (.agg #[.int .u8 n82, .int .u16 n83]) ∧
 (Kept L76 (w78.setCells b.block (b.off + 1) [.int .u8 n79]) w81) ∧
 ((none : Option Nat) = none) ∧
 w81.there b.block (b.off + 25) 2 ∧
 ¬ b.block ∈ L76 ∧
 R (.returned (.bool true)) (w81.setCells b.block (b.off + 25) [.int .u8 n82, .int .u16 n83])
 else
 ∀ w74, Hid [] w w74 →
 R (.returned (.bool false)) w74
 else
 if (n1 == 7) = true then
 ∀ w70 L71, Hid [] w w70 →
 NewL w.heap.size [] w w70 L71 →
 CallX Tryz.prog 91 #[(.agg #[.pointer a_0]), .pointer (some b)] w70 fun e72 w73 =>
 (e72 = .returned (.tuple #[])) ∧
 Kept L71 w70 w73 ∧
 R (.returned (.bool true)) w73
 else
 if (n1 == 8) = true then
 ∀ w52 L53, Hid [] w w52 →
 NewL w.heap.size [] w w52 L53 →
 CallX Tryz.prog 91 #[(.agg #[.pointer a_0]), .pointer (some b)] w52 fun e54 w55 =>
 (e54 = .returned (.tuple #[])) ∧
 Kept L53 w52 w55 ∧
 CallX Tryz.prog 90 #[.pointer a_0] w55 fun e56 w57 =>
 ∃ q58 k59 k60, e56 = .returned (.slice q58 k59 k60) ∧
 Kept L53 w55 w57 ∧
 ((none : Option Nat) = none) ∧
 w57.there b.block (b.off + 29) 1 ∧
 ¬ b.block ∈ L53 ∧
 CallX Tryz.prog 92 #[(.agg #[.pointer a_0])] (w57.setCells b.block (b.off + 29) [.slice q58 k59 k60]) fun e61 w62 =>
 ∃ b63, e61 = .returned (.bool b63) ∧
 (Kept L53 (w57.setCells b.block (b.off + 29) [.slice q58 k59 k60]) w62) ∧
 ((none : Option Nat) = none) ∧
 w62.there b.block (b.off + 27) 1 ∧
 ¬ b.block ∈ L53 ∧
 ∃ b64, (World.cell? (w62.setCells b.block (b.off + 27) [.bool b63]) (b.add 27) = some (.bool b64)) ∧
 ¬ b.block ∈ L53 ∧
 if b64 = true then
 CallX Tryz.prog 93 #[(.agg #[.pointer a_0])] (w62.setCells b.block (b.off + 27) [.bool b63]) fun e65 w66 =>
 ∃ n67, e65 = .returned (.int .u64 n67) ∧
 (Kept L53 (w62.setCells b.block (b.off + 27) [.bool b63]) w66) ∧
 ((none : Option Nat) = none) ∧
 w66.there b.block (b.off + 8) 1 ∧
 ¬ b.block ∈ L53 ∧
 CallX Tryz.prog 94 #[(.agg #[.pointer a_0]), .pointer (some b)] (w66.setCells b.block (b.off + 8) [.int .u64 n67]) fun e68 w69 =>
 (e68 = .returned (.tuple #[])) ∧
 (Kept L53 (w66.setCells b.block (b.off + 8) [.int .u64 n67]) w69) ∧
 R (.returned (.bool true)) w69
 else
 R (.returned (.bool true)) (w62.setCells b.block (b.off + 27) [.bool b63])
 else
 if (n1 == 9) = true then
 ∀ w46 L47, Hid [] w w46 →
 NewL w.heap.size [] w w46 L47 →
 CallX Tryz.prog 91 #[(.agg #[.pointer a_0]), .pointer (some b)] w46 fun e48 w49 =>
 (e48 = .returned (.tuple #[])) ∧
 Kept L47 w46 w49 ∧
 CallX Tryz.prog 94 #[(.agg #[.pointer a_0]), .pointer (some b)] w49 fun e50 w51 =>
 (e50 = .returned (.tuple #[])) ∧
 Kept L47 w49 w51 ∧
 R (.returned (.bool true)) w51
 else
 if (n1 == 10) = true then
 ∀ w32 L33, Hid [] w w32 →
 NewL w.heap.size [] w w32 L33 →
 CallX Tryz.prog 89 #[.pointer a_0] w32 fun e34 w35 =>
 ∃ n36 n37 q38 k39 k40, e34 = .returned (.agg #[.int .u8 n36, .int .u32 n37, .slice q38 k39 k40]) ∧
 Kept L33 w32 w35 ∧
 ((none : Option Nat) = none) ∧
 w35.there b.block (b.off + 22) 3 ∧
 ¬ b.block ∈ L33 ∧
 CallX Tryz.prog 90 #[.pointer a_0] (w35.setCells b.block (b.off + 22) [.int .u8 n36, .int .u32 n37, .slice q38 k39 k40]) fun e41 w42 =>
 ∃ q43 k44 k45, e41 = .returned (.slice q43 k44 k45) ∧
 (Kept L33 (w35.setCells b.block (b.off + 22) [.int .u8 n36, .int .u32 n37, .slice q38 k39 k40]) w42) ∧
 ((none : Option Nat) = none) ∧
 w42.there b.block (b.off + 29) 1 ∧
 ¬ b.block ∈ L33 ∧
 R (.returned (.bool true)) (w42.setCells b.block (b.off + 29) [.slice q43 k44 k45])
 else
 if (n1 == 11) = true then
 if (n1 == 11) = true then
 ∀ w23 L24, Hid [] w w23 →
 NewL w.heap.size [] w w23 L24 →
 CallX Tryz.prog 34 #[.pointer a_0] w23 fun e25 w26 =>
 ∃ n27, e25 = .returned (.int .u8 n27) ∧
 Kept L24 w23 w26 ∧
 ((none : Option Nat) = none) ∧
 w26.there b.block (b.off + 1) 1 ∧
 ¬ b.block ∈ L24 ∧
 CallX Tryz.prog 95 #[.pointer a_0] (w26.setCells b.block (b.off + 1) [.int .u8 n27]) fun e28 w29 =>
 ∃ n30 n31, e28 = .returned (.agg #[.int .u8 n30, .int .u16 n31]) ∧
 (Kept L24 (w26.setCells b.block (b.off + 1) [.int .u8 n27]) w29) ∧
 ((none : Option Nat) = none) ∧
 w29.there b.block (b.off + 25) 2 ∧
 ¬ b.block ∈ L24 ∧
 R (.returned (.bool true)) (w29.setCells b.block (b.off + 25) [.int .u8 n30, .int .u16 n31])
 else
 ∀ w22, Hid [] w w22 →
 R (.returned (.bool false)) w22
 else
 if (n1 == 12) = true then
 if (n1 == 12) = true then
 ∀ w13 L14, Hid [] w w13 →
 NewL w.heap.size [] w w13 L14 →
 CallX Tryz.prog 34 #[.pointer a_0] w13 fun e15 w16 =>
 ∃ n17, e15 = .returned (.int .u8 n17) ∧
 Kept L14 w13 w16 ∧
 ((none : Option Nat) = none) ∧
 w16.there b.block (b.off + 1) 1 ∧
 ¬ b.block ∈ L14 ∧
 CallX Tryz.prog 95 #[.pointer a_0] (w16.setCells b.block (b.off + 1) [.int .u8 n17]) fun e18 w19 =>
 ∃ n20 n21, e18 = .returned (.agg #[.int .u8 n20, .int .u16 n21]) ∧
 (Kept L14 (w16.setCells b.block (b.off + 1) [.int .u8 n17]) w19) ∧
 ((none : Option Nat) = none) ∧
 w19.there b.block (b.off + 25) 2 ∧
 ¬ b.block ∈ L14 ∧
 R (.returned (.bool true)) (w19.setCells b.block (b.off + 25) [.int .u8 n20, .int .u16 n21])
 else
 ∀ w12, Hid [] w w12 →
 R (.returned (.bool false)) w12
 else
 if (n1 == 13) = true then
 ∀ w3 L4, Hid [] w w3 →
 NewL w.heap.size [] w w3 L4 →
 CallX Tryz.prog 34 #[.pointer a_0] w3 fun e5 w6 =>
 ∃ n7, e5 = .returned (.int .u8 n7) ∧
 Kept L4 w3 w6 ∧
 ((none : Option Nat) = none) ∧
 w6.there b.block (b.off + 1) 1 ∧
 ¬ b.block ∈ L4 ∧
 CallX Tryz.prog 95 #[.pointer a_0] (w6.setCells b.block (b.off + 1) [.int .u8 n7]) fun e8 w9 =>
 ∃ n10 n11, e8 = .returned (.agg #[.int .u8 n10, .int .u16 n11]) ∧
 (Kept L4 (w6.setCells b.block (b.off + 1) [.int .u8 n7]) w9) ∧
 ((none : Option Nat) = none) ∧
 w9.there b.block (b.off + 25) 2 ∧
 ¬ b.block ∈ L4 ∧
 R (.returned (.bool true)) (w9.setCells b.block (b.off + 25) [.int .u8 n10, .int .u16 n11])
 else
 ∀ w2, Hid [] w w2 →
 R (.returned (.bool false)) w2) :
 Calls Tryz.prog 36 #[.agg #[.pointer a_0], .pointer (some b)] w R :=
 calls_of { isLoc := [2], sym := [], loops := [], joins := [] } Tryz.func36 (by kernel_rfl) h
end Go.Proofs
/- The verification conditions of this seat's functions, as the engine has them: printed by a program of the bench; checked by the kernel. -/
namespace Go.Proofs
open Go X
abbrev Za0 : List Value := [.int .u8 0, .int .u16 0, .int .u32 0, .int .u8 0, .int .u8 0, .int .u8 0, .int .u8 0, .int .u8 0, .int .u8 0, .int .u8 0]
theorem x_r1Zag (a : Int) (w : World) (R : Ending → World → Prop) (h :
 if ((a.tmod 2) == 1) = true then
 R (.returned (.int .i64 (IntKind.wrap .i64 ((IntKind.wrap .i64 (0 - (IntKind.wrap .i64 (IntKind.wrap .u64 (a.tdiv 2))))) - 1)))) w
 else
 R (.returned (.int .i64 (IntKind.wrap .i64 (IntKind.wrap .u64 (a.tdiv 2))))) w) :
 Calls Tryz.prog 173 #[.int .u64 a] w R :=
 calls_of { isLoc := [], sym := [], loops := [], joins := [] } Tryz.func173 (by kernel_rfl) h
theorem x_r1I (a : Addr) (w : World) (R : Ending → World → Prop) (h :
 CallX Tryz.prog 98 #[.pointer (some a), .int .u64 18446744073709551615] w fun e1 w2 =>
 ∃ n3, e1 = .returned (.int .u64 n3) ∧
 (w.heap.size ≤ w2.heap.size) ∧
 CallX Tryz.prog 173 #[.int .u64 n3] w2 fun e4 w5 =>
 ∃ n6, e4 = .returned (.int .i64 n6) ∧
 w2.heap.size ≤ w5.heap.size ∧
 R (.returned (.int .i64 n6)) w5) :
 Calls Tryz.prog 161 #[.pointer (some a)] w R :=
 calls_of { isLoc := [], sym := [], loops := [], joins := [] } Tryz.func161 (by kernel_rfl) h
theorem x_r2GetID (a : Addr) (w : World) (R : Ending → World → Prop) (h :
 ∀ w1 L2, Hid [] w w1 →
 NewL w.heap.size [] w w1 L2 →
 CallX Tryz.prog 104 #[.pointer (some a)] w1 fun e3 w4 =>
 ∃ n5 n6, e3 = .returned (.agg #[.int .u8 n5, .int .u16 n6]) ∧
 Kept L2 w1 w4 ∧
 ∀ w7 L8, Hid L2 w4 w7 →
 NewL w.heap.size L2 w4 w7 L8 →
 CallX Tryz.prog 98 #[.pointer (some a), .int .u64 4294967295] w7 fun e9 w10 =>
 ∃ n11, e9 = .returned (.int .u64 n11) ∧
 Kept L8 w7 w10 ∧
 ∀ w12 L13, Hid L8 w10 w12 →
 NewL w.heap.size L8 w10 w12 L13 →
 CallX Tryz.prog 38 #[.pointer (some a)] w12 fun e14 w15 =>
 ∃ n16, e14 = .returned (.int .u8 n16) ∧
 Kept L13 w12 w15 ∧
 ∀ w17 L18, Hid L13 w15 w17 →
 NewL w.heap.size L13 w15 w17 L18 →
 ∃ x19 : Int → Int → Int → Int → Int → Int → Int → Int → Int → Int → Int → World → List Nat → Prop, ∃ x20 : Int → Int → Int → Int → Int → Int → Int → Int → Int → Int → Int → World → Nat, (x19 0 n5 n6 (IntKind.wrap .u32 n11) n16 0 0 0 0 0 0 w17 L18) ∧
 ∀ n21 n22 n23 n24 n25 n26 n27 n28 n29 n30 n31 w32 L33, (LF w.heap.size w32 L33) →
 (x19 n21 n22 n23 n24 n25 n26 n27 n28 n29 n30 n31 w32 L33) →
 if ((decide (n21 < 3) && decide (n21 < (IntKind.wrap .i64 n25))) && decide (n25 ≤ 3)) = true then
 CallX Tryz.prog 38 #[.pointer (some a)] w32 fun e35 w36 =>
 ∃ n37, e35 = .returned (.int .u8 n37) ∧
 Kept L33 w32 w36 ∧
 ((0 : Int) ≤ n21) ∧
 (n21 < 3) ∧
 (((n21 = 0) →
 ∀ w38 L39, Hid L33 w36 w38 →
 NewL w.heap.size L33 w36 w38 L39 →
 CallX Tryz.prog 38 #[.pointer (some a)] w38 fun e40 w41 =>
 ∃ n42, e40 = .returned (.int .u8 n42) ∧
 Kept L39 w38 w41 ∧
 ((0 : Int) ≤ n21) ∧
 (n21 < 3) ∧
 (((n21 = 0) →
 ∀ w43 L44, Hid L39 w41 w43 →
 NewL w.heap.size L39 w41 w43 L44 →
 (Za0 = Za0) ∧
 (x19 (IntKind.wrap .i64 (n21 + 1)) n22 n23 n24 n25 n37 n42 n28 n29 n30 n31 w43 L44) ∧
 Nat.le ((x20 (IntKind.wrap .i64 (n21 + 1)) n22 n23 n24 n25 n37 n42 n28 n29 n30 n31 w43) + 1) (x20 n21 n22 n23 n24 n25 n26 n27 n28 n29 n30 n31 w32)) ∧
 ((n21 = 1) →
 ∀ w45 L46, Hid L39 w41 w45 →
 NewL w.heap.size L39 w41 w45 L46 →
 (Za0 = Za0) ∧
 (x19 (IntKind.wrap .i64 (n21 + 1)) n22 n23 n24 n25 n37 n27 n28 n42 n30 n31 w45 L46) ∧
 Nat.le ((x20 (IntKind.wrap .i64 (n21 + 1)) n22 n23 n24 n25 n37 n27 n28 n42 n30 n31 w45) + 1) (x20 n21 n22 n23 n24 n25 n26 n27 n28 n29 n30 n31 w32))) ∧
 ((n21 = 2) →
 ∀ w47 L48, Hid L39 w41 w47 →
 NewL w.heap.size L39 w41 w47 L48 →
 (Za0 = Za0) ∧
 (x19 (IntKind.wrap .i64 (n21 + 1)) n22 n23 n24 n25 n37 n27 n28 n29 n30 n42 w47 L48) ∧
 Nat.le ((x20 (IntKind.wrap .i64 (n21 + 1)) n22 n23 n24 n25 n37 n27 n28 n29 n30 n42 w47) + 1) (x20 n21 n22 n23 n24 n25 n26 n27 n28 n29 n30 n31 w32))) ∧
 ((n21 = 1) →
 ∀ w49 L50, Hid L33 w36 w49 →
 NewL w.heap.size L33 w36 w49 L50 →
 CallX Tryz.prog 38 #[.pointer (some a)] w49 fun e51 w52 =>
 ∃ n53, e51 = .returned (.int .u8 n53) ∧
 Kept L50 w49 w52 ∧
 ((0 : Int) ≤ n21) ∧
 (n21 < 3) ∧
 (((n21 = 0) →
 ∀ w54 L55, Hid L50 w52 w54 →
 NewL w.heap.size L50 w52 w54 L55 →
 (Za0 = Za0) ∧
 (x19 (IntKind.wrap .i64 (n21 + 1)) n22 n23 n24 n25 n26 n53 n37 n29 n30 n31 w54 L55) ∧
 Nat.le ((x20 (IntKind.wrap .i64 (n21 + 1)) n22 n23 n24 n25 n26 n53 n37 n29 n30 n31 w54) + 1) (x20 n21 n22 n23 n24 n25 n26 n27 n28 n29 n30 n31 w32)) ∧
 ((n21 = 1) →
 ∀ w56 L57, Hid L50 w52 w56 →
 NewL w.heap.size L50 w52 w56 L57 →
 (Za0 = Za0) ∧
 (x19 (IntKind.wrap .i64 (n21 + 1)) n22 n23 n24 n25 n26 n27 n37 n53 n30 n31 w56 L57) ∧
 Nat.le ((x20 (IntKind.wrap .i64 (n21 + 1)) n22 n23 n24 n25 n26 n27 n37 n53 n30 n31 w56) + 1) (x20 n21 n22 n23 n24 n25 n26 n27 n28 n29 n30 n31 w32))) ∧
 ((n21 = 2) →
 ∀ w58 L59, Hid L50 w52 w58 →
 NewL w.heap.size L50 w52 w58 L59 →
 (Za0 = Za0) ∧
 (x19 (IntKind.wrap .i64 (n21 + 1)) n22 n23 n24 n25 n26 n27 n37 n29 n30 n53 w58 L59) ∧
 Nat.le ((x20 (IntKind.wrap .i64 (n21 + 1)) n22 n23 n24 n25 n26 n27 n37 n29 n30 n53 w58) + 1) (x20 n21 n22 n23 n24 n25 n26 n27 n28 n29 n30 n31 w32)))) ∧
 ((n21 = 2) →
 ∀ w60 L61, Hid L33 w36 w60 →
 NewL w.heap.size L33 w36 w60 L61 →
 CallX Tryz.prog 38 #[.pointer (some a)] w60 fun e62 w63 =>
 ∃ n64, e62 = .returned (.int .u8 n64) ∧
 Kept L61 w60 w63 ∧
 ((0 : Int) ≤ n21) ∧
 (n21 < 3) ∧
 (((n21 = 0) →
 ∀ w65 L66, Hid L61 w63 w65 →
 NewL w.heap.size L61 w63 w65 L66 →
 (Za0 = Za0) ∧
 (x19 (IntKind.wrap .i64 (n21 + 1)) n22 n23 n24 n25 n26 n64 n28 n29 n37 n31 w65 L66) ∧
 Nat.le ((x20 (IntKind.wrap .i64 (n21 + 1)) n22 n23 n24 n25 n26 n64 n28 n29 n37 n31 w65) + 1) (x20 n21 n22 n23 n24 n25 n26 n27 n28 n29 n30 n31 w32)) ∧
 ((n21 = 1) →
 ∀ w67 L68, Hid L61 w63 w67 →
 NewL w.heap.size L61 w63 w67 L68 →
 (Za0 = Za0) ∧
 (x19 (IntKind.wrap .i64 (n21 + 1)) n22 n23 n24 n25 n26 n27 n28 n64 n37 n31 w67 L68) ∧
 Nat.le ((x20 (IntKind.wrap .i64 (n21 + 1)) n22 n23 n24 n25 n26 n27 n28 n64 n37 n31 w67) + 1) (x20 n21 n22 n23 n24 n25 n26 n27 n28 n29 n30 n31 w32))) ∧
 ((n21 = 2) →
 ∀ w69 L70, Hid L61 w63 w69 →
 NewL w.heap.size L61 w63 w69 L70 →
 (Za0 = Za0) ∧
 (x19 (IntKind.wrap .i64 (n21 + 1)) n22 n23 n24 n25 n26 n27 n28 n29 n37 n64 w69 L70) ∧
 Nat.le ((x20 (IntKind.wrap .i64 (n21 + 1)) n22 n23 n24 n25 n26 n27 n28 n29 n37 n64 w69) + 1) (x20 n21 n22 n23 n24 n25 n26 n27 n28 n29 n30 n31 w32)))
 else
 ∀ w34, Hid L33 w32 w34 →
 R (.returned (IdW n22 n23 n24 n25 n26 n27 n28 n29 n30 n31)) w34) :
 Calls Tryz.prog 97 #[.pointer (some a)] w R :=
 calls_of { isLoc := [2, 3], sym := [35, 41], loops := [(5, .inv [(4, .int .i64)] [(3, [.int .u8, .int .u16, .int .u32, .int .u8, .int .u8, .int .u8, .int .u8, .int .u8, .int .u8, .int .u8])] true)], joins := [] } Tryz.func97 (by kernel_rfl) h
theorem x_r3Get (a : Addr) (w : World) (R : Ending → World → Prop) (h :
 ∀ w1 L2, Hid [] w w1 →
 NewL w.heap.size [] w w1 L2 →
 CallX Tryz.prog 38 #[.pointer (some a)] w1 fun e3 w4 =>
 ∃ n5, e3 = .returned (.int .u8 n5) ∧
 Kept L2 w1 w4 ∧
 ∀ w6 L7, Hid L2 w4 w6 →
 NewL w.heap.size L2 w4 w6 L7 →
 CallX Tryz.prog 38 #[.pointer (some a)] w6 fun e8 w9 =>
 ∃ n10, e8 = .returned (.int .u8 n10) ∧
 Kept L7 w6 w9 ∧
 ∀ w11 L12, Hid L7 w9 w11 →
 NewL w.heap.size L7 w9 w11 L12 →
 CallX Tryz.prog 143 #[.pointer (some a), .int .i64 255] w11 fun e13 w14 =>
 ∃ s15, e13 = .returned (.string s15) ∧
 Kept L12 w11 w14 ∧
 ∀ w16 L17, Hid L12 w14 w16 →
 NewL w.heap.size L12 w14 w16 L17 →
 CallX Tryz.prog 143 #[.pointer (some a), .int .i64 255] w16 fun e18 w19 =>
 ∃ s20, e18 = .returned (.string s20) ∧
 Kept L17 w16 w19 ∧
 ∀ w21 L22, Hid L17 w19 w21 →
 NewL w.heap.size L17 w19 w21 L22 →
 CallX Tryz.prog 161 #[.pointer (some a)] w21 fun e23 w24 =>
 ∃ n25, e23 = .returned (.int .i64 n25) ∧
 Kept L22 w21 w24 ∧
 ∀ w26, Hid L22 w24 w26 →
 R (.returned (.agg #[.int .u8 n5, .int .u8 n10, .string s15, .string s20, .int .i64 n25])) w26) :
 Calls Tryz.prog 142 #[.pointer (some a)] w R :=
 calls_of { isLoc := [2, 3], sym := [], loops := [], joins := [] } Tryz.func142 (by kernel_rfl) h
theorem x_r3GetAll (a : Addr) (w : World) (R : Ending → World → Prop) (h :
 CallX Tryz.prog 38 #[.pointer (some a)] w fun e1 w2 =>
 ∃ n3, e1 = .returned (.int .u8 n3) ∧
 (w.heap.size ≤ w2.heap.size) ∧
 ∃ x4 : Option Addr → Nat → Nat → Int → World → List Nat → Prop, ∃ x5 : Option Addr → Nat → Nat → Int → World → Nat, (x4 none 0 0 0 w2 []) ∧
 ∀ q6 k7 k8 n9 w10 L11, (LF w.heap.size w10 L11) →
 (x4 q6 k7 k8 n9 w10 L11) →
 if ((decide (n9 < (IntKind.wrap .i64 n3))) == true) = true then
 ∃ n12, (w10.cell? (a.add 1) = some (.int .i64 n12)) ∧
 if (true && (n12 == 0)) = true then
 CallX Tryz.prog 142 #[.pointer (some a)] w10 fun e13 w14 =>
 ∃ n15 n16 s17 s18 n19, e13 = .returned (.agg #[.int .u8 n15, .int .u8 n16, .string s17, .string s18, .int .i64 n19]) ∧
 w10.heap.size ≤ w14.heap.size ∧
 ∃ n20, (w14.cell? (a.add 1) = some (.int .i64 n20)) ∧
 if (n20 == 0) = true then
 ∀ w23 L24, Hid [] w14 w23 →
 NewL w.heap.size [] w14 w23 L24 →
 ∃ q25 k26 k27 w28, (Sem.run Tryz.prog (Go.Builtin.append_ #[32, 32] 32 #[.slice q6 k7 k8, .slice (some ⟨w23.heap.size, 0, none⟩) 1 1]) (w23.alloc (.cells #[.int .u8 n15, .int .u8 n16, .string s17, .string s18, .int .i64 n19] 121)) = .ok (.slice q25 k26 k27) w28) ∧
 (Kept L24 (w23.alloc (.cells #[.int .u8 n15, .int .u8 n16, .string s17, .string s18, .int .i64 n19] 121)) w28) ∧
 (x4 q25 k26 k27 (IntKind.wrap .i64 (n9 + 1)) w28 L24) ∧
 Nat.le ((x5 q25 k26 k27 (IntKind.wrap .i64 (n9 + 1)) w28) + 1) (x5 q6 k7 k8 n9 w10)
 else
 ∀ w21 L22, Hid [] w14 w21 →
 NewL w.heap.size [] w14 w21 L22 →
 (x4 q6 k7 k8 (IntKind.wrap .i64 (n9 + 1)) w21 L22) ∧
 Nat.le ((x5 q6 k7 k8 (IntKind.wrap .i64 (n9 + 1)) w21) + 1) (x5 q6 k7 k8 n9 w10)
 else
 R (.returned (.slice q6 k7 k8)) w10
 else
 R (.returned (.slice q6 k7 k8)) w10) :
 Calls Tryz.prog 99 #[.pointer (some a)] w R :=
 calls_of { isLoc := [6], sym := [], loops := [(4, .inv [(4, .slice), (5, .int .i64)] [] true)], joins := [] } Tryz.func99 (by kernel_rfl) h
theorem x_r3GetRes (a : Addr) (w : World) (R : Ending → World → Prop) (h :
 ∀ w1 L2, Hid [] w w1 →
 NewL w.heap.size [] w w1 L2 →
 CallX Tryz.prog 38 #[.pointer (some a)] w1 fun e3 w4 =>
 ∃ n5, e3 = .returned (.int .u8 n5) ∧
 Kept L2 w1 w4 ∧
 CallX Tryz.prog 143 #[.pointer (some a), .int .i64 1000] w4 fun e6 w7 =>
 ∃ s8, e6 = .returned (.string s8) ∧
 Kept L2 w4 w7 ∧
 ∀ w9, Hid L2 w7 w9 →
 R (.returned (.agg #[.int .u8 n5, .string s8])) w9) :
 Calls Tryz.prog 100 #[.pointer (some a)] w R :=
 calls_of { isLoc := [2], sym := [], loops := [], joins := [] } Tryz.func100 (by kernel_rfl) h
theorem x_r6GetProcs (a : Addr) (w : World) (R : Ending → World → Prop) (h :
 CallX Tryz.prog 38 #[.pointer (some a)] w fun e1 w2 =>
 ∃ n3, e1 = .returned (.int .u8 n3) ∧
 (w.heap.size ≤ w2.heap.size) ∧
 ∃ x4 : Option Addr → Nat → Nat → Int → World → List Nat → Prop, ∃ x5 : Option Addr → Nat → Nat → Int → World → Nat, (x4 none 0 0 0 w2 []) ∧
 ∀ q6 k7 k8 n9 w10 L11, (LF w.heap.size w10 L11) →
 (x4 q6 k7 k8 n9 w10 L11) →
 if ((decide (n9 < (IntKind.wrap .i64 n3))) == true) = true then
 ∃ n13, (w10.cell? (a.add 1) = some (.int .i64 n13)) ∧
 if (true && (n13 == 0)) = true then
 CallX Tryz.prog 104 #[.pointer (some a)] w10 fun e15 w16 =>
 ∃ n17 n18, e15 = .returned (.agg #[.int .u8 n17, .int .u16 n18]) ∧
 w10.heap.size ≤ w16.heap.size ∧
 ∃ q19 k20 k21 w22, (Sem.run Tryz.prog (Go.Builtin.append_ #[35, 35] 35 #[.slice q6 k7 k8, .slice (some ⟨w16.heap.size, 0, none⟩) 1 1]) (w16.alloc (.cells #[.int .u8 n17, .int .u16 n18] 26)) = .ok (.slice q19 k20 k21) w22) ∧
 (((w16.alloc (.cells #[.int .u8 n17, .int .u16 n18] 26))).heap.size ≤ w22.heap.size) ∧
 (x4 q19 k20 k21 (IntKind.wrap .i64 (n9 + 1)) w22 []) ∧
 Nat.le ((x5 q19 k20 k21 (IntKind.wrap .i64 (n9 + 1)) w22) + 1) (x5 q6 k7 k8 n9 w10)
 else
 ∃ n14, (w10.cell? (a.add 1) = some (.int .i64 n14)) ∧
 if (n14 != 0) = true then
 R (.returned (.slice none 0 0)) w10
 else
 R (.returned (.slice q6 k7 k8)) w10
 else
 ∃ n12, (w10.cell? (a.add 1) = some (.int .i64 n12)) ∧
 if (n12 != 0) = true then
 R (.returned (.slice none 0 0)) w10
 else
 R (.returned (.slice q6 k7 k8)) w10) :
 Calls Tryz.prog 103 #[.pointer (some a)] w R :=
 calls_of { isLoc := [], sym := [], loops := [(4, .inv [(4, .slice), (5, .int .i64)] [] true)], joins := [] } Tryz.func103 (by kernel_rfl) h
theorem x_r6Get (a : Addr) (w : World) (R : Ending → World → Prop) (h :
 ∀ w1 L2, Hid [] w w1 →
 NewL w.heap.size [] w w1 L2 →
 CallX Tryz.prog 38 #[.pointer (some a)] w1 fun e3 w4 =>
 ∃ n5, e3 = .returned (.int .u8 n5) ∧
 Kept L2 w1 w4 ∧
 CallX Tryz.prog 98 #[.pointer (some a), .int .u64 4294967295] w4 fun e6 w7 =>
 ∃ n8, e6 = .returned (.int .u64 n8) ∧
 Kept L2 w4 w7 ∧
 CallX Tryz.prog 103 #[.pointer (some a)] w7 fun e9 w10 =>
 ∃ q11 k12 k13, e9 = .returned (.slice q11 k12 k13) ∧
 Kept L2 w7 w10 ∧
 ∃ n14, (w10.cell? (a.add 1) = some (.int .i64 n14)) ∧
 ¬ a.block ∈ L2 ∧
 if (n14 != 0) = true then
 ∀ w16, Hid L2 w10 w16 →
 R (.returned (.agg #[.int .u8 0, .int .u32 0, .slice none 0 0])) w16
 else
 ∀ w15, Hid L2 w10 w15 →
 R (.returned (.agg #[.int .u8 n5, .int .u32 (IntKind.wrap .u32 n8), .slice q11 k12 k13])) w15) :
 Calls Tryz.prog 101 #[.pointer (some a)] w R :=
 calls_of { isLoc := [2], sym := [], loops := [], joins := [] } Tryz.func101 (by kernel_rfl) h
theorem x_r5GetAll (a : Addr) (w : World) (R : Ending → World → Prop) (h :
 CallX Tryz.prog 98 #[.pointer (some a), .int .u64 400] w fun e1 w2 =>
 ∃ n3, e1 = .returned (.int .u64 n3) ∧
 (w.heap.size ≤ w2.heap.size) ∧
 ∃ x4 : Option Addr → Nat → Nat → Int → World → List Nat → Prop, ∃ x5 : Option Addr → Nat → Nat → Int → World → Nat, (x4 none 0 0 0 w2 []) ∧
 ∀ q6 k7 k8 n9 w10 L11, (LF w.heap.size w10 L11) →
 (x4 q6 k7 k8 n9 w10 L11) →
 if ((decide (n9 < n3)) == true) = true then
 ∃ n13, (w10.cell? (a.add 1) = some (.int .i64 n13)) ∧
 if (true && (n13 == 0)) = true then
 CallX Tryz.prog 144 #[.pointer (some a)] w10 fun e15 w16 =>
 ∃ n17 n18 n19 n20 n21 n22 n23 n24 n25 n26 n27 n28 q29 k30 k31 n32 s33 q34 k35 k36 n37 n38, e15 = .returned (EnW n17 n18 n19 n20 n21 n22 n23 n24 n25 n26 n27 n28 q29 k30 k31 n32 s33 q34 k35 k36 n37 n38) ∧
 w10.heap.size ≤ w16.heap.size ∧
 ∀ w39 L40, Hid [] w16 w39 →
 NewL w.heap.size [] w16 w39 L40 →
 ∃ q41 k42 k43 w44, (Sem.run Tryz.prog (Go.Builtin.append_ #[38, 38] 38 #[.slice q6 k7 k8, .slice (some ⟨w39.heap.size, 0, none⟩) 1 1]) (w39.alloc (.cells #[.int .u8 n17, .int .u8 n18, .int .u16 n19, .int .u32 n20, .int .u8 n21, .int .u8 n22, .int .u8 n23, .int .u8 n24, .int .u8 n25, .int .u8 n26, .int .u8 n27, .int .u32 n28, .slice q29 k30 k31, .int .u8 n32, .string s33, .slice q34 k35 k36, .int .u8 n37, .int .u16 n38] 124)) = .ok (.slice q41 k42 k43) w44) ∧
 (Kept L40 (w39.alloc (.cells #[.int .u8 n17, .int .u8 n18, .int .u16 n19, .int .u32 n20, .int .u8 n21, .int .u8 n22, .int .u8 n23, .int .u8 n24, .int .u8 n25, .int .u8 n26, .int .u8 n27, .int .u32 n28, .slice q29 k30 k31, .int .u8 n32, .string s33, .slice q34 k35 k36, .int .u8 n37, .int .u16 n38] 124)) w44) ∧
 (x4 q41 k42 k43 (IntKind.wrap .u64 (n9 + 1)) w44 L40) ∧
 Nat.le ((x5 q41 k42 k43 (IntKind.wrap .u64 (n9 + 1)) w44) + 1) (x5 q6 k7 k8 n9 w10)
 else
 ∃ n14, (w10.cell? (a.add 1) = some (.int .i64 n14)) ∧
 if (n14 != 0) = true then
 R (.returned (.slice none 0 0)) w10
 else
 R (.returned (.slice q6 k7 k8)) w10
 else
 ∃ n12, (w10.cell? (a.add 1) = some (.int .i64 n12)) ∧
 if (n12 != 0) = true then
 R (.returned (.slice none 0 0)) w10
 else
 R (.returned (.slice q6 k7 k8)) w10) :
 Calls Tryz.prog 102 #[.pointer (some a)] w R :=
 calls_of { isLoc := [6], sym := [], loops := [(4, .inv [(4, .slice), (5, .int .u64)] [] true)], joins := [] } Tryz.func102 (by kernel_rfl) h
end Go.Proofs
/- The verification conditions of this seat's functions, as the engine has them: printed by a program of the bench; checked by the kernel. -/
namespace Go.Proofs
open Go X
abbrev Zb0 : List Value := [.int .u8 0, .int .u8 0, .int .u16 0, .int .u32 0, .int .u8 0, .int .u8 0, .int .u8 0, .int .u8 0, .int .u8 0, .int .u8 0, .int .u8 0, .int .u32 0, .slice none 0 0, .int .u8 0, .string (ByteArray.mk #[]), .slice none 0 0, .int .u8 0, .int .u16 0]
theorem x_r5Get (a : Addr) (w : World) (R : Ending → World → Prop) (h :
 ∀ w1 L2, Hid [] w w1 →
 NewL w.heap.size [] w w1 L2 →
 CallX Tryz.prog 38 #[.pointer (some a)] w1 fun e3 w4 =>
 ∃ n5, e3 = .returned (.int .u8 n5) ∧
 Kept L2 w1 w4 ∧
 ∃ n6, (w4.cell? (a.add 1) = some (.int .i64 n6)) ∧
 ¬ a.block ∈ L2 ∧
 if (n6 != 0) = true then
 ∀ w279, Hid L2 w4 w279 →
 R (.returned (EnW 0 0 0 0 0 0 0 0 0 0 0 0 none 0 0 0 (ByteArray.mk #[]) none 0 0 0 0)) w279
 else
 if (n5 == 0) = true then
 if (n5 == 0) = true then
 ∀ w176 L177, Hid L2 w4 w176 →
 NewL w.heap.size L2 w4 w176 L177 →
 CallX Tryz.prog 97 #[.pointer (some a)] w176 fun e178 w179 =>
 ∃ n180 n181 n182 n183 n184 n185 n186 n187 n188 n189, e178 = .returned (IdW n180 n181 n182 n183 n184 n185 n186 n187 n188 n189) ∧
 Kept L177 w176 w179 ∧
 ∀ w190 L191, Hid L177 w179 w190 →
 NewL w.heap.size L177 w179 w190 L191 →
 CallX Tryz.prog 98 #[.pointer (some a), .int .u64 4294967295] w190 fun e192 w193 =>
 ∃ n194, e192 = .returned (.int .u64 n194) ∧
 Kept L191 w190 w193 ∧
 ∀ w195 L196, Hid L191 w193 w195 →
 NewL w.heap.size L191 w193 w195 L196 →
 CallX Tryz.prog 99 #[.pointer (some a)] w195 fun e197 w198 =>
 ∃ q199 k200 k201, e197 = .returned (.slice q199 k200 k201) ∧
 Kept L196 w195 w198 ∧
 if (n5 == 0) = true then
 ∀ w278, Hid L196 w198 w278 →
 R (.returned (EnW n5 n180 n181 n182 n183 n184 n185 n186 n187 n188 n189 (IntKind.wrap .u32 n194) q199 k200 k201 0 (ByteArray.mk #[]) none 0 0 0 0)) w278
 else
 ∀ w202 L203, Hid L196 w198 w202 →
 NewL w.heap.size L196 w198 w202 L203 →
 CallX Tryz.prog 100 #[.pointer (some a)] w202 fun e204 w205 =>
 ∃ n206 s207, e204 = .returned (.agg #[.int .u8 n206, .string s207]) ∧
 Kept L203 w202 w205 ∧
 ∀ w208 L209, Hid L203 w205 w208 →
 NewL w.heap.size L203 w205 w208 L209 →
 CallX Tryz.prog 38 #[.pointer (some a)] w208 fun e210 w211 =>
 ∃ n212, e210 = .returned (.int .u8 n212) ∧
 Kept L209 w208 w211 ∧
 ∃ x213 : Int → Int → Int → Int → Int → Int → Int → Int → Int → Int → Int → Int → Int → Option Addr → Nat → Nat → Int → ByteArray → Option Addr → Nat → Nat → Int → Int → World → List Nat → Prop, ∃ x214 : Int → Int → Int → Int → Int → Int → Int → Int → Int → Int → Int → Int → Int → Option Addr → Nat → Nat → Int → ByteArray → Option Addr → Nat → Nat → Int → Int → World → Nat, (x213 0 n5 n180 n181 n182 n183 n184 n185 n186 n187 n188 n189 (IntKind.wrap .u32 n194) q199 k200 k201 n206 s207 none 0 0 0 0 w211 L209) ∧
 ∀ n215 n216 n217 n218 n219 n220 n221 n222 n223 n224 n225 n226 n227 q228 k229 k230 n231 s232 q233 k234 k235 n236 n237 w238 L239, (LF w.heap.size w238 L239) →
 (x213 n215 n216 n217 n218 n219 n220 n221 n222 n223 n224 n225 n226 n227 q228 k229 k230 n231 s232 q233 k234 k235 n236 n237 w238 L239) →
 if ((decide (n215 < (IntKind.wrap .i64 n212))) == true) = true then
 ∃ n241, (w238.cell? (a.add 1) = some (.int .i64 n241)) ∧
 ¬ a.block ∈ L239 ∧
 if (true && (n241 == 0)) = true then
 CallX Tryz.prog 143 #[.pointer (some a), .int .i64 255] w238 fun e243 w244 =>
 ∃ s245, e243 = .returned (.string s245) ∧
 Kept L239 w238 w244 ∧
 ∀ w246 L247, Hid L239 w244 w246 →
 NewL w.heap.size L239 w244 w246 L247 →
 CallX Tryz.prog 143 #[.pointer (some a), .int .i64 255] w246 fun e248 w249 =>
 ∃ s250, e248 = .returned (.string s250) ∧
 Kept L247 w246 w249 ∧
 ∀ w251 L252, Hid L247 w249 w251 →
 NewL w.heap.size L247 w249 w251 L252 →
 CallX Tryz.prog 38 #[.pointer (some a)] w251 fun e253 w254 =>
 ∃ n255, e253 = .returned (.int .u8 n255) ∧
 Kept L252 w251 w254 ∧
 if (decide (n255 > 1)) = true then
 ∀ w267 L268, Hid L252 w254 w267 →
 NewL w.heap.size L252 w254 w267 L268 →
 CallX Tryz.prog 96 #[.pointer (some a), .int .i64 6] w267 fun e269 w270 =>
 (e269 = .returned (.tuple #[])) ∧
 Kept L268 w267 w270 ∧
 ∃ n271, (w270.cell? (a.add 1) = some (.int .i64 n271)) ∧
 ¬ a.block ∈ L268 ∧
 if (n271 == 0) = true then
 ∃ q272 k273 k274 w275, (Sem.run Tryz.prog (Go.Builtin.append_ #[122, 122] 122 #[.slice q233 k234 k235, .slice (some ⟨w270.heap.size, 0, none⟩) 1 1]) (w270.alloc (.cells #[.string s245, .string s250, .bool (n255 == 1)] 126)) = .ok (.slice q272 k273 k274) w275) ∧
 (Kept L268 (w270.alloc (.cells #[.string s245, .string s250, .bool (n255 == 1)] 126)) w275) ∧
 ∀ w276 L277, Hid L268 w275 w276 →
 NewL w.heap.size L268 w275 w276 L277 →
 (Zb0 = Zb0) ∧
 (x213 (IntKind.wrap .i64 (n215 + 1)) n216 n217 n218 n219 n220 n221 n222 n223 n224 n225 n226 n227 q228 k229 k230 n231 s232 q272 k273 k274 n236 n237 w276 L277) ∧
 Nat.le ((x214 (IntKind.wrap .i64 (n215 + 1)) n216 n217 n218 n219 n220 n221 n222 n223 n224 n225 n226 n227 q228 k229 k230 n231 s232 q272 k273 k274 n236 n237 w276) + 1) (x214 n215 n216 n217 n218 n219 n220 n221 n222 n223 n224 n225 n226 n227 q228 k229 k230 n231 s232 q233 k234 k235 n236 n237 w238)
 else
 (Zb0 = Zb0) ∧
 (x213 (IntKind.wrap .i64 (n215 + 1)) n216 n217 n218 n219 n220 n221 n222 n223 n224 n225 n226 n227 q228 k229 k230 n231 s232 q233 k234 k235 n236 n237 w270 L268) ∧
 Nat.le ((x214 (IntKind.wrap .i64 (n215 + 1)) n216 n217 n218 n219 n220 n221 n222 n223 n224 n225 n226 n227 q228 k229 k230 n231 s232 q233 k234 k235 n236 n237 w270) + 1) (x214 n215 n216 n217 n218 n219 n220 n221 n222 n223 n224 n225 n226 n227 q228 k229 k230 n231 s232 q233 k234 k235 n236 n237 w238)
 else
 ∃ n256, (w254.cell? (a.add 1) = some (.int .i64 n256)) ∧
 ¬ a.block ∈ L252 ∧
 if (n256 == 0) = true then
 ∀ w259 L260, Hid L252 w254 w259 →
 NewL w.heap.size L252 w254 w259 L260 →
 ∃ q261 k262 k263 w264, (Sem.run Tryz.prog (Go.Builtin.append_ #[122, 122] 122 #[.slice q233 k234 k235, .slice (some ⟨w259.heap.size, 0, none⟩) 1 1]) (w259.alloc (.cells #[.string s245, .string s250, .bool (n255 == 1)] 126)) = .ok (.slice q261 k262 k263) w264) ∧
 (Kept L260 (w259.alloc (.cells #[.string s245, .string s250, .bool (n255 == 1)] 126)) w264) ∧
 ∀ w265 L266, Hid L260 w264 w265 →
 NewL w.heap.size L260 w264 w265 L266 →
 (Zb0 = Zb0) ∧
 (x213 (IntKind.wrap .i64 (n215 + 1)) n216 n217 n218 n219 n220 n221 n222 n223 n224 n225 n226 n227 q228 k229 k230 n231 s232 q261 k262 k263 n236 n237 w265 L266) ∧
 Nat.le ((x214 (IntKind.wrap .i64 (n215 + 1)) n216 n217 n218 n219 n220 n221 n222 n223 n224 n225 n226 n227 q228 k229 k230 n231 s232 q261 k262 k263 n236 n237 w265) + 1) (x214 n215 n216 n217 n218 n219 n220 n221 n222 n223 n224 n225 n226 n227 q228 k229 k230 n231 s232 q233 k234 k235 n236 n237 w238)
 else
 ∀ w257 L258, Hid L252 w254 w257 →
 NewL w.heap.size L252 w254 w257 L258 →
 (Zb0 = Zb0) ∧
 (x213 (IntKind.wrap .i64 (n215 + 1)) n216 n217 n218 n219 n220 n221 n222 n223 n224 n225 n226 n227 q228 k229 k230 n231 s232 q233 k234 k235 n236 n237 w257 L258) ∧
 Nat.le ((x214 (IntKind.wrap .i64 (n215 + 1)) n216 n217 n218 n219 n220 n221 n222 n223 n224 n225 n226 n227 q228 k229 k230 n231 s232 q233 k234 k235 n236 n237 w257) + 1) (x214 n215 n216 n217 n218 n219 n220 n221 n222 n223 n224 n225 n226 n227 q228 k229 k230 n231 s232 q233 k234 k235 n236 n237 w238)
 else
 ∀ w242, Hid L239 w238 w242 →
 R (.returned (EnW n216 n217 n218 n219 n220 n221 n222 n223 n224 n225 n226 n227 q228 k229 k230 n231 s232 q233 k234 k235 n236 n237)) w242
 else
 ∀ w240, Hid L239 w238 w240 →
 R (.returned (EnW n216 n217 n218 n219 n220 n221 n222 n223 n224 n225 n226 n227 q228 k229 k230 n231 s232 q233 k234 k235 n236 n237)) w240
 else
 if (n5 == 1) = true then
 ∀ w155 L156, Hid L2 w4 w155 →
 NewL w.heap.size L2 w4 w155 L156 →
 CallX Tryz.prog 97 #[.pointer (some a)] w155 fun e157 w158 =>
 ∃ n159 n160 n161 n162 n163 n164 n165 n166 n167 n168, e157 = .returned (IdW n159 n160 n161 n162 n163 n164 n165 n166 n167 n168) ∧
 Kept L156 w155 w158 ∧
 ∀ w169 L170, Hid L156 w158 w169 →
 NewL w.heap.size L156 w158 w169 L170 →
 CallX Tryz.prog 100 #[.pointer (some a)] w169 fun e171 w172 =>
 ∃ n173 s174, e171 = .returned (.agg #[.int .u8 n173, .string s174]) ∧
 Kept L170 w169 w172 ∧
 ∀ w175, Hid L170 w172 w175 →
 R (.returned (EnW n5 n159 n160 n161 n162 n163 n164 n165 n166 n167 n168 0 none 0 0 n173 s174 none 0 0 0 0)) w175
 else
 if (n5 == 2) = true then
 ∀ w148 L149, Hid L2 w4 w148 →
 NewL w.heap.size L2 w4 w148 L149 →
 CallX Tryz.prog 104 #[.pointer (some a)] w148 fun e150 w151 =>
 ∃ n152 n153, e150 = .returned (.agg #[.int .u8 n152, .int .u16 n153]) ∧
 Kept L149 w148 w151 ∧
 ∀ w154, Hid L149 w151 w154 →
 R (.returned (EnW n5 0 0 0 0 0 0 0 0 0 0 0 none 0 0 0 (ByteArray.mk #[]) none 0 0 n152 n153)) w154
 else
 ∀ w143 L144, Hid L2 w4 w143 →
 NewL w.heap.size L2 w4 w143 L144 →
 CallX Tryz.prog 96 #[.pointer (some a), .int .i64 6] w143 fun e145 w146 =>
 (e145 = .returned (.tuple #[])) ∧
 Kept L144 w143 w146 ∧
 ∀ w147, Hid L144 w146 w147 →
 R (.returned (EnW n5 0 0 0 0 0 0 0 0 0 0 0 none 0 0 0 (ByteArray.mk #[]) none 0 0 0 0)) w147
 else
 if (n5 == 3) = true then
 ∀ w40 L41, Hid L2 w4 w40 →
 NewL w.heap.size L2 w4 w40 L41 →
 CallX Tryz.prog 97 #[.pointer (some a)] w40 fun e42 w43 =>
 ∃ n44 n45 n46 n47 n48 n49 n50 n51 n52 n53, e42 = .returned (IdW n44 n45 n46 n47 n48 n49 n50 n51 n52 n53) ∧
 Kept L41 w40 w43 ∧
 ∀ w54 L55, Hid L41 w43 w54 →
 NewL w.heap.size L41 w43 w54 L55 →
 CallX Tryz.prog 98 #[.pointer (some a), .int .u64 4294967295] w54 fun e56 w57 =>
 ∃ n58, e56 = .returned (.int .u64 n58) ∧
 Kept L55 w54 w57 ∧
 ∀ w59 L60, Hid L55 w57 w59 →
 NewL w.heap.size L55 w57 w59 L60 →
 CallX Tryz.prog 99 #[.pointer (some a)] w59 fun e61 w62 =>
 ∃ q63 k64 k65, e61 = .returned (.slice q63 k64 k65) ∧
 Kept L60 w59 w62 ∧
 if (n5 == 0) = true then
 ∀ w142, Hid L60 w62 w142 →
 R (.returned (EnW n5 n44 n45 n46 n47 n48 n49 n50 n51 n52 n53 (IntKind.wrap .u32 n58) q63 k64 k65 0 (ByteArray.mk #[]) none 0 0 0 0)) w142
 else
 ∀ w66 L67, Hid L60 w62 w66 →
 NewL w.heap.size L60 w62 w66 L67 →
 CallX Tryz.prog 100 #[.pointer (some a)] w66 fun e68 w69 =>
 ∃ n70 s71, e68 = .returned (.agg #[.int .u8 n70, .string s71]) ∧
 Kept L67 w66 w69 ∧
 ∀ w72 L73, Hid L67 w69 w72 →
 NewL w.heap.size L67 w69 w72 L73 →
 CallX Tryz.prog 38 #[.pointer (some a)] w72 fun e74 w75 =>
 ∃ n76, e74 = .returned (.int .u8 n76) ∧
 Kept L73 w72 w75 ∧
 ∃ x77 : Int → Int → Int → Int → Int → Int → Int → Int → Int → Int → Int → Int → Int → Option Addr → Nat → Nat → Int → ByteArray → Option Addr → Nat → Nat → Int → Int → World → List Nat → Prop, ∃ x78 : Int → Int → Int → Int → Int → Int → Int → Int → Int → Int → Int → Int → Int → Option Addr → Nat → Nat → Int → ByteArray → Option Addr → Nat → Nat → Int → Int → World → Nat, (x77 0 n5 n44 n45 n46 n47 n48 n49 n50 n51 n52 n53 (IntKind.wrap .u32 n58) q63 k64 k65 n70 s71 none 0 0 0 0 w75 L73) ∧
 ∀ n79 n80 n81 n82 n83 n84 n85 n86 n87 n88 n89 n90 n91 q92 k93 k94 n95 s96 q97 k98 k99 n100 n101 w102 L103, (LF w.heap.size w102 L103) →
 (x77 n79 n80 n81 n82 n83 n84 n85 n86 n87 n88 n89 n90 n91 q92 k93 k94 n95 s96 q97 k98 k99 n100 n101 w102 L103) →
 if ((decide (n79 < (IntKind.wrap .i64 n76))) == true) = true then
 ∃ n105, (w102.cell? (a.add 1) = some (.int .i64 n105)) ∧
 ¬ a.block ∈ L103 ∧
 if (true && (n105 == 0)) = true then
 CallX Tryz.prog 143 #[.pointer (some a), .int .i64 255] w102 fun e107 w108 =>
 ∃ s109, e107 = .returned (.string s109) ∧
 Kept L103 w102 w108 ∧
 ∀ w110 L111, Hid L103 w108 w110 →
 NewL w.heap.size L103 w108 w110 L111 →
 CallX Tryz.prog 143 #[.pointer (some a), .int .i64 255] w110 fun e112 w113 =>
 ∃ s114, e112 = .returned (.string s114) ∧
 Kept L111 w110 w113 ∧
 ∀ w115 L116, Hid L111 w113 w115 →
 NewL w.heap.size L111 w113 w115 L116 →
 CallX Tryz.prog 38 #[.pointer (some a)] w115 fun e117 w118 =>
 ∃ n119, e117 = .returned (.int .u8 n119) ∧
 Kept L116 w115 w118 ∧
 if (decide (n119 > 1)) = true then
 ∀ w131 L132, Hid L116 w118 w131 →
 NewL w.heap.size L116 w118 w131 L132 →
 CallX Tryz.prog 96 #[.pointer (some a), .int .i64 6] w131 fun e133 w134 =>
 (e133 = .returned (.tuple #[])) ∧
 Kept L132 w131 w134 ∧
 ∃ n135, (w134.cell? (a.add 1) = some (.int .i64 n135)) ∧
 ¬ a.block ∈ L132 ∧
 if (n135 == 0) = true then
 ∃ q136 k137 k138 w139, (Sem.run Tryz.prog (Go.Builtin.append_ #[122, 122] 122 #[.slice q97 k98 k99, .slice (some ⟨w134.heap.size, 0, none⟩) 1 1]) (w134.alloc (.cells #[.string s109, .string s114, .bool (n119 == 1)] 126)) = .ok (.slice q136 k137 k138) w139) ∧
 (Kept L132 (w134.alloc (.cells #[.string s109, .string s114, .bool (n119 == 1)] 126)) w139) ∧
 ∀ w140 L141, Hid L132 w139 w140 →
 NewL w.heap.size L132 w139 w140 L141 →
 (Zb0 = Zb0) ∧
 (x77 (IntKind.wrap .i64 (n79 + 1)) n80 n81 n82 n83 n84 n85 n86 n87 n88 n89 n90 n91 q92 k93 k94 n95 s96 q136 k137 k138 n100 n101 w140 L141) ∧
 Nat.le ((x78 (IntKind.wrap .i64 (n79 + 1)) n80 n81 n82 n83 n84 n85 n86 n87 n88 n89 n90 n91 q92 k93 k94 n95 s96 q136 k137 k138 n100 n101 w140) + 1) (x78 n79 n80 n81 n82 n83 n84 n85 n86 n87 n88 n89 n90 n91 q92 k93 k94 n95 s96 q97 k98 k99 n100 n101 w102)
 else
 (Zb0 = Zb0) ∧
 (x77 (IntKind.wrap .i64 (n79 + 1)) n80 n81 n82 n83 n84 n85 n86 n87 n88 n89 n90 n91 q92 k93 k94 n95 s96 q97 k98 k99 n100 n101 w134 L132) ∧
 Nat.le ((x78 (IntKind.wrap .i64 (n79 + 1)) n80 n81 n82 n83 n84 n85 n86 n87 n88 n89 n90 n91 q92 k93 k94 n95 s96 q97 k98 k99 n100 n101 w134) + 1) (x78 n79 n80 n81 n82 n83 n84 n85 n86 n87 n88 n89 n90 n91 q92 k93 k94 n95 s96 q97 k98 k99 n100 n101 w102)
 else
 ∃ n120, (w118.cell? (a.add 1) = some (.int .i64 n120)) ∧
 ¬ a.block ∈ L116 ∧
 if (n120 == 0) = true then
 ∀ w123 L124, Hid L116 w118 w123 →
 NewL w.heap.size L116 w118 w123 L124 →
 ∃ q125 k126 k127 w128, (Sem.run Tryz.prog (Go.Builtin.append_ #[122, 122] 122 #[.slice q97 k98 k99, .slice (some ⟨w123.heap.size, 0, none⟩) 1 1]) (w123.alloc (.cells #[.string s109, .string s114, .bool (n119 == 1)] 126)) = .ok (.slice q125 k126 k127) w128) ∧
 (Kept L124 (w123.alloc (.cells #[.string s109, .string s114, .bool (n119 == 1)] 126)) w128) ∧
 ∀ w129 L130, Hid L124 w128 w129 →
 NewL w.heap.size L124 w128 w129 L130 →
 (Zb0 = Zb0) ∧
 (x77 (IntKind.wrap .i64 (n79 + 1)) n80 n81 n82 n83 n84 n85 n86 n87 n88 n89 n90 n91 q92 k93 k94 n95 s96 q125 k126 k127 n100 n101 w129 L130) ∧
 Nat.le ((x78 (IntKind.wrap .i64 (n79 + 1)) n80 n81 n82 n83 n84 n85 n86 n87 n88 n89 n90 n91 q92 k93 k94 n95 s96 q125 k126 k127 n100 n101 w129) + 1) (x78 n79 n80 n81 n82 n83 n84 n85 n86 n87 n88 n89 n90 n91 q92 k93 k94 n95 s96 q97 k98 k99 n100 n101 w102)
 else
 ∀ w121 L122, Hid L116 w118 w121 →
 NewL w.heap.size L116 w118 w121 L122 →
 (Zb0 = Zb0) ∧
 (x77 (IntKind.wrap .i64 (n79 + 1)) n80 n81 n82 n83 n84 n85 n86 n87 n88 n89 n90 n91 q92 k93 k94 n95 s96 q97 k98 k99 n100 n101 w121 L122) ∧
 Nat.le ((x78 (IntKind.wrap .i64 (n79 + 1)) n80 n81 n82 n83 n84 n85 n86 n87 n88 n89 n90 n91 q92 k93 k94 n95 s96 q97 k98 k99 n100 n101 w121) + 1) (x78 n79 n80 n81 n82 n83 n84 n85 n86 n87 n88 n89 n90 n91 q92 k93 k94 n95 s96 q97 k98 k99 n100 n101 w102)
 else
 ∀ w106, Hid L103 w102 w106 →
 R (.returned (EnW n80 n81 n82 n83 n84 n85 n86 n87 n88 n89 n90 n91 q92 k93 k94 n95 s96 q97 k98 k99 n100 n101)) w106
 else
 ∀ w104, Hid L103 w102 w104 →
 R (.returned (EnW n80 n81 n82 n83 n84 n85 n86 n87 n88 n89 n90 n91 q92 k93 k94 n95 s96 q97 k98 k99 n100 n101)) w104
 else
 if (n5 == 1) = true then
 ∀ w19 L20, Hid L2 w4 w19 →
 NewL w.heap.size L2 w4 w19 L20 →
 CallX Tryz.prog 97 #[.pointer (some a)] w19 fun e21 w22 =>
 ∃ n23 n24 n25 n26 n27 n28 n29 n30 n31 n32, e21 = .returned (IdW n23 n24 n25 n26 n27 n28 n29 n30 n31 n32) ∧
 Kept L20 w19 w22 ∧
 ∀ w33 L34, Hid L20 w22 w33 →
 NewL w.heap.size L20 w22 w33 L34 →
 CallX Tryz.prog 100 #[.pointer (some a)] w33 fun e35 w36 =>
 ∃ n37 s38, e35 = .returned (.agg #[.int .u8 n37, .string s38]) ∧
 Kept L34 w33 w36 ∧
 ∀ w39, Hid L34 w36 w39 →
 R (.returned (EnW n5 n23 n24 n25 n26 n27 n28 n29 n30 n31 n32 0 none 0 0 n37 s38 none 0 0 0 0)) w39
 else
 if (n5 == 2) = true then
 ∀ w12 L13, Hid L2 w4 w12 →
 NewL w.heap.size L2 w4 w12 L13 →
 CallX Tryz.prog 104 #[.pointer (some a)] w12 fun e14 w15 =>
 ∃ n16 n17, e14 = .returned (.agg #[.int .u8 n16, .int .u16 n17]) ∧
 Kept L13 w12 w15 ∧
 ∀ w18, Hid L13 w15 w18 →
 R (.returned (EnW n5 0 0 0 0 0 0 0 0 0 0 0 none 0 0 0 (ByteArray.mk #[]) none 0 0 n16 n17)) w18
 else
 ∀ w7 L8, Hid L2 w4 w7 →
 NewL w.heap.size L2 w4 w7 L8 →
 CallX Tryz.prog 96 #[.pointer (some a), .int .i64 6] w7 fun e9 w10 =>
 (e9 = .returned (.tuple #[])) ∧
 Kept L8 w7 w10 ∧
 ∀ w11, Hid L8 w10 w11 →
 R (.returned (EnW n5 0 0 0 0 0 0 0 0 0 0 0 none 0 0 0 (ByteArray.mk #[]) none 0 0 0 0)) w11) :
 Calls Tryz.prog 144 #[.pointer (some a)] w R :=
 calls_of { isLoc := [2, 3, 6], sym := [], loops := [(16, .inv [(5, .int .i64)] [(3, [.int .u8, .int .u8, .int .u16, .int .u32, .int .u8, .int .u8, .int .u8, .int .u8, .int .u8, .int .u8, .int .u8, .int .u32, .slice, .int .u8, .str, .slice, .int .u8, .int .u16])] true)], joins := [] } Tryz.func144 (by kernel_rfl) h
end Go.Proofs
/- The verification conditions of this seat's functions, as the engine has them: printed by a program of the bench; checked by the kernel. -/
namespace Go.Proofs
open Go X
abbrev Zc0 : List Value := [.int .u8 0, .int .u8 0, .int .u8 0, .int .u32 0, .int .u32 0, .int .u32 0, .int .u32 0, .int .u64 0, .int .u64 0, .int .u8 0, .int .u16 0, .int .u32 0, .int .u8 0, .int .u8 0, .int .u8 0, .int .u8 0, .int .u8 0, .int .u8 0, .int .u8 0, .slice none 0 0, .int .u8 0, .string (ByteArray.mk #[]), .int .u8 0, .int .u32 0, .slice none 0 0, .int .u8 0, .int .u16 0, .bool false, .slice none 0 0, .slice none 0 0, .slice none 0 0]
theorem x_r7get (a : Addr) (b_0 b_1 b_2 b_3 b_4 b_5 b_6 b_7 b_8 b_9 b_10 b_11 b_12 b_13 b_14 b_15 b_16 b_17 b_18 : Int) (b_19 : Option Addr) (b_19l b_19c : Nat) (b_20 : Int) (b_21 : ByteArray) (b_22 b_23 : Int) (b_24 : Option Addr) (b_24l b_24c : Nat) (b_25 b_26 : Int) (b_27 : Bool) (b_28 : Option Addr) (b_28l b_28c : Nat) (b_29 : Option Addr) (b_29l b_29c : Nat) (b_30 : Option Addr) (b_30l b_30c : Nat) (c : Int) (w : World) (R : Ending → World → Prop) (h :
 if (c == 103) = true then
 ∀ w125 L126, Hid [] w w125 →
 NewL w.heap.size [] w w125 L126 →
 CallX Tryz.prog 38 #[.pointer (some a)] w125 fun e127 w128 =>
 ∃ n129, e127 = .returned (.int .u8 n129) ∧
 Kept L126 w125 w128 ∧
 ∀ w130, Hid L126 w128 w130 →
 R (.returned (MgW b_0 n129 b_2 b_3 b_4 b_5 b_6 b_7 b_8 b_9 b_10 b_11 b_12 b_13 b_14 b_15 b_16 b_17 b_18 b_19 b_19l b_19c b_20 b_21 b_22 b_23 b_24 b_24l b_24c b_25 b_26 b_27 b_28 b_28l b_28c b_29 b_29l b_29c b_30 b_30l b_30c)) w130
 else
 if (c == 105) = true then
 ∀ w110 L111, Hid [] w w110 →
 NewL w.heap.size [] w w110 L111 →
 CallX Tryz.prog 97 #[.pointer (some a)] w110 fun e112 w113 =>
 ∃ n114 n115 n116 n117 n118 n119 n120 n121 n122 n123, e112 = .returned (IdW n114 n115 n116 n117 n118 n119 n120 n121 n122 n123) ∧
 Kept L111 w110 w113 ∧
 ∀ w124, Hid L111 w113 w124 →
 R (.returned (MgW b_0 b_1 b_2 b_3 b_4 b_5 b_6 b_7 b_8 n114 n115 n116 n117 n118 n119 n120 n121 n122 n123 b_19 b_19l b_19c b_20 b_21 b_22 b_23 b_24 b_24l b_24c b_25 b_26 b_27 b_28 b_28l b_28c b_29 b_29l b_29c b_30 b_30l b_30c)) w124
 else
 if (c == 102) = true then
 ∀ w104 L105, Hid [] w w104 →
 NewL w.heap.size [] w w104 L105 →
 CallX Tryz.prog 98 #[.pointer (some a), .int .u64 4294967295] w104 fun e106 w107 =>
 ∃ n108, e106 = .returned (.int .u64 n108) ∧
 Kept L105 w104 w107 ∧
 ∀ w109, Hid L105 w107 w109 →
 R (.returned (MgW b_0 b_1 b_2 b_3 b_4 b_5 (IntKind.wrap .u32 n108) b_7 b_8 b_9 b_10 b_11 b_12 b_13 b_14 b_15 b_16 b_17 b_18 b_19 b_19l b_19c b_20 b_21 b_22 b_23 b_24 b_24l b_24c b_25 b_26 b_27 b_28 b_28l b_28c b_29 b_29l b_29c b_30 b_30l b_30c)) w109
 else
 if (c == 112) = true then
 ∀ w96 L97, Hid [] w w96 →
 NewL w.heap.size [] w w96 L97 →
 CallX Tryz.prog 99 #[.pointer (some a)] w96 fun e98 w99 =>
 ∃ q100 k101 k102, e98 = .returned (.slice q100 k101 k102) ∧
 Kept L97 w96 w99 ∧
 ∀ w103, Hid L97 w99 w103 →
 R (.returned (MgW b_0 b_1 b_2 b_3 b_4 b_5 b_6 b_7 b_8 b_9 b_10 b_11 b_12 b_13 b_14 b_15 b_16 b_17 b_18 q100 k101 k102 b_20 b_21 b_22 b_23 b_24 b_24l b_24c b_25 b_26 b_27 b_28 b_28l b_28c b_29 b_29l b_29c b_30 b_30l b_30c)) w103
 else
 if (c == 114) = true then
 ∀ w89 L90, Hid [] w w89 →
 NewL w.heap.size [] w w89 L90 →
 CallX Tryz.prog 100 #[.pointer (some a)] w89 fun e91 w92 =>
 ∃ n93 s94, e91 = .returned (.agg #[.int .u8 n93, .string s94]) ∧
 Kept L90 w89 w92 ∧
 ∀ w95, Hid L90 w92 w95 →
 R (.returned (MgW b_0 b_1 b_2 b_3 b_4 b_5 b_6 b_7 b_8 b_9 b_10 b_11 b_12 b_13 b_14 b_15 b_16 b_17 b_18 b_19 b_19l b_19c n93 s94 b_22 b_23 b_24 b_24l b_24c b_25 b_26 b_27 b_28 b_28l b_28c b_29 b_29l b_29c b_30 b_30l b_30c)) w95
 else
 if (c == 118) = true then
 ∀ w79 L80, Hid [] w w79 →
 NewL w.heap.size [] w w79 L80 →
 CallX Tryz.prog 101 #[.pointer (some a)] w79 fun e81 w82 =>
 ∃ n83 n84 q85 k86 k87, e81 = .returned (.agg #[.int .u8 n83, .int .u32 n84, .slice q85 k86 k87]) ∧
 Kept L80 w79 w82 ∧
 ∀ w88, Hid L80 w82 w88 →
 R (.returned (MgW b_0 b_1 b_2 b_3 b_4 b_5 b_6 b_7 b_8 b_9 b_10 b_11 b_12 b_13 b_14 b_15 b_16 b_17 b_18 b_19 b_19l b_19c b_20 b_21 n83 n84 q85 k86 k87 b_25 b_26 b_27 b_28 b_28l b_28c b_29 b_29l b_29c b_30 b_30l b_30c)) w88
 else
 if (c == 99) = true then
 ∀ w73 L74, Hid [] w w73 →
 NewL w.heap.size [] w w73 L74 →
 CallX Tryz.prog 38 #[.pointer (some a)] w73 fun e75 w76 =>
 ∃ n77, e75 = .returned (.int .u8 n77) ∧
 Kept L74 w73 w76 ∧
 ∀ w78, Hid L74 w76 w78 →
 R (.returned (MgW b_0 b_1 n77 b_3 b_4 b_5 b_6 b_7 b_8 b_9 b_10 b_11 b_12 b_13 b_14 b_15 b_16 b_17 b_18 b_19 b_19l b_19c b_20 b_21 b_22 b_23 b_24 b_24l b_24c b_25 b_26 b_27 b_28 b_28l b_28c b_29 b_29l b_29c b_30 b_30l b_30c)) w78
 else
 if (c == 110) = true then
 ∀ w67 L68, Hid [] w w67 →
 NewL w.heap.size [] w w67 L68 →
 CallX Tryz.prog 98 #[.pointer (some a), .int .u64 4294967295] w67 fun e69 w70 =>
 ∃ n71, e69 = .returned (.int .u64 n71) ∧
 Kept L68 w67 w70 ∧
 ∀ w72, Hid L68 w70 w72 →
 R (.returned (MgW b_0 b_1 b_2 (IntKind.wrap .u32 n71) b_4 b_5 b_6 b_7 b_8 b_9 b_10 b_11 b_12 b_13 b_14 b_15 b_16 b_17 b_18 b_19 b_19l b_19c b_20 b_21 b_22 b_23 b_24 b_24l b_24c b_25 b_26 b_27 b_28 b_28l b_28c b_29 b_29l b_29c b_30 b_30l b_30c)) w72
 else
 if (c == 97) = true then
 ∀ w61 L62, Hid [] w w61 →
 NewL w.heap.size [] w w61 L62 →
 CallX Tryz.prog 98 #[.pointer (some a), .int .u64 4294967295] w61 fun e63 w64 =>
 ∃ n65, e63 = .returned (.int .u64 n65) ∧
 Kept L62 w61 w64 ∧
 ∀ w66, Hid L62 w64 w66 →
 R (.returned (MgW b_0 b_1 b_2 b_3 (IntKind.wrap .u32 n65) b_5 b_6 b_7 b_8 b_9 b_10 b_11 b_12 b_13 b_14 b_15 b_16 b_17 b_18 b_19 b_19l b_19c b_20 b_21 b_22 b_23 b_24 b_24l b_24c b_25 b_26 b_27 b_28 b_28l b_28c b_29 b_29l b_29c b_30 b_30l b_30c)) w66
 else
 if (c == 107) = true then
 ∀ w55 L56, Hid [] w w55 →
 NewL w.heap.size [] w w55 L56 →
 CallX Tryz.prog 98 #[.pointer (some a), .int .u64 4294967295] w55 fun e57 w58 =>
 ∃ n59, e57 = .returned (.int .u64 n59) ∧
 Kept L56 w55 w58 ∧
 ∀ w60, Hid L56 w58 w60 →
 R (.returned (MgW b_0 b_1 b_2 b_3 b_4 (IntKind.wrap .u32 n59) b_6 b_7 b_8 b_9 b_10 b_11 b_12 b_13 b_14 b_15 b_16 b_17 b_18 b_19 b_19l b_19c b_20 b_21 b_22 b_23 b_24 b_24l b_24c b_25 b_26 b_27 b_28 b_28l b_28c b_29 b_29l b_29c b_30 b_30l b_30c)) w60
 else
 if (c == 101) = true then
 ∀ w47 L48, Hid [] w w47 →
 NewL w.heap.size [] w w47 L48 →
 CallX Tryz.prog 102 #[.pointer (some a)] w47 fun e49 w50 =>
 ∃ q51 k52 k53, e49 = .returned (.slice q51 k52 k53) ∧
 Kept L48 w47 w50 ∧
 ∀ w54, Hid L48 w50 w54 →
 R (.returned (MgW b_0 b_1 b_2 b_3 b_4 b_5 b_6 b_7 b_8 b_9 b_10 b_11 b_12 b_13 b_14 b_15 b_16 b_17 b_18 b_19 b_19l b_19c b_20 b_21 b_22 b_23 b_24 b_24l b_24c b_25 b_26 b_27 b_28 b_28l b_28c q51 k52 k53 b_30 b_30l b_30c)) w54
 else
 if (c == 98) = true then
 ∀ w41 L42, Hid [] w w41 →
 NewL w.heap.size [] w w41 L42 →
 CallX Tryz.prog 98 #[.pointer (some a), .int .u64 18446744073709551615] w41 fun e43 w44 =>
 ∃ n45, e43 = .returned (.int .u64 n45) ∧
 Kept L42 w41 w44 ∧
 ∀ w46, Hid L42 w44 w46 →
 R (.returned (MgW b_0 b_1 b_2 b_3 b_4 b_5 b_6 n45 b_8 b_9 b_10 b_11 b_12 b_13 b_14 b_15 b_16 b_17 b_18 b_19 b_19l b_19c b_20 b_21 b_22 b_23 b_24 b_24l b_24c b_25 b_26 b_27 b_28 b_28l b_28c b_29 b_29l b_29c b_30 b_30l b_30c)) w46
 else
 if (c == 104) = true then
 ∀ w30 L31, Hid [] w w30 →
 NewL w.heap.size [] w w30 L31 →
 CallX Tryz.prog 38 #[.pointer (some a)] w30 fun e32 w33 =>
 ∃ n34, e32 = .returned (.int .u8 n34) ∧
 Kept L31 w30 w33 ∧
 if (decide (n34 > 1)) = true then
 ∀ w36 L37, Hid L31 w33 w36 →
 NewL w.heap.size L31 w33 w36 L37 →
 CallX Tryz.prog 96 #[.pointer (some a), .int .i64 6] w36 fun e38 w39 =>
 (e38 = .returned (.tuple #[])) ∧
 Kept L37 w36 w39 ∧
 ∀ w40, Hid L37 w39 w40 →
 R (.returned (MgW b_0 b_1 b_2 b_3 b_4 b_5 b_6 b_7 b_8 b_9 b_10 b_11 b_12 b_13 b_14 b_15 b_16 b_17 b_18 b_19 b_19l b_19c b_20 b_21 b_22 b_23 b_24 b_24l b_24c b_25 b_26 (n34 == 1) b_28 b_28l b_28c b_29 b_29l b_29c b_30 b_30l b_30c)) w40
 else
 ∀ w35, Hid L31 w33 w35 →
 R (.returned (MgW b_0 b_1 b_2 b_3 b_4 b_5 b_6 b_7 b_8 b_9 b_10 b_11 b_12 b_13 b_14 b_15 b_16 b_17 b_18 b_19 b_19l b_19c b_20 b_21 b_22 b_23 b_24 b_24l b_24c b_25 b_26 (n34 == 1) b_28 b_28l b_28c b_29 b_29l b_29c b_30 b_30l b_30c)) w35
 else
 if (c == 120) = true then
 ∀ w24 L25, Hid [] w w24 →
 NewL w.heap.size [] w w24 L25 →
 CallX Tryz.prog 98 #[.pointer (some a), .int .u64 18446744073709551615] w24 fun e26 w27 =>
 ∃ n28, e26 = .returned (.int .u64 n28) ∧
 Kept L25 w24 w27 ∧
 ∀ w29, Hid L25 w27 w29 →
 R (.returned (MgW b_0 b_1 b_2 b_3 b_4 b_5 b_6 b_7 n28 b_9 b_10 b_11 b_12 b_13 b_14 b_15 b_16 b_17 b_18 b_19 b_19l b_19c b_20 b_21 b_22 b_23 b_24 b_24l b_24c b_25 b_26 b_27 b_28 b_28l b_28c b_29 b_29l b_29c b_30 b_30l b_30c)) w29
 else
 if (c == 109) = true then
 ∀ w9 L10, Hid [] w w9 →
 NewL w.heap.size [] w w9 L10 →
 CallX Tryz.prog 103 #[.pointer (some a)] w9 fun e11 w12 =>
 ∃ q13 k14 k15, e11 = .returned (.slice q13 k14 k15) ∧
 Kept L10 w9 w12 ∧
 ∀ w16 L17, Hid L10 w12 w16 →
 NewL w.heap.size L10 w12 w16 L17 →
 CallX Tryz.prog 102 #[.pointer (some a)] w16 fun e18 w19 =>
 ∃ q20 k21 k22, e18 = .returned (.slice q20 k21 k22) ∧
 Kept L17 w16 w19 ∧
 ∀ w23, Hid L17 w19 w23 →
 R (.returned (MgW b_0 b_1 b_2 b_3 b_4 b_5 b_6 b_7 b_8 b_9 b_10 b_11 b_12 b_13 b_14 b_15 b_16 b_17 b_18 b_19 b_19l b_19c b_20 b_21 b_22 b_23 b_24 b_24l b_24c b_25 b_26 b_27 q13 k14 k15 b_29 b_29l b_29c q20 k21 k22)) w23
 else
 if (c == 115) = true then
 ∀ w2 L3, Hid [] w w2 →
 NewL w.heap.size [] w w2 L3 →
 CallX Tryz.prog 104 #[.pointer (some a)] w2 fun e4 w5 =>
 ∃ n6 n7, e4 = .returned (.agg #[.int .u8 n6, .int .u16 n7]) ∧
 Kept L3 w2 w5 ∧
 ∀ w8, Hid L3 w5 w8 →
 R (.returned (MgW b_0 b_1 b_2 b_3 b_4 b_5 b_6 b_7 b_8 b_9 b_10 b_11 b_12 b_13 b_14 b_15 b_16 b_17 b_18 b_19 b_19l b_19c b_20 b_21 b_22 b_23 b_24 b_24l b_24c n6 n7 b_27 b_28 b_28l b_28c b_29 b_29l b_29c b_30 b_30l b_30c)) w8
 else
 ∀ w1, Hid [] w w1 →
 R (.returned (MgW b_0 b_1 b_2 b_3 b_4 b_5 b_6 b_7 b_8 b_9 b_10 b_11 b_12 b_13 b_14 b_15 b_16 b_17 b_18 b_19 b_19l b_19c b_20 b_21 b_22 b_23 b_24 b_24l b_24c b_25 b_26 b_27 b_28 b_28l b_28c b_29 b_29l b_29c b_30 b_30l b_30c)) w1) :
 Calls Tryz.prog 40 #[.pointer (some a), .agg #[.int .u8 b_0, .int .u8 b_1, .int .u8 b_2, .int .u32 b_3, .int .u32 b_4, .int .u32 b_5, .int .u32 b_6, .int .u64 b_7, .int .u64 b_8, .int .u8 b_9, .int .u16 b_10, .int .u32 b_11, .int .u8 b_12, .int .u8 b_13, .int .u8 b_14, .int .u8 b_15, .int .u8 b_16, .int .u8 b_17, .int .u8 b_18, .slice b_19 b_19l b_19c, .int .u8 b_20, .string b_21, .int .u8 b_22, .int .u32 b_23, .slice b_24 b_24l b_24c, .int .u8 b_25, .int .u16 b_26, .bool b_27, .slice b_28 b_28l b_28c, .slice b_29 b_29l b_29c, .slice b_30 b_30l b_30c], .int .u8 c] w R :=
 calls_of { isLoc := [4, 6], sym := [], loops := [], joins := [] } Tryz.func40 (by kernel_rfl) h
theorem x_r7Read (a : Option Addr) (al ac : Nat) (w : World) (R : Ending → World → Prop) (h :
 if (decide (((al : Nat) : Int) > 524288)) = true then
 ∀ w220, Hid [] w w220 →
 R (.returned (.tuple #[(MgW 0 0 0 0 0 0 0 0 0 0 0 0 0 0 0 0 0 0 0 none 0 0 0 (ByteArray.mk #[]) 0 0 none 0 0 0 0 false none 0 0 none 0 0 none 0 0), .int .i64 5])) w220
 else
 ∀ w1 L2, Hid [] w w1 →
 NewL w.heap.size [] w w1 L2 →
 ∃ q3 k4 k5 w6, (Sem.run Tryz.prog (Go.Builtin.append_ #[41, 41] 41 #[.slice (some ⟨w1.heap.size, 0, none⟩) 0 0, .slice a al ac]) (w1.alloc (.cells #[] 5)) = .ok (.slice q3 k4 k5) w6) ∧
 (Kept L2 (w1.alloc (.cells #[] 5)) w6) ∧
 CallX Tryz.prog 38 #[.pointer (some ⟨w6.heap.size, 0, none⟩)] (w6.alloc (.cells #[.slice q3 k4 k5, .int .i64 0] 102)) fun e7 w8 =>
 ∃ n9, e7 = .returned (.int .u8 n9) ∧
 (Kept L2 (w6.alloc (.cells #[.slice q3 k4 k5, .int .i64 0] 102)) w8) ∧
 ∀ w10 L11, Hid L2 w8 w10 →
 NewL w.heap.size L2 w8 w10 L11 →
 CallX Tryz.prog 39 #[.int .u8 n9] w10 fun e12 w13 =>
 ∃ s14, e12 = .returned (.string s14) ∧
 Kept L11 w10 w13 ∧
 ∃ n15, (w13.cell? ⟨w6.heap.size, (0 + 1), none⟩ = some (.int .i64 n15)) ∧
 ¬ w6.heap.size ∈ L11 ∧
 if ((n15 != 0) || ((s14.toList) == ((ByteArray.mk #[]).toList))) = true then
 ∀ w219, Hid L11 w13 w219 →
 R (.returned (.tuple #[(MgW 0 0 0 0 0 0 0 0 0 0 0 0 0 0 0 0 0 0 0 none 0 0 0 (ByteArray.mk #[]) 0 0 none 0 0 0 0 false none 0 0 none 0 0 none 0 0), .int .i64 6])) w219
 else
 ∃ x16 : Int → Int → Int → Int → Int → Int → Int → Int → Int → Int → Int → Int → Int → Int → Int → Int → Int → Int → Int → Int → Option Addr → Nat → Nat → Int → ByteArray → Int → Int → Option Addr → Nat → Nat → Int → Int → Bool → Option Addr → Nat → Nat → Option Addr → Nat → Nat → Option Addr → Nat → Nat → World → List Nat → Prop, ∃ x17 : Int → Int → Int → Int → Int → Int → Int → Int → Int → Int → Int → Int → Int → Int → Int → Int → Int → Int → Int → Int → Option Addr → Nat → Nat → Int → ByteArray → Int → Int → Option Addr → Nat → Nat → Int → Int → Bool → Option Addr → Nat → Nat → Option Addr → Nat → Nat → Option Addr → Nat → Nat → World → Nat, (x16 0 n9 0 0 0 0 0 0 0 0 0 0 0 0 0 0 0 0 0 0 none 0 0 0 (ByteArray.mk #[]) 0 0 none 0 0 0 0 false none 0 0 none 0 0 none 0 0 w13 L11) ∧
 ∀ n18 n19 n20 n21 n22 n23 n24 n25 n26 n27 n28 n29 n30 n31 n32 n33 n34 n35 n36 n37 q38 k39 k40 n41 s42 n43 n44 q45 k46 k47 n48 n49 b50 q51 k52 k53 q54 k55 k56 q57 k58 k59 w60 L61, (LF w.heap.size w60 L61) →
 (x16 n18 n19 n20 n21 n22 n23 n24 n25 n26 n27 n28 n29 n30 n31 n32 n33 n34 n35 n36 n37 q38 k39 k40 n41 s42 n43 n44 q45 k46 k47 n48 n49 b50 q51 k52 k53 q54 k55 k56 q57 k58 k59 w60 L61) →
 if (decide (n18 < (((s14.size) : Nat) : Int))) = true then
 ∃ x170, (FactsW x170 w60 L61) ∧
 ((0 : Int) ≤ n18) ∧
 ∃ x171, ((s14.data[n18.toNat]?) = some x171) ∧
 ∀ w172 L173, Hid L61 w60 w172 →
 NewL w.heap.size L61 w60 w172 L173 →
 CallX Tryz.prog 40 #[.pointer (some ⟨w6.heap.size, 0, none⟩), (MgW n19 n20 n21 n22 n23 n24 n25 n26 n27 n28 n29 n30 n31 n32 n33 n34 n35 n36 n37 q38 k39 k40 n41 s42 n43 n44 q45 k46 k47 n48 n49 b50 q51 k52 k53 q54 k55 k56 q57 k58 k59), (.int .u8 (((x171.toNat) : Nat) : Int))] w172 fun e174 w175 =>
 ∃ n176 n177 n178 n179 n180 n181 n182 n183 n184 n185 n186 n187 n188 n189 n190 n191 n192 n193 n194 q195 k196 k197 n198 s199 n200 n201 q202 k203 k204 n205 n206 b207 q208 k209 k210 q211 k212 k213 q214 k215 k216, e174 = .returned (MgW n176 n177 n178 n179 n180 n181 n182 n183 n184 n185 n186 n187 n188 n189 n190 n191 n192 n193 n194 q195 k196 k197 n198 s199 n200 n201 q202 k203 k204 n205 n206 b207 q208 k209 k210 q211 k212 k213 q214 k215 k216) ∧
 Kept L173 w172 w175 ∧
 ∀ w217 L218, Hid L173 w175 w217 →
 NewL w.heap.size L173 w175 w217 L218 →
 (Zc0 = Zc0) ∧
 (x16 (IntKind.wrap .i64 (n18 + 1)) n176 n177 n178 n179 n180 n181 n182 n183 n184 n185 n186 n187 n188 n189 n190 n191 n192 n193 n194 q195 k196 k197 n198 s199 n200 n201 q202 k203 k204 n205 n206 b207 q208 k209 k210 q211 k212 k213 q214 k215 k216 w217 L218) ∧
 Nat.le ((x17 (IntKind.wrap .i64 (n18 + 1)) n176 n177 n178 n179 n180 n181 n182 n183 n184 n185 n186 n187 n188 n189 n190 n191 n192 n193 n194 q195 k196 k197 n198 s199 n200 n201 q202 k203 k204 n205 n206 b207 q208 k209 k210 q211 k212 k213 q214 k215 k216 w217) + 1) (x17 n18 n19 n20 n21 n22 n23 n24 n25 n26 n27 n28 n29 n30 n31 n32 n33 n34 n35 n36 n37 q38 k39 k40 n41 s42 n43 n44 q45 k46 k47 n48 n49 b50 q51 k52 k53 q54 k55 k56 q57 k58 k59 w60)
 else
 if ((n19 == 8) && b50) = true then
 CallX Tryz.prog 40 #[.pointer (some ⟨w6.heap.size, 0, none⟩), (MgW n19 n20 n21 n22 n23 n24 n25 n26 n27 n28 n29 n30 n31 n32 n33 n34 n35 n36 n37 q38 k39 k40 n41 s42 n43 n44 q45 k46 k47 n48 n49 b50 q51 k52 k53 q54 k55 k56 q57 k58 k59), .int .u8 120] w60 fun e71 w72 =>
 ∃ n73 n74 n75 n76 n77 n78 n79 n80 n81 n82 n83 n84 n85 n86 n87 n88 n89 n90 n91 q92 k93 k94 n95 s96 n97 n98 q99 k100 k101 n102 n103 b104 q105 k106 k107 q108 k109 k110 q111 k112 k113, e71 = .returned (MgW n73 n74 n75 n76 n77 n78 n79 n80 n81 n82 n83 n84 n85 n86 n87 n88 n89 n90 n91 q92 k93 k94 n95 s96 n97 n98 q99 k100 k101 n102 n103 b104 q105 k106 k107 q108 k109 k110 q111 k112 k113) ∧
 Kept L61 w60 w72 ∧
 ∀ w114 L115, Hid L61 w72 w114 →
 NewL w.heap.size L61 w72 w114 L115 →
 CallX Tryz.prog 40 #[.pointer (some ⟨w6.heap.size, 0, none⟩), (MgW n73 n74 n75 n76 n77 n78 n79 n80 n81 n82 n83 n84 n85 n86 n87 n88 n89 n90 n91 q92 k93 k94 n95 s96 n97 n98 q99 k100 k101 n102 n103 b104 q105 k106 k107 q108 k109 k110 q111 k112 k113), .int .u8 109] w114 fun e116 w117 =>
 ∃ n118 n119 n120 n121 n122 n123 n124 n125 n126 n127 n128 n129 n130 n131 n132 n133 n134 n135 n136 q137 k138 k139 n140 s141 n142 n143 q144 k145 k146 n147 n148 b149 q150 k151 k152 q153 k154 k155 q156 k157 k158, e116 = .returned (MgW n118 n119 n120 n121 n122 n123 n124 n125 n126 n127 n128 n129 n130 n131 n132 n133 n134 n135 n136 q137 k138 k139 n140 s141 n142 n143 q144 k145 k146 n147 n148 b149 q150 k151 k152 q153 k154 k155 q156 k157 k158) ∧
 Kept L115 w114 w117 ∧
 ∀ w159 L160, Hid L115 w117 w159 →
 NewL w.heap.size L115 w117 w159 L160 →
 CallX Tryz.prog 41 #[.pointer (some ⟨w6.heap.size, 0, none⟩)] w159 fun e161 w162 =>
 ∃ n163, e161 = .returned (.int .i64 n163) ∧
 Kept L160 w159 w162 ∧
 if (n163 != 0) = true then
 ∀ w169, Hid L160 w162 w169 →
 R (.returned (.tuple #[(MgW 0 0 0 0 0 0 0 0 0 0 0 0 0 0 0 0 0 0 0 none 0 0 0 (ByteArray.mk #[]) 0 0 none 0 0 0 0 false none 0 0 none 0 0 none 0 0), .int .i64 n163])) w169
 else
 CallX Tryz.prog 30 #[(MgW n118 n119 n120 n121 n122 n123 n124 n125 n126 n127 n128 n129 n130 n131 n132 n133 n134 n135 n136 q137 k138 k139 n140 s141 n142 n143 q144 k145 k146 n147 n148 b149 q150 k151 k152 q153 k154 k155 q156 k157 k158)] w162 fun e164 w165 =>
 ∃ b166, e164 = .returned (.bool b166) ∧
 Kept L160 w162 w165 ∧
 if (!b166) = true then
 ∀ w168, Hid L160 w165 w168 →
 R (.returned (.tuple #[(MgW 0 0 0 0 0 0 0 0 0 0 0 0 0 0 0 0 0 0 0 none 0 0 0 (ByteArray.mk #[]) 0 0 none 0 0 0 0 false none 0 0 none 0 0 none 0 0), .int .i64 6])) w168
 else
 ∀ w167, Hid L160 w165 w167 →
 R (.returned (.tuple #[(MgW n118 n119 n120 n121 n122 n123 n124 n125 n126 n127 n128 n129 n130 n131 n132 n133 n134 n135 n136 q137 k138 k139 n140 s141 n142 n143 q144 k145 k146 n147 n148 b149 q150 k151 k152 q153 k154 k155 q156 k157 k158), .int .i64 0])) w167
 else
 CallX Tryz.prog 41 #[.pointer (some ⟨w6.heap.size, 0, none⟩)] w60 fun e62 w63 =>
 ∃ n64, e62 = .returned (.int .i64 n64) ∧
 Kept L61 w60 w63 ∧
 if (n64 != 0) = true then
 ∀ w70, Hid L61 w63 w70 →
 R (.returned (.tuple #[(MgW 0 0 0 0 0 0 0 0 0 0 0 0 0 0 0 0 0 0 0 none 0 0 0 (ByteArray.mk #[]) 0 0 none 0 0 0 0 false none 0 0 none 0 0 none 0 0), .int .i64 n64])) w70
 else
 CallX Tryz.prog 30 #[(MgW n19 n20 n21 n22 n23 n24 n25 n26 n27 n28 n29 n30 n31 n32 n33 n34 n35 n36 n37 q38 k39 k40 n41 s42 n43 n44 q45 k46 k47 n48 n49 b50 q51 k52 k53 q54 k55 k56 q57 k58 k59)] w63 fun e65 w66 =>
 ∃ b67, e65 = .returned (.bool b67) ∧
 Kept L61 w63 w66 ∧
 if (!b67) = true then
 ∀ w69, Hid L61 w66 w69 →
 R (.returned (.tuple #[(MgW 0 0 0 0 0 0 0 0 0 0 0 0 0 0 0 0 0 0 0 none 0 0 0 (ByteArray.mk #[]) 0 0 none 0 0 0 0 false none 0 0 none 0 0 none 0 0), .int .i64 6])) w69
 else
 ∀ w68, Hid L61 w66 w68 →
 R (.returned (.tuple #[(MgW n19 n20 n21 n22 n23 n24 n25 n26 n27 n28 n29 n30 n31 n32 n33 n34 n35 n36 n37 q38 k39 k40 n41 s42 n43 n44 q45 k46 k47 n48 n49 b50 q51 k52 k53 q54 k55 k56 q57 k58 k59), .int .i64 0])) w68) :
 Calls Tryz.prog 11 #[.slice a al ac] w R :=
 calls_of { isLoc := [2, 5], sym := [44], loops := [(9, .inv [(7, .int .i64)] [(5, [.int .u8, .int .u8, .int .u8, .int .u32, .int .u32, .int .u32, .int .u32, .int .u64, .int .u64, .int .u8, .int .u16, .int .u32, .int .u8, .int .u8, .int .u8, .int .u8, .int .u8, .int .u8, .int .u8, .slice, .int .u8, .str, .int .u8, .int .u32, .slice, .int .u8, .int .u16, .bool, .slice, .slice, .slice])] true)], joins := [] } Tryz.func11 (by kernel_rfl) h
end Go.Proofs
/- The verification conditions of this seat's functions, as the engine has them: printed by a program of the bench; checked by the kernel. -/
namespace Go.Proofs
open Go X
theorem x_Ref7 (a_0 a_1 a_2 a_3 a_4 a_5 a_6 a_7 a_8 a_9 a_10 a_11 a_12 a_13 a_14 a_15 a_16 a_17 a_18 : Int) (a_19 : Option Addr) (a_19l a_19c : Nat) (a_20 : Int) (a_21 : ByteArray) (a_22 a_23 : Int) (a_24 : Option Addr) (a_24l a_24c : Nat) (a_25 a_26 : Int) (a_27 : Bool) (a_28 : Option Addr) (a_28l a_28c : Nat) (a_29 : Option Addr) (a_29l a_29c : Nat) (a_30 : Option Addr) (a_30l a_30c : Nat) (w : World) (R : Ending → World → Prop) (h :
 ∃ x1, (FactsW x1 w []) ∧
 ∀ w2 L3, Hid [] w w2 →
 NewL w.heap.size [] w w2 L3 →
 CallX Tryz.prog 46 #[(IdW a_9 a_10 a_11 a_12 a_13 a_14 a_15 a_16 a_17 a_18)] w2 fun e4 w5 =>
 ∃ n6 n7 n8 n9 n10 n11 n12 n13 n14 n15, e4 = .returned (IdW n6 n7 n8 n9 n10 n11 n12 n13 n14 n15) ∧
 Kept L3 w2 w5 ∧
 FactsW x1 w5 L3 ∧
 CallX Tryz.prog 47 #[.slice a_19 a_19l a_19c] w5 fun e16 w17 =>
 ∃ q18 k19 k20, e16 = .returned (.slice q18 k19 k20) ∧
 Kept L3 w5 w17 ∧
 FactsW x1 w17 L3 ∧
 CallX Tryz.prog 48 #[(.agg #[.int .u8 a_20, .string a_21])] w17 fun e21 w22 =>
 ∃ n23 s24, e21 = .returned (.agg #[.int .u8 n23, .string s24]) ∧
 Kept L3 w17 w22 ∧
 FactsW x1 w22 L3 ∧
 CallX Tryz.prog 49 #[(.agg #[.int .u8 a_22, .int .u32 a_23, .slice a_24 a_24l a_24c])] w22 fun e25 w26 =>
 ∃ n27 n28 q29 k30 k31, e25 = .returned (.agg #[.int .u8 n27, .int .u32 n28, .slice q29 k30 k31]) ∧
 Kept L3 w22 w26 ∧
 FactsW x1 w26 L3 ∧
 CallX Tryz.prog 50 #[(.agg #[.int .u8 a_25, .int .u16 a_26])] w26 fun e32 w33 =>
 ∃ n34 n35, e32 = .returned (.agg #[.int .u8 n34, .int .u16 n35]) ∧
 Kept L3 w26 w33 ∧
 FactsW x1 w33 L3 ∧
 CallX Tryz.prog 51 #[.slice a_28 a_28l a_28c] w33 fun e36 w37 =>
 ∃ q38 k39 k40, e36 = .returned (.slice q38 k39 k40) ∧
 Kept L3 w33 w37 ∧
 FactsW x1 w37 L3 ∧
 CallX Tryz.prog 52 #[.slice a_29 a_29l a_29c] w37 fun e41 w42 =>
 ∃ q43 k44 k45, e41 = .returned (.slice q43 k44 k45) ∧
 Kept L3 w37 w42 ∧
 FactsW x1 w42 L3 ∧
 CallX Tryz.prog 52 #[.slice a_30 a_30l a_30c] w42 fun e46 w47 =>
 ∃ q48 k49 k50, e46 = .returned (.slice q48 k49 k50) ∧
 Kept L3 w42 w47 ∧
 FactsW x1 w47 L3 ∧
 ∀ w51, Hid L3 w47 w51 →
 R (.returned (MgW a_0 a_1 a_2 a_3 a_4 a_5 a_6 a_7 a_8 n6 n7 n8 n9 n10 n11 n12 n13 n14 n15 q18 k19 k20 n23 s24 n27 n28 q29 k30 k31 n34 n35 a_27 q38 k39 k40 q43 k44 k45 q48 k49 k50)) w51) :
 Calls Tryz.prog 14 #[.agg #[.int .u8 a_0, .int .u8 a_1, .int .u8 a_2, .int .u32 a_3, .int .u32 a_4, .int .u32 a_5, .int .u32 a_6, .int .u64 a_7, .int .u64 a_8, .int .u8 a_9, .int .u16 a_10, .int .u32 a_11, .int .u8 a_12, .int .u8 a_13, .int .u8 a_14, .int .u8 a_15, .int .u8 a_16, .int .u8 a_17, .int .u8 a_18, .slice a_19 a_19l a_19c, .int .u8 a_20, .string a_21, .int .u8 a_22, .int .u32 a_23, .slice a_24 a_24l a_24c, .int .u8 a_25, .int .u16 a_26, .bool a_27, .slice a_28 a_28l a_28c, .slice a_29 a_29l a_29c, .slice a_30 a_30l a_30c]] w R :=
 calls_of { isLoc := [1, 2], sym := [], loops := [], joins := [], stored := [(1, [2])] } Tryz.func14 (by kernel_rfl) h
end Go.Proofs
/- The verification conditions of this seat's functions, as the engine has them: printed by a program of the bench; checked by the kernel. -/
namespace Go.Proofs
open Go X
theorem x_WireBytes (a_0 a_1 a_2 a_3 a_4 a_5 a_6 a_7 a_8 a_9 a_10 a_11 a_12 a_13 a_14 a_15 a_16 a_17 a_18 : Int) (a_19 : Option Addr) (a_19l a_19c : Nat) (a_20 : Int) (a_21 : ByteArray) (a_22 a_23 : Int) (a_24 : Option Addr) (a_24l a_24c : Nat) (a_25 a_26 : Int) (a_27 : Bool) (a_28 : Option Addr) (a_28l a_28c : Nat) (a_29 : Option Addr) (a_29l a_29c : Nat) (a_30 : Option Addr) (a_30l a_30c : Nat) (b : Option Addr) (bl bc : Nat) (w : World) (R : Ending → World → Prop) (h :
 ∀ w1 L2, Hid [] w w1 →
 NewL w.heap.size [] w w1 L2 →
 CallX Tryz.prog 5 #[(MgW a_0 a_1 a_2 a_3 a_4 a_5 a_6 a_7 a_8 a_9 a_10 a_11 a_12 a_13 a_14 a_15 a_16 a_17 a_18 a_19 a_19l a_19c a_20 a_21 a_22 a_23 a_24 a_24l a_24c a_25 a_26 a_27 a_28 a_28l a_28c a_29 a_29l a_29c a_30 a_30l a_30c)] w1 fun e3 w4 =>
 ∃ b5, e3 = .returned (.bool b5) ∧
 Kept L2 w1 w4 ∧
 if ((!b5) || decide (((bl : Nat) : Int) > 4000)) = true then
 CallX Tryz.prog 6 #[] w4 fun e294 w295 =>
 ∃ b296, e294 = .returned (.bool b296) ∧
 Kept L2 w4 w295 ∧
 R (.returned (.bool b296)) w295
 else
 CallX Tryz.prog 8 #[(MgW a_0 a_1 a_2 a_3 a_4 a_5 a_6 a_7 a_8 a_9 a_10 a_11 a_12 a_13 a_14 a_15 a_16 a_17 a_18 a_19 a_19l a_19c a_20 a_21 a_22 a_23 a_24 a_24l a_24c a_25 a_26 a_27 a_28 a_28l a_28c a_29 a_29l a_29c a_30 a_30l a_30c)] w4 fun e6 w7 =>
 ∃ n8 n9 n10 n11 n12 n13 n14 n15 n16 n17 n18 n19 n20 n21 n22 n23 n24 n25 n26 q27 k28 k29 n30 s31 n32 n33 q34 k35 k36 n37 n38 b39 q40 k41 k42 q43 k44 k45 q46 k47 k48, e6 = .returned (MgW n8 n9 n10 n11 n12 n13 n14 n15 n16 n17 n18 n19 n20 n21 n22 n23 n24 n25 n26 q27 k28 k29 n30 s31 n32 n33 q34 k35 k36 n37 n38 b39 q40 k41 k42 q43 k44 k45 q46 k47 k48) ∧
 Kept L2 w4 w7 ∧
 CallX Tryz.prog 7 #[(MgW n8 n9 n10 n11 n12 n13 n14 n15 n16 n17 n18 n19 n20 n21 n22 n23 n24 n25 n26 q27 k28 k29 n30 s31 n32 n33 q34 k35 k36 n37 n38 b39 q40 k41 k42 q43 k44 k45 q46 k47 k48)] w7 fun e49 w50 =>
 ∃ q51 k52 k53 n54, e49 = .returned (.tuple #[.slice q51 k52 k53, .int .i64 n54]) ∧
 Kept L2 w7 w50 ∧
 CallX Tryz.prog 9 #[(MgW a_0 a_1 a_2 a_3 a_4 a_5 a_6 a_7 a_8 a_9 a_10 a_11 a_12 a_13 a_14 a_15 a_16 a_17 a_18 a_19 a_19l a_19c a_20 a_21 a_22 a_23 a_24 a_24l a_24c a_25 a_26 a_27 a_28 a_28l a_28c a_29 a_29l a_29c a_30 a_30l a_30c)] w50 fun e55 w56 =>
 ∃ q57 k58 k59 n60, e55 = .returned (.tuple #[.slice q57 k58 k59, .int .i64 n60]) ∧
 Kept L2 w50 w56 ∧
 ∃ q61 k62 k63 w64, (Sem.run Tryz.prog (Go.Builtin.append_ #[41, 41] 41 #[.slice (some ⟨w56.heap.size, 0, none⟩) 0 0, .slice b bl bc]) (w56.alloc (.cells #[] 5)) = .ok (.slice q61 k62 k63) w64) ∧
 (Kept L2 (w56.alloc (.cells #[] 5)) w64) ∧
 CallX Tryz.prog 10 #[.slice q61 k62 k63] w64 fun e65 w66 =>
 ∃ n67 n68 n69 n70 n71 n72 n73 n74 n75 n76 n77 n78 n79 n80 n81 n82 n83 n84 n85 q86 k87 k88 n89 s90 n91 n92 q93 k94 k95 n96 n97 b98 q99 k100 k101 q102 k103 k104 q105 k106 k107 n108, e65 = .returned (.tuple #[(MgW n67 n68 n69 n70 n71 n72 n73 n74 n75 n76 n77 n78 n79 n80 n81 n82 n83 n84 n85 q86 k87 k88 n89 s90 n91 n92 q93 k94 k95 n96 n97 b98 q99 k100 k101 q102 k103 k104 q105 k106 k107), .int .i64 n108]) ∧
 Kept L2 w64 w66 ∧
 ∀ w109 L110, Hid L2 w66 w109 →
 NewL w.heap.size L2 w66 w109 L110 →
 CallX Tryz.prog 11 #[.slice b bl bc] w109 fun e111 w112 =>
 ∃ n113 n114 n115 n116 n117 n118 n119 n120 n121 n122 n123 n124 n125 n126 n127 n128 n129 n130 n131 q132 k133 k134 n135 s136 n137 n138 q139 k140 k141 n142 n143 b144 q145 k146 k147 q148 k149 k150 q151 k152 k153 n154, e111 = .returned (.tuple #[(MgW n113 n114 n115 n116 n117 n118 n119 n120 n121 n122 n123 n124 n125 n126 n127 n128 n129 n130 n131 q132 k133 k134 n135 s136 n137 n138 q139 k140 k141 n142 n143 b144 q145 k146 k147 q148 k149 k150 q151 k152 k153), .int .i64 n154]) ∧
 Kept L110 w109 w112 ∧
 ∃ x155, (FactsW x155 w112 L110) ∧
 (∀ w156 L157, Hid L110 w112 w156 →
 NewL w.heap.size L110 w112 w156 L157 →
 ∃ s158 w159, (Sem.run Tryz.prog (Go.convert 41 9 (.slice q51 k52 k53)) w156 = .ok (.string s158) w159) ∧
 Kept L157 w156 w159 ∧
 FactsW x155 w159 L157 ∧
 ∃ x160, (FactsW x160 w159 L157) ∧
 (∀ x161, (x161 ∈ x155) →
 x161 ∈ x160) ∧
 ∃ s162 w163, (Sem.run Tryz.prog (Go.convert 41 9 (.slice q57 k58 k59)) w159 = .ok (.string s162) w163) ∧
 Kept L157 w159 w163 ∧
 FactsW x160 w163 L157 ∧
 ∃ x164, (FactsW x164 w163 L157) ∧
 (∀ x165, (x165 ∈ x160) →
 x165 ∈ x164) ∧
 if (((s158.toList) == (s162.toList)) == true) = true then
 CallX Tryz.prog 12 #[.int .i64 n54] w163 fun e168 w169 =>
 ∃ n170, e168 = .returned (.int .i64 n170) ∧
 Kept L157 w163 w169 ∧
 FactsW x164 w169 L157 ∧
 ∃ x171, (FactsW x171 w169 L157) ∧
 (∀ x172, (x172 ∈ x164) →
 x172 ∈ x171) ∧
 if ((true && (n170 == n60)) == true) = true then
 CallX Tryz.prog 14 #[(MgW n67 n68 n69 n70 n71 n72 n73 n74 n75 n76 n77 n78 n79 n80 n81 n82 n83 n84 n85 q86 k87 k88 n89 s90 n91 n92 q93 k94 k95 n96 n97 b98 q99 k100 k101 q102 k103 k104 q105 k106 k107)] w169 fun e173 w174 =>
 ∃ n175 n176 n177 n178 n179 n180 n181 n182 n183 n184 n185 n186 n187 n188 n189 n190 n191 n192 n193 q194 k195 k196 n197 s198 n199 n200 q201 k202 k203 n204 n205 b206 q207 k208 k209 q210 k211 k212 q213 k214 k215, e173 = .returned (MgW n175 n176 n177 n178 n179 n180 n181 n182 n183 n184 n185 n186 n187 n188 n189 n190 n191 n192 n193 q194 k195 k196 n197 s198 n199 n200 q201 k202 k203 n204 n205 b206 q207 k208 k209 q210 k211 k212 q213 k214 k215) ∧
 Kept L157 w169 w174 ∧
 FactsW x171 w174 L157 ∧
 CallX Tryz.prog 13 #[(MgW n175 n176 n177 n178 n179 n180 n181 n182 n183 n184 n185 n186 n187 n188 n189 n190 n191 n192 n193 q194 k195 k196 n197 s198 n199 n200 q201 k202 k203 n204 n205 b206 q207 k208 k209 q210 k211 k212 q213 k214 k215), (MgW n113 n114 n115 n116 n117 n118 n119 n120 n121 n122 n123 n124 n125 n126 n127 n128 n129 n130 n131 q132 k133 k134 n135 s136 n137 n138 q139 k140 k141 n142 n143 b144 q145 k146 k147 q148 k149 k150 q151 k152 k153)] w174 fun e216 w217 =>
 ∃ b218, e216 = .returned (.bool b218) ∧
 Kept L157 w174 w217 ∧
 FactsW x171 w217 L157 ∧
 if ((true && b218) == true) = true then
 CallX Tryz.prog 12 #[.int .i64 n108] w217 fun e219 w220 =>
 ∃ n221, e219 = .returned (.int .i64 n221) ∧
 Kept L157 w217 w220 ∧
 FactsW x171 w220 L157 ∧
 if ((true && (n221 == n154)) == true) = true then
 CallX Tryz.prog 6 #[] w220 fun e222 w223 =>
 ∃ b224, e222 = .returned (.bool b224) ∧
 Kept L157 w220 w223 ∧
 FactsW x171 w223 L157 ∧
 R (.returned (.bool (true && b224))) w223
 else
 R (.returned (.bool false)) w220
 else
 R (.returned (.bool false)) w217
 else
 R (.returned (.bool false)) w169
 else
 ∃ x166, (FactsW x166 w163 L157) ∧
 (∀ x167, (x167 ∈ x164) →
 x167 ∈ x166) ∧
 R (.returned (.bool false)) w163) ∧
 ∀ w225 L226, Hid L110 w112 w225 →
 NewL w.heap.size L110 w112 w225 L226 →
 ∃ s227 w228, (Sem.run Tryz.prog (Go.convert 41 9 (.slice q57 k58 k59)) w225 = .ok (.string s227) w228) ∧
 Kept L226 w225 w228 ∧
 FactsW x155 w228 L226 ∧
 ∃ x229, (FactsW x229 w228 L226) ∧
 (∀ x230, (x230 ∈ x155) →
 x230 ∈ x229) ∧
 ∃ s231 w232, (Sem.run Tryz.prog (Go.convert 41 9 (.slice q51 k52 k53)) w228 = .ok (.string s231) w232) ∧
 Kept L226 w228 w232 ∧
 FactsW x229 w232 L226 ∧
 ∃ x233, (FactsW x233 w232 L226) ∧
 (∀ x234, (x234 ∈ x229) →
 x234 ∈ x233) ∧
 if (((s231.toList) == (s227.toList)) == true) = true then
 CallX Tryz.prog 12 #[.int .i64 n54] w232 fun e237 w238 =>
 ∃ n239, e237 = .returned (.int .i64 n239) ∧
 Kept L226 w232 w238 ∧
 FactsW x233 w238 L226 ∧
 ∃ x240, (FactsW x240 w238 L226) ∧
 (∀ x241, (x241 ∈ x233) →
 x241 ∈ x240) ∧
 if ((true && (n239 == n60)) == true) = true then
 CallX Tryz.prog 14 #[(MgW n67 n68 n69 n70 n71 n72 n73 n74 n75 n76 n77 n78 n79 n80 n81 n82 n83 n84 n85 q86 k87 k88 n89 s90 n91 n92 q93 k94 k95 n96 n97 b98 q99 k100 k101 q102 k103 k104 q105 k106 k107)] w238 fun e242 w243 =>
 ∃ n244 n245 n246 n247 n248 n249 n250 n251 n252 n253 n254 n255 n256 n257 n258 n259 n260 n261 n262 q263 k264 k265 n266 s267 n268 n269 q270 k271 k272 n273 n274 b275 q276 k277 k278 q279 k280 k281 q282 k283 k284, e242 = .returned (MgW n244 n245 n246 n247 n248 n249 n250 n251 n252 n253 n254 n255 n256 n257 n258 n259 n260 n261 n262 q263 k264 k265 n266 s267 n268 n269 q270 k271 k272 n273 n274 b275 q276 k277 k278 q279 k280 k281 q282 k283 k284) ∧
 Kept L226 w238 w243 ∧
 FactsW x240 w243 L226 ∧
 CallX Tryz.prog 13 #[(MgW n244 n245 n246 n247 n248 n249 n250 n251 n252 n253 n254 n255 n256 n257 n258 n259 n260 n261 n262 q263 k264 k265 n266 s267 n268 n269 q270 k271 k272 n273 n274 b275 q276 k277 k278 q279 k280 k281 q282 k283 k284), (MgW n113 n114 n115 n116 n117 n118 n119 n120 n121 n122 n123 n124 n125 n126 n127 n128 n129 n130 n131 q132 k133 k134 n135 s136 n137 n138 q139 k140 k141 n142 n143 b144 q145 k146 k147 q148 k149 k150 q151 k152 k153)] w243 fun e285 w286 =>
 ∃ b287, e285 = .returned (.bool b287) ∧
 Kept L226 w243 w286 ∧
 FactsW x240 w286 L226 ∧
 if ((true && b287) == true) = true then
 CallX Tryz.prog 12 #[.int .i64 n108] w286 fun e288 w289 =>
 ∃ n290, e288 = .returned (.int .i64 n290) ∧
 Kept L226 w286 w289 ∧
 FactsW x240 w289 L226 ∧
 if ((true && (n290 == n154)) == true) = true then
 CallX Tryz.prog 6 #[] w289 fun e291 w292 =>
 ∃ b293, e291 = .returned (.bool b293) ∧
 Kept L226 w289 w292 ∧
 FactsW x240 w292 L226 ∧
 R (.returned (.bool (true && b293))) w292
 else
 R (.returned (.bool false)) w289
 else
 R (.returned (.bool false)) w286
 else
 R (.returned (.bool false)) w238
 else
 ∃ x235, (FactsW x235 w232 L226) ∧
 (∀ x236, (x236 ∈ x233) →
 x236 ∈ x235) ∧
 R (.returned (.bool false)) w232) :
 Calls Tryz.prog 3 #[.agg #[.int .u8 a_0, .int .u8 a_1, .int .u8 a_2, .int .u32 a_3, .int .u32 a_4, .int .u32 a_5, .int .u32 a_6, .int .u64 a_7, .int .u64 a_8, .int .u8 a_9, .int .u16 a_10, .int .u32 a_11, .int .u8 a_12, .int .u8 a_13, .int .u8 a_14, .int .u8 a_15, .int .u8 a_16, .int .u8 a_17, .int .u8 a_18, .slice a_19 a_19l a_19c, .int .u8 a_20, .string a_21, .int .u8 a_22, .int .u32 a_23, .slice a_24 a_24l a_24c, .int .u8 a_25, .int .u16 a_26, .bool a_27, .slice a_28 a_28l a_28c, .slice a_29 a_29l a_29c, .slice a_30 a_30l a_30c], .slice b bl bc] w R :=
 calls_of { isLoc := [2, 9, 11], sym := [], loops := [], joins := [] } Tryz.func3 (by kernel_rfl) h
end Go.Proofs
