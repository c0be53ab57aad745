import Derived.Test.YtmfmihkjkgifiaaXFn
import Derived.Test.YtmfmihkjkgifiaaProg
/- The verification conditions of this seat's functions, as the engine has them: printed by a program of the bench; checked by the kernel. -/
set_option maxRecDepth 100000
set_option linter.unusedVariables false
namespace Go.Proofs
open Go
abbrev fn_gemotlaw10_light : Nat := 7
theorem x_gemotlaw10_light (a : Option Addr) (al ac : Nat) (w : World) (R : Ending → World → Prop) (h :
  ∃ x1 : Int → Int → World → List Nat → Prop, ∃ x2 : Int → Int → World → Nat, (x1 5000 0 w []) ∧
  ∀ n3 : Int, ∀ n4 : Int, ∀ w5 : World, ∀ L6 : List Nat, (X.LF (w).heap.size w5 L6) →
  (x1 n3 n4 w5 L6) →
  if (decide (n4 < ((al : Nat) : Int)) && decide (n4 < 200)) = true then
   ((0 : Int) ≤ n4) ∧
   (n4 < ((al : Nat) : Int)) ∧
   X.onSome (a) fun p7 =>
   ∃ q8 : Option Addr, ∃ k9 : Nat, ∃ k10 : Nat, (World.cell? w5 ((p7.add ((n4).toNat * 11)).add 2) = some (.slice (q8) k9 k10)) ∧
   ((0 : Int) ≤ n4) ∧
   (n4 < ((al : Nat) : Int)) ∧
   X.onSome (a) fun p11 =>
   ∃ q12 : Option Addr, ∃ k13 : Nat, ∃ k14 : Nat, (World.cell? w5 ⟨((p11.add (n4.toNat * 11)).block), ((((p11.add (n4.toNat * 11)).off) + 3) + 7), none⟩ = some (.slice (q12) k13 k14)) ∧
   ∀ w15 : World, (X.Hid [] w5 w15) →
   (x1 (IntKind.wrap .i64 ((IntKind.wrap .i64 (n3 - (if (6000 : Int) < ((k9 : Nat) : Int) then 6000 else ((k9 : Nat) : Int)))) - (if (6000 : Int) < ((k13 : Nat) : Int) then 6000 else ((k13 : Nat) : Int)))) (IntKind.wrap .i64 (n4 + 1)) w15 []) ∧
   Nat.le ((x2 (IntKind.wrap .i64 ((IntKind.wrap .i64 (n3 - (if (6000 : Int) < ((k9 : Nat) : Int) then 6000 else ((k9 : Nat) : Int)))) - (if (6000 : Int) < ((k13 : Nat) : Int) then 6000 else ((k13 : Nat) : Int)))) (IntKind.wrap .i64 (n4 + 1)) w15) + 1) (x2 n3 n4 w5)
  else
   R (.returned (.bool (decide (((al : Nat) : Int) ≤ 120) && decide (n3 ≥ 0)))) w5) :
    Calls Try.prog 7 #[.slice a al ac] w R :=
  X.calls_of { isLoc := [], sym := [], loops := [(3, .inv [(3, .int .i64), (4, .int .i64)] [] true)], joins := [] } Try.func7 (by kernel_rfl) h
abbrev fn_gemotlaw10_LinkPlays : Nat := 3
theorem x_gemotlaw10_LinkPlays (a_0 a_1 b_0 b_1 c d : Int) (e : Option Addr) (el ec : Nat) (w : World) (R : Ending → World → Prop) (h :
  ∀ w1 : World, ∀ L2 : List Nat, (X.Hid [] w w1) →
  (X.NewL (w).heap.size [] w w1 L2) →
  X.CallX Try.prog 7 #[(.slice (e) el ec)] w1 fun e3 w4 =>
   ∃ b5 : Bool, (e3 = .returned (.bool b5)) ∧
   (X.Kept L2 w1 w4) ∧
   if ((!b5) == false) = true then
    X.CallX Try.prog 8 #[] w4 fun e9 w10 =>
     ∃ b11 : Bool, (e9 = .returned (.bool b11)) ∧
     (X.Kept L2 w4 w10) ∧
     if (false || (!b11)) = true then
      X.CallX Try.prog 8 #[] w10 fun e467 w468 =>
       ∃ b469 : Bool, (e467 = .returned (.bool b469)) ∧
       (X.Kept L2 w10 w468) ∧
       R (.returned (.bool b469)) w468
     else
      ∃ x12 : X.Facts, (X.FactsW x12 w10 (L2)) ∧
      ∀ w13 : World, ∀ L14 : List Nat, (X.Hid (L2) w10 w13) →
      (X.NewL (w).heap.size (L2) w10 w13 L14) →
      X.CallX Try.prog 10 #[(.agg #[(.int .u8 a_0), (.int .u16 a_1)])] w13 fun e15 w16 =>
       ∃ n17 : Int, ∃ n18 : Int, (e15 = .returned (.agg #[(.int .u8 n17), (.int .u16 n18)])) ∧
       (X.Kept L14 w13 w16) ∧
       (X.FactsW x12 w16 (L14)) ∧
       X.CallX Try.prog 10 #[(.agg #[(.int .u8 b_0), (.int .u16 b_1)])] w16 fun e19 w20 =>
        ∃ n21 : Int, ∃ n22 : Int, (e19 = .returned (.agg #[(.int .u8 n21), (.int .u16 n22)])) ∧
        (X.Kept L14 w16 w20) ∧
        (X.FactsW x12 w20 (L14)) ∧
        X.CallX Try.prog 9 #[(.agg #[(.int .u8 n17), (.int .u16 n18)]), (.agg #[(.int .u8 n21), (.int .u16 n22)]), (.int .u64 c), (.int .i64 d)] w20 fun e23 w24 =>
         ∃ q25 : Option Addr, (e23 = .returned (.pointer (q25))) ∧
         (X.Kept L14 w20 w24) ∧
         (X.FactsW x12 w24 (L14)) ∧
         X.CallX Try.prog 11 #[(.agg #[(.int .u8 a_0), (.int .u16 a_1)]), (.agg #[(.int .u8 b_0), (.int .u16 b_1)]), (.int .u64 c), (.int .i64 d)] w24 fun e26 w27 =>
          ∃ q28 : Option Addr, (e26 = .returned (.pointer (q28))) ∧
          (X.Kept L14 w24 w27) ∧
          ∃ x29 : Int → World → List Nat → Prop, ∃ x30 : Int → World → Nat, (x29 0 w27 (L14)) ∧
          ∀ n31 : Int, ∀ w32 : World, ∀ L33 : List Nat, (X.LF (w).heap.size w32 L33) →
          (x29 n31 w32 L33) →
          if (decide (n31 < ((el : Nat) : Int))) = true then
           ((0 : Int) ≤ n31) ∧
           (n31 < ((el : Nat) : Int)) ∧
           X.onSome (e) fun p34 =>
           ∃ n35 : Int, ∃ n36 : Int, ∃ q37 : Option Addr, ∃ k38 : Nat, ∃ k39 : Nat, ∃ n40 : Int, ∃ n41 : Int, ∃ n42 : Int, ∃ n43 : Int, ∃ n44 : Int, ∃ n45 : Int, ∃ b46 : Bool, ∃ q47 : Option Addr, ∃ k48 : Nat, ∃ k49 : Nat, (X.Cells w32 (p34.add ((n31).toNat * 11)) [(.int .i64 n35), (.int .i64 n36), (.slice (q37) k38 k39), (.int .u8 n40), (.int .u16 n41), (.int .u8 n42), (.int .u16 n43), (.int .u64 n44), (.int .u64 n45), (.bool b46), (.slice (q47) k48 k49)]) ∧
           (¬ (((p34.add (n31.toNat * 11)).block) ∈ L33)) ∧
           ∃ x50 : Bool → Int → Int → Option Addr → Nat → Nat → Int → Int → Int → Int → Int → Int → Bool → Option Addr → Nat → Nat → World → List Nat → Prop, (if (n35 == 0) = true then
             if (n35 == 0) = true then
              ∃ x327 : X.Facts, (X.FactsW x327 w32 (L33)) ∧
              ∀ w328 : World, ∀ L329 : List Nat, (X.Hid (L33) w32 w328) →
              (X.NewL (w).heap.size (L33) w32 w328 L329) →
              X.CallX Try.prog 13 #[(.pointer (q25)), (.slice (q37) k38 k39)] w328 fun e330 w331 =>
               ∃ n332 : Int, (e330 = .returned (.int .i64 n332)) ∧
               (X.Kept L329 w328 w331) ∧
               (X.FactsW x327 w331 (L329)) ∧
               X.CallX Try.prog 12 #[(.int .i64 n332)] w331 fun e333 w334 =>
                ∃ n335 : Int, (e333 = .returned (.int .i64 n335)) ∧
                (X.Kept L329 w331 w334) ∧
                (X.FactsW x327 w334 (L329)) ∧
                X.CallX Try.prog 14 #[(.pointer (q28)), (.slice (q37) k38 k39)] w334 fun e336 w337 =>
                 ∃ n338 : Int, (e336 = .returned (.int .i64 n338)) ∧
                 (X.Kept L329 w334 w337) ∧
                 (X.FactsW x327 w337 (L329)) ∧
                 (([(.int .u8 a_0), (.int .u16 a_1)] : List Value) = [(.int .u8 a_0), (.int .u16 a_1)]) ∧
                 (([(.int .u8 b_0), (.int .u16 b_1)] : List Value) = [(.int .u8 b_0), (.int .u16 b_1)]) ∧
                 x50 (n335 == n338) n35 n36 q37 k38 k39 n40 n41 n42 n43 n44 n45 b46 q47 k48 k49 w337 (L329)
             else
              if (n35 == 2) = true then
               ∃ x311 : X.Facts, (X.FactsW x311 w32 (L33)) ∧
               ∀ w312 : World, ∀ L313 : List Nat, (X.Hid (L33) w32 w312) →
               (X.NewL (w).heap.size (L33) w32 w312 L313) →
               X.CallX Try.prog 16 #[(.pointer (q25)), (.int .i64 n36)] w312 fun e314 w315 =>
                ∃ q316 : Option Addr, ∃ k317 : Nat, ∃ k318 : Nat, (e314 = .returned (.slice (q316) k317 k318)) ∧
                (X.Kept L313 w312 w315) ∧
                (X.FactsW x311 w315 (L313)) ∧
                X.CallX Try.prog 17 #[(.pointer (q28)), (.int .i64 n36)] w315 fun e319 w320 =>
                 ∃ q321 : Option Addr, ∃ k322 : Nat, ∃ k323 : Nat, (e319 = .returned (.slice (q321) k322 k323)) ∧
                 (X.Kept L313 w315 w320) ∧
                 (X.FactsW x311 w320 (L313)) ∧
                 X.CallX Try.prog 15 #[(.slice (q316) k317 k318), (.slice (q321) k322 k323)] w320 fun e324 w325 =>
                  ∃ b326 : Bool, (e324 = .returned (.bool b326)) ∧
                  (X.Kept L313 w320 w325) ∧
                  (X.FactsW x311 w325 (L313)) ∧
                  (([(.int .u8 a_0), (.int .u16 a_1)] : List Value) = [(.int .u8 a_0), (.int .u16 a_1)]) ∧
                  (([(.int .u8 b_0), (.int .u16 b_1)] : List Value) = [(.int .u8 b_0), (.int .u16 b_1)]) ∧
                  x50 b326 n35 n36 q37 k38 k39 n40 n41 n42 n43 n44 n45 b46 q47 k48 k49 w325 (L313)
              else
               if (n35 == 3) = true then
                if (n35 == 3) = true then
                 if (n35 == 4) = true then
                  ∃ x283 : X.Facts, (X.FactsW x283 w32 (L33)) ∧
                  ∀ w284 : World, ∀ L285 : List Nat, (X.Hid (L33) w32 w284) →
                  (X.NewL (w).heap.size (L33) w32 w284 L285) →
                  X.CallX Try.prog 20 #[(.agg #[(.int .u8 b_0), (.int .u16 b_1), (.int .u8 a_0), (.int .u16 a_1), (.int .u64 n44), (.int .u64 n45), (.bool b46), (.slice (q47) k48 k49)])] w284 fun e286 w287 =>
                   ∃ n288 : Int, ∃ n289 : Int, ∃ n290 : Int, ∃ n291 : Int, ∃ n292 : Int, ∃ n293 : Int, ∃ b294 : Bool, ∃ q295 : Option Addr, ∃ k296 : Nat, ∃ k297 : Nat, (e286 = .returned (.agg #[(.int .u8 n288), (.int .u16 n289), (.int .u8 n290), (.int .u16 n291), (.int .u64 n292), (.int .u64 n293), (.bool b294), (.slice (q295) k296 k297)])) ∧
                   (X.Kept L285 w284 w287) ∧
                   (X.FactsW x283 w287 (L285)) ∧
                   X.CallX Try.prog 19 #[(.pointer (q25)), (.agg #[(.int .u8 n288), (.int .u16 n289), (.int .u8 n290), (.int .u16 n291), (.int .u64 n292), (.int .u64 n293), (.bool b294), (.slice (q295) k296 k297)])] w287 fun e298 w299 =>
                    ∃ q300 : Option Addr, ∃ k301 : Nat, ∃ k302 : Nat, (e298 = .returned (.slice (q300) k301 k302)) ∧
                    (X.Kept L285 w287 w299) ∧
                    (X.FactsW x283 w299 (L285)) ∧
                    X.CallX Try.prog 21 #[(.pointer (q28)), (.agg #[(.int .u8 b_0), (.int .u16 b_1), (.int .u8 a_0), (.int .u16 a_1), (.int .u64 n44), (.int .u64 n45), (.bool b46), (.slice (q47) k48 k49)])] w299 fun e303 w304 =>
                     ∃ q305 : Option Addr, ∃ k306 : Nat, ∃ k307 : Nat, (e303 = .returned (.slice (q305) k306 k307)) ∧
                     (X.Kept L285 w299 w304) ∧
                     (X.FactsW x283 w304 (L285)) ∧
                     X.CallX Try.prog 18 #[(.slice (q300) k301 k302), (.slice (q305) k306 k307)] w304 fun e308 w309 =>
                      ∃ b310 : Bool, (e308 = .returned (.bool b310)) ∧
                      (X.Kept L285 w304 w309) ∧
                      (X.FactsW x283 w309 (L285)) ∧
                      (([(.int .u8 a_0), (.int .u16 a_1)] : List Value) = [(.int .u8 a_0), (.int .u16 a_1)]) ∧
                      (([(.int .u8 b_0), (.int .u16 b_1)] : List Value) = [(.int .u8 b_0), (.int .u16 b_1)]) ∧
                      x50 b310 n35 n36 q37 k38 k39 b_0 b_1 a_0 a_1 n44 n45 b46 q47 k48 k49 w309 (L285)
                 else
                  ∃ x255 : X.Facts, (X.FactsW x255 w32 (L33)) ∧
                  ∀ w256 : World, ∀ L257 : List Nat, (X.Hid (L33) w32 w256) →
                  (X.NewL (w).heap.size (L33) w32 w256 L257) →
                  X.CallX Try.prog 20 #[(.agg #[(.int .u8 n40), (.int .u16 n41), (.int .u8 n42), (.int .u16 n43), (.int .u64 n44), (.int .u64 n45), (.bool b46), (.slice (q47) k48 k49)])] w256 fun e258 w259 =>
                   ∃ n260 : Int, ∃ n261 : Int, ∃ n262 : Int, ∃ n263 : Int, ∃ n264 : Int, ∃ n265 : Int, ∃ b266 : Bool, ∃ q267 : Option Addr, ∃ k268 : Nat, ∃ k269 : Nat, (e258 = .returned (.agg #[(.int .u8 n260), (.int .u16 n261), (.int .u8 n262), (.int .u16 n263), (.int .u64 n264), (.int .u64 n265), (.bool b266), (.slice (q267) k268 k269)])) ∧
                   (X.Kept L257 w256 w259) ∧
                   (X.FactsW x255 w259 (L257)) ∧
                   X.CallX Try.prog 19 #[(.pointer (q25)), (.agg #[(.int .u8 n260), (.int .u16 n261), (.int .u8 n262), (.int .u16 n263), (.int .u64 n264), (.int .u64 n265), (.bool b266), (.slice (q267) k268 k269)])] w259 fun e270 w271 =>
                    ∃ q272 : Option Addr, ∃ k273 : Nat, ∃ k274 : Nat, (e270 = .returned (.slice (q272) k273 k274)) ∧
                    (X.Kept L257 w259 w271) ∧
                    (X.FactsW x255 w271 (L257)) ∧
                    X.CallX Try.prog 21 #[(.pointer (q28)), (.agg #[(.int .u8 n40), (.int .u16 n41), (.int .u8 n42), (.int .u16 n43), (.int .u64 n44), (.int .u64 n45), (.bool b46), (.slice (q47) k48 k49)])] w271 fun e275 w276 =>
                     ∃ q277 : Option Addr, ∃ k278 : Nat, ∃ k279 : Nat, (e275 = .returned (.slice (q277) k278 k279)) ∧
                     (X.Kept L257 w271 w276) ∧
                     (X.FactsW x255 w276 (L257)) ∧
                     X.CallX Try.prog 18 #[(.slice (q272) k273 k274), (.slice (q277) k278 k279)] w276 fun e280 w281 =>
                      ∃ b282 : Bool, (e280 = .returned (.bool b282)) ∧
                      (X.Kept L257 w276 w281) ∧
                      (X.FactsW x255 w281 (L257)) ∧
                      (([(.int .u8 a_0), (.int .u16 a_1)] : List Value) = [(.int .u8 a_0), (.int .u16 a_1)]) ∧
                      (([(.int .u8 b_0), (.int .u16 b_1)] : List Value) = [(.int .u8 b_0), (.int .u16 b_1)]) ∧
                      x50 b282 n35 n36 q37 k38 k39 n40 n41 n42 n43 n44 n45 b46 q47 k48 k49 w281 (L257)
                else
                 ∀ w253 : World, ∀ L254 : List Nat, (X.Hid (L33) w32 w253) →
                 (X.NewL (w).heap.size (L33) w32 w253 L254) →
                 (([(.int .u8 a_0), (.int .u16 a_1)] : List Value) = [(.int .u8 a_0), (.int .u16 a_1)]) ∧
                 (([(.int .u8 b_0), (.int .u16 b_1)] : List Value) = [(.int .u8 b_0), (.int .u16 b_1)]) ∧
                 x50 true n35 n36 q37 k38 k39 n40 n41 n42 n43 n44 n45 b46 q47 k48 k49 w253 (L254)
               else
                if (n35 == 4) = true then
                 if (n35 == 4) = true then
                  ∃ x225 : X.Facts, (X.FactsW x225 w32 (L33)) ∧
                  ∀ w226 : World, ∀ L227 : List Nat, (X.Hid (L33) w32 w226) →
                  (X.NewL (w).heap.size (L33) w32 w226 L227) →
                  X.CallX Try.prog 20 #[(.agg #[(.int .u8 b_0), (.int .u16 b_1), (.int .u8 a_0), (.int .u16 a_1), (.int .u64 n44), (.int .u64 n45), (.bool b46), (.slice (q47) k48 k49)])] w226 fun e228 w229 =>
                   ∃ n230 : Int, ∃ n231 : Int, ∃ n232 : Int, ∃ n233 : Int, ∃ n234 : Int, ∃ n235 : Int, ∃ b236 : Bool, ∃ q237 : Option Addr, ∃ k238 : Nat, ∃ k239 : Nat, (e228 = .returned (.agg #[(.int .u8 n230), (.int .u16 n231), (.int .u8 n232), (.int .u16 n233), (.int .u64 n234), (.int .u64 n235), (.bool b236), (.slice (q237) k238 k239)])) ∧
                   (X.Kept L227 w226 w229) ∧
                   (X.FactsW x225 w229 (L227)) ∧
                   X.CallX Try.prog 19 #[(.pointer (q25)), (.agg #[(.int .u8 n230), (.int .u16 n231), (.int .u8 n232), (.int .u16 n233), (.int .u64 n234), (.int .u64 n235), (.bool b236), (.slice (q237) k238 k239)])] w229 fun e240 w241 =>
                    ∃ q242 : Option Addr, ∃ k243 : Nat, ∃ k244 : Nat, (e240 = .returned (.slice (q242) k243 k244)) ∧
                    (X.Kept L227 w229 w241) ∧
                    (X.FactsW x225 w241 (L227)) ∧
                    X.CallX Try.prog 21 #[(.pointer (q28)), (.agg #[(.int .u8 b_0), (.int .u16 b_1), (.int .u8 a_0), (.int .u16 a_1), (.int .u64 n44), (.int .u64 n45), (.bool b46), (.slice (q47) k48 k49)])] w241 fun e245 w246 =>
                     ∃ q247 : Option Addr, ∃ k248 : Nat, ∃ k249 : Nat, (e245 = .returned (.slice (q247) k248 k249)) ∧
                     (X.Kept L227 w241 w246) ∧
                     (X.FactsW x225 w246 (L227)) ∧
                     X.CallX Try.prog 18 #[(.slice (q242) k243 k244), (.slice (q247) k248 k249)] w246 fun e250 w251 =>
                      ∃ b252 : Bool, (e250 = .returned (.bool b252)) ∧
                      (X.Kept L227 w246 w251) ∧
                      (X.FactsW x225 w251 (L227)) ∧
                      (([(.int .u8 a_0), (.int .u16 a_1)] : List Value) = [(.int .u8 a_0), (.int .u16 a_1)]) ∧
                      (([(.int .u8 b_0), (.int .u16 b_1)] : List Value) = [(.int .u8 b_0), (.int .u16 b_1)]) ∧
                      x50 b252 n35 n36 q37 k38 k39 b_0 b_1 a_0 a_1 n44 n45 b46 q47 k48 k49 w251 (L227)
                 else
                  ∃ x197 : X.Facts, (X.FactsW x197 w32 (L33)) ∧
                  ∀ w198 : World, ∀ L199 : List Nat, (X.Hid (L33) w32 w198) →
                  (X.NewL (w).heap.size (L33) w32 w198 L199) →
                  X.CallX Try.prog 20 #[(.agg #[(.int .u8 n40), (.int .u16 n41), (.int .u8 n42), (.int .u16 n43), (.int .u64 n44), (.int .u64 n45), (.bool b46), (.slice (q47) k48 k49)])] w198 fun e200 w201 =>
                   ∃ n202 : Int, ∃ n203 : Int, ∃ n204 : Int, ∃ n205 : Int, ∃ n206 : Int, ∃ n207 : Int, ∃ b208 : Bool, ∃ q209 : Option Addr, ∃ k210 : Nat, ∃ k211 : Nat, (e200 = .returned (.agg #[(.int .u8 n202), (.int .u16 n203), (.int .u8 n204), (.int .u16 n205), (.int .u64 n206), (.int .u64 n207), (.bool b208), (.slice (q209) k210 k211)])) ∧
                   (X.Kept L199 w198 w201) ∧
                   (X.FactsW x197 w201 (L199)) ∧
                   X.CallX Try.prog 19 #[(.pointer (q25)), (.agg #[(.int .u8 n202), (.int .u16 n203), (.int .u8 n204), (.int .u16 n205), (.int .u64 n206), (.int .u64 n207), (.bool b208), (.slice (q209) k210 k211)])] w201 fun e212 w213 =>
                    ∃ q214 : Option Addr, ∃ k215 : Nat, ∃ k216 : Nat, (e212 = .returned (.slice (q214) k215 k216)) ∧
                    (X.Kept L199 w201 w213) ∧
                    (X.FactsW x197 w213 (L199)) ∧
                    X.CallX Try.prog 21 #[(.pointer (q28)), (.agg #[(.int .u8 n40), (.int .u16 n41), (.int .u8 n42), (.int .u16 n43), (.int .u64 n44), (.int .u64 n45), (.bool b46), (.slice (q47) k48 k49)])] w213 fun e217 w218 =>
                     ∃ q219 : Option Addr, ∃ k220 : Nat, ∃ k221 : Nat, (e217 = .returned (.slice (q219) k220 k221)) ∧
                     (X.Kept L199 w213 w218) ∧
                     (X.FactsW x197 w218 (L199)) ∧
                     X.CallX Try.prog 18 #[(.slice (q214) k215 k216), (.slice (q219) k220 k221)] w218 fun e222 w223 =>
                      ∃ b224 : Bool, (e222 = .returned (.bool b224)) ∧
                      (X.Kept L199 w218 w223) ∧
                      (X.FactsW x197 w223 (L199)) ∧
                      (([(.int .u8 a_0), (.int .u16 a_1)] : List Value) = [(.int .u8 a_0), (.int .u16 a_1)]) ∧
                      (([(.int .u8 b_0), (.int .u16 b_1)] : List Value) = [(.int .u8 b_0), (.int .u16 b_1)]) ∧
                      x50 b224 n35 n36 q37 k38 k39 n40 n41 n42 n43 n44 n45 b46 q47 k48 k49 w223 (L199)
                else
                 ∀ w195 : World, ∀ L196 : List Nat, (X.Hid (L33) w32 w195) →
                 (X.NewL (w).heap.size (L33) w32 w195 L196) →
                 (([(.int .u8 a_0), (.int .u16 a_1)] : List Value) = [(.int .u8 a_0), (.int .u16 a_1)]) ∧
                 (([(.int .u8 b_0), (.int .u16 b_1)] : List Value) = [(.int .u8 b_0), (.int .u16 b_1)]) ∧
                 x50 true n35 n36 q37 k38 k39 n40 n41 n42 n43 n44 n45 b46 q47 k48 k49 w195 (L196)
            else
             if (n35 == 1) = true then
              ∃ x183 : X.Facts, (X.FactsW x183 w32 (L33)) ∧
              ∀ w184 : World, ∀ L185 : List Nat, (X.Hid (L33) w32 w184) →
              (X.NewL (w).heap.size (L33) w32 w184 L185) →
              X.CallX Try.prog 13 #[(.pointer (q25)), (.slice (q37) k38 k39)] w184 fun e186 w187 =>
               ∃ n188 : Int, (e186 = .returned (.int .i64 n188)) ∧
               (X.Kept L185 w184 w187) ∧
               (X.FactsW x183 w187 (L185)) ∧
               X.CallX Try.prog 12 #[(.int .i64 n188)] w187 fun e189 w190 =>
                ∃ n191 : Int, (e189 = .returned (.int .i64 n191)) ∧
                (X.Kept L185 w187 w190) ∧
                (X.FactsW x183 w190 (L185)) ∧
                X.CallX Try.prog 14 #[(.pointer (q28)), (.slice (q37) k38 k39)] w190 fun e192 w193 =>
                 ∃ n194 : Int, (e192 = .returned (.int .i64 n194)) ∧
                 (X.Kept L185 w190 w193) ∧
                 (X.FactsW x183 w193 (L185)) ∧
                 (([(.int .u8 a_0), (.int .u16 a_1)] : List Value) = [(.int .u8 a_0), (.int .u16 a_1)]) ∧
                 (([(.int .u8 b_0), (.int .u16 b_1)] : List Value) = [(.int .u8 b_0), (.int .u16 b_1)]) ∧
                 x50 (n191 == n194) n35 n36 q37 k38 k39 n40 n41 n42 n43 n44 n45 b46 q47 k48 k49 w193 (L185)
             else
              if (n35 == 2) = true then
               ∃ x167 : X.Facts, (X.FactsW x167 w32 (L33)) ∧
               ∀ w168 : World, ∀ L169 : List Nat, (X.Hid (L33) w32 w168) →
               (X.NewL (w).heap.size (L33) w32 w168 L169) →
               X.CallX Try.prog 16 #[(.pointer (q25)), (.int .i64 n36)] w168 fun e170 w171 =>
                ∃ q172 : Option Addr, ∃ k173 : Nat, ∃ k174 : Nat, (e170 = .returned (.slice (q172) k173 k174)) ∧
                (X.Kept L169 w168 w171) ∧
                (X.FactsW x167 w171 (L169)) ∧
                X.CallX Try.prog 17 #[(.pointer (q28)), (.int .i64 n36)] w171 fun e175 w176 =>
                 ∃ q177 : Option Addr, ∃ k178 : Nat, ∃ k179 : Nat, (e175 = .returned (.slice (q177) k178 k179)) ∧
                 (X.Kept L169 w171 w176) ∧
                 (X.FactsW x167 w176 (L169)) ∧
                 X.CallX Try.prog 15 #[(.slice (q172) k173 k174), (.slice (q177) k178 k179)] w176 fun e180 w181 =>
                  ∃ b182 : Bool, (e180 = .returned (.bool b182)) ∧
                  (X.Kept L169 w176 w181) ∧
                  (X.FactsW x167 w181 (L169)) ∧
                  (([(.int .u8 a_0), (.int .u16 a_1)] : List Value) = [(.int .u8 a_0), (.int .u16 a_1)]) ∧
                  (([(.int .u8 b_0), (.int .u16 b_1)] : List Value) = [(.int .u8 b_0), (.int .u16 b_1)]) ∧
                  x50 b182 n35 n36 q37 k38 k39 n40 n41 n42 n43 n44 n45 b46 q47 k48 k49 w181 (L169)
              else
               if (n35 == 3) = true then
                if (n35 == 3) = true then
                 if (n35 == 4) = true then
                  ∃ x139 : X.Facts, (X.FactsW x139 w32 (L33)) ∧
                  ∀ w140 : World, ∀ L141 : List Nat, (X.Hid (L33) w32 w140) →
                  (X.NewL (w).heap.size (L33) w32 w140 L141) →
                  X.CallX Try.prog 20 #[(.agg #[(.int .u8 b_0), (.int .u16 b_1), (.int .u8 a_0), (.int .u16 a_1), (.int .u64 n44), (.int .u64 n45), (.bool b46), (.slice (q47) k48 k49)])] w140 fun e142 w143 =>
                   ∃ n144 : Int, ∃ n145 : Int, ∃ n146 : Int, ∃ n147 : Int, ∃ n148 : Int, ∃ n149 : Int, ∃ b150 : Bool, ∃ q151 : Option Addr, ∃ k152 : Nat, ∃ k153 : Nat, (e142 = .returned (.agg #[(.int .u8 n144), (.int .u16 n145), (.int .u8 n146), (.int .u16 n147), (.int .u64 n148), (.int .u64 n149), (.bool b150), (.slice (q151) k152 k153)])) ∧
                   (X.Kept L141 w140 w143) ∧
                   (X.FactsW x139 w143 (L141)) ∧
                   X.CallX Try.prog 19 #[(.pointer (q25)), (.agg #[(.int .u8 n144), (.int .u16 n145), (.int .u8 n146), (.int .u16 n147), (.int .u64 n148), (.int .u64 n149), (.bool b150), (.slice (q151) k152 k153)])] w143 fun e154 w155 =>
                    ∃ q156 : Option Addr, ∃ k157 : Nat, ∃ k158 : Nat, (e154 = .returned (.slice (q156) k157 k158)) ∧
                    (X.Kept L141 w143 w155) ∧
                    (X.FactsW x139 w155 (L141)) ∧
                    X.CallX Try.prog 21 #[(.pointer (q28)), (.agg #[(.int .u8 b_0), (.int .u16 b_1), (.int .u8 a_0), (.int .u16 a_1), (.int .u64 n44), (.int .u64 n45), (.bool b46), (.slice (q47) k48 k49)])] w155 fun e159 w160 =>
                     ∃ q161 : Option Addr, ∃ k162 : Nat, ∃ k163 : Nat, (e159 = .returned (.slice (q161) k162 k163)) ∧
                     (X.Kept L141 w155 w160) ∧
                     (X.FactsW x139 w160 (L141)) ∧
                     X.CallX Try.prog 18 #[(.slice (q156) k157 k158), (.slice (q161) k162 k163)] w160 fun e164 w165 =>
                      ∃ b166 : Bool, (e164 = .returned (.bool b166)) ∧
                      (X.Kept L141 w160 w165) ∧
                      (X.FactsW x139 w165 (L141)) ∧
                      (([(.int .u8 a_0), (.int .u16 a_1)] : List Value) = [(.int .u8 a_0), (.int .u16 a_1)]) ∧
                      (([(.int .u8 b_0), (.int .u16 b_1)] : List Value) = [(.int .u8 b_0), (.int .u16 b_1)]) ∧
                      x50 b166 n35 n36 q37 k38 k39 b_0 b_1 a_0 a_1 n44 n45 b46 q47 k48 k49 w165 (L141)
                 else
                  ∃ x111 : X.Facts, (X.FactsW x111 w32 (L33)) ∧
                  ∀ w112 : World, ∀ L113 : List Nat, (X.Hid (L33) w32 w112) →
                  (X.NewL (w).heap.size (L33) w32 w112 L113) →
                  X.CallX Try.prog 20 #[(.agg #[(.int .u8 n40), (.int .u16 n41), (.int .u8 n42), (.int .u16 n43), (.int .u64 n44), (.int .u64 n45), (.bool b46), (.slice (q47) k48 k49)])] w112 fun e114 w115 =>
                   ∃ n116 : Int, ∃ n117 : Int, ∃ n118 : Int, ∃ n119 : Int, ∃ n120 : Int, ∃ n121 : Int, ∃ b122 : Bool, ∃ q123 : Option Addr, ∃ k124 : Nat, ∃ k125 : Nat, (e114 = .returned (.agg #[(.int .u8 n116), (.int .u16 n117), (.int .u8 n118), (.int .u16 n119), (.int .u64 n120), (.int .u64 n121), (.bool b122), (.slice (q123) k124 k125)])) ∧
                   (X.Kept L113 w112 w115) ∧
                   (X.FactsW x111 w115 (L113)) ∧
                   X.CallX Try.prog 19 #[(.pointer (q25)), (.agg #[(.int .u8 n116), (.int .u16 n117), (.int .u8 n118), (.int .u16 n119), (.int .u64 n120), (.int .u64 n121), (.bool b122), (.slice (q123) k124 k125)])] w115 fun e126 w127 =>
                    ∃ q128 : Option Addr, ∃ k129 : Nat, ∃ k130 : Nat, (e126 = .returned (.slice (q128) k129 k130)) ∧
                    (X.Kept L113 w115 w127) ∧
                    (X.FactsW x111 w127 (L113)) ∧
                    X.CallX Try.prog 21 #[(.pointer (q28)), (.agg #[(.int .u8 n40), (.int .u16 n41), (.int .u8 n42), (.int .u16 n43), (.int .u64 n44), (.int .u64 n45), (.bool b46), (.slice (q47) k48 k49)])] w127 fun e131 w132 =>
                     ∃ q133 : Option Addr, ∃ k134 : Nat, ∃ k135 : Nat, (e131 = .returned (.slice (q133) k134 k135)) ∧
                     (X.Kept L113 w127 w132) ∧
                     (X.FactsW x111 w132 (L113)) ∧
                     X.CallX Try.prog 18 #[(.slice (q128) k129 k130), (.slice (q133) k134 k135)] w132 fun e136 w137 =>
                      ∃ b138 : Bool, (e136 = .returned (.bool b138)) ∧
                      (X.Kept L113 w132 w137) ∧
                      (X.FactsW x111 w137 (L113)) ∧
                      (([(.int .u8 a_0), (.int .u16 a_1)] : List Value) = [(.int .u8 a_0), (.int .u16 a_1)]) ∧
                      (([(.int .u8 b_0), (.int .u16 b_1)] : List Value) = [(.int .u8 b_0), (.int .u16 b_1)]) ∧
                      x50 b138 n35 n36 q37 k38 k39 n40 n41 n42 n43 n44 n45 b46 q47 k48 k49 w137 (L113)
                else
                 ∀ w109 : World, ∀ L110 : List Nat, (X.Hid (L33) w32 w109) →
                 (X.NewL (w).heap.size (L33) w32 w109 L110) →
                 (([(.int .u8 a_0), (.int .u16 a_1)] : List Value) = [(.int .u8 a_0), (.int .u16 a_1)]) ∧
                 (([(.int .u8 b_0), (.int .u16 b_1)] : List Value) = [(.int .u8 b_0), (.int .u16 b_1)]) ∧
                 x50 true n35 n36 q37 k38 k39 n40 n41 n42 n43 n44 n45 b46 q47 k48 k49 w109 (L110)
               else
                if (n35 == 4) = true then
                 if (n35 == 4) = true then
                  ∃ x81 : X.Facts, (X.FactsW x81 w32 (L33)) ∧
                  ∀ w82 : World, ∀ L83 : List Nat, (X.Hid (L33) w32 w82) →
                  (X.NewL (w).heap.size (L33) w32 w82 L83) →
                  X.CallX Try.prog 20 #[(.agg #[(.int .u8 b_0), (.int .u16 b_1), (.int .u8 a_0), (.int .u16 a_1), (.int .u64 n44), (.int .u64 n45), (.bool b46), (.slice (q47) k48 k49)])] w82 fun e84 w85 =>
                   ∃ n86 : Int, ∃ n87 : Int, ∃ n88 : Int, ∃ n89 : Int, ∃ n90 : Int, ∃ n91 : Int, ∃ b92 : Bool, ∃ q93 : Option Addr, ∃ k94 : Nat, ∃ k95 : Nat, (e84 = .returned (.agg #[(.int .u8 n86), (.int .u16 n87), (.int .u8 n88), (.int .u16 n89), (.int .u64 n90), (.int .u64 n91), (.bool b92), (.slice (q93) k94 k95)])) ∧
                   (X.Kept L83 w82 w85) ∧
                   (X.FactsW x81 w85 (L83)) ∧
                   X.CallX Try.prog 19 #[(.pointer (q25)), (.agg #[(.int .u8 n86), (.int .u16 n87), (.int .u8 n88), (.int .u16 n89), (.int .u64 n90), (.int .u64 n91), (.bool b92), (.slice (q93) k94 k95)])] w85 fun e96 w97 =>
                    ∃ q98 : Option Addr, ∃ k99 : Nat, ∃ k100 : Nat, (e96 = .returned (.slice (q98) k99 k100)) ∧
                    (X.Kept L83 w85 w97) ∧
                    (X.FactsW x81 w97 (L83)) ∧
                    X.CallX Try.prog 21 #[(.pointer (q28)), (.agg #[(.int .u8 b_0), (.int .u16 b_1), (.int .u8 a_0), (.int .u16 a_1), (.int .u64 n44), (.int .u64 n45), (.bool b46), (.slice (q47) k48 k49)])] w97 fun e101 w102 =>
                     ∃ q103 : Option Addr, ∃ k104 : Nat, ∃ k105 : Nat, (e101 = .returned (.slice (q103) k104 k105)) ∧
                     (X.Kept L83 w97 w102) ∧
                     (X.FactsW x81 w102 (L83)) ∧
                     X.CallX Try.prog 18 #[(.slice (q98) k99 k100), (.slice (q103) k104 k105)] w102 fun e106 w107 =>
                      ∃ b108 : Bool, (e106 = .returned (.bool b108)) ∧
                      (X.Kept L83 w102 w107) ∧
                      (X.FactsW x81 w107 (L83)) ∧
                      (([(.int .u8 a_0), (.int .u16 a_1)] : List Value) = [(.int .u8 a_0), (.int .u16 a_1)]) ∧
                      (([(.int .u8 b_0), (.int .u16 b_1)] : List Value) = [(.int .u8 b_0), (.int .u16 b_1)]) ∧
                      x50 b108 n35 n36 q37 k38 k39 b_0 b_1 a_0 a_1 n44 n45 b46 q47 k48 k49 w107 (L83)
                 else
                  ∃ x53 : X.Facts, (X.FactsW x53 w32 (L33)) ∧
                  ∀ w54 : World, ∀ L55 : List Nat, (X.Hid (L33) w32 w54) →
                  (X.NewL (w).heap.size (L33) w32 w54 L55) →
                  X.CallX Try.prog 20 #[(.agg #[(.int .u8 n40), (.int .u16 n41), (.int .u8 n42), (.int .u16 n43), (.int .u64 n44), (.int .u64 n45), (.bool b46), (.slice (q47) k48 k49)])] w54 fun e56 w57 =>
                   ∃ n58 : Int, ∃ n59 : Int, ∃ n60 : Int, ∃ n61 : Int, ∃ n62 : Int, ∃ n63 : Int, ∃ b64 : Bool, ∃ q65 : Option Addr, ∃ k66 : Nat, ∃ k67 : Nat, (e56 = .returned (.agg #[(.int .u8 n58), (.int .u16 n59), (.int .u8 n60), (.int .u16 n61), (.int .u64 n62), (.int .u64 n63), (.bool b64), (.slice (q65) k66 k67)])) ∧
                   (X.Kept L55 w54 w57) ∧
                   (X.FactsW x53 w57 (L55)) ∧
                   X.CallX Try.prog 19 #[(.pointer (q25)), (.agg #[(.int .u8 n58), (.int .u16 n59), (.int .u8 n60), (.int .u16 n61), (.int .u64 n62), (.int .u64 n63), (.bool b64), (.slice (q65) k66 k67)])] w57 fun e68 w69 =>
                    ∃ q70 : Option Addr, ∃ k71 : Nat, ∃ k72 : Nat, (e68 = .returned (.slice (q70) k71 k72)) ∧
                    (X.Kept L55 w57 w69) ∧
                    (X.FactsW x53 w69 (L55)) ∧
                    X.CallX Try.prog 21 #[(.pointer (q28)), (.agg #[(.int .u8 n40), (.int .u16 n41), (.int .u8 n42), (.int .u16 n43), (.int .u64 n44), (.int .u64 n45), (.bool b46), (.slice (q47) k48 k49)])] w69 fun e73 w74 =>
                     ∃ q75 : Option Addr, ∃ k76 : Nat, ∃ k77 : Nat, (e73 = .returned (.slice (q75) k76 k77)) ∧
                     (X.Kept L55 w69 w74) ∧
                     (X.FactsW x53 w74 (L55)) ∧
                     X.CallX Try.prog 18 #[(.slice (q70) k71 k72), (.slice (q75) k76 k77)] w74 fun e78 w79 =>
                      ∃ b80 : Bool, (e78 = .returned (.bool b80)) ∧
                      (X.Kept L55 w74 w79) ∧
                      (X.FactsW x53 w79 (L55)) ∧
                      (([(.int .u8 a_0), (.int .u16 a_1)] : List Value) = [(.int .u8 a_0), (.int .u16 a_1)]) ∧
                      (([(.int .u8 b_0), (.int .u16 b_1)] : List Value) = [(.int .u8 b_0), (.int .u16 b_1)]) ∧
                      x50 b80 n35 n36 q37 k38 k39 n40 n41 n42 n43 n44 n45 b46 q47 k48 k49 w79 (L55)
                else
                 ∀ w51 : World, ∀ L52 : List Nat, (X.Hid (L33) w32 w51) →
                 (X.NewL (w).heap.size (L33) w32 w51 L52) →
                 (([(.int .u8 a_0), (.int .u16 a_1)] : List Value) = [(.int .u8 a_0), (.int .u16 a_1)]) ∧
                 (([(.int .u8 b_0), (.int .u16 b_1)] : List Value) = [(.int .u8 b_0), (.int .u16 b_1)]) ∧
                 x50 true n35 n36 q37 k38 k39 n40 n41 n42 n43 n44 n45 b46 q47 k48 k49 w51 (L52)) ∧
           ∀ b339 : Bool, ∀ n340 : Int, ∀ n341 : Int, ∀ q342 : Option Addr, ∀ k343 : Nat, ∀ k344 : Nat, ∀ n345 : Int, ∀ n346 : Int, ∀ n347 : Int, ∀ n348 : Int, ∀ n349 : Int, ∀ n350 : Int, ∀ b351 : Bool, ∀ q352 : Option Addr, ∀ k353 : Nat, ∀ k354 : Nat, ∀ w355 : World, ∀ L356 : List Nat, (X.LF (w).heap.size w355 L356) →
           (x50 b339 n340 n341 q342 k343 k344 n345 n346 n347 n348 n349 n350 b351 q352 k353 k354 w355 L356) →
           ∃ x357 : X.Facts, (X.FactsW x357 w355 (L356)) ∧
           if ((!b339) == false) = true then
            X.onSome (q28) fun p420 =>
            ∃ q421 : Option Addr, ∃ k422 : Nat, ∃ k423 : Nat, (((p420.add 7), [(.slice (q421) k422 k423)]) ∈ x357) ∧
            ∀ w424 : World, ∀ L425 : List Nat, (X.Hid (L356) w355 w424) →
            (X.NewL (w).heap.size (L356) w355 w424 L425) →
            X.CallX Try.prog 22 #[(.pointer (q25))] w424 fun e426 w427 =>
             ∃ n428 : Int, (e426 = .returned (.int .i64 n428)) ∧
             (X.Kept L425 w424 w427) ∧
             (X.FactsW x357 w427 (L425)) ∧
             ∃ x429 : X.Facts, (X.FactsW x429 w427 (L425)) ∧
             (∀ x430 : Addr × List Value, (x430 ∈ x357) →
              x430 ∈ x429) ∧
             if ((false || (n428 != ((k422 : Nat) : Int))) == false) = true then
              X.onSome (q28) fun p453 =>
              ∃ q454 : Option Addr, ∃ k455 : Nat, ∃ k456 : Nat, (((p453.add 7), [(.slice (q454) k455 k456)]) ∈ x429) ∧
              X.CallX Try.prog 23 #[(.pointer (q25))] w427 fun e457 w458 =>
               ∃ b459 : Bool, (e457 = .returned (.bool b459)) ∧
               (X.Kept L425 w427 w458) ∧
               (X.FactsW x429 w458 (L425)) ∧
               ∃ x460 : X.Facts, (X.FactsW x460 w458 (L425)) ∧
               (∀ x461 : Addr × List Value, (x461 ∈ x429) →
                x461 ∈ x460) ∧
               if ((false || (!(b459 == (((k455 : Nat) : Int) == 0)))) == false) = true then
                X.onSome (q28) fun p462 =>
                ∃ n463 : Int, (((p462.add 6), [(.int .u64 n463)]) ∈ x460) ∧
                X.CallX Try.prog 24 #[(.pointer (q25))] w458 fun e464 w465 =>
                 ∃ n466 : Int, (e464 = .returned (.int .u64 n466)) ∧
                 (X.Kept L425 w458 w465) ∧
                 (X.FactsW x460 w465 (L425)) ∧
                 if (false || (n466 != n463)) = true then
                  R (.returned (.bool false)) w465
                 else
                  (([(.int .u8 a_0), (.int .u16 a_1)] : List Value) = [(.int .u8 a_0), (.int .u16 a_1)]) ∧
                  (([(.int .u8 b_0), (.int .u16 b_1)] : List Value) = [(.int .u8 b_0), (.int .u16 b_1)]) ∧
                  (x29 (IntKind.wrap .i64 (n31 + 1)) w465 (L425)) ∧
                  Nat.le ((x30 (IntKind.wrap .i64 (n31 + 1)) w465) + 1) (x30 n31 w32)
               else
                R (.returned (.bool false)) w458
             else
              (∃ x431 : X.Facts, (X.FactsW x431 w427 (L425)) ∧
               (∀ x432 : Addr × List Value, (x432 ∈ x429) →
                x432 ∈ x431) ∧
               ∃ x433 : X.Facts, (X.FactsW x433 w427 (L425)) ∧
               (∀ x434 : Addr × List Value, (x434 ∈ x431) →
                x434 ∈ x433) ∧
               ∃ x435 : X.Facts, (X.FactsW x435 w427 (L425)) ∧
               (∀ x436 : Addr × List Value, (x436 ∈ x433) →
                x436 ∈ x435) ∧
               ∃ x437 : X.Facts, (X.FactsW x437 w427 (L425)) ∧
               (∀ x438 : Addr × List Value, (x438 ∈ x435) →
                x438 ∈ x437) ∧
               R (.returned (.bool false)) w427) ∧
              ∃ x439 : X.Facts, (X.FactsW x439 w427 (L425)) ∧
              (∀ x440 : Addr × List Value, (x440 ∈ x429) →
               x440 ∈ x439) ∧
              (∃ x441 : X.Facts, (X.FactsW x441 w427 (L425)) ∧
               (∀ x442 : Addr × List Value, (x442 ∈ x439) →
                x442 ∈ x441) ∧
               ∃ x443 : X.Facts, (X.FactsW x443 w427 (L425)) ∧
               (∀ x444 : Addr × List Value, (x444 ∈ x441) →
                x444 ∈ x443) ∧
               ∃ x445 : X.Facts, (X.FactsW x445 w427 (L425)) ∧
               (∀ x446 : Addr × List Value, (x446 ∈ x443) →
                x446 ∈ x445) ∧
               R (.returned (.bool false)) w427) ∧
              ∃ x447 : X.Facts, (X.FactsW x447 w427 (L425)) ∧
              (∀ x448 : Addr × List Value, (x448 ∈ x439) →
               x448 ∈ x447) ∧
              ∃ x449 : X.Facts, (X.FactsW x449 w427 (L425)) ∧
              (∀ x450 : Addr × List Value, (x450 ∈ x447) →
               x450 ∈ x449) ∧
              ∃ x451 : X.Facts, (X.FactsW x451 w427 (L425)) ∧
              (∀ x452 : Addr × List Value, (x452 ∈ x449) →
               x452 ∈ x451) ∧
              R (.returned (.bool false)) w427
           else
            (∃ x358 : X.Facts, (X.FactsW x358 w355 (L356)) ∧
             (∀ x359 : Addr × List Value, (x359 ∈ x357) →
              x359 ∈ x358) ∧
             ∃ x360 : X.Facts, (X.FactsW x360 w355 (L356)) ∧
             (∀ x361 : Addr × List Value, (x361 ∈ x358) →
              x361 ∈ x360) ∧
             ∃ x362 : X.Facts, (X.FactsW x362 w355 (L356)) ∧
             (∀ x363 : Addr × List Value, (x363 ∈ x360) →
              x363 ∈ x362) ∧
             (∃ x364 : X.Facts, (X.FactsW x364 w355 (L356)) ∧
              (∀ x365 : Addr × List Value, (x365 ∈ x362) →
               x365 ∈ x364) ∧
              ∃ x366 : X.Facts, (X.FactsW x366 w355 (L356)) ∧
              (∀ x367 : Addr × List Value, (x367 ∈ x364) →
               x367 ∈ x366) ∧
              ∃ x368 : X.Facts, (X.FactsW x368 w355 (L356)) ∧
              (∀ x369 : Addr × List Value, (x369 ∈ x366) →
               x369 ∈ x368) ∧
              ∃ x370 : X.Facts, (X.FactsW x370 w355 (L356)) ∧
              (∀ x371 : Addr × List Value, (x371 ∈ x368) →
               x371 ∈ x370) ∧
              ∀ w372 : World, (X.Hid (L356) w355 w372) →
              R (.returned (.bool false)) w372) ∧
             ∃ x373 : X.Facts, (X.FactsW x373 w355 (L356)) ∧
             (∀ x374 : Addr × List Value, (x374 ∈ x362) →
              x374 ∈ x373) ∧
             (∃ x375 : X.Facts, (X.FactsW x375 w355 (L356)) ∧
              (∀ x376 : Addr × List Value, (x376 ∈ x373) →
               x376 ∈ x375) ∧
              ∃ x377 : X.Facts, (X.FactsW x377 w355 (L356)) ∧
              (∀ x378 : Addr × List Value, (x378 ∈ x375) →
               x378 ∈ x377) ∧
              ∃ x379 : X.Facts, (X.FactsW x379 w355 (L356)) ∧
              (∀ x380 : Addr × List Value, (x380 ∈ x377) →
               x380 ∈ x379) ∧
              ∀ w381 : World, (X.Hid (L356) w355 w381) →
              R (.returned (.bool false)) w381) ∧
             ∃ x382 : X.Facts, (X.FactsW x382 w355 (L356)) ∧
             (∀ x383 : Addr × List Value, (x383 ∈ x373) →
              x383 ∈ x382) ∧
             ∃ x384 : X.Facts, (X.FactsW x384 w355 (L356)) ∧
             (∀ x385 : Addr × List Value, (x385 ∈ x382) →
              x385 ∈ x384) ∧
             ∃ x386 : X.Facts, (X.FactsW x386 w355 (L356)) ∧
             (∀ x387 : Addr × List Value, (x387 ∈ x384) →
              x387 ∈ x386) ∧
             ∀ w388 : World, (X.Hid (L356) w355 w388) →
             R (.returned (.bool false)) w388) ∧
            ∃ x389 : X.Facts, (X.FactsW x389 w355 (L356)) ∧
            (∀ x390 : Addr × List Value, (x390 ∈ x357) →
             x390 ∈ x389) ∧
            ∃ x391 : X.Facts, (X.FactsW x391 w355 (L356)) ∧
            (∀ x392 : Addr × List Value, (x392 ∈ x389) →
             x392 ∈ x391) ∧
            ∃ x393 : X.Facts, (X.FactsW x393 w355 (L356)) ∧
            (∀ x394 : Addr × List Value, (x394 ∈ x391) →
             x394 ∈ x393) ∧
            (∃ x395 : X.Facts, (X.FactsW x395 w355 (L356)) ∧
             (∀ x396 : Addr × List Value, (x396 ∈ x393) →
              x396 ∈ x395) ∧
             ∃ x397 : X.Facts, (X.FactsW x397 w355 (L356)) ∧
             (∀ x398 : Addr × List Value, (x398 ∈ x395) →
              x398 ∈ x397) ∧
             ∃ x399 : X.Facts, (X.FactsW x399 w355 (L356)) ∧
             (∀ x400 : Addr × List Value, (x400 ∈ x397) →
              x400 ∈ x399) ∧
             ∃ x401 : X.Facts, (X.FactsW x401 w355 (L356)) ∧
             (∀ x402 : Addr × List Value, (x402 ∈ x399) →
              x402 ∈ x401) ∧
             ∀ w403 : World, (X.Hid (L356) w355 w403) →
             R (.returned (.bool false)) w403) ∧
            ∃ x404 : X.Facts, (X.FactsW x404 w355 (L356)) ∧
            (∀ x405 : Addr × List Value, (x405 ∈ x393) →
             x405 ∈ x404) ∧
            (∃ x406 : X.Facts, (X.FactsW x406 w355 (L356)) ∧
             (∀ x407 : Addr × List Value, (x407 ∈ x404) →
              x407 ∈ x406) ∧
             ∃ x408 : X.Facts, (X.FactsW x408 w355 (L356)) ∧
             (∀ x409 : Addr × List Value, (x409 ∈ x406) →
              x409 ∈ x408) ∧
             ∃ x410 : X.Facts, (X.FactsW x410 w355 (L356)) ∧
             (∀ x411 : Addr × List Value, (x411 ∈ x408) →
              x411 ∈ x410) ∧
             ∀ w412 : World, (X.Hid (L356) w355 w412) →
             R (.returned (.bool false)) w412) ∧
            ∃ x413 : X.Facts, (X.FactsW x413 w355 (L356)) ∧
            (∀ x414 : Addr × List Value, (x414 ∈ x404) →
             x414 ∈ x413) ∧
            ∃ x415 : X.Facts, (X.FactsW x415 w355 (L356)) ∧
            (∀ x416 : Addr × List Value, (x416 ∈ x413) →
             x416 ∈ x415) ∧
            ∃ x417 : X.Facts, (X.FactsW x417 w355 (L356)) ∧
            (∀ x418 : Addr × List Value, (x418 ∈ x415) →
             x418 ∈ x417) ∧
            ∀ w419 : World, (X.Hid (L356) w355 w419) →
            R (.returned (.bool false)) w419
          else
           R (.returned (.bool true)) w32
   else
    X.CallX Try.prog 8 #[] w4 fun e6 w7 =>
     ∃ b8 : Bool, (e6 = .returned (.bool b8)) ∧
     (X.Kept L2 w4 w7) ∧
     R (.returned (.bool b8)) w7) :
    Calls Try.prog 3 #[.agg #[.int .u8 a_0, .int .u16 a_1], .agg #[.int .u8 b_0, .int .u16 b_1], .int .u64 c, .int .i64 d, .slice e el ec] w R :=
  X.calls_of { isLoc := [5, 6, 14], sym := [], loops := [(6, .inv [(13, .int .i64)] [] true)], joins := [(2, ([(15, .bool)], [(14, [.int .i64, .int .i64, .slice, .int .u8, .int .u16, .int .u8, .int .u16, .int .u64, .int .u64, .bool, .slice])]))] } Try.func3 (by kernel_rfl) h
end Go.Proofs
