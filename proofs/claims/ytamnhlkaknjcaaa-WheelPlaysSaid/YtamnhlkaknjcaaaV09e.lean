import Derived.Test.YtamnhlkaknjcaaaXFn
import Derived.Test.YtamnhlkaknjcaaaProg
/- The verification conditions of this seat's functions, as the engine has them: printed by a program of the bench; checked by the kernel. -/
set_option maxRecDepth 100000
set_option linter.unusedVariables false
namespace Go.Proofs
open Go
abbrev fn_gemotlaw09_WheelPlays : Nat := 5
theorem x_gemotlaw09_WheelPlays (a : Int) (b : Option Addr) (bl bc : Nat) (w : World) (R : Ending → World → Prop) (h :
  if ((decide (((bl : Nat) : Int) > 100)) == false) = true then
   X.CallX Try.prog 10 #[] w fun e4 w5 =>
    ∃ b6 : Bool, (e4 = .returned (.bool b6)) ∧
    ((w).heap.size ≤ (w5).heap.size) ∧
    if (false || (!b6)) = true then
     X.CallX Try.prog 10 #[] w5 fun e356 w357 =>
      ∃ b358 : Bool, (e356 = .returned (.bool b358)) ∧
      ((w5).heap.size ≤ (w357).heap.size) ∧
      R (.returned (.bool b358)) w357
    else
     X.CallX Try.prog 11 #[(.int .i64 a)] w5 fun e7 w8 =>
      ∃ q9 : Option Addr, (e7 = .returned (.pointer (q9))) ∧
      ((w5).heap.size ≤ (w8).heap.size) ∧
      X.CallX Try.prog 15 #[(.int .i64 a)] w8 fun e10 w11 =>
       ∃ q12 : Option Addr, (e10 = .returned (.pointer (q12))) ∧
       ((w8).heap.size ≤ (w11).heap.size) ∧
       ∃ x13 : Int → World → List Nat → Prop, ∃ x14 : Int → World → Nat, (x13 0 w11 []) ∧
       ∀ n15 : Int, ∀ w16 : World, ∀ L17 : List Nat, (X.LF (w).heap.size w16 L17) →
       (x13 n15 w16 L17) →
       if (decide (n15 < ((bl : Nat) : Int))) = true then
        ((0 : Int) ≤ n15) ∧
        (n15 < ((bl : Nat) : Int)) ∧
        X.onSome (b) fun p18 =>
        ∃ n19 : Int, ∃ n20 : Int, ∃ n21 : Int, ∃ n22 : Int, ∃ n23 : Int, ∃ n24 : Int, ∃ n25 : Int, ∃ n26 : Int, ∃ n27 : Int, ∃ n28 : Int, ∃ n29 : Int, ∃ n30 : Int, ∃ n31 : Int, ∃ n32 : Int, ∃ n33 : Int, (X.Cells w16 (p18.add ((n15).toNat * 15)) [(.int .i64 n19), (.int .i64 n20), (.int .u8 n21), (.int .u8 n22), (.int .u16 n23), (.int .u8 n24), (.int .u16 n25), (.int .u32 n26), (.int .u8 n27), (.int .u8 n28), (.int .u8 n29), (.int .u8 n30), (.int .u8 n31), (.int .u8 n32), (.int .u8 n33)]) ∧
        ∃ x34 : Bool → World → List Nat → Prop, (if (n19 == 0) = true then
          if (n19 == 0) = true then
           ∃ x320 : X.Facts, (X.FactsW x320 w16 []) ∧
           ∀ w321 : World, ∀ L322 : List Nat, (X.Hid [] w16 w321) →
           (X.NewL (w).heap.size [] w16 w321 L322) →
           X.CallX Try.prog 8 #[(.agg #[(.int .u8 n21), (.int .u8 n22), (.int .u16 n23), (.int .u8 n24), (.int .u16 n25), (.int .u32 n26), (.int .u8 n27), (.int .u8 n28), (.int .u8 n29), (.int .u8 n30), (.int .u8 n31), (.int .u8 n32), (.int .u8 n33)])] w321 fun e323 w324 =>
            ∃ n325 : Int, ∃ n326 : Int, ∃ n327 : Int, ∃ n328 : Int, ∃ n329 : Int, ∃ n330 : Int, ∃ n331 : Int, ∃ n332 : Int, ∃ n333 : Int, ∃ n334 : Int, ∃ n335 : Int, ∃ n336 : Int, ∃ n337 : Int, (e323 = .returned (.agg #[(.int .u8 n325), (.int .u8 n326), (.int .u16 n327), (.int .u8 n328), (.int .u16 n329), (.int .u32 n330), (.int .u8 n331), (.int .u8 n332), (.int .u8 n333), (.int .u8 n334), (.int .u8 n335), (.int .u8 n336), (.int .u8 n337)])) ∧
            (X.Kept L322 w321 w324) ∧
            (X.FactsW x320 w324 (L322)) ∧
            X.CallX Try.prog 13 #[(.pointer (q9)), (.agg #[(.int .u8 n325), (.int .u8 n326), (.int .u16 n327), (.int .u8 n328), (.int .u16 n329), (.int .u32 n330), (.int .u8 n331), (.int .u8 n332), (.int .u8 n333), (.int .u8 n334), (.int .u8 n335), (.int .u8 n336), (.int .u8 n337)]), (.int .i64 n20)] w324 fun e338 w339 =>
             ∃ n340 : Int, (e338 = .returned (.int .i64 n340)) ∧
             (X.Kept L322 w324 w339) ∧
             (X.FactsW x320 w339 (L322)) ∧
             X.CallX Try.prog 12 #[(.int .i64 n340)] w339 fun e341 w342 =>
              ∃ n343 : Int, (e341 = .returned (.int .i64 n343)) ∧
              (X.Kept L322 w339 w342) ∧
              (X.FactsW x320 w342 (L322)) ∧
              X.CallX Try.prog 16 #[(.pointer (q12)), (.agg #[(.int .u8 n21), (.int .u8 n22), (.int .u16 n23), (.int .u8 n24), (.int .u16 n25), (.int .u32 n26), (.int .u8 n27), (.int .u8 n28), (.int .u8 n29), (.int .u8 n30), (.int .u8 n31), (.int .u8 n32), (.int .u8 n33)]), (.int .i64 n20)] w342 fun e344 w345 =>
               ∃ n346 : Int, (e344 = .returned (.int .i64 n346)) ∧
               (X.Kept L322 w342 w345) ∧
               (X.FactsW x320 w345 (L322)) ∧
               (([(.int .i64 n19), (.int .i64 n20), (.int .u8 n21), (.int .u8 n22), (.int .u16 n23), (.int .u8 n24), (.int .u16 n25), (.int .u32 n26), (.int .u8 n27), (.int .u8 n28), (.int .u8 n29), (.int .u8 n30), (.int .u8 n31), (.int .u8 n32), (.int .u8 n33)] : List Value) = [(.int .i64 n19), (.int .i64 n20), (.int .u8 n21), (.int .u8 n22), (.int .u16 n23), (.int .u8 n24), (.int .u16 n25), (.int .u32 n26), (.int .u8 n27), (.int .u8 n28), (.int .u8 n29), (.int .u8 n30), (.int .u8 n31), (.int .u8 n32), (.int .u8 n33)]) ∧
               x34 (n343 == n346) w345 (L322)
          else
           if (n19 == 3) = true then
            ∃ x296 : X.Facts, (X.FactsW x296 w16 []) ∧
            ∀ w297 : World, ∀ L298 : List Nat, (X.Hid [] w16 w297) →
            (X.NewL (w).heap.size [] w16 w297 L298) →
            X.CallX Try.prog 8 #[(.agg #[(.int .u8 n21), (.int .u8 n22), (.int .u16 n23), (.int .u8 n24), (.int .u16 n25), (.int .u32 n26), (.int .u8 n27), (.int .u8 n28), (.int .u8 n29), (.int .u8 n30), (.int .u8 n31), (.int .u8 n32), (.int .u8 n33)])] w297 fun e299 w300 =>
             ∃ n301 : Int, ∃ n302 : Int, ∃ n303 : Int, ∃ n304 : Int, ∃ n305 : Int, ∃ n306 : Int, ∃ n307 : Int, ∃ n308 : Int, ∃ n309 : Int, ∃ n310 : Int, ∃ n311 : Int, ∃ n312 : Int, ∃ n313 : Int, (e299 = .returned (.agg #[(.int .u8 n301), (.int .u8 n302), (.int .u16 n303), (.int .u8 n304), (.int .u16 n305), (.int .u32 n306), (.int .u8 n307), (.int .u8 n308), (.int .u8 n309), (.int .u8 n310), (.int .u8 n311), (.int .u8 n312), (.int .u8 n313)])) ∧
             (X.Kept L298 w297 w300) ∧
             (X.FactsW x296 w300 (L298)) ∧
             X.CallX Try.prog 17 #[(.pointer (q9)), (.agg #[(.int .u8 n301), (.int .u8 n302), (.int .u16 n303), (.int .u8 n304), (.int .u16 n305), (.int .u32 n306), (.int .u8 n307), (.int .u8 n308), (.int .u8 n309), (.int .u8 n310), (.int .u8 n311), (.int .u8 n312), (.int .u8 n313)])] w300 fun e314 w315 =>
              ∃ b316 : Bool, (e314 = .returned (.bool b316)) ∧
              (X.Kept L298 w300 w315) ∧
              (X.FactsW x296 w315 (L298)) ∧
              X.CallX Try.prog 18 #[(.pointer (q12)), (.agg #[(.int .u8 n21), (.int .u8 n22), (.int .u16 n23), (.int .u8 n24), (.int .u16 n25), (.int .u32 n26), (.int .u8 n27), (.int .u8 n28), (.int .u8 n29), (.int .u8 n30), (.int .u8 n31), (.int .u8 n32), (.int .u8 n33)])] w315 fun e317 w318 =>
               ∃ b319 : Bool, (e317 = .returned (.bool b319)) ∧
               (X.Kept L298 w315 w318) ∧
               (X.FactsW x296 w318 (L298)) ∧
               (([(.int .i64 n19), (.int .i64 n20), (.int .u8 n21), (.int .u8 n22), (.int .u16 n23), (.int .u8 n24), (.int .u16 n25), (.int .u32 n26), (.int .u8 n27), (.int .u8 n28), (.int .u8 n29), (.int .u8 n30), (.int .u8 n31), (.int .u8 n32), (.int .u8 n33)] : List Value) = [(.int .i64 n19), (.int .i64 n20), (.int .u8 n21), (.int .u8 n22), (.int .u16 n23), (.int .u8 n24), (.int .u16 n25), (.int .u32 n26), (.int .u8 n27), (.int .u8 n28), (.int .u8 n29), (.int .u8 n30), (.int .u8 n31), (.int .u8 n32), (.int .u8 n33)]) ∧
               x34 (b316 == b319) w318 (L298)
           else
            if (n19 == 4) = true then
             ∀ w271 : World, ∀ L272 : List Nat, (X.Hid [] w16 w271) →
             (X.NewL (w).heap.size [] w16 w271 L272) →
             X.CallX Try.prog 8 #[(.agg #[(.int .u8 n21), (.int .u8 n22), (.int .u16 n23), (.int .u8 n24), (.int .u16 n25), (.int .u32 n26), (.int .u8 n27), (.int .u8 n28), (.int .u8 n29), (.int .u8 n30), (.int .u8 n31), (.int .u8 n32), (.int .u8 n33)])] w271 fun e273 w274 =>
              ∃ n275 : Int, ∃ n276 : Int, ∃ n277 : Int, ∃ n278 : Int, ∃ n279 : Int, ∃ n280 : Int, ∃ n281 : Int, ∃ n282 : Int, ∃ n283 : Int, ∃ n284 : Int, ∃ n285 : Int, ∃ n286 : Int, ∃ n287 : Int, (e273 = .returned (.agg #[(.int .u8 n275), (.int .u8 n276), (.int .u16 n277), (.int .u8 n278), (.int .u16 n279), (.int .u32 n280), (.int .u8 n281), (.int .u8 n282), (.int .u8 n283), (.int .u8 n284), (.int .u8 n285), (.int .u8 n286), (.int .u8 n287)])) ∧
              (X.Kept L272 w271 w274) ∧
              X.CallX Try.prog 19 #[(.pointer (q9)), (.agg #[(.int .u8 n275), (.int .u8 n276), (.int .u16 n277), (.int .u8 n278), (.int .u16 n279), (.int .u32 n280), (.int .u8 n281), (.int .u8 n282), (.int .u8 n283), (.int .u8 n284), (.int .u8 n285), (.int .u8 n286), (.int .u8 n287)])] w274 fun e288 w289 =>
               ∃ n290 : Int, ∃ b291 : Bool, (e288 = .returned (.tuple #[(.int .i64 n290), (.bool b291)])) ∧
               (X.Kept L272 w274 w289) ∧
               X.CallX Try.prog 20 #[(.pointer (q12)), (.agg #[(.int .u8 n21), (.int .u8 n22), (.int .u16 n23), (.int .u8 n24), (.int .u16 n25), (.int .u32 n26), (.int .u8 n27), (.int .u8 n28), (.int .u8 n29), (.int .u8 n30), (.int .u8 n31), (.int .u8 n32), (.int .u8 n33)])] w289 fun e292 w293 =>
                ∃ n294 : Int, ∃ b295 : Bool, (e292 = .returned (.tuple #[(.int .i64 n294), (.bool b295)])) ∧
                (X.Kept L272 w289 w293) ∧
                (([(.int .i64 n19), (.int .i64 n20), (.int .u8 n21), (.int .u8 n22), (.int .u16 n23), (.int .u8 n24), (.int .u16 n25), (.int .u32 n26), (.int .u8 n27), (.int .u8 n28), (.int .u8 n29), (.int .u8 n30), (.int .u8 n31), (.int .u8 n32), (.int .u8 n33)] : List Value) = [(.int .i64 n19), (.int .i64 n20), (.int .u8 n21), (.int .u8 n22), (.int .u16 n23), (.int .u8 n24), (.int .u16 n25), (.int .u32 n26), (.int .u8 n27), (.int .u8 n28), (.int .u8 n29), (.int .u8 n30), (.int .u8 n31), (.int .u8 n32), (.int .u8 n33)]) ∧
                x34 ((n290 == n294) && (b291 == b295)) w293 (L272)
            else
             if (n19 == 5) = true then
              ∃ x255 : X.Facts, (X.FactsW x255 w16 []) ∧
              ∀ w256 : World, ∀ L257 : List Nat, (X.Hid [] w16 w256) →
              (X.NewL (w).heap.size [] w16 w256 L257) →
              X.CallX Try.prog 14 #[(.pointer (q9)), (.int .i64 n20)] w256 fun e258 w259 =>
               ∃ q260 : Option Addr, ∃ k261 : Nat, ∃ k262 : Nat, (e258 = .returned (.slice (q260) k261 k262)) ∧
               (X.Kept L257 w256 w259) ∧
               (X.FactsW x255 w259 (L257)) ∧
               X.CallX Try.prog 22 #[(.pointer (q12)), (.int .i64 n20)] w259 fun e263 w264 =>
                ∃ q265 : Option Addr, ∃ k266 : Nat, ∃ k267 : Nat, (e263 = .returned (.slice (q265) k266 k267)) ∧
                (X.Kept L257 w259 w264) ∧
                (X.FactsW x255 w264 (L257)) ∧
                X.CallX Try.prog 21 #[(.slice (q260) k261 k262), (.slice (q265) k266 k267)] w264 fun e268 w269 =>
                 ∃ b270 : Bool, (e268 = .returned (.bool b270)) ∧
                 (X.Kept L257 w264 w269) ∧
                 (X.FactsW x255 w269 (L257)) ∧
                 (([(.int .i64 n19), (.int .i64 n20), (.int .u8 n21), (.int .u8 n22), (.int .u16 n23), (.int .u8 n24), (.int .u16 n25), (.int .u32 n26), (.int .u8 n27), (.int .u8 n28), (.int .u8 n29), (.int .u8 n30), (.int .u8 n31), (.int .u8 n32), (.int .u8 n33)] : List Value) = [(.int .i64 n19), (.int .i64 n20), (.int .u8 n21), (.int .u8 n22), (.int .u16 n23), (.int .u8 n24), (.int .u16 n25), (.int .u32 n26), (.int .u8 n27), (.int .u8 n28), (.int .u8 n29), (.int .u8 n30), (.int .u8 n31), (.int .u8 n32), (.int .u8 n33)]) ∧
                 x34 b270 w269 (L257)
             else
              if (n19 == 6) = true then
               ∀ w245 : World, ∀ L246 : List Nat, (X.Hid [] w16 w245) →
               (X.NewL (w).heap.size [] w16 w245 L246) →
               X.CallX Try.prog 23 #[(.pointer (q9))] w245 fun e247 w248 =>
                ∃ n249 : Int, ∃ b250 : Bool, (e247 = .returned (.tuple #[(.int .i64 n249), (.bool b250)])) ∧
                (X.Kept L246 w245 w248) ∧
                X.CallX Try.prog 24 #[(.pointer (q12))] w248 fun e251 w252 =>
                 ∃ n253 : Int, ∃ b254 : Bool, (e251 = .returned (.tuple #[(.int .i64 n253), (.bool b254)])) ∧
                 (X.Kept L246 w248 w252) ∧
                 (([(.int .i64 n19), (.int .i64 n20), (.int .u8 n21), (.int .u8 n22), (.int .u16 n23), (.int .u8 n24), (.int .u16 n25), (.int .u32 n26), (.int .u8 n27), (.int .u8 n28), (.int .u8 n29), (.int .u8 n30), (.int .u8 n31), (.int .u8 n32), (.int .u8 n33)] : List Value) = [(.int .i64 n19), (.int .i64 n20), (.int .u8 n21), (.int .u8 n22), (.int .u16 n23), (.int .u8 n24), (.int .u16 n25), (.int .u32 n26), (.int .u8 n27), (.int .u8 n28), (.int .u8 n29), (.int .u8 n30), (.int .u8 n31), (.int .u8 n32), (.int .u8 n33)]) ∧
                 x34 ((n249 == n253) && (b250 == b254)) w252 (L246)
              else
               ∀ w243 : World, ∀ L244 : List Nat, (X.Hid [] w16 w243) →
               (X.NewL (w).heap.size [] w16 w243 L244) →
               (([(.int .i64 n19), (.int .i64 n20), (.int .u8 n21), (.int .u8 n22), (.int .u16 n23), (.int .u8 n24), (.int .u16 n25), (.int .u32 n26), (.int .u8 n27), (.int .u8 n28), (.int .u8 n29), (.int .u8 n30), (.int .u8 n31), (.int .u8 n32), (.int .u8 n33)] : List Value) = [(.int .i64 n19), (.int .i64 n20), (.int .u8 n21), (.int .u8 n22), (.int .u16 n23), (.int .u8 n24), (.int .u16 n25), (.int .u32 n26), (.int .u8 n27), (.int .u8 n28), (.int .u8 n29), (.int .u8 n30), (.int .u8 n31), (.int .u8 n32), (.int .u8 n33)]) ∧
               x34 true w243 (L244)
         else
          if (n19 == 1) = true then
           if (n19 == 1) = true then
            ∃ x216 : X.Facts, (X.FactsW x216 w16 []) ∧
            ∀ w217 : World, ∀ L218 : List Nat, (X.Hid [] w16 w217) →
            (X.NewL (w).heap.size [] w16 w217 L218) →
            X.CallX Try.prog 8 #[(.agg #[(.int .u8 n21), (.int .u8 n22), (.int .u16 n23), (.int .u8 n24), (.int .u16 n25), (.int .u32 n26), (.int .u8 n27), (.int .u8 n28), (.int .u8 n29), (.int .u8 n30), (.int .u8 n31), (.int .u8 n32), (.int .u8 n33)])] w217 fun e219 w220 =>
             ∃ n221 : Int, ∃ n222 : Int, ∃ n223 : Int, ∃ n224 : Int, ∃ n225 : Int, ∃ n226 : Int, ∃ n227 : Int, ∃ n228 : Int, ∃ n229 : Int, ∃ n230 : Int, ∃ n231 : Int, ∃ n232 : Int, ∃ n233 : Int, (e219 = .returned (.agg #[(.int .u8 n221), (.int .u8 n222), (.int .u16 n223), (.int .u8 n224), (.int .u16 n225), (.int .u32 n226), (.int .u8 n227), (.int .u8 n228), (.int .u8 n229), (.int .u8 n230), (.int .u8 n231), (.int .u8 n232), (.int .u8 n233)])) ∧
             (X.Kept L218 w217 w220) ∧
             (X.FactsW x216 w220 (L218)) ∧
             X.CallX Try.prog 13 #[(.pointer (q9)), (.agg #[(.int .u8 n221), (.int .u8 n222), (.int .u16 n223), (.int .u8 n224), (.int .u16 n225), (.int .u32 n226), (.int .u8 n227), (.int .u8 n228), (.int .u8 n229), (.int .u8 n230), (.int .u8 n231), (.int .u8 n232), (.int .u8 n233)]), (.int .i64 n20)] w220 fun e234 w235 =>
              ∃ n236 : Int, (e234 = .returned (.int .i64 n236)) ∧
              (X.Kept L218 w220 w235) ∧
              (X.FactsW x216 w235 (L218)) ∧
              X.CallX Try.prog 12 #[(.int .i64 n236)] w235 fun e237 w238 =>
               ∃ n239 : Int, (e237 = .returned (.int .i64 n239)) ∧
               (X.Kept L218 w235 w238) ∧
               (X.FactsW x216 w238 (L218)) ∧
               X.CallX Try.prog 16 #[(.pointer (q12)), (.agg #[(.int .u8 n21), (.int .u8 n22), (.int .u16 n23), (.int .u8 n24), (.int .u16 n25), (.int .u32 n26), (.int .u8 n27), (.int .u8 n28), (.int .u8 n29), (.int .u8 n30), (.int .u8 n31), (.int .u8 n32), (.int .u8 n33)]), (.int .i64 n20)] w238 fun e240 w241 =>
                ∃ n242 : Int, (e240 = .returned (.int .i64 n242)) ∧
                (X.Kept L218 w238 w241) ∧
                (X.FactsW x216 w241 (L218)) ∧
                (([(.int .i64 n19), (.int .i64 n20), (.int .u8 n21), (.int .u8 n22), (.int .u16 n23), (.int .u8 n24), (.int .u16 n25), (.int .u32 n26), (.int .u8 n27), (.int .u8 n28), (.int .u8 n29), (.int .u8 n30), (.int .u8 n31), (.int .u8 n32), (.int .u8 n33)] : List Value) = [(.int .i64 n19), (.int .i64 n20), (.int .u8 n21), (.int .u8 n22), (.int .u16 n23), (.int .u8 n24), (.int .u16 n25), (.int .u32 n26), (.int .u8 n27), (.int .u8 n28), (.int .u8 n29), (.int .u8 n30), (.int .u8 n31), (.int .u8 n32), (.int .u8 n33)]) ∧
                x34 (n239 == n242) w241 (L218)
           else
            if (n19 == 3) = true then
             ∃ x192 : X.Facts, (X.FactsW x192 w16 []) ∧
             ∀ w193 : World, ∀ L194 : List Nat, (X.Hid [] w16 w193) →
             (X.NewL (w).heap.size [] w16 w193 L194) →
             X.CallX Try.prog 8 #[(.agg #[(.int .u8 n21), (.int .u8 n22), (.int .u16 n23), (.int .u8 n24), (.int .u16 n25), (.int .u32 n26), (.int .u8 n27), (.int .u8 n28), (.int .u8 n29), (.int .u8 n30), (.int .u8 n31), (.int .u8 n32), (.int .u8 n33)])] w193 fun e195 w196 =>
              ∃ n197 : Int, ∃ n198 : Int, ∃ n199 : Int, ∃ n200 : Int, ∃ n201 : Int, ∃ n202 : Int, ∃ n203 : Int, ∃ n204 : Int, ∃ n205 : Int, ∃ n206 : Int, ∃ n207 : Int, ∃ n208 : Int, ∃ n209 : Int, (e195 = .returned (.agg #[(.int .u8 n197), (.int .u8 n198), (.int .u16 n199), (.int .u8 n200), (.int .u16 n201), (.int .u32 n202), (.int .u8 n203), (.int .u8 n204), (.int .u8 n205), (.int .u8 n206), (.int .u8 n207), (.int .u8 n208), (.int .u8 n209)])) ∧
              (X.Kept L194 w193 w196) ∧
              (X.FactsW x192 w196 (L194)) ∧
              X.CallX Try.prog 17 #[(.pointer (q9)), (.agg #[(.int .u8 n197), (.int .u8 n198), (.int .u16 n199), (.int .u8 n200), (.int .u16 n201), (.int .u32 n202), (.int .u8 n203), (.int .u8 n204), (.int .u8 n205), (.int .u8 n206), (.int .u8 n207), (.int .u8 n208), (.int .u8 n209)])] w196 fun e210 w211 =>
               ∃ b212 : Bool, (e210 = .returned (.bool b212)) ∧
               (X.Kept L194 w196 w211) ∧
               (X.FactsW x192 w211 (L194)) ∧
               X.CallX Try.prog 18 #[(.pointer (q12)), (.agg #[(.int .u8 n21), (.int .u8 n22), (.int .u16 n23), (.int .u8 n24), (.int .u16 n25), (.int .u32 n26), (.int .u8 n27), (.int .u8 n28), (.int .u8 n29), (.int .u8 n30), (.int .u8 n31), (.int .u8 n32), (.int .u8 n33)])] w211 fun e213 w214 =>
                ∃ b215 : Bool, (e213 = .returned (.bool b215)) ∧
                (X.Kept L194 w211 w214) ∧
                (X.FactsW x192 w214 (L194)) ∧
                (([(.int .i64 n19), (.int .i64 n20), (.int .u8 n21), (.int .u8 n22), (.int .u16 n23), (.int .u8 n24), (.int .u16 n25), (.int .u32 n26), (.int .u8 n27), (.int .u8 n28), (.int .u8 n29), (.int .u8 n30), (.int .u8 n31), (.int .u8 n32), (.int .u8 n33)] : List Value) = [(.int .i64 n19), (.int .i64 n20), (.int .u8 n21), (.int .u8 n22), (.int .u16 n23), (.int .u8 n24), (.int .u16 n25), (.int .u32 n26), (.int .u8 n27), (.int .u8 n28), (.int .u8 n29), (.int .u8 n30), (.int .u8 n31), (.int .u8 n32), (.int .u8 n33)]) ∧
                x34 (b212 == b215) w214 (L194)
            else
             if (n19 == 4) = true then
              ∀ w167 : World, ∀ L168 : List Nat, (X.Hid [] w16 w167) →
              (X.NewL (w).heap.size [] w16 w167 L168) →
              X.CallX Try.prog 8 #[(.agg #[(.int .u8 n21), (.int .u8 n22), (.int .u16 n23), (.int .u8 n24), (.int .u16 n25), (.int .u32 n26), (.int .u8 n27), (.int .u8 n28), (.int .u8 n29), (.int .u8 n30), (.int .u8 n31), (.int .u8 n32), (.int .u8 n33)])] w167 fun e169 w170 =>
               ∃ n171 : Int, ∃ n172 : Int, ∃ n173 : Int, ∃ n174 : Int, ∃ n175 : Int, ∃ n176 : Int, ∃ n177 : Int, ∃ n178 : Int, ∃ n179 : Int, ∃ n180 : Int, ∃ n181 : Int, ∃ n182 : Int, ∃ n183 : Int, (e169 = .returned (.agg #[(.int .u8 n171), (.int .u8 n172), (.int .u16 n173), (.int .u8 n174), (.int .u16 n175), (.int .u32 n176), (.int .u8 n177), (.int .u8 n178), (.int .u8 n179), (.int .u8 n180), (.int .u8 n181), (.int .u8 n182), (.int .u8 n183)])) ∧
               (X.Kept L168 w167 w170) ∧
               X.CallX Try.prog 19 #[(.pointer (q9)), (.agg #[(.int .u8 n171), (.int .u8 n172), (.int .u16 n173), (.int .u8 n174), (.int .u16 n175), (.int .u32 n176), (.int .u8 n177), (.int .u8 n178), (.int .u8 n179), (.int .u8 n180), (.int .u8 n181), (.int .u8 n182), (.int .u8 n183)])] w170 fun e184 w185 =>
                ∃ n186 : Int, ∃ b187 : Bool, (e184 = .returned (.tuple #[(.int .i64 n186), (.bool b187)])) ∧
                (X.Kept L168 w170 w185) ∧
                X.CallX Try.prog 20 #[(.pointer (q12)), (.agg #[(.int .u8 n21), (.int .u8 n22), (.int .u16 n23), (.int .u8 n24), (.int .u16 n25), (.int .u32 n26), (.int .u8 n27), (.int .u8 n28), (.int .u8 n29), (.int .u8 n30), (.int .u8 n31), (.int .u8 n32), (.int .u8 n33)])] w185 fun e188 w189 =>
                 ∃ n190 : Int, ∃ b191 : Bool, (e188 = .returned (.tuple #[(.int .i64 n190), (.bool b191)])) ∧
                 (X.Kept L168 w185 w189) ∧
                 (([(.int .i64 n19), (.int .i64 n20), (.int .u8 n21), (.int .u8 n22), (.int .u16 n23), (.int .u8 n24), (.int .u16 n25), (.int .u32 n26), (.int .u8 n27), (.int .u8 n28), (.int .u8 n29), (.int .u8 n30), (.int .u8 n31), (.int .u8 n32), (.int .u8 n33)] : List Value) = [(.int .i64 n19), (.int .i64 n20), (.int .u8 n21), (.int .u8 n22), (.int .u16 n23), (.int .u8 n24), (.int .u16 n25), (.int .u32 n26), (.int .u8 n27), (.int .u8 n28), (.int .u8 n29), (.int .u8 n30), (.int .u8 n31), (.int .u8 n32), (.int .u8 n33)]) ∧
                 x34 ((n186 == n190) && (b187 == b191)) w189 (L168)
             else
              if (n19 == 5) = true then
               ∃ x151 : X.Facts, (X.FactsW x151 w16 []) ∧
               ∀ w152 : World, ∀ L153 : List Nat, (X.Hid [] w16 w152) →
               (X.NewL (w).heap.size [] w16 w152 L153) →
               X.CallX Try.prog 14 #[(.pointer (q9)), (.int .i64 n20)] w152 fun e154 w155 =>
                ∃ q156 : Option Addr, ∃ k157 : Nat, ∃ k158 : Nat, (e154 = .returned (.slice (q156) k157 k158)) ∧
                (X.Kept L153 w152 w155) ∧
                (X.FactsW x151 w155 (L153)) ∧
                X.CallX Try.prog 22 #[(.pointer (q12)), (.int .i64 n20)] w155 fun e159 w160 =>
                 ∃ q161 : Option Addr, ∃ k162 : Nat, ∃ k163 : Nat, (e159 = .returned (.slice (q161) k162 k163)) ∧
                 (X.Kept L153 w155 w160) ∧
                 (X.FactsW x151 w160 (L153)) ∧
                 X.CallX Try.prog 21 #[(.slice (q156) k157 k158), (.slice (q161) k162 k163)] w160 fun e164 w165 =>
                  ∃ b166 : Bool, (e164 = .returned (.bool b166)) ∧
                  (X.Kept L153 w160 w165) ∧
                  (X.FactsW x151 w165 (L153)) ∧
                  (([(.int .i64 n19), (.int .i64 n20), (.int .u8 n21), (.int .u8 n22), (.int .u16 n23), (.int .u8 n24), (.int .u16 n25), (.int .u32 n26), (.int .u8 n27), (.int .u8 n28), (.int .u8 n29), (.int .u8 n30), (.int .u8 n31), (.int .u8 n32), (.int .u8 n33)] : List Value) = [(.int .i64 n19), (.int .i64 n20), (.int .u8 n21), (.int .u8 n22), (.int .u16 n23), (.int .u8 n24), (.int .u16 n25), (.int .u32 n26), (.int .u8 n27), (.int .u8 n28), (.int .u8 n29), (.int .u8 n30), (.int .u8 n31), (.int .u8 n32), (.int .u8 n33)]) ∧
                  x34 b166 w165 (L153)
              else
               if (n19 == 6) = true then
                ∀ w141 : World, ∀ L142 : List Nat, (X.Hid [] w16 w141) →
                (X.NewL (w).heap.size [] w16 w141 L142) →
                X.CallX Try.prog 23 #[(.pointer (q9))] w141 fun e143 w144 =>
                 ∃ n145 : Int, ∃ b146 : Bool, (e143 = .returned (.tuple #[(.int .i64 n145), (.bool b146)])) ∧
                 (X.Kept L142 w141 w144) ∧
                 X.CallX Try.prog 24 #[(.pointer (q12))] w144 fun e147 w148 =>
                  ∃ n149 : Int, ∃ b150 : Bool, (e147 = .returned (.tuple #[(.int .i64 n149), (.bool b150)])) ∧
                  (X.Kept L142 w144 w148) ∧
                  (([(.int .i64 n19), (.int .i64 n20), (.int .u8 n21), (.int .u8 n22), (.int .u16 n23), (.int .u8 n24), (.int .u16 n25), (.int .u32 n26), (.int .u8 n27), (.int .u8 n28), (.int .u8 n29), (.int .u8 n30), (.int .u8 n31), (.int .u8 n32), (.int .u8 n33)] : List Value) = [(.int .i64 n19), (.int .i64 n20), (.int .u8 n21), (.int .u8 n22), (.int .u16 n23), (.int .u8 n24), (.int .u16 n25), (.int .u32 n26), (.int .u8 n27), (.int .u8 n28), (.int .u8 n29), (.int .u8 n30), (.int .u8 n31), (.int .u8 n32), (.int .u8 n33)]) ∧
                  x34 ((n145 == n149) && (b146 == b150)) w148 (L142)
               else
                ∀ w139 : World, ∀ L140 : List Nat, (X.Hid [] w16 w139) →
                (X.NewL (w).heap.size [] w16 w139 L140) →
                (([(.int .i64 n19), (.int .i64 n20), (.int .u8 n21), (.int .u8 n22), (.int .u16 n23), (.int .u8 n24), (.int .u16 n25), (.int .u32 n26), (.int .u8 n27), (.int .u8 n28), (.int .u8 n29), (.int .u8 n30), (.int .u8 n31), (.int .u8 n32), (.int .u8 n33)] : List Value) = [(.int .i64 n19), (.int .i64 n20), (.int .u8 n21), (.int .u8 n22), (.int .u16 n23), (.int .u8 n24), (.int .u16 n25), (.int .u32 n26), (.int .u8 n27), (.int .u8 n28), (.int .u8 n29), (.int .u8 n30), (.int .u8 n31), (.int .u8 n32), (.int .u8 n33)]) ∧
                x34 true w139 (L140)
          else
           if (n19 == 2) = true then
            ∃ x112 : X.Facts, (X.FactsW x112 w16 []) ∧
            ∀ w113 : World, ∀ L114 : List Nat, (X.Hid [] w16 w113) →
            (X.NewL (w).heap.size [] w16 w113 L114) →
            X.CallX Try.prog 8 #[(.agg #[(.int .u8 n21), (.int .u8 n22), (.int .u16 n23), (.int .u8 n24), (.int .u16 n25), (.int .u32 n26), (.int .u8 n27), (.int .u8 n28), (.int .u8 n29), (.int .u8 n30), (.int .u8 n31), (.int .u8 n32), (.int .u8 n33)])] w113 fun e115 w116 =>
             ∃ n117 : Int, ∃ n118 : Int, ∃ n119 : Int, ∃ n120 : Int, ∃ n121 : Int, ∃ n122 : Int, ∃ n123 : Int, ∃ n124 : Int, ∃ n125 : Int, ∃ n126 : Int, ∃ n127 : Int, ∃ n128 : Int, ∃ n129 : Int, (e115 = .returned (.agg #[(.int .u8 n117), (.int .u8 n118), (.int .u16 n119), (.int .u8 n120), (.int .u16 n121), (.int .u32 n122), (.int .u8 n123), (.int .u8 n124), (.int .u8 n125), (.int .u8 n126), (.int .u8 n127), (.int .u8 n128), (.int .u8 n129)])) ∧
             (X.Kept L114 w113 w116) ∧
             (X.FactsW x112 w116 (L114)) ∧
             X.CallX Try.prog 13 #[(.pointer (q9)), (.agg #[(.int .u8 n117), (.int .u8 n118), (.int .u16 n119), (.int .u8 n120), (.int .u16 n121), (.int .u32 n122), (.int .u8 n123), (.int .u8 n124), (.int .u8 n125), (.int .u8 n126), (.int .u8 n127), (.int .u8 n128), (.int .u8 n129)]), (.int .i64 n20)] w116 fun e130 w131 =>
              ∃ n132 : Int, (e130 = .returned (.int .i64 n132)) ∧
              (X.Kept L114 w116 w131) ∧
              (X.FactsW x112 w131 (L114)) ∧
              X.CallX Try.prog 12 #[(.int .i64 n132)] w131 fun e133 w134 =>
               ∃ n135 : Int, (e133 = .returned (.int .i64 n135)) ∧
               (X.Kept L114 w131 w134) ∧
               (X.FactsW x112 w134 (L114)) ∧
               X.CallX Try.prog 16 #[(.pointer (q12)), (.agg #[(.int .u8 n21), (.int .u8 n22), (.int .u16 n23), (.int .u8 n24), (.int .u16 n25), (.int .u32 n26), (.int .u8 n27), (.int .u8 n28), (.int .u8 n29), (.int .u8 n30), (.int .u8 n31), (.int .u8 n32), (.int .u8 n33)]), (.int .i64 n20)] w134 fun e136 w137 =>
                ∃ n138 : Int, (e136 = .returned (.int .i64 n138)) ∧
                (X.Kept L114 w134 w137) ∧
                (X.FactsW x112 w137 (L114)) ∧
                (([(.int .i64 n19), (.int .i64 n20), (.int .u8 n21), (.int .u8 n22), (.int .u16 n23), (.int .u8 n24), (.int .u16 n25), (.int .u32 n26), (.int .u8 n27), (.int .u8 n28), (.int .u8 n29), (.int .u8 n30), (.int .u8 n31), (.int .u8 n32), (.int .u8 n33)] : List Value) = [(.int .i64 n19), (.int .i64 n20), (.int .u8 n21), (.int .u8 n22), (.int .u16 n23), (.int .u8 n24), (.int .u16 n25), (.int .u32 n26), (.int .u8 n27), (.int .u8 n28), (.int .u8 n29), (.int .u8 n30), (.int .u8 n31), (.int .u8 n32), (.int .u8 n33)]) ∧
                x34 (n135 == n138) w137 (L114)
           else
            if (n19 == 3) = true then
             ∃ x88 : X.Facts, (X.FactsW x88 w16 []) ∧
             ∀ w89 : World, ∀ L90 : List Nat, (X.Hid [] w16 w89) →
             (X.NewL (w).heap.size [] w16 w89 L90) →
             X.CallX Try.prog 8 #[(.agg #[(.int .u8 n21), (.int .u8 n22), (.int .u16 n23), (.int .u8 n24), (.int .u16 n25), (.int .u32 n26), (.int .u8 n27), (.int .u8 n28), (.int .u8 n29), (.int .u8 n30), (.int .u8 n31), (.int .u8 n32), (.int .u8 n33)])] w89 fun e91 w92 =>
              ∃ n93 : Int, ∃ n94 : Int, ∃ n95 : Int, ∃ n96 : Int, ∃ n97 : Int, ∃ n98 : Int, ∃ n99 : Int, ∃ n100 : Int, ∃ n101 : Int, ∃ n102 : Int, ∃ n103 : Int, ∃ n104 : Int, ∃ n105 : Int, (e91 = .returned (.agg #[(.int .u8 n93), (.int .u8 n94), (.int .u16 n95), (.int .u8 n96), (.int .u16 n97), (.int .u32 n98), (.int .u8 n99), (.int .u8 n100), (.int .u8 n101), (.int .u8 n102), (.int .u8 n103), (.int .u8 n104), (.int .u8 n105)])) ∧
              (X.Kept L90 w89 w92) ∧
              (X.FactsW x88 w92 (L90)) ∧
              X.CallX Try.prog 17 #[(.pointer (q9)), (.agg #[(.int .u8 n93), (.int .u8 n94), (.int .u16 n95), (.int .u8 n96), (.int .u16 n97), (.int .u32 n98), (.int .u8 n99), (.int .u8 n100), (.int .u8 n101), (.int .u8 n102), (.int .u8 n103), (.int .u8 n104), (.int .u8 n105)])] w92 fun e106 w107 =>
               ∃ b108 : Bool, (e106 = .returned (.bool b108)) ∧
               (X.Kept L90 w92 w107) ∧
               (X.FactsW x88 w107 (L90)) ∧
               X.CallX Try.prog 18 #[(.pointer (q12)), (.agg #[(.int .u8 n21), (.int .u8 n22), (.int .u16 n23), (.int .u8 n24), (.int .u16 n25), (.int .u32 n26), (.int .u8 n27), (.int .u8 n28), (.int .u8 n29), (.int .u8 n30), (.int .u8 n31), (.int .u8 n32), (.int .u8 n33)])] w107 fun e109 w110 =>
                ∃ b111 : Bool, (e109 = .returned (.bool b111)) ∧
                (X.Kept L90 w107 w110) ∧
                (X.FactsW x88 w110 (L90)) ∧
                (([(.int .i64 n19), (.int .i64 n20), (.int .u8 n21), (.int .u8 n22), (.int .u16 n23), (.int .u8 n24), (.int .u16 n25), (.int .u32 n26), (.int .u8 n27), (.int .u8 n28), (.int .u8 n29), (.int .u8 n30), (.int .u8 n31), (.int .u8 n32), (.int .u8 n33)] : List Value) = [(.int .i64 n19), (.int .i64 n20), (.int .u8 n21), (.int .u8 n22), (.int .u16 n23), (.int .u8 n24), (.int .u16 n25), (.int .u32 n26), (.int .u8 n27), (.int .u8 n28), (.int .u8 n29), (.int .u8 n30), (.int .u8 n31), (.int .u8 n32), (.int .u8 n33)]) ∧
                x34 (b108 == b111) w110 (L90)
            else
             if (n19 == 4) = true then
              ∀ w63 : World, ∀ L64 : List Nat, (X.Hid [] w16 w63) →
              (X.NewL (w).heap.size [] w16 w63 L64) →
              X.CallX Try.prog 8 #[(.agg #[(.int .u8 n21), (.int .u8 n22), (.int .u16 n23), (.int .u8 n24), (.int .u16 n25), (.int .u32 n26), (.int .u8 n27), (.int .u8 n28), (.int .u8 n29), (.int .u8 n30), (.int .u8 n31), (.int .u8 n32), (.int .u8 n33)])] w63 fun e65 w66 =>
               ∃ n67 : Int, ∃ n68 : Int, ∃ n69 : Int, ∃ n70 : Int, ∃ n71 : Int, ∃ n72 : Int, ∃ n73 : Int, ∃ n74 : Int, ∃ n75 : Int, ∃ n76 : Int, ∃ n77 : Int, ∃ n78 : Int, ∃ n79 : Int, (e65 = .returned (.agg #[(.int .u8 n67), (.int .u8 n68), (.int .u16 n69), (.int .u8 n70), (.int .u16 n71), (.int .u32 n72), (.int .u8 n73), (.int .u8 n74), (.int .u8 n75), (.int .u8 n76), (.int .u8 n77), (.int .u8 n78), (.int .u8 n79)])) ∧
               (X.Kept L64 w63 w66) ∧
               X.CallX Try.prog 19 #[(.pointer (q9)), (.agg #[(.int .u8 n67), (.int .u8 n68), (.int .u16 n69), (.int .u8 n70), (.int .u16 n71), (.int .u32 n72), (.int .u8 n73), (.int .u8 n74), (.int .u8 n75), (.int .u8 n76), (.int .u8 n77), (.int .u8 n78), (.int .u8 n79)])] w66 fun e80 w81 =>
                ∃ n82 : Int, ∃ b83 : Bool, (e80 = .returned (.tuple #[(.int .i64 n82), (.bool b83)])) ∧
                (X.Kept L64 w66 w81) ∧
                X.CallX Try.prog 20 #[(.pointer (q12)), (.agg #[(.int .u8 n21), (.int .u8 n22), (.int .u16 n23), (.int .u8 n24), (.int .u16 n25), (.int .u32 n26), (.int .u8 n27), (.int .u8 n28), (.int .u8 n29), (.int .u8 n30), (.int .u8 n31), (.int .u8 n32), (.int .u8 n33)])] w81 fun e84 w85 =>
                 ∃ n86 : Int, ∃ b87 : Bool, (e84 = .returned (.tuple #[(.int .i64 n86), (.bool b87)])) ∧
                 (X.Kept L64 w81 w85) ∧
                 (([(.int .i64 n19), (.int .i64 n20), (.int .u8 n21), (.int .u8 n22), (.int .u16 n23), (.int .u8 n24), (.int .u16 n25), (.int .u32 n26), (.int .u8 n27), (.int .u8 n28), (.int .u8 n29), (.int .u8 n30), (.int .u8 n31), (.int .u8 n32), (.int .u8 n33)] : List Value) = [(.int .i64 n19), (.int .i64 n20), (.int .u8 n21), (.int .u8 n22), (.int .u16 n23), (.int .u8 n24), (.int .u16 n25), (.int .u32 n26), (.int .u8 n27), (.int .u8 n28), (.int .u8 n29), (.int .u8 n30), (.int .u8 n31), (.int .u8 n32), (.int .u8 n33)]) ∧
                 x34 ((n82 == n86) && (b83 == b87)) w85 (L64)
             else
              if (n19 == 5) = true then
               ∃ x47 : X.Facts, (X.FactsW x47 w16 []) ∧
               ∀ w48 : World, ∀ L49 : List Nat, (X.Hid [] w16 w48) →
               (X.NewL (w).heap.size [] w16 w48 L49) →
               X.CallX Try.prog 14 #[(.pointer (q9)), (.int .i64 n20)] w48 fun e50 w51 =>
                ∃ q52 : Option Addr, ∃ k53 : Nat, ∃ k54 : Nat, (e50 = .returned (.slice (q52) k53 k54)) ∧
                (X.Kept L49 w48 w51) ∧
                (X.FactsW x47 w51 (L49)) ∧
                X.CallX Try.prog 22 #[(.pointer (q12)), (.int .i64 n20)] w51 fun e55 w56 =>
                 ∃ q57 : Option Addr, ∃ k58 : Nat, ∃ k59 : Nat, (e55 = .returned (.slice (q57) k58 k59)) ∧
                 (X.Kept L49 w51 w56) ∧
                 (X.FactsW x47 w56 (L49)) ∧
                 X.CallX Try.prog 21 #[(.slice (q52) k53 k54), (.slice (q57) k58 k59)] w56 fun e60 w61 =>
                  ∃ b62 : Bool, (e60 = .returned (.bool b62)) ∧
                  (X.Kept L49 w56 w61) ∧
                  (X.FactsW x47 w61 (L49)) ∧
                  (([(.int .i64 n19), (.int .i64 n20), (.int .u8 n21), (.int .u8 n22), (.int .u16 n23), (.int .u8 n24), (.int .u16 n25), (.int .u32 n26), (.int .u8 n27), (.int .u8 n28), (.int .u8 n29), (.int .u8 n30), (.int .u8 n31), (.int .u8 n32), (.int .u8 n33)] : List Value) = [(.int .i64 n19), (.int .i64 n20), (.int .u8 n21), (.int .u8 n22), (.int .u16 n23), (.int .u8 n24), (.int .u16 n25), (.int .u32 n26), (.int .u8 n27), (.int .u8 n28), (.int .u8 n29), (.int .u8 n30), (.int .u8 n31), (.int .u8 n32), (.int .u8 n33)]) ∧
                  x34 b62 w61 (L49)
              else
               if (n19 == 6) = true then
                ∀ w37 : World, ∀ L38 : List Nat, (X.Hid [] w16 w37) →
                (X.NewL (w).heap.size [] w16 w37 L38) →
                X.CallX Try.prog 23 #[(.pointer (q9))] w37 fun e39 w40 =>
                 ∃ n41 : Int, ∃ b42 : Bool, (e39 = .returned (.tuple #[(.int .i64 n41), (.bool b42)])) ∧
                 (X.Kept L38 w37 w40) ∧
                 X.CallX Try.prog 24 #[(.pointer (q12))] w40 fun e43 w44 =>
                  ∃ n45 : Int, ∃ b46 : Bool, (e43 = .returned (.tuple #[(.int .i64 n45), (.bool b46)])) ∧
                  (X.Kept L38 w40 w44) ∧
                  (([(.int .i64 n19), (.int .i64 n20), (.int .u8 n21), (.int .u8 n22), (.int .u16 n23), (.int .u8 n24), (.int .u16 n25), (.int .u32 n26), (.int .u8 n27), (.int .u8 n28), (.int .u8 n29), (.int .u8 n30), (.int .u8 n31), (.int .u8 n32), (.int .u8 n33)] : List Value) = [(.int .i64 n19), (.int .i64 n20), (.int .u8 n21), (.int .u8 n22), (.int .u16 n23), (.int .u8 n24), (.int .u16 n25), (.int .u32 n26), (.int .u8 n27), (.int .u8 n28), (.int .u8 n29), (.int .u8 n30), (.int .u8 n31), (.int .u8 n32), (.int .u8 n33)]) ∧
                  x34 ((n41 == n45) && (b42 == b46)) w44 (L38)
               else
                ∀ w35 : World, ∀ L36 : List Nat, (X.Hid [] w16 w35) →
                (X.NewL (w).heap.size [] w16 w35 L36) →
                (([(.int .i64 n19), (.int .i64 n20), (.int .u8 n21), (.int .u8 n22), (.int .u16 n23), (.int .u8 n24), (.int .u16 n25), (.int .u32 n26), (.int .u8 n27), (.int .u8 n28), (.int .u8 n29), (.int .u8 n30), (.int .u8 n31), (.int .u8 n32), (.int .u8 n33)] : List Value) = [(.int .i64 n19), (.int .i64 n20), (.int .u8 n21), (.int .u8 n22), (.int .u16 n23), (.int .u8 n24), (.int .u16 n25), (.int .u32 n26), (.int .u8 n27), (.int .u8 n28), (.int .u8 n29), (.int .u8 n30), (.int .u8 n31), (.int .u8 n32), (.int .u8 n33)]) ∧
                x34 true w35 (L36)) ∧
        ∀ b347 : Bool, ∀ w348 : World, ∀ L349 : List Nat, (X.LF (w).heap.size w348 L349) →
        (x34 b347 w348 L349) →
        if ((!b347) == false) = true then
         X.CallX Try.prog 25 #[(.pointer (q9))] w348 fun e350 w351 =>
          ∃ n352 : Int, (e350 = .returned (.int .i64 n352)) ∧
          (X.Kept L349 w348 w351) ∧
          X.CallX Try.prog 26 #[(.pointer (q12))] w351 fun e353 w354 =>
           ∃ n355 : Int, (e353 = .returned (.int .i64 n355)) ∧
           (X.Kept L349 w351 w354) ∧
           if (false || (n352 != n355)) = true then
            R (.returned (.bool false)) w354
           else
            (x13 (IntKind.wrap .i64 (n15 + 1)) w354 (L349)) ∧
            Nat.le ((x14 (IntKind.wrap .i64 (n15 + 1)) w354) + 1) (x14 n15 w16)
        else
         R (.returned (.bool false)) w348
       else
        R (.returned (.bool true)) w16
  else
   X.CallX Try.prog 10 #[] w fun e1 w2 =>
    ∃ b3 : Bool, (e1 = .returned (.bool b3)) ∧
    ((w).heap.size ≤ (w2).heap.size) ∧
    R (.returned (.bool b3)) w2) :
    Calls Try.prog 5 #[.int .i64 a, .slice b bl bc] w R :=
  X.calls_of { isLoc := [8], sym := [], loops := [(6, .inv [(7, .int .i64)] [] true)], joins := [(2, ([(9, .bool)], []))] } Try.func5 (by kernel_rfl) h
end Go.Proofs
