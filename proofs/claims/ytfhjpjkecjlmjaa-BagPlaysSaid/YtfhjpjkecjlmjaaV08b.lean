import Derived.Test.YtfhjpjkecjlmjaaXFn
import Derived.Test.YtfhjpjkecjlmjaaProg
/- The verification conditions of this seat's functions, as the engine has them: printed by a program of the bench; checked by the kernel. -/
set_option maxRecDepth 100000
set_option linter.unusedVariables false
namespace Go.Proofs
open Go
abbrev fn_gemotlaw08_BagTrue : Nat := 3
theorem x_gemotlaw08_BagTrue (a : Option Addr) (al ac : Nat) (w : World) (R : Ending → World → Prop) (h :
  X.CallX Try.prog 7 #[(.slice (a) al ac)] w fun e1 w2 =>
   ∃ b3 : Bool, (e1 = .returned (.bool b3)) ∧
   ((w).heap.size ≤ (w2).heap.size) ∧
   if ((!b3) == false) = true then
    X.CallX Try.prog 8 #[] w2 fun e7 w8 =>
     ∃ b9 : Bool, (e7 = .returned (.bool b9)) ∧
     ((w2).heap.size ≤ (w8).heap.size) ∧
     if (false || (!b9)) = true then
      X.CallX Try.prog 8 #[] w8 fun e328 w329 =>
       ∃ b330 : Bool, (e328 = .returned (.bool b330)) ∧
       ((w8).heap.size ≤ (w329).heap.size) ∧
       R (.returned (.bool b330)) w329
     else
      X.CallX Try.prog 9 #[(.int .i64 200)] w8 fun e10 w11 =>
       ∃ q12 : Option Addr, (e10 = .returned (.pointer (q12))) ∧
       ((w8).heap.size ≤ (w11).heap.size) ∧
       ∃ x13 : Option Addr → Nat → Nat → Int → World → List Nat → Prop, ∃ x14 : Option Addr → Nat → Nat → Int → World → Nat, (x13 (none) 0 0 0 w11 []) ∧
       ∀ q15 : Option Addr, ∀ k16 : Nat, ∀ k17 : Nat, ∀ n18 : Int, ∀ w19 : World, ∀ L20 : List Nat, (X.LF (w).heap.size w19 L20) →
       (x13 q15 k16 k17 n18 w19 L20) →
       if (decide (n18 < ((al : Nat) : Int))) = true then
        (0 ≤ n18) ∧
        (n18 < ((al : Nat) : Int)) ∧
        X.onSome (a) fun p21 =>
        ∃ n22 : Int, ∃ n23 : Int, ∃ n24 : Int, ∃ n25 : Int, ∃ n26 : Int, ∃ n27 : Int, ∃ n28 : Int, ∃ n29 : Int, ∃ q30 : Option Addr, ∃ k31 : Nat, ∃ k32 : Nat, ∃ b33 : Bool, (X.Cells w19 (p21.add ((n18).toNat * 10)) [(.int .i64 n22), (.int .i64 n23), (.int .i64 n24), (.int .u32 n25), (.int .u8 n26), (.int .u16 n27), (.int .u8 n28), (.int .u16 n29), (.slice (q30) k31 k32), (.bool b33)]) ∧
        if (n22 == 0) = true then
         if (n22 == 0) = true then
          ∀ w309 : World, ∀ L310 : List Nat, (X.Hid [] w19 w309) →
          (X.NewL (w).heap.size [] w19 w309 L310) →
          X.CallX Try.prog 11 #[(.agg #[(.int .u8 n26), (.int .u16 n27), (.int .u8 n28), (.int .u16 n29), (.slice (q30) k31 k32), (.bool false)])] w309 fun e311 w312 =>
           ∃ n313 : Int, ∃ n314 : Int, ∃ n315 : Int, ∃ n316 : Int, ∃ q317 : Option Addr, ∃ k318 : Nat, ∃ k319 : Nat, ∃ b320 : Bool, (e311 = .returned (.agg #[(.int .u8 n313), (.int .u16 n314), (.int .u8 n315), (.int .u16 n316), (.slice (q317) k318 k319), (.bool b320)])) ∧
           (X.Kept L310 w309 w312) ∧
           X.CallX Try.prog 10 #[(.pointer (q12)), (.agg #[(.int .u8 n313), (.int .u16 n314), (.int .u8 n315), (.int .u16 n316), (.slice (q317) k318 k319), (.bool b320)])] w312 fun e321 w322 =>
            ∃ n323 : Int, (e321 = .returned (.int .i64 n323)) ∧
            (X.Kept L310 w312 w322) ∧
            ∃ q324 : Option Addr, ∃ k325 : Nat, ∃ k326 : Nat, ∃ w327 : World, (Sem.run Try.prog (Go.Builtin.append_ #[27, 27] 27 #[(.slice (q15) k16 k17), (.slice (some ⟨(w322).heap.size, 0, none⟩) 1 1)]) (w322.alloc (.cells #[(.int .u8 n26), (.int .u16 n27), (.int .u8 n28), (.int .u16 n29), (.slice (q30) k31 k32), (.bool false)] 34)) = .ok (.slice (q324) k325 k326) w327) ∧
            (X.Kept L310 (w322.alloc (.cells #[(.int .u8 n26), (.int .u16 n27), (.int .u8 n28), (.int .u16 n29), (.slice (q30) k31 k32), (.bool false)] 34)) w327) ∧
            (x13 q324 k325 k326 (IntKind.wrap .i64 (n18 + 1)) w327 (L310)) ∧
            Nat.le ((x14 q324 k325 k326 (IntKind.wrap .i64 (n18 + 1)) w327) + 1) (x14 q15 k16 k17 n18 w19)
         else
          if (n22 == 3) = true then
           ∀ w250 : World, ∀ L251 : List Nat, (X.Hid [] w19 w250) →
           (X.NewL (w).heap.size [] w19 w250 L251) →
           X.CallX Try.prog 12 #[(.pointer (q12)), (.int .i64 n23)] w250 fun e252 w253 =>
            ∃ n254 : Int, ∃ n255 : Int, ∃ n256 : Int, ∃ n257 : Int, ∃ q258 : Option Addr, ∃ k259 : Nat, ∃ k260 : Nat, ∃ b261 : Bool, ∃ n262 : Int, (e252 = .returned (.tuple #[(.agg #[(.int .u8 n254), (.int .u16 n255), (.int .u8 n256), (.int .u16 n257), (.slice (q258) k259 k260), (.bool b261)]), (.int .i64 n262)])) ∧
            (X.Kept L251 w250 w253) ∧
            ∀ w263 : World, ∀ L264 : List Nat, (X.Hid (L251) w253 w263) →
            (X.NewL (w).heap.size (L251) w253 w263 L264) →
            X.CallX Try.prog 16 #[(.int .i64 n262)] w263 fun e265 w266 =>
             ∃ n267 : Int, (e265 = .returned (.int .i64 n267)) ∧
             (X.Kept L264 w263 w266) ∧
             ∃ x268 : Bool → Int → World → List Nat → Prop, ∃ x269 : Bool → Int → World → Nat, (x268 (n267 != 0) 0 w266 (L264)) ∧
             ∀ b270 : Bool, ∀ n271 : Int, ∀ w272 : World, ∀ L273 : List Nat, (X.LF (w).heap.size w272 L273) →
             (x268 b270 n271 w272 L273) →
             if (decide (n271 < ((k16 : Nat) : Int)) && (!b270)) = true then
              ∃ x274 : X.Facts, (X.FactsW x274 w272 (L273)) ∧
              (0 ≤ n271) ∧
              (n271 < ((k16 : Nat) : Int)) ∧
              X.onSome (q15) fun p275 =>
              ∃ q276 : Option Addr, ∃ k277 : Nat, ∃ k278 : Nat, ((((p275.add ((n271).toNat * 6)).add 4), [(.slice (q276) k277 k278)]) ∈ x274) ∧
              ∀ w279 : World, ∀ L280 : List Nat, (X.Hid (L273) w272 w279) →
              (X.NewL (w).heap.size (L273) w272 w279 L280) →
              X.CallX Try.prog 17 #[(.slice (q276) k277 k278), (.slice (q258) k259 k260)] w279 fun e281 w282 =>
               ∃ n283 : Int, (e281 = .returned (.int .i64 n283)) ∧
               (X.Kept L280 w279 w282) ∧
               ∃ x284 : X.Facts, (X.FactsW x284 w282 (L280)) ∧
               (0 ≤ n271) ∧
               (n271 < ((k16 : Nat) : Int)) ∧
               X.onSome (q15) fun p285 =>
               ∃ n286 : Int, ∃ n287 : Int, ((((p285.add ((n271).toNat * 6)).add 0), [(.int .u8 n286), (.int .u16 n287)]) ∈ x284) ∧
               ∀ w288 : World, ∀ L289 : List Nat, (X.Hid (L280) w282 w288) →
               (X.NewL (w).heap.size (L280) w282 w288 L289) →
               X.CallX Try.prog 18 #[(.agg #[(.int .u8 n254), (.int .u16 n255)])] w288 fun e290 w291 =>
                ∃ n292 : Int, ∃ n293 : Int, (e290 = .returned (.agg #[(.int .u8 n292), (.int .u16 n293)])) ∧
                (X.Kept L289 w288 w291) ∧
                (X.FactsW x284 w291 (L289)) ∧
                ∃ x294 : X.Facts, (X.FactsW x294 w291 (L289)) ∧
                (∀ x295 : Addr × List Value, (x295 ∈ x284) →
                 x295 ∈ x294) ∧
                if (((n292 == n286) && (n293 == n287)) == true) = true then
                 (0 ≤ n271) ∧
                 (n271 < ((k16 : Nat) : Int)) ∧
                 X.onSome (q15) fun p300 =>
                 ∃ n301 : Int, ∃ n302 : Int, ((((p300.add ((n271).toNat * 6)).add 2), [(.int .u8 n301), (.int .u16 n302)]) ∈ x294) ∧
                 X.CallX Try.prog 18 #[(.agg #[(.int .u8 n256), (.int .u16 n257)])] w291 fun e303 w304 =>
                  ∃ n305 : Int, ∃ n306 : Int, (e303 = .returned (.agg #[(.int .u8 n305), (.int .u16 n306)])) ∧
                  (X.Kept L289 w291 w304) ∧
                  (X.FactsW x294 w304 (L289)) ∧
                  ∃ x307 : X.Facts, (X.FactsW x307 w304 (L289)) ∧
                  (∀ x308 : Addr × List Value, (x308 ∈ x294) →
                   x308 ∈ x307) ∧
                  (([(.int .i64 n22), (.int .i64 n23), (.int .i64 n24), (.int .u32 n25), (.int .u8 n26), (.int .u16 n27), (.int .u8 n28), (.int .u16 n29), (.slice (q30) k31 k32), (.bool false)] : List Value) = [(.int .i64 n22), (.int .i64 n23), (.int .i64 n24), (.int .u32 n25), (.int .u8 n26), (.int .u16 n27), (.int .u8 n28), (.int .u16 n29), (.slice (q30) k31 k32), (.bool false)]) ∧
                  (([(.int .u8 n254), (.int .u16 n255), (.int .u8 n256), (.int .u16 n257), (.slice (q258) k259 k260), (.bool b261)] : List Value) = [(.int .u8 n254), (.int .u16 n255), (.int .u8 n256), (.int .u16 n257), (.slice (q258) k259 k260), (.bool b261)]) ∧
                  (x268 ((true && ((n305 == n301) && (n306 == n302))) && (((n283 == 0) && (!b261)) || ((decide (n283 ≥ 1) && decide (n283 ≤ 4)) && b261))) (IntKind.wrap .i64 (n271 + 1)) w304 (L289)) ∧
                  Nat.le ((x269 ((true && ((n305 == n301) && (n306 == n302))) && (((n283 == 0) && (!b261)) || ((decide (n283 ≥ 1) && decide (n283 ≤ 4)) && b261))) (IntKind.wrap .i64 (n271 + 1)) w304) + 1) (x269 b270 n271 w272)
                else
                 ∃ x296 : X.Facts, (X.FactsW x296 w291 (L289)) ∧
                 (∀ x297 : Addr × List Value, (x297 ∈ x294) →
                  x297 ∈ x296) ∧
                 ∃ x298 : X.Facts, (X.FactsW x298 w291 (L289)) ∧
                 (∀ x299 : Addr × List Value, (x299 ∈ x296) →
                  x299 ∈ x298) ∧
                 (([(.int .i64 n22), (.int .i64 n23), (.int .i64 n24), (.int .u32 n25), (.int .u8 n26), (.int .u16 n27), (.int .u8 n28), (.int .u16 n29), (.slice (q30) k31 k32), (.bool false)] : List Value) = [(.int .i64 n22), (.int .i64 n23), (.int .i64 n24), (.int .u32 n25), (.int .u8 n26), (.int .u16 n27), (.int .u8 n28), (.int .u16 n29), (.slice (q30) k31 k32), (.bool false)]) ∧
                 (([(.int .u8 n254), (.int .u16 n255), (.int .u8 n256), (.int .u16 n257), (.slice (q258) k259 k260), (.bool b261)] : List Value) = [(.int .u8 n254), (.int .u16 n255), (.int .u8 n256), (.int .u16 n257), (.slice (q258) k259 k260), (.bool b261)]) ∧
                 (x268 (false && (((n283 == 0) && (!b261)) || ((decide (n283 ≥ 1) && decide (n283 ≤ 4)) && b261))) (IntKind.wrap .i64 (n271 + 1)) w291 (L289)) ∧
                 Nat.le ((x269 (false && (((n283 == 0) && (!b261)) || ((decide (n283 ≥ 1) && decide (n283 ≤ 4)) && b261))) (IntKind.wrap .i64 (n271 + 1)) w291) + 1) (x269 b270 n271 w272)
             else
              if (!b270) = true then
               R (.returned (.bool false)) w272
              else
               (x13 q15 k16 k17 (IntKind.wrap .i64 (n18 + 1)) w272 (L273)) ∧
               Nat.le ((x14 q15 k16 k17 (IntKind.wrap .i64 (n18 + 1)) w272) + 1) (x14 q15 k16 k17 n18 w19)
          else
           if (n22 == 4) = true then
            ∀ w245 : World, ∀ L246 : List Nat, (X.Hid [] w19 w245) →
            (X.NewL (w).heap.size [] w19 w245 L246) →
            X.CallX Try.prog 13 #[(.pointer (q12)), (.int .i64 n23)] w245 fun e247 w248 =>
             ∃ n249 : Int, (e247 = .returned (.int .i64 n249)) ∧
             (X.Kept L246 w245 w248) ∧
             (x13 q15 k16 k17 (IntKind.wrap .i64 (n18 + 1)) w248 (L246)) ∧
             Nat.le ((x14 q15 k16 k17 (IntKind.wrap .i64 (n18 + 1)) w248) + 1) (x14 q15 k16 k17 n18 w19)
           else
            if (n22 == 5) = true then
             ∀ w240 : World, ∀ L241 : List Nat, (X.Hid [] w19 w240) →
             (X.NewL (w).heap.size [] w19 w240 L241) →
             X.CallX Try.prog 14 #[(.pointer (q12)), (.int .i64 n23), (.int .i64 n24), (.int .u32 n25)] w240 fun e242 w243 =>
              ∃ n244 : Int, (e242 = .returned (.int .i64 n244)) ∧
              (X.Kept L241 w240 w243) ∧
              (x13 q15 k16 k17 (IntKind.wrap .i64 (n18 + 1)) w243 (L241)) ∧
              Nat.le ((x14 q15 k16 k17 (IntKind.wrap .i64 (n18 + 1)) w243) + 1) (x14 q15 k16 k17 n18 w19)
            else
             ∀ w181 : World, ∀ L182 : List Nat, (X.Hid [] w19 w181) →
             (X.NewL (w).heap.size [] w19 w181 L182) →
             X.CallX Try.prog 15 #[(.pointer (q12)), (.int .i64 n23)] w181 fun e183 w184 =>
              ∃ n185 : Int, ∃ n186 : Int, ∃ n187 : Int, ∃ n188 : Int, ∃ q189 : Option Addr, ∃ k190 : Nat, ∃ k191 : Nat, ∃ b192 : Bool, ∃ n193 : Int, (e183 = .returned (.tuple #[(.agg #[(.int .u8 n185), (.int .u16 n186), (.int .u8 n187), (.int .u16 n188), (.slice (q189) k190 k191), (.bool b192)]), (.int .i64 n193)])) ∧
              (X.Kept L182 w181 w184) ∧
              ∀ w194 : World, ∀ L195 : List Nat, (X.Hid (L182) w184 w194) →
              (X.NewL (w).heap.size (L182) w184 w194 L195) →
              X.CallX Try.prog 16 #[(.int .i64 n193)] w194 fun e196 w197 =>
               ∃ n198 : Int, (e196 = .returned (.int .i64 n198)) ∧
               (X.Kept L195 w194 w197) ∧
               ∃ x199 : Bool → Int → World → List Nat → Prop, ∃ x200 : Bool → Int → World → Nat, (x199 (n198 != 0) 0 w197 (L195)) ∧
               ∀ b201 : Bool, ∀ n202 : Int, ∀ w203 : World, ∀ L204 : List Nat, (X.LF (w).heap.size w203 L204) →
               (x199 b201 n202 w203 L204) →
               if (decide (n202 < ((k16 : Nat) : Int)) && (!b201)) = true then
                ∃ x205 : X.Facts, (X.FactsW x205 w203 (L204)) ∧
                (0 ≤ n202) ∧
                (n202 < ((k16 : Nat) : Int)) ∧
                X.onSome (q15) fun p206 =>
                ∃ q207 : Option Addr, ∃ k208 : Nat, ∃ k209 : Nat, ((((p206.add ((n202).toNat * 6)).add 4), [(.slice (q207) k208 k209)]) ∈ x205) ∧
                ∀ w210 : World, ∀ L211 : List Nat, (X.Hid (L204) w203 w210) →
                (X.NewL (w).heap.size (L204) w203 w210 L211) →
                X.CallX Try.prog 17 #[(.slice (q207) k208 k209), (.slice (q189) k190 k191)] w210 fun e212 w213 =>
                 ∃ n214 : Int, (e212 = .returned (.int .i64 n214)) ∧
                 (X.Kept L211 w210 w213) ∧
                 ∃ x215 : X.Facts, (X.FactsW x215 w213 (L211)) ∧
                 (0 ≤ n202) ∧
                 (n202 < ((k16 : Nat) : Int)) ∧
                 X.onSome (q15) fun p216 =>
                 ∃ n217 : Int, ∃ n218 : Int, ((((p216.add ((n202).toNat * 6)).add 0), [(.int .u8 n217), (.int .u16 n218)]) ∈ x215) ∧
                 ∀ w219 : World, ∀ L220 : List Nat, (X.Hid (L211) w213 w219) →
                 (X.NewL (w).heap.size (L211) w213 w219 L220) →
                 X.CallX Try.prog 18 #[(.agg #[(.int .u8 n185), (.int .u16 n186)])] w219 fun e221 w222 =>
                  ∃ n223 : Int, ∃ n224 : Int, (e221 = .returned (.agg #[(.int .u8 n223), (.int .u16 n224)])) ∧
                  (X.Kept L220 w219 w222) ∧
                  (X.FactsW x215 w222 (L220)) ∧
                  ∃ x225 : X.Facts, (X.FactsW x225 w222 (L220)) ∧
                  (∀ x226 : Addr × List Value, (x226 ∈ x215) →
                   x226 ∈ x225) ∧
                  if (((n223 == n217) && (n224 == n218)) == true) = true then
                   (0 ≤ n202) ∧
                   (n202 < ((k16 : Nat) : Int)) ∧
                   X.onSome (q15) fun p231 =>
                   ∃ n232 : Int, ∃ n233 : Int, ((((p231.add ((n202).toNat * 6)).add 2), [(.int .u8 n232), (.int .u16 n233)]) ∈ x225) ∧
                   X.CallX Try.prog 18 #[(.agg #[(.int .u8 n187), (.int .u16 n188)])] w222 fun e234 w235 =>
                    ∃ n236 : Int, ∃ n237 : Int, (e234 = .returned (.agg #[(.int .u8 n236), (.int .u16 n237)])) ∧
                    (X.Kept L220 w222 w235) ∧
                    (X.FactsW x225 w235 (L220)) ∧
                    ∃ x238 : X.Facts, (X.FactsW x238 w235 (L220)) ∧
                    (∀ x239 : Addr × List Value, (x239 ∈ x225) →
                     x239 ∈ x238) ∧
                    (([(.int .i64 n22), (.int .i64 n23), (.int .i64 n24), (.int .u32 n25), (.int .u8 n26), (.int .u16 n27), (.int .u8 n28), (.int .u16 n29), (.slice (q30) k31 k32), (.bool false)] : List Value) = [(.int .i64 n22), (.int .i64 n23), (.int .i64 n24), (.int .u32 n25), (.int .u8 n26), (.int .u16 n27), (.int .u8 n28), (.int .u16 n29), (.slice (q30) k31 k32), (.bool false)]) ∧
                    (([(.int .u8 n185), (.int .u16 n186), (.int .u8 n187), (.int .u16 n188), (.slice (q189) k190 k191), (.bool b192)] : List Value) = [(.int .u8 n185), (.int .u16 n186), (.int .u8 n187), (.int .u16 n188), (.slice (q189) k190 k191), (.bool b192)]) ∧
                    (x199 ((true && ((n236 == n232) && (n237 == n233))) && (((n214 == 0) && (!b192)) || ((decide (n214 ≥ 1) && decide (n214 ≤ 4)) && b192))) (IntKind.wrap .i64 (n202 + 1)) w235 (L220)) ∧
                    Nat.le ((x200 ((true && ((n236 == n232) && (n237 == n233))) && (((n214 == 0) && (!b192)) || ((decide (n214 ≥ 1) && decide (n214 ≤ 4)) && b192))) (IntKind.wrap .i64 (n202 + 1)) w235) + 1) (x200 b201 n202 w203)
                  else
                   ∃ x227 : X.Facts, (X.FactsW x227 w222 (L220)) ∧
                   (∀ x228 : Addr × List Value, (x228 ∈ x225) →
                    x228 ∈ x227) ∧
                   ∃ x229 : X.Facts, (X.FactsW x229 w222 (L220)) ∧
                   (∀ x230 : Addr × List Value, (x230 ∈ x227) →
                    x230 ∈ x229) ∧
                   (([(.int .i64 n22), (.int .i64 n23), (.int .i64 n24), (.int .u32 n25), (.int .u8 n26), (.int .u16 n27), (.int .u8 n28), (.int .u16 n29), (.slice (q30) k31 k32), (.bool false)] : List Value) = [(.int .i64 n22), (.int .i64 n23), (.int .i64 n24), (.int .u32 n25), (.int .u8 n26), (.int .u16 n27), (.int .u8 n28), (.int .u16 n29), (.slice (q30) k31 k32), (.bool false)]) ∧
                   (([(.int .u8 n185), (.int .u16 n186), (.int .u8 n187), (.int .u16 n188), (.slice (q189) k190 k191), (.bool b192)] : List Value) = [(.int .u8 n185), (.int .u16 n186), (.int .u8 n187), (.int .u16 n188), (.slice (q189) k190 k191), (.bool b192)]) ∧
                   (x199 (false && (((n214 == 0) && (!b192)) || ((decide (n214 ≥ 1) && decide (n214 ≤ 4)) && b192))) (IntKind.wrap .i64 (n202 + 1)) w222 (L220)) ∧
                   Nat.le ((x200 (false && (((n214 == 0) && (!b192)) || ((decide (n214 ≥ 1) && decide (n214 ≤ 4)) && b192))) (IntKind.wrap .i64 (n202 + 1)) w222) + 1) (x200 b201 n202 w203)
               else
                if (!b201) = true then
                 R (.returned (.bool false)) w203
                else
                 (x13 q15 k16 k17 (IntKind.wrap .i64 (n18 + 1)) w203 (L204)) ∧
                 Nat.le ((x14 q15 k16 k17 (IntKind.wrap .i64 (n18 + 1)) w203) + 1) (x14 q15 k16 k17 n18 w19)
        else
         if (n22 == 1) = true then
          ∀ w162 : World, ∀ L163 : List Nat, (X.Hid [] w19 w162) →
          (X.NewL (w).heap.size [] w19 w162 L163) →
          X.CallX Try.prog 11 #[(.agg #[(.int .u8 n26), (.int .u16 n27), (.int .u8 n28), (.int .u16 n29), (.slice (q30) k31 k32), (.bool false)])] w162 fun e164 w165 =>
           ∃ n166 : Int, ∃ n167 : Int, ∃ n168 : Int, ∃ n169 : Int, ∃ q170 : Option Addr, ∃ k171 : Nat, ∃ k172 : Nat, ∃ b173 : Bool, (e164 = .returned (.agg #[(.int .u8 n166), (.int .u16 n167), (.int .u8 n168), (.int .u16 n169), (.slice (q170) k171 k172), (.bool b173)])) ∧
           (X.Kept L163 w162 w165) ∧
           X.CallX Try.prog 10 #[(.pointer (q12)), (.agg #[(.int .u8 n166), (.int .u16 n167), (.int .u8 n168), (.int .u16 n169), (.slice (q170) k171 k172), (.bool b173)])] w165 fun e174 w175 =>
            ∃ n176 : Int, (e174 = .returned (.int .i64 n176)) ∧
            (X.Kept L163 w165 w175) ∧
            ∃ q177 : Option Addr, ∃ k178 : Nat, ∃ k179 : Nat, ∃ w180 : World, (Sem.run Try.prog (Go.Builtin.append_ #[27, 27] 27 #[(.slice (q15) k16 k17), (.slice (some ⟨(w175).heap.size, 0, none⟩) 1 1)]) (w175.alloc (.cells #[(.int .u8 n26), (.int .u16 n27), (.int .u8 n28), (.int .u16 n29), (.slice (q30) k31 k32), (.bool false)] 34)) = .ok (.slice (q177) k178 k179) w180) ∧
            (X.Kept L163 (w175.alloc (.cells #[(.int .u8 n26), (.int .u16 n27), (.int .u8 n28), (.int .u16 n29), (.slice (q30) k31 k32), (.bool false)] 34)) w180) ∧
            (x13 q177 k178 k179 (IntKind.wrap .i64 (n18 + 1)) w180 (L163)) ∧
            Nat.le ((x14 q177 k178 k179 (IntKind.wrap .i64 (n18 + 1)) w180) + 1) (x14 q15 k16 k17 n18 w19)
         else
          if (n22 == 3) = true then
           ∀ w103 : World, ∀ L104 : List Nat, (X.Hid [] w19 w103) →
           (X.NewL (w).heap.size [] w19 w103 L104) →
           X.CallX Try.prog 12 #[(.pointer (q12)), (.int .i64 n23)] w103 fun e105 w106 =>
            ∃ n107 : Int, ∃ n108 : Int, ∃ n109 : Int, ∃ n110 : Int, ∃ q111 : Option Addr, ∃ k112 : Nat, ∃ k113 : Nat, ∃ b114 : Bool, ∃ n115 : Int, (e105 = .returned (.tuple #[(.agg #[(.int .u8 n107), (.int .u16 n108), (.int .u8 n109), (.int .u16 n110), (.slice (q111) k112 k113), (.bool b114)]), (.int .i64 n115)])) ∧
            (X.Kept L104 w103 w106) ∧
            ∀ w116 : World, ∀ L117 : List Nat, (X.Hid (L104) w106 w116) →
            (X.NewL (w).heap.size (L104) w106 w116 L117) →
            X.CallX Try.prog 16 #[(.int .i64 n115)] w116 fun e118 w119 =>
             ∃ n120 : Int, (e118 = .returned (.int .i64 n120)) ∧
             (X.Kept L117 w116 w119) ∧
             ∃ x121 : Bool → Int → World → List Nat → Prop, ∃ x122 : Bool → Int → World → Nat, (x121 (n120 != 0) 0 w119 (L117)) ∧
             ∀ b123 : Bool, ∀ n124 : Int, ∀ w125 : World, ∀ L126 : List Nat, (X.LF (w).heap.size w125 L126) →
             (x121 b123 n124 w125 L126) →
             if (decide (n124 < ((k16 : Nat) : Int)) && (!b123)) = true then
              ∃ x127 : X.Facts, (X.FactsW x127 w125 (L126)) ∧
              (0 ≤ n124) ∧
              (n124 < ((k16 : Nat) : Int)) ∧
              X.onSome (q15) fun p128 =>
              ∃ q129 : Option Addr, ∃ k130 : Nat, ∃ k131 : Nat, ((((p128.add ((n124).toNat * 6)).add 4), [(.slice (q129) k130 k131)]) ∈ x127) ∧
              ∀ w132 : World, ∀ L133 : List Nat, (X.Hid (L126) w125 w132) →
              (X.NewL (w).heap.size (L126) w125 w132 L133) →
              X.CallX Try.prog 17 #[(.slice (q129) k130 k131), (.slice (q111) k112 k113)] w132 fun e134 w135 =>
               ∃ n136 : Int, (e134 = .returned (.int .i64 n136)) ∧
               (X.Kept L133 w132 w135) ∧
               ∃ x137 : X.Facts, (X.FactsW x137 w135 (L133)) ∧
               (0 ≤ n124) ∧
               (n124 < ((k16 : Nat) : Int)) ∧
               X.onSome (q15) fun p138 =>
               ∃ n139 : Int, ∃ n140 : Int, ((((p138.add ((n124).toNat * 6)).add 0), [(.int .u8 n139), (.int .u16 n140)]) ∈ x137) ∧
               ∀ w141 : World, ∀ L142 : List Nat, (X.Hid (L133) w135 w141) →
               (X.NewL (w).heap.size (L133) w135 w141 L142) →
               X.CallX Try.prog 18 #[(.agg #[(.int .u8 n107), (.int .u16 n108)])] w141 fun e143 w144 =>
                ∃ n145 : Int, ∃ n146 : Int, (e143 = .returned (.agg #[(.int .u8 n145), (.int .u16 n146)])) ∧
                (X.Kept L142 w141 w144) ∧
                (X.FactsW x137 w144 (L142)) ∧
                ∃ x147 : X.Facts, (X.FactsW x147 w144 (L142)) ∧
                (∀ x148 : Addr × List Value, (x148 ∈ x137) →
                 x148 ∈ x147) ∧
                if (((n145 == n139) && (n146 == n140)) == true) = true then
                 (0 ≤ n124) ∧
                 (n124 < ((k16 : Nat) : Int)) ∧
                 X.onSome (q15) fun p153 =>
                 ∃ n154 : Int, ∃ n155 : Int, ((((p153.add ((n124).toNat * 6)).add 2), [(.int .u8 n154), (.int .u16 n155)]) ∈ x147) ∧
                 X.CallX Try.prog 18 #[(.agg #[(.int .u8 n109), (.int .u16 n110)])] w144 fun e156 w157 =>
                  ∃ n158 : Int, ∃ n159 : Int, (e156 = .returned (.agg #[(.int .u8 n158), (.int .u16 n159)])) ∧
                  (X.Kept L142 w144 w157) ∧
                  (X.FactsW x147 w157 (L142)) ∧
                  ∃ x160 : X.Facts, (X.FactsW x160 w157 (L142)) ∧
                  (∀ x161 : Addr × List Value, (x161 ∈ x147) →
                   x161 ∈ x160) ∧
                  (([(.int .i64 n22), (.int .i64 n23), (.int .i64 n24), (.int .u32 n25), (.int .u8 n26), (.int .u16 n27), (.int .u8 n28), (.int .u16 n29), (.slice (q30) k31 k32), (.bool false)] : List Value) = [(.int .i64 n22), (.int .i64 n23), (.int .i64 n24), (.int .u32 n25), (.int .u8 n26), (.int .u16 n27), (.int .u8 n28), (.int .u16 n29), (.slice (q30) k31 k32), (.bool false)]) ∧
                  (([(.int .u8 n107), (.int .u16 n108), (.int .u8 n109), (.int .u16 n110), (.slice (q111) k112 k113), (.bool b114)] : List Value) = [(.int .u8 n107), (.int .u16 n108), (.int .u8 n109), (.int .u16 n110), (.slice (q111) k112 k113), (.bool b114)]) ∧
                  (x121 ((true && ((n158 == n154) && (n159 == n155))) && (((n136 == 0) && (!b114)) || ((decide (n136 ≥ 1) && decide (n136 ≤ 4)) && b114))) (IntKind.wrap .i64 (n124 + 1)) w157 (L142)) ∧
                  Nat.le ((x122 ((true && ((n158 == n154) && (n159 == n155))) && (((n136 == 0) && (!b114)) || ((decide (n136 ≥ 1) && decide (n136 ≤ 4)) && b114))) (IntKind.wrap .i64 (n124 + 1)) w157) + 1) (x122 b123 n124 w125)
                else
                 ∃ x149 : X.Facts, (X.FactsW x149 w144 (L142)) ∧
                 (∀ x150 : Addr × List Value, (x150 ∈ x147) →
                  x150 ∈ x149) ∧
                 ∃ x151 : X.Facts, (X.FactsW x151 w144 (L142)) ∧
                 (∀ x152 : Addr × List Value, (x152 ∈ x149) →
                  x152 ∈ x151) ∧
                 (([(.int .i64 n22), (.int .i64 n23), (.int .i64 n24), (.int .u32 n25), (.int .u8 n26), (.int .u16 n27), (.int .u8 n28), (.int .u16 n29), (.slice (q30) k31 k32), (.bool false)] : List Value) = [(.int .i64 n22), (.int .i64 n23), (.int .i64 n24), (.int .u32 n25), (.int .u8 n26), (.int .u16 n27), (.int .u8 n28), (.int .u16 n29), (.slice (q30) k31 k32), (.bool false)]) ∧
                 (([(.int .u8 n107), (.int .u16 n108), (.int .u8 n109), (.int .u16 n110), (.slice (q111) k112 k113), (.bool b114)] : List Value) = [(.int .u8 n107), (.int .u16 n108), (.int .u8 n109), (.int .u16 n110), (.slice (q111) k112 k113), (.bool b114)]) ∧
                 (x121 (false && (((n136 == 0) && (!b114)) || ((decide (n136 ≥ 1) && decide (n136 ≤ 4)) && b114))) (IntKind.wrap .i64 (n124 + 1)) w144 (L142)) ∧
                 Nat.le ((x122 (false && (((n136 == 0) && (!b114)) || ((decide (n136 ≥ 1) && decide (n136 ≤ 4)) && b114))) (IntKind.wrap .i64 (n124 + 1)) w144) + 1) (x122 b123 n124 w125)
             else
              if (!b123) = true then
               R (.returned (.bool false)) w125
              else
               (x13 q15 k16 k17 (IntKind.wrap .i64 (n18 + 1)) w125 (L126)) ∧
               Nat.le ((x14 q15 k16 k17 (IntKind.wrap .i64 (n18 + 1)) w125) + 1) (x14 q15 k16 k17 n18 w19)
          else
           if (n22 == 4) = true then
            ∀ w98 : World, ∀ L99 : List Nat, (X.Hid [] w19 w98) →
            (X.NewL (w).heap.size [] w19 w98 L99) →
            X.CallX Try.prog 13 #[(.pointer (q12)), (.int .i64 n23)] w98 fun e100 w101 =>
             ∃ n102 : Int, (e100 = .returned (.int .i64 n102)) ∧
             (X.Kept L99 w98 w101) ∧
             (x13 q15 k16 k17 (IntKind.wrap .i64 (n18 + 1)) w101 (L99)) ∧
             Nat.le ((x14 q15 k16 k17 (IntKind.wrap .i64 (n18 + 1)) w101) + 1) (x14 q15 k16 k17 n18 w19)
           else
            if (n22 == 5) = true then
             ∀ w93 : World, ∀ L94 : List Nat, (X.Hid [] w19 w93) →
             (X.NewL (w).heap.size [] w19 w93 L94) →
             X.CallX Try.prog 14 #[(.pointer (q12)), (.int .i64 n23), (.int .i64 n24), (.int .u32 n25)] w93 fun e95 w96 =>
              ∃ n97 : Int, (e95 = .returned (.int .i64 n97)) ∧
              (X.Kept L94 w93 w96) ∧
              (x13 q15 k16 k17 (IntKind.wrap .i64 (n18 + 1)) w96 (L94)) ∧
              Nat.le ((x14 q15 k16 k17 (IntKind.wrap .i64 (n18 + 1)) w96) + 1) (x14 q15 k16 k17 n18 w19)
            else
             ∀ w34 : World, ∀ L35 : List Nat, (X.Hid [] w19 w34) →
             (X.NewL (w).heap.size [] w19 w34 L35) →
             X.CallX Try.prog 15 #[(.pointer (q12)), (.int .i64 n23)] w34 fun e36 w37 =>
              ∃ n38 : Int, ∃ n39 : Int, ∃ n40 : Int, ∃ n41 : Int, ∃ q42 : Option Addr, ∃ k43 : Nat, ∃ k44 : Nat, ∃ b45 : Bool, ∃ n46 : Int, (e36 = .returned (.tuple #[(.agg #[(.int .u8 n38), (.int .u16 n39), (.int .u8 n40), (.int .u16 n41), (.slice (q42) k43 k44), (.bool b45)]), (.int .i64 n46)])) ∧
              (X.Kept L35 w34 w37) ∧
              ∀ w47 : World, ∀ L48 : List Nat, (X.Hid (L35) w37 w47) →
              (X.NewL (w).heap.size (L35) w37 w47 L48) →
              X.CallX Try.prog 16 #[(.int .i64 n46)] w47 fun e49 w50 =>
               ∃ n51 : Int, (e49 = .returned (.int .i64 n51)) ∧
               (X.Kept L48 w47 w50) ∧
               ∃ x52 : Bool → Int → World → List Nat → Prop, ∃ x53 : Bool → Int → World → Nat, (x52 (n51 != 0) 0 w50 (L48)) ∧
               ∀ b54 : Bool, ∀ n55 : Int, ∀ w56 : World, ∀ L57 : List Nat, (X.LF (w).heap.size w56 L57) →
               (x52 b54 n55 w56 L57) →
               if (decide (n55 < ((k16 : Nat) : Int)) && (!b54)) = true then
                ∃ x58 : X.Facts, (X.FactsW x58 w56 (L57)) ∧
                (0 ≤ n55) ∧
                (n55 < ((k16 : Nat) : Int)) ∧
                X.onSome (q15) fun p59 =>
                ∃ q60 : Option Addr, ∃ k61 : Nat, ∃ k62 : Nat, ((((p59.add ((n55).toNat * 6)).add 4), [(.slice (q60) k61 k62)]) ∈ x58) ∧
                ∀ w63 : World, ∀ L64 : List Nat, (X.Hid (L57) w56 w63) →
                (X.NewL (w).heap.size (L57) w56 w63 L64) →
                X.CallX Try.prog 17 #[(.slice (q60) k61 k62), (.slice (q42) k43 k44)] w63 fun e65 w66 =>
                 ∃ n67 : Int, (e65 = .returned (.int .i64 n67)) ∧
                 (X.Kept L64 w63 w66) ∧
                 ∃ x68 : X.Facts, (X.FactsW x68 w66 (L64)) ∧
                 (0 ≤ n55) ∧
                 (n55 < ((k16 : Nat) : Int)) ∧
                 X.onSome (q15) fun p69 =>
                 ∃ n70 : Int, ∃ n71 : Int, ((((p69.add ((n55).toNat * 6)).add 0), [(.int .u8 n70), (.int .u16 n71)]) ∈ x68) ∧
                 ∀ w72 : World, ∀ L73 : List Nat, (X.Hid (L64) w66 w72) →
                 (X.NewL (w).heap.size (L64) w66 w72 L73) →
                 X.CallX Try.prog 18 #[(.agg #[(.int .u8 n38), (.int .u16 n39)])] w72 fun e74 w75 =>
                  ∃ n76 : Int, ∃ n77 : Int, (e74 = .returned (.agg #[(.int .u8 n76), (.int .u16 n77)])) ∧
                  (X.Kept L73 w72 w75) ∧
                  (X.FactsW x68 w75 (L73)) ∧
                  ∃ x78 : X.Facts, (X.FactsW x78 w75 (L73)) ∧
                  (∀ x79 : Addr × List Value, (x79 ∈ x68) →
                   x79 ∈ x78) ∧
                  if (((n76 == n70) && (n77 == n71)) == true) = true then
                   (0 ≤ n55) ∧
                   (n55 < ((k16 : Nat) : Int)) ∧
                   X.onSome (q15) fun p84 =>
                   ∃ n85 : Int, ∃ n86 : Int, ((((p84.add ((n55).toNat * 6)).add 2), [(.int .u8 n85), (.int .u16 n86)]) ∈ x78) ∧
                   X.CallX Try.prog 18 #[(.agg #[(.int .u8 n40), (.int .u16 n41)])] w75 fun e87 w88 =>
                    ∃ n89 : Int, ∃ n90 : Int, (e87 = .returned (.agg #[(.int .u8 n89), (.int .u16 n90)])) ∧
                    (X.Kept L73 w75 w88) ∧
                    (X.FactsW x78 w88 (L73)) ∧
                    ∃ x91 : X.Facts, (X.FactsW x91 w88 (L73)) ∧
                    (∀ x92 : Addr × List Value, (x92 ∈ x78) →
                     x92 ∈ x91) ∧
                    (([(.int .i64 n22), (.int .i64 n23), (.int .i64 n24), (.int .u32 n25), (.int .u8 n26), (.int .u16 n27), (.int .u8 n28), (.int .u16 n29), (.slice (q30) k31 k32), (.bool false)] : List Value) = [(.int .i64 n22), (.int .i64 n23), (.int .i64 n24), (.int .u32 n25), (.int .u8 n26), (.int .u16 n27), (.int .u8 n28), (.int .u16 n29), (.slice (q30) k31 k32), (.bool false)]) ∧
                    (([(.int .u8 n38), (.int .u16 n39), (.int .u8 n40), (.int .u16 n41), (.slice (q42) k43 k44), (.bool b45)] : List Value) = [(.int .u8 n38), (.int .u16 n39), (.int .u8 n40), (.int .u16 n41), (.slice (q42) k43 k44), (.bool b45)]) ∧
                    (x52 ((true && ((n89 == n85) && (n90 == n86))) && (((n67 == 0) && (!b45)) || ((decide (n67 ≥ 1) && decide (n67 ≤ 4)) && b45))) (IntKind.wrap .i64 (n55 + 1)) w88 (L73)) ∧
                    Nat.le ((x53 ((true && ((n89 == n85) && (n90 == n86))) && (((n67 == 0) && (!b45)) || ((decide (n67 ≥ 1) && decide (n67 ≤ 4)) && b45))) (IntKind.wrap .i64 (n55 + 1)) w88) + 1) (x53 b54 n55 w56)
                  else
                   ∃ x80 : X.Facts, (X.FactsW x80 w75 (L73)) ∧
                   (∀ x81 : Addr × List Value, (x81 ∈ x78) →
                    x81 ∈ x80) ∧
                   ∃ x82 : X.Facts, (X.FactsW x82 w75 (L73)) ∧
                   (∀ x83 : Addr × List Value, (x83 ∈ x80) →
                    x83 ∈ x82) ∧
                   (([(.int .i64 n22), (.int .i64 n23), (.int .i64 n24), (.int .u32 n25), (.int .u8 n26), (.int .u16 n27), (.int .u8 n28), (.int .u16 n29), (.slice (q30) k31 k32), (.bool false)] : List Value) = [(.int .i64 n22), (.int .i64 n23), (.int .i64 n24), (.int .u32 n25), (.int .u8 n26), (.int .u16 n27), (.int .u8 n28), (.int .u16 n29), (.slice (q30) k31 k32), (.bool false)]) ∧
                   (([(.int .u8 n38), (.int .u16 n39), (.int .u8 n40), (.int .u16 n41), (.slice (q42) k43 k44), (.bool b45)] : List Value) = [(.int .u8 n38), (.int .u16 n39), (.int .u8 n40), (.int .u16 n41), (.slice (q42) k43 k44), (.bool b45)]) ∧
                   (x52 (false && (((n67 == 0) && (!b45)) || ((decide (n67 ≥ 1) && decide (n67 ≤ 4)) && b45))) (IntKind.wrap .i64 (n55 + 1)) w75 (L73)) ∧
                   Nat.le ((x53 (false && (((n67 == 0) && (!b45)) || ((decide (n67 ≥ 1) && decide (n67 ≤ 4)) && b45))) (IntKind.wrap .i64 (n55 + 1)) w75) + 1) (x53 b54 n55 w56)
               else
                if (!b54) = true then
                 R (.returned (.bool false)) w56
                else
                 (x13 q15 k16 k17 (IntKind.wrap .i64 (n18 + 1)) w56 (L57)) ∧
                 Nat.le ((x14 q15 k16 k17 (IntKind.wrap .i64 (n18 + 1)) w56) + 1) (x14 q15 k16 k17 n18 w19)
       else
        R (.returned (.bool true)) w19
   else
    X.CallX Try.prog 8 #[] w2 fun e4 w5 =>
     ∃ b6 : Bool, (e4 = .returned (.bool b6)) ∧
     ((w2).heap.size ≤ (w5).heap.size) ∧
     R (.returned (.bool b6)) w5) :
    Calls Try.prog 3 #[.slice a al ac] w R :=
  X.calls_of { isLoc := [6, 7], sym := [], loops := [(6, .inv [(4, .slice), (5, .int .i64)] [] true), (26, .inv [(9, .bool), (10, .int .i64)] [] true)], joins := [] } Try.func3 (by kernel_rfl) h
abbrev fn_gemotlaw08_BagApart : Nat := 4
theorem x_gemotlaw08_BagApart (a_0 a_1 a_2 a_3 : Int) (a_4 : Option Addr) (a_4l a_4c : Nat) (a_5 : Bool) (w : World) (R : Ending → World → Prop) (h :
  if ((decide (((a_4l : Nat) : Int) > 2000)) == false) = true then
   ∀ w6 : World, ∀ L7 : List Nat, (X.Hid [] w w6) →
   (X.NewL (w).heap.size [] w w6 L7) →
   X.CallX Try.prog 8 #[] w6 fun e8 w9 =>
    ∃ b10 : Bool, (e8 = .returned (.bool b10)) ∧
    (X.Kept L7 w6 w9) ∧
    if (false || (!b10)) = true then
     X.CallX Try.prog 8 #[] w9 fun e102 w103 =>
      ∃ b104 : Bool, (e102 = .returned (.bool b104)) ∧
      (X.Kept L7 w9 w103) ∧
      R (.returned (.bool b104)) w103
    else
     X.CallX Try.prog 9 #[(.int .i64 3)] w9 fun e11 w12 =>
      ∃ q13 : Option Addr, (e11 = .returned (.pointer (q13))) ∧
      (X.Kept L7 w9 w12) ∧
      X.CallX Try.prog 11 #[(.agg #[(.int .u8 a_0), (.int .u16 a_1), (.int .u8 a_2), (.int .u16 a_3), (.slice (a_4) a_4l a_4c), (.bool a_5)])] w12 fun e14 w15 =>
       ∃ n16 : Int, ∃ n17 : Int, ∃ n18 : Int, ∃ n19 : Int, ∃ q20 : Option Addr, ∃ k21 : Nat, ∃ k22 : Nat, ∃ b23 : Bool, (e14 = .returned (.agg #[(.int .u8 n16), (.int .u16 n17), (.int .u8 n18), (.int .u16 n19), (.slice (q20) k21 k22), (.bool b23)])) ∧
       (X.Kept L7 w12 w15) ∧
       ∀ w24 : World, ∀ L25 : List Nat, (X.Hid (L7) w15 w24) →
       (X.NewL (w).heap.size (L7) w15 w24 L25) →
       X.CallX Try.prog 10 #[(.pointer (q13)), (.agg #[(.int .u8 n16), (.int .u16 n17), (.int .u8 n18), (.int .u16 n19), (.slice (q20) k21 k22), (.bool b23)])] w24 fun e26 w27 =>
        ∃ n28 : Int, (e26 = .returned (.int .i64 n28)) ∧
        (X.Kept L25 w24 w27) ∧
        ∃ x29 : Int → World → List Nat → Prop, ∃ x30 : Int → World → Nat, (x29 0 w27 (L25)) ∧
        ∀ n31 : Int, ∀ w32 : World, ∀ L33 : List Nat, (X.LF (w).heap.size w32 L33) →
        (x29 n31 w32 L33) →
        if (decide (n31 < ((k21 : Nat) : Int))) = true then
         ∃ x96 : X.Facts, (X.FactsW x96 w32 (L33)) ∧
         (0 ≤ n31) ∧
         (n31 < ((k21 : Nat) : Int)) ∧
         X.onSome (q20) fun p97 =>
         ∃ n98 : Int, (((p97.add ((n31).toNat * 1)), [(.int .u8 n98)]) ∈ x96) ∧
         (0 ≤ n31) ∧
         (n31 < ((k21 : Nat) : Int)) ∧
         X.onSome (q20) fun p99 =>
         ∀ w100 : World, ∀ L101 : List Nat, (X.Hid (L33) w32 w100) →
         (X.NewL (w).heap.size (L33) w32 w100 L101) →
         (((p99.add (n31.toNat * 1)).spot) = none) ∧
         (World.there w100 ((p99.add (n31.toNat * 1)).block) ((p99.add (n31.toNat * 1)).off) 1) ∧
         (¬ (((p99.add (n31.toNat * 1)).block) ∈ L101)) ∧
         (([(.int .u8 a_0), (.int .u16 a_1), (.int .u8 a_2), (.int .u16 a_3), (.slice (a_4) a_4l a_4c), (.bool a_5)] : List Value) = [(.int .u8 a_0), (.int .u16 a_1), (.int .u8 a_2), (.int .u16 a_3), (.slice (a_4) a_4l a_4c), (.bool a_5)]) ∧
         (([(.int .u8 n16), (.int .u16 n17), (.int .u8 n18), (.int .u16 n19), (.slice (q20) k21 k22), (.bool b23)] : List Value) = [(.int .u8 n16), (.int .u16 n17), (.int .u8 n18), (.int .u16 n19), (.slice (q20) k21 k22), (.bool b23)]) ∧
         (x29 (IntKind.wrap .i64 (n31 + 1)) (w100.setCells ((p99.add (n31.toNat * 1)).block) ((p99.add (n31.toNat * 1)).off) [(.int .u8 (IntKind.wrap .u8 (n98 + 1)))]) (L101)) ∧
         Nat.le ((x30 (IntKind.wrap .i64 (n31 + 1)) (w100.setCells ((p99.add (n31.toNat * 1)).block) ((p99.add (n31.toNat * 1)).off) [(.int .u8 (IntKind.wrap .u8 (n98 + 1)))])) + 1) (x30 n31 w32)
        else
         X.CallX Try.prog 15 #[(.pointer (q13)), (.int .i64 0)] w32 fun e34 w35 =>
          ∃ n36 : Int, ∃ n37 : Int, ∃ n38 : Int, ∃ n39 : Int, ∃ q40 : Option Addr, ∃ k41 : Nat, ∃ k42 : Nat, ∃ b43 : Bool, ∃ n44 : Int, (e34 = .returned (.tuple #[(.agg #[(.int .u8 n36), (.int .u16 n37), (.int .u8 n38), (.int .u16 n39), (.slice (q40) k41 k42), (.bool b43)]), (.int .i64 n44)])) ∧
          (X.Kept L33 w32 w35) ∧
          ∀ w45 : World, ∀ L46 : List Nat, (X.Hid (L33) w35 w45) →
          (X.NewL (w).heap.size (L33) w35 w45 L46) →
          ∃ x47 : Int → World → List Nat → Prop, ∃ x48 : Int → World → Nat, (x47 0 w45 (L46)) ∧
          ∀ n49 : Int, ∀ w50 : World, ∀ L51 : List Nat, (X.LF (w).heap.size w50 L51) →
          (x47 n49 w50 L51) →
          if (decide (n49 < ((k41 : Nat) : Int))) = true then
           ∃ x90 : X.Facts, (X.FactsW x90 w50 (L51)) ∧
           (0 ≤ n49) ∧
           (n49 < ((k41 : Nat) : Int)) ∧
           X.onSome (q40) fun p91 =>
           ∃ n92 : Int, (((p91.add ((n49).toNat * 1)), [(.int .u8 n92)]) ∈ x90) ∧
           (0 ≤ n49) ∧
           (n49 < ((k41 : Nat) : Int)) ∧
           X.onSome (q40) fun p93 =>
           ∀ w94 : World, ∀ L95 : List Nat, (X.Hid (L51) w50 w94) →
           (X.NewL (w).heap.size (L51) w50 w94 L95) →
           (((p93.add (n49.toNat * 1)).spot) = none) ∧
           (World.there w94 ((p93.add (n49.toNat * 1)).block) ((p93.add (n49.toNat * 1)).off) 1) ∧
           (¬ (((p93.add (n49.toNat * 1)).block) ∈ L95)) ∧
           (([(.int .u8 a_0), (.int .u16 a_1), (.int .u8 a_2), (.int .u16 a_3), (.slice (a_4) a_4l a_4c), (.bool a_5)] : List Value) = [(.int .u8 a_0), (.int .u16 a_1), (.int .u8 a_2), (.int .u16 a_3), (.slice (a_4) a_4l a_4c), (.bool a_5)]) ∧
           (([(.int .u8 n16), (.int .u16 n17), (.int .u8 n18), (.int .u16 n19), (.slice (q20) k21 k22), (.bool b23)] : List Value) = [(.int .u8 n16), (.int .u16 n17), (.int .u8 n18), (.int .u16 n19), (.slice (q20) k21 k22), (.bool b23)]) ∧
           (([(.int .u8 n36), (.int .u16 n37), (.int .u8 n38), (.int .u16 n39), (.slice (q40) k41 k42), (.bool b43)] : List Value) = [(.int .u8 n36), (.int .u16 n37), (.int .u8 n38), (.int .u16 n39), (.slice (q40) k41 k42), (.bool b43)]) ∧
           (x47 (IntKind.wrap .i64 (n49 + 1)) (w94.setCells ((p93.add (n49.toNat * 1)).block) ((p93.add (n49.toNat * 1)).off) [(.int .u8 (IntKind.wrap .u8 (n92 + 1)))]) (L95)) ∧
           Nat.le ((x48 (IntKind.wrap .i64 (n49 + 1)) (w94.setCells ((p93.add (n49.toNat * 1)).block) ((p93.add (n49.toNat * 1)).off) [(.int .u8 (IntKind.wrap .u8 (n92 + 1)))])) + 1) (x48 n49 w50)
          else
           X.CallX Try.prog 13 #[(.pointer (q13)), (.int .i64 0)] w50 fun e52 w53 =>
            ∃ n54 : Int, (e52 = .returned (.int .i64 n54)) ∧
            (X.Kept L51 w50 w53) ∧
            X.CallX Try.prog 14 #[(.pointer (q13)), (.int .i64 0), (.int .i64 0), (.int .u32 7)] w53 fun e55 w56 =>
             ∃ n57 : Int, (e55 = .returned (.int .i64 n57)) ∧
             (X.Kept L51 w53 w56) ∧
             X.CallX Try.prog 12 #[(.pointer (q13)), (.int .i64 1)] w56 fun e58 w59 =>
              ∃ n60 : Int, ∃ n61 : Int, ∃ n62 : Int, ∃ n63 : Int, ∃ q64 : Option Addr, ∃ k65 : Nat, ∃ k66 : Nat, ∃ b67 : Bool, ∃ n68 : Int, (e58 = .returned (.tuple #[(.agg #[(.int .u8 n60), (.int .u16 n61), (.int .u8 n62), (.int .u16 n63), (.slice (q64) k65 k66), (.bool b67)]), (.int .i64 n68)])) ∧
              (X.Kept L51 w56 w59) ∧
              ∃ x69 : X.Facts, (X.FactsW x69 w59 (L51)) ∧
              ∀ w70 : World, ∀ L71 : List Nat, (X.Hid (L51) w59 w70) →
              (X.NewL (w).heap.size (L51) w59 w70 L71) →
              X.CallX Try.prog 16 #[(.int .i64 n68)] w70 fun e72 w73 =>
               ∃ n74 : Int, (e72 = .returned (.int .i64 n74)) ∧
               (X.Kept L71 w70 w73) ∧
               (X.FactsW x69 w73 (L71)) ∧
               ∃ x75 : X.Facts, (X.FactsW x75 w73 (L71)) ∧
               (∀ x76 : Addr × List Value, (x76 ∈ x69) →
                x76 ∈ x75) ∧
               if ((n74 == 0) == true) = true then
                X.CallX Try.prog 20 #[(.agg #[(.int .u8 n60), (.int .u16 n61), (.int .u8 n62), (.int .u16 n63), (.slice (q64) k65 k66), (.bool b67)])] w73 fun e77 w78 =>
                 ∃ n79 : Int, ∃ n80 : Int, ∃ n81 : Int, ∃ n82 : Int, ∃ q83 : Option Addr, ∃ k84 : Nat, ∃ k85 : Nat, ∃ b86 : Bool, (e77 = .returned (.agg #[(.int .u8 n79), (.int .u16 n80), (.int .u8 n81), (.int .u16 n82), (.slice (q83) k84 k85), (.bool b86)])) ∧
                 (X.Kept L71 w73 w78) ∧
                 (X.FactsW x75 w78 (L71)) ∧
                 X.CallX Try.prog 19 #[(.agg #[(.int .u8 n79), (.int .u16 n80), (.int .u8 n81), (.int .u16 n82), (.slice (q83) k84 k85), (.bool b86)]), (.agg #[(.int .u8 a_0), (.int .u16 a_1), (.int .u8 a_2), (.int .u16 a_3), (.slice (a_4) a_4l a_4c), (.bool a_5)])] w78 fun e87 w88 =>
                  ∃ b89 : Bool, (e87 = .returned (.bool b89)) ∧
                  (X.Kept L71 w78 w88) ∧
                  (X.FactsW x75 w88 (L71)) ∧
                  R (.returned (.bool (true && b89))) w88
               else
                R (.returned (.bool false)) w73
  else
   ∀ w1 : World, ∀ L2 : List Nat, (X.Hid [] w w1) →
   (X.NewL (w).heap.size [] w w1 L2) →
   X.CallX Try.prog 8 #[] w1 fun e3 w4 =>
    ∃ b5 : Bool, (e3 = .returned (.bool b5)) ∧
    (X.Kept L2 w1 w4) ∧
    R (.returned (.bool b5)) w4) :
    Calls Try.prog 4 #[.agg #[.int .u8 a_0, .int .u16 a_1, .int .u8 a_2, .int .u16 a_3, .slice a_4 a_4l a_4c, .bool a_5]] w R :=
  X.calls_of { isLoc := [1, 4, 6, 9], sym := [], loops := [(7, .inv [(5, .int .i64)] [] true), (12, .inv [(8, .int .i64)] [] true)], joins := [] } Try.func4 (by kernel_rfl) h
abbrev fn_gemotlaw08_BagPlays : Nat := 5
theorem x_gemotlaw08_BagPlays (a : Int) (b : Option Addr) (bl bc : Nat) (w : World) (R : Ending → World → Prop) (h :
  X.CallX Try.prog 7 #[(.slice (b) bl bc)] w fun e1 w2 =>
   ∃ b3 : Bool, (e1 = .returned (.bool b3)) ∧
   ((w).heap.size ≤ (w2).heap.size) ∧
   if ((!b3) == false) = true then
    X.CallX Try.prog 8 #[] w2 fun e7 w8 =>
     ∃ b9 : Bool, (e7 = .returned (.bool b9)) ∧
     ((w2).heap.size ≤ (w8).heap.size) ∧
     if (false || (!b9)) = true then
      X.CallX Try.prog 8 #[] w8 fun e102 w103 =>
       ∃ b104 : Bool, (e102 = .returned (.bool b104)) ∧
       ((w8).heap.size ≤ (w103).heap.size) ∧
       R (.returned (.bool b104)) w103
     else
      X.CallX Try.prog 9 #[(.int .i64 a)] w8 fun e10 w11 =>
       ∃ q12 : Option Addr, (e10 = .returned (.pointer (q12))) ∧
       ((w8).heap.size ≤ (w11).heap.size) ∧
       X.CallX Try.prog 21 #[(.int .i64 a)] w11 fun e13 w14 =>
        ∃ q15 : Option Addr, (e13 = .returned (.pointer (q15))) ∧
        ((w11).heap.size ≤ (w14).heap.size) ∧
        ∃ x16 : Int → World → List Nat → Prop, ∃ x17 : Int → World → Nat, (x16 0 w14 []) ∧
        ∀ n18 : Int, ∀ w19 : World, ∀ L20 : List Nat, (X.LF (w).heap.size w19 L20) →
        (x16 n18 w19 L20) →
        if (decide (n18 < ((bl : Nat) : Int))) = true then
         ∃ x75 : X.Facts, (X.FactsW x75 w19 []) ∧
         (0 ≤ n18) ∧
         (n18 < ((bl : Nat) : Int)) ∧
         X.onSome (b) fun p76 =>
         ∃ n77 : Int, ∃ n78 : Int, ∃ n79 : Int, ∃ n80 : Int, ∃ n81 : Int, ∃ n82 : Int, ∃ n83 : Int, ∃ n84 : Int, ∃ q85 : Option Addr, ∃ k86 : Nat, ∃ k87 : Nat, ∃ b88 : Bool, (((p76.add ((n18).toNat * 10)), [(.int .i64 n77), (.int .i64 n78), (.int .i64 n79), (.int .u32 n80), (.int .u8 n81), (.int .u16 n82), (.int .u8 n83), (.int .u16 n84), (.slice (q85) k86 k87), (.bool b88)]) ∈ x75) ∧
         ∀ w89 : World, (X.Hid [] w19 w89) →
         X.CallX Try.prog 22 #[(.pointer (q12)), (.pointer (q15)), (.agg #[(.int .i64 n77), (.int .i64 n78), (.int .i64 n79), (.int .u32 n80), (.int .u8 n81), (.int .u16 n82), (.int .u8 n83), (.int .u16 n84), (.slice (q85) k86 k87), (.bool b88)])] w89 fun e90 w91 =>
          ∃ b92 : Bool, (e90 = .returned (.bool b92)) ∧
          ((w89).heap.size ≤ (w91).heap.size) ∧
          (X.FactsW x75 w91 []) ∧
          ∃ x93 : X.Facts, (X.FactsW x93 w91 []) ∧
          (∀ x94 : Addr × List Value, (x94 ∈ x75) →
           x94 ∈ x93) ∧
          if ((!b92) == false) = true then
           X.onSome (q15) fun p95 =>
           ∃ q96 : Option Addr, ∃ k97 : Nat, ∃ k98 : Nat, (((p95.add 0), [(.slice (q96) k97 k98)]) ∈ x93) ∧
           X.CallX Try.prog 23 #[(.pointer (q12))] w91 fun e99 w100 =>
            ∃ n101 : Int, (e99 = .returned (.int .i64 n101)) ∧
            ((w91).heap.size ≤ (w100).heap.size) ∧
            (X.FactsW x93 w100 []) ∧
            if (false || (n101 != ((k97 : Nat) : Int))) = true then
             R (.returned (.bool false)) w100
            else
             (x16 (IntKind.wrap .i64 (n18 + 1)) w100 []) ∧
             Nat.le ((x17 (IntKind.wrap .i64 (n18 + 1)) w100) + 1) (x17 n18 w19)
          else
           (R (.returned (.bool false)) w91) ∧
           R (.returned (.bool false)) w91
        else
         ∃ x21 : Int → World → List Nat → Prop, ∃ x22 : Int → World → Nat, (x21 0 w19 []) ∧
         ∀ n23 : Int, ∀ w24 : World, ∀ L25 : List Nat, (X.LF (w).heap.size w24 L25) →
         (x21 n23 w24 L25) →
         X.onSome (q15) fun p26 =>
         ∃ q27 : Option Addr, ∃ k28 : Nat, ∃ k29 : Nat, (World.cell? w24 (p26.add 0) = some (.slice (q27) k28 k29)) ∧
         if (decide (n23 < ((k28 : Nat) : Int))) = true then
          X.CallX Try.prog 15 #[(.pointer (q12)), (.int .i64 n23)] w24 fun e30 w31 =>
           ∃ n32 : Int, ∃ n33 : Int, ∃ n34 : Int, ∃ n35 : Int, ∃ q36 : Option Addr, ∃ k37 : Nat, ∃ k38 : Nat, ∃ b39 : Bool, ∃ n40 : Int, (e30 = .returned (.tuple #[(.agg #[(.int .u8 n32), (.int .u16 n33), (.int .u8 n34), (.int .u16 n35), (.slice (q36) k37 k38), (.bool b39)]), (.int .i64 n40)])) ∧
           ((w24).heap.size ≤ (w31).heap.size) ∧
           ∃ x41 : X.Facts, (X.FactsW x41 w31 []) ∧
           ∀ w42 : World, ∀ L43 : List Nat, (X.Hid [] w31 w42) →
           (X.NewL (w).heap.size [] w31 w42 L43) →
           X.CallX Try.prog 16 #[(.int .i64 n40)] w42 fun e44 w45 =>
            ∃ n46 : Int, (e44 = .returned (.int .i64 n46)) ∧
            (X.Kept L43 w42 w45) ∧
            (X.FactsW x41 w45 (L43)) ∧
            ∃ x47 : X.Facts, (X.FactsW x47 w45 (L43)) ∧
            (∀ x48 : Addr × List Value, (x48 ∈ x41) →
             x48 ∈ x47) ∧
            if ((n46 != 0) == false) = true then
             X.onSome (q15) fun p49 =>
             ∃ q50 : Option Addr, ∃ k51 : Nat, ∃ k52 : Nat, (((p49.add 0), [(.slice (q50) k51 k52)]) ∈ x47) ∧
             (0 ≤ n23) ∧
             (n23 < ((k51 : Nat) : Int)) ∧
             X.onSome (q50) fun p53 =>
             ∃ n54 : Int, ∃ n55 : Int, ∃ n56 : Int, ∃ n57 : Int, ∃ q58 : Option Addr, ∃ k59 : Nat, ∃ k60 : Nat, ∃ b61 : Bool, (((p53.add ((n23).toNat * 6)), [(.int .u8 n54), (.int .u16 n55), (.int .u8 n56), (.int .u16 n57), (.slice (q58) k59 k60), (.bool b61)]) ∈ x47) ∧
             X.CallX Try.prog 20 #[(.agg #[(.int .u8 n32), (.int .u16 n33), (.int .u8 n34), (.int .u16 n35), (.slice (q36) k37 k38), (.bool b39)])] w45 fun e62 w63 =>
              ∃ n64 : Int, ∃ n65 : Int, ∃ n66 : Int, ∃ n67 : Int, ∃ q68 : Option Addr, ∃ k69 : Nat, ∃ k70 : Nat, ∃ b71 : Bool, (e62 = .returned (.agg #[(.int .u8 n64), (.int .u16 n65), (.int .u8 n66), (.int .u16 n67), (.slice (q68) k69 k70), (.bool b71)])) ∧
              (X.Kept L43 w45 w63) ∧
              (X.FactsW x47 w63 (L43)) ∧
              X.CallX Try.prog 19 #[(.agg #[(.int .u8 n64), (.int .u16 n65), (.int .u8 n66), (.int .u16 n67), (.slice (q68) k69 k70), (.bool b71)]), (.agg #[(.int .u8 n54), (.int .u16 n55), (.int .u8 n56), (.int .u16 n57), (.slice (q58) k59 k60), (.bool b61)])] w63 fun e72 w73 =>
               ∃ b74 : Bool, (e72 = .returned (.bool b74)) ∧
               (X.Kept L43 w63 w73) ∧
               (X.FactsW x47 w73 (L43)) ∧
               if (false || (!b74)) = true then
                R (.returned (.bool false)) w73
               else
                (x21 (IntKind.wrap .i64 (n23 + 1)) w73 (L43)) ∧
                Nat.le ((x22 (IntKind.wrap .i64 (n23 + 1)) w73) + 1) (x22 n23 w24)
            else
             R (.returned (.bool false)) w45
         else
          R (.returned (.bool true)) w24
   else
    X.CallX Try.prog 8 #[] w2 fun e4 w5 =>
     ∃ b6 : Bool, (e4 = .returned (.bool b6)) ∧
     ((w2).heap.size ≤ (w5).heap.size) ∧
     R (.returned (.bool b6)) w5) :
    Calls Try.prog 5 #[.int .i64 a, .slice b bl bc] w R :=
  X.calls_of { isLoc := [9], sym := [], loops := [(6, .inv [(7, .int .i64)] [] true), (11, .inv [(8, .int .i64)] [] true)], joins := [] } Try.func5 (by kernel_rfl) h
abbrev fn_gemotlaw08_BagNil : Nat := 6
theorem x_gemotlaw08_BagNil (a_0 a_1 a_2 a_3 a_4 a_5 a_6 a_7 : Int) (a_8 : Option Addr) (a_8l a_8c : Nat) (a_9 : Bool) (w : World) (R : Ending → World → Prop) (h :
  if (decide (((a_8l : Nat) : Int) > 2000)) = true then
   ∀ w80 : World, ∀ L81 : List Nat, (X.Hid [] w w80) →
   (X.NewL (w).heap.size [] w w80 L81) →
   X.CallX Try.prog 8 #[] w80 fun e82 w83 =>
    ∃ b84 : Bool, (e82 = .returned (.bool b84)) ∧
    (X.Kept L81 w80 w83) ∧
    R (.returned (.bool b84)) w83
  else
   ∀ w1 : World, ∀ L2 : List Nat, (X.Hid [] w w1) →
   (X.NewL (w).heap.size [] w w1 L2) →
   ∃ x3 : Option Addr → Int → World → List Nat → Prop, ∃ x4 : Option Addr → Int → World → Nat, (x3 (none) 0 w1 (L2)) ∧
   ∀ q5 : Option Addr, ∀ n6 : Int, ∀ w7 : World, ∀ L8 : List Nat, (X.LF (w).heap.size w7 L8) →
   (x3 q5 n6 w7 L8) →
   if (decide (n6 < 2)) = true then
    X.CallX Try.prog 15 #[(.pointer (q5)), (.int .i64 a_1)] w7 fun e12 w13 =>
     ∃ n14 : Int, ∃ n15 : Int, ∃ n16 : Int, ∃ n17 : Int, ∃ q18 : Option Addr, ∃ k19 : Nat, ∃ k20 : Nat, ∃ b21 : Bool, ∃ n22 : Int, (e12 = .returned (.tuple #[(.agg #[(.int .u8 n14), (.int .u16 n15), (.int .u8 n16), (.int .u16 n17), (.slice (q18) k19 k20), (.bool b21)]), (.int .i64 n22)])) ∧
     (X.Kept L8 w7 w13) ∧
     ∀ w23 : World, ∀ L24 : List Nat, (X.Hid (L8) w13 w23) →
     (X.NewL (w).heap.size (L8) w13 w23 L24) →
     X.CallX Try.prog 12 #[(.pointer (q5)), (.int .i64 a_1)] w23 fun e25 w26 =>
      ∃ n27 : Int, ∃ n28 : Int, ∃ n29 : Int, ∃ n30 : Int, ∃ q31 : Option Addr, ∃ k32 : Nat, ∃ k33 : Nat, ∃ b34 : Bool, ∃ n35 : Int, (e25 = .returned (.tuple #[(.agg #[(.int .u8 n27), (.int .u16 n28), (.int .u8 n29), (.int .u16 n30), (.slice (q31) k32 k33), (.bool b34)]), (.int .i64 n35)])) ∧
      (X.Kept L24 w23 w26) ∧
      ∀ w36 : World, ∀ L37 : List Nat, (X.Hid (L24) w26 w36) →
      (X.NewL (w).heap.size (L24) w26 w36 L37) →
      X.CallX Try.prog 11 #[(.agg #[(.int .u8 a_4), (.int .u16 a_5), (.int .u8 a_6), (.int .u16 a_7), (.slice (a_8) a_8l a_8c), (.bool a_9)])] w36 fun e38 w39 =>
       ∃ n40 : Int, ∃ n41 : Int, ∃ n42 : Int, ∃ n43 : Int, ∃ q44 : Option Addr, ∃ k45 : Nat, ∃ k46 : Nat, ∃ b47 : Bool, (e38 = .returned (.agg #[(.int .u8 n40), (.int .u16 n41), (.int .u8 n42), (.int .u16 n43), (.slice (q44) k45 k46), (.bool b47)])) ∧
       (X.Kept L37 w36 w39) ∧
       X.CallX Try.prog 10 #[(.pointer (q5)), (.agg #[(.int .u8 n40), (.int .u16 n41), (.int .u8 n42), (.int .u16 n43), (.slice (q44) k45 k46), (.bool b47)])] w39 fun e48 w49 =>
        ∃ n50 : Int, (e48 = .returned (.int .i64 n50)) ∧
        (X.Kept L37 w39 w49) ∧
        X.CallX Try.prog 16 #[(.int .i64 n50)] w49 fun e51 w52 =>
         ∃ n53 : Int, (e51 = .returned (.int .i64 n53)) ∧
         (X.Kept L37 w49 w52) ∧
         if ((n53 != 1) == false) = true then
          X.CallX Try.prog 16 #[(.int .i64 n22)] w52 fun e54 w55 =>
           ∃ n56 : Int, (e54 = .returned (.int .i64 n56)) ∧
           (X.Kept L37 w52 w55) ∧
           if ((false || (n56 != 1)) == false) = true then
            X.CallX Try.prog 16 #[(.int .i64 n35)] w55 fun e57 w58 =>
             ∃ n59 : Int, (e57 = .returned (.int .i64 n59)) ∧
             (X.Kept L37 w55 w58) ∧
             if ((false || (n59 != 1)) == false) = true then
              X.CallX Try.prog 13 #[(.pointer (q5)), (.int .i64 a_1)] w58 fun e60 w61 =>
               ∃ n62 : Int, (e60 = .returned (.int .i64 n62)) ∧
               (X.Kept L37 w58 w61) ∧
               X.CallX Try.prog 16 #[(.int .i64 n62)] w61 fun e63 w64 =>
                ∃ n65 : Int, (e63 = .returned (.int .i64 n65)) ∧
                (X.Kept L37 w61 w64) ∧
                if ((false || (n65 != 1)) == false) = true then
                 X.CallX Try.prog 14 #[(.pointer (q5)), (.int .i64 a_1), (.int .i64 a_2), (.int .u32 a_3)] w64 fun e66 w67 =>
                  ∃ n68 : Int, (e66 = .returned (.int .i64 n68)) ∧
                  (X.Kept L37 w64 w67) ∧
                  X.CallX Try.prog 16 #[(.int .i64 n68)] w67 fun e69 w70 =>
                   ∃ n71 : Int, (e69 = .returned (.int .i64 n71)) ∧
                   (X.Kept L37 w67 w70) ∧
                   if ((false || (n71 != 1)) == false) = true then
                    X.CallX Try.prog 23 #[(.pointer (q5))] w70 fun e72 w73 =>
                     ∃ n74 : Int, (e72 = .returned (.int .i64 n74)) ∧
                     (X.Kept L37 w70 w73) ∧
                     if ((false || (n74 != 0)) == false) = true then
                      X.CallX Try.prog 24 #[(.pointer (q5))] w73 fun e75 w76 =>
                       ∃ q77 : Option Addr, ∃ k78 : Nat, ∃ k79 : Nat, (e75 = .returned (.slice (q77) k78 k79)) ∧
                       (X.Kept L37 w73 w76) ∧
                       if (false || (((k78 : Nat) : Int) != 0)) = true then
                        R (.returned (.bool false)) w76
                       else
                        (([(.int .i64 a_0), (.int .i64 a_1), (.int .i64 a_2), (.int .u32 a_3), (.int .u8 a_4), (.int .u16 a_5), (.int .u8 a_6), (.int .u16 a_7), (.slice (a_8) a_8l a_8c), (.bool a_9)] : List Value) = [(.int .i64 a_0), (.int .i64 a_1), (.int .i64 a_2), (.int .u32 a_3), (.int .u8 a_4), (.int .u16 a_5), (.int .u8 a_6), (.int .u16 a_7), (.slice (a_8) a_8l a_8c), (.bool a_9)]) ∧
                        (x3 (some (Addr.mk w76.heap.size 0 none)) (IntKind.wrap .i64 (n6 + 1)) (w76.alloc (.cells #[(.slice none 0 0), (.int .i64 0), (.bool false)] 65)) (L37)) ∧
                        Nat.le ((x4 (some (Addr.mk w76.heap.size 0 none)) (IntKind.wrap .i64 (n6 + 1)) (w76.alloc (.cells #[(.slice none 0 0), (.int .i64 0), (.bool false)] 65))) + 1) (x4 q5 n6 w7)
                     else
                      R (.returned (.bool false)) w73
                   else
                    R (.returned (.bool false)) w70
                else
                 R (.returned (.bool false)) w64
             else
              R (.returned (.bool false)) w58
           else
            R (.returned (.bool false)) w55
         else
          R (.returned (.bool false)) w52
   else
    X.CallX Try.prog 8 #[] w7 fun e9 w10 =>
     ∃ b11 : Bool, (e9 = .returned (.bool b11)) ∧
     (X.Kept L8 w7 w10) ∧
     R (.returned (.bool b11)) w10) :
    Calls Try.prog 6 #[.agg #[.int .i64 a_0, .int .i64 a_1, .int .i64 a_2, .int .u32 a_3, .int .u8 a_4, .int .u16 a_5, .int .u8 a_6, .int .u16 a_7, .slice a_8 a_8l a_8c, .bool a_9]] w R :=
  X.calls_of { isLoc := [1, 5, 7], sym := [], loops := [(5, .inv [(3, .ptr), (4, .int .i64)] [] true)], joins := [] } Try.func6 (by kernel_rfl) h
abbrev fn_gemotlaw08_do : Nat := 22
theorem x_gemotlaw08_do (a b : Addr) (c_0 c_1 c_2 c_3 c_4 c_5 c_6 c_7 : Int) (c_8 : Option Addr) (c_8l c_8c : Nat) (c_9 : Bool) (w : World) (R : Ending → World → Prop) (h :
  if (c_0 == 0) = true then
   if (c_0 == 0) = true then
    ∃ x355 : X.Facts, (X.FactsW x355 w []) ∧
    ∀ w356 : World, ∀ L357 : List Nat, (X.Hid [] w w356) →
    (X.NewL (w).heap.size [] w w356 L357) →
    X.CallX Try.prog 11 #[(.agg #[(.int .u8 c_4), (.int .u16 c_5), (.int .u8 c_6), (.int .u16 c_7), (.slice (c_8) c_8l c_8c), (.bool c_9)])] w356 fun e358 w359 =>
     ∃ n360 : Int, ∃ n361 : Int, ∃ n362 : Int, ∃ n363 : Int, ∃ q364 : Option Addr, ∃ k365 : Nat, ∃ k366 : Nat, ∃ b367 : Bool, (e358 = .returned (.agg #[(.int .u8 n360), (.int .u16 n361), (.int .u8 n362), (.int .u16 n363), (.slice (q364) k365 k366), (.bool b367)])) ∧
     (X.Kept L357 w356 w359) ∧
     (X.FactsW x355 w359 (L357)) ∧
     X.CallX Try.prog 10 #[(.pointer (some a)), (.agg #[(.int .u8 n360), (.int .u16 n361), (.int .u8 n362), (.int .u16 n363), (.slice (q364) k365 k366), (.bool b367)])] w359 fun e368 w369 =>
      ∃ n370 : Int, (e368 = .returned (.int .i64 n370)) ∧
      (X.Kept L357 w359 w369) ∧
      (X.FactsW x355 w369 (L357)) ∧
      X.CallX Try.prog 16 #[(.int .i64 n370)] w369 fun e371 w372 =>
       ∃ n373 : Int, (e371 = .returned (.int .i64 n373)) ∧
       (X.Kept L357 w369 w372) ∧
       (X.FactsW x355 w372 (L357)) ∧
       X.CallX Try.prog 31 #[(.pointer (some b)), (.agg #[(.int .u8 c_4), (.int .u16 c_5), (.int .u8 c_6), (.int .u16 c_7), (.slice (c_8) c_8l c_8c), (.bool c_9)])] w372 fun e374 w375 =>
        ∃ n376 : Int, (e374 = .returned (.int .i64 n376)) ∧
        (X.Kept L357 w372 w375) ∧
        (X.FactsW x355 w375 (L357)) ∧
        R (.returned (.bool (n373 == n376))) w375
   else
    if (c_0 == 2) = true then
     ∀ w310 : World, ∀ L311 : List Nat, (X.Hid [] w w310) →
     (X.NewL (w).heap.size [] w w310 L311) →
     X.CallX Try.prog 15 #[(.pointer (some a)), (.int .i64 c_1)] w310 fun e312 w313 =>
      ∃ n314 : Int, ∃ n315 : Int, ∃ n316 : Int, ∃ n317 : Int, ∃ q318 : Option Addr, ∃ k319 : Nat, ∃ k320 : Nat, ∃ b321 : Bool, ∃ n322 : Int, (e312 = .returned (.tuple #[(.agg #[(.int .u8 n314), (.int .u16 n315), (.int .u8 n316), (.int .u16 n317), (.slice (q318) k319 k320), (.bool b321)]), (.int .i64 n322)])) ∧
      (X.Kept L311 w310 w313) ∧
      ∀ w323 : World, ∀ L324 : List Nat, (X.Hid (L311) w313 w323) →
      (X.NewL (w).heap.size (L311) w313 w323 L324) →
      X.CallX Try.prog 32 #[(.pointer (some b)), (.int .i64 c_1)] w323 fun e325 w326 =>
       ∃ n327 : Int, ∃ n328 : Int, ∃ n329 : Int, ∃ n330 : Int, ∃ q331 : Option Addr, ∃ k332 : Nat, ∃ k333 : Nat, ∃ b334 : Bool, ∃ n335 : Int, (e325 = .returned (.tuple #[(.agg #[(.int .u8 n327), (.int .u16 n328), (.int .u8 n329), (.int .u16 n330), (.slice (q331) k332 k333), (.bool b334)]), (.int .i64 n335)])) ∧
       (X.Kept L324 w323 w326) ∧
       ∃ x336 : X.Facts, (X.FactsW x336 w326 (L324)) ∧
       ∀ w337 : World, ∀ L338 : List Nat, (X.Hid (L324) w326 w337) →
       (X.NewL (w).heap.size (L324) w326 w337 L338) →
       X.CallX Try.prog 20 #[(.agg #[(.int .u8 n314), (.int .u16 n315), (.int .u8 n316), (.int .u16 n317), (.slice (q318) k319 k320), (.bool b321)])] w337 fun e339 w340 =>
        ∃ n341 : Int, ∃ n342 : Int, ∃ n343 : Int, ∃ n344 : Int, ∃ q345 : Option Addr, ∃ k346 : Nat, ∃ k347 : Nat, ∃ b348 : Bool, (e339 = .returned (.agg #[(.int .u8 n341), (.int .u16 n342), (.int .u8 n343), (.int .u16 n344), (.slice (q345) k346 k347), (.bool b348)])) ∧
        (X.Kept L338 w337 w340) ∧
        (X.FactsW x336 w340 (L338)) ∧
        X.CallX Try.prog 19 #[(.agg #[(.int .u8 n341), (.int .u16 n342), (.int .u8 n343), (.int .u16 n344), (.slice (q345) k346 k347), (.bool b348)]), (.agg #[(.int .u8 n327), (.int .u16 n328), (.int .u8 n329), (.int .u16 n330), (.slice (q331) k332 k333), (.bool b334)])] w340 fun e349 w350 =>
         ∃ b351 : Bool, (e349 = .returned (.bool b351)) ∧
         (X.Kept L338 w340 w350) ∧
         (X.FactsW x336 w350 (L338)) ∧
         if (b351 == true) = true then
          X.CallX Try.prog 16 #[(.int .i64 n322)] w350 fun e352 w353 =>
           ∃ n354 : Int, (e352 = .returned (.int .i64 n354)) ∧
           (X.Kept L338 w350 w353) ∧
           (X.FactsW x336 w353 (L338)) ∧
           R (.returned (.bool (true && (n354 == n335)))) w353
         else
          R (.returned (.bool false)) w350
    else
     if (c_0 == 3) = true then
      ∀ w265 : World, ∀ L266 : List Nat, (X.Hid [] w w265) →
      (X.NewL (w).heap.size [] w w265 L266) →
      X.CallX Try.prog 12 #[(.pointer (some a)), (.int .i64 c_1)] w265 fun e267 w268 =>
       ∃ n269 : Int, ∃ n270 : Int, ∃ n271 : Int, ∃ n272 : Int, ∃ q273 : Option Addr, ∃ k274 : Nat, ∃ k275 : Nat, ∃ b276 : Bool, ∃ n277 : Int, (e267 = .returned (.tuple #[(.agg #[(.int .u8 n269), (.int .u16 n270), (.int .u8 n271), (.int .u16 n272), (.slice (q273) k274 k275), (.bool b276)]), (.int .i64 n277)])) ∧
       (X.Kept L266 w265 w268) ∧
       ∀ w278 : World, ∀ L279 : List Nat, (X.Hid (L266) w268 w278) →
       (X.NewL (w).heap.size (L266) w268 w278 L279) →
       X.CallX Try.prog 33 #[(.pointer (some b)), (.int .i64 c_1)] w278 fun e280 w281 =>
        ∃ n282 : Int, ∃ n283 : Int, ∃ n284 : Int, ∃ n285 : Int, ∃ q286 : Option Addr, ∃ k287 : Nat, ∃ k288 : Nat, ∃ b289 : Bool, ∃ n290 : Int, (e280 = .returned (.tuple #[(.agg #[(.int .u8 n282), (.int .u16 n283), (.int .u8 n284), (.int .u16 n285), (.slice (q286) k287 k288), (.bool b289)]), (.int .i64 n290)])) ∧
        (X.Kept L279 w278 w281) ∧
        ∃ x291 : X.Facts, (X.FactsW x291 w281 (L279)) ∧
        ∀ w292 : World, ∀ L293 : List Nat, (X.Hid (L279) w281 w292) →
        (X.NewL (w).heap.size (L279) w281 w292 L293) →
        X.CallX Try.prog 20 #[(.agg #[(.int .u8 n269), (.int .u16 n270), (.int .u8 n271), (.int .u16 n272), (.slice (q273) k274 k275), (.bool b276)])] w292 fun e294 w295 =>
         ∃ n296 : Int, ∃ n297 : Int, ∃ n298 : Int, ∃ n299 : Int, ∃ q300 : Option Addr, ∃ k301 : Nat, ∃ k302 : Nat, ∃ b303 : Bool, (e294 = .returned (.agg #[(.int .u8 n296), (.int .u16 n297), (.int .u8 n298), (.int .u16 n299), (.slice (q300) k301 k302), (.bool b303)])) ∧
         (X.Kept L293 w292 w295) ∧
         (X.FactsW x291 w295 (L293)) ∧
         X.CallX Try.prog 19 #[(.agg #[(.int .u8 n296), (.int .u16 n297), (.int .u8 n298), (.int .u16 n299), (.slice (q300) k301 k302), (.bool b303)]), (.agg #[(.int .u8 n282), (.int .u16 n283), (.int .u8 n284), (.int .u16 n285), (.slice (q286) k287 k288), (.bool b289)])] w295 fun e304 w305 =>
          ∃ b306 : Bool, (e304 = .returned (.bool b306)) ∧
          (X.Kept L293 w295 w305) ∧
          (X.FactsW x291 w305 (L293)) ∧
          if (b306 == true) = true then
           X.CallX Try.prog 16 #[(.int .i64 n277)] w305 fun e307 w308 =>
            ∃ n309 : Int, (e307 = .returned (.int .i64 n309)) ∧
            (X.Kept L293 w305 w308) ∧
            (X.FactsW x291 w308 (L293)) ∧
            R (.returned (.bool (true && (n309 == n290)))) w308
          else
           R (.returned (.bool false)) w305
     else
      if (c_0 == 4) = true then
       ∃ x253 : X.Facts, (X.FactsW x253 w []) ∧
       ∀ w254 : World, ∀ L255 : List Nat, (X.Hid [] w w254) →
       (X.NewL (w).heap.size [] w w254 L255) →
       X.CallX Try.prog 13 #[(.pointer (some a)), (.int .i64 c_1)] w254 fun e256 w257 =>
        ∃ n258 : Int, (e256 = .returned (.int .i64 n258)) ∧
        (X.Kept L255 w254 w257) ∧
        (X.FactsW x253 w257 (L255)) ∧
        X.CallX Try.prog 16 #[(.int .i64 n258)] w257 fun e259 w260 =>
         ∃ n261 : Int, (e259 = .returned (.int .i64 n261)) ∧
         (X.Kept L255 w257 w260) ∧
         (X.FactsW x253 w260 (L255)) ∧
         X.CallX Try.prog 34 #[(.pointer (some b)), (.int .i64 c_1)] w260 fun e262 w263 =>
          ∃ n264 : Int, (e262 = .returned (.int .i64 n264)) ∧
          (X.Kept L255 w260 w263) ∧
          (X.FactsW x253 w263 (L255)) ∧
          R (.returned (.bool (n261 == n264))) w263
      else
       if (c_0 == 5) = true then
        ∃ x241 : X.Facts, (X.FactsW x241 w []) ∧
        ∀ w242 : World, ∀ L243 : List Nat, (X.Hid [] w w242) →
        (X.NewL (w).heap.size [] w w242 L243) →
        X.CallX Try.prog 14 #[(.pointer (some a)), (.int .i64 c_1), (.int .i64 c_2), (.int .u32 c_3)] w242 fun e244 w245 =>
         ∃ n246 : Int, (e244 = .returned (.int .i64 n246)) ∧
         (X.Kept L243 w242 w245) ∧
         (X.FactsW x241 w245 (L243)) ∧
         X.CallX Try.prog 16 #[(.int .i64 n246)] w245 fun e247 w248 =>
          ∃ n249 : Int, (e247 = .returned (.int .i64 n249)) ∧
          (X.Kept L243 w245 w248) ∧
          (X.FactsW x241 w248 (L243)) ∧
          X.CallX Try.prog 35 #[(.pointer (some b)), (.int .i64 c_1), (.int .i64 c_2), (.int .u32 c_3)] w248 fun e250 w251 =>
           ∃ n252 : Int, (e250 = .returned (.int .i64 n252)) ∧
           (X.Kept L243 w248 w251) ∧
           (X.FactsW x241 w251 (L243)) ∧
           R (.returned (.bool (n249 == n252))) w251
       else
        if (c_0 == 6) = true then
         ∀ w190 : World, ∀ L191 : List Nat, (X.Hid [] w w190) →
         (X.NewL (w).heap.size [] w w190 L191) →
         X.CallX Try.prog 24 #[(.pointer (some a))] w190 fun e192 w193 =>
          ∃ q194 : Option Addr, ∃ k195 : Nat, ∃ k196 : Nat, (e192 = .returned (.slice (q194) k195 k196)) ∧
          (X.Kept L191 w190 w193) ∧
          X.CallX Try.prog 36 #[(.pointer (some b))] w193 fun e197 w198 =>
           ∃ q199 : Option Addr, ∃ k200 : Nat, ∃ k201 : Nat, (e197 = .returned (.slice (q199) k200 k201)) ∧
           (X.Kept L191 w193 w198) ∧
           if (((k195 : Nat) : Int) != ((k200 : Nat) : Int)) = true then
            R (.returned (.bool false)) w198
           else
            ∃ x202 : Int → World → List Nat → Prop, ∃ x203 : Int → World → Nat, (x202 0 w198 (L191)) ∧
            ∀ n204 : Int, ∀ w205 : World, ∀ L206 : List Nat, (X.LF (w).heap.size w205 L206) →
            (x202 n204 w205 L206) →
            if (decide (n204 < ((k195 : Nat) : Int))) = true then
             ∃ x207 : X.Facts, (X.FactsW x207 w205 (L206)) ∧
             (0 ≤ n204) ∧
             (n204 < ((k195 : Nat) : Int)) ∧
             X.onSome (q194) fun p208 =>
             ∃ n209 : Int, ∃ n210 : Int, ∃ n211 : Int, ∃ n212 : Int, ∃ q213 : Option Addr, ∃ k214 : Nat, ∃ k215 : Nat, ∃ b216 : Bool, (((p208.add ((n204).toNat * 6)), [(.int .u8 n209), (.int .u16 n210), (.int .u8 n211), (.int .u16 n212), (.slice (q213) k214 k215), (.bool b216)]) ∈ x207) ∧
             (0 ≤ n204) ∧
             (n204 < ((k200 : Nat) : Int)) ∧
             X.onSome (q199) fun p217 =>
             ∃ n218 : Int, ∃ n219 : Int, ∃ n220 : Int, ∃ n221 : Int, ∃ q222 : Option Addr, ∃ k223 : Nat, ∃ k224 : Nat, ∃ b225 : Bool, (((p217.add ((n204).toNat * 6)), [(.int .u8 n218), (.int .u16 n219), (.int .u8 n220), (.int .u16 n221), (.slice (q222) k223 k224), (.bool b225)]) ∈ x207) ∧
             ∀ w226 : World, ∀ L227 : List Nat, (X.Hid (L206) w205 w226) →
             (X.NewL (w).heap.size (L206) w205 w226 L227) →
             X.CallX Try.prog 20 #[(.agg #[(.int .u8 n209), (.int .u16 n210), (.int .u8 n211), (.int .u16 n212), (.slice (q213) k214 k215), (.bool b216)])] w226 fun e228 w229 =>
              ∃ n230 : Int, ∃ n231 : Int, ∃ n232 : Int, ∃ n233 : Int, ∃ q234 : Option Addr, ∃ k235 : Nat, ∃ k236 : Nat, ∃ b237 : Bool, (e228 = .returned (.agg #[(.int .u8 n230), (.int .u16 n231), (.int .u8 n232), (.int .u16 n233), (.slice (q234) k235 k236), (.bool b237)])) ∧
              (X.Kept L227 w226 w229) ∧
              (X.FactsW x207 w229 (L227)) ∧
              X.CallX Try.prog 19 #[(.agg #[(.int .u8 n230), (.int .u16 n231), (.int .u8 n232), (.int .u16 n233), (.slice (q234) k235 k236), (.bool b237)]), (.agg #[(.int .u8 n218), (.int .u16 n219), (.int .u8 n220), (.int .u16 n221), (.slice (q222) k223 k224), (.bool b225)])] w229 fun e238 w239 =>
               ∃ b240 : Bool, (e238 = .returned (.bool b240)) ∧
               (X.Kept L227 w229 w239) ∧
               (X.FactsW x207 w239 (L227)) ∧
               if (!b240) = true then
                R (.returned (.bool false)) w239
               else
                (([(.int .i64 c_0), (.int .i64 c_1), (.int .i64 c_2), (.int .u32 c_3), (.int .u8 c_4), (.int .u16 c_5), (.int .u8 c_6), (.int .u16 c_7), (.slice (c_8) c_8l c_8c), (.bool c_9)] : List Value) = [(.int .i64 c_0), (.int .i64 c_1), (.int .i64 c_2), (.int .u32 c_3), (.int .u8 c_4), (.int .u16 c_5), (.int .u8 c_6), (.int .u16 c_7), (.slice (c_8) c_8l c_8c), (.bool c_9)]) ∧
                (x202 (IntKind.wrap .i64 (n204 + 1)) w239 (L227)) ∧
                Nat.le ((x203 (IntKind.wrap .i64 (n204 + 1)) w239) + 1) (x203 n204 w205)
            else
             R (.returned (.bool true)) w205
        else
         ∀ w189 : World, (X.Hid [] w w189) →
         R (.returned (.bool true)) w189
  else
   if (c_0 == 1) = true then
    ∃ x167 : X.Facts, (X.FactsW x167 w []) ∧
    ∀ w168 : World, ∀ L169 : List Nat, (X.Hid [] w w168) →
    (X.NewL (w).heap.size [] w w168 L169) →
    X.CallX Try.prog 11 #[(.agg #[(.int .u8 c_4), (.int .u16 c_5), (.int .u8 c_6), (.int .u16 c_7), (.slice (c_8) c_8l c_8c), (.bool c_9)])] w168 fun e170 w171 =>
     ∃ n172 : Int, ∃ n173 : Int, ∃ n174 : Int, ∃ n175 : Int, ∃ q176 : Option Addr, ∃ k177 : Nat, ∃ k178 : Nat, ∃ b179 : Bool, (e170 = .returned (.agg #[(.int .u8 n172), (.int .u16 n173), (.int .u8 n174), (.int .u16 n175), (.slice (q176) k177 k178), (.bool b179)])) ∧
     (X.Kept L169 w168 w171) ∧
     (X.FactsW x167 w171 (L169)) ∧
     X.CallX Try.prog 10 #[(.pointer (some a)), (.agg #[(.int .u8 n172), (.int .u16 n173), (.int .u8 n174), (.int .u16 n175), (.slice (q176) k177 k178), (.bool b179)])] w171 fun e180 w181 =>
      ∃ n182 : Int, (e180 = .returned (.int .i64 n182)) ∧
      (X.Kept L169 w171 w181) ∧
      (X.FactsW x167 w181 (L169)) ∧
      X.CallX Try.prog 16 #[(.int .i64 n182)] w181 fun e183 w184 =>
       ∃ n185 : Int, (e183 = .returned (.int .i64 n185)) ∧
       (X.Kept L169 w181 w184) ∧
       (X.FactsW x167 w184 (L169)) ∧
       X.CallX Try.prog 31 #[(.pointer (some b)), (.agg #[(.int .u8 c_4), (.int .u16 c_5), (.int .u8 c_6), (.int .u16 c_7), (.slice (c_8) c_8l c_8c), (.bool c_9)])] w184 fun e186 w187 =>
        ∃ n188 : Int, (e186 = .returned (.int .i64 n188)) ∧
        (X.Kept L169 w184 w187) ∧
        (X.FactsW x167 w187 (L169)) ∧
        R (.returned (.bool (n185 == n188))) w187
   else
    if (c_0 == 2) = true then
     ∀ w122 : World, ∀ L123 : List Nat, (X.Hid [] w w122) →
     (X.NewL (w).heap.size [] w w122 L123) →
     X.CallX Try.prog 15 #[(.pointer (some a)), (.int .i64 c_1)] w122 fun e124 w125 =>
      ∃ n126 : Int, ∃ n127 : Int, ∃ n128 : Int, ∃ n129 : Int, ∃ q130 : Option Addr, ∃ k131 : Nat, ∃ k132 : Nat, ∃ b133 : Bool, ∃ n134 : Int, (e124 = .returned (.tuple #[(.agg #[(.int .u8 n126), (.int .u16 n127), (.int .u8 n128), (.int .u16 n129), (.slice (q130) k131 k132), (.bool b133)]), (.int .i64 n134)])) ∧
      (X.Kept L123 w122 w125) ∧
      ∀ w135 : World, ∀ L136 : List Nat, (X.Hid (L123) w125 w135) →
      (X.NewL (w).heap.size (L123) w125 w135 L136) →
      X.CallX Try.prog 32 #[(.pointer (some b)), (.int .i64 c_1)] w135 fun e137 w138 =>
       ∃ n139 : Int, ∃ n140 : Int, ∃ n141 : Int, ∃ n142 : Int, ∃ q143 : Option Addr, ∃ k144 : Nat, ∃ k145 : Nat, ∃ b146 : Bool, ∃ n147 : Int, (e137 = .returned (.tuple #[(.agg #[(.int .u8 n139), (.int .u16 n140), (.int .u8 n141), (.int .u16 n142), (.slice (q143) k144 k145), (.bool b146)]), (.int .i64 n147)])) ∧
       (X.Kept L136 w135 w138) ∧
       ∃ x148 : X.Facts, (X.FactsW x148 w138 (L136)) ∧
       ∀ w149 : World, ∀ L150 : List Nat, (X.Hid (L136) w138 w149) →
       (X.NewL (w).heap.size (L136) w138 w149 L150) →
       X.CallX Try.prog 20 #[(.agg #[(.int .u8 n126), (.int .u16 n127), (.int .u8 n128), (.int .u16 n129), (.slice (q130) k131 k132), (.bool b133)])] w149 fun e151 w152 =>
        ∃ n153 : Int, ∃ n154 : Int, ∃ n155 : Int, ∃ n156 : Int, ∃ q157 : Option Addr, ∃ k158 : Nat, ∃ k159 : Nat, ∃ b160 : Bool, (e151 = .returned (.agg #[(.int .u8 n153), (.int .u16 n154), (.int .u8 n155), (.int .u16 n156), (.slice (q157) k158 k159), (.bool b160)])) ∧
        (X.Kept L150 w149 w152) ∧
        (X.FactsW x148 w152 (L150)) ∧
        X.CallX Try.prog 19 #[(.agg #[(.int .u8 n153), (.int .u16 n154), (.int .u8 n155), (.int .u16 n156), (.slice (q157) k158 k159), (.bool b160)]), (.agg #[(.int .u8 n139), (.int .u16 n140), (.int .u8 n141), (.int .u16 n142), (.slice (q143) k144 k145), (.bool b146)])] w152 fun e161 w162 =>
         ∃ b163 : Bool, (e161 = .returned (.bool b163)) ∧
         (X.Kept L150 w152 w162) ∧
         (X.FactsW x148 w162 (L150)) ∧
         if (b163 == true) = true then
          X.CallX Try.prog 16 #[(.int .i64 n134)] w162 fun e164 w165 =>
           ∃ n166 : Int, (e164 = .returned (.int .i64 n166)) ∧
           (X.Kept L150 w162 w165) ∧
           (X.FactsW x148 w165 (L150)) ∧
           R (.returned (.bool (true && (n166 == n147)))) w165
         else
          R (.returned (.bool false)) w162
    else
     if (c_0 == 3) = true then
      ∀ w77 : World, ∀ L78 : List Nat, (X.Hid [] w w77) →
      (X.NewL (w).heap.size [] w w77 L78) →
      X.CallX Try.prog 12 #[(.pointer (some a)), (.int .i64 c_1)] w77 fun e79 w80 =>
       ∃ n81 : Int, ∃ n82 : Int, ∃ n83 : Int, ∃ n84 : Int, ∃ q85 : Option Addr, ∃ k86 : Nat, ∃ k87 : Nat, ∃ b88 : Bool, ∃ n89 : Int, (e79 = .returned (.tuple #[(.agg #[(.int .u8 n81), (.int .u16 n82), (.int .u8 n83), (.int .u16 n84), (.slice (q85) k86 k87), (.bool b88)]), (.int .i64 n89)])) ∧
       (X.Kept L78 w77 w80) ∧
       ∀ w90 : World, ∀ L91 : List Nat, (X.Hid (L78) w80 w90) →
       (X.NewL (w).heap.size (L78) w80 w90 L91) →
       X.CallX Try.prog 33 #[(.pointer (some b)), (.int .i64 c_1)] w90 fun e92 w93 =>
        ∃ n94 : Int, ∃ n95 : Int, ∃ n96 : Int, ∃ n97 : Int, ∃ q98 : Option Addr, ∃ k99 : Nat, ∃ k100 : Nat, ∃ b101 : Bool, ∃ n102 : Int, (e92 = .returned (.tuple #[(.agg #[(.int .u8 n94), (.int .u16 n95), (.int .u8 n96), (.int .u16 n97), (.slice (q98) k99 k100), (.bool b101)]), (.int .i64 n102)])) ∧
        (X.Kept L91 w90 w93) ∧
        ∃ x103 : X.Facts, (X.FactsW x103 w93 (L91)) ∧
        ∀ w104 : World, ∀ L105 : List Nat, (X.Hid (L91) w93 w104) →
        (X.NewL (w).heap.size (L91) w93 w104 L105) →
        X.CallX Try.prog 20 #[(.agg #[(.int .u8 n81), (.int .u16 n82), (.int .u8 n83), (.int .u16 n84), (.slice (q85) k86 k87), (.bool b88)])] w104 fun e106 w107 =>
         ∃ n108 : Int, ∃ n109 : Int, ∃ n110 : Int, ∃ n111 : Int, ∃ q112 : Option Addr, ∃ k113 : Nat, ∃ k114 : Nat, ∃ b115 : Bool, (e106 = .returned (.agg #[(.int .u8 n108), (.int .u16 n109), (.int .u8 n110), (.int .u16 n111), (.slice (q112) k113 k114), (.bool b115)])) ∧
         (X.Kept L105 w104 w107) ∧
         (X.FactsW x103 w107 (L105)) ∧
         X.CallX Try.prog 19 #[(.agg #[(.int .u8 n108), (.int .u16 n109), (.int .u8 n110), (.int .u16 n111), (.slice (q112) k113 k114), (.bool b115)]), (.agg #[(.int .u8 n94), (.int .u16 n95), (.int .u8 n96), (.int .u16 n97), (.slice (q98) k99 k100), (.bool b101)])] w107 fun e116 w117 =>
          ∃ b118 : Bool, (e116 = .returned (.bool b118)) ∧
          (X.Kept L105 w107 w117) ∧
          (X.FactsW x103 w117 (L105)) ∧
          if (b118 == true) = true then
           X.CallX Try.prog 16 #[(.int .i64 n89)] w117 fun e119 w120 =>
            ∃ n121 : Int, (e119 = .returned (.int .i64 n121)) ∧
            (X.Kept L105 w117 w120) ∧
            (X.FactsW x103 w120 (L105)) ∧
            R (.returned (.bool (true && (n121 == n102)))) w120
          else
           R (.returned (.bool false)) w117
     else
      if (c_0 == 4) = true then
       ∃ x65 : X.Facts, (X.FactsW x65 w []) ∧
       ∀ w66 : World, ∀ L67 : List Nat, (X.Hid [] w w66) →
       (X.NewL (w).heap.size [] w w66 L67) →
       X.CallX Try.prog 13 #[(.pointer (some a)), (.int .i64 c_1)] w66 fun e68 w69 =>
        ∃ n70 : Int, (e68 = .returned (.int .i64 n70)) ∧
        (X.Kept L67 w66 w69) ∧
        (X.FactsW x65 w69 (L67)) ∧
        X.CallX Try.prog 16 #[(.int .i64 n70)] w69 fun e71 w72 =>
         ∃ n73 : Int, (e71 = .returned (.int .i64 n73)) ∧
         (X.Kept L67 w69 w72) ∧
         (X.FactsW x65 w72 (L67)) ∧
         X.CallX Try.prog 34 #[(.pointer (some b)), (.int .i64 c_1)] w72 fun e74 w75 =>
          ∃ n76 : Int, (e74 = .returned (.int .i64 n76)) ∧
          (X.Kept L67 w72 w75) ∧
          (X.FactsW x65 w75 (L67)) ∧
          R (.returned (.bool (n73 == n76))) w75
      else
       if (c_0 == 5) = true then
        ∃ x53 : X.Facts, (X.FactsW x53 w []) ∧
        ∀ w54 : World, ∀ L55 : List Nat, (X.Hid [] w w54) →
        (X.NewL (w).heap.size [] w w54 L55) →
        X.CallX Try.prog 14 #[(.pointer (some a)), (.int .i64 c_1), (.int .i64 c_2), (.int .u32 c_3)] w54 fun e56 w57 =>
         ∃ n58 : Int, (e56 = .returned (.int .i64 n58)) ∧
         (X.Kept L55 w54 w57) ∧
         (X.FactsW x53 w57 (L55)) ∧
         X.CallX Try.prog 16 #[(.int .i64 n58)] w57 fun e59 w60 =>
          ∃ n61 : Int, (e59 = .returned (.int .i64 n61)) ∧
          (X.Kept L55 w57 w60) ∧
          (X.FactsW x53 w60 (L55)) ∧
          X.CallX Try.prog 35 #[(.pointer (some b)), (.int .i64 c_1), (.int .i64 c_2), (.int .u32 c_3)] w60 fun e62 w63 =>
           ∃ n64 : Int, (e62 = .returned (.int .i64 n64)) ∧
           (X.Kept L55 w60 w63) ∧
           (X.FactsW x53 w63 (L55)) ∧
           R (.returned (.bool (n61 == n64))) w63
       else
        if (c_0 == 6) = true then
         ∀ w2 : World, ∀ L3 : List Nat, (X.Hid [] w w2) →
         (X.NewL (w).heap.size [] w w2 L3) →
         X.CallX Try.prog 24 #[(.pointer (some a))] w2 fun e4 w5 =>
          ∃ q6 : Option Addr, ∃ k7 : Nat, ∃ k8 : Nat, (e4 = .returned (.slice (q6) k7 k8)) ∧
          (X.Kept L3 w2 w5) ∧
          X.CallX Try.prog 36 #[(.pointer (some b))] w5 fun e9 w10 =>
           ∃ q11 : Option Addr, ∃ k12 : Nat, ∃ k13 : Nat, (e9 = .returned (.slice (q11) k12 k13)) ∧
           (X.Kept L3 w5 w10) ∧
           if (((k7 : Nat) : Int) != ((k12 : Nat) : Int)) = true then
            R (.returned (.bool false)) w10
           else
            ∃ x14 : Int → World → List Nat → Prop, ∃ x15 : Int → World → Nat, (x14 0 w10 (L3)) ∧
            ∀ n16 : Int, ∀ w17 : World, ∀ L18 : List Nat, (X.LF (w).heap.size w17 L18) →
            (x14 n16 w17 L18) →
            if (decide (n16 < ((k7 : Nat) : Int))) = true then
             ∃ x19 : X.Facts, (X.FactsW x19 w17 (L18)) ∧
             (0 ≤ n16) ∧
             (n16 < ((k7 : Nat) : Int)) ∧
             X.onSome (q6) fun p20 =>
             ∃ n21 : Int, ∃ n22 : Int, ∃ n23 : Int, ∃ n24 : Int, ∃ q25 : Option Addr, ∃ k26 : Nat, ∃ k27 : Nat, ∃ b28 : Bool, (((p20.add ((n16).toNat * 6)), [(.int .u8 n21), (.int .u16 n22), (.int .u8 n23), (.int .u16 n24), (.slice (q25) k26 k27), (.bool b28)]) ∈ x19) ∧
             (0 ≤ n16) ∧
             (n16 < ((k12 : Nat) : Int)) ∧
             X.onSome (q11) fun p29 =>
             ∃ n30 : Int, ∃ n31 : Int, ∃ n32 : Int, ∃ n33 : Int, ∃ q34 : Option Addr, ∃ k35 : Nat, ∃ k36 : Nat, ∃ b37 : Bool, (((p29.add ((n16).toNat * 6)), [(.int .u8 n30), (.int .u16 n31), (.int .u8 n32), (.int .u16 n33), (.slice (q34) k35 k36), (.bool b37)]) ∈ x19) ∧
             ∀ w38 : World, ∀ L39 : List Nat, (X.Hid (L18) w17 w38) →
             (X.NewL (w).heap.size (L18) w17 w38 L39) →
             X.CallX Try.prog 20 #[(.agg #[(.int .u8 n21), (.int .u16 n22), (.int .u8 n23), (.int .u16 n24), (.slice (q25) k26 k27), (.bool b28)])] w38 fun e40 w41 =>
              ∃ n42 : Int, ∃ n43 : Int, ∃ n44 : Int, ∃ n45 : Int, ∃ q46 : Option Addr, ∃ k47 : Nat, ∃ k48 : Nat, ∃ b49 : Bool, (e40 = .returned (.agg #[(.int .u8 n42), (.int .u16 n43), (.int .u8 n44), (.int .u16 n45), (.slice (q46) k47 k48), (.bool b49)])) ∧
              (X.Kept L39 w38 w41) ∧
              (X.FactsW x19 w41 (L39)) ∧
              X.CallX Try.prog 19 #[(.agg #[(.int .u8 n42), (.int .u16 n43), (.int .u8 n44), (.int .u16 n45), (.slice (q46) k47 k48), (.bool b49)]), (.agg #[(.int .u8 n30), (.int .u16 n31), (.int .u8 n32), (.int .u16 n33), (.slice (q34) k35 k36), (.bool b37)])] w41 fun e50 w51 =>
               ∃ b52 : Bool, (e50 = .returned (.bool b52)) ∧
               (X.Kept L39 w41 w51) ∧
               (X.FactsW x19 w51 (L39)) ∧
               if (!b52) = true then
                R (.returned (.bool false)) w51
               else
                (([(.int .i64 c_0), (.int .i64 c_1), (.int .i64 c_2), (.int .u32 c_3), (.int .u8 c_4), (.int .u16 c_5), (.int .u8 c_6), (.int .u16 c_7), (.slice (c_8) c_8l c_8c), (.bool c_9)] : List Value) = [(.int .i64 c_0), (.int .i64 c_1), (.int .i64 c_2), (.int .u32 c_3), (.int .u8 c_4), (.int .u16 c_5), (.int .u8 c_6), (.int .u16 c_7), (.slice (c_8) c_8l c_8c), (.bool c_9)]) ∧
                (x14 (IntKind.wrap .i64 (n16 + 1)) w51 (L39)) ∧
                Nat.le ((x15 (IntKind.wrap .i64 (n16 + 1)) w51) + 1) (x15 n16 w17)
            else
             R (.returned (.bool true)) w17
        else
         ∀ w1 : World, (X.Hid [] w w1) →
         R (.returned (.bool true)) w1) :
    Calls Try.prog 22 #[.pointer (some a), .pointer (some b), .agg #[.int .i64 c_0, .int .i64 c_1, .int .i64 c_2, .int .u32 c_3, .int .u8 c_4, .int .u16 c_5, .int .u8 c_6, .int .u16 c_7, .slice c_8 c_8l c_8c, .bool c_9]] w R :=
  X.calls_of { isLoc := [5, 7, 9, 11, 13], sym := [], loops := [(23, .inv [(17, .int .i64)] [] true)], joins := [] } Try.func22 (by kernel_rfl) h
end Go.Proofs
