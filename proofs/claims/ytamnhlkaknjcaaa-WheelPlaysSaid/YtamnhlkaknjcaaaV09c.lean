import Derived.Test.YtamnhlkaknjcaaaXFn
import Derived.Test.YtamnhlkaknjcaaaProg
/- The verification conditions of this seat's functions, as the engine has them: printed by a program of the bench; checked by the kernel. -/
set_option maxRecDepth 100000
set_option linter.unusedVariables false
namespace Go.Proofs
open Go
abbrev fn_gemotref09_New : Nat := 15
theorem x_gemotref09_New (a : Int) (w : World) (R : Ending → World → Prop) (h :
  R (.returned (.pointer (some ⟨(w).heap.size, 0, none⟩))) (w.alloc (.cells #[(.slice none 0 0), (.int .i64 (if (512 : Int) < (if (0 : Int) > a then 0 else a) then 512 else (if (0 : Int) > a then 0 else a)))] 88))) :
    Calls Try.prog 15 #[.int .i64 a] w R :=
  X.calls_of { isLoc := [], sym := [], loops := [], joins := [] } Try.func15 (by kernel_rfl) h
abbrev fn_rSet : Nat := 16
theorem x_rSet (a : Addr) (b_0 b_1 b_2 b_3 b_4 b_5 b_6 b_7 b_8 b_9 b_10 b_11 b_12 c : Int) (w : World) (R : Ending → World → Prop) (h :
  ∃ x1 : X.Facts, (X.FactsW x1 w []) ∧
  ∀ w2 : World, ∀ L3 : List Nat, (X.Hid [] w w2) →
  (X.NewL (w).heap.size [] w w2 L3) →
  X.CallX Try.prog 38 #[(.pointer (some a)), (.agg #[(.int .u8 b_0), (.int .u8 b_1), (.int .u16 b_2), (.int .u8 b_3), (.int .u16 b_4), (.int .u32 b_5), (.int .u8 b_6), (.int .u8 b_7), (.int .u8 b_8), (.int .u8 b_9), (.int .u8 b_10), (.int .u8 b_11), (.int .u8 b_12)])] w2 fun e4 w5 =>
   ∃ n6 : Int, (e4 = .returned (.int .i64 n6)) ∧
   (X.Kept L3 w2 w5) ∧
   (X.FactsW x1 w5 (L3)) ∧
   ∃ x7 : X.Facts, (X.FactsW x7 w5 (L3)) ∧
   (∀ x8 : Addr × List Value, (x8 ∈ x1) →
    x8 ∈ x7) ∧
   if ((decide (n6 < 0)) == true) = true then
    ∃ q140 : Option Addr, ∃ k141 : Nat, ∃ k142 : Nat, (((a.add 0), [(.slice (q140) k141 k142)]) ∈ x7) ∧
    ∃ n143 : Int, (((a.add 1), [(.int .i64 n143)]) ∈ x7) ∧
    if (true && decide (((k141 : Nat) : Int) ≥ n143)) = true then
     R (.returned (.int .i64 11)) w5
    else
     X.CallX Try.prog 18 #[(.pointer (some a)), (.agg #[(.int .u8 b_0), (.int .u8 b_1), (.int .u16 b_2), (.int .u8 b_3), (.int .u16 b_4), (.int .u32 b_5), (.int .u8 b_6), (.int .u8 b_7), (.int .u8 b_8), (.int .u8 b_9), (.int .u8 b_10), (.int .u8 b_11), (.int .u8 b_12)])] w5 fun e144 w145 =>
      ∃ b146 : Bool, (e144 = .returned (.bool b146)) ∧
      (X.Kept L3 w5 w145) ∧
      ∀ w147 : World, ∀ L148 : List Nat, (X.Hid (L3) w145 w147) →
      (X.NewL (w).heap.size (L3) w145 w147 L148) →
      ∃ x149 : Int → World → List Nat → Prop, ∃ x150 : Int → World → Nat, (x149 0 w147 (L148)) ∧
      ∀ n151 : Int, ∀ w152 : World, ∀ L153 : List Nat, (X.LF (w).heap.size w152 L153) →
      (x149 n151 w152 L153) →
      ∃ x154 : X.Facts, (X.FactsW x154 w152 (L153)) ∧
      ∃ q155 : Option Addr, ∃ k156 : Nat, ∃ k157 : Nat, (((a.add 0), [(.slice (q155) k156 k157)]) ∈ x154) ∧
      if ((decide (n151 < ((k156 : Nat) : Int))) == true) = true then
       ∃ q205 : Option Addr, ∃ k206 : Nat, ∃ k207 : Nat, (((a.add 0), [(.slice (q205) k206 k207)]) ∈ x154) ∧
       ((0 : Int) ≤ n151) ∧
       (n151 < ((k206 : Nat) : Int)) ∧
       X.onSome (q205) fun p208 =>
       ∃ n209 : Int, ∃ n210 : Int, ∃ n211 : Int, ∃ n212 : Int, ∃ n213 : Int, ∃ n214 : Int, ∃ n215 : Int, ∃ n216 : Int, ∃ n217 : Int, ∃ n218 : Int, ∃ n219 : Int, ∃ n220 : Int, ∃ n221 : Int, ∃ n222 : Int, (((p208.add ((n151).toNat * 14)), [(.int .u8 n209), (.int .u8 n210), (.int .u16 n211), (.int .u8 n212), (.int .u16 n213), (.int .u32 n214), (.int .u8 n215), (.int .u8 n216), (.int .u8 n217), (.int .u8 n218), (.int .u8 n219), (.int .u8 n220), (.int .u8 n221), (.int .i64 n222)]) ∈ x154) ∧
       ∀ w223 : World, ∀ L224 : List Nat, (X.Hid (L153) w152 w223) →
       (X.NewL (w).heap.size (L153) w152 w223 L224) →
       X.CallX Try.prog 39 #[(.agg #[(.int .u8 n209), (.int .u8 n210), (.int .u16 n211), (.int .u8 n212), (.int .u16 n213), (.int .u32 n214), (.int .u8 n215), (.int .u8 n216), (.int .u8 n217), (.int .u8 n218), (.int .u8 n219), (.int .u8 n220), (.int .u8 n221), (.int .i64 n222)]), (.agg #[(.int .u8 b_0), (.int .u8 b_1), (.int .u16 b_2), (.int .u8 b_3), (.int .u16 b_4), (.int .u32 b_5), (.int .u8 b_6), (.int .u8 b_7), (.int .u8 b_8), (.int .u8 b_9), (.int .u8 b_10), (.int .u8 b_11), (.int .u8 b_12), (.int .i64 c)])] w223 fun e225 w226 =>
        ∃ b227 : Bool, (e225 = .returned (.bool b227)) ∧
        (X.Kept L224 w223 w226) ∧
        (X.FactsW x154 w226 (L224)) ∧
        if (true && b227) = true then
         (([(.int .u8 b_0), (.int .u8 b_1), (.int .u16 b_2), (.int .u8 b_3), (.int .u16 b_4), (.int .u32 b_5), (.int .u8 b_6), (.int .u8 b_7), (.int .u8 b_8), (.int .u8 b_9), (.int .u8 b_10), (.int .u8 b_11), (.int .u8 b_12)] : List Value) = [(.int .u8 b_0), (.int .u8 b_1), (.int .u16 b_2), (.int .u8 b_3), (.int .u16 b_4), (.int .u32 b_5), (.int .u8 b_6), (.int .u8 b_7), (.int .u8 b_8), (.int .u8 b_9), (.int .u8 b_10), (.int .u8 b_11), (.int .u8 b_12)]) ∧
         (([(.int .u8 b_0), (.int .u8 b_1), (.int .u16 b_2), (.int .u8 b_3), (.int .u16 b_4), (.int .u32 b_5), (.int .u8 b_6), (.int .u8 b_7), (.int .u8 b_8), (.int .u8 b_9), (.int .u8 b_10), (.int .u8 b_11), (.int .u8 b_12), (.int .i64 c)] : List Value) = [(.int .u8 b_0), (.int .u8 b_1), (.int .u16 b_2), (.int .u8 b_3), (.int .u16 b_4), (.int .u32 b_5), (.int .u8 b_6), (.int .u8 b_7), (.int .u8 b_8), (.int .u8 b_9), (.int .u8 b_10), (.int .u8 b_11), (.int .u8 b_12), (.int .i64 c)]) ∧
         (x149 (IntKind.wrap .i64 (n151 + 1)) w226 (L224)) ∧
         Nat.le ((x150 (IntKind.wrap .i64 (n151 + 1)) w226) + 1) (x150 n151 w152)
        else
         ∃ x228 : X.Facts, (X.FactsW x228 w226 (L224)) ∧
         ∃ q229 : Option Addr, ∃ k230 : Nat, ∃ k231 : Nat, (((a.add 0), [(.slice (q229) k230 k231)]) ∈ x228) ∧
         ((0 : Int) ≤ n151) ∧
         (n151 ≤ ((k231 : Nat) : Int)) ∧
         ∃ q232 : Option Addr, ∃ k233 : Nat, ∃ k234 : Nat, (((a.add 0), [(.slice (q232) k233 k234)]) ∈ x228) ∧
         ((0 : Int) ≤ n151) ∧
         (n151 ≤ ((k233 : Nat) : Int)) ∧
         (∀ w235 : World, ∀ L236 : List Nat, (X.Hid (L224) w226 w235) →
          (X.NewL (w).heap.size (L224) w226 w235 L236) →
          (X.FactsW x228 (w235.alloc (.cells #[] 91)) (L236)) ∧
          (∃ q237 : Option Addr, ∃ k238 : Nat, ∃ k239 : Nat, ∃ w240 : World, (Sem.run Try.prog (Go.Builtin.append_ #[86, 86] 86 #[(.slice (some ⟨(w235).heap.size, 0, none⟩) 0 0), (.slice (X.cutA (q229) k231 0 14) (n151).toNat k231)]) (w235.alloc (.cells #[] 91)) = .ok (.slice (q237) k238 k239) w240) ∧
           (X.Kept L236 (w235.alloc (.cells #[] 91)) w240) ∧
           (X.FactsW x228 w240 (L236)) ∧
           (X.FactsW x228 (w240.alloc (.cells #[(.int .u8 b_0), (.int .u8 b_1), (.int .u16 b_2), (.int .u8 b_3), (.int .u16 b_4), (.int .u32 b_5), (.int .u8 b_6), (.int .u8 b_7), (.int .u8 b_8), (.int .u8 b_9), (.int .u8 b_10), (.int .u8 b_11), (.int .u8 b_12), (.int .i64 c)] 91)) (L236)) ∧
           ∃ q241 : Option Addr, ∃ k242 : Nat, ∃ k243 : Nat, ∃ w244 : World, (Sem.run Try.prog (Go.Builtin.append_ #[86, 86] 86 #[(.slice (q237) k238 k239), (.slice (some ⟨(w240).heap.size, 0, none⟩) 1 1)]) (w240.alloc (.cells #[(.int .u8 b_0), (.int .u8 b_1), (.int .u16 b_2), (.int .u8 b_3), (.int .u16 b_4), (.int .u32 b_5), (.int .u8 b_6), (.int .u8 b_7), (.int .u8 b_8), (.int .u8 b_9), (.int .u8 b_10), (.int .u8 b_11), (.int .u8 b_12), (.int .i64 c)] 91)) = .ok (.slice (q241) k242 k243) w244) ∧
           (X.Kept L236 (w240.alloc (.cells #[(.int .u8 b_0), (.int .u8 b_1), (.int .u16 b_2), (.int .u8 b_3), (.int .u16 b_4), (.int .u32 b_5), (.int .u8 b_6), (.int .u8 b_7), (.int .u8 b_8), (.int .u8 b_9), (.int .u8 b_10), (.int .u8 b_11), (.int .u8 b_12), (.int .i64 c)] 91)) w244) ∧
           (X.FactsW x228 w244 (L236)) ∧
           ∃ q245 : Option Addr, ∃ k246 : Nat, ∃ k247 : Nat, ∃ w248 : World, (Sem.run Try.prog (Go.Builtin.append_ #[86, 86] 86 #[(.slice (q241) k242 k243), (.slice (X.cutA (q232) k234 (n151).toNat 14) (k233 - (n151).toNat) (k234 - (n151).toNat))]) w244 = .ok (.slice (q245) k246 k247) w248) ∧
           (X.Kept L236 w244 w248) ∧
           (X.FactsW x228 w248 (L236)) ∧
           (((a.add 0).spot) = none) ∧
           (World.there w248 ((a.add 0).block) ((a.add 0).off) 1) ∧
           (¬ (((a.add 0).block) ∈ L236)) ∧
           R (.returned (.int .i64 0)) (w248.setCells ((a.add 0).block) ((a.add 0).off) [(.slice (q245) k246 k247)])) ∧
          (X.FactsW x228 ((w235.alloc (.cells #[] 91)).alloc (.cells #[(.int .u8 b_0), (.int .u8 b_1), (.int .u16 b_2), (.int .u8 b_3), (.int .u16 b_4), (.int .u32 b_5), (.int .u8 b_6), (.int .u8 b_7), (.int .u8 b_8), (.int .u8 b_9), (.int .u8 b_10), (.int .u8 b_11), (.int .u8 b_12), (.int .i64 c)] 91)) (L236)) ∧
          ∃ q249 : Option Addr, ∃ k250 : Nat, ∃ k251 : Nat, ∃ w252 : World, (Sem.run Try.prog (Go.Builtin.append_ #[86, 86] 86 #[(.slice (some ⟨(w235).heap.size, 0, none⟩) 0 0), (.slice (X.cutA (q229) k231 0 14) (n151).toNat k231)]) ((w235.alloc (.cells #[] 91)).alloc (.cells #[(.int .u8 b_0), (.int .u8 b_1), (.int .u16 b_2), (.int .u8 b_3), (.int .u16 b_4), (.int .u32 b_5), (.int .u8 b_6), (.int .u8 b_7), (.int .u8 b_8), (.int .u8 b_9), (.int .u8 b_10), (.int .u8 b_11), (.int .u8 b_12), (.int .i64 c)] 91)) = .ok (.slice (q249) k250 k251) w252) ∧
          (X.Kept L236 ((w235.alloc (.cells #[] 91)).alloc (.cells #[(.int .u8 b_0), (.int .u8 b_1), (.int .u16 b_2), (.int .u8 b_3), (.int .u16 b_4), (.int .u32 b_5), (.int .u8 b_6), (.int .u8 b_7), (.int .u8 b_8), (.int .u8 b_9), (.int .u8 b_10), (.int .u8 b_11), (.int .u8 b_12), (.int .i64 c)] 91)) w252) ∧
          (X.FactsW x228 w252 (L236)) ∧
          ∃ q253 : Option Addr, ∃ k254 : Nat, ∃ k255 : Nat, ∃ w256 : World, (Sem.run Try.prog (Go.Builtin.append_ #[86, 86] 86 #[(.slice (q249) k250 k251), (.slice (some ⟨((w235.alloc (.cells #[] 91))).heap.size, 0, none⟩) 1 1)]) w252 = .ok (.slice (q253) k254 k255) w256) ∧
          (X.Kept L236 w252 w256) ∧
          (X.FactsW x228 w256 (L236)) ∧
          ∃ q257 : Option Addr, ∃ k258 : Nat, ∃ k259 : Nat, ∃ w260 : World, (Sem.run Try.prog (Go.Builtin.append_ #[86, 86] 86 #[(.slice (q253) k254 k255), (.slice (X.cutA (q232) k234 (n151).toNat 14) (k233 - (n151).toNat) (k234 - (n151).toNat))]) w256 = .ok (.slice (q257) k258 k259) w260) ∧
          (X.Kept L236 w256 w260) ∧
          (X.FactsW x228 w260 (L236)) ∧
          (((a.add 0).spot) = none) ∧
          (World.there w260 ((a.add 0).block) ((a.add 0).off) 1) ∧
          (¬ (((a.add 0).block) ∈ L236)) ∧
          R (.returned (.int .i64 0)) (w260.setCells ((a.add 0).block) ((a.add 0).off) [(.slice (q257) k258 k259)])) ∧
         ∀ w261 : World, ∀ L262 : List Nat, (X.Hid (L224) w226 w261) →
         (X.NewL (w).heap.size (L224) w226 w261 L262) →
         (X.FactsW x228 (w261.alloc (.cells #[(.int .u8 b_0), (.int .u8 b_1), (.int .u16 b_2), (.int .u8 b_3), (.int .u16 b_4), (.int .u32 b_5), (.int .u8 b_6), (.int .u8 b_7), (.int .u8 b_8), (.int .u8 b_9), (.int .u8 b_10), (.int .u8 b_11), (.int .u8 b_12), (.int .i64 c)] 91)) (L262)) ∧
         (X.FactsW x228 ((w261.alloc (.cells #[(.int .u8 b_0), (.int .u8 b_1), (.int .u16 b_2), (.int .u8 b_3), (.int .u16 b_4), (.int .u32 b_5), (.int .u8 b_6), (.int .u8 b_7), (.int .u8 b_8), (.int .u8 b_9), (.int .u8 b_10), (.int .u8 b_11), (.int .u8 b_12), (.int .i64 c)] 91)).alloc (.cells #[] 91)) (L262)) ∧
         ∃ q263 : Option Addr, ∃ k264 : Nat, ∃ k265 : Nat, ∃ w266 : World, (Sem.run Try.prog (Go.Builtin.append_ #[86, 86] 86 #[(.slice (some ⟨((w261.alloc (.cells #[(.int .u8 b_0), (.int .u8 b_1), (.int .u16 b_2), (.int .u8 b_3), (.int .u16 b_4), (.int .u32 b_5), (.int .u8 b_6), (.int .u8 b_7), (.int .u8 b_8), (.int .u8 b_9), (.int .u8 b_10), (.int .u8 b_11), (.int .u8 b_12), (.int .i64 c)] 91))).heap.size, 0, none⟩) 0 0), (.slice (X.cutA (q229) k231 0 14) (n151).toNat k231)]) ((w261.alloc (.cells #[(.int .u8 b_0), (.int .u8 b_1), (.int .u16 b_2), (.int .u8 b_3), (.int .u16 b_4), (.int .u32 b_5), (.int .u8 b_6), (.int .u8 b_7), (.int .u8 b_8), (.int .u8 b_9), (.int .u8 b_10), (.int .u8 b_11), (.int .u8 b_12), (.int .i64 c)] 91)).alloc (.cells #[] 91)) = .ok (.slice (q263) k264 k265) w266) ∧
         (X.Kept L262 ((w261.alloc (.cells #[(.int .u8 b_0), (.int .u8 b_1), (.int .u16 b_2), (.int .u8 b_3), (.int .u16 b_4), (.int .u32 b_5), (.int .u8 b_6), (.int .u8 b_7), (.int .u8 b_8), (.int .u8 b_9), (.int .u8 b_10), (.int .u8 b_11), (.int .u8 b_12), (.int .i64 c)] 91)).alloc (.cells #[] 91)) w266) ∧
         (X.FactsW x228 w266 (L262)) ∧
         ∃ q267 : Option Addr, ∃ k268 : Nat, ∃ k269 : Nat, ∃ w270 : World, (Sem.run Try.prog (Go.Builtin.append_ #[86, 86] 86 #[(.slice (q263) k264 k265), (.slice (some ⟨(w261).heap.size, 0, none⟩) 1 1)]) w266 = .ok (.slice (q267) k268 k269) w270) ∧
         (X.Kept L262 w266 w270) ∧
         (X.FactsW x228 w270 (L262)) ∧
         ∃ q271 : Option Addr, ∃ k272 : Nat, ∃ k273 : Nat, ∃ w274 : World, (Sem.run Try.prog (Go.Builtin.append_ #[86, 86] 86 #[(.slice (q267) k268 k269), (.slice (X.cutA (q232) k234 (n151).toNat 14) (k233 - (n151).toNat) (k234 - (n151).toNat))]) w270 = .ok (.slice (q271) k272 k273) w274) ∧
         (X.Kept L262 w270 w274) ∧
         (X.FactsW x228 w274 (L262)) ∧
         (((a.add 0).spot) = none) ∧
         (World.there w274 ((a.add 0).block) ((a.add 0).off) 1) ∧
         (¬ (((a.add 0).block) ∈ L262)) ∧
         R (.returned (.int .i64 0)) (w274.setCells ((a.add 0).block) ((a.add 0).off) [(.slice (q271) k272 k273)])
      else
       ∃ x158 : X.Facts, (X.FactsW x158 w152 (L153)) ∧
       ∃ q159 : Option Addr, ∃ k160 : Nat, ∃ k161 : Nat, (((a.add 0), [(.slice (q159) k160 k161)]) ∈ x158) ∧
       ((0 : Int) ≤ n151) ∧
       (n151 ≤ ((k161 : Nat) : Int)) ∧
       ∃ q162 : Option Addr, ∃ k163 : Nat, ∃ k164 : Nat, (((a.add 0), [(.slice (q162) k163 k164)]) ∈ x158) ∧
       ((0 : Int) ≤ n151) ∧
       (n151 ≤ ((k163 : Nat) : Int)) ∧
       (∀ w165 : World, ∀ L166 : List Nat, (X.Hid (L153) w152 w165) →
        (X.NewL (w).heap.size (L153) w152 w165 L166) →
        (X.FactsW x158 (w165.alloc (.cells #[] 91)) (L166)) ∧
        (∃ q167 : Option Addr, ∃ k168 : Nat, ∃ k169 : Nat, ∃ w170 : World, (Sem.run Try.prog (Go.Builtin.append_ #[86, 86] 86 #[(.slice (some ⟨(w165).heap.size, 0, none⟩) 0 0), (.slice (X.cutA (q159) k161 0 14) (n151).toNat k161)]) (w165.alloc (.cells #[] 91)) = .ok (.slice (q167) k168 k169) w170) ∧
         (X.Kept L166 (w165.alloc (.cells #[] 91)) w170) ∧
         (X.FactsW x158 w170 (L166)) ∧
         (X.FactsW x158 (w170.alloc (.cells #[(.int .u8 b_0), (.int .u8 b_1), (.int .u16 b_2), (.int .u8 b_3), (.int .u16 b_4), (.int .u32 b_5), (.int .u8 b_6), (.int .u8 b_7), (.int .u8 b_8), (.int .u8 b_9), (.int .u8 b_10), (.int .u8 b_11), (.int .u8 b_12), (.int .i64 c)] 91)) (L166)) ∧
         ∃ q171 : Option Addr, ∃ k172 : Nat, ∃ k173 : Nat, ∃ w174 : World, (Sem.run Try.prog (Go.Builtin.append_ #[86, 86] 86 #[(.slice (q167) k168 k169), (.slice (some ⟨(w170).heap.size, 0, none⟩) 1 1)]) (w170.alloc (.cells #[(.int .u8 b_0), (.int .u8 b_1), (.int .u16 b_2), (.int .u8 b_3), (.int .u16 b_4), (.int .u32 b_5), (.int .u8 b_6), (.int .u8 b_7), (.int .u8 b_8), (.int .u8 b_9), (.int .u8 b_10), (.int .u8 b_11), (.int .u8 b_12), (.int .i64 c)] 91)) = .ok (.slice (q171) k172 k173) w174) ∧
         (X.Kept L166 (w170.alloc (.cells #[(.int .u8 b_0), (.int .u8 b_1), (.int .u16 b_2), (.int .u8 b_3), (.int .u16 b_4), (.int .u32 b_5), (.int .u8 b_6), (.int .u8 b_7), (.int .u8 b_8), (.int .u8 b_9), (.int .u8 b_10), (.int .u8 b_11), (.int .u8 b_12), (.int .i64 c)] 91)) w174) ∧
         (X.FactsW x158 w174 (L166)) ∧
         ∃ q175 : Option Addr, ∃ k176 : Nat, ∃ k177 : Nat, ∃ w178 : World, (Sem.run Try.prog (Go.Builtin.append_ #[86, 86] 86 #[(.slice (q171) k172 k173), (.slice (X.cutA (q162) k164 (n151).toNat 14) (k163 - (n151).toNat) (k164 - (n151).toNat))]) w174 = .ok (.slice (q175) k176 k177) w178) ∧
         (X.Kept L166 w174 w178) ∧
         (X.FactsW x158 w178 (L166)) ∧
         (((a.add 0).spot) = none) ∧
         (World.there w178 ((a.add 0).block) ((a.add 0).off) 1) ∧
         (¬ (((a.add 0).block) ∈ L166)) ∧
         R (.returned (.int .i64 0)) (w178.setCells ((a.add 0).block) ((a.add 0).off) [(.slice (q175) k176 k177)])) ∧
        (X.FactsW x158 ((w165.alloc (.cells #[] 91)).alloc (.cells #[(.int .u8 b_0), (.int .u8 b_1), (.int .u16 b_2), (.int .u8 b_3), (.int .u16 b_4), (.int .u32 b_5), (.int .u8 b_6), (.int .u8 b_7), (.int .u8 b_8), (.int .u8 b_9), (.int .u8 b_10), (.int .u8 b_11), (.int .u8 b_12), (.int .i64 c)] 91)) (L166)) ∧
        ∃ q179 : Option Addr, ∃ k180 : Nat, ∃ k181 : Nat, ∃ w182 : World, (Sem.run Try.prog (Go.Builtin.append_ #[86, 86] 86 #[(.slice (some ⟨(w165).heap.size, 0, none⟩) 0 0), (.slice (X.cutA (q159) k161 0 14) (n151).toNat k161)]) ((w165.alloc (.cells #[] 91)).alloc (.cells #[(.int .u8 b_0), (.int .u8 b_1), (.int .u16 b_2), (.int .u8 b_3), (.int .u16 b_4), (.int .u32 b_5), (.int .u8 b_6), (.int .u8 b_7), (.int .u8 b_8), (.int .u8 b_9), (.int .u8 b_10), (.int .u8 b_11), (.int .u8 b_12), (.int .i64 c)] 91)) = .ok (.slice (q179) k180 k181) w182) ∧
        (X.Kept L166 ((w165.alloc (.cells #[] 91)).alloc (.cells #[(.int .u8 b_0), (.int .u8 b_1), (.int .u16 b_2), (.int .u8 b_3), (.int .u16 b_4), (.int .u32 b_5), (.int .u8 b_6), (.int .u8 b_7), (.int .u8 b_8), (.int .u8 b_9), (.int .u8 b_10), (.int .u8 b_11), (.int .u8 b_12), (.int .i64 c)] 91)) w182) ∧
        (X.FactsW x158 w182 (L166)) ∧
        ∃ q183 : Option Addr, ∃ k184 : Nat, ∃ k185 : Nat, ∃ w186 : World, (Sem.run Try.prog (Go.Builtin.append_ #[86, 86] 86 #[(.slice (q179) k180 k181), (.slice (some ⟨((w165.alloc (.cells #[] 91))).heap.size, 0, none⟩) 1 1)]) w182 = .ok (.slice (q183) k184 k185) w186) ∧
        (X.Kept L166 w182 w186) ∧
        (X.FactsW x158 w186 (L166)) ∧
        ∃ q187 : Option Addr, ∃ k188 : Nat, ∃ k189 : Nat, ∃ w190 : World, (Sem.run Try.prog (Go.Builtin.append_ #[86, 86] 86 #[(.slice (q183) k184 k185), (.slice (X.cutA (q162) k164 (n151).toNat 14) (k163 - (n151).toNat) (k164 - (n151).toNat))]) w186 = .ok (.slice (q187) k188 k189) w190) ∧
        (X.Kept L166 w186 w190) ∧
        (X.FactsW x158 w190 (L166)) ∧
        (((a.add 0).spot) = none) ∧
        (World.there w190 ((a.add 0).block) ((a.add 0).off) 1) ∧
        (¬ (((a.add 0).block) ∈ L166)) ∧
        R (.returned (.int .i64 0)) (w190.setCells ((a.add 0).block) ((a.add 0).off) [(.slice (q187) k188 k189)])) ∧
       ∀ w191 : World, ∀ L192 : List Nat, (X.Hid (L153) w152 w191) →
       (X.NewL (w).heap.size (L153) w152 w191 L192) →
       (X.FactsW x158 (w191.alloc (.cells #[(.int .u8 b_0), (.int .u8 b_1), (.int .u16 b_2), (.int .u8 b_3), (.int .u16 b_4), (.int .u32 b_5), (.int .u8 b_6), (.int .u8 b_7), (.int .u8 b_8), (.int .u8 b_9), (.int .u8 b_10), (.int .u8 b_11), (.int .u8 b_12), (.int .i64 c)] 91)) (L192)) ∧
       (X.FactsW x158 ((w191.alloc (.cells #[(.int .u8 b_0), (.int .u8 b_1), (.int .u16 b_2), (.int .u8 b_3), (.int .u16 b_4), (.int .u32 b_5), (.int .u8 b_6), (.int .u8 b_7), (.int .u8 b_8), (.int .u8 b_9), (.int .u8 b_10), (.int .u8 b_11), (.int .u8 b_12), (.int .i64 c)] 91)).alloc (.cells #[] 91)) (L192)) ∧
       ∃ q193 : Option Addr, ∃ k194 : Nat, ∃ k195 : Nat, ∃ w196 : World, (Sem.run Try.prog (Go.Builtin.append_ #[86, 86] 86 #[(.slice (some ⟨((w191.alloc (.cells #[(.int .u8 b_0), (.int .u8 b_1), (.int .u16 b_2), (.int .u8 b_3), (.int .u16 b_4), (.int .u32 b_5), (.int .u8 b_6), (.int .u8 b_7), (.int .u8 b_8), (.int .u8 b_9), (.int .u8 b_10), (.int .u8 b_11), (.int .u8 b_12), (.int .i64 c)] 91))).heap.size, 0, none⟩) 0 0), (.slice (X.cutA (q159) k161 0 14) (n151).toNat k161)]) ((w191.alloc (.cells #[(.int .u8 b_0), (.int .u8 b_1), (.int .u16 b_2), (.int .u8 b_3), (.int .u16 b_4), (.int .u32 b_5), (.int .u8 b_6), (.int .u8 b_7), (.int .u8 b_8), (.int .u8 b_9), (.int .u8 b_10), (.int .u8 b_11), (.int .u8 b_12), (.int .i64 c)] 91)).alloc (.cells #[] 91)) = .ok (.slice (q193) k194 k195) w196) ∧
       (X.Kept L192 ((w191.alloc (.cells #[(.int .u8 b_0), (.int .u8 b_1), (.int .u16 b_2), (.int .u8 b_3), (.int .u16 b_4), (.int .u32 b_5), (.int .u8 b_6), (.int .u8 b_7), (.int .u8 b_8), (.int .u8 b_9), (.int .u8 b_10), (.int .u8 b_11), (.int .u8 b_12), (.int .i64 c)] 91)).alloc (.cells #[] 91)) w196) ∧
       (X.FactsW x158 w196 (L192)) ∧
       ∃ q197 : Option Addr, ∃ k198 : Nat, ∃ k199 : Nat, ∃ w200 : World, (Sem.run Try.prog (Go.Builtin.append_ #[86, 86] 86 #[(.slice (q193) k194 k195), (.slice (some ⟨(w191).heap.size, 0, none⟩) 1 1)]) w196 = .ok (.slice (q197) k198 k199) w200) ∧
       (X.Kept L192 w196 w200) ∧
       (X.FactsW x158 w200 (L192)) ∧
       ∃ q201 : Option Addr, ∃ k202 : Nat, ∃ k203 : Nat, ∃ w204 : World, (Sem.run Try.prog (Go.Builtin.append_ #[86, 86] 86 #[(.slice (q197) k198 k199), (.slice (X.cutA (q162) k164 (n151).toNat 14) (k163 - (n151).toNat) (k164 - (n151).toNat))]) w200 = .ok (.slice (q201) k202 k203) w204) ∧
       (X.Kept L192 w200 w204) ∧
       (X.FactsW x158 w204 (L192)) ∧
       (((a.add 0).spot) = none) ∧
       (World.there w204 ((a.add 0).block) ((a.add 0).off) 1) ∧
       (¬ (((a.add 0).block) ∈ L192)) ∧
       R (.returned (.int .i64 0)) (w204.setCells ((a.add 0).block) ((a.add 0).off) [(.slice (q201) k202 k203)])
   else
    X.CallX Try.prog 18 #[(.pointer (some a)), (.agg #[(.int .u8 b_0), (.int .u8 b_1), (.int .u16 b_2), (.int .u8 b_3), (.int .u16 b_4), (.int .u32 b_5), (.int .u8 b_6), (.int .u8 b_7), (.int .u8 b_8), (.int .u8 b_9), (.int .u8 b_10), (.int .u8 b_11), (.int .u8 b_12)])] w5 fun e9 w10 =>
     ∃ b11 : Bool, (e9 = .returned (.bool b11)) ∧
     (X.Kept L3 w5 w10) ∧
     ∀ w12 : World, ∀ L13 : List Nat, (X.Hid (L3) w10 w12) →
     (X.NewL (w).heap.size (L3) w10 w12 L13) →
     ∃ x14 : Int → World → List Nat → Prop, ∃ x15 : Int → World → Nat, (x14 0 w12 (L13)) ∧
     ∀ n16 : Int, ∀ w17 : World, ∀ L18 : List Nat, (X.LF (w).heap.size w17 L18) →
     (x14 n16 w17 L18) →
     ∃ x19 : X.Facts, (X.FactsW x19 w17 (L18)) ∧
     ∃ q20 : Option Addr, ∃ k21 : Nat, ∃ k22 : Nat, (((a.add 0), [(.slice (q20) k21 k22)]) ∈ x19) ∧
     if ((decide (n16 < ((k21 : Nat) : Int))) == true) = true then
      ∃ q70 : Option Addr, ∃ k71 : Nat, ∃ k72 : Nat, (((a.add 0), [(.slice (q70) k71 k72)]) ∈ x19) ∧
      ((0 : Int) ≤ n16) ∧
      (n16 < ((k71 : Nat) : Int)) ∧
      X.onSome (q70) fun p73 =>
      ∃ n74 : Int, ∃ n75 : Int, ∃ n76 : Int, ∃ n77 : Int, ∃ n78 : Int, ∃ n79 : Int, ∃ n80 : Int, ∃ n81 : Int, ∃ n82 : Int, ∃ n83 : Int, ∃ n84 : Int, ∃ n85 : Int, ∃ n86 : Int, ∃ n87 : Int, (((p73.add ((n16).toNat * 14)), [(.int .u8 n74), (.int .u8 n75), (.int .u16 n76), (.int .u8 n77), (.int .u16 n78), (.int .u32 n79), (.int .u8 n80), (.int .u8 n81), (.int .u8 n82), (.int .u8 n83), (.int .u8 n84), (.int .u8 n85), (.int .u8 n86), (.int .i64 n87)]) ∈ x19) ∧
      ∀ w88 : World, ∀ L89 : List Nat, (X.Hid (L18) w17 w88) →
      (X.NewL (w).heap.size (L18) w17 w88 L89) →
      X.CallX Try.prog 39 #[(.agg #[(.int .u8 n74), (.int .u8 n75), (.int .u16 n76), (.int .u8 n77), (.int .u16 n78), (.int .u32 n79), (.int .u8 n80), (.int .u8 n81), (.int .u8 n82), (.int .u8 n83), (.int .u8 n84), (.int .u8 n85), (.int .u8 n86), (.int .i64 n87)]), (.agg #[(.int .u8 b_0), (.int .u8 b_1), (.int .u16 b_2), (.int .u8 b_3), (.int .u16 b_4), (.int .u32 b_5), (.int .u8 b_6), (.int .u8 b_7), (.int .u8 b_8), (.int .u8 b_9), (.int .u8 b_10), (.int .u8 b_11), (.int .u8 b_12), (.int .i64 c)])] w88 fun e90 w91 =>
       ∃ b92 : Bool, (e90 = .returned (.bool b92)) ∧
       (X.Kept L89 w88 w91) ∧
       (X.FactsW x19 w91 (L89)) ∧
       if (true && b92) = true then
        (([(.int .u8 b_0), (.int .u8 b_1), (.int .u16 b_2), (.int .u8 b_3), (.int .u16 b_4), (.int .u32 b_5), (.int .u8 b_6), (.int .u8 b_7), (.int .u8 b_8), (.int .u8 b_9), (.int .u8 b_10), (.int .u8 b_11), (.int .u8 b_12)] : List Value) = [(.int .u8 b_0), (.int .u8 b_1), (.int .u16 b_2), (.int .u8 b_3), (.int .u16 b_4), (.int .u32 b_5), (.int .u8 b_6), (.int .u8 b_7), (.int .u8 b_8), (.int .u8 b_9), (.int .u8 b_10), (.int .u8 b_11), (.int .u8 b_12)]) ∧
        (([(.int .u8 b_0), (.int .u8 b_1), (.int .u16 b_2), (.int .u8 b_3), (.int .u16 b_4), (.int .u32 b_5), (.int .u8 b_6), (.int .u8 b_7), (.int .u8 b_8), (.int .u8 b_9), (.int .u8 b_10), (.int .u8 b_11), (.int .u8 b_12), (.int .i64 c)] : List Value) = [(.int .u8 b_0), (.int .u8 b_1), (.int .u16 b_2), (.int .u8 b_3), (.int .u16 b_4), (.int .u32 b_5), (.int .u8 b_6), (.int .u8 b_7), (.int .u8 b_8), (.int .u8 b_9), (.int .u8 b_10), (.int .u8 b_11), (.int .u8 b_12), (.int .i64 c)]) ∧
        (x14 (IntKind.wrap .i64 (n16 + 1)) w91 (L89)) ∧
        Nat.le ((x15 (IntKind.wrap .i64 (n16 + 1)) w91) + 1) (x15 n16 w17)
       else
        ∃ x93 : X.Facts, (X.FactsW x93 w91 (L89)) ∧
        ∃ q94 : Option Addr, ∃ k95 : Nat, ∃ k96 : Nat, (((a.add 0), [(.slice (q94) k95 k96)]) ∈ x93) ∧
        ((0 : Int) ≤ n16) ∧
        (n16 ≤ ((k96 : Nat) : Int)) ∧
        ∃ q97 : Option Addr, ∃ k98 : Nat, ∃ k99 : Nat, (((a.add 0), [(.slice (q97) k98 k99)]) ∈ x93) ∧
        ((0 : Int) ≤ n16) ∧
        (n16 ≤ ((k98 : Nat) : Int)) ∧
        (∀ w100 : World, ∀ L101 : List Nat, (X.Hid (L89) w91 w100) →
         (X.NewL (w).heap.size (L89) w91 w100 L101) →
         (X.FactsW x93 (w100.alloc (.cells #[] 91)) (L101)) ∧
         (∃ q102 : Option Addr, ∃ k103 : Nat, ∃ k104 : Nat, ∃ w105 : World, (Sem.run Try.prog (Go.Builtin.append_ #[86, 86] 86 #[(.slice (some ⟨(w100).heap.size, 0, none⟩) 0 0), (.slice (X.cutA (q94) k96 0 14) (n16).toNat k96)]) (w100.alloc (.cells #[] 91)) = .ok (.slice (q102) k103 k104) w105) ∧
          (X.Kept L101 (w100.alloc (.cells #[] 91)) w105) ∧
          (X.FactsW x93 w105 (L101)) ∧
          (X.FactsW x93 (w105.alloc (.cells #[(.int .u8 b_0), (.int .u8 b_1), (.int .u16 b_2), (.int .u8 b_3), (.int .u16 b_4), (.int .u32 b_5), (.int .u8 b_6), (.int .u8 b_7), (.int .u8 b_8), (.int .u8 b_9), (.int .u8 b_10), (.int .u8 b_11), (.int .u8 b_12), (.int .i64 c)] 91)) (L101)) ∧
          ∃ q106 : Option Addr, ∃ k107 : Nat, ∃ k108 : Nat, ∃ w109 : World, (Sem.run Try.prog (Go.Builtin.append_ #[86, 86] 86 #[(.slice (q102) k103 k104), (.slice (some ⟨(w105).heap.size, 0, none⟩) 1 1)]) (w105.alloc (.cells #[(.int .u8 b_0), (.int .u8 b_1), (.int .u16 b_2), (.int .u8 b_3), (.int .u16 b_4), (.int .u32 b_5), (.int .u8 b_6), (.int .u8 b_7), (.int .u8 b_8), (.int .u8 b_9), (.int .u8 b_10), (.int .u8 b_11), (.int .u8 b_12), (.int .i64 c)] 91)) = .ok (.slice (q106) k107 k108) w109) ∧
          (X.Kept L101 (w105.alloc (.cells #[(.int .u8 b_0), (.int .u8 b_1), (.int .u16 b_2), (.int .u8 b_3), (.int .u16 b_4), (.int .u32 b_5), (.int .u8 b_6), (.int .u8 b_7), (.int .u8 b_8), (.int .u8 b_9), (.int .u8 b_10), (.int .u8 b_11), (.int .u8 b_12), (.int .i64 c)] 91)) w109) ∧
          (X.FactsW x93 w109 (L101)) ∧
          ∃ q110 : Option Addr, ∃ k111 : Nat, ∃ k112 : Nat, ∃ w113 : World, (Sem.run Try.prog (Go.Builtin.append_ #[86, 86] 86 #[(.slice (q106) k107 k108), (.slice (X.cutA (q97) k99 (n16).toNat 14) (k98 - (n16).toNat) (k99 - (n16).toNat))]) w109 = .ok (.slice (q110) k111 k112) w113) ∧
          (X.Kept L101 w109 w113) ∧
          (X.FactsW x93 w113 (L101)) ∧
          (((a.add 0).spot) = none) ∧
          (World.there w113 ((a.add 0).block) ((a.add 0).off) 1) ∧
          (¬ (((a.add 0).block) ∈ L101)) ∧
          R (.returned (.int .i64 0)) (w113.setCells ((a.add 0).block) ((a.add 0).off) [(.slice (q110) k111 k112)])) ∧
         (X.FactsW x93 ((w100.alloc (.cells #[] 91)).alloc (.cells #[(.int .u8 b_0), (.int .u8 b_1), (.int .u16 b_2), (.int .u8 b_3), (.int .u16 b_4), (.int .u32 b_5), (.int .u8 b_6), (.int .u8 b_7), (.int .u8 b_8), (.int .u8 b_9), (.int .u8 b_10), (.int .u8 b_11), (.int .u8 b_12), (.int .i64 c)] 91)) (L101)) ∧
         ∃ q114 : Option Addr, ∃ k115 : Nat, ∃ k116 : Nat, ∃ w117 : World, (Sem.run Try.prog (Go.Builtin.append_ #[86, 86] 86 #[(.slice (some ⟨(w100).heap.size, 0, none⟩) 0 0), (.slice (X.cutA (q94) k96 0 14) (n16).toNat k96)]) ((w100.alloc (.cells #[] 91)).alloc (.cells #[(.int .u8 b_0), (.int .u8 b_1), (.int .u16 b_2), (.int .u8 b_3), (.int .u16 b_4), (.int .u32 b_5), (.int .u8 b_6), (.int .u8 b_7), (.int .u8 b_8), (.int .u8 b_9), (.int .u8 b_10), (.int .u8 b_11), (.int .u8 b_12), (.int .i64 c)] 91)) = .ok (.slice (q114) k115 k116) w117) ∧
         (X.Kept L101 ((w100.alloc (.cells #[] 91)).alloc (.cells #[(.int .u8 b_0), (.int .u8 b_1), (.int .u16 b_2), (.int .u8 b_3), (.int .u16 b_4), (.int .u32 b_5), (.int .u8 b_6), (.int .u8 b_7), (.int .u8 b_8), (.int .u8 b_9), (.int .u8 b_10), (.int .u8 b_11), (.int .u8 b_12), (.int .i64 c)] 91)) w117) ∧
         (X.FactsW x93 w117 (L101)) ∧
         ∃ q118 : Option Addr, ∃ k119 : Nat, ∃ k120 : Nat, ∃ w121 : World, (Sem.run Try.prog (Go.Builtin.append_ #[86, 86] 86 #[(.slice (q114) k115 k116), (.slice (some ⟨((w100.alloc (.cells #[] 91))).heap.size, 0, none⟩) 1 1)]) w117 = .ok (.slice (q118) k119 k120) w121) ∧
         (X.Kept L101 w117 w121) ∧
         (X.FactsW x93 w121 (L101)) ∧
         ∃ q122 : Option Addr, ∃ k123 : Nat, ∃ k124 : Nat, ∃ w125 : World, (Sem.run Try.prog (Go.Builtin.append_ #[86, 86] 86 #[(.slice (q118) k119 k120), (.slice (X.cutA (q97) k99 (n16).toNat 14) (k98 - (n16).toNat) (k99 - (n16).toNat))]) w121 = .ok (.slice (q122) k123 k124) w125) ∧
         (X.Kept L101 w121 w125) ∧
         (X.FactsW x93 w125 (L101)) ∧
         (((a.add 0).spot) = none) ∧
         (World.there w125 ((a.add 0).block) ((a.add 0).off) 1) ∧
         (¬ (((a.add 0).block) ∈ L101)) ∧
         R (.returned (.int .i64 0)) (w125.setCells ((a.add 0).block) ((a.add 0).off) [(.slice (q122) k123 k124)])) ∧
        ∀ w126 : World, ∀ L127 : List Nat, (X.Hid (L89) w91 w126) →
        (X.NewL (w).heap.size (L89) w91 w126 L127) →
        (X.FactsW x93 (w126.alloc (.cells #[(.int .u8 b_0), (.int .u8 b_1), (.int .u16 b_2), (.int .u8 b_3), (.int .u16 b_4), (.int .u32 b_5), (.int .u8 b_6), (.int .u8 b_7), (.int .u8 b_8), (.int .u8 b_9), (.int .u8 b_10), (.int .u8 b_11), (.int .u8 b_12), (.int .i64 c)] 91)) (L127)) ∧
        (X.FactsW x93 ((w126.alloc (.cells #[(.int .u8 b_0), (.int .u8 b_1), (.int .u16 b_2), (.int .u8 b_3), (.int .u16 b_4), (.int .u32 b_5), (.int .u8 b_6), (.int .u8 b_7), (.int .u8 b_8), (.int .u8 b_9), (.int .u8 b_10), (.int .u8 b_11), (.int .u8 b_12), (.int .i64 c)] 91)).alloc (.cells #[] 91)) (L127)) ∧
        ∃ q128 : Option Addr, ∃ k129 : Nat, ∃ k130 : Nat, ∃ w131 : World, (Sem.run Try.prog (Go.Builtin.append_ #[86, 86] 86 #[(.slice (some ⟨((w126.alloc (.cells #[(.int .u8 b_0), (.int .u8 b_1), (.int .u16 b_2), (.int .u8 b_3), (.int .u16 b_4), (.int .u32 b_5), (.int .u8 b_6), (.int .u8 b_7), (.int .u8 b_8), (.int .u8 b_9), (.int .u8 b_10), (.int .u8 b_11), (.int .u8 b_12), (.int .i64 c)] 91))).heap.size, 0, none⟩) 0 0), (.slice (X.cutA (q94) k96 0 14) (n16).toNat k96)]) ((w126.alloc (.cells #[(.int .u8 b_0), (.int .u8 b_1), (.int .u16 b_2), (.int .u8 b_3), (.int .u16 b_4), (.int .u32 b_5), (.int .u8 b_6), (.int .u8 b_7), (.int .u8 b_8), (.int .u8 b_9), (.int .u8 b_10), (.int .u8 b_11), (.int .u8 b_12), (.int .i64 c)] 91)).alloc (.cells #[] 91)) = .ok (.slice (q128) k129 k130) w131) ∧
        (X.Kept L127 ((w126.alloc (.cells #[(.int .u8 b_0), (.int .u8 b_1), (.int .u16 b_2), (.int .u8 b_3), (.int .u16 b_4), (.int .u32 b_5), (.int .u8 b_6), (.int .u8 b_7), (.int .u8 b_8), (.int .u8 b_9), (.int .u8 b_10), (.int .u8 b_11), (.int .u8 b_12), (.int .i64 c)] 91)).alloc (.cells #[] 91)) w131) ∧
        (X.FactsW x93 w131 (L127)) ∧
        ∃ q132 : Option Addr, ∃ k133 : Nat, ∃ k134 : Nat, ∃ w135 : World, (Sem.run Try.prog (Go.Builtin.append_ #[86, 86] 86 #[(.slice (q128) k129 k130), (.slice (some ⟨(w126).heap.size, 0, none⟩) 1 1)]) w131 = .ok (.slice (q132) k133 k134) w135) ∧
        (X.Kept L127 w131 w135) ∧
        (X.FactsW x93 w135 (L127)) ∧
        ∃ q136 : Option Addr, ∃ k137 : Nat, ∃ k138 : Nat, ∃ w139 : World, (Sem.run Try.prog (Go.Builtin.append_ #[86, 86] 86 #[(.slice (q132) k133 k134), (.slice (X.cutA (q97) k99 (n16).toNat 14) (k98 - (n16).toNat) (k99 - (n16).toNat))]) w135 = .ok (.slice (q136) k137 k138) w139) ∧
        (X.Kept L127 w135 w139) ∧
        (X.FactsW x93 w139 (L127)) ∧
        (((a.add 0).spot) = none) ∧
        (World.there w139 ((a.add 0).block) ((a.add 0).off) 1) ∧
        (¬ (((a.add 0).block) ∈ L127)) ∧
        R (.returned (.int .i64 0)) (w139.setCells ((a.add 0).block) ((a.add 0).off) [(.slice (q136) k137 k138)])
     else
      ∃ x23 : X.Facts, (X.FactsW x23 w17 (L18)) ∧
      ∃ q24 : Option Addr, ∃ k25 : Nat, ∃ k26 : Nat, (((a.add 0), [(.slice (q24) k25 k26)]) ∈ x23) ∧
      ((0 : Int) ≤ n16) ∧
      (n16 ≤ ((k26 : Nat) : Int)) ∧
      ∃ q27 : Option Addr, ∃ k28 : Nat, ∃ k29 : Nat, (((a.add 0), [(.slice (q27) k28 k29)]) ∈ x23) ∧
      ((0 : Int) ≤ n16) ∧
      (n16 ≤ ((k28 : Nat) : Int)) ∧
      (∀ w30 : World, ∀ L31 : List Nat, (X.Hid (L18) w17 w30) →
       (X.NewL (w).heap.size (L18) w17 w30 L31) →
       (X.FactsW x23 (w30.alloc (.cells #[] 91)) (L31)) ∧
       (∃ q32 : Option Addr, ∃ k33 : Nat, ∃ k34 : Nat, ∃ w35 : World, (Sem.run Try.prog (Go.Builtin.append_ #[86, 86] 86 #[(.slice (some ⟨(w30).heap.size, 0, none⟩) 0 0), (.slice (X.cutA (q24) k26 0 14) (n16).toNat k26)]) (w30.alloc (.cells #[] 91)) = .ok (.slice (q32) k33 k34) w35) ∧
        (X.Kept L31 (w30.alloc (.cells #[] 91)) w35) ∧
        (X.FactsW x23 w35 (L31)) ∧
        (X.FactsW x23 (w35.alloc (.cells #[(.int .u8 b_0), (.int .u8 b_1), (.int .u16 b_2), (.int .u8 b_3), (.int .u16 b_4), (.int .u32 b_5), (.int .u8 b_6), (.int .u8 b_7), (.int .u8 b_8), (.int .u8 b_9), (.int .u8 b_10), (.int .u8 b_11), (.int .u8 b_12), (.int .i64 c)] 91)) (L31)) ∧
        ∃ q36 : Option Addr, ∃ k37 : Nat, ∃ k38 : Nat, ∃ w39 : World, (Sem.run Try.prog (Go.Builtin.append_ #[86, 86] 86 #[(.slice (q32) k33 k34), (.slice (some ⟨(w35).heap.size, 0, none⟩) 1 1)]) (w35.alloc (.cells #[(.int .u8 b_0), (.int .u8 b_1), (.int .u16 b_2), (.int .u8 b_3), (.int .u16 b_4), (.int .u32 b_5), (.int .u8 b_6), (.int .u8 b_7), (.int .u8 b_8), (.int .u8 b_9), (.int .u8 b_10), (.int .u8 b_11), (.int .u8 b_12), (.int .i64 c)] 91)) = .ok (.slice (q36) k37 k38) w39) ∧
        (X.Kept L31 (w35.alloc (.cells #[(.int .u8 b_0), (.int .u8 b_1), (.int .u16 b_2), (.int .u8 b_3), (.int .u16 b_4), (.int .u32 b_5), (.int .u8 b_6), (.int .u8 b_7), (.int .u8 b_8), (.int .u8 b_9), (.int .u8 b_10), (.int .u8 b_11), (.int .u8 b_12), (.int .i64 c)] 91)) w39) ∧
        (X.FactsW x23 w39 (L31)) ∧
        ∃ q40 : Option Addr, ∃ k41 : Nat, ∃ k42 : Nat, ∃ w43 : World, (Sem.run Try.prog (Go.Builtin.append_ #[86, 86] 86 #[(.slice (q36) k37 k38), (.slice (X.cutA (q27) k29 (n16).toNat 14) (k28 - (n16).toNat) (k29 - (n16).toNat))]) w39 = .ok (.slice (q40) k41 k42) w43) ∧
        (X.Kept L31 w39 w43) ∧
        (X.FactsW x23 w43 (L31)) ∧
        (((a.add 0).spot) = none) ∧
        (World.there w43 ((a.add 0).block) ((a.add 0).off) 1) ∧
        (¬ (((a.add 0).block) ∈ L31)) ∧
        R (.returned (.int .i64 0)) (w43.setCells ((a.add 0).block) ((a.add 0).off) [(.slice (q40) k41 k42)])) ∧
       (X.FactsW x23 ((w30.alloc (.cells #[] 91)).alloc (.cells #[(.int .u8 b_0), (.int .u8 b_1), (.int .u16 b_2), (.int .u8 b_3), (.int .u16 b_4), (.int .u32 b_5), (.int .u8 b_6), (.int .u8 b_7), (.int .u8 b_8), (.int .u8 b_9), (.int .u8 b_10), (.int .u8 b_11), (.int .u8 b_12), (.int .i64 c)] 91)) (L31)) ∧
       ∃ q44 : Option Addr, ∃ k45 : Nat, ∃ k46 : Nat, ∃ w47 : World, (Sem.run Try.prog (Go.Builtin.append_ #[86, 86] 86 #[(.slice (some ⟨(w30).heap.size, 0, none⟩) 0 0), (.slice (X.cutA (q24) k26 0 14) (n16).toNat k26)]) ((w30.alloc (.cells #[] 91)).alloc (.cells #[(.int .u8 b_0), (.int .u8 b_1), (.int .u16 b_2), (.int .u8 b_3), (.int .u16 b_4), (.int .u32 b_5), (.int .u8 b_6), (.int .u8 b_7), (.int .u8 b_8), (.int .u8 b_9), (.int .u8 b_10), (.int .u8 b_11), (.int .u8 b_12), (.int .i64 c)] 91)) = .ok (.slice (q44) k45 k46) w47) ∧
       (X.Kept L31 ((w30.alloc (.cells #[] 91)).alloc (.cells #[(.int .u8 b_0), (.int .u8 b_1), (.int .u16 b_2), (.int .u8 b_3), (.int .u16 b_4), (.int .u32 b_5), (.int .u8 b_6), (.int .u8 b_7), (.int .u8 b_8), (.int .u8 b_9), (.int .u8 b_10), (.int .u8 b_11), (.int .u8 b_12), (.int .i64 c)] 91)) w47) ∧
       (X.FactsW x23 w47 (L31)) ∧
       ∃ q48 : Option Addr, ∃ k49 : Nat, ∃ k50 : Nat, ∃ w51 : World, (Sem.run Try.prog (Go.Builtin.append_ #[86, 86] 86 #[(.slice (q44) k45 k46), (.slice (some ⟨((w30.alloc (.cells #[] 91))).heap.size, 0, none⟩) 1 1)]) w47 = .ok (.slice (q48) k49 k50) w51) ∧
       (X.Kept L31 w47 w51) ∧
       (X.FactsW x23 w51 (L31)) ∧
       ∃ q52 : Option Addr, ∃ k53 : Nat, ∃ k54 : Nat, ∃ w55 : World, (Sem.run Try.prog (Go.Builtin.append_ #[86, 86] 86 #[(.slice (q48) k49 k50), (.slice (X.cutA (q27) k29 (n16).toNat 14) (k28 - (n16).toNat) (k29 - (n16).toNat))]) w51 = .ok (.slice (q52) k53 k54) w55) ∧
       (X.Kept L31 w51 w55) ∧
       (X.FactsW x23 w55 (L31)) ∧
       (((a.add 0).spot) = none) ∧
       (World.there w55 ((a.add 0).block) ((a.add 0).off) 1) ∧
       (¬ (((a.add 0).block) ∈ L31)) ∧
       R (.returned (.int .i64 0)) (w55.setCells ((a.add 0).block) ((a.add 0).off) [(.slice (q52) k53 k54)])) ∧
      ∀ w56 : World, ∀ L57 : List Nat, (X.Hid (L18) w17 w56) →
      (X.NewL (w).heap.size (L18) w17 w56 L57) →
      (X.FactsW x23 (w56.alloc (.cells #[(.int .u8 b_0), (.int .u8 b_1), (.int .u16 b_2), (.int .u8 b_3), (.int .u16 b_4), (.int .u32 b_5), (.int .u8 b_6), (.int .u8 b_7), (.int .u8 b_8), (.int .u8 b_9), (.int .u8 b_10), (.int .u8 b_11), (.int .u8 b_12), (.int .i64 c)] 91)) (L57)) ∧
      (X.FactsW x23 ((w56.alloc (.cells #[(.int .u8 b_0), (.int .u8 b_1), (.int .u16 b_2), (.int .u8 b_3), (.int .u16 b_4), (.int .u32 b_5), (.int .u8 b_6), (.int .u8 b_7), (.int .u8 b_8), (.int .u8 b_9), (.int .u8 b_10), (.int .u8 b_11), (.int .u8 b_12), (.int .i64 c)] 91)).alloc (.cells #[] 91)) (L57)) ∧
      ∃ q58 : Option Addr, ∃ k59 : Nat, ∃ k60 : Nat, ∃ w61 : World, (Sem.run Try.prog (Go.Builtin.append_ #[86, 86] 86 #[(.slice (some ⟨((w56.alloc (.cells #[(.int .u8 b_0), (.int .u8 b_1), (.int .u16 b_2), (.int .u8 b_3), (.int .u16 b_4), (.int .u32 b_5), (.int .u8 b_6), (.int .u8 b_7), (.int .u8 b_8), (.int .u8 b_9), (.int .u8 b_10), (.int .u8 b_11), (.int .u8 b_12), (.int .i64 c)] 91))).heap.size, 0, none⟩) 0 0), (.slice (X.cutA (q24) k26 0 14) (n16).toNat k26)]) ((w56.alloc (.cells #[(.int .u8 b_0), (.int .u8 b_1), (.int .u16 b_2), (.int .u8 b_3), (.int .u16 b_4), (.int .u32 b_5), (.int .u8 b_6), (.int .u8 b_7), (.int .u8 b_8), (.int .u8 b_9), (.int .u8 b_10), (.int .u8 b_11), (.int .u8 b_12), (.int .i64 c)] 91)).alloc (.cells #[] 91)) = .ok (.slice (q58) k59 k60) w61) ∧
      (X.Kept L57 ((w56.alloc (.cells #[(.int .u8 b_0), (.int .u8 b_1), (.int .u16 b_2), (.int .u8 b_3), (.int .u16 b_4), (.int .u32 b_5), (.int .u8 b_6), (.int .u8 b_7), (.int .u8 b_8), (.int .u8 b_9), (.int .u8 b_10), (.int .u8 b_11), (.int .u8 b_12), (.int .i64 c)] 91)).alloc (.cells #[] 91)) w61) ∧
      (X.FactsW x23 w61 (L57)) ∧
      ∃ q62 : Option Addr, ∃ k63 : Nat, ∃ k64 : Nat, ∃ w65 : World, (Sem.run Try.prog (Go.Builtin.append_ #[86, 86] 86 #[(.slice (q58) k59 k60), (.slice (some ⟨(w56).heap.size, 0, none⟩) 1 1)]) w61 = .ok (.slice (q62) k63 k64) w65) ∧
      (X.Kept L57 w61 w65) ∧
      (X.FactsW x23 w65 (L57)) ∧
      ∃ q66 : Option Addr, ∃ k67 : Nat, ∃ k68 : Nat, ∃ w69 : World, (Sem.run Try.prog (Go.Builtin.append_ #[86, 86] 86 #[(.slice (q62) k63 k64), (.slice (X.cutA (q27) k29 (n16).toNat 14) (k28 - (n16).toNat) (k29 - (n16).toNat))]) w65 = .ok (.slice (q66) k67 k68) w69) ∧
      (X.Kept L57 w65 w69) ∧
      (X.FactsW x23 w69 (L57)) ∧
      (((a.add 0).spot) = none) ∧
      (World.there w69 ((a.add 0).block) ((a.add 0).off) 1) ∧
      (¬ (((a.add 0).block) ∈ L57)) ∧
      R (.returned (.int .i64 0)) (w69.setCells ((a.add 0).block) ((a.add 0).off) [(.slice (q66) k67 k68)])) :
    Calls Try.prog 16 #[.pointer (some a), .agg #[.int .u8 b_0, .int .u8 b_1, .int .u16 b_2, .int .u8 b_3, .int .u16 b_4, .int .u32 b_5, .int .u8 b_6, .int .u8 b_7, .int .u8 b_8, .int .u8 b_9, .int .u8 b_10, .int .u8 b_11, .int .u8 b_12], .int .i64 c] w R :=
  X.calls_of { isLoc := [4, 7], sym := [], loops := [(6, .inv [(8, .int .i64)] [] true)], joins := [] } Try.func16 (by kernel_rfl) h
abbrev fn_rCancel : Nat := 18
theorem x_rCancel (a : Addr) (b_0 b_1 b_2 b_3 b_4 b_5 b_6 b_7 b_8 b_9 b_10 b_11 b_12 : Int) (w : World) (R : Ending → World → Prop) (h :
  ∀ w1 : World, ∀ L2 : List Nat, (X.Hid [] w w1) →
  (X.NewL (w).heap.size [] w w1 L2) →
  X.CallX Try.prog 38 #[(.pointer (some a)), (.agg #[(.int .u8 b_0), (.int .u8 b_1), (.int .u16 b_2), (.int .u8 b_3), (.int .u16 b_4), (.int .u32 b_5), (.int .u8 b_6), (.int .u8 b_7), (.int .u8 b_8), (.int .u8 b_9), (.int .u8 b_10), (.int .u8 b_11), (.int .u8 b_12)])] w1 fun e3 w4 =>
   ∃ n5 : Int, (e3 = .returned (.int .i64 n5)) ∧
   (X.Kept L2 w1 w4) ∧
   if (decide (n5 < 0)) = true then
    R (.returned (.bool false)) w4
   else
    ∃ x6 : X.Facts, (X.FactsW x6 w4 (L2)) ∧
    ∃ q7 : Option Addr, ∃ k8 : Nat, ∃ k9 : Nat, (((a.add 0), [(.slice (q7) k8 k9)]) ∈ x6) ∧
    ((0 : Int) ≤ n5) ∧
    (n5 ≤ ((k9 : Nat) : Int)) ∧
    ∃ q10 : Option Addr, ∃ k11 : Nat, ∃ k12 : Nat, (((a.add 0), [(.slice (q10) k11 k12)]) ∈ x6) ∧
    ((0 : Int) ≤ (IntKind.wrap .i64 (n5 + 1))) ∧
    ((IntKind.wrap .i64 (n5 + 1)) ≤ ((k11 : Nat) : Int)) ∧
    ∀ w13 : World, ∀ L14 : List Nat, (X.Hid (L2) w4 w13) →
    (X.NewL (w).heap.size (L2) w4 w13 L14) →
    (X.FactsW x6 (w13.alloc (.cells #[] 91)) (L14)) ∧
    ∃ q15 : Option Addr, ∃ k16 : Nat, ∃ k17 : Nat, ∃ w18 : World, (Sem.run Try.prog (Go.Builtin.append_ #[86, 86] 86 #[(.slice (some ⟨(w13).heap.size, 0, none⟩) 0 0), (.slice (X.cutA (q7) k9 0 14) (n5).toNat k9)]) (w13.alloc (.cells #[] 91)) = .ok (.slice (q15) k16 k17) w18) ∧
    (X.Kept L14 (w13.alloc (.cells #[] 91)) w18) ∧
    (X.FactsW x6 w18 (L14)) ∧
    ∃ q19 : Option Addr, ∃ k20 : Nat, ∃ k21 : Nat, ∃ w22 : World, (Sem.run Try.prog (Go.Builtin.append_ #[86, 86] 86 #[(.slice (q15) k16 k17), (.slice (X.cutA (q10) k12 ((IntKind.wrap .i64 (n5 + 1))).toNat 14) (k11 - ((IntKind.wrap .i64 (n5 + 1))).toNat) (k12 - ((IntKind.wrap .i64 (n5 + 1))).toNat))]) w18 = .ok (.slice (q19) k20 k21) w22) ∧
    (X.Kept L14 w18 w22) ∧
    (X.FactsW x6 w22 (L14)) ∧
    (((a.add 0).spot) = none) ∧
    (World.there w22 ((a.add 0).block) ((a.add 0).off) 1) ∧
    (¬ (((a.add 0).block) ∈ L14)) ∧
    R (.returned (.bool true)) (w22.setCells ((a.add 0).block) ((a.add 0).off) [(.slice (q19) k20 k21)])) :
    Calls Try.prog 18 #[.pointer (some a), .agg #[.int .u8 b_0, .int .u8 b_1, .int .u16 b_2, .int .u8 b_3, .int .u16 b_4, .int .u32 b_5, .int .u8 b_6, .int .u8 b_7, .int .u8 b_8, .int .u8 b_9, .int .u8 b_10, .int .u8 b_11, .int .u8 b_12]] w R :=
  X.calls_of { isLoc := [3], sym := [], loops := [], joins := [] } Try.func18 (by kernel_rfl) h
abbrev fn_rAt : Nat := 20
theorem x_rAt (a : Addr) (b_0 b_1 b_2 b_3 b_4 b_5 b_6 b_7 b_8 b_9 b_10 b_11 b_12 : Int) (w : World) (R : Ending → World → Prop) (h :
  ∀ w1 : World, ∀ L2 : List Nat, (X.Hid [] w w1) →
  (X.NewL (w).heap.size [] w w1 L2) →
  X.CallX Try.prog 38 #[(.pointer (some a)), (.agg #[(.int .u8 b_0), (.int .u8 b_1), (.int .u16 b_2), (.int .u8 b_3), (.int .u16 b_4), (.int .u32 b_5), (.int .u8 b_6), (.int .u8 b_7), (.int .u8 b_8), (.int .u8 b_9), (.int .u8 b_10), (.int .u8 b_11), (.int .u8 b_12)])] w1 fun e3 w4 =>
   ∃ n5 : Int, (e3 = .returned (.int .i64 n5)) ∧
   (X.Kept L2 w1 w4) ∧
   if (decide (n5 < 0)) = true then
    R (.returned (.tuple #[(.int .i64 0), (.bool false)])) w4
   else
    ∃ q6 : Option Addr, ∃ k7 : Nat, ∃ k8 : Nat, (World.cell? w4 (a.add 0) = some (.slice (q6) k7 k8)) ∧
    (¬ (((a.add 0).block) ∈ L2)) ∧
    ((0 : Int) ≤ n5) ∧
    (n5 < ((k7 : Nat) : Int)) ∧
    X.onSome (q6) fun p9 =>
    ∃ n10 : Int, (World.cell? w4 ((p9.add ((n5).toNat * 14)).add 13) = some (.int .i64 n10)) ∧
    (¬ (((p9.add (n5.toNat * 14)).block) ∈ L2)) ∧
    R (.returned (.tuple #[(.int .i64 n10), (.bool true)])) w4) :
    Calls Try.prog 20 #[.pointer (some a), .agg #[.int .u8 b_0, .int .u8 b_1, .int .u16 b_2, .int .u8 b_3, .int .u16 b_4, .int .u32 b_5, .int .u8 b_6, .int .u8 b_7, .int .u8 b_8, .int .u8 b_9, .int .u8 b_10, .int .u8 b_11, .int .u8 b_12]] w R :=
  X.calls_of { isLoc := [3], sym := [], loops := [], joins := [] } Try.func20 (by kernel_rfl) h
abbrev fn_rDue : Nat := 22
theorem x_rDue (a : Addr) (b : Int) (w : World) (R : Ending → World → Prop) (h :
  ∃ x1 : Option Addr → Nat → Nat → World → List Nat → Prop, ∃ x2 : Option Addr → Nat → Nat → World → Nat, (x1 (none) 0 0 w []) ∧
  ∀ q3 : Option Addr, ∀ k4 : Nat, ∀ k5 : Nat, ∀ w6 : World, ∀ L7 : List Nat, (X.LF (w).heap.size w6 L7) →
  (x1 q3 k4 k5 w6 L7) →
  ∃ q8 : Option Addr, ∃ k9 : Nat, ∃ k10 : Nat, (World.cell? w6 (a.add 0) = some (.slice (q8) k9 k10)) ∧
  if ((decide (((k9 : Nat) : Int) > 0)) == true) = true then
   ∃ q11 : Option Addr, ∃ k12 : Nat, ∃ k13 : Nat, (World.cell? w6 (a.add 0) = some (.slice (q11) k12 k13)) ∧
   ((0 : Int) ≤ 0) ∧
   ((0 : Int) < ((k12 : Nat) : Int)) ∧
   X.onSome (q11) fun p14 =>
   ∃ n15 : Int, (World.cell? w6 ((p14.add 0).add 13) = some (.int .i64 n15)) ∧
   if (true && decide (n15 ≤ b)) = true then
    ∃ q16 : Option Addr, ∃ k17 : Nat, ∃ k18 : Nat, (World.cell? w6 (a.add 0) = some (.slice (q16) k17 k18)) ∧
    ((0 : Int) ≤ 0) ∧
    ((0 : Int) < ((k17 : Nat) : Int)) ∧
    X.onSome (q16) fun p19 =>
    ∃ n20 : Int, ∃ n21 : Int, ∃ n22 : Int, ∃ n23 : Int, ∃ n24 : Int, ∃ n25 : Int, ∃ n26 : Int, ∃ n27 : Int, ∃ n28 : Int, ∃ n29 : Int, ∃ n30 : Int, ∃ n31 : Int, ∃ n32 : Int, (X.Cells w6 ((p19.add 0).add 0) [(.int .u8 n20), (.int .u8 n21), (.int .u16 n22), (.int .u8 n23), (.int .u16 n24), (.int .u32 n25), (.int .u8 n26), (.int .u8 n27), (.int .u8 n28), (.int .u8 n29), (.int .u8 n30), (.int .u8 n31), (.int .u8 n32)]) ∧
    ∃ q33 : Option Addr, ∃ k34 : Nat, ∃ k35 : Nat, ∃ w36 : World, (Sem.run Try.prog (Go.Builtin.append_ #[67, 67] 67 #[(.slice (q3) k4 k5), (.slice (some ⟨(w6).heap.size, 0, none⟩) 1 1)]) (w6.alloc (.cells #[(.int .u8 n20), (.int .u8 n21), (.int .u16 n22), (.int .u8 n23), (.int .u16 n24), (.int .u32 n25), (.int .u8 n26), (.int .u8 n27), (.int .u8 n28), (.int .u8 n29), (.int .u8 n30), (.int .u8 n31), (.int .u8 n32)] 32)) = .ok (.slice (q33) k34 k35) w36) ∧
    (((w6.alloc (.cells #[(.int .u8 n20), (.int .u8 n21), (.int .u16 n22), (.int .u8 n23), (.int .u16 n24), (.int .u32 n25), (.int .u8 n26), (.int .u8 n27), (.int .u8 n28), (.int .u8 n29), (.int .u8 n30), (.int .u8 n31), (.int .u8 n32)] 32))).heap.size ≤ (w36).heap.size) ∧
    ∃ q37 : Option Addr, ∃ k38 : Nat, ∃ k39 : Nat, (World.cell? w36 (a.add 0) = some (.slice (q37) k38 k39)) ∧
    ((0 : Int) ≤ 1) ∧
    ((1 : Int) ≤ ((k38 : Nat) : Int)) ∧
    (((a.add 0).spot) = none) ∧
    (World.there w36 ((a.add 0).block) ((a.add 0).off) 1) ∧
    (x1 q33 k34 k35 (w36.setCells ((a.add 0).block) ((a.add 0).off) [(.slice (X.cutA (q37) k39 1 14) (k38 - 1) (k39 - 1))]) []) ∧
    Nat.le ((x2 q33 k34 k35 (w36.setCells ((a.add 0).block) ((a.add 0).off) [(.slice (X.cutA (q37) k39 1 14) (k38 - 1) (k39 - 1))])) + 1) (x2 q3 k4 k5 w6)
   else
    R (.returned (.slice (q3) k4 k5)) w6
  else
   R (.returned (.slice (q3) k4 k5)) w6) :
    Calls Try.prog 22 #[.pointer (some a), .int .i64 b] w R :=
  X.calls_of { isLoc := [], sym := [], loops := [(2, .inv [(5, .slice)] [] true)], joins := [] } Try.func22 (by kernel_rfl) h
abbrev fn_rNext : Nat := 24
theorem x_rNext (a : Addr) (w : World) (R : Ending → World → Prop) (h :
  ∃ q1 : Option Addr, ∃ k2 : Nat, ∃ k3 : Nat, (World.cell? w (a.add 0) = some (.slice (q1) k2 k3)) ∧
  if (((k2 : Nat) : Int) == 0) = true then
   R (.returned (.tuple #[(.int .i64 0), (.bool false)])) w
  else
   ∃ q4 : Option Addr, ∃ k5 : Nat, ∃ k6 : Nat, (World.cell? w (a.add 0) = some (.slice (q4) k5 k6)) ∧
   ((0 : Int) ≤ 0) ∧
   ((0 : Int) < ((k5 : Nat) : Int)) ∧
   X.onSome (q4) fun p7 =>
   ∃ n8 : Int, (World.cell? w ((p7.add 0).add 13) = some (.int .i64 n8)) ∧
   R (.returned (.tuple #[(.int .i64 n8), (.bool true)])) w) :
    Calls Try.prog 24 #[.pointer (some a)] w R :=
  X.calls_of { isLoc := [], sym := [], loops := [], joins := [] } Try.func24 (by kernel_rfl) h
abbrev fn_rLen : Nat := 26
theorem x_rLen (a : Addr) (w : World) (R : Ending → World → Prop) (h :
  ∃ q1 : Option Addr, ∃ k2 : Nat, ∃ k3 : Nat, (World.cell? w (a.add 0) = some (.slice (q1) k2 k3)) ∧
  R (.returned (.int .i64 ((k2 : Nat) : Int))) w) :
    Calls Try.prog 26 #[.pointer (some a)] w R :=
  X.calls_of { isLoc := [], sym := [], loops := [], joins := [] } Try.func26 (by kernel_rfl) h
abbrev fn_rfind : Nat := 38
theorem x_rfind (a : Addr) (b_0 b_1 b_2 b_3 b_4 b_5 b_6 b_7 b_8 b_9 b_10 b_11 b_12 : Int) (w : World) (R : Ending → World → Prop) (h :
  ∀ w1 : World, ∀ L2 : List Nat, (X.Hid [] w w1) →
  (X.NewL (w).heap.size [] w w1 L2) →
  ∃ x3 : Int → World → List Nat → Prop, ∃ x4 : Int → World → Nat, (x3 0 w1 (L2)) ∧
  ∀ n5 : Int, ∀ w6 : World, ∀ L7 : List Nat, (X.LF (w).heap.size w6 L7) →
  (x3 n5 w6 L7) →
  ∃ q8 : Option Addr, ∃ k9 : Nat, ∃ k10 : Nat, (World.cell? w6 (a.add 0) = some (.slice (q8) k9 k10)) ∧
  (¬ (((a.add 0).block) ∈ L7)) ∧
  if (decide (n5 < ((k9 : Nat) : Int))) = true then
   ∃ q11 : Option Addr, ∃ k12 : Nat, ∃ k13 : Nat, (World.cell? w6 (a.add 0) = some (.slice (q11) k12 k13)) ∧
   (¬ (((a.add 0).block) ∈ L7)) ∧
   ((0 : Int) ≤ n5) ∧
   (n5 < ((k12 : Nat) : Int)) ∧
   X.onSome (q11) fun p14 =>
   ∃ n15 : Int, ∃ n16 : Int, ∃ n17 : Int, ∃ n18 : Int, ∃ n19 : Int, ∃ n20 : Int, ∃ n21 : Int, ∃ n22 : Int, ∃ n23 : Int, ∃ n24 : Int, ∃ n25 : Int, ∃ n26 : Int, ∃ n27 : Int, (X.Cells w6 ((p14.add ((n5).toNat * 14)).add 0) [(.int .u8 n15), (.int .u8 n16), (.int .u16 n17), (.int .u8 n18), (.int .u16 n19), (.int .u32 n20), (.int .u8 n21), (.int .u8 n22), (.int .u8 n23), (.int .u8 n24), (.int .u8 n25), (.int .u8 n26), (.int .u8 n27)]) ∧
   (¬ ((((p14.add (n5.toNat * 14)).add 0).block) ∈ L7)) ∧
   if ((n15 == b_0) && (((n16 == b_1) && (n17 == b_2)) && (((n18 == b_3) && (n19 == b_4)) && ((n20 == b_5) && ((n21 == b_6) && (((n22 == b_7) && (n23 == b_8)) && (((n24 == b_9) && (n25 == b_10)) && ((n26 == b_11) && (n27 == b_12))))))))) = true then
    ∀ w30 : World, (X.Hid (L7) w6 w30) →
    R (.returned (.int .i64 n5)) w30
   else
    ∀ w28 : World, ∀ L29 : List Nat, (X.Hid (L7) w6 w28) →
    (X.NewL (w).heap.size (L7) w6 w28 L29) →
    (([(.int .u8 b_0), (.int .u8 b_1), (.int .u16 b_2), (.int .u8 b_3), (.int .u16 b_4), (.int .u32 b_5), (.int .u8 b_6), (.int .u8 b_7), (.int .u8 b_8), (.int .u8 b_9), (.int .u8 b_10), (.int .u8 b_11), (.int .u8 b_12)] : List Value) = [(.int .u8 b_0), (.int .u8 b_1), (.int .u16 b_2), (.int .u8 b_3), (.int .u16 b_4), (.int .u32 b_5), (.int .u8 b_6), (.int .u8 b_7), (.int .u8 b_8), (.int .u8 b_9), (.int .u8 b_10), (.int .u8 b_11), (.int .u8 b_12)]) ∧
    (x3 (IntKind.wrap .i64 (n5 + 1)) w28 (L29)) ∧
    Nat.le ((x4 (IntKind.wrap .i64 (n5 + 1)) w28) + 1) (x4 n5 w6)
  else
   R (.returned (.int .i64 (-1))) w6) :
    Calls Try.prog 38 #[.pointer (some a), .agg #[.int .u8 b_0, .int .u8 b_1, .int .u16 b_2, .int .u8 b_3, .int .u16 b_4, .int .u32 b_5, .int .u8 b_6, .int .u8 b_7, .int .u8 b_8, .int .u8 b_9, .int .u8 b_10, .int .u8 b_11, .int .u8 b_12]] w R :=
  X.calls_of { isLoc := [3], sym := [], loops := [(2, .inv [(5, .int .i64)] [] true)], joins := [] } Try.func38 (by kernel_rfl) h
abbrev fn_gemotlaw09_same : Nat := 21
theorem x_gemotlaw09_same (a : Option Addr) (al ac : Nat) (b : Option Addr) (bl bc : Nat) (w : World) (R : Ending → World → Prop) (h :
  if (((al : Nat) : Int) != ((bl : Nat) : Int)) = true then
   R (.returned (.bool false)) w
  else
   ∃ x1 : Int → World → List Nat → Prop, ∃ x2 : Int → World → Nat, (x1 0 w []) ∧
   ∀ n3 : Int, ∀ w4 : World, ∀ L5 : List Nat, (X.LF (w).heap.size w4 L5) →
   (x1 n3 w4 L5) →
   if (decide (n3 < ((al : Nat) : Int))) = true then
    ∃ x6 : X.Facts, (X.FactsW x6 w4 []) ∧
    ((0 : Int) ≤ n3) ∧
    (n3 < ((al : Nat) : Int)) ∧
    X.onSome (a) fun p7 =>
    ∃ n8 : Int, ∃ n9 : Int, ∃ n10 : Int, ∃ n11 : Int, ∃ n12 : Int, ∃ n13 : Int, ∃ n14 : Int, ∃ n15 : Int, ∃ n16 : Int, ∃ n17 : Int, ∃ n18 : Int, ∃ n19 : Int, ∃ n20 : Int, (((p7.add ((n3).toNat * 13)), [(.int .u8 n8), (.int .u8 n9), (.int .u16 n10), (.int .u8 n11), (.int .u16 n12), (.int .u32 n13), (.int .u8 n14), (.int .u8 n15), (.int .u8 n16), (.int .u8 n17), (.int .u8 n18), (.int .u8 n19), (.int .u8 n20)]) ∈ x6) ∧
    ((0 : Int) ≤ n3) ∧
    (n3 < ((bl : Nat) : Int)) ∧
    X.onSome (b) fun p21 =>
    ∃ n22 : Int, ∃ n23 : Int, ∃ n24 : Int, ∃ n25 : Int, ∃ n26 : Int, ∃ n27 : Int, ∃ n28 : Int, ∃ n29 : Int, ∃ n30 : Int, ∃ n31 : Int, ∃ n32 : Int, ∃ n33 : Int, ∃ n34 : Int, (((p21.add ((n3).toNat * 13)), [(.int .u8 n22), (.int .u8 n23), (.int .u16 n24), (.int .u8 n25), (.int .u16 n26), (.int .u32 n27), (.int .u8 n28), (.int .u8 n29), (.int .u8 n30), (.int .u8 n31), (.int .u8 n32), (.int .u8 n33), (.int .u8 n34)]) ∈ x6) ∧
    ∀ w35 : World, (X.Hid [] w4 w35) →
    X.CallX Try.prog 8 #[(.agg #[(.int .u8 n22), (.int .u8 n23), (.int .u16 n24), (.int .u8 n25), (.int .u16 n26), (.int .u32 n27), (.int .u8 n28), (.int .u8 n29), (.int .u8 n30), (.int .u8 n31), (.int .u8 n32), (.int .u8 n33), (.int .u8 n34)])] w35 fun e36 w37 =>
     ∃ n38 : Int, ∃ n39 : Int, ∃ n40 : Int, ∃ n41 : Int, ∃ n42 : Int, ∃ n43 : Int, ∃ n44 : Int, ∃ n45 : Int, ∃ n46 : Int, ∃ n47 : Int, ∃ n48 : Int, ∃ n49 : Int, ∃ n50 : Int, (e36 = .returned (.agg #[(.int .u8 n38), (.int .u8 n39), (.int .u16 n40), (.int .u8 n41), (.int .u16 n42), (.int .u32 n43), (.int .u8 n44), (.int .u8 n45), (.int .u8 n46), (.int .u8 n47), (.int .u8 n48), (.int .u8 n49), (.int .u8 n50)])) ∧
     ((w35).heap.size ≤ (w37).heap.size) ∧
     (X.FactsW x6 w37 []) ∧
     if (!((n8 == n38) && (((n9 == n39) && (n10 == n40)) && (((n11 == n41) && (n12 == n42)) && ((n13 == n43) && ((n14 == n44) && (((n15 == n45) && (n16 == n46)) && (((n17 == n47) && (n18 == n48)) && ((n19 == n49) && (n20 == n50)))))))))) = true then
      R (.returned (.bool false)) w37
     else
      (x1 (IntKind.wrap .i64 (n3 + 1)) w37 []) ∧
      Nat.le ((x2 (IntKind.wrap .i64 (n3 + 1)) w37) + 1) (x2 n3 w4)
   else
    R (.returned (.bool true)) w4) :
    Calls Try.prog 21 #[.slice a al ac, .slice b bl bc] w R :=
  X.calls_of { isLoc := [], sym := [], loops := [(4, .inv [(5, .int .i64)] [] true)], joins := [] } Try.func21 (by kernel_rfl) h
abbrev fn_gemotlaw09_WheelNil : Nat := 6
theorem x_gemotlaw09_WheelNil (a_0 a_1 a_2 a_3 a_4 a_5 a_6 a_7 a_8 a_9 a_10 a_11 a_12 a_13 a_14 : Int) (w : World) (R : Ending → World → Prop) (h :
  ∀ w1 : World, ∀ L2 : List Nat, (X.Hid [] w w1) →
  (X.NewL (w).heap.size [] w w1 L2) →
  ∃ x3 : Option Addr → Int → World → List Nat → Prop, ∃ x4 : Option Addr → Int → World → Nat, (x3 (none) 0 w1 (L2)) ∧
  ∀ q5 : Option Addr, ∀ n6 : Int, ∀ w7 : World, ∀ L8 : List Nat, (X.LF (w).heap.size w7 L8) →
  (x3 q5 n6 w7 L8) →
  if (decide (n6 < 2)) = true then
   X.CallX Try.prog 8 #[(.agg #[(.int .u8 a_2), (.int .u8 a_3), (.int .u16 a_4), (.int .u8 a_5), (.int .u16 a_6), (.int .u32 a_7), (.int .u8 a_8), (.int .u8 a_9), (.int .u8 a_10), (.int .u8 a_11), (.int .u8 a_12), (.int .u8 a_13), (.int .u8 a_14)])] w7 fun e12 w13 =>
    ∃ n14 : Int, ∃ n15 : Int, ∃ n16 : Int, ∃ n17 : Int, ∃ n18 : Int, ∃ n19 : Int, ∃ n20 : Int, ∃ n21 : Int, ∃ n22 : Int, ∃ n23 : Int, ∃ n24 : Int, ∃ n25 : Int, ∃ n26 : Int, (e12 = .returned (.agg #[(.int .u8 n14), (.int .u8 n15), (.int .u16 n16), (.int .u8 n17), (.int .u16 n18), (.int .u32 n19), (.int .u8 n20), (.int .u8 n21), (.int .u8 n22), (.int .u8 n23), (.int .u8 n24), (.int .u8 n25), (.int .u8 n26)])) ∧
    (X.Kept L8 w7 w13) ∧
    X.CallX Try.prog 19 #[(.pointer (q5)), (.agg #[(.int .u8 n14), (.int .u8 n15), (.int .u16 n16), (.int .u8 n17), (.int .u16 n18), (.int .u32 n19), (.int .u8 n20), (.int .u8 n21), (.int .u8 n22), (.int .u8 n23), (.int .u8 n24), (.int .u8 n25), (.int .u8 n26)])] w13 fun e27 w28 =>
     ∃ n29 : Int, ∃ b30 : Bool, (e27 = .returned (.tuple #[(.int .i64 n29), (.bool b30)])) ∧
     (X.Kept L8 w13 w28) ∧
     X.CallX Try.prog 23 #[(.pointer (q5))] w28 fun e31 w32 =>
      ∃ n33 : Int, ∃ b34 : Bool, (e31 = .returned (.tuple #[(.int .i64 n33), (.bool b34)])) ∧
      (X.Kept L8 w28 w32) ∧
      ∃ x35 : X.Facts, (X.FactsW x35 w32 (L8)) ∧
      ∀ w36 : World, ∀ L37 : List Nat, (X.Hid (L8) w32 w36) →
      (X.NewL (w).heap.size (L8) w32 w36 L37) →
      X.CallX Try.prog 8 #[(.agg #[(.int .u8 a_2), (.int .u8 a_3), (.int .u16 a_4), (.int .u8 a_5), (.int .u16 a_6), (.int .u32 a_7), (.int .u8 a_8), (.int .u8 a_9), (.int .u8 a_10), (.int .u8 a_11), (.int .u8 a_12), (.int .u8 a_13), (.int .u8 a_14)])] w36 fun e38 w39 =>
       ∃ n40 : Int, ∃ n41 : Int, ∃ n42 : Int, ∃ n43 : Int, ∃ n44 : Int, ∃ n45 : Int, ∃ n46 : Int, ∃ n47 : Int, ∃ n48 : Int, ∃ n49 : Int, ∃ n50 : Int, ∃ n51 : Int, ∃ n52 : Int, (e38 = .returned (.agg #[(.int .u8 n40), (.int .u8 n41), (.int .u16 n42), (.int .u8 n43), (.int .u16 n44), (.int .u32 n45), (.int .u8 n46), (.int .u8 n47), (.int .u8 n48), (.int .u8 n49), (.int .u8 n50), (.int .u8 n51), (.int .u8 n52)])) ∧
       (X.Kept L37 w36 w39) ∧
       (X.FactsW x35 w39 (L37)) ∧
       ∃ x53 : X.Facts, (X.FactsW x53 w39 (L37)) ∧
       (∀ x54 : Addr × List Value, (x54 ∈ x35) →
        x54 ∈ x53) ∧
       X.CallX Try.prog 13 #[(.pointer (q5)), (.agg #[(.int .u8 n40), (.int .u8 n41), (.int .u16 n42), (.int .u8 n43), (.int .u16 n44), (.int .u32 n45), (.int .u8 n46), (.int .u8 n47), (.int .u8 n48), (.int .u8 n49), (.int .u8 n50), (.int .u8 n51), (.int .u8 n52)]), (.int .i64 a_1)] w39 fun e55 w56 =>
        ∃ n57 : Int, (e55 = .returned (.int .i64 n57)) ∧
        (X.Kept L37 w39 w56) ∧
        (X.FactsW x53 w56 (L37)) ∧
        ∃ x58 : X.Facts, (X.FactsW x58 w56 (L37)) ∧
        (∀ x59 : Addr × List Value, (x59 ∈ x53) →
         x59 ∈ x58) ∧
        X.CallX Try.prog 12 #[(.int .i64 n57)] w56 fun e60 w61 =>
         ∃ n62 : Int, (e60 = .returned (.int .i64 n62)) ∧
         (X.Kept L37 w56 w61) ∧
         (X.FactsW x58 w61 (L37)) ∧
         ∃ x63 : X.Facts, (X.FactsW x63 w61 (L37)) ∧
         (∀ x64 : Addr × List Value, (x64 ∈ x58) →
          x64 ∈ x63) ∧
         if ((n62 != 1) == false) = true then
          X.CallX Try.prog 8 #[(.agg #[(.int .u8 a_2), (.int .u8 a_3), (.int .u16 a_4), (.int .u8 a_5), (.int .u16 a_6), (.int .u32 a_7), (.int .u8 a_8), (.int .u8 a_9), (.int .u8 a_10), (.int .u8 a_11), (.int .u8 a_12), (.int .u8 a_13), (.int .u8 a_14)])] w61 fun e69 w70 =>
           ∃ n71 : Int, ∃ n72 : Int, ∃ n73 : Int, ∃ n74 : Int, ∃ n75 : Int, ∃ n76 : Int, ∃ n77 : Int, ∃ n78 : Int, ∃ n79 : Int, ∃ n80 : Int, ∃ n81 : Int, ∃ n82 : Int, ∃ n83 : Int, (e69 = .returned (.agg #[(.int .u8 n71), (.int .u8 n72), (.int .u16 n73), (.int .u8 n74), (.int .u16 n75), (.int .u32 n76), (.int .u8 n77), (.int .u8 n78), (.int .u8 n79), (.int .u8 n80), (.int .u8 n81), (.int .u8 n82), (.int .u8 n83)])) ∧
           (X.Kept L37 w61 w70) ∧
           (X.FactsW x63 w70 (L37)) ∧
           ∃ x84 : X.Facts, (X.FactsW x84 w70 (L37)) ∧
           (∀ x85 : Addr × List Value, (x85 ∈ x63) →
            x85 ∈ x84) ∧
           X.CallX Try.prog 17 #[(.pointer (q5)), (.agg #[(.int .u8 n71), (.int .u8 n72), (.int .u16 n73), (.int .u8 n74), (.int .u16 n75), (.int .u32 n76), (.int .u8 n77), (.int .u8 n78), (.int .u8 n79), (.int .u8 n80), (.int .u8 n81), (.int .u8 n82), (.int .u8 n83)])] w70 fun e86 w87 =>
            ∃ b88 : Bool, (e86 = .returned (.bool b88)) ∧
            (X.Kept L37 w70 w87) ∧
            (X.FactsW x84 w87 (L37)) ∧
            ∃ x89 : X.Facts, (X.FactsW x89 w87 (L37)) ∧
            (∀ x90 : Addr × List Value, (x90 ∈ x84) →
             x90 ∈ x89) ∧
            if (((((false || b88) || ((IntKind.wrap .i64 (n29 + n33)) != 0)) || b30) || b34) == false) = true then
             X.CallX Try.prog 14 #[(.pointer (q5)), (.int .i64 a_1)] w87 fun e91 w92 =>
              ∃ q93 : Option Addr, ∃ k94 : Nat, ∃ k95 : Nat, (e91 = .returned (.slice (q93) k94 k95)) ∧
              (X.Kept L37 w87 w92) ∧
              (X.FactsW x89 w92 (L37)) ∧
              X.CallX Try.prog 25 #[(.pointer (q5))] w92 fun e96 w97 =>
               ∃ n98 : Int, (e96 = .returned (.int .i64 n98)) ∧
               (X.Kept L37 w92 w97) ∧
               (X.FactsW x89 w97 (L37)) ∧
               if (false || ((IntKind.wrap .i64 (((k94 : Nat) : Int) + n98)) != 0)) = true then
                R (.returned (.bool false)) w97
               else
                (([(.int .i64 a_0), (.int .i64 a_1), (.int .u8 a_2), (.int .u8 a_3), (.int .u16 a_4), (.int .u8 a_5), (.int .u16 a_6), (.int .u32 a_7), (.int .u8 a_8), (.int .u8 a_9), (.int .u8 a_10), (.int .u8 a_11), (.int .u8 a_12), (.int .u8 a_13), (.int .u8 a_14)] : List Value) = [(.int .i64 a_0), (.int .i64 a_1), (.int .u8 a_2), (.int .u8 a_3), (.int .u16 a_4), (.int .u8 a_5), (.int .u16 a_6), (.int .u32 a_7), (.int .u8 a_8), (.int .u8 a_9), (.int .u8 a_10), (.int .u8 a_11), (.int .u8 a_12), (.int .u8 a_13), (.int .u8 a_14)]) ∧
                (x3 (some (Addr.mk w97.heap.size 0 none)) (IntKind.wrap .i64 (n6 + 1)) (w97.alloc (.cells #[(.map none), (.int .i64 0)] 74)) (L37)) ∧
                Nat.le ((x4 (some (Addr.mk w97.heap.size 0 none)) (IntKind.wrap .i64 (n6 + 1)) (w97.alloc (.cells #[(.map none), (.int .i64 0)] 74))) + 1) (x4 q5 n6 w7)
            else
             R (.returned (.bool false)) w87
         else
          ∃ x65 : X.Facts, (X.FactsW x65 w61 (L37)) ∧
          (∀ x66 : Addr × List Value, (x66 ∈ x63) →
           x66 ∈ x65) ∧
          ∃ x67 : X.Facts, (X.FactsW x67 w61 (L37)) ∧
          (∀ x68 : Addr × List Value, (x68 ∈ x65) →
           x68 ∈ x67) ∧
          R (.returned (.bool false)) w61
  else
   X.CallX Try.prog 10 #[] w7 fun e9 w10 =>
    ∃ b11 : Bool, (e9 = .returned (.bool b11)) ∧
    (X.Kept L8 w7 w10) ∧
    R (.returned (.bool b11)) w10) :
    Calls Try.prog 6 #[.agg #[.int .i64 a_0, .int .i64 a_1, .int .u8 a_2, .int .u8 a_3, .int .u16 a_4, .int .u8 a_5, .int .u16 a_6, .int .u32 a_7, .int .u8 a_8, .int .u8 a_9, .int .u8 a_10, .int .u8 a_11, .int .u8 a_12, .int .u8 a_13, .int .u8 a_14]] w R :=
  X.calls_of { isLoc := [1], sym := [], loops := [(3, .inv [(3, .ptr), (4, .int .i64)] [] true)], joins := [] } Try.func6 (by kernel_rfl) h
end Go.Proofs
