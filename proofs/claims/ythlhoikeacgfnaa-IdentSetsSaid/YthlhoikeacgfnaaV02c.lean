import Derived.Test.YthlhoikeacgfnaaXFn
import Derived.Test.YthlhoikeacgfnaaProg
/- The verification conditions of this seat's functions, as the engine has them: printed by a program of the bench; checked by the kernel. -/
set_option maxRecDepth 100000
set_option linter.unusedVariables false
namespace Go.Proofs
open Go
abbrev fn_cmp_isNaN_uint8 : Nat := 55
theorem x_cmp_isNaN_uint8 (a : Int) (w : World) (R : Ending → World → Prop) (h :
  R (.returned (.bool (a != a))) w) :
    Calls Try.prog 55 #[.int .u8 a] w R :=
  X.calls_of { isLoc := [], sym := [], loops := [], joins := [] } Try.func55 (by kernel_rfl) h
abbrev fn_cmp_isNaN_uint16 : Nat := 56
theorem x_cmp_isNaN_uint16 (a : Int) (w : World) (R : Ending → World → Prop) (h :
  R (.returned (.bool (a != a))) w) :
    Calls Try.prog 56 #[.int .u16 a] w R :=
  X.calls_of { isLoc := [], sym := [], loops := [], joins := [] } Try.func56 (by kernel_rfl) h
abbrev fn_cmp_isNaN_uint32 : Nat := 54
theorem x_cmp_isNaN_uint32 (a : Int) (w : World) (R : Ending → World → Prop) (h :
  R (.returned (.bool (a != a))) w) :
    Calls Try.prog 54 #[.int .u32 a] w R :=
  X.calls_of { isLoc := [], sym := [], loops := [], joins := [] } Try.func54 (by kernel_rfl) h
end Go.Proofs
