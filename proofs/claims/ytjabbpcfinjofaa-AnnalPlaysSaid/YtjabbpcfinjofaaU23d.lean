import Derived.Test.YtjabbpcfinjofaaU23c
import Derived.Test.YtjabbpcfinjofaaV23b
set_option linter.unusedVariables false
set_option linter.unusedSimpArgs false
set_option maxRecDepth 10000
namespace Go.Proofs
open Go X RowKit
/-! ### the annal -/
abbrev ensA (p : Sl) (l : List En) : Asn := slA (slV p l.length) l.length (l.flatMap En.row) 107 18
/-- pre: the eight cells ahead of the orders -/
structure An where (pre : List Value) (o : Nat → List En) (sp : Int)
@[reducible] def An.cells (x : An) (p : Nat → Sl) : List Value := x.pre ++ [slV (p 0) (x.o 0).length, slV (p 1) (x.o 1).length, slV (p 2) (x.o 2).length, slV (p 3) (x.o 3).length, .int .i64 x.sp, .bool true]
abbrev anAs (b : Nat) (x : An) (p : Nat → Sl) : List Asn := [blk b (x.cells p) 92, ensA (p 0) (x.o 0), ensA (p 1) (x.o 1), ensA (p 2) (x.o 2), ensA (p 3) (x.o 3)]
def anA (b : Nat) (x : An) : Asn := Asn.ex fun p : Nat → Sl => Asn.all (anAs b x p)
structure AnM (m : Mem) (x : An) : Prop where
  pre : x.pre.length = 8
  e : ∀ g, ∀ e ∈ x.o g, EnM m e
theorem AnM.mono {m m' : Mem} {x : An} (h : AnM m x) (hm : m.le m') : AnM m' x := ⟨h.pre, fun g e he => (h.e g e he).mono hm⟩
section
variable {F0 : List Nat} {m0 : Mem} {w0 w : World} {L : List Nat} {m : Mem} {As : List Asn}
theorem anO {b : Nat} {x : An} (C : Ctx F0 m0 w0 w L m (anA b x :: As)) : ∃ p, Ctx F0 m0 w0 w L m (anAs b x p ++ As) := by
  obtain ⟨p, C⟩ := C.ex
  exact ⟨p, C.all⟩
theorem anI {b : Nat} {x : An} (p : Nat → Sl) (C : Ctx F0 m0 w0 w L m (anAs b x p ++ As)) : Ctx F0 m0 w0 w L m (anA b x :: As) := Ctx.exI p (Ctx.allI C)
end
def pre0 : List Value := [.map none, .slice none 0 0, .map none, .slice none 0 0, .map none, .slice none 0 0, .map none, .slice none 0 0]
def an0 : An := ⟨pre0, fun _ => [], 0⟩
theorem c_New : Ctr Try.prog 8 #[] noMem [] (fun b : Nat => .pointer (some ⟨b, 0, none⟩)) (fun _ m => AnM m an0) (fun b => [anA b an0]) := by
  refine Ctr.mk fun w F m C _ => x_New w _ ?_
  have C1 := C.alloc (an0.cells fun _ => (none, 0)) 92
  have C2 := Ctx.slNil (q := none) (ty := 107) (sz := 18) (Ctx.slNil (q := none) (ty := 107) (sz := 18) (Ctx.slNil (q := none) (ty := 107) (sz := 18) (Ctx.slNil (q := none) (ty := 107) (sz := 18) C1)))
  exact Ctr.ret _ rfl ⟨rfl, fun g e he => by cases he⟩ (anI (fun _ => (none, 0)) (C2.pm [4, 0, 1, 2, 3] rfl))
theorem an_cell {x : An} (h : x.pre.length = 8) (p : Nat → Sl) (k : Nat) : (x.cells p)[8 + k]? = [slV (p 0) (x.o 0).length, slV (p 1) (x.o 1).length, slV (p 2) (x.o 2).length, slV (p 3) (x.o 3).length, .int .i64 x.sp, .bool true][k]? := by
  rw [An.cells, List.getElem?_append_right (by omega), h, Nat.add_sub_cancel_left]
theorem c_none (b : Nat) (x : An) (hx : x.pre.length = 8) : Ctr Try.prog 23 #[.pointer (some ⟨b, 0, none⟩)] noMem [anA b x] (fun _ : Unit => .bool false) (fun _ _ => True) (fun _ => [anA b x]) := by
  refine Ctr.mk fun w F m C _ => x_annal_Annal_none _ w _ ?_
  obtain ⟨p, C⟩ := anO C
  exact ⟨true, by rw [Addr.add_mid]; exact C.blkCell (j := 13) (an_cell hx p 5), Ctr.ret () rfl trivial (anI p C)⟩
theorem c_Splits (b : Nat) (x : An) (hx : x.pre.length = 8) : Ctr Try.prog 12 #[.pointer (some ⟨b, 0, none⟩)] noMem [anA b x] (fun _ : Unit => .int .i64 x.sp) (fun _ _ => True) (fun _ => [anA b x]) := by
  refine Ctr.mk fun w F m C _ => x_annal_Annal_Splits _ w _ ?_
  refine (c_none b x hx).call (As := []) C trivial fun _ m2 w2 hk hm _ C => ⟨_, rfl, hk.size, ?_⟩
  rw [if_neg (by decide)]
  obtain ⟨p, C⟩ := anO C
  exact ⟨x.sp, by rw [Addr.add_mid]; exact C.blkCell (j := 12) (an_cell hx p 4), Ctr.ret () rfl trivial (anI p C)⟩
end Go.Proofs
