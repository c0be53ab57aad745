import Derived.Test.YtjabbpcfinjofaaU23d
set_option linter.unusedVariables false
set_option linter.unusedSimpArgs false
set_option maxRecDepth 10000
namespace Go.Proofs
open Go X RowKit
theorem en_one (x : En) : ∀ u ∈ x.row, oneC u = true := by intro u h; simp [En.row] at h; rcases h with rfl | rfl | rfl | rfl | rfl | rfl | rfl | rfl | rfl | rfl | rfl | rfl | rfl | rfl | rfl | rfl | rfl | rfl <;> rfl
def updO (o : Nat → List En) (g : Nat) (l : List En) : Nat → List En := fun k => if k = g then l else o k
/-- what Commit does, the entry f standing for e's clone -/
def commitF (x : An) (g : Nat) (at_ : Int) (e f : En) : Bool × An :=
  if at_ < 0 ∨ at_ > (x.o g).length then (false, x)
  else if at_ = (x.o g).length then (true, { x with o := updO x.o g (x.o g ++ [f]) })
  else match (x.o g)[at_.toNat]? with
    | some y => if y.er = e.er then (true, x) else (false, { x with sp := x.sp + 1 })
    | none => (false, x)
section
variable {F0 : List Nat} {m0 : Mem} {w0 w : World} {L : List Nat} {m : Mem} {As : List Asn}
/-- the annal, one order ahead -/
theorem anG {b : Nat} {x : An} {p : Nat → Sl} (g : Nat) (hg : g < 4) (C : Ctx F0 m0 w0 w L m (anAs b x p)) : ∃ Bs : List Asn, Ctx F0 m0 w0 w L m (ensA (p g) (x.o g) :: blk b (x.cells p) 92 :: Bs) := by
  match g, hg with
  | 0, _ => exact ⟨_, C.pm [1, 0, 2, 3, 4] rfl⟩
  | 1, _ => exact ⟨_, C.pm [2, 0, 1, 3, 4] rfl⟩
  | 2, _ => exact ⟨_, C.pm [3, 0, 1, 2, 4] rfl⟩
  | 3, _ => exact ⟨_, C.pm [4, 0, 1, 2, 3] rfl⟩
def updP (p : Nat → Sl) (g : Nat) (q : Sl) : Nat → Sl := fun k => if k = g then q else p k
/-- .. and put back, another list in its place -/
theorem anS {b : Nat} {x : An} {p : Nat → Sl} (hx : x.pre.length = 8) (g : Nat) (hg : g < 4) : ∃ Bs : List Asn,
    (∀ {w : World} {L : List Nat} {m : Mem} {As}, Ctx F0 m0 w0 w L m (anAs b x p ++ As) → Ctx F0 m0 w0 w L m (ensA (p g) (x.o g) :: blk b (x.cells p) 92 :: (Bs ++ As))) ∧
    (∀ {w : World} {L : List Nat} {m : Mem} {As} {cs : List Value}, Ctx F0 m0 w0 w L m (ensA (p g) (x.o g) :: blk b cs 92 :: (Bs ++ As)) → Ctx F0 m0 w0 w L m (blk b cs 92 :: ensA (p 0) (x.o 0) :: ensA (p 1) (x.o 1) :: ensA (p 2) (x.o 2) :: ensA (p 3) (x.o 3) :: As)) ∧
    ∀ {w : World} {L : List Nat} {m : Mem} {As} {q : Sl} {l : List En}, Ctx F0 m0 w0 w L m (ensA q l :: blk b (splice (x.cells p) (8 + g) [slV q l.length]) 92 :: (Bs ++ As)) → Ctx F0 m0 w0 w L m (anAs b { x with o := updO x.o g l } (updP p g q) ++ As) := by
  have hsp : ∀ (cs : List Value) (v : Value), splice (x.pre ++ cs) (8 + g) [v] = x.pre ++ splice cs g [v] := fun cs v => by
    simp only [splice, ← hx, List.take_length_add_append, Nat.add_assoc, List.drop_length_add_append, List.append_assoc]
  match g, hg with
  | 0, _ =>
    refine ⟨[ensA (p 1) (x.o 1), ensA (p 2) (x.o 2), ensA (p 3) (x.o 3)], fun C => C.perm (List.Perm.swap ..), fun C => C.perm (List.Perm.swap ..), fun C => ?_⟩
    rw [An.cells, hsp] at C
    exact C.perm (List.Perm.swap ..)
  | 1, _ =>
    refine ⟨[ensA (p 0) (x.o 0), ensA (p 2) (x.o 2), ensA (p 3) (x.o 3)], fun C => C.third, fun C => C.perm ((List.Perm.swap ..).trans (List.Perm.cons _ (List.Perm.swap ..))), fun C => ?_⟩
    rw [An.cells, hsp] at C
    exact C.perm ((List.Perm.swap ..).trans (List.Perm.cons _ (List.Perm.swap ..)))
  | 2, _ =>
    refine ⟨[ensA (p 0) (x.o 0), ensA (p 1) (x.o 1), ensA (p 3) (x.o 3)], fun C => C.perm (List.perm_middle (l₁ := [_, _, _])), fun C => C.perm (List.perm_middle (l₁ := [_, _, _])).symm, fun C => ?_⟩
    rw [An.cells, hsp] at C
    exact C.perm (List.perm_middle (l₁ := [_, _, _])).symm
  | 3, _ =>
    refine ⟨[ensA (p 0) (x.o 0), ensA (p 1) (x.o 1), ensA (p 2) (x.o 2)], fun C => C.perm (List.perm_middle (l₁ := [_, _, _, _])), fun C => C.perm (List.perm_middle (l₁ := [_, _, _, _])).symm, fun C => ?_⟩
    rw [An.cells, hsp] at C
    exact C.perm (List.perm_middle (l₁ := [_, _, _, _])).symm
end
end Go.Proofs
