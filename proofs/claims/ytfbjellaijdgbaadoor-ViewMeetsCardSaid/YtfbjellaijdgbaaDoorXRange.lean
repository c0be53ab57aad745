import Derived.Test.YtfbjellaijdgbaaDoorXWalk
import Derived.Test.YtfbjellaijdgbaaDoorXArgs
import Derived.Test.YtfbjellaijdgbaaDoorXStr
import Derived.RangeFuncRecord
import Derived.RangeFuncSeq
import Derived.OwnWalkIn
set_option linter.unusedVariables false
set_option linter.unusedSimpArgs false
/- The engine, part: iterators and ranges over functions. -/
namespace Go.X
open Go RowKit

/-! ### operations of a fenced walk -/
section
variable {F : Fence} {n : Nat} {P : Program} {ops : Array Oper} {Q : Exit → Act → World → Prop} {rest : List Oper} {o : Oper} {a : Act} {w w' : World} {v : Value}
theorem opW (hF : ∀ f, F.fn f) (hg : o.guard = none) (hd : ∀ c, o.op ≠ .defer c) (hr : (execOp a.eval o).run P w = .ok (.value v) w')
    (hK : wpListIn F n P ops Q rest (a.put o.dst v) w') : wpListIn F n P ops Q (o :: rest) a w := by
  refine wpListIn_plain hg fun K' hK' => ?_
  unfold Oper.wpIn
  refine ⟨fun f _ => hF f, ?_⟩
  rw [Oper.semAt_plain F _ _ hd, hr]
  exact hK' _ _ hK
theorem opU (hF : ∀ f, F.fn f) (hg : o.guard = none) (hd : ∀ c, o.op ≠ .defer c) (hr : (execOp a.eval o).run P w = .ok .skip w')
    (hK : wpListIn F n P ops Q rest (a.put o.dst undef) w') : wpListIn F n P ops Q (o :: rest) a w := by
  refine wpListIn_plain hg fun K' hK' => ?_
  unfold Oper.wpIn
  refine ⟨fun f _ => hF f, ?_⟩
  rw [Oper.semAt_plain F _ _ hd, hr]
  exact hK' _ _ hK
theorem opY {l : Nat} {fn : FuncId} {tmps : Array Value} {assign body : Code} (hF : ∀ f, F.fn f) (hn : F.depth = none) (hg : o.guard = none) (hd : ∀ c, o.op ≠ .defer c)
    (hr : (execOp a.eval o).run P w = .ok (.round l fn tmps assign body) w')
    (hR : RoundIn F (n - 1) P l fn tmps assign body w' fun e w'' => ∃ v, e = .returned v ∧ wpListIn F n P ops Q rest (a.put o.dst v) w'') : wpListIn F n P ops Q (o :: rest) a w := by
  refine wpListIn_plain hg fun K' hK' => ?_
  unfold Oper.wpIn
  refine ⟨fun f _ => hF f, ?_⟩
  rw [Oper.semAt_plain F _ _ hd, hr]
  refine ⟨fun h => absurd h (by rw [hn]; decide), hR.mono fun e w'' h => ?_⟩
  obtain ⟨v, rfl, h⟩ := h
  exact hK' _ _ h
theorem opC {f : FuncId} {args : Array Value} (hF : ∀ f, F.fn f) (hn : F.depth = none) (hg : o.guard = none) (hd : ∀ c, o.op ≠ .defer c)
    (hr : (execOp a.eval o).run P w = .ok (.enter f args) w')
    (hR : CallsIn F (n - 1) P f args w' fun e w'' => ∃ v, e = .returned v ∧ wpListIn F n P ops Q rest (a.put o.dst v) w'') : wpListIn F n P ops Q (o :: rest) a w := by
  refine wpListIn_plain hg fun K' hK' => ?_
  unfold Oper.wpIn
  refine ⟨fun f _ => hF f, ?_⟩
  rw [Oper.semAt_plain F _ _ hd, hr]
  refine ⟨fun h => absurd h (by rw [hn]; decide), hR.mono fun e w'' h => ?_⟩
  obtain ⟨v, rfl, h⟩ := h
  exact hK' _ _ h
end

/-! ### the rest stands -/
theorem Ctx.frame {F0 : List Nat} {m0 : Mem} {w0 w : World} {L : List Nat} {m : Mem} {Cs As : List Asn} (C : Ctx F0 m0 w0 w L m (Cs ++ As)) :
    ∃ F1, (∀ b, b ∈ F1 → b < w.heap.size) ∧ (∀ a v, m a = some v → w.cell? a = some v ∧ a.block ∉ F1) ∧ Sat w Cs F1 ∧
      ∀ {m' : Mem} {w' : World} {L' : List Nat} {Bs : List Asn}, Ctx F1 m w w' L' m' Bs → Kept L w w' ∧ m.le m' ∧ Ctx F0 m0 w0 w' L m' (Bs ++ As) := by
  obtain ⟨F, hF, ho⟩ := C.own
  obtain ⟨F1, F2, rfl, hd, h1, h2⟩ := hF.split
  refine ⟨F1, fun b hb => (ho.inF b (by simp [hb])).1, fun a v e => ⟨(ho.mem a v e).1, fun hc => (ho.mem a v e).2.1 (by simp [hc])⟩, h1, ?_⟩
  intro m' w' L' Bs C'
  obtain ⟨G, hG, hg⟩ := C'.own
  have hLk : ∀ b, b ∈ L → w'.heap[b]? = w.heap[b]? := fun b hb => C'.hid.block b (C.loc b hb).2 (fun hc => (ho.inF b (by simp [hc])).2.1 hb)
  have hF2 : ∀ b, b ∈ F2 → w'.heap[b]? = w.heap[b]? := fun b hb => C'.hid.block b (ho.inF b (by simp [hb])).1 (fun hc => hd b hc hb)
  have hGin : ∀ b, b ∈ G → b ∈ F1 ∨ w.heap.size ≤ b := fun b hb => (hg.inF b hb).2.2
  refine ⟨⟨C'.hid.size, hLk⟩, C'.le, ⟨hid_trans C.hid C'.hid (fun b hb => (ho.inF b (by simp [hb])).2.2), C.f0, C.le.le_trans C'.le, fun a v e => ?_, fun b hb => ⟨(C.loc b hb).1, Nat.lt_of_lt_of_le (C.loc b hb).2 C'.hid.size⟩,
    G ++ F2, Sat.append hG (h2.frame hF2) (fun b hb hc => ?_), fun b hb => ?_, fun a v e => ?_⟩⟩
  · rcases C'.new a v e with h | h | h
    · exact C.new a v h
    · exact .inr (ho.inF _ (by simp [h])).2.2
    · exact .inr (.inr (Nat.le_trans C.hid.size h))
  · rcases hGin b hb with h | h
    · exact hd b h hc
    · have := (ho.inF b (by simp [hc])).1; omega
  · rcases List.mem_append.1 hb with hb | hb
    · refine ⟨(hg.inF b hb).1, fun hc => ?_, ?_⟩
      · rcases hGin b hb with h | h
        · exact (ho.inF b (by simp [h])).2.1 hc
        · have := (C.loc b hc).2; omega
      · rcases hGin b hb with h | h
        · exact (ho.inF b (by simp [h])).2.2
        · exact .inr (Nat.le_trans C.hid.size h)
    · obtain ⟨q1, q2, q3⟩ := ho.inF b (by simp [hb])
      exact ⟨Nat.lt_of_lt_of_le q1 C'.hid.size, q2, q3⟩
  · obtain ⟨q1, q2, q3⟩ := hg.mem a v e
    have key : a.block ∉ F2 ∧ a.block ∉ L := by
      rcases C'.new a v e with h | h | h
      · exact ⟨fun hc => (ho.mem a v h).2.1 (by simp [hc]), (ho.mem a v h).2.2⟩
      · exact ⟨hd _ h, (ho.inF _ (by simp [h])).2.1⟩
      · exact ⟨fun hc => by have := (ho.inF _ (by simp [hc] : a.block ∈ F1 ++ F2)).1; omega, fun hc => by have := (C.loc _ hc).2; omega⟩
    refine ⟨q1, ?_, key.2⟩
    simp only [List.mem_append, not_or]
    exact ⟨q2, key.1⟩

/-! ### what an operation does -/
section
variable {P : Program} {o : Oper} {ρ : Operand → Value} {w w' : World} {v : Value}
theorem ex_move {x : Operand} (ho : o.op = .move x) : (execOp ρ o).run P w = .ok (.value (ρ x)) w := by simp [execOp, ho]
theorem ex_assign {x : Operand} (ho : o.op = .assign x) : (execOp ρ o).run P w = .ok (.value (ρ x)) w := by simp [execOp, ho]
theorem ex_load {t : TypeId} {x : Operand} (ho : o.op = .load t x) (h : (Instr.loadAt t (ρ x)).run P w = .ok v w') : (execOp ρ o).run P w = .ok (.value v) w' := by simp [execOp, ho, Sem.run_bind, h]
theorem ex_store {t : TypeId} {x y : Operand} (ho : o.op = .store t x y) (h : (Instr.storeAt t (ρ x) (ρ y)).run P w = .ok () w') : (execOp ρ o).run P w = .ok .skip w' := by simp [execOp, ho, Sem.run_bind, h]
theorem ex_extract {x : Operand} {i : Nat} {vs : Array Value} (ho : o.op = .extract x i) (h : ρ x = .tuple vs) (hi : vs[i]? = some v) : (execOp ρ o).run P w = .ok (.value v) w := by simp [execOp, ho, Sem.run_bind, h, Instr.extract, hi]
theorem ex_not {t : TypeId} {x : Operand} {b : Bool} (ho : o.op = .unOp .not t x) (h : ρ x = .bool b) : (execOp ρ o).run P w = .ok (.value (.bool (!b))) w := by simp [execOp, ho, Sem.run_bind, h, Op.unary]
theorem ex_yield {f x : Operand} {ts : Array TypeId} {l : Nat} {y : Value} {fn : FuncId} {tmps : Array Value} {assign body : Code} (ho : o.op = .call { callee := .value f, args := #[x], argTypes := ts }) (h : ρ f = .func (.yield l) #[] #[]) (hx : ρ x = y)
    (hy : (Instr.yield l #[y]).run P w = .ok (.round l fn tmps assign body) w) : (execOp ρ o).run P w = .ok (.round l fn tmps assign body) w := by
  subst hx
  simp [execOp, ho, Sem.run_bind, h, Go.resolve, Deferred.ofValue, invoke, hy]
end
section
variable {P : Program} {F0 : List Nat} {m0 : Mem} {w0 w : World} {L : List Nat} {m : Mem} {As : List Asn}
theorem setRow_hid (w : World) (b : Nat) (cs : Array Value) : Hid [b] w (w.setRow b cs) := by
  refine ⟨rfl, rfl, rfl, by simp, Nat.le_refl _, fun k hk hn => ?_⟩
  have : b ≠ k := fun e => hn (by simp [e])
  simp only [World.setRow, Array.getElem?_modify]
  rw [if_neg this]
theorem Ctx.ldOne {b : Nat} {v : Value} {ty t : TypeId} (C : Ctx F0 m0 w0 w L m (blk b [v] ty :: As)) (hu : (P.underlying t).isSome = true) (ha : aggT P t = false) : (Instr.loadAt t (.pointer (some ⟨b, 0, none⟩))).run P w = .ok v w := by
  have := run_loadVar_one (P := P) hu ha ⟨b, 0, none⟩ v (C.blkCell (j := 0) rfl)
  simpa [Instr.loadAt, Instr.sureAddr, Sem.run_bind] using this
theorem Ctx.ldAgg {b : Nat} {cs : List Value} {ty t : TypeId} (C : Ctx F0 m0 w0 w L m (blk b cs ty :: As)) (ha : aggT P t = true) (hz : szOf P t = some cs.length) : (Instr.loadAt t (.pointer (some ⟨b, 0, none⟩))).run P w = .ok (.agg cs.toArray) w := by
  have := run_loadVar_cells (P := P) ha hz ⟨b, 0, none⟩ cs rfl (C.blkCells fun j v h => by simpa using h)
  simpa [Instr.loadAt, Instr.sureAddr, Sem.run_bind] using this
theorem Ctx.stAll {b : Nat} {cs : List Value} {ty t : TypeId} (v : Value) (C : Ctx F0 m0 w0 w L m (blk b cs ty :: As)) (hz : szOf P t = some v.cells.size) (hl : cs.length = v.cells.size) (h1 : v.cells.toList.all oneC = true) :
    ∃ w', (Instr.storeAt t (.pointer (some ⟨b, 0, none⟩)) v).run P w = .ok () w' ∧ Ctx F0 m0 w0 w' L m (blk b v.cells.toList ty :: As) := by
  refine ⟨_, run_storeAt_row (P := P) (off := 0) (C.blkAt.1) hz (by omega) h1, ?_⟩
  have h2 : splice cs 0 v.cells.toList = v.cells.toList := by
    simp only [splice, List.take_zero, List.nil_append, Nat.zero_add, Array.length_toList]
    rw [List.drop_of_length_le (by omega)]; simp
  rw [h2]
  exact (C.turn (b := b) (B := blk b v.cells.toList ty) (fun F hF => hF.1) (setRow_hid _ _ _) ⟨rfl, setRow_heap _ _ _ _ _ _ C.blkAt.1⟩).1
end

/-! ### contracts of yield, and of iterators -/
/-- a round's contract: from the pieces Cs, yield hands back true and leaves the pieces Bs -/
def YCtr (P : Program) (l : Nat) (args : Array Value) (Cs Bs : List Asn) : Prop :=
  ∀ n w F m, Ctx F m w w [] m Cs → YieldAt Fence.wide n P l args w fun e w' => e = .returned (.bool true) ∧ ∃ m' L, Ctx F m w w' L m' Bs
theorem YCtr.round {P : Program} {l : Nat} {args : Array Value} {Cs Bs As : List Asn} {F0 : List Nat} {m0 : Mem} {w0 w : World} {L : List Nat} {m : Mem} (s : YCtr P l args Cs Bs) (C : Ctx F0 m0 w0 w L m (Cs ++ As)) (n : Nat) :
    YieldAt Fence.wide n P l args w fun e w' => e = .returned (.bool true) ∧ ∃ m', Kept L w w' ∧ m.le m' ∧ Ctx F0 m0 w0 w' L m' (Bs ++ As) := by
  obtain ⟨F1, h1, h2, h3, h4⟩ := C.frame
  obtain ⟨fn, tmps, assign, body, hy, hr⟩ := s n w F1 m (Ctx.start h3 h1 h2)
  refine ⟨fn, tmps, assign, body, hy, hr.mono fun e w' h => ?_⟩
  obtain ⟨he, m', L', C'⟩ := h
  obtain ⟨k1, k2, k3⟩ := h4 C'
  exact ⟨he, m', k1, k2, k3⟩
/-- an iterator's contract: it owns the pieces Cs, yields elements, each once a round, and leaves the pieces Ds -/
def SeqC {β : Type} (P : Program) (f : FuncId) (lb : Array Value) (enc : β → Value) (Cs Ds : List Asn) (S : List β → Prop) (N : Nat) : Prop :=
  ∀ n l (J : List β → List Asn), (∀ ys x, ys.length < N → YCtr P l #[enc x] (J ys) (J (ys ++ [x]))) → ∀ F0 m0 w0 w m As, Ctx F0 m0 w0 w [] m (Cs ++ (J [] ++ As)) →
    CallsIn Fence.wide n P f (#[.func (.yield l) #[] #[]] ++ lb) w fun e w' => (∃ v, e = .returned v) ∧ ∃ ys m', S ys ∧ m.le m' ∧ Ctx F0 m0 w0 w' [] m' (Ds ++ (J ys ++ As))
end Go.X
namespace Go.X
open Go RowKit
section
variable {P : Program} {o : Oper} {ρ : Operand → Value} {w w' : World} {v : Value}
theorem ex_moveV {x : Operand} (ho : o.op = .move x) (hv : ρ x = v) : (execOp ρ o).run P w = .ok (.value v) w := by subst hv; simp [execOp, ho]
theorem ex_assignV {x : Operand} (ho : o.op = .assign x) (hv : ρ x = v) : (execOp ρ o).run P w = .ok (.value v) w := by subst hv; simp [execOp, ho]
theorem ex_append {x y : Operand} {ts : Array TypeId} {a b : Value} (ho : o.op = .call { callee := .builtin .append, args := #[x, y], argTypes := ts }) (hx : ρ x = a) (hy : ρ y = b)
    (h : (Builtin.append_ ts o.type #[a, b]).run P w = .ok v w') : (execOp ρ o).run P w = .ok (.value v) w' := by
  subst hx; subst hy
  simp [execOp, ho, Sem.run_bind, Go.resolve, invoke, builtin, h]
theorem ex_buildSlice {t : TypeId} {x : Operand} {a : Value} (ho : o.op = .buildSlice t 1 #[(0, x)]) (hx : ρ x = a) (h : (Instr.buildSlice t 1 #[(0, a)]).run P w = .ok v w') : (execOp ρ o).run P w = .ok (.value v) w' := by
  subst hx
  simp [execOp, ho, Sem.run_bind, h]
theorem ex_box {t : TypeId} {x : Operand} {a : Value} (ho : o.op = .box t x) (hx : ρ x = a) (h : (Instr.box t a).run P w = .ok v w') : (execOp ρ o).run P w = .ok (.value v) w' := by
  subst hx
  simp [execOp, ho, Sem.run_bind, h]
end
end Go.X
