import Derived.Test.YtfbjellaijdgbaaDoorU06h
set_option linter.unusedVariables false
set_option linter.unusedSimpArgs false
set_option maxRecDepth 10000
namespace Go.Proofs
open Go X RowKit
theorem e42 : ∀ args w, (callFunc 42 args).run Tryd.prog w = .ok (.enter 42 args) w := fun args w => enters Tryd.func42 (by kernel_rfl) rfl args w
theorem e21 : ∀ args w, (callFunc 21 args).run Tryd.prog w = .ok (.enter 21 args) w := fun args w => enters Tryd.func21 (by kernel_rfl) rfl args w
theorem e23 : ∀ args w, (callFunc 23 args).run Tryd.prog w = .ok (.enter 23 args) w := fun args w => enters Tryd.func23 (by kernel_rfl) rfl args w
theorem e20 : ∀ args w, (callFunc 20 args).run Tryd.prog w = .ok (.enter 20 args) w := fun args w => enters Tryd.func20 (by kernel_rfl) rfl args w
/-- an iterator, and what it owns -/
abbrev itA (zv zs : Nat) (v : Vw) (g : FuncId) (lb : Array Value) (Ks : List Asn) : List Asn := vwB zv v :: sdB zs g lb :: Ks
abbrev itV (zv zs : Nat) : Value := .func (.func 42) #[] #[.pointer (some ⟨zv, 0, none⟩), .pointer (some ⟨zs, 0, none⟩)]
theorem c_Collect (zv zs : Nat) (v : Vw) (hl : v.ms.length ≤ 1000) (g : FuncId) (lb : Array Value) (said : Pr → Bool) (pre : Mem → Prop) (hpre : ∀ m m', pre m → m.le m' → pre m') (Ks : List Asn) (hS : SaidC g lb said pre Ks) :
    Ctr Tryd.prog 22 #[itV zv zs] (fun m => VwM m v ∧ pre m) (itA zv zs v g lb Ks) (fun r : Sl => slV r (v.ms.filter said).length) (fun _ _ => True) (fun r => prS r (v.ms.filter said) :: itA zv zs v g lb Ks) := by
  refine Ctr.mk fun w F m C hp => x_Collect _ _ w _ ⟨(callsIn_wide (n := 0)).1 ((as41 42 _ _ _ _ _ _ (it42 zv zs v (by omega) g lb said pre hpre Ks hS) (by omega) e42 0 F m w w m [] hp (by rw [List.append_nil]; exact C)).mono ?_)⟩
  rintro e w5 ⟨ys, x, m', rfl, rfl, hm, C5⟩
  obtain ⟨q, c, rfl, -⟩ := C5.slO
  rw [List.append_nil] at C5
  exact ⟨_, _, _, rfl, C5.hid.size, Ctr.ret (m' := m') (L := []) (r := fun r : Sl => slV r (v.ms.filter said).length) (Bs := fun r => prS r (v.ms.filter said) :: itA zv zs v g lb Ks) (q, c) rfl trivial C5⟩
theorem c_among (q : Sl) (l : List Pr) : Ctr Tryd.prog 21 #[slV q l.length] noMem [] (fun z : Nat => .func (.func 39) #[] #[.pointer (some ⟨z, 0, none⟩)]) (fun _ _ => True) (fun z => [blk z [slV q l.length] 28]) :=
  Ctr.mk fun w F m C _ => x_among _ _ _ w _ (Ctr.ret (m' := m) (L := []) (r := fun z : Nat => .func (.func 39) #[] #[.pointer (some ⟨z, 0, none⟩)]) w.heap.size rfl trivial (C.alloc [slV q l.length] 28))
theorem c_which (v : Vw) (g : FuncId) (lb : Array Value) : Ctr Tryd.prog 23 #[.agg v.row.toArray, .func (.func g) #[] lb] noMem [] (fun z : Nat × Nat => itV z.1 z.2) (fun _ _ => True) (fun z => [sdB z.2 g lb, vwB z.1 v]) := by
  refine Ctr.mk fun w F m C _ => x_which _ _ _ _ _ _ _ w _ ?_
  have C1 := (C.alloc v.row 30).alloc [.func (.func g) #[] lb] 52
  exact Ctr.ret (m' := m) (L := []) (r := fun z : Nat × Nat => itV z.1 z.2) (Bs := fun z => [sdB z.2 g lb, vwB z.1 v]) (w.heap.size, (w.alloc (.cells v.row.toArray 30)).heap.size) rfl trivial C1
/-! ### Quorum -/
noncomputable def qmA : Code := rfA (blkC (sq2 (sq1 (sq2 (sq2 (Tryd.f15.body.getD .skip))))))
noncomputable def qmB : Code := rfB (blkC (sq2 (sq1 (sq2 (sq2 (Tryd.f15.body.getD .skip))))))
noncomputable def qmT (v : Vw) (gs : Value) (zb B z zv zs : Nat) : Array Value := #[.agg v.row.toArray, gs, .pointer (some ⟨zb, 0, none⟩), undef, .bool false, .pointer (some ⟨B, 0, none⟩), .agg v.row.toArray, gs, .func (.func 39) #[] #[.pointer (some ⟨z, 0, none⟩)], itV zv zs, undef, undef, undef, undef, undef, undef, undef]
noncomputable def qmR (fn : FuncId) (tm : Array Value) (D : Nat) (st : LoopState) : Loop :=
  { state := st, pending := none, fn, tmps := tm, params := #[10], assign := qmA, body := qmB, defers := D }
noncomputable abbrev qmJ (fn : FuncId) (tm : Array Value) (B D l : Nat) (ys : List Pr) : List Asn :=
  [objB l (.loop (qmR fn tm D .ready)), objB D (.deferred (some [])), blk B [.int .i64 (ys.length : Int)] 3]
theorem add3q (a : Int) (w : World) : (do eqGuard .add 3 (.tmp 11) (.const (.int .i64 1)) (.int .i64 a) (.int .i64 1); binOp .add 3 (.int .i64 a) (.int .i64 1) : Sem Value).run Tryd.prog w = .ok (.int .i64 (IntKind.wrap .i64 (a + 1))) w := pev_run (by kernel_rfl) w
set_option maxHeartbeats 1000000 in
theorem qmY (fn : FuncId) (v : Vw) (gs : Value) (zb z zv zs : Nat) (B D l : Nat) (ys : List Pr) (x : Pr) (hl : ys.length < 1000000) :
    YCtr Tryd.prog l #[prV x] (qmJ fn (qmT v gs zb B z zv zs) B D l ys) (qmJ fn (qmT v gs zb B z zv zs) B D l (ys ++ [x])) := by
  intro n w F m C
  have hL := C.objAt.1
  refine ⟨fn, #[.agg v.row.toArray, gs, .pointer (some ⟨zb, 0, none⟩), undef, .bool false, .pointer (some ⟨B, 0, none⟩), .agg v.row.toArray, gs, .func (.func 39) #[] #[.pointer (some ⟨z, 0, none⟩)], itV zv zs, prV x, undef, undef, undef, undef, undef, undef], qmA, qmB, (run_yield (P := Tryd.prog) (args := #[prV x]) hL rfl).trans (by simp [qmR, qmT]), roundIn_of_wpIn trivial ?_⟩
  show Code.wpIn _ n _ Code.skip _ _ _
  refine wpIn_skip ?_
  refine ⟨_, run_beginRound (P := Tryd.prog) hL rfl, ?_⟩
  obtain ⟨-, C6⟩ := C.objTurn (o' := .loop (qmR fn (qmT v gs zb B z zv zs) D .busy))
  generalize hw6 : w.putObj l _ = w6
  have e6 : w6 = { w with heap := w.heap.setIfInBounds l (.loop (qmR fn (qmT v gs zb B z zv zs) D .busy)) } := by rw [← hw6]; rfl
  rw [← e6] at C6
  clear e6 hw6
  replace C6 := C6.pm [2, 0, 1] rfl
  show Code.wpIn _ n _ (Code.block 1 (Code.region 3 _ false)) _ _ _
  refine wpIn_block (wpIn_region_lit ?_)
  refine opW (roundF l) rfl (by intro c h; cases h) (ex_load rfl (C6.ldOne (t := 3) (by kernel_rfl) (by kernel_rfl))) ?_
  simp only [Act.put, List.setIfInBounds_toArray, List.set_cons_succ, List.set_cons_zero]
  refine opW (roundF l) rfl (by intro c h; cases h) (ex_binOp rfl rfl rfl (add3q (ys.length : Int) _)) ?_
  simp only [Act.put, List.setIfInBounds_toArray, List.set_cons_succ, List.set_cons_zero]
  have e : Value.int .i64 (IntKind.wrap .i64 ((ys.length : Int) + 1)) = .int .i64 (((ys ++ [x]).length : Nat) : Int) := by rw [w_i64 (by omega) (by omega), List.length_append]; rfl
  rw [e]
  obtain ⟨w9, hr9, C9⟩ := C6.stAll (P := Tryd.prog) (t := 3) (.int .i64 (((ys ++ [x]).length : Nat) : Int)) (by kernel_rfl) rfl rfl
  refine opU (roundF l) rfl (by intro c h; cases h) (ex_store rfl hr9) ?_
  simp only [Act.put, List.setIfInBounds_toArray, List.set_cons_succ, List.set_cons_zero]
  refine wpListIn_nil ?_
  simp only [Exit.inBlock]
  replace C9 := C9.pm [1, 2, 0] rfl
  refine ⟨_, _, run_endRound (P := Tryd.prog) none C9.objAt.1, rfl, m, [], ?_⟩
  show Ctx F m w { w9 with heap := w9.heap.setIfInBounds l (.loop (qmR fn (qmT v gs zb B z zv zs) D .ready)) } [] m _
  obtain ⟨-, C10⟩ := C9.objTurn (o' := .loop (qmR fn (qmT v gs zb B z zv zs) D .ready))
  exact C10
end Go.Proofs
