import Derived.Test.YtfbjellaijdgbaaDoorU06g
import Derived.RangeFuncIn
set_option linter.unusedVariables false
set_option linter.unusedSimpArgs false
set_option maxRecDepth 10000
namespace Go.Proofs
open Go X RowKit
/-- the loop's own code, as the program has it -/
def sq1 : Code → Code | .seq a _ => a | c => c
def sq2 : Code → Code | .seq _ a => a | c => c
def blkC : Code → Code | .block _ a => a | c => c
def rfA : Code → Code | .rangeFunc _ _ a _ => a | c => c
def rfB : Code → Code | .rangeFunc _ _ _ a => a | c => c
theorem roundF (l : Nat) : ∀ f, (Fence.wide.inRound l).fn f := fun _ => trivial
abbrev cC (r : Pr) : List Value := (prV r).cells.toList
/-- the loop's own code, as the program has it -/
noncomputable def aqA : Code := rfA (blkC (sq2 (sq1 (sq2 (Tryd.f41.body.getD .skip)))))
noncomputable def aqB : Code := rfB (blkC (sq2 (sq1 (sq2 (Tryd.f41.body.getD .skip)))))
noncomputable def aqR (fn : FuncId) (sv : Value) (B D : Nat) (st : LoopState) : Loop :=
  { state := st, pending := none, fn, tmps := #[.slice none 0 0, sv, .pointer (some ⟨B, 0, none⟩), undef, .slice none 0 0, undef, sv, undef, undef, undef, undef, undef, undef], params := #[7], assign := aqA, body := aqB, defers := D }
noncomputable abbrev aqJ (fn : FuncId) (sv : Value) (B D l : Nat) (ys : List Pr) : List Asn :=
  [objB l (.loop (aqR fn sv B D .ready)), objB D (.deferred (some [])), Asn.ex fun v : Value => Asn.all [blk B [v] 28, slA v ys.length (ys.flatMap cC) 48 2]]
theorem bs48 (x : Pr) (w : World) : (Instr.buildSlice 28 1 #[(0, (prV x))]).run Tryd.prog w = .ok (.slice (some ⟨w.heap.size, 0, none⟩) 1 1) (w.alloc (.cells (cC x).toArray 48)) := nev_run (by kernel_rfl)
theorem bx28 (v : Value) (hv : oneC v = true) (w : World) : (Instr.box 28 v).run Tryd.prog w = .ok (.pointer (some ⟨w.heap.size, 0, none⟩)) (w.alloc (.cells #[v] 28)) := by
  cases v <;> first | (cases hv; done) | exact nev_run (by kernel_rfl)
theorem cC_len (x : Pr) : (cC x).length = 2 := rfl
set_option maxHeartbeats 1000000 in
theorem aqY (fn : FuncId) (sv : Value) (B D l N : Nat) (hN : N * 200 ≤ 140737488355328) (ys : List Pr) (x : Pr) (hl : ys.length < N) :
    YCtr Tryd.prog l #[(prV x)] (aqJ fn sv B D l ys) (aqJ fn sv B D l (ys ++ [x])) := by
  intro n w F m C
  have hL := C.objAt.1
  refine ⟨fn, #[.slice none 0 0, sv, .pointer (some ⟨B, 0, none⟩), undef, .slice none 0 0, undef, sv, (prV x), undef, undef, undef, undef, undef], aqA, aqB, (run_yield (P := Tryd.prog) (args := #[(prV x)]) hL rfl).trans (by simp [aqR]), roundIn_of_wpIn trivial ?_⟩
  show Code.wpIn _ n _ (Code.region 2 _ false) _ _ _
  refine wpIn_region_lit ?_
  refine opW (roundF l) rfl (by intro c h; cases h) (al48 _ _ rfl _) ?_
  simp only [Act.put, List.setIfInBounds_toArray, List.set_cons_succ, List.set_cons_zero]
  have C3 := C.alloc [.int .u8 0, .int .u16 0] 48
  obtain ⟨w4, hr4, C4⟩ := C3.stAll (P := Tryd.prog) (t := 48) (prV x) (by kernel_rfl) (by rfl) (by rfl)
  refine opU (roundF l) rfl (by intro c h; cases h) (ex_store rfl hr4) ?_
  simp only [Act.put, List.setIfInBounds_toArray, List.set_cons_succ, List.set_cons_zero]
  refine wpListIn_nil ?_
  simp only [Exit.then]
  generalize w.heap.size = t5 at *
  have C5 := C4.pm [1, 0, 2, 3] rfl
  have hL5 := C5.objAt.1
  refine ⟨_, run_beginRound (P := Tryd.prog) hL5 rfl, ?_⟩
  obtain ⟨-, C6⟩ := C5.objTurn (o' := .loop (aqR fn sv B D .busy))
  generalize hw6 : w4.putObj l _ = w6
  have e6 : w6 = { w4 with heap := w4.heap.setIfInBounds l (.loop (aqR fn sv B D .busy)) } := by rw [← hw6]; rfl
  rw [← e6] at C6
  clear e6 hw6
  replace C6 := C6.pm [3, 1, 0, 2] rfl
  obtain ⟨v, C6⟩ := C6.ex
  replace C6 := C6.all
  show Code.wpIn _ n _ (Code.block 1 (Code.region 3 _ false)) _ _ _
  refine wpIn_block (wpIn_region_lit ?_)
  refine opW (roundF l) rfl (by intro c h; cases h) (ex_load rfl (C6.ldOne (t := 28) (by kernel_rfl) (by kernel_rfl))) ?_
  simp only [Act.put, List.setIfInBounds_toArray, List.set_cons_succ, List.set_cons_zero]
  replace C6 := C6.pm [2, 0, 1, 3, 4] rfl
  refine opW (roundF l) rfl (by intro c h; cases h) (ex_load rfl (C6.ldAgg (t := 48) (by kernel_rfl) (by kernel_rfl))) ?_
  simp only [Act.put, List.setIfInBounds_toArray, List.set_cons_succ, List.set_cons_zero]
  replace C6 := C6.drop
  refine opW (roundF l) rfl (by intro c h; cases h) (ex_buildSlice rfl rfl (bs48 x _)) ?_
  simp only [Act.put, List.setIfInBounds_toArray, List.set_cons_succ, List.set_cons_zero]
  have C7 := (C6.alloc (cC x) 48).pm [2, 0, 1, 3, 4] rfl
  have hs : Src (w6.alloc (.cells (cC x).toArray 48)) 2 (.slice (some ⟨w6.heap.size, 0, none⟩) 1 1) 1 (cC x) :=
    Src.some _ _ _ _ rfl (Ctx.blkCells (C7.pm [1, 0, 2, 3, 4] rfl) fun j v h => by simpa using h)
  obtain ⟨q, cap, w8, hr8, -, C8⟩ := C7.app (P := Tryd.prog) (t := 28) (t2 := 28) (bytes := 4) 28 (by kernel_rfl) hs (by omega) (List.all_eq_true.1 (show (cC x).all oneC = true from rfl))
  refine opW (roundF l) rfl (by intro c h; cases h) (ex_append rfl rfl rfl hr8) ?_
  simp only [Act.put, List.setIfInBounds_toArray, List.set_cons_succ, List.set_cons_zero]
  replace C8 := C8.pk [2, 0, 3, 4] [1] rfl
  obtain ⟨w9, hr9, C9⟩ := C8.stAll (P := Tryd.prog) (t := 28) (.slice q (ys.length + 1) cap) (by kernel_rfl) rfl rfl
  refine opU (roundF l) rfl (by intro c h; cases h) (ex_store rfl hr9) ?_
  simp only [Act.put, List.setIfInBounds_toArray, List.set_cons_succ, List.set_cons_zero]
  refine wpListIn_nil ?_
  simp only [Exit.inBlock]
  replace C9 := C9.pm [2, 0, 1, 3] rfl
  refine ⟨_, _, run_endRound (P := Tryd.prog) none C9.objAt.1, rfl, m, [], ?_⟩
  show Ctx F m w { w9 with heap := w9.heap.setIfInBounds l (.loop (aqR fn sv B D .ready)) } [] m _
  obtain ⟨-, C10⟩ := C9.objTurn (o' := .loop (aqR fn sv B D .ready))
  replace C10 : Ctx F m w { w9 with heap := w9.heap.setIfInBounds l (.loop (aqR fn sv B D .ready)) } [] m ([blk B [.slice q (ys.length + 1) cap] 28, slA (.slice q (ys.length + 1) cap) (ys ++ [x]).length ((ys ++ [x]).flatMap cC) 48 2] ++ [objB l (.loop (aqR fn sv B D .ready)), objB D (.deferred (some []))]) := by
    have := C10.pm [1, 2, 0, 3] rfl
    simpa [sel, nth, show (Value.slice q (ys.length + 1) cap).cells.toList = [.slice q (ys.length + 1) cap] from rfl] using this
  have C11 : Ctx F m w { w9 with heap := w9.heap.setIfInBounds l (.loop (aqR fn sv B D .ready)) } [] m ((Asn.ex fun v : Value => Asn.all [blk B [v] 28, slA v (ys ++ [x]).length ((ys ++ [x]).flatMap cC) 48 2]) :: [objB l (.loop (aqR fn sv B D .ready)), objB D (.deferred (some []))]) := Ctx.exI (.slice q (ys.length + 1) cap) (Ctx.allI C10)
  exact C11.pm [1, 2, 0] rfl
set_option maxHeartbeats 1000000 in
/-- slices.AppendSeq, against whatever iterator -/
theorem as41 (g : FuncId) (lb : Array Value) (pre : Mem → Prop) (Cs Ds : List Asn) (S : List Pr → Mem → Prop) (N : Nat) (hs : SeqM Tryd.prog g lb prV pre Cs Ds S N) (hN : N * 200 ≤ 140737488355328) (eg : ∀ args w, (callFunc g args).run Tryd.prog w = .ok (.enter g args) w)
    (n : Nat) (F0 : List Nat) (m0 : Mem) (w0 w : World) (m : Mem) (As : List Asn) (hp : pre m) (C : Ctx F0 m0 w0 w [] m (Cs ++ As)) :
    CallsIn Fence.wide n Tryd.prog 41 #[.slice none 0 0, .func (.func g) #[] lb] w fun e w' => ∃ ys v m', S ys m' ∧ e = .returned v ∧ m.le m' ∧ Ctx F0 m0 w0 w' [] m' (slA v ys.length (ys.flatMap cC) 48 2 :: (Ds ++ As)) := by
  refine callsIn_of_wp_marks Tryd.func41 rfl trivial ?_ rfl
  simp only [Tryd.ntmps41, List.size_toArray, List.length_cons, List.length_nil, Nat.reduceAdd, Nat.reduceSub, Array.replicate_succ, Array.replicate_zero, List.push_toArray, List.append_toArray, List.nil_append, List.cons_append]
  refine wpIn_seq (wpIn_region_lit ?_)
  refine opW wideF rfl (by intro c h; cases h) (ex_box rfl rfl (bx28 (.slice none 0 0) rfl _)) ?_
  simp only [Act.put, List.setIfInBounds_toArray, List.set_cons_succ, List.set_cons_zero]
  have C1 := (C.alloc [.slice none 0 0] 28)
  generalize hB : w.heap.size = B at *
  generalize hw1 : w.alloc (Obj.cells #[Value.slice none 0 0] 28) = w1 at *
  refine opW (v := .slice none 0 0) wideF rfl (by intro c h; cases h) (ex_assignV rfl rfl) ?_
  simp only [Act.put, List.setIfInBounds_toArray, List.set_cons_succ, List.set_cons_zero]
  refine wpListIn_nil ?_
  simp only [Exit.then]
  refine wpIn_seq (wpIn_seq (wpIn_region_lit ?_))
  refine opW (v := .func (.func g) #[] lb) wideF rfl (by intro c h; cases h) (ex_moveV rfl rfl) ?_
  simp only [Act.put, List.setIfInBounds_toArray, List.set_cons_succ, List.set_cons_zero]
  refine wpListIn_nil ?_
  simp only [Exit.then]
  refine wpIn_block (wpIn_rangeFunc ?_)
  intro fn _
  have C2 := C1.newO (A := objB w1.heap.size (.deferred (some []))) (.deferred (some [])) ⟨rfl, World.alloc_heap_new _ _⟩
  generalize hD : w1.heap.size = D at *
  have C3 := C2.newO (A := objB (w1.alloc (.deferred (some []))).heap.size (.loop (aqR fn (.func (.func g) #[] lb) B D .ready))) (.loop (aqR fn (.func (.func g) #[] lb) B D .ready)) ⟨rfl, World.alloc_heap_new _ _⟩
  have hl : (w1.alloc (.deferred (some []))).heap.size = D + 1 := by rw [World.size_alloc, hD]
  rw [hl] at C3
  generalize hw3 : (w1.alloc (.deferred (some []))).alloc (.loop (aqR fn (.func (.func g) #[] lb) B D .ready)) = w3 at *
  have hent : (Instr.enterLoop fn #[.slice none 0 0, .func (.func g) #[] lb, .pointer (some ⟨B, 0, none⟩), undef, .slice none 0 0, undef, .func (.func g) #[] lb, undef, undef, undef, undef, undef, undef] #[7] aqA aqB none).run Tryd.prog w1 = .ok (D + 1, [{ target := .collected D, args := #[] }]) w3 := by
    rw [run_enterLoop_outer, ← hw3, ← hD]; rfl
  refine ⟨D + 1, [{ target := .collected D, args := #[] }], w3, { target := .fn (.func g) lb, args := #[.func (.yield (D + 1)) #[] #[]] }, w3, g, #[.func (.yield (D + 1)) #[] #[]] ++ lb, w3, hent, ?_, fun _ _ => trivial, ?_, fun h => absurd h (by decide), ?_⟩
  · simp [Go.resolve, Deferred.ofValue, go_sem]
  · simp [invoke, eg]
  · have C4 : Ctx F0 m0 w0 w3 [] m (Cs ++ (aqJ fn (.func (.func g) #[] lb) B D (D + 1) [] ++ As)) := by
      have C3a : Ctx F0 m0 w0 w3 [] m ([blk B [.slice none 0 0] 28, slA (.slice none 0 0) 0 [] 48 2] ++ ([objB (D + 1) (.loop (aqR fn (.func (.func g) #[] lb) B D .ready)), objB D (.deferred (some []))] ++ (Cs ++ As))) := (Ctx.slNil (q := none) (ty := 48) (sz := 2) C3.third).swap
      have C3b := Ctx.exI (f := fun v : Value => Asn.all [blk B [v] 28, slA v 0 [] 48 2]) (.slice none 0 0) (Ctx.allI C3a)
      have C3c : Ctx F0 m0 w0 w3 [] m (aqJ fn (.func (.func g) #[] lb) B D (D + 1) [] ++ (Cs ++ As)) := C3b.perm (List.Perm.append_right (Cs ++ As) (List.perm_append_comm (l₁ := [_]) (l₂ := [_, _])))
      exact C3c.perm (List.perm_append_comm_assoc _ Cs As)
    refine (hs (n - 1) (D + 1) (aqJ fn (.func (.func g) #[] lb) B D (D + 1)) (fun ys x hlt => aqY fn _ B D (D + 1) N hN ys x hlt) F0 m0 w0 w3 m As hp C4).mono ?_
    rintro e w5 ⟨⟨v, rfl⟩, ys, m', hS, hm, C5⟩
    replace C5 := C5.perm (List.perm_append_comm_assoc Ds _ As)
    refine ⟨none, _, run_endLoop (P := Tryd.prog) C5.objAt.1 (by simp [aqR]), ?_⟩
    obtain ⟨-, C6⟩ := C5.objTurn (o' := .loop { aqR fn (.func (.func g) #[] lb) B D .ready with state := .exhausted })
    replace C6 : Ctx F0 m0 w0 _ [] m' (objB (D + 1) _ :: objB D _ :: (Asn.ex fun v : Value => Asn.all [blk B [v] 28, slA v ys.length (ys.flatMap cC) 48 2]) :: (Ds ++ As)) := C6
    obtain ⟨v, C7⟩ := C6.drop.swap.ex
    replace C7 := C7.all
    simp only [Exit.inBlock, Exit.then]
    refine wpIn_seq (wpIn_region_lit ?_)
    refine opW (v := v) wideF rfl (by intro c h; cases h) (ex_load rfl (C7.ldOne (t := 28) (by kernel_rfl) (by kernel_rfl))) ?_
    simp only [Act.put, List.setIfInBounds_toArray, List.set_cons_succ, List.set_cons_zero]
    refine opW (v := v) wideF rfl (by intro c h; cases h) (ex_assignV rfl rfl) ?_
    simp only [Act.put, List.setIfInBounds_toArray, List.set_cons_succ, List.set_cons_zero]
    refine wpListIn_nil ?_
    simp only [Exit.then]
    refine wpIn_ret ?_
    have C8 := C7.drop.swap
    obtain ⟨-, C9⟩ := C8.objTurn (o' := .deferred none)
    refine ⟨by simp, .inl ⟨_, _, rfl, run_takeDeferred C8.objAt.1, ?_⟩⟩
    exact ⟨_, results_tmp rfl _ _ _, ys, v, m', hS, rfl, hm, C9.drop⟩
end Go.Proofs
