import Derived.Test.YtpijekgiblcfhaaXRange
import Derived.Test.YtpijekgiblcfhaaU14b
import Derived.RangeFuncIn
set_option linter.unusedVariables false
set_option linter.unusedSimpArgs false
set_option maxRecDepth 10000
namespace Go.Proofs
open Go X RowKit
theorem wideF : ∀ f, Fence.wide.fn f := fun _ => trivial
theorem al60 (ρ : Operand → Value) (o : Oper) (ho : o.op = .alloc 60) (w : World) :
    (execOp ρ o).run Try.prog w = .ok (.value (.pointer (some ⟨w.heap.size, 0, none⟩))) (w.alloc (.cells (Rw.fresh I.zero).V.cells.toList.toArray 60)) := by
  have h : (Instr.alloc 60 true (.tuple #[])).run Try.prog w = .ok (.pointer (some ⟨w.heap.size, 0, none⟩)) (w.alloc (.cells (Rw.fresh I.zero).V.cells.toList.toArray 60)) := nev_run (by kernel_rfl)
  simp only [execOp, ho, Sem.run_bind, h]
  rfl
set_option maxHeartbeats 1000000 in
/-- the values of a table, one a round -/
theorem it59 (Bm b : Nat) (zs : List ((I × Rw) × Nat)) (clock : Nat) (hz : (zs.map Prod.snd).Nodup) :
    SeqC Try.prog 59 #[.pointer (some ⟨Bm, 0, none⟩)] Rw.V [blk Bm [.map (some b)] 84, mapZ b I.V Rw.V zs clock] [blk Bm [.map (some b)] 84, mapZ b I.V Rw.V zs clock]
      (fun ys => ∃ ps : List (I × Rw), ys = ps.map Prod.snd ∧ ps.Perm (zs.map Prod.fst)) zs.length := by
  intro n l J hY F0 m0 w0 w m As C
  refine callsIn_of_wp Try.func59 rfl trivial ?_ rfl
  simp only [Try.ntmps59, List.size_toArray, List.length_cons, List.length_nil, Nat.reduceAdd, Nat.reduceSub, Array.replicate_succ, Array.replicate_zero, List.push_toArray, List.append_toArray, List.nil_append, List.cons_append]
  refine wpIn_seq (wpIn_region_lit ?_)
  refine opW wideF rfl (by intro c h; cases h) (ex_load rfl (C.ldOne (t := 84) (by kernel_rfl) (by kernel_rfl))) ?_
  simp only [Act.put, List.setIfInBounds_toArray, List.set_cons_succ, List.set_cons_zero]
  obtain ⟨hr, -, C⟩ := Ctx.mrange (P := Try.prog) t84 C.swap
  refine opW wideF rfl (by intro c h; cases h) (semV_run rfl hr) ?_
  simp only [Act.put, List.setIfInBounds_toArray, List.set_cons_succ, List.set_cons_zero]
  refine wpListIn_nil ?_
  simp only [Exit.then]
  generalize hit : w.heap.size = it at *
  refine wpIn_block (wpIn_loop (fun a' w' => ∃ (ys : List ((I × Rw) × Nat)) (seen : Array Nat) (last : Nat) (m' : Mem) (t4 t7 t8 t9 t10 t11 t12 t13 t14 : Value),
      a' = ⟨#[.func (.yield l) #[] #[], .pointer (some ⟨Bm, 0, none⟩), undef, undef, t4, .map (some b), .pointer (some ⟨it, 0, none⟩), t7, t8, t9, t10, t11, t12, t13, t14], []⟩ ∧
      m.le m' ∧ clock ≤ last ∧ Walked zs ys seen ∧ Ctx F0 m0 w0 w' [] m' (iterA it b clock seen last :: mapZ b I.V Rw.V zs clock :: blk Bm [.map (some b)] 84 :: (J (ys.map (·.1.2)) ++ As)))
    (fun _ w' => zs.length - seenN w' it) ⟨[], #[], clock, m, _, _, _, _, _, _, _, _, _, rfl, Mem.le_refl _, Nat.le_refl _, Walked.nil zs, C⟩ ?_)
  rintro a' wr ⟨ys, seen, last, m', t4, t7, t8, t9, t10, t11, t12, t13, t14, rfl, hm, hl, hW, C⟩
  have hse : seenN wr it = seen.size := seenN_obj C.objAt.1
  refine wpIn_seq (wpIn_region_lit ?_)
  rcases Ctx.mnext (P := Try.prog) 0 rfl hl C with ⟨hall, hr⟩ | ⟨i, hi, w2, hn, hr, hk, C2⟩
  · refine opW wideF rfl (by intro c h; cases h) (semV_run rfl hr) ?_
    simp only [Act.put, List.setIfInBounds_toArray, List.set_cons_succ, List.set_cons_zero]
    refine opW wideF rfl (by intro c h; cases h) (ex_extract rfl rfl rfl) ?_
    simp only [Act.put, List.setIfInBounds_toArray, List.set_cons_succ, List.set_cons_zero]
    refine wpListIn_nil ?_
    simp only [Exit.then]
    refine wpIn_seq (wpIn_cond_false rfl (wpIn_exit ?_))
    simp only [Exit.then, Exit.inBlock, ↓reduceIte]
    refine ⟨rfl, _, results_none rfl _ _ _, ⟨_, rfl⟩, ys.map (·.1.2), m', ⟨ys.map Prod.fst, by simp, hW.perm hz hall⟩, hm, C.drop.swap⟩
  · refine opW wideF rfl (by intro c h; cases h) (semV_run rfl hr) ?_
    simp only [Act.put, List.setIfInBounds_toArray, List.set_cons_succ, List.set_cons_zero]
    refine opW wideF rfl (by intro c h; cases h) (ex_extract rfl rfl rfl) ?_
    simp only [Act.put, List.setIfInBounds_toArray, List.set_cons_succ, List.set_cons_zero]
    refine wpListIn_nil ?_
    simp only [Exit.then]
    refine wpIn_seq (wpIn_cond_true rfl (wpIn_skip ?_))
    simp only [Exit.then]
    refine wpIn_block (wpIn_seq (wpIn_region_lit ?_))
    refine opW wideF rfl (by intro c h; cases h) (semV_run rfl (C2.mentry hi)) ?_
    simp only [Act.put, List.setIfInBounds_toArray, List.set_cons_succ, List.set_cons_zero]
    refine opW wideF rfl (by intro c h; cases h) (ex_extract rfl rfl rfl) ?_
    simp only [Act.put, List.setIfInBounds_toArray, List.set_cons_succ, List.set_cons_zero]
    refine opW wideF rfl (by intro c h; cases h) (al60 _ _ rfl _) ?_
    simp only [Act.put, List.setIfInBounds_toArray, List.set_cons_succ, List.set_cons_zero]
    have C3 := C2.alloc (Rw.fresh I.zero).V.cells.toList 60
    obtain ⟨w4, hr4, C4⟩ := C3.stAll (P := Try.prog) (t := 60) zs[i].1.2.V (by kernel_rfl) (by rfl) (by rfl)
    refine opU wideF rfl (by intro c h; cases h) (ex_store rfl hr4) ?_
    simp only [Act.put, List.setIfInBounds_toArray, List.set_cons_succ, List.set_cons_zero]
    refine wpListIn_nil ?_
    simp only [Exit.then]
    refine wpIn_seq (wpIn_region_lit ?_)
    refine opW wideF rfl (by intro c h; cases h) (ex_move rfl) ?_
    simp only [Act.put, List.setIfInBounds_toArray, List.set_cons_succ, List.set_cons_zero]
    refine opW wideF rfl (by intro c h; cases h) (ex_load rfl (C4.ldAgg (t := 60) (by kernel_rfl) (by kernel_rfl))) ?_
    simp only [Act.put, List.setIfInBounds_toArray, List.set_cons_succ, List.set_cons_zero]
    have C5 : Ctx F0 m0 w0 w4 [] m' (J (ys.map (·.1.2)) ++ ([iterA it b clock (seen.push zs[i].2) clock, mapZ b I.V Rw.V zs clock, blk Bm [.map (some b)] 84] ++ As)) :=
      C4.drop.perm (List.perm_append_comm_assoc [iterA it b clock (seen.push zs[i].2) clock, mapZ b I.V Rw.V zs clock, blk Bm [.map (some b)] 84] _ _)
    have hlt : seen.size < zs.length := by have := (hW.push hi hn).len; simp at this; omega
    obtain ⟨fn, tmps, assign, body, hy, hR⟩ := (hY (ys.map (·.1.2)) zs[i].1.2 (by simp [hW.size, hlt])).round C5 (n - 1)
    refine opY wideF rfl rfl (by intro c h; cases h) (ex_yield rfl rfl rfl hy) (hR.mono ?_)
    rintro e w6 ⟨rfl, m6, -, hm6, C6⟩
    refine ⟨_, rfl, ?_⟩
    simp only [Act.put, List.setIfInBounds_toArray, List.set_cons_succ, List.set_cons_zero]
    refine opW wideF rfl (by intro c h; cases h) (ex_not rfl rfl) ?_
    simp only [Act.put, List.setIfInBounds_toArray, List.set_cons_succ, List.set_cons_zero]
    refine wpListIn_nil ?_
    simp only [Exit.then]
    refine wpIn_cond_false rfl (wpIn_skip ?_)
    have C7 : Ctx F0 m0 w0 w6 [] m6 (iterA it b clock (seen.push zs[i].2) clock :: mapZ b I.V Rw.V zs clock :: blk Bm [.map (some b)] 84 :: (J ((ys ++ [zs[i]]).map (·.1.2)) ++ As)) := by
      have := C6.perm (List.perm_append_comm_assoc _ [iterA it b clock (seen.push zs[i].2) clock, mapZ b I.V Rw.V zs clock, blk Bm [.map (some b)] 84] As)
      simpa using this
    have hse6 : seenN w6 it = seen.size + 1 := by rw [seenN_obj C7.objAt.1]; simp
    refine ⟨⟨ys ++ [zs[i]], _, _, m6, _, _, _, _, _, _, _, _, _, rfl, hm.le_trans hm6, Nat.le_refl _, hW.push hi hn, C7⟩, ?_⟩
    rw [hse, hse6]; omega
end Go.Proofs
namespace Go.Proofs
open Go X RowKit
abbrev rC (r : Rw) : List Value := r.V.cells.toList
/-- the loop's own code, as the program has it -/
def sq1 : Code → Code | .seq a _ => a | c => c
def sq2 : Code → Code | .seq _ a => a | c => c
def blkC : Code → Code | .block _ a => a | c => c
def rfA : Code → Code | .rangeFunc _ _ a _ => a | c => c
def rfB : Code → Code | .rangeFunc _ _ _ a => a | c => c
noncomputable def apA : Code := rfA (blkC (sq2 (sq1 (sq2 (Try.f58.body.getD .skip)))))
noncomputable def apB : Code := rfB (blkC (sq2 (sq1 (sq2 (Try.f58.body.getD .skip)))))
noncomputable def apR (fn : FuncId) (sv : Value) (B D : Nat) (st : LoopState) : Loop :=
  { state := st, pending := none, fn, tmps := #[.slice none 0 0, sv, .pointer (some ⟨B, 0, none⟩), undef, .slice none 0 0, undef, sv, undef, undef, undef, undef, undef, undef], params := #[7], assign := apA, body := apB, defers := D }
noncomputable abbrev apJ (fn : FuncId) (sv : Value) (B D l : Nat) (ys : List Rw) : List Asn :=
  [objB l (.loop (apR fn sv B D .ready)), objB D (.deferred (some [])), Asn.ex fun v : Value => Asn.all [blk B [v] 56, slA v ys.length (ys.flatMap rC) 60 13]]
theorem roundF (l : Nat) : ∀ f, (Fence.wide.inRound l).fn f := fun _ => trivial
theorem bs60 (x : Rw) (w : World) : (Instr.buildSlice 56 1 #[(0, x.V)]).run Try.prog w = .ok (.slice (some ⟨w.heap.size, 0, none⟩) 1 1) (w.alloc (.cells (rC x).toArray 60)) := nev_run (by kernel_rfl)
theorem bx56 (v : Value) (hv : oneC v = true) (w : World) : (Instr.box 56 v).run Try.prog w = .ok (.pointer (some ⟨w.heap.size, 0, none⟩)) (w.alloc (.cells #[v] 56)) := by
  cases v <;> first | (cases hv; done) | exact nev_run (by kernel_rfl)
theorem rC_len (x : Rw) : (rC x).length = 13 := rfl
set_option maxHeartbeats 1000000 in
theorem apY (fn : FuncId) (sv : Value) (B D l N : Nat) (hN : N * 100 ≤ 140737488355328) (ys : List Rw) (x : Rw) (hl : ys.length < N) :
    YCtr Try.prog l #[x.V] (apJ fn sv B D l ys) (apJ fn sv B D l (ys ++ [x])) := by
  intro n w F m C
  have hL := C.objAt.1
  refine ⟨fn, #[.slice none 0 0, sv, .pointer (some ⟨B, 0, none⟩), undef, .slice none 0 0, undef, sv, x.V, undef, undef, undef, undef, undef], apA, apB, (run_yield (P := Try.prog) (args := #[x.V]) hL rfl).trans (by simp [apR]), roundIn_of_wpIn trivial ?_⟩
  show Code.wpIn _ n _ (Code.region 2 _ false) _ _ _
  refine wpIn_region_lit ?_
  refine opW (roundF l) rfl (by intro c h; cases h) (al60 _ _ rfl _) ?_
  simp only [Act.put, List.setIfInBounds_toArray, List.set_cons_succ, List.set_cons_zero]
  have C3 := C.alloc (Rw.fresh I.zero).V.cells.toList 60
  obtain ⟨w4, hr4, C4⟩ := C3.stAll (P := Try.prog) (t := 60) x.V (by kernel_rfl) (by rfl) (by rfl)
  refine opU (roundF l) rfl (by intro c h; cases h) (ex_store rfl hr4) ?_
  simp only [Act.put, List.setIfInBounds_toArray, List.set_cons_succ, List.set_cons_zero]
  refine wpListIn_nil ?_
  simp only [Exit.then]
  generalize w.heap.size = t5 at *
  have C5 := C4.pm [1, 0, 2, 3] rfl
  have hL5 := C5.objAt.1
  refine ⟨_, run_beginRound (P := Try.prog) hL5 rfl, ?_⟩
  obtain ⟨-, C6⟩ := C5.objTurn (o' := .loop (apR fn sv B D .busy))
  generalize hw6 : w4.putObj l _ = w6
  have e6 : w6 = { w4 with heap := w4.heap.setIfInBounds l (.loop (apR fn sv B D .busy)) } := by rw [← hw6]; rfl
  rw [← e6] at C6
  clear e6 hw6
  replace C6 := C6.pm [3, 1, 0, 2] rfl
  obtain ⟨v, C6⟩ := C6.ex
  replace C6 := C6.all
  show Code.wpIn _ n _ (Code.block 1 (Code.region 3 _ false)) _ _ _
  refine wpIn_block (wpIn_region_lit ?_)
  refine opW (roundF l) rfl (by intro c h; cases h) (ex_load rfl (C6.ldOne (t := 56) (by kernel_rfl) (by kernel_rfl))) ?_
  simp only [Act.put, List.setIfInBounds_toArray, List.set_cons_succ, List.set_cons_zero]
  replace C6 := C6.pm [2, 0, 1, 3, 4] rfl
  refine opW (roundF l) rfl (by intro c h; cases h) (ex_load rfl (C6.ldAgg (t := 60) (by kernel_rfl) (by kernel_rfl))) ?_
  simp only [Act.put, List.setIfInBounds_toArray, List.set_cons_succ, List.set_cons_zero]
  replace C6 := C6.drop
  refine opW (roundF l) rfl (by intro c h; cases h) (ex_buildSlice rfl rfl (bs60 x _)) ?_
  simp only [Act.put, List.setIfInBounds_toArray, List.set_cons_succ, List.set_cons_zero]
  have C7 := (C6.alloc (rC x) 60).pm [2, 0, 1, 3, 4] rfl
  have hs : Src (w6.alloc (.cells (rC x).toArray 60)) 13 (.slice (some ⟨w6.heap.size, 0, none⟩) 1 1) 1 (rC x) :=
    Src.some _ _ _ _ rfl (Ctx.blkCells (C7.pm [1, 0, 2, 3, 4] rfl) fun j v h => by simpa using h)
  obtain ⟨q, cap, w8, hr8, -, C8⟩ := C7.app (P := Try.prog) (t := 56) (t2 := 56) (bytes := 80) 56 (by kernel_rfl) hs (by omega) (List.all_eq_true.1 (show (rC x).all oneC = true from rfl))
  refine opW (roundF l) rfl (by intro c h; cases h) (ex_append rfl rfl rfl hr8) ?_
  simp only [Act.put, List.setIfInBounds_toArray, List.set_cons_succ, List.set_cons_zero]
  replace C8 := C8.pk [2, 0, 3, 4] [1] rfl
  obtain ⟨w9, hr9, C9⟩ := C8.stAll (P := Try.prog) (t := 56) (.slice q (ys.length + 1) cap) (by kernel_rfl) rfl rfl
  refine opU (roundF l) rfl (by intro c h; cases h) (ex_store rfl hr9) ?_
  simp only [Act.put, List.setIfInBounds_toArray, List.set_cons_succ, List.set_cons_zero]
  refine wpListIn_nil ?_
  simp only [Exit.inBlock]
  replace C9 := C9.pm [2, 0, 1, 3] rfl
  refine ⟨_, _, run_endRound (P := Try.prog) none C9.objAt.1, rfl, m, [], ?_⟩
  show Ctx F m w { w9 with heap := w9.heap.setIfInBounds l (.loop (apR fn sv B D .ready)) } [] m _
  obtain ⟨-, C10⟩ := C9.objTurn (o' := .loop (apR fn sv B D .ready))
  replace C10 : Ctx F m w { w9 with heap := w9.heap.setIfInBounds l (.loop (apR fn sv B D .ready)) } [] m ([blk B [.slice q (ys.length + 1) cap] 56, slA (.slice q (ys.length + 1) cap) (ys ++ [x]).length ((ys ++ [x]).flatMap rC) 60 13] ++ [objB l (.loop (apR fn sv B D .ready)), objB D (.deferred (some []))]) := by
    have := C10.pm [1, 2, 0, 3] rfl
    simpa [sel, nth, show (Value.slice q (ys.length + 1) cap).cells.toList = [.slice q (ys.length + 1) cap] from rfl] using this
  have C11 : Ctx F m w { w9 with heap := w9.heap.setIfInBounds l (.loop (apR fn sv B D .ready)) } [] m ((Asn.ex fun v : Value => Asn.all [blk B [v] 56, slA v (ys ++ [x]).length ((ys ++ [x]).flatMap rC) 60 13]) :: [objB l (.loop (apR fn sv B D .ready)), objB D (.deferred (some []))]) := Ctx.exI (.slice q (ys.length + 1) cap) (Ctx.allI C10)
  exact C11.pm [1, 2, 0] rfl
set_option maxHeartbeats 1000000 in
/-- slices.AppendSeq, against whatever iterator -/
theorem as58 (g : FuncId) (lb : Array Value) (Cs Ds : List Asn) (S : List Rw → Prop) (N : Nat) (hs : SeqC Try.prog g lb Rw.V Cs Ds S N) (hN : N * 100 ≤ 140737488355328) (eg : ∀ args w, (callFunc g args).run Try.prog w = .ok (.enter g args) w)
    (n : Nat) (F0 : List Nat) (m0 : Mem) (w0 w : World) (m : Mem) (As : List Asn) (C : Ctx F0 m0 w0 w [] m (Cs ++ As)) :
    CallsIn Fence.wide n Try.prog 58 #[.slice none 0 0, .func (.func g) #[] lb] w fun e w' => ∃ ys v m', S ys ∧ e = .returned v ∧ m.le m' ∧ Ctx F0 m0 w0 w' [] m' (slA v ys.length (ys.flatMap rC) 60 13 :: (Ds ++ As)) := by
  refine callsIn_of_wp_marks Try.func58 rfl trivial ?_ rfl
  simp only [Try.ntmps58, List.size_toArray, List.length_cons, List.length_nil, Nat.reduceAdd, Nat.reduceSub, Array.replicate_succ, Array.replicate_zero, List.push_toArray, List.append_toArray, List.nil_append, List.cons_append]
  refine wpIn_seq (wpIn_region_lit ?_)
  refine opW wideF rfl (by intro c h; cases h) (ex_box rfl rfl (bx56 (.slice none 0 0) rfl _)) ?_
  simp only [Act.put, List.setIfInBounds_toArray, List.set_cons_succ, List.set_cons_zero]
  have C1 := (C.alloc [.slice none 0 0] 56)
  generalize hB : w.heap.size = B at *
  generalize hw1 : w.alloc (Obj.cells #[Value.slice none 0 0] 56) = w1 at *
  refine opW (v := .slice none 0 0) wideF rfl (by intro c h; cases h) (ex_assignV rfl rfl) ?_
  simp only [Act.put, List.setIfInBounds_toArray, List.set_cons_succ, List.set_cons_zero]
  refine wpListIn_nil ?_
  simp only [Exit.then]
  refine wpIn_seq (wpIn_seq (wpIn_region_lit ?_))
  refine opW (v := .func (.func g) #[] lb) wideF rfl (by intro c h; cases h) (ex_moveV rfl rfl) ?_
  simp only [Act.put, List.setIfInBounds_toArray, List.set_cons_succ, List.set_cons_zero]
  refine wpListIn_nil ?_
  simp only [Exit.then]
  refine wpIn_block (wpIn_rangeFunc ?_)
  intro fn _
  have C2 := C1.newO (A := objB w1.heap.size (.deferred (some []))) (.deferred (some [])) ⟨rfl, World.alloc_heap_new _ _⟩
  generalize hD : w1.heap.size = D at *
  have C3 := C2.newO (A := objB (w1.alloc (.deferred (some []))).heap.size (.loop (apR fn (.func (.func g) #[] lb) B D .ready))) (.loop (apR fn (.func (.func g) #[] lb) B D .ready)) ⟨rfl, World.alloc_heap_new _ _⟩
  have hl : (w1.alloc (.deferred (some []))).heap.size = D + 1 := by rw [World.size_alloc, hD]
  rw [hl] at C3
  generalize hw3 : (w1.alloc (.deferred (some []))).alloc (.loop (apR fn (.func (.func g) #[] lb) B D .ready)) = w3 at *
  have hent : (Instr.enterLoop fn #[.slice none 0 0, .func (.func g) #[] lb, .pointer (some ⟨B, 0, none⟩), undef, .slice none 0 0, undef, .func (.func g) #[] lb, undef, undef, undef, undef, undef, undef] #[7] apA apB none).run Try.prog w1 = .ok (D + 1, [{ target := .collected D, args := #[] }]) w3 := by
    rw [run_enterLoop_outer, ← hw3, ← hD]; rfl
  refine ⟨D + 1, [{ target := .collected D, args := #[] }], w3, { target := .fn (.func g) lb, args := #[.func (.yield (D + 1)) #[] #[]] }, w3, g, #[.func (.yield (D + 1)) #[] #[]] ++ lb, w3, hent, ?_, fun _ _ => trivial, ?_, fun h => absurd h (by decide), ?_⟩
  · simp [Go.resolve, Deferred.ofValue, go_sem]
  · simp [invoke, eg]
  · have C4 : Ctx F0 m0 w0 w3 [] m (Cs ++ (apJ fn (.func (.func g) #[] lb) B D (D + 1) [] ++ As)) := by
      have C3a : Ctx F0 m0 w0 w3 [] m ([blk B [.slice none 0 0] 56, slA (.slice none 0 0) 0 [] 60 13] ++ ([objB (D + 1) (.loop (apR fn (.func (.func g) #[] lb) B D .ready)), objB D (.deferred (some []))] ++ (Cs ++ As))) := (Ctx.slNil (q := none) (ty := 60) (sz := 13) C3.third).swap
      have C3b := Ctx.exI (f := fun v : Value => Asn.all [blk B [v] 56, slA v 0 [] 60 13]) (.slice none 0 0) (Ctx.allI C3a)
      have C3c : Ctx F0 m0 w0 w3 [] m (apJ fn (.func (.func g) #[] lb) B D (D + 1) [] ++ (Cs ++ As)) := C3b.perm (List.Perm.append_right (Cs ++ As) (List.perm_append_comm (l₁ := [_]) (l₂ := [_, _])))
      exact C3c.perm (List.perm_append_comm_assoc _ Cs As)
    refine (hs (n - 1) (D + 1) (apJ fn (.func (.func g) #[] lb) B D (D + 1)) (fun ys x hlt => apY fn _ B D (D + 1) N hN ys x hlt) F0 m0 w0 w3 m As C4).mono ?_
    rintro e w5 ⟨⟨v, rfl⟩, ys, m', hS, hm, C5⟩
    replace C5 := C5.perm (List.perm_append_comm_assoc Ds _ As)
    refine ⟨none, _, run_endLoop (P := Try.prog) C5.objAt.1 (by simp [apR]), ?_⟩
    obtain ⟨-, C6⟩ := C5.objTurn (o' := .loop { apR fn (.func (.func g) #[] lb) B D .ready with state := .exhausted })
    replace C6 : Ctx F0 m0 w0 _ [] m' (objB (D + 1) _ :: objB D _ :: (Asn.ex fun v : Value => Asn.all [blk B [v] 56, slA v ys.length (ys.flatMap rC) 60 13]) :: (Ds ++ As)) := C6
    obtain ⟨v, C7⟩ := C6.drop.swap.ex
    replace C7 := C7.all
    simp only [Exit.inBlock, Exit.then]
    refine wpIn_seq (wpIn_region_lit ?_)
    refine opW (v := v) wideF rfl (by intro c h; cases h) (ex_load rfl (C7.ldOne (t := 56) (by kernel_rfl) (by kernel_rfl))) ?_
    simp only [Act.put, List.setIfInBounds_toArray, List.set_cons_succ, List.set_cons_zero]
    refine opW (v := v) wideF rfl (by intro c h; cases h) (ex_assignV rfl rfl) ?_
    simp only [Act.put, List.setIfInBounds_toArray, List.set_cons_succ, List.set_cons_zero]
    refine wpListIn_nil ?_
    simp only [Exit.then]
    refine wpIn_ret ?_
    have C8 := C7.drop.swap
    obtain ⟨-, C9⟩ := C8.objTurn (o' := .deferred none)
    refine ⟨by simp, .inl ⟨_, _, rfl, run_takeDeferred C8.objAt.1, ?_⟩⟩
    exact ⟨_, results_tmp rfl _ _ _, ys, v, m', hS, rfl, hm, C9.drop⟩
end Go.Proofs
namespace Go.Proofs
open Go X RowKit
theorem enters {f : FuncId} {fn : Func} {c : Code} (hf : Try.prog.funcs[f]? = some fn) (hname : (fn.name == "runtime.NumGoroutine") = false) (hb : fn.body = some c) (args : Array Value) (w : World) : (callFunc f args).run Try.prog w = .ok (.enter f args) w := by
  have h1 : fn.name ≠ "runtime.NumGoroutine" := by simpa using hname
  simp [callFunc, hf, h1, hb]
theorem mk59 {o : Oper} {ρ : Operand → Value} {w : World} {x : Operand} {a : Value} (ho : o.op = .makeFunc (.func 59) #[] #[x]) (hx : ρ x = a) : (execOp ρ o).run Try.prog w = .ok (.value (.func (.func 59) #[] #[a])) w := by
  subst hx
  simp [execOp, ho, Instr.makeFunc, Sem.run_bind]
theorem e59 : ∀ args w, (callFunc 59 args).run Try.prog w = .ok (.enter 59 args) w := fun args w => enters Try.func59 (by kernel_rfl) rfl args w
theorem e58 : ∀ args w, (callFunc 58 args).run Try.prog w = .ok (.enter 58 args) w := fun args w => enters Try.func58 (by kernel_rfl) rfl args w
theorem bx84 (b : Nat) (w : World) : (Instr.box 84 (.map (some b))).run Try.prog w = .ok (.pointer (some ⟨w.heap.size, 0, none⟩)) (w.alloc (.cells #[.map (some b)] 84)) := nev_run (by kernel_rfl)
/-- maps.Values -/
theorem c_Values (b : Nat) : Ctr Try.prog 43 #[.map (some b)] noMem [] (fun Bm : Nat => .func (.func 59) #[] #[.pointer (some ⟨Bm, 0, none⟩)]) (fun _ _ => True) (fun Bm => [blk Bm [.map (some b)] 84]) := by
  refine Ctr.mk fun w F m C _ => (callsIn_wide (n := 0)).1 ?_
  refine callsIn_of_wp Try.func43 rfl trivial ?_ rfl
  simp only [Try.ntmps43, List.size_toArray, List.length_cons, List.length_nil, Nat.reduceAdd, Nat.reduceSub, Array.replicate_succ, Array.replicate_zero, List.push_toArray, List.append_toArray, List.nil_append, List.cons_append]
  refine wpIn_seq (wpIn_region_lit ?_)
  refine opW wideF rfl (by intro c h; cases h) (ex_box rfl rfl (bx84 b _)) ?_
  simp only [Act.put, List.setIfInBounds_toArray, List.set_cons_succ, List.set_cons_zero]
  have C1 := C.alloc [.map (some b)] 84
  refine opW (v := .nilFunc) wideF rfl (by intro c h; cases h) (ex_assignV rfl rfl) ?_
  simp only [Act.put, List.setIfInBounds_toArray, List.set_cons_succ, List.set_cons_zero]
  refine wpListIn_nil ?_
  simp only [Exit.then]
  refine wpIn_seq (wpIn_region_lit ?_)
  refine opW (v := .func (.func 59) #[] #[.pointer (some ⟨w.heap.size, 0, none⟩)]) wideF rfl (by intro c h; cases h) (mk59 rfl rfl) ?_
  simp only [Act.put, List.setIfInBounds_toArray, List.set_cons_succ, List.set_cons_zero]
  refine opW (v := .func (.func 59) #[] #[.pointer (some ⟨w.heap.size, 0, none⟩)]) wideF rfl (by intro c h; cases h) (ex_assignV rfl rfl) ?_
  simp only [Act.put, List.setIfInBounds_toArray, List.set_cons_succ, List.set_cons_zero]
  refine wpListIn_nil ?_
  simp only [Exit.then]
  refine wpIn_ret ?_
  exact ⟨rfl, _, results_tmp rfl _ _ _, w.heap.size, m, [], rfl, trivial, C1⟩
/-- slices.Collect of a table's values -/
theorem c_Collect (Bm b : Nat) (l : List (I × Rw)) (hl : l.length * 100 ≤ 140737488355328) :
    Ctr Try.prog 42 #[.func (.func 59) #[] #[.pointer (some ⟨Bm, 0, none⟩)]] noMem [blk Bm [.map (some b)] 84, rwA b l] (fun i : Value × List (I × Rw) => i.1) (fun i _ => i.2.Perm l)
      (fun i => [slA i.1 i.2.length ((i.2.map Prod.snd).flatMap rC) 60 13, rwA b l]) := by
  refine Ctr.mk fun w F m C _ => (callsIn_wide (n := 9)).1 ?_
  refine callsIn_of_wp Try.func42 rfl trivial ?_ rfl
  simp only [Try.ntmps42, List.size_toArray, List.length_cons, List.length_nil, Nat.reduceAdd, Nat.reduceSub, Array.replicate_succ, Array.replicate_zero, List.push_toArray, List.append_toArray, List.nil_append, List.cons_append]
  refine wpIn_seq (wpIn_region_lit ?_)
  refine opW (v := .slice none 0 0) wideF rfl (by intro c h; cases h) (ex_assignV rfl rfl) ?_
  simp only [Act.put, List.setIfInBounds_toArray, List.set_cons_succ, List.set_cons_zero]
  refine wpListIn_nil ?_
  simp only [Exit.then]
  refine wpIn_seq (wpIn_region_lit ?_)
  refine opW (v := .func (.func 59) #[] #[.pointer (some ⟨Bm, 0, none⟩)]) wideF rfl (by intro c h; cases h) (ex_moveV rfl rfl) ?_
  simp only [Act.put, List.setIfInBounds_toArray, List.set_cons_succ, List.set_cons_zero]
  obtain ⟨zs, clock, hzs, hnd, C1⟩ := Ctx.mapZI C.swap
  subst hzs
  have C2 : Ctx F m w w [] m ([blk Bm [.map (some b)] 84, mapZ b I.V Rw.V zs clock] ++ []) := C1.swap
  refine opC (f := 58) (args := #[.slice none 0 0, .func (.func 59) #[] #[.pointer (some ⟨Bm, 0, none⟩)]]) wideF rfl rfl (by intro c h; cases h) ?_ ((as58 59 _ _ _ _ _ (it59 Bm b zs clock hnd) (by simpa using hl) e59 8 F m w w m [] C2).mono ?_)
  · simp [execOp, Go.resolve, Deferred.ofValue, invoke, Act.eval, Sem.run_bind, e58]
  rintro e w' ⟨ys, v, m', ⟨ps, rfl, hp⟩, rfl, hm, C3⟩
  refine ⟨v, rfl, ?_⟩
  simp only [Act.put, List.setIfInBounds_toArray, List.set_cons_succ, List.set_cons_zero]
  refine opW (v := v) wideF rfl (by intro c h; cases h) (ex_assignV rfl rfl) ?_
  simp only [Act.put, List.setIfInBounds_toArray, List.set_cons_succ, List.set_cons_zero]
  refine wpListIn_nil ?_
  simp only [Exit.then]
  refine wpIn_ret ?_
  refine ⟨rfl, _, results_tmp rfl _ _ _, (v, ps), m', [], rfl, hp, ?_⟩
  have C4 := (C3.pk [0, 2] [1] rfl).swap.mapZA.swap
  simpa [sel, nth] using C4
end Go.Proofs
