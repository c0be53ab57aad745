import Derived.Test.YtfbjellaijdgbaaDoorU06i
set_option linter.unusedVariables false
set_option linter.unusedSimpArgs false
set_option maxRecDepth 10000
namespace Go.Proofs
open Go X RowKit
noncomputable def qm2 : Code := sq1 (sq1 (sq2 (sq2 (Tryd.f15.body.getD .skip))))
noncomputable def qm4 : Code := sq1 (sq2 (sq2 (sq2 (Tryd.f15.body.getD .skip))))
set_option maxHeartbeats 1000000 in
theorem reg2 (n : Nat) (Q : Exit → Act → World → Prop) (F0 : List Nat) (m0 : Mem) (w0 w : World) (m : Mem) (As : List Asn) (v : Vw) (gq : Sl) (got : List Pr) (zb B : Nat)
    (C : Ctx F0 m0 w0 w [] m (vwB zb v :: As))
    (h : ∀ z zv zs w5 m5, m.le m5 → Ctx F0 m0 w0 w5 [] m5 ([sdB zs 39 #[.pointer (some ⟨z, 0, none⟩)], vwB zv v] ++ ([blk z [slV gq got.length] 28] ++ (vwB zb v :: As))) → Q .normal ⟨qmT v (slV gq got.length) zb B z zv zs, []⟩ w5) :
    Code.wpIn Fence.wide n Tryd.prog qm2 Q ⟨#[.agg v.row.toArray, slV gq got.length, .pointer (some ⟨zb, 0, none⟩), undef, .bool false, .pointer (some ⟨B, 0, none⟩), undef, undef, undef, undef, undef, undef, undef, undef, undef, undef, undef], []⟩ w := by
  show Code.wpIn _ n _ (Code.region 2 _ true) _ _ _
  refine wpIn_region_any (by kernel_rfl) ?_
  have D : Ctx F0 m0 w0 w.drew [] m (vwB zb v :: As) := C.drew
  have hld : ∀ {w5 : World} {m5 : Mem} {As5 : List Asn}, Ctx F0 m0 w0 w5 [] m5 (vwB zb v :: As5) → (Instr.loadAt 30 (.pointer (some ⟨zb, 0, none⟩))).run Tryd.prog w5 = .ok (.agg v.row.toArray) w5 := fun E => E.ldAgg (t := 30) (by kernel_rfl) (by kernel_rfl)
  refine wpAnyIn_ready (rs := [0, 1]) (by kernel_rfl) (by simp) ?_
  refine anyV wideF rfl rfl rfl (by intro c h; cases h) (ex_loadV rfl rfl (hld D)) ?_ (anyV (v := slV gq got.length) wideF rfl rfl rfl (by intro c h; cases h) (ex_moveV rfl rfl) ?_ AllReadyIn.nil)
  · simp only [Act.put, List.setIfInBounds_toArray, List.set_cons_succ, List.set_cons_zero]
    refine wpAnyIn_ready (rs := [1]) (by kernel_rfl) (by simp) ?_
    refine anyV (v := slV gq got.length) wideF rfl rfl rfl (by intro c h; cases h) (ex_moveV rfl rfl) ?_ AllReadyIn.nil
    simp only [Act.put, List.setIfInBounds_toArray, List.set_cons_succ, List.set_cons_zero]
    refine wpAnyIn_ready (rs := [2]) (by kernel_rfl) (by simp) ?_
    refine anyC (f := 21) (args := #[slV gq got.length]) wideF rfl rfl rfl rfl (by intro c h; cases h) (ex_call rfl rfl (by simp [Act.eval]) (e21 _ _)) (callsIn_wide.2 ((c_among gq got).call (Cs := []) D trivial fun z m5 w5 hk5 hm5 _ C5 => ?_).h) AllReadyIn.nil
    refine ⟨_, rfl, ?_⟩
    simp only [Act.put, List.setIfInBounds_toArray, List.set_cons_succ, List.set_cons_zero]
    refine wpAnyIn_ready (rs := [3]) (by kernel_rfl) (by simp) ?_
    refine anyC (f := 23) (args := #[.agg v.row.toArray, .func (.func 39) #[] #[.pointer (some ⟨z, 0, none⟩)]]) wideF rfl rfl rfl rfl (by intro c h; cases h) (ex_call rfl rfl (by simp [Act.eval]) (e23 _ _)) (callsIn_wide.2 ((c_which v 39 #[.pointer (some ⟨z, 0, none⟩)]).call (Cs := []) C5 trivial fun zz m6 w6 hk6 hm6 _ C6 => ?_).h) AllReadyIn.nil
    refine ⟨_, rfl, ?_⟩
    simp only [Act.put, List.setIfInBounds_toArray, List.set_cons_succ, List.set_cons_zero]
    refine wpAnyIn_done (by kernel_rfl) ?_ _
    exact h z zz.1 zz.2 w6 m6 (hm5.le_trans hm6) C6
  · simp only [Act.put, List.setIfInBounds_toArray, List.set_cons_succ, List.set_cons_zero]
    refine wpAnyIn_ready (rs := [0, 2]) (by kernel_rfl) (by simp) ?_
    refine anyV wideF rfl rfl rfl (by intro c h; cases h) (ex_loadV rfl rfl (hld D)) ?_ (anyC (f := 21) (args := #[slV gq got.length]) wideF rfl rfl rfl rfl (by intro c h; cases h) (ex_call rfl rfl (by simp [Act.eval]) (e21 _ _)) (callsIn_wide.2 ((c_among gq got).call (Cs := []) D trivial fun z m5 w5 hk5 hm5 _ C5 => ?_).h) AllReadyIn.nil)
    · simp only [Act.put, List.setIfInBounds_toArray, List.set_cons_succ, List.set_cons_zero]
      refine wpAnyIn_ready (rs := [2]) (by kernel_rfl) (by simp) ?_
      refine anyC (f := 21) (args := #[slV gq got.length]) wideF rfl rfl rfl rfl (by intro c h; cases h) (ex_call rfl rfl (by simp [Act.eval]) (e21 _ _)) (callsIn_wide.2 ((c_among gq got).call (Cs := []) D trivial fun z m5 w5 hk5 hm5 _ C5 => ?_).h) AllReadyIn.nil
      refine ⟨_, rfl, ?_⟩
      simp only [Act.put, List.setIfInBounds_toArray, List.set_cons_succ, List.set_cons_zero]
      refine wpAnyIn_ready (rs := [3]) (by kernel_rfl) (by simp) ?_
      refine anyC (f := 23) (args := #[.agg v.row.toArray, .func (.func 39) #[] #[.pointer (some ⟨z, 0, none⟩)]]) wideF rfl rfl rfl rfl (by intro c h; cases h) (ex_call rfl rfl (by simp [Act.eval]) (e23 _ _)) (callsIn_wide.2 ((c_which v 39 #[.pointer (some ⟨z, 0, none⟩)]).call (Cs := []) C5 trivial fun zz m6 w6 hk6 hm6 _ C6 => ?_).h) AllReadyIn.nil
      refine ⟨_, rfl, ?_⟩
      simp only [Act.put, List.setIfInBounds_toArray, List.set_cons_succ, List.set_cons_zero]
      refine wpAnyIn_done (by kernel_rfl) ?_ _
      exact h z zz.1 zz.2 w6 m6 (hm5.le_trans hm6) C6
    · refine ⟨_, rfl, ?_⟩
      simp only [Act.put, List.setIfInBounds_toArray, List.set_cons_succ, List.set_cons_zero]
      refine wpAnyIn_ready (rs := [0]) (by kernel_rfl) (by simp) ?_
      refine anyV wideF rfl rfl rfl (by intro c h; cases h) (ex_loadV rfl rfl (hld C5.swap)) ?_ AllReadyIn.nil
      simp only [Act.put, List.setIfInBounds_toArray, List.set_cons_succ, List.set_cons_zero]
      refine wpAnyIn_ready (rs := [3]) (by kernel_rfl) (by simp) ?_
      refine anyC (f := 23) (args := #[.agg v.row.toArray, .func (.func 39) #[] #[.pointer (some ⟨z, 0, none⟩)]]) wideF rfl rfl rfl rfl (by intro c h; cases h) (ex_call rfl rfl (by simp [Act.eval]) (e23 _ _)) (callsIn_wide.2 ((c_which v 39 #[.pointer (some ⟨z, 0, none⟩)]).call (Cs := []) C5 trivial fun zz m6 w6 hk6 hm6 _ C6 => ?_).h) AllReadyIn.nil
      refine ⟨_, rfl, ?_⟩
      simp only [Act.put, List.setIfInBounds_toArray, List.set_cons_succ, List.set_cons_zero]
      refine wpAnyIn_done (by kernel_rfl) ?_ _
      exact h z zz.1 zz.2 w6 m6 (hm5.le_trans hm6) C6
theorem geq3 (a b : Int) (w : World) : (do eqGuard .geq 3 (.tmp 13) (.tmp 15) (.int .i64 a) (.int .i64 b); binOp .geq 3 (.int .i64 a) (.int .i64 b) : Sem Value).run Tryd.prog w = .ok (.bool (decide (a ≥ b))) w := pev_run (by kernel_rfl) w
set_option maxHeartbeats 1000000 in
theorem reg4 (n : Nat) (Q : Exit → Act → World → Prop) (F0 : List Nat) (m0 : Mem) (w0 w : World) (m : Mem) (As : List Asn) (v : Vw) (hl : v.ms.length ≤ 1000000) (zb B : Nat) (k : Int) (ds : List Deferred)
    (t0 t1 t3 t4 t6 t7 t8 t9 t10 t11 t12 t13 t14 t15 t16 : Value)
    (C : Ctx F0 m0 w0 w [] m (blk B [.int .i64 k] 3 :: vwB zb v :: As))
    (h : ∀ w5 t13 t14 t15 t16, Ctx F0 m0 w0 w5 [] m (blk B [.int .i64 k] 3 :: vwB zb v :: As) → Q .normal ⟨#[t0, t1, .pointer (some ⟨zb, 0, none⟩), t3, .bool (decide (k ≥ v.maj)), .pointer (some ⟨B, 0, none⟩), t6, t7, t8, t9, t10, t11, t12, t13, t14, t15, t16], ds⟩ w5) :
    Code.wpIn Fence.wide n Tryd.prog qm4 Q ⟨#[t0, t1, .pointer (some ⟨zb, 0, none⟩), t3, t4, .pointer (some ⟨B, 0, none⟩), t6, t7, t8, t9, t10, t11, t12, t13, t14, t15, t16], ds⟩ w := by
  show Code.wpIn _ n _ (Code.region 4 _ true) _ _ _
  refine wpIn_region_any (by kernel_rfl) ?_
  have D : Ctx F0 m0 w0 w.drew [] m (blk B [.int .i64 k] 3 :: vwB zb v :: As) := C.drew
  have hn : ∀ {w5 : World}, Ctx F0 m0 w0 w5 [] m (blk B [.int .i64 k] 3 :: vwB zb v :: As) → (Instr.loadAt 3 (.pointer (some ⟨B, 0, none⟩))).run Tryd.prog w5 = .ok (.int .i64 k) w5 := fun E => E.ldOne (t := 3) (by kernel_rfl) (by kernel_rfl)
  have hv : ∀ {w5 : World}, Ctx F0 m0 w0 w5 [] m (blk B [.int .i64 k] 3 :: vwB zb v :: As) → (Instr.loadAt 30 (.pointer (some ⟨zb, 0, none⟩))).run Tryd.prog w5 = .ok (.agg v.row.toArray) w5 := fun E => E.swap.ldAgg (t := 30) (by kernel_rfl) (by kernel_rfl)
  refine wpAnyIn_ready (rs := [0, 1]) (by kernel_rfl) (by simp) ?_
  refine anyV wideF rfl rfl rfl (by intro c h; cases h) (ex_loadV rfl rfl (hn D)) ?_ (anyV wideF rfl rfl rfl (by intro c h; cases h) (ex_loadV rfl rfl (hv D)) ?_ AllReadyIn.nil)
  · simp only [Act.put, List.setIfInBounds_toArray, List.set_cons_succ, List.set_cons_zero]
    refine wpAnyIn_ready (rs := [1]) (by kernel_rfl) (by simp) ?_
    refine anyV wideF rfl rfl rfl (by intro c h; cases h) (ex_loadV rfl rfl (hv D)) ?_ AllReadyIn.nil
    simp only [Act.put, List.setIfInBounds_toArray, List.set_cons_succ, List.set_cons_zero]
    refine wpAnyIn_ready (rs := [2]) (by kernel_rfl) (by simp) ?_
    refine anyC (f := 20) (args := #[.agg v.row.toArray]) wideF rfl rfl rfl rfl (by intro c h; cases h) (ex_call rfl rfl (by simp [Act.eval]) (e20 _ _)) (callsIn_wide.2 (D.gives (c_Majority v hl) fun w5 k5 D => ?_).h)  AllReadyIn.nil
    refine ⟨_, rfl, ?_⟩
    simp only [Act.put, List.setIfInBounds_toArray, List.set_cons_succ, List.set_cons_zero]
    refine wpAnyIn_ready (rs := [3]) (by kernel_rfl) (by simp) ?_
    refine anyV wideF rfl rfl rfl (by intro c h; cases h) (ex_binOp rfl rfl rfl (geq3 k v.maj _)) ?_ AllReadyIn.nil
    simp only [Act.put, List.setIfInBounds_toArray, List.set_cons_succ, List.set_cons_zero]
    refine wpAnyIn_ready (rs := [4]) (by kernel_rfl) (by simp) ?_
    refine anyV (v := .bool (decide (k ≥ v.maj))) wideF rfl rfl rfl (by intro c h; cases h) (ex_assignV rfl rfl) ?_ AllReadyIn.nil
    simp only [Act.put, List.setIfInBounds_toArray, List.set_cons_succ, List.set_cons_zero]
    refine wpAnyIn_done (by kernel_rfl) ?_ _
    exact h _ _ _ _ _ D
  · simp only [Act.put, List.setIfInBounds_toArray, List.set_cons_succ, List.set_cons_zero]
    refine wpAnyIn_ready (rs := [0, 2]) (by kernel_rfl) (by simp) ?_
    refine anyV wideF rfl rfl rfl (by intro c h; cases h) (ex_loadV rfl rfl (hn D)) ?_ (anyC (f := 20) (args := #[.agg v.row.toArray]) wideF rfl rfl rfl rfl (by intro c h; cases h) (ex_call rfl rfl (by simp [Act.eval]) (e20 _ _)) (callsIn_wide.2 (D.gives (c_Majority v hl) fun w5 k5 D => ?_).h)  AllReadyIn.nil)
    · simp only [Act.put, List.setIfInBounds_toArray, List.set_cons_succ, List.set_cons_zero]
      refine wpAnyIn_ready (rs := [2]) (by kernel_rfl) (by simp) ?_
      refine anyC (f := 20) (args := #[.agg v.row.toArray]) wideF rfl rfl rfl rfl (by intro c h; cases h) (ex_call rfl rfl (by simp [Act.eval]) (e20 _ _)) (callsIn_wide.2 (D.gives (c_Majority v hl) fun w5 k5 D => ?_).h)  AllReadyIn.nil
      refine ⟨_, rfl, ?_⟩
      simp only [Act.put, List.setIfInBounds_toArray, List.set_cons_succ, List.set_cons_zero]
      refine wpAnyIn_ready (rs := [3]) (by kernel_rfl) (by simp) ?_
      refine anyV wideF rfl rfl rfl (by intro c h; cases h) (ex_binOp rfl rfl rfl (geq3 k v.maj _)) ?_ AllReadyIn.nil
      simp only [Act.put, List.setIfInBounds_toArray, List.set_cons_succ, List.set_cons_zero]
      refine wpAnyIn_ready (rs := [4]) (by kernel_rfl) (by simp) ?_
      refine anyV (v := .bool (decide (k ≥ v.maj))) wideF rfl rfl rfl (by intro c h; cases h) (ex_assignV rfl rfl) ?_ AllReadyIn.nil
      simp only [Act.put, List.setIfInBounds_toArray, List.set_cons_succ, List.set_cons_zero]
      refine wpAnyIn_done (by kernel_rfl) ?_ _
      exact h _ _ _ _ _ D
    · refine ⟨_, rfl, ?_⟩
      simp only [Act.put, List.setIfInBounds_toArray, List.set_cons_succ, List.set_cons_zero]
      refine wpAnyIn_ready (rs := [0]) (by kernel_rfl) (by simp) ?_
      refine anyV wideF rfl rfl rfl (by intro c h; cases h) (ex_loadV rfl rfl (hn D)) ?_ AllReadyIn.nil
      simp only [Act.put, List.setIfInBounds_toArray, List.set_cons_succ, List.set_cons_zero]
      refine wpAnyIn_ready (rs := [3]) (by kernel_rfl) (by simp) ?_
      refine anyV wideF rfl rfl rfl (by intro c h; cases h) (ex_binOp rfl rfl rfl (geq3 k v.maj _)) ?_ AllReadyIn.nil
      simp only [Act.put, List.setIfInBounds_toArray, List.set_cons_succ, List.set_cons_zero]
      refine wpAnyIn_ready (rs := [4]) (by kernel_rfl) (by simp) ?_
      refine anyV (v := .bool (decide (k ≥ v.maj))) wideF rfl rfl rfl (by intro c h; cases h) (ex_assignV rfl rfl) ?_ AllReadyIn.nil
      simp only [Act.put, List.setIfInBounds_toArray, List.set_cons_succ, List.set_cons_zero]
      refine wpAnyIn_done (by kernel_rfl) ?_ _
      exact h _ _ _ _ _ D
theorem bx30 (v : Vw) (w : World) : (Instr.box 30 (.agg v.row.toArray)).run Tryd.prog w = .ok (.pointer (some ⟨w.heap.size, 0, none⟩)) (w.alloc (.cells v.row.toArray 30)) := nev_run (by kernel_rfl)
theorem al3 (ρ : Operand → Value) (o : Oper) (ho : o.op = .alloc 3) (w : World) :
    (execOp ρ o).run Tryd.prog w = .ok (.value (.pointer (some ⟨w.heap.size, 0, none⟩))) (w.alloc (.cells #[.int .i64 0] 3)) := by
  have h : (Instr.alloc 3 true (.tuple #[])).run Tryd.prog w = .ok (.pointer (some ⟨w.heap.size, 0, none⟩)) (w.alloc (.cells #[.int .i64 0] 3)) := nev_run (by kernel_rfl)
  simp only [execOp, ho, Sem.run_bind, h]
  rfl
set_option maxHeartbeats 2000000 in
theorem c_Quorum (v : Vw) (hl : v.ms.length ≤ 100000) (gq : Sl) (got : List Pr) (hg : got.length ≤ 1000000) : Ctr Tryd.prog 15 #[.agg v.row.toArray, slV gq got.length] (fun m => VwM m v ∧ PM gq got m) [] (fun b : Bool => .bool b) (fun b _ => b = decide ((cntM v.ms got : Int) ≥ v.maj)) (fun _ => []) := by
  refine Ctr.mk fun w F m C hp => (callsIn_wide (n := 0)).1 ?_
  refine callsIn_of_wp_marks Tryd.func15 rfl trivial ?_ rfl
  simp only [Tryd.ntmps15, List.size_toArray, List.length_cons, List.length_nil, Nat.reduceAdd, Nat.reduceSub, Array.replicate_succ, Array.replicate_zero, List.push_toArray, List.append_toArray, List.nil_append, List.cons_append]
  refine wpIn_seq (wpIn_region_lit ?_)
  refine opW wideF rfl (by intro c h; cases h) (ex_box rfl rfl (bx30 v _)) ?_
  simp only [Act.put, List.setIfInBounds_toArray, List.set_cons_succ, List.set_cons_zero]
  refine opW (v := .bool false) wideF rfl (by intro c h; cases h) (ex_assignV rfl rfl) ?_
  simp only [Act.put, List.setIfInBounds_toArray, List.set_cons_succ, List.set_cons_zero]
  refine wpListIn_nil ?_
  simp only [Exit.then]
  have C1 := C.alloc v.row 30
  generalize hzb : w.heap.size = zb at *
  generalize hw1 : w.alloc (.cells v.row.toArray 30) = w1 at *
  refine wpIn_seq (wpIn_region_lit ?_)
  refine opW wideF rfl (by intro c h; cases h) (al3 _ _ rfl _) ?_
  simp only [Act.put, List.setIfInBounds_toArray, List.set_cons_succ, List.set_cons_zero]
  have C2 := C1.alloc [.int .i64 0] 3
  generalize hB : w1.heap.size = B at *
  obtain ⟨w2, hr2, C3⟩ := C2.stAll (P := Tryd.prog) (t := 3) (.int .i64 0) (by kernel_rfl) rfl rfl
  refine opU wideF rfl (by intro c h; cases h) (ex_store rfl hr2) ?_
  simp only [Act.put, List.setIfInBounds_toArray, List.set_cons_succ, List.set_cons_zero]
  refine wpListIn_nil ?_
  simp only [Exit.then]
  refine wpIn_seq (wpIn_seq (reg2 _ _ F m w w2 m [blk B [.int .i64 0] 3] v gq got zb B C3.swap ?_))
  intro z zv zs w5 m5 hm5 C5
  simp only [Exit.then]
  refine wpIn_block (wpIn_rangeFunc ?_)
  intro fn _
  have C6 : Ctx F m w w5 [] m5 (itA zv zs v 39 #[.pointer (some ⟨z, 0, none⟩)] [blk z [slV gq got.length] 28] ++ ([blk B [.int .i64 0] 3] ++ [vwB zb v])) := C5.perm ((List.Perm.swap _ _ _).trans (((List.perm_append_comm (l₁ := [vwB zb v]) (l₂ := [blk B [.int .i64 0] 3])).cons _).cons _ |>.cons _))
  have C7 := C6.newO (A := objB w5.heap.size (.deferred (some []))) (.deferred (some [])) ⟨rfl, World.alloc_heap_new _ _⟩
  generalize hD : w5.heap.size = D at *
  generalize htm : qmT v (slV gq got.length) zb B z zv zs = tm at *
  have C8 := C7.newO (A := objB (w5.alloc (.deferred (some []))).heap.size (.loop (qmR fn tm D .ready))) (.loop (qmR fn tm D .ready)) ⟨rfl, World.alloc_heap_new _ _⟩
  have hll : (w5.alloc (.deferred (some []))).heap.size = D + 1 := by rw [World.size_alloc, hD]
  rw [hll] at C8
  generalize hw3 : (w5.alloc (.deferred (some []))).alloc (.loop (qmR fn tm D .ready)) = w3 at *
  have hent : (Instr.enterLoop fn tm #[10] qmA qmB none).run Tryd.prog w5 = .ok (D + 1, [{ target := .collected D, args := #[] }]) w3 := by
    rw [run_enterLoop_outer, ← hw3, ← hD]; rfl
  refine ⟨D + 1, [{ target := .collected D, args := #[] }], w3, { target := .fn (.func 42) #[.pointer (some ⟨zv, 0, none⟩), .pointer (some ⟨zs, 0, none⟩)], args := #[.func (.yield (D + 1)) #[] #[]] }, w3, 42, #[.func (.yield (D + 1)) #[] #[]] ++ #[.pointer (some ⟨zv, 0, none⟩), .pointer (some ⟨zs, 0, none⟩)], w3, hent, ?_, fun _ _ => trivial, ?_, fun h => absurd h (by decide), ?_⟩
  · subst htm; simp [qmT, Go.resolve, Deferred.ofValue, go_sem]
  · simp [invoke, e42]
  · have C9 : Ctx F m w w3 [] m5 (itA zv zs v 39 #[.pointer (some ⟨z, 0, none⟩)] [blk z [slV gq got.length] 28] ++ (qmJ fn tm B D (D + 1) [] ++ [vwB zb v])) :=
      C8.perm (List.perm_append_comm_assoc [objB (D + 1) (.loop (qmR fn tm D .ready)), objB D (.deferred (some []))] (itA zv zs v 39 #[.pointer (some ⟨z, 0, none⟩)] [blk z [slV gq got.length] 28]) _)
    refine ((it42 zv zs v (by omega) 39 #[.pointer (some ⟨z, 0, none⟩)] (fun p => decide (p ∈ got)) (fun m => PM gq got m) (fun _ _ h hm => h.mono hm) [blk z [slV gq got.length] 28] (said39 z gq got hg)) (0 - 1) (D + 1) (qmJ fn tm B D (D + 1)) (fun ys x hlt => by subst htm; exact qmY fn v _ zb z zv zs B D (D + 1) ys x (by omega)) F m w w3 m5 [vwB zb v] ⟨MSrc.mono hp.1 hm5, hp.2.mono hm5⟩ C9).mono ?_
    rintro e w6 ⟨⟨x, rfl⟩, ys, m', rfl, hm, C10⟩
    replace C10 : Ctx F m w w6 [] m' (qmJ fn tm B D (D + 1) (v.ms.filter fun p => decide (p ∈ got)) ++ [vwB zb v]) := C10.drop.drop.drop
    refine ⟨none, _, run_endLoop (P := Tryd.prog) C10.objAt.1 (by simp [qmR]), ?_⟩
    obtain ⟨-, C11⟩ := C10.objTurn (o' := .loop { qmR fn tm D .ready with state := .exhausted })
    replace C11 := C11.drop
    have C12 : Ctx F m w _ [] m' (blk B [.int .i64 ((v.ms.filter fun p => decide (p ∈ got)).length : Int)] 3 :: vwB zb v :: [objB D (.deferred (some []))]) := C11.perm ((List.Perm.swap _ _ _).trans ((List.Perm.swap _ _ _).cons _))
    simp only [Exit.inBlock, Exit.then]
    subst htm
    refine wpIn_seq (reg4 _ _ F m w _ m' [objB D (.deferred (some []))] v (by omega) zb B _ _ _ _ _ _ _ _ _ _ _ _ _ _ _ _ _ C12 ?_)
    intro w7 t13 t14 t15 t16 C13
    simp only [Exit.then]
    refine wpIn_ret ?_
    have C14 : Ctx F m w w7 [] m' (objB D (.deferred (some [])) :: [blk B [.int .i64 ((v.ms.filter fun p => decide (p ∈ got)).length : Int)] 3, vwB zb v]) := C13.perm (List.perm_append_comm (l₁ := [_, _]) (l₂ := [_]))
    obtain ⟨-, C15⟩ := C14.objTurn (o' := .deferred none)
    refine ⟨by simp, .inl ⟨_, _, rfl, run_takeDeferred C14.objAt.1, ?_⟩⟩
    have ec : (cntM v.ms got : Int) = ((v.ms.filter fun p => decide (p ∈ got)).length : Int) := by rw [cntM, List.countP_eq_length_filter]
    exact ⟨_, results_tmp rfl _ _ _, _, m', [], rfl, by rw [ec], C15.drop.drop.drop⟩
end Go.Proofs
