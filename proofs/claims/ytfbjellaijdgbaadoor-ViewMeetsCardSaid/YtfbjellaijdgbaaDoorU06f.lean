import Derived.Test.YtfbjellaijdgbaaDoorU06e
import Derived.Test.YtfbjellaijdgbaaDoorXRange2
set_option linter.unusedVariables false
set_option linter.unusedSimpArgs false
set_option maxRecDepth 10000
namespace Go.Proofs
open Go X RowKit
theorem wideF : ∀ f, Fence.wide.fn f := fun _ => trivial
section
variable {F : Fence} {n : Nat} {P : Program} {ops : Array Oper} {Q : Exit → Act → World → Prop} {rest : List Oper} {o : Oper} {a : Act} {w w' : World} {v : Value}
theorem opWg (hF : ∀ f, F.fn f) (hg : Region.wanted o (yielded ops a.tmps) = true) (hd : ∀ c, o.op ≠ .defer c) (hr : (execOp a.eval o).run P w = .ok (.value v) w')
    (hK : wpListIn F n P ops Q rest (a.put o.dst v) w') : wpListIn F n P ops Q (o :: rest) a w := by
  refine wpListIn_step fun K' hK' => ?_
  rw [if_pos hg]
  unfold Oper.wpIn
  refine ⟨fun f _ => hF f, ?_⟩
  rw [Oper.semAt_plain F _ _ hd, hr]
  exact hK' _ _ hK
theorem opSk (hF : ∀ f, F.fn f) (hg : Region.wanted o (yielded ops a.tmps) = false) (hK : wpListIn F n P ops Q rest (a.put o.dst undef) w) : wpListIn F n P ops Q (o :: rest) a w := by
  refine wpListIn_step fun K' hK' => ?_
  rw [if_neg (by simp [hg])]
  exact ⟨fun f _ => hF f, hK' _ _ hK⟩
theorem opYg {l : Nat} {fn : FuncId} {tmps : Array Value} {assign body : Code} (hF : ∀ f, F.fn f) (hn : F.depth = none) (hg : Region.wanted o (yielded ops a.tmps) = true) (hd : ∀ c, o.op ≠ .defer c)
    (hr : (execOp a.eval o).run P w = .ok (.round l fn tmps assign body) w')
    (hR : RoundIn F (n - 1) P l fn tmps assign body w' fun e w'' => ∃ v, e = .returned v ∧ wpListIn F n P ops Q rest (a.put o.dst v) w'') : wpListIn F n P ops Q (o :: rest) a w := by
  refine wpListIn_step fun K' hK' => ?_
  rw [if_pos hg]
  unfold Oper.wpIn
  refine ⟨fun f _ => hF f, ?_⟩
  rw [Oper.semAt_plain F _ _ hd, hr]
  refine ⟨fun h => absurd h (by rw [hn]; decide), hR.mono fun e w'' h => ?_⟩
  obtain ⟨v, rfl, h⟩ := h
  exact hK' _ _ h
theorem ex_callL {ρ : Operand → Value} {f : FuncId} {xs : Array Operand} {ts : Array TypeId} {vs lb args : Array Value} {fo : Operand} (ho : o.op = .call { callee := .value fo, args := xs, argTypes := ts }) (hf : ρ fo = .func (.func f) #[] lb) (hx : xs.map ρ = vs) (ha : vs ++ lb = args)
    (h : (callFunc f args).run P w = .ok (.enter f args) w) : (execOp ρ o).run P w = .ok (.enter f args) w := by
  subst hx
  subst ha
  simp [execOp, ho, Sem.run_bind, Go.resolve, Deferred.ofValue, invoke, hf, h]
theorem ex_pick {ρ : Operand → Value} {c x y : Operand} {b : Bool} (ho : o.op = .pick c x y) (hc : ρ c = .bool b) (hv : (if b = true then ρ x else ρ y) = v) : (execOp ρ o).run P w = .ok (.value v) w := by
  subst hv
  cases b <;> simp [execOp, ho, Sem.run_bind, hc, asBool]
end
abbrev prV (p : Pr) : Value := .agg p.row.toArray
theorem al48 (ρ : Operand → Value) (o : Oper) (ho : o.op = .alloc 48) (w : World) :
    (execOp ρ o).run Tryd.prog w = .ok (.value (.pointer (some ⟨w.heap.size, 0, none⟩))) (w.alloc (.cells #[.int .u8 0, .int .u16 0] 48)) := by
  have h : (Instr.alloc 48 true (.tuple #[])).run Tryd.prog w = .ok (.pointer (some ⟨w.heap.size, 0, none⟩)) (w.alloc (.cells #[.int .u8 0, .int .u16 0] 48)) := nev_run (by kernel_rfl)
  simp only [execOp, ho, Sem.run_bind, h]
  rfl
theorem bx48 (p : Pr) (w : World) : (Instr.box 48 (prV p)).run Tryd.prog w = .ok (.pointer (some ⟨w.heap.size, 0, none⟩)) (w.alloc (.cells p.row.toArray 48)) := nev_run (by kernel_rfl)
theorem enters {f : FuncId} {fn : Func} {c : Code} (hf : Tryd.prog.funcs[f]? = some fn) (hname : (fn.name == "runtime.NumGoroutine") = false) (hb : fn.body = some c) (args : Array Value) (w : World) : (callFunc f args).run Tryd.prog w = .ok (.enter f args) w := by
  have h1 : fn.name ≠ "runtime.NumGoroutine" := by simpa using hname
  simp [callFunc, hf, h1, hb]
theorem e39 : ∀ args w, (callFunc 39 args).run Tryd.prog w = .ok (.enter 39 args) w := fun args w => enters Tryd.func39 (by kernel_rfl) rfl args w
theorem e24 : ∀ args w, (callFunc 24 args).run Tryd.prog w = .ok (.enter 24 args) w := fun args w => enters Tryd.func24 (by kernel_rfl) rfl args w
/-! ### what is said of somebody -/
abbrev PM (q : Sl) (l : List Pr) (m : Mem) : Prop := MSrc m 2 (slV q l.length) l.length (l.flatMap Pr.row)
theorem c_Contains (q : Sl) (l : List Pr) (p : Pr) (hl : l.length ≤ 1000000) : Ctr Tryd.prog 40 #[slV q l.length, prV p] (fun m => PM q l m) [] (fun _ : Unit => .bool (decide (p ∈ l))) (fun _ _ => True) (fun _ => []) := by
  refine Ctr.mk fun w F m C hp => x_Contains _ _ _ _ _ w _ fun w1 L2 h1 g1 => ?_
  refine (c_Index q l p hl).call (As := []) (C.hidL h1 g1) hp fun r m1 w4 hk hm hr C => ⟨_, rfl, hk, ?_⟩
  have e : decide (r ≥ 0) = decide (p ∈ l) := by
    by_cases h : p ∈ l
    · have : ¬ r < 0 := fun h2 => hr.1 h2 h
      rw [decide_eq_true h, decide_eq_true (by omega)]
    · have := hr.2 h
      rw [decide_eq_false h, decide_eq_false (by omega)]
  rw [e]
  exact Ctr.ret (m' := m1) () rfl trivial C
theorem c_among1 (z : Nat) (q : Sl) (l : List Pr) (p : Pr) (hl : l.length ≤ 1000000) : Ctr Tryd.prog 39 #[prV p, .pointer (some ⟨z, 0, none⟩)] (fun m => PM q l m) [blk z [slV q l.length] 28] (fun _ : Unit => .bool (decide (p ∈ l))) (fun _ _ => True) (fun _ => [blk z [slV q l.length] 28]) := by
  refine Ctr.mk fun w F m C hp => x_among1 _ _ _ w _ ⟨_, _, _, C.blkCell (j := 0) rfl, fun w4 L5 h4 g4 => ?_⟩
  refine (c_Contains q l p hl).call (As := [blk z [slV q l.length] 28]) (C.hidL h4 g4) hp fun _ m1 w7 hk hm _ C => ⟨_, rfl, hk, ?_⟩
  exact Ctr.ret (m' := m1) () rfl trivial C
/-- a function value that says something of each -/
structure SaidC (g : FuncId) (lb : Array Value) (said : Pr → Bool) (pre : Mem → Prop) (Ks : List Asn) : Prop where
  ent : ∀ args w, (callFunc g args).run Tryd.prog w = .ok (.enter g args) w
  say : ∀ p, Ctr Tryd.prog g (#[prV p] ++ lb) pre Ks (fun _ : Unit => .bool (said p)) (fun _ _ => True) (fun _ => Ks)
theorem said39 (z : Nat) (q : Sl) (l : List Pr) (hl : l.length ≤ 1000000) : SaidC 39 #[.pointer (some ⟨z, 0, none⟩)] (fun p => decide (p ∈ l)) (fun m => PM q l m) [blk z [slV q l.length] 28] :=
  ⟨e39, fun p => c_among1 z q l p hl⟩
set_option maxHeartbeats 2000000 in
theorem c_Next1 (z z2 : Nat) (q : Sl) (l : List Pr) (p : Pr) (hl : l.length ≤ 1000000) : Ctr Tryd.prog 24 #[prV p, .pointer (some ⟨z2, 0, none⟩)] (fun m => PM q l m) [blk z2 [.func (.func 39) #[] #[.pointer (some ⟨z, 0, none⟩)]] 52, blk z [slV q l.length] 28] (fun _ : Unit => .bool (!decide (p ∈ l))) (fun _ _ => True) (fun _ => [blk z2 [.func (.func 39) #[] #[.pointer (some ⟨z, 0, none⟩)]] 52, blk z [slV q l.length] 28]) := by
  refine Ctr.mk fun w F m C hp => (callsIn_wide (n := 0)).1 ?_
  refine callsIn_of_wp Tryd.func24 rfl trivial ?_ rfl
  simp only [Tryd.ntmps24, List.size_toArray, List.length_cons, List.length_nil, Nat.reduceAdd, Nat.reduceSub, Array.replicate_succ, Array.replicate_zero, List.push_toArray, List.append_toArray, List.nil_append, List.cons_append]
  refine wpIn_seq (wpIn_region_lit ?_)
  refine opW wideF rfl (by intro c h; cases h) (ex_box rfl rfl (bx48 p _)) ?_
  simp only [Act.put, List.setIfInBounds_toArray, List.set_cons_succ, List.set_cons_zero]
  refine opW (v := .bool false) wideF rfl (by intro c h; cases h) (ex_assignV rfl rfl) ?_
  simp only [Act.put, List.setIfInBounds_toArray, List.set_cons_succ, List.set_cons_zero]
  refine wpListIn_nil ?_
  simp only [Exit.then]
  have C1 := C.alloc p.row 48
  have C2 := C1.swap
  have hZ : (Instr.loadAt 52 (.pointer (some ⟨z2, 0, none⟩))).run Tryd.prog (w.alloc (.cells p.row.toArray 48)) = .ok (.func (.func 39) #[] #[.pointer (some ⟨z, 0, none⟩)]) _ := C2.ldOne (t := 52) (by kernel_rfl) (by kernel_rfl)
  have hP : (Instr.loadAt 48 (.pointer (some ⟨w.heap.size, 0, none⟩))).run Tryd.prog (w.alloc (.cells p.row.toArray 48)) = .ok (prV p) _ := C1.ldAgg (t := 48) (by kernel_rfl) (by kernel_rfl)
  refine wpIn_seq (wpIn_region_lit ?_)
  refine opW wideF rfl (by intro c h; cases h) (ex_loadV rfl rfl hZ) ?_
  simp only [Act.put, List.setIfInBounds_toArray, List.set_cons_succ, List.set_cons_zero]
  refine opW wideF rfl (by intro c h; cases h) (ex_loadV rfl rfl hP) ?_
  simp only [Act.put, List.setIfInBounds_toArray, List.set_cons_succ, List.set_cons_zero]
  have C3 : Ctx F m w (w.alloc (.cells p.row.toArray 48)) [] m ([blk z [slV q l.length] 28] ++ [blk z2 [.func (.func 39) #[] #[.pointer (some ⟨z, 0, none⟩)]] 52]) := C1.drop.swap
  refine opC (f := 39) (args := #[prV p, .pointer (some ⟨z, 0, none⟩)]) wideF rfl rfl (by intro c h; cases h) (ex_callL (vs := #[prV p]) rfl rfl (by simp [Act.eval]) (by simp) (e39 _ _)) (callsIn_wide.2 ((c_among1 z q l p hl).call C3 hp fun _ m1 w7 hk hm _ C4 => ?_).h)
  refine ⟨_, rfl, ?_⟩
  simp only [Act.put, List.setIfInBounds_toArray, List.set_cons_succ, List.set_cons_zero]
  refine opW wideF rfl (by intro c h; cases h) (ex_not rfl rfl) ?_
  simp only [Act.put, List.setIfInBounds_toArray, List.set_cons_succ, List.set_cons_zero]
  refine opW wideF rfl (by intro c h; cases h) (ex_assignV rfl rfl) ?_
  simp only [Act.put, List.setIfInBounds_toArray, List.set_cons_succ, List.set_cons_zero]
  refine wpListIn_nil ?_
  simp only [Exit.then]
  refine wpIn_ret ?_
  refine ⟨rfl, _, results_tmp rfl _ _ _, (), m1, [], rfl, trivial, C4.swap⟩
theorem said24 (z z2 : Nat) (q : Sl) (l : List Pr) (hl : l.length ≤ 1000000) : SaidC 24 #[.pointer (some ⟨z2, 0, none⟩)] (fun p => !decide (p ∈ l)) (fun m => PM q l m) [blk z2 [.func (.func 39) #[] #[.pointer (some ⟨z, 0, none⟩)]] 52, blk z [slV q l.length] 28] :=
  ⟨e24, fun p => c_Next1 z z2 q l p hl⟩
end Go.Proofs
