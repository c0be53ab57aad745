import Derived.Test.YtdlfcgkjjlkmgaaU15m1
import Derived.Test.YtdlfcgkjjlkmgaaW15s
import Derived.Test.YtdlfcgkjjlkmgaaXWalk
import Derived.Test.YtdlfcgkjjlkmgaaXClear
import Derived.Test.YtdlfcgkjjlkmgaaXRange
import Derived.RangeFuncIn
set_option linter.unusedVariables false
set_option linter.unusedSimpArgs false
set_option maxRecDepth 10000
namespace Go.Proofs
open Go X RowKit Go.Sort
abbrev noMem : Mem → Prop := fun _ => True
/-! ### identifiers with their bounds -/
instance : DecidableEq I := fun a b => decidable_of_iff (a.n = b.n ∧ a.l = b.l ∧ a.s = b.s ∧ a.d = b.d ∧ a.g0 = b.g0 ∧ a.i0 = b.i0 ∧ a.g1 = b.g1 ∧ a.i1 = b.i1 ∧ a.g2 = b.g2 ∧ a.i2 = b.i2) (by cases a; cases b; simp)
abbrev J : Type := { x : I // x.In }
theorem zero_in : I.zero.In := by constructor <;> decide
instance : Inhabited J := ⟨⟨I.zero, zero_in⟩⟩
abbrev jV (j : J) : Value := j.1.V
abbrev jR (j : J) : List Value := j.1.row
theorem key53 : KeyT Try.prog 53 jV := by
  refine keyAgg Try.underlying53 (fun x => ⟨_, rfl⟩) (fun x => by kernel_rfl) (fun x y => ⟨((x.1.n == y.1.n) && (x.1.l == y.1.l)) && ((x.1.s == y.1.s) && ((x.1.d == y.1.d) && (((x.1.g0 == y.1.g0) && (x.1.i0 == y.1.i0)) && (((x.1.g1 == y.1.g1) && (x.1.i1 == y.1.i1)) && ((x.1.g2 == y.1.g2) && (x.1.i2 == y.1.i2)))))), by kernel_rfl, ?_⟩) (fun x => by simp [Instr.sameBits])
  simp only [Bool.and_eq_true, beq_iff_eq]
  constructor
  · rintro ⟨⟨h1, h2⟩, h3, h4, ⟨h5, h6⟩, ⟨h7, h8⟩, h9, h10⟩
    exact Subtype.ext (I.ext' ⟨h1, h2, h3, h4, h5, h6, h7, h8, h9, h10⟩)
  · rintro rfl; exact ⟨⟨rfl, rfl⟩, rfl, rfl, ⟨rfl, rfl⟩, ⟨rfl, rfl⟩, rfl, rfl⟩
theorem jR_len (j : J) : (jR j).length = 10 := rfl
theorem jR_one (j : J) : ∀ u ∈ jR j, oneC u = true := by
  intro u hu
  simp only [jR, I.row, List.mem_cons, List.not_mem_nil, or_false] at hu
  rcases hu with rfl | rfl | rfl | rfl | rfl | rfl | rfl | rfl | rfl | rfl <;> rfl
/-! ### their order -/
def cmpJ (x y : J) : Int := x.1.cmp y.1
theorem cmpJ_num (x y : J) : cmpJ x y = cmp2 x.1.num y.1.num := cmp_num x.1 y.1 x.2 y.2
theorem lt_num (x y : J) : ltOf cmpJ x y = decide (x.1.num < y.1.num) := by
  simp only [ltOf, cmpJ_num, cmp2]
  congr 1
  by_cases h : x.1.num < y.1.num
  · simp [h]
  · simp only [h, if_false, iff_false, eq_iff_iff]; split <;> omega
theorem swoJ : SWO (ltOf cmpJ) where
  irrefl x := by rw [lt_num]; simp
  trans x y z h1 h2 := by rw [lt_num] at *; simp only [decide_eq_true_eq] at *; omega
  ntrans x y z h1 h2 := by rw [lt_num] at *; simp only [decide_eq_false_iff_not] at *; omega
theorem totJ (x y : J) (h1 : ltOf cmpJ x y = false) (h2 : ltOf cmpJ y x = false) : x = y := by
  rw [lt_num] at h1 h2
  simp only [decide_eq_false_iff_not] at h1 h2
  exact Subtype.ext (num_inj x.2 y.2 (by omega))
theorem enters61 : ∀ args w, (callFunc 61 args).run Try.prog w = .ok (.enter 61 args) w := enters_of Try.func61 (by kernel_rfl) rfl
/-- the list of identifiers, sorted -/
theorem c_Sort (l : List J) (v : Value) : Ctr Try.prog 67 #[v, .func (.func 61) #[] #[]] (fun _ => l.length < 4611686018427387904) [slA v l.length (l.flatMap jR) 53 10] (fun _ : Unit => .tuple #[]) (fun _ _ => True) (fun _ => [slA v l.length ((sortBy cmpJ l).flatMap jR) 53 10]) :=
  sortFunc_ctr (k := 10) (enc := jR) (cf := cmpJ) (g := 61) (cb := #[]) (Cs := []) Try.sortI Try.isAgg53 Try.sizeOf53 jR_len jR_one swoJ totJ enters61 (fun w1 F _ _ x y => c_Compare x.1 y.1 x.2 y.2 w1) l v 53
end Go.Proofs
namespace Go.Proofs
open Go X RowKit
theorem wideF : ∀ f, Fence.wide.fn f := fun _ => trivial
theorem t89 : Try.prog.underlying 89 = some (.map 53 62) := by kernel_rfl
theorem al53 (ρ : Operand → Value) (o : Oper) (ho : o.op = .alloc 53) (w : World) :
    (execOp ρ o).run Try.prog w = .ok (.value (.pointer (some ⟨w.heap.size, 0, none⟩))) (w.alloc (.cells (I.V I.zero).cells.toList.toArray 53)) := by
  have h : (Instr.alloc 53 true (.tuple #[])).run Try.prog w = .ok (.pointer (some ⟨w.heap.size, 0, none⟩)) (w.alloc (.cells (I.V I.zero).cells.toList.toArray 53)) := nev_run (by kernel_rfl)
  simp only [execOp, ho, Sem.run_bind, h]
  rfl
section
variable {β : Type} {encV : β → Value}
set_option maxHeartbeats 1000000 in
/-- the keys of a table, one a round -/
theorem it68 (Bm b : Nat) (zs : List ((J × β) × Nat)) (clock : Nat) (hz : (zs.map Prod.snd).Nodup) :
    SeqC Try.prog 68 #[.pointer (some ⟨Bm, 0, none⟩)] jV [blk Bm [.map (some b)] 89, mapZ b jV encV zs clock] [blk Bm [.map (some b)] 89, mapZ b jV encV zs clock]
      (fun ys => ys.Perm (zs.map (·.1.1))) zs.length := by
  intro n l JJ hY F0 m0 w0 w m As C
  refine callsIn_of_wp Try.func68 rfl trivial ?_ rfl
  simp only [Try.ntmps68, List.size_toArray, List.length_cons, List.length_nil, Nat.reduceAdd, Nat.reduceSub, Array.replicate_succ, Array.replicate_zero, List.push_toArray, List.append_toArray, List.nil_append, List.cons_append]
  refine wpIn_seq (wpIn_region_lit ?_)
  refine opW wideF rfl (by intro c h; cases h) (ex_load rfl (C.ldOne (t := 89) (by kernel_rfl) (by kernel_rfl))) ?_
  simp only [Act.put, List.setIfInBounds_toArray, List.set_cons_succ, List.set_cons_zero]
  obtain ⟨hr, -, C⟩ := Ctx.mrange (P := Try.prog) t89 C.swap
  refine opW wideF rfl (by intro c h; cases h) (semV_run rfl hr) ?_
  simp only [Act.put, List.setIfInBounds_toArray, List.set_cons_succ, List.set_cons_zero]
  refine wpListIn_nil ?_
  simp only [Exit.then]
  generalize hit : w.heap.size = it at *
  refine wpIn_block (wpIn_loop (fun a' w' => ∃ (ys : List ((J × β) × Nat)) (seen : Array Nat) (last : Nat) (m' : Mem) (t4 t7 t8 t9 t10 t11 t12 t13 t14 : Value),
      a' = ⟨#[.func (.yield l) #[] #[], .pointer (some ⟨Bm, 0, none⟩), undef, t4, .map (some b), .pointer (some ⟨it, 0, none⟩), t7, t8, t9, t10, t11, t12, t13, t14], []⟩ ∧
      m.le m' ∧ clock ≤ last ∧ Walked zs ys seen ∧ Ctx F0 m0 w0 w' [] m' (iterA it b clock seen last :: mapZ b jV encV zs clock :: blk Bm [.map (some b)] 89 :: (JJ (ys.map (·.1.1)) ++ As)))
    (fun _ w' => zs.length - seenN w' it) ⟨[], #[], clock, m, _, _, _, _, _, _, _, _, _, rfl, Mem.le_refl _, Nat.le_refl _, Walked.nil zs, C⟩ ?_)
  rintro a' wr ⟨ys, seen, last, m', t4, t7, t8, t9, t10, t11, t12, t13, t14, rfl, hm, hl, hW, C⟩
  have hse : seenN wr it = seen.size := seenN_obj C.objAt.1
  refine wpIn_seq (wpIn_region_lit ?_)
  rcases Ctx.mnext (P := Try.prog) 0 rfl hl C with ⟨hall, hr⟩ | ⟨i, hi, w2, hn, hr, hk, C2⟩
  · refine opW wideF rfl (by intro c h; cases h) (semV_run rfl hr) ?_
    simp only [Act.put, List.setIfInBounds_toArray, List.set_cons_succ, List.set_cons_zero]
    refine opW wideF rfl (by intro c h; cases h) (ex_extract rfl rfl rfl) ?_
    simp only [Act.put, List.setIfInBounds_toArray, List.set_cons_succ, List.set_cons_zero]
    refine wpListIn_nil ?_
    simp only [Exit.then]
    refine wpIn_seq (wpIn_cond_false rfl (wpIn_exit ?_))
    simp only [Exit.then, Exit.inBlock, ↓reduceIte]
    refine ⟨rfl, _, results_none rfl _ _ _, ⟨_, rfl⟩, ys.map (·.1.1), m', by have := (hW.perm hz hall).map Prod.fst; simpa [Function.comp_def] using this, hm, C.drop.swap⟩
  · refine opW wideF rfl (by intro c h; cases h) (semV_run rfl hr) ?_
    simp only [Act.put, List.setIfInBounds_toArray, List.set_cons_succ, List.set_cons_zero]
    refine opW wideF rfl (by intro c h; cases h) (ex_extract rfl rfl rfl) ?_
    simp only [Act.put, List.setIfInBounds_toArray, List.set_cons_succ, List.set_cons_zero]
    refine wpListIn_nil ?_
    simp only [Exit.then]
    refine wpIn_seq (wpIn_cond_true rfl (wpIn_skip ?_))
    simp only [Exit.then]
    refine wpIn_block (wpIn_seq (wpIn_region_lit ?_))
    refine opW wideF rfl (by intro c h; cases h) (semV_run rfl (C2.mentry hi)) ?_
    simp only [Act.put, List.setIfInBounds_toArray, List.set_cons_succ, List.set_cons_zero]
    refine opW wideF rfl (by intro c h; cases h) (ex_extract rfl rfl rfl) ?_
    simp only [Act.put, List.setIfInBounds_toArray, List.set_cons_succ, List.set_cons_zero]
    refine opW wideF rfl (by intro c h; cases h) (al53 _ _ rfl _) ?_
    simp only [Act.put, List.setIfInBounds_toArray, List.set_cons_succ, List.set_cons_zero]
    have C3 := C2.alloc (I.V I.zero).cells.toList 53
    obtain ⟨w4, hr4, C4⟩ := C3.stAll (P := Try.prog) (t := 53) (jV zs[i].1.1) (by kernel_rfl) (by rfl) (by rfl)
    refine opU wideF rfl (by intro c h; cases h) (ex_store rfl hr4) ?_
    simp only [Act.put, List.setIfInBounds_toArray, List.set_cons_succ, List.set_cons_zero]
    refine wpListIn_nil ?_
    simp only [Exit.then]
    refine wpIn_seq (wpIn_region_lit ?_)
    refine opW wideF rfl (by intro c h; cases h) (ex_move rfl) ?_
    simp only [Act.put, List.setIfInBounds_toArray, List.set_cons_succ, List.set_cons_zero]
    refine opW wideF rfl (by intro c h; cases h) (ex_load rfl (C4.ldAgg (t := 53) (by kernel_rfl) (by kernel_rfl))) ?_
    simp only [Act.put, List.setIfInBounds_toArray, List.set_cons_succ, List.set_cons_zero]
    have C5 : Ctx F0 m0 w0 w4 [] m' (JJ (ys.map (·.1.1)) ++ ([iterA it b clock (seen.push zs[i].2) clock, mapZ b jV encV zs clock, blk Bm [.map (some b)] 89] ++ As)) :=
      C4.drop.perm (List.perm_append_comm_assoc [iterA it b clock (seen.push zs[i].2) clock, mapZ b jV encV zs clock, blk Bm [.map (some b)] 89] _ _)
    have hlt : seen.size < zs.length := by have := (hW.push hi hn).len; simp at this; omega
    obtain ⟨fn, tmps, assign, body, hy, hR⟩ := (hY (ys.map (·.1.1)) zs[i].1.1 (by simp [hW.size, hlt])).round C5 (n - 1)
    refine opY wideF rfl rfl (by intro c h; cases h) (ex_yield rfl rfl rfl hy) (hR.mono ?_)
    rintro e w6 ⟨rfl, m6, -, hm6, C6⟩
    refine ⟨_, rfl, ?_⟩
    simp only [Act.put, List.setIfInBounds_toArray, List.set_cons_succ, List.set_cons_zero]
    refine opW wideF rfl (by intro c h; cases h) (ex_not rfl rfl) ?_
    simp only [Act.put, List.setIfInBounds_toArray, List.set_cons_succ, List.set_cons_zero]
    refine wpListIn_nil ?_
    simp only [Exit.then]
    refine wpIn_cond_false rfl (wpIn_skip ?_)
    have C7 : Ctx F0 m0 w0 w6 [] m6 (iterA it b clock (seen.push zs[i].2) clock :: mapZ b jV encV zs clock :: blk Bm [.map (some b)] 89 :: (JJ ((ys ++ [zs[i]]).map (·.1.1)) ++ As)) := by
      have := C6.perm (List.perm_append_comm_assoc _ [iterA it b clock (seen.push zs[i].2) clock, mapZ b jV encV zs clock, blk Bm [.map (some b)] 89] As)
      simpa using this
    have hse6 : seenN w6 it = seen.size + 1 := by rw [seenN_obj C7.objAt.1]; simp
    refine ⟨⟨ys ++ [zs[i]], _, _, m6, _, _, _, _, _, _, _, _, _, rfl, hm.le_trans hm6, Nat.le_refl _, hW.push hi hn, C7⟩, ?_⟩
    rw [hse, hse6]; omega
end
end Go.Proofs
namespace Go.Proofs
open Go X RowKit
abbrev iC (r : J) : List Value := (jV r).cells.toList
/-- the loop's own code, as the program has it -/
def sq1 : Code → Code | .seq a _ => a | c => c
def sq2 : Code → Code | .seq _ a => a | c => c
def blkC : Code → Code | .block _ a => a | c => c
def rfA : Code → Code | .rangeFunc _ _ a _ => a | c => c
def rfB : Code → Code | .rangeFunc _ _ _ a => a | c => c
noncomputable def apA : Code := rfA (blkC (sq2 (sq1 (sq2 (Try.f77.body.getD .skip)))))
noncomputable def apB : Code := rfB (blkC (sq2 (sq1 (sq2 (Try.f77.body.getD .skip)))))
noncomputable def apR (fn : FuncId) (sv : Value) (B D : Nat) (st : LoopState) : Loop :=
  { state := st, pending := none, fn, tmps := #[.slice none 0 0, sv, .pointer (some ⟨B, 0, none⟩), undef, .slice none 0 0, undef, sv, undef, undef, undef, undef, undef, undef], params := #[7], assign := apA, body := apB, defers := D }
noncomputable abbrev apJ (fn : FuncId) (sv : Value) (B D l : Nat) (ys : List J) : List Asn :=
  [objB l (.loop (apR fn sv B D .ready)), objB D (.deferred (some [])), Asn.ex fun v : Value => Asn.all [blk B [v] 122, slA v ys.length (ys.flatMap iC) 53 10]]
theorem roundF (l : Nat) : ∀ f, (Fence.wide.inRound l).fn f := fun _ => trivial
theorem bs53 (x : J) (w : World) : (Instr.buildSlice 122 1 #[(0, (jV x))]).run Try.prog w = .ok (.slice (some ⟨w.heap.size, 0, none⟩) 1 1) (w.alloc (.cells (iC x).toArray 53)) := nev_run (by kernel_rfl)
theorem bx122 (v : Value) (hv : oneC v = true) (w : World) : (Instr.box 122 v).run Try.prog w = .ok (.pointer (some ⟨w.heap.size, 0, none⟩)) (w.alloc (.cells #[v] 122)) := by
  cases v <;> first | (cases hv; done) | exact nev_run (by kernel_rfl)
theorem iC_len (x : J) : (iC x).length = 10 := rfl
set_option maxHeartbeats 1000000 in
theorem apY (fn : FuncId) (sv : Value) (B D l N : Nat) (hN : N * 100 ≤ 140737488355328) (ys : List J) (x : J) (hl : ys.length < N) :
    YCtr Try.prog l #[(jV x)] (apJ fn sv B D l ys) (apJ fn sv B D l (ys ++ [x])) := by
  intro n w F m C
  have hL := C.objAt.1
  refine ⟨fn, #[.slice none 0 0, sv, .pointer (some ⟨B, 0, none⟩), undef, .slice none 0 0, undef, sv, (jV x), undef, undef, undef, undef, undef], apA, apB, (run_yield (P := Try.prog) (args := #[(jV x)]) hL rfl).trans (by simp [apR]), roundIn_of_wpIn trivial ?_⟩
  show Code.wpIn _ n _ (Code.region 2 _ false) _ _ _
  refine wpIn_region_lit ?_
  refine opW (roundF l) rfl (by intro c h; cases h) (al53 _ _ rfl _) ?_
  simp only [Act.put, List.setIfInBounds_toArray, List.set_cons_succ, List.set_cons_zero]
  have C3 := C.alloc (I.V I.zero).cells.toList 53
  obtain ⟨w4, hr4, C4⟩ := C3.stAll (P := Try.prog) (t := 53) (jV x) (by kernel_rfl) (by rfl) (by rfl)
  refine opU (roundF l) rfl (by intro c h; cases h) (ex_store rfl hr4) ?_
  simp only [Act.put, List.setIfInBounds_toArray, List.set_cons_succ, List.set_cons_zero]
  refine wpListIn_nil ?_
  simp only [Exit.then]
  generalize w.heap.size = t5 at *
  have C5 := C4.pm [1, 0, 2, 3] rfl
  have hL5 := C5.objAt.1
  refine ⟨_, run_beginRound (P := Try.prog) hL5 rfl, ?_⟩
  obtain ⟨-, C6⟩ := C5.objTurn (o' := .loop (apR fn sv B D .busy))
  generalize hw6 : w4.putObj l _ = w6
  have e6 : w6 = { w4 with heap := w4.heap.setIfInBounds l (.loop (apR fn sv B D .busy)) } := by rw [← hw6]; rfl
  rw [← e6] at C6
  clear e6 hw6
  replace C6 := C6.pm [3, 1, 0, 2] rfl
  obtain ⟨v, C6⟩ := C6.ex
  replace C6 := C6.all
  show Code.wpIn _ n _ (Code.block 1 (Code.region 3 _ false)) _ _ _
  refine wpIn_block (wpIn_region_lit ?_)
  refine opW (roundF l) rfl (by intro c h; cases h) (ex_load rfl (C6.ldOne (t := 122) (by kernel_rfl) (by kernel_rfl))) ?_
  simp only [Act.put, List.setIfInBounds_toArray, List.set_cons_succ, List.set_cons_zero]
  replace C6 := C6.pm [2, 0, 1, 3, 4] rfl
  refine opW (roundF l) rfl (by intro c h; cases h) (ex_load rfl (C6.ldAgg (t := 53) (by kernel_rfl) (by kernel_rfl))) ?_
  simp only [Act.put, List.setIfInBounds_toArray, List.set_cons_succ, List.set_cons_zero]
  replace C6 := C6.drop
  refine opW (roundF l) rfl (by intro c h; cases h) (ex_buildSlice rfl rfl (bs53 x _)) ?_
  simp only [Act.put, List.setIfInBounds_toArray, List.set_cons_succ, List.set_cons_zero]
  have C7 := (C6.alloc (iC x) 53).pm [2, 0, 1, 3, 4] rfl
  have hs : Src (w6.alloc (.cells (iC x).toArray 53)) 10 (.slice (some ⟨w6.heap.size, 0, none⟩) 1 1) 1 (iC x) :=
    Src.some _ _ _ _ rfl (Ctx.blkCells (C7.pm [1, 0, 2, 3, 4] rfl) fun j v h => by simpa using h)
  obtain ⟨q, cap, w8, hr8, -, C8⟩ := C7.app (P := Try.prog) (t := 122) (t2 := 122) (bytes := 80) 122 (by kernel_rfl) hs (by omega) (List.all_eq_true.1 (show (iC x).all oneC = true from rfl))
  refine opW (roundF l) rfl (by intro c h; cases h) (ex_append rfl rfl rfl hr8) ?_
  simp only [Act.put, List.setIfInBounds_toArray, List.set_cons_succ, List.set_cons_zero]
  replace C8 := C8.pk [2, 0, 3, 4] [1] rfl
  obtain ⟨w9, hr9, C9⟩ := C8.stAll (P := Try.prog) (t := 122) (.slice q (ys.length + 1) cap) (by kernel_rfl) rfl rfl
  refine opU (roundF l) rfl (by intro c h; cases h) (ex_store rfl hr9) ?_
  simp only [Act.put, List.setIfInBounds_toArray, List.set_cons_succ, List.set_cons_zero]
  refine wpListIn_nil ?_
  simp only [Exit.inBlock]
  replace C9 := C9.pm [2, 0, 1, 3] rfl
  refine ⟨_, _, run_endRound (P := Try.prog) none C9.objAt.1, rfl, m, [], ?_⟩
  show Ctx F m w { w9 with heap := w9.heap.setIfInBounds l (.loop (apR fn sv B D .ready)) } [] m _
  obtain ⟨-, C10⟩ := C9.objTurn (o' := .loop (apR fn sv B D .ready))
  replace C10 : Ctx F m w { w9 with heap := w9.heap.setIfInBounds l (.loop (apR fn sv B D .ready)) } [] m ([blk B [.slice q (ys.length + 1) cap] 122, slA (.slice q (ys.length + 1) cap) (ys ++ [x]).length ((ys ++ [x]).flatMap iC) 53 10] ++ [objB l (.loop (apR fn sv B D .ready)), objB D (.deferred (some []))]) := by
    have := C10.pm [1, 2, 0, 3] rfl
    simpa [sel, nth, show (Value.slice q (ys.length + 1) cap).cells.toList = [.slice q (ys.length + 1) cap] from rfl] using this
  have C11 : Ctx F m w { w9 with heap := w9.heap.setIfInBounds l (.loop (apR fn sv B D .ready)) } [] m ((Asn.ex fun v : Value => Asn.all [blk B [v] 122, slA v (ys ++ [x]).length ((ys ++ [x]).flatMap iC) 53 10]) :: [objB l (.loop (apR fn sv B D .ready)), objB D (.deferred (some []))]) := Ctx.exI (.slice q (ys.length + 1) cap) (Ctx.allI C10)
  exact C11.pm [1, 2, 0] rfl
set_option maxHeartbeats 1000000 in
/-- slices.AppendSeq, against whatever iterator -/
theorem as77 (g : FuncId) (lb : Array Value) (Cs Ds : List Asn) (S : List J → Prop) (N : Nat) (hs : SeqC Try.prog g lb jV Cs Ds S N) (hN : N * 100 ≤ 140737488355328) (eg : ∀ args w, (callFunc g args).run Try.prog w = .ok (.enter g args) w)
    (n : Nat) (F0 : List Nat) (m0 : Mem) (w0 w : World) (m : Mem) (As : List Asn) (C : Ctx F0 m0 w0 w [] m (Cs ++ As)) :
    CallsIn Fence.wide n Try.prog 77 #[.slice none 0 0, .func (.func g) #[] lb] w fun e w' => ∃ ys v m', S ys ∧ e = .returned v ∧ m.le m' ∧ Ctx F0 m0 w0 w' [] m' (slA v ys.length (ys.flatMap iC) 53 10 :: (Ds ++ As)) := by
  refine callsIn_of_wp_marks Try.func77 rfl trivial ?_ rfl
  simp only [Try.ntmps77, List.size_toArray, List.length_cons, List.length_nil, Nat.reduceAdd, Nat.reduceSub, Array.replicate_succ, Array.replicate_zero, List.push_toArray, List.append_toArray, List.nil_append, List.cons_append]
  refine wpIn_seq (wpIn_region_lit ?_)
  refine opW wideF rfl (by intro c h; cases h) (ex_box rfl rfl (bx122 (.slice none 0 0) rfl _)) ?_
  simp only [Act.put, List.setIfInBounds_toArray, List.set_cons_succ, List.set_cons_zero]
  have C1 := (C.alloc [.slice none 0 0] 122)
  generalize hB : w.heap.size = B at *
  generalize hw1 : w.alloc (Obj.cells #[Value.slice none 0 0] 122) = w1 at *
  refine opW (v := .slice none 0 0) wideF rfl (by intro c h; cases h) (ex_assignV rfl rfl) ?_
  simp only [Act.put, List.setIfInBounds_toArray, List.set_cons_succ, List.set_cons_zero]
  refine wpListIn_nil ?_
  simp only [Exit.then]
  refine wpIn_seq (wpIn_seq (wpIn_region_lit ?_))
  refine opW (v := .func (.func g) #[] lb) wideF rfl (by intro c h; cases h) (ex_moveV rfl rfl) ?_
  simp only [Act.put, List.setIfInBounds_toArray, List.set_cons_succ, List.set_cons_zero]
  refine wpListIn_nil ?_
  simp only [Exit.then]
  refine wpIn_block (wpIn_rangeFunc ?_)
  intro fn _
  have C2 := C1.newO (A := objB w1.heap.size (.deferred (some []))) (.deferred (some [])) ⟨rfl, World.alloc_heap_new _ _⟩
  generalize hD : w1.heap.size = D at *
  have C3 := C2.newO (A := objB (w1.alloc (.deferred (some []))).heap.size (.loop (apR fn (.func (.func g) #[] lb) B D .ready))) (.loop (apR fn (.func (.func g) #[] lb) B D .ready)) ⟨rfl, World.alloc_heap_new _ _⟩
  have hl : (w1.alloc (.deferred (some []))).heap.size = D + 1 := by rw [World.size_alloc, hD]
  rw [hl] at C3
  generalize hw3 : (w1.alloc (.deferred (some []))).alloc (.loop (apR fn (.func (.func g) #[] lb) B D .ready)) = w3 at *
  have hent : (Instr.enterLoop fn #[.slice none 0 0, .func (.func g) #[] lb, .pointer (some ⟨B, 0, none⟩), undef, .slice none 0 0, undef, .func (.func g) #[] lb, undef, undef, undef, undef, undef, undef] #[7] apA apB none).run Try.prog w1 = .ok (D + 1, [{ target := .collected D, args := #[] }]) w3 := by
    rw [run_enterLoop_outer, ← hw3, ← hD]; rfl
  refine ⟨D + 1, [{ target := .collected D, args := #[] }], w3, { target := .fn (.func g) lb, args := #[.func (.yield (D + 1)) #[] #[]] }, w3, g, #[.func (.yield (D + 1)) #[] #[]] ++ lb, w3, hent, ?_, fun _ _ => trivial, ?_, fun h => absurd h (by decide), ?_⟩
  · simp [Go.resolve, Deferred.ofValue, go_sem]
  · simp [invoke, eg]
  · have C4 : Ctx F0 m0 w0 w3 [] m (Cs ++ (apJ fn (.func (.func g) #[] lb) B D (D + 1) [] ++ As)) := by
      have C3a : Ctx F0 m0 w0 w3 [] m ([blk B [.slice none 0 0] 122, slA (.slice none 0 0) 0 [] 53 10] ++ ([objB (D + 1) (.loop (apR fn (.func (.func g) #[] lb) B D .ready)), objB D (.deferred (some []))] ++ (Cs ++ As))) := (Ctx.slNil (q := none) (ty := 53) (sz := 10) C3.third).swap
      have C3b := Ctx.exI (f := fun v : Value => Asn.all [blk B [v] 122, slA v 0 [] 53 10]) (.slice none 0 0) (Ctx.allI C3a)
      have C3c : Ctx F0 m0 w0 w3 [] m (apJ fn (.func (.func g) #[] lb) B D (D + 1) [] ++ (Cs ++ As)) := C3b.perm (List.Perm.append_right (Cs ++ As) (List.perm_append_comm (l₁ := [_]) (l₂ := [_, _])))
      exact C3c.perm (List.perm_append_comm_assoc _ Cs As)
    refine (hs (n - 1) (D + 1) (apJ fn (.func (.func g) #[] lb) B D (D + 1)) (fun ys x hlt => apY fn _ B D (D + 1) N hN ys x hlt) F0 m0 w0 w3 m As C4).mono ?_
    rintro e w5 ⟨⟨v, rfl⟩, ys, m', hS, hm, C5⟩
    replace C5 := C5.perm (List.perm_append_comm_assoc Ds _ As)
    refine ⟨none, _, run_endLoop (P := Try.prog) C5.objAt.1 (by simp [apR]), ?_⟩
    obtain ⟨-, C6⟩ := C5.objTurn (o' := .loop { apR fn (.func (.func g) #[] lb) B D .ready with state := .exhausted })
    replace C6 : Ctx F0 m0 w0 _ [] m' (objB (D + 1) _ :: objB D _ :: (Asn.ex fun v : Value => Asn.all [blk B [v] 122, slA v ys.length (ys.flatMap iC) 53 10]) :: (Ds ++ As)) := C6
    obtain ⟨v, C7⟩ := C6.drop.swap.ex
    replace C7 := C7.all
    simp only [Exit.inBlock, Exit.then]
    refine wpIn_seq (wpIn_region_lit ?_)
    refine opW (v := v) wideF rfl (by intro c h; cases h) (ex_load rfl (C7.ldOne (t := 122) (by kernel_rfl) (by kernel_rfl))) ?_
    simp only [Act.put, List.setIfInBounds_toArray, List.set_cons_succ, List.set_cons_zero]
    refine opW (v := v) wideF rfl (by intro c h; cases h) (ex_assignV rfl rfl) ?_
    simp only [Act.put, List.setIfInBounds_toArray, List.set_cons_succ, List.set_cons_zero]
    refine wpListIn_nil ?_
    simp only [Exit.then]
    refine wpIn_ret ?_
    have C8 := C7.drop.swap
    obtain ⟨-, C9⟩ := C8.objTurn (o' := .deferred none)
    refine ⟨by simp, .inl ⟨_, _, rfl, run_takeDeferred C8.objAt.1, ?_⟩⟩
    exact ⟨_, results_tmp rfl _ _ _, ys, v, m', hS, rfl, hm, C9.drop⟩
end Go.Proofs
namespace Go.Proofs
open Go X RowKit
theorem enters {f : FuncId} {fn : Func} {c : Code} (hf : Try.prog.funcs[f]? = some fn) (hname : (fn.name == "runtime.NumGoroutine") = false) (hb : fn.body = some c) (args : Array Value) (w : World) : (callFunc f args).run Try.prog w = .ok (.enter f args) w := by
  have h1 : fn.name ≠ "runtime.NumGoroutine" := by simpa using hname
  simp [callFunc, hf, h1, hb]
theorem mk68 {o : Oper} {ρ : Operand → Value} {w : World} {x : Operand} {a : Value} (ho : o.op = .makeFunc (.func 68) #[] #[x]) (hx : ρ x = a) : (execOp ρ o).run Try.prog w = .ok (.value (.func (.func 68) #[] #[a])) w := by
  subst hx
  simp [execOp, ho, Instr.makeFunc, Sem.run_bind]
theorem e68 : ∀ args w, (callFunc 68 args).run Try.prog w = .ok (.enter 68 args) w := fun args w => enters Try.func68 (by kernel_rfl) rfl args w
theorem e77 : ∀ args w, (callFunc 77 args).run Try.prog w = .ok (.enter 77 args) w := fun args w => enters Try.func77 (by kernel_rfl) rfl args w
theorem bx89 (b : Nat) (w : World) : (Instr.box 89 (.map (some b))).run Try.prog w = .ok (.pointer (some ⟨w.heap.size, 0, none⟩)) (w.alloc (.cells #[.map (some b)] 89)) := nev_run (by kernel_rfl)
/-- maps.Keys -/
theorem c_Keys (b : Nat) : Ctr Try.prog 60 #[.map (some b)] noMem [] (fun Bm : Nat => .func (.func 68) #[] #[.pointer (some ⟨Bm, 0, none⟩)]) (fun _ _ => True) (fun Bm => [blk Bm [.map (some b)] 89]) := by
  refine Ctr.mk fun w F m C _ => (callsIn_wide (n := 0)).1 ?_
  refine callsIn_of_wp Try.func60 rfl trivial ?_ rfl
  simp only [Try.ntmps60, List.size_toArray, List.length_cons, List.length_nil, Nat.reduceAdd, Nat.reduceSub, Array.replicate_succ, Array.replicate_zero, List.push_toArray, List.append_toArray, List.nil_append, List.cons_append]
  refine wpIn_seq (wpIn_region_lit ?_)
  refine opW wideF rfl (by intro c h; cases h) (ex_box rfl rfl (bx89 b _)) ?_
  simp only [Act.put, List.setIfInBounds_toArray, List.set_cons_succ, List.set_cons_zero]
  have C1 := C.alloc [.map (some b)] 89
  refine opW (v := .nilFunc) wideF rfl (by intro c h; cases h) (ex_assignV rfl rfl) ?_
  simp only [Act.put, List.setIfInBounds_toArray, List.set_cons_succ, List.set_cons_zero]
  refine wpListIn_nil ?_
  simp only [Exit.then]
  refine wpIn_seq (wpIn_region_lit ?_)
  refine opW (v := .func (.func 68) #[] #[.pointer (some ⟨w.heap.size, 0, none⟩)]) wideF rfl (by intro c h; cases h) (mk68 rfl rfl) ?_
  simp only [Act.put, List.setIfInBounds_toArray, List.set_cons_succ, List.set_cons_zero]
  refine opW (v := .func (.func 68) #[] #[.pointer (some ⟨w.heap.size, 0, none⟩)]) wideF rfl (by intro c h; cases h) (ex_assignV rfl rfl) ?_
  simp only [Act.put, List.setIfInBounds_toArray, List.set_cons_succ, List.set_cons_zero]
  refine wpListIn_nil ?_
  simp only [Exit.then]
  refine wpIn_ret ?_
  exact ⟨rfl, _, results_tmp rfl _ _ _, w.heap.size, m, [], rfl, trivial, C1⟩
section
variable {β : Type} {encV : β → Value}
/-- slices.Collect of a table's keys -/
theorem c_Collect (Bm b : Nat) (l : List (J × β)) (hl : l.length * 100 ≤ 140737488355328) :
    Ctr Try.prog 66 #[.func (.func 68) #[] #[.pointer (some ⟨Bm, 0, none⟩)]] noMem [blk Bm [.map (some b)] 89, mapA b jV encV l] (fun i : Value × List J => i.1) (fun i _ => i.2.Perm (l.map Prod.fst))
      (fun i => [slA i.1 i.2.length (i.2.flatMap iC) 53 10, mapA b jV encV l]) := by
  refine Ctr.mk fun w F m C _ => (callsIn_wide (n := 9)).1 ?_
  refine callsIn_of_wp Try.func66 rfl trivial ?_ rfl
  simp only [Try.ntmps66, List.size_toArray, List.length_cons, List.length_nil, Nat.reduceAdd, Nat.reduceSub, Array.replicate_succ, Array.replicate_zero, List.push_toArray, List.append_toArray, List.nil_append, List.cons_append]
  refine wpIn_seq (wpIn_region_lit ?_)
  refine opW (v := .slice none 0 0) wideF rfl (by intro c h; cases h) (ex_assignV rfl rfl) ?_
  simp only [Act.put, List.setIfInBounds_toArray, List.set_cons_succ, List.set_cons_zero]
  refine wpListIn_nil ?_
  simp only [Exit.then]
  refine wpIn_seq (wpIn_region_lit ?_)
  refine opW (v := .func (.func 68) #[] #[.pointer (some ⟨Bm, 0, none⟩)]) wideF rfl (by intro c h; cases h) (ex_moveV rfl rfl) ?_
  simp only [Act.put, List.setIfInBounds_toArray, List.set_cons_succ, List.set_cons_zero]
  obtain ⟨zs, clock, hzs, hnd, C1⟩ := Ctx.mapZI C.swap
  subst hzs
  have C2 : Ctx F m w w [] m ([blk Bm [.map (some b)] 89, mapZ b jV encV zs clock] ++ []) := C1.swap
  refine opC (f := 77) (args := #[.slice none 0 0, .func (.func 68) #[] #[.pointer (some ⟨Bm, 0, none⟩)]]) wideF rfl rfl (by intro c h; cases h) ?_ ((as77 68 _ _ _ _ _ (it68 Bm b zs clock hnd) (by simpa using hl) e68 8 F m w w m [] C2).mono ?_)
  · simp [execOp, Go.resolve, Deferred.ofValue, invoke, Act.eval, Sem.run_bind, e77]
  rintro e w' ⟨ys, v, m', hp, rfl, hm, C3⟩
  refine ⟨v, rfl, ?_⟩
  simp only [Act.put, List.setIfInBounds_toArray, List.set_cons_succ, List.set_cons_zero]
  refine opW (v := v) wideF rfl (by intro c h; cases h) (ex_assignV rfl rfl) ?_
  simp only [Act.put, List.setIfInBounds_toArray, List.set_cons_succ, List.set_cons_zero]
  refine wpListIn_nil ?_
  simp only [Exit.then]
  refine wpIn_ret ?_
  refine ⟨rfl, _, results_tmp rfl _ _ _, (v, ys), m', [], rfl, by simpa [Function.comp_def] using hp, ?_⟩
  have C4 := (C3.pk [0, 2] [1] rfl).swap.mapZA.swap
  simpa [sel, nth] using C4
end
end Go.Proofs
namespace Go.Proofs
open Go X RowKit
theorem e66 : ∀ args w, (callFunc 66 args).run Try.prog w = .ok (.enter 66 args) w := fun args w => enters Try.func66 (by kernel_rfl) rfl args w
theorem e67 : ∀ args w, (callFunc 67 args).run Try.prog w = .ok (.enter 67 args) w := fun args w => enters Try.func67 (by kernel_rfl) rfl args w
section
variable {β : Type} {encV : β → Value}
/-- slices.SortedFunc of a table's keys -/
theorem c_SortedFunc (Bm b : Nat) (l : List (J × β)) (hl : l.length ≤ 1000000) :
    Ctr Try.prog 59 #[.func (.func 68) #[] #[.pointer (some ⟨Bm, 0, none⟩)], .func (.func 61) #[] #[]] noMem [blk Bm [.map (some b)] 89, mapA b jV encV l] (fun v : Value => v) (fun _ _ => True)
      (fun v => [slA v l.length ((sortBy cmpJ (l.map Prod.fst)).flatMap jR) 53 10, mapA b jV encV l]) := by
  refine Ctr.mk fun w F m C _ => (callsIn_wide (n := 9)).1 ?_
  refine callsIn_of_wp Try.func59 rfl trivial ?_ rfl
  simp only [Try.ntmps59, List.size_toArray, List.length_cons, List.length_nil, Nat.reduceAdd, Nat.reduceSub, Array.replicate_succ, Array.replicate_zero, List.push_toArray, List.append_toArray, List.nil_append, List.cons_append]
  refine wpIn_seq (wpIn_region_lit ?_)
  refine opW (v := .slice none 0 0) wideF rfl (by intro c h; cases h) (ex_assignV rfl rfl) ?_
  simp only [Act.put, List.setIfInBounds_toArray, List.set_cons_succ, List.set_cons_zero]
  refine wpListIn_nil ?_
  simp only [Exit.then]
  refine wpIn_seq (wpIn_region_lit ?_)
  refine opW (v := .func (.func 68) #[] #[.pointer (some ⟨Bm, 0, none⟩)]) wideF rfl (by intro c h; cases h) (ex_moveV rfl rfl) ?_
  simp only [Act.put, List.setIfInBounds_toArray, List.set_cons_succ, List.set_cons_zero]
  refine opC (f := 66) (args := #[.func (.func 68) #[] #[.pointer (some ⟨Bm, 0, none⟩)]]) wideF rfl rfl (by intro c h; cases h) ?_ (callsIn_wide.2 ((c_Collect (encV := encV) Bm b l (by omega)).call (As := []) C trivial fun y m2 w2 hk hm hp C2 => ?_).h)
  · simp [execOp, Go.resolve, Deferred.ofValue, invoke, Act.eval, Sem.run_bind, e66]
  obtain ⟨v, ks⟩ := y
  replace hp : ks.Perm (l.map Prod.fst) := hp
  have hlen : ks.length = l.length := by rw [hp.length_eq]; simp
  refine ⟨v, rfl, ?_⟩
  simp only [Act.put, List.setIfInBounds_toArray, List.set_cons_succ, List.set_cons_zero]
  refine opW (v := v) wideF rfl (by intro c h; cases h) (ex_assignV rfl rfl) ?_
  simp only [Act.put, List.setIfInBounds_toArray, List.set_cons_succ, List.set_cons_zero]
  refine wpListIn_nil ?_
  simp only [Exit.then]
  refine wpIn_seq (wpIn_region_lit ?_)
  refine opW (v := v) wideF rfl (by intro c h; cases h) (ex_moveV rfl rfl) ?_
  simp only [Act.put, List.setIfInBounds_toArray, List.set_cons_succ, List.set_cons_zero]
  refine opW (v := .func (.func 61) #[] #[]) wideF rfl (by intro c h; cases h) (ex_moveV rfl rfl) ?_
  simp only [Act.put, List.setIfInBounds_toArray, List.set_cons_succ, List.set_cons_zero]
  replace C2 : Ctx F m w w2 [] m2 ([slA v ks.length (ks.flatMap jR) 53 10] ++ [mapA b jV encV l]) := C2
  refine opC (f := 67) (args := #[v, .func (.func 61) #[] #[]]) wideF rfl rfl (by intro c h; cases h) ?_ (callsIn_wide.2 ((c_Sort ks v).call (As := [mapA b jV encV l]) C2 (by omega) fun _ m3 w3 hk hm3 _ C3 => ?_).h)
  · simp [execOp, Go.resolve, Deferred.ofValue, invoke, Act.eval, Sem.run_bind, e67]
  refine ⟨_, rfl, ?_⟩
  simp only [Act.put, List.setIfInBounds_toArray, List.set_cons_succ, List.set_cons_zero]
  refine wpListIn_nil ?_
  simp only [Exit.then]
  refine wpIn_seq (wpIn_region_lit ?_)
  refine opW (v := v) wideF rfl (by intro c h; cases h) (ex_moveV rfl rfl) ?_
  simp only [Act.put, List.setIfInBounds_toArray, List.set_cons_succ, List.set_cons_zero]
  refine opW (v := v) wideF rfl (by intro c h; cases h) (ex_assignV rfl rfl) ?_
  simp only [Act.put, List.setIfInBounds_toArray, List.set_cons_succ, List.set_cons_zero]
  refine wpListIn_nil ?_
  simp only [Exit.then]
  refine wpIn_ret ?_
  rw [hlen, sortBy_eq swoJ totJ hp] at C3
  exact ⟨rfl, _, results_tmp rfl _ _ _, v, m3, [], rfl, trivial, C3⟩
end
end Go.Proofs
