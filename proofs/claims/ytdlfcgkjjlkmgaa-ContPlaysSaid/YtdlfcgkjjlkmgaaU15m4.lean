import Derived.Test.YtdlfcgkjjlkmgaaU15m2
import Derived.Test.YtdlfcgkjjlkmgaaU15m3
import Derived.Test.YtdlfcgkjjlkmgaaV15m1
import Derived.Test.YtdlfcgkjjlkmgaaXSub
import Derived.Test.YtdlfcgkjjlkmgaaXElems
import Derived.Test.YtdlfcgkjjlkmgaaXRange2
import Derived.RangeFuncIn
set_option linter.unusedVariables false
set_option linter.unusedSimpArgs false
set_option maxRecDepth 10000
namespace Go.Proofs
open Go X RowKit Go.Sort
/-- a continuation: its parts lie elsewhere -/
structure Ct where (id : J) (first : Pt) (q : Sl) (rest : List Pt) (rc : Int) (rv : ByteArray) (ok ov : ByteArray) (oh : Bool) (floor : Int)
@[reducible] def Ct.V (x : Ct) : Value := .agg #[.int .u8 x.id.1.n, .int .u16 x.id.1.l, .int .u32 x.id.1.s, .int .u8 x.id.1.d, .int .u8 x.id.1.g0, .int .u8 x.id.1.i0, .int .u8 x.id.1.g1, .int .u8 x.id.1.i1, .int .u8 x.id.1.g2, .int .u8 x.id.1.i2,
  .int .u8 x.first.g, .int .u8 x.first.k, .string x.first.key, .string x.first.val, .int .i64 x.first.n, slV x.q x.rest.length, .int .u8 x.rc, .string x.rv, .string x.ok, .string x.ov, .bool x.oh, .int .u32 x.floor]
/-- its parts can be read -/
def CtM (m : Mem) (x : Ct) : Prop := MSrc m 5 (slV x.q x.rest.length) x.rest.length (x.rest.flatMap Pt.row) ∧ x.rest.length * 48 ≤ 140737488355328
/-- without where they lie -/
def Ct.er (x : Ct) : Ct := { x with q := (none, 0) }
theorem c_clone (x : Ct) : Ctr Try.prog 31 #[x.V] (fun m => CtM m x) [] (fun q : Sl => ({ x with q := q } : Ct).V) (fun q m => CtM m { x with q := q }) (fun _ => []) := by
  refine Ctr.mk fun w F m C hp => x_cont_Cont_clone _ _ _ _ _ _ _ _ _ _ _ _ _ _ _ _ _ _ _ _ _ _ _ _ w _ fun w1 L2 h1 g1 => ?_
  refine (c_ClonePs x.q x.rest hp.2).call (As := []) (C.hidL h1 g1) hp.1 fun q m2 w4 hk hm hq C => ⟨q.1, _, q.2, rfl, hk, fun w8 h8 => ?_⟩
  exact Ctr.ret q rfl ⟨hq, hp.2⟩ (C.hid0 h8)
end Go.Proofs
namespace Go.Proofs
open Go X RowKit Go.Sort
/-! ### the table -/
structure Ct0 where (group : Int) (l : List (J × Ct))
abbrev ctB (b : Nat) (g : Int) (mr : Nat) : Asn := blk b [.int .u8 g, .map (some mr)] 91
abbrev ctM (mr : Nat) (l : List (J × Ct)) : Asn := mapA mr jV Ct.V l
def Ct.zero : Ct := ⟨⟨I.zero, zero_in⟩, ⟨0, 0, ByteArray.mk #[], ByteArray.mk #[], 0⟩, (none, 0), [], 0, ByteArray.mk #[], ByteArray.mk #[], ByteArray.mk #[], false, 0⟩
theorem z62 : ((Try.prog.info? 62).bind (·.zero)) = some Ct.zero.V := by kernel_rfl
def ctOf (l : List (J × Ct)) (k : J) : Ct := (fnd k l).getD Ct.zero
theorem look_ct {F0 : List Nat} {m0 : Mem} {w0 w : World} {L : List Nat} {m : Mem} {As : List Asn} {mr : Nat} {l : List (J × Ct)} (C : Ctx F0 m0 w0 w L m (ctM mr l :: As)) (d : J) : (Instr.lookup 89 (.map (some mr)) (jV d) false).run Try.prog w = .ok (ctOf l d).V w := by
  obtain ⟨i, hi, hz⟩ := Option.bind_eq_some_iff.1 z62
  have := Ctx.mlook (P := Try.prog) t89 key53 hi hz C d false
  rw [this, ctOf]
  cases fnd d l <;> rfl
theorem e59 : ∀ args w, (callFunc 59 args).run Try.prog w = .ok (.enter 59 args) w := fun args w => enters Try.func59 (by kernel_rfl) rfl args w
theorem e60 : ∀ args w, (callFunc 60 args).run Try.prog w = .ok (.enter 60 args) w := fun args w => enters Try.func60 (by kernel_rfl) rfl args w
theorem e31 : ∀ args w, (callFunc 31 args).run Try.prog w = .ok (.enter 31 args) w := fun args w => enters Try.func31 (by kernel_rfl) rfl args w
theorem fa91 (b : Nat) (w : World) : (Instr.fieldAt 91 (.pointer (some ⟨b, 0, none⟩)) 1).run Try.prog w = .ok (.pointer (some ⟨b, 1, none⟩)) w := pev_run (by kernel_rfl) w
theorem len122 (q : Option Addr) (n c : Nat) (w : World) : (Builtin.len_ #[122] 3 #[.slice q n c]).run Try.prog w = .ok (.int .i64 n) w := pev_run (by kernel_rfl) w
theorem lss3 (a b : Int) (w : World) : (do eqGuard .lss 3 (.tmp 12) (.tmp 11) (.int .i64 a) (.int .i64 b); binOp .lss 3 (.int .i64 a) (.int .i64 b) : Sem Value).run Try.prog w = .ok (.bool (decide (a < b))) w := pev_run (by kernel_rfl) w
theorem add3 (a : Int) (w : World) : (do eqGuard .add 3 (.tmp 12) (.const (.int .i64 1)) (.int .i64 a) (.int .i64 1); binOp .add 3 (.int .i64 a) (.int .i64 1) : Sem Value).run Try.prog w = .ok (.int .i64 (IntKind.wrap .i64 (a + 1))) w := pev_run (by kernel_rfl) w
theorem ctB_ld {F0 : List Nat} {m0 : Mem} {w0 w : World} {L : List Nat} {m : Mem} {As : List Asn} {b mr : Nat} {g : Int} (C : Ctx F0 m0 w0 w L m (ctB b g mr :: As)) : (Instr.loadAt 89 (.pointer (some ⟨b, 1, none⟩))).run Try.prog w = .ok (.map (some mr)) w := by
  have := run_loadVar_one (P := Try.prog) (t := 89) (by kernel_rfl) (by kernel_rfl) ⟨b, 1, none⟩ (.map (some mr)) (C.blkCell (j := 1) rfl)
  simpa [Instr.loadAt, Instr.sureAddr, Sem.run_bind] using this
/-- what the table's rows are, in their order -/
def rowsC (l : List (J × Ct)) : List Ct := (sortBy cmpJ (l.map Prod.fst)).map (ctOf l)
set_option maxHeartbeats 2000000 in
theorem it58 (z b mr : Nat) (g : Int) (l : List (J × Ct)) (hl : l.length ≤ 1000000) :
    SeqM Try.prog 58 #[.pointer (some ⟨z, 0, none⟩)] Ct.V (fun m => ∀ k ∈ l.map Prod.fst, CtM m (ctOf l k)) [blk z [.pointer (some ⟨b, 0, none⟩)] 45, ctB b g mr, ctM mr l] [blk z [.pointer (some ⟨b, 0, none⟩)] 45, ctB b g mr, ctM mr l]
      (fun ys m => ys.map Ct.er = (rowsC l).map Ct.er ∧ ∀ y ∈ ys, CtM m y) l.length := by
  intro n ll JJ hY F0 m0 w0 w m As hpre C
  refine callsIn_of_wp Try.func58 rfl trivial ?_ rfl
  simp only [Try.ntmps58, List.size_toArray, List.length_cons, List.length_nil, Nat.reduceAdd, Nat.reduceSub, Array.replicate_succ, Array.replicate_zero, List.push_toArray, List.append_toArray, List.nil_append, List.cons_append]
  refine wpIn_seq (wpIn_region_lit ?_)
  refine opW wideF rfl (by intro c h; cases h) (ex_loadV rfl rfl (C.ldOne (t := 45) (by kernel_rfl) (by kernel_rfl))) ?_
  simp only [Act.put, List.setIfInBounds_toArray, List.set_cons_succ, List.set_cons_zero]
  refine opW wideF rfl (by intro c h; cases h) (ex_nil rfl rfl) ?_
  simp only [Act.put, List.setIfInBounds_toArray, List.set_cons_succ, List.set_cons_zero]
  refine opW wideF rfl (by intro c h; cases h) (ex_fieldAddr rfl rfl (fa91 b _)) ?_
  simp only [Act.put, List.setIfInBounds_toArray, List.set_cons_succ, List.set_cons_zero]
  replace C : Ctx F0 m0 w0 w [] m (ctB b g mr :: blk z [.pointer (some ⟨b, 0, none⟩)] 45 :: ctM mr l :: (JJ [] ++ As)) := C.swap
  refine opW wideF rfl (by intro c h; cases h) (ex_loadV rfl rfl (ctB_ld C)) ?_
  simp only [Act.put, List.setIfInBounds_toArray, List.set_cons_succ, List.set_cons_zero]
  refine opC (f := 60) (args := #[.map (some mr)]) wideF rfl rfl (by intro c h; cases h) (ex_call rfl rfl (by simp [Act.eval]) (e60 _ _)) (callsIn_wide.2 ((c_Keys mr).call (As := _) (Cs := []) C trivial fun Bm m2 w2 hk hm2 _ C2 => ?_).h)
  refine ⟨_, rfl, ?_⟩
  simp only [Act.put, List.setIfInBounds_toArray, List.set_cons_succ, List.set_cons_zero]
  have C3 : Ctx F0 m0 w0 w2 [] m2 ([blk Bm [.map (some mr)] 89, ctM mr l] ++ (blk z [.pointer (some ⟨b, 0, none⟩)] 45 :: ctB b g mr :: (JJ [] ++ As))) :=
    C2.perm ((((List.Perm.swap _ _ _).trans ((List.Perm.swap _ _ _).cons _)).trans (List.Perm.swap _ _ _)).cons _)
  refine opC (f := 59) (args := #[.func (.func 68) #[] #[.pointer (some ⟨Bm, 0, none⟩)], .func (.func 61) #[] #[]]) wideF rfl rfl (by intro c h; cases h) (ex_call rfl rfl (by simp [Act.eval]) (e59 _ _)) (callsIn_wide.2 ((c_SortedFunc Bm mr l hl).call (As := _) C3 trivial fun v m3 w3 hk hm3 _ C4 => ?_).h)
  refine ⟨v, rfl, ?_⟩
  simp only [Act.put, List.setIfInBounds_toArray, List.set_cons_succ, List.set_cons_zero]
  obtain ⟨q, cap, rfl, -⟩ := C4.slO
  have hks : (sortBy cmpJ (l.map Prod.fst)).length = l.length := by rw [sortBy_len, List.length_map]
  have hmem : ∀ k ∈ sortBy cmpJ (l.map Prod.fst), k ∈ l.map Prod.fst := fun k h => (sortBy_perm cmpJ _).mem_iff.1 h
  generalize hksd : sortBy cmpJ (l.map Prod.fst) = ks at *
  refine opW wideF rfl (by intro c h; cases h) (ex_len rfl rfl (len122 q _ cap _)) ?_
  simp only [Act.put, List.setIfInBounds_toArray, List.set_cons_succ, List.set_cons_zero]
  refine opW (v := .int .i64 0) wideF rfl (by intro c h; cases h) (ex_moveV rfl rfl) ?_
  simp only [Act.put, List.setIfInBounds_toArray, List.set_cons_succ, List.set_cons_zero]
  refine wpListIn_nil ?_
  simp only [Exit.then]
  refine wpIn_block (wpIn_loop (fun a' w' => ∃ (j : Nat) (ys : List Ct) (m' : Mem) (t4 t13 t14 t15 t16 t17 t18 t19 t20 t21 t22 t23 t24 t25 t26 : Value),
      a' = ⟨#[.func (.yield ll) #[] #[], .pointer (some ⟨z, 0, none⟩), undef, undef, t4, .pointer (some ⟨b, 0, none⟩), .pointer (some ⟨b, 0, none⟩), .pointer (some ⟨b, 1, none⟩), .map (some mr), .func (.func 68) #[] #[.pointer (some ⟨Bm, 0, none⟩)], .slice q l.length cap, .int .i64 l.length, .int .i64 j, t13, t14, t15, t16, t17, t18, t19, t20, t21, t22, t23, t24, t25, t26], []⟩ ∧
      m3.le m' ∧ j ≤ l.length ∧ ys.length = j ∧ ys.map Ct.er = ((ks.take j).map (ctOf l)).map Ct.er ∧ (∀ y ∈ ys, CtM m' y) ∧
      Ctx F0 m0 w0 w' [] m' (slA (.slice q l.length cap) l.length (ks.flatMap jR) 53 10 :: ctM mr l :: blk z [.pointer (some ⟨b, 0, none⟩)] 45 :: ctB b g mr :: (JJ ys ++ As)))
    (fun a' _ => match a'.tmps.getD 12 undef with | .int _ j => ((l.length : Int) - j).toNat | _ => 0) ⟨0, [], m3, _, _, _, _, _, _, _, _, _, _, _, _, _, _, _, rfl, Mem.le_refl _, by omega, rfl, by simp, (fun y h => by cases h), C4⟩ ?_)
  rintro a' wr ⟨j, ys, m', t4, t13, t14, t15, t16, t17, t18, t19, t20, t21, t22, t23, t24, t25, t26, rfl, hm', hj, hyl, her, hyM, D⟩
  refine wpIn_seq (wpIn_region_lit ?_)
  by_cases hjl : j < l.length
  rotate_left
  · have h0 := lss3 (j : Int) (l.length : Int) wr
    rw [show decide ((j : Int) < (l.length : Int)) = false by simp; omega] at h0
    refine opW (v := .bool false) wideF rfl (by intro c h; cases h) (ex_binOp rfl rfl rfl h0) ?_
    simp only [Act.put, List.setIfInBounds_toArray, List.set_cons_succ, List.set_cons_zero]
    refine wpListIn_nil ?_
    simp only [Exit.then]
    refine wpIn_seq (wpIn_cond_false rfl (wpIn_exit ?_))
    simp only [Exit.then, Exit.inBlock, ↓reduceIte]
    have hjk : j = ks.length := by omega
    subst hjk
    rw [List.take_length] at her
    refine ⟨rfl, _, results_none rfl _ _ _, ⟨_, rfl⟩, ys, m', ⟨by rw [her, rowsC, hksd], hyM⟩, (hm2.le_trans hm3).le_trans hm', ?_⟩
    exact D.drop.perm (((List.Perm.swap _ _ _).trans ((List.Perm.swap _ _ _).cons _)))
  · have h0 := lss3 (j : Int) (l.length : Int) wr
    rw [show decide ((j : Int) < (l.length : Int)) = true by simp; omega] at h0
    refine opW (v := .bool true) wideF rfl (by intro c h; cases h) (ex_binOp rfl rfl rfl h0) ?_
    simp only [Act.put, List.setIfInBounds_toArray, List.set_cons_succ, List.set_cons_zero]
    refine wpListIn_nil ?_
    simp only [Exit.then]
    refine wpIn_seq (wpIn_cond_true rfl (wpIn_skip ?_))
    simp only [Exit.then]
    refine wpIn_seq (wpIn_block (wpIn_seq (wpIn_region_lit ?_)))
    have hc := D.slCells
    have hjk : j < ks.length := by omega
    have hne : ks.flatMap jR ≠ [] := fun e0 => by
      have h := congrArg List.length e0
      rw [flat_len jR_len] at h
      simp at h; omega
    cases q with
    | none => exact absurd (hc.2 rfl) hne
    | some qa =>
    have hcl := cells_elem jR_len (hc.1 qa rfl).1 j hjk
    refine opW wideF rfl (by intro c h; cases h) (ex_indexAddr rfl rfl rfl (run_indexAt_slc (z := 10) (by kernel_rfl) ⟨by omega, by omega⟩ qa _)) ?_
    simp only [Act.put, List.setIfInBounds_toArray, List.set_cons_succ, List.set_cons_zero]
    have hld : (Instr.loadAt 53 (.pointer (some (qa.add ((j : Int).toNat * 10))))).run Try.prog wr = .ok (jV ks[j]) wr := by
      have := run_loadVar_cells (P := Try.prog) (t := 53) (n := 10) (by kernel_rfl) (by kernel_rfl) (qa.add (j * 10)) (jR ks[j]) rfl hcl
      have e : Value.agg (jR ks[j]).toArray = jV ks[j] := rfl
      rw [e] at this
      simpa [Instr.loadAt, Instr.sureAddr, Sem.run_bind] using this
    refine opW wideF rfl (by intro c h; cases h) (ex_loadV rfl rfl hld) ?_
    simp only [Act.put, List.setIfInBounds_toArray, List.set_cons_succ, List.set_cons_zero]
    refine opW wideF rfl (by intro c h; cases h) (al53 _ _ rfl _) ?_
    simp only [Act.put, List.setIfInBounds_toArray, List.set_cons_succ, List.set_cons_zero]
    have D3 := D.alloc (I.V I.zero).cells.toList 53
    obtain ⟨w4, hr4, D4⟩ := D3.stAll (P := Try.prog) (t := 53) (jV ks[j]) (by kernel_rfl) (by rfl) (by rfl)
    refine opU wideF rfl (by intro c h; cases h) (ex_store rfl hr4) ?_
    simp only [Act.put, List.setIfInBounds_toArray, List.set_cons_succ, List.set_cons_zero]
    refine wpListIn_nil ?_
    simp only [Exit.then]
    generalize wr.heap.size = t5 at *
    refine wpIn_seq (wpIn_region_any (by kernel_rfl) ?_)
    have D5 := D4.drew
    have h4 : (Instr.loadAt 53 (.pointer (some ⟨t5, 0, none⟩))).run Try.prog w4.drew = .ok (jV ks[j]) w4.drew := D5.ldAgg (t := 53) (by kernel_rfl) (by kernel_rfl)
    have D6 : Ctx F0 m0 w0 w4.drew [] m' (blk z [.pointer (some ⟨b, 0, none⟩)] 45 :: ctM mr l :: slA (.slice (some qa) l.length cap) l.length (ks.flatMap jR) 53 10 :: ctB b g mr :: (JJ ys ++ As)) :=
      D5.drop.perm (((List.Perm.swap _ _ _).trans ((List.Perm.swap _ _ _).cons _)).trans (List.Perm.swap _ _ _))
    have hZ : (Instr.loadAt 45 (.pointer (some ⟨z, 0, none⟩))).run Try.prog w4.drew = .ok (.pointer (some ⟨b, 0, none⟩)) w4.drew := D6.ldOne (t := 45) (by kernel_rfl) (by kernel_rfl)
    have D7 : Ctx F0 m0 w0 w4.drew [] m' (ctB b g mr :: blk z [.pointer (some ⟨b, 0, none⟩)] 45 :: ctM mr l :: slA (.slice (some qa) l.length cap) l.length (ks.flatMap jR) 53 10 :: (JJ ys ++ As)) :=
      D6.perm ((List.perm_append_comm (l₁ := [_, _, _]) (l₂ := [_])).append_right (JJ ys ++ As))
    have D8 : Ctx F0 m0 w0 w4.drew [] m' (ctM mr l :: slA (.slice (some qa) l.length cap) l.length (ks.flatMap jR) 53 10 :: blk z [.pointer (some ⟨b, 0, none⟩)] 45 :: ctB b g mr :: (JJ ys ++ As)) := D5.drop.swap
    have hCt : CtM m' (ctOf l ks[j]) := by
      have h := hpre _ (hmem _ (List.getElem_mem hjk))
      exact ⟨h.1.mono ((hm2.le_trans hm3).le_trans hm'), h.2⟩
    have htk : ks.take (j + 1) = ks.take j ++ [ks[j]] := by rw [List.take_add_one, List.getElem?_eq_getElem hjk]; rfl
    have hMp := ctB_ld D7
    have hlk := look_ct D8 ks[j]
    generalize hct : ctOf l ks[j] = ct at *
    refine anyT (i := 0) (v := .func (.yield ll) #[] #[]) rfl rfl rfl (by kernel_rfl) (by kernel_rfl) (by kernel_rfl) (fun _ _ _ h => h) ⟨Or.inl ⟨by rfl, fun w => ex_moveV rfl rfl⟩, fun _ => rfl⟩ ?_
    simp only [Act.put, List.setIfInBounds_toArray, List.set_cons_succ, List.set_cons_zero]
    clear h0 hld D3 D4 hr4 hcl hc
    refine wpAnyIn_ready (rs := [1, 5]) (by kernel_rfl) (by simp) ?_
    refine anyV wideF rfl rfl rfl (by intro c h; cases h) (ex_loadV rfl rfl hZ) ?_ (anyV wideF rfl rfl rfl (by intro c h; cases h) (ex_loadV rfl rfl h4) ?_ AllReadyIn.nil)
    · simp only [Act.put, List.setIfInBounds_toArray, List.set_cons_succ, List.set_cons_zero]
      refine wpAnyIn_ready (rs := [2, 5]) (by kernel_rfl) (by simp) ?_
      refine anyV wideF rfl rfl rfl (by intro c h; cases h) (ex_nil rfl rfl) ?_ (anyV wideF rfl rfl rfl (by intro c h; cases h) (ex_loadV rfl rfl h4) ?_ AllReadyIn.nil)
      · simp only [Act.put, List.setIfInBounds_toArray, List.set_cons_succ, List.set_cons_zero]
        refine wpAnyIn_ready (rs := [3, 5]) (by kernel_rfl) (by simp) ?_
        refine anyV wideF rfl rfl rfl (by intro c h; cases h) (ex_fieldAddr rfl rfl (fa91 b _)) ?_ (anyV wideF rfl rfl rfl (by intro c h; cases h) (ex_loadV rfl rfl h4) ?_ AllReadyIn.nil)
        · simp only [Act.put, List.setIfInBounds_toArray, List.set_cons_succ, List.set_cons_zero]
          refine wpAnyIn_ready (rs := [4, 5]) (by kernel_rfl) (by simp) ?_
          refine anyV wideF rfl rfl rfl (by intro c h; cases h) (ex_loadV rfl rfl hMp) ?_ (anyV wideF rfl rfl rfl (by intro c h; cases h) (ex_loadV rfl rfl h4) ?_ AllReadyIn.nil)
          · simp only [Act.put, List.setIfInBounds_toArray, List.set_cons_succ, List.set_cons_zero]
            refine wpAnyIn_ready (rs := [5]) (by kernel_rfl) (by simp) ?_
            refine anyV wideF rfl rfl rfl (by intro c h; cases h) (ex_loadV rfl rfl h4) ?_ AllReadyIn.nil
            simp only [Act.put, List.setIfInBounds_toArray, List.set_cons_succ, List.set_cons_zero]
            refine wpAnyIn_ready (rs := [6]) (by kernel_rfl) (by simp) ?_
            refine anyV wideF rfl rfl rfl (by intro c h; cases h) (ex_lookup rfl rfl rfl hlk) ?_ AllReadyIn.nil
            simp only [Act.put, List.setIfInBounds_toArray, List.set_cons_succ, List.set_cons_zero]
            refine wpAnyIn_ready (rs := [7]) (by kernel_rfl) (by simp) ?_
            refine anyC (f := 31) (args := #[ct.V]) wideF rfl rfl rfl rfl (by intro c h; cases h) (ex_call rfl rfl (by simp [Act.eval]) (e31 _ _)) (callsIn_wide.2 ((c_clone ct).call (As := _) (Cs := []) D8 hCt fun qn m6 w6 hk6 hm6 hq D9 => ?_).h) AllReadyIn.nil
            refine ⟨_, rfl, ?_⟩
            simp only [Act.put, List.setIfInBounds_toArray, List.set_cons_succ, List.set_cons_zero]
            have DY : Ctx F0 m0 w0 w6 [] m6 (JJ ys ++ ([ctM mr l, slA (.slice (some qa) l.length cap) l.length (ks.flatMap jR) 53 10, blk z [.pointer (some ⟨b, 0, none⟩)] 45, ctB b g mr] ++ As)) := D9.perm (List.perm_append_comm_assoc [ctM mr l, slA (.slice (some qa) l.length cap) l.length (ks.flatMap jR) 53 10, blk z [.pointer (some ⟨b, 0, none⟩)] 45, ctB b g mr] _ _)
            have hcq : ({ ct with q := qn } : Ct).er = ct.er := rfl
            generalize ({ ct with q := qn } : Ct) = cq at *
            obtain ⟨fn, tmps, assign, body, hy, hRR⟩ := (hY ys cq (by omega)).round DY (n - 1)
            generalize Ct.V cq = V at hy ⊢
            refine wpAnyIn_ready (rs := [8]) (by kernel_rfl) (by simp) ?_
            refine anyY wideF rfl rfl rfl rfl (by intro c h; cases h) (ex_yield rfl rfl rfl hy) (hRR.mono ?_) AllReadyIn.nil
            rintro e w7 ⟨rfl, m7, -, hm7, D10⟩
            refine ⟨_, rfl, ?_⟩
            simp only [Act.put, List.setIfInBounds_toArray, List.set_cons_succ, List.set_cons_zero]
            refine wpAnyIn_ready (rs := [9]) (by kernel_rfl) (by simp) ?_
            refine anyV wideF rfl rfl rfl (by intro c h; cases h) (ex_not rfl rfl) ?_ AllReadyIn.nil
            simp only [Act.put, List.setIfInBounds_toArray, List.set_cons_succ, List.set_cons_zero]
            refine wpAnyIn_done (by kernel_rfl) ?_ _
            simp only [Exit.then]
            refine wpIn_cond_false rfl (wpIn_skip ?_)
            simp only [Exit.inBlock, Exit.then]
            refine wpIn_region_lit ?_
            refine opW wideF rfl (by intro c h; cases h) (ex_binOp rfl rfl rfl (add3 (j : Int) _)) ?_
            simp only [Act.put, List.setIfInBounds_toArray, List.set_cons_succ, List.set_cons_zero]
            refine opW (v := .int .i64 ((j + 1 : Nat) : Int)) wideF rfl (by intro c h; cases h) (ex_moveV rfl (by show Value.int .i64 (IntKind.wrap .i64 ((j : Int) + 1)) = _; rw [w_i64 (by omega) (by omega)]; rfl)) ?_
            simp only [Act.put, List.setIfInBounds_toArray, List.set_cons_succ, List.set_cons_zero]
            refine wpListIn_nil ?_
            simp only [Exit.then]
            have D11 : Ctx F0 m0 w0 w7 [] m7 (slA (.slice (some qa) l.length cap) l.length (ks.flatMap jR) 53 10 :: ctM mr l :: blk z [.pointer (some ⟨b, 0, none⟩)] 45 :: ctB b g mr :: (JJ (ys ++ [cq]) ++ As)) := (D10.perm (List.perm_append_comm_assoc _ [ctM mr l, slA (.slice (some qa) l.length cap) l.length (ks.flatMap jR) 53 10, blk z [.pointer (some ⟨b, 0, none⟩)] 45, ctB b g mr] As)).swap
            refine ⟨⟨j + 1, ys ++ [cq], m7, _, _, _, _, _, _, _, _, _, _, _, _, _, _, _, rfl, (hm'.le_trans hm6).le_trans hm7, hjl, by simp [hyl], by rw [htk, List.map_append, List.map_append, List.map_append, her]; simp [hct, hcq], fun y hy2 => ?_, D11⟩, ?_⟩
            · rcases List.mem_append.1 hy2 with h | h
              · have := hyM y h; exact ⟨this.1.mono (hm6.le_trans hm7), this.2⟩
              · simp only [List.mem_singleton] at h; subst h; exact ⟨hq.1.mono hm7, hq.2⟩
            · show ((l.length : Int) - ((j + 1 : Nat) : Int)).toNat < ((l.length : Int) - (j : Int)).toNat
              omega
          · simp only [Act.put, List.setIfInBounds_toArray, List.set_cons_succ, List.set_cons_zero]
            refine wpAnyIn_ready (rs := [4]) (by kernel_rfl) (by simp) ?_
            refine anyV wideF rfl rfl rfl (by intro c h; cases h) (ex_loadV rfl rfl hMp) ?_ AllReadyIn.nil
            simp only [Act.put, List.setIfInBounds_toArray, List.set_cons_succ, List.set_cons_zero]
            refine wpAnyIn_ready (rs := [6]) (by kernel_rfl) (by simp) ?_
            refine anyV wideF rfl rfl rfl (by intro c h; cases h) (ex_lookup rfl rfl rfl hlk) ?_ AllReadyIn.nil
            simp only [Act.put, List.setIfInBounds_toArray, List.set_cons_succ, List.set_cons_zero]
            refine wpAnyIn_ready (rs := [7]) (by kernel_rfl) (by simp) ?_
            refine anyC (f := 31) (args := #[ct.V]) wideF rfl rfl rfl rfl (by intro c h; cases h) (ex_call rfl rfl (by simp [Act.eval]) (e31 _ _)) (callsIn_wide.2 ((c_clone ct).call (As := _) (Cs := []) D8 hCt fun qn m6 w6 hk6 hm6 hq D9 => ?_).h) AllReadyIn.nil
            refine ⟨_, rfl, ?_⟩
            simp only [Act.put, List.setIfInBounds_toArray, List.set_cons_succ, List.set_cons_zero]
            have DY : Ctx F0 m0 w0 w6 [] m6 (JJ ys ++ ([ctM mr l, slA (.slice (some qa) l.length cap) l.length (ks.flatMap jR) 53 10, blk z [.pointer (some ⟨b, 0, none⟩)] 45, ctB b g mr] ++ As)) := D9.perm (List.perm_append_comm_assoc [ctM mr l, slA (.slice (some qa) l.length cap) l.length (ks.flatMap jR) 53 10, blk z [.pointer (some ⟨b, 0, none⟩)] 45, ctB b g mr] _ _)
            have hcq : ({ ct with q := qn } : Ct).er = ct.er := rfl
            generalize ({ ct with q := qn } : Ct) = cq at *
            obtain ⟨fn, tmps, assign, body, hy, hRR⟩ := (hY ys cq (by omega)).round DY (n - 1)
            generalize Ct.V cq = V at hy ⊢
            refine wpAnyIn_ready (rs := [8]) (by kernel_rfl) (by simp) ?_
            refine anyY wideF rfl rfl rfl rfl (by intro c h; cases h) (ex_yield rfl rfl rfl hy) (hRR.mono ?_) AllReadyIn.nil
            rintro e w7 ⟨rfl, m7, -, hm7, D10⟩
            refine ⟨_, rfl, ?_⟩
            simp only [Act.put, List.setIfInBounds_toArray, List.set_cons_succ, List.set_cons_zero]
            refine wpAnyIn_ready (rs := [9]) (by kernel_rfl) (by simp) ?_
            refine anyV wideF rfl rfl rfl (by intro c h; cases h) (ex_not rfl rfl) ?_ AllReadyIn.nil
            simp only [Act.put, List.setIfInBounds_toArray, List.set_cons_succ, List.set_cons_zero]
            refine wpAnyIn_done (by kernel_rfl) ?_ _
            simp only [Exit.then]
            refine wpIn_cond_false rfl (wpIn_skip ?_)
            simp only [Exit.inBlock, Exit.then]
            refine wpIn_region_lit ?_
            refine opW wideF rfl (by intro c h; cases h) (ex_binOp rfl rfl rfl (add3 (j : Int) _)) ?_
            simp only [Act.put, List.setIfInBounds_toArray, List.set_cons_succ, List.set_cons_zero]
            refine opW (v := .int .i64 ((j + 1 : Nat) : Int)) wideF rfl (by intro c h; cases h) (ex_moveV rfl (by show Value.int .i64 (IntKind.wrap .i64 ((j : Int) + 1)) = _; rw [w_i64 (by omega) (by omega)]; rfl)) ?_
            simp only [Act.put, List.setIfInBounds_toArray, List.set_cons_succ, List.set_cons_zero]
            refine wpListIn_nil ?_
            simp only [Exit.then]
            have D11 : Ctx F0 m0 w0 w7 [] m7 (slA (.slice (some qa) l.length cap) l.length (ks.flatMap jR) 53 10 :: ctM mr l :: blk z [.pointer (some ⟨b, 0, none⟩)] 45 :: ctB b g mr :: (JJ (ys ++ [cq]) ++ As)) := (D10.perm (List.perm_append_comm_assoc _ [ctM mr l, slA (.slice (some qa) l.length cap) l.length (ks.flatMap jR) 53 10, blk z [.pointer (some ⟨b, 0, none⟩)] 45, ctB b g mr] As)).swap
            refine ⟨⟨j + 1, ys ++ [cq], m7, _, _, _, _, _, _, _, _, _, _, _, _, _, _, _, rfl, (hm'.le_trans hm6).le_trans hm7, hjl, by simp [hyl], by rw [htk, List.map_append, List.map_append, List.map_append, her]; simp [hct, hcq], fun y hy2 => ?_, D11⟩, ?_⟩
            · rcases List.mem_append.1 hy2 with h | h
              · have := hyM y h; exact ⟨this.1.mono (hm6.le_trans hm7), this.2⟩
              · simp only [List.mem_singleton] at h; subst h; exact ⟨hq.1.mono hm7, hq.2⟩
            · show ((l.length : Int) - ((j + 1 : Nat) : Int)).toNat < ((l.length : Int) - (j : Int)).toNat
              omega
        · simp only [Act.put, List.setIfInBounds_toArray, List.set_cons_succ, List.set_cons_zero]
          refine wpAnyIn_ready (rs := [3]) (by kernel_rfl) (by simp) ?_
          refine anyV wideF rfl rfl rfl (by intro c h; cases h) (ex_fieldAddr rfl rfl (fa91 b _)) ?_ AllReadyIn.nil
          simp only [Act.put, List.setIfInBounds_toArray, List.set_cons_succ, List.set_cons_zero]
          refine wpAnyIn_ready (rs := [4]) (by kernel_rfl) (by simp) ?_
          refine anyV wideF rfl rfl rfl (by intro c h; cases h) (ex_loadV rfl rfl hMp) ?_ AllReadyIn.nil
          simp only [Act.put, List.setIfInBounds_toArray, List.set_cons_succ, List.set_cons_zero]
          refine wpAnyIn_ready (rs := [6]) (by kernel_rfl) (by simp) ?_
          refine anyV wideF rfl rfl rfl (by intro c h; cases h) (ex_lookup rfl rfl rfl hlk) ?_ AllReadyIn.nil
          simp only [Act.put, List.setIfInBounds_toArray, List.set_cons_succ, List.set_cons_zero]
          refine wpAnyIn_ready (rs := [7]) (by kernel_rfl) (by simp) ?_
          refine anyC (f := 31) (args := #[ct.V]) wideF rfl rfl rfl rfl (by intro c h; cases h) (ex_call rfl rfl (by simp [Act.eval]) (e31 _ _)) (callsIn_wide.2 ((c_clone ct).call (As := _) (Cs := []) D8 hCt fun qn m6 w6 hk6 hm6 hq D9 => ?_).h) AllReadyIn.nil
          refine ⟨_, rfl, ?_⟩
          simp only [Act.put, List.setIfInBounds_toArray, List.set_cons_succ, List.set_cons_zero]
          have DY : Ctx F0 m0 w0 w6 [] m6 (JJ ys ++ ([ctM mr l, slA (.slice (some qa) l.length cap) l.length (ks.flatMap jR) 53 10, blk z [.pointer (some ⟨b, 0, none⟩)] 45, ctB b g mr] ++ As)) := D9.perm (List.perm_append_comm_assoc [ctM mr l, slA (.slice (some qa) l.length cap) l.length (ks.flatMap jR) 53 10, blk z [.pointer (some ⟨b, 0, none⟩)] 45, ctB b g mr] _ _)
          have hcq : ({ ct with q := qn } : Ct).er = ct.er := rfl
          generalize ({ ct with q := qn } : Ct) = cq at *
          obtain ⟨fn, tmps, assign, body, hy, hRR⟩ := (hY ys cq (by omega)).round DY (n - 1)
          generalize Ct.V cq = V at hy ⊢
          refine wpAnyIn_ready (rs := [8]) (by kernel_rfl) (by simp) ?_
          refine anyY wideF rfl rfl rfl rfl (by intro c h; cases h) (ex_yield rfl rfl rfl hy) (hRR.mono ?_) AllReadyIn.nil
          rintro e w7 ⟨rfl, m7, -, hm7, D10⟩
          refine ⟨_, rfl, ?_⟩
          simp only [Act.put, List.setIfInBounds_toArray, List.set_cons_succ, List.set_cons_zero]
          refine wpAnyIn_ready (rs := [9]) (by kernel_rfl) (by simp) ?_
          refine anyV wideF rfl rfl rfl (by intro c h; cases h) (ex_not rfl rfl) ?_ AllReadyIn.nil
          simp only [Act.put, List.setIfInBounds_toArray, List.set_cons_succ, List.set_cons_zero]
          refine wpAnyIn_done (by kernel_rfl) ?_ _
          simp only [Exit.then]
          refine wpIn_cond_false rfl (wpIn_skip ?_)
          simp only [Exit.inBlock, Exit.then]
          refine wpIn_region_lit ?_
          refine opW wideF rfl (by intro c h; cases h) (ex_binOp rfl rfl rfl (add3 (j : Int) _)) ?_
          simp only [Act.put, List.setIfInBounds_toArray, List.set_cons_succ, List.set_cons_zero]
          refine opW (v := .int .i64 ((j + 1 : Nat) : Int)) wideF rfl (by intro c h; cases h) (ex_moveV rfl (by show Value.int .i64 (IntKind.wrap .i64 ((j : Int) + 1)) = _; rw [w_i64 (by omega) (by omega)]; rfl)) ?_
          simp only [Act.put, List.setIfInBounds_toArray, List.set_cons_succ, List.set_cons_zero]
          refine wpListIn_nil ?_
          simp only [Exit.then]
          have D11 : Ctx F0 m0 w0 w7 [] m7 (slA (.slice (some qa) l.length cap) l.length (ks.flatMap jR) 53 10 :: ctM mr l :: blk z [.pointer (some ⟨b, 0, none⟩)] 45 :: ctB b g mr :: (JJ (ys ++ [cq]) ++ As)) := (D10.perm (List.perm_append_comm_assoc _ [ctM mr l, slA (.slice (some qa) l.length cap) l.length (ks.flatMap jR) 53 10, blk z [.pointer (some ⟨b, 0, none⟩)] 45, ctB b g mr] As)).swap
          refine ⟨⟨j + 1, ys ++ [cq], m7, _, _, _, _, _, _, _, _, _, _, _, _, _, _, _, rfl, (hm'.le_trans hm6).le_trans hm7, hjl, by simp [hyl], by rw [htk, List.map_append, List.map_append, List.map_append, her]; simp [hct, hcq], fun y hy2 => ?_, D11⟩, ?_⟩
          · rcases List.mem_append.1 hy2 with h | h
            · have := hyM y h; exact ⟨this.1.mono (hm6.le_trans hm7), this.2⟩
            · simp only [List.mem_singleton] at h; subst h; exact ⟨hq.1.mono hm7, hq.2⟩
          · show ((l.length : Int) - ((j + 1 : Nat) : Int)).toNat < ((l.length : Int) - (j : Int)).toNat
            omega
      · simp only [Act.put, List.setIfInBounds_toArray, List.set_cons_succ, List.set_cons_zero]
        refine wpAnyIn_ready (rs := [2]) (by kernel_rfl) (by simp) ?_
        refine anyV wideF rfl rfl rfl (by intro c h; cases h) (ex_nil rfl rfl) ?_ AllReadyIn.nil
        simp only [Act.put, List.setIfInBounds_toArray, List.set_cons_succ, List.set_cons_zero]
        refine wpAnyIn_ready (rs := [3]) (by kernel_rfl) (by simp) ?_
        refine anyV wideF rfl rfl rfl (by intro c h; cases h) (ex_fieldAddr rfl rfl (fa91 b _)) ?_ AllReadyIn.nil
        simp only [Act.put, List.setIfInBounds_toArray, List.set_cons_succ, List.set_cons_zero]
        refine wpAnyIn_ready (rs := [4]) (by kernel_rfl) (by simp) ?_
        refine anyV wideF rfl rfl rfl (by intro c h; cases h) (ex_loadV rfl rfl hMp) ?_ AllReadyIn.nil
        simp only [Act.put, List.setIfInBounds_toArray, List.set_cons_succ, List.set_cons_zero]
        refine wpAnyIn_ready (rs := [6]) (by kernel_rfl) (by simp) ?_
        refine anyV wideF rfl rfl rfl (by intro c h; cases h) (ex_lookup rfl rfl rfl hlk) ?_ AllReadyIn.nil
        simp only [Act.put, List.setIfInBounds_toArray, List.set_cons_succ, List.set_cons_zero]
        refine wpAnyIn_ready (rs := [7]) (by kernel_rfl) (by simp) ?_
        refine anyC (f := 31) (args := #[ct.V]) wideF rfl rfl rfl rfl (by intro c h; cases h) (ex_call rfl rfl (by simp [Act.eval]) (e31 _ _)) (callsIn_wide.2 ((c_clone ct).call (As := _) (Cs := []) D8 hCt fun qn m6 w6 hk6 hm6 hq D9 => ?_).h) AllReadyIn.nil
        refine ⟨_, rfl, ?_⟩
        simp only [Act.put, List.setIfInBounds_toArray, List.set_cons_succ, List.set_cons_zero]
        have DY : Ctx F0 m0 w0 w6 [] m6 (JJ ys ++ ([ctM mr l, slA (.slice (some qa) l.length cap) l.length (ks.flatMap jR) 53 10, blk z [.pointer (some ⟨b, 0, none⟩)] 45, ctB b g mr] ++ As)) := D9.perm (List.perm_append_comm_assoc [ctM mr l, slA (.slice (some qa) l.length cap) l.length (ks.flatMap jR) 53 10, blk z [.pointer (some ⟨b, 0, none⟩)] 45, ctB b g mr] _ _)
        have hcq : ({ ct with q := qn } : Ct).er = ct.er := rfl
        generalize ({ ct with q := qn } : Ct) = cq at *
        obtain ⟨fn, tmps, assign, body, hy, hRR⟩ := (hY ys cq (by omega)).round DY (n - 1)
        generalize Ct.V cq = V at hy ⊢
        refine wpAnyIn_ready (rs := [8]) (by kernel_rfl) (by simp) ?_
        refine anyY wideF rfl rfl rfl rfl (by intro c h; cases h) (ex_yield rfl rfl rfl hy) (hRR.mono ?_) AllReadyIn.nil
        rintro e w7 ⟨rfl, m7, -, hm7, D10⟩
        refine ⟨_, rfl, ?_⟩
        simp only [Act.put, List.setIfInBounds_toArray, List.set_cons_succ, List.set_cons_zero]
        refine wpAnyIn_ready (rs := [9]) (by kernel_rfl) (by simp) ?_
        refine anyV wideF rfl rfl rfl (by intro c h; cases h) (ex_not rfl rfl) ?_ AllReadyIn.nil
        simp only [Act.put, List.setIfInBounds_toArray, List.set_cons_succ, List.set_cons_zero]
        refine wpAnyIn_done (by kernel_rfl) ?_ _
        simp only [Exit.then]
        refine wpIn_cond_false rfl (wpIn_skip ?_)
        simp only [Exit.inBlock, Exit.then]
        refine wpIn_region_lit ?_
        refine opW wideF rfl (by intro c h; cases h) (ex_binOp rfl rfl rfl (add3 (j : Int) _)) ?_
        simp only [Act.put, List.setIfInBounds_toArray, List.set_cons_succ, List.set_cons_zero]
        refine opW (v := .int .i64 ((j + 1 : Nat) : Int)) wideF rfl (by intro c h; cases h) (ex_moveV rfl (by show Value.int .i64 (IntKind.wrap .i64 ((j : Int) + 1)) = _; rw [w_i64 (by omega) (by omega)]; rfl)) ?_
        simp only [Act.put, List.setIfInBounds_toArray, List.set_cons_succ, List.set_cons_zero]
        refine wpListIn_nil ?_
        simp only [Exit.then]
        have D11 : Ctx F0 m0 w0 w7 [] m7 (slA (.slice (some qa) l.length cap) l.length (ks.flatMap jR) 53 10 :: ctM mr l :: blk z [.pointer (some ⟨b, 0, none⟩)] 45 :: ctB b g mr :: (JJ (ys ++ [cq]) ++ As)) := (D10.perm (List.perm_append_comm_assoc _ [ctM mr l, slA (.slice (some qa) l.length cap) l.length (ks.flatMap jR) 53 10, blk z [.pointer (some ⟨b, 0, none⟩)] 45, ctB b g mr] As)).swap
        refine ⟨⟨j + 1, ys ++ [cq], m7, _, _, _, _, _, _, _, _, _, _, _, _, _, _, _, rfl, (hm'.le_trans hm6).le_trans hm7, hjl, by simp [hyl], by rw [htk, List.map_append, List.map_append, List.map_append, her]; simp [hct, hcq], fun y hy2 => ?_, D11⟩, ?_⟩
        · rcases List.mem_append.1 hy2 with h | h
          · have := hyM y h; exact ⟨this.1.mono (hm6.le_trans hm7), this.2⟩
          · simp only [List.mem_singleton] at h; subst h; exact ⟨hq.1.mono hm7, hq.2⟩
        · show ((l.length : Int) - ((j + 1 : Nat) : Int)).toNat < ((l.length : Int) - (j : Int)).toNat
          omega
    · simp only [Act.put, List.setIfInBounds_toArray, List.set_cons_succ, List.set_cons_zero]
      refine wpAnyIn_ready (rs := [1]) (by kernel_rfl) (by simp) ?_
      refine anyV wideF rfl rfl rfl (by intro c h; cases h) (ex_loadV rfl rfl hZ) ?_ AllReadyIn.nil
      simp only [Act.put, List.setIfInBounds_toArray, List.set_cons_succ, List.set_cons_zero]
      refine wpAnyIn_ready (rs := [2]) (by kernel_rfl) (by simp) ?_
      refine anyV wideF rfl rfl rfl (by intro c h; cases h) (ex_nil rfl rfl) ?_ AllReadyIn.nil
      simp only [Act.put, List.setIfInBounds_toArray, List.set_cons_succ, List.set_cons_zero]
      refine wpAnyIn_ready (rs := [3]) (by kernel_rfl) (by simp) ?_
      refine anyV wideF rfl rfl rfl (by intro c h; cases h) (ex_fieldAddr rfl rfl (fa91 b _)) ?_ AllReadyIn.nil
      simp only [Act.put, List.setIfInBounds_toArray, List.set_cons_succ, List.set_cons_zero]
      refine wpAnyIn_ready (rs := [4]) (by kernel_rfl) (by simp) ?_
      refine anyV wideF rfl rfl rfl (by intro c h; cases h) (ex_loadV rfl rfl hMp) ?_ AllReadyIn.nil
      simp only [Act.put, List.setIfInBounds_toArray, List.set_cons_succ, List.set_cons_zero]
      refine wpAnyIn_ready (rs := [6]) (by kernel_rfl) (by simp) ?_
      refine anyV wideF rfl rfl rfl (by intro c h; cases h) (ex_lookup rfl rfl rfl hlk) ?_ AllReadyIn.nil
      simp only [Act.put, List.setIfInBounds_toArray, List.set_cons_succ, List.set_cons_zero]
      refine wpAnyIn_ready (rs := [7]) (by kernel_rfl) (by simp) ?_
      refine anyC (f := 31) (args := #[ct.V]) wideF rfl rfl rfl rfl (by intro c h; cases h) (ex_call rfl rfl (by simp [Act.eval]) (e31 _ _)) (callsIn_wide.2 ((c_clone ct).call (As := _) (Cs := []) D8 hCt fun qn m6 w6 hk6 hm6 hq D9 => ?_).h) AllReadyIn.nil
      refine ⟨_, rfl, ?_⟩
      simp only [Act.put, List.setIfInBounds_toArray, List.set_cons_succ, List.set_cons_zero]
      have DY : Ctx F0 m0 w0 w6 [] m6 (JJ ys ++ ([ctM mr l, slA (.slice (some qa) l.length cap) l.length (ks.flatMap jR) 53 10, blk z [.pointer (some ⟨b, 0, none⟩)] 45, ctB b g mr] ++ As)) := D9.perm (List.perm_append_comm_assoc [ctM mr l, slA (.slice (some qa) l.length cap) l.length (ks.flatMap jR) 53 10, blk z [.pointer (some ⟨b, 0, none⟩)] 45, ctB b g mr] _ _)
      have hcq : ({ ct with q := qn } : Ct).er = ct.er := rfl
      generalize ({ ct with q := qn } : Ct) = cq at *
      obtain ⟨fn, tmps, assign, body, hy, hRR⟩ := (hY ys cq (by omega)).round DY (n - 1)
      generalize Ct.V cq = V at hy ⊢
      refine wpAnyIn_ready (rs := [8]) (by kernel_rfl) (by simp) ?_
      refine anyY wideF rfl rfl rfl rfl (by intro c h; cases h) (ex_yield rfl rfl rfl hy) (hRR.mono ?_) AllReadyIn.nil
      rintro e w7 ⟨rfl, m7, -, hm7, D10⟩
      refine ⟨_, rfl, ?_⟩
      simp only [Act.put, List.setIfInBounds_toArray, List.set_cons_succ, List.set_cons_zero]
      refine wpAnyIn_ready (rs := [9]) (by kernel_rfl) (by simp) ?_
      refine anyV wideF rfl rfl rfl (by intro c h; cases h) (ex_not rfl rfl) ?_ AllReadyIn.nil
      simp only [Act.put, List.setIfInBounds_toArray, List.set_cons_succ, List.set_cons_zero]
      refine wpAnyIn_done (by kernel_rfl) ?_ _
      simp only [Exit.then]
      refine wpIn_cond_false rfl (wpIn_skip ?_)
      simp only [Exit.inBlock, Exit.then]
      refine wpIn_region_lit ?_
      refine opW wideF rfl (by intro c h; cases h) (ex_binOp rfl rfl rfl (add3 (j : Int) _)) ?_
      simp only [Act.put, List.setIfInBounds_toArray, List.set_cons_succ, List.set_cons_zero]
      refine opW (v := .int .i64 ((j + 1 : Nat) : Int)) wideF rfl (by intro c h; cases h) (ex_moveV rfl (by show Value.int .i64 (IntKind.wrap .i64 ((j : Int) + 1)) = _; rw [w_i64 (by omega) (by omega)]; rfl)) ?_
      simp only [Act.put, List.setIfInBounds_toArray, List.set_cons_succ, List.set_cons_zero]
      refine wpListIn_nil ?_
      simp only [Exit.then]
      have D11 : Ctx F0 m0 w0 w7 [] m7 (slA (.slice (some qa) l.length cap) l.length (ks.flatMap jR) 53 10 :: ctM mr l :: blk z [.pointer (some ⟨b, 0, none⟩)] 45 :: ctB b g mr :: (JJ (ys ++ [cq]) ++ As)) := (D10.perm (List.perm_append_comm_assoc _ [ctM mr l, slA (.slice (some qa) l.length cap) l.length (ks.flatMap jR) 53 10, blk z [.pointer (some ⟨b, 0, none⟩)] 45, ctB b g mr] As)).swap
      refine ⟨⟨j + 1, ys ++ [cq], m7, _, _, _, _, _, _, _, _, _, _, _, _, _, _, _, rfl, (hm'.le_trans hm6).le_trans hm7, hjl, by simp [hyl], by rw [htk, List.map_append, List.map_append, List.map_append, her]; simp [hct, hcq], fun y hy2 => ?_, D11⟩, ?_⟩
      · rcases List.mem_append.1 hy2 with h | h
        · have := hyM y h; exact ⟨this.1.mono (hm6.le_trans hm7), this.2⟩
        · simp only [List.mem_singleton] at h; subst h; exact ⟨hq.1.mono hm7, hq.2⟩
      · show ((l.length : Int) - ((j + 1 : Nat) : Int)).toNat < ((l.length : Int) - (j : Int)).toNat
        omega
end Go.Proofs
namespace Go.Proofs
open Go X RowKit
theorem al62 (ρ : Operand → Value) (o : Oper) (ho : o.op = .alloc 62) (w : World) :
    (execOp ρ o).run Try.prog w = .ok (.value (.pointer (some ⟨w.heap.size, 0, none⟩))) (w.alloc (.cells (Ct.V Ct.zero).cells.toList.toArray 62)) := by
  have h : (Instr.alloc 62 true (.tuple #[])).run Try.prog w = .ok (.pointer (some ⟨w.heap.size, 0, none⟩)) (w.alloc (.cells (Ct.V Ct.zero).cells.toList.toArray 62)) := nev_run (by kernel_rfl)
  simp only [execOp, ho, Sem.run_bind, h]
  rfl
abbrev cC (r : Ct) : List Value := (Ct.V r).cells.toList
/-- the loop's own code, as the program has it -/
noncomputable def aqA : Code := rfA (blkC (sq2 (sq1 (sq2 (Try.f57.body.getD .skip)))))
noncomputable def aqB : Code := rfB (blkC (sq2 (sq1 (sq2 (Try.f57.body.getD .skip)))))
noncomputable def aqR (fn : FuncId) (sv : Value) (B D : Nat) (st : LoopState) : Loop :=
  { state := st, pending := none, fn, tmps := #[.slice none 0 0, sv, .pointer (some ⟨B, 0, none⟩), undef, .slice none 0 0, undef, sv, undef, undef, undef, undef, undef, undef], params := #[7], assign := aqA, body := aqB, defers := D }
noncomputable abbrev aqJ (fn : FuncId) (sv : Value) (B D l : Nat) (ys : List Ct) : List Asn :=
  [objB l (.loop (aqR fn sv B D .ready)), objB D (.deferred (some [])), Asn.ex fun v : Value => Asn.all [blk B [v] 83, slA v ys.length (ys.flatMap cC) 62 22]]
theorem bs62 (x : Ct) (w : World) : (Instr.buildSlice 83 1 #[(0, (Ct.V x))]).run Try.prog w = .ok (.slice (some ⟨w.heap.size, 0, none⟩) 1 1) (w.alloc (.cells (cC x).toArray 62)) := nev_run (by kernel_rfl)
theorem bx83 (v : Value) (hv : oneC v = true) (w : World) : (Instr.box 83 v).run Try.prog w = .ok (.pointer (some ⟨w.heap.size, 0, none⟩)) (w.alloc (.cells #[v] 83)) := by
  cases v <;> first | (cases hv; done) | exact nev_run (by kernel_rfl)
theorem cC_len (x : Ct) : (cC x).length = 22 := rfl
set_option maxHeartbeats 1000000 in
theorem aqY (fn : FuncId) (sv : Value) (B D l N : Nat) (hN : N * 200 ≤ 140737488355328) (ys : List Ct) (x : Ct) (hl : ys.length < N) :
    YCtr Try.prog l #[(Ct.V x)] (aqJ fn sv B D l ys) (aqJ fn sv B D l (ys ++ [x])) := by
  intro n w F m C
  have hL := C.objAt.1
  refine ⟨fn, #[.slice none 0 0, sv, .pointer (some ⟨B, 0, none⟩), undef, .slice none 0 0, undef, sv, (Ct.V x), undef, undef, undef, undef, undef], aqA, aqB, (run_yield (P := Try.prog) (args := #[(Ct.V x)]) hL rfl).trans (by simp [aqR]), roundIn_of_wpIn trivial ?_⟩
  show Code.wpIn _ n _ (Code.region 2 _ false) _ _ _
  refine wpIn_region_lit ?_
  refine opW (roundF l) rfl (by intro c h; cases h) (al62 _ _ rfl _) ?_
  simp only [Act.put, List.setIfInBounds_toArray, List.set_cons_succ, List.set_cons_zero]
  have C3 := C.alloc (Ct.V Ct.zero).cells.toList 62
  obtain ⟨w4, hr4, C4⟩ := C3.stAll (P := Try.prog) (t := 62) (Ct.V x) (by kernel_rfl) (by rfl) (by rfl)
  refine opU (roundF l) rfl (by intro c h; cases h) (ex_store rfl hr4) ?_
  simp only [Act.put, List.setIfInBounds_toArray, List.set_cons_succ, List.set_cons_zero]
  refine wpListIn_nil ?_
  simp only [Exit.then]
  generalize w.heap.size = t5 at *
  have C5 := C4.pm [1, 0, 2, 3] rfl
  have hL5 := C5.objAt.1
  refine ⟨_, run_beginRound (P := Try.prog) hL5 rfl, ?_⟩
  obtain ⟨-, C6⟩ := C5.objTurn (o' := .loop (aqR fn sv B D .busy))
  generalize hw6 : w4.putObj l _ = w6
  have e6 : w6 = { w4 with heap := w4.heap.setIfInBounds l (.loop (aqR fn sv B D .busy)) } := by rw [← hw6]; rfl
  rw [← e6] at C6
  clear e6 hw6
  replace C6 := C6.pm [3, 1, 0, 2] rfl
  obtain ⟨v, C6⟩ := C6.ex
  replace C6 := C6.all
  show Code.wpIn _ n _ (Code.block 1 (Code.region 3 _ false)) _ _ _
  refine wpIn_block (wpIn_region_lit ?_)
  refine opW (roundF l) rfl (by intro c h; cases h) (ex_load rfl (C6.ldOne (t := 83) (by kernel_rfl) (by kernel_rfl))) ?_
  simp only [Act.put, List.setIfInBounds_toArray, List.set_cons_succ, List.set_cons_zero]
  replace C6 := C6.pm [2, 0, 1, 3, 4] rfl
  refine opW (roundF l) rfl (by intro c h; cases h) (ex_load rfl (C6.ldAgg (t := 62) (by kernel_rfl) (by kernel_rfl))) ?_
  simp only [Act.put, List.setIfInBounds_toArray, List.set_cons_succ, List.set_cons_zero]
  replace C6 := C6.drop
  refine opW (roundF l) rfl (by intro c h; cases h) (ex_buildSlice rfl rfl (bs62 x _)) ?_
  simp only [Act.put, List.setIfInBounds_toArray, List.set_cons_succ, List.set_cons_zero]
  have C7 := (C6.alloc (cC x) 62).pm [2, 0, 1, 3, 4] rfl
  have hs : Src (w6.alloc (.cells (cC x).toArray 62)) 22 (.slice (some ⟨w6.heap.size, 0, none⟩) 1 1) 1 (cC x) :=
    Src.some _ _ _ _ rfl (Ctx.blkCells (C7.pm [1, 0, 2, 3, 4] rfl) fun j v h => by simpa using h)
  obtain ⟨q, cap, w8, hr8, -, C8⟩ := C7.app (P := Try.prog) (t := 83) (t2 := 83) (bytes := 170) 83 (by kernel_rfl) hs (by omega) (List.all_eq_true.1 (show (cC x).all oneC = true from rfl))
  refine opW (roundF l) rfl (by intro c h; cases h) (ex_append rfl rfl rfl hr8) ?_
  simp only [Act.put, List.setIfInBounds_toArray, List.set_cons_succ, List.set_cons_zero]
  replace C8 := C8.pk [2, 0, 3, 4] [1] rfl
  obtain ⟨w9, hr9, C9⟩ := C8.stAll (P := Try.prog) (t := 83) (.slice q (ys.length + 1) cap) (by kernel_rfl) rfl rfl
  refine opU (roundF l) rfl (by intro c h; cases h) (ex_store rfl hr9) ?_
  simp only [Act.put, List.setIfInBounds_toArray, List.set_cons_succ, List.set_cons_zero]
  refine wpListIn_nil ?_
  simp only [Exit.inBlock]
  replace C9 := C9.pm [2, 0, 1, 3] rfl
  refine ⟨_, _, run_endRound (P := Try.prog) none C9.objAt.1, rfl, m, [], ?_⟩
  show Ctx F m w { w9 with heap := w9.heap.setIfInBounds l (.loop (aqR fn sv B D .ready)) } [] m _
  obtain ⟨-, C10⟩ := C9.objTurn (o' := .loop (aqR fn sv B D .ready))
  replace C10 : Ctx F m w { w9 with heap := w9.heap.setIfInBounds l (.loop (aqR fn sv B D .ready)) } [] m ([blk B [.slice q (ys.length + 1) cap] 83, slA (.slice q (ys.length + 1) cap) (ys ++ [x]).length ((ys ++ [x]).flatMap cC) 62 22] ++ [objB l (.loop (aqR fn sv B D .ready)), objB D (.deferred (some []))]) := by
    have := C10.pm [1, 2, 0, 3] rfl
    simpa [sel, nth, show (Value.slice q (ys.length + 1) cap).cells.toList = [.slice q (ys.length + 1) cap] from rfl] using this
  have C11 : Ctx F m w { w9 with heap := w9.heap.setIfInBounds l (.loop (aqR fn sv B D .ready)) } [] m ((Asn.ex fun v : Value => Asn.all [blk B [v] 83, slA v (ys ++ [x]).length ((ys ++ [x]).flatMap cC) 62 22]) :: [objB l (.loop (aqR fn sv B D .ready)), objB D (.deferred (some []))]) := Ctx.exI (.slice q (ys.length + 1) cap) (Ctx.allI C10)
  exact C11.pm [1, 2, 0] rfl
set_option maxHeartbeats 1000000 in
/-- slices.AppendSeq, against whatever iterator -/
theorem as57 (g : FuncId) (lb : Array Value) (pre : Mem → Prop) (Cs Ds : List Asn) (S : List Ct → Mem → Prop) (N : Nat) (hs : SeqM Try.prog g lb Ct.V pre Cs Ds S N) (hN : N * 200 ≤ 140737488355328) (eg : ∀ args w, (callFunc g args).run Try.prog w = .ok (.enter g args) w)
    (n : Nat) (F0 : List Nat) (m0 : Mem) (w0 w : World) (m : Mem) (As : List Asn) (hp : pre m) (C : Ctx F0 m0 w0 w [] m (Cs ++ As)) :
    CallsIn Fence.wide n Try.prog 57 #[.slice none 0 0, .func (.func g) #[] lb] w fun e w' => ∃ ys v m', S ys m' ∧ e = .returned v ∧ m.le m' ∧ Ctx F0 m0 w0 w' [] m' (slA v ys.length (ys.flatMap cC) 62 22 :: (Ds ++ As)) := by
  refine callsIn_of_wp_marks Try.func57 rfl trivial ?_ rfl
  simp only [Try.ntmps57, List.size_toArray, List.length_cons, List.length_nil, Nat.reduceAdd, Nat.reduceSub, Array.replicate_succ, Array.replicate_zero, List.push_toArray, List.append_toArray, List.nil_append, List.cons_append]
  refine wpIn_seq (wpIn_region_lit ?_)
  refine opW wideF rfl (by intro c h; cases h) (ex_box rfl rfl (bx83 (.slice none 0 0) rfl _)) ?_
  simp only [Act.put, List.setIfInBounds_toArray, List.set_cons_succ, List.set_cons_zero]
  have C1 := (C.alloc [.slice none 0 0] 83)
  generalize hB : w.heap.size = B at *
  generalize hw1 : w.alloc (Obj.cells #[Value.slice none 0 0] 83) = w1 at *
  refine opW (v := .slice none 0 0) wideF rfl (by intro c h; cases h) (ex_assignV rfl rfl) ?_
  simp only [Act.put, List.setIfInBounds_toArray, List.set_cons_succ, List.set_cons_zero]
  refine wpListIn_nil ?_
  simp only [Exit.then]
  refine wpIn_seq (wpIn_seq (wpIn_region_lit ?_))
  refine opW (v := .func (.func g) #[] lb) wideF rfl (by intro c h; cases h) (ex_moveV rfl rfl) ?_
  simp only [Act.put, List.setIfInBounds_toArray, List.set_cons_succ, List.set_cons_zero]
  refine wpListIn_nil ?_
  simp only [Exit.then]
  refine wpIn_block (wpIn_rangeFunc ?_)
  intro fn _
  have C2 := C1.newO (A := objB w1.heap.size (.deferred (some []))) (.deferred (some [])) ⟨rfl, World.alloc_heap_new _ _⟩
  generalize hD : w1.heap.size = D at *
  have C3 := C2.newO (A := objB (w1.alloc (.deferred (some []))).heap.size (.loop (aqR fn (.func (.func g) #[] lb) B D .ready))) (.loop (aqR fn (.func (.func g) #[] lb) B D .ready)) ⟨rfl, World.alloc_heap_new _ _⟩
  have hl : (w1.alloc (.deferred (some []))).heap.size = D + 1 := by rw [World.size_alloc, hD]
  rw [hl] at C3
  generalize hw3 : (w1.alloc (.deferred (some []))).alloc (.loop (aqR fn (.func (.func g) #[] lb) B D .ready)) = w3 at *
  have hent : (Instr.enterLoop fn #[.slice none 0 0, .func (.func g) #[] lb, .pointer (some ⟨B, 0, none⟩), undef, .slice none 0 0, undef, .func (.func g) #[] lb, undef, undef, undef, undef, undef, undef] #[7] aqA aqB none).run Try.prog w1 = .ok (D + 1, [{ target := .collected D, args := #[] }]) w3 := by
    rw [run_enterLoop_outer, ← hw3, ← hD]; rfl
  refine ⟨D + 1, [{ target := .collected D, args := #[] }], w3, { target := .fn (.func g) lb, args := #[.func (.yield (D + 1)) #[] #[]] }, w3, g, #[.func (.yield (D + 1)) #[] #[]] ++ lb, w3, hent, ?_, fun _ _ => trivial, ?_, fun h => absurd h (by decide), ?_⟩
  · simp [Go.resolve, Deferred.ofValue, go_sem]
  · simp [invoke, eg]
  · have C4 : Ctx F0 m0 w0 w3 [] m (Cs ++ (aqJ fn (.func (.func g) #[] lb) B D (D + 1) [] ++ As)) := by
      have C3a : Ctx F0 m0 w0 w3 [] m ([blk B [.slice none 0 0] 83, slA (.slice none 0 0) 0 [] 62 22] ++ ([objB (D + 1) (.loop (aqR fn (.func (.func g) #[] lb) B D .ready)), objB D (.deferred (some []))] ++ (Cs ++ As))) := (Ctx.slNil (q := none) (ty := 62) (sz := 22) C3.third).swap
      have C3b := Ctx.exI (f := fun v : Value => Asn.all [blk B [v] 83, slA v 0 [] 62 22]) (.slice none 0 0) (Ctx.allI C3a)
      have C3c : Ctx F0 m0 w0 w3 [] m (aqJ fn (.func (.func g) #[] lb) B D (D + 1) [] ++ (Cs ++ As)) := C3b.perm (List.Perm.append_right (Cs ++ As) (List.perm_append_comm (l₁ := [_]) (l₂ := [_, _])))
      exact C3c.perm (List.perm_append_comm_assoc _ Cs As)
    refine (hs (n - 1) (D + 1) (aqJ fn (.func (.func g) #[] lb) B D (D + 1)) (fun ys x hlt => aqY fn _ B D (D + 1) N hN ys x hlt) F0 m0 w0 w3 m As hp C4).mono ?_
    rintro e w5 ⟨⟨v, rfl⟩, ys, m', hS, hm, C5⟩
    replace C5 := C5.perm (List.perm_append_comm_assoc Ds _ As)
    refine ⟨none, _, run_endLoop (P := Try.prog) C5.objAt.1 (by simp [aqR]), ?_⟩
    obtain ⟨-, C6⟩ := C5.objTurn (o' := .loop { aqR fn (.func (.func g) #[] lb) B D .ready with state := .exhausted })
    replace C6 : Ctx F0 m0 w0 _ [] m' (objB (D + 1) _ :: objB D _ :: (Asn.ex fun v : Value => Asn.all [blk B [v] 83, slA v ys.length (ys.flatMap cC) 62 22]) :: (Ds ++ As)) := C6
    obtain ⟨v, C7⟩ := C6.drop.swap.ex
    replace C7 := C7.all
    simp only [Exit.inBlock, Exit.then]
    refine wpIn_seq (wpIn_region_lit ?_)
    refine opW (v := v) wideF rfl (by intro c h; cases h) (ex_load rfl (C7.ldOne (t := 83) (by kernel_rfl) (by kernel_rfl))) ?_
    simp only [Act.put, List.setIfInBounds_toArray, List.set_cons_succ, List.set_cons_zero]
    refine opW (v := v) wideF rfl (by intro c h; cases h) (ex_assignV rfl rfl) ?_
    simp only [Act.put, List.setIfInBounds_toArray, List.set_cons_succ, List.set_cons_zero]
    refine wpListIn_nil ?_
    simp only [Exit.then]
    refine wpIn_ret ?_
    have C8 := C7.drop.swap
    obtain ⟨-, C9⟩ := C8.objTurn (o' := .deferred none)
    refine ⟨by simp, .inl ⟨_, _, rfl, run_takeDeferred C8.objAt.1, ?_⟩⟩
    exact ⟨_, results_tmp rfl _ _ _, ys, v, m', hS, rfl, hm, C9.drop⟩
end Go.Proofs
namespace Go.Proofs
open Go X RowKit Go.Sort
theorem e58 : ∀ args w, (callFunc 58 args).run Try.prog w = .ok (.enter 58 args) w := fun args w => enters Try.func58 (by kernel_rfl) rfl args w
theorem e57 : ∀ args w, (callFunc 57 args).run Try.prog w = .ok (.enter 57 args) w := fun args w => enters Try.func57 (by kernel_rfl) rfl args w
/-- slices.Collect of a table's continuations -/
theorem c_CollectC (z b mr : Nat) (g : Int) (l : List (J × Ct)) (hl : l.length ≤ 1000000) :
    Ctr Try.prog 48 #[.func (.func 58) #[] #[.pointer (some ⟨z, 0, none⟩)]] (fun m => ∀ k ∈ l.map Prod.fst, CtM m (ctOf l k)) [blk z [.pointer (some ⟨b, 0, none⟩)] 45, ctB b g mr, ctM mr l] (fun i : Value × List Ct => i.1) (fun i m => i.2.map Ct.er = (rowsC l).map Ct.er ∧ ∀ y ∈ i.2, CtM m y)
      (fun i => [slA i.1 i.2.length (i.2.flatMap cC) 62 22, blk z [.pointer (some ⟨b, 0, none⟩)] 45, ctB b g mr, ctM mr l]) := by
  refine Ctr.mk fun w F m C hpre => (callsIn_wide (n := 9)).1 ?_
  refine callsIn_of_wp Try.func48 rfl trivial ?_ rfl
  simp only [Try.ntmps48, List.size_toArray, List.length_cons, List.length_nil, Nat.reduceAdd, Nat.reduceSub, Array.replicate_succ, Array.replicate_zero, List.push_toArray, List.append_toArray, List.nil_append, List.cons_append]
  refine wpIn_seq (wpIn_region_lit ?_)
  refine opW (v := .slice none 0 0) wideF rfl (by intro c h; cases h) (ex_assignV rfl rfl) ?_
  simp only [Act.put, List.setIfInBounds_toArray, List.set_cons_succ, List.set_cons_zero]
  refine wpListIn_nil ?_
  simp only [Exit.then]
  refine wpIn_seq (wpIn_region_lit ?_)
  refine opW (v := .func (.func 58) #[] #[.pointer (some ⟨z, 0, none⟩)]) wideF rfl (by intro c h; cases h) (ex_moveV rfl rfl) ?_
  simp only [Act.put, List.setIfInBounds_toArray, List.set_cons_succ, List.set_cons_zero]
  refine opC (f := 57) (args := #[.slice none 0 0, .func (.func 58) #[] #[.pointer (some ⟨z, 0, none⟩)]]) wideF rfl rfl (by intro c h; cases h) ?_ ((as57 58 _ _ _ _ _ _ (it58 z b mr g l hl) (by omega) e58 8 F m w w m [] hpre C).mono ?_)
  · simp [execOp, Go.resolve, Deferred.ofValue, invoke, Act.eval, Sem.run_bind, e57]
  rintro e w' ⟨ys, v, m', hp, rfl, hm, C3⟩
  refine ⟨v, rfl, ?_⟩
  simp only [Act.put, List.setIfInBounds_toArray, List.set_cons_succ, List.set_cons_zero]
  refine opW (v := v) wideF rfl (by intro c h; cases h) (ex_assignV rfl rfl) ?_
  simp only [Act.put, List.setIfInBounds_toArray, List.set_cons_succ, List.set_cons_zero]
  refine wpListIn_nil ?_
  simp only [Exit.then]
  refine wpIn_ret ?_
  refine ⟨rfl, _, results_tmp rfl _ _ _, (v, ys), m', [], rfl, hp, ?_⟩
  exact C3
end Go.Proofs
namespace Go.Proofs
open Go X RowKit Go.Sort
theorem c_each (b : Nat) : Ctr Try.prog 49 #[.pointer (some ⟨b, 0, none⟩)] noMem [] (fun z : Nat => .func (.func 58) #[] #[.pointer (some ⟨z, 0, none⟩)]) (fun _ _ => True) (fun z => [blk z [.pointer (some ⟨b, 0, none⟩)] 45]) := by
  refine Ctr.mk fun w F m C _ => x_cont_Table_each _ w _ ?_
  exact ⟨w.heap.size, m, [], rfl, trivial, C.alloc [.pointer (some ⟨b, 0, none⟩)] 45⟩
theorem c_none (b : Nat) (g : Int) (mr : Nat) : Ctr Try.prog 28 #[.pointer (some ⟨b, 0, none⟩)] noMem [ctB b g mr] (fun _ : Unit => .bool false) (fun _ _ => True) (fun _ => [ctB b g mr]) := by
  refine Ctr.mk fun w F m C _ => x_cont_Table_none _ w _ ?_
  exact ⟨some mr, by simpa [Addr.add_mid] using C.blkCell (j := 1) rfl, Ctr.ret () rfl trivial C⟩
/-- All: clones of all that wait, in their order -/
theorem c_All (b mr : Nat) (g : Int) (l : List (J × Ct)) (hl : l.length ≤ 1000000) :
    Ctr Try.prog 24 #[.pointer (some ⟨b, 0, none⟩)] (fun m => ∀ k ∈ l.map Prod.fst, CtM m (ctOf l k)) [ctB b g mr, ctM mr l] (fun i : (Option Addr × Nat) × List Ct => .slice i.1.1 i.2.length i.1.2) (fun i m => i.2.map Ct.er = (rowsC l).map Ct.er ∧ ∀ y ∈ i.2, CtM m y)
      (fun i => [slA (.slice i.1.1 i.2.length i.1.2) i.2.length (i.2.flatMap cC) 62 22, ctB b g mr, ctM mr l]) := by
  refine Ctr.mk fun w F m C hpre => x_cont_Table_All _ w _ ?_
  refine (c_none b g mr).call (As := [ctM mr l]) C trivial fun _ m1 w2 hk hm _ C => ⟨_, rfl, hk.size, ?_⟩
  rw [if_neg (by decide)]
  refine (c_each b).call (As := [ctB b g mr, ctM mr l]) C trivial fun z m2 w3 hk hm2 _ C => ⟨_, rfl, hk.size, ?_⟩
  refine (c_CollectC z b mr g l hl).call (As := []) C (fun k h => ⟨(hpre k h).1.mono (hm.le_trans hm2), (hpre k h).2⟩) fun i m3 w4 hk hm3 hp C => ?_
  obtain ⟨v, ys⟩ := i
  replace C : Ctx F m w w4 [] m3 [slA v ys.length (ys.flatMap cC) 62 22, blk z [.pointer (some ⟨b, 0, none⟩)] 45, ctB b g mr, ctM mr l] := C
  obtain ⟨q, cap, rfl, -⟩ := C.slO
  refine ⟨q, ys.length, cap, rfl, hk.size, ?_⟩
  exact Ctr.ret ((q, cap), ys) rfl hp (C.pk [0, 2, 3] [1] rfl)
end Go.Proofs
namespace Go.Proofs
open Go X RowKit Go.Sort
theorem look_ctT {F0 : List Nat} {m0 : Mem} {w0 w : World} {L : List Nat} {m : Mem} {As : List Asn} {mr : Nat} {l : List (J × Ct)} (C : Ctx F0 m0 w0 w L m (ctM mr l :: As)) (d : J) : (Instr.lookup 89 (.map (some mr)) (jV d) true).run Try.prog w = .ok (.tuple #[(ctOf l d).V, .bool (fnd d l).isSome]) w := by
  obtain ⟨i, hi, hz⟩ := Option.bind_eq_some_iff.1 z62
  have := Ctx.mlook (P := Try.prog) t89 key53 hi hz C d true
  rw [this, ctOf]
  cases fnd d l <;> rfl
theorem c_New (g : Int) (hg : g < 4) : Ctr Try.prog 6 #[.int .u8 g] noMem [] (fun y : Nat × Nat => .pointer (some ⟨y.1, 0, none⟩)) (fun _ _ => True) (fun y => [ctB y.1 g y.2, ctM y.2 []]) := by
  refine Ctr.mk fun w F m C _ => x_cont_New _ w _ ?_
  rw [if_neg (by simp; omega)]
  have C1 := C.mapNew jV Ct.V
  have C2 := C1.alloc [.int .u8 g, .map (some w.heap.size)] 91
  exact Ctr.ret (m' := m) (L := []) ((w.alloc (.map #[] 0)).heap.size, w.heap.size) rfl trivial C2
theorem c_Len (b mr : Nat) (g : Int) (l : List (J × Ct)) : Ctr Try.prog 21 #[.pointer (some ⟨b, 0, none⟩)] noMem [ctB b g mr, ctM mr l] (fun _ : Unit => .int .i64 l.length) (fun _ _ => True) (fun _ => [ctB b g mr, ctM mr l]) := by
  refine Ctr.mk fun w F m C _ => x_cont_Table_Len _ w _ ?_
  refine (c_none b g mr).call (As := [ctM mr l]) C trivial fun _ m1 w2 hk hm _ C => ⟨_, rfl, hk.size, ?_⟩
  rw [if_neg (by decide)]
  refine ⟨some mr, by simpa [Addr.add_mid] using C.blkCell (j := 1) rfl, _, w2, Ctx.mlen (P := Try.prog) (ty := 3) t89 C.swap, Nat.le_refl _, ?_⟩
  exact Ctr.ret () rfl trivial C
theorem c_Has (b mr : Nat) (g : Int) (l : List (J × Ct)) (d : J) : Ctr Try.prog 25 #[.pointer (some ⟨b, 0, none⟩), jV d] noMem [ctB b g mr, ctM mr l] (fun _ : Unit => .bool (fnd d l).isSome) (fun _ _ => True) (fun _ => [ctB b g mr, ctM mr l]) := by
  refine Ctr.mk fun w F m C _ => x_cont_Table_Has _ _ _ _ _ _ _ _ _ _ _ w _ fun w1 L2 h1 g1 => ?_
  refine (c_none b g mr).call (As := [ctM mr l]) (C.hidL h1 g1) trivial fun _ m1 w4 hk hm _ C => ⟨_, rfl, hk, ?_⟩
  rw [if_neg (by decide)]
  have hf : ∀ {w' L'} {As' : List Asn}, Ctx F m w w' L' m1 (ctB b g mr :: As') → FactsW [(⟨b, 1, none⟩, [.map (some mr)])] w' L' := fun C => C.blkFact1 1 _ rfl (facts_nil _ _)
  refine ⟨_, hf C, some mr, by simp [Addr.add_mid], fun w8 L9 h8 g8 => ?_, fun w8 L9 h8 g8 => ?_⟩
  all_goals
    replace C := C.hidL h8 g8
    refine ⟨_, _, _, _, _, _, _, _, _, _, _, _, _, _, _, _, _, _, _, _, _, _, _, _, _, w8, look_ctT C.swap d, kept_refl _ _, hf C, fun w36 h36 => ?_⟩
    exact Ctr.ret () rfl trivial (C.hid0 h36)
end Go.Proofs
