import Derived.Test.YtfbjellaijdgbaaDoorU06f
set_option linter.unusedVariables false
set_option linter.unusedSimpArgs false
set_option maxRecDepth 10000
namespace Go.Proofs
open Go X RowKit
theorem fa30 (b : Nat) (w : World) : (Instr.fieldAt 30 (.pointer (some ⟨b, 0, none⟩)) 2).run Tryd.prog w = .ok (.pointer (some ⟨b, 2, none⟩)) w := pev_run (by kernel_rfl) w
theorem len28 (q : Option Addr) (n c : Nat) (w : World) : (Builtin.len_ #[28] 3 #[.slice q n c]).run Tryd.prog w = .ok (.int .i64 n) w := pev_run (by kernel_rfl) w
theorem lss3 (a b : Int) (w : World) : (do eqGuard .lss 3 (.tmp 9) (.tmp 8) (.int .i64 a) (.int .i64 b); binOp .lss 3 (.int .i64 a) (.int .i64 b) : Sem Value).run Tryd.prog w = .ok (.bool (decide (a < b))) w := pev_run (by kernel_rfl) w
theorem add3 (a : Int) (w : World) : (do eqGuard .add 3 (.tmp 9) (.const (.int .i64 1)) (.int .i64 a) (.int .i64 1); binOp .add 3 (.int .i64 a) (.int .i64 1) : Sem Value).run Tryd.prog w = .ok (.int .i64 (IntKind.wrap .i64 (a + 1))) w := pev_run (by kernel_rfl) w
abbrev vwB (z : Nat) (v : Vw) : Asn := blk z v.row 30
theorem vwB_ld {F0 : List Nat} {m0 : Mem} {w0 w : World} {L : List Nat} {m : Mem} {As : List Asn} {z : Nat} {v : Vw} (C : Ctx F0 m0 w0 w L m (vwB z v :: As)) : (Instr.loadAt 28 (.pointer (some ⟨z, 2, none⟩))).run Tryd.prog w = .ok (slV v.q v.ms.length) w := by
  have := run_loadVar_one (P := Tryd.prog) (t := 28) (by kernel_rfl) (by kernel_rfl) ⟨z, 2, none⟩ (slV v.q v.ms.length) (C.blkCell (j := 2) rfl)
  simpa [Instr.loadAt, Instr.sureAddr, Sem.run_bind] using this
abbrev sdB (z : Nat) (g : FuncId) (lb : Array Value) : Asn := blk z [.func (.func g) #[] lb] 52
set_option maxHeartbeats 2000000 in
/-- the members of whom something is said, one a round -/
theorem it42 (zv zs : Nat) (v : Vw) (hl : v.ms.length ≤ 1000000) (g : FuncId) (lb : Array Value) (said : Pr → Bool) (pre : Mem → Prop) (hpre : ∀ m m', pre m → m.le m' → pre m') (Ks : List Asn) (hS : SaidC g lb said pre Ks) :
    SeqM Tryd.prog 42 #[.pointer (some ⟨zv, 0, none⟩), .pointer (some ⟨zs, 0, none⟩)] prV (fun m => VwM m v ∧ pre m) (vwB zv v :: sdB zs g lb :: Ks) (vwB zv v :: sdB zs g lb :: Ks)
      (fun ys _ => ys = v.ms.filter said) (v.ms.length + 1) := by
  intro n ll JJ hY F0 m0 w0 w m As hp C
  refine callsIn_of_wp Tryd.func42 rfl trivial ?_ rfl
  simp only [Tryd.ntmps42, List.size_toArray, List.length_cons, List.length_nil, Nat.reduceAdd, Nat.reduceSub, Array.replicate_succ, Array.replicate_zero, List.push_toArray, List.append_toArray, List.nil_append, List.cons_append]
  refine wpIn_seq (wpIn_region_lit ?_)
  refine opW wideF rfl (by intro c h; cases h) (ex_fieldAddr rfl rfl (fa30 zv _)) ?_
  simp only [Act.put, List.setIfInBounds_toArray, List.set_cons_succ, List.set_cons_zero]
  refine opW wideF rfl (by intro c h; cases h) (ex_loadV rfl rfl (vwB_ld C)) ?_
  simp only [Act.put, List.setIfInBounds_toArray, List.set_cons_succ, List.set_cons_zero]
  refine opW wideF rfl (by intro c h; cases h) (ex_len rfl rfl (len28 v.q.1 _ v.q.2 _)) ?_
  simp only [Act.put, List.setIfInBounds_toArray, List.set_cons_succ, List.set_cons_zero]
  refine opW (v := .int .i64 0) wideF rfl (by intro c h; cases h) (ex_moveV rfl rfl) ?_
  simp only [Act.put, List.setIfInBounds_toArray, List.set_cons_succ, List.set_cons_zero]
  refine wpListIn_nil ?_
  simp only [Exit.then]
  obtain ⟨hv, hk⟩ := hp
  refine wpIn_block (wpIn_loop (fun a' w' => ∃ (j : Nat) (m' : Mem) (t3 t4 t5 t10 t11 t12 t13 t14 t15 t16 t17 t18 t19 t20 t21 t22 : Value),
      a' = ⟨#[.func (.yield ll) #[] #[], .pointer (some ⟨zv, 0, none⟩), .pointer (some ⟨zs, 0, none⟩), t3, t4, t5, .pointer (some ⟨zv, 2, none⟩), .slice v.q.1 v.ms.length v.q.2, .int .i64 v.ms.length, .int .i64 j, t10, t11, t12, t13, t14, t15, t16, t17, t18, t19, t20, t21, t22], []⟩ ∧
      m.le m' ∧ j ≤ v.ms.length ∧ Ctx F0 m0 w0 w' [] m' ((vwB zv v :: sdB zs g lb :: Ks) ++ (JJ ((v.ms.take j).filter said) ++ As)))
    (fun a' _ => match a'.tmps.getD 9 undef with | .int _ j => ((v.ms.length : Int) - j).toNat | _ => 0) ⟨0, m, _, _, _, _, _, _, _, _, _, _, _, _, _, _, _, _, rfl, Mem.le_refl _, by omega, C⟩ ?_)
  clear C
  rintro a' wr ⟨j, m', t3, t4, t5, t10, t11, t12, t13, t14, t15, t16, t17, t18, t19, t20, t21, t22, rfl, hm', hj, D⟩
  refine wpIn_seq (wpIn_region_lit ?_)
  by_cases hjl : j < v.ms.length
  rotate_left
  · have h0 := lss3 (j : Int) (v.ms.length : Int) wr
    rw [show decide ((j : Int) < (v.ms.length : Int)) = false by simp; omega] at h0
    refine opW (v := .bool false) wideF rfl (by intro c h; cases h) (ex_binOp rfl rfl rfl h0) ?_
    simp only [Act.put, List.setIfInBounds_toArray, List.set_cons_succ, List.set_cons_zero]
    refine wpListIn_nil ?_
    simp only [Exit.then]
    refine wpIn_seq (wpIn_cond_false rfl (wpIn_exit ?_))
    simp only [Exit.then, Exit.inBlock, ↓reduceIte]
    have hjk : j = v.ms.length := by omega
    subst hjk
    rw [List.take_length] at D
    exact ⟨rfl, _, results_none rfl _ _ _, ⟨_, rfl⟩, _, m', rfl, hm', D⟩
  have h0 := lss3 (j : Int) (v.ms.length : Int) wr
  rw [show decide ((j : Int) < (v.ms.length : Int)) = true by simp; omega] at h0
  refine opW (v := .bool true) wideF rfl (by intro c h; cases h) (ex_binOp rfl rfl rfl h0) ?_
  simp only [Act.put, List.setIfInBounds_toArray, List.set_cons_succ, List.set_cons_zero]
  refine wpListIn_nil ?_
  simp only [Exit.then]
  refine wpIn_seq (wpIn_cond_true rfl (wpIn_skip ?_))
  simp only [Exit.then]
  refine wpIn_seq (wpIn_block (wpIn_seq (wpIn_region_lit ?_)))
  obtain ⟨qa, hqa, hc⟩ := (MSrc.mono hv hm').elem pr_len hjl
  have hqa : v.q.1 = some qa := hqa
  have hcl := D.cells hc
  rw [hqa]
  refine opW wideF rfl (by intro c h; cases h) (ex_indexAddr rfl rfl rfl (run_indexAt_slc (z := 2) (by kernel_rfl) ⟨by omega, by omega⟩ qa _)) ?_
  simp only [Act.put, List.setIfInBounds_toArray, List.set_cons_succ, List.set_cons_zero]
  have hld : (Instr.loadAt 48 (.pointer (some (qa.add ((j : Int).toNat * 2))))).run Tryd.prog wr = .ok (prV v.ms[j]) wr := by
    have := run_loadVar_cells (P := Tryd.prog) (t := 48) (n := 2) (by kernel_rfl) (by kernel_rfl) (qa.add (j * 2)) v.ms[j].row rfl hcl
    simpa [Instr.loadAt, Instr.sureAddr, Sem.run_bind] using this
  refine opW wideF rfl (by intro c h; cases h) (ex_loadV rfl rfl hld) ?_
  simp only [Act.put, List.setIfInBounds_toArray, List.set_cons_succ, List.set_cons_zero]
  refine opW wideF rfl (by intro c h; cases h) (al48 _ _ rfl _) ?_
  simp only [Act.put, List.setIfInBounds_toArray, List.set_cons_succ, List.set_cons_zero]
  have D3 := D.alloc [.int .u8 0, .int .u16 0] 48
  obtain ⟨w4, hr4, D4⟩ := D3.stAll (P := Tryd.prog) (t := 48) (prV v.ms[j]) (by kernel_rfl) (by rfl) (by rfl)
  refine opU wideF rfl (by intro c h; cases h) (ex_store rfl hr4) ?_
  simp only [Act.put, List.setIfInBounds_toArray, List.set_cons_succ, List.set_cons_zero]
  refine wpListIn_nil ?_
  simp only [Exit.then]
  generalize wr.heap.size = t5 at *
  have hstf : (v.ms.take (j + 1)).filter said = (v.ms.take j).filter said ++ (if said v.ms[j] = true then [v.ms[j]] else []) := by
    rw [List.take_succ_eq_append_getElem hjl, List.filter_append]
    congr 1
    cases h : said v.ms[j] <;> simp [h]
  have hlen : ((v.ms.take j).filter said).length < v.ms.length + 1 := by
    have := List.length_filter_le said (v.ms.take j)
    rw [List.length_take] at this; omega
  generalize v.ms[j] = p at *
  have h4 : ∀ {L} {m5} {As5} {w5 : World}, Ctx F0 m0 w0 w5 L m5 (blk t5 (prV p).cells.toList 48 :: As5) → (Instr.loadAt 48 (.pointer (some ⟨t5, 0, none⟩))).run Tryd.prog w5 = .ok (prV p) w5 := fun E => E.ldAgg (t := 48) (by kernel_rfl) (by kernel_rfl)
  have D5 : Ctx F0 m0 w0 w4 [] m' (sdB zs g lb :: (vwB zv v :: blk t5 (prV p).cells.toList 48 :: (Ks ++ (JJ ((v.ms.take j).filter said) ++ As)))) := D4.perm (((List.Perm.swap _ _ _).cons _).trans ((List.Perm.swap _ _ _).trans ((List.Perm.swap _ _ _).cons _)))
  have hZ : (Instr.loadAt 52 (.pointer (some ⟨zs, 0, none⟩))).run Tryd.prog w4 = .ok (.func (.func g) #[] lb) w4 := D5.ldOne (t := 52) (by kernel_rfl) (by kernel_rfl)
  refine wpIn_seq (wpIn_region_lit ?_)
  refine opW wideF rfl (by intro c h; cases h) (ex_loadV rfl rfl hZ) ?_
  simp only [Act.put, List.setIfInBounds_toArray, List.set_cons_succ, List.set_cons_zero]
  refine opW wideF rfl (by intro c h; cases h) (ex_loadV rfl rfl (h4 D4)) ?_
  simp only [Act.put, List.setIfInBounds_toArray, List.set_cons_succ, List.set_cons_zero]
  have D6 : Ctx F0 m0 w0 w4 [] m' (Ks ++ ([blk t5 (prV p).cells.toList 48, vwB zv v, sdB zs g lb] ++ (JJ ((v.ms.take j).filter said) ++ As))) := D4.perm (List.perm_append_comm_assoc [blk t5 (prV p).cells.toList 48, vwB zv v, sdB zs g lb] Ks _)
  refine opC (f := g) (args := #[prV p] ++ lb) wideF rfl rfl (by intro c h; cases h) (ex_callL (vs := #[prV p]) rfl rfl (by simp [Act.eval]) rfl (hS.ent _ _)) (callsIn_wide.2 ((hS.say p).call D6 (hpre _ _ hk hm') fun _ m5 w7 hk5 hm5 _ D7 => ?_).h)
  refine ⟨_, rfl, ?_⟩
  simp only [Act.put, List.setIfInBounds_toArray, List.set_cons_succ, List.set_cons_zero]
  have D8 : Ctx F0 m0 w0 w7 [] m5 ([blk t5 (prV p).cells.toList 48, vwB zv v, sdB zs g lb] ++ (Ks ++ (JJ ((v.ms.take j).filter said) ++ As))) := D7.perm (List.perm_append_comm_assoc Ks [blk t5 (prV p).cells.toList 48, vwB zv v, sdB zs g lb] _)
  have e : Value.int .i64 (IntKind.wrap .i64 ((j : Int) + 1)) = .int .i64 ((j + 1 : Nat) : Int) := by rw [w_i64 (by omega) (by omega)]; rfl
  cases hsp : said p with
  | false =>
    rw [hsp, if_neg (by decide), List.append_nil] at hstf
    refine opW (v := .bool false) wideF rfl (by intro c h; cases h) (ex_moveV rfl rfl) ?_
    simp only [Act.put, List.setIfInBounds_toArray, List.set_cons_succ, List.set_cons_zero]
    refine opSk wideF rfl ?_
    simp only [Act.put, List.setIfInBounds_toArray, List.set_cons_succ, List.set_cons_zero]
    refine opSk wideF rfl ?_
    simp only [Act.put, List.setIfInBounds_toArray, List.set_cons_succ, List.set_cons_zero]
    refine opSk wideF rfl ?_
    simp only [Act.put, List.setIfInBounds_toArray, List.set_cons_succ, List.set_cons_zero]
    refine opSk wideF rfl ?_
    simp only [Act.put, List.setIfInBounds_toArray, List.set_cons_succ, List.set_cons_zero]
    refine opW (v := .bool false) wideF rfl (by intro c h; cases h) (ex_pick (b := false) rfl rfl rfl) ?_
    simp only [Act.put, List.setIfInBounds_toArray, List.set_cons_succ, List.set_cons_zero]
    refine wpListIn_nil ?_
    simp only [Exit.then]
    refine wpIn_cond_false rfl (wpIn_skip ?_)
    simp only [Exit.inBlock, Exit.then]
    refine wpIn_region_lit ?_
    refine opW wideF rfl (by intro c h; cases h) (ex_binOp rfl rfl rfl (add3 (j : Int) _)) ?_
    simp only [Act.put, List.setIfInBounds_toArray, List.set_cons_succ, List.set_cons_zero]
    refine opW (v := .int .i64 ((j + 1 : Nat) : Int)) wideF rfl (by intro c h; cases h) (ex_moveV rfl e) ?_
    simp only [Act.put, List.setIfInBounds_toArray, List.set_cons_succ, List.set_cons_zero]
    refine wpListIn_nil ?_
    simp only [Exit.then]
    refine ⟨⟨j + 1, m5, _, _, _, _, _, _, _, _, _, _, _, _, _, _, _, _, rfl, hm'.le_trans hm5, hjl, by rw [hstf]; exact D8.drop⟩, ?_⟩
    show ((v.ms.length : Int) - ((j + 1 : Nat) : Int)).toNat < ((v.ms.length : Int) - (j : Int)).toNat
    omega
  | true =>
    rw [hsp, if_pos rfl] at hstf
    refine opW (v := .bool true) wideF rfl (by intro c h; cases h) (ex_moveV rfl rfl) ?_
    simp only [Act.put, List.setIfInBounds_toArray, List.set_cons_succ, List.set_cons_zero]
    refine opWg (v := .func (.yield ll) #[] #[]) wideF rfl (by intro c h; cases h) (ex_moveV rfl rfl) ?_
    simp only [Act.put, List.setIfInBounds_toArray, List.set_cons_succ, List.set_cons_zero]
    refine opWg wideF rfl (by intro c h; cases h) (ex_loadV rfl rfl (h4 D8)) ?_
    simp only [Act.put, List.setIfInBounds_toArray, List.set_cons_succ, List.set_cons_zero]
    have D9 : Ctx F0 m0 w0 w7 [] m5 (JJ ((v.ms.take j).filter said) ++ ((vwB zv v :: sdB zs g lb :: Ks) ++ As)) := D8.drop.perm (List.perm_append_comm_assoc (vwB zv v :: sdB zs g lb :: Ks) _ _)
    obtain ⟨fn, tmps, assign, body, hy, hRR⟩ := (hY _ p hlen).round D9 (n - 1)
    refine opYg wideF rfl rfl (by intro c h; cases h) (ex_yield rfl rfl rfl hy) (hRR.mono ?_)
    rintro e9 w9 ⟨rfl, m9, -, hm9, D10⟩
    refine ⟨_, rfl, ?_⟩
    simp only [Act.put, List.setIfInBounds_toArray, List.set_cons_succ, List.set_cons_zero]
    refine opWg wideF rfl (by intro c h; cases h) (ex_not rfl rfl) ?_
    simp only [Act.put, List.setIfInBounds_toArray, List.set_cons_succ, List.set_cons_zero]
    refine opW (v := .bool false) wideF rfl (by intro c h; cases h) (ex_pick (b := true) rfl rfl rfl) ?_
    simp only [Act.put, List.setIfInBounds_toArray, List.set_cons_succ, List.set_cons_zero]
    refine wpListIn_nil ?_
    simp only [Exit.then]
    refine wpIn_cond_false rfl (wpIn_skip ?_)
    simp only [Exit.inBlock, Exit.then]
    refine wpIn_region_lit ?_
    refine opW wideF rfl (by intro c h; cases h) (ex_binOp rfl rfl rfl (add3 (j : Int) _)) ?_
    simp only [Act.put, List.setIfInBounds_toArray, List.set_cons_succ, List.set_cons_zero]
    refine opW (v := .int .i64 ((j + 1 : Nat) : Int)) wideF rfl (by intro c h; cases h) (ex_moveV rfl e) ?_
    simp only [Act.put, List.setIfInBounds_toArray, List.set_cons_succ, List.set_cons_zero]
    refine wpListIn_nil ?_
    simp only [Exit.then]
    refine ⟨⟨j + 1, m9, _, _, _, _, _, _, _, _, _, _, _, _, _, _, _, _, rfl, (hm'.le_trans hm5).le_trans hm9, hjl, by rw [hstf]; exact D10.perm (List.perm_append_comm_assoc _ (vwB zv v :: sdB zs g lb :: Ks) As)⟩, ?_⟩
    show ((v.ms.length : Int) - ((j + 1 : Nat) : Int)).toNat < ((v.ms.length : Int) - (j : Int)).toNat
    omega
end Go.Proofs
