import Derived.Test.YtpijekgiblcfhaaU14i
set_option linter.unusedVariables false
set_option linter.unusedSimpArgs false
set_option maxRecDepth 10000
namespace Go.Proofs
open Go X RowKit
def insR (L : List Rw) (d : I) : List Rw := (L.take (fK L d) ++ [Rw.fresh d]) ++ L.drop (fK L d)
def beginR (r : Rt) (d : I) : Int × Rt := if d.right then (if stateR r d = 1 ∨ stateR r d = 2 then (4, r) else if stateR r d = 3 then (16, r) else if stateR r d = 4 then (10, r) else (0, { r with L := insR r.L d })) else (1, r)
theorem rw_one (x : Rw) : ∀ u ∈ x.row, oneC u = true := by intro u h; simp [Rw.row] at h; rcases h with rfl | rfl | rfl | rfl | rfl | rfl | rfl | rfl | rfl | rfl | rfl | rfl | rfl <;> rfl
theorem rws_one (l : List Rw) : ∀ u ∈ l.flatMap Rw.row, oneC u = true := flat_one rw_one l
section
variable {F0 : List Nat} {m0 : Mem} {w0 w : World} {L : List Nat} {m : Mem} {As : List Asn} {A0 : Asn}
/-- rows of an owned slice, put behind another's -/
theorem app_take {p : Sl} {l out : List Rw} {q : Option Addr} {c : Nat} (hl : l.length ≤ 100000) (ho : out.length ≤ 100001) (k : Nat) (hk : k ≤ l.length) (c2 : Nat) (C : Ctx F0 m0 w0 w L m (A0 :: rwsA p l :: rwsA (q, c) out :: As)) :
    ∃ q1 c1 w2, (Builtin.append_ #[79, 79] 79 #[.slice q out.length c, .slice (cutA p.1 p.2 0 13) k c2]).run Try.prog w = .ok (.slice q1 (out ++ l.take k).length c1) w2 ∧ Kept L w w2 ∧ Ctx F0 m0 w0 w2 L m (A0 :: rwsA p l :: rwsA (q1, c1) (out ++ l.take k) :: As) := by
  have hs := Ctx.srcTake C.swap k hk c2
  rw [flat_take rw_len] at hs
  obtain ⟨q1, c1, w2, hr, hkk, C2⟩ := Ctx.app (P := Try.prog) (bytes := 200) (t := 79) (t2 := 79) C.third 79 (by kernel_rfl) hs (by omega) (rws_one _)
  have e1 : (out ++ l.take k).length = out.length + k := by rw [List.length_append, List.length_take]; omega
  have e2 : (out ++ l.take k).flatMap Rw.row = out.flatMap Rw.row ++ (l.take k).flatMap Rw.row := by simp
  refine ⟨q1, c1, w2, by rw [e1]; exact hr, hkk, ?_⟩
  unfold rwsA slV
  rw [e1, e2]
  exact C2.perm (List.Perm.trans (.swap ..) (List.Perm.cons _ (.swap ..)))
theorem app_drop {p : Sl} {l out : List Rw} {q : Option Addr} {c : Nat} (hl : l.length ≤ 100000) (ho : out.length ≤ 100001) (k : Nat) (hk : k ≤ l.length) (c2 : Nat) (C : Ctx F0 m0 w0 w L m (A0 :: rwsA p l :: rwsA (q, c) out :: As)) :
    ∃ q1 c1 w2, (Builtin.append_ #[79, 79] 79 #[.slice q out.length c, .slice (cutA p.1 p.2 k 13) (l.length - k) c2]).run Try.prog w = .ok (.slice q1 (out ++ l.drop k).length c1) w2 ∧ Kept L w w2 ∧ Ctx F0 m0 w0 w2 L m (A0 :: rwsA p l :: rwsA (q1, c1) (out ++ l.drop k) :: As) := by
  have hs := Ctx.srcDrop C.swap k hk c2
  rw [flat_drop rw_len] at hs
  obtain ⟨q1, c1, w2, hr, hkk, C2⟩ := Ctx.app (P := Try.prog) (bytes := 200) (t := 79) (t2 := 79) C.third 79 (by kernel_rfl) hs (by omega) (rws_one _)
  have e1 : (out ++ l.drop k).length = out.length + (l.length - k) := by rw [List.length_append, List.length_drop]
  have e2 : (out ++ l.drop k).flatMap Rw.row = out.flatMap Rw.row ++ (l.drop k).flatMap Rw.row := by simp
  refine ⟨q1, c1, w2, by rw [e1]; exact hr, hkk, ?_⟩
  unfold rwsA slV
  rw [e1, e2]
  exact C2.perm (List.Perm.trans (.swap ..) (List.Perm.cons _ (.swap ..)))
theorem app_one {p : Sl} {l out : List Rw} {q : Option Addr} {c : Nat} (x : Rw) {a1 : Nat} (ho : out.length ≤ 100001) (C : Ctx F0 m0 w0 w L m (A0 :: rwsA p l :: rwsA (q, c) out :: As)) (hc : Cells w ⟨a1, 0, none⟩ x.row) :
    ∃ q1 c1 w2, (Builtin.append_ #[79, 79] 79 #[.slice q out.length c, .slice (some ⟨a1, 0, none⟩) 1 1]).run Try.prog w = .ok (.slice q1 (out ++ [x]).length c1) w2 ∧ Kept L w w2 ∧ Ctx F0 m0 w0 w2 L m (A0 :: rwsA p l :: rwsA (q1, c1) (out ++ [x]) :: As) := by
  obtain ⟨q1, c1, w2, hr, hkk, C2⟩ := Ctx.app (P := Try.prog) (bytes := 200) (t := 79) (t2 := 79) C.third 79 (by kernel_rfl) (.some _ 1 1 x.row rfl hc) (by omega) (rw_one _)
  have e1 : (out ++ [x]).length = out.length + 1 := by simp
  have e2 : (out ++ [x]).flatMap Rw.row = out.flatMap Rw.row ++ x.row := by simp
  refine ⟨q1, c1, w2, by rw [e1]; exact hr, hkk, ?_⟩
  unfold rwsA slV
  rw [e1, e2]
  exact C2.perm (List.Perm.trans (.swap ..) (List.Perm.cons _ (.swap ..)))
end
theorem c_ref_RightP (n l : Int) : Gives Try.prog 55 #[PV n l] (.bool (rightP n l)) := c_ref_RightProc n l

theorem c_rBegin (b : Nat) (r : Rt) (d : I) (hd : d.In) (hr : r.Ok) : Ctr Try.prog 22 #[.pointer (some ⟨b, 0, none⟩), d.V] noMem [rtA b r] (fun _ : Unit => .int .i64 (beginR r d).1) (fun _ _ => True) (fun _ => [rtA b (beginR r d).2]) := by
  refine Ctr.mk fun w F m C _ => x_rBegin _ _ _ _ _ _ _ _ _ _ _ w _ fun w1 L2 h1 g1 => ?_
  refine (C.hidL h1 g1).gives (c_ref_Right d hd) fun w4 k4 C => ⟨_, rfl, k4, ?_⟩
  cases hright : d.right with
  | false =>
    rw [if_pos (by decide)]
    have e : beginR r d = (1, r) := by simp [beginR, hright]
    rw [e]; exact Ctr.ret () rfl trivial C
  | true =>
  rw [if_neg (by decide)]
  refine (c_rState b r d hd hr).call (As := []) C trivial fun _ m2 w7 hk hm _ C => ⟨_, rfl, hk, ?_⟩
  by_cases s1 : stateR r d = 1
  · rw [if_pos (by simp [s1]), if_pos (by simp [s1])]
    have e : beginR r d = (4, r) := by simp [beginR, hright, s1]
    rw [e]; exact Ctr.ret () rfl trivial C
  rw [if_neg (by simpa using s1)]
  by_cases s2 : stateR r d = 2
  · rw [if_pos (by simp [s2])]
    have e : beginR r d = (4, r) := by simp [beginR, hright, s2]
    rw [e]; exact Ctr.ret () rfl trivial C
  rw [if_neg (by simpa using s2)]
  by_cases s3 : stateR r d = 3
  · rw [if_pos (by simp [s3])]
    have e : beginR r d = (16, r) := by simp [beginR, hright, s3]
    rw [e]; exact Ctr.ret () rfl trivial C
  rw [if_neg (by simpa using s3)]
  by_cases s4 : stateR r d = 4
  · rw [if_pos (by simp [s4])]
    have e : beginR r d = (10, r) := by simp [beginR, hright, s4]
    rw [e]; exact Ctr.ret () rfl trivial C
  rw [if_neg (by simpa using s4)]
  have e : beginR r d = (0, { r with L := insR r.L d }) := by simp [beginR, hright, s1, s2, s3, s4]
  rw [e]
  refine (c_rfind b r d hd hr).call (As := []) C trivial fun _ m3 w10 hk hm3 _ C => ⟨_, _, rfl, hk, ?_⟩
  obtain ⟨p, q, C⟩ := rtO C
  replace C : Ctx F m w w10 L2 m3 [blk b (r.cells p q) 82, rwsA p r.L, frsA q r.F] := C
  have hcap := (Ctx.slCap C.swap).1
  have hkl := fK_le r.L d
  have hll := hr.ll
  have hfw : ∀ {w' L' m'} {As : List Asn}, Ctx F m w w' L' m' (blk b (r.cells p q) 82 :: As) → FactsW [(⟨b, 1, none⟩, [slV p r.L.length])] w' L' := fun C => C.blkFact1 1 _ rfl (facts_nil _ _)
  refine ⟨_, hfw C, p.1, r.L.length, p.2, by simp [Addr.add_mid], by omega, by omega, p.1, r.L.length, p.2, by simp [Addr.add_mid], by omega, by omega, ?_⟩
  rw [Int.toNat_natCast]
  -- the end
  have fin : ∀ {w' : World} {L' : List Nat} {As : List Asn} {q1 : Option Addr} {c1 : Nat}, Ctx F m w w' L' m3 (blk b (r.cells p q) 82 :: rwsA p r.L :: rwsA (q1, c1) (insR r.L d) :: frsA q r.F :: As) →
      FactsW [(⟨b, 1, none⟩, [slV p r.L.length])] w' L' ∧ (none : Option Nat) = none ∧ World.there w' b (0 + 1) 1 ∧ (b ∉ L') ∧ ∃ i : Unit, ∃ m' L, (Ending.returned (.int .i64 0) = .returned (.int .i64 0)) ∧ True ∧ Ctx F m w (w'.setCells b (0 + 1) [.slice q1 (insR r.L d).length c1]) L m' [rtA b { r with L := insR r.L d }] := by
    intro w' L' As q1 c1 C
    refine ⟨hfw C, rfl, C.there _ _ (by simp), C.blkAt.2, (), m3, L', rfl, trivial, ?_⟩
    have C2 := C.store 1 [slV (q1, c1) (insR r.L d).length] (by simp)
    refine rtI (q1, c1) q ?_
    have C3 : Ctx F m w _ L' m3 ([_, rwsA (q1, c1) (insR r.L d), frsA q r.F] ++ (rwsA p r.L :: As)) := C2.perm (List.Perm.cons _ ((List.Perm.swap ..).trans (List.Perm.cons _ (List.Perm.swap ..))))
    exact C3.left
  have hl0 : ∀ (a0 : Nat) {w' L'} {As : List Asn}, Ctx F m w w' L' m3 (blk b (r.cells p q) 82 :: rwsA p r.L :: As) → Ctx F m w w' L' m3 (blk b (r.cells p q) 82 :: rwsA p r.L :: rwsA (some ⟨a0, 0, none⟩, 0) [] :: As) := fun a0 {w' L' As} C =>
    (Ctx.slNil (q := some ⟨a0, 0, none⟩) (ty := 94) (sz := 13) C).perm ((List.Perm.swap ..).trans (List.Perm.cons _ (List.Perm.swap ..)))
  have hrow : ∀ {w' L'} {As : List Asn}, Ctx F m w w' L' m3 (blk b (r.cells p q) 82 :: rwsA p r.L :: As) → Ctx F m w (w'.alloc (.cells (Rw.fresh d).row.toArray 94)) L' m3 (blk b (r.cells p q) 82 :: rwsA p r.L :: (As ++ [blk w'.heap.size (Rw.fresh d).row 94])) := fun C => (C.alloc (Rw.fresh d).row 94).rot
  have hrc : ∀ {w' L'} {a1 : Nat} {As : List Asn}, Ctx F m w w' L' m3 (As ++ [blk a1 (Rw.fresh d).row 94]) → Cells w' ⟨a1, 0, none⟩ (Rw.fresh d).row := fun C => (C.perm List.perm_append_comm).blkCells (o := 0) fun j v e => by simpa using e
  refine ⟨fun w71 L72 h71 g71 => ?_, fun w97 L98 h97 g97 => ?_⟩
  · have D0 := hl0 w71.heap.size ((C.hidL h71 g71).newDrop [] 94)
    refine ⟨hfw D0, ?_, ?_⟩
    · obtain ⟨q1, c1, w2, hr1, hk1, D1⟩ := app_take hll (by simp) (fK r.L d) hkl p.2 D0
      refine ⟨q1, _, c1, w2, hr1, hk1, hfw D1, ?_⟩
      have D2 := hrow D1
      refine ⟨hfw D2, ?_⟩
      obtain ⟨q2, c2, w3, hr2, hk2, D3⟩ := app_one (Rw.fresh d) (by rw [List.nil_append, List.length_take]; omega) D2 (hrc (As := [_, _, _, _]) D2)
      refine ⟨q2, _, c2, w3, hr2, hk2, hfw D3, ?_⟩
      obtain ⟨q3, c3, w4, hr3, hk3, D4⟩ := app_drop hll (by rw [List.length_append, List.nil_append, List.length_take, List.length_singleton]; omega) (fK r.L d) hkl (p.2 - fK r.L d) D3
      exact ⟨q3, _, c3, w4, hr3, hk3, fin D4⟩
    · have D2 := hrow D0
      refine ⟨hfw D2, ?_⟩
      obtain ⟨q1, c1, w2, hr1, hk1, D1⟩ := app_take hll (by simp) (fK r.L d) hkl p.2 D2
      refine ⟨q1, _, c1, w2, hr1, hk1, hfw D1, ?_⟩
      obtain ⟨q2, c2, w3, hr2, hk2, D3⟩ := app_one (Rw.fresh d) (by rw [List.nil_append, List.length_take]; omega) D1 (hrc (As := [_, _, _, _]) D1)
      refine ⟨q2, _, c2, w3, hr2, hk2, hfw D3, ?_⟩
      obtain ⟨q3, c3, w4, hr3, hk3, D4⟩ := app_drop hll (by rw [List.length_append, List.nil_append, List.length_take, List.length_singleton]; omega) (fK r.L d) hkl (p.2 - fK r.L d) D3
      exact ⟨q3, _, c3, w4, hr3, hk3, fin D4⟩
  · have D0 := hrow (C.hidL h97 g97)
    refine ⟨hfw D0, ?_⟩
    have D2 := hl0 (w97.alloc (.cells (Rw.fresh d).row.toArray 94)).heap.size (D0.newDrop [] 94)
    refine ⟨hfw D2, ?_⟩
    obtain ⟨q1, c1, w2, hr1, hk1, D1⟩ := app_take hll (by simp) (fK r.L d) hkl p.2 D2
    refine ⟨q1, _, c1, w2, hr1, hk1, hfw D1, ?_⟩
    obtain ⟨q2, c2, w3, hr2, hk2, D3⟩ := app_one (Rw.fresh d) (by rw [List.nil_append, List.length_take]; omega) D1 (hrc (As := [_, _, _, _]) D1)
    refine ⟨q2, _, c2, w3, hr2, hk2, hfw D3, ?_⟩
    obtain ⟨q3, c3, w4, hr3, hk3, D4⟩ := app_drop hll (by rw [List.length_append, List.nil_append, List.length_take, List.length_singleton]; omega) (fK r.L d) hkl (p.2 - fK r.L d) D3
    exact ⟨q3, _, c3, w4, hr3, hk3, fin D4⟩
end Go.Proofs
