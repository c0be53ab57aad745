import Derived.Test.YtkkhkkfnbohnaaaU11n
set_option linter.unusedVariables false
set_option linter.unusedSimpArgs false
set_option maxRecDepth 10000
namespace Go.Proofs
open Go X RowKit
theorem Fls.r {f : FuncId} {args : Array Value} {pre : Mem → Prop} {r : Value} {As : List Asn} (h : Fls f args pre r As) (Bs : List Asn) : Fls f args pre r (As ++ Bs) :=
  Ctr.mk fun w F m C hp => h.calls (As := Bs) C hp fun i m' w' hk hm _ C => ⟨(), m', [], rfl, trivial, C⟩
theorem Fls.l {f : FuncId} {args : Array Value} {pre : Mem → Prop} {r : Value} {As : List Asn} (h : Fls f args pre r As) (Bs : List Asn) : Fls f args pre r (Bs ++ As) :=
  Ctr.mk fun w F m C hp => h.calls (As := Bs) (C.perm List.perm_append_comm) hp fun i m' w' hk hm _ C => ⟨(), m', [], rfl, trivial, C.perm List.perm_append_comm⟩
/-- nobody, and those that nobody made -/
theorem l_PactNil (w : World) (a : Av) (hm : AvM (memOf w) a) : Calls Try.prog 7 #[.agg a.row.toArray] w (LawR w) := by
  refine x_PactNil _ _ _ _ _ _ _ _ _ _ _ _ _ _ w _ fun w1 L1 h1 g1 => ?_
  have C := (lawStart w).hidL h1 g1
  obtain ⟨C1, hm1⟩ := C.newShare a.row 40 (0, 0)
  have hs : MSrc ((memOf w).plus w1.heap.size a.row) 8 (slV (some ⟨w1.heap.size, 0, none⟩, 1) ([a] : List Av).length) ([a] : List Av).length (([a] : List Av).flatMap Av.row) :=
    MSrc.mk (by simp) (fun p hp => by injection hp with hp; subst hp; exact Mem.plus_cells _ _ _ _ _ fun j v h => by rw [Nat.zero_add]; simpa using h) (fun h => by cases h)
  refine (c_light (some ⟨w1.heap.size, 0, none⟩, 1) [a]).call (As := []) C1 ⟨hs, fun x hx => by simp only [List.mem_singleton] at hx; subst hx; exact hm.mono hm1⟩ fun b m2 w4 hk hm2 hb2 C => ⟨_, rfl, hk, ?_⟩
  cases b with
  | false =>
    rw [if_pos (by decide)]
    exact c_knows.call (As := []) C trivial fun _ m3 w5 hk hm3 _ C => ⟨_, rfl, hk, rfl, C.at_⟩
  | true =>
  rw [if_neg (by decide)]
  have hlt := (hb2 rfl).2 a (by simp)
  have hav := hm.vl hlt
  have hmm := hm1.le_trans hm2
  refine ⟨fun q p n w' L => 0 ≤ n ∧ n ≤ 2 ∧ ∃ As Bs m, DA (.pointer q) As ∧ DP (.pointer p) Bs ∧ (memOf w).le m ∧ Ctx [] (memOf w) w w' L m (As ++ Bs), fun q p n _ => (2 - n).toNat, ⟨by omega, by omega, [], [], _, da_nil, dp_nil, hmm, C⟩, ?_⟩
  clear C
  rintro q p n w11 L12 _ ⟨h0, h2, As, Bs, m, DA, DP, hle, C⟩
  by_cases hlt2 : n < 2
  rotate_left
  · rw [if_neg (by simpa using hlt2)]
    exact c_knows.call (As := As ++ Bs) C trivial fun _ m1 w2 hk hm _ C => ⟨_, rfl, hk, rfl, C.at_⟩
  rw [if_pos (by simpa using hlt2)]
  have C0 : ∀ {w' L m}, Ctx [] (memOf w) w w' L m (As ++ Bs) → Ctx [] (memOf w) w w' L m ((As ++ Bs) ++ []) := fun C => by rwa [List.append_nil]
  have C9 : ∀ {w' L m}, Ctx [] (memOf w) w w' L m ((As ++ Bs) ++ []) → Ctx [] (memOf w) w w' L m (As ++ Bs) := fun C => by rwa [List.append_nil] at C
  refine (DA.held.r Bs).call (C0 C) trivial fun _ m1 w17 hk hm1' _ C => ⟨_, _, _, _, _, _, _, _, rfl, hk, [], facts_nil _ _, fun w27 L28 h27 g27 => ?_⟩
  refine ((C9 C).hidL h27 g27).gives (c_ProcP a.p) fun w30 k30 C => ⟨_, _, rfl, k30, facts_nil _ _, ?_⟩
  have hle1 := hle.le_trans hm1'
  refine (c_OwnV a.v).call (As := As ++ Bs) C (hav.mono hle1) fun u m3 w34 hk hm3 hu C => ⟨_, _, _, _, _, _, rfl, hk, facts_nil _ _, ?_⟩
  refine ((DP.prom a.p (none, 0) 0 a.bn u a.has).l As).call (C0 C) trivial fun _ m4 w42 hk hm4 _ C => ⟨rfl, hk, facts_nil _ _, ?_⟩
  have hle4 := hle1.le_trans (hm3.le_trans hm4)
  refine (c_Procs a.v.mq a.v.ms (by have := hlt.m; omega)).call (As := As ++ Bs) (C9 C) (hav.mono hle4).pm fun pq m5 w44 hk hm5 hpq C => ⟨_, _, _, rfl, hk, ?_⟩
  refine ((DP.prop pq a.v.ms.length).l As).call (C0 C) trivial fun _ m6 w49 hk hm6 _ C => ⟨_, _, _, _, _, _, _, rfl, hk, [], facts_nil _ _, fun w58 L59 h58 g58 => ?_⟩
  refine ((DA.prep a.bn).r Bs).call (C0 ((C9 C).hidL h58 g58)) trivial fun _ m7 w61 hk hm7 _ C => ⟨_, rfl, hk, facts_nil _ _, [], facts_nil _ _, by simp, ?_⟩
  rw [if_pos (by decide)]
  have hle7 := hle4.le_trans (hm5.le_trans (hm6.le_trans hm7))
  refine (c_OwnV a.v).call (As := As ++ Bs) (C9 C) (hav.mono hle7) fun u2 m8 w86 hk hm8 hu2 C => ⟨_, _, _, _, _, _, rfl, hk, facts_nil _ _, [], facts_nil _ _, by simp, ?_⟩
  refine ((DA.acc a.bn u2).r Bs).call (C0 C) trivial fun _ m9 w96 hk hm9 _ C => ⟨_, rfl, hk, facts_nil _ _, [], facts_nil _ _, by simp, ?_⟩
  rw [if_pos (by decide)]
  refine (DA.prom.r Bs).call C trivial fun _ m10 w117 hk hm10 _ C => ⟨_, rfl, hk, facts_nil _ _, [], facts_nil _ _, by simp, ?_⟩
  rw [if_pos (by decide)]
  refine (DP.ready.l As).call C trivial fun _ m11 w136 hk hm11 _ C => ⟨_, rfl, hk, facts_nil _ _, [], facts_nil _ _, by simp, ?_⟩
  rw [if_pos (by decide)]
  refine (c_SameV vl0 vl0).call (As := As ++ Bs) (C9 C) ⟨vl0_M _, vl0_M _⟩ fun _ m12 w153 hk hm12 _ C => ⟨_, rfl, hk, facts_nil _ _, [], facts_nil _ _, by simp, ?_⟩
  rw [if_pos (by simp)]
  refine C.gives (c_ProcP a.p) fun w168 k168 C => ⟨_, _, rfl, k168, facts_nil _ _, [], facts_nil _ _, by simp, ?_⟩
  refine ((DP.acc a.p).l As).call (C0 C) trivial fun _ m13 w174 hk hm13 _ C => ⟨_, rfl, hk, facts_nil _ _, [], facts_nil _ _, by simp, ?_⟩
  rw [if_pos (by decide)]
  refine (DP.phase.l As).call C trivial fun _ m14 w185 hk hm14 _ C => ⟨_, rfl, hk, facts_nil _ _, [], facts_nil _ _, by simp, ?_⟩
  rw [if_pos (by decide)]
  refine (DP.bal.l As).call C trivial fun _ m15 w194 hk hm15 _ C => ⟨_, rfl, hk, facts_nil _ _, [], facts_nil _ _, by simp, ?_⟩
  rw [if_pos (by decide)]
  refine (DP.miss.l As).call C trivial fun _ m16 w201 hk hm16 _ C => ⟨_, _, _, rfl, hk, facts_nil _ _, [], facts_nil _ _, by simp, ?_⟩
  rw [if_pos (by decide)]
  refine (DP.val.l As).call C trivial fun _ m17 w208 hk hm17 _ C => ⟨_, _, _, _, _, _, rfl, hk, facts_nil _ _, ?_⟩
  refine (c_SameV vl0 vl0).call (As := As ++ Bs) (C9 C) ⟨vl0_M _, vl0_M _⟩ fun _ m18 w216 hk hm18 _ C => ⟨_, rfl, hk, facts_nil _ _, ?_⟩
  rw [if_neg (by simp)]
  have e : IntKind.wrap .i64 (n + 1) = n + 1 := w_i64 (by omega) (by omega)
  refine ⟨rfl, ?_, ?_⟩
  · rw [e]
    have hle18 := hle7.le_trans (hm8.le_trans (hm9.le_trans (hm10.le_trans (hm11.le_trans (hm12.le_trans (hm13.le_trans (hm14.le_trans (hm15.le_trans (hm16.le_trans (hm17.le_trans hm18))))))))))
    refine ⟨by omega, by omega, [rbA w216.heap.size], [upA (w216.alloc (.cells (acp0.cells false).toArray 102)).heap.size], m18, da_un _, dp_un _, hle18, ?_⟩
    have D0 := (C.alloc (acp0.cells false) 102).alloc unPp 106
    exact (Ctx.left (As := [_, _]) (Bs := [] ++ (As ++ Bs)) D0).swap
  · show (2 - IntKind.wrap .i64 (n + 1)).toNat + 1 ≤ (2 - n).toNat
    rw [e]; omega
end Go.Proofs
