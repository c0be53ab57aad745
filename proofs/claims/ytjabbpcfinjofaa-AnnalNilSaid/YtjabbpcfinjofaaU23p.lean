import Derived.Test.YtjabbpcfinjofaaU23n
import Derived.Test.YtjabbpcfinjofaaV23f
set_option linter.unusedVariables false
set_option linter.unusedSimpArgs false
set_option maxRecDepth 10000
namespace Go.Proofs
open Go X RowKit
/-- no annal, and one that nobody made -/
theorem l_AnnalNil (w : World) (a : Ac) (hm : AcM (memOf w) a) (hb : a.b.ps.length * 48 ≤ 140737488355328) : Calls Try.prog 5 #[.agg a.row.toArray] w (LawR w) := by
  refine x_AnnalNil _ _ _ _ _ _ _ _ _ _ _ _ _ _ _ _ _ _ _ _ _ _ _ _ _ _ _ _ _ _ _ _ _ _ _ _ _ _ _ _ _ _ _ _ _ _ _ _ _ _ _ _ _ _ _ _ _ _ _ _ _ _ _ _ _ _ _ _ _ _ _ _ _ _ _ _ _ _ _ _ _ _ _ _ w _ fun w1 L1 h1 g1 => ?_
  have C := (lawStart w).hidL h1 g1
  obtain ⟨C1, hm1⟩ := C.newShare a.row 54 (0, 0)
  have hs : MSrc ((memOf w).plus w1.heap.size a.row) 74 (slV (some ⟨w1.heap.size, 0, none⟩, 1) ([a] : List Ac).length) ([a] : List Ac).length (([a] : List Ac).flatMap Ac.row) :=
    MSrc.mk (by simp) (fun p hp => by injection hp with hp; subst hp; exact Mem.plus_cells _ _ _ _ _ fun j v h => by rw [Nat.zero_add]; simpa using h) (fun h => by cases h)
  refine (c_Light (some ⟨w1.heap.size, 0, none⟩, 1) [a]).call (As := []) C1 ⟨hs, fun x hx => by simp only [List.mem_singleton] at hx; subst hx; exact hm.mono hm1⟩ fun b m2 w4 hk hm2 hb2 C => ⟨_, rfl, hk, ?_⟩
  cases b with
  | false =>
    rw [if_pos (by decide)]
    exact c_knows.call (As := []) C trivial fun _ m3 w5 hk hm3 _ C => ⟨_, rfl, hk, rfl, C.at_⟩
  | true =>
  rw [if_neg (by decide)]
  have hlt := (hb2 rfl).2 a (by simp)
  have hmm := hm1.le_trans hm2
  refine ⟨fun q n w' L => 0 ≤ n ∧ n ≤ 2 ∧ ∃ As m, Dead (.pointer q) As ∧ (memOf w).le m ∧ Ctx [] (memOf w) w w' L m As, fun q n _ => (2 - n).toNat, ⟨by omega, by omega, [], _, dead_nil, hmm, C⟩, ?_⟩
  clear C
  rintro q n w10 L11 _ ⟨h0, h2, As, m, D, hle, C⟩
  by_cases hlt2 : n < 2
  rotate_left
  · rw [if_neg (by simpa using hlt2)]
    refine c_knows.call (As := As) C trivial fun _ m1 w2 hk hm _ C => ⟨_, rfl, hk, ?_⟩
    rw [if_pos (by decide)]
    exact C.gives (c_num 0) fun w16 k16 C => ⟨_, rfl, k16, rfl, C.at_⟩
  rw [if_pos (by simpa using hlt2)]
  refine ⟨[], facts_nil _ _, fun w19 L20 h19 g19 => ?_⟩
  have C0 : ∀ {w' L m}, Ctx [] (memOf w) w w' L m As → Ctx [] (memOf w) w w' L m (As ++ []) := fun C => by rwa [List.append_nil]
  refine (dead_do D a hlt hb).call (C0 (C.hidL h19 g19)) (hm.mono hle) fun _ m1 w22 hk hm3 _ C => ⟨_, rfl, hk, facts_nil _ _, [], facts_nil _ _, by simp, ?_⟩
  rw [if_pos (by decide)]
  refine D.begins.call C trivial fun _ m4 w27 hk hm4 _ C => ⟨_, _, _, rfl, hk, facts_nil _ _, ?_⟩
  refine D.ends.call C trivial fun _ m5 w32 hk hm5 _ C => ⟨_, _, _, rfl, hk, facts_nil _ _, ?_⟩
  refine (D.order a.g).call C trivial fun _ m6 w37 hk hm6 _ C => ⟨_, _, _, rfl, hk, facts_nil _ _, ?_⟩
  refine D.tolds.call C trivial fun _ m7 w42 hk hm7 _ C => ⟨_, _, _, rfl, hk, facts_nil _ _, ?_⟩
  refine D.sats.call C trivial fun _ m8 w47 hk hm8 _ C => ⟨_, _, _, rfl, hk, facts_nil _ _, ?_⟩
  refine D.splits.call C trivial fun _ m9 w52 hk hm9 _ C => ⟨_, rfl, hk, facts_nil _ _, ?_⟩
  rw [if_neg (by decide)]
  have e : IntKind.wrap .i64 (n + 1) = n + 1 := w_i64 (by omega) (by omega)
  refine ⟨rfl, ?_, ?_⟩
  · rw [e]
    refine ⟨by omega, by omega, [blk w52.heap.size unA 92], m9, dead_un _, hle.le_trans (hm3.le_trans (hm4.le_trans (hm5.le_trans (hm6.le_trans (hm7.le_trans (hm8.le_trans hm9)))))), ?_⟩
    exact ((C.alloc unA 92).perm (Bs := As ++ [] ++ [blk w52.heap.size unA 92]) (List.perm_append_comm (l₁ := [blk w52.heap.size unA 92])) |> fun C => C.sub fun F hF _ => by
      obtain ⟨F1, F2, rfl, _, h1, h2⟩ := hF.split
      exact ⟨F2, h2, fun b hb => by simp [hb]⟩)
  · show (2 - IntKind.wrap .i64 (n + 1)).toNat + 1 ≤ (2 - n).toNat
    rw [e]; omega
end Go.Proofs
