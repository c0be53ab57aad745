import Derived.Test.YtmfmihkjkgifiaaU10g
set_option linter.unusedVariables false
set_option linter.unusedSimpArgs false
set_option maxRecDepth 10000
namespace Go.Proofs
open Go X RowKit
/-- no link, and one that nobody made -/
theorem l_LinkNil (w : World) (d : Br) (p : Pk) (hd : MSrc (memOf w) 1 d.V d.bs.length (byV d.bs)) (hp : MSrc (memOf w) 1 p.b.V p.b.bs.length (byV p.b.bs)) (hs : d.bs.length + p.b.bs.length < 9223372036854775808) :
    Calls Try.prog 6 #[d.V, p.V] w (LawR w) := by
  refine x_gemotlaw10_LinkNil _ _ _ _ _ _ _ _ _ _ _ _ _ w _ ?_
  have C := lawStart w
  rw [w_i64 (by omega) (by omega)]
  by_cases hl : ((d.bs.length : Nat) : Int) + ((p.b.bs.length : Nat) : Int) > 3000
  · rw [if_pos (by simpa using hl)]
    intro w1 L1 h1 g1
    refine c_knows.call (C.hidL h1 g1) trivial fun _ m1 w2 hk hm _ C => ⟨_, rfl, hk, rfl, C.at_⟩
  · rw [if_neg (by simpa using hl)]
    intro w1 L1 h1 g1
    refine ⟨fun q n w' L => 0 ≤ n ∧ n ≤ 2 ∧ ∃ As m, Dead (.pointer q) As ∧ Ctx [] (memOf w) w w' L m As, fun q n _ => (2 - n).toNat, ⟨by omega, by omega, [], _, dead_nil, C.hidL h1 g1⟩, ?_⟩
    rintro q5 n6 w7 L8 _ ⟨h0, h2, As, m, D, C⟩
    by_cases hlt : n6 < 2
    · rw [if_pos (by simpa using hlt)]
      have C0 : ∀ {w' L m}, Ctx [] (memOf w) w w' L m As → Ctx [] (memOf w) w w' L m (As ++ []) := fun C => by rwa [List.append_nil]
      have C1 : ∀ {w' L m}, Ctx [] (memOf w) w w' L m (As ++ []) → Ctx [] (memOf w) w w' L m As := fun C => by rwa [List.append_nil] at C
      refine (D.send d).call (C0 C) trivial fun _ m1 w13 hk hm _ C => ⟨_, rfl, hk, ?_⟩
      refine C.gives (c_num _) fun w16 k16 C => ⟨_, rfl, k16, ?_⟩
      rw [if_pos (by decide)]
      refine (c_Packet p).call (As := As) (C1 C) ⟨hp.mono C.le, by omega⟩ fun nb m2 w19 hk hm2 hnb C => ⟨_, _, _, _, _, _, _, _, _, _, rfl, hk, ?_⟩
      refine (D.hear { p with b := nb }).call (C0 C) trivial fun _ m3 w31 hk hm3 _ C => ⟨_, _, _, rfl, hk, ?_⟩
      rw [if_pos (by decide)]
      refine (D.out 5).call C trivial fun _ m4 w36 hk hm4 _ C => ⟨_, _, _, rfl, hk, ?_⟩
      rw [if_pos (by decide)]
      refine D.waiting.call C trivial fun _ m5 w41 hk hm5 _ C => ⟨_, rfl, hk, ?_⟩
      rw [if_pos (by decide)]
      refine D.idle.call C trivial fun _ m6 w44 hk hm6 _ C => ⟨_, rfl, hk, ?_⟩
      rw [if_pos (by decide)]
      refine D.want.call C trivial fun _ m7 w47 hk hm7 _ C => ⟨_, rfl, hk, ?_⟩
      rw [if_neg (by decide)]
      have e : IntKind.wrap .i64 (n6 + 1) = n6 + 1 := w_i64 (by omega) (by omega)
      refine ⟨rfl, ?_, ?_⟩
      · rw [e]
        refine ⟨by omega, by omega, [blk w47.heap.size unL 82], m7, dead_un _, ?_⟩
        exact ((C.alloc unL 82).perm (Bs := As ++ [] ++ [blk w47.heap.size unL 82]) (List.perm_append_comm (l₁ := [blk w47.heap.size unL 82])) |> fun C => C.sub fun F hF _ => by
          obtain ⟨F1, F2, rfl, _, h1, h2⟩ := hF.split
          exact ⟨F2, h2, fun b hb => by simp [hb]⟩)
      · show (2 - IntKind.wrap .i64 (n6 + 1)).toNat + 1 ≤ (2 - n6).toNat
        rw [e]; omega
    · rw [if_neg (by simpa using hlt)]
      refine c_knows.call (As := As) C trivial fun _ m1 w2 hk hm _ C => ⟨_, rfl, hk, rfl, C.at_⟩
end Go.Proofs
