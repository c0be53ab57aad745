import Derived.Test.YtjabbpcfinjofaaU23i
set_option linter.unusedVariables false
set_option linter.unusedSimpArgs false
set_option maxRecDepth 10000
namespace Go.Proofs
open Go X RowKit
def eK (l : Int) : En := ⟨2, I.zero, 0, (none, 0), [], 0, ByteArray.mk #[], (none, 0), [], 1, l⟩
theorem eK_M (m : Mem) (l : Int) : EnM m (eK l) := ⟨.nil .., .nil .., by simp [eK], by simp [eK]⟩
theorem c_knows : Ctr Try.prog 7 #[] noMem [] (fun _ : Unit => .bool true) (fun _ _ => True) (fun _ => []) := by
  refine Ctr.mk fun w F m C _ => x_gemotlaw23_knows w _ ?_
  refine c_New.call (As := []) C trivial fun b m1 w2 hk hm hx C => ⟨_, rfl, hk.size, fun w4 L5 h4 g4 => ?_⟩
  refine (c_Commit b an0 1 (by omega) 0 (by omega) (eK 1) (by simp [an0]) (by simp [an0])).call (As := []) (C.hidL h4 g4) ⟨hx, eK_M _ 1⟩ fun f m2 w7 hk hm2 hf C => ⟨_, rfl, hk, ?_⟩
  obtain ⟨hx1, hfe⟩ := hf
  have ef : commitF an0 1 0 (eK 1) f = (true, { an0 with o := updO an0.o 1 [f] }) := by simp [commitF, an0]
  rw [ef] at hx1 C ⊢
  have ho1 : ({ an0 with o := updO an0.o 1 [f] } : An).o 1 = [f] := rfl
  have hs1 : ({ an0 with o := updO an0.o 1 [f] } : An).sp = 0 := rfl
  generalize ({ an0 with o := updO an0.o 1 [f] } : An) = x1 at hx1 C ho1 hs1
  refine (c_Commit b x1 1 (by omega) 0 (by omega) (eK 1) (by simp [ho1]) (by simp [hs1])).call (As := []) C ⟨hx1, eK_M _ 1⟩ fun f2 m3 w10 hk hm3 hf2 C => ⟨_, rfl, hk, ?_⟩
  have ef2 : commitF x1 1 0 (eK 1) f2 = (true, x1) := by simp [commitF, ho1, hfe]
  rw [ef2] at hf2 C ⊢
  rw [if_pos (by rfl)]
  refine fun w13 L14 h13 g13 => ?_
  refine (c_Commit b x1 1 (by omega) 0 (by omega) (eK 2) (by simp [ho1]) (by simp [hs1])).call (As := []) (C.hidL h13 g13) ⟨hf2.1, eK_M _ 2⟩ fun f3 m4 w16 hk hm4 hf3 C => ⟨_, rfl, hk, ?_⟩
  have ef3 : commitF x1 1 0 (eK 2) f3 = (false, { x1 with sp := x1.sp + 1 }) := by
    have : ¬ (eK 1).er = (eK 2).er := by simp [eK, En.er]
    simp [commitF, ho1, hfe, this]
  rw [ef3] at hf3 C ⊢
  rw [if_pos (by rfl)]
  refine (c_Splits b _ hf3.1.pre).call (As := []) C trivial fun _ m5 w19 hk hm5 _ C => ⟨_, rfl, hk, ?_⟩
  rw [if_pos (by simp [hs1])]
  refine (c_Order b _ 1 (by omega) (by simp [ho1])).call (As := []) C (hf3.1.mono hm5) fun o m6 w22 hk hm6 ho C => ⟨_, _, _, rfl, hk, ?_⟩
  have : o.2.length = 1 := by have := congrArg List.length ho.1; simpa [ho1] using this
  exact Ctr.ret () (by simp [this]) trivial (C.drop.drop)
def Ac.two (a : Ac) : Ac := { a with kd := 2, g := 1 }
theorem c_Do2 (b : Nat) (x : An) (a : Ac) (hr : -9223372036854775808 ≤ a.at_ ∧ a.at_ < 9223372036854775808) (hl : (x.o 1).length ≤ 100000) (hs : 0 ≤ x.sp ∧ x.sp < 1000000) (ha : a.lt) :
    Ctr Try.prog 10 #[.pointer (some ⟨b, 0, none⟩), .agg a.two.row.toArray] (fun m => AnM m x ∧ AcM m a) [anA b x] (fun f : En => .bool (commitF x 1 a.at_ a.l f).1) (fun f m => AnM m (commitF x 1 a.at_ a.l f).2 ∧ f.er = a.l.er) (fun f => [anA b (commitF x 1 a.at_ a.l f).2]) := by
  refine Ctr.mk fun w F m C hp => x_Do _ _ _ _ _ _ _ _ _ _ _ _ _ _ _ _ _ _ _ _ _ _ _ _ _ _ _ _ _ _ _ _ _ _ _ _ _ _ _ _ _ _ _ _ _ _ _ _ _ _ _ _ _ _ _ _ _ _ _ _ _ _ _ _ _ _ _ _ _ _ _ _ _ _ _ _ _ _ _ _ _ _ _ _ _ w _ ?_
  obtain ⟨hx, hm⟩ := hp
  rw [if_neg (show ¬ (a.two.kd == 0) = true from (by decide : ¬ ((2 : Int) == 0) = true)), if_neg (show ¬ (a.two.kd == 1) = true from (by decide : ¬ ((2 : Int) == 1) = true)), if_pos (show (a.two.kd == 2) = true from (by decide : ((2 : Int) == 2) = true))]
  refine ⟨[], facts_nil _ _, fun w43 L44 h43 g43 => ?_⟩
  have he : EnM m a.l := ⟨hm.l.p, hm.l.w, by have := ha.p; omega, by have := ha.w; omega⟩
  refine (c_OwnE a.l).call (As := [anA b x]) (C.hidL h43 g43) he fun f m1 w46 hk hm1 hf C => ⟨_, _, _, _, _, _, _, _, _, _, _, _, _, _, _, _, _, _, _, _, _, _, rfl, hk, facts_nil _ _, ?_⟩
  obtain ⟨hfm, hfe⟩ := hf
  refine (c_Commit b x 1 (by omega) a.at_ hr f hl hs).call (As := []) C ⟨hx.mono hm1, hfm⟩ fun f2 m2 w70 hk hm2 hf2 C => ⟨_, rfl, hk, facts_nil _ _, ?_⟩
  have hcf : commitF x 1 a.at_ f f2 = commitF x 1 a.at_ a.l f2 := by simp only [commitF, hfe]
  rw [hcf] at hf2 C ⊢
  exact Ctr.ret f2 rfl ⟨hf2.1, hf2.2.trans hfe⟩ C
end Go.Proofs
