import Derived.Test.YtmfmihkjkgifiaaU10e
import Derived.Test.YtmfmihkjkgifiaaXStr
import Derived.Test.YtmfmihkjkgifiaaV10b
set_option linter.unusedVariables false
set_option linter.unusedSimpArgs false
set_option maxRecDepth 10000
namespace Go.Proofs
open Go X RowKit
/-- an append of bytes to nothing -/
theorem app_bytes {w : World} {L : List Nat} {F : List Nat} {m0 m : Mem} {w0 : World} {As : List Asn} (C : Ctx F m0 w0 w L m As) (d : Br) (hd : BrM m d) (qq : Option Addr) :
    ∃ nb : Br, ∃ m' w', nb.bs = d.bs ∧ m.le m' ∧ BrM m' nb ∧ (Builtin.append_ #[35, 35] 35 #[.slice qq 0 0, d.V]).run Try.prog w = .ok nb.V w' ∧ Kept L w w' ∧ Ctx F m0 w0 w' L m' As := by
  have C1 := C.slNil (q := qq) (ty := 5) (sz := 1)
  obtain ⟨q', cap, w', hr, hk, C2⟩ := C1.app (P := Try.prog) (bytes := 1) (t := 35) (t2 := 35) 35 (by kernel_rfl) (C1.src hd.1) (by have := hd.2; omega) (byV_one d.bs)
  rw [Nat.zero_add] at hr C2
  obtain ⟨m', hm, hM, C3⟩ := C2.slShare
  exact ⟨⟨d.bs, q', cap⟩, m', w', rfl, hm, ⟨by simpa using hM, hd.2⟩, hr, hk, C3⟩
theorem c_Packet (p : Pk) : Ctr Try.prog 20 #[p.V] (fun m => BrM m p.b) [] (fun nb : Br => Pk.V { p with b := nb }) (fun nb m => nb.bs = p.b.bs ∧ BrM m nb) (fun _ => []) := by
  refine Ctr.mk fun w F m C hp => x_gemotlaw07_Packet _ _ _ _ _ _ _ _ _ _ w _ ⟨[], facts_nil _ _, fun w2 L3 h2 g2 => ?_, fun w2 L3 h2 g2 => ?_⟩
  · have C1 := C.hidL h2 g2
    refine C1.gives (c_Proc _ _) fun w5 k5 C5 => ⟨_, _, rfl, k5, facts_nil _ _, ?_, facts_nil _ _, ?_⟩
    · refine C5.gives (c_Proc _ _) fun w9 k9 C9 => ⟨_, _, rfl, k9, facts_nil _ _, facts_nil _ _, ?_⟩
      obtain ⟨nb, m', w15, e, hm, hb, hr, hk, C15⟩ := app_bytes (C9.newDrop [] 5) p.b hp (some ⟨w9.heap.size, 0, none⟩)
      exact ⟨nb.q, nb.bs.length, nb.c, w15, hr, hk, facts_nil _ _, fun w16 h16 => Ctr.ret nb rfl ⟨e, hb⟩ (C15.hid0 h16)⟩
    · have C6 := C5.newDrop [] 5
      refine C6.gives (c_Proc _ _) fun w9 k9 C9 => ⟨_, _, rfl, k9, facts_nil _ _, ?_⟩
      obtain ⟨nb, m', w15, e, hm, hb, hr, hk, C15⟩ := app_bytes C9 p.b hp (some ⟨w5.heap.size, 0, none⟩)
      exact ⟨nb.q, nb.bs.length, nb.c, w15, hr, hk, facts_nil _ _, fun w16 h16 => Ctr.ret nb rfl ⟨e, hb⟩ (C15.hid0 h16)⟩
  · have C1 := (C.hidL h2 g2).newDrop [] 5
    refine ⟨facts_nil _ _, ?_⟩
    refine C1.gives (c_Proc _ _) fun w5 k5 C5 => ⟨_, _, rfl, k5, facts_nil _ _, ?_⟩
    refine C5.gives (c_Proc _ _) fun w9 k9 C9 => ⟨_, _, rfl, k9, facts_nil _ _, ?_⟩
    obtain ⟨nb, m', w15, e, hm, hb, hr, hk, C15⟩ := app_bytes C9 p.b hp (some ⟨w2.heap.size, 0, none⟩)
    exact ⟨nb.q, nb.bs.length, nb.c, w15, hr, hk, facts_nil _ _, fun w16 h16 => Ctr.ret nb rfl ⟨e, hb⟩ (C15.hid0 h16)⟩

/-! ### who is no link -/
@[reducible] def unL : List Value := [.int .u8 0, .int .u16 0, .int .u8 0, .int .u16 0, .int .i64 0, .int .u64 0, .int .u64 0, .slice none 0 0, .map none, .bool false]
structure Dead (v : Value) (As : List Asn) : Prop where
  send : ∀ d : Br, Ctr Try.prog 13 #[v, d.V] noMem As (fun _ : Unit => .int .i64 1) (fun _ _ => True) (fun _ => As)
  hear : ∀ p : Pk, Ctr Try.prog 19 #[v, p.V] noMem As (fun _ : Unit => .slice none 0 0) (fun _ _ => True) (fun _ => As)
  out : ∀ n : Int, Ctr Try.prog 16 #[v, .int .i64 n] noMem As (fun _ : Unit => .slice none 0 0) (fun _ _ => True) (fun _ => As)
  waiting : Ctr Try.prog 22 #[v] noMem As (fun _ : Unit => .int .i64 0) (fun _ _ => True) (fun _ => As)
  idle : Ctr Try.prog 23 #[v] noMem As (fun _ : Unit => .bool false) (fun _ _ => True) (fun _ => As)
  want : Ctr Try.prog 24 #[v] noMem As (fun _ : Unit => .int .u64 0) (fun _ _ => True) (fun _ => As)
theorem n_none : Ctr Try.prog 29 #[.pointer none] noMem [] (fun _ : Unit => .bool true) (fun _ _ => True) (fun _ => []) := by
  refine Ctr.mk fun w F m C _ => x_nil_none w _ (Ctr.ret () rfl trivial C)
theorem d_none (b : Nat) : Ctr Try.prog 29 #[.pointer (some ⟨b, 0, none⟩)] noMem [blk b unL 82] (fun _ : Unit => .bool true) (fun _ _ => True) (fun _ => [blk b unL 82]) := by
  refine Ctr.mk fun w F m C _ => x_link_Link_none _ w _ ⟨none, ?_, Ctr.ret () rfl trivial C⟩
  rw [Addr.add_mid]; exact C.blkCell (j := 8) rfl
theorem dead_nil : Dead (.pointer none) [] where
  send d := by
    refine Ctr.mk fun w F m C _ => x_nil_Send _ _ _ w _ ?_
    refine n_none.call C trivial fun _ m1 w2 hk hm _ C => ⟨_, rfl, hk.size, ?_⟩
    rw [if_pos rfl]; exact Ctr.ret () rfl trivial C
  hear p := by
    refine Ctr.mk fun w F m C _ => x_nil_Hear _ _ _ _ _ _ _ _ _ _ w _ ⟨[], facts_nil _ _, fun w2 L3 h2 g2 => ?_⟩
    refine n_none.call (C.hidL h2 g2) trivial fun _ m1 w2 hk hm _ C => ⟨_, rfl, hk, facts_nil _ _, [], facts_nil _ _, fun _ h => h, ?_⟩
    rw [if_neg (by decide)]; exact ⟨[], facts_nil _ _, fun _ h => h, Ctr.ret () rfl trivial C⟩
  out n := by
    refine Ctr.mk fun w F m C _ => x_nil_Out _ w _ ?_
    refine n_none.call C trivial fun _ m1 w2 hk hm _ C => ⟨_, rfl, hk.size, ?_⟩
    rw [if_pos rfl]; exact Ctr.ret () rfl trivial C
  waiting := by
    refine Ctr.mk fun w F m C _ => x_nil_Waiting w _ ?_
    refine n_none.call C trivial fun _ m1 w2 hk hm _ C => ⟨_, rfl, hk.size, ?_⟩
    rw [if_pos rfl]; exact Ctr.ret () rfl trivial C
  idle := by
    refine Ctr.mk fun w F m C _ => x_nil_Idle w _ ?_
    refine n_none.call C trivial fun _ m1 w2 hk hm _ C => ⟨_, rfl, hk.size, ?_⟩
    rw [if_neg (by decide)]; exact Ctr.ret () rfl trivial C
  want := by
    refine Ctr.mk fun w F m C _ => x_nil_Want w _ ?_
    refine n_none.call C trivial fun _ m1 w2 hk hm _ C => ⟨_, rfl, hk.size, ?_⟩
    rw [if_pos rfl]; exact Ctr.ret () rfl trivial C
theorem dead_un (b : Nat) : Dead (.pointer (some ⟨b, 0, none⟩)) [blk b unL 82] where
  send d := by
    refine Ctr.mk fun w F m C _ => x_link_Link_Send _ _ _ _ w _ ?_
    refine (d_none b).call C trivial fun _ m1 w2 hk hm _ C => ⟨_, rfl, hk.size, ?_⟩
    rw [if_pos rfl]; exact Ctr.ret () rfl trivial C
  hear p := by
    refine Ctr.mk fun w F m C _ => x_link_Link_Hear _ _ _ _ _ _ _ _ _ _ _ w _ ⟨[], facts_nil _ _, fun w2 L3 h2 g2 => ?_⟩
    refine (d_none b).call (C.hidL h2 g2) trivial fun _ m1 w2 hk hm _ C => ⟨_, rfl, hk, facts_nil _ _, [], facts_nil _ _, fun _ h => h, ?_⟩
    rw [if_neg (by decide)]; exact ⟨[], facts_nil _ _, fun _ h => h, Ctr.ret () rfl trivial C⟩
  out n := by
    refine Ctr.mk fun w F m C _ => x_link_Link_Out _ _ w _ ?_
    refine (d_none b).call C trivial fun _ m1 w2 hk hm _ C => ⟨_, rfl, hk.size, ?_⟩
    rw [if_pos rfl]; exact Ctr.ret () rfl trivial C
  waiting := by
    refine Ctr.mk fun w F m C _ => x_link_Link_Waiting _ w _ ?_
    refine (d_none b).call C trivial fun _ m1 w2 hk hm _ C => ⟨_, rfl, hk.size, ?_⟩
    rw [if_pos rfl]; exact Ctr.ret () rfl trivial C
  idle := by
    refine Ctr.mk fun w F m C _ => x_link_Link_Idle _ w _ ?_
    refine (d_none b).call C trivial fun _ m1 w2 hk hm _ C => ⟨_, rfl, hk.size, ?_⟩
    rw [if_neg (by decide)]; exact Ctr.ret () rfl trivial C
  want := by
    refine Ctr.mk fun w F m C _ => x_link_Link_Want _ w _ ?_
    refine (d_none b).call C trivial fun _ m1 w2 hk hm _ C => ⟨_, rfl, hk.size, ?_⟩
    rw [if_pos rfl]; exact Ctr.ret () rfl trivial C
end Go.Proofs
