import Derived.Test.YtjabbpcfinjofaaU23m
set_option linter.unusedVariables false
set_option linter.unusedSimpArgs false
set_option maxRecDepth 10000
namespace Go.Proofs
open Go X RowKit
theorem dead_do {q : Option Addr} {As : List Asn} (D : Dead (.pointer q) As) (a : Ac) (ha : a.lt) (hb : a.b.ps.length * 48 ≤ 140737488355328) : Fls 10 #[.pointer q, .agg a.row.toArray] (fun m => AcM m a) (.bool false) As := by
  refine Ctr.mk fun w F m C hm => x_oDo _ _ _ _ _ _ _ _ _ _ _ _ _ _ _ _ _ _ _ _ _ _ _ _ _ _ _ _ _ _ _ _ _ _ _ _ _ _ _ _ _ _ _ _ _ _ _ _ _ _ _ _ _ _ _ _ _ _ _ _ _ _ _ _ _ _ _ _ _ _ _ _ _ _ _ _ _ _ _ _ _ _ _ _ _ w _ ?_
  have C0 : ∀ {w' L m'}, Ctx F m w w' L m' As → Ctx F m w w' L m' (As ++ []) := fun C => by rwa [List.append_nil]
  have C1 : ∀ {w' L m'}, Ctx F m w w' L m' (As ++ []) → Ctx F m w w' L m' As := fun C => by rwa [List.append_nil] at C
  have ht := ha.t
  have hs := ha.s
  split
  · refine fun w96 L97 h g => ?_
    refine (c_lBegun a.b hb).call (As := As) (C.hidL h g) hm.b fun p m1 w99 hk hm1 hp C => ⟨_, _, _, _, _, _, _, _, _, _, _, _, _, _, _, _, rfl, hk, ?_⟩
    exact (D.begin_ (a.b.at' p) hb).call (As := []) (C0 C) hp fun _ m2 w117 hk hm2 _ C => ⟨_, rfl, hk, Ctr.ret (m' := m2) () rfl trivial (C1 C)⟩
  split
  · refine fun w96 L97 h g => ?_
    refine (c_lEnd a.e).call (As := As) (C.hidL h g) trivial fun p m1 w99 hk hm1 hp C => ⟨_, _, _, _, _, _, _, _, _, _, _, _, _, _, _, _, _, rfl, hk, ?_⟩
    exact (D.end_ a.e).call (As := []) (C0 C) trivial fun _ m2 w117 hk hm2 _ C => ⟨_, rfl, hk, Ctr.ret (m' := m2) () rfl trivial (C1 C)⟩
  split
  · refine ⟨[], facts_nil _ _, fun w43 L44 h43 g43 => ?_⟩
    have he : EnM m a.l := ⟨hm.l.p, hm.l.w, by have := ha.p; omega, by have := ha.w; omega⟩
    refine (c_OwnE a.l).call (As := As) (C.hidL h43 g43) he fun f m1 w46 hk hm1 hf C => ⟨_, _, _, _, _, _, _, _, _, _, _, _, _, _, _, _, _, _, _, _, _, _, rfl, hk, facts_nil _ _, ?_⟩
    exact (D.commit a.g a.at_ f).call (As := []) (C0 C) trivial fun _ m2 w117 hk hm2 _ C => ⟨_, rfl, hk, facts_nil _ _, Ctr.ret (m' := m2) () rfl trivial (C1 C)⟩
  split
  · refine fun w96 L97 h g => ?_
    refine (c_lTold a.t (by omega)).call (As := As) (C.hidL h g) hm.t fun p m1 w99 hk hm1 hp C => ⟨_, _, _, _, _, _, _, _, _, _, _, _, _, _, _, _, _, _, _, rfl, hk, ?_⟩
    exact (D.tell (a.t.at_ p) (show a.t.v.ps.length * 48 ≤ _ by omega)).call (As := []) (C0 C) hp fun _ m2 w117 hk hm2 _ C => ⟨_, rfl, hk, Ctr.ret (m' := m2) () rfl trivial (C1 C)⟩
  split
  · refine fun w96 L97 h g => ?_
    refine (c_lSat a.s (by omega)).call (As := As) (C.hidL h g) hm.s fun p m1 w99 hk hm1 hp C => ⟨_, _, _, _, _, _, _, rfl, hk, ?_⟩
    exact (D.sit (a.s.at_ p) (show a.s.v.ps.length * 48 ≤ _ by omega)).call (As := []) (C0 C) hp fun _ m2 w117 hk hm2 _ C => ⟨_, rfl, hk, Ctr.ret (m' := m2) () rfl trivial (C1 C)⟩
  · refine fun w1 h1 => Ctr.ret (m' := m) () rfl trivial (C.hid0 h1)
end Go.Proofs
