import Derived.Test.YtjabbpcfinjofaaU23b
import Derived.Test.YtjabbpcfinjofaaV23d
set_option linter.unusedVariables false
set_option linter.unusedSimpArgs false
set_option maxRecDepth 10000
namespace Go.Proofs
open Go X RowKit
theorem c_eClone (e : En) : Ctr Try.prog 24 #[.agg e.row.toArray] (fun m => EnM m e) [] (fun f : En => .agg f.row.toArray) (fun f m => EnM m f ∧ f.er = e.er) (fun _ => []) := by
  refine Ctr.mk fun w F m C he => x_eClone _ _ _ _ _ _ _ _ _ _ _ _ _ _ _ _ _ _ _ _ _ _ w _ ⟨[], facts_nil _ _, fun w2 L3 h2 g2 => ?_⟩
  refine (c_CloneP e.pq e.ps (by have := he.pl; omega)).call (As := []) (C.hidL h2 g2) he.p fun p m1 w5 hk hm1 hp C => ⟨_, _, _, rfl, hk, facts_nil _ _, ?_⟩
  refine (c_CloneW e.wq e.ws (by have := he.wl; omega)).call (As := []) C (he.w.mono hm1) fun q m2 w10 hk hm2 hq C => ⟨_, _, _, rfl, hk, facts_nil _ _, fun w14 h14 => ?_⟩
  exact Ctr.ret (m' := m2) (L := []) { e with pq := p, wq := q } rfl ⟨⟨hp.mono hm2, hq, he.pl, he.wl⟩, rfl⟩ (C.hid0 h14)
end Go.Proofs
