import Derived.Test.YtfbjellaijdgbaaDoorU06k
import Derived.Test.YtfbjellaijdgbaaDoorV06i
set_option linter.unusedVariables false
set_option linter.unusedSimpArgs false
set_option maxRecDepth 10000
namespace Go.Proofs
open Go X RowKit
theorem c_Ref6 (v : Vw) (hl : v.ms.length ≤ 1000000) : Ctr Tryd.prog 12 #[.agg v.row.toArray] (fun m => VwM m v) [] (fun p : Sl => .agg (Vw.row { v with q := p }).toArray) (fun p m => VwM m { v with q := p }) (fun _ => []) := by
  refine Ctr.mk fun w F m C hv => x_Ref6 _ _ _ _ _ w _ ⟨[], facts_nil _ _, fun w2 L3 h2 g2 => ?_⟩
  refine (c_RefProcs v.q v.ms (by omega)).call (As := []) (C.hidL h2 g2) hv fun p m1 w5 hk hm1 hp C => ⟨_, _, _, rfl, hk, facts_nil _ _, fun w9 h9 => ?_⟩
  exact Ctr.ret (m' := m1) (L := []) p rfl hp (C.hid0 h9)
theorem c_r6Same (a b : Vw) (hl : a.ms.length ≤ 1000000) : Ctr Tryd.prog 11 #[.agg a.row.toArray, .agg b.row.toArray] (fun m => VwM m a ∧ VwM m b) [] (fun _ : Unit => .bool (decide (a.g = b.g ∧ a.n = b.n ∧ a.ms = b.ms))) (fun _ _ => True) (fun _ => []) := by
  refine Ctr.mk fun w F m C hp => x_r6Same _ _ _ _ _ _ _ _ _ _ w _ ?_
  by_cases h : a.g = b.g ∧ a.n = b.n
  · rw [if_pos (by simp [h.1, h.2])]
    intro w2 L3 h2 g2
    refine (c_SameProcs a.q b.q a.ms b.ms (by omega)).call (As := []) (C.hidL h2 g2) hp fun _ m1 w5 hk hm _ C => ⟨_, rfl, hk, ?_⟩
    refine Ctr.ret (m' := m1) () ?_ trivial C
    rw [Bool.true_and, show (decide (a.g = b.g ∧ a.n = b.n ∧ a.ms = b.ms)) = decide (a.ms = b.ms) from decide_eq_decide.2 ⟨fun h => h.2.2, fun h3 => ⟨h.1, h.2, h3⟩⟩]
  · rw [if_neg (by simpa using h)]
    refine fun w1 h1 => Ctr.ret (m' := m) (L := []) () ?_ trivial (C.hid0 h1)
    rw [decide_eq_false (fun h2 => h ⟨h2.1, h2.2.1⟩)]
set_option maxHeartbeats 4000000 in
theorem c_ViewNexts (v : Vw) (hr : ∀ p ∈ v.ms, 0 ≤ p.n) (hn : 0 ≤ v.n ∧ v.n ≤ 4294967295) (dq : Sl) (drop : List Pr) (aq : Sl) (add : List Pr) :
    Ctr Tryd.prog 3 #[.agg v.row.toArray, slV dq drop.length, slV aq add.length] (fun m => VwM m v ∧ PM dq drop m ∧ PM aq add m) [] (fun _ : Unit => .bool true) (fun _ _ => True) (fun _ => []) := by
  refine Ctr.mk fun w F m C hp => x_ViewNexts _ _ _ _ _ _ _ _ _ _ _ w _ fun w1 L2 h1 g1 => ?_
  obtain ⟨hv, hd, ha⟩ := hp
  refine (C.hidL h1 g1).gives (c_few v dq drop) fun w4 k4 C => ⟨_, rfl, k4, ?_⟩
  by_cases hf : (v.ms.length ≤ 40 ∧ drop.length ≤ 40) ∧ add.length ≤ 40
  rotate_left
  · rw [if_pos (by
      rw [Bool.or_eq_true]
      by_cases h1 : v.ms.length ≤ 40 ∧ drop.length ≤ 40
      · exact .inr (by simp; have : ¬ add.length ≤ 40 := fun h => hf ⟨h1, h⟩; omega)
      · exact .inl (by simp only [decide_eq_false h1]; rfl))]
    exact c_knows.call (As := []) C trivial fun _ m w k hm _ C => ⟨_, rfl, k, Ctr.ret (m' := m) () rfl trivial C⟩
  obtain ⟨⟨hf1, hf2⟩, hf3⟩ := hf
  rw [if_neg (by simp only [decide_eq_true (⟨hf1, hf2⟩ : v.ms.length ≤ 40 ∧ drop.length ≤ 40)]; simp; omega)]
  clear h1 g1
  have hX : ∀ p : Sl, nextF { v with q := p } drop add = nextF v drop add := fun _ => rfl
  generalize hXX : nextF v drop add = X at *
  have hxl : X.ms.length ≤ 1000000 := by
    subst hXX
    unfold nextF
    split
    · simp [Nv.err]
    · split
      · simp [Nv.err]
      · split
        · simp [Nv.err]
        · split
          · simp [Nv.err]
          · show (nextL v.ms drop add).length ≤ 1000000
            omega

  refine (c_Own6 v (by omega)).call (As := []) C hv fun p1 m w k hm hv1 C => ⟨_, _, _, _, _, rfl, k, [], facts_nil _ _, ?_, ?_⟩
  · intro w L h g
    replace hv := MSrc.mono hv hm
    replace hd := MSrc.mono hd hm
    replace ha := MSrc.mono ha hm
    refine (c_Procs dq drop (by omega)).call (As := []) (C.hidL h g) hd fun pd m w k hm hpd C => ⟨_, _, _, rfl, k, facts_nil _ _, ?_, ?_⟩
    · skip
      replace hv := MSrc.mono hv hm
      replace hd := MSrc.mono hd hm
      replace ha := MSrc.mono ha hm
      replace hv1 := MSrc.mono hv1 hm
      refine (c_Procs aq add (by omega)).call (As := []) C ha fun pa m w k hm hpa C => ⟨_, _, _, rfl, k, facts_nil _ _, ?_, ?_⟩
      · skip
        replace hv := MSrc.mono hv hm
        replace hd := MSrc.mono hd hm
        replace ha := MSrc.mono ha hm
        replace hv1 := MSrc.mono hv1 hm
        replace hpd := MSrc.mono hpd hm
        refine (c_Next { v with q := p1 } hr hn pd drop (by omega) pa add (by omega)).call (As := []) C ⟨hv1, hpd, hpa⟩ fun p2 m w k hm hx C => ?_
        rw [hX] at hx ⊢
        refine ⟨_, _, _, _, _, _, rfl, k, ?_⟩
        replace hv := MSrc.mono hv hm
        replace hd := MSrc.mono hd hm
        replace ha := MSrc.mono ha hm
        replace hv1 := MSrc.mono hv1 hm
        intro w L h g
        refine (c_rNext v hr hn dq drop (by omega) aq add (by omega)).call (As := []) (C.hidL h g) ⟨hv, hd, ha⟩ fun p3 m w k hm hx2 C => ?_
        rw [hXX] at hx2 ⊢
        refine ⟨_, _, _, _, _, _, rfl, k, [], facts_nil _ _, ?_⟩
        replace hv := MSrc.mono hv hm
        replace hd := MSrc.mono hd hm
        replace ha := MSrc.mono ha hm
        replace hv1 := MSrc.mono hv1 hm
        replace hx := MSrc.mono hx hm
        intro w L h g
        refine (c_Ref6 ⟨X.g, X.n, p2, X.ms⟩ hxl).call (As := []) (C.hidL h g) hx fun p4 m w k hm hx3 C => ⟨_, _, _, _, _, rfl, k, facts_nil _ _, [], facts_nil _ _, (fun _ h => by cases h), ?_⟩
        replace hv := MSrc.mono hv hm
        replace hv1 := MSrc.mono hv1 hm
        replace hx2 := MSrc.mono hx2 hm
        refine (c_r6Same ⟨X.g, X.n, p4, X.ms⟩ ⟨X.g, X.n, p3, X.ms⟩ hxl).call (As := []) C ⟨hx3, hx2⟩ fun _ m w k hm _ C => ⟨_, rfl, k, facts_nil _ _, [], facts_nil _ _, (fun _ h => by cases h), ?_⟩
        replace hv := MSrc.mono hv hm
        replace hv1 := MSrc.mono hv1 hm
        rw [if_pos (by simp)]
        refine C.gives (c_num X.e) fun w k C => ⟨_, rfl, k, facts_nil _ _, [], facts_nil _ _, (fun _ h => by cases h), ?_⟩
        rw [if_pos (by simp)]
        refine (c_Ref6 { v with q := p1 } (show v.ms.length ≤ 1000000 by omega)).call (As := []) C hv1 fun p5 m w k hm hv2 C => ⟨_, _, _, _, _, rfl, k, facts_nil _ _, ?_⟩
        replace hv := MSrc.mono hv hm
        refine (c_r6Same { v with q := p5 } v (show v.ms.length ≤ 1000000 by omega)).call (As := []) C ⟨hv2, hv⟩ fun _ m w k hm _ C => ⟨_, rfl, k, facts_nil _ _, ?_⟩
        rw [if_pos (by simp)]
        exact c_knows.call (As := []) C trivial fun _ m w k hm _ C => ⟨_, rfl, k, facts_nil _ _, Ctr.ret (m' := m) () rfl trivial C⟩
      · intro w L h g
        replace hv := MSrc.mono hv hm
        replace hd := MSrc.mono hd hm
        replace ha := MSrc.mono ha hm
        replace hv1 := MSrc.mono hv1 hm
        replace hpd := MSrc.mono hpd hm
        refine (c_Next { v with q := p1 } hr hn pd drop (by omega) pa add (by omega)).call (As := []) (C.hidL h g) ⟨hv1, hpd, hpa⟩ fun p2 m w k hm hx C => ?_
        rw [hX] at hx ⊢
        refine ⟨_, _, _, _, _, _, rfl, k, ?_⟩
        replace hv := MSrc.mono hv hm
        replace hd := MSrc.mono hd hm
        replace ha := MSrc.mono ha hm
        replace hv1 := MSrc.mono hv1 hm
        intro w L h g
        refine (c_rNext v hr hn dq drop (by omega) aq add (by omega)).call (As := []) (C.hidL h g) ⟨hv, hd, ha⟩ fun p3 m w k hm hx2 C => ?_
        rw [hXX] at hx2 ⊢
        refine ⟨_, _, _, _, _, _, rfl, k, [], facts_nil _ _, ?_⟩
        replace hv := MSrc.mono hv hm
        replace hd := MSrc.mono hd hm
        replace ha := MSrc.mono ha hm
        replace hv1 := MSrc.mono hv1 hm
        replace hx := MSrc.mono hx hm
        intro w L h g
        refine (c_Ref6 ⟨X.g, X.n, p2, X.ms⟩ hxl).call (As := []) (C.hidL h g) hx fun p4 m w k hm hx3 C => ⟨_, _, _, _, _, rfl, k, facts_nil _ _, [], facts_nil _ _, (fun _ h => by cases h), ?_⟩
        replace hv := MSrc.mono hv hm
        replace hv1 := MSrc.mono hv1 hm
        replace hx2 := MSrc.mono hx2 hm
        refine (c_r6Same ⟨X.g, X.n, p4, X.ms⟩ ⟨X.g, X.n, p3, X.ms⟩ hxl).call (As := []) C ⟨hx3, hx2⟩ fun _ m w k hm _ C => ⟨_, rfl, k, facts_nil _ _, [], facts_nil _ _, (fun _ h => by cases h), ?_⟩
        replace hv := MSrc.mono hv hm
        replace hv1 := MSrc.mono hv1 hm
        rw [if_pos (by simp)]
        refine C.gives (c_num X.e) fun w k C => ⟨_, rfl, k, facts_nil _ _, [], facts_nil _ _, (fun _ h => by cases h), ?_⟩
        rw [if_pos (by simp)]
        refine (c_Ref6 { v with q := p1 } (show v.ms.length ≤ 1000000 by omega)).call (As := []) C hv1 fun p5 m w k hm hv2 C => ⟨_, _, _, _, _, rfl, k, facts_nil _ _, ?_⟩
        replace hv := MSrc.mono hv hm
        refine (c_r6Same { v with q := p5 } v (show v.ms.length ≤ 1000000 by omega)).call (As := []) C ⟨hv2, hv⟩ fun _ m w k hm _ C => ⟨_, rfl, k, facts_nil _ _, ?_⟩
        rw [if_pos (by simp)]
        exact c_knows.call (As := []) C trivial fun _ m w k hm _ C => ⟨_, rfl, k, facts_nil _ _, Ctr.ret (m' := m) () rfl trivial C⟩
    · intro w L h g
      replace hv := MSrc.mono hv hm
      replace hd := MSrc.mono hd hm
      replace ha := MSrc.mono ha hm
      replace hv1 := MSrc.mono hv1 hm
      refine (c_Procs aq add (by omega)).call (As := []) (C.hidL h g) ha fun pa m w k hm hpa C => ⟨_, _, _, rfl, k, facts_nil _ _, ?_⟩
      replace hv := MSrc.mono hv hm
      replace hd := MSrc.mono hd hm
      replace ha := MSrc.mono ha hm
      replace hv1 := MSrc.mono hv1 hm
      replace hpd := MSrc.mono hpd hm
      refine (c_Next { v with q := p1 } hr hn pd drop (by omega) pa add (by omega)).call (As := []) C ⟨hv1, hpd, hpa⟩ fun p2 m w k hm hx C => ?_
      rw [hX] at hx ⊢
      refine ⟨_, _, _, _, _, _, rfl, k, ?_⟩
      replace hv := MSrc.mono hv hm
      replace hd := MSrc.mono hd hm
      replace ha := MSrc.mono ha hm
      replace hv1 := MSrc.mono hv1 hm
      intro w L h g
      refine (c_rNext v hr hn dq drop (by omega) aq add (by omega)).call (As := []) (C.hidL h g) ⟨hv, hd, ha⟩ fun p3 m w k hm hx2 C => ?_
      rw [hXX] at hx2 ⊢
      refine ⟨_, _, _, _, _, _, rfl, k, [], facts_nil _ _, ?_⟩
      replace hv := MSrc.mono hv hm
      replace hd := MSrc.mono hd hm
      replace ha := MSrc.mono ha hm
      replace hv1 := MSrc.mono hv1 hm
      replace hx := MSrc.mono hx hm
      intro w L h g
      refine (c_Ref6 ⟨X.g, X.n, p2, X.ms⟩ hxl).call (As := []) (C.hidL h g) hx fun p4 m w k hm hx3 C => ⟨_, _, _, _, _, rfl, k, facts_nil _ _, [], facts_nil _ _, (fun _ h => by cases h), ?_⟩
      replace hv := MSrc.mono hv hm
      replace hv1 := MSrc.mono hv1 hm
      replace hx2 := MSrc.mono hx2 hm
      refine (c_r6Same ⟨X.g, X.n, p4, X.ms⟩ ⟨X.g, X.n, p3, X.ms⟩ hxl).call (As := []) C ⟨hx3, hx2⟩ fun _ m w k hm _ C => ⟨_, rfl, k, facts_nil _ _, [], facts_nil _ _, (fun _ h => by cases h), ?_⟩
      replace hv := MSrc.mono hv hm
      replace hv1 := MSrc.mono hv1 hm
      rw [if_pos (by simp)]
      refine C.gives (c_num X.e) fun w k C => ⟨_, rfl, k, facts_nil _ _, [], facts_nil _ _, (fun _ h => by cases h), ?_⟩
      rw [if_pos (by simp)]
      refine (c_Ref6 { v with q := p1 } (show v.ms.length ≤ 1000000 by omega)).call (As := []) C hv1 fun p5 m w k hm hv2 C => ⟨_, _, _, _, _, rfl, k, facts_nil _ _, ?_⟩
      replace hv := MSrc.mono hv hm
      refine (c_r6Same { v with q := p5 } v (show v.ms.length ≤ 1000000 by omega)).call (As := []) C ⟨hv2, hv⟩ fun _ m w k hm _ C => ⟨_, rfl, k, facts_nil _ _, ?_⟩
      rw [if_pos (by simp)]
      exact c_knows.call (As := []) C trivial fun _ m w k hm _ C => ⟨_, rfl, k, facts_nil _ _, Ctr.ret (m' := m) () rfl trivial C⟩
  · intro w L h g
    replace hv := MSrc.mono hv hm
    replace hd := MSrc.mono hd hm
    replace ha := MSrc.mono ha hm
    refine (c_Procs dq drop (by omega)).call (As := []) (C.hidL h g) hd fun pd m w k hm hpd C => ⟨_, _, _, rfl, k, facts_nil _ _, ?_⟩
    replace hv := MSrc.mono hv hm
    replace hd := MSrc.mono hd hm
    replace ha := MSrc.mono ha hm
    replace hv1 := MSrc.mono hv1 hm
    refine (c_Procs aq add (by omega)).call (As := []) C ha fun pa m w k hm hpa C => ⟨_, _, _, rfl, k, facts_nil _ _, ?_⟩
    replace hv := MSrc.mono hv hm
    replace hd := MSrc.mono hd hm
    replace ha := MSrc.mono ha hm
    replace hv1 := MSrc.mono hv1 hm
    replace hpd := MSrc.mono hpd hm
    refine (c_Next { v with q := p1 } hr hn pd drop (by omega) pa add (by omega)).call (As := []) C ⟨hv1, hpd, hpa⟩ fun p2 m w k hm hx C => ?_
    rw [hX] at hx ⊢
    refine ⟨_, _, _, _, _, _, rfl, k, ?_⟩
    replace hv := MSrc.mono hv hm
    replace hd := MSrc.mono hd hm
    replace ha := MSrc.mono ha hm
    replace hv1 := MSrc.mono hv1 hm
    intro w L h g
    refine (c_rNext v hr hn dq drop (by omega) aq add (by omega)).call (As := []) (C.hidL h g) ⟨hv, hd, ha⟩ fun p3 m w k hm hx2 C => ?_
    rw [hXX] at hx2 ⊢
    refine ⟨_, _, _, _, _, _, rfl, k, [], facts_nil _ _, ?_⟩
    replace hv := MSrc.mono hv hm
    replace hd := MSrc.mono hd hm
    replace ha := MSrc.mono ha hm
    replace hv1 := MSrc.mono hv1 hm
    replace hx := MSrc.mono hx hm
    intro w L h g
    refine (c_Ref6 ⟨X.g, X.n, p2, X.ms⟩ hxl).call (As := []) (C.hidL h g) hx fun p4 m w k hm hx3 C => ⟨_, _, _, _, _, rfl, k, facts_nil _ _, [], facts_nil _ _, (fun _ h => by cases h), ?_⟩
    replace hv := MSrc.mono hv hm
    replace hv1 := MSrc.mono hv1 hm
    replace hx2 := MSrc.mono hx2 hm
    refine (c_r6Same ⟨X.g, X.n, p4, X.ms⟩ ⟨X.g, X.n, p3, X.ms⟩ hxl).call (As := []) C ⟨hx3, hx2⟩ fun _ m w k hm _ C => ⟨_, rfl, k, facts_nil _ _, [], facts_nil _ _, (fun _ h => by cases h), ?_⟩
    replace hv := MSrc.mono hv hm
    replace hv1 := MSrc.mono hv1 hm
    rw [if_pos (by simp)]
    refine C.gives (c_num X.e) fun w k C => ⟨_, rfl, k, facts_nil _ _, [], facts_nil _ _, (fun _ h => by cases h), ?_⟩
    rw [if_pos (by simp)]
    refine (c_Ref6 { v with q := p1 } (show v.ms.length ≤ 1000000 by omega)).call (As := []) C hv1 fun p5 m w k hm hv2 C => ⟨_, _, _, _, _, rfl, k, facts_nil _ _, ?_⟩
    replace hv := MSrc.mono hv hm
    refine (c_r6Same { v with q := p5 } v (show v.ms.length ≤ 1000000 by omega)).call (As := []) C ⟨hv2, hv⟩ fun _ m w k hm _ C => ⟨_, rfl, k, facts_nil _ _, ?_⟩
    rw [if_pos (by simp)]
    exact c_knows.call (As := []) C trivial fun _ m w k hm _ C => ⟨_, rfl, k, facts_nil _ _, Ctr.ret (m' := m) () rfl trivial C⟩
end Go.Proofs
