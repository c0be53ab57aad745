import Derived.Test.YtfbjellaijdgbaaDoorU06l
set_option linter.unusedVariables false
set_option linter.unusedSimpArgs false
set_option maxRecDepth 10000
namespace Go.Proofs
open Go X RowKit
/-! ### the plain law -/
theorem cnt_meet (a b : List Pr) : ∀ (ms : List Pr), ms.any (fun p => decide (p ∈ a) && decide (p ∈ b)) = false → cntM ms a + cntM ms b ≤ ms.length
  | [], _ => by simp [cntM]
  | p :: ms, h => by
    simp only [List.any_cons, Bool.or_eq_false_iff] at h
    have ih := cnt_meet a b ms h.2
    have h1 := h.1
    simp only [cntM, List.countP_cons, List.length_cons] at ih ⊢
    by_cases ha : p ∈ a
    · by_cases hb : p ∈ b
      · simp [ha, hb] at h1
      · simp only [ha, hb, decide_true, decide_false, if_true]; simp; omega
    · by_cases hb : p ∈ b
      · simp only [ha, hb, decide_true, decide_false, if_true]; simp; omega
      · simp only [ha, hb, decide_false]; simp; omega
theorem nextF_e {v : Vw} {drop add : List Pr} (h : (nextF v drop add).e ≠ 0) : (nextF v drop add).ms = [] := by
  revert h
  unfold nextF
  split
  · intro _; rfl
  · split
    · intro _; rfl
    · split
      · intro _; rfl
      · split
        · intro _; rfl
        · intro h; exact absurd rfl h
theorem ok_take {l : List Pr} {p : Pr} (h : ∀ x ∈ l, x.ok = true) : ∀ x ∈ takeF l p, x.ok = true := by
  unfold takeF
  split
  · rename_i hp
    split
    · intro x hx
      rcases List.mem_or_eq_of_mem_set hx with hx | rfl
      · exact h x hx
      · exact hp
    · intro x hx
      rw [List.mem_append, List.mem_singleton] at hx
      rcases hx with hx | rfl
      · exact h x hx
      · exact hp
  · exact h
theorem ok_fold : ∀ {a l : List Pr}, (∀ x ∈ l, x.ok = true) → ∀ x ∈ a.foldl takeF l, x.ok = true
  | [], _, h => h
  | p :: a, _, h => ok_fold (a := a) (ok_take h)
theorem nn_take {l : List Pr} {p : Pr} (hp : 0 ≤ p.n) (h : ∀ x ∈ l, 0 ≤ x.n) : ∀ x ∈ takeF l p, 0 ≤ x.n := by
  unfold takeF
  split
  · split
    · intro x hx
      rcases List.mem_or_eq_of_mem_set hx with hx | rfl
      · exact h x hx
      · exact hp
    · intro x hx
      rw [List.mem_append, List.mem_singleton] at hx
      rcases hx with hx | rfl
      · exact h x hx
      · exact hp
  · exact h
theorem nn_fold : ∀ {a l : List Pr}, (∀ x ∈ a, 0 ≤ x.n) → (∀ x ∈ l, 0 ≤ x.n) → ∀ x ∈ a.foldl takeF l, 0 ≤ x.n
  | [], _, _, h => h
  | p :: a, _, ha, h => nn_fold (a := a) (fun x hx => ha x (by simp [hx])) (nn_take (ha p (by simp)) h)
theorem nextF_k {v : Vw} {drop add : List Pr} (hr : ∀ p ∈ v.ms, 0 ≤ p.n) (hra : ∀ p ∈ add, 0 ≤ p.n) (hn : 0 ≤ v.n ∧ v.n ≤ 4294967295) (h : (nextF v drop add).e = 0) :
    ((nextF v drop add).n = v.n + 1 ∧ v.n ≠ 4294967295) ∧ (cntM v.ms (nextF v drop add).ms : Int) ≥ v.maj ∧ (∀ p ∈ (nextF v drop add).ms, 0 ≤ p.n) ∧ ∀ p2, Vw.ok ⟨(nextF v drop add).g, (nextF v drop add).n, p2, (nextF v drop add).ms⟩ = true := by
  revert h
  unfold nextF
  split
  · intro h; exact absurd h (by simp [Nv.err])
  · rename_i hok
    split
    · intro h; exact absurd h (by simp [Nv.err])
    · rename_i hmx
      split
      · intro h; exact absurd h (by simp [Nv.err])
      · rename_i hq
        split
        · intro h; exact absurd h (by simp [Nv.err])
        · rename_i h8
          intro _
          have hok : v.ok = true := by simpa using hok
          simp only [Vw.ok, decide_eq_true_eq] at hok
          obtain ⟨hg, hn0, hl0, hl8, ho1, ho2⟩ := hok
          have hq : (cntM v.ms (nextL v.ms drop add) : Int) ≥ v.maj := by simpa using hq
          have hk : ∀ x ∈ keepF v.ms drop, x ∈ v.ms := fun x hx => (List.mem_filter.1 hx).1
          refine ⟨⟨rfl, hmx⟩, hq, nn_fold hra (fun x hx => hr x (hk x hx)), fun p2 => ?_⟩
          simp only [Vw.ok, decide_eq_true_eq]
          refine ⟨hg, by omega, ?_, by omega, ok_fold (fun x hx => ho1 x (hk x hx)), nd_fold (nd_keep ho2)⟩
          intro h0
          have hnil : nextL v.ms drop add = [] := List.eq_nil_of_length_eq_zero h0
          rw [hnil] at hq
          have : cntM v.ms [] = 0 := by simp [cntM]
          rw [this, Vw.maj] at hq
          omega
set_option maxHeartbeats 8000000 in
theorem c_ViewMeets (v : Vw) (hr : ∀ p ∈ v.ms, 0 ≤ p.n) (hn : 0 ≤ v.n ∧ v.n ≤ 4294967295) (dq : Sl) (drop : List Pr) (aq : Sl) (add : List Pr) (hra : ∀ p ∈ add, 0 ≤ p.n) (hbig : v.ms.length * 4 ≤ 140737488355328) :
    Ctr Tryd.prog 4 #[.agg v.row.toArray, slV dq drop.length, slV aq add.length] (fun m => VwM m v ∧ PM dq drop m ∧ PM aq add m) [] (fun _ : Unit => .bool true) (fun _ _ => True) (fun _ => []) := by
  refine Ctr.mk fun w0 F m0 C hp => x_ViewMeets _ _ _ _ _ _ _ _ _ _ _ w0 _ fun w1 L2 h1 g1 => ?_
  obtain ⟨hv, hd, ha⟩ := hp
  refine (c_Own6 v hbig).call (As := []) (C.hidL h1 g1) hv fun p1 m w k hm hv1 C => ⟨_, _, _, _, _, rfl, k, ?_⟩
  replace hv := MSrc.mono hv hm
  replace hd := MSrc.mono hd hm
  replace ha := MSrc.mono ha hm
  clear h1 g1
  intro w L h g
  refine (C.hidL h g).gives (c_few v dq drop) fun w k C => ⟨_, rfl, k, ?_⟩
  by_cases hf : (v.ms.length ≤ 40 ∧ drop.length ≤ 40) ∧ add.length ≤ 40
  rotate_left
  · rw [if_neg (by
      intro hh
      have h0 : ((!decide (v.ms.length ≤ 40 ∧ drop.length ≤ 40)) || decide (((add.length : Nat) : Int) > 40)) = false := by simpa using hh
      rw [Bool.or_eq_false_iff] at h0
      exact hf ⟨by simpa using h0.1, by have := h0.2; simp at this; omega⟩)]
    exact c_knows.call (As := []) C trivial fun _ m w k hm _ C => ⟨_, rfl, k, Ctr.ret (m' := m) () rfl trivial C⟩
  obtain ⟨⟨hf1, hf2⟩, hf3⟩ := hf
  rw [if_pos (by simp only [decide_eq_true (⟨hf1, hf2⟩ : v.ms.length ≤ 40 ∧ drop.length ≤ 40)]; simp; omega)]
  have hX : ∀ p : Sl, nextF { v with q := p } drop add = nextF v drop add := fun _ => rfl
  have hXe := nextF_e (v := v) (drop := drop) (add := add)
  have hXk := nextF_k (v := v) (drop := drop) (add := add) hr hra hn
  have hxl : (nextF v drop add).ms.length ≤ 1000000 := by
    have h1 := fold_len add (keepF v.ms drop)
    have h2 := keep_len v.ms drop
    by_cases h0 : (nextF v drop add).e = 0
    · revert h0
      unfold nextF
      split
      · intro _; simp [Nv.err]
      · split
        · intro _; simp [Nv.err]
        · split
          · intro _; simp [Nv.err]
          · split
            · intro _; simp [Nv.err]
            · intro _; show (nextL v.ms drop add).length ≤ 1000000; unfold nextL; omega
    · rw [hXe h0]; simp
  generalize nextF v drop add = X at *
  refine (c_vRight { v with q := p1 } hr).call (As := []) C hv1 fun _ m w k hm _ C => ⟨_, rfl, k, ?_⟩
  have hokq : Vw.ok { v with q := p1 } = v.ok := rfl
  rw [hokq]
  replace hv := MSrc.mono hv hm
  replace hd := MSrc.mono hd hm
  replace ha := MSrc.mono ha hm
  replace hv1 := MSrc.mono hv1 hm
  cases hok : v.ok with
  | false =>
    rw [if_neg (by decide)]
    exact c_knows.call (As := []) C trivial fun _ m w k hm _ C => ⟨_, rfl, k, Ctr.ret (m' := m) () rfl trivial C⟩
  | true =>
  rw [if_pos (by decide)]
  refine c_knows.call (As := []) C trivial fun _ m w k hm _ C => ⟨_, rfl, k, ?_⟩
  replace hv := MSrc.mono hv hm
  replace hd := MSrc.mono hd hm
  replace ha := MSrc.mono ha hm
  replace hv1 := MSrc.mono hv1 hm
  rw [if_neg (by decide)]
  refine ⟨[], facts_nil _ _, ?_⟩
  intro w L h g
  refine (c_Procs dq drop (by omega)).call (As := []) (C.hidL h g) hd fun qd m w k hm hqd C => ⟨_, _, _, rfl, k, facts_nil _ _, [], facts_nil _ _, (fun _ h => by cases h), ?_⟩
  replace hv := MSrc.mono hv hm
  replace hd := MSrc.mono hd hm
  replace ha := MSrc.mono ha hm
  replace hv1 := MSrc.mono hv1 hm
  refine (c_Quorum { v with q := p1 } (show v.ms.length ≤ 100000 by omega) qd drop (by omega)).call (As := []) C ⟨hv1, hqd⟩ fun b1 m w k hm hb1 C => ⟨_, rfl, k, facts_nil _ _, [], facts_nil _ _, (fun _ h => by cases h), ?_⟩
  replace hv := MSrc.mono hv hm
  replace hd := MSrc.mono hd hm
  replace ha := MSrc.mono ha hm
  replace hv1 := MSrc.mono hv1 hm
  cases b1 with
  | true =>
    rw [if_pos (by decide)]
    refine (c_Procs aq add (by omega)).call (As := []) C ha fun qe m w k hm hqe C => ⟨_, _, _, rfl, k, facts_nil _ _, ?_⟩
    replace hv := MSrc.mono hv hm
    replace hd := MSrc.mono hd hm
    replace ha := MSrc.mono ha hm
    replace hv1 := MSrc.mono hv1 hm
    refine (c_Quorum { v with q := p1 } (show v.ms.length ≤ 100000 by omega) qe add (by omega)).call (As := []) C ⟨hv1, hqe⟩ fun b2 m w k hm hb2 C => ⟨_, rfl, k, facts_nil _ _, ?_⟩
    replace hv := MSrc.mono hv hm
    replace hd := MSrc.mono hd hm
    replace ha := MSrc.mono ha hm
    replace hv1 := MSrc.mono hv1 hm
    cases b2 with
    | true =>
      rw [if_pos (by decide)]
      refine ⟨fun b i w' L' => ∃ (j : Nat) (m' : Mem), i = j ∧ j ≤ v.ms.length ∧ b = (v.ms.take j).any (fun p => decide (p ∈ drop) && decide (p ∈ add)) ∧ m.le m' ∧ Ctx F m0 w0 w' L' m' [], fun _ i _ => ((v.ms.length : Int) - i).toNat, ⟨0, m, rfl, by omega, rfl, Mem.le_refl _, C⟩, ?_⟩
      rintro b i w L _ ⟨j, m', rfl, hj, hb, hm', C⟩
      by_cases hjl : j < v.ms.length
      · rw [if_pos (by simpa using hjl)]
        have e1 : IntKind.wrap .i64 ((j : Int) + 1) = ((j + 1 : Nat) : Int) := by rw [w_i64 (by omega) (by omega)]; omega
        have hms : ((v.ms.length : Int) - ((j + 1 : Nat) : Int)).toNat + 1 = ((v.ms.length : Int) - (j : Int)).toNat := by omega
        have hst : (v.ms.take (j + 1)).any (fun p => decide (p ∈ drop) && decide (p ∈ add)) = (b || (decide (v.ms[j] ∈ drop) && decide (v.ms[j] ∈ add))) := by
          rw [List.take_succ_eq_append_getElem hjl, List.any_append, ← hb]; simp
        cases b with
        | true =>
          rw [if_neg (by decide), e1]
          exact ⟨rfl, rfl, ⟨j + 1, m', rfl, hjl, by rw [hst]; rfl, hm', C⟩, Nat.le_of_eq hms⟩
        | false =>
          rw [if_pos (by decide)]
          refine ⟨by omega, by simpa using hjl, ?_⟩
          obtain ⟨a, ha1, hc⟩ := (MSrc.mono hv hm').elem pr_len hjl
          have ha1 : v.q.1 = some a := ha1
          rw [ha1, onSome_some, Int.toNat_natCast]
          refine ⟨_, _, C.cells hc, C.cellsL hc, ?_⟩
          refine (c_rRank dq drop v.ms[j] (by omega)).call (As := []) C (hd.mono hm') fun r m2 w k hm2 hr2 C => ⟨_, rfl, k, ?_⟩
          by_cases hin : v.ms[j] ∈ drop
          · have : ¬ r < 0 := fun h => hr2.1 h hin
            rw [if_pos (by simp; omega)]
            refine ⟨by omega, by simpa using hjl, ?_⟩
            rw [onSome_some]
            refine ⟨_, _, C.cells (MCells.mono hc hm2), C.cellsL (MCells.mono hc hm2), ?_⟩
            refine (c_rRank aq add v.ms[j] (by omega)).call (As := []) C (ha.mono (hm'.le_trans hm2)) fun r3 m3 w k hm3 hr3 C => ⟨_, rfl, k, rfl, rfl, ?_⟩
            rw [e1]
            refine ⟨⟨j + 1, m3, rfl, hjl, ?_, (hm'.le_trans hm2).le_trans hm3, C⟩, Nat.le_of_eq hms⟩
            rw [hst, decide_eq_true hin]
            congr 2
            by_cases h3 : v.ms[j] ∈ add
            · have : ¬ r3 < 0 := fun h => hr3.1 h h3
              rw [decide_eq_true h3, decide_eq_true (by omega)]
            · have := hr3.2 h3
              rw [decide_eq_false h3, decide_eq_false (by omega)]
          · have := hr2.2 hin
            rw [if_neg (by simp; omega), e1]
            exact ⟨rfl, rfl, ⟨j + 1, m2, rfl, hjl, by rw [hst, decide_eq_false hin]; rfl, hm'.le_trans hm2, C⟩, Nat.le_of_eq hms⟩
      · rw [if_neg (by simpa using hjl)]
        have hj2 : j = v.ms.length := by omega
        subst hj2
        rw [List.take_length] at hb
        have hbt : b = true := by
          cases hbb : b with
          | true => rfl
          | false =>
            rw [hbb] at hb
            have hcm := cnt_meet drop add v.ms hb.symm
            have q1 : (cntM v.ms drop : Int) ≥ ((v.ms.length / 2 + 1 : Nat) : Int) := by simpa [Vw.maj] using hb1
            have q2 : (cntM v.ms add : Int) ≥ ((v.ms.length / 2 + 1 : Nat) : Int) := by simpa [Vw.maj] using hb2
            omega
        rw [hbt, if_neg (by decide)]
        replace hv := MSrc.mono hv hm'
        replace hd := MSrc.mono hd hm'
        replace ha := MSrc.mono ha hm'
        replace hv1 := MSrc.mono hv1 hm'

        refine ⟨[], facts_nil _ _, ?_, ?_⟩
        · intro w L h g
          refine (c_Procs dq drop (by omega)).call (As := []) (C.hidL h g) hd fun pd m w k hm hpd C => ⟨_, _, _, rfl, k, facts_nil _ _, ?_, ?_⟩
          · skip
            replace hv := MSrc.mono hv hm
            replace hd := MSrc.mono hd hm
            replace ha := MSrc.mono ha hm
            replace hv1 := MSrc.mono hv1 hm
            refine (c_Procs aq add (by omega)).call (As := []) C ha fun pa m w k hm hpa C => ⟨_, _, _, rfl, k, facts_nil _ _, ?_, ?_⟩
            · skip
              replace hv := MSrc.mono hv hm
              replace hd := MSrc.mono hd hm
              replace ha := MSrc.mono ha hm
              replace hv1 := MSrc.mono hv1 hm
              replace hpd := MSrc.mono hpd hm
              refine (c_Next { v with q := p1 } hr hn pd drop (by omega) pa add (by omega)).call (As := []) C ⟨hv1, hpd, hpa⟩ fun p2 m w k hm hx C => ?_
              rw [hX] at hx ⊢
              refine ⟨_, _, _, _, _, _, rfl, k, ?_⟩
              replace hv1 := MSrc.mono hv1 hm
              intro w L h g
              refine (C.hidL h g).gives (c_num X.e) fun w k C => ⟨_, rfl, k, ?_⟩
              by_cases hX0 : X.e = 0
              rotate_left
              · rw [if_pos (by simp [hX0])]
                exact Ctr.ret (m' := m) () (by rw [hXe hX0]; rfl) trivial C
              rw [if_neg (by simp [hX0])]
              obtain ⟨hXn, hXm, hXo, hXw⟩ := hXk hX0
              refine ⟨fun b i w' L' => ∃ (j : Nat) (m' : Mem), i = j ∧ j ≤ v.ms.length ∧ b = (cntM (v.ms.take j) X.ms : Int) ∧ cntM (v.ms.take j) X.ms ≤ j ∧ m.le m' ∧ Ctx F m0 w0 w' L' m' [], fun _ i _ => ((v.ms.length : Int) - i).toNat, ⟨0, m, rfl, by omega, rfl, Nat.le_refl _, Mem.le_refl _, C⟩, ?_⟩
              rintro b i w L _ ⟨j, m', rfl, hj, rfl, hle, hm', D⟩
              by_cases hjl : j < v.ms.length
              rotate_left
              · rw [if_neg (by simpa using hjl)]
                have hj2 : j = v.ms.length := by omega
                subst hj2
                rw [List.take_length] at hle ⊢
                have hmj : (cntM v.ms X.ms : Int) ≥ ((v.ms.length / 2 + 1 : Nat) : Int) := hXm
                rw [if_pos (by rw [w_i64 (by omega) (by omega)]; simp; omega)]
                refine (c_vRight ⟨X.g, X.n, p2, X.ms⟩ (fun p hp => hXo p hp)).call (As := []) D (MSrc.mono hx hm') fun _ m w k hm _ C => ⟨_, rfl, k, ?_⟩
                have hok2 : Vw.ok ⟨X.g, X.n, p2, X.ms⟩ = true := hXw p2
                rw [hok2]
                refine Ctr.ret (m' := m) () ?_ trivial C
                rw [show X.n = IntKind.wrap .u32 (v.n + 1) from by rw [hXn.1, w_u32 (by omega) (by omega)]]
                simp
              rw [if_pos (by simpa using hjl)]
              obtain ⟨a, ha1, hc⟩ := (MSrc.mono hv1 hm').elem pr_len hjl
              have ha1 : p1.1 = some a := ha1
              have hc : MCells m' (a.add (j * 2)) v.ms[j].row := hc
              refine ⟨_, D.memFact hc (facts_nil _ _), by omega, by simpa using hjl, ?_⟩
              rw [ha1, onSome_some, Int.toNat_natCast]
              refine ⟨_, _, List.mem_singleton.2 rfl, fun w L h g => ?_⟩
              have e1 : IntKind.wrap .i64 ((j : Int) + 1) = ((j + 1 : Nat) : Int) := by rw [w_i64 (by omega) (by omega)]; omega
              have hst : cntM (v.ms.take (j + 1)) X.ms = cntM (v.ms.take j) X.ms + if v.ms[j] ∈ X.ms then 1 else 0 := by
                rw [List.take_succ_eq_append_getElem hjl, cntM, List.countP_append]; simp [cntM, List.countP_cons]
              refine (c_Rank ⟨X.g, X.n, p2, X.ms⟩ v.ms[j] hxl).call (As := []) (D.hidL h g) (MSrc.mono hx hm') fun r m2 w k hm2 hr2 C => ⟨_, rfl, k, C.memFact (MCells.mono hc hm2) (facts_nil _ _), ?_⟩
              by_cases hin : v.ms[j] ∈ X.ms
              · have : ¬ r < 0 := fun h => hr2.1 h hin
                rw [if_pos (by simp; omega), e1]
                rw [if_pos hin] at hst
                exact ⟨rfl, rfl, rfl, ⟨j + 1, m2, rfl, hjl, by rw [w_i64 (by omega) (by omega), hst]; omega, by omega, hm'.le_trans hm2, C⟩, Nat.le_of_eq (by show ((v.ms.length : Int) - ((j + 1 : Nat) : Int)).toNat + 1 = ((v.ms.length : Int) - (j : Int)).toNat; omega)⟩
              · have := hr2.2 hin
                rw [if_neg (by simp; omega), e1]
                rw [if_neg hin] at hst
                exact ⟨rfl, rfl, rfl, ⟨j + 1, m2, rfl, hjl, by rw [hst]; rfl, by omega, hm'.le_trans hm2, C⟩, Nat.le_of_eq (by show ((v.ms.length : Int) - ((j + 1 : Nat) : Int)).toNat + 1 = ((v.ms.length : Int) - (j : Int)).toNat; omega)⟩
            · intro w L h g
              replace hv := MSrc.mono hv hm
              replace hd := MSrc.mono hd hm
              replace ha := MSrc.mono ha hm
              replace hv1 := MSrc.mono hv1 hm
              replace hpd := MSrc.mono hpd hm
              refine (c_Next { v with q := p1 } hr hn pd drop (by omega) pa add (by omega)).call (As := []) (C.hidL h g) ⟨hv1, hpd, hpa⟩ fun p2 m w k hm hx C => ?_
              rw [hX] at hx ⊢
              refine ⟨_, _, _, _, _, _, rfl, k, ?_⟩
              replace hv1 := MSrc.mono hv1 hm
              intro w L h g
              refine (C.hidL h g).gives (c_num X.e) fun w k C => ⟨_, rfl, k, ?_⟩
              by_cases hX0 : X.e = 0
              rotate_left
              · rw [if_pos (by simp [hX0])]
                exact Ctr.ret (m' := m) () (by rw [hXe hX0]; rfl) trivial C
              rw [if_neg (by simp [hX0])]
              obtain ⟨hXn, hXm, hXo, hXw⟩ := hXk hX0
              refine ⟨fun b i w' L' => ∃ (j : Nat) (m' : Mem), i = j ∧ j ≤ v.ms.length ∧ b = (cntM (v.ms.take j) X.ms : Int) ∧ cntM (v.ms.take j) X.ms ≤ j ∧ m.le m' ∧ Ctx F m0 w0 w' L' m' [], fun _ i _ => ((v.ms.length : Int) - i).toNat, ⟨0, m, rfl, by omega, rfl, Nat.le_refl _, Mem.le_refl _, C⟩, ?_⟩
              rintro b i w L _ ⟨j, m', rfl, hj, rfl, hle, hm', D⟩
              by_cases hjl : j < v.ms.length
              rotate_left
              · rw [if_neg (by simpa using hjl)]
                have hj2 : j = v.ms.length := by omega
                subst hj2
                rw [List.take_length] at hle ⊢
                have hmj : (cntM v.ms X.ms : Int) ≥ ((v.ms.length / 2 + 1 : Nat) : Int) := hXm
                rw [if_pos (by rw [w_i64 (by omega) (by omega)]; simp; omega)]
                refine (c_vRight ⟨X.g, X.n, p2, X.ms⟩ (fun p hp => hXo p hp)).call (As := []) D (MSrc.mono hx hm') fun _ m w k hm _ C => ⟨_, rfl, k, ?_⟩
                have hok2 : Vw.ok ⟨X.g, X.n, p2, X.ms⟩ = true := hXw p2
                rw [hok2]
                refine Ctr.ret (m' := m) () ?_ trivial C
                rw [show X.n = IntKind.wrap .u32 (v.n + 1) from by rw [hXn.1, w_u32 (by omega) (by omega)]]
                simp
              rw [if_pos (by simpa using hjl)]
              obtain ⟨a, ha1, hc⟩ := (MSrc.mono hv1 hm').elem pr_len hjl
              have ha1 : p1.1 = some a := ha1
              have hc : MCells m' (a.add (j * 2)) v.ms[j].row := hc
              refine ⟨_, D.memFact hc (facts_nil _ _), by omega, by simpa using hjl, ?_⟩
              rw [ha1, onSome_some, Int.toNat_natCast]
              refine ⟨_, _, List.mem_singleton.2 rfl, fun w L h g => ?_⟩
              have e1 : IntKind.wrap .i64 ((j : Int) + 1) = ((j + 1 : Nat) : Int) := by rw [w_i64 (by omega) (by omega)]; omega
              have hst : cntM (v.ms.take (j + 1)) X.ms = cntM (v.ms.take j) X.ms + if v.ms[j] ∈ X.ms then 1 else 0 := by
                rw [List.take_succ_eq_append_getElem hjl, cntM, List.countP_append]; simp [cntM, List.countP_cons]
              refine (c_Rank ⟨X.g, X.n, p2, X.ms⟩ v.ms[j] hxl).call (As := []) (D.hidL h g) (MSrc.mono hx hm') fun r m2 w k hm2 hr2 C => ⟨_, rfl, k, C.memFact (MCells.mono hc hm2) (facts_nil _ _), ?_⟩
              by_cases hin : v.ms[j] ∈ X.ms
              · have : ¬ r < 0 := fun h => hr2.1 h hin
                rw [if_pos (by simp; omega), e1]
                rw [if_pos hin] at hst
                exact ⟨rfl, rfl, rfl, ⟨j + 1, m2, rfl, hjl, by rw [w_i64 (by omega) (by omega), hst]; omega, by omega, hm'.le_trans hm2, C⟩, Nat.le_of_eq (by show ((v.ms.length : Int) - ((j + 1 : Nat) : Int)).toNat + 1 = ((v.ms.length : Int) - (j : Int)).toNat; omega)⟩
              · have := hr2.2 hin
                rw [if_neg (by simp; omega), e1]
                rw [if_neg hin] at hst
                exact ⟨rfl, rfl, rfl, ⟨j + 1, m2, rfl, hjl, by rw [hst]; rfl, by omega, hm'.le_trans hm2, C⟩, Nat.le_of_eq (by show ((v.ms.length : Int) - ((j + 1 : Nat) : Int)).toNat + 1 = ((v.ms.length : Int) - (j : Int)).toNat; omega)⟩
          · intro w L h g
            replace hv := MSrc.mono hv hm
            replace hd := MSrc.mono hd hm
            replace ha := MSrc.mono ha hm
            replace hv1 := MSrc.mono hv1 hm
            refine (c_Procs aq add (by omega)).call (As := []) (C.hidL h g) ha fun pa m w k hm hpa C => ⟨_, _, _, rfl, k, facts_nil _ _, ?_⟩
            replace hv := MSrc.mono hv hm
            replace hd := MSrc.mono hd hm
            replace ha := MSrc.mono ha hm
            replace hv1 := MSrc.mono hv1 hm
            replace hpd := MSrc.mono hpd hm
            refine (c_Next { v with q := p1 } hr hn pd drop (by omega) pa add (by omega)).call (As := []) C ⟨hv1, hpd, hpa⟩ fun p2 m w k hm hx C => ?_
            rw [hX] at hx ⊢
            refine ⟨_, _, _, _, _, _, rfl, k, ?_⟩
            replace hv1 := MSrc.mono hv1 hm
            intro w L h g
            refine (C.hidL h g).gives (c_num X.e) fun w k C => ⟨_, rfl, k, ?_⟩
            by_cases hX0 : X.e = 0
            rotate_left
            · rw [if_pos (by simp [hX0])]
              exact Ctr.ret (m' := m) () (by rw [hXe hX0]; rfl) trivial C
            rw [if_neg (by simp [hX0])]
            obtain ⟨hXn, hXm, hXo, hXw⟩ := hXk hX0
            refine ⟨fun b i w' L' => ∃ (j : Nat) (m' : Mem), i = j ∧ j ≤ v.ms.length ∧ b = (cntM (v.ms.take j) X.ms : Int) ∧ cntM (v.ms.take j) X.ms ≤ j ∧ m.le m' ∧ Ctx F m0 w0 w' L' m' [], fun _ i _ => ((v.ms.length : Int) - i).toNat, ⟨0, m, rfl, by omega, rfl, Nat.le_refl _, Mem.le_refl _, C⟩, ?_⟩
            rintro b i w L _ ⟨j, m', rfl, hj, rfl, hle, hm', D⟩
            by_cases hjl : j < v.ms.length
            rotate_left
            · rw [if_neg (by simpa using hjl)]
              have hj2 : j = v.ms.length := by omega
              subst hj2
              rw [List.take_length] at hle ⊢
              have hmj : (cntM v.ms X.ms : Int) ≥ ((v.ms.length / 2 + 1 : Nat) : Int) := hXm
              rw [if_pos (by rw [w_i64 (by omega) (by omega)]; simp; omega)]
              refine (c_vRight ⟨X.g, X.n, p2, X.ms⟩ (fun p hp => hXo p hp)).call (As := []) D (MSrc.mono hx hm') fun _ m w k hm _ C => ⟨_, rfl, k, ?_⟩
              have hok2 : Vw.ok ⟨X.g, X.n, p2, X.ms⟩ = true := hXw p2
              rw [hok2]
              refine Ctr.ret (m' := m) () ?_ trivial C
              rw [show X.n = IntKind.wrap .u32 (v.n + 1) from by rw [hXn.1, w_u32 (by omega) (by omega)]]
              simp
            rw [if_pos (by simpa using hjl)]
            obtain ⟨a, ha1, hc⟩ := (MSrc.mono hv1 hm').elem pr_len hjl
            have ha1 : p1.1 = some a := ha1
            have hc : MCells m' (a.add (j * 2)) v.ms[j].row := hc
            refine ⟨_, D.memFact hc (facts_nil _ _), by omega, by simpa using hjl, ?_⟩
            rw [ha1, onSome_some, Int.toNat_natCast]
            refine ⟨_, _, List.mem_singleton.2 rfl, fun w L h g => ?_⟩
            have e1 : IntKind.wrap .i64 ((j : Int) + 1) = ((j + 1 : Nat) : Int) := by rw [w_i64 (by omega) (by omega)]; omega
            have hst : cntM (v.ms.take (j + 1)) X.ms = cntM (v.ms.take j) X.ms + if v.ms[j] ∈ X.ms then 1 else 0 := by
              rw [List.take_succ_eq_append_getElem hjl, cntM, List.countP_append]; simp [cntM, List.countP_cons]
            refine (c_Rank ⟨X.g, X.n, p2, X.ms⟩ v.ms[j] hxl).call (As := []) (D.hidL h g) (MSrc.mono hx hm') fun r m2 w k hm2 hr2 C => ⟨_, rfl, k, C.memFact (MCells.mono hc hm2) (facts_nil _ _), ?_⟩
            by_cases hin : v.ms[j] ∈ X.ms
            · have : ¬ r < 0 := fun h => hr2.1 h hin
              rw [if_pos (by simp; omega), e1]
              rw [if_pos hin] at hst
              exact ⟨rfl, rfl, rfl, ⟨j + 1, m2, rfl, hjl, by rw [w_i64 (by omega) (by omega), hst]; omega, by omega, hm'.le_trans hm2, C⟩, Nat.le_of_eq (by show ((v.ms.length : Int) - ((j + 1 : Nat) : Int)).toNat + 1 = ((v.ms.length : Int) - (j : Int)).toNat; omega)⟩
            · have := hr2.2 hin
              rw [if_neg (by simp; omega), e1]
              rw [if_neg hin] at hst
              exact ⟨rfl, rfl, rfl, ⟨j + 1, m2, rfl, hjl, by rw [hst]; rfl, by omega, hm'.le_trans hm2, C⟩, Nat.le_of_eq (by show ((v.ms.length : Int) - ((j + 1 : Nat) : Int)).toNat + 1 = ((v.ms.length : Int) - (j : Int)).toNat; omega)⟩
        · intro w L h g
          refine (c_Procs dq drop (by omega)).call (As := []) (C.hidL h g) hd fun pd m w k hm hpd C => ⟨_, _, _, rfl, k, facts_nil _ _, ?_⟩
          replace hv := MSrc.mono hv hm
          replace hd := MSrc.mono hd hm
          replace ha := MSrc.mono ha hm
          replace hv1 := MSrc.mono hv1 hm
          refine (c_Procs aq add (by omega)).call (As := []) C ha fun pa m w k hm hpa C => ⟨_, _, _, rfl, k, facts_nil _ _, ?_⟩
          replace hv := MSrc.mono hv hm
          replace hd := MSrc.mono hd hm
          replace ha := MSrc.mono ha hm
          replace hv1 := MSrc.mono hv1 hm
          replace hpd := MSrc.mono hpd hm
          refine (c_Next { v with q := p1 } hr hn pd drop (by omega) pa add (by omega)).call (As := []) C ⟨hv1, hpd, hpa⟩ fun p2 m w k hm hx C => ?_
          rw [hX] at hx ⊢
          refine ⟨_, _, _, _, _, _, rfl, k, ?_⟩
          replace hv1 := MSrc.mono hv1 hm
          intro w L h g
          refine (C.hidL h g).gives (c_num X.e) fun w k C => ⟨_, rfl, k, ?_⟩
          by_cases hX0 : X.e = 0
          rotate_left
          · rw [if_pos (by simp [hX0])]
            exact Ctr.ret (m' := m) () (by rw [hXe hX0]; rfl) trivial C
          rw [if_neg (by simp [hX0])]
          obtain ⟨hXn, hXm, hXo, hXw⟩ := hXk hX0
          refine ⟨fun b i w' L' => ∃ (j : Nat) (m' : Mem), i = j ∧ j ≤ v.ms.length ∧ b = (cntM (v.ms.take j) X.ms : Int) ∧ cntM (v.ms.take j) X.ms ≤ j ∧ m.le m' ∧ Ctx F m0 w0 w' L' m' [], fun _ i _ => ((v.ms.length : Int) - i).toNat, ⟨0, m, rfl, by omega, rfl, Nat.le_refl _, Mem.le_refl _, C⟩, ?_⟩
          rintro b i w L _ ⟨j, m', rfl, hj, rfl, hle, hm', D⟩
          by_cases hjl : j < v.ms.length
          rotate_left
          · rw [if_neg (by simpa using hjl)]
            have hj2 : j = v.ms.length := by omega
            subst hj2
            rw [List.take_length] at hle ⊢
            have hmj : (cntM v.ms X.ms : Int) ≥ ((v.ms.length / 2 + 1 : Nat) : Int) := hXm
            rw [if_pos (by rw [w_i64 (by omega) (by omega)]; simp; omega)]
            refine (c_vRight ⟨X.g, X.n, p2, X.ms⟩ (fun p hp => hXo p hp)).call (As := []) D (MSrc.mono hx hm') fun _ m w k hm _ C => ⟨_, rfl, k, ?_⟩
            have hok2 : Vw.ok ⟨X.g, X.n, p2, X.ms⟩ = true := hXw p2
            rw [hok2]
            refine Ctr.ret (m' := m) () ?_ trivial C
            rw [show X.n = IntKind.wrap .u32 (v.n + 1) from by rw [hXn.1, w_u32 (by omega) (by omega)]]
            simp
          rw [if_pos (by simpa using hjl)]
          obtain ⟨a, ha1, hc⟩ := (MSrc.mono hv1 hm').elem pr_len hjl
          have ha1 : p1.1 = some a := ha1
          have hc : MCells m' (a.add (j * 2)) v.ms[j].row := hc
          refine ⟨_, D.memFact hc (facts_nil _ _), by omega, by simpa using hjl, ?_⟩
          rw [ha1, onSome_some, Int.toNat_natCast]
          refine ⟨_, _, List.mem_singleton.2 rfl, fun w L h g => ?_⟩
          have e1 : IntKind.wrap .i64 ((j : Int) + 1) = ((j + 1 : Nat) : Int) := by rw [w_i64 (by omega) (by omega)]; omega
          have hst : cntM (v.ms.take (j + 1)) X.ms = cntM (v.ms.take j) X.ms + if v.ms[j] ∈ X.ms then 1 else 0 := by
            rw [List.take_succ_eq_append_getElem hjl, cntM, List.countP_append]; simp [cntM, List.countP_cons]
          refine (c_Rank ⟨X.g, X.n, p2, X.ms⟩ v.ms[j] hxl).call (As := []) (D.hidL h g) (MSrc.mono hx hm') fun r m2 w k hm2 hr2 C => ⟨_, rfl, k, C.memFact (MCells.mono hc hm2) (facts_nil _ _), ?_⟩
          by_cases hin : v.ms[j] ∈ X.ms
          · have : ¬ r < 0 := fun h => hr2.1 h hin
            rw [if_pos (by simp; omega), e1]
            rw [if_pos hin] at hst
            exact ⟨rfl, rfl, rfl, ⟨j + 1, m2, rfl, hjl, by rw [w_i64 (by omega) (by omega), hst]; omega, by omega, hm'.le_trans hm2, C⟩, Nat.le_of_eq (by show ((v.ms.length : Int) - ((j + 1 : Nat) : Int)).toNat + 1 = ((v.ms.length : Int) - (j : Int)).toNat; omega)⟩
          · have := hr2.2 hin
            rw [if_neg (by simp; omega), e1]
            rw [if_neg hin] at hst
            exact ⟨rfl, rfl, rfl, ⟨j + 1, m2, rfl, hjl, by rw [hst]; rfl, by omega, hm'.le_trans hm2, C⟩, Nat.le_of_eq (by show ((v.ms.length : Int) - ((j + 1 : Nat) : Int)).toNat + 1 = ((v.ms.length : Int) - (j : Int)).toNat; omega)⟩
    | false =>
      rw [if_neg (by decide)]
      refine ⟨[], facts_nil _ _, ?_, ?_⟩
      · intro w L h g
        refine (c_Procs dq drop (by omega)).call (As := []) (C.hidL h g) hd fun pd m w k hm hpd C => ⟨_, _, _, rfl, k, facts_nil _ _, ?_, ?_⟩
        · skip
          replace hv := MSrc.mono hv hm
          replace hd := MSrc.mono hd hm
          replace ha := MSrc.mono ha hm
          replace hv1 := MSrc.mono hv1 hm
          refine (c_Procs aq add (by omega)).call (As := []) C ha fun pa m w k hm hpa C => ⟨_, _, _, rfl, k, facts_nil _ _, ?_, ?_⟩
          · skip
            replace hv := MSrc.mono hv hm
            replace hd := MSrc.mono hd hm
            replace ha := MSrc.mono ha hm
            replace hv1 := MSrc.mono hv1 hm
            replace hpd := MSrc.mono hpd hm
            refine (c_Next { v with q := p1 } hr hn pd drop (by omega) pa add (by omega)).call (As := []) C ⟨hv1, hpd, hpa⟩ fun p2 m w k hm hx C => ?_
            rw [hX] at hx ⊢
            refine ⟨_, _, _, _, _, _, rfl, k, ?_⟩
            replace hv1 := MSrc.mono hv1 hm
            intro w L h g
            refine (C.hidL h g).gives (c_num X.e) fun w k C => ⟨_, rfl, k, ?_⟩
            by_cases hX0 : X.e = 0
            rotate_left
            · rw [if_pos (by simp [hX0])]
              exact Ctr.ret (m' := m) () (by rw [hXe hX0]; rfl) trivial C
            rw [if_neg (by simp [hX0])]
            obtain ⟨hXn, hXm, hXo, hXw⟩ := hXk hX0
            refine ⟨fun b i w' L' => ∃ (j : Nat) (m' : Mem), i = j ∧ j ≤ v.ms.length ∧ b = (cntM (v.ms.take j) X.ms : Int) ∧ cntM (v.ms.take j) X.ms ≤ j ∧ m.le m' ∧ Ctx F m0 w0 w' L' m' [], fun _ i _ => ((v.ms.length : Int) - i).toNat, ⟨0, m, rfl, by omega, rfl, Nat.le_refl _, Mem.le_refl _, C⟩, ?_⟩
            rintro b i w L _ ⟨j, m', rfl, hj, rfl, hle, hm', D⟩
            by_cases hjl : j < v.ms.length
            rotate_left
            · rw [if_neg (by simpa using hjl)]
              have hj2 : j = v.ms.length := by omega
              subst hj2
              rw [List.take_length] at hle ⊢
              have hmj : (cntM v.ms X.ms : Int) ≥ ((v.ms.length / 2 + 1 : Nat) : Int) := hXm
              rw [if_pos (by rw [w_i64 (by omega) (by omega)]; simp; omega)]
              refine (c_vRight ⟨X.g, X.n, p2, X.ms⟩ (fun p hp => hXo p hp)).call (As := []) D (MSrc.mono hx hm') fun _ m w k hm _ C => ⟨_, rfl, k, ?_⟩
              have hok2 : Vw.ok ⟨X.g, X.n, p2, X.ms⟩ = true := hXw p2
              rw [hok2]
              refine Ctr.ret (m' := m) () ?_ trivial C
              rw [show X.n = IntKind.wrap .u32 (v.n + 1) from by rw [hXn.1, w_u32 (by omega) (by omega)]]
              simp
            rw [if_pos (by simpa using hjl)]
            obtain ⟨a, ha1, hc⟩ := (MSrc.mono hv1 hm').elem pr_len hjl
            have ha1 : p1.1 = some a := ha1
            have hc : MCells m' (a.add (j * 2)) v.ms[j].row := hc
            refine ⟨_, D.memFact hc (facts_nil _ _), by omega, by simpa using hjl, ?_⟩
            rw [ha1, onSome_some, Int.toNat_natCast]
            refine ⟨_, _, List.mem_singleton.2 rfl, fun w L h g => ?_⟩
            have e1 : IntKind.wrap .i64 ((j : Int) + 1) = ((j + 1 : Nat) : Int) := by rw [w_i64 (by omega) (by omega)]; omega
            have hst : cntM (v.ms.take (j + 1)) X.ms = cntM (v.ms.take j) X.ms + if v.ms[j] ∈ X.ms then 1 else 0 := by
              rw [List.take_succ_eq_append_getElem hjl, cntM, List.countP_append]; simp [cntM, List.countP_cons]
            refine (c_Rank ⟨X.g, X.n, p2, X.ms⟩ v.ms[j] hxl).call (As := []) (D.hidL h g) (MSrc.mono hx hm') fun r m2 w k hm2 hr2 C => ⟨_, rfl, k, C.memFact (MCells.mono hc hm2) (facts_nil _ _), ?_⟩
            by_cases hin : v.ms[j] ∈ X.ms
            · have : ¬ r < 0 := fun h => hr2.1 h hin
              rw [if_pos (by simp; omega), e1]
              rw [if_pos hin] at hst
              exact ⟨rfl, rfl, rfl, ⟨j + 1, m2, rfl, hjl, by rw [w_i64 (by omega) (by omega), hst]; omega, by omega, hm'.le_trans hm2, C⟩, Nat.le_of_eq (by show ((v.ms.length : Int) - ((j + 1 : Nat) : Int)).toNat + 1 = ((v.ms.length : Int) - (j : Int)).toNat; omega)⟩
            · have := hr2.2 hin
              rw [if_neg (by simp; omega), e1]
              rw [if_neg hin] at hst
              exact ⟨rfl, rfl, rfl, ⟨j + 1, m2, rfl, hjl, by rw [hst]; rfl, by omega, hm'.le_trans hm2, C⟩, Nat.le_of_eq (by show ((v.ms.length : Int) - ((j + 1 : Nat) : Int)).toNat + 1 = ((v.ms.length : Int) - (j : Int)).toNat; omega)⟩
          · intro w L h g
            replace hv := MSrc.mono hv hm
            replace hd := MSrc.mono hd hm
            replace ha := MSrc.mono ha hm
            replace hv1 := MSrc.mono hv1 hm
            replace hpd := MSrc.mono hpd hm
            refine (c_Next { v with q := p1 } hr hn pd drop (by omega) pa add (by omega)).call (As := []) (C.hidL h g) ⟨hv1, hpd, hpa⟩ fun p2 m w k hm hx C => ?_
            rw [hX] at hx ⊢
            refine ⟨_, _, _, _, _, _, rfl, k, ?_⟩
            replace hv1 := MSrc.mono hv1 hm
            intro w L h g
            refine (C.hidL h g).gives (c_num X.e) fun w k C => ⟨_, rfl, k, ?_⟩
            by_cases hX0 : X.e = 0
            rotate_left
            · rw [if_pos (by simp [hX0])]
              exact Ctr.ret (m' := m) () (by rw [hXe hX0]; rfl) trivial C
            rw [if_neg (by simp [hX0])]
            obtain ⟨hXn, hXm, hXo, hXw⟩ := hXk hX0
            refine ⟨fun b i w' L' => ∃ (j : Nat) (m' : Mem), i = j ∧ j ≤ v.ms.length ∧ b = (cntM (v.ms.take j) X.ms : Int) ∧ cntM (v.ms.take j) X.ms ≤ j ∧ m.le m' ∧ Ctx F m0 w0 w' L' m' [], fun _ i _ => ((v.ms.length : Int) - i).toNat, ⟨0, m, rfl, by omega, rfl, Nat.le_refl _, Mem.le_refl _, C⟩, ?_⟩
            rintro b i w L _ ⟨j, m', rfl, hj, rfl, hle, hm', D⟩
            by_cases hjl : j < v.ms.length
            rotate_left
            · rw [if_neg (by simpa using hjl)]
              have hj2 : j = v.ms.length := by omega
              subst hj2
              rw [List.take_length] at hle ⊢
              have hmj : (cntM v.ms X.ms : Int) ≥ ((v.ms.length / 2 + 1 : Nat) : Int) := hXm
              rw [if_pos (by rw [w_i64 (by omega) (by omega)]; simp; omega)]
              refine (c_vRight ⟨X.g, X.n, p2, X.ms⟩ (fun p hp => hXo p hp)).call (As := []) D (MSrc.mono hx hm') fun _ m w k hm _ C => ⟨_, rfl, k, ?_⟩
              have hok2 : Vw.ok ⟨X.g, X.n, p2, X.ms⟩ = true := hXw p2
              rw [hok2]
              refine Ctr.ret (m' := m) () ?_ trivial C
              rw [show X.n = IntKind.wrap .u32 (v.n + 1) from by rw [hXn.1, w_u32 (by omega) (by omega)]]
              simp
            rw [if_pos (by simpa using hjl)]
            obtain ⟨a, ha1, hc⟩ := (MSrc.mono hv1 hm').elem pr_len hjl
            have ha1 : p1.1 = some a := ha1
            have hc : MCells m' (a.add (j * 2)) v.ms[j].row := hc
            refine ⟨_, D.memFact hc (facts_nil _ _), by omega, by simpa using hjl, ?_⟩
            rw [ha1, onSome_some, Int.toNat_natCast]
            refine ⟨_, _, List.mem_singleton.2 rfl, fun w L h g => ?_⟩
            have e1 : IntKind.wrap .i64 ((j : Int) + 1) = ((j + 1 : Nat) : Int) := by rw [w_i64 (by omega) (by omega)]; omega
            have hst : cntM (v.ms.take (j + 1)) X.ms = cntM (v.ms.take j) X.ms + if v.ms[j] ∈ X.ms then 1 else 0 := by
              rw [List.take_succ_eq_append_getElem hjl, cntM, List.countP_append]; simp [cntM, List.countP_cons]
            refine (c_Rank ⟨X.g, X.n, p2, X.ms⟩ v.ms[j] hxl).call (As := []) (D.hidL h g) (MSrc.mono hx hm') fun r m2 w k hm2 hr2 C => ⟨_, rfl, k, C.memFact (MCells.mono hc hm2) (facts_nil _ _), ?_⟩
            by_cases hin : v.ms[j] ∈ X.ms
            · have : ¬ r < 0 := fun h => hr2.1 h hin
              rw [if_pos (by simp; omega), e1]
              rw [if_pos hin] at hst
              exact ⟨rfl, rfl, rfl, ⟨j + 1, m2, rfl, hjl, by rw [w_i64 (by omega) (by omega), hst]; omega, by omega, hm'.le_trans hm2, C⟩, Nat.le_of_eq (by show ((v.ms.length : Int) - ((j + 1 : Nat) : Int)).toNat + 1 = ((v.ms.length : Int) - (j : Int)).toNat; omega)⟩
            · have := hr2.2 hin
              rw [if_neg (by simp; omega), e1]
              rw [if_neg hin] at hst
              exact ⟨rfl, rfl, rfl, ⟨j + 1, m2, rfl, hjl, by rw [hst]; rfl, by omega, hm'.le_trans hm2, C⟩, Nat.le_of_eq (by show ((v.ms.length : Int) - ((j + 1 : Nat) : Int)).toNat + 1 = ((v.ms.length : Int) - (j : Int)).toNat; omega)⟩
        · intro w L h g
          replace hv := MSrc.mono hv hm
          replace hd := MSrc.mono hd hm
          replace ha := MSrc.mono ha hm
          replace hv1 := MSrc.mono hv1 hm
          refine (c_Procs aq add (by omega)).call (As := []) (C.hidL h g) ha fun pa m w k hm hpa C => ⟨_, _, _, rfl, k, facts_nil _ _, ?_⟩
          replace hv := MSrc.mono hv hm
          replace hd := MSrc.mono hd hm
          replace ha := MSrc.mono ha hm
          replace hv1 := MSrc.mono hv1 hm
          replace hpd := MSrc.mono hpd hm
          refine (c_Next { v with q := p1 } hr hn pd drop (by omega) pa add (by omega)).call (As := []) C ⟨hv1, hpd, hpa⟩ fun p2 m w k hm hx C => ?_
          rw [hX] at hx ⊢
          refine ⟨_, _, _, _, _, _, rfl, k, ?_⟩
          replace hv1 := MSrc.mono hv1 hm
          intro w L h g
          refine (C.hidL h g).gives (c_num X.e) fun w k C => ⟨_, rfl, k, ?_⟩
          by_cases hX0 : X.e = 0
          rotate_left
          · rw [if_pos (by simp [hX0])]
            exact Ctr.ret (m' := m) () (by rw [hXe hX0]; rfl) trivial C
          rw [if_neg (by simp [hX0])]
          obtain ⟨hXn, hXm, hXo, hXw⟩ := hXk hX0
          refine ⟨fun b i w' L' => ∃ (j : Nat) (m' : Mem), i = j ∧ j ≤ v.ms.length ∧ b = (cntM (v.ms.take j) X.ms : Int) ∧ cntM (v.ms.take j) X.ms ≤ j ∧ m.le m' ∧ Ctx F m0 w0 w' L' m' [], fun _ i _ => ((v.ms.length : Int) - i).toNat, ⟨0, m, rfl, by omega, rfl, Nat.le_refl _, Mem.le_refl _, C⟩, ?_⟩
          rintro b i w L _ ⟨j, m', rfl, hj, rfl, hle, hm', D⟩
          by_cases hjl : j < v.ms.length
          rotate_left
          · rw [if_neg (by simpa using hjl)]
            have hj2 : j = v.ms.length := by omega
            subst hj2
            rw [List.take_length] at hle ⊢
            have hmj : (cntM v.ms X.ms : Int) ≥ ((v.ms.length / 2 + 1 : Nat) : Int) := hXm
            rw [if_pos (by rw [w_i64 (by omega) (by omega)]; simp; omega)]
            refine (c_vRight ⟨X.g, X.n, p2, X.ms⟩ (fun p hp => hXo p hp)).call (As := []) D (MSrc.mono hx hm') fun _ m w k hm _ C => ⟨_, rfl, k, ?_⟩
            have hok2 : Vw.ok ⟨X.g, X.n, p2, X.ms⟩ = true := hXw p2
            rw [hok2]
            refine Ctr.ret (m' := m) () ?_ trivial C
            rw [show X.n = IntKind.wrap .u32 (v.n + 1) from by rw [hXn.1, w_u32 (by omega) (by omega)]]
            simp
          rw [if_pos (by simpa using hjl)]
          obtain ⟨a, ha1, hc⟩ := (MSrc.mono hv1 hm').elem pr_len hjl
          have ha1 : p1.1 = some a := ha1
          have hc : MCells m' (a.add (j * 2)) v.ms[j].row := hc
          refine ⟨_, D.memFact hc (facts_nil _ _), by omega, by simpa using hjl, ?_⟩
          rw [ha1, onSome_some, Int.toNat_natCast]
          refine ⟨_, _, List.mem_singleton.2 rfl, fun w L h g => ?_⟩
          have e1 : IntKind.wrap .i64 ((j : Int) + 1) = ((j + 1 : Nat) : Int) := by rw [w_i64 (by omega) (by omega)]; omega
          have hst : cntM (v.ms.take (j + 1)) X.ms = cntM (v.ms.take j) X.ms + if v.ms[j] ∈ X.ms then 1 else 0 := by
            rw [List.take_succ_eq_append_getElem hjl, cntM, List.countP_append]; simp [cntM, List.countP_cons]
          refine (c_Rank ⟨X.g, X.n, p2, X.ms⟩ v.ms[j] hxl).call (As := []) (D.hidL h g) (MSrc.mono hx hm') fun r m2 w k hm2 hr2 C => ⟨_, rfl, k, C.memFact (MCells.mono hc hm2) (facts_nil _ _), ?_⟩
          by_cases hin : v.ms[j] ∈ X.ms
          · have : ¬ r < 0 := fun h => hr2.1 h hin
            rw [if_pos (by simp; omega), e1]
            rw [if_pos hin] at hst
            exact ⟨rfl, rfl, rfl, ⟨j + 1, m2, rfl, hjl, by rw [w_i64 (by omega) (by omega), hst]; omega, by omega, hm'.le_trans hm2, C⟩, Nat.le_of_eq (by show ((v.ms.length : Int) - ((j + 1 : Nat) : Int)).toNat + 1 = ((v.ms.length : Int) - (j : Int)).toNat; omega)⟩
          · have := hr2.2 hin
            rw [if_neg (by simp; omega), e1]
            rw [if_neg hin] at hst
            exact ⟨rfl, rfl, rfl, ⟨j + 1, m2, rfl, hjl, by rw [hst]; rfl, by omega, hm'.le_trans hm2, C⟩, Nat.le_of_eq (by show ((v.ms.length : Int) - ((j + 1 : Nat) : Int)).toNat + 1 = ((v.ms.length : Int) - (j : Int)).toNat; omega)⟩
      · intro w L h g
        refine (c_Procs dq drop (by omega)).call (As := []) (C.hidL h g) hd fun pd m w k hm hpd C => ⟨_, _, _, rfl, k, facts_nil _ _, ?_⟩
        replace hv := MSrc.mono hv hm
        replace hd := MSrc.mono hd hm
        replace ha := MSrc.mono ha hm
        replace hv1 := MSrc.mono hv1 hm
        refine (c_Procs aq add (by omega)).call (As := []) C ha fun pa m w k hm hpa C => ⟨_, _, _, rfl, k, facts_nil _ _, ?_⟩
        replace hv := MSrc.mono hv hm
        replace hd := MSrc.mono hd hm
        replace ha := MSrc.mono ha hm
        replace hv1 := MSrc.mono hv1 hm
        replace hpd := MSrc.mono hpd hm
        refine (c_Next { v with q := p1 } hr hn pd drop (by omega) pa add (by omega)).call (As := []) C ⟨hv1, hpd, hpa⟩ fun p2 m w k hm hx C => ?_
        rw [hX] at hx ⊢
        refine ⟨_, _, _, _, _, _, rfl, k, ?_⟩
        replace hv1 := MSrc.mono hv1 hm
        intro w L h g
        refine (C.hidL h g).gives (c_num X.e) fun w k C => ⟨_, rfl, k, ?_⟩
        by_cases hX0 : X.e = 0
        rotate_left
        · rw [if_pos (by simp [hX0])]
          exact Ctr.ret (m' := m) () (by rw [hXe hX0]; rfl) trivial C
        rw [if_neg (by simp [hX0])]
        obtain ⟨hXn, hXm, hXo, hXw⟩ := hXk hX0
        refine ⟨fun b i w' L' => ∃ (j : Nat) (m' : Mem), i = j ∧ j ≤ v.ms.length ∧ b = (cntM (v.ms.take j) X.ms : Int) ∧ cntM (v.ms.take j) X.ms ≤ j ∧ m.le m' ∧ Ctx F m0 w0 w' L' m' [], fun _ i _ => ((v.ms.length : Int) - i).toNat, ⟨0, m, rfl, by omega, rfl, Nat.le_refl _, Mem.le_refl _, C⟩, ?_⟩
        rintro b i w L _ ⟨j, m', rfl, hj, rfl, hle, hm', D⟩
        by_cases hjl : j < v.ms.length
        rotate_left
        · rw [if_neg (by simpa using hjl)]
          have hj2 : j = v.ms.length := by omega
          subst hj2
          rw [List.take_length] at hle ⊢
          have hmj : (cntM v.ms X.ms : Int) ≥ ((v.ms.length / 2 + 1 : Nat) : Int) := hXm
          rw [if_pos (by rw [w_i64 (by omega) (by omega)]; simp; omega)]
          refine (c_vRight ⟨X.g, X.n, p2, X.ms⟩ (fun p hp => hXo p hp)).call (As := []) D (MSrc.mono hx hm') fun _ m w k hm _ C => ⟨_, rfl, k, ?_⟩
          have hok2 : Vw.ok ⟨X.g, X.n, p2, X.ms⟩ = true := hXw p2
          rw [hok2]
          refine Ctr.ret (m' := m) () ?_ trivial C
          rw [show X.n = IntKind.wrap .u32 (v.n + 1) from by rw [hXn.1, w_u32 (by omega) (by omega)]]
          simp
        rw [if_pos (by simpa using hjl)]
        obtain ⟨a, ha1, hc⟩ := (MSrc.mono hv1 hm').elem pr_len hjl
        have ha1 : p1.1 = some a := ha1
        have hc : MCells m' (a.add (j * 2)) v.ms[j].row := hc
        refine ⟨_, D.memFact hc (facts_nil _ _), by omega, by simpa using hjl, ?_⟩
        rw [ha1, onSome_some, Int.toNat_natCast]
        refine ⟨_, _, List.mem_singleton.2 rfl, fun w L h g => ?_⟩
        have e1 : IntKind.wrap .i64 ((j : Int) + 1) = ((j + 1 : Nat) : Int) := by rw [w_i64 (by omega) (by omega)]; omega
        have hst : cntM (v.ms.take (j + 1)) X.ms = cntM (v.ms.take j) X.ms + if v.ms[j] ∈ X.ms then 1 else 0 := by
          rw [List.take_succ_eq_append_getElem hjl, cntM, List.countP_append]; simp [cntM, List.countP_cons]
        refine (c_Rank ⟨X.g, X.n, p2, X.ms⟩ v.ms[j] hxl).call (As := []) (D.hidL h g) (MSrc.mono hx hm') fun r m2 w k hm2 hr2 C => ⟨_, rfl, k, C.memFact (MCells.mono hc hm2) (facts_nil _ _), ?_⟩
        by_cases hin : v.ms[j] ∈ X.ms
        · have : ¬ r < 0 := fun h => hr2.1 h hin
          rw [if_pos (by simp; omega), e1]
          rw [if_pos hin] at hst
          exact ⟨rfl, rfl, rfl, ⟨j + 1, m2, rfl, hjl, by rw [w_i64 (by omega) (by omega), hst]; omega, by omega, hm'.le_trans hm2, C⟩, Nat.le_of_eq (by show ((v.ms.length : Int) - ((j + 1 : Nat) : Int)).toNat + 1 = ((v.ms.length : Int) - (j : Int)).toNat; omega)⟩
        · have := hr2.2 hin
          rw [if_neg (by simp; omega), e1]
          rw [if_neg hin] at hst
          exact ⟨rfl, rfl, rfl, ⟨j + 1, m2, rfl, hjl, by rw [hst]; rfl, by omega, hm'.le_trans hm2, C⟩, Nat.le_of_eq (by show ((v.ms.length : Int) - ((j + 1 : Nat) : Int)).toNat + 1 = ((v.ms.length : Int) - (j : Int)).toNat; omega)⟩
  | false =>
    rw [if_neg (by decide)]
    refine ⟨[], facts_nil _ _, ?_, ?_⟩
    · intro w L h g
      refine (c_Procs dq drop (by omega)).call (As := []) (C.hidL h g) hd fun pd m w k hm hpd C => ⟨_, _, _, rfl, k, facts_nil _ _, ?_, ?_⟩
      · skip
        replace hv := MSrc.mono hv hm
        replace hd := MSrc.mono hd hm
        replace ha := MSrc.mono ha hm
        replace hv1 := MSrc.mono hv1 hm
        refine (c_Procs aq add (by omega)).call (As := []) C ha fun pa m w k hm hpa C => ⟨_, _, _, rfl, k, facts_nil _ _, ?_, ?_⟩
        · skip
          replace hv := MSrc.mono hv hm
          replace hd := MSrc.mono hd hm
          replace ha := MSrc.mono ha hm
          replace hv1 := MSrc.mono hv1 hm
          replace hpd := MSrc.mono hpd hm
          refine (c_Next { v with q := p1 } hr hn pd drop (by omega) pa add (by omega)).call (As := []) C ⟨hv1, hpd, hpa⟩ fun p2 m w k hm hx C => ?_
          rw [hX] at hx ⊢
          refine ⟨_, _, _, _, _, _, rfl, k, ?_⟩
          replace hv1 := MSrc.mono hv1 hm
          intro w L h g
          refine (C.hidL h g).gives (c_num X.e) fun w k C => ⟨_, rfl, k, ?_⟩
          by_cases hX0 : X.e = 0
          rotate_left
          · rw [if_pos (by simp [hX0])]
            exact Ctr.ret (m' := m) () (by rw [hXe hX0]; rfl) trivial C
          rw [if_neg (by simp [hX0])]
          obtain ⟨hXn, hXm, hXo, hXw⟩ := hXk hX0
          refine ⟨fun b i w' L' => ∃ (j : Nat) (m' : Mem), i = j ∧ j ≤ v.ms.length ∧ b = (cntM (v.ms.take j) X.ms : Int) ∧ cntM (v.ms.take j) X.ms ≤ j ∧ m.le m' ∧ Ctx F m0 w0 w' L' m' [], fun _ i _ => ((v.ms.length : Int) - i).toNat, ⟨0, m, rfl, by omega, rfl, Nat.le_refl _, Mem.le_refl _, C⟩, ?_⟩
          rintro b i w L _ ⟨j, m', rfl, hj, rfl, hle, hm', D⟩
          by_cases hjl : j < v.ms.length
          rotate_left
          · rw [if_neg (by simpa using hjl)]
            have hj2 : j = v.ms.length := by omega
            subst hj2
            rw [List.take_length] at hle ⊢
            have hmj : (cntM v.ms X.ms : Int) ≥ ((v.ms.length / 2 + 1 : Nat) : Int) := hXm
            rw [if_pos (by rw [w_i64 (by omega) (by omega)]; simp; omega)]
            refine (c_vRight ⟨X.g, X.n, p2, X.ms⟩ (fun p hp => hXo p hp)).call (As := []) D (MSrc.mono hx hm') fun _ m w k hm _ C => ⟨_, rfl, k, ?_⟩
            have hok2 : Vw.ok ⟨X.g, X.n, p2, X.ms⟩ = true := hXw p2
            rw [hok2]
            refine Ctr.ret (m' := m) () ?_ trivial C
            rw [show X.n = IntKind.wrap .u32 (v.n + 1) from by rw [hXn.1, w_u32 (by omega) (by omega)]]
            simp
          rw [if_pos (by simpa using hjl)]
          obtain ⟨a, ha1, hc⟩ := (MSrc.mono hv1 hm').elem pr_len hjl
          have ha1 : p1.1 = some a := ha1
          have hc : MCells m' (a.add (j * 2)) v.ms[j].row := hc
          refine ⟨_, D.memFact hc (facts_nil _ _), by omega, by simpa using hjl, ?_⟩
          rw [ha1, onSome_some, Int.toNat_natCast]
          refine ⟨_, _, List.mem_singleton.2 rfl, fun w L h g => ?_⟩
          have e1 : IntKind.wrap .i64 ((j : Int) + 1) = ((j + 1 : Nat) : Int) := by rw [w_i64 (by omega) (by omega)]; omega
          have hst : cntM (v.ms.take (j + 1)) X.ms = cntM (v.ms.take j) X.ms + if v.ms[j] ∈ X.ms then 1 else 0 := by
            rw [List.take_succ_eq_append_getElem hjl, cntM, List.countP_append]; simp [cntM, List.countP_cons]
          refine (c_Rank ⟨X.g, X.n, p2, X.ms⟩ v.ms[j] hxl).call (As := []) (D.hidL h g) (MSrc.mono hx hm') fun r m2 w k hm2 hr2 C => ⟨_, rfl, k, C.memFact (MCells.mono hc hm2) (facts_nil _ _), ?_⟩
          by_cases hin : v.ms[j] ∈ X.ms
          · have : ¬ r < 0 := fun h => hr2.1 h hin
            rw [if_pos (by simp; omega), e1]
            rw [if_pos hin] at hst
            exact ⟨rfl, rfl, rfl, ⟨j + 1, m2, rfl, hjl, by rw [w_i64 (by omega) (by omega), hst]; omega, by omega, hm'.le_trans hm2, C⟩, Nat.le_of_eq (by show ((v.ms.length : Int) - ((j + 1 : Nat) : Int)).toNat + 1 = ((v.ms.length : Int) - (j : Int)).toNat; omega)⟩
          · have := hr2.2 hin
            rw [if_neg (by simp; omega), e1]
            rw [if_neg hin] at hst
            exact ⟨rfl, rfl, rfl, ⟨j + 1, m2, rfl, hjl, by rw [hst]; rfl, by omega, hm'.le_trans hm2, C⟩, Nat.le_of_eq (by show ((v.ms.length : Int) - ((j + 1 : Nat) : Int)).toNat + 1 = ((v.ms.length : Int) - (j : Int)).toNat; omega)⟩
        · intro w L h g
          replace hv := MSrc.mono hv hm
          replace hd := MSrc.mono hd hm
          replace ha := MSrc.mono ha hm
          replace hv1 := MSrc.mono hv1 hm
          replace hpd := MSrc.mono hpd hm
          refine (c_Next { v with q := p1 } hr hn pd drop (by omega) pa add (by omega)).call (As := []) (C.hidL h g) ⟨hv1, hpd, hpa⟩ fun p2 m w k hm hx C => ?_
          rw [hX] at hx ⊢
          refine ⟨_, _, _, _, _, _, rfl, k, ?_⟩
          replace hv1 := MSrc.mono hv1 hm
          intro w L h g
          refine (C.hidL h g).gives (c_num X.e) fun w k C => ⟨_, rfl, k, ?_⟩
          by_cases hX0 : X.e = 0
          rotate_left
          · rw [if_pos (by simp [hX0])]
            exact Ctr.ret (m' := m) () (by rw [hXe hX0]; rfl) trivial C
          rw [if_neg (by simp [hX0])]
          obtain ⟨hXn, hXm, hXo, hXw⟩ := hXk hX0
          refine ⟨fun b i w' L' => ∃ (j : Nat) (m' : Mem), i = j ∧ j ≤ v.ms.length ∧ b = (cntM (v.ms.take j) X.ms : Int) ∧ cntM (v.ms.take j) X.ms ≤ j ∧ m.le m' ∧ Ctx F m0 w0 w' L' m' [], fun _ i _ => ((v.ms.length : Int) - i).toNat, ⟨0, m, rfl, by omega, rfl, Nat.le_refl _, Mem.le_refl _, C⟩, ?_⟩
          rintro b i w L _ ⟨j, m', rfl, hj, rfl, hle, hm', D⟩
          by_cases hjl : j < v.ms.length
          rotate_left
          · rw [if_neg (by simpa using hjl)]
            have hj2 : j = v.ms.length := by omega
            subst hj2
            rw [List.take_length] at hle ⊢
            have hmj : (cntM v.ms X.ms : Int) ≥ ((v.ms.length / 2 + 1 : Nat) : Int) := hXm
            rw [if_pos (by rw [w_i64 (by omega) (by omega)]; simp; omega)]
            refine (c_vRight ⟨X.g, X.n, p2, X.ms⟩ (fun p hp => hXo p hp)).call (As := []) D (MSrc.mono hx hm') fun _ m w k hm _ C => ⟨_, rfl, k, ?_⟩
            have hok2 : Vw.ok ⟨X.g, X.n, p2, X.ms⟩ = true := hXw p2
            rw [hok2]
            refine Ctr.ret (m' := m) () ?_ trivial C
            rw [show X.n = IntKind.wrap .u32 (v.n + 1) from by rw [hXn.1, w_u32 (by omega) (by omega)]]
            simp
          rw [if_pos (by simpa using hjl)]
          obtain ⟨a, ha1, hc⟩ := (MSrc.mono hv1 hm').elem pr_len hjl
          have ha1 : p1.1 = some a := ha1
          have hc : MCells m' (a.add (j * 2)) v.ms[j].row := hc
          refine ⟨_, D.memFact hc (facts_nil _ _), by omega, by simpa using hjl, ?_⟩
          rw [ha1, onSome_some, Int.toNat_natCast]
          refine ⟨_, _, List.mem_singleton.2 rfl, fun w L h g => ?_⟩
          have e1 : IntKind.wrap .i64 ((j : Int) + 1) = ((j + 1 : Nat) : Int) := by rw [w_i64 (by omega) (by omega)]; omega
          have hst : cntM (v.ms.take (j + 1)) X.ms = cntM (v.ms.take j) X.ms + if v.ms[j] ∈ X.ms then 1 else 0 := by
            rw [List.take_succ_eq_append_getElem hjl, cntM, List.countP_append]; simp [cntM, List.countP_cons]
          refine (c_Rank ⟨X.g, X.n, p2, X.ms⟩ v.ms[j] hxl).call (As := []) (D.hidL h g) (MSrc.mono hx hm') fun r m2 w k hm2 hr2 C => ⟨_, rfl, k, C.memFact (MCells.mono hc hm2) (facts_nil _ _), ?_⟩
          by_cases hin : v.ms[j] ∈ X.ms
          · have : ¬ r < 0 := fun h => hr2.1 h hin
            rw [if_pos (by simp; omega), e1]
            rw [if_pos hin] at hst
            exact ⟨rfl, rfl, rfl, ⟨j + 1, m2, rfl, hjl, by rw [w_i64 (by omega) (by omega), hst]; omega, by omega, hm'.le_trans hm2, C⟩, Nat.le_of_eq (by show ((v.ms.length : Int) - ((j + 1 : Nat) : Int)).toNat + 1 = ((v.ms.length : Int) - (j : Int)).toNat; omega)⟩
          · have := hr2.2 hin
            rw [if_neg (by simp; omega), e1]
            rw [if_neg hin] at hst
            exact ⟨rfl, rfl, rfl, ⟨j + 1, m2, rfl, hjl, by rw [hst]; rfl, by omega, hm'.le_trans hm2, C⟩, Nat.le_of_eq (by show ((v.ms.length : Int) - ((j + 1 : Nat) : Int)).toNat + 1 = ((v.ms.length : Int) - (j : Int)).toNat; omega)⟩
      · intro w L h g
        replace hv := MSrc.mono hv hm
        replace hd := MSrc.mono hd hm
        replace ha := MSrc.mono ha hm
        replace hv1 := MSrc.mono hv1 hm
        refine (c_Procs aq add (by omega)).call (As := []) (C.hidL h g) ha fun pa m w k hm hpa C => ⟨_, _, _, rfl, k, facts_nil _ _, ?_⟩
        replace hv := MSrc.mono hv hm
        replace hd := MSrc.mono hd hm
        replace ha := MSrc.mono ha hm
        replace hv1 := MSrc.mono hv1 hm
        replace hpd := MSrc.mono hpd hm
        refine (c_Next { v with q := p1 } hr hn pd drop (by omega) pa add (by omega)).call (As := []) C ⟨hv1, hpd, hpa⟩ fun p2 m w k hm hx C => ?_
        rw [hX] at hx ⊢
        refine ⟨_, _, _, _, _, _, rfl, k, ?_⟩
        replace hv1 := MSrc.mono hv1 hm
        intro w L h g
        refine (C.hidL h g).gives (c_num X.e) fun w k C => ⟨_, rfl, k, ?_⟩
        by_cases hX0 : X.e = 0
        rotate_left
        · rw [if_pos (by simp [hX0])]
          exact Ctr.ret (m' := m) () (by rw [hXe hX0]; rfl) trivial C
        rw [if_neg (by simp [hX0])]
        obtain ⟨hXn, hXm, hXo, hXw⟩ := hXk hX0
        refine ⟨fun b i w' L' => ∃ (j : Nat) (m' : Mem), i = j ∧ j ≤ v.ms.length ∧ b = (cntM (v.ms.take j) X.ms : Int) ∧ cntM (v.ms.take j) X.ms ≤ j ∧ m.le m' ∧ Ctx F m0 w0 w' L' m' [], fun _ i _ => ((v.ms.length : Int) - i).toNat, ⟨0, m, rfl, by omega, rfl, Nat.le_refl _, Mem.le_refl _, C⟩, ?_⟩
        rintro b i w L _ ⟨j, m', rfl, hj, rfl, hle, hm', D⟩
        by_cases hjl : j < v.ms.length
        rotate_left
        · rw [if_neg (by simpa using hjl)]
          have hj2 : j = v.ms.length := by omega
          subst hj2
          rw [List.take_length] at hle ⊢
          have hmj : (cntM v.ms X.ms : Int) ≥ ((v.ms.length / 2 + 1 : Nat) : Int) := hXm
          rw [if_pos (by rw [w_i64 (by omega) (by omega)]; simp; omega)]
          refine (c_vRight ⟨X.g, X.n, p2, X.ms⟩ (fun p hp => hXo p hp)).call (As := []) D (MSrc.mono hx hm') fun _ m w k hm _ C => ⟨_, rfl, k, ?_⟩
          have hok2 : Vw.ok ⟨X.g, X.n, p2, X.ms⟩ = true := hXw p2
          rw [hok2]
          refine Ctr.ret (m' := m) () ?_ trivial C
          rw [show X.n = IntKind.wrap .u32 (v.n + 1) from by rw [hXn.1, w_u32 (by omega) (by omega)]]
          simp
        rw [if_pos (by simpa using hjl)]
        obtain ⟨a, ha1, hc⟩ := (MSrc.mono hv1 hm').elem pr_len hjl
        have ha1 : p1.1 = some a := ha1
        have hc : MCells m' (a.add (j * 2)) v.ms[j].row := hc
        refine ⟨_, D.memFact hc (facts_nil _ _), by omega, by simpa using hjl, ?_⟩
        rw [ha1, onSome_some, Int.toNat_natCast]
        refine ⟨_, _, List.mem_singleton.2 rfl, fun w L h g => ?_⟩
        have e1 : IntKind.wrap .i64 ((j : Int) + 1) = ((j + 1 : Nat) : Int) := by rw [w_i64 (by omega) (by omega)]; omega
        have hst : cntM (v.ms.take (j + 1)) X.ms = cntM (v.ms.take j) X.ms + if v.ms[j] ∈ X.ms then 1 else 0 := by
          rw [List.take_succ_eq_append_getElem hjl, cntM, List.countP_append]; simp [cntM, List.countP_cons]
        refine (c_Rank ⟨X.g, X.n, p2, X.ms⟩ v.ms[j] hxl).call (As := []) (D.hidL h g) (MSrc.mono hx hm') fun r m2 w k hm2 hr2 C => ⟨_, rfl, k, C.memFact (MCells.mono hc hm2) (facts_nil _ _), ?_⟩
        by_cases hin : v.ms[j] ∈ X.ms
        · have : ¬ r < 0 := fun h => hr2.1 h hin
          rw [if_pos (by simp; omega), e1]
          rw [if_pos hin] at hst
          exact ⟨rfl, rfl, rfl, ⟨j + 1, m2, rfl, hjl, by rw [w_i64 (by omega) (by omega), hst]; omega, by omega, hm'.le_trans hm2, C⟩, Nat.le_of_eq (by show ((v.ms.length : Int) - ((j + 1 : Nat) : Int)).toNat + 1 = ((v.ms.length : Int) - (j : Int)).toNat; omega)⟩
        · have := hr2.2 hin
          rw [if_neg (by simp; omega), e1]
          rw [if_neg hin] at hst
          exact ⟨rfl, rfl, rfl, ⟨j + 1, m2, rfl, hjl, by rw [hst]; rfl, by omega, hm'.le_trans hm2, C⟩, Nat.le_of_eq (by show ((v.ms.length : Int) - ((j + 1 : Nat) : Int)).toNat + 1 = ((v.ms.length : Int) - (j : Int)).toNat; omega)⟩
    · intro w L h g
      refine (c_Procs dq drop (by omega)).call (As := []) (C.hidL h g) hd fun pd m w k hm hpd C => ⟨_, _, _, rfl, k, facts_nil _ _, ?_⟩
      replace hv := MSrc.mono hv hm
      replace hd := MSrc.mono hd hm
      replace ha := MSrc.mono ha hm
      replace hv1 := MSrc.mono hv1 hm
      refine (c_Procs aq add (by omega)).call (As := []) C ha fun pa m w k hm hpa C => ⟨_, _, _, rfl, k, facts_nil _ _, ?_⟩
      replace hv := MSrc.mono hv hm
      replace hd := MSrc.mono hd hm
      replace ha := MSrc.mono ha hm
      replace hv1 := MSrc.mono hv1 hm
      replace hpd := MSrc.mono hpd hm
      refine (c_Next { v with q := p1 } hr hn pd drop (by omega) pa add (by omega)).call (As := []) C ⟨hv1, hpd, hpa⟩ fun p2 m w k hm hx C => ?_
      rw [hX] at hx ⊢
      refine ⟨_, _, _, _, _, _, rfl, k, ?_⟩
      replace hv1 := MSrc.mono hv1 hm
      intro w L h g
      refine (C.hidL h g).gives (c_num X.e) fun w k C => ⟨_, rfl, k, ?_⟩
      by_cases hX0 : X.e = 0
      rotate_left
      · rw [if_pos (by simp [hX0])]
        exact Ctr.ret (m' := m) () (by rw [hXe hX0]; rfl) trivial C
      rw [if_neg (by simp [hX0])]
      obtain ⟨hXn, hXm, hXo, hXw⟩ := hXk hX0
      refine ⟨fun b i w' L' => ∃ (j : Nat) (m' : Mem), i = j ∧ j ≤ v.ms.length ∧ b = (cntM (v.ms.take j) X.ms : Int) ∧ cntM (v.ms.take j) X.ms ≤ j ∧ m.le m' ∧ Ctx F m0 w0 w' L' m' [], fun _ i _ => ((v.ms.length : Int) - i).toNat, ⟨0, m, rfl, by omega, rfl, Nat.le_refl _, Mem.le_refl _, C⟩, ?_⟩
      rintro b i w L _ ⟨j, m', rfl, hj, rfl, hle, hm', D⟩
      by_cases hjl : j < v.ms.length
      rotate_left
      · rw [if_neg (by simpa using hjl)]
        have hj2 : j = v.ms.length := by omega
        subst hj2
        rw [List.take_length] at hle ⊢
        have hmj : (cntM v.ms X.ms : Int) ≥ ((v.ms.length / 2 + 1 : Nat) : Int) := hXm
        rw [if_pos (by rw [w_i64 (by omega) (by omega)]; simp; omega)]
        refine (c_vRight ⟨X.g, X.n, p2, X.ms⟩ (fun p hp => hXo p hp)).call (As := []) D (MSrc.mono hx hm') fun _ m w k hm _ C => ⟨_, rfl, k, ?_⟩
        have hok2 : Vw.ok ⟨X.g, X.n, p2, X.ms⟩ = true := hXw p2
        rw [hok2]
        refine Ctr.ret (m' := m) () ?_ trivial C
        rw [show X.n = IntKind.wrap .u32 (v.n + 1) from by rw [hXn.1, w_u32 (by omega) (by omega)]]
        simp
      rw [if_pos (by simpa using hjl)]
      obtain ⟨a, ha1, hc⟩ := (MSrc.mono hv1 hm').elem pr_len hjl
      have ha1 : p1.1 = some a := ha1
      have hc : MCells m' (a.add (j * 2)) v.ms[j].row := hc
      refine ⟨_, D.memFact hc (facts_nil _ _), by omega, by simpa using hjl, ?_⟩
      rw [ha1, onSome_some, Int.toNat_natCast]
      refine ⟨_, _, List.mem_singleton.2 rfl, fun w L h g => ?_⟩
      have e1 : IntKind.wrap .i64 ((j : Int) + 1) = ((j + 1 : Nat) : Int) := by rw [w_i64 (by omega) (by omega)]; omega
      have hst : cntM (v.ms.take (j + 1)) X.ms = cntM (v.ms.take j) X.ms + if v.ms[j] ∈ X.ms then 1 else 0 := by
        rw [List.take_succ_eq_append_getElem hjl, cntM, List.countP_append]; simp [cntM, List.countP_cons]
      refine (c_Rank ⟨X.g, X.n, p2, X.ms⟩ v.ms[j] hxl).call (As := []) (D.hidL h g) (MSrc.mono hx hm') fun r m2 w k hm2 hr2 C => ⟨_, rfl, k, C.memFact (MCells.mono hc hm2) (facts_nil _ _), ?_⟩
      by_cases hin : v.ms[j] ∈ X.ms
      · have : ¬ r < 0 := fun h => hr2.1 h hin
        rw [if_pos (by simp; omega), e1]
        rw [if_pos hin] at hst
        exact ⟨rfl, rfl, rfl, ⟨j + 1, m2, rfl, hjl, by rw [w_i64 (by omega) (by omega), hst]; omega, by omega, hm'.le_trans hm2, C⟩, Nat.le_of_eq (by show ((v.ms.length : Int) - ((j + 1 : Nat) : Int)).toNat + 1 = ((v.ms.length : Int) - (j : Int)).toNat; omega)⟩
      · have := hr2.2 hin
        rw [if_neg (by simp; omega), e1]
        rw [if_neg hin] at hst
        exact ⟨rfl, rfl, rfl, ⟨j + 1, m2, rfl, hjl, by rw [hst]; rfl, by omega, hm'.le_trans hm2, C⟩, Nat.le_of_eq (by show ((v.ms.length : Int) - ((j + 1 : Nat) : Int)).toNat + 1 = ((v.ms.length : Int) - (j : Int)).toNat; omega)⟩
end Go.Proofs
