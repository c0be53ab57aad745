import Derived.Test.YthlhoikeacgfnaaU02j
set_option linter.unusedVariables false
set_option linter.unusedSimpArgs false
set_option maxRecDepth 10000
namespace Go.Proofs
open Go X RowKit
theorem o2_neg_iff (a b r : Int) : o2 (cmp2 a b) r = -1 ↔ a < b ∨ (a = b ∧ r = -1) := by
  rcases Int.lt_trichotomy a b with h | h | h
  · rw [cmp2_lt h, o2_neg]; simp [h]
  · subst h; rw [cmp2_self, zero_o2]; simp
  · rw [cmp2_gt h, o2_one]
    constructor
    · intro e; simp at e
    · rintro (h2 | ⟨h2, _⟩) <;> omega
theorem cmp2_neg_iff (a b : Int) : cmp2 a b = -1 ↔ a < b := by
  have := o2_neg_iff a b 0
  rw [o2_zero] at this
  rw [this]; simp
theorem num_lt (x y : I) (hx : x.In) (hy : y.In) : x.num < y.num ↔ o2 (cmp2 x.n y.n) (o2 (cmp2 x.l y.l) (o2 (cmp2 x.s y.s) (o2 (cmp2 (eI 0 x.d x.g0 x.i0) (eI 0 y.d y.g0 y.i0)) (o2 (cmp2 (eI 1 x.d x.g1 x.i1) (eI 1 y.d y.g1 y.i1)) (o2 (cmp2 (eI 2 x.d x.g2 x.i2) (eI 2 y.d y.g2 y.i2)) (o2 (cmp2 x.d y.d) (o2 (cmp2 x.g0 y.g0) (o2 (cmp2 x.i0 y.i0) (o2 (cmp2 x.g1 y.g1) (o2 (cmp2 x.i1 y.i1) (o2 (cmp2 x.g2 y.g2) (cmp2 x.i2 y.i2)))))))))))) = -1 := by
  rw [← cmp2_neg_iff, ← cmp_num x y hx hy, cmp_dig x y hx hy]
  simp only [List.zipWith, I.dig, orL_cons, orL_nil, o2_zero]
theorem eI_eq {j d g i g' i' : Int} (h : 0 ≤ i ∧ i < 256) (h' : 0 ≤ i' ∧ i' < 256) (hd : j < d) {d' : Int} (he : eI j d g i = eI j d' g' i') (hg : 0 ≤ g) (hg' : 0 ≤ g') : j < d' ∧ g = g' ∧ i = i' := by
  unfold eI at he
  rw [if_pos hd] at he
  split at he <;> omega
/-- what is under an identifier stands ahead of all others behind it -/
theorem under_ahead {x y z : I} (hx : x.In) (hy : y.In) (hz : z.In) (rx : x.Rt) (ry : y.Rt) (rz : z.Rt) (hu : UnderP x z) (hn : ¬ UnderP y z) (hlt : z.num < y.num) : x.num < y.num := by
  rw [num_lt z y hz hy] at hlt
  rw [num_lt x y hx hy]
  simp only [o2_neg_iff, cmp2_neg_iff] at hlt ⊢
  have e : ∀ j, (0 ≤ j → j < z.d → True) := fun _ _ _ => trivial
  have x0 : 0 < z.d → eI 0 x.d x.g0 x.i0 = eI 0 z.d z.g0 z.i0 := fun h => by
    have := hu.s0 h; have := hu.d
    unfold eI; rw [if_pos h, if_pos (by omega)]; omega
  have x1 : 1 < z.d → eI 1 x.d x.g1 x.i1 = eI 1 z.d z.g1 z.i1 := fun h => by
    have := hu.s1 h; have := hu.d
    unfold eI; rw [if_pos h, if_pos (by omega)]; omega
  have x2 : 2 < z.d → eI 2 x.d x.g2 x.i2 = eI 2 z.d z.g2 z.i2 := fun h => by
    have := hu.s2 h; have := hu.d
    unfold eI; rw [if_pos h, if_pos (by omega)]; omega
  -- where y is like z on z's steps, y is under z
  have hy' : z.n = y.n → z.l = y.l → z.s = y.s → (0 < z.d → eI 0 z.d z.g0 z.i0 = eI 0 y.d y.g0 y.i0) → (1 < z.d → eI 1 z.d z.g1 z.i1 = eI 1 y.d y.g1 y.i1) → (2 < z.d → eI 2 z.d z.g2 z.i2 = eI 2 y.d y.g2 y.i2) → False := by
    intro h1 h2 h3 h4 h5 h6
    apply hn
    have k0 : 0 < z.d → 0 < y.d ∧ z.g0 = y.g0 ∧ z.i0 = y.i0 := fun h => eI_eq hz.i0 hy.i0 h (h4 h) hz.g0.1 hy.g0.1
    have k1 : 1 < z.d → 1 < y.d ∧ z.g1 = y.g1 ∧ z.i1 = y.i1 := fun h => eI_eq hz.i1 hy.i1 h (h5 h) hz.g1.1 hy.g1.1
    have k2 : 2 < z.d → 2 < y.d ∧ z.g2 = y.g2 ∧ z.i2 = y.i2 := fun h => eI_eq hz.i2 hy.i2 h (h6 h) hz.g2.1 hy.g2.1
    have := rz.d; have := hy.d
    exact ⟨h1, h2, h3, by omega, fun h => (k0 h).2, fun h => (k1 h).2, fun h => (k2 h).2⟩
  have hn1 := hu.n; have hl1 := hu.l; have hs1 := hu.s
  by_cases c1 : z.n = y.n
  rotate_left
  · exact .inl (by omega)
  by_cases c2 : z.l = y.l
  rotate_left
  · exact .inr ⟨by omega, .inl (by omega)⟩
  by_cases c3 : z.s = y.s
  rotate_left
  · exact .inr ⟨by omega, .inr ⟨by omega, .inl (by omega)⟩⟩
  refine .inr ⟨by omega, .inr ⟨by omega, .inr ⟨by omega, ?_⟩⟩⟩
  have hlt' := (hlt.resolve_left (by omega)).2
  replace hlt' := (hlt'.resolve_left (by omega)).2
  replace hlt' := (hlt'.resolve_left (by omega)).2
  clear hlt
  generalize eI 0 x.d x.g0 x.i0 = ex0 at x0 ⊢
  generalize eI 1 x.d x.g1 x.i1 = ex1 at x1 ⊢
  generalize eI 2 x.d x.g2 x.i2 = ex2 at x2 ⊢
  by_cases d0 : 0 < z.d
  rotate_left
  · exact (hy' c1 c2 c3 (by omega) (by omega) (by omega)).elim
  rw [x0 d0]
  by_cases c4 : eI 0 z.d z.g0 z.i0 = eI 0 y.d y.g0 y.i0
  rotate_left
  · exact .inl (by omega)
  refine .inr ⟨c4, ?_⟩
  replace hlt' := (hlt'.resolve_left (by omega)).2
  by_cases d1 : 1 < z.d
  rotate_left
  · exact (hy' c1 c2 c3 (fun _ => c4) (by omega) (by omega)).elim
  rw [x1 d1]
  by_cases c5 : eI 1 z.d z.g1 z.i1 = eI 1 y.d y.g1 y.i1
  rotate_left
  · exact .inl (by omega)
  refine .inr ⟨c5, ?_⟩
  replace hlt' := (hlt'.resolve_left (by omega)).2
  by_cases d2 : 2 < z.d
  rotate_left
  · exact (hy' c1 c2 c3 (fun _ => c4) (fun _ => c5) (by omega)).elim
  rw [x2 d2]
  by_cases c6 : eI 2 z.d z.g2 z.i2 = eI 2 y.d y.g2 y.i2
  rotate_left
  · exact .inl (by omega)
  exact (hy' c1 c2 c3 (fun _ => c4) (fun _ => c5) (fun _ => c6)).elim
theorem under_self (x : I) : UnderP x x := ⟨rfl, rfl, rfl, Int.le_refl _, fun _ => ⟨rfl, rfl⟩, fun _ => ⟨rfl, rfl⟩, fun _ => ⟨rfl, rfl⟩⟩
end Go.Proofs
