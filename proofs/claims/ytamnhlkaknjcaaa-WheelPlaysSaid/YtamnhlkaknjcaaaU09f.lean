import Derived.Test.YtamnhlkaknjcaaaU09e
set_option linter.unusedVariables false
set_option linter.unusedSimpArgs false
namespace Go.Proofs
open Go X RowKit
theorem facts_below {F : Facts} {u u' : World} (h : FactsW F u []) (hb : Bel u.heap.size u u') : FactsW F u' [] := fun ad vs hm => by
  obtain ⟨h1, h2, h3⟩ := h ad vs hm
  exact ⟨cells_below hb h2 h1, Nat.lt_of_lt_of_le h2 hb.size, h3⟩
theorem facts_cons {F : Facts} {u : World} {ad : Addr} {vs : List Value} (h1 : Cells u ad vs) (h2 : ad.block < u.heap.size) (h : FactsW F u []) : FactsW ((ad, vs) :: F) u [] := fun a v hm => by
  rcases List.mem_cons.1 hm with e | hm
  · injection e with e1 e2
    subst e1; subst e2
    exact ⟨h1, h2, by simp⟩
  · exact h a v hm
def I.row (x : I) : List Value := [.int .u8 x.n, .int .u16 x.l, .int .u32 x.s, .int .u8 x.d, .int .u8 x.g0, .int .u8 x.i0, .int .u8 x.g1, .int .u8 x.i1, .int .u8 x.g2, .int .u8 x.i2]
def I.steps (x : I) : List (Int × Int) := [(x.g0, x.i0), (x.g1, x.i1), (x.g2, x.i2)]
def I.cmp (x y : I) : Int := orL [orL [cmp2 x.n y.n, cmp2 x.l y.l], cmp2 x.s y.s, orL (List.zipWith cmpS (x.steps.take (min x.k y.k)) (y.steps.take (min x.k y.k))), cmp2 x.d y.d, orL (List.zipWith cmpS x.steps y.steps)]
theorem cells_sub {w : World} {b o : Nat} {vs : List Value} (h : Cells w ⟨b, o, none⟩ vs) (k : Nat) (us : List Value) (hu : ∀ j v, us[j]? = some v → vs[k + j]? = some v) : Cells w ⟨b, o + k, none⟩ us := fun j v hj => by
  have := h (k + j) v (hu j v hj)
  rw [Addr.add_mid] at this ⊢
  rwa [Nat.add_assoc]
theorem k_le (x : I) (hx : x.In) : x.k ≤ 3 := by
  have := hx.d
  unfold I.k; split <;> omega
theorem path_steps (x : I) {w : World} {b o : Nat} (h : Cells w ⟨b, o, none⟩ x.path) (j : Nat) (hj : j < x.steps.length) : Cells w ((⟨b, o, none⟩ : Addr).add (j * 2)) [.int .u8 x.steps[j].1, .int .u8 x.steps[j].2] := by
  rw [Addr.add_mid]
  refine cells_sub h (j * 2) _ fun i v hi => ?_
  have h3 : j < 3 := by simpa [I.steps] using hj
  have hi2 : i < 2 := by
    have := (List.getElem?_eq_some_iff.1 hi).1
    simpa using this
  match j, h3, i, hi2 with
  | 0, _, 0, _ => exact hi
  | 0, _, 1, _ => exact hi
  | 1, _, 0, _ => exact hi
  | 1, _, 1, _ => exact hi
  | 2, _, 0, _ => exact hi
  | 2, _, 1, _ => exact hi
theorem c_Compare (x y : I) (hx : x.In) (hy : y.In) : Gives Try.prog 30 #[x.V, y.V] (.int .i64 (x.cmp y)) := by
  intro w
  refine x_ident_Compare _ _ _ _ _ _ _ _ _ _ _ _ _ _ _ _ _ _ _ _ w _ ?_
  have ca : Cells (w.alloc (.cells x.row.toArray 38)) ⟨w.heap.size, 0, none⟩ x.row := cells_new w x.row 38
  have sa : (w.alloc (.cells x.row.toArray 38)).heap.size = w.heap.size + 1 := by simp
  generalize hW1 : w.alloc (.cells x.row.toArray 38) = W1 at ca sa
  have hW1' : (w.alloc (.cells #[.int .u8 x.n, .int .u16 x.l, .int .u32 x.s, .int .u8 x.d, .int .u8 x.g0, .int .u8 x.i0, .int .u8 x.g1, .int .u8 x.i1, .int .u8 x.g2, .int .u8 x.i2] 38)) = W1 := hW1
  rw [hW1']
  have b1 : Bel w.heap.size w W1 := by rw [← hW1]; exact alloc_below _ _ _ (Nat.le_refl _)
  have cb : Cells (W1.alloc (.cells y.row.toArray 38)) ⟨W1.heap.size, 0, none⟩ y.row := cells_new W1 y.row 38
  have sb : (W1.alloc (.cells y.row.toArray 38)).heap.size = W1.heap.size + 1 := by simp
  have b2 : Bel W1.heap.size W1 (W1.alloc (.cells y.row.toArray 38)) := alloc_below _ _ _ (Nat.le_refl _)
  generalize hW2 : W1.alloc (.cells y.row.toArray 38) = W2 at cb sb b2
  have hW2' : (W1.alloc (.cells #[.int .u8 y.n, .int .u16 y.l, .int .u32 y.s, .int .u8 y.d, .int .u8 y.g0, .int .u8 y.i0, .int .u8 y.g1, .int .u8 y.i1, .int .u8 y.g2, .int .u8 y.i2] 38)) = W2 := hW2
  rw [hW2']
  have ca2 : Cells W2 ⟨w.heap.size, 0, none⟩ x.row := cells_below b2 (by show w.heap.size < _; omega) ca
  have F1 : FactsW [(⟨w.heap.size, 0, none⟩, x.row), (⟨W1.heap.size, 0, none⟩, y.row)] W2 [] :=
    facts_cons ca2 (by show w.heap.size < _; omega) (facts_cons cb (by show W1.heap.size < _; omega) (facts_nil _ _))
  refine ⟨_, F1, x.n, x.l, x.s, x.d, x.g0, x.i0, x.g1, x.i1, x.g2, x.i2, by simp [I.row], y.n, y.l, y.s, y.d, y.g0, y.i0, y.g1, y.i1, y.g2, y.i2, by simp [I.row], ?_⟩
  intro w22 h22
  have B22 : Bel W2.heap.size W2 w22 := hid_below h22 (by simp) (Nat.le_refl _)
  have F22 := facts_below F1 B22
  refine ⟨(c_steps x hx w22).mono ?_⟩
  rintro e w24 ⟨p, rfl, hp1, hp2, hb24, hcp⟩
  refine ⟨some ⟨p, 0, none⟩, x.k, 3, rfl, hb24.size, facts_below F22 hb24, ?_⟩
  refine ⟨(c_steps y hy w24).mono ?_⟩
  rintro e w29 ⟨q, rfl, hq1, hq2, hb29, hcq⟩
  have F29 := facts_below (facts_below F22 hb24) hb29
  refine ⟨some ⟨q, 0, none⟩, y.k, 3, rfl, hb29.size, F29, ?_⟩
  have xa := F29 _ _ (List.mem_cons_self)
  have ya := F29 _ _ (List.mem_cons_of_mem _ (List.mem_cons_self))
  have G29 : FactsW [(⟨w.heap.size, 0, none⟩, [.int .u8 x.n, .int .u16 x.l]), (⟨W1.heap.size, 0, none⟩, [.int .u8 y.n, .int .u16 y.l]), (⟨w.heap.size, 0 + 2, none⟩, [.int .u32 x.s]), (⟨W1.heap.size, 0 + 2, none⟩, [.int .u32 y.s]), (⟨w.heap.size, 0 + 3, none⟩, [.int .u8 x.d]), (⟨W1.heap.size, 0 + 3, none⟩, [.int .u8 y.d])] w29 [] := by
    have h2 : ∀ (k : Nat) (v0 v1 : Value) (r : List Value), r[k + 0]? = some v0 → r[k + 1]? = some v1 → ∀ j v, [v0, v1][j]? = some v → r[k + j]? = some v := by
      intro k v0 v1 r e0 e1 j v hj
      rcases j with _ | _ | j
      · rw [e0]; exact hj
      · rw [e1]; exact hj
      · simp at hj
    have h1 : ∀ (k : Nat) (v0 : Value) (r : List Value), r[k + 0]? = some v0 → ∀ j v, [v0][j]? = some v → r[k + j]? = some v := by
      intro k v0 r e0 j v hj
      rcases j with _ | j
      · rw [e0]; exact hj
      · simp at hj
    exact facts_cons (cells_sub xa.1 0 _ (h2 0 _ _ _ rfl rfl)) xa.2.1 (facts_cons (cells_sub ya.1 0 _ (h2 0 _ _ _ rfl rfl)) ya.2.1 (facts_cons (cells_sub xa.1 2 _ (h1 2 _ _ rfl)) xa.2.1 (facts_cons (cells_sub ya.1 2 _ (h1 2 _ _ rfl)) ya.2.1
      (facts_cons (cells_sub xa.1 3 _ (h1 3 _ _ rfl)) xa.2.1 (facts_cons (cells_sub ya.1 3 _ (h1 3 _ _ rfl)) ya.2.1 (facts_nil _ _))))))
  have e2 : Bel w.heap.size w W2 := below_trans b1 (below_mono b2 b1.size)
  have e22 := below_trans e2 (below_mono B22 e2.size)
  have e24 := below_trans e22 (below_mono hb24 e22.size)
  have e29 := below_trans e24 (below_mono hb29 e24.size)
  refine ⟨[(⟨w.heap.size, 0, none⟩, [.int .u8 x.n, .int .u16 x.l]), (⟨W1.heap.size, 0, none⟩, [.int .u8 y.n, .int .u16 y.l]), (⟨w.heap.size, 0 + 2, none⟩, [.int .u32 x.s]), (⟨W1.heap.size, 0 + 2, none⟩, [.int .u32 y.s]), (⟨w.heap.size, 0 + 3, none⟩, [.int .u8 x.d]), (⟨W1.heap.size, 0 + 3, none⟩, [.int .u8 y.d])], ?_, x.n, x.l, by simp, y.n, y.l, by simp, x.s, by simp, y.s, by simp, ?_⟩
  · exact G29
  have kx := k_le x hx
  have ky := k_le y hy
  refine ⟨by split <;> omega, by split <;> omega, by split <;> omega, by split <;> omega, x.d, by simp, y.d, by simp, ?_⟩
  generalize hG : ([(⟨w.heap.size, 0, none⟩, [.int .u8 x.n, .int .u16 x.l]), (⟨W1.heap.size, 0, none⟩, [.int .u8 y.n, .int .u16 y.l]), (⟨w.heap.size, 0 + 2, none⟩, [.int .u32 x.s]), (⟨W1.heap.size, 0 + 2, none⟩, [.int .u32 y.s]), (⟨w.heap.size, 0 + 3, none⟩, [.int .u8 x.d]), (⟨W1.heap.size, 0 + 3, none⟩, [.int .u8 y.d])] : Facts) = G at G29 ⊢
  intro w42 h42
  have B42 : Bel w29.heap.size w29 w42 := hid_below h42 (by simp) (Nat.le_refl _)
  have e42 := below_trans e29 (below_mono B42 e29.size)
  have G42 := facts_below G29 B42
  refine (c_CompareProcs x.n x.l y.n y.l).call fun w44 h44 => ⟨_, rfl, h44.size, facts_below G42 h44, ?_⟩
  have e44 := below_trans e42 (below_mono h44 e42.size)
  have G44 := facts_below G42 h44
  refine (c_cmp32 x.s y.s).call fun w47 h47 => ⟨_, rfl, h47.size, facts_below G44 h47, ?_⟩
  have e47 := below_trans e44 (below_mono h47 e44.size)
  have G47 := facts_below G44 h47
  have q42 : Bel w29.heap.size w29 w47 := below_trans B42 (below_trans (below_mono h44 B42.size) (below_mono h47 (Nat.le_trans B42.size h44.size)))
  have q24 : Bel w24.heap.size w24 w47 := below_trans hb29 (below_mono q42 hb29.size)
  have P47 := cells_below q24 (a := ⟨p, 0, none⟩) hp2 hcp
  have Q47 := cells_below q42 (a := ⟨q, 0, none⟩) hq2 hcq
  have hm : ((if (y.k : Int) < (x.k : Int) then (y.k : Int) else (x.k : Int))).toNat = (x.steps.take (min x.k y.k)).length := by
    rw [List.length_take]
    show _ = min (min x.k y.k) 3
    split <;> omega
  have hml : (y.steps.take (min x.k y.k)).length = (x.steps.take (min x.k y.k)).length := by
    rw [List.length_take, List.length_take]; rfl
  rw [hm]
  have hx3 : x.steps.length = 3 := rfl
  have hy3 : y.steps.length = 3 := rfl
  refine (c_CompareFunc ⟨p, 0, none⟩ ⟨q, 0, none⟩ (x.steps.take (min x.k y.k)) (y.steps.take (min x.k y.k)) hml (by rw [List.length_take]; omega) 3 3 w47 (Nat.lt_of_lt_of_le hp2 q24.size) (Nat.lt_of_lt_of_le hq2 q42.size)
    (fun j hj => by rw [List.getElem_take]; exact path_steps x P47 j _) (fun j hj => by rw [List.getElem_take]; exact path_steps y Q47 j _)).call fun w50 h50 => ⟨_, rfl, h50.size, facts_below G47 h50, ?_⟩
  have e50 := below_trans e47 (below_mono h50 e47.size)
  have G50 := facts_below G47 h50
  refine (c_cmp8 x.d y.d).call fun w53 h53 => ⟨_, rfl, h53.size, facts_below G50 h53, ?_⟩
  have e53 := below_trans e50 (below_mono h53 e50.size)
  have G53 := facts_below G50 h53
  have r53 : Bel w29.heap.size w29 w53 := below_trans q42 (below_trans (below_mono h50 q42.size) (below_mono h53 (Nat.le_trans q42.size h50.size)))
  have X53 := cells_below r53 (a := ⟨w.heap.size, 0, none⟩) xa.2.1 xa.1
  have Y53 := cells_below r53 (a := ⟨W1.heap.size, 0, none⟩) ya.2.1 ya.1
  have px : Cells w53 ⟨w.heap.size, 0 + 4, none⟩ x.path := cells_sub X53 4 _ fun j v hj => by
    rcases j with _ | _ | _ | _ | _ | _ | j <;> first | exact hj | simp [I.path] at hj
  have py : Cells w53 ⟨W1.heap.size, 0 + 4, none⟩ y.path := cells_sub Y53 4 _ fun j v hj => by
    rcases j with _ | _ | _ | _ | _ | _ | j <;> first | exact hj | simp [I.path] at hj
  refine (c_CompareFunc ⟨w.heap.size, 0 + 4, none⟩ ⟨W1.heap.size, 0 + 4, none⟩ x.steps y.steps rfl (by rw [hx3]; omega) 3 3 w53 (Nat.lt_of_lt_of_le xa.2.1 r53.size) (Nat.lt_of_lt_of_le ya.2.1 r53.size)
    (fun j hj => path_steps x px j _) (fun j hj => path_steps y py j _)).call fun w56 h56 => ⟨_, rfl, h56.size, facts_below G53 h56, ?_⟩
  have e56 := below_trans e53 (below_mono h56 e53.size)
  have G56 := facts_below G53 h56
  have ba := alloc_below w56.heap.size w56 (.cells #[.int .i64 (orL [cmp2 x.n y.n, cmp2 x.l y.l]), .int .i64 (cmp2 x.s y.s), .int .i64 (orL (List.zipWith cmpS (x.steps.take (min x.k y.k)) (y.steps.take (min x.k y.k)))), .int .i64 (cmp2 x.d y.d), .int .i64 (orL (List.zipWith cmpS x.steps y.steps))] 3) (Nat.le_refl _)
  refine ⟨facts_below G56 ba, ?_⟩
  refine (c_OrNew w56 [orL [cmp2 x.n y.n, cmp2 x.l y.l], cmp2 x.s y.s, orL (List.zipWith cmpS (x.steps.take (min x.k y.k)) (y.steps.take (min x.k y.k))), cmp2 x.d y.d, orL (List.zipWith cmpS x.steps y.steps)] 3 (by simp)).call fun w59 h59 => ⟨_, rfl, h59.size, facts_below (facts_below G56 ba) h59, rfl, ?_⟩
  exact below_trans e56 (below_trans (below_mono ba e56.size) (below_mono h59 (Nat.le_trans e56.size ba.size)))
end Go.Proofs
