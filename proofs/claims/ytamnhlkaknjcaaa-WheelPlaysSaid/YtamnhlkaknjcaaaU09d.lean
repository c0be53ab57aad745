import Derived.Test.YtamnhlkaknjcaaaU09b
set_option linter.unusedVariables false
set_option linter.unusedSimpArgs false
namespace Go.Proofs
open Go X RowKit
def cmp2 (a b : Int) : Int := if a < b then -1 else if a > b then 1 else 0
def orL : List Int → Int
  | [] => 0
  | x :: r => if x ≠ 0 then x else orL r
theorem c_number (a b : Int) : Gives Try.prog 46 #[.int .i64 a, .int .i64 b] (.int .i64 (cmp2 a b)) := by
  intro w
  refine x_gemotref02_number a b w _ ?_
  unfold cmp2
  by_cases h1 : a < b
  · simp only [h1, decide_true, if_true]; exact ⟨trivial, below_refl _ _⟩
  · by_cases h2 : a > b
    · simp only [h1, h2, decide_true, decide_false, if_true, if_false, Bool.false_eq_true]; exact ⟨trivial, below_refl _ _⟩
    · simp only [h1, h2, decide_true, decide_false, if_true, if_false, Bool.false_eq_true]; exact ⟨trivial, below_refl _ _⟩
theorem ne_self (a : Int) : (a != a) = false := by simp
theorem c_nan8 (a : Int) : Gives Try.prog 40 #[.int .u8 a] (.bool false) := fun w => x_cmp_isNaN_uint8 a w _ ⟨by rw [ne_self], below_refl _ _⟩
theorem c_nan16 (a : Int) : Gives Try.prog 51 #[.int .u16 a] (.bool false) := fun w => x_cmp_isNaN_uint16 a w _ ⟨by rw [ne_self], below_refl _ _⟩
theorem c_nan32 (a : Int) : Gives Try.prog 52 #[.int .u32 a] (.bool false) := fun w => x_cmp_isNaN_uint32 a w _ ⟨by rw [ne_self], below_refl _ _⟩
theorem c_cmp8 (a b : Int) : Gives Try.prog 28 #[.int .u8 a, .int .u8 b] (.int .i64 (cmp2 a b)) := by
  intro w
  refine x_cmp_Compare_uint8 a b w _ ?_
  refine (c_nan8 a).call fun w2 h2 => ⟨_, rfl, h2.size, ?_⟩
  refine (c_nan8 b).call fun w5 h5 => ⟨_, rfl, h5.size, ?_⟩
  have hb := below_trans h2 (below_mono h5 h2.size)
  unfold cmp2
  by_cases h1 : a < b
  · simp only [h1, decide_true, if_true, Bool.false_eq_true, if_false]; exact ⟨trivial, hb⟩
  · by_cases h3 : a > b
    · simp only [h1, h3, decide_true, decide_false, if_true, if_false, Bool.false_eq_true]; exact ⟨trivial, hb⟩
    · simp only [h1, h3, decide_true, decide_false, if_true, if_false, Bool.false_eq_true]; exact ⟨trivial, hb⟩
theorem c_cmp16 (a b : Int) : Gives Try.prog 41 #[.int .u16 a, .int .u16 b] (.int .i64 (cmp2 a b)) := by
  intro w
  refine x_cmp_Compare_uint16 a b w _ ?_
  refine (c_nan16 a).call fun w2 h2 => ⟨_, rfl, h2.size, ?_⟩
  refine (c_nan16 b).call fun w5 h5 => ⟨_, rfl, h5.size, ?_⟩
  have hb := below_trans h2 (below_mono h5 h2.size)
  unfold cmp2
  by_cases h1 : a < b
  · simp only [h1, decide_true, if_true, Bool.false_eq_true, if_false]; exact ⟨trivial, hb⟩
  · by_cases h3 : a > b
    · simp only [h1, h3, decide_true, decide_false, if_true, if_false, Bool.false_eq_true]; exact ⟨trivial, hb⟩
    · simp only [h1, h3, decide_true, decide_false, if_true, if_false, Bool.false_eq_true]; exact ⟨trivial, hb⟩
theorem c_cmp32 (a b : Int) : Gives Try.prog 43 #[.int .u32 a, .int .u32 b] (.int .i64 (cmp2 a b)) := by
  intro w
  refine x_cmp_Compare_uint32 a b w _ ?_
  refine (c_nan32 a).call fun w2 h2 => ⟨_, rfl, h2.size, ?_⟩
  refine (c_nan32 b).call fun w5 h5 => ⟨_, rfl, h5.size, ?_⟩
  have hb := below_trans h2 (below_mono h5 h2.size)
  unfold cmp2
  by_cases h1 : a < b
  · simp only [h1, decide_true, if_true, Bool.false_eq_true, if_false]; exact ⟨trivial, hb⟩
  · by_cases h3 : a > b
    · simp only [h1, h3, decide_true, decide_false, if_true, if_false, Bool.false_eq_true]; exact ⟨trivial, hb⟩
    · simp only [h1, h3, decide_true, decide_false, if_true, if_false, Bool.false_eq_true]; exact ⟨trivial, hb⟩
theorem orL_drop (l : List Int) (k : Nat) (hk : k < l.length) : orL (l.drop k) = if l[k] ≠ 0 then l[k] else orL (l.drop (k + 1)) := by
  rw [List.drop_eq_getElem_cons hk]; rfl
theorem c_Or (p : Addr) (l : List Int) (w : World) (cap : Nat) (hl : l.length < 1000000) (h : ∀ (j : Nat) (hj : j < l.length), w.cell? (p.add j) = some (.int .i64 l[j])) :
    GivesAt Try.prog 27 #[.slice (some p) l.length cap] w (.int .i64 (orL l)) := by
  refine x_cmp_Or_int (some p) l.length cap w _ ⟨fun n w' _ => ∃ k : Nat, n = k ∧ k ≤ l.length ∧ w' = w ∧ orL l = orL (l.drop k), fun n _ => ((l.length : Int) - n).toNat, ⟨0, rfl, by omega, rfl, rfl⟩, ?_⟩
  rintro n w4 L5 _ ⟨k, rfl, hk, rfl, ho⟩
  by_cases hlt : k < l.length
  · rw [if_pos (by simpa using hlt)]
    refine ⟨by omega, by omega, ?_⟩
    rw [onSome_some]
    refine ⟨l[k], ?_, ?_⟩
    · have := h k hlt
      simpa using this
    · rw [orL_drop l k hlt] at ho
      by_cases hz : l[k] = 0
      · have e1 : (l[k] != 0) = false := by simp [hz]
        rw [e1, if_neg (by simp)]
        have e2 : IntKind.wrap .i64 ((k : Int) + 1) = ((k + 1 : Nat) : Int) := by rw [w_i64 (by omega) (by omega)]; omega
        rw [e2]
        refine ⟨⟨k + 1, rfl, hlt, rfl, by rw [ho, if_neg (by simp [hz])]⟩, ?_⟩
        show ((l.length : Int) - ((k + 1 : Nat) : Int)).toNat + 1 ≤ ((l.length : Int) - (k : Int)).toNat
        omega
      · have e1 : (l[k] != 0) = true := by simp [hz]
        rw [e1, if_pos rfl]
        exact ⟨by rw [ho, if_pos hz], below_refl _ _⟩
  · rw [if_neg (by simpa using hlt)]
    have : l.drop k = [] := List.drop_eq_nil_of_le (by omega)
    exact ⟨by rw [ho, this]; rfl, below_refl _ _⟩
theorem new_cell (w : World) (cs : Array Value) (ty : TypeId) (j : Nat) : (w.alloc (.cells cs ty)).cell? (Addr.add ⟨w.heap.size, 0, none⟩ j) = cs[j]? := by
  have hh : (w.alloc (.cells cs ty)).heap = w.heap.push (.cells cs ty) := rfl
  have ha : (Addr.add ⟨w.heap.size, 0, none⟩ j) = ⟨w.heap.size, j, none⟩ := by
    simp only [Addr.add]; split
    · rename_i h; rw [h]
    · simp
  rw [ha]
  simp only [World.cell?, hh, Array.getElem?_push_size]
  rfl
theorem alloc_below (n : Nat) (w : World) (o : Obj) (hn : n ≤ w.heap.size) : Bel n w (w.alloc o) :=
  have hh : (w.alloc o).heap = w.heap.push o := rfl
  ⟨rfl, rfl, rfl, by rw [hh, Array.size_push]; omega, Nat.le_refl _, fun k hk => by rw [hh, Array.getElem?_push, if_neg (by omega)]⟩
/-- Or of a new slice -/
theorem c_OrNew (w : World) (l : List Int) (ty : TypeId) (hl : l.length < 1000000) : GivesAt Try.prog 27 #[.slice (some ⟨w.heap.size, 0, none⟩) l.length l.length] (w.alloc (.cells (l.map (.int .i64)).toArray ty)) (.int .i64 (orL l)) :=
  c_Or _ l _ _ hl fun j hj => by rw [new_cell]; simp [hj]
theorem at_alloc {n : Nat} {w wk : World} {L : List Nat} (a : At n w wk L) (hw : n ≤ w.heap.size) (o : Obj) : At n w (wk.alloc o) L :=
  at_call a hw (alloc_below _ _ _ (Nat.le_refl _))
theorem alloc_kept {n : Nat} {w wk : World} {L : List Nat} (a : At n w wk L) (o : Obj) : Kept L wk (wk.alloc o) := at_kept a (alloc_below _ _ _ (Nat.le_refl _))
theorem c_CompareProcs (a0 a1 b0 b1 : Int) : Gives Try.prog 29 #[PV a0 a1, PV b0 b1] (.int .i64 (orL [cmp2 a0 b0, cmp2 a1 b1])) := by
  intro w
  refine x_ident_CompareProcs a0 a1 b0 b1 w _ ⟨[], facts_nil _ _, fun w2 L h1 h2 => ?_⟩
  have A := at_start h1 h2
  refine (c_cmp8 a0 b0).call fun w5 h5 => ⟨_, rfl, at_kept A h5, facts_nil _ _, ?_⟩
  replace A := at_call A (Nat.le_refl _) h5
  refine (c_cmp16 a1 b1).call fun w8 h8 => ⟨_, rfl, at_kept A h8, facts_nil _ _, facts_nil _ _, ?_⟩
  replace A := at_alloc (at_call A (Nat.le_refl _) h8) (Nat.le_refl _)
  refine (c_OrNew w8 [cmp2 a0 b0, cmp2 a1 b1] 3 (by simp)).call fun w11 h11 => ⟨_, rfl, at_kept (A _) h11, facts_nil _ _, rfl, ?_⟩
  exact (at_call (A _) (Nat.le_refl _) h11).bel
@[reducible] def SV2 (g i : Int) : Value := .agg #[.int .u8 g, .int .u8 i]
theorem c_compareSteps (a0 a1 b0 b1 : Int) : Gives Try.prog 45 #[SV2 a0 a1, SV2 b0 b1] (.int .i64 (orL [cmp2 a0 b0, cmp2 a1 b1])) := by
  intro w
  refine x_ident_compareSteps a0 a1 b0 b1 w _ ⟨[], facts_nil _ _, fun w2 L h1 h2 => ?_⟩
  have A := at_start h1 h2
  refine (c_cmp8 a0 b0).call fun w5 h5 => ⟨_, rfl, at_kept A h5, facts_nil _ _, ?_⟩
  replace A := at_call A (Nat.le_refl _) h5
  refine (c_cmp8 a1 b1).call fun w8 h8 => ⟨_, rfl, at_kept A h8, facts_nil _ _, facts_nil _ _, ?_⟩
  replace A := at_alloc (at_call A (Nat.le_refl _) h8) (Nat.le_refl _)
  refine (c_OrNew w8 [cmp2 a0 b0, cmp2 a1 b1] 3 (by simp)).call fun w11 h11 => ⟨_, rfl, at_kept (A _) h11, facts_nil _ _, rfl, ?_⟩
  exact (at_call (A _) (Nat.le_refl _) h11).bel
theorem c_ref_CompareProcs (a0 a1 b0 b1 : Int) (h0 : 0 ≤ a0 ∧ a0 < 256) (h1 : 0 ≤ b0 ∧ b0 < 256) (h2 : 0 ≤ a1 ∧ a1 < 65536) (h3 : 0 ≤ b1 ∧ b1 < 65536) :
    Gives Try.prog 33 #[PV a0 a1, PV b0 b1] (.int .i64 (orL [cmp2 a0 b0, cmp2 a1 b1])) := by
  intro w
  refine x_gemotref02_CompareProcs a0 a1 b0 b1 w _ ?_
  rw [w_i64 (by omega) (by omega), w_i64 (by omega) (by omega), w_i64 (by omega) (by omega), w_i64 (by omega) (by omega)]
  by_cases he : a0 = b0
  · rw [if_neg (by simp [he])]
    intro w1 L g1 g2
    have A := at_start g1 g2
    refine (c_number a1 b1).call fun w4 h4 => ⟨_, rfl, at_kept A h4, ?_, (at_call A (Nat.le_refl _) h4).bel⟩
    subst he
    simp only [orL, cmp2]; split <;> split <;> first | omega | (split <;> simp_all) | simp_all
  · rw [if_pos (by simpa using he)]
    intro w1 L g1 g2
    have A := at_start g1 g2
    refine (c_number a0 b0).call fun w4 h4 => ⟨_, rfl, at_kept A h4, ?_, (at_call A (Nat.le_refl _) h4).bel⟩
    have : cmp2 a0 b0 ≠ 0 := by unfold cmp2; split <;> (try split) <;> omega
    simp only [orL, if_pos this]
end Go.Proofs
