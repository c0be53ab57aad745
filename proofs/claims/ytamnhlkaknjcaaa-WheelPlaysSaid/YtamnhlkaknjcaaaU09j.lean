import Derived.Test.YtamnhlkaknjcaaaU09i
import Derived.Test.YtamnhlkaknjcaaaV09b
set_option linter.unusedVariables false
set_option linter.unusedSimpArgs false
set_option maxRecDepth 10000
namespace Go.Proofs
open Go X RowKit
/-! ### keys -/
structure K where (kd pn pl : Int) (id : I)
@[reducible] def K.row (x : K) : List Value := [.int .u8 x.kd, .int .u8 x.pn, .int .u16 x.pl, .int .u8 x.id.n, .int .u16 x.id.l, .int .u32 x.id.s, .int .u8 x.id.d, .int .u8 x.id.g0, .int .u8 x.id.i0, .int .u8 x.id.g1, .int .u8 x.id.i1, .int .u8 x.id.g2, .int .u8 x.id.i2]
@[reducible] def K.V (x : K) : Value := .agg #[.int .u8 x.kd, .int .u8 x.pn, .int .u16 x.pl, .int .u8 x.id.n, .int .u16 x.id.l, .int .u32 x.id.s, .int .u8 x.id.d, .int .u8 x.id.g0, .int .u8 x.id.i0, .int .u8 x.id.g1, .int .u8 x.id.i1, .int .u8 x.id.g2, .int .u8 x.id.i2]
structure K.In (x : K) : Prop where
  kd : 0 ≤ x.kd ∧ x.kd < 256
  pn : 0 ≤ x.pn ∧ x.pn < 256
  pl : 0 ≤ x.pl ∧ x.pl < 65536
  id : x.id.In
def K.cmp (x y : K) : Int := orL [cmp2 x.kd y.kd, orL [cmp2 x.pn y.pn, cmp2 x.pl y.pl], x.id.cmp y.id]
/-- the order of keys is that of numbers -/
def K.num (x : K) : Int := pkI [256, 256, 65536, szI basI] [x.kd, x.pn, x.pl, x.id.num]
theorem K.In.dig {x : K} (h : x.In) : InI [256, 256, 65536, szI basI] [x.kd, x.pn, x.pl, x.id.num] := ⟨h.kd, h.pn, h.pl, pk_in h.id.dig, trivial⟩
theorem k_cmp_num {x y : K} (hx : x.In) (hy : y.In) : x.cmp y = cmp2 x.num y.num := by
  rw [K.num, K.num, pk_cmp hx.dig hy.dig]
  simp only [K.cmp, List.zipWith, orL_cons, orL_nil, o2_zero, o2_assoc, cmp_num x.id y.id hx.id hy.id]
theorem K.ext' {a b : K} (h : a.kd = b.kd ∧ a.pn = b.pn ∧ a.pl = b.pl ∧ a.id = b.id) : a = b := by cases a; cases b; simp_all
theorem k_num_inj {x y : K} (hx : x.In) (hy : y.In) (h : x.num = y.num) : x = y := by
  have := pk_inj hx.dig hy.dig h
  injection this with h1 h2
  injection h2 with h2 h3
  injection h3 with h3 h4
  injection h4 with h4 _
  exact K.ext' ⟨h1, h2, h3, num_inj hx.id hy.id h4⟩
theorem c_wCompare (x y : K) (hx : x.In) (hy : y.In) : Gives Try.prog 7 #[x.V, y.V] (.int .i64 (x.cmp y)) := by
  intro w
  refine x_wheel_Compare _ _ _ _ _ _ _ _ _ _ _ _ _ _ _ _ _ _ _ _ _ _ _ _ _ _ w _ ⟨[], facts_nil _ _, fun w2 L h1 h2 => ?_⟩
  have A := at_start h1 h2
  refine (c_cmp8 x.kd y.kd).call fun w5 h5 => ⟨_, rfl, at_kept A h5, facts_nil _ _, ?_⟩
  replace A := at_call A (Nat.le_refl _) h5
  refine (c_CompareProcs x.pn x.pl y.pn y.pl).call fun w8 h8 => ⟨_, rfl, at_kept A h8, facts_nil _ _, ?_⟩
  replace A := at_call A (Nat.le_refl _) h8
  refine (c_Compare x.id y.id hx.id hy.id).call fun w11 h11 => ⟨_, rfl, at_kept A h11, facts_nil _ _, facts_nil _ _, ?_⟩
  replace A := at_alloc (at_call A (Nat.le_refl _) h11) (Nat.le_refl _)
  refine (c_OrNew w11 [cmp2 x.kd y.kd, orL [cmp2 x.pn y.pn, cmp2 x.pl y.pl], x.id.cmp y.id] 3 (by simp)).call fun w14 h14 => ⟨_, rfl, at_kept (A _) h14, facts_nil _ _, rfl, ?_⟩
  exact (at_call (A _) (Nat.le_refl _) h14).bel
theorem c_rCompare (x y : K) (hx : x.In) (hy : y.In) : Gives Try.prog 9 #[x.V, y.V] (.int .i64 (x.cmp y)) := by
  intro w
  refine x_gemotref09_Compare _ _ _ _ _ _ _ _ _ _ _ _ _ _ _ _ _ _ _ _ _ _ _ _ _ _ w _ ?_
  by_cases hk : x.kd = y.kd
  rotate_left
  · rw [if_pos (by simpa using hk)]
    have e : x.cmp y = cmp2 x.kd y.kd := by
      have : cmp2 x.kd y.kd ≠ 0 := fun e => hk ((cmp2_zero _ _).1 e)
      simp only [K.cmp, orL, if_pos this]
    rw [e]
    by_cases h : x.kd < y.kd
    · rw [if_pos (by simpa using h), cmp2_lt h]
      exact fun w10 h10 => ⟨rfl, hid_below h10 (by simp) (Nat.le_refl _)⟩
    · rw [if_neg (by simpa using h), cmp2_gt (by omega)]
      exact fun w10 h10 => ⟨rfl, hid_below h10 (by simp) (Nat.le_refl _)⟩
  rw [if_neg (by simp [hk])]
  intro w1 L2 h1 h2
  have A := at_start h1 h2
  refine (c_ref_CompareProcs x.pn x.pl y.pn y.pl hx.pn hy.pn hx.pl hy.pl).call fun w4 h4 => ⟨_, rfl, at_kept A h4, ?_⟩
  replace A := at_call A (Nat.le_refl _) h4
  have e0 : cmp2 x.kd y.kd = 0 := by rw [hk]; exact cmp2_self _
  by_cases hc : orL [cmp2 x.pn y.pn, cmp2 x.pl y.pl] = 0
  rotate_left
  · rw [if_pos (by simpa using hc)]
    refine ⟨?_, A.bel⟩
    simp only [K.cmp, e0]
    rw [show orL [0, orL [cmp2 x.pn y.pn, cmp2 x.pl y.pl], x.id.cmp y.id] = orL [cmp2 x.pn y.pn, cmp2 x.pl y.pl] from by
      show (if (0 : Int) ≠ 0 then _ else if orL [cmp2 x.pn y.pn, cmp2 x.pl y.pl] ≠ 0 then orL [cmp2 x.pn y.pn, cmp2 x.pl y.pl] else _) = _
      rw [if_neg (by simp), if_pos hc]]
  rw [if_neg (by simpa using hc)]
  refine (c_ref_Compare x.id y.id hx.id hy.id).call fun w7 h7 => ⟨_, rfl, at_kept A h7, ?_, (at_call A (Nat.le_refl _) h7).bel⟩
  simp only [K.cmp, e0]
  rw [show orL [0, orL [cmp2 x.pn y.pn, cmp2 x.pl y.pl], x.id.cmp y.id] = x.id.cmp y.id from by
    show (if (0 : Int) ≠ 0 then _ else if orL [cmp2 x.pn y.pn, cmp2 x.pl y.pl] ≠ 0 then _ else orL [x.id.cmp y.id]) = _
    rw [if_neg (by simp), if_neg (by simpa using hc)]
    show (if x.id.cmp y.id ≠ 0 then x.id.cmp y.id else 0) = _
    split
    · rfl
    · rename_i h; simp at h; exact h.symm]
theorem c_Key (x : K) : Gives Try.prog 8 #[x.V] x.V := by
  intro w
  refine x_gemotlaw09_Key _ _ _ _ _ _ _ _ _ _ _ _ _ w _ ⟨[], facts_nil _ _, fun w2 L h1 h2 => ?_⟩
  have A := at_start h1 h2
  refine (c_Proc x.pn x.pl).call fun w5 h5 => ⟨_, _, rfl, at_kept A h5, facts_nil _ _, ?_⟩
  replace A := at_call A (Nat.le_refl _) h5
  refine (c_ID x.id).call fun w9 h9 => ⟨_, _, _, _, _, _, _, _, _, _, rfl, at_kept A h9, facts_nil _ _, fun w20 h20 => ⟨rfl, at_end (at_call A (Nat.le_refl _) h9) (Nat.le_refl _) h20⟩⟩
theorem c_num (n : Int) : Gives Try.prog 12 #[.int .i64 n] (.int .i64 n) := fun w => x_gemotlaw09_num n w _ ⟨rfl, below_refl _ _⟩
theorem c_nanI (a : Int) : Gives Try.prog 63 #[.int .i64 a] (.bool false) := fun w => x_cmp_isNaN_int a w _ ⟨by rw [ne_self], below_refl _ _⟩
theorem c_cmpI (a b : Int) : Gives Try.prog 50 #[.int .i64 a, .int .i64 b] (.int .i64 (cmp2 a b)) := by
  intro w
  refine x_cmp_Compare_int a b w _ ?_
  refine (c_nanI a).call fun w2 h2 => ⟨_, rfl, h2.size, ?_⟩
  refine (c_nanI b).call fun w5 h5 => ⟨_, rfl, h5.size, ?_⟩
  rw [if_neg (by decide), if_neg (by decide)]
  have hb := below_trans h2 (below_mono h5 h2.size)
  unfold cmp2
  by_cases h : a < b
  · rw [if_pos (by simpa using h), if_pos h]; exact ⟨rfl, hb⟩
  · rw [if_neg (by simpa using h), if_neg h]
    by_cases h' : a > b
    · rw [if_pos (by simpa using h'), if_pos h']; exact ⟨rfl, hb⟩
    · rw [if_neg (by simpa using h'), if_neg h']; exact ⟨rfl, hb⟩
end Go.Proofs
