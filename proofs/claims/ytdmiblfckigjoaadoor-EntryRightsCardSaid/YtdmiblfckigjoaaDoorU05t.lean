import Derived.Test.YtdmiblfckigjoaaDoorU05r
set_option linter.unusedVariables false
set_option linter.unusedSimpArgs false
set_option maxRecDepth 10000
namespace Go.Proofs
open Go X RowKit
/-! ### parts as text -/
structure PtIn (p : Pt) : Prop where
  g : 0 ≤ p.g ∧ p.g < 256
  k : 0 ≤ p.k ∧ p.k < 256
  n : -9223372036854775808 ≤ p.n ∧ p.n ≤ 9223372036854775807
  key : p.key.size ≤ 281474976710656
  val : p.val.size ≤ 281474976710656
abbrev bl (s : ByteArray) : List UInt8 := s.data.toList
def showL (p : Pt) : List UInt8 :=
  Lib.itoa p.g ++ [58] ++
  (if p.k = 0 then [82, 101, 97, 100, 40] ++ bl p.key ++ [41]
   else if p.k = 1 then [87, 114, 105, 116, 101, 40] ++ bl p.key ++ [61] ++ bl p.val ++ [41]
   else if p.k = 2 then [65, 100, 100, 40] ++ bl p.key ++ [43] ++ Lib.itoa p.n ++ [41]
   else if p.k = 3 then [84, 97, 107, 101, 40] ++ bl p.key ++ [45] ++ Lib.itoa p.n ++ [41]
   else if p.k = 4 then [69, 114, 97, 115, 101, 40] ++ bl p.key ++ [41] else [63])
theorem bl_app (a b : ByteArray) : (a ++ b).data.toList = a.data.toList ++ b.data.toList := by rw [ByteArray.data_append]; simp
theorem bl_ext {a b : ByteArray} (h : a.data.toList = b.data.toList) : a = b := ByteArray.ext (Array.toList_inj.1 h)
theorem size_mk (a : Array UInt8) : (ByteArray.mk a).size = a.size := rfl
theorem bl_toBA (l : List UInt8) : (toBA l).data.toList = l := by simp [toBA]
theorem c_Show (p : Pt) (hp : PtIn p) : GivesT 50 #[.agg p.row.toArray] (.string (toBA (showL p))) := by
  intro w hT
  refine x_Show _ _ _ _ _ w _ fun w1 L2 h1 g1 => ?_
  have A := at_start h1 g1
  have hg := hp.g
  rw [w_i64 (n := p.g) (by omega) (by omega)]
  have s1 := it_size p.g (by omega) (by omega)
  have s2 := it_size p.n hp.n.1 hp.n.2
  have k1 := hp.key
  have k2 := hp.val
  refine (c_Itoa p.g (by omega) (by omega) w1 (tab_bel hT A.bel)).call fun w4 b4 => ⟨_, rfl, at_kept A b4, by omega, ?_⟩
  have A4 := at_call A (Nat.le_refl _) b4
  refine (c_FormatInt p.n hp.n.1 hp.n.2 w4 (tab_bel hT A4.bel)).call fun w7 b7 => ⟨_, rfl, at_kept A4 b7, ?_⟩
  have A7 := at_call A4 (Nat.le_refl _) b7
  have fin : ∀ s : ByteArray, s.data.toList = showL p → (Ending.returned (.string s) = Ending.returned (.string (toBA (showL p))) ∧ Bel w.heap.size w w7) := fun s hs => ⟨by rw [bl_ext (hs.trans (bl_toBA _).symm)], A7.bel⟩
  by_cases h0 : p.k = 0
  · rw [if_pos (by simp [h0])]
    simp only [ByteArray.size_append, size_mk, List.size_toArray, List.length_cons, List.length_nil]
    refine ⟨by omega, by omega, by omega, fin _ ?_⟩
    simp [showL, h0, bl_app, bl_toBA]
  rw [if_neg (by simpa using h0)]
  by_cases h1 : p.k = 1
  · rw [if_pos (by simp [h1])]
    simp only [ByteArray.size_append, size_mk, List.size_toArray, List.length_cons, List.length_nil]
    refine ⟨by omega, by omega, by omega, by omega, by omega, fin _ ?_⟩
    simp [showL, h1, bl_app, bl_toBA]
  rw [if_neg (by simpa using h1)]
  by_cases h2 : p.k = 2
  · rw [if_pos (by simp [h2])]
    simp only [ByteArray.size_append, size_mk, List.size_toArray, List.length_cons, List.length_nil]
    refine ⟨by omega, by omega, by omega, by omega, by omega, fin _ ?_⟩
    simp [showL, h2, bl_app, bl_toBA]
  rw [if_neg (by simpa using h2)]
  by_cases h3 : p.k = 3
  · rw [if_pos (by simp [h3])]
    simp only [ByteArray.size_append, size_mk, List.size_toArray, List.length_cons, List.length_nil]
    refine ⟨by omega, by omega, by omega, by omega, by omega, fin _ ?_⟩
    simp [showL, h3, bl_app, bl_toBA]
  rw [if_neg (by simpa using h3)]
  by_cases h4 : p.k = 4
  · rw [if_pos (by simp [h4])]
    simp only [ByteArray.size_append, size_mk, List.size_toArray, List.length_cons, List.length_nil]
    refine ⟨by omega, by omega, by omega, fin _ ?_⟩
    simp [showL, h4, bl_app, bl_toBA]
  rw [if_neg (by simpa using h4)]
  simp only [ByteArray.size_append, size_mk, List.size_toArray, List.length_cons, List.length_nil]
  refine ⟨by omega, fin _ ?_⟩
  simp [showL, h0, h1, h2, h3, h4, bl_app, bl_toBA]
theorem c_rShow (p : Pt) (hp : PtIn p) : Gives Tryd.prog 52 #[.agg p.row.toArray] (.string (toBA (showL p))) := by
  intro w
  refine x_rShow _ _ _ _ _ w _ fun w1 L2 h1 g1 => ?_
  have A := at_start h1 g1
  have hg := hp.g
  rw [w_i64 (n := p.g) (by omega) (by omega)]
  have s1 := it_size p.g (by omega) (by omega)
  have s2 := it_size p.n hp.n.1 hp.n.2
  have k1 := hp.key
  have k2 := hp.val
  refine (c_Digits _ p.g (Nat.le_refl _) (by omega) (by omega)).call fun w4 b4 => ⟨_, rfl, at_kept A b4, by omega, ?_⟩
  have A4 := at_call A (Nat.le_refl _) b4
  have fin : ∀ {w7 : World} (b7 : Bel w.heap.size w w7) (s : ByteArray), s.data.toList = showL p → (Ending.returned (.string s) = Ending.returned (.string (toBA (showL p))) ∧ Bel w.heap.size w w7) := fun b7 s hs => ⟨by rw [bl_ext (hs.trans (bl_toBA _).symm)], b7⟩
  by_cases h0 : p.k = 0
  · rw [if_pos (by simp [h0])]
    simp only [ByteArray.size_append, size_mk, List.size_toArray, List.length_cons, List.length_nil]
    refine ⟨by omega, by omega, by omega, fin A4.bel _ ?_⟩
    simp [showL, h0, bl_app, bl_toBA]
  rw [if_neg (by simpa using h0)]
  by_cases h1 : p.k = 1
  · rw [if_pos (by simp [h1])]
    simp only [ByteArray.size_append, size_mk, List.size_toArray, List.length_cons, List.length_nil]
    refine ⟨by omega, by omega, by omega, by omega, by omega, fin A4.bel _ ?_⟩
    simp [showL, h1, bl_app, bl_toBA]
  rw [if_neg (by simpa using h1)]
  by_cases h2 : p.k = 2
  · rw [if_pos (by simp [h2])]
    simp only [ByteArray.size_append, size_mk, List.size_toArray, List.length_cons, List.length_nil]
    refine ⟨[], facts_nil _ _, by omega, by omega, by omega, fun w13 L14 h13 g13 => ?_⟩
    have A13 := at_hid A4 (Nat.le_refl _) h13 g13
    refine (c_Digits _ p.n (Nat.le_refl _) hp.n.1 hp.n.2).call fun w16 b16 => ⟨_, rfl, at_kept A13 b16, facts_nil _ _, ?_⟩
    refine ⟨by omega, by omega, fin (at_call A13 (Nat.le_refl _) b16).bel _ ?_⟩
    simp [showL, h2, bl_app, bl_toBA]
  rw [if_neg (by simpa using h2)]
  by_cases h3 : p.k = 3
  · rw [if_pos (by simp [h3])]
    simp only [ByteArray.size_append, size_mk, List.size_toArray, List.length_cons, List.length_nil]
    refine ⟨[], facts_nil _ _, by omega, by omega, by omega, fun w13 L14 h13 g13 => ?_⟩
    have A13 := at_hid A4 (Nat.le_refl _) h13 g13
    refine (c_Digits _ p.n (Nat.le_refl _) hp.n.1 hp.n.2).call fun w16 b16 => ⟨_, rfl, at_kept A13 b16, facts_nil _ _, ?_⟩
    refine ⟨by omega, by omega, fin (at_call A13 (Nat.le_refl _) b16).bel _ ?_⟩
    simp [showL, h3, bl_app, bl_toBA]
  rw [if_neg (by simpa using h3)]
  by_cases h4 : p.k = 4
  · rw [if_pos (by simp [h4])]
    simp only [ByteArray.size_append, size_mk, List.size_toArray, List.length_cons, List.length_nil]
    refine ⟨by omega, by omega, by omega, fin A4.bel _ ?_⟩
    simp [showL, h4, bl_app, bl_toBA]
  rw [if_neg (by simpa using h4)]
  simp only [ByteArray.size_append, size_mk, List.size_toArray, List.length_cons, List.length_nil]
  refine ⟨by omega, fin A4.bel _ ?_⟩
  simp [showL, h0, h1, h2, h3, h4, bl_app, bl_toBA]
/-! ### results -/
structure Rs where (c : Int) (v : ByteArray)
@[reducible] def Rs.row (r : Rs) : List Value := [.int .u8 r.c, .string r.v]
def Rs.right (r : Rs) : Bool := decide (r.c ≤ 5) && decide (((r.v.size : Nat) : Int) ≤ 1000)
theorem c_ResRight (r : Rs) : Gives Tryd.prog 27 #[.agg r.row.toArray] (.bool r.right) := fun w => x_ResRight _ _ w _ fun w1 h1 => ⟨rfl, hid_below h1 (by simp) (Nat.le_refl _)⟩
theorem c_rRightRes (r : Rs) : Gives Tryd.prog 35 #[.agg r.row.toArray] (.bool r.right) := fun w => x_rRightRes _ _ w _ fun w1 h1 => ⟨rfl, hid_below h1 (by simp) (Nat.le_refl _)⟩
theorem itoa_small (u : Nat) (h : u < 10) : Lib.itoa (u : Int) = [UInt8.ofNat (48 + u)] := by rw [Lib.itoa, if_neg (by omega)]; exact Lib.decDigits_one h
end Go.Proofs
