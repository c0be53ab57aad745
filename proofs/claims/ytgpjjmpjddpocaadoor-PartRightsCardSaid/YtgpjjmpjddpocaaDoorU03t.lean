import Derived.Test.YtgpjjmpjddpocaaDoorU03r
set_option linter.unusedVariables false
set_option linter.unusedSimpArgs false
set_option maxRecDepth 10000
namespace Go.Proofs
open Go X RowKit
/-! ### parts as text -/
structure PtIn (p : Pt) : Prop where
  g : 0 ≤ p.g ∧ p.g < 256
  k : 0 ≤ p.k ∧ p.k < 256
  n : -9223372036854775808 ≤ p.n ∧ p.n ≤ 9223372036854775807
  key : p.key.size ≤ 281474976710656
  val : p.val.size ≤ 281474976710656
abbrev bl (s : ByteArray) : List UInt8 := s.data.toList
def showL (p : Pt) : List UInt8 :=
  Lib.itoa p.g ++ [58] ++
  (if p.k = 0 then [82, 101, 97, 100, 40] ++ bl p.key ++ [41]
   else if p.k = 1 then [87, 114, 105, 116, 101, 40] ++ bl p.key ++ [61] ++ bl p.val ++ [41]
   else if p.k = 2 then [65, 100, 100, 40] ++ bl p.key ++ [43] ++ Lib.itoa p.n ++ [41]
   else if p.k = 3 then [84, 97, 107, 101, 40] ++ bl p.key ++ [45] ++ Lib.itoa p.n ++ [41]
   else if p.k = 4 then [69, 114, 97, 115, 101, 40] ++ bl p.key ++ [41] else [63])
theorem bl_app (a b : ByteArray) : (a ++ b).data.toList = a.data.toList ++ b.data.toList := by rw [ByteArray.data_append]; simp
theorem bl_ext {a b : ByteArray} (h : a.data.toList = b.data.toList) : a = b := ByteArray.ext (Array.toList_inj.1 h)
theorem size_mk (a : Array UInt8) : (ByteArray.mk a).size = a.size := rfl
theorem bl_toBA (l : List UInt8) : (toBA l).data.toList = l := by simp [toBA]
theorem c_Show (p : Pt) (hp : PtIn p) : GivesT 10 #[.agg p.row.toArray] (.string (toBA (showL p))) := by
  intro w hT
  refine x_Show _ _ _ _ _ w _ fun w1 L2 h1 g1 => ?_
  have A := at_start h1 g1
  have hg := hp.g
  rw [w_i64 (n := p.g) (by omega) (by omega)]
  have s1 := it_size p.g (by omega) (by omega)
  have s2 := it_size p.n hp.n.1 hp.n.2
  have k1 := hp.key
  have k2 := hp.val
  refine (c_Itoa p.g (by omega) (by omega) w1 (tab_bel hT A.bel)).call fun w4 b4 => ⟨_, rfl, at_kept A b4, by omega, ?_⟩
  have A4 := at_call A (Nat.le_refl _) b4
  refine (c_FormatInt p.n hp.n.1 hp.n.2 w4 (tab_bel hT A4.bel)).call fun w7 b7 => ⟨_, rfl, at_kept A4 b7, ?_⟩
  have A7 := at_call A4 (Nat.le_refl _) b7
  have fin : ∀ s : ByteArray, s.data.toList = showL p → (Ending.returned (.string s) = Ending.returned (.string (toBA (showL p))) ∧ Bel w.heap.size w w7) := fun s hs => ⟨by rw [bl_ext (hs.trans (bl_toBA _).symm)], A7.bel⟩
  by_cases h0 : p.k = 0
  · rw [if_pos (by simp [h0])]
    simp only [ByteArray.size_append, size_mk, List.size_toArray, List.length_cons, List.length_nil]
    refine ⟨by omega, by omega, by omega, fin _ ?_⟩
    simp [showL, h0, bl_app, bl_toBA]
  rw [if_neg (by simpa using h0)]
  by_cases h1 : p.k = 1
  · rw [if_pos (by simp [h1])]
    simp only [ByteArray.size_append, size_mk, List.size_toArray, List.length_cons, List.length_nil]
    refine ⟨by omega, by omega, by omega, by omega, by omega, fin _ ?_⟩
    simp [showL, h1, bl_app, bl_toBA]
  rw [if_neg (by simpa using h1)]
  by_cases h2 : p.k = 2
  · rw [if_pos (by simp [h2])]
    simp only [ByteArray.size_append, size_mk, List.size_toArray, List.length_cons, List.length_nil]
    refine ⟨by omega, by omega, by omega, by omega, by omega, fin _ ?_⟩
    simp [showL, h2, bl_app, bl_toBA]
  rw [if_neg (by simpa using h2)]
  by_cases h3 : p.k = 3
  · rw [if_pos (by simp [h3])]
    simp only [ByteArray.size_append, size_mk, List.size_toArray, List.length_cons, List.length_nil]
    refine ⟨by omega, by omega, by omega, by omega, by omega, fin _ ?_⟩
    simp [showL, h3, bl_app, bl_toBA]
  rw [if_neg (by simpa using h3)]
  by_cases h4 : p.k = 4
  · rw [if_pos (by simp [h4])]
    simp only [ByteArray.size_append, size_mk, List.size_toArray, List.length_cons, List.length_nil]
    refine ⟨by omega, by omega, by omega, fin _ ?_⟩
    simp [showL, h4, bl_app, bl_toBA]
  rw [if_neg (by simpa using h4)]
  simp only [ByteArray.size_append, size_mk, List.size_toArray, List.length_cons, List.length_nil]
  refine ⟨by omega, fin _ ?_⟩
  simp [showL, h0, h1, h2, h3, h4, bl_app, bl_toBA]
theorem c_rShow (p : Pt) (hp : PtIn p) : Gives Tryd.prog 19 #[.agg p.row.toArray] (.string (toBA (showL p))) := by
  intro w
  refine x_rShow _ _ _ _ _ w _ fun w1 L2 h1 g1 => ?_
  have A := at_start h1 g1
  have hg := hp.g
  rw [w_i64 (n := p.g) (by omega) (by omega)]
  have s1 := it_size p.g (by omega) (by omega)
  have s2 := it_size p.n hp.n.1 hp.n.2
  have k1 := hp.key
  have k2 := hp.val
  refine (c_Digits _ p.g (Nat.le_refl _) (by omega) (by omega)).call fun w4 b4 => ⟨_, rfl, at_kept A b4, by omega, ?_⟩
  have A4 := at_call A (Nat.le_refl _) b4
  have fin : ∀ {w7 : World} (b7 : Bel w.heap.size w w7) (s : ByteArray), s.data.toList = showL p → (Ending.returned (.string s) = Ending.returned (.string (toBA (showL p))) ∧ Bel w.heap.size w w7) := fun b7 s hs => ⟨by rw [bl_ext (hs.trans (bl_toBA _).symm)], b7⟩
  by_cases h0 : p.k = 0
  · rw [if_pos (by simp [h0])]
    simp only [ByteArray.size_append, size_mk, List.size_toArray, List.length_cons, List.length_nil]
    refine ⟨by omega, by omega, by omega, fin A4.bel _ ?_⟩
    simp [showL, h0, bl_app, bl_toBA]
  rw [if_neg (by simpa using h0)]
  by_cases h1 : p.k = 1
  · rw [if_pos (by simp [h1])]
    simp only [ByteArray.size_append, size_mk, List.size_toArray, List.length_cons, List.length_nil]
    refine ⟨by omega, by omega, by omega, by omega, by omega, fin A4.bel _ ?_⟩
    simp [showL, h1, bl_app, bl_toBA]
  rw [if_neg (by simpa using h1)]
  by_cases h2 : p.k = 2
  · rw [if_pos (by simp [h2])]
    simp only [ByteArray.size_append, size_mk, List.size_toArray, List.length_cons, List.length_nil]
    refine ⟨[], facts_nil _ _, by omega, by omega, by omega, fun w13 L14 h13 g13 => ?_⟩
    have A13 := at_hid A4 (Nat.le_refl _) h13 g13
    refine (c_Digits _ p.n (Nat.le_refl _) hp.n.1 hp.n.2).call fun w16 b16 => ⟨_, rfl, at_kept A13 b16, facts_nil _ _, ?_⟩
    refine ⟨by omega, by omega, fin (at_call A13 (Nat.le_refl _) b16).bel _ ?_⟩
    simp [showL, h2, bl_app, bl_toBA]
  rw [if_neg (by simpa using h2)]
  by_cases h3 : p.k = 3
  · rw [if_pos (by simp [h3])]
    simp only [ByteArray.size_append, size_mk, List.size_toArray, List.length_cons, List.length_nil]
    refine ⟨[], facts_nil _ _, by omega, by omega, by omega, fun w13 L14 h13 g13 => ?_⟩
    have A13 := at_hid A4 (Nat.le_refl _) h13 g13
    refine (c_Digits _ p.n (Nat.le_refl _) hp.n.1 hp.n.2).call fun w16 b16 => ⟨_, rfl, at_kept A13 b16, facts_nil _ _, ?_⟩
    refine ⟨by omega, by omega, fin (at_call A13 (Nat.le_refl _) b16).bel _ ?_⟩
    simp [showL, h3, bl_app, bl_toBA]
  rw [if_neg (by simpa using h3)]
  by_cases h4 : p.k = 4
  · rw [if_pos (by simp [h4])]
    simp only [ByteArray.size_append, size_mk, List.size_toArray, List.length_cons, List.length_nil]
    refine ⟨by omega, by omega, by omega, fin A4.bel _ ?_⟩
    simp [showL, h4, bl_app, bl_toBA]
  rw [if_neg (by simpa using h4)]
  simp only [ByteArray.size_append, size_mk, List.size_toArray, List.length_cons, List.length_nil]
  refine ⟨by omega, fin A4.bel _ ?_⟩
  simp [showL, h0, h1, h2, h3, h4, bl_app, bl_toBA]
/-! ### results -/
structure Rs where (c : Int) (v : ByteArray)
@[reducible] def Rs.row (r : Rs) : List Value := [.int .u8 r.c, .string r.v]
def Rs.right (r : Rs) : Bool := decide (r.c ≤ 5) && decide (((r.v.size : Nat) : Int) ≤ 1000)
theorem c_ResRight (r : Rs) : Gives Tryd.prog 17 #[.agg r.row.toArray] (.bool r.right) := fun w => x_ResRight _ _ w _ fun w1 h1 => ⟨rfl, hid_below h1 (by simp) (Nat.le_refl _)⟩
theorem c_rRightRes (r : Rs) : Gives Tryd.prog 18 #[.agg r.row.toArray] (.bool r.right) := fun w => x_rRightRes _ _ w _ fun w1 h1 => ⟨rfl, hid_below h1 (by simp) (Nat.le_refl _)⟩
def joinR (a b : Rs) : Rs := if a.c = 0 then (if b.c = 0 then ⟨0, toBA (bl a.v ++ [44] ++ bl b.v)⟩ else ⟨4, b.v⟩) else a
theorem c_Join (a b : Rs) (ha : a.v.size ≤ 281474976710656) (hb : b.v.size ≤ 281474976710656) : Gives Tryd.prog 21 #[.agg a.row.toArray, .agg b.row.toArray] (.agg (joinR a b).row.toArray) := by
  intro w
  refine x_Join _ _ _ _ w _ ?_
  by_cases h0 : a.c = 0
  · rw [if_neg (by simp [h0])]
    by_cases h1 : b.c = 0
    · rw [if_neg (by simp [h1])]
      simp only [ByteArray.size_append, size_mk, List.size_toArray, List.length_cons, List.length_nil]
      refine ⟨by omega, by omega, fun w1 h1' => ⟨?_, hid_below h1' (by simp) (Nat.le_refl _)⟩⟩
      have e : joinR a b = ⟨0, toBA (bl a.v ++ [44] ++ bl b.v)⟩ := by rw [joinR, if_pos h0, if_pos h1]
      have e2 : a.v ++ ByteArray.mk #[OfNat.ofNat 44] ++ b.v = toBA (bl a.v ++ [44] ++ bl b.v) := bl_ext (by rw [bl_toBA, bl_app, bl_app])
      rw [e, e2]
    · rw [if_pos (by simp [h1])]
      intro w2 h2
      have e : joinR a b = ⟨4, b.v⟩ := by rw [joinR, if_pos h0, if_neg h1]
      exact ⟨by rw [e], hid_below h2 (by simp) (Nat.le_refl _)⟩
  · rw [if_pos (by simp [h0])]
    intro w3 h3
    have e : joinR a b = a := by rw [joinR, if_neg h0]
    exact ⟨by rw [e], hid_below h3 (by simp) (Nat.le_refl _)⟩
theorem c_rJoin (a b : Rs) (ha : a.v.size ≤ 281474976710656) (hb : b.v.size ≤ 281474976710656) : Gives Tryd.prog 22 #[.agg a.row.toArray, .agg b.row.toArray] (.agg (joinR a b).row.toArray) := by
  intro w
  refine x_rJoin _ _ _ _ w _ ?_
  by_cases h0 : a.c = 0
  · rw [if_neg (by simp [h0])]
    by_cases h1 : b.c = 0
    · rw [if_neg (by simp [h1])]
      simp only [ByteArray.size_append, size_mk, List.size_toArray, List.length_cons, List.length_nil]
      refine ⟨by omega, by omega, fun w1 h1' => ⟨?_, hid_below h1' (by simp) (Nat.le_refl _)⟩⟩
      have e : joinR a b = ⟨0, toBA (bl a.v ++ [44] ++ bl b.v)⟩ := by rw [joinR, if_pos h0, if_pos h1]
      have e2 : a.v ++ ByteArray.mk #[OfNat.ofNat 44] ++ b.v = toBA (bl a.v ++ [44] ++ bl b.v) := bl_ext (by rw [bl_toBA, bl_app, bl_app])
      rw [e, e2]
    · rw [if_pos (by simp [h1])]
      intro w2 h2
      have e : joinR a b = ⟨4, b.v⟩ := by rw [joinR, if_pos h0, if_neg h1]
      exact ⟨by rw [e], hid_below h2 (by simp) (Nat.le_refl _)⟩
  · rw [if_pos (by simp [h0])]
    intro w3 h3
    have e : joinR a b = a := by rw [joinR, if_neg h0]
    exact ⟨by rw [e], hid_below h3 (by simp) (Nat.le_refl _)⟩
/-! ### what must come -/
def kPt : Pt := ⟨1, 3, ByteArray.mk #[97], ByteArray.mk #[], 5⟩
theorem kIn : PtIn kPt := by constructor <;> simp [kPt, ByteArray.size]
theorem itoa_small (u : Nat) (h : u < 10) : Lib.itoa (u : Int) = [UInt8.ofNat (48 + u)] := by rw [Lib.itoa, if_neg (by omega)]; exact Lib.decDigits_one h
theorem k_show : showL kPt = [49, 58, 84, 97, 107, 101, 40, 97, 45, 53, 41] := by
  have h1 : Lib.itoa 1 = [49] := itoa_small 1 (by omega)
  have h5 : Lib.itoa 5 = [53] := itoa_small 5 (by omega)
  unfold showL
  show Lib.itoa 1 ++ [58] ++ _ = _
  rw [h1]
  simp [kPt, h5, bl]
theorem kR : kPt.right = true := by decide +kernel
theorem kRL : rightL [kPt] = true := by decide +kernel
theorem c_knows {m0 : Mem} {w0 w : World} {L : List Nat} {m : Mem} (C : Ctx [] m0 w0 w L m []) (hT : Tab w0) {R : Ending → World → Prop} (k : ∀ w' m', Kept L w w' → m.le m' → Ctx [] m0 w0 w' L m' [] → R (.returned (.bool true)) w') : CallX Tryd.prog 9 #[] w R := by
  have main : ∀ w : World, Tab w → Calls Tryd.prog 9 #[] w fun e w' => e = .returned (.bool true) ∧ Bel w.heap.size w w' := by
    intro w hT
    refine x_knows w _ fun w1 L2 h1 g1 => ?_
    have C := (lawStart w).hidL h1 g1
    refine ctx_givesT C hT (c_Show kPt kIn) fun w4 k4 C => ⟨_, rfl, k4, ?_⟩
    rw [k_show, if_pos (by
      have : ((toBA [49, 58, 84, 97, 107, 101, 40, 97, 45, 53, 41]).toList == (ByteArray.mk #[49, 58, 84, 97, 107, 101, 40, 97, 45, 53, 41]).toList) = true := beq_self_eq_true (toBA [49, 58, 84, 97, 107, 101, 40, 97, 45, 53, 41]).toList
      exact beq_iff_eq.2 this)]
    refine C.gives (c_PRight kPt) fun w7 k7 C => ⟨_, rfl, k7, ?_⟩
    rw [kR, if_pos (by rfl)]
    have hA := C.newShare kPt.row 24 (0, 0)
    refine (c_partRight (some ⟨w7.heap.size, 0, none⟩, 1) [kPt] (by decide)).call (As := []) hA.1 (by
      have : MSrc ((memOf w).plus w7.heap.size kPt.row) 5 (.slice (some ⟨w7.heap.size, 0, none⟩) 1 1) 1 kPt.row := MSrc.mk rfl (fun a ha => by injection ha with ha; subst ha; exact Mem.plus_cells _ _ _ _ _ fun j v hj => by rw [Nat.zero_add]; exact hj) (fun h => by cases h)
      simpa using this) fun _ m2 w10 hk hm2 _ C => ⟨_, rfl, hk, ?_⟩
    rw [kRL, if_pos (by rfl)]
    refine C.gives (c_Join ⟨0, ByteArray.mk #[120]⟩ ⟨0, ByteArray.mk #[121]⟩ (by decide) (by decide)) fun w13 k13 C => ⟨_, _, rfl, k13, ?_, ctx_bel C⟩
    have : ((joinR ⟨0, ByteArray.mk #[120]⟩ ⟨0, ByteArray.mk #[121]⟩).v.toList == (ByteArray.mk #[OfNat.ofNat 120, OfNat.ofNat 44, OfNat.ofNat 121]).toList) = true := by
      have e : (joinR ⟨0, ByteArray.mk #[120]⟩ ⟨0, ByteArray.mk #[121]⟩).v = toBA [120, 44, 121] := rfl
      rw [e]; exact beq_self_eq_true (toBA [120, 44, 121]).toList
    rw [this]; rfl
  exact ⟨(main w (tab_bel hT (ctx_bel C))).mono fun e w' ⟨he, hb⟩ => by subst he; exact k w' m (C.kept hb) (Mem.le_refl _) (C.below hb)⟩
end Go.Proofs
