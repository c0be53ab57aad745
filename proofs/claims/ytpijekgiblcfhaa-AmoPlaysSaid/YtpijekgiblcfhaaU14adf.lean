import Derived.Test.YtpijekgiblcfhaaU14g
import Derived.Test.YtpijekgiblcfhaaV14m2
set_option linter.unusedVariables false
set_option linter.unusedSimpArgs false
namespace Go.Proofs
open Go X RowKit
theorem ne_self (a : Int) : (a != a) = false := by simp
theorem c_nan8 (a : Int) : Gives Try.prog 84 #[.int .u8 a] (.bool false) := fun w => x_cmp_isNaN_uint8 a w _ ⟨by rw [ne_self], below_refl _ _⟩
theorem c_nan16 (a : Int) : Gives Try.prog 92 #[.int .u16 a] (.bool false) := fun w => x_cmp_isNaN_uint16 a w _ ⟨by rw [ne_self], below_refl _ _⟩
theorem c_nan32 (a : Int) : Gives Try.prog 83 #[.int .u32 a] (.bool false) := fun w => x_cmp_isNaN_uint32 a w _ ⟨by rw [ne_self], below_refl _ _⟩
theorem c_cmp8 (a b : Int) : Gives Try.prog 68 #[.int .u8 a, .int .u8 b] (.int .i64 (cmp2 a b)) := by
  intro w
  refine x_cmp_Compare_uint8 a b w _ ?_
  refine (c_nan8 a).call fun w2 h2 => ⟨_, rfl, h2.size, ?_⟩
  refine (c_nan8 b).call fun w5 h5 => ⟨_, rfl, h5.size, ?_⟩
  have hb := below_trans h2 (below_mono h5 h2.size)
  unfold cmp2
  by_cases h1 : a < b
  · simp only [h1, decide_true, if_true, Bool.false_eq_true, if_false]; exact ⟨trivial, hb⟩
  · by_cases h3 : a > b
    · simp only [h1, h3, decide_true, decide_false, if_true, if_false, Bool.false_eq_true]; exact ⟨trivial, hb⟩
    · simp only [h1, h3, decide_true, decide_false, if_true, if_false, Bool.false_eq_true]; exact ⟨trivial, hb⟩
theorem c_cmp16 (a b : Int) : Gives Try.prog 82 #[.int .u16 a, .int .u16 b] (.int .i64 (cmp2 a b)) := by
  intro w
  refine x_cmp_Compare_uint16 a b w _ ?_
  refine (c_nan16 a).call fun w2 h2 => ⟨_, rfl, h2.size, ?_⟩
  refine (c_nan16 b).call fun w5 h5 => ⟨_, rfl, h5.size, ?_⟩
  have hb := below_trans h2 (below_mono h5 h2.size)
  unfold cmp2
  by_cases h1 : a < b
  · simp only [h1, decide_true, if_true, Bool.false_eq_true, if_false]; exact ⟨trivial, hb⟩
  · by_cases h3 : a > b
    · simp only [h1, h3, decide_true, decide_false, if_true, if_false, Bool.false_eq_true]; exact ⟨trivial, hb⟩
    · simp only [h1, h3, decide_true, decide_false, if_true, if_false, Bool.false_eq_true]; exact ⟨trivial, hb⟩
theorem c_cmp32 (a b : Int) : Gives Try.prog 65 #[.int .u32 a, .int .u32 b] (.int .i64 (cmp2 a b)) := by
  intro w
  refine x_cmp_Compare_uint32 a b w _ ?_
  refine (c_nan32 a).call fun w2 h2 => ⟨_, rfl, h2.size, ?_⟩
  refine (c_nan32 b).call fun w5 h5 => ⟨_, rfl, h5.size, ?_⟩
  have hb := below_trans h2 (below_mono h5 h2.size)
  unfold cmp2
  by_cases h1 : a < b
  · simp only [h1, decide_true, if_true, Bool.false_eq_true, if_false]; exact ⟨trivial, hb⟩
  · by_cases h3 : a > b
    · simp only [h1, h3, decide_true, decide_false, if_true, if_false, Bool.false_eq_true]; exact ⟨trivial, hb⟩
    · simp only [h1, h3, decide_true, decide_false, if_true, if_false, Bool.false_eq_true]; exact ⟨trivial, hb⟩
theorem orL_drop (l : List Int) (k : Nat) (hk : k < l.length) : orL (l.drop k) = if l[k] ≠ 0 then l[k] else orL (l.drop (k + 1)) := by
  rw [List.drop_eq_getElem_cons hk]; rfl
theorem c_Or (p : Addr) (l : List Int) (w : World) (cap : Nat) (hl : l.length < 1000000) (h : ∀ (j : Nat) (hj : j < l.length), w.cell? (p.add j) = some (.int .i64 l[j])) :
    GivesAt Try.prog 63 #[.slice (some p) l.length cap] w (.int .i64 (orL l)) := by
  refine x_cmp_Or_int (some p) l.length cap w _ ⟨fun n w' _ => ∃ k : Nat, n = k ∧ k ≤ l.length ∧ w' = w ∧ orL l = orL (l.drop k), fun n _ => ((l.length : Int) - n).toNat, ⟨0, rfl, by omega, rfl, rfl⟩, ?_⟩
  rintro n w4 L5 _ ⟨k, rfl, hk, rfl, ho⟩
  by_cases hlt : k < l.length
  · rw [if_pos (by simpa using hlt)]
    refine ⟨by omega, by omega, ?_⟩
    rw [onSome_some]
    refine ⟨l[k], ?_, ?_⟩
    · have := h k hlt
      simpa using this
    · rw [orL_drop l k hlt] at ho
      by_cases hz : l[k] = 0
      · have e1 : (l[k] != 0) = false := by simp [hz]
        rw [e1, if_neg (by simp)]
        have e2 : IntKind.wrap .i64 ((k : Int) + 1) = ((k + 1 : Nat) : Int) := by rw [w_i64 (by omega) (by omega)]; omega
        rw [e2]
        refine ⟨⟨k + 1, rfl, hlt, rfl, by rw [ho, if_neg (by simp [hz])]⟩, ?_⟩
        show ((l.length : Int) - ((k + 1 : Nat) : Int)).toNat + 1 ≤ ((l.length : Int) - (k : Int)).toNat
        omega
      · have e1 : (l[k] != 0) = true := by simp [hz]
        rw [e1, if_pos rfl]
        exact ⟨by rw [ho, if_pos hz], below_refl _ _⟩
  · rw [if_neg (by simpa using hlt)]
    have : l.drop k = [] := List.drop_eq_nil_of_le (by omega)
    exact ⟨by rw [ho, this]; rfl, below_refl _ _⟩
theorem new_cell (w : World) (cs : Array Value) (ty : TypeId) (j : Nat) : (w.alloc (.cells cs ty)).cell? (Addr.add ⟨w.heap.size, 0, none⟩ j) = cs[j]? := by
  have hh : (w.alloc (.cells cs ty)).heap = w.heap.push (.cells cs ty) := rfl
  have ha : (Addr.add ⟨w.heap.size, 0, none⟩ j) = ⟨w.heap.size, j, none⟩ := by
    simp only [Addr.add]; split
    · rename_i h; rw [h]
    · simp
  rw [ha]
  simp only [World.cell?, hh, Array.getElem?_push_size]
  rfl
theorem alloc_below (n : Nat) (w : World) (o : Obj) (hn : n ≤ w.heap.size) : Bel n w (w.alloc o) :=
  have hh : (w.alloc o).heap = w.heap.push o := rfl
  ⟨rfl, rfl, rfl, by rw [hh, Array.size_push]; omega, Nat.le_refl _, fun k hk => by rw [hh, Array.getElem?_push, if_neg (by omega)]⟩
/-- Or of a new slice -/
theorem c_OrNew (w : World) (l : List Int) (ty : TypeId) (hl : l.length < 1000000) : GivesAt Try.prog 63 #[.slice (some ⟨w.heap.size, 0, none⟩) l.length l.length] (w.alloc (.cells (l.map (.int .i64)).toArray ty)) (.int .i64 (orL l)) :=
  c_Or _ l _ _ hl fun j hj => by rw [new_cell]; simp [hj]
theorem at_alloc {n : Nat} {w wk : World} {L : List Nat} (a : At n w wk L) (hw : n ≤ w.heap.size) (o : Obj) : At n w (wk.alloc o) L :=
  at_call a hw (alloc_below _ _ _ (Nat.le_refl _))
theorem alloc_kept {n : Nat} {w wk : World} {L : List Nat} (a : At n w wk L) (o : Obj) : Kept L wk (wk.alloc o) := at_kept a (alloc_below _ _ _ (Nat.le_refl _))
theorem c_CompareProcs (a0 a1 b0 b1 : Int) : Gives Try.prog 64 #[PV a0 a1, PV b0 b1] (.int .i64 (orL [cmp2 a0 b0, cmp2 a1 b1])) := by
  intro w
  refine x_ident_CompareProcs a0 a1 b0 b1 w _ ⟨[], facts_nil _ _, fun w2 L h1 h2 => ?_⟩
  have A := at_start h1 h2
  refine (c_cmp8 a0 b0).call fun w5 h5 => ⟨_, rfl, at_kept A h5, facts_nil _ _, ?_⟩
  replace A := at_call A (Nat.le_refl _) h5
  refine (c_cmp16 a1 b1).call fun w8 h8 => ⟨_, rfl, at_kept A h8, facts_nil _ _, facts_nil _ _, ?_⟩
  replace A := at_alloc (at_call A (Nat.le_refl _) h8) (Nat.le_refl _)
  refine (c_OrNew w8 [cmp2 a0 b0, cmp2 a1 b1] 3 (by simp)).call fun w11 h11 => ⟨_, rfl, at_kept (A _) h11, facts_nil _ _, rfl, ?_⟩
  exact (at_call (A _) (Nat.le_refl _) h11).bel
@[reducible] def SV2 (g i : Int) : Value := .agg #[.int .u8 g, .int .u8 i]
theorem c_compareSteps (a0 a1 b0 b1 : Int) : Gives Try.prog 67 #[SV2 a0 a1, SV2 b0 b1] (.int .i64 (orL [cmp2 a0 b0, cmp2 a1 b1])) := by
  intro w
  refine x_ident_compareSteps a0 a1 b0 b1 w _ ⟨[], facts_nil _ _, fun w2 L h1 h2 => ?_⟩
  have A := at_start h1 h2
  refine (c_cmp8 a0 b0).call fun w5 h5 => ⟨_, rfl, at_kept A h5, facts_nil _ _, ?_⟩
  replace A := at_call A (Nat.le_refl _) h5
  refine (c_cmp8 a1 b1).call fun w8 h8 => ⟨_, rfl, at_kept A h8, facts_nil _ _, facts_nil _ _, ?_⟩
  replace A := at_alloc (at_call A (Nat.le_refl _) h8) (Nat.le_refl _)
  refine (c_OrNew w8 [cmp2 a0 b0, cmp2 a1 b1] 3 (by simp)).call fun w11 h11 => ⟨_, rfl, at_kept (A _) h11, facts_nil _ _, rfl, ?_⟩
  exact (at_call (A _) (Nat.le_refl _) h11).bel
end Go.Proofs
namespace Go.Proofs
open Go X RowKit
def I.path (x : I) : List Value := [.int .u8 x.g0, .int .u8 x.i0, .int .u8 x.g1, .int .u8 x.i1, .int .u8 x.g2, .int .u8 x.i2]
theorem cells_new (w : World) (vs : List Value) (ty : TypeId) : Cells (w.alloc (.cells vs.toArray ty)) ⟨w.heap.size, 0, none⟩ vs := fun j v hj => by
  rw [new_cell]; simpa using hj
theorem cells_below {n : Nat} {w w' : World} (h : Bel n w w') {a : Addr} {vs : List Value} (ha : a.block < n) (hc : Cells w a vs) : Cells w' a vs := fun j v hj => by
  rw [below_cell h (by rw [addr_block]; exact ha)]; exact hc j v hj
theorem there_new (w : World) (vs : List Value) (ty : TypeId) (n : Nat) (hn : n ≤ vs.length) : World.there (w.alloc (.cells vs.toArray ty)) w.heap.size 0 n := fun j hj => by
  have hh : (w.alloc (.cells vs.toArray ty)).heap = w.heap.push (.cells vs.toArray ty) := rfl
  constructor
  · simp only [World.cell?, hh, Array.getElem?_push_size]
    simp; omega
  · simp only [World.frozen?, hh, Array.getElem?_push_size]
    simp
theorem bel_setCells {B b : Nat} {w w' : World} (h : B ≤ b) (hn : B ≤ w'.heap.size) (vs : List Value) (o : Nat) (hb : Bel B w w') : Bel B w (w'.setCells b o vs) :=
  below_trans hb (hid_below (setCells_hid w' b o vs) (fun i hi => by simp only [List.mem_singleton] at hi; omega) hn)
theorem c_steps (x : I) (hx : x.In) (w : World) : Calls Try.prog 62 #[x.V] w fun e w' => ∃ b, e = .returned (.slice (some ⟨b, 0, none⟩) x.k 3) ∧ w.heap.size ≤ b ∧ b < w'.heap.size ∧ Bel w.heap.size w w' ∧ Cells w' ⟨b, 0, none⟩ x.path := by
  refine x_ident_ID_steps _ _ _ _ _ _ _ _ _ _ w _ fun w1 L h1 h2 => ?_
  have A := at_start h1 h2
  have hd := hx.d
  have ht := there_new w1 [.int .u8 0, .int .u8 0, .int .u8 0, .int .u8 0, .int .u8 0, .int .u8 0] 52 6 (by simp)
  refine ⟨rfl, ht, fun hm => by have := (A.loc _ hm).2; omega, ?_, ?_, w1.heap.size, ?_, A.bel.size, ?_, ?_, ?_⟩
  · rw [w_i64 (by omega) (by omega)]; split <;> omega
  · rw [w_i64 (by omega) (by omega)]; split <;> omega
  · rw [w_i64 (by omega) (by omega)]; rfl
  · have hh : (w1.alloc (.cells #[.int .u8 0, .int .u8 0, .int .u8 0, .int .u8 0, .int .u8 0, .int .u8 0] 52)).heap.size = w1.heap.size + 1 := by simp
    have := (bel_setCells (B := w1.heap.size) (b := w1.heap.size) (Nat.le_refl _) (by rw [hh]; omega) [.int .u8 x.g0, .int .u8 x.i0, .int .u8 x.g1, .int .u8 x.i1, .int .u8 x.g2, .int .u8 x.i2] 0 (below_refl _ (w1.alloc (.cells #[.int .u8 0, .int .u8 0, .int .u8 0, .int .u8 0, .int .u8 0, .int .u8 0] 52)))).size
    omega
  · exact below_trans A.bel (bel_setCells (B := w.heap.size) A.bel.size (by have := A.bel.size; simp; omega) _ _ (alloc_below _ _ _ A.bel.size))
  · intro j v hj
    have hlt : j < 6 := by
      have := (List.getElem?_eq_some_iff.1 hj).1
      simpa [I.path] using this
    rw [Addr.add_mid, World.cell?_setCells_in _ _ _ _ (fun i hi => (ht i (by simpa using hi)).1) j (by simpa using hlt)]
    rw [← hj]; exact (List.getElem?_eq_getElem _).symm

theorem lf_at {w w4 : World} {L : List Nat} (hb : Bel w.heap.size w w4) (hl : LF w.heap.size w4 L) : At w.heap.size w w4 L := ⟨hb, fun b h => ⟨(hl b h).2, (hl b h).1⟩⟩
theorem c_CompareFunc (p q : Addr) (A B : List (Int × Int)) (hAB : B.length = A.length) (hl : A.length < 1000000) (ca cb : Nat) (w : World) (hp : p.block < w.heap.size) (hq : q.block < w.heap.size)
    (hA : ∀ (j : Nat) (hj : j < A.length), Cells w (p.add (j * 2)) [.int .u8 A[j].1, .int .u8 A[j].2]) (hB : ∀ (j : Nat) (hj : j < B.length), Cells w (q.add (j * 2)) [.int .u8 B[j].1, .int .u8 B[j].2]) :
    GivesAt Try.prog 66 #[.slice (some p) A.length ca, .slice (some q) A.length cb, .func (.func 67) #[] #[]] w (.int .i64 (orL (List.zipWith cmpS A B))) := by
  have hz : (List.zipWith cmpS A B).length = A.length := by rw [List.length_zipWith, hAB, Nat.min_self]
  refine x_slices_CompareFunc_ident_Step_ident_Step_ident_Step_ident_Step (some p) A.length ca (some q) A.length cb w _ ⟨fun n w' _ => ∃ k : Nat, n = k ∧ k ≤ A.length ∧ Bel w.heap.size w w' ∧ orL (List.zipWith cmpS A B) = orL ((List.zipWith cmpS A B).drop k), fun n _ => ((A.length : Int) - n).toNat, ⟨0, rfl, by omega, below_refl _ _, rfl⟩, ?_⟩
  rintro n w4 L5 hLF ⟨k, rfl, hk, hb, ho⟩
  have At0 := lf_at hb hLF
  by_cases hlt : k < A.length
  · rw [if_pos (by simpa using hlt)]
    refine ⟨by omega, by omega, ?_⟩
    rw [onSome_some]
    refine ⟨A[k].1, A[k].2, by rw [Int.toNat_natCast]; exact cells_below hb (by rw [addr_block]; exact hp) (hA k hlt), ?_⟩
    rw [if_neg (by simp; omega)]
    refine ⟨by omega, by omega, ?_⟩
    rw [onSome_some]
    refine ⟨(B[k]'(by omega)).1, (B[k]'(by omega)).2, by rw [Int.toNat_natCast]; exact cells_below hb (by rw [addr_block]; exact hq) (hB k (by omega)), ?_⟩
    intro w12 L13 h12 hL
    have A1 : At w.heap.size w w12 L13 := ⟨below_trans hb (hid_below h12 (by simp) hb.size), fun b h => ⟨(hL b h).2.1, (hL b h).1⟩⟩
    refine (c_compareSteps _ _ _ _).call fun w15 h15 => ⟨_, rfl, at_kept A1 h15, ?_⟩
    have A2 := at_call A1 (Nat.le_refl _) h15
    rw [orL_drop _ k (by omega)] at ho
    have hg : (List.zipWith cmpS A B)[k]'(by omega) = orL [cmp2 A[k].1 (B[k]'(by omega)).1, cmp2 A[k].2 (B[k]'(by omega)).2] := by rw [List.getElem_zipWith]; rfl
    rw [hg] at ho
    generalize orL [cmp2 A[k].1 (B[k]'(by omega)).1, cmp2 A[k].2 (B[k]'(by omega)).2] = r at ho ⊢
    by_cases hr : r = 0
    · rw [if_neg (by simp [hr])]
      have e2 : IntKind.wrap .i64 ((k : Int) + 1) = ((k + 1 : Nat) : Int) := by rw [w_i64 (by omega) (by omega)]; omega
      rw [e2]
      refine ⟨⟨k + 1, rfl, hlt, A2.bel, by rw [ho, if_neg (by simp [hr])]⟩, ?_⟩
      show ((A.length : Int) - ((k + 1 : Nat) : Int)).toNat + 1 ≤ ((A.length : Int) - (k : Int)).toNat
      omega
    · rw [if_pos (by simpa using hr)]
      exact ⟨by rw [ho, if_pos hr], A2.bel⟩
  · rw [if_neg (by simpa using hlt), if_neg (by simp)]
    have : (List.zipWith cmpS A B).drop k = [] := List.drop_eq_nil_of_le (by omega)
    exact ⟨by rw [ho, this]; rfl, hb⟩
end Go.Proofs
namespace Go.Proofs
open Go X RowKit
theorem facts_below {F : Facts} {u u' : World} (h : FactsW F u []) (hb : Bel u.heap.size u u') : FactsW F u' [] := fun ad vs hm => by
  obtain ⟨h1, h2, h3⟩ := h ad vs hm
  exact ⟨cells_below hb h2 h1, Nat.lt_of_lt_of_le h2 hb.size, h3⟩
theorem facts_cons {F : Facts} {u : World} {ad : Addr} {vs : List Value} (h1 : Cells u ad vs) (h2 : ad.block < u.heap.size) (h : FactsW F u []) : FactsW ((ad, vs) :: F) u [] := fun a v hm => by
  rcases List.mem_cons.1 hm with e | hm
  · injection e with e1 e2
    subst e1; subst e2
    exact ⟨h1, h2, by simp⟩
  · exact h a v hm
theorem cells_sub {w : World} {b o : Nat} {vs : List Value} (h : Cells w ⟨b, o, none⟩ vs) (k : Nat) (us : List Value) (hu : ∀ j v, us[j]? = some v → vs[k + j]? = some v) : Cells w ⟨b, o + k, none⟩ us := fun j v hj => by
  have := h (k + j) v (hu j v hj)
  rw [Addr.add_mid] at this ⊢
  rwa [Nat.add_assoc]
theorem k_le (x : I) (hx : x.In) : x.k ≤ 3 := by
  have := hx.d
  unfold I.k; split <;> omega
theorem path_steps (x : I) {w : World} {b o : Nat} (h : Cells w ⟨b, o, none⟩ x.path) (j : Nat) (hj : j < x.steps.length) : Cells w ((⟨b, o, none⟩ : Addr).add (j * 2)) [.int .u8 x.steps[j].1, .int .u8 x.steps[j].2] := by
  rw [Addr.add_mid]
  refine cells_sub h (j * 2) _ fun i v hi => ?_
  have h3 : j < 3 := by simpa [I.steps] using hj
  have hi2 : i < 2 := by
    have := (List.getElem?_eq_some_iff.1 hi).1
    simpa using this
  match j, h3, i, hi2 with
  | 0, _, 0, _ => exact hi
  | 0, _, 1, _ => exact hi
  | 1, _, 0, _ => exact hi
  | 1, _, 1, _ => exact hi
  | 2, _, 0, _ => exact hi
  | 2, _, 1, _ => exact hi
theorem c_Compare (x y : I) (hx : x.In) (hy : y.In) : Gives Try.prog 46 #[x.V, y.V] (.int .i64 (x.cmp y)) := by
  intro w
  refine x_ident_Compare _ _ _ _ _ _ _ _ _ _ _ _ _ _ _ _ _ _ _ _ w _ ?_
  have ca : Cells (w.alloc (.cells x.row.toArray 54)) ⟨w.heap.size, 0, none⟩ x.row := cells_new w x.row 54
  have sa : (w.alloc (.cells x.row.toArray 54)).heap.size = w.heap.size + 1 := by simp
  generalize hW1 : w.alloc (.cells x.row.toArray 54) = W1 at ca sa
  have hW1' : (w.alloc (.cells #[.int .u8 x.n, .int .u16 x.l, .int .u32 x.s, .int .u8 x.d, .int .u8 x.g0, .int .u8 x.i0, .int .u8 x.g1, .int .u8 x.i1, .int .u8 x.g2, .int .u8 x.i2] 54)) = W1 := hW1
  try rw [hW1']
  have b1 : Bel w.heap.size w W1 := by rw [← hW1]; exact alloc_below _ _ _ (Nat.le_refl _)
  have cb : Cells (W1.alloc (.cells y.row.toArray 54)) ⟨W1.heap.size, 0, none⟩ y.row := cells_new W1 y.row 54
  have sb : (W1.alloc (.cells y.row.toArray 54)).heap.size = W1.heap.size + 1 := by simp
  have b2 : Bel W1.heap.size W1 (W1.alloc (.cells y.row.toArray 54)) := alloc_below _ _ _ (Nat.le_refl _)
  generalize hW2 : W1.alloc (.cells y.row.toArray 54) = W2 at cb sb b2
  have hW2' : (W1.alloc (.cells #[.int .u8 y.n, .int .u16 y.l, .int .u32 y.s, .int .u8 y.d, .int .u8 y.g0, .int .u8 y.i0, .int .u8 y.g1, .int .u8 y.i1, .int .u8 y.g2, .int .u8 y.i2] 54)) = W2 := hW2
  try rw [hW2']
  have ca2 : Cells W2 ⟨w.heap.size, 0, none⟩ x.row := cells_below b2 (by show w.heap.size < _; omega) ca
  have F1 : FactsW [(⟨w.heap.size, 0, none⟩, x.row), (⟨W1.heap.size, 0, none⟩, y.row)] W2 [] :=
    facts_cons ca2 (by show w.heap.size < _; omega) (facts_cons cb (by show W1.heap.size < _; omega) (facts_nil _ _))
  refine ⟨_, F1, x.n, x.l, x.s, x.d, x.g0, x.i0, x.g1, x.i1, x.g2, x.i2, by simp [I.row], y.n, y.l, y.s, y.d, y.g0, y.i0, y.g1, y.i1, y.g2, y.i2, by simp [I.row], ?_⟩
  intro w22 h22
  have B22 : Bel W2.heap.size W2 w22 := hid_below h22 (by simp) (Nat.le_refl _)
  have F22 := facts_below F1 B22
  refine ⟨(c_steps x hx w22).mono ?_⟩
  rintro e w24 ⟨p, rfl, hp1, hp2, hb24, hcp⟩
  refine ⟨some ⟨p, 0, none⟩, x.k, 3, rfl, hb24.size, facts_below F22 hb24, ?_⟩
  refine ⟨(c_steps y hy w24).mono ?_⟩
  rintro e w29 ⟨q, rfl, hq1, hq2, hb29, hcq⟩
  have F29 := facts_below (facts_below F22 hb24) hb29
  refine ⟨some ⟨q, 0, none⟩, y.k, 3, rfl, hb29.size, F29, ?_⟩
  have xa := F29 _ _ (List.mem_cons_self)
  have ya := F29 _ _ (List.mem_cons_of_mem _ (List.mem_cons_self))
  have G29 : FactsW [(⟨w.heap.size, 0, none⟩, [.int .u8 x.n, .int .u16 x.l]), (⟨W1.heap.size, 0, none⟩, [.int .u8 y.n, .int .u16 y.l]), (⟨w.heap.size, 0 + 2, none⟩, [.int .u32 x.s]), (⟨W1.heap.size, 0 + 2, none⟩, [.int .u32 y.s]), (⟨w.heap.size, 0 + 3, none⟩, [.int .u8 x.d]), (⟨W1.heap.size, 0 + 3, none⟩, [.int .u8 y.d])] w29 [] := by
    have h2 : ∀ (k : Nat) (v0 v1 : Value) (r : List Value), r[k + 0]? = some v0 → r[k + 1]? = some v1 → ∀ j v, [v0, v1][j]? = some v → r[k + j]? = some v := by
      intro k v0 v1 r e0 e1 j v hj
      rcases j with _ | _ | j
      · rw [e0]; exact hj
      · rw [e1]; exact hj
      · simp at hj
    have h1 : ∀ (k : Nat) (v0 : Value) (r : List Value), r[k + 0]? = some v0 → ∀ j v, [v0][j]? = some v → r[k + j]? = some v := by
      intro k v0 r e0 j v hj
      rcases j with _ | j
      · rw [e0]; exact hj
      · simp at hj
    exact facts_cons (cells_sub xa.1 0 _ (h2 0 _ _ _ rfl rfl)) xa.2.1 (facts_cons (cells_sub ya.1 0 _ (h2 0 _ _ _ rfl rfl)) ya.2.1 (facts_cons (cells_sub xa.1 2 _ (h1 2 _ _ rfl)) xa.2.1 (facts_cons (cells_sub ya.1 2 _ (h1 2 _ _ rfl)) ya.2.1
      (facts_cons (cells_sub xa.1 3 _ (h1 3 _ _ rfl)) xa.2.1 (facts_cons (cells_sub ya.1 3 _ (h1 3 _ _ rfl)) ya.2.1 (facts_nil _ _))))))
  have e2 : Bel w.heap.size w W2 := below_trans b1 (below_mono b2 b1.size)
  have e22 := below_trans e2 (below_mono B22 e2.size)
  have e24 := below_trans e22 (below_mono hb24 e22.size)
  have e29 := below_trans e24 (below_mono hb29 e24.size)
  refine ⟨[(⟨w.heap.size, 0, none⟩, [.int .u8 x.n, .int .u16 x.l]), (⟨W1.heap.size, 0, none⟩, [.int .u8 y.n, .int .u16 y.l]), (⟨w.heap.size, 0 + 2, none⟩, [.int .u32 x.s]), (⟨W1.heap.size, 0 + 2, none⟩, [.int .u32 y.s]), (⟨w.heap.size, 0 + 3, none⟩, [.int .u8 x.d]), (⟨W1.heap.size, 0 + 3, none⟩, [.int .u8 y.d])], ?_, x.n, x.l, by simp, y.n, y.l, by simp, x.s, by simp, y.s, by simp, ?_⟩
  · exact G29
  have kx := k_le x hx
  have ky := k_le y hy
  refine ⟨by split <;> omega, by split <;> omega, by split <;> omega, by split <;> omega, x.d, by simp, y.d, by simp, ?_⟩
  generalize hG : ([(⟨w.heap.size, 0, none⟩, [.int .u8 x.n, .int .u16 x.l]), (⟨W1.heap.size, 0, none⟩, [.int .u8 y.n, .int .u16 y.l]), (⟨w.heap.size, 0 + 2, none⟩, [.int .u32 x.s]), (⟨W1.heap.size, 0 + 2, none⟩, [.int .u32 y.s]), (⟨w.heap.size, 0 + 3, none⟩, [.int .u8 x.d]), (⟨W1.heap.size, 0 + 3, none⟩, [.int .u8 y.d])] : Facts) = G at G29 ⊢
  intro w42 h42
  have B42 : Bel w29.heap.size w29 w42 := hid_below h42 (by simp) (Nat.le_refl _)
  have e42 := below_trans e29 (below_mono B42 e29.size)
  have G42 := facts_below G29 B42
  refine (c_CompareProcs x.n x.l y.n y.l).call fun w44 h44 => ⟨_, rfl, h44.size, facts_below G42 h44, ?_⟩
  have e44 := below_trans e42 (below_mono h44 e42.size)
  have G44 := facts_below G42 h44
  refine (c_cmp32 x.s y.s).call fun w47 h47 => ⟨_, rfl, h47.size, facts_below G44 h47, ?_⟩
  have e47 := below_trans e44 (below_mono h47 e44.size)
  have G47 := facts_below G44 h47
  have q42 : Bel w29.heap.size w29 w47 := below_trans B42 (below_trans (below_mono h44 B42.size) (below_mono h47 (Nat.le_trans B42.size h44.size)))
  have q24 : Bel w24.heap.size w24 w47 := below_trans hb29 (below_mono q42 hb29.size)
  have P47 := cells_below q24 (a := ⟨p, 0, none⟩) hp2 hcp
  have Q47 := cells_below q42 (a := ⟨q, 0, none⟩) hq2 hcq
  have hm : ((if (y.k : Int) < (x.k : Int) then (y.k : Int) else (x.k : Int))).toNat = (x.steps.take (min x.k y.k)).length := by
    rw [List.length_take]
    show _ = min (min x.k y.k) 3
    split <;> omega
  have hml : (y.steps.take (min x.k y.k)).length = (x.steps.take (min x.k y.k)).length := by
    rw [List.length_take, List.length_take]; rfl
  rw [hm]
  have hx3 : x.steps.length = 3 := rfl
  have hy3 : y.steps.length = 3 := rfl
  refine (c_CompareFunc ⟨p, 0, none⟩ ⟨q, 0, none⟩ (x.steps.take (min x.k y.k)) (y.steps.take (min x.k y.k)) hml (by rw [List.length_take]; omega) 3 3 w47 (Nat.lt_of_lt_of_le hp2 q24.size) (Nat.lt_of_lt_of_le hq2 q42.size)
    (fun j hj => by rw [List.getElem_take]; exact path_steps x P47 j _) (fun j hj => by rw [List.getElem_take]; exact path_steps y Q47 j _)).call fun w50 h50 => ⟨_, rfl, h50.size, facts_below G47 h50, ?_⟩
  have e50 := below_trans e47 (below_mono h50 e47.size)
  have G50 := facts_below G47 h50
  refine (c_cmp8 x.d y.d).call fun w53 h53 => ⟨_, rfl, h53.size, facts_below G50 h53, ?_⟩
  have e53 := below_trans e50 (below_mono h53 e50.size)
  have G53 := facts_below G50 h53
  have r53 : Bel w29.heap.size w29 w53 := below_trans q42 (below_trans (below_mono h50 q42.size) (below_mono h53 (Nat.le_trans q42.size h50.size)))
  have X53 := cells_below r53 (a := ⟨w.heap.size, 0, none⟩) xa.2.1 xa.1
  have Y53 := cells_below r53 (a := ⟨W1.heap.size, 0, none⟩) ya.2.1 ya.1
  have px : Cells w53 ⟨w.heap.size, 0 + 4, none⟩ x.path := cells_sub X53 4 _ fun j v hj => by
    rcases j with _ | _ | _ | _ | _ | _ | j <;> first | exact hj | simp [I.path] at hj
  have py : Cells w53 ⟨W1.heap.size, 0 + 4, none⟩ y.path := cells_sub Y53 4 _ fun j v hj => by
    rcases j with _ | _ | _ | _ | _ | _ | j <;> first | exact hj | simp [I.path] at hj
  refine (c_CompareFunc ⟨w.heap.size, 0 + 4, none⟩ ⟨W1.heap.size, 0 + 4, none⟩ x.steps y.steps rfl (by rw [hx3]; omega) 3 3 w53 (Nat.lt_of_lt_of_le xa.2.1 r53.size) (Nat.lt_of_lt_of_le ya.2.1 r53.size)
    (fun j hj => path_steps x px j _) (fun j hj => path_steps y py j _)).call fun w56 h56 => ⟨_, rfl, h56.size, facts_below G53 h56, ?_⟩
  have e56 := below_trans e53 (below_mono h56 e53.size)
  have G56 := facts_below G53 h56
  have ba := alloc_below w56.heap.size w56 (.cells #[.int .i64 (orL [cmp2 x.n y.n, cmp2 x.l y.l]), .int .i64 (cmp2 x.s y.s), .int .i64 (orL (List.zipWith cmpS (x.steps.take (min x.k y.k)) (y.steps.take (min x.k y.k)))), .int .i64 (cmp2 x.d y.d), .int .i64 (orL (List.zipWith cmpS x.steps y.steps))] 3) (Nat.le_refl _)
  refine ⟨facts_below G56 ba, ?_⟩
  refine (c_OrNew w56 [orL [cmp2 x.n y.n, cmp2 x.l y.l], cmp2 x.s y.s, orL (List.zipWith cmpS (x.steps.take (min x.k y.k)) (y.steps.take (min x.k y.k))), cmp2 x.d y.d, orL (List.zipWith cmpS x.steps y.steps)] 3 (by simp)).call fun w59 h59 => ⟨_, rfl, h59.size, facts_below (facts_below G56 ba) h59, rfl, ?_⟩
  exact below_trans e56 (below_trans (below_mono ba e56.size) (below_mono h59 (Nat.le_trans e56.size ba.size)))
end Go.Proofs
