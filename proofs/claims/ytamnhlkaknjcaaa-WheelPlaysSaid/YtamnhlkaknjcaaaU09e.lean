import Derived.Test.YtamnhlkaknjcaaaU09d
import Derived.Test.YtamnhlkaknjcaaaXSep
import Derived.Lib.LazyBuf
import Derived.Laws.IdiomCopy
set_option linter.unusedVariables false
set_option linter.unusedSimpArgs false
namespace Go.Proofs
open Go X RowKit
/-- the steps that count -/
def I.k (x : I) : Nat := (if 3 < x.d then 3 else x.d).toNat
def I.path (x : I) : List Value := [.int .u8 x.g0, .int .u8 x.i0, .int .u8 x.g1, .int .u8 x.i1, .int .u8 x.g2, .int .u8 x.i2]
theorem cells_new (w : World) (vs : List Value) (ty : TypeId) : Cells (w.alloc (.cells vs.toArray ty)) ⟨w.heap.size, 0, none⟩ vs := fun j v hj => by
  rw [new_cell]; simpa using hj
theorem cells_below {n : Nat} {w w' : World} (h : Bel n w w') {a : Addr} {vs : List Value} (ha : a.block < n) (hc : Cells w a vs) : Cells w' a vs := fun j v hj => by
  rw [below_cell h (by rw [addr_block]; exact ha)]; exact hc j v hj
theorem there_new (w : World) (vs : List Value) (ty : TypeId) (n : Nat) (hn : n ≤ vs.length) : World.there (w.alloc (.cells vs.toArray ty)) w.heap.size 0 n := fun j hj => by
  have hh : (w.alloc (.cells vs.toArray ty)).heap = w.heap.push (.cells vs.toArray ty) := rfl
  constructor
  · simp only [World.cell?, hh, Array.getElem?_push_size]
    simp; omega
  · simp only [World.frozen?, hh, Array.getElem?_push_size]
    simp
theorem bel_setCells {B b : Nat} {w w' : World} (h : B ≤ b) (hn : B ≤ w'.heap.size) (vs : List Value) (o : Nat) (hb : Bel B w w') : Bel B w (w'.setCells b o vs) :=
  below_trans hb (hid_below (setCells_hid w' b o vs) (fun i hi => by simp only [List.mem_singleton] at hi; omega) hn)
theorem c_steps (x : I) (hx : x.In) (w : World) : Calls Try.prog 42 #[x.V] w fun e w' => ∃ b, e = .returned (.slice (some ⟨b, 0, none⟩) x.k 3) ∧ w.heap.size ≤ b ∧ b < w'.heap.size ∧ Bel w.heap.size w w' ∧ Cells w' ⟨b, 0, none⟩ x.path := by
  refine x_ident_ID_steps _ _ _ _ _ _ _ _ _ _ w _ fun w1 L h1 h2 => ?_
  have A := at_start h1 h2
  have hd := hx.d
  have ht := there_new w1 [.int .u8 0, .int .u8 0, .int .u8 0, .int .u8 0, .int .u8 0, .int .u8 0] 36 6 (by simp)
  refine ⟨rfl, ht, fun hm => by have := (A.loc _ hm).2; omega, ?_, ?_, w1.heap.size, ?_, A.bel.size, ?_, ?_, ?_⟩
  · rw [w_i64 (by omega) (by omega)]; split <;> omega
  · rw [w_i64 (by omega) (by omega)]; split <;> omega
  · rw [w_i64 (by omega) (by omega)]; rfl
  · have hh : (w1.alloc (.cells #[.int .u8 0, .int .u8 0, .int .u8 0, .int .u8 0, .int .u8 0, .int .u8 0] 36)).heap.size = w1.heap.size + 1 := by simp
    have := (bel_setCells (B := w1.heap.size) (b := w1.heap.size) (Nat.le_refl _) (by rw [hh]; omega) [.int .u8 x.g0, .int .u8 x.i0, .int .u8 x.g1, .int .u8 x.i1, .int .u8 x.g2, .int .u8 x.i2] 0 (below_refl _ (w1.alloc (.cells #[.int .u8 0, .int .u8 0, .int .u8 0, .int .u8 0, .int .u8 0, .int .u8 0] 36)))).size
    omega
  · exact below_trans A.bel (bel_setCells (B := w.heap.size) A.bel.size (by have := A.bel.size; simp; omega) _ _ (alloc_below _ _ _ A.bel.size))
  · intro j v hj
    have hlt : j < 6 := by
      have := (List.getElem?_eq_some_iff.1 hj).1
      simpa [I.path] using this
    rw [Addr.add_mid, World.cell?_setCells_in _ _ _ _ (fun i hi => (ht i (by simpa using hi)).1) j (by simpa using hlt)]
    rw [← hj]; exact (List.getElem?_eq_getElem _).symm

def cmpS (s t : Int × Int) : Int := orL [cmp2 s.1 t.1, cmp2 s.2 t.2]
theorem lf_at {w w4 : World} {L : List Nat} (hb : Bel w.heap.size w w4) (hl : LF w.heap.size w4 L) : At w.heap.size w w4 L := ⟨hb, fun b h => ⟨(hl b h).2, (hl b h).1⟩⟩
theorem c_CompareFunc (p q : Addr) (A B : List (Int × Int)) (hAB : B.length = A.length) (hl : A.length < 1000000) (ca cb : Nat) (w : World) (hp : p.block < w.heap.size) (hq : q.block < w.heap.size)
    (hA : ∀ (j : Nat) (hj : j < A.length), Cells w (p.add (j * 2)) [.int .u8 A[j].1, .int .u8 A[j].2]) (hB : ∀ (j : Nat) (hj : j < B.length), Cells w (q.add (j * 2)) [.int .u8 B[j].1, .int .u8 B[j].2]) :
    GivesAt Try.prog 44 #[.slice (some p) A.length ca, .slice (some q) A.length cb, .func (.func 45) #[] #[]] w (.int .i64 (orL (List.zipWith cmpS A B))) := by
  have hz : (List.zipWith cmpS A B).length = A.length := by rw [List.length_zipWith, hAB, Nat.min_self]
  refine x_slices_CompareFunc_ident_Step_ident_Step_ident_Step_ident_Step (some p) A.length ca (some q) A.length cb w _ ⟨fun n w' _ => ∃ k : Nat, n = k ∧ k ≤ A.length ∧ Bel w.heap.size w w' ∧ orL (List.zipWith cmpS A B) = orL ((List.zipWith cmpS A B).drop k), fun n _ => ((A.length : Int) - n).toNat, ⟨0, rfl, by omega, below_refl _ _, rfl⟩, ?_⟩
  rintro n w4 L5 hLF ⟨k, rfl, hk, hb, ho⟩
  have At0 := lf_at hb hLF
  by_cases hlt : k < A.length
  · rw [if_pos (by simpa using hlt)]
    refine ⟨by omega, by omega, ?_⟩
    rw [onSome_some]
    refine ⟨A[k].1, A[k].2, by rw [Int.toNat_natCast]; exact cells_below hb (by rw [addr_block]; exact hp) (hA k hlt), ?_⟩
    rw [if_neg (by simp; omega)]
    refine ⟨by omega, by omega, ?_⟩
    rw [onSome_some]
    refine ⟨(B[k]'(by omega)).1, (B[k]'(by omega)).2, by rw [Int.toNat_natCast]; exact cells_below hb (by rw [addr_block]; exact hq) (hB k (by omega)), ?_⟩
    intro w12 L13 h12 hL
    have A1 : At w.heap.size w w12 L13 := ⟨below_trans hb (hid_below h12 (by simp) hb.size), fun b h => ⟨(hL b h).2.1, (hL b h).1⟩⟩
    refine (c_compareSteps _ _ _ _).call fun w15 h15 => ⟨_, rfl, at_kept A1 h15, ?_⟩
    have A2 := at_call A1 (Nat.le_refl _) h15
    rw [orL_drop _ k (by omega)] at ho
    have hg : (List.zipWith cmpS A B)[k]'(by omega) = orL [cmp2 A[k].1 (B[k]'(by omega)).1, cmp2 A[k].2 (B[k]'(by omega)).2] := by rw [List.getElem_zipWith]; rfl
    rw [hg] at ho
    generalize orL [cmp2 A[k].1 (B[k]'(by omega)).1, cmp2 A[k].2 (B[k]'(by omega)).2] = r at ho ⊢
    by_cases hr : r = 0
    · rw [if_neg (by simp [hr])]
      have e2 : IntKind.wrap .i64 ((k : Int) + 1) = ((k + 1 : Nat) : Int) := by rw [w_i64 (by omega) (by omega)]; omega
      rw [e2]
      refine ⟨⟨k + 1, rfl, hlt, A2.bel, by rw [ho, if_neg (by simp [hr])]⟩, ?_⟩
      show ((A.length : Int) - ((k + 1 : Nat) : Int)).toNat + 1 ≤ ((A.length : Int) - (k : Int)).toNat
      omega
    · rw [if_pos (by simpa using hr)]
      exact ⟨by rw [ho, if_pos hr], A2.bel⟩
  · rw [if_neg (by simpa using hlt), if_neg (by simp)]
    have : (List.zipWith cmpS A B).drop k = [] := List.drop_eq_nil_of_le (by omega)
    exact ⟨by rw [ho, this]; rfl, hb⟩
end Go.Proofs
