import Derived.Test.YtfbjellaijdgbaaDoorU06c
import Derived.Test.YtfbjellaijdgbaaDoorV06n
set_option linter.unusedVariables false
set_option linter.unusedSimpArgs false
set_option maxRecDepth 10000
namespace Go.Proofs
open Go X RowKit
theorem bl_app (a b : ByteArray) : (a ++ b).data.toList = a.data.toList ++ b.data.toList := by rw [ByteArray.data_append]; simp
theorem toBA_data (l : List UInt8) : (toBA l).data.toList = l := by simp [toBA]
theorem toBA_size (l : List UInt8) : (toBA l).size = l.length := by rw [← data_len]; simp [toBA]
/-! ### small numbers as text -/
theorem c_small0 : Gives Tryd.prog 52 #[.int .i64 0] (.string (toBA [48])) := fun w => x_small 0 w _ (by
  rw [if_pos (by decide)]; exact ⟨by decide, by decide, by decide, by decide, by kernel_rfl, below_refl _ w⟩)
theorem c_small1 : Gives Tryd.prog 52 #[.int .i64 1] (.string (toBA [49])) := fun w => x_small 1 w _ (by
  rw [if_pos (by decide)]; exact ⟨by decide, by decide, by decide, by decide, by kernel_rfl, below_refl _ w⟩)
theorem c_small2 : Gives Tryd.prog 52 #[.int .i64 2] (.string (toBA [50])) := fun w => x_small 2 w _ (by
  rw [if_pos (by decide)]; exact ⟨by decide, by decide, by decide, by decide, by kernel_rfl, below_refl _ w⟩)
theorem c_FI0 : Gives Tryd.prog 51 #[.int .i64 0, .int .i64 10] (.string (toBA [48])) := fun w => x_FormatInt0 w _ (c_small0.call fun w2 h => ⟨_, rfl, h.size, rfl, h⟩)
theorem c_FI1 : Gives Tryd.prog 51 #[.int .i64 1, .int .i64 10] (.string (toBA [49])) := fun w => x_FormatInt1 w _ (c_small1.call fun w2 h => ⟨_, rfl, h.size, rfl, h⟩)
theorem c_FI2 : Gives Tryd.prog 51 #[.int .i64 2, .int .i64 10] (.string (toBA [50])) := fun w => x_FormatInt2 w _ (c_small2.call fun w2 h => ⟨_, rfl, h.size, rfl, h⟩)
theorem c_II0 : Gives Tryd.prog 48 #[.int .i64 0] (.string (toBA [48])) := fun w => x_IItoa0 w _ (c_FI0.call fun w2 h => ⟨_, rfl, h.size, rfl, h⟩)
theorem c_II1 : Gives Tryd.prog 48 #[.int .i64 1] (.string (toBA [49])) := fun w => x_IItoa1 w _ (c_FI1.call fun w2 h => ⟨_, rfl, h.size, rfl, h⟩)
theorem c_II2 : Gives Tryd.prog 48 #[.int .i64 2] (.string (toBA [50])) := fun w => x_IItoa2 w _ (c_FI2.call fun w2 h => ⟨_, rfl, h.size, rfl, h⟩)
theorem c_It0 : Gives Tryd.prog 36 #[.int .i64 0] (.string (toBA [48])) := fun w => x_Itoa0 w _ (c_II0.call fun w2 h => ⟨_, rfl, h.size, rfl, h⟩)
theorem c_It1 : Gives Tryd.prog 36 #[.int .i64 1] (.string (toBA [49])) := fun w => x_Itoa1 w _ (c_II1.call fun w2 h => ⟨_, rfl, h.size, rfl, h⟩)
theorem c_It2 : Gives Tryd.prog 36 #[.int .i64 2] (.string (toBA [50])) := fun w => x_Itoa2 w _ (c_II2.call fun w2 h => ⟨_, rfl, h.size, rfl, h⟩)
def dg (k : Int) : List UInt8 := if k = 0 then [48] else if k = 1 then [49] else [50]
theorem dg_len (k : Int) : (dg k).length = 1 := by unfold dg; split; rfl; split <;> rfl
theorem c_It (k : Int) (h : k = 0 ∨ k = 1 ∨ k = 2) : Gives Tryd.prog 36 #[.int .i64 k] (.string (toBA (dg k))) := by
  rcases h with rfl | rfl | rfl
  · exact c_It0
  · exact c_It1
  · exact c_It2
theorem c_IFU : Gives Tryd.prog 49 #[.int .u64 1, .int .i64 10] (.string (toBA [49])) := fun w => x_IFormatUint w _ (c_small1.call fun w2 h => ⟨_, rfl, h.size, rfl, h⟩)
theorem c_FU : Gives Tryd.prog 37 #[.int .u64 1, .int .i64 10] (.string (toBA [49])) := fun w => x_FormatUint w _ (c_IFU.call fun w2 h => ⟨_, rfl, h.size, rfl, h⟩)
/-! ### the text of the known view -/
def k2 : List Pr := [⟨0, 1⟩, ⟨2, 1⟩]
def tP (p : Pr) : List UInt8 := [32] ++ dg p.n ++ [46] ++ dg p.l
def tx (l : List Pr) : List UInt8 := [103, 49, 32, 118, 49, 58] ++ l.flatMap tP
theorem k2_in {p : Pr} (h : p ∈ k2) : (p.n = 0 ∨ p.n = 1 ∨ p.n = 2) ∧ (p.l = 0 ∨ p.l = 1 ∨ p.l = 2) := by
  simp only [k2, List.mem_cons, List.not_mem_nil, or_false] at h
  rcases h with rfl | rfl <;> decide
theorem tP_len (p : Pr) : (tP p).length = 4 := by simp [tP, dg_len]
theorem tx_len (l : List Pr) : (tx l).length = 6 + l.length * 4 := by
  have : (l.flatMap tP).length = l.length * 4 := by
    induction l with
    | nil => rfl
    | cons a l ih => rw [List.flatMap_cons, List.length_append, tP_len, ih, List.length_cons]; omega
  simp only [tx, List.length_append, this]; rfl
theorem c_Show2 (q : Sl) : Ctr Tryd.prog 19 #[.agg (Vw.row ⟨1, 1, q, k2⟩).toArray] (fun m => VwM m ⟨1, 1, q, k2⟩) [] (fun _ : Unit => .string (toBA (tx k2))) (fun _ _ => True) (fun _ => []) := by
  refine Ctr.mk fun w F m C hv => x_Show _ _ _ _ _ w _ fun w1 L2 h1 g1 => ?_
  have C1 := (C.hidL h1 g1).alloc [.pointer none, .slice none 0 0] 70
  refine ⟨[], facts_nil _ _, fun w4 L5 h4 g4 => ?_⟩
  have C2 := C1.hidL h4 g4
  generalize hB : w1.heap.size = B at *
  refine C2.gives c_It1 fun w7 k7 C3 => ⟨_, rfl, k7, facts_nil _ _, by decide, by decide, ?_⟩
  refine C3.gives c_FU fun w10 k10 C4 => ⟨_, rfl, k10, facts_nil _ _, by decide, by decide, ?_⟩
  have C5 := (C4.slNil (q := none) (ty := 5) (sz := 1)).swap
  refine (c_WS B (.pointer none) (.slice none 0 0) [] (ByteArray.mk #[103] ++ toBA [49] ++ ByteArray.mk #[32, 118] ++ toBA [49] ++ ByteArray.mk #[58]) (.inl rfl) (by decide)).call (As := []) C5 trivial fun v m3 w13 k13 hm3 _ C6 => ⟨_, _, rfl, k13, facts_nil _ _, ?_⟩
  have e0 : [] ++ (ByteArray.mk #[103] ++ toBA [49] ++ ByteArray.mk #[32, 118] ++ toBA [49] ++ ByteArray.mk #[58]).data.toList = tx [] := by simp only [bl_app, toBA_data]; rfl
  rw [e0] at C6
  replace hv := MSrc.mono hv hm3
  refine ⟨fun i w' L' => ∃ (j : Nat) (v : Value) (m' : Mem), i = j ∧ j ≤ 2 ∧ m3.le m' ∧ Ctx F m w w' L' m' [bldA B (.pointer (some ⟨B, 0, none⟩)) v, byA v (tx (k2.take j))], fun i _ => (2 - i).toNat, ⟨0, v, m3, rfl, by omega, Mem.le_refl _, C6⟩, ?_⟩
  clear C C1 C2 C3 C4 C5 C6
  rintro i w19 L20 _ ⟨j, v2, m', rfl, hj, hm, D⟩
  by_cases hjl : j < k2.length
  · rw [if_pos (by simpa using hjl)]
    refine ⟨by omega, by simpa using hjl, ?_⟩
    obtain ⟨a, ha, hc⟩ := (MSrc.mono hv hm).elem pr_len hjl
    have ha : q.1 = some a := ha
    rw [ha, onSome_some, Int.toNat_natCast]
    refine ⟨_, _, D.cells hc, D.cellsL hc, [], facts_nil _ _, fun w28 L29 h28 g28 => ?_⟩
    obtain ⟨hn, hl⟩ := k2_in (List.getElem_mem hjl)
    have hst : tx (k2.take (j + 1)) = tx (k2.take j) ++ tP k2[j] := by
      rw [List.take_succ_eq_append_getElem hjl, tx, tx, List.flatMap_append]; simp
    have hjj : (k2.take j).length ≤ 2 := by rw [List.length_take]; omega
    generalize k2[j] = p at hn hl hst ⊢
    have en : IntKind.wrap .i64 p.n = p.n := w_i64 (by omega) (by omega)
    have el : IntKind.wrap .i64 p.l = p.l := w_i64 (by omega) (by omega)
    rw [en, el]
    refine (D.hidL h28 g28).gives (c_It p.n hn) fun w31 k31 D => ⟨_, rfl, k31, facts_nil _ _, by rw [toBA_size, dg_len]; decide, ?_, ?_⟩
    · have := data_len (ByteArray.mk #[32] ++ toBA (dg p.n))
      rw [bl_app, toBA_data, List.length_append, dg_len] at this
      have e : (ByteArray.mk #[32]).data.toList.length = 1 := rfl
      rw [e] at this
      rw [← this]; decide
    refine D.gives (c_It p.l hl) fun w34 k34 D => ⟨_, rfl, k34, facts_nil _ _, ?_, ?_⟩
    · have := data_len (ByteArray.mk #[32] ++ toBA (dg p.n) ++ ByteArray.mk #[46])
      rw [bl_app, bl_app, toBA_data, List.length_append, List.length_append, dg_len] at this
      have e : (ByteArray.mk #[32]).data.toList.length = 1 := rfl
      have e2 : (ByteArray.mk #[46]).data.toList.length = 1 := rfl
      rw [e, e2] at this
      rw [← this, toBA_size, dg_len]; decide
    have eb : (ByteArray.mk #[32] ++ toBA (dg p.n) ++ ByteArray.mk #[46] ++ toBA (dg p.l)).data.toList = tP p := by simp only [bl_app, toBA_data]; rfl
    have es : (ByteArray.mk #[32] ++ toBA (dg p.n) ++ ByteArray.mk #[46] ++ toBA (dg p.l)).size = 4 := by rw [← data_len, eb, tP_len]
    refine (c_WS B (.pointer (some ⟨B, 0, none⟩)) v2 (tx (k2.take j)) (ByteArray.mk #[32] ++ toBA (dg p.n) ++ ByteArray.mk #[46] ++ toBA (dg p.l)) (.inr rfl) (by rw [es, tx_len]; omega)).call (As := []) D trivial fun v3 m4 w37 k37 hm4 _ E => ⟨_, _, rfl, k37, facts_nil _ _, rfl, ?_⟩
    rw [eb, ← hst] at E
    have e : IntKind.wrap .i64 ((j : Int) + 1) = ((j + 1 : Nat) : Int) := by rw [w_i64 (by omega) (by omega)]; omega
    rw [e]
    have hj2 : j < 2 := hjl
    exact ⟨⟨j + 1, v3, m4, rfl, by omega, hm.le_trans hm4, E⟩, Nat.le_of_eq (by show ((2 : Int) - ((j + 1 : Nat) : Int)).toNat + 1 = ((2 : Int) - (j : Int)).toNat; omega)⟩
  · rw [if_neg (by simpa using hjl)]
    have hj2 : j = 2 := by have : k2.length = 2 := rfl; omega
    subst hj2
    have e : k2.take 2 = k2 := rfl
    rw [e] at D
    refine (c_BStr B _ v2 (tx k2) (by intro h; have := congrArg List.length h; rw [tx_len] at this; simp at this)).call (As := []) D trivial fun _ m5 w22 k22 hm5 _ D => ⟨_, rfl, k22, ?_⟩
    exact Ctr.ret (m' := m5) () rfl trivial D
/-! ### what must come -/
theorem c_num (n : Int) : Gives Tryd.prog 13 #[.int .i64 n] (.int .i64 n) := fun w => x_num n w _ ⟨rfl, below_refl _ w⟩
theorem c_First2 (q : Sl) : Ctr Tryd.prog 18 #[.int .u8 1, slV q k2.length] (fun m => MSrc m 2 (slV q k2.length) k2.length (k2.flatMap Pr.row)) [] (fun p : Sl => .tuple #[.agg (Vw.row ⟨1, 1, p, k2⟩).toArray, .int .i64 0]) (fun p m => VwM m ⟨1, 1, p, k2⟩) (fun _ => []) := by
  refine Ctr.mk fun w F m C hv => x_First _ _ _ _ w _ fun w1 L2 h1 g1 => ?_
  refine (c_ClonePr q k2 (by decide)).call (As := []) (C.hidL h1 g1) hv fun p m1 w4 hk hm hp C => ⟨_, _, _, rfl, hk, fun w8 L9 h8 g8 => ?_⟩
  refine (c_vRight ⟨1, 1, p, k2⟩ (by intro p hp; simp only [k2, List.mem_cons, List.not_mem_nil, or_false] at hp; rcases hp with rfl | rfl <;> decide)).call (As := []) (C.hidL h8 g8) hp fun _ m2 w11 hk hm2 _ C => ⟨_, rfl, hk, ?_⟩
  have e : Vw.ok ⟨1, 1, p, k2⟩ = true := by
    simp only [Vw.ok, decide_eq_true_eq]
    refine ⟨by decide, by decide, by decide, by decide, fun p hp => ?_, by decide⟩
    simp only [k2, List.mem_cons, List.not_mem_nil, or_false] at hp
    rcases hp with rfl | rfl <;> decide
  rw [e, if_neg (by decide)]
  exact fun w13 h13 => Ctr.ret (m' := m2) (L := []) p rfl (MSrc.mono hp hm2) (C.hid0 h13)
theorem c_knows : Ctr Tryd.prog 6 #[] noMem [] (fun _ : Unit => .bool true) (fun _ _ => True) (fun _ => []) := by
  refine Ctr.mk fun w F m C _ => x_knows w _ ?_
  obtain ⟨C1, hm1⟩ := C.newShare (k2.flatMap Pr.row) 48 (0, 0)
  have hs : MSrc (m.plus w.heap.size (k2.flatMap Pr.row)) 2 (slV (some ⟨w.heap.size, 0, none⟩, 2) k2.length) k2.length (k2.flatMap Pr.row) :=
    .row _ _ _ _ (by decide) rfl (Mem.plus_cells _ _ _ 0 _ fun j v h => by simpa using h)
  refine (c_First2 (some ⟨w.heap.size, 0, none⟩, 2)).call (As := []) C1 hs fun p m2 w2 hk hm2 hp C => ⟨_, _, _, _, _, _, rfl, hk.size, fun w9 L10 h9 g9 => ?_⟩
  refine (C.hidL h9 g9).gives (c_num 0) fun w12 k12 C => ⟨_, rfl, k12, ?_⟩
  rw [if_pos (by decide)]
  refine (c_Show2 p).call (As := []) C hp fun _ m3 w15 hk hm3 _ C => ⟨_, rfl, hk, ?_⟩
  rw [if_pos (by rw [toBA_list]; kernel_rfl)]
  refine C.gives (c_Majority ⟨1, 1, p, k2⟩ (show k2.length ≤ 1000000 by decide)) fun w18 k18 C => ⟨_, rfl, k18, ?_⟩
  rw [show Vw.maj ⟨1, 1, p, k2⟩ = 2 from (show ((k2.length / 2 + 1 : Nat) : Int) = 2 by decide), if_pos (by decide)]
  have e : Vw.ok ⟨1, 1, p, k2⟩ = true := by
    simp only [Vw.ok, decide_eq_true_eq]
    refine ⟨by decide, by decide, by decide, by decide, fun p hp => ?_, by decide⟩
    simp only [k2, List.mem_cons, List.not_mem_nil, or_false] at hp
    rcases hp with rfl | rfl <;> decide
  refine (c_vRight ⟨1, 1, p, k2⟩ (by intro p hp; simp only [k2, List.mem_cons, List.not_mem_nil, or_false] at hp; rcases hp with rfl | rfl <;> decide)).call (As := []) C (MSrc.mono hp hm3) fun _ m4 w21 hk hm4 _ C => ⟨_, rfl, hk, ?_⟩
  rw [e]
  exact Ctr.ret (m' := m4) () rfl trivial C
theorem c_few (v : Vw) (q : Sl) (l : List Pr) : Gives Tryd.prog 5 #[.agg v.row.toArray, slV q l.length] (.bool (decide (v.ms.length ≤ 40 ∧ l.length ≤ 40))) := fun w => x_few _ _ _ _ _ _ _ _ w _ fun w1 h1 => by
  refine ⟨?_, hid_below h1 (by simp) (Nat.le_refl _)⟩
  congr 2
  rw [Bool.eq_iff_iff]
  simp only [Bool.and_eq_true, decide_eq_true_eq]
  omega
end Go.Proofs
