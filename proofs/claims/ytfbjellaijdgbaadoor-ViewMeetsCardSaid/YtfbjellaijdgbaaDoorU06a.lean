import Derived.Test.YtfbjellaijdgbaaDoorV06n
import Derived.Test.YtfbjellaijdgbaaDoorXArgs
import Derived.Test.YtfbjellaijdgbaaDoorXList
import Derived.Test.YtfbjellaijdgbaaDoorXElems
import Derived.Test.YtfbjellaijdgbaaDoorXStr
import Derived.Test.YtfbjellaijdgbaaDoorXKey
import Derived.Test.YtfbjellaijdgbaaDoorXClear
import Derived.Test.YtfbjellaijdgbaaDoorXSub
import Derived.Test.YtfbjellaijdgbaaDoorXIter
set_option linter.unusedVariables false
set_option linter.unusedSimpArgs false
set_option maxRecDepth 10000
namespace Go.Proofs
open Go X RowKit
abbrev noMem : Mem → Prop := fun _ => True
abbrev Sl := Option Addr × Nat
abbrev slV (p : Sl) (n : Nat) : Value := .slice p.1 n p.2
structure Pr where (n : Int) (l : Int)
@[reducible] def Pr.row (p : Pr) : List Value := [.int .u8 p.n, .int .u16 p.l]
theorem pr_len (p : Pr) : p.row.length = 2 := rfl
theorem pr_one (x : Pr) : ∀ u ∈ x.row, oneC u = true := by intro u h; simp [Pr.row] at h; rcases h with rfl | rfl <;> rfl
theorem pr_ext {a b : Pr} (h : a.n = b.n ∧ a.l = b.l) : a = b := by cases a; cases b; simp_all
instance : DecidableEq Pr := fun a b => decidable_of_iff (a.n = b.n ∧ a.l = b.l) ⟨pr_ext, fun h => by subst h; exact ⟨rfl, rfl⟩⟩
theorem pr_eq (a b : Pr) : ((a.n == b.n) && (a.l == b.l)) = decide (a = b) := by
  rw [Bool.eq_iff_iff, decide_eq_true_eq]
  simp only [Bool.and_eq_true, beq_iff_eq]
  exact ⟨fun h => pr_ext h, fun h => by subst h; exact ⟨rfl, rfl⟩⟩
theorem c_ProcP (p : Pr) : Gives Tryd.prog 26 #[.agg p.row.toArray] (.agg p.row.toArray) := fun w => x_Proc2 _ _ w _ fun w1 h1 => ⟨rfl, hid_below h1 (by simp) (Nat.le_refl _)⟩
theorem c_RefProcP (p : Pr) : Gives Tryd.prog 46 #[.agg p.row.toArray] (.agg p.row.toArray) := fun w => x_RefProc _ _ w _ fun w1 h1 => ⟨rfl, hid_below h1 (by simp) (Nat.le_refl _)⟩
theorem c_Procs (q : Sl) (l : List Pr) (hl : l.length * 4 ≤ 140737488355328) : Ctr Tryd.prog 9 #[slV q l.length] (fun m => MSrc m 2 (slV q l.length) l.length (l.flatMap Pr.row)) [] (fun p : Sl => slV p l.length) (fun p m => MSrc m 2 (slV p l.length) l.length (l.flatMap Pr.row)) (fun _ => []) := by
  refine Ctr.mk fun w F m C hp => x_Procs _ _ _ w _ ?_
  refine ⟨fun p k c i w' _ => ∃ (j : Nat) (m' : Mem), i = j ∧ j = k ∧ j ≤ l.length ∧ m.le m' ∧ Ctx F m w w' [] m' [slA (.slice p j c) j ((l.take j).flatMap Pr.row) 48 2], fun _ _ _ i _ => (l.length - i).toNat, ⟨0, m, rfl, rfl, by omega, Mem.le_refl _, C.slNil⟩, ?_⟩
  clear C
  rintro p k c i w7 L8 _ ⟨j, m', rfl, rfl, hj, hm, D⟩
  by_cases hjl : j < l.length
  · rw [if_pos (by simpa using hjl)]
    refine ⟨by omega, by simpa using hjl, ?_⟩
    obtain ⟨a, ha, hc⟩ := (hp.mono hm).elem pr_len hjl
    have ha : q.1 = some a := ha
    rw [ha, onSome_some]
    refine ⟨_, _, D.cells hc, ?_⟩
    refine D.gives (c_ProcP l[j]) fun w16 k16 D => ⟨_, _, rfl, k16.size, ?_⟩
    have D1 := (D.alloc l[j].row 48).swap
    have hcl : Cells _ ⟨w16.heap.size, 0, none⟩ l[j].row := (D.alloc l[j].row 48).blkCells (o := 0) fun k v e => by simpa using e
    obtain ⟨q2, c2, w25, hr, hkk, D2⟩ := D1.app2 (P := Tryd.prog) (bytes := 4) (t := 28) (t2 := 28) 28 (by kernel_rfl) (.some ⟨w16.heap.size, 0, none⟩ 1 1 l[j].row rfl hcl) (by unfold maxLen; omega) (by omega) (pr_one _)
    have e : IntKind.wrap .i64 ((j : Int) + 1) = ((j + 1 : Nat) : Int) := by rw [w_i64 (by omega) (by omega)]; omega
    refine ⟨q2, j + 1, c2, w25, hr, hkk.size, ?_⟩
    rw [e]
    refine ⟨⟨j + 1, m', rfl, rfl, hjl, hm, ?_⟩, Nat.le_of_eq (by show ((l.length : Int) - ((j + 1 : Nat) : Int)).toNat + 1 = ((l.length : Int) - (j : Int)).toNat; omega)⟩
    have e2 : (l.take (j + 1)).flatMap Pr.row = (l.take j).flatMap Pr.row ++ l[j].row := by rw [List.take_succ_eq_append_getElem hjl, List.flatMap_append]; simp
    rw [e2]
    exact Ctx.noL (D2.pk [0] [1] rfl)
  · rw [if_neg (by simpa using hjl)]
    have hj2 : j = l.length := by omega
    subst hj2
    rw [List.take_length] at D
    obtain ⟨m2, hm2, hs, D2⟩ := D.slShare
    exact Ctr.ret (m' := m2) (L := []) (p, c) rfl hs D2.noL
theorem c_RefProcs (q : Sl) (l : List Pr) (hl : l.length * 4 ≤ 140737488355328) : Ctr Tryd.prog 31 #[slV q l.length] (fun m => MSrc m 2 (slV q l.length) l.length (l.flatMap Pr.row)) [] (fun p : Sl => slV p l.length) (fun p m => MSrc m 2 (slV p l.length) l.length (l.flatMap Pr.row)) (fun _ => []) := by
  refine Ctr.mk fun w F m C hp => x_RefProcs _ _ _ w _ ?_
  refine ⟨fun p k c i w' _ => ∃ (j : Nat) (m' : Mem), i = j ∧ j = k ∧ j ≤ l.length ∧ m.le m' ∧ Ctx F m w w' [] m' [slA (.slice p j c) j ((l.take j).flatMap Pr.row) 46 2], fun _ _ _ i _ => (l.length - i).toNat, ⟨0, m, rfl, rfl, by omega, Mem.le_refl _, C.slNil⟩, ?_⟩
  clear C
  rintro p k c i w7 L8 _ ⟨j, m', rfl, rfl, hj, hm, D⟩
  by_cases hjl : j < l.length
  · rw [if_pos (by simpa using hjl)]
    refine ⟨by omega, by simpa using hjl, ?_⟩
    obtain ⟨a, ha, hc⟩ := (hp.mono hm).elem pr_len hjl
    have ha : q.1 = some a := ha
    rw [ha, onSome_some]
    refine ⟨_, _, D.cells hc, ?_⟩
    refine D.gives (c_RefProcP l[j]) fun w16 k16 D => ⟨_, _, rfl, k16.size, ?_⟩
    have D1 := (D.alloc l[j].row 46).swap
    have hcl : Cells _ ⟨w16.heap.size, 0, none⟩ l[j].row := (D.alloc l[j].row 46).blkCells (o := 0) fun k v e => by simpa using e
    obtain ⟨q2, c2, w25, hr, hkk, D2⟩ := D1.app2 (P := Tryd.prog) (bytes := 4) (t := 23) (t2 := 23) 23 (by kernel_rfl) (.some ⟨w16.heap.size, 0, none⟩ 1 1 l[j].row rfl hcl) (by unfold maxLen; omega) (by omega) (pr_one _)
    have e : IntKind.wrap .i64 ((j : Int) + 1) = ((j + 1 : Nat) : Int) := by rw [w_i64 (by omega) (by omega)]; omega
    refine ⟨q2, j + 1, c2, w25, hr, hkk.size, ?_⟩
    rw [e]
    refine ⟨⟨j + 1, m', rfl, rfl, hjl, hm, ?_⟩, Nat.le_of_eq (by show ((l.length : Int) - ((j + 1 : Nat) : Int)).toNat + 1 = ((l.length : Int) - (j : Int)).toNat; omega)⟩
    have e2 : (l.take (j + 1)).flatMap Pr.row = (l.take j).flatMap Pr.row ++ l[j].row := by rw [List.take_succ_eq_append_getElem hjl, List.flatMap_append]; simp
    rw [e2]
    exact Ctx.noL (D2.pk [0] [1] rfl)
  · rw [if_neg (by simpa using hjl)]
    have hj2 : j = l.length := by omega
    subst hj2
    rw [List.take_length] at D
    obtain ⟨m2, hm2, hs, D2⟩ := D.slShare
    exact Ctr.ret (m' := m2) (L := []) (p, c) rfl hs D2.noL
theorem c_ClonePr (q : Sl) (l : List Pr) (hl : l.length * 4 ≤ 140737488355328) : Ctr Tryd.prog 34 #[slV q l.length] (fun m => MSrc m 2 (slV q l.length) l.length (l.flatMap Pr.row)) [] (fun p : Sl => slV p l.length) (fun p m => MSrc m 2 (slV p l.length) l.length (l.flatMap Pr.row)) (fun _ => []) := by
  obtain ⟨q1, q2⟩ := q
  refine Ctr.mk fun w F m C hp => x_ClonePr q1 _ q2 w _ ?_
  cases q1 with
  | none =>
    rw [if_pos (show (none : Option Addr).isNone = true from rfl)]
    obtain ⟨h0, h1⟩ := hp.none_len
    rw [h0, h1]
    exact Ctr.ret (none, 0) rfl (.nil ..) C
  | some a =>
    rw [if_neg (by simp)]
    have C1 : Ctx F m w _ [] m [slA (.slice (some ⟨w.heap.size, 0, none⟩) 0 0) 0 [] 48 2] := (C.newDrop [] 48).slNil
    obtain ⟨q1, c1, w4, hr, hk, C2⟩ := C1.app2 (P := Tryd.prog) (bytes := 4) (t := 28) (t2 := 28) 28 (by kernel_rfl) (C1.src hp) (by unfold maxLen; omega) (by omega) (flat_one pr_one l)
    rw [List.nil_append, Nat.zero_add] at C2
    rw [Nat.zero_add] at hr
    refine ⟨q1, l.length, c1, w4, hr, hk.size, ?_⟩
    obtain ⟨m', hm, hs, C3⟩ := C2.slShare
    exact Ctr.ret (m' := m') (L := []) (q1, c1) rfl hs C3
theorem c_SameProcs (q q' : Sl) (l l' : List Pr) (hb : l.length ≤ 140737488355328) : Ctr Tryd.prog 30 #[slV q l.length, slV q' l'.length] (fun m => MSrc m 2 (slV q l.length) l.length (l.flatMap Pr.row) ∧ MSrc m 2 (slV q' l'.length) l'.length (l'.flatMap Pr.row)) [] (fun _ : Unit => .bool (decide (l = l'))) (fun _ _ => True) (fun _ => []) := by
  refine Ctr.mk fun w F m C hp => x_SameProcs _ _ _ _ _ _ w _ ?_
  obtain ⟨h1, h2⟩ := hp
  by_cases hl : l.length = l'.length
  rotate_left
  · rw [if_pos (by simp; omega)]
    exact Ctr.ret () (by rw [decide_eq_false (fun h => hl (by rw [h]))]) trivial C
  rw [if_neg (by simp [hl])]
  refine ⟨fun i w' _ => ∃ j : Nat, i = j ∧ j ≤ l.length ∧ l.take j = l'.take j ∧ Ctx F m w w' [] m [], fun i _ => (l.length - i).toNat, ⟨0, rfl, by omega, rfl, C⟩, ?_⟩
  clear C
  rintro i w4 L5 _ ⟨j, rfl, hj, hjt, D⟩
  by_cases hjl : j < l.length
  · rw [if_pos (by simpa using hjl)]
    obtain ⟨a1, ha1, hc1⟩ := h1.elem pr_len hjl
    obtain ⟨a2, ha2, hc2⟩ := h2.elem pr_len (show j < l'.length by omega)
    refine ⟨by omega, by simpa using hjl, ?_⟩
    rw [ha1, onSome_some]
    refine ⟨_, _, D.cells hc1, by omega, by omega, ?_⟩
    rw [ha2, onSome_some]
    refine ⟨_, _, D.cells hc2, ?_⟩
    rw [pr_eq]
    by_cases he : l[j] = l'[j]
    · rw [if_neg (by simp [he])]
      intro w18 h18
      have e : IntKind.wrap .i64 ((j : Int) + 1) = ((j + 1 : Nat) : Int) := by rw [w_i64 (by omega) (by omega)]; omega
      rw [e]
      refine ⟨⟨j + 1, rfl, hjl, ?_, D.hid0 h18⟩, Nat.le_of_eq (by show ((l.length : Int) - ((j + 1 : Nat) : Int)).toNat + 1 = ((l.length : Int) - (j : Int)).toNat; omega)⟩
      rw [List.take_succ_eq_append_getElem hjl, List.take_succ_eq_append_getElem (by omega : j < l'.length), hjt, he]
    · rw [if_pos (by simp [he])]
      intro w19 h19
      refine Ctr.ret () ?_ trivial (D.hid0 h19)
      rw [decide_eq_false (fun h => he (by simp only [h]))]
  · rw [if_neg (by simpa using hjl)]
    have hj2 : j = l.length := by omega
    rw [hj2, List.take_length, hl, List.take_length] at hjt
    exact Ctr.ret () (by rw [decide_eq_true hjt]) trivial D
/-! ### views -/
structure Vw where (g n : Int) (q : Sl) (ms : List Pr)
@[reducible] def Vw.row (v : Vw) : List Value := [.int .u8 v.g, .int .u32 v.n, slV v.q v.ms.length]
def VwM (m : Mem) (v : Vw) : Prop := MSrc m 2 (slV v.q v.ms.length) v.ms.length (v.ms.flatMap Pr.row)
def Pr.ok (p : Pr) : Bool := decide (p.n < 16) && decide (p.l > 0)
theorem c_pRight (p : Pr) : Gives Tryd.prog 32 #[.agg p.row.toArray] (.bool p.ok) := fun w => x_pRight _ _ w _ fun w1 h1 => ⟨rfl, hid_below h1 (by simp) (Nat.le_refl _)⟩
/-- all may be, no node twice -/
abbrev okL (l : List Pr) : Prop := (∀ p ∈ l, p.ok = true) ∧ (l.map Pr.n).Nodup
def Vw.ok (v : Vw) : Bool := decide (v.g < 4 ∧ v.n ≠ 0 ∧ v.ms.length ≠ 0 ∧ v.ms.length ≤ 8 ∧ okL v.ms)
def metB (l : List Pr) (k : Int) : Bool := (l.map Pr.n).any (· == k)
def metL (l : List Pr) : List Value := [.bool (metB l 0), .bool (metB l 1), .bool (metB l 2), .bool (metB l 3), .bool (metB l 4), .bool (metB l 5), .bool (metB l 6), .bool (metB l 7), .bool (metB l 8), .bool (metB l 9), .bool (metB l 10), .bool (metB l 11), .bool (metB l 12), .bool (metB l 13), .bool (metB l 14), .bool (metB l 15)]
theorem metL_get (l : List Pr) {k : Int} (h0 : 0 ≤ k) (h1 : k < 16) : (metL l)[k.toNat]? = some (.bool (metB l k)) := by
  obtain ⟨i, rfl⟩ := Int.eq_ofNat_of_zero_le h0
  have hi : i < 16 := by omega
  match i, hi with
  | 0, _ | 1, _ | 2, _ | 3, _ | 4, _ | 5, _ | 6, _ | 7, _ | 8, _ | 9, _ | 10, _ | 11, _ | 12, _ | 13, _ | 14, _ | 15, _ => rfl
  | k + 16, h => exact absurd h (by omega)
theorem metL_put (l : List Pr) (p : Pr) (h0 : 0 ≤ p.n) (h1 : p.n < 16) : splice (metL l) p.n.toNat [.bool true] = metL (l ++ [p]) := by
  have key : ∀ i : Int, metB (l ++ [p]) i = (metB l i || (p.n == i)) := by intro i; simp [metB]
  obtain ⟨i, hk⟩ := Int.eq_ofNat_of_zero_le h0
  have hi : i < 16 := by omega
  simp only [metL, key, hk]
  match i, hi with
  | 0, _ | 1, _ | 2, _ | 3, _ | 4, _ | 5, _ | 6, _ | 7, _ | 8, _ | 9, _ | 10, _ | 11, _ | 12, _ | 13, _ | 14, _ | 15, _ => simp [splice]
  | k + 16, h => exact absurd h (by omega)
theorem okL_snoc {l : List Pr} {p : Pr} : okL (l ++ [p]) ↔ okL l ∧ p.ok = true ∧ metB l p.n = false := by
  have e : metB l p.n = false ↔ p.n ∉ l.map Pr.n := by
    rw [← Bool.not_eq_true, metB, List.any_eq_true]
    constructor
    · intro h hm; exact h ⟨_, hm, by simp⟩
    · rintro h ⟨x, hx, he⟩; exact h (by rw [← beq_iff_eq.1 he]; exact hx)
  rw [e]
  simp only [okL, List.mem_append, List.mem_singleton, List.map_append, List.map_cons, List.map_nil, List.nodup_append]
  constructor
  · rintro ⟨h1, h2, _, h3⟩
    exact ⟨⟨fun x hx => h1 x (.inl hx), h2⟩, h1 p (.inr rfl), fun hm => h3 p.n hm p.n (by simp) rfl⟩
  · rintro ⟨⟨h1, h2⟩, h3, h4⟩
    refine ⟨fun x hx => by rcases hx with hx | rfl; exact h1 x hx; exact h3, h2, by simp, fun a ha b hb hab => ?_⟩
    have hb : b = p.n := by simpa using hb
    subst hab; subst hb; exact h4 ha
theorem okL_take {l : List Pr} (h : okL l) (j : Nat) : okL (l.take j) := ⟨fun p hp => h.1 p (List.mem_of_mem_take hp), by
  rw [List.map_take]; exact h.2.sublist (List.take_sublist _ _)⟩
theorem c_vRight (v : Vw) (hr : ∀ p ∈ v.ms, 0 ≤ p.n) : Ctr Tryd.prog 14 #[.agg v.row.toArray] (fun m => VwM m v) [] (fun _ : Unit => .bool v.ok) (fun _ _ => True) (fun _ => []) := by
  refine Ctr.mk fun w F m C hv => x_vRight _ _ _ _ _ w _ ?_
  by_cases hg : (((decide (v.g ≥ 4) || (v.n == 0)) || (((v.ms.length : Nat) : Int) == 0)) || decide (((v.ms.length : Nat) : Int) > 8)) = true
  · rw [if_pos hg]
    intro w17 h17
    refine Ctr.ret () ?_ trivial (C.hid0 h17)
    have : v.ok = false := by
      simp only [Bool.or_eq_true, decide_eq_true_eq, beq_iff_eq] at hg
      simp only [Vw.ok, decide_eq_false_iff_not]
      rintro ⟨h1, h2, h3, h4, _⟩; omega
    rw [this]
  rw [if_neg hg]
  have hg' : v.g < 4 ∧ v.n ≠ 0 ∧ v.ms.length ≠ 0 ∧ v.ms.length ≤ 8 := by
    simp only [Bool.or_eq_true, decide_eq_true_eq, beq_iff_eq, not_or] at hg; omega
  have hok : v.ok = decide (okL v.ms) := by
    simp only [Vw.ok]
    congr 1
    exact propext ⟨fun h => h.2.2.2.2, fun h => ⟨hg'.1, hg'.2.1, hg'.2.2.1, hg'.2.2.2, h⟩⟩
  refine fun w1 L2 h1 g1 => ?_
  have C1 := (C.hidL h1 g1).alloc (metL []) 64
  refine ⟨fun i w' L' => ∃ j : Nat, i = j ∧ j ≤ v.ms.length ∧ okL (v.ms.take j) ∧ Ctx F m w w' L' m [blk w1.heap.size (metL (v.ms.take j)) 64], fun i _ => ((v.ms.length : Int) - i).toNat, ⟨0, rfl, by omega, ⟨by simp, by simp⟩, C1⟩, ?_⟩
  clear C C1
  rintro i w6 L7 _ ⟨j, rfl, hj, hjo, D⟩
  have bad : okL v.ms → ∀ {w' L'}, okL v.ms → Ctx F m w w' L' m [blk w1.heap.size (metL (v.ms.take j)) 64] → True := fun _ _ _ _ _ => trivial
  by_cases hjl : j < v.ms.length
  rotate_left
  · rw [if_neg (by simpa using hjl)]
    have hj2 : j = v.ms.length := by omega
    rw [hj2, List.take_length] at hjo
    exact Ctr.ret () (by rw [hok, decide_eq_true hjo]) trivial D.drop
  rw [if_pos (by simpa using hjl)]
  obtain ⟨a, ha, hc⟩ := hv.elem pr_len hjl
  have ha : v.q.1 = some a := ha
  refine ⟨by omega, by simpa using hjl, ?_⟩
  rw [ha, onSome_some, Int.toNat_natCast]
  have hr0 := hr _ (List.getElem_mem hjl)
  refine ⟨_, _, D.cells hc, D.cellsL hc, fun w11 L12 h11 g11 => ?_⟩
  have hsn : okL (v.ms.take (j + 1)) ↔ okL (v.ms.take j) ∧ v.ms[j].ok = true ∧ metB (v.ms.take j) v.ms[j].n = false := by
    rw [List.take_succ_eq_append_getElem hjl]; exact okL_snoc
  have no : ¬ (v.ms[j].ok = true ∧ metB (v.ms.take j) v.ms[j].n = false) → v.ok = false := fun h => by
    rw [hok, decide_eq_false]
    exact fun ho => h (hsn.1 (okL_take ho (j + 1))).2
  have hst : v.ms.take (j + 1) = v.ms.take j ++ [v.ms[j]] := List.take_succ_eq_append_getElem hjl
  generalize v.ms[j] = p at hc hr0 no hsn hst
  refine (D.hidL h11 g11).gives (c_pRight p) fun w14 k14 D => ⟨_, rfl, k14, ?_⟩
  cases hpo : p.ok with
  | false =>
    rw [if_neg (by decide)]
    exact Ctr.ret () (by rw [no (by simp [hpo])]) trivial D.drop
  | true =>
  rw [if_pos (by decide)]
  have h16 : p.n < 16 := by simp only [Pr.ok, Bool.and_eq_true, decide_eq_true_eq] at hpo; exact hpo.1
  refine ⟨hr0, h16, metB (v.ms.take j) p.n, ?_, by rw [addr_block]; exact D.blkAt.2, ?_⟩
  · rw [Nat.mul_one, Addr.add_mid]
    exact D.blkCell (j := 0 + p.n.toNat) (by rw [Nat.zero_add]; exact metL_get _ hr0 h16)
  cases hmb : metB (v.ms.take j) p.n with
  | true =>
    rw [if_pos (by decide)]
    exact Ctr.ret () (by rw [no (by simp [hmb])]) trivial D.drop
  | false =>
  rw [if_neg (by decide), Nat.mul_one, Addr.add_mid]
  have hk : p.n.toNat < 16 := by omega
  have hlen : 0 + p.n.toNat + 1 ≤ (metL (v.ms.take j)).length := by show 0 + p.n.toNat + 1 ≤ 16; omega
  have e : IntKind.wrap .i64 ((j : Int) + 1) = ((j + 1 : Nat) : Int) := by rw [w_i64 (by omega) (by omega)]; omega
  refine ⟨hr0, h16, rfl, D.there _ _ hlen, D.blkAt.2, rfl, ⟨j + 1, e, hjl, hsn.2 ⟨hjo, hpo, hmb⟩, ?_⟩, Nat.le_of_eq (by rw [e]; show ((v.ms.length : Int) - ((j + 1 : Nat) : Int)).toNat + 1 = ((v.ms.length : Int) - (j : Int)).toNat; omega)⟩
  have E := D.store (0 + p.n.toNat) [.bool true] hlen
  rw [Nat.zero_add, metL_put _ p hr0 h16, ← hst] at E
  rw [Nat.zero_add]
  exact E
theorem c_Index (q : Sl) (l : List Pr) (p : Pr) (hl : l.length ≤ 1000000) : Ctr Tryd.prog 33 #[slV q l.length, .agg p.row.toArray] (fun m => MSrc m 2 (slV q l.length) l.length (l.flatMap Pr.row)) [] (fun r : Int => .int .i64 r) (fun r _ => r < 0 ↔ p ∉ l) (fun _ => []) := by
  refine Ctr.mk fun w F m C hp => x_Index _ _ _ _ _ w _ fun w1 L2 h1 g1 => ?_
  refine ⟨fun i w' L' => ∃ j : Nat, i = j ∧ j ≤ l.length ∧ p ∉ l.take j ∧ Ctx F m w w' L' m [], fun i _ => ((l.length : Int) - i).toNat, ⟨0, rfl, by omega, by simp, C.hidL h1 g1⟩, ?_⟩
  clear C
  rintro i w6 L7 _ ⟨j, rfl, hj, hn, D⟩
  by_cases hjl : j < l.length
  rotate_left
  · rw [if_neg (by simpa using hjl)]
    have hj2 : j = l.length := by omega
    rw [hj2, List.take_length] at hn
    exact Ctr.ret (-1) rfl ⟨fun _ => hn, fun _ => by omega⟩ D
  rw [if_pos (by simpa using hjl)]
  obtain ⟨a, ha, hc⟩ := hp.elem pr_len hjl
  have ha : q.1 = some a := ha
  refine ⟨by omega, by simpa using hjl, ?_⟩
  rw [ha, onSome_some, Int.toNat_natCast]
  refine ⟨_, _, D.cells hc, D.cellsL hc, ?_⟩
  rw [pr_eq]
  by_cases he : p = l[j]
  · rw [if_pos (by simp [he])]
    refine fun w13 h13 => Ctr.ret (m' := m) (L := []) (j : Int) rfl ⟨fun h => by omega, fun h => ?_⟩ (D.hid0 h13)
    exact absurd (by rw [he]; exact List.getElem_mem hjl) h
  · rw [if_neg (by simp [he])]
    have e : IntKind.wrap .i64 ((j : Int) + 1) = ((j + 1 : Nat) : Int) := by rw [w_i64 (by omega) (by omega)]; omega
    rw [e]
    refine fun w11 L12 h11 g11 => ⟨rfl, ⟨j + 1, rfl, hjl, ?_, D.hidL h11 g11⟩, Nat.le_of_eq (by show ((l.length : Int) - ((j + 1 : Nat) : Int)).toNat + 1 = ((l.length : Int) - (j : Int)).toNat; omega)⟩
    rw [List.take_succ_eq_append_getElem hjl, List.mem_append, List.mem_singleton]
    rintro (h | h)
    · exact hn h
    · exact he h
theorem c_Rank (v : Vw) (p : Pr) (hl : v.ms.length ≤ 1000000) : Ctr Tryd.prog 17 #[.agg v.row.toArray, .agg p.row.toArray] (fun m => VwM m v) [] (fun r : Int => .int .i64 r) (fun r _ => r < 0 ↔ p ∉ v.ms) (fun _ => []) := by
  refine Ctr.mk fun w F m C hp => x_Rank _ _ _ _ _ _ _ w _ fun w1 L2 h1 g1 => ?_
  exact (c_Index v.q v.ms p hl).call (As := []) (C.hidL h1 g1) hp fun r m1 w4 hk hm hr C => ⟨_, rfl, hk, Ctr.ret (m' := m1) r rfl hr C⟩
def Vw.maj (v : Vw) : Int := ((v.ms.length / 2 + 1 : Nat) : Int)
theorem c_Majority (v : Vw) (hl : v.ms.length ≤ 1000000) : Gives Tryd.prog 20 #[.agg v.row.toArray] (.int .i64 v.maj) := fun w => x_Majority _ _ _ _ _ w _ fun w1 h1 => by
  have e : (((v.ms.length : Nat) : Int)).tdiv 2 = ((v.ms.length / 2 : Nat) : Int) := by
    rw [Int.tdiv_eq_ediv_of_nonneg (by omega)]; omega
  rw [e, w_i64 (n := ((v.ms.length / 2 : Nat) : Int)) (by omega) (by omega), w_i64 (by omega) (by omega)]
  exact ⟨by rw [Vw.maj]; rfl, hid_below h1 (by simp) (Nat.le_refl _)⟩
theorem c_rRightP (p : Pr) : Gives Tryd.prog 28 #[.agg p.row.toArray] (.bool p.ok) := fun w => x_rRightP _ _ w _ fun w1 h1 => ⟨by
  have : decide (p.l ≥ 1) = decide (p.l > 0) := decide_eq_decide.2 (by omega)
  rw [this]; rfl, hid_below h1 (by simp) (Nat.le_refl _)⟩
theorem c_rRank (q : Sl) (l : List Pr) (p : Pr) (hl : l.length ≤ 1000000) : Ctr Tryd.prog 16 #[slV q l.length, .agg p.row.toArray] (fun m => MSrc m 2 (slV q l.length) l.length (l.flatMap Pr.row)) [] (fun r : Int => .int .i64 r) (fun r _ => r < 0 ↔ p ∉ l) (fun _ => []) := by
  refine Ctr.mk fun w F m C hp => x_rRank _ _ _ _ _ w _ fun w1 L2 h1 g1 => ?_
  refine ⟨fun i w' L' => ∃ j : Nat, i = j ∧ j ≤ l.length ∧ p ∉ l.take j ∧ Ctx F m w w' L' m [], fun i _ => ((l.length : Int) - i).toNat, ⟨0, rfl, by omega, by simp, C.hidL h1 g1⟩, ?_⟩
  clear C
  rintro i w6 L7 _ ⟨j, rfl, hj, hn, D⟩
  by_cases hjl : j < l.length
  rotate_left
  · rw [if_neg (by simpa using hjl)]
    have hj2 : j = l.length := by omega
    rw [hj2, List.take_length] at hn
    exact Ctr.ret (-1) rfl ⟨fun _ => hn, fun _ => by omega⟩ D
  rw [if_pos (by simpa using hjl)]
  obtain ⟨a, ha, hc⟩ := hp.elem pr_len hjl
  have ha : q.1 = some a := ha
  refine ⟨by omega, by simpa using hjl, ?_⟩
  rw [ha, onSome_some, Int.toNat_natCast]
  refine ⟨_, _, D.cells hc, D.cellsL hc, ?_⟩
  rw [pr_eq]
  by_cases he : l[j] = p
  · rw [if_pos (by simp [he])]
    refine fun w13 h13 => Ctr.ret (m' := m) (L := []) (j : Int) rfl ⟨fun h => by omega, fun h => ?_⟩ (D.hid0 h13)
    exact absurd (by rw [← he]; exact List.getElem_mem hjl) h
  · rw [if_neg (by simp [he])]
    have e : IntKind.wrap .i64 ((j : Int) + 1) = ((j + 1 : Nat) : Int) := by rw [w_i64 (by omega) (by omega)]; omega
    rw [e]
    refine fun w11 L12 h11 g11 => ⟨rfl, ⟨j + 1, rfl, hjl, ?_, D.hidL h11 g11⟩, Nat.le_of_eq (by show ((l.length : Int) - ((j + 1 : Nat) : Int)).toNat + 1 = ((l.length : Int) - (j : Int)).toNat; omega)⟩
    rw [List.take_succ_eq_append_getElem hjl, List.mem_append, List.mem_singleton]
    rintro (h | h)
    · exact hn h
    · exact he h.symm
theorem c_rMajority (v : Vw) (hl : v.ms.length ≤ 1000000) : Gives Tryd.prog 45 #[.agg v.row.toArray] (.int .i64 v.maj) := fun w => x_rMajority _ _ _ _ _ w _ fun w1 h1 => by
  have e : (((v.ms.length : Nat) : Int)).tdiv 2 = ((v.ms.length / 2 : Nat) : Int) := by
    rw [Int.tdiv_eq_ediv_of_nonneg (by omega)]; omega
  rw [e, w_i64 (n := ((v.ms.length / 2 : Nat) : Int)) (by omega) (by omega), w_i64 (by omega) (by omega)]
  exact ⟨by rw [Vw.maj]; rfl, hid_below h1 (by simp) (Nat.le_refl _)⟩
theorem c_Own6 (v : Vw) (hl : v.ms.length * 4 ≤ 140737488355328) : Ctr Tryd.prog 7 #[.agg v.row.toArray] (fun m => VwM m v) [] (fun p : Sl => .agg (Vw.row { v with q := p }).toArray) (fun p m => VwM m { v with q := p }) (fun _ => []) := by
  refine Ctr.mk fun w F m C hv => x_Own6 _ _ _ _ _ w _ ⟨[], facts_nil _ _, fun w2 L3 h2 g2 => ?_⟩
  refine (c_Procs v.q v.ms (by omega)).call (As := []) (C.hidL h2 g2) hv fun p m1 w5 hk hm1 hp C => ⟨_, _, _, rfl, hk, facts_nil _ _, fun w9 h9 => ?_⟩
  exact Ctr.ret (m' := m1) (L := []) p rfl hp (C.hid0 h9)
def cntM (ms got : List Pr) : Nat := ms.countP fun p => decide (p ∈ got)
theorem c_rQuorum (v : Vw) (hl : v.ms.length ≤ 1000000) (gq : Sl) (got : List Pr) (hg : got.length ≤ 1000000) : Ctr Tryd.prog 29 #[.agg v.row.toArray, slV gq got.length] (fun m => VwM m v ∧ MSrc m 2 (slV gq got.length) got.length (got.flatMap Pr.row)) [] (fun b : Bool => .bool b) (fun b _ => b = decide ((cntM v.ms got : Int) ≥ v.maj)) (fun _ => []) := by
  refine Ctr.mk fun w F m C hp => x_rQuorum _ _ _ _ _ _ _ _ w _ fun w1 L2 h1 g1 => ?_
  obtain ⟨hv, hgm⟩ := hp
  refine ⟨fun n i w' L' => ∃ (j : Nat) (m' : Mem), i = j ∧ j ≤ v.ms.length ∧ n = (cntM (v.ms.take j) got : Int) ∧ cntM (v.ms.take j) got ≤ j ∧ m.le m' ∧ Ctx F m w w' L' m' [], fun _ i _ => ((v.ms.length : Int) - i).toNat, ⟨0, m, rfl, by omega, rfl, Nat.le_refl _, Mem.le_refl _, C.hidL h1 g1⟩, ?_⟩
  clear C
  rintro n i w7 L8 _ ⟨j, m', rfl, hj, rfl, hle, hm', D⟩
  by_cases hjl : j < v.ms.length
  rotate_left
  · rw [if_neg (by simpa using hjl)]
    have hj2 : j = v.ms.length := by omega
    rw [hj2, List.take_length]
    exact D.gives (c_rMajority v hl) fun w10 k10 D => ⟨_, rfl, k10, Ctr.ret (m' := m') (L := L8) _ rfl rfl D⟩
  rw [if_pos (by simpa using hjl)]
  obtain ⟨a, ha, hc⟩ := (MSrc.mono hv hm').elem pr_len hjl
  have ha : v.q.1 = some a := ha
  refine ⟨by omega, by simpa using hjl, ?_⟩
  rw [ha, onSome_some, Int.toNat_natCast]
  refine ⟨_, _, D.cells hc, D.cellsL hc, ?_⟩
  have e : IntKind.wrap .i64 ((j : Int) + 1) = ((j + 1 : Nat) : Int) := by rw [w_i64 (by omega) (by omega)]; omega
  have hst : cntM (v.ms.take (j + 1)) got = cntM (v.ms.take j) got + if v.ms[j] ∈ got then 1 else 0 := by
    rw [List.take_succ_eq_append_getElem hjl, cntM, List.countP_append]; simp [cntM, List.countP_cons]
  refine (c_rRank gq got v.ms[j] hg).call (As := []) D (hgm.mono hm') fun r m2 w16 hk hm2 hr D => ⟨_, rfl, hk, ?_⟩
  by_cases hin : v.ms[j] ∈ got
  · have : ¬ r < 0 := fun h => hr.1 h hin
    rw [if_pos (by simp; omega), e]
    rw [if_pos hin] at hst
    refine ⟨rfl, ⟨j + 1, m2, rfl, hjl, ?_, by omega, hm'.le_trans hm2, D⟩, Nat.le_of_eq (by show ((v.ms.length : Int) - ((j + 1 : Nat) : Int)).toNat + 1 = ((v.ms.length : Int) - (j : Int)).toNat; omega)⟩
    rw [w_i64 (by omega) (by omega), hst]; omega
  · have := hr.2 hin
    rw [if_neg (by simp; omega), e]
    rw [if_neg hin] at hst
    exact ⟨rfl, ⟨j + 1, m2, rfl, hjl, by rw [hst]; rfl, by omega, hm'.le_trans hm2, D⟩, Nat.le_of_eq (by show ((v.ms.length : Int) - ((j + 1 : Nat) : Int)).toNat + 1 = ((v.ms.length : Int) - (j : Int)).toNat; omega)⟩
/-- those who were heard, counted among the members -/
theorem cnt_eq : ∀ {got ms : List Pr}, got.Nodup → (∀ p ∈ got, p ∈ ms) → ms.Nodup → cntM ms got = got.length
  | got, ms, h1, h2, h3 => by
    rw [cntM, List.countP_eq_length_filter]
    refine (List.perm_ext_iff_of_nodup (h3.filter _) h1).2 (fun p => ?_) |>.length_eq
    simp only [List.mem_filter, decide_eq_true_eq]
    exact ⟨fun h => h.2, fun h => ⟨h2 p h, h⟩⟩
theorem nodup_of_nodes {l : List Pr} (h : (l.map Pr.n).Nodup) : l.Nodup := List.Pairwise.of_map Pr.n (fun a b hab e => hab (by rw [e])) h
theorem c_rRight (v : Vw) (hr : ∀ p ∈ v.ms, 0 ≤ p.n) (hn : 0 ≤ v.n) : Ctr Tryd.prog 27 #[.agg v.row.toArray] (fun m => VwM m v) [] (fun _ : Unit => .bool v.ok) (fun _ _ => True) (fun _ => []) := by
  refine Ctr.mk fun w F m C hv => x_rRight _ _ _ _ _ w _ ?_
  by_cases hg : (((decide (v.g ≥ 4) || decide (v.n < 1)) || decide (((v.ms.length : Nat) : Int) < 1)) || decide (((v.ms.length : Nat) : Int) > 8)) = true
  · rw [if_pos hg]
    intro w17 h17
    refine Ctr.ret () ?_ trivial (C.hid0 h17)
    have : v.ok = false := by
      simp only [Bool.or_eq_true, decide_eq_true_eq] at hg
      simp only [Vw.ok, decide_eq_false_iff_not]
      rintro ⟨h1, h2, h3, h4, _⟩; omega
    rw [this]
  rw [if_neg hg]
  have hg' : v.g < 4 ∧ v.n ≠ 0 ∧ v.ms.length ≠ 0 ∧ v.ms.length ≤ 8 := by
    simp only [Bool.or_eq_true, decide_eq_true_eq, not_or] at hg; omega
  have hok : v.ok = decide (okL v.ms) := by
    simp only [Vw.ok]
    congr 1
    exact propext ⟨fun h => h.2.2.2.2, fun h => ⟨hg'.1, hg'.2.1, hg'.2.2.1, hg'.2.2.2, h⟩⟩
  refine fun w1 L2 h1 g1 => ?_
  refine ⟨fun i w' L' => ∃ j : Nat, i = j ∧ j ≤ v.ms.length ∧ okL (v.ms.take j) ∧ Ctx F m w w' L' m [], fun i _ => ((v.ms.length : Int) - i).toNat, ⟨0, rfl, by omega, ⟨by simp, by simp⟩, C.hidL h1 g1⟩, ?_⟩
  clear C
  rintro i w6 L7 _ ⟨j, rfl, hj, hjo, D⟩
  by_cases hjl : j < v.ms.length
  rotate_left
  · rw [if_neg (by simpa using hjl)]
    have hj2 : j = v.ms.length := by omega
    rw [hj2, List.take_length] at hjo
    exact Ctr.ret () (by rw [hok, decide_eq_true hjo]) trivial D
  rw [if_pos (by simpa using hjl)]
  obtain ⟨a, ha, hc⟩ := hv.elem pr_len hjl
  have ha : v.q.1 = some a := ha
  refine ⟨by omega, by simpa using hjl, ?_⟩
  rw [ha, onSome_some, Int.toNat_natCast]
  refine ⟨_, _, D.cells hc, D.cellsL hc, ?_⟩
  have hsn : okL (v.ms.take (j + 1)) ↔ okL (v.ms.take j) ∧ v.ms[j].ok = true ∧ metB (v.ms.take j) v.ms[j].n = false := by
    rw [List.take_succ_eq_append_getElem hjl]; exact okL_snoc
  have no : ¬ (v.ms[j].ok = true ∧ metB (v.ms.take j) v.ms[j].n = false) → v.ok = false := fun h => by
    rw [hok, decide_eq_false]
    exact fun ho => h (hsn.1 (okL_take ho (j + 1))).2
  refine D.gives (c_rRightP v.ms[j]) fun w12 k12 D => ⟨_, rfl, k12, ?_⟩
  cases hpo : v.ms[j].ok with
  | false =>
    rw [if_pos (by decide)]
    exact Ctr.ret () (by rw [no (by simp [hpo])]) trivial D
  | true =>
  rw [if_neg (by decide)]
  refine ⟨fun i w' L' => ∃ k : Nat, i = k ∧ k ≤ j ∧ metB (v.ms.take k) v.ms[j].n = false ∧ Ctx F m w w' L' m [], fun i _ => ((j : Int) - i).toNat, ⟨0, rfl, by omega, rfl, D⟩, ?_⟩
  clear D
  rintro i w17 L18 _ ⟨k, rfl, hk, hkm, D⟩
  by_cases hkj : k < j
  rotate_left
  · rw [if_neg (by simpa using hkj)]
    have hk2 : k = j := by omega
    subst hk2
    have e : IntKind.wrap .i64 ((k : Int) + 1) = ((k + 1 : Nat) : Int) := by rw [w_i64 (by omega) (by omega)]; omega
    rw [e]
    exact ⟨rfl, ⟨k + 1, rfl, hjl, hsn.2 ⟨hjo, hpo, hkm⟩, D⟩, Nat.le_of_eq (by show ((v.ms.length : Int) - ((k + 1 : Nat) : Int)).toNat + 1 = ((v.ms.length : Int) - (k : Int)).toNat; omega)⟩
  rw [if_pos (by simpa using hkj)]
  have hkl : k < v.ms.length := by omega
  obtain ⟨a2, ha2, hc2⟩ := hv.elem pr_len hkl
  have e2 : a2 = a := by
    have : v.q.1 = some a2 := ha2
    rw [ha] at this; injection this with this; exact this.symm
  subst e2
  refine ⟨by omega, by omega, ?_⟩
  rw [onSome_some, Int.toNat_natCast]
  refine ⟨_, D.cells hc2 0 _ rfl, by rw [addr_block]; exact D.cellsL hc2, by omega, by omega, ?_⟩
  rw [onSome_some]
  refine ⟨_, D.cells hc 0 _ rfl, by rw [addr_block]; exact D.cellsL hc, ?_⟩
  have hmk : metB (v.ms.take (k + 1)) v.ms[j].n = (v.ms[k].n == v.ms[j].n) := by
    rw [List.take_succ_eq_append_getElem hkl]
    simp only [metB, List.map_append, List.any_append] at hkm ⊢
    rw [hkm]; simp
  by_cases he : v.ms[k].n = v.ms[j].n
  · rw [if_pos (by simp [he])]
    refine fun w25 h25 => Ctr.ret (m' := m) (L := []) () ?_ trivial (D.hid0 h25)
    rw [no]
    rintro ⟨_, h⟩
    have h3 : metB (v.ms.take j) v.ms[j].n = true := by
      rw [metB, List.any_eq_true]
      refine ⟨v.ms[k].n, List.mem_map.2 ⟨v.ms[k], ?_, rfl⟩, by simp [he]⟩
      exact List.mem_take_iff_getElem.2 ⟨k, by omega, rfl⟩
    rw [h3] at h; cases h
  · rw [if_neg (by simp [he])]
    have e : IntKind.wrap .i64 ((k : Int) + 1) = ((k + 1 : Nat) : Int) := by rw [w_i64 (by omega) (by omega)]; omega
    rw [e]
    exact fun w23 L24 h23 g23 => ⟨rfl, ⟨k + 1, rfl, hkj, by rw [hmk]; simp [he], D.hidL h23 g23⟩, Nat.le_of_eq (by show ((j : Int) - ((k + 1 : Nat) : Int)).toNat + 1 = ((j : Int) - (k : Int)).toNat; omega)⟩
end Go.Proofs
