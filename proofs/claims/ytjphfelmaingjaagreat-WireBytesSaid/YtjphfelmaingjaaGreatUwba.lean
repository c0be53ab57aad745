import Derived.Test.YtjphfelmaingjaaGreatVwba
import Derived.Test.YtjphfelmaingjaaGreatXPm
import Derived.WideKeyRuns
import Derived.Laws.IdiomRangeMap
import Derived.Test.YtjphfelmaingjaaGreatXSub
import Derived.Test.YtjphfelmaingjaaGreatXElems
import Derived.Test.YtjphfelmaingjaaGreatXSmall
import Derived.Test.YtjphfelmaingjaaGreatXSized
set_option linter.unusedVariables false
set_option linter.unusedSimpArgs false
set_option maxHeartbeats 1000000
set_option maxRecDepth 10000
namespace Go.Proofs
open Go X RowKit
abbrev noMem : Mem → Prop := fun _ => True
abbrev Sl := Option Addr × Nat
abbrev slV (p : Sl) (n : Nat) : Value := .slice p.1 n p.2
theorem ba_eq (a b : ByteArray) : (a == b) = true ↔ a = b := by
  obtain ⟨a⟩ := a
  obtain ⟨b⟩ := b
  constructor
  · intro h
    have : (a == b) = true := h
    rw [beq_iff_eq.1 this]
  · intro h
    injection h with h; subst h
    show (a == a) = true
    simp
structure Pt where (g k : Int) (key val : ByteArray) (n : Int)
@[reducible] def Pt.row (p : Pt) : List Value := [.int .u8 p.g, .int .u8 p.k, .string p.key, .string p.val, .int .i64 p.n]
theorem pt_len (p : Pt) : p.row.length = 5 := rfl
theorem pt_one (x : Pt) : ∀ u ∈ x.row, oneC u = true := by intro u h; simp [Pt.row] at h; rcases h with rfl | rfl | rfl | rfl | rfl <;> rfl
theorem pt_ext {a b : Pt} (h : a.g = b.g ∧ a.k = b.k ∧ a.key = b.key ∧ a.val = b.val ∧ a.n = b.n) : a = b := by cases a; cases b; simp_all
instance : DecidableEq Pt := fun a b => decidable_of_iff (a.g = b.g ∧ a.k = b.k ∧ a.key = b.key ∧ a.val = b.val ∧ a.n = b.n) ⟨pt_ext, fun h => by subst h; exact ⟨rfl, rfl, rfl, rfl, rfl⟩⟩
theorem pt_eq (a b : Pt) : ((a.g == b.g) && ((a.k == b.k) && ((a.key == b.key) && ((a.val == b.val) && (a.n == b.n))))) = decide (a = b) := by
  rw [Bool.eq_iff_iff, decide_eq_true_eq]
  simp only [Bool.and_eq_true, beq_iff_eq, ba_eq]
  exact ⟨fun h => pt_ext h, fun h => by subst h; exact ⟨rfl, rfl, rfl, rfl, rfl⟩⟩
structure Wr where (key val : ByteArray) (has : Bool)
@[reducible] def Wr.row (p : Wr) : List Value := [.string p.key, .string p.val, .bool p.has]
theorem wr_len (p : Wr) : p.row.length = 3 := rfl
theorem wr_one (x : Wr) : ∀ u ∈ x.row, oneC u = true := by intro u h; simp [Wr.row] at h; rcases h with rfl | rfl | rfl <;> rfl
theorem wr_ext {a b : Wr} (h : a.key = b.key ∧ a.val = b.val ∧ a.has = b.has) : a = b := by cases a; cases b; simp_all
instance : DecidableEq Wr := fun a b => decidable_of_iff (a.key = b.key ∧ a.val = b.val ∧ a.has = b.has) ⟨wr_ext, fun h => by subst h; exact ⟨rfl, rfl, rfl⟩⟩
theorem wr_eq (a b : Wr) : ((a.key == b.key) && ((a.val == b.val) && (a.has == b.has))) = decide (a = b) := by
  rw [Bool.eq_iff_iff, decide_eq_true_eq]
  simp only [Bool.and_eq_true, beq_iff_eq, ba_eq]
  exact ⟨fun h => wr_ext h, fun h => by subst h; exact ⟨rfl, rfl, rfl⟩⟩
theorem c_Part (p : Pt) : Gives Tryz.prog 69 #[.agg p.row.toArray] (.agg p.row.toArray) := fun w => x_Part _ _ _ _ _ w _ fun w1 h1 => ⟨rfl, hid_below h1 (by simp) (Nat.le_refl _)⟩
theorem c_EqualP (q q' : Sl) (l l' : List Pt) (hb : l.length ≤ 140737488355328) : Ctr Tryz.prog 108 #[slV q l.length, slV q' l'.length] (fun m => MSrc m 5 (slV q l.length) l.length (l.flatMap Pt.row) ∧ MSrc m 5 (slV q' l'.length) l'.length (l'.flatMap Pt.row)) [] (fun _ : Unit => .bool (decide (l = l'))) (fun _ _ => True) (fun _ => []) := by
  refine Ctr.mk fun w F m C hp => x_EqualP _ _ _ _ _ _ w _ ?_
  obtain ⟨h1, h2⟩ := hp
  by_cases hl : l.length = l'.length
  rotate_left
  · rw [if_pos (by simp; omega)]
    exact Ctr.ret () (by rw [decide_eq_false (fun h => hl (by rw [h]))]) trivial C
  rw [if_neg (by simp [hl])]
  refine ⟨fun i w' _ => ∃ j : Nat, i = j ∧ j ≤ l.length ∧ l.take j = l'.take j ∧ Ctx F m w w' [] m [], fun i _ => (l.length - i).toNat, ⟨0, rfl, by omega, rfl, C⟩, ?_⟩
  clear C
  rintro i w4 L5 _ ⟨j, rfl, hj, hjt, D⟩
  by_cases hjl : j < l.length
  · rw [if_pos (by simpa using hjl)]
    obtain ⟨a1, ha1, hc1⟩ := h1.elem pt_len hjl
    obtain ⟨a2, ha2, hc2⟩ := h2.elem pt_len (show j < l'.length by omega)
    refine ⟨by omega, by simpa using hjl, ?_⟩
    rw [ha1, onSome_some]
    refine ⟨_, _, _, _, _, D.cells hc1, by omega, by omega, ?_⟩
    rw [ha2, onSome_some]
    refine ⟨_, _, _, _, _, D.cells hc2, ?_⟩
    rw [pt_eq]
    by_cases he : l[j] = l'[j]
    · rw [if_neg (by simp [he])]
      intro w18 h18
      have e : IntKind.wrap .i64 ((j : Int) + 1) = ((j + 1 : Nat) : Int) := by rw [w_i64 (by omega) (by omega)]; omega
      rw [e]
      refine ⟨⟨j + 1, rfl, hjl, ?_, D.hid0 h18⟩, Nat.le_of_eq (by show ((l.length : Int) - ((j + 1 : Nat) : Int)).toNat + 1 = ((l.length : Int) - (j : Int)).toNat; omega)⟩
      rw [List.take_succ_eq_append_getElem hjl, List.take_succ_eq_append_getElem (by omega : j < l'.length), hjt, he]
    · rw [if_pos (by simp [he])]
      intro w19 h19
      refine Ctr.ret () ?_ trivial (D.hid0 h19)
      rw [decide_eq_false (fun h => he (by simp only [h]))]
  · rw [if_neg (by simpa using hjl)]
    have hj2 : j = l.length := by omega
    rw [hj2, List.take_length, hl, List.take_length] at hjt
    exact Ctr.ret () (by rw [decide_eq_true hjt]) trivial D
theorem c_r3Same (q q' : Sl) (l l' : List Pt) (hb : l.length ≤ 140737488355328) : Ctr Tryz.prog 42 #[slV q l.length, slV q' l'.length] (fun m => MSrc m 5 (slV q l.length) l.length (l.flatMap Pt.row) ∧ MSrc m 5 (slV q' l'.length) l'.length (l'.flatMap Pt.row)) [] (fun _ : Unit => .bool (decide (l = l'))) (fun _ _ => True) (fun _ => []) := by
  refine Ctr.mk fun w F m C hp => x_r3Same _ _ _ _ _ _ w _ ?_
  obtain ⟨h1, h2⟩ := hp
  by_cases hl : l.length = l'.length
  rotate_left
  · rw [if_pos (by simp; omega)]
    exact Ctr.ret () (by rw [decide_eq_false (fun h => hl (by rw [h]))]) trivial C
  rw [if_neg (by simp [hl])]
  refine ⟨fun i w' _ => ∃ j : Nat, i = j ∧ j ≤ l.length ∧ l.take j = l'.take j ∧ Ctx F m w w' [] m [], fun i _ => (l.length - i).toNat, ⟨0, rfl, by omega, rfl, C⟩, ?_⟩
  clear C
  rintro i w4 L5 _ ⟨j, rfl, hj, hjt, D⟩
  by_cases hjl : j < l.length
  · rw [if_pos (by simpa using hjl)]
    obtain ⟨a1, ha1, hc1⟩ := h1.elem pt_len hjl
    obtain ⟨a2, ha2, hc2⟩ := h2.elem pt_len (show j < l'.length by omega)
    refine ⟨by omega, by simpa using hjl, ?_⟩
    rw [ha1, onSome_some]
    refine ⟨_, _, _, _, _, D.cells hc1, by omega, by omega, ?_⟩
    rw [ha2, onSome_some]
    refine ⟨_, _, _, _, _, D.cells hc2, ?_⟩
    rw [pt_eq]
    by_cases he : l[j] = l'[j]
    · rw [if_neg (by simp [he])]
      intro w18 h18
      have e : IntKind.wrap .i64 ((j : Int) + 1) = ((j + 1 : Nat) : Int) := by rw [w_i64 (by omega) (by omega)]; omega
      rw [e]
      refine ⟨⟨j + 1, rfl, hjl, ?_, D.hid0 h18⟩, Nat.le_of_eq (by show ((l.length : Int) - ((j + 1 : Nat) : Int)).toNat + 1 = ((l.length : Int) - (j : Int)).toNat; omega)⟩
      rw [List.take_succ_eq_append_getElem hjl, List.take_succ_eq_append_getElem (by omega : j < l'.length), hjt, he]
    · rw [if_pos (by simp [he])]
      intro w19 h19
      refine Ctr.ret () ?_ trivial (D.hid0 h19)
      rw [decide_eq_false (fun h => he (by simp only [h]))]
  · rw [if_neg (by simpa using hjl)]
    have hj2 : j = l.length := by omega
    rw [hj2, List.take_length, hl, List.take_length] at hjt
    exact Ctr.ret () (by rw [decide_eq_true hjt]) trivial D
theorem c_EqualW (q q' : Sl) (l l' : List Wr) (hb : l.length ≤ 140737488355328) : Ctr Tryz.prog 147 #[slV q l.length, slV q' l'.length] (fun m => MSrc m 3 (slV q l.length) l.length (l.flatMap Wr.row) ∧ MSrc m 3 (slV q' l'.length) l'.length (l'.flatMap Wr.row)) [] (fun _ : Unit => .bool (decide (l = l'))) (fun _ _ => True) (fun _ => []) := by
  refine Ctr.mk fun w F m C hp => x_EqualW _ _ _ _ _ _ w _ ?_
  obtain ⟨h1, h2⟩ := hp
  by_cases hl : l.length = l'.length
  rotate_left
  · rw [if_pos (by simp; omega)]
    exact Ctr.ret () (by rw [decide_eq_false (fun h => hl (by rw [h]))]) trivial C
  rw [if_neg (by simp [hl])]
  refine ⟨fun i w' _ => ∃ j : Nat, i = j ∧ j ≤ l.length ∧ l.take j = l'.take j ∧ Ctx F m w w' [] m [], fun i _ => (l.length - i).toNat, ⟨0, rfl, by omega, rfl, C⟩, ?_⟩
  clear C
  rintro i w4 L5 _ ⟨j, rfl, hj, hjt, D⟩
  by_cases hjl : j < l.length
  · rw [if_pos (by simpa using hjl)]
    obtain ⟨a1, ha1, hc1⟩ := h1.elem wr_len hjl
    obtain ⟨a2, ha2, hc2⟩ := h2.elem wr_len (show j < l'.length by omega)
    refine ⟨by omega, by simpa using hjl, ?_⟩
    rw [ha1, onSome_some]
    refine ⟨_, _, _, D.cells hc1, by omega, by omega, ?_⟩
    rw [ha2, onSome_some]
    refine ⟨_, _, _, D.cells hc2, ?_⟩
    rw [wr_eq]
    by_cases he : l[j] = l'[j]
    · rw [if_neg (by simp [he])]
      intro w18 h18
      have e : IntKind.wrap .i64 ((j : Int) + 1) = ((j + 1 : Nat) : Int) := by rw [w_i64 (by omega) (by omega)]; omega
      rw [e]
      refine ⟨⟨j + 1, rfl, hjl, ?_, D.hid0 h18⟩, Nat.le_of_eq (by show ((l.length : Int) - ((j + 1 : Nat) : Int)).toNat + 1 = ((l.length : Int) - (j : Int)).toNat; omega)⟩
      rw [List.take_succ_eq_append_getElem hjl, List.take_succ_eq_append_getElem (by omega : j < l'.length), hjt, he]
    · rw [if_pos (by simp [he])]
      intro w19 h19
      refine Ctr.ret () ?_ trivial (D.hid0 h19)
      rw [decide_eq_false (fun h => he (by simp only [h]))]
  · rw [if_neg (by simpa using hjl)]
    have hj2 : j = l.length := by omega
    rw [hj2, List.take_length, hl, List.take_length] at hjt
    exact Ctr.ret () (by rw [decide_eq_true hjt]) trivial D
theorem c_r4Same (q q' : Sl) (l l' : List Wr) (hb : l.length ≤ 140737488355328) : Ctr Tryz.prog 145 #[slV q l.length, slV q' l'.length] (fun m => MSrc m 3 (slV q l.length) l.length (l.flatMap Wr.row) ∧ MSrc m 3 (slV q' l'.length) l'.length (l'.flatMap Wr.row)) [] (fun _ : Unit => .bool (decide (l = l'))) (fun _ _ => True) (fun _ => []) := by
  refine Ctr.mk fun w F m C hp => x_r4Same _ _ _ _ _ _ w _ ?_
  obtain ⟨h1, h2⟩ := hp
  by_cases hl : l.length = l'.length
  rotate_left
  · rw [if_pos (by simp; omega)]
    exact Ctr.ret () (by rw [decide_eq_false (fun h => hl (by rw [h]))]) trivial C
  rw [if_neg (by simp [hl])]
  refine ⟨fun i w' _ => ∃ j : Nat, i = j ∧ j ≤ l.length ∧ l.take j = l'.take j ∧ Ctx F m w w' [] m [], fun i _ => (l.length - i).toNat, ⟨0, rfl, by omega, rfl, C⟩, ?_⟩
  clear C
  rintro i w4 L5 _ ⟨j, rfl, hj, hjt, D⟩
  by_cases hjl : j < l.length
  · rw [if_pos (by simpa using hjl)]
    obtain ⟨a1, ha1, hc1⟩ := h1.elem wr_len hjl
    obtain ⟨a2, ha2, hc2⟩ := h2.elem wr_len (show j < l'.length by omega)
    refine ⟨by omega, by simpa using hjl, ?_⟩
    rw [ha1, onSome_some]
    refine ⟨_, _, _, D.cells hc1, by omega, by omega, ?_⟩
    rw [ha2, onSome_some]
    refine ⟨_, _, _, D.cells hc2, ?_⟩
    rw [wr_eq]
    by_cases he : l[j] = l'[j]
    · rw [if_neg (by simp [he])]
      intro w18 h18
      have e : IntKind.wrap .i64 ((j : Int) + 1) = ((j + 1 : Nat) : Int) := by rw [w_i64 (by omega) (by omega)]; omega
      rw [e]
      refine ⟨⟨j + 1, rfl, hjl, ?_, D.hid0 h18⟩, Nat.le_of_eq (by show ((l.length : Int) - ((j + 1 : Nat) : Int)).toNat + 1 = ((l.length : Int) - (j : Int)).toNat; omega)⟩
      rw [List.take_succ_eq_append_getElem hjl, List.take_succ_eq_append_getElem (by omega : j < l'.length), hjt, he]
    · rw [if_pos (by simp [he])]
      intro w19 h19
      refine Ctr.ret () ?_ trivial (D.hid0 h19)
      rw [decide_eq_false (fun h => he (by simp only [h]))]
  · rw [if_neg (by simpa using hjl)]
    have hj2 : j = l.length := by omega
    rw [hj2, List.take_length, hl, List.take_length] at hjt
    exact Ctr.ret () (by rw [decide_eq_true hjt]) trivial D


theorem mcells_part {m : Mem} {a : Addr} {cs : List Value} (h : MCells m a cs) (o : Nat) (us : List Value) (hu : ∀ j v, us[j]? = some v → cs[o + j]? = some v) : MCells m (a.add o) us := fun j v e => by
  rw [Addr.add_add]; exact h _ _ (hu j v e)
structure I where (n l s d g0 i0 g1 i1 g2 i2 : Int)
@[reducible] def I.V (x : I) : Value := .agg #[.int .u8 x.n, .int .u16 x.l, .int .u32 x.s, .int .u8 x.d, .int .u8 x.g0, .int .u8 x.i0, .int .u8 x.g1, .int .u8 x.i1, .int .u8 x.g2, .int .u8 x.i2]
def I.zero : I := ⟨0, 0, 0, 0, 0, 0, 0, 0, 0, 0⟩
structure I.In (x : I) : Prop where
  n : 0 ≤ x.n ∧ x.n < 256
  l : 0 ≤ x.l ∧ x.l < 65536
  s : 0 ≤ x.s ∧ x.s < 4294967296
  d : 0 ≤ x.d ∧ x.d < 256
  g0 : 0 ≤ x.g0 ∧ x.g0 < 256
  i0 : 0 ≤ x.i0 ∧ x.i0 < 256
  g1 : 0 ≤ x.g1 ∧ x.g1 < 256
  i1 : 0 ≤ x.i1 ∧ x.i1 < 256
  g2 : 0 ≤ x.g2 ∧ x.g2 < 256
  i2 : 0 ≤ x.i2 ∧ x.i2 < 256
@[reducible] def PV (n l : Int) : Value := .agg #[.int .u8 n, .int .u16 l]
@[reducible] def I.row (x : I) : List Value := [.int .u8 x.n, .int .u16 x.l, .int .u32 x.s, .int .u8 x.d, .int .u8 x.g0, .int .u8 x.i0, .int .u8 x.g1, .int .u8 x.i1, .int .u8 x.g2, .int .u8 x.i2]
theorem I.ext' {a b : I} (h : a.n = b.n ∧ a.l = b.l ∧ a.s = b.s ∧ a.d = b.d ∧ a.g0 = b.g0 ∧ a.i0 = b.i0 ∧ a.g1 = b.g1 ∧ a.i1 = b.i1 ∧ a.g2 = b.g2 ∧ a.i2 = b.i2) : a = b := by cases a; cases b; simp_all
instance : DecidableEq I := fun a b => decidable_of_iff (a.n = b.n ∧ a.l = b.l ∧ a.s = b.s ∧ a.d = b.d ∧ a.g0 = b.g0 ∧ a.i0 = b.i0 ∧ a.g1 = b.g1 ∧ a.i1 = b.i1 ∧ a.g2 = b.g2 ∧ a.i2 = b.i2) (by cases a; cases b; simp)
theorem i_eqd (a d : I) : (((a.n == d.n) && (a.l == d.l)) && ((a.s == d.s) && ((a.d == d.d) && (((a.g0 == d.g0) && (a.i0 == d.i0)) && (((a.g1 == d.g1) && (a.i1 == d.i1)) && ((a.g2 == d.g2) && (a.i2 == d.i2))))))) = decide (a = d) := by
  rw [Bool.eq_iff_iff, decide_eq_true_eq]
  simp only [Bool.and_eq_true, beq_iff_eq]
  constructor
  · rintro ⟨⟨h1, h2⟩, h3, h4, ⟨h5, h6⟩, ⟨h7, h8⟩, h9, h10⟩
    exact I.ext' ⟨h1, h2, h3, h4, h5, h6, h7, h8, h9, h10⟩
  · rintro rfl; simp
theorem c_Proc (n l : Int) : Gives Tryz.prog 27 #[PV n l] (PV n l) := fun w => x_gemotlaw02_Proc n l w _ fun w1 h1 => ⟨rfl, hid_below h1 (by simp) (Nat.le_refl _)⟩
theorem c_ID (x : I) : Gives Tryz.prog 23 #[x.V] x.V := by
  intro w
  refine x_gemotlaw02_ID _ _ _ _ _ _ _ _ _ _ w _ ⟨[], facts_nil _ _, ?_, ?_⟩
  all_goals
    intro w2 L h1 h2
    have A := at_start h1 h2
    refine (c_Proc x.n x.l).call fun w5 h5 => ⟨_, _, rfl, at_kept A h5, facts_nil _ _, [], facts_nil _ _, [], facts_nil _ _, [], facts_nil _ _, fun w11 h11 => ⟨rfl, ?_⟩⟩
    exact at_end (at_call A (Nat.le_refl _) h5) (Nat.le_refl _) h11
theorem c_Res (c : Int) (s : ByteArray) : Gives Tryz.prog 25 #[.agg #[.int .u8 c, .string s]] (.agg #[.int .u8 c, .string s]) := fun w => x_gemotlaw03_Res c s w _ fun w1 h1 => ⟨rfl, hid_below h1 (by simp) (Nat.le_refl _)⟩
structure En where (kd : Int) (id : I) (fl : Int) (pq : Sl) (ps : List Pt) (rc : Int) (rv : ByteArray) (wq : Sl) (ws : List Wr) (vn vl : Int)
@[reducible] def En.row (e : En) : List Value := [.int .u8 e.kd, .int .u8 e.id.n, .int .u16 e.id.l, .int .u32 e.id.s, .int .u8 e.id.d, .int .u8 e.id.g0, .int .u8 e.id.i0, .int .u8 e.id.g1, .int .u8 e.id.i1, .int .u8 e.id.g2, .int .u8 e.id.i2, .int .u32 e.fl, slV e.pq e.ps.length, .int .u8 e.rc, .string e.rv, slV e.wq e.ws.length, .int .u8 e.vn, .int .u16 e.vl]
theorem en_len (e : En) : e.row.length = 18 := rfl
structure Ev where (kd : Int) (id : I) (fl : Int) (ps : List Pt) (rc : Int) (rv : ByteArray) (ws : List Wr) (vn vl : Int)
def En.er (e : En) : Ev := ⟨e.kd, e.id, e.fl, e.ps, e.rc, e.rv, e.ws, e.vn, e.vl⟩
theorem ev_ext {a b : Ev} (h : a.kd = b.kd ∧ a.id = b.id ∧ a.fl = b.fl ∧ a.ps = b.ps ∧ a.rc = b.rc ∧ a.rv = b.rv ∧ a.ws = b.ws ∧ a.vn = b.vn ∧ a.vl = b.vl) : a = b := by cases a; cases b; simp_all
instance : DecidableEq Ev := fun a b => decidable_of_iff (a.kd = b.kd ∧ a.id = b.id ∧ a.fl = b.fl ∧ a.ps = b.ps ∧ a.rc = b.rc ∧ a.rv = b.rv ∧ a.ws = b.ws ∧ a.vn = b.vn ∧ a.vl = b.vl) ⟨ev_ext, fun h => by subst h; exact ⟨rfl, rfl, rfl, rfl, rfl, rfl, rfl, rfl, rfl⟩⟩
structure EnM (m : Mem) (e : En) : Prop where
  p : MSrc m 5 (slV e.pq e.ps.length) e.ps.length (e.ps.flatMap Pt.row)
  w : MSrc m 3 (slV e.wq e.ws.length) e.ws.length (e.ws.flatMap Wr.row)
  pl : e.ps.length ≤ 1000000
  wl : e.ws.length ≤ 1000000
theorem EnM.mono {m m' : Mem} {e : En} (h : EnM m e) (hm : m.le m') : EnM m' e := ⟨h.p.mono hm, h.w.mono hm, h.pl, h.wl⟩
theorem c_pSame (q q' : Sl) (l l' : List Pt) (hb : l.length ≤ 140737488355328) : Ctr Tryz.prog 53 #[slV q l.length, slV q' l'.length] (fun m => MSrc m 5 (slV q l.length) l.length (l.flatMap Pt.row) ∧ MSrc m 5 (slV q' l'.length) l'.length (l'.flatMap Pt.row)) [] (fun _ : Unit => .bool (decide (l = l'))) (fun _ _ => True) (fun _ => []) := by
  refine Ctr.mk fun w F m C hp => x_pSame _ _ _ _ _ _ w _ ?_
  exact (c_EqualP q q' l l' hb).call (As := []) C hp fun _ m1 w2 hk hm _ C => ⟨_, rfl, hk.size, Ctr.ret () rfl trivial C⟩
theorem ev_eq (a b : En) : (decide (a.er = b.er)) = (((a.kd == b.kd) && decide (a.id = b.id)) && (a.fl == b.fl) && decide (a.ps = b.ps) && ((a.rc == b.rc) && (a.rv == b.rv)) && decide (a.ws = b.ws) && ((a.vn == b.vn) && (a.vl == b.vl))) := by
  rw [Bool.eq_iff_iff, decide_eq_true_eq]
  simp only [Bool.and_eq_true, beq_iff_eq, ba_eq, decide_eq_true_eq]
  constructor
  · intro h
    have h' := h
    simp only [En.er, Ev.mk.injEq] at h'
    obtain ⟨h1, h2, h3, h4, h5, h6, h7, h8, h9⟩ := h'
    exact ⟨⟨⟨⟨⟨⟨h1, h2⟩, h3⟩, h4⟩, h5, h6⟩, h7⟩, h8, h9⟩
  · rintro ⟨⟨⟨⟨⟨⟨h1, h2⟩, h3⟩, h4⟩, h5, h6⟩, h7⟩, h8, h9⟩
    exact ev_ext ⟨h1, h2, h3, h4, h5, h6, h7, h8, h9⟩
theorem c_eSame (a b : En) : Ctr Tryz.prog 110 #[.agg a.row.toArray, .agg b.row.toArray] (fun m => EnM m a ∧ EnM m b) [] (fun _ : Unit => .bool (decide (a.er = b.er))) (fun _ _ => True) (fun _ => []) := by
  refine Ctr.mk fun w F m C hp => x_eSame _ _ _ _ _ _ _ _ _ _ _ _ _ _ _ _ _ _ _ _ _ _ _ _ _ _ _ _ _ _ _ _ _ _ _ _ _ _ _ _ _ _ _ _ w _ ?_
  obtain ⟨ha, hb⟩ := hp
  rw [ev_eq, i_eqd]
  by_cases h1 : ((a.kd == b.kd) && decide (a.id = b.id) && (a.fl == b.fl)) = true
  rotate_left
  · have h1' : ((a.kd == b.kd) && decide (a.id = b.id) && (a.fl == b.fl)) = false := by simpa using h1
    rw [if_neg (by rw [h1']; decide)]
    intro w1 h1w
    exact Ctr.ret () (by rw [h1']; simp) trivial (C.hid0 h1w)
  rw [if_pos (by rw [h1]; decide)]
  intro w2 L3 h2 g2
  refine (c_pSame a.pq b.pq a.ps b.ps (by have := ha.pl; omega)).call (As := []) (C.hidL h2 g2) ⟨ha.p, hb.p⟩ fun _ m1 w5 hk hm1 _ C => ⟨_, rfl, hk, ?_⟩
  by_cases h3 : ((true && decide (a.ps = b.ps)) && ((a.rc == b.rc) && (a.rv == b.rv))) = true
  rotate_left
  · have h3' : ((true && decide (a.ps = b.ps)) && ((a.rc == b.rc) && (a.rv == b.rv))) = false := by simpa using h3
    rw [if_neg (by rw [h3']; decide)]
    rw [Bool.true_and] at h3'
    exact Ctr.ret () (by rw [h1, Bool.true_and, h3']; simp) trivial C
  rw [if_pos (by rw [h3]; decide)]
  refine (c_EqualW a.wq b.wq a.ws b.ws (by have := ha.wl; omega)).call (As := []) C ⟨ha.w.mono hm1, hb.w.mono hm1⟩ fun _ m2 w8 hk hm2 _ C => ⟨_, rfl, hk, ?_⟩
  exact Ctr.ret () (by rw [h1, h3]) trivial C
theorem c_r5Same (a b : En) : Ctr Tryz.prog 105 #[.agg a.row.toArray, .agg b.row.toArray] (fun m => EnM m a ∧ EnM m b) [] (fun _ : Unit => .bool (decide (a.er = b.er))) (fun _ _ => True) (fun _ => []) := by
  refine Ctr.mk fun w F m C hp => x_r5Same _ _ _ _ _ _ _ _ _ _ _ _ _ _ _ _ _ _ _ _ _ _ _ _ _ _ _ _ _ _ _ _ _ _ _ _ _ _ _ _ _ _ _ _ w _ ?_
  obtain ⟨ha, hb⟩ := hp
  rw [ev_eq, i_eqd]
  by_cases h1 : ((a.kd == b.kd) && decide (a.id = b.id) && (a.fl == b.fl)) = true
  rotate_left
  · have h1' : ((a.kd == b.kd) && decide (a.id = b.id) && (a.fl == b.fl)) = false := by simpa using h1
    rw [if_neg (by rw [h1']; decide)]
    intro w1 h1w
    exact Ctr.ret () (by rw [h1']; simp) trivial (C.hid0 h1w)
  rw [if_pos (by rw [h1]; decide)]
  intro w2 L3 h2 g2
  refine (c_r3Same a.pq b.pq a.ps b.ps (by have := ha.pl; omega)).call (As := []) (C.hidL h2 g2) ⟨ha.p, hb.p⟩ fun _ m1 w5 hk hm1 _ C => ⟨_, rfl, hk, ?_⟩
  by_cases h3 : ((true && decide (a.ps = b.ps)) && ((a.rc == b.rc) && (a.rv == b.rv))) = true
  rotate_left
  · have h3' : ((true && decide (a.ps = b.ps)) && ((a.rc == b.rc) && (a.rv == b.rv))) = false := by simpa using h3
    rw [if_neg (by rw [h3']; decide)]
    rw [Bool.true_and] at h3'
    exact Ctr.ret () (by rw [h1, Bool.true_and, h3']; simp) trivial C
  rw [if_pos (by rw [h3]; decide)]
  refine (c_r4Same a.wq b.wq a.ws b.ws (by have := ha.wl; omega)).call (As := []) C ⟨ha.w.mono hm1, hb.w.mono hm1⟩ fun _ m2 w8 hk hm2 _ C => ⟨_, rfl, hk, ?_⟩
  exact Ctr.ret () (by rw [h1, h3]) trivial C
theorem mnI (c : Int) (k : Nat) (hc : 0 ≤ c) : 0 ≤ (if c < (k : Int) then c else (k : Int)) ∧ (if c < (k : Int) then c else (k : Int)) ≤ c ∧ (if c < (k : Int) then c else (k : Int)) ≤ k := by split <;> omega
theorem c_Light3 (q : Sl) (l : List Pt) : Ctr Tryz.prog 16 #[slV q l.length] (fun m => MSrc m 5 (slV q l.length) l.length (l.flatMap Pt.row)) [] (fun b : Bool => .bool b) (fun _ _ => True) (fun _ => []) := by
  refine Ctr.mk fun w F m C hp => x_Light3 _ _ _ w _ ?_
  refine ⟨fun n i w' _ => ∃ j : Nat, i = j ∧ j ≤ 300 ∧ -9000 ≤ n ∧ n ≤ 3000 ∧ Ctx F m w w' [] m [], fun _ i _ => (300 - i).toNat, ⟨0, rfl, by omega, by omega, by omega, C⟩, ?_⟩
  clear C
  rintro n i w5 L6 _ ⟨j, rfl, hj, h1, h2, D⟩
  by_cases hg : ((decide ((j : Int) < ((l.length : Nat) : Int)) && decide ((j : Int) < 300)) && decide (n ≥ 0)) = true
  · rw [if_pos hg]
    simp only [Bool.and_eq_true, decide_eq_true_eq] at hg
    have hjl : j < l.length := by omega
    obtain ⟨a, ha, hc⟩ := hp.elem pt_len hjl
    refine ⟨by omega, by omega, ?_⟩
    rw [ha, onSome_some]
    have hcc := D.cells hc
    rw [Int.toNat_natCast]
    refine ⟨_, hcc 2 _ rfl, by omega, by omega, ?_⟩
    rw [onSome_some]
    refine ⟨_, hcc 3 _ rfl, fun w11 h11 => ?_⟩
    obtain ⟨a1, a2, _⟩ := mnI 4000 l[j].key.size (by omega)
    obtain ⟨b1, b2, _⟩ := mnI 4000 l[j].val.size (by omega)
    generalize (if (4000 : Int) < ((l[j].key.size : Nat) : Int) then (4000 : Int) else ((l[j].key.size : Nat) : Int)) = x at a1 a2 ⊢
    generalize (if (4000 : Int) < ((l[j].val.size : Nat) : Int) then (4000 : Int) else ((l[j].val.size : Nat) : Int)) = y at b1 b2 ⊢
    rw [w_i64 (n := n - 3) (by omega) (by omega), w_i64 (n := n - 3 - x) (by omega) (by omega), w_i64 (n := n - 3 - x - y) (by omega) (by omega), w_i64 (n := (j : Int) + 1) (by omega) (by omega)]
    exact ⟨⟨j + 1, by omega, by omega, by omega, by omega, D.hid0 h11⟩, Nat.le_of_eq (by show (300 - ((j : Int) + 1)).toNat + 1 = (300 - (j : Int)).toNat; omega)⟩
  · rw [if_neg hg]
    exact Ctr.ret (decide (n ≥ 0)) rfl trivial D
structure EnM0 (m : Mem) (e : En) : Prop where
  p : MSrc m 5 (slV e.pq e.ps.length) e.ps.length (e.ps.flatMap Pt.row)
  w : MSrc m 3 (slV e.wq e.ws.length) e.ws.length (e.ws.flatMap Wr.row)
theorem EnM0.mono {m m' : Mem} {e : En} (h : EnM0 m e) (hm : m.le m') : EnM0 m' e := ⟨h.p.mono hm, h.w.mono hm⟩
theorem c_Light5 (q : Sl) (l : List En) : Ctr Tryz.prog 17 #[slV q l.length] (fun m => MSrc m 18 (slV q l.length) l.length (l.flatMap En.row) ∧ ∀ e ∈ l, EnM0 m e) [] (fun b : Bool => .bool b) (fun b _ => b = true → l.length ≤ 150 ∧ ∀ e ∈ l, e.ps.length < 200 ∧ e.ws.length ≤ 300) (fun _ => []) := by
  refine Ctr.mk fun w F m C hp => x_Light5 _ _ _ w _ ?_
  obtain ⟨hp, he⟩ := hp
  refine ⟨fun n i w' _ => ∃ j : Nat, ∃ m' : Mem, i = j ∧ j ≤ 200 ∧ j ≤ l.length ∧ -10000000 ≤ n ∧ n ≤ 6000 ∧ m.le m' ∧ (0 ≤ n → ∀ e ∈ l.take j, e.ps.length < 200 ∧ e.ws.length ≤ 300) ∧ Ctx F m w w' [] m' [], fun _ i _ => (200 - i).toNat, ⟨0, m, rfl, by omega, by omega, by omega, by omega, Mem.le_refl _, by simp, C⟩, ?_⟩
  clear C
  rintro n i w5 L6 _ ⟨j, m', rfl, hj, hjl0, h1, h2, hm', hok, D⟩
  by_cases hg : ((decide ((j : Int) < ((l.length : Nat) : Int)) && decide ((j : Int) < 200)) && decide (n ≥ 0)) = true
  rotate_left
  · rw [if_neg hg]
    refine Ctr.ret (decide (n ≥ 0) && decide (((l.length : Nat) : Int) ≤ 150)) rfl (fun hb => ?_) D
    simp only [Bool.and_eq_true, decide_eq_true_eq] at hb hg
    refine ⟨by omega, ?_⟩
    have := hok (by omega)
    rwa [show j = l.length by omega, List.take_length] at this
  rw [if_pos hg]
  simp only [Bool.and_eq_true, decide_eq_true_eq] at hg
  have hjl : j < l.length := by omega
  obtain ⟨a, ha, hc⟩ := (hp.mono hm').elem en_len hjl
  refine ⟨by omega, by omega, ?_⟩
  rw [ha, onSome_some]
  have hem := (he _ (List.getElem_mem hjl)).mono hm'
  generalize he0 : l[j] = e at hc hem
  refine ⟨_, _, _, _, _, _, _, _, _, _, _, _, _, _, _, _, _, _, _, _, _, _, by rw [Int.toNat_natCast]; exact D.cells hc, fun w30 L31 h30 g30 => ?_⟩
  refine (c_Light3 e.pq e.ps).call (As := []) (D.hidL h30 g30) hem.p fun b3 m2 w33 hk hm2 _ D => ⟨_, rfl, hk, ?_⟩
  by_cases hbad : ((!b3) || decide (((e.ws.length : Nat) : Int) > 300)) = true
  · rw [if_pos hbad]
    exact Ctr.ret false rfl (by simp) D
  rw [if_neg hbad]
  simp only [Bool.or_eq_true, decide_eq_true_eq, not_or] at hbad
  have hwl : e.ws.length ≤ 300 := by omega
  obtain ⟨a1, a2, _⟩ := mnI 7000 e.rv.size (by omega)
  have b12 : 0 ≤ (if (200 : Int) < ((e.ps.length : Nat) : Int) then (200 : Int) else ((e.ps.length : Nat) : Int)) ∧ (if (200 : Int) < ((e.ps.length : Nat) : Int) then (200 : Int) else ((e.ps.length : Nat) : Int)) ≤ 200 ∧ ((if (200 : Int) < ((e.ps.length : Nat) : Int) then (200 : Int) else ((e.ps.length : Nat) : Int)) < 200 → e.ps.length < 200) := by
    split <;> omega
  obtain ⟨b1, b2, b3'⟩ := b12
  generalize (if (7000 : Int) < ((e.rv.size : Nat) : Int) then (7000 : Int) else ((e.rv.size : Nat) : Int)) = x at a1 a2 ⊢
  generalize (if (200 : Int) < ((e.ps.length : Nat) : Int) then (200 : Int) else ((e.ps.length : Nat) : Int)) = y at b1 b2 b3' ⊢
  rw [w_i64 (n := n - 10) (by omega) (by omega), w_i64 (n := n - 10 - x) (by omega) (by omega), w_i64 (n := 30 * y) (by omega) (by omega), w_i64 (n := n - 10 - x - 30 * y) (by omega) (by omega)]
  refine ⟨fun n' i' w' L' => ∃ k : Nat, i' = k ∧ k ≤ e.ws.length ∧ -20000 - 20000 * (k : Int) ≤ n' ∧ n' ≤ n - 10 - 30 * y ∧ Ctx F m w w' L' m2 [], fun _ i _ => ((e.ws.length : Int) - i).toNat, ⟨0, rfl, by omega, by omega, by omega, D⟩, ?_⟩
  clear D
  rintro n' i' w39 L40 _ ⟨k, rfl, hk1, hk2, hk3, D⟩
  by_cases hkl : k < e.ws.length
  rotate_left
  · rw [if_neg (by simpa using hkl), w_i64 (n := (j : Int) + 1) (by omega) (by omega)]
    refine ⟨⟨j + 1, m2, by omega, by omega, by omega, by omega, by omega, hm'.le_trans hm2, fun h0 e' h => ?_, D.noL⟩, Nat.le_of_eq (by show (200 - ((j : Int) + 1)).toNat + 1 = (200 - (j : Int)).toNat; omega)⟩
    rw [List.take_succ_eq_append_getElem hjl, he0] at h
    rcases List.mem_append.1 h with h | h
    · exact hok (by omega) e' h
    · simp only [List.mem_singleton] at h; subst h
      exact ⟨b3' (by omega), hwl⟩
  rw [if_pos (by simpa using hkl)]
  obtain ⟨p, hp1, hc1⟩ := (hem.w.mono hm2).elem wr_len hkl
  refine ⟨by omega, by omega, ?_⟩
  have hcc := D.cells hc1
  have hnl := D.cellsL hc1
  rw [hp1, onSome_some, Int.toNat_natCast]
  refine ⟨_, hcc 0 _ rfl, by rw [addr_block]; exact hnl, by omega, by omega, ?_⟩
  rw [onSome_some]
  refine ⟨_, hcc 1 _ rfl, by simpa using hnl, fun w45 L46 h45 g45 => ⟨rfl, ?_⟩⟩
  obtain ⟨c1, c2, _⟩ := mnI 7000 e.ws[k].key.size (by omega)
  obtain ⟨d1, d2, _⟩ := mnI 7000 e.ws[k].val.size (by omega)
  generalize (if (7000 : Int) < ((e.ws[k].key.size : Nat) : Int) then (7000 : Int) else ((e.ws[k].key.size : Nat) : Int)) = x' at c1 c2 ⊢
  generalize (if (7000 : Int) < ((e.ws[k].val.size : Nat) : Int) then (7000 : Int) else ((e.ws[k].val.size : Nat) : Int)) = y' at d1 d2 ⊢
  rw [w_i64 (n := n' - 1) (by omega) (by omega), w_i64 (n := n' - 1 - x') (by omega) (by omega), w_i64 (n := n' - 1 - x' - y') (by omega) (by omega), w_i64 (n := (k : Int) + 1) (by omega) (by omega)]
  exact ⟨⟨k + 1, by omega, by omega, by omega, by omega, D.hidL h45 g45⟩, Nat.le_of_eq (by show ((e.ws.length : Int) - ((k : Int) + 1)).toNat + 1 = ((e.ws.length : Int) - (k : Int)).toNat; omega)⟩
theorem c_RefPart (p : Pt) : Gives Tryz.prog 106 #[.agg p.row.toArray] (.agg p.row.toArray) := fun w => x_RefPart _ _ _ _ _ w _ fun w1 h1 => ⟨rfl, hid_below h1 (by simp) (Nat.le_refl _)⟩
theorem c_RefParts (q : Sl) (l : List Pt) (hl : l.length * 48 ≤ 140737488355328) : Ctr Tryz.prog 47 #[slV q l.length] (fun m => MSrc m 5 (slV q l.length) l.length (l.flatMap Pt.row)) [] (fun p : Sl => slV p l.length) (fun p m => MSrc m 5 (slV p l.length) l.length (l.flatMap Pt.row)) (fun _ => []) := by
  refine Ctr.mk fun w F m C hp => x_RefParts _ _ _ w _ ?_
  refine ⟨fun p k c i w' _ => ∃ (j : Nat) (m' : Mem), i = j ∧ j = k ∧ j ≤ l.length ∧ m.le m' ∧ Ctx F m w w' [] m' [slA (.slice p j c) j ((l.take j).flatMap Pt.row) 121 5], fun _ _ _ i _ => (l.length - i).toNat, ⟨0, m, rfl, rfl, by omega, Mem.le_refl _, C.slNil⟩, ?_⟩
  clear C
  rintro p k c i w7 L8 _ ⟨j, m', rfl, rfl, hj, hm, D⟩
  by_cases hjl : j < l.length
  · rw [if_pos (by simpa using hjl)]
    refine ⟨by omega, by simpa using hjl, ?_⟩
    obtain ⟨a, ha, hc⟩ := (hp.mono hm).elem pt_len hjl
    have ha : q.1 = some a := ha
    rw [ha, onSome_some]
    refine ⟨_, _, _, _, _, D.cells hc, ?_⟩
    refine D.gives (c_RefPart l[j]) fun w16 k16 D => ⟨_, _, _, _, _, rfl, k16.size, ?_⟩
    have D1 := (D.alloc l[j].row 121).swap
    have hcl : Cells _ ⟨w16.heap.size, 0, none⟩ l[j].row := (D.alloc l[j].row 121).blkCells (o := 0) fun k v e => by simpa using e
    obtain ⟨q2, c2, w25, hr, hkk, D2⟩ := D1.app2 (P := Tryz.prog) (bytes := 48) (t := 32) (t2 := 32) 32 (by kernel_rfl) (.some ⟨w16.heap.size, 0, none⟩ 1 1 l[j].row rfl hcl) (by unfold maxLen; omega) (by omega) (pt_one _)
    have e : IntKind.wrap .i64 ((j : Int) + 1) = ((j + 1 : Nat) : Int) := by rw [w_i64 (by omega) (by omega)]; omega
    refine ⟨q2, j + 1, c2, w25, hr, hkk.size, ?_⟩
    rw [e]
    refine ⟨⟨j + 1, m', rfl, rfl, hjl, hm, ?_⟩, Nat.le_of_eq (by show ((l.length : Int) - ((j + 1 : Nat) : Int)).toNat + 1 = ((l.length : Int) - (j : Int)).toNat; omega)⟩
    have e2 : (l.take (j + 1)).flatMap Pt.row = (l.take j).flatMap Pt.row ++ l[j].row := by rw [List.take_succ_eq_append_getElem hjl, List.flatMap_append]; simp
    rw [e2]
    exact Ctx.noL (D2.pk [0] [1] rfl)
  · rw [if_neg (by simpa using hjl)]
    have hj2 : j = l.length := by omega
    subst hj2
    rw [List.take_length] at D
    obtain ⟨m2, hm2, hs, D2⟩ := D.slShare
    exact Ctr.ret (m' := m2) (L := []) (p, c) rfl hs D2.noL
theorem c_Ref4 (q : Sl) (l : List Wr) (hl : l.length * 40 ≤ 140737488355328) : Ctr Tryz.prog 146 #[slV q l.length] (fun m => MSrc m 3 (slV q l.length) l.length (l.flatMap Wr.row)) [] (fun p : Sl => slV p l.length) (fun p m => MSrc m 3 (slV p l.length) l.length (l.flatMap Wr.row)) (fun _ => []) := by
  refine Ctr.mk fun w F m C hp => x_Ref4 _ _ _ w _ ?_
  refine ⟨fun p k c i w' _ => ∃ (j : Nat) (m' : Mem), i = j ∧ j = k ∧ j ≤ l.length ∧ m.le m' ∧ Ctx F m w w' [] m' [slA (.slice p j c) j ((l.take j).flatMap Wr.row) 126 3], fun _ _ _ i _ => (l.length - i).toNat, ⟨0, m, rfl, rfl, by omega, Mem.le_refl _, C.slNil⟩, ?_⟩
  clear C
  rintro p k c i w7 L8 _ ⟨j, m', rfl, rfl, hj, hm, D⟩
  by_cases hjl : j < l.length
  · rw [if_pos (by simpa using hjl)]
    obtain ⟨a, ha, hc⟩ := (hp.mono hm).elem wr_len hjl
    have ha : q.1 = some a := ha
    have hfw : ∀ {w' As}, Ctx F m w w' [] m' As → FactsW [((a.add (j * 3)).add 0, [.string l[j].key]), ((a.add (j * 3)).add 1, [.string l[j].val]), ((a.add (j * 3)).add 2, [.bool l[j].has])] w' [] := fun D =>
      D.memFact (mcells_part hc 0 _ (fun k v e => by match k, e with | 0, e => exact e)) (D.memFact (mcells_part hc 1 _ (fun k v e => by match k, e with | 0, e => exact e)) (D.memFact (mcells_part hc 2 _ (fun k v e => by match k, e with | 0, e => exact e)) (facts_nil _ _)))
    refine ⟨_, hfw D, by omega, by simpa using hjl, ?_⟩
    rw [ha, onSome_some]
    refine ⟨l[j].key, by rw [Int.toNat_natCast]; simp, by omega, by simpa using hjl, ?_⟩
    rw [onSome_some]
    refine ⟨l[j].val, by rw [Int.toNat_natCast]; simp, by omega, by simpa using hjl, ?_⟩
    rw [onSome_some]
    refine ⟨l[j].has, by rw [Int.toNat_natCast]; simp, fun w16 h16 => ?_⟩
    replace D := D.hid0 h16
    have D1 := (D.alloc l[j].row 126).swap
    have hcl : Cells _ ⟨w16.heap.size, 0, none⟩ l[j].row := (D.alloc l[j].row 126).blkCells (o := 0) fun k v e => by simpa using e
    obtain ⟨q2, c2, w25, hr, hkk, D2⟩ := D1.app2 (P := Tryz.prog) (bytes := 40) (t := 122) (t2 := 122) 122 (by kernel_rfl) (.some ⟨w16.heap.size, 0, none⟩ 1 1 l[j].row rfl hcl) (by unfold maxLen; omega) (by omega) (wr_one _)
    have e : IntKind.wrap .i64 ((j : Int) + 1) = ((j + 1 : Nat) : Int) := by rw [w_i64 (by omega) (by omega)]; omega
    refine ⟨hfw D1, q2, j + 1, c2, w25, hr, hkk.size, hfw D2, ?_⟩
    rw [e]
    refine ⟨⟨j + 1, m', rfl, rfl, hjl, hm, ?_⟩, Nat.le_of_eq (by show ((l.length : Int) - ((j + 1 : Nat) : Int)).toNat + 1 = ((l.length : Int) - (j : Int)).toNat; omega)⟩
    have e2 : (l.take (j + 1)).flatMap Wr.row = (l.take j).flatMap Wr.row ++ l[j].row := by rw [List.take_succ_eq_append_getElem hjl, List.flatMap_append]; simp
    rw [e2]
    exact Ctx.noL (D2.pk [0] [1] rfl)
  · rw [if_neg (by simpa using hjl)]
    have hj2 : j = l.length := by omega
    subst hj2
    rw [List.take_length] at D
    obtain ⟨m2, hm2, hs, D2⟩ := D.slShare
    exact Ctr.ret (m' := m2) (L := []) (p, c) rfl hs D2.noL
theorem c_RefProc (n l : Int) : Gives Tryz.prog 50 #[PV n l] (PV n l) := fun w => x_RefProc n l w _ fun w1 h1 => ⟨rfl, hid_below h1 (by simp) (Nat.le_refl _)⟩
theorem c_RefRes (c : Int) (s : ByteArray) : Gives Tryz.prog 48 #[.agg #[.int .u8 c, .string s]] (.agg #[.int .u8 c, .string s]) := fun w => x_RefRes c s w _ fun w1 h1 => ⟨rfl, hid_below h1 (by simp) (Nat.le_refl _)⟩
theorem c_RefID (x : I) : Gives Tryz.prog 46 #[x.V] x.V := by
  intro w
  refine x_RefID _ _ _ _ _ _ _ _ _ _ w _ ⟨[], facts_nil _ _, ?_, ?_⟩
  all_goals
    intro w2 L h1 h2
    have A := at_start h1 h2
    refine (c_RefProc x.n x.l).call fun w5 h5 => ⟨_, _, rfl, at_kept A h5, facts_nil _ _, [], facts_nil _ _, [], facts_nil _ _, [], facts_nil _ _, fun w11 h11 => ⟨rfl, ?_⟩⟩
    exact at_end (at_call A (Nat.le_refl _) h5) (Nat.le_refl _) h11
theorem c_Ref5 (e : En) : Ctr Tryz.prog 107 #[.agg e.row.toArray] (fun m => EnM m e) [] (fun f : En => .agg f.row.toArray) (fun f m => EnM m f ∧ f.er = e.er) (fun _ => []) := by
  refine Ctr.mk fun w F m C he => x_Ref5 _ _ _ _ _ _ _ _ _ _ _ _ _ _ _ _ _ _ _ _ _ _ w _ ⟨[], facts_nil _ _, fun w2 L3 h2 g2 => ?_⟩
  refine (C.hidL h2 g2).gives (c_RefID e.id) fun w5 k5 C => ⟨_, _, _, _, _, _, _, _, _, _, rfl, k5, facts_nil _ _, ?_⟩
  refine (c_RefParts e.pq e.ps (by have := he.pl; omega)).call (As := []) C he.p fun p m1 w17 hk hm1 hp C => ⟨_, _, _, rfl, hk, facts_nil _ _, ?_⟩
  refine C.gives (c_RefRes e.rc e.rv) fun w22 k22 C => ⟨_, _, rfl, k22, facts_nil _ _, ?_⟩
  refine (c_Ref4 e.wq e.ws (by have := he.wl; omega)).call (As := []) C (he.w.mono hm1) fun q m2 w26 hk hm2 hq C => ⟨_, _, _, rfl, hk, facts_nil _ _, ?_⟩
  refine C.gives (c_RefProc e.vn e.vl) fun w31 k31 C => ⟨_, _, rfl, k31, facts_nil _ _, fun w34 h34 => ?_⟩
  exact Ctr.ret (m' := m2) (L := []) { e with pq := p, wq := q } rfl ⟨⟨hp.mono hm2, hq, he.pl, he.wl⟩, rfl⟩ (C.hid0 h34)

end Go.Proofs
namespace Go.Proofs
open Go X RowKit
theorem toL_data (s : ByteArray) : s.toList = s.data.toList := toBA_list s.data.toList
theorem emp_eq (s : ByteArray) : (s.toList == (ByteArray.mk #[]).toList) = decide (s.size = 0) := by
  rw [toL_data, toL_data, Bool.eq_iff_iff]
  simp only [beq_iff_eq, decide_eq_true_eq]
  show s.data.toList = [] ↔ s.data.size = 0
  rw [← Array.length_toList]
  exact List.length_eq_zero_iff.symm
def Pt.fits (p : Pt) : Bool :=
  if p.k = 1 then decide (((p.val.size : Nat) : Int) ≤ 64) && (p.n == 0)
  else if p.k = 2 ∨ p.k = 3 then decide (p.val.size = 0) && decide (p.n ≥ 0)
  else if p.k = 0 ∨ p.k = 4 then decide (p.val.size = 0) && (p.n == 0) else false
def Pt.right (p : Pt) : Bool := ((decide (p.g < 4) && !decide (p.key.size = 0)) && decide (((p.key.size : Nat) : Int) ≤ 16)) && p.fits
theorem c_fits (p : Pt) : Gives Tryz.prog 175 #[.agg p.row.toArray] (.bool p.fits) := by
  intro w
  refine x_part_Part_fits _ _ _ _ _ w _ ?_
  have key : ∀ b, b = p.fits → ∀ w1 : World, Hid [] w w1 → (Ending.returned (.bool b) = Ending.returned (.bool p.fits) ∧ Bel w.heap.size w w1) := fun b hb w1 h1 => ⟨by rw [hb], hid_below h1 (by simp) (Nat.le_refl _)⟩
  simp only [emp_eq]
  (repeat' split) <;> (refine key _ ?_; simp_all [Pt.fits])
theorem c_PRight (p : Pt) : Gives Tryz.prog 164 #[.agg p.row.toArray] (.bool p.right) := by
  intro w
  refine x_part_Part_Right _ _ _ _ _ w _ ?_
  rw [emp_eq]
  by_cases h : ((decide (p.g < 4) && !decide (p.key.size = 0)) && decide (((p.key.size : Nat) : Int) ≤ 16)) = true
  · rw [if_pos (by rw [h]; rfl)]
    intro w2 L3 h2 g2
    have A := at_start h2 g2
    refine (c_fits p).call fun w5 b5 => ⟨_, rfl, at_kept A b5, by rw [Pt.right, h], (at_call A (Nat.le_refl _) b5).bel⟩
  · rw [if_neg (by simpa using h)]
    intro w1 h1
    refine ⟨by rw [Pt.right, Bool.eq_false_iff.2 h]; rfl, hid_below h1 (by simp) (Nat.le_refl _)⟩
theorem c_notRight (p : Pt) : Gives Tryz.prog 163 #[.agg p.row.toArray] (.bool (!p.right)) := by
  intro w
  refine x_part_Right_1 _ _ _ _ _ w _ fun w1 L2 h1 g1 => ?_
  have A := at_start h1 g1
  exact (c_PRight p).call fun w5 b5 => ⟨_, rfl, at_kept A b5, rfl, (at_call A (Nat.le_refl _) b5).bel⟩
def rightL (l : List Pt) : Bool := (decide (1 ≤ l.length) && decide (l.length ≤ 4)) && l.all Pt.right
theorem c_IndexF (q : Sl) (l : List Pt) (hl : l.length * 48 ≤ 140737488355328) : Ctr Tryz.prog 174 #[slV q l.length, .func (.func 163) #[] #[]] (fun m => MSrc m 5 (slV q l.length) l.length (l.flatMap Pt.row)) [] (fun i : Int => .int .i64 i) (fun i m => decide (i ≥ 0) = !(l.all Pt.right)) (fun _ => []) := by
  refine Ctr.mk fun w F m C hp => x_IndexF _ _ _ w _ ?_
  refine ⟨fun i w' _ => ∃ j : Nat, i = j ∧ j ≤ l.length ∧ (l.take j).all Pt.right = true ∧ Ctx F m w w' [] m [], fun i _ => (l.length - i).toNat, ⟨0, rfl, by omega, rfl, C⟩, ?_⟩
  clear C
  rintro i w4 L5 _ ⟨j, rfl, hj, hjt, D⟩
  by_cases hjl : j < l.length
  · rw [if_pos (by simpa using hjl)]
    obtain ⟨a, ha, hc⟩ := hp.elem pt_len hjl
    have ha : q.1 = some a := ha
    refine ⟨by omega, by simpa using hjl, ?_⟩
    rw [ha, onSome_some]
    refine ⟨_, _, _, _, _, D.cells hc, ?_⟩
    refine D.gives (c_notRight l[j]) fun w13 k13 D => ⟨_, rfl, k13.size, ?_⟩
    by_cases hr : l[j].right = true
    · rw [if_neg (by simp [hr])]
      have e : IntKind.wrap .i64 ((j : Int) + 1) = ((j + 1 : Nat) : Int) := by rw [w_i64 (by omega) (by omega)]; omega
      rw [e]
      refine ⟨⟨j + 1, rfl, hjl, ?_, D⟩, Nat.le_of_eq (by show ((l.length : Int) - ((j + 1 : Nat) : Int)).toNat + 1 = ((l.length : Int) - (j : Int)).toNat; omega)⟩
      rw [List.take_succ_eq_append_getElem hjl, List.all_append, hjt]; simp [hr]
    · rw [if_pos (by simp [hr])]
      refine Ctr.ret (j : Int) rfl ?_ D
      have : l.all Pt.right = false := by rw [Bool.eq_false_iff]; intro h; exact hr (List.all_eq_true.1 h _ (List.getElem_mem hjl))
      rw [this]; simp
  · rw [if_neg (by simpa using hjl)]
    have hj2 : j = l.length := by omega
    rw [hj2, List.take_length] at hjt
    exact Ctr.ret (-1) rfl (by rw [hjt]; rfl) D
theorem c_partRight (q : Sl) (l : List Pt) (hl : l.length * 48 ≤ 140737488355328) : Ctr Tryz.prog 148 #[slV q l.length] (fun m => MSrc m 5 (slV q l.length) l.length (l.flatMap Pt.row)) [] (fun _ : Unit => .bool (rightL l)) (fun _ m => True) (fun _ => []) := by
  refine Ctr.mk fun w F m C hp => x_part_Right _ _ _ w _ ?_
  by_cases h : (decide (((l.length : Nat) : Int) < 1) || decide (((l.length : Nat) : Int) > 4)) = true
  · rw [if_pos h]
    refine Ctr.ret () ?_ trivial C
    have : rightL l = false := by
      simp only [Bool.or_eq_true, decide_eq_true_eq] at h
      rw [rightL, Bool.eq_false_iff]; intro hh
      simp only [Bool.and_eq_true, decide_eq_true_eq] at hh
      omega
    rw [this]
  · rw [if_neg h]
    refine ⟨x_ContainsF _ _ _ w _ ?_⟩
    refine (c_IndexF q l hl).call (As := []) C hp fun i m2 w4 hk hm hi C => ⟨i, rfl, hk.size, ?_⟩
    refine ⟨_, rfl, hk.size, Ctr.ret () ?_ trivial C⟩
    rw [hi, Bool.not_not, rightL]
    have : (decide (1 ≤ l.length) && decide (l.length ≤ 4)) = true := by
      simp only [Bool.or_eq_true, decide_eq_true_eq, not_or] at h
      simp; omega
    rw [this, Bool.true_and]
theorem fits_bool (p : Pt) (hk : 0 ≤ p.k) : (((((((decide (p.g < 4) && decide (p.k ≤ 4)) && decide ((((p.key.size) : Nat) : Int) ≥ 1)) && decide ((((p.key.size) : Nat) : Int) ≤ 16)) && decide ((((p.val.size) : Nat) : Int) ≤ 64)) && ((p.k == 1) || decide (p.val.size = 0))) && decide (p.n ≥ 0)) && (((p.k == 2) || (p.k == 3)) || (p.n == 0))) = p.right := by
  rw [Bool.eq_iff_iff]
  simp only [Pt.right, Pt.fits, Bool.and_eq_true, Bool.or_eq_true, decide_eq_true_eq, beq_iff_eq, Bool.not_eq_true', decide_eq_false_iff_not]
  by_cases h1 : p.k = 1
  · rw [if_pos h1]; simp only [Bool.and_eq_true, decide_eq_true_eq, beq_iff_eq]; omega
  rw [if_neg h1]
  by_cases h2 : p.k = 2 ∨ p.k = 3
  · rw [if_pos h2]; simp only [Bool.and_eq_true, decide_eq_true_eq, beq_iff_eq]; omega
  rw [if_neg h2]
  by_cases h3 : p.k = 0 ∨ p.k = 4
  · rw [if_pos h3]; simp only [Bool.and_eq_true, decide_eq_true_eq, beq_iff_eq]; omega
  rw [if_neg h3]
  simp only [Bool.false_eq_true, and_false, iff_false]; omega
theorem c_r3Right (p : Pt) (hk : 0 ≤ p.k) : Gives Tryz.prog 154 #[.agg p.row.toArray] (.bool p.right) := by
  intro w
  refine x_r3Right _ _ _ _ _ w _ fun w1 h1 => ⟨?_, hid_below h1 (by simp) (Nat.le_refl _)⟩
  rw [emp_eq, fits_bool p hk]
theorem c_r3RightAll (q : Sl) (l : List Pt) (hl : l.length * 48 ≤ 140737488355328) (hk : ∀ p ∈ l, 0 ≤ p.k) : Ctr Tryz.prog 125 #[slV q l.length] (fun m => MSrc m 5 (slV q l.length) l.length (l.flatMap Pt.row)) [] (fun _ : Unit => .bool (rightL l)) (fun _ m => True) (fun _ => []) := by
  refine Ctr.mk fun w F m C hp => x_r3RightAll _ _ _ w _ ?_
  refine ⟨fun i w' _ => ∃ j : Nat, i = j ∧ j ≤ l.length ∧ (l.take j).all Pt.right = true ∧ Ctx F m w w' [] m [], fun i _ => (l.length - i).toNat, ⟨0, rfl, by omega, rfl, C⟩, ?_⟩
  clear C
  rintro i w4 L5 _ ⟨j, rfl, hj, hjt, D⟩
  by_cases hjl : j < l.length ∧ j < 10
  · rw [if_pos (by simp; omega)]
    obtain ⟨hjl, h10⟩ := hjl
    obtain ⟨a, ha, hc⟩ := hp.elem pt_len hjl
    have ha : q.1 = some a := ha
    refine ⟨by omega, by simpa using hjl, ?_⟩
    rw [ha, onSome_some]
    refine ⟨_, _, _, _, _, D.cells hc, ?_⟩
    refine D.gives (c_r3Right l[j] (hk _ (List.getElem_mem hjl))) fun w13 k13 D => ⟨_, rfl, k13.size, ?_⟩
    by_cases hr : l[j].right = true
    · rw [if_neg (by simp [hr])]
      have e : IntKind.wrap .i64 ((j : Int) + 1) = ((j + 1 : Nat) : Int) := by rw [w_i64 (by omega) (by omega)]; omega
      rw [e]
      refine ⟨⟨j + 1, rfl, hjl, ?_, D⟩, Nat.le_of_eq (by show ((l.length : Int) - ((j + 1 : Nat) : Int)).toNat + 1 = ((l.length : Int) - (j : Int)).toNat; omega)⟩
      rw [List.take_succ_eq_append_getElem hjl, List.all_append, hjt]; simp [hr]
    · rw [if_pos (by simp [hr])]
      refine Ctr.ret () ?_ trivial D
      have : l.all Pt.right = false := by rw [Bool.eq_false_iff]; intro h; exact hr (List.all_eq_true.1 h _ (List.getElem_mem hjl))
      rw [rightL, this, Bool.and_false]
  · rw [if_neg (by simp; omega)]
    refine Ctr.ret () ?_ trivial D
    by_cases hj2 : j = l.length
    · rw [hj2, List.take_length] at hjt
      rw [rightL, hjt, Bool.and_true]
      congr 2
      rw [Bool.eq_iff_iff]; simp; omega
    · have h2 : ¬ l.length ≤ 4 := by omega
      rw [rightL]
      have h3 : ¬ ((l.length : Nat) : Int) ≤ 4 := by omega
      simp [h2, h3]
def rightP (n l : Int) : Bool := decide (n < 16) && decide (l ≥ 1)
def stepIn (j d g i : Int) : Bool := (decide (j < d) && decide (g < 4)) || (decide (j ≥ d) && (decide (g = 0) && decide (i = 0)))
def I.right (x : I) : Bool := rightP x.n x.l && decide (1 ≤ x.s) && decide (x.s ≤ 1048576) && decide (x.d ≤ 3) && stepIn 0 x.d x.g0 x.i0 && stepIn 1 x.d x.g1 x.i1 && stepIn 2 x.d x.g2 x.i2

theorem c_Proc_Right (n l : Int) : Gives Tryz.prog 117 #[PV n l] (.bool (rightP n l)) := by
  intro w
  refine x_ProcRight n l w _ fun w1 h1 => ⟨?_, hid_below h1 (by simp) (Nat.le_refl _)⟩
  have : (l > 0) ↔ (l ≥ 1) := by omega
  simp only [rightP, this]
theorem c_ref_RightProc (n l : Int) : Gives Tryz.prog 129 #[PV n l] (.bool (rightP n l)) := by
  intro w
  exact x_rRightProc n l w _ fun w1 h1 => ⟨rfl, hid_below h1 (by simp) (Nat.le_refl _)⟩
theorem not_step {j d g i : Int} : ((decide (j < d) && decide (g ≥ 4)) || ((!decide (j < d)) && (!((g == 0) && (i == 0))))) = !stepIn j d g i := by
  unfold stepIn
  by_cases h : j < d
  · have h' : ¬ j ≥ d := by omega
    simp only [h, h', decide_true, decide_false, Bool.true_and, Bool.not_true, Bool.false_and, Bool.or_false]
    by_cases hg : g < 4
    · have : ¬ g ≥ 4 := by omega
      simp [hg, this]
    · have : g ≥ 4 := by omega
      simp [hg, this]
  · have h' : j ≥ d := by omega
    simp only [h, h', decide_true, decide_false, Bool.false_and, Bool.not_false, Bool.true_and, Bool.false_or]
    by_cases hg : g = 0 <;> by_cases hi : i = 0 <;> simp [hg, hi]
theorem not_step' {j d g i : Int} : ((decide (j < d) && decide (g ≥ 4)) || (decide (j ≥ d) && (!((g == 0) && (i == 0))))) = !stepIn j d g i := by
  rw [← not_step]
  have : decide (j ≥ d) = !decide (j < d) := by
    by_cases h : j < d
    · have h' : ¬ j ≥ d := by omega
      simp [h, h']
    · have h' : j ≥ d := by omega
      simp [h, h']
  rw [this]
theorem head1 (x : I) : ((((!(rightP x.n x.l)) || decide (x.s < 1)) || decide (x.s > 1048576)) || decide (x.d > 3)) = !(rightP x.n x.l && decide (1 ≤ x.s) && decide (x.s ≤ 1048576) && decide (x.d ≤ 3)) := by
  have h1 : decide (x.s < 1) = !decide (1 ≤ x.s) := by rw [← decide_not]; congr 1; exact propext (by omega)
  have h2 : decide (x.s > 1048576) = !decide (x.s ≤ 1048576) := by rw [← decide_not]; congr 1; exact propext (by omega)
  have h3 : decide (x.d > 3) = !decide (x.d ≤ 3) := by rw [← decide_not]; congr 1; exact propext (by omega)
  rw [h1, h2, h3]; simp [Bool.not_and]
theorem c_Right (x : I) (hx : x.In) : Gives Tryz.prog 112 #[x.V] (.bool x.right) := by
  intro w
  refine x_IDRight _ _ _ _ _ _ _ _ _ _ w _ fun w1 L h1 h2 => ?_
  have A := at_start h1 h2
  refine (c_Proc_Right x.n x.l).call fun w4 h4 => ⟨_, rfl, at_kept A h4, ?_⟩
  have A4 := at_call A (Nat.le_refl _) h4
  have hw : IntKind.i64.wrap x.d = x.d := w_i64 (by have := hx.d; omega) (by have := hx.d; omega)
  have hs : (x.s == 0) = decide (x.s < 1) := by
    have := hx.s
    rw [show (x.s == 0) = decide (x.s = 0) from rfl]; congr 1; exact propext (by omega)
  rw [hw, hs, head1, not_step, not_step, not_step]
  unfold I.right
  generalize (rightP x.n x.l && decide (1 ≤ x.s) && decide (x.s ≤ 1048576) && decide (x.d ≤ 3)) = b0
  generalize stepIn 0 x.d x.g0 x.i0 = b1
  generalize stepIn 1 x.d x.g1 x.i1 = b2
  generalize stepIn 2 x.d x.g2 x.i2 = b3
  cases b0
  · exact ⟨rfl, A4.bel⟩
  cases b1
  · exact fun w9 h9 => ⟨rfl, at_end A4 (Nat.le_refl _) h9⟩
  cases b2
  · exact fun w9 h9 => ⟨rfl, at_end A4 (Nat.le_refl _) h9⟩
  cases b3
  · exact fun w9 h9 => ⟨rfl, at_end A4 (Nat.le_refl _) h9⟩
  · exact fun w9 h9 => ⟨rfl, at_end A4 (Nat.le_refl _) h9⟩
theorem c_ref_Right (x : I) (hx : x.In) : Gives Tryz.prog 124 #[x.V] (.bool x.right) := by
  intro w
  refine x_r2Right _ _ _ _ _ _ _ _ _ _ w _ fun w1 L h1 h2 => ?_
  have A := at_start h1 h2
  refine (c_ref_RightProc x.n x.l).call fun w4 h4 => ⟨_, rfl, at_kept A h4, ?_⟩
  have A4 := at_call A (Nat.le_refl _) h4
  have hw : IntKind.i64.wrap x.d = x.d := w_i64 (by have := hx.d; omega) (by have := hx.d; omega)
  rw [hw, head1, not_step', not_step', not_step']
  unfold I.right
  generalize (rightP x.n x.l && decide (1 ≤ x.s) && decide (x.s ≤ 1048576) && decide (x.d ≤ 3)) = b0
  generalize stepIn 0 x.d x.g0 x.i0 = b1
  generalize stepIn 1 x.d x.g1 x.i1 = b2
  generalize stepIn 2 x.d x.g2 x.i2 = b3
  cases b0
  · exact ⟨rfl, A4.bel⟩
  cases b1
  · exact ⟨rfl, A4.bel⟩
  cases b2
  · exact ⟨rfl, A4.bel⟩
  cases b3
  · exact ⟨rfl, A4.bel⟩
  · exact ⟨rfl, A4.bel⟩


structure PtIn (p : Pt) : Prop where
  g : 0 ≤ p.g ∧ p.g < 256
  k : 0 ≤ p.k ∧ p.k < 256
  n : -9223372036854775808 ≤ p.n ∧ p.n ≤ 9223372036854775807
  key : p.key.size ≤ 281474976710656
  val : p.val.size ≤ 281474976710656
structure Rs where (c : Int) (v : ByteArray)
@[reducible] def Rs.row (r : Rs) : List Value := [.int .u8 r.c, .string r.v]
def Rs.right (r : Rs) : Bool := decide (r.c ≤ 5) && decide (((r.v.size : Nat) : Int) ≤ 1000)
theorem c_ResRight (r : Rs) : Gives Tryz.prog 113 #[.agg r.row.toArray] (.bool r.right) := fun w => x_ResRight _ _ w _ fun w1 h1 => ⟨rfl, hid_below h1 (by simp) (Nat.le_refl _)⟩
theorem c_rRightRes (r : Rs) : Gives Tryz.prog 126 #[.agg r.row.toArray] (.bool r.right) := fun w => x_rRightRes _ _ w _ fun w1 h1 => ⟨rfl, hid_below h1 (by simp) (Nat.le_refl _)⟩
end Go.Proofs
namespace Go.Proofs
open Go X RowKit
structure EvIn (e : Ev) : Prop where
  kd : 0 ≤ e.kd ∧ e.kd < 256
  id : e.id.In
  fl : 0 ≤ e.fl ∧ e.fl < 4294967296
  ps : ∀ p ∈ e.ps, PtIn p
  rc : 0 ≤ e.rc ∧ e.rc < 256
  rv : e.rv.size ≤ 281474976710656
  vn : 0 ≤ e.vn ∧ e.vn < 256
  vl : 0 ≤ e.vl ∧ e.vl < 65536
def Ev.ask (x : Ev) (g : Int) : Bool := x.id.right && rightL x.ps && (match x.ps with | [] => false | p :: _ => p.g == g) && decide (x.id.d + x.ps.length ≤ 4) && decide (x.fl < x.id.s) && ((x.vn == 0) && (x.vl == 0))
def wOk (p : Pt) (w : Wr) : Bool := ((w.key.toList == p.key.toList) && decide (((w.val.size : Nat) : Int) ≤ 64)) && (w.has || decide (w.val.size = 0))
def Ev.wrote (x : Ev) : Bool := match x.ps with
  | [] => false
  | p :: _ => if x.rc ≠ 0 ∨ p.k = 0 then decide (x.ws.length = 0) else match x.ws with
    | [w] => wOk p w
    | _ => false
def Ev.resR (x : Ev) : Bool := Rs.right ⟨x.rc, x.rv⟩
def Ev.res0 (x : Ev) : Bool := (x.rc == 0) && (x.rv == ByteArray.mk #[])
def Ev.bare (x : Ev) : Bool := (x.fl == 0) && decide (x.ps.length = 0) && decide (x.ws.length = 0)
def Ev.at_ (x : Ev) : Int := if x.id.d = 1 then x.id.g0 else if x.id.d = 2 then x.id.g1 else x.id.g2
def Ev.right (x : Ev) (g : Int) : Bool :=
  if x.kd = 0 then x.ask g && x.res0 && decide (x.ws.length = 0)
  else if x.kd = 3 then x.ask g && x.resR && !(x.rc == 4) && !(x.rc == 3) && x.wrote
  else if x.kd = 1 then x.id.right && decide (x.id.d > 0) && (x.at_ == g) && x.resR && x.bare && ((x.vn == 0) && (x.vl == 0))
  else if x.kd = 2 then rightP x.vn x.vl && x.res0 && decide (x.id = I.zero) && x.bare
  else false
theorem i_zero_eq (d : I) : (((d.n == 0) && (d.l == 0)) && ((d.s == 0) && ((d.d == 0) && (((d.g0 == 0) && (d.i0 == 0)) && (((d.g1 == 0) && (d.i1 == 0)) && ((d.g2 == 0) && (d.i2 == 0))))))) = decide (d = I.zero) := i_eqd d I.zero
theorem right_d {x : I} (hx : x.In) (h : x.right = true) : 0 ≤ x.d ∧ x.d ≤ 3 := by
  simp only [I.right, Bool.and_eq_true, decide_eq_true_eq] at h
  exact ⟨hx.d.1, h.1.1.1.2⟩
theorem len0 (k : Nat) : (((k : Nat) : Int) == 0) = decide (k = 0) := by
  rw [Bool.eq_iff_iff]; simp
theorem c_asked (e : En) (g : Int) (hi : EvIn e.er) : Ctr Tryz.prog 166 #[.agg e.row.toArray, .int .u8 g] (fun m => EnM m e) [] (fun _ : Unit => .bool (e.er.ask g)) (fun _ _ => True) (fun _ => []) := by
  refine Ctr.mk fun w F m C he => x_asked _ _ _ _ _ _ _ _ _ _ _ _ _ _ _ _ _ _ _ _ _ _ _ w _ fun w1 L2 h1 g1 => ?_
  refine (C.hidL h1 g1).gives (c_Right e.id hi.id) fun w4 k4 C => ⟨_, rfl, k4, ?_⟩
  by_cases hr : e.id.right = true
  rotate_left
  · rw [if_neg (by simpa using hr)]
    refine Ctr.ret () ?_ trivial C
    have : e.er.ask g = false := by
      have hr' : e.er.id.right = false := Bool.eq_false_iff.2 hr
      simp [Ev.ask, hr']
    rw [this]; rfl
  rw [if_pos (by rw [hr]; rfl)]
  refine (c_partRight e.pq e.ps (by have := he.pl; omega)).call (As := []) C he.p fun _ m2 w7 hk hm2 _ C => ⟨_, rfl, hk, ?_⟩
  by_cases hl : rightL e.ps = true
  rotate_left
  · rw [if_neg (by simpa using hl)]
    refine Ctr.ret () ?_ trivial C
    have : e.er.ask g = false := by
      have hr' : rightL e.er.ps = false := Bool.eq_false_iff.2 hl
      simp [Ev.ask, hr']
    rw [this]; rfl
  rw [if_pos (by rw [hl]; rfl)]
  have hl0 : 1 ≤ e.ps.length ∧ e.ps.length ≤ 4 := by
    simp only [rightL, Bool.and_eq_true, decide_eq_true_eq] at hl; exact hl.1
  obtain ⟨a, ha, hc⟩ := (he.p.mono hm2).elem pt_len (i := 0) (by omega)
  have ha : e.pq.1 = some a := ha
  have hd : 0 ≤ e.id.d ∧ e.id.d ≤ 3 := right_d hi.id hr
  refine ⟨by omega, by omega, ?_⟩
  rw [ha, onSome_some]
  refine ⟨_, C.cells hc 0 _ rfl, C.cellsL hc, ?_⟩
  rw [w_i64 (n := e.id.d) (by omega) (by omega), w_i64 (n := e.id.d + _) (by omega) (by omega)]
  refine Ctr.ret () ?_ trivial C
  obtain ⟨p, l, hpl⟩ : ∃ p l, e.ps = p :: l := by
    cases hps : e.ps with
    | nil => rw [hps] at hl0; simp at hl0
    | cons p l => exact ⟨p, l, rfl⟩
  have e0 : e.er.ask g = (((true && (p.g == g)) && decide (e.id.d + ((e.ps.length : Nat) : Int) ≤ 4)) && decide (e.fl < e.id.s) && ((e.vn == 0) && (e.vl == 0))) := by
    have h1 : e.er.id.right = true := hr
    have h2 : rightL e.er.ps = true := hl
    have h3 : e.er.ps = p :: l := hpl
    rw [Ev.ask, h1, h2, h3, hpl]; rfl
  rw [e0]
  have e1 : e.ps[0].g = p.g := by simp [hpl]
  simp only [e1]
theorem c_rcall (e : En) (g : Int) (hi : EvIn e.er) : Ctr Tryz.prog 170 #[.agg e.row.toArray, .int .u8 g] (fun m => EnM m e) [] (fun _ : Unit => .bool (e.er.ask g)) (fun _ _ => True) (fun _ => []) := by
  refine Ctr.mk fun w F m C he => x_rcall _ _ _ _ _ _ _ _ _ _ _ _ _ _ _ _ _ _ _ _ _ _ _ w _ fun w1 L2 h1 g1 => ?_
  refine (C.hidL h1 g1).gives (c_ref_Right e.id hi.id) fun w4 k4 C => ⟨_, rfl, k4, ?_⟩
  by_cases hr : e.id.right = true
  rotate_left
  · rw [if_neg (by simpa using hr)]
    refine Ctr.ret () ?_ trivial C
    have : e.er.ask g = false := by
      have hr' : e.er.id.right = false := Bool.eq_false_iff.2 hr
      simp [Ev.ask, hr']
    rw [this]; rfl
  rw [if_pos (by rw [hr]; rfl)]
  refine (c_r3RightAll e.pq e.ps (by have := he.pl; omega) (fun p h => (hi.ps p h).k.1)).call (As := []) C he.p fun _ m2 w7 hk hm2 _ C => ⟨_, rfl, hk, ?_⟩
  by_cases hl : rightL e.ps = true
  rotate_left
  · rw [if_neg (by simpa using hl)]
    refine Ctr.ret () ?_ trivial C
    have : e.er.ask g = false := by
      have hr' : rightL e.er.ps = false := Bool.eq_false_iff.2 hl
      simp [Ev.ask, hr']
    rw [this]; rfl
  rw [if_pos (by rw [hl]; rfl)]
  have hl0 : 1 ≤ e.ps.length ∧ e.ps.length ≤ 4 := by
    simp only [rightL, Bool.and_eq_true, decide_eq_true_eq] at hl; exact hl.1
  obtain ⟨a, ha, hc⟩ := (he.p.mono hm2).elem pt_len (i := 0) (by omega)
  have ha : e.pq.1 = some a := ha
  have hd : 0 ≤ e.id.d ∧ e.id.d ≤ 3 := right_d hi.id hr
  refine ⟨by omega, by omega, ?_⟩
  rw [ha, onSome_some]
  refine ⟨_, C.cells hc 0 _ rfl, C.cellsL hc, ?_⟩
  rw [w_i64 (n := e.id.d) (by omega) (by omega), w_i64 (n := e.id.d + _) (by omega) (by omega)]
  refine Ctr.ret () ?_ trivial C
  obtain ⟨p, l, hpl⟩ : ∃ p l, e.ps = p :: l := by
    cases hps : e.ps with
    | nil => rw [hps] at hl0; simp at hl0
    | cons p l => exact ⟨p, l, rfl⟩
  have e0 : e.er.ask g = (((true && (p.g == g)) && decide (e.id.d + ((e.ps.length : Nat) : Int) ≤ 4)) && decide (e.fl < e.id.s) && ((e.vn == 0) && (e.vl == 0))) := by
    have h1 : e.er.id.right = true := hr
    have h2 : rightL e.er.ps = true := hl
    have h3 : e.er.ps = p :: l := hpl
    rw [Ev.ask, h1, h2, h3, hpl]; rfl
  rw [e0]
  have e1 : e.ps[0].g = p.g := by simp [hpl]
  simp only [e1]
theorem ask_ne {x : Ev} {g : Int} (h : x.ask g = true) : ∃ p l, x.ps = p :: l := by
  cases hps : x.ps with
  | nil => rw [Ev.ask, hps] at h; simp at h
  | cons p l => exact ⟨p, l, rfl⟩
theorem c_wrote (e : En) (p : Pt) (l : List Pt) (hp : e.ps = p :: l) : Ctr Tryz.prog 167 #[.agg e.row.toArray] (fun m => EnM m e) [] (fun _ : Unit => .bool e.er.wrote) (fun _ _ => True) (fun _ => []) := by
  refine Ctr.mk fun w F m C he => x_wrote _ _ _ _ _ _ _ _ _ _ _ _ _ _ _ _ _ _ _ _ _ _ w _ ?_
  have hp' : e.er.ps = p :: l := hp
  have hl0 : 0 < e.ps.length := by rw [hp]; simp
  obtain ⟨a, ha, hc⟩ := he.p.elem pt_len (i := 0) hl0
  have ha : e.pq.1 = some a := ha
  have e1 : e.ps[0] = p := by simp [hp]
  rw [e1] at hc
  refine ⟨by omega, by omega, ?_⟩
  rw [ha, onSome_some]
  refine ⟨_, _, _, _, _, C.cells hc, ?_⟩
  by_cases h1 : e.rc ≠ 0 ∨ p.k = 0
  · rw [if_pos (by simpa using h1)]
    intro w13 h13
    refine Ctr.ret () ?_ trivial (C.hid0 h13)
    rw [len0, Ev.wrote, hp']
    show _ = Ending.returned (.bool (if e.rc ≠ 0 ∨ p.k = 0 then _ else _))
    rw [if_pos h1]; rfl
  rw [if_neg (by simpa using h1)]
  have ew : e.er.wrote = (match e.ws with | [w] => wOk p w | _ => false) := by
    rw [Ev.wrote, hp']
    show (if e.rc ≠ 0 ∨ p.k = 0 then _ else _) = _
    rw [if_neg h1]; rfl
  by_cases h2 : e.ws.length = 1
  rotate_left
  · rw [if_pos (by simp; omega)]
    intro w13 h13
    refine Ctr.ret () ?_ trivial (C.hid0 h13)
    rw [ew]
    rcases hws : e.ws with _ | ⟨x, _ | ⟨y, t⟩⟩
    · rfl
    · rw [hws] at h2; simp at h2
    · rfl
  rw [if_neg (by simp [h2])]
  obtain ⟨x, hx⟩ : ∃ x, e.ws = [x] := List.length_eq_one_iff.1 h2
  obtain ⟨b, hb, hc2⟩ := he.w.elem wr_len (i := 0) (by omega)
  have hb : e.wq.1 = some b := hb
  have e2 : e.ws[0] = x := by simp [hx]
  rw [e2] at hc2
  refine ⟨by omega, by omega, ?_⟩
  rw [hb, onSome_some]
  refine ⟨_, _, _, C.cells hc2, fun w11 h11 => Ctr.ret () ?_ trivial (C.hid0 h11)⟩
  rw [ew, hx, emp_eq]; rfl
def Ev.chk (x : Ev) : Bool := x.resR && !(x.rc == 4) && !(x.rc == 3) && x.wrote
theorem c_rcheck (e : En) (p : Pt) (l : List Pt) (hp : e.ps = p :: l) : Ctr Tryz.prog 171 #[.agg e.row.toArray] (fun m => EnM m e) [] (fun _ : Unit => .bool e.er.chk) (fun _ _ => True) (fun _ => []) := by
  refine Ctr.mk fun w F m C he => x_rcheck _ _ _ _ _ _ _ _ _ _ _ _ _ _ _ _ _ _ _ _ _ _ w _ ?_
  have hp' : e.er.ps = p :: l := hp
  have hl0 : 0 < e.ps.length := by rw [hp]; simp
  obtain ⟨a, ha, hc⟩ := he.p.elem pt_len (i := 0) hl0
  have ha : e.pq.1 = some a := ha
  have e1 : e.ps[0] = p := by simp [hp]
  rw [e1] at hc
  refine ⟨by omega, by omega, ?_⟩
  rw [ha, onSome_some]
  refine ⟨_, _, _, _, _, C.cells hc, fun w7 L8 h7 g7 => ?_⟩
  refine (C.hidL h7 g7).gives (c_rRightRes ⟨e.rc, e.rv⟩) fun w10 k10 C => ⟨_, rfl, k10, ?_⟩
  have er : Rs.right ⟨e.rc, e.rv⟩ = e.er.resR := rfl
  rw [er]
  by_cases hbad : (((((!e.er.resR) || (e.rc == 4)) || (e.rc == 3)) || decide (((e.ws.length : Nat) : Int) > 1)) || (!((((e.ws.length : Nat) : Int) == 1) == ((e.rc == 0) && (p.k != 0))))) = true
  · rw [if_pos hbad]
    refine Ctr.ret () ?_ trivial C
    have : e.er.chk = false := by
      rw [Bool.eq_false_iff]; intro hh
      simp only [Ev.chk, Bool.and_eq_true, Bool.not_eq_true', beq_eq_false_iff_ne] at hh
      obtain ⟨⟨⟨h1, h2⟩, h3⟩, h4⟩ := hh
      have h2 : e.rc ≠ 4 := h2
      have h3 : e.rc ≠ 3 := h3
      rw [h1] at hbad
      rw [Ev.wrote, hp'] at h4
      replace h4 : (if e.rc ≠ 0 ∨ p.k = 0 then decide (e.ws.length = 0) else match e.ws with | [w] => wOk p w | _ => false) = true := h4
      simp only [Bool.or_eq_true, beq_iff_eq, h2, h3, decide_eq_true_eq, Bool.not_eq_true', false_or, Bool.not_true, Bool.false_eq_true] at hbad
      by_cases hk : e.rc ≠ 0 ∨ p.k = 0
      · rw [if_pos hk] at h4
        have hw : e.ws.length = 0 := by simpa using h4
        rw [hw] at hbad
        rcases hbad with hb | hb
        · omega
        · rcases hk with hk | hk <;> simp [hk] at hb
      · rw [if_neg hk] at h4
        simp only [not_or, Decidable.not_not] at hk
        rcases hws : e.ws with _ | ⟨x, _ | ⟨y, t⟩⟩
        · rw [hws] at h4; simp at h4
        · rw [hws] at hbad
          simp [hk.1, hk.2] at hbad
        · rw [hws] at h4; simp at h4
    rw [this]
  rw [if_neg hbad]
  simp only [Bool.or_eq_true, decide_eq_true_eq, not_or, Bool.not_eq_true', Bool.not_eq_false, Bool.not_eq_true, beq_eq_false_iff_ne] at hbad
  obtain ⟨⟨⟨⟨b1, b2⟩, b3⟩, b4⟩, b5⟩ := hbad
  have hw2 : e.er.chk = e.er.wrote := by
    have b2 : e.er.rc ≠ 4 := b2
    have b3 : e.er.rc ≠ 3 := b3
    simp [Ev.chk, b1, b2, b3]
  have hw3 : e.er.wrote = e.ws.all (wOk p) := by
    rw [Ev.wrote, hp']
    show (if e.rc ≠ 0 ∨ p.k = 0 then decide (e.ws.length = 0) else match e.ws with | [w] => wOk p w | _ => false) = _
    rcases hws : e.ws with _ | ⟨x, _ | ⟨y, t⟩⟩
    · rw [hws] at b5
      by_cases hk : e.rc ≠ 0 ∨ p.k = 0
      · rw [if_pos hk]; rfl
      · exfalso
        simp only [not_or, Decidable.not_not] at hk
        simp [hk.1, hk.2] at b5
    · rw [hws] at b5
      by_cases hk : e.rc ≠ 0 ∨ p.k = 0
      · exfalso
        rcases hk with hk | hk <;> simp [hk] at b5
      · rw [if_neg hk]; simp
    · exfalso; apply b4; rw [hws]; simp; omega
  rw [hw2, hw3]
  refine ⟨fun i w' L' => ∃ j : Nat, i = j ∧ j ≤ e.ws.length ∧ (e.ws.take j).all (wOk p) = true ∧ Ctx F m w w' L' m [], fun i _ => (e.ws.length - i).toNat, ⟨0, rfl, by omega, rfl, C⟩, ?_⟩
  clear C
  rintro i w15 L16 _ ⟨j, rfl, hj, hjt, D⟩
  by_cases hjl : j < e.ws.length
  · rw [if_pos (by simpa using hjl)]
    obtain ⟨b, hb, hc2⟩ := he.w.elem wr_len hjl
    have hb : e.wq.1 = some b := hb
    refine ⟨by omega, by simpa using hjl, ?_⟩
    rw [hb, onSome_some]
    have hnl := D.cellsL hc2
    refine ⟨_, _, _, by rw [Int.toNat_natCast]; exact D.cells hc2, by simpa using hnl, ?_⟩
    rw [emp_eq]
    by_cases hok : wOk p e.ws[j] = true
    · rw [if_neg (by
        intro hh
        simp only [wOk, Bool.and_eq_true, Bool.or_eq_true, decide_eq_true_eq, beq_iff_eq] at hok
        obtain ⟨⟨o1, o2⟩, o3⟩ := hok
        simp only [Bool.or_eq_true, Bool.and_eq_true, Bool.not_eq_true', beq_eq_false_iff_ne, decide_eq_true_eq, decide_eq_false_iff_not, o1, ne_eq, not_true_eq_false, false_or] at hh
        rcases hh with hh | ⟨hh1, hh2⟩
        · omega
        · rcases o3 with o3 | o3
          · rw [o3] at hh1; cases hh1
          · exact hh2 o3)]
      intro w21 L22 h21 g21
      have e3 : IntKind.wrap .i64 ((j : Int) + 1) = ((j + 1 : Nat) : Int) := by have := he.wl; rw [w_i64 (by omega) (by omega)]; omega
      rw [e3]
      refine ⟨rfl, rfl, ⟨j + 1, rfl, hjl, ?_, D.hidL h21 g21⟩, Nat.le_of_eq (by show ((e.ws.length : Int) - ((j + 1 : Nat) : Int)).toNat + 1 = ((e.ws.length : Int) - (j : Int)).toNat; omega)⟩
      rw [List.take_succ_eq_append_getElem hjl, List.all_append, hjt]; simp [hok]
    · rw [if_pos (by
        by_cases o1 : e.ws[j].key.toList = p.key.toList
        · by_cases o2 : ((e.ws[j].val.size : Nat) : Int) ≤ 64
          · by_cases o3 : e.ws[j].has = true
            · exact absurd (by simp [wOk, o1, o3]; omega) hok
            · by_cases o4 : e.ws[j].val.size = 0
              · exact absurd (by simp [wOk, o1, o4]) hok
              · simp [o3, o4]
          · have : ((e.ws[j].val.size : Nat) : Int) > 64 := by omega
            simp [this]
        · simp [o1])]
      intro w23 h23
      refine Ctr.ret () ?_ trivial (D.hid0 h23)
      have : e.ws.all (wOk p) = false := by rw [Bool.eq_false_iff]; intro h; exact hok (List.all_eq_true.1 h _ (List.getElem_mem hjl))
      rw [this]
  · rw [if_neg (by simpa using hjl)]
    have hj2 : j = e.ws.length := by omega
    rw [hj2, List.take_length] at hjt
    exact Ctr.ret () (by rw [hjt]) trivial D.noL

theorem c_bare (e : En) : Gives Tryz.prog 168 #[.agg e.row.toArray] (.bool e.er.bare) := by
  intro w
  refine x_bare _ _ _ _ _ _ _ _ _ _ _ _ _ _ _ _ _ _ _ _ _ _ w _ fun w1 h1 => ⟨?_, hid_below h1 (by simp) (Nat.le_refl _)⟩
  rw [len0, len0]; rfl
theorem ev_right0 {x : Ev} {g : Int} (h : x.kd = 0) : x.right g = (x.ask g && x.res0 && decide (x.ws.length = 0)) := by rw [Ev.right, if_pos h]
theorem ev_right3 {x : Ev} {g : Int} (h : x.kd = 3) : x.right g = (x.ask g && x.chk) := by
  rw [Ev.right, if_neg (by omega), if_pos h, Ev.chk]
  simp only [Bool.and_assoc]
theorem ev_right1 {x : Ev} {g : Int} (h : x.kd = 1) : x.right g = (x.id.right && decide (x.id.d > 0) && (x.at_ == g) && x.resR && x.bare && ((x.vn == 0) && (x.vl == 0))) := by rw [Ev.right, if_neg (by omega), if_neg (by omega), if_pos h]
theorem ev_right2 {x : Ev} {g : Int} (h : x.kd = 2) : x.right g = (rightP x.vn x.vl && x.res0 && decide (x.id = I.zero) && x.bare) := by rw [Ev.right, if_neg (by omega), if_neg (by omega), if_neg (by omega), if_pos h]
theorem bare_add (e : En) : e.er.bare = ((e.fl == 0) && (((e.ps.length : Nat) : Int) + ((e.ws.length : Nat) : Int) == 0)) := by
  show ((e.fl == 0) && decide (e.ps.length = 0) && decide (e.ws.length = 0)) = _
  rw [Bool.eq_iff_iff]; simp only [Bool.and_eq_true, beq_iff_eq, decide_eq_true_eq]; omega
theorem c_eRight (e : En) (g : Int) (hi : EvIn e.er) : Ctr Tryz.prog 151 #[.agg e.row.toArray, .int .u8 g] (fun m => EnM m e) [] (fun _ : Unit => .bool (e.er.right g)) (fun _ _ => True) (fun _ => []) := by
  refine Ctr.mk fun w F m C he => x_eRight _ _ _ _ _ _ _ _ _ _ _ _ _ _ _ _ _ _ _ _ _ _ _ w _ ?_
  have hpl := he.pl
  have hwl := he.wl
  by_cases h0 : e.kd = 0
  · rw [if_pos (by simpa using h0)]
    intro w44 L45 h44 g44
    refine (c_asked e g hi).call (As := []) (C.hidL h44 g44) he fun _ m2 w47 hk hm _ C => ⟨_, rfl, hk, Ctr.ret () ?_ trivial C⟩
    rw [ev_right0 (x := e.er) h0, len0]; rfl
  rw [if_neg (by simpa using h0)]
  by_cases h3 : e.kd = 3
  · rw [if_pos (by simpa using h3)]
    intro w33 L34 h33 g33
    refine (c_asked e g hi).call (As := []) (C.hidL h33 g33) he fun _ m2 w36 hk hm _ C => ⟨_, rfl, hk, ?_⟩
    by_cases ha : e.er.ask g = true
    rotate_left
    · rw [if_neg (by intro h; apply ha; simpa using h)]
      refine Ctr.ret () ?_ trivial C
      rw [ev_right3 (x := e.er) h3, Bool.eq_false_iff.2 ha]; rfl
    rw [if_pos (by rw [ha]; rfl)]
    obtain ⟨p, l, hpl'⟩ := ask_ne ha
    have hps : e.ps = p :: l := hpl'
    refine C.gives (c_ResRight ⟨e.rc, e.rv⟩) fun w39 k39 C => ⟨_, rfl, k39, ?_⟩
    have er : Rs.right ⟨e.rc, e.rv⟩ = e.er.resR := rfl
    rw [er]
    by_cases hc : (e.er.resR && !(e.rc == 4) && !(e.rc == 3)) = true
    rotate_left
    · rw [if_neg (by intro h; apply hc; simpa [bne] using h)]
      refine Ctr.ret () ?_ trivial C
      have hc' : (e.er.resR && !(e.er.rc == 4) && !(e.er.rc == 3)) = false := Bool.eq_false_iff.2 hc
      rw [ev_right3 (x := e.er) h3, Ev.chk, hc']; simp
    rw [if_pos (by simpa [bne] using hc)]
    refine (c_wrote e p l hps).call (As := []) C (he.mono hm) fun _ m3 w42 hk hm3 _ C => ⟨_, rfl, hk, Ctr.ret () ?_ trivial C⟩
    have hc' : (e.er.resR && !(e.er.rc == 4) && !(e.er.rc == 3)) = true := hc
    rw [ev_right3 (x := e.er) h3, ha, Ev.chk, hc']; rfl
  rw [if_neg (by simpa using h3)]
  by_cases h1 : e.kd = 1
  · rw [if_pos (by simpa using h1)]
    intro w10 L11 h10 g10
    refine (C.hidL h10 g10).gives (c_Right e.id hi.id) fun w13 k13 C => ⟨_, rfl, k13, ?_⟩
    by_cases hd : (e.id.right && decide (e.id.d > 0)) = true
    rotate_left
    · rw [if_neg (by intro h; apply hd; simpa using h)]
      refine Ctr.ret () ?_ trivial C
      have hd' : (e.er.id.right && decide (e.er.id.d > 0)) = false := Bool.eq_false_iff.2 hd
      rw [ev_right1 (x := e.er) h1, hd']; simp
    rw [if_pos (by rw [hd]; rfl)]
    have hdd : 0 < e.id.d ∧ e.id.d ≤ 3 := by
      simp only [Bool.and_eq_true, decide_eq_true_eq] at hd
      exact ⟨hd.2, (right_d hi.id hd.1).2⟩
    rw [w_u8 (n := e.id.d - 1) (by omega) (by omega)]
    refine ⟨by omega, by omega, ⟨fun hj => ?_, fun hj => ?_⟩, fun hj => ?_⟩
    · have hat : e.er.at_ = e.id.g0 := by
        show (if e.id.d = 1 then e.id.g0 else if e.id.d = 2 then e.id.g1 else e.id.g2) = _
        rw [if_pos (by omega)]
      by_cases hg : e.id.g0 = g
      rotate_left
      · rw [if_neg (by simpa using hg)]
        refine Ctr.ret () ?_ trivial C
        have : (e.er.at_ == g) = false := by rw [hat]; simpa using hg
        rw [ev_right1 (x := e.er) h1, this]; simp
      rw [if_pos (by simpa using hg)]
      have hgt : (e.er.at_ == g) = true := by rw [hat]; simpa using hg
      refine C.gives (c_ResRight ⟨e.rc, e.rv⟩) fun w16 k16 C => ⟨_, rfl, k16, ?_⟩
      by_cases hrr : e.er.resR = true
      rotate_left
      · rw [if_neg (by intro h; apply hrr; simp at h; exact h)]
        refine Ctr.ret () ?_ trivial C
        rw [ev_right1 (x := e.er) h1, Bool.eq_false_iff.2 hrr]; simp
      rw [if_pos (by have : Rs.right ⟨e.rc, e.rv⟩ = true := hrr; rw [this]; rfl)]
      refine C.gives (c_bare e) fun w19 k19 C => ⟨_, rfl, k19, ?_⟩
      refine Ctr.ret () ?_ trivial C
      rw [ev_right1 (x := e.er) h1, hgt, hrr]
      have hd' : (e.er.id.right && decide (e.er.id.d > 0)) = true := hd
      rw [hd']; rfl
    · have hat : e.er.at_ = e.id.g1 := by
        show (if e.id.d = 1 then e.id.g0 else if e.id.d = 2 then e.id.g1 else e.id.g2) = _
        rw [if_neg (by omega), if_pos (by omega)]
      by_cases hg : e.id.g1 = g
      rotate_left
      · rw [if_neg (by simpa using hg)]
        refine Ctr.ret () ?_ trivial C
        have : (e.er.at_ == g) = false := by rw [hat]; simpa using hg
        rw [ev_right1 (x := e.er) h1, this]; simp
      rw [if_pos (by simpa using hg)]
      have hgt : (e.er.at_ == g) = true := by rw [hat]; simpa using hg
      refine C.gives (c_ResRight ⟨e.rc, e.rv⟩) fun w16 k16 C => ⟨_, rfl, k16, ?_⟩
      by_cases hrr : e.er.resR = true
      rotate_left
      · rw [if_neg (by intro h; apply hrr; simp at h; exact h)]
        refine Ctr.ret () ?_ trivial C
        rw [ev_right1 (x := e.er) h1, Bool.eq_false_iff.2 hrr]; simp
      rw [if_pos (by have : Rs.right ⟨e.rc, e.rv⟩ = true := hrr; rw [this]; rfl)]
      refine C.gives (c_bare e) fun w19 k19 C => ⟨_, rfl, k19, ?_⟩
      refine Ctr.ret () ?_ trivial C
      rw [ev_right1 (x := e.er) h1, hgt, hrr]
      have hd' : (e.er.id.right && decide (e.er.id.d > 0)) = true := hd
      rw [hd']; rfl
    · have hat : e.er.at_ = e.id.g2 := by
        show (if e.id.d = 1 then e.id.g0 else if e.id.d = 2 then e.id.g1 else e.id.g2) = _
        rw [if_neg (by omega), if_neg (by omega)]
      by_cases hg : e.id.g2 = g
      rotate_left
      · rw [if_neg (by simpa using hg)]
        refine Ctr.ret () ?_ trivial C
        have : (e.er.at_ == g) = false := by rw [hat]; simpa using hg
        rw [ev_right1 (x := e.er) h1, this]; simp
      rw [if_pos (by simpa using hg)]
      have hgt : (e.er.at_ == g) = true := by rw [hat]; simpa using hg
      refine C.gives (c_ResRight ⟨e.rc, e.rv⟩) fun w16 k16 C => ⟨_, rfl, k16, ?_⟩
      by_cases hrr : e.er.resR = true
      rotate_left
      · rw [if_neg (by intro h; apply hrr; simp at h; exact h)]
        refine Ctr.ret () ?_ trivial C
        rw [ev_right1 (x := e.er) h1, Bool.eq_false_iff.2 hrr]; simp
      rw [if_pos (by have : Rs.right ⟨e.rc, e.rv⟩ = true := hrr; rw [this]; rfl)]
      refine C.gives (c_bare e) fun w19 k19 C => ⟨_, rfl, k19, ?_⟩
      refine Ctr.ret () ?_ trivial C
      rw [ev_right1 (x := e.er) h1, hgt, hrr]
      have hd' : (e.er.id.right && decide (e.er.id.d > 0)) = true := hd
      rw [hd']; rfl
  rw [if_neg (by simpa using h1)]
  by_cases h2 : e.kd = 2
  · rw [if_pos (by simpa using h2)]
    intro w2 L3 hw2 g2
    refine (C.hidL hw2 g2).gives (c_Proc_Right e.vn e.vl) fun w5 k5 C => ⟨_, rfl, k5, ?_⟩
    rw [i_zero_eq e.id]
    by_cases hc : ((rightP e.vn e.vl && ((e.rc == 0) && (e.rv == ByteArray.mk #[]))) && decide (e.id = I.zero)) = true
    rotate_left
    · rw [if_neg (by intro h; apply hc; simpa using h)]
      refine Ctr.ret () ?_ trivial C
      have hc' : (rightP e.er.vn e.er.vl && e.er.res0 && decide (e.er.id = I.zero)) = false := Bool.eq_false_iff.2 hc
      rw [ev_right2 (x := e.er) h2, hc']; rfl
    rw [if_pos (by rw [hc]; rfl)]
    refine C.gives (c_bare e) fun w8 k8 C => ⟨_, rfl, k8, Ctr.ret () ?_ trivial C⟩
    have hc' : (rightP e.er.vn e.er.vl && e.er.res0 && decide (e.er.id = I.zero)) = true := hc
    rw [ev_right2 (x := e.er) h2, hc']
  rw [if_neg (by simpa using h2)]
  intro w1 hw1
  refine Ctr.ret () ?_ trivial (C.hid0 hw1)
  have : e.er.right g = false := by rw [Ev.right, if_neg (show ¬ e.er.kd = 0 from h0), if_neg (show ¬ e.er.kd = 3 from h3), if_neg (show ¬ e.er.kd = 1 from h1), if_neg (show ¬ e.er.kd = 2 from h2)]
  rw [this]
theorem c_r5Right (e : En) (g : Int) (hi : EvIn e.er) : Ctr Tryz.prog 155 #[.agg e.row.toArray, .int .u8 g] (fun m => EnM m e) [] (fun _ : Unit => .bool (e.er.right g)) (fun _ _ => True) (fun _ => []) := by
  refine Ctr.mk fun w F m C he => x_r5Right _ _ _ _ _ _ _ _ _ _ _ _ _ _ _ _ _ _ _ _ _ _ _ w _ ?_
  have hpl := he.pl
  have hwl := he.wl
  by_cases h0 : e.kd = 0
  · rw [if_pos (by simpa using h0)]
    intro w44 L45 h44 g44
    refine (c_rcall e g hi).call (As := []) (C.hidL h44 g44) he fun _ m2 w47 hk hm _ C => ⟨_, rfl, hk, Ctr.ret () ?_ trivial C⟩
    rw [ev_right0 (x := e.er) h0, len0]; rfl
  rw [if_neg (by simpa using h0)]
  by_cases h3 : e.kd = 3
  · rw [if_pos (by simpa using h3)]
    intro w33 L34 h33 g33
    refine (c_rcall e g hi).call (As := []) (C.hidL h33 g33) he fun _ m2 w36 hk hm _ C => ⟨_, rfl, hk, ?_⟩
    by_cases ha : e.er.ask g = true
    rotate_left
    · rw [if_neg (by intro h; apply ha; simpa using h)]
      refine Ctr.ret () ?_ trivial C
      rw [ev_right3 (x := e.er) h3, Bool.eq_false_iff.2 ha]; rfl
    rw [if_pos (by rw [ha]; rfl)]
    obtain ⟨p, l, hpl'⟩ := ask_ne ha
    have hps : e.ps = p :: l := hpl'
    refine (c_rcheck e p l hps).call (As := []) C (he.mono hm) fun _ m3 w27 hk hm3 _ C => ⟨_, rfl, hk, Ctr.ret () ?_ trivial C⟩
    rw [ev_right3 (x := e.er) h3, ha]
  rw [if_neg (by simpa using h3)]
  by_cases h1 : e.kd = 1
  · rw [if_pos (by simpa using h1)]
    intro w10 L11 h10 g10
    refine (C.hidL h10 g10).gives (c_ref_Right e.id hi.id) fun w13 k13 C => ⟨_, rfl, k13, ?_⟩
    by_cases hd : (e.id.right && decide (e.id.d > 0)) = true
    rotate_left
    · rw [if_neg (by intro h; apply hd; simpa using h)]
      refine Ctr.ret () ?_ trivial C
      have hd' : (e.er.id.right && decide (e.er.id.d > 0)) = false := Bool.eq_false_iff.2 hd
      rw [ev_right1 (x := e.er) h1, hd']; simp
    rw [if_pos (by rw [hd]; rfl)]
    have hdd : 0 < e.id.d ∧ e.id.d ≤ 3 := by
      simp only [Bool.and_eq_true, decide_eq_true_eq] at hd
      exact ⟨hd.2, (right_d hi.id hd.1).2⟩
    rw [w_u8 (n := e.id.d - 1) (by omega) (by omega)]
    refine ⟨by omega, by omega, ⟨fun hj => ?_, fun hj => ?_⟩, fun hj => ?_⟩
    · have hat : e.er.at_ = e.id.g0 := by
        show (if e.id.d = 1 then e.id.g0 else if e.id.d = 2 then e.id.g1 else e.id.g2) = _
        rw [if_pos (by omega)]
      by_cases hg : e.id.g0 = g
      rotate_left
      · rw [if_neg (by simpa using hg)]
        refine Ctr.ret () ?_ trivial C
        have : (e.er.at_ == g) = false := by rw [hat]; simpa using hg
        rw [ev_right1 (x := e.er) h1, this]; simp
      rw [if_pos (by simpa using hg)]
      have hgt : (e.er.at_ == g) = true := by rw [hat]; simpa using hg
      refine C.gives (c_rRightRes ⟨e.rc, e.rv⟩) fun w16 k16 C => ⟨_, rfl, k16, ?_⟩
      refine Ctr.ret () ?_ trivial C
      rw [ev_right1 (x := e.er) h1, hgt, w_i64 (by omega) (by omega)]
      have hd' : (e.er.id.right && decide (e.er.id.d > 0)) = true := hd
      rw [hd']
      have hb : e.er.bare = ((e.fl == 0) && (((e.ps.length : Nat) : Int) + ((e.ws.length : Nat) : Int) == 0)) := bare_add e
      rw [hb]
      show _ = Ending.returned (.bool (true && true && Rs.right ⟨e.rc, e.rv⟩ && _ && _))
      simp only [Bool.true_and, Bool.and_assoc]; rfl
    · have hat : e.er.at_ = e.id.g1 := by
        show (if e.id.d = 1 then e.id.g0 else if e.id.d = 2 then e.id.g1 else e.id.g2) = _
        rw [if_neg (by omega), if_pos (by omega)]
      by_cases hg : e.id.g1 = g
      rotate_left
      · rw [if_neg (by simpa using hg)]
        refine Ctr.ret () ?_ trivial C
        have : (e.er.at_ == g) = false := by rw [hat]; simpa using hg
        rw [ev_right1 (x := e.er) h1, this]; simp
      rw [if_pos (by simpa using hg)]
      have hgt : (e.er.at_ == g) = true := by rw [hat]; simpa using hg
      refine C.gives (c_rRightRes ⟨e.rc, e.rv⟩) fun w16 k16 C => ⟨_, rfl, k16, ?_⟩
      refine Ctr.ret () ?_ trivial C
      rw [ev_right1 (x := e.er) h1, hgt, w_i64 (by omega) (by omega)]
      have hd' : (e.er.id.right && decide (e.er.id.d > 0)) = true := hd
      rw [hd']
      have hb : e.er.bare = ((e.fl == 0) && (((e.ps.length : Nat) : Int) + ((e.ws.length : Nat) : Int) == 0)) := bare_add e
      rw [hb]
      show _ = Ending.returned (.bool (true && true && Rs.right ⟨e.rc, e.rv⟩ && _ && _))
      simp only [Bool.true_and, Bool.and_assoc]; rfl
    · have hat : e.er.at_ = e.id.g2 := by
        show (if e.id.d = 1 then e.id.g0 else if e.id.d = 2 then e.id.g1 else e.id.g2) = _
        rw [if_neg (by omega), if_neg (by omega)]
      by_cases hg : e.id.g2 = g
      rotate_left
      · rw [if_neg (by simpa using hg)]
        refine Ctr.ret () ?_ trivial C
        have : (e.er.at_ == g) = false := by rw [hat]; simpa using hg
        rw [ev_right1 (x := e.er) h1, this]; simp
      rw [if_pos (by simpa using hg)]
      have hgt : (e.er.at_ == g) = true := by rw [hat]; simpa using hg
      refine C.gives (c_rRightRes ⟨e.rc, e.rv⟩) fun w16 k16 C => ⟨_, rfl, k16, ?_⟩
      refine Ctr.ret () ?_ trivial C
      rw [ev_right1 (x := e.er) h1, hgt, w_i64 (by omega) (by omega)]
      have hd' : (e.er.id.right && decide (e.er.id.d > 0)) = true := hd
      rw [hd']
      have hb : e.er.bare = ((e.fl == 0) && (((e.ps.length : Nat) : Int) + ((e.ws.length : Nat) : Int) == 0)) := bare_add e
      rw [hb]
      show _ = Ending.returned (.bool (true && true && Rs.right ⟨e.rc, e.rv⟩ && _ && _))
      simp only [Bool.true_and, Bool.and_assoc]; rfl
  rw [if_neg (by simpa using h1)]
  by_cases h2 : e.kd = 2
  · rw [if_pos (by simpa using h2)]
    intro w2 L3 hw2 g2
    refine (C.hidL hw2 g2).gives (c_ref_RightProc e.vn e.vl) fun w5 k5 C => ⟨_, rfl, k5, ?_⟩
    rw [i_zero_eq e.id]
    refine Ctr.ret () ?_ trivial C
    rw [ev_right2 (x := e.er) h2, bare_add, w_i64 (by omega) (by omega)]
    show _ = Ending.returned (.bool (rightP e.vn e.vl && ((e.rc == 0) && (e.rv == ByteArray.mk #[])) && decide (e.id = I.zero) && _))
    simp only [Bool.and_assoc]
  rw [if_neg (by simpa using h2)]
  intro w1 hw1
  refine Ctr.ret () ?_ trivial (C.hid0 hw1)
  have : e.er.right g = false := by rw [Ev.right, if_neg (show ¬ e.er.kd = 0 from h0), if_neg (show ¬ e.er.kd = 3 from h3), if_neg (show ¬ e.er.kd = 1 from h1), if_neg (show ¬ e.er.kd = 2 from h2)]
  rw [this]

end Go.Proofs
namespace Go.Proofs
open Go X RowKit
structure Pr where (n : Int) (l : Int)
@[reducible] def Pr.row (p : Pr) : List Value := [.int .u8 p.n, .int .u16 p.l]
theorem pr_len (p : Pr) : p.row.length = 2 := rfl
theorem pr_one (x : Pr) : ∀ u ∈ x.row, oneC u = true := by intro u h; simp [Pr.row] at h; rcases h with rfl | rfl <;> rfl
theorem pr_ext {a b : Pr} (h : a.n = b.n ∧ a.l = b.l) : a = b := by cases a; cases b; simp_all
instance : DecidableEq Pr := fun a b => decidable_of_iff (a.n = b.n ∧ a.l = b.l) ⟨pr_ext, fun h => by subst h; exact ⟨rfl, rfl⟩⟩
theorem pr_eq (a b : Pr) : ((a.n == b.n) && (a.l == b.l)) = decide (a = b) := by
  rw [Bool.eq_iff_iff, decide_eq_true_eq]
  simp only [Bool.and_eq_true, beq_iff_eq]
  exact ⟨fun h => pr_ext h, fun h => by subst h; exact ⟨rfl, rfl⟩⟩
theorem c_ProcP (p : Pr) : Gives Tryz.prog 27 #[.agg p.row.toArray] (.agg p.row.toArray) := c_Proc p.n p.l
theorem c_RefProcP (p : Pr) : Gives Tryz.prog 50 #[.agg p.row.toArray] (.agg p.row.toArray) := c_RefProc p.n p.l
theorem c_RefProcs (q : Sl) (l : List Pr) (hl : l.length * 4 ≤ 140737488355328) : Ctr Tryz.prog 51 #[slV q l.length] (fun m => MSrc m 2 (slV q l.length) l.length (l.flatMap Pr.row)) [] (fun p : Sl => slV p l.length) (fun p m => MSrc m 2 (slV p l.length) l.length (l.flatMap Pr.row)) (fun _ => []) := by
  refine Ctr.mk fun w F m C hp => x_RefProcs _ _ _ w _ ?_
  refine ⟨fun p k c i w' _ => ∃ (j : Nat) (m' : Mem), i = j ∧ j = k ∧ j ≤ l.length ∧ m.le m' ∧ Ctx F m w w' [] m' [slA (.slice p j c) j ((l.take j).flatMap Pr.row) 26 2], fun _ _ _ i _ => (l.length - i).toNat, ⟨0, m, rfl, rfl, by omega, Mem.le_refl _, C.slNil⟩, ?_⟩
  clear C
  rintro p k c i w7 L8 _ ⟨j, m', rfl, rfl, hj, hm, D⟩
  by_cases hjl : j < l.length
  · rw [if_pos (by simpa using hjl)]
    refine ⟨by omega, by simpa using hjl, ?_⟩
    obtain ⟨a, ha, hc⟩ := (hp.mono hm).elem pr_len hjl
    have ha : q.1 = some a := ha
    rw [ha, onSome_some]
    refine ⟨_, _, D.cells hc, ?_⟩
    refine D.gives (c_RefProcP l[j]) fun w16 k16 D => ⟨_, _, rfl, k16.size, ?_⟩
    have D1 := (D.alloc l[j].row 26).swap
    have hcl : Cells _ ⟨w16.heap.size, 0, none⟩ l[j].row := (D.alloc l[j].row 26).blkCells (o := 0) fun k v e => by simpa using e
    obtain ⟨q2, c2, w25, hr, hkk, D2⟩ := D1.app2 (P := Tryz.prog) (bytes := 4) (t := 35) (t2 := 35) 35 (by kernel_rfl) (.some ⟨w16.heap.size, 0, none⟩ 1 1 l[j].row rfl hcl) (by unfold maxLen; omega) (by omega) (pr_one _)
    have e : IntKind.wrap .i64 ((j : Int) + 1) = ((j + 1 : Nat) : Int) := by rw [w_i64 (by omega) (by omega)]; omega
    refine ⟨q2, j + 1, c2, w25, hr, hkk.size, ?_⟩
    rw [e]
    refine ⟨⟨j + 1, m', rfl, rfl, hjl, hm, ?_⟩, Nat.le_of_eq (by show ((l.length : Int) - ((j + 1 : Nat) : Int)).toNat + 1 = ((l.length : Int) - (j : Int)).toNat; omega)⟩
    have e2 : (l.take (j + 1)).flatMap Pr.row = (l.take j).flatMap Pr.row ++ l[j].row := by rw [List.take_succ_eq_append_getElem hjl, List.flatMap_append]; simp
    rw [e2]
    exact Ctx.noL (D2.pk [0] [1] rfl)
  · rw [if_neg (by simpa using hjl)]
    have hj2 : j = l.length := by omega
    subst hj2
    rw [List.take_length] at D
    obtain ⟨m2, hm2, hs, D2⟩ := D.slShare
    exact Ctr.ret (m' := m2) (L := []) (p, c) rfl hs D2.noL
theorem c_EqualPr (q q' : Sl) (l l' : List Pr) (hb : l.length ≤ 140737488355328) : Ctr Tryz.prog 55 #[slV q l.length, slV q' l'.length] (fun m => MSrc m 2 (slV q l.length) l.length (l.flatMap Pr.row) ∧ MSrc m 2 (slV q' l'.length) l'.length (l'.flatMap Pr.row)) [] (fun _ : Unit => .bool (decide (l = l'))) (fun _ _ => True) (fun _ => []) := by
  refine Ctr.mk fun w F m C hp => x_EqualPr _ _ _ _ _ _ w _ ?_
  obtain ⟨h1, h2⟩ := hp
  by_cases hl : l.length = l'.length
  rotate_left
  · rw [if_pos (by simp; omega)]
    exact Ctr.ret () (by rw [decide_eq_false (fun h => hl (by rw [h]))]) trivial C
  rw [if_neg (by simp [hl])]
  refine ⟨fun i w' _ => ∃ j : Nat, i = j ∧ j ≤ l.length ∧ l.take j = l'.take j ∧ Ctx F m w w' [] m [], fun i _ => (l.length - i).toNat, ⟨0, rfl, by omega, rfl, C⟩, ?_⟩
  clear C
  rintro i w4 L5 _ ⟨j, rfl, hj, hjt, D⟩
  by_cases hjl : j < l.length
  · rw [if_pos (by simpa using hjl)]
    obtain ⟨a1, ha1, hc1⟩ := h1.elem pr_len hjl
    obtain ⟨a2, ha2, hc2⟩ := h2.elem pr_len (show j < l'.length by omega)
    refine ⟨by omega, by simpa using hjl, ?_⟩
    rw [ha1, onSome_some]
    refine ⟨_, _, D.cells hc1, by omega, by omega, ?_⟩
    rw [ha2, onSome_some]
    refine ⟨_, _, D.cells hc2, ?_⟩
    rw [pr_eq]
    by_cases he : l[j] = l'[j]
    · rw [if_neg (by simp [he])]
      intro w18 h18
      have e : IntKind.wrap .i64 ((j : Int) + 1) = ((j + 1 : Nat) : Int) := by rw [w_i64 (by omega) (by omega)]; omega
      rw [e]
      refine ⟨⟨j + 1, rfl, hjl, ?_, D.hid0 h18⟩, Nat.le_of_eq (by show ((l.length : Int) - ((j + 1 : Nat) : Int)).toNat + 1 = ((l.length : Int) - (j : Int)).toNat; omega)⟩
      rw [List.take_succ_eq_append_getElem hjl, List.take_succ_eq_append_getElem (by omega : j < l'.length), hjt, he]
    · rw [if_pos (by simp [he])]
      intro w19 h19
      refine Ctr.ret () ?_ trivial (D.hid0 h19)
      rw [decide_eq_false (fun h => he (by simp only [h]))]
  · rw [if_neg (by simpa using hjl)]
    have hj2 : j = l.length := by omega
    rw [hj2, List.take_length, hl, List.take_length] at hjt
    exact Ctr.ret () (by rw [decide_eq_true hjt]) trivial D
theorem c_SameProcs (q q' : Sl) (l l' : List Pr) (hb : l.length ≤ 140737488355328) : Ctr Tryz.prog 44 #[slV q l.length, slV q' l'.length] (fun m => MSrc m 2 (slV q l.length) l.length (l.flatMap Pr.row) ∧ MSrc m 2 (slV q' l'.length) l'.length (l'.flatMap Pr.row)) [] (fun _ : Unit => .bool (decide (l = l'))) (fun _ _ => True) (fun _ => []) := by
  refine Ctr.mk fun w F m C hp => x_SameProcs _ _ _ _ _ _ w _ ?_
  obtain ⟨h1, h2⟩ := hp
  by_cases hl : l.length = l'.length
  rotate_left
  · rw [if_pos (by simp; omega)]
    exact Ctr.ret () (by rw [decide_eq_false (fun h => hl (by rw [h]))]) trivial C
  rw [if_neg (by simp [hl])]
  refine ⟨fun i w' _ => ∃ j : Nat, i = j ∧ j ≤ l.length ∧ l.take j = l'.take j ∧ Ctx F m w w' [] m [], fun i _ => (l.length - i).toNat, ⟨0, rfl, by omega, rfl, C⟩, ?_⟩
  clear C
  rintro i w4 L5 _ ⟨j, rfl, hj, hjt, D⟩
  by_cases hjl : j < l.length
  · rw [if_pos (by simpa using hjl)]
    obtain ⟨a1, ha1, hc1⟩ := h1.elem pr_len hjl
    obtain ⟨a2, ha2, hc2⟩ := h2.elem pr_len (show j < l'.length by omega)
    refine ⟨by omega, by simpa using hjl, ?_⟩
    rw [ha1, onSome_some]
    refine ⟨_, _, D.cells hc1, by omega, by omega, ?_⟩
    rw [ha2, onSome_some]
    refine ⟨_, _, D.cells hc2, ?_⟩
    rw [pr_eq]
    by_cases he : l[j] = l'[j]
    · rw [if_neg (by simp [he])]
      intro w18 h18
      have e : IntKind.wrap .i64 ((j : Int) + 1) = ((j + 1 : Nat) : Int) := by rw [w_i64 (by omega) (by omega)]; omega
      rw [e]
      refine ⟨⟨j + 1, rfl, hjl, ?_, D.hid0 h18⟩, Nat.le_of_eq (by show ((l.length : Int) - ((j + 1 : Nat) : Int)).toNat + 1 = ((l.length : Int) - (j : Int)).toNat; omega)⟩
      rw [List.take_succ_eq_append_getElem hjl, List.take_succ_eq_append_getElem (by omega : j < l'.length), hjt, he]
    · rw [if_pos (by simp [he])]
      intro w19 h19
      refine Ctr.ret () ?_ trivial (D.hid0 h19)
      rw [decide_eq_false (fun h => he (by simp only [h]))]
  · rw [if_neg (by simpa using hjl)]
    have hj2 : j = l.length := by omega
    rw [hj2, List.take_length, hl, List.take_length] at hjt
    exact Ctr.ret () (by rw [decide_eq_true hjt]) trivial D
theorem en_one (x : En) : ∀ u ∈ x.row, oneC u = true := by intro u h; simp [En.row] at h; rcases h with rfl | rfl | rfl | rfl | rfl | rfl | rfl | rfl | rfl | rfl | rfl | rfl | rfl | rfl | rfl | rfl | rfl | rfl <;> rfl
def EsM (m : Mem) (q : Sl) (l : List En) : Prop := MSrc m 18 (slV q l.length) l.length (l.flatMap En.row) ∧ ∀ e ∈ l, EnM m e
theorem EsM.mono {m m' : Mem} {q : Sl} {l : List En} (h : EsM m q l) (hm : m.le m') : EsM m' q l := ⟨h.1.mono hm, fun e he => (h.2 e he).mono hm⟩
theorem c_Refs (q : Sl) (l : List En) (hl : l.length ≤ 100000) : Ctr Tryz.prog 52 #[slV q l.length] (fun m => EsM m q l) [] (fun f : Sl × List En => slV f.1 f.2.length) (fun f m => EsM m f.1 f.2 ∧ f.2.map En.er = l.map En.er) (fun _ => []) := by
  refine Ctr.mk fun w F m C hp => x_Refs _ _ _ w _ ?_
  obtain ⟨hp, he⟩ := hp
  refine ⟨fun p k c i w' _ => ∃ (j : Nat) (m' : Mem) (fs : List En), i = j ∧ k = fs.length ∧ j ≤ l.length ∧ m.le m' ∧ fs.map En.er = (l.take j).map En.er ∧ (∀ e ∈ fs, EnM m' e) ∧ Ctx F m w w' [] m' [slA (.slice p fs.length c) fs.length (fs.flatMap En.row) 124 18], fun _ _ _ i _ => (l.length - i).toNat, ⟨0, m, [], rfl, rfl, by omega, Mem.le_refl _, rfl, by simp, C.slNil⟩, ?_⟩
  clear C
  rintro p k c i w7 L8 _ ⟨j, m', fs, rfl, rfl, hj, hm, her, hfs, D⟩
  by_cases hjl : j < l.length
  rotate_left
  · rw [if_neg (by simpa using hjl)]
    have hj2 : j = l.length := by omega
    rw [hj2, List.take_length] at her
    obtain ⟨m2, hm2, hs, D2⟩ := D.slShare
    exact Ctr.ret (m' := m2) (L := []) ((p, c), fs) rfl ⟨⟨hs, fun e h => (hfs e h).mono hm2⟩, her⟩ D2.noL
  rw [if_pos (by simpa using hjl)]
  refine ⟨by omega, by simpa using hjl, ?_⟩
  have hfl : fs.length = j := by have := congrArg List.length her; simp at this; omega
  obtain ⟨a, ha, hc⟩ := (hp.mono hm).elem en_len hjl
  have ha : q.1 = some a := ha
  rw [ha, onSome_some]
  refine ⟨_, _, _, _, _, _, _, _, _, _, _, _, _, _, _, _, _, _, _, _, _, _, by rw [Int.toNat_natCast]; exact D.cells hc, ?_⟩
  refine (c_Ref5 l[j]).call (As := [_]) D ((he _ (List.getElem_mem hjl)).mono hm) fun f m2 w33 hk hm2 hf D => ⟨_, _, _, _, _, _, _, _, _, _, _, _, _, _, _, _, _, _, _, _, _, _, rfl, hk.size, ?_⟩
  have D0 := (D.alloc f.row 124).swap
  have hcl : Cells _ ⟨w33.heap.size, 0, none⟩ f.row := (D.alloc f.row 124).blkCells (o := 0) fun k v e => by simpa using e
  obtain ⟨q2, c2, w67, hr, hkk, D2⟩ := Ctx.app2 (P := Tryz.prog) (bytes := 400) (t := 38) (t2 := 38) D0 38 (by kernel_rfl) (.some ⟨w33.heap.size, 0, none⟩ 1 1 f.row rfl hcl) (by unfold maxLen; omega) (by omega) (en_one _)
  have e1 : (fs ++ [f]).length = fs.length + 1 := by simp
  have e2 : (fs ++ [f]).flatMap En.row = fs.flatMap En.row ++ f.row := by simp
  have e : IntKind.wrap .i64 ((j : Int) + 1) = ((j + 1 : Nat) : Int) := by rw [w_i64 (by omega) (by omega)]; omega
  refine ⟨q2, _, c2, w67, hr, hkk.size, ?_⟩
  rw [e]
  refine ⟨⟨j + 1, m2, fs ++ [f], rfl, e1.symm, hjl, hm.le_trans hm2, ?_, ?_, ?_⟩, Nat.le_of_eq (by show ((l.length : Int) - ((j + 1 : Nat) : Int)).toNat + 1 = ((l.length : Int) - (j : Int)).toNat; omega)⟩
  · rw [List.take_succ_eq_append_getElem hjl, List.map_append, List.map_append, her]; simp [hf.2]
  · intro y hy
    rcases List.mem_append.1 hy with hy | hy
    · exact (hfs y hy).mono hm2
    · simp only [List.mem_singleton] at hy; subst hy; exact hf.1
  · rw [← e2, ← e1] at D2
    exact Ctx.noL (D2.pk [0] [1] rfl)
theorem c_rSameAll (q q' : Sl) (l l' : List En) (hb : l.length ≤ 1000000) : Ctr Tryz.prog 45 #[slV q l.length, slV q' l'.length] (fun m => EsM m q l ∧ EsM m q' l') [] (fun _ : Unit => .bool (decide (l.map En.er = l'.map En.er))) (fun _ _ => True) (fun _ => []) := by
  refine Ctr.mk fun w F m C hp => x_rSameAll _ _ _ _ _ _ w _ ?_
  obtain ⟨⟨h1, g1⟩, ⟨h2, g2⟩⟩ := hp
  by_cases hl : l.length = l'.length
  rotate_left
  · rw [if_pos (by simp; omega)]
    exact Ctr.ret () (by rw [decide_eq_false (fun h => hl (by simpa using congrArg List.length h))]) trivial C
  rw [if_neg (by simp [hl])]
  refine ⟨fun i w' _ => ∃ (j : Nat) (m' : Mem), i = j ∧ j ≤ l.length ∧ m.le m' ∧ (l.take j).map En.er = (l'.take j).map En.er ∧ Ctx F m w w' [] m' [], fun i _ => (l.length - i).toNat, ⟨0, m, rfl, by omega, Mem.le_refl _, rfl, C⟩, ?_⟩
  clear C
  rintro i w4 L5 _ ⟨j, m', rfl, hj, hm, hjt, D⟩
  by_cases hjl : j < l.length
  rotate_left
  · rw [if_neg (by simpa using hjl)]
    have hj2 : j = l.length := by omega
    rw [hj2, List.take_length, hl, List.take_length] at hjt
    exact Ctr.ret () (by rw [decide_eq_true hjt]) trivial D
  rw [if_pos (by simpa using hjl)]
  obtain ⟨a1, ha1, hc1⟩ := (h1.mono hm).elem en_len hjl
  obtain ⟨a2, ha2, hc2⟩ := (h2.mono hm).elem en_len (show j < l'.length by omega)
  refine ⟨_, D.memFact hc1 (D.memFact hc2 (facts_nil _ _)), by omega, by simpa using hjl, ?_⟩
  rw [ha1, onSome_some]
  refine ⟨_, _, _, _, _, _, _, _, _, _, _, _, _, _, _, _, _, _, _, _, _, _, by rw [Int.toNat_natCast]; exact List.mem_cons_self, by omega, by omega, ?_⟩
  rw [ha2, onSome_some]
  refine ⟨_, _, _, _, _, _, _, _, _, _, _, _, _, _, _, _, _, _, _, _, _, _, by rw [Int.toNat_natCast]; exact List.mem_cons_of_mem _ List.mem_cons_self, fun w53 h53 => ?_⟩
  replace D := D.hid0 h53

  refine (c_r5Same l[j] (l'[j]'(by omega))).call (As := []) D ⟨(g1 _ (List.getElem_mem hjl)).mono hm, (g2 _ (List.getElem_mem (by omega))).mono hm⟩ fun _ m2 w55 hk hm2 _ D => ⟨_, rfl, hk.size, ?_⟩
  by_cases he : l[j].er = (l'[j]'(by omega)).er
  · rw [if_neg (by simp [he])]
    have e : IntKind.wrap .i64 ((j : Int) + 1) = ((j + 1 : Nat) : Int) := by rw [w_i64 (by omega) (by omega)]; omega
    rw [e]
    refine ⟨⟨j + 1, m2, rfl, hjl, hm.le_trans hm2, ?_, D.noL⟩, Nat.le_of_eq (by show ((l.length : Int) - ((j + 1 : Nat) : Int)).toNat + 1 = ((l.length : Int) - (j : Int)).toNat; omega)⟩
    rw [List.take_succ_eq_append_getElem hjl, List.take_succ_eq_append_getElem (by omega : j < l'.length), List.map_append, List.map_append, hjt]; simp [he]
  · rw [if_pos (by simp [he])]
    refine Ctr.ret () ?_ trivial D
    rw [decide_eq_false (fun h => he ?_)]
    have := congrArg (fun z => z[j]?) h
    simpa [hjl, show j < l'.length by omega] using this
theorem c_EqualFuncE (q q' : Sl) (l l' : List En) (hb : l.length ≤ 1000000) : Ctr Tryz.prog 109 #[slV q l.length, slV q' l'.length, .func (.func 110) #[] #[]] (fun m => EsM m q l ∧ EsM m q' l') [] (fun _ : Unit => .bool (decide (l.map En.er = l'.map En.er))) (fun _ _ => True) (fun _ => []) := by
  refine Ctr.mk fun w F m C hp => x_EqualFuncE _ _ _ _ _ _ w _ ?_
  obtain ⟨⟨h1, g1⟩, ⟨h2, g2⟩⟩ := hp
  by_cases hl : l.length = l'.length
  rotate_left
  · rw [if_pos (by simp; omega)]
    exact Ctr.ret () (by rw [decide_eq_false (fun h => hl (by simpa using congrArg List.length h))]) trivial C
  rw [if_neg (by simp [hl])]
  refine ⟨fun i w' _ => ∃ (j : Nat) (m' : Mem), i = j ∧ j ≤ l.length ∧ m.le m' ∧ (l.take j).map En.er = (l'.take j).map En.er ∧ Ctx F m w w' [] m' [], fun i _ => (l.length - i).toNat, ⟨0, m, rfl, by omega, Mem.le_refl _, rfl, C⟩, ?_⟩
  clear C
  rintro i w4 L5 _ ⟨j, m', rfl, hj, hm, hjt, D⟩
  by_cases hjl : j < l.length
  rotate_left
  · rw [if_neg (by simpa using hjl)]
    have hj2 : j = l.length := by omega
    rw [hj2, List.take_length, hl, List.take_length] at hjt
    exact Ctr.ret () (by rw [decide_eq_true hjt]) trivial D
  rw [if_pos (by simpa using hjl)]
  obtain ⟨a1, ha1, hc1⟩ := (h1.mono hm).elem en_len hjl
  obtain ⟨a2, ha2, hc2⟩ := (h2.mono hm).elem en_len (show j < l'.length by omega)
  refine ⟨by omega, by simpa using hjl, ?_⟩
  rw [ha1, onSome_some]
  refine ⟨_, _, _, _, _, _, _, _, _, _, _, _, _, _, _, _, _, _, _, _, _, _, by rw [Int.toNat_natCast]; exact D.cells hc1, by omega, by omega, ?_⟩
  rw [ha2, onSome_some]
  refine ⟨_, _, _, _, _, _, _, _, _, _, _, _, _, _, _, _, _, _, _, _, _, _, by rw [Int.toNat_natCast]; exact D.cells hc2, fun w53 L53 h53 g53 => ?_⟩
  replace D := D.hidL h53 g53

  refine (c_eSame l[j] (l'[j]'(by omega))).call (As := []) D ⟨(g1 _ (List.getElem_mem hjl)).mono hm, (g2 _ (List.getElem_mem (by omega))).mono hm⟩ fun _ m2 w55 hk hm2 _ D => ⟨_, rfl, hk, ?_⟩
  by_cases he : l[j].er = (l'[j]'(by omega)).er
  · rw [if_neg (by simp [he])]
    have e : IntKind.wrap .i64 ((j : Int) + 1) = ((j + 1 : Nat) : Int) := by rw [w_i64 (by omega) (by omega)]; omega
    rw [e]
    refine ⟨⟨j + 1, m2, rfl, hjl, hm.le_trans hm2, ?_, D.noL⟩, Nat.le_of_eq (by show ((l.length : Int) - ((j + 1 : Nat) : Int)).toNat + 1 = ((l.length : Int) - (j : Int)).toNat; omega)⟩
    rw [List.take_succ_eq_append_getElem hjl, List.take_succ_eq_append_getElem (by omega : j < l'.length), List.map_append, List.map_append, hjt]; simp [he]
  · rw [if_pos (by simp [he])]
    refine Ctr.ret () ?_ trivial D
    rw [decide_eq_false (fun h => he ?_)]
    have := congrArg (fun z => z[j]?) h
    simpa [hjl, show j < l'.length by omega] using this
theorem c_eSameAll (q q' : Sl) (l l' : List En) (hb : l.length ≤ 1000000) : Ctr Tryz.prog 56 #[slV q l.length, slV q' l'.length] (fun m => EsM m q l ∧ EsM m q' l') [] (fun _ : Unit => .bool (decide (l.map En.er = l'.map En.er))) (fun _ _ => True) (fun _ => []) := by
  refine Ctr.mk fun w F m C hp => x_eSameAll _ _ _ _ _ _ w _ ?_
  exact (c_EqualFuncE q q' l l' hb).call (As := []) C hp fun _ m1 w2 hk hm _ C => ⟨_, rfl, hk.size, Ctr.ret () rfl trivial C⟩
structure Vw where (g n : Int) (q : Sl) (ms : List Pr)
@[reducible] def Vw.row (v : Vw) : List Value := [.int .u8 v.g, .int .u32 v.n, slV v.q v.ms.length]
def VwM (m : Mem) (v : Vw) : Prop := MSrc m 2 (slV v.q v.ms.length) v.ms.length (v.ms.flatMap Pr.row)
def Pr.ok (p : Pr) : Bool := decide (p.n < 16) && decide (p.l > 0)
abbrev okL (l : List Pr) : Prop := (∀ p ∈ l, p.ok = true) ∧ (l.map Pr.n).Nodup
def Vw.ok (v : Vw) : Bool := decide (v.g < 4 ∧ v.n ≠ 0 ∧ v.ms.length ≠ 0 ∧ v.ms.length ≤ 8 ∧ okL v.ms)
def metB (l : List Pr) (k : Int) : Bool := (l.map Pr.n).any (· == k)
def metL (l : List Pr) : List Value := [.bool (metB l 0), .bool (metB l 1), .bool (metB l 2), .bool (metB l 3), .bool (metB l 4), .bool (metB l 5), .bool (metB l 6), .bool (metB l 7), .bool (metB l 8), .bool (metB l 9), .bool (metB l 10), .bool (metB l 11), .bool (metB l 12), .bool (metB l 13), .bool (metB l 14), .bool (metB l 15)]
theorem metL_get (l : List Pr) {k : Int} (h0 : 0 ≤ k) (h1 : k < 16) : (metL l)[k.toNat]? = some (.bool (metB l k)) := by
  obtain ⟨i, rfl⟩ := Int.eq_ofNat_of_zero_le h0
  have hi : i < 16 := by omega
  match i, hi with
  | 0, _ | 1, _ | 2, _ | 3, _ | 4, _ | 5, _ | 6, _ | 7, _ | 8, _ | 9, _ | 10, _ | 11, _ | 12, _ | 13, _ | 14, _ | 15, _ => rfl
  | k + 16, h => exact absurd h (by omega)
theorem metL_put (l : List Pr) (p : Pr) (h0 : 0 ≤ p.n) (h1 : p.n < 16) : splice (metL l) p.n.toNat [.bool true] = metL (l ++ [p]) := by
  have key : ∀ i : Int, metB (l ++ [p]) i = (metB l i || (p.n == i)) := by intro i; simp [metB]
  obtain ⟨i, hk⟩ := Int.eq_ofNat_of_zero_le h0
  have hi : i < 16 := by omega
  simp only [metL, key, hk]
  match i, hi with
  | 0, _ | 1, _ | 2, _ | 3, _ | 4, _ | 5, _ | 6, _ | 7, _ | 8, _ | 9, _ | 10, _ | 11, _ | 12, _ | 13, _ | 14, _ | 15, _ => simp [splice]
  | k + 16, h => exact absurd h (by omega)
theorem okL_snoc {l : List Pr} {p : Pr} : okL (l ++ [p]) ↔ okL l ∧ p.ok = true ∧ metB l p.n = false := by
  have e : metB l p.n = false ↔ p.n ∉ l.map Pr.n := by
    rw [← Bool.not_eq_true, metB, List.any_eq_true]
    constructor
    · intro h hm; exact h ⟨_, hm, by simp⟩
    · rintro h ⟨x, hx, he⟩; exact h (by rw [← beq_iff_eq.1 he]; exact hx)
  rw [e]
  simp only [okL, List.mem_append, List.mem_singleton, List.map_append, List.map_cons, List.map_nil, List.nodup_append]
  constructor
  · rintro ⟨h1, h2, _, h3⟩
    exact ⟨⟨fun x hx => h1 x (.inl hx), h2⟩, h1 p (.inr rfl), fun hm => h3 p.n hm p.n (by simp) rfl⟩
  · rintro ⟨⟨h1, h2⟩, h3, h4⟩
    refine ⟨fun x hx => by rcases hx with hx | rfl; exact h1 x hx; exact h3, h2, by simp, fun a ha b hb hab => ?_⟩
    have hb : b = p.n := by simpa using hb
    subst hab; subst hb; exact h4 ha
theorem okL_take {l : List Pr} (h : okL l) (j : Nat) : okL (l.take j) := ⟨fun p hp => h.1 p (List.mem_of_mem_take hp), by
  rw [List.map_take]; exact h.2.sublist (List.take_sublist _ _)⟩
theorem c_pRight (p : Pr) : Gives Tryz.prog 117 #[.agg p.row.toArray] (.bool p.ok) := fun w => x_ProcRight _ _ w _ fun w1 h1 => ⟨rfl, hid_below h1 (by simp) (Nat.le_refl _)⟩
theorem c_rRightP (p : Pr) : Gives Tryz.prog 129 #[.agg p.row.toArray] (.bool p.ok) := fun w => x_rRightProc _ _ w _ fun w1 h1 => ⟨by
  have : decide (p.l ≥ 1) = decide (p.l > 0) := decide_eq_decide.2 (by omega)
  rw [this]; rfl, hid_below h1 (by simp) (Nat.le_refl _)⟩
theorem c_vRight (v : Vw) (hr : ∀ p ∈ v.ms, 0 ≤ p.n) : Ctr Tryz.prog 114 #[.agg v.row.toArray] (fun m => VwM m v) [] (fun _ : Unit => .bool v.ok) (fun _ _ => True) (fun _ => []) := by
  refine Ctr.mk fun w F m C hv => x_vRight _ _ _ _ _ w _ ?_
  by_cases hg : (((decide (v.g ≥ 4) || (v.n == 0)) || (((v.ms.length : Nat) : Int) == 0)) || decide (((v.ms.length : Nat) : Int) > 8)) = true
  · rw [if_pos hg]
    intro w17 h17
    refine Ctr.ret () ?_ trivial (C.hid0 h17)
    have : v.ok = false := by
      simp only [Bool.or_eq_true, decide_eq_true_eq, beq_iff_eq] at hg
      simp only [Vw.ok, decide_eq_false_iff_not]
      rintro ⟨h1, h2, h3, h4, _⟩; omega
    rw [this]
  rw [if_neg hg]
  have hg' : v.g < 4 ∧ v.n ≠ 0 ∧ v.ms.length ≠ 0 ∧ v.ms.length ≤ 8 := by
    simp only [Bool.or_eq_true, decide_eq_true_eq, beq_iff_eq, not_or] at hg; omega
  have hok : v.ok = decide (okL v.ms) := by
    simp only [Vw.ok]
    congr 1
    exact propext ⟨fun h => h.2.2.2.2, fun h => ⟨hg'.1, hg'.2.1, hg'.2.2.1, hg'.2.2.2, h⟩⟩
  refine fun w1 L2 h1 g1 => ?_
  have C1 := (C.hidL h1 g1).alloc (metL []) 216
  refine ⟨fun i w' L' => ∃ j : Nat, i = j ∧ j ≤ v.ms.length ∧ okL (v.ms.take j) ∧ Ctx F m w w' L' m [blk w1.heap.size (metL (v.ms.take j)) 216], fun i _ => ((v.ms.length : Int) - i).toNat, ⟨0, rfl, by omega, ⟨by simp, by simp⟩, C1⟩, ?_⟩
  clear C C1
  rintro i w6 L7 _ ⟨j, rfl, hj, hjo, D⟩
  have bad : okL v.ms → ∀ {w' L'}, okL v.ms → Ctx F m w w' L' m [blk w1.heap.size (metL (v.ms.take j)) 216] → True := fun _ _ _ _ _ => trivial
  by_cases hjl : j < v.ms.length
  rotate_left
  · rw [if_neg (by simpa using hjl)]
    have hj2 : j = v.ms.length := by omega
    rw [hj2, List.take_length] at hjo
    exact Ctr.ret () (by rw [hok, decide_eq_true hjo]) trivial D.drop
  rw [if_pos (by simpa using hjl)]
  obtain ⟨a, ha, hc⟩ := hv.elem pr_len hjl
  have ha : v.q.1 = some a := ha
  refine ⟨by omega, by simpa using hjl, ?_⟩
  rw [ha, onSome_some, Int.toNat_natCast]
  have hr0 := hr _ (List.getElem_mem hjl)
  refine ⟨_, _, D.cells hc, D.cellsL hc, fun w11 L12 h11 g11 => ?_⟩
  have hsn : okL (v.ms.take (j + 1)) ↔ okL (v.ms.take j) ∧ v.ms[j].ok = true ∧ metB (v.ms.take j) v.ms[j].n = false := by
    rw [List.take_succ_eq_append_getElem hjl]; exact okL_snoc
  have no : ¬ (v.ms[j].ok = true ∧ metB (v.ms.take j) v.ms[j].n = false) → v.ok = false := fun h => by
    rw [hok, decide_eq_false]
    exact fun ho => h (hsn.1 (okL_take ho (j + 1))).2
  have hst : v.ms.take (j + 1) = v.ms.take j ++ [v.ms[j]] := List.take_succ_eq_append_getElem hjl
  generalize v.ms[j] = p at hc hr0 no hsn hst
  refine (D.hidL h11 g11).gives (c_pRight p) fun w14 k14 D => ⟨_, rfl, k14, ?_⟩
  cases hpo : p.ok with
  | false =>
    rw [if_neg (by decide)]
    exact Ctr.ret () (by rw [no (by simp [hpo])]) trivial D.drop
  | true =>
  rw [if_pos (by decide)]
  have h16 : p.n < 16 := by simp only [Pr.ok, Bool.and_eq_true, decide_eq_true_eq] at hpo; exact hpo.1
  refine ⟨hr0, h16, metB (v.ms.take j) p.n, ?_, by rw [addr_block]; exact D.blkAt.2, ?_⟩
  · rw [Nat.mul_one, Addr.add_mid]
    exact D.blkCell (j := 0 + p.n.toNat) (by rw [Nat.zero_add]; exact metL_get _ hr0 h16)
  cases hmb : metB (v.ms.take j) p.n with
  | true =>
    rw [if_pos (by decide)]
    exact Ctr.ret () (by rw [no (by simp [hmb])]) trivial D.drop
  | false =>
  rw [if_neg (by decide), Nat.mul_one, Addr.add_mid]
  have hk : p.n.toNat < 16 := by omega
  have hlen : 0 + p.n.toNat + 1 ≤ (metL (v.ms.take j)).length := by show 0 + p.n.toNat + 1 ≤ 16; omega
  have e : IntKind.wrap .i64 ((j : Int) + 1) = ((j + 1 : Nat) : Int) := by rw [w_i64 (by omega) (by omega)]; omega
  refine ⟨hr0, h16, rfl, D.there _ _ hlen, D.blkAt.2, rfl, ⟨j + 1, e, hjl, hsn.2 ⟨hjo, hpo, hmb⟩, ?_⟩, Nat.le_of_eq (by rw [e]; show ((v.ms.length : Int) - ((j + 1 : Nat) : Int)).toNat + 1 = ((v.ms.length : Int) - (j : Int)).toNat; omega)⟩
  have E := D.store (0 + p.n.toNat) [.bool true] hlen
  rw [Nat.zero_add, metL_put _ p hr0 h16, ← hst] at E
  rw [Nat.zero_add]
  exact E
theorem c_rRight (v : Vw) (hr : ∀ p ∈ v.ms, 0 ≤ p.n) (hn : 0 ≤ v.n) : Ctr Tryz.prog 127 #[.agg v.row.toArray] (fun m => VwM m v) [] (fun _ : Unit => .bool v.ok) (fun _ _ => True) (fun _ => []) := by
  refine Ctr.mk fun w F m C hv => x_rRight _ _ _ _ _ w _ ?_
  by_cases hg : (((decide (v.g ≥ 4) || decide (v.n < 1)) || decide (((v.ms.length : Nat) : Int) < 1)) || decide (((v.ms.length : Nat) : Int) > 8)) = true
  · rw [if_pos hg]
    intro w17 h17
    refine Ctr.ret () ?_ trivial (C.hid0 h17)
    have : v.ok = false := by
      simp only [Bool.or_eq_true, decide_eq_true_eq] at hg
      simp only [Vw.ok, decide_eq_false_iff_not]
      rintro ⟨h1, h2, h3, h4, _⟩; omega
    rw [this]
  rw [if_neg hg]
  have hg' : v.g < 4 ∧ v.n ≠ 0 ∧ v.ms.length ≠ 0 ∧ v.ms.length ≤ 8 := by
    simp only [Bool.or_eq_true, decide_eq_true_eq, not_or] at hg; omega
  have hok : v.ok = decide (okL v.ms) := by
    simp only [Vw.ok]
    congr 1
    exact propext ⟨fun h => h.2.2.2.2, fun h => ⟨hg'.1, hg'.2.1, hg'.2.2.1, hg'.2.2.2, h⟩⟩
  refine fun w1 L2 h1 g1 => ?_
  refine ⟨fun i w' L' => ∃ j : Nat, i = j ∧ j ≤ v.ms.length ∧ okL (v.ms.take j) ∧ Ctx F m w w' L' m [], fun i _ => ((v.ms.length : Int) - i).toNat, ⟨0, rfl, by omega, ⟨by simp, by simp⟩, C.hidL h1 g1⟩, ?_⟩
  clear C
  rintro i w6 L7 _ ⟨j, rfl, hj, hjo, D⟩
  by_cases hjl : j < v.ms.length
  rotate_left
  · rw [if_neg (by simpa using hjl)]
    have hj2 : j = v.ms.length := by omega
    rw [hj2, List.take_length] at hjo
    exact Ctr.ret () (by rw [hok, decide_eq_true hjo]) trivial D
  rw [if_pos (by simpa using hjl)]
  obtain ⟨a, ha, hc⟩ := hv.elem pr_len hjl
  have ha : v.q.1 = some a := ha
  refine ⟨by omega, by simpa using hjl, ?_⟩
  rw [ha, onSome_some, Int.toNat_natCast]
  refine ⟨_, _, D.cells hc, D.cellsL hc, ?_⟩
  have hsn : okL (v.ms.take (j + 1)) ↔ okL (v.ms.take j) ∧ v.ms[j].ok = true ∧ metB (v.ms.take j) v.ms[j].n = false := by
    rw [List.take_succ_eq_append_getElem hjl]; exact okL_snoc
  have no : ¬ (v.ms[j].ok = true ∧ metB (v.ms.take j) v.ms[j].n = false) → v.ok = false := fun h => by
    rw [hok, decide_eq_false]
    exact fun ho => h (hsn.1 (okL_take ho (j + 1))).2
  refine D.gives (c_rRightP v.ms[j]) fun w12 k12 D => ⟨_, rfl, k12, ?_⟩
  cases hpo : v.ms[j].ok with
  | false =>
    rw [if_pos (by decide)]
    exact Ctr.ret () (by rw [no (by simp [hpo])]) trivial D
  | true =>
  rw [if_neg (by decide)]
  refine ⟨fun i w' L' => ∃ k : Nat, i = k ∧ k ≤ j ∧ metB (v.ms.take k) v.ms[j].n = false ∧ Ctx F m w w' L' m [], fun i _ => ((j : Int) - i).toNat, ⟨0, rfl, by omega, rfl, D⟩, ?_⟩
  clear D
  rintro i w17 L18 _ ⟨k, rfl, hk, hkm, D⟩
  by_cases hkj : k < j
  rotate_left
  · rw [if_neg (by simpa using hkj)]
    have hk2 : k = j := by omega
    subst hk2
    have e : IntKind.wrap .i64 ((k : Int) + 1) = ((k + 1 : Nat) : Int) := by rw [w_i64 (by omega) (by omega)]; omega
    rw [e]
    exact ⟨rfl, ⟨k + 1, rfl, hjl, hsn.2 ⟨hjo, hpo, hkm⟩, D⟩, Nat.le_of_eq (by show ((v.ms.length : Int) - ((k + 1 : Nat) : Int)).toNat + 1 = ((v.ms.length : Int) - (k : Int)).toNat; omega)⟩
  rw [if_pos (by simpa using hkj)]
  have hkl : k < v.ms.length := by omega
  obtain ⟨a2, ha2, hc2⟩ := hv.elem pr_len hkl
  have e2 : a2 = a := by
    have : v.q.1 = some a2 := ha2
    rw [ha] at this; injection this with this; exact this.symm
  subst e2
  refine ⟨by omega, by omega, ?_⟩
  rw [onSome_some, Int.toNat_natCast]
  refine ⟨_, D.cells hc2 0 _ rfl, by rw [addr_block]; exact D.cellsL hc2, by omega, by omega, ?_⟩
  rw [onSome_some]
  refine ⟨_, D.cells hc 0 _ rfl, by rw [addr_block]; exact D.cellsL hc, ?_⟩
  have hmk : metB (v.ms.take (k + 1)) v.ms[j].n = (v.ms[k].n == v.ms[j].n) := by
    rw [List.take_succ_eq_append_getElem hkl]
    simp only [metB, List.map_append, List.any_append] at hkm ⊢
    rw [hkm]; simp
  by_cases he : v.ms[k].n = v.ms[j].n
  · rw [if_pos (by simp [he])]
    refine fun w25 h25 => Ctr.ret (m' := m) (L := []) () ?_ trivial (D.hid0 h25)
    rw [no]
    rintro ⟨_, h⟩
    have h3 : metB (v.ms.take j) v.ms[j].n = true := by
      rw [metB, List.any_eq_true]
      refine ⟨v.ms[k].n, List.mem_map.2 ⟨v.ms[k], ?_, rfl⟩, by simp [he]⟩
      exact List.mem_take_iff_getElem.2 ⟨k, by omega, rfl⟩
    rw [h3] at h; cases h
  · rw [if_neg (by simp [he])]
    have e : IntKind.wrap .i64 ((k : Int) + 1) = ((k + 1 : Nat) : Int) := by rw [w_i64 (by omega) (by omega)]; omega
    rw [e]
    exact fun w23 L24 h23 g23 => ⟨rfl, ⟨k + 1, rfl, hkj, by rw [hmk]; simp [he], D.hidL h23 g23⟩, Nat.le_of_eq (by show ((j : Int) - ((k + 1 : Nat) : Int)).toNat + 1 = ((j : Int) - (k : Int)).toNat; omega)⟩

end Go.Proofs
