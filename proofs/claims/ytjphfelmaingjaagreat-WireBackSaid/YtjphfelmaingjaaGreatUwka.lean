import Derived.Test.YtjphfelmaingjaaGreatVwka
import Derived.Test.YtjphfelmaingjaaGreatXPm
import Derived.WideKeyRuns
import Derived.Laws.IdiomRangeMap
import Derived.Test.YtjphfelmaingjaaGreatXSub
import Derived.Test.YtjphfelmaingjaaGreatXElems
import Derived.Test.YtjphfelmaingjaaGreatXSmall
import Derived.Test.YtjphfelmaingjaaGreatXSized
import Derived.Test.YtjphfelmaingjaaGreatXFn
import Derived.Test.YtjphfelmaingjaaGreatProg
set_option linter.unusedVariables false
set_option linter.unusedSimpArgs false
set_option maxRecDepth 10000
namespace Go.Proofs
open Go X RowKit
abbrev noMem : Mem → Prop := fun _ => True
abbrev Sl := Option Addr × Nat
abbrev slV (p : Sl) (n : Nat) : Value := .slice p.1 n p.2
theorem ba_eq (a b : ByteArray) : (a == b) = true ↔ a = b := by
  obtain ⟨a⟩ := a
  obtain ⟨b⟩ := b
  constructor
  · intro h
    have : (a == b) = true := h
    rw [beq_iff_eq.1 this]
  · intro h
    injection h with h; subst h
    show (a == a) = true
    simp
structure Pt where (g k : Int) (key val : ByteArray) (n : Int)
@[reducible] def Pt.row (p : Pt) : List Value := [.int .u8 p.g, .int .u8 p.k, .string p.key, .string p.val, .int .i64 p.n]
theorem pt_len (p : Pt) : p.row.length = 5 := rfl
theorem pt_one (x : Pt) : ∀ u ∈ x.row, oneC u = true := by intro u h; simp [Pt.row] at h; rcases h with rfl | rfl | rfl | rfl | rfl <;> rfl
theorem pt_ext {a b : Pt} (h : a.g = b.g ∧ a.k = b.k ∧ a.key = b.key ∧ a.val = b.val ∧ a.n = b.n) : a = b := by cases a; cases b; simp_all
instance : DecidableEq Pt := fun a b => decidable_of_iff (a.g = b.g ∧ a.k = b.k ∧ a.key = b.key ∧ a.val = b.val ∧ a.n = b.n) ⟨pt_ext, fun h => by subst h; exact ⟨rfl, rfl, rfl, rfl, rfl⟩⟩
theorem pt_eq (a b : Pt) : ((a.g == b.g) && ((a.k == b.k) && ((a.key == b.key) && ((a.val == b.val) && (a.n == b.n))))) = decide (a = b) := by
  rw [Bool.eq_iff_iff, decide_eq_true_eq]
  simp only [Bool.and_eq_true, beq_iff_eq, ba_eq]
  exact ⟨fun h => pt_ext h, fun h => by subst h; exact ⟨rfl, rfl, rfl, rfl, rfl⟩⟩
structure Wr where (key val : ByteArray) (has : Bool)
@[reducible] def Wr.row (p : Wr) : List Value := [.string p.key, .string p.val, .bool p.has]
theorem wr_len (p : Wr) : p.row.length = 3 := rfl
theorem wr_one (x : Wr) : ∀ u ∈ x.row, oneC u = true := by intro u h; simp [Wr.row] at h; rcases h with rfl | rfl | rfl <;> rfl
theorem wr_ext {a b : Wr} (h : a.key = b.key ∧ a.val = b.val ∧ a.has = b.has) : a = b := by cases a; cases b; simp_all
instance : DecidableEq Wr := fun a b => decidable_of_iff (a.key = b.key ∧ a.val = b.val ∧ a.has = b.has) ⟨wr_ext, fun h => by subst h; exact ⟨rfl, rfl, rfl⟩⟩
theorem wr_eq (a b : Wr) : ((a.key == b.key) && ((a.val == b.val) && (a.has == b.has))) = decide (a = b) := by
  rw [Bool.eq_iff_iff, decide_eq_true_eq]
  simp only [Bool.and_eq_true, beq_iff_eq, ba_eq]
  exact ⟨fun h => wr_ext h, fun h => by subst h; exact ⟨rfl, rfl, rfl⟩⟩
theorem c_Part (p : Pt) : Gives Tryz.prog 69 #[.agg p.row.toArray] (.agg p.row.toArray) := fun w => x_Part _ _ _ _ _ w _ fun w1 h1 => ⟨rfl, hid_below h1 (by simp) (Nat.le_refl _)⟩
theorem c_EqualP (q q' : Sl) (l l' : List Pt) (hb : l.length ≤ 140737488355328) : Ctr Tryz.prog 108 #[slV q l.length, slV q' l'.length] (fun m => MSrc m 5 (slV q l.length) l.length (l.flatMap Pt.row) ∧ MSrc m 5 (slV q' l'.length) l'.length (l'.flatMap Pt.row)) [] (fun _ : Unit => .bool (decide (l = l'))) (fun _ _ => True) (fun _ => []) := by
  refine Ctr.mk fun w F m C hp => x_EqualP _ _ _ _ _ _ w _ ?_
  obtain ⟨h1, h2⟩ := hp
  by_cases hl : l.length = l'.length
  rotate_left
  · rw [if_pos (by simp; omega)]
    exact Ctr.ret () (by rw [decide_eq_false (fun h => hl (by rw [h]))]) trivial C
  rw [if_neg (by simp [hl])]
  refine ⟨fun i w' _ => ∃ j : Nat, i = j ∧ j ≤ l.length ∧ l.take j = l'.take j ∧ Ctx F m w w' [] m [], fun i _ => (l.length - i).toNat, ⟨0, rfl, by omega, rfl, C⟩, ?_⟩
  clear C
  rintro i w4 L5 _ ⟨j, rfl, hj, hjt, D⟩
  by_cases hjl : j < l.length
  · rw [if_pos (by simpa using hjl)]
    obtain ⟨a1, ha1, hc1⟩ := h1.elem pt_len hjl
    obtain ⟨a2, ha2, hc2⟩ := h2.elem pt_len (show j < l'.length by omega)
    refine ⟨by omega, by simpa using hjl, ?_⟩
    rw [ha1, onSome_some]
    refine ⟨_, _, _, _, _, D.cells hc1, by omega, by omega, ?_⟩
    rw [ha2, onSome_some]
    refine ⟨_, _, _, _, _, D.cells hc2, ?_⟩
    rw [pt_eq]
    by_cases he : l[j] = l'[j]
    · rw [if_neg (by simp [he])]
      intro w18 h18
      have e : IntKind.wrap .i64 ((j : Int) + 1) = ((j + 1 : Nat) : Int) := by rw [w_i64 (by omega) (by omega)]; omega
      rw [e]
      refine ⟨⟨j + 1, rfl, hjl, ?_, D.hid0 h18⟩, Nat.le_of_eq (by show ((l.length : Int) - ((j + 1 : Nat) : Int)).toNat + 1 = ((l.length : Int) - (j : Int)).toNat; omega)⟩
      rw [List.take_succ_eq_append_getElem hjl, List.take_succ_eq_append_getElem (by omega : j < l'.length), hjt, he]
    · rw [if_pos (by simp [he])]
      intro w19 h19
      refine Ctr.ret () ?_ trivial (D.hid0 h19)
      rw [decide_eq_false (fun h => he (by simp only [h]))]
  · rw [if_neg (by simpa using hjl)]
    have hj2 : j = l.length := by omega
    rw [hj2, List.take_length, hl, List.take_length] at hjt
    exact Ctr.ret () (by rw [decide_eq_true hjt]) trivial D
theorem c_EqualW (q q' : Sl) (l l' : List Wr) (hb : l.length ≤ 140737488355328) : Ctr Tryz.prog 147 #[slV q l.length, slV q' l'.length] (fun m => MSrc m 3 (slV q l.length) l.length (l.flatMap Wr.row) ∧ MSrc m 3 (slV q' l'.length) l'.length (l'.flatMap Wr.row)) [] (fun _ : Unit => .bool (decide (l = l'))) (fun _ _ => True) (fun _ => []) := by
  refine Ctr.mk fun w F m C hp => x_EqualW _ _ _ _ _ _ w _ ?_
  obtain ⟨h1, h2⟩ := hp
  by_cases hl : l.length = l'.length
  rotate_left
  · rw [if_pos (by simp; omega)]
    exact Ctr.ret () (by rw [decide_eq_false (fun h => hl (by rw [h]))]) trivial C
  rw [if_neg (by simp [hl])]
  refine ⟨fun i w' _ => ∃ j : Nat, i = j ∧ j ≤ l.length ∧ l.take j = l'.take j ∧ Ctx F m w w' [] m [], fun i _ => (l.length - i).toNat, ⟨0, rfl, by omega, rfl, C⟩, ?_⟩
  clear C
  rintro i w4 L5 _ ⟨j, rfl, hj, hjt, D⟩
  by_cases hjl : j < l.length
  · rw [if_pos (by simpa using hjl)]
    obtain ⟨a1, ha1, hc1⟩ := h1.elem wr_len hjl
    obtain ⟨a2, ha2, hc2⟩ := h2.elem wr_len (show j < l'.length by omega)
    refine ⟨by omega, by simpa using hjl, ?_⟩
    rw [ha1, onSome_some]
    refine ⟨_, _, _, D.cells hc1, by omega, by omega, ?_⟩
    rw [ha2, onSome_some]
    refine ⟨_, _, _, D.cells hc2, ?_⟩
    rw [wr_eq]
    by_cases he : l[j] = l'[j]
    · rw [if_neg (by simp [he])]
      intro w18 h18
      have e : IntKind.wrap .i64 ((j : Int) + 1) = ((j + 1 : Nat) : Int) := by rw [w_i64 (by omega) (by omega)]; omega
      rw [e]
      refine ⟨⟨j + 1, rfl, hjl, ?_, D.hid0 h18⟩, Nat.le_of_eq (by show ((l.length : Int) - ((j + 1 : Nat) : Int)).toNat + 1 = ((l.length : Int) - (j : Int)).toNat; omega)⟩
      rw [List.take_succ_eq_append_getElem hjl, List.take_succ_eq_append_getElem (by omega : j < l'.length), hjt, he]
    · rw [if_pos (by simp [he])]
      intro w19 h19
      refine Ctr.ret () ?_ trivial (D.hid0 h19)
      rw [decide_eq_false (fun h => he (by simp only [h]))]
  · rw [if_neg (by simpa using hjl)]
    have hj2 : j = l.length := by omega
    rw [hj2, List.take_length, hl, List.take_length] at hjt
    exact Ctr.ret () (by rw [decide_eq_true hjt]) trivial D
theorem mcells_part {m : Mem} {a : Addr} {cs : List Value} (h : MCells m a cs) (o : Nat) (us : List Value) (hu : ∀ j v, us[j]? = some v → cs[o + j]? = some v) : MCells m (a.add o) us := fun j v e => by
  rw [Addr.add_add]; exact h _ _ (hu j v e)
/-- an identifier -/
structure I where (n l s d g0 i0 g1 i1 g2 i2 : Int)
@[reducible] def I.V (x : I) : Value := .agg #[.int .u8 x.n, .int .u16 x.l, .int .u32 x.s, .int .u8 x.d, .int .u8 x.g0, .int .u8 x.i0, .int .u8 x.g1, .int .u8 x.i1, .int .u8 x.g2, .int .u8 x.i2]
def I.zero : I := ⟨0, 0, 0, 0, 0, 0, 0, 0, 0, 0⟩
structure I.In (x : I) : Prop where
  n : 0 ≤ x.n ∧ x.n < 256
  l : 0 ≤ x.l ∧ x.l < 65536
  s : 0 ≤ x.s ∧ x.s < 4294967296
  d : 0 ≤ x.d ∧ x.d < 256
  g0 : 0 ≤ x.g0 ∧ x.g0 < 256
  i0 : 0 ≤ x.i0 ∧ x.i0 < 256
  g1 : 0 ≤ x.g1 ∧ x.g1 < 256
  i1 : 0 ≤ x.i1 ∧ x.i1 < 256
  g2 : 0 ≤ x.g2 ∧ x.g2 < 256
  i2 : 0 ≤ x.i2 ∧ x.i2 < 256
@[reducible] def PV (n l : Int) : Value := .agg #[.int .u8 n, .int .u16 l]
@[reducible] def I.row (x : I) : List Value := [.int .u8 x.n, .int .u16 x.l, .int .u32 x.s, .int .u8 x.d, .int .u8 x.g0, .int .u8 x.i0, .int .u8 x.g1, .int .u8 x.i1, .int .u8 x.g2, .int .u8 x.i2]
theorem I.ext' {a b : I} (h : a.n = b.n ∧ a.l = b.l ∧ a.s = b.s ∧ a.d = b.d ∧ a.g0 = b.g0 ∧ a.i0 = b.i0 ∧ a.g1 = b.g1 ∧ a.i1 = b.i1 ∧ a.g2 = b.g2 ∧ a.i2 = b.i2) : a = b := by cases a; cases b; simp_all
instance : DecidableEq I := fun a b => decidable_of_iff (a.n = b.n ∧ a.l = b.l ∧ a.s = b.s ∧ a.d = b.d ∧ a.g0 = b.g0 ∧ a.i0 = b.i0 ∧ a.g1 = b.g1 ∧ a.i1 = b.i1 ∧ a.g2 = b.g2 ∧ a.i2 = b.i2) (by cases a; cases b; simp)
theorem i_eqd (a d : I) : (((a.n == d.n) && (a.l == d.l)) && ((a.s == d.s) && ((a.d == d.d) && (((a.g0 == d.g0) && (a.i0 == d.i0)) && (((a.g1 == d.g1) && (a.i1 == d.i1)) && ((a.g2 == d.g2) && (a.i2 == d.i2))))))) = decide (a = d) := by
  rw [Bool.eq_iff_iff, decide_eq_true_eq]
  simp only [Bool.and_eq_true, beq_iff_eq]
  constructor
  · rintro ⟨⟨h1, h2⟩, h3, h4, ⟨h5, h6⟩, ⟨h7, h8⟩, h9, h10⟩
    exact I.ext' ⟨h1, h2, h3, h4, h5, h6, h7, h8, h9, h10⟩
  · rintro rfl; simp
theorem c_Proc (n l : Int) : Gives Tryz.prog 27 #[PV n l] (PV n l) := fun w => x_gemotlaw02_Proc n l w _ fun w1 h1 => ⟨rfl, hid_below h1 (by simp) (Nat.le_refl _)⟩
theorem c_ID (x : I) : Gives Tryz.prog 23 #[x.V] x.V := by
  intro w
  refine x_gemotlaw02_ID _ _ _ _ _ _ _ _ _ _ w _ ⟨[], facts_nil _ _, ?_, ?_⟩
  all_goals
    intro w2 L h1 h2
    have A := at_start h1 h2
    refine (c_Proc x.n x.l).call fun w5 h5 => ⟨_, _, rfl, at_kept A h5, facts_nil _ _, [], facts_nil _ _, [], facts_nil _ _, [], facts_nil _ _, fun w11 h11 => ⟨rfl, ?_⟩⟩
    exact at_end (at_call A (Nat.le_refl _) h5) (Nat.le_refl _) h11
theorem c_Res (c : Int) (s : ByteArray) : Gives Tryz.prog 25 #[.agg #[.int .u8 c, .string s]] (.agg #[.int .u8 c, .string s]) := fun w => x_gemotlaw03_Res c s w _ fun w1 h1 => ⟨rfl, hid_below h1 (by simp) (Nat.le_refl _)⟩
/-! ### entries -/
structure En where (kd : Int) (id : I) (fl : Int) (pq : Sl) (ps : List Pt) (rc : Int) (rv : ByteArray) (wq : Sl) (ws : List Wr) (vn vl : Int)
@[reducible] def En.row (e : En) : List Value := [.int .u8 e.kd, .int .u8 e.id.n, .int .u16 e.id.l, .int .u32 e.id.s, .int .u8 e.id.d, .int .u8 e.id.g0, .int .u8 e.id.i0, .int .u8 e.id.g1, .int .u8 e.id.i1, .int .u8 e.id.g2, .int .u8 e.id.i2, .int .u32 e.fl, slV e.pq e.ps.length, .int .u8 e.rc, .string e.rv, slV e.wq e.ws.length, .int .u8 e.vn, .int .u16 e.vl]
theorem en_len (e : En) : e.row.length = 18 := rfl
/-- an entry, wherever its lists lie -/
structure Ev where (kd : Int) (id : I) (fl : Int) (ps : List Pt) (rc : Int) (rv : ByteArray) (ws : List Wr) (vn vl : Int)
def En.er (e : En) : Ev := ⟨e.kd, e.id, e.fl, e.ps, e.rc, e.rv, e.ws, e.vn, e.vl⟩
theorem ev_ext {a b : Ev} (h : a.kd = b.kd ∧ a.id = b.id ∧ a.fl = b.fl ∧ a.ps = b.ps ∧ a.rc = b.rc ∧ a.rv = b.rv ∧ a.ws = b.ws ∧ a.vn = b.vn ∧ a.vl = b.vl) : a = b := by cases a; cases b; simp_all
instance : DecidableEq Ev := fun a b => decidable_of_iff (a.kd = b.kd ∧ a.id = b.id ∧ a.fl = b.fl ∧ a.ps = b.ps ∧ a.rc = b.rc ∧ a.rv = b.rv ∧ a.ws = b.ws ∧ a.vn = b.vn ∧ a.vl = b.vl) ⟨ev_ext, fun h => by subst h; exact ⟨rfl, rfl, rfl, rfl, rfl, rfl, rfl, rfl, rfl⟩⟩
structure EnM (m : Mem) (e : En) : Prop where
  p : MSrc m 5 (slV e.pq e.ps.length) e.ps.length (e.ps.flatMap Pt.row)
  w : MSrc m 3 (slV e.wq e.ws.length) e.ws.length (e.ws.flatMap Wr.row)
  pl : e.ps.length ≤ 1000000
  wl : e.ws.length ≤ 1000000
theorem EnM.mono {m m' : Mem} {e : En} (h : EnM m e) (hm : m.le m') : EnM m' e := ⟨h.p.mono hm, h.w.mono hm, h.pl, h.wl⟩
theorem c_pSame (q q' : Sl) (l l' : List Pt) (hb : l.length ≤ 140737488355328) : Ctr Tryz.prog 53 #[slV q l.length, slV q' l'.length] (fun m => MSrc m 5 (slV q l.length) l.length (l.flatMap Pt.row) ∧ MSrc m 5 (slV q' l'.length) l'.length (l'.flatMap Pt.row)) [] (fun _ : Unit => .bool (decide (l = l'))) (fun _ _ => True) (fun _ => []) := by
  refine Ctr.mk fun w F m C hp => x_pSame _ _ _ _ _ _ w _ ?_
  exact (c_EqualP q q' l l' hb).call (As := []) C hp fun _ m1 w2 hk hm _ C => ⟨_, rfl, hk.size, Ctr.ret () rfl trivial C⟩
theorem ev_eq (a b : En) : (decide (a.er = b.er)) = (((a.kd == b.kd) && decide (a.id = b.id)) && (a.fl == b.fl) && decide (a.ps = b.ps) && ((a.rc == b.rc) && (a.rv == b.rv)) && decide (a.ws = b.ws) && ((a.vn == b.vn) && (a.vl == b.vl))) := by
  rw [Bool.eq_iff_iff, decide_eq_true_eq]
  simp only [Bool.and_eq_true, beq_iff_eq, ba_eq, decide_eq_true_eq]
  constructor
  · intro h
    have h' := h
    simp only [En.er, Ev.mk.injEq] at h'
    obtain ⟨h1, h2, h3, h4, h5, h6, h7, h8, h9⟩ := h'
    exact ⟨⟨⟨⟨⟨⟨h1, h2⟩, h3⟩, h4⟩, h5, h6⟩, h7⟩, h8, h9⟩
  · rintro ⟨⟨⟨⟨⟨⟨h1, h2⟩, h3⟩, h4⟩, h5, h6⟩, h7⟩, h8, h9⟩
    exact ev_ext ⟨h1, h2, h3, h4, h5, h6, h7, h8, h9⟩
theorem c_eSame (a b : En) : Ctr Tryz.prog 110 #[.agg a.row.toArray, .agg b.row.toArray] (fun m => EnM m a ∧ EnM m b) [] (fun _ : Unit => .bool (decide (a.er = b.er))) (fun _ _ => True) (fun _ => []) := by
  refine Ctr.mk fun w F m C hp => x_eSame _ _ _ _ _ _ _ _ _ _ _ _ _ _ _ _ _ _ _ _ _ _ _ _ _ _ _ _ _ _ _ _ _ _ _ _ _ _ _ _ _ _ _ _ w _ ?_
  obtain ⟨ha, hb⟩ := hp
  rw [ev_eq, i_eqd]
  by_cases h1 : ((a.kd == b.kd) && decide (a.id = b.id) && (a.fl == b.fl)) = true
  rotate_left
  · have h1' : ((a.kd == b.kd) && decide (a.id = b.id) && (a.fl == b.fl)) = false := by simpa using h1
    rw [if_neg (by rw [h1']; decide)]
    intro w1 h1w
    exact Ctr.ret () (by rw [h1']; simp) trivial (C.hid0 h1w)
  rw [if_pos (by rw [h1]; decide)]
  intro w2 L3 h2 g2
  refine (c_pSame a.pq b.pq a.ps b.ps (by have := ha.pl; omega)).call (As := []) (C.hidL h2 g2) ⟨ha.p, hb.p⟩ fun _ m1 w5 hk hm1 _ C => ⟨_, rfl, hk, ?_⟩
  by_cases h3 : ((true && decide (a.ps = b.ps)) && ((a.rc == b.rc) && (a.rv == b.rv))) = true
  rotate_left
  · have h3' : ((true && decide (a.ps = b.ps)) && ((a.rc == b.rc) && (a.rv == b.rv))) = false := by simpa using h3
    rw [if_neg (by rw [h3']; decide)]
    rw [Bool.true_and] at h3'
    exact Ctr.ret () (by rw [h1, Bool.true_and, h3']; simp) trivial C
  rw [if_pos (by rw [h3]; decide)]
  refine (c_EqualW a.wq b.wq a.ws b.ws (by have := ha.wl; omega)).call (As := []) C ⟨ha.w.mono hm1, hb.w.mono hm1⟩ fun _ m2 w8 hk hm2 _ C => ⟨_, rfl, hk, ?_⟩
  exact Ctr.ret () (by rw [h1, h3]) trivial C
theorem mnI (c : Int) (k : Nat) (hc : 0 ≤ c) : 0 ≤ (if c < (k : Int) then c else (k : Int)) ∧ (if c < (k : Int) then c else (k : Int)) ≤ c ∧ (if c < (k : Int) then c else (k : Int)) ≤ k := by split <;> omega
theorem c_Light3 (q : Sl) (l : List Pt) : Ctr Tryz.prog 16 #[slV q l.length] (fun m => MSrc m 5 (slV q l.length) l.length (l.flatMap Pt.row)) [] (fun b : Bool => .bool b) (fun _ _ => True) (fun _ => []) := by
  refine Ctr.mk fun w F m C hp => x_Light3 _ _ _ w _ ?_
  refine ⟨fun n i w' _ => ∃ j : Nat, i = j ∧ j ≤ 300 ∧ -9000 ≤ n ∧ n ≤ 3000 ∧ Ctx F m w w' [] m [], fun _ i _ => (300 - i).toNat, ⟨0, rfl, by omega, by omega, by omega, C⟩, ?_⟩
  clear C
  rintro n i w5 L6 _ ⟨j, rfl, hj, h1, h2, D⟩
  by_cases hg : ((decide ((j : Int) < ((l.length : Nat) : Int)) && decide ((j : Int) < 300)) && decide (n ≥ 0)) = true
  · rw [if_pos hg]
    simp only [Bool.and_eq_true, decide_eq_true_eq] at hg
    have hjl : j < l.length := by omega
    obtain ⟨a, ha, hc⟩ := hp.elem pt_len hjl
    refine ⟨by omega, by omega, ?_⟩
    rw [ha, onSome_some]
    have hcc := D.cells hc
    rw [Int.toNat_natCast]
    refine ⟨_, hcc 2 _ rfl, by omega, by omega, ?_⟩
    rw [onSome_some]
    refine ⟨_, hcc 3 _ rfl, fun w11 h11 => ?_⟩
    obtain ⟨a1, a2, _⟩ := mnI 4000 l[j].key.size (by omega)
    obtain ⟨b1, b2, _⟩ := mnI 4000 l[j].val.size (by omega)
    generalize (if (4000 : Int) < ((l[j].key.size : Nat) : Int) then (4000 : Int) else ((l[j].key.size : Nat) : Int)) = x at a1 a2 ⊢
    generalize (if (4000 : Int) < ((l[j].val.size : Nat) : Int) then (4000 : Int) else ((l[j].val.size : Nat) : Int)) = y at b1 b2 ⊢
    rw [w_i64 (n := n - 3) (by omega) (by omega), w_i64 (n := n - 3 - x) (by omega) (by omega), w_i64 (n := n - 3 - x - y) (by omega) (by omega), w_i64 (n := (j : Int) + 1) (by omega) (by omega)]
    exact ⟨⟨j + 1, by omega, by omega, by omega, by omega, D.hid0 h11⟩, Nat.le_of_eq (by show (300 - ((j : Int) + 1)).toNat + 1 = (300 - (j : Int)).toNat; omega)⟩
  · rw [if_neg hg]
    exact Ctr.ret (decide (n ≥ 0)) rfl trivial D
structure EnM0 (m : Mem) (e : En) : Prop where
  p : MSrc m 5 (slV e.pq e.ps.length) e.ps.length (e.ps.flatMap Pt.row)
  w : MSrc m 3 (slV e.wq e.ws.length) e.ws.length (e.ws.flatMap Wr.row)
theorem EnM0.mono {m m' : Mem} {e : En} (h : EnM0 m e) (hm : m.le m') : EnM0 m' e := ⟨h.p.mono hm, h.w.mono hm⟩
theorem c_Light5 (q : Sl) (l : List En) : Ctr Tryz.prog 17 #[slV q l.length] (fun m => MSrc m 18 (slV q l.length) l.length (l.flatMap En.row) ∧ ∀ e ∈ l, EnM0 m e) [] (fun b : Bool => .bool b) (fun b _ => b = true → l.length ≤ 150 ∧ ∀ e ∈ l, e.ps.length < 200 ∧ e.ws.length ≤ 300) (fun _ => []) := by
  refine Ctr.mk fun w F m C hp => x_Light5 _ _ _ w _ ?_
  obtain ⟨hp, he⟩ := hp
  refine ⟨fun n i w' _ => ∃ j : Nat, ∃ m' : Mem, i = j ∧ j ≤ 200 ∧ j ≤ l.length ∧ -10000000 ≤ n ∧ n ≤ 6000 ∧ m.le m' ∧ (0 ≤ n → ∀ e ∈ l.take j, e.ps.length < 200 ∧ e.ws.length ≤ 300) ∧ Ctx F m w w' [] m' [], fun _ i _ => (200 - i).toNat, ⟨0, m, rfl, by omega, by omega, by omega, by omega, Mem.le_refl _, by simp, C⟩, ?_⟩
  clear C
  rintro n i w5 L6 _ ⟨j, m', rfl, hj, hjl0, h1, h2, hm', hok, D⟩
  by_cases hg : ((decide ((j : Int) < ((l.length : Nat) : Int)) && decide ((j : Int) < 200)) && decide (n ≥ 0)) = true
  rotate_left
  · rw [if_neg hg]
    refine Ctr.ret (decide (n ≥ 0) && decide (((l.length : Nat) : Int) ≤ 150)) rfl (fun hb => ?_) D
    simp only [Bool.and_eq_true, decide_eq_true_eq] at hb hg
    refine ⟨by omega, ?_⟩
    have := hok (by omega)
    rwa [show j = l.length by omega, List.take_length] at this
  rw [if_pos hg]
  simp only [Bool.and_eq_true, decide_eq_true_eq] at hg
  have hjl : j < l.length := by omega
  obtain ⟨a, ha, hc⟩ := (hp.mono hm').elem en_len hjl
  refine ⟨by omega, by omega, ?_⟩
  rw [ha, onSome_some]
  have hem := (he _ (List.getElem_mem hjl)).mono hm'
  generalize he0 : l[j] = e at hc hem
  refine ⟨_, _, _, _, _, _, _, _, _, _, _, _, _, _, _, _, _, _, _, _, _, _, by rw [Int.toNat_natCast]; exact D.cells hc, fun w30 L31 h30 g30 => ?_⟩
  refine (c_Light3 e.pq e.ps).call (As := []) (D.hidL h30 g30) hem.p fun b3 m2 w33 hk hm2 _ D => ⟨_, rfl, hk, ?_⟩
  by_cases hbad : ((!b3) || decide (((e.ws.length : Nat) : Int) > 300)) = true
  · rw [if_pos hbad]
    exact Ctr.ret false rfl (by simp) D
  rw [if_neg hbad]
  simp only [Bool.or_eq_true, decide_eq_true_eq, not_or] at hbad
  have hwl : e.ws.length ≤ 300 := by omega
  obtain ⟨a1, a2, _⟩ := mnI 7000 e.rv.size (by omega)
  have b12 : 0 ≤ (if (200 : Int) < ((e.ps.length : Nat) : Int) then (200 : Int) else ((e.ps.length : Nat) : Int)) ∧ (if (200 : Int) < ((e.ps.length : Nat) : Int) then (200 : Int) else ((e.ps.length : Nat) : Int)) ≤ 200 ∧ ((if (200 : Int) < ((e.ps.length : Nat) : Int) then (200 : Int) else ((e.ps.length : Nat) : Int)) < 200 → e.ps.length < 200) := by
    split <;> omega
  obtain ⟨b1, b2, b3'⟩ := b12
  generalize (if (7000 : Int) < ((e.rv.size : Nat) : Int) then (7000 : Int) else ((e.rv.size : Nat) : Int)) = x at a1 a2 ⊢
  generalize (if (200 : Int) < ((e.ps.length : Nat) : Int) then (200 : Int) else ((e.ps.length : Nat) : Int)) = y at b1 b2 b3' ⊢
  rw [w_i64 (n := n - 10) (by omega) (by omega), w_i64 (n := n - 10 - x) (by omega) (by omega), w_i64 (n := 30 * y) (by omega) (by omega), w_i64 (n := n - 10 - x - 30 * y) (by omega) (by omega)]
  refine ⟨fun n' i' w' L' => ∃ k : Nat, i' = k ∧ k ≤ e.ws.length ∧ -20000 - 20000 * (k : Int) ≤ n' ∧ n' ≤ n - 10 - 30 * y ∧ Ctx F m w w' L' m2 [], fun _ i _ => ((e.ws.length : Int) - i).toNat, ⟨0, rfl, by omega, by omega, by omega, D⟩, ?_⟩
  clear D
  rintro n' i' w39 L40 _ ⟨k, rfl, hk1, hk2, hk3, D⟩
  by_cases hkl : k < e.ws.length
  rotate_left
  · rw [if_neg (by simpa using hkl), w_i64 (n := (j : Int) + 1) (by omega) (by omega)]
    refine ⟨⟨j + 1, m2, by omega, by omega, by omega, by omega, by omega, hm'.le_trans hm2, fun h0 e' h => ?_, D.noL⟩, Nat.le_of_eq (by show (200 - ((j : Int) + 1)).toNat + 1 = (200 - (j : Int)).toNat; omega)⟩
    rw [List.take_succ_eq_append_getElem hjl, he0] at h
    rcases List.mem_append.1 h with h | h
    · exact hok (by omega) e' h
    · simp only [List.mem_singleton] at h; subst h
      exact ⟨b3' (by omega), hwl⟩
  rw [if_pos (by simpa using hkl)]
  obtain ⟨p, hp1, hc1⟩ := (hem.w.mono hm2).elem wr_len hkl
  refine ⟨by omega, by omega, ?_⟩
  have hcc := D.cells hc1
  have hnl := D.cellsL hc1
  rw [hp1, onSome_some, Int.toNat_natCast]
  refine ⟨_, hcc 0 _ rfl, by rw [addr_block]; exact hnl, by omega, by omega, ?_⟩
  rw [onSome_some]
  refine ⟨_, hcc 1 _ rfl, by simpa using hnl, fun w45 L46 h45 g45 => ⟨rfl, ?_⟩⟩
  obtain ⟨c1, c2, _⟩ := mnI 7000 e.ws[k].key.size (by omega)
  obtain ⟨d1, d2, _⟩ := mnI 7000 e.ws[k].val.size (by omega)
  generalize (if (7000 : Int) < ((e.ws[k].key.size : Nat) : Int) then (7000 : Int) else ((e.ws[k].key.size : Nat) : Int)) = x' at c1 c2 ⊢
  generalize (if (7000 : Int) < ((e.ws[k].val.size : Nat) : Int) then (7000 : Int) else ((e.ws[k].val.size : Nat) : Int)) = y' at d1 d2 ⊢
  rw [w_i64 (n := n' - 1) (by omega) (by omega), w_i64 (n := n' - 1 - x') (by omega) (by omega), w_i64 (n := n' - 1 - x' - y') (by omega) (by omega), w_i64 (n := (k : Int) + 1) (by omega) (by omega)]
  exact ⟨⟨k + 1, by omega, by omega, by omega, by omega, D.hidL h45 g45⟩, Nat.le_of_eq (by show ((e.ws.length : Int) - ((k : Int) + 1)).toNat + 1 = ((e.ws.length : Int) - (k : Int)).toNat; omega)⟩
end Go.Proofs
namespace Go.Proofs
open Go X RowKit
/-! ### which parts, and which continuations may be -/
theorem toL_data (s : ByteArray) : s.toList = s.data.toList := toBA_list s.data.toList
theorem emp_eq (s : ByteArray) : (s.toList == (ByteArray.mk #[]).toList) = decide (s.size = 0) := by
  rw [toL_data, toL_data, Bool.eq_iff_iff]
  simp only [beq_iff_eq, decide_eq_true_eq]
  show s.data.toList = [] ↔ s.data.size = 0
  rw [← Array.length_toList]
  exact List.length_eq_zero_iff.symm
def Pt.fits (p : Pt) : Bool :=
  if p.k = 1 then decide (((p.val.size : Nat) : Int) ≤ 64) && (p.n == 0)
  else if p.k = 2 ∨ p.k = 3 then decide (p.val.size = 0) && decide (p.n ≥ 0)
  else if p.k = 0 ∨ p.k = 4 then decide (p.val.size = 0) && (p.n == 0) else false
def Pt.right (p : Pt) : Bool := ((decide (p.g < 4) && !decide (p.key.size = 0)) && decide (((p.key.size : Nat) : Int) ≤ 16)) && p.fits
theorem c_fits (p : Pt) : Gives Tryz.prog 175 #[.agg p.row.toArray] (.bool p.fits) := by
  intro w
  refine x_part_Part_fits _ _ _ _ _ w _ ?_
  have key : ∀ b, b = p.fits → ∀ w1 : World, Hid [] w w1 → (Ending.returned (.bool b) = Ending.returned (.bool p.fits) ∧ Bel w.heap.size w w1) := fun b hb w1 h1 => ⟨by rw [hb], hid_below h1 (by simp) (Nat.le_refl _)⟩
  simp only [emp_eq]
  (repeat' split) <;> (refine key _ ?_; simp_all [Pt.fits])
theorem c_PRight (p : Pt) : Gives Tryz.prog 164 #[.agg p.row.toArray] (.bool p.right) := by
  intro w
  refine x_part_Part_Right _ _ _ _ _ w _ ?_
  rw [emp_eq]
  by_cases h : ((decide (p.g < 4) && !decide (p.key.size = 0)) && decide (((p.key.size : Nat) : Int) ≤ 16)) = true
  · rw [if_pos (by rw [h]; rfl)]
    intro w2 L3 h2 g2
    have A := at_start h2 g2
    refine (c_fits p).call fun w5 b5 => ⟨_, rfl, at_kept A b5, by rw [Pt.right, h], (at_call A (Nat.le_refl _) b5).bel⟩
  · rw [if_neg (by simpa using h)]
    intro w1 h1
    refine ⟨by rw [Pt.right, Bool.eq_false_iff.2 h]; rfl, hid_below h1 (by simp) (Nat.le_refl _)⟩
theorem c_notRight (p : Pt) : Gives Tryz.prog 163 #[.agg p.row.toArray] (.bool (!p.right)) := by
  intro w
  refine x_part_Right_1 _ _ _ _ _ w _ fun w1 L2 h1 g1 => ?_
  have A := at_start h1 g1
  exact (c_PRight p).call fun w5 b5 => ⟨_, rfl, at_kept A b5, rfl, (at_call A (Nat.le_refl _) b5).bel⟩
def rightL (l : List Pt) : Bool := (decide (1 ≤ l.length) && decide (l.length ≤ 4)) && l.all Pt.right
theorem c_IndexF (q : Sl) (l : List Pt) (hl : l.length * 48 ≤ 140737488355328) : Ctr Tryz.prog 174 #[slV q l.length, .func (.func 163) #[] #[]] (fun m => MSrc m 5 (slV q l.length) l.length (l.flatMap Pt.row)) [] (fun i : Int => .int .i64 i) (fun i m => decide (i ≥ 0) = !(l.all Pt.right)) (fun _ => []) := by
  refine Ctr.mk fun w F m C hp => x_IndexF _ _ _ w _ ?_
  refine ⟨fun i w' _ => ∃ j : Nat, i = j ∧ j ≤ l.length ∧ (l.take j).all Pt.right = true ∧ Ctx F m w w' [] m [], fun i _ => (l.length - i).toNat, ⟨0, rfl, by omega, rfl, C⟩, ?_⟩
  clear C
  rintro i w4 L5 _ ⟨j, rfl, hj, hjt, D⟩
  by_cases hjl : j < l.length
  · rw [if_pos (by simpa using hjl)]
    obtain ⟨a, ha, hc⟩ := hp.elem pt_len hjl
    have ha : q.1 = some a := ha
    refine ⟨by omega, by simpa using hjl, ?_⟩
    rw [ha, onSome_some]
    refine ⟨_, _, _, _, _, D.cells hc, ?_⟩
    refine D.gives (c_notRight l[j]) fun w13 k13 D => ⟨_, rfl, k13.size, ?_⟩
    by_cases hr : l[j].right = true
    · rw [if_neg (by simp [hr])]
      have e : IntKind.wrap .i64 ((j : Int) + 1) = ((j + 1 : Nat) : Int) := by rw [w_i64 (by omega) (by omega)]; omega
      rw [e]
      refine ⟨⟨j + 1, rfl, hjl, ?_, D⟩, Nat.le_of_eq (by show ((l.length : Int) - ((j + 1 : Nat) : Int)).toNat + 1 = ((l.length : Int) - (j : Int)).toNat; omega)⟩
      rw [List.take_succ_eq_append_getElem hjl, List.all_append, hjt]; simp [hr]
    · rw [if_pos (by simp [hr])]
      refine Ctr.ret (j : Int) rfl ?_ D
      have : l.all Pt.right = false := by rw [Bool.eq_false_iff]; intro h; exact hr (List.all_eq_true.1 h _ (List.getElem_mem hjl))
      rw [this]; simp
  · rw [if_neg (by simpa using hjl)]
    have hj2 : j = l.length := by omega
    rw [hj2, List.take_length] at hjt
    exact Ctr.ret (-1) rfl (by rw [hjt]; rfl) D
theorem c_partRight (q : Sl) (l : List Pt) (hl : l.length * 48 ≤ 140737488355328) : Ctr Tryz.prog 148 #[slV q l.length] (fun m => MSrc m 5 (slV q l.length) l.length (l.flatMap Pt.row)) [] (fun _ : Unit => .bool (rightL l)) (fun _ m => True) (fun _ => []) := by
  refine Ctr.mk fun w F m C hp => x_part_Right _ _ _ w _ ?_
  by_cases h : (decide (((l.length : Nat) : Int) < 1) || decide (((l.length : Nat) : Int) > 4)) = true
  · rw [if_pos h]
    refine Ctr.ret () ?_ trivial C
    have : rightL l = false := by
      simp only [Bool.or_eq_true, decide_eq_true_eq] at h
      rw [rightL, Bool.eq_false_iff]; intro hh
      simp only [Bool.and_eq_true, decide_eq_true_eq] at hh
      omega
    rw [this]
  · rw [if_neg h]
    refine ⟨x_ContainsF _ _ _ w _ ?_⟩
    refine (c_IndexF q l hl).call (As := []) C hp fun i m2 w4 hk hm hi C => ⟨i, rfl, hk.size, ?_⟩
    refine ⟨_, rfl, hk.size, Ctr.ret () ?_ trivial C⟩
    rw [hi, Bool.not_not, rightL]
    have : (decide (1 ≤ l.length) && decide (l.length ≤ 4)) = true := by
      simp only [Bool.or_eq_true, decide_eq_true_eq, not_or] at h
      simp; omega
    rw [this, Bool.true_and]
def rightP (n l : Int) : Bool := decide (n < 16) && decide (l ≥ 1)
def stepIn (j d g i : Int) : Bool := (decide (j < d) && decide (g < 4)) || (decide (j ≥ d) && (decide (g = 0) && decide (i = 0)))
def I.right (x : I) : Bool := rightP x.n x.l && decide (1 ≤ x.s) && decide (x.s ≤ 1048576) && decide (x.d ≤ 3) && stepIn 0 x.d x.g0 x.i0 && stepIn 1 x.d x.g1 x.i1 && stepIn 2 x.d x.g2 x.i2

theorem c_Proc_Right (n l : Int) : Gives Tryz.prog 117 #[PV n l] (.bool (rightP n l)) := by
  intro w
  refine x_ProcRight n l w _ fun w1 h1 => ⟨?_, hid_below h1 (by simp) (Nat.le_refl _)⟩
  have : (l > 0) ↔ (l ≥ 1) := by omega
  simp only [rightP, this]
theorem not_step {j d g i : Int} : ((decide (j < d) && decide (g ≥ 4)) || ((!decide (j < d)) && (!((g == 0) && (i == 0))))) = !stepIn j d g i := by
  unfold stepIn
  by_cases h : j < d
  · have h' : ¬ j ≥ d := by omega
    simp only [h, h', decide_true, decide_false, Bool.true_and, Bool.not_true, Bool.false_and, Bool.or_false]
    by_cases hg : g < 4
    · have : ¬ g ≥ 4 := by omega
      simp [hg, this]
    · have : g ≥ 4 := by omega
      simp [hg, this]
  · have h' : j ≥ d := by omega
    simp only [h, h', decide_true, decide_false, Bool.false_and, Bool.not_false, Bool.true_and, Bool.false_or]
    by_cases hg : g = 0 <;> by_cases hi : i = 0 <;> simp [hg, hi]
theorem head1 (x : I) : ((((!(rightP x.n x.l)) || decide (x.s < 1)) || decide (x.s > 1048576)) || decide (x.d > 3)) = !(rightP x.n x.l && decide (1 ≤ x.s) && decide (x.s ≤ 1048576) && decide (x.d ≤ 3)) := by
  have h1 : decide (x.s < 1) = !decide (1 ≤ x.s) := by rw [← decide_not]; congr 1; exact propext (by omega)
  have h2 : decide (x.s > 1048576) = !decide (x.s ≤ 1048576) := by rw [← decide_not]; congr 1; exact propext (by omega)
  have h3 : decide (x.d > 3) = !decide (x.d ≤ 3) := by rw [← decide_not]; congr 1; exact propext (by omega)
  rw [h1, h2, h3]; simp [Bool.not_and]
theorem c_Right (x : I) (hx : x.In) : Gives Tryz.prog 112 #[x.V] (.bool x.right) := by
  intro w
  refine x_IDRight _ _ _ _ _ _ _ _ _ _ w _ fun w1 L h1 h2 => ?_
  have A := at_start h1 h2
  refine (c_Proc_Right x.n x.l).call fun w4 h4 => ⟨_, rfl, at_kept A h4, ?_⟩
  have A4 := at_call A (Nat.le_refl _) h4
  have hw : IntKind.i64.wrap x.d = x.d := w_i64 (by have := hx.d; omega) (by have := hx.d; omega)
  have hs : (x.s == 0) = decide (x.s < 1) := by
    have := hx.s
    rw [show (x.s == 0) = decide (x.s = 0) from rfl]; congr 1; exact propext (by omega)
  rw [hw, hs, head1, not_step, not_step, not_step]
  unfold I.right
  generalize (rightP x.n x.l && decide (1 ≤ x.s) && decide (x.s ≤ 1048576) && decide (x.d ≤ 3)) = b0
  generalize stepIn 0 x.d x.g0 x.i0 = b1
  generalize stepIn 1 x.d x.g1 x.i1 = b2
  generalize stepIn 2 x.d x.g2 x.i2 = b3
  cases b0
  · exact ⟨rfl, A4.bel⟩
  cases b1
  · exact fun w9 h9 => ⟨rfl, at_end A4 (Nat.le_refl _) h9⟩
  cases b2
  · exact fun w9 h9 => ⟨rfl, at_end A4 (Nat.le_refl _) h9⟩
  cases b3
  · exact fun w9 h9 => ⟨rfl, at_end A4 (Nat.le_refl _) h9⟩
  · exact fun w9 h9 => ⟨rfl, at_end A4 (Nat.le_refl _) h9⟩
/-! ### parts as text -/
structure PtIn (p : Pt) : Prop where
  g : 0 ≤ p.g ∧ p.g < 256
  k : 0 ≤ p.k ∧ p.k < 256
  n : -9223372036854775808 ≤ p.n ∧ p.n ≤ 9223372036854775807
  key : p.key.size ≤ 281474976710656
  val : p.val.size ≤ 281474976710656
/-! ### results -/
structure Rs where (c : Int) (v : ByteArray)
@[reducible] def Rs.row (r : Rs) : List Value := [.int .u8 r.c, .string r.v]
def Rs.right (r : Rs) : Bool := decide (r.c ≤ 5) && decide (((r.v.size : Nat) : Int) ≤ 1000)
theorem c_ResRight (r : Rs) : Gives Tryz.prog 113 #[.agg r.row.toArray] (.bool r.right) := fun w => x_ResRight _ _ w _ fun w1 h1 => ⟨rfl, hid_below h1 (by simp) (Nat.le_refl _)⟩
end Go.Proofs
namespace Go.Proofs
open Go X RowKit
/-! ### which entries may be -/
structure EvIn (e : Ev) : Prop where
  kd : 0 ≤ e.kd ∧ e.kd < 256
  id : e.id.In
  fl : 0 ≤ e.fl ∧ e.fl < 4294967296
  ps : ∀ p ∈ e.ps, PtIn p
  rc : 0 ≤ e.rc ∧ e.rc < 256
  rv : e.rv.size ≤ 281474976710656
  vn : 0 ≤ e.vn ∧ e.vn < 256
  vl : 0 ≤ e.vl ∧ e.vl < 65536
def Ev.ask (x : Ev) (g : Int) : Bool := x.id.right && rightL x.ps && (match x.ps with | [] => false | p :: _ => p.g == g) && decide (x.id.d + x.ps.length ≤ 4) && decide (x.fl < x.id.s) && ((x.vn == 0) && (x.vl == 0))
def wOk (p : Pt) (w : Wr) : Bool := ((w.key.toList == p.key.toList) && decide (((w.val.size : Nat) : Int) ≤ 64)) && (w.has || decide (w.val.size = 0))
def Ev.wrote (x : Ev) : Bool := match x.ps with
  | [] => false
  | p :: _ => if x.rc ≠ 0 ∨ p.k = 0 then decide (x.ws.length = 0) else match x.ws with
    | [w] => wOk p w
    | _ => false
def Ev.resR (x : Ev) : Bool := Rs.right ⟨x.rc, x.rv⟩
def Ev.res0 (x : Ev) : Bool := (x.rc == 0) && (x.rv == ByteArray.mk #[])
def Ev.bare (x : Ev) : Bool := (x.fl == 0) && decide (x.ps.length = 0) && decide (x.ws.length = 0)
def Ev.at_ (x : Ev) : Int := if x.id.d = 1 then x.id.g0 else if x.id.d = 2 then x.id.g1 else x.id.g2
def Ev.right (x : Ev) (g : Int) : Bool :=
  if x.kd = 0 then x.ask g && x.res0 && decide (x.ws.length = 0)
  else if x.kd = 3 then x.ask g && x.resR && !(x.rc == 4) && !(x.rc == 3) && x.wrote
  else if x.kd = 1 then x.id.right && decide (x.id.d > 0) && (x.at_ == g) && x.resR && x.bare && ((x.vn == 0) && (x.vl == 0))
  else if x.kd = 2 then rightP x.vn x.vl && x.res0 && decide (x.id = I.zero) && x.bare
  else false
theorem i_zero_eq (d : I) : (((d.n == 0) && (d.l == 0)) && ((d.s == 0) && ((d.d == 0) && (((d.g0 == 0) && (d.i0 == 0)) && (((d.g1 == 0) && (d.i1 == 0)) && ((d.g2 == 0) && (d.i2 == 0))))))) = decide (d = I.zero) := i_eqd d I.zero
theorem right_d {x : I} (hx : x.In) (h : x.right = true) : 0 ≤ x.d ∧ x.d ≤ 3 := by
  simp only [I.right, Bool.and_eq_true, decide_eq_true_eq] at h
  exact ⟨hx.d.1, h.1.1.1.2⟩
theorem len0 (k : Nat) : (((k : Nat) : Int) == 0) = decide (k = 0) := by
  rw [Bool.eq_iff_iff]; simp
theorem c_asked (e : En) (g : Int) (hi : EvIn e.er) : Ctr Tryz.prog 166 #[.agg e.row.toArray, .int .u8 g] (fun m => EnM m e) [] (fun _ : Unit => .bool (e.er.ask g)) (fun _ _ => True) (fun _ => []) := by
  refine Ctr.mk fun w F m C he => x_asked _ _ _ _ _ _ _ _ _ _ _ _ _ _ _ _ _ _ _ _ _ _ _ w _ fun w1 L2 h1 g1 => ?_
  refine (C.hidL h1 g1).gives (c_Right e.id hi.id) fun w4 k4 C => ⟨_, rfl, k4, ?_⟩
  by_cases hr : e.id.right = true
  rotate_left
  · rw [if_neg (by simpa using hr)]
    refine Ctr.ret () ?_ trivial C
    have : e.er.ask g = false := by
      have hr' : e.er.id.right = false := Bool.eq_false_iff.2 hr
      simp [Ev.ask, hr']
    rw [this]; rfl
  rw [if_pos (by rw [hr]; rfl)]
  refine (c_partRight e.pq e.ps (by have := he.pl; omega)).call (As := []) C he.p fun _ m2 w7 hk hm2 _ C => ⟨_, rfl, hk, ?_⟩
  by_cases hl : rightL e.ps = true
  rotate_left
  · rw [if_neg (by simpa using hl)]
    refine Ctr.ret () ?_ trivial C
    have : e.er.ask g = false := by
      have hr' : rightL e.er.ps = false := Bool.eq_false_iff.2 hl
      simp [Ev.ask, hr']
    rw [this]; rfl
  rw [if_pos (by rw [hl]; rfl)]
  have hl0 : 1 ≤ e.ps.length ∧ e.ps.length ≤ 4 := by
    simp only [rightL, Bool.and_eq_true, decide_eq_true_eq] at hl; exact hl.1
  obtain ⟨a, ha, hc⟩ := (he.p.mono hm2).elem pt_len (i := 0) (by omega)
  have ha : e.pq.1 = some a := ha
  have hd : 0 ≤ e.id.d ∧ e.id.d ≤ 3 := right_d hi.id hr
  refine ⟨by omega, by omega, ?_⟩
  rw [ha, onSome_some]
  refine ⟨_, C.cells hc 0 _ rfl, C.cellsL hc, ?_⟩
  rw [w_i64 (n := e.id.d) (by omega) (by omega), w_i64 (n := e.id.d + _) (by omega) (by omega)]
  refine Ctr.ret () ?_ trivial C
  obtain ⟨p, l, hpl⟩ : ∃ p l, e.ps = p :: l := by
    cases hps : e.ps with
    | nil => rw [hps] at hl0; simp at hl0
    | cons p l => exact ⟨p, l, rfl⟩
  have e0 : e.er.ask g = (((true && (p.g == g)) && decide (e.id.d + ((e.ps.length : Nat) : Int) ≤ 4)) && decide (e.fl < e.id.s) && ((e.vn == 0) && (e.vl == 0))) := by
    have h1 : e.er.id.right = true := hr
    have h2 : rightL e.er.ps = true := hl
    have h3 : e.er.ps = p :: l := hpl
    rw [Ev.ask, h1, h2, h3, hpl]; rfl
  rw [e0]
  have e1 : e.ps[0].g = p.g := by simp [hpl]
  simp only [e1]
theorem ask_ne {x : Ev} {g : Int} (h : x.ask g = true) : ∃ p l, x.ps = p :: l := by
  cases hps : x.ps with
  | nil => rw [Ev.ask, hps] at h; simp at h
  | cons p l => exact ⟨p, l, rfl⟩
theorem c_wrote (e : En) (p : Pt) (l : List Pt) (hp : e.ps = p :: l) : Ctr Tryz.prog 167 #[.agg e.row.toArray] (fun m => EnM m e) [] (fun _ : Unit => .bool e.er.wrote) (fun _ _ => True) (fun _ => []) := by
  refine Ctr.mk fun w F m C he => x_wrote _ _ _ _ _ _ _ _ _ _ _ _ _ _ _ _ _ _ _ _ _ _ w _ ?_
  have hp' : e.er.ps = p :: l := hp
  have hl0 : 0 < e.ps.length := by rw [hp]; simp
  obtain ⟨a, ha, hc⟩ := he.p.elem pt_len (i := 0) hl0
  have ha : e.pq.1 = some a := ha
  have e1 : e.ps[0] = p := by simp [hp]
  rw [e1] at hc
  refine ⟨by omega, by omega, ?_⟩
  rw [ha, onSome_some]
  refine ⟨_, _, _, _, _, C.cells hc, ?_⟩
  by_cases h1 : e.rc ≠ 0 ∨ p.k = 0
  · rw [if_pos (by simpa using h1)]
    intro w13 h13
    refine Ctr.ret () ?_ trivial (C.hid0 h13)
    rw [len0, Ev.wrote, hp']
    show _ = Ending.returned (.bool (if e.rc ≠ 0 ∨ p.k = 0 then _ else _))
    rw [if_pos h1]; rfl
  rw [if_neg (by simpa using h1)]
  have ew : e.er.wrote = (match e.ws with | [w] => wOk p w | _ => false) := by
    rw [Ev.wrote, hp']
    show (if e.rc ≠ 0 ∨ p.k = 0 then _ else _) = _
    rw [if_neg h1]; rfl
  by_cases h2 : e.ws.length = 1
  rotate_left
  · rw [if_pos (by simp; omega)]
    intro w13 h13
    refine Ctr.ret () ?_ trivial (C.hid0 h13)
    rw [ew]
    rcases hws : e.ws with _ | ⟨x, _ | ⟨y, t⟩⟩
    · rfl
    · rw [hws] at h2; simp at h2
    · rfl
  rw [if_neg (by simp [h2])]
  obtain ⟨x, hx⟩ : ∃ x, e.ws = [x] := List.length_eq_one_iff.1 h2
  obtain ⟨b, hb, hc2⟩ := he.w.elem wr_len (i := 0) (by omega)
  have hb : e.wq.1 = some b := hb
  have e2 : e.ws[0] = x := by simp [hx]
  rw [e2] at hc2
  refine ⟨by omega, by omega, ?_⟩
  rw [hb, onSome_some]
  refine ⟨_, _, _, C.cells hc2, fun w11 h11 => Ctr.ret () ?_ trivial (C.hid0 h11)⟩
  rw [ew, hx, emp_eq]; rfl
def Ev.chk (x : Ev) : Bool := x.resR && !(x.rc == 4) && !(x.rc == 3) && x.wrote
theorem c_bare (e : En) : Gives Tryz.prog 168 #[.agg e.row.toArray] (.bool e.er.bare) := by
  intro w
  refine x_bare _ _ _ _ _ _ _ _ _ _ _ _ _ _ _ _ _ _ _ _ _ _ w _ fun w1 h1 => ⟨?_, hid_below h1 (by simp) (Nat.le_refl _)⟩
  rw [len0, len0]; rfl
theorem ev_right0 {x : Ev} {g : Int} (h : x.kd = 0) : x.right g = (x.ask g && x.res0 && decide (x.ws.length = 0)) := by rw [Ev.right, if_pos h]
theorem ev_right3 {x : Ev} {g : Int} (h : x.kd = 3) : x.right g = (x.ask g && x.chk) := by
  rw [Ev.right, if_neg (by omega), if_pos h, Ev.chk]
  simp only [Bool.and_assoc]
theorem ev_right1 {x : Ev} {g : Int} (h : x.kd = 1) : x.right g = (x.id.right && decide (x.id.d > 0) && (x.at_ == g) && x.resR && x.bare && ((x.vn == 0) && (x.vl == 0))) := by rw [Ev.right, if_neg (by omega), if_neg (by omega), if_pos h]
theorem ev_right2 {x : Ev} {g : Int} (h : x.kd = 2) : x.right g = (rightP x.vn x.vl && x.res0 && decide (x.id = I.zero) && x.bare) := by rw [Ev.right, if_neg (by omega), if_neg (by omega), if_neg (by omega), if_pos h]
theorem c_eRight (e : En) (g : Int) (hi : EvIn e.er) : Ctr Tryz.prog 151 #[.agg e.row.toArray, .int .u8 g] (fun m => EnM m e) [] (fun _ : Unit => .bool (e.er.right g)) (fun _ _ => True) (fun _ => []) := by
  refine Ctr.mk fun w F m C he => x_eRight _ _ _ _ _ _ _ _ _ _ _ _ _ _ _ _ _ _ _ _ _ _ _ w _ ?_
  have hpl := he.pl
  have hwl := he.wl
  by_cases h0 : e.kd = 0
  · rw [if_pos (by simpa using h0)]
    intro w44 L45 h44 g44
    refine (c_asked e g hi).call (As := []) (C.hidL h44 g44) he fun _ m2 w47 hk hm _ C => ⟨_, rfl, hk, Ctr.ret () ?_ trivial C⟩
    rw [ev_right0 (x := e.er) h0, len0]; rfl
  rw [if_neg (by simpa using h0)]
  by_cases h3 : e.kd = 3
  · rw [if_pos (by simpa using h3)]
    intro w33 L34 h33 g33
    refine (c_asked e g hi).call (As := []) (C.hidL h33 g33) he fun _ m2 w36 hk hm _ C => ⟨_, rfl, hk, ?_⟩
    by_cases ha : e.er.ask g = true
    rotate_left
    · rw [if_neg (by intro h; apply ha; simpa using h)]
      refine Ctr.ret () ?_ trivial C
      rw [ev_right3 (x := e.er) h3, Bool.eq_false_iff.2 ha]; rfl
    rw [if_pos (by rw [ha]; rfl)]
    obtain ⟨p, l, hpl'⟩ := ask_ne ha
    have hps : e.ps = p :: l := hpl'
    refine C.gives (c_ResRight ⟨e.rc, e.rv⟩) fun w39 k39 C => ⟨_, rfl, k39, ?_⟩
    have er : Rs.right ⟨e.rc, e.rv⟩ = e.er.resR := rfl
    rw [er]
    by_cases hc : (e.er.resR && !(e.rc == 4) && !(e.rc == 3)) = true
    rotate_left
    · rw [if_neg (by intro h; apply hc; simpa [bne] using h)]
      refine Ctr.ret () ?_ trivial C
      have hc' : (e.er.resR && !(e.er.rc == 4) && !(e.er.rc == 3)) = false := Bool.eq_false_iff.2 hc
      rw [ev_right3 (x := e.er) h3, Ev.chk, hc']; simp
    rw [if_pos (by simpa [bne] using hc)]
    refine (c_wrote e p l hps).call (As := []) C (he.mono hm) fun _ m3 w42 hk hm3 _ C => ⟨_, rfl, hk, Ctr.ret () ?_ trivial C⟩
    have hc' : (e.er.resR && !(e.er.rc == 4) && !(e.er.rc == 3)) = true := hc
    rw [ev_right3 (x := e.er) h3, ha, Ev.chk, hc']; rfl
  rw [if_neg (by simpa using h3)]
  by_cases h1 : e.kd = 1
  · rw [if_pos (by simpa using h1)]
    intro w10 L11 h10 g10
    refine (C.hidL h10 g10).gives (c_Right e.id hi.id) fun w13 k13 C => ⟨_, rfl, k13, ?_⟩
    by_cases hd : (e.id.right && decide (e.id.d > 0)) = true
    rotate_left
    · rw [if_neg (by intro h; apply hd; simpa using h)]
      refine Ctr.ret () ?_ trivial C
      have hd' : (e.er.id.right && decide (e.er.id.d > 0)) = false := Bool.eq_false_iff.2 hd
      rw [ev_right1 (x := e.er) h1, hd']; simp
    rw [if_pos (by rw [hd]; rfl)]
    have hdd : 0 < e.id.d ∧ e.id.d ≤ 3 := by
      simp only [Bool.and_eq_true, decide_eq_true_eq] at hd
      exact ⟨hd.2, (right_d hi.id hd.1).2⟩
    rw [w_u8 (n := e.id.d - 1) (by omega) (by omega)]
    refine ⟨by omega, by omega, ⟨fun hj => ?_, fun hj => ?_⟩, fun hj => ?_⟩
    · have hat : e.er.at_ = e.id.g0 := by
        show (if e.id.d = 1 then e.id.g0 else if e.id.d = 2 then e.id.g1 else e.id.g2) = _
        rw [if_pos (by omega)]
      by_cases hg : e.id.g0 = g
      rotate_left
      · rw [if_neg (by simpa using hg)]
        refine Ctr.ret () ?_ trivial C
        have : (e.er.at_ == g) = false := by rw [hat]; simpa using hg
        rw [ev_right1 (x := e.er) h1, this]; simp
      rw [if_pos (by simpa using hg)]
      have hgt : (e.er.at_ == g) = true := by rw [hat]; simpa using hg
      refine C.gives (c_ResRight ⟨e.rc, e.rv⟩) fun w16 k16 C => ⟨_, rfl, k16, ?_⟩
      by_cases hrr : e.er.resR = true
      rotate_left
      · rw [if_neg (by intro h; apply hrr; simp at h; exact h)]
        refine Ctr.ret () ?_ trivial C
        rw [ev_right1 (x := e.er) h1, Bool.eq_false_iff.2 hrr]; simp
      rw [if_pos (by have : Rs.right ⟨e.rc, e.rv⟩ = true := hrr; rw [this]; rfl)]
      refine C.gives (c_bare e) fun w19 k19 C => ⟨_, rfl, k19, ?_⟩
      refine Ctr.ret () ?_ trivial C
      rw [ev_right1 (x := e.er) h1, hgt, hrr]
      have hd' : (e.er.id.right && decide (e.er.id.d > 0)) = true := hd
      rw [hd']; rfl
    · have hat : e.er.at_ = e.id.g1 := by
        show (if e.id.d = 1 then e.id.g0 else if e.id.d = 2 then e.id.g1 else e.id.g2) = _
        rw [if_neg (by omega), if_pos (by omega)]
      by_cases hg : e.id.g1 = g
      rotate_left
      · rw [if_neg (by simpa using hg)]
        refine Ctr.ret () ?_ trivial C
        have : (e.er.at_ == g) = false := by rw [hat]; simpa using hg
        rw [ev_right1 (x := e.er) h1, this]; simp
      rw [if_pos (by simpa using hg)]
      have hgt : (e.er.at_ == g) = true := by rw [hat]; simpa using hg
      refine C.gives (c_ResRight ⟨e.rc, e.rv⟩) fun w16 k16 C => ⟨_, rfl, k16, ?_⟩
      by_cases hrr : e.er.resR = true
      rotate_left
      · rw [if_neg (by intro h; apply hrr; simp at h; exact h)]
        refine Ctr.ret () ?_ trivial C
        rw [ev_right1 (x := e.er) h1, Bool.eq_false_iff.2 hrr]; simp
      rw [if_pos (by have : Rs.right ⟨e.rc, e.rv⟩ = true := hrr; rw [this]; rfl)]
      refine C.gives (c_bare e) fun w19 k19 C => ⟨_, rfl, k19, ?_⟩
      refine Ctr.ret () ?_ trivial C
      rw [ev_right1 (x := e.er) h1, hgt, hrr]
      have hd' : (e.er.id.right && decide (e.er.id.d > 0)) = true := hd
      rw [hd']; rfl
    · have hat : e.er.at_ = e.id.g2 := by
        show (if e.id.d = 1 then e.id.g0 else if e.id.d = 2 then e.id.g1 else e.id.g2) = _
        rw [if_neg (by omega), if_neg (by omega)]
      by_cases hg : e.id.g2 = g
      rotate_left
      · rw [if_neg (by simpa using hg)]
        refine Ctr.ret () ?_ trivial C
        have : (e.er.at_ == g) = false := by rw [hat]; simpa using hg
        rw [ev_right1 (x := e.er) h1, this]; simp
      rw [if_pos (by simpa using hg)]
      have hgt : (e.er.at_ == g) = true := by rw [hat]; simpa using hg
      refine C.gives (c_ResRight ⟨e.rc, e.rv⟩) fun w16 k16 C => ⟨_, rfl, k16, ?_⟩
      by_cases hrr : e.er.resR = true
      rotate_left
      · rw [if_neg (by intro h; apply hrr; simp at h; exact h)]
        refine Ctr.ret () ?_ trivial C
        rw [ev_right1 (x := e.er) h1, Bool.eq_false_iff.2 hrr]; simp
      rw [if_pos (by have : Rs.right ⟨e.rc, e.rv⟩ = true := hrr; rw [this]; rfl)]
      refine C.gives (c_bare e) fun w19 k19 C => ⟨_, rfl, k19, ?_⟩
      refine Ctr.ret () ?_ trivial C
      rw [ev_right1 (x := e.er) h1, hgt, hrr]
      have hd' : (e.er.id.right && decide (e.er.id.d > 0)) = true := hd
      rw [hd']; rfl
  rw [if_neg (by simpa using h1)]
  by_cases h2 : e.kd = 2
  · rw [if_pos (by simpa using h2)]
    intro w2 L3 hw2 g2
    refine (C.hidL hw2 g2).gives (c_Proc_Right e.vn e.vl) fun w5 k5 C => ⟨_, rfl, k5, ?_⟩
    rw [i_zero_eq e.id]
    by_cases hc : ((rightP e.vn e.vl && ((e.rc == 0) && (e.rv == ByteArray.mk #[]))) && decide (e.id = I.zero)) = true
    rotate_left
    · rw [if_neg (by intro h; apply hc; simpa using h)]
      refine Ctr.ret () ?_ trivial C
      have hc' : (rightP e.er.vn e.er.vl && e.er.res0 && decide (e.er.id = I.zero)) = false := Bool.eq_false_iff.2 hc
      rw [ev_right2 (x := e.er) h2, hc']; rfl
    rw [if_pos (by rw [hc]; rfl)]
    refine C.gives (c_bare e) fun w8 k8 C => ⟨_, rfl, k8, Ctr.ret () ?_ trivial C⟩
    have hc' : (rightP e.er.vn e.er.vl && e.er.res0 && decide (e.er.id = I.zero)) = true := hc
    rw [ev_right2 (x := e.er) h2, hc']
  rw [if_neg (by simpa using h2)]
  intro w1 hw1
  refine Ctr.ret () ?_ trivial (C.hid0 hw1)
  have : e.er.right g = false := by rw [Ev.right, if_neg (show ¬ e.er.kd = 0 from h0), if_neg (show ¬ e.er.kd = 3 from h3), if_neg (show ¬ e.er.kd = 1 from h1), if_neg (show ¬ e.er.kd = 2 from h2)]
  rw [this]
end Go.Proofs
namespace Go.Proofs
open Go X RowKit
structure Pr where (n : Int) (l : Int)
@[reducible] def Pr.row (p : Pr) : List Value := [.int .u8 p.n, .int .u16 p.l]
theorem pr_len (p : Pr) : p.row.length = 2 := rfl
theorem pr_one (x : Pr) : ∀ u ∈ x.row, oneC u = true := by intro u h; simp [Pr.row] at h; rcases h with rfl | rfl <;> rfl
theorem pr_ext {a b : Pr} (h : a.n = b.n ∧ a.l = b.l) : a = b := by cases a; cases b; simp_all
instance : DecidableEq Pr := fun a b => decidable_of_iff (a.n = b.n ∧ a.l = b.l) ⟨pr_ext, fun h => by subst h; exact ⟨rfl, rfl⟩⟩
theorem pr_eq (a b : Pr) : ((a.n == b.n) && (a.l == b.l)) = decide (a = b) := by
  rw [Bool.eq_iff_iff, decide_eq_true_eq]
  simp only [Bool.and_eq_true, beq_iff_eq]
  exact ⟨fun h => pr_ext h, fun h => by subst h; exact ⟨rfl, rfl⟩⟩
theorem c_ProcP (p : Pr) : Gives Tryz.prog 27 #[.agg p.row.toArray] (.agg p.row.toArray) := c_Proc p.n p.l
theorem c_EqualPr (q q' : Sl) (l l' : List Pr) (hb : l.length ≤ 140737488355328) : Ctr Tryz.prog 55 #[slV q l.length, slV q' l'.length] (fun m => MSrc m 2 (slV q l.length) l.length (l.flatMap Pr.row) ∧ MSrc m 2 (slV q' l'.length) l'.length (l'.flatMap Pr.row)) [] (fun _ : Unit => .bool (decide (l = l'))) (fun _ _ => True) (fun _ => []) := by
  refine Ctr.mk fun w F m C hp => x_EqualPr _ _ _ _ _ _ w _ ?_
  obtain ⟨h1, h2⟩ := hp
  by_cases hl : l.length = l'.length
  rotate_left
  · rw [if_pos (by simp; omega)]
    exact Ctr.ret () (by rw [decide_eq_false (fun h => hl (by rw [h]))]) trivial C
  rw [if_neg (by simp [hl])]
  refine ⟨fun i w' _ => ∃ j : Nat, i = j ∧ j ≤ l.length ∧ l.take j = l'.take j ∧ Ctx F m w w' [] m [], fun i _ => (l.length - i).toNat, ⟨0, rfl, by omega, rfl, C⟩, ?_⟩
  clear C
  rintro i w4 L5 _ ⟨j, rfl, hj, hjt, D⟩
  by_cases hjl : j < l.length
  · rw [if_pos (by simpa using hjl)]
    obtain ⟨a1, ha1, hc1⟩ := h1.elem pr_len hjl
    obtain ⟨a2, ha2, hc2⟩ := h2.elem pr_len (show j < l'.length by omega)
    refine ⟨by omega, by simpa using hjl, ?_⟩
    rw [ha1, onSome_some]
    refine ⟨_, _, D.cells hc1, by omega, by omega, ?_⟩
    rw [ha2, onSome_some]
    refine ⟨_, _, D.cells hc2, ?_⟩
    rw [pr_eq]
    by_cases he : l[j] = l'[j]
    · rw [if_neg (by simp [he])]
      intro w18 h18
      have e : IntKind.wrap .i64 ((j : Int) + 1) = ((j + 1 : Nat) : Int) := by rw [w_i64 (by omega) (by omega)]; omega
      rw [e]
      refine ⟨⟨j + 1, rfl, hjl, ?_, D.hid0 h18⟩, Nat.le_of_eq (by show ((l.length : Int) - ((j + 1 : Nat) : Int)).toNat + 1 = ((l.length : Int) - (j : Int)).toNat; omega)⟩
      rw [List.take_succ_eq_append_getElem hjl, List.take_succ_eq_append_getElem (by omega : j < l'.length), hjt, he]
    · rw [if_pos (by simp [he])]
      intro w19 h19
      refine Ctr.ret () ?_ trivial (D.hid0 h19)
      rw [decide_eq_false (fun h => he (by simp only [h]))]
  · rw [if_neg (by simpa using hjl)]
    have hj2 : j = l.length := by omega
    rw [hj2, List.take_length, hl, List.take_length] at hjt
    exact Ctr.ret () (by rw [decide_eq_true hjt]) trivial D
theorem en_one (x : En) : ∀ u ∈ x.row, oneC u = true := by intro u h; simp [En.row] at h; rcases h with rfl | rfl | rfl | rfl | rfl | rfl | rfl | rfl | rfl | rfl | rfl | rfl | rfl | rfl | rfl | rfl | rfl | rfl <;> rfl
def EsM (m : Mem) (q : Sl) (l : List En) : Prop := MSrc m 18 (slV q l.length) l.length (l.flatMap En.row) ∧ ∀ e ∈ l, EnM m e
theorem EsM.mono {m m' : Mem} {q : Sl} {l : List En} (h : EsM m q l) (hm : m.le m') : EsM m' q l := ⟨h.1.mono hm, fun e he => (h.2 e he).mono hm⟩
theorem c_EqualFuncE (q q' : Sl) (l l' : List En) (hb : l.length ≤ 1000000) : Ctr Tryz.prog 109 #[slV q l.length, slV q' l'.length, .func (.func 110) #[] #[]] (fun m => EsM m q l ∧ EsM m q' l') [] (fun _ : Unit => .bool (decide (l.map En.er = l'.map En.er))) (fun _ _ => True) (fun _ => []) := by
  refine Ctr.mk fun w F m C hp => x_EqualFuncE _ _ _ _ _ _ w _ ?_
  obtain ⟨⟨h1, g1⟩, ⟨h2, g2⟩⟩ := hp
  by_cases hl : l.length = l'.length
  rotate_left
  · rw [if_pos (by simp; omega)]
    exact Ctr.ret () (by rw [decide_eq_false (fun h => hl (by simpa using congrArg List.length h))]) trivial C
  rw [if_neg (by simp [hl])]
  refine ⟨fun i w' _ => ∃ (j : Nat) (m' : Mem), i = j ∧ j ≤ l.length ∧ m.le m' ∧ (l.take j).map En.er = (l'.take j).map En.er ∧ Ctx F m w w' [] m' [], fun i _ => (l.length - i).toNat, ⟨0, m, rfl, by omega, Mem.le_refl _, rfl, C⟩, ?_⟩
  clear C
  rintro i w4 L5 _ ⟨j, m', rfl, hj, hm, hjt, D⟩
  by_cases hjl : j < l.length
  rotate_left
  · rw [if_neg (by simpa using hjl)]
    have hj2 : j = l.length := by omega
    rw [hj2, List.take_length, hl, List.take_length] at hjt
    exact Ctr.ret () (by rw [decide_eq_true hjt]) trivial D
  rw [if_pos (by simpa using hjl)]
  obtain ⟨a1, ha1, hc1⟩ := (h1.mono hm).elem en_len hjl
  obtain ⟨a2, ha2, hc2⟩ := (h2.mono hm).elem en_len (show j < l'.length by omega)
  refine ⟨by omega, by simpa using hjl, ?_⟩
  rw [ha1, onSome_some]
  refine ⟨_, _, _, _, _, _, _, _, _, _, _, _, _, _, _, _, _, _, _, _, _, _, by rw [Int.toNat_natCast]; exact D.cells hc1, by omega, by omega, ?_⟩
  rw [ha2, onSome_some]
  refine ⟨_, _, _, _, _, _, _, _, _, _, _, _, _, _, _, _, _, _, _, _, _, _, by rw [Int.toNat_natCast]; exact D.cells hc2, fun w53 L53 h53 g53 => ?_⟩
  replace D := D.hidL h53 g53

  refine (c_eSame l[j] (l'[j]'(by omega))).call (As := []) D ⟨(g1 _ (List.getElem_mem hjl)).mono hm, (g2 _ (List.getElem_mem (by omega))).mono hm⟩ fun _ m2 w55 hk hm2 _ D => ⟨_, rfl, hk, ?_⟩
  by_cases he : l[j].er = (l'[j]'(by omega)).er
  · rw [if_neg (by simp [he])]
    have e : IntKind.wrap .i64 ((j : Int) + 1) = ((j + 1 : Nat) : Int) := by rw [w_i64 (by omega) (by omega)]; omega
    rw [e]
    refine ⟨⟨j + 1, m2, rfl, hjl, hm.le_trans hm2, ?_, D.noL⟩, Nat.le_of_eq (by show ((l.length : Int) - ((j + 1 : Nat) : Int)).toNat + 1 = ((l.length : Int) - (j : Int)).toNat; omega)⟩
    rw [List.take_succ_eq_append_getElem hjl, List.take_succ_eq_append_getElem (by omega : j < l'.length), List.map_append, List.map_append, hjt]; simp [he]
  · rw [if_pos (by simp [he])]
    refine Ctr.ret () ?_ trivial D
    rw [decide_eq_false (fun h => he ?_)]
    have := congrArg (fun z => z[j]?) h
    simpa [hjl, show j < l'.length by omega] using this
theorem c_eSameAll (q q' : Sl) (l l' : List En) (hb : l.length ≤ 1000000) : Ctr Tryz.prog 56 #[slV q l.length, slV q' l'.length] (fun m => EsM m q l ∧ EsM m q' l') [] (fun _ : Unit => .bool (decide (l.map En.er = l'.map En.er))) (fun _ _ => True) (fun _ => []) := by
  refine Ctr.mk fun w F m C hp => x_eSameAll _ _ _ _ _ _ w _ ?_
  exact (c_EqualFuncE q q' l l' hb).call (As := []) C hp fun _ m1 w2 hk hm _ C => ⟨_, rfl, hk.size, Ctr.ret () rfl trivial C⟩
/-! ### nobody, and those that nobody made -/
/-! ### views -/
structure Vw where (g n : Int) (q : Sl) (ms : List Pr)
@[reducible] def Vw.row (v : Vw) : List Value := [.int .u8 v.g, .int .u32 v.n, slV v.q v.ms.length]
def VwM (m : Mem) (v : Vw) : Prop := MSrc m 2 (slV v.q v.ms.length) v.ms.length (v.ms.flatMap Pr.row)
def Pr.ok (p : Pr) : Bool := decide (p.n < 16) && decide (p.l > 0)
/-- all may be, no node twice -/
abbrev okL (l : List Pr) : Prop := (∀ p ∈ l, p.ok = true) ∧ (l.map Pr.n).Nodup
def Vw.ok (v : Vw) : Bool := decide (v.g < 4 ∧ v.n ≠ 0 ∧ v.ms.length ≠ 0 ∧ v.ms.length ≤ 8 ∧ okL v.ms)
def metB (l : List Pr) (k : Int) : Bool := (l.map Pr.n).any (· == k)
def metL (l : List Pr) : List Value := [.bool (metB l 0), .bool (metB l 1), .bool (metB l 2), .bool (metB l 3), .bool (metB l 4), .bool (metB l 5), .bool (metB l 6), .bool (metB l 7), .bool (metB l 8), .bool (metB l 9), .bool (metB l 10), .bool (metB l 11), .bool (metB l 12), .bool (metB l 13), .bool (metB l 14), .bool (metB l 15)]
theorem metL_get (l : List Pr) {k : Int} (h0 : 0 ≤ k) (h1 : k < 16) : (metL l)[k.toNat]? = some (.bool (metB l k)) := by
  obtain ⟨i, rfl⟩ := Int.eq_ofNat_of_zero_le h0
  have hi : i < 16 := by omega
  match i, hi with
  | 0, _ | 1, _ | 2, _ | 3, _ | 4, _ | 5, _ | 6, _ | 7, _ | 8, _ | 9, _ | 10, _ | 11, _ | 12, _ | 13, _ | 14, _ | 15, _ => rfl
  | k + 16, h => exact absurd h (by omega)
theorem metL_put (l : List Pr) (p : Pr) (h0 : 0 ≤ p.n) (h1 : p.n < 16) : splice (metL l) p.n.toNat [.bool true] = metL (l ++ [p]) := by
  have key : ∀ i : Int, metB (l ++ [p]) i = (metB l i || (p.n == i)) := by intro i; simp [metB]
  obtain ⟨i, hk⟩ := Int.eq_ofNat_of_zero_le h0
  have hi : i < 16 := by omega
  simp only [metL, key, hk]
  match i, hi with
  | 0, _ | 1, _ | 2, _ | 3, _ | 4, _ | 5, _ | 6, _ | 7, _ | 8, _ | 9, _ | 10, _ | 11, _ | 12, _ | 13, _ | 14, _ | 15, _ => simp [splice]
  | k + 16, h => exact absurd h (by omega)
theorem okL_snoc {l : List Pr} {p : Pr} : okL (l ++ [p]) ↔ okL l ∧ p.ok = true ∧ metB l p.n = false := by
  have e : metB l p.n = false ↔ p.n ∉ l.map Pr.n := by
    rw [← Bool.not_eq_true, metB, List.any_eq_true]
    constructor
    · intro h hm; exact h ⟨_, hm, by simp⟩
    · rintro h ⟨x, hx, he⟩; exact h (by rw [← beq_iff_eq.1 he]; exact hx)
  rw [e]
  simp only [okL, List.mem_append, List.mem_singleton, List.map_append, List.map_cons, List.map_nil, List.nodup_append]
  constructor
  · rintro ⟨h1, h2, _, h3⟩
    exact ⟨⟨fun x hx => h1 x (.inl hx), h2⟩, h1 p (.inr rfl), fun hm => h3 p.n hm p.n (by simp) rfl⟩
  · rintro ⟨⟨h1, h2⟩, h3, h4⟩
    refine ⟨fun x hx => by rcases hx with hx | rfl; exact h1 x hx; exact h3, h2, by simp, fun a ha b hb hab => ?_⟩
    have hb : b = p.n := by simpa using hb
    subst hab; subst hb; exact h4 ha
theorem okL_take {l : List Pr} (h : okL l) (j : Nat) : okL (l.take j) := ⟨fun p hp => h.1 p (List.mem_of_mem_take hp), by
  rw [List.map_take]; exact h.2.sublist (List.take_sublist _ _)⟩
theorem c_pRight (p : Pr) : Gives Tryz.prog 117 #[.agg p.row.toArray] (.bool p.ok) := fun w => x_ProcRight _ _ w _ fun w1 h1 => ⟨rfl, hid_below h1 (by simp) (Nat.le_refl _)⟩
/-! ### views -/
theorem c_vRight (v : Vw) (hr : ∀ p ∈ v.ms, 0 ≤ p.n) : Ctr Tryz.prog 114 #[.agg v.row.toArray] (fun m => VwM m v) [] (fun _ : Unit => .bool v.ok) (fun _ _ => True) (fun _ => []) := by
  refine Ctr.mk fun w F m C hv => x_vRight _ _ _ _ _ w _ ?_
  by_cases hg : (((decide (v.g ≥ 4) || (v.n == 0)) || (((v.ms.length : Nat) : Int) == 0)) || decide (((v.ms.length : Nat) : Int) > 8)) = true
  · rw [if_pos hg]
    intro w17 h17
    refine Ctr.ret () ?_ trivial (C.hid0 h17)
    have : v.ok = false := by
      simp only [Bool.or_eq_true, decide_eq_true_eq, beq_iff_eq] at hg
      simp only [Vw.ok, decide_eq_false_iff_not]
      rintro ⟨h1, h2, h3, h4, _⟩; omega
    rw [this]
  rw [if_neg hg]
  have hg' : v.g < 4 ∧ v.n ≠ 0 ∧ v.ms.length ≠ 0 ∧ v.ms.length ≤ 8 := by
    simp only [Bool.or_eq_true, decide_eq_true_eq, beq_iff_eq, not_or] at hg; omega
  have hok : v.ok = decide (okL v.ms) := by
    simp only [Vw.ok]
    congr 1
    exact propext ⟨fun h => h.2.2.2.2, fun h => ⟨hg'.1, hg'.2.1, hg'.2.2.1, hg'.2.2.2, h⟩⟩
  refine fun w1 L2 h1 g1 => ?_
  have C1 := (C.hidL h1 g1).alloc (metL []) 216
  refine ⟨fun i w' L' => ∃ j : Nat, i = j ∧ j ≤ v.ms.length ∧ okL (v.ms.take j) ∧ Ctx F m w w' L' m [blk w1.heap.size (metL (v.ms.take j)) 216], fun i _ => ((v.ms.length : Int) - i).toNat, ⟨0, rfl, by omega, ⟨by simp, by simp⟩, C1⟩, ?_⟩
  clear C C1
  rintro i w6 L7 _ ⟨j, rfl, hj, hjo, D⟩
  have bad : okL v.ms → ∀ {w' L'}, okL v.ms → Ctx F m w w' L' m [blk w1.heap.size (metL (v.ms.take j)) 216] → True := fun _ _ _ _ _ => trivial
  by_cases hjl : j < v.ms.length
  rotate_left
  · rw [if_neg (by simpa using hjl)]
    have hj2 : j = v.ms.length := by omega
    rw [hj2, List.take_length] at hjo
    exact Ctr.ret () (by rw [hok, decide_eq_true hjo]) trivial D.drop
  rw [if_pos (by simpa using hjl)]
  obtain ⟨a, ha, hc⟩ := hv.elem pr_len hjl
  have ha : v.q.1 = some a := ha
  refine ⟨by omega, by simpa using hjl, ?_⟩
  rw [ha, onSome_some, Int.toNat_natCast]
  have hr0 := hr _ (List.getElem_mem hjl)
  refine ⟨_, _, D.cells hc, D.cellsL hc, fun w11 L12 h11 g11 => ?_⟩
  have hsn : okL (v.ms.take (j + 1)) ↔ okL (v.ms.take j) ∧ v.ms[j].ok = true ∧ metB (v.ms.take j) v.ms[j].n = false := by
    rw [List.take_succ_eq_append_getElem hjl]; exact okL_snoc
  have no : ¬ (v.ms[j].ok = true ∧ metB (v.ms.take j) v.ms[j].n = false) → v.ok = false := fun h => by
    rw [hok, decide_eq_false]
    exact fun ho => h (hsn.1 (okL_take ho (j + 1))).2
  have hst : v.ms.take (j + 1) = v.ms.take j ++ [v.ms[j]] := List.take_succ_eq_append_getElem hjl
  generalize v.ms[j] = p at hc hr0 no hsn hst
  refine (D.hidL h11 g11).gives (c_pRight p) fun w14 k14 D => ⟨_, rfl, k14, ?_⟩
  cases hpo : p.ok with
  | false =>
    rw [if_neg (by decide)]
    exact Ctr.ret () (by rw [no (by simp [hpo])]) trivial D.drop
  | true =>
  rw [if_pos (by decide)]
  have h16 : p.n < 16 := by simp only [Pr.ok, Bool.and_eq_true, decide_eq_true_eq] at hpo; exact hpo.1
  refine ⟨hr0, h16, metB (v.ms.take j) p.n, ?_, by rw [addr_block]; exact D.blkAt.2, ?_⟩
  · rw [Nat.mul_one, Addr.add_mid]
    exact D.blkCell (j := 0 + p.n.toNat) (by rw [Nat.zero_add]; exact metL_get _ hr0 h16)
  cases hmb : metB (v.ms.take j) p.n with
  | true =>
    rw [if_pos (by decide)]
    exact Ctr.ret () (by rw [no (by simp [hmb])]) trivial D.drop
  | false =>
  rw [if_neg (by decide), Nat.mul_one, Addr.add_mid]
  have hk : p.n.toNat < 16 := by omega
  have hlen : 0 + p.n.toNat + 1 ≤ (metL (v.ms.take j)).length := by show 0 + p.n.toNat + 1 ≤ 16; omega
  have e : IntKind.wrap .i64 ((j : Int) + 1) = ((j + 1 : Nat) : Int) := by rw [w_i64 (by omega) (by omega)]; omega
  refine ⟨hr0, h16, rfl, D.there _ _ hlen, D.blkAt.2, rfl, ⟨j + 1, e, hjl, hsn.2 ⟨hjo, hpo, hmb⟩, ?_⟩, Nat.le_of_eq (by rw [e]; show ((v.ms.length : Int) - ((j + 1 : Nat) : Int)).toNat + 1 = ((v.ms.length : Int) - (j : Int)).toNat; omega)⟩
  have E := D.store (0 + p.n.toNat) [.bool true] hlen
  rw [Nat.zero_add, metL_put _ p hr0 h16, ← hst] at E
  rw [Nat.zero_add]
  exact E
end Go.Proofs
namespace Go.Proofs
open Go X RowKit
/-! ### messages -/
structure Mg where (kd gr co nn fr cm fl ba ac : Int) (id : I) (pq : Sl) (ps : List Pt) (rc : Int) (rv : ByteArray) (vg vn : Int) (vq : Sl) (vm : List Pr) (pn pl : Int) (has : Bool) (mq : Sl) (ms : List Pr) (eq : Sl) (es : List En) (tq : Sl) (ts : List En)
@[reducible] def Mg.row (x : Mg) : List Value := [.int .u8 x.kd, .int .u8 x.gr, .int .u8 x.co, .int .u32 x.nn, .int .u32 x.fr, .int .u32 x.cm, .int .u32 x.fl, .int .u64 x.ba, .int .u64 x.ac, .int .u8 x.id.n, .int .u16 x.id.l, .int .u32 x.id.s, .int .u8 x.id.d, .int .u8 x.id.g0, .int .u8 x.id.i0, .int .u8 x.id.g1, .int .u8 x.id.i1, .int .u8 x.id.g2, .int .u8 x.id.i2, slV x.pq x.ps.length, .int .u8 x.rc, .string x.rv, .int .u8 x.vg, .int .u32 x.vn, slV x.vq x.vm.length, .int .u8 x.pn, .int .u16 x.pl, .bool x.has, slV x.mq x.ms.length, slV x.eq x.es.length, slV x.tq x.ts.length]
/-- a message, wherever its lists lie -/
structure Mv where (kd gr co nn fr cm fl ba ac : Int) (id : I) (ps : List Pt) (rc : Int) (rv : ByteArray) (vg vn : Int) (vm : List Pr) (pn pl : Int) (has : Bool) (ms : List Pr) (es ts : List Ev)
def Mg.er (x : Mg) : Mv := ⟨x.kd, x.gr, x.co, x.nn, x.fr, x.cm, x.fl, x.ba, x.ac, x.id, x.ps, x.rc, x.rv, x.vg, x.vn, x.vm, x.pn, x.pl, x.has, x.ms, x.es.map En.er, x.ts.map En.er⟩
theorem mv_ext {a b : Mv} (h : a.kd = b.kd ∧ a.gr = b.gr ∧ a.co = b.co ∧ a.nn = b.nn ∧ a.fr = b.fr ∧ a.cm = b.cm ∧ a.fl = b.fl ∧ a.ba = b.ba ∧ a.ac = b.ac ∧ a.id = b.id ∧ a.ps = b.ps ∧ a.rc = b.rc ∧ a.rv = b.rv ∧ a.vg = b.vg ∧ a.vn = b.vn ∧ a.vm = b.vm ∧ a.pn = b.pn ∧ a.pl = b.pl ∧ a.has = b.has ∧ a.ms = b.ms ∧ a.es = b.es ∧ a.ts = b.ts) : a = b := by cases a; cases b; simp_all
instance : DecidableEq Mv := fun a b => decidable_of_iff (a.kd = b.kd ∧ a.gr = b.gr ∧ a.co = b.co ∧ a.nn = b.nn ∧ a.fr = b.fr ∧ a.cm = b.cm ∧ a.fl = b.fl ∧ a.ba = b.ba ∧ a.ac = b.ac ∧ a.id = b.id ∧ a.ps = b.ps ∧ a.rc = b.rc ∧ a.rv = b.rv ∧ a.vg = b.vg ∧ a.vn = b.vn ∧ a.vm = b.vm ∧ a.pn = b.pn ∧ a.pl = b.pl ∧ a.has = b.has ∧ a.ms = b.ms ∧ a.es = b.es ∧ a.ts = b.ts) ⟨mv_ext, fun h => by subst h; simp⟩
structure MgM (m : Mem) (x : Mg) : Prop where
  p : MSrc m 5 (slV x.pq x.ps.length) x.ps.length (x.ps.flatMap Pt.row)
  v : MSrc m 2 (slV x.vq x.vm.length) x.vm.length (x.vm.flatMap Pr.row)
  mm : MSrc m 2 (slV x.mq x.ms.length) x.ms.length (x.ms.flatMap Pr.row)
  e : EsM m x.eq x.es
  t : EsM m x.tq x.ts
  pl : x.ps.length ≤ 2932031007402
  vl : x.vm.length ≤ 1000000
  ml : x.ms.length ≤ 1000000
  el : x.es.length ≤ 100000
  tl : x.ts.length ≤ 100000
theorem MgM.mono {m m' : Mem} {x : Mg} (h : MgM m x) (hm : m.le m') : MgM m' x := ⟨h.p.mono hm, h.v.mono hm, h.mm.mono hm, h.e.mono hm, h.t.mono hm, h.pl, h.vl, h.ml, h.el, h.tl⟩
structure MvIn (x : Mv) : Prop where
  id : x.id.In
  ps : ∀ p ∈ x.ps, PtIn p
  vm : ∀ p ∈ x.vm, 0 ≤ p.n
  ms : ∀ p ∈ x.ms, 0 ≤ p.n
  es : ∀ e ∈ x.es, EvIn e
  ts : ∀ e ∈ x.ts, EvIn e
  gr : 0 ≤ x.gr ∧ x.gr < 256
  vn : 0 ≤ x.vn
  fr : 0 ≤ x.fr ∧ x.fr < 4294967296
  kd : 0 ≤ x.kd ∧ x.kd < 256
  nn : 0 ≤ x.nn ∧ x.nn < 18446744073709551616
  ba : 0 ≤ x.ba ∧ x.ba < 18446744073709551616
theorem esNil (m : Mem) : EsM m (none, 0) [] := ⟨.nil .., by simp⟩
/-! ### entries that may be -/
def allE (l : List Ev) (g : Int) : Bool := decide (l.length ≤ 400) && l.all (·.right g)
theorem c_all1 (e : En) (z0 : Addr) (g : Int) (hi : EvIn e.er) : Ctr Tryz.prog 150 #[.agg e.row.toArray, .pointer (some z0)] (fun m => EnM m e ∧ m z0 = some (.int .u8 g)) [] (fun _ : Unit => .bool (!e.er.right g)) (fun _ _ => True) (fun _ => []) :=
  Ctr.mk fun w F m C hp => x_all1 _ _ _ _ _ _ _ _ _ _ _ _ _ _ _ _ _ _ _ _ _ _ _ w _ ⟨g, C.cell hp.2, fun w2 L3 h2 g2 => (c_eRight e g hi).call (As := []) (C.hidL h2 g2) hp.1 fun _ m2 w5 hk hm _ C => ⟨_, rfl, hk, Ctr.ret () rfl trivial C⟩⟩
theorem c_IndexE (q : Sl) (l : List En) (z0 : Addr) (g : Int) (hl : l.length ≤ 100000) (hi : ∀ e ∈ l, EvIn e.er) : Ctr Tryz.prog 165 #[slV q l.length, .func (.func 150) #[] #[.pointer (some z0)]] (fun m => EsM m q l ∧ m z0 = some (.int .u8 g)) [] (fun i : Int => .int .i64 i) (fun i m => decide (i ≥ 0) = !(l.all fun e => e.er.right g)) (fun _ => []) := by
  refine Ctr.mk fun w F m C hp => x_IndexE _ _ _ _ w _ ?_
  refine ⟨fun i w' _ => ∃ (j : Nat) (m' : Mem), i = j ∧ j ≤ l.length ∧ m.le m' ∧ ((l.take j).all fun e => e.er.right g) = true ∧ Ctx F m w w' [] m' [], fun i _ => (l.length - i).toNat, ⟨0, m, rfl, by omega, Mem.le_refl _, rfl, C⟩, ?_⟩
  clear C
  rintro i w4 L5 _ ⟨j, m', rfl, hj, hm, hjt, D⟩
  by_cases hjl : j < l.length
  · rw [if_pos (by simpa using hjl)]
    obtain ⟨a, ha, hc⟩ := (hp.1.1.mono hm).elem en_len hjl
    have ha : q.1 = some a := ha
    have he := (hp.1.2 _ (List.getElem_mem hjl)).mono hm
    have hie := hi _ (List.getElem_mem hjl)
    have ht : (l.take (j + 1)).all (fun e => e.er.right g) = ((l.take j).all (fun e => e.er.right g) && l[j].er.right g) := by rw [List.take_succ_eq_append_getElem hjl, List.all_append]; simp
    have hin : l[j] ∈ l := List.getElem_mem hjl
    generalize l[j] = x at hc he hie ht hin
    refine ⟨by omega, by simpa using hjl, ?_⟩
    rw [ha, onSome_some]
    refine ⟨_, _, _, _, _, _, _, _, _, _, _, _, _, _, _, _, _, _, _, _, _, _, by rw [Int.toNat_natCast]; exact D.cells hc, ?_⟩
    refine (c_all1 x z0 g hie).call (As := []) D ⟨he, hm _ _ hp.2⟩ fun _ m2 w13 hk hm2 _ D => ⟨_, rfl, hk.size, ?_⟩
    by_cases hr : x.er.right g = true
    · rw [if_neg (by simp [hr])]
      have e : IntKind.wrap .i64 ((j : Int) + 1) = ((j + 1 : Nat) : Int) := by rw [w_i64 (by omega) (by omega)]; omega
      rw [e]
      refine ⟨⟨j + 1, m2, rfl, hjl, hm.le_trans hm2, by rw [ht, hjt, hr]; rfl, D⟩, Nat.le_of_eq (by show ((l.length : Int) - ((j + 1 : Nat) : Int)).toNat + 1 = ((l.length : Int) - (j : Int)).toNat; omega)⟩
    · rw [if_pos (by simp [hr])]
      refine Ctr.ret (j : Int) rfl ?_ D
      have : (l.all fun e => e.er.right g) = false := by rw [Bool.eq_false_iff]; intro h; exact hr (List.all_eq_true.1 h _ hin)
      rw [this]; simp
  · rw [if_neg (by simpa using hjl)]
    have hj2 : j = l.length := by omega
    rw [hj2, List.take_length] at hjt
    exact Ctr.ret (-1) rfl (by rw [hjt]; rfl) D
theorem c_all (q : Sl) (l : List En) (g : Int) (hl : l.length ≤ 100000) (hi : ∀ e ∈ l, EvIn e.er) : Ctr Tryz.prog 115 #[slV q l.length, .int .u8 g] (fun m => EsM m q l) [] (fun _ : Unit => .bool (allE (l.map En.er) g)) (fun _ _ => True) (fun _ => []) := by
  refine Ctr.mk fun w F m C hp => x_all _ _ _ _ w _ ?_
  have hlen : (l.map En.er).length = l.length := by simp
  have hall : (l.map En.er).all (·.right g) = l.all (fun e => e.er.right g) := by rw [List.all_map]; rfl
  by_cases h : l.length ≤ 400
  · rw [if_pos (by rw [decide_eq_true (show ((l.length : Nat) : Int) ≤ 400 by omega)]; rfl)]
    obtain ⟨C1, hm1⟩ := C.newShare [.int .u8 g] 5 (0, 0)
    have hz : (m.plus w.heap.size [.int .u8 g]) ⟨w.heap.size, 0, none⟩ = some (.int .u8 g) := by simp [Mem.plus]
    refine ⟨x_ContainsE _ _ _ _ _ _ ?_⟩
    refine (c_IndexE q l _ g hl hi).call (As := []) C1 ⟨hp.mono hm1, hz⟩ fun i m2 w4 hk hm hi2 C => ⟨i, rfl, hk.size, ?_⟩
    refine ⟨_, rfl, hk.size, Ctr.ret () ?_ trivial C⟩
    rw [hi2, Bool.not_not, allE, hlen, hall, decide_eq_true h]
  · rw [if_neg (by rw [decide_eq_false (show ¬ ((l.length : Nat) : Int) ≤ 400 by omega)]; decide)]
    refine Ctr.ret () ?_ trivial (C.newDrop _ _)
    rw [allE, hlen, decide_eq_false h]; rfl
theorem c_vSame (a b : Vw) (hl : a.ms.length ≤ 1000000) : Ctr Tryz.prog 54 #[.agg a.row.toArray, .agg b.row.toArray] (fun m => VwM m a ∧ VwM m b) [] (fun _ : Unit => .bool (((a.g == b.g) && (a.n == b.n)) && decide (a.ms = b.ms))) (fun _ _ => True) (fun _ => []) := by
  refine Ctr.mk fun w F m C hp => x_vSame _ _ _ _ _ _ _ _ _ _ w _ ?_
  by_cases h : ((a.g == b.g) && (a.n == b.n)) = true
  · rw [if_pos (by rw [h]; rfl)]
    intro w2 L3 h2 g2
    refine (c_EqualPr a.q b.q a.ms b.ms (by omega)).call (As := []) (C.hidL h2 g2) ⟨hp.1, hp.2⟩ fun _ m2 w5 hk hm _ C => ⟨_, rfl, hk, Ctr.ret () (by rw [h]) trivial C⟩
  · rw [if_neg (by simpa using h)]
    intro w1 h1
    exact Ctr.ret () (by rw [Bool.eq_false_iff.2 h]; rfl) trivial (C.hid0 h1)
def Mv.askM (x : Mv) : Bool := x.id.right && decide (x.fl < x.id.s) && rightL x.ps && (match x.ps with | [] => false | p :: _ => p.g == x.gr) && decide ((x.ps.length : Int) + x.id.d ≤ 4)
def vwOk (g n : Int) (l : List Pr) : Bool := Vw.ok ⟨g, n, (none, 0), l⟩
def Mv.val (x : Mv) : Bool := vwOk 0 1 x.ms && allE x.ts x.gr
def Mv.resR (x : Mv) : Bool := Rs.right ⟨x.rc, x.rv⟩
def prOk (n l : Int) : Bool := Pr.ok ⟨n, l⟩
theorem c_mAsked (x : Mg) (hi : MvIn x.er) : Ctr Tryz.prog 111 #[.agg x.row.toArray] (fun m => MgM m x) [] (fun _ : Unit => .bool x.er.askM) (fun _ _ => True) (fun _ => []) := by
  refine Ctr.mk fun w F m C hx => x_mAsked _ _ _ _ _ _ _ _ _ _ _ _ _ _ _ _ _ _ _ _ _ _ _ _ _ _ _ _ _ _ _ _ _ _ _ _ _ _ _ _ _ w _ ⟨[], facts_nil _ _, fun w2 L3 h2 g2 => ?_⟩
  refine (C.hidL h2 g2).gives (c_Right x.id hi.id) fun w5 k5 C => ⟨_, rfl, k5, facts_nil _ _, [], facts_nil _ _, (fun _ h => h), ?_⟩
  by_cases h1 : (x.id.right && decide (x.fl < x.id.s)) = true
  rotate_left
  · rw [if_neg (by intro h; apply h1; simpa using h)]
    refine ⟨[], facts_nil _ _, (fun _ h => h), [], facts_nil _ _, (fun _ h => h), Ctr.ret () ?_ trivial C⟩
    have : (x.er.id.right && decide (x.er.fl < x.er.id.s)) = false := Bool.eq_false_iff.2 h1
    rw [Mv.askM, this]; rfl
  rw [if_pos (by rw [h1]; rfl)]
  have h1' : (x.er.id.right && decide (x.er.fl < x.er.id.s)) = true := h1
  refine (c_partRight x.pq x.ps (by have := hx.pl; omega)).call (As := []) C hx.p fun _ m2 w14 hk hm2 _ C => ⟨_, rfl, hk, facts_nil _ _, ?_⟩
  by_cases hl : rightL x.ps = true
  rotate_left
  · refine ⟨[], facts_nil _ _, (fun _ h => h), ?_⟩
    rw [if_neg (by simpa using hl)]
    refine ⟨[], facts_nil _ _, (fun _ h => h), Ctr.ret () ?_ trivial C⟩
    have : rightL x.er.ps = false := Bool.eq_false_iff.2 hl
    rw [Mv.askM, h1', this]; rfl
  have hl0 : 1 ≤ x.ps.length ∧ x.ps.length ≤ 4 := by
    simp only [rightL, Bool.and_eq_true, decide_eq_true_eq] at hl; exact hl.1
  obtain ⟨a, ha, hc⟩ := (hx.p.mono hm2).elem pt_len (i := 0) (by omega)
  have ha : x.pq.1 = some a := ha
  refine ⟨_, C.memFact (mcells_part hc 0 [.int .u8 x.ps[0].g] (fun k v e => by match k, e with | 0, e => exact e)) (facts_nil _ _), (fun _ h => by cases h), ?_⟩
  rw [if_pos (by rw [hl]; rfl)]
  refine ⟨by omega, by omega, ?_⟩
  rw [ha, onSome_some]
  refine ⟨_, List.mem_cons_self, ?_⟩
  have hd : 0 ≤ x.id.d ∧ x.id.d ≤ 3 := right_d hi.id (by simp only [Bool.and_eq_true] at h1; exact h1.1)
  rw [w_i64 (n := x.id.d) (by omega) (by omega), w_i64 (n := _ + x.id.d) (by omega) (by omega)]
  refine Ctr.ret () ?_ trivial C
  obtain ⟨p, l, hpl⟩ : ∃ p l, x.ps = p :: l := by
    cases hps : x.ps with
    | nil => rw [hps] at hl0; simp at hl0
    | cons p l => exact ⟨p, l, rfl⟩
  have h2 : rightL x.er.ps = true := hl
  have h3 : x.er.ps = p :: l := hpl
  rw [Mv.askM, h1', h2, h3]
  have e1 : x.ps[0].g = p.g := by simp [hpl]
  rw [e1, hpl]; rfl
theorem vm_vw {m : Mem} {x : Mg} (h : MgM m x) : VwM m ⟨x.vg, x.vn, x.vq, x.vm⟩ := h.v
theorem c_mValue (x : Mg) (hi : MvIn x.er) (hx0 : x.ts.length ≤ 100000) : Ctr Tryz.prog 116 #[.agg x.row.toArray] (fun m => MgM m x) [] (fun _ : Unit => .bool x.er.val) (fun _ _ => True) (fun _ => []) := by
  refine Ctr.mk fun w F m C hx => x_mValue _ _ _ _ _ _ _ _ _ _ _ _ _ _ _ _ _ _ _ _ _ _ _ _ _ _ _ _ _ _ _ _ _ _ _ _ _ _ _ _ _ w _ fun w1 L2 h1 g1 => ?_
  refine (c_vRight ⟨0, 1, x.mq, x.ms⟩ hi.ms).call (As := []) (C.hidL h1 g1) hx.mm fun _ m2 w4 hk hm2 _ C => ⟨_, rfl, hk, ?_⟩
  by_cases hv : Vw.ok ⟨0, 1, x.mq, x.ms⟩ = true
  · rw [if_pos (by rw [hv]; rfl)]
    refine (c_all x.tq x.ts x.gr hx0 (fun e he => hi.ts _ (List.mem_map_of_mem he))).call (As := []) C (hx.t.mono hm2) fun _ m3 w7 hk hm3 _ C => ⟨_, rfl, hk, Ctr.ret () ?_ trivial C⟩
    have : vwOk 0 1 x.er.ms = true := hv
    rw [Mv.val, this]; rfl
  · rw [if_neg (by simpa using hv)]
    refine Ctr.ret () ?_ trivial C
    have : vwOk 0 1 x.er.ms = false := Bool.eq_false_iff.2 hv
    rw [Mv.val, this]; rfl
def Mv.fieldsP (x : Mv) : Bool :=
  if x.kd = 0 then x.askM
  else if x.kd = 1 then (x.id.right && x.resR && vwOk x.vg x.vn x.vm)
  else if x.kd = 2 then x.id.right
  else if x.kd = 3 then (decide (x.nn > 0) && decide (x.fr ≤ 400) && decide (x.cm ≤ 400) && decide (x.fr + (x.es.length : Int) ≤ 400) && allE x.es x.gr)
  else if x.kd = 4 then (decide (x.nn > 0) && decide (x.fr ≤ 400))
  else if x.kd = 5 then (decide (x.nn > 0) && decide (x.ba > 0))
  else if x.kd = 6 then (decide (x.nn > 0) && decide (x.ba > 0))
  else if x.kd = 7 then (decide (x.nn > 0) && decide (x.ba > 0))
  else if x.kd = 8 then (decide (x.nn > 0) && decide (x.ba > 0) && allE x.es x.gr && (!x.has || (decide (x.ac > 0) && x.val)))
  else if x.kd = 9 then (decide (x.nn > 0) && decide (x.ba > 0) && x.val)
  else if x.kd = 10 then (vwOk x.vg x.vn x.vm && allE x.es x.vg)
  else if x.kd = 11 then prOk x.pn x.pl
  else if x.kd = 12 then prOk x.pn x.pl
  else if x.kd = 13 then prOk x.pn x.pl
  else false
def Mv.onlyP (x : Mv) : Mv :=
  if x.kd = 0 then ⟨x.kd, x.gr, 0, 0, 0, 0, x.fl, 0, 0, x.id, x.ps, 0, ByteArray.mk #[], 0, 0, [], 0, 0, false, [], [], []⟩
  else if x.kd = 1 then ⟨x.kd, 0, 0, 0, 0, 0, 0, 0, 0, x.id, [], x.rc, x.rv, x.vg, x.vn, x.vm, 0, 0, false, [], [], []⟩
  else if x.kd = 2 then ⟨x.kd, 0, x.co, 0, 0, 0, 0, 0, 0, x.id, [], 0, ByteArray.mk #[], 0, 0, [], 0, 0, false, [], [], []⟩
  else if x.kd = 3 then ⟨x.kd, x.gr, 0, x.nn, x.fr, x.cm, 0, 0, 0, I.zero, [], 0, ByteArray.mk #[], 0, 0, [], 0, 0, false, [], x.es, []⟩
  else if x.kd = 4 then ⟨x.kd, x.gr, 0, x.nn, x.fr, 0, 0, 0, 0, I.zero, [], 0, ByteArray.mk #[], 0, 0, [], 0, 0, false, [], [], []⟩
  else if x.kd = 5 then ⟨x.kd, x.gr, 0, x.nn, 0, 0, 0, x.ba, 0, I.zero, [], 0, ByteArray.mk #[], 0, 0, [], 0, 0, false, [], [], []⟩
  else if x.kd = 6 then ⟨x.kd, x.gr, 0, x.nn, 0, 0, 0, x.ba, 0, I.zero, [], 0, ByteArray.mk #[], 0, 0, [], 0, 0, false, [], [], []⟩
  else if x.kd = 7 then ⟨x.kd, x.gr, 0, x.nn, 0, 0, 0, x.ba, 0, I.zero, [], 0, ByteArray.mk #[], 0, 0, [], 0, 0, false, [], [], []⟩
  else if x.kd = 8 then (if x.has then ⟨x.kd, x.gr, 0, x.nn, 0, 0, 0, x.ba, x.ac, I.zero, [], 0, ByteArray.mk #[], 0, 0, [], 0, 0, x.has, x.ms, x.es, x.ts⟩ else ⟨x.kd, x.gr, 0, x.nn, 0, 0, 0, x.ba, 0, I.zero, [], 0, ByteArray.mk #[], 0, 0, [], 0, 0, false, [], x.es, []⟩)
  else if x.kd = 9 then ⟨x.kd, x.gr, 0, x.nn, 0, 0, 0, x.ba, 0, I.zero, [], 0, ByteArray.mk #[], 0, 0, [], 0, 0, false, x.ms, [], x.ts⟩
  else if x.kd = 10 then ⟨x.kd, 0, 0, 0, 0, 0, 0, 0, 0, I.zero, [], 0, ByteArray.mk #[], x.vg, x.vn, x.vm, 0, 0, false, [], x.es, []⟩
  else if x.kd = 11 then ⟨x.kd, x.gr, 0, 0, 0, 0, 0, 0, 0, I.zero, [], 0, ByteArray.mk #[], 0, 0, [], x.pn, x.pl, false, [], [], []⟩
  else if x.kd = 12 then ⟨x.kd, x.gr, 0, 0, 0, 0, 0, 0, 0, I.zero, [], 0, ByteArray.mk #[], 0, 0, [], x.pn, x.pl, false, [], [], []⟩
  else if x.kd = 13 then ⟨x.kd, x.gr, 0, 0, 0, 0, 0, 0, 0, I.zero, [], 0, ByteArray.mk #[], 0, 0, [], x.pn, x.pl, false, [], [], []⟩
  else ⟨x.kd, x.gr, 0, 0, 0, 0, 0, 0, 0, I.zero, [], 0, ByteArray.mk #[], 0, 0, [], 0, 0, false, [], [], []⟩
theorem fP0 {x : Mv} (h : x.kd = 0) : x.fieldsP = x.askM := by rw [Mv.fieldsP, if_pos h]
theorem oP0 {x : Mv} (h : x.kd = 0) : x.onlyP = ⟨x.kd, x.gr, 0, 0, 0, 0, x.fl, 0, 0, x.id, x.ps, 0, ByteArray.mk #[], 0, 0, [], 0, 0, false, [], [], []⟩ := by rw [Mv.onlyP, if_pos h]
theorem fP1 {x : Mv} (h : x.kd = 1) : x.fieldsP = (x.id.right && x.resR && vwOk x.vg x.vn x.vm) := by rw [Mv.fieldsP, if_neg (by omega), if_pos h]
theorem oP1 {x : Mv} (h : x.kd = 1) : x.onlyP = ⟨x.kd, 0, 0, 0, 0, 0, 0, 0, 0, x.id, [], x.rc, x.rv, x.vg, x.vn, x.vm, 0, 0, false, [], [], []⟩ := by rw [Mv.onlyP, if_neg (by omega), if_pos h]
theorem fP2 {x : Mv} (h : x.kd = 2) : x.fieldsP = x.id.right := by rw [Mv.fieldsP, if_neg (by omega), if_neg (by omega), if_pos h]
theorem oP2 {x : Mv} (h : x.kd = 2) : x.onlyP = ⟨x.kd, 0, x.co, 0, 0, 0, 0, 0, 0, x.id, [], 0, ByteArray.mk #[], 0, 0, [], 0, 0, false, [], [], []⟩ := by rw [Mv.onlyP, if_neg (by omega), if_neg (by omega), if_pos h]
theorem fP3 {x : Mv} (h : x.kd = 3) : x.fieldsP = (decide (x.nn > 0) && decide (x.fr ≤ 400) && decide (x.cm ≤ 400) && decide (x.fr + (x.es.length : Int) ≤ 400) && allE x.es x.gr) := by rw [Mv.fieldsP, if_neg (by omega), if_neg (by omega), if_neg (by omega), if_pos h]
theorem oP3 {x : Mv} (h : x.kd = 3) : x.onlyP = ⟨x.kd, x.gr, 0, x.nn, x.fr, x.cm, 0, 0, 0, I.zero, [], 0, ByteArray.mk #[], 0, 0, [], 0, 0, false, [], x.es, []⟩ := by rw [Mv.onlyP, if_neg (by omega), if_neg (by omega), if_neg (by omega), if_pos h]
theorem fP4 {x : Mv} (h : x.kd = 4) : x.fieldsP = (decide (x.nn > 0) && decide (x.fr ≤ 400)) := by rw [Mv.fieldsP, if_neg (by omega), if_neg (by omega), if_neg (by omega), if_neg (by omega), if_pos h]
theorem oP4 {x : Mv} (h : x.kd = 4) : x.onlyP = ⟨x.kd, x.gr, 0, x.nn, x.fr, 0, 0, 0, 0, I.zero, [], 0, ByteArray.mk #[], 0, 0, [], 0, 0, false, [], [], []⟩ := by rw [Mv.onlyP, if_neg (by omega), if_neg (by omega), if_neg (by omega), if_neg (by omega), if_pos h]
theorem fP5 {x : Mv} (h : x.kd = 5) : x.fieldsP = (decide (x.nn > 0) && decide (x.ba > 0)) := by rw [Mv.fieldsP, if_neg (by omega), if_neg (by omega), if_neg (by omega), if_neg (by omega), if_neg (by omega), if_pos h]
theorem oP5 {x : Mv} (h : x.kd = 5) : x.onlyP = ⟨x.kd, x.gr, 0, x.nn, 0, 0, 0, x.ba, 0, I.zero, [], 0, ByteArray.mk #[], 0, 0, [], 0, 0, false, [], [], []⟩ := by rw [Mv.onlyP, if_neg (by omega), if_neg (by omega), if_neg (by omega), if_neg (by omega), if_neg (by omega), if_pos h]
theorem fP6 {x : Mv} (h : x.kd = 6) : x.fieldsP = (decide (x.nn > 0) && decide (x.ba > 0)) := by rw [Mv.fieldsP, if_neg (by omega), if_neg (by omega), if_neg (by omega), if_neg (by omega), if_neg (by omega), if_neg (by omega), if_pos h]
theorem oP6 {x : Mv} (h : x.kd = 6) : x.onlyP = ⟨x.kd, x.gr, 0, x.nn, 0, 0, 0, x.ba, 0, I.zero, [], 0, ByteArray.mk #[], 0, 0, [], 0, 0, false, [], [], []⟩ := by rw [Mv.onlyP, if_neg (by omega), if_neg (by omega), if_neg (by omega), if_neg (by omega), if_neg (by omega), if_neg (by omega), if_pos h]
theorem fP7 {x : Mv} (h : x.kd = 7) : x.fieldsP = (decide (x.nn > 0) && decide (x.ba > 0)) := by rw [Mv.fieldsP, if_neg (by omega), if_neg (by omega), if_neg (by omega), if_neg (by omega), if_neg (by omega), if_neg (by omega), if_neg (by omega), if_pos h]
theorem oP7 {x : Mv} (h : x.kd = 7) : x.onlyP = ⟨x.kd, x.gr, 0, x.nn, 0, 0, 0, x.ba, 0, I.zero, [], 0, ByteArray.mk #[], 0, 0, [], 0, 0, false, [], [], []⟩ := by rw [Mv.onlyP, if_neg (by omega), if_neg (by omega), if_neg (by omega), if_neg (by omega), if_neg (by omega), if_neg (by omega), if_neg (by omega), if_pos h]
theorem fP8 {x : Mv} (h : x.kd = 8) : x.fieldsP = (decide (x.nn > 0) && decide (x.ba > 0) && allE x.es x.gr && (!x.has || (decide (x.ac > 0) && x.val))) := by rw [Mv.fieldsP, if_neg (by omega), if_neg (by omega), if_neg (by omega), if_neg (by omega), if_neg (by omega), if_neg (by omega), if_neg (by omega), if_neg (by omega), if_pos h]
theorem oP8 {x : Mv} (h : x.kd = 8) : x.onlyP = (if x.has then ⟨x.kd, x.gr, 0, x.nn, 0, 0, 0, x.ba, x.ac, I.zero, [], 0, ByteArray.mk #[], 0, 0, [], 0, 0, x.has, x.ms, x.es, x.ts⟩ else ⟨x.kd, x.gr, 0, x.nn, 0, 0, 0, x.ba, 0, I.zero, [], 0, ByteArray.mk #[], 0, 0, [], 0, 0, false, [], x.es, []⟩) := by rw [Mv.onlyP, if_neg (by omega), if_neg (by omega), if_neg (by omega), if_neg (by omega), if_neg (by omega), if_neg (by omega), if_neg (by omega), if_neg (by omega), if_pos h]
theorem fP9 {x : Mv} (h : x.kd = 9) : x.fieldsP = (decide (x.nn > 0) && decide (x.ba > 0) && x.val) := by rw [Mv.fieldsP, if_neg (by omega), if_neg (by omega), if_neg (by omega), if_neg (by omega), if_neg (by omega), if_neg (by omega), if_neg (by omega), if_neg (by omega), if_neg (by omega), if_pos h]
theorem oP9 {x : Mv} (h : x.kd = 9) : x.onlyP = ⟨x.kd, x.gr, 0, x.nn, 0, 0, 0, x.ba, 0, I.zero, [], 0, ByteArray.mk #[], 0, 0, [], 0, 0, false, x.ms, [], x.ts⟩ := by rw [Mv.onlyP, if_neg (by omega), if_neg (by omega), if_neg (by omega), if_neg (by omega), if_neg (by omega), if_neg (by omega), if_neg (by omega), if_neg (by omega), if_neg (by omega), if_pos h]
theorem fP10 {x : Mv} (h : x.kd = 10) : x.fieldsP = (vwOk x.vg x.vn x.vm && allE x.es x.vg) := by rw [Mv.fieldsP, if_neg (by omega), if_neg (by omega), if_neg (by omega), if_neg (by omega), if_neg (by omega), if_neg (by omega), if_neg (by omega), if_neg (by omega), if_neg (by omega), if_neg (by omega), if_pos h]
theorem oP10 {x : Mv} (h : x.kd = 10) : x.onlyP = ⟨x.kd, 0, 0, 0, 0, 0, 0, 0, 0, I.zero, [], 0, ByteArray.mk #[], x.vg, x.vn, x.vm, 0, 0, false, [], x.es, []⟩ := by rw [Mv.onlyP, if_neg (by omega), if_neg (by omega), if_neg (by omega), if_neg (by omega), if_neg (by omega), if_neg (by omega), if_neg (by omega), if_neg (by omega), if_neg (by omega), if_neg (by omega), if_pos h]
theorem fP11 {x : Mv} (h : x.kd = 11) : x.fieldsP = prOk x.pn x.pl := by rw [Mv.fieldsP, if_neg (by omega), if_neg (by omega), if_neg (by omega), if_neg (by omega), if_neg (by omega), if_neg (by omega), if_neg (by omega), if_neg (by omega), if_neg (by omega), if_neg (by omega), if_neg (by omega), if_pos h]
theorem oP11 {x : Mv} (h : x.kd = 11) : x.onlyP = ⟨x.kd, x.gr, 0, 0, 0, 0, 0, 0, 0, I.zero, [], 0, ByteArray.mk #[], 0, 0, [], x.pn, x.pl, false, [], [], []⟩ := by rw [Mv.onlyP, if_neg (by omega), if_neg (by omega), if_neg (by omega), if_neg (by omega), if_neg (by omega), if_neg (by omega), if_neg (by omega), if_neg (by omega), if_neg (by omega), if_neg (by omega), if_neg (by omega), if_pos h]
theorem fP12 {x : Mv} (h : x.kd = 12) : x.fieldsP = prOk x.pn x.pl := by rw [Mv.fieldsP, if_neg (by omega), if_neg (by omega), if_neg (by omega), if_neg (by omega), if_neg (by omega), if_neg (by omega), if_neg (by omega), if_neg (by omega), if_neg (by omega), if_neg (by omega), if_neg (by omega), if_neg (by omega), if_pos h]
theorem oP12 {x : Mv} (h : x.kd = 12) : x.onlyP = ⟨x.kd, x.gr, 0, 0, 0, 0, 0, 0, 0, I.zero, [], 0, ByteArray.mk #[], 0, 0, [], x.pn, x.pl, false, [], [], []⟩ := by rw [Mv.onlyP, if_neg (by omega), if_neg (by omega), if_neg (by omega), if_neg (by omega), if_neg (by omega), if_neg (by omega), if_neg (by omega), if_neg (by omega), if_neg (by omega), if_neg (by omega), if_neg (by omega), if_neg (by omega), if_pos h]
theorem fP13 {x : Mv} (h : x.kd = 13) : x.fieldsP = prOk x.pn x.pl := by rw [Mv.fieldsP, if_neg (by omega), if_neg (by omega), if_neg (by omega), if_neg (by omega), if_neg (by omega), if_neg (by omega), if_neg (by omega), if_neg (by omega), if_neg (by omega), if_neg (by omega), if_neg (by omega), if_neg (by omega), if_neg (by omega), if_pos h]
theorem oP13 {x : Mv} (h : x.kd = 13) : x.onlyP = ⟨x.kd, x.gr, 0, 0, 0, 0, 0, 0, 0, I.zero, [], 0, ByteArray.mk #[], 0, 0, [], x.pn, x.pl, false, [], [], []⟩ := by rw [Mv.onlyP, if_neg (by omega), if_neg (by omega), if_neg (by omega), if_neg (by omega), if_neg (by omega), if_neg (by omega), if_neg (by omega), if_neg (by omega), if_neg (by omega), if_neg (by omega), if_neg (by omega), if_neg (by omega), if_neg (by omega), if_pos h]
theorem fPo {x : Mv} (h : ¬ (0 ≤ x.kd ∧ x.kd ≤ 13)) : x.fieldsP = false := by rw [Mv.fieldsP, if_neg (by omega), if_neg (by omega), if_neg (by omega), if_neg (by omega), if_neg (by omega), if_neg (by omega), if_neg (by omega), if_neg (by omega), if_neg (by omega), if_neg (by omega), if_neg (by omega), if_neg (by omega), if_neg (by omega), if_neg (by omega)]
theorem oPo {x : Mv} (h : ¬ (0 ≤ x.kd ∧ x.kd ≤ 13)) : x.onlyP = ⟨x.kd, x.gr, 0, 0, 0, 0, 0, 0, 0, I.zero, [], 0, ByteArray.mk #[], 0, 0, [], 0, 0, false, [], [], []⟩ := by rw [Mv.onlyP, if_neg (by omega), if_neg (by omega), if_neg (by omega), if_neg (by omega), if_neg (by omega), if_neg (by omega), if_neg (by omega), if_neg (by omega), if_neg (by omega), if_neg (by omega), if_neg (by omega), if_neg (by omega), if_neg (by omega), if_neg (by omega)]
@[reducible] def Mg.o0 (x : Mg) : Mg := ⟨x.kd, x.gr, 0, 0, 0, 0, x.fl, 0, 0, x.id, x.pq, x.ps, 0, ByteArray.mk #[], 0, 0, (none, 0), [], 0, 0, false, (none, 0), [], (none, 0), [], (none, 0), []⟩
theorem oM0 {m : Mem} {x : Mg} (hx : MgM m x) : MgM m x.o0 := ⟨hx.p, .nil .., .nil .., esNil m, esNil m, hx.pl, Nat.zero_le _, Nat.zero_le _, Nat.zero_le _, Nat.zero_le _⟩
@[reducible] def Mg.o1 (x : Mg) : Mg := ⟨x.kd, 0, 0, 0, 0, 0, 0, 0, 0, x.id, (none, 0), [], x.rc, x.rv, x.vg, x.vn, x.vq, x.vm, 0, 0, false, (none, 0), [], (none, 0), [], (none, 0), []⟩
theorem oM1 {m : Mem} {x : Mg} (hx : MgM m x) : MgM m x.o1 := ⟨.nil .., hx.v, .nil .., esNil m, esNil m, Nat.zero_le _, hx.vl, Nat.zero_le _, Nat.zero_le _, Nat.zero_le _⟩
@[reducible] def Mg.o2 (x : Mg) : Mg := ⟨x.kd, 0, x.co, 0, 0, 0, 0, 0, 0, x.id, (none, 0), [], 0, ByteArray.mk #[], 0, 0, (none, 0), [], 0, 0, false, (none, 0), [], (none, 0), [], (none, 0), []⟩
theorem oM2 {m : Mem} {x : Mg} (hx : MgM m x) : MgM m x.o2 := ⟨.nil .., .nil .., .nil .., esNil m, esNil m, Nat.zero_le _, Nat.zero_le _, Nat.zero_le _, Nat.zero_le _, Nat.zero_le _⟩
@[reducible] def Mg.o3 (x : Mg) : Mg := ⟨x.kd, x.gr, 0, x.nn, x.fr, x.cm, 0, 0, 0, I.zero, (none, 0), [], 0, ByteArray.mk #[], 0, 0, (none, 0), [], 0, 0, false, (none, 0), [], x.eq, x.es, (none, 0), []⟩
theorem oM3 {m : Mem} {x : Mg} (hx : MgM m x) : MgM m x.o3 := ⟨.nil .., .nil .., .nil .., hx.e, esNil m, Nat.zero_le _, Nat.zero_le _, Nat.zero_le _, hx.el, Nat.zero_le _⟩
@[reducible] def Mg.o4 (x : Mg) : Mg := ⟨x.kd, x.gr, 0, x.nn, x.fr, 0, 0, 0, 0, I.zero, (none, 0), [], 0, ByteArray.mk #[], 0, 0, (none, 0), [], 0, 0, false, (none, 0), [], (none, 0), [], (none, 0), []⟩
theorem oM4 {m : Mem} {x : Mg} (hx : MgM m x) : MgM m x.o4 := ⟨.nil .., .nil .., .nil .., esNil m, esNil m, Nat.zero_le _, Nat.zero_le _, Nat.zero_le _, Nat.zero_le _, Nat.zero_le _⟩
@[reducible] def Mg.o5 (x : Mg) : Mg := ⟨x.kd, x.gr, 0, x.nn, 0, 0, 0, x.ba, 0, I.zero, (none, 0), [], 0, ByteArray.mk #[], 0, 0, (none, 0), [], 0, 0, false, (none, 0), [], (none, 0), [], (none, 0), []⟩
theorem oM5 {m : Mem} {x : Mg} (hx : MgM m x) : MgM m x.o5 := ⟨.nil .., .nil .., .nil .., esNil m, esNil m, Nat.zero_le _, Nat.zero_le _, Nat.zero_le _, Nat.zero_le _, Nat.zero_le _⟩
@[reducible] def Mg.o8t (x : Mg) : Mg := ⟨x.kd, x.gr, 0, x.nn, 0, 0, 0, x.ba, x.ac, I.zero, (none, 0), [], 0, ByteArray.mk #[], 0, 0, (none, 0), [], 0, 0, x.has, x.mq, x.ms, x.eq, x.es, x.tq, x.ts⟩
theorem oM8t {m : Mem} {x : Mg} (hx : MgM m x) : MgM m x.o8t := ⟨.nil .., .nil .., hx.mm, hx.e, hx.t, Nat.zero_le _, Nat.zero_le _, hx.ml, hx.el, hx.tl⟩
@[reducible] def Mg.o8f (x : Mg) : Mg := ⟨x.kd, x.gr, 0, x.nn, 0, 0, 0, x.ba, 0, I.zero, (none, 0), [], 0, ByteArray.mk #[], 0, 0, (none, 0), [], 0, 0, false, (none, 0), [], x.eq, x.es, (none, 0), []⟩
theorem oM8f {m : Mem} {x : Mg} (hx : MgM m x) : MgM m x.o8f := ⟨.nil .., .nil .., .nil .., hx.e, esNil m, Nat.zero_le _, Nat.zero_le _, Nat.zero_le _, hx.el, Nat.zero_le _⟩
@[reducible] def Mg.o9 (x : Mg) : Mg := ⟨x.kd, x.gr, 0, x.nn, 0, 0, 0, x.ba, 0, I.zero, (none, 0), [], 0, ByteArray.mk #[], 0, 0, (none, 0), [], 0, 0, false, x.mq, x.ms, (none, 0), [], x.tq, x.ts⟩
theorem oM9 {m : Mem} {x : Mg} (hx : MgM m x) : MgM m x.o9 := ⟨.nil .., .nil .., hx.mm, esNil m, hx.t, Nat.zero_le _, Nat.zero_le _, hx.ml, Nat.zero_le _, hx.tl⟩
@[reducible] def Mg.o10 (x : Mg) : Mg := ⟨x.kd, 0, 0, 0, 0, 0, 0, 0, 0, I.zero, (none, 0), [], 0, ByteArray.mk #[], x.vg, x.vn, x.vq, x.vm, 0, 0, false, (none, 0), [], x.eq, x.es, (none, 0), []⟩
theorem oM10 {m : Mem} {x : Mg} (hx : MgM m x) : MgM m x.o10 := ⟨.nil .., hx.v, .nil .., hx.e, esNil m, Nat.zero_le _, hx.vl, Nat.zero_le _, hx.el, Nat.zero_le _⟩
@[reducible] def Mg.o11 (x : Mg) : Mg := ⟨x.kd, x.gr, 0, 0, 0, 0, 0, 0, 0, I.zero, (none, 0), [], 0, ByteArray.mk #[], 0, 0, (none, 0), [], x.pn, x.pl, false, (none, 0), [], (none, 0), [], (none, 0), []⟩
theorem oM11 {m : Mem} {x : Mg} (hx : MgM m x) : MgM m x.o11 := ⟨.nil .., .nil .., .nil .., esNil m, esNil m, Nat.zero_le _, Nat.zero_le _, Nat.zero_le _, Nat.zero_le _, Nat.zero_le _⟩
@[reducible] def Mg.oo (x : Mg) : Mg := ⟨x.kd, x.gr, 0, 0, 0, 0, 0, 0, 0, I.zero, (none, 0), [], 0, ByteArray.mk #[], 0, 0, (none, 0), [], 0, 0, false, (none, 0), [], (none, 0), [], (none, 0), []⟩
theorem oMo {m : Mem} {x : Mg} (hx : MgM m x) : MgM m x.oo := ⟨.nil .., .nil .., .nil .., esNil m, esNil m, Nat.zero_le _, Nat.zero_le _, Nat.zero_le _, Nat.zero_le _, Nat.zero_le _⟩
theorem wrapFr {x : Mg} (hi : MvIn x.er) (hl : x.es.length ≤ 100000) : IntKind.wrap .i64 (IntKind.wrap .i64 x.fr + ((x.es.length : Nat) : Int)) = x.fr + ((x.es.length : Nat) : Int) := by
  have h : 0 ≤ x.fr ∧ x.fr < 4294967296 := hi.fr
  rw [w_i64 (n := x.fr) (by omega) (by omega), w_i64 (n := x.fr + _) (by omega) (by omega)]
theorem c_mFields (x : Mg) (hi : MvIn x.er) : Ctr Tryz.prog 57 #[.agg x.row.toArray] (fun m => MgM m x) [] (fun _ : Unit => .bool x.er.fieldsP) (fun _ _ => True) (fun _ => []) := by
  refine Ctr.mk fun w F m C hx => x_mFields _ _ _ _ _ _ _ _ _ _ _ _ _ _ _ _ _ _ _ _ _ _ _ _ _ _ _ _ _ _ _ _ _ _ _ _ _ _ _ _ _ w _ ?_
  have cA := c_mAsked x hi
  have cV := c_mValue x hi hx.tl
  have cI := c_Right x.id hi.id
  have cR := c_ResRight ⟨x.rc, x.rv⟩
  have cW := c_vRight ⟨x.vg, x.vn, x.vq, x.vm⟩ hi.vm
  have cE := fun g => c_all x.eq x.es g hx.el (fun e he => hi.es _ (List.mem_map_of_mem he))
  have cP := c_pRight ⟨x.pn, x.pl⟩
  have hv := vm_vw hx
  have hee := hx.e
  have hlen : (x.es.map En.er).length = x.es.length := by simp
  rw [wrapFr hi hx.el]
  clear hi
  obtain hk | hk | hk | hk | hk | hk | hk | hk | hk | hk | hk | hk | hk | hk | hk : x.kd = 0 ∨ x.kd = 1 ∨ x.kd = 2 ∨ x.kd = 3 ∨ x.kd = 4 ∨ x.kd = 5 ∨ x.kd = 6 ∨ x.kd = 7 ∨ x.kd = 8 ∨ x.kd = 9 ∨ x.kd = 10 ∨ x.kd = 11 ∨ x.kd = 12 ∨ x.kd = 13 ∨ ¬ (0 ≤ x.kd ∧ x.kd ≤ 13) := by omega
  all_goals (obtain ⟨kd, gr, co, nn, fr, cm, fl, ba, ac, id, pq, ps, rc, rv, vg, vn, vq, vm, pn, pl, has, mq, ms, eq, es, tq, ts⟩ := x)
  all_goals (try (replace hk : kd = _ := hk))
  all_goals (try subst hk)
  all_goals (dsimp only)
  · repeat (first | rw [if_pos (by decide)] | rw [if_neg (by decide)])
    intro w1 L2 h1 g1
    exact cA.call (As := []) (C.hidL h1 g1) hx fun _ m2 w5 hk hm _ C => ⟨_, rfl, hk, Ctr.ret () (by rw [fP0 rfl]) trivial C⟩
  · repeat (first | rw [if_pos (by decide)] | rw [if_neg (by decide)])
    intro w1 L2 h1 g1
    refine (C.hidL h1 g1).gives cI fun w5 k5 C => ⟨_, rfl, k5, ?_⟩
    by_cases b1 : id.right = true
    rotate_left
    · rw [if_neg (by simpa using b1)]
      refine Ctr.ret () ?_ trivial C
      rw [fP1 rfl]
      show _ = Ending.returned (.bool (id.right && _ && _))
      rw [Bool.eq_false_iff.2 b1]; rfl
    rw [if_pos (by rw [b1]; rfl)]
    refine C.gives cR fun w6 k6 C => ⟨_, rfl, k6, ?_⟩
    by_cases b2 : Rs.right ⟨rc, rv⟩ = true
    rotate_left
    · rw [if_neg (by simpa using b2)]
      refine Ctr.ret () ?_ trivial C
      rw [fP1 rfl]
      show _ = Ending.returned (.bool (_ && Rs.right ⟨rc, rv⟩ && _))
      rw [Bool.eq_false_iff.2 b2]; simp
    rw [if_pos (by rw [b2]; rfl)]
    refine cW.call (As := []) C hv fun _ m2 w7 hk hm _ C => ⟨_, rfl, hk, Ctr.ret () ?_ trivial C⟩
    rw [fP1 rfl]
    show _ = Ending.returned (.bool (id.right && Rs.right ⟨rc, rv⟩ && _))
    rw [b1, b2]; rfl
  · repeat (first | rw [if_pos (by decide)] | rw [if_neg (by decide)])
    intro w1 L2 h1 g1
    exact (C.hidL h1 g1).gives cI fun w5 k5 C => ⟨_, rfl, k5, Ctr.ret () (by rw [fP2 rfl]; rfl) trivial C⟩
  · repeat (first | rw [if_pos (by decide)] | rw [if_neg (by decide)])
    by_cases b1 : (((decide (nn > 0) && decide (fr ≤ 400)) && decide (cm ≤ 400)) && decide (fr + ((es.length : Nat) : Int) ≤ 400)) = true
    · rw [if_pos (by rw [b1]; rfl)]
      intro w1 L2 h1 g1
      refine (cE gr).call (As := []) (C.hidL h1 g1) hee fun _ m2 w7 hk hm _ C => ⟨_, rfl, hk, Ctr.ret () ?_ trivial C⟩
      rw [fP3 rfl]
      show _ = Ending.returned (.bool ((((decide (nn > 0) && decide (fr ≤ 400)) && decide (cm ≤ 400)) && decide (fr + (((es.map En.er).length : Nat) : Int) ≤ 400)) && allE (es.map En.er) gr))
      rw [hlen, b1]
    · rw [if_neg (by simpa using b1)]
      intro w1 h1
      refine Ctr.ret () ?_ trivial (C.hid0 h1)
      rw [fP3 rfl]
      show _ = Ending.returned (.bool ((((decide (nn > 0) && decide (fr ≤ 400)) && decide (cm ≤ 400)) && decide (fr + (((es.map En.er).length : Nat) : Int) ≤ 400)) && allE (es.map En.er) gr))
      rw [hlen, Bool.eq_false_iff.2 b1]; rfl
  · repeat (first | rw [if_pos (by decide)] | rw [if_neg (by decide)])
    intro w1 h1
    exact Ctr.ret () (by rw [fP4 rfl]; rfl) trivial (C.hid0 h1)
  · repeat (first | rw [if_pos (by decide)] | rw [if_neg (by decide)])
    intro w1 h1
    exact Ctr.ret () (by rw [fP5 rfl]; rfl) trivial (C.hid0 h1)
  · repeat (first | rw [if_pos (by decide)] | rw [if_neg (by decide)])
    intro w1 h1
    exact Ctr.ret () (by rw [fP6 rfl]; rfl) trivial (C.hid0 h1)
  · repeat (first | rw [if_pos (by decide)] | rw [if_neg (by decide)])
    intro w1 h1
    exact Ctr.ret () (by rw [fP7 rfl]; rfl) trivial (C.hid0 h1)
  · repeat (first | rw [if_pos (by decide)] | rw [if_neg (by decide)])
    by_cases b1 : (decide (nn > 0) && decide (ba > 0)) = true
    rotate_left
    · rw [if_neg (by simpa using b1)]
      intro w1 h1
      refine Ctr.ret () ?_ trivial (C.hid0 h1)
      rw [fP8 rfl]
      show _ = Ending.returned (.bool ((decide (nn > 0) && decide (ba > 0)) && _ && _))
      rw [Bool.eq_false_iff.2 b1]; rfl
    rw [if_pos (by rw [b1]; rfl)]
    intro w1 L2 h1 g1
    refine (cE gr).call (As := []) (C.hidL h1 g1) hee fun _ m2 w7 hk hm _ C => ⟨_, rfl, hk, ?_⟩
    by_cases b2 : allE (es.map En.er) gr = true
    rotate_left
    · rw [if_neg (by simpa using b2)]
      refine Ctr.ret () ?_ trivial C
      rw [fP8 rfl]
      show _ = Ending.returned (.bool ((decide (nn > 0) && decide (ba > 0)) && allE (es.map En.er) gr && _))
      rw [Bool.eq_false_iff.2 b2]; simp
    rw [if_pos (by rw [b2]; rfl)]
    have e8 : ∀ b : Bool, (!has || (decide (ac > 0) && Mv.val (Mg.er ⟨8, gr, co, nn, fr, cm, fl, ba, ac, id, pq, ps, rc, rv, vg, vn, vq, vm, pn, pl, has, mq, ms, eq, es, tq, ts⟩))) = b → Ending.returned (Value.bool b) = Ending.returned (.bool (Mv.fieldsP (Mg.er ⟨8, gr, co, nn, fr, cm, fl, ba, ac, id, pq, ps, rc, rv, vg, vn, vq, vm, pn, pl, has, mq, ms, eq, es, tq, ts⟩))) := fun b h => by
      rw [fP8 rfl]
      show _ = Ending.returned (.bool ((decide (nn > 0) && decide (ba > 0)) && allE (es.map En.er) gr && (!has || (decide (ac > 0) && Mv.val _))))
      rw [b1, b2, h]; rfl
    cases has with
    | false =>
      rw [if_neg (by decide)]
      exact Ctr.ret () (e8 true rfl) trivial C
    | true =>
      rw [if_pos (by decide)]
      by_cases b3 : decide (ac > 0) = true
      · rw [if_pos (by rw [b3]; rfl)]
        refine cV.call (As := []) C (hx.mono hm) fun _ m3 w8 hk hm3 _ C => ⟨_, rfl, hk, Ctr.ret () (e8 _ ?_) trivial C⟩
        rw [b3]; simp
      · rw [if_neg (by simpa using b3)]
        refine Ctr.ret () (e8 _ ?_) trivial C
        rw [Bool.eq_false_iff.2 b3]; rfl
  · repeat (first | rw [if_pos (by decide)] | rw [if_neg (by decide)])
    by_cases b1 : (decide (nn > 0) && decide (ba > 0)) = true
    · rw [if_pos (by rw [b1]; rfl)]
      intro w1 L2 h1 g1
      refine cV.call (As := []) (C.hidL h1 g1) hx fun _ m3 w8 hk hm3 _ C => ⟨_, rfl, hk, Ctr.ret () ?_ trivial C⟩
      rw [fP9 rfl]
      show _ = Ending.returned (.bool ((decide (nn > 0) && decide (ba > 0)) && _))
      rw [b1]
    · rw [if_neg (by simpa using b1)]
      intro w1 h1
      refine Ctr.ret () ?_ trivial (C.hid0 h1)
      rw [fP9 rfl]
      show _ = Ending.returned (.bool ((decide (nn > 0) && decide (ba > 0)) && _))
      rw [Bool.eq_false_iff.2 b1]; rfl
  · repeat (first | rw [if_pos (by decide)] | rw [if_neg (by decide)])
    intro w1 L2 h1 g1
    refine cW.call (As := []) (C.hidL h1 g1) hv fun _ m2 w7 hk hm _ C => ⟨_, rfl, hk, ?_⟩
    by_cases b1 : Vw.ok ⟨vg, vn, vq, vm⟩ = true
    · rw [if_pos (by rw [b1]; rfl)]
      refine (cE vg).call (As := []) C (hee.mono hm) fun _ m2 w7 hk hm _ C => ⟨_, rfl, hk, Ctr.ret () ?_ trivial C⟩
      rw [fP10 rfl]
      show _ = Ending.returned (.bool (Vw.ok ⟨vg, vn, vq, vm⟩ && allE (es.map En.er) vg))
      rw [b1]
    · rw [if_neg (by simpa using b1)]
      refine Ctr.ret () ?_ trivial C
      rw [fP10 rfl]
      show _ = Ending.returned (.bool (Vw.ok ⟨vg, vn, vq, vm⟩ && allE (es.map En.er) vg))
      rw [Bool.eq_false_iff.2 b1]; rfl
  · repeat (first | rw [if_pos (by decide)] | rw [if_neg (by decide)])
    intro w1 L2 h1 g1
    exact (C.hidL h1 g1).gives cP fun w5 k5 C => ⟨_, rfl, k5, Ctr.ret () (by rw [fP11 rfl]; rfl) trivial C⟩
  · repeat (first | rw [if_pos (by decide)] | rw [if_neg (by decide)])
    intro w1 L2 h1 g1
    exact (C.hidL h1 g1).gives cP fun w5 k5 C => ⟨_, rfl, k5, Ctr.ret () (by rw [fP12 rfl]; rfl) trivial C⟩
  · repeat (first | rw [if_pos (by decide)] | rw [if_neg (by decide)])
    intro w1 L2 h1 g1
    exact (C.hidL h1 g1).gives cP fun w5 k5 C => ⟨_, rfl, k5, Ctr.ret () (by rw [fP13 rfl]; rfl) trivial C⟩
  · have n0 : ¬ ((kd == 0) = true) := by intro h; rw [beq_iff_eq] at h; subst h; exact hk (by show (0 : Int) ≤ 0 ∧ (0 : Int) ≤ 13; decide)
    have n1 : ¬ ((kd == 1) = true) := by intro h; rw [beq_iff_eq] at h; subst h; exact hk (by show (0 : Int) ≤ 1 ∧ (1 : Int) ≤ 13; decide)
    have n2 : ¬ ((kd == 2) = true) := by intro h; rw [beq_iff_eq] at h; subst h; exact hk (by show (0 : Int) ≤ 2 ∧ (2 : Int) ≤ 13; decide)
    have n3 : ¬ ((kd == 3) = true) := by intro h; rw [beq_iff_eq] at h; subst h; exact hk (by show (0 : Int) ≤ 3 ∧ (3 : Int) ≤ 13; decide)
    have n4 : ¬ ((kd == 4) = true) := by intro h; rw [beq_iff_eq] at h; subst h; exact hk (by show (0 : Int) ≤ 4 ∧ (4 : Int) ≤ 13; decide)
    have n5 : ¬ ((kd == 5) = true) := by intro h; rw [beq_iff_eq] at h; subst h; exact hk (by show (0 : Int) ≤ 5 ∧ (5 : Int) ≤ 13; decide)
    have n6 : ¬ ((kd == 6) = true) := by intro h; rw [beq_iff_eq] at h; subst h; exact hk (by show (0 : Int) ≤ 6 ∧ (6 : Int) ≤ 13; decide)
    have n7 : ¬ ((kd == 7) = true) := by intro h; rw [beq_iff_eq] at h; subst h; exact hk (by show (0 : Int) ≤ 7 ∧ (7 : Int) ≤ 13; decide)
    have n8 : ¬ ((kd == 8) = true) := by intro h; rw [beq_iff_eq] at h; subst h; exact hk (by show (0 : Int) ≤ 8 ∧ (8 : Int) ≤ 13; decide)
    have n9 : ¬ ((kd == 9) = true) := by intro h; rw [beq_iff_eq] at h; subst h; exact hk (by show (0 : Int) ≤ 9 ∧ (9 : Int) ≤ 13; decide)
    have n10 : ¬ ((kd == 10) = true) := by intro h; rw [beq_iff_eq] at h; subst h; exact hk (by show (0 : Int) ≤ 10 ∧ (10 : Int) ≤ 13; decide)
    have n11 : ¬ ((kd == 11) = true) := by intro h; rw [beq_iff_eq] at h; subst h; exact hk (by show (0 : Int) ≤ 11 ∧ (11 : Int) ≤ 13; decide)
    have n12 : ¬ ((kd == 12) = true) := by intro h; rw [beq_iff_eq] at h; subst h; exact hk (by show (0 : Int) ≤ 12 ∧ (12 : Int) ≤ 13; decide)
    have n13 : ¬ ((kd == 13) = true) := by intro h; rw [beq_iff_eq] at h; subst h; exact hk (by show (0 : Int) ≤ 13 ∧ (13 : Int) ≤ 13; decide)
    rw [if_neg n0, if_neg n1, if_neg n2, if_neg n3, if_neg n4, if_neg n5, if_neg n6, if_neg n7, if_neg n8, if_neg n9, if_neg n10, if_neg n11, if_neg n12, if_neg n13]
    intro w1 h1
    exact Ctr.ret () (by rw [fPo hk]) trivial (C.hid0 h1)
theorem c_mOnly (x : Mg) : Ctr Tryz.prog 58 #[.agg x.row.toArray] (fun m => MgM m x) [] (fun y : Mg => .agg y.row.toArray) (fun y m => MgM m y ∧ y.er = x.er.onlyP) (fun _ => []) := by
  refine Ctr.mk fun w F m C hx => x_mOnly _ _ _ _ _ _ _ _ _ _ _ _ _ _ _ _ _ _ _ _ _ _ _ _ _ _ _ _ _ _ _ _ _ _ _ _ _ _ _ _ _ w _ ?_
  obtain hk | hk | hk | hk | hk | hk | hk | hk | hk | hk | hk | hk | hk | hk | hk : x.kd = 0 ∨ x.kd = 1 ∨ x.kd = 2 ∨ x.kd = 3 ∨ x.kd = 4 ∨ x.kd = 5 ∨ x.kd = 6 ∨ x.kd = 7 ∨ x.kd = 8 ∨ x.kd = 9 ∨ x.kd = 10 ∨ x.kd = 11 ∨ x.kd = 12 ∨ x.kd = 13 ∨ ¬ (0 ≤ x.kd ∧ x.kd ≤ 13) := by omega
  all_goals (obtain ⟨kd, gr, co, nn, fr, cm, fl, ba, ac, id, pq, ps, rc, rv, vg, vn, vq, vm, pn, pl, has, mq, ms, eq, es, tq, ts⟩ := x)
  all_goals (try (replace hk : kd = _ := hk))
  all_goals (try subst hk)
  all_goals (dsimp only)
  · repeat (first | rw [if_pos (by decide)] | rw [if_neg (by decide)])
    exact ⟨[], facts_nil _ _, fun w1 h1 => Ctr.ret (m' := m) (L := []) (Mg.o0 _) rfl ⟨oM0 hx, by rw [oP0 rfl]; rfl⟩ (C.hid0 h1)⟩
  · repeat (first | rw [if_pos (by decide)] | rw [if_neg (by decide)])
    exact fun w1 h1 => Ctr.ret (m' := m) (L := []) (Mg.o1 _) rfl ⟨oM1 hx, by rw [oP1 rfl]; rfl⟩ (C.hid0 h1)
  · repeat (first | rw [if_pos (by decide)] | rw [if_neg (by decide)])
    exact fun w1 h1 => Ctr.ret (m' := m) (L := []) (Mg.o2 _) rfl ⟨oM2 hx, by rw [oP2 rfl]; rfl⟩ (C.hid0 h1)
  · repeat (first | rw [if_pos (by decide)] | rw [if_neg (by decide)])
    exact ⟨[], facts_nil _ _, ⟨[], facts_nil _ _, fun w1 h1 => Ctr.ret (m' := m) (L := []) (Mg.o3 _) rfl ⟨oM3 hx, by rw [oP3 rfl]; rfl⟩ (C.hid0 h1)⟩⟩
  · repeat (first | rw [if_pos (by decide)] | rw [if_neg (by decide)])
    exact ⟨[], facts_nil _ _, fun w1 h1 => Ctr.ret (m' := m) (L := []) (Mg.o4 _) rfl ⟨oM4 hx, by rw [oP4 rfl]; rfl⟩ (C.hid0 h1)⟩
  · repeat (first | rw [if_pos (by decide)] | rw [if_neg (by decide)])
    exact ⟨[], facts_nil _ _, fun w1 h1 => Ctr.ret (m' := m) (L := []) (Mg.o5 _) rfl ⟨oM5 hx, by rw [oP5 rfl]; rfl⟩ (C.hid0 h1)⟩
  · repeat (first | rw [if_pos (by decide)] | rw [if_neg (by decide)])
    exact ⟨[], facts_nil _ _, fun w1 h1 => Ctr.ret (m' := m) (L := []) (Mg.o5 _) rfl ⟨oM5 hx, by rw [oP6 rfl]; rfl⟩ (C.hid0 h1)⟩
  · repeat (first | rw [if_pos (by decide)] | rw [if_neg (by decide)])
    exact ⟨[], facts_nil _ _, fun w1 h1 => Ctr.ret (m' := m) (L := []) (Mg.o5 _) rfl ⟨oM5 hx, by rw [oP7 rfl]; rfl⟩ (C.hid0 h1)⟩
  · repeat (first | rw [if_pos (by decide)] | rw [if_neg (by decide)])
    refine ⟨[], facts_nil _ _, ?_⟩
    cases has with
    | true =>
      rw [if_pos rfl]
      exact ⟨[], facts_nil _ _, [], facts_nil _ _, fun w1 h1 => Ctr.ret (m' := m) (L := []) (Mg.o8t _) rfl ⟨oM8t hx, by rw [oP8 rfl]; rfl⟩ (C.hid0 h1)⟩
    | false =>
      rw [if_neg (by decide)]
      exact ⟨[], facts_nil _ _, fun w1 h1 => Ctr.ret (m' := m) (L := []) (Mg.o8f _) rfl ⟨oM8f hx, by rw [oP8 rfl]; rfl⟩ (C.hid0 h1)⟩
  · repeat (first | rw [if_pos (by decide)] | rw [if_neg (by decide)])
    exact ⟨[], facts_nil _ _, ⟨[], facts_nil _ _, fun w1 h1 => Ctr.ret (m' := m) (L := []) (Mg.o9 _) rfl ⟨oM9 hx, by rw [oP9 rfl]; rfl⟩ (C.hid0 h1)⟩⟩
  · repeat (first | rw [if_pos (by decide)] | rw [if_neg (by decide)])
    exact fun w1 h1 => Ctr.ret (m' := m) (L := []) (Mg.o10 _) rfl ⟨oM10 hx, by rw [oP10 rfl]; rfl⟩ (C.hid0 h1)
  · repeat (first | rw [if_pos (by decide)] | rw [if_neg (by decide)])
    exact fun w1 h1 => Ctr.ret (m' := m) (L := []) (Mg.o11 _) rfl ⟨oM11 hx, by rw [oP11 rfl]; rfl⟩ (C.hid0 h1)
  · repeat (first | rw [if_pos (by decide)] | rw [if_neg (by decide)])
    exact fun w1 h1 => Ctr.ret (m' := m) (L := []) (Mg.o11 _) rfl ⟨oM11 hx, by rw [oP12 rfl]; rfl⟩ (C.hid0 h1)
  · repeat (first | rw [if_pos (by decide)] | rw [if_neg (by decide)])
    exact fun w1 h1 => Ctr.ret (m' := m) (L := []) (Mg.o11 _) rfl ⟨oM11 hx, by rw [oP13 rfl]; rfl⟩ (C.hid0 h1)
  · have n0 : ¬ ((kd == 0) = true) := by intro h; rw [beq_iff_eq] at h; subst h; exact hk (by show (0 : Int) ≤ 0 ∧ (0 : Int) ≤ 13; decide)
    have n1 : ¬ ((kd == 1) = true) := by intro h; rw [beq_iff_eq] at h; subst h; exact hk (by show (0 : Int) ≤ 1 ∧ (1 : Int) ≤ 13; decide)
    have n2 : ¬ ((kd == 2) = true) := by intro h; rw [beq_iff_eq] at h; subst h; exact hk (by show (0 : Int) ≤ 2 ∧ (2 : Int) ≤ 13; decide)
    have n3 : ¬ ((kd == 3) = true) := by intro h; rw [beq_iff_eq] at h; subst h; exact hk (by show (0 : Int) ≤ 3 ∧ (3 : Int) ≤ 13; decide)
    have n4 : ¬ ((kd == 4) = true) := by intro h; rw [beq_iff_eq] at h; subst h; exact hk (by show (0 : Int) ≤ 4 ∧ (4 : Int) ≤ 13; decide)
    have n5 : ¬ ((kd == 5) = true) := by intro h; rw [beq_iff_eq] at h; subst h; exact hk (by show (0 : Int) ≤ 5 ∧ (5 : Int) ≤ 13; decide)
    have n6 : ¬ ((kd == 6) = true) := by intro h; rw [beq_iff_eq] at h; subst h; exact hk (by show (0 : Int) ≤ 6 ∧ (6 : Int) ≤ 13; decide)
    have n7 : ¬ ((kd == 7) = true) := by intro h; rw [beq_iff_eq] at h; subst h; exact hk (by show (0 : Int) ≤ 7 ∧ (7 : Int) ≤ 13; decide)
    have n8 : ¬ ((kd == 8) = true) := by intro h; rw [beq_iff_eq] at h; subst h; exact hk (by show (0 : Int) ≤ 8 ∧ (8 : Int) ≤ 13; decide)
    have n9 : ¬ ((kd == 9) = true) := by intro h; rw [beq_iff_eq] at h; subst h; exact hk (by show (0 : Int) ≤ 9 ∧ (9 : Int) ≤ 13; decide)
    have n10 : ¬ ((kd == 10) = true) := by intro h; rw [beq_iff_eq] at h; subst h; exact hk (by show (0 : Int) ≤ 10 ∧ (10 : Int) ≤ 13; decide)
    have n11 : ¬ ((kd == 11) = true) := by intro h; rw [beq_iff_eq] at h; subst h; exact hk (by show (0 : Int) ≤ 11 ∧ (11 : Int) ≤ 13; decide)
    have n12 : ¬ ((kd == 12) = true) := by intro h; rw [beq_iff_eq] at h; subst h; exact hk (by show (0 : Int) ≤ 12 ∧ (12 : Int) ≤ 13; decide)
    have n13 : ¬ ((kd == 13) = true) := by intro h; rw [beq_iff_eq] at h; subst h; exact hk (by show (0 : Int) ≤ 13 ∧ (13 : Int) ≤ 13; decide)
    repeat (first | rw [if_neg n0] | rw [if_neg n1] | rw [if_neg n2] | rw [if_neg n3] | rw [if_neg n4] | rw [if_neg n5] | rw [if_neg n6] | rw [if_neg n7] | rw [if_neg n8] | rw [if_neg n9] | rw [if_neg n10] | rw [if_neg n11] | rw [if_neg n12] | rw [if_neg n13])
    exact fun w1 h1 => Ctr.ret (m' := m) (L := []) (Mg.oo _) rfl ⟨oMo hx, by rw [oPo hk]; rfl⟩ (C.hid0 h1)
end Go.Proofs
namespace Go.Proofs
open Go X RowKit
/-! ### two messages held against each other -/
theorem er_no {a b : Mg} {c : Bool} (h : ¬ c = true) (hc : a.er = b.er → c = true) : decide (a.er = b.er) = false := decide_eq_false (fun e => h (hc e))
theorem lenEq {l l' : List En} (h : l.map En.er = l'.map En.er) : l.length = l'.length := by simpa using congrArg List.length h
theorem c_mSame (a b : Mg) : Ctr Tryz.prog 15 #[.agg a.row.toArray, .agg b.row.toArray] (fun m => MgM m a ∧ MgM m b) [] (fun _ : Unit => .bool (decide (a.er = b.er))) (fun _ _ => True) (fun _ => []) := by
  refine Ctr.mk fun w F m C hp => x_mSame _ _ _ _ _ _ _ _ _ _ _ _ _ _ _ _ _ _ _ _ _ _ _ _ _ _ _ _ _ _ _ _ _ _ _ _ _ _ _ _ _ _ _ _ _ _ _ _ _ _ _ _ _ _ _ _ _ _ _ _ _ _ _ _ _ _ _ _ _ _ _ _ _ _ _ _ _ _ _ _ _ _ w _ fun w1 L2 h1 g1 => ?_
  obtain ⟨ha, hb⟩ := hp
  refine (c_pSame a.pq b.pq a.ps b.ps (by have := ha.pl; omega)).call (As := []) (C.hidL h1 g1) ⟨ha.p, hb.p⟩ fun _ m1 w4 hk hm _ C => ⟨_, rfl, hk, ?_⟩
  replace ha := ha.mono hm; replace hb := hb.mono hm
  by_cases n_ps : decide (a.ps = b.ps) = true
  rotate_left
  · rw [if_neg (by rw [Bool.eq_false_iff.2 n_ps]; decide)]
    refine Ctr.ret () ?_ trivial C
    rw [er_no n_ps (fun h => by have e : a.ps = b.ps := congrArg Mv.ps h; exact decide_eq_true e)]; simp only [Bool.false_and]
  rw [if_pos (by rw [n_ps]; rfl)]
  refine (c_vSame ⟨a.vg, a.vn, a.vq, a.vm⟩ ⟨b.vg, b.vn, b.vq, b.vm⟩ ha.vl).call (As := []) C ⟨ha.v, hb.v⟩ fun _ m1 w7 hk hm _ C => ⟨_, rfl, hk, ?_⟩
  replace ha := ha.mono hm; replace hb := hb.mono hm
  by_cases n_v : ((a.vg == b.vg) && (a.vn == b.vn) && decide (a.vm = b.vm)) = true
  rotate_left
  · rw [if_neg (by rw [Bool.eq_false_iff.2 n_v]; decide)]
    refine Ctr.ret () ?_ trivial C
    rw [er_no n_v (fun h => by have e1 : a.vg = b.vg := congrArg Mv.vg h; have e2 : a.vn = b.vn := congrArg Mv.vn h; have e3 : a.vm = b.vm := congrArg Mv.vm h; rw [e1, e2, e3]; simp)]; simp only [Bool.false_and]
  rw [if_pos (by rw [n_v]; rfl)]
  refine (c_EqualPr a.mq b.mq a.ms b.ms (by have := ha.ml; omega)).call (As := []) C ⟨ha.mm, hb.mm⟩ fun _ m1 w7 hk hm _ C => ⟨_, rfl, hk, ?_⟩
  replace ha := ha.mono hm; replace hb := hb.mono hm
  by_cases n_ms : decide (a.ms = b.ms) = true
  rotate_left
  · rw [if_neg (by rw [Bool.eq_false_iff.2 n_ms]; decide)]
    refine Ctr.ret () ?_ trivial C
    rw [er_no n_ms (fun h => by have e : a.ms = b.ms := congrArg Mv.ms h; exact decide_eq_true e)]; simp only [Bool.false_and]
  rw [if_pos (by rw [n_ms]; rfl)]
  refine (c_eSameAll a.eq b.eq a.es b.es (by have := ha.el; omega)).call (As := []) C ⟨ha.e, hb.e⟩ fun _ m1 w7 hk hm _ C => ⟨_, rfl, hk, ?_⟩
  replace ha := ha.mono hm; replace hb := hb.mono hm
  by_cases n_es : decide (a.es.map En.er = b.es.map En.er) = true
  rotate_left
  · rw [if_neg (by rw [Bool.eq_false_iff.2 n_es]; decide)]
    refine Ctr.ret () ?_ trivial C
    rw [er_no n_es (fun h => by have e : a.es.map En.er = b.es.map En.er := congrArg Mv.es h; exact decide_eq_true e)]; simp only [Bool.false_and]
  rw [if_pos (by rw [n_es]; rfl)]
  refine (c_eSameAll a.tq b.tq a.ts b.ts (by have := ha.tl; omega)).call (As := []) C ⟨ha.t, hb.t⟩ fun _ m1 w7 hk hm _ C => ⟨_, rfl, hk, ?_⟩
  refine Ctr.ret () ?_ trivial C
  by_cases n_ts : decide (a.ts.map En.er = b.ts.map En.er) = true
  rotate_left
  · rw [er_no n_ts (fun h => by have e : a.ts.map En.er = b.ts.map En.er := congrArg Mv.ts h; exact decide_eq_true e), Bool.eq_false_iff.2 n_ts]; simp only [Bool.false_and, Bool.and_false, Bool.true_and]
  by_cases n_kd : (a.kd == b.kd) = true
  rotate_left
  · rw [er_no n_kd (fun h => by have e := congrArg Mv.kd h; exact beq_iff_eq.2 e), Bool.eq_false_iff.2 n_kd]; simp only [Bool.false_and, Bool.and_false, Bool.true_and]
  by_cases n_gr : (a.gr == b.gr) = true
  rotate_left
  · rw [er_no n_gr (fun h => by have e := congrArg Mv.gr h; exact beq_iff_eq.2 e), Bool.eq_false_iff.2 n_gr]; simp only [Bool.false_and, Bool.and_false, Bool.true_and]
  by_cases n_co : (a.co == b.co) = true
  rotate_left
  · rw [er_no n_co (fun h => by have e := congrArg Mv.co h; exact beq_iff_eq.2 e), Bool.eq_false_iff.2 n_co]; simp only [Bool.false_and, Bool.and_false, Bool.true_and]
  by_cases n_nn : (a.nn == b.nn) = true
  rotate_left
  · rw [er_no n_nn (fun h => by have e := congrArg Mv.nn h; exact beq_iff_eq.2 e), Bool.eq_false_iff.2 n_nn]; simp only [Bool.false_and, Bool.and_false, Bool.true_and]
  by_cases n_fr : (a.fr == b.fr) = true
  rotate_left
  · rw [er_no n_fr (fun h => by have e := congrArg Mv.fr h; exact beq_iff_eq.2 e), Bool.eq_false_iff.2 n_fr]; simp only [Bool.false_and, Bool.and_false, Bool.true_and]
  by_cases n_cm : (a.cm == b.cm) = true
  rotate_left
  · rw [er_no n_cm (fun h => by have e := congrArg Mv.cm h; exact beq_iff_eq.2 e), Bool.eq_false_iff.2 n_cm]; simp only [Bool.false_and, Bool.and_false, Bool.true_and]
  by_cases n_fl : (a.fl == b.fl) = true
  rotate_left
  · rw [er_no n_fl (fun h => by have e := congrArg Mv.fl h; exact beq_iff_eq.2 e), Bool.eq_false_iff.2 n_fl]; simp only [Bool.false_and, Bool.and_false, Bool.true_and]
  by_cases n_ba : (a.ba == b.ba) = true
  rotate_left
  · rw [er_no n_ba (fun h => by have e := congrArg Mv.ba h; exact beq_iff_eq.2 e), Bool.eq_false_iff.2 n_ba]; simp only [Bool.false_and, Bool.and_false, Bool.true_and]
  by_cases n_ac : (a.ac == b.ac) = true
  rotate_left
  · rw [er_no n_ac (fun h => by have e := congrArg Mv.ac h; exact beq_iff_eq.2 e), Bool.eq_false_iff.2 n_ac]; simp only [Bool.false_and, Bool.and_false, Bool.true_and]
  by_cases n_id : (((a.id.n == b.id.n) && (a.id.l == b.id.l)) && ((a.id.s == b.id.s) && ((a.id.d == b.id.d) && (((a.id.g0 == b.id.g0) && (a.id.i0 == b.id.i0)) && (((a.id.g1 == b.id.g1) && (a.id.i1 == b.id.i1)) && ((a.id.g2 == b.id.g2) && (a.id.i2 == b.id.i2))))))) = true
  rotate_left
  · rw [er_no n_id (fun h => by have e : a.id = b.id := congrArg Mv.id h; rw [i_eqd]; exact decide_eq_true e), Bool.eq_false_iff.2 n_id]; simp only [Bool.false_and, Bool.and_false, Bool.true_and]
  by_cases n_res : ((a.rc == b.rc) && (a.rv == b.rv)) = true
  rotate_left
  · rw [er_no n_res (fun h => by have e1 : a.rc = b.rc := congrArg Mv.rc h; have e2 : a.rv = b.rv := congrArg Mv.rv h; rw [Bool.and_eq_true]; exact ⟨beq_iff_eq.2 e1, (ba_eq _ _).2 e2⟩), Bool.eq_false_iff.2 n_res]; simp only [Bool.false_and, Bool.and_false, Bool.true_and]
  by_cases n_proc : ((a.pn == b.pn) && (a.pl == b.pl)) = true
  rotate_left
  · rw [er_no n_proc (fun h => by have e1 : a.pn = b.pn := congrArg Mv.pn h; have e2 : a.pl = b.pl := congrArg Mv.pl h; rw [Bool.and_eq_true]; exact ⟨beq_iff_eq.2 e1, beq_iff_eq.2 e2⟩), Bool.eq_false_iff.2 n_proc]; simp only [Bool.false_and, Bool.and_false, Bool.true_and]
  by_cases n_has : (a.has == b.has) = true
  rotate_left
  · rw [er_no n_has (fun h => by have e := congrArg Mv.has h; exact beq_iff_eq.2 e), Bool.eq_false_iff.2 n_has]; simp only [Bool.false_and, Bool.and_false, Bool.true_and]
  have e : a.er = b.er := by
    exact mv_ext ⟨beq_iff_eq.1 n_kd, beq_iff_eq.1 n_gr, beq_iff_eq.1 n_co, beq_iff_eq.1 n_nn, beq_iff_eq.1 n_fr, beq_iff_eq.1 n_cm, beq_iff_eq.1 n_fl, beq_iff_eq.1 n_ba, beq_iff_eq.1 n_ac, by rw [i_eqd] at n_id; exact of_decide_eq_true n_id, of_decide_eq_true n_ps, by rw [Bool.and_eq_true] at n_res; exact beq_iff_eq.1 n_res.1, by rw [Bool.and_eq_true] at n_res; exact (ba_eq _ _).1 n_res.2, by simp only [Bool.and_eq_true, beq_iff_eq] at n_v; exact n_v.1.1, by simp only [Bool.and_eq_true, beq_iff_eq] at n_v; exact n_v.1.2, by simp only [Bool.and_eq_true, decide_eq_true_eq] at n_v; exact n_v.2, by rw [Bool.and_eq_true] at n_proc; exact beq_iff_eq.1 n_proc.1, by rw [Bool.and_eq_true] at n_proc; exact beq_iff_eq.1 n_proc.2, by exact beq_iff_eq.1 n_has, of_decide_eq_true n_ms, of_decide_eq_true n_es, of_decide_eq_true n_ts⟩
  rw [decide_eq_true e, n_ts, n_kd, n_gr, n_co, n_nn, n_fr, n_cm, n_fl, n_ba, n_ac, n_id, n_res, n_proc, n_has]; rfl
def Mv.right (x : Mv) : Bool := decide (x.gr < 4) && x.fieldsP && decide (x = x.onlyP)
theorem c_mRight (x : Mg) (hi : MvIn x.er) : Ctr Tryz.prog 19 #[.agg x.row.toArray] (fun m => MgM m x) [] (fun _ : Unit => .bool x.er.right) (fun _ _ => True) (fun _ => []) := by
  refine Ctr.mk fun w F m C hx => x_mRight _ _ _ _ _ _ _ _ _ _ _ _ _ _ _ _ _ _ _ _ _ _ _ _ _ _ _ _ _ _ _ _ _ _ _ _ _ _ _ _ _ w _ ⟨[], facts_nil _ _, ?_⟩
  by_cases hg : decide (x.gr < 4) = true
  rotate_left
  · rw [if_neg (by rw [Bool.eq_false_iff.2 hg]; decide)]
    refine ⟨[], facts_nil _ _, (fun _ h => h), fun w4 h4 => Ctr.ret () ?_ trivial (C.hid0 h4)⟩
    have : decide (x.er.gr < 4) = false := Bool.eq_false_iff.2 hg
    rw [Mv.right, this]; rfl
  rw [if_pos (by rw [hg]; rfl)]
  intro w5 L6 h5 g5
  have hg' : decide (x.er.gr < 4) = true := hg
  refine (c_mFields x hi).call (As := []) (C.hidL h5 g5) hx fun _ m1 w8 hk hm _ C => ⟨_, rfl, hk, facts_nil _ _, [], facts_nil _ _, (fun _ h => h), ?_⟩
  by_cases hf : x.er.fieldsP = true
  rotate_left
  · rw [if_neg (by rw [Bool.eq_false_iff.2 hf]; decide)]
    refine Ctr.ret () ?_ trivial C
    rw [Mv.right, hg', Bool.eq_false_iff.2 hf]; rfl
  rw [if_pos (by rw [hf]; rfl)]
  refine (c_mOnly x).call (As := []) C (hx.mono hm) fun y m2 w13 hk hm2 hy C => ⟨_, _, _, _, _, _, _, _, _, _, _, _, _, _, _, _, _, _, _, _, _, _, _, _, _, _, _, _, _, _, _, _, _, _, _, _, _, _, _, _, _, rfl, hk, facts_nil _ _, ?_⟩
  refine (c_mSame x y).call (As := []) C ⟨(hx.mono hm).mono hm2, hy.1⟩ fun _ m3 w56 hk hm3 _ C => ⟨_, rfl, hk, facts_nil _ _, Ctr.ret () ?_ trivial C⟩
  rw [Mv.right, hg', hf, hy.2]; rfl
/-- what is asked of a message's memory ahead of Light -/
structure MgM0 (m : Mem) (x : Mg) : Prop where
  p : MSrc m 5 (slV x.pq x.ps.length) x.ps.length (x.ps.flatMap Pt.row)
  v : MSrc m 2 (slV x.vq x.vm.length) x.vm.length (x.vm.flatMap Pr.row)
  mm : MSrc m 2 (slV x.mq x.ms.length) x.ms.length (x.ms.flatMap Pr.row)
  e : MSrc m 18 (slV x.eq x.es.length) x.es.length (x.es.flatMap En.row) ∧ ∀ e ∈ x.es, EnM0 m e
  t : MSrc m 18 (slV x.tq x.ts.length) x.ts.length (x.ts.flatMap En.row) ∧ ∀ e ∈ x.ts, EnM0 m e
  pl : x.ps.length ≤ 2932031007402
theorem MgM0.mono {m m' : Mem} {x : Mg} (h : MgM0 m x) (hm : m.le m') : MgM0 m' x := ⟨h.p.mono hm, h.v.mono hm, h.mm.mono hm, ⟨h.e.1.mono hm, fun e he => (h.e.2 e he).mono hm⟩, ⟨h.t.1.mono hm, fun e he => (h.t.2 e he).mono hm⟩, h.pl⟩
def ltE (l : List En) : Prop := l.length ≤ 150 ∧ ∀ e ∈ l, e.ps.length < 200 ∧ e.ws.length ≤ 300
structure Mg.lt (x : Mg) : Prop where
  v : x.vm.length ≤ 40
  m : x.ms.length ≤ 40
  rv : x.rv.size ≤ 2000
  e : ltE x.es
  t : ltE x.ts
theorem c_Light7 (x : Mg) : Ctr Tryz.prog 5 #[.agg x.row.toArray] (fun m => MgM0 m x) [] (fun b : Bool => .bool b) (fun b _ => b = true → x.lt) (fun _ => []) := by
  refine Ctr.mk fun w F m C hx => x_Light7 _ _ _ _ _ _ _ _ _ _ _ _ _ _ _ _ _ _ _ _ _ _ _ _ _ _ _ _ _ _ _ _ _ _ _ _ _ _ _ _ _ w _ fun w1 L2 h1 g1 => ?_
  refine (c_Light3 x.pq x.ps).call (As := []) (C.hidL h1 g1) hx.p fun b3 m1 w4 hk hm1 _ C => ⟨_, rfl, hk, ?_⟩
  by_cases hb : ((((b3 && decide (((x.rv.size : Nat) : Int) ≤ 2000)) && decide (((x.vm.length : Nat) : Int) ≤ 40)) && decide (((x.ms.length : Nat) : Int) ≤ 40))) = true
  rotate_left
  · rw [if_neg (by rw [Bool.eq_false_iff.2 hb]; decide)]
    exact Ctr.ret false rfl (fun h => by cases h) C
  rw [if_pos (by rw [hb]; rfl)]
  simp only [Bool.and_eq_true, decide_eq_true_eq] at hb
  refine (c_Light5 x.eq x.es).call (As := []) C (hx.mono hm1).e fun b4 m2 w7 hk hm2 h4 C => ⟨_, rfl, hk, ?_⟩
  cases b4 with
  | false =>
    rw [if_neg (by decide)]
    exact Ctr.ret false rfl (fun h => by cases h) C
  | true =>
    rw [if_pos (by decide)]
    refine (c_Light5 x.tq x.ts).call (As := []) C ((hx.mono hm1).mono hm2).t fun b5 m3 w10 hk hm3 h5 C => ⟨_, rfl, hk, ?_⟩
    refine Ctr.ret b5 (by cases b5 <;> rfl) (fun h => ⟨by omega, by omega, by omega, h4 rfl, h5 h⟩) C
end Go.Proofs
namespace Go.Proofs
open Go X RowKit
/-! ### the document's messages that may be -/
def fldS (k : Int) : List UInt8 :=
  if k = 0 then [103, 105, 102, 112]
  else if k = 1 then [105, 114, 118]
  else if k = 2 then [105, 99]
  else if k = 3 then [103, 110, 97, 107, 101]
  else if k = 4 then [103, 110, 97]
  else if k = 5 then [103, 110, 98]
  else if k = 6 then [103, 110, 98]
  else if k = 7 then [103, 110, 98]
  else if k = 8 then [103, 110, 98, 101, 104]
  else if k = 9 then [103, 110, 98, 109]
  else if k = 10 then [118, 101]
  else if k = 11 then [103, 115]
  else if k = 12 then [103, 115]
  else if k = 13 then [103, 115]
  else []
theorem fldS0 {k : Int} (h : k = 0) : fldS k = [103, 105, 102, 112] := by rw [fldS, if_pos h]
theorem fldS1 {k : Int} (h : k = 1) : fldS k = [105, 114, 118] := by rw [fldS, if_neg (by omega), if_pos h]
theorem fldS2 {k : Int} (h : k = 2) : fldS k = [105, 99] := by rw [fldS, if_neg (by omega), if_neg (by omega), if_pos h]
theorem fldS3 {k : Int} (h : k = 3) : fldS k = [103, 110, 97, 107, 101] := by rw [fldS, if_neg (by omega), if_neg (by omega), if_neg (by omega), if_pos h]
theorem fldS4 {k : Int} (h : k = 4) : fldS k = [103, 110, 97] := by rw [fldS, if_neg (by omega), if_neg (by omega), if_neg (by omega), if_neg (by omega), if_pos h]
theorem fldS5 {k : Int} (h : k = 5) : fldS k = [103, 110, 98] := by rw [fldS, if_neg (by omega), if_neg (by omega), if_neg (by omega), if_neg (by omega), if_neg (by omega), if_pos h]
theorem fldS6 {k : Int} (h : k = 6) : fldS k = [103, 110, 98] := by rw [fldS, if_neg (by omega), if_neg (by omega), if_neg (by omega), if_neg (by omega), if_neg (by omega), if_neg (by omega), if_pos h]
theorem fldS7 {k : Int} (h : k = 7) : fldS k = [103, 110, 98] := by rw [fldS, if_neg (by omega), if_neg (by omega), if_neg (by omega), if_neg (by omega), if_neg (by omega), if_neg (by omega), if_neg (by omega), if_pos h]
theorem fldS8 {k : Int} (h : k = 8) : fldS k = [103, 110, 98, 101, 104] := by rw [fldS, if_neg (by omega), if_neg (by omega), if_neg (by omega), if_neg (by omega), if_neg (by omega), if_neg (by omega), if_neg (by omega), if_neg (by omega), if_pos h]
theorem fldS9 {k : Int} (h : k = 9) : fldS k = [103, 110, 98, 109] := by rw [fldS, if_neg (by omega), if_neg (by omega), if_neg (by omega), if_neg (by omega), if_neg (by omega), if_neg (by omega), if_neg (by omega), if_neg (by omega), if_neg (by omega), if_pos h]
theorem fldS10 {k : Int} (h : k = 10) : fldS k = [118, 101] := by rw [fldS, if_neg (by omega), if_neg (by omega), if_neg (by omega), if_neg (by omega), if_neg (by omega), if_neg (by omega), if_neg (by omega), if_neg (by omega), if_neg (by omega), if_neg (by omega), if_pos h]
theorem fldS11 {k : Int} (h : k = 11) : fldS k = [103, 115] := by rw [fldS, if_neg (by omega), if_neg (by omega), if_neg (by omega), if_neg (by omega), if_neg (by omega), if_neg (by omega), if_neg (by omega), if_neg (by omega), if_neg (by omega), if_neg (by omega), if_neg (by omega), if_pos h]
theorem fldS12 {k : Int} (h : k = 12) : fldS k = [103, 115] := by rw [fldS, if_neg (by omega), if_neg (by omega), if_neg (by omega), if_neg (by omega), if_neg (by omega), if_neg (by omega), if_neg (by omega), if_neg (by omega), if_neg (by omega), if_neg (by omega), if_neg (by omega), if_neg (by omega), if_pos h]
theorem fldS13 {k : Int} (h : k = 13) : fldS k = [103, 115] := by rw [fldS, if_neg (by omega), if_neg (by omega), if_neg (by omega), if_neg (by omega), if_neg (by omega), if_neg (by omega), if_neg (by omega), if_neg (by omega), if_neg (by omega), if_neg (by omega), if_neg (by omega), if_neg (by omega), if_neg (by omega), if_pos h]
theorem fldSo {k : Int} (h : ¬ (0 ≤ k ∧ k ≤ 13)) : fldS k = [] := by rw [fldS, if_neg (by omega), if_neg (by omega), if_neg (by omega), if_neg (by omega), if_neg (by omega), if_neg (by omega), if_neg (by omega), if_neg (by omega), if_neg (by omega), if_neg (by omega), if_neg (by omega), if_neg (by omega), if_neg (by omega), if_neg (by omega)]
theorem ctx_bel0 {m0 : Mem} {w0 w : World} {L : List Nat} {m : Mem} {As : List Asn} (C : Ctx [] m0 w0 w L m As) : Bel w0.heap.size w0 w := hid_below C.hid (by simp) (Nat.le_refl _)
def letL (k : Int) (has : Bool) : List UInt8 := if k = 8 ∧ has = true then fldS k ++ [120, 109] else fldS k
def Mv.eg (x : Mv) : Int := if x.kd = 10 then x.vg else x.gr
def Mv.prt (x : Mv) : Bool := rightL x.ps && (match x.ps with | [] => false | p :: _ => p.g == x.gr) && decide ((x.ps.length : Int) + x.id.d ≤ 4)
def Mv.fldR (x : Mv) (c : Int) : Bool :=
  if c = 103 then decide (x.gr < 4)
  else if c = 105 then x.id.right
  else if c = 102 then decide (x.fl < x.id.s)
  else if c = 112 then x.prt
  else if c = 114 then x.resR
  else if c = 118 then vwOk x.vg x.vn x.vm
  else if c = 110 then decide (x.nn ≥ 1)
  else if c = 97 then decide (x.fr ≤ 400)
  else if c = 107 then decide (x.cm ≤ 400)
  else if c = 101 then (allE x.es x.eg && decide (x.fr + (x.es.length : Int) ≤ 400))
  else if c = 98 then decide (x.ba ≥ 1)
  else if c = 120 then decide (x.ac ≥ 1)
  else if c = 109 then (vwOk 0 1 x.ms && allE x.ts x.eg)
  else if c = 115 then prOk x.pn x.pl
  else true
theorem fR103 {x : Mv} {c : Int} (h : c = 103) : x.fldR c = decide (x.gr < 4) := by rw [Mv.fldR, if_pos h]
theorem fR105 {x : Mv} {c : Int} (h : c = 105) : x.fldR c = x.id.right := by rw [Mv.fldR, if_neg (by omega), if_pos h]
theorem fR102 {x : Mv} {c : Int} (h : c = 102) : x.fldR c = decide (x.fl < x.id.s) := by rw [Mv.fldR, if_neg (by omega), if_neg (by omega), if_pos h]
theorem fR112 {x : Mv} {c : Int} (h : c = 112) : x.fldR c = x.prt := by rw [Mv.fldR, if_neg (by omega), if_neg (by omega), if_neg (by omega), if_pos h]
theorem fR114 {x : Mv} {c : Int} (h : c = 114) : x.fldR c = x.resR := by rw [Mv.fldR, if_neg (by omega), if_neg (by omega), if_neg (by omega), if_neg (by omega), if_pos h]
theorem fR118 {x : Mv} {c : Int} (h : c = 118) : x.fldR c = vwOk x.vg x.vn x.vm := by rw [Mv.fldR, if_neg (by omega), if_neg (by omega), if_neg (by omega), if_neg (by omega), if_neg (by omega), if_pos h]
theorem fR110 {x : Mv} {c : Int} (h : c = 110) : x.fldR c = decide (x.nn ≥ 1) := by rw [Mv.fldR, if_neg (by omega), if_neg (by omega), if_neg (by omega), if_neg (by omega), if_neg (by omega), if_neg (by omega), if_pos h]
theorem fR97 {x : Mv} {c : Int} (h : c = 97) : x.fldR c = decide (x.fr ≤ 400) := by rw [Mv.fldR, if_neg (by omega), if_neg (by omega), if_neg (by omega), if_neg (by omega), if_neg (by omega), if_neg (by omega), if_neg (by omega), if_pos h]
theorem fR107 {x : Mv} {c : Int} (h : c = 107) : x.fldR c = decide (x.cm ≤ 400) := by rw [Mv.fldR, if_neg (by omega), if_neg (by omega), if_neg (by omega), if_neg (by omega), if_neg (by omega), if_neg (by omega), if_neg (by omega), if_neg (by omega), if_pos h]
theorem fR101 {x : Mv} {c : Int} (h : c = 101) : x.fldR c = (allE x.es x.eg && decide (x.fr + (x.es.length : Int) ≤ 400)) := by rw [Mv.fldR, if_neg (by omega), if_neg (by omega), if_neg (by omega), if_neg (by omega), if_neg (by omega), if_neg (by omega), if_neg (by omega), if_neg (by omega), if_neg (by omega), if_pos h]
theorem fR98 {x : Mv} {c : Int} (h : c = 98) : x.fldR c = decide (x.ba ≥ 1) := by rw [Mv.fldR, if_neg (by omega), if_neg (by omega), if_neg (by omega), if_neg (by omega), if_neg (by omega), if_neg (by omega), if_neg (by omega), if_neg (by omega), if_neg (by omega), if_neg (by omega), if_pos h]
theorem fR120 {x : Mv} {c : Int} (h : c = 120) : x.fldR c = decide (x.ac ≥ 1) := by rw [Mv.fldR, if_neg (by omega), if_neg (by omega), if_neg (by omega), if_neg (by omega), if_neg (by omega), if_neg (by omega), if_neg (by omega), if_neg (by omega), if_neg (by omega), if_neg (by omega), if_neg (by omega), if_pos h]
theorem fR109 {x : Mv} {c : Int} (h : c = 109) : x.fldR c = (vwOk 0 1 x.ms && allE x.ts x.eg) := by rw [Mv.fldR, if_neg (by omega), if_neg (by omega), if_neg (by omega), if_neg (by omega), if_neg (by omega), if_neg (by omega), if_neg (by omega), if_neg (by omega), if_neg (by omega), if_neg (by omega), if_neg (by omega), if_neg (by omega), if_pos h]
theorem fR115 {x : Mv} {c : Int} (h : c = 115) : x.fldR c = prOk x.pn x.pl := by rw [Mv.fldR, if_neg (by omega), if_neg (by omega), if_neg (by omega), if_neg (by omega), if_neg (by omega), if_neg (by omega), if_neg (by omega), if_neg (by omega), if_neg (by omega), if_neg (by omega), if_neg (by omega), if_neg (by omega), if_neg (by omega), if_pos h]
theorem fRo {x : Mv} {c : Int} (h : c ≠ 103 ∧ c ≠ 105 ∧ c ≠ 102 ∧ c ≠ 112 ∧ c ≠ 114 ∧ c ≠ 118 ∧ c ≠ 110 ∧ c ≠ 97 ∧ c ≠ 107 ∧ c ≠ 101 ∧ c ≠ 98 ∧ c ≠ 120 ∧ c ≠ 109 ∧ c ≠ 115) : x.fldR c = true := by rw [Mv.fldR, if_neg (by omega), if_neg (by omega), if_neg (by omega), if_neg (by omega), if_neg (by omega), if_neg (by omega), if_neg (by omega), if_neg (by omega), if_neg (by omega), if_neg (by omega), if_neg (by omega), if_neg (by omega), if_neg (by omega), if_neg (by omega)]
def Mg.setF (x o : Mg) (c : Int) : Mg :=
  if c = 103 then { o with gr := x.gr }
  else if c = 105 then { o with id := x.id }
  else if c = 102 then { o with fl := x.fl }
  else if c = 112 then { o with pq := x.pq, ps := x.ps }
  else if c = 114 then { o with rc := x.rc, rv := x.rv }
  else if c = 118 then { o with vg := x.vg, vn := x.vn, vq := x.vq, vm := x.vm }
  else if c = 99 then { o with co := x.co }
  else if c = 110 then { o with nn := x.nn }
  else if c = 97 then { o with fr := x.fr }
  else if c = 107 then { o with cm := x.cm }
  else if c = 101 then { o with eq := x.eq, es := x.es }
  else if c = 98 then { o with ba := x.ba }
  else if c = 104 then { o with has := x.has }
  else if c = 120 then { o with ac := x.ac }
  else if c = 109 then { o with mq := x.mq, ms := x.ms, tq := x.tq, ts := x.ts }
  else if c = 115 then { o with pn := x.pn, pl := x.pl }
  else o
def Mg.z (k : Int) : Mg := ⟨k, 0, 0, 0, 0, 0, 0, 0, 0, I.zero, (none, 0), [], 0, ByteArray.mk #[], 0, 0, (none, 0), [], 0, 0, false, (none, 0), [], (none, 0), [], (none, 0), []⟩
end Go.Proofs
namespace Go.Proofs
open Go X RowKit
def Mv.rightR (x : Mv) : Bool := decide (x.kd ≤ 13) && (letL x.kd x.has).all (fun c => x.fldR ((c.toNat : Nat) : Int)) && decide (x = x.onlyP)
/-! ### the two agree -/
theorem allE_and (l : List Ev) (g : Int) : (allE l g && decide ((l.length : Int) ≤ 400)) = allE l g := by
  rw [allE]
  by_cases h : l.length ≤ 400
  · have : ((l.length : Nat) : Int) ≤ 400 := by omega
    rw [decide_eq_true this, Bool.and_true]
  · rw [decide_eq_false h]; rfl
theorem ge1 (n : Int) : decide (n ≥ 1) = decide (n > 0) := by
  rw [Bool.eq_iff_iff]; simp only [decide_eq_true_eq]; omega
theorem rightR_eq (x : Mv) (hk0 : 0 ≤ x.kd) : x.rightR = x.right := by
  by_cases hE : x = x.onlyP
  rotate_left
  · rw [Mv.rightR, Mv.right, decide_eq_false hE, Bool.and_false, Bool.and_false]
  rw [Mv.rightR, Mv.right, decide_eq_true hE, Bool.and_true, Bool.and_true]
  by_cases h13 : x.kd ≤ 13
  rotate_left
  · rw [decide_eq_false h13, fPo (by omega), Bool.and_false]; rfl
  rw [decide_eq_true h13, Bool.true_and]
  obtain hk | hk | hk | hk | hk | hk | hk | hk | hk | hk | hk | hk | hk | hk : x.kd = 0 ∨ x.kd = 1 ∨ x.kd = 2 ∨ x.kd = 3 ∨ x.kd = 4 ∨ x.kd = 5 ∨ x.kd = 6 ∨ x.kd = 7 ∨ x.kd = 8 ∨ x.kd = 9 ∨ x.kd = 10 ∨ x.kd = 11 ∨ x.kd = 12 ∨ x.kd = 13 := by omega
  · rw [hk, letL, if_neg (fun h => by cases h.1), fldS0 rfl]
    simp only [List.all_cons, List.all_nil, List.cons_append, List.nil_append]
    rw [fR103 (show (((103 : UInt8).toNat : Nat) : Int) = 103 from rfl), fR105 (show (((105 : UInt8).toNat : Nat) : Int) = 105 from rfl), fR102 (show (((102 : UInt8).toNat : Nat) : Int) = 102 from rfl), fR112 (show (((112 : UInt8).toNat : Nat) : Int) = 112 from rfl), fP0 hk]
    rw [Mv.askM, Mv.prt]; simp only [Bool.and_assoc, Bool.and_true] <;> rfl
  · rw [hk, letL, if_neg (fun h => by cases h.1), fldS1 rfl]
    simp only [List.all_cons, List.all_nil, List.cons_append, List.nil_append]
    rw [fR105 (show (((105 : UInt8).toNat : Nat) : Int) = 105 from rfl), fR114 (show (((114 : UInt8).toNat : Nat) : Int) = 114 from rfl), fR118 (show (((118 : UInt8).toNat : Nat) : Int) = 118 from rfl), fP1 hk]
    have z_gr : x.gr = 0 := by have h := congrArg Mv.gr hE; rw [oP1 hk] at h; exact h
    rw [decide_eq_true (show x.gr < 4 by omega)]; simp only [Bool.and_assoc, Bool.and_true, Bool.true_and]
  · rw [hk, letL, if_neg (fun h => by cases h.1), fldS2 rfl]
    simp only [List.all_cons, List.all_nil, List.cons_append, List.nil_append]
    rw [fR105 (show (((105 : UInt8).toNat : Nat) : Int) = 105 from rfl), fRo (x := x) (c := (((99 : UInt8).toNat : Nat) : Int)) (by decide), fP2 hk]
    have z_gr : x.gr = 0 := by have h := congrArg Mv.gr hE; rw [oP2 hk] at h; exact h
    rw [decide_eq_true (show x.gr < 4 by omega)]; simp only [Bool.and_assoc, Bool.and_true, Bool.true_and]
  · rw [hk, letL, if_neg (fun h => by cases h.1), fldS3 rfl]
    simp only [List.all_cons, List.all_nil, List.cons_append, List.nil_append]
    rw [fR103 (show (((103 : UInt8).toNat : Nat) : Int) = 103 from rfl), fR110 (show (((110 : UInt8).toNat : Nat) : Int) = 110 from rfl), fR97 (show (((97 : UInt8).toNat : Nat) : Int) = 97 from rfl), fR107 (show (((107 : UInt8).toNat : Nat) : Int) = 107 from rfl), fR101 (show (((101 : UInt8).toNat : Nat) : Int) = 101 from rfl), fP3 hk]
    rw [show x.eg = x.gr by rw [Mv.eg, if_neg (by omega)]]
    rw [ge1, Bool.and_comm (allE x.es x.gr)]; simp only [Bool.and_assoc, Bool.and_true]
  · rw [hk, letL, if_neg (fun h => by cases h.1), fldS4 rfl]
    simp only [List.all_cons, List.all_nil, List.cons_append, List.nil_append]
    rw [fR103 (show (((103 : UInt8).toNat : Nat) : Int) = 103 from rfl), fR110 (show (((110 : UInt8).toNat : Nat) : Int) = 110 from rfl), fR97 (show (((97 : UInt8).toNat : Nat) : Int) = 97 from rfl), fP4 hk]
    rw [ge1]; simp only [Bool.and_assoc, Bool.and_true]
  · rw [hk, letL, if_neg (fun h => by cases h.1), fldS5 rfl]
    simp only [List.all_cons, List.all_nil, List.cons_append, List.nil_append]
    rw [fR103 (show (((103 : UInt8).toNat : Nat) : Int) = 103 from rfl), fR110 (show (((110 : UInt8).toNat : Nat) : Int) = 110 from rfl), fR98 (show (((98 : UInt8).toNat : Nat) : Int) = 98 from rfl), fP5 hk]
    rw [ge1, ge1]; simp only [Bool.and_assoc, Bool.and_true]
  · rw [hk, letL, if_neg (fun h => by cases h.1), fldS6 rfl]
    simp only [List.all_cons, List.all_nil, List.cons_append, List.nil_append]
    rw [fR103 (show (((103 : UInt8).toNat : Nat) : Int) = 103 from rfl), fR110 (show (((110 : UInt8).toNat : Nat) : Int) = 110 from rfl), fR98 (show (((98 : UInt8).toNat : Nat) : Int) = 98 from rfl), fP6 hk]
    rw [ge1, ge1]; simp only [Bool.and_assoc, Bool.and_true]
  · rw [hk, letL, if_neg (fun h => by cases h.1), fldS7 rfl]
    simp only [List.all_cons, List.all_nil, List.cons_append, List.nil_append]
    rw [fR103 (show (((103 : UInt8).toNat : Nat) : Int) = 103 from rfl), fR110 (show (((110 : UInt8).toNat : Nat) : Int) = 110 from rfl), fR98 (show (((98 : UInt8).toNat : Nat) : Int) = 98 from rfl), fP7 hk]
    rw [ge1, ge1]; simp only [Bool.and_assoc, Bool.and_true]
  · have z_fr : x.fr = 0 := by
      have h := congrArg Mv.fr hE
      rw [oP8 hk] at h
      by_cases hb : x.has = true
      · rw [if_pos hb] at h; exact h
      · rw [if_neg hb] at h; exact h
    have hg : x.eg = x.gr := by rw [Mv.eg, if_neg (by omega)]
    by_cases hb : x.has = true
    · rw [hk, letL, if_pos ⟨rfl, hb⟩, fldS8 rfl]
      simp only [List.all_cons, List.all_nil, List.cons_append, List.nil_append]
      rw [fR103 (show (((103 : UInt8).toNat : Nat) : Int) = 103 from rfl), fR110 (show (((110 : UInt8).toNat : Nat) : Int) = 110 from rfl), fR98 (show (((98 : UInt8).toNat : Nat) : Int) = 98 from rfl), fR101 (show (((101 : UInt8).toNat : Nat) : Int) = 101 from rfl), fRo (x := x) (c := (((104 : UInt8).toNat : Nat) : Int)) (by decide), fR120 (show (((120 : UInt8).toNat : Nat) : Int) = 120 from rfl), fR109 (show (((109 : UInt8).toNat : Nat) : Int) = 109 from rfl), fP8 hk, hg, z_fr, Int.zero_add, allE_and, ge1, ge1, ge1, hb, Mv.val]
      simp only [Bool.and_assoc, Bool.and_true, Bool.true_and, Bool.not_true, Bool.false_or]
    · rw [hk, letL, if_neg (fun h => hb h.2), fldS8 rfl]
      simp only [List.all_cons, List.all_nil, List.cons_append, List.nil_append]
      rw [fR103 (show (((103 : UInt8).toNat : Nat) : Int) = 103 from rfl), fR110 (show (((110 : UInt8).toNat : Nat) : Int) = 110 from rfl), fR98 (show (((98 : UInt8).toNat : Nat) : Int) = 98 from rfl), fR101 (show (((101 : UInt8).toNat : Nat) : Int) = 101 from rfl), fRo (x := x) (c := (((104 : UInt8).toNat : Nat) : Int)) (by decide), fP8 hk, hg, z_fr, Int.zero_add, allE_and, ge1, ge1, Bool.eq_false_iff.2 hb]
      simp only [Bool.and_assoc, Bool.and_true, Bool.true_and, Bool.not_false, Bool.true_or]
  · rw [hk, letL, if_neg (fun h => by cases h.1), fldS9 rfl]
    simp only [List.all_cons, List.all_nil, List.cons_append, List.nil_append]
    rw [fR103 (show (((103 : UInt8).toNat : Nat) : Int) = 103 from rfl), fR110 (show (((110 : UInt8).toNat : Nat) : Int) = 110 from rfl), fR98 (show (((98 : UInt8).toNat : Nat) : Int) = 98 from rfl), fR109 (show (((109 : UInt8).toNat : Nat) : Int) = 109 from rfl), fP9 hk]
    rw [show x.eg = x.gr by rw [Mv.eg, if_neg (by omega)]]
    rw [ge1, ge1, Mv.val]; simp only [Bool.and_assoc, Bool.and_true]
  · rw [hk, letL, if_neg (fun h => by cases h.1), fldS10 rfl]
    simp only [List.all_cons, List.all_nil, List.cons_append, List.nil_append]
    rw [fR118 (show (((118 : UInt8).toNat : Nat) : Int) = 118 from rfl), fR101 (show (((101 : UInt8).toNat : Nat) : Int) = 101 from rfl), fP10 hk]
    rw [show x.eg = x.vg by rw [Mv.eg, if_pos hk]]
    have z_gr : x.gr = 0 := by have h := congrArg Mv.gr hE; rw [oP10 hk] at h; exact h
    have z_fr : x.fr = 0 := by have h := congrArg Mv.fr hE; rw [oP10 hk] at h; exact h
    rw [decide_eq_true (show x.gr < 4 by omega), z_fr, Int.zero_add, allE_and]; simp only [Bool.and_assoc, Bool.and_true, Bool.true_and]
  · rw [hk, letL, if_neg (fun h => by cases h.1), fldS11 rfl]
    simp only [List.all_cons, List.all_nil, List.cons_append, List.nil_append]
    rw [fR103 (show (((103 : UInt8).toNat : Nat) : Int) = 103 from rfl), fR115 (show (((115 : UInt8).toNat : Nat) : Int) = 115 from rfl), fP11 hk]
    simp only [Bool.and_assoc, Bool.and_true]
  · rw [hk, letL, if_neg (fun h => by cases h.1), fldS12 rfl]
    simp only [List.all_cons, List.all_nil, List.cons_append, List.nil_append]
    rw [fR103 (show (((103 : UInt8).toNat : Nat) : Int) = 103 from rfl), fR115 (show (((115 : UInt8).toNat : Nat) : Int) = 115 from rfl), fP12 hk]
    simp only [Bool.and_assoc, Bool.and_true]
  · rw [hk, letL, if_neg (fun h => by cases h.1), fldS13 rfl]
    simp only [List.all_cons, List.all_nil, List.cons_append, List.nil_append]
    rw [fR103 (show (((103 : UInt8).toNat : Nat) : Int) = 103 from rfl), fR115 (show (((115 : UInt8).toNat : Nat) : Int) = 115 from rfl), fP13 hk]
    simp only [Bool.and_assoc, Bool.and_true]
end Go.Proofs
