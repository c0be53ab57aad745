import Derived.Test.YtjabbpcfinjofaaU23a
set_option linter.unusedVariables false
set_option linter.unusedSimpArgs false
set_option maxRecDepth 10000
namespace Go.Proofs
open Go X RowKit
/-- an identifier -/
structure I where (n l s d g0 i0 g1 i1 g2 i2 : Int)
@[reducible] def I.V (x : I) : Value := .agg #[.int .u8 x.n, .int .u16 x.l, .int .u32 x.s, .int .u8 x.d, .int .u8 x.g0, .int .u8 x.i0, .int .u8 x.g1, .int .u8 x.i1, .int .u8 x.g2, .int .u8 x.i2]
def I.zero : I := ⟨0, 0, 0, 0, 0, 0, 0, 0, 0, 0⟩
structure I.In (x : I) : Prop where
  n : 0 ≤ x.n ∧ x.n < 256
  l : 0 ≤ x.l ∧ x.l < 65536
  s : 0 ≤ x.s ∧ x.s < 4294967296
  d : 0 ≤ x.d ∧ x.d < 256
  g0 : 0 ≤ x.g0 ∧ x.g0 < 256
  i0 : 0 ≤ x.i0 ∧ x.i0 < 256
  g1 : 0 ≤ x.g1 ∧ x.g1 < 256
  i1 : 0 ≤ x.i1 ∧ x.i1 < 256
  g2 : 0 ≤ x.g2 ∧ x.g2 < 256
  i2 : 0 ≤ x.i2 ∧ x.i2 < 256
@[reducible] def PV (n l : Int) : Value := .agg #[.int .u8 n, .int .u16 l]
@[reducible] def I.row (x : I) : List Value := [.int .u8 x.n, .int .u16 x.l, .int .u32 x.s, .int .u8 x.d, .int .u8 x.g0, .int .u8 x.i0, .int .u8 x.g1, .int .u8 x.i1, .int .u8 x.g2, .int .u8 x.i2]
theorem I.ext' {a b : I} (h : a.n = b.n ∧ a.l = b.l ∧ a.s = b.s ∧ a.d = b.d ∧ a.g0 = b.g0 ∧ a.i0 = b.i0 ∧ a.g1 = b.g1 ∧ a.i1 = b.i1 ∧ a.g2 = b.g2 ∧ a.i2 = b.i2) : a = b := by cases a; cases b; simp_all
instance : DecidableEq I := fun a b => decidable_of_iff (a.n = b.n ∧ a.l = b.l ∧ a.s = b.s ∧ a.d = b.d ∧ a.g0 = b.g0 ∧ a.i0 = b.i0 ∧ a.g1 = b.g1 ∧ a.i1 = b.i1 ∧ a.g2 = b.g2 ∧ a.i2 = b.i2) (by cases a; cases b; simp)
theorem i_eqd (a d : I) : (((a.n == d.n) && (a.l == d.l)) && ((a.s == d.s) && ((a.d == d.d) && (((a.g0 == d.g0) && (a.i0 == d.i0)) && (((a.g1 == d.g1) && (a.i1 == d.i1)) && ((a.g2 == d.g2) && (a.i2 == d.i2))))))) = decide (a = d) := by
  rw [Bool.eq_iff_iff, decide_eq_true_eq]
  simp only [Bool.and_eq_true, beq_iff_eq]
  constructor
  · rintro ⟨⟨h1, h2⟩, h3, h4, ⟨h5, h6⟩, ⟨h7, h8⟩, h9, h10⟩
    exact I.ext' ⟨h1, h2, h3, h4, h5, h6, h7, h8, h9, h10⟩
  · rintro rfl; simp
theorem c_Proc (n l : Int) : Gives Try.prog 60 #[PV n l] (PV n l) := fun w => x_gemotlaw02_Proc n l w _ fun w1 h1 => ⟨rfl, hid_below h1 (by simp) (Nat.le_refl _)⟩
theorem c_ID (x : I) : Gives Try.prog 55 #[x.V] x.V := by
  intro w
  refine x_gemotlaw02_ID _ _ _ _ _ _ _ _ _ _ w _ ⟨[], facts_nil _ _, ?_, ?_⟩
  all_goals
    intro w2 L h1 h2
    have A := at_start h1 h2
    refine (c_Proc x.n x.l).call fun w5 h5 => ⟨_, _, rfl, at_kept A h5, facts_nil _ _, [], facts_nil _ _, [], facts_nil _ _, [], facts_nil _ _, fun w11 h11 => ⟨rfl, ?_⟩⟩
    exact at_end (at_call A (Nat.le_refl _) h5) (Nat.le_refl _) h11
theorem c_Res (c : Int) (s : ByteArray) : Gives Try.prog 58 #[.agg #[.int .u8 c, .string s]] (.agg #[.int .u8 c, .string s]) := fun w => x_gemotlaw03_Res c s w _ fun w1 h1 => ⟨rfl, hid_below h1 (by simp) (Nat.le_refl _)⟩
/-! ### entries -/
structure En where (kd : Int) (id : I) (fl : Int) (pq : Sl) (ps : List Pt) (rc : Int) (rv : ByteArray) (wq : Sl) (ws : List Wr) (vn vl : Int)
@[reducible] def En.row (e : En) : List Value := [.int .u8 e.kd, .int .u8 e.id.n, .int .u16 e.id.l, .int .u32 e.id.s, .int .u8 e.id.d, .int .u8 e.id.g0, .int .u8 e.id.i0, .int .u8 e.id.g1, .int .u8 e.id.i1, .int .u8 e.id.g2, .int .u8 e.id.i2, .int .u32 e.fl, slV e.pq e.ps.length, .int .u8 e.rc, .string e.rv, slV e.wq e.ws.length, .int .u8 e.vn, .int .u16 e.vl]
theorem en_len (e : En) : e.row.length = 18 := rfl
/-- an entry, wherever its lists lie -/
structure Ev where (kd : Int) (id : I) (fl : Int) (ps : List Pt) (rc : Int) (rv : ByteArray) (ws : List Wr) (vn vl : Int)
def En.er (e : En) : Ev := ⟨e.kd, e.id, e.fl, e.ps, e.rc, e.rv, e.ws, e.vn, e.vl⟩
theorem ev_ext {a b : Ev} (h : a.kd = b.kd ∧ a.id = b.id ∧ a.fl = b.fl ∧ a.ps = b.ps ∧ a.rc = b.rc ∧ a.rv = b.rv ∧ a.ws = b.ws ∧ a.vn = b.vn ∧ a.vl = b.vl) : a = b := by cases a; cases b; simp_all
instance : DecidableEq Ev := fun a b => decidable_of_iff (a.kd = b.kd ∧ a.id = b.id ∧ a.fl = b.fl ∧ a.ps = b.ps ∧ a.rc = b.rc ∧ a.rv = b.rv ∧ a.ws = b.ws ∧ a.vn = b.vn ∧ a.vl = b.vl) ⟨ev_ext, fun h => by subst h; exact ⟨rfl, rfl, rfl, rfl, rfl, rfl, rfl, rfl, rfl⟩⟩
structure EnM (m : Mem) (e : En) : Prop where
  p : MSrc m 5 (slV e.pq e.ps.length) e.ps.length (e.ps.flatMap Pt.row)
  w : MSrc m 3 (slV e.wq e.ws.length) e.ws.length (e.ws.flatMap Wr.row)
  pl : e.ps.length ≤ 1000000
  wl : e.ws.length ≤ 1000000
theorem EnM.mono {m m' : Mem} {e : En} (h : EnM m e) (hm : m.le m') : EnM m' e := ⟨h.p.mono hm, h.w.mono hm, h.pl, h.wl⟩
theorem c_OwnE (e : En) : Ctr Try.prog 29 #[.agg e.row.toArray] (fun m => EnM m e) [] (fun f : En => .agg f.row.toArray) (fun f m => EnM m f ∧ f.er = e.er) (fun _ => []) := by
  refine Ctr.mk fun w F m C he => x_OwnE _ _ _ _ _ _ _ _ _ _ _ _ _ _ _ _ _ _ _ _ _ _ w _ ⟨[], facts_nil _ _, fun w2 L3 h2 g2 => ?_⟩
  refine (C.hidL h2 g2).gives (c_ID e.id) fun w5 k5 C => ⟨_, _, _, _, _, _, _, _, _, _, rfl, k5, facts_nil _ _, ?_⟩
  refine (c_Parts e.pq e.ps (by have := he.pl; omega)).call (As := []) C he.p fun p m1 w17 hk hm1 hp C => ⟨_, _, _, rfl, hk, facts_nil _ _, ?_⟩
  refine C.gives (c_Res e.rc e.rv) fun w22 k22 C => ⟨_, _, rfl, k22, facts_nil _ _, ?_⟩
  refine (c_OwnW e.wq e.ws (by have := he.wl; omega)).call (As := []) C (he.w.mono hm1) fun q m2 w26 hk hm2 hq C => ⟨_, _, _, rfl, hk, facts_nil _ _, ?_⟩
  refine C.gives (c_Proc e.vn e.vl) fun w31 k31 C => ⟨_, _, rfl, k31, facts_nil _ _, fun w34 h34 => ?_⟩
  exact Ctr.ret (m' := m2) (L := []) { e with pq := p, wq := q } rfl ⟨⟨hp.mono hm2, hq, he.pl, he.wl⟩, rfl⟩ (C.hid0 h34)
theorem c_pSame (q q' : Sl) (l l' : List Pt) (hb : l.length ≤ 140737488355328) : Ctr Try.prog 71 #[slV q l.length, slV q' l'.length] (fun m => MSrc m 5 (slV q l.length) l.length (l.flatMap Pt.row) ∧ MSrc m 5 (slV q' l'.length) l'.length (l'.flatMap Pt.row)) [] (fun _ : Unit => .bool (decide (l = l'))) (fun _ _ => True) (fun _ => []) := by
  refine Ctr.mk fun w F m C hp => x_pSame _ _ _ _ _ _ w _ ?_
  exact (c_EqualP q q' l l' hb).call (As := []) C hp fun _ m1 w2 hk hm _ C => ⟨_, rfl, hk.size, Ctr.ret () rfl trivial C⟩
theorem ev_eq (a b : En) : (decide (a.er = b.er)) = (((a.kd == b.kd) && decide (a.id = b.id)) && (a.fl == b.fl) && decide (a.ps = b.ps) && ((a.rc == b.rc) && (a.rv == b.rv)) && decide (a.ws = b.ws) && ((a.vn == b.vn) && (a.vl == b.vl))) := by
  rw [Bool.eq_iff_iff, decide_eq_true_eq]
  simp only [Bool.and_eq_true, beq_iff_eq, ba_eq, decide_eq_true_eq]
  constructor
  · intro h
    have h' := h
    simp only [En.er, Ev.mk.injEq] at h'
    obtain ⟨h1, h2, h3, h4, h5, h6, h7, h8, h9⟩ := h'
    exact ⟨⟨⟨⟨⟨⟨h1, h2⟩, h3⟩, h4⟩, h5, h6⟩, h7⟩, h8, h9⟩
  · rintro ⟨⟨⟨⟨⟨⟨h1, h2⟩, h3⟩, h4⟩, h5, h6⟩, h7⟩, h8, h9⟩
    exact ev_ext ⟨h1, h2, h3, h4, h5, h6, h7, h8, h9⟩
theorem c_eSame (a b : En) : Ctr Try.prog 52 #[.agg a.row.toArray, .agg b.row.toArray] (fun m => EnM m a ∧ EnM m b) [] (fun _ : Unit => .bool (decide (a.er = b.er))) (fun _ _ => True) (fun _ => []) := by
  refine Ctr.mk fun w F m C hp => x_eSame _ _ _ _ _ _ _ _ _ _ _ _ _ _ _ _ _ _ _ _ _ _ _ _ _ _ _ _ _ _ _ _ _ _ _ _ _ _ _ _ _ _ _ _ w _ ?_
  obtain ⟨ha, hb⟩ := hp
  rw [ev_eq, i_eqd]
  by_cases h1 : ((a.kd == b.kd) && decide (a.id = b.id) && (a.fl == b.fl)) = true
  rotate_left
  · have h1' : ((a.kd == b.kd) && decide (a.id = b.id) && (a.fl == b.fl)) = false := by simpa using h1
    rw [if_neg (by rw [h1']; decide)]
    intro w1 h1w
    exact Ctr.ret () (by rw [h1']; simp) trivial (C.hid0 h1w)
  rw [if_pos (by rw [h1]; decide)]
  intro w2 L3 h2 g2
  refine (c_pSame a.pq b.pq a.ps b.ps (by have := ha.pl; omega)).call (As := []) (C.hidL h2 g2) ⟨ha.p, hb.p⟩ fun _ m1 w5 hk hm1 _ C => ⟨_, rfl, hk, ?_⟩
  by_cases h3 : ((true && decide (a.ps = b.ps)) && ((a.rc == b.rc) && (a.rv == b.rv))) = true
  rotate_left
  · have h3' : ((true && decide (a.ps = b.ps)) && ((a.rc == b.rc) && (a.rv == b.rv))) = false := by simpa using h3
    rw [if_neg (by rw [h3']; decide)]
    rw [Bool.true_and] at h3'
    exact Ctr.ret () (by rw [h1, Bool.true_and, h3']; simp) trivial C
  rw [if_pos (by rw [h3]; decide)]
  refine (c_EqualW a.wq b.wq a.ws b.ws (by have := ha.wl; omega)).call (As := []) C ⟨ha.w.mono hm1, hb.w.mono hm1⟩ fun _ m2 w8 hk hm2 _ C => ⟨_, rfl, hk, ?_⟩
  exact Ctr.ret () (by rw [h1, h3]) trivial C
theorem c_r5Same (a b : En) : Ctr Try.prog 11 #[.agg a.row.toArray, .agg b.row.toArray] (fun m => EnM m a ∧ EnM m b) [] (fun _ : Unit => .bool (decide (a.er = b.er))) (fun _ _ => True) (fun _ => []) := by
  refine Ctr.mk fun w F m C hp => x_r5Same _ _ _ _ _ _ _ _ _ _ _ _ _ _ _ _ _ _ _ _ _ _ _ _ _ _ _ _ _ _ _ _ _ _ _ _ _ _ _ _ _ _ _ _ w _ ?_
  obtain ⟨ha, hb⟩ := hp
  rw [ev_eq, i_eqd]
  by_cases h1 : ((a.kd == b.kd) && decide (a.id = b.id) && (a.fl == b.fl)) = true
  rotate_left
  · have h1' : ((a.kd == b.kd) && decide (a.id = b.id) && (a.fl == b.fl)) = false := by simpa using h1
    rw [if_neg (by rw [h1']; decide)]
    intro w1 h1w
    exact Ctr.ret () (by rw [h1']; simp) trivial (C.hid0 h1w)
  rw [if_pos (by rw [h1]; decide)]
  intro w2 L3 h2 g2
  refine (c_r3Same a.pq b.pq a.ps b.ps (by have := ha.pl; omega)).call (As := []) (C.hidL h2 g2) ⟨ha.p, hb.p⟩ fun _ m1 w5 hk hm1 _ C => ⟨_, rfl, hk, ?_⟩
  by_cases h3 : ((true && decide (a.ps = b.ps)) && ((a.rc == b.rc) && (a.rv == b.rv))) = true
  rotate_left
  · have h3' : ((true && decide (a.ps = b.ps)) && ((a.rc == b.rc) && (a.rv == b.rv))) = false := by simpa using h3
    rw [if_neg (by rw [h3']; decide)]
    rw [Bool.true_and] at h3'
    exact Ctr.ret () (by rw [h1, Bool.true_and, h3']; simp) trivial C
  rw [if_pos (by rw [h3]; decide)]
  refine (c_r4Same a.wq b.wq a.ws b.ws (by have := ha.wl; omega)).call (As := []) C ⟨ha.w.mono hm1, hb.w.mono hm1⟩ fun _ m2 w8 hk hm2 _ C => ⟨_, rfl, hk, ?_⟩
  exact Ctr.ret () (by rw [h1, h3]) trivial C
end Go.Proofs
