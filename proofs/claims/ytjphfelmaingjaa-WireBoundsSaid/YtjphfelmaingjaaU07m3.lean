import Derived.Test.YtjphfelmaingjaaU07m2
import Derived.Test.YtjphfelmaingjaaV07m2
import Derived.Test.YtjphfelmaingjaaV07m3
set_option linter.unusedVariables false
set_option linter.unusedSimpArgs false
set_option maxRecDepth 10000
namespace Go.Proofs
open Go X RowKit
/-! ### messages -/
structure Mg where (kd gr co nn fr cm fl ba ac : Int) (id : I) (pq : Sl) (ps : List Pt) (rc : Int) (rv : ByteArray) (vg vn : Int) (vq : Sl) (vm : List Pr) (pn pl : Int) (has : Bool) (mq : Sl) (ms : List Pr) (eq : Sl) (es : List En) (tq : Sl) (ts : List En)
@[reducible] def Mg.row (x : Mg) : List Value := [.int .u8 x.kd, .int .u8 x.gr, .int .u8 x.co, .int .u32 x.nn, .int .u32 x.fr, .int .u32 x.cm, .int .u32 x.fl, .int .u64 x.ba, .int .u64 x.ac, .int .u8 x.id.n, .int .u16 x.id.l, .int .u32 x.id.s, .int .u8 x.id.d, .int .u8 x.id.g0, .int .u8 x.id.i0, .int .u8 x.id.g1, .int .u8 x.id.i1, .int .u8 x.id.g2, .int .u8 x.id.i2, slV x.pq x.ps.length, .int .u8 x.rc, .string x.rv, .int .u8 x.vg, .int .u32 x.vn, slV x.vq x.vm.length, .int .u8 x.pn, .int .u16 x.pl, .bool x.has, slV x.mq x.ms.length, slV x.eq x.es.length, slV x.tq x.ts.length]
theorem mg_len (x : Mg) : x.row.length = 31 := rfl
/-- a message, wherever its lists lie -/
structure Mv where (kd gr co nn fr cm fl ba ac : Int) (id : I) (ps : List Pt) (rc : Int) (rv : ByteArray) (vg vn : Int) (vm : List Pr) (pn pl : Int) (has : Bool) (ms : List Pr) (es ts : List Ev)
def Mg.er (x : Mg) : Mv := ⟨x.kd, x.gr, x.co, x.nn, x.fr, x.cm, x.fl, x.ba, x.ac, x.id, x.ps, x.rc, x.rv, x.vg, x.vn, x.vm, x.pn, x.pl, x.has, x.ms, x.es.map En.er, x.ts.map En.er⟩
theorem mv_ext {a b : Mv} (h : a.kd = b.kd ∧ a.gr = b.gr ∧ a.co = b.co ∧ a.nn = b.nn ∧ a.fr = b.fr ∧ a.cm = b.cm ∧ a.fl = b.fl ∧ a.ba = b.ba ∧ a.ac = b.ac ∧ a.id = b.id ∧ a.ps = b.ps ∧ a.rc = b.rc ∧ a.rv = b.rv ∧ a.vg = b.vg ∧ a.vn = b.vn ∧ a.vm = b.vm ∧ a.pn = b.pn ∧ a.pl = b.pl ∧ a.has = b.has ∧ a.ms = b.ms ∧ a.es = b.es ∧ a.ts = b.ts) : a = b := by cases a; cases b; simp_all
instance : DecidableEq Mv := fun a b => decidable_of_iff (a.kd = b.kd ∧ a.gr = b.gr ∧ a.co = b.co ∧ a.nn = b.nn ∧ a.fr = b.fr ∧ a.cm = b.cm ∧ a.fl = b.fl ∧ a.ba = b.ba ∧ a.ac = b.ac ∧ a.id = b.id ∧ a.ps = b.ps ∧ a.rc = b.rc ∧ a.rv = b.rv ∧ a.vg = b.vg ∧ a.vn = b.vn ∧ a.vm = b.vm ∧ a.pn = b.pn ∧ a.pl = b.pl ∧ a.has = b.has ∧ a.ms = b.ms ∧ a.es = b.es ∧ a.ts = b.ts) ⟨mv_ext, fun h => by subst h; simp⟩
structure MgM (m : Mem) (x : Mg) : Prop where
  p : MSrc m 5 (slV x.pq x.ps.length) x.ps.length (x.ps.flatMap Pt.row)
  v : MSrc m 2 (slV x.vq x.vm.length) x.vm.length (x.vm.flatMap Pr.row)
  mm : MSrc m 2 (slV x.mq x.ms.length) x.ms.length (x.ms.flatMap Pr.row)
  e : EsM m x.eq x.es
  t : EsM m x.tq x.ts
  pl : x.ps.length ≤ 2932031007402
  vl : x.vm.length ≤ 1000000
  ml : x.ms.length ≤ 1000000
  el : x.es.length ≤ 100000
  tl : x.ts.length ≤ 100000
theorem MgM.mono {m m' : Mem} {x : Mg} (h : MgM m x) (hm : m.le m') : MgM m' x := ⟨h.p.mono hm, h.v.mono hm, h.mm.mono hm, h.e.mono hm, h.t.mono hm, h.pl, h.vl, h.ml, h.el, h.tl⟩
structure MvIn (x : Mv) : Prop where
  id : x.id.In
  ps : ∀ p ∈ x.ps, PtIn p
  vm : ∀ p ∈ x.vm, 0 ≤ p.n
  ms : ∀ p ∈ x.ms, 0 ≤ p.n
  es : ∀ e ∈ x.es, EvIn e
  ts : ∀ e ∈ x.ts, EvIn e
  gr : 0 ≤ x.gr ∧ x.gr < 256
  vn : 0 ≤ x.vn
  fr : 0 ≤ x.fr ∧ x.fr < 4294967296
  kd : 0 ≤ x.kd ∧ x.kd < 256
  nn : 0 ≤ x.nn ∧ x.nn < 18446744073709551616
  ba : 0 ≤ x.ba ∧ x.ba < 18446744073709551616
theorem nilS (m : Mem) (k c : Nat) : MSrc m k (.slice none 0 c) 0 [] := .nil ..
theorem esNil (m : Mem) : EsM m (none, 0) [] := ⟨.nil .., by simp⟩
/-! ### entries that may be -/
def allE (l : List Ev) (g : Int) : Bool := decide (l.length ≤ 400) && l.all (·.right g)
theorem c_all1 (e : En) (z0 : Addr) (g : Int) (hi : EvIn e.er) : Ctr Try.prog 115 #[.agg e.row.toArray, .pointer (some z0)] (fun m => EnM m e ∧ m z0 = some (.int .u8 g)) [] (fun _ : Unit => .bool (!e.er.right g)) (fun _ _ => True) (fun _ => []) :=
  Ctr.mk fun w F m C hp => x_all1 _ _ _ _ _ _ _ _ _ _ _ _ _ _ _ _ _ _ _ _ _ _ _ w _ ⟨g, C.cell hp.2, fun w2 L3 h2 g2 => (c_eRight e g hi).call (As := []) (C.hidL h2 g2) hp.1 fun _ m2 w5 hk hm _ C => ⟨_, rfl, hk, Ctr.ret () rfl trivial C⟩⟩
theorem c_IndexE (q : Sl) (l : List En) (z0 : Addr) (g : Int) (hl : l.length ≤ 100000) (hi : ∀ e ∈ l, EvIn e.er) : Ctr Try.prog 130 #[slV q l.length, .func (.func 115) #[] #[.pointer (some z0)]] (fun m => EsM m q l ∧ m z0 = some (.int .u8 g)) [] (fun i : Int => .int .i64 i) (fun i m => decide (i ≥ 0) = !(l.all fun e => e.er.right g)) (fun _ => []) := by
  refine Ctr.mk fun w F m C hp => x_IndexE _ _ _ _ w _ ?_
  refine ⟨fun i w' _ => ∃ (j : Nat) (m' : Mem), i = j ∧ j ≤ l.length ∧ m.le m' ∧ ((l.take j).all fun e => e.er.right g) = true ∧ Ctx F m w w' [] m' [], fun i _ => (l.length - i).toNat, ⟨0, m, rfl, by omega, Mem.le_refl _, rfl, C⟩, ?_⟩
  clear C
  rintro i w4 L5 _ ⟨j, m', rfl, hj, hm, hjt, D⟩
  by_cases hjl : j < l.length
  · rw [if_pos (by simpa using hjl)]
    obtain ⟨a, ha, hc⟩ := (hp.1.1.mono hm).elem en_len hjl
    have ha : q.1 = some a := ha
    have he := (hp.1.2 _ (List.getElem_mem hjl)).mono hm
    have hie := hi _ (List.getElem_mem hjl)
    have ht : (l.take (j + 1)).all (fun e => e.er.right g) = ((l.take j).all (fun e => e.er.right g) && l[j].er.right g) := by rw [List.take_succ_eq_append_getElem hjl, List.all_append]; simp
    have hin : l[j] ∈ l := List.getElem_mem hjl
    generalize l[j] = x at hc he hie ht hin
    refine ⟨by omega, by simpa using hjl, ?_⟩
    rw [ha, onSome_some]
    refine ⟨_, _, _, _, _, _, _, _, _, _, _, _, _, _, _, _, _, _, _, _, _, _, by rw [Int.toNat_natCast]; exact D.cells hc, ?_⟩
    refine (c_all1 x z0 g hie).call (As := []) D ⟨he, hm _ _ hp.2⟩ fun _ m2 w13 hk hm2 _ D => ⟨_, rfl, hk.size, ?_⟩
    by_cases hr : x.er.right g = true
    · rw [if_neg (by simp [hr])]
      have e : IntKind.wrap .i64 ((j : Int) + 1) = ((j + 1 : Nat) : Int) := by rw [w_i64 (by omega) (by omega)]; omega
      rw [e]
      refine ⟨⟨j + 1, m2, rfl, hjl, hm.le_trans hm2, by rw [ht, hjt, hr]; rfl, D⟩, Nat.le_of_eq (by show ((l.length : Int) - ((j + 1 : Nat) : Int)).toNat + 1 = ((l.length : Int) - (j : Int)).toNat; omega)⟩
    · rw [if_pos (by simp [hr])]
      refine Ctr.ret (j : Int) rfl ?_ D
      have : (l.all fun e => e.er.right g) = false := by rw [Bool.eq_false_iff]; intro h; exact hr (List.all_eq_true.1 h _ hin)
      rw [this]; simp
  · rw [if_neg (by simpa using hjl)]
    have hj2 : j = l.length := by omega
    rw [hj2, List.take_length] at hjt
    exact Ctr.ret (-1) rfl (by rw [hjt]; rfl) D
theorem c_all (q : Sl) (l : List En) (g : Int) (hl : l.length ≤ 100000) (hi : ∀ e ∈ l, EvIn e.er) : Ctr Try.prog 87 #[slV q l.length, .int .u8 g] (fun m => EsM m q l) [] (fun _ : Unit => .bool (allE (l.map En.er) g)) (fun _ _ => True) (fun _ => []) := by
  refine Ctr.mk fun w F m C hp => x_all _ _ _ _ w _ ?_
  have hlen : (l.map En.er).length = l.length := by simp
  have hall : (l.map En.er).all (·.right g) = l.all (fun e => e.er.right g) := by rw [List.all_map]; rfl
  by_cases h : l.length ≤ 400
  · rw [if_pos (by rw [decide_eq_true (show ((l.length : Nat) : Int) ≤ 400 by omega)]; rfl)]
    obtain ⟨C1, hm1⟩ := C.newShare [.int .u8 g] 5 (0, 0)
    have hz : (m.plus w.heap.size [.int .u8 g]) ⟨w.heap.size, 0, none⟩ = some (.int .u8 g) := by simp [Mem.plus]
    refine ⟨x_ContainsE _ _ _ _ _ _ ?_⟩
    refine (c_IndexE q l _ g hl hi).call (As := []) C1 ⟨hp.mono hm1, hz⟩ fun i m2 w4 hk hm hi2 C => ⟨i, rfl, hk.size, ?_⟩
    refine ⟨_, rfl, hk.size, Ctr.ret () ?_ trivial C⟩
    rw [hi2, Bool.not_not, allE, hlen, hall, decide_eq_true h]
  · rw [if_neg (by rw [decide_eq_false (show ¬ ((l.length : Nat) : Int) ≤ 400 by omega)]; decide)]
    refine Ctr.ret () ?_ trivial (C.newDrop _ _)
    rw [allE, hlen, decide_eq_false h]; rfl
theorem c_vSame (a b : Vw) (hl : a.ms.length ≤ 1000000) : Ctr Try.prog 40 #[.agg a.row.toArray, .agg b.row.toArray] (fun m => VwM m a ∧ VwM m b) [] (fun _ : Unit => .bool (((a.g == b.g) && (a.n == b.n)) && decide (a.ms = b.ms))) (fun _ _ => True) (fun _ => []) := by
  refine Ctr.mk fun w F m C hp => x_vSame _ _ _ _ _ _ _ _ _ _ w _ ?_
  by_cases h : ((a.g == b.g) && (a.n == b.n)) = true
  · rw [if_pos (by rw [h]; rfl)]
    intro w2 L3 h2 g2
    refine (c_EqualPr a.q b.q a.ms b.ms (by omega)).call (As := []) (C.hidL h2 g2) ⟨hp.1, hp.2⟩ fun _ m2 w5 hk hm _ C => ⟨_, rfl, hk, Ctr.ret () (by rw [h]) trivial C⟩
  · rw [if_neg (by simpa using h)]
    intro w1 h1
    exact Ctr.ret () (by rw [Bool.eq_false_iff.2 h]; rfl) trivial (C.hid0 h1)
theorem c_r6Same (a b : Vw) (hl : a.ms.length ≤ 1000000) : Ctr Try.prog 44 #[.agg a.row.toArray, .agg b.row.toArray] (fun m => VwM m a ∧ VwM m b) [] (fun _ : Unit => .bool (((a.g == b.g) && (a.n == b.n)) && decide (a.ms = b.ms))) (fun _ _ => True) (fun _ => []) := by
  refine Ctr.mk fun w F m C hp => x_r6Same _ _ _ _ _ _ _ _ _ _ w _ ?_
  by_cases h : ((a.g == b.g) && (a.n == b.n)) = true
  · rw [if_pos (by rw [h]; rfl)]
    intro w2 L3 h2 g2
    refine (c_SameProcs a.q b.q a.ms b.ms (by omega)).call (As := []) (C.hidL h2 g2) ⟨hp.1, hp.2⟩ fun _ m2 w5 hk hm _ C => ⟨_, rfl, hk, Ctr.ret () (by rw [h]) trivial C⟩
  · rw [if_neg (by simpa using h)]
    intro w1 h1
    exact Ctr.ret () (by rw [Bool.eq_false_iff.2 h]; rfl) trivial (C.hid0 h1)
def Mv.askM (x : Mv) : Bool := x.id.right && decide (x.fl < x.id.s) && rightL x.ps && (match x.ps with | [] => false | p :: _ => p.g == x.gr) && decide ((x.ps.length : Int) + x.id.d ≤ 4)
def vwOk (g n : Int) (l : List Pr) : Bool := Vw.ok ⟨g, n, (none, 0), l⟩
def Mv.val (x : Mv) : Bool := vwOk 0 1 x.ms && allE x.ts x.gr
def Mv.resR (x : Mv) : Bool := Rs.right ⟨x.rc, x.rv⟩
def prOk (n l : Int) : Bool := Pr.ok ⟨n, l⟩
theorem c_mAsked (x : Mg) (hi : MvIn x.er) : Ctr Try.prog 83 #[.agg x.row.toArray] (fun m => MgM m x) [] (fun _ : Unit => .bool x.er.askM) (fun _ _ => True) (fun _ => []) := by
  refine Ctr.mk fun w F m C hx => x_mAsked _ _ _ _ _ _ _ _ _ _ _ _ _ _ _ _ _ _ _ _ _ _ _ _ _ _ _ _ _ _ _ _ _ _ _ _ _ _ _ _ _ w _ ⟨[], facts_nil _ _, fun w2 L3 h2 g2 => ?_⟩
  refine (C.hidL h2 g2).gives (c_Right x.id hi.id) fun w5 k5 C => ⟨_, rfl, k5, facts_nil _ _, [], facts_nil _ _, (fun _ h => h), ?_⟩
  by_cases h1 : (x.id.right && decide (x.fl < x.id.s)) = true
  rotate_left
  · rw [if_neg (by intro h; apply h1; simpa using h)]
    refine ⟨[], facts_nil _ _, (fun _ h => h), [], facts_nil _ _, (fun _ h => h), Ctr.ret () ?_ trivial C⟩
    have : (x.er.id.right && decide (x.er.fl < x.er.id.s)) = false := Bool.eq_false_iff.2 h1
    rw [Mv.askM, this]; rfl
  rw [if_pos (by rw [h1]; rfl)]
  have h1' : (x.er.id.right && decide (x.er.fl < x.er.id.s)) = true := h1
  refine (c_partRight x.pq x.ps (by have := hx.pl; omega)).call (As := []) C hx.p fun _ m2 w14 hk hm2 _ C => ⟨_, rfl, hk, facts_nil _ _, ?_⟩
  by_cases hl : rightL x.ps = true
  rotate_left
  · refine ⟨[], facts_nil _ _, (fun _ h => h), ?_⟩
    rw [if_neg (by simpa using hl)]
    refine ⟨[], facts_nil _ _, (fun _ h => h), Ctr.ret () ?_ trivial C⟩
    have : rightL x.er.ps = false := Bool.eq_false_iff.2 hl
    rw [Mv.askM, h1', this]; rfl
  have hl0 : 1 ≤ x.ps.length ∧ x.ps.length ≤ 4 := by
    simp only [rightL, Bool.and_eq_true, decide_eq_true_eq] at hl; exact hl.1
  obtain ⟨a, ha, hc⟩ := (hx.p.mono hm2).elem pt_len (i := 0) (by omega)
  have ha : x.pq.1 = some a := ha
  refine ⟨_, C.memFact (mcells_part hc 0 [.int .u8 x.ps[0].g] (fun k v e => by match k, e with | 0, e => exact e)) (facts_nil _ _), (fun _ h => by cases h), ?_⟩
  rw [if_pos (by rw [hl]; rfl)]
  refine ⟨by omega, by omega, ?_⟩
  rw [ha, onSome_some]
  refine ⟨_, List.mem_cons_self, ?_⟩
  have hd : 0 ≤ x.id.d ∧ x.id.d ≤ 3 := right_d hi.id (by simp only [Bool.and_eq_true] at h1; exact h1.1)
  rw [w_i64 (n := x.id.d) (by omega) (by omega), w_i64 (n := _ + x.id.d) (by omega) (by omega)]
  refine Ctr.ret () ?_ trivial C
  obtain ⟨p, l, hpl⟩ : ∃ p l, x.ps = p :: l := by
    cases hps : x.ps with
    | nil => rw [hps] at hl0; simp at hl0
    | cons p l => exact ⟨p, l, rfl⟩
  have h2 : rightL x.er.ps = true := hl
  have h3 : x.er.ps = p :: l := hpl
  rw [Mv.askM, h1', h2, h3]
  have e1 : x.ps[0].g = p.g := by simp [hpl]
  rw [e1, hpl]; rfl
theorem vm_vw {m : Mem} {x : Mg} (h : MgM m x) : VwM m ⟨x.vg, x.vn, x.vq, x.vm⟩ := h.v
theorem c_mValue (x : Mg) (hi : MvIn x.er) (hx0 : x.ts.length ≤ 100000) : Ctr Try.prog 88 #[.agg x.row.toArray] (fun m => MgM m x) [] (fun _ : Unit => .bool x.er.val) (fun _ _ => True) (fun _ => []) := by
  refine Ctr.mk fun w F m C hx => x_mValue _ _ _ _ _ _ _ _ _ _ _ _ _ _ _ _ _ _ _ _ _ _ _ _ _ _ _ _ _ _ _ _ _ _ _ _ _ _ _ _ _ w _ fun w1 L2 h1 g1 => ?_
  refine (c_vRight ⟨0, 1, x.mq, x.ms⟩ hi.ms).call (As := []) (C.hidL h1 g1) hx.mm fun _ m2 w4 hk hm2 _ C => ⟨_, rfl, hk, ?_⟩
  by_cases hv : Vw.ok ⟨0, 1, x.mq, x.ms⟩ = true
  · rw [if_pos (by rw [hv]; rfl)]
    refine (c_all x.tq x.ts x.gr hx0 (fun e he => hi.ts _ (List.mem_map_of_mem he))).call (As := []) C (hx.t.mono hm2) fun _ m3 w7 hk hm3 _ C => ⟨_, rfl, hk, Ctr.ret () ?_ trivial C⟩
    have : vwOk 0 1 x.er.ms = true := hv
    rw [Mv.val, this]; rfl
  · rw [if_neg (by simpa using hv)]
    refine Ctr.ret () ?_ trivial C
    have : vwOk 0 1 x.er.ms = false := Bool.eq_false_iff.2 hv
    rw [Mv.val, this]; rfl
def Mv.fieldsP (x : Mv) : Bool :=
  if x.kd = 0 then x.askM
  else if x.kd = 1 then (x.id.right && x.resR && vwOk x.vg x.vn x.vm)
  else if x.kd = 2 then x.id.right
  else if x.kd = 3 then (decide (x.nn > 0) && decide (x.fr ≤ 400) && decide (x.cm ≤ 400) && decide (x.fr + (x.es.length : Int) ≤ 400) && allE x.es x.gr)
  else if x.kd = 4 then (decide (x.nn > 0) && decide (x.fr ≤ 400))
  else if x.kd = 5 then (decide (x.nn > 0) && decide (x.ba > 0))
  else if x.kd = 6 then (decide (x.nn > 0) && decide (x.ba > 0))
  else if x.kd = 7 then (decide (x.nn > 0) && decide (x.ba > 0))
  else if x.kd = 8 then (decide (x.nn > 0) && decide (x.ba > 0) && allE x.es x.gr && (!x.has || (decide (x.ac > 0) && x.val)))
  else if x.kd = 9 then (decide (x.nn > 0) && decide (x.ba > 0) && x.val)
  else if x.kd = 10 then (vwOk x.vg x.vn x.vm && allE x.es x.vg)
  else if x.kd = 11 then prOk x.pn x.pl
  else if x.kd = 12 then prOk x.pn x.pl
  else if x.kd = 13 then prOk x.pn x.pl
  else false
def Mv.onlyP (x : Mv) : Mv :=
  if x.kd = 0 then ⟨x.kd, x.gr, 0, 0, 0, 0, x.fl, 0, 0, x.id, x.ps, 0, ByteArray.mk #[], 0, 0, [], 0, 0, false, [], [], []⟩
  else if x.kd = 1 then ⟨x.kd, 0, 0, 0, 0, 0, 0, 0, 0, x.id, [], x.rc, x.rv, x.vg, x.vn, x.vm, 0, 0, false, [], [], []⟩
  else if x.kd = 2 then ⟨x.kd, 0, x.co, 0, 0, 0, 0, 0, 0, x.id, [], 0, ByteArray.mk #[], 0, 0, [], 0, 0, false, [], [], []⟩
  else if x.kd = 3 then ⟨x.kd, x.gr, 0, x.nn, x.fr, x.cm, 0, 0, 0, I.zero, [], 0, ByteArray.mk #[], 0, 0, [], 0, 0, false, [], x.es, []⟩
  else if x.kd = 4 then ⟨x.kd, x.gr, 0, x.nn, x.fr, 0, 0, 0, 0, I.zero, [], 0, ByteArray.mk #[], 0, 0, [], 0, 0, false, [], [], []⟩
  else if x.kd = 5 then ⟨x.kd, x.gr, 0, x.nn, 0, 0, 0, x.ba, 0, I.zero, [], 0, ByteArray.mk #[], 0, 0, [], 0, 0, false, [], [], []⟩
  else if x.kd = 6 then ⟨x.kd, x.gr, 0, x.nn, 0, 0, 0, x.ba, 0, I.zero, [], 0, ByteArray.mk #[], 0, 0, [], 0, 0, false, [], [], []⟩
  else if x.kd = 7 then ⟨x.kd, x.gr, 0, x.nn, 0, 0, 0, x.ba, 0, I.zero, [], 0, ByteArray.mk #[], 0, 0, [], 0, 0, false, [], [], []⟩
  else if x.kd = 8 then (if x.has then ⟨x.kd, x.gr, 0, x.nn, 0, 0, 0, x.ba, x.ac, I.zero, [], 0, ByteArray.mk #[], 0, 0, [], 0, 0, x.has, x.ms, x.es, x.ts⟩ else ⟨x.kd, x.gr, 0, x.nn, 0, 0, 0, x.ba, 0, I.zero, [], 0, ByteArray.mk #[], 0, 0, [], 0, 0, false, [], x.es, []⟩)
  else if x.kd = 9 then ⟨x.kd, x.gr, 0, x.nn, 0, 0, 0, x.ba, 0, I.zero, [], 0, ByteArray.mk #[], 0, 0, [], 0, 0, false, x.ms, [], x.ts⟩
  else if x.kd = 10 then ⟨x.kd, 0, 0, 0, 0, 0, 0, 0, 0, I.zero, [], 0, ByteArray.mk #[], x.vg, x.vn, x.vm, 0, 0, false, [], x.es, []⟩
  else if x.kd = 11 then ⟨x.kd, x.gr, 0, 0, 0, 0, 0, 0, 0, I.zero, [], 0, ByteArray.mk #[], 0, 0, [], x.pn, x.pl, false, [], [], []⟩
  else if x.kd = 12 then ⟨x.kd, x.gr, 0, 0, 0, 0, 0, 0, 0, I.zero, [], 0, ByteArray.mk #[], 0, 0, [], x.pn, x.pl, false, [], [], []⟩
  else if x.kd = 13 then ⟨x.kd, x.gr, 0, 0, 0, 0, 0, 0, 0, I.zero, [], 0, ByteArray.mk #[], 0, 0, [], x.pn, x.pl, false, [], [], []⟩
  else ⟨x.kd, x.gr, 0, 0, 0, 0, 0, 0, 0, I.zero, [], 0, ByteArray.mk #[], 0, 0, [], 0, 0, false, [], [], []⟩
theorem fP0 {x : Mv} (h : x.kd = 0) : x.fieldsP = x.askM := by rw [Mv.fieldsP, if_pos h]
theorem oP0 {x : Mv} (h : x.kd = 0) : x.onlyP = ⟨x.kd, x.gr, 0, 0, 0, 0, x.fl, 0, 0, x.id, x.ps, 0, ByteArray.mk #[], 0, 0, [], 0, 0, false, [], [], []⟩ := by rw [Mv.onlyP, if_pos h]
theorem fP1 {x : Mv} (h : x.kd = 1) : x.fieldsP = (x.id.right && x.resR && vwOk x.vg x.vn x.vm) := by rw [Mv.fieldsP, if_neg (by omega), if_pos h]
theorem oP1 {x : Mv} (h : x.kd = 1) : x.onlyP = ⟨x.kd, 0, 0, 0, 0, 0, 0, 0, 0, x.id, [], x.rc, x.rv, x.vg, x.vn, x.vm, 0, 0, false, [], [], []⟩ := by rw [Mv.onlyP, if_neg (by omega), if_pos h]
theorem fP2 {x : Mv} (h : x.kd = 2) : x.fieldsP = x.id.right := by rw [Mv.fieldsP, if_neg (by omega), if_neg (by omega), if_pos h]
theorem oP2 {x : Mv} (h : x.kd = 2) : x.onlyP = ⟨x.kd, 0, x.co, 0, 0, 0, 0, 0, 0, x.id, [], 0, ByteArray.mk #[], 0, 0, [], 0, 0, false, [], [], []⟩ := by rw [Mv.onlyP, if_neg (by omega), if_neg (by omega), if_pos h]
theorem fP3 {x : Mv} (h : x.kd = 3) : x.fieldsP = (decide (x.nn > 0) && decide (x.fr ≤ 400) && decide (x.cm ≤ 400) && decide (x.fr + (x.es.length : Int) ≤ 400) && allE x.es x.gr) := by rw [Mv.fieldsP, if_neg (by omega), if_neg (by omega), if_neg (by omega), if_pos h]
theorem oP3 {x : Mv} (h : x.kd = 3) : x.onlyP = ⟨x.kd, x.gr, 0, x.nn, x.fr, x.cm, 0, 0, 0, I.zero, [], 0, ByteArray.mk #[], 0, 0, [], 0, 0, false, [], x.es, []⟩ := by rw [Mv.onlyP, if_neg (by omega), if_neg (by omega), if_neg (by omega), if_pos h]
theorem fP4 {x : Mv} (h : x.kd = 4) : x.fieldsP = (decide (x.nn > 0) && decide (x.fr ≤ 400)) := by rw [Mv.fieldsP, if_neg (by omega), if_neg (by omega), if_neg (by omega), if_neg (by omega), if_pos h]
theorem oP4 {x : Mv} (h : x.kd = 4) : x.onlyP = ⟨x.kd, x.gr, 0, x.nn, x.fr, 0, 0, 0, 0, I.zero, [], 0, ByteArray.mk #[], 0, 0, [], 0, 0, false, [], [], []⟩ := by rw [Mv.onlyP, if_neg (by omega), if_neg (by omega), if_neg (by omega), if_neg (by omega), if_pos h]
theorem fP5 {x : Mv} (h : x.kd = 5) : x.fieldsP = (decide (x.nn > 0) && decide (x.ba > 0)) := by rw [Mv.fieldsP, if_neg (by omega), if_neg (by omega), if_neg (by omega), if_neg (by omega), if_neg (by omega), if_pos h]
theorem oP5 {x : Mv} (h : x.kd = 5) : x.onlyP = ⟨x.kd, x.gr, 0, x.nn, 0, 0, 0, x.ba, 0, I.zero, [], 0, ByteArray.mk #[], 0, 0, [], 0, 0, false, [], [], []⟩ := by rw [Mv.onlyP, if_neg (by omega), if_neg (by omega), if_neg (by omega), if_neg (by omega), if_neg (by omega), if_pos h]
theorem fP6 {x : Mv} (h : x.kd = 6) : x.fieldsP = (decide (x.nn > 0) && decide (x.ba > 0)) := by rw [Mv.fieldsP, if_neg (by omega), if_neg (by omega), if_neg (by omega), if_neg (by omega), if_neg (by omega), if_neg (by omega), if_pos h]
theorem oP6 {x : Mv} (h : x.kd = 6) : x.onlyP = ⟨x.kd, x.gr, 0, x.nn, 0, 0, 0, x.ba, 0, I.zero, [], 0, ByteArray.mk #[], 0, 0, [], 0, 0, false, [], [], []⟩ := by rw [Mv.onlyP, if_neg (by omega), if_neg (by omega), if_neg (by omega), if_neg (by omega), if_neg (by omega), if_neg (by omega), if_pos h]
theorem fP7 {x : Mv} (h : x.kd = 7) : x.fieldsP = (decide (x.nn > 0) && decide (x.ba > 0)) := by rw [Mv.fieldsP, if_neg (by omega), if_neg (by omega), if_neg (by omega), if_neg (by omega), if_neg (by omega), if_neg (by omega), if_neg (by omega), if_pos h]
theorem oP7 {x : Mv} (h : x.kd = 7) : x.onlyP = ⟨x.kd, x.gr, 0, x.nn, 0, 0, 0, x.ba, 0, I.zero, [], 0, ByteArray.mk #[], 0, 0, [], 0, 0, false, [], [], []⟩ := by rw [Mv.onlyP, if_neg (by omega), if_neg (by omega), if_neg (by omega), if_neg (by omega), if_neg (by omega), if_neg (by omega), if_neg (by omega), if_pos h]
theorem fP8 {x : Mv} (h : x.kd = 8) : x.fieldsP = (decide (x.nn > 0) && decide (x.ba > 0) && allE x.es x.gr && (!x.has || (decide (x.ac > 0) && x.val))) := by rw [Mv.fieldsP, if_neg (by omega), if_neg (by omega), if_neg (by omega), if_neg (by omega), if_neg (by omega), if_neg (by omega), if_neg (by omega), if_neg (by omega), if_pos h]
theorem oP8 {x : Mv} (h : x.kd = 8) : x.onlyP = (if x.has then ⟨x.kd, x.gr, 0, x.nn, 0, 0, 0, x.ba, x.ac, I.zero, [], 0, ByteArray.mk #[], 0, 0, [], 0, 0, x.has, x.ms, x.es, x.ts⟩ else ⟨x.kd, x.gr, 0, x.nn, 0, 0, 0, x.ba, 0, I.zero, [], 0, ByteArray.mk #[], 0, 0, [], 0, 0, false, [], x.es, []⟩) := by rw [Mv.onlyP, if_neg (by omega), if_neg (by omega), if_neg (by omega), if_neg (by omega), if_neg (by omega), if_neg (by omega), if_neg (by omega), if_neg (by omega), if_pos h]
theorem fP9 {x : Mv} (h : x.kd = 9) : x.fieldsP = (decide (x.nn > 0) && decide (x.ba > 0) && x.val) := by rw [Mv.fieldsP, if_neg (by omega), if_neg (by omega), if_neg (by omega), if_neg (by omega), if_neg (by omega), if_neg (by omega), if_neg (by omega), if_neg (by omega), if_neg (by omega), if_pos h]
theorem oP9 {x : Mv} (h : x.kd = 9) : x.onlyP = ⟨x.kd, x.gr, 0, x.nn, 0, 0, 0, x.ba, 0, I.zero, [], 0, ByteArray.mk #[], 0, 0, [], 0, 0, false, x.ms, [], x.ts⟩ := by rw [Mv.onlyP, if_neg (by omega), if_neg (by omega), if_neg (by omega), if_neg (by omega), if_neg (by omega), if_neg (by omega), if_neg (by omega), if_neg (by omega), if_neg (by omega), if_pos h]
theorem fP10 {x : Mv} (h : x.kd = 10) : x.fieldsP = (vwOk x.vg x.vn x.vm && allE x.es x.vg) := by rw [Mv.fieldsP, if_neg (by omega), if_neg (by omega), if_neg (by omega), if_neg (by omega), if_neg (by omega), if_neg (by omega), if_neg (by omega), if_neg (by omega), if_neg (by omega), if_neg (by omega), if_pos h]
theorem oP10 {x : Mv} (h : x.kd = 10) : x.onlyP = ⟨x.kd, 0, 0, 0, 0, 0, 0, 0, 0, I.zero, [], 0, ByteArray.mk #[], x.vg, x.vn, x.vm, 0, 0, false, [], x.es, []⟩ := by rw [Mv.onlyP, if_neg (by omega), if_neg (by omega), if_neg (by omega), if_neg (by omega), if_neg (by omega), if_neg (by omega), if_neg (by omega), if_neg (by omega), if_neg (by omega), if_neg (by omega), if_pos h]
theorem fP11 {x : Mv} (h : x.kd = 11) : x.fieldsP = prOk x.pn x.pl := by rw [Mv.fieldsP, if_neg (by omega), if_neg (by omega), if_neg (by omega), if_neg (by omega), if_neg (by omega), if_neg (by omega), if_neg (by omega), if_neg (by omega), if_neg (by omega), if_neg (by omega), if_neg (by omega), if_pos h]
theorem oP11 {x : Mv} (h : x.kd = 11) : x.onlyP = ⟨x.kd, x.gr, 0, 0, 0, 0, 0, 0, 0, I.zero, [], 0, ByteArray.mk #[], 0, 0, [], x.pn, x.pl, false, [], [], []⟩ := by rw [Mv.onlyP, if_neg (by omega), if_neg (by omega), if_neg (by omega), if_neg (by omega), if_neg (by omega), if_neg (by omega), if_neg (by omega), if_neg (by omega), if_neg (by omega), if_neg (by omega), if_neg (by omega), if_pos h]
theorem fP12 {x : Mv} (h : x.kd = 12) : x.fieldsP = prOk x.pn x.pl := by rw [Mv.fieldsP, if_neg (by omega), if_neg (by omega), if_neg (by omega), if_neg (by omega), if_neg (by omega), if_neg (by omega), if_neg (by omega), if_neg (by omega), if_neg (by omega), if_neg (by omega), if_neg (by omega), if_neg (by omega), if_pos h]
theorem oP12 {x : Mv} (h : x.kd = 12) : x.onlyP = ⟨x.kd, x.gr, 0, 0, 0, 0, 0, 0, 0, I.zero, [], 0, ByteArray.mk #[], 0, 0, [], x.pn, x.pl, false, [], [], []⟩ := by rw [Mv.onlyP, if_neg (by omega), if_neg (by omega), if_neg (by omega), if_neg (by omega), if_neg (by omega), if_neg (by omega), if_neg (by omega), if_neg (by omega), if_neg (by omega), if_neg (by omega), if_neg (by omega), if_neg (by omega), if_pos h]
theorem fP13 {x : Mv} (h : x.kd = 13) : x.fieldsP = prOk x.pn x.pl := by rw [Mv.fieldsP, if_neg (by omega), if_neg (by omega), if_neg (by omega), if_neg (by omega), if_neg (by omega), if_neg (by omega), if_neg (by omega), if_neg (by omega), if_neg (by omega), if_neg (by omega), if_neg (by omega), if_neg (by omega), if_neg (by omega), if_pos h]
theorem oP13 {x : Mv} (h : x.kd = 13) : x.onlyP = ⟨x.kd, x.gr, 0, 0, 0, 0, 0, 0, 0, I.zero, [], 0, ByteArray.mk #[], 0, 0, [], x.pn, x.pl, false, [], [], []⟩ := by rw [Mv.onlyP, if_neg (by omega), if_neg (by omega), if_neg (by omega), if_neg (by omega), if_neg (by omega), if_neg (by omega), if_neg (by omega), if_neg (by omega), if_neg (by omega), if_neg (by omega), if_neg (by omega), if_neg (by omega), if_neg (by omega), if_pos h]
theorem fPo {x : Mv} (h : ¬ (0 ≤ x.kd ∧ x.kd ≤ 13)) : x.fieldsP = false := by rw [Mv.fieldsP, if_neg (by omega), if_neg (by omega), if_neg (by omega), if_neg (by omega), if_neg (by omega), if_neg (by omega), if_neg (by omega), if_neg (by omega), if_neg (by omega), if_neg (by omega), if_neg (by omega), if_neg (by omega), if_neg (by omega), if_neg (by omega)]
theorem oPo {x : Mv} (h : ¬ (0 ≤ x.kd ∧ x.kd ≤ 13)) : x.onlyP = ⟨x.kd, x.gr, 0, 0, 0, 0, 0, 0, 0, I.zero, [], 0, ByteArray.mk #[], 0, 0, [], 0, 0, false, [], [], []⟩ := by rw [Mv.onlyP, if_neg (by omega), if_neg (by omega), if_neg (by omega), if_neg (by omega), if_neg (by omega), if_neg (by omega), if_neg (by omega), if_neg (by omega), if_neg (by omega), if_neg (by omega), if_neg (by omega), if_neg (by omega), if_neg (by omega), if_neg (by omega)]
@[reducible] def Mg.o0 (x : Mg) : Mg := ⟨x.kd, x.gr, 0, 0, 0, 0, x.fl, 0, 0, x.id, x.pq, x.ps, 0, ByteArray.mk #[], 0, 0, (none, 0), [], 0, 0, false, (none, 0), [], (none, 0), [], (none, 0), []⟩
theorem oM0 {m : Mem} {x : Mg} (hx : MgM m x) : MgM m x.o0 := ⟨hx.p, .nil .., .nil .., esNil m, esNil m, hx.pl, Nat.zero_le _, Nat.zero_le _, Nat.zero_le _, Nat.zero_le _⟩
@[reducible] def Mg.o1 (x : Mg) : Mg := ⟨x.kd, 0, 0, 0, 0, 0, 0, 0, 0, x.id, (none, 0), [], x.rc, x.rv, x.vg, x.vn, x.vq, x.vm, 0, 0, false, (none, 0), [], (none, 0), [], (none, 0), []⟩
theorem oM1 {m : Mem} {x : Mg} (hx : MgM m x) : MgM m x.o1 := ⟨.nil .., hx.v, .nil .., esNil m, esNil m, Nat.zero_le _, hx.vl, Nat.zero_le _, Nat.zero_le _, Nat.zero_le _⟩
@[reducible] def Mg.o2 (x : Mg) : Mg := ⟨x.kd, 0, x.co, 0, 0, 0, 0, 0, 0, x.id, (none, 0), [], 0, ByteArray.mk #[], 0, 0, (none, 0), [], 0, 0, false, (none, 0), [], (none, 0), [], (none, 0), []⟩
theorem oM2 {m : Mem} {x : Mg} (hx : MgM m x) : MgM m x.o2 := ⟨.nil .., .nil .., .nil .., esNil m, esNil m, Nat.zero_le _, Nat.zero_le _, Nat.zero_le _, Nat.zero_le _, Nat.zero_le _⟩
@[reducible] def Mg.o3 (x : Mg) : Mg := ⟨x.kd, x.gr, 0, x.nn, x.fr, x.cm, 0, 0, 0, I.zero, (none, 0), [], 0, ByteArray.mk #[], 0, 0, (none, 0), [], 0, 0, false, (none, 0), [], x.eq, x.es, (none, 0), []⟩
theorem oM3 {m : Mem} {x : Mg} (hx : MgM m x) : MgM m x.o3 := ⟨.nil .., .nil .., .nil .., hx.e, esNil m, Nat.zero_le _, Nat.zero_le _, Nat.zero_le _, hx.el, Nat.zero_le _⟩
@[reducible] def Mg.o4 (x : Mg) : Mg := ⟨x.kd, x.gr, 0, x.nn, x.fr, 0, 0, 0, 0, I.zero, (none, 0), [], 0, ByteArray.mk #[], 0, 0, (none, 0), [], 0, 0, false, (none, 0), [], (none, 0), [], (none, 0), []⟩
theorem oM4 {m : Mem} {x : Mg} (hx : MgM m x) : MgM m x.o4 := ⟨.nil .., .nil .., .nil .., esNil m, esNil m, Nat.zero_le _, Nat.zero_le _, Nat.zero_le _, Nat.zero_le _, Nat.zero_le _⟩
@[reducible] def Mg.o5 (x : Mg) : Mg := ⟨x.kd, x.gr, 0, x.nn, 0, 0, 0, x.ba, 0, I.zero, (none, 0), [], 0, ByteArray.mk #[], 0, 0, (none, 0), [], 0, 0, false, (none, 0), [], (none, 0), [], (none, 0), []⟩
theorem oM5 {m : Mem} {x : Mg} (hx : MgM m x) : MgM m x.o5 := ⟨.nil .., .nil .., .nil .., esNil m, esNil m, Nat.zero_le _, Nat.zero_le _, Nat.zero_le _, Nat.zero_le _, Nat.zero_le _⟩
@[reducible] def Mg.o8t (x : Mg) : Mg := ⟨x.kd, x.gr, 0, x.nn, 0, 0, 0, x.ba, x.ac, I.zero, (none, 0), [], 0, ByteArray.mk #[], 0, 0, (none, 0), [], 0, 0, x.has, x.mq, x.ms, x.eq, x.es, x.tq, x.ts⟩
theorem oM8t {m : Mem} {x : Mg} (hx : MgM m x) : MgM m x.o8t := ⟨.nil .., .nil .., hx.mm, hx.e, hx.t, Nat.zero_le _, Nat.zero_le _, hx.ml, hx.el, hx.tl⟩
@[reducible] def Mg.o8f (x : Mg) : Mg := ⟨x.kd, x.gr, 0, x.nn, 0, 0, 0, x.ba, 0, I.zero, (none, 0), [], 0, ByteArray.mk #[], 0, 0, (none, 0), [], 0, 0, false, (none, 0), [], x.eq, x.es, (none, 0), []⟩
theorem oM8f {m : Mem} {x : Mg} (hx : MgM m x) : MgM m x.o8f := ⟨.nil .., .nil .., .nil .., hx.e, esNil m, Nat.zero_le _, Nat.zero_le _, Nat.zero_le _, hx.el, Nat.zero_le _⟩
@[reducible] def Mg.o9 (x : Mg) : Mg := ⟨x.kd, x.gr, 0, x.nn, 0, 0, 0, x.ba, 0, I.zero, (none, 0), [], 0, ByteArray.mk #[], 0, 0, (none, 0), [], 0, 0, false, x.mq, x.ms, (none, 0), [], x.tq, x.ts⟩
theorem oM9 {m : Mem} {x : Mg} (hx : MgM m x) : MgM m x.o9 := ⟨.nil .., .nil .., hx.mm, esNil m, hx.t, Nat.zero_le _, Nat.zero_le _, hx.ml, Nat.zero_le _, hx.tl⟩
@[reducible] def Mg.o10 (x : Mg) : Mg := ⟨x.kd, 0, 0, 0, 0, 0, 0, 0, 0, I.zero, (none, 0), [], 0, ByteArray.mk #[], x.vg, x.vn, x.vq, x.vm, 0, 0, false, (none, 0), [], x.eq, x.es, (none, 0), []⟩
theorem oM10 {m : Mem} {x : Mg} (hx : MgM m x) : MgM m x.o10 := ⟨.nil .., hx.v, .nil .., hx.e, esNil m, Nat.zero_le _, hx.vl, Nat.zero_le _, hx.el, Nat.zero_le _⟩
@[reducible] def Mg.o11 (x : Mg) : Mg := ⟨x.kd, x.gr, 0, 0, 0, 0, 0, 0, 0, I.zero, (none, 0), [], 0, ByteArray.mk #[], 0, 0, (none, 0), [], x.pn, x.pl, false, (none, 0), [], (none, 0), [], (none, 0), []⟩
theorem oM11 {m : Mem} {x : Mg} (hx : MgM m x) : MgM m x.o11 := ⟨.nil .., .nil .., .nil .., esNil m, esNil m, Nat.zero_le _, Nat.zero_le _, Nat.zero_le _, Nat.zero_le _, Nat.zero_le _⟩
@[reducible] def Mg.oo (x : Mg) : Mg := ⟨x.kd, x.gr, 0, 0, 0, 0, 0, 0, 0, I.zero, (none, 0), [], 0, ByteArray.mk #[], 0, 0, (none, 0), [], 0, 0, false, (none, 0), [], (none, 0), [], (none, 0), []⟩
theorem oMo {m : Mem} {x : Mg} (hx : MgM m x) : MgM m x.oo := ⟨.nil .., .nil .., .nil .., esNil m, esNil m, Nat.zero_le _, Nat.zero_le _, Nat.zero_le _, Nat.zero_le _, Nat.zero_le _⟩
theorem wrapFr {x : Mg} (hi : MvIn x.er) (hl : x.es.length ≤ 100000) : IntKind.wrap .i64 (IntKind.wrap .i64 x.fr + ((x.es.length : Nat) : Int)) = x.fr + ((x.es.length : Nat) : Int) := by
  have h : 0 ≤ x.fr ∧ x.fr < 4294967296 := hi.fr
  rw [w_i64 (n := x.fr) (by omega) (by omega), w_i64 (n := x.fr + _) (by omega) (by omega)]
theorem c_mFields (x : Mg) (hi : MvIn x.er) : Ctr Try.prog 34 #[.agg x.row.toArray] (fun m => MgM m x) [] (fun _ : Unit => .bool x.er.fieldsP) (fun _ _ => True) (fun _ => []) := by
  refine Ctr.mk fun w F m C hx => x_mFields _ _ _ _ _ _ _ _ _ _ _ _ _ _ _ _ _ _ _ _ _ _ _ _ _ _ _ _ _ _ _ _ _ _ _ _ _ _ _ _ _ w _ ?_
  have cA := c_mAsked x hi
  have cV := c_mValue x hi hx.tl
  have cI := c_Right x.id hi.id
  have cR := c_ResRight ⟨x.rc, x.rv⟩
  have cW := c_vRight ⟨x.vg, x.vn, x.vq, x.vm⟩ hi.vm
  have cE := fun g => c_all x.eq x.es g hx.el (fun e he => hi.es _ (List.mem_map_of_mem he))
  have cP := c_pRight ⟨x.pn, x.pl⟩
  have hv := vm_vw hx
  have hee := hx.e
  have hlen : (x.es.map En.er).length = x.es.length := by simp
  rw [wrapFr hi hx.el]
  clear hi
  obtain hk | hk | hk | hk | hk | hk | hk | hk | hk | hk | hk | hk | hk | hk | hk : x.kd = 0 ∨ x.kd = 1 ∨ x.kd = 2 ∨ x.kd = 3 ∨ x.kd = 4 ∨ x.kd = 5 ∨ x.kd = 6 ∨ x.kd = 7 ∨ x.kd = 8 ∨ x.kd = 9 ∨ x.kd = 10 ∨ x.kd = 11 ∨ x.kd = 12 ∨ x.kd = 13 ∨ ¬ (0 ≤ x.kd ∧ x.kd ≤ 13) := by omega
  all_goals (obtain ⟨kd, gr, co, nn, fr, cm, fl, ba, ac, id, pq, ps, rc, rv, vg, vn, vq, vm, pn, pl, has, mq, ms, eq, es, tq, ts⟩ := x)
  all_goals (try (replace hk : kd = _ := hk))
  all_goals (try subst hk)
  all_goals (dsimp only)
  · repeat (first | rw [if_pos (by decide)] | rw [if_neg (by decide)])
    intro w1 L2 h1 g1
    exact cA.call (As := []) (C.hidL h1 g1) hx fun _ m2 w5 hk hm _ C => ⟨_, rfl, hk, Ctr.ret () (by rw [fP0 rfl]) trivial C⟩
  · repeat (first | rw [if_pos (by decide)] | rw [if_neg (by decide)])
    intro w1 L2 h1 g1
    refine (C.hidL h1 g1).gives cI fun w5 k5 C => ⟨_, rfl, k5, ?_⟩
    by_cases b1 : id.right = true
    rotate_left
    · rw [if_neg (by simpa using b1)]
      refine Ctr.ret () ?_ trivial C
      rw [fP1 rfl]
      show _ = Ending.returned (.bool (id.right && _ && _))
      rw [Bool.eq_false_iff.2 b1]; rfl
    rw [if_pos (by rw [b1]; rfl)]
    refine C.gives cR fun w6 k6 C => ⟨_, rfl, k6, ?_⟩
    by_cases b2 : Rs.right ⟨rc, rv⟩ = true
    rotate_left
    · rw [if_neg (by simpa using b2)]
      refine Ctr.ret () ?_ trivial C
      rw [fP1 rfl]
      show _ = Ending.returned (.bool (_ && Rs.right ⟨rc, rv⟩ && _))
      rw [Bool.eq_false_iff.2 b2]; simp
    rw [if_pos (by rw [b2]; rfl)]
    refine cW.call (As := []) C hv fun _ m2 w7 hk hm _ C => ⟨_, rfl, hk, Ctr.ret () ?_ trivial C⟩
    rw [fP1 rfl]
    show _ = Ending.returned (.bool (id.right && Rs.right ⟨rc, rv⟩ && _))
    rw [b1, b2]; rfl
  · repeat (first | rw [if_pos (by decide)] | rw [if_neg (by decide)])
    intro w1 L2 h1 g1
    exact (C.hidL h1 g1).gives cI fun w5 k5 C => ⟨_, rfl, k5, Ctr.ret () (by rw [fP2 rfl]; rfl) trivial C⟩
  · repeat (first | rw [if_pos (by decide)] | rw [if_neg (by decide)])
    by_cases b1 : (((decide (nn > 0) && decide (fr ≤ 400)) && decide (cm ≤ 400)) && decide (fr + ((es.length : Nat) : Int) ≤ 400)) = true
    · rw [if_pos (by rw [b1]; rfl)]
      intro w1 L2 h1 g1
      refine (cE gr).call (As := []) (C.hidL h1 g1) hee fun _ m2 w7 hk hm _ C => ⟨_, rfl, hk, Ctr.ret () ?_ trivial C⟩
      rw [fP3 rfl]
      show _ = Ending.returned (.bool ((((decide (nn > 0) && decide (fr ≤ 400)) && decide (cm ≤ 400)) && decide (fr + (((es.map En.er).length : Nat) : Int) ≤ 400)) && allE (es.map En.er) gr))
      rw [hlen, b1]
    · rw [if_neg (by simpa using b1)]
      intro w1 h1
      refine Ctr.ret () ?_ trivial (C.hid0 h1)
      rw [fP3 rfl]
      show _ = Ending.returned (.bool ((((decide (nn > 0) && decide (fr ≤ 400)) && decide (cm ≤ 400)) && decide (fr + (((es.map En.er).length : Nat) : Int) ≤ 400)) && allE (es.map En.er) gr))
      rw [hlen, Bool.eq_false_iff.2 b1]; rfl
  · repeat (first | rw [if_pos (by decide)] | rw [if_neg (by decide)])
    intro w1 h1
    exact Ctr.ret () (by rw [fP4 rfl]; rfl) trivial (C.hid0 h1)
  · repeat (first | rw [if_pos (by decide)] | rw [if_neg (by decide)])
    intro w1 h1
    exact Ctr.ret () (by rw [fP5 rfl]; rfl) trivial (C.hid0 h1)
  · repeat (first | rw [if_pos (by decide)] | rw [if_neg (by decide)])
    intro w1 h1
    exact Ctr.ret () (by rw [fP6 rfl]; rfl) trivial (C.hid0 h1)
  · repeat (first | rw [if_pos (by decide)] | rw [if_neg (by decide)])
    intro w1 h1
    exact Ctr.ret () (by rw [fP7 rfl]; rfl) trivial (C.hid0 h1)
  · repeat (first | rw [if_pos (by decide)] | rw [if_neg (by decide)])
    by_cases b1 : (decide (nn > 0) && decide (ba > 0)) = true
    rotate_left
    · rw [if_neg (by simpa using b1)]
      intro w1 h1
      refine Ctr.ret () ?_ trivial (C.hid0 h1)
      rw [fP8 rfl]
      show _ = Ending.returned (.bool ((decide (nn > 0) && decide (ba > 0)) && _ && _))
      rw [Bool.eq_false_iff.2 b1]; rfl
    rw [if_pos (by rw [b1]; rfl)]
    intro w1 L2 h1 g1
    refine (cE gr).call (As := []) (C.hidL h1 g1) hee fun _ m2 w7 hk hm _ C => ⟨_, rfl, hk, ?_⟩
    by_cases b2 : allE (es.map En.er) gr = true
    rotate_left
    · rw [if_neg (by simpa using b2)]
      refine Ctr.ret () ?_ trivial C
      rw [fP8 rfl]
      show _ = Ending.returned (.bool ((decide (nn > 0) && decide (ba > 0)) && allE (es.map En.er) gr && _))
      rw [Bool.eq_false_iff.2 b2]; simp
    rw [if_pos (by rw [b2]; rfl)]
    have e8 : ∀ b : Bool, (!has || (decide (ac > 0) && Mv.val (Mg.er ⟨8, gr, co, nn, fr, cm, fl, ba, ac, id, pq, ps, rc, rv, vg, vn, vq, vm, pn, pl, has, mq, ms, eq, es, tq, ts⟩))) = b → Ending.returned (Value.bool b) = Ending.returned (.bool (Mv.fieldsP (Mg.er ⟨8, gr, co, nn, fr, cm, fl, ba, ac, id, pq, ps, rc, rv, vg, vn, vq, vm, pn, pl, has, mq, ms, eq, es, tq, ts⟩))) := fun b h => by
      rw [fP8 rfl]
      show _ = Ending.returned (.bool ((decide (nn > 0) && decide (ba > 0)) && allE (es.map En.er) gr && (!has || (decide (ac > 0) && Mv.val _))))
      rw [b1, b2, h]; rfl
    cases has with
    | false =>
      rw [if_neg (by decide)]
      exact Ctr.ret () (e8 true rfl) trivial C
    | true =>
      rw [if_pos (by decide)]
      by_cases b3 : decide (ac > 0) = true
      · rw [if_pos (by rw [b3]; rfl)]
        refine cV.call (As := []) C (hx.mono hm) fun _ m3 w8 hk hm3 _ C => ⟨_, rfl, hk, Ctr.ret () (e8 _ ?_) trivial C⟩
        rw [b3]; simp
      · rw [if_neg (by simpa using b3)]
        refine Ctr.ret () (e8 _ ?_) trivial C
        rw [Bool.eq_false_iff.2 b3]; rfl
  · repeat (first | rw [if_pos (by decide)] | rw [if_neg (by decide)])
    by_cases b1 : (decide (nn > 0) && decide (ba > 0)) = true
    · rw [if_pos (by rw [b1]; rfl)]
      intro w1 L2 h1 g1
      refine cV.call (As := []) (C.hidL h1 g1) hx fun _ m3 w8 hk hm3 _ C => ⟨_, rfl, hk, Ctr.ret () ?_ trivial C⟩
      rw [fP9 rfl]
      show _ = Ending.returned (.bool ((decide (nn > 0) && decide (ba > 0)) && _))
      rw [b1]
    · rw [if_neg (by simpa using b1)]
      intro w1 h1
      refine Ctr.ret () ?_ trivial (C.hid0 h1)
      rw [fP9 rfl]
      show _ = Ending.returned (.bool ((decide (nn > 0) && decide (ba > 0)) && _))
      rw [Bool.eq_false_iff.2 b1]; rfl
  · repeat (first | rw [if_pos (by decide)] | rw [if_neg (by decide)])
    intro w1 L2 h1 g1
    refine cW.call (As := []) (C.hidL h1 g1) hv fun _ m2 w7 hk hm _ C => ⟨_, rfl, hk, ?_⟩
    by_cases b1 : Vw.ok ⟨vg, vn, vq, vm⟩ = true
    · rw [if_pos (by rw [b1]; rfl)]
      refine (cE vg).call (As := []) C (hee.mono hm) fun _ m2 w7 hk hm _ C => ⟨_, rfl, hk, Ctr.ret () ?_ trivial C⟩
      rw [fP10 rfl]
      show _ = Ending.returned (.bool (Vw.ok ⟨vg, vn, vq, vm⟩ && allE (es.map En.er) vg))
      rw [b1]
    · rw [if_neg (by simpa using b1)]
      refine Ctr.ret () ?_ trivial C
      rw [fP10 rfl]
      show _ = Ending.returned (.bool (Vw.ok ⟨vg, vn, vq, vm⟩ && allE (es.map En.er) vg))
      rw [Bool.eq_false_iff.2 b1]; rfl
  · repeat (first | rw [if_pos (by decide)] | rw [if_neg (by decide)])
    intro w1 L2 h1 g1
    exact (C.hidL h1 g1).gives cP fun w5 k5 C => ⟨_, rfl, k5, Ctr.ret () (by rw [fP11 rfl]; rfl) trivial C⟩
  · repeat (first | rw [if_pos (by decide)] | rw [if_neg (by decide)])
    intro w1 L2 h1 g1
    exact (C.hidL h1 g1).gives cP fun w5 k5 C => ⟨_, rfl, k5, Ctr.ret () (by rw [fP12 rfl]; rfl) trivial C⟩
  · repeat (first | rw [if_pos (by decide)] | rw [if_neg (by decide)])
    intro w1 L2 h1 g1
    exact (C.hidL h1 g1).gives cP fun w5 k5 C => ⟨_, rfl, k5, Ctr.ret () (by rw [fP13 rfl]; rfl) trivial C⟩
  · have n0 : ¬ ((kd == 0) = true) := by intro h; rw [beq_iff_eq] at h; subst h; exact hk (by show (0 : Int) ≤ 0 ∧ (0 : Int) ≤ 13; decide)
    have n1 : ¬ ((kd == 1) = true) := by intro h; rw [beq_iff_eq] at h; subst h; exact hk (by show (0 : Int) ≤ 1 ∧ (1 : Int) ≤ 13; decide)
    have n2 : ¬ ((kd == 2) = true) := by intro h; rw [beq_iff_eq] at h; subst h; exact hk (by show (0 : Int) ≤ 2 ∧ (2 : Int) ≤ 13; decide)
    have n3 : ¬ ((kd == 3) = true) := by intro h; rw [beq_iff_eq] at h; subst h; exact hk (by show (0 : Int) ≤ 3 ∧ (3 : Int) ≤ 13; decide)
    have n4 : ¬ ((kd == 4) = true) := by intro h; rw [beq_iff_eq] at h; subst h; exact hk (by show (0 : Int) ≤ 4 ∧ (4 : Int) ≤ 13; decide)
    have n5 : ¬ ((kd == 5) = true) := by intro h; rw [beq_iff_eq] at h; subst h; exact hk (by show (0 : Int) ≤ 5 ∧ (5 : Int) ≤ 13; decide)
    have n6 : ¬ ((kd == 6) = true) := by intro h; rw [beq_iff_eq] at h; subst h; exact hk (by show (0 : Int) ≤ 6 ∧ (6 : Int) ≤ 13; decide)
    have n7 : ¬ ((kd == 7) = true) := by intro h; rw [beq_iff_eq] at h; subst h; exact hk (by show (0 : Int) ≤ 7 ∧ (7 : Int) ≤ 13; decide)
    have n8 : ¬ ((kd == 8) = true) := by intro h; rw [beq_iff_eq] at h; subst h; exact hk (by show (0 : Int) ≤ 8 ∧ (8 : Int) ≤ 13; decide)
    have n9 : ¬ ((kd == 9) = true) := by intro h; rw [beq_iff_eq] at h; subst h; exact hk (by show (0 : Int) ≤ 9 ∧ (9 : Int) ≤ 13; decide)
    have n10 : ¬ ((kd == 10) = true) := by intro h; rw [beq_iff_eq] at h; subst h; exact hk (by show (0 : Int) ≤ 10 ∧ (10 : Int) ≤ 13; decide)
    have n11 : ¬ ((kd == 11) = true) := by intro h; rw [beq_iff_eq] at h; subst h; exact hk (by show (0 : Int) ≤ 11 ∧ (11 : Int) ≤ 13; decide)
    have n12 : ¬ ((kd == 12) = true) := by intro h; rw [beq_iff_eq] at h; subst h; exact hk (by show (0 : Int) ≤ 12 ∧ (12 : Int) ≤ 13; decide)
    have n13 : ¬ ((kd == 13) = true) := by intro h; rw [beq_iff_eq] at h; subst h; exact hk (by show (0 : Int) ≤ 13 ∧ (13 : Int) ≤ 13; decide)
    rw [if_neg n0, if_neg n1, if_neg n2, if_neg n3, if_neg n4, if_neg n5, if_neg n6, if_neg n7, if_neg n8, if_neg n9, if_neg n10, if_neg n11, if_neg n12, if_neg n13]
    intro w1 h1
    exact Ctr.ret () (by rw [fPo hk]) trivial (C.hid0 h1)
theorem c_mOnly (x : Mg) : Ctr Try.prog 35 #[.agg x.row.toArray] (fun m => MgM m x) [] (fun y : Mg => .agg y.row.toArray) (fun y m => MgM m y ∧ y.er = x.er.onlyP) (fun _ => []) := by
  refine Ctr.mk fun w F m C hx => x_mOnly _ _ _ _ _ _ _ _ _ _ _ _ _ _ _ _ _ _ _ _ _ _ _ _ _ _ _ _ _ _ _ _ _ _ _ _ _ _ _ _ _ w _ ?_
  obtain hk | hk | hk | hk | hk | hk | hk | hk | hk | hk | hk | hk | hk | hk | hk : x.kd = 0 ∨ x.kd = 1 ∨ x.kd = 2 ∨ x.kd = 3 ∨ x.kd = 4 ∨ x.kd = 5 ∨ x.kd = 6 ∨ x.kd = 7 ∨ x.kd = 8 ∨ x.kd = 9 ∨ x.kd = 10 ∨ x.kd = 11 ∨ x.kd = 12 ∨ x.kd = 13 ∨ ¬ (0 ≤ x.kd ∧ x.kd ≤ 13) := by omega
  all_goals (obtain ⟨kd, gr, co, nn, fr, cm, fl, ba, ac, id, pq, ps, rc, rv, vg, vn, vq, vm, pn, pl, has, mq, ms, eq, es, tq, ts⟩ := x)
  all_goals (try (replace hk : kd = _ := hk))
  all_goals (try subst hk)
  all_goals (dsimp only)
  · repeat (first | rw [if_pos (by decide)] | rw [if_neg (by decide)])
    exact ⟨[], facts_nil _ _, fun w1 h1 => Ctr.ret (m' := m) (L := []) (Mg.o0 _) rfl ⟨oM0 hx, by rw [oP0 rfl]; rfl⟩ (C.hid0 h1)⟩
  · repeat (first | rw [if_pos (by decide)] | rw [if_neg (by decide)])
    exact fun w1 h1 => Ctr.ret (m' := m) (L := []) (Mg.o1 _) rfl ⟨oM1 hx, by rw [oP1 rfl]; rfl⟩ (C.hid0 h1)
  · repeat (first | rw [if_pos (by decide)] | rw [if_neg (by decide)])
    exact fun w1 h1 => Ctr.ret (m' := m) (L := []) (Mg.o2 _) rfl ⟨oM2 hx, by rw [oP2 rfl]; rfl⟩ (C.hid0 h1)
  · repeat (first | rw [if_pos (by decide)] | rw [if_neg (by decide)])
    exact ⟨[], facts_nil _ _, ⟨[], facts_nil _ _, fun w1 h1 => Ctr.ret (m' := m) (L := []) (Mg.o3 _) rfl ⟨oM3 hx, by rw [oP3 rfl]; rfl⟩ (C.hid0 h1)⟩⟩
  · repeat (first | rw [if_pos (by decide)] | rw [if_neg (by decide)])
    exact ⟨[], facts_nil _ _, fun w1 h1 => Ctr.ret (m' := m) (L := []) (Mg.o4 _) rfl ⟨oM4 hx, by rw [oP4 rfl]; rfl⟩ (C.hid0 h1)⟩
  · repeat (first | rw [if_pos (by decide)] | rw [if_neg (by decide)])
    exact ⟨[], facts_nil _ _, fun w1 h1 => Ctr.ret (m' := m) (L := []) (Mg.o5 _) rfl ⟨oM5 hx, by rw [oP5 rfl]; rfl⟩ (C.hid0 h1)⟩
  · repeat (first | rw [if_pos (by decide)] | rw [if_neg (by decide)])
    exact ⟨[], facts_nil _ _, fun w1 h1 => Ctr.ret (m' := m) (L := []) (Mg.o5 _) rfl ⟨oM5 hx, by rw [oP6 rfl]; rfl⟩ (C.hid0 h1)⟩
  · repeat (first | rw [if_pos (by decide)] | rw [if_neg (by decide)])
    exact ⟨[], facts_nil _ _, fun w1 h1 => Ctr.ret (m' := m) (L := []) (Mg.o5 _) rfl ⟨oM5 hx, by rw [oP7 rfl]; rfl⟩ (C.hid0 h1)⟩
  · repeat (first | rw [if_pos (by decide)] | rw [if_neg (by decide)])
    refine ⟨[], facts_nil _ _, ?_⟩
    cases has with
    | true =>
      rw [if_pos rfl]
      exact ⟨[], facts_nil _ _, [], facts_nil _ _, fun w1 h1 => Ctr.ret (m' := m) (L := []) (Mg.o8t _) rfl ⟨oM8t hx, by rw [oP8 rfl]; rfl⟩ (C.hid0 h1)⟩
    | false =>
      rw [if_neg (by decide)]
      exact ⟨[], facts_nil _ _, fun w1 h1 => Ctr.ret (m' := m) (L := []) (Mg.o8f _) rfl ⟨oM8f hx, by rw [oP8 rfl]; rfl⟩ (C.hid0 h1)⟩
  · repeat (first | rw [if_pos (by decide)] | rw [if_neg (by decide)])
    exact ⟨[], facts_nil _ _, ⟨[], facts_nil _ _, fun w1 h1 => Ctr.ret (m' := m) (L := []) (Mg.o9 _) rfl ⟨oM9 hx, by rw [oP9 rfl]; rfl⟩ (C.hid0 h1)⟩⟩
  · repeat (first | rw [if_pos (by decide)] | rw [if_neg (by decide)])
    exact fun w1 h1 => Ctr.ret (m' := m) (L := []) (Mg.o10 _) rfl ⟨oM10 hx, by rw [oP10 rfl]; rfl⟩ (C.hid0 h1)
  · repeat (first | rw [if_pos (by decide)] | rw [if_neg (by decide)])
    exact fun w1 h1 => Ctr.ret (m' := m) (L := []) (Mg.o11 _) rfl ⟨oM11 hx, by rw [oP11 rfl]; rfl⟩ (C.hid0 h1)
  · repeat (first | rw [if_pos (by decide)] | rw [if_neg (by decide)])
    exact fun w1 h1 => Ctr.ret (m' := m) (L := []) (Mg.o11 _) rfl ⟨oM11 hx, by rw [oP12 rfl]; rfl⟩ (C.hid0 h1)
  · repeat (first | rw [if_pos (by decide)] | rw [if_neg (by decide)])
    exact fun w1 h1 => Ctr.ret (m' := m) (L := []) (Mg.o11 _) rfl ⟨oM11 hx, by rw [oP13 rfl]; rfl⟩ (C.hid0 h1)
  · have n0 : ¬ ((kd == 0) = true) := by intro h; rw [beq_iff_eq] at h; subst h; exact hk (by show (0 : Int) ≤ 0 ∧ (0 : Int) ≤ 13; decide)
    have n1 : ¬ ((kd == 1) = true) := by intro h; rw [beq_iff_eq] at h; subst h; exact hk (by show (0 : Int) ≤ 1 ∧ (1 : Int) ≤ 13; decide)
    have n2 : ¬ ((kd == 2) = true) := by intro h; rw [beq_iff_eq] at h; subst h; exact hk (by show (0 : Int) ≤ 2 ∧ (2 : Int) ≤ 13; decide)
    have n3 : ¬ ((kd == 3) = true) := by intro h; rw [beq_iff_eq] at h; subst h; exact hk (by show (0 : Int) ≤ 3 ∧ (3 : Int) ≤ 13; decide)
    have n4 : ¬ ((kd == 4) = true) := by intro h; rw [beq_iff_eq] at h; subst h; exact hk (by show (0 : Int) ≤ 4 ∧ (4 : Int) ≤ 13; decide)
    have n5 : ¬ ((kd == 5) = true) := by intro h; rw [beq_iff_eq] at h; subst h; exact hk (by show (0 : Int) ≤ 5 ∧ (5 : Int) ≤ 13; decide)
    have n6 : ¬ ((kd == 6) = true) := by intro h; rw [beq_iff_eq] at h; subst h; exact hk (by show (0 : Int) ≤ 6 ∧ (6 : Int) ≤ 13; decide)
    have n7 : ¬ ((kd == 7) = true) := by intro h; rw [beq_iff_eq] at h; subst h; exact hk (by show (0 : Int) ≤ 7 ∧ (7 : Int) ≤ 13; decide)
    have n8 : ¬ ((kd == 8) = true) := by intro h; rw [beq_iff_eq] at h; subst h; exact hk (by show (0 : Int) ≤ 8 ∧ (8 : Int) ≤ 13; decide)
    have n9 : ¬ ((kd == 9) = true) := by intro h; rw [beq_iff_eq] at h; subst h; exact hk (by show (0 : Int) ≤ 9 ∧ (9 : Int) ≤ 13; decide)
    have n10 : ¬ ((kd == 10) = true) := by intro h; rw [beq_iff_eq] at h; subst h; exact hk (by show (0 : Int) ≤ 10 ∧ (10 : Int) ≤ 13; decide)
    have n11 : ¬ ((kd == 11) = true) := by intro h; rw [beq_iff_eq] at h; subst h; exact hk (by show (0 : Int) ≤ 11 ∧ (11 : Int) ≤ 13; decide)
    have n12 : ¬ ((kd == 12) = true) := by intro h; rw [beq_iff_eq] at h; subst h; exact hk (by show (0 : Int) ≤ 12 ∧ (12 : Int) ≤ 13; decide)
    have n13 : ¬ ((kd == 13) = true) := by intro h; rw [beq_iff_eq] at h; subst h; exact hk (by show (0 : Int) ≤ 13 ∧ (13 : Int) ≤ 13; decide)
    repeat (first | rw [if_neg n0] | rw [if_neg n1] | rw [if_neg n2] | rw [if_neg n3] | rw [if_neg n4] | rw [if_neg n5] | rw [if_neg n6] | rw [if_neg n7] | rw [if_neg n8] | rw [if_neg n9] | rw [if_neg n10] | rw [if_neg n11] | rw [if_neg n12] | rw [if_neg n13])
    exact fun w1 h1 => Ctr.ret (m' := m) (L := []) (Mg.oo _) rfl ⟨oMo hx, by rw [oPo hk]; rfl⟩ (C.hid0 h1)
end Go.Proofs
namespace Go.Proofs
open Go X RowKit
/-! ### two messages held against each other -/
theorem er_no {a b : Mg} {c : Bool} (h : ¬ c = true) (hc : a.er = b.er → c = true) : decide (a.er = b.er) = false := decide_eq_false (fun e => h (hc e))
theorem lenEq {l l' : List En} (h : l.map En.er = l'.map En.er) : l.length = l'.length := by simpa using congrArg List.length h
theorem c_mSame (a b : Mg) : Ctr Try.prog 12 #[.agg a.row.toArray, .agg b.row.toArray] (fun m => MgM m a ∧ MgM m b) [] (fun _ : Unit => .bool (decide (a.er = b.er))) (fun _ _ => True) (fun _ => []) := by
  refine Ctr.mk fun w F m C hp => x_mSame _ _ _ _ _ _ _ _ _ _ _ _ _ _ _ _ _ _ _ _ _ _ _ _ _ _ _ _ _ _ _ _ _ _ _ _ _ _ _ _ _ _ _ _ _ _ _ _ _ _ _ _ _ _ _ _ _ _ _ _ _ _ _ _ _ _ _ _ _ _ _ _ _ _ _ _ _ _ _ _ _ _ w _ fun w1 L2 h1 g1 => ?_
  obtain ⟨ha, hb⟩ := hp
  refine (c_pSame a.pq b.pq a.ps b.ps (by have := ha.pl; omega)).call (As := []) (C.hidL h1 g1) ⟨ha.p, hb.p⟩ fun _ m1 w4 hk hm _ C => ⟨_, rfl, hk, ?_⟩
  replace ha := ha.mono hm; replace hb := hb.mono hm
  by_cases n_ps : decide (a.ps = b.ps) = true
  rotate_left
  · rw [if_neg (by rw [Bool.eq_false_iff.2 n_ps]; decide)]
    refine Ctr.ret () ?_ trivial C
    rw [er_no n_ps (fun h => by have e : a.ps = b.ps := congrArg Mv.ps h; exact decide_eq_true e)]; simp only [Bool.false_and]
  rw [if_pos (by rw [n_ps]; rfl)]
  refine (c_vSame ⟨a.vg, a.vn, a.vq, a.vm⟩ ⟨b.vg, b.vn, b.vq, b.vm⟩ ha.vl).call (As := []) C ⟨ha.v, hb.v⟩ fun _ m1 w7 hk hm _ C => ⟨_, rfl, hk, ?_⟩
  replace ha := ha.mono hm; replace hb := hb.mono hm
  by_cases n_v : ((a.vg == b.vg) && (a.vn == b.vn) && decide (a.vm = b.vm)) = true
  rotate_left
  · rw [if_neg (by rw [Bool.eq_false_iff.2 n_v]; decide)]
    refine Ctr.ret () ?_ trivial C
    rw [er_no n_v (fun h => by have e1 : a.vg = b.vg := congrArg Mv.vg h; have e2 : a.vn = b.vn := congrArg Mv.vn h; have e3 : a.vm = b.vm := congrArg Mv.vm h; rw [e1, e2, e3]; simp)]; simp only [Bool.false_and]
  rw [if_pos (by rw [n_v]; rfl)]
  refine (c_EqualPr a.mq b.mq a.ms b.ms (by have := ha.ml; omega)).call (As := []) C ⟨ha.mm, hb.mm⟩ fun _ m1 w7 hk hm _ C => ⟨_, rfl, hk, ?_⟩
  replace ha := ha.mono hm; replace hb := hb.mono hm
  by_cases n_ms : decide (a.ms = b.ms) = true
  rotate_left
  · rw [if_neg (by rw [Bool.eq_false_iff.2 n_ms]; decide)]
    refine Ctr.ret () ?_ trivial C
    rw [er_no n_ms (fun h => by have e : a.ms = b.ms := congrArg Mv.ms h; exact decide_eq_true e)]; simp only [Bool.false_and]
  rw [if_pos (by rw [n_ms]; rfl)]
  refine (c_eSameAll a.eq b.eq a.es b.es (by have := ha.el; omega)).call (As := []) C ⟨ha.e, hb.e⟩ fun _ m1 w7 hk hm _ C => ⟨_, rfl, hk, ?_⟩
  replace ha := ha.mono hm; replace hb := hb.mono hm
  by_cases n_es : decide (a.es.map En.er = b.es.map En.er) = true
  rotate_left
  · rw [if_neg (by rw [Bool.eq_false_iff.2 n_es]; decide)]
    refine Ctr.ret () ?_ trivial C
    rw [er_no n_es (fun h => by have e : a.es.map En.er = b.es.map En.er := congrArg Mv.es h; exact decide_eq_true e)]; simp only [Bool.false_and]
  rw [if_pos (by rw [n_es]; rfl)]
  refine (c_eSameAll a.tq b.tq a.ts b.ts (by have := ha.tl; omega)).call (As := []) C ⟨ha.t, hb.t⟩ fun _ m1 w7 hk hm _ C => ⟨_, rfl, hk, ?_⟩
  refine Ctr.ret () ?_ trivial C
  by_cases n_ts : decide (a.ts.map En.er = b.ts.map En.er) = true
  rotate_left
  · rw [er_no n_ts (fun h => by have e : a.ts.map En.er = b.ts.map En.er := congrArg Mv.ts h; exact decide_eq_true e), Bool.eq_false_iff.2 n_ts]; simp only [Bool.false_and, Bool.and_false, Bool.true_and]
  by_cases n_kd : (a.kd == b.kd) = true
  rotate_left
  · rw [er_no n_kd (fun h => by have e := congrArg Mv.kd h; exact beq_iff_eq.2 e), Bool.eq_false_iff.2 n_kd]; simp only [Bool.false_and, Bool.and_false, Bool.true_and]
  by_cases n_gr : (a.gr == b.gr) = true
  rotate_left
  · rw [er_no n_gr (fun h => by have e := congrArg Mv.gr h; exact beq_iff_eq.2 e), Bool.eq_false_iff.2 n_gr]; simp only [Bool.false_and, Bool.and_false, Bool.true_and]
  by_cases n_co : (a.co == b.co) = true
  rotate_left
  · rw [er_no n_co (fun h => by have e := congrArg Mv.co h; exact beq_iff_eq.2 e), Bool.eq_false_iff.2 n_co]; simp only [Bool.false_and, Bool.and_false, Bool.true_and]
  by_cases n_nn : (a.nn == b.nn) = true
  rotate_left
  · rw [er_no n_nn (fun h => by have e := congrArg Mv.nn h; exact beq_iff_eq.2 e), Bool.eq_false_iff.2 n_nn]; simp only [Bool.false_and, Bool.and_false, Bool.true_and]
  by_cases n_fr : (a.fr == b.fr) = true
  rotate_left
  · rw [er_no n_fr (fun h => by have e := congrArg Mv.fr h; exact beq_iff_eq.2 e), Bool.eq_false_iff.2 n_fr]; simp only [Bool.false_and, Bool.and_false, Bool.true_and]
  by_cases n_cm : (a.cm == b.cm) = true
  rotate_left
  · rw [er_no n_cm (fun h => by have e := congrArg Mv.cm h; exact beq_iff_eq.2 e), Bool.eq_false_iff.2 n_cm]; simp only [Bool.false_and, Bool.and_false, Bool.true_and]
  by_cases n_fl : (a.fl == b.fl) = true
  rotate_left
  · rw [er_no n_fl (fun h => by have e := congrArg Mv.fl h; exact beq_iff_eq.2 e), Bool.eq_false_iff.2 n_fl]; simp only [Bool.false_and, Bool.and_false, Bool.true_and]
  by_cases n_ba : (a.ba == b.ba) = true
  rotate_left
  · rw [er_no n_ba (fun h => by have e := congrArg Mv.ba h; exact beq_iff_eq.2 e), Bool.eq_false_iff.2 n_ba]; simp only [Bool.false_and, Bool.and_false, Bool.true_and]
  by_cases n_ac : (a.ac == b.ac) = true
  rotate_left
  · rw [er_no n_ac (fun h => by have e := congrArg Mv.ac h; exact beq_iff_eq.2 e), Bool.eq_false_iff.2 n_ac]; simp only [Bool.false_and, Bool.and_false, Bool.true_and]
  by_cases n_id : (((a.id.n == b.id.n) && (a.id.l == b.id.l)) && ((a.id.s == b.id.s) && ((a.id.d == b.id.d) && (((a.id.g0 == b.id.g0) && (a.id.i0 == b.id.i0)) && (((a.id.g1 == b.id.g1) && (a.id.i1 == b.id.i1)) && ((a.id.g2 == b.id.g2) && (a.id.i2 == b.id.i2))))))) = true
  rotate_left
  · rw [er_no n_id (fun h => by have e : a.id = b.id := congrArg Mv.id h; rw [i_eqd]; exact decide_eq_true e), Bool.eq_false_iff.2 n_id]; simp only [Bool.false_and, Bool.and_false, Bool.true_and]
  by_cases n_res : ((a.rc == b.rc) && (a.rv == b.rv)) = true
  rotate_left
  · rw [er_no n_res (fun h => by have e1 : a.rc = b.rc := congrArg Mv.rc h; have e2 : a.rv = b.rv := congrArg Mv.rv h; rw [Bool.and_eq_true]; exact ⟨beq_iff_eq.2 e1, (ba_eq _ _).2 e2⟩), Bool.eq_false_iff.2 n_res]; simp only [Bool.false_and, Bool.and_false, Bool.true_and]
  by_cases n_proc : ((a.pn == b.pn) && (a.pl == b.pl)) = true
  rotate_left
  · rw [er_no n_proc (fun h => by have e1 : a.pn = b.pn := congrArg Mv.pn h; have e2 : a.pl = b.pl := congrArg Mv.pl h; rw [Bool.and_eq_true]; exact ⟨beq_iff_eq.2 e1, beq_iff_eq.2 e2⟩), Bool.eq_false_iff.2 n_proc]; simp only [Bool.false_and, Bool.and_false, Bool.true_and]
  by_cases n_has : (a.has == b.has) = true
  rotate_left
  · rw [er_no n_has (fun h => by have e := congrArg Mv.has h; exact beq_iff_eq.2 e), Bool.eq_false_iff.2 n_has]; simp only [Bool.false_and, Bool.and_false, Bool.true_and]
  have e : a.er = b.er := by
    exact mv_ext ⟨beq_iff_eq.1 n_kd, beq_iff_eq.1 n_gr, beq_iff_eq.1 n_co, beq_iff_eq.1 n_nn, beq_iff_eq.1 n_fr, beq_iff_eq.1 n_cm, beq_iff_eq.1 n_fl, beq_iff_eq.1 n_ba, beq_iff_eq.1 n_ac, by rw [i_eqd] at n_id; exact of_decide_eq_true n_id, of_decide_eq_true n_ps, by rw [Bool.and_eq_true] at n_res; exact beq_iff_eq.1 n_res.1, by rw [Bool.and_eq_true] at n_res; exact (ba_eq _ _).1 n_res.2, by simp only [Bool.and_eq_true, beq_iff_eq] at n_v; exact n_v.1.1, by simp only [Bool.and_eq_true, beq_iff_eq] at n_v; exact n_v.1.2, by simp only [Bool.and_eq_true, decide_eq_true_eq] at n_v; exact n_v.2, by rw [Bool.and_eq_true] at n_proc; exact beq_iff_eq.1 n_proc.1, by rw [Bool.and_eq_true] at n_proc; exact beq_iff_eq.1 n_proc.2, by exact beq_iff_eq.1 n_has, of_decide_eq_true n_ms, of_decide_eq_true n_es, of_decide_eq_true n_ts⟩
  rw [decide_eq_true e, n_ts, n_kd, n_gr, n_co, n_nn, n_fr, n_cm, n_fl, n_ba, n_ac, n_id, n_res, n_proc, n_has]; rfl
theorem c_r7Same (a b : Mg) : Ctr Try.prog 13 #[.agg a.row.toArray, .agg b.row.toArray] (fun m => MgM m a ∧ MgM m b) [] (fun _ : Unit => .bool (decide (a.er = b.er))) (fun _ _ => True) (fun _ => []) := by
  refine Ctr.mk fun w F m C hp => x_r7Same _ _ _ _ _ _ _ _ _ _ _ _ _ _ _ _ _ _ _ _ _ _ _ _ _ _ _ _ _ _ _ _ _ _ _ _ _ _ _ _ _ _ _ _ _ _ _ _ _ _ _ _ _ _ _ _ _ _ _ _ _ _ _ _ _ _ _ _ _ _ _ _ _ _ _ _ _ _ _ _ _ _ w _ fun w1 L2 h1 g1 => ?_
  obtain ⟨ha, hb⟩ := hp
  replace C := (C.hidL h1 g1).alloc b.row 40
  refine ⟨b.kd, C.blkCell (j := 0) rfl, C.blkAt.2, ?_⟩
  by_cases n_kd : (a.kd == b.kd) = true
  rotate_left
  · rw [if_neg (by rw [Bool.eq_false_iff.2 n_kd]; decide)]
    refine Ctr.ret (m' := _) (L := _) () ?_ trivial C.drop
    rw [er_no n_kd (fun h => by have e := congrArg Mv.kd h; exact beq_iff_eq.2 e)]
  rw [if_pos (by rw [n_kd]; rfl)]
  refine ⟨b.gr, C.blkCell (j := 1) rfl, C.blkAt.2, ?_⟩
  by_cases n_gr : (a.gr == b.gr) = true
  rotate_left
  · rw [if_neg (by rw [Bool.eq_false_iff.2 n_gr]; decide)]
    refine Ctr.ret (m' := _) (L := _) () ?_ trivial C.drop
    rw [er_no n_gr (fun h => by have e := congrArg Mv.gr h; exact beq_iff_eq.2 e)]
  rw [if_pos (by rw [n_gr]; rfl)]
  refine ⟨b.co, C.blkCell (j := 2) rfl, C.blkAt.2, ?_⟩
  by_cases n_co : (a.co == b.co) = true
  rotate_left
  · rw [if_neg (by rw [Bool.eq_false_iff.2 n_co]; decide)]
    refine Ctr.ret (m' := _) (L := _) () ?_ trivial C.drop
    rw [er_no n_co (fun h => by have e := congrArg Mv.co h; exact beq_iff_eq.2 e)]
  rw [if_pos (by rw [n_co]; rfl)]
  refine ⟨b.nn, C.blkCell (j := 3) rfl, C.blkAt.2, ?_⟩
  by_cases n_nn : (a.nn == b.nn) = true
  rotate_left
  · rw [if_neg (by rw [Bool.eq_false_iff.2 n_nn]; decide)]
    refine Ctr.ret (m' := _) (L := _) () ?_ trivial C.drop
    rw [er_no n_nn (fun h => by have e := congrArg Mv.nn h; exact beq_iff_eq.2 e)]
  rw [if_pos (by rw [n_nn]; rfl)]
  refine ⟨b.fr, C.blkCell (j := 4) rfl, C.blkAt.2, ?_⟩
  by_cases n_fr : (a.fr == b.fr) = true
  rotate_left
  · rw [if_neg (by rw [Bool.eq_false_iff.2 n_fr]; decide)]
    refine Ctr.ret (m' := _) (L := _) () ?_ trivial C.drop
    rw [er_no n_fr (fun h => by have e := congrArg Mv.fr h; exact beq_iff_eq.2 e)]
  rw [if_pos (by rw [n_fr]; rfl)]
  refine ⟨b.cm, C.blkCell (j := 5) rfl, C.blkAt.2, ?_⟩
  by_cases n_cm : (a.cm == b.cm) = true
  rotate_left
  · rw [if_neg (by rw [Bool.eq_false_iff.2 n_cm]; decide)]
    refine Ctr.ret (m' := _) (L := _) () ?_ trivial C.drop
    rw [er_no n_cm (fun h => by have e := congrArg Mv.cm h; exact beq_iff_eq.2 e)]
  rw [if_pos (by rw [n_cm]; rfl)]
  refine ⟨b.fl, C.blkCell (j := 6) rfl, C.blkAt.2, ?_⟩
  by_cases n_fl : (a.fl == b.fl) = true
  rotate_left
  · rw [if_neg (by rw [Bool.eq_false_iff.2 n_fl]; decide)]
    refine Ctr.ret (m' := _) (L := _) () ?_ trivial C.drop
    rw [er_no n_fl (fun h => by have e := congrArg Mv.fl h; exact beq_iff_eq.2 e)]
  rw [if_pos (by rw [n_fl]; rfl)]
  refine ⟨b.ba, C.blkCell (j := 7) rfl, C.blkAt.2, ?_⟩
  by_cases n_ba : (a.ba == b.ba) = true
  rotate_left
  · rw [if_neg (by rw [Bool.eq_false_iff.2 n_ba]; decide)]
    refine Ctr.ret (m' := _) (L := _) () ?_ trivial C.drop
    rw [er_no n_ba (fun h => by have e := congrArg Mv.ba h; exact beq_iff_eq.2 e)]
  rw [if_pos (by rw [n_ba]; rfl)]
  refine ⟨b.ac, C.blkCell (j := 8) rfl, C.blkAt.2, ?_⟩
  by_cases n_ac : (a.ac == b.ac) = true
  rotate_left
  · rw [if_neg (by rw [Bool.eq_false_iff.2 n_ac]; decide)]
    refine Ctr.ret (m' := _) (L := _) () ?_ trivial C.drop
    rw [er_no n_ac (fun h => by have e := congrArg Mv.ac h; exact beq_iff_eq.2 e)]
  rw [if_pos (by rw [n_ac]; rfl)]
  refine ⟨_, _, _, _, _, _, _, _, _, _, C.blkCells (o := 9) (fun j v h => by rcases j with _ | _ | _ | _ | _ | _ | _ | _ | _ | _ | j <;> first | exact h | (simp at h)), C.blkAt.2, ?_⟩
  by_cases n_id : (((a.id.n == b.id.n) && (a.id.l == b.id.l)) && ((a.id.s == b.id.s) && ((a.id.d == b.id.d) && (((a.id.g0 == b.id.g0) && (a.id.i0 == b.id.i0)) && (((a.id.g1 == b.id.g1) && (a.id.i1 == b.id.i1)) && ((a.id.g2 == b.id.g2) && (a.id.i2 == b.id.i2))))))) = true
  rotate_left
  · rw [if_neg (by rw [Bool.eq_false_iff.2 n_id]; decide)]
    refine Ctr.ret (m' := _) (L := _) () ?_ trivial C.drop
    rw [er_no n_id (fun h => by have e : a.id = b.id := congrArg Mv.id h; rw [i_eqd]; exact decide_eq_true e)]
  rw [if_pos (by rw [n_id]; rfl)]
  refine ⟨b.pq.1, b.ps.length, b.pq.2, C.blkCell (j := 19) rfl, C.blkAt.2, ?_⟩
  refine (c_r3Same a.pq b.pq a.ps b.ps (by have := ha.pl; omega)).call (As := [_]) C ⟨ha.p, hb.p⟩ fun _ m1 w4 hk hm _ C => ⟨_, rfl, hk, ?_⟩
  replace ha := ha.mono hm; replace hb := hb.mono hm
  by_cases n_ps : decide (a.ps = b.ps) = true
  rotate_left
  · rw [if_neg (by rw [Bool.eq_false_iff.2 n_ps]; decide)]
    refine Ctr.ret (m' := _) (L := _) () ?_ trivial C.drop
    rw [er_no n_ps (fun h => by have e : a.ps = b.ps := congrArg Mv.ps h; exact decide_eq_true e)]
  rw [if_pos (by rw [n_ps]; rfl)]
  refine ⟨_, _, C.blkCells (o := 20) (fun j v h => by rcases j with _ | _ | j <;> first | exact h | (simp at h)), C.blkAt.2, ?_⟩
  by_cases n_res : ((a.rc == b.rc) && (a.rv == b.rv)) = true
  rotate_left
  · rw [if_neg (by rw [Bool.eq_false_iff.2 n_res]; decide)]
    refine Ctr.ret (m' := _) (L := _) () ?_ trivial C.drop
    rw [er_no n_res (fun h => by have e1 : a.rc = b.rc := congrArg Mv.rc h; have e2 : a.rv = b.rv := congrArg Mv.rv h; rw [Bool.and_eq_true]; exact ⟨beq_iff_eq.2 e1, (ba_eq _ _).2 e2⟩)]
  rw [if_pos (by rw [n_res]; rfl)]
  refine ⟨b.vg, b.vn, b.vq.1, b.vm.length, b.vq.2, C.blkCells (o := 22) (fun j v h => by rcases j with _ | _ | _ | j <;> first | exact h | (simp at h)), C.blkAt.2, ?_⟩
  refine (c_r6Same ⟨a.vg, a.vn, a.vq, a.vm⟩ ⟨b.vg, b.vn, b.vq, b.vm⟩ ha.vl).call (As := [_]) C ⟨ha.v, hb.v⟩ fun _ m1 w7 hk hm _ C => ⟨_, rfl, hk, ?_⟩
  replace ha := ha.mono hm; replace hb := hb.mono hm
  by_cases n_v : ((a.vg == b.vg) && (a.vn == b.vn) && decide (a.vm = b.vm)) = true
  rotate_left
  · rw [if_neg (by rw [Bool.eq_false_iff.2 n_v]; decide)]
    refine Ctr.ret (m' := _) (L := _) () ?_ trivial C.drop
    rw [er_no n_v (fun h => by have e1 : a.vg = b.vg := congrArg Mv.vg h; have e2 : a.vn = b.vn := congrArg Mv.vn h; have e3 : a.vm = b.vm := congrArg Mv.vm h; rw [e1, e2, e3]; simp)]
  rw [if_pos (by rw [n_v]; rfl)]
  refine ⟨_, _, C.blkCells (o := 25) (fun j v h => by rcases j with _ | _ | j <;> first | exact h | (simp at h)), C.blkAt.2, ?_⟩
  by_cases n_proc : ((a.pn == b.pn) && (a.pl == b.pl)) = true
  rotate_left
  · rw [if_neg (by rw [Bool.eq_false_iff.2 n_proc]; decide)]
    refine Ctr.ret (m' := _) (L := _) () ?_ trivial C.drop
    rw [er_no n_proc (fun h => by have e1 : a.pn = b.pn := congrArg Mv.pn h; have e2 : a.pl = b.pl := congrArg Mv.pl h; rw [Bool.and_eq_true]; exact ⟨beq_iff_eq.2 e1, beq_iff_eq.2 e2⟩)]
  rw [if_pos (by rw [n_proc]; rfl)]
  refine ⟨b.has, C.blkCell (j := 27) rfl, C.blkAt.2, ?_⟩
  by_cases n_has : (a.has == b.has) = true
  rotate_left
  · rw [if_neg (by rw [Bool.eq_false_iff.2 n_has]; decide)]
    refine Ctr.ret (m' := _) (L := _) () ?_ trivial C.drop
    rw [er_no n_has (fun h => by have e := congrArg Mv.has h; exact beq_iff_eq.2 e)]
  rw [if_pos (by rw [n_has]; rfl)]
  refine ⟨b.mq.1, b.ms.length, b.mq.2, C.blkCell (j := 28) rfl, C.blkAt.2, ?_⟩
  refine (c_SameProcs a.mq b.mq a.ms b.ms (by have := ha.ml; omega)).call (As := [_]) C ⟨ha.mm, hb.mm⟩ fun _ m1 w7 hk hm _ C => ⟨_, rfl, hk, ?_⟩
  replace ha := ha.mono hm; replace hb := hb.mono hm
  by_cases n_ms : decide (a.ms = b.ms) = true
  rotate_left
  · rw [if_neg (by rw [Bool.eq_false_iff.2 n_ms]; decide)]
    refine Ctr.ret (m' := _) (L := _) () ?_ trivial C.drop
    rw [er_no n_ms (fun h => by have e : a.ms = b.ms := congrArg Mv.ms h; exact decide_eq_true e)]
  rw [if_pos (by rw [n_ms]; rfl)]
  refine ⟨b.eq.1, b.es.length, b.eq.2, C.blkCell (j := 29) rfl, C.blkAt.2, ?_⟩
  refine (c_rSameAll a.eq b.eq a.es b.es (by have := ha.el; omega)).call (As := [_]) C ⟨ha.e, hb.e⟩ fun _ m1 w7 hk hm _ C => ⟨_, rfl, hk, ?_⟩
  replace ha := ha.mono hm; replace hb := hb.mono hm
  by_cases n_es : decide (a.es.map En.er = b.es.map En.er) = true
  rotate_left
  · rw [if_neg (by rw [Bool.eq_false_iff.2 n_es]; decide)]
    refine Ctr.ret (m' := _) (L := _) () ?_ trivial C.drop
    rw [er_no n_es (fun h => by have e : a.es.map En.er = b.es.map En.er := congrArg Mv.es h; exact decide_eq_true e)]
  rw [if_pos (by rw [n_es]; rfl)]
  refine ⟨b.tq.1, b.ts.length, b.tq.2, C.blkCell (j := 30) rfl, C.blkAt.2, ?_⟩
  refine (c_rSameAll a.tq b.tq a.ts b.ts (by have := ha.tl; omega)).call (As := [_]) C ⟨ha.t, hb.t⟩ fun _ m1 w7 hk hm _ C => ⟨_, rfl, hk, ?_⟩
  refine Ctr.ret (m' := _) (L := _) () ?_ trivial C.drop
  by_cases n_ts : decide (a.ts.map En.er = b.ts.map En.er) = true
  rotate_left
  · rw [er_no n_ts (fun h => by have e : a.ts.map En.er = b.ts.map En.er := congrArg Mv.ts h; exact decide_eq_true e), Bool.eq_false_iff.2 n_ts]; rfl
  have e : a.er = b.er := by
    exact mv_ext ⟨beq_iff_eq.1 n_kd, beq_iff_eq.1 n_gr, beq_iff_eq.1 n_co, beq_iff_eq.1 n_nn, beq_iff_eq.1 n_fr, beq_iff_eq.1 n_cm, beq_iff_eq.1 n_fl, beq_iff_eq.1 n_ba, beq_iff_eq.1 n_ac, by rw [i_eqd] at n_id; exact of_decide_eq_true n_id, of_decide_eq_true n_ps, by rw [Bool.and_eq_true] at n_res; exact beq_iff_eq.1 n_res.1, by rw [Bool.and_eq_true] at n_res; exact (ba_eq _ _).1 n_res.2, by simp only [Bool.and_eq_true, beq_iff_eq] at n_v; exact n_v.1.1, by simp only [Bool.and_eq_true, beq_iff_eq] at n_v; exact n_v.1.2, by simp only [Bool.and_eq_true, decide_eq_true_eq] at n_v; exact n_v.2, by rw [Bool.and_eq_true] at n_proc; exact beq_iff_eq.1 n_proc.1, by rw [Bool.and_eq_true] at n_proc; exact beq_iff_eq.1 n_proc.2, by exact beq_iff_eq.1 n_has, of_decide_eq_true n_ms, of_decide_eq_true n_es, of_decide_eq_true n_ts⟩
  rw [decide_eq_true e, n_ts]; rfl
def Mv.right (x : Mv) : Bool := decide (x.gr < 4) && x.fieldsP && decide (x = x.onlyP)
theorem c_mRight (x : Mg) (hi : MvIn x.er) : Ctr Try.prog 10 #[.agg x.row.toArray] (fun m => MgM m x) [] (fun _ : Unit => .bool x.er.right) (fun _ _ => True) (fun _ => []) := by
  refine Ctr.mk fun w F m C hx => x_mRight _ _ _ _ _ _ _ _ _ _ _ _ _ _ _ _ _ _ _ _ _ _ _ _ _ _ _ _ _ _ _ _ _ _ _ _ _ _ _ _ _ w _ ⟨[], facts_nil _ _, ?_⟩
  by_cases hg : decide (x.gr < 4) = true
  rotate_left
  · rw [if_neg (by rw [Bool.eq_false_iff.2 hg]; decide)]
    refine ⟨[], facts_nil _ _, (fun _ h => h), fun w4 h4 => Ctr.ret () ?_ trivial (C.hid0 h4)⟩
    have : decide (x.er.gr < 4) = false := Bool.eq_false_iff.2 hg
    rw [Mv.right, this]; rfl
  rw [if_pos (by rw [hg]; rfl)]
  intro w5 L6 h5 g5
  have hg' : decide (x.er.gr < 4) = true := hg
  refine (c_mFields x hi).call (As := []) (C.hidL h5 g5) hx fun _ m1 w8 hk hm _ C => ⟨_, rfl, hk, facts_nil _ _, [], facts_nil _ _, (fun _ h => h), ?_⟩
  by_cases hf : x.er.fieldsP = true
  rotate_left
  · rw [if_neg (by rw [Bool.eq_false_iff.2 hf]; decide)]
    refine Ctr.ret () ?_ trivial C
    rw [Mv.right, hg', Bool.eq_false_iff.2 hf]; rfl
  rw [if_pos (by rw [hf]; rfl)]
  refine (c_mOnly x).call (As := []) C (hx.mono hm) fun y m2 w13 hk hm2 hy C => ⟨_, _, _, _, _, _, _, _, _, _, _, _, _, _, _, _, _, _, _, _, _, _, _, _, _, _, _, _, _, _, _, _, _, _, _, _, _, _, _, _, _, rfl, hk, facts_nil _ _, ?_⟩
  refine (c_mSame x y).call (As := []) C ⟨(hx.mono hm).mono hm2, hy.1⟩ fun _ m3 w56 hk hm3 _ C => ⟨_, rfl, hk, facts_nil _ _, Ctr.ret () ?_ trivial C⟩
  rw [Mv.right, hg', hf, hy.2]; rfl
theorem c_OwnM (x : Mg) : Ctr Try.prog 9 #[.agg x.row.toArray] (fun m => MgM m x) [] (fun y : Mg => .agg y.row.toArray) (fun y m => MgM m y ∧ y.er = x.er) (fun _ => []) := by
  refine Ctr.mk fun w F m C hx => x_OwnM _ _ _ _ _ _ _ _ _ _ _ _ _ _ _ _ _ _ _ _ _ _ _ _ _ _ _ _ _ _ _ _ _ _ _ _ _ _ _ _ _ w _ ⟨[], facts_nil _ _, fun w2 L3 h2 g2 => ?_⟩
  refine (C.hidL h2 g2).gives (c_ID x.id) fun w5 k5 C => ⟨_, _, _, _, _, _, _, _, _, _, rfl, k5, facts_nil _ _, ?_⟩
  refine (c_Parts x.pq x.ps (by have := hx.pl; omega)).call (As := []) C hx.p fun p1 m1 w17 hk hm1 hp1 C => ⟨_, _, _, rfl, hk, facts_nil _ _, ?_⟩
  refine C.gives (c_Res x.rc x.rv) fun w22 k22 C => ⟨_, _, rfl, k22, facts_nil _ _, ?_⟩
  refine (c_Own6 ⟨x.vg, x.vn, x.vq, x.vm⟩ hx.vl).call (As := []) C (hx.mono hm1).v fun p2 m2 w26 hk hm2 hp2 C => ⟨_, _, _, _, _, rfl, hk, facts_nil _ _, ?_⟩
  refine C.gives (c_Proc x.pn x.pl) fun w33 k33 C => ⟨_, _, rfl, k33, facts_nil _ _, ?_⟩
  refine (c_Procs x.mq x.ms (by have := hx.ml; omega)).call (As := []) C ((hx.mono hm1).mono hm2).mm fun p3 m3 w37 hk hm3 hp3 C => ⟨_, _, _, rfl, hk, facts_nil _ _, ?_⟩
  refine (c_Owns x.eq x.es hx.el).call (As := []) C (((hx.mono hm1).mono hm2).mono hm3).e fun p4 m4 w42 hk hm4 hp4 C => ⟨_, _, _, rfl, hk, facts_nil _ _, ?_⟩
  refine (c_Owns x.tq x.ts hx.tl).call (As := []) C ((((hx.mono hm1).mono hm2).mono hm3).mono hm4).t fun p5 m5 w47 hk hm5 hp5 C => ⟨_, _, _, rfl, hk, facts_nil _ _, fun w51 h51 => ?_⟩
  refine Ctr.ret (m' := m5) (L := []) { x with pq := p1, vq := p2, mq := p3, eq := p4.1, es := p4.2, tq := p5.1, ts := p5.2 } rfl ⟨⟨(((hp1.mono hm2).mono hm3).mono hm4).mono hm5, ((hp2.mono hm3).mono hm4).mono hm5, (hp3.mono hm4).mono hm5, hp4.1.mono hm5, hp5.1, hx.pl, hx.vl, hx.ml, by have := lenEq hp4.2; have := hx.el; show p4.2.length ≤ _; omega, by have := lenEq hp5.2; have := hx.tl; show p5.2.length ≤ _; omega⟩, ?_⟩ (C.hid0 h51)
  simp only [Mg.er, hp4.2, hp5.2]
/-- what is asked of a message's memory ahead of Light -/
structure MgM0 (m : Mem) (x : Mg) : Prop where
  p : MSrc m 5 (slV x.pq x.ps.length) x.ps.length (x.ps.flatMap Pt.row)
  v : MSrc m 2 (slV x.vq x.vm.length) x.vm.length (x.vm.flatMap Pr.row)
  mm : MSrc m 2 (slV x.mq x.ms.length) x.ms.length (x.ms.flatMap Pr.row)
  e : MSrc m 18 (slV x.eq x.es.length) x.es.length (x.es.flatMap En.row) ∧ ∀ e ∈ x.es, EnM0 m e
  t : MSrc m 18 (slV x.tq x.ts.length) x.ts.length (x.ts.flatMap En.row) ∧ ∀ e ∈ x.ts, EnM0 m e
  pl : x.ps.length ≤ 2932031007402
theorem MgM0.mono {m m' : Mem} {x : Mg} (h : MgM0 m x) (hm : m.le m') : MgM0 m' x := ⟨h.p.mono hm, h.v.mono hm, h.mm.mono hm, ⟨h.e.1.mono hm, fun e he => (h.e.2 e he).mono hm⟩, ⟨h.t.1.mono hm, fun e he => (h.t.2 e he).mono hm⟩, h.pl⟩
def ltE (l : List En) : Prop := l.length ≤ 150 ∧ ∀ e ∈ l, e.ps.length < 200 ∧ e.ws.length ≤ 300
structure Mg.lt (x : Mg) : Prop where
  v : x.vm.length ≤ 40
  m : x.ms.length ≤ 40
  rv : x.rv.size ≤ 2000
  e : ltE x.es
  t : ltE x.ts
theorem c_Light7 (x : Mg) : Ctr Try.prog 7 #[.agg x.row.toArray] (fun m => MgM0 m x) [] (fun b : Bool => .bool b) (fun b _ => b = true → x.lt) (fun _ => []) := by
  refine Ctr.mk fun w F m C hx => x_Light7 _ _ _ _ _ _ _ _ _ _ _ _ _ _ _ _ _ _ _ _ _ _ _ _ _ _ _ _ _ _ _ _ _ _ _ _ _ _ _ _ _ w _ fun w1 L2 h1 g1 => ?_
  refine (c_Light3 x.pq x.ps).call (As := []) (C.hidL h1 g1) hx.p fun b3 m1 w4 hk hm1 _ C => ⟨_, rfl, hk, ?_⟩
  by_cases hb : ((((b3 && decide (((x.rv.size : Nat) : Int) ≤ 2000)) && decide (((x.vm.length : Nat) : Int) ≤ 40)) && decide (((x.ms.length : Nat) : Int) ≤ 40))) = true
  rotate_left
  · rw [if_neg (by rw [Bool.eq_false_iff.2 hb]; decide)]
    exact Ctr.ret false rfl (fun h => by cases h) C
  rw [if_pos (by rw [hb]; rfl)]
  simp only [Bool.and_eq_true, decide_eq_true_eq] at hb
  refine (c_Light5 x.eq x.es).call (As := []) C (hx.mono hm1).e fun b4 m2 w7 hk hm2 h4 C => ⟨_, rfl, hk, ?_⟩
  cases b4 with
  | false =>
    rw [if_neg (by decide)]
    exact Ctr.ret false rfl (fun h => by cases h) C
  | true =>
    rw [if_pos (by decide)]
    refine (c_Light5 x.tq x.ts).call (As := []) C ((hx.mono hm1).mono hm2).t fun b5 m3 w10 hk hm3 h5 C => ⟨_, rfl, hk, ?_⟩
    refine Ctr.ret b5 (by cases b5 <;> rfl) (fun h => ⟨by omega, by omega, by omega, h4 rfl, h5 h⟩) C
end Go.Proofs
