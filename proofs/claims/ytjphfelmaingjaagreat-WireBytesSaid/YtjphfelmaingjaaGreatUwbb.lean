import Derived.Test.YtjphfelmaingjaaGreatUwba
import Derived.Test.YtjphfelmaingjaaGreatVwba
import Derived.Test.YtjphfelmaingjaaGreatVwbb
set_option linter.unusedVariables false
set_option linter.unusedSimpArgs false
set_option maxHeartbeats 1000000
set_option maxRecDepth 10000
namespace Go.Proofs
open Go X RowKit
structure Mg where (kd gr co nn fr cm fl ba ac : Int) (id : I) (pq : Sl) (ps : List Pt) (rc : Int) (rv : ByteArray) (vg vn : Int) (vq : Sl) (vm : List Pr) (pn pl : Int) (has : Bool) (mq : Sl) (ms : List Pr) (eq : Sl) (es : List En) (tq : Sl) (ts : List En)
@[reducible] def Mg.row (x : Mg) : List Value := [.int .u8 x.kd, .int .u8 x.gr, .int .u8 x.co, .int .u32 x.nn, .int .u32 x.fr, .int .u32 x.cm, .int .u32 x.fl, .int .u64 x.ba, .int .u64 x.ac, .int .u8 x.id.n, .int .u16 x.id.l, .int .u32 x.id.s, .int .u8 x.id.d, .int .u8 x.id.g0, .int .u8 x.id.i0, .int .u8 x.id.g1, .int .u8 x.id.i1, .int .u8 x.id.g2, .int .u8 x.id.i2, slV x.pq x.ps.length, .int .u8 x.rc, .string x.rv, .int .u8 x.vg, .int .u32 x.vn, slV x.vq x.vm.length, .int .u8 x.pn, .int .u16 x.pl, .bool x.has, slV x.mq x.ms.length, slV x.eq x.es.length, slV x.tq x.ts.length]
structure Mv where (kd gr co nn fr cm fl ba ac : Int) (id : I) (ps : List Pt) (rc : Int) (rv : ByteArray) (vg vn : Int) (vm : List Pr) (pn pl : Int) (has : Bool) (ms : List Pr) (es ts : List Ev)
def Mg.er (x : Mg) : Mv := ⟨x.kd, x.gr, x.co, x.nn, x.fr, x.cm, x.fl, x.ba, x.ac, x.id, x.ps, x.rc, x.rv, x.vg, x.vn, x.vm, x.pn, x.pl, x.has, x.ms, x.es.map En.er, x.ts.map En.er⟩
theorem mv_ext {a b : Mv} (h : a.kd = b.kd ∧ a.gr = b.gr ∧ a.co = b.co ∧ a.nn = b.nn ∧ a.fr = b.fr ∧ a.cm = b.cm ∧ a.fl = b.fl ∧ a.ba = b.ba ∧ a.ac = b.ac ∧ a.id = b.id ∧ a.ps = b.ps ∧ a.rc = b.rc ∧ a.rv = b.rv ∧ a.vg = b.vg ∧ a.vn = b.vn ∧ a.vm = b.vm ∧ a.pn = b.pn ∧ a.pl = b.pl ∧ a.has = b.has ∧ a.ms = b.ms ∧ a.es = b.es ∧ a.ts = b.ts) : a = b := by cases a; cases b; simp_all
instance : DecidableEq Mv := fun a b => decidable_of_iff (a.kd = b.kd ∧ a.gr = b.gr ∧ a.co = b.co ∧ a.nn = b.nn ∧ a.fr = b.fr ∧ a.cm = b.cm ∧ a.fl = b.fl ∧ a.ba = b.ba ∧ a.ac = b.ac ∧ a.id = b.id ∧ a.ps = b.ps ∧ a.rc = b.rc ∧ a.rv = b.rv ∧ a.vg = b.vg ∧ a.vn = b.vn ∧ a.vm = b.vm ∧ a.pn = b.pn ∧ a.pl = b.pl ∧ a.has = b.has ∧ a.ms = b.ms ∧ a.es = b.es ∧ a.ts = b.ts) ⟨mv_ext, fun h => by subst h; simp⟩
structure MgM (m : Mem) (x : Mg) : Prop where
  p : MSrc m 5 (slV x.pq x.ps.length) x.ps.length (x.ps.flatMap Pt.row)
  v : MSrc m 2 (slV x.vq x.vm.length) x.vm.length (x.vm.flatMap Pr.row)
  mm : MSrc m 2 (slV x.mq x.ms.length) x.ms.length (x.ms.flatMap Pr.row)
  e : EsM m x.eq x.es
  t : EsM m x.tq x.ts
  pl : x.ps.length ≤ 2932031007402
  vl : x.vm.length ≤ 1000000
  ml : x.ms.length ≤ 1000000
  el : x.es.length ≤ 100000
  tl : x.ts.length ≤ 100000
theorem MgM.mono {m m' : Mem} {x : Mg} (h : MgM m x) (hm : m.le m') : MgM m' x := ⟨h.p.mono hm, h.v.mono hm, h.mm.mono hm, h.e.mono hm, h.t.mono hm, h.pl, h.vl, h.ml, h.el, h.tl⟩
structure MvIn (x : Mv) : Prop where
  id : x.id.In
  ps : ∀ p ∈ x.ps, PtIn p
  vm : ∀ p ∈ x.vm, 0 ≤ p.n
  ms : ∀ p ∈ x.ms, 0 ≤ p.n
  es : ∀ e ∈ x.es, EvIn e
  ts : ∀ e ∈ x.ts, EvIn e
  gr : 0 ≤ x.gr ∧ x.gr < 256
  vn : 0 ≤ x.vn
  fr : 0 ≤ x.fr ∧ x.fr < 4294967296
  kd : 0 ≤ x.kd ∧ x.kd < 256
  nn : 0 ≤ x.nn ∧ x.nn < 18446744073709551616
  ba : 0 ≤ x.ba ∧ x.ba < 18446744073709551616
theorem esNil (m : Mem) : EsM m (none, 0) [] := ⟨.nil .., by simp⟩
def allE (l : List Ev) (g : Int) : Bool := decide (l.length ≤ 400) && l.all (·.right g)
theorem c_all1 (e : En) (z0 : Addr) (g : Int) (hi : EvIn e.er) : Ctr Tryz.prog 150 #[.agg e.row.toArray, .pointer (some z0)] (fun m => EnM m e ∧ m z0 = some (.int .u8 g)) [] (fun _ : Unit => .bool (!e.er.right g)) (fun _ _ => True) (fun _ => []) :=
  Ctr.mk fun w F m C hp => x_all1 _ _ _ _ _ _ _ _ _ _ _ _ _ _ _ _ _ _ _ _ _ _ _ w _ ⟨g, C.cell hp.2, fun w2 L3 h2 g2 => (c_eRight e g hi).call (As := []) (C.hidL h2 g2) hp.1 fun _ m2 w5 hk hm _ C => ⟨_, rfl, hk, Ctr.ret () rfl trivial C⟩⟩
theorem c_IndexE (q : Sl) (l : List En) (z0 : Addr) (g : Int) (hl : l.length ≤ 100000) (hi : ∀ e ∈ l, EvIn e.er) : Ctr Tryz.prog 165 #[slV q l.length, .func (.func 150) #[] #[.pointer (some z0)]] (fun m => EsM m q l ∧ m z0 = some (.int .u8 g)) [] (fun i : Int => .int .i64 i) (fun i m => decide (i ≥ 0) = !(l.all fun e => e.er.right g)) (fun _ => []) := by
  refine Ctr.mk fun w F m C hp => x_IndexE _ _ _ _ w _ ?_
  refine ⟨fun i w' _ => ∃ (j : Nat) (m' : Mem), i = j ∧ j ≤ l.length ∧ m.le m' ∧ ((l.take j).all fun e => e.er.right g) = true ∧ Ctx F m w w' [] m' [], fun i _ => (l.length - i).toNat, ⟨0, m, rfl, by omega, Mem.le_refl _, rfl, C⟩, ?_⟩
  clear C
  rintro i w4 L5 _ ⟨j, m', rfl, hj, hm, hjt, D⟩
  by_cases hjl : j < l.length
  · rw [if_pos (by simpa using hjl)]
    obtain ⟨a, ha, hc⟩ := (hp.1.1.mono hm).elem en_len hjl
    have ha : q.1 = some a := ha
    have he := (hp.1.2 _ (List.getElem_mem hjl)).mono hm
    have hie := hi _ (List.getElem_mem hjl)
    have ht : (l.take (j + 1)).all (fun e => e.er.right g) = ((l.take j).all (fun e => e.er.right g) && l[j].er.right g) := by rw [List.take_succ_eq_append_getElem hjl, List.all_append]; simp
    have hin : l[j] ∈ l := List.getElem_mem hjl
    generalize l[j] = x at hc he hie ht hin
    refine ⟨by omega, by simpa using hjl, ?_⟩
    rw [ha, onSome_some]
    refine ⟨_, _, _, _, _, _, _, _, _, _, _, _, _, _, _, _, _, _, _, _, _, _, by rw [Int.toNat_natCast]; exact D.cells hc, ?_⟩
    refine (c_all1 x z0 g hie).call (As := []) D ⟨he, hm _ _ hp.2⟩ fun _ m2 w13 hk hm2 _ D => ⟨_, rfl, hk.size, ?_⟩
    by_cases hr : x.er.right g = true
    · rw [if_neg (by simp [hr])]
      have e : IntKind.wrap .i64 ((j : Int) + 1) = ((j + 1 : Nat) : Int) := by rw [w_i64 (by omega) (by omega)]; omega
      rw [e]
      refine ⟨⟨j + 1, m2, rfl, hjl, hm.le_trans hm2, by rw [ht, hjt, hr]; rfl, D⟩, Nat.le_of_eq (by show ((l.length : Int) - ((j + 1 : Nat) : Int)).toNat + 1 = ((l.length : Int) - (j : Int)).toNat; omega)⟩
    · rw [if_pos (by simp [hr])]
      refine Ctr.ret (j : Int) rfl ?_ D
      have : (l.all fun e => e.er.right g) = false := by rw [Bool.eq_false_iff]; intro h; exact hr (List.all_eq_true.1 h _ hin)
      rw [this]; simp
  · rw [if_neg (by simpa using hjl)]
    have hj2 : j = l.length := by omega
    rw [hj2, List.take_length] at hjt
    exact Ctr.ret (-1) rfl (by rw [hjt]; rfl) D
theorem c_all (q : Sl) (l : List En) (g : Int) (hl : l.length ≤ 100000) (hi : ∀ e ∈ l, EvIn e.er) : Ctr Tryz.prog 115 #[slV q l.length, .int .u8 g] (fun m => EsM m q l) [] (fun _ : Unit => .bool (allE (l.map En.er) g)) (fun _ _ => True) (fun _ => []) := by
  refine Ctr.mk fun w F m C hp => x_all _ _ _ _ w _ ?_
  have hlen : (l.map En.er).length = l.length := by simp
  have hall : (l.map En.er).all (·.right g) = l.all (fun e => e.er.right g) := by rw [List.all_map]; rfl
  by_cases h : l.length ≤ 400
  · rw [if_pos (by rw [decide_eq_true (show ((l.length : Nat) : Int) ≤ 400 by omega)]; rfl)]
    obtain ⟨C1, hm1⟩ := C.newShare [.int .u8 g] 5 (0, 0)
    have hz : (m.plus w.heap.size [.int .u8 g]) ⟨w.heap.size, 0, none⟩ = some (.int .u8 g) := by simp [Mem.plus]
    refine ⟨x_ContainsE _ _ _ _ _ _ ?_⟩
    refine (c_IndexE q l _ g hl hi).call (As := []) C1 ⟨hp.mono hm1, hz⟩ fun i m2 w4 hk hm hi2 C => ⟨i, rfl, hk.size, ?_⟩
    refine ⟨_, rfl, hk.size, Ctr.ret () ?_ trivial C⟩
    rw [hi2, Bool.not_not, allE, hlen, hall, decide_eq_true h]
  · rw [if_neg (by rw [decide_eq_false (show ¬ ((l.length : Nat) : Int) ≤ 400 by omega)]; decide)]
    refine Ctr.ret () ?_ trivial (C.newDrop _ _)
    rw [allE, hlen, decide_eq_false h]; rfl
theorem c_vSame (a b : Vw) (hl : a.ms.length ≤ 1000000) : Ctr Tryz.prog 54 #[.agg a.row.toArray, .agg b.row.toArray] (fun m => VwM m a ∧ VwM m b) [] (fun _ : Unit => .bool (((a.g == b.g) && (a.n == b.n)) && decide (a.ms = b.ms))) (fun _ _ => True) (fun _ => []) := by
  refine Ctr.mk fun w F m C hp => x_vSame _ _ _ _ _ _ _ _ _ _ w _ ?_
  by_cases h : ((a.g == b.g) && (a.n == b.n)) = true
  · rw [if_pos (by rw [h]; rfl)]
    intro w2 L3 h2 g2
    refine (c_EqualPr a.q b.q a.ms b.ms (by omega)).call (As := []) (C.hidL h2 g2) ⟨hp.1, hp.2⟩ fun _ m2 w5 hk hm _ C => ⟨_, rfl, hk, Ctr.ret () (by rw [h]) trivial C⟩
  · rw [if_neg (by simpa using h)]
    intro w1 h1
    exact Ctr.ret () (by rw [Bool.eq_false_iff.2 h]; rfl) trivial (C.hid0 h1)
theorem c_r6Same (a b : Vw) (hl : a.ms.length ≤ 1000000) : Ctr Tryz.prog 43 #[.agg a.row.toArray, .agg b.row.toArray] (fun m => VwM m a ∧ VwM m b) [] (fun _ : Unit => .bool (((a.g == b.g) && (a.n == b.n)) && decide (a.ms = b.ms))) (fun _ _ => True) (fun _ => []) := by
  refine Ctr.mk fun w F m C hp => x_r6Same _ _ _ _ _ _ _ _ _ _ w _ ?_
  by_cases h : ((a.g == b.g) && (a.n == b.n)) = true
  · rw [if_pos (by rw [h]; rfl)]
    intro w2 L3 h2 g2
    refine (c_SameProcs a.q b.q a.ms b.ms (by omega)).call (As := []) (C.hidL h2 g2) ⟨hp.1, hp.2⟩ fun _ m2 w5 hk hm _ C => ⟨_, rfl, hk, Ctr.ret () (by rw [h]) trivial C⟩
  · rw [if_neg (by simpa using h)]
    intro w1 h1
    exact Ctr.ret () (by rw [Bool.eq_false_iff.2 h]; rfl) trivial (C.hid0 h1)
def Mv.askM (x : Mv) : Bool := x.id.right && decide (x.fl < x.id.s) && rightL x.ps && (match x.ps with | [] => false | p :: _ => p.g == x.gr) && decide ((x.ps.length : Int) + x.id.d ≤ 4)
def vwOk (g n : Int) (l : List Pr) : Bool := Vw.ok ⟨g, n, (none, 0), l⟩
def Mv.val (x : Mv) : Bool := vwOk 0 1 x.ms && allE x.ts x.gr
def Mv.resR (x : Mv) : Bool := Rs.right ⟨x.rc, x.rv⟩
def prOk (n l : Int) : Bool := Pr.ok ⟨n, l⟩
theorem c_mAsked (x : Mg) (hi : MvIn x.er) : Ctr Tryz.prog 111 #[.agg x.row.toArray] (fun m => MgM m x) [] (fun _ : Unit => .bool x.er.askM) (fun _ _ => True) (fun _ => []) := by
  refine Ctr.mk fun w F m C hx => x_mAsked _ _ _ _ _ _ _ _ _ _ _ _ _ _ _ _ _ _ _ _ _ _ _ _ _ _ _ _ _ _ _ _ _ _ _ _ _ _ _ _ _ w _ ⟨[], facts_nil _ _, fun w2 L3 h2 g2 => ?_⟩
  refine (C.hidL h2 g2).gives (c_Right x.id hi.id) fun w5 k5 C => ⟨_, rfl, k5, facts_nil _ _, [], facts_nil _ _, (fun _ h => h), ?_⟩
  by_cases h1 : (x.id.right && decide (x.fl < x.id.s)) = true
  rotate_left
  · rw [if_neg (by intro h; apply h1; simpa using h)]
    refine ⟨[], facts_nil _ _, (fun _ h => h), [], facts_nil _ _, (fun _ h => h), Ctr.ret () ?_ trivial C⟩
    have : (x.er.id.right && decide (x.er.fl < x.er.id.s)) = false := Bool.eq_false_iff.2 h1
    rw [Mv.askM, this]; rfl
  rw [if_pos (by rw [h1]; rfl)]
  have h1' : (x.er.id.right && decide (x.er.fl < x.er.id.s)) = true := h1
  refine (c_partRight x.pq x.ps (by have := hx.pl; omega)).call (As := []) C hx.p fun _ m2 w14 hk hm2 _ C => ⟨_, rfl, hk, facts_nil _ _, ?_⟩
  by_cases hl : rightL x.ps = true
  rotate_left
  · refine ⟨[], facts_nil _ _, (fun _ h => h), ?_⟩
    rw [if_neg (by simpa using hl)]
    refine ⟨[], facts_nil _ _, (fun _ h => h), Ctr.ret () ?_ trivial C⟩
    have : rightL x.er.ps = false := Bool.eq_false_iff.2 hl
    rw [Mv.askM, h1', this]; rfl
  have hl0 : 1 ≤ x.ps.length ∧ x.ps.length ≤ 4 := by
    simp only [rightL, Bool.and_eq_true, decide_eq_true_eq] at hl; exact hl.1
  obtain ⟨a, ha, hc⟩ := (hx.p.mono hm2).elem pt_len (i := 0) (by omega)
  have ha : x.pq.1 = some a := ha
  refine ⟨_, C.memFact (mcells_part hc 0 [.int .u8 x.ps[0].g] (fun k v e => by match k, e with | 0, e => exact e)) (facts_nil _ _), (fun _ h => by cases h), ?_⟩
  rw [if_pos (by rw [hl]; rfl)]
  refine ⟨by omega, by omega, ?_⟩
  rw [ha, onSome_some]
  refine ⟨_, List.mem_cons_self, ?_⟩
  have hd : 0 ≤ x.id.d ∧ x.id.d ≤ 3 := right_d hi.id (by simp only [Bool.and_eq_true] at h1; exact h1.1)
  rw [w_i64 (n := x.id.d) (by omega) (by omega), w_i64 (n := _ + x.id.d) (by omega) (by omega)]
  refine Ctr.ret () ?_ trivial C
  obtain ⟨p, l, hpl⟩ : ∃ p l, x.ps = p :: l := by
    cases hps : x.ps with
    | nil => rw [hps] at hl0; simp at hl0
    | cons p l => exact ⟨p, l, rfl⟩
  have h2 : rightL x.er.ps = true := hl
  have h3 : x.er.ps = p :: l := hpl
  rw [Mv.askM, h1', h2, h3]
  have e1 : x.ps[0].g = p.g := by simp [hpl]
  rw [e1, hpl]; rfl
theorem vm_vw {m : Mem} {x : Mg} (h : MgM m x) : VwM m ⟨x.vg, x.vn, x.vq, x.vm⟩ := h.v
theorem c_mValue (x : Mg) (hi : MvIn x.er) (hx0 : x.ts.length ≤ 100000) : Ctr Tryz.prog 116 #[.agg x.row.toArray] (fun m => MgM m x) [] (fun _ : Unit => .bool x.er.val) (fun _ _ => True) (fun _ => []) := by
  refine Ctr.mk fun w F m C hx => x_mValue _ _ _ _ _ _ _ _ _ _ _ _ _ _ _ _ _ _ _ _ _ _ _ _ _ _ _ _ _ _ _ _ _ _ _ _ _ _ _ _ _ w _ fun w1 L2 h1 g1 => ?_
  refine (c_vRight ⟨0, 1, x.mq, x.ms⟩ hi.ms).call (As := []) (C.hidL h1 g1) hx.mm fun _ m2 w4 hk hm2 _ C => ⟨_, rfl, hk, ?_⟩
  by_cases hv : Vw.ok ⟨0, 1, x.mq, x.ms⟩ = true
  · rw [if_pos (by rw [hv]; rfl)]
    refine (c_all x.tq x.ts x.gr hx0 (fun e he => hi.ts _ (List.mem_map_of_mem he))).call (As := []) C (hx.t.mono hm2) fun _ m3 w7 hk hm3 _ C => ⟨_, rfl, hk, Ctr.ret () ?_ trivial C⟩
    have : vwOk 0 1 x.er.ms = true := hv
    rw [Mv.val, this]; rfl
  · rw [if_neg (by simpa using hv)]
    refine Ctr.ret () ?_ trivial C
    have : vwOk 0 1 x.er.ms = false := Bool.eq_false_iff.2 hv
    rw [Mv.val, this]; rfl
def Mv.fieldsP (x : Mv) : Bool :=
  if x.kd = 0 then x.askM
  else if x.kd = 1 then (x.id.right && x.resR && vwOk x.vg x.vn x.vm)
  else if x.kd = 2 then x.id.right
  else if x.kd = 3 then (decide (x.nn > 0) && decide (x.fr ≤ 400) && decide (x.cm ≤ 400) && decide (x.fr + (x.es.length : Int) ≤ 400) && allE x.es x.gr)
  else if x.kd = 4 then (decide (x.nn > 0) && decide (x.fr ≤ 400))
  else if x.kd = 5 then (decide (x.nn > 0) && decide (x.ba > 0))
  else if x.kd = 6 then (decide (x.nn > 0) && decide (x.ba > 0))
  else if x.kd = 7 then (decide (x.nn > 0) && decide (x.ba > 0))
  else if x.kd = 8 then (decide (x.nn > 0) && decide (x.ba > 0) && allE x.es x.gr && (!x.has || (decide (x.ac > 0) && x.val)))
  else if x.kd = 9 then (decide (x.nn > 0) && decide (x.ba > 0) && x.val)
  else if x.kd = 10 then (vwOk x.vg x.vn x.vm && allE x.es x.vg)
  else if x.kd = 11 then prOk x.pn x.pl
  else if x.kd = 12 then prOk x.pn x.pl
  else if x.kd = 13 then prOk x.pn x.pl
  else false
def Mv.onlyP (x : Mv) : Mv :=
  if x.kd = 0 then ⟨x.kd, x.gr, 0, 0, 0, 0, x.fl, 0, 0, x.id, x.ps, 0, ByteArray.mk #[], 0, 0, [], 0, 0, false, [], [], []⟩
  else if x.kd = 1 then ⟨x.kd, 0, 0, 0, 0, 0, 0, 0, 0, x.id, [], x.rc, x.rv, x.vg, x.vn, x.vm, 0, 0, false, [], [], []⟩
  else if x.kd = 2 then ⟨x.kd, 0, x.co, 0, 0, 0, 0, 0, 0, x.id, [], 0, ByteArray.mk #[], 0, 0, [], 0, 0, false, [], [], []⟩
  else if x.kd = 3 then ⟨x.kd, x.gr, 0, x.nn, x.fr, x.cm, 0, 0, 0, I.zero, [], 0, ByteArray.mk #[], 0, 0, [], 0, 0, false, [], x.es, []⟩
  else if x.kd = 4 then ⟨x.kd, x.gr, 0, x.nn, x.fr, 0, 0, 0, 0, I.zero, [], 0, ByteArray.mk #[], 0, 0, [], 0, 0, false, [], [], []⟩
  else if x.kd = 5 then ⟨x.kd, x.gr, 0, x.nn, 0, 0, 0, x.ba, 0, I.zero, [], 0, ByteArray.mk #[], 0, 0, [], 0, 0, false, [], [], []⟩
  else if x.kd = 6 then ⟨x.kd, x.gr, 0, x.nn, 0, 0, 0, x.ba, 0, I.zero, [], 0, ByteArray.mk #[], 0, 0, [], 0, 0, false, [], [], []⟩
  else if x.kd = 7 then ⟨x.kd, x.gr, 0, x.nn, 0, 0, 0, x.ba, 0, I.zero, [], 0, ByteArray.mk #[], 0, 0, [], 0, 0, false, [], [], []⟩
  else if x.kd = 8 then (if x.has then ⟨x.kd, x.gr, 0, x.nn, 0, 0, 0, x.ba, x.ac, I.zero, [], 0, ByteArray.mk #[], 0, 0, [], 0, 0, x.has, x.ms, x.es, x.ts⟩ else ⟨x.kd, x.gr, 0, x.nn, 0, 0, 0, x.ba, 0, I.zero, [], 0, ByteArray.mk #[], 0, 0, [], 0, 0, false, [], x.es, []⟩)
  else if x.kd = 9 then ⟨x.kd, x.gr, 0, x.nn, 0, 0, 0, x.ba, 0, I.zero, [], 0, ByteArray.mk #[], 0, 0, [], 0, 0, false, x.ms, [], x.ts⟩
  else if x.kd = 10 then ⟨x.kd, 0, 0, 0, 0, 0, 0, 0, 0, I.zero, [], 0, ByteArray.mk #[], x.vg, x.vn, x.vm, 0, 0, false, [], x.es, []⟩
  else if x.kd = 11 then ⟨x.kd, x.gr, 0, 0, 0, 0, 0, 0, 0, I.zero, [], 0, ByteArray.mk #[], 0, 0, [], x.pn, x.pl, false, [], [], []⟩
  else if x.kd = 12 then ⟨x.kd, x.gr, 0, 0, 0, 0, 0, 0, 0, I.zero, [], 0, ByteArray.mk #[], 0, 0, [], x.pn, x.pl, false, [], [], []⟩
  else if x.kd = 13 then ⟨x.kd, x.gr, 0, 0, 0, 0, 0, 0, 0, I.zero, [], 0, ByteArray.mk #[], 0, 0, [], x.pn, x.pl, false, [], [], []⟩
  else ⟨x.kd, x.gr, 0, 0, 0, 0, 0, 0, 0, I.zero, [], 0, ByteArray.mk #[], 0, 0, [], 0, 0, false, [], [], []⟩
theorem fP0 {x : Mv} (h : x.kd = 0) : x.fieldsP = x.askM := by unfold Mv.fieldsP; rw [h]; rfl
theorem oP0 {x : Mv} (h : x.kd = 0) : x.onlyP = ⟨x.kd, x.gr, 0, 0, 0, 0, x.fl, 0, 0, x.id, x.ps, 0, ByteArray.mk #[], 0, 0, [], 0, 0, false, [], [], []⟩ := by unfold Mv.onlyP; rw [h]; rfl
theorem fP1 {x : Mv} (h : x.kd = 1) : x.fieldsP = (x.id.right && x.resR && vwOk x.vg x.vn x.vm) := by unfold Mv.fieldsP; rw [h]; rfl
theorem oP1 {x : Mv} (h : x.kd = 1) : x.onlyP = ⟨x.kd, 0, 0, 0, 0, 0, 0, 0, 0, x.id, [], x.rc, x.rv, x.vg, x.vn, x.vm, 0, 0, false, [], [], []⟩ := by unfold Mv.onlyP; rw [h]; rfl
theorem fP2 {x : Mv} (h : x.kd = 2) : x.fieldsP = x.id.right := by unfold Mv.fieldsP; rw [h]; rfl
theorem oP2 {x : Mv} (h : x.kd = 2) : x.onlyP = ⟨x.kd, 0, x.co, 0, 0, 0, 0, 0, 0, x.id, [], 0, ByteArray.mk #[], 0, 0, [], 0, 0, false, [], [], []⟩ := by unfold Mv.onlyP; rw [h]; rfl
theorem fP3 {x : Mv} (h : x.kd = 3) : x.fieldsP = (decide (x.nn > 0) && decide (x.fr ≤ 400) && decide (x.cm ≤ 400) && decide (x.fr + (x.es.length : Int) ≤ 400) && allE x.es x.gr) := by unfold Mv.fieldsP; rw [h]; rfl
theorem oP3 {x : Mv} (h : x.kd = 3) : x.onlyP = ⟨x.kd, x.gr, 0, x.nn, x.fr, x.cm, 0, 0, 0, I.zero, [], 0, ByteArray.mk #[], 0, 0, [], 0, 0, false, [], x.es, []⟩ := by unfold Mv.onlyP; rw [h]; rfl
theorem fP4 {x : Mv} (h : x.kd = 4) : x.fieldsP = (decide (x.nn > 0) && decide (x.fr ≤ 400)) := by unfold Mv.fieldsP; rw [h]; rfl
theorem oP4 {x : Mv} (h : x.kd = 4) : x.onlyP = ⟨x.kd, x.gr, 0, x.nn, x.fr, 0, 0, 0, 0, I.zero, [], 0, ByteArray.mk #[], 0, 0, [], 0, 0, false, [], [], []⟩ := by unfold Mv.onlyP; rw [h]; rfl
theorem fP5 {x : Mv} (h : x.kd = 5) : x.fieldsP = (decide (x.nn > 0) && decide (x.ba > 0)) := by unfold Mv.fieldsP; rw [h]; rfl
theorem oP5 {x : Mv} (h : x.kd = 5) : x.onlyP = ⟨x.kd, x.gr, 0, x.nn, 0, 0, 0, x.ba, 0, I.zero, [], 0, ByteArray.mk #[], 0, 0, [], 0, 0, false, [], [], []⟩ := by unfold Mv.onlyP; rw [h]; rfl
theorem fP6 {x : Mv} (h : x.kd = 6) : x.fieldsP = (decide (x.nn > 0) && decide (x.ba > 0)) := by unfold Mv.fieldsP; rw [h]; rfl
theorem oP6 {x : Mv} (h : x.kd = 6) : x.onlyP = ⟨x.kd, x.gr, 0, x.nn, 0, 0, 0, x.ba, 0, I.zero, [], 0, ByteArray.mk #[], 0, 0, [], 0, 0, false, [], [], []⟩ := by unfold Mv.onlyP; rw [h]; rfl
theorem fP7 {x : Mv} (h : x.kd = 7) : x.fieldsP = (decide (x.nn > 0) && decide (x.ba > 0)) := by unfold Mv.fieldsP; rw [h]; rfl
theorem oP7 {x : Mv} (h : x.kd = 7) : x.onlyP = ⟨x.kd, x.gr, 0, x.nn, 0, 0, 0, x.ba, 0, I.zero, [], 0, ByteArray.mk #[], 0, 0, [], 0, 0, false, [], [], []⟩ := by unfold Mv.onlyP; rw [h]; rfl
theorem fP8 {x : Mv} (h : x.kd = 8) : x.fieldsP = (decide (x.nn > 0) && decide (x.ba > 0) && allE x.es x.gr && (!x.has || (decide (x.ac > 0) && x.val))) := by unfold Mv.fieldsP; rw [h]; rfl
theorem oP8 {x : Mv} (h : x.kd = 8) : x.onlyP = (if x.has then ⟨x.kd, x.gr, 0, x.nn, 0, 0, 0, x.ba, x.ac, I.zero, [], 0, ByteArray.mk #[], 0, 0, [], 0, 0, x.has, x.ms, x.es, x.ts⟩ else ⟨x.kd, x.gr, 0, x.nn, 0, 0, 0, x.ba, 0, I.zero, [], 0, ByteArray.mk #[], 0, 0, [], 0, 0, false, [], x.es, []⟩) := by unfold Mv.onlyP; rw [h]; rfl
theorem fP9 {x : Mv} (h : x.kd = 9) : x.fieldsP = (decide (x.nn > 0) && decide (x.ba > 0) && x.val) := by unfold Mv.fieldsP; rw [h]; rfl
theorem oP9 {x : Mv} (h : x.kd = 9) : x.onlyP = ⟨x.kd, x.gr, 0, x.nn, 0, 0, 0, x.ba, 0, I.zero, [], 0, ByteArray.mk #[], 0, 0, [], 0, 0, false, x.ms, [], x.ts⟩ := by unfold Mv.onlyP; rw [h]; rfl
theorem fP10 {x : Mv} (h : x.kd = 10) : x.fieldsP = (vwOk x.vg x.vn x.vm && allE x.es x.vg) := by unfold Mv.fieldsP; rw [h]; rfl
theorem oP10 {x : Mv} (h : x.kd = 10) : x.onlyP = ⟨x.kd, 0, 0, 0, 0, 0, 0, 0, 0, I.zero, [], 0, ByteArray.mk #[], x.vg, x.vn, x.vm, 0, 0, false, [], x.es, []⟩ := by unfold Mv.onlyP; rw [h]; rfl
theorem fP11 {x : Mv} (h : x.kd = 11) : x.fieldsP = prOk x.pn x.pl := by unfold Mv.fieldsP; rw [h]; rfl
theorem oP11 {x : Mv} (h : x.kd = 11) : x.onlyP = ⟨x.kd, x.gr, 0, 0, 0, 0, 0, 0, 0, I.zero, [], 0, ByteArray.mk #[], 0, 0, [], x.pn, x.pl, false, [], [], []⟩ := by unfold Mv.onlyP; rw [h]; rfl
theorem fP12 {x : Mv} (h : x.kd = 12) : x.fieldsP = prOk x.pn x.pl := by unfold Mv.fieldsP; rw [h]; rfl
theorem oP12 {x : Mv} (h : x.kd = 12) : x.onlyP = ⟨x.kd, x.gr, 0, 0, 0, 0, 0, 0, 0, I.zero, [], 0, ByteArray.mk #[], 0, 0, [], x.pn, x.pl, false, [], [], []⟩ := by unfold Mv.onlyP; rw [h]; rfl
theorem fP13 {x : Mv} (h : x.kd = 13) : x.fieldsP = prOk x.pn x.pl := by unfold Mv.fieldsP; rw [h]; rfl
theorem oP13 {x : Mv} (h : x.kd = 13) : x.onlyP = ⟨x.kd, x.gr, 0, 0, 0, 0, 0, 0, 0, I.zero, [], 0, ByteArray.mk #[], 0, 0, [], x.pn, x.pl, false, [], [], []⟩ := by unfold Mv.onlyP; rw [h]; rfl
theorem fPo {x : Mv} (h : ¬ (0 ≤ x.kd ∧ x.kd ≤ 13)) : x.fieldsP = false := by rw [Mv.fieldsP, if_neg (by omega), if_neg (by omega), if_neg (by omega), if_neg (by omega), if_neg (by omega), if_neg (by omega), if_neg (by omega), if_neg (by omega), if_neg (by omega), if_neg (by omega), if_neg (by omega), if_neg (by omega), if_neg (by omega), if_neg (by omega)]
theorem oPo {x : Mv} (h : ¬ (0 ≤ x.kd ∧ x.kd ≤ 13)) : x.onlyP = ⟨x.kd, x.gr, 0, 0, 0, 0, 0, 0, 0, I.zero, [], 0, ByteArray.mk #[], 0, 0, [], 0, 0, false, [], [], []⟩ := by rw [Mv.onlyP, if_neg (by omega), if_neg (by omega), if_neg (by omega), if_neg (by omega), if_neg (by omega), if_neg (by omega), if_neg (by omega), if_neg (by omega), if_neg (by omega), if_neg (by omega), if_neg (by omega), if_neg (by omega), if_neg (by omega), if_neg (by omega)]
@[reducible] def Mg.o0 (x : Mg) : Mg := ⟨x.kd, x.gr, 0, 0, 0, 0, x.fl, 0, 0, x.id, x.pq, x.ps, 0, ByteArray.mk #[], 0, 0, (none, 0), [], 0, 0, false, (none, 0), [], (none, 0), [], (none, 0), []⟩
theorem oM0 {m : Mem} {x : Mg} (hx : MgM m x) : MgM m x.o0 := ⟨hx.p, .nil .., .nil .., esNil m, esNil m, hx.pl, Nat.zero_le _, Nat.zero_le _, Nat.zero_le _, Nat.zero_le _⟩
@[reducible] def Mg.o1 (x : Mg) : Mg := ⟨x.kd, 0, 0, 0, 0, 0, 0, 0, 0, x.id, (none, 0), [], x.rc, x.rv, x.vg, x.vn, x.vq, x.vm, 0, 0, false, (none, 0), [], (none, 0), [], (none, 0), []⟩
theorem oM1 {m : Mem} {x : Mg} (hx : MgM m x) : MgM m x.o1 := ⟨.nil .., hx.v, .nil .., esNil m, esNil m, Nat.zero_le _, hx.vl, Nat.zero_le _, Nat.zero_le _, Nat.zero_le _⟩
@[reducible] def Mg.o2 (x : Mg) : Mg := ⟨x.kd, 0, x.co, 0, 0, 0, 0, 0, 0, x.id, (none, 0), [], 0, ByteArray.mk #[], 0, 0, (none, 0), [], 0, 0, false, (none, 0), [], (none, 0), [], (none, 0), []⟩
theorem oM2 {m : Mem} {x : Mg} (hx : MgM m x) : MgM m x.o2 := ⟨.nil .., .nil .., .nil .., esNil m, esNil m, Nat.zero_le _, Nat.zero_le _, Nat.zero_le _, Nat.zero_le _, Nat.zero_le _⟩
@[reducible] def Mg.o3 (x : Mg) : Mg := ⟨x.kd, x.gr, 0, x.nn, x.fr, x.cm, 0, 0, 0, I.zero, (none, 0), [], 0, ByteArray.mk #[], 0, 0, (none, 0), [], 0, 0, false, (none, 0), [], x.eq, x.es, (none, 0), []⟩
theorem oM3 {m : Mem} {x : Mg} (hx : MgM m x) : MgM m x.o3 := ⟨.nil .., .nil .., .nil .., hx.e, esNil m, Nat.zero_le _, Nat.zero_le _, Nat.zero_le _, hx.el, Nat.zero_le _⟩
@[reducible] def Mg.o4 (x : Mg) : Mg := ⟨x.kd, x.gr, 0, x.nn, x.fr, 0, 0, 0, 0, I.zero, (none, 0), [], 0, ByteArray.mk #[], 0, 0, (none, 0), [], 0, 0, false, (none, 0), [], (none, 0), [], (none, 0), []⟩
theorem oM4 {m : Mem} {x : Mg} (hx : MgM m x) : MgM m x.o4 := ⟨.nil .., .nil .., .nil .., esNil m, esNil m, Nat.zero_le _, Nat.zero_le _, Nat.zero_le _, Nat.zero_le _, Nat.zero_le _⟩
@[reducible] def Mg.o5 (x : Mg) : Mg := ⟨x.kd, x.gr, 0, x.nn, 0, 0, 0, x.ba, 0, I.zero, (none, 0), [], 0, ByteArray.mk #[], 0, 0, (none, 0), [], 0, 0, false, (none, 0), [], (none, 0), [], (none, 0), []⟩
theorem oM5 {m : Mem} {x : Mg} (hx : MgM m x) : MgM m x.o5 := ⟨.nil .., .nil .., .nil .., esNil m, esNil m, Nat.zero_le _, Nat.zero_le _, Nat.zero_le _, Nat.zero_le _, Nat.zero_le _⟩
@[reducible] def Mg.o8t (x : Mg) : Mg := ⟨x.kd, x.gr, 0, x.nn, 0, 0, 0, x.ba, x.ac, I.zero, (none, 0), [], 0, ByteArray.mk #[], 0, 0, (none, 0), [], 0, 0, x.has, x.mq, x.ms, x.eq, x.es, x.tq, x.ts⟩
theorem oM8t {m : Mem} {x : Mg} (hx : MgM m x) : MgM m x.o8t := ⟨.nil .., .nil .., hx.mm, hx.e, hx.t, Nat.zero_le _, Nat.zero_le _, hx.ml, hx.el, hx.tl⟩
@[reducible] def Mg.o8f (x : Mg) : Mg := ⟨x.kd, x.gr, 0, x.nn, 0, 0, 0, x.ba, 0, I.zero, (none, 0), [], 0, ByteArray.mk #[], 0, 0, (none, 0), [], 0, 0, false, (none, 0), [], x.eq, x.es, (none, 0), []⟩
theorem oM8f {m : Mem} {x : Mg} (hx : MgM m x) : MgM m x.o8f := ⟨.nil .., .nil .., .nil .., hx.e, esNil m, Nat.zero_le _, Nat.zero_le _, Nat.zero_le _, hx.el, Nat.zero_le _⟩
@[reducible] def Mg.o9 (x : Mg) : Mg := ⟨x.kd, x.gr, 0, x.nn, 0, 0, 0, x.ba, 0, I.zero, (none, 0), [], 0, ByteArray.mk #[], 0, 0, (none, 0), [], 0, 0, false, x.mq, x.ms, (none, 0), [], x.tq, x.ts⟩
theorem oM9 {m : Mem} {x : Mg} (hx : MgM m x) : MgM m x.o9 := ⟨.nil .., .nil .., hx.mm, esNil m, hx.t, Nat.zero_le _, Nat.zero_le _, hx.ml, Nat.zero_le _, hx.tl⟩
@[reducible] def Mg.o10 (x : Mg) : Mg := ⟨x.kd, 0, 0, 0, 0, 0, 0, 0, 0, I.zero, (none, 0), [], 0, ByteArray.mk #[], x.vg, x.vn, x.vq, x.vm, 0, 0, false, (none, 0), [], x.eq, x.es, (none, 0), []⟩
theorem oM10 {m : Mem} {x : Mg} (hx : MgM m x) : MgM m x.o10 := ⟨.nil .., hx.v, .nil .., hx.e, esNil m, Nat.zero_le _, hx.vl, Nat.zero_le _, hx.el, Nat.zero_le _⟩
@[reducible] def Mg.o11 (x : Mg) : Mg := ⟨x.kd, x.gr, 0, 0, 0, 0, 0, 0, 0, I.zero, (none, 0), [], 0, ByteArray.mk #[], 0, 0, (none, 0), [], x.pn, x.pl, false, (none, 0), [], (none, 0), [], (none, 0), []⟩
theorem oM11 {m : Mem} {x : Mg} (hx : MgM m x) : MgM m x.o11 := ⟨.nil .., .nil .., .nil .., esNil m, esNil m, Nat.zero_le _, Nat.zero_le _, Nat.zero_le _, Nat.zero_le _, Nat.zero_le _⟩
@[reducible] def Mg.oo (x : Mg) : Mg := ⟨x.kd, x.gr, 0, 0, 0, 0, 0, 0, 0, I.zero, (none, 0), [], 0, ByteArray.mk #[], 0, 0, (none, 0), [], 0, 0, false, (none, 0), [], (none, 0), [], (none, 0), []⟩
theorem oMo {m : Mem} {x : Mg} (hx : MgM m x) : MgM m x.oo := ⟨.nil .., .nil .., .nil .., esNil m, esNil m, Nat.zero_le _, Nat.zero_le _, Nat.zero_le _, Nat.zero_le _, Nat.zero_le _⟩
theorem wrapFr {x : Mg} (hi : MvIn x.er) (hl : x.es.length ≤ 100000) : IntKind.wrap .i64 (IntKind.wrap .i64 x.fr + ((x.es.length : Nat) : Int)) = x.fr + ((x.es.length : Nat) : Int) := by
  have h : 0 ≤ x.fr ∧ x.fr < 4294967296 := hi.fr
  rw [w_i64 (n := x.fr) (by omega) (by omega), w_i64 (n := x.fr + _) (by omega) (by omega)]
theorem c_mFields (x : Mg) (hi : MvIn x.er) : Ctr Tryz.prog 57 #[.agg x.row.toArray] (fun m => MgM m x) [] (fun _ : Unit => .bool x.er.fieldsP) (fun _ _ => True) (fun _ => []) := by
  refine Ctr.mk fun w F m C hx => x_mFields _ _ _ _ _ _ _ _ _ _ _ _ _ _ _ _ _ _ _ _ _ _ _ _ _ _ _ _ _ _ _ _ _ _ _ _ _ _ _ _ _ w _ ?_
  have cA := c_mAsked x hi
  have cV := c_mValue x hi hx.tl
  have cI := c_Right x.id hi.id
  have cR := c_ResRight ⟨x.rc, x.rv⟩
  have cW := c_vRight ⟨x.vg, x.vn, x.vq, x.vm⟩ hi.vm
  have cE := fun g => c_all x.eq x.es g hx.el (fun e he => hi.es _ (List.mem_map_of_mem he))
  have cP := c_pRight ⟨x.pn, x.pl⟩
  have hv := vm_vw hx
  have hee := hx.e
  have hlen : (x.es.map En.er).length = x.es.length := by simp
  rw [wrapFr hi hx.el]
  clear hi
  obtain hk | hk | hk | hk | hk | hk | hk | hk | hk | hk | hk | hk | hk | hk | hk : x.kd = 0 ∨ x.kd = 1 ∨ x.kd = 2 ∨ x.kd = 3 ∨ x.kd = 4 ∨ x.kd = 5 ∨ x.kd = 6 ∨ x.kd = 7 ∨ x.kd = 8 ∨ x.kd = 9 ∨ x.kd = 10 ∨ x.kd = 11 ∨ x.kd = 12 ∨ x.kd = 13 ∨ ¬ (0 ≤ x.kd ∧ x.kd ≤ 13) := by omega
  all_goals (obtain ⟨kd, gr, co, nn, fr, cm, fl, ba, ac, id, pq, ps, rc, rv, vg, vn, vq, vm, pn, pl, has, mq, ms, eq, es, tq, ts⟩ := x)
  all_goals (try (replace hk : kd = _ := hk))
  all_goals (try subst hk)
  all_goals (dsimp only)
  · repeat (first | rw [if_pos (by decide)] | rw [if_neg (by decide)])
    intro w1 L2 h1 g1
    exact cA.call (As := []) (C.hidL h1 g1) hx fun _ m2 w5 hk hm _ C => ⟨_, rfl, hk, Ctr.ret () (by rw [fP0 rfl]) trivial C⟩
  · repeat (first | rw [if_pos (by decide)] | rw [if_neg (by decide)])
    intro w1 L2 h1 g1
    refine (C.hidL h1 g1).gives cI fun w5 k5 C => ⟨_, rfl, k5, ?_⟩
    by_cases b1 : id.right = true
    rotate_left
    · rw [if_neg (by simpa using b1)]
      refine Ctr.ret () ?_ trivial C
      rw [fP1 rfl]
      show _ = Ending.returned (.bool (id.right && _ && _))
      rw [Bool.eq_false_iff.2 b1]; rfl
    rw [if_pos (by rw [b1]; rfl)]
    refine C.gives cR fun w6 k6 C => ⟨_, rfl, k6, ?_⟩
    by_cases b2 : Rs.right ⟨rc, rv⟩ = true
    rotate_left
    · rw [if_neg (by simpa using b2)]
      refine Ctr.ret () ?_ trivial C
      rw [fP1 rfl]
      show _ = Ending.returned (.bool (_ && Rs.right ⟨rc, rv⟩ && _))
      rw [Bool.eq_false_iff.2 b2]; simp
    rw [if_pos (by rw [b2]; rfl)]
    refine cW.call (As := []) C hv fun _ m2 w7 hk hm _ C => ⟨_, rfl, hk, Ctr.ret () ?_ trivial C⟩
    rw [fP1 rfl]
    show _ = Ending.returned (.bool (id.right && Rs.right ⟨rc, rv⟩ && _))
    rw [b1, b2]; rfl
  · repeat (first | rw [if_pos (by decide)] | rw [if_neg (by decide)])
    intro w1 L2 h1 g1
    exact (C.hidL h1 g1).gives cI fun w5 k5 C => ⟨_, rfl, k5, Ctr.ret () (by rw [fP2 rfl]; rfl) trivial C⟩
  · repeat (first | rw [if_pos (by decide)] | rw [if_neg (by decide)])
    by_cases b1 : (((decide (nn > 0) && decide (fr ≤ 400)) && decide (cm ≤ 400)) && decide (fr + ((es.length : Nat) : Int) ≤ 400)) = true
    · rw [if_pos (by rw [b1]; rfl)]
      intro w1 L2 h1 g1
      refine (cE gr).call (As := []) (C.hidL h1 g1) hee fun _ m2 w7 hk hm _ C => ⟨_, rfl, hk, Ctr.ret () ?_ trivial C⟩
      rw [fP3 rfl]
      show _ = Ending.returned (.bool ((((decide (nn > 0) && decide (fr ≤ 400)) && decide (cm ≤ 400)) && decide (fr + (((es.map En.er).length : Nat) : Int) ≤ 400)) && allE (es.map En.er) gr))
      rw [hlen, b1]
    · rw [if_neg (by simpa using b1)]
      intro w1 h1
      refine Ctr.ret () ?_ trivial (C.hid0 h1)
      rw [fP3 rfl]
      show _ = Ending.returned (.bool ((((decide (nn > 0) && decide (fr ≤ 400)) && decide (cm ≤ 400)) && decide (fr + (((es.map En.er).length : Nat) : Int) ≤ 400)) && allE (es.map En.er) gr))
      rw [hlen, Bool.eq_false_iff.2 b1]; rfl
  · repeat (first | rw [if_pos (by decide)] | rw [if_neg (by decide)])
    intro w1 h1
    exact Ctr.ret () (by rw [fP4 rfl]; rfl) trivial (C.hid0 h1)
  · repeat (first | rw [if_pos (by decide)] | rw [if_neg (by decide)])
    intro w1 h1
    exact Ctr.ret () (by rw [fP5 rfl]; rfl) trivial (C.hid0 h1)
  · repeat (first | rw [if_pos (by decide)] | rw [if_neg (by decide)])
    intro w1 h1
    exact Ctr.ret () (by rw [fP6 rfl]; rfl) trivial (C.hid0 h1)
  · repeat (first | rw [if_pos (by decide)] | rw [if_neg (by decide)])
    intro w1 h1
    exact Ctr.ret () (by rw [fP7 rfl]; rfl) trivial (C.hid0 h1)
  · repeat (first | rw [if_pos (by decide)] | rw [if_neg (by decide)])
    by_cases b1 : (decide (nn > 0) && decide (ba > 0)) = true
    rotate_left
    · rw [if_neg (by simpa using b1)]
      intro w1 h1
      refine Ctr.ret () ?_ trivial (C.hid0 h1)
      rw [fP8 rfl]
      show _ = Ending.returned (.bool ((decide (nn > 0) && decide (ba > 0)) && _ && _))
      rw [Bool.eq_false_iff.2 b1]; rfl
    rw [if_pos (by rw [b1]; rfl)]
    intro w1 L2 h1 g1
    refine (cE gr).call (As := []) (C.hidL h1 g1) hee fun _ m2 w7 hk hm _ C => ⟨_, rfl, hk, ?_⟩
    by_cases b2 : allE (es.map En.er) gr = true
    rotate_left
    · rw [if_neg (by simpa using b2)]
      refine Ctr.ret () ?_ trivial C
      rw [fP8 rfl]
      show _ = Ending.returned (.bool ((decide (nn > 0) && decide (ba > 0)) && allE (es.map En.er) gr && _))
      rw [Bool.eq_false_iff.2 b2]; simp
    rw [if_pos (by rw [b2]; rfl)]
    have e8 : ∀ b : Bool, (!has || (decide (ac > 0) && Mv.val (Mg.er ⟨8, gr, co, nn, fr, cm, fl, ba, ac, id, pq, ps, rc, rv, vg, vn, vq, vm, pn, pl, has, mq, ms, eq, es, tq, ts⟩))) = b → Ending.returned (Value.bool b) = Ending.returned (.bool (Mv.fieldsP (Mg.er ⟨8, gr, co, nn, fr, cm, fl, ba, ac, id, pq, ps, rc, rv, vg, vn, vq, vm, pn, pl, has, mq, ms, eq, es, tq, ts⟩))) := fun b h => by
      rw [fP8 rfl]
      show _ = Ending.returned (.bool ((decide (nn > 0) && decide (ba > 0)) && allE (es.map En.er) gr && (!has || (decide (ac > 0) && Mv.val _))))
      rw [b1, b2, h]; rfl
    cases has with
    | false =>
      rw [if_neg (by decide)]
      exact Ctr.ret () (e8 true rfl) trivial C
    | true =>
      rw [if_pos (by decide)]
      by_cases b3 : decide (ac > 0) = true
      · rw [if_pos (by rw [b3]; rfl)]
        refine cV.call (As := []) C (hx.mono hm) fun _ m3 w8 hk hm3 _ C => ⟨_, rfl, hk, Ctr.ret () (e8 _ ?_) trivial C⟩
        rw [b3]; simp
      · rw [if_neg (by simpa using b3)]
        refine Ctr.ret () (e8 _ ?_) trivial C
        rw [Bool.eq_false_iff.2 b3]; rfl
  · repeat (first | rw [if_pos (by decide)] | rw [if_neg (by decide)])
    by_cases b1 : (decide (nn > 0) && decide (ba > 0)) = true
    · rw [if_pos (by rw [b1]; rfl)]
      intro w1 L2 h1 g1
      refine cV.call (As := []) (C.hidL h1 g1) hx fun _ m3 w8 hk hm3 _ C => ⟨_, rfl, hk, Ctr.ret () ?_ trivial C⟩
      rw [fP9 rfl]
      show _ = Ending.returned (.bool ((decide (nn > 0) && decide (ba > 0)) && _))
      rw [b1]
    · rw [if_neg (by simpa using b1)]
      intro w1 h1
      refine Ctr.ret () ?_ trivial (C.hid0 h1)
      rw [fP9 rfl]
      show _ = Ending.returned (.bool ((decide (nn > 0) && decide (ba > 0)) && _))
      rw [Bool.eq_false_iff.2 b1]; rfl
  · repeat (first | rw [if_pos (by decide)] | rw [if_neg (by decide)])
    intro w1 L2 h1 g1
    refine cW.call (As := []) (C.hidL h1 g1) hv fun _ m2 w7 hk hm _ C => ⟨_, rfl, hk, ?_⟩
    by_cases b1 : Vw.ok ⟨vg, vn, vq, vm⟩ = true
    · rw [if_pos (by rw [b1]; rfl)]
      refine (cE vg).call (As := []) C (hee.mono hm) fun _ m2 w7 hk hm _ C => ⟨_, rfl, hk, Ctr.ret () ?_ trivial C⟩
      rw [fP10 rfl]
      show _ = Ending.returned (.bool (Vw.ok ⟨vg, vn, vq, vm⟩ && allE (es.map En.er) vg))
      rw [b1]
    · rw [if_neg (by simpa using b1)]
      refine Ctr.ret () ?_ trivial C
      rw [fP10 rfl]
      show _ = Ending.returned (.bool (Vw.ok ⟨vg, vn, vq, vm⟩ && allE (es.map En.er) vg))
      rw [Bool.eq_false_iff.2 b1]; rfl
  · repeat (first | rw [if_pos (by decide)] | rw [if_neg (by decide)])
    intro w1 L2 h1 g1
    exact (C.hidL h1 g1).gives cP fun w5 k5 C => ⟨_, rfl, k5, Ctr.ret () (by rw [fP11 rfl]; rfl) trivial C⟩
  · repeat (first | rw [if_pos (by decide)] | rw [if_neg (by decide)])
    intro w1 L2 h1 g1
    exact (C.hidL h1 g1).gives cP fun w5 k5 C => ⟨_, rfl, k5, Ctr.ret () (by rw [fP12 rfl]; rfl) trivial C⟩
  · repeat (first | rw [if_pos (by decide)] | rw [if_neg (by decide)])
    intro w1 L2 h1 g1
    exact (C.hidL h1 g1).gives cP fun w5 k5 C => ⟨_, rfl, k5, Ctr.ret () (by rw [fP13 rfl]; rfl) trivial C⟩
  · have n0 : ¬ ((kd == 0) = true) := by intro h; rw [beq_iff_eq] at h; subst h; exact hk (by show (0 : Int) ≤ 0 ∧ (0 : Int) ≤ 13; decide)
    have n1 : ¬ ((kd == 1) = true) := by intro h; rw [beq_iff_eq] at h; subst h; exact hk (by show (0 : Int) ≤ 1 ∧ (1 : Int) ≤ 13; decide)
    have n2 : ¬ ((kd == 2) = true) := by intro h; rw [beq_iff_eq] at h; subst h; exact hk (by show (0 : Int) ≤ 2 ∧ (2 : Int) ≤ 13; decide)
    have n3 : ¬ ((kd == 3) = true) := by intro h; rw [beq_iff_eq] at h; subst h; exact hk (by show (0 : Int) ≤ 3 ∧ (3 : Int) ≤ 13; decide)
    have n4 : ¬ ((kd == 4) = true) := by intro h; rw [beq_iff_eq] at h; subst h; exact hk (by show (0 : Int) ≤ 4 ∧ (4 : Int) ≤ 13; decide)
    have n5 : ¬ ((kd == 5) = true) := by intro h; rw [beq_iff_eq] at h; subst h; exact hk (by show (0 : Int) ≤ 5 ∧ (5 : Int) ≤ 13; decide)
    have n6 : ¬ ((kd == 6) = true) := by intro h; rw [beq_iff_eq] at h; subst h; exact hk (by show (0 : Int) ≤ 6 ∧ (6 : Int) ≤ 13; decide)
    have n7 : ¬ ((kd == 7) = true) := by intro h; rw [beq_iff_eq] at h; subst h; exact hk (by show (0 : Int) ≤ 7 ∧ (7 : Int) ≤ 13; decide)
    have n8 : ¬ ((kd == 8) = true) := by intro h; rw [beq_iff_eq] at h; subst h; exact hk (by show (0 : Int) ≤ 8 ∧ (8 : Int) ≤ 13; decide)
    have n9 : ¬ ((kd == 9) = true) := by intro h; rw [beq_iff_eq] at h; subst h; exact hk (by show (0 : Int) ≤ 9 ∧ (9 : Int) ≤ 13; decide)
    have n10 : ¬ ((kd == 10) = true) := by intro h; rw [beq_iff_eq] at h; subst h; exact hk (by show (0 : Int) ≤ 10 ∧ (10 : Int) ≤ 13; decide)
    have n11 : ¬ ((kd == 11) = true) := by intro h; rw [beq_iff_eq] at h; subst h; exact hk (by show (0 : Int) ≤ 11 ∧ (11 : Int) ≤ 13; decide)
    have n12 : ¬ ((kd == 12) = true) := by intro h; rw [beq_iff_eq] at h; subst h; exact hk (by show (0 : Int) ≤ 12 ∧ (12 : Int) ≤ 13; decide)
    have n13 : ¬ ((kd == 13) = true) := by intro h; rw [beq_iff_eq] at h; subst h; exact hk (by show (0 : Int) ≤ 13 ∧ (13 : Int) ≤ 13; decide)
    rw [if_neg n0, if_neg n1, if_neg n2, if_neg n3, if_neg n4, if_neg n5, if_neg n6, if_neg n7, if_neg n8, if_neg n9, if_neg n10, if_neg n11, if_neg n12, if_neg n13]
    intro w1 h1
    exact Ctr.ret () (by rw [fPo hk]) trivial (C.hid0 h1)
theorem c_mOnly (x : Mg) : Ctr Tryz.prog 58 #[.agg x.row.toArray] (fun m => MgM m x) [] (fun y : Mg => .agg y.row.toArray) (fun y m => MgM m y ∧ y.er = x.er.onlyP) (fun _ => []) := by
  refine Ctr.mk fun w F m C hx => x_mOnly _ _ _ _ _ _ _ _ _ _ _ _ _ _ _ _ _ _ _ _ _ _ _ _ _ _ _ _ _ _ _ _ _ _ _ _ _ _ _ _ _ w _ ?_
  obtain hk | hk | hk | hk | hk | hk | hk | hk | hk | hk | hk | hk | hk | hk | hk : x.kd = 0 ∨ x.kd = 1 ∨ x.kd = 2 ∨ x.kd = 3 ∨ x.kd = 4 ∨ x.kd = 5 ∨ x.kd = 6 ∨ x.kd = 7 ∨ x.kd = 8 ∨ x.kd = 9 ∨ x.kd = 10 ∨ x.kd = 11 ∨ x.kd = 12 ∨ x.kd = 13 ∨ ¬ (0 ≤ x.kd ∧ x.kd ≤ 13) := by omega
  all_goals (obtain ⟨kd, gr, co, nn, fr, cm, fl, ba, ac, id, pq, ps, rc, rv, vg, vn, vq, vm, pn, pl, has, mq, ms, eq, es, tq, ts⟩ := x)
  all_goals (try (replace hk : kd = _ := hk))
  all_goals (try subst hk)
  all_goals (dsimp only)
  · repeat (first | rw [if_pos (by decide)] | rw [if_neg (by decide)])
    exact ⟨[], facts_nil _ _, fun w1 h1 => Ctr.ret (m' := m) (L := []) (Mg.o0 _) rfl ⟨oM0 hx, by rw [oP0 rfl]; rfl⟩ (C.hid0 h1)⟩
  · repeat (first | rw [if_pos (by decide)] | rw [if_neg (by decide)])
    exact fun w1 h1 => Ctr.ret (m' := m) (L := []) (Mg.o1 _) rfl ⟨oM1 hx, by rw [oP1 rfl]; rfl⟩ (C.hid0 h1)
  · repeat (first | rw [if_pos (by decide)] | rw [if_neg (by decide)])
    exact fun w1 h1 => Ctr.ret (m' := m) (L := []) (Mg.o2 _) rfl ⟨oM2 hx, by rw [oP2 rfl]; rfl⟩ (C.hid0 h1)
  · repeat (first | rw [if_pos (by decide)] | rw [if_neg (by decide)])
    exact ⟨[], facts_nil _ _, ⟨[], facts_nil _ _, fun w1 h1 => Ctr.ret (m' := m) (L := []) (Mg.o3 _) rfl ⟨oM3 hx, by rw [oP3 rfl]; rfl⟩ (C.hid0 h1)⟩⟩
  · repeat (first | rw [if_pos (by decide)] | rw [if_neg (by decide)])
    exact ⟨[], facts_nil _ _, fun w1 h1 => Ctr.ret (m' := m) (L := []) (Mg.o4 _) rfl ⟨oM4 hx, by rw [oP4 rfl]; rfl⟩ (C.hid0 h1)⟩
  · repeat (first | rw [if_pos (by decide)] | rw [if_neg (by decide)])
    exact ⟨[], facts_nil _ _, fun w1 h1 => Ctr.ret (m' := m) (L := []) (Mg.o5 _) rfl ⟨oM5 hx, by rw [oP5 rfl]; rfl⟩ (C.hid0 h1)⟩
  · repeat (first | rw [if_pos (by decide)] | rw [if_neg (by decide)])
    exact ⟨[], facts_nil _ _, fun w1 h1 => Ctr.ret (m' := m) (L := []) (Mg.o5 _) rfl ⟨oM5 hx, by rw [oP6 rfl]; rfl⟩ (C.hid0 h1)⟩
  · repeat (first | rw [if_pos (by decide)] | rw [if_neg (by decide)])
    exact ⟨[], facts_nil _ _, fun w1 h1 => Ctr.ret (m' := m) (L := []) (Mg.o5 _) rfl ⟨oM5 hx, by rw [oP7 rfl]; rfl⟩ (C.hid0 h1)⟩
  · repeat (first | rw [if_pos (by decide)] | rw [if_neg (by decide)])
    refine ⟨[], facts_nil _ _, ?_⟩
    cases has with
    | true =>
      rw [if_pos rfl]
      exact ⟨[], facts_nil _ _, [], facts_nil _ _, fun w1 h1 => Ctr.ret (m' := m) (L := []) (Mg.o8t _) rfl ⟨oM8t hx, by rw [oP8 rfl]; rfl⟩ (C.hid0 h1)⟩
    | false =>
      rw [if_neg (by decide)]
      exact ⟨[], facts_nil _ _, fun w1 h1 => Ctr.ret (m' := m) (L := []) (Mg.o8f _) rfl ⟨oM8f hx, by rw [oP8 rfl]; rfl⟩ (C.hid0 h1)⟩
  · repeat (first | rw [if_pos (by decide)] | rw [if_neg (by decide)])
    exact ⟨[], facts_nil _ _, ⟨[], facts_nil _ _, fun w1 h1 => Ctr.ret (m' := m) (L := []) (Mg.o9 _) rfl ⟨oM9 hx, by rw [oP9 rfl]; rfl⟩ (C.hid0 h1)⟩⟩
  · repeat (first | rw [if_pos (by decide)] | rw [if_neg (by decide)])
    exact fun w1 h1 => Ctr.ret (m' := m) (L := []) (Mg.o10 _) rfl ⟨oM10 hx, by rw [oP10 rfl]; rfl⟩ (C.hid0 h1)
  · repeat (first | rw [if_pos (by decide)] | rw [if_neg (by decide)])
    exact fun w1 h1 => Ctr.ret (m' := m) (L := []) (Mg.o11 _) rfl ⟨oM11 hx, by rw [oP11 rfl]; rfl⟩ (C.hid0 h1)
  · repeat (first | rw [if_pos (by decide)] | rw [if_neg (by decide)])
    exact fun w1 h1 => Ctr.ret (m' := m) (L := []) (Mg.o11 _) rfl ⟨oM11 hx, by rw [oP12 rfl]; rfl⟩ (C.hid0 h1)
  · repeat (first | rw [if_pos (by decide)] | rw [if_neg (by decide)])
    exact fun w1 h1 => Ctr.ret (m' := m) (L := []) (Mg.o11 _) rfl ⟨oM11 hx, by rw [oP13 rfl]; rfl⟩ (C.hid0 h1)
  · have n0 : ¬ ((kd == 0) = true) := by intro h; rw [beq_iff_eq] at h; subst h; exact hk (by show (0 : Int) ≤ 0 ∧ (0 : Int) ≤ 13; decide)
    have n1 : ¬ ((kd == 1) = true) := by intro h; rw [beq_iff_eq] at h; subst h; exact hk (by show (0 : Int) ≤ 1 ∧ (1 : Int) ≤ 13; decide)
    have n2 : ¬ ((kd == 2) = true) := by intro h; rw [beq_iff_eq] at h; subst h; exact hk (by show (0 : Int) ≤ 2 ∧ (2 : Int) ≤ 13; decide)
    have n3 : ¬ ((kd == 3) = true) := by intro h; rw [beq_iff_eq] at h; subst h; exact hk (by show (0 : Int) ≤ 3 ∧ (3 : Int) ≤ 13; decide)
    have n4 : ¬ ((kd == 4) = true) := by intro h; rw [beq_iff_eq] at h; subst h; exact hk (by show (0 : Int) ≤ 4 ∧ (4 : Int) ≤ 13; decide)
    have n5 : ¬ ((kd == 5) = true) := by intro h; rw [beq_iff_eq] at h; subst h; exact hk (by show (0 : Int) ≤ 5 ∧ (5 : Int) ≤ 13; decide)
    have n6 : ¬ ((kd == 6) = true) := by intro h; rw [beq_iff_eq] at h; subst h; exact hk (by show (0 : Int) ≤ 6 ∧ (6 : Int) ≤ 13; decide)
    have n7 : ¬ ((kd == 7) = true) := by intro h; rw [beq_iff_eq] at h; subst h; exact hk (by show (0 : Int) ≤ 7 ∧ (7 : Int) ≤ 13; decide)
    have n8 : ¬ ((kd == 8) = true) := by intro h; rw [beq_iff_eq] at h; subst h; exact hk (by show (0 : Int) ≤ 8 ∧ (8 : Int) ≤ 13; decide)
    have n9 : ¬ ((kd == 9) = true) := by intro h; rw [beq_iff_eq] at h; subst h; exact hk (by show (0 : Int) ≤ 9 ∧ (9 : Int) ≤ 13; decide)
    have n10 : ¬ ((kd == 10) = true) := by intro h; rw [beq_iff_eq] at h; subst h; exact hk (by show (0 : Int) ≤ 10 ∧ (10 : Int) ≤ 13; decide)
    have n11 : ¬ ((kd == 11) = true) := by intro h; rw [beq_iff_eq] at h; subst h; exact hk (by show (0 : Int) ≤ 11 ∧ (11 : Int) ≤ 13; decide)
    have n12 : ¬ ((kd == 12) = true) := by intro h; rw [beq_iff_eq] at h; subst h; exact hk (by show (0 : Int) ≤ 12 ∧ (12 : Int) ≤ 13; decide)
    have n13 : ¬ ((kd == 13) = true) := by intro h; rw [beq_iff_eq] at h; subst h; exact hk (by show (0 : Int) ≤ 13 ∧ (13 : Int) ≤ 13; decide)
    repeat (first | rw [if_neg n0] | rw [if_neg n1] | rw [if_neg n2] | rw [if_neg n3] | rw [if_neg n4] | rw [if_neg n5] | rw [if_neg n6] | rw [if_neg n7] | rw [if_neg n8] | rw [if_neg n9] | rw [if_neg n10] | rw [if_neg n11] | rw [if_neg n12] | rw [if_neg n13])
    exact fun w1 h1 => Ctr.ret (m' := m) (L := []) (Mg.oo _) rfl ⟨oMo hx, by rw [oPo hk]; rfl⟩ (C.hid0 h1)
end Go.Proofs
namespace Go.Proofs
open Go X RowKit
theorem er_no {a b : Mg} {c : Bool} (h : ¬ c = true) (hc : a.er = b.er → c = true) : decide (a.er = b.er) = false := decide_eq_false (fun e => h (hc e))
theorem lenEq {l l' : List En} (h : l.map En.er = l'.map En.er) : l.length = l'.length := by simpa using congrArg List.length h
theorem c_mSame (a b : Mg) : Ctr Tryz.prog 15 #[.agg a.row.toArray, .agg b.row.toArray] (fun m => MgM m a ∧ MgM m b) [] (fun _ : Unit => .bool (decide (a.er = b.er))) (fun _ _ => True) (fun _ => []) := by
  refine Ctr.mk fun w F m C hp => x_mSame _ _ _ _ _ _ _ _ _ _ _ _ _ _ _ _ _ _ _ _ _ _ _ _ _ _ _ _ _ _ _ _ _ _ _ _ _ _ _ _ _ _ _ _ _ _ _ _ _ _ _ _ _ _ _ _ _ _ _ _ _ _ _ _ _ _ _ _ _ _ _ _ _ _ _ _ _ _ _ _ _ _ w _ fun w1 L2 h1 g1 => ?_
  obtain ⟨ha, hb⟩ := hp
  refine (c_pSame a.pq b.pq a.ps b.ps (by have := ha.pl; omega)).call (As := []) (C.hidL h1 g1) ⟨ha.p, hb.p⟩ fun _ m1 w4 hk hm _ C => ⟨_, rfl, hk, ?_⟩
  replace ha := ha.mono hm; replace hb := hb.mono hm
  by_cases n_ps : decide (a.ps = b.ps) = true
  rotate_left
  · rw [if_neg (by rw [Bool.eq_false_iff.2 n_ps]; decide)]
    refine Ctr.ret () ?_ trivial C
    rw [er_no n_ps (fun h => by have e : a.ps = b.ps := congrArg Mv.ps h; exact decide_eq_true e)]; simp only [Bool.false_and]
  rw [if_pos (by rw [n_ps]; rfl)]
  refine (c_vSame ⟨a.vg, a.vn, a.vq, a.vm⟩ ⟨b.vg, b.vn, b.vq, b.vm⟩ ha.vl).call (As := []) C ⟨ha.v, hb.v⟩ fun _ m1 w7 hk hm _ C => ⟨_, rfl, hk, ?_⟩
  replace ha := ha.mono hm; replace hb := hb.mono hm
  by_cases n_v : ((a.vg == b.vg) && (a.vn == b.vn) && decide (a.vm = b.vm)) = true
  rotate_left
  · rw [if_neg (by rw [Bool.eq_false_iff.2 n_v]; decide)]
    refine Ctr.ret () ?_ trivial C
    rw [er_no n_v (fun h => by have e1 : a.vg = b.vg := congrArg Mv.vg h; have e2 : a.vn = b.vn := congrArg Mv.vn h; have e3 : a.vm = b.vm := congrArg Mv.vm h; rw [e1, e2, e3]; simp)]; simp only [Bool.false_and]
  rw [if_pos (by rw [n_v]; rfl)]
  refine (c_EqualPr a.mq b.mq a.ms b.ms (by have := ha.ml; omega)).call (As := []) C ⟨ha.mm, hb.mm⟩ fun _ m1 w7 hk hm _ C => ⟨_, rfl, hk, ?_⟩
  replace ha := ha.mono hm; replace hb := hb.mono hm
  by_cases n_ms : decide (a.ms = b.ms) = true
  rotate_left
  · rw [if_neg (by rw [Bool.eq_false_iff.2 n_ms]; decide)]
    refine Ctr.ret () ?_ trivial C
    rw [er_no n_ms (fun h => by have e : a.ms = b.ms := congrArg Mv.ms h; exact decide_eq_true e)]; simp only [Bool.false_and]
  rw [if_pos (by rw [n_ms]; rfl)]
  refine (c_eSameAll a.eq b.eq a.es b.es (by have := ha.el; omega)).call (As := []) C ⟨ha.e, hb.e⟩ fun _ m1 w7 hk hm _ C => ⟨_, rfl, hk, ?_⟩
  replace ha := ha.mono hm; replace hb := hb.mono hm
  by_cases n_es : decide (a.es.map En.er = b.es.map En.er) = true
  rotate_left
  · rw [if_neg (by rw [Bool.eq_false_iff.2 n_es]; decide)]
    refine Ctr.ret () ?_ trivial C
    rw [er_no n_es (fun h => by have e : a.es.map En.er = b.es.map En.er := congrArg Mv.es h; exact decide_eq_true e)]; simp only [Bool.false_and]
  rw [if_pos (by rw [n_es]; rfl)]
  refine (c_eSameAll a.tq b.tq a.ts b.ts (by have := ha.tl; omega)).call (As := []) C ⟨ha.t, hb.t⟩ fun _ m1 w7 hk hm _ C => ⟨_, rfl, hk, ?_⟩
  refine Ctr.ret () ?_ trivial C
  by_cases n_ts : decide (a.ts.map En.er = b.ts.map En.er) = true
  rotate_left
  · rw [er_no n_ts (fun h => by have e : a.ts.map En.er = b.ts.map En.er := congrArg Mv.ts h; exact decide_eq_true e), Bool.eq_false_iff.2 n_ts]; simp only [Bool.false_and, Bool.and_false, Bool.true_and]
  by_cases n_kd : (a.kd == b.kd) = true
  rotate_left
  · rw [er_no n_kd (fun h => by have e := congrArg Mv.kd h; exact beq_iff_eq.2 e), Bool.eq_false_iff.2 n_kd]; simp only [Bool.false_and, Bool.and_false, Bool.true_and]
  by_cases n_gr : (a.gr == b.gr) = true
  rotate_left
  · rw [er_no n_gr (fun h => by have e := congrArg Mv.gr h; exact beq_iff_eq.2 e), Bool.eq_false_iff.2 n_gr]; simp only [Bool.false_and, Bool.and_false, Bool.true_and]
  by_cases n_co : (a.co == b.co) = true
  rotate_left
  · rw [er_no n_co (fun h => by have e := congrArg Mv.co h; exact beq_iff_eq.2 e), Bool.eq_false_iff.2 n_co]; simp only [Bool.false_and, Bool.and_false, Bool.true_and]
  by_cases n_nn : (a.nn == b.nn) = true
  rotate_left
  · rw [er_no n_nn (fun h => by have e := congrArg Mv.nn h; exact beq_iff_eq.2 e), Bool.eq_false_iff.2 n_nn]; simp only [Bool.false_and, Bool.and_false, Bool.true_and]
  by_cases n_fr : (a.fr == b.fr) = true
  rotate_left
  · rw [er_no n_fr (fun h => by have e := congrArg Mv.fr h; exact beq_iff_eq.2 e), Bool.eq_false_iff.2 n_fr]; simp only [Bool.false_and, Bool.and_false, Bool.true_and]
  by_cases n_cm : (a.cm == b.cm) = true
  rotate_left
  · rw [er_no n_cm (fun h => by have e := congrArg Mv.cm h; exact beq_iff_eq.2 e), Bool.eq_false_iff.2 n_cm]; simp only [Bool.false_and, Bool.and_false, Bool.true_and]
  by_cases n_fl : (a.fl == b.fl) = true
  rotate_left
  · rw [er_no n_fl (fun h => by have e := congrArg Mv.fl h; exact beq_iff_eq.2 e), Bool.eq_false_iff.2 n_fl]; simp only [Bool.false_and, Bool.and_false, Bool.true_and]
  by_cases n_ba : (a.ba == b.ba) = true
  rotate_left
  · rw [er_no n_ba (fun h => by have e := congrArg Mv.ba h; exact beq_iff_eq.2 e), Bool.eq_false_iff.2 n_ba]; simp only [Bool.false_and, Bool.and_false, Bool.true_and]
  by_cases n_ac : (a.ac == b.ac) = true
  rotate_left
  · rw [er_no n_ac (fun h => by have e := congrArg Mv.ac h; exact beq_iff_eq.2 e), Bool.eq_false_iff.2 n_ac]; simp only [Bool.false_and, Bool.and_false, Bool.true_and]
  by_cases n_id : (((a.id.n == b.id.n) && (a.id.l == b.id.l)) && ((a.id.s == b.id.s) && ((a.id.d == b.id.d) && (((a.id.g0 == b.id.g0) && (a.id.i0 == b.id.i0)) && (((a.id.g1 == b.id.g1) && (a.id.i1 == b.id.i1)) && ((a.id.g2 == b.id.g2) && (a.id.i2 == b.id.i2))))))) = true
  rotate_left
  · rw [er_no n_id (fun h => by have e : a.id = b.id := congrArg Mv.id h; rw [i_eqd]; exact decide_eq_true e), Bool.eq_false_iff.2 n_id]; simp only [Bool.false_and, Bool.and_false, Bool.true_and]
  by_cases n_res : ((a.rc == b.rc) && (a.rv == b.rv)) = true
  rotate_left
  · rw [er_no n_res (fun h => by have e1 : a.rc = b.rc := congrArg Mv.rc h; have e2 : a.rv = b.rv := congrArg Mv.rv h; rw [Bool.and_eq_true]; exact ⟨beq_iff_eq.2 e1, (ba_eq _ _).2 e2⟩), Bool.eq_false_iff.2 n_res]; simp only [Bool.false_and, Bool.and_false, Bool.true_and]
  by_cases n_proc : ((a.pn == b.pn) && (a.pl == b.pl)) = true
  rotate_left
  · rw [er_no n_proc (fun h => by have e1 : a.pn = b.pn := congrArg Mv.pn h; have e2 : a.pl = b.pl := congrArg Mv.pl h; rw [Bool.and_eq_true]; exact ⟨beq_iff_eq.2 e1, beq_iff_eq.2 e2⟩), Bool.eq_false_iff.2 n_proc]; simp only [Bool.false_and, Bool.and_false, Bool.true_and]
  by_cases n_has : (a.has == b.has) = true
  rotate_left
  · rw [er_no n_has (fun h => by have e := congrArg Mv.has h; exact beq_iff_eq.2 e), Bool.eq_false_iff.2 n_has]; simp only [Bool.false_and, Bool.and_false, Bool.true_and]
  have e : a.er = b.er := by
    exact mv_ext ⟨beq_iff_eq.1 n_kd, beq_iff_eq.1 n_gr, beq_iff_eq.1 n_co, beq_iff_eq.1 n_nn, beq_iff_eq.1 n_fr, beq_iff_eq.1 n_cm, beq_iff_eq.1 n_fl, beq_iff_eq.1 n_ba, beq_iff_eq.1 n_ac, by rw [i_eqd] at n_id; exact of_decide_eq_true n_id, of_decide_eq_true n_ps, by rw [Bool.and_eq_true] at n_res; exact beq_iff_eq.1 n_res.1, by rw [Bool.and_eq_true] at n_res; exact (ba_eq _ _).1 n_res.2, by simp only [Bool.and_eq_true, beq_iff_eq] at n_v; exact n_v.1.1, by simp only [Bool.and_eq_true, beq_iff_eq] at n_v; exact n_v.1.2, by simp only [Bool.and_eq_true, decide_eq_true_eq] at n_v; exact n_v.2, by rw [Bool.and_eq_true] at n_proc; exact beq_iff_eq.1 n_proc.1, by rw [Bool.and_eq_true] at n_proc; exact beq_iff_eq.1 n_proc.2, by exact beq_iff_eq.1 n_has, of_decide_eq_true n_ms, of_decide_eq_true n_es, of_decide_eq_true n_ts⟩
  rw [decide_eq_true e, n_ts, n_kd, n_gr, n_co, n_nn, n_fr, n_cm, n_fl, n_ba, n_ac, n_id, n_res, n_proc, n_has]; rfl
theorem c_r7Same (a b : Mg) : Ctr Tryz.prog 13 #[.agg a.row.toArray, .agg b.row.toArray] (fun m => MgM m a ∧ MgM m b) [] (fun _ : Unit => .bool (decide (a.er = b.er))) (fun _ _ => True) (fun _ => []) := by
  refine Ctr.mk fun w F m C hp => x_r7Same _ _ _ _ _ _ _ _ _ _ _ _ _ _ _ _ _ _ _ _ _ _ _ _ _ _ _ _ _ _ _ _ _ _ _ _ _ _ _ _ _ _ _ _ _ _ _ _ _ _ _ _ _ _ _ _ _ _ _ _ _ _ _ _ _ _ _ _ _ _ _ _ _ _ _ _ _ _ _ _ _ _ w _ fun w1 L2 h1 g1 => ?_
  obtain ⟨ha, hb⟩ := hp
  replace C := (C.hidL h1 g1).alloc b.row 40
  refine ⟨b.kd, C.blkCell (j := 0) rfl, C.blkAt.2, ?_⟩
  by_cases n_kd : (a.kd == b.kd) = true
  rotate_left
  · rw [if_neg (by rw [Bool.eq_false_iff.2 n_kd]; decide)]
    refine Ctr.ret (m' := _) (L := _) () ?_ trivial C.drop
    rw [er_no n_kd (fun h => by have e := congrArg Mv.kd h; exact beq_iff_eq.2 e)]
  rw [if_pos (by rw [n_kd]; rfl)]
  refine ⟨b.gr, C.blkCell (j := 1) rfl, C.blkAt.2, ?_⟩
  by_cases n_gr : (a.gr == b.gr) = true
  rotate_left
  · rw [if_neg (by rw [Bool.eq_false_iff.2 n_gr]; decide)]
    refine Ctr.ret (m' := _) (L := _) () ?_ trivial C.drop
    rw [er_no n_gr (fun h => by have e := congrArg Mv.gr h; exact beq_iff_eq.2 e)]
  rw [if_pos (by rw [n_gr]; rfl)]
  refine ⟨b.co, C.blkCell (j := 2) rfl, C.blkAt.2, ?_⟩
  by_cases n_co : (a.co == b.co) = true
  rotate_left
  · rw [if_neg (by rw [Bool.eq_false_iff.2 n_co]; decide)]
    refine Ctr.ret (m' := _) (L := _) () ?_ trivial C.drop
    rw [er_no n_co (fun h => by have e := congrArg Mv.co h; exact beq_iff_eq.2 e)]
  rw [if_pos (by rw [n_co]; rfl)]
  refine ⟨b.nn, C.blkCell (j := 3) rfl, C.blkAt.2, ?_⟩
  by_cases n_nn : (a.nn == b.nn) = true
  rotate_left
  · rw [if_neg (by rw [Bool.eq_false_iff.2 n_nn]; decide)]
    refine Ctr.ret (m' := _) (L := _) () ?_ trivial C.drop
    rw [er_no n_nn (fun h => by have e := congrArg Mv.nn h; exact beq_iff_eq.2 e)]
  rw [if_pos (by rw [n_nn]; rfl)]
  refine ⟨b.fr, C.blkCell (j := 4) rfl, C.blkAt.2, ?_⟩
  by_cases n_fr : (a.fr == b.fr) = true
  rotate_left
  · rw [if_neg (by rw [Bool.eq_false_iff.2 n_fr]; decide)]
    refine Ctr.ret (m' := _) (L := _) () ?_ trivial C.drop
    rw [er_no n_fr (fun h => by have e := congrArg Mv.fr h; exact beq_iff_eq.2 e)]
  rw [if_pos (by rw [n_fr]; rfl)]
  refine ⟨b.cm, C.blkCell (j := 5) rfl, C.blkAt.2, ?_⟩
  by_cases n_cm : (a.cm == b.cm) = true
  rotate_left
  · rw [if_neg (by rw [Bool.eq_false_iff.2 n_cm]; decide)]
    refine Ctr.ret (m' := _) (L := _) () ?_ trivial C.drop
    rw [er_no n_cm (fun h => by have e := congrArg Mv.cm h; exact beq_iff_eq.2 e)]
  rw [if_pos (by rw [n_cm]; rfl)]
  refine ⟨b.fl, C.blkCell (j := 6) rfl, C.blkAt.2, ?_⟩
  by_cases n_fl : (a.fl == b.fl) = true
  rotate_left
  · rw [if_neg (by rw [Bool.eq_false_iff.2 n_fl]; decide)]
    refine Ctr.ret (m' := _) (L := _) () ?_ trivial C.drop
    rw [er_no n_fl (fun h => by have e := congrArg Mv.fl h; exact beq_iff_eq.2 e)]
  rw [if_pos (by rw [n_fl]; rfl)]
  refine ⟨b.ba, C.blkCell (j := 7) rfl, C.blkAt.2, ?_⟩
  by_cases n_ba : (a.ba == b.ba) = true
  rotate_left
  · rw [if_neg (by rw [Bool.eq_false_iff.2 n_ba]; decide)]
    refine Ctr.ret (m' := _) (L := _) () ?_ trivial C.drop
    rw [er_no n_ba (fun h => by have e := congrArg Mv.ba h; exact beq_iff_eq.2 e)]
  rw [if_pos (by rw [n_ba]; rfl)]
  refine ⟨b.ac, C.blkCell (j := 8) rfl, C.blkAt.2, ?_⟩
  by_cases n_ac : (a.ac == b.ac) = true
  rotate_left
  · rw [if_neg (by rw [Bool.eq_false_iff.2 n_ac]; decide)]
    refine Ctr.ret (m' := _) (L := _) () ?_ trivial C.drop
    rw [er_no n_ac (fun h => by have e := congrArg Mv.ac h; exact beq_iff_eq.2 e)]
  rw [if_pos (by rw [n_ac]; rfl)]
  refine ⟨_, _, _, _, _, _, _, _, _, _, C.blkCells (o := 9) (fun j v h => by rcases j with _ | _ | _ | _ | _ | _ | _ | _ | _ | _ | j <;> first | exact h | (simp at h)), C.blkAt.2, ?_⟩
  by_cases n_id : (((a.id.n == b.id.n) && (a.id.l == b.id.l)) && ((a.id.s == b.id.s) && ((a.id.d == b.id.d) && (((a.id.g0 == b.id.g0) && (a.id.i0 == b.id.i0)) && (((a.id.g1 == b.id.g1) && (a.id.i1 == b.id.i1)) && ((a.id.g2 == b.id.g2) && (a.id.i2 == b.id.i2))))))) = true
  rotate_left
  · rw [if_neg (by rw [Bool.eq_false_iff.2 n_id]; decide)]
    refine Ctr.ret (m' := _) (L := _) () ?_ trivial C.drop
    rw [er_no n_id (fun h => by have e : a.id = b.id := congrArg Mv.id h; rw [i_eqd]; exact decide_eq_true e)]
  rw [if_pos (by rw [n_id]; rfl)]
  refine ⟨b.pq.1, b.ps.length, b.pq.2, C.blkCell (j := 19) rfl, C.blkAt.2, ?_⟩
  refine (c_r3Same a.pq b.pq a.ps b.ps (by have := ha.pl; omega)).call (As := [_]) C ⟨ha.p, hb.p⟩ fun _ m1 w4 hk hm _ C => ⟨_, rfl, hk, ?_⟩
  replace ha := ha.mono hm; replace hb := hb.mono hm
  by_cases n_ps : decide (a.ps = b.ps) = true
  rotate_left
  · rw [if_neg (by rw [Bool.eq_false_iff.2 n_ps]; decide)]
    refine Ctr.ret (m' := _) (L := _) () ?_ trivial C.drop
    rw [er_no n_ps (fun h => by have e : a.ps = b.ps := congrArg Mv.ps h; exact decide_eq_true e)]
  rw [if_pos (by rw [n_ps]; rfl)]
  refine ⟨_, _, C.blkCells (o := 20) (fun j v h => by rcases j with _ | _ | j <;> first | exact h | (simp at h)), C.blkAt.2, ?_⟩
  by_cases n_res : ((a.rc == b.rc) && (a.rv == b.rv)) = true
  rotate_left
  · rw [if_neg (by rw [Bool.eq_false_iff.2 n_res]; decide)]
    refine Ctr.ret (m' := _) (L := _) () ?_ trivial C.drop
    rw [er_no n_res (fun h => by have e1 : a.rc = b.rc := congrArg Mv.rc h; have e2 : a.rv = b.rv := congrArg Mv.rv h; rw [Bool.and_eq_true]; exact ⟨beq_iff_eq.2 e1, (ba_eq _ _).2 e2⟩)]
  rw [if_pos (by rw [n_res]; rfl)]
  refine ⟨b.vg, b.vn, b.vq.1, b.vm.length, b.vq.2, C.blkCells (o := 22) (fun j v h => by rcases j with _ | _ | _ | j <;> first | exact h | (simp at h)), C.blkAt.2, ?_⟩
  refine (c_r6Same ⟨a.vg, a.vn, a.vq, a.vm⟩ ⟨b.vg, b.vn, b.vq, b.vm⟩ ha.vl).call (As := [_]) C ⟨ha.v, hb.v⟩ fun _ m1 w7 hk hm _ C => ⟨_, rfl, hk, ?_⟩
  replace ha := ha.mono hm; replace hb := hb.mono hm
  by_cases n_v : ((a.vg == b.vg) && (a.vn == b.vn) && decide (a.vm = b.vm)) = true
  rotate_left
  · rw [if_neg (by rw [Bool.eq_false_iff.2 n_v]; decide)]
    refine Ctr.ret (m' := _) (L := _) () ?_ trivial C.drop
    rw [er_no n_v (fun h => by have e1 : a.vg = b.vg := congrArg Mv.vg h; have e2 : a.vn = b.vn := congrArg Mv.vn h; have e3 : a.vm = b.vm := congrArg Mv.vm h; rw [e1, e2, e3]; simp)]
  rw [if_pos (by rw [n_v]; rfl)]
  refine ⟨_, _, C.blkCells (o := 25) (fun j v h => by rcases j with _ | _ | j <;> first | exact h | (simp at h)), C.blkAt.2, ?_⟩
  by_cases n_proc : ((a.pn == b.pn) && (a.pl == b.pl)) = true
  rotate_left
  · rw [if_neg (by rw [Bool.eq_false_iff.2 n_proc]; decide)]
    refine Ctr.ret (m' := _) (L := _) () ?_ trivial C.drop
    rw [er_no n_proc (fun h => by have e1 : a.pn = b.pn := congrArg Mv.pn h; have e2 : a.pl = b.pl := congrArg Mv.pl h; rw [Bool.and_eq_true]; exact ⟨beq_iff_eq.2 e1, beq_iff_eq.2 e2⟩)]
  rw [if_pos (by rw [n_proc]; rfl)]
  refine ⟨b.has, C.blkCell (j := 27) rfl, C.blkAt.2, ?_⟩
  by_cases n_has : (a.has == b.has) = true
  rotate_left
  · rw [if_neg (by rw [Bool.eq_false_iff.2 n_has]; decide)]
    refine Ctr.ret (m' := _) (L := _) () ?_ trivial C.drop
    rw [er_no n_has (fun h => by have e := congrArg Mv.has h; exact beq_iff_eq.2 e)]
  rw [if_pos (by rw [n_has]; rfl)]
  refine ⟨b.mq.1, b.ms.length, b.mq.2, C.blkCell (j := 28) rfl, C.blkAt.2, ?_⟩
  refine (c_SameProcs a.mq b.mq a.ms b.ms (by have := ha.ml; omega)).call (As := [_]) C ⟨ha.mm, hb.mm⟩ fun _ m1 w7 hk hm _ C => ⟨_, rfl, hk, ?_⟩
  replace ha := ha.mono hm; replace hb := hb.mono hm
  by_cases n_ms : decide (a.ms = b.ms) = true
  rotate_left
  · rw [if_neg (by rw [Bool.eq_false_iff.2 n_ms]; decide)]
    refine Ctr.ret (m' := _) (L := _) () ?_ trivial C.drop
    rw [er_no n_ms (fun h => by have e : a.ms = b.ms := congrArg Mv.ms h; exact decide_eq_true e)]
  rw [if_pos (by rw [n_ms]; rfl)]
  refine ⟨b.eq.1, b.es.length, b.eq.2, C.blkCell (j := 29) rfl, C.blkAt.2, ?_⟩
  refine (c_rSameAll a.eq b.eq a.es b.es (by have := ha.el; omega)).call (As := [_]) C ⟨ha.e, hb.e⟩ fun _ m1 w7 hk hm _ C => ⟨_, rfl, hk, ?_⟩
  replace ha := ha.mono hm; replace hb := hb.mono hm
  by_cases n_es : decide (a.es.map En.er = b.es.map En.er) = true
  rotate_left
  · rw [if_neg (by rw [Bool.eq_false_iff.2 n_es]; decide)]
    refine Ctr.ret (m' := _) (L := _) () ?_ trivial C.drop
    rw [er_no n_es (fun h => by have e : a.es.map En.er = b.es.map En.er := congrArg Mv.es h; exact decide_eq_true e)]
  rw [if_pos (by rw [n_es]; rfl)]
  refine ⟨b.tq.1, b.ts.length, b.tq.2, C.blkCell (j := 30) rfl, C.blkAt.2, ?_⟩
  refine (c_rSameAll a.tq b.tq a.ts b.ts (by have := ha.tl; omega)).call (As := [_]) C ⟨ha.t, hb.t⟩ fun _ m1 w7 hk hm _ C => ⟨_, rfl, hk, ?_⟩
  refine Ctr.ret (m' := _) (L := _) () ?_ trivial C.drop
  by_cases n_ts : decide (a.ts.map En.er = b.ts.map En.er) = true
  rotate_left
  · rw [er_no n_ts (fun h => by have e : a.ts.map En.er = b.ts.map En.er := congrArg Mv.ts h; exact decide_eq_true e), Bool.eq_false_iff.2 n_ts]; rfl
  have e : a.er = b.er := by
    exact mv_ext ⟨beq_iff_eq.1 n_kd, beq_iff_eq.1 n_gr, beq_iff_eq.1 n_co, beq_iff_eq.1 n_nn, beq_iff_eq.1 n_fr, beq_iff_eq.1 n_cm, beq_iff_eq.1 n_fl, beq_iff_eq.1 n_ba, beq_iff_eq.1 n_ac, by rw [i_eqd] at n_id; exact of_decide_eq_true n_id, of_decide_eq_true n_ps, by rw [Bool.and_eq_true] at n_res; exact beq_iff_eq.1 n_res.1, by rw [Bool.and_eq_true] at n_res; exact (ba_eq _ _).1 n_res.2, by simp only [Bool.and_eq_true, beq_iff_eq] at n_v; exact n_v.1.1, by simp only [Bool.and_eq_true, beq_iff_eq] at n_v; exact n_v.1.2, by simp only [Bool.and_eq_true, decide_eq_true_eq] at n_v; exact n_v.2, by rw [Bool.and_eq_true] at n_proc; exact beq_iff_eq.1 n_proc.1, by rw [Bool.and_eq_true] at n_proc; exact beq_iff_eq.1 n_proc.2, by exact beq_iff_eq.1 n_has, of_decide_eq_true n_ms, of_decide_eq_true n_es, of_decide_eq_true n_ts⟩
  rw [decide_eq_true e, n_ts]; rfl
def Mv.right (x : Mv) : Bool := decide (x.gr < 4) && x.fieldsP && decide (x = x.onlyP)
theorem c_mRight (x : Mg) (hi : MvIn x.er) : Ctr Tryz.prog 19 #[.agg x.row.toArray] (fun m => MgM m x) [] (fun _ : Unit => .bool x.er.right) (fun _ _ => True) (fun _ => []) := by
  refine Ctr.mk fun w F m C hx => x_mRight _ _ _ _ _ _ _ _ _ _ _ _ _ _ _ _ _ _ _ _ _ _ _ _ _ _ _ _ _ _ _ _ _ _ _ _ _ _ _ _ _ w _ ⟨[], facts_nil _ _, ?_⟩
  by_cases hg : decide (x.gr < 4) = true
  rotate_left
  · rw [if_neg (by rw [Bool.eq_false_iff.2 hg]; decide)]
    refine ⟨[], facts_nil _ _, (fun _ h => h), fun w4 h4 => Ctr.ret () ?_ trivial (C.hid0 h4)⟩
    have : decide (x.er.gr < 4) = false := Bool.eq_false_iff.2 hg
    rw [Mv.right, this]; rfl
  rw [if_pos (by rw [hg]; rfl)]
  intro w5 L6 h5 g5
  have hg' : decide (x.er.gr < 4) = true := hg
  refine (c_mFields x hi).call (As := []) (C.hidL h5 g5) hx fun _ m1 w8 hk hm _ C => ⟨_, rfl, hk, facts_nil _ _, [], facts_nil _ _, (fun _ h => h), ?_⟩
  by_cases hf : x.er.fieldsP = true
  rotate_left
  · rw [if_neg (by rw [Bool.eq_false_iff.2 hf]; decide)]
    refine Ctr.ret () ?_ trivial C
    rw [Mv.right, hg', Bool.eq_false_iff.2 hf]; rfl
  rw [if_pos (by rw [hf]; rfl)]
  refine (c_mOnly x).call (As := []) C (hx.mono hm) fun y m2 w13 hk hm2 hy C => ⟨_, _, _, _, _, _, _, _, _, _, _, _, _, _, _, _, _, _, _, _, _, _, _, _, _, _, _, _, _, _, _, _, _, _, _, _, _, _, _, _, _, rfl, hk, facts_nil _ _, ?_⟩
  refine (c_mSame x y).call (As := []) C ⟨(hx.mono hm).mono hm2, hy.1⟩ fun _ m3 w56 hk hm3 _ C => ⟨_, rfl, hk, facts_nil _ _, Ctr.ret () ?_ trivial C⟩
  rw [Mv.right, hg', hf, hy.2]; rfl
structure MgM0 (m : Mem) (x : Mg) : Prop where
  p : MSrc m 5 (slV x.pq x.ps.length) x.ps.length (x.ps.flatMap Pt.row)
  v : MSrc m 2 (slV x.vq x.vm.length) x.vm.length (x.vm.flatMap Pr.row)
  mm : MSrc m 2 (slV x.mq x.ms.length) x.ms.length (x.ms.flatMap Pr.row)
  e : MSrc m 18 (slV x.eq x.es.length) x.es.length (x.es.flatMap En.row) ∧ ∀ e ∈ x.es, EnM0 m e
  t : MSrc m 18 (slV x.tq x.ts.length) x.ts.length (x.ts.flatMap En.row) ∧ ∀ e ∈ x.ts, EnM0 m e
  pl : x.ps.length ≤ 2932031007402
theorem MgM0.mono {m m' : Mem} {x : Mg} (h : MgM0 m x) (hm : m.le m') : MgM0 m' x := ⟨h.p.mono hm, h.v.mono hm, h.mm.mono hm, ⟨h.e.1.mono hm, fun e he => (h.e.2 e he).mono hm⟩, ⟨h.t.1.mono hm, fun e he => (h.t.2 e he).mono hm⟩, h.pl⟩
def ltE (l : List En) : Prop := l.length ≤ 150 ∧ ∀ e ∈ l, e.ps.length < 200 ∧ e.ws.length ≤ 300
structure Mg.lt (x : Mg) : Prop where
  v : x.vm.length ≤ 40
  m : x.ms.length ≤ 40
  rv : x.rv.size ≤ 2000
  e : ltE x.es
  t : ltE x.ts
theorem c_Light7 (x : Mg) : Ctr Tryz.prog 5 #[.agg x.row.toArray] (fun m => MgM0 m x) [] (fun b : Bool => .bool b) (fun b _ => b = true → x.lt) (fun _ => []) := by
  refine Ctr.mk fun w F m C hx => x_Light7 _ _ _ _ _ _ _ _ _ _ _ _ _ _ _ _ _ _ _ _ _ _ _ _ _ _ _ _ _ _ _ _ _ _ _ _ _ _ _ _ _ w _ fun w1 L2 h1 g1 => ?_
  refine (c_Light3 x.pq x.ps).call (As := []) (C.hidL h1 g1) hx.p fun b3 m1 w4 hk hm1 _ C => ⟨_, rfl, hk, ?_⟩
  by_cases hb : ((((b3 && decide (((x.rv.size : Nat) : Int) ≤ 2000)) && decide (((x.vm.length : Nat) : Int) ≤ 40)) && decide (((x.ms.length : Nat) : Int) ≤ 40))) = true
  rotate_left
  · rw [if_neg (by rw [Bool.eq_false_iff.2 hb]; decide)]
    exact Ctr.ret false rfl (fun h => by cases h) C
  rw [if_pos (by rw [hb]; rfl)]
  simp only [Bool.and_eq_true, decide_eq_true_eq] at hb
  refine (c_Light5 x.eq x.es).call (As := []) C (hx.mono hm1).e fun b4 m2 w7 hk hm2 h4 C => ⟨_, rfl, hk, ?_⟩
  cases b4 with
  | false =>
    rw [if_neg (by decide)]
    exact Ctr.ret false rfl (fun h => by cases h) C
  | true =>
    rw [if_pos (by decide)]
    refine (c_Light5 x.tq x.ts).call (As := []) C ((hx.mono hm1).mono hm2).t fun b5 m3 w10 hk hm3 h5 C => ⟨_, rfl, hk, ?_⟩
    refine Ctr.ret b5 (by cases b5 <;> rfl) (fun h => ⟨by omega, by omega, by omega, h4 rfl, h5 h⟩) C
end Go.Proofs
namespace Go.Proofs
open Go X RowKit
theorem c_rEntries (q : Sl) (l : List En) (g : Int) (hl : l.length ≤ 100000) (hi : ∀ e ∈ l, EvIn e.er) : Ctr Tryz.prog 128 #[slV q l.length, .int .u8 g] (fun m => EsM m q l) [] (fun _ : Unit => .bool (allE (l.map En.er) g)) (fun _ _ => True) (fun _ => []) := by
  refine Ctr.mk fun w F m C hp => x_rEntries _ _ _ _ w _ ?_
  have hlen : (l.map En.er).length = l.length := by simp
  have hall : (l.map En.er).all (·.right g) = l.all (fun e => e.er.right g) := by rw [List.all_map]; rfl
  rw [show allE (l.map En.er) g = (decide (l.length ≤ 400) && l.all (fun e => e.er.right g)) by rw [allE, hlen, hall]]
  refine ⟨fun i w' _ => ∃ (j : Nat) (m' : Mem), i = j ∧ j ≤ l.length ∧ m.le m' ∧ ((l.take j).all fun e => e.er.right g) = true ∧ Ctx F m w w' [] m' [], fun i _ => (l.length - i).toNat, ⟨0, m, rfl, by omega, Mem.le_refl _, rfl, C⟩, ?_⟩
  clear C
  rintro i w4 L5 _ ⟨j, m', rfl, hj, hm, hjt, D⟩
  by_cases hjl : j < l.length ∧ j ≤ 400
  · rw [if_pos (by simp; omega)]
    obtain ⟨hjl, h400⟩ := hjl
    obtain ⟨a, ha, hc⟩ := (hp.1.mono hm).elem en_len hjl
    have ha : q.1 = some a := ha
    have he := (hp.2 _ (List.getElem_mem hjl)).mono hm
    have hie := hi _ (List.getElem_mem hjl)
    have ht : (l.take (j + 1)).all (fun e => e.er.right g) = ((l.take j).all (fun e => e.er.right g) && l[j].er.right g) := by rw [List.take_succ_eq_append_getElem hjl, List.all_append]; simp
    have hin : l[j] ∈ l := List.getElem_mem hjl
    generalize l[j] = x at hc he hie ht hin
    refine ⟨by omega, by simpa using hjl, ?_⟩
    rw [ha, onSome_some]
    refine ⟨_, _, _, _, _, _, _, _, _, _, _, _, _, _, _, _, _, _, _, _, _, _, by rw [Int.toNat_natCast]; exact D.cells hc, ?_⟩
    refine (c_r5Right x g hie).call (As := []) D he fun _ m2 w13 hk hm2 _ D => ⟨_, rfl, hk.size, ?_⟩
    by_cases hr : x.er.right g = true
    · rw [if_neg (by simp [hr])]
      have e : IntKind.wrap .i64 ((j : Int) + 1) = ((j + 1 : Nat) : Int) := by rw [w_i64 (by omega) (by omega)]; omega
      rw [e]
      refine ⟨⟨j + 1, m2, rfl, hjl, hm.le_trans hm2, by rw [ht, hjt, hr]; rfl, D⟩, Nat.le_of_eq (by show ((l.length : Int) - ((j + 1 : Nat) : Int)).toNat + 1 = ((l.length : Int) - (j : Int)).toNat; omega)⟩
    · rw [if_pos (by simp [hr])]
      refine Ctr.ret () ?_ trivial D
      have : (l.all fun e => e.er.right g) = false := by rw [Bool.eq_false_iff]; intro h; exact hr (List.all_eq_true.1 h _ hin)
      rw [this, Bool.and_false]
  · rw [if_neg (by simp; omega)]
    refine Ctr.ret () ?_ trivial D
    by_cases hj2 : j = l.length
    · rw [hj2, List.take_length] at hjt
      rw [hjt, Bool.and_true]
      congr 2
      rw [Bool.eq_iff_iff]; simp; omega
    · have h2 : ¬ l.length ≤ 400 := by omega
      have h3 : ¬ ((l.length : Nat) : Int) ≤ 400 := by omega
      simp [h2, h3]
def fldS (k : Int) : List UInt8 :=
  if k = 0 then [103, 105, 102, 112]
  else if k = 1 then [105, 114, 118]
  else if k = 2 then [105, 99]
  else if k = 3 then [103, 110, 97, 107, 101]
  else if k = 4 then [103, 110, 97]
  else if k = 5 then [103, 110, 98]
  else if k = 6 then [103, 110, 98]
  else if k = 7 then [103, 110, 98]
  else if k = 8 then [103, 110, 98, 101, 104]
  else if k = 9 then [103, 110, 98, 109]
  else if k = 10 then [118, 101]
  else if k = 11 then [103, 115]
  else if k = 12 then [103, 115]
  else if k = 13 then [103, 115]
  else []
theorem fldS0 {k : Int} (h : k = 0) : fldS k = [103, 105, 102, 112] := by subst h; rfl
theorem fldS1 {k : Int} (h : k = 1) : fldS k = [105, 114, 118] := by subst h; rfl
theorem fldS2 {k : Int} (h : k = 2) : fldS k = [105, 99] := by subst h; rfl
theorem fldS3 {k : Int} (h : k = 3) : fldS k = [103, 110, 97, 107, 101] := by subst h; rfl
theorem fldS4 {k : Int} (h : k = 4) : fldS k = [103, 110, 97] := by subst h; rfl
theorem fldS5 {k : Int} (h : k = 5) : fldS k = [103, 110, 98] := by subst h; rfl
theorem fldS6 {k : Int} (h : k = 6) : fldS k = [103, 110, 98] := by subst h; rfl
theorem fldS7 {k : Int} (h : k = 7) : fldS k = [103, 110, 98] := by subst h; rfl
theorem fldS8 {k : Int} (h : k = 8) : fldS k = [103, 110, 98, 101, 104] := by subst h; rfl
theorem fldS9 {k : Int} (h : k = 9) : fldS k = [103, 110, 98, 109] := by subst h; rfl
theorem fldS10 {k : Int} (h : k = 10) : fldS k = [118, 101] := by subst h; rfl
theorem fldS11 {k : Int} (h : k = 11) : fldS k = [103, 115] := by subst h; rfl
theorem fldS12 {k : Int} (h : k = 12) : fldS k = [103, 115] := by subst h; rfl
theorem fldS13 {k : Int} (h : k = 13) : fldS k = [103, 115] := by subst h; rfl
theorem fldSo {k : Int} (h : ¬ (0 ≤ k ∧ k ≤ 13)) : fldS k = [] := by rw [fldS, if_neg (by omega), if_neg (by omega), if_neg (by omega), if_neg (by omega), if_neg (by omega), if_neg (by omega), if_neg (by omega), if_neg (by omega), if_neg (by omega), if_neg (by omega), if_neg (by omega), if_neg (by omega), if_neg (by omega), if_neg (by omega)]
abbrev fldT : List Value := [.string (ByteArray.mk #[OfNat.ofNat 103, OfNat.ofNat 105, OfNat.ofNat 102, OfNat.ofNat 112]), .string (ByteArray.mk #[OfNat.ofNat 105, OfNat.ofNat 114, OfNat.ofNat 118]), .string (ByteArray.mk #[OfNat.ofNat 105, OfNat.ofNat 99]), .string (ByteArray.mk #[OfNat.ofNat 103, OfNat.ofNat 110, OfNat.ofNat 97, OfNat.ofNat 107, OfNat.ofNat 101]), .string (ByteArray.mk #[OfNat.ofNat 103, OfNat.ofNat 110, OfNat.ofNat 97]), .string (ByteArray.mk #[OfNat.ofNat 103, OfNat.ofNat 110, OfNat.ofNat 98]), .string (ByteArray.mk #[OfNat.ofNat 103, OfNat.ofNat 110, OfNat.ofNat 98]), .string (ByteArray.mk #[OfNat.ofNat 103, OfNat.ofNat 110, OfNat.ofNat 98]), .string (ByteArray.mk #[OfNat.ofNat 103, OfNat.ofNat 110, OfNat.ofNat 98, OfNat.ofNat 101, OfNat.ofNat 104]), .string (ByteArray.mk #[OfNat.ofNat 103, OfNat.ofNat 110, OfNat.ofNat 98, OfNat.ofNat 109]), .string (ByteArray.mk #[OfNat.ofNat 118, OfNat.ofNat 101]), .string (ByteArray.mk #[OfNat.ofNat 103, OfNat.ofNat 115]), .string (ByteArray.mk #[OfNat.ofNat 103, OfNat.ofNat 115]), .string (ByteArray.mk #[OfNat.ofNat 103, OfNat.ofNat 115])]
theorem ctx_bel0 {m0 : Mem} {w0 w : World} {L : List Nat} {m : Mem} {As : List Asn} (C : Ctx [] m0 w0 w L m As) : Bel w0.heap.size w0 w := hid_below C.hid (by simp) (Nat.le_refl _)
theorem bl_ext {a b : ByteArray} (h : a.data.toList = b.data.toList) : a = b := ByteArray.ext (Array.toList_inj.1 h)
theorem c_rFields (k : Int) (h0 : 0 ≤ k ∧ k < 256) : Gives Tryz.prog 39 #[.int .u8 k] (.string (toBA (fldS k))) := by
  intro w
  refine x_rFields _ w _ ?_
  have C := (lawStart w).alloc fldT 9
  rw [w_i64 (n := k) (by omega) (by omega)]
  by_cases hk : k ≥ 14
  · rw [if_pos (by simpa using hk), fldSo (by omega)]
    exact ⟨rfl, ctx_bel0 C⟩
  · rw [if_neg (by simpa using hk)]
    have hk' : k = 0 ∨ k = 1 ∨ k = 2 ∨ k = 3 ∨ k = 4 ∨ k = 5 ∨ k = 6 ∨ k = 7 ∨ k = 8 ∨ k = 9 ∨ k = 10 ∨ k = 11 ∨ k = 12 ∨ k = 13 := by omega
    rcases hk' with rfl | rfl | rfl | rfl | rfl | rfl | rfl | rfl | rfl | rfl | rfl | rfl | rfl | rfl
    · refine ⟨by omega, by omega, toBA (fldS 0), ?_, rfl, ctx_bel0 C⟩
      rw [fldS0 rfl]
      exact C.blkCell (j := 0) rfl
    · refine ⟨by omega, by omega, toBA (fldS 1), ?_, rfl, ctx_bel0 C⟩
      rw [fldS1 rfl]
      exact C.blkCell (j := 1) rfl
    · refine ⟨by omega, by omega, toBA (fldS 2), ?_, rfl, ctx_bel0 C⟩
      rw [fldS2 rfl]
      exact C.blkCell (j := 2) rfl
    · refine ⟨by omega, by omega, toBA (fldS 3), ?_, rfl, ctx_bel0 C⟩
      rw [fldS3 rfl]
      exact C.blkCell (j := 3) rfl
    · refine ⟨by omega, by omega, toBA (fldS 4), ?_, rfl, ctx_bel0 C⟩
      rw [fldS4 rfl]
      exact C.blkCell (j := 4) rfl
    · refine ⟨by omega, by omega, toBA (fldS 5), ?_, rfl, ctx_bel0 C⟩
      rw [fldS5 rfl]
      exact C.blkCell (j := 5) rfl
    · refine ⟨by omega, by omega, toBA (fldS 6), ?_, rfl, ctx_bel0 C⟩
      rw [fldS6 rfl]
      exact C.blkCell (j := 6) rfl
    · refine ⟨by omega, by omega, toBA (fldS 7), ?_, rfl, ctx_bel0 C⟩
      rw [fldS7 rfl]
      exact C.blkCell (j := 7) rfl
    · refine ⟨by omega, by omega, toBA (fldS 8), ?_, rfl, ctx_bel0 C⟩
      rw [fldS8 rfl]
      exact C.blkCell (j := 8) rfl
    · refine ⟨by omega, by omega, toBA (fldS 9), ?_, rfl, ctx_bel0 C⟩
      rw [fldS9 rfl]
      exact C.blkCell (j := 9) rfl
    · refine ⟨by omega, by omega, toBA (fldS 10), ?_, rfl, ctx_bel0 C⟩
      rw [fldS10 rfl]
      exact C.blkCell (j := 10) rfl
    · refine ⟨by omega, by omega, toBA (fldS 11), ?_, rfl, ctx_bel0 C⟩
      rw [fldS11 rfl]
      exact C.blkCell (j := 11) rfl
    · refine ⟨by omega, by omega, toBA (fldS 12), ?_, rfl, ctx_bel0 C⟩
      rw [fldS12 rfl]
      exact C.blkCell (j := 12) rfl
    · refine ⟨by omega, by omega, toBA (fldS 13), ?_, rfl, ctx_bel0 C⟩
      rw [fldS13 rfl]
      exact C.blkCell (j := 13) rfl
def letL (k : Int) (has : Bool) : List UInt8 := if k = 8 ∧ has = true then fldS k ++ [120, 109] else fldS k
theorem fldS_len (k : Int) : (fldS k).length ≤ 5 := by
  have hk : k = 0 ∨ k = 1 ∨ k = 2 ∨ k = 3 ∨ k = 4 ∨ k = 5 ∨ k = 6 ∨ k = 7 ∨ k = 8 ∨ k = 9 ∨ k = 10 ∨ k = 11 ∨ k = 12 ∨ k = 13 ∨ ¬ (0 ≤ k ∧ k ≤ 13) := by omega
  rcases hk with h | h | h | h | h | h | h | h | h | h | h | h | h | h | h
  · rw [fldS0 h]; decide
  · rw [fldS1 h]; decide
  · rw [fldS2 h]; decide
  · rw [fldS3 h]; decide
  · rw [fldS4 h]; decide
  · rw [fldS5 h]; decide
  · rw [fldS6 h]; decide
  · rw [fldS7 h]; decide
  · rw [fldS8 h]; decide
  · rw [fldS9 h]; decide
  · rw [fldS10 h]; decide
  · rw [fldS11 h]; decide
  · rw [fldS12 h]; decide
  · rw [fldS13 h]; decide
  · rw [fldSo h]; decide
theorem c_rLetters (x : Mg) (hk : 0 ≤ x.kd ∧ x.kd < 256) : Gives Tryz.prog 31 #[.agg x.row.toArray] (.string (toBA (letL x.kd x.has))) := by
  intro w
  refine x_rLetters _ _ _ _ _ _ _ _ _ _ _ _ _ _ _ _ _ _ _ _ _ _ _ _ _ _ _ _ _ _ _ _ _ _ _ _ _ _ _ _ _ w _ fun w1 L2 h1 g1 => ?_
  refine ((lawStart w).hidL h1 g1).gives (c_rFields x.kd hk) fun w4 k4 C => ⟨_, rfl, k4, ?_⟩
  by_cases h8 : x.kd = 8 ∧ x.has = true
  · rw [if_pos (by simp [h8.1, h8.2])]
    have e : toBA (fldS x.kd) ++ ByteArray.mk #[OfNat.ofNat 120, OfNat.ofNat 109] = toBA (letL x.kd x.has) := by
      rw [letL, if_pos h8]
      apply bl_ext
      rw [ByteArray.data_append]; simp [toBA]
    refine ⟨?_, by rw [e], ctx_bel0 C⟩
    have := fldS_len x.kd
    show ((((fldS x.kd).toArray.size + 2 : Nat)) : Int) ≤ _
    rw [List.size_toArray]; omega
  · rw [if_neg (by intro h; apply h8; simpa using h)]
    exact ⟨by rw [letL, if_neg h8], ctx_bel0 C⟩
def Mv.eg (x : Mv) : Int := if x.kd = 10 then x.vg else x.gr
def Mv.prt (x : Mv) : Bool := rightL x.ps && (match x.ps with | [] => false | p :: _ => p.g == x.gr) && decide ((x.ps.length : Int) + x.id.d ≤ 4)
def Mv.fldR (x : Mv) (c : Int) : Bool :=
  if c = 103 then decide (x.gr < 4)
  else if c = 105 then x.id.right
  else if c = 102 then decide (x.fl < x.id.s)
  else if c = 112 then x.prt
  else if c = 114 then x.resR
  else if c = 118 then vwOk x.vg x.vn x.vm
  else if c = 110 then decide (x.nn ≥ 1)
  else if c = 97 then decide (x.fr ≤ 400)
  else if c = 107 then decide (x.cm ≤ 400)
  else if c = 101 then (allE x.es x.eg && decide (x.fr + (x.es.length : Int) ≤ 400))
  else if c = 98 then decide (x.ba ≥ 1)
  else if c = 120 then decide (x.ac ≥ 1)
  else if c = 109 then (vwOk 0 1 x.ms && allE x.ts x.eg)
  else if c = 115 then prOk x.pn x.pl
  else true
theorem fR103 {x : Mv} {c : Int} (h : c = 103) : x.fldR c = decide (x.gr < 4) := by subst h; rfl
theorem fR105 {x : Mv} {c : Int} (h : c = 105) : x.fldR c = x.id.right := by subst h; rfl
theorem fR102 {x : Mv} {c : Int} (h : c = 102) : x.fldR c = decide (x.fl < x.id.s) := by subst h; rfl
theorem fR112 {x : Mv} {c : Int} (h : c = 112) : x.fldR c = x.prt := by subst h; rfl
theorem fR114 {x : Mv} {c : Int} (h : c = 114) : x.fldR c = x.resR := by subst h; rfl
theorem fR118 {x : Mv} {c : Int} (h : c = 118) : x.fldR c = vwOk x.vg x.vn x.vm := by subst h; rfl
theorem fR110 {x : Mv} {c : Int} (h : c = 110) : x.fldR c = decide (x.nn ≥ 1) := by subst h; rfl
theorem fR97 {x : Mv} {c : Int} (h : c = 97) : x.fldR c = decide (x.fr ≤ 400) := by subst h; rfl
theorem fR107 {x : Mv} {c : Int} (h : c = 107) : x.fldR c = decide (x.cm ≤ 400) := by subst h; rfl
theorem fR101 {x : Mv} {c : Int} (h : c = 101) : x.fldR c = (allE x.es x.eg && decide (x.fr + (x.es.length : Int) ≤ 400)) := by subst h; rfl
theorem fR98 {x : Mv} {c : Int} (h : c = 98) : x.fldR c = decide (x.ba ≥ 1) := by subst h; rfl
theorem fR120 {x : Mv} {c : Int} (h : c = 120) : x.fldR c = decide (x.ac ≥ 1) := by subst h; rfl
theorem fR109 {x : Mv} {c : Int} (h : c = 109) : x.fldR c = (vwOk 0 1 x.ms && allE x.ts x.eg) := by subst h; rfl
theorem fR115 {x : Mv} {c : Int} (h : c = 115) : x.fldR c = prOk x.pn x.pl := by subst h; rfl
theorem fRo {x : Mv} {c : Int} (h : c ≠ 103 ∧ c ≠ 105 ∧ c ≠ 102 ∧ c ≠ 112 ∧ c ≠ 114 ∧ c ≠ 118 ∧ c ≠ 110 ∧ c ≠ 97 ∧ c ≠ 107 ∧ c ≠ 101 ∧ c ≠ 98 ∧ c ≠ 120 ∧ c ≠ 109 ∧ c ≠ 115) : x.fldR c = true := by rw [Mv.fldR, if_neg (by omega), if_neg (by omega), if_neg (by omega), if_neg (by omega), if_neg (by omega), if_neg (by omega), if_neg (by omega), if_neg (by omega), if_neg (by omega), if_neg (by omega), if_neg (by omega), if_neg (by omega), if_neg (by omega), if_neg (by omega)]
theorem c_rField (x : Mg) (c : Int) (hi : MvIn x.er) : Ctr Tryz.prog 71 #[.agg x.row.toArray, .int .u8 c] (fun m => MgM m x) [] (fun _ : Unit => .bool (x.er.fldR c)) (fun _ _ => True) (fun _ => []) := by
  refine Ctr.mk fun w F m C hx => x_rField _ _ _ _ _ _ _ _ _ _ _ _ _ _ _ _ _ _ _ _ _ _ _ _ _ _ _ _ _ _ _ _ _ _ _ _ _ _ _ _ _ _ w _ ?_
  have hidd : 0 ≤ x.id.d ∧ x.id.d < 256 := hi.id.d
  have hpl := hx.pl
  have hlen : ((x.es.map En.er).length : Int) = x.es.length := by simp
  by_cases hk10 : x.kd = 10
  · rw [if_pos (by simpa using hk10)]
    by_cases c103 : c = 103
    · rw [if_pos (by simpa using c103)]
      intro w1 h1
      exact Ctr.ret () (by rw [fR103 c103]; rfl) trivial (C.hid0 h1)
    rw [if_neg (by simpa using c103)]
    by_cases c105 : c = 105
    · rw [if_pos (by simpa using c105)]
      intro w1 L2 h1 g1
      exact (C.hidL h1 g1).gives (c_ref_Right x.id hi.id) fun w5 k5 C => ⟨_, rfl, k5, Ctr.ret () (by rw [fR105 c105]; rfl) trivial C⟩
    rw [if_neg (by simpa using c105)]
    by_cases c102 : c = 102
    · rw [if_pos (by simpa using c102)]
      intro w1 h1
      exact Ctr.ret () (by rw [fR102 c102]; rfl) trivial (C.hid0 h1)
    rw [if_neg (by simpa using c102)]
    by_cases c112 : c = 112
    · rw [if_pos (by simpa using c112)]
      refine ⟨[], facts_nil _ _, fun w2 L3 h2 g2 => ?_⟩
      refine (c_r3RightAll x.pq x.ps (by omega) (fun p h => (hi.ps p h).k.1)).call (As := []) (C.hidL h2 g2) hx.p fun _ m2 w14 hk hm2 _ C => ⟨_, rfl, hk, facts_nil _ _, ?_⟩
      by_cases hl : rightL x.ps = true
      rotate_left
      · refine ⟨[], facts_nil _ _, (fun _ h => h), ?_⟩
        rw [if_neg (by rw [Bool.eq_false_iff.2 hl]; decide)]
        refine ⟨[], facts_nil _ _, (fun _ h => h), Ctr.ret () ?_ trivial C⟩
        have : rightL x.er.ps = false := Bool.eq_false_iff.2 hl
        rw [fR112 c112, Mv.prt, this]; rfl
      have hl0 : 1 ≤ x.ps.length ∧ x.ps.length ≤ 4 := by
        have := hl; simp only [rightL, Bool.and_eq_true, decide_eq_true_eq] at this; exact this.1
      obtain ⟨a, ha, hc⟩ := (hx.p.mono hm2).elem pt_len (i := 0) (by omega)
      have ha : x.pq.1 = some a := ha
      refine ⟨_, C.memFact (mcells_part hc 0 [.int .u8 x.ps[0].g] (fun k v e => by match k, e with | 0, e => exact e)) (facts_nil _ _), (fun _ h => by cases h), ?_⟩
      rw [if_pos (by rw [hl]; rfl)]
      refine ⟨by omega, by omega, ?_⟩
      rw [ha, onSome_some]
      refine ⟨_, List.mem_cons_self, ?_⟩
      rw [w_i64 (n := x.id.d) (by omega) (by omega), w_i64 (n := _ + x.id.d) (by omega) (by omega)]
      refine Ctr.ret () ?_ trivial C
      obtain ⟨p, l, hpl⟩ : ∃ p l, x.ps = p :: l := by
        cases hps : x.ps with
        | nil => rw [hps] at hl0; simp at hl0
        | cons p l => exact ⟨p, l, rfl⟩
      have h2 : rightL x.er.ps = true := hl
      have h3 : x.er.ps = p :: l := hpl
      rw [fR112 c112, Mv.prt, h2, h3]
      have e1 : x.ps[0].g = p.g := by simp [hpl]
      rw [e1, hpl]; rfl
    rw [if_neg (by simpa using c112)]
    by_cases c114 : c = 114
    · rw [if_pos (by simpa using c114)]
      intro w1 L2 h1 g1
      exact (C.hidL h1 g1).gives (c_rRightRes ⟨x.rc, x.rv⟩) fun w5 k5 C => ⟨_, rfl, k5, Ctr.ret () (by rw [fR114 c114]; rfl) trivial C⟩
    rw [if_neg (by simpa using c114)]
    by_cases c118 : c = 118
    · rw [if_pos (by simpa using c118)]
      intro w1 L2 h1 g1
      exact (c_rRight ⟨x.vg, x.vn, x.vq, x.vm⟩ hi.vm hi.vn).call (As := []) (C.hidL h1 g1) hx.v fun _ m2 w7 hk hm _ C => ⟨_, rfl, hk, Ctr.ret () (by rw [fR118 c118]; rfl) trivial C⟩
    rw [if_neg (by simpa using c118)]
    by_cases c110 : c = 110
    · rw [if_pos (by simpa using c110)]
      intro w1 h1
      exact Ctr.ret () (by rw [fR110 c110]; rfl) trivial (C.hid0 h1)
    rw [if_neg (by simpa using c110)]
    by_cases c97 : c = 97
    · rw [if_pos (by simpa using c97)]
      intro w1 h1
      exact Ctr.ret () (by rw [fR97 c97]; rfl) trivial (C.hid0 h1)
    rw [if_neg (by simpa using c97)]
    by_cases c107 : c = 107
    · rw [if_pos (by simpa using c107)]
      intro w1 h1
      exact Ctr.ret () (by rw [fR107 c107]; rfl) trivial (C.hid0 h1)
    rw [if_neg (by simpa using c107)]
    by_cases c101 : c = 101
    · rw [if_pos (by simpa using c101)]
      intro w1 L2 h1 g1
      refine (c_rEntries x.eq x.es x.vg hx.el (fun e he => hi.es _ (List.mem_map_of_mem he))).call (As := []) (C.hidL h1 g1) hx.e fun _ m2 w7 hk hm _ C => ⟨_, rfl, hk, Ctr.ret () ?_ trivial C⟩
      rw [wrapFr hi hx.el, fR101 c101, Mv.eg, if_pos (show x.er.kd = 10 from hk10)]
      show _ = Ending.returned (.bool (allE (x.es.map En.er) x.vg && decide (x.fr + ((x.es.map En.er).length : Int) ≤ 400)))
      rw [hlen]
    rw [if_neg (by simpa using c101)]
    by_cases c98 : c = 98
    · rw [if_pos (by simpa using c98)]
      intro w1 h1
      exact Ctr.ret () (by rw [fR98 c98]; rfl) trivial (C.hid0 h1)
    rw [if_neg (by simpa using c98)]
    by_cases c120 : c = 120
    · rw [if_pos (by simpa using c120)]
      intro w1 h1
      exact Ctr.ret () (by rw [fR120 c120]; rfl) trivial (C.hid0 h1)
    rw [if_neg (by simpa using c120)]
    by_cases c109 : c = 109
    · rw [if_pos (by simpa using c109)]
      intro w1 L2 h1 g1
      refine (c_rRight ⟨0, 1, x.mq, x.ms⟩ hi.ms (by show (0 : Int) ≤ 1; decide)).call (As := []) (C.hidL h1 g1) hx.mm fun _ m2 w7 hk hm _ C => ⟨_, rfl, hk, ?_⟩
      by_cases hv : Vw.ok ⟨0, 1, x.mq, x.ms⟩ = true
      · rw [if_pos (by rw [hv]; rfl)]
        refine (c_rEntries x.tq x.ts x.vg hx.tl (fun e he => hi.ts _ (List.mem_map_of_mem he))).call (As := []) C (hx.t.mono hm) fun _ m3 w8 hk hm3 _ C => ⟨_, rfl, hk, Ctr.ret () ?_ trivial C⟩
        have : vwOk 0 1 x.er.ms = true := hv
        rw [fR109 c109, this, Mv.eg, if_pos (show x.er.kd = 10 from hk10)]; rfl
      · rw [if_neg (by rw [Bool.eq_false_iff.2 hv]; decide)]
        refine Ctr.ret () ?_ trivial C
        have : vwOk 0 1 x.er.ms = false := Bool.eq_false_iff.2 hv
        rw [fR109 c109, this]; rfl
    rw [if_neg (by simpa using c109)]
    by_cases c115 : c = 115
    · rw [if_pos (by simpa using c115)]
      intro w1 L2 h1 g1
      exact (C.hidL h1 g1).gives (c_rRightP ⟨x.pn, x.pl⟩) fun w5 k5 C => ⟨_, rfl, k5, Ctr.ret () (by rw [fR115 c115]; rfl) trivial C⟩
    rw [if_neg (by simpa using c115)]
    intro w1 h1
    exact Ctr.ret () (by rw [fRo ⟨c103, c105, c102, c112, c114, c118, c110, c97, c107, c101, c98, c120, c109, c115⟩]) trivial (C.hid0 h1)
  · rw [if_neg (by simpa using hk10)]
    by_cases c103 : c = 103
    · rw [if_pos (by simpa using c103)]
      intro w1 h1
      exact Ctr.ret () (by rw [fR103 c103]; rfl) trivial (C.hid0 h1)
    rw [if_neg (by simpa using c103)]
    by_cases c105 : c = 105
    · rw [if_pos (by simpa using c105)]
      intro w1 L2 h1 g1
      exact (C.hidL h1 g1).gives (c_ref_Right x.id hi.id) fun w5 k5 C => ⟨_, rfl, k5, Ctr.ret () (by rw [fR105 c105]; rfl) trivial C⟩
    rw [if_neg (by simpa using c105)]
    by_cases c102 : c = 102
    · rw [if_pos (by simpa using c102)]
      intro w1 h1
      exact Ctr.ret () (by rw [fR102 c102]; rfl) trivial (C.hid0 h1)
    rw [if_neg (by simpa using c102)]
    by_cases c112 : c = 112
    · rw [if_pos (by simpa using c112)]
      refine ⟨[], facts_nil _ _, fun w2 L3 h2 g2 => ?_⟩
      refine (c_r3RightAll x.pq x.ps (by omega) (fun p h => (hi.ps p h).k.1)).call (As := []) (C.hidL h2 g2) hx.p fun _ m2 w14 hk hm2 _ C => ⟨_, rfl, hk, facts_nil _ _, ?_⟩
      by_cases hl : rightL x.ps = true
      rotate_left
      · refine ⟨[], facts_nil _ _, (fun _ h => h), ?_⟩
        rw [if_neg (by rw [Bool.eq_false_iff.2 hl]; decide)]
        refine ⟨[], facts_nil _ _, (fun _ h => h), Ctr.ret () ?_ trivial C⟩
        have : rightL x.er.ps = false := Bool.eq_false_iff.2 hl
        rw [fR112 c112, Mv.prt, this]; rfl
      have hl0 : 1 ≤ x.ps.length ∧ x.ps.length ≤ 4 := by
        have := hl; simp only [rightL, Bool.and_eq_true, decide_eq_true_eq] at this; exact this.1
      obtain ⟨a, ha, hc⟩ := (hx.p.mono hm2).elem pt_len (i := 0) (by omega)
      have ha : x.pq.1 = some a := ha
      refine ⟨_, C.memFact (mcells_part hc 0 [.int .u8 x.ps[0].g] (fun k v e => by match k, e with | 0, e => exact e)) (facts_nil _ _), (fun _ h => by cases h), ?_⟩
      rw [if_pos (by rw [hl]; rfl)]
      refine ⟨by omega, by omega, ?_⟩
      rw [ha, onSome_some]
      refine ⟨_, List.mem_cons_self, ?_⟩
      rw [w_i64 (n := x.id.d) (by omega) (by omega), w_i64 (n := _ + x.id.d) (by omega) (by omega)]
      refine Ctr.ret () ?_ trivial C
      obtain ⟨p, l, hpl⟩ : ∃ p l, x.ps = p :: l := by
        cases hps : x.ps with
        | nil => rw [hps] at hl0; simp at hl0
        | cons p l => exact ⟨p, l, rfl⟩
      have h2 : rightL x.er.ps = true := hl
      have h3 : x.er.ps = p :: l := hpl
      rw [fR112 c112, Mv.prt, h2, h3]
      have e1 : x.ps[0].g = p.g := by simp [hpl]
      rw [e1, hpl]; rfl
    rw [if_neg (by simpa using c112)]
    by_cases c114 : c = 114
    · rw [if_pos (by simpa using c114)]
      intro w1 L2 h1 g1
      exact (C.hidL h1 g1).gives (c_rRightRes ⟨x.rc, x.rv⟩) fun w5 k5 C => ⟨_, rfl, k5, Ctr.ret () (by rw [fR114 c114]; rfl) trivial C⟩
    rw [if_neg (by simpa using c114)]
    by_cases c118 : c = 118
    · rw [if_pos (by simpa using c118)]
      intro w1 L2 h1 g1
      exact (c_rRight ⟨x.vg, x.vn, x.vq, x.vm⟩ hi.vm hi.vn).call (As := []) (C.hidL h1 g1) hx.v fun _ m2 w7 hk hm _ C => ⟨_, rfl, hk, Ctr.ret () (by rw [fR118 c118]; rfl) trivial C⟩
    rw [if_neg (by simpa using c118)]
    by_cases c110 : c = 110
    · rw [if_pos (by simpa using c110)]
      intro w1 h1
      exact Ctr.ret () (by rw [fR110 c110]; rfl) trivial (C.hid0 h1)
    rw [if_neg (by simpa using c110)]
    by_cases c97 : c = 97
    · rw [if_pos (by simpa using c97)]
      intro w1 h1
      exact Ctr.ret () (by rw [fR97 c97]; rfl) trivial (C.hid0 h1)
    rw [if_neg (by simpa using c97)]
    by_cases c107 : c = 107
    · rw [if_pos (by simpa using c107)]
      intro w1 h1
      exact Ctr.ret () (by rw [fR107 c107]; rfl) trivial (C.hid0 h1)
    rw [if_neg (by simpa using c107)]
    by_cases c101 : c = 101
    · rw [if_pos (by simpa using c101)]
      intro w1 L2 h1 g1
      refine (c_rEntries x.eq x.es x.gr hx.el (fun e he => hi.es _ (List.mem_map_of_mem he))).call (As := []) (C.hidL h1 g1) hx.e fun _ m2 w7 hk hm _ C => ⟨_, rfl, hk, Ctr.ret () ?_ trivial C⟩
      rw [wrapFr hi hx.el, fR101 c101, Mv.eg, if_neg (show ¬ x.er.kd = 10 from hk10)]
      show _ = Ending.returned (.bool (allE (x.es.map En.er) x.gr && decide (x.fr + ((x.es.map En.er).length : Int) ≤ 400)))
      rw [hlen]
    rw [if_neg (by simpa using c101)]
    by_cases c98 : c = 98
    · rw [if_pos (by simpa using c98)]
      intro w1 h1
      exact Ctr.ret () (by rw [fR98 c98]; rfl) trivial (C.hid0 h1)
    rw [if_neg (by simpa using c98)]
    by_cases c120 : c = 120
    · rw [if_pos (by simpa using c120)]
      intro w1 h1
      exact Ctr.ret () (by rw [fR120 c120]; rfl) trivial (C.hid0 h1)
    rw [if_neg (by simpa using c120)]
    by_cases c109 : c = 109
    · rw [if_pos (by simpa using c109)]
      intro w1 L2 h1 g1
      refine (c_rRight ⟨0, 1, x.mq, x.ms⟩ hi.ms (by show (0 : Int) ≤ 1; decide)).call (As := []) (C.hidL h1 g1) hx.mm fun _ m2 w7 hk hm _ C => ⟨_, rfl, hk, ?_⟩
      by_cases hv : Vw.ok ⟨0, 1, x.mq, x.ms⟩ = true
      · rw [if_pos (by rw [hv]; rfl)]
        refine (c_rEntries x.tq x.ts x.gr hx.tl (fun e he => hi.ts _ (List.mem_map_of_mem he))).call (As := []) C (hx.t.mono hm) fun _ m3 w8 hk hm3 _ C => ⟨_, rfl, hk, Ctr.ret () ?_ trivial C⟩
        have : vwOk 0 1 x.er.ms = true := hv
        rw [fR109 c109, this, Mv.eg, if_neg (show ¬ x.er.kd = 10 from hk10)]; rfl
      · rw [if_neg (by rw [Bool.eq_false_iff.2 hv]; decide)]
        refine Ctr.ret () ?_ trivial C
        have : vwOk 0 1 x.er.ms = false := Bool.eq_false_iff.2 hv
        rw [fR109 c109, this]; rfl
    rw [if_neg (by simpa using c109)]
    by_cases c115 : c = 115
    · rw [if_pos (by simpa using c115)]
      intro w1 L2 h1 g1
      exact (C.hidL h1 g1).gives (c_rRightP ⟨x.pn, x.pl⟩) fun w5 k5 C => ⟨_, rfl, k5, Ctr.ret () (by rw [fR115 c115]; rfl) trivial C⟩
    rw [if_neg (by simpa using c115)]
    intro w1 h1
    exact Ctr.ret () (by rw [fRo ⟨c103, c105, c102, c112, c114, c118, c110, c97, c107, c101, c98, c120, c109, c115⟩]) trivial (C.hid0 h1)
def Mg.setF (x o : Mg) (c : Int) : Mg :=
  if c = 103 then { o with gr := x.gr }
  else if c = 105 then { o with id := x.id }
  else if c = 102 then { o with fl := x.fl }
  else if c = 112 then { o with pq := x.pq, ps := x.ps }
  else if c = 114 then { o with rc := x.rc, rv := x.rv }
  else if c = 118 then { o with vg := x.vg, vn := x.vn, vq := x.vq, vm := x.vm }
  else if c = 99 then { o with co := x.co }
  else if c = 110 then { o with nn := x.nn }
  else if c = 97 then { o with fr := x.fr }
  else if c = 107 then { o with cm := x.cm }
  else if c = 101 then { o with eq := x.eq, es := x.es }
  else if c = 98 then { o with ba := x.ba }
  else if c = 104 then { o with has := x.has }
  else if c = 120 then { o with ac := x.ac }
  else if c = 109 then { o with mq := x.mq, ms := x.ms, tq := x.tq, ts := x.ts }
  else if c = 115 then { o with pn := x.pn, pl := x.pl }
  else o
theorem sF103 {x o : Mg} {c : Int} (h : c = 103) : x.setF o c = { o with gr := x.gr } := by subst h; rfl
theorem sF105 {x o : Mg} {c : Int} (h : c = 105) : x.setF o c = { o with id := x.id } := by subst h; rfl
theorem sF102 {x o : Mg} {c : Int} (h : c = 102) : x.setF o c = { o with fl := x.fl } := by subst h; rfl
theorem sF112 {x o : Mg} {c : Int} (h : c = 112) : x.setF o c = { o with pq := x.pq, ps := x.ps } := by subst h; rfl
theorem sF114 {x o : Mg} {c : Int} (h : c = 114) : x.setF o c = { o with rc := x.rc, rv := x.rv } := by subst h; rfl
theorem sF118 {x o : Mg} {c : Int} (h : c = 118) : x.setF o c = { o with vg := x.vg, vn := x.vn, vq := x.vq, vm := x.vm } := by subst h; rfl
theorem sF99 {x o : Mg} {c : Int} (h : c = 99) : x.setF o c = { o with co := x.co } := by subst h; rfl
theorem sF110 {x o : Mg} {c : Int} (h : c = 110) : x.setF o c = { o with nn := x.nn } := by subst h; rfl
theorem sF97 {x o : Mg} {c : Int} (h : c = 97) : x.setF o c = { o with fr := x.fr } := by subst h; rfl
theorem sF107 {x o : Mg} {c : Int} (h : c = 107) : x.setF o c = { o with cm := x.cm } := by subst h; rfl
theorem sF101 {x o : Mg} {c : Int} (h : c = 101) : x.setF o c = { o with eq := x.eq, es := x.es } := by subst h; rfl
theorem sF98 {x o : Mg} {c : Int} (h : c = 98) : x.setF o c = { o with ba := x.ba } := by subst h; rfl
theorem sF104 {x o : Mg} {c : Int} (h : c = 104) : x.setF o c = { o with has := x.has } := by subst h; rfl
theorem sF120 {x o : Mg} {c : Int} (h : c = 120) : x.setF o c = { o with ac := x.ac } := by subst h; rfl
theorem sF109 {x o : Mg} {c : Int} (h : c = 109) : x.setF o c = { o with mq := x.mq, ms := x.ms, tq := x.tq, ts := x.ts } := by subst h; rfl
theorem sF115 {x o : Mg} {c : Int} (h : c = 115) : x.setF o c = { o with pn := x.pn, pl := x.pl } := by subst h; rfl
theorem sFo {x o : Mg} {c : Int} (h : c ≠ 103 ∧ c ≠ 105 ∧ c ≠ 102 ∧ c ≠ 112 ∧ c ≠ 114 ∧ c ≠ 118 ∧ c ≠ 99 ∧ c ≠ 110 ∧ c ≠ 97 ∧ c ≠ 107 ∧ c ≠ 101 ∧ c ≠ 98 ∧ c ≠ 104 ∧ c ≠ 120 ∧ c ≠ 109 ∧ c ≠ 115) : x.setF o c = o := by rw [Mg.setF, if_neg (by omega), if_neg (by omega), if_neg (by omega), if_neg (by omega), if_neg (by omega), if_neg (by omega), if_neg (by omega), if_neg (by omega), if_neg (by omega), if_neg (by omega), if_neg (by omega), if_neg (by omega), if_neg (by omega), if_neg (by omega), if_neg (by omega), if_neg (by omega)]
def Mg.z (k : Int) : Mg := ⟨k, 0, 0, 0, 0, 0, 0, 0, 0, I.zero, (none, 0), [], 0, ByteArray.mk #[], 0, 0, (none, 0), [], 0, 0, false, (none, 0), [], (none, 0), [], (none, 0), []⟩
theorem c_rOnly (x : Mg) (l : List UInt8) (hl : l.length ≤ 100) : Ctr Tryz.prog 72 #[.agg x.row.toArray, .string (toBA l)] (fun m => MgM m x) [] (fun y : Mg => .agg y.row.toArray) (fun y m => y = l.foldl (fun o c => x.setF o (c.toNat : Int)) (Mg.z x.kd)) (fun _ => []) := by
  refine Ctr.mk fun w F m C hx => x_rOnly _ _ _ _ _ _ _ _ _ _ _ _ _ _ _ _ _ _ _ _ _ _ _ _ _ _ _ _ _ _ _ _ _ _ _ _ _ _ _ _ _ _ w _ fun w1 L2 h1 g1 => ?_
  have hsz : (toBA l).size = l.length := by show l.toArray.size = _; simp
  refine ⟨fun n z0 z1 z2 z3 z4 z5 z6 z7 z8 z9 z10 z11 z12 z13 z14 z15 z16 z17 z18 z19 z20 z21 z22 z23 z24 z25 z26 z27 z28 z29 z30 z31 z32 z33 z34 z35 z36 z37 z38 z39 z40 w' L' => ∃ (j : Nat) (o : Mg), n = j ∧ z0 = o.kd ∧ z1 = o.gr ∧ z2 = o.co ∧ z3 = o.nn ∧ z4 = o.fr ∧ z5 = o.cm ∧ z6 = o.fl ∧ z7 = o.ba ∧ z8 = o.ac ∧ z9 = o.id.n ∧ z10 = o.id.l ∧ z11 = o.id.s ∧ z12 = o.id.d ∧ z13 = o.id.g0 ∧ z14 = o.id.i0 ∧ z15 = o.id.g1 ∧ z16 = o.id.i1 ∧ z17 = o.id.g2 ∧ z18 = o.id.i2 ∧ z19 = o.pq.1 ∧ z20 = o.ps.length ∧ z21 = o.pq.2 ∧ z22 = o.rc ∧ z23 = o.rv ∧ z24 = o.vg ∧ z25 = o.vn ∧ z26 = o.vq.1 ∧ z27 = o.vm.length ∧ z28 = o.vq.2 ∧ z29 = o.pn ∧ z30 = o.pl ∧ z31 = o.has ∧ z32 = o.mq.1 ∧ z33 = o.ms.length ∧ z34 = o.mq.2 ∧ z35 = o.eq.1 ∧ z36 = o.es.length ∧ z37 = o.eq.2 ∧ z38 = o.tq.1 ∧ z39 = o.ts.length ∧ z40 = o.tq.2 ∧ j ≤ l.length ∧ o = (l.take j).foldl (fun o c => x.setF o (c.toNat : Int)) (Mg.z x.kd) ∧ Ctx F m w w' L' m [], fun n _ _ _ _ _ _ _ _ _ _ _ _ _ _ _ _ _ _ _ _ _ _ _ _ _ _ _ _ _ _ _ _ _ _ _ _ _ _ _ _ _ _ => ((l.length : Int) - n).toNat, ⟨0, Mg.z x.kd, rfl, rfl, rfl, rfl, rfl, rfl, rfl, rfl, rfl, rfl, rfl, rfl, rfl, rfl, rfl, rfl, rfl, rfl, rfl, rfl, rfl, rfl, rfl, rfl, rfl, rfl, rfl, rfl, rfl, rfl, rfl, rfl, rfl, rfl, rfl, rfl, rfl, rfl, rfl, rfl, rfl, rfl, Nat.zero_le _, rfl, C.hidL h1 g1⟩, ?_⟩
  clear C
  rintro n z0 z1 z2 z3 z4 z5 z6 z7 z8 z9 z10 z11 z12 z13 z14 z15 z16 z17 z18 z19 z20 z21 z22 z23 z24 z25 z26 z27 z28 z29 z30 z31 z32 z33 z34 z35 z36 z37 z38 z39 z40 w47 L48 _ ⟨j, o, rfl, rfl, rfl, rfl, rfl, rfl, rfl, rfl, rfl, rfl, rfl, rfl, rfl, rfl, rfl, rfl, rfl, rfl, rfl, rfl, rfl, rfl, rfl, rfl, rfl, rfl, rfl, rfl, rfl, rfl, rfl, rfl, rfl, rfl, rfl, rfl, rfl, rfl, rfl, rfl, rfl, rfl, hj, ho, C⟩
  rw [hsz]
  by_cases hjl : j < l.length
  rotate_left
  · rw [if_neg (by simpa using hjl)]
    have hj2 : j = l.length := by omega
    rw [hj2, List.take_length] at ho
    exact fun w9 h9 => Ctr.ret (m' := m) (L := []) o rfl ho (C.hid0 h9)
  rw [if_pos (by simpa using hjl)]
  refine ⟨by omega, l[j], by rw [Int.toNat_natCast]; show l.toArray[j]? = _; simp [hjl], ?_⟩
  have hfo : ∀ o', x.setF o ((l[j].toNat : Nat) : Int) = o' → o' = (l.take (j + 1)).foldl (fun o c => x.setF o (c.toNat : Int)) (Mg.z x.kd) := fun o' h => by
    rw [List.take_succ_eq_append_getElem hjl, List.foldl_append, ← ho]; exact h.symm
  generalize l[j] = ch at hfo
  have e1 : IntKind.wrap .i64 ((j : Int) + 1) = ((j + 1 : Nat) : Int) := by rw [w_i64 (by omega) (by omega)]; omega
  have e2 : Nat.le (((l.length : Int) - ((j + 1 : Nat) : Int)).toNat + 1) ((l.length : Int) - (j : Int)).toNat := Nat.le_of_eq (by omega)
  rw [e1]
  by_cases c103 : ((ch.toNat : Nat) : Int) = 103
  · rw [if_pos (by simpa using c103)]
    intro w81 L82 h81 g81
    exact ⟨rfl, rfl, ⟨j + 1, { o with gr := x.gr }, rfl, rfl, rfl, rfl, rfl, rfl, rfl, rfl, rfl, rfl, rfl, rfl, rfl, rfl, rfl, rfl, rfl, rfl, rfl, rfl, rfl, rfl, rfl, rfl, rfl, rfl, rfl, rfl, rfl, rfl, rfl, rfl, rfl, rfl, rfl, rfl, rfl, rfl, rfl, rfl, rfl, rfl, hjl, hfo _ (sF103 c103), C.hidL h81 g81⟩, e2⟩
  rw [if_neg (by simpa using c103)]
  by_cases c105 : ((ch.toNat : Nat) : Int) = 105
  · rw [if_pos (by simpa using c105)]
    intro w81 L82 h81 g81
    exact ⟨rfl, rfl, ⟨j + 1, { o with id := x.id }, rfl, rfl, rfl, rfl, rfl, rfl, rfl, rfl, rfl, rfl, rfl, rfl, rfl, rfl, rfl, rfl, rfl, rfl, rfl, rfl, rfl, rfl, rfl, rfl, rfl, rfl, rfl, rfl, rfl, rfl, rfl, rfl, rfl, rfl, rfl, rfl, rfl, rfl, rfl, rfl, rfl, rfl, hjl, hfo _ (sF105 c105), C.hidL h81 g81⟩, e2⟩
  rw [if_neg (by simpa using c105)]
  by_cases c102 : ((ch.toNat : Nat) : Int) = 102
  · rw [if_pos (by simpa using c102)]
    intro w81 L82 h81 g81
    exact ⟨rfl, rfl, ⟨j + 1, { o with fl := x.fl }, rfl, rfl, rfl, rfl, rfl, rfl, rfl, rfl, rfl, rfl, rfl, rfl, rfl, rfl, rfl, rfl, rfl, rfl, rfl, rfl, rfl, rfl, rfl, rfl, rfl, rfl, rfl, rfl, rfl, rfl, rfl, rfl, rfl, rfl, rfl, rfl, rfl, rfl, rfl, rfl, rfl, rfl, hjl, hfo _ (sF102 c102), C.hidL h81 g81⟩, e2⟩
  rw [if_neg (by simpa using c102)]
  by_cases c112 : ((ch.toNat : Nat) : Int) = 112
  · rw [if_pos (by simpa using c112)]
    intro w81 L82 h81 g81
    exact ⟨rfl, rfl, ⟨j + 1, { o with pq := x.pq, ps := x.ps }, rfl, rfl, rfl, rfl, rfl, rfl, rfl, rfl, rfl, rfl, rfl, rfl, rfl, rfl, rfl, rfl, rfl, rfl, rfl, rfl, rfl, rfl, rfl, rfl, rfl, rfl, rfl, rfl, rfl, rfl, rfl, rfl, rfl, rfl, rfl, rfl, rfl, rfl, rfl, rfl, rfl, rfl, hjl, hfo _ (sF112 c112), C.hidL h81 g81⟩, e2⟩
  rw [if_neg (by simpa using c112)]
  by_cases c114 : ((ch.toNat : Nat) : Int) = 114
  · rw [if_pos (by simpa using c114)]
    intro w81 L82 h81 g81
    exact ⟨rfl, rfl, ⟨j + 1, { o with rc := x.rc, rv := x.rv }, rfl, rfl, rfl, rfl, rfl, rfl, rfl, rfl, rfl, rfl, rfl, rfl, rfl, rfl, rfl, rfl, rfl, rfl, rfl, rfl, rfl, rfl, rfl, rfl, rfl, rfl, rfl, rfl, rfl, rfl, rfl, rfl, rfl, rfl, rfl, rfl, rfl, rfl, rfl, rfl, rfl, rfl, hjl, hfo _ (sF114 c114), C.hidL h81 g81⟩, e2⟩
  rw [if_neg (by simpa using c114)]
  by_cases c118 : ((ch.toNat : Nat) : Int) = 118
  · rw [if_pos (by simpa using c118)]
    intro w81 L82 h81 g81
    exact ⟨rfl, rfl, ⟨j + 1, { o with vg := x.vg, vn := x.vn, vq := x.vq, vm := x.vm }, rfl, rfl, rfl, rfl, rfl, rfl, rfl, rfl, rfl, rfl, rfl, rfl, rfl, rfl, rfl, rfl, rfl, rfl, rfl, rfl, rfl, rfl, rfl, rfl, rfl, rfl, rfl, rfl, rfl, rfl, rfl, rfl, rfl, rfl, rfl, rfl, rfl, rfl, rfl, rfl, rfl, rfl, hjl, hfo _ (sF118 c118), C.hidL h81 g81⟩, e2⟩
  rw [if_neg (by simpa using c118)]
  by_cases c99 : ((ch.toNat : Nat) : Int) = 99
  · rw [if_pos (by simpa using c99)]
    intro w81 L82 h81 g81
    exact ⟨rfl, rfl, ⟨j + 1, { o with co := x.co }, rfl, rfl, rfl, rfl, rfl, rfl, rfl, rfl, rfl, rfl, rfl, rfl, rfl, rfl, rfl, rfl, rfl, rfl, rfl, rfl, rfl, rfl, rfl, rfl, rfl, rfl, rfl, rfl, rfl, rfl, rfl, rfl, rfl, rfl, rfl, rfl, rfl, rfl, rfl, rfl, rfl, rfl, hjl, hfo _ (sF99 c99), C.hidL h81 g81⟩, e2⟩
  rw [if_neg (by simpa using c99)]
  by_cases c110 : ((ch.toNat : Nat) : Int) = 110
  · rw [if_pos (by simpa using c110)]
    intro w81 L82 h81 g81
    exact ⟨rfl, rfl, ⟨j + 1, { o with nn := x.nn }, rfl, rfl, rfl, rfl, rfl, rfl, rfl, rfl, rfl, rfl, rfl, rfl, rfl, rfl, rfl, rfl, rfl, rfl, rfl, rfl, rfl, rfl, rfl, rfl, rfl, rfl, rfl, rfl, rfl, rfl, rfl, rfl, rfl, rfl, rfl, rfl, rfl, rfl, rfl, rfl, rfl, rfl, hjl, hfo _ (sF110 c110), C.hidL h81 g81⟩, e2⟩
  rw [if_neg (by simpa using c110)]
  by_cases c97 : ((ch.toNat : Nat) : Int) = 97
  · rw [if_pos (by simpa using c97)]
    intro w81 L82 h81 g81
    exact ⟨rfl, rfl, ⟨j + 1, { o with fr := x.fr }, rfl, rfl, rfl, rfl, rfl, rfl, rfl, rfl, rfl, rfl, rfl, rfl, rfl, rfl, rfl, rfl, rfl, rfl, rfl, rfl, rfl, rfl, rfl, rfl, rfl, rfl, rfl, rfl, rfl, rfl, rfl, rfl, rfl, rfl, rfl, rfl, rfl, rfl, rfl, rfl, rfl, rfl, hjl, hfo _ (sF97 c97), C.hidL h81 g81⟩, e2⟩
  rw [if_neg (by simpa using c97)]
  by_cases c107 : ((ch.toNat : Nat) : Int) = 107
  · rw [if_pos (by simpa using c107)]
    intro w81 L82 h81 g81
    exact ⟨rfl, rfl, ⟨j + 1, { o with cm := x.cm }, rfl, rfl, rfl, rfl, rfl, rfl, rfl, rfl, rfl, rfl, rfl, rfl, rfl, rfl, rfl, rfl, rfl, rfl, rfl, rfl, rfl, rfl, rfl, rfl, rfl, rfl, rfl, rfl, rfl, rfl, rfl, rfl, rfl, rfl, rfl, rfl, rfl, rfl, rfl, rfl, rfl, rfl, hjl, hfo _ (sF107 c107), C.hidL h81 g81⟩, e2⟩
  rw [if_neg (by simpa using c107)]
  by_cases c101 : ((ch.toNat : Nat) : Int) = 101
  · rw [if_pos (by simpa using c101)]
    intro w81 L82 h81 g81
    exact ⟨rfl, rfl, ⟨j + 1, { o with eq := x.eq, es := x.es }, rfl, rfl, rfl, rfl, rfl, rfl, rfl, rfl, rfl, rfl, rfl, rfl, rfl, rfl, rfl, rfl, rfl, rfl, rfl, rfl, rfl, rfl, rfl, rfl, rfl, rfl, rfl, rfl, rfl, rfl, rfl, rfl, rfl, rfl, rfl, rfl, rfl, rfl, rfl, rfl, rfl, rfl, hjl, hfo _ (sF101 c101), C.hidL h81 g81⟩, e2⟩
  rw [if_neg (by simpa using c101)]
  by_cases c98 : ((ch.toNat : Nat) : Int) = 98
  · rw [if_pos (by simpa using c98)]
    intro w81 L82 h81 g81
    exact ⟨rfl, rfl, ⟨j + 1, { o with ba := x.ba }, rfl, rfl, rfl, rfl, rfl, rfl, rfl, rfl, rfl, rfl, rfl, rfl, rfl, rfl, rfl, rfl, rfl, rfl, rfl, rfl, rfl, rfl, rfl, rfl, rfl, rfl, rfl, rfl, rfl, rfl, rfl, rfl, rfl, rfl, rfl, rfl, rfl, rfl, rfl, rfl, rfl, rfl, hjl, hfo _ (sF98 c98), C.hidL h81 g81⟩, e2⟩
  rw [if_neg (by simpa using c98)]
  by_cases c104 : ((ch.toNat : Nat) : Int) = 104
  · rw [if_pos (by simpa using c104)]
    intro w81 L82 h81 g81
    exact ⟨rfl, rfl, ⟨j + 1, { o with has := x.has }, rfl, rfl, rfl, rfl, rfl, rfl, rfl, rfl, rfl, rfl, rfl, rfl, rfl, rfl, rfl, rfl, rfl, rfl, rfl, rfl, rfl, rfl, rfl, rfl, rfl, rfl, rfl, rfl, rfl, rfl, rfl, rfl, rfl, rfl, rfl, rfl, rfl, rfl, rfl, rfl, rfl, rfl, hjl, hfo _ (sF104 c104), C.hidL h81 g81⟩, e2⟩
  rw [if_neg (by simpa using c104)]
  by_cases c120 : ((ch.toNat : Nat) : Int) = 120
  · rw [if_pos (by simpa using c120)]
    intro w81 L82 h81 g81
    exact ⟨rfl, rfl, ⟨j + 1, { o with ac := x.ac }, rfl, rfl, rfl, rfl, rfl, rfl, rfl, rfl, rfl, rfl, rfl, rfl, rfl, rfl, rfl, rfl, rfl, rfl, rfl, rfl, rfl, rfl, rfl, rfl, rfl, rfl, rfl, rfl, rfl, rfl, rfl, rfl, rfl, rfl, rfl, rfl, rfl, rfl, rfl, rfl, rfl, rfl, hjl, hfo _ (sF120 c120), C.hidL h81 g81⟩, e2⟩
  rw [if_neg (by simpa using c120)]
  by_cases c109 : ((ch.toNat : Nat) : Int) = 109
  · rw [if_pos (by simpa using c109)]
    intro w81 L82 h81 g81
    exact ⟨rfl, rfl, ⟨j + 1, { o with mq := x.mq, ms := x.ms, tq := x.tq, ts := x.ts }, rfl, rfl, rfl, rfl, rfl, rfl, rfl, rfl, rfl, rfl, rfl, rfl, rfl, rfl, rfl, rfl, rfl, rfl, rfl, rfl, rfl, rfl, rfl, rfl, rfl, rfl, rfl, rfl, rfl, rfl, rfl, rfl, rfl, rfl, rfl, rfl, rfl, rfl, rfl, rfl, rfl, rfl, hjl, hfo _ (sF109 c109), C.hidL h81 g81⟩, e2⟩
  rw [if_neg (by simpa using c109)]
  by_cases c115 : ((ch.toNat : Nat) : Int) = 115
  · rw [if_pos (by simpa using c115)]
    intro w81 L82 h81 g81
    exact ⟨rfl, rfl, ⟨j + 1, { o with pn := x.pn, pl := x.pl }, rfl, rfl, rfl, rfl, rfl, rfl, rfl, rfl, rfl, rfl, rfl, rfl, rfl, rfl, rfl, rfl, rfl, rfl, rfl, rfl, rfl, rfl, rfl, rfl, rfl, rfl, rfl, rfl, rfl, rfl, rfl, rfl, rfl, rfl, rfl, rfl, rfl, rfl, rfl, rfl, rfl, rfl, hjl, hfo _ (sF115 c115), C.hidL h81 g81⟩, e2⟩
  rw [if_neg (by simpa using c115)]
  exact ⟨rfl, rfl, ⟨j + 1, o, rfl, rfl, rfl, rfl, rfl, rfl, rfl, rfl, rfl, rfl, rfl, rfl, rfl, rfl, rfl, rfl, rfl, rfl, rfl, rfl, rfl, rfl, rfl, rfl, rfl, rfl, rfl, rfl, rfl, rfl, rfl, rfl, rfl, rfl, rfl, rfl, rfl, rfl, rfl, rfl, rfl, rfl, hjl, hfo _ (sFo ⟨c103, c105, c102, c112, c114, c118, c99, c110, c97, c107, c101, c98, c104, c120, c109, c115⟩), C⟩, e2⟩
end Go.Proofs
namespace Go.Proofs
open Go X RowKit
theorem only_fold {m : Mem} (x : Mg) (hx : MgM m x) (h : 0 ≤ x.kd ∧ x.kd ≤ 13) : MgM m ((letL x.kd x.has).foldl (fun o c => x.setF o (c.toNat : Int)) (Mg.z x.kd)) ∧ ((letL x.kd x.has).foldl (fun o c => x.setF o (c.toNat : Int)) (Mg.z x.kd)).er = x.er.onlyP := by
  obtain hk | hk | hk | hk | hk | hk | hk | hk | hk | hk | hk | hk | hk | hk : x.kd = 0 ∨ x.kd = 1 ∨ x.kd = 2 ∨ x.kd = 3 ∨ x.kd = 4 ∨ x.kd = 5 ∨ x.kd = 6 ∨ x.kd = 7 ∨ x.kd = 8 ∨ x.kd = 9 ∨ x.kd = 10 ∨ x.kd = 11 ∨ x.kd = 12 ∨ x.kd = 13 := by omega
  all_goals (obtain ⟨kd, gr, co, nn, fr, cm, fl, ba, ac, id, pq, ps, rc, rv, vg, vn, vq, vm, pn, pl, has, mq, ms, eq, es, tq, ts⟩ := x)
  all_goals (replace hk : kd = _ := hk)
  all_goals (subst hk)
  · have e : List.foldl (fun o c => Mg.setF ⟨0, gr, co, nn, fr, cm, fl, ba, ac, id, pq, ps, rc, rv, vg, vn, vq, vm, pn, pl, has, mq, ms, eq, es, tq, ts⟩ o ((c.toNat : Nat) : Int)) (Mg.z 0) (letL 0 has) = Mg.o0 ⟨0, gr, co, nn, fr, cm, fl, ba, ac, id, pq, ps, rc, rv, vg, vn, vq, vm, pn, pl, has, mq, ms, eq, es, tq, ts⟩ := by
      rw [letL, if_neg (by simp), fldS0 rfl]; rfl
    exact ⟨e.symm ▸ oM0 hx, (congrArg Mg.er e).trans (by rw [oP0 rfl]; rfl)⟩
  · have e : List.foldl (fun o c => Mg.setF ⟨1, gr, co, nn, fr, cm, fl, ba, ac, id, pq, ps, rc, rv, vg, vn, vq, vm, pn, pl, has, mq, ms, eq, es, tq, ts⟩ o ((c.toNat : Nat) : Int)) (Mg.z 1) (letL 1 has) = Mg.o1 ⟨1, gr, co, nn, fr, cm, fl, ba, ac, id, pq, ps, rc, rv, vg, vn, vq, vm, pn, pl, has, mq, ms, eq, es, tq, ts⟩ := by
      rw [letL, if_neg (by simp), fldS1 rfl]; rfl
    exact ⟨e.symm ▸ oM1 hx, (congrArg Mg.er e).trans (by rw [oP1 rfl]; rfl)⟩
  · have e : List.foldl (fun o c => Mg.setF ⟨2, gr, co, nn, fr, cm, fl, ba, ac, id, pq, ps, rc, rv, vg, vn, vq, vm, pn, pl, has, mq, ms, eq, es, tq, ts⟩ o ((c.toNat : Nat) : Int)) (Mg.z 2) (letL 2 has) = Mg.o2 ⟨2, gr, co, nn, fr, cm, fl, ba, ac, id, pq, ps, rc, rv, vg, vn, vq, vm, pn, pl, has, mq, ms, eq, es, tq, ts⟩ := by
      rw [letL, if_neg (by simp), fldS2 rfl]; rfl
    exact ⟨e.symm ▸ oM2 hx, (congrArg Mg.er e).trans (by rw [oP2 rfl]; rfl)⟩
  · have e : List.foldl (fun o c => Mg.setF ⟨3, gr, co, nn, fr, cm, fl, ba, ac, id, pq, ps, rc, rv, vg, vn, vq, vm, pn, pl, has, mq, ms, eq, es, tq, ts⟩ o ((c.toNat : Nat) : Int)) (Mg.z 3) (letL 3 has) = Mg.o3 ⟨3, gr, co, nn, fr, cm, fl, ba, ac, id, pq, ps, rc, rv, vg, vn, vq, vm, pn, pl, has, mq, ms, eq, es, tq, ts⟩ := by
      rw [letL, if_neg (by simp), fldS3 rfl]; rfl
    exact ⟨e.symm ▸ oM3 hx, (congrArg Mg.er e).trans (by rw [oP3 rfl]; rfl)⟩
  · have e : List.foldl (fun o c => Mg.setF ⟨4, gr, co, nn, fr, cm, fl, ba, ac, id, pq, ps, rc, rv, vg, vn, vq, vm, pn, pl, has, mq, ms, eq, es, tq, ts⟩ o ((c.toNat : Nat) : Int)) (Mg.z 4) (letL 4 has) = Mg.o4 ⟨4, gr, co, nn, fr, cm, fl, ba, ac, id, pq, ps, rc, rv, vg, vn, vq, vm, pn, pl, has, mq, ms, eq, es, tq, ts⟩ := by
      rw [letL, if_neg (by simp), fldS4 rfl]; rfl
    exact ⟨e.symm ▸ oM4 hx, (congrArg Mg.er e).trans (by rw [oP4 rfl]; rfl)⟩
  · have e : List.foldl (fun o c => Mg.setF ⟨5, gr, co, nn, fr, cm, fl, ba, ac, id, pq, ps, rc, rv, vg, vn, vq, vm, pn, pl, has, mq, ms, eq, es, tq, ts⟩ o ((c.toNat : Nat) : Int)) (Mg.z 5) (letL 5 has) = Mg.o5 ⟨5, gr, co, nn, fr, cm, fl, ba, ac, id, pq, ps, rc, rv, vg, vn, vq, vm, pn, pl, has, mq, ms, eq, es, tq, ts⟩ := by
      rw [letL, if_neg (by simp), fldS5 rfl]; rfl
    exact ⟨e.symm ▸ oM5 hx, (congrArg Mg.er e).trans (by rw [oP5 rfl]; rfl)⟩
  · have e : List.foldl (fun o c => Mg.setF ⟨6, gr, co, nn, fr, cm, fl, ba, ac, id, pq, ps, rc, rv, vg, vn, vq, vm, pn, pl, has, mq, ms, eq, es, tq, ts⟩ o ((c.toNat : Nat) : Int)) (Mg.z 6) (letL 6 has) = Mg.o5 ⟨6, gr, co, nn, fr, cm, fl, ba, ac, id, pq, ps, rc, rv, vg, vn, vq, vm, pn, pl, has, mq, ms, eq, es, tq, ts⟩ := by
      rw [letL, if_neg (by simp), fldS6 rfl]; rfl
    exact ⟨e.symm ▸ oM5 hx, (congrArg Mg.er e).trans (by rw [oP6 rfl]; rfl)⟩
  · have e : List.foldl (fun o c => Mg.setF ⟨7, gr, co, nn, fr, cm, fl, ba, ac, id, pq, ps, rc, rv, vg, vn, vq, vm, pn, pl, has, mq, ms, eq, es, tq, ts⟩ o ((c.toNat : Nat) : Int)) (Mg.z 7) (letL 7 has) = Mg.o5 ⟨7, gr, co, nn, fr, cm, fl, ba, ac, id, pq, ps, rc, rv, vg, vn, vq, vm, pn, pl, has, mq, ms, eq, es, tq, ts⟩ := by
      rw [letL, if_neg (by simp), fldS7 rfl]; rfl
    exact ⟨e.symm ▸ oM5 hx, (congrArg Mg.er e).trans (by rw [oP7 rfl]; rfl)⟩
  · cases has with
    | true =>
      have e : List.foldl (fun o c => Mg.setF ⟨8, gr, co, nn, fr, cm, fl, ba, ac, id, pq, ps, rc, rv, vg, vn, vq, vm, pn, pl, true, mq, ms, eq, es, tq, ts⟩ o ((c.toNat : Nat) : Int)) (Mg.z 8) (letL 8 true) = Mg.o8t ⟨8, gr, co, nn, fr, cm, fl, ba, ac, id, pq, ps, rc, rv, vg, vn, vq, vm, pn, pl, true, mq, ms, eq, es, tq, ts⟩ := by
        rw [letL, if_pos (by simp), fldS8 rfl]; rfl
      exact ⟨e.symm ▸ oM8t hx, (congrArg Mg.er e).trans (by rw [oP8 rfl]; rfl)⟩
    | false =>
      have e : List.foldl (fun o c => Mg.setF ⟨8, gr, co, nn, fr, cm, fl, ba, ac, id, pq, ps, rc, rv, vg, vn, vq, vm, pn, pl, false, mq, ms, eq, es, tq, ts⟩ o ((c.toNat : Nat) : Int)) (Mg.z 8) (letL 8 false) = Mg.o8f ⟨8, gr, co, nn, fr, cm, fl, ba, ac, id, pq, ps, rc, rv, vg, vn, vq, vm, pn, pl, false, mq, ms, eq, es, tq, ts⟩ := by
        rw [letL, if_neg (by simp), fldS8 rfl]; rfl
      exact ⟨e.symm ▸ oM8f hx, (congrArg Mg.er e).trans (by rw [oP8 rfl]; rfl)⟩
  · have e : List.foldl (fun o c => Mg.setF ⟨9, gr, co, nn, fr, cm, fl, ba, ac, id, pq, ps, rc, rv, vg, vn, vq, vm, pn, pl, has, mq, ms, eq, es, tq, ts⟩ o ((c.toNat : Nat) : Int)) (Mg.z 9) (letL 9 has) = Mg.o9 ⟨9, gr, co, nn, fr, cm, fl, ba, ac, id, pq, ps, rc, rv, vg, vn, vq, vm, pn, pl, has, mq, ms, eq, es, tq, ts⟩ := by
      rw [letL, if_neg (by simp), fldS9 rfl]; rfl
    exact ⟨e.symm ▸ oM9 hx, (congrArg Mg.er e).trans (by rw [oP9 rfl]; rfl)⟩
  · have e : List.foldl (fun o c => Mg.setF ⟨10, gr, co, nn, fr, cm, fl, ba, ac, id, pq, ps, rc, rv, vg, vn, vq, vm, pn, pl, has, mq, ms, eq, es, tq, ts⟩ o ((c.toNat : Nat) : Int)) (Mg.z 10) (letL 10 has) = Mg.o10 ⟨10, gr, co, nn, fr, cm, fl, ba, ac, id, pq, ps, rc, rv, vg, vn, vq, vm, pn, pl, has, mq, ms, eq, es, tq, ts⟩ := by
      rw [letL, if_neg (by simp), fldS10 rfl]; rfl
    exact ⟨e.symm ▸ oM10 hx, (congrArg Mg.er e).trans (by rw [oP10 rfl]; rfl)⟩
  · have e : List.foldl (fun o c => Mg.setF ⟨11, gr, co, nn, fr, cm, fl, ba, ac, id, pq, ps, rc, rv, vg, vn, vq, vm, pn, pl, has, mq, ms, eq, es, tq, ts⟩ o ((c.toNat : Nat) : Int)) (Mg.z 11) (letL 11 has) = Mg.o11 ⟨11, gr, co, nn, fr, cm, fl, ba, ac, id, pq, ps, rc, rv, vg, vn, vq, vm, pn, pl, has, mq, ms, eq, es, tq, ts⟩ := by
      rw [letL, if_neg (by simp), fldS11 rfl]; rfl
    exact ⟨e.symm ▸ oM11 hx, (congrArg Mg.er e).trans (by rw [oP11 rfl]; rfl)⟩
  · have e : List.foldl (fun o c => Mg.setF ⟨12, gr, co, nn, fr, cm, fl, ba, ac, id, pq, ps, rc, rv, vg, vn, vq, vm, pn, pl, has, mq, ms, eq, es, tq, ts⟩ o ((c.toNat : Nat) : Int)) (Mg.z 12) (letL 12 has) = Mg.o11 ⟨12, gr, co, nn, fr, cm, fl, ba, ac, id, pq, ps, rc, rv, vg, vn, vq, vm, pn, pl, has, mq, ms, eq, es, tq, ts⟩ := by
      rw [letL, if_neg (by simp), fldS12 rfl]; rfl
    exact ⟨e.symm ▸ oM11 hx, (congrArg Mg.er e).trans (by rw [oP12 rfl]; rfl)⟩
  · have e : List.foldl (fun o c => Mg.setF ⟨13, gr, co, nn, fr, cm, fl, ba, ac, id, pq, ps, rc, rv, vg, vn, vq, vm, pn, pl, has, mq, ms, eq, es, tq, ts⟩ o ((c.toNat : Nat) : Int)) (Mg.z 13) (letL 13 has) = Mg.o11 ⟨13, gr, co, nn, fr, cm, fl, ba, ac, id, pq, ps, rc, rv, vg, vn, vq, vm, pn, pl, has, mq, ms, eq, es, tq, ts⟩ := by
      rw [letL, if_neg (by simp), fldS13 rfl]; rfl
    exact ⟨e.symm ▸ oM11 hx, (congrArg Mg.er e).trans (by rw [oP13 rfl]; rfl)⟩
theorem letL_len (k : Int) (b : Bool) : (letL k b).length ≤ 100 := by
  have := fldS_len k
  unfold letL
  split
  · rw [List.length_append]; simp; omega
  · omega
def Mv.rightR (x : Mv) : Bool := decide (x.kd ≤ 13) && (letL x.kd x.has).all (fun c => x.fldR ((c.toNat : Nat) : Int)) && decide (x = x.onlyP)
theorem c_r7RightR (x : Mg) (hi : MvIn x.er) : Ctr Tryz.prog 30 #[.agg x.row.toArray] (fun m => MgM m x) [] (fun _ : Unit => .bool x.er.rightR) (fun _ _ => True) (fun _ => []) := by
  refine Ctr.mk fun w F m C hx => x_r7Right _ _ _ _ _ _ _ _ _ _ _ _ _ _ _ _ _ _ _ _ _ _ _ _ _ _ _ _ _ _ _ _ _ _ _ _ _ _ _ _ _ w _ ?_
  have hk0 : 0 ≤ x.kd ∧ x.kd < 256 := hi.kd
  by_cases h13 : x.kd > 13
  · rw [if_pos (by simpa using h13)]
    intro w67 h67
    refine Ctr.ret () ?_ trivial (C.hid0 h67)
    have : decide (x.er.kd ≤ 13) = false := decide_eq_false (show ¬ x.kd ≤ 13 by omega)
    rw [Mv.rightR, this]; rfl
  rw [if_neg (by simpa using h13)]
  have h13' : decide (x.er.kd ≤ 13) = true := decide_eq_true (show x.kd ≤ 13 by omega)
  intro w1 L2 h1 g1
  refine (C.hidL h1 g1).gives (c_rLetters x hk0) fun w4 k4 C => ⟨_, rfl, k4, ?_⟩
  have hR : x.er.rightR = ((letL x.kd x.has).all (fun c => x.er.fldR ((c.toNat : Nat) : Int)) && decide (x.er = x.er.onlyP)) := by rw [Mv.rightR, h13']; rfl
  have hof := fun m (hx : MgM m x) => only_fold x hx ⟨hk0.1, by omega⟩
  have hll := letL_len x.kd x.has
  rw [hR]
  generalize letL x.kd x.has = l at C hof hll
  have hsz : (toBA l).size = l.length := by show l.toArray.size = _; simp
  refine ⟨fun n w' L' => ∃ (j : Nat) (m' : Mem), n = j ∧ j ≤ l.length ∧ m.le m' ∧ (l.take j).all (fun c => x.er.fldR ((c.toNat : Nat) : Int)) = true ∧ Ctx F m w w' L' m' [], fun n _ => ((l.length : Int) - n).toNat, ⟨0, m, rfl, Nat.zero_le _, Mem.le_refl _, rfl, C⟩, ?_⟩
  clear C
  rintro n w9 L10 _ ⟨j, m', rfl, hj, hm, hjt, C⟩
  rw [hsz]
  by_cases hjl : j < l.length
  · rw [if_pos (by simpa using hjl)]
    have ht : (l.take (j + 1)).all (fun c => x.er.fldR ((c.toNat : Nat) : Int)) = ((l.take j).all (fun c => x.er.fldR ((c.toNat : Nat) : Int)) && x.er.fldR ((l[j].toNat : Nat) : Int)) := by rw [List.take_succ_eq_append_getElem hjl, List.all_append]; simp
    have hin : l[j] ∈ l := List.getElem_mem hjl
    refine ⟨[], facts_nil _ _, by omega, l[j], by rw [Int.toNat_natCast]; show l.toArray[j]? = _; simp [hjl], fun w62 L63 h62 g62 => ?_⟩
    generalize l[j] = ch at ht hin
    refine (c_rField x ((ch.toNat : Nat) : Int) hi).call (As := []) (C.hidL h62 g62) (hx.mono hm) fun _ m2 w65 hk hm2 _ C => ⟨_, rfl, hk, ?_⟩
    by_cases hf : x.er.fldR ((ch.toNat : Nat) : Int) = true
    · rw [if_neg (by rw [hf]; decide)]
      have e1 : IntKind.wrap .i64 ((j : Int) + 1) = ((j + 1 : Nat) : Int) := by rw [w_i64 (by omega) (by omega)]; omega
      rw [e1]
      exact ⟨rfl, ⟨j + 1, m2, rfl, hjl, hm.le_trans hm2, by rw [ht, hjt, hf]; rfl, C⟩, Nat.le_of_eq (by show ((l.length : Int) - ((j + 1 : Nat) : Int)).toNat + 1 = ((l.length : Int) - (j : Int)).toNat; omega)⟩
    · rw [if_pos (by rw [Bool.eq_false_iff.2 hf]; decide)]
      refine Ctr.ret () ?_ trivial C
      have : l.all (fun c => x.er.fldR ((c.toNat : Nat) : Int)) = false := by rw [Bool.eq_false_iff]; intro h; exact hf (List.all_eq_true.1 h _ hin)
      rw [this]; rfl
  · rw [if_neg (by simpa using hjl)]
    have hj2 : j = l.length := by omega
    rw [hj2, List.take_length] at hjt
    refine ⟨[], facts_nil _ _, fun w12 L13 h12 g12 => ?_⟩
    refine (c_rOnly x l hll).call (As := []) (C.hidL h12 g12) (hx.mono hm) fun y m2 w15 hk hm2 hy C => ⟨_, _, _, _, _, _, _, _, _, _, _, _, _, _, _, _, _, _, _, _, _, _, _, _, _, _, _, _, _, _, _, _, _, _, _, _, _, _, _, _, _, rfl, hk, facts_nil _ _, ?_⟩
    obtain ⟨hy1, hy2⟩ := hof m2 ((hx.mono hm).mono hm2)
    rw [← hy] at hy1 hy2
    refine (c_r7Same x y).call (As := []) C ⟨(hx.mono hm).mono hm2, hy1⟩ fun _ m3 w58 hk hm3 _ C => ⟨_, rfl, hk, facts_nil _ _, Ctr.ret () ?_ trivial C⟩
    rw [hjt, hy2]; rfl
theorem allE_and (l : List Ev) (g : Int) : (allE l g && decide ((l.length : Int) ≤ 400)) = allE l g := by
  rw [allE]
  by_cases h : l.length ≤ 400
  · have : ((l.length : Nat) : Int) ≤ 400 := by omega
    rw [decide_eq_true this, Bool.and_true]
  · rw [decide_eq_false h]; rfl
theorem ge1 (n : Int) : decide (n ≥ 1) = decide (n > 0) := by
  rw [Bool.eq_iff_iff]; simp only [decide_eq_true_eq]; omega
theorem rightR_eq (x : Mv) (hk0 : 0 ≤ x.kd) : x.rightR = x.right := by
  by_cases hE : x = x.onlyP
  rotate_left
  · rw [Mv.rightR, Mv.right, decide_eq_false hE, Bool.and_false, Bool.and_false]
  rw [Mv.rightR, Mv.right, decide_eq_true hE, Bool.and_true, Bool.and_true]
  by_cases h13 : x.kd ≤ 13
  rotate_left
  · rw [decide_eq_false h13, fPo (by omega), Bool.and_false]; rfl
  rw [decide_eq_true h13, Bool.true_and]
  obtain hk | hk | hk | hk | hk | hk | hk | hk | hk | hk | hk | hk | hk | hk : x.kd = 0 ∨ x.kd = 1 ∨ x.kd = 2 ∨ x.kd = 3 ∨ x.kd = 4 ∨ x.kd = 5 ∨ x.kd = 6 ∨ x.kd = 7 ∨ x.kd = 8 ∨ x.kd = 9 ∨ x.kd = 10 ∨ x.kd = 11 ∨ x.kd = 12 ∨ x.kd = 13 := by omega
  · rw [hk, letL, if_neg (fun h => by cases h.1), fldS0 rfl]
    simp only [List.all_cons, List.all_nil, List.cons_append, List.nil_append]
    rw [fR103 (show (((103 : UInt8).toNat : Nat) : Int) = 103 from rfl), fR105 (show (((105 : UInt8).toNat : Nat) : Int) = 105 from rfl), fR102 (show (((102 : UInt8).toNat : Nat) : Int) = 102 from rfl), fR112 (show (((112 : UInt8).toNat : Nat) : Int) = 112 from rfl), fP0 hk]
    rw [Mv.askM, Mv.prt]; simp only [Bool.and_assoc, Bool.and_true] <;> rfl
  · rw [hk, letL, if_neg (fun h => by cases h.1), fldS1 rfl]
    simp only [List.all_cons, List.all_nil, List.cons_append, List.nil_append]
    rw [fR105 (show (((105 : UInt8).toNat : Nat) : Int) = 105 from rfl), fR114 (show (((114 : UInt8).toNat : Nat) : Int) = 114 from rfl), fR118 (show (((118 : UInt8).toNat : Nat) : Int) = 118 from rfl), fP1 hk]
    have z_gr : x.gr = 0 := by have h := congrArg Mv.gr hE; rw [oP1 hk] at h; exact h
    rw [decide_eq_true (show x.gr < 4 by omega)]; simp only [Bool.and_assoc, Bool.and_true, Bool.true_and]
  · rw [hk, letL, if_neg (fun h => by cases h.1), fldS2 rfl]
    simp only [List.all_cons, List.all_nil, List.cons_append, List.nil_append]
    rw [fR105 (show (((105 : UInt8).toNat : Nat) : Int) = 105 from rfl), fRo (x := x) (c := (((99 : UInt8).toNat : Nat) : Int)) (by decide), fP2 hk]
    have z_gr : x.gr = 0 := by have h := congrArg Mv.gr hE; rw [oP2 hk] at h; exact h
    rw [decide_eq_true (show x.gr < 4 by omega)]; simp only [Bool.and_assoc, Bool.and_true, Bool.true_and]
  · rw [hk, letL, if_neg (fun h => by cases h.1), fldS3 rfl]
    simp only [List.all_cons, List.all_nil, List.cons_append, List.nil_append]
    rw [fR103 (show (((103 : UInt8).toNat : Nat) : Int) = 103 from rfl), fR110 (show (((110 : UInt8).toNat : Nat) : Int) = 110 from rfl), fR97 (show (((97 : UInt8).toNat : Nat) : Int) = 97 from rfl), fR107 (show (((107 : UInt8).toNat : Nat) : Int) = 107 from rfl), fR101 (show (((101 : UInt8).toNat : Nat) : Int) = 101 from rfl), fP3 hk]
    rw [show x.eg = x.gr by rw [Mv.eg, if_neg (by omega)]]
    rw [ge1, Bool.and_comm (allE x.es x.gr)]; simp only [Bool.and_assoc, Bool.and_true]
  · rw [hk, letL, if_neg (fun h => by cases h.1), fldS4 rfl]
    simp only [List.all_cons, List.all_nil, List.cons_append, List.nil_append]
    rw [fR103 (show (((103 : UInt8).toNat : Nat) : Int) = 103 from rfl), fR110 (show (((110 : UInt8).toNat : Nat) : Int) = 110 from rfl), fR97 (show (((97 : UInt8).toNat : Nat) : Int) = 97 from rfl), fP4 hk]
    rw [ge1]; simp only [Bool.and_assoc, Bool.and_true]
  · rw [hk, letL, if_neg (fun h => by cases h.1), fldS5 rfl]
    simp only [List.all_cons, List.all_nil, List.cons_append, List.nil_append]
    rw [fR103 (show (((103 : UInt8).toNat : Nat) : Int) = 103 from rfl), fR110 (show (((110 : UInt8).toNat : Nat) : Int) = 110 from rfl), fR98 (show (((98 : UInt8).toNat : Nat) : Int) = 98 from rfl), fP5 hk]
    rw [ge1, ge1]; simp only [Bool.and_assoc, Bool.and_true]
  · rw [hk, letL, if_neg (fun h => by cases h.1), fldS6 rfl]
    simp only [List.all_cons, List.all_nil, List.cons_append, List.nil_append]
    rw [fR103 (show (((103 : UInt8).toNat : Nat) : Int) = 103 from rfl), fR110 (show (((110 : UInt8).toNat : Nat) : Int) = 110 from rfl), fR98 (show (((98 : UInt8).toNat : Nat) : Int) = 98 from rfl), fP6 hk]
    rw [ge1, ge1]; simp only [Bool.and_assoc, Bool.and_true]
  · rw [hk, letL, if_neg (fun h => by cases h.1), fldS7 rfl]
    simp only [List.all_cons, List.all_nil, List.cons_append, List.nil_append]
    rw [fR103 (show (((103 : UInt8).toNat : Nat) : Int) = 103 from rfl), fR110 (show (((110 : UInt8).toNat : Nat) : Int) = 110 from rfl), fR98 (show (((98 : UInt8).toNat : Nat) : Int) = 98 from rfl), fP7 hk]
    rw [ge1, ge1]; simp only [Bool.and_assoc, Bool.and_true]
  · have z_fr : x.fr = 0 := by
      have h := congrArg Mv.fr hE
      rw [oP8 hk] at h
      by_cases hb : x.has = true
      · rw [if_pos hb] at h; exact h
      · rw [if_neg hb] at h; exact h
    have hg : x.eg = x.gr := by rw [Mv.eg, if_neg (by omega)]
    by_cases hb : x.has = true
    · rw [hk, letL, if_pos ⟨rfl, hb⟩, fldS8 rfl]
      simp only [List.all_cons, List.all_nil, List.cons_append, List.nil_append]
      rw [fR103 (show (((103 : UInt8).toNat : Nat) : Int) = 103 from rfl), fR110 (show (((110 : UInt8).toNat : Nat) : Int) = 110 from rfl), fR98 (show (((98 : UInt8).toNat : Nat) : Int) = 98 from rfl), fR101 (show (((101 : UInt8).toNat : Nat) : Int) = 101 from rfl), fRo (x := x) (c := (((104 : UInt8).toNat : Nat) : Int)) (by decide), fR120 (show (((120 : UInt8).toNat : Nat) : Int) = 120 from rfl), fR109 (show (((109 : UInt8).toNat : Nat) : Int) = 109 from rfl), fP8 hk, hg, z_fr, Int.zero_add, allE_and, ge1, ge1, ge1, hb, Mv.val]
      simp only [Bool.and_assoc, Bool.and_true, Bool.true_and, Bool.not_true, Bool.false_or]
    · rw [hk, letL, if_neg (fun h => hb h.2), fldS8 rfl]
      simp only [List.all_cons, List.all_nil, List.cons_append, List.nil_append]
      rw [fR103 (show (((103 : UInt8).toNat : Nat) : Int) = 103 from rfl), fR110 (show (((110 : UInt8).toNat : Nat) : Int) = 110 from rfl), fR98 (show (((98 : UInt8).toNat : Nat) : Int) = 98 from rfl), fR101 (show (((101 : UInt8).toNat : Nat) : Int) = 101 from rfl), fRo (x := x) (c := (((104 : UInt8).toNat : Nat) : Int)) (by decide), fP8 hk, hg, z_fr, Int.zero_add, allE_and, ge1, ge1, Bool.eq_false_iff.2 hb]
      simp only [Bool.and_assoc, Bool.and_true, Bool.true_and, Bool.not_false, Bool.true_or]
  · rw [hk, letL, if_neg (fun h => by cases h.1), fldS9 rfl]
    simp only [List.all_cons, List.all_nil, List.cons_append, List.nil_append]
    rw [fR103 (show (((103 : UInt8).toNat : Nat) : Int) = 103 from rfl), fR110 (show (((110 : UInt8).toNat : Nat) : Int) = 110 from rfl), fR98 (show (((98 : UInt8).toNat : Nat) : Int) = 98 from rfl), fR109 (show (((109 : UInt8).toNat : Nat) : Int) = 109 from rfl), fP9 hk]
    rw [show x.eg = x.gr by rw [Mv.eg, if_neg (by omega)]]
    rw [ge1, ge1, Mv.val]; simp only [Bool.and_assoc, Bool.and_true]
  · rw [hk, letL, if_neg (fun h => by cases h.1), fldS10 rfl]
    simp only [List.all_cons, List.all_nil, List.cons_append, List.nil_append]
    rw [fR118 (show (((118 : UInt8).toNat : Nat) : Int) = 118 from rfl), fR101 (show (((101 : UInt8).toNat : Nat) : Int) = 101 from rfl), fP10 hk]
    rw [show x.eg = x.vg by rw [Mv.eg, if_pos hk]]
    have z_gr : x.gr = 0 := by have h := congrArg Mv.gr hE; rw [oP10 hk] at h; exact h
    have z_fr : x.fr = 0 := by have h := congrArg Mv.fr hE; rw [oP10 hk] at h; exact h
    rw [decide_eq_true (show x.gr < 4 by omega), z_fr, Int.zero_add, allE_and]; simp only [Bool.and_assoc, Bool.and_true, Bool.true_and]
  · rw [hk, letL, if_neg (fun h => by cases h.1), fldS11 rfl]
    simp only [List.all_cons, List.all_nil, List.cons_append, List.nil_append]
    rw [fR103 (show (((103 : UInt8).toNat : Nat) : Int) = 103 from rfl), fR115 (show (((115 : UInt8).toNat : Nat) : Int) = 115 from rfl), fP11 hk]
    simp only [Bool.and_assoc, Bool.and_true]
  · rw [hk, letL, if_neg (fun h => by cases h.1), fldS12 rfl]
    simp only [List.all_cons, List.all_nil, List.cons_append, List.nil_append]
    rw [fR103 (show (((103 : UInt8).toNat : Nat) : Int) = 103 from rfl), fR115 (show (((115 : UInt8).toNat : Nat) : Int) = 115 from rfl), fP12 hk]
    simp only [Bool.and_assoc, Bool.and_true]
  · rw [hk, letL, if_neg (fun h => by cases h.1), fldS13 rfl]
    simp only [List.all_cons, List.all_nil, List.cons_append, List.nil_append]
    rw [fR103 (show (((103 : UInt8).toNat : Nat) : Int) = 103 from rfl), fR115 (show (((115 : UInt8).toNat : Nat) : Int) = 115 from rfl), fP13 hk]
    simp only [Bool.and_assoc, Bool.and_true]
theorem c_r7Right (x : Mg) (hi : MvIn x.er) : Ctr Tryz.prog 30 #[.agg x.row.toArray] (fun m => MgM m x) [] (fun _ : Unit => .bool x.er.right) (fun _ _ => True) (fun _ => []) := by
  have h := c_r7RightR x hi
  rwa [rightR_eq x.er hi.kd.1] at h
end Go.Proofs
